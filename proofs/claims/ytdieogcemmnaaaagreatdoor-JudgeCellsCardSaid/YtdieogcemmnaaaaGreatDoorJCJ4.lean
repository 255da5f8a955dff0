/- Texts of this claim, joined. No condition. -/
import Derived.Test.YtdieogcemmnaaaaGreatDoorJCJ1
import Derived.Test.YtdieogcemmnaaaaGreatDoorJCJ2
import Derived.Test.YtdieogcemmnaaaaGreatDoorJCJ3
import Derived.Laws.IdiomStrings
import Derived.KernelRfl
import Derived.Laws.StructEq
set_option linter.unusedSimpArgs false
set_option linter.unusedVariables false
namespace Go.Proofs.YtdieogcemmnaaaaGreatDoor
open Go.Proofs.YtdieogcemmnaaaaGreatDoor RX
set_option maxRecDepth 100000
theorem splitB_app {x:List UInt8} (h:(47:UInt8) ∉ x) (r:List UInt8):splitB 47 (x ++ 47 :: r)=x :: splitB 47 r:=by
 induction x with
 | nil=>simp [splitB]
 | cons b q ih =>
  simp only [List.mem_cons,not_or] at h
  rw [List.cons_append]
  conv=>lhs; unfold splitB
  rw [if_neg (Ne.symm h.1),ih h.2]
theorem splitB_one {x:List UInt8} (h:(47:UInt8) ∉ x):splitB 47 x=[x]:=splitB_none (List.count_eq_zero.2 h)
theorem splitB_joinN : ∀ (l:List (List UInt8)) (x:List UInt8),(47:UInt8) ∉ x → (∀ y ∈ l,(47:UInt8) ∉ y) → splitB 47 (x ++ joinN l)=x :: l
 | [],x,h,_=>by simp [joinN,splitB_one h]
 | y :: r,x,h,hl=>by
  have:joinN (y :: r)=47 :: (y ++ joinN r):=by simp [joinN]
  rw [this,splitB_app h,splitB_joinN r y (hl y (by simp)) (fun z hz=>hl z (by simp [hz]))]
theorem nameOk_parts {x:List UInt8} (h:nameOk x=true):(47:UInt8) ∉ x ∧ x ≠ []:=by
 unfold nameOk at h
 simp only [Bool.and_eq_true,decide_eq_true_eq] at h
 refine ⟨h.1.2,fun e => ?_⟩
 subst e; simp at h
theorem splitP_join {l:List (List UInt8)} (h : ∀ x ∈ l,nameOk x=true) (h8:l.length ≤ 8):splitP (joinP l)=some l:=by
 cases l with
 | nil=>rfl
 | cons x r =>
  have e:joinP (x :: r)=47 :: (x ++ joinN r):=by simp [joinP,joinN]
  have hx:=nameOk_parts (h x (by simp))
  rw [e]
  unfold splitP
  rw [if_neg (by
   intro q
   injection q with _ q
   exact hx.2 (List.append_eq_nil_iff.1 q).1)]
  simp only [if_true]
  rw [splitB_joinN r x hx.1 (fun y hy=>(nameOk_parts (h y (by simp [hy]))).1)]
  rw [if_pos ⟨h8,by rw [List.all_eq_true]; exact h⟩]
theorem parentS_some {s ab nm:Nm} (h:parentS s=some (ab,nm)) : ∃ l,splitP s=some (l ++ [nm]) ∧ splitP ab=some l:=by
 unfold parentS at h
 split at h
 ·rename_i x r hs
  obtain ⟨h8,hok⟩:=splitP_len hs
  simp only [Option.some.injEq,Prod.mk.injEq] at h
  refine ⟨(x :: r).dropLast,?_,?_⟩
  ·rw [hs,← h.2,List.dropLast_concat_getLast]
  ·rw [← h.1]
   exact splitP_join (fun y hy=>hok y (List.dropLast_subset _ hy)) (by rw [List.length_dropLast]; omega)
 ·cases h
theorem walk_cons (T:List Nd) (a:Nat) (nm:Nm) (r:List Nm):walkS T a (nm :: r)=match nodeAt T a with
  | none=>(0,21)
  | some n=>if n.kind ≠ 1 then (0,23) else match lk n.ents nm with
   | none=>(0,21)
   | some k=>walkS T k r:=rfl
theorem walkS_app {T:List Nd} : ∀ (l m:List Nm) (a:Nat),walkS T a (l ++ m)=if (walkS T a l).2=0 then walkS T (walkS T a l).1 m else walkS T a l
 | [],m,a=>by simp [walkS]
 | nm :: r,m,a=>by
  rw [List.cons_append,walk_cons,walk_cons T a nm r]
  cases nodeAt T a with
  | none=>simp
  | some n =>
   simp only
   split
   ·simp
   ·cases lk n.ents nm with
    | none=>simp
    | some k=>exact walkS_app r m k
theorem findS_split {T:List Nd} {s:Nm} {l:List Nm} (h:splitP s=some l):findS T s=walkS T 0 l:=by unfold findS; rw [h]
theorem findS_down {T:List Nd} {s ab nm:Nm} (h:parentS s=some (ab,nm)):findS T s=if (findS T ab).2=0 then walkS T (findS T ab).1 [nm] else findS T ab:=by
 obtain ⟨l,h1,h2⟩:=parentS_some h
 rw [findS_split h1,findS_split h2,walkS_app]
theorem walk_one {T:List Nd} {a k:Nat} {nm:Nm} (h:walkS T a [nm]=(k,0)) : ∃ n,nodeAt T a=some n ∧ n.kind=1 ∧ lk n.ents nm=some k:=by
 unfold walkS at h
 split at h
 ·simp at h
 ·rename_i n hn
  split at h
  ·simp at h
  ·rename_i hk
   split at h
   ·simp at h
   ·rename_i j hj
    simp only [walkS,Prod.mk.injEq,and_true] at h
    subst h
    exact ⟨n,hn,by simpa using hk,hj⟩
theorem entry_at {T:List Nd} {s ab nm:Nm} (h:parentS s=some (ab,nm)) (h0:(findS T s).2=0):(findS T ab).2=0 ∧ ∃ n,nodeAt T (findS T ab).1=some n ∧ n.kind=1 ∧ lk n.ents nm=some (findS T s).1:=by
 have e:=findS_down (T:=T) h
 by_cases hc:(findS T ab).2=0
 ·rw [if_pos hc] at e
  refine ⟨hc,walk_one (k:=(findS T s).1) ?_⟩
  rw [← e,← h0]
 ·rw [if_neg hc] at e
  rw [e] at h0; exact absurd h0 hc
def setP (T:List Nd) (k:Nat) (f:Nd → Nd):List Nd:=T.map fun n=>if n.num=k then f n else n
def delP (T:List Nd) (k:Nat):List Nd:=T.filter fun n=>decide (n.num ≠ k)
def insP (y:Nd):List Nd → List Nd
 | []=>[y]
 | z :: r=>if z.num < y.num then z :: insP y r else y :: z :: r
def fE (g:List (Nm × Nat) → List (Nm × Nat)) (n:Nd):Nd:={ n with ents:=g n.ents }
def fL (d:Int) (n:Nd):Nd:={ n with links:=n.links + d }
def fD (g:List UInt8 → List UInt8) (n:Nd):Nd:={ n with data:=g n.data }
theorem nodup_of {l:List Nat} (h:l.Pairwise (· < ·)):l.Nodup:=h.imp fun h=>by omega
theorem setP_nums {T:List Nd} {k:Nat} {f:Nd → Nd} (hf : ∀ n,(f n).num=n.num):(setP T k f).map (·.num)=T.map (·.num):=by
 unfold setP
 rw [List.map_map]
 refine List.map_congr_left fun n _ => ?_
 simp only [Function.comp]
 split
 ·exact hf n
 ·rfl
theorem nodeAt_set {T:List Nd} {k:Nat} {f:Nd → Nd} (hf : ∀ n,(f n).num=n.num) (j:Nat):nodeAt (setP T k f) j=if j=k then (nodeAt T k).map f else nodeAt T j:=by
 unfold nodeAt setP
 rw [List.find?_map]
 have e:((fun n:Nd=>decide (n.num=j)) ∘ fun n:Nd=>if n.num=k then f n else n)=fun n:Nd=>decide (n.num=j):=by
  funext n
  simp only [Function.comp]
  split
  ·rw [hf]
  ·rfl
 rw [e]
 cases hq:T.find? fun n=>decide (n.num=j) with
 | none => 
  split
  ·rename_i h; subst h; rw [hq]; rfl
  ·rfl
 | some n =>
  have hn:n.num=j:=by simpa using List.find?_some hq
  split
  ·rename_i h; subst h; rw [hq]; simp [hn]
  ·rename_i h; simp [hn,h]
theorem nodeAt_del {T:List Nd} {k:Nat} (j:Nat):nodeAt (delP T k) j=if j=k then none else nodeAt T j:=by
 induction T with
 | nil=>simp [delP,nodeAt]
 | cons z r ih =>
  unfold delP at ih ⊢
  rw [List.filter_cons]
  unfold nodeAt at ih ⊢
  by_cases h:z.num=k
  ·simp only [ne_eq,h,not_true_eq_false,decide_false,Bool.false_eq_true,if_false,List.find?_cons]
   simp only [ne_eq] at ih
   rw [ih]
   by_cases e:j=k
   ·simp [e]
   ·simp [e,Ne.symm e]
  ·simp only [ne_eq,h,not_false_eq_true,decide_true,if_true,List.find?_cons]
   by_cases e:z.num=j
   ·have : ¬ j=k:=by omega
    simp [e,this]
   ·simp only [e,decide_false]
    simpa using ih
theorem nodeAt_ins {y:Nd} (j:Nat) : ∀ T:List Nd,nodeAt (insP y T) j=if j=y.num then some y else nodeAt T j
 | []=>by
  unfold insP nodeAt
  by_cases h:j=y.num
  ·subst h; simp
  ·simp [h,Ne.symm h]
 | z :: r=>by
  have ih:=nodeAt_ins (y:=y) j r
  unfold insP
  split
  ·rename_i h
   unfold nodeAt at ih ⊢
   rw [List.find?_cons,List.find?_cons]
   by_cases e:z.num=j
   ·have : ¬ j=y.num:=by omega
    simp [e,this]
   ·simp only [e,decide_false]
    exact ih
  ·unfold nodeAt
   rw [List.find?_cons]
   by_cases e:j=y.num
   ·subst e; simp
   ·simp [e,Ne.symm e]
theorem insP_mem {y n:Nd} : ∀ {T:List Nd},n ∈ insP y T ↔ n=y ∨ n ∈ T
 | []=>by simp [insP]
 | z :: r=>by
  unfold insP
  split
  ·rw [List.mem_cons,insP_mem,List.mem_cons]
   constructor
   ·rintro (h | h | h) <;> simp [h]
   ·rintro (h | h | h) <;> simp [h]
  ·simp
theorem insP_sorted {y:Nd} : ∀ {T:List Nd},(T.map (·.num)).Pairwise (· < ·) → (∀ n ∈ T,n.num ≠ y.num) → ((insP y T).map (·.num)).Pairwise (· < ·)
 | [],_,_=>by simp [insP]
 | z :: r,h,hn=>by
  rw [List.map_cons,List.pairwise_cons] at h
  unfold insP
  split
  ·rename_i hl
   rw [List.map_cons,List.pairwise_cons]
   refine ⟨fun a ha => ?_,insP_sorted h.2 fun n hm=>hn n (by simp [hm])⟩
   obtain ⟨n,hm,rfl⟩:=List.mem_map.1 ha
   rcases insP_mem.1 hm with rfl | hm
   ·exact hl
   ·exact h.1 _ (List.mem_map.2 ⟨n,hm,rfl⟩)
  ·rename_i hl
   have:=hn z (by simp)
   rw [List.map_cons,List.pairwise_cons]
   refine ⟨fun a ha => ?_,by rw [List.map_cons,List.pairwise_cons]; exact h⟩
   rw [List.map_cons,List.mem_cons] at ha
   rcases ha with rfl | ha
   ·omega
   ·have:=h.1 a ha; omega
theorem delP_sorted {T:List Nd} {k:Nat} (h:(T.map (·.num)).Pairwise (· < ·)):((delP T k).map (·.num)).Pairwise (· < ·):=h.sublist (List.filter_sublist.map _)
theorem mem_nodeAt {T:List Nd} (h:(T.map (·.num)).Nodup) {n:Nd} (hn:n ∈ T):nodeAt T n.num=some n:=by
 have h1:(nodeAt T n.num).isSome=true:=by unfold nodeAt; rw [List.find?_isSome]; exact ⟨n,hn,by simp⟩
 obtain ⟨m,hm⟩:=Option.isSome_iff_exists.1 h1
 obtain ⟨h2,h3⟩:=nodeAt_mem hm
 rw [hm,map_inj (fun n:Nd=>n.num) h h2 hn h3]
theorem refs_cons (n:Nd) (r:List Nd) (k:Nat):refs (n :: r) k=cntE n.ents k + refs r k:=by simp [refs]
theorem setP_none {T:List Nd} {a:Nat} {f:Nd → Nd} (h : ∀ n ∈ T,n.num ≠ a):setP T a f=T:=by
 unfold setP
 conv=>rhs; rw [← List.map_id T]
 refine List.map_congr_left fun n hn => ?_
 rw [if_neg (h n hn)]; rfl
theorem delP_none {T:List Nd} {a:Nat} (h : ∀ n ∈ T,n.num ≠ a):delP T a=T:=by
 unfold delP
 rw [List.filter_eq_self]
 intro n hn
 simpa using h n hn
theorem refs_set {f:Nd → Nd} {a:Nat} {x:Nd} (k:Nat) : ∀ {T:List Nd},(T.map (·.num)).Nodup → nodeAt T a=some x → refs (setP T a f) k + cntE x.ents k=refs T k + cntE (f x).ents k
 | [],_,h=>by cases h
 | n :: r,hn,h=>by
  rw [List.map_cons,List.nodup_cons] at hn
  have hr:setP (n :: r) a f=(if n.num=a then f n else n) :: setP r a f:=rfl
  unfold nodeAt at h
  rw [List.find?_cons] at h
  rw [hr,refs_cons,refs_cons]
  by_cases e:n.num=a
  ·simp only [e,decide_true,Option.some.injEq] at h
   subst h
   rw [if_pos e,setP_none fun m hm q=>hn.1 (List.mem_map.2 ⟨m,hm,q.trans e.symm⟩)]
   omega
  ·simp only [e,decide_false] at h
   rw [if_neg e]
   have:=refs_set (f:=f) k hn.2 h
   omega
theorem refs_del {a:Nat} {x:Nd} (k:Nat) : ∀ {T:List Nd},(T.map (·.num)).Nodup → nodeAt T a=some x → refs (delP T a) k + cntE x.ents k=refs T k
 | [],_,h=>by cases h
 | n :: r,hn,h=>by
  rw [List.map_cons,List.nodup_cons] at hn
  have hr:delP (n :: r) a=if n.num=a then delP r a else n :: delP r a:=by
   unfold delP
   rw [List.filter_cons]
   by_cases e:n.num=a <;> simp [e]
  unfold nodeAt at h
  rw [List.find?_cons] at h
  rw [hr,refs_cons]
  by_cases e:n.num=a
  ·simp only [e,decide_true,Option.some.injEq] at h
   subst h
   rw [if_pos e,delP_none fun m hm q=>hn.1 (List.mem_map.2 ⟨m,hm,q.trans e.symm⟩)]
   omega
  ·simp only [e,decide_false] at h
   rw [if_neg e,refs_cons]
   have:=refs_del k hn.2 h
   omega
theorem refs_ins (y:Nd) (k:Nat) : ∀ T:List Nd,refs (insP y T) k=refs T k + cntE y.ents k
 | []=>by simp [insP,refs]
 | z :: r=>by
  unfold insP
  split
  ·rw [refs_cons,refs_cons,refs_ins y k r]; omega
  ·rw [refs_cons,refs_cons]; omega
theorem cntE_put (nm:Nm) (j k:Nat) : ∀ l,cntE (putE nm j l) k=cntE l k + if j=k then 1 else 0
 | []=>by simp [putE,cntE,List.countP_cons]
 | y :: r=>by
  have ih:=cntE_put nm j k r
  unfold putE
  unfold cntE at ih ⊢
  split
  ·rw [List.countP_cons,List.countP_cons,ih]; omega
  ·rw [List.countP_cons,List.countP_cons]; simp
theorem cntE_drop {nm:Nm} {j:Nat} (k:Nat) : ∀ {l:List (Nm × Nat)},(l.map (·.1)).Nodup → lk l nm=some j → cntE (dropE nm l) k + (if j=k then 1 else 0)=cntE l k
 | [],_,h=>by cases h
 | y :: r,hn,h=>by
  rw [List.map_cons,List.nodup_cons] at hn
  unfold lk at h
  unfold dropE
  rw [List.filter_cons]
  by_cases e:nm=y.1
  ·rw [if_pos e] at h
   cases h
   have:(r.filter fun z=>decide (z.1 ≠ nm))=r:=by
    rw [List.filter_eq_self]
    intro z hz
    simp only [ne_eq,decide_not,Bool.not_eq_eq_eq_not,Bool.not_true,decide_eq_false_iff_not]
    intro q
    exact hn.1 (List.mem_map.2 ⟨z,hz,q.trans e⟩)
   rw [if_neg (by simp [e]),this]
   unfold cntE
   rw [List.countP_cons]
   simp
  ·rw [if_neg e] at h
   have ih:=cntE_drop k hn.2 h
   unfold cntE dropE at ih
   rw [if_pos (by simpa using Ne.symm e)]
   unfold cntE
   rw [List.countP_cons,List.countP_cons]
   omega
theorem nodupE {l:List (Nm × Nat)} (h:(l.map (·.1)).Pairwise (· < ·)):(l.map (·.1)).Nodup:=h.imp fun {a b} h e=>by subst e; exact List.lt_irrefl _ h
theorem putE_mem {nm:Nm} {k:Nat} {e:Nm × Nat} : ∀ {l},e ∈ putE nm k l ↔ e=(nm,k) ∨ e ∈ l
 | []=>by simp [putE]
 | z :: r=>by
  unfold putE
  split
  ·rw [List.mem_cons,putE_mem,List.mem_cons]
   constructor
   ·rintro (h | h | h) <;> simp [h]
   ·rintro (h | h | h) <;> simp [h]
  ·simp
theorem putE_len (nm:Nm) (k:Nat) : ∀ l,(putE nm k l).length=l.length + 1
 | []=>rfl
 | z :: r=>by
  unfold putE
  split
  ·simp [putE_len nm k r]
  ·rfl
theorem nm_lt {a b:Nm} (h : ¬ a < b) (hn:a ≠ b):b < a:=by
 exact Classical.byContradiction fun h2=>hn (List.le_antisymm (List.not_lt.1 h2) (List.not_lt.1 h))
theorem putE_sorted {nm:Nm} {k:Nat} : ∀ {l:List (Nm × Nat)},(l.map (·.1)).Pairwise (· < ·) → lk l nm=none → ((putE nm k l).map (·.1)).Pairwise (· < ·)
 | [],_,_=>by simp [putE]
 | z :: r,h,hn=>by
  rw [List.map_cons,List.pairwise_cons] at h
  unfold lk at hn
  split at hn
  ·cases hn
  ·rename_i hne
   unfold putE
   split
   ·rename_i hl
    rw [List.map_cons,List.pairwise_cons]
    refine ⟨fun a ha => ?_,putE_sorted h.2 hn⟩
    obtain ⟨e,he,rfl⟩:=List.mem_map.1 ha
    rcases putE_mem.1 he with rfl | he
    ·exact hl
    ·exact h.1 _ (List.mem_map.2 ⟨e,he,rfl⟩)
   ·rename_i hl
    have hz:=nm_lt hl (Ne.symm hne)
    rw [List.map_cons,List.pairwise_cons]
    refine ⟨fun a ha => ?_,by rw [List.map_cons,List.pairwise_cons]; exact h⟩
    rw [List.map_cons,List.mem_cons] at ha
    rcases ha with rfl | ha
    ·exact hz
    ·exact List.lt_trans hz (h.1 a ha)
theorem dropE_sorted {nm:Nm} {l:List (Nm × Nat)} (h:(l.map (·.1)).Pairwise (· < ·)):((dropE nm l).map (·.1)).Pairwise (· < ·):=h.sublist (List.filter_sublist.map _)
end Go.Proofs.YtdieogcemmnaaaaGreatDoor

namespace Go.Proofs.YtdieogcemmnaaaaGreatDoor
open Go.Proofs.YtdieogcemmnaaaaGreatDoor RX
set_option maxRecDepth 100000
theorem fE_num (g:List (Nm × Nat) → List (Nm × Nat)) : ∀ n,(fE g n).num=n.num:=fun _=>rfl
theorem fL_num (d:Int) : ∀ n,(fL d n).num=n.num:=fun _=>rfl
theorem fD_num (g:List UInt8 → List UInt8) : ∀ n,(fD g n).num=n.num:=fun _=>rfl
def newNd (k:Nat) (kind:Int):Nd:=⟨k,if kind=1 then 1 else 2,1,[],[]⟩
def freeS (T:List Nd):Nat:=((List.range 64).find? fun k=>(nodeAt T k).isNone).getD 0
def makeS (T:List Nd) (kind:Int) (path:Nm):List Nd × Int :=
 if (placeS T path).2.2 ≠ 0 then (T,(placeS T path).2.2) else if 64 ≤ T.length then (T,27) else
  (setP (insP (newNd (freeS T) kind) T) (placeS T path).1 (fE (putE (placeS T path).2.1 (freeS T))),0)
def rmdirS (T:List Nd) (path:Nm):List Nd × Int :=
 if (entryS T path).2.2.2 ≠ 0 then (T,(entryS T path).2.2.2) else match nodeAt T (entryS T path).2.2.1 with
  | none=>(T,1)
  | some n=>if n.kind ≠ 1 then (T,23) else if n.ents ≠ [] then (T,25) else (delP (setP T (entryS T path).1 (fE (dropE (entryS T path).2.1))) (entryS T path).2.2.1,0)
def unlinkS (T:List Nd) (path:Nm):List Nd × Int :=
 if (entryS T path).2.2.2 ≠ 0 then (T,(entryS T path).2.2.2) else match nodeAt T (entryS T path).2.2.1 with
  | none=>(T,1)
  | some n=>if n.kind=1 then (T,24) else if n.links=1
   then (delP (setP (setP T (entryS T path).1 (fE (dropE (entryS T path).2.1))) (entryS T path).2.2.1 (fL (-1))) (entryS T path).2.2.1,0)
   else (setP (setP T (entryS T path).1 (fE (dropE (entryS T path).2.1))) (entryS T path).2.2.1 (fL (-1)),0)
def linkS (T:List Nd) (path other:Nm):List Nd × Int :=
 if (fileS T path).2 ≠ 0 then (T,(fileS T path).2) else if (placeS T other).2.2 ≠ 0 then (T,(placeS T other).2.2) else
  (setP (setP T (placeS T other).1 (fE (putE (placeS T other).2.1 (fileS T path).1))) (fileS T path).1 (fL 1),0)
def renameS (T:List Nd) (path other:Nm):List Nd × Int :=
 if (entryS T path).2.2.2 ≠ 0 then (T,(entryS T path).2.2.2) else if other=path then (T,0) else if insideP other path=true then (T,26) else
  if (placeS T other).2.2 ≠ 0 then (T,(placeS T other).2.2) else
  (setP (setP T (entryS T path).1 (fE (dropE (entryS T path).2.1))) (placeS T other).1 (fE (putE (placeS T other).2.1 (entryS T path).2.2.1)),0)
def wrote (off:Nat) (d l:List UInt8):List UInt8:=(sizeD l (max l.length (off + d.length))).take off ++ d ++ (sizeD l (max l.length (off + d.length))).drop (off + d.length)
def writeS (T:List Nd) (path:Nm) (off:Int) (d:List UInt8):List Nd × Int :=
 if (fileS T path).2 ≠ 0 then (T,(fileS T path).2) else if off < 0 ∨ 256 < d.length then (T,1) else if 512 < off + d.length then (T,27) else if d=[] then (T,0) else
  (setP T (fileS T path).1 (fD (wrote off.toNat d)),0)
def cutS (T:List Nd) (path:Nm) (n:Int):List Nd × Int :=
 if (fileS T path).2 ≠ 0 then (T,(fileS T path).2) else if n < 0 then (T,1) else if 512 < n then (T,27) else
  (setP T (fileS T path).1 (fD fun l=>sizeD l n.toNat),0)
theorem place_at {T:List Nd} {s:Nm} (h:(placeS T s).2.2=0) : ∃ x,nodeAt T (placeS T s).1=some x ∧ x.kind=1 ∧ lk x.ents (placeS T s).2.1=none ∧ nameOk (placeS T s).2.1=true:=by
 unfold placeS at h ⊢
 cases hs:parentS s with
 | none=>rw [hs] at h; simp at h
 | some q =>
  obtain ⟨ab,nm⟩:=q
  rw [hs] at h
  simp only at h ⊢
  by_cases hc:(findS T ab).2 ≠ 0
  ·rw [if_pos hc] at h; exact absurd h hc
  ·rw [if_neg hc] at h ⊢
   cases hx:nodeAt T (findS T ab).1 with
   | none=>rw [hx] at h; simp at h
   | some x =>
    rw [hx] at h
    simp only at h ⊢
    by_cases hk:x.kind ≠ 1
    ·rw [if_pos hk] at h; simp at h
    ·rw [if_neg hk] at h ⊢
     by_cases hl:(lk x.ents nm).isSome=true
     ·rw [if_pos hl] at h; simp at h
     ·rw [if_neg hl]
      refine ⟨x,hx,by simpa using hk,by simpa using hl,?_⟩
      obtain ⟨l,h1,_⟩:=parentS_some hs
      exact (splitP_len h1).2 nm (by simp)
theorem entry_ok' {T:List Nd} {s:Nm} (h:(entryS T s).2.2.2=0) : ∃ x,nodeAt T (entryS T s).1=some x ∧ x.kind=1 ∧ lk x.ents (entryS T s).2.1=some (entryS T s).2.2.1 ∧ ∃ ab,parentS s=some (ab,(entryS T s).2.1) ∧ (findS T ab).1=(entryS T s).1 ∧ (findS T ab).2=0 ∧ (findS T s).1=(entryS T s).2.2.1 ∧ (findS T s).2=0:=by
 unfold entryS at h ⊢
 cases hs:parentS s with
 | none=>rw [hs] at h; simp at h
 | some q =>
  obtain ⟨ab,nm⟩:=q
  rw [hs] at h
  simp only at h ⊢
  by_cases hc:(findS T s).2 ≠ 0
  ·rw [if_pos hc] at h; exact absurd h hc
  ·have hc':(findS T s).2=0:=by simpa using hc
   obtain ⟨h1,n,h2,h3,h4⟩:=entry_at hs hc'
   rw [if_neg hc,if_neg (by simp [h1])]
   exact ⟨n,h2,h3,h4,ab,rfl,rfl,h1,rfl,hc'⟩
theorem file_at {B:Nat} {T:List Nd} (wf:TWf B T) {s:Nm} (h:(fileS T s).2=0) : ∃ x,nodeAt T (fileS T s).1=some x ∧ x.kind=2 ∧ (fileS T s).1=(findS T s).1 ∧ (findS T s).2=0:=by
 unfold fileS at h ⊢
 by_cases hc:(findS T s).2 ≠ 0
 ·rw [if_pos hc] at h; exact absurd h hc
 ·rw [if_neg hc] at h ⊢
  cases hx:nodeAt T (findS T s).1 with
  | none=>rw [hx] at h; simp at h
  | some x =>
   rw [hx] at h
   simp only at h ⊢
   by_cases hk:x.kind=1
   ·rw [if_pos hk] at h; simp at h
   ·rw [if_neg hk]
    refine ⟨x,hx,?_,rfl,by simpa using hc⟩
    rcases (wf.good x (nodeAt_mem hx).1).kind with ⟨h1,_⟩ | ⟨h1,_⟩
    ·exact absurd h1 hk
    ·exact h1
theorem GoodN.le {B B':Nat} {n:Nd} (h:GoodN B n) (hb:B ≤ B'):GoodN B' n:={ h with lfew:=by have:=h.lfew; omega,efew:=by have:=h.efew; omega }
theorem TWf.le {B B':Nat} {T:List Nd} (h:TWf B T) (hb:B ≤ B'):TWf B' T:={ h with good:=fun n hn=>(h.good n hn).le hb }
theorem TWf.at' {B:Nat} {T:List Nd} (h:TWf B T) {k:Nat} {n:Nd} (hn:nodeAt T k=some n):GoodN B n ∧ n.num=k ∧ n ∈ T:=⟨h.good n (nodeAt_mem hn).1,(nodeAt_mem hn).2,(nodeAt_mem hn).1⟩
theorem TWf.mk' {B:Nat} {T:List Nd} (sorted:(T.map (·.num)).Pairwise (· < ·)) (root : ∃ r,nodeAt T 0=some r ∧ r.kind=1) (good : ∀ k n,nodeAt T k=some n → GoodN B n)
  (tgt : ∀ k n,nodeAt T k=some n → ∀ e ∈ n.ents,(nodeAt T e.2).isSome=true) (cnt : ∀ k n,nodeAt T k=some n → k ≠ 0 → (refs T k:Int)=n.links):TWf B T where
 sorted:=sorted
 root:=root
 good n hn:=good n.num n (mem_nodeAt (nodup_of sorted) hn)
 tgt n hn:=tgt n.num n (mem_nodeAt (nodup_of sorted) hn)
 cnt n hn:=cnt n.num n (mem_nodeAt (nodup_of sorted) hn)
theorem refs_zero {T:List Nd} {k:Nat} (h : ∀ n ∈ T,∀ e ∈ n.ents,e.2 ≠ k):refs T k=0:=by
 unfold refs
 induction T with
 | nil=>rfl
 | cons n r ih =>
  rw [List.map_cons,List.sum_cons,ih fun m hm=>h m (by simp [hm])]
  have:cntE n.ents k=0:=by unfold cntE; rw [List.countP_eq_zero]; intro e he; simpa using h n (by simp) e he
  omega
theorem refs_pos {T:List Nd} {k:Nat} {n:Nd} {e:Nm × Nat} (hn:n ∈ T) (he:e ∈ n.ents) (hk:e.2=k):0 < refs T k:=by
 unfold refs
 induction T with
 | nil=>cases hn
 | cons m r ih =>
  rw [List.map_cons,List.sum_cons]
  rcases List.mem_cons.1 hn with rfl | hn
  ·have:0 < cntE n.ents k:=by unfold cntE; rw [List.countP_pos_iff]; exact ⟨e,he,by simpa using hk⟩
   omega
  ·have:=ih hn; omega
theorem free_spec {T:List Nd} (hs:(T.map (·.num)).Pairwise (· < ·)) (hl:T.length < 64):nodeAt T (freeS T)=none ∧ freeS T < 64 ∧ ∀ j < freeS T,(nodeAt T j).isSome=true:=by
 have h:((List.range 64).find? fun k=>(nodeAt T k).isNone).isSome=true:=by
  rw [List.find?_isSome]
  refine Classical.byContradiction fun hno => ?_
  have hall : ∀ k < 64,(nodeAt T k).isSome=true:=fun k hk=>by
   cases hq:nodeAt T k with
   | none=>exact absurd ⟨k,List.mem_range.2 hk,by rw [hq]; rfl⟩ hno
   | some _=>rfl
  have hp:(((T.map (·.num)).filter fun k=>decide (k < 64))).Perm (List.range 64):=by
   refine (List.perm_ext_iff_of_nodup ((nodup_of hs).sublist List.filter_sublist) List.nodup_range).2 fun k => ?_
   rw [List.mem_filter,List.mem_range]
   constructor
   ·intro h; simpa using h.2
   ·intro hk
    obtain ⟨n,hn⟩:=Option.isSome_iff_exists.1 (hall k hk)
    obtain ⟨h1,h2⟩:=nodeAt_mem hn
    exact ⟨List.mem_map.2 ⟨n,h1,h2⟩,by simpa using hk⟩
  have h1:=hp.length_eq
  have h2:=List.length_filter_le (fun k=>decide (k < 64)) (T.map (·.num))
  rw [List.length_range] at h1
  rw [List.length_map] at h2
  omega
 obtain ⟨k,hk⟩:=Option.isSome_iff_exists.1 h
 have e:freeS T=k:=by unfold freeS; rw [hk]; rfl
 rw [e]
 have h1:=List.find?_some hk
 have h2:=List.mem_range.1 (List.mem_of_find?_eq_some hk)
 refine ⟨by simpa using h1,h2,fun j hj => ?_⟩
 obtain ⟨_,pre,post,h3,h4⟩:=List.find?_eq_some_iff_append.1 hk
 have:j ∈ pre:=by
  have hj1:j ∈ List.range 64:=List.mem_range.2 (by omega)
  have hp:(pre ++ k :: post).Pairwise (· < ·):=by rw [← h3]; exact List.pairwise_lt_range
  rw [h3,List.mem_append] at hj1
  rcases hj1 with h | h
  ·exact h
  ·rw [List.pairwise_append] at hp
   rcases List.mem_cons.1 h with rfl | h
   ·omega
   ·have:=(List.pairwise_cons.1 hp.2.1).1 j h; omega
 have:=h4 j this
 cases hq:nodeAt T j with
 | none=>rw [hq] at this; simp at this
 | some _=>rfl
theorem GoodN.put {B:Nat} {n:Nd} (h:GoodN B n) (hk:n.kind=1) {nm:Nm} {k:Nat} (hn:lk n.ents nm=none) (ho:nameOk nm=true) (h0:k ≠ 0):GoodN (B + 1) (fE (putE nm k) n) where
 kind:=by
  rcases h.kind with ⟨h1,h2,h3⟩ | ⟨h1,_⟩
  ·exact .inl ⟨h1,h2,h3⟩
  ·omega
 data:=h.data
 lpos:=h.lpos
 lfew:=by have:=h.lfew; simp only [fE]; omega
 efew:=by have:=h.efew; simp only [fE,putE_len]; omega
 sort:=putE_sorted h.sort hn
 name e he:=by
  rcases putE_mem.1 he with rfl | he
  ·exact ⟨ho,h0⟩
  ·exact h.name e he
 num:=h.num
theorem dropE_mem {nm:Nm} {l:List (Nm × Nat)} {e:Nm × Nat} (h:e ∈ dropE nm l):e ∈ l:=(List.mem_filter.1 h).1
theorem GoodN.drop {B:Nat} {n:Nd} (h:GoodN B n) (hk:n.kind=1) (nm:Nm):GoodN B (fE (dropE nm) n) where
 kind:=by
  rcases h.kind with ⟨h1,h2,h3⟩ | ⟨h1,_⟩
  ·exact .inl ⟨h1,h2,h3⟩
  ·omega
 data:=h.data
 lpos:=h.lpos
 lfew:=h.lfew
 efew:=by have:=h.efew; have:=List.length_filter_le (fun y:Nm × Nat=>decide (y.1 ≠ nm)) n.ents; simp only [fE,dropE]; omega
 sort:=dropE_sorted h.sort
 name e he:=h.name e (dropE_mem he)
 num:=h.num
theorem GoodN.link {B:Nat} {n:Nd} (h:GoodN B n) (hk:n.kind=2) {d:Int} (h1:0 < n.links + d) (h2:d ≤ 1):GoodN (B + 1) (fL d n) where
 kind:=by
  rcases h.kind with ⟨h1,_⟩ | ⟨h1,h2⟩
  ·omega
  ·exact .inr ⟨h1,h2⟩
 data:=h.data
 lpos:=h1
 lfew:=by have:=h.lfew; simp only [fL]; omega
 efew:=by have:=h.efew; simp only [fL]; omega
 sort:=h.sort
 name e he:=h.name e he
 num:=h.num
theorem GoodN.bytes {B:Nat} {n:Nd} (h:GoodN B n) (hk:n.kind=2) {g:List UInt8 → List UInt8} (h1:(g n.data).length ≤ 512):GoodN B (fD g n) where
 kind:=by
  rcases h.kind with ⟨h1,_⟩ | ⟨h1,h2⟩
  ·omega
  ·exact .inr ⟨h1,h2⟩
 data:=h1
 lpos:=h.lpos
 lfew:=h.lfew
 efew:=h.efew
 sort:=h.sort
 name e he:=h.name e he
 num:=h.num
theorem TWf.byte {B:Nat} {T:List Nd} (wf:TWf B T) {a:Nat} {x:Nd} (hx:nodeAt T a=some x) (hk:x.kind=2) {g:List UInt8 → List UInt8} (h1:(g x.data).length ≤ 512):TWf B (setP T a (fD g)):=by
 have hnd:=nodup_of wf.sorted
 have hat:=nodeAt_set (T:=T) (k:=a) (f:=fD g) (fD_num g)
 rw [hx] at hat
 refine TWf.mk' (by rw [setP_nums (fD_num g)]; exact wf.sorted) ?_ ?_ ?_ ?_
 ·obtain ⟨r,h1,h2⟩:=wf.root
  rw [hat]
  split
  ·rename_i e; subst e; rw [hx] at h1; cases h1; exact ⟨_,rfl,h2⟩
  ·exact ⟨r,h1,h2⟩
 ·intro k n hn
  rw [hat] at hn
  split at hn
  ·cases hn; exact (wf.at' hx).1.bytes hk h1
  ·exact (wf.at' hn).1
 ·intro k n hn e he
  rw [hat]
  split
  ·rfl
  ·rw [hat] at hn
   split at hn
   ·cases hn; exact wf.tgt x (wf.at' hx).2.2 e he
   ·exact wf.tgt n (wf.at' hn).2.2 e he
 ·intro k n hn h0
  have hr:=refs_set (f:=fD g) k hnd hx
  have h2:cntE (fD g x).ents k=cntE x.ents k:=rfl
  have hr':refs (setP T a (fD g)) k=refs T k:=by omega
  rw [hr']
  rw [hat] at hn
  split at hn
  ·rename_i e; subst e; cases hn
   have:=wf.cnt x (wf.at' hx).2.2 (by rw [(wf.at' hx).2.1]; exact h0)
   rw [(wf.at' hx).2.1] at this
   exact this
  ·have:=wf.cnt n (wf.at' hn).2.2 (by rw [(wf.at' hn).2.1]; exact h0)
   rw [(wf.at' hn).2.1] at this
   exact this
theorem TWf.cnt' {B:Nat} {T:List Nd} (wf:TWf B T) {k:Nat} {n:Nd} (hn:nodeAt T k=some n) (h0:k ≠ 0):(refs T k:Int)=n.links:=by
 have:=wf.cnt n (wf.at' hn).2.2 (by rw [(wf.at' hn).2.1]; exact h0)
 rw [(wf.at' hn).2.1] at this
 exact this
theorem TWf.make {B:Nat} {T:List Nd} (wf:TWf B T) (kind:Int) (hB:1 ≤ B) (path:Nm):TWf (B + 1) (makeS T kind path).1:=by
 unfold makeS
 split
 ·exact wf.le (by omega)
 rename_i hc
 have hc:(placeS T path).2.2=0:=by simpa using hc
 split
 ·exact wf.le (by omega)
 rename_i hl
 obtain ⟨hf,hf64,hfj⟩:=free_spec wf.sorted (by omega)
 obtain ⟨x,hx,hxk,hxl,hxn⟩:=place_at hc
 obtain ⟨f,hfe⟩ : ∃ f,freeS T=f:=⟨_,rfl⟩
 rw [hfe] at hf hf64 hfj ⊢
 generalize (placeS T path).1=up at *
 generalize (placeS T path).2.1=nm at *
 have hf0:f ≠ 0:=fun e=>by obtain ⟨r,hr,_⟩:=wf.root; rw [← e,hf] at hr; cases hr
 have hne:up ≠ f:=fun e=>by rw [e,hf] at hx; cases hx
 have hnum : ∀ n ∈ T,n.num ≠ f:=fun n hn e=>by
  have:=mem_nodeAt (nodup_of wf.sorted) hn
  rw [e,hf] at this; cases this
 have hs1:((insP (newNd f kind) T).map (·.num)).Pairwise (· < ·):=insP_sorted wf.sorted hnum
 have hat : ∀ j,nodeAt (setP (insP (newNd f kind) T) up (fE (putE nm f))) j=if j=up then some (fE (putE nm f) x) else if j=f then some (newNd f kind) else nodeAt T j:=fun j=>by
  rw [nodeAt_set (fE_num _)]
  split
  ·rw [nodeAt_ins,if_neg (by exact hne),hx]; rfl
  ·rw [nodeAt_ins]; rfl
 have hx1:nodeAt (insP (newNd f kind) T) up=some x:=by rw [nodeAt_ins,if_neg (by exact hne),hx]
 have gnew:GoodN (B + 1) (newNd f kind):=by
  refine ⟨?_,by simp [newNd],by simp [newNd],by simp only [newNd]; omega,by simp [newNd],by simp [newNd],by simp [newNd],hf64⟩
  by_cases hk:kind=1
  ·exact .inl ⟨by simp [newNd,hk],rfl,rfl⟩
  ·exact .inr ⟨by simp [newNd,hk],rfl⟩
 have some' : ∀ j,(nodeAt T j).isSome=true → (nodeAt (setP (insP (newNd f kind) T) up (fE (putE nm f))) j).isSome=true:=fun j hj=>by
  rw [hat]; split
  ·rfl
  ·split
   ·rfl
   ·exact hj
 refine TWf.mk' (by rw [setP_nums (fE_num _)]; exact hs1) ?_ ?_ ?_ ?_
 ·obtain ⟨r,h1,h2⟩:=wf.root
  rw [hat]
  split
  ·exact ⟨_,rfl,hxk⟩
  ·rw [if_neg (Ne.symm hf0)]; exact ⟨r,h1,h2⟩
 ·intro k n hn
  rw [hat] at hn
  split at hn
  ·cases hn; exact (wf.at' hx).1.put hxk hxl hxn hf0
  ·split at hn
   ·cases hn; exact gnew
   ·exact (wf.at' hn).1.le (by omega)
 ·intro k n hn e he
  rw [hat k] at hn
  split at hn
  ·cases hn
   rcases putE_mem.1 he with rfl | he
   ·rw [hat,if_neg (Ne.symm hne),if_pos rfl]; rfl
   ·exact some' _ (wf.tgt x (wf.at' hx).2.2 e he)
  ·split at hn
   ·cases hn; simp [newNd] at he
   ·exact some' _ (wf.tgt n (wf.at' hn).2.2 e he)
 ·intro k n hn h0
  have hr:=refs_set (f:=fE (putE nm f)) k (nodup_of hs1) hx1
  have h2:cntE (fE (putE nm f) x).ents k=cntE x.ents k + if f=k then 1 else 0:=cntE_put nm f k x.ents
  have h3:=refs_ins (newNd f kind) k T
  have h4:cntE (newNd f kind).ents k=0:=rfl
  have hr':refs (setP (insP (newNd f kind) T) up (fE (putE nm f))) k=refs T k + if f=k then 1 else 0:=by omega
  rw [hr']
  rw [hat k] at hn
  by_cases e:k=f
  ·subst e
   rw [if_neg (Ne.symm hne),if_pos rfl] at hn
   cases hn
   rw [refs_zero fun m hm e he q => ?_]
   ·simp [newNd]
   ·have:=wf.tgt m hm e he
    rw [q,hf] at this; cases this
  ·rw [if_neg (Ne.symm e),Nat.add_zero]
   split at hn
   ·rename_i e2; subst e2; cases hn
    have:=wf.cnt' hx h0
    exact this
   ·exact wf.cnt' hn h0
theorem TWf.gone {B:Nat} {T:List Nd} (wf:TWf B T) {up a:Nat} {nm:Nm} {x n:Nd} (hx:nodeAt T up=some x) (hxk:x.kind=1) (hxl:lk x.ents nm=some a) (hn:nodeAt T a=some n) (he:n.ents=[]) (hl:n.links=1) :
  TWf B (delP (setP T up (fE (dropE nm))) a):=by
 have hnd:=nodup_of wf.sorted
 have ha0:a ≠ 0:=((wf.at' hx).1.name _ (lk_mem hxl)).2
 have hne:up ≠ a:=fun e=>by
  rw [e,hn] at hx; cases hx; rw [he] at hxl; cases hxl
 have hs1:((setP T up (fE (dropE nm))).map (·.num)).Pairwise (· < ·):=by rw [setP_nums (fE_num _)]; exact wf.sorted
 have hat : ∀ j,nodeAt (delP (setP T up (fE (dropE nm))) a) j=if j=a then none else if j=up then some (fE (dropE nm) x) else nodeAt T j:=fun j=>by
  rw [nodeAt_del,nodeAt_set (fE_num _),hx]; rfl
 have hr : ∀ k,refs (delP (setP T up (fE (dropE nm))) a) k + (if a=k then 1 else 0)=refs T k:=fun k=>by
  have h1:=refs_set (f:=fE (dropE nm)) k hnd hx
  have h2:=refs_del k (a:=a) (x:=n) (nodup_of hs1) (by rw [nodeAt_set (fE_num _),if_neg (Ne.symm hne)]; exact hn)
  have h3:cntE (fE (dropE nm) x).ents k + (if a=k then 1 else 0)=cntE x.ents k:=cntE_drop k (nodupE (wf.at' hx).1.sort) hxl
  have h4:cntE n.ents k=0:=by rw [he]; rfl
  omega
 have hz:refs (delP (setP T up (fE (dropE nm))) a) a=0:=by
  have h1:=hr a
  rw [if_pos rfl] at h1
  have h2:=wf.cnt' hn ha0
  rw [hl] at h2
  omega
 have old : ∀ k m,nodeAt (delP (setP T up (fE (dropE nm))) a) k=some m → ∀ e ∈ m.ents,∃ m',m' ∈ T ∧ e ∈ m'.ents:=fun k m hm e h=>by
  rw [hat] at hm
  split at hm
  ·cases hm
  ·split at hm
   ·cases hm; exact ⟨x,(wf.at' hx).2.2,dropE_mem h⟩
   ·exact ⟨m,(wf.at' hm).2.2,h⟩
 refine TWf.mk' (delP_sorted hs1) ?_ ?_ ?_ ?_
 ·obtain ⟨r,h1,h2⟩:=wf.root
  rw [hat,if_neg (Ne.symm ha0)]
  split
  ·exact ⟨_,rfl,hxk⟩
  ·exact ⟨r,h1,h2⟩
 ·intro k m hm
  rw [hat] at hm
  split at hm
  ·cases hm
  ·split at hm
   ·cases hm; exact (wf.at' hx).1.drop hxk nm
   ·exact (wf.at' hm).1
 ·intro k m hm e h
  obtain ⟨m',h1,h2⟩:=old k m hm e h
  have hea:e.2 ≠ a:=fun q=>by
   have:=refs_pos (nodeAt_mem hm).1 h q
   omega
  rw [hat,if_neg hea]
  split
  ·rfl
  ·exact wf.tgt m' h1 e h2
 ·intro k m hm h0
  have h1:=hr k
  rw [hat] at hm
  split at hm
  ·cases hm
  ·rename_i hka
   rw [if_neg (Ne.symm hka)] at h1
   rw [Nat.add_zero] at h1
   rw [h1]
   split at hm
   ·rename_i e; subst e; cases hm; have:=wf.cnt' hx h0; exact this
   ·exact wf.cnt' hm h0
theorem TWf.turned {B:Nat} {T:List Nd} (wf:TWf B T) {up a:Nat} {d:Int} {g:List (Nm × Nat) → List (Nm × Nat)} {x n:Nd} (hx:nodeAt T up=some x) (hxk:x.kind=1) (hn:nodeAt T a=some n) (hnk:n.kind=2) (h0:a ≠ 0)
  (hg:GoodN (B + 1) (fE g x)) (hd:0 < n.links + d) (hd1:d ≤ 1) (hc : ∀ k,(cntE (g x.ents) k:Int)=cntE x.ents k + if a=k then d else 0) (ht : ∀ e ∈ g x.ents,(nodeAt T e.2).isSome=true) :
  TWf (B + 1) (setP (setP T up (fE g)) a (fL d)):=by
 have hnd:=nodup_of wf.sorted
 have hne:up ≠ a:=fun e=>by
  rw [e,hn] at hx; cases hx; omega
 have hs1:((setP T up (fE g)).map (·.num)).Pairwise (· < ·):=by rw [setP_nums (fE_num _)]; exact wf.sorted
 have hn1:nodeAt (setP T up (fE g)) a=some n:=by rw [nodeAt_set (fE_num _),if_neg (Ne.symm hne)]; exact hn
 have hat : ∀ j,nodeAt (setP (setP T up (fE g)) a (fL d)) j=if j=a then some (fL d n) else if j=up then some (fE g x) else nodeAt T j:=fun j=>by
  rw [nodeAt_set (fL_num _),hn1,nodeAt_set (fE_num _),hx]; rfl
 have hr : ∀ k,(refs (setP (setP T up (fE g)) a (fL d)) k:Int)=refs T k + if a=k then d else 0:=fun k=>by
  have h1:=refs_set (f:=fE g) k hnd hx
  have h2:=refs_set (f:=fL d) k (nodup_of hs1) hn1
  have h3:cntE (fL d n).ents k=cntE n.ents k:=rfl
  have h4:cntE (fE g x).ents k=cntE (g x.ents) k:=rfl
  have:=hc k
  omega
 have some' : ∀ j,(nodeAt T j).isSome=true → (nodeAt (setP (setP T up (fE g)) a (fL d)) j).isSome=true:=fun j hj=>by
  rw [hat]; split
  ·rfl
  ·split
   ·rfl
   ·exact hj
 refine TWf.mk' (by rw [setP_nums (fL_num _)]; exact hs1) ?_ ?_ ?_ ?_
 ·obtain ⟨r,h1,h2⟩:=wf.root
  rw [hat,if_neg (Ne.symm h0)]
  split
  ·exact ⟨_,rfl,hxk⟩
  ·exact ⟨r,h1,h2⟩
 ·intro k m hm
  rw [hat] at hm
  split at hm
  ·cases hm; exact (wf.at' hn).1.link hnk hd hd1
  ·split at hm
   ·cases hm; exact hg
   ·exact (wf.at' hm).1.le (by omega)
 ·intro k m hm e h
  refine some' _ ?_
  rw [hat] at hm
  split at hm
  ·cases hm; exact wf.tgt n (wf.at' hn).2.2 e h
  ·split at hm
   ·cases hm; exact ht e h
   ·exact wf.tgt m (wf.at' hm).2.2 e h
 ·intro k m hm hk0
  rw [hr]
  rw [hat] at hm
  split at hm
  ·rename_i e; subst e; cases hm
   rw [if_pos rfl,wf.cnt' hn hk0]; rfl
  ·rename_i hka
   rw [if_neg (Ne.symm hka),Int.add_zero]
   split at hm
   ·rename_i e; subst e; cases hm; have:=wf.cnt' hx hk0; exact this
   ·exact wf.cnt' hm hk0
theorem TWf.moved {B:Nat} {T:List Nd} (wf:TWf B T) {u1 u2 a:Nat} {o nm:Nm} {x y:Nd} (hx:nodeAt T u1=some x) (hxk:x.kind=1) (hxl:lk x.ents o=some a) (hy:nodeAt T u2=some y) (hyk:y.kind=1) (hyl:lk y.ents nm=none) (hok:nameOk nm=true) :
  TWf (B + 1) (setP (setP T u1 (fE (dropE o))) u2 (fE (putE nm a))):=by
 have hnd:=nodup_of wf.sorted
 have h0:a ≠ 0:=((wf.at' hx).1.name _ (lk_mem hxl)).2
 have hs1:((setP T u1 (fE (dropE o))).map (·.num)).Pairwise (· < ·):=by rw [setP_nums (fE_num _)]; exact wf.sorted
 obtain ⟨z,hz,hzk,hzl,hzg⟩ : ∃ z,nodeAt (setP T u1 (fE (dropE o))) u2=some z ∧ z.kind=1 ∧ lk z.ents nm=none ∧ GoodN B z ∧ ∀ e ∈ z.ents,∃ m ∈ T,e ∈ m.ents:=by
  rw [nodeAt_set (fE_num _),hx]
  split
  ·rename_i e; subst e
   rw [hx] at hy; cases hy
   refine ⟨_,rfl,hxk,?_,(wf.at' hx).1.drop hxk o,fun e he=>⟨x,(wf.at' hx).2.2,dropE_mem he⟩⟩
   show lk (dropE o x.ents) nm=none
   rw [lk_drop]; split
   ·rfl
   ·exact hyl
  ·exact ⟨y,hy,hyk,hyl,(wf.at' hy).1,fun e he=>⟨y,(wf.at' hy).2.2,he⟩⟩
 have hat : ∀ j,nodeAt (setP (setP T u1 (fE (dropE o))) u2 (fE (putE nm a))) j=if j=u2 then some (fE (putE nm a) z) else if j=u1 then some (fE (dropE o) x) else nodeAt T j:=fun j=>by
  rw [nodeAt_set (fE_num _),hz,nodeAt_set (fE_num _),hx]; rfl
 have hr : ∀ k,refs (setP (setP T u1 (fE (dropE o))) u2 (fE (putE nm a))) k=refs T k:=fun k=>by
  have h1:=refs_set (f:=fE (dropE o)) k hnd hx
  have h2:=refs_set (f:=fE (putE nm a)) k (nodup_of hs1) hz
  have h3:cntE (fE (dropE o) x).ents k + (if a=k then 1 else 0)=cntE x.ents k:=cntE_drop k (nodupE (wf.at' hx).1.sort) hxl
  have h4:cntE (fE (putE nm a) z).ents k=cntE z.ents k + (if a=k then 1 else 0):=cntE_put nm a k z.ents
  omega
 have some' : ∀ j,(nodeAt T j).isSome=true → (nodeAt (setP (setP T u1 (fE (dropE o))) u2 (fE (putE nm a))) j).isSome=true:=fun j hj=>by
  rw [hat]; split
  ·rfl
  ·split
   ·rfl
   ·exact hj
 refine TWf.mk' (by rw [setP_nums (fE_num _)]; exact hs1) ?_ ?_ ?_ ?_
 ·obtain ⟨r,h1,h2⟩:=wf.root
  rw [hat]
  split
  ·exact ⟨_,rfl,hzk⟩
  ·split
   ·exact ⟨_,rfl,hxk⟩
   ·exact ⟨r,h1,h2⟩
 ·intro k m hm
  rw [hat] at hm
  split at hm
  ·cases hm; exact hzg.1.put hzk hzl hok h0
  ·split at hm
   ·cases hm; exact ((wf.at' hx).1.drop hxk o).le (by omega)
   ·exact (wf.at' hm).1.le (by omega)
 ·intro k m hm e h
  refine some' _ ?_
  rw [hat] at hm
  split at hm
  ·cases hm
   rcases putE_mem.1 h with rfl | h
   ·have:=wf.tgt x (wf.at' hx).2.2 (o,a) (lk_mem hxl)
    exact this
   ·obtain ⟨m,h1,h2⟩:=hzg.2 e h
    exact wf.tgt m h1 e h2
  ·split at hm
   ·cases hm; exact wf.tgt x (wf.at' hx).2.2 e (dropE_mem h)
   ·exact wf.tgt m (wf.at' hm).2.2 e h
 ·intro k m hm hk0
  rw [hr]
  rw [hat] at hm
  split at hm
  ·rename_i e; subst e; cases hm
   show (refs T k:Int)=z.links
   rw [nodeAt_set (fE_num _),hx] at hz
   split at hz
   ·rename_i e; subst e; cases hz; have:=wf.cnt' hx hk0; exact this
   ·exact wf.cnt' hz hk0
  ·split at hm
   ·rename_i e; subst e; cases hm; have:=wf.cnt' hx hk0; exact this
   ·exact wf.cnt' hm hk0
theorem delP_set (T:List Nd) (a:Nat) {f:Nd → Nd} (hf : ∀ n,(f n).num=n.num):delP (setP T a f) a=delP T a:=by
 induction T with
 | nil=>rfl
 | cons z r ih =>
  unfold delP setP at ih ⊢
  rw [List.map_cons,List.filter_cons,List.filter_cons,ih]
  by_cases h:z.num=a
  ·simp [h,hf]
  ·simp [h]
theorem TWf.rmdir {B:Nat} {T:List Nd} (wf:TWf B T) (path:Nm):TWf (B + 1) (rmdirS T path).1:=by
 unfold rmdirS
 split
 ·exact wf.le (by omega)
 rename_i hc
 obtain ⟨x,h1,h2,h3,-⟩:=entry_ok' (T:=T) (s:=path) (by simpa using hc)
 split
 ·exact wf.le (by omega)
 rename_i n hn
 split
 ·exact wf.le (by omega)
 rename_i hk
 split
 ·exact wf.le (by omega)
 rename_i he
 refine (wf.gone h1 h2 h3 hn (by simpa using he) ?_).le (by omega)
 rcases (wf.at' hn).1.kind with ⟨_,_,h⟩ | ⟨h,_⟩
 ·exact h
 ·exact absurd h (by have:n.kind=1:=by simpa using hk
                     omega)
theorem TWf.unlink {B:Nat} {T:List Nd} (wf:TWf B T) (path:Nm):TWf (B + 1) (unlinkS T path).1:=by
 unfold unlinkS
 split
 ·exact wf.le (by omega)
 rename_i hc
 obtain ⟨x,h1,h2,h3,-⟩:=entry_ok' (T:=T) (s:=path) (by simpa using hc)
 split
 ·exact wf.le (by omega)
 rename_i n hn
 split
 ·exact wf.le (by omega)
 rename_i hk
 have hk2:n.kind=2 ∧ n.ents=[]:=by
  rcases (wf.at' hn).1.kind with ⟨h,_⟩ | h
  ·exact absurd h hk
  ·exact h
 have h0:=((wf.at' h1).1.name _ (lk_mem h3)).2
 split
 ·rename_i hl
  rw [delP_set _ _ (fL_num _)]
  exact (wf.gone h1 h2 h3 hn hk2.2 hl).le (by omega)
 ·rename_i hl
  have:=(wf.at' hn).1.lpos
  refine wf.turned h1 h2 hn hk2.1 h0 (((wf.at' h1).1.drop h2 _).le (by omega)) (by omega) (by omega) (fun k => ?_) fun e he=>wf.tgt x (wf.at' h1).2.2 e (dropE_mem he)
  have:=cntE_drop k (nodupE (wf.at' h1).1.sort) h3
  split at this <;> split <;> omega
theorem TWf.link {B:Nat} {T:List Nd} (wf:TWf B T) (path other:Nm):TWf (B + 1) (linkS T path other).1:=by
 unfold linkS
 split
 ·exact wf.le (by omega)
 rename_i hc
 obtain ⟨n,hn,hk,-⟩:=file_at wf (s:=path) (by simpa using hc)
 split
 ·exact wf.le (by omega)
 rename_i hp
 obtain ⟨x,h1,h2,h3,h4⟩:=place_at (T:=T) (s:=other) (by simpa using hp)
 have h0:(fileS T path).1 ≠ 0:=fun e=>by
  obtain ⟨r,hr,hrk⟩:=wf.root
  rw [e,hr] at hn; cases hn; omega
 have:=(wf.at' hn).1.lpos
 refine wf.turned h1 h2 hn hk h0 ((wf.at' h1).1.put h2 h3 h4 h0) (by omega) (by omega) (fun k => ?_) fun e he => ?_
 ·have:=cntE_put (placeS T other).2.1 (fileS T path).1 k x.ents
  split at this <;> split <;> omega
 ·rcases putE_mem.1 he with rfl | he
  ·rw [hn]; rfl
  ·exact wf.tgt x (wf.at' h1).2.2 e he
theorem TWf.rename {B:Nat} {T:List Nd} (wf:TWf B T) (path other:Nm):TWf (B + 1) (renameS T path other).1:=by
 unfold renameS
 split
 ·exact wf.le (by omega)
 rename_i hc
 obtain ⟨x,h1,h2,h3,-⟩:=entry_ok' (T:=T) (s:=path) (by simpa using hc)
 split
 ·exact wf.le (by omega)
 split
 ·exact wf.le (by omega)
 split
 ·exact wf.le (by omega)
 rename_i hp
 obtain ⟨y,g1,g2,g3,g4⟩:=place_at (T:=T) (s:=other) (by simpa using hp)
 exact wf.moved h1 h2 h3 g1 g2 g3 g4
theorem sizeD_len (l:List UInt8) (n:Nat):(sizeD l n).length=n:=by simp [sizeD]; omega
theorem wrote_len (off:Nat) (d l:List UInt8):(wrote off d l).length=max l.length (off + d.length):=by
 simp only [wrote,List.length_append,List.length_take,List.length_drop,sizeD_len]; omega
theorem TWf.write {B:Nat} {T:List Nd} (wf:TWf B T) (path:Nm) (off:Int) (d:List UInt8):TWf B (writeS T path off d).1:=by
 unfold writeS
 split
 ·exact wf
 rename_i hc
 obtain ⟨n,hn,hk,-⟩:=file_at wf (s:=path) (by simpa using hc)
 split
 ·exact wf
 split
 ·exact wf
 split
 ·exact wf
 refine wf.byte hn hk ?_
 have:=(wf.at' hn).1.data
 rw [wrote_len]; omega
theorem TWf.cut {B:Nat} {T:List Nd} (wf:TWf B T) (path:Nm) (n:Int):TWf B (cutS T path n).1:=by
 unfold cutS
 split
 ·exact wf
 rename_i hc
 obtain ⟨x,hn,hk,-⟩:=file_at wf (s:=path) (by simpa using hc)
 split
 ·exact wf
 split
 ·exact wf
 refine wf.byte hn hk ?_
 rw [sizeD_len]; omega
end Go.Proofs.YtdieogcemmnaaaaGreatDoor

namespace Go.Proofs.YtdieogcemmnaaaaGreatDoor
set_option linter.unusedSimpArgs false
set_option linter.unusedVariables false
open Go.Proofs.YtdieogcemmnaaaaGreatDoor RX
set_option maxRecDepth 100000
structure CallM where
 kind:Int
 path:Nm
 other:Nm
 off:Int
 n:Int
 da:Option Addr
 dl:Nat
 dc:Nat
def CallM.val (c:CallM):Value := .agg #[.int .i64 c.kind,sE c.path,sE c.other,.int .i64 c.off,.int .i64 c.n,.slice c.da c.dl c.dc]
variable {b:Nat} {t:TS}
theorem tDir_ok:Tri Tryz.prog 60 #[] HP.tt (fun v=>HP.ex fun nb=>HP.ex fun mb=>HP.and (v = .pointer (some ⟨nb,0,none⟩)) (HP.sep (HP.one nb (.cells #[.int .i64 1,.int .i64 1,.slice none 0 0,.map (some mb)] 133 (0,0))) (EntM mb []))):=by
 refine tri_of_tree (ρ:=[]) mixed Tryz.func60 tree_tDir ?_
 unfold t_tDir
 simp only [T.den,E.prop,E.den,RX.look,F1.app,F2.app,Uni.int_i,Uni.nat_n,Uni.bool_c,Uni.str_s,Uni.adr_a,Uni.val_v,Uni.hp_p,hden,cden,V.den,W.den,A.den,BR.den,SA.den,FV.den,capV,exs,exP,allP,Cur.app,List.map_cons,List.map_nil,List.cons_append,List.nil_append,List.drop_succ_cons,List.drop_zero,List.length_cons,List.length_nil,Nat.zero_add,Nat.reduceAdd,Int.neg_neg,Bool.not_not,List.append_nil,Nat.add_zero,List.getElem?_cons_zero,List.getElem?_cons_succ,Decidable.not_not,semW_eq,ne_eq,Nat.reduceEqDiff,not_false_eq_true]
 intro mb nb
 exact .of fun R h H=>⟨nb,mb,rfl,HP.sep_mono H (fun _ h=>h) fun z hz=>⟨[],0,⟨MapI.nil 0,fun _=>rfl⟩,hz⟩⟩
theorem pubSet {i:Nat} {x y:HN} {k:Nat} {f:Nd → Nd} (hn:(t.pub.map (·.num)).Nodup) (hi:t.ns[i]? = some x) (hk:x.p.num=k) (hy:y.p=f x.p):(t.setN i y).pub=setP t.pub k f:=by
 unfold TS.pub TS.setN setP
 have hnd:(t.ns.map (·.p.num)).Nodup:=by unfold TS.pub at hn; rw [List.map_map] at hn; exact hn
 refine List.ext_getElem? fun j => ?_
 rw [List.getElem?_map,List.getElem?_set,List.map_map,List.getElem?_map]
 split
 ·rename_i e; subst e
  split
  ·rw [hi]; simp [hy,hk]
  ·rename_i h; exact absurd (List.getElem?_eq_some_iff.1 hi).1 h
 ·rename_i e
  cases hj:t.ns[j]? with
  | none=>rfl
  | some z =>
   have : ¬ z.p.num=k:=fun q=>by
    have h1:(t.ns.map (·.p.num))[i]? = some k:=by rw [List.getElem?_map,hi]; simp [hk]
    have h2:(t.ns.map (·.p.num))[j]? = some k:=by rw [List.getElem?_map,hj]; simp [q]
    obtain ⟨l1,e1⟩:=List.getElem?_eq_some_iff.1 h1
    obtain ⟨l2,e2⟩:=List.getElem?_eq_some_iff.1 h2
    rcases Nat.lt_or_gt_of_ne e with q | q
    ·exact List.pairwise_iff_getElem.1 hnd _ _ l1 l2 q (e1.trans e2.symm)
    ·exact List.pairwise_iff_getElem.1 hnd _ _ l2 l1 q (e2.trans e1.symm)
   simp [this]
theorem pubIns (y:HN):(t.insN y).pub=insP y.p t.pub:=by
 unfold TS.pub TS.insN
 induction t.ns with
 | nil=>rfl
 | cons z r ih =>
  show (insH y (z :: r)).map (·.p)=insP y.p (z.p :: r.map (·.p))
  unfold insH insP
  split
  ·rw [List.map_cons]; congr 1
  ·rfl
theorem pubDrop (k:Nat):(t.dropN k).pub=delP t.pub k:=by
 unfold TS.pub TS.dropN delP
 rw [List.filter_map]; rfl
theorem idx_of {t:TS} {x:HN} (h:x ∈ t.ns) : ∃ i:Nat,t.ns[i]? = some x:=List.mem_iff_getElem?.1 h
theorem undNP:Tryz.prog.underlying 121=some (.pointer 133):=by kernel_rfl
theorem rdU {s:Sem Next} {S U:HP} {v:Value} (r:ORead Tryz.prog s S v):ORead Tryz.prog s (HP.sep U S) v:=r.imp fun _ _ H=>HP.sep_right H
theorem putTail {t1:TS} {x:HN} {i:Nat} (hi:t1.ns[i]? = some x) (hk:x.p.kind=1) (nm:Nm) (k:Nat) {U:HP} {K:HP → HP → Prop} (hK:K HP.tt (TRep b (t1.setN i (x.setE (putE nm k x.p.ents))))) :
  ∃ q:Nat,ORead Tryz.prog (nilS (.pointer (some ⟨x.nb,0,none⟩))) (HP.sep U (TRep b t1)) (.pointer (some ⟨q,0,none⟩)) ∧ ∃ m:Nat,ORead Tryz.prog (loadS 131 (.pointer (some ⟨q,3,none⟩))) (HP.sep U (TRep b t1)) (.map (some m)) ∧
   OTri Tryz.prog (updS 131 (.map (some m)) (sE nm) (.int .i64 k)) (HP.sep U (TRep b t1)) fun v=>HP.ex fun a=>HP.ex fun c=>HP.and (v = .tuple #[]) (HP.and (K a c) (HP.sep a c)):=by
 have hm:=List.mem_of_getElem? hi
 have he:=ldEnts (b:=b) hm
 have hmo:x.mapo=some x.mb:=by unfold HN.mapo; rw [if_pos hk]
 rw [hmo] at he
 refine ⟨x.nb,nilChk',x.mb,rdU he,?_⟩
 refine (entPut hi hk nm k).weak (fun _ _ H=>HP.sep_right H) ?_
 rintro v R h ⟨rfl,H⟩
 exact ⟨_,_,rfl,hK,HP.tt_sep H⟩
theorem delTail {t1:TS} {x:HN} {i:Nat} (hi:t1.ns[i]? = some x) (hk:x.p.kind=1) (nm:Nm) (ts:Array TypeId) (ty:TypeId) (h0:ts[0]? = some 131) {U:HP} {K:HP → HP → Prop} (hK:K HP.tt (TRep b (t1.setN i (x.setE (dropE nm x.p.ents))))) :
  ∃ q:Nat,ORead Tryz.prog (nilS (.pointer (some ⟨x.nb,0,none⟩))) (HP.sep U (TRep b t1)) (.pointer (some ⟨q,0,none⟩)) ∧ ∃ m:Nat,ORead Tryz.prog (loadS 131 (.pointer (some ⟨q,3,none⟩))) (HP.sep U (TRep b t1)) (.map (some m)) ∧
   OTri Tryz.prog (delS ts ty (.map (some m)) (sE nm)) (HP.sep U (TRep b t1)) fun v=>HP.ex fun a=>HP.ex fun c=>HP.and (v = .tuple #[]) (HP.and (K a c) (HP.sep a c)):=by
 have hm:=List.mem_of_getElem? hi
 have he:=ldEnts (b:=b) hm
 have hmo:x.mapo=some x.mb:=by unfold HN.mapo; rw [if_pos hk]
 rw [hmo] at he
 refine ⟨x.nb,nilChk',x.mb,rdU he,?_⟩
 refine (entDel hi hk nm ts ty h0).weak (fun _ _ H=>HP.sep_right H) ?_
 rintro v R h ⟨rfl,H⟩
 exact ⟨_,_,rfl,hK,HP.tt_sep H⟩
theorem NRep.newD {k:Nat} {kind:Int} (hk:kind=1) {nb mb:Nat} {R h:PH} (H:(HP.sep (HP.one nb (.cells #[.int .i64 1,.int .i64 1,.slice none 0 0,.map (some mb)] 133 (0,0))) (EntM mb [])).p R h):(NRep ⟨newNd k kind,nb,mb,none,0⟩).p R h:=by
 subst hk
 exact HP.sep_mono H (fun _ h=>h) fun z hz=>HP.sep_mono (HP.tt_sep hz) (fun z _=>OwC.nil _ _ _ _) fun _ h=>h
theorem NRep.newF {k:Nat} {kind:Int} (hk : ¬ kind=1) {nb:Nat} {R h:PH} (H:(HP.one nb (.cells #[.int .i64 2,.int .i64 1,.slice none 0 0,.map none] 133 (0,0))).p R h):(NRep ⟨newNd k kind,nb,0,none,0⟩).p R h:=by
 have e:newNd k kind=⟨k,2,1,[],[]⟩:=by unfold newNd; rw [if_neg hk]
 rw [e]
 exact HP.sep_mono (HP.sep_tt H) (fun _ h=>h) fun z hz=>HP.sep_mono (HP.sep_tt hz) (fun z _=>OwC.nil _ _ _ _) fun z _=>rfl
set_option maxHeartbeats 1000000 in
theorem tMake_ok {B:Nat} (wf:TWf B t.pub) (c:CallM) (S:HP):Tri Tryz.prog 61 #[.pointer (some ⟨b,0,none⟩),c.val] (HP.sep (TRep b t) S)
  (fun v=>HP.ex fun t':TS=>HP.and (v = .int .i64 (makeS t.pub c.kind c.path).2 ∧ t'.pub=(makeS t.pub c.kind c.path).1) (HP.sep (TRep b t') S)):=by
 refine tri_of_tree (ρ:=[.n b,.p (TRep b t),.i c.kind,.s c.path,.s c.other,.i c.off,.i c.n,.a c.da,.n c.dl,.n c.dc,.p S]) mixed Tryz.func61 tree_tMake ?_
 unfold t_tMake
 simp only [T.den,E.prop,E.den,RX.look,F1.app,F2.app,Uni.int_i,Uni.nat_n,Uni.bool_c,Uni.str_s,Uni.adr_a,Uni.val_v,Uni.hp_p,hden,cden,V.den,W.den,A.den,BR.den,SA.den,FV.den,capV,exs,exP,allP,Cur.app,List.map_cons,List.map_nil,List.cons_append,List.nil_append,List.drop_succ_cons,List.drop_zero,List.length_cons,List.length_nil,Nat.zero_add,Nat.reduceAdd,Int.neg_neg,Bool.not_not,List.append_nil,Nat.add_zero,List.getElem?_cons_zero,List.getElem?_cons_succ,Decidable.not_not,semW_eq,semW_load,semW_lookup,semW_lookupC,semW_update,semW_updateC,semW_updateK,semW_nil,ne_eq,Nat.reduceEqDiff,not_false_eq_true]
 intro x0
 refine (tPlace_ok wf c.path).weak (fun _ _ h=>h) ?_
 rintro v R h ⟨rfl,H⟩
 obtain ⟨T1,hT1⟩ : ∃ q,makeS t.pub c.kind c.path=q:=⟨_,rfl⟩
 rw [hT1]
 unfold makeS at hT1
 by_cases hc:(placeS t.pub c.path).2.2=0
 ·rw [if_neg (by simp [hc])] at hT1
  rw [if_pos hc]
  obtain ⟨xu,hxu,hxk,-⟩:=place_at hc
  obtain ⟨x,hx,hxp,hxm⟩:=hn_of (by rw [hxu]; rfl)
  have hpx:ptrOf t.ns (placeS t.pub c.path).1 = .pointer (some ⟨x.nb,0,none⟩):=by unfold ptrOf; rw [hx]; rfl
  rw [hpx]
  refine ⟨.pointer (some ⟨x.nb,0,none⟩),HP.tt,_,_,rfl,⟨fun h=>absurd hc h,fun _=>⟨t.mb,ldNodes,t.ns.length,by rw [semW_len]; exact lenNodes (by have:=nodup_of wf.sorted; unfold TS.pub at this; rw [List.map_map] at this; exact this),?_⟩⟩,HP.tt_sep H⟩
  have hlen:t.pub.length=t.ns.length:=by unfold TS.pub; rw [List.length_map]
  rw [hlen] at hT1
  refine ⟨fun hl => .of fun R h H=>⟨t,⟨?_,?_⟩,H⟩,fun hl => ?_⟩
  ·rw [if_pos (by omega)] at hT1; rw [← hT1]
  ·rw [if_pos (by omega)] at hT1; rw [← hT1]
  rw [if_neg (by omega)] at hT1
  obtain ⟨hf,hf64,hfj⟩:=free_spec wf.sorted (by omega)
  generalize hfe:freeS t.pub=f at *
  refine ⟨fun i => ∃ k:Nat,i=k ∧ k ≤ f,fun i=>f - i.toNat,⟨1,rfl,?_⟩,?_⟩
  ·refine Nat.pos_of_ne_zero fun e => ?_
   obtain ⟨r,hr,_⟩:=wf.root
   rw [e,hr] at hf; cases hf
  rintro _ ⟨k,rfl,hk⟩
  refine ⟨t.mb,ldNodes,.pointer ((hnAt t.ns k).map fun x=>⟨x.nb,0,none⟩),lkNode k,_,neqNilP (by kernel_rfl) undNP,⟨fun h1 => ?_,fun h1 => ?_⟩⟩
  ·have hkf:k ≠ f:=fun e=>by
    have:nodeAt t.pub k=none:=by rw [e]; exact hf
    rw [nodeAt_pub] at this
    rw [Option.isSome_map] at h1
    cases hq:hnAt t.ns k with
    | none=>rw [hq] at h1; cases h1
    | some _=>rw [hq] at this; cases this
   exact ⟨inI64' _ (by omega) (by omega),fun _=>⟨⟨k + 1,by omega,by omega⟩,by dsimp only; omega⟩⟩
  ·have hkf:k=f:=by
    rcases Nat.lt_or_eq_of_le hk with h | h
    ·have:=hfj k h
     rw [nodeAt_pub,Option.isSome_map] at this
     rw [Option.isSome_map] at h1
     exact absurd this h1
    ·exact h
   subst hkf
   have fin : ∀ (y:HN) (i:Nat),y.p=newNd k c.kind → (t.insN y).ns[i]? = some x → ((t.insN y).setN i (x.setE (putE (placeS t.pub c.path).2.1 k x.p.ents))).pub=T1.1:=fun y i hy hi=>by
    rw [← hT1]
    rw [pubSet ?_ hi (hnAt_mem hx).2 (f:=fE (putE (placeS t.pub c.path).2.1 k)) rfl,pubIns,hy]
    rw [pubIns,hy]
    refine nodup_of (insP_sorted wf.sorted fun n hn e => ?_)
    have:=mem_nodeAt (nodup_of wf.sorted) hn
    rw [e] at this
    exact absurd (hf.symm.trans this) (by simp)
   refine ⟨fun hkind=>⟨t.mb,ldNodes,?_⟩,fun hkind=>⟨t.mb,ldNodes,fun nb => ?_⟩⟩
   ·refine tDir_ok.weak (fun _ _ h=>h) ?_
    rintro v R h ⟨nb,mb,rfl,H⟩
    refine ⟨.pointer (some ⟨nb,0,none⟩),NRep ⟨newNd k c.kind,nb,mb,none,0⟩,rfl,?_,?_⟩
    ·refine (nodePut (b:=b) (t:=t) ⟨newNd k c.kind,nb,mb,none,0⟩).weak (fun _ _ h=>h) ?_
     rintro v R h ⟨rfl,H⟩
     obtain ⟨i,hi⟩:=idx_of (t:=t.insN ⟨newNd k c.kind,nb,mb,none,0⟩) (x:=x) ((insH_perm _ _).mem_iff.2 (by simp [hxm]))
     exact ⟨_,rfl,putTail hi (by rw [hxu] at hxp; cases hxp; exact hxk) _ k (.of fun R h H=>⟨_,⟨by rw [← hT1],fin _ i rfl hi⟩,H⟩),H⟩
    ·exact NRep.newD hkind H
   ·refine (nodePut (b:=b) (t:=t) ⟨newNd k c.kind,nb,0,none,0⟩).weak (fun _ _ H=>HP.sep_mono H (fun _ h=>h) fun z hz=>NRep.newF hkind hz) ?_
    rintro v R h ⟨rfl,H⟩
    obtain ⟨i,hi⟩:=idx_of (t:=t.insN ⟨newNd k c.kind,nb,0,none,0⟩) (x:=x) ((insH_perm _ _).mem_iff.2 (by simp [hxm]))
    exact ⟨_,rfl,putTail hi (by rw [hxu] at hxp; cases hxp; exact hxk) _ k (.of fun R h H=>⟨_,⟨by rw [← hT1],fin _ i rfl hi⟩,H⟩),H⟩
 ·refine ⟨.pointer none,HP.tt,(placeS t.pub c.path).2.1,(placeS t.pub c.path).2.2,?_,⟨fun _ => .of fun R h H=>⟨t,⟨?_,?_⟩,H⟩,fun h=>absurd h hc⟩,HP.tt_sep H⟩
  ·rw [if_neg hc]; rfl
  ·rw [if_pos hc] at hT1; rw [← hT1]
  ·rw [if_pos hc] at hT1; rw [← hT1]
theorem hnIdx {t:TS} {k:Nat} {n:Nd} (h:nodeAt t.pub k=some n) : ∃ (x:HN) (i:Nat),t.ns[i]? = some x ∧ x.p=n ∧ x.p.num=k ∧ hnAt t.ns k=some x ∧ ptrOf t.ns k = .pointer (some ⟨x.nb,0,none⟩) ∧ x ∈ t.ns:=by
 obtain ⟨x,hx,hxp,hxm⟩:=hn_of (t:=t) (k:=k) (by rw [h]; rfl)
 obtain ⟨i,hi⟩:=idx_of hxm
 refine ⟨x,i,hi,?_,(hnAt_mem hx).2,hx,by unfold ptrOf; rw [hx]; rfl,hxm⟩
 rw [h] at hxp; exact (Option.some.inj hxp).symm
theorem TWf.nd {B:Nat} {T:List Nd} (wf:TWf B T):(T.map (·.num)).Nodup:=nodup_of wf.sorted
theorem pubNums {t:TS} {i:Nat} {x y:HN} (hi:t.ns[i]? = some x) (hy:y.p.num=x.p.num):(t.setN i y).pub.map (·.num)=t.pub.map (·.num):=by
 unfold TS.pub TS.setN
 rw [List.map_map,List.map_map,List.map_set]
 refine List.ext_getElem? fun j => ?_
 rw [List.getElem?_set,List.getElem?_map]
 split
 ·rename_i e; subst e
  split
  ·rw [hi]; simp [hy]
  ·rename_i h; rw [List.length_map] at h; exact absurd (List.getElem?_eq_some_iff.1 hi).1 h
 ·rfl
set_option maxHeartbeats 1000000 in
theorem tRmdir_ok {B:Nat} (wf:TWf B t.pub) (c:CallM) (S:HP):Tri Tryz.prog 62 #[.pointer (some ⟨b,0,none⟩),c.val] (HP.sep (TRep b t) S)
  (fun v=>HP.ex fun t':TS=>HP.and (v = .int .i64 (rmdirS t.pub c.path).2 ∧ t'.pub=(rmdirS t.pub c.path).1) (HP.sep (TRep b t') S)):=by
 refine tri_of_tree (ρ:=[.n b,.p (TRep b t),.i c.kind,.s c.path,.s c.other,.i c.off,.i c.n,.a c.da,.n c.dl,.n c.dc,.p S]) mixed Tryz.func62 tree_tRmdir ?_
 unfold t_tRmdir
 simp only [T.den,E.prop,E.den,RX.look,F1.app,F2.app,Uni.int_i,Uni.nat_n,Uni.bool_c,Uni.str_s,Uni.adr_a,Uni.val_v,Uni.hp_p,hden,cden,V.den,W.den,A.den,BR.den,SA.den,FV.den,capV,exs,exP,allP,Cur.app,List.map_cons,List.map_nil,List.cons_append,List.nil_append,List.drop_succ_cons,List.drop_zero,List.length_cons,List.length_nil,Nat.zero_add,Nat.reduceAdd,Int.neg_neg,Bool.not_not,List.append_nil,Nat.add_zero,List.getElem?_cons_zero,List.getElem?_cons_succ,Decidable.not_not,semW_eq,semW_load,semW_lookup,semW_lookupC,semW_delete,semW_nil,ne_eq,Nat.reduceEqDiff,not_false_eq_true]
 intro x0
 refine (tEntry_ok wf c.path).weak (fun _ _ h=>h) ?_
 rintro v R h ⟨rfl,H⟩
 obtain ⟨T1,hT1⟩ : ∃ q,rmdirS t.pub c.path=q:=⟨_,rfl⟩
 rw [hT1]
 unfold rmdirS at hT1
 by_cases hc:(entryS t.pub c.path).2.2.2=0
 ·rw [if_neg (by simp [hc])] at hT1
  rw [if_pos hc]
  obtain ⟨xn,h1,h2,h3,-⟩:=entry_ok' hc
  obtain ⟨n,h4⟩:=Option.isSome_iff_exists.1 (wf.tgt xn (wf.at' h1).2.2 _ (lk_mem h3))
  simp only at h4
  rw [h4] at hT1
  simp only at hT1
  obtain ⟨x,i,hi,rfl,hin,hih,hip,him⟩:=hnIdx h1
  obtain ⟨y,j,hj,rfl,hjn,hjh,hjp,hjm⟩:=hnIdx h4
  rw [hip]
  have hlk:=lkNode (b:=b) (t:=t) (entryS t.pub c.path).2.2.1
  rw [hjh] at hlk
  refine ⟨.pointer (some ⟨x.nb,0,none⟩),HP.tt,_,_,_,rfl,⟨fun h=>absurd hc h,fun _=>⟨t.mb,ldNodes,.pointer (some ⟨y.nb,0,none⟩),hlk,y.nb,nilChk',y.p.kind,ldKind hjm,⟨fun hk => .of fun R h H=>⟨t,⟨?_,?_⟩,H⟩,fun hk => ?_⟩⟩⟩,HP.tt_sep H⟩
  ·rw [if_pos hk] at hT1; rw [← hT1]
  ·rw [if_pos hk] at hT1; rw [← hT1]
  have hk':y.p.kind=1:=by simpa using hk
  rw [if_neg (by simp [hk'])] at hT1
  have he:=ldEnts (b:=b) hjm
  have hmo:y.mapo=some y.mb:=by unfold HN.mapo; rw [if_pos hk']
  rw [hmo] at he
  refine ⟨y.nb,nilChk',y.mb,he,y.p.ents.length,by rw [semW_len]; exact lenEnts hjm hk' (nodupE (wf.at' h4).1.sort),⟨fun hl => .of fun R h H=>⟨t,⟨?_,?_⟩,H⟩,fun hl => ?_⟩⟩
  ·rw [if_pos (by intro e; rw [e] at hl; simp at hl)] at hT1; rw [← hT1]
  ·rw [if_pos (by intro e; rw [e] at hl; simp at hl)] at hT1; rw [← hT1]
  have hl':y.p.ents=[]:=List.length_eq_zero_iff.1 (by omega)
  rw [if_neg (by simp [hl'])] at hT1
  refine delTail hi h2 _ _ _ rfl ⟨t.mb,ldNodes,?_⟩
  refine (nodeDel (b:=b) (t:=t.setN i (x.setE (dropE (entryS t.pub c.path).2.1 x.p.ents))) (entryS t.pub c.path).2.2.1 _ _ rfl).weak (fun _ _ h=>h) ?_
  rintro v R h ⟨rfl,H⟩
  refine ⟨_,rfl,.of fun R h H=>⟨_,⟨?_,?_⟩,H⟩,H⟩
  ·rw [← hT1]
  ·rw [← hT1,pubDrop,pubSet wf.nd hi hin (f:=fE (dropE (entryS t.pub c.path).2.1)) rfl]
 ·refine ⟨.pointer none,HP.tt,(entryS t.pub c.path).2.1,(entryS t.pub c.path).2.2.1,(entryS t.pub c.path).2.2.2,?_,⟨fun _ => .of fun R h H=>⟨t,⟨?_,?_⟩,H⟩,fun h=>absurd h hc⟩,HP.tt_sep H⟩
  ·rw [if_neg hc]; rfl
  ·rw [if_pos hc] at hT1; rw [← hT1]
  ·rw [if_pos hc] at hT1; rw [← hT1]
theorem setN_at {t:TS} {i j:Nat} {x y z:HN} (hi:t.ns[i]? = some x) (hj:t.ns[j]? = some y):(t.setN i z).ns[j]? = some (if i=j then z else y):=by
 unfold TS.setN
 rw [List.getElem?_set]
 split
 ·rename_i e; subst e
  rw [if_pos (List.getElem?_eq_some_iff.1 hi).1]
 ·exact hj
set_option maxHeartbeats 1000000 in
theorem tUnlink_ok {B:Nat} (hB:B ≤ 1000000) (wf:TWf B t.pub) (c:CallM) (S:HP):Tri Tryz.prog 63 #[.pointer (some ⟨b,0,none⟩),c.val] (HP.sep (TRep b t) S)
  (fun v=>HP.ex fun t':TS=>HP.and (v = .int .i64 (unlinkS t.pub c.path).2 ∧ t'.pub=(unlinkS t.pub c.path).1) (HP.sep (TRep b t') S)):=by
 refine tri_of_tree (ρ:=[.n b,.p (TRep b t),.i c.kind,.s c.path,.s c.other,.i c.off,.i c.n,.a c.da,.n c.dl,.n c.dc,.p S]) mixed Tryz.func63 tree_tUnlink ?_
 unfold t_tUnlink
 simp only [T.den,E.prop,E.den,RX.look,F1.app,F2.app,Uni.int_i,Uni.nat_n,Uni.bool_c,Uni.str_s,Uni.adr_a,Uni.val_v,Uni.hp_p,hden,cden,V.den,W.den,A.den,BR.den,SA.den,FV.den,capV,exs,exP,allP,Cur.app,List.map_cons,List.map_nil,List.cons_append,List.nil_append,List.drop_succ_cons,List.drop_zero,List.length_cons,List.length_nil,Nat.zero_add,Nat.reduceAdd,Int.neg_neg,Bool.not_not,List.append_nil,Nat.add_zero,List.getElem?_cons_zero,List.getElem?_cons_succ,Decidable.not_not,semW_eq,semW_load,semW_store,semW_storeC,semW_lookup,semW_lookupC,semW_delete,semW_nil,ne_eq,Nat.reduceEqDiff,not_false_eq_true]
 intro x0
 refine (tEntry_ok wf c.path).weak (fun _ _ h=>h) ?_
 rintro v R h ⟨rfl,H⟩
 obtain ⟨T1,hT1⟩ : ∃ q,unlinkS t.pub c.path=q:=⟨_,rfl⟩
 rw [hT1]
 unfold unlinkS at hT1
 by_cases hc:(entryS t.pub c.path).2.2.2=0
 ·rw [if_neg (by simp [hc])] at hT1
  rw [if_pos hc]
  obtain ⟨xn,h1,h2,h3,-⟩:=entry_ok' hc
  obtain ⟨n,h4⟩:=Option.isSome_iff_exists.1 (wf.tgt xn (wf.at' h1).2.2 _ (lk_mem h3))
  simp only at h4
  rw [h4] at hT1
  simp only at hT1
  obtain ⟨x,i,hi,rfl,hin,hih,hip,him⟩:=hnIdx h1
  obtain ⟨y,j,hj,rfl,hjn,hjh,hjp,hjm⟩:=hnIdx h4
  rw [hip]
  have hlk:=lkNode (b:=b) (t:=t) (entryS t.pub c.path).2.2.1
  rw [hjh] at hlk
  refine ⟨.pointer (some ⟨x.nb,0,none⟩),HP.tt,_,_,_,rfl,⟨fun h=>absurd hc h,fun _=>⟨t.mb,ldNodes,.pointer (some ⟨y.nb,0,none⟩),hlk,y.nb,nilChk',y.p.kind,ldKind hjm,⟨fun hk => .of fun R h H=>⟨t,⟨?_,?_⟩,H⟩,fun hk => ?_⟩⟩⟩,HP.tt_sep H⟩
  ·rw [if_pos hk] at hT1; rw [← hT1]
  ·rw [if_pos hk] at hT1; rw [← hT1]
  rw [if_neg hk] at hT1
  have hij:i ≠ j:=fun e=>by
   subst e; rw [hi] at hj; cases hj; exact hk h2
  have hj1:=setN_at (z:=x.setE (dropE (entryS t.pub c.path).2.1 x.p.ents)) hi hj
  rw [if_neg hij] at hj1
  have hp1:(t.setN i (x.setE (dropE (entryS t.pub c.path).2.1 x.p.ents))).pub=setP t.pub (entryS t.pub c.path).1 (fE (dropE (entryS t.pub c.path).2.1)):=pubSet wf.nd hi hin (f:=fE (dropE (entryS t.pub c.path).2.1)) rfl
  have hn1:=(pubNums (y:=x.setE (dropE (entryS t.pub c.path).2.1 x.p.ents)) hi rfl) ▸ wf.nd
  rw [← hp1] at hT1
  obtain ⟨t1,ht1⟩ : ∃ q,t.setN i (x.setE (dropE (entryS t.pub c.path).2.1 x.p.ents))=q:=⟨_,rfl⟩
  rw [ht1] at hp1 hj1 hT1 hn1
  have hj2:=setN_at (z:=y.setL (y.p.links - 1)) hj1 hj1
  rw [if_pos rfl] at hj2
  have hp2:(t1.setN j (y.setL (y.p.links - 1))).pub=setP t1.pub (entryS t.pub c.path).2.2.1 (fL (-1)):=pubSet hn1 hj1 hjn (f:=fL (-1)) rfl
  rw [← hp2] at hT1
  have hl1:=(wf.at' h4).1.lpos
  have hl2:=(wf.at' h4).1.lfew
  refine delTail hi h2 _ _ _ rfl ?_
  rw [ht1]
  refine ⟨y.nb,nilChk',y.p.links,ldLinks (List.mem_of_getElem? hj1),inI64' _ (by omega) (by omega),fun _=>⟨y.nb,nilChk',?_⟩⟩
  refine (linkStore (b:=b) hj1 (y.p.links - 1)).weak (fun _ _ h=>h) ?_
  rintro v R h ⟨rfl,H⟩
  refine ⟨_,rfl,⟨y.nb,nilChk',y.p.links - 1,ldLinks (List.mem_of_getElem? hj2),⟨fun h0=>⟨t1.mb,ldNodes,?_⟩,fun h0 => .of fun R h H=>⟨_,⟨?_,?_⟩,H⟩⟩⟩,H⟩
  ·rw [if_pos (by omega)] at hT1
   refine (nodeDel (b:=b) (t:=t1.setN j (y.setL (y.p.links - 1))) (entryS t.pub c.path).2.2.1 _ _ rfl).weak (fun _ _ h=>h) ?_
   rintro v R h ⟨rfl,H⟩
   exact ⟨_,rfl,.of fun R h H=>⟨_,⟨by rw [← hT1],by rw [← hT1,pubDrop]⟩,H⟩,H⟩
  ·rw [if_neg (by omega)] at hT1; rw [← hT1]
  ·rw [if_neg (by omega)] at hT1; rw [← hT1]
 ·refine ⟨.pointer none,HP.tt,(entryS t.pub c.path).2.1,(entryS t.pub c.path).2.2.1,(entryS t.pub c.path).2.2.2,?_,⟨fun _ => .of fun R h H=>⟨t,⟨?_,?_⟩,H⟩,fun h=>absurd h hc⟩,HP.tt_sep H⟩
  ·rw [if_neg hc]; rfl
  ·rw [if_pos hc] at hT1; rw [← hT1]
  ·rw [if_pos hc] at hT1; rw [← hT1]
set_option maxHeartbeats 1000000 in
theorem tLink_ok {B:Nat} (hB:B ≤ 1000000) (wf:TWf B t.pub) (c:CallM) (S:HP):Tri Tryz.prog 64 #[.pointer (some ⟨b,0,none⟩),c.val] (HP.sep (TRep b t) S)
  (fun v=>HP.ex fun t':TS=>HP.and (v = .int .i64 (linkS t.pub c.path c.other).2 ∧ t'.pub=(linkS t.pub c.path c.other).1) (HP.sep (TRep b t') S)):=by
 refine tri_of_tree (ρ:=[.n b,.p (TRep b t),.i c.kind,.s c.path,.s c.other,.i c.off,.i c.n,.a c.da,.n c.dl,.n c.dc,.p S]) mixed Tryz.func64 tree_tLink ?_
 unfold t_tLink
 simp only [T.den,E.prop,E.den,RX.look,F1.app,F2.app,Uni.int_i,Uni.nat_n,Uni.bool_c,Uni.str_s,Uni.adr_a,Uni.val_v,Uni.hp_p,hden,cden,V.den,W.den,A.den,BR.den,SA.den,FV.den,capV,exs,exP,allP,Cur.app,List.map_cons,List.map_nil,List.cons_append,List.nil_append,List.drop_succ_cons,List.drop_zero,List.length_cons,List.length_nil,Nat.zero_add,Nat.reduceAdd,Int.neg_neg,Bool.not_not,List.append_nil,Nat.add_zero,List.getElem?_cons_zero,List.getElem?_cons_succ,Decidable.not_not,semW_eq,semW_load,semW_store,semW_storeC,semW_update,semW_updateC,semW_updateK,semW_nil,ne_eq,Nat.reduceEqDiff,not_false_eq_true]
 intro x0
 refine (tFile_ok wf c.path).weak (fun _ _ h=>h) ?_
 rintro v R h ⟨rfl,H⟩
 obtain ⟨T1,hT1⟩ : ∃ q,linkS t.pub c.path c.other=q:=⟨_,rfl⟩
 rw [hT1]
 unfold linkS at hT1
 by_cases hf:(fileS t.pub c.path).2=0
 ·rw [if_neg (by simp [hf])] at hT1
  rw [if_pos hf]
  obtain ⟨n,h4,hk2,-⟩:=file_at wf hf
  obtain ⟨y,j,hj,rfl,hjn,hjh,hjp,hjm⟩:=hnIdx h4
  rw [hjp]
  refine ⟨.pointer (some ⟨y.nb,0,none⟩),HP.tt,_,_,rfl,⟨fun h=>absurd hf h,fun _ => ?_⟩,HP.tt_sep H⟩
  refine (tPlace_ok wf c.other).weak (fun _ _ h=>h) ?_
  rintro v R h ⟨rfl,H⟩
  by_cases hc:(placeS t.pub c.other).2.2=0
  ·rw [if_neg (by simp [hc])] at hT1
   rw [if_pos hc]
   obtain ⟨xn,h1,h2,-⟩:=place_at hc
   obtain ⟨x,i,hi,rfl,hin,hih,hip,him⟩:=hnIdx h1
   rw [hip]
   have hij:i ≠ j:=fun e=>by
    subst e; rw [hi] at hj; cases hj; omega
   have hj1:=setN_at (z:=x.setE (putE (placeS t.pub c.other).2.1 (fileS t.pub c.path).1 x.p.ents)) hi hj
   rw [if_neg hij] at hj1
   have hp1:(t.setN i (x.setE (putE (placeS t.pub c.other).2.1 (fileS t.pub c.path).1 x.p.ents))).pub=setP t.pub (placeS t.pub c.other).1 (fE (putE (placeS t.pub c.other).2.1 (fileS t.pub c.path).1)):=pubSet wf.nd hi hin (f:=fE (putE (placeS t.pub c.other).2.1 (fileS t.pub c.path).1)) rfl
   have hn1:=(pubNums (y:=x.setE (putE (placeS t.pub c.other).2.1 (fileS t.pub c.path).1 x.p.ents)) hi rfl) ▸ wf.nd
   rw [← hp1] at hT1
   obtain ⟨t1,ht1⟩ : ∃ q,t.setN i (x.setE (putE (placeS t.pub c.other).2.1 (fileS t.pub c.path).1 x.p.ents))=q:=⟨_,rfl⟩
   rw [ht1] at hp1 hj1 hT1 hn1
   have hp2:(t1.setN j (y.setL (y.p.links + 1))).pub=setP t1.pub (fileS t.pub c.path).1 (fL 1):=pubSet hn1 hj1 hjn (f:=fL 1) rfl
   rw [← hp2] at hT1
   have hl1:=(wf.at' h4).1.lpos
   have hl2:=(wf.at' h4).1.lfew
   refine ⟨.pointer (some ⟨x.nb,0,none⟩),HP.tt,_,_,rfl,⟨fun h=>absurd hc h,fun _ => ?_⟩,HP.tt_sep H⟩
   refine putTail hi h2 _ _ ?_
   rw [ht1]
   refine ⟨y.nb,nilChk',y.p.links,rdU (ldLinks (List.mem_of_getElem? hj1)),inI64' _ (by omega) (by omega),fun _=>⟨y.nb,nilChk',?_⟩⟩
   refine (linkStore (b:=b) hj1 (y.p.links + 1)).weak (fun _ _ H=>HP.sep_right H) ?_
   rintro v R h ⟨rfl,H⟩
   exact ⟨HP.tt,_,rfl,.of fun R h H=>⟨_,⟨by rw [← hT1],by rw [← hT1]⟩,H⟩,HP.tt_sep H⟩
  ·refine ⟨.pointer none,HP.tt,(placeS t.pub c.other).2.1,(placeS t.pub c.other).2.2,?_,⟨fun _ => .of fun R h H=>⟨t,⟨?_,?_⟩,H⟩,fun h=>absurd h hc⟩,HP.tt_sep H⟩
   ·rw [if_neg hc]; rfl
   ·rw [if_pos hc] at hT1; rw [← hT1]
   ·rw [if_pos hc] at hT1; rw [← hT1]
 ·refine ⟨.pointer none,HP.tt,(fileS t.pub c.path).1,(fileS t.pub c.path).2,?_,⟨fun _ => .of fun R h H=>⟨t,⟨?_,?_⟩,H⟩,fun h=>absurd h hf⟩,HP.tt_sep H⟩
  ·rw [if_neg hf]; rfl
  ·rw [if_pos hf] at hT1; rw [← hT1]
  ·rw [if_pos hf] at hT1; rw [← hT1]
set_option maxHeartbeats 1000000 in
theorem tRename_ok {B:Nat} (wf:TWf B t.pub) (c:CallM) (S:HP):Tri Tryz.prog 65 #[.pointer (some ⟨b,0,none⟩),c.val] (HP.sep (TRep b t) S)
  (fun v=>HP.ex fun t':TS=>HP.and (v = .int .i64 (renameS t.pub c.path c.other).2 ∧ t'.pub=(renameS t.pub c.path c.other).1) (HP.sep (TRep b t') S)):=by
 refine tri_of_tree (ρ:=[.n b,.p (TRep b t),.i c.kind,.s c.path,.s c.other,.i c.off,.i c.n,.a c.da,.n c.dl,.n c.dc,.p S]) mixed Tryz.func65 tree_tRename ?_
 unfold t_tRename
 simp only [T.den,E.prop,E.den,RX.look,F1.app,F2.app,Uni.int_i,Uni.nat_n,Uni.bool_c,Uni.str_s,Uni.adr_a,Uni.val_v,Uni.hp_p,hden,cden,V.den,W.den,A.den,BR.den,SA.den,FV.den,capV,exs,exP,allP,Cur.app,List.map_cons,List.map_nil,List.cons_append,List.nil_append,List.drop_succ_cons,List.drop_zero,List.length_cons,List.length_nil,Nat.zero_add,Nat.reduceAdd,Int.neg_neg,Bool.not_not,List.append_nil,Nat.add_zero,List.getElem?_cons_zero,List.getElem?_cons_succ,Decidable.not_not,semW_eq,semW_load,semW_update,semW_updateC,semW_updateK,semW_delete,semW_nil,ne_eq,Nat.reduceEqDiff,not_false_eq_true]
 intro x0
 refine (tEntry_ok wf c.path).weak (fun _ _ h=>h) ?_
 rintro v R h ⟨rfl,H⟩
 obtain ⟨T1,hT1⟩ : ∃ q,renameS t.pub c.path c.other=q:=⟨_,rfl⟩
 rw [hT1]
 unfold renameS at hT1
 by_cases hc:(entryS t.pub c.path).2.2.2=0
 ·rw [if_neg (by simp [hc])] at hT1
  rw [if_pos hc]
  obtain ⟨xn,h1,h2,h3,-⟩:=entry_ok' hc
  obtain ⟨x,i,hi,rfl,hin,hih,hip,him⟩:=hnIdx h1
  rw [hip]
  refine ⟨.pointer (some ⟨x.nb,0,none⟩),HP.tt,_,_,_,rfl,⟨fun h=>absurd hc h,fun _=>⟨fun he => .of fun R h H=>⟨t,⟨?_,?_⟩,H⟩,fun he => ?_⟩⟩,HP.tt_sep H⟩
  ·rw [if_pos he] at hT1; rw [← hT1]
  ·rw [if_pos he] at hT1; rw [← hT1]
  rw [if_neg he] at hT1
  refine (pInside_ok c.other c.path).weak (fun _ _ h=>h) ?_
  rintro v R h rfl
  refine ⟨insideP c.other c.path,rfl,⟨fun hs => .of fun R h H=>⟨t,⟨?_,?_⟩,H⟩,fun hs => ?_⟩,trivial⟩
  ·rw [if_pos hs] at hT1; rw [← hT1]
  ·rw [if_pos hs] at hT1; rw [← hT1]
  rw [if_neg hs] at hT1
  refine (tPlace_ok wf c.other).weak (fun _ _ h=>h) ?_
  rintro v R h ⟨rfl,H⟩
  by_cases hd:(placeS t.pub c.other).2.2=0
  ·rw [if_neg (by simp [hd])] at hT1
   rw [if_pos hd]
   obtain ⟨yn,g1,g2,-⟩:=place_at hd
   obtain ⟨y,j,hj,rfl,hjn,hjh,hjp,hjm⟩:=hnIdx g1
   rw [hjp]
   have hj1:=setN_at (z:=x.setE (dropE (entryS t.pub c.path).2.1 x.p.ents)) hi hj
   obtain ⟨z,hz,hzn,hzk,hzb⟩ : ∃ z,(if i=j then x.setE (dropE (entryS t.pub c.path).2.1 x.p.ents) else y)=z ∧ z.p.num=(placeS t.pub c.other).1 ∧ z.p.kind=1 ∧ z.nb=y.nb:=by
    split
    ·rename_i e; subst e; rw [hi] at hj; cases hj
     exact ⟨_,rfl,hjn,g2,rfl⟩
    ·exact ⟨_,rfl,hjn,g2,rfl⟩
   rw [hz] at hj1
   have hp1:(t.setN i (x.setE (dropE (entryS t.pub c.path).2.1 x.p.ents))).pub=setP t.pub (entryS t.pub c.path).1 (fE (dropE (entryS t.pub c.path).2.1)):=pubSet wf.nd hi hin (f:=fE (dropE (entryS t.pub c.path).2.1)) rfl
   have hn1:=(pubNums (y:=x.setE (dropE (entryS t.pub c.path).2.1 x.p.ents)) hi rfl) ▸ wf.nd
   rw [← hp1] at hT1
   obtain ⟨t1,ht1⟩ : ∃ q,t.setN i (x.setE (dropE (entryS t.pub c.path).2.1 x.p.ents))=q:=⟨_,rfl⟩
   rw [ht1] at hp1 hj1 hT1 hn1
   have hp2:(t1.setN j (z.setE (putE (placeS t.pub c.other).2.1 (entryS t.pub c.path).2.2.1 z.p.ents))).pub=setP t1.pub (placeS t.pub c.other).1 (fE (putE (placeS t.pub c.other).2.1 (entryS t.pub c.path).2.2.1)):=pubSet hn1 hj1 hzn (f:=fE (putE (placeS t.pub c.other).2.1 (entryS t.pub c.path).2.2.1)) rfl
   rw [← hp2] at hT1
   refine ⟨.pointer (some ⟨y.nb,0,none⟩),HP.tt,_,_,rfl,⟨fun h=>absurd hd h,fun _ => ?_⟩,HP.tt_sep H⟩
   refine delTail hi h2 _ _ _ rfl ?_
   rw [ht1,← hzb]
   exact putTail hj1 hzk _ _ (.of fun R h H=>⟨_,⟨by rw [← hT1],by rw [← hT1]⟩,H⟩)
  ·refine ⟨.pointer none,HP.tt,(placeS t.pub c.other).2.1,(placeS t.pub c.other).2.2,?_,⟨fun _ => .of fun R h H=>⟨t,⟨?_,?_⟩,H⟩,fun h=>absurd h hd⟩,HP.tt_sep H⟩
   ·rw [if_neg hd]; rfl
   ·rw [if_pos hd] at hT1; rw [← hT1]
   ·rw [if_pos hd] at hT1; rw [← hT1]
 ·refine ⟨.pointer none,HP.tt,(entryS t.pub c.path).2.1,(entryS t.pub c.path).2.2.1,(entryS t.pub c.path).2.2.2,?_,⟨fun _ => .of fun R h H=>⟨t,⟨?_,?_⟩,H⟩,fun h=>absurd h hc⟩,HP.tt_sep H⟩
  ·rw [if_neg hc]; rfl
  ·rw [if_pos hc] at hT1; rw [← hT1]
  ·rw [if_pos hc] at hT1; rw [← hT1]
end Go.Proofs.YtdieogcemmnaaaaGreatDoor

namespace Go.Proofs.YtdieogcemmnaaaaGreatDoor
set_option linter.unusedSimpArgs false
set_option linter.unusedVariables false
open Go.Proofs.YtdieogcemmnaaaaGreatDoor RX
set_option maxRecDepth 100000
variable {b:Nat} {t:TS}
theorem semW_sllo {i j:Nat} {t ty:TypeId} {u v:Value} (h:i ≠ j):semW (.slice t (.tmp i) (some (.tmp j)) none none) ty [(i,u),(j,v)]=sliceS t u (some v) none none:=by
 have hb:(i == j)=false:=by simpa using h
 simp [semW,execOp,arW,sliceS,List.find?,hb]
structure CallD (c:CallM) (S:HP) (d:List UInt8):Prop where
 rd:RdL S c.da c.dl (d.map u8v)
 len:d.length=c.dl
 some':c.dl ≠ 0 → c.da.isSome=true
set_option maxHeartbeats 1000000 in
theorem tCut_ok {B:Nat} (wf:TWf B t.pub) (c:CallM) (S:HP):Tri Tryz.prog 68 #[.pointer (some ⟨b,0,none⟩),c.val] (HP.sep (TRep b t) S)
  (fun v=>HP.ex fun t':TS=>HP.and (v = .int .i64 (cutS t.pub c.path c.n).2 ∧ t'.pub=(cutS t.pub c.path c.n).1) (HP.sep (TRep b t') S)):=by
 refine tri_of_tree (ρ:=[.n b,.p (TRep b t),.i c.kind,.s c.path,.s c.other,.i c.off,.i c.n,.a c.da,.n c.dl,.n c.dc,.p S]) mixed Tryz.func68 tree_tCut ?_
 unfold t_tCut
 simp only [T.den,E.prop,E.den,RX.look,F1.app,F2.app,Uni.int_i,Uni.nat_n,Uni.bool_c,Uni.str_s,Uni.adr_a,Uni.val_v,Uni.hp_p,hden,cden,V.den,W.den,A.den,BR.den,SA.den,FV.den,capV,exs,exP,allP,Cur.app,List.map_cons,List.map_nil,List.cons_append,List.nil_append,List.drop_succ_cons,List.drop_zero,List.length_cons,List.length_nil,Nat.zero_add,Nat.reduceAdd,Int.neg_neg,Bool.not_not,List.append_nil,Nat.add_zero,List.getElem?_cons_zero,List.getElem?_cons_succ,Decidable.not_not,semW_eq,ne_eq,Nat.reduceEqDiff,not_false_eq_true]
 intro x0
 refine (tFile_ok wf c.path).weak (fun _ _ h=>h) ?_
 rintro v R h ⟨rfl,H⟩
 obtain ⟨T1,hT1⟩ : ∃ q,cutS t.pub c.path c.n=q:=⟨_,rfl⟩
 rw [hT1]
 unfold cutS at hT1
 by_cases hf:(fileS t.pub c.path).2=0
 ·rw [if_neg (by simp [hf])] at hT1
  rw [if_pos hf]
  obtain ⟨n,h4,hk2,-⟩:=file_at wf hf
  obtain ⟨y,j,hj,rfl,hjn,hjh,hjp,hjm⟩:=hnIdx h4
  rw [hjp]
  refine ⟨.pointer (some ⟨y.nb,0,none⟩),HP.tt,_,_,rfl,⟨fun h=>absurd hf h,fun _=>⟨fun h => .of fun R' h' H=>⟨t,⟨?_,?_⟩,H⟩,fun hn0=>⟨fun h => .of fun R' h' H=>⟨t,⟨?_,?_⟩,H⟩,fun hn1 => ?_⟩⟩⟩,HP.tt_sep H⟩
  ·rw [if_pos h] at hT1; rw [← hT1]
  ·rw [if_pos h] at hT1; rw [← hT1]
  ·rw [if_neg hn0,if_pos h] at hT1; rw [← hT1]
  ·rw [if_neg hn0,if_pos h] at hT1; rw [← hT1]
  rw [if_neg hn0,if_neg hn1] at hT1
  obtain ⟨k,hk⟩:=Int.eq_ofNat_of_zero_le (Int.not_lt.1 hn0)
  rw [hk] at hT1 ⊢
  refine (tResize_ok hj k (by omega)).weak (fun _ _ H=>HP.sep_right H) ?_
  rintro v R h ⟨a',c',⟨rfl,ha⟩,H⟩
  refine ⟨HP.tt,_,rfl,.of fun R h H=>⟨_,⟨by rw [← hT1],?_⟩,H⟩,HP.tt_sep H⟩
  rw [← hT1]
  exact pubSet wf.nd hj hjn (f:=fD fun l=>sizeD l (k:Int).toNat) rfl
 ·refine ⟨.pointer none,HP.tt,(fileS t.pub c.path).1,(fileS t.pub c.path).2,?_,⟨fun _ => .of fun R h H=>⟨t,⟨?_,?_⟩,H⟩,fun h=>absurd h hf⟩,HP.tt_sep H⟩
  ·rw [if_neg hf]; rfl
  ·rw [if_pos hf] at hT1; rw [← hT1]
  ·rw [if_pos hf] at hT1; rw [← hT1]
set_option maxHeartbeats 1000000 in
theorem tWrite_ok {B:Nat} (wf:TWf B t.pub) (c:CallM) (S:HP) (d:List UInt8) (hd:CallD c S d):Tri Tryz.prog 66 #[.pointer (some ⟨b,0,none⟩),c.val] (HP.sep (TRep b t) S)
  (fun v=>HP.ex fun t':TS=>HP.and (v = .int .i64 (writeS t.pub c.path c.off d).2 ∧ t'.pub=(writeS t.pub c.path c.off d).1) (HP.sep (TRep b t') S)):=by
 refine tri_of_tree (ρ:=[.n b,.p (TRep b t),.i c.kind,.s c.path,.s c.other,.i c.off,.i c.n,.a c.da,.n c.dl,.n c.dc,.p S]) mixed Tryz.func66 tree_tWrite ?_
 unfold t_tWrite
 simp only [T.den,E.prop,E.den,RX.look,F1.app,F2.app,Uni.int_i,Uni.nat_n,Uni.bool_c,Uni.str_s,Uni.adr_a,Uni.val_v,Uni.hp_p,hden,cden,V.den,W.den,A.den,BR.den,SA.den,FV.den,capV,exs,exP,allP,Cur.app,List.map_cons,List.map_nil,List.cons_append,List.nil_append,List.drop_succ_cons,List.drop_zero,List.length_cons,List.length_nil,Nat.zero_add,Nat.reduceAdd,Int.neg_neg,Bool.not_not,List.append_nil,Nat.add_zero,List.getElem?_cons_zero,List.getElem?_cons_succ,Decidable.not_not,semW_eq,semW_load,semW_nil,ne_eq,Nat.reduceEqDiff,not_false_eq_true]
 intro x0
 refine (tFile_ok wf c.path).weak (fun _ _ h=>h) ?_
 rintro v R h ⟨rfl,H⟩
 obtain ⟨T1,hT1⟩ : ∃ q,writeS t.pub c.path c.off d=q:=⟨_,rfl⟩
 rw [hT1]
 unfold writeS at hT1
 by_cases hf:(fileS t.pub c.path).2=0
 ·rw [if_neg (by simp [hf])] at hT1
  rw [if_pos hf]
  obtain ⟨n,h4,hk2,-⟩:=file_at wf hf
  obtain ⟨y,j,hj,rfl,hjn,hjh,hjp,hjm⟩:=hnIdx h4
  rw [hjp]
  have hlen:=hd.len
  refine ⟨.pointer (some ⟨y.nb,0,none⟩),HP.tt,_,_,rfl,⟨fun h=>absurd hf h,fun _=>⟨fun h => .of fun R h H=>⟨t,⟨?_,?_⟩,H⟩,fun hn0=>⟨fun h => .of fun R h H=>⟨t,⟨?_,?_⟩,H⟩,fun hn1=>⟨inI64' _ (by omega) (by omega),fun _=>⟨fun h => .of fun R h H=>⟨t,⟨?_,?_⟩,H⟩,fun hn2=>⟨fun h => .of fun R h H=>⟨t,⟨?_,?_⟩,H⟩,fun hn3 => ?_⟩⟩⟩⟩⟩⟩,HP.tt_sep H⟩
  ·rw [if_pos (by omega)] at hT1; rw [← hT1]
  ·rw [if_pos (by omega)] at hT1; rw [← hT1]
  ·rw [if_pos (by omega)] at hT1; rw [← hT1]
  ·rw [if_pos (by omega)] at hT1; rw [← hT1]
  ·rw [if_neg (by omega),if_pos (by omega)] at hT1; rw [← hT1]
  ·rw [if_neg (by omega),if_pos (by omega)] at hT1; rw [← hT1]
  ·rw [if_neg (by omega),if_neg (by omega),if_pos (List.length_eq_zero_iff.1 (by omega))] at hT1; rw [← hT1]
  ·rw [if_neg (by omega),if_neg (by omega),if_pos (List.length_eq_zero_iff.1 (by omega))] at hT1; rw [← hT1]
  rw [if_neg (by omega),if_neg (by omega),if_neg (fun e=>by rw [e] at hlen; simp at hlen; omega)] at hT1
  obtain ⟨k,hk⟩:=Int.eq_ofNat_of_zero_le (Int.not_lt.1 hn0)
  rw [hk] at hT1 hn2 ⊢
  have hN:max (y.p.data.length:Int) (k + c.dl)=((max y.p.data.length (k + c.dl):Nat):Int):=by omega
  have hNb:max y.p.data.length (k + c.dl) ≤ 100000:=by have:=(wf.at' h4).1.data; omega
  refine ⟨y.nb,nilChk',y.da,y.p.data.length,y.dc,rdU (ldData hjm),inI64' _ (by omega) (by omega),fun _ => ?_⟩
  rw [hN]
  refine (tResize_ok hj _ hNb).weak (fun _ _ H=>HP.sep_right H) ?_
  rintro v R h ⟨a',c',⟨rfl,ha⟩,H⟩
  obtain ⟨y1,hy1⟩ : ∃ q,y.setD a' c' (sizeD y.p.data (max y.p.data.length (k + c.dl)))=q:=⟨_,rfl⟩
  have hy1d:y1.p.data=sizeD y.p.data (max y.p.data.length (k + c.dl)):=by rw [← hy1]; rfl
  have hy1l:y1.p.data.length=max y.p.data.length (k + c.dl):=by rw [hy1d,sizeD_len]
  have hj1:(t.setN j y1).ns[j]? = some y1:=by have:=setN_at (z:=y1) hj hj; rwa [if_pos rfl] at this
  have hjm1:=List.mem_of_getElem? hj1
  have hnb:y1.nb=y.nb:=by rw [← hy1]; rfl
  have hda:y1.da=a':=by rw [← hy1]; rfl
  rw [hy1] at H
  have hcap:y1.p.data.length ≤ y1.dc:=OwC.le (HP.sep_left (HP.sep_right (TRep.node H hjm1)))
  refine ⟨HP.tt,_,rfl,?_,HP.tt_sep H⟩
  obtain ⟨j8,hj8,z1,z2,z3⟩:=info_parts info8
  have hcd:k < y1.dc:=by omega
  have sl:=slice_ok undB8 hj8 (HP.sep HP.tt (TRep b (t.setN j y1))) y1.da y1.p.data.length y1.dc (some k) none none (by simp; omega) (by simpa using hcap) (Nat.le_refl _) (fun h=>by cases h)
  simp only [Option.getD_some,Option.getD_none,if_neg (show ¬ y1.dc=k by omega),show szT Tryz.prog 5=1 from by kernel_rfl,Nat.mul_one] at sl
  rw [← hnb]
  refine ⟨y1.nb,nilChk',y1.da,y1.p.data.length,y1.dc,rdU (ldData hjm1),y1.da.map (fun x=>x.add k),y1.p.data.length - k,y1.dc - k,?_,?_⟩
  ·rw [semW_sllo (by decide)]; exact sl
  rw [semW_copy (by decide)]
  have cp:=cpData (b:=b) (S:=S) hj1 (ty:=3) (o:=k) (dl:=y1.p.data.length - k) (dc:=y1.dc - k) (m:=c.dl) (c2:=c.dc) (d:=d) hd.rd hd.len hd.some' (fun e=>by have:=hd.some' (by omega); rw [e] at this; cases this) (by rw [hda]; exact ha) (by omega)
  have hmin:min c.dl (y1.p.data.length - k)=c.dl:=by omega
  rw [hmin] at cp
  refine cp.weak (fun _ _ H=>HP.sep_right H) ?_
  rintro v R h ⟨rfl,H⟩
  refine ⟨_,HP.tt,_,rfl,.of fun R h H=>⟨_,⟨by rw [← hT1],?_⟩,H⟩,HP.tt_sep H⟩
  rw [← hT1]
  have e1:((t.setN j y1).setN j (y1.setD y1.da y1.dc (y1.p.data.take k ++ d.take c.dl ++ y1.p.data.drop (k + c.dl))))=t.setN j (y1.setD y1.da y1.dc (y1.p.data.take k ++ d.take c.dl ++ y1.p.data.drop (k + c.dl))):=by
   unfold TS.setN; simp only [List.set_set]
  rw [e1]
  refine pubSet wf.nd hj hjn (f:=fD (wrote (k:Int).toNat d)) ?_
  have e2:y1.p.data.take k ++ d.take c.dl ++ y1.p.data.drop (k + c.dl)=wrote (k:Int).toNat d y.p.data:=by
   rw [hy1d]
   unfold wrote
   rw [hlen,List.take_of_length_le (Nat.le_of_eq hlen)]
   rfl
  rw [e2,← hy1]; rfl
 ·refine ⟨.pointer none,HP.tt,(fileS t.pub c.path).1,(fileS t.pub c.path).2,?_,⟨fun _ => .of fun R h H=>⟨t,⟨?_,?_⟩,H⟩,fun h=>absurd h hf⟩,HP.tt_sep H⟩
  ·rw [if_neg hf]; rfl
  ·rw [if_pos hf] at hT1; rw [← hT1]
  ·rw [if_pos hf] at hT1; rw [← hT1]
end Go.Proofs.YtdieogcemmnaaaaGreatDoor

namespace Go.Proofs.YtdieogcemmnaaaaGreatDoor
set_option linter.unusedSimpArgs false
set_option linter.unusedVariables false
open Go.Proofs.YtdieogcemmnaaaaGreatDoor RX
set_option maxRecDepth 100000
variable {b:Nat} {t:TS}
def readS (T:List Nd) (path:Nm) (off n:Int):Int × List UInt8 :=
 if (fileS T path).2 ≠ 0 then ((fileS T path).2,[]) else if off < 0 ∨ n < 0 ∨ 256 < n then (1,[]) else match nodeAt T (fileS T path).1 with
  | none=>(0,[])
  | some x=>(0,(x.data.drop off.toNat).take n.toNat)
structure AnsM where
 err:Int:=0
 kind:Int:=0
 size:Int:=0
 links:Int:=0
 data:List UInt8:=[]
 names:List Nm:=[]
def AnsM.at (a:AnsM) (da:Option Addr) (dc:Nat) (na:Option Addr) (nc:Nat):Value :=
 .agg #[.int .i64 a.err,.int .i64 a.kind,.int .i64 a.size,.int .i64 a.links,.slice da a.data.length dc,.slice na a.names.length nc]
def HP.conj (A:HP) (C:HP):HP:=⟨fun R h=>A.p R h ∧ C.p R h,fun l1 l2 ⟨h1,h2⟩=>⟨A.mono l1 l2 h1,C.mono l1 l2 h2⟩⟩
theorem Tri.draw {P:Program} {f:FuncId} {args:Array Value} {A:HP} {B:Value → HP} {α:Type} {A':α → HP} (h : ∀ R h,A.p R h → ∃ x,(A' x).p R h) (t : ∀ x,Tri P f args (A' x) B):Tri P f args A B:=fun w R hh F s a=>by
 obtain ⟨x,hx⟩:=h R hh a
 exact t x w R hh F s hx
theorem sort_eq {α:Type} [LT α] [LE α] [DecidableRel (α:=α) (· ≤ ·)] (tr : ∀ a b c:α,a ≤ b → b ≤ c → a ≤ c) (tot : ∀ a b:α,a ≤ b ∨ b ≤ a) (anti : ∀ a b:α,a ≤ b → b ≤ a → a=b) {ys zs:List α} (h:ys.Perm zs) (hs:zs.Pairwise (· ≤ ·)):(ys.mergeSort fun x y=>decide (x ≤ y))=zs:=by
 refine List.Perm.eq_of_pairwise (le:=(· ≤ ·)) (fun a b _ _=>anti a b) ?_ hs ((List.mergeSort_perm ys _).trans h)
 have:=List.pairwise_mergeSort (le:=fun x y:α=>decide (x ≤ y)) (fun a b c h1 h2=>by simp only [decide_eq_true_eq] at *; exact tr a b c h1 h2) (fun a b=>by simpa using tot a b) ys
 exact this.imp fun h=>by simpa using h
theorem entsDraw {x:HN} (hx:x ∈ t.ns) {X:HP} {R h:PH} (H:(HP.sep X (TRep b t)).p R h) : ∃ q:AL Nm × Nat,(HP.sep X (HP.conj (TRep b t) ⟨fun _ h=>x.p.kind=1 → MapI q.1 q.2 ∧ (∀ k,alFind k q.1=(lk x.p.ents k).map fun n=>Value.int .i64 n) ∧ h x.mb=some (mapObj sE q.1 q.2),fun _ l hh hd=>⟨(hh hd).1,(hh hd).2.1,l _ _ (hh hd).2.2⟩⟩)).p R h:=by
 obtain ⟨h1,h2,d,l1,l2,H1,H2⟩:=H
 by_cases hd:x.p.kind=1
 ·obtain ⟨l,c,hI,hk,hh⟩:=NRep.emap (TRep.node H2 hx) hd
  exact ⟨(l,c),h1,h2,d,l1,l2,H1,H2,fun _=>⟨hI,hk,hh⟩⟩
 ·exact ⟨([],0),h1,h2,d,l1,l2,H1,H2,fun e=>absurd e hd⟩
theorem sortedEnts {B:Nat} {x:HN} (hx:x ∈ t.ns) (g:GoodN B x.p) (hB:B ≤ 100000) (kx:Nat) :
  Tri Tryz.prog 74 #[.func (.func 138) #[] #[.pointer (some ⟨kx,0,none⟩)]] (HP.sep (KBoxS kx x.mapo) (TRep b t))
   (fun v=>HP.ex fun a=>HP.ex fun cc=>HP.and (v = .slice a x.p.ents.length cc) (HP.sep (OwS a x.p.ents.length cc (x.p.ents.map (·.1))) (HP.sep (KBoxS kx x.mapo) (TRep b t)))):=by
 by_cases hd:x.p.kind=1
 ·refine Tri.draw (fun R h H=>entsDraw hx H) fun q => ?_
  obtain ⟨l,c⟩:=q
  refine Tri.fact (φ:=MapI l c ∧ ∀ k,alFind k l=(lk x.p.ents k).map fun n=>Value.int .i64 n) (fun R h H=>⟨((HP.sep_right H).2 hd).1,((HP.sep_right H).2 hd).2.1⟩) fun ⟨hI,hk⟩ => ?_
  have hlen:=EntM.len (mb:=0) (nodupE g.sort) hI hk
  have hmo:x.mapo=some x.mb:=by unfold HN.mapo; rw [if_pos hd]
  have:=g.efew
  refine (sortedS_ok kx x.mapo l c _ hI (fun y hy => ?_) (fun mb e R h H => ?_) (fun e=>by rw [hmo] at e; cases e) (by omega)).weak (fun _ _ h=>h) ?_
  ·obtain ⟨k,v,z⟩:=y
   have h1:=alFind_mem k v z l hI.1 hy
   rw [hk] at h1
   obtain ⟨n,_,h2⟩:=Option.map_eq_some_iff.1 h1
   exact ⟨n,h2.symm⟩
  ·rw [hmo] at e; cases e
   exact (H.2 hd).2.2
  ·rintro v R h ⟨ys,a,cc,⟨hp,rfl⟩,H⟩
   have hp2:ys.Perm (x.p.ents.map (·.1)):=hp.trans (al_perm hI.1 (nodupE g.sort) (lk x.p.ents) (fun k=>by rw [hk]; cases lk x.p.ents k <;> rfl) (fun k=>lk_keys k x.p.ents))
   rw [sort_eq (fun a b c=>List.le_trans) (fun a b=>List.le_total a b) (fun a b=>List.le_antisymm) hp2 (g.sort.imp fun h=>List.le_of_lt h)] at H
   have hl:ys.length=x.p.ents.length:=by rw [hp2.length_eq,List.length_map]
   rw [hl] at H ⊢
   exact ⟨a,cc,rfl,HP.sep_mono H (fun _ h=>h) fun z hz=>HP.sep_mono hz (fun _ h=>h) fun u hu=>hu.1⟩
 ·have he:x.p.ents=[]:=by
   rcases g.kind with ⟨h,_⟩ | ⟨_,h⟩
   ·exact absurd h hd
   ·exact h
  have hmo:x.mapo=none:=by unfold HN.mapo; rw [if_neg hd]
  refine (sortedS_ok kx x.mapo [] 0 (TRep b t) (MapI.nil 0) (fun y hy=>by cases hy) (fun mb e R h H=>by rw [hmo] at e; cases e) (fun e=>rfl) (by simp)).weak (fun _ _ h=>h) ?_
  rintro v R h ⟨ys,a,cc,⟨hp,rfl⟩,H⟩
  have:ys=[]:=List.Perm.eq_nil (by simpa using hp)
  subst this
  rw [he]
  rw [List.mergeSort_nil] at H
  exact ⟨a,cc,rfl,H⟩
theorem nodsDraw {X:HP} {R h:PH} (H:(HP.sep X (TRep b t)).p R h) : ∃ q:AL Int × Nat,(HP.sep X (HP.conj (TRep b t) ⟨fun _ h=>MapI q.1 q.2 ∧ (∀ k,alFind k q.1=nodeV t.ns k) ∧ h t.mb=some (mapObj i64v q.1 q.2),fun _ l hh=>⟨hh.1,hh.2.1,l _ _ hh.2.2⟩⟩)).p R h:=by
 obtain ⟨h1,h2,d,l1,l2,H1,H2⟩:=H
 obtain ⟨l,c,hI,hk,hh⟩:=TRep.nmap H2
 exact ⟨(l,c),h1,h2,d,l1,l2,H1,H2,hI,hk,hh⟩
theorem TWf.few {B:Nat} {t:TS} (wf:TWf B t.pub):t.ns.length ≤ 64:=by
 have hp:((t.ns.map fun x=>(x.p.num:Int))).length ≤ 64:=by
  have hsub:((t.pub.map (·.num)).filter fun k=>decide (k < 64)).Perm ((List.range 64).filter fun k=>(nodeAt t.pub k).isSome):=by
   refine (List.perm_ext_iff_of_nodup (wf.nd.sublist List.filter_sublist) (List.nodup_range.sublist List.filter_sublist)).2 fun k => ?_
   rw [List.mem_filter,List.mem_filter,List.mem_range]
   constructor
   ·rintro ⟨h1,h2⟩
    obtain ⟨n,hn,rfl⟩:=List.mem_map.1 h1
    exact ⟨by simpa using h2,by rw [mem_nodeAt wf.nd hn]; rfl⟩
   ·rintro ⟨h1,h2⟩
    obtain ⟨n,hn⟩:=Option.isSome_iff_exists.1 h2
    exact ⟨List.mem_map.2 ⟨n,(nodeAt_mem hn).1,(nodeAt_mem hn).2⟩,by simpa using h1⟩
  have h1:=hsub.length_eq
  have h2:=List.length_filter_le (fun k=>(nodeAt t.pub k).isSome) (List.range 64)
  have h3:((t.pub.map (·.num)).filter fun k=>decide (k < 64))=t.pub.map (·.num):=by
   rw [List.filter_eq_self]
   intro k hk
   obtain ⟨n,hn,rfl⟩:=List.mem_map.1 hk
   simpa using (wf.good n hn).num
  rw [h3,List.length_map] at h1
  rw [show t.pub.length=t.ns.length from by unfold TS.pub; rw [List.length_map]] at h1
  rw [List.length_range] at h2
  rw [List.length_map]; omega
 simpa using hp
theorem sortedNodes {B:Nat} (wf:TWf B t.pub) (kx:Nat) :
  Tri Tryz.prog 71 #[.func (.func 135) #[] #[.pointer (some ⟨kx,0,none⟩)]] (HP.sep (KBoxI kx (some t.mb)) (TRep b t))
   (fun v=>HP.ex fun a=>HP.ex fun cc=>HP.and (v = .slice a t.ns.length cc) (HP.sep (OwI a t.ns.length cc (t.ns.map fun x=>(x.p.num:Int))) (HP.sep (KBoxI kx (some t.mb)) (TRep b t)))):=by
 have hs:(t.ns.map fun x=>(x.p.num:Int)).Pairwise (· < ·):=by
  have h1:=wf.sorted
  unfold TS.pub at h1
  rw [List.map_map] at h1
  have e:(t.ns.map fun x=>(x.p.num:Int))=(t.ns.map ((fun n:Nd=>n.num) ∘ fun x:HN=>x.p)).map (fun n:Nat=>(n:Int)):=by rw [List.map_map]; rfl
  rw [e]
  exact List.Pairwise.map _ (fun a b h=>by exact_mod_cast h) h1
 have hnd:(t.ns.map fun x=>(x.p.num:Int)).Nodup:=hs.imp fun h=>by omega
 have hlen64:=wf.few
 refine Tri.draw (fun R h H=>nodsDraw H) fun q => ?_
 obtain ⟨l,c⟩:=q
 refine Tri.fact (φ:=MapI l c ∧ ∀ k,alFind k l=nodeV t.ns k) (fun R h H=>⟨(HP.sep_right H).2.1,(HP.sep_right H).2.2.1⟩) fun ⟨hI,hk⟩ => ?_
 have hp1:(l.map (·.1)).Perm (t.ns.map fun x=>(x.p.num:Int)):=al_perm hI.1 hnd (nodeV t.ns) (fun k=>by rw [hk]) fun k=>by
  unfold nodeV
  rw [Option.isSome_map,List.find?_isSome]
  simp [List.mem_map]
 have hlen:l.length=t.ns.length:=by simpa using hp1.length_eq
 refine (sortedI_ok kx (some t.mb) l c _ hI (fun y hy => ?_) (fun mb e R h H=>by cases e; exact H.2.2.2) (fun e=>by cases e) (by omega)).weak (fun _ _ h=>h) ?_
 ·obtain ⟨k,v,z⟩:=y
  have h1:=alFind_mem k v z l hI.1 hy
  rw [hk] at h1
  obtain ⟨n,_,h2⟩:=Option.map_eq_some_iff.1 h1
  exact ⟨n.nb,h2.symm⟩
 ·rintro v R h ⟨ys,a,cc,⟨hp,rfl⟩,H⟩
  rw [sort_eq (fun a b c=>Int.le_trans) (fun a b=>Int.le_total a b) (fun a b=>Int.le_antisymm) (hp.trans hp1) (hs.imp fun h=>Int.le_of_lt h)] at H
  have hl:ys.length=t.ns.length:=by rw [hp.length_eq,List.length_map,hlen]
  rw [hl] at H ⊢
  exact ⟨a,cc,rfl,HP.sep_mono H (fun _ h=>h) fun z hz=>HP.sep_mono hz (fun _ h=>h) fun u hu=>hu.1⟩
theorem RdL.sub {S:HP} {a:Option Addr} {n:Nat} {xs:List Value} (r:RdL S a n xs) (o k:Nat) (hk:o + k ≤ n) (z:Prop) [Decidable z] (hz:z → k=0):RdL S (if z then a else a.map fun x=>x.add o) k ((xs.drop o).take k) where
 rd w R h F s H j u hj:=by
  rw [List.getElem?_take] at hj
  split at hj
  ·rename_i hjk
   rw [List.getElem?_drop] at hj
   obtain ⟨g,off,rfl,hc⟩:=r.rd w R h F s H (o + j) u hj
   rw [if_neg (fun h=>by have:=hz h; omega)]
   refine ⟨g,off + o,by rw [Option.map_some,RX.addr_add],?_⟩
   rw [Nat.add_assoc]; exact hc
  ·cases hj
 none R h H e:=by
  split at e
  ·rename_i h; exact hz h
  ·have:=r.none R h H (by simpa using e)
   omega
theorem semW_sllh {i j k:Nat} {t ty:TypeId} {u v x:Value} (h:i ≠ j) (h2:i ≠ k) (h3:j ≠ k):semW (.slice t (.tmp i) (some (.tmp j)) (some (.tmp k)) none) ty [(i,u),(j,v),(k,x)]=sliceS t u (some v) (some x) none:=by
 have hb:(i == j)=false:=by simpa using h
 have hb2:(i == k)=false:=by simpa using h2
 have hb3:(j == k)=false:=by simpa using h3
 simp [semW,execOp,arW,sliceS,List.find?,hb,hb2,hb3]
def AnsR (da:Option Addr) (dc:Nat) (na:Option Addr) (nc:Nat) (a:AnsM):HP:=HP.sep (OwB da a.data.length dc a.data) (OwS na a.names.length nc a.names)
theorem AnsR.nil {a:AnsM} (hd:a.data=[]) (hn:a.names=[]) {A:HP} {R h:PH} (H:A.p R h):(HP.sep (OwB none a.data.length 0 a.data) (HP.sep (OwS none a.names.length 0 a.names) A)).p R h:=by
 rw [hd,hn]
 exact HP.sep_mono (HP.tt_sep H) (fun _ _=>OwC.nil _ _ _ _) fun z hz=>HP.sep_mono (HP.tt_sep hz) (fun _ _=>OwC.nil _ _ _ _) fun _ h=>h
def Told (b:Nat) (t:TS) (S:HP) (a:AnsM) (v:Value):HP:=HP.ex fun da=>HP.ex fun dc=>HP.ex fun na=>HP.ex fun nc=>HP.and (v=a.at da dc na nc) (HP.sep (OwB da a.data.length dc a.data) (HP.sep (OwS na a.names.length nc a.names) (HP.sep (TRep b t) S)))
theorem Told.nil {S:HP} {a:AnsM} {v:Value} (hd:a.data=[]) (hn:a.names=[]) (hv:v=a.at none 0 none 0):HP.ent (HP.sep (TRep b t) S) (Told b t S a v) := .of fun R h H=>⟨none,0,none,0,hv,AnsR.nil hd hn H⟩
def readS' (T:List Nd) (path:Nm) (off n:Int):AnsM:={ err:=(readS T path off n).1,data:=(readS T path off n).2 }
def statS (T:List Nd) (path:Nm):AnsM :=
 if (findS T path).2 ≠ 0 then { err:=(findS T path).2 } else match nodeAt T (findS T path).1 with
  | none=>{}
  | some x=>{ kind:=x.kind,size:=if x.kind=1 then x.ents.length else x.data.length,links:=x.links }
def listS (T:List Nd) (path:Nm):AnsM :=
 if (findS T path).2 ≠ 0 then { err:=(findS T path).2 } else match nodeAt T (findS T path).1 with
  | none=>{}
  | some x=>if x.kind ≠ 1 then { err:=23 } else { names:=x.ents.map (·.1) }
set_option maxHeartbeats 1000000 in
theorem tList_ok {B:Nat} (hB:B ≤ 100000) (wf:TWf B t.pub) (c:CallM) (S:HP):Tri Tryz.prog 70 #[.pointer (some ⟨b,0,none⟩),c.val] (HP.sep (TRep b t) S) (Told b t S (listS t.pub c.path)):=by
 refine tri_of_tree (ρ:=[.n b,.p (TRep b t),.i c.kind,.s c.path,.s c.other,.i c.off,.i c.n,.a c.da,.n c.dl,.n c.dc,.p S]) mixed Tryz.func70 tree_tList ?_
 unfold t_tList
 simp only [T.den,E.prop,E.den,RX.look,F1.app,F2.app,Uni.int_i,Uni.nat_n,Uni.bool_c,Uni.str_s,Uni.adr_a,Uni.val_v,Uni.hp_p,hden,cden,V.den,W.den,A.den,BR.den,SA.den,FV.den,capV,exs,exP,allP,Cur.app,List.map_cons,List.map_nil,List.cons_append,List.nil_append,List.drop_succ_cons,List.drop_zero,List.length_cons,List.length_nil,Nat.zero_add,Nat.reduceAdd,Int.neg_neg,Bool.not_not,List.append_nil,Nat.add_zero,List.getElem?_cons_zero,List.getElem?_cons_succ,Decidable.not_not,semW_eq,semW_load,semW_lookup,semW_lookupC,semW_nil,ne_eq,Nat.reduceEqDiff,not_false_eq_true]
 intro x0 x00
 refine (tFind_ok wf c.path).weak (fun _ _ h=>h) ?_
 rintro v R h ⟨rfl,H⟩
 obtain ⟨T1,hT1⟩ : ∃ q,listS t.pub c.path=q:=⟨_,rfl⟩
 rw [hT1]
 unfold listS at hT1
 refine ⟨_,_,rfl,?_,H⟩
 clear H
 obtain ⟨xn,hxn⟩:=Option.isSome_iff_exists.1 (findS_some wf c.path)
 obtain ⟨x,i,hi,rfl,hin,hih,hip,him⟩:=hnIdx hxn
 have hlk:=lkNode (b:=b) (t:=t) (findS t.pub c.path).1
 rw [hih] at hlk
 refine ⟨fun hc => ?_,fun hc=>⟨t.mb,ldNodes,.pointer (some ⟨x.nb,0,none⟩),hlk,x.nb,nilChk',x.p.kind,ldKind him,⟨fun hk => ?_,fun hk => ?_⟩⟩⟩
 ·rw [if_pos hc] at hT1; subst hT1
  exact Told.nil rfl rfl rfl
 ·rw [if_neg (by simp [hc]),hxn] at hT1
  simp only at hT1
  rw [if_pos hk] at hT1; subst hT1
  exact Told.nil rfl rfl rfl
 ·rw [if_neg (by simp [hc]),hxn] at hT1
  simp only at hT1
  rw [if_neg (by simp [hk])] at hT1
  have he:=ldEnts (b:=b) him
  have hmo:x.mapo=some x.mb:=by unfold HN.mapo; rw [if_pos hk]
  rw [hmo] at he
  refine ⟨x.nb,nilChk',x.mb,he,?_⟩
  refine (keysS_ok (some x.mb) (TRep b t)).weak (fun _ _ h=>h) ?_
  rintro v R h ⟨kx,rfl,H⟩
  refine ⟨.func (.func 138) #[] #[.pointer (some ⟨kx,0,none⟩)],KBoxS kx (some x.mb),rfl,?_,H⟩
  clear H
  have so:=sortedEnts (b:=b) him (wf.good _ (wf.at' hxn).2.2) hB kx
  rw [hmo] at so
  refine so.weak (fun _ _ h=>h) ?_
  rintro v R h ⟨a,cc,rfl,H⟩
  refine ⟨a,x.p.ents.length,cc,_,rfl,.of fun R h H => ?_,H⟩
  subst hT1
  refine ⟨none,0,a,cc,?_,?_⟩
  ·unfold AnsM.at; simp only [List.length_map]; rfl
  ·refine HP.sep_mono (HP.tt_sep H) (fun _ _=>OwC.nil _ _ _ _) fun z hz => ?_
   simp only [List.length_map]
   exact HP.pick [_,_,_] [2,0,1] (by decide) rfl hz
set_option maxHeartbeats 1000000 in
theorem tStat_ok {B:Nat} (wf:TWf B t.pub) (c:CallM) (S:HP):Tri Tryz.prog 69 #[.pointer (some ⟨b,0,none⟩),c.val] (HP.sep (TRep b t) S) (Told b t S (statS t.pub c.path)):=by
 refine tri_of_tree (ρ:=[.n b,.p (TRep b t),.i c.kind,.s c.path,.s c.other,.i c.off,.i c.n,.a c.da,.n c.dl,.n c.dc,.p S]) mixed Tryz.func69 tree_tStat ?_
 unfold t_tStat
 simp only [T.den,E.prop,E.den,RX.look,F1.app,F2.app,Uni.int_i,Uni.nat_n,Uni.bool_c,Uni.str_s,Uni.adr_a,Uni.val_v,Uni.hp_p,hden,cden,V.den,W.den,A.den,BR.den,SA.den,FV.den,capV,exs,exP,allP,Cur.app,List.map_cons,List.map_nil,List.cons_append,List.nil_append,List.drop_succ_cons,List.drop_zero,List.length_cons,List.length_nil,Nat.zero_add,Nat.reduceAdd,Int.neg_neg,Bool.not_not,List.append_nil,Nat.add_zero,List.getElem?_cons_zero,List.getElem?_cons_succ,Decidable.not_not,semW_eq,semW_load,semW_lookup,semW_lookupC,semW_nil,ne_eq,Nat.reduceEqDiff,not_false_eq_true]
 intro x0 x00
 refine (tFind_ok wf c.path).weak (fun _ _ h=>h) ?_
 rintro v R h ⟨rfl,H⟩
 obtain ⟨T1,hT1⟩ : ∃ q,statS t.pub c.path=q:=⟨_,rfl⟩
 rw [hT1]
 unfold statS at hT1
 refine ⟨_,_,rfl,?_,H⟩
 clear H
 obtain ⟨xn,hxn⟩:=Option.isSome_iff_exists.1 (findS_some wf c.path)
 obtain ⟨x,i,hi,rfl,hin,hih,hip,him⟩:=hnIdx hxn
 have hlk:=lkNode (b:=b) (t:=t) (findS t.pub c.path).1
 rw [hih] at hlk
 refine ⟨fun hc => ?_,fun hc=>⟨t.mb,ldNodes,.pointer (some ⟨x.nb,0,none⟩),hlk,x.nb,nilChk',x.da,x.p.data.length,x.dc,ldData him,x.nb,nilChk',x.p.kind,ldKind him,⟨fun hk => ?_,fun hk => ?_⟩⟩⟩
 ·rw [if_pos hc] at hT1; subst hT1
  exact Told.nil rfl rfl rfl
 ·rw [if_neg (by simp [hc]),hxn] at hT1
  simp only at hT1
  rw [if_pos hk] at hT1; subst hT1
  have he:=ldEnts (b:=b) him
  have hmo:x.mapo=some x.mb:=by unfold HN.mapo; rw [if_pos hk]
  rw [hmo] at he
  refine ⟨x.nb,nilChk',x.mb,he,x.p.ents.length,by rw [semW_len]; exact lenEnts him hk (nodupE (wf.at' hxn).1.sort),x.nb,nilChk',x.p.kind,ldKind him,x.nb,nilChk',x.p.links,ldLinks him,?_⟩
  exact Told.nil rfl rfl rfl
 ·rw [if_neg (by simp [hc]),hxn] at hT1
  simp only at hT1
  rw [if_neg hk] at hT1; subst hT1
  refine ⟨x.nb,nilChk',x.p.kind,ldKind him,x.nb,nilChk',x.p.links,ldLinks him,?_⟩
  exact Told.nil rfl rfl rfl
set_option maxHeartbeats 1000000 in
theorem tRead_ok {B:Nat} (wf:TWf B t.pub) (c:CallM) (S:HP):Tri Tryz.prog 67 #[.pointer (some ⟨b,0,none⟩),c.val] (HP.sep (TRep b t) S) (Told b t S (readS' t.pub c.path c.off c.n)):=by
 refine tri_of_tree (ρ:=[.n b,.p (TRep b t),.i c.kind,.s c.path,.s c.other,.i c.off,.i c.n,.a c.da,.n c.dl,.n c.dc,.p S]) mixed Tryz.func67 tree_tRead ?_
 unfold t_tRead
 simp only [T.den,E.prop,E.den,RX.look,F1.app,F2.app,Uni.int_i,Uni.nat_n,Uni.bool_c,Uni.str_s,Uni.adr_a,Uni.val_v,Uni.hp_p,hden,cden,V.den,W.den,A.den,BR.den,SA.den,FV.den,capV,exs,exP,allP,Cur.app,List.map_cons,List.map_nil,List.cons_append,List.nil_append,List.drop_succ_cons,List.drop_zero,List.length_cons,List.length_nil,Nat.zero_add,Nat.reduceAdd,Int.neg_neg,Bool.not_not,List.append_nil,Nat.add_zero,List.getElem?_cons_zero,List.getElem?_cons_succ,Decidable.not_not,semW_eq,semW_load,semW_nil,ne_eq,Nat.reduceEqDiff,not_false_eq_true]
 intro x0 x00
 refine (tFile_ok wf c.path).weak (fun _ _ h=>h) ?_
 rintro v R h ⟨rfl,H⟩
 obtain ⟨T1,hT1⟩ : ∃ q,readS' t.pub c.path c.off c.n=q:=⟨_,rfl⟩
 rw [hT1]
 unfold readS' readS at hT1
 by_cases hf:(fileS t.pub c.path).2=0
 ·rw [if_neg (by simp [hf])] at hT1
  rw [if_pos hf]
  obtain ⟨n,h4,hk2,-⟩:=file_at wf hf
  obtain ⟨y,j,hj,rfl,hjn,hjh,hjp,hjm⟩:=hnIdx h4
  rw [hjp]
  rw [h4] at hT1
  simp only at hT1
  have hcap:y.p.data.length ≤ y.dc:=OwC.le (HP.sep_left (HP.sep_right (TRep.node H hjm)))
  refine ⟨.pointer (some ⟨y.nb,0,none⟩),HP.tt,_,_,rfl,⟨fun h=>absurd hf h,fun _=>⟨fun h1 => ?_,fun h1=>⟨fun h2 => ?_,fun h2=>⟨fun h3 => ?_,fun h3 => ?_⟩⟩⟩⟩,HP.tt_sep H⟩
  ·rw [if_pos (by omega)] at hT1; subst hT1; exact Told.nil rfl rfl rfl
  ·rw [if_pos (by omega)] at hT1; subst hT1; exact Told.nil rfl rfl rfl
  ·rw [if_pos (by omega)] at hT1; subst hT1; exact Told.nil rfl rfl rfl
  rw [if_neg (by omega)] at hT1
  obtain ⟨o,ho⟩ : ∃ o,min c.off.toNat y.p.data.length=o:=⟨_,rfl⟩
  obtain ⟨e,he⟩ : ∃ e,min (o + c.n.toNat) y.p.data.length=e:=⟨_,rfl⟩
  have e1:min c.off (y.p.data.length:Int)=(o:Int):=by omega
  have e2:min ((o:Int) + c.n) (y.p.data.length:Int)=(e:Int):=by omega
  have hdl:=(wf.at' h4).1.data
  have hoe:o ≤ e:=by omega
  have hel:e ≤ y.p.data.length:=by omega
  obtain ⟨j8,hj8,z1,z2,z3⟩:=info_parts info8
  have sl:=slice_ok undB8 hj8 (HP.sep HP.tt (TRep b t)) y.da y.p.data.length y.dc (some o) (some e) none (by simpa using hoe) (by simp; omega) (Nat.le_refl _) (fun h=>by cases h)
  simp only [Option.getD_some,Option.getD_none,show szT Tryz.prog 5=1 from by kernel_rfl,Nat.mul_one] at sl
  refine ⟨y.nb,nilChk',y.da,y.p.data.length,y.dc,rdU (ldData hjm),by rw [e1]; exact inI64' _ (by omega) (by omega),fun _=>⟨y.nb,nilChk',y.da,y.p.data.length,y.dc,rdU (ldData hjm),y.nb,nilChk',y.da,y.p.data.length,y.dc,rdU (ldData hjm),(if y.dc=o then y.da else y.da.map fun x=>x.add o),e - o,y.dc - o,?_,?_⟩⟩
  ·rw [semW_sllh (by decide) (by decide) (by decide),e1,e2]; exact sl
  have hr:RdL (HP.sep HP.tt (TRep b t)) (if y.dc=o then y.da else y.da.map fun x=>x.add o) (e - o) (((y.p.data.drop o).take (e - o)).map u8v):=by
   have r0:=rdData (b:=b) hjm
   have r1:RdL (HP.sep HP.tt (TRep b t)) y.da y.p.data.length (y.p.data.map u8v):=⟨r0.rd.right,fun R h H=>r0.none R h (HP.sep_right H)⟩
   have:=r1.sub o (e - o) (by omega) (y.dc=o) (fun h=>by omega)
   rwa [← List.map_drop,← List.map_take] at this
  have hd:(y.p.data.drop o).take (e - o)=(y.p.data.drop c.off.toNat).take c.n.toNat:=by
   rcases Nat.le_total c.off.toNat y.p.data.length with h | h
   ·have:o=c.off.toNat:=by omega
    rw [this]
    rcases Nat.le_total (c.off.toNat + c.n.toNat) y.p.data.length with g | g
    ·congr 1; omega
    ·rw [List.take_of_length_le (by rw [List.length_drop]; omega),List.take_of_length_le (by rw [List.length_drop]; omega)]
   ·have:e - o=0:=by omega
    rw [this,List.take_zero,List.drop_eq_nil_of_le h,List.take_nil]
  refine (clone8_ok _ _ (e - o) (y.dc - o) ((y.p.data.drop o).take (e - o)) hr (by rw [List.length_take,List.length_drop]; omega) (by omega)).weak (fun _ _ h=>h) ?_
  rintro v R h ⟨a',c',rfl,H⟩
  refine ⟨a',e - o,c',_,rfl,.of fun R h H => ?_,H⟩
  subst hT1
  have hl:((y.p.data.drop c.off.toNat).take c.n.toNat).length=e - o:=by rw [← hd,List.length_take,List.length_drop]; omega
  refine ⟨a',c',none,0,?_,?_⟩
  ·unfold AnsM.at; simp only [hl]; rfl
  ·simp only [hl]
   rw [hd] at H
   exact HP.sep_mono (HP.pick [_,_,_] [2,0,1] (by decide) rfl H) (fun _ h=>h) fun z hz=>HP.sep_mono (HP.tt_sep hz) (fun _ _=>OwC.nil _ _ _ _) fun _ h=>h
 ·refine ⟨.pointer none,HP.tt,(fileS t.pub c.path).1,(fileS t.pub c.path).2,?_,⟨fun _ => ?_,fun h=>absurd h hf⟩,HP.tt_sep H⟩
  ·rw [if_neg hf]; rfl
  ·rw [if_pos hf] at hT1; subst hT1
   exact Told.nil rfl rfl rfl
end Go.Proofs.YtdieogcemmnaaaaGreatDoor

namespace Go.Proofs.YtdieogcemmnaaaaGreatDoor
set_option linter.unusedSimpArgs false
set_option linter.unusedVariables false
open Go.Proofs.YtdieogcemmnaaaaGreatDoor RX
set_option maxRecDepth 100000
variable {b:Nat} {t:TS}
def doS (T:List Nd) (kind:Int) (path other:Nm) (off n:Int) (d:List UInt8):List Nd × AnsM :=
 if kind=1 ∨ kind=3 then ((makeS T kind path).1,{ err:=(makeS T kind path).2 })
 else if kind=2 then ((rmdirS T path).1,{ err:=(rmdirS T path).2 })
 else if kind=4 then ((unlinkS T path).1,{ err:=(unlinkS T path).2 })
 else if kind=5 then ((linkS T path other).1,{ err:=(linkS T path other).2 })
 else if kind=6 then ((renameS T path other).1,{ err:=(renameS T path other).2 })
 else if kind=7 then ((writeS T path off d).1,{ err:=(writeS T path off d).2 })
 else if kind=8 then (T,readS' T path off n)
 else if kind=9 then ((cutS T path n).1,{ err:=(cutS T path n).2 })
 else if kind=10 then (T,statS T path)
 else if kind=11 then (T,listS T path)
 else if kind=12 then (T,{})
 else (T,{ err:=1 })
theorem TWf.do {B:Nat} {T:List Nd} (wf:TWf B T) (hB:1 ≤ B) (kind:Int) (path other:Nm) (off n:Int) (d:List UInt8):TWf (B + 1) (doS T kind path other off n d).1:=by
 unfold doS
 split
 ·exact wf.make kind hB path
 split
 ·exact wf.rmdir path
 split
 ·exact wf.unlink path
 split
 ·exact wf.link path other
 split
 ·exact wf.rename path other
 split
 ·exact (wf.write path off d).le (by omega)
 split
 ·exact wf.le (by omega)
 split
 ·exact (wf.cut path n).le (by omega)
 split
 ·exact wf.le (by omega)
 split
 ·exact wf.le (by omega)
 split
 ·exact wf.le (by omega)
 ·exact wf.le (by omega)
def DoPost (b:Nat) (r:List Nd × AnsM) (S:HP) (v:Value):HP:=HP.ex fun t':TS=>HP.and (t'.pub=r.1) (Told b t' S r.2 v)
theorem DoPost.err {r:List Nd × AnsM} {t':TS} {S:HP} {v:Value} {e:Int} (hp:t'.pub=r.1) (hr:r.2={ err:=e }) (hv:v=AnsM.at { err:=e } none 0 none 0):HP.ent (HP.sep (TRep b t') S) (DoPost b r S v):=by
 refine .of fun R h H=>⟨t',hp,?_⟩
 rw [hr]
 exact ⟨none,0,none,0,hv,AnsR.nil rfl rfl H⟩
theorem DoPost.told {r:List Nd × AnsM} {S:HP} {da na:Option Addr} {dc nc:Nat} (hp:t.pub=r.1):HP.ent (HP.sep (TRep b t) (HP.sep S (HP.sep (OwB da r.2.data.length dc r.2.data) (OwS na r.2.names.length nc r.2.names)))) (DoPost b r S (r.2.at da dc na nc)) :=
 .of fun R h H=>⟨t,hp,da,dc,na,nc,rfl,HP.pick [_,_,_,_] [2,3,0,1] (by decide) rfl H⟩
theorem doErr {f:FuncId} {args:Array Value} {S:HP} {X:List Nd × Int} {r:List Nd × AnsM} (tr:Tri Tryz.prog f args (HP.sep (TRep b t) S) (fun v=>HP.ex fun t':TS=>HP.and (v = .int .i64 X.2 ∧ t'.pub=X.1) (HP.sep (TRep b t') S))) (hr:(X.1,({ err:=X.2 }:AnsM))=r) :
  Tri Tryz.prog f args (HP.sep (TRep b t) S) (fun v=>HP.ex fun x:Int=>HP.ex fun x1:HP=>HP.ex fun x2:HP=>HP.and (v = .int .i64 x) (HP.and ((HP.sep x1 x2).ent (DoPost b r S (.agg #[.int .i64 x,.int .i64 0,.int .i64 0,.int .i64 0,.slice none 0 0,.slice none 0 0]))) (HP.sep x1 x2))):=by
 refine tr.weak (fun _ _ h=>h) ?_
 rintro v R h ⟨t',⟨rfl,hp⟩,H⟩
 exact ⟨X.2,TRep b t',S,rfl,DoPost.err (e:=X.2) (by rw [← hr]; exact hp) (by rw [← hr]) rfl,H⟩
theorem doTold {f:FuncId} {args:Array Value} {S:HP} {a:AnsM} {r:List Nd × AnsM} (tr:Tri Tryz.prog f args (HP.sep (TRep b t) S) (Told b t S a)) (hr:(t.pub,a)=r) :
  Tri Tryz.prog f args (HP.sep (TRep b t) S) (fun v=>HP.ex fun x:Int=>HP.ex fun x1:Int=>HP.ex fun x2:Int=>HP.ex fun x3:Int=>HP.ex fun da:Option Addr=>HP.ex fun dl:Nat=>HP.ex fun dc:Nat=>HP.ex fun dP:HP=>HP.ex fun na:Option Addr=>HP.ex fun nl:Nat=>HP.ex fun nc:Nat=>HP.ex fun nP:HP =>
   HP.and (v = .agg #[.int .i64 x,.int .i64 x1,.int .i64 x2,.int .i64 x3,.slice da dl dc,.slice na nl nc]) (HP.and ((HP.sep (TRep b t) (HP.sep S (HP.sep dP nP))).ent (DoPost b r S (.agg #[.int .i64 x,.int .i64 x1,.int .i64 x2,.int .i64 x3,.slice da dl dc,.slice na nl nc]))) (HP.sep dP (HP.sep nP (HP.sep (TRep b t) S))))):=by
 refine tr.weak (fun _ _ h=>h) ?_
 rintro v R h ⟨da,dc,na,nc,rfl,H⟩
 refine ⟨a.err,a.kind,a.size,a.links,da,a.data.length,dc,_,na,a.names.length,nc,_,rfl,?_,H⟩
 subst hr
 exact DoPost.told (r:=(t.pub,a)) rfl
set_option maxHeartbeats 2000000 in
theorem tDo_ok {B:Nat} (hB:B ≤ 100000) (wf:TWf B t.pub) (c:CallM) (S:HP) (d:List UInt8) (hd:CallD c S d):Tri Tryz.prog 18 #[.pointer (some ⟨b,0,none⟩),c.val] (HP.sep (TRep b t) S) (DoPost b (doS t.pub c.kind c.path c.other c.off c.n d) S):=by
 refine tri_of_tree (ρ:=[.n b,.p (TRep b t),.i c.kind,.s c.path,.s c.other,.i c.off,.i c.n,.a c.da,.n c.dl,.n c.dc,.p S]) mixed Tryz.func18 tree_tDo ?_
 unfold t_tDo
 simp only [T.den,E.prop,E.den,RX.look,F1.app,F2.app,Uni.int_i,Uni.nat_n,Uni.bool_c,Uni.str_s,Uni.adr_a,Uni.val_v,Uni.hp_p,hden,cden,V.den,W.den,A.den,BR.den,SA.den,FV.den,capV,exs,exP,allP,Cur.app,List.map_cons,List.map_nil,List.cons_append,List.nil_append,List.drop_succ_cons,List.drop_zero,List.length_cons,List.length_nil,Nat.zero_add,Nat.reduceAdd,Int.neg_neg,Bool.not_not,List.append_nil,Nat.add_zero,List.getElem?_cons_zero,List.getElem?_cons_succ,Decidable.not_not,semW_eq,ne_eq,Nat.reduceEqDiff,not_false_eq_true]
 obtain ⟨r,hr⟩ : ∃ q,doS t.pub c.kind c.path c.other c.off c.n d=q:=⟨_,rfl⟩
 rw [hr]
 unfold doS at hr
 intro x0 x00
 refine ⟨fun k => ?_,fun k1=>⟨fun k => ?_,fun k3=>⟨fun k => ?_,fun k2=>⟨fun k => ?_,fun k4=>⟨fun k => ?_,fun k5=>⟨fun k => ?_,fun k6=>⟨fun k => ?_,fun k7=>⟨fun k => ?_,fun k8=>⟨fun k => ?_,fun k9=>⟨fun k => ?_,fun k10=>⟨fun k => ?_,fun k11=>⟨fun k => ?_,fun k12 => ?_⟩⟩⟩⟩⟩⟩⟩⟩⟩⟩⟩⟩
 ·rw [if_pos (.inl k)] at hr
  exact doErr (tMake_ok wf c S) hr
 ·rw [if_pos (.inr k)] at hr
  exact doErr (tMake_ok wf c S) hr
 all_goals rw [if_neg (by omega)] at hr
 ·rw [if_pos k] at hr
  exact doErr (tRmdir_ok wf c S) hr
 all_goals rw [if_neg (by omega)] at hr
 ·rw [if_pos k] at hr
  exact doErr (tUnlink_ok (by omega) wf c S) hr
 all_goals rw [if_neg (by omega)] at hr
 ·rw [if_pos k] at hr
  exact doErr (tLink_ok (by omega) wf c S) hr
 all_goals rw [if_neg (by omega)] at hr
 ·rw [if_pos k] at hr
  exact doErr (tRename_ok wf c S) hr
 all_goals rw [if_neg (by omega)] at hr
 ·rw [if_pos k] at hr
  exact doErr (tWrite_ok wf c S d hd) hr
 all_goals rw [if_neg (by omega)] at hr
 ·rw [if_pos k] at hr
  exact doTold (tRead_ok wf c S) hr
 all_goals rw [if_neg (by omega)] at hr
 ·rw [if_pos k] at hr
  exact doErr (tCut_ok wf c S) hr
 all_goals rw [if_neg (by omega)] at hr
 ·rw [if_pos k] at hr
  exact doTold (tStat_ok wf c S) hr
 all_goals rw [if_neg (by omega)] at hr
 ·rw [if_pos k] at hr
  exact doTold (tList_ok hB wf c S) hr
 all_goals rw [if_neg (by omega)] at hr
 ·rw [if_pos k] at hr
  exact DoPost.err (e:=0) (by rw [← hr]) (by rw [← hr]) rfl
 ·rw [if_neg k12] at hr
  exact DoPost.err (e:=1) (by rw [← hr]) (by rw [← hr]) rfl
theorem semW_insert {i j:Nat} {t ty:TypeId} {u v k:Value} (h:i ≠ j):semW (.insert t (.tmp i) (.const k) (.tmp j)) ty [(i,u),(j,v)]=updS t u k v:=by
 have hb:(i == j)=false:=by simpa using h
 simp [semW,execOp,arW,updS,List.find?,hb]
def newT:List Nd:=[newNd 0 1]
theorem newT_wf:TWf 1 newT:=by
 refine TWf.mk' (by simp [newT]) ⟨_,rfl,rfl⟩ (fun k n h => ?_) (fun k n h => ?_) (fun k n h h0 => ?_)
 ·obtain ⟨h1,h2⟩:=nodeAt_mem h
  obtain rfl:n=newNd 0 1:=by simpa [newT] using h1
  exact ⟨.inl ⟨rfl,rfl,rfl⟩,by simp [newNd],by simp [newNd],by simp [newNd],by simp [newNd],by simp [newNd],by simp [newNd],by simp [newNd]⟩
 ·obtain ⟨h1,h2⟩:=nodeAt_mem h
  obtain rfl:n=newNd 0 1:=by simpa [newT] using h1
  intro e he; simp [newNd] at he
 ·obtain ⟨h1,h2⟩:=nodeAt_mem h
  obtain rfl:n=newNd 0 1:=by simpa [newT] using h1
  exact absurd h2.symm h0
theorem tNew_ok:Tri Tryz.prog 17 #[] HP.tt (fun v=>HP.ex fun b:Nat=>HP.ex fun t:TS=>HP.and (v = .pointer (some ⟨b,0,none⟩) ∧ t.pub=newT) (TRep b t)):=by
 refine tri_of_tree (ρ:=[]) mixed Tryz.func17 tree_tNew ?_
 unfold t_tNew
 simp only [T.den,E.prop,E.den,RX.look,F1.app,F2.app,Uni.int_i,Uni.nat_n,Uni.bool_c,Uni.str_s,Uni.adr_a,Uni.val_v,Uni.hp_p,hden,cden,V.den,W.den,A.den,BR.den,SA.den,FV.den,capV,exs,exP,allP,Cur.app,List.map_cons,List.map_nil,List.cons_append,List.nil_append,List.drop_succ_cons,List.drop_zero,List.length_cons,List.length_nil,Nat.zero_add,Nat.reduceAdd,Int.neg_neg,Bool.not_not,List.append_nil,Nat.add_zero,List.getElem?_cons_zero,List.getElem?_cons_succ,Decidable.not_not,semW_eq,ne_eq,Nat.reduceEqDiff,not_false_eq_true]
 intro mb
 refine tDir_ok.weak (fun _ _ h=>h) ?_
 rintro v R h ⟨nb,em,rfl,H⟩
 refine ⟨.pointer (some ⟨nb,0,none⟩),_,rfl,?_,H⟩
 clear H
 rw [semW_insert (by decide)]
 have u:=(upd_ok (r:=mb) (l:=[]) (c:=0) kInt' undNM 0 (.pointer (some ⟨nb,0,none⟩))).frame (HP.sep (HP.one nb (.cells #[.int .i64 1,.int .i64 1,.slice none 0 0,.map (some em)] 133 (0,0))) (EntM em []))
 refine u.weak (fun _ _ h=>h) ?_
 rintro v R h ⟨h1,h2,d,l1,l2,⟨rfl,H1⟩,H2⟩
 refine ⟨HP.sep (HP.one mb (mapObj i64v (alPut 0 (.pointer (some ⟨nb,0,none⟩)) 0 []) (alClock 0 [] 0))) (HP.sep (HP.one nb (.cells #[.int .i64 1,.int .i64 1,.slice none 0 0,.map (some em)] 133 (0,0))) (EntM em [])),rfl,fun b => .of fun R h H=>⟨b,⟨mb,[⟨newNd 0 1,nb,em,none,0⟩]⟩,⟨rfl,rfl⟩,?_⟩,⟨h1,h2,d,l1,l2,H1,H2⟩⟩
 refine HP.sep_mono H (fun _ h=>h) fun z hz=>HP.sep_mono hz (fun y hy => ?_) fun y hy => ?_
 ·refine ⟨_,_,⟨(MapI.nil 0).put 0 _,fun q => ?_⟩,hy⟩
  rw [alFind_put]
  unfold nodeV
  simp only [newNd,List.find?_cons,List.find?_nil]
  by_cases e:q=0
  ·subst e; rfl
  ·rw [if_neg e]; simp [Ne.symm e]; rfl
 ·exact sepN_cons.2 (HP.sep_tt (NRep.newD rfl hy))
end Go.Proofs.YtdieogcemmnaaaaGreatDoor

namespace Go.Proofs.YtdieogcemmnaaaaGreatDoor
set_option linter.unusedSimpArgs false
set_option linter.unusedVariables false
open Go.Proofs.YtdieogcemmnaaaaGreatDoor RX
set_option maxRecDepth 100000
variable {b:Nat} {t:TS}
def entV (x:Nm × Nat):List Value:=[sE x.1,.int .i64 x.2]
def kEnt:Kind (Nm × Nat) where
 n:=2
 pos:=by decide
 vals:=entV
 len _:=rfl
 hp _:=HP.tt
 pers _ _ _ _ h:=h
def kEntP:PK (Nm × Nat) where
 e:=140
 n:=2
 pos:=by decide
 vals:=entV
 len _:=rfl
 one x u hu:=by
  simp only [entV,List.mem_cons,List.not_mem_nil,or_false] at hu
  rcases hu with rfl | rfl <;> rfl
 rep _:=HP.tt
structure NodeE where
 nd:Nd
 da:Option Addr
 dc:Nat
 ea:Option Addr
 ec:Nat
instance:Inhabited NodeE:=⟨⟨⟨0,0,0,[],[]⟩,none,0,none,0⟩⟩
def nodeVs (x:NodeE):List Value:=[.int .i64 x.nd.num,.int .i64 x.nd.kind,.int .i64 x.nd.links,.slice x.da x.nd.data.length x.dc,.slice x.ea x.nd.ents.length x.ec]
def nodeHp (x:NodeE):HP:=HP.both (RoB x.da x.nd.data.length x.nd.data) (Ls kEnt x.ea x.nd.ents.length x.nd.ents)
theorem nodeHp_pers (x:NodeE) (R h h':PH) (H:(nodeHp x).p R h):(nodeHp x).p R h':=⟨H.1,Ls.pers h' H.2⟩
def kNode:Kind NodeE where
 n:=5
 pos:=by decide
 vals:=nodeVs
 len _:=rfl
 hp:=nodeHp
 pers:=nodeHp_pers
def kNodeP:PK NodeE where
 e:=43
 n:=5
 pos:=by decide
 vals:=nodeVs
 len _:=rfl
 one x u hu:=by
  simp only [nodeVs,List.mem_cons,List.not_mem_nil,or_false] at hu
  rcases hu with rfl | rfl | rfl | rfl | rfl <;> rfl
 rep:=nodeHp
def NodesR (a:Option Addr) (n:Nat) (L:List Nd):HP:=HP.ex fun es:List NodeE=>HP.and (es.map (·.nd)=L) (Ls kNode a n es)
theorem OTri.pre3 {P:Program} {o:Sem Next} {A A':HP} {B:Value → HP} (t:OTri P o A B) (e:HP.ent A' A):OTri P o A' B:=t.conseq (K:=HP.tt) (e.trans (.of fun _ _ H=>HP.sep_tt H)) fun _ => .of fun _ _ H=>HP.sep_left H
theorem infoEnt:(Tryz.prog.info? 140).map (fun i=>(i.zero.map (·.cells.size),i.size,i.bytes))=some (some 2,2,24):=by kernel_rfl
theorem infoNd:(Tryz.prog.info? 43).map (fun i=>(i.zero.map (·.cells.size),i.size,i.bytes))=some (some 5,5,72):=by kernel_rfl
theorem undEs:Tryz.prog.underlying 41=some (.slice 140):=by kernel_rfl
theorem undNs:Tryz.prog.underlying 36=some (.slice 43):=by kernel_rfl
theorem info_pz {t:TypeId} {n k m:Nat} (h:(Tryz.prog.info? t).map (fun i=>(i.zero.map (·.cells.size),i.size,i.bytes))=some (some n,k,m)) : ∃ i z,Tryz.prog.info? t=some i ∧ i.zero=some z ∧ z.cells.size=n ∧ i.size=k ∧ i.bytes=m:=by
 obtain ⟨i,h1,h2⟩:=Option.map_eq_some_iff.1 h
 injection h2 with h2 h3
 injection h3 with h3 h4
 obtain ⟨z,h5,h6⟩:=Option.map_eq_some_iff.1 h2
 exact ⟨i,z,h1,h5,h6,h3,h4⟩
theorem appEnt (a:Option Addr) (n c:Nat) (l:List (Nm × Nat)) (q:Nat) (x:Nm × Nat) (Q:HP) (hb:n ≤ 1000000000) :
  OTri Tryz.prog (appS 41 41 (.slice a n c) (.slice (some ⟨q,0,none⟩) 1 1)) (HP.sep (PL kEntP a n c l) (HP.sep (HP.one q (.cells #[sE x.1,.int .i64 x.2] 140 (0,0))) (HP.sep HP.tt Q)))
   (fun v=>HP.ex fun a'=>HP.ex fun c'=>HP.and (v = .slice a' (n + 1) c') (HP.sep (PL kEntP a' (n + 1) c' (l ++ [x])) Q)):=by
 obtain ⟨i,z,hi,h1,h2,h3,h4⟩:=info_pz infoEnt
 exact PL.app (K:=kEntP) _ _ undEs hi h1 (by rw [h2,h3]) h3 (by rw [h4]; decide) a n c l q x Q hb
theorem appNode (a:Option Addr) (n c:Nat) (l:List NodeE) (q:Nat) (x:NodeE) (Q:HP) (hb:n ≤ 1000000000) :
  OTri Tryz.prog (appS 36 36 (.slice a n c) (.slice (some ⟨q,0,none⟩) 1 1)) (HP.sep (PL kNodeP a n c l) (HP.sep (HP.one q (.cells (nodeVs x).toArray 43 (0,0))) (HP.sep (nodeHp x) Q)))
   (fun v=>HP.ex fun a'=>HP.ex fun c'=>HP.and (v = .slice a' (n + 1) c') (HP.sep (PL kNodeP a' (n + 1) c' (l ++ [x])) Q)):=by
 obtain ⟨i,z,hi,h1,h2,h3,h4⟩:=info_pz infoNd
 exact PL.app (K:=kNodeP) _ _ undNs hi h1 (by rw [h2,h3]) h3 (by rw [h4]; decide) a n c l q x Q hb
theorem loadInt {S:HP} {a:Option Addr} {l:List Int} {k:Nat} {x:Int} (r:Rd S a (l.map i64v)) (hk:l[k]? = some x) :
  ORead Tryz.prog (loadS 3 (.pointer (a.map fun y=>(y.add (k * 1)).add 0))) S (.int .i64 x) :=
 load1_ok undIb aggI szI r (k:=k * 1) (off:=0) (by simp [hk,i64v])
theorem HP.ent2 {A A' C C':HP} (h1:HP.ent A A') (h2:HP.ent C C'):HP.ent (HP.sep A C) (HP.sep A' C') :=
 (HP.ent.sep h1 C).trans ((HP.ent.of fun _ _ H=>HP.sep_comm H).trans ((HP.ent.sep h2 A').trans (.of fun _ _ H=>HP.sep_comm H)))
theorem shareEnt (a:Option Addr) (n c:Nat) (l:List (Nm × Nat)):HP.ent (PL kEntP a n c l) (Ls kEnt a n l):=fun R h d H=>by
 obtain ⟨R1,h1,q1,q2,q3,q4,H1⟩:=OwC.share _ _ _ _ _ _ R h d (HP.sep_left H.2)
 exact ⟨R1,h1,q1,q2,q3,q4,H.1,H1,fun _ _=>trivial⟩
theorem shareNode (a:Option Addr) (n c:Nat) (l:List NodeE):HP.ent (PL kNodeP a n c l) (Ls kNode a n l):=fun R h d H=>by
 obtain ⟨R1,h1,q1,q2,q3,q4,H1⟩:=OwC.share _ _ _ _ _ _ R h d (HP.sep_left H.2)
 exact ⟨R1,h1,q1,q2,q3,q4,H.1,H1,fun x hx=>nodeHp_pers x R1 h h1 ((nodeHp x).mono q1 (PH.le.refl _) (sepN_mem (List.mem_map.2 ⟨x,hx,rfl⟩) (HP.sep_right H.2)))⟩
theorem lk_of_mem : ∀ {l:List (Nm × Nat)} {e:Nm × Nat},(l.map (·.1)).Nodup → e ∈ l → lk l e.1=some e.2
 | [],_,_,h=>by cases h
 | y :: r,e,hn,h=>by
  rw [List.map_cons,List.nodup_cons] at hn
  unfold lk
  rcases List.mem_cons.1 h with rfl | h
  ·simp
  ·rw [if_neg (fun q=>hn.1 (by rw [← q]; exact List.mem_map.2 ⟨e,h,rfl⟩))]
   exact lk_of_mem hn.2 h
set_option maxHeartbeats 4000000 in
theorem tNodes_ok {B:Nat} (hB:B ≤ 100000) (wf:TWf B t.pub):Tri Tryz.prog 19 #[.pointer (some ⟨b,0,none⟩)] (TRep b t)
  (fun v=>HP.ex fun a=>HP.ex fun c=>HP.and (v = .slice a t.pub.length c) (HP.sep (NodesR a t.pub.length t.pub) (TRep b t))):=by
 have own:Tri Tryz.prog 19 #[.pointer (some ⟨b,0,none⟩)] (TRep b t)
  (fun v=>HP.ex fun a=>HP.ex fun c=>HP.ex fun es:List NodeE=>HP.and (es.map (·.nd)=t.pub ∧ v = .slice a t.pub.length c) (HP.sep (PL kNodeP a t.pub.length c es) (TRep b t))):=by
  refine tri_of_tree (ρ:=[.n b,.p (TRep b t)]) mixed Tryz.func19 tree_tNodes ?_
  unfold t_tNodes
  simp only [T.den,E.prop,E.den,RX.look,F1.app,F2.app,Uni.int_i,Uni.nat_n,Uni.bool_c,Uni.str_s,Uni.adr_a,Uni.val_v,Uni.hp_p,hden,cden,V.den,W.den,A.den,BR.den,SA.den,FV.den,capV,exs,exP,allP,Cur.app,List.map_cons,List.map_nil,List.cons_append,List.nil_append,List.drop_succ_cons,List.drop_zero,List.length_cons,List.length_nil,Nat.zero_add,Nat.reduceAdd,Int.neg_neg,Bool.not_not,List.append_nil,Nat.add_zero,List.getElem?_cons_zero,List.getElem?_cons_succ,Decidable.not_not,semW_eq,semW_load,semW_append,semW_lookup,semW_lookupC,semW_nil,ne_eq,Nat.reduceEqDiff,not_false_eq_true]
  have hlen64:=wf.few
  have hlen:t.pub.length=t.ns.length:=by unfold TS.pub; rw [List.length_map]
  refine ⟨t.mb,ldNodes,?_⟩
  refine (keysI_ok (some t.mb) (TRep b t)).weak (fun _ _ h=>h) ?_
  rintro v R h ⟨kx,rfl,H⟩
  refine ⟨.func (.func 135) #[] #[.pointer (some ⟨kx,0,none⟩)],KBoxI kx (some t.mb),rfl,?_,H⟩
  clear H
  refine (sortedNodes wf kx).weak (fun _ _ h=>h) ?_
  rintro v R h ⟨a5,c5,rfl,H⟩
  have h5:t.ns.length ≠ 0 → a5.isSome=true:=fun h=>OwC.some (HP.sep_left H) (by omega)
  refine ⟨a5,t.ns.length,c5,_,rfl,?_,H⟩
  clear H
  have rd5:RdL (OwI a5 t.ns.length c5 (t.ns.map fun x=>(x.p.num:Int))) a5 t.ns.length ((t.ns.map fun x=>(x.p.num:Int)).map i64v):=RdL.ow _ _ _ _ _ _
  refine ⟨fun a n c P i => ∃ k:Nat,i=k ∧ k ≤ t.ns.length ∧ n=k ∧ ∃ es:List NodeE,es.map (·.nd)=t.pub.take k ∧ HP.ent P (PL kNodeP a n c es),fun _ _ _ _ i=>t.ns.length - i.toNat,
   ⟨0,rfl,Nat.zero_le _,rfl,[],by simp,.of fun R h H=>⟨rfl,HP.sep_mono (HP.tt_sep H) (fun _ _=>OwC.nil _ _ _ _) fun _ _=>trivial⟩⟩,?_⟩
  rintro a k c P _ ⟨_,rfl,hk,rfl,es,hes,hP⟩
  refine ⟨fun hlt=>⟨by omega,fun _=>⟨h5 (by omega),fun _ => ?_⟩⟩,fun hge => ?_⟩
  ·have hkl:k < t.ns.length:=by omega
   have hxm:t.ns[k] ∈ t.ns:=List.getElem_mem hkl
   obtain ⟨x,hx⟩ : ∃ x,t.ns[k]=x:=⟨_,rfl⟩
   rw [hx] at hxm
   have hki:t.ns[k]? = some x:=by rw [List.getElem?_eq_getElem hkl,hx]
   have hxa:nodeAt t.pub x.p.num=some x.p:=mem_nodeAt wf.nd (by unfold TS.pub; exact List.mem_map.2 ⟨x,hxm,rfl⟩)
   have hlk:=lkNode (b:=b) (t:=t) x.p.num
   obtain ⟨y,i,hi,hyp,hyn,hyh,-,hym⟩:=hnIdx hxa
   have hnn:(x.p.num:Int)=y.p.num:=by rw [hyn]
   rw [hyh] at hlk
   have hyg:=wf.good _ (wf.at' hxa).2.2
   rw [← hyp] at hyg
   have hnum:((t.ns.map fun x=>(x.p.num:Int)))[k]? = some (x.p.num:Int):=by rw [List.getElem?_map,hki]; rfl
   refine ⟨x.p.num,loadInt rd5.rd hnum,t.mb,ldNodes,.pointer (some ⟨y.nb,0,none⟩),hlk,?_⟩
   refine ⟨fun q num kind links da dl dc ea el ec PE PD=>num=y.p.num ∧ kind=y.p.kind ∧ links=y.p.links ∧ dl=y.p.data.length ∧ el=0 ∧ HP.ent PE (PL kEntP ea 0 ec []) ∧ HP.ent PD (OwB da y.p.data.length dc y.p.data),?_,?_⟩
   ·refine ⟨y.nb,nilChk',y.p.kind,ldKind hym,y.nb,nilChk',y.p.links,ldLinks hym,y.nb,nilChk',y.da,y.p.data.length,y.dc,ldData hym,?_,fun q => ?_⟩
    ·refine (clone8_ok _ _ _ y.dc _ (rdData hym) rfl (by have:=hyg.data; omega)).weak (fun _ _ h=>h) ?_
     rintro v R h ⟨a',c',rfl,H⟩
     refine ⟨a',y.p.data.length,c',OwB a' y.p.data.length c' y.p.data,rfl,⟨fun q => ?_,fun q => ?_⟩,H⟩
     ·exact ⟨hnn,rfl,rfl,rfl,rfl,.of fun R h H=>⟨rfl,HP.sep_mono (HP.tt_sep H) (fun _ _=>OwC.nil _ _ _ _) fun _ _=>trivial⟩,.of fun _ _ h=>h⟩
     ·exact ⟨hnn,rfl,rfl,rfl,rfl,.of fun R h H=>⟨rfl,HP.sep_mono (HP.tt_sep H) (fun _ _=>OwC.nil _ _ _ _) fun _ _=>trivial⟩,.of fun _ _ h=>h⟩
    ·refine (clone8_ok _ _ _ y.dc _ (rdData hym) rfl (by have:=hyg.data; omega)).weak (fun _ _ h=>h) ?_
     rintro v R h ⟨a',c',rfl,H⟩
     refine ⟨a',y.p.data.length,c',OwB a' y.p.data.length c' y.p.data,rfl,?_,H⟩
     exact ⟨hnn,rfl,rfl,rfl,rfl,.of fun R h H=>⟨rfl,HP.sep_mono (HP.tt_sep H) (fun _ _=>OwC.nil _ _ _ _) fun _ _=>trivial⟩,.of fun _ _ h=>h⟩
   rintro q num kind links da dl dc ea el ec PE PD ⟨rfl,rfl,rfl,rfl,rfl,hPE,hPD⟩
   refine ⟨y.nb,nilChk',.map y.mapo,ldEnts hym,?_⟩
   refine (keysS_ok y.mapo (TRep b t)).weak (fun _ _ h=>h) ?_
   rintro v R h ⟨ks,rfl,H⟩
   refine ⟨.func (.func 138) #[] #[.pointer (some ⟨ks,0,none⟩)],KBoxS ks y.mapo,rfl,?_,H⟩
   clear H
   refine (sortedEnts hym hyg hB ks).weak (fun _ _ h=>h) ?_
   rintro v R h ⟨a33,c33,rfl,H⟩
   have h33:y.p.ents.length ≠ 0 → a33.isSome=true:=fun h=>OwC.some (HP.sep_left H) (by omega)
   refine ⟨a33,y.p.ents.length,c33,_,rfl,?_,H⟩
   clear H
   have rd33:RdL (OwS a33 y.p.ents.length c33 (y.p.ents.map (·.1))) a33 y.p.ents.length ((y.p.ents.map (·.1)).map sE):=RdL.ow _ _ _ _ _ _
   refine ⟨fun i a n c P => ∃ j:Nat,i=j ∧ j ≤ y.p.ents.length ∧ n=j ∧ HP.ent P (PL kEntP a j c (y.p.ents.take j)),fun i _ _ _ _=>y.p.ents.length - i.toNat,⟨0,rfl,Nat.zero_le _,rfl,hPE⟩,?_⟩
   rintro _ ea j ec PE2 ⟨_,rfl,hj,rfl,hPE2⟩
   refine ⟨fun hlt2=>⟨by omega,fun _=>⟨h33 (by omega),fun _ => ?_⟩⟩,fun hge2 q => ?_⟩
   ·have hjl:j < y.p.ents.length:=by omega
    have hem:y.p.ents[j] ∈ y.p.ents:=List.getElem_mem hjl
    obtain ⟨e,hej⟩ : ∃ e,y.p.ents[j]=e:=⟨_,rfl⟩
    rw [hej] at hem
    have hek:y.p.ents[j]? = some e:=by rw [List.getElem?_eq_getElem hjl,hej]
    have hkd:y.p.kind=1:=by
     rcases hyg.kind with ⟨h,_⟩ | ⟨_,h⟩
     ·exact h
     ·rw [h] at hem; cases hem
    have hmo:y.mapo=some y.mb:=by unfold HN.mapo; rw [if_pos hkd]
    have he:=ldEnts (b:=b) hym
    rw [hmo] at he
    have hl:=lkEnt1 (b:=b) hym hkd e.1
    rw [lk_of_mem (nodupE hyg.sort) hem] at hl
    refine ⟨e.1,loadStr rd33.rd (by rw [List.getElem?_map,Int.toNat_natCast,hek]; rfl),y.nb,nilChk',.map (some y.mb),he,e.2,hl,fun q => ?_⟩
    refine OTri.pre3 ((appEnt ea j ec (y.p.ents.take j) q e HP.tt (by have:=hyg.efew; omega)).weak (fun _ _ h=>h) ?_) ((HP.ent.sep hPE2 _).trans (.of fun R h H=>HP.sep_mono H (fun _ h=>h) fun z hz=>HP.sep_tt (HP.sep_tt hz) |> fun H=>HP.sep_assoc H))
    rintro v R h ⟨a',c',rfl,H⟩
    refine ⟨a',j + 1,c',_,rfl,⟨inI64' _ (by omega) (by have:=hyg.efew; omega),fun _=>⟨⟨j + 1,by omega,by omega,rfl,?_⟩,by dsimp only; omega⟩⟩,HP.sep_left H⟩
    rw [List.take_add_one,hek]
    exact .of fun _ _ h=>h
   ·obtain rfl:j=y.p.ents.length:=by omega
    rw [List.take_length] at hPE2
    have hk64:t.ns.length ≤ 1000000:=by have:=hlen64; omega
    refine OTri.pre3 ((appNode a k c es q ⟨y.p,da,dc,ea,ec⟩ HP.tt (by omega)).weak (fun _ _ h=>h) ?_) (HP.ent2 hP (HP.ent2 (.of fun _ _ h=>h) ((HP.ent2 (hPD.trans (OwC.share _ _ _ _ _ _)) (hPE2.trans (shareEnt _ _ _ _))).trans (.of fun R h H=>HP.sep_tt ⟨HP.sep_left H,HP.sep_right H⟩))))
    rintro v R h ⟨a',c',rfl,H⟩
    refine ⟨a',k + 1,c',_,rfl,⟨inI64' _ (by omega) (by omega),fun _=>⟨⟨k + 1,by omega,by omega,rfl,es ++ [⟨y.p,da,dc,ea,ec⟩],?_,.of fun _ _ h=>h⟩,by dsimp only; omega⟩⟩,HP.sep_left H⟩
    rw [List.map_append,hes,List.take_add_one]
    have:t.pub[k]? = some x.p:=by unfold TS.pub; rw [List.getElem?_map,hki]; rfl
    rw [this,← hyp]; rfl
  ·obtain rfl:k=t.ns.length:=by omega
   rw [hlen]
   refine (HP.ent2 (.of fun _ _ h=>h) hP).trans (.of fun R h H=>⟨a,c,es,⟨by rw [hes,← hlen,List.take_length],rfl⟩,HP.sep_comm H⟩)
 exact own.post fun v=>fun R h d ⟨a',c',es,⟨e1,e2⟩,H⟩=>by
  obtain ⟨R1,h1,q1,q2,q3,q4,H1⟩:=(HP.ent.sep (shareNode _ _ _ _) (TRep b t)) R h d H
  exact ⟨R1,h1,q1,q2,q3,q4,a',c',e2,HP.sep_mono H1 (fun _ h=>⟨es,e1,h⟩) fun _ h=>h⟩
end Go.Proofs.YtdieogcemmnaaaaGreatDoor

namespace Go.Proofs.YtdieogcemmnaaaaGreatDoor
set_option linter.unusedSimpArgs false
set_option linter.unusedVariables false
open Go.Proofs.YtdieogcemmnaaaaGreatDoor RX
set_option maxRecDepth 100000
def byteI (k:Int):UInt8:=UInt8.ofNat (IntKind.u8.wrap k).toNat
theorem byteI_val (k:Int):((byteI k).toNat:Int)=IntKind.u8.wrap k:=by
 have h1:0 ≤ IntKind.u8.wrap k ∧ IntKind.u8.wrap k < 256:=by
  simp only [IntKind.wrap,IntKind.bits,IntKind.signed,Bool.false_and,Bool.false_eq_true,if_false]; omega
 unfold byteI
 rw [UInt8.toNat_ofNat']
 omega
def linksN (k:Int):Nat:=(IntKind.u64.wrap k).toNat
theorem linksN_val (k:Int):((linksN k:Nat):Int)=IntKind.u64.wrap k:=by
 have h1:0 ≤ IntKind.u64.wrap k:=by
  simp only [IntKind.wrap,IntKind.bits,IntKind.signed,Bool.false_and,Bool.false_eq_true,if_false]; omega
 unfold linksN; omega
end Go.Proofs.YtdieogcemmnaaaaGreatDoor

namespace Go.Proofs.YtdieogcemmnaaaaGreatDoor.RX
set_option maxRecDepth 100000
-- (*tideline/octet.Reader).turns$1: ρ:=[.v yield,.p yieldP,.n n,.i n,.n r,.n r,.p rP]
end Go.Proofs.YtdieogcemmnaaaaGreatDoor.RX

namespace Go.Proofs.YtdieogcemmnaaaaGreatDoor
set_option linter.unusedSimpArgs false
set_option linter.unusedVariables false
open Go.Proofs.YtdieogcemmnaaaaGreatDoor RX
set_option maxRecDepth 100000
abbrev RS:=List UInt8 × Bool
theorem convW6 {i:Nat} {S:HP} {a:Option Addr} {n c:Nat} {l:List UInt8} (hr:RdL S a n (l.map u8v)) (hl:l.length=n):ORead Tryz.prog (semW (.convert 28 9 (.tmp i)) 9 [(i,.slice a n c)]) S (sE l):=by
 have:=conv_ok (ρ:=[.v (.slice a n c)]) (i:=i) (x := .w (.a (.val 0))) (S:=S) (a:=a) (n:=n) (c:=c) (l:=l) rfl hr hl
 rw [semW_eq] at this
 exact this
theorem toldR_lt (s:RS) (most:Int):(toldR s most).1 ≤ 4294967295:=by
 have:=numR_lt s 4
 unfold toldR
 split
 ·exact Nat.zero_le _
 ·split
  ·exact Nat.zero_le _
  ·show (numR s 4).1 ≤ _; omega
end Go.Proofs.YtdieogcemmnaaaaGreatDoor

namespace Go.Proofs.YtdieogcemmnaaaaGreatDoor
set_option linter.unusedSimpArgs false
set_option linter.unusedVariables false
open Go.Proofs.YtdieogcemmnaaaaGreatDoor RX
set_option maxRecDepth 100000
end Go.Proofs.YtdieogcemmnaaaaGreatDoor

namespace Go.Proofs.YtdieogcemmnaaaaGreatDoor.RX
set_option maxRecDepth 100000
-- tideline/entry.part: ρ:=[.i n]
def t_ePart:T :=
(.br (.o2 .le (.i 0) (.v 0))
(.ret (.w (.a (.bool (.o2 .le (.v 0) (.i 2147483647))))) [])
(.ret (.w (.a (.bool (.c false)))) []))
theorem tree_ePart:tree Tryz.prog { } Tryz.f206 [.a (.int .i64 (.v 0))] [] 1=t_ePart:=by kernel_rfl
def t_eRight:T :=
(.new
(.br (.o1 .not (.o2 .eq (.v 0) (.i 1)))
(.br (.o1 .not (.o2 .eq (.v 0) (.i 2)))
(.ret (.w (.a (.bool (.c false)))) [(.a 6,.prop 9)])
(.call 206 [.a (.int .i64 (.v 1))] [] [.c] (.w (.a (.bool (.v 11)))) []
(.br (.o1 .not (.v 11))
(.ret (.w (.a (.bool (.c false)))) [(.a 6,.prop 9)])
(.call 206 [.a (.int .i64 (.v 2))] [] [.c] (.w (.a (.bool (.v 12)))) []
(.br (.o1 .not (.v 12))
(.ret (.w (.a (.bool (.c false)))) [(.a 6,.prop 9)])
(.call 206 [.a (.int .i64 (.v 3))] [] [.c] (.w (.a (.bool (.v 13)))) []
(.br (.o1 .not (.v 13))
(.ret (.w (.a (.bool (.c false)))) [(.a 6,.prop 9)])
(.br (.o2 .lt (.v 4) (.i 0))
(.ret (.w (.a (.bool (.c false)))) [(.a 6,.prop 9)])
(.br (.o2 .le (.i 8) (.v 4))
(.ret (.w (.a (.bool (.c false)))) [(.a 6,.prop 9)])
(.br (.o2 .lt (.v 5) (.i (-1)))
(.ret (.w (.a (.bool (.c false)))) [(.a 6,.prop 9)])
(.br (.o2 .lt (.i 4294967296) (.v 5))
(.ret (.w (.a (.bool (.c false)))) [(.a 6,.prop 9)])
(.ret (.w (.a (.bool (.o2 .le (.o1 .ofNat (.v 7)) (.i 65506))))) [(.a 6,.prop 9)]))))))))))))
(.call 206 [.a (.int .i64 (.v 1))] [] [.c] (.w (.a (.bool (.v 11)))) []
(.br (.o1 .not (.v 11))
(.ret (.w (.a (.bool (.c false)))) [(.a 6,.prop 9)])
(.call 206 [.a (.int .i64 (.v 2))] [] [.c] (.w (.a (.bool (.v 12)))) []
(.br (.o1 .not (.v 12))
(.ret (.w (.a (.bool (.c false)))) [(.a 6,.prop 9)])
(.call 206 [.a (.int .i64 (.v 3))] [] [.c] (.w (.a (.bool (.v 13)))) []
(.br (.o1 .not (.v 13))
(.ret (.w (.a (.bool (.c false)))) [(.a 6,.prop 9)])
(.br (.o2 .lt (.v 4) (.i 0))
(.ret (.w (.a (.bool (.c false)))) [(.a 6,.prop 9)])
(.br (.o2 .le (.i 8) (.v 4))
(.ret (.w (.a (.bool (.c false)))) [(.a 6,.prop 9)])
(.br (.o2 .lt (.v 5) (.i (-1)))
(.ret (.w (.a (.bool (.c false)))) [(.a 6,.prop 9)])
(.br (.o2 .lt (.i 4294967296) (.v 5))
(.ret (.w (.a (.bool (.c false)))) [(.a 6,.prop 9)])
(.ret (.w (.a (.bool (.o2 .le (.o1 .ofNat (.v 7)) (.i 65506))))) [(.a 6,.prop 9)])))))))))))))
theorem tree_eRight:tree Tryz.prog { } Tryz.f163 [.agg [.int .i64 (.v 0),.int .i64 (.v 1),.int .i64 (.v 2),.int .i64 (.v 3),.int .i64 (.v 4),.int .i64 (.v 5),.sl (.v 6) (.v 7) (.v 8)]] [(.a 6,.prop 9)] 10=t_eRight:=by kernel_rfl
def t_eDecode:T :=
(.new
(.br (.o2 .lt (.i 65536) (.o1 .ofNat (.v 1)))
(.ret (.tup [.agg [.int .i64 (.i 0),.int .i64 (.i 0),.int .i64 (.i 0),.int .i64 (.i 0),.int .i64 (.i 0),.int .i64 (.i 0),.sl .nil (.n 0) (.n 0)],.a (.int .i64 (.i 3))]) [(.a 0,.prop 3)])
(.call 84 [.a (.sl (.v 0) (.v 1) (.v 2))] [(.a 0,.prop 3)] [.a,.n,.n,.p,.i,.p] (.tup [.a (.sl (.v 5) (.v 6) (.v 7)),.a (.int .i64 (.v 9))]) [(.a 5,.prop 8),(.a 0,.prop 10)]
(.br (.o1 .not (.o2 .eq (.v 9) (.i 0)))
(.ret (.tup [.agg [.int .i64 (.i 0),.int .i64 (.i 0),.int .i64 (.i 0),.int .i64 (.i 0),.int .i64 (.i 0),.int .i64 (.i 0),.sl .nil (.n 0) (.n 0)],.a (.int .i64 (.i 3))]) [(.a 0,.prop 10)])
(.call 85 [.a (.sl (.v 5) (.v 6) (.v 7))] [(.a 5,.prop 8)] [.n,.p,.p] (.w (.a (.ptr (.v 11) 0))) [(.b (.v 11),.prop 12),(.a 5,.prop 13)]
(.new
(.call 156 [.a (.ptr (.v 11) 0)] [(.b (.v 11),.prop 12)] [.i,.p] (.w (.a (.int .u8 (.v 15)))) [(.b (.v 11),.prop 16)]
(.need (.o1 (.inr .i64) (.v 15))
(.call 153 [.a (.ptr (.v 11) 0),.a (.int .i64 (.i 4))] [(.b (.v 11),.prop 16)] [.i,.p] (.w (.a (.int .u64 (.v 17)))) [(.b (.v 11),.prop 18)]
(.call 153 [.a (.ptr (.v 11) 0),.a (.int .i64 (.i 4))] [(.b (.v 11),.prop 18)] [.i,.p] (.w (.a (.int .u64 (.v 19)))) [(.b (.v 11),.prop 20)]
(.call 153 [.a (.ptr (.v 11) 0),.a (.int .i64 (.i 4))] [(.b (.v 11),.prop 20)] [.i,.p] (.w (.a (.int .u64 (.v 21)))) [(.b (.v 11),.prop 22)]
(.call 156 [.a (.ptr (.v 11) 0)] [(.b (.v 11),.prop 22)] [.i,.p] (.w (.a (.int .u8 (.v 23)))) [(.b (.v 11),.prop 24)]
(.need (.o1 (.inr .i64) (.v 23))
(.call 86 [.a (.ptr (.v 11) 0)] [(.b (.v 11),.prop 24)] [.i,.p] (.w (.a (.int .i64 (.v 25)))) [(.b (.v 11),.prop 26)]
(.call 157 [.a (.ptr (.v 11) 0),.a (.int .i64 (.i 65536))] [(.b (.v 11),.prop 26)] [.a,.n,.n,.p,.p] (.w (.a (.sl (.v 27) (.v 28) (.v 29)))) [(.a 27,.prop 30),(.b (.v 11),.prop 31)]
(.call 89 [.a (.ptr (.v 11) 0)] [(.b (.v 11),.prop 31)] [.i,.p] (.w (.a (.int .i64 (.v 32)))) [(.b (.v 11),.prop 33)]
(.br (.o1 .not (.o2 .eq (.v 32) (.i 0)))
(.ret (.tup [.agg [.int .i64 (.i 0),.int .i64 (.i 0),.int .i64 (.i 0),.int .i64 (.i 0),.int .i64 (.i 0),.int .i64 (.i 0),.sl .nil (.n 0) (.n 0)],.a (.int .i64 (.i 3))]) [(.a 0,.prop 10)])
(.call 163 [.agg [.int .i64 (.v 15),.int .i64 (.o1 (.wrap .i64) (.v 17)),.int .i64 (.o1 (.wrap .i64) (.v 19)),.int .i64 (.o1 (.wrap .i64) (.v 21)),.int .i64 (.v 23),.int .i64 (.v 25),.sl (.v 27) (.v 28) (.v 29)]] [(.a 27,.prop 30)] [.c,.p] (.w (.a (.bool (.v 34)))) [(.a 27,.prop 35)]
(.br (.o1 .not (.v 34))
(.ret (.tup [.agg [.int .i64 (.i 0),.int .i64 (.i 0),.int .i64 (.i 0),.int .i64 (.i 0),.int .i64 (.i 0),.int .i64 (.i 0),.sl .nil (.n 0) (.n 0)],.a (.int .i64 (.i 3))]) [(.a 0,.prop 10)])
(.ret (.tup [.agg [.int .i64 (.v 15),.int .i64 (.o1 (.wrap .i64) (.v 17)),.int .i64 (.o1 (.wrap .i64) (.v 19)),.int .i64 (.o1 (.wrap .i64) (.v 21)),.int .i64 (.v 23),.int .i64 (.v 25),.sl (.v 27) (.v 28) (.v 29)],.a (.int .i64 (.i 0))]) [(.a 0,.prop 10),(.a 27,.prop 35)]))))))))))))))))))))
theorem tree_eDecode:tree Tryz.prog { } Tryz.f98 [.a (.sl (.v 0) (.v 1) (.v 2))] [(.a 0,.prop 3)] 4=t_eDecode:=by kernel_rfl
def t_cDecode:T :=
(.new
(.call 84 [.a (.sl (.v 0) (.v 1) (.v 2))] [(.a 0,.prop 3)] [.a,.n,.n,.p,.i,.p] (.tup [.a (.sl (.v 5) (.v 6) (.v 7)),.a (.int .i64 (.v 9))]) [(.a 5,.prop 8),(.a 0,.prop 10)]
(.br (.o1 .not (.o2 .eq (.v 9) (.i 0)))
(.ret (.tup [.agg [.int .i64 (.i 0),.str (.s []),.str (.s []),.int .i64 (.i 0),.int .i64 (.i 0),.sl .nil (.n 0) (.n 0)],.a (.int .i64 (.i 3))]) [(.a 0,.prop 10)])
(.call 85 [.a (.sl (.v 5) (.v 6) (.v 7))] [(.a 5,.prop 8)] [.n,.p,.p] (.w (.a (.ptr (.v 11) 0))) [(.b (.v 11),.prop 12),(.a 5,.prop 13)]
(.new
(.call 156 [.a (.ptr (.v 11) 0)] [(.b (.v 11),.prop 12)] [.i,.p] (.w (.a (.int .u8 (.v 15)))) [(.b (.v 11),.prop 16)]
(.need (.o1 (.inr .i64) (.v 15))
(.call 157 [.a (.ptr (.v 11) 0),.a (.int .i64 (.i 300))] [(.b (.v 11),.prop 16)] [.a,.n,.n,.p,.p] (.w (.a (.sl (.v 17) (.v 18) (.v 19)))) [(.a 17,.prop 20),(.b (.v 11),.prop 21)]
(.read (.convert 28 9 (.tmp 23)) 9 [(23,.w (.a (.sl (.v 17) (.v 18) (.v 19))))] [(.a 17,.prop 20)] [.s] (.w (.a (.str (.v 22))))
(.call 157 [.a (.ptr (.v 11) 0),.a (.int .i64 (.i 300))] [(.b (.v 11),.prop 21)] [.a,.n,.n,.p,.p] (.w (.a (.sl (.v 23) (.v 24) (.v 25)))) [(.a 23,.prop 26),(.b (.v 11),.prop 27)]
(.read (.convert 28 9 (.tmp 27)) 9 [(27,.w (.a (.sl (.v 23) (.v 24) (.v 25))))] [(.a 23,.prop 26)] [.s] (.w (.a (.str (.v 28))))
(.call 86 [.a (.ptr (.v 11) 0)] [(.b (.v 11),.prop 27)] [.i,.p] (.w (.a (.int .i64 (.v 29)))) [(.b (.v 11),.prop 30)]
(.call 86 [.a (.ptr (.v 11) 0)] [(.b (.v 11),.prop 30)] [.i,.p] (.w (.a (.int .i64 (.v 31)))) [(.b (.v 11),.prop 32)]
(.call 157 [.a (.ptr (.v 11) 0),.a (.int .i64 (.i 4096))] [(.b (.v 11),.prop 32)] [.a,.n,.n,.p,.p] (.w (.a (.sl (.v 33) (.v 34) (.v 35)))) [(.a 33,.prop 36),(.b (.v 11),.prop 37)]
(.call 89 [.a (.ptr (.v 11) 0)] [(.b (.v 11),.prop 37)] [.i,.p] (.w (.a (.int .i64 (.v 38)))) [(.b (.v 11),.prop 39)]
(.br (.o1 .not (.o2 .eq (.v 38) (.i 0)))
(.ret (.tup [.agg [.int .i64 (.i 0),.str (.s []),.str (.s []),.int .i64 (.i 0),.int .i64 (.i 0),.sl .nil (.n 0) (.n 0)],.a (.int .i64 (.i 3))]) [(.a 0,.prop 10)])
(.ret (.tup [.agg [.int .i64 (.v 15),.str (.v 22),.str (.v 28),.int .i64 (.v 29),.int .i64 (.v 31),.sl (.v 33) (.v 34) (.v 35)],.a (.int .i64 (.i 0))]) [(.a 0,.prop 10),(.a 33,.prop 36)])))))))))))))))))
theorem tree_cDecode:tree Tryz.prog { } Tryz.f164 [.a (.sl (.v 0) (.v 1) (.v 2))] [(.a 0,.prop 3)] 4=t_cDecode:=by kernel_rfl
end Go.Proofs.YtdieogcemmnaaaaGreatDoor.RX

namespace Go.Proofs.YtdieogcemmnaaaaGreatDoor
set_option linter.unusedSimpArgs false
set_option linter.unusedVariables false
open Go.Proofs.YtdieogcemmnaaaaGreatDoor RX
set_option maxRecDepth 100000
structure LogM where
 kind:Int
 cl:Int
 bi:Int
 nu:Int
 st:Int
 bk:Int
 pl:List UInt8
def LogM.val (x:LogM) (a:Option Addr) (c:Nat):Value := .agg #[.int .i64 x.kind,.int .i64 x.cl,.int .i64 x.bi,.int .i64 x.nu,.int .i64 x.st,.int .i64 x.bk,.slice a x.pl.length c]
def partOk (n:Int):Bool:=decide (0 ≤ n) && decide (n ≤ 2147483647)
def logOk (x:LogM):Bool:=(decide (x.kind=1) || decide (x.kind=2)) && partOk x.cl && partOk x.bi && partOk x.nu && decide (0 ≤ x.st) && decide (x.st < 8) && decide (-1 ≤ x.bk) && decide (x.bk ≤ 4294967296) && decide (x.pl.length ≤ 65506)
theorem ePart_ok (n:Int):Tri Tryz.prog 206 #[.int .i64 n] HP.tt (fun v=>HP.and (v = .bool (partOk n)) HP.tt):=by
 refine tri_of_tree (ρ:=[.i n]) mixed Tryz.func206 tree_ePart ?_
 unfold t_ePart
 simp only [T.den,E.prop,E.den,RX.look,F1.app,F2.app,Uni.int_i,Uni.nat_n,Uni.bool_c,Uni.str_s,Uni.adr_a,Uni.val_v,Uni.hp_p,hden,cden,V.den,W.den,A.den,BR.den,SA.den,FV.den,capV,exs,exP,allP,Cur.app,List.map_cons,List.map_nil,List.cons_append,List.nil_append,List.drop_succ_cons,List.drop_zero,List.length_cons,List.length_nil,Nat.zero_add,Nat.reduceAdd,Int.neg_neg,Bool.not_not,List.append_nil,Nat.add_zero,List.getElem?_cons_zero,List.getElem?_cons_succ,Decidable.not_not,semW_eq,ne_eq,Nat.reduceEqDiff,not_false_eq_true]
 unfold partOk
 refine ⟨fun h => .of fun R x _=>⟨?_,trivial⟩,fun h => .of fun R x _=>⟨?_,trivial⟩⟩
 ·have h':0 ≤ n:=h
  rw [decide_eq_true h',Bool.true_and]; rfl
 ·have h' : ¬ 0 ≤ n:=h
  rw [decide_eq_false h',Bool.false_and]
theorem eRight_ok (x:LogM) (a:Option Addr) (c:Nat) (S:HP):Tri Tryz.prog 163 #[x.val a c] S (fun v=>HP.and (v = .bool (logOk x)) S):=by
 refine tri_of_tree (ρ:=[.i x.kind,.i x.cl,.i x.bi,.i x.nu,.i x.st,.i x.bk,.a a,.n x.pl.length,.n c,.p S]) mixed Tryz.func163 tree_eRight ?_
 unfold t_eRight
 simp only [T.den,E.prop,E.den,RX.look,F1.app,F2.app,Uni.int_i,Uni.nat_n,Uni.bool_c,Uni.str_s,Uni.adr_a,Uni.val_v,Uni.hp_p,hden,cden,V.den,W.den,A.den,BR.den,SA.den,FV.den,capV,exs,exP,allP,Cur.app,List.map_cons,List.map_nil,List.cons_append,List.nil_append,List.drop_succ_cons,List.drop_zero,List.length_cons,List.length_nil,Nat.zero_add,Nat.reduceAdd,Int.neg_neg,Bool.not_not,List.append_nil,Nat.add_zero,List.getElem?_cons_zero,List.getElem?_cons_succ,Decidable.not_not,semW_eq,ne_eq,Nat.reduceEqDiff,not_false_eq_true]
 intro _
 have no:logOk x=false → HP.ent S (HP.and (Value.bool false = .bool (logOk x)) S):=fun h => .of fun R h' H=>⟨by rw [h],H⟩
 refine ⟨fun h1=>⟨fun h2=>no ?_,fun h2 => ?_⟩,fun h1 => ?_⟩
 ·unfold logOk; simp [h1,h2]
 ·have hk':(decide (x.kind=1) || decide (x.kind=2))=true:=by
   have h2:x.kind=2:=by simpa using h2
   simp [h2]
  clear h1 h2
  refine (ePart_ok x.cl).weak (fun _ _ h=>h) ?_
  rintro v R h ⟨rfl,H⟩
  refine ⟨_,rfl,⟨fun h=>no ?_,fun h1 => ?_⟩,H⟩
  ·unfold logOk; simp [h]
  refine (ePart_ok x.bi).weak (fun _ _ h=>h) ?_
  rintro v R h ⟨rfl,H⟩
  refine ⟨_,rfl,⟨fun h=>no ?_,fun h2 => ?_⟩,H⟩
  ·unfold logOk; simp [h]
  refine (ePart_ok x.nu).weak (fun _ _ h=>h) ?_
  rintro v R h ⟨rfl,H⟩
  refine ⟨_,rfl,⟨fun h=>no ?_,fun h3=>⟨fun h=>no ?_,fun h4=>⟨fun h=>no ?_,fun h5=>⟨fun h=>no ?_,fun h6=>⟨fun h=>no ?_,fun h7 => .of fun R h' H=>⟨?_,H⟩⟩⟩⟩⟩⟩,H⟩
  ·unfold logOk; simp [h]
  ·unfold logOk; have : ¬ 0 ≤ x.st:=by omega
   simp [this]
  ·unfold logOk; have : ¬ x.st < 8:=by omega
   simp [this]
  ·unfold logOk; have : ¬ -1 ≤ x.bk:=by omega
   simp [this]
  ·unfold logOk; have : ¬ x.bk ≤ 4294967296:=by omega
   simp [this]
  ·have a1:0 ≤ x.st:=by omega
   have a2:x.st < 8:=by omega
   have a3 : -1 ≤ x.bk:=by omega
   have a4:x.bk ≤ 4294967296:=by omega
   have h1:partOk x.cl=true:=by simpa using h1
   have h2:partOk x.bi=true:=by simpa using h2
   have h3:partOk x.nu=true:=by simpa using h3
   unfold logOk
   rw [hk',h1,h2,h3]
   simp [a1,a2,a3,a4]
   omega
 ·have hk':(decide (x.kind=1) || decide (x.kind=2))=true:=by
   have h1:x.kind=1:=by simpa using h1
   simp [h1]
  clear h1
  refine (ePart_ok x.cl).weak (fun _ _ h=>h) ?_
  rintro v R h ⟨rfl,H⟩
  refine ⟨_,rfl,⟨fun h=>no ?_,fun h1 => ?_⟩,H⟩
  ·unfold logOk; simp [h]
  refine (ePart_ok x.bi).weak (fun _ _ h=>h) ?_
  rintro v R h ⟨rfl,H⟩
  refine ⟨_,rfl,⟨fun h=>no ?_,fun h2 => ?_⟩,H⟩
  ·unfold logOk; simp [h]
  refine (ePart_ok x.nu).weak (fun _ _ h=>h) ?_
  rintro v R h ⟨rfl,H⟩
  refine ⟨_,rfl,⟨fun h=>no ?_,fun h3=>⟨fun h=>no ?_,fun h4=>⟨fun h=>no ?_,fun h5=>⟨fun h=>no ?_,fun h6=>⟨fun h=>no ?_,fun h7 => .of fun R h' H=>⟨?_,H⟩⟩⟩⟩⟩⟩,H⟩
  ·unfold logOk; simp [h]
  ·unfold logOk; have : ¬ 0 ≤ x.st:=by omega
   simp [this]
  ·unfold logOk; have : ¬ x.st < 8:=by omega
   simp [this]
  ·unfold logOk; have : ¬ -1 ≤ x.bk:=by omega
   simp [this]
  ·unfold logOk; have : ¬ x.bk ≤ 4294967296:=by omega
   simp [this]
  ·have a1:0 ≤ x.st:=by omega
   have a2:x.st < 8:=by omega
   have a3 : -1 ≤ x.bk:=by omega
   have a4:x.bk ≤ 4294967296:=by omega
   have h1:partOk x.cl=true:=by simpa using h1
   have h2:partOk x.bi=true:=by simpa using h2
   have h3:partOk x.nu=true:=by simpa using h3
   unfold logOk
   rw [hk',h1,h2,h3]
   simp [a1,a2,a3,a4]
   omega
def logR (s:RS):LogM × RS :=
 let k:=numR s 1
 let a:=numR k.2 4
 let b:=numR a.2 4
 let c:=numR b.2 4
 let t:=numR c.2 1
 let i:=numR t.2 8
 let p:=bytesR i.2 65536
 (⟨((k.1 % 256:Nat):Int),(a.1:Int),(b.1:Int),(c.1:Int),((t.1 % 256:Nat):Int),intOf64 i.1,p.1⟩,p.2)
def entD (l:List UInt8):Option LogM:=if 65536 < l.length then none else match unwrapS l with
 | none=>none
 | some q=>if (logR (q,false)).2.2=true ∨ (logR (q,false)).2.1 ≠ [] then none else if logOk (logR (q,false)).1=true then some (logR (q,false)).1 else none
def EntPost (l:List UInt8) (S:HP) (v:Value):HP:=match entD l with
 | none=>HP.and (v = .tuple #[.agg #[.int .i64 0,.int .i64 0,.int .i64 0,.int .i64 0,.int .i64 0,.int .i64 0,.slice none 0 0],.int .i64 3]) S
 | some x=>HP.ex fun a=>HP.ex fun c=>HP.and (v = .tuple #[x.val a c,.int .i64 0]) (HP.sep (OwB a x.pl.length c x.pl) S)
theorem wrapI (v:Nat) (h:v < 256 ^ 4):IntKind.i64.wrap (v:Int)=v:=by
 have h4:(256:Nat) ^ 4=4294967296:=by decide
 exact wrap_in ⟨by show (-9223372036854775808:Int) ≤ _; omega,by show _ ≤ (9223372036854775807:Int); omega⟩
set_option maxHeartbeats 1000000 in
theorem eDecode_ok (a:Option Addr) (n c:Nat) (l:List UInt8) (S:HP) (hr:RdL S a n (l.map u8v)) (hl:l.length=n) (hc:n ≤ c) (ha:n ≠ 0 → a.isSome=true) :
  Tri Tryz.prog 98 #[.slice a n c] S (EntPost l S):=by
 refine tri_of_tree (ρ:=[.a a,.n n,.n c,.p S]) mixed Tryz.func98 tree_eDecode ?_
 unfold t_eDecode
 simp only [T.den,E.prop,E.den,RX.look,F1.app,F2.app,Uni.int_i,Uni.nat_n,Uni.bool_c,Uni.str_s,Uni.adr_a,Uni.val_v,Uni.hp_p,hden,cden,V.den,W.den,A.den,BR.den,SA.den,FV.den,capV,exs,exP,allP,Cur.app,List.map_cons,List.map_nil,List.cons_append,List.nil_append,List.drop_succ_cons,List.drop_zero,List.length_cons,List.length_nil,Nat.zero_add,Nat.reduceAdd,Int.neg_neg,Bool.not_not,List.append_nil,Nat.add_zero,List.getElem?_cons_zero,List.getElem?_cons_succ,Decidable.not_not,semW_eq,ne_eq,Nat.reduceEqDiff,not_false_eq_true]
 intro _
 have bad:entD l=none → ∀ {A:HP},HP.ent A S → HP.ent A (EntPost l S (.tuple #[.agg #[.int .i64 0,.int .i64 0,.int .i64 0,.int .i64 0,.int .i64 0,.int .i64 0,.slice none 0 0],.int .i64 3])):=fun h A hA=>by
  unfold EntPost; rw [h]; exact hA.trans (.of fun R h H=>⟨rfl,H⟩)
 refine ⟨fun h=>bad ?_ (HP.ent.refl _),fun h => ?_⟩
 ·unfold entD; rw [if_pos (by omega)]
 have hle : ¬ 65536 < l.length:=by omega
 have hd0:entD l=match unwrapS l with
  | none=>none
  | some q=>if (logR (q,false)).2.2=true ∨ (logR (q,false)).2.1 ≠ [] then none else if logOk (logR (q,false)).1=true then some (logR (q,false)).1 else none:=by unfold entD; rw [if_neg hle]
 refine (unwrap_ok a n c l S hr hl hc ha (by omega)).weak (fun _ _ h=>h) ?_
 rintro v R h ⟨a',c',rfl,H⟩
 refine ⟨a',_,c',OwB a' _ c' _,_,S,rfl,?_,HP.sep_comm H⟩
 clear H
 cases hu:unwrapS l with
 | none =>
  rw [hu] at hd0
  exact ⟨fun _=>bad hd0 (HP.ent.refl _),fun h=>(by simp at h)⟩
 | some q =>
  rw [hu] at hd0
  simp only at hd0
  refine ⟨fun h=>absurd rfl h,fun _ => ?_⟩
  simp only [Option.getD_some]
  have hq:q.length ≤ 1000000:=by
   unfold unwrapS at hu
   split at hu
   ·cases hu
   ·split at hu
    ·cases hu; rw [List.length_take]; omega
    ·cases hu
  refine (rRead_ok a' _ c' q _ (RdL.ow _ _ _ _ _ _) rfl (by omega)).weak (fun _ _ h=>h) ?_
  rintro v R h ⟨b,rfl,H⟩
  refine ⟨b,_,_,rfl,?_,HP.sep_comm H⟩
  clear H
  intro _
  refine (rByte_ok b (q,false)).weak (fun _ _ h=>h) ?_
  rintro v R h ⟨rfl,H⟩
  refine ⟨_,_,rfl,⟨inI64 _ (by omega) (by omega),fun _ => ?_⟩,H⟩
  clear H
  refine (rNumber_ok b _ 4 (by omega)).weak (fun _ _ h=>h) ?_
  rintro v R h ⟨rfl,H⟩
  refine ⟨_,_,rfl,?_,H⟩
  clear H
  refine (rNumber_ok b _ 4 (by omega)).weak (fun _ _ h=>h) ?_
  rintro v R h ⟨rfl,H⟩
  refine ⟨_,_,rfl,?_,H⟩
  clear H
  refine (rNumber_ok b _ 4 (by omega)).weak (fun _ _ h=>h) ?_
  rintro v R h ⟨rfl,H⟩
  refine ⟨_,_,rfl,?_,H⟩
  clear H
  refine (rByte_ok b _).weak (fun _ _ h=>h) ?_
  rintro v R h ⟨rfl,H⟩
  refine ⟨_,_,rfl,⟨inI64 _ (by omega) (by omega),fun _ => ?_⟩,H⟩
  clear H
  refine (rInt_ok b _).weak (fun _ _ h=>h) ?_
  rintro v R h ⟨rfl,H⟩
  refine ⟨_,_,rfl,?_,H⟩
  clear H
  refine (rBytes_ok b _ 65536).weak (fun _ _ h=>h) ?_
  rintro v R h ⟨pa,pc,rfl,H⟩
  refine ⟨pa,_,pc,_,_,rfl,?_,HP.sep_comm H⟩
  clear H
  refine (rEnd_ok b _).weak (fun _ _ h=>h) ?_
  rintro v R h ⟨rfl,H⟩
  refine ⟨_,_,rfl,⟨fun h1=>bad ?_ (HP.ent.refl _),fun h1 => ?_⟩,H⟩
  ·rw [hd0,if_pos]
   by_cases e:(logR (q,false)).2.2=true ∨ (logR (q,false)).2.1 ≠ []
   ·exact e
   ·exact absurd (if_neg e) h1
  clear H
  have h1' : ¬ ((logR (q,false)).2.2=true ∨ (logR (q,false)).2.1 ≠ []):=fun e=>by
   have h3:(if (logR (q,false)).2.2=true ∨ (logR (q,false)).2.1 ≠ [] then (3:Int) else 0)=3:=if_pos e
   exact absurd (h3.symm.trans h1) (by decide)
  rw [if_neg h1'] at hd0
  rw [wrapI _ (numR_lt _ _),wrapI _ (numR_lt _ _),wrapI _ (numR_lt _ _)]
  refine (eRight_ok (logR (q,false)).1 pa pc _).weak (fun _ _ h=>h) ?_
  rintro v R h ⟨rfl,H⟩
  refine ⟨_,_,rfl,⟨fun h2=>bad ?_ (HP.ent.refl _),fun h2 => ?_⟩,H⟩
  ·rw [hd0,if_neg h2]
  ·have h2:logOk (logR (q,false)).1=true:=by simpa using h2
   rw [if_pos h2] at hd0
   unfold EntPost
   rw [hd0]
   exact .of fun R h H=>⟨pa,pc,rfl,HP.sep_comm H⟩
structure CallP where
 kind:Int
 path:Nm
 other:Nm
 off:Int
 n:Int
 data:List UInt8
def CallP.val (x:CallP) (a:Option Addr) (c:Nat):Value := .agg #[.int .i64 x.kind,sE x.path,sE x.other,.int .i64 x.off,.int .i64 x.n,.slice a x.data.length c]
def callR (s:RS):CallP × RS :=
 let k:=numR s 1
 let a:=bytesR k.2 300
 let b:=bytesR a.2 300
 let o:=numR b.2 8
 let n:=numR o.2 8
 let p:=bytesR n.2 4096
 (⟨((k.1 % 256:Nat):Int),a.1,b.1,intOf64 o.1,intOf64 n.1,p.1⟩,p.2)
def callD (l:List UInt8):Option CallP:=match unwrapS l with
 | none=>none
 | some q=>if (callR (q,false)).2.2=true ∨ (callR (q,false)).2.1 ≠ [] then none else some (callR (q,false)).1
def CallPost (l:List UInt8) (S:HP) (v:Value):HP:=match callD l with
 | none=>HP.and (v = .tuple #[.agg #[.int .i64 0,sE [],sE [],.int .i64 0,.int .i64 0,.slice none 0 0],.int .i64 3]) S
 | some x=>HP.ex fun a=>HP.ex fun c=>HP.and (v = .tuple #[x.val a c,.int .i64 0]) (HP.sep (OwB a x.data.length c x.data) S)
set_option maxHeartbeats 1000000 in
theorem cDecode_ok (a:Option Addr) (n c:Nat) (l:List UInt8) (S:HP) (hr:RdL S a n (l.map u8v)) (hl:l.length=n) (hc:n ≤ c) (ha:n ≠ 0 → a.isSome=true) (hb:n ≤ 140737488355000) :
  Tri Tryz.prog 164 #[.slice a n c] S (CallPost l S):=by
 refine tri_of_tree (ρ:=[.a a,.n n,.n c,.p S]) mixed Tryz.func164 tree_cDecode ?_
 unfold t_cDecode
 simp only [T.den,E.prop,E.den,RX.look,F1.app,F2.app,Uni.int_i,Uni.nat_n,Uni.bool_c,Uni.str_s,Uni.adr_a,Uni.val_v,Uni.hp_p,hden,cden,V.den,W.den,A.den,BR.den,SA.den,FV.den,capV,exs,exP,allP,Cur.app,List.map_cons,List.map_nil,List.cons_append,List.nil_append,List.drop_succ_cons,List.drop_zero,List.length_cons,List.length_nil,Nat.zero_add,Nat.reduceAdd,Int.neg_neg,Bool.not_not,List.append_nil,Nat.add_zero,List.getElem?_cons_zero,List.getElem?_cons_succ,Decidable.not_not,semW_eq,ne_eq,Nat.reduceEqDiff,not_false_eq_true]
 intro _
 have bad:callD l=none → ∀ {A:HP},HP.ent A S → HP.ent A (CallPost l S (.tuple #[.agg #[.int .i64 0,sE [],sE [],.int .i64 0,.int .i64 0,.slice none 0 0],.int .i64 3])):=fun h A hA=>by
  unfold CallPost; rw [h]; exact hA.trans (.of fun R h H=>⟨rfl,H⟩)
 have hd0:callD l=match unwrapS l with
  | none=>none
  | some q=>if (callR (q,false)).2.2=true ∨ (callR (q,false)).2.1 ≠ [] then none else some (callR (q,false)).1:=rfl
 refine (unwrap_ok a n c l S hr hl hc ha (by omega)).weak (fun _ _ h=>h) ?_
 rintro v R h ⟨a',c',rfl,H⟩
 refine ⟨a',_,c',OwB a' _ c' _,_,S,rfl,?_,HP.sep_comm H⟩
 clear H
 cases hu:unwrapS l with
 | none =>
  rw [hu] at hd0
  exact ⟨fun _=>bad hd0 (HP.ent.refl _),fun h=>(by simp at h)⟩
 | some q =>
  rw [hu] at hd0
  simp only at hd0
  refine ⟨fun h=>absurd rfl h,fun _ => ?_⟩
  simp only [Option.getD_some]
  have hq:q.length ≤ 140737488355000:=by
   unfold unwrapS at hu
   split at hu
   ·cases hu
   ·split at hu
    ·cases hu; rw [List.length_take]; omega
    ·cases hu
  refine (rRead_ok a' _ c' q _ (RdL.ow _ _ _ _ _ _) rfl (by omega)).weak (fun _ _ h=>h) ?_
  rintro v R h ⟨b,rfl,H⟩
  refine ⟨b,_,_,rfl,?_,HP.sep_comm H⟩
  clear H
  intro _
  refine (rByte_ok b (q,false)).weak (fun _ _ h=>h) ?_
  rintro v R h ⟨rfl,H⟩
  refine ⟨_,_,rfl,⟨inI64 _ (by omega) (by omega),fun _ => ?_⟩,H⟩
  clear H
  refine (rBytes_ok b _ 300).weak (fun _ _ h=>h) ?_
  rintro v R h ⟨pa,pc,rfl,H⟩
  refine ⟨pa,_,pc,_,_,rfl,⟨_,convW6 (RdL.ow _ _ _ _ _ _) rfl,?_⟩,HP.sep_comm H⟩
  clear H
  refine (rBytes_ok b _ 300).weak (fun _ _ h=>h) ?_
  rintro v R h ⟨oa,oc,rfl,H⟩
  refine ⟨oa,_,oc,_,_,rfl,⟨_,convW6 (RdL.ow _ _ _ _ _ _) rfl,?_⟩,HP.sep_comm H⟩
  clear H
  refine (rInt_ok b _).weak (fun _ _ h=>h) ?_
  rintro v R h ⟨rfl,H⟩
  refine ⟨_,_,rfl,?_,H⟩
  clear H
  refine (rInt_ok b _).weak (fun _ _ h=>h) ?_
  rintro v R h ⟨rfl,H⟩
  refine ⟨_,_,rfl,?_,H⟩
  clear H
  refine (rBytes_ok b _ 4096).weak (fun _ _ h=>h) ?_
  rintro v R h ⟨da,dc,rfl,H⟩
  refine ⟨da,_,dc,_,_,rfl,?_,HP.sep_comm H⟩
  clear H
  refine (rEnd_ok b _).weak (fun _ _ h=>h) ?_
  rintro v R h ⟨rfl,H⟩
  refine ⟨_,_,rfl,⟨fun h1=>bad ?_ (HP.ent.refl _),fun h1 => ?_⟩,H⟩
  ·rw [hd0,if_pos]
   by_cases e:(callR (q,false)).2.2=true ∨ (callR (q,false)).2.1 ≠ []
   ·exact e
   ·exact absurd (if_neg e) h1
  clear H
  have h1' : ¬ ((callR (q,false)).2.2=true ∨ (callR (q,false)).2.1 ≠ []):=fun e=>by
   have h3:(if (callR (q,false)).2.2=true ∨ (callR (q,false)).2.1 ≠ [] then (3:Int) else 0)=3:=if_pos e
   exact absurd (h3.symm.trans h1) (by decide)
  rw [if_neg h1'] at hd0
  unfold CallPost
  rw [hd0]
  exact .of fun R h H=>⟨da,dc,rfl,HP.sep_comm H⟩
end Go.Proofs.YtdieogcemmnaaaaGreatDoor

namespace Go.Proofs.YtdieogcemmnaaaaGreatDoor
open Go.Proofs.YtdieogcemmnaaaaGreatDoor RX
set_option maxRecDepth 100000
end Go.Proofs.YtdieogcemmnaaaaGreatDoor

namespace Go.Proofs.YtdieogcemmnaaaaGreatDoor.RX
set_option maxRecDepth 100000
-- tideline/tidelineref01.Put: ρ:=[.a outa,.n outl,.n outc,.p outP,.i v,.i n]
def t_r1Put:T :=
(.br (.o2 .lt (.i 8) (.v 5))
(.loop [.a,.n,.n,.i,.p] [.a (.v 0),.e (.o2 .nadd (.v 1) (.n 0)),.e (.o2 .nadd (.v 2) (.n 0)),.e (.o1 .neg (.o1 .neg (.i 7))),.p [(.a 0,.prop 3)]]
(.br (.o2 .le (.i 0) (.v 9))
(.loop [.i,.i] [.e (.o1 .neg (.o1 .neg (.v 4))),.e (.o1 .neg (.o1 .neg (.i 0)))]
(.br (.o2 .lt (.v 12) (.v 9))
(.need (.o1 (.inr .u64) (.o2 .quo (.v 11) (.i 256)))
(.need (.o1 (.inr .i64) (.o2 .add (.v 12) (.i 1)))
(.again 0 [.e (.o1 .neg (.o1 .neg (.o2 .quo (.v 11) (.i 256)))),.e (.o1 .neg (.o1 .neg (.o2 .add (.v 12) (.i 1))))])))
(.new
(.op (.call ⟨.builtin .append,#[.tmp 26,.tmp 30],#[28,28]⟩) 28 [(26,.w (.a (.sl (.v 6) (.v 7) (.v 8)))),(30,.w (.a (.sl (.b (.v 13) 0) (.n 1) (.n 1))))] [(.a 6,.prop 10),(.b (.v 13),.cells [.int .u8 (.o1 (.wrap .u8) (.o2 .rem (.v 11) (.i 256)))] 5)] [.a,.n,.n,.p] (.w (.a (.sl (.v 14) (.v 15) (.v 16)))) [(.a 14,.prop 17),(.b (.v 13),.cells [.int .u8 (.o1 (.wrap .u8) (.o2 .rem (.v 11) (.i 256)))] 5)]
(.need (.o1 (.inr .i64) (.o2 .sub (.v 9) (.i 1)))
(.again 1 [.a (.v 14),.e (.o2 .nadd (.v 15) (.n 0)),.e (.o2 .nadd (.v 16) (.n 0)),.e (.o1 .neg (.o1 .neg (.o2 .sub (.v 9) (.i 1)))),.p [(.a 14,.prop 17)]]))))))
(.ret (.w (.a (.sl (.v 6) (.v 7) (.v 8)))) [(.a 6,.prop 10)])))
(.need (.o1 (.inr .i64) (.o2 .sub (.v 5) (.i 1)))
(.loop [.a,.n,.n,.i,.p] [.a (.v 0),.e (.o2 .nadd (.v 1) (.n 0)),.e (.o2 .nadd (.v 2) (.n 0)),.e (.o1 .neg (.o1 .neg (.o2 .sub (.v 5) (.i 1)))),.p [(.a 0,.prop 3)]]
(.br (.o2 .le (.i 0) (.v 9))
(.loop [.i,.i] [.e (.o1 .neg (.o1 .neg (.v 4))),.e (.o1 .neg (.o1 .neg (.i 0)))]
(.br (.o2 .lt (.v 12) (.v 9))
(.need (.o1 (.inr .u64) (.o2 .quo (.v 11) (.i 256)))
(.need (.o1 (.inr .i64) (.o2 .add (.v 12) (.i 1)))
(.again 0 [.e (.o1 .neg (.o1 .neg (.o2 .quo (.v 11) (.i 256)))),.e (.o1 .neg (.o1 .neg (.o2 .add (.v 12) (.i 1))))])))
(.new
(.op (.call ⟨.builtin .append,#[.tmp 26,.tmp 30],#[28,28]⟩) 28 [(26,.w (.a (.sl (.v 6) (.v 7) (.v 8)))),(30,.w (.a (.sl (.b (.v 13) 0) (.n 1) (.n 1))))] [(.a 6,.prop 10),(.b (.v 13),.cells [.int .u8 (.o1 (.wrap .u8) (.o2 .rem (.v 11) (.i 256)))] 5)] [.a,.n,.n,.p] (.w (.a (.sl (.v 14) (.v 15) (.v 16)))) [(.a 14,.prop 17),(.b (.v 13),.cells [.int .u8 (.o1 (.wrap .u8) (.o2 .rem (.v 11) (.i 256)))] 5)]
(.need (.o1 (.inr .i64) (.o2 .sub (.v 9) (.i 1)))
(.again 1 [.a (.v 14),.e (.o2 .nadd (.v 15) (.n 0)),.e (.o2 .nadd (.v 16) (.n 0)),.e (.o1 .neg (.o1 .neg (.o2 .sub (.v 9) (.i 1)))),.p [(.a 14,.prop 17)]]))))))
(.ret (.w (.a (.sl (.v 6) (.v 7) (.v 8)))) [(.a 6,.prop 10)])))))
theorem tree_r1Put:tree Tryz.prog { absT:=[5],hv:=[(0,[.a 0]),(1,[.a 0]),(2,[.a 0]),(3,[.a 0])],keep:=[30],rdf:=true } Tryz.f102 [.a (.sl (.v 0) (.v 1) (.v 2)),.a (.int .u64 (.v 4)),.a (.int .i64 (.v 5))] [(.a 0,.prop 3)] 6=t_r1Put:=by kernel_rfl
def t_r1Bytes:T :=
(.call 102 [.a (.sl (.v 0) (.v 1) (.v 2)),.a (.int .u64 (.o1 (.wrap .u64) (.o1 .ofNat (.v 5)))),.a (.int .i64 (.i 4))] [(.a 0,.prop 3)] [.a,.n,.n,.p,.p] (.w (.a (.sl (.v 8) (.v 9) (.v 10)))) [(.a 8,.prop 11),(.a 0,.prop 12)]
(.op (.call ⟨.builtin .append,#[.tmp 10,.tmp 11],#[28,28]⟩) 28 [(10,.w (.a (.sl (.v 8) (.v 9) (.v 10)))),(11,.w (.a (.sl (.v 4) (.v 5) (.v 6))))] [(.a 8,.prop 11),(.a 4,.prop 7)] [.a,.n,.n,.p] (.w (.a (.sl (.v 13) (.v 14) (.v 15)))) [(.a 13,.prop 16),(.a 4,.prop 7)]
(.ret (.w (.a (.sl (.v 13) (.v 14) (.v 15)))) [(.a 0,.prop 12),(.a 4,.prop 7),(.a 13,.prop 16)])))
theorem tree_r1Bytes:tree Tryz.prog { absT:=[5],keep:=[30],turn:=[(102,[0])],rdf:=true } Tryz.f104 [.a (.sl (.v 0) (.v 1) (.v 2)),.a (.sl (.v 4) (.v 5) (.v 6))] [(.a 0,.prop 3),(.a 4,.prop 7)] 8=t_r1Bytes:=by kernel_rfl
end Go.Proofs.YtdieogcemmnaaaaGreatDoor.RX

namespace Go.Proofs.YtdieogcemmnaaaaGreatDoor
set_option linter.unusedSimpArgs false
set_option linter.unusedVariables false
open Go.Proofs.YtdieogcemmnaaaaGreatDoor RX
set_option maxRecDepth 100000
theorem quo256 (v m:Nat):(((v / 256 ^ m:Nat):Int)).tdiv 256=((v / 256 ^ (m + 1):Nat):Int):=by
 rw [Nat.pow_succ,← Nat.div_div_eq_div_mul]
 exact (Int.ofNat_tdiv _ _).symm
theorem byteAt_rem (v k j:Nat) (hj:j < k):IntKind.u8.wrap ((((v / 256 ^ (k - 1 - j):Nat):Int)).tmod 256)=((byteAt v k j).toNat:Int):=by
 have e1:(((v / 256 ^ (k - 1 - j):Nat):Int)).tmod 256=((v / 256 ^ (k - 1 - j) % 256:Nat):Int):=(Int.ofNat_tmod _ _).symm
 have e2:(256:Nat) ^ (k - 1 - j)=2 ^ (8 * (k - 1 - j)):=by rw [Nat.pow_mul]
 rw [e1,e2]
 simp only [IntKind.wrap,IntKind.bits,IntKind.signed,byteAt,UInt8.toNat_ofNat',Bool.false_and,Bool.false_eq_true,if_false]
 omega
set_option maxHeartbeats 1000000 in
theorem r1Put_ok (a:Option Addr) (c:Nat) (l:List UInt8) (v k:Nat) (hk:k ≤ 8) (hv:v < 18446744073709551616) (hb:l.length + 8 ≤ 140737488355328) :
  Tri Tryz.prog 102 #[.slice a l.length c,.int .u64 v,.int .i64 k] (OwB a l.length c l) (fun x=>HP.ex fun a'=>HP.ex fun c'=>HP.and (x = .slice a' (l.length + k) c') (OwB a' (l.length + k) c' (l ++ beN v k))):=by
 refine tri_of_tree (ρ:=[.a a,.n l.length,.n c,.p (OwB a l.length c l),.i v,.i k]) mixed Tryz.func102 tree_r1Put ?_
 unfold t_r1Put
 simp only [T.den,E.prop,E.den,RX.look,F1.app,F2.app,Uni.int_i,Uni.nat_n,Uni.bool_c,Uni.str_s,Uni.adr_a,Uni.val_v,Uni.hp_p,hden,cden,V.den,W.den,A.den,BR.den,SA.den,FV.den,capV,exs,exP,allP,Cur.app,List.map_cons,List.map_nil,List.cons_append,List.nil_append,List.drop_succ_cons,List.drop_zero,List.length_cons,List.length_nil,Nat.zero_add,Nat.reduceAdd,Int.neg_neg,Bool.not_not,List.append_nil,Nat.add_zero,List.getElem?_cons_zero,List.getElem?_cons_succ,Decidable.not_not,semW_eq,semW_append,ne_eq,Nat.reduceEqDiff,not_false_eq_true]
 refine ⟨fun h=>by omega,fun _=>⟨inI64 _ (by omega) (by omega),fun _ => ?_⟩⟩
 refine ⟨fun a n c i P => ∃ j:Nat,j ≤ k ∧ n=l.length + j ∧ i=(k:Int) - 1 - j ∧ HP.ent P (OwB a (l.length + j) c (l ++ (beN v k).take j)),fun _ _ _ i _=>(i + 1).toNat,⟨0,Nat.zero_le _,rfl,by simp,by simpa using HP.ent.refl _⟩,?_⟩
 rintro a n c i P ⟨j,hj,rfl,rfl,hP⟩
 refine ⟨fun hge => ?_,fun hlt => ?_⟩
 ·have hjk:j < k:=by omega
  refine ⟨fun x q => ∃ m:Nat,m ≤ k - 1 - j ∧ q=m ∧ x=((v / 256 ^ m:Nat):Int),fun _ q=>(k - 1 - j) - q.toNat,⟨0,Nat.zero_le _,rfl,by simp⟩,?_⟩
  rintro x q ⟨m,hm,rfl,rfl⟩
  refine ⟨fun hlt => ?_,fun hge2 => ?_⟩
  ·rw [quo256]
   have h1:v / 256 ^ (m + 1) ≤ v:=Nat.div_le_self _ _
   have h2 : ∃ w:Nat,v / 256 ^ (m + 1)=w:=⟨_,rfl⟩
   refine ⟨inU64 _ (Int.natCast_nonneg _) (by obtain ⟨w,hw⟩:=h2; rw [hw] at h1 ⊢; omega),fun _=>⟨inI64 _ (by omega) (by omega),fun _=>⟨⟨m + 1,by omega,by omega,rfl⟩,by dsimp only; omega⟩⟩⟩
  ·obtain rfl:m=k - 1 - j:=by omega
   intro y
   rw [byteAt_rem v k j hjk]
   refine OTri.pre3 ((append8 a (l.length + j) c (l ++ (beN v k).take j) _ (some ⟨y,0,none⟩) 1 1 [byteAt v k j] ⟨one_rd y #[u8v (byteAt v k j)] _,fun _ _ _ e=>by cases e⟩ rfl (fun _=>rfl) (by omega)).weak (fun _ _ h=>h) ?_) (HP.ent.sep hP _)
   rintro r R h ⟨a',c',rfl,H⟩
   refine ⟨a',l.length + j + 1,c',_,rfl,⟨inI64 _ (by omega) (by omega),fun _=>⟨⟨j + 1,hjk,rfl,by omega,?_⟩,by dsimp only; omega⟩⟩,H⟩
   rw [beN_take v k j hjk,← List.append_assoc]
   exact HP.ent.refl _
 ·obtain rfl:j=k:=by omega
  refine hP.trans (.of fun R h H=>⟨a,c,rfl,?_⟩)
  rw [List.take_of_length_le (by rw [beN_len]; exact Nat.le_refl _)] at H
  exact H
def lenB' (q:List UInt8):List UInt8:=beN q.length 4 ++ q
theorem lenB'_len (q:List UInt8):(lenB' q).length=q.length + 4:=by unfold lenB'; simp [beN_len]; omega
theorem wrapU {x:Nat} (h:x < 18446744073709551616):IntKind.u64.wrap (x:Int)=x:=wrap_in ⟨by show (0:Int) ≤ _; omega,by show _ ≤ (18446744073709551615:Int); omega⟩
theorem linksN_lt' (u:Int):linksN u < 18446744073709551616:=by
 have h1:=linksN_val u
 simp only [IntKind.wrap,IntKind.bits,IntKind.signed,Bool.false_and,Bool.false_eq_true,if_false] at h1
 omega
def Enc (S:HP) (q:List UInt8) (v:Value):HP:=HP.ex fun a':Option Addr=>HP.ex fun c':Nat=>HP.and (v = .slice a' q.length c') (HP.sep (OwB a' q.length c' q) S)
theorem r1PutE (a:Option Addr) (c:Nat) (l:List UInt8) (v k:Nat) (hk:k ≤ 8) (hv:v < 18446744073709551616) (hb:l.length + 8 ≤ 140737488355328) :
  Tri Tryz.prog 102 #[.slice a l.length c,.int .u64 v,.int .i64 k] (OwB a l.length c l) (Enc HP.tt (l ++ beN v k)):=by
 refine (r1Put_ok a c l v k hk hv hb).weak (fun _ _ h=>h) ?_
 rintro r R h ⟨a',c',rfl,H⟩
 refine ⟨a',c',?_,?_⟩
 ·rw [List.length_append,beN_len]
 ·rw [List.length_append,beN_len]; exact HP.sep_tt H
theorem r1Bytes_ok (a:Option Addr) (c:Nat) (l:List UInt8) (b:Option Addr) (d:Nat) (q:List UInt8) (S:HP) (hr:RdL S b q.length (q.map u8v)) (hs:q.length ≠ 0 → b.isSome=true) (hb:l.length + q.length + 100 ≤ 140737488355328) :
  Tri Tryz.prog 104 #[.slice a l.length c,.slice b q.length d] (HP.sep (OwB a l.length c l) S) (Enc S (l ++ lenB' q)):=by
 refine tri_of_tree (ρ:=[.a a,.n l.length,.n c,.p (OwB a l.length c l),.a b,.n q.length,.n d,.p S]) mixed Tryz.func104 tree_r1Bytes ?_
 unfold t_r1Bytes
 simp only [T.den,E.prop,E.den,RX.look,F1.app,F2.app,Uni.int_i,Uni.nat_n,Uni.bool_c,Uni.str_s,Uni.adr_a,Uni.val_v,Uni.hp_p,hden,cden,V.den,W.den,A.den,BR.den,SA.den,FV.den,capV,exs,exP,allP,Cur.app,List.map_cons,List.map_nil,List.cons_append,List.nil_append,List.drop_succ_cons,List.drop_zero,List.length_cons,List.length_nil,Nat.zero_add,Nat.reduceAdd,Int.neg_neg,Bool.not_not,List.append_nil,Nat.add_zero,List.getElem?_cons_zero,List.getElem?_cons_succ,Decidable.not_not,semW_eq,semW_append,ne_eq,Nat.reduceEqDiff,not_false_eq_true]
 rw [wrapU (by omega)]
 refine (r1Put_ok a c l q.length 4 (by omega) (by omega) (by omega)).weak (fun _ _ h=>h) ?_
 rintro v R h ⟨a1,c1,rfl,H⟩
 refine ⟨a1,l.length + 4,c1,OwB a1 (l.length + 4) c1 (l ++ beN q.length 4),HP.tt,rfl,?_,HP.sep_tt H⟩
 clear H
 refine (append8 a1 (l.length + 4) c1 (l ++ beN q.length 4) S b q.length d q hr rfl hs (by omega)).weak (fun _ _ h=>h) ?_
 rintro v R h ⟨a2,c2,rfl,H⟩
 refine ⟨a2,l.length + 4 + q.length,c2,OwB a2 (l.length + 4 + q.length) c2 (l ++ beN q.length 4 ++ q),rfl,.of fun R h H=>⟨a2,c2,?_,?_⟩,H⟩
 ·rw [List.length_append,lenB'_len,Nat.add_assoc,Nat.add_comm 4]
 ·have H2:=HP.sep_right H
  rw [List.length_append,lenB'_len,show l ++ lenB' q=l ++ beN q.length 4 ++ q by unfold lenB'; rw [List.append_assoc],show l.length + (q.length + 4)=l.length + 4 + q.length by omega]
  exact HP.sep_comm H2
theorem one_ow {e:TypeId} {b:Nat} {v:Value} {R h:PH} (H:(HP.one b (.cells #[v] e (0,0))).p R h):(OwC e 1 (some ⟨b,0,none⟩) 1 1 [v]).p R h:=⟨rfl,.inr ⟨b,#[v],rfl,H,Nat.le_refl _,by unfold maxLen; omega,rfl,rfl⟩⟩
end Go.Proofs.YtdieogcemmnaaaaGreatDoor

namespace Go.Proofs.YtdieogcemmnaaaaGreatDoor.RX
set_option maxRecDepth 100000
-- tideline/tidelinelaw04.speaks: ρ:=[]
end Go.Proofs.YtdieogcemmnaaaaGreatDoor.RX

namespace Go.Proofs.YtdieogcemmnaaaaGreatDoor
open Go.RowKit Go.ChangeShapes Go.WideShapes Go.Deep RX
set_option maxRecDepth 100000
set_option linter.unusedVariables false
set_option linter.unusedSimpArgs false
structure CallE where
 kind:Int
 path:List UInt8
 other:List UInt8
 off:Int
 n:Int
 data:List UInt8
 da:Option Addr
 dc:Nat
instance:Inhabited CallE:=⟨⟨0,[],[],0,0,[],none,0⟩⟩
end Go.Proofs.YtdieogcemmnaaaaGreatDoor

namespace Go.Proofs.YtdieogcemmnaaaaGreatDoor
set_option linter.unusedSimpArgs false
set_option linter.unusedVariables false
open Go.Proofs.YtdieogcemmnaaaaGreatDoor RX
set_option maxRecDepth 100000
variable {b:Nat} {t:TS}
theorem Ls.some {α:Type} {K:Kind α} {a:Option Addr} {n:Nat} {l:List α} {R h:PH} (H:(Ls K a n l).p R h) (hn:n ≠ 0):a.isSome=true:=by
 exact RoC.some H.2.1 (Nat.pos_of_ne_zero hn)
end Go.Proofs.YtdieogcemmnaaaaGreatDoor

namespace Go.Proofs.YtdieogcemmnaaaaGreatDoor.RX
set_option maxRecDepth 100000
-- tideline/tidelineref01.Same: ρ:=[.a aa,.n al,.n ac,.p aP,.a ba,.n bl,.n bc,.p bP]
def t_same01:T :=
(.br (.o1 .not (.o2 .eq (.o1 .ofNat (.v 1)) (.o1 .ofNat (.v 5))))
(.ret (.w (.a (.bool (.c false)))) [(.a 0,.prop 3),(.a 4,.prop 7)])
(.loop [.c,.i] [.e (.o1 .not (.o1 .not (.c false))),.e (.o1 .neg (.o1 .neg (.i 0)))]
(.br (.o2 .lt (.v 9) (.o1 .ofNat (.v 1)))
(.need (.o2 .le (.i 0) (.v 9))
(.need (.o1 .isSome (.v 0))
(.read (.load 5 (.tmp 19)) 5 [(19,.w (.a (.eptr 0 (.v 9) 1 0)))] [(.a 0,.prop 3)] [.i] (.w (.a (.int .u8 (.v 10))))
(.need (.o2 .lt (.v 9) (.o1 .ofNat (.v 5)))
(.need (.o1 .isSome (.v 4))
(.read (.load 5 (.tmp 23)) 5 [(23,.w (.a (.eptr 4 (.v 9) 1 0)))] [(.a 4,.prop 7)] [.i] (.w (.a (.int .u8 (.v 11))))
(.br (.o1 .not (.o2 .eq (.v 10) (.v 11)))
(.ret (.w (.a (.bool (.c false)))) [(.a 0,.prop 3),(.a 4,.prop 7)])
(.need (.o1 (.inr .i64) (.o2 .add (.v 9) (.i 1)))
(.again 0 [.e (.o1 .not (.o1 .not (.v 8))),.e (.o1 .neg (.o1 .neg (.o2 .add (.v 9) (.i 1))))])))))))))
(.ret (.w (.a (.bool (.c true)))) [(.a 0,.prop 3),(.a 4,.prop 7)]))))
theorem tree_same01:tree Tryz.prog { keep:=[30,76,78],rdf:=true } Tryz.f30 [.a (.sl (.v 0) (.v 1) (.v 2)),.a (.sl (.v 4) (.v 5) (.v 6))] [(.a 0,.prop 3),(.a 4,.prop 7)] 8=t_same01:=by kernel_rfl
end Go.Proofs.YtdieogcemmnaaaaGreatDoor.RX

namespace Go.Proofs.YtdieogcemmnaaaaGreatDoor
set_option linter.unusedSimpArgs false
set_option linter.unusedVariables false
open Go.Proofs.YtdieogcemmnaaaaGreatDoor RX
set_option maxRecDepth 100000
instance instAns:DecidableEq AnsM:=fun r s=>decidable_of_iff (r.err=s.err ∧ r.kind=s.kind ∧ r.size=s.size ∧ r.links=s.links ∧ r.data=s.data ∧ r.names=s.names) ⟨fun ⟨h1,h2,h3,h4,h5,h6⟩=>by cases r; cases s; simp only at h1 h2 h3 h4 h5 h6; subst h1 h2 h3 h4 h5 h6; rfl,fun h=>by subst h; exact ⟨rfl,rfl,rfl,rfl,rfl,rfl⟩⟩
theorem RdL.isSome {S:HP} {a:Option Addr} {n:Nat} {xs:List Value} (r:RdL S a n xs) {R h:PH} (H:S.p R h) (hn:n ≠ 0):a.isSome=true:=by
 cases a with
 | some x=>rfl
 | none=>exact absurd (r.none R h H rfl) hn
theorem take_eq {α:Type} {l m:List α} {k:Nat} {x y:α} (hx:l[k]? = some x) (hy:m[k]? = some y) (h:l.take k=m.take k) (e:x=y):l.take (k + 1)=m.take (k + 1):=by
 rw [List.take_add_one,List.take_add_one,hx,hy,h,e]
theorem getN {α:Type} {l:List α} {k:Nat} (h:k < l.length) : ∃ x,l[k]? = some x:=⟨_,List.getElem?_eq_getElem h⟩
theorem get_ne {α:Type} {l m:List α} {k:Nat} {x y:α} (hx:l[k]? = some x) (hy:m[k]? = some y) (h:x ≠ y):l ≠ m:=fun e=>by
 subst e
 rw [hx] at hy
 exact h (Option.some.inj hy)
theorem same01_ok (a:Option Addr) (n c:Nat) (la:List UInt8) (b:Option Addr) (m d:Nat) (lb:List UInt8) (Sa Sb:HP) (hA:RdL Sa a n (la.map u8v)) (hB:RdL Sb b m (lb.map u8v)) (hla:la.length=n) (hlb:lb.length=m) (hn:n ≤ 140737488355328) :
  Tri Tryz.prog 30 #[.slice a n c,.slice b m d] (HP.sep Sa Sb) (fun v=>HP.and (v = .bool (decide (la=lb))) (HP.sep Sa Sb)):=by
 refine Tri.fact (φ:=(n ≠ 0 → a.isSome=true) ∧ (m ≠ 0 → b.isSome=true)) (fun R h H=>⟨hA.isSome (HP.sep_left H),hB.isSome (HP.sep_right H)⟩) fun ⟨ha,hb⟩ => ?_
 refine tri_of_tree (ρ:=[.a a,.n n,.n c,.p Sa,.a b,.n m,.n d,.p Sb]) mixed Tryz.func30 tree_same01 ?_
 unfold t_same01
 simp only [T.den,E.prop,E.den,RX.look,F1.app,F2.app,Uni.int_i,Uni.nat_n,Uni.bool_c,Uni.str_s,Uni.adr_a,Uni.val_v,Uni.hp_p,hden,cden,V.den,W.den,A.den,BR.den,SA.den,FV.den,capV,exs,exP,allP,Cur.app,List.map_cons,List.map_nil,List.cons_append,List.nil_append,List.drop_succ_cons,List.drop_zero,List.length_cons,List.length_nil,Nat.zero_add,Nat.reduceAdd,Int.neg_neg,Bool.not_not,List.append_nil,Nat.add_zero,List.getElem?_cons_zero,List.getElem?_cons_succ,Decidable.not_not,semW_eq,semW_load,ne_eq,Nat.reduceEqDiff,not_false_eq_true]
 refine ⟨fun h => .of fun R h' H=>⟨?_,H⟩,fun h => ?_⟩
 ·rw [decide_eq_false]
  intro e; subst e; omega
 have hnm:n=m:=by omega
 subst hnm
 refine ⟨fun _ i => ∃ k:Nat,i=k ∧ k ≤ n ∧ la.take k=lb.take k,fun _ i=>n - i.toNat,⟨0,rfl,Nat.zero_le _,rfl⟩,?_⟩
 rintro x _ ⟨k,rfl,hk,hpre⟩
 refine ⟨fun hlt=>⟨by omega,fun _=>⟨ha (by omega),fun _ => ?_⟩⟩,fun hge => .of fun R h' H=>⟨?_,H⟩⟩
 ·obtain ⟨x,hx⟩:=getN (l:=la) (k:=k) (by omega)
  obtain ⟨y,hy⟩:=getN (l:=lb) (k:=k) (by omega)
  have ra:=load1_ok und8b agg8 sz8 hA.rd (k:=(k:Int).toNat * 1) (off:=0) (v:=u8v x) (by rw [Int.toNat_natCast,Nat.mul_one,Nat.add_zero,List.getElem?_map,hx]; rfl)
  have rb:=load1_ok und8b agg8 sz8 hB.rd (k:=(k:Int).toNat * 1) (off:=0) (v:=u8v y) (by rw [Int.toNat_natCast,Nat.mul_one,Nat.add_zero,List.getElem?_map,hy]; rfl)
  refine ⟨_,ra,by omega,fun _=>⟨hb (by omega),fun _=>⟨_,rb,fun h1 => .of fun R h' H=>⟨by rw [decide_eq_false (get_ne hx hy fun e=>h1 (by rw [e]))],H⟩,fun h1=>⟨inI64' _ (by omega) (by omega),fun _=>⟨⟨k + 1,by omega,by omega,take_eq hx hy hpre (UInt8.toNat_inj.1 (by omega))⟩,by dsimp only; omega⟩⟩⟩⟩⟩
 ·have hke:k=n:=by omega
  subst hke
  rw [List.take_of_length_le (by omega),List.take_of_length_le (by omega)] at hpre
  rw [decide_eq_true hpre]
instance instNd:DecidableEq Nd:=fun r s=>decidable_of_iff (r.num=s.num ∧ r.kind=s.kind ∧ r.links=s.links ∧ r.data=s.data ∧ r.ents=s.ents) ⟨fun ⟨h1,h2,h3,h4,h5⟩=>by cases r; cases s; simp only at h1 h2 h3 h4 h5; subst h1 h2 h3 h4 h5; rfl,fun h=>by subst h; exact ⟨rfl,rfl,rfl,rfl,rfl⟩⟩
end Go.Proofs.YtdieogcemmnaaaaGreatDoor

namespace Go.Proofs.YtdieogcemmnaaaaGreatDoor.RX
set_option maxRecDepth 100000
-- (*tideline/tidelineref01.Reader).Number: ρ:=[.n r,.a r_Ba,.n r_Bl,.n r_Bc,.p r_BP,.i r_At,.c r_Wrong,.i n]
def t_rrNumber:T :=
(.br (.o2 .lt (.i 8) (.v 7))
(.join [.c]
(.br (.v 6)
(.again 0 [.e (.o1 .not (.o1 .not (.c true)))])
(.need (.o1 (.inr .i64) (.o2 .sub (.o1 .ofNat (.v 2)) (.v 5)))
(.again 0 [.e (.o1 .not (.o1 .not (.o2 .lt (.o2 .sub (.o1 .ofNat (.v 2)) (.v 5)) (.i 8))))])))
(.br (.v 8)
(.ret (.w (.a (.int .u64 (.i 0)))) [(.b (.v 0),.cells [.sl (.v 1) (.v 2) (.v 3),.int .i64 (.v 5),.bool (.c true)] 171),(.a 1,.prop 4)])
(.loop [.i,.i] [.e (.o1 .neg (.o1 .neg (.i 0))),.e (.o1 .neg (.o1 .neg (.i 0)))]
(.br (.o2 .lt (.v 10) (.i 8))
(.join [.i]
(.need (.o1 (.inr .i64) (.o2 .add (.v 5) (.v 10)))
(.need (.o2 .le (.i 0) (.o2 .add (.v 5) (.v 10)))
(.need (.o2 .lt (.o2 .add (.v 5) (.v 10)) (.o1 .ofNat (.v 2)))
(.need (.o1 .isSome (.v 1))
(.read (.load 5 (.tmp 49)) 5 [(49,.w (.a (.eptr 1 (.o2 .add (.v 5) (.v 10)) 1 0)))] [(.a 1,.prop 4)] [.i] (.w (.a (.int .u8 (.v 11))))
(.need (.o1 (.inr .u64) (.v 11))
(.again 0 [.e (.o1 .neg (.o1 .neg (.o1 (.wrap .u64) (.o2 .add (.o1 (.wrap .u64) (.o2 .mul (.i 256) (.v 9))) (.v 11)))))])))))))
(.need (.o1 (.inr .i64) (.o2 .add (.v 10) (.i 1)))
(.again 0 [.e (.o1 .neg (.o1 .neg (.v 11))),.e (.o1 .neg (.o1 .neg (.o2 .add (.v 10) (.i 1))))])))
(.need (.o1 (.inr .i64) (.o2 .add (.v 5) (.i 8)))
(.ret (.w (.a (.int .u64 (.v 9)))) [(.b (.v 0),.cells [.sl (.v 1) (.v 2) (.v 3),.int .i64 (.o2 .add (.v 5) (.i 8)),.bool (.v 6)] 171),(.a 1,.prop 4)]))))))
(.br (.o2 .lt (.v 7) (.i 0))
(.join [.c]
(.br (.v 6)
(.again 0 [.e (.o1 .not (.o1 .not (.c true)))])
(.need (.o1 (.inr .i64) (.o2 .sub (.o1 .ofNat (.v 2)) (.v 5)))
(.again 0 [.e (.o1 .not (.o1 .not (.o2 .lt (.o2 .sub (.o1 .ofNat (.v 2)) (.v 5)) (.i 0))))])))
(.br (.v 8)
(.ret (.w (.a (.int .u64 (.i 0)))) [(.b (.v 0),.cells [.sl (.v 1) (.v 2) (.v 3),.int .i64 (.v 5),.bool (.c true)] 171),(.a 1,.prop 4)])
(.loop [.i,.i] [.e (.o1 .neg (.o1 .neg (.i 0))),.e (.o1 .neg (.o1 .neg (.i 0)))]
(.br (.o2 .lt (.v 10) (.i 0))
(.join [.i]
(.need (.o1 (.inr .i64) (.o2 .add (.v 5) (.v 10)))
(.need (.o2 .le (.i 0) (.o2 .add (.v 5) (.v 10)))
(.need (.o2 .lt (.o2 .add (.v 5) (.v 10)) (.o1 .ofNat (.v 2)))
(.need (.o1 .isSome (.v 1))
(.read (.load 5 (.tmp 49)) 5 [(49,.w (.a (.eptr 1 (.o2 .add (.v 5) (.v 10)) 1 0)))] [(.a 1,.prop 4)] [.i] (.w (.a (.int .u8 (.v 11))))
(.need (.o1 (.inr .u64) (.v 11))
(.again 0 [.e (.o1 .neg (.o1 .neg (.o1 (.wrap .u64) (.o2 .add (.o1 (.wrap .u64) (.o2 .mul (.i 256) (.v 9))) (.v 11)))))])))))))
(.need (.o1 (.inr .i64) (.o2 .add (.v 10) (.i 1)))
(.again 0 [.e (.o1 .neg (.o1 .neg (.v 11))),.e (.o1 .neg (.o1 .neg (.o2 .add (.v 10) (.i 1))))])))
(.need (.o1 (.inr .i64) (.o2 .add (.v 5) (.i 0)))
(.ret (.w (.a (.int .u64 (.v 9)))) [(.b (.v 0),.cells [.sl (.v 1) (.v 2) (.v 3),.int .i64 (.o2 .add (.v 5) (.i 0)),.bool (.v 6)] 171),(.a 1,.prop 4)]))))))
(.join [.c]
(.br (.v 6)
(.again 0 [.e (.o1 .not (.o1 .not (.c true)))])
(.need (.o1 (.inr .i64) (.o2 .sub (.o1 .ofNat (.v 2)) (.v 5)))
(.again 0 [.e (.o1 .not (.o1 .not (.o2 .lt (.o2 .sub (.o1 .ofNat (.v 2)) (.v 5)) (.v 7))))])))
(.br (.v 8)
(.ret (.w (.a (.int .u64 (.i 0)))) [(.b (.v 0),.cells [.sl (.v 1) (.v 2) (.v 3),.int .i64 (.v 5),.bool (.c true)] 171),(.a 1,.prop 4)])
(.loop [.i,.i] [.e (.o1 .neg (.o1 .neg (.i 0))),.e (.o1 .neg (.o1 .neg (.i 0)))]
(.br (.o2 .lt (.v 10) (.v 7))
(.join [.i]
(.need (.o1 (.inr .i64) (.o2 .add (.v 5) (.v 10)))
(.need (.o2 .le (.i 0) (.o2 .add (.v 5) (.v 10)))
(.need (.o2 .lt (.o2 .add (.v 5) (.v 10)) (.o1 .ofNat (.v 2)))
(.need (.o1 .isSome (.v 1))
(.read (.load 5 (.tmp 49)) 5 [(49,.w (.a (.eptr 1 (.o2 .add (.v 5) (.v 10)) 1 0)))] [(.a 1,.prop 4)] [.i] (.w (.a (.int .u8 (.v 11))))
(.need (.o1 (.inr .u64) (.v 11))
(.again 0 [.e (.o1 .neg (.o1 .neg (.o1 (.wrap .u64) (.o2 .add (.o1 (.wrap .u64) (.o2 .mul (.i 256) (.v 9))) (.v 11)))))])))))))
(.need (.o1 (.inr .i64) (.o2 .add (.v 10) (.i 1)))
(.again 0 [.e (.o1 .neg (.o1 .neg (.v 11))),.e (.o1 .neg (.o1 .neg (.o2 .add (.v 10) (.i 1))))])))
(.need (.o1 (.inr .i64) (.o2 .add (.v 5) (.v 7)))
(.ret (.w (.a (.int .u64 (.v 9)))) [(.b (.v 0),.cells [.sl (.v 1) (.v 2) (.v 3),.int .i64 (.o2 .add (.v 5) (.v 7)),.bool (.v 6)] 171),(.a 1,.prop 4)]))))))))
theorem tree_rrNumber:tree Tryz.prog { absT:=[5],keep:=[30,105,26,93],rdf:=true,jn:=[((11,8),some { ss:=[.c],n:=9,tv:=[(11,none),(12,none),(13,none),(14,none),(15,none),(16,none),(17,none),(18,none),(19,none),(20,none),(21,none),(22,none),(23,none),(24,none),(25,none),(26,none),(27,none),(28,some (.w (.a (.bool (.v 8)))))],h:=[(.b (.v 0),.cells [.sl (.v 1) (.v 2) (.v 3),.int .i64 (.v 5),.bool (.v 6)] 171),(.a 1,.prop 4)],lk:=[] }),((37,11),some { ss:=[.i],n:=12,tv:=[(37,none),(38,none),(39,none),(40,none),(41,none),(42,none),(43,none),(44,none),(45,none),(46,none),(47,none),(48,none),(49,none),(50,none),(51,none),(52,none),(5,some (.w (.a (.int .u64 (.v 11)))))],h:=[(.b (.v 0),.cells [.sl (.v 1) (.v 2) (.v 3),.int .i64 (.v 5),.bool (.v 6)] 171),(.a 1,.prop 4)],lk:=[] })] } Tryz.f95 [.a (.ptr (.v 0) 0),.a (.int .i64 (.v 7))] [(.b (.v 0),.cells [.sl (.v 1) (.v 2) (.v 3),.int .i64 (.v 5),.bool (.v 6)] 171),(.a 1,.prop 4)] 8=t_rrNumber:=by kernel_rfl
def t_rrCount:T :=
(.call 95 [.a (.ptr (.v 0) 0),.a (.int .i64 (.i 4))] [(.b (.v 0),.cells [.sl (.v 1) (.v 2) (.v 3),.int .i64 (.v 5),.bool (.v 6)] 171),(.a 1,.prop 4)] [.i,.a,.n,.n,.p,.i,.c] (.w (.a (.int .u64 (.v 8)))) [(.b (.v 0),.cells [.sl (.v 9) (.v 10) (.v 11),.int .i64 (.v 13),.bool (.v 14)] 171),(.a 9,.prop 12)]
(.br (.o2 .lt (.v 7) (.o1 (.wrap .i64) (.v 8)))
(.ret (.w (.a (.int .i64 (.i 0)))) [(.b (.v 0),.cells [.sl (.v 9) (.v 10) (.v 11),.int .i64 (.v 13),.bool (.c true)] 171),(.a 9,.prop 12)])
(.ret (.w (.a (.int .i64 (.o1 (.wrap .i64) (.v 8))))) [(.b (.v 0),.cells [.sl (.v 9) (.v 10) (.v 11),.int .i64 (.v 13),.bool (.v 14)] 171),(.a 9,.prop 12)])))
theorem tree_rrCount:tree Tryz.prog { absT:=[5],keep:=[30,105,26,93],rdf:=true } Tryz.f106 [.a (.ptr (.v 0) 0),.a (.int .i64 (.v 7))] [(.b (.v 0),.cells [.sl (.v 1) (.v 2) (.v 3),.int .i64 (.v 5),.bool (.v 6)] 171),(.a 1,.prop 4)] 8=t_rrCount:=by kernel_rfl
def t_rrBytes:T :=
(.call 106 [.a (.ptr (.v 0) 0),.a (.int .i64 (.v 7))] [(.b (.v 0),.cells [.sl (.v 1) (.v 2) (.v 3),.int .i64 (.v 5),.bool (.v 6)] 171),(.a 1,.prop 4)] [.i,.a,.n,.n,.p,.i,.c] (.w (.a (.int .i64 (.v 8)))) [(.b (.v 0),.cells [.sl (.v 9) (.v 10) (.v 11),.int .i64 (.v 13),.bool (.v 14)] 171),(.a 9,.prop 12)]
(.join [.c]
(.br (.v 14)
(.again 0 [.e (.o1 .not (.o1 .not (.c true)))])
(.need (.o1 (.inr .i64) (.o2 .sub (.o1 .ofNat (.v 10)) (.v 13)))
(.again 0 [.e (.o1 .not (.o1 .not (.o2 .lt (.o2 .sub (.o1 .ofNat (.v 10)) (.v 13)) (.v 8))))])))
(.br (.v 15)
(.new
(.ret (.w (.a (.sl (.b (.v 16) 0) (.n 0) (.n 0)))) [(.b (.v 0),.cells [.sl (.v 9) (.v 10) (.v 11),.int .i64 (.v 13),.bool (.c true)] 171),(.a 9,.prop 12),(.b (.v 16),.cells [] 5)]))
(.need (.o1 (.inr .i64) (.o2 .add (.v 13) (.v 8)))
(.read (.slice 28 (.tmp 36) (some (.tmp 40)) (some (.tmp 46)) none) 28 [(36,.w (.a (.sl (.v 9) (.v 10) (.v 11)))),(40,.w (.a (.int .i64 (.v 13)))),(46,.w (.a (.int .i64 (.o2 .add (.v 13) (.v 8)))))] [(.a 9,.prop 12)] [.a,.n,.n] (.w (.a (.sl (.v 16) (.v 17) (.v 18))))
(.new
(.op (.call ⟨.builtin .append,#[.tmp 32,.tmp 47],#[28,28]⟩) 28 [(32,.w (.a (.sl (.b (.v 19) 0) (.n 0) (.n 0)))),(47,.w (.a (.sl (.v 16) (.v 17) (.v 18))))] [(.b (.v 19),.cells [] 5),(.a 9,.prop 12)] [.a,.n,.n,.p] (.w (.a (.sl (.v 20) (.v 21) (.v 22)))) [(.a 20,.prop 23),(.a 9,.prop 12)]
(.ret (.w (.a (.sl (.v 20) (.v 21) (.v 22)))) [(.b (.v 0),.cells [.sl (.v 9) (.v 10) (.v 11),.int .i64 (.o2 .add (.v 13) (.v 8)),.bool (.v 14)] 171),(.a 9,.prop 12),(.a 20,.prop 23)]))))))))
theorem tree_rrBytes:tree Tryz.prog { absT:=[5],keep:=[30,105,26,93],rdf:=true,jn:=[((10,15),some { ss:=[.c],n:=16,tv:=[(10,none),(11,none),(12,none),(13,none),(14,none),(15,none),(16,none),(17,none),(18,none),(19,none),(20,none),(21,none),(22,none),(23,none),(24,none),(25,none),(26,none),(27,some (.w (.a (.bool (.v 15)))))],h:=[(.b (.v 0),.cells [.sl (.v 9) (.v 10) (.v 11),.int .i64 (.v 13),.bool (.v 14)] 171),(.a 9,.prop 12)],lk:=[] })] } Tryz.f96 [.a (.ptr (.v 0) 0),.a (.int .i64 (.v 7))] [(.b (.v 0),.cells [.sl (.v 1) (.v 2) (.v 3),.int .i64 (.v 5),.bool (.v 6)] 171),(.a 1,.prop 4)] 8=t_rrBytes:=by kernel_rfl
def t_rrEnd:T :=
(.join [.c]
(.br (.v 6)
(.again 0 [.e (.o1 .not (.o1 .not (.c true)))])
(.again 0 [.e (.o1 .not (.o1 .not (.o2 .lt (.v 5) (.o1 .ofNat (.v 2)))))]))
(.br (.v 7)
(.ret (.w (.a (.int .i64 (.i 3)))) [(.b (.v 0),.cells [.sl (.v 1) (.v 2) (.v 3),.int .i64 (.v 5),.bool (.v 6)] 171),(.a 1,.prop 4)])
(.ret (.w (.a (.int .i64 (.i 0)))) [(.b (.v 0),.cells [.sl (.v 1) (.v 2) (.v 3),.int .i64 (.v 5),.bool (.v 6)] 171),(.a 1,.prop 4)])))
theorem tree_rrEnd:tree Tryz.prog { absT:=[5],keep:=[30,105,26,93],rdf:=true,jn:=[((3,7),some { ss:=[.c],n:=8,tv:=[(3,none),(4,none),(5,none),(6,none),(7,none),(8,none),(9,none),(10,none),(11,none),(12,none),(13,none),(14,none),(15,none),(16,none),(17,none),(18,some (.w (.a (.bool (.v 7)))))],h:=[(.b (.v 0),.cells [.sl (.v 1) (.v 2) (.v 3),.int .i64 (.v 5),.bool (.v 6)] 171),(.a 1,.prop 4)],lk:=[] })] } Tryz.f97 [.a (.ptr (.v 0) 0)] [(.b (.v 0),.cells [.sl (.v 1) (.v 2) (.v 3),.int .i64 (.v 5),.bool (.v 6)] 171),(.a 1,.prop 4)] 7=t_rrEnd:=by kernel_rfl
end Go.Proofs.YtdieogcemmnaaaaGreatDoor.RX

namespace Go.Proofs.YtdieogcemmnaaaaGreatDoor
set_option linter.unusedSimpArgs false
set_option linter.unusedVariables false
open Go.Proofs.YtdieogcemmnaaaaGreatDoor RX
set_option maxRecDepth 100000
def DRep (b:Nat) (s:RS):HP:=HP.ex fun a:Option Addr=>HP.ex fun c:Nat=>HP.ex fun l:List UInt8=>HP.ex fun k:Nat =>
 HP.and (k ≤ l.length ∧ l.length ≤ c ∧ l.length ≤ 1000000000 ∧ (l.length ≠ 0 → a.isSome=true) ∧ s.1=if s.2 then [] else l.drop k)
  (HP.sep (HP.one b (.cells #[.slice a l.length c,.int .i64 k,.bool s.2] 171)) (RoB a l.length l))
theorem beV_nil:beV []=0:=rfl
theorem numR_bad {s:RS} {n:Nat} (h:s.2=true) (h1:s.1=[]):numR s n=(0,([],true)):=by
 obtain ⟨x,y⟩:=s
 simp only at h h1
 subst h h1
 unfold numR takeR
 simp [beV_nil]
theorem numR_few {s:RS} {n:Nat} (h:s.2=false) (h1:s.1.length < n):numR s n=(0,([],true)):=by
 unfold numR takeR
 rw [if_neg (by rw [h]; decide),if_pos h1]
 simp [beV_nil]
theorem numR_many {s:RS} {n:Nat} (h:s.2=false) (h1:n ≤ s.1.length):numR s n=(beV (s.1.take n),(s.1.drop n,false)):=by
 unfold numR takeR
 rw [if_neg (by rw [h]; decide),if_neg (by omega)]
set_option maxHeartbeats 1000000 in
theorem dNumber_ok (b:Nat) (s:RS) (n:Nat) (hn:n ≤ 8):Tri Tryz.prog 95 #[.pointer (some ⟨b,0,none⟩),.int .i64 n] (DRep b s)
  (fun v=>HP.and (v = .int .u64 ((numR s n).1:Nat)) (DRep b (numR s n).2)):=by
 refine Tri.ex fun a=>Tri.ex fun c=>Tri.ex fun l=>Tri.ex fun k=>Tri.pure fun ⟨hk,hc,hb,ha,hs⟩ => ?_
 refine tri_of_tree (ρ:=[.n b,.a a,.n l.length,.n c,.p (RoB a l.length l),.i k,.c s.2,.i n]) mixed Tryz.func95 tree_rrNumber ?_
 unfold t_rrNumber
 simp only [T.den,E.prop,E.den,RX.look,F1.app,F2.app,Uni.int_i,Uni.nat_n,Uni.bool_c,Uni.str_s,Uni.adr_a,Uni.val_v,Uni.hp_p,hden,cden,V.den,W.den,A.den,BR.den,SA.den,FV.den,capV,exs,exP,allP,Cur.app,List.map_cons,List.map_nil,List.cons_append,List.nil_append,List.drop_succ_cons,List.drop_zero,List.length_cons,List.length_nil,Nat.zero_add,Nat.reduceAdd,Int.neg_neg,Bool.not_not,List.append_nil,Nat.add_zero,List.getElem?_cons_zero,List.getElem?_cons_succ,Decidable.not_not,semW_eq,semW_load,ne_eq,Nat.reduceEqDiff,not_false_eq_true]
 refine ⟨fun h=>absurd h (by omega),fun _=>⟨fun h=>absurd h (by omega),fun _=>⟨fun f=>f=(s.2 || decide (((l.length:Int) - k) < n)),?_,?_⟩⟩⟩
 ·refine ⟨fun h=>by rw [h]; rfl,fun h=>⟨inI64 _ (by omega) (by omega),fun _ => ?_⟩⟩
  have:s.2=false:=by simpa using h
  rw [this,Bool.false_or]
  exact decide_eq_decide.2 Iff.rfl
 ·rintro f rfl
  refine ⟨fun h => .of fun R h' H => ?_,fun h => ?_⟩
  ·have e:numR s n=(0,([],true)):=by
    cases h2:s.2 with
    | true=>exact numR_bad h2 (by rw [hs,h2]; rfl)
    | false =>
     rw [h2] at h hs
     have h:(l.length:Int) - k < n:=by simpa using h
     exact numR_few h2 (by rw [hs]; simp; omega)
   rw [e]
   exact ⟨rfl,a,c,l,k,⟨hk,hc,hb,ha,rfl⟩,H⟩
  ·have h2:s.2=false:=by
    cases h2:s.2 with
    | true=>rw [h2] at h; simp at h
    | false=>rfl
   have h3:n ≤ l.length - k:=by
    rw [h2] at h
    have : ¬ (l.length:Int) - k < n:=by simpa using h
    omega
   rw [h2] at hs
   have hs1:s.1=l.drop k:=by simpa using hs
   have e:=numR_many (s:=s) (n:=n) h2 (by rw [hs1]; simp; omega)
   rw [e,hs1]
   refine ⟨fun v i => ∃ j:Nat,i=j ∧ j ≤ n ∧ v=((beV ((l.drop k).take j):Nat):Int),fun v i=>n - i.toNat,⟨0,rfl,Nat.zero_le _,rfl⟩,?_⟩
   rintro v i ⟨j,rfl,hj,rfl⟩
   have pw:=beV_lt ((l.drop k).take j)
   rw [List.length_take,List.length_drop,Nat.min_eq_left (by omega)] at pw
   refine ⟨fun hlt=>⟨fun x=>x=((beV ((l.drop k).take (j + 1)):Nat):Int),?_,?_⟩,fun hge => ?_⟩
   ·have hlt':k + j < l.length:=by omega
    have hget:l[k + j]? = some l[k + j]:=List.getElem?_eq_getElem hlt'
    have h2:256 ^ j ≤ 256 ^ 7:=Nat.pow_le_pow_right (by decide) (by omega)
    have h3:(256:Nat) ^ 7=2 ^ 56:=by decide
    have hb8:=l[k + j].toNat_lt
    refine ⟨inI64 _ (by omega) (by omega),fun _=>⟨by omega,fun _=>⟨by omega,fun _=>⟨ha (by omega),fun _=>⟨(l[k + j].toNat:Int),?_,inU64 _ (by omega) (by omega),fun _ => ?_⟩⟩⟩⟩⟩
    ·have e1:((k:Int) + j).toNat=k + j:=by omega
     rw [e1]
     exact load1_ok und8b agg8 sz8 (RoC.rd 1 a _ (l.map u8v)) (k:=(k + j) * 1) (off:=0) (v:=u8v l[k + j]) (by simp [hget])
    ·have e3:(l.drop k).take (j + 1)=(l.drop k).take j ++ [l[k + j]]:=by
      rw [List.take_succ_eq_append_getElem (by simp; omega)]; simp
     rw [e3,beV_snoc]
     generalize beV ((l.drop k).take j)=v0 at *
     have e1:IntKind.u64.wrap (256 * (v0:Int))=((256 * v0:Nat):Int):=by
      have:(256 * (v0:Int))=((256 * v0:Nat):Int):=by omega
      rw [this]; exact wrap_in (inU64 _ (by omega) (by omega))
     rw [e1]
     have e2:((256 * v0:Nat):Int) + (l[k + j].toNat:Int)=((v0 * 256 + l[k + j].toNat:Nat):Int):=by omega
     rw [e2]
     exact wrap_in (inU64 _ (by omega) (by omega))
   ·rintro x rfl
    exact ⟨inI64 _ (by omega) (by omega),fun _=>⟨⟨j + 1,by omega,by omega,rfl⟩,by dsimp only; omega⟩⟩
   ·obtain rfl:j=n:=by omega
    refine ⟨inI64 _ (by omega) (by omega),fun _ => .of fun R h H=>⟨rfl,a,c,l,k + j,⟨by omega,hc,hb,ha,by simp⟩,?_⟩⟩
    rw [h2] at H
    have e1:((k + j:Nat):Int)=(k:Int) + j:=by omega
    rw [e1]
    exact H
theorem dCount_ok (b:Nat) (s:RS) (m:Int) (hm:0 ≤ m):Tri Tryz.prog 106 #[.pointer (some ⟨b,0,none⟩),.int .i64 m] (DRep b s)
  (fun v=>HP.and (v = .int .i64 ((toldR s m).1:Nat)) (DRep b (toldR s m).2)):=by
 have hlt:=numR_lt s 4
 have h4:(256:Nat) ^ 4=4294967296:=by decide
 refine Tri.ex fun a=>Tri.ex fun c=>Tri.ex fun l=>Tri.ex fun k=>Tri.pure fun hh => ?_
 refine tri_of_tree (ρ:=[.n b,.a a,.n l.length,.n c,.p (RoB a l.length l),.i k,.c s.2,.i m]) mixed Tryz.func106 tree_rrCount ?_
 unfold t_rrCount
 simp only [T.den,E.prop,E.den,RX.look,F1.app,F2.app,Uni.int_i,Uni.nat_n,Uni.bool_c,Uni.str_s,Uni.adr_a,Uni.val_v,Uni.hp_p,hden,cden,V.den,W.den,A.den,BR.den,SA.den,FV.den,capV,exs,exP,allP,Cur.app,List.map_cons,List.map_nil,List.cons_append,List.nil_append,List.drop_succ_cons,List.drop_zero,List.length_cons,List.length_nil,Nat.zero_add,Nat.reduceAdd,Int.neg_neg,Bool.not_not,List.append_nil,Nat.add_zero,List.getElem?_cons_zero,List.getElem?_cons_succ,Decidable.not_not,semW_eq,ne_eq,Nat.reduceEqDiff,not_false_eq_true]
 refine (dNumber_ok b s 4 (by omega)).weak (fun R h H=>⟨a,c,l,k,hh,H⟩) ?_
 rintro v R h ⟨rfl,a',c',l',k',hh',H⟩
 have hbad:(numR s 4).2.2=true → (numR s 4).1=0:=fun hw=>by
  unfold numR takeR at hw ⊢
  split
  ·rfl
  ·split
   ·rfl
   ·rename_i h1 h2
    rw [if_neg h1,if_neg h2] at hw; cases hw
 unfold toldR
 generalize (numR s 4).1=x at *
 generalize (numR s 4).2=s' at *
 obtain ⟨l1,w'⟩:=s'
 refine ⟨_,a',_,c',RoB a' l'.length l',k',w',rfl,?_,H⟩
 have e:IntKind.i64.wrap (x:Int)=x:=wrap_in (inI64 _ (by omega) (by omega))
 rw [e]
 simp only at hh' hbad
 refine ⟨fun h1 => .of fun R h H => ?_,fun h1 => .of fun R h H => ?_⟩
 ·by_cases hw:w'=true
  ·have:=hbad hw; omega
  ·rw [if_neg hw,if_pos h1]
   exact ⟨rfl,a',c',l',k',⟨hh'.1,hh'.2.1,hh'.2.2.1,hh'.2.2.2.1,rfl⟩,H⟩
 ·by_cases hw:w'=true
  ·rw [if_pos hw]
   have:=hbad hw
   subst this
   exact ⟨rfl,a',c',l',k',hh',H⟩
  ·rw [if_neg hw,if_neg h1]
   exact ⟨rfl,a',c',l',k',hh',H⟩
set_option maxHeartbeats 1000000 in
theorem dBytes_ok (b:Nat) (s:RS) (m:Int) (hm:0 ≤ m):Tri Tryz.prog 96 #[.pointer (some ⟨b,0,none⟩),.int .i64 m] (DRep b s)
  (fun v=>HP.ex fun a=>HP.ex fun c=>HP.and (v = .slice a (bytesR s m).1.length c) (HP.sep (DRep b (bytesR s m).2) (OwB a (bytesR s m).1.length c (bytesR s m).1))):=by
 refine Tri.ex fun a=>Tri.ex fun c=>Tri.ex fun l=>Tri.ex fun k=>Tri.pure fun hh => ?_
 refine tri_of_tree (ρ:=[.n b,.a a,.n l.length,.n c,.p (RoB a l.length l),.i k,.c s.2,.i m]) mixed Tryz.func96 tree_rrBytes ?_
 unfold t_rrBytes
 simp only [T.den,E.prop,E.den,RX.look,F1.app,F2.app,Uni.int_i,Uni.nat_n,Uni.bool_c,Uni.str_s,Uni.adr_a,Uni.val_v,Uni.hp_p,hden,cden,V.den,W.den,A.den,BR.den,SA.den,FV.den,capV,exs,exP,allP,Cur.app,List.map_cons,List.map_nil,List.cons_append,List.nil_append,List.drop_succ_cons,List.drop_zero,List.length_cons,List.length_nil,Nat.zero_add,Nat.reduceAdd,Int.neg_neg,Bool.not_not,List.append_nil,Nat.add_zero,List.getElem?_cons_zero,List.getElem?_cons_succ,Decidable.not_not,semW_eq,semW_append,ne_eq,Nat.reduceEqDiff,not_false_eq_true]
 refine (dCount_ok b s m hm).weak (fun R h H=>⟨a,c,l,k,hh,H⟩) ?_
 rintro v R h ⟨rfl,a',c',l',k',⟨hk,hc,hb,ha,hs⟩,H⟩
 have hn:=toldR_lt s m
 unfold bytesR
 generalize (toldR s m).1=n at *
 generalize (toldR s m).2=s' at *
 obtain ⟨l1,w'⟩:=s'
 simp only at hs
 refine ⟨_,a',_,c',RoB a' l'.length l',k',w',rfl,?_,H⟩
 refine ⟨fun f=>f=(w' || decide (((l'.length:Int) - k') < n)),?_,?_⟩
 ·refine ⟨fun h=>by rw [h]; rfl,fun h=>⟨inI64 _ (by omega) (by omega),fun _ => ?_⟩⟩
  have:w'=false:=by simpa using h
  rw [this,Bool.false_or]
  exact decide_eq_decide.2 Iff.rfl
 ·rintro f rfl
  refine ⟨fun h x => .of fun R h' H => ?_,fun h => ?_⟩
  ·have e:takeR (l1,w') n=([],([],true)):=by
    unfold takeR
    cases h2:w' with
    | true=>subst h2; simp at hs; subst hs; simp
    | false =>
     subst h2
     have h:(l'.length:Int) - k' < n:=by simpa using h
     simp at hs
     rw [if_neg (by simp),if_pos (by rw [hs]; simp; omega)]
   rw [e]
   exact ⟨some ⟨x,0,none⟩,0,rfl,HP.sep_mono (HP.sep_assoc' H) (fun y hy=>⟨a',c',l',k',⟨hk,hc,hb,ha,rfl⟩,hy⟩) fun y hy=>⟨rfl,.inr ⟨x,#[],rfl,hy,Nat.le_refl _,by unfold maxLen; omega,rfl,rfl⟩⟩⟩
  ·have h2:w'=false:=by
    cases h2:w' with
    | true=>rw [h2] at h; simp at h
    | false=>rfl
   subst h2
   have h3:n ≤ l'.length - k':=by
    have : ¬ (l'.length:Int) - k' < n:=by simpa using h
    omega
   have hs1:l1=l'.drop k':=by simpa using hs
   have e:takeR (l1,false) n=(l1.take n,(l1.drop n,false)):=by
    unfold takeR
    rw [if_neg (by simp),if_neg (by rw [hs1]; simp; omega)]
   rw [e,hs1]
   obtain ⟨i,hi,_⟩:=info_parts info8
   have s1:=slice_ok und8 hi (RoB a' l'.length l') a' l'.length c' (some k') (some (k' + n)) none (by simp) (by simp; omega) (by simp) (fun h=>by cases h)
   simp only [Option.getD_some,Option.getD_none,sz8,Nat.mul_one] at s1
   refine ⟨inI64 _ (by omega) (by omega),fun _=>⟨_,k' + n - k',c' - k',by rw [semW_slice]; exact s1,fun x => ?_⟩⟩
   have e2:k' + n - k'=n:=by omega
   rw [e2]
   have r1:=(RdL.ro 1 a' l'.length (l'.map u8v)).subs k' n (by omega) (c'=k') (fun h=>by omega)
   rw [← List.map_drop,← List.map_take] at r1
   have hlen:((l'.drop k').take n).length=n:=by simp; omega
   refine (append8 (some ⟨x,0,none⟩) 0 0 [] _ _ n (c' - k') ((l'.drop k').take n) r1 hlen (fun hne => ?_) (by omega)).weak (fun R h H=>HP.sep_mono H (fun y hy=>⟨rfl,.inr ⟨x,#[],rfl,hy,Nat.le_refl _,by unfold maxLen; omega,rfl,rfl⟩⟩) fun _ h=>h) ?_
   ·rw [if_neg (by omega),Option.isSome_map]; exact ha (by omega)
   rintro v R h ⟨a1,c1,rfl,H⟩
   rw [Nat.zero_add,List.nil_append] at H
   refine ⟨a1,n,c1,OwB a1 n c1 ((l'.drop k').take n),by rw [Nat.zero_add],.of fun R h H=>⟨a1,c1,by rw [hlen],?_⟩,H⟩
   rw [hlen]
   refine HP.sep_mono (HP.sep_assoc' H) (fun y hy=>⟨a',c',l',k' + n,⟨by omega,hc,hb,ha,by simp⟩,?_⟩) fun _ h=>h
   have e1:((k' + n:Nat):Int)=(k':Int) + n:=by omega
   rw [e1]
   exact hy
theorem dEnd_ok (b:Nat) (s:RS):Tri Tryz.prog 97 #[.pointer (some ⟨b,0,none⟩)] (DRep b s) (fun v=>HP.and (v = .int .i64 (if s.2=true ∨ s.1 ≠ [] then 3 else 0)) (DRep b s)):=by
 obtain ⟨l1,w'⟩:=s
 refine Tri.ex fun a=>Tri.ex fun c=>Tri.ex fun l=>Tri.ex fun k=>Tri.pure fun ⟨hk,hc,hb,ha,hs⟩ => ?_
 refine tri_of_tree (ρ:=[.n b,.a a,.n l.length,.n c,.p (RoB a l.length l),.i k,.c w']) mixed Tryz.func97 tree_rrEnd ?_
 unfold t_rrEnd
 simp only [T.den,E.prop,E.den,RX.look,F1.app,F2.app,Uni.int_i,Uni.nat_n,Uni.bool_c,Uni.str_s,Uni.adr_a,Uni.val_v,Uni.hp_p,hden,cden,V.den,W.den,A.den,BR.den,SA.den,FV.den,capV,exs,exP,allP,Cur.app,List.map_cons,List.map_nil,List.cons_append,List.nil_append,List.drop_succ_cons,List.drop_zero,List.length_cons,List.length_nil,Nat.zero_add,Nat.reduceAdd,Int.neg_neg,Bool.not_not,List.append_nil,Nat.add_zero,List.getElem?_cons_zero,List.getElem?_cons_succ,Decidable.not_not,semW_eq,ne_eq,Nat.reduceEqDiff,not_false_eq_true]
 simp only at hs
 have iff':(w'=true ∨ l1 ≠ []) ↔ (w' || decide ((k:Int) < l.length))=true:=by
  cases w' with
  | true=>simp
  | false =>
   have hs:l1=l.drop k:=by simpa using hs
   rw [hs,Bool.false_or,decide_eq_true_eq]
   simp
 refine ⟨fun f=>f=(w' || decide ((k:Int) < l.length)),?_,?_⟩
 ·refine ⟨fun h=>by rw [h]; rfl,fun h => ?_⟩
  have:w'=false:=by simpa using h
  rw [this,Bool.false_or]
  exact decide_eq_decide.2 Iff.rfl
 ·rintro f rfl
  refine ⟨fun h => .of fun R h' H => ?_,fun h => .of fun R h' H => ?_⟩
  ·rw [if_pos (iff'.2 h)]; exact ⟨rfl,a,c,l,k,⟨hk,hc,hb,ha,hs⟩,H⟩
  ·rw [if_neg fun e=>h (iff'.1 e)]; exact ⟨rfl,a,c,l,k,⟨hk,hc,hb,ha,hs⟩,H⟩
theorem Tri.preE7 {P:Program} {f:FuncId} {args:Array Value} {A A':HP} {B:Value → HP} (t:Tri P f args A B) (e:HP.ent A' A):Tri P f args A' B:=t.conseq (K:=HP.tt) (e.trans (.of fun _ _ H=>HP.sep_tt H)) fun v => .of fun _ _ H=>HP.sep_left H
end Go.Proofs.YtdieogcemmnaaaaGreatDoor

namespace Go.Proofs.YtdieogcemmnaaaaGreatDoor
open Go.Proofs.YtdieogcemmnaaaaGreatDoor RX
theorem RoB0 (a:Option Addr) {R h:PH}:(RoB a 0 []).p R h:=RoC.nil 1 a R h
end Go.Proofs.YtdieogcemmnaaaaGreatDoor

namespace Go.Proofs.YtdieogcemmnaaaaGreatDoor
set_option linter.unusedSimpArgs false
set_option linter.unusedVariables false
open Go.Proofs.YtdieogcemmnaaaaGreatDoor RX
structure RPg where
 kind:Int
 n:Int
 r:Int
 w:Int
 bytes:List UInt8
structure PgE where
 pg:RPg
 a:Option Addr
 c:Nat
def kPg:PK PgE:=⟨108,5,by decide,fun e=>[.int .i64 e.pg.kind,.int .i64 e.pg.n,.int .i64 e.pg.r,.int .i64 e.pg.w,.slice e.a e.pg.bytes.length e.c],fun _=>rfl,
 fun e u hu=>by simp at hu; rcases hu with rfl | rfl | rfl | rfl | rfl <;> rfl,fun e=>HP.and (e.pg.bytes.length ≤ 140737488355328) (RoB e.a e.pg.bytes.length e.pg.bytes)⟩
abbrev ROne (rb:Nat) (a:Option Addr) (n c:Nat) (room:Int):HP:=HP.one rb (.cells #[.slice a n c,.int .i64 room] 104 (0,0))
def RU (rb:Nat) (room:Int) (pgs:List RPg):HP:=HP.ex fun a=>HP.ex fun c=>HP.ex fun es=>HP.and (es.map PgE.pg=pgs ∧ pgs.length ≤ 1000000) (HP.sep (ROne rb a pgs.length c room) (PL kPg a pgs.length c es))
theorem RU.tri {f:FuncId} {args:Array Value} {rb:Nat} {room:Int} {pgs:List RPg} {B:Value → HP} (t : ∀ a c es,es.map PgE.pg=pgs → pgs.length ≤ 1000000 → (pgs.length ≠ 0 → a.isSome=true) → Tri Tryz.prog f args (HP.sep (ROne rb a pgs.length c room) (PL kPg a pgs.length c es)) B):Tri Tryz.prog f args (RU rb room pgs) B :=
 Tri.ex fun a=>Tri.ex fun c=>Tri.ex fun es=>Tri.pure fun h=>Tri.fact (φ:=pgs.length ≠ 0 → a.isSome=true) (fun R h H hn=>PL.isAt (HP.sep_right H) hn) fun ha=>t a c es h.1 h.2 ha
theorem RU.of {rb:Nat} {room:Int} {a:Option Addr} {n c:Nat} {es:List PgE} {pgs:List RPg} {R h:PH} (e:es.map PgE.pg=pgs) (hb:pgs.length ≤ 1000000) (hn:n=pgs.length) (H:(HP.sep (ROne rb a n c room) (PL kPg a n c es)).p R h):(RU rb room pgs).p R h:=by
 subst hn; exact ⟨a,c,es,⟨e,hb⟩,H⟩
def findU (p:RPg → Bool) (l:List RPg):Nat → Option RPg
 | 0=>none
 | k + 1=>match l[k]? with
  | some x=>if p x then some x else findU p l k
  | none=>findU p l k
def lastR (l:List RPg) (kind:Int):Int:=((findU (fun x=>decide (x.kind=kind)) l l.length).map RPg.n).getD 0
def cellR (l:List RPg) (at':Int):CellS:=((findU (fun x=>decide (x.kind ≤ 2) && decide (x.n=at')) l l.length).map fun x=>(⟨x.kind,x.bytes⟩:CellS)).getD ⟨0,[]⟩
section
variable {rb:Nat} {room:Int} {pgs:List RPg} {a:Option Addr} {c:Nat} {es:List PgE}
theorem pgK {k:Nat} {x:PgE} (hk:es[k]? = some x) (he:es.map PgE.pg=pgs):pgs[k]? = some x.pg:=by rw [← he,List.getElem?_map,hk]; rfl
theorem pgAt {k:Nat} (he:es.map PgE.pg=pgs) (hk:k < pgs.length) : ∃ x,es[k]? = some x ∧ pgs[k]? = some x.pg:=by
 have hl:k < es.length:=by rw [← he] at hk; simpa using hk
 exact ⟨es[k],List.getElem?_eq_getElem hl,pgK (List.getElem?_eq_getElem hl) he⟩
theorem loadPg1 {t:TypeId} {d:TypeDesc} (hd:Tryz.prog.underlying t=some d) (ha:aggT Tryz.prog t=false) (hz:szT Tryz.prog t=1) {n k off:Nat} {x:PgE} {v:Value} (hk:es[k]? = some x) (hv:(kPg.vals x)[off]? = some v) :
  ORead Tryz.prog (loadS t (.pointer (a.map fun y=>(y.add (k * 5)).add off))) (PL kPg a n c es) v:=by
 refine load1_ok hd ha hz (PL.rd a n c es) (k:=k * 5) (off:=off) ?_
 have hlt:off < 5:=by
  have:=(List.getElem?_eq_some_iff.1 hv).1
  rw [kPg.len] at this; exact this
 rw [show k * 5 + off=k * kPg.n + off from rfl,flat_getL kPg.vals kPg.n kPg.len es k off x hk hlt]
 exact hv
theorem loadPg {n k:Nat} {x:PgE} (hk:es[k]? = some x):ORead Tryz.prog (loadS 108 (.pointer (a.map fun y=>(y.add (k * 5)).add 0))) (PL kPg a n c es) (.agg (kPg.vals x).toArray):=by
 obtain ⟨d,hd⟩ : ∃ d,Tryz.prog.underlying 108=some d:=Option.isSome_iff_exists.1 (by kernel_rfl)
 refine loadN_ok (vs:=kPg.vals x) hd (by kernel_rfl) (PL.rd a n c es) (k:=k * 5) (off:=0) (by kernel_rfl) (by rw [kPg.len]; exact kPg.pos) fun j v hj => ?_
 have hlt:j < 5:=by
  have:=(List.getElem?_eq_some_iff.1 hj).1
  rw [kPg.len] at this; exact this
 rw [show k * 5 + 0 + j=k * kPg.n + j from by show _=k * 5 + j; omega,flat_getL kPg.vals kPg.n kPg.len es k j x hk hlt]
 exact hj
theorem sepN_memU {l:List HP} {x:HP} (h:x ∈ l) {R y:PH} (H:(sepN l).p R y):x.p R y:=by
 obtain ⟨k,hk⟩:=List.getElem?_of_mem h
 exact HP.sep_left (sepN_focus hk H)
theorem pgRo {n k:Nat} {x:PgE} (hk:es[k]? = some x) {R h:PH} (H:(PL kPg a n c es).p R h):x.pg.bytes.length ≤ 140737488355328 ∧ ∀ h',(RoB x.a x.pg.bytes.length x.pg.bytes).p R h' :=
 (sepN_memU (List.mem_map.2 ⟨x,List.mem_of_getElem? hk,rfl⟩) (HP.sep_right H.2):(HP.and (x.pg.bytes.length ≤ 140737488355328) (RoB x.a x.pg.bytes.length x.pg.bytes)).p R h) |> fun ⟨e,hr⟩=>⟨e,fun _=>hr⟩
end
abbrev rRho (rb:Nat) (a:Option Addr) (n c:Nat) (es:List PgE) (room:Int):Env:=[.n rb,.a a,.n n,.n c,.p (PL kPg a n c es),.i room]
theorem qNumber_ok (n:Int):Tri Tryz.prog 117 #[.int .i64 n] HP.tt (fun v=>HP.pure (v = .bool (numOk n))):=by
 refine tri_of_tree (ρ:=[.i n]) mixed Tryz.func117 tree_qNumber ?_
 unfold t_qNumber
 simp only [T.den,E.prop,E.den,RX.look,F1.app,F2.app,Uni.int_i,Uni.nat_n,Uni.bool_c,Uni.str_s,Uni.adr_a,Uni.val_v,Uni.hp_p,hden,cden,V.den,W.den,A.den,BR.den,SA.den,FV.den,capV,exs,exP,allP,Cur.app,List.map_cons,List.map_nil,List.cons_append,List.nil_append,List.drop_succ_cons,List.drop_zero,List.length_cons,List.length_nil,Nat.zero_add,Nat.reduceAdd,Int.neg_neg,Bool.not_not,List.append_nil,Nat.add_zero,List.getElem?_cons_zero,List.getElem?_cons_succ,Decidable.not_not,semW_eq,ne_eq,Nat.reduceEqDiff,not_false_eq_true]
 refine ⟨fun h => .of fun R y _ => ?_,fun h => .of fun R y _ => ?_⟩
 ·show Value.bool _=Value.bool (numOk n)
  unfold numOk; rw [decide_eq_true h]; rfl
 ·show Value.bool _=Value.bool (numOk n)
  unfold numOk; rw [decide_eq_false h]; rfl
end Go.Proofs.YtdieogcemmnaaaaGreatDoor
