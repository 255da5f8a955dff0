/- Texts of this claim, joined. No condition. -/
import Derived.Test.YtdieogcemmnaaaaGreatDoorJRJ1
import Derived.Test.YtdieogcemmnaaaaGreatDoorJRJ2
import Derived.Test.YtdieogcemmnaaaaGreatDoorJRJ3
import Derived.KernelRfl
import Derived.Laws.StructEq
import Derived.Sort.Walk0
set_option linter.unusedSimpArgs false
set_option linter.unusedVariables false
namespace Go.Proofs.YtdieogcemmnaaaaGreatDoor
set_option linter.unusedSimpArgs false
set_option linter.unusedVariables false
open Go.Proofs.YtdieogcemmnaaaaGreatDoor RX
set_option maxRecDepth 100000
structure LogM where
 kind:Int
 cl:Int
 bi:Int
 nu:Int
 st:Int
 bk:Int
 pl:List UInt8
def LogM.val (x:LogM) (a:Option Addr) (c:Nat):Value := .agg #[.int .i64 x.kind,.int .i64 x.cl,.int .i64 x.bi,.int .i64 x.nu,.int .i64 x.st,.int .i64 x.bk,.slice a x.pl.length c]
def partOk (n:Int):Bool:=decide (0 ≤ n) && decide (n ≤ 2147483647)
def logOk (x:LogM):Bool:=(decide (x.kind=1) || decide (x.kind=2)) && partOk x.cl && partOk x.bi && partOk x.nu && decide (0 ≤ x.st) && decide (x.st < 8) && decide (-1 ≤ x.bk) && decide (x.bk ≤ 4294967296) && decide (x.pl.length ≤ 65506)
theorem ePart_ok (n:Int):Tri Tryz.prog 206 #[.int .i64 n] HP.tt (fun v=>HP.and (v = .bool (partOk n)) HP.tt):=by
 refine tri_of_tree (ρ:=[.i n]) mixed Tryz.func206 tree_ePart ?_
 unfold t_ePart
 simp only [T.den,E.prop,E.den,RX.look,F1.app,F2.app,Uni.int_i,Uni.nat_n,Uni.bool_c,Uni.str_s,Uni.adr_a,Uni.val_v,Uni.hp_p,hden,cden,V.den,W.den,A.den,BR.den,SA.den,FV.den,capV,exs,exP,allP,Cur.app,List.map_cons,List.map_nil,List.cons_append,List.nil_append,List.drop_succ_cons,List.drop_zero,List.length_cons,List.length_nil,Nat.zero_add,Nat.reduceAdd,Int.neg_neg,Bool.not_not,List.append_nil,Nat.add_zero,List.getElem?_cons_zero,List.getElem?_cons_succ,Decidable.not_not,semW_eq,ne_eq,Nat.reduceEqDiff,not_false_eq_true]
 unfold partOk
 refine ⟨fun h => .of fun R x _=>⟨?_,trivial⟩,fun h => .of fun R x _=>⟨?_,trivial⟩⟩
 ·have h':0 ≤ n:=h
  rw [decide_eq_true h',Bool.true_and]; rfl
 ·have h' : ¬ 0 ≤ n:=h
  rw [decide_eq_false h',Bool.false_and]
theorem eRight_ok (x:LogM) (a:Option Addr) (c:Nat) (S:HP):Tri Tryz.prog 163 #[x.val a c] S (fun v=>HP.and (v = .bool (logOk x)) S):=by
 refine tri_of_tree (ρ:=[.i x.kind,.i x.cl,.i x.bi,.i x.nu,.i x.st,.i x.bk,.a a,.n x.pl.length,.n c,.p S]) mixed Tryz.func163 tree_eRight ?_
 unfold t_eRight
 simp only [T.den,E.prop,E.den,RX.look,F1.app,F2.app,Uni.int_i,Uni.nat_n,Uni.bool_c,Uni.str_s,Uni.adr_a,Uni.val_v,Uni.hp_p,hden,cden,V.den,W.den,A.den,BR.den,SA.den,FV.den,capV,exs,exP,allP,Cur.app,List.map_cons,List.map_nil,List.cons_append,List.nil_append,List.drop_succ_cons,List.drop_zero,List.length_cons,List.length_nil,Nat.zero_add,Nat.reduceAdd,Int.neg_neg,Bool.not_not,List.append_nil,Nat.add_zero,List.getElem?_cons_zero,List.getElem?_cons_succ,Decidable.not_not,semW_eq,ne_eq,Nat.reduceEqDiff,not_false_eq_true]
 intro _
 have no:logOk x=false → HP.ent S (HP.and (Value.bool false = .bool (logOk x)) S):=fun h => .of fun R h' H=>⟨by rw [h],H⟩
 refine ⟨fun h1=>⟨fun h2=>no ?_,fun h2 => ?_⟩,fun h1 => ?_⟩
 ·unfold logOk; simp [h1,h2]
 ·have hk':(decide (x.kind=1) || decide (x.kind=2))=true:=by
   have h2:x.kind=2:=by simpa using h2
   simp [h2]
  clear h1 h2
  refine (ePart_ok x.cl).weak (fun _ _ h=>h) ?_
  rintro v R h ⟨rfl,H⟩
  refine ⟨_,rfl,⟨fun h=>no ?_,fun h1 => ?_⟩,H⟩
  ·unfold logOk; simp [h]
  refine (ePart_ok x.bi).weak (fun _ _ h=>h) ?_
  rintro v R h ⟨rfl,H⟩
  refine ⟨_,rfl,⟨fun h=>no ?_,fun h2 => ?_⟩,H⟩
  ·unfold logOk; simp [h]
  refine (ePart_ok x.nu).weak (fun _ _ h=>h) ?_
  rintro v R h ⟨rfl,H⟩
  refine ⟨_,rfl,⟨fun h=>no ?_,fun h3=>⟨fun h=>no ?_,fun h4=>⟨fun h=>no ?_,fun h5=>⟨fun h=>no ?_,fun h6=>⟨fun h=>no ?_,fun h7 => .of fun R h' H=>⟨?_,H⟩⟩⟩⟩⟩⟩,H⟩
  ·unfold logOk; simp [h]
  ·unfold logOk; have : ¬ 0 ≤ x.st:=by omega
   simp [this]
  ·unfold logOk; have : ¬ x.st < 8:=by omega
   simp [this]
  ·unfold logOk; have : ¬ -1 ≤ x.bk:=by omega
   simp [this]
  ·unfold logOk; have : ¬ x.bk ≤ 4294967296:=by omega
   simp [this]
  ·have a1:0 ≤ x.st:=by omega
   have a2:x.st < 8:=by omega
   have a3 : -1 ≤ x.bk:=by omega
   have a4:x.bk ≤ 4294967296:=by omega
   have h1:partOk x.cl=true:=by simpa using h1
   have h2:partOk x.bi=true:=by simpa using h2
   have h3:partOk x.nu=true:=by simpa using h3
   unfold logOk
   rw [hk',h1,h2,h3]
   simp [a1,a2,a3,a4]
   omega
 ·have hk':(decide (x.kind=1) || decide (x.kind=2))=true:=by
   have h1:x.kind=1:=by simpa using h1
   simp [h1]
  clear h1
  refine (ePart_ok x.cl).weak (fun _ _ h=>h) ?_
  rintro v R h ⟨rfl,H⟩
  refine ⟨_,rfl,⟨fun h=>no ?_,fun h1 => ?_⟩,H⟩
  ·unfold logOk; simp [h]
  refine (ePart_ok x.bi).weak (fun _ _ h=>h) ?_
  rintro v R h ⟨rfl,H⟩
  refine ⟨_,rfl,⟨fun h=>no ?_,fun h2 => ?_⟩,H⟩
  ·unfold logOk; simp [h]
  refine (ePart_ok x.nu).weak (fun _ _ h=>h) ?_
  rintro v R h ⟨rfl,H⟩
  refine ⟨_,rfl,⟨fun h=>no ?_,fun h3=>⟨fun h=>no ?_,fun h4=>⟨fun h=>no ?_,fun h5=>⟨fun h=>no ?_,fun h6=>⟨fun h=>no ?_,fun h7 => .of fun R h' H=>⟨?_,H⟩⟩⟩⟩⟩⟩,H⟩
  ·unfold logOk; simp [h]
  ·unfold logOk; have : ¬ 0 ≤ x.st:=by omega
   simp [this]
  ·unfold logOk; have : ¬ x.st < 8:=by omega
   simp [this]
  ·unfold logOk; have : ¬ -1 ≤ x.bk:=by omega
   simp [this]
  ·unfold logOk; have : ¬ x.bk ≤ 4294967296:=by omega
   simp [this]
  ·have a1:0 ≤ x.st:=by omega
   have a2:x.st < 8:=by omega
   have a3 : -1 ≤ x.bk:=by omega
   have a4:x.bk ≤ 4294967296:=by omega
   have h1:partOk x.cl=true:=by simpa using h1
   have h2:partOk x.bi=true:=by simpa using h2
   have h3:partOk x.nu=true:=by simpa using h3
   unfold logOk
   rw [hk',h1,h2,h3]
   simp [a1,a2,a3,a4]
   omega
def logR (s:RS):LogM × RS :=
 let k:=numR s 1
 let a:=numR k.2 4
 let b:=numR a.2 4
 let c:=numR b.2 4
 let t:=numR c.2 1
 let i:=numR t.2 8
 let p:=bytesR i.2 65536
 (⟨((k.1 % 256:Nat):Int),(a.1:Int),(b.1:Int),(c.1:Int),((t.1 % 256:Nat):Int),intOf64 i.1,p.1⟩,p.2)
def entD (l:List UInt8):Option LogM:=if 65536 < l.length then none else match unwrapS l with
 | none=>none
 | some q=>if (logR (q,false)).2.2=true ∨ (logR (q,false)).2.1 ≠ [] then none else if logOk (logR (q,false)).1=true then some (logR (q,false)).1 else none
def EntPost (l:List UInt8) (S:HP) (v:Value):HP:=match entD l with
 | none=>HP.and (v = .tuple #[.agg #[.int .i64 0,.int .i64 0,.int .i64 0,.int .i64 0,.int .i64 0,.int .i64 0,.slice none 0 0],.int .i64 3]) S
 | some x=>HP.ex fun a=>HP.ex fun c=>HP.and (v = .tuple #[x.val a c,.int .i64 0]) (HP.sep (OwB a x.pl.length c x.pl) S)
theorem wrapI (v:Nat) (h:v < 256 ^ 4):IntKind.i64.wrap (v:Int)=v:=by
 have h4:(256:Nat) ^ 4=4294967296:=by decide
 exact wrap_in ⟨by show (-9223372036854775808:Int) ≤ _; omega,by show _ ≤ (9223372036854775807:Int); omega⟩
set_option maxHeartbeats 1000000 in
theorem eDecode_ok (a:Option Addr) (n c:Nat) (l:List UInt8) (S:HP) (hr:RdL S a n (l.map u8v)) (hl:l.length=n) (hc:n ≤ c) (ha:n ≠ 0 → a.isSome=true) :
  Tri Tryz.prog 98 #[.slice a n c] S (EntPost l S):=by
 refine tri_of_tree (ρ:=[.a a,.n n,.n c,.p S]) mixed Tryz.func98 tree_eDecode ?_
 unfold t_eDecode
 simp only [T.den,E.prop,E.den,RX.look,F1.app,F2.app,Uni.int_i,Uni.nat_n,Uni.bool_c,Uni.str_s,Uni.adr_a,Uni.val_v,Uni.hp_p,hden,cden,V.den,W.den,A.den,BR.den,SA.den,FV.den,capV,exs,exP,allP,Cur.app,List.map_cons,List.map_nil,List.cons_append,List.nil_append,List.drop_succ_cons,List.drop_zero,List.length_cons,List.length_nil,Nat.zero_add,Nat.reduceAdd,Int.neg_neg,Bool.not_not,List.append_nil,Nat.add_zero,List.getElem?_cons_zero,List.getElem?_cons_succ,Decidable.not_not,semW_eq,ne_eq,Nat.reduceEqDiff,not_false_eq_true]
 intro _
 have bad:entD l=none → ∀ {A:HP},HP.ent A S → HP.ent A (EntPost l S (.tuple #[.agg #[.int .i64 0,.int .i64 0,.int .i64 0,.int .i64 0,.int .i64 0,.int .i64 0,.slice none 0 0],.int .i64 3])):=fun h A hA=>by
  unfold EntPost; rw [h]; exact hA.trans (.of fun R h H=>⟨rfl,H⟩)
 refine ⟨fun h=>bad ?_ (HP.ent.refl _),fun h => ?_⟩
 ·unfold entD; rw [if_pos (by omega)]
 have hle : ¬ 65536 < l.length:=by omega
 have hd0:entD l=match unwrapS l with
  | none=>none
  | some q=>if (logR (q,false)).2.2=true ∨ (logR (q,false)).2.1 ≠ [] then none else if logOk (logR (q,false)).1=true then some (logR (q,false)).1 else none:=by unfold entD; rw [if_neg hle]
 refine (unwrap_ok a n c l S hr hl hc ha (by omega)).weak (fun _ _ h=>h) ?_
 rintro v R h ⟨a',c',rfl,H⟩
 refine ⟨a',_,c',OwB a' _ c' _,_,S,rfl,?_,HP.sep_comm H⟩
 clear H
 cases hu:unwrapS l with
 | none =>
  rw [hu] at hd0
  exact ⟨fun _=>bad hd0 (HP.ent.refl _),fun h=>(by simp at h)⟩
 | some q =>
  rw [hu] at hd0
  simp only at hd0
  refine ⟨fun h=>absurd rfl h,fun _ => ?_⟩
  simp only [Option.getD_some]
  have hq:q.length ≤ 1000000:=by
   unfold unwrapS at hu
   split at hu
   ·cases hu
   ·split at hu
    ·cases hu; rw [List.length_take]; omega
    ·cases hu
  refine (rRead_ok a' _ c' q _ (RdL.ow _ _ _ _ _ _) rfl (by omega)).weak (fun _ _ h=>h) ?_
  rintro v R h ⟨b,rfl,H⟩
  refine ⟨b,_,_,rfl,?_,HP.sep_comm H⟩
  clear H
  intro _
  refine (rByte_ok b (q,false)).weak (fun _ _ h=>h) ?_
  rintro v R h ⟨rfl,H⟩
  refine ⟨_,_,rfl,⟨inI64 _ (by omega) (by omega),fun _ => ?_⟩,H⟩
  clear H
  refine (rNumber_ok b _ 4 (by omega)).weak (fun _ _ h=>h) ?_
  rintro v R h ⟨rfl,H⟩
  refine ⟨_,_,rfl,?_,H⟩
  clear H
  refine (rNumber_ok b _ 4 (by omega)).weak (fun _ _ h=>h) ?_
  rintro v R h ⟨rfl,H⟩
  refine ⟨_,_,rfl,?_,H⟩
  clear H
  refine (rNumber_ok b _ 4 (by omega)).weak (fun _ _ h=>h) ?_
  rintro v R h ⟨rfl,H⟩
  refine ⟨_,_,rfl,?_,H⟩
  clear H
  refine (rByte_ok b _).weak (fun _ _ h=>h) ?_
  rintro v R h ⟨rfl,H⟩
  refine ⟨_,_,rfl,⟨inI64 _ (by omega) (by omega),fun _ => ?_⟩,H⟩
  clear H
  refine (rInt_ok b _).weak (fun _ _ h=>h) ?_
  rintro v R h ⟨rfl,H⟩
  refine ⟨_,_,rfl,?_,H⟩
  clear H
  refine (rBytes_ok b _ 65536).weak (fun _ _ h=>h) ?_
  rintro v R h ⟨pa,pc,rfl,H⟩
  refine ⟨pa,_,pc,_,_,rfl,?_,HP.sep_comm H⟩
  clear H
  refine (rEnd_ok b _).weak (fun _ _ h=>h) ?_
  rintro v R h ⟨rfl,H⟩
  refine ⟨_,_,rfl,⟨fun h1=>bad ?_ (HP.ent.refl _),fun h1 => ?_⟩,H⟩
  ·rw [hd0,if_pos]
   by_cases e:(logR (q,false)).2.2=true ∨ (logR (q,false)).2.1 ≠ []
   ·exact e
   ·exact absurd (if_neg e) h1
  clear H
  have h1' : ¬ ((logR (q,false)).2.2=true ∨ (logR (q,false)).2.1 ≠ []):=fun e=>by
   have h3:(if (logR (q,false)).2.2=true ∨ (logR (q,false)).2.1 ≠ [] then (3:Int) else 0)=3:=if_pos e
   exact absurd (h3.symm.trans h1) (by decide)
  rw [if_neg h1'] at hd0
  rw [wrapI _ (numR_lt _ _),wrapI _ (numR_lt _ _),wrapI _ (numR_lt _ _)]
  refine (eRight_ok (logR (q,false)).1 pa pc _).weak (fun _ _ h=>h) ?_
  rintro v R h ⟨rfl,H⟩
  refine ⟨_,_,rfl,⟨fun h2=>bad ?_ (HP.ent.refl _),fun h2 => ?_⟩,H⟩
  ·rw [hd0,if_neg h2]
  ·have h2:logOk (logR (q,false)).1=true:=by simpa using h2
   rw [if_pos h2] at hd0
   unfold EntPost
   rw [hd0]
   exact .of fun R h H=>⟨pa,pc,rfl,HP.sep_comm H⟩
structure CallP where
 kind:Int
 path:Nm
 other:Nm
 off:Int
 n:Int
 data:List UInt8
def CallP.val (x:CallP) (a:Option Addr) (c:Nat):Value := .agg #[.int .i64 x.kind,sE x.path,sE x.other,.int .i64 x.off,.int .i64 x.n,.slice a x.data.length c]
def callR (s:RS):CallP × RS :=
 let k:=numR s 1
 let a:=bytesR k.2 300
 let b:=bytesR a.2 300
 let o:=numR b.2 8
 let n:=numR o.2 8
 let p:=bytesR n.2 4096
 (⟨((k.1 % 256:Nat):Int),a.1,b.1,intOf64 o.1,intOf64 n.1,p.1⟩,p.2)
def callD (l:List UInt8):Option CallP:=match unwrapS l with
 | none=>none
 | some q=>if (callR (q,false)).2.2=true ∨ (callR (q,false)).2.1 ≠ [] then none else some (callR (q,false)).1
def CallPost (l:List UInt8) (S:HP) (v:Value):HP:=match callD l with
 | none=>HP.and (v = .tuple #[.agg #[.int .i64 0,sE [],sE [],.int .i64 0,.int .i64 0,.slice none 0 0],.int .i64 3]) S
 | some x=>HP.ex fun a=>HP.ex fun c=>HP.and (v = .tuple #[x.val a c,.int .i64 0]) (HP.sep (OwB a x.data.length c x.data) S)
set_option maxHeartbeats 1000000 in
theorem cDecode_ok (a:Option Addr) (n c:Nat) (l:List UInt8) (S:HP) (hr:RdL S a n (l.map u8v)) (hl:l.length=n) (hc:n ≤ c) (ha:n ≠ 0 → a.isSome=true) (hb:n ≤ 140737488355000) :
  Tri Tryz.prog 164 #[.slice a n c] S (CallPost l S):=by
 refine tri_of_tree (ρ:=[.a a,.n n,.n c,.p S]) mixed Tryz.func164 tree_cDecode ?_
 unfold t_cDecode
 simp only [T.den,E.prop,E.den,RX.look,F1.app,F2.app,Uni.int_i,Uni.nat_n,Uni.bool_c,Uni.str_s,Uni.adr_a,Uni.val_v,Uni.hp_p,hden,cden,V.den,W.den,A.den,BR.den,SA.den,FV.den,capV,exs,exP,allP,Cur.app,List.map_cons,List.map_nil,List.cons_append,List.nil_append,List.drop_succ_cons,List.drop_zero,List.length_cons,List.length_nil,Nat.zero_add,Nat.reduceAdd,Int.neg_neg,Bool.not_not,List.append_nil,Nat.add_zero,List.getElem?_cons_zero,List.getElem?_cons_succ,Decidable.not_not,semW_eq,ne_eq,Nat.reduceEqDiff,not_false_eq_true]
 intro _
 have bad:callD l=none → ∀ {A:HP},HP.ent A S → HP.ent A (CallPost l S (.tuple #[.agg #[.int .i64 0,sE [],sE [],.int .i64 0,.int .i64 0,.slice none 0 0],.int .i64 3])):=fun h A hA=>by
  unfold CallPost; rw [h]; exact hA.trans (.of fun R h H=>⟨rfl,H⟩)
 have hd0:callD l=match unwrapS l with
  | none=>none
  | some q=>if (callR (q,false)).2.2=true ∨ (callR (q,false)).2.1 ≠ [] then none else some (callR (q,false)).1:=rfl
 refine (unwrap_ok a n c l S hr hl hc ha (by omega)).weak (fun _ _ h=>h) ?_
 rintro v R h ⟨a',c',rfl,H⟩
 refine ⟨a',_,c',OwB a' _ c' _,_,S,rfl,?_,HP.sep_comm H⟩
 clear H
 cases hu:unwrapS l with
 | none =>
  rw [hu] at hd0
  exact ⟨fun _=>bad hd0 (HP.ent.refl _),fun h=>(by simp at h)⟩
 | some q =>
  rw [hu] at hd0
  simp only at hd0
  refine ⟨fun h=>absurd rfl h,fun _ => ?_⟩
  simp only [Option.getD_some]
  have hq:q.length ≤ 140737488355000:=by
   unfold unwrapS at hu
   split at hu
   ·cases hu
   ·split at hu
    ·cases hu; rw [List.length_take]; omega
    ·cases hu
  refine (rRead_ok a' _ c' q _ (RdL.ow _ _ _ _ _ _) rfl (by omega)).weak (fun _ _ h=>h) ?_
  rintro v R h ⟨b,rfl,H⟩
  refine ⟨b,_,_,rfl,?_,HP.sep_comm H⟩
  clear H
  intro _
  refine (rByte_ok b (q,false)).weak (fun _ _ h=>h) ?_
  rintro v R h ⟨rfl,H⟩
  refine ⟨_,_,rfl,⟨inI64 _ (by omega) (by omega),fun _ => ?_⟩,H⟩
  clear H
  refine (rBytes_ok b _ 300).weak (fun _ _ h=>h) ?_
  rintro v R h ⟨pa,pc,rfl,H⟩
  refine ⟨pa,_,pc,_,_,rfl,⟨_,convW6 (RdL.ow _ _ _ _ _ _) rfl,?_⟩,HP.sep_comm H⟩
  clear H
  refine (rBytes_ok b _ 300).weak (fun _ _ h=>h) ?_
  rintro v R h ⟨oa,oc,rfl,H⟩
  refine ⟨oa,_,oc,_,_,rfl,⟨_,convW6 (RdL.ow _ _ _ _ _ _) rfl,?_⟩,HP.sep_comm H⟩
  clear H
  refine (rInt_ok b _).weak (fun _ _ h=>h) ?_
  rintro v R h ⟨rfl,H⟩
  refine ⟨_,_,rfl,?_,H⟩
  clear H
  refine (rInt_ok b _).weak (fun _ _ h=>h) ?_
  rintro v R h ⟨rfl,H⟩
  refine ⟨_,_,rfl,?_,H⟩
  clear H
  refine (rBytes_ok b _ 4096).weak (fun _ _ h=>h) ?_
  rintro v R h ⟨da,dc,rfl,H⟩
  refine ⟨da,_,dc,_,_,rfl,?_,HP.sep_comm H⟩
  clear H
  refine (rEnd_ok b _).weak (fun _ _ h=>h) ?_
  rintro v R h ⟨rfl,H⟩
  refine ⟨_,_,rfl,⟨fun h1=>bad ?_ (HP.ent.refl _),fun h1 => ?_⟩,H⟩
  ·rw [hd0,if_pos]
   by_cases e:(callR (q,false)).2.2=true ∨ (callR (q,false)).2.1 ≠ []
   ·exact e
   ·exact absurd (if_neg e) h1
  clear H
  have h1' : ¬ ((callR (q,false)).2.2=true ∨ (callR (q,false)).2.1 ≠ []):=fun e=>by
   have h3:(if (callR (q,false)).2.2=true ∨ (callR (q,false)).2.1 ≠ [] then (3:Int) else 0)=3:=if_pos e
   exact absurd (h3.symm.trans h1) (by decide)
  rw [if_neg h1'] at hd0
  unfold CallPost
  rw [hd0]
  exact .of fun R h H=>⟨da,dc,rfl,HP.sep_comm H⟩
end Go.Proofs.YtdieogcemmnaaaaGreatDoor

namespace Go.Proofs.YtdieogcemmnaaaaGreatDoor
set_option linter.unusedSimpArgs false
set_option linter.unusedVariables false
open Go.Proofs.YtdieogcemmnaaaaGreatDoor RX
set_option maxRecDepth 100000
end Go.Proofs.YtdieogcemmnaaaaGreatDoor

namespace Go.Proofs.YtdieogcemmnaaaaGreatDoor.RX
set_option maxRecDepth 100000
-- tideline/tidelinelaw04.speaks: ρ:=[]
def t_great04:T :=
(.br (.o2 .lt (.i 120) (.o1 .ofNat (.v 1)))
(.ret (.w (.a (.bool (.c true)))) [(.a 0,.prop 3)])
(.loop [.c,.i] [.e (.o1 .not (.o1 .not (.c false))),.e (.o1 .neg (.o1 .neg (.i 0)))]
(.br (.o2 .lt (.v 5) (.o1 .ofNat (.v 1)))
(.need (.o2 .le (.i 0) (.v 5))
(.need (.o1 .isSome (.v 0))
(.read (.load 34 (.tmp 12)) 34 [(12,.w (.a (.eptr 0 (.v 5) 6 0)))] [(.a 0,.prop 3)] [.i,.s,.s,.i,.i,.a,.n,.n] (.w (.agg [.int .i64 (.v 6),.str (.v 7),.str (.v 8),.int .i64 (.v 9),.int .i64 (.v 10),.sl (.v 11) (.v 12) (.v 13)]))
(.new
(.br (.o2 .lt (.i 300) (.o1 .ofNat (.o1 .size (.v 7))))
(.ret (.w (.a (.bool (.c true)))) [(.a 0,.prop 3)])
(.br (.o2 .lt (.i 300) (.o1 .ofNat (.o1 .size (.v 8))))
(.ret (.w (.a (.bool (.c true)))) [(.a 0,.prop 3)])
(.br (.o2 .lt (.i 600) (.o1 .ofNat (.v 12)))
(.ret (.w (.a (.bool (.c true)))) [(.a 0,.prop 3)])
(.need (.o1 (.inr .i64) (.o2 .add (.v 5) (.i 1)))
(.again 0 [.e (.o1 .not (.o1 .not (.v 4))),.e (.o1 .neg (.o1 .neg (.o2 .add (.v 5) (.i 1))))])))))))))
(.ret (.w (.a (.bool (.c false)))) [(.a 0,.prop 3)]))))
theorem tree_great04:tree Tryz.prog { keep:=[19,25,21,20,26,16],turn:=[(18,[0])],rdf:=true } Tryz.f16 [.a (.sl (.v 0) (.v 1) (.v 2))] [(.a 0,.prop 3)] 4=t_great04:=by kernel_rfl
end Go.Proofs.YtdieogcemmnaaaaGreatDoor.RX

namespace Go.Proofs.YtdieogcemmnaaaaGreatDoor
open Go.RowKit Go.ChangeShapes Go.WideShapes Go.Deep RX
set_option maxRecDepth 100000
set_option linter.unusedVariables false
set_option linter.unusedSimpArgs false
structure CallE where
 kind:Int
 path:List UInt8
 other:List UInt8
 off:Int
 n:Int
 data:List UInt8
 da:Option Addr
 dc:Nat
abbrev CallE.vals (x:CallE):List Value:=[.int .i64 x.kind,.string ⟨x.path.toArray⟩,.string ⟨x.other.toArray⟩,.int .i64 x.off,.int .i64 x.n,.slice x.da x.data.length x.dc]
def CallE.hp (x:CallE):HP:=HP.both (HP.pure (okI x.kind)) (HP.both (HP.pure (x.path.length ≤ 9223372036854775807)) (HP.both (HP.pure (x.other.length ≤ 9223372036854775807)) (HP.both (HP.pure (okI x.off)) (HP.both (HP.pure (okI x.n)) (HP.and (x.data.length ≤ 140737488355328) (RoB x.da x.data.length x.data))))))
theorem CallE.pers (x:CallE) (R h h':PH) (H:(x.hp).p R h):(x.hp).p R h':=⟨H.1,⟨H.2.1,⟨H.2.2.1,⟨H.2.2.2.1,⟨H.2.2.2.2.1,H.2.2.2.2.2⟩⟩⟩⟩⟩
instance:Inhabited CallE:=⟨⟨0,[],[],0,0,[],none,0⟩⟩
def kCallE:Kind CallE:=⟨6,by decide,CallE.vals,fun _=>rfl,CallE.hp,CallE.pers⟩
theorem CallE.of_trod {H:Type} {enc:TypeId × Value → H} {w:World} {cs:List Value} {n:Nat} {x:DataW H × List MemPlace} (h:DataW.trod enc Tryz.prog w 0 (fun _=>true) true n 34 cs=some x) (hs:Small Tryz.prog 34 x.1) : ∃ m:CallE,cs=kCallE.vals m ∧ ∀ h,(kCallE.hp m).p (allOf w) h:=by
 obtain ⟨xs0,n0,_,hx0,hl0,hxl0,hf0⟩:=DataW.trod_struct Tryz.underlying34 h
 replace hxl0:xs0.length=6:=hxl0
 have hs0:Small Tryz.prog 34 (.agg (xs0.map (·.1))):=by
  have e:=hx0
  first | (subst e; exact hs) | (rw [e] at hs; exact hs) | (have e2:=congrArg Prod.fst e; rw [← e2]; exact hs) | (rw [← e]; exact hs)
 obtain ⟨c0,e0,w0⟩:=field_int Tryz.underlying3 (show 0 < xs0.length by omega) (by kernel_rfl) (hf0 0 _ rfl)
 obtain ⟨c1,e1,w1⟩:=field_str Tryz.underlying9 (show 1 < xs0.length by omega) (by kernel_rfl) (hf0 1 _ rfl)
 obtain ⟨c2,e2,w2⟩:=field_str Tryz.underlying9 (show 2 < xs0.length by omega) (by kernel_rfl) (hf0 2 _ rfl)
 obtain ⟨c3,e3,w3⟩:=field_int Tryz.underlying3 (show 3 < xs0.length by omega) (by kernel_rfl) (hf0 3 _ rfl)
 obtain ⟨c4,e4,w4⟩:=field_int Tryz.underlying3 (show 4 < xs0.length by omega) (by kernel_rfl) (hf0 4 _ rfl)
 obtain ⟨a5,l5,k5,e5⟩:=field_slice Tryz.underlying28 (show 5 < xs0.length by omega) (by kernel_rfl) (hf0 5 _ rfl)
 have q5:=hf0 5 _ rfl
 rw [List.getElem?_eq_getElem (show 5 < xs0.length by omega)] at q5
 have g5:DataW.trod enc Tryz.prog w 0 (fun _=>true) true n0 28 [.slice a5 l5 k5]=some xs0[5]:=by
  rw [← take1' e5]
  exact q5
 have s5:Small Tryz.prog 28 xs0[5].1:=Small.part (i:=5) hs0 Tryz.underlying34 rfl (by rw [List.getElem?_map,List.getElem?_eq_getElem (show 5 < xs0.length by omega)]; rfl)
 obtain ⟨b5,d5,m5,r5,y5,z5⟩:=bytes_of_trod g5 s5
 simp only [Value.slice.injEq] at r5
 obtain ⟨rfl,rfl,rfl⟩:=r5
 have hlen:cs.length=6:=hl0.trans (by kernel_rfl)
 refine ⟨⟨c0,c1,c2,c3,c4,d5,a5,k5⟩,?_,fun hh=>⟨int_wf w0,⟨w1,⟨w2,⟨int_wf w3,⟨int_wf w4,⟨y5,z5 hh⟩⟩⟩⟩⟩⟩⟩
 clear h hl0 hf0 q5 g5 s5
 revert e0 e1 e2 e3 e4 e5
 match cs,hlen with
 | [u0,u1,u2,u3,u4,u5],_ =>
  intro e0
  obtain rfl:u0 = .int _ c0:=Option.some.inj e0
  intro e1
  obtain rfl:u1 = .string ⟨c1.toArray⟩:=Option.some.inj e1
  intro e2
  obtain rfl:u2 = .string ⟨c2.toArray⟩:=Option.some.inj e2
  intro e3
  obtain rfl:u3 = .int _ c3:=Option.some.inj e3
  intro e4
  obtain rfl:u4 = .int _ c4:=Option.some.inj e4
  intro e5
  obtain rfl:u5 = .slice a5 d5.length k5:=Option.some.inj e5
  rfl
end Go.Proofs.YtdieogcemmnaaaaGreatDoor

namespace Go.Proofs.YtdieogcemmnaaaaGreatDoor
set_option linter.unusedSimpArgs false
set_option linter.unusedVariables false
open Go.Proofs.YtdieogcemmnaaaaGreatDoor RX
set_option maxRecDepth 100000
abbrev kCall:Kind CallE:=kCallE
abbrev callVs (x:CallE):List Value:=x.vals
def CallE.m (x:CallE):CallM:=⟨x.kind,x.path,x.other,x.off,x.n,x.da,x.data.length,x.dc⟩
def dataAt (L:List CallE):Prop := ∀ x ∈ L,x.data.length ≠ 0 → x.da.isSome=true
theorem dataAt_of {a:Option Addr} {n:Nat} {L:List CallE} {R h:PH} (H:(Ls kCall a n L).p R h):dataAt L:=fun x hx hd=>RoC.some (H.2.2 x hx).2.2.2.2.2.2 (by omega)
theorem callD_of {a:Option Addr} {n:Nat} {L:List CallE} (hL:dataAt L) {x:CallE} (hx:x ∈ L):CallD x.m (Ls kCall a n L) x.data where
 rd:=⟨Rd.impR (RdL.ro 1 x.da x.data.length (x.data.map u8v)).rd fun R h H=>(H.2.2 x hx).2.2.2.2.2.2,fun R h H e=>(RdL.ro 1 x.da x.data.length (x.data.map u8v)).none R h (H.2.2 x hx).2.2.2.2.2.2 e⟩
 len:=rfl
 some':=hL x hx
variable {b:Nat} {t:TS}
def doC (T:List Nd) (c:CallM) (d:List UInt8):List Nd × AnsM:=doS T c.kind c.path c.other c.off c.n d
theorem undCall : ∃ d,Tryz.prog.underlying 34=some d:=Option.isSome_iff_exists.1 (by kernel_rfl)
theorem undNode : ∃ d,Tryz.prog.underlying 43=some d:=Option.isSome_iff_exists.1 (by kernel_rfl)
theorem aggNode:aggT Tryz.prog 43=true:=by kernel_rfl
theorem szNode:szT Tryz.prog 43=5:=by kernel_rfl
theorem aggCall:aggT Tryz.prog 34=true:=by kernel_rfl
theorem szCall:szT Tryz.prog 34=6:=by kernel_rfl
theorem Ls.some {α:Type} {K:Kind α} {a:Option Addr} {n:Nat} {l:List α} {R h:PH} (H:(Ls K a n l).p R h) (hn:n ≠ 0):a.isSome=true:=by
 exact RoC.some H.2.1 (Nat.pos_of_ne_zero hn)
theorem loadCall {a:Option Addr} {n:Nat} {l:List CallE} {k:Nat} {x:CallE} (hk:l[k]? = some x):ORead Tryz.prog (loadS 34 (.pointer (a.map fun y=>(y.add (k * 6)).add 0))) (Ls kCall a n l) (.agg (callVs x).toArray):=by
 obtain ⟨d,hd⟩:=undCall
 exact Ls.load (K:=kCall) hd aggCall szCall hk
theorem loadNode {a:Option Addr} {n:Nat} {l:List NodeE} {k:Nat} {x:NodeE} (hk:l[k]? = some x):ORead Tryz.prog (loadS 43 (.pointer (a.map fun y=>(y.add (k * 5)).add 0))) (Ls kNode a n l) (.agg (nodeVs x).toArray):=by
 obtain ⟨d,hd⟩:=undNode
 exact Ls.load (K:=kNode) hd aggNode szNode hk
def greatB (L:List CallE):Bool:=decide (120 < L.length) || L.any fun x=>decide (300 < x.path.length) || decide (300 < x.other.length) || decide (600 < x.data.length)
set_option maxHeartbeats 1000000 in
theorem great04_ok (a:Option Addr) (n c:Nat) (L:List CallE):Tri Tryz.prog 16 #[.slice a n c] (Ls kCall a n L) (fun v=>HP.and (v = .bool (greatB L)) (Ls kCall a n L)):=by
 refine Tri.fact (φ:=L.length=n ∧ (n ≠ 0 → a.isSome=true)) (fun R h H=>⟨H.1,fun hn=>Ls.some H hn⟩) fun ⟨hl,ha⟩ => ?_
 refine tri_of_tree (ρ:=[.a a,.n n,.n c,.p (Ls kCall a n L)]) mixed Tryz.func16 tree_great04 ?_
 unfold t_great04
 simp only [T.den,E.prop,E.den,RX.look,F1.app,F2.app,Uni.int_i,Uni.nat_n,Uni.bool_c,Uni.str_s,Uni.adr_a,Uni.val_v,Uni.hp_p,hden,cden,V.den,W.den,A.den,BR.den,SA.den,FV.den,capV,exs,exP,allP,Cur.app,List.map_cons,List.map_nil,List.cons_append,List.nil_append,List.drop_succ_cons,List.drop_zero,List.length_cons,List.length_nil,Nat.zero_add,Nat.reduceAdd,Int.neg_neg,Bool.not_not,List.append_nil,Nat.add_zero,List.getElem?_cons_zero,List.getElem?_cons_succ,Decidable.not_not,semW_eq,semW_load,ne_eq,Nat.reduceEqDiff,not_false_eq_true]
 refine ⟨fun h => .of fun R h' H=>⟨?_,H⟩,fun h => ?_⟩
 ·have:120 < L.length:=by omega
  simp [greatB,this]
 refine ⟨fun _ i => ∃ k:Nat,i=k ∧ k ≤ n ∧ ∀ j x,j < k → L[j]? = some x → x.path.length ≤ 300 ∧ x.other.length ≤ 300 ∧ x.data.length ≤ 600,fun _ i=>n - i.toNat,⟨0,rfl,Nat.zero_le _,fun j x hj=>absurd hj (by omega)⟩,?_⟩
 rintro _ _ ⟨k,rfl,hk,hb⟩
 refine ⟨fun hlt=>⟨by omega,fun _=>⟨ha (by omega),fun _ => ?_⟩⟩,fun hge => .of fun R h' H=>⟨?_,H⟩⟩
 ·obtain ⟨x,hx⟩ : ∃ x,L[k]? = some x:=⟨_,List.getElem?_eq_getElem (by omega)⟩
  have hxm:=List.mem_of_getElem? hx
  refine ⟨x.kind,x.path,x.other,x.off,x.n,x.da,x.data.length,x.dc,loadCall hx,fun q => ?_⟩
  have key:300 < x.path.length ∨ 300 < x.other.length ∨ 600 < x.data.length → greatB L=true:=fun h=>by
   unfold greatB
   rw [Bool.or_eq_true,List.any_eq_true]
   refine .inr ⟨x,hxm,?_⟩
   simp only [Bool.or_eq_true,decide_eq_true_eq]
   omega
  have sz : ∀ l:List UInt8,(⟨l.toArray⟩:ByteArray).size=l.length:=fun l=>by simp [ByteArray.size]
  refine ⟨fun h => .of fun R h' H=>⟨?_,H⟩,fun h1=>⟨fun h => .of fun R h' H=>⟨?_,H⟩,fun h2=>⟨fun h => .of fun R h' H=>⟨?_,H⟩,fun h3=>⟨inI64' _ (by omega) (by omega),fun _=>⟨⟨k + 1,by omega,by omega,fun j y hj hy => ?_⟩,by dsimp only; omega⟩⟩⟩⟩⟩
  ·rw [key (by omega)]
  ·rw [key (by omega)]
  ·rw [key (by omega)]
  ·rcases Nat.lt_or_eq_of_le (Nat.le_of_lt_succ hj) with h | h
   ·exact hb j y h hy
   ·subst h; rw [hx] at hy; cases hy; omega
 ·have:greatB L=false:=by
   unfold greatB
   rw [Bool.or_eq_false_iff]
   refine ⟨by simp; omega,?_⟩
   rw [List.any_eq_false]
   intro x hx
   obtain ⟨j,hj⟩:=List.mem_iff_getElem?.1 hx
   have hjl:=(List.getElem?_eq_some_iff.1 hj).1
   have:=hb j x (by omega) hj
   simp; omega
  rw [this]
end Go.Proofs.YtdieogcemmnaaaaGreatDoor

namespace Go.Proofs.YtdieogcemmnaaaaGreatDoor
open Go.Proofs.YtdieogcemmnaaaaGreatDoor RX
set_option maxRecDepth 100000
def idxS (t:TypeId) (u v:Value):Sem Next:=do pure (.value (← Instr.indexAt t u v))
theorem semW_ix {t ty:TypeId} {i j:Nat} {u v:Value} (h:i ≠ j):semW (.indexAddr t (.tmp i) (.tmp j)) ty [(i,u),(j,v)]=idxS t u v:=by
 have h':(i == j)=false:=by simpa using h
 simp [semW,execOp,arW,h',idxS]
theorem strIx {t ty:TypeId} {i j:Nat} (h:i ≠ j) (ht:Tryz.prog.underlying t=some .string) {s:List UInt8} {k:Nat} {x:Int} {c:UInt8} (hx:x=k) (hk:s[k]? = some c) {A:HP} :
  ORead Tryz.prog (semW (.index t (.tmp i) (.tmp j)) ty [(i,.string ⟨s.toArray⟩),(j,.int .i64 x)]) A (.int .u8 c.toNat):=fun w R hh F st _=>by
 have h':(i == j)=false:=by simpa using h
 subst hx
 have hkl:k < s.length:=(List.getElem?_eq_some_iff.1 hk).1
 have e:(Instr.index t (.string ⟨s.toArray⟩) (.int .i64 k)).run Tryz.prog w = .ok (.int .u8 c.toNat) w:=by
  have hb:(⟨s.toArray⟩:ByteArray)[k]? = some c:=by
   have hz:k < (⟨s.toArray⟩:ByteArray).size:=by simp [ByteArray.size]; exact hkl
   rw [getElem?_pos (⟨s.toArray⟩:ByteArray) k hz]
   rw [List.getElem?_eq_getElem hkl] at hk
   exact hk
  unfold Instr.index
  simp [asIntOf,Sem.run_bind,RX.run_underlying ht,hb]
 simp only [semW,execOp,arW,List.find?_cons,beq_self_eq_true,h']
 rw [Sem.run_bind,e]
 rfl
end Go.Proofs.YtdieogcemmnaaaaGreatDoor

namespace Go.Proofs.YtdieogcemmnaaaaGreatDoor
set_option linter.unusedSimpArgs false
set_option linter.unusedVariables false
open Go.Proofs.YtdieogcemmnaaaaGreatDoor RX
set_option maxRecDepth 100000
end Go.Proofs.YtdieogcemmnaaaaGreatDoor

namespace Go.Proofs.YtdieogcemmnaaaaGreatDoor
set_option linter.unusedSimpArgs false
set_option linter.unusedVariables false
open Go.Proofs.YtdieogcemmnaaaaGreatDoor RX
set_option maxRecDepth 100000
end Go.Proofs.YtdieogcemmnaaaaGreatDoor

namespace Go.Proofs.YtdieogcemmnaaaaGreatDoor
open Go.Proofs.YtdieogcemmnaaaaGreatDoor RX
set_option maxRecDepth 100000
def Step (T:List Nd) (d:Nat) (nm:Nm) (k:Nat):Prop := ∃ n,nodeAt T d=some n ∧ n.kind=1 ∧ lk n.ents nm=some k
inductive Rch (T:List Nd):Nat → Prop where
 | root:Rch T 0
 | step {d k:Nat} {w:Nm}:Rch T d → Step T d w k → Rch T k
theorem rename_err {T:List Nd} {p q:Nm} (h:(renameS T p q).2 ≠ 0 ∨ q=p):(renameS T p q).1=T:=by
 unfold renameS at h ⊢
 split
 ·rfl
 ·split
  ·rfl
  ·split
   ·rfl
   ·split
    ·rfl
    ·rename_i h1 h2 h3 h4
     rw [if_neg h1,if_neg h2,if_neg h3,if_neg h4] at h
     rcases h with h | h
     ·exact absurd rfl h
     ·exact absurd h h2
end Go.Proofs.YtdieogcemmnaaaaGreatDoor

namespace Go.Proofs.YtdieogcemmnaaaaGreatDoor
open Go.Proofs.YtdieogcemmnaaaaGreatDoor RX
set_option maxRecDepth 100000
def Reach (T:List Nd):Prop := ∀ n ∈ T,Rch T n.num
theorem nodup_sub {α:Type} [DecidableEq α] : ∀ {l m:List α},l.Nodup → (∀ x ∈ l,x ∈ m) → l.length ≤ m.length
 | [],_,_,_=>Nat.zero_le _
 | x :: l,m,h,hs=>by
  rw [List.nodup_cons] at h
  have hx:=hs x (by simp)
  have ih:=nodup_sub (m:=m.erase x) h.2 fun y hy=>by
   have:y ≠ x:=fun e=>h.1 (by rw [← e]; exact hy)
   exact (List.mem_erase_of_ne this).2 (hs y (by simp [hy]))
  rw [List.length_erase_of_mem hx] at ih
  have:=List.length_pos_of_mem hx
  rw [List.length_cons]; omega
end Go.Proofs.YtdieogcemmnaaaaGreatDoor

namespace Go.Proofs.YtdieogcemmnaaaaGreatDoor
open Go.Proofs.YtdieogcemmnaaaaGreatDoor RX
set_option maxRecDepth 100000
variable {T:List Nd}
end Go.Proofs.YtdieogcemmnaaaaGreatDoor

namespace Go.Proofs.YtdieogcemmnaaaaGreatDoor.RX
set_option maxRecDepth 100000
-- (*tideline/tree.Tree).whole: ρ:=[.n t,.p tP]
end Go.Proofs.YtdieogcemmnaaaaGreatDoor.RX

namespace Go.Proofs.YtdieogcemmnaaaaGreatDoor
set_option linter.unusedSimpArgs false
set_option linter.unusedVariables false
open Go.Proofs.YtdieogcemmnaaaaGreatDoor RX
set_option maxRecDepth 100000
end Go.Proofs.YtdieogcemmnaaaaGreatDoor

namespace Go.Proofs.YtdieogcemmnaaaaGreatDoor.RX
set_option maxRecDepth 100000
-- tideline/snap.Decode: ρ:=[.a ba,.n bl,.n bc,.p bP]
end Go.Proofs.YtdieogcemmnaaaaGreatDoor.RX

namespace Go.Proofs.YtdieogcemmnaaaaGreatDoor
set_option linter.unusedSimpArgs false
set_option linter.unusedVariables false
open Go.Proofs.YtdieogcemmnaaaaGreatDoor RX
set_option maxRecDepth 100000
end Go.Proofs.YtdieogcemmnaaaaGreatDoor

namespace Go.Proofs.YtdieogcemmnaaaaGreatDoor.RX
set_option maxRecDepth 100000
-- tideline/replay.New: ρ:=[]
end Go.Proofs.YtdieogcemmnaaaaGreatDoor.RX

namespace Go.Proofs.YtdieogcemmnaaaaGreatDoor
set_option linter.unusedSimpArgs false
set_option linter.unusedVariables false
open Go.Proofs.YtdieogcemmnaaaaGreatDoor RX
set_option maxRecDepth 100000
def ans0:Value := .agg #[.int .i64 0,.int .i64 0,.int .i64 0,.int .i64 0,.slice none 0 0,.slice none 0 0]
structure RpS where
 nx:Int
 tb:Nat
 t:TS
 am:Nat
 f:IdM → Option AnsM
 up:Int
 at':Int
 la:Int
variable {b:Nat} {s:RpS}
theorem rdImp {S:HP} {a:Option Addr} {n:Nat} {xs:List Value} (h : ∀ R x,S.p R x → (RoC 1 a n xs).p R x):RdL S a n xs:=⟨Rd.impR (RdL.ro 1 a n xs).rd h,fun R x H e=>(RdL.ro 1 a n xs).none R x (h R x H) e⟩
def CallP.m (x:CallP) (a:Option Addr) (c:Nat):CallM:=⟨x.kind,x.path,x.other,x.off,x.n,a,x.data.length,c⟩
end Go.Proofs.YtdieogcemmnaaaaGreatDoor

namespace Go.Proofs.YtdieogcemmnaaaaGreatDoor
open Go.Proofs.YtdieogcemmnaaaaGreatDoor RX
set_option maxRecDepth 100000
theorem beN_snoc (v n:Nat):beN v (n + 1)=beN (v / 256) n ++ [UInt8.ofNat v]:=by
 unfold beN
 rw [List.range_succ,List.map_append]
 congr 1
 ·refine List.map_congr_left fun j hj => ?_
  have hj:=List.mem_range.1 hj
  unfold byteAt
  have e:2 ^ (8 * (n + 1 - 1 - j))=256 * 2 ^ (8 * (n - 1 - j)):=by
   rw [show 8 * (n + 1 - 1 - j)=8 * (n - 1 - j) + 8 by omega,Nat.pow_add]; omega
  rw [e,Nat.div_div_eq_div_mul]
 ·simp [byteAt]
theorem beV_beN : ∀ (n v:Nat),v < 256 ^ n → beV (beN v n)=v
 | 0,v,h=>by simp at h; subst h; rfl
 | n + 1,v,h=>by
  rw [beN_snoc,beV_snoc,beV_beN n (v / 256) (by rw [Nat.pow_succ] at h; omega),UInt8.toNat_ofNat']
  omega
theorem unwrap_wrap (l:List UInt8):unwrapS (wrapS l)=some l:=by
 have h4:(256:Nat) ^ 4=4294967296:=by decide
 unfold unwrapS
 rw [wrapS_len,if_neg (by omega),Nat.add_sub_cancel]
 unfold wrapS
 rw [List.drop_left,List.take_left,beV_beN 4 _ (by have:=sumS_lt l; omega),if_pos rfl]
end Go.Proofs.YtdieogcemmnaaaaGreatDoor

namespace Go.Proofs.YtdieogcemmnaaaaGreatDoor.RX
set_option maxRecDepth 100000
-- tideline/tidelineref01.Put: ρ:=[.a outa,.n outl,.n outc,.p outP,.i v,.i n]
def t_r1Put:T :=
(.br (.o2 .lt (.i 8) (.v 5))
(.loop [.a,.n,.n,.i,.p] [.a (.v 0),.e (.o2 .nadd (.v 1) (.n 0)),.e (.o2 .nadd (.v 2) (.n 0)),.e (.o1 .neg (.o1 .neg (.i 7))),.p [(.a 0,.prop 3)]]
(.br (.o2 .le (.i 0) (.v 9))
(.loop [.i,.i] [.e (.o1 .neg (.o1 .neg (.v 4))),.e (.o1 .neg (.o1 .neg (.i 0)))]
(.br (.o2 .lt (.v 12) (.v 9))
(.need (.o1 (.inr .u64) (.o2 .quo (.v 11) (.i 256)))
(.need (.o1 (.inr .i64) (.o2 .add (.v 12) (.i 1)))
(.again 0 [.e (.o1 .neg (.o1 .neg (.o2 .quo (.v 11) (.i 256)))),.e (.o1 .neg (.o1 .neg (.o2 .add (.v 12) (.i 1))))])))
(.new
(.op (.call ⟨.builtin .append,#[.tmp 26,.tmp 30],#[28,28]⟩) 28 [(26,.w (.a (.sl (.v 6) (.v 7) (.v 8)))),(30,.w (.a (.sl (.b (.v 13) 0) (.n 1) (.n 1))))] [(.a 6,.prop 10),(.b (.v 13),.cells [.int .u8 (.o1 (.wrap .u8) (.o2 .rem (.v 11) (.i 256)))] 5)] [.a,.n,.n,.p] (.w (.a (.sl (.v 14) (.v 15) (.v 16)))) [(.a 14,.prop 17),(.b (.v 13),.cells [.int .u8 (.o1 (.wrap .u8) (.o2 .rem (.v 11) (.i 256)))] 5)]
(.need (.o1 (.inr .i64) (.o2 .sub (.v 9) (.i 1)))
(.again 1 [.a (.v 14),.e (.o2 .nadd (.v 15) (.n 0)),.e (.o2 .nadd (.v 16) (.n 0)),.e (.o1 .neg (.o1 .neg (.o2 .sub (.v 9) (.i 1)))),.p [(.a 14,.prop 17)]]))))))
(.ret (.w (.a (.sl (.v 6) (.v 7) (.v 8)))) [(.a 6,.prop 10)])))
(.need (.o1 (.inr .i64) (.o2 .sub (.v 5) (.i 1)))
(.loop [.a,.n,.n,.i,.p] [.a (.v 0),.e (.o2 .nadd (.v 1) (.n 0)),.e (.o2 .nadd (.v 2) (.n 0)),.e (.o1 .neg (.o1 .neg (.o2 .sub (.v 5) (.i 1)))),.p [(.a 0,.prop 3)]]
(.br (.o2 .le (.i 0) (.v 9))
(.loop [.i,.i] [.e (.o1 .neg (.o1 .neg (.v 4))),.e (.o1 .neg (.o1 .neg (.i 0)))]
(.br (.o2 .lt (.v 12) (.v 9))
(.need (.o1 (.inr .u64) (.o2 .quo (.v 11) (.i 256)))
(.need (.o1 (.inr .i64) (.o2 .add (.v 12) (.i 1)))
(.again 0 [.e (.o1 .neg (.o1 .neg (.o2 .quo (.v 11) (.i 256)))),.e (.o1 .neg (.o1 .neg (.o2 .add (.v 12) (.i 1))))])))
(.new
(.op (.call ⟨.builtin .append,#[.tmp 26,.tmp 30],#[28,28]⟩) 28 [(26,.w (.a (.sl (.v 6) (.v 7) (.v 8)))),(30,.w (.a (.sl (.b (.v 13) 0) (.n 1) (.n 1))))] [(.a 6,.prop 10),(.b (.v 13),.cells [.int .u8 (.o1 (.wrap .u8) (.o2 .rem (.v 11) (.i 256)))] 5)] [.a,.n,.n,.p] (.w (.a (.sl (.v 14) (.v 15) (.v 16)))) [(.a 14,.prop 17),(.b (.v 13),.cells [.int .u8 (.o1 (.wrap .u8) (.o2 .rem (.v 11) (.i 256)))] 5)]
(.need (.o1 (.inr .i64) (.o2 .sub (.v 9) (.i 1)))
(.again 1 [.a (.v 14),.e (.o2 .nadd (.v 15) (.n 0)),.e (.o2 .nadd (.v 16) (.n 0)),.e (.o1 .neg (.o1 .neg (.o2 .sub (.v 9) (.i 1)))),.p [(.a 14,.prop 17)]]))))))
(.ret (.w (.a (.sl (.v 6) (.v 7) (.v 8)))) [(.a 6,.prop 10)])))))
theorem tree_r1Put:tree Tryz.prog { absT:=[5],hv:=[(0,[.a 0]),(1,[.a 0]),(2,[.a 0]),(3,[.a 0])],keep:=[30],rdf:=true } Tryz.f102 [.a (.sl (.v 0) (.v 1) (.v 2)),.a (.int .u64 (.v 4)),.a (.int .i64 (.v 5))] [(.a 0,.prop 3)] 6=t_r1Put:=by kernel_rfl
def t_r1Bytes:T :=
(.call 102 [.a (.sl (.v 0) (.v 1) (.v 2)),.a (.int .u64 (.o1 (.wrap .u64) (.o1 .ofNat (.v 5)))),.a (.int .i64 (.i 4))] [(.a 0,.prop 3)] [.a,.n,.n,.p,.p] (.w (.a (.sl (.v 8) (.v 9) (.v 10)))) [(.a 8,.prop 11),(.a 0,.prop 12)]
(.op (.call ⟨.builtin .append,#[.tmp 10,.tmp 11],#[28,28]⟩) 28 [(10,.w (.a (.sl (.v 8) (.v 9) (.v 10)))),(11,.w (.a (.sl (.v 4) (.v 5) (.v 6))))] [(.a 8,.prop 11),(.a 4,.prop 7)] [.a,.n,.n,.p] (.w (.a (.sl (.v 13) (.v 14) (.v 15)))) [(.a 13,.prop 16),(.a 4,.prop 7)]
(.ret (.w (.a (.sl (.v 13) (.v 14) (.v 15)))) [(.a 0,.prop 12),(.a 4,.prop 7),(.a 13,.prop 16)])))
theorem tree_r1Bytes:tree Tryz.prog { absT:=[5],keep:=[30],turn:=[(102,[0])],rdf:=true } Tryz.f104 [.a (.sl (.v 0) (.v 1) (.v 2)),.a (.sl (.v 4) (.v 5) (.v 6))] [(.a 0,.prop 3),(.a 4,.prop 7)] 8=t_r1Bytes:=by kernel_rfl
def t_r1Text:T :=
(.op (.convert 9 28 (.tmp 6)) 28 [(6,.w (.a (.str (.v 4))))] [] [.a,.n,.n,.p] (.w (.a (.sl (.v 5) (.v 6) (.v 7)))) [(.a 5,.prop 8)]
(.call 104 [.a (.sl (.v 0) (.v 1) (.v 2)),.a (.sl (.v 5) (.v 6) (.v 7))] [(.a 0,.prop 3),(.a 5,.prop 8)] [.a,.n,.n,.p,.p] (.w (.a (.sl (.v 9) (.v 10) (.v 11)))) [(.a 9,.prop 12),(.a 0,.prop 13),(.a 5,.prop 8)]
(.ret (.w (.a (.sl (.v 9) (.v 10) (.v 11)))) [(.a 0,.prop 13),(.a 9,.prop 12)])))
theorem tree_r1Text:tree Tryz.prog { absT:=[5],keep:=[30],turn:=[(104,[0])],rdf:=true } Tryz.f109 [.a (.sl (.v 0) (.v 1) (.v 2)),.a (.str (.v 4))] [(.a 0,.prop 3)] 5=t_r1Text:=by kernel_rfl
def t_r5Int:T :=
(.call 102 [.a (.sl (.v 0) (.v 1) (.v 2)),.a (.int .u64 (.o1 (.wrap .u64) (.v 4))),.a (.int .i64 (.i 8))] [(.a 0,.prop 3)] [.a,.n,.n,.p,.p] (.w (.a (.sl (.v 5) (.v 6) (.v 7)))) [(.a 5,.prop 8),(.a 0,.prop 9)]
(.ret (.w (.a (.sl (.v 5) (.v 6) (.v 7)))) [(.a 0,.prop 9),(.a 5,.prop 8)]))
theorem tree_r5Int:tree Tryz.prog { absT:=[5],keep:=[30],rdf:=true } Tryz.f103 [.a (.sl (.v 0) (.v 1) (.v 2)),.a (.int .i64 (.v 4))] [(.a 0,.prop 3)] 5=t_r5Int:=by kernel_rfl
def t_r2Sum:T :=
(.loop [.i,.i] [.e (.o1 .neg (.o1 .neg (.i 4294967295))),.e (.o1 .neg (.o1 .neg (.i 0)))]
(.br (.o2 .lt (.v 5) (.o1 .ofNat (.v 1)))
(.need (.o2 .le (.i 0) (.v 5))
(.need (.o1 .isSome (.v 0))
(.read (.load 5 (.tmp 16)) 5 [(16,.w (.a (.eptr 0 (.v 5) 1 0)))] [(.a 0,.prop 3)] [.i] (.w (.a (.int .u8 (.v 6))))
(.need (.o1 (.inr .u32) (.v 6))
(.loop [.i,.i] [.e (.o1 .neg (.o1 .neg (.o2 (.bit .xor .u32) (.v 4) (.v 6)))),.e (.o1 .neg (.o1 .neg (.i 0)))]
(.br (.o2 .lt (.v 8) (.i 8))
(.need (.o1 (.inr .u32) (.o2 .quo (.v 7) (.i 2)))
(.br (.o2 .eq (.o2 .rem (.v 7) (.i 2)) (.i 1))
(.need (.o1 (.inr .i64) (.o2 .add (.v 8) (.i 1)))
(.again 0 [.e (.o1 .neg (.o1 .neg (.o2 (.bit .xor .u32) (.o2 .quo (.v 7) (.i 2)) (.i 3988292384)))),.e (.o1 .neg (.o1 .neg (.o2 .add (.v 8) (.i 1))))]))
(.need (.o1 (.inr .i64) (.o2 .add (.v 8) (.i 1)))
(.again 0 [.e (.o1 .neg (.o1 .neg (.o2 .quo (.v 7) (.i 2)))),.e (.o1 .neg (.o1 .neg (.o2 .add (.v 8) (.i 1))))]))))
(.need (.o1 (.inr .i64) (.o2 .add (.v 5) (.i 1)))
(.again 1 [.e (.o1 .neg (.o1 .neg (.v 7))),.e (.o1 .neg (.o1 .neg (.o2 .add (.v 5) (.i 1))))]))))))))
(.ret (.w (.a (.int .u32 (.o1 (.wrap .u32) (.o2 .sub (.i 4294967295) (.v 4)))))) [(.a 0,.prop 3)])))
theorem tree_r2Sum:tree Tryz.prog { absT:=[5],keep:=[30],rdf:=true } Tryz.f166 [.a (.sl (.v 0) (.v 1) (.v 2))] [(.a 0,.prop 3)] 4=t_r2Sum:=by kernel_rfl
def t_r2Wrap:T :=
(.new
(.op (.call ⟨.builtin .append,#[.tmp 4,.tmp 5],#[28,28]⟩) 28 [(4,.w (.a (.sl (.b (.v 4) 0) (.n 0) (.n 0)))),(5,.w (.a (.sl (.v 0) (.v 1) (.v 2))))] [(.b (.v 4),.cells [] 5),(.a 0,.prop 3)] [.a,.n,.n,.p] (.w (.a (.sl (.v 5) (.v 6) (.v 7)))) [(.a 5,.prop 8),(.a 0,.prop 3)]
(.call 166 [.a (.sl (.v 0) (.v 1) (.v 2))] [(.a 0,.prop 3)] [.i] (.w (.a (.int .u32 (.v 9)))) [(.a 0,.prop 3)]
(.need (.o1 (.inr .u64) (.v 9))
(.call 102 [.a (.sl (.v 5) (.v 6) (.v 7)),.a (.int .u64 (.v 9)),.a (.int .i64 (.i 4))] [(.a 5,.prop 8)] [.a,.n,.n,.p,.p] (.w (.a (.sl (.v 10) (.v 11) (.v 12)))) [(.a 10,.prop 13),(.a 5,.prop 14)]
(.ret (.w (.a (.sl (.v 10) (.v 11) (.v 12)))) [(.a 0,.prop 3),(.a 10,.prop 13)]))))))
theorem tree_r2Wrap:tree Tryz.prog { absT:=[5],keep:=[166,30],rdf:=true } Tryz.f105 [.a (.sl (.v 0) (.v 1) (.v 2))] [(.a 0,.prop 3)] 4=t_r2Wrap:=by kernel_rfl
def t_r5Encode:T :=
(.new
(.new
(.call 109 [.a (.sl (.b (.v 10) 0) (.n 1) (.n 1)),.a (.str (.v 1))] [(.b (.v 10),.cells [.int .u8 (.o1 (.wrap .u8) (.v 0))] 5)] [.a,.n,.n,.p,.p] (.w (.a (.sl (.v 11) (.v 12) (.v 13)))) [(.a 11,.prop 14),(.b (.v 10),.prop 15)]
(.call 109 [.a (.sl (.v 11) (.v 12) (.v 13)),.a (.str (.v 2))] [(.a 11,.prop 14)] [.a,.n,.n,.p,.p] (.w (.a (.sl (.v 16) (.v 17) (.v 18)))) [(.a 16,.prop 19),(.a 11,.prop 20)]
(.call 103 [.a (.sl (.v 16) (.v 17) (.v 18)),.a (.int .i64 (.v 3))] [(.a 16,.prop 19)] [.a,.n,.n,.p,.p] (.w (.a (.sl (.v 21) (.v 22) (.v 23)))) [(.a 21,.prop 24),(.a 16,.prop 25)]
(.call 103 [.a (.sl (.v 21) (.v 22) (.v 23)),.a (.int .i64 (.v 4))] [(.a 21,.prop 24)] [.a,.n,.n,.p,.p] (.w (.a (.sl (.v 26) (.v 27) (.v 28)))) [(.a 26,.prop 29),(.a 21,.prop 30)]
(.call 104 [.a (.sl (.v 26) (.v 27) (.v 28)),.a (.sl (.v 5) (.v 6) (.v 7))] [(.a 26,.prop 29),(.a 5,.prop 8)] [.a,.n,.n,.p,.p] (.w (.a (.sl (.v 31) (.v 32) (.v 33)))) [(.a 31,.prop 34),(.a 26,.prop 35),(.a 5,.prop 8)]
(.call 105 [.a (.sl (.v 31) (.v 32) (.v 33))] [(.a 31,.prop 34)] [.a,.n,.n,.p,.p] (.w (.a (.sl (.v 36) (.v 37) (.v 38)))) [(.a 36,.prop 39),(.a 31,.prop 40)]
(.ret (.w (.a (.sl (.v 36) (.v 37) (.v 38)))) [(.a 5,.prop 8),(.a 36,.prop 39)])))))))))
theorem tree_r5Encode:tree Tryz.prog { absT:=[5],keep:=[30],turn:=[(104,[0])],rdf:=true } Tryz.f46 [.agg [.int .i64 (.v 0),.str (.v 1),.str (.v 2),.int .i64 (.v 3),.int .i64 (.v 4),.sl (.v 5) (.v 6) (.v 7)]] [(.a 5,.prop 8)] 9=t_r5Encode:=by kernel_rfl
def t_r7Bytes:T :=
(.new
(.new
(.call 102 [.a (.sl (.b (.v 11) 0) (.n 1) (.n 1)),.a (.int .u64 (.o1 (.wrap .u64) (.v 1))),.a (.int .i64 (.i 4))] [(.b (.v 11),.cells [.int .u8 (.o1 (.wrap .u8) (.v 0))] 5)] [.a,.n,.n,.p,.p] (.w (.a (.sl (.v 12) (.v 13) (.v 14)))) [(.a 12,.prop 15),(.b (.v 11),.prop 16)]
(.call 102 [.a (.sl (.v 12) (.v 13) (.v 14)),.a (.int .u64 (.o1 (.wrap .u64) (.v 2))),.a (.int .i64 (.i 4))] [(.a 12,.prop 15)] [.a,.n,.n,.p,.p] (.w (.a (.sl (.v 17) (.v 18) (.v 19)))) [(.a 17,.prop 20),(.a 12,.prop 21)]
(.call 102 [.a (.sl (.v 17) (.v 18) (.v 19)),.a (.int .u64 (.o1 (.wrap .u64) (.v 3))),.a (.int .i64 (.i 4))] [(.a 17,.prop 20)] [.a,.n,.n,.p,.p] (.w (.a (.sl (.v 22) (.v 23) (.v 24)))) [(.a 22,.prop 25),(.a 17,.prop 26)]
(.new
(.op (.call ⟨.builtin .append,#[.tmp 26,.tmp 30],#[28,28]⟩) 28 [(26,.w (.a (.sl (.v 22) (.v 23) (.v 24)))),(30,.w (.a (.sl (.b (.v 27) 0) (.n 1) (.n 1))))] [(.a 22,.prop 25),(.b (.v 27),.cells [.int .u8 (.o1 (.wrap .u8) (.v 4))] 5)] [.a,.n,.n,.p] (.w (.a (.sl (.v 28) (.v 29) (.v 30)))) [(.a 28,.prop 31),(.b (.v 27),.cells [.int .u8 (.o1 (.wrap .u8) (.v 4))] 5)]
(.call 103 [.a (.sl (.v 28) (.v 29) (.v 30)),.a (.int .i64 (.v 5))] [(.a 28,.prop 31)] [.a,.n,.n,.p,.p] (.w (.a (.sl (.v 32) (.v 33) (.v 34)))) [(.a 32,.prop 35),(.a 28,.prop 36)]
(.call 104 [.a (.sl (.v 32) (.v 33) (.v 34)),.a (.sl (.v 6) (.v 7) (.v 8))] [(.a 32,.prop 35),(.a 6,.prop 9)] [.a,.n,.n,.p,.p] (.w (.a (.sl (.v 37) (.v 38) (.v 39)))) [(.a 37,.prop 40),(.a 32,.prop 41),(.a 6,.prop 9)]
(.call 105 [.a (.sl (.v 37) (.v 38) (.v 39))] [(.a 37,.prop 40)] [.a,.n,.n,.p,.p] (.w (.a (.sl (.v 42) (.v 43) (.v 44)))) [(.a 42,.prop 45),(.a 37,.prop 46)]
(.ret (.w (.a (.sl (.v 42) (.v 43) (.v 44)))) [(.a 6,.prop 9),(.a 42,.prop 45)])))))))))))
theorem tree_r7Bytes:tree Tryz.prog { absT:=[5],keep:=[30],turn:=[(104,[0])],rdf:=true } Tryz.f39 [.agg [.int .i64 (.v 0),.int .i64 (.v 1),.int .i64 (.v 2),.int .i64 (.v 3),.int .i64 (.v 4),.int .i64 (.v 5),.sl (.v 6) (.v 7) (.v 8)]] [(.a 6,.prop 9)] 10=t_r7Bytes:=by kernel_rfl
end Go.Proofs.YtdieogcemmnaaaaGreatDoor.RX

namespace Go.Proofs.YtdieogcemmnaaaaGreatDoor
set_option linter.unusedSimpArgs false
set_option linter.unusedVariables false
open Go.Proofs.YtdieogcemmnaaaaGreatDoor RX
set_option maxRecDepth 100000
theorem quo256 (v m:Nat):(((v / 256 ^ m:Nat):Int)).tdiv 256=((v / 256 ^ (m + 1):Nat):Int):=by
 rw [Nat.pow_succ,← Nat.div_div_eq_div_mul]
 exact (Int.ofNat_tdiv _ _).symm
theorem byteAt_rem (v k j:Nat) (hj:j < k):IntKind.u8.wrap ((((v / 256 ^ (k - 1 - j):Nat):Int)).tmod 256)=((byteAt v k j).toNat:Int):=by
 have e1:(((v / 256 ^ (k - 1 - j):Nat):Int)).tmod 256=((v / 256 ^ (k - 1 - j) % 256:Nat):Int):=(Int.ofNat_tmod _ _).symm
 have e2:(256:Nat) ^ (k - 1 - j)=2 ^ (8 * (k - 1 - j)):=by rw [Nat.pow_mul]
 rw [e1,e2]
 simp only [IntKind.wrap,IntKind.bits,IntKind.signed,byteAt,UInt8.toNat_ofNat',Bool.false_and,Bool.false_eq_true,if_false]
 omega
set_option maxHeartbeats 1000000 in
theorem r1Put_ok (a:Option Addr) (c:Nat) (l:List UInt8) (v k:Nat) (hk:k ≤ 8) (hv:v < 18446744073709551616) (hb:l.length + 8 ≤ 140737488355328) :
  Tri Tryz.prog 102 #[.slice a l.length c,.int .u64 v,.int .i64 k] (OwB a l.length c l) (fun x=>HP.ex fun a'=>HP.ex fun c'=>HP.and (x = .slice a' (l.length + k) c') (OwB a' (l.length + k) c' (l ++ beN v k))):=by
 refine tri_of_tree (ρ:=[.a a,.n l.length,.n c,.p (OwB a l.length c l),.i v,.i k]) mixed Tryz.func102 tree_r1Put ?_
 unfold t_r1Put
 simp only [T.den,E.prop,E.den,RX.look,F1.app,F2.app,Uni.int_i,Uni.nat_n,Uni.bool_c,Uni.str_s,Uni.adr_a,Uni.val_v,Uni.hp_p,hden,cden,V.den,W.den,A.den,BR.den,SA.den,FV.den,capV,exs,exP,allP,Cur.app,List.map_cons,List.map_nil,List.cons_append,List.nil_append,List.drop_succ_cons,List.drop_zero,List.length_cons,List.length_nil,Nat.zero_add,Nat.reduceAdd,Int.neg_neg,Bool.not_not,List.append_nil,Nat.add_zero,List.getElem?_cons_zero,List.getElem?_cons_succ,Decidable.not_not,semW_eq,semW_append,ne_eq,Nat.reduceEqDiff,not_false_eq_true]
 refine ⟨fun h=>by omega,fun _=>⟨inI64 _ (by omega) (by omega),fun _ => ?_⟩⟩
 refine ⟨fun a n c i P => ∃ j:Nat,j ≤ k ∧ n=l.length + j ∧ i=(k:Int) - 1 - j ∧ HP.ent P (OwB a (l.length + j) c (l ++ (beN v k).take j)),fun _ _ _ i _=>(i + 1).toNat,⟨0,Nat.zero_le _,rfl,by simp,by simpa using HP.ent.refl _⟩,?_⟩
 rintro a n c i P ⟨j,hj,rfl,rfl,hP⟩
 refine ⟨fun hge => ?_,fun hlt => ?_⟩
 ·have hjk:j < k:=by omega
  refine ⟨fun x q => ∃ m:Nat,m ≤ k - 1 - j ∧ q=m ∧ x=((v / 256 ^ m:Nat):Int),fun _ q=>(k - 1 - j) - q.toNat,⟨0,Nat.zero_le _,rfl,by simp⟩,?_⟩
  rintro x q ⟨m,hm,rfl,rfl⟩
  refine ⟨fun hlt => ?_,fun hge2 => ?_⟩
  ·rw [quo256]
   have h1:v / 256 ^ (m + 1) ≤ v:=Nat.div_le_self _ _
   have h2 : ∃ w:Nat,v / 256 ^ (m + 1)=w:=⟨_,rfl⟩
   refine ⟨inU64 _ (Int.natCast_nonneg _) (by obtain ⟨w,hw⟩:=h2; rw [hw] at h1 ⊢; omega),fun _=>⟨inI64 _ (by omega) (by omega),fun _=>⟨⟨m + 1,by omega,by omega,rfl⟩,by dsimp only; omega⟩⟩⟩
  ·obtain rfl:m=k - 1 - j:=by omega
   intro y
   rw [byteAt_rem v k j hjk]
   refine OTri.pre3 ((append8 a (l.length + j) c (l ++ (beN v k).take j) _ (some ⟨y,0,none⟩) 1 1 [byteAt v k j] ⟨one_rd y #[u8v (byteAt v k j)] _,fun _ _ _ e=>by cases e⟩ rfl (fun _=>rfl) (by omega)).weak (fun _ _ h=>h) ?_) (HP.ent.sep hP _)
   rintro r R h ⟨a',c',rfl,H⟩
   refine ⟨a',l.length + j + 1,c',_,rfl,⟨inI64 _ (by omega) (by omega),fun _=>⟨⟨j + 1,hjk,rfl,by omega,?_⟩,by dsimp only; omega⟩⟩,H⟩
   rw [beN_take v k j hjk,← List.append_assoc]
   exact HP.ent.refl _
 ·obtain rfl:j=k:=by omega
  refine hP.trans (.of fun R h H=>⟨a,c,rfl,?_⟩)
  rw [List.take_of_length_le (by rw [beN_len]; exact Nat.le_refl _)] at H
  exact H
def lenB' (q:List UInt8):List UInt8:=beN q.length 4 ++ q
theorem lenB'_len (q:List UInt8):(lenB' q).length=q.length + 4:=by unfold lenB'; simp [beN_len]; omega
theorem wrapU {x:Nat} (h:x < 18446744073709551616):IntKind.u64.wrap (x:Int)=x:=wrap_in ⟨by show (0:Int) ≤ _; omega,by show _ ≤ (18446744073709551615:Int); omega⟩
theorem linksN_lt' (u:Int):linksN u < 18446744073709551616:=by
 have h1:=linksN_val u
 simp only [IntKind.wrap,IntKind.bits,IntKind.signed,Bool.false_and,Bool.false_eq_true,if_false] at h1
 omega
def Enc (S:HP) (q:List UInt8) (v:Value):HP:=HP.ex fun a':Option Addr=>HP.ex fun c':Nat=>HP.and (v = .slice a' q.length c') (HP.sep (OwB a' q.length c' q) S)
theorem r1PutE (a:Option Addr) (c:Nat) (l:List UInt8) (v k:Nat) (hk:k ≤ 8) (hv:v < 18446744073709551616) (hb:l.length + 8 ≤ 140737488355328) :
  Tri Tryz.prog 102 #[.slice a l.length c,.int .u64 v,.int .i64 k] (OwB a l.length c l) (Enc HP.tt (l ++ beN v k)):=by
 refine (r1Put_ok a c l v k hk hv hb).weak (fun _ _ h=>h) ?_
 rintro r R h ⟨a',c',rfl,H⟩
 refine ⟨a',c',?_,?_⟩
 ·rw [List.length_append,beN_len]
 ·rw [List.length_append,beN_len]; exact HP.sep_tt H
theorem r1Bytes_ok (a:Option Addr) (c:Nat) (l:List UInt8) (b:Option Addr) (d:Nat) (q:List UInt8) (S:HP) (hr:RdL S b q.length (q.map u8v)) (hs:q.length ≠ 0 → b.isSome=true) (hb:l.length + q.length + 100 ≤ 140737488355328) :
  Tri Tryz.prog 104 #[.slice a l.length c,.slice b q.length d] (HP.sep (OwB a l.length c l) S) (Enc S (l ++ lenB' q)):=by
 refine tri_of_tree (ρ:=[.a a,.n l.length,.n c,.p (OwB a l.length c l),.a b,.n q.length,.n d,.p S]) mixed Tryz.func104 tree_r1Bytes ?_
 unfold t_r1Bytes
 simp only [T.den,E.prop,E.den,RX.look,F1.app,F2.app,Uni.int_i,Uni.nat_n,Uni.bool_c,Uni.str_s,Uni.adr_a,Uni.val_v,Uni.hp_p,hden,cden,V.den,W.den,A.den,BR.den,SA.den,FV.den,capV,exs,exP,allP,Cur.app,List.map_cons,List.map_nil,List.cons_append,List.nil_append,List.drop_succ_cons,List.drop_zero,List.length_cons,List.length_nil,Nat.zero_add,Nat.reduceAdd,Int.neg_neg,Bool.not_not,List.append_nil,Nat.add_zero,List.getElem?_cons_zero,List.getElem?_cons_succ,Decidable.not_not,semW_eq,semW_append,ne_eq,Nat.reduceEqDiff,not_false_eq_true]
 rw [wrapU (by omega)]
 refine (r1Put_ok a c l q.length 4 (by omega) (by omega) (by omega)).weak (fun _ _ h=>h) ?_
 rintro v R h ⟨a1,c1,rfl,H⟩
 refine ⟨a1,l.length + 4,c1,OwB a1 (l.length + 4) c1 (l ++ beN q.length 4),HP.tt,rfl,?_,HP.sep_tt H⟩
 clear H
 refine (append8 a1 (l.length + 4) c1 (l ++ beN q.length 4) S b q.length d q hr rfl hs (by omega)).weak (fun _ _ h=>h) ?_
 rintro v R h ⟨a2,c2,rfl,H⟩
 refine ⟨a2,l.length + 4 + q.length,c2,OwB a2 (l.length + 4 + q.length) c2 (l ++ beN q.length 4 ++ q),rfl,.of fun R h H=>⟨a2,c2,?_,?_⟩,H⟩
 ·rw [List.length_append,lenB'_len,Nat.add_assoc,Nat.add_comm 4]
 ·have H2:=HP.sep_right H
  rw [List.length_append,lenB'_len,show l ++ lenB' q=l ++ beN q.length 4 ++ q by unfold lenB'; rw [List.append_assoc],show l.length + (q.length + 4)=l.length + 4 + q.length by omega]
  exact HP.sep_comm H2
theorem r1Text_ok (a:Option Addr) (c:Nat) (l:List UInt8) (s:Nm) (hb:l.length + s.length + 100 ≤ 140737488355328) :
  Tri Tryz.prog 109 #[.slice a l.length c,sE s] (OwB a l.length c l) (Enc HP.tt (l ++ lenB' s)):=by
 refine tri_of_tree (ρ:=[.a a,.n l.length,.n c,.p (OwB a l.length c l),.s s]) mixed Tryz.func109 tree_r1Text ?_
 unfold t_r1Text
 simp only [T.den,E.prop,E.den,RX.look,F1.app,F2.app,Uni.int_i,Uni.nat_n,Uni.bool_c,Uni.str_s,Uni.adr_a,Uni.val_v,Uni.hp_p,hden,cden,V.den,W.den,A.den,BR.den,SA.den,FV.den,capV,exs,exP,allP,Cur.app,List.map_cons,List.map_nil,List.cons_append,List.nil_append,List.drop_succ_cons,List.drop_zero,List.length_cons,List.length_nil,Nat.zero_add,Nat.reduceAdd,Int.neg_neg,Bool.not_not,List.append_nil,Nat.add_zero,List.getElem?_cons_zero,List.getElem?_cons_succ,Decidable.not_not,semW_eq,ne_eq,Nat.reduceEqDiff,not_false_eq_true]
 rw [semW_cnv]
 refine (strB_ok s HP.tt).weak (fun _ _ h=>h) ?_
 rintro v R h ⟨z,c2,⟨rfl,hc⟩,H⟩
 refine ⟨some ⟨z,0,none⟩,_,c2,RoB (some ⟨z,0,none⟩) s.length s,rfl,?_,HP.sep_left H⟩
 clear H
 refine (r1Bytes_ok a c l (some ⟨z,0,none⟩) c2 s (RoB (some ⟨z,0,none⟩) s.length s) (RdL.ro _ _ _ _) (fun _=>rfl) hb).weak (fun _ _ h=>h) ?_
 rintro v R h ⟨a2,c3,rfl,H⟩
 refine ⟨a2,_,c3,OwB a2 (l ++ lenB' s).length c3 (l ++ lenB' s),HP.tt,rfl,.of fun R h H=>⟨a2,c3,rfl,HP.sep_comm H⟩,HP.sep_mono H (fun _ h=>h) fun x hx=>HP.tt_sep hx⟩
theorem r5Int_ok (a:Option Addr) (c:Nat) (l:List UInt8) (n:Int) (hb:l.length + 100 ≤ 140737488355328) :
  Tri Tryz.prog 103 #[.slice a l.length c,.int .i64 n] (OwB a l.length c l) (Enc HP.tt (l ++ beN (linksN n) 8)):=by
 refine tri_of_tree (ρ:=[.a a,.n l.length,.n c,.p (OwB a l.length c l),.i n]) mixed Tryz.func103 tree_r5Int ?_
 unfold t_r5Int
 simp only [T.den,E.prop,E.den,RX.look,F1.app,F2.app,Uni.int_i,Uni.nat_n,Uni.bool_c,Uni.str_s,Uni.adr_a,Uni.val_v,Uni.hp_p,hden,cden,V.den,W.den,A.den,BR.den,SA.den,FV.den,capV,exs,exP,allP,Cur.app,List.map_cons,List.map_nil,List.cons_append,List.nil_append,List.drop_succ_cons,List.drop_zero,List.length_cons,List.length_nil,Nat.zero_add,Nat.reduceAdd,Int.neg_neg,Bool.not_not,List.append_nil,Nat.add_zero,List.getElem?_cons_zero,List.getElem?_cons_succ,Decidable.not_not,semW_eq,ne_eq,Nat.reduceEqDiff,not_false_eq_true]
 rw [← linksN_val]
 refine (r1Put_ok a c l (linksN n) 8 (by omega) (linksN_lt' n) (by omega)).weak (fun _ _ h=>h) ?_
 rintro v R h ⟨a1,c1,rfl,H⟩
 refine ⟨a1,l.length + 8,c1,OwB a1 (l.length + 8) c1 (l ++ beN (linksN n) 8),HP.tt,rfl,.of fun R h H=>⟨a1,c1,?_,?_⟩,HP.sep_tt H⟩
 ·rw [List.length_append,beN_len]
 ·rw [List.length_append,beN_len]; exact HP.sep_comm H
def bit1 (s:Nat):Nat:=if s % 2=1 then s / 2 ^^^ 3988292384 else s / 2
def bits1:Nat → Nat → Nat | 0,s=>s | k + 1,s=>bits1 k (bit1 s)
theorem bits1_succ (k s:Nat):bits1 (k + 1) s=bit1 (bits1 k s):=by
 induction k generalizing s with
 | zero=>rfl
 | succ k ih=>show bits1 (k + 1) (bit1 s)=_; rw [ih]; rfl
theorem bit1_xor (a b:Nat):bit1 (a ^^^ b)=bit1 a ^^^ bit1 b:=by
 have h2:(a ^^^ b) / 2=a / 2 ^^^ b / 2:=Nat.xor_div_two
 have h1:(a ^^^ b) % 2=(a % 2) ^^^ (b % 2):=by
  have:=Nat.xor_mod_two_pow (a:=a) (b:=b) (n:=1)
  simpa using this
 unfold bit1
 rw [h1,h2]
 rcases Nat.mod_two_eq_zero_or_one a with ha | ha <;> rcases Nat.mod_two_eq_zero_or_one b with hb | hb <;> rw [ha,hb]
 ·simp
 ·simp [Nat.xor_assoc]
 ·simp only [Nat.xor_zero,if_true,Nat.zero_ne_one,if_false]
  rw [Nat.xor_assoc,Nat.xor_comm (b / 2),← Nat.xor_assoc]
 ·have : ¬ ((1:Nat) ^^^ 1=1):=by decide
  rw [if_neg this,if_pos rfl,if_pos rfl]
  rw [Nat.xor_assoc,Nat.xor_comm (b / 2),← Nat.xor_assoc 3988292384,Nat.xor_self,Nat.zero_xor]
theorem bit1_even (q:Nat):bit1 (2 * q)=q:=by
 unfold bit1
 rw [if_neg (by omega)]; omega
theorem split16 (s:Nat):s=(2 ^ 4 * (s / 16)) ^^^ (s % 16):=by
 have h16:s % 16 < 2 ^ 4:=by omega
 have e:s=2 ^ 4 * (s / 16) + s % 16:=by omega
 conv=>lhs; rw [e]
 apply Nat.eq_of_testBit_eq
 intro j
 rw [Nat.testBit_two_pow_mul_add _ h16,Nat.testBit_xor,Nat.testBit_two_pow_mul]
 by_cases hj:j < 4
 ·rw [if_pos hj]
  have : ¬ 4 ≤ j:=by omega
  simp [this]
 ·rw [if_neg hj]
  have h4:4 ≤ j:=by omega
  have:(s % 16).testBit j=false:=Nat.testBit_lt_two_pow (Nat.lt_of_lt_of_le h16 (Nat.pow_le_pow_right (by decide) h4))
  simp [this,h4]
theorem bits4 (s:Nat):bits1 4 s=nib s:=by
 have hx : ∀ a b:Nat,bits1 4 (a ^^^ b)=bits1 4 a ^^^ bits1 4 b:=fun a b=>by
  simp only [bits1,bit1_xor]
 have hm : ∀ q:Nat,bits1 4 (2 ^ 4 * q)=q:=fun q=>by
  simp only [bits1]
  rw [show 2 ^ 4 * q=2 * (2 * (2 * (2 * q))) by omega,bit1_even,bit1_even,bit1_even,bit1_even]
 have hr : ∀ r < 16,bits1 4 r=fours[r]?.getD 0:=by decide
 have e:=split16 s
 conv=>lhs; rw [e]
 rw [hx,hm,hr _ (by omega)]
 rfl
theorem bits8 (s:Nat):bits1 8 s=nib (nib s):=by
 rw [← bits4 s,← bits4]; rfl
theorem bit1_lt {s:Nat} (h:s < 4294967296):bit1 s < 4294967296:=by
 unfold bit1
 split
 ·exact xor32 (by omega) (by omega)
 ·omega
theorem bits1_lt {s:Nat} (h:s < 4294967296) : ∀ k,bits1 k s < 4294967296
 | 0=>h
 | k + 1=>by rw [bits1_succ]; exact bit1_lt (bits1_lt h k)
theorem compl32 {x:Nat} (h:x < 4294967296):(4294967295:Nat) ^^^ x=4294967295 - x:=by
 have e:=congrArg BitVec.toNat (BitVec.allOnes_xor (x:=BitVec.ofNat 32 x))
 rw [BitVec.toNat_xor,BitVec.toNat_not,BitVec.toNat_allOnes,BitVec.toNat_ofNat,Nat.mod_eq_of_lt (by simpa using h)] at e
 simpa using e
set_option maxHeartbeats 1000000 in
theorem r2Sum_ok (a:Option Addr) (n c:Nat) (l:List UInt8) (S:HP) (hr:RdL S a n (l.map u8v)) (hl:l.length=n) (ha:n ≠ 0 → a.isSome=true) (hb:n ≤ 140737488355328) :
  Tri Tryz.prog 166 #[.slice a n c] S (fun v=>HP.and (v = .int .u32 (sumS l:Nat)) S):=by
 refine tri_of_tree (ρ:=[.a a,.n n,.n c,.p S]) mixed Tryz.func166 tree_r2Sum ?_
 unfold t_r2Sum
 simp only [T.den,E.prop,E.den,RX.look,F1.app,F2.app,Uni.int_i,Uni.nat_n,Uni.bool_c,Uni.str_s,Uni.adr_a,Uni.val_v,Uni.hp_p,hden,cden,V.den,W.den,A.den,BR.den,SA.den,FV.den,capV,exs,exP,allP,Cur.app,List.map_cons,List.map_nil,List.cons_append,List.nil_append,List.drop_succ_cons,List.drop_zero,List.length_cons,List.length_nil,Nat.zero_add,Nat.reduceAdd,Int.neg_neg,Bool.not_not,List.append_nil,Nat.add_zero,List.getElem?_cons_zero,List.getElem?_cons_succ,Decidable.not_not,semW_eq,semW_load,ne_eq,Nat.reduceEqDiff,not_false_eq_true]
 refine ⟨fun s i => ∃ k:Nat,k ≤ n ∧ i=k ∧ s=((crcS 4294967295 (l.take k):Nat):Int),fun _ i=>n - i.toNat,⟨0,Nat.zero_le _,rfl,rfl⟩,?_⟩
 rintro _ _ ⟨k,hk,rfl,rfl⟩
 have hlt32:crcS 4294967295 (l.take k) < 4294967296:=crcS_lt (by decide) _
 refine ⟨fun hlt => ?_,fun hge => ?_⟩
 ·have hkl:k < l.length:=by omega
  obtain ⟨b,hbk⟩ : ∃ b,l[k]? = some b:=⟨_,List.getElem?_eq_getElem hkl⟩
  have hb8:=b.toNat_lt
  refine ⟨by omega,fun _=>⟨ha (by omega),fun _=>⟨b.toNat,load1_ok und8b agg8 sz8 hr.rd (k:=k * 1) (off:=0) (by simp [u8v,hbk]),?_⟩⟩⟩
  refine ⟨⟨by show (0:Int) ≤ _; omega,by show _ ≤ (4294967295:Int); omega⟩,fun _ => ?_⟩
  have hx0:crcS 4294967295 (l.take k) ^^^ b.toNat < 4294967296:=xor32 hlt32 (by omega)
  refine ⟨fun s i => ∃ m:Nat,m ≤ 8 ∧ i=m ∧ s=((bits1 m (crcS 4294967295 (l.take k) ^^^ b.toNat):Nat):Int),fun _ i=>8 - i.toNat,⟨0,by omega,rfl,by rw [bxor32 hlt32 (by omega)]; rfl⟩,?_⟩
  rintro _ _ ⟨m,hm,rfl,rfl⟩
  have hm32:=bits1_lt hx0 m
  obtain ⟨y,hy⟩ : ∃ y,bits1 m (crcS 4294967295 (l.take k) ^^^ b.toNat)=y:=⟨_,rfl⟩
  have hnext:=bits1_succ m (crcS 4294967295 (l.take k) ^^^ b.toNat)
  rw [hy] at hm32 hnext ⊢
  have e1:((y:Int)).tdiv 2=((y / 2:Nat):Int):=(Int.ofNat_tdiv _ _).symm
  have e2:((y:Int)).tmod 2=((y % 2:Nat):Int):=(Int.ofNat_tmod _ _).symm
  rw [e1,e2]
  refine ⟨fun hlt8 => ?_,fun hge8 => ?_⟩
  ·refine ⟨⟨by show (0:Int) ≤ _; omega,by show _ ≤ (4294967295:Int); omega⟩,fun _=>⟨fun h1 => ?_,fun h1 => ?_⟩⟩
   ·refine ⟨inI64 _ (by omega) (by omega),fun _=>⟨⟨m + 1,by omega,by omega,?_⟩,by dsimp only; omega⟩⟩
    rw [hnext]
    have:=bxor32 (a:=y / 2) (b:=3988292384) (by omega) (by omega)
    rw [show ((3988292384:Nat):Int)=3988292384 from rfl] at this
    rw [this]
    unfold bit1; rw [if_pos (by omega)]
   ·refine ⟨inI64 _ (by omega) (by omega),fun _=>⟨⟨m + 1,by omega,by omega,?_⟩,by dsimp only; omega⟩⟩
    rw [hnext]
    unfold bit1; rw [if_neg (by omega)]
  ·obtain rfl:m=8:=by omega
   refine ⟨inI64 _ (by omega) (by omega),fun _=>⟨⟨k + 1,by omega,by omega,?_⟩,by dsimp only; omega⟩⟩
   rw [List.take_add_one,hbk,Option.toList_some,crcS_snoc]
   unfold crcB
   rw [← bits8,hy]
 ·obtain rfl:k=n:=by omega
  refine .of fun R h H=>⟨?_,H⟩
  rw [List.take_of_length_le (by omega)] at hlt32 ⊢
  have e:(4294967295:Int) - ((crcS 4294967295 l:Nat):Int)=((4294967295 - crcS 4294967295 l:Nat):Int):=by omega
  rw [e,wrap32 (by omega)]
  unfold sumS moreS
  have h0:(4294967295:Nat) ^^^ 0=4294967295:=by decide
  rw [h0]
  have:=compl32 hlt32
  rw [this]
set_option maxHeartbeats 1000000 in
theorem r2Wrap_ok (a:Option Addr) (n c:Nat) (l:List UInt8) (S:HP) (hr:RdL S a n (l.map u8v)) (hl:l.length=n) (ha:n ≠ 0 → a.isSome=true) (hb:n ≤ 140737488355000) :
  Tri Tryz.prog 105 #[.slice a n c] S (Enc S (wrapS l)):=by
 refine tri_of_tree (ρ:=[.a a,.n n,.n c,.p S]) mixed Tryz.func105 tree_r2Wrap ?_
 unfold t_r2Wrap
 simp only [T.den,E.prop,E.den,RX.look,F1.app,F2.app,Uni.int_i,Uni.nat_n,Uni.bool_c,Uni.str_s,Uni.adr_a,Uni.val_v,Uni.hp_p,hden,cden,V.den,W.den,A.den,BR.den,SA.den,FV.den,capV,exs,exP,allP,Cur.app,List.map_cons,List.map_nil,List.cons_append,List.nil_append,List.drop_succ_cons,List.drop_zero,List.length_cons,List.length_nil,Nat.zero_add,Nat.reduceAdd,Int.neg_neg,Bool.not_not,List.append_nil,Nat.add_zero,List.getElem?_cons_zero,List.getElem?_cons_succ,Decidable.not_not,semW_eq,semW_append,ne_eq,Nat.reduceEqDiff,not_false_eq_true]
 intro x
 refine (append8 (some ⟨x,0,none⟩) 0 0 [] S a n c l hr hl ha (by omega)).weak (fun R h H=>HP.sep_mono H (fun y hy=>⟨rfl,.inr ⟨x,#[],rfl,hy,Nat.le_refl _,by unfold maxLen; omega,rfl,rfl⟩⟩) fun _ h=>h) ?_
 rintro v R h ⟨a1,c1,rfl,H⟩
 rw [Nat.zero_add,List.nil_append] at H
 refine ⟨a1,n,c1,OwB a1 n c1 l,by rw [Nat.zero_add],?_,H⟩
 clear H
 refine (r2Sum_ok a n c l S hr hl ha (by omega)).weak (fun _ _ h=>h) ?_
 rintro v R h ⟨rfl,H⟩
 have hs:=sumS_lt l
 refine ⟨_,rfl,⟨inU64 _ (by omega) (by omega),fun _ => ?_⟩,H⟩
 clear H
 subst hl
 refine (r1Put_ok a1 c1 l (sumS l) 4 (by omega) (by omega) (by omega)).weak (fun _ _ h=>h) ?_
 rintro v R h ⟨a2,c2,rfl,H⟩
 refine ⟨a2,l.length + 4,c2,OwB a2 (l.length + 4) c2 (l ++ beN (sumS l) 4),HP.tt,rfl,.of fun R h H=>⟨a2,c2,?_,?_⟩,HP.sep_tt H⟩
 ·rw [wrapS_len]
 ·rw [wrapS_len]; exact HP.sep_comm H
def callB (x:CallP):List UInt8:=[byteI x.kind] ++ lenB' x.path ++ lenB' x.other ++ beN (linksN x.off) 8 ++ beN (linksN x.n) 8 ++ lenB' x.data
theorem one_ow {e:TypeId} {b:Nat} {v:Value} {R h:PH} (H:(HP.one b (.cells #[v] e (0,0))).p R h):(OwC e 1 (some ⟨b,0,none⟩) 1 1 [v]).p R h:=⟨rfl,.inr ⟨b,#[v],rfl,H,Nat.le_refl _,by unfold maxLen; omega,rfl,rfl⟩⟩
set_option maxHeartbeats 2000000 in
theorem r5Encode_ok (x:CallP) (a:Option Addr) (c:Nat) (S:HP) (hr:RdL S a x.data.length (x.data.map u8v)) (ha:x.data.length ≠ 0 → a.isSome=true) (hb:x.path.length + x.other.length + x.data.length ≤ 100000000000000) :
  Tri Tryz.prog 46 #[x.val a c] S (Enc S (wrapS (callB x))):=by
 refine tri_of_tree (ρ:=[.i x.kind,.s x.path,.s x.other,.i x.off,.i x.n,.a a,.n x.data.length,.n c,.p S]) mixed Tryz.func46 tree_r5Encode ?_
 unfold t_r5Encode
 simp only [T.den,E.prop,E.den,RX.look,F1.app,F2.app,Uni.int_i,Uni.nat_n,Uni.bool_c,Uni.str_s,Uni.adr_a,Uni.val_v,Uni.hp_p,hden,cden,V.den,W.den,A.den,BR.den,SA.den,FV.den,capV,exs,exP,allP,Cur.app,List.map_cons,List.map_nil,List.cons_append,List.nil_append,List.drop_succ_cons,List.drop_zero,List.length_cons,List.length_nil,Nat.zero_add,Nat.reduceAdd,Int.neg_neg,Bool.not_not,List.append_nil,Nat.add_zero,List.getElem?_cons_zero,List.getElem?_cons_succ,Decidable.not_not,semW_eq,ne_eq,Nat.reduceEqDiff,not_false_eq_true]
 intro y z
 rw [← byteI_val]
 refine (r1Text_ok (some ⟨z,0,none⟩) 1 [byteI x.kind] x.path (by simp; omega)).weak (fun R h H=>one_ow H) ?_
 rintro v R h ⟨a1,c1,rfl,H⟩
 refine ⟨a1,_,c1,OwB a1 ([byteI x.kind] ++ lenB' x.path).length c1 ([byteI x.kind] ++ lenB' x.path),HP.tt,rfl,?_,H⟩
 clear H
 refine (r1Text_ok a1 c1 ([byteI x.kind] ++ lenB' x.path) x.other (by simp [lenB'_len]; omega)).weak (fun _ _ h=>h) ?_
 rintro v R h ⟨a2,c2,rfl,H⟩
 refine ⟨a2,_,c2,_,HP.tt,rfl,?_,H⟩
 clear H
 refine (r5Int_ok a2 c2 ([byteI x.kind] ++ lenB' x.path ++ lenB' x.other) x.off (by simp [lenB'_len]; omega)).weak (fun _ _ h=>h) ?_
 rintro v R h ⟨a3,c3,rfl,H⟩
 refine ⟨a3,_,c3,_,HP.tt,rfl,?_,H⟩
 clear H
 refine (r5Int_ok a3 c3 ([byteI x.kind] ++ lenB' x.path ++ lenB' x.other ++ beN (linksN x.off) 8) x.n (by simp [lenB'_len,beN_len]; omega)).weak (fun _ _ h=>h) ?_
 rintro v R h ⟨a4,c4,rfl,H⟩
 refine ⟨a4,_,c4,_,HP.tt,rfl,?_,H⟩
 clear H
 refine (r1Bytes_ok a4 c4 ([byteI x.kind] ++ lenB' x.path ++ lenB' x.other ++ beN (linksN x.off) 8 ++ beN (linksN x.n) 8) a c x.data S hr ha (by simp [lenB'_len,beN_len]; omega)).weak (fun _ _ h=>h) ?_
 rintro v R h ⟨a5,c5,rfl,H⟩
 refine ⟨a5,_,c5,OwB a5 (callB x).length c5 (callB x),HP.tt,rfl,?_,HP.sep_mono H (fun _ h=>h) fun w hw=>HP.tt_sep hw⟩
 have h5:(callB x).length ≠ 0 → a5.isSome=true:=fun hn=>OwC.some (HP.sep_left H) (Nat.pos_of_ne_zero hn)
 clear H
 have hlen:(callB x).length ≤ 140737488355000:=by unfold callB; simp [lenB'_len,beN_len]; omega
 refine (r2Wrap_ok a5 (callB x).length c5 (callB x) _ (RdL.ow _ _ _ _ _ _) rfl h5 hlen).weak (fun _ _ h=>h) ?_
 rintro v R h ⟨a6,c6,rfl,H⟩
 refine ⟨a6,_,c6,OwB a6 (wrapS (callB x)).length c6 (wrapS (callB x)),_,rfl,.of fun R h H=>⟨a6,c6,rfl,HP.sep_comm H⟩,H⟩
def logB (x:LogM):List UInt8:=[byteI x.kind] ++ beN (linksN x.cl) 4 ++ beN (linksN x.bi) 4 ++ beN (linksN x.nu) 4 ++ [byteI x.st] ++ beN (linksN x.bk) 8 ++ lenB' x.pl
theorem logB_len (x:LogM):(logB x).length=x.pl.length + 26:=by unfold logB; simp [lenB'_len,beN_len]; omega
set_option maxHeartbeats 2000000 in
theorem r7Bytes_ok (x:LogM) (a:Option Addr) (c:Nat) (S:HP) (hr:RdL S a x.pl.length (x.pl.map u8v)) (ha:x.pl.length ≠ 0 → a.isSome=true) (hb:x.pl.length ≤ 100000000000100) :
  Tri Tryz.prog 39 #[x.val a c] S (Enc S (wrapS (logB x))):=by
 refine tri_of_tree (ρ:=[.i x.kind,.i x.cl,.i x.bi,.i x.nu,.i x.st,.i x.bk,.a a,.n x.pl.length,.n c,.p S]) mixed Tryz.func39 tree_r7Bytes ?_
 unfold t_r7Bytes
 simp only [T.den,E.prop,E.den,RX.look,F1.app,F2.app,Uni.int_i,Uni.nat_n,Uni.bool_c,Uni.str_s,Uni.adr_a,Uni.val_v,Uni.hp_p,hden,cden,V.den,W.den,A.den,BR.den,SA.den,FV.den,capV,exs,exP,allP,Cur.app,List.map_cons,List.map_nil,List.cons_append,List.nil_append,List.drop_succ_cons,List.drop_zero,List.length_cons,List.length_nil,Nat.zero_add,Nat.reduceAdd,Int.neg_neg,Bool.not_not,List.append_nil,Nat.add_zero,List.getElem?_cons_zero,List.getElem?_cons_succ,Decidable.not_not,semW_eq,semW_append,ne_eq,Nat.reduceEqDiff,not_false_eq_true]
 intro y z
 rw [← byteI_val,← byteI_val,← linksN_val,← linksN_val,← linksN_val]
 refine (r1PutE (some ⟨z,0,none⟩) 1 [byteI x.kind] (linksN x.cl) 4 (by omega) (linksN_lt' _) (by simp)).weak (fun R h H=>one_ow H) ?_
 rintro v R h ⟨a1,c1,rfl,H⟩
 refine ⟨a1,_,c1,OwB a1 ([byteI x.kind] ++ beN (linksN x.cl) 4).length c1 ([byteI x.kind] ++ beN (linksN x.cl) 4),HP.tt,rfl,?_,H⟩
 clear H
 refine (r1PutE a1 c1 ([byteI x.kind] ++ beN (linksN x.cl) 4) (linksN x.bi) 4 (by omega) (linksN_lt' _) (by simp [beN_len])).weak (fun _ _ h=>h) ?_
 rintro v R h ⟨a2,c2,rfl,H⟩
 refine ⟨a2,_,c2,_,HP.tt,rfl,?_,H⟩
 clear H
 refine (r1PutE a2 c2 ([byteI x.kind] ++ beN (linksN x.cl) 4 ++ beN (linksN x.bi) 4) (linksN x.nu) 4 (by omega) (linksN_lt' _) (by simp [beN_len])).weak (fun _ _ h=>h) ?_
 rintro v R h ⟨a3,c3,rfl,H⟩
 refine ⟨a3,_,c3,_,HP.tt,rfl,fun w => ?_,H⟩
 clear H
 refine (append8 a3 ([byteI x.kind] ++ beN (linksN x.cl) 4 ++ beN (linksN x.bi) 4 ++ beN (linksN x.nu) 4).length c3 ([byteI x.kind] ++ beN (linksN x.cl) 4 ++ beN (linksN x.bi) 4 ++ beN (linksN x.nu) 4) _ (some ⟨w,0,none⟩) 1 1 [byteI x.st] ⟨one_rd w #[u8v (byteI x.st)] _,fun _ _ _ e=>by cases e⟩ rfl (fun _=>rfl) (by simp [beN_len])).weak (fun _ _ h=>h) ?_
 rintro v R h ⟨a4,c4,rfl,H⟩
 refine ⟨a4,([byteI x.kind] ++ beN (linksN x.cl) 4 ++ beN (linksN x.bi) 4 ++ beN (linksN x.nu) 4).length + 1,c4,OwB a4 ([byteI x.kind] ++ beN (linksN x.cl) 4 ++ beN (linksN x.bi) 4 ++ beN (linksN x.nu) 4 ++ [byteI x.st]).length c4 ([byteI x.kind] ++ beN (linksN x.cl) 4 ++ beN (linksN x.bi) 4 ++ beN (linksN x.nu) 4 ++ [byteI x.st]),rfl,?_,by rw [List.length_append (bs:=[byteI x.st])]; exact H⟩
 clear H
 refine (r5Int_ok a4 c4 ([byteI x.kind] ++ beN (linksN x.cl) 4 ++ beN (linksN x.bi) 4 ++ beN (linksN x.nu) 4 ++ [byteI x.st]) x.bk (by simp [beN_len])).weak (fun _ _ h=>h) ?_
 rintro v R h ⟨a5,c5,rfl,H⟩
 refine ⟨a5,_,c5,_,HP.tt,rfl,?_,H⟩
 clear H
 refine (r1Bytes_ok a5 c5 ([byteI x.kind] ++ beN (linksN x.cl) 4 ++ beN (linksN x.bi) 4 ++ beN (linksN x.nu) 4 ++ [byteI x.st] ++ beN (linksN x.bk) 8) a c x.pl S hr ha (by simp [beN_len]; omega)).weak (fun _ _ h=>h) ?_
 rintro v R h ⟨a6,c6,rfl,H⟩
 have h6:(logB x).length ≠ 0 → a6.isSome=true:=fun hn=>OwC.some (HP.sep_left H) (Nat.pos_of_ne_zero hn)
 refine ⟨a6,_,c6,OwB a6 (logB x).length c6 (logB x),HP.tt,rfl,?_,HP.sep_mono H (fun _ h=>h) fun w hw=>HP.tt_sep hw⟩
 clear H
 have hlen:=logB_len x
 refine (r2Wrap_ok a6 (logB x).length c6 (logB x) _ (RdL.ow _ _ _ _ _ _) rfl h6 (by omega)).weak (fun _ _ h=>h) ?_
 rintro v R h ⟨a7,c7,rfl,H⟩
 refine ⟨a7,_,c7,OwB a7 (wrapS (logB x)).length c7 (wrapS (logB x)),_,rfl,.of fun R h H=>⟨a7,c7,rfl,HP.sep_comm H⟩,H⟩
end Go.Proofs.YtdieogcemmnaaaaGreatDoor

namespace Go.Proofs.YtdieogcemmnaaaaGreatDoor
open Go.RowKit Go.ChangeShapes Go.WideShapes Go.Deep RX
set_option maxRecDepth 100000
section
variable {H:Type} {P:Program} {t e:TypeId}
end
section
variable {H:Type} {enc:TypeId × Value → H} {w:World} {base:Nat}
variable {α:Type}
end
end Go.Proofs.YtdieogcemmnaaaaGreatDoor

namespace Go.Proofs.YtdieogcemmnaaaaGreatDoor
open Go.RowKit Go.ChangeShapes Go.WideShapes Go.Deep RX
set_option maxRecDepth 100000
set_option linter.unusedVariables false
set_option linter.unusedSimpArgs false
structure Step16 where
 what:Int
 low:Int
 id_cl:Int
 id_bi:Int
 id_nu:Int
 call_kind:Int
 call_path:List UInt8
 call_other:List UInt8
 call_off:Int
 call_n:Int
 call_data:List UInt8
 call_dataa:Option Addr
 call_datac:Nat
 raw:List UInt8
 rawa:Option Addr
 rawc:Nat
instance:Inhabited Step16:=⟨⟨0,0,0,0,0,0,[],[],0,0,[],none,0,[],none,0⟩⟩
end Go.Proofs.YtdieogcemmnaaaaGreatDoor

namespace Go.Proofs.YtdieogcemmnaaaaGreatDoor.RX
set_option maxRecDepth 100000
-- tideline/tidelineref01.Same: ρ:=[.a aa,.n al,.n ac,.p aP,.a ba,.n bl,.n bc,.p bP]
def t_same01:T :=
(.br (.o1 .not (.o2 .eq (.o1 .ofNat (.v 1)) (.o1 .ofNat (.v 5))))
(.ret (.w (.a (.bool (.c false)))) [(.a 0,.prop 3),(.a 4,.prop 7)])
(.loop [.c,.i] [.e (.o1 .not (.o1 .not (.c false))),.e (.o1 .neg (.o1 .neg (.i 0)))]
(.br (.o2 .lt (.v 9) (.o1 .ofNat (.v 1)))
(.need (.o2 .le (.i 0) (.v 9))
(.need (.o1 .isSome (.v 0))
(.read (.load 5 (.tmp 19)) 5 [(19,.w (.a (.eptr 0 (.v 9) 1 0)))] [(.a 0,.prop 3)] [.i] (.w (.a (.int .u8 (.v 10))))
(.need (.o2 .lt (.v 9) (.o1 .ofNat (.v 5)))
(.need (.o1 .isSome (.v 4))
(.read (.load 5 (.tmp 23)) 5 [(23,.w (.a (.eptr 4 (.v 9) 1 0)))] [(.a 4,.prop 7)] [.i] (.w (.a (.int .u8 (.v 11))))
(.br (.o1 .not (.o2 .eq (.v 10) (.v 11)))
(.ret (.w (.a (.bool (.c false)))) [(.a 0,.prop 3),(.a 4,.prop 7)])
(.need (.o1 (.inr .i64) (.o2 .add (.v 9) (.i 1)))
(.again 0 [.e (.o1 .not (.o1 .not (.v 8))),.e (.o1 .neg (.o1 .neg (.o2 .add (.v 9) (.i 1))))])))))))))
(.ret (.w (.a (.bool (.c true)))) [(.a 0,.prop 3),(.a 4,.prop 7)]))))
theorem tree_same01:tree Tryz.prog { keep:=[30,76,78],rdf:=true } Tryz.f30 [.a (.sl (.v 0) (.v 1) (.v 2)),.a (.sl (.v 4) (.v 5) (.v 6))] [(.a 0,.prop 3),(.a 4,.prop 7)] 8=t_same01:=by kernel_rfl
def t_name03:T :=
(.loop [.c,.i] [.e (.o1 .not (.o1 .not (.c false))),.e (.o1 .neg (.o1 .neg (.i 0)))]
(.br (.o2 .lt (.v 2) (.o1 .ofNat (.o1 .size (.v 0))))
(.read (.index 9 (.tmp 10) (.tmp 11)) 5 [(10,.w (.a (.str (.v 0)))),(11,.w (.a (.int .i64 (.v 2))))] [] [.i] (.w (.a (.int .u8 (.v 3))))
(.br (.o2 .eq (.v 3) (.i 47))
(.ret (.w (.a (.bool (.c false)))) [])
(.read (.index 9 (.tmp 15) (.tmp 16)) 5 [(15,.w (.a (.str (.v 0)))),(16,.w (.a (.int .i64 (.v 2))))] [] [.i] (.w (.a (.int .u8 (.v 4))))
(.br (.o2 .eq (.v 4) (.i 0))
(.ret (.w (.a (.bool (.c false)))) [])
(.need (.o1 (.inr .i64) (.o2 .add (.v 2) (.i 1)))
(.again 0 [.e (.o1 .not (.o1 .not (.v 1))),.e (.o1 .neg (.o1 .neg (.o2 .add (.v 2) (.i 1))))]))))))
(.br (.o2 .le (.i 1) (.o1 .ofNat (.o1 .size (.v 0))))
(.br (.o2 .le (.o1 .ofNat (.o1 .size (.v 0))) (.i 16))
(.br (.o1 .not (.o2 .seq (.v 0) (.s [46])))
(.ret (.w (.a (.bool (.o1 .not (.o2 .seq (.v 0) (.s [46,46])))))) [])
(.ret (.w (.a (.bool (.c false)))) []))
(.ret (.w (.a (.bool (.c false)))) []))
(.ret (.w (.a (.bool (.c false)))) []))))
theorem tree_name03:tree Tryz.prog { keep:=[30,76,78],rdf:=true } Tryz.f78 [.a (.str (.v 0))] [] 1=t_name03:=by kernel_rfl
def t_sameNodes:T :=
(.br (.o1 .not (.o2 .eq (.o1 .ofNat (.v 1)) (.o1 .ofNat (.v 5))))
(.ret (.w (.a (.bool (.c false)))) [(.a 0,.prop 3),(.a 4,.prop 7)])
(.loop [.c,.i] [.e (.o1 .not (.o1 .not (.c false))),.e (.o1 .neg (.o1 .neg (.i 0)))]
(.br (.o2 .lt (.v 9) (.o1 .ofNat (.v 1)))
(.join [.n,.n,.i,.i,.i,.a,.n,.n,.a,.n,.n,.i,.i,.i,.a,.n,.n,.a,.n,.n]
(.need (.o2 .le (.i 0) (.v 9))
(.need (.o1 .isSome (.v 0))
(.read (.load 43 (.tmp 22)) 43 [(22,.w (.a (.eptr 0 (.v 9) 5 0)))] [(.a 0,.prop 3)] [.i,.i,.i,.a,.n,.n,.a,.n,.n] (.w (.agg [.int .i64 (.v 10),.int .i64 (.v 11),.int .i64 (.v 12),.sl (.v 13) (.v 14) (.v 15),.sl (.v 16) (.v 17) (.v 18)]))
(.need (.o2 .lt (.v 9) (.o1 .ofNat (.v 5)))
(.need (.o1 .isSome (.v 4))
(.read (.load 43 (.tmp 26)) 43 [(26,.w (.a (.eptr 4 (.v 9) 5 0)))] [(.a 4,.prop 7)] [.i,.i,.i,.a,.n,.n,.a,.n,.n] (.w (.agg [.int .i64 (.v 19),.int .i64 (.v 20),.int .i64 (.v 21),.sl (.v 22) (.v 23) (.v 24),.sl (.v 25) (.v 26) (.v 27)]))
  (.all
(.new
(.new
(.again 0 [.n (.v 28),.n (.v 29),.e (.o1 .neg (.o1 .neg (.v 19))),.e (.o1 .neg (.o1 .neg (.v 20))),.e (.o1 .neg (.o1 .neg (.v 21))),.a (.v 22),.e (.o2 .nadd (.v 23) (.n 0)),.e (.o2 .nadd (.v 24) (.n 0)),.a (.v 25),.e (.o2 .nadd (.v 26) (.n 0)),.e (.o2 .nadd (.v 27) (.n 0)),.e (.o1 .neg (.o1 .neg (.v 10))),.e (.o1 .neg (.o1 .neg (.v 11))),.e (.o1 .neg (.o1 .neg (.v 12))),.a (.v 13),.e (.o2 .nadd (.v 14) (.n 0)),.e (.o2 .nadd (.v 15) (.n 0)),.a (.v 16),.e (.o2 .nadd (.v 17) (.n 0)),.e (.o2 .nadd (.v 18) (.n 0))])))
(.new
(.new
(.again 0 [.n (.v 29),.n (.v 28),.e (.o1 .neg (.o1 .neg (.v 19))),.e (.o1 .neg (.o1 .neg (.v 20))),.e (.o1 .neg (.o1 .neg (.v 21))),.a (.v 22),.e (.o2 .nadd (.v 23) (.n 0)),.e (.o2 .nadd (.v 24) (.n 0)),.a (.v 25),.e (.o2 .nadd (.v 26) (.n 0)),.e (.o2 .nadd (.v 27) (.n 0)),.e (.o1 .neg (.o1 .neg (.v 10))),.e (.o1 .neg (.o1 .neg (.v 11))),.e (.o1 .neg (.o1 .neg (.v 12))),.a (.v 13),.e (.o2 .nadd (.v 14) (.n 0)),.e (.o2 .nadd (.v 15) (.n 0)),.a (.v 16),.e (.o2 .nadd (.v 17) (.n 0)),.e (.o2 .nadd (.v 18) (.n 0))]))))))))))
(.br (.o1 .not (.o2 .eq (.v 21) (.v 12)))
(.ret (.w (.a (.bool (.c false)))) [(.a 0,.prop 3),(.a 4,.prop 7)])
(.br (.o1 .not (.o2 .eq (.v 22) (.v 13)))
(.ret (.w (.a (.bool (.c false)))) [(.a 0,.prop 3),(.a 4,.prop 7)])
(.br (.o1 .not (.o2 .eq (.v 23) (.v 14)))
(.ret (.w (.a (.bool (.c false)))) [(.a 0,.prop 3),(.a 4,.prop 7)])
(.call 30 [.a (.sl (.v 24) (.v 25) (.v 26)),.a (.sl (.v 15) (.v 16) (.v 17))] [(.a 0,.prop 3),(.a 4,.prop 7)] [.c] (.w (.a (.bool (.v 30)))) [(.a 0,.prop 3),(.a 4,.prop 7)]
(.br (.o1 .not (.v 30))
(.ret (.w (.a (.bool (.c false)))) [(.a 0,.prop 3),(.a 4,.prop 7)])
(.br (.o1 .not (.o2 .eq (.o1 .ofNat (.v 28)) (.o1 .ofNat (.v 19))))
(.ret (.w (.a (.bool (.c false)))) [(.a 0,.prop 3),(.a 4,.prop 7)])
(.loop [.c,.i] [.e (.o1 .not (.o1 .not (.v 8))),.e (.o1 .neg (.o1 .neg (.i 0)))]
(.br (.o2 .lt (.v 32) (.o1 .ofNat (.v 28)))
(.need (.o2 .le (.i 0) (.v 32))
(.need (.o1 .isSome (.v 27))
(.read (.load 140 (.tmp 74)) 140 [(74,.w (.a (.eptr 27 (.v 32) 2 0)))] [(.a 0,.prop 3)] [.s,.i] (.w (.agg [.str (.v 33),.int .i64 (.v 34)]))
(.need (.o2 .lt (.v 32) (.o1 .ofNat (.v 19)))
(.need (.o1 .isSome (.v 18))
(.read (.load 140 (.tmp 79)) 140 [(79,.w (.a (.eptr 18 (.v 32) 2 0)))] [(.a 4,.prop 7)] [.s,.i] (.w (.agg [.str (.v 35),.int .i64 (.v 36)]))
(.read (.binOp .neq 140 (.tmp 75) (.tmp 80) 140) 4 [(75,.w (.agg [.str (.v 33),.int .i64 (.v 34)])),(80,.w (.agg [.str (.v 35),.int .i64 (.v 36)]))] [] [.c] (.w (.a (.bool (.v 37))))
(.br (.v 37)
(.ret (.w (.a (.bool (.c false)))) [(.a 0,.prop 3),(.a 4,.prop 7)])
(.need (.o1 (.inr .i64) (.o2 .add (.v 32) (.i 1)))
(.again 0 [.e (.o1 .not (.o1 .not (.v 31))),.e (.o1 .neg (.o1 .neg (.o2 .add (.v 32) (.i 1))))]))))))))))
(.need (.o1 (.inr .i64) (.o2 .add (.v 9) (.i 1)))
(.again 1 [.e (.o1 .not (.o1 .not (.v 31))),.e (.o1 .neg (.o1 .neg (.o2 .add (.v 9) (.i 1))))])))))))))))
(.ret (.w (.a (.bool (.c true)))) [(.a 0,.prop 3),(.a 4,.prop 7)]))))
theorem tree_sameNodes:tree Tryz.prog { keep:=[30,76,78],rdf:=true,jn:=[((20,10),some { ss:=[.n,.n,.i,.i,.i,.a,.n,.n,.a,.n,.n,.i,.i,.i,.a,.n,.n,.a,.n,.n],n:=30,tv:=[(20,none),(21,none),(22,none),(23,none),(24,none),(25,none),(26,none),(27,none),(6,some (.w (.a (.ptr (.v 10) 0)))),(7,some (.w (.a (.ptr (.v 11) 0))))],h:=[(.b (.v 11),.cells [.int .i64 (.v 12),.int .i64 (.v 13),.int .i64 (.v 14),.sl (.v 15) (.v 16) (.v 17),.sl (.v 18) (.v 19) (.v 20)] 43),(.b (.v 10),.cells [.int .i64 (.v 21),.int .i64 (.v 22),.int .i64 (.v 23),.sl (.v 24) (.v 25) (.v 26),.sl (.v 27) (.v 28) (.v 29)] 43),(.a 0,.prop 3),(.a 4,.prop 7)],lk:=[(15,.a 4),(18,.a 4),(24,.a 0),(27,.a 0)] })] } Tryz.f20 [.a (.sl (.v 0) (.v 1) (.v 2)),.a (.sl (.v 4) (.v 5) (.v 6))] [(.a 0,.prop 3),(.a 4,.prop 7)] 8=t_sameNodes:=by kernel_rfl
end Go.Proofs.YtdieogcemmnaaaaGreatDoor.RX

namespace Go.Proofs.YtdieogcemmnaaaaGreatDoor
set_option linter.unusedSimpArgs false
set_option linter.unusedVariables false
open Go.Proofs.YtdieogcemmnaaaaGreatDoor RX
set_option maxRecDepth 100000
instance instAns:DecidableEq AnsM:=fun r s=>decidable_of_iff (r.err=s.err ∧ r.kind=s.kind ∧ r.size=s.size ∧ r.links=s.links ∧ r.data=s.data ∧ r.names=s.names) ⟨fun ⟨h1,h2,h3,h4,h5,h6⟩=>by cases r; cases s; simp only at h1 h2 h3 h4 h5 h6; subst h1 h2 h3 h4 h5 h6; rfl,fun h=>by subst h; exact ⟨rfl,rfl,rfl,rfl,rfl,rfl⟩⟩
theorem RdL.isSome {S:HP} {a:Option Addr} {n:Nat} {xs:List Value} (r:RdL S a n xs) {R h:PH} (H:S.p R h) (hn:n ≠ 0):a.isSome=true:=by
 cases a with
 | some x=>rfl
 | none=>exact absurd (r.none R h H rfl) hn
theorem take_eq {α:Type} {l m:List α} {k:Nat} {x y:α} (hx:l[k]? = some x) (hy:m[k]? = some y) (h:l.take k=m.take k) (e:x=y):l.take (k + 1)=m.take (k + 1):=by
 rw [List.take_add_one,List.take_add_one,hx,hy,h,e]
theorem getN {α:Type} {l:List α} {k:Nat} (h:k < l.length) : ∃ x,l[k]? = some x:=⟨_,List.getElem?_eq_getElem h⟩
theorem get_ne {α:Type} {l m:List α} {k:Nat} {x y:α} (hx:l[k]? = some x) (hy:m[k]? = some y) (h:x ≠ y):l ≠ m:=fun e=>by
 subst e
 rw [hx] at hy
 exact h (Option.some.inj hy)
theorem same01_ok (a:Option Addr) (n c:Nat) (la:List UInt8) (b:Option Addr) (m d:Nat) (lb:List UInt8) (Sa Sb:HP) (hA:RdL Sa a n (la.map u8v)) (hB:RdL Sb b m (lb.map u8v)) (hla:la.length=n) (hlb:lb.length=m) (hn:n ≤ 140737488355328) :
  Tri Tryz.prog 30 #[.slice a n c,.slice b m d] (HP.sep Sa Sb) (fun v=>HP.and (v = .bool (decide (la=lb))) (HP.sep Sa Sb)):=by
 refine Tri.fact (φ:=(n ≠ 0 → a.isSome=true) ∧ (m ≠ 0 → b.isSome=true)) (fun R h H=>⟨hA.isSome (HP.sep_left H),hB.isSome (HP.sep_right H)⟩) fun ⟨ha,hb⟩ => ?_
 refine tri_of_tree (ρ:=[.a a,.n n,.n c,.p Sa,.a b,.n m,.n d,.p Sb]) mixed Tryz.func30 tree_same01 ?_
 unfold t_same01
 simp only [T.den,E.prop,E.den,RX.look,F1.app,F2.app,Uni.int_i,Uni.nat_n,Uni.bool_c,Uni.str_s,Uni.adr_a,Uni.val_v,Uni.hp_p,hden,cden,V.den,W.den,A.den,BR.den,SA.den,FV.den,capV,exs,exP,allP,Cur.app,List.map_cons,List.map_nil,List.cons_append,List.nil_append,List.drop_succ_cons,List.drop_zero,List.length_cons,List.length_nil,Nat.zero_add,Nat.reduceAdd,Int.neg_neg,Bool.not_not,List.append_nil,Nat.add_zero,List.getElem?_cons_zero,List.getElem?_cons_succ,Decidable.not_not,semW_eq,semW_load,ne_eq,Nat.reduceEqDiff,not_false_eq_true]
 refine ⟨fun h => .of fun R h' H=>⟨?_,H⟩,fun h => ?_⟩
 ·rw [decide_eq_false]
  intro e; subst e; omega
 have hnm:n=m:=by omega
 subst hnm
 refine ⟨fun _ i => ∃ k:Nat,i=k ∧ k ≤ n ∧ la.take k=lb.take k,fun _ i=>n - i.toNat,⟨0,rfl,Nat.zero_le _,rfl⟩,?_⟩
 rintro x _ ⟨k,rfl,hk,hpre⟩
 refine ⟨fun hlt=>⟨by omega,fun _=>⟨ha (by omega),fun _ => ?_⟩⟩,fun hge => .of fun R h' H=>⟨?_,H⟩⟩
 ·obtain ⟨x,hx⟩:=getN (l:=la) (k:=k) (by omega)
  obtain ⟨y,hy⟩:=getN (l:=lb) (k:=k) (by omega)
  have ra:=load1_ok und8b agg8 sz8 hA.rd (k:=(k:Int).toNat * 1) (off:=0) (v:=u8v x) (by rw [Int.toNat_natCast,Nat.mul_one,Nat.add_zero,List.getElem?_map,hx]; rfl)
  have rb:=load1_ok und8b agg8 sz8 hB.rd (k:=(k:Int).toNat * 1) (off:=0) (v:=u8v y) (by rw [Int.toNat_natCast,Nat.mul_one,Nat.add_zero,List.getElem?_map,hy]; rfl)
  refine ⟨_,ra,by omega,fun _=>⟨hb (by omega),fun _=>⟨_,rb,fun h1 => .of fun R h' H=>⟨by rw [decide_eq_false (get_ne hx hy fun e=>h1 (by rw [e]))],H⟩,fun h1=>⟨inI64' _ (by omega) (by omega),fun _=>⟨⟨k + 1,by omega,by omega,take_eq hx hy hpre (UInt8.toNat_inj.1 (by omega))⟩,by dsimp only; omega⟩⟩⟩⟩⟩
 ·have hke:k=n:=by omega
  subst hke
  rw [List.take_of_length_le (by omega),List.take_of_length_le (by omega)] at hpre
  rw [decide_eq_true hpre]
theorem strB {x y:List UInt8}:((⟨x.toArray⟩:ByteArray).toList == (⟨y.toArray⟩:ByteArray).toList)=decide (x=y):=by
 rw [ByteArray.toList_eq,ByteArray.toList_eq]
 by_cases e:x=y
 ·subst e; simp
 ·simp [e]
theorem run_ent_eq {w:World} (r r':Nm) (q q':Int):(Op.equal 140 (.agg #[sE r,.int .i64 q]) (.agg #[sE r',.int .i64 q'])).run Tryz.prog w = .ok (decide (r=r') && decide (q=q')) w:=by
 have hs:Tryz.prog.stoodInHeld 140=false:=by kernel_rfl
 have hi:Tryz.prog.underlying 3=some (.int .i64):=by kernel_rfl
 have ht:Tryz.prog.underlying 9=some .string:=by kernel_rfl
 have e2 : ∀ n,(Op.equalIn (n + 2) 140 (.agg #[sE r,.int .i64 q]) (.agg #[sE r',.int .i64 q'])).run Tryz.prog w = .ok (decide (r=r') && decide (q=q')) w:=fun n=>by
  rw [Op.equalIn]
  simp only [Sem.run_bind,RX.run_underlying Tryz.underlying140,Result.andThen_ok]
  simp [program,Sem.run,hs,Result.andThen]
  have pt : ∀ (cs:Array Value) (off:Nat) (v:Value),cs[off]? = some v → (part 9 cs off).run Tryz.prog w = .ok v w:=fun cs off v h=>by
   have ha:aggT Tryz.prog 9=false:=by kernel_rfl
   simp only [part,Sem.run_bind,RX.run_isAgg ht,Result.andThen_ok,ha,Bool.false_eq_true,if_false,h]
   rfl
  have pi : ∀ (cs:Array Value) (off:Nat) (v:Value),cs[off]? = some v → (part 3 cs off).run Tryz.prog w = .ok v w:=fun cs off v h=>by
   have ha:aggT Tryz.prog 3=false:=by kernel_rfl
   simp only [part,Sem.run_bind,RX.run_isAgg hi,Result.andThen_ok,ha,Bool.false_eq_true,if_false,h]
   rfl
  have p0 : ∀ (a:Nm) (b:Int),Sem.run Tryz.prog (part 9 #[sE a,Value.int IntKind.i64 b] 0) w = .ok (sE a) w:=fun a b=>pt _ _ _ rfl
  have p1 : ∀ (a:Nm) (b:Int),Sem.run Tryz.prog (part 3 #[sE a,Value.int IntKind.i64 b] 1) w = .ok (.int .i64 b) w:=fun a b=>pi _ _ _ rfl
  have eqi : ∀ (n:Nat) (a b:Int),(Op.equalIn (n + 1) 3 (.int .i64 a) (.int .i64 b)).run Tryz.prog w = .ok (decide (a=b)) w:=fun n a b=>by
   simp only [Op.equalIn,Sem.run_bind,RX.run_underlying hi,Result.andThen_ok,if_true,Sem.run_pure]
   rfl
  have eqs : ∀ (n:Nat) (a b:Nm),(Op.equalIn (n + 1) 9 (sE a) (sE b)).run Tryz.prog w = .ok (decide (a=b)) w:=fun n a b=>by
   show (Op.equalIn (n + 1) 9 (.string _) (.string _)).run Tryz.prog w=_
   rw [run_equalIn_string w n 9 _ _ ht,strB]
  simp only [p0,eqs]
  by_cases h1:r=r'
  ·simp [h1,Sem.run_bind,p1,eqi]
   by_cases h2:q=q'
   ·simp [h2]
   ·simp [h2]
  ·simp [h1]
 exact e2 9998
theorem neqEnt {i j:Nat} {ty u:TypeId} (h:i ≠ j) {r r':Nm} {q q':Int} {A:HP} :
  ORead Tryz.prog (semW (.binOp .neq 140 (.tmp i) (.tmp j) u) ty [(i,.agg #[sE r,.int .i64 q]),(j,.agg #[sE r',.int .i64 q'])]) A (.bool (!(decide (r=r') && decide (q=q')))):=fun w R hh F s _=>by
 have h':(i == j)=false:=by simpa using h
 have hg:Tryz.prog.eqGuardType Tryz.prog.depth 140=false:=by kernel_rfl
 simp only [semW,execOp,arW,List.find?_cons,beq_self_eq_true,h']
 simp [eqGuard,binOp,hg,program,Sem.run_bind,Sem.run,Result.andThen,run_ent_eq]
instance instNd:DecidableEq Nd:=fun r s=>decidable_of_iff (r.num=s.num ∧ r.kind=s.kind ∧ r.links=s.links ∧ r.data=s.data ∧ r.ents=s.ents) ⟨fun ⟨h1,h2,h3,h4,h5⟩=>by cases r; cases s; simp only at h1 h2 h3 h4 h5; subst h1 h2 h3 h4 h5; rfl,fun h=>by subst h; exact ⟨rfl,rfl,rfl,rfl,rfl⟩⟩
theorem nodesData {a:Option Addr} {n:Nat} {es:List NodeE} {x:NodeE} (hx:x ∈ es):RdL (Ls kNode a n es) x.da x.nd.data.length (x.nd.data.map u8v) :=
 ⟨Rd.impR (RdL.ro 1 x.da x.nd.data.length (x.nd.data.map u8v)).rd fun R h H=>(H.2.2 x hx).1,fun R h H e=>(RdL.ro 1 x.da x.nd.data.length (x.nd.data.map u8v)).none R h (H.2.2 x hx).1 e⟩
theorem undEnt : ∃ d,Tryz.prog.underlying 140=some d:=Option.isSome_iff_exists.1 (by kernel_rfl)
theorem aggEnt:aggT Tryz.prog 140=true:=by kernel_rfl
theorem szEnt:szT Tryz.prog 140=2:=by kernel_rfl
theorem loadEnt {a:Option Addr} {n:Nat} {es:List NodeE} {x:NodeE} (hx:x ∈ es) {k:Nat} {e:Nm × Nat} (hk:x.nd.ents[k]? = some e):ORead Tryz.prog (loadS 140 (.pointer (x.ea.map fun y=>(y.add (k * 2)).add 0))) (Ls kNode a n es) (.agg #[sE e.1,.int .i64 e.2]):=by
 obtain ⟨d,hd⟩:=undEnt
 exact ORead.ent (.of fun R h H=>(H.2.2 x hx).2) (Ls.load (K:=kEnt) hd aggEnt szEnt hk)
theorem nodesEa {a:Option Addr} {n:Nat} {es:List NodeE} {R h:PH} (H:(Ls kNode a n es).p R h) : ∀ x ∈ es,x.nd.ents.length ≠ 0 → x.ea.isSome=true:=fun x hx hn=>Ls.some (H.2.2 x hx).2 hn
set_option maxHeartbeats 1000000 in
theorem sameNodes_ok (a:Option Addr) (n c:Nat) (es:List NodeE) (b:Option Addr) (m d:Nat) (fs:List NodeE) (hb : ∀ x ∈ es,x.nd.data.length ≤ 140737488355328 ∧ x.nd.ents.length ≤ 140737488355328) (hn:n ≤ 140737488355328) :
  Tri Tryz.prog 20 #[.slice a n c,.slice b m d] (HP.sep (Ls kNode a n es) (Ls kNode b m fs)) (fun v=>HP.and (v = .bool (decide (es.map (·.nd)=fs.map (·.nd)))) (HP.sep (Ls kNode a n es) (Ls kNode b m fs))):=by
 refine Tri.fact (φ:=(es.length=n ∧ fs.length=m) ∧ ((n ≠ 0 → a.isSome=true) ∧ (m ≠ 0 → b.isSome=true)) ∧ (∀ x ∈ es,x.nd.ents.length ≠ 0 → x.ea.isSome=true) ∧ (∀ x ∈ fs,x.nd.ents.length ≠ 0 → x.ea.isSome=true)) (fun R h H=>⟨⟨(HP.sep_left H).1,(HP.sep_right H).1⟩,⟨fun h=>Ls.some (HP.sep_left H) h,fun h=>Ls.some (HP.sep_right H) h⟩,nodesEa (HP.sep_left H),nodesEa (HP.sep_right H)⟩) fun ⟨⟨hl,hm⟩,⟨ha,hb'⟩,hea,heb⟩ => ?_
 refine tri_of_tree (ρ:=[.a a,.n n,.n c,.p (Ls kNode a n es),.a b,.n m,.n d,.p (Ls kNode b m fs)]) mixed Tryz.func20 tree_sameNodes ?_
 unfold t_sameNodes
 simp only [T.den,E.prop,E.den,RX.look,F1.app,F2.app,Uni.int_i,Uni.nat_n,Uni.bool_c,Uni.str_s,Uni.adr_a,Uni.val_v,Uni.hp_p,hden,cden,V.den,W.den,A.den,BR.den,SA.den,FV.den,capV,exs,exP,allP,Cur.app,List.map_cons,List.map_nil,List.cons_append,List.nil_append,List.drop_succ_cons,List.drop_zero,List.length_cons,List.length_nil,Nat.zero_add,Nat.reduceAdd,Int.neg_neg,Bool.not_not,List.append_nil,Nat.add_zero,List.getElem?_cons_zero,List.getElem?_cons_succ,Decidable.not_not,semW_eq,semW_load,ne_eq,Nat.reduceEqDiff,not_false_eq_true]
 have no:es.map (·.nd) ≠ fs.map (·.nd) → HP.ent (HP.sep (Ls kNode a n es) (Ls kNode b m fs)) (HP.and (Value.bool false = .bool (decide (es.map (·.nd)=fs.map (·.nd)))) (HP.sep (Ls kNode a n es) (Ls kNode b m fs))):=fun h => .of fun R h' H=>⟨by rw [decide_eq_false h],H⟩
 refine ⟨fun h=>no fun e => ?_,fun h => ?_⟩
 ·have:=congrArg List.length e
  simp only [List.length_map] at this
  omega
 have hnm:n=m:=by omega
 refine ⟨fun _ i => ∃ k:Nat,i=k ∧ k ≤ n ∧ (es.map (·.nd)).take k=(fs.map (·.nd)).take k,fun _ i=>n - i.toNat,⟨0,rfl,Nat.zero_le _,rfl⟩,?_⟩
 rintro x0 _ ⟨k,rfl,hk,hpre⟩
 refine ⟨fun hlt => ?_,fun hge => .of fun R h' H=>⟨?_,H⟩⟩
 ·obtain ⟨x,hx⟩:=getN (l:=es) (k:=k) (by omega)
  obtain ⟨y,hy⟩:=getN (l:=fs) (k:=k) (by omega)
  have hxm:=List.mem_of_getElem? hx
  have hym:=List.mem_of_getElem? hy
  have hx':(es.map (·.nd))[k]? = some x.nd:=by rw [List.getElem?_map,hx]; rfl
  have hy':(fs.map (·.nd))[k]? = some y.nd:=by rw [List.getElem?_map,hy]; rfl
  have hxb:=hb x hxm
  refine ⟨fun _ _ n2 k2 l2 da2 dl2 dc2 ea2 el2 ec2 n1 k1 l1 da1 dl1 dc1 ea1 el1 ec1=>n2=y.nd.num ∧ k2=y.nd.kind ∧ l2=y.nd.links ∧ da2=y.da ∧ dl2=y.nd.data.length ∧ dc2=y.dc ∧ ea2=y.ea ∧ el2=y.nd.ents.length ∧ ec2=y.ec ∧ n1=x.nd.num ∧ k1=x.nd.kind ∧ l1=x.nd.links ∧ da1=x.da ∧ dl1=x.nd.data.length ∧ dc1=x.dc ∧ ea1=x.ea ∧ el1=x.nd.ents.length ∧ ec1=x.ec,?_,?_⟩
  ·refine ⟨by omega,fun _=>⟨ha (by omega),fun _=>⟨x.nd.num,x.nd.kind,x.nd.links,x.da,x.nd.data.length,x.dc,x.ea,x.nd.ents.length,x.ec,loadNode hx,by omega,fun _=>⟨hb' (by omega),fun _=>⟨y.nd.num,y.nd.kind,y.nd.links,y.da,y.nd.data.length,y.dc,y.ea,y.nd.ents.length,y.ec,loadNode hy,?_⟩⟩⟩⟩⟩
   exact ⟨fun _ _=>⟨rfl,rfl,rfl,rfl,rfl,rfl,rfl,rfl,rfl,rfl,rfl,rfl,rfl,rfl,rfl,rfl,rfl,rfl⟩,fun _ _=>⟨rfl,rfl,rfl,rfl,rfl,rfl,rfl,rfl,rfl,rfl,rfl,rfl,rfl,rfl,rfl,rfl,rfl,rfl⟩⟩
  rintro _ _ _ _ _ _ _ _ _ _ _ _ _ _ _ _ _ _ _ _ ⟨rfl,rfl,rfl,rfl,rfl,rfl,rfl,rfl,rfl,rfl,rfl,rfl,rfl,rfl,rfl,rfl,rfl,rfl⟩
  have dif:x.nd ≠ y.nd → es.map (·.nd) ≠ fs.map (·.nd):=get_ne hx' hy'
  refine ⟨fun h=>no (dif fun e=>h (by rw [e])),fun e1=>⟨fun h=>no (dif fun e=>h (by rw [e])),fun e2=>⟨fun h=>no (dif fun e=>h (by rw [e])),fun e3 => ?_⟩⟩⟩
  refine (same01_ok x.da _ x.dc x.nd.data y.da _ y.dc y.nd.data (Ls kNode a n es) (Ls kNode b m fs) (nodesData hxm) (nodesData hym) rfl rfl hxb.1).weak (fun _ _ h=>h) ?_
  rintro v R h ⟨rfl,H⟩
  refine ⟨_,rfl,⟨fun h=>no (dif fun e=>h (by rw [e]; simp)),fun e4=>⟨fun h=>no (dif fun e=>h (by rw [e])),fun e5 => ?_⟩⟩,H⟩
  have e4':=of_decide_eq_true e4
  clear H
  refine ⟨fun _ i => ∃ j:Nat,i=j ∧ j ≤ x.nd.ents.length ∧ x.nd.ents.take j=y.nd.ents.take j,fun _ i=>x.nd.ents.length - i.toNat,⟨0,rfl,Nat.zero_le _,rfl⟩,?_⟩
  rintro x1 _ ⟨j,rfl,hj,hpre2⟩
  refine ⟨fun hlt2=>⟨by omega,fun _=>⟨hea x hxm (by omega),fun _ => ?_⟩⟩,fun hge2 => ?_⟩
  ·obtain ⟨p,hp⟩:=getN (l:=x.nd.ents) (k:=j) (by omega)
   obtain ⟨q,hq⟩:=getN (l:=y.nd.ents) (k:=j) (by omega)
   refine ⟨p.1,p.2,loadEnt hxm hp,by omega,fun _=>⟨heb y hym (by omega),fun _=>⟨q.1,q.2,loadEnt hym hq,_,neqEnt (by decide),fun h=>no (dif fun e => ?_),fun h=>⟨inI64' _ (by omega) (by omega),fun _=>⟨⟨j + 1,by omega,by omega,take_eq hp hq hpre2 ?_⟩,by dsimp only; omega⟩⟩⟩⟩⟩
   ·have:p=q:=by rw [e] at hp; rw [hp] at hq; exact Option.some.inj hq
    subst this
    simp at h
   ·simp at h
    exact Prod.ext h.1 (by have:=h.2; omega)
  ·have e6:x.nd.ents=y.nd.ents:=by
    rw [List.take_of_length_le (by omega),List.take_of_length_le (by omega)] at hpre2
    exact hpre2
   have e7:x.nd=y.nd:=by
    obtain ⟨⟨a1,a2,a3,a4,a5⟩,_,_,_,_⟩:=x
    obtain ⟨⟨b1,b2,b3,b4,b5⟩,_,_,_,_⟩:=y
    simp only at e1 e2 e3 e4' e6 ⊢
    have:a1=b1:=by omega
    subst this e2 e3 e4' e6
    rfl
   exact ⟨inI64' _ (by omega) (by omega),fun _=>⟨⟨k + 1,by omega,by omega,take_eq hx' hy' hpre e7⟩,by dsimp only; omega⟩⟩
 ·have hke:k=n:=by omega
  subst hke
  rw [List.take_of_length_le (by simp; omega),List.take_of_length_le (by simp; omega)] at hpre
  rw [decide_eq_true hpre]
end Go.Proofs.YtdieogcemmnaaaaGreatDoor

namespace Go.Proofs.YtdieogcemmnaaaaGreatDoor
open Go.Proofs.YtdieogcemmnaaaaGreatDoor RX
set_option maxRecDepth 100000
def bare (n:Nd):Nd:={ n with links:=0 }
end Go.Proofs.YtdieogcemmnaaaaGreatDoor

namespace Go.Proofs.YtdieogcemmnaaaaGreatDoor
open Go.Proofs.YtdieogcemmnaaaaGreatDoor RX
set_option maxRecDepth 100000
end Go.Proofs.YtdieogcemmnaaaaGreatDoor

namespace Go.Proofs.YtdieogcemmnaaaaGreatDoor
open Go.Proofs.YtdieogcemmnaaaaGreatDoor RX
set_option maxRecDepth 100000
theorem esBN {B:Nat} (hB:B ≤ 100000) {T:List Nd} (wf:TWf B T) {es:List NodeE} (he:es.map (·.nd)=T) : ∀ x ∈ es,x.nd.data.length ≤ 140737488355328 ∧ x.nd.ents.length ≤ 140737488355328:=fun x hx=>by
 have hm:x.nd ∈ T:=by rw [← he]; exact List.mem_map.2 ⟨x,hx,rfl⟩
 have:=wf.good _ hm
 have:=this.data
 have:=(wf.good _ hm).efew
 omega
end Go.Proofs.YtdieogcemmnaaaaGreatDoor

namespace Go.Proofs.YtdieogcemmnaaaaGreatDoor.RX
set_option maxRecDepth 100000
-- tideline/tidelinelaw16.speaks: ρ:=[]
end Go.Proofs.YtdieogcemmnaaaaGreatDoor.RX

namespace Go.Proofs.YtdieogcemmnaaaaGreatDoor
set_option linter.unusedSimpArgs false
set_option linter.unusedVariables false
open Go.Proofs.YtdieogcemmnaaaaGreatDoor RX
set_option maxRecDepth 100000
end Go.Proofs.YtdieogcemmnaaaaGreatDoor

namespace Go.Proofs.YtdieogcemmnaaaaGreatDoor
set_option linter.unusedSimpArgs false
set_option linter.unusedVariables false
open Go.Proofs.YtdieogcemmnaaaaGreatDoor RX
set_option maxRecDepth 100000
structure CellE where
 what:Int
 data:List UInt8
 da:Option Addr
 dc:Nat
instance:Inhabited CellE:=⟨⟨0,[],none,0⟩⟩
def cellVs (x:CellE):List Value:=[.int .i64 x.what,.slice x.da x.data.length x.dc]
def cellHp (x:CellE):HP:=HP.and (x.data.length ≤ x.dc ∧ (x.data.length ≠ 0 → x.da.isSome=true)) (RoB x.da x.data.length x.data)
theorem cellHp_pers (x:CellE) (R h h':PH) (H:(cellHp x).p R h):(cellHp x).p R h':=⟨H.1,H.2⟩
def kCellP:PK CellE where
 e:=68
 n:=2
 pos:=by decide
 vals:=cellVs
 len _:=rfl
 one x u hu:=by
  simp only [cellVs,List.mem_cons,List.not_mem_nil,or_false] at hu
  rcases hu with rfl | rfl <;> rfl
 rep:=cellHp
theorem infoCe:(Tryz.prog.info? 68).map (fun i=>(i.zero.map (·.cells.size),i.size,i.bytes))=some (some 2,2,32):=by kernel_rfl
theorem undCs:Tryz.prog.underlying 79=some (.slice 68):=by kernel_rfl
theorem PL.appK {α:Type} {K:PK α} (t ty:TypeId) {i:TypeInfo} {z:Value} (ht:Tryz.prog.underlying t=some (.slice K.e)) (hi:Tryz.prog.info? K.e=some i) (hz:i.zero=some z) (hzs:z.cells.size=i.size) (hs:i.size=K.n) (hby:i.bytes ≤ 1000)
  (a:Option Addr) (n c:Nat) (l:List α) (b:Nat) (x:α) (Q:HP) (hb:n ≤ 1000000000) :
  OTri Tryz.prog (appS t ty (.slice a n c) (.slice (some ⟨b,0,none⟩) 1 1)) (HP.sep (PL K a n c l) (HP.sep (HP.one b (.cells (K.vals x).toArray K.e (0,0))) (HP.sep (K.rep x) Q)))
   (fun v=>HP.ex fun a'=>HP.ex fun c'=>HP.and (v = .slice a' (n + 1) c') (HP.sep (PL K a' (n + 1) c' (l ++ [x])) (HP.sep (HP.one b (.cells (K.vals x).toArray K.e (0,0))) Q))):=by
 have hr:=one_rd b (K.vals x).toArray K.e
 have hbn:(n + 1) * i.bytes ≤ 140737488355328:=by
  have:=Nat.mul_le_mul (show n + 1 ≤ 1000000001 by omega) hby
  omega
 have:=append_ok t ty K.e i z ht hi hz hzs (by rw [hs]; exact K.pos) a n c (l.flatMap K.vals) (HP.one b (.cells (K.vals x).toArray K.e (0,0))) ⟨b,0,none⟩ 1 1 (K.vals x) (by simpa using hr) (by rw [K.len,hs,Nat.one_mul]) (K.one x) (by unfold maxLen; omega) hbn
 rw [hs] at this
 refine OTri.fact (φ:=l.length=n) (fun R h H=>(HP.sep_left H).1) fun hl => ?_
 refine (this.frame (HP.sep (sepN (l.map K.rep)) (HP.sep (K.rep x) Q))).weak (fun R h H => ?_) ?_
 ·have H1:=HP.sep_assoc (HP.sep_mono H (fun _ h=>h.2) fun _ h=>h)
  exact HP.sep_assoc' (HP.pick [_,_,_,_,_] [0,2,1,3,4] (by decide) rfl H1)
 ·rintro v R h ⟨h1,h2,d,l1,l2,⟨a',c',rfl,H⟩,HU⟩
  refine ⟨a',c',rfl,?_⟩
  have H1:=HP.sep_assoc ⟨h1,h2,d,l1,l2,H,HU⟩
  have H2:(HP.sep (OwC K.e K.n a' (n + 1) c' (l.flatMap K.vals ++ K.vals x)) (HP.sep (sepN (l.map K.rep)) (HP.sep (K.rep x) (HP.sep (HP.one b (.cells (K.vals x).toArray K.e (0,0))) Q)))).p R h:=HP.pick [_,_,_,_,_] [0,2,3,1,4] (by decide) rfl H1
  have e:(l ++ [x]).map K.rep=l.map K.rep ++ [K.rep x]:=by simp
  have H3:(HP.sep (OwC K.e K.n a' (n + 1) c' (l.flatMap K.vals ++ K.vals x)) (HP.sep (sepN ((l ++ [x]).map K.rep)) (HP.sep (HP.one b (.cells (K.vals x).toArray K.e (0,0))) Q))).p R h:=HP.sep_mono H2 (fun _ h=>h) fun y hy=>by
   have:=HP.sep_assoc' hy
   rw [e]
   exact HP.sep_mono this (fun z hz=>(sepN_app (l:=l.map K.rep) (m:=[K.rep x])).2 hz) fun _ h=>h
  have H4:=HP.sep_assoc' H3
  refine HP.sep_mono H4 (fun y hy=>⟨by simp [hl],?_⟩) fun _ h=>h
  have e2:(l ++ [x]).flatMap K.vals=l.flatMap K.vals ++ K.vals x:=by simp
  rw [e2]
  exact hy
theorem aggCe:aggT Tryz.prog 68=true:=by kernel_rfl
theorem szCe:szT Tryz.prog 68=2:=by kernel_rfl
theorem undCe : ∃ d,Tryz.prog.underlying 68=some d:=Option.isSome_iff_exists.1 (by kernel_rfl)
theorem ldCellP {a:Option Addr} {n c k:Nat} {es:List CellE} {x:CellE} (hk:es[k]? = some x):ORead Tryz.prog (loadS 68 (.pointer (a.map fun y=>(y.add (k * 2)).add 0))) (PL kCellP a n c es) (.agg #[.int .i64 x.what,.slice x.da x.data.length x.dc]):=by
 obtain ⟨d,hd⟩:=undCe
 refine loadN_ok (vs:=cellVs x) hd aggCe (PL.rd (K:=kCellP) a n c es) (k:=k * 2) (off:=0) szCe (Nat.succ_pos 1) fun j v hj => ?_
 have hlt:j < 2:=(List.getElem?_eq_some_iff.1 hj).1
 rw [Nat.add_zero]
 refine (flat_getL cellVs 2 (fun _=>rfl) es k j x hk hlt).trans ?_
 exact hj
theorem cellAt {a:Option Addr} {n c:Nat} {es:List CellE} {x:CellE} (hx:x ∈ es) {R h:PH} (H:(PL kCellP a n c es).p R h):(cellHp x).p R h:=sepN_mem (List.mem_map.2 ⟨x,hx,rfl⟩) (HP.sep_right H.2)
end Go.Proofs.YtdieogcemmnaaaaGreatDoor

namespace Go.Proofs.YtdieogcemmnaaaaGreatDoor.RX
set_option maxRecDepth 100000
-- (*tideline/tidelineref01.Reader).Number: ρ:=[.n r,.a r_Ba,.n r_Bl,.n r_Bc,.p r_BP,.i r_At,.c r_Wrong,.i n]
end Go.Proofs.YtdieogcemmnaaaaGreatDoor.RX

namespace Go.Proofs.YtdieogcemmnaaaaGreatDoor
set_option linter.unusedSimpArgs false
set_option linter.unusedVariables false
open Go.Proofs.YtdieogcemmnaaaaGreatDoor RX
set_option maxRecDepth 100000
end Go.Proofs.YtdieogcemmnaaaaGreatDoor

namespace Go.Proofs.YtdieogcemmnaaaaGreatDoor.RX
set_option maxRecDepth 100000
-- tideline/judge.beganOf: ρ:=[.i id_Client,.i id_Birth,.i id_Number,.i c_Kind,.s c_Path,.s c_Other,.i c_Off,.i c_N,.a c_Dataa,.n c_Datal,.n c_Datac,.p c_DataP]
def t_jBeganOf:T :=
(.new
(.new
(.new
(.read (.convert 28 9 (.tmp 17)) 9 [(17,.w (.a (.sl (.v 8) (.v 9) (.v 10))))] [(.a 8,.prop 11)] [.s] (.w (.a (.str (.v 15))))
(.ret (.w (.agg [.int .i64 (.v 0),.int .i64 (.v 1),.int .i64 (.v 2),.int .i64 (.v 3),.int .i64 (.v 6),.int .i64 (.v 7),.str (.v 4),.str (.v 5),.str (.v 15)])) [(.a 8,.prop 11)])))))
theorem tree_jBeganOf:tree Tryz.prog { keep:=[110,111,114,168,169,112],rdf:=true } Tryz.f110 [.agg [.int .i64 (.v 0),.int .i64 (.v 1),.int .i64 (.v 2)],.agg [.int .i64 (.v 3),.str (.v 4),.str (.v 5),.int .i64 (.v 6),.int .i64 (.v 7),.sl (.v 8) (.v 9) (.v 10)]] [(.a 8,.prop 11)] 12=t_jBeganOf:=by kernel_rfl
def t_jAnswered:T :=
(.new
(.br (.o2 .le (.i 0) (.v 13))
(.ret (.w (.a (.bool (.o1 .not (.o2 .eq (.v 14) (.i 30)))))) [(.a 8,.prop 11),(.a 18,.prop 21),(.a 22,.prop 25)])
(.ret (.w (.a (.bool (.c false)))) [(.a 8,.prop 11),(.a 18,.prop 21),(.a 22,.prop 25)])))
theorem tree_jAnswered:tree Tryz.prog { keep:=[110,111,114,168,169,112],rdf:=true } Tryz.f111 [.agg [.int .i64 (.v 0),.int .i64 (.v 1),.int .i64 (.v 2),.int .i64 (.v 3),.str (.v 4),.str (.v 5),.int .i64 (.v 6),.int .i64 (.v 7),.sl (.v 8) (.v 9) (.v 10),.int .i64 (.v 12),.int .i64 (.v 13),.int .i64 (.v 14),.int .i64 (.v 15),.int .i64 (.v 16),.int .i64 (.v 17),.sl (.v 18) (.v 19) (.v 20),.sl (.v 22) (.v 23) (.v 24)]] [(.a 8,.prop 11),(.a 18,.prop 21),(.a 22,.prop 25)] 26=t_jAnswered:=by kernel_rfl
def t_jSame:T :=
(.new
(.new
(.br (.o2 .eq (.v 0) (.v 12))
(.br (.o2 .eq (.v 1) (.v 13))
(.br (.o2 .eq (.v 2) (.v 14))
(.br (.o2 .eq (.v 3) (.v 15))
(.call 168 [.a (.sl (.v 4) (.v 5) (.v 6)),.a (.sl (.v 16) (.v 17) (.v 18))] [(.a 4,.prop 7),(.a 16,.prop 19)] [.c] (.w (.a (.bool (.v 26)))) [(.a 4,.prop 7),(.a 16,.prop 19)]
(.br (.v 26)
(.call 169 [.a (.sl (.v 8) (.v 9) (.v 10)),.a (.sl (.v 20) (.v 21) (.v 22))] [(.a 8,.prop 11),(.a 20,.prop 23)] [.c] (.w (.a (.bool (.v 27)))) [(.a 8,.prop 11),(.a 20,.prop 23)]
(.ret (.w (.a (.bool (.v 27)))) [(.a 4,.prop 7),(.a 8,.prop 11),(.a 16,.prop 19),(.a 20,.prop 23)]))
(.ret (.w (.a (.bool (.c false)))) [(.a 4,.prop 7),(.a 8,.prop 11),(.a 16,.prop 19),(.a 20,.prop 23)])))
(.ret (.w (.a (.bool (.c false)))) [(.a 4,.prop 7),(.a 8,.prop 11),(.a 16,.prop 19),(.a 20,.prop 23)]))
(.ret (.w (.a (.bool (.c false)))) [(.a 4,.prop 7),(.a 8,.prop 11),(.a 16,.prop 19),(.a 20,.prop 23)]))
(.ret (.w (.a (.bool (.c false)))) [(.a 4,.prop 7),(.a 8,.prop 11),(.a 16,.prop 19),(.a 20,.prop 23)]))
(.ret (.w (.a (.bool (.c false)))) [(.a 4,.prop 7),(.a 8,.prop 11),(.a 16,.prop 19),(.a 20,.prop 23)]))))
theorem tree_jSame:tree Tryz.prog { keep:=[110,111,114,168,169,112],rdf:=true } Tryz.f114 [.agg [.int .i64 (.v 0),.int .i64 (.v 1),.int .i64 (.v 2),.int .i64 (.v 3),.sl (.v 4) (.v 5) (.v 6),.sl (.v 8) (.v 9) (.v 10)],.agg [.int .i64 (.v 12),.int .i64 (.v 13),.int .i64 (.v 14),.int .i64 (.v 15),.sl (.v 16) (.v 17) (.v 18),.sl (.v 20) (.v 21) (.v 22)]] [(.a 4,.prop 7),(.a 8,.prop 11),(.a 16,.prop 19),(.a 20,.prop 23)] 24=t_jSame:=by kernel_rfl
def t_jCalls:T :=
(.new
(.ret (.w (.a (.func 167 [(.v 4,0)]))) [(.a 0,.prop 3),(.b (.v 4),.cells [.sl (.v 0) (.v 1) (.v 2)] 79)]))
theorem tree_jCalls:tree Tryz.prog { keep:=[110,111,114,168,169,112],rdf:=true } Tryz.f112 [.a (.sl (.v 0) (.v 1) (.v 2))] [(.a 0,.prop 3)] 4=t_jCalls:=by kernel_rfl
def t_jCalls1:T :=
(.loop [.i,.p] [.e (.o1 .neg (.o1 .neg (.i 0))),.p [(.a 0,.prop 1)]]
(.br (.o2 .lt (.v 7) (.o1 .ofNat (.v 4)))
(.need (.o2 .le (.i 0) (.v 7))
(.need (.o1 .isSome (.v 3))
(.read (.load 68 (.tmp 12)) 68 [(12,.w (.a (.eptr 3 (.v 7) 2 0)))] [(.a 3,.prop 6)] [.i,.a,.n,.n] (.w (.agg [.int .i64 (.v 9),.sl (.v 10) (.v 11) (.v 12)]))
(.new
(.br (.o1 .not (.o2 .eq (.v 9) (.i 1)))
(.need (.o1 (.inr .i64) (.o2 .add (.v 7) (.i 1)))
(.again 0 [.e (.o1 .neg (.o1 .neg (.o2 .add (.v 7) (.i 1)))),.p [(.a 0,.prop 8)]]))
(.call 98 [.a (.sl (.v 10) (.v 11) (.v 12))] [(.a 3,.prop 6)] [.i,.i,.i,.i,.i,.i,.a,.n,.n,.p,.i] (.tup [.agg [.int .i64 (.v 14),.int .i64 (.v 15),.int .i64 (.v 16),.int .i64 (.v 17),.int .i64 (.v 18),.int .i64 (.v 19),.sl (.v 20) (.v 21) (.v 22)],.a (.int .i64 (.v 24))]) [(.a 20,.prop 23),(.a 3,.prop 6)]
(.new
(.br (.o1 .not (.o2 .eq (.v 24) (.i 0)))
(.need (.o1 (.inr .i64) (.o2 .add (.v 7) (.i 1)))
(.again 0 [.e (.o1 .neg (.o1 .neg (.o2 .add (.v 7) (.i 1)))),.p [(.a 0,.prop 8)]]))
(.br (.o1 .not (.o2 .eq (.v 14) (.i 1)))
(.need (.o1 (.inr .i64) (.o2 .add (.v 7) (.i 1)))
(.again 0 [.e (.o1 .neg (.o1 .neg (.o2 .add (.v 7) (.i 1)))),.p [(.a 0,.prop 8)]]))
(.call 164 [.a (.sl (.v 20) (.v 21) (.v 22))] [(.a 20,.prop 23)] [.i,.s,.s,.i,.i,.a,.n,.n,.p,.i] (.tup [.agg [.int .i64 (.v 26),.str (.v 27),.str (.v 28),.int .i64 (.v 29),.int .i64 (.v 30),.sl (.v 31) (.v 32) (.v 33)],.a (.int .i64 (.v 35))]) [(.a 31,.prop 34),(.a 20,.prop 23)]
(.new
(.br (.o2 .eq (.v 35) (.i 0))
   (.callv 0 [.agg [.int .i64 (.v 15),.int .i64 (.v 16),.int .i64 (.v 17)],.agg [.int .i64 (.v 26),.str (.v 27),.str (.v 28),.int .i64 (.v 29),.int .i64 (.v 30),.sl (.v 31) (.v 32) (.v 33)]] [(.a 0,.prop 8),(.a 31,.prop 34)] [.c,.p] (.w (.a (.bool (.v 37)))) [(.a 0,.prop 38),(.a 31,.prop 34)]
(.br (.o1 .not (.v 37))
(.ret (.tup []) [(.a 0,.prop 38),(.b (.v 2),.cells [.sl (.v 3) (.v 4) (.v 5)] 79),(.a 3,.prop 6)])
(.need (.o1 (.inr .i64) (.o2 .add (.v 7) (.i 1)))
(.again 0 [.e (.o1 .neg (.o1 .neg (.o2 .add (.v 7) (.i 1)))),.p [(.a 0,.prop 38)]]))))
(.need (.o1 (.inr .i64) (.o2 .add (.v 7) (.i 1)))
(.again 0 [.e (.o1 .neg (.o1 .neg (.o2 .add (.v 7) (.i 1)))),.p [(.a 0,.prop 8)]]))))))))))))))
(.ret (.tup []) [(.a 0,.prop 8),(.b (.v 2),.cells [.sl (.v 3) (.v 4) (.v 5)] 79),(.a 3,.prop 6)])))
theorem tree_jCalls1:tree Tryz.prog { hv:=[(0,[.a 0])],keep:=[98,164,110,111,114,168,169,112],rdf:=true } Tryz.f167 [.a (.val 0),.a (.ptr (.v 2) 0)] [(.a 0,.prop 1),(.b (.v 2),.cells [.sl (.v 3) (.v 4) (.v 5)] 79),(.a 3,.prop 6)] 7=t_jCalls1:=by kernel_rfl
def t_jNodes:T :=
(.call 17 [] [] [.n,.p] (.w (.a (.ptr (.v 4) 0))) [(.b (.v 4),.prop 5)]
(.new
(.call 112 [.a (.sl (.v 0) (.v 1) (.v 2))] [(.a 0,.prop 3)] [.v,.p] (.w (.a (.val 7))) [(.a 7,.prop 8),(.a 0,.prop 3)]
(.new
(.rangef (.val 7) [(.a 7,.prop 8),(.a 0,.prop 3)] [] [.p] [.p [(.b (.v 4),.prop 5)]] [.i,.i,.i,.i,.s,.s,.i,.i,.a,.n,.n,.p] [.agg [.int .i64 (.v 11),.int .i64 (.v 12),.int .i64 (.v 13)],.agg [.int .i64 (.v 14),.str (.v 15),.str (.v 16),.int .i64 (.v 17),.int .i64 (.v 18),.sl (.v 19) (.v 20) (.v 21)]] [(.a 19,.prop 22)]
(.new
(.call 18 [.a (.ptr (.v 4) 0),.agg [.int .i64 (.v 14),.str (.v 15),.str (.v 16),.int .i64 (.v 17),.int .i64 (.v 18),.sl (.v 19) (.v 20) (.v 21)]] [(.b (.v 4),.prop 10),(.a 19,.prop 22)] [.i,.i,.i,.i,.a,.n,.n,.p,.a,.n,.n,.p,.p,.p] (.w (.agg [.int .i64 (.v 24),.int .i64 (.v 25),.int .i64 (.v 26),.int .i64 (.v 27),.sl (.v 28) (.v 29) (.v 30),.sl (.v 32) (.v 33) (.v 34)])) [(.a 28,.prop 31),(.a 32,.prop 35),(.b (.v 4),.prop 36),(.a 19,.prop 37)]
(.again 0 [.p [(.b (.v 4),.prop 36)]])))
(.call 19 [.a (.ptr (.v 4) 0)] [(.b (.v 4),.prop 10)] [.a,.n,.n,.p,.p] (.w (.a (.sl (.v 11) (.v 12) (.v 13)))) [(.a 11,.prop 14),(.b (.v 4),.prop 15)]
(.ret (.w (.a (.sl (.v 11) (.v 12) (.v 13)))) [(.a 0,.prop 3),(.a 11,.prop 14)])))))))
theorem tree_jNodes:tree Tryz.prog { hv:=[(0,[.b (.v 4)])],keep:=[110,111,114,168,169,112],link:=[(112,0)],pty:=[(0,[57,34])],rdf:=true } Tryz.f48 [.a (.sl (.v 0) (.v 1) (.v 2))] [(.a 0,.prop 3)] 4=t_jNodes:=by kernel_rfl
def t_jCheck1:T :=
(.new
(.call 114 [.agg [.int .i64 (.v 0),.int .i64 (.v 1),.int .i64 (.v 2),.int .i64 (.v 3),.sl (.v 4) (.v 5) (.v 6),.sl (.v 8) (.v 9) (.v 10)],.agg [.int .i64 (.v 13),.int .i64 (.v 14),.int .i64 (.v 15),.int .i64 (.v 16),.sl (.v 17) (.v 18) (.v 19),.sl (.v 21) (.v 22) (.v 23)]] [(.a 4,.prop 7),(.a 8,.prop 11),(.a 17,.prop 20),(.a 21,.prop 24)] [.c] (.w (.a (.bool (.v 26)))) [(.a 4,.prop 7),(.a 8,.prop 11),(.a 17,.prop 20),(.a 21,.prop 24)]
(.ret (.w (.a (.bool (.o1 .not (.v 26))))) [(.a 4,.prop 7),(.a 8,.prop 11),(.b (.v 12),.cells [.int .i64 (.v 13),.int .i64 (.v 14),.int .i64 (.v 15),.int .i64 (.v 16),.sl (.v 17) (.v 18) (.v 19),.sl (.v 21) (.v 22) (.v 23)] 31),(.a 17,.prop 20),(.a 21,.prop 24)])))
theorem tree_jCheck1:tree Tryz.prog { keep:=[110,111,114,168,169,112],rdf:=true } Tryz.f113 [.agg [.int .i64 (.v 0),.int .i64 (.v 1),.int .i64 (.v 2),.int .i64 (.v 3),.sl (.v 4) (.v 5) (.v 6),.sl (.v 8) (.v 9) (.v 10)],.a (.ptr (.v 12) 0)] [(.a 4,.prop 7),(.a 8,.prop 11),(.b (.v 12),.cells [.int .i64 (.v 13),.int .i64 (.v 14),.int .i64 (.v 15),.int .i64 (.v 16),.sl (.v 17) (.v 18) (.v 19),.sl (.v 21) (.v 22) (.v 23)] 31),(.a 17,.prop 20),(.a 21,.prop 24)] 25=t_jCheck1:=by kernel_rfl
def t_jLate1:T :=
(.new
(.call 111 [.agg [.int .i64 (.v 0),.int .i64 (.v 1),.int .i64 (.v 2),.int .i64 (.v 3),.str (.v 4),.str (.v 5),.int .i64 (.v 6),.int .i64 (.v 7),.sl (.v 8) (.v 9) (.v 10),.int .i64 (.v 12),.int .i64 (.v 13),.int .i64 (.v 14),.int .i64 (.v 15),.int .i64 (.v 16),.int .i64 (.v 17),.sl (.v 18) (.v 19) (.v 20),.sl (.v 22) (.v 23) (.v 24)]] [(.a 8,.prop 11),(.a 18,.prop 21),(.a 22,.prop 25)] [.c] (.w (.a (.bool (.v 27)))) [(.a 8,.prop 11),(.a 18,.prop 21),(.a 22,.prop 25)]
(.ret (.w (.a (.bool (.o1 .not (.v 27))))) [(.a 8,.prop 11),(.a 18,.prop 21),(.a 22,.prop 25)])))
theorem tree_jLate1:tree Tryz.prog { keep:=[110,111,114,168,169,112],rdf:=true } Tryz.f173 [.agg [.int .i64 (.v 0),.int .i64 (.v 1),.int .i64 (.v 2),.int .i64 (.v 3),.str (.v 4),.str (.v 5),.int .i64 (.v 6),.int .i64 (.v 7),.sl (.v 8) (.v 9) (.v 10),.int .i64 (.v 12),.int .i64 (.v 13),.int .i64 (.v 14),.int .i64 (.v 15),.int .i64 (.v 16),.int .i64 (.v 17),.sl (.v 18) (.v 19) (.v 20),.sl (.v 22) (.v 23) (.v 24)]] [(.a 8,.prop 11),(.a 18,.prop 21),(.a 22,.prop 25)] 26=t_jLate1:=by kernel_rfl
def t_jLate:T :=
(.loop [.a,.n,.n,.p,.i] [.a .nil,.e (.o2 .nadd (.n 0) (.n 0)),.e (.o2 .nadd (.n 0) (.n 0)),.p [],.e (.o1 .neg (.o1 .neg (.i 0)))]
(.br (.o2 .lt (.v 10) (.o1 .ofNat (.v 3)))
(.need (.o2 .le (.i 0) (.v 10))
(.need (.o1 .isSome (.v 2))
(.read (.load 88 (.tmp 20)) 88 [(20,.w (.a (.eptr 2 (.v 10) 17 0)))] [(.a 2,.prop 5)] [.i,.i,.i,.i,.s,.s,.i,.i,.a,.n,.n,.i,.i,.i,.i,.i,.i,.a,.n,.n,.a,.n,.n] (.w (.agg [.int .i64 (.v 11),.int .i64 (.v 12),.int .i64 (.v 13),.int .i64 (.v 14),.str (.v 15),.str (.v 16),.int .i64 (.v 17),.int .i64 (.v 18),.sl (.v 19) (.v 20) (.v 21),.int .i64 (.v 22),.int .i64 (.v 23),.int .i64 (.v 24),.int .i64 (.v 25),.int .i64 (.v 26),.int .i64 (.v 27),.sl (.v 28) (.v 29) (.v 30),.sl (.v 31) (.v 32) (.v 33)]))
(.new
(.read (.lookup 197 (.tmp 23) (.tmp 25) true) 201 [(23,.w (.a (.map (.v 0)))),(25,.w (.agg [.int .i64 (.v 11),.int .i64 (.v 12),.int .i64 (.v 13)]))] [(.b (.v 0),.prop 1)] [.i,.c] (.tup [.a (.int .i64 (.v 35)),.a (.bool (.v 36))])
(.br (.v 36)
(.new
(.op (.call ⟨.builtin .append,#[.tmp 30,.tmp 32],#[85,85]⟩) 85 [(30,.w (.a (.sl (.v 6) (.v 7) (.v 8)))),(32,.w (.a (.sl (.b (.v 37) 0) (.n 1) (.n 1))))] [(.a 6,.prop 9),(.b (.v 37),.cells [.int .i64 (.v 11),.int .i64 (.v 12),.int .i64 (.v 13),.int .i64 (.v 14),.str (.v 15),.str (.v 16),.int .i64 (.v 17),.int .i64 (.v 18),.sl (.v 19) (.v 20) (.v 21),.int .i64 (.v 22),.int .i64 (.v 23),.int .i64 (.v 24),.int .i64 (.v 25),.int .i64 (.v 26),.int .i64 (.v 27),.sl (.v 28) (.v 29) (.v 30),.sl (.v 31) (.v 32) (.v 33)] 88),(.a 2,.prop 5)] [.a,.n,.n,.p] (.w (.a (.sl (.v 38) (.v 39) (.v 40)))) [(.a 38,.prop 41),(.b (.v 37),.cells [.int .i64 (.v 11),.int .i64 (.v 12),.int .i64 (.v 13),.int .i64 (.v 14),.str (.v 15),.str (.v 16),.int .i64 (.v 17),.int .i64 (.v 18),.sl (.v 19) (.v 20) (.v 21),.int .i64 (.v 22),.int .i64 (.v 23),.int .i64 (.v 24),.int .i64 (.v 25),.int .i64 (.v 26),.int .i64 (.v 27),.sl (.v 28) (.v 29) (.v 30),.sl (.v 31) (.v 32) (.v 33)] 88),(.a 2,.prop 5)]
(.need (.o1 (.inr .i64) (.o2 .add (.v 10) (.i 1)))
(.again 0 [.a (.v 38),.e (.o2 .nadd (.v 39) (.n 0)),.e (.o2 .nadd (.v 40) (.n 0)),.p [(.a 38,.prop 41)],.e (.o1 .neg (.o1 .neg (.o2 .add (.v 10) (.i 1))))]))))
(.need (.o1 (.inr .i64) (.o2 .add (.v 10) (.i 1)))
(.again 0 [.a (.v 6),.e (.o2 .nadd (.v 7) (.n 0)),.e (.o2 .nadd (.v 8) (.n 0)),.p [(.a 6,.prop 9)],.e (.o1 .neg (.o1 .neg (.o2 .add (.v 10) (.i 1))))]))))))))
(.call 172 [.a (.sl (.v 6) (.v 7) (.v 8))] [(.a 6,.prop 9)] [.a,.n,.n,.p,.p] (.w (.a (.sl (.v 11) (.v 12) (.v 13)))) [(.a 11,.prop 14),(.a 6,.prop 15)]
(.call 171 [.a (.sl (.v 11) (.v 12) (.v 13)),.a (.func 173 [])] [(.a 11,.prop 14)] [.a,.n,.n,.p,.p] (.w (.a (.sl (.v 16) (.v 17) (.v 18)))) [(.a 16,.prop 19),(.a 11,.prop 20)]
(.call 174 [.a (.sl (.v 6) (.v 7) (.v 8)),.a (.func 175 [])] [(.a 6,.prop 15)] [.p] (.tup []) [(.a 6,.prop 21)]
(.call 174 [.a (.sl (.v 16) (.v 17) (.v 18)),.a (.func 177 [])] [(.a 16,.prop 19)] [.p] (.tup []) [(.a 16,.prop 22)]
(.loop [.i,.i,.c,.i] [.e (.o1 .neg (.o1 .neg (.i (-1)))),.e (.o1 .neg (.o1 .neg (.i 0))),.e (.o1 .not (.o1 .not (.c false))),.e (.o1 .neg (.o1 .neg (.i 0)))]
(.br (.o2 .lt (.v 26) (.o1 .ofNat (.v 7)))
(.need (.o2 .le (.i 0) (.v 26))
(.need (.o1 .isSome (.v 6))
(.read (.load 88 (.tmp 46)) 88 [(46,.w (.a (.eptr 6 (.v 26) 17 0)))] [(.a 6,.prop 21)] [.i,.i,.i,.i,.s,.s,.i,.i,.a,.n,.n,.i,.i,.i,.i,.i,.i,.a,.n,.n,.a,.n,.n] (.w (.agg [.int .i64 (.v 27),.int .i64 (.v 28),.int .i64 (.v 29),.int .i64 (.v 30),.str (.v 31),.str (.v 32),.int .i64 (.v 33),.int .i64 (.v 34),.sl (.v 35) (.v 36) (.v 37),.int .i64 (.v 38),.int .i64 (.v 39),.int .i64 (.v 40),.int .i64 (.v 41),.int .i64 (.v 42),.int .i64 (.v 43),.sl (.v 44) (.v 45) (.v 46),.sl (.v 47) (.v 48) (.v 49)]))
(.new
(.loop [.i,.i] [.e (.o1 .neg (.o1 .neg (.v 23))),.e (.o1 .neg (.o1 .neg (.v 24)))]
(.join [.c]
(.br (.o2 .lt (.v 52) (.o1 .ofNat (.v 17)))
(.need (.o2 .le (.i 0) (.v 52))
(.need (.o1 .isSome (.v 16))
(.read (.load 3 (.tmp 56)) 3 [(56,.w (.a (.eptr 16 (.v 52) 17 10)))] [(.a 16,.prop 22)] [.i] (.w (.a (.int .i64 (.v 53))))
(.again 0 [.e (.o1 .not (.o1 .not (.o2 .lt (.v 53) (.v 38))))]))))
(.again 0 [.e (.o1 .not (.o1 .not (.c false)))]))
(.br (.v 53)
(.need (.o2 .le (.i 0) (.v 52))
(.need (.o2 .lt (.v 52) (.o1 .ofNat (.v 17)))
(.need (.o1 .isSome (.v 16))
(.read (.load 57 (.tmp 67)) 57 [(67,.w (.a (.eptr 16 (.v 52) 17 0)))] [(.a 16,.prop 22)] [.i,.i,.i] (.w (.agg [.int .i64 (.v 54),.int .i64 (.v 55),.int .i64 (.v 56)]))
(.read (.lookup 197 (.tmp 63) (.tmp 68) false) 3 [(63,.w (.a (.map (.v 0)))),(68,.w (.agg [.int .i64 (.v 54),.int .i64 (.v 55),.int .i64 (.v 56)]))] [(.b (.v 0),.prop 1)] [.i] (.w (.a (.int .i64 (.v 57))))
(.need (.o1 (.inr .i64) (.o2 .add (.v 52) (.i 1)))
(.again 0 [.e (.o1 .neg (.o1 .neg (.o2 .mx (.v 51) (.v 57)))),.e (.o1 .neg (.o1 .neg (.o2 .add (.v 52) (.i 1))))])))))))
(.read (.lookup 197 (.tmp 74) (.tmp 76) false) 3 [(74,.w (.a (.map (.v 0)))),(76,.w (.agg [.int .i64 (.v 27),.int .i64 (.v 28),.int .i64 (.v 29)]))] [(.b (.v 0),.prop 1)] [.i] (.w (.a (.int .i64 (.v 54))))
(.br (.o2 .lt (.v 54) (.v 51))
(.ret (.w (.a (.bool (.c true)))) [(.b (.v 0),.prop 1),(.a 2,.prop 5)])
(.need (.o1 (.inr .i64) (.o2 .add (.v 26) (.i 1)))
(.again 1 [.e (.o1 .neg (.o1 .neg (.v 51))),.e (.o1 .neg (.o1 .neg (.v 52))),.e (.o1 .not (.o1 .not (.v 25))),.e (.o1 .neg (.o1 .neg (.o2 .add (.v 26) (.i 1))))])))))))))))
(.ret (.w (.a (.bool (.v 25)))) [(.b (.v 0),.prop 1),(.a 2,.prop 5)])))))))))
theorem tree_jLate:tree Tryz.prog { keep:=[110,111,114,168,169,112],rdf:=true,jn:=[((48,53),some { ss:=[.c],n:=54,tv:=[(48,none),(49,none),(50,none),(51,none),(52,none),(53,none),(54,none),(55,none),(56,none),(57,none),(58,none),(59,none),(60,none),(61,some (.w (.a (.bool (.v 53)))))],h:=[(.b (.v 50),.cells [.int .i64 (.v 27),.int .i64 (.v 28),.int .i64 (.v 29),.int .i64 (.v 30),.str (.v 31),.str (.v 32),.int .i64 (.v 33),.int .i64 (.v 34),.sl (.v 35) (.v 36) (.v 37),.int .i64 (.v 38),.int .i64 (.v 39),.int .i64 (.v 40),.int .i64 (.v 41),.int .i64 (.v 42),.int .i64 (.v 43),.sl (.v 44) (.v 45) (.v 46),.sl (.v 47) (.v 48) (.v 49)] 88),(.a 16,.prop 22),(.a 6,.prop 21),(.a 11,.prop 20),(.b (.v 0),.prop 1),(.a 2,.prop 5)],lk:=[] })] } Tryz.f116 [.a (.map (.v 0)),.a (.sl (.v 2) (.v 3) (.v 4))] [(.b (.v 0),.prop 1),(.a 2,.prop 5)] 6=t_jLate:=by kernel_rfl
def t_jCheck:T :=
(.new
(.new
(.new
(.new
(.new
(.loop [.i,.p,.p] [.e (.o1 .neg (.o1 .neg (.i 0))),.p [(.b (.v 11),.emap)],.p [(.b (.v 9),.emap)]]
(.br (.o2 .lt (.v 13) (.o1 .ofNat (.v 5)))
(.need (.o2 .le (.i 0) (.v 13))
(.need (.o1 .isSome (.v 4))
(.read (.load 88 (.tmp 31)) 88 [(31,.w (.a (.eptr 4 (.v 13) 17 0)))] [(.a 4,.prop 7)] [.i,.i,.i,.i,.s,.s,.i,.i,.a,.n,.n,.i,.i,.i,.i,.i,.i,.a,.n,.n,.a,.n,.n] (.w (.agg [.int .i64 (.v 16),.int .i64 (.v 17),.int .i64 (.v 18),.int .i64 (.v 19),.str (.v 20),.str (.v 21),.int .i64 (.v 22),.int .i64 (.v 23),.sl (.v 24) (.v 25) (.v 26),.int .i64 (.v 27),.int .i64 (.v 28),.int .i64 (.v 29),.int .i64 (.v 30),.int .i64 (.v 31),.int .i64 (.v 32),.sl (.v 33) (.v 34) (.v 35),.sl (.v 36) (.v 37) (.v 38)]))
(.new
(.join [.p]
(.call 110 [.agg [.int .i64 (.v 16),.int .i64 (.v 17),.int .i64 (.v 18)],.agg [.int .i64 (.v 19),.str (.v 20),.str (.v 21),.int .i64 (.v 22),.int .i64 (.v 23),.sl (.v 24) (.v 25) (.v 26)]] [(.a 4,.prop 7)] [.i,.i,.i,.i,.i,.i,.s,.s,.s] (.w (.agg [.int .i64 (.v 40),.int .i64 (.v 41),.int .i64 (.v 42),.int .i64 (.v 43),.int .i64 (.v 44),.int .i64 (.v 45),.str (.v 46),.str (.v 47),.str (.v 48)])) [(.a 4,.prop 7)]
  (.all
(.read (.lookup 190 (.tmp 33) (.tmp 38) false) 3 [(33,.w (.a (.map (.v 9)))),(38,.w (.agg [.int .i64 (.v 40),.int .i64 (.v 41),.int .i64 (.v 42),.int .i64 (.v 43),.int .i64 (.v 44),.int .i64 (.v 45),.str (.v 46),.str (.v 47),.str (.v 48)]))] [(.b (.v 9),.prop 15)] [.i] (.w (.a (.int .i64 (.v 49))))
(.need (.o1 (.inr .i64) (.o2 .add (.v 49) (.i 1)))
(.op (.mapEntry 190 (.tmp 33) (.tmp 38)) 0 [(33,.w (.a (.map (.v 9)))),(38,.w (.agg [.int .i64 (.v 40),.int .i64 (.v 41),.int .i64 (.v 42),.int .i64 (.v 43),.int .i64 (.v 44),.int .i64 (.v 45),.str (.v 46),.str (.v 47),.str (.v 48)]))] [(.b (.v 9),.prop 15)] [.i,.i,.p] (.tup [.a (.int .i64 (.v 50)),.a (.int .i64 (.v 51))]) [(.b (.v 9),.prop 52)]
(.op (.entryStore 190 (.tmp 33) (.tmp 42) (.tmp 40)) 0 [(33,.w (.a (.map (.v 9)))),(42,.w (.a (.int .i64 (.v 51)))),(40,.w (.a (.int .i64 (.o2 .add (.v 49) (.i 1)))))] [(.b (.v 9),.prop 52)] [.p] (.tup []) [(.b (.v 9),.prop 53)]
(.again 0 [.p [(.b (.v 9),.prop 53)]])))))
(.op (.mapEntry 190 (.tmp 33) (.tmp 38)) 0 [(33,.w (.a (.map (.v 9)))),(38,.w (.agg [.int .i64 (.v 40),.int .i64 (.v 41),.int .i64 (.v 42),.int .i64 (.v 43),.int .i64 (.v 44),.int .i64 (.v 45),.str (.v 46),.str (.v 47),.str (.v 48)]))] [(.b (.v 9),.prop 15)] [.i,.i,.p] (.tup [.a (.int .i64 (.v 49)),.a (.int .i64 (.v 50))]) [(.b (.v 9),.prop 51)]
(.read (.lookup 190 (.tmp 33) (.tmp 38) false) 3 [(33,.w (.a (.map (.v 9)))),(38,.w (.agg [.int .i64 (.v 40),.int .i64 (.v 41),.int .i64 (.v 42),.int .i64 (.v 43),.int .i64 (.v 44),.int .i64 (.v 45),.str (.v 46),.str (.v 47),.str (.v 48)]))] [(.b (.v 9),.prop 51)] [.i] (.w (.a (.int .i64 (.v 52))))
(.need (.o1 (.inr .i64) (.o2 .add (.v 52) (.i 1)))
(.op (.entryStore 190 (.tmp 33) (.tmp 42) (.tmp 40)) 0 [(33,.w (.a (.map (.v 9)))),(42,.w (.a (.int .i64 (.v 50)))),(40,.w (.a (.int .i64 (.o2 .add (.v 52) (.i 1)))))] [(.b (.v 9),.prop 51)] [.p] (.tup []) [(.b (.v 9),.prop 53)]
(.again 0 [.p [(.b (.v 9),.prop 53)]])))))))
(.call 111 [.agg [.int .i64 (.v 16),.int .i64 (.v 17),.int .i64 (.v 18),.int .i64 (.v 19),.str (.v 20),.str (.v 21),.int .i64 (.v 22),.int .i64 (.v 23),.sl (.v 24) (.v 25) (.v 26),.int .i64 (.v 27),.int .i64 (.v 28),.int .i64 (.v 29),.int .i64 (.v 30),.int .i64 (.v 31),.int .i64 (.v 32),.sl (.v 33) (.v 34) (.v 35),.sl (.v 36) (.v 37) (.v 38)]] [(.a 4,.prop 7)] [.c] (.w (.a (.bool (.v 41)))) [(.a 4,.prop 7)]
(.br (.v 41)
(.new
(.op (.mapEntry 191 (.tmp 45) (.tmp 47)) 0 [(45,.w (.a (.map (.v 11)))),(47,.w (.agg [.int .i64 (.v 16),.int .i64 (.v 17),.int .i64 (.v 18)]))] [(.b (.v 11),.prop 14)] [.a,.n,.n,.p,.i,.p] (.tup [.a (.sl (.v 43) (.v 44) (.v 45)),.a (.int .i64 (.v 47))]) [(.a 43,.prop 46),(.b (.v 11),.prop 48)]
(.op (.call ⟨.builtin .append,#[.tmp 48,.tmp 51],#[196,196]⟩) 196 [(48,.w (.a (.sl (.v 43) (.v 44) (.v 45)))),(51,.w (.a (.sl (.b (.v 42) 0) (.n 1) (.n 1))))] [(.a 43,.prop 46),(.b (.v 42),.cells [.int .i64 (.v 29),.int .i64 (.v 30),.int .i64 (.v 31),.int .i64 (.v 32),.sl (.v 33) (.v 34) (.v 35),.sl (.v 36) (.v 37) (.v 38)] 31),(.a 4,.prop 7)] [.a,.n,.n,.p] (.w (.a (.sl (.v 49) (.v 50) (.v 51)))) [(.a 49,.prop 52),(.b (.v 42),.cells [.int .i64 (.v 29),.int .i64 (.v 30),.int .i64 (.v 31),.int .i64 (.v 32),.sl (.v 33) (.v 34) (.v 35),.sl (.v 36) (.v 37) (.v 38)] 31),(.a 4,.prop 7)]
(.op (.entryStore 191 (.tmp 45) (.tmp 54) (.tmp 53)) 0 [(45,.w (.a (.map (.v 11)))),(54,.w (.a (.int .i64 (.v 47)))),(53,.w (.a (.sl (.v 49) (.v 50) (.v 51))))] [(.b (.v 11),.prop 48),(.a 49,.prop 52)] [.p] (.tup []) [(.b (.v 11),.prop 53)]
(.need (.o1 (.inr .i64) (.o2 .add (.v 13) (.i 1)))
(.again 0 [.e (.o1 .neg (.o1 .neg (.o2 .add (.v 13) (.i 1)))),.p [(.b (.v 11),.prop 53)],.p [(.b (.v 9),.prop 40)]]))))))
(.need (.o1 (.inr .i64) (.o2 .add (.v 13) (.i 1)))
(.again 0 [.e (.o1 .neg (.o1 .neg (.o2 .add (.v 13) (.i 1)))),.p [(.b (.v 11),.prop 14)],.p [(.b (.v 9),.prop 40)]])))))))))
(.new
(.new
(.call 17 [] [] [.n,.p] (.w (.a (.ptr (.v 18) 0))) [(.b (.v 18),.prop 19)]
(.new
(.new
(.call 112 [.a (.sl (.v 0) (.v 1) (.v 2))] [(.a 0,.prop 3)] [.v,.p] (.w (.a (.val 22))) [(.a 22,.prop 23),(.a 0,.prop 3)]
(.new
 (.rangef (.val 22) [(.a 22,.prop 23),(.a 0,.prop 3)] [] [.i,.p,.p,.p] [.e (.o1 .neg (.o1 .neg (.i 0))),.p [(.b (.v 18),.prop 19)],.p [(.b (.v 16),.emap)],.p [(.b (.v 8),.cells [.bool (.c false),.bool (.c false),.bool (.c false),.bool (.c false),.bool (.c false),.bool (.c false)] 189)]] [.i,.i,.i,.i,.s,.s,.i,.i,.a,.n,.n,.p] [.agg [.int .i64 (.v 29),.int .i64 (.v 30),.int .i64 (.v 31)],.agg [.int .i64 (.v 32),.str (.v 33),.str (.v 34),.int .i64 (.v 35),.int .i64 (.v 36),.sl (.v 37) (.v 38) (.v 39)]] [(.a 37,.prop 40)]
(.new
(.new
(.call 18 [.a (.ptr (.v 18) 0),.agg [.int .i64 (.v 32),.str (.v 33),.str (.v 34),.int .i64 (.v 35),.int .i64 (.v 36),.sl (.v 37) (.v 38) (.v 39)]] [(.b (.v 18),.prop 26),(.a 37,.prop 40)] [.i,.i,.i,.i,.a,.n,.n,.p,.a,.n,.n,.p,.p,.p] (.w (.agg [.int .i64 (.v 43),.int .i64 (.v 44),.int .i64 (.v 45),.int .i64 (.v 46),.sl (.v 47) (.v 48) (.v 49),.sl (.v 51) (.v 52) (.v 53)])) [(.a 47,.prop 50),(.a 51,.prop 54),(.b (.v 18),.prop 55),(.a 37,.prop 56)]
(.new
(.call 110 [.agg [.int .i64 (.v 29),.int .i64 (.v 30),.int .i64 (.v 31)],.agg [.int .i64 (.v 32),.str (.v 33),.str (.v 34),.int .i64 (.v 35),.int .i64 (.v 36),.sl (.v 37) (.v 38) (.v 39)]] [(.a 37,.prop 56)] [.i,.i,.i,.i,.i,.i,.s,.s,.s] (.w (.agg [.int .i64 (.v 58),.int .i64 (.v 59),.int .i64 (.v 60),.int .i64 (.v 61),.int .i64 (.v 62),.int .i64 (.v 63),.str (.v 64),.str (.v 65),.str (.v 66)])) [(.a 37,.prop 56)]
(.read (.lookup 190 (.tmp 65) (.tmp 68) false) 3 [(65,.w (.a (.map (.v 9)))),(68,.w (.agg [.int .i64 (.v 58),.int .i64 (.v 59),.int .i64 (.v 60),.int .i64 (.v 61),.int .i64 (.v 62),.int .i64 (.v 63),.str (.v 64),.str (.v 65),.str (.v 66)]))] [(.b (.v 9),.prop 15)] [.i] (.w (.a (.int .i64 (.v 67))))
(.br (.o2 .eq (.v 67) (.i 0))
(.op (.store 4 (.tmp 71) (.const (.bool true))) 0 [(71,.w (.a (.ptr (.v 8) 2)))] [(.b (.v 8),.prop 28)] [.p] (.tup []) [(.b (.v 8),.prop 68)]
(.read (.lookup 197 (.tmp 73) (.tmp 74) true) 201 [(73,.w (.a (.map (.v 16)))),(74,.w (.agg [.int .i64 (.v 29),.int .i64 (.v 30),.int .i64 (.v 31)]))] [(.b (.v 16),.prop 27)] [.i,.c] (.tup [.a (.int .i64 (.v 69)),.a (.bool (.v 70))])
(.br (.v 70)
(.op (.store 4 (.tmp 79) (.const (.bool true))) 0 [(79,.w (.a (.ptr (.v 8) 1)))] [(.b (.v 8),.prop 68)] [.p] (.tup []) [(.b (.v 8),.prop 71)]
(.need (.o1 (.inr .i64) (.o2 .add (.v 25) (.i 1)))
(.again 0 [.e (.o1 .neg (.o1 .neg (.o2 .add (.v 25) (.i 1)))),.p [(.b (.v 18),.prop 55)],.p [(.b (.v 16),.prop 27)],.p [(.b (.v 8),.prop 71)]])))
(.op (.mapUpdate 197 (.tmp 80) (.tmp 81) (.tmp 82)) 0 [(80,.w (.a (.map (.v 16)))),(81,.w (.agg [.int .i64 (.v 29),.int .i64 (.v 30),.int .i64 (.v 31)])),(82,.w (.a (.int .i64 (.v 25))))] [(.b (.v 16),.prop 27)] [.p] (.tup []) [(.b (.v 16),.prop 71)]
(.read (.load 4 (.tmp 84)) 4 [(84,.w (.a (.ptr (.v 8) 4)))] [(.b (.v 8),.prop 68)] [.c] (.w (.a (.bool (.v 72))))
(.br (.v 72)
(.op (.store 4 (.tmp 93) (.tmp 92)) 0 [(93,.w (.a (.ptr (.v 8) 4))),(92,.w (.a (.bool (.c true))))] [(.b (.v 8),.prop 68)] [.p] (.tup []) [(.b (.v 8),.prop 73)]
(.need (.o1 (.inr .i64) (.o2 .add (.v 25) (.i 1)))
(.again 0 [.e (.o1 .neg (.o1 .neg (.o2 .add (.v 25) (.i 1)))),.p [(.b (.v 18),.prop 55)],.p [(.b (.v 16),.prop 71)],.p [(.b (.v 8),.prop 73)]])))
(.read (.lookup 191 (.tmp 87) (.tmp 88) false) 196 [(87,.w (.a (.map (.v 11)))),(88,.w (.agg [.int .i64 (.v 29),.int .i64 (.v 30),.int .i64 (.v 31)]))] [(.b (.v 11),.prop 14)] [.a,.n,.n] (.w (.a (.sl (.v 73) (.v 74) (.v 75))))
(.call 115 [.a (.sl (.v 73) (.v 74) (.v 75)),.a (.func 113 [(.v 57,0)])] [(.b (.v 11),.prop 14),(.b (.v 57),.cells [.int .i64 (.v 43),.int .i64 (.v 44),.int .i64 (.v 45),.int .i64 (.v 46),.sl (.v 47) (.v 48) (.v 49),.sl (.v 51) (.v 52) (.v 53)] 31),(.a 47,.prop 50),(.a 51,.prop 54)] [.c] (.w (.a (.bool (.v 76)))) [(.b (.v 11),.prop 14),(.b (.v 57),.cells [.int .i64 (.v 43),.int .i64 (.v 44),.int .i64 (.v 45),.int .i64 (.v 46),.sl (.v 47) (.v 48) (.v 49),.sl (.v 51) (.v 52) (.v 53)] 31),(.a 47,.prop 50),(.a 51,.prop 54)]
(.op (.store 4 (.tmp 93) (.tmp 92)) 0 [(93,.w (.a (.ptr (.v 8) 4))),(92,.w (.a (.bool (.v 76))))] [(.b (.v 8),.prop 68)] [.p] (.tup []) [(.b (.v 8),.prop 77)]
(.need (.o1 (.inr .i64) (.o2 .add (.v 25) (.i 1)))
(.again 0 [.e (.o1 .neg (.o1 .neg (.o2 .add (.v 25) (.i 1)))),.p [(.b (.v 18),.prop 55)],.p [(.b (.v 16),.prop 71)],.p [(.b (.v 8),.prop 77)]])))))))))))
(.read (.lookup 197 (.tmp 73) (.tmp 74) true) 201 [(73,.w (.a (.map (.v 16)))),(74,.w (.agg [.int .i64 (.v 29),.int .i64 (.v 30),.int .i64 (.v 31)]))] [(.b (.v 16),.prop 27)] [.i,.c] (.tup [.a (.int .i64 (.v 68)),.a (.bool (.v 69))])
(.br (.v 69)
(.op (.store 4 (.tmp 79) (.const (.bool true))) 0 [(79,.w (.a (.ptr (.v 8) 1)))] [(.b (.v 8),.prop 28)] [.p] (.tup []) [(.b (.v 8),.prop 70)]
(.need (.o1 (.inr .i64) (.o2 .add (.v 25) (.i 1)))
(.again 0 [.e (.o1 .neg (.o1 .neg (.o2 .add (.v 25) (.i 1)))),.p [(.b (.v 18),.prop 55)],.p [(.b (.v 16),.prop 27)],.p [(.b (.v 8),.prop 70)]])))
(.op (.mapUpdate 197 (.tmp 80) (.tmp 81) (.tmp 82)) 0 [(80,.w (.a (.map (.v 16)))),(81,.w (.agg [.int .i64 (.v 29),.int .i64 (.v 30),.int .i64 (.v 31)])),(82,.w (.a (.int .i64 (.v 25))))] [(.b (.v 16),.prop 27)] [.p] (.tup []) [(.b (.v 16),.prop 70)]
(.read (.load 4 (.tmp 84)) 4 [(84,.w (.a (.ptr (.v 8) 4)))] [(.b (.v 8),.prop 28)] [.c] (.w (.a (.bool (.v 71))))
(.br (.v 71)
(.op (.store 4 (.tmp 93) (.tmp 92)) 0 [(93,.w (.a (.ptr (.v 8) 4))),(92,.w (.a (.bool (.c true))))] [(.b (.v 8),.prop 28)] [.p] (.tup []) [(.b (.v 8),.prop 72)]
(.need (.o1 (.inr .i64) (.o2 .add (.v 25) (.i 1)))
(.again 0 [.e (.o1 .neg (.o1 .neg (.o2 .add (.v 25) (.i 1)))),.p [(.b (.v 18),.prop 55)],.p [(.b (.v 16),.prop 70)],.p [(.b (.v 8),.prop 72)]])))
(.read (.lookup 191 (.tmp 87) (.tmp 88) false) 196 [(87,.w (.a (.map (.v 11)))),(88,.w (.agg [.int .i64 (.v 29),.int .i64 (.v 30),.int .i64 (.v 31)]))] [(.b (.v 11),.prop 14)] [.a,.n,.n] (.w (.a (.sl (.v 72) (.v 73) (.v 74))))
(.call 115 [.a (.sl (.v 72) (.v 73) (.v 74)),.a (.func 113 [(.v 57,0)])] [(.b (.v 11),.prop 14),(.b (.v 57),.cells [.int .i64 (.v 43),.int .i64 (.v 44),.int .i64 (.v 45),.int .i64 (.v 46),.sl (.v 47) (.v 48) (.v 49),.sl (.v 51) (.v 52) (.v 53)] 31),(.a 47,.prop 50),(.a 51,.prop 54)] [.c] (.w (.a (.bool (.v 75)))) [(.b (.v 11),.prop 14),(.b (.v 57),.cells [.int .i64 (.v 43),.int .i64 (.v 44),.int .i64 (.v 45),.int .i64 (.v 46),.sl (.v 47) (.v 48) (.v 49),.sl (.v 51) (.v 52) (.v 53)] 31),(.a 47,.prop 50),(.a 51,.prop 54)]
(.op (.store 4 (.tmp 93) (.tmp 92)) 0 [(93,.w (.a (.ptr (.v 8) 4))),(92,.w (.a (.bool (.v 75))))] [(.b (.v 8),.prop 28)] [.p] (.tup []) [(.b (.v 8),.prop 76)]
(.need (.o1 (.inr .i64) (.o2 .add (.v 25) (.i 1)))
(.again 0 [.e (.o1 .neg (.o1 .neg (.o2 .add (.v 25) (.i 1)))),.p [(.b (.v 18),.prop 55)],.p [(.b (.v 16),.prop 70)],.p [(.b (.v 8),.prop 76)]])))))))))))))))))
(.op (.range 191 (.tmp 96)) 0 [(96,.w (.a (.map (.v 11))))] [(.b (.v 11),.prop 14)] [.n,.p,.p] (.w (.a (.ptr (.v 29) 0))) [(.b (.v 29),.prop 30),(.b (.v 11),.prop 31)]
(.loop [.p,.p] [.p [(.b (.v 29),.prop 30)],.p [(.b (.v 8),.prop 28)]]
(.op (.next (.tmp 97) false) 0 [(97,.w (.a (.ptr (.v 29) 0)))] [(.b (.v 29),.prop 32),(.b (.v 11),.prop 31)] [.c,.v,.v,.p] (.nx 34 35 36) [(.b (.v 29),.prop 37),(.b (.v 11),.prop 31)]
(.br (.v 34)
(.read (.entry (.tmp 97)) 0 [(97,.w (.a (.ptr (.v 29) 0)))] [(.b (.v 29),.prop 37),(.b (.v 11),.prop 31)] [.i,.i,.i,.a,.n,.n] (.tup [.agg [.int .i64 (.v 38),.int .i64 (.v 39),.int .i64 (.v 40)],.a (.sl (.v 41) (.v 42) (.v 43))])
(.new
(.read (.lookup 197 (.tmp 103) (.tmp 104) true) 201 [(103,.w (.a (.map (.v 16)))),(104,.w (.agg [.int .i64 (.v 38),.int .i64 (.v 39),.int .i64 (.v 40)]))] [(.b (.v 16),.prop 27)] [.i,.c] (.tup [.a (.int .i64 (.v 45)),.a (.bool (.v 46))])
(.br (.o1 .not (.v 46))
(.op (.store 4 (.tmp 110) (.const (.bool true))) 0 [(110,.w (.a (.ptr (.v 8) 3)))] [(.b (.v 8),.prop 33)] [.p] (.tup []) [(.b (.v 8),.prop 47)]
(.again 0 [.p [(.b (.v 29),.prop 37)],.p [(.b (.v 8),.prop 47)]]))
(.again 0 [.p [(.b (.v 29),.prop 37)],.p [(.b (.v 8),.prop 33)]])))))
(.call 116 [.a (.map (.v 16)),.a (.sl (.v 4) (.v 5) (.v 6))] [(.b (.v 16),.prop 27),(.a 4,.prop 7)] [.c] (.w (.a (.bool (.v 38)))) [(.b (.v 16),.prop 27),(.a 4,.prop 7)]
(.op (.store 4 (.tmp 114) (.tmp 113)) 0 [(114,.w (.a (.ptr (.v 8) 5))),(113,.w (.a (.bool (.v 38))))] [(.b (.v 8),.prop 33)] [.p] (.tup []) [(.b (.v 8),.prop 39)]
(.read (.load 189 (.tmp 5)) 189 [(5,.w (.a (.ptr (.v 8) 0)))] [(.b (.v 8),.prop 39)] [.c,.c,.c,.c,.c,.c] (.w (.agg [.bool (.v 40),.bool (.v 41),.bool (.v 42),.bool (.v 43),.bool (.v 44),.bool (.v 45)]))
(.loop [.a,.n,.n,.p,.i] [.a .nil,.e (.o2 .nadd (.n 0) (.n 0)),.e (.o2 .nadd (.n 0) (.n 0)),.p [],.e (.o1 .neg (.o1 .neg (.i 0)))]
(.br (.o2 .lt (.v 50) (.i 6))
(.read (.index 189 (.tmp 115) (.tmp 116)) 4 [(115,.w (.agg [.bool (.v 40),.bool (.v 41),.bool (.v 42),.bool (.v 43),.bool (.v 44),.bool (.v 45)])),(116,.w (.a (.int .i64 (.v 50))))] [] [.c] (.w (.a (.bool (.v 51))))
(.br (.v 51)
(.new
(.op (.call ⟨.builtin .append,#[.tmp 121,.tmp 123],#[89,89]⟩) 89 [(121,.w (.a (.sl (.v 46) (.v 47) (.v 48)))),(123,.w (.a (.sl (.b (.v 52) 0) (.n 1) (.n 1))))] [(.a 46,.prop 49),(.b (.v 52),.cells [.int .i64 (.v 50)] 3)] [.a,.n,.n,.p] (.w (.a (.sl (.v 53) (.v 54) (.v 55)))) [(.a 53,.prop 56),(.b (.v 52),.cells [.int .i64 (.v 50)] 3)]
(.need (.o1 (.inr .i64) (.o2 .add (.v 50) (.i 1)))
(.again 0 [.a (.v 53),.e (.o2 .nadd (.v 54) (.n 0)),.e (.o2 .nadd (.v 55) (.n 0)),.p [(.a 53,.prop 56)],.e (.o1 .neg (.o1 .neg (.o2 .add (.v 50) (.i 1))))]))))
(.need (.o1 (.inr .i64) (.o2 .add (.v 50) (.i 1)))
(.again 0 [.a (.v 46),.e (.o2 .nadd (.v 47) (.n 0)),.e (.o2 .nadd (.v 48) (.n 0)),.p [(.a 46,.prop 49)],.e (.o1 .neg (.o1 .neg (.o2 .add (.v 50) (.i 1))))]))))
(.ret (.w (.a (.sl (.v 46) (.v 47) (.v 48)))) [(.a 0,.prop 3),(.a 4,.prop 7),(.a 46,.prop 49)])))))))))))))))))))))))))
theorem tree_jCheck:tree Tryz.prog { absT:=[189,4],hv:=[(0,[.b (.v 11),.b (.v 9)]),(2,[.b (.v 21),.b (.v 18),.b (.v 8),.b (.v 16)]),(4,[.b (.v 29),.b (.v 8)])],keep:=[116,115,110,111,114,168,169,112],link:=[(112,0)],ent:=[(100,[57,196])],pty:=[(2,[57,34])],rdf:=true,jn:=[((33,40),some { ss:=[.p],n:=41,tv:=[(33,none),(34,none),(35,none),(36,none),(37,none),(38,none),(39,none),(40,none),(41,none),(42,none)],h:=[(.b (.v 9),.prop 40),(.a 4,.prop 7),(.b (.v 39),.cells [.int .i64 (.v 16),.int .i64 (.v 17),.int .i64 (.v 18),.int .i64 (.v 19),.str (.v 20),.str (.v 21),.int .i64 (.v 22),.int .i64 (.v 23),.sl (.v 24) (.v 25) (.v 26),.int .i64 (.v 27),.int .i64 (.v 28),.int .i64 (.v 29),.int .i64 (.v 30),.int .i64 (.v 31),.int .i64 (.v 32),.sl (.v 33) (.v 34) (.v 35),.sl (.v 36) (.v 37) (.v 38)] 88),(.b (.v 12),.cells [.map (.v 11)] 191),(.b (.v 11),.prop 14),(.b (.v 10),.cells [.map (.v 9)] 190),(.b (.v 8),.cells [.bool (.c false),.bool (.c false),.bool (.c false),.bool (.c false),.bool (.c false),.bool (.c false)] 189),(.a 0,.prop 3)],lk:=[] })] } Tryz.f47 [.a (.sl (.v 0) (.v 1) (.v 2)),.a (.sl (.v 4) (.v 5) (.v 6))] [(.a 0,.prop 3),(.a 4,.prop 7)] 8=t_jCheck:=by kernel_rfl
def t_jIndexFunc:T :=
(.loop [.i,.i,.p] [.e (.o1 .neg (.o1 .neg (.i 0))),.e (.o1 .neg (.o1 .neg (.i 0))),.p [(.a 4,.prop 5)]]
(.br (.o2 .lt (.v 7) (.o1 .ofNat (.v 1)))
(.need (.o2 .le (.i 0) (.v 7))
(.need (.o1 .isSome (.v 0))
(.read (.load 31 (.tmp 14)) 31 [(14,.w (.a (.eptr 0 (.v 7) 6 0)))] [(.a 0,.prop 3)] [.i,.i,.i,.i,.a,.n,.n,.a,.n,.n] (.w (.agg [.int .i64 (.v 9),.int .i64 (.v 10),.int .i64 (.v 11),.int .i64 (.v 12),.sl (.v 13) (.v 14) (.v 15),.sl (.v 16) (.v 17) (.v 18)]))
 (.callv 4 [.agg [.int .i64 (.v 9),.int .i64 (.v 10),.int .i64 (.v 11),.int .i64 (.v 12),.sl (.v 13) (.v 14) (.v 15),.sl (.v 16) (.v 17) (.v 18)]] [(.a 4,.prop 8),(.a 0,.prop 3)] [.c,.p] (.w (.a (.bool (.v 19)))) [(.a 4,.prop 20),(.a 0,.prop 3)]
(.br (.v 19)
(.ret (.w (.a (.int .i64 (.v 7)))) [(.a 0,.prop 3),(.a 4,.prop 20)])
(.need (.o1 (.inr .i64) (.o2 .add (.v 7) (.i 1)))
(.again 0 [.e (.o1 .neg (.o1 .neg (.v 6))),.e (.o1 .neg (.o1 .neg (.o2 .add (.v 7) (.i 1)))),.p [(.a 4,.prop 20)]])))))))
(.ret (.w (.a (.int .i64 (.i (-1))))) [(.a 0,.prop 3),(.a 4,.prop 8)])))
theorem tree_jIndexFunc:tree Tryz.prog { hv:=[(0,[.a 4])],keep:=[114,113],rdf:=true } Tryz.f170 [.a (.sl (.v 0) (.v 1) (.v 2)),.a (.val 4)] [(.a 0,.prop 3),(.a 4,.prop 5)] 6=t_jIndexFunc:=by kernel_rfl
def t_jContainsFunc:T :=
(.call 170 [.a (.sl (.v 0) (.v 1) (.v 2)),.a (.val 4)] [(.a 0,.prop 3),(.a 4,.prop 5)] [.i,.p,.p] (.w (.a (.int .i64 (.v 6)))) [(.a 0,.prop 7),(.a 4,.prop 8)]
(.ret (.w (.a (.bool (.o2 .le (.i 0) (.v 6))))) [(.a 0,.prop 7),(.a 4,.prop 8)]))
theorem tree_jContainsFunc:tree Tryz.prog { keep:=[114,113],rdf:=true } Tryz.f115 [.a (.sl (.v 0) (.v 1) (.v 2)),.a (.val 4)] [(.a 0,.prop 3),(.a 4,.prop 5)] 6=t_jContainsFunc:=by kernel_rfl
def t_jCloneD:T :=
(.br (.o1 .not (.o1 .isSome (.v 0)))
(.ret (.w (.a (.sl .nil (.n 0) (.n 0)))) [(.a 0,.prop 3)])
(.new
(.op (.call ⟨.builtin .append,#[.tmp 5,.tmp 6],#[85,85]⟩) 85 [(5,.w (.a (.sl (.b (.v 4) 0) (.n 0) (.n 0)))),(6,.w (.a (.sl (.v 0) (.v 1) (.v 2))))] [(.b (.v 4),.cells [] 88),(.a 0,.prop 3)] [.a,.n,.n,.p] (.w (.a (.sl (.v 5) (.v 6) (.v 7)))) [(.a 5,.prop 8),(.a 0,.prop 3)]
(.ret (.w (.a (.sl (.v 5) (.v 6) (.v 7)))) [(.a 0,.prop 3),(.a 5,.prop 8)]))))
theorem tree_jCloneD:tree Tryz.prog { keep:=[114,113],rdf:=true } Tryz.f172 [.a (.sl (.v 0) (.v 1) (.v 2))] [(.a 0,.prop 3)] 4=t_jCloneD:=by kernel_rfl
def t_jIndexD:T :=
(.loop [.i,.i,.p] [.e (.o1 .neg (.o1 .neg (.i 0))),.e (.o1 .neg (.o1 .neg (.i 0))),.p [(.a 4,.prop 5)]]
(.br (.o2 .lt (.v 7) (.o1 .ofNat (.v 1)))
(.need (.o2 .le (.i 0) (.v 7))
(.need (.o1 .isSome (.v 0))
(.read (.load 88 (.tmp 14)) 88 [(14,.w (.a (.eptr 0 (.v 7) 17 0)))] [(.a 0,.prop 3)] [.i,.i,.i,.i,.s,.s,.i,.i,.a,.n,.n,.i,.i,.i,.i,.i,.i,.a,.n,.n,.a,.n,.n] (.w (.agg [.int .i64 (.v 9),.int .i64 (.v 10),.int .i64 (.v 11),.int .i64 (.v 12),.str (.v 13),.str (.v 14),.int .i64 (.v 15),.int .i64 (.v 16),.sl (.v 17) (.v 18) (.v 19),.int .i64 (.v 20),.int .i64 (.v 21),.int .i64 (.v 22),.int .i64 (.v 23),.int .i64 (.v 24),.int .i64 (.v 25),.sl (.v 26) (.v 27) (.v 28),.sl (.v 29) (.v 30) (.v 31)]))
 (.callv 4 [.agg [.int .i64 (.v 9),.int .i64 (.v 10),.int .i64 (.v 11),.int .i64 (.v 12),.str (.v 13),.str (.v 14),.int .i64 (.v 15),.int .i64 (.v 16),.sl (.v 17) (.v 18) (.v 19),.int .i64 (.v 20),.int .i64 (.v 21),.int .i64 (.v 22),.int .i64 (.v 23),.int .i64 (.v 24),.int .i64 (.v 25),.sl (.v 26) (.v 27) (.v 28),.sl (.v 29) (.v 30) (.v 31)]] [(.a 4,.prop 8),(.a 0,.prop 3)] [.c,.p] (.w (.a (.bool (.v 32)))) [(.a 4,.prop 33),(.a 0,.prop 3)]
(.br (.v 32)
(.ret (.w (.a (.int .i64 (.v 7)))) [(.a 0,.prop 3),(.a 4,.prop 33)])
(.need (.o1 (.inr .i64) (.o2 .add (.v 7) (.i 1)))
(.again 0 [.e (.o1 .neg (.o1 .neg (.v 6))),.e (.o1 .neg (.o1 .neg (.o2 .add (.v 7) (.i 1)))),.p [(.a 4,.prop 33)]])))))))
(.ret (.w (.a (.int .i64 (.i (-1))))) [(.a 0,.prop 3),(.a 4,.prop 8)])))
theorem tree_jIndexD:tree Tryz.prog { hv:=[(0,[.a 4])],keep:=[114,113],rdf:=true } Tryz.f207 [.a (.sl (.v 0) (.v 1) (.v 2)),.a (.val 4)] [(.a 0,.prop 3),(.a 4,.prop 5)] 6=t_jIndexD:=by kernel_rfl
def t_jDeleteD:T :=
(.call 207 [.a (.sl (.v 0) (.v 1) (.v 2)),.a (.val 4)] [(.a 0,.prop 3),(.a 4,.prop 5)] [.i,.p,.p] (.w (.a (.int .i64 (.v 6)))) [(.a 0,.prop 7),(.a 4,.prop 8)]
(.br (.o2 .eq (.v 6) (.i (-1)))
(.ret (.w (.a (.sl (.v 0) (.v 1) (.v 2)))) [(.a 0,.prop 7),(.a 4,.prop 8)])
(.need (.o1 (.inr .i64) (.o2 .add (.v 6) (.i 1)))
(.loop [.i,.i,.p,.p] [.e (.o1 .neg (.o1 .neg (.v 6))),.e (.o1 .neg (.o1 .neg (.o2 .add (.v 6) (.i 1)))),.p [(.a 0,.prop 7)],.p [(.a 4,.prop 8)]]
(.br (.o2 .lt (.v 10) (.o1 .ofNat (.v 1)))
(.need (.o2 .le (.i 0) (.v 10))
(.need (.o1 .isSome (.v 0))
(.read (.load 88 (.tmp 24)) 88 [(24,.w (.a (.eptr 0 (.v 10) 17 0)))] [(.a 0,.prop 11)] [.i,.i,.i,.i,.s,.s,.i,.i,.a,.n,.n,.i,.i,.i,.i,.i,.i,.a,.n,.n,.a,.n,.n] (.w (.agg [.int .i64 (.v 13),.int .i64 (.v 14),.int .i64 (.v 15),.int .i64 (.v 16),.str (.v 17),.str (.v 18),.int .i64 (.v 19),.int .i64 (.v 20),.sl (.v 21) (.v 22) (.v 23),.int .i64 (.v 24),.int .i64 (.v 25),.int .i64 (.v 26),.int .i64 (.v 27),.int .i64 (.v 28),.int .i64 (.v 29),.sl (.v 30) (.v 31) (.v 32),.sl (.v 33) (.v 34) (.v 35)]))
(.new
  (.callv 4 [.agg [.int .i64 (.v 13),.int .i64 (.v 14),.int .i64 (.v 15),.int .i64 (.v 16),.str (.v 17),.str (.v 18),.int .i64 (.v 19),.int .i64 (.v 20),.sl (.v 21) (.v 22) (.v 23),.int .i64 (.v 24),.int .i64 (.v 25),.int .i64 (.v 26),.int .i64 (.v 27),.int .i64 (.v 28),.int .i64 (.v 29),.sl (.v 30) (.v 31) (.v 32),.sl (.v 33) (.v 34) (.v 35)]] [(.a 4,.prop 12),(.a 0,.prop 11)] [.c,.p] (.w (.a (.bool (.v 37)))) [(.a 4,.prop 38),(.a 0,.prop 11)]
(.br (.o1 .not (.v 37))
(.need (.o2 .le (.i 0) (.v 9))
(.need (.o2 .lt (.v 9) (.o1 .ofNat (.v 1)))
(.op (.store 88 (.tmp 33) (.tmp 32)) 0 [(33,.w (.a (.eptr 0 (.v 9) 17 0))),(32,.w (.agg [.int .i64 (.v 13),.int .i64 (.v 14),.int .i64 (.v 15),.int .i64 (.v 16),.str (.v 17),.str (.v 18),.int .i64 (.v 19),.int .i64 (.v 20),.sl (.v 21) (.v 22) (.v 23),.int .i64 (.v 24),.int .i64 (.v 25),.int .i64 (.v 26),.int .i64 (.v 27),.int .i64 (.v 28),.int .i64 (.v 29),.sl (.v 30) (.v 31) (.v 32),.sl (.v 33) (.v 34) (.v 35)]))] [(.a 0,.prop 11)] [.p] (.tup []) [(.a 0,.prop 39)]
(.need (.o1 (.inr .i64) (.o2 .add (.v 9) (.i 1)))
(.need (.o1 (.inr .i64) (.o2 .add (.v 10) (.i 1)))
(.again 0 [.e (.o1 .neg (.o1 .neg (.o2 .add (.v 9) (.i 1)))),.e (.o1 .neg (.o1 .neg (.o2 .add (.v 10) (.i 1)))),.p [(.a 0,.prop 39)],.p [(.a 4,.prop 38)]]))))))
(.need (.o1 (.inr .i64) (.o2 .add (.v 10) (.i 1)))
(.again 0 [.e (.o1 .neg (.o1 .neg (.v 9))),.e (.o1 .neg (.o1 .neg (.o2 .add (.v 10) (.i 1)))),.p [(.a 0,.prop 11)],.p [(.a 4,.prop 38)]]))))))))
(.read (.slice 85 (.tmp 36) (some (.tmp 37)) none none) 85 [(36,.w (.a (.sl (.v 0) (.v 1) (.v 2)))),(37,.w (.a (.int .i64 (.v 9))))] [(.a 0,.prop 11)] [.a,.n,.n] (.w (.a (.sl (.v 13) (.v 14) (.v 15))))
(.op (.call ⟨.builtin .clear,#[.tmp 38],#[85]⟩) 0 [(38,.w (.a (.sl (.v 13) (.v 14) (.v 15))))] [(.a 0,.prop 11)] [.p] (.tup []) [(.a 0,.prop 16)]
(.read (.slice 85 (.tmp 39) none (some (.tmp 40)) none) 85 [(39,.w (.a (.sl (.v 0) (.v 1) (.v 2)))),(40,.w (.a (.int .i64 (.v 9))))] [(.a 0,.prop 16)] [.a,.n,.n] (.w (.a (.sl (.v 17) (.v 18) (.v 19))))
(.ret (.w (.a (.sl (.v 17) (.v 18) (.v 19)))) [(.a 0,.prop 16),(.a 4,.prop 12)])))))))))
theorem tree_jDeleteD:tree Tryz.prog { hv:=[(0,[.a 0,.a 4])],keep:=[114,113],rdf:=true } Tryz.f171 [.a (.sl (.v 0) (.v 1) (.v 2)),.a (.val 4)] [(.a 0,.prop 3),(.a 4,.prop 5)] 6=t_jDeleteD:=by kernel_rfl
end Go.Proofs.YtdieogcemmnaaaaGreatDoor.RX

namespace Go.Proofs.YtdieogcemmnaaaaGreatDoor
set_option linter.unusedSimpArgs false
set_option linter.unusedVariables false
open Go.Proofs.YtdieogcemmnaaaaGreatDoor RX
set_option maxRecDepth 100000
def callOf (x:CellE):Option (IdM × CallP):=if x.what=1 then (match entD x.data with
 | none=>none
 | some e=>if e.kind=1 then (match callD e.pl with
  | none=>none
  | some c=>some ((e.cl,e.bi,e.nu),c)) else none) else none
def callsS (l:List CellE):List (IdM × CallP):=l.filterMap callOf
structure CellRd (S:HP) (a:Option Addr) (n:Nat) (es:List CellE):Prop where
 len:es.length=n
 is:n ≠ 0 → a.isSome=true
 ld : ∀ (k:Nat) (x:CellE),es[k]? = some x → ORead Tryz.prog (loadS 68 (.pointer (a.map fun y=>(y.add (k * 2)).add 0))) S (.agg #[.int .i64 x.what,.slice x.da x.data.length x.dc])
 rd : ∀ x ∈ es,RdL S x.da x.data.length (x.data.map u8v)
 le : ∀ x ∈ es,x.data.length ≤ x.dc ∧ (x.data.length ≠ 0 → x.da.isSome=true)
def mayC (L:List (IdM × CallP)) (args:Array Value) (L':List (IdM × CallP)):Prop := ∃ (id:IdM) (c:CallP) (da:Option Addr) (dc:Nat),L=(id,c) :: L' ∧ args = #[idV id,c.val da dc] ∧ c.data.length ≤ dc ∧ (c.data.length ≠ 0 → da.isSome=true)
def PrC (L:List (IdM × CallP)) (args:Array Value):HP:=HP.ex fun q:(IdM × CallP) × Option Addr × Nat × List (IdM × CallP)=>HP.and (L=q.1 :: q.2.2.2 ∧ args = #[idV q.1.1,q.1.2.val q.2.1 q.2.2.1]) (RoB q.2.1 q.1.2.data.length q.1.2.data)
def CBox (nb:Nat) (a:Option Addr) (n c:Nat) (S:HP):HP:=HP.sep (HP.one nb (.cells #[.slice a n c] 79 (0,0))) S
theorem entD_len {l:List UInt8} {e:LogM} (h:entD l=some e):e.pl.length ≤ 65506:=by
 have key:logOk e=true:=by
  unfold entD at h
  split at h
  ·cases h
  ·split at h
   ·cases h
   ·split at h
    ·cases h
    ·split at h
     ·rename_i hok
      cases h
      exact hok
     ·cases h
 unfold logOk at key
 simp only [Bool.and_eq_true,decide_eq_true_eq] at key
 exact key.2
def CallPostR (l:List UInt8) (S:HP) (v:Value):HP:=match callD l with
 | none=>HP.and (v = .tuple #[.agg #[.int .i64 0,sE [],sE [],.int .i64 0,.int .i64 0,.slice none 0 0],.int .i64 3]) S
 | some x=>HP.ex fun a=>HP.ex fun c=>HP.and (v = .tuple #[x.val a c,.int .i64 0] ∧ x.data.length ≤ c ∧ (x.data.length ≠ 0 → a.isSome=true)) (HP.sep (RoB a x.data.length x.data) S)
theorem cDecodeR_ok (a:Option Addr) (n c:Nat) (l:List UInt8) (S:HP) (hr:RdL S a n (l.map u8v)) (hl:l.length=n) (hc:n ≤ c) (ha:n ≠ 0 → a.isSome=true) (hb:n ≤ 140737488355000) :
  Tri Tryz.prog 164 #[.slice a n c] S (CallPostR l S):=by
 refine (cDecode_ok a n c l S hr hl hc ha hb).post fun v => ?_
 unfold CallPost CallPostR
 cases callD l with
 | none=>exact HP.ent.refl _
 | some x =>
  rintro R h d ⟨a',c',e,H⟩
  have h1:=OwC.le (HP.sep_left H)
  have h2:x.data.length ≠ 0 → a'.isSome=true:=fun hn=>OwC.some (HP.sep_left H) (Nat.pos_of_ne_zero hn)
  obtain ⟨R1,h1',q1,q2,q3,q4,H1⟩:=(HP.ent.sep (OwC.share _ _ _ _ _ _) S) R h d H
  exact ⟨R1,h1',q1,q2,q3,q4,a',c',⟨e,h1,h2⟩,H1⟩
theorem fgoC:Fgo Tryz.prog 167:=⟨_,Tryz.func167,by kernel_rfl,by kernel_rfl⟩
theorem calls_ok (a:Option Addr) (n c:Nat) (S:HP):Tri Tryz.prog 112 #[.slice a n c] S
  (fun v=>HP.ex fun nb=>HP.and (v = .func (.func 167) #[] #[.pointer (some ⟨nb,0,none⟩)]) (CBox nb a n c S)):=by
 refine tri_of_tree (ρ:=[.a a,.n n,.n c,.p S]) mixed Tryz.func112 tree_jCalls ?_
 unfold t_jCalls
 simp only [T.den,E.prop,E.den,RX.look,F1.app,F2.app,Uni.int_i,Uni.nat_n,Uni.bool_c,Uni.str_s,Uni.adr_a,Uni.val_v,Uni.hp_p,hden,cden,V.den,W.den,A.den,BR.den,SA.den,FV.den,capV,exs,exP,allP,Cur.app,List.map_cons,List.map_nil,List.cons_append,List.nil_append,List.drop_succ_cons,List.drop_zero,List.length_cons,List.length_nil,Nat.zero_add,Nat.reduceAdd,Int.neg_neg,Bool.not_not,List.append_nil,Nat.add_zero,List.getElem?_cons_zero,List.getElem?_cons_succ,Decidable.not_not,semW_eq,ne_eq,Nat.reduceEqDiff,not_false_eq_true]
 exact fun x => .of fun R h H=>⟨x,rfl,HP.sep_comm H⟩
set_option maxHeartbeats 1000000 in
theorem calls_seq (nb:Nat) (a:Option Addr) (n c:Nat) (es:List CellE) (S:HP) (cr:CellRd S a n es) (hn:n ≤ 1000000000):SeqTri Tryz.prog (.func (.func 167) #[] #[.pointer (some ⟨nb,0,none⟩)]) (CBox nb a n c S)
  (fun _:List (IdM × CallP)=>HP.tt) PrC mayC (fun L=>L=[]) (callsS es):=by
 refine ⟨_,_,rfl,fgoC,fun l K Jx hr => ?_⟩
 refine (tri_of_tree (ρ:=[.v (.func (.yield l) #[] #[]),.p (K (callsS es)),.n nb,.a a,.n n,.n c,.p S]) mixed Tryz.func167 tree_jCalls1 ?_).weak (fun R h H => ?_) fun _ _ _ h=>h
 rotate_left
 ·exact HP.sep_mono (HP.sep_comm H) (fun _ h=>HP.sep_right h) fun _ h=>h
 unfold t_jCalls1
 simp only [T.den,E.prop,E.den,RX.look,F1.app,F2.app,Uni.int_i,Uni.nat_n,Uni.bool_c,Uni.str_s,Uni.adr_a,Uni.val_v,Uni.hp_p,hden,cden,V.den,W.den,A.den,BR.den,SA.den,FV.den,capV,exs,exP,allP,Cur.app,List.map_cons,List.map_nil,List.cons_append,List.nil_append,List.drop_succ_cons,List.drop_zero,List.length_cons,List.length_nil,Nat.zero_add,Nat.reduceAdd,Int.neg_neg,Bool.not_not,List.append_nil,Nat.add_zero,List.getElem?_cons_zero,List.getElem?_cons_succ,Decidable.not_not,semW_eq,semW_load,ne_eq,Nat.reduceEqDiff,not_false_eq_true]
 have fin : ∀ J:HP,HP.ent J (SeqPost (fun _:List (IdM × CallP)=>HP.tt) K Jx fun L=>L=[]) → HP.ent (HP.sep J (HP.sep (HP.one nb (.cells #[.slice a n c] 79 (0,0))) S)) (HP.sep (CBox nb a n c S) (SeqPost (fun _:List (IdM × CallP)=>HP.tt) K Jx fun L=>L=[])):=fun J hJ =>
  (HP.ent.of fun R h H=>HP.sep_comm H).trans (HP.ent.sep2 (HP.ent.refl _) hJ)
 refine ⟨fun k p => ∃ j:Nat,k=j ∧ j ≤ n ∧ p=K (callsS (es.drop j)),fun k _=>n - k.toNat,⟨0,rfl,Nat.zero_le _,by rw [List.drop_zero]⟩,?_⟩
 rintro _ _ ⟨j,rfl,hj,rfl⟩
 have hlen:=cr.len
 refine ⟨fun hlt=>⟨by omega,fun _=>⟨cr.is (by omega),fun _ => ?_⟩⟩,fun hge => ?_⟩
 ·obtain ⟨x,hx⟩ : ∃ x,es[j]? = some x:=⟨_,List.getElem?_eq_getElem (by omega)⟩
  have hxm:=List.mem_of_getElem? hx
  have hd:es.drop j=x :: es.drop (j + 1):=by
   rw [List.drop_eq_getElem_cons (by omega)]
   rw [List.getElem?_eq_getElem (by omega)] at hx
   rw [Option.some.inj hx]
  have nxt:IntKind.i64.min ≤ (j:Int) + 1 ∧ (j:Int) + 1 ≤ IntKind.i64.max:=inI64 _ (by omega) (by omega)
  have skip:callOf x=none → ∃ j':Nat,((j:Int) + 1)=j' ∧ j' ≤ n ∧ K (callsS (es.drop j))=K (callsS (es.drop j')):=fun h=>⟨j + 1,by omega,by omega,by
   rw [hd]; unfold callsS; rw [List.filterMap_cons_none h]⟩
  obtain ⟨hle,his⟩:=cr.le x hxm
  refine ⟨x.what,x.da,x.data.length,x.dc,cr.ld j x hx,fun _=>⟨fun hw=>⟨nxt,fun _=>⟨skip ?_,by dsimp only; omega⟩⟩,fun hw => ?_⟩⟩
  ·unfold callOf; rw [if_neg hw]
  have hw:x.what=1:=by simpa using hw
  refine (eDecode_ok x.da x.data.length x.dc x.data S (cr.rd x hxm) rfl hle his).weak (fun _ _ h=>h) ?_
  intro v R h H
  unfold EntPost at H
  cases he:entD x.data with
  | none =>
   rw [he] at H
   obtain ⟨rfl,H⟩:=H
   refine ⟨0,0,0,0,0,0,none,0,0,HP.tt,3,rfl,fun _=>⟨fun _=>⟨nxt,fun _=>⟨skip ?_,by dsimp only; omega⟩⟩,fun h=>absurd h (by decide)⟩,HP.tt_sep H⟩
   unfold callOf; rw [if_pos hw,he]
  | some e =>
   rw [he] at H
   obtain ⟨ea,ec,rfl,H⟩:=H
   have hec:=OwC.le (HP.sep_left H)
   have hes:e.pl.length ≠ 0 → ea.isSome=true:=fun hn=>OwC.some (HP.sep_left H) (Nat.pos_of_ne_zero hn)
   refine ⟨e.kind,e.cl,e.bi,e.nu,e.st,e.bk,ea,e.pl.length,ec,OwB ea e.pl.length ec e.pl,0,rfl,fun _=>⟨fun h=>absurd rfl h,fun _=>⟨fun hk=>⟨nxt,fun _=>⟨skip ?_,by dsimp only; omega⟩⟩,fun hk => ?_⟩⟩,H⟩
   ·unfold callOf; rw [if_pos hw,he]; simp only; rw [if_neg hk]
   have hk:e.kind=1:=by simpa using hk
   have hpl:e.pl.length ≤ 65506:=entD_len he
   refine (cDecodeR_ok ea e.pl.length ec e.pl _ (RdL.ow _ _ _ _ _ _) rfl hec hes (by omega)).weak (fun _ _ h=>h) ?_
   intro v R h H
   unfold CallPostR at H
   cases hc:callD e.pl with
   | none =>
    rw [hc] at H
    obtain ⟨rfl,H⟩:=H
    refine ⟨0,[],[],0,0,none,0,0,HP.tt,3,rfl,fun _=>⟨fun h=>absurd h (by decide),fun _=>⟨nxt,fun _=>⟨skip ?_,by dsimp only; omega⟩⟩⟩,HP.tt_sep H⟩
    unfold callOf; rw [if_pos hw,he]; simp only; rw [if_pos hk,hc]
   | some q =>
    rw [hc] at H
    obtain ⟨da,dc,⟨rfl,hq1,hq2⟩,H⟩:=H
    have hL:callsS (es.drop j)=((e.cl,e.bi,e.nu),q) :: callsS (es.drop (j + 1)):=by
     have h0:callOf x=some ((e.cl,e.bi,e.nu),q):=by unfold callOf; rw [if_pos hw,he]; simp only; rw [if_pos hk,hc]
     rw [hd]; unfold callsS; rw [List.filterMap_cons_some h0]
    refine ⟨q.kind,q.path,q.other,q.off,q.n,da,q.data.length,dc,RoB da q.data.length q.data,0,rfl,fun _=>⟨fun _ => ?_,fun h=>absurd rfl h⟩,H⟩
    rw [hL]
    refine (hr (((e.cl,e.bi,e.nu),q) :: callsS (es.drop (j + 1))) #[idV (e.cl,e.bi,e.nu),q.val da dc] ⟨_,(e.cl,e.bi,e.nu),q,da,dc,rfl,rfl,hq1,hq2⟩).conseq (K:=RoB da q.data.length q.data) (.of fun R h H => ?_) fun v => .of fun R h H => ?_
    ·have hro:=HP.sep_right H
     refine HP.sep_comm (RoC.join hro ?_)
     refine HP.sep_mono (RoC.join hro (HP.tt_sep (HP.sep_left H))) (fun y hy=>⟨(((e.cl,e.bi,e.nu),q),da,dc,callsS (es.drop (j + 1))),⟨rfl,rfl⟩,hy⟩) fun _ h=>h
    ·have hro:=HP.sep_right H
     obtain ⟨b',rfl,hb⟩:=HP.sep_left H
     cases b' with
     | true =>
      obtain ⟨g',⟨_,_,_,_,hg,_⟩,H2⟩:=hb
      cases hg
      refine ⟨true,K (callsS (es.drop (j + 1))),rfl,⟨fun h=>absurd rfl h,fun _=>⟨nxt,fun _=>⟨⟨j + 1,by omega,by omega,rfl⟩,by dsimp only; omega⟩⟩⟩,HP.sep_comm (RoC.join hro (HP.sep_right H2))⟩
     | false=>exact ⟨false,Jx,rfl,⟨fun _=>fin _ (.of fun R h H=>⟨none,H⟩),fun h=>(by cases h)⟩,HP.sep_comm (RoC.join hro hb)⟩
 ·obtain rfl:j=n:=by omega
  have:es.drop j=[]:=List.drop_eq_nil_of_le (by omega)
  rw [this]
  exact fin _ (.of fun R h H=>⟨some [],rfl,HP.tt_sep H⟩)
end Go.Proofs.YtdieogcemmnaaaaGreatDoor

namespace Go.Proofs.YtdieogcemmnaaaaGreatDoor
set_option linter.unusedSimpArgs false
set_option linter.unusedVariables false
open Go.Proofs.YtdieogcemmnaaaaGreatDoor RX
set_option maxRecDepth 100000
def treeOf (T:List Nd):List (IdM × CallP) → List Nd
 | []=>T
 | x :: r=>treeOf (doS T x.2.kind x.2.path x.2.other x.2.off x.2.n x.2.data).1 r
set_option maxHeartbeats 1000000 in
theorem jNodes_ok (a:Option Addr) (n c:Nat) (es:List CellE) (S:HP) (cr:CellRd S a n es) (hn:n ≤ 1000):Tri Tryz.prog 48 #[.slice a n c] S
  (fun v=>HP.ex fun a'=>HP.ex fun c'=>HP.and (v = .slice a' (treeOf newT (callsS es)).length c') (HP.sep S (NodesR a' (treeOf newT (callsS es)).length (treeOf newT (callsS es))))):=by
 refine tri_of_tree (ρ:=[.a a,.n n,.n c,.p S]) mixed Tryz.func48 tree_jNodes ?_
 unfold t_jNodes
 simp only [T.den,E.prop,E.den,RX.look,F1.app,F2.app,Uni.int_i,Uni.nat_n,Uni.bool_c,Uni.str_s,Uni.adr_a,Uni.val_v,Uni.hp_p,hden,cden,V.den,W.den,A.den,BR.den,SA.den,FV.den,capV,exs,exP,allP,Cur.app,List.map_cons,List.map_nil,List.cons_append,List.nil_append,List.drop_succ_cons,List.drop_zero,List.length_cons,List.length_nil,Nat.zero_add,Nat.reduceAdd,Int.neg_neg,Bool.not_not,List.append_nil,Nat.add_zero,List.getElem?_cons_zero,List.getElem?_cons_succ,Decidable.not_not,semW_eq,ne_eq,Nat.reduceEqDiff,not_false_eq_true]
 refine tNew_ok.weak (fun _ _ h=>h) ?_
 rintro v R h ⟨b,t0,⟨rfl,ht0⟩,H⟩
 refine ⟨b,TRep b t0,rfl,fun _ => ?_,H⟩
 clear H
 refine (calls_ok a n c S).weak (fun _ _ h=>h) ?_
 rintro v R h ⟨nb,rfl,H⟩
 refine ⟨.func (.func 167) #[] #[.pointer (some ⟨nb,0,none⟩)],HP.one nb (.cells #[.slice a n c] 79 (0,0)),rfl,fun _ => ?_,H⟩
 clear H
 have hfew:(callsS es).length ≤ n:=by rw [← cr.len]; exact List.length_filterMap_le _ _
 refine ⟨List (IdM × CallP),fun _=>HP.tt,PrC,mayC,fun L=>L=[],callsS es,fun g p => ∃ (k:Nat) (t:TS),p=TRep b t ∧ TWf (1 + k) t.pub ∧ k + g.length ≤ n ∧ treeOf t.pub g=treeOf newT (callsS es),calls_seq nb a n c es S cr (by omega),?_,?_,?_,?_⟩
 ·exact ⟨0,t0,rfl,by rw [ht0]; exact newT_wf,by omega,by rw [ht0]⟩
 ·rintro g p _; rfl
 ·rintro g args ⟨g',id,q,da,dc,rfl,rfl,hq1,hq2⟩ p ⟨k,t,rfl,wf,hk,ht⟩
  refine ⟨id.1,id.2.1,id.2.2,q.kind,q.path,q.other,q.off,q.n,da,q.data.length,dc,RoB da q.data.length q.data,rfl,.of fun R h H => ?_,fun _ => ?_⟩
  ·obtain ⟨⟨⟨id',q'⟩,da',dc',L'⟩,⟨h1,h2⟩,H⟩:=H
   cases h1
   simp [CallP.val] at h2
   obtain ⟨rfl,rfl⟩:=h2
   exact H
  ·rw [List.length_cons] at hk
   refine (tDo_ok (by omega) wf (q.m da dc) (RoB da q.data.length q.data) q.data ⟨RdL.ro _ _ _ _,rfl,hq2⟩).weak (fun _ _ h=>h) ?_
   rintro v R h ⟨t',ht',da',dc',na',nc',rfl,H⟩
   exact ⟨_,_,_,_,da',_,dc',_,na',_,nc',_,TRep b t',RoB da q.data.length q.data,rfl,⟨g',⟨id,q,da,dc,rfl,rfl,hq1,hq2⟩,k + 1,t',rfl,by rw [ht']; exact (wf.do (by omega) _ _ _ _ _ _),by omega,by rw [ht',← ht]; rfl⟩,H⟩
 ·rintro g rfl p ⟨k,t,rfl,wf,hk,ht⟩
  refine (tNodes_ok (by omega) wf).weak (fun _ _ h=>h) ?_
  rintro v R h ⟨a',c',rfl,H⟩
  have e:t.pub=treeOf newT (callsS es):=ht
  rw [e] at H
  exact ⟨a',_,c',_,TRep b t,by rw [e],.of fun R h H=>⟨a',c',rfl,H⟩,H⟩
end Go.Proofs.YtdieogcemmnaaaaGreatDoor

namespace Go.Proofs.YtdieogcemmnaaaaGreatDoor
open Go.RowKit RX
set_option maxRecDepth 100000
section
variable {κ:Type} [DecidableEq κ]
def alBorn (k:κ) (c:Nat):AL κ → Nat
 | []=>c
 | x :: l=>if k=x.1 then x.2.2 else alBorn k c l
theorem alBorn_some (k:κ) (c:Nat) : ∀ (l:AL κ) (i j:Nat) (v:Value),alIdx k l i=some (j,v) → ∃ m,j=i + m ∧ l[m]? = some (k,v,alBorn k c l)
 | [],_,_,_,h=>by cases h
 | x :: l,i,j,v,h=>by
  unfold alIdx at h
  split at h
  ·rename_i e
   obtain ⟨k',v',b⟩:=x
   simp only at e; subst e
   injection h with h; injection h with h1 h2; subst h1; subst h2
   exact ⟨0,rfl,by simp [alBorn]⟩
  ·rename_i e
   obtain ⟨m,h1,h2⟩:=alBorn_some k c l _ _ _ h
   exact ⟨m + 1,by omega,by unfold alBorn; rw [if_neg e]; simpa using h2⟩
theorem alBorn_none (k:κ) (c:Nat) : ∀ (l:AL κ) (i:Nat),alIdx k l i=none → alBorn k c l=c
 | [],_,_=>rfl
 | x :: l,i,h=>by
  unfold alIdx at h
  split at h
  ·cases h
  ·rename_i e
   unfold alBorn
   rw [if_neg e,alBorn_none k c l _ h]
theorem set_same' {α:Type} : ∀ (l:List α) (k:Nat) (x:α),l[k]? = some x → l.set k x=l
 | y :: l,0,x,h=>by simp at h; rw [h]; rfl
 | y :: l,k + 1,x,h=>by simp at h; show y :: l.set k x=_; rw [set_same' l k x h]
 | [],_,_,h=>by simp at h
theorem run_mapEntry_raw {w:World} {kt et t:TypeId} {enc:κ → Value} (K:KeyEnc Tryz.prog kt enc) (ht:Tryz.prog.underlying t=some (.map kt et)) {i:TypeInfo} {z:Value} (hi:Tryz.prog.info? et=some i) (hz:i.zero=some z) {r:Nat} {l:AL κ} {c:Nat}
  (hb:w.heap[r]? = some (mapObj enc l c)) (k:κ) :
  (Instr.mapEntry t (.map (some r)) (enc k)).run Tryz.prog w = .ok (.tuple #[(alFind k l).getD z,goInt (alBorn k c l)]) (World.setObj w r (mapObj enc (alPut k ((alFind k l).getD z) c l) (alClock k l c))):=by
 unfold mapObj at hb
 unfold Instr.mapEntry
 simp only [Sem.run_bind,run_underlying ht,Result.andThen,run_getObj_map hb,K.check,K.find]
 have hf:=alIdx_find k l 0
 cases hx:alIdx k l 0 with
 | none =>
  rw [hx] at hf
  simp only [Sem.run_bind,run_zeroV hi hz,Result.andThen,run_setObj_map _ hb,alClock,← hf,Option.map_none,Option.getD_none,(alIdx_none k l 0 hx z c).1,alBorn_none k c l 0 hx,Sem.run_pure]
  simp [mapObj,toE]
 | some p =>
  obtain ⟨j,u⟩:=p
  rw [hx] at hf
  obtain ⟨m,b,h1,h2,h3⟩:=alIdx_some k l 0 j u hx
  obtain ⟨m',h4,h5⟩:=alBorn_some k c l 0 j u hx
  obtain rfl:j=m:=by omega
  obtain rfl:j=m':=by omega
  have hm:((l.map (toE enc)).toArray[j]?.map (·.key)).getD (enc k)=enc k:=by simp [h2,toE]
  have hbn:((l.map (toE enc)).toArray[j]?.map (fun x=>(x.born:Int))).getD 0=(alBorn k c l:Int):=by simp [h5,toE]
  simp only [hm,hbn,Instr.keyThatStays,K.bits,if_true,Sem.run_bind,Sem.run_pure,Result.andThen,run_setObj_map _ hb,alClock,← hf,Option.map_some,Option.getD_some,(h3 u c).1]
  rw [h5] at h2
  have hbb:b=alBorn k c l:=by injection h2 with h2; injection h2 with _ h2; injection h2 with _ h2; exact h2.symm
  rw [hbb,set_same' l j _ h5]
  simp only [Option.isSome_some,if_true]
  unfold mapObj
  congr 3
  apply Array.ext_getElem?
  intro i
  simp only [Array.getElem?_modify,List.getElem?_toArray,List.getElem?_map]
  split
  ·rename_i e; subst e; simp [h5,toE]
  ·rfl
theorem run_entryStore_raw {w:World} {t:TypeId} {enc:κ → Value} {r:Nat} {l:AL κ} {c:Nat} (hs:Stamps l c)
  (hb:w.heap[r]? = some (mapObj enc l c)) (k:κ) (x:Value) (hk:(alFind k l).isSome=true) :
  (Instr.entryStore t (.map (some r)) (goInt (alBorn k c l)) x).run Tryz.prog w = .ok () (World.setObj w r (mapObj enc (alPut k x c l) c)):=by
 have hf:=alIdx_find k l 0
 cases hx:alIdx k l 0 with
 | none=>rw [hx] at hf; rw [← hf] at hk; cases hk
 | some p =>
  obtain ⟨j,u⟩:=p
  obtain ⟨m,b,h1,h2,h3⟩:=alIdx_some k l 0 j u hx
  obtain ⟨m',h4,h5⟩:=alBorn_some k c l 0 j u hx
  obtain rfl:j=m:=by omega
  obtain rfl:j=m':=by omega
  rw [h5] at h2
  have hbb:b=alBorn k c l:=by injection h2 with h2; injection h2 with _ h2; injection h2 with _ h2; exact h2.symm
  have hj:j < l.length:=(List.getElem?_eq_some_iff.1 h5).1
  have hg:l[j]=(k,u,alBorn k c l):=by rw [List.getElem?_eq_getElem hj] at h5; exact Option.some.inj h5
  have hfi:(l.map (toE enc)).toArray.findIdx? (fun e=>(e.born:Int) == (alBorn k c l:Int))=some j:=by
   rw [Array.findIdx?_eq_some_iff_getElem]
   refine ⟨by simpa using hj,by simp [hg,toE],fun i hi => ?_⟩
   have hi':i < l.length:=by omega
   simp only [List.getElem_toArray,List.getElem_map,toE,beq_iff_eq]
   intro e
   have e2:(l[i]).2.2=(l[j]).2.2:=by rw [hg]; exact_mod_cast e
   have hn:=hs.2
   have:=(List.getElem_inj (h₀:=by rw [List.length_map]; exact hi') (h₁:=by rw [List.length_map]; exact hj) hn).1 (by rw [List.getElem_map,List.getElem_map]; exact e2)
   omega
  unfold mapObj at hb
  unfold Instr.entryStore
  have ha:(asInt (.int .i64 (alBorn k c l:Int))).run Tryz.prog w = .ok (alBorn k c l:Int) w:=rfl
  simp only [Sem.run_bind,Result.andThen,run_getObj_map hb,goInt,ha,Sem.run_pure,hfi,run_setObj_map _ hb,(h3 x c).1,hbb]
  unfold mapObj
  congr 3
  apply Array.ext_getElem?
  intro i
  simp only [Array.getElem?_modify,List.getElem?_toArray,List.getElem?_map,List.getElem?_set]
  split
  ·rename_i e; subst e; simp [hg,hj,toE]
  ·rfl
def mapES (t:TypeId) (m k:Value):Sem Next:=do pure (.value (← Instr.mapEntry t m k))
def estS (t:TypeId) (m s x:Value):Sem Next:=do Instr.entryStore t m s x; pure .skip
theorem mapEntry_ok {enc:κ → Value} {kt et t:TypeId} (K:KeyEnc Tryz.prog kt enc) (ht:Tryz.prog.underlying t=some (.map kt et)) {i:TypeInfo} {z:Value} (hi:Tryz.prog.info? et=some i) (hz:i.zero=some z) {r c:Nat} {l:AL κ} (k:κ) :
  OTri Tryz.prog (mapES t (.map (some r)) (enc k)) (HP.one r (mapObj enc l c)) (fun v=>HP.and (v = .tuple #[(alFind k l).getD z,goInt (alBorn k c l)]) (HP.one r (mapObj enc (alPut k ((alFind k l).getD z) c l) (alClock k l c)))):=fun w R h F s a=>by
 refine ⟨.value (.tuple #[(alFind k l).getD z,goInt (alBorn k c l)]),_,_,by unfold mapES; rw [Sem.run_bind,run_mapEntry_raw K ht hi hz (s.oh _ _ a) k]; rfl,rfl,Same.setObj _ _ _,R,_,PH.le.refl _,s.setObj a,rfl,if_pos rfl⟩
theorem entryStore_ok {enc:κ → Value} {t:TypeId} {r c:Nat} {l:AL κ} (hs:Stamps l c) (k:κ) (x:Value) (hk:(alFind k l).isSome=true) :
  OTri Tryz.prog (estS t (.map (some r)) (goInt (alBorn k c l)) x) (HP.one r (mapObj enc l c)) (fun v=>HP.and (v = .tuple #[]) (HP.one r (mapObj enc (alPut k x c l) c))):=fun w R h F s a=>by
 refine ⟨.skip,_,_,by unfold estS; rw [Sem.run_bind,run_entryStore_raw hs (s.oh _ _ a) k x hk]; rfl,rfl,Same.setObj _ _ _,R,_,PH.le.refl _,s.setObj a,rfl,if_pos rfl⟩
end
end Go.Proofs.YtdieogcemmnaaaaGreatDoor

namespace Go.Proofs.YtdieogcemmnaaaaGreatDoor.RX
set_option maxRecDepth 100000
-- bytes.Equal: ρ:=[.a aa,.n al,.n ac,.p aP,.a ba,.n bl,.n bc,.p bP]
def t_bEqual:T :=
(.read (.convert 28 9 (.tmp 5)) 9 [(5,.w (.a (.sl (.v 0) (.v 1) (.v 2))))] [(.a 0,.prop 3)] [.s] (.w (.a (.str (.v 8))))
(.read (.convert 28 9 (.tmp 7)) 9 [(7,.w (.a (.sl (.v 4) (.v 5) (.v 6))))] [(.a 4,.prop 7)] [.s] (.w (.a (.str (.v 9))))
(.ret (.w (.a (.bool (.o2 .seq (.v 8) (.v 9))))) [(.a 0,.prop 3),(.a 4,.prop 7)])))
theorem tree_bEqual:tree Tryz.prog { } Tryz.f168 [.a (.sl (.v 0) (.v 1) (.v 2)),.a (.sl (.v 4) (.v 5) (.v 6))] [(.a 0,.prop 3),(.a 4,.prop 7)] 8=t_bEqual:=by kernel_rfl
def t_sEqualS:T :=
(.br (.o1 .not (.o2 .eq (.o1 .ofNat (.v 1)) (.o1 .ofNat (.v 5))))
(.ret (.w (.a (.bool (.c false)))) [(.a 0,.prop 3),(.a 4,.prop 7)])
(.loop [.c,.i] [.e (.o1 .not (.o1 .not (.c false))),.e (.o1 .neg (.o1 .neg (.i 0)))]
(.br (.o2 .lt (.v 9) (.o1 .ofNat (.v 1)))
(.need (.o2 .le (.i 0) (.v 9))
(.need (.o1 .isSome (.v 0))
(.need (.o2 .lt (.v 9) (.o1 .ofNat (.v 5)))
(.need (.o1 .isSome (.v 4))
  (.all
(.read (.load 9 (.tmp 18)) 9 [(18,.w (.a (.eptr 0 (.v 9) 1 0)))] [(.a 0,.prop 3)] [.s] (.w (.a (.str (.v 10))))
(.read (.load 9 (.tmp 22)) 9 [(22,.w (.a (.eptr 4 (.v 9) 1 0)))] [(.a 4,.prop 7)] [.s] (.w (.a (.str (.v 11))))
(.br (.o1 .not (.o2 .seq (.v 10) (.v 11)))
(.ret (.w (.a (.bool (.c false)))) [(.a 0,.prop 3),(.a 4,.prop 7)])
(.need (.o1 (.inr .i64) (.o2 .add (.v 9) (.i 1)))
(.again 0 [.e (.o1 .not (.o1 .not (.v 8))),.e (.o1 .neg (.o1 .neg (.o2 .add (.v 9) (.i 1))))])))))
(.read (.load 9 (.tmp 22)) 9 [(22,.w (.a (.eptr 4 (.v 9) 1 0)))] [(.a 4,.prop 7)] [.s] (.w (.a (.str (.v 10))))
(.read (.load 9 (.tmp 18)) 9 [(18,.w (.a (.eptr 0 (.v 9) 1 0)))] [(.a 0,.prop 3)] [.s] (.w (.a (.str (.v 11))))
(.br (.o1 .not (.o2 .seq (.v 11) (.v 10)))
(.ret (.w (.a (.bool (.c false)))) [(.a 0,.prop 3),(.a 4,.prop 7)])
(.need (.o1 (.inr .i64) (.o2 .add (.v 9) (.i 1)))
(.again 0 [.e (.o1 .not (.o1 .not (.v 8))),.e (.o1 .neg (.o1 .neg (.o2 .add (.v 9) (.i 1))))]))))))))))
(.ret (.w (.a (.bool (.c true)))) [(.a 0,.prop 3),(.a 4,.prop 7)]))))
theorem tree_sEqualS:tree Tryz.prog { } Tryz.f169 [.a (.sl (.v 0) (.v 1) (.v 2)),.a (.sl (.v 4) (.v 5) (.v 6))] [(.a 0,.prop 3),(.a 4,.prop 7)] 8=t_sEqualS:=by kernel_rfl
end Go.Proofs.YtdieogcemmnaaaaGreatDoor.RX

namespace Go.Proofs.YtdieogcemmnaaaaGreatDoor
set_option linter.unusedSimpArgs false
set_option linter.unusedVariables false
open Go.Proofs.YtdieogcemmnaaaaGreatDoor RX
set_option maxRecDepth 100000
theorem bEqual_ok (a:Option Addr) (n c:Nat) (la:List UInt8) (b:Option Addr) (m d:Nat) (lb:List UInt8) (Sa Sb:HP) (hA:RdL Sa a n (la.map u8v)) (hB:RdL Sb b m (lb.map u8v)) (hla:la.length=n) (hlb:lb.length=m) :
  Tri Tryz.prog 168 #[.slice a n c,.slice b m d] (HP.sep Sa Sb) (fun v=>HP.and (v = .bool (decide (la=lb))) (HP.sep Sa Sb)):=by
 refine tri_of_tree (ρ:=[.a a,.n n,.n c,.p Sa,.a b,.n m,.n d,.p Sb]) mixed Tryz.func168 tree_bEqual ?_
 unfold t_bEqual
 simp only [T.den,E.prop,E.den,RX.look,F1.app,F2.app,Uni.int_i,Uni.nat_n,Uni.bool_c,Uni.str_s,Uni.adr_a,Uni.val_v,Uni.hp_p,hden,cden,V.den,W.den,A.den,BR.den,SA.den,FV.den,capV,exs,exP,allP,Cur.app,List.map_cons,List.map_nil,List.cons_append,List.nil_append,List.drop_succ_cons,List.drop_zero,List.length_cons,List.length_nil,Nat.zero_add,Nat.reduceAdd,Int.neg_neg,Bool.not_not,List.append_nil,Nat.add_zero,List.getElem?_cons_zero,List.getElem?_cons_succ,Decidable.not_not,semW_eq,ne_eq,Nat.reduceEqDiff,not_false_eq_true]
 exact ⟨_,convW6 hA hla,_,convW6 hB hlb,.of fun R h H=>⟨rfl,H⟩⟩
theorem sEqualS_ok (a:Option Addr) (n c:Nat) (la:List Nm) (b:Option Addr) (m d:Nat) (lb:List Nm) (Sa Sb:HP) (hA:RdL Sa a n (la.map sE)) (hB:RdL Sb b m (lb.map sE)) (hla:la.length=n) (hlb:lb.length=m) (hn:n ≤ 140737488355328) :
  Tri Tryz.prog 169 #[.slice a n c,.slice b m d] (HP.sep Sa Sb) (fun v=>HP.and (v = .bool (decide (la=lb))) (HP.sep Sa Sb)):=by
 refine Tri.fact (φ:=(n ≠ 0 → a.isSome=true) ∧ (m ≠ 0 → b.isSome=true)) (fun R h H=>⟨hA.isSome (HP.sep_left H),hB.isSome (HP.sep_right H)⟩) fun ⟨ha,hb⟩ => ?_
 refine tri_of_tree (ρ:=[.a a,.n n,.n c,.p Sa,.a b,.n m,.n d,.p Sb]) mixed Tryz.func169 tree_sEqualS ?_
 unfold t_sEqualS
 simp only [T.den,E.prop,E.den,RX.look,F1.app,F2.app,Uni.int_i,Uni.nat_n,Uni.bool_c,Uni.str_s,Uni.adr_a,Uni.val_v,Uni.hp_p,hden,cden,V.den,W.den,A.den,BR.den,SA.den,FV.den,capV,exs,exP,allP,Cur.app,List.map_cons,List.map_nil,List.cons_append,List.nil_append,List.drop_succ_cons,List.drop_zero,List.length_cons,List.length_nil,Nat.zero_add,Nat.reduceAdd,Int.neg_neg,Bool.not_not,List.append_nil,Nat.add_zero,List.getElem?_cons_zero,List.getElem?_cons_succ,Decidable.not_not,semW_eq,semW_load,ne_eq,Nat.reduceEqDiff,not_false_eq_true]
 refine ⟨fun h => .of fun R h' H=>⟨?_,H⟩,fun h => ?_⟩
 ·rw [decide_eq_false]
  intro e; subst e; omega
 have hnm:n=m:=by omega
 subst hnm
 refine ⟨fun _ i => ∃ k:Nat,i=k ∧ k ≤ n ∧ la.take k=lb.take k,fun _ i=>n - i.toNat,⟨0,rfl,Nat.zero_le _,rfl⟩,?_⟩
 rintro x _ ⟨k,rfl,hk,hpre⟩
 refine ⟨fun hlt=>⟨by omega,fun _=>⟨ha (by omega),fun _=>⟨by omega,fun _=>⟨hb (by omega),fun _ => ?_⟩⟩⟩⟩,fun hge => .of fun R h' H=>⟨?_,H⟩⟩
 ·obtain ⟨x,hx⟩:=getN (l:=la) (k:=k) (by omega)
  obtain ⟨y,hy⟩:=getN (l:=lb) (k:=k) (by omega)
  have ra:=loadStr hA.rd (k:=(k:Int).toNat) hx
  have rb:=loadStr hB.rd (k:=(k:Int).toNat) hy
  refine ⟨⟨_,ra,_,rb,fun h1 => .of fun R h' H=>⟨by rw [decide_eq_false (get_ne hx hy h1)],H⟩,fun h1=>⟨inI64' _ (by omega) (by omega),fun _=>⟨⟨k + 1,by omega,by omega,take_eq hx hy hpre h1⟩,by dsimp only; omega⟩⟩⟩,
   ⟨_,rb,_,ra,fun h1 => .of fun R h' H=>⟨by rw [decide_eq_false (get_ne hx hy h1)],H⟩,fun h1=>⟨inI64' _ (by omega) (by omega),fun _=>⟨⟨k + 1,by omega,by omega,take_eq hx hy hpre h1⟩,by dsimp only; omega⟩⟩⟩⟩
 ·have hke:k=n:=by omega
  subst hke
  rw [List.take_of_length_le (by omega),List.take_of_length_le (by omega)] at hpre
  rw [decide_eq_true hpre]
theorem jSame_ok (r s:AnsM) (da1:Option Addr) (dc1:Nat) (na1:Option Addr) (nc1:Nat) (da2:Option Addr) (dc2:Nat) (na2:Option Addr) (nc2:Nat) (D1 N1 D2 N2:HP)
  (hD1:RdL D1 da1 r.data.length (r.data.map u8v)) (hN1:RdL N1 na1 r.names.length (r.names.map sE)) (hD2:RdL D2 da2 s.data.length (s.data.map u8v)) (hN2:RdL N2 na2 s.names.length (s.names.map sE)) (hb2:r.names.length ≤ 140737488355328) :
  Tri Tryz.prog 114 #[r.at da1 dc1 na1 nc1,s.at da2 dc2 na2 nc2] (HP.sep D1 (HP.sep N1 (HP.sep D2 N2)))
   (fun v=>HP.and (v = .bool (decide (r=s))) (HP.sep D1 (HP.sep N1 (HP.sep D2 N2)))):=by
 refine tri_of_tree (ρ:=[.i r.err,.i r.kind,.i r.size,.i r.links,.a da1,.n r.data.length,.n dc1,.p D1,.a na1,.n r.names.length,.n nc1,.p N1,.i s.err,.i s.kind,.i s.size,.i s.links,.a da2,.n s.data.length,.n dc2,.p D2,.a na2,.n s.names.length,.n nc2,.p N2]) mixed Tryz.func114 tree_jSame ?_
 unfold t_jSame
 simp only [T.den,E.prop,E.den,RX.look,F1.app,F2.app,Uni.int_i,Uni.nat_n,Uni.bool_c,Uni.str_s,Uni.adr_a,Uni.val_v,Uni.hp_p,hden,cden,V.den,W.den,A.den,BR.den,SA.den,FV.den,capV,exs,exP,allP,Cur.app,List.map_cons,List.map_nil,List.cons_append,List.nil_append,List.drop_succ_cons,List.drop_zero,List.length_cons,List.length_nil,Nat.zero_add,Nat.reduceAdd,Int.neg_neg,Bool.not_not,List.append_nil,Nat.add_zero,List.getElem?_cons_zero,List.getElem?_cons_succ,Decidable.not_not,semW_eq,ne_eq,Nat.reduceEqDiff,not_false_eq_true]
 have no : ¬ r=s → HP.ent (HP.sep D1 (HP.sep N1 (HP.sep D2 N2))) (HP.and (Value.bool false = .bool (decide (r=s))) (HP.sep D1 (HP.sep N1 (HP.sep D2 N2)))):=fun h => .of fun R h' H=>⟨by rw [decide_eq_false h],H⟩
 intro _ _
 refine ⟨fun h1=>⟨fun h2=>⟨fun h3=>⟨fun h4 => ?_,fun h=>no fun e=>h (by rw [e])⟩,fun h=>no fun e=>h (by rw [e])⟩,fun h=>no fun e=>h (by rw [e])⟩,fun h=>no fun e=>h (by rw [e])⟩
 refine (bEqual_ok da1 _ dc1 r.data da2 _ dc2 s.data D1 D2 hD1 hD2 rfl rfl).weak (fun _ _ h=>h) ?_
 rintro v R h ⟨rfl,H⟩
 refine ⟨_,rfl,⟨fun h5 => ?_,fun h=>no fun e=>h (by rw [e]; simp)⟩,H⟩
 clear H
 refine (sEqualS_ok na1 _ nc1 r.names na2 _ nc2 s.names N1 N2 hN1 hN2 rfl rfl hb2).weak (fun _ _ h=>h) ?_
 rintro v R h ⟨rfl,H⟩
 refine ⟨_,rfl,.of fun R h H=>⟨?_,H⟩,H⟩
 replace h5:r.data=s.data:=by simpa using h5
 have:(r=s) ↔ r.names=s.names:=⟨fun e=>by rw [e],fun e=>by cases r; cases s; simp only at h1 h2 h3 h4 h5 e; subst h1 h2 h3 h4 h5 e; rfl⟩
 show Value.bool _=Value.bool _
 exact congrArg Value.bool (decide_eq_decide.2 this).symm
end Go.Proofs.YtdieogcemmnaaaaGreatDoor

namespace Go.Proofs.YtdieogcemmnaaaaGreatDoor
open Go.Proofs.YtdieogcemmnaaaaGreatDoor RX
set_option maxRecDepth 100000
abbrev BegM:=IdM × (Int × Int × Int) × (List UInt8 × List UInt8 × List UInt8)
def begV (k:BegM):Value := .agg #[.int .i64 k.1.1,.int .i64 k.1.2.1,.int .i64 k.1.2.2,.int .i64 k.2.1.1,.int .i64 k.2.1.2.1,.int .i64 k.2.1.2.2,sE k.2.2.1,sE k.2.2.2.1,sE k.2.2.2.2]
theorem undStrT:Tryz.prog.underlying 9=some .string:=by kernel_rfl
theorem run_part_str {w:World} (cs:Array Value) (i:Nat) (v:Value) (hv:cs[i]? = some v):(part 9 cs i).run Tryz.prog w = .ok v w:=by
 have hagg:(isAgg 9).run Tryz.prog w = .ok false w:=by
  unfold isAgg
  rw [Sem.run_bind,run_underlying undStrT]
  rfl
 simp [part,hagg,hv]
theorem idInfo:(Tryz.prog.info? 57).map (fun i=>i.size)=some 3:=by kernel_rfl
theorem run_part_id {w:World} (cs:Array Value) (a b c:Value) (h:cs.extract 0 3 = #[a,b,c]):(part 57 cs 0).run Tryz.prog w = .ok (.agg #[a,b,c]) w:=by
 have hagg:(isAgg 57).run Tryz.prog w = .ok true w:=by
  unfold isAgg
  rw [Sem.run_bind,run_underlying undIdT]
  rfl
 obtain ⟨i,hi,_⟩:=Option.map_eq_some_iff.1 idInfo
 have hsz:(Go.sizeOf 57).run Tryz.prog w = .ok 3 w:=by
  rw [RX.run_sizeOf hi]
  exact congrArg (fun x=>Result.ok x w) (show szT Tryz.prog 57=3 by kernel_rfl)
 simp [part,hagg,hsz,h]
theorem idCheck (em:Bool) (m:Nat) (k:IdM) (w:World):(Instr.checkKey em (m + 2) 57 (idV k)).run Tryz.prog w = .ok () w:=by
 obtain ⟨f0,f1,f2,hf,⟨n0,t0,o0⟩,⟨n1,t1,o1⟩,n2,t2,o2⟩:=idFs'
 have hck : ∀ (n:Int) (w:World),(Instr.checkKey em (m + 1) 3 (.int .i64 n)).run Tryz.prog w = .ok () w:=by
  intro n w
  unfold Instr.checkKey
  simp [run_underlying undIn]
 obtain ⟨a,b,c⟩:=k
 have q0 : ∀ (w:World),(part 3 #[.int .i64 a,.int .i64 b,.int .i64 c] 0).run Tryz.prog w = .ok (.int .i64 a) w:=fun w=>run_part_int undIn _ 0 _ rfl
 have q1 : ∀ (w:World),(part 3 #[.int .i64 a,.int .i64 b,.int .i64 c] 1).run Tryz.prog w = .ok (.int .i64 b) w:=fun w=>run_part_int undIn _ 1 _ rfl
 have q2 : ∀ (w:World),(part 3 #[.int .i64 a,.int .i64 b,.int .i64 c] 2).run Tryz.prog w = .ok (.int .i64 c) w:=fun w=>run_part_int undIn _ 2 _ rfl
 unfold Instr.checkKey idV
 simp only [Sem.run_bind,run_underlying undIdT,Result.andThen_ok]
 rw [← Array.forIn_toList,hf]
 simp only [List.forIn_cons,List.forIn_nil,Sem.run_bind,n0,n1,n2,t0,t1,t2,o0,o1,o2,ne_eq,not_false_eq_true,if_true,q0,q1,q2,Result.andThen_ok,hck,Sem.run_pure]
theorem idEq (d:Nat) (k k':IdM) (w:World):(Op.equalIn (d + 1 + 1) 57 (idV k) (idV k')).run Tryz.prog w = .ok (decide (k=k')) w:=by
 obtain ⟨f0,f1,f2,hf,⟨n0,t0,o0⟩,⟨n1,t1,o1⟩,n2,t2,o2⟩:=idFs'
 obtain ⟨a,b,c⟩:=k
 obtain ⟨x,y,z⟩:=k'
 have q0 : ∀ (a b c:Int) (w:World),(part 3 #[.int .i64 a,.int .i64 b,.int .i64 c] 0).run Tryz.prog w = .ok (.int .i64 a) w:=fun a b c w=>run_part_int undIn _ 0 _ rfl
 have q1 : ∀ (a b c:Int) (w:World),(part 3 #[.int .i64 a,.int .i64 b,.int .i64 c] 1).run Tryz.prog w = .ok (.int .i64 b) w:=fun a b c w=>run_part_int undIn _ 1 _ rfl
 have q2 : ∀ (a b c:Int) (w:World),(part 3 #[.int .i64 a,.int .i64 b,.int .i64 c] 2).run Tryz.prog w = .ok (.int .i64 c) w:=fun a b c w=>run_part_int undIn _ 2 _ rfl
 have he : ∀ (a b:Int) (w:World),(Op.equalIn (d + 1) 3 (.int .i64 a) (.int .i64 b)).run Tryz.prog w = .ok (a == b) w:=fun a b w=>run_equalIn_int w d _ _ _ _ _ undIn
 unfold idV
 rw [run_equalIn_struct w _ _ _ _ undIdT heldId,hf]
 simp only [Op.eqFields,n0,n1,n2,t0,t1,t2,o0,o1,o2,ne_eq,not_false_eq_true,if_true,Sem.run_bind,q0,q1,q2,Result.andThen_ok,he]
 by_cases h1:a=x
 ·by_cases h2:b=y
  ·by_cases h3:c=z
   ·simp [h1,h2,h3,q1,q2,he]
   ·simp [h1,h2,h3,q1,q2,he]
  ·simp [h1,h2,q1,he]
 ·simp [h1]
theorem begFs:(Tryz.prog.fieldsOf 193).toList.map (fun f=>(decide (f.name = "_"),f.type,f.offset))=[(false,57,0),(false,3,3),(false,3,4),(false,3,5),(false,9,6),(false,9,7),(false,9,8)]:=by kernel_rfl
theorem undBeg:Tryz.prog.underlying 193=some (.struct (Tryz.prog.fieldsOf 193)):=by kernel_rfl
theorem heldBeg:Tryz.prog.stoodInHeld 193=false:=by kernel_rfl
theorem begK:KeyEnc Tryz.prog 193 begV:=by
 have h:=begFs
 obtain ⟨f0,_,e0,h0,h⟩:=List.map_eq_cons_iff.1 h
 obtain ⟨f1,_,e1,h1,h⟩:=List.map_eq_cons_iff.1 h
 obtain ⟨f2,_,e2,h2,h⟩:=List.map_eq_cons_iff.1 h
 obtain ⟨f3,_,e3,h3,h⟩:=List.map_eq_cons_iff.1 h
 obtain ⟨f4,_,e4,h4,h⟩:=List.map_eq_cons_iff.1 h
 obtain ⟨f5,_,e5,h5,h⟩:=List.map_eq_cons_iff.1 h
 obtain ⟨f6,_,e6,h6,h⟩:=List.map_eq_cons_iff.1 h
 have e7:=List.map_eq_nil_iff.1 h
 subst e7 e6 e5 e4 e3 e2 e1
 simp only [Prod.mk.injEq,decide_eq_false_iff_not] at h0 h1 h2 h3 h4 h5 h6
 obtain ⟨n0,t0,o0⟩:=h0
 obtain ⟨n1,t1,o1⟩:=h1
 obtain ⟨n2,t2,o2⟩:=h2
 obtain ⟨n3,t3,o3⟩:=h3
 obtain ⟨n4,t4,o4⟩:=h4
 obtain ⟨n5,t5,o5⟩:=h5
 obtain ⟨n6,t6,o6⟩:=h6
 have ckI : ∀ (em:Bool) (n:Int) (w:World),(Instr.checkKey em 9999 3 (.int .i64 n)).run Tryz.prog w = .ok () w:=by
  intro em n w
  unfold Instr.checkKey
  simp [run_underlying undIn]
 have ckS : ∀ (em:Bool) (s:List UInt8) (w:World),(Instr.checkKey em 9999 9 (sE s)).run Tryz.prog w = .ok () w:=by
  intro em n w
  unfold Instr.checkKey
  simp [run_underlying undStrT,sE]
 have ckD : ∀ (em:Bool) (k:IdM) (w:World),(Instr.checkKey em 9999 57 (.agg #[.int .i64 k.1,.int .i64 k.2.1,.int .i64 k.2.2])).run Tryz.prog w = .ok () w:=fun em k w=>idCheck em 9997 k w
 have eqI : ∀ (a b:Int) (w:World),(Op.equalIn 9999 3 (.int .i64 a) (.int .i64 b)).run Tryz.prog w = .ok (decide (a=b)) w:=fun a b w=>(run_equalIn_int w 9998 _ _ _ _ _ undIn).trans (by by_cases h:a=b <;> simp [h])
 have eqS : ∀ (a b:List UInt8) (w:World),(Op.equalIn 9999 9 (sE a) (sE b)).run Tryz.prog w = .ok (decide (a=b)) w:=fun a b w=>(run_equalIn_string w 9998 _ _ _ undStrT).trans (by rw [RX.str_eq])
 have eqD : ∀ (a b:IdM) (w:World),(Op.equalIn 9999 57 (.agg #[.int .i64 a.1,.int .i64 a.2.1,.int .i64 a.2.2]) (.agg #[.int .i64 b.1,.int .i64 b.2.1,.int .i64 b.2.2])).run Tryz.prog w = .ok (decide (a=b)) w:=fun a b w=>idEq 9997 a b w
 have p0 : ∀ (k:BegM) (w:World),(part 57 #[.int .i64 k.1.1,.int .i64 k.1.2.1,.int .i64 k.1.2.2,.int .i64 k.2.1.1,.int .i64 k.2.1.2.1,.int .i64 k.2.1.2.2,sE k.2.2.1,sE k.2.2.2.1,sE k.2.2.2.2] 0).run Tryz.prog w = .ok (.agg #[.int .i64 k.1.1,.int .i64 k.1.2.1,.int .i64 k.1.2.2]) w:=fun k w=>run_part_id _ _ _ _ (by simp)
 have p1 : ∀ (v0 v1 v2 v3 v4 v5 v6 v7 v8:Value) (w:World),(part 3 #[v0,v1,v2,v3,v4,v5,v6,v7,v8] 3).run Tryz.prog w = .ok v3 w:=fun v0 v1 v2 v3 v4 v5 v6 v7 v8 w=>run_part_int undIn _ 3 _ rfl
 have p2 : ∀ (v0 v1 v2 v3 v4 v5 v6 v7 v8:Value) (w:World),(part 3 #[v0,v1,v2,v3,v4,v5,v6,v7,v8] 4).run Tryz.prog w = .ok v4 w:=fun v0 v1 v2 v3 v4 v5 v6 v7 v8 w=>run_part_int undIn _ 4 _ rfl
 have p3 : ∀ (v0 v1 v2 v3 v4 v5 v6 v7 v8:Value) (w:World),(part 3 #[v0,v1,v2,v3,v4,v5,v6,v7,v8] 5).run Tryz.prog w = .ok v5 w:=fun v0 v1 v2 v3 v4 v5 v6 v7 v8 w=>run_part_int undIn _ 5 _ rfl
 have p4 : ∀ (v0 v1 v2 v3 v4 v5 v6 v7 v8:Value) (w:World),(part 9 #[v0,v1,v2,v3,v4,v5,v6,v7,v8] 6).run Tryz.prog w = .ok v6 w:=fun v0 v1 v2 v3 v4 v5 v6 v7 v8 w=>run_part_str _ 6 _ rfl
 have p5 : ∀ (v0 v1 v2 v3 v4 v5 v6 v7 v8:Value) (w:World),(part 9 #[v0,v1,v2,v3,v4,v5,v6,v7,v8] 7).run Tryz.prog w = .ok v7 w:=fun v0 v1 v2 v3 v4 v5 v6 v7 v8 w=>run_part_str _ 7 _ rfl
 have p6 : ∀ (v0 v1 v2 v3 v4 v5 v6 v7 v8:Value) (w:World),(part 9 #[v0,v1,v2,v3,v4,v5,v6,v7,v8] 8).run Tryz.prog w = .ok v8 w:=fun v0 v1 v2 v3 v4 v5 v6 v7 v8 w=>run_part_str _ 8 _ rfl
 refine asking_enc undBeg (fun a b=>rfl) ?_ ?_ ?_
 ·intro em k w
  unfold Instr.checkKey begV
  simp only [Sem.run_bind,run_underlying undBeg,Result.andThen_ok]
  rw [← Array.forIn_toList,e0]
  simp only [List.forIn_cons,List.forIn_nil,Sem.run_bind,n0,n1,n2,n3,n4,n5,n6,t0,t1,t2,t3,t4,t5,t6,o0,o1,o2,o3,o4,o5,o6,ne_eq,not_false_eq_true,if_true,p0 k,p1,p2,p3,p4,p5,p6,Result.andThen_ok,ckI,ckS,ckD,Sem.run_pure]
 ·intro k k' w
  unfold Op.equal begV
  rw [show Op.maxDepth=9998 + 1 + 1 from rfl,run_equalIn_struct w _ _ _ _ undBeg heldBeg,e0]
  simp only [Op.eqFields,n0,n1,n2,n3,n4,n5,n6,t0,t1,t2,t3,t4,t5,t6,o0,o1,o2,o3,o4,o5,o6,ne_eq,not_false_eq_true,if_true,Sem.run_bind,p0 k,p0 k',Result.andThen_ok,eqD]
  by_cases c0:k.1=k'.1
  ·by_cases c1:k.2.1.1=k'.2.1.1
   ·by_cases c2:k.2.1.2.1=k'.2.1.2.1
    ·by_cases c3:k.2.1.2.2=k'.2.1.2.2
     ·by_cases c4:k.2.2.1=k'.2.2.1
      ·by_cases c5:k.2.2.2.1=k'.2.2.2.1
       ·by_cases c6:k.2.2.2.2=k'.2.2.2.2
        ·have e:k=k':=Prod.ext c0 (Prod.ext (Prod.ext c1 (Prod.ext c2 c3)) (Prod.ext c4 (Prod.ext c5 c6)))
         simp [e,p1,p2,p3,p4,p5,p6,eqI,eqS]
        ·have e:k ≠ k':=fun e=>c6 (by rw [e])
         simp [c0,c1,c2,c3,c4,c5,c6,e,p1,p2,p3,p4,p5,p6,eqI,eqS]
       ·have e:k ≠ k':=fun e=>c5 (by rw [e])
        simp [c0,c1,c2,c3,c4,c5,e,p1,p2,p3,p4,p5,p6,eqI,eqS]
      ·have e:k ≠ k':=fun e=>c4 (by rw [e])
       simp [c0,c1,c2,c3,c4,e,p1,p2,p3,p4,p5,p6,eqI,eqS]
     ·have e:k ≠ k':=fun e=>c3 (by rw [e])
      simp [c0,c1,c2,c3,e,p1,p2,p3,p4,p5,p6,eqI,eqS]
    ·have e:k ≠ k':=fun e=>c2 (by rw [e])
     simp [c0,c1,c2,e,p1,p2,p3,p4,p5,p6,eqI,eqS]
   ·have e:k ≠ k':=fun e=>c1 (by rw [e])
    simp [c0,c1,e,p1,p2,p3,p4,p5,p6,eqI,eqS]
  ·have e:k ≠ k':=fun e=>c0 (by rw [e])
   simp [c0,e,p1,p2,p3,p4,p5,p6,eqI,eqS]
 ·intro k
  simp [begV,Instr.sameBits,sE,bytes_beq]
end Go.Proofs.YtdieogcemmnaaaaGreatDoor

namespace Go.Proofs.YtdieogcemmnaaaaGreatDoor
open Go.Proofs.YtdieogcemmnaaaaGreatDoor RX
theorem semW_mapEntry {t ty:TypeId} {i j:Nat} {u v:Value} (h:i ≠ j):semW (.mapEntry t (.tmp i) (.tmp j)) ty [(i,u),(j,v)]=mapES t u v:=by
 have h':(i == j)=false:=by simpa using h
 simp [semW,execOp,arW,h',mapES]
theorem semW_entryStore {t ty:TypeId} {i j q:Nat} {u v x:Value} (h:i ≠ j) (h2:i ≠ q) (h3:j ≠ q):semW (.entryStore t (.tmp i) (.tmp j) (.tmp q)) ty [(i,u),(j,v),(q,x)]=estS t u v x:=by
 have h':(i == j)=false:=by simpa using h
 have h2':(i == q)=false:=by simpa using h2
 have h3':(j == q)=false:=by simpa using h3
 simp [semW,execOp,arW,h',h2',h3',estS]
end Go.Proofs.YtdieogcemmnaaaaGreatDoor

namespace Go.Proofs.YtdieogcemmnaaaaGreatDoor
set_option linter.unusedSimpArgs false
set_option linter.unusedVariables false
open Go.Proofs.YtdieogcemmnaaaaGreatDoor RX
set_option maxRecDepth 100000
def begOf (id:IdM) (c:CallP):BegM:=(id,(c.kind,c.off,c.n),(c.path,c.other,c.data))
theorem begOf_inj {i j:IdM} {c d:CallP}:begOf i c=begOf j d ↔ i=j ∧ c=d:=by
 constructor
 ·intro h
  obtain ⟨k1,p1,o1,f1,n1,d1⟩:=c
  obtain ⟨k2,p2,o2,f2,n2,d2⟩:=d
  simp only [begOf,Prod.mk.injEq] at h
  obtain ⟨h0,⟨h1,h2,h3⟩,h4,h5,h6⟩:=h
  subst h0 h1 h2 h3 h4 h5 h6
  exact ⟨rfl,rfl⟩
 ·rintro ⟨rfl,rfl⟩; rfl
theorem beganOf_ok (id:IdM) (c:CallP) (a:Option Addr) (cc:Nat) (S:HP) (hr:RdL S a c.data.length (c.data.map u8v)):Tri Tryz.prog 110 #[idV id,c.val a cc] S (fun v=>HP.and (v=begV (begOf id c)) S):=by
 refine tri_of_tree (ρ:=[.i id.1,.i id.2.1,.i id.2.2,.i c.kind,.s c.path,.s c.other,.i c.off,.i c.n,.a a,.n c.data.length,.n cc,.p S]) mixed Tryz.func110 tree_jBeganOf ?_
 unfold t_jBeganOf
 simp only [T.den,E.prop,E.den,RX.look,F1.app,F2.app,Uni.int_i,Uni.nat_n,Uni.bool_c,Uni.str_s,Uni.adr_a,Uni.val_v,Uni.hp_p,hden,cden,V.den,W.den,A.den,BR.den,SA.den,FV.den,capV,exs,exP,allP,Cur.app,List.map_cons,List.map_nil,List.cons_append,List.nil_append,List.drop_succ_cons,List.drop_zero,List.length_cons,List.length_nil,Nat.zero_add,Nat.reduceAdd,Int.neg_neg,Bool.not_not,List.append_nil,Nat.add_zero,List.getElem?_cons_zero,List.getElem?_cons_succ,Decidable.not_not,semW_eq,ne_eq,Nat.reduceEqDiff,not_false_eq_true]
 exact fun _ _ _=>⟨_,convW6 hr rfl,.of fun R h H=>⟨rfl,H⟩⟩
end Go.Proofs.YtdieogcemmnaaaaGreatDoor

namespace Go.Proofs.YtdieogcemmnaaaaGreatDoor
open Go.Proofs.YtdieogcemmnaaaaGreatDoor RX
set_option maxRecDepth 100000
structure DeedP where
 id:IdM
 call:CallP
 be:Int
 en:Int
 ans:AnsM
def DeedP.ansd (d:DeedP):Bool:=decide (0 ≤ d.en) && decide (d.ans.err ≠ 30)
structure JS where
 T:List Nd
 first:IdM → Option Nat
 n:Nat
 tw:Bool
 nob:Bool
 wr:Bool
def ansOf (T:List Nd) (c:CallP):AnsM:=(doS T c.kind c.path c.other c.off c.n c.data).2
def nextT (T:List Nd) (c:CallP):List Nd:=(doS T c.kind c.path c.other c.off c.n c.data).1
def begun (ds:List DeedP) (x:IdM × CallP):Bool:=ds.any fun d=>decide (begOf d.id d.call=begOf x.1 x.2)
def wrongS (ds:List DeedP) (id:IdM) (r:AnsM):Bool:=ds.any fun d=>d.ansd && decide (d.id=id) && decide (d.ans ≠ r)
def putF (f:IdM → Option Nat) (k:IdM) (n:Nat):IdM → Option Nat:=match f k with
 | some _=>f
 | none=>fput f k (some n)
def jstep (ds:List DeedP) (s:JS) (x:IdM × CallP):JS where
 T:=nextT s.T x.2
 first:=putF s.first x.1 s.n
 n:=s.n + 1
 tw:=s.tw || (s.first x.1).isSome
 nob:=s.nob || !begun ds x
 wr:=s.wr || ((s.first x.1).isNone && wrongS ds x.1 (ansOf s.T x.2))
def jrun (ds:List DeedP):JS → List (IdM × CallP) → JS
 | s,[]=>s
 | s,x :: r=>jrun ds (jstep ds s x) r
def js0:JS:=⟨newT,fun _=>none,0,false,false,false⟩
def missS (f:IdM → Option Nat) (ds:List DeedP):Bool:=ds.any fun d=>d.ansd && (f d.id).isNone
def lateP (f:IdM → Option Nat) (d e:DeedP):Prop := ∃ i j,f d.id=some i ∧ f e.id=some j ∧ e.ansd=true ∧ e.en < d.be ∧ i < j
def lateQ (f:IdM → Option Nat) (ds:List DeedP):Prop := ∃ d ∈ ds,∃ e ∈ ds,lateP f d e
open Classical in
noncomputable def lateS (f:IdM → Option Nat) (ds:List DeedP):Bool:=decide (lateQ f ds)
def flagsL (a b c d e:Bool):List Int:=(if a then [1] else []) ++ (if b then [2] else []) ++ (if c then [3] else []) ++ (if d then [4] else []) ++ (if e then [5] else [])
noncomputable def faultsS (ds:List DeedP) (L:List (IdM × CallP)):List Int :=
 flagsL (jrun ds js0 L).tw (jrun ds js0 L).nob (missS (jrun ds js0 L).first ds) (jrun ds js0 L).wr (lateS (jrun ds js0 L).first ds)
theorem jrun_app (ds:List DeedP) (L M:List (IdM × CallP)) : ∀ s,jrun ds s (L ++ M)=jrun ds (jrun ds s L) M:=by
 induction L with
 | nil=>intro s; rfl
 | cons x L ih=>intro s; exact ih _
theorem jrun_T (ds:List DeedP) (L:List (IdM × CallP)) : ∀ s,(jrun ds s L).T=treeOf s.T L ∧ (jrun ds s L).n=s.n + L.length:=by
 induction L with
 | nil=>intro s; exact ⟨rfl,rfl⟩
 | cons x L ih =>
  intro s
  obtain ⟨h1,h2⟩:=ih (jstep ds s x)
  refine ⟨h1,?_⟩
  show (jrun ds (jstep ds s x) L).n=_
  rw [h2]
  show s.n + 1 + L.length=s.n + (L.length + 1)
  omega
theorem jrun_nob (ds:List DeedP) (L:List (IdM × CallP)) : ∀ s,(jrun ds s L).nob=(s.nob || L.any fun x => !begun ds x):=by
 induction L with
 | nil=>intro s; simp [jrun]
 | cons x L ih =>
  intro s
  show (jrun ds (jstep ds s x) L).nob=_
  rw [ih,List.any_cons]
  show (s.nob || !begun ds x || _)=_
  rw [Bool.or_assoc]
theorem jrun_once (ds:List DeedP) (L:List (IdM × CallP)) : ∀ s:JS,(L.map (·.1)).Nodup → (∀ x ∈ L,s.first x.1=none) →
  (jrun ds s L).tw=s.tw ∧ (∀ k x,L[k]? = some x → (jrun ds s L).first x.1=some (s.n + k)) ∧ (∀ id,id ∉ L.map (·.1) → (jrun ds s L).first id=s.first id) ∧
  ((jrun ds s L).wr=true ↔ s.wr=true ∨ ∃ k x,L[k]? = some x ∧ wrongS ds x.1 (ansOf (treeOf s.T (L.take k)) x.2)=true):=by
 induction L with
 | nil=>intro s _ _; exact ⟨rfl,fun k x h=>by simp at h,fun _ _=>rfl,⟨fun h => .inl h,fun h=>h.elim id fun ⟨k,x,h,_⟩=>by simp at h⟩⟩
 | cons y L ih =>
  intro s hn h0
  rw [List.map_cons,List.nodup_cons] at hn
  have hy:s.first y.1=none:=h0 y (by simp)
  have hf:(jstep ds s y).first=fput s.first y.1 (some s.n):=by show putF _ _ _=_; unfold putF; rw [hy]
  have h1 : ∀ x ∈ L,(jstep ds s y).first x.1=none:=fun x hx=>by
   rw [hf]; unfold fput
   rw [if_neg (fun e=>hn.1 (List.mem_map.2 ⟨x,hx,e⟩))]
   exact h0 x (by simp [hx])
  obtain ⟨q1,q2,q3,q4⟩:=ih (jstep ds s y) hn.2 h1
  refine ⟨?_,?_,?_,?_⟩
  ·show (jrun ds (jstep ds s y) L).tw=_
   rw [q1]
   show (s.tw || (s.first y.1).isSome)=_
   rw [hy]; simp
  ·intro k x hk
   show (jrun ds (jstep ds s y) L).first x.1=_
   cases k with
   | zero =>
    simp at hk; subst hk
    rw [q3 _ hn.1,hf]; unfold fput; rw [if_pos rfl]; rfl
   | succ k =>
    rw [q2 k x (by simpa using hk)]
    show some (s.n + 1 + k)=_
    congr 1; omega
  ·intro id hid
   show (jrun ds (jstep ds s y) L).first id=_
   rw [List.map_cons,List.mem_cons,not_or] at hid
   rw [q3 _ hid.2,hf]; unfold fput; rw [if_neg hid.1]
  ·show (jrun ds (jstep ds s y) L).wr=true ↔ _
   rw [q4]
   have e1:(jstep ds s y).wr=(s.wr || wrongS ds y.1 (ansOf s.T y.2)):=by
    show (s.wr || ((s.first y.1).isNone && _))=_
    rw [hy]; rfl
   rw [e1,Bool.or_eq_true,or_assoc]
   refine or_congr Iff.rfl ⟨?_,?_⟩
   ·rintro (h | ⟨k,x,hk,h⟩)
    ·exact ⟨0,y,rfl,h⟩
    ·exact ⟨k + 1,x,by simpa using hk,h⟩
   ·rintro ⟨k,x,hk,h⟩
    cases k with
    | zero=>simp at hk; subst hk; exact .inl h
    | succ k=>exact .inr ⟨k,x,by simpa using hk,h⟩
def idN (k:Nat):IdM:=(0,0,(k:Int))
theorem idN_inj {i j:Nat} (h:idN i=idN j):i=j:=by
 unfold idN at h
 simp only [Prod.mk.injEq,true_and] at h
 exact Int.ofNat.inj h
def logL (cs:List CallP):List (IdM × CallP):=cs.mapIdx fun k c=>(idN k,c)
def trC (cs:List CallP):List Nd:=cs.foldl nextT newT
def dsL (be en:Nat → Int) (cs:List CallP):List DeedP:=cs.mapIdx fun k c=>⟨idN k,c,be k,en k,ansOf (trC (cs.take k)) c⟩
theorem treeOf_fold (L:List (IdM × CallP)) : ∀ T,treeOf T L=(L.map (·.2)).foldl nextT T:=by
 induction L with
 | nil=>intro T; rfl
 | cons x L ih=>intro T; exact ih _
theorem logL_len (cs:List CallP):(logL cs).length=cs.length:=List.length_mapIdx
theorem logL_get (cs:List CallP) (k:Nat):(logL cs)[k]? = (cs[k]?).map fun c=>(idN k,c):=List.getElem?_mapIdx
theorem dsL_len (be en:Nat → Int) (cs:List CallP):(dsL be en cs).length=cs.length:=List.length_mapIdx
theorem dsL_get (be en:Nat → Int) (cs:List CallP) (k:Nat):(dsL be en cs)[k]? = (cs[k]?).map fun c=>⟨idN k,c,be k,en k,ansOf (trC (cs.take k)) c⟩:=List.getElem?_mapIdx
theorem logL_tree (cs:List CallP) (k:Nat):treeOf newT ((logL cs).take k)=trC (cs.take k):=by
 rw [treeOf_fold,List.map_take]
 have:(logL cs).map (·.2)=cs:=List.ext_getElem? fun i=>by
  rw [List.getElem?_map,logL_get]
  cases cs[i]? <;> rfl
 rw [this]; rfl
theorem nodup_get {α:Type} {l:List α} (h : ∀ (i j:Nat) (x:α),l[i]? = some x → l[j]? = some x → i=j):l.Nodup:=by
 unfold List.Nodup
 rw [List.pairwise_iff_getElem]
 intro i j hi hj hij e
 have:=h i j l[i] (List.getElem?_eq_getElem hi) (by rw [List.getElem?_eq_getElem hj,e])
 omega
theorem logL_nodup (cs:List CallP):((logL cs).map (·.1)).Nodup:=nodup_get fun i j x hi hj=>by
 rw [List.getElem?_map,logL_get] at hi hj
 cases h1:cs[i]? with
 | none=>rw [h1] at hi; cases hi
 | some c =>
  cases h2:cs[j]? with
  | none=>rw [h2] at hj; cases hj
  | some d =>
   rw [h1] at hi; rw [h2] at hj
   simp only [Option.map_some,Option.some.injEq] at hi hj
   exact idN_inj (hi.trans hj.symm)
structure DsOk (be en:Nat → Int) (cs:List CallP) (ds:List DeedP):Prop where
 len:ds.length=cs.length
 at' : ∀ k d,ds[k]? = some d → cs[k]? = some d.call ∧ d.id=idN k ∧ d.be=be k ∧ d.en=en k
theorem dsL_ok (be en:Nat → Int) (cs:List CallP):DsOk be en cs (dsL be en cs):=⟨dsL_len be en cs,fun k d h=>by
 rw [dsL_get] at h
 cases hc:cs[k]? with
 | none=>rw [hc] at h; cases h
 | some c=>rw [hc] at h; cases h; exact ⟨rfl,rfl,rfl,rfl⟩⟩
section
variable {be en:Nat → Int} {cs:List CallP} {ds:List DeedP}
theorem DsOk.mem (o:DsOk be en cs ds) {d:DeedP} (hd:d ∈ ds) : ∃ k,k < cs.length ∧ ds[k]? = some d ∧ cs[k]? = some d.call ∧ d.id=idN k ∧ d.be=be k ∧ d.en=en k:=by
 obtain ⟨k,hk⟩:=List.mem_iff_getElem?.1 hd
 have hl:=(List.getElem?_eq_some_iff.1 hk).1
 rw [o.len] at hl
 obtain ⟨h1,h2,h3,h4⟩:=o.at' k d hk
 exact ⟨k,hl,hk,h1,h2,h3,h4⟩
theorem DsOk.begun (o:DsOk be en cs ds) {k:Nat} {c:CallP} (hc:cs[k]? = some c):begun ds (idN k,c)=true:=by
 have hl:=(List.getElem?_eq_some_iff.1 hc).1
 have hl2:k < ds.length:=by rw [o.len]; exact hl
 have hk:ds[k]? = some ds[k]:=List.getElem?_eq_getElem hl2
 obtain ⟨h1,h2,_⟩:=o.at' k _ hk
 unfold Go.Proofs.YtdieogcemmnaaaaGreatDoor.begun
 rw [List.any_eq_true]
 refine ⟨_,List.mem_of_getElem? hk,?_⟩
 rw [decide_eq_true_eq,begOf_inj]
 refine ⟨h2,?_⟩
 rw [hc] at h1
 exact (Option.some.inj h1).symm
theorem DsOk.wrong (o:DsOk be en cs ds) {k:Nat} {d:DeedP} (hk:ds[k]? = some d) (r:AnsM):wrongS ds (idN k) r=(d.ansd && decide (d.ans ≠ r)):=by
 obtain ⟨h1,h2,_⟩:=o.at' k _ hk
 rw [Bool.eq_iff_iff]
 unfold wrongS
 rw [List.any_eq_true]
 constructor
 ·rintro ⟨e,he,h⟩
  simp only [Bool.and_eq_true,decide_eq_true_eq] at h
  obtain ⟨j,_,hj,_,hid,_⟩:=o.mem he
  have:j=k:=idN_inj (by rw [← hid,h.1.2])
  subst this
  rw [hk] at hj; cases hj
  simp only [Bool.and_eq_true,decide_eq_true_eq]
  exact ⟨h.1.1,h.2⟩
 ·intro h
  simp only [Bool.and_eq_true,decide_eq_true_eq] at h
  exact ⟨d,List.mem_of_getElem? hk,by simp only [Bool.and_eq_true,decide_eq_true_eq]; exact ⟨⟨h.1,h2⟩,h.2⟩⟩
theorem DsOk.runs (o:DsOk be en cs ds):(jrun ds js0 (logL cs)).tw=false ∧ (∀ k,k < cs.length → (jrun ds js0 (logL cs)).first (idN k)=some k) ∧ (jrun ds js0 (logL cs)).nob=false ∧
  (jrun ds js0 (logL cs)).T=trC cs ∧ (jrun ds js0 (logL cs)).n=cs.length ∧ (∀ id,(∀ k,k < cs.length → id ≠ idN k) → (jrun ds js0 (logL cs)).first id=none) ∧
  ((jrun ds js0 (logL cs)).wr=true ↔ ∃ k d,ds[k]? = some d ∧ d.ansd=true ∧ d.ans ≠ ansOf (trC (cs.take k)) d.call):=by
 obtain ⟨q1,q2,q3,q4⟩:=jrun_once ds (logL cs) js0 (logL_nodup cs) fun _ _=>rfl
 obtain ⟨t1,t2⟩:=jrun_T ds (logL cs) js0
 refine ⟨q1,fun k hk => ?_,?_,?_,?_,fun id hid => ?_,?_⟩
 ·have:=q2 k (idN k,cs[k]) (by rw [logL_get,List.getElem?_eq_getElem hk]; rfl)
  rw [this]
  show some (0 + k)=_
  rw [Nat.zero_add]
 ·rw [jrun_nob]
  show (false || _)=false
  rw [Bool.false_or,List.any_eq_false]
  intro x hx
  obtain ⟨k,hk⟩:=List.mem_iff_getElem?.1 hx
  rw [logL_get] at hk
  cases hc:cs[k]? with
  | none=>rw [hc] at hk; cases hk
  | some c =>
   rw [hc] at hk; cases hk
   rw [o.begun hc]; simp
 ·rw [t1]
  have:=logL_tree cs cs.length
  rw [List.take_of_length_le (by rw [logL_len]; exact Nat.le_refl _),List.take_of_length_le (Nat.le_refl _)] at this
  exact this
 ·rw [t2,logL_len]
  show 0 + _=_
  omega
 ·refine (q3 id fun h => ?_).trans rfl
  obtain ⟨x,hx,e⟩:=List.mem_map.1 h
  obtain ⟨k,hk⟩:=List.mem_iff_getElem?.1 hx
  rw [logL_get] at hk
  cases hc:cs[k]? with
  | none=>rw [hc] at hk; cases hk
  | some c =>
   rw [hc] at hk; cases hk
   exact hid k (List.getElem?_eq_some_iff.1 hc).1 e.symm
 ·rw [q4]
  constructor
  ·rintro (h | ⟨k,x,hk,h⟩)
   ·cases h
   ·rw [logL_get] at hk
    cases hc:cs[k]? with
    | none=>rw [hc] at hk; cases hk
    | some c =>
     rw [hc] at hk; cases hk
     have hl:=(List.getElem?_eq_some_iff.1 hc).1
     have hl2:k < ds.length:=by rw [o.len]; exact hl
     have hd:ds[k]? = some ds[k]:=List.getElem?_eq_getElem hl2
     obtain ⟨h1,_⟩:=o.at' k _ hd
     rw [hc] at h1
     have h1:=Option.some.inj h1
     rw [o.wrong hd] at h
     simp only [Bool.and_eq_true,decide_eq_true_eq] at h
     refine ⟨k,_,hd,h.1,?_⟩
     have h2:=h.2
     rw [show js0.T=newT from rfl,logL_tree,h1] at h2
     exact h2
  ·rintro ⟨k,d,hd,h1,h2⟩
   obtain ⟨h3,h4,_⟩:=o.at' k _ hd
   refine .inr ⟨k,(idN k,d.call),by rw [logL_get,h3]; rfl,?_⟩
   rw [o.wrong hd,show js0.T=newT from rfl,logL_tree]
   simp only [Bool.and_eq_true,decide_eq_true_eq]
   exact ⟨h1,h2⟩
theorem DsOk.miss (o:DsOk be en cs ds) {f:IdM → Option Nat} (hf : ∀ k,k < cs.length → (f (idN k)).isSome=true):missS f ds=false:=by
 unfold missS
 rw [List.any_eq_false]
 intro d hd
 obtain ⟨k,hk,_,_,hid,_⟩:=o.mem hd
 have:=hf k hk
 rw [hid]
 cases hh:f (idN k) with
 | none=>rw [hh] at this; cases this
 | some _=>simp
theorem DsOk.late (o:DsOk be en cs ds) {f:IdM → Option Nat} (hf : ∀ k,k < cs.length → f (idN k)=some k) (hb : ∀ i j,i < cs.length → j < cs.length → en j < be i → j ≤ i):lateS f ds=false:=by
 unfold lateS
 rw [decide_eq_false_iff_not]
 rintro ⟨d,hd,e,he,i,j,h1,h2,_,h3,h4⟩
 obtain ⟨k,hk,_,_,hid,hbe,_⟩:=o.mem hd
 obtain ⟨m,hm,_,_,hid2,_,hen⟩:=o.mem he
 rw [hid,hf k hk] at h1
 rw [hid2,hf m hm] at h2
 cases h1; cases h2
 have:=hb i j hk hm (by rw [← hen,← hbe]; exact h3)
 omega
theorem DsOk.none (o:DsOk be en cs ds) (hb : ∀ i j,i < cs.length → j < cs.length → en j < be i → j ≤ i) :
  faultsS ds (logL cs)=if (jrun ds js0 (logL cs)).wr then [4] else []:=by
 obtain ⟨r1,r2,r3,_⟩:=o.runs
 unfold faultsS
 rw [r1,r3,o.miss (fun k hk=>by rw [r2 k hk]; rfl),o.late r2 hb]
 simp [flagsL]
theorem faults_right (hb : ∀ i j,i < cs.length → j < cs.length → en j < be i → j ≤ i):faultsS (dsL be en cs) (logL cs)=[]:=by
 rw [(dsL_ok be en cs).none hb,if_neg]
 rw [(dsL_ok be en cs).runs.2.2.2.2.2.2]
 rintro ⟨k,d,hd,_,h⟩
 rw [dsL_get] at hd
 cases hc:cs[k]? with
 | none=>rw [hc] at hd; cases hd
 | some c=>rw [hc] at hd; cases hd; exact h rfl
theorem faults_wrong (o:DsOk be en cs ds) (hb : ∀ i j,i < cs.length → j < cs.length → en j < be i → j ≤ i) {k:Nat} {d:DeedP} (hd:ds[k]? = some d) (ha:d.ansd=true) (hne:d.ans ≠ ansOf (trC (cs.take k)) d.call):faultsS ds (logL cs)=[4]:=by
 rw [o.none hb,if_pos]
 rw [o.runs.2.2.2.2.2.2]
 exact ⟨k,d,hd,ha,hne⟩
open Classical in
theorem faults_late (o:DsOk be en cs ds) {L:List (IdM × CallP)} (hn:(L.map (·.1)).Nodup) {i k:Nat} {d e:DeedP} (hi:ds[i]? = some d) (hk:ds[k]? = some e) (ha:d.ansd=true) (hik:i < k) (hb:en i < be k)
  {x y:CallP} (h1:L[k]? = some (idN i,x)) (h2:L[i]? = some (idN k,y)) : ∃ l,faultsS ds L=l ++ [5]:=by
 obtain ⟨q1,q2,q3,q4⟩:=jrun_once ds L js0 hn fun _ _=>rfl
 have f1:=q2 k _ h1
 have f2:=q2 i _ h2
 obtain ⟨_,d1,_,d3⟩:=o.at' i d hi
 obtain ⟨_,e1,e2,_⟩:=o.at' k e hk
 have:lateS (jrun ds js0 L).first ds=true:=by
  unfold lateS
  rw [decide_eq_true_eq]
  refine ⟨e,List.mem_of_getElem? hk,d,List.mem_of_getElem? hi,js0.n + i,js0.n + k,by rw [e1]; exact f2,by rw [d1]; exact f1,ha,by rw [d3,e2]; exact hb,by omega⟩
 unfold faultsS
 rw [this]
 exact ⟨_,rfl⟩
end
end Go.Proofs.YtdieogcemmnaaaaGreatDoor
