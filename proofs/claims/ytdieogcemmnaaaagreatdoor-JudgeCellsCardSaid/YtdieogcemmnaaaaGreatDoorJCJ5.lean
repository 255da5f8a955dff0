/- Texts of this claim, joined. No condition. -/
import Derived.Test.YtdieogcemmnaaaaGreatDoorJCJ1
import Derived.Test.YtdieogcemmnaaaaGreatDoorJCJ2
import Derived.Test.YtdieogcemmnaaaaGreatDoorJCJ3
import Derived.Test.YtdieogcemmnaaaaGreatDoorJCJ4
import Derived.ChangeKeysEq
import Derived.Laws.StructEq
import Derived.Sort.Walk0
import Derived.KernelRfl
import Derived.Ground.SlsfProg
import Derived.Shelf.SlSortCmp.WholeK
import Derived.Test.YtdieogcemmnaaaaGreatDoorProg
import Derived.Shelf.SlSortCmp.NoneTotal
set_option linter.unusedSimpArgs false
set_option linter.unusedVariables false
namespace Go.Proofs.YtdieogcemmnaaaaGreatDoor
set_option linter.unusedSimpArgs false
set_option linter.unusedVariables false
open Go.Proofs.YtdieogcemmnaaaaGreatDoor RX
set_option maxRecDepth 100000
theorem findU_step {p:RPg → Bool} {l:List RPg} {k:Nat} {x:RPg} (h:l[k]? = some x):findU p l (k + 1)=if p x then some x else findU p l k:=by
 simp [findU,h]
section
variable (rb:Nat) (room:Int) (pgs:List RPg)
theorem qLast_ok (kind:Int):Tri Tryz.prog 126 #[.pointer (some ⟨rb,0,none⟩),.int .i64 kind] (RU rb room pgs) (fun v=>HP.and (v = .int .i64 (lastR pgs kind)) (RU rb room pgs)):=by
 refine RU.tri fun a c es he hb ha => ?_
 refine tri_of_tree (ρ:=rRho rb a pgs.length c es room ++ [.i kind]) mixed Tryz.func126 tree_qLast ?_
 unfold t_qLast
 simp only [T.den,E.prop,E.den,RX.look,F1.app,F2.app,Uni.int_i,Uni.nat_n,Uni.bool_c,Uni.str_s,Uni.adr_a,Uni.val_v,Uni.hp_p,hden,cden,V.den,W.den,A.den,BR.den,SA.den,FV.den,capV,exs,exP,allP,Cur.app,List.map_cons,List.map_nil,List.cons_append,List.nil_append,List.drop_succ_cons,List.drop_zero,List.length_cons,List.length_nil,Nat.zero_add,Nat.reduceAdd,Int.neg_neg,Bool.not_not,List.append_nil,Nat.add_zero,List.getElem?_cons_zero,List.getElem?_cons_succ,Decidable.not_not,semW_eq,semW_load,ne_eq,Nat.reduceEqDiff,not_false_eq_true]
 refine ⟨inI64 _ (by omega) (by omega),fun _ => ?_⟩
 refine ⟨fun _ i => ∃ k:Nat,i=(k:Int) - 1 ∧ k ≤ pgs.length ∧ findU (fun x=>decide (x.kind=kind)) pgs pgs.length=findU (fun x=>decide (x.kind=kind)) pgs k,fun _ i=>(i + 1).toNat,⟨pgs.length,rfl,Nat.le_refl _,rfl⟩,?_⟩
 rintro _ _ ⟨k,rfl,hk,hf⟩
 refine ⟨fun h0=>⟨by omega,fun _=>⟨ha (by omega),fun _ => ?_⟩⟩,fun h0 => .of fun R h H=>⟨?_,RU.of he hb rfl H⟩⟩
 ·obtain ⟨j,rfl⟩ : ∃ j,k=j + 1:=⟨k - 1,by omega⟩
  obtain ⟨x,hx,hg⟩:=pgAt he (show j < pgs.length by omega)
  have e1:((((j + 1:Nat):Int) - 1).toNat)=j:=by omega
  rw [e1]
  refine ⟨_,loadPg1 undIb aggI szI hx (off:=0) rfl,⟨fun hy=>⟨_,loadPg1 undIb aggI szI hx (off:=1) rfl,.of fun R h H=>⟨?_,RU.of he hb rfl H⟩⟩,fun hn=>⟨inI64 _ (by omega) (by omega),fun _=>⟨⟨j,by omega,by omega,?_⟩,by dsimp only; omega⟩⟩⟩⟩
  ·unfold lastR
   rw [hf,findU_step hg,if_pos (by simpa using hy)]
   rfl
  ·rw [hf,findU_step hg,if_neg (by simpa using hn)]
 ·obtain rfl:k=0:=by omega
  unfold lastR
  rw [hf]
  rfl
theorem qEpoch_ok:Tri Tryz.prog 58 #[.pointer (some ⟨rb,0,none⟩)] (RU rb room pgs) (fun v=>HP.and (v = .int .i64 (lastR pgs 4)) (RU rb room pgs)):=by
 refine tri_of_tree (ρ:=[.n rb,.p (RU rb room pgs)]) mixed Tryz.func58 tree_qEpoch ?_
 unfold t_qEpoch
 simp only [T.den,E.prop,E.den,RX.look,F1.app,F2.app,Uni.int_i,Uni.nat_n,Uni.bool_c,Uni.str_s,Uni.adr_a,Uni.val_v,Uni.hp_p,hden,cden,V.den,W.den,A.den,BR.den,SA.den,FV.den,capV,exs,exP,allP,Cur.app,List.map_cons,List.map_nil,List.cons_append,List.nil_append,List.drop_succ_cons,List.drop_zero,List.length_cons,List.length_nil,Nat.zero_add,Nat.reduceAdd,Int.neg_neg,Bool.not_not,List.append_nil,Nat.add_zero,List.getElem?_cons_zero,List.getElem?_cons_succ,Decidable.not_not,semW_eq,ne_eq,Nat.reduceEqDiff,not_false_eq_true]
 refine (qLast_ok rb room pgs 4).weak (fun _ _ h=>h) ?_
 rintro v R h ⟨rfl,H⟩
 exact ⟨_,rfl,.of fun R h H=>⟨rfl,H⟩,H⟩
theorem qLow_ok:Tri Tryz.prog 124 #[.pointer (some ⟨rb,0,none⟩)] (RU rb room pgs) (fun v=>HP.and (v = .int .i64 (lastR pgs 3)) (RU rb room pgs)):=by
 refine tri_of_tree (ρ:=[.n rb,.p (RU rb room pgs)]) mixed Tryz.func124 tree_qLow ?_
 unfold t_qLow
 simp only [T.den,E.prop,E.den,RX.look,F1.app,F2.app,Uni.int_i,Uni.nat_n,Uni.bool_c,Uni.str_s,Uni.adr_a,Uni.val_v,Uni.hp_p,hden,cden,V.den,W.den,A.den,BR.den,SA.den,FV.den,capV,exs,exP,allP,Cur.app,List.map_cons,List.map_nil,List.cons_append,List.nil_append,List.drop_succ_cons,List.drop_zero,List.length_cons,List.length_nil,Nat.zero_add,Nat.reduceAdd,Int.neg_neg,Bool.not_not,List.append_nil,Nat.add_zero,List.getElem?_cons_zero,List.getElem?_cons_succ,Decidable.not_not,semW_eq,ne_eq,Nat.reduceEqDiff,not_false_eq_true]
 refine (qLast_ok rb room pgs 3).weak (fun _ _ h=>h) ?_
 rintro v R h ⟨rfl,H⟩
 exact ⟨_,rfl,.of fun R h H=>⟨rfl,H⟩,H⟩
theorem qCell_ok (at':Int):Tri Tryz.prog 125 #[.pointer (some ⟨rb,0,none⟩),.int .i64 at'] (RU rb room pgs)
  (fun v=>HP.ex fun xa=>HP.ex fun xc=>HP.and (v = .agg #[.int .i64 (cellR pgs at').what,.slice xa (cellR pgs at').data.length xc] ∧ (cellR pgs at').data.length ≤ 140737488355328) (HP.sep (RoB xa (cellR pgs at').data.length (cellR pgs at').data) (RU rb room pgs))):=by
 refine RU.tri fun a c es he hb ha => ?_
 refine tri_of_tree (ρ:=rRho rb a pgs.length c es room ++ [.i at']) mixed Tryz.func125 tree_qCell ?_
 unfold t_qCell
 simp only [T.den,E.prop,E.den,RX.look,F1.app,F2.app,Uni.int_i,Uni.nat_n,Uni.bool_c,Uni.str_s,Uni.adr_a,Uni.val_v,Uni.hp_p,hden,cden,V.den,W.den,A.den,BR.den,SA.den,FV.den,capV,exs,exP,allP,Cur.app,List.map_cons,List.map_nil,List.cons_append,List.nil_append,List.drop_succ_cons,List.drop_zero,List.length_cons,List.length_nil,Nat.zero_add,Nat.reduceAdd,Int.neg_neg,Bool.not_not,List.append_nil,Nat.add_zero,List.getElem?_cons_zero,List.getElem?_cons_succ,Decidable.not_not,semW_eq,semW_load,ne_eq,Nat.reduceEqDiff,not_false_eq_true]
 intro _
 refine ⟨inI64 _ (by omega) (by omega),fun _ => ?_⟩
 refine ⟨fun i => ∃ k:Nat,i=(k:Int) - 1 ∧ k ≤ pgs.length ∧ findU (fun x=>decide (x.kind ≤ 2) && decide (x.n=at')) pgs pgs.length=findU (fun x=>decide (x.kind ≤ 2) && decide (x.n=at')) pgs k,fun i=>(i + 1).toNat,⟨pgs.length,rfl,Nat.le_refl _,rfl⟩,?_⟩
 rintro _ ⟨k,rfl,hk,hf⟩
 refine ⟨fun h0=>⟨by omega,fun _=>⟨ha (by omega),fun _ => ?_⟩⟩,fun h0 => .of fun R h H => ?_⟩
 ·obtain ⟨j,rfl⟩ : ∃ j,k=j + 1:=⟨k - 1,by omega⟩
  obtain ⟨x,hx,hg⟩:=pgAt he (show j < pgs.length by omega)
  have e1:((((j + 1:Nat):Int) - 1).toNat)=j:=by omega
  rw [e1]
  have next:(x.pg.kind ≤ 2 && decide (x.pg.n=at'))=false → ∃ k:Nat,((j + 1:Nat):Int) - 1 - 1=(k:Int) - 1 ∧ k ≤ pgs.length ∧ findU (fun x=>decide (x.kind ≤ 2) && decide (x.n=at')) pgs pgs.length=findU (fun x=>decide (x.kind ≤ 2) && decide (x.n=at')) pgs k:=fun hno=>⟨j,by omega,by omega,by rw [hf,findU_step hg,if_neg (by rw [hno]; decide)]⟩
  refine ⟨_,_,_,_,_,_,_,loadPg hx,fun _=>⟨fun hk2=>⟨fun hat => .of fun R h H => ?_,fun hat=>⟨inI64 _ (by omega) (by omega),fun _=>⟨next (by rw [decide_eq_false hat]; simp),by dsimp only; omega⟩⟩⟩,fun hk2=>⟨inI64 _ (by omega) (by omega),fun _=>⟨next (by rw [decide_eq_false hk2]; simp),by dsimp only; omega⟩⟩⟩⟩
  have e:cellR pgs at'=⟨x.pg.kind,x.pg.bytes⟩:=by
   unfold cellR
   rw [hf,findU_step hg,if_pos (by rw [decide_eq_true hk2,decide_eq_true hat]; rfl)]
   rfl
  rw [e]
  obtain ⟨q1,q2⟩:=pgRo hx (HP.sep_right H)
  exact ⟨x.a,x.c,⟨rfl,q1⟩,RoC.join (q2 h) (RU.of he hb rfl H)⟩
 ·obtain rfl:k=0:=by omega
  have e:cellR pgs at'=⟨0,[]⟩:=by unfold cellR; rw [hf]; rfl
  rw [e]
  exact ⟨none,0,⟨rfl,by simp⟩,RoC.join (RoB0 none:(RoB none 0 []).p R h) (RU.of he hb rfl H)⟩
def askR (l:List RPg) (epoch at':Int):Int:=if epoch ≠ lastR l 4 then 8 else if at' < 0 ∨ 4294967296 < at' then 2 else 0
theorem qAsk_ok (epoch at':Int):Tri Tryz.prog 123 #[.pointer (some ⟨rb,0,none⟩),.int .i64 epoch,.int .i64 at'] (RU rb room pgs) (fun v=>HP.and (v = .int .i64 (askR pgs epoch at')) (RU rb room pgs)):=by
 refine tri_of_tree (ρ:=[.n rb,.p (RU rb room pgs),.i epoch,.i at']) mixed Tryz.func123 tree_qAsk ?_
 unfold t_qAsk
 simp only [T.den,E.prop,E.den,RX.look,F1.app,F2.app,Uni.int_i,Uni.nat_n,Uni.bool_c,Uni.str_s,Uni.adr_a,Uni.val_v,Uni.hp_p,hden,cden,V.den,W.den,A.den,BR.den,SA.den,FV.den,capV,exs,exP,allP,Cur.app,List.map_cons,List.map_nil,List.cons_append,List.nil_append,List.drop_succ_cons,List.drop_zero,List.length_cons,List.length_nil,Nat.zero_add,Nat.reduceAdd,Int.neg_neg,Bool.not_not,List.append_nil,Nat.add_zero,List.getElem?_cons_zero,List.getElem?_cons_succ,Decidable.not_not,semW_eq,ne_eq,Nat.reduceEqDiff,not_false_eq_true]
 refine (qEpoch_ok rb room pgs).weak (fun _ _ h=>h) ?_
 rintro v R h ⟨rfl,H⟩
 refine ⟨_,rfl,⟨fun h1 => .of fun R h H=>⟨by unfold askR; rw [if_pos h1],H⟩,fun h1=>⟨fun h2 => .of fun R h H=>⟨by unfold askR; rw [if_neg (by simpa using h1),if_pos (.inl h2)],H⟩,fun h2=>⟨fun h3 => .of fun R h H=>⟨by unfold askR; rw [if_neg (by simpa using h1),if_pos (.inr h3)],H⟩,fun h3 => .of fun R h H=>⟨by unfold askR; rw [if_neg (by simpa using h1),if_neg (by omega)],H⟩⟩⟩⟩,H⟩
def readR (l:List RPg) (epoch at':Int):CellS × Int :=
 if askR l epoch at' ≠ 0 then (⟨0,[]⟩,askR l epoch at') else if at' < lastR l 3 then (⟨0,[]⟩,11) else if (cellR l at').what=0 then (cellR l at',9) else (cellR l at',0)
theorem qRead_ok (epoch at':Int):Tri Tryz.prog 57 #[.pointer (some ⟨rb,0,none⟩),.int .i64 epoch,.int .i64 at'] (RU rb room pgs)
  (fun v=>HP.ex fun xa=>HP.ex fun xc=>HP.and (v = .tuple #[.agg #[.int .i64 (readR pgs epoch at').1.what,.slice xa (readR pgs epoch at').1.data.length xc],.int .i64 (readR pgs epoch at').2] ∧ (readR pgs epoch at').1.data.length ≤ 140737488355328) (HP.sep (RoB xa (readR pgs epoch at').1.data.length (readR pgs epoch at').1.data) (RU rb room pgs))):=by
 refine tri_of_tree (ρ:=[.n rb,.p (RU rb room pgs),.i epoch,.i at']) mixed Tryz.func57 tree_qRead9 ?_
 unfold t_qRead9
 simp only [T.den,E.prop,E.den,RX.look,F1.app,F2.app,Uni.int_i,Uni.nat_n,Uni.bool_c,Uni.str_s,Uni.adr_a,Uni.val_v,Uni.hp_p,hden,cden,V.den,W.den,A.den,BR.den,SA.den,FV.den,capV,exs,exP,allP,Cur.app,List.map_cons,List.map_nil,List.cons_append,List.nil_append,List.drop_succ_cons,List.drop_zero,List.length_cons,List.length_nil,Nat.zero_add,Nat.reduceAdd,Int.neg_neg,Bool.not_not,List.append_nil,Nat.add_zero,List.getElem?_cons_zero,List.getElem?_cons_succ,Decidable.not_not,semW_eq,ne_eq,Nat.reduceEqDiff,not_false_eq_true]
 intro _
 refine (qAsk_ok rb room pgs epoch at').weak (fun _ _ h=>h) ?_
 rintro v R h ⟨rfl,H⟩
 refine ⟨_,rfl,⟨fun h1 => .of fun R h H => ?_,fun h1 => ?_⟩,H⟩
 ·have e:readR pgs epoch at'=(⟨0,[]⟩,askR pgs epoch at'):=if_pos h1
  rw [e]
  exact ⟨none,0,⟨rfl,by simp⟩,RoC.join (RoB0 none:(RoB none 0 []).p R h) H⟩
 clear H
 refine (qLow_ok rb room pgs).weak (fun _ _ h=>h) ?_
 rintro v R h ⟨rfl,H⟩
 refine ⟨_,rfl,⟨fun h2 => .of fun R h H => ?_,fun h2 => ?_⟩,H⟩
 ·have e:readR pgs epoch at'=(⟨0,[]⟩,11):=by unfold readR; rw [if_neg (by simpa using h1),if_pos h2]
  rw [e]
  exact ⟨none,0,⟨rfl,by simp⟩,RoC.join (RoB0 none:(RoB none 0 []).p R h) H⟩
 clear H
 refine (qCell_ok rb room pgs at').weak (fun _ _ h=>h) ?_
 rintro v R h ⟨xa,xc,⟨rfl,hb⟩,H⟩
 refine ⟨_,xa,_,xc,RoB xa _ _,rfl,fun _=>⟨fun h3 => .of fun R h H => ?_,fun h3 => .of fun R h H => ?_⟩,H⟩
 ·have e:readR pgs epoch at'=(cellR pgs at',9):=by unfold readR; rw [if_neg (by simpa using h1),if_neg h2,if_pos h3]
  rw [e]
  exact ⟨xa,xc,⟨rfl,hb⟩,HP.sep_comm H⟩
 ·have e:readR pgs epoch at'=(cellR pgs at',0):=by unfold readR; rw [if_neg (by simpa using h1),if_neg h2,if_neg h3]
  rw [e]
  exact ⟨xa,xc,⟨rfl,hb⟩,HP.sep_comm H⟩
end
end Go.Proofs.YtdieogcemmnaaaaGreatDoor

namespace Go.Proofs.YtdieogcemmnaaaaGreatDoor
open Go.Proofs.YtdieogcemmnaaaaGreatDoor RX
theorem findU_app (p:RPg → Bool) (l:List RPg) (x:RPg) : ∀ k,k ≤ l.length → findU p (l ++ [x]) k=findU p l k
 | 0,_=>rfl
 | k + 1,hk=>by
  simp only [findU]
  rw [List.getElem?_append_left (by omega),findU_app p l x k (by omega)]
theorem findU_snoc (p:RPg → Bool) (l:List RPg) (x:RPg):findU p (l ++ [x]) (l ++ [x]).length=if p x then some x else findU p l l.length:=by
 have hg:(l ++ [x])[l.length]? = some x:=by simp
 rw [List.length_append,List.length_singleton,findU_step hg,findU_app p l x l.length (Nat.le_refl _)]
theorem lastR_snoc (l:List RPg) (x:RPg) (kind:Int):lastR (l ++ [x]) kind=if x.kind=kind then x.n else lastR l kind:=by
 unfold lastR
 rw [findU_snoc]
 by_cases h:x.kind=kind
 ·rw [if_pos (by simpa using h),if_pos h]; rfl
 ·rw [if_neg (by simpa using h),if_neg h]
def findC9 (l:List RPg) (a:Int):Option CellS:=(findU (fun x=>decide (x.kind ≤ 2) && decide (x.n=a)) l l.length).map fun x=>⟨x.kind,x.bytes⟩
theorem cellR_eq (l:List RPg) (a:Int):cellR l a=(findC9 l a).getD ⟨0,[]⟩:=rfl
theorem findC9_snoc (l:List RPg) (x:RPg) (a:Int):findC9 (l ++ [x]) a=if x.kind ≤ 2 ∧ x.n=a then some ⟨x.kind,x.bytes⟩ else findC9 l a:=by
 unfold findC9
 rw [findU_snoc]
 by_cases h:x.kind ≤ 2 ∧ x.n=a
 ·rw [if_pos (by simpa using h),if_pos h]; rfl
 ·rw [if_neg (by simpa using h),if_neg h]
structure Led (b:List UInt8) (x:RPg):Prop where
 kind:1 ≤ x.kind
 len:x.bytes.length ≤ 65536
 step : ∀ s:USt,∃ s',followS s b=some s' ∧ s'.epoch=(if x.kind=4 then x.n else s.epoch) ∧ s'.low=(if x.kind=3 then x.n else s.low) ∧ s'.cells=(if x.kind ≤ 2 then fput s.cells x.n (some ⟨x.kind,x.bytes⟩) else s.cells)
structure RelC (s:USt) (l:List RPg):Prop where
 epoch:s.epoch=lastR l 4
 low:s.low=lastR l 3
 cells : ∀ a,s.cells a=findC9 l a
 kinds : ∀ a x,findC9 l a=some x → x.what ≠ 0 ∧ x.data.length ≤ 65536
theorem RelC.new:RelC s0 []:=⟨rfl,rfl,fun _=>rfl,fun a x h=>by cases h⟩
theorem RelC.page {s:USt} {l:List RPg} (h:RelC s l) {b:List UInt8} {x:RPg} (hx:Led b x) : ∃ s',followS s b=some s' ∧ RelC s' (l ++ [x]):=by
 obtain ⟨s',h1,h2,h3,h4⟩:=hx.step s
 refine ⟨s',h1,?_,?_,fun a => ?_,fun a y hy => ?_⟩
 ·rw [h2,lastR_snoc,h.epoch]
 ·rw [h3,lastR_snoc,h.low]
 ·rw [h4,findC9_snoc]
  by_cases hk:x.kind ≤ 2
  ·rw [if_pos hk]
   show (if a=x.n then some (⟨x.kind,x.bytes⟩:CellS) else s.cells a)=_
   by_cases ha:a=x.n
   ·rw [if_pos ha,if_pos ⟨hk,ha.symm⟩]
   ·rw [if_neg ha,if_neg (fun e=>ha e.2.symm),h.cells a]
  ·rw [if_neg hk,if_neg (fun e=>hk e.1),h.cells a]
 ·rw [findC9_snoc] at hy
  split at hy
  ·cases hy; exact ⟨by have:=hx.kind; show x.kind ≠ 0; omega,hx.len⟩
  ·exact h.kinds a y hy
theorem foldS_snoc {s s1 s2:USt} {l:List (List UInt8)} {b:List UInt8} (h:foldS s l=some s1) (h2:followS s1 b=some s2):foldS s (l ++ [b])=some s2:=by
 rw [foldS_app,h]
 simp [foldS,h2]
theorem RelC.read {s:USt} {l:List RPg} (h:RelC s l) (a:Int):ureadS (forgS s) (forgS s).epoch a=readR l (lastR l 4) a:=by
 have e0:(forgS s).epoch=lastR l 4:=h.epoch
 have r:reachE (forgS s) (forgS s).epoch a=askR l (lastR l 4) a:=by
  unfold reachE askR
  have e1:(if lastR l 4 ≠ lastR l 4 then (8:Int) else if a < 0 ∨ 4294967296 < a then 2 else 0)=if a < 0 ∨ 4294967296 < a then 2 else 0:=if_neg (fun e=>e rfl)
  rw [if_pos rfl,e1]
  by_cases ha:addrOk a=true
  ·rw [if_pos ha,if_neg (by simp [addrOk] at ha; omega)]
  ·rw [if_neg ha,if_pos (by simp [addrOk] at ha; omega)]
 unfold ureadS readR
 rw [r,show (forgS s).low=lastR l 3 from h.low]
 split
 ·rfl
 split
 ·rfl
 ·rename_i hl
  rw [show (forgS s).cells a=if a < s.low then none else s.cells a from rfl,if_neg (by rw [h.low]; exact hl),h.cells a,cellR_eq]
  cases hc:findC9 l a with
  | none=>rfl
  | some x =>
   have:=(h.kinds a x hc).1
   show (x,0)=if x.what=0 then (x,9) else (x,0)
   rw [if_neg this]
theorem RelC.rlen {s:USt} {l:List RPg} (h:RelC s l) (e a:Int):(readR l e a).1.data.length ≤ 65536:=by
 have hc:(cellR l a).data.length ≤ 65536:=by
  rw [cellR_eq]
  cases hf:findC9 l a with
  | none=>exact Nat.zero_le _
  | some x=>exact (h.kinds a x hf).2
 unfold readR
 split
 ·exact Nat.zero_le _
 split
 ·exact Nat.zero_le _
 split <;> exact hc
def newC (l:List (Int × (CellS × Int))):CellS × Int:=l.foldl (fun b u=>if u.2.2=0 ∧ b.2 < u.1 then (u.2.1,u.1) else b) (⟨0,[]⟩,-1)
theorem newC_snoc (l:List (Int × (CellS × Int))) (u:Int × (CellS × Int)):newC (l ++ [u])=if u.2.2=0 ∧ (newC l).2 < u.1 then (u.2.1,u.1) else newC l:=by
 unfold newC; rw [List.foldl_append]; rfl
def unitT (at':Int) (s:USt):Int × (CellS × Int):=(s.epoch,ureadS s s.epoch at')
def refT (at':Int) (l:List RPg):Int × (CellS × Int):=(lastR l 4,readR l (lastR l 4) at')
theorem RelC.same {s:USt} {l:List RPg} (h:RelC s l) (a:Int):unitT a (forgS s)=refT a l:=by
 unfold unitT refT
 rw [h.read]
 exact congrArg (·,_) h.epoch
theorem newC_len {l:List (Int × (CellS × Int))} (h : ∀ u ∈ l,u.2.1.data.length ≤ 65536):(newC l).1.data.length ≤ 65536:=by
 have : ∀ (l:List (Int × (CellS × Int))) (b:CellS × Int),(∀ u ∈ l,u.2.1.data.length ≤ 65536) → b.1.data.length ≤ 65536 → (l.foldl (fun b u=>if u.2.2=0 ∧ b.2 < u.1 then (u.2.1,u.1) else b) b).1.data.length ≤ 65536:=by
  intro l
  induction l with
  | nil=>intro b _ hb; exact hb
  | cons u l ih =>
   intro b hl hb
   refine ih _ (fun v hv=>hl v (List.mem_cons_of_mem _ hv)) ?_
   dsimp only
   split
   ·exact hl u List.mem_cons_self
   ·exact hb
 exact this l _ h (Nat.zero_le _)
end Go.Proofs.YtdieogcemmnaaaaGreatDoor

namespace Go.Proofs.YtdieogcemmnaaaaGreatDoor
open Go.RowKit
section
variable {P:Program} {κ:Type} [DecidableEq κ]
theorem asking_enc {kt:TypeId} {enc:κ → Value} {d:TypeDesc} (hd:P.underlying kt=some d) (hn : ∀ a b,Instr.sameNow d a b=none)
  (check : ∀ (em:Bool) (k:κ) (w:World),(Instr.checkKey em 10000 kt (enc k)).run P w = .ok () w)
  (heq : ∀ (k k':κ) (w:World),(Op.equal kt (enc k) (enc k')).run P w = .ok (decide (k=k')) w)
  (bits : ∀ k,Instr.sameBits 10000 (enc k) (enc k)=true):KeyEnc P kt enc where
 check:=check
 bits:=bits
 find k l w:=by
  have hask : ∀ (l:AL κ) (i:Nat),(Instr.findAsking kt (enc k) (l.map (toE enc)) i).run P w = .ok (alIdx k l i) w:=by
   intro l
   induction l with
   | nil=>intro i; simp [Instr.findAsking,alIdx]
   | cons x l ih =>
    intro i
    simp only [List.map_cons,Instr.findAsking,Sem.run_bind,toE,heq,Result.andThen_ok,alIdx]
    by_cases e:k=x.1
    ·simp [e]
    ·simp only [e,decide_false,Bool.false_eq_true,if_false]
     exact ih (i + 1)
  unfold Instr.findKey
  cases l with
  | nil=>simp [run_underlying hd,Instr.findNow,alIdx]
  | cons x l =>
   have hf:Instr.findNow d (enc k) ((x :: l).map (toE enc)) 0=none:=by
    simp [Instr.findNow,hn]
   simp only [Sem.run_bind,run_underlying hd,Result.andThen_ok,hf]
   exact hask (x :: l) 0
end
section
variable {P:Program} {ops:Array Oper} {rest:List Oper} {o:Oper} {a:Act} {w:World} {Q:Exit → Act → World → Prop}
end
end Go.Proofs.YtdieogcemmnaaaaGreatDoor

namespace Go.Proofs.YtdieogcemmnaaaaGreatDoor
open Go.Proofs.YtdieogcemmnaaaaGreatDoor RX
set_option maxRecDepth 100000
abbrev IdM:=Int × Int × Int
def idV (k:IdM):Value := .agg #[.int .i64 k.1,.int .i64 k.2.1,.int .i64 k.2.2]
theorem run_part_int {P:Program} {w:World} {e:TypeId} {k:IntKind} (he:P.underlying e=some (.int k)) (cs:Array Value) (i:Nat) (v:Value) (hv:cs[i]? = some v):(part e cs i).run P w = .ok v w:=by
 have hagg:(isAgg e).run P w = .ok false w:=by
  unfold isAgg
  rw [Sem.run_bind,run_underlying he]
  rfl
 simp [part,hagg,hv]
theorem idFs:(Tryz.prog.fieldsOf 57).toList.map (fun f=>(decide (f.name = "_"),f.type,f.offset))=[(false,3,0),(false,3,1),(false,3,2)]:=by kernel_rfl
theorem idFs' : ∃ f0 f1 f2:Field,(Tryz.prog.fieldsOf 57).toList=[f0,f1,f2] ∧ (f0.name ≠ "_" ∧ f0.type=3 ∧ f0.offset=0) ∧ (f1.name ≠ "_" ∧ f1.type=3 ∧ f1.offset=1) ∧ (f2.name ≠ "_" ∧ f2.type=3 ∧ f2.offset=2):=by
 have h:=idFs
 obtain ⟨f0,r0,e0,h0,h⟩:=List.map_eq_cons_iff.1 h
 obtain ⟨f1,r1,e1,h1,h⟩:=List.map_eq_cons_iff.1 h
 obtain ⟨f2,r2,e2,h2,h⟩:=List.map_eq_cons_iff.1 h
 have e3:=List.map_eq_nil_iff.1 h
 subst e3 e2 e1
 simp only [Prod.mk.injEq,decide_eq_false_iff_not] at h0 h1 h2
 exact ⟨f0,f1,f2,e0,h0,h1,h2⟩
theorem undIdT:Tryz.prog.underlying 57=some (.struct (Tryz.prog.fieldsOf 57)):=by kernel_rfl
theorem heldId:Tryz.prog.stoodInHeld 57=false:=by kernel_rfl
theorem undIn:Tryz.prog.underlying 3=some (.int .i64):=by kernel_rfl
theorem idK:KeyEnc Tryz.prog 57 idV:=by
 obtain ⟨f0,f1,f2,hf,⟨n0,t0,o0⟩,⟨n1,t1,o1⟩,n2,t2,o2⟩:=idFs'
 have hck : ∀ (em:Bool) (n:Int) (m:Nat) (w:World),(Instr.checkKey em (m + 1) 3 (.int .i64 n)).run Tryz.prog w = .ok () w:=by
  intro em n m w
  unfold Instr.checkKey
  simp [run_underlying undIn]
 have q0 : ∀ (a b c:Int) (w:World),(part 3 #[.int .i64 a,.int .i64 b,.int .i64 c] 0).run Tryz.prog w = .ok (.int .i64 a) w:=fun a b c w=>run_part_int undIn _ 0 _ rfl
 have q1 : ∀ (a b c:Int) (w:World),(part 3 #[.int .i64 a,.int .i64 b,.int .i64 c] 1).run Tryz.prog w = .ok (.int .i64 b) w:=fun a b c w=>run_part_int undIn _ 1 _ rfl
 have q2 : ∀ (a b c:Int) (w:World),(part 3 #[.int .i64 a,.int .i64 b,.int .i64 c] 2).run Tryz.prog w = .ok (.int .i64 c) w:=fun a b c w=>run_part_int undIn _ 2 _ rfl
 have he : ∀ (a b:Int) (w:World),(Op.equalIn 9999 3 (.int .i64 a) (.int .i64 b)).run Tryz.prog w = .ok (a == b) w:=fun a b w=>run_equalIn_int w 9998 _ _ _ _ _ undIn
 refine asking_enc undIdT (fun a b=>rfl) ?_ ?_ ?_
 ·rintro em ⟨a,b,c⟩ w
  unfold Instr.checkKey idV
  simp only [Sem.run_bind,run_underlying undIdT,Result.andThen_ok]
  rw [← Array.forIn_toList,hf]
  simp only [List.forIn_cons,List.forIn_nil,Sem.run_bind,n0,n1,n2,t0,t1,t2,o0,o1,o2,ne_eq,not_false_eq_true,if_true,q0,q1,q2,Result.andThen_ok,hck em _ 9998 w,Sem.run_pure]
 ·rintro ⟨a,b,c⟩ ⟨x,y,z⟩ w
  unfold Op.equal idV
  rw [show Op.maxDepth=9998 + 1 + 1 from rfl,run_equalIn_struct w _ _ _ _ undIdT heldId,hf]
  simp only [Op.eqFields,n0,n1,n2,t0,t1,t2,o0,o1,o2,ne_eq,not_false_eq_true,if_true,Sem.run_bind,q0,q1,q2,Result.andThen_ok,run_equalIn_int w _ _ _ _ _ _ undIn]
  by_cases h1:a=x
  ·by_cases h2:b=y
   ·by_cases h3:c=z
    ·simp [h1,h2,h3,q1,q2,he]
    ·simp [h1,h2,h3,q1,q2,he]
   ·simp [h1,h2,q1,he]
  ·simp [h1]
 ·intro k
  simp [idV,Instr.sameBits]
end Go.Proofs.YtdieogcemmnaaaaGreatDoor

namespace Go.Proofs.YtdieogcemmnaaaaGreatDoor
set_option linter.unusedSimpArgs false
set_option linter.unusedVariables false
open Go.Proofs.YtdieogcemmnaaaaGreatDoor RX
set_option maxRecDepth 100000
end Go.Proofs.YtdieogcemmnaaaaGreatDoor

namespace Go.Proofs.YtdieogcemmnaaaaGreatDoor
open Go.Proofs.YtdieogcemmnaaaaGreatDoor RX
set_option maxRecDepth 100000
end Go.Proofs.YtdieogcemmnaaaaGreatDoor

namespace Go.Proofs.YtdieogcemmnaaaaGreatDoor
set_option linter.unusedSimpArgs false
set_option linter.unusedVariables false
open Go.Proofs.YtdieogcemmnaaaaGreatDoor RX
set_option maxRecDepth 100000
end Go.Proofs.YtdieogcemmnaaaaGreatDoor

namespace Go.Proofs.YtdieogcemmnaaaaGreatDoor
set_option linter.unusedSimpArgs false
set_option linter.unusedVariables false
open Go.Proofs.YtdieogcemmnaaaaGreatDoor RX
set_option maxRecDepth 100000
end Go.Proofs.YtdieogcemmnaaaaGreatDoor

namespace Go.Proofs.YtdieogcemmnaaaaGreatDoor
open Go.Proofs.YtdieogcemmnaaaaGreatDoor RX
set_option maxRecDepth 100000
def Step (T:List Nd) (d:Nat) (nm:Nm) (k:Nat):Prop := ∃ n,nodeAt T d=some n ∧ n.kind=1 ∧ lk n.ents nm=some k
inductive Rch (T:List Nd):Nat → Prop where
 | root:Rch T 0
 | step {d k:Nat} {w:Nm}:Rch T d → Step T d w k → Rch T k
end Go.Proofs.YtdieogcemmnaaaaGreatDoor

namespace Go.Proofs.YtdieogcemmnaaaaGreatDoor
open Go.Proofs.YtdieogcemmnaaaaGreatDoor RX
set_option maxRecDepth 100000
def Reach (T:List Nd):Prop := ∀ n ∈ T,Rch T n.num
end Go.Proofs.YtdieogcemmnaaaaGreatDoor

namespace Go.Proofs.YtdieogcemmnaaaaGreatDoor
open Go.Proofs.YtdieogcemmnaaaaGreatDoor RX
set_option maxRecDepth 100000
variable {T:List Nd}
end Go.Proofs.YtdieogcemmnaaaaGreatDoor

namespace Go.Proofs.YtdieogcemmnaaaaGreatDoor.RX
set_option maxRecDepth 100000
-- (*tideline/tree.Tree).whole: ρ:=[.n t,.p tP]
end Go.Proofs.YtdieogcemmnaaaaGreatDoor.RX

namespace Go.Proofs.YtdieogcemmnaaaaGreatDoor
set_option linter.unusedSimpArgs false
set_option linter.unusedVariables false
open Go.Proofs.YtdieogcemmnaaaaGreatDoor RX
set_option maxRecDepth 100000
end Go.Proofs.YtdieogcemmnaaaaGreatDoor

namespace Go.Proofs.YtdieogcemmnaaaaGreatDoor.RX
set_option maxRecDepth 100000
-- tideline/snap.Decode: ρ:=[.a ba,.n bl,.n bc,.p bP]
end Go.Proofs.YtdieogcemmnaaaaGreatDoor.RX

namespace Go.Proofs.YtdieogcemmnaaaaGreatDoor
set_option linter.unusedSimpArgs false
set_option linter.unusedVariables false
open Go.Proofs.YtdieogcemmnaaaaGreatDoor RX
set_option maxRecDepth 100000
end Go.Proofs.YtdieogcemmnaaaaGreatDoor

namespace Go.Proofs.YtdieogcemmnaaaaGreatDoor.RX
set_option maxRecDepth 100000
-- tideline/replay.New: ρ:=[]
end Go.Proofs.YtdieogcemmnaaaaGreatDoor.RX

namespace Go.Proofs.YtdieogcemmnaaaaGreatDoor
set_option linter.unusedSimpArgs false
set_option linter.unusedVariables false
open Go.Proofs.YtdieogcemmnaaaaGreatDoor RX
set_option maxRecDepth 100000
def ans0:Value := .agg #[.int .i64 0,.int .i64 0,.int .i64 0,.int .i64 0,.slice none 0 0,.slice none 0 0]
structure RpS where
 nx:Int
 tb:Nat
 t:TS
 am:Nat
 f:IdM → Option AnsM
 up:Int
 at':Int
 la:Int
variable {b:Nat} {s:RpS}
theorem rdImp {S:HP} {a:Option Addr} {n:Nat} {xs:List Value} (h : ∀ R x,S.p R x → (RoC 1 a n xs).p R x):RdL S a n xs:=⟨Rd.impR (RdL.ro 1 a n xs).rd h,fun R x H e=>(RdL.ro 1 a n xs).none R x (h R x H) e⟩
def CallP.m (x:CallP) (a:Option Addr) (c:Nat):CallM:=⟨x.kind,x.path,x.other,x.off,x.n,a,x.data.length,c⟩
end Go.Proofs.YtdieogcemmnaaaaGreatDoor

namespace Go.Proofs.YtdieogcemmnaaaaGreatDoor
open Go.RowKit Go.ChangeShapes Go.WideShapes Go.Deep RX
set_option maxRecDepth 100000
section
variable {H:Type} {P:Program} {t e:TypeId}
end
section
variable {H:Type} {enc:TypeId × Value → H} {w:World} {base:Nat}
variable {α:Type}
end
end Go.Proofs.YtdieogcemmnaaaaGreatDoor

namespace Go.Proofs.YtdieogcemmnaaaaGreatDoor
open Go.RowKit Go.ChangeShapes Go.WideShapes Go.Deep RX
set_option maxRecDepth 100000
set_option linter.unusedVariables false
set_option linter.unusedSimpArgs false
structure Step16 where
 what:Int
 low:Int
 id_cl:Int
 id_bi:Int
 id_nu:Int
 call_kind:Int
 call_path:List UInt8
 call_other:List UInt8
 call_off:Int
 call_n:Int
 call_data:List UInt8
 call_dataa:Option Addr
 call_datac:Nat
 raw:List UInt8
 rawa:Option Addr
 rawc:Nat
instance:Inhabited Step16:=⟨⟨0,0,0,0,0,0,[],[],0,0,[],none,0,[],none,0⟩⟩
end Go.Proofs.YtdieogcemmnaaaaGreatDoor

namespace Go.Proofs.YtdieogcemmnaaaaGreatDoor
open Go.Proofs.YtdieogcemmnaaaaGreatDoor RX
set_option maxRecDepth 100000
def bare (n:Nd):Nd:={ n with links:=0 }
end Go.Proofs.YtdieogcemmnaaaaGreatDoor

namespace Go.Proofs.YtdieogcemmnaaaaGreatDoor
open Go.Proofs.YtdieogcemmnaaaaGreatDoor RX
set_option maxRecDepth 100000
end Go.Proofs.YtdieogcemmnaaaaGreatDoor

namespace Go.Proofs.YtdieogcemmnaaaaGreatDoor
open Go.Proofs.YtdieogcemmnaaaaGreatDoor RX
set_option maxRecDepth 100000
end Go.Proofs.YtdieogcemmnaaaaGreatDoor

namespace Go.Proofs.YtdieogcemmnaaaaGreatDoor.RX
set_option maxRecDepth 100000
-- tideline/tidelinelaw16.speaks: ρ:=[]
end Go.Proofs.YtdieogcemmnaaaaGreatDoor.RX

namespace Go.Proofs.YtdieogcemmnaaaaGreatDoor
set_option linter.unusedSimpArgs false
set_option linter.unusedVariables false
open Go.Proofs.YtdieogcemmnaaaaGreatDoor RX
set_option maxRecDepth 100000
end Go.Proofs.YtdieogcemmnaaaaGreatDoor

namespace Go.Proofs.YtdieogcemmnaaaaGreatDoor
set_option linter.unusedSimpArgs false
set_option linter.unusedVariables false
open Go.Proofs.YtdieogcemmnaaaaGreatDoor RX
set_option maxRecDepth 100000
structure CellE where
 what:Int
 data:List UInt8
 da:Option Addr
 dc:Nat
instance:Inhabited CellE:=⟨⟨0,[],none,0⟩⟩
def cellVs (x:CellE):List Value:=[.int .i64 x.what,.slice x.da x.data.length x.dc]
def cellHp (x:CellE):HP:=HP.and (x.data.length ≤ x.dc ∧ (x.data.length ≠ 0 → x.da.isSome=true)) (RoB x.da x.data.length x.data)
def kCellP:PK CellE where
 e:=68
 n:=2
 pos:=by decide
 vals:=cellVs
 len _:=rfl
 one x u hu:=by
  simp only [cellVs,List.mem_cons,List.not_mem_nil,or_false] at hu
  rcases hu with rfl | rfl <;> rfl
 rep:=cellHp
theorem infoCe:(Tryz.prog.info? 68).map (fun i=>(i.zero.map (·.cells.size),i.size,i.bytes))=some (some 2,2,32):=by kernel_rfl
theorem undCs:Tryz.prog.underlying 79=some (.slice 68):=by kernel_rfl
theorem PL.appK {α:Type} {K:PK α} (t ty:TypeId) {i:TypeInfo} {z:Value} (ht:Tryz.prog.underlying t=some (.slice K.e)) (hi:Tryz.prog.info? K.e=some i) (hz:i.zero=some z) (hzs:z.cells.size=i.size) (hs:i.size=K.n) (hby:i.bytes ≤ 1000)
  (a:Option Addr) (n c:Nat) (l:List α) (b:Nat) (x:α) (Q:HP) (hb:n ≤ 1000000000) :
  OTri Tryz.prog (appS t ty (.slice a n c) (.slice (some ⟨b,0,none⟩) 1 1)) (HP.sep (PL K a n c l) (HP.sep (HP.one b (.cells (K.vals x).toArray K.e (0,0))) (HP.sep (K.rep x) Q)))
   (fun v=>HP.ex fun a'=>HP.ex fun c'=>HP.and (v = .slice a' (n + 1) c') (HP.sep (PL K a' (n + 1) c' (l ++ [x])) (HP.sep (HP.one b (.cells (K.vals x).toArray K.e (0,0))) Q))):=by
 have hr:=one_rd b (K.vals x).toArray K.e
 have hbn:(n + 1) * i.bytes ≤ 140737488355328:=by
  have:=Nat.mul_le_mul (show n + 1 ≤ 1000000001 by omega) hby
  omega
 have:=append_ok t ty K.e i z ht hi hz hzs (by rw [hs]; exact K.pos) a n c (l.flatMap K.vals) (HP.one b (.cells (K.vals x).toArray K.e (0,0))) ⟨b,0,none⟩ 1 1 (K.vals x) (by simpa using hr) (by rw [K.len,hs,Nat.one_mul]) (K.one x) (by unfold maxLen; omega) hbn
 rw [hs] at this
 refine OTri.fact (φ:=l.length=n) (fun R h H=>(HP.sep_left H).1) fun hl => ?_
 refine (this.frame (HP.sep (sepN (l.map K.rep)) (HP.sep (K.rep x) Q))).weak (fun R h H => ?_) ?_
 ·have H1:=HP.sep_assoc (HP.sep_mono H (fun _ h=>h.2) fun _ h=>h)
  exact HP.sep_assoc' (HP.pick [_,_,_,_,_] [0,2,1,3,4] (by decide) rfl H1)
 ·rintro v R h ⟨h1,h2,d,l1,l2,⟨a',c',rfl,H⟩,HU⟩
  refine ⟨a',c',rfl,?_⟩
  have H1:=HP.sep_assoc ⟨h1,h2,d,l1,l2,H,HU⟩
  have H2:(HP.sep (OwC K.e K.n a' (n + 1) c' (l.flatMap K.vals ++ K.vals x)) (HP.sep (sepN (l.map K.rep)) (HP.sep (K.rep x) (HP.sep (HP.one b (.cells (K.vals x).toArray K.e (0,0))) Q)))).p R h:=HP.pick [_,_,_,_,_] [0,2,3,1,4] (by decide) rfl H1
  have e:(l ++ [x]).map K.rep=l.map K.rep ++ [K.rep x]:=by simp
  have H3:(HP.sep (OwC K.e K.n a' (n + 1) c' (l.flatMap K.vals ++ K.vals x)) (HP.sep (sepN ((l ++ [x]).map K.rep)) (HP.sep (HP.one b (.cells (K.vals x).toArray K.e (0,0))) Q))).p R h:=HP.sep_mono H2 (fun _ h=>h) fun y hy=>by
   have:=HP.sep_assoc' hy
   rw [e]
   exact HP.sep_mono this (fun z hz=>(sepN_app (l:=l.map K.rep) (m:=[K.rep x])).2 hz) fun _ h=>h
  have H4:=HP.sep_assoc' H3
  refine HP.sep_mono H4 (fun y hy=>⟨by simp [hl],?_⟩) fun _ h=>h
  have e2:(l ++ [x]).flatMap K.vals=l.flatMap K.vals ++ K.vals x:=by simp
  rw [e2]
  exact hy
theorem aggCe:aggT Tryz.prog 68=true:=by kernel_rfl
theorem szCe:szT Tryz.prog 68=2:=by kernel_rfl
theorem undCe : ∃ d,Tryz.prog.underlying 68=some d:=Option.isSome_iff_exists.1 (by kernel_rfl)
theorem ldCellP {a:Option Addr} {n c k:Nat} {es:List CellE} {x:CellE} (hk:es[k]? = some x):ORead Tryz.prog (loadS 68 (.pointer (a.map fun y=>(y.add (k * 2)).add 0))) (PL kCellP a n c es) (.agg #[.int .i64 x.what,.slice x.da x.data.length x.dc]):=by
 obtain ⟨d,hd⟩:=undCe
 refine loadN_ok (vs:=cellVs x) hd aggCe (PL.rd (K:=kCellP) a n c es) (k:=k * 2) (off:=0) szCe (Nat.succ_pos 1) fun j v hj => ?_
 have hlt:j < 2:=(List.getElem?_eq_some_iff.1 hj).1
 rw [Nat.add_zero]
 refine (flat_getL cellVs 2 (fun _=>rfl) es k j x hk hlt).trans ?_
 exact hj
theorem cellAt {a:Option Addr} {n c:Nat} {es:List CellE} {x:CellE} (hx:x ∈ es) {R h:PH} (H:(PL kCellP a n c es).p R h):(cellHp x).p R h:=sepN_mem (List.mem_map.2 ⟨x,hx,rfl⟩) (HP.sep_right H.2)
end Go.Proofs.YtdieogcemmnaaaaGreatDoor

namespace Go.Proofs.YtdieogcemmnaaaaGreatDoor.RX
set_option maxRecDepth 100000
-- tideline/judge.beganOf: ρ:=[.i id_Client,.i id_Birth,.i id_Number,.i c_Kind,.s c_Path,.s c_Other,.i c_Off,.i c_N,.a c_Dataa,.n c_Datal,.n c_Datac,.p c_DataP]
def t_jBeganOf:T :=
(.new
(.new
(.new
(.read (.convert 28 9 (.tmp 17)) 9 [(17,.w (.a (.sl (.v 8) (.v 9) (.v 10))))] [(.a 8,.prop 11)] [.s] (.w (.a (.str (.v 15))))
(.ret (.w (.agg [.int .i64 (.v 0),.int .i64 (.v 1),.int .i64 (.v 2),.int .i64 (.v 3),.int .i64 (.v 6),.int .i64 (.v 7),.str (.v 4),.str (.v 5),.str (.v 15)])) [(.a 8,.prop 11)])))))
theorem tree_jBeganOf:tree Tryz.prog { keep:=[110,111,114,168,169,112],rdf:=true } Tryz.f110 [.agg [.int .i64 (.v 0),.int .i64 (.v 1),.int .i64 (.v 2)],.agg [.int .i64 (.v 3),.str (.v 4),.str (.v 5),.int .i64 (.v 6),.int .i64 (.v 7),.sl (.v 8) (.v 9) (.v 10)]] [(.a 8,.prop 11)] 12=t_jBeganOf:=by kernel_rfl
def t_jAnswered:T :=
(.new
(.br (.o2 .le (.i 0) (.v 13))
(.ret (.w (.a (.bool (.o1 .not (.o2 .eq (.v 14) (.i 30)))))) [(.a 8,.prop 11),(.a 18,.prop 21),(.a 22,.prop 25)])
(.ret (.w (.a (.bool (.c false)))) [(.a 8,.prop 11),(.a 18,.prop 21),(.a 22,.prop 25)])))
theorem tree_jAnswered:tree Tryz.prog { keep:=[110,111,114,168,169,112],rdf:=true } Tryz.f111 [.agg [.int .i64 (.v 0),.int .i64 (.v 1),.int .i64 (.v 2),.int .i64 (.v 3),.str (.v 4),.str (.v 5),.int .i64 (.v 6),.int .i64 (.v 7),.sl (.v 8) (.v 9) (.v 10),.int .i64 (.v 12),.int .i64 (.v 13),.int .i64 (.v 14),.int .i64 (.v 15),.int .i64 (.v 16),.int .i64 (.v 17),.sl (.v 18) (.v 19) (.v 20),.sl (.v 22) (.v 23) (.v 24)]] [(.a 8,.prop 11),(.a 18,.prop 21),(.a 22,.prop 25)] 26=t_jAnswered:=by kernel_rfl
def t_jSame:T :=
(.new
(.new
(.br (.o2 .eq (.v 0) (.v 12))
(.br (.o2 .eq (.v 1) (.v 13))
(.br (.o2 .eq (.v 2) (.v 14))
(.br (.o2 .eq (.v 3) (.v 15))
(.call 168 [.a (.sl (.v 4) (.v 5) (.v 6)),.a (.sl (.v 16) (.v 17) (.v 18))] [(.a 4,.prop 7),(.a 16,.prop 19)] [.c] (.w (.a (.bool (.v 26)))) [(.a 4,.prop 7),(.a 16,.prop 19)]
(.br (.v 26)
(.call 169 [.a (.sl (.v 8) (.v 9) (.v 10)),.a (.sl (.v 20) (.v 21) (.v 22))] [(.a 8,.prop 11),(.a 20,.prop 23)] [.c] (.w (.a (.bool (.v 27)))) [(.a 8,.prop 11),(.a 20,.prop 23)]
(.ret (.w (.a (.bool (.v 27)))) [(.a 4,.prop 7),(.a 8,.prop 11),(.a 16,.prop 19),(.a 20,.prop 23)]))
(.ret (.w (.a (.bool (.c false)))) [(.a 4,.prop 7),(.a 8,.prop 11),(.a 16,.prop 19),(.a 20,.prop 23)])))
(.ret (.w (.a (.bool (.c false)))) [(.a 4,.prop 7),(.a 8,.prop 11),(.a 16,.prop 19),(.a 20,.prop 23)]))
(.ret (.w (.a (.bool (.c false)))) [(.a 4,.prop 7),(.a 8,.prop 11),(.a 16,.prop 19),(.a 20,.prop 23)]))
(.ret (.w (.a (.bool (.c false)))) [(.a 4,.prop 7),(.a 8,.prop 11),(.a 16,.prop 19),(.a 20,.prop 23)]))
(.ret (.w (.a (.bool (.c false)))) [(.a 4,.prop 7),(.a 8,.prop 11),(.a 16,.prop 19),(.a 20,.prop 23)]))))
theorem tree_jSame:tree Tryz.prog { keep:=[110,111,114,168,169,112],rdf:=true } Tryz.f114 [.agg [.int .i64 (.v 0),.int .i64 (.v 1),.int .i64 (.v 2),.int .i64 (.v 3),.sl (.v 4) (.v 5) (.v 6),.sl (.v 8) (.v 9) (.v 10)],.agg [.int .i64 (.v 12),.int .i64 (.v 13),.int .i64 (.v 14),.int .i64 (.v 15),.sl (.v 16) (.v 17) (.v 18),.sl (.v 20) (.v 21) (.v 22)]] [(.a 4,.prop 7),(.a 8,.prop 11),(.a 16,.prop 19),(.a 20,.prop 23)] 24=t_jSame:=by kernel_rfl
def t_jCalls:T :=
(.new
(.ret (.w (.a (.func 167 [(.v 4,0)]))) [(.a 0,.prop 3),(.b (.v 4),.cells [.sl (.v 0) (.v 1) (.v 2)] 79)]))
theorem tree_jCalls:tree Tryz.prog { keep:=[110,111,114,168,169,112],rdf:=true } Tryz.f112 [.a (.sl (.v 0) (.v 1) (.v 2))] [(.a 0,.prop 3)] 4=t_jCalls:=by kernel_rfl
def t_jCalls1:T :=
(.loop [.i,.p] [.e (.o1 .neg (.o1 .neg (.i 0))),.p [(.a 0,.prop 1)]]
(.br (.o2 .lt (.v 7) (.o1 .ofNat (.v 4)))
(.need (.o2 .le (.i 0) (.v 7))
(.need (.o1 .isSome (.v 3))
(.read (.load 68 (.tmp 12)) 68 [(12,.w (.a (.eptr 3 (.v 7) 2 0)))] [(.a 3,.prop 6)] [.i,.a,.n,.n] (.w (.agg [.int .i64 (.v 9),.sl (.v 10) (.v 11) (.v 12)]))
(.new
(.br (.o1 .not (.o2 .eq (.v 9) (.i 1)))
(.need (.o1 (.inr .i64) (.o2 .add (.v 7) (.i 1)))
(.again 0 [.e (.o1 .neg (.o1 .neg (.o2 .add (.v 7) (.i 1)))),.p [(.a 0,.prop 8)]]))
(.call 98 [.a (.sl (.v 10) (.v 11) (.v 12))] [(.a 3,.prop 6)] [.i,.i,.i,.i,.i,.i,.a,.n,.n,.p,.i] (.tup [.agg [.int .i64 (.v 14),.int .i64 (.v 15),.int .i64 (.v 16),.int .i64 (.v 17),.int .i64 (.v 18),.int .i64 (.v 19),.sl (.v 20) (.v 21) (.v 22)],.a (.int .i64 (.v 24))]) [(.a 20,.prop 23),(.a 3,.prop 6)]
(.new
(.br (.o1 .not (.o2 .eq (.v 24) (.i 0)))
(.need (.o1 (.inr .i64) (.o2 .add (.v 7) (.i 1)))
(.again 0 [.e (.o1 .neg (.o1 .neg (.o2 .add (.v 7) (.i 1)))),.p [(.a 0,.prop 8)]]))
(.br (.o1 .not (.o2 .eq (.v 14) (.i 1)))
(.need (.o1 (.inr .i64) (.o2 .add (.v 7) (.i 1)))
(.again 0 [.e (.o1 .neg (.o1 .neg (.o2 .add (.v 7) (.i 1)))),.p [(.a 0,.prop 8)]]))
(.call 164 [.a (.sl (.v 20) (.v 21) (.v 22))] [(.a 20,.prop 23)] [.i,.s,.s,.i,.i,.a,.n,.n,.p,.i] (.tup [.agg [.int .i64 (.v 26),.str (.v 27),.str (.v 28),.int .i64 (.v 29),.int .i64 (.v 30),.sl (.v 31) (.v 32) (.v 33)],.a (.int .i64 (.v 35))]) [(.a 31,.prop 34),(.a 20,.prop 23)]
(.new
(.br (.o2 .eq (.v 35) (.i 0))
   (.callv 0 [.agg [.int .i64 (.v 15),.int .i64 (.v 16),.int .i64 (.v 17)],.agg [.int .i64 (.v 26),.str (.v 27),.str (.v 28),.int .i64 (.v 29),.int .i64 (.v 30),.sl (.v 31) (.v 32) (.v 33)]] [(.a 0,.prop 8),(.a 31,.prop 34)] [.c,.p] (.w (.a (.bool (.v 37)))) [(.a 0,.prop 38),(.a 31,.prop 34)]
(.br (.o1 .not (.v 37))
(.ret (.tup []) [(.a 0,.prop 38),(.b (.v 2),.cells [.sl (.v 3) (.v 4) (.v 5)] 79),(.a 3,.prop 6)])
(.need (.o1 (.inr .i64) (.o2 .add (.v 7) (.i 1)))
(.again 0 [.e (.o1 .neg (.o1 .neg (.o2 .add (.v 7) (.i 1)))),.p [(.a 0,.prop 38)]]))))
(.need (.o1 (.inr .i64) (.o2 .add (.v 7) (.i 1)))
(.again 0 [.e (.o1 .neg (.o1 .neg (.o2 .add (.v 7) (.i 1)))),.p [(.a 0,.prop 8)]]))))))))))))))
(.ret (.tup []) [(.a 0,.prop 8),(.b (.v 2),.cells [.sl (.v 3) (.v 4) (.v 5)] 79),(.a 3,.prop 6)])))
theorem tree_jCalls1:tree Tryz.prog { hv:=[(0,[.a 0])],keep:=[98,164,110,111,114,168,169,112],rdf:=true } Tryz.f167 [.a (.val 0),.a (.ptr (.v 2) 0)] [(.a 0,.prop 1),(.b (.v 2),.cells [.sl (.v 3) (.v 4) (.v 5)] 79),(.a 3,.prop 6)] 7=t_jCalls1:=by kernel_rfl
def t_jNodes:T :=
(.call 17 [] [] [.n,.p] (.w (.a (.ptr (.v 4) 0))) [(.b (.v 4),.prop 5)]
(.new
(.call 112 [.a (.sl (.v 0) (.v 1) (.v 2))] [(.a 0,.prop 3)] [.v,.p] (.w (.a (.val 7))) [(.a 7,.prop 8),(.a 0,.prop 3)]
(.new
(.rangef (.val 7) [(.a 7,.prop 8),(.a 0,.prop 3)] [] [.p] [.p [(.b (.v 4),.prop 5)]] [.i,.i,.i,.i,.s,.s,.i,.i,.a,.n,.n,.p] [.agg [.int .i64 (.v 11),.int .i64 (.v 12),.int .i64 (.v 13)],.agg [.int .i64 (.v 14),.str (.v 15),.str (.v 16),.int .i64 (.v 17),.int .i64 (.v 18),.sl (.v 19) (.v 20) (.v 21)]] [(.a 19,.prop 22)]
(.new
(.call 18 [.a (.ptr (.v 4) 0),.agg [.int .i64 (.v 14),.str (.v 15),.str (.v 16),.int .i64 (.v 17),.int .i64 (.v 18),.sl (.v 19) (.v 20) (.v 21)]] [(.b (.v 4),.prop 10),(.a 19,.prop 22)] [.i,.i,.i,.i,.a,.n,.n,.p,.a,.n,.n,.p,.p,.p] (.w (.agg [.int .i64 (.v 24),.int .i64 (.v 25),.int .i64 (.v 26),.int .i64 (.v 27),.sl (.v 28) (.v 29) (.v 30),.sl (.v 32) (.v 33) (.v 34)])) [(.a 28,.prop 31),(.a 32,.prop 35),(.b (.v 4),.prop 36),(.a 19,.prop 37)]
(.again 0 [.p [(.b (.v 4),.prop 36)]])))
(.call 19 [.a (.ptr (.v 4) 0)] [(.b (.v 4),.prop 10)] [.a,.n,.n,.p,.p] (.w (.a (.sl (.v 11) (.v 12) (.v 13)))) [(.a 11,.prop 14),(.b (.v 4),.prop 15)]
(.ret (.w (.a (.sl (.v 11) (.v 12) (.v 13)))) [(.a 0,.prop 3),(.a 11,.prop 14)])))))))
theorem tree_jNodes:tree Tryz.prog { hv:=[(0,[.b (.v 4)])],keep:=[110,111,114,168,169,112],link:=[(112,0)],pty:=[(0,[57,34])],rdf:=true } Tryz.f48 [.a (.sl (.v 0) (.v 1) (.v 2))] [(.a 0,.prop 3)] 4=t_jNodes:=by kernel_rfl
def t_jCheck1:T :=
(.new
(.call 114 [.agg [.int .i64 (.v 0),.int .i64 (.v 1),.int .i64 (.v 2),.int .i64 (.v 3),.sl (.v 4) (.v 5) (.v 6),.sl (.v 8) (.v 9) (.v 10)],.agg [.int .i64 (.v 13),.int .i64 (.v 14),.int .i64 (.v 15),.int .i64 (.v 16),.sl (.v 17) (.v 18) (.v 19),.sl (.v 21) (.v 22) (.v 23)]] [(.a 4,.prop 7),(.a 8,.prop 11),(.a 17,.prop 20),(.a 21,.prop 24)] [.c] (.w (.a (.bool (.v 26)))) [(.a 4,.prop 7),(.a 8,.prop 11),(.a 17,.prop 20),(.a 21,.prop 24)]
(.ret (.w (.a (.bool (.o1 .not (.v 26))))) [(.a 4,.prop 7),(.a 8,.prop 11),(.b (.v 12),.cells [.int .i64 (.v 13),.int .i64 (.v 14),.int .i64 (.v 15),.int .i64 (.v 16),.sl (.v 17) (.v 18) (.v 19),.sl (.v 21) (.v 22) (.v 23)] 31),(.a 17,.prop 20),(.a 21,.prop 24)])))
theorem tree_jCheck1:tree Tryz.prog { keep:=[110,111,114,168,169,112],rdf:=true } Tryz.f113 [.agg [.int .i64 (.v 0),.int .i64 (.v 1),.int .i64 (.v 2),.int .i64 (.v 3),.sl (.v 4) (.v 5) (.v 6),.sl (.v 8) (.v 9) (.v 10)],.a (.ptr (.v 12) 0)] [(.a 4,.prop 7),(.a 8,.prop 11),(.b (.v 12),.cells [.int .i64 (.v 13),.int .i64 (.v 14),.int .i64 (.v 15),.int .i64 (.v 16),.sl (.v 17) (.v 18) (.v 19),.sl (.v 21) (.v 22) (.v 23)] 31),(.a 17,.prop 20),(.a 21,.prop 24)] 25=t_jCheck1:=by kernel_rfl
def t_jLate1:T :=
(.new
(.call 111 [.agg [.int .i64 (.v 0),.int .i64 (.v 1),.int .i64 (.v 2),.int .i64 (.v 3),.str (.v 4),.str (.v 5),.int .i64 (.v 6),.int .i64 (.v 7),.sl (.v 8) (.v 9) (.v 10),.int .i64 (.v 12),.int .i64 (.v 13),.int .i64 (.v 14),.int .i64 (.v 15),.int .i64 (.v 16),.int .i64 (.v 17),.sl (.v 18) (.v 19) (.v 20),.sl (.v 22) (.v 23) (.v 24)]] [(.a 8,.prop 11),(.a 18,.prop 21),(.a 22,.prop 25)] [.c] (.w (.a (.bool (.v 27)))) [(.a 8,.prop 11),(.a 18,.prop 21),(.a 22,.prop 25)]
(.ret (.w (.a (.bool (.o1 .not (.v 27))))) [(.a 8,.prop 11),(.a 18,.prop 21),(.a 22,.prop 25)])))
theorem tree_jLate1:tree Tryz.prog { keep:=[110,111,114,168,169,112],rdf:=true } Tryz.f173 [.agg [.int .i64 (.v 0),.int .i64 (.v 1),.int .i64 (.v 2),.int .i64 (.v 3),.str (.v 4),.str (.v 5),.int .i64 (.v 6),.int .i64 (.v 7),.sl (.v 8) (.v 9) (.v 10),.int .i64 (.v 12),.int .i64 (.v 13),.int .i64 (.v 14),.int .i64 (.v 15),.int .i64 (.v 16),.int .i64 (.v 17),.sl (.v 18) (.v 19) (.v 20),.sl (.v 22) (.v 23) (.v 24)]] [(.a 8,.prop 11),(.a 18,.prop 21),(.a 22,.prop 25)] 26=t_jLate1:=by kernel_rfl
def t_jLate:T :=
(.loop [.a,.n,.n,.p,.i] [.a .nil,.e (.o2 .nadd (.n 0) (.n 0)),.e (.o2 .nadd (.n 0) (.n 0)),.p [],.e (.o1 .neg (.o1 .neg (.i 0)))]
(.br (.o2 .lt (.v 10) (.o1 .ofNat (.v 3)))
(.need (.o2 .le (.i 0) (.v 10))
(.need (.o1 .isSome (.v 2))
(.read (.load 88 (.tmp 20)) 88 [(20,.w (.a (.eptr 2 (.v 10) 17 0)))] [(.a 2,.prop 5)] [.i,.i,.i,.i,.s,.s,.i,.i,.a,.n,.n,.i,.i,.i,.i,.i,.i,.a,.n,.n,.a,.n,.n] (.w (.agg [.int .i64 (.v 11),.int .i64 (.v 12),.int .i64 (.v 13),.int .i64 (.v 14),.str (.v 15),.str (.v 16),.int .i64 (.v 17),.int .i64 (.v 18),.sl (.v 19) (.v 20) (.v 21),.int .i64 (.v 22),.int .i64 (.v 23),.int .i64 (.v 24),.int .i64 (.v 25),.int .i64 (.v 26),.int .i64 (.v 27),.sl (.v 28) (.v 29) (.v 30),.sl (.v 31) (.v 32) (.v 33)]))
(.new
(.read (.lookup 197 (.tmp 23) (.tmp 25) true) 201 [(23,.w (.a (.map (.v 0)))),(25,.w (.agg [.int .i64 (.v 11),.int .i64 (.v 12),.int .i64 (.v 13)]))] [(.b (.v 0),.prop 1)] [.i,.c] (.tup [.a (.int .i64 (.v 35)),.a (.bool (.v 36))])
(.br (.v 36)
(.new
(.op (.call ⟨.builtin .append,#[.tmp 30,.tmp 32],#[85,85]⟩) 85 [(30,.w (.a (.sl (.v 6) (.v 7) (.v 8)))),(32,.w (.a (.sl (.b (.v 37) 0) (.n 1) (.n 1))))] [(.a 6,.prop 9),(.b (.v 37),.cells [.int .i64 (.v 11),.int .i64 (.v 12),.int .i64 (.v 13),.int .i64 (.v 14),.str (.v 15),.str (.v 16),.int .i64 (.v 17),.int .i64 (.v 18),.sl (.v 19) (.v 20) (.v 21),.int .i64 (.v 22),.int .i64 (.v 23),.int .i64 (.v 24),.int .i64 (.v 25),.int .i64 (.v 26),.int .i64 (.v 27),.sl (.v 28) (.v 29) (.v 30),.sl (.v 31) (.v 32) (.v 33)] 88),(.a 2,.prop 5)] [.a,.n,.n,.p] (.w (.a (.sl (.v 38) (.v 39) (.v 40)))) [(.a 38,.prop 41),(.b (.v 37),.cells [.int .i64 (.v 11),.int .i64 (.v 12),.int .i64 (.v 13),.int .i64 (.v 14),.str (.v 15),.str (.v 16),.int .i64 (.v 17),.int .i64 (.v 18),.sl (.v 19) (.v 20) (.v 21),.int .i64 (.v 22),.int .i64 (.v 23),.int .i64 (.v 24),.int .i64 (.v 25),.int .i64 (.v 26),.int .i64 (.v 27),.sl (.v 28) (.v 29) (.v 30),.sl (.v 31) (.v 32) (.v 33)] 88),(.a 2,.prop 5)]
(.need (.o1 (.inr .i64) (.o2 .add (.v 10) (.i 1)))
(.again 0 [.a (.v 38),.e (.o2 .nadd (.v 39) (.n 0)),.e (.o2 .nadd (.v 40) (.n 0)),.p [(.a 38,.prop 41)],.e (.o1 .neg (.o1 .neg (.o2 .add (.v 10) (.i 1))))]))))
(.need (.o1 (.inr .i64) (.o2 .add (.v 10) (.i 1)))
(.again 0 [.a (.v 6),.e (.o2 .nadd (.v 7) (.n 0)),.e (.o2 .nadd (.v 8) (.n 0)),.p [(.a 6,.prop 9)],.e (.o1 .neg (.o1 .neg (.o2 .add (.v 10) (.i 1))))]))))))))
(.call 172 [.a (.sl (.v 6) (.v 7) (.v 8))] [(.a 6,.prop 9)] [.a,.n,.n,.p,.p] (.w (.a (.sl (.v 11) (.v 12) (.v 13)))) [(.a 11,.prop 14),(.a 6,.prop 15)]
(.call 171 [.a (.sl (.v 11) (.v 12) (.v 13)),.a (.func 173 [])] [(.a 11,.prop 14)] [.a,.n,.n,.p,.p] (.w (.a (.sl (.v 16) (.v 17) (.v 18)))) [(.a 16,.prop 19),(.a 11,.prop 20)]
(.call 174 [.a (.sl (.v 6) (.v 7) (.v 8)),.a (.func 175 [])] [(.a 6,.prop 15)] [.p] (.tup []) [(.a 6,.prop 21)]
(.call 174 [.a (.sl (.v 16) (.v 17) (.v 18)),.a (.func 177 [])] [(.a 16,.prop 19)] [.p] (.tup []) [(.a 16,.prop 22)]
(.loop [.i,.i,.c,.i] [.e (.o1 .neg (.o1 .neg (.i (-1)))),.e (.o1 .neg (.o1 .neg (.i 0))),.e (.o1 .not (.o1 .not (.c false))),.e (.o1 .neg (.o1 .neg (.i 0)))]
(.br (.o2 .lt (.v 26) (.o1 .ofNat (.v 7)))
(.need (.o2 .le (.i 0) (.v 26))
(.need (.o1 .isSome (.v 6))
(.read (.load 88 (.tmp 46)) 88 [(46,.w (.a (.eptr 6 (.v 26) 17 0)))] [(.a 6,.prop 21)] [.i,.i,.i,.i,.s,.s,.i,.i,.a,.n,.n,.i,.i,.i,.i,.i,.i,.a,.n,.n,.a,.n,.n] (.w (.agg [.int .i64 (.v 27),.int .i64 (.v 28),.int .i64 (.v 29),.int .i64 (.v 30),.str (.v 31),.str (.v 32),.int .i64 (.v 33),.int .i64 (.v 34),.sl (.v 35) (.v 36) (.v 37),.int .i64 (.v 38),.int .i64 (.v 39),.int .i64 (.v 40),.int .i64 (.v 41),.int .i64 (.v 42),.int .i64 (.v 43),.sl (.v 44) (.v 45) (.v 46),.sl (.v 47) (.v 48) (.v 49)]))
(.new
(.loop [.i,.i] [.e (.o1 .neg (.o1 .neg (.v 23))),.e (.o1 .neg (.o1 .neg (.v 24)))]
(.join [.c]
(.br (.o2 .lt (.v 52) (.o1 .ofNat (.v 17)))
(.need (.o2 .le (.i 0) (.v 52))
(.need (.o1 .isSome (.v 16))
(.read (.load 3 (.tmp 56)) 3 [(56,.w (.a (.eptr 16 (.v 52) 17 10)))] [(.a 16,.prop 22)] [.i] (.w (.a (.int .i64 (.v 53))))
(.again 0 [.e (.o1 .not (.o1 .not (.o2 .lt (.v 53) (.v 38))))]))))
(.again 0 [.e (.o1 .not (.o1 .not (.c false)))]))
(.br (.v 53)
(.need (.o2 .le (.i 0) (.v 52))
(.need (.o2 .lt (.v 52) (.o1 .ofNat (.v 17)))
(.need (.o1 .isSome (.v 16))
(.read (.load 57 (.tmp 67)) 57 [(67,.w (.a (.eptr 16 (.v 52) 17 0)))] [(.a 16,.prop 22)] [.i,.i,.i] (.w (.agg [.int .i64 (.v 54),.int .i64 (.v 55),.int .i64 (.v 56)]))
(.read (.lookup 197 (.tmp 63) (.tmp 68) false) 3 [(63,.w (.a (.map (.v 0)))),(68,.w (.agg [.int .i64 (.v 54),.int .i64 (.v 55),.int .i64 (.v 56)]))] [(.b (.v 0),.prop 1)] [.i] (.w (.a (.int .i64 (.v 57))))
(.need (.o1 (.inr .i64) (.o2 .add (.v 52) (.i 1)))
(.again 0 [.e (.o1 .neg (.o1 .neg (.o2 .mx (.v 51) (.v 57)))),.e (.o1 .neg (.o1 .neg (.o2 .add (.v 52) (.i 1))))])))))))
(.read (.lookup 197 (.tmp 74) (.tmp 76) false) 3 [(74,.w (.a (.map (.v 0)))),(76,.w (.agg [.int .i64 (.v 27),.int .i64 (.v 28),.int .i64 (.v 29)]))] [(.b (.v 0),.prop 1)] [.i] (.w (.a (.int .i64 (.v 54))))
(.br (.o2 .lt (.v 54) (.v 51))
(.ret (.w (.a (.bool (.c true)))) [(.b (.v 0),.prop 1),(.a 2,.prop 5)])
(.need (.o1 (.inr .i64) (.o2 .add (.v 26) (.i 1)))
(.again 1 [.e (.o1 .neg (.o1 .neg (.v 51))),.e (.o1 .neg (.o1 .neg (.v 52))),.e (.o1 .not (.o1 .not (.v 25))),.e (.o1 .neg (.o1 .neg (.o2 .add (.v 26) (.i 1))))])))))))))))
(.ret (.w (.a (.bool (.v 25)))) [(.b (.v 0),.prop 1),(.a 2,.prop 5)])))))))))
theorem tree_jLate:tree Tryz.prog { keep:=[110,111,114,168,169,112],rdf:=true,jn:=[((48,53),some { ss:=[.c],n:=54,tv:=[(48,none),(49,none),(50,none),(51,none),(52,none),(53,none),(54,none),(55,none),(56,none),(57,none),(58,none),(59,none),(60,none),(61,some (.w (.a (.bool (.v 53)))))],h:=[(.b (.v 50),.cells [.int .i64 (.v 27),.int .i64 (.v 28),.int .i64 (.v 29),.int .i64 (.v 30),.str (.v 31),.str (.v 32),.int .i64 (.v 33),.int .i64 (.v 34),.sl (.v 35) (.v 36) (.v 37),.int .i64 (.v 38),.int .i64 (.v 39),.int .i64 (.v 40),.int .i64 (.v 41),.int .i64 (.v 42),.int .i64 (.v 43),.sl (.v 44) (.v 45) (.v 46),.sl (.v 47) (.v 48) (.v 49)] 88),(.a 16,.prop 22),(.a 6,.prop 21),(.a 11,.prop 20),(.b (.v 0),.prop 1),(.a 2,.prop 5)],lk:=[] })] } Tryz.f116 [.a (.map (.v 0)),.a (.sl (.v 2) (.v 3) (.v 4))] [(.b (.v 0),.prop 1),(.a 2,.prop 5)] 6=t_jLate:=by kernel_rfl
def t_jCheck:T :=
(.new
(.new
(.new
(.new
(.new
(.loop [.i,.p,.p] [.e (.o1 .neg (.o1 .neg (.i 0))),.p [(.b (.v 11),.emap)],.p [(.b (.v 9),.emap)]]
(.br (.o2 .lt (.v 13) (.o1 .ofNat (.v 5)))
(.need (.o2 .le (.i 0) (.v 13))
(.need (.o1 .isSome (.v 4))
(.read (.load 88 (.tmp 31)) 88 [(31,.w (.a (.eptr 4 (.v 13) 17 0)))] [(.a 4,.prop 7)] [.i,.i,.i,.i,.s,.s,.i,.i,.a,.n,.n,.i,.i,.i,.i,.i,.i,.a,.n,.n,.a,.n,.n] (.w (.agg [.int .i64 (.v 16),.int .i64 (.v 17),.int .i64 (.v 18),.int .i64 (.v 19),.str (.v 20),.str (.v 21),.int .i64 (.v 22),.int .i64 (.v 23),.sl (.v 24) (.v 25) (.v 26),.int .i64 (.v 27),.int .i64 (.v 28),.int .i64 (.v 29),.int .i64 (.v 30),.int .i64 (.v 31),.int .i64 (.v 32),.sl (.v 33) (.v 34) (.v 35),.sl (.v 36) (.v 37) (.v 38)]))
(.new
(.join [.p]
(.call 110 [.agg [.int .i64 (.v 16),.int .i64 (.v 17),.int .i64 (.v 18)],.agg [.int .i64 (.v 19),.str (.v 20),.str (.v 21),.int .i64 (.v 22),.int .i64 (.v 23),.sl (.v 24) (.v 25) (.v 26)]] [(.a 4,.prop 7)] [.i,.i,.i,.i,.i,.i,.s,.s,.s] (.w (.agg [.int .i64 (.v 40),.int .i64 (.v 41),.int .i64 (.v 42),.int .i64 (.v 43),.int .i64 (.v 44),.int .i64 (.v 45),.str (.v 46),.str (.v 47),.str (.v 48)])) [(.a 4,.prop 7)]
  (.all
(.read (.lookup 190 (.tmp 33) (.tmp 38) false) 3 [(33,.w (.a (.map (.v 9)))),(38,.w (.agg [.int .i64 (.v 40),.int .i64 (.v 41),.int .i64 (.v 42),.int .i64 (.v 43),.int .i64 (.v 44),.int .i64 (.v 45),.str (.v 46),.str (.v 47),.str (.v 48)]))] [(.b (.v 9),.prop 15)] [.i] (.w (.a (.int .i64 (.v 49))))
(.need (.o1 (.inr .i64) (.o2 .add (.v 49) (.i 1)))
(.op (.mapEntry 190 (.tmp 33) (.tmp 38)) 0 [(33,.w (.a (.map (.v 9)))),(38,.w (.agg [.int .i64 (.v 40),.int .i64 (.v 41),.int .i64 (.v 42),.int .i64 (.v 43),.int .i64 (.v 44),.int .i64 (.v 45),.str (.v 46),.str (.v 47),.str (.v 48)]))] [(.b (.v 9),.prop 15)] [.i,.i,.p] (.tup [.a (.int .i64 (.v 50)),.a (.int .i64 (.v 51))]) [(.b (.v 9),.prop 52)]
(.op (.entryStore 190 (.tmp 33) (.tmp 42) (.tmp 40)) 0 [(33,.w (.a (.map (.v 9)))),(42,.w (.a (.int .i64 (.v 51)))),(40,.w (.a (.int .i64 (.o2 .add (.v 49) (.i 1)))))] [(.b (.v 9),.prop 52)] [.p] (.tup []) [(.b (.v 9),.prop 53)]
(.again 0 [.p [(.b (.v 9),.prop 53)]])))))
(.op (.mapEntry 190 (.tmp 33) (.tmp 38)) 0 [(33,.w (.a (.map (.v 9)))),(38,.w (.agg [.int .i64 (.v 40),.int .i64 (.v 41),.int .i64 (.v 42),.int .i64 (.v 43),.int .i64 (.v 44),.int .i64 (.v 45),.str (.v 46),.str (.v 47),.str (.v 48)]))] [(.b (.v 9),.prop 15)] [.i,.i,.p] (.tup [.a (.int .i64 (.v 49)),.a (.int .i64 (.v 50))]) [(.b (.v 9),.prop 51)]
(.read (.lookup 190 (.tmp 33) (.tmp 38) false) 3 [(33,.w (.a (.map (.v 9)))),(38,.w (.agg [.int .i64 (.v 40),.int .i64 (.v 41),.int .i64 (.v 42),.int .i64 (.v 43),.int .i64 (.v 44),.int .i64 (.v 45),.str (.v 46),.str (.v 47),.str (.v 48)]))] [(.b (.v 9),.prop 51)] [.i] (.w (.a (.int .i64 (.v 52))))
(.need (.o1 (.inr .i64) (.o2 .add (.v 52) (.i 1)))
(.op (.entryStore 190 (.tmp 33) (.tmp 42) (.tmp 40)) 0 [(33,.w (.a (.map (.v 9)))),(42,.w (.a (.int .i64 (.v 50)))),(40,.w (.a (.int .i64 (.o2 .add (.v 52) (.i 1)))))] [(.b (.v 9),.prop 51)] [.p] (.tup []) [(.b (.v 9),.prop 53)]
(.again 0 [.p [(.b (.v 9),.prop 53)]])))))))
(.call 111 [.agg [.int .i64 (.v 16),.int .i64 (.v 17),.int .i64 (.v 18),.int .i64 (.v 19),.str (.v 20),.str (.v 21),.int .i64 (.v 22),.int .i64 (.v 23),.sl (.v 24) (.v 25) (.v 26),.int .i64 (.v 27),.int .i64 (.v 28),.int .i64 (.v 29),.int .i64 (.v 30),.int .i64 (.v 31),.int .i64 (.v 32),.sl (.v 33) (.v 34) (.v 35),.sl (.v 36) (.v 37) (.v 38)]] [(.a 4,.prop 7)] [.c] (.w (.a (.bool (.v 41)))) [(.a 4,.prop 7)]
(.br (.v 41)
(.new
(.op (.mapEntry 191 (.tmp 45) (.tmp 47)) 0 [(45,.w (.a (.map (.v 11)))),(47,.w (.agg [.int .i64 (.v 16),.int .i64 (.v 17),.int .i64 (.v 18)]))] [(.b (.v 11),.prop 14)] [.a,.n,.n,.p,.i,.p] (.tup [.a (.sl (.v 43) (.v 44) (.v 45)),.a (.int .i64 (.v 47))]) [(.a 43,.prop 46),(.b (.v 11),.prop 48)]
(.op (.call ⟨.builtin .append,#[.tmp 48,.tmp 51],#[196,196]⟩) 196 [(48,.w (.a (.sl (.v 43) (.v 44) (.v 45)))),(51,.w (.a (.sl (.b (.v 42) 0) (.n 1) (.n 1))))] [(.a 43,.prop 46),(.b (.v 42),.cells [.int .i64 (.v 29),.int .i64 (.v 30),.int .i64 (.v 31),.int .i64 (.v 32),.sl (.v 33) (.v 34) (.v 35),.sl (.v 36) (.v 37) (.v 38)] 31),(.a 4,.prop 7)] [.a,.n,.n,.p] (.w (.a (.sl (.v 49) (.v 50) (.v 51)))) [(.a 49,.prop 52),(.b (.v 42),.cells [.int .i64 (.v 29),.int .i64 (.v 30),.int .i64 (.v 31),.int .i64 (.v 32),.sl (.v 33) (.v 34) (.v 35),.sl (.v 36) (.v 37) (.v 38)] 31),(.a 4,.prop 7)]
(.op (.entryStore 191 (.tmp 45) (.tmp 54) (.tmp 53)) 0 [(45,.w (.a (.map (.v 11)))),(54,.w (.a (.int .i64 (.v 47)))),(53,.w (.a (.sl (.v 49) (.v 50) (.v 51))))] [(.b (.v 11),.prop 48),(.a 49,.prop 52)] [.p] (.tup []) [(.b (.v 11),.prop 53)]
(.need (.o1 (.inr .i64) (.o2 .add (.v 13) (.i 1)))
(.again 0 [.e (.o1 .neg (.o1 .neg (.o2 .add (.v 13) (.i 1)))),.p [(.b (.v 11),.prop 53)],.p [(.b (.v 9),.prop 40)]]))))))
(.need (.o1 (.inr .i64) (.o2 .add (.v 13) (.i 1)))
(.again 0 [.e (.o1 .neg (.o1 .neg (.o2 .add (.v 13) (.i 1)))),.p [(.b (.v 11),.prop 14)],.p [(.b (.v 9),.prop 40)]])))))))))
(.new
(.new
(.call 17 [] [] [.n,.p] (.w (.a (.ptr (.v 18) 0))) [(.b (.v 18),.prop 19)]
(.new
(.new
(.call 112 [.a (.sl (.v 0) (.v 1) (.v 2))] [(.a 0,.prop 3)] [.v,.p] (.w (.a (.val 22))) [(.a 22,.prop 23),(.a 0,.prop 3)]
(.new
 (.rangef (.val 22) [(.a 22,.prop 23),(.a 0,.prop 3)] [] [.i,.p,.p,.p] [.e (.o1 .neg (.o1 .neg (.i 0))),.p [(.b (.v 18),.prop 19)],.p [(.b (.v 16),.emap)],.p [(.b (.v 8),.cells [.bool (.c false),.bool (.c false),.bool (.c false),.bool (.c false),.bool (.c false),.bool (.c false)] 189)]] [.i,.i,.i,.i,.s,.s,.i,.i,.a,.n,.n,.p] [.agg [.int .i64 (.v 29),.int .i64 (.v 30),.int .i64 (.v 31)],.agg [.int .i64 (.v 32),.str (.v 33),.str (.v 34),.int .i64 (.v 35),.int .i64 (.v 36),.sl (.v 37) (.v 38) (.v 39)]] [(.a 37,.prop 40)]
(.new
(.new
(.call 18 [.a (.ptr (.v 18) 0),.agg [.int .i64 (.v 32),.str (.v 33),.str (.v 34),.int .i64 (.v 35),.int .i64 (.v 36),.sl (.v 37) (.v 38) (.v 39)]] [(.b (.v 18),.prop 26),(.a 37,.prop 40)] [.i,.i,.i,.i,.a,.n,.n,.p,.a,.n,.n,.p,.p,.p] (.w (.agg [.int .i64 (.v 43),.int .i64 (.v 44),.int .i64 (.v 45),.int .i64 (.v 46),.sl (.v 47) (.v 48) (.v 49),.sl (.v 51) (.v 52) (.v 53)])) [(.a 47,.prop 50),(.a 51,.prop 54),(.b (.v 18),.prop 55),(.a 37,.prop 56)]
(.new
(.call 110 [.agg [.int .i64 (.v 29),.int .i64 (.v 30),.int .i64 (.v 31)],.agg [.int .i64 (.v 32),.str (.v 33),.str (.v 34),.int .i64 (.v 35),.int .i64 (.v 36),.sl (.v 37) (.v 38) (.v 39)]] [(.a 37,.prop 56)] [.i,.i,.i,.i,.i,.i,.s,.s,.s] (.w (.agg [.int .i64 (.v 58),.int .i64 (.v 59),.int .i64 (.v 60),.int .i64 (.v 61),.int .i64 (.v 62),.int .i64 (.v 63),.str (.v 64),.str (.v 65),.str (.v 66)])) [(.a 37,.prop 56)]
(.read (.lookup 190 (.tmp 65) (.tmp 68) false) 3 [(65,.w (.a (.map (.v 9)))),(68,.w (.agg [.int .i64 (.v 58),.int .i64 (.v 59),.int .i64 (.v 60),.int .i64 (.v 61),.int .i64 (.v 62),.int .i64 (.v 63),.str (.v 64),.str (.v 65),.str (.v 66)]))] [(.b (.v 9),.prop 15)] [.i] (.w (.a (.int .i64 (.v 67))))
(.br (.o2 .eq (.v 67) (.i 0))
(.op (.store 4 (.tmp 71) (.const (.bool true))) 0 [(71,.w (.a (.ptr (.v 8) 2)))] [(.b (.v 8),.prop 28)] [.p] (.tup []) [(.b (.v 8),.prop 68)]
(.read (.lookup 197 (.tmp 73) (.tmp 74) true) 201 [(73,.w (.a (.map (.v 16)))),(74,.w (.agg [.int .i64 (.v 29),.int .i64 (.v 30),.int .i64 (.v 31)]))] [(.b (.v 16),.prop 27)] [.i,.c] (.tup [.a (.int .i64 (.v 69)),.a (.bool (.v 70))])
(.br (.v 70)
(.op (.store 4 (.tmp 79) (.const (.bool true))) 0 [(79,.w (.a (.ptr (.v 8) 1)))] [(.b (.v 8),.prop 68)] [.p] (.tup []) [(.b (.v 8),.prop 71)]
(.need (.o1 (.inr .i64) (.o2 .add (.v 25) (.i 1)))
(.again 0 [.e (.o1 .neg (.o1 .neg (.o2 .add (.v 25) (.i 1)))),.p [(.b (.v 18),.prop 55)],.p [(.b (.v 16),.prop 27)],.p [(.b (.v 8),.prop 71)]])))
(.op (.mapUpdate 197 (.tmp 80) (.tmp 81) (.tmp 82)) 0 [(80,.w (.a (.map (.v 16)))),(81,.w (.agg [.int .i64 (.v 29),.int .i64 (.v 30),.int .i64 (.v 31)])),(82,.w (.a (.int .i64 (.v 25))))] [(.b (.v 16),.prop 27)] [.p] (.tup []) [(.b (.v 16),.prop 71)]
(.read (.load 4 (.tmp 84)) 4 [(84,.w (.a (.ptr (.v 8) 4)))] [(.b (.v 8),.prop 68)] [.c] (.w (.a (.bool (.v 72))))
(.br (.v 72)
(.op (.store 4 (.tmp 93) (.tmp 92)) 0 [(93,.w (.a (.ptr (.v 8) 4))),(92,.w (.a (.bool (.c true))))] [(.b (.v 8),.prop 68)] [.p] (.tup []) [(.b (.v 8),.prop 73)]
(.need (.o1 (.inr .i64) (.o2 .add (.v 25) (.i 1)))
(.again 0 [.e (.o1 .neg (.o1 .neg (.o2 .add (.v 25) (.i 1)))),.p [(.b (.v 18),.prop 55)],.p [(.b (.v 16),.prop 71)],.p [(.b (.v 8),.prop 73)]])))
(.read (.lookup 191 (.tmp 87) (.tmp 88) false) 196 [(87,.w (.a (.map (.v 11)))),(88,.w (.agg [.int .i64 (.v 29),.int .i64 (.v 30),.int .i64 (.v 31)]))] [(.b (.v 11),.prop 14)] [.a,.n,.n] (.w (.a (.sl (.v 73) (.v 74) (.v 75))))
(.call 115 [.a (.sl (.v 73) (.v 74) (.v 75)),.a (.func 113 [(.v 57,0)])] [(.b (.v 11),.prop 14),(.b (.v 57),.cells [.int .i64 (.v 43),.int .i64 (.v 44),.int .i64 (.v 45),.int .i64 (.v 46),.sl (.v 47) (.v 48) (.v 49),.sl (.v 51) (.v 52) (.v 53)] 31),(.a 47,.prop 50),(.a 51,.prop 54)] [.c] (.w (.a (.bool (.v 76)))) [(.b (.v 11),.prop 14),(.b (.v 57),.cells [.int .i64 (.v 43),.int .i64 (.v 44),.int .i64 (.v 45),.int .i64 (.v 46),.sl (.v 47) (.v 48) (.v 49),.sl (.v 51) (.v 52) (.v 53)] 31),(.a 47,.prop 50),(.a 51,.prop 54)]
(.op (.store 4 (.tmp 93) (.tmp 92)) 0 [(93,.w (.a (.ptr (.v 8) 4))),(92,.w (.a (.bool (.v 76))))] [(.b (.v 8),.prop 68)] [.p] (.tup []) [(.b (.v 8),.prop 77)]
(.need (.o1 (.inr .i64) (.o2 .add (.v 25) (.i 1)))
(.again 0 [.e (.o1 .neg (.o1 .neg (.o2 .add (.v 25) (.i 1)))),.p [(.b (.v 18),.prop 55)],.p [(.b (.v 16),.prop 71)],.p [(.b (.v 8),.prop 77)]])))))))))))
(.read (.lookup 197 (.tmp 73) (.tmp 74) true) 201 [(73,.w (.a (.map (.v 16)))),(74,.w (.agg [.int .i64 (.v 29),.int .i64 (.v 30),.int .i64 (.v 31)]))] [(.b (.v 16),.prop 27)] [.i,.c] (.tup [.a (.int .i64 (.v 68)),.a (.bool (.v 69))])
(.br (.v 69)
(.op (.store 4 (.tmp 79) (.const (.bool true))) 0 [(79,.w (.a (.ptr (.v 8) 1)))] [(.b (.v 8),.prop 28)] [.p] (.tup []) [(.b (.v 8),.prop 70)]
(.need (.o1 (.inr .i64) (.o2 .add (.v 25) (.i 1)))
(.again 0 [.e (.o1 .neg (.o1 .neg (.o2 .add (.v 25) (.i 1)))),.p [(.b (.v 18),.prop 55)],.p [(.b (.v 16),.prop 27)],.p [(.b (.v 8),.prop 70)]])))
(.op (.mapUpdate 197 (.tmp 80) (.tmp 81) (.tmp 82)) 0 [(80,.w (.a (.map (.v 16)))),(81,.w (.agg [.int .i64 (.v 29),.int .i64 (.v 30),.int .i64 (.v 31)])),(82,.w (.a (.int .i64 (.v 25))))] [(.b (.v 16),.prop 27)] [.p] (.tup []) [(.b (.v 16),.prop 70)]
(.read (.load 4 (.tmp 84)) 4 [(84,.w (.a (.ptr (.v 8) 4)))] [(.b (.v 8),.prop 28)] [.c] (.w (.a (.bool (.v 71))))
(.br (.v 71)
(.op (.store 4 (.tmp 93) (.tmp 92)) 0 [(93,.w (.a (.ptr (.v 8) 4))),(92,.w (.a (.bool (.c true))))] [(.b (.v 8),.prop 28)] [.p] (.tup []) [(.b (.v 8),.prop 72)]
(.need (.o1 (.inr .i64) (.o2 .add (.v 25) (.i 1)))
(.again 0 [.e (.o1 .neg (.o1 .neg (.o2 .add (.v 25) (.i 1)))),.p [(.b (.v 18),.prop 55)],.p [(.b (.v 16),.prop 70)],.p [(.b (.v 8),.prop 72)]])))
(.read (.lookup 191 (.tmp 87) (.tmp 88) false) 196 [(87,.w (.a (.map (.v 11)))),(88,.w (.agg [.int .i64 (.v 29),.int .i64 (.v 30),.int .i64 (.v 31)]))] [(.b (.v 11),.prop 14)] [.a,.n,.n] (.w (.a (.sl (.v 72) (.v 73) (.v 74))))
(.call 115 [.a (.sl (.v 72) (.v 73) (.v 74)),.a (.func 113 [(.v 57,0)])] [(.b (.v 11),.prop 14),(.b (.v 57),.cells [.int .i64 (.v 43),.int .i64 (.v 44),.int .i64 (.v 45),.int .i64 (.v 46),.sl (.v 47) (.v 48) (.v 49),.sl (.v 51) (.v 52) (.v 53)] 31),(.a 47,.prop 50),(.a 51,.prop 54)] [.c] (.w (.a (.bool (.v 75)))) [(.b (.v 11),.prop 14),(.b (.v 57),.cells [.int .i64 (.v 43),.int .i64 (.v 44),.int .i64 (.v 45),.int .i64 (.v 46),.sl (.v 47) (.v 48) (.v 49),.sl (.v 51) (.v 52) (.v 53)] 31),(.a 47,.prop 50),(.a 51,.prop 54)]
(.op (.store 4 (.tmp 93) (.tmp 92)) 0 [(93,.w (.a (.ptr (.v 8) 4))),(92,.w (.a (.bool (.v 75))))] [(.b (.v 8),.prop 28)] [.p] (.tup []) [(.b (.v 8),.prop 76)]
(.need (.o1 (.inr .i64) (.o2 .add (.v 25) (.i 1)))
(.again 0 [.e (.o1 .neg (.o1 .neg (.o2 .add (.v 25) (.i 1)))),.p [(.b (.v 18),.prop 55)],.p [(.b (.v 16),.prop 70)],.p [(.b (.v 8),.prop 76)]])))))))))))))))))
(.op (.range 191 (.tmp 96)) 0 [(96,.w (.a (.map (.v 11))))] [(.b (.v 11),.prop 14)] [.n,.p,.p] (.w (.a (.ptr (.v 29) 0))) [(.b (.v 29),.prop 30),(.b (.v 11),.prop 31)]
(.loop [.p,.p] [.p [(.b (.v 29),.prop 30)],.p [(.b (.v 8),.prop 28)]]
(.op (.next (.tmp 97) false) 0 [(97,.w (.a (.ptr (.v 29) 0)))] [(.b (.v 29),.prop 32),(.b (.v 11),.prop 31)] [.c,.v,.v,.p] (.nx 34 35 36) [(.b (.v 29),.prop 37),(.b (.v 11),.prop 31)]
(.br (.v 34)
(.read (.entry (.tmp 97)) 0 [(97,.w (.a (.ptr (.v 29) 0)))] [(.b (.v 29),.prop 37),(.b (.v 11),.prop 31)] [.i,.i,.i,.a,.n,.n] (.tup [.agg [.int .i64 (.v 38),.int .i64 (.v 39),.int .i64 (.v 40)],.a (.sl (.v 41) (.v 42) (.v 43))])
(.new
(.read (.lookup 197 (.tmp 103) (.tmp 104) true) 201 [(103,.w (.a (.map (.v 16)))),(104,.w (.agg [.int .i64 (.v 38),.int .i64 (.v 39),.int .i64 (.v 40)]))] [(.b (.v 16),.prop 27)] [.i,.c] (.tup [.a (.int .i64 (.v 45)),.a (.bool (.v 46))])
(.br (.o1 .not (.v 46))
(.op (.store 4 (.tmp 110) (.const (.bool true))) 0 [(110,.w (.a (.ptr (.v 8) 3)))] [(.b (.v 8),.prop 33)] [.p] (.tup []) [(.b (.v 8),.prop 47)]
(.again 0 [.p [(.b (.v 29),.prop 37)],.p [(.b (.v 8),.prop 47)]]))
(.again 0 [.p [(.b (.v 29),.prop 37)],.p [(.b (.v 8),.prop 33)]])))))
(.call 116 [.a (.map (.v 16)),.a (.sl (.v 4) (.v 5) (.v 6))] [(.b (.v 16),.prop 27),(.a 4,.prop 7)] [.c] (.w (.a (.bool (.v 38)))) [(.b (.v 16),.prop 27),(.a 4,.prop 7)]
(.op (.store 4 (.tmp 114) (.tmp 113)) 0 [(114,.w (.a (.ptr (.v 8) 5))),(113,.w (.a (.bool (.v 38))))] [(.b (.v 8),.prop 33)] [.p] (.tup []) [(.b (.v 8),.prop 39)]
(.read (.load 189 (.tmp 5)) 189 [(5,.w (.a (.ptr (.v 8) 0)))] [(.b (.v 8),.prop 39)] [.c,.c,.c,.c,.c,.c] (.w (.agg [.bool (.v 40),.bool (.v 41),.bool (.v 42),.bool (.v 43),.bool (.v 44),.bool (.v 45)]))
(.loop [.a,.n,.n,.p,.i] [.a .nil,.e (.o2 .nadd (.n 0) (.n 0)),.e (.o2 .nadd (.n 0) (.n 0)),.p [],.e (.o1 .neg (.o1 .neg (.i 0)))]
(.br (.o2 .lt (.v 50) (.i 6))
(.read (.index 189 (.tmp 115) (.tmp 116)) 4 [(115,.w (.agg [.bool (.v 40),.bool (.v 41),.bool (.v 42),.bool (.v 43),.bool (.v 44),.bool (.v 45)])),(116,.w (.a (.int .i64 (.v 50))))] [] [.c] (.w (.a (.bool (.v 51))))
(.br (.v 51)
(.new
(.op (.call ⟨.builtin .append,#[.tmp 121,.tmp 123],#[89,89]⟩) 89 [(121,.w (.a (.sl (.v 46) (.v 47) (.v 48)))),(123,.w (.a (.sl (.b (.v 52) 0) (.n 1) (.n 1))))] [(.a 46,.prop 49),(.b (.v 52),.cells [.int .i64 (.v 50)] 3)] [.a,.n,.n,.p] (.w (.a (.sl (.v 53) (.v 54) (.v 55)))) [(.a 53,.prop 56),(.b (.v 52),.cells [.int .i64 (.v 50)] 3)]
(.need (.o1 (.inr .i64) (.o2 .add (.v 50) (.i 1)))
(.again 0 [.a (.v 53),.e (.o2 .nadd (.v 54) (.n 0)),.e (.o2 .nadd (.v 55) (.n 0)),.p [(.a 53,.prop 56)],.e (.o1 .neg (.o1 .neg (.o2 .add (.v 50) (.i 1))))]))))
(.need (.o1 (.inr .i64) (.o2 .add (.v 50) (.i 1)))
(.again 0 [.a (.v 46),.e (.o2 .nadd (.v 47) (.n 0)),.e (.o2 .nadd (.v 48) (.n 0)),.p [(.a 46,.prop 49)],.e (.o1 .neg (.o1 .neg (.o2 .add (.v 50) (.i 1))))]))))
(.ret (.w (.a (.sl (.v 46) (.v 47) (.v 48)))) [(.a 0,.prop 3),(.a 4,.prop 7),(.a 46,.prop 49)])))))))))))))))))))))))))
theorem tree_jCheck:tree Tryz.prog { absT:=[189,4],hv:=[(0,[.b (.v 11),.b (.v 9)]),(2,[.b (.v 21),.b (.v 18),.b (.v 8),.b (.v 16)]),(4,[.b (.v 29),.b (.v 8)])],keep:=[116,115,110,111,114,168,169,112],link:=[(112,0)],ent:=[(100,[57,196])],pty:=[(2,[57,34])],rdf:=true,jn:=[((33,40),some { ss:=[.p],n:=41,tv:=[(33,none),(34,none),(35,none),(36,none),(37,none),(38,none),(39,none),(40,none),(41,none),(42,none)],h:=[(.b (.v 9),.prop 40),(.a 4,.prop 7),(.b (.v 39),.cells [.int .i64 (.v 16),.int .i64 (.v 17),.int .i64 (.v 18),.int .i64 (.v 19),.str (.v 20),.str (.v 21),.int .i64 (.v 22),.int .i64 (.v 23),.sl (.v 24) (.v 25) (.v 26),.int .i64 (.v 27),.int .i64 (.v 28),.int .i64 (.v 29),.int .i64 (.v 30),.int .i64 (.v 31),.int .i64 (.v 32),.sl (.v 33) (.v 34) (.v 35),.sl (.v 36) (.v 37) (.v 38)] 88),(.b (.v 12),.cells [.map (.v 11)] 191),(.b (.v 11),.prop 14),(.b (.v 10),.cells [.map (.v 9)] 190),(.b (.v 8),.cells [.bool (.c false),.bool (.c false),.bool (.c false),.bool (.c false),.bool (.c false),.bool (.c false)] 189),(.a 0,.prop 3)],lk:=[] })] } Tryz.f47 [.a (.sl (.v 0) (.v 1) (.v 2)),.a (.sl (.v 4) (.v 5) (.v 6))] [(.a 0,.prop 3),(.a 4,.prop 7)] 8=t_jCheck:=by kernel_rfl
def t_jIndexFunc:T :=
(.loop [.i,.i,.p] [.e (.o1 .neg (.o1 .neg (.i 0))),.e (.o1 .neg (.o1 .neg (.i 0))),.p [(.a 4,.prop 5)]]
(.br (.o2 .lt (.v 7) (.o1 .ofNat (.v 1)))
(.need (.o2 .le (.i 0) (.v 7))
(.need (.o1 .isSome (.v 0))
(.read (.load 31 (.tmp 14)) 31 [(14,.w (.a (.eptr 0 (.v 7) 6 0)))] [(.a 0,.prop 3)] [.i,.i,.i,.i,.a,.n,.n,.a,.n,.n] (.w (.agg [.int .i64 (.v 9),.int .i64 (.v 10),.int .i64 (.v 11),.int .i64 (.v 12),.sl (.v 13) (.v 14) (.v 15),.sl (.v 16) (.v 17) (.v 18)]))
 (.callv 4 [.agg [.int .i64 (.v 9),.int .i64 (.v 10),.int .i64 (.v 11),.int .i64 (.v 12),.sl (.v 13) (.v 14) (.v 15),.sl (.v 16) (.v 17) (.v 18)]] [(.a 4,.prop 8),(.a 0,.prop 3)] [.c,.p] (.w (.a (.bool (.v 19)))) [(.a 4,.prop 20),(.a 0,.prop 3)]
(.br (.v 19)
(.ret (.w (.a (.int .i64 (.v 7)))) [(.a 0,.prop 3),(.a 4,.prop 20)])
(.need (.o1 (.inr .i64) (.o2 .add (.v 7) (.i 1)))
(.again 0 [.e (.o1 .neg (.o1 .neg (.v 6))),.e (.o1 .neg (.o1 .neg (.o2 .add (.v 7) (.i 1)))),.p [(.a 4,.prop 20)]])))))))
(.ret (.w (.a (.int .i64 (.i (-1))))) [(.a 0,.prop 3),(.a 4,.prop 8)])))
theorem tree_jIndexFunc:tree Tryz.prog { hv:=[(0,[.a 4])],keep:=[114,113],rdf:=true } Tryz.f170 [.a (.sl (.v 0) (.v 1) (.v 2)),.a (.val 4)] [(.a 0,.prop 3),(.a 4,.prop 5)] 6=t_jIndexFunc:=by kernel_rfl
def t_jContainsFunc:T :=
(.call 170 [.a (.sl (.v 0) (.v 1) (.v 2)),.a (.val 4)] [(.a 0,.prop 3),(.a 4,.prop 5)] [.i,.p,.p] (.w (.a (.int .i64 (.v 6)))) [(.a 0,.prop 7),(.a 4,.prop 8)]
(.ret (.w (.a (.bool (.o2 .le (.i 0) (.v 6))))) [(.a 0,.prop 7),(.a 4,.prop 8)]))
theorem tree_jContainsFunc:tree Tryz.prog { keep:=[114,113],rdf:=true } Tryz.f115 [.a (.sl (.v 0) (.v 1) (.v 2)),.a (.val 4)] [(.a 0,.prop 3),(.a 4,.prop 5)] 6=t_jContainsFunc:=by kernel_rfl
def t_jCloneD:T :=
(.br (.o1 .not (.o1 .isSome (.v 0)))
(.ret (.w (.a (.sl .nil (.n 0) (.n 0)))) [(.a 0,.prop 3)])
(.new
(.op (.call ⟨.builtin .append,#[.tmp 5,.tmp 6],#[85,85]⟩) 85 [(5,.w (.a (.sl (.b (.v 4) 0) (.n 0) (.n 0)))),(6,.w (.a (.sl (.v 0) (.v 1) (.v 2))))] [(.b (.v 4),.cells [] 88),(.a 0,.prop 3)] [.a,.n,.n,.p] (.w (.a (.sl (.v 5) (.v 6) (.v 7)))) [(.a 5,.prop 8),(.a 0,.prop 3)]
(.ret (.w (.a (.sl (.v 5) (.v 6) (.v 7)))) [(.a 0,.prop 3),(.a 5,.prop 8)]))))
theorem tree_jCloneD:tree Tryz.prog { keep:=[114,113],rdf:=true } Tryz.f172 [.a (.sl (.v 0) (.v 1) (.v 2))] [(.a 0,.prop 3)] 4=t_jCloneD:=by kernel_rfl
def t_jIndexD:T :=
(.loop [.i,.i,.p] [.e (.o1 .neg (.o1 .neg (.i 0))),.e (.o1 .neg (.o1 .neg (.i 0))),.p [(.a 4,.prop 5)]]
(.br (.o2 .lt (.v 7) (.o1 .ofNat (.v 1)))
(.need (.o2 .le (.i 0) (.v 7))
(.need (.o1 .isSome (.v 0))
(.read (.load 88 (.tmp 14)) 88 [(14,.w (.a (.eptr 0 (.v 7) 17 0)))] [(.a 0,.prop 3)] [.i,.i,.i,.i,.s,.s,.i,.i,.a,.n,.n,.i,.i,.i,.i,.i,.i,.a,.n,.n,.a,.n,.n] (.w (.agg [.int .i64 (.v 9),.int .i64 (.v 10),.int .i64 (.v 11),.int .i64 (.v 12),.str (.v 13),.str (.v 14),.int .i64 (.v 15),.int .i64 (.v 16),.sl (.v 17) (.v 18) (.v 19),.int .i64 (.v 20),.int .i64 (.v 21),.int .i64 (.v 22),.int .i64 (.v 23),.int .i64 (.v 24),.int .i64 (.v 25),.sl (.v 26) (.v 27) (.v 28),.sl (.v 29) (.v 30) (.v 31)]))
 (.callv 4 [.agg [.int .i64 (.v 9),.int .i64 (.v 10),.int .i64 (.v 11),.int .i64 (.v 12),.str (.v 13),.str (.v 14),.int .i64 (.v 15),.int .i64 (.v 16),.sl (.v 17) (.v 18) (.v 19),.int .i64 (.v 20),.int .i64 (.v 21),.int .i64 (.v 22),.int .i64 (.v 23),.int .i64 (.v 24),.int .i64 (.v 25),.sl (.v 26) (.v 27) (.v 28),.sl (.v 29) (.v 30) (.v 31)]] [(.a 4,.prop 8),(.a 0,.prop 3)] [.c,.p] (.w (.a (.bool (.v 32)))) [(.a 4,.prop 33),(.a 0,.prop 3)]
(.br (.v 32)
(.ret (.w (.a (.int .i64 (.v 7)))) [(.a 0,.prop 3),(.a 4,.prop 33)])
(.need (.o1 (.inr .i64) (.o2 .add (.v 7) (.i 1)))
(.again 0 [.e (.o1 .neg (.o1 .neg (.v 6))),.e (.o1 .neg (.o1 .neg (.o2 .add (.v 7) (.i 1)))),.p [(.a 4,.prop 33)]])))))))
(.ret (.w (.a (.int .i64 (.i (-1))))) [(.a 0,.prop 3),(.a 4,.prop 8)])))
theorem tree_jIndexD:tree Tryz.prog { hv:=[(0,[.a 4])],keep:=[114,113],rdf:=true } Tryz.f207 [.a (.sl (.v 0) (.v 1) (.v 2)),.a (.val 4)] [(.a 0,.prop 3),(.a 4,.prop 5)] 6=t_jIndexD:=by kernel_rfl
def t_jDeleteD:T :=
(.call 207 [.a (.sl (.v 0) (.v 1) (.v 2)),.a (.val 4)] [(.a 0,.prop 3),(.a 4,.prop 5)] [.i,.p,.p] (.w (.a (.int .i64 (.v 6)))) [(.a 0,.prop 7),(.a 4,.prop 8)]
(.br (.o2 .eq (.v 6) (.i (-1)))
(.ret (.w (.a (.sl (.v 0) (.v 1) (.v 2)))) [(.a 0,.prop 7),(.a 4,.prop 8)])
(.need (.o1 (.inr .i64) (.o2 .add (.v 6) (.i 1)))
(.loop [.i,.i,.p,.p] [.e (.o1 .neg (.o1 .neg (.v 6))),.e (.o1 .neg (.o1 .neg (.o2 .add (.v 6) (.i 1)))),.p [(.a 0,.prop 7)],.p [(.a 4,.prop 8)]]
(.br (.o2 .lt (.v 10) (.o1 .ofNat (.v 1)))
(.need (.o2 .le (.i 0) (.v 10))
(.need (.o1 .isSome (.v 0))
(.read (.load 88 (.tmp 24)) 88 [(24,.w (.a (.eptr 0 (.v 10) 17 0)))] [(.a 0,.prop 11)] [.i,.i,.i,.i,.s,.s,.i,.i,.a,.n,.n,.i,.i,.i,.i,.i,.i,.a,.n,.n,.a,.n,.n] (.w (.agg [.int .i64 (.v 13),.int .i64 (.v 14),.int .i64 (.v 15),.int .i64 (.v 16),.str (.v 17),.str (.v 18),.int .i64 (.v 19),.int .i64 (.v 20),.sl (.v 21) (.v 22) (.v 23),.int .i64 (.v 24),.int .i64 (.v 25),.int .i64 (.v 26),.int .i64 (.v 27),.int .i64 (.v 28),.int .i64 (.v 29),.sl (.v 30) (.v 31) (.v 32),.sl (.v 33) (.v 34) (.v 35)]))
(.new
  (.callv 4 [.agg [.int .i64 (.v 13),.int .i64 (.v 14),.int .i64 (.v 15),.int .i64 (.v 16),.str (.v 17),.str (.v 18),.int .i64 (.v 19),.int .i64 (.v 20),.sl (.v 21) (.v 22) (.v 23),.int .i64 (.v 24),.int .i64 (.v 25),.int .i64 (.v 26),.int .i64 (.v 27),.int .i64 (.v 28),.int .i64 (.v 29),.sl (.v 30) (.v 31) (.v 32),.sl (.v 33) (.v 34) (.v 35)]] [(.a 4,.prop 12),(.a 0,.prop 11)] [.c,.p] (.w (.a (.bool (.v 37)))) [(.a 4,.prop 38),(.a 0,.prop 11)]
(.br (.o1 .not (.v 37))
(.need (.o2 .le (.i 0) (.v 9))
(.need (.o2 .lt (.v 9) (.o1 .ofNat (.v 1)))
(.op (.store 88 (.tmp 33) (.tmp 32)) 0 [(33,.w (.a (.eptr 0 (.v 9) 17 0))),(32,.w (.agg [.int .i64 (.v 13),.int .i64 (.v 14),.int .i64 (.v 15),.int .i64 (.v 16),.str (.v 17),.str (.v 18),.int .i64 (.v 19),.int .i64 (.v 20),.sl (.v 21) (.v 22) (.v 23),.int .i64 (.v 24),.int .i64 (.v 25),.int .i64 (.v 26),.int .i64 (.v 27),.int .i64 (.v 28),.int .i64 (.v 29),.sl (.v 30) (.v 31) (.v 32),.sl (.v 33) (.v 34) (.v 35)]))] [(.a 0,.prop 11)] [.p] (.tup []) [(.a 0,.prop 39)]
(.need (.o1 (.inr .i64) (.o2 .add (.v 9) (.i 1)))
(.need (.o1 (.inr .i64) (.o2 .add (.v 10) (.i 1)))
(.again 0 [.e (.o1 .neg (.o1 .neg (.o2 .add (.v 9) (.i 1)))),.e (.o1 .neg (.o1 .neg (.o2 .add (.v 10) (.i 1)))),.p [(.a 0,.prop 39)],.p [(.a 4,.prop 38)]]))))))
(.need (.o1 (.inr .i64) (.o2 .add (.v 10) (.i 1)))
(.again 0 [.e (.o1 .neg (.o1 .neg (.v 9))),.e (.o1 .neg (.o1 .neg (.o2 .add (.v 10) (.i 1)))),.p [(.a 0,.prop 11)],.p [(.a 4,.prop 38)]]))))))))
(.read (.slice 85 (.tmp 36) (some (.tmp 37)) none none) 85 [(36,.w (.a (.sl (.v 0) (.v 1) (.v 2)))),(37,.w (.a (.int .i64 (.v 9))))] [(.a 0,.prop 11)] [.a,.n,.n] (.w (.a (.sl (.v 13) (.v 14) (.v 15))))
(.op (.call ⟨.builtin .clear,#[.tmp 38],#[85]⟩) 0 [(38,.w (.a (.sl (.v 13) (.v 14) (.v 15))))] [(.a 0,.prop 11)] [.p] (.tup []) [(.a 0,.prop 16)]
(.read (.slice 85 (.tmp 39) none (some (.tmp 40)) none) 85 [(39,.w (.a (.sl (.v 0) (.v 1) (.v 2)))),(40,.w (.a (.int .i64 (.v 9))))] [(.a 0,.prop 16)] [.a,.n,.n] (.w (.a (.sl (.v 17) (.v 18) (.v 19))))
(.ret (.w (.a (.sl (.v 17) (.v 18) (.v 19)))) [(.a 0,.prop 16),(.a 4,.prop 12)])))))))))
theorem tree_jDeleteD:tree Tryz.prog { hv:=[(0,[.a 0,.a 4])],keep:=[114,113],rdf:=true } Tryz.f171 [.a (.sl (.v 0) (.v 1) (.v 2)),.a (.val 4)] [(.a 0,.prop 3),(.a 4,.prop 5)] 6=t_jDeleteD:=by kernel_rfl
end Go.Proofs.YtdieogcemmnaaaaGreatDoor.RX

namespace Go.Proofs.YtdieogcemmnaaaaGreatDoor
set_option linter.unusedSimpArgs false
set_option linter.unusedVariables false
open Go.Proofs.YtdieogcemmnaaaaGreatDoor RX
set_option maxRecDepth 100000
def callOf (x:CellE):Option (IdM × CallP):=if x.what=1 then (match entD x.data with
 | none=>none
 | some e=>if e.kind=1 then (match callD e.pl with
  | none=>none
  | some c=>some ((e.cl,e.bi,e.nu),c)) else none) else none
def callsS (l:List CellE):List (IdM × CallP):=l.filterMap callOf
structure CellRd (S:HP) (a:Option Addr) (n:Nat) (es:List CellE):Prop where
 len:es.length=n
 is:n ≠ 0 → a.isSome=true
 ld : ∀ (k:Nat) (x:CellE),es[k]? = some x → ORead Tryz.prog (loadS 68 (.pointer (a.map fun y=>(y.add (k * 2)).add 0))) S (.agg #[.int .i64 x.what,.slice x.da x.data.length x.dc])
 rd : ∀ x ∈ es,RdL S x.da x.data.length (x.data.map u8v)
 le : ∀ x ∈ es,x.data.length ≤ x.dc ∧ (x.data.length ≠ 0 → x.da.isSome=true)
def mayC (L:List (IdM × CallP)) (args:Array Value) (L':List (IdM × CallP)):Prop := ∃ (id:IdM) (c:CallP) (da:Option Addr) (dc:Nat),L=(id,c) :: L' ∧ args = #[idV id,c.val da dc] ∧ c.data.length ≤ dc ∧ (c.data.length ≠ 0 → da.isSome=true)
def PrC (L:List (IdM × CallP)) (args:Array Value):HP:=HP.ex fun q:(IdM × CallP) × Option Addr × Nat × List (IdM × CallP)=>HP.and (L=q.1 :: q.2.2.2 ∧ args = #[idV q.1.1,q.1.2.val q.2.1 q.2.2.1]) (RoB q.2.1 q.1.2.data.length q.1.2.data)
def CBox (nb:Nat) (a:Option Addr) (n c:Nat) (S:HP):HP:=HP.sep (HP.one nb (.cells #[.slice a n c] 79 (0,0))) S
theorem entD_len {l:List UInt8} {e:LogM} (h:entD l=some e):e.pl.length ≤ 65506:=by
 have key:logOk e=true:=by
  unfold entD at h
  split at h
  ·cases h
  ·split at h
   ·cases h
   ·split at h
    ·cases h
    ·split at h
     ·rename_i hok
      cases h
      exact hok
     ·cases h
 unfold logOk at key
 simp only [Bool.and_eq_true,decide_eq_true_eq] at key
 exact key.2
def CallPostR (l:List UInt8) (S:HP) (v:Value):HP:=match callD l with
 | none=>HP.and (v = .tuple #[.agg #[.int .i64 0,sE [],sE [],.int .i64 0,.int .i64 0,.slice none 0 0],.int .i64 3]) S
 | some x=>HP.ex fun a=>HP.ex fun c=>HP.and (v = .tuple #[x.val a c,.int .i64 0] ∧ x.data.length ≤ c ∧ (x.data.length ≠ 0 → a.isSome=true)) (HP.sep (RoB a x.data.length x.data) S)
theorem cDecodeR_ok (a:Option Addr) (n c:Nat) (l:List UInt8) (S:HP) (hr:RdL S a n (l.map u8v)) (hl:l.length=n) (hc:n ≤ c) (ha:n ≠ 0 → a.isSome=true) (hb:n ≤ 140737488355000) :
  Tri Tryz.prog 164 #[.slice a n c] S (CallPostR l S):=by
 refine (cDecode_ok a n c l S hr hl hc ha hb).post fun v => ?_
 unfold CallPost CallPostR
 cases callD l with
 | none=>exact HP.ent.refl _
 | some x =>
  rintro R h d ⟨a',c',e,H⟩
  have h1:=OwC.le (HP.sep_left H)
  have h2:x.data.length ≠ 0 → a'.isSome=true:=fun hn=>OwC.some (HP.sep_left H) (Nat.pos_of_ne_zero hn)
  obtain ⟨R1,h1',q1,q2,q3,q4,H1⟩:=(HP.ent.sep (OwC.share _ _ _ _ _ _) S) R h d H
  exact ⟨R1,h1',q1,q2,q3,q4,a',c',⟨e,h1,h2⟩,H1⟩
theorem fgoC:Fgo Tryz.prog 167:=⟨_,Tryz.func167,by kernel_rfl,by kernel_rfl⟩
theorem calls_ok (a:Option Addr) (n c:Nat) (S:HP):Tri Tryz.prog 112 #[.slice a n c] S
  (fun v=>HP.ex fun nb=>HP.and (v = .func (.func 167) #[] #[.pointer (some ⟨nb,0,none⟩)]) (CBox nb a n c S)):=by
 refine tri_of_tree (ρ:=[.a a,.n n,.n c,.p S]) mixed Tryz.func112 tree_jCalls ?_
 unfold t_jCalls
 simp only [T.den,E.prop,E.den,RX.look,F1.app,F2.app,Uni.int_i,Uni.nat_n,Uni.bool_c,Uni.str_s,Uni.adr_a,Uni.val_v,Uni.hp_p,hden,cden,V.den,W.den,A.den,BR.den,SA.den,FV.den,capV,exs,exP,allP,Cur.app,List.map_cons,List.map_nil,List.cons_append,List.nil_append,List.drop_succ_cons,List.drop_zero,List.length_cons,List.length_nil,Nat.zero_add,Nat.reduceAdd,Int.neg_neg,Bool.not_not,List.append_nil,Nat.add_zero,List.getElem?_cons_zero,List.getElem?_cons_succ,Decidable.not_not,semW_eq,ne_eq,Nat.reduceEqDiff,not_false_eq_true]
 exact fun x => .of fun R h H=>⟨x,rfl,HP.sep_comm H⟩
set_option maxHeartbeats 1000000 in
theorem calls_seq (nb:Nat) (a:Option Addr) (n c:Nat) (es:List CellE) (S:HP) (cr:CellRd S a n es) (hn:n ≤ 1000000000):SeqTri Tryz.prog (.func (.func 167) #[] #[.pointer (some ⟨nb,0,none⟩)]) (CBox nb a n c S)
  (fun _:List (IdM × CallP)=>HP.tt) PrC mayC (fun L=>L=[]) (callsS es):=by
 refine ⟨_,_,rfl,fgoC,fun l K Jx hr => ?_⟩
 refine (tri_of_tree (ρ:=[.v (.func (.yield l) #[] #[]),.p (K (callsS es)),.n nb,.a a,.n n,.n c,.p S]) mixed Tryz.func167 tree_jCalls1 ?_).weak (fun R h H => ?_) fun _ _ _ h=>h
 rotate_left
 ·exact HP.sep_mono (HP.sep_comm H) (fun _ h=>HP.sep_right h) fun _ h=>h
 unfold t_jCalls1
 simp only [T.den,E.prop,E.den,RX.look,F1.app,F2.app,Uni.int_i,Uni.nat_n,Uni.bool_c,Uni.str_s,Uni.adr_a,Uni.val_v,Uni.hp_p,hden,cden,V.den,W.den,A.den,BR.den,SA.den,FV.den,capV,exs,exP,allP,Cur.app,List.map_cons,List.map_nil,List.cons_append,List.nil_append,List.drop_succ_cons,List.drop_zero,List.length_cons,List.length_nil,Nat.zero_add,Nat.reduceAdd,Int.neg_neg,Bool.not_not,List.append_nil,Nat.add_zero,List.getElem?_cons_zero,List.getElem?_cons_succ,Decidable.not_not,semW_eq,semW_load,ne_eq,Nat.reduceEqDiff,not_false_eq_true]
 have fin : ∀ J:HP,HP.ent J (SeqPost (fun _:List (IdM × CallP)=>HP.tt) K Jx fun L=>L=[]) → HP.ent (HP.sep J (HP.sep (HP.one nb (.cells #[.slice a n c] 79 (0,0))) S)) (HP.sep (CBox nb a n c S) (SeqPost (fun _:List (IdM × CallP)=>HP.tt) K Jx fun L=>L=[])):=fun J hJ =>
  (HP.ent.of fun R h H=>HP.sep_comm H).trans (HP.ent.sep2 (HP.ent.refl _) hJ)
 refine ⟨fun k p => ∃ j:Nat,k=j ∧ j ≤ n ∧ p=K (callsS (es.drop j)),fun k _=>n - k.toNat,⟨0,rfl,Nat.zero_le _,by rw [List.drop_zero]⟩,?_⟩
 rintro _ _ ⟨j,rfl,hj,rfl⟩
 have hlen:=cr.len
 refine ⟨fun hlt=>⟨by omega,fun _=>⟨cr.is (by omega),fun _ => ?_⟩⟩,fun hge => ?_⟩
 ·obtain ⟨x,hx⟩ : ∃ x,es[j]? = some x:=⟨_,List.getElem?_eq_getElem (by omega)⟩
  have hxm:=List.mem_of_getElem? hx
  have hd:es.drop j=x :: es.drop (j + 1):=by
   rw [List.drop_eq_getElem_cons (by omega)]
   rw [List.getElem?_eq_getElem (by omega)] at hx
   rw [Option.some.inj hx]
  have nxt:IntKind.i64.min ≤ (j:Int) + 1 ∧ (j:Int) + 1 ≤ IntKind.i64.max:=inI64 _ (by omega) (by omega)
  have skip:callOf x=none → ∃ j':Nat,((j:Int) + 1)=j' ∧ j' ≤ n ∧ K (callsS (es.drop j))=K (callsS (es.drop j')):=fun h=>⟨j + 1,by omega,by omega,by
   rw [hd]; unfold callsS; rw [List.filterMap_cons_none h]⟩
  obtain ⟨hle,his⟩:=cr.le x hxm
  refine ⟨x.what,x.da,x.data.length,x.dc,cr.ld j x hx,fun _=>⟨fun hw=>⟨nxt,fun _=>⟨skip ?_,by dsimp only; omega⟩⟩,fun hw => ?_⟩⟩
  ·unfold callOf; rw [if_neg hw]
  have hw:x.what=1:=by simpa using hw
  refine (eDecode_ok x.da x.data.length x.dc x.data S (cr.rd x hxm) rfl hle his).weak (fun _ _ h=>h) ?_
  intro v R h H
  unfold EntPost at H
  cases he:entD x.data with
  | none =>
   rw [he] at H
   obtain ⟨rfl,H⟩:=H
   refine ⟨0,0,0,0,0,0,none,0,0,HP.tt,3,rfl,fun _=>⟨fun _=>⟨nxt,fun _=>⟨skip ?_,by dsimp only; omega⟩⟩,fun h=>absurd h (by decide)⟩,HP.tt_sep H⟩
   unfold callOf; rw [if_pos hw,he]
  | some e =>
   rw [he] at H
   obtain ⟨ea,ec,rfl,H⟩:=H
   have hec:=OwC.le (HP.sep_left H)
   have hes:e.pl.length ≠ 0 → ea.isSome=true:=fun hn=>OwC.some (HP.sep_left H) (Nat.pos_of_ne_zero hn)
   refine ⟨e.kind,e.cl,e.bi,e.nu,e.st,e.bk,ea,e.pl.length,ec,OwB ea e.pl.length ec e.pl,0,rfl,fun _=>⟨fun h=>absurd rfl h,fun _=>⟨fun hk=>⟨nxt,fun _=>⟨skip ?_,by dsimp only; omega⟩⟩,fun hk => ?_⟩⟩,H⟩
   ·unfold callOf; rw [if_pos hw,he]; simp only; rw [if_neg hk]
   have hk:e.kind=1:=by simpa using hk
   have hpl:e.pl.length ≤ 65506:=entD_len he
   refine (cDecodeR_ok ea e.pl.length ec e.pl _ (RdL.ow _ _ _ _ _ _) rfl hec hes (by omega)).weak (fun _ _ h=>h) ?_
   intro v R h H
   unfold CallPostR at H
   cases hc:callD e.pl with
   | none =>
    rw [hc] at H
    obtain ⟨rfl,H⟩:=H
    refine ⟨0,[],[],0,0,none,0,0,HP.tt,3,rfl,fun _=>⟨fun h=>absurd h (by decide),fun _=>⟨nxt,fun _=>⟨skip ?_,by dsimp only; omega⟩⟩⟩,HP.tt_sep H⟩
    unfold callOf; rw [if_pos hw,he]; simp only; rw [if_pos hk,hc]
   | some q =>
    rw [hc] at H
    obtain ⟨da,dc,⟨rfl,hq1,hq2⟩,H⟩:=H
    have hL:callsS (es.drop j)=((e.cl,e.bi,e.nu),q) :: callsS (es.drop (j + 1)):=by
     have h0:callOf x=some ((e.cl,e.bi,e.nu),q):=by unfold callOf; rw [if_pos hw,he]; simp only; rw [if_pos hk,hc]
     rw [hd]; unfold callsS; rw [List.filterMap_cons_some h0]
    refine ⟨q.kind,q.path,q.other,q.off,q.n,da,q.data.length,dc,RoB da q.data.length q.data,0,rfl,fun _=>⟨fun _ => ?_,fun h=>absurd rfl h⟩,H⟩
    rw [hL]
    refine (hr (((e.cl,e.bi,e.nu),q) :: callsS (es.drop (j + 1))) #[idV (e.cl,e.bi,e.nu),q.val da dc] ⟨_,(e.cl,e.bi,e.nu),q,da,dc,rfl,rfl,hq1,hq2⟩).conseq (K:=RoB da q.data.length q.data) (.of fun R h H => ?_) fun v => .of fun R h H => ?_
    ·have hro:=HP.sep_right H
     refine HP.sep_comm (RoC.join hro ?_)
     refine HP.sep_mono (RoC.join hro (HP.tt_sep (HP.sep_left H))) (fun y hy=>⟨(((e.cl,e.bi,e.nu),q),da,dc,callsS (es.drop (j + 1))),⟨rfl,rfl⟩,hy⟩) fun _ h=>h
    ·have hro:=HP.sep_right H
     obtain ⟨b',rfl,hb⟩:=HP.sep_left H
     cases b' with
     | true =>
      obtain ⟨g',⟨_,_,_,_,hg,_⟩,H2⟩:=hb
      cases hg
      refine ⟨true,K (callsS (es.drop (j + 1))),rfl,⟨fun h=>absurd rfl h,fun _=>⟨nxt,fun _=>⟨⟨j + 1,by omega,by omega,rfl⟩,by dsimp only; omega⟩⟩⟩,HP.sep_comm (RoC.join hro (HP.sep_right H2))⟩
     | false=>exact ⟨false,Jx,rfl,⟨fun _=>fin _ (.of fun R h H=>⟨none,H⟩),fun h=>(by cases h)⟩,HP.sep_comm (RoC.join hro hb)⟩
 ·obtain rfl:j=n:=by omega
  have:es.drop j=[]:=List.drop_eq_nil_of_le (by omega)
  rw [this]
  exact fin _ (.of fun R h H=>⟨some [],rfl,HP.tt_sep H⟩)
end Go.Proofs.YtdieogcemmnaaaaGreatDoor

namespace Go.Proofs.YtdieogcemmnaaaaGreatDoor
set_option linter.unusedSimpArgs false
set_option linter.unusedVariables false
open Go.Proofs.YtdieogcemmnaaaaGreatDoor RX
set_option maxRecDepth 100000
def treeOf (T:List Nd):List (IdM × CallP) → List Nd
 | []=>T
 | x :: r=>treeOf (doS T x.2.kind x.2.path x.2.other x.2.off x.2.n x.2.data).1 r
set_option maxHeartbeats 1000000 in
theorem jNodes_ok (a:Option Addr) (n c:Nat) (es:List CellE) (S:HP) (cr:CellRd S a n es) (hn:n ≤ 1000):Tri Tryz.prog 48 #[.slice a n c] S
  (fun v=>HP.ex fun a'=>HP.ex fun c'=>HP.and (v = .slice a' (treeOf newT (callsS es)).length c') (HP.sep S (NodesR a' (treeOf newT (callsS es)).length (treeOf newT (callsS es))))):=by
 refine tri_of_tree (ρ:=[.a a,.n n,.n c,.p S]) mixed Tryz.func48 tree_jNodes ?_
 unfold t_jNodes
 simp only [T.den,E.prop,E.den,RX.look,F1.app,F2.app,Uni.int_i,Uni.nat_n,Uni.bool_c,Uni.str_s,Uni.adr_a,Uni.val_v,Uni.hp_p,hden,cden,V.den,W.den,A.den,BR.den,SA.den,FV.den,capV,exs,exP,allP,Cur.app,List.map_cons,List.map_nil,List.cons_append,List.nil_append,List.drop_succ_cons,List.drop_zero,List.length_cons,List.length_nil,Nat.zero_add,Nat.reduceAdd,Int.neg_neg,Bool.not_not,List.append_nil,Nat.add_zero,List.getElem?_cons_zero,List.getElem?_cons_succ,Decidable.not_not,semW_eq,ne_eq,Nat.reduceEqDiff,not_false_eq_true]
 refine tNew_ok.weak (fun _ _ h=>h) ?_
 rintro v R h ⟨b,t0,⟨rfl,ht0⟩,H⟩
 refine ⟨b,TRep b t0,rfl,fun _ => ?_,H⟩
 clear H
 refine (calls_ok a n c S).weak (fun _ _ h=>h) ?_
 rintro v R h ⟨nb,rfl,H⟩
 refine ⟨.func (.func 167) #[] #[.pointer (some ⟨nb,0,none⟩)],HP.one nb (.cells #[.slice a n c] 79 (0,0)),rfl,fun _ => ?_,H⟩
 clear H
 have hfew:(callsS es).length ≤ n:=by rw [← cr.len]; exact List.length_filterMap_le _ _
 refine ⟨List (IdM × CallP),fun _=>HP.tt,PrC,mayC,fun L=>L=[],callsS es,fun g p => ∃ (k:Nat) (t:TS),p=TRep b t ∧ TWf (1 + k) t.pub ∧ k + g.length ≤ n ∧ treeOf t.pub g=treeOf newT (callsS es),calls_seq nb a n c es S cr (by omega),?_,?_,?_,?_⟩
 ·exact ⟨0,t0,rfl,by rw [ht0]; exact newT_wf,by omega,by rw [ht0]⟩
 ·rintro g p _; rfl
 ·rintro g args ⟨g',id,q,da,dc,rfl,rfl,hq1,hq2⟩ p ⟨k,t,rfl,wf,hk,ht⟩
  refine ⟨id.1,id.2.1,id.2.2,q.kind,q.path,q.other,q.off,q.n,da,q.data.length,dc,RoB da q.data.length q.data,rfl,.of fun R h H => ?_,fun _ => ?_⟩
  ·obtain ⟨⟨⟨id',q'⟩,da',dc',L'⟩,⟨h1,h2⟩,H⟩:=H
   cases h1
   simp [CallP.val] at h2
   obtain ⟨rfl,rfl⟩:=h2
   exact H
  ·rw [List.length_cons] at hk
   refine (tDo_ok (by omega) wf (q.m da dc) (RoB da q.data.length q.data) q.data ⟨RdL.ro _ _ _ _,rfl,hq2⟩).weak (fun _ _ h=>h) ?_
   rintro v R h ⟨t',ht',da',dc',na',nc',rfl,H⟩
   exact ⟨_,_,_,_,da',_,dc',_,na',_,nc',_,TRep b t',RoB da q.data.length q.data,rfl,⟨g',⟨id,q,da,dc,rfl,rfl,hq1,hq2⟩,k + 1,t',rfl,by rw [ht']; exact (wf.do (by omega) _ _ _ _ _ _),by omega,by rw [ht',← ht]; rfl⟩,H⟩
 ·rintro g rfl p ⟨k,t,rfl,wf,hk,ht⟩
  refine (tNodes_ok (by omega) wf).weak (fun _ _ h=>h) ?_
  rintro v R h ⟨a',c',rfl,H⟩
  have e:t.pub=treeOf newT (callsS es):=ht
  rw [e] at H
  exact ⟨a',_,c',_,TRep b t,by rw [e],.of fun R h H=>⟨a',c',rfl,H⟩,H⟩
end Go.Proofs.YtdieogcemmnaaaaGreatDoor

namespace Go.Proofs.YtdieogcemmnaaaaGreatDoor
open Go.RowKit RX
set_option maxRecDepth 100000
section
variable {κ:Type} [DecidableEq κ]
def alBorn (k:κ) (c:Nat):AL κ → Nat
 | []=>c
 | x :: l=>if k=x.1 then x.2.2 else alBorn k c l
theorem alBorn_some (k:κ) (c:Nat) : ∀ (l:AL κ) (i j:Nat) (v:Value),alIdx k l i=some (j,v) → ∃ m,j=i + m ∧ l[m]? = some (k,v,alBorn k c l)
 | [],_,_,_,h=>by cases h
 | x :: l,i,j,v,h=>by
  unfold alIdx at h
  split at h
  ·rename_i e
   obtain ⟨k',v',b⟩:=x
   simp only at e; subst e
   injection h with h; injection h with h1 h2; subst h1; subst h2
   exact ⟨0,rfl,by simp [alBorn]⟩
  ·rename_i e
   obtain ⟨m,h1,h2⟩:=alBorn_some k c l _ _ _ h
   exact ⟨m + 1,by omega,by unfold alBorn; rw [if_neg e]; simpa using h2⟩
theorem alBorn_none (k:κ) (c:Nat) : ∀ (l:AL κ) (i:Nat),alIdx k l i=none → alBorn k c l=c
 | [],_,_=>rfl
 | x :: l,i,h=>by
  unfold alIdx at h
  split at h
  ·cases h
  ·rename_i e
   unfold alBorn
   rw [if_neg e,alBorn_none k c l _ h]
theorem set_same' {α:Type} : ∀ (l:List α) (k:Nat) (x:α),l[k]? = some x → l.set k x=l
 | y :: l,0,x,h=>by simp at h; rw [h]; rfl
 | y :: l,k + 1,x,h=>by simp at h; show y :: l.set k x=_; rw [set_same' l k x h]
 | [],_,_,h=>by simp at h
theorem run_mapEntry_raw {w:World} {kt et t:TypeId} {enc:κ → Value} (K:KeyEnc Tryz.prog kt enc) (ht:Tryz.prog.underlying t=some (.map kt et)) {i:TypeInfo} {z:Value} (hi:Tryz.prog.info? et=some i) (hz:i.zero=some z) {r:Nat} {l:AL κ} {c:Nat}
  (hb:w.heap[r]? = some (mapObj enc l c)) (k:κ) :
  (Instr.mapEntry t (.map (some r)) (enc k)).run Tryz.prog w = .ok (.tuple #[(alFind k l).getD z,goInt (alBorn k c l)]) (World.setObj w r (mapObj enc (alPut k ((alFind k l).getD z) c l) (alClock k l c))):=by
 unfold mapObj at hb
 unfold Instr.mapEntry
 simp only [Sem.run_bind,run_underlying ht,Result.andThen,run_getObj_map hb,K.check,K.find]
 have hf:=alIdx_find k l 0
 cases hx:alIdx k l 0 with
 | none =>
  rw [hx] at hf
  simp only [Sem.run_bind,run_zeroV hi hz,Result.andThen,run_setObj_map _ hb,alClock,← hf,Option.map_none,Option.getD_none,(alIdx_none k l 0 hx z c).1,alBorn_none k c l 0 hx,Sem.run_pure]
  simp [mapObj,toE]
 | some p =>
  obtain ⟨j,u⟩:=p
  rw [hx] at hf
  obtain ⟨m,b,h1,h2,h3⟩:=alIdx_some k l 0 j u hx
  obtain ⟨m',h4,h5⟩:=alBorn_some k c l 0 j u hx
  obtain rfl:j=m:=by omega
  obtain rfl:j=m':=by omega
  have hm:((l.map (toE enc)).toArray[j]?.map (·.key)).getD (enc k)=enc k:=by simp [h2,toE]
  have hbn:((l.map (toE enc)).toArray[j]?.map (fun x=>(x.born:Int))).getD 0=(alBorn k c l:Int):=by simp [h5,toE]
  simp only [hm,hbn,Instr.keyThatStays,K.bits,if_true,Sem.run_bind,Sem.run_pure,Result.andThen,run_setObj_map _ hb,alClock,← hf,Option.map_some,Option.getD_some,(h3 u c).1]
  rw [h5] at h2
  have hbb:b=alBorn k c l:=by injection h2 with h2; injection h2 with _ h2; injection h2 with _ h2; exact h2.symm
  rw [hbb,set_same' l j _ h5]
  simp only [Option.isSome_some,if_true]
  unfold mapObj
  congr 3
  apply Array.ext_getElem?
  intro i
  simp only [Array.getElem?_modify,List.getElem?_toArray,List.getElem?_map]
  split
  ·rename_i e; subst e; simp [h5,toE]
  ·rfl
theorem run_entryStore_raw {w:World} {t:TypeId} {enc:κ → Value} {r:Nat} {l:AL κ} {c:Nat} (hs:Stamps l c)
  (hb:w.heap[r]? = some (mapObj enc l c)) (k:κ) (x:Value) (hk:(alFind k l).isSome=true) :
  (Instr.entryStore t (.map (some r)) (goInt (alBorn k c l)) x).run Tryz.prog w = .ok () (World.setObj w r (mapObj enc (alPut k x c l) c)):=by
 have hf:=alIdx_find k l 0
 cases hx:alIdx k l 0 with
 | none=>rw [hx] at hf; rw [← hf] at hk; cases hk
 | some p =>
  obtain ⟨j,u⟩:=p
  obtain ⟨m,b,h1,h2,h3⟩:=alIdx_some k l 0 j u hx
  obtain ⟨m',h4,h5⟩:=alBorn_some k c l 0 j u hx
  obtain rfl:j=m:=by omega
  obtain rfl:j=m':=by omega
  rw [h5] at h2
  have hbb:b=alBorn k c l:=by injection h2 with h2; injection h2 with _ h2; injection h2 with _ h2; exact h2.symm
  have hj:j < l.length:=(List.getElem?_eq_some_iff.1 h5).1
  have hg:l[j]=(k,u,alBorn k c l):=by rw [List.getElem?_eq_getElem hj] at h5; exact Option.some.inj h5
  have hfi:(l.map (toE enc)).toArray.findIdx? (fun e=>(e.born:Int) == (alBorn k c l:Int))=some j:=by
   rw [Array.findIdx?_eq_some_iff_getElem]
   refine ⟨by simpa using hj,by simp [hg,toE],fun i hi => ?_⟩
   have hi':i < l.length:=by omega
   simp only [List.getElem_toArray,List.getElem_map,toE,beq_iff_eq]
   intro e
   have e2:(l[i]).2.2=(l[j]).2.2:=by rw [hg]; exact_mod_cast e
   have hn:=hs.2
   have:=(List.getElem_inj (h₀:=by rw [List.length_map]; exact hi') (h₁:=by rw [List.length_map]; exact hj) hn).1 (by rw [List.getElem_map,List.getElem_map]; exact e2)
   omega
  unfold mapObj at hb
  unfold Instr.entryStore
  have ha:(asInt (.int .i64 (alBorn k c l:Int))).run Tryz.prog w = .ok (alBorn k c l:Int) w:=rfl
  simp only [Sem.run_bind,Result.andThen,run_getObj_map hb,goInt,ha,Sem.run_pure,hfi,run_setObj_map _ hb,(h3 x c).1,hbb]
  unfold mapObj
  congr 3
  apply Array.ext_getElem?
  intro i
  simp only [Array.getElem?_modify,List.getElem?_toArray,List.getElem?_map,List.getElem?_set]
  split
  ·rename_i e; subst e; simp [hg,hj,toE]
  ·rfl
def mapES (t:TypeId) (m k:Value):Sem Next:=do pure (.value (← Instr.mapEntry t m k))
def estS (t:TypeId) (m s x:Value):Sem Next:=do Instr.entryStore t m s x; pure .skip
theorem mapEntry_ok {enc:κ → Value} {kt et t:TypeId} (K:KeyEnc Tryz.prog kt enc) (ht:Tryz.prog.underlying t=some (.map kt et)) {i:TypeInfo} {z:Value} (hi:Tryz.prog.info? et=some i) (hz:i.zero=some z) {r c:Nat} {l:AL κ} (k:κ) :
  OTri Tryz.prog (mapES t (.map (some r)) (enc k)) (HP.one r (mapObj enc l c)) (fun v=>HP.and (v = .tuple #[(alFind k l).getD z,goInt (alBorn k c l)]) (HP.one r (mapObj enc (alPut k ((alFind k l).getD z) c l) (alClock k l c)))):=fun w R h F s a=>by
 refine ⟨.value (.tuple #[(alFind k l).getD z,goInt (alBorn k c l)]),_,_,by unfold mapES; rw [Sem.run_bind,run_mapEntry_raw K ht hi hz (s.oh _ _ a) k]; rfl,rfl,Same.setObj _ _ _,R,_,PH.le.refl _,s.setObj a,rfl,if_pos rfl⟩
theorem entryStore_ok {enc:κ → Value} {t:TypeId} {r c:Nat} {l:AL κ} (hs:Stamps l c) (k:κ) (x:Value) (hk:(alFind k l).isSome=true) :
  OTri Tryz.prog (estS t (.map (some r)) (goInt (alBorn k c l)) x) (HP.one r (mapObj enc l c)) (fun v=>HP.and (v = .tuple #[]) (HP.one r (mapObj enc (alPut k x c l) c))):=fun w R h F s a=>by
 refine ⟨.skip,_,_,by unfold estS; rw [Sem.run_bind,run_entryStore_raw hs (s.oh _ _ a) k x hk]; rfl,rfl,Same.setObj _ _ _,R,_,PH.le.refl _,s.setObj a,rfl,if_pos rfl⟩
end
end Go.Proofs.YtdieogcemmnaaaaGreatDoor

namespace Go.Proofs.YtdieogcemmnaaaaGreatDoor.RX
set_option maxRecDepth 100000
-- bytes.Equal: ρ:=[.a aa,.n al,.n ac,.p aP,.a ba,.n bl,.n bc,.p bP]
def t_bEqual:T :=
(.read (.convert 28 9 (.tmp 5)) 9 [(5,.w (.a (.sl (.v 0) (.v 1) (.v 2))))] [(.a 0,.prop 3)] [.s] (.w (.a (.str (.v 8))))
(.read (.convert 28 9 (.tmp 7)) 9 [(7,.w (.a (.sl (.v 4) (.v 5) (.v 6))))] [(.a 4,.prop 7)] [.s] (.w (.a (.str (.v 9))))
(.ret (.w (.a (.bool (.o2 .seq (.v 8) (.v 9))))) [(.a 0,.prop 3),(.a 4,.prop 7)])))
theorem tree_bEqual:tree Tryz.prog { } Tryz.f168 [.a (.sl (.v 0) (.v 1) (.v 2)),.a (.sl (.v 4) (.v 5) (.v 6))] [(.a 0,.prop 3),(.a 4,.prop 7)] 8=t_bEqual:=by kernel_rfl
def t_sEqualS:T :=
(.br (.o1 .not (.o2 .eq (.o1 .ofNat (.v 1)) (.o1 .ofNat (.v 5))))
(.ret (.w (.a (.bool (.c false)))) [(.a 0,.prop 3),(.a 4,.prop 7)])
(.loop [.c,.i] [.e (.o1 .not (.o1 .not (.c false))),.e (.o1 .neg (.o1 .neg (.i 0)))]
(.br (.o2 .lt (.v 9) (.o1 .ofNat (.v 1)))
(.need (.o2 .le (.i 0) (.v 9))
(.need (.o1 .isSome (.v 0))
(.need (.o2 .lt (.v 9) (.o1 .ofNat (.v 5)))
(.need (.o1 .isSome (.v 4))
  (.all
(.read (.load 9 (.tmp 18)) 9 [(18,.w (.a (.eptr 0 (.v 9) 1 0)))] [(.a 0,.prop 3)] [.s] (.w (.a (.str (.v 10))))
(.read (.load 9 (.tmp 22)) 9 [(22,.w (.a (.eptr 4 (.v 9) 1 0)))] [(.a 4,.prop 7)] [.s] (.w (.a (.str (.v 11))))
(.br (.o1 .not (.o2 .seq (.v 10) (.v 11)))
(.ret (.w (.a (.bool (.c false)))) [(.a 0,.prop 3),(.a 4,.prop 7)])
(.need (.o1 (.inr .i64) (.o2 .add (.v 9) (.i 1)))
(.again 0 [.e (.o1 .not (.o1 .not (.v 8))),.e (.o1 .neg (.o1 .neg (.o2 .add (.v 9) (.i 1))))])))))
(.read (.load 9 (.tmp 22)) 9 [(22,.w (.a (.eptr 4 (.v 9) 1 0)))] [(.a 4,.prop 7)] [.s] (.w (.a (.str (.v 10))))
(.read (.load 9 (.tmp 18)) 9 [(18,.w (.a (.eptr 0 (.v 9) 1 0)))] [(.a 0,.prop 3)] [.s] (.w (.a (.str (.v 11))))
(.br (.o1 .not (.o2 .seq (.v 11) (.v 10)))
(.ret (.w (.a (.bool (.c false)))) [(.a 0,.prop 3),(.a 4,.prop 7)])
(.need (.o1 (.inr .i64) (.o2 .add (.v 9) (.i 1)))
(.again 0 [.e (.o1 .not (.o1 .not (.v 8))),.e (.o1 .neg (.o1 .neg (.o2 .add (.v 9) (.i 1))))]))))))))))
(.ret (.w (.a (.bool (.c true)))) [(.a 0,.prop 3),(.a 4,.prop 7)]))))
theorem tree_sEqualS:tree Tryz.prog { } Tryz.f169 [.a (.sl (.v 0) (.v 1) (.v 2)),.a (.sl (.v 4) (.v 5) (.v 6))] [(.a 0,.prop 3),(.a 4,.prop 7)] 8=t_sEqualS:=by kernel_rfl
end Go.Proofs.YtdieogcemmnaaaaGreatDoor.RX

namespace Go.Proofs.YtdieogcemmnaaaaGreatDoor
set_option linter.unusedSimpArgs false
set_option linter.unusedVariables false
open Go.Proofs.YtdieogcemmnaaaaGreatDoor RX
set_option maxRecDepth 100000
theorem bEqual_ok (a:Option Addr) (n c:Nat) (la:List UInt8) (b:Option Addr) (m d:Nat) (lb:List UInt8) (Sa Sb:HP) (hA:RdL Sa a n (la.map u8v)) (hB:RdL Sb b m (lb.map u8v)) (hla:la.length=n) (hlb:lb.length=m) :
  Tri Tryz.prog 168 #[.slice a n c,.slice b m d] (HP.sep Sa Sb) (fun v=>HP.and (v = .bool (decide (la=lb))) (HP.sep Sa Sb)):=by
 refine tri_of_tree (ρ:=[.a a,.n n,.n c,.p Sa,.a b,.n m,.n d,.p Sb]) mixed Tryz.func168 tree_bEqual ?_
 unfold t_bEqual
 simp only [T.den,E.prop,E.den,RX.look,F1.app,F2.app,Uni.int_i,Uni.nat_n,Uni.bool_c,Uni.str_s,Uni.adr_a,Uni.val_v,Uni.hp_p,hden,cden,V.den,W.den,A.den,BR.den,SA.den,FV.den,capV,exs,exP,allP,Cur.app,List.map_cons,List.map_nil,List.cons_append,List.nil_append,List.drop_succ_cons,List.drop_zero,List.length_cons,List.length_nil,Nat.zero_add,Nat.reduceAdd,Int.neg_neg,Bool.not_not,List.append_nil,Nat.add_zero,List.getElem?_cons_zero,List.getElem?_cons_succ,Decidable.not_not,semW_eq,ne_eq,Nat.reduceEqDiff,not_false_eq_true]
 exact ⟨_,convW6 hA hla,_,convW6 hB hlb,.of fun R h H=>⟨rfl,H⟩⟩
theorem sEqualS_ok (a:Option Addr) (n c:Nat) (la:List Nm) (b:Option Addr) (m d:Nat) (lb:List Nm) (Sa Sb:HP) (hA:RdL Sa a n (la.map sE)) (hB:RdL Sb b m (lb.map sE)) (hla:la.length=n) (hlb:lb.length=m) (hn:n ≤ 140737488355328) :
  Tri Tryz.prog 169 #[.slice a n c,.slice b m d] (HP.sep Sa Sb) (fun v=>HP.and (v = .bool (decide (la=lb))) (HP.sep Sa Sb)):=by
 refine Tri.fact (φ:=(n ≠ 0 → a.isSome=true) ∧ (m ≠ 0 → b.isSome=true)) (fun R h H=>⟨hA.isSome (HP.sep_left H),hB.isSome (HP.sep_right H)⟩) fun ⟨ha,hb⟩ => ?_
 refine tri_of_tree (ρ:=[.a a,.n n,.n c,.p Sa,.a b,.n m,.n d,.p Sb]) mixed Tryz.func169 tree_sEqualS ?_
 unfold t_sEqualS
 simp only [T.den,E.prop,E.den,RX.look,F1.app,F2.app,Uni.int_i,Uni.nat_n,Uni.bool_c,Uni.str_s,Uni.adr_a,Uni.val_v,Uni.hp_p,hden,cden,V.den,W.den,A.den,BR.den,SA.den,FV.den,capV,exs,exP,allP,Cur.app,List.map_cons,List.map_nil,List.cons_append,List.nil_append,List.drop_succ_cons,List.drop_zero,List.length_cons,List.length_nil,Nat.zero_add,Nat.reduceAdd,Int.neg_neg,Bool.not_not,List.append_nil,Nat.add_zero,List.getElem?_cons_zero,List.getElem?_cons_succ,Decidable.not_not,semW_eq,semW_load,ne_eq,Nat.reduceEqDiff,not_false_eq_true]
 refine ⟨fun h => .of fun R h' H=>⟨?_,H⟩,fun h => ?_⟩
 ·rw [decide_eq_false]
  intro e; subst e; omega
 have hnm:n=m:=by omega
 subst hnm
 refine ⟨fun _ i => ∃ k:Nat,i=k ∧ k ≤ n ∧ la.take k=lb.take k,fun _ i=>n - i.toNat,⟨0,rfl,Nat.zero_le _,rfl⟩,?_⟩
 rintro x _ ⟨k,rfl,hk,hpre⟩
 refine ⟨fun hlt=>⟨by omega,fun _=>⟨ha (by omega),fun _=>⟨by omega,fun _=>⟨hb (by omega),fun _ => ?_⟩⟩⟩⟩,fun hge => .of fun R h' H=>⟨?_,H⟩⟩
 ·obtain ⟨x,hx⟩:=getN (l:=la) (k:=k) (by omega)
  obtain ⟨y,hy⟩:=getN (l:=lb) (k:=k) (by omega)
  have ra:=loadStr hA.rd (k:=(k:Int).toNat) hx
  have rb:=loadStr hB.rd (k:=(k:Int).toNat) hy
  refine ⟨⟨_,ra,_,rb,fun h1 => .of fun R h' H=>⟨by rw [decide_eq_false (get_ne hx hy h1)],H⟩,fun h1=>⟨inI64' _ (by omega) (by omega),fun _=>⟨⟨k + 1,by omega,by omega,take_eq hx hy hpre h1⟩,by dsimp only; omega⟩⟩⟩,
   ⟨_,rb,_,ra,fun h1 => .of fun R h' H=>⟨by rw [decide_eq_false (get_ne hx hy h1)],H⟩,fun h1=>⟨inI64' _ (by omega) (by omega),fun _=>⟨⟨k + 1,by omega,by omega,take_eq hx hy hpre h1⟩,by dsimp only; omega⟩⟩⟩⟩
 ·have hke:k=n:=by omega
  subst hke
  rw [List.take_of_length_le (by omega),List.take_of_length_le (by omega)] at hpre
  rw [decide_eq_true hpre]
theorem jSame_ok (r s:AnsM) (da1:Option Addr) (dc1:Nat) (na1:Option Addr) (nc1:Nat) (da2:Option Addr) (dc2:Nat) (na2:Option Addr) (nc2:Nat) (D1 N1 D2 N2:HP)
  (hD1:RdL D1 da1 r.data.length (r.data.map u8v)) (hN1:RdL N1 na1 r.names.length (r.names.map sE)) (hD2:RdL D2 da2 s.data.length (s.data.map u8v)) (hN2:RdL N2 na2 s.names.length (s.names.map sE)) (hb2:r.names.length ≤ 140737488355328) :
  Tri Tryz.prog 114 #[r.at da1 dc1 na1 nc1,s.at da2 dc2 na2 nc2] (HP.sep D1 (HP.sep N1 (HP.sep D2 N2)))
   (fun v=>HP.and (v = .bool (decide (r=s))) (HP.sep D1 (HP.sep N1 (HP.sep D2 N2)))):=by
 refine tri_of_tree (ρ:=[.i r.err,.i r.kind,.i r.size,.i r.links,.a da1,.n r.data.length,.n dc1,.p D1,.a na1,.n r.names.length,.n nc1,.p N1,.i s.err,.i s.kind,.i s.size,.i s.links,.a da2,.n s.data.length,.n dc2,.p D2,.a na2,.n s.names.length,.n nc2,.p N2]) mixed Tryz.func114 tree_jSame ?_
 unfold t_jSame
 simp only [T.den,E.prop,E.den,RX.look,F1.app,F2.app,Uni.int_i,Uni.nat_n,Uni.bool_c,Uni.str_s,Uni.adr_a,Uni.val_v,Uni.hp_p,hden,cden,V.den,W.den,A.den,BR.den,SA.den,FV.den,capV,exs,exP,allP,Cur.app,List.map_cons,List.map_nil,List.cons_append,List.nil_append,List.drop_succ_cons,List.drop_zero,List.length_cons,List.length_nil,Nat.zero_add,Nat.reduceAdd,Int.neg_neg,Bool.not_not,List.append_nil,Nat.add_zero,List.getElem?_cons_zero,List.getElem?_cons_succ,Decidable.not_not,semW_eq,ne_eq,Nat.reduceEqDiff,not_false_eq_true]
 have no : ¬ r=s → HP.ent (HP.sep D1 (HP.sep N1 (HP.sep D2 N2))) (HP.and (Value.bool false = .bool (decide (r=s))) (HP.sep D1 (HP.sep N1 (HP.sep D2 N2)))):=fun h => .of fun R h' H=>⟨by rw [decide_eq_false h],H⟩
 intro _ _
 refine ⟨fun h1=>⟨fun h2=>⟨fun h3=>⟨fun h4 => ?_,fun h=>no fun e=>h (by rw [e])⟩,fun h=>no fun e=>h (by rw [e])⟩,fun h=>no fun e=>h (by rw [e])⟩,fun h=>no fun e=>h (by rw [e])⟩
 refine (bEqual_ok da1 _ dc1 r.data da2 _ dc2 s.data D1 D2 hD1 hD2 rfl rfl).weak (fun _ _ h=>h) ?_
 rintro v R h ⟨rfl,H⟩
 refine ⟨_,rfl,⟨fun h5 => ?_,fun h=>no fun e=>h (by rw [e]; simp)⟩,H⟩
 clear H
 refine (sEqualS_ok na1 _ nc1 r.names na2 _ nc2 s.names N1 N2 hN1 hN2 rfl rfl hb2).weak (fun _ _ h=>h) ?_
 rintro v R h ⟨rfl,H⟩
 refine ⟨_,rfl,.of fun R h H=>⟨?_,H⟩,H⟩
 replace h5:r.data=s.data:=by simpa using h5
 have:(r=s) ↔ r.names=s.names:=⟨fun e=>by rw [e],fun e=>by cases r; cases s; simp only at h1 h2 h3 h4 h5 e; subst h1 h2 h3 h4 h5 e; rfl⟩
 show Value.bool _=Value.bool _
 exact congrArg Value.bool (decide_eq_decide.2 this).symm
end Go.Proofs.YtdieogcemmnaaaaGreatDoor

namespace Go.Proofs.YtdieogcemmnaaaaGreatDoor
open Go.Proofs.YtdieogcemmnaaaaGreatDoor RX
set_option maxRecDepth 100000
abbrev BegM:=IdM × (Int × Int × Int) × (List UInt8 × List UInt8 × List UInt8)
def begV (k:BegM):Value := .agg #[.int .i64 k.1.1,.int .i64 k.1.2.1,.int .i64 k.1.2.2,.int .i64 k.2.1.1,.int .i64 k.2.1.2.1,.int .i64 k.2.1.2.2,sE k.2.2.1,sE k.2.2.2.1,sE k.2.2.2.2]
theorem undStrT:Tryz.prog.underlying 9=some .string:=by kernel_rfl
theorem run_part_str {w:World} (cs:Array Value) (i:Nat) (v:Value) (hv:cs[i]? = some v):(part 9 cs i).run Tryz.prog w = .ok v w:=by
 have hagg:(isAgg 9).run Tryz.prog w = .ok false w:=by
  unfold isAgg
  rw [Sem.run_bind,run_underlying undStrT]
  rfl
 simp [part,hagg,hv]
theorem idInfo:(Tryz.prog.info? 57).map (fun i=>i.size)=some 3:=by kernel_rfl
theorem run_part_id {w:World} (cs:Array Value) (a b c:Value) (h:cs.extract 0 3 = #[a,b,c]):(part 57 cs 0).run Tryz.prog w = .ok (.agg #[a,b,c]) w:=by
 have hagg:(isAgg 57).run Tryz.prog w = .ok true w:=by
  unfold isAgg
  rw [Sem.run_bind,run_underlying undIdT]
  rfl
 obtain ⟨i,hi,_⟩:=Option.map_eq_some_iff.1 idInfo
 have hsz:(Go.sizeOf 57).run Tryz.prog w = .ok 3 w:=by
  rw [RX.run_sizeOf hi]
  exact congrArg (fun x=>Result.ok x w) (show szT Tryz.prog 57=3 by kernel_rfl)
 simp [part,hagg,hsz,h]
theorem idCheck (em:Bool) (m:Nat) (k:IdM) (w:World):(Instr.checkKey em (m + 2) 57 (idV k)).run Tryz.prog w = .ok () w:=by
 obtain ⟨f0,f1,f2,hf,⟨n0,t0,o0⟩,⟨n1,t1,o1⟩,n2,t2,o2⟩:=idFs'
 have hck : ∀ (n:Int) (w:World),(Instr.checkKey em (m + 1) 3 (.int .i64 n)).run Tryz.prog w = .ok () w:=by
  intro n w
  unfold Instr.checkKey
  simp [run_underlying undIn]
 obtain ⟨a,b,c⟩:=k
 have q0 : ∀ (w:World),(part 3 #[.int .i64 a,.int .i64 b,.int .i64 c] 0).run Tryz.prog w = .ok (.int .i64 a) w:=fun w=>run_part_int undIn _ 0 _ rfl
 have q1 : ∀ (w:World),(part 3 #[.int .i64 a,.int .i64 b,.int .i64 c] 1).run Tryz.prog w = .ok (.int .i64 b) w:=fun w=>run_part_int undIn _ 1 _ rfl
 have q2 : ∀ (w:World),(part 3 #[.int .i64 a,.int .i64 b,.int .i64 c] 2).run Tryz.prog w = .ok (.int .i64 c) w:=fun w=>run_part_int undIn _ 2 _ rfl
 unfold Instr.checkKey idV
 simp only [Sem.run_bind,run_underlying undIdT,Result.andThen_ok]
 rw [← Array.forIn_toList,hf]
 simp only [List.forIn_cons,List.forIn_nil,Sem.run_bind,n0,n1,n2,t0,t1,t2,o0,o1,o2,ne_eq,not_false_eq_true,if_true,q0,q1,q2,Result.andThen_ok,hck,Sem.run_pure]
theorem idEq (d:Nat) (k k':IdM) (w:World):(Op.equalIn (d + 1 + 1) 57 (idV k) (idV k')).run Tryz.prog w = .ok (decide (k=k')) w:=by
 obtain ⟨f0,f1,f2,hf,⟨n0,t0,o0⟩,⟨n1,t1,o1⟩,n2,t2,o2⟩:=idFs'
 obtain ⟨a,b,c⟩:=k
 obtain ⟨x,y,z⟩:=k'
 have q0 : ∀ (a b c:Int) (w:World),(part 3 #[.int .i64 a,.int .i64 b,.int .i64 c] 0).run Tryz.prog w = .ok (.int .i64 a) w:=fun a b c w=>run_part_int undIn _ 0 _ rfl
 have q1 : ∀ (a b c:Int) (w:World),(part 3 #[.int .i64 a,.int .i64 b,.int .i64 c] 1).run Tryz.prog w = .ok (.int .i64 b) w:=fun a b c w=>run_part_int undIn _ 1 _ rfl
 have q2 : ∀ (a b c:Int) (w:World),(part 3 #[.int .i64 a,.int .i64 b,.int .i64 c] 2).run Tryz.prog w = .ok (.int .i64 c) w:=fun a b c w=>run_part_int undIn _ 2 _ rfl
 have he : ∀ (a b:Int) (w:World),(Op.equalIn (d + 1) 3 (.int .i64 a) (.int .i64 b)).run Tryz.prog w = .ok (a == b) w:=fun a b w=>run_equalIn_int w d _ _ _ _ _ undIn
 unfold idV
 rw [run_equalIn_struct w _ _ _ _ undIdT heldId,hf]
 simp only [Op.eqFields,n0,n1,n2,t0,t1,t2,o0,o1,o2,ne_eq,not_false_eq_true,if_true,Sem.run_bind,q0,q1,q2,Result.andThen_ok,he]
 by_cases h1:a=x
 ·by_cases h2:b=y
  ·by_cases h3:c=z
   ·simp [h1,h2,h3,q1,q2,he]
   ·simp [h1,h2,h3,q1,q2,he]
  ·simp [h1,h2,q1,he]
 ·simp [h1]
theorem begFs:(Tryz.prog.fieldsOf 193).toList.map (fun f=>(decide (f.name = "_"),f.type,f.offset))=[(false,57,0),(false,3,3),(false,3,4),(false,3,5),(false,9,6),(false,9,7),(false,9,8)]:=by kernel_rfl
theorem undBeg:Tryz.prog.underlying 193=some (.struct (Tryz.prog.fieldsOf 193)):=by kernel_rfl
theorem heldBeg:Tryz.prog.stoodInHeld 193=false:=by kernel_rfl
theorem begK:KeyEnc Tryz.prog 193 begV:=by
 have h:=begFs
 obtain ⟨f0,_,e0,h0,h⟩:=List.map_eq_cons_iff.1 h
 obtain ⟨f1,_,e1,h1,h⟩:=List.map_eq_cons_iff.1 h
 obtain ⟨f2,_,e2,h2,h⟩:=List.map_eq_cons_iff.1 h
 obtain ⟨f3,_,e3,h3,h⟩:=List.map_eq_cons_iff.1 h
 obtain ⟨f4,_,e4,h4,h⟩:=List.map_eq_cons_iff.1 h
 obtain ⟨f5,_,e5,h5,h⟩:=List.map_eq_cons_iff.1 h
 obtain ⟨f6,_,e6,h6,h⟩:=List.map_eq_cons_iff.1 h
 have e7:=List.map_eq_nil_iff.1 h
 subst e7 e6 e5 e4 e3 e2 e1
 simp only [Prod.mk.injEq,decide_eq_false_iff_not] at h0 h1 h2 h3 h4 h5 h6
 obtain ⟨n0,t0,o0⟩:=h0
 obtain ⟨n1,t1,o1⟩:=h1
 obtain ⟨n2,t2,o2⟩:=h2
 obtain ⟨n3,t3,o3⟩:=h3
 obtain ⟨n4,t4,o4⟩:=h4
 obtain ⟨n5,t5,o5⟩:=h5
 obtain ⟨n6,t6,o6⟩:=h6
 have ckI : ∀ (em:Bool) (n:Int) (w:World),(Instr.checkKey em 9999 3 (.int .i64 n)).run Tryz.prog w = .ok () w:=by
  intro em n w
  unfold Instr.checkKey
  simp [run_underlying undIn]
 have ckS : ∀ (em:Bool) (s:List UInt8) (w:World),(Instr.checkKey em 9999 9 (sE s)).run Tryz.prog w = .ok () w:=by
  intro em n w
  unfold Instr.checkKey
  simp [run_underlying undStrT,sE]
 have ckD : ∀ (em:Bool) (k:IdM) (w:World),(Instr.checkKey em 9999 57 (.agg #[.int .i64 k.1,.int .i64 k.2.1,.int .i64 k.2.2])).run Tryz.prog w = .ok () w:=fun em k w=>idCheck em 9997 k w
 have eqI : ∀ (a b:Int) (w:World),(Op.equalIn 9999 3 (.int .i64 a) (.int .i64 b)).run Tryz.prog w = .ok (decide (a=b)) w:=fun a b w=>(run_equalIn_int w 9998 _ _ _ _ _ undIn).trans (by by_cases h:a=b <;> simp [h])
 have eqS : ∀ (a b:List UInt8) (w:World),(Op.equalIn 9999 9 (sE a) (sE b)).run Tryz.prog w = .ok (decide (a=b)) w:=fun a b w=>(run_equalIn_string w 9998 _ _ _ undStrT).trans (by rw [RX.str_eq])
 have eqD : ∀ (a b:IdM) (w:World),(Op.equalIn 9999 57 (.agg #[.int .i64 a.1,.int .i64 a.2.1,.int .i64 a.2.2]) (.agg #[.int .i64 b.1,.int .i64 b.2.1,.int .i64 b.2.2])).run Tryz.prog w = .ok (decide (a=b)) w:=fun a b w=>idEq 9997 a b w
 have p0 : ∀ (k:BegM) (w:World),(part 57 #[.int .i64 k.1.1,.int .i64 k.1.2.1,.int .i64 k.1.2.2,.int .i64 k.2.1.1,.int .i64 k.2.1.2.1,.int .i64 k.2.1.2.2,sE k.2.2.1,sE k.2.2.2.1,sE k.2.2.2.2] 0).run Tryz.prog w = .ok (.agg #[.int .i64 k.1.1,.int .i64 k.1.2.1,.int .i64 k.1.2.2]) w:=fun k w=>run_part_id _ _ _ _ (by simp)
 have p1 : ∀ (v0 v1 v2 v3 v4 v5 v6 v7 v8:Value) (w:World),(part 3 #[v0,v1,v2,v3,v4,v5,v6,v7,v8] 3).run Tryz.prog w = .ok v3 w:=fun v0 v1 v2 v3 v4 v5 v6 v7 v8 w=>run_part_int undIn _ 3 _ rfl
 have p2 : ∀ (v0 v1 v2 v3 v4 v5 v6 v7 v8:Value) (w:World),(part 3 #[v0,v1,v2,v3,v4,v5,v6,v7,v8] 4).run Tryz.prog w = .ok v4 w:=fun v0 v1 v2 v3 v4 v5 v6 v7 v8 w=>run_part_int undIn _ 4 _ rfl
 have p3 : ∀ (v0 v1 v2 v3 v4 v5 v6 v7 v8:Value) (w:World),(part 3 #[v0,v1,v2,v3,v4,v5,v6,v7,v8] 5).run Tryz.prog w = .ok v5 w:=fun v0 v1 v2 v3 v4 v5 v6 v7 v8 w=>run_part_int undIn _ 5 _ rfl
 have p4 : ∀ (v0 v1 v2 v3 v4 v5 v6 v7 v8:Value) (w:World),(part 9 #[v0,v1,v2,v3,v4,v5,v6,v7,v8] 6).run Tryz.prog w = .ok v6 w:=fun v0 v1 v2 v3 v4 v5 v6 v7 v8 w=>run_part_str _ 6 _ rfl
 have p5 : ∀ (v0 v1 v2 v3 v4 v5 v6 v7 v8:Value) (w:World),(part 9 #[v0,v1,v2,v3,v4,v5,v6,v7,v8] 7).run Tryz.prog w = .ok v7 w:=fun v0 v1 v2 v3 v4 v5 v6 v7 v8 w=>run_part_str _ 7 _ rfl
 have p6 : ∀ (v0 v1 v2 v3 v4 v5 v6 v7 v8:Value) (w:World),(part 9 #[v0,v1,v2,v3,v4,v5,v6,v7,v8] 8).run Tryz.prog w = .ok v8 w:=fun v0 v1 v2 v3 v4 v5 v6 v7 v8 w=>run_part_str _ 8 _ rfl
 refine asking_enc undBeg (fun a b=>rfl) ?_ ?_ ?_
 ·intro em k w
  unfold Instr.checkKey begV
  simp only [Sem.run_bind,run_underlying undBeg,Result.andThen_ok]
  rw [← Array.forIn_toList,e0]
  simp only [List.forIn_cons,List.forIn_nil,Sem.run_bind,n0,n1,n2,n3,n4,n5,n6,t0,t1,t2,t3,t4,t5,t6,o0,o1,o2,o3,o4,o5,o6,ne_eq,not_false_eq_true,if_true,p0 k,p1,p2,p3,p4,p5,p6,Result.andThen_ok,ckI,ckS,ckD,Sem.run_pure]
 ·intro k k' w
  unfold Op.equal begV
  rw [show Op.maxDepth=9998 + 1 + 1 from rfl,run_equalIn_struct w _ _ _ _ undBeg heldBeg,e0]
  simp only [Op.eqFields,n0,n1,n2,n3,n4,n5,n6,t0,t1,t2,t3,t4,t5,t6,o0,o1,o2,o3,o4,o5,o6,ne_eq,not_false_eq_true,if_true,Sem.run_bind,p0 k,p0 k',Result.andThen_ok,eqD]
  by_cases c0:k.1=k'.1
  ·by_cases c1:k.2.1.1=k'.2.1.1
   ·by_cases c2:k.2.1.2.1=k'.2.1.2.1
    ·by_cases c3:k.2.1.2.2=k'.2.1.2.2
     ·by_cases c4:k.2.2.1=k'.2.2.1
      ·by_cases c5:k.2.2.2.1=k'.2.2.2.1
       ·by_cases c6:k.2.2.2.2=k'.2.2.2.2
        ·have e:k=k':=Prod.ext c0 (Prod.ext (Prod.ext c1 (Prod.ext c2 c3)) (Prod.ext c4 (Prod.ext c5 c6)))
         simp [e,p1,p2,p3,p4,p5,p6,eqI,eqS]
        ·have e:k ≠ k':=fun e=>c6 (by rw [e])
         simp [c0,c1,c2,c3,c4,c5,c6,e,p1,p2,p3,p4,p5,p6,eqI,eqS]
       ·have e:k ≠ k':=fun e=>c5 (by rw [e])
        simp [c0,c1,c2,c3,c4,c5,e,p1,p2,p3,p4,p5,p6,eqI,eqS]
      ·have e:k ≠ k':=fun e=>c4 (by rw [e])
       simp [c0,c1,c2,c3,c4,e,p1,p2,p3,p4,p5,p6,eqI,eqS]
     ·have e:k ≠ k':=fun e=>c3 (by rw [e])
      simp [c0,c1,c2,c3,e,p1,p2,p3,p4,p5,p6,eqI,eqS]
    ·have e:k ≠ k':=fun e=>c2 (by rw [e])
     simp [c0,c1,c2,e,p1,p2,p3,p4,p5,p6,eqI,eqS]
   ·have e:k ≠ k':=fun e=>c1 (by rw [e])
    simp [c0,c1,e,p1,p2,p3,p4,p5,p6,eqI,eqS]
  ·have e:k ≠ k':=fun e=>c0 (by rw [e])
   simp [c0,e,p1,p2,p3,p4,p5,p6,eqI,eqS]
 ·intro k
  simp [begV,Instr.sameBits,sE,bytes_beq]
end Go.Proofs.YtdieogcemmnaaaaGreatDoor

namespace Go.Proofs.YtdieogcemmnaaaaGreatDoor
open Go.Proofs.YtdieogcemmnaaaaGreatDoor RX
theorem semW_mapEntry {t ty:TypeId} {i j:Nat} {u v:Value} (h:i ≠ j):semW (.mapEntry t (.tmp i) (.tmp j)) ty [(i,u),(j,v)]=mapES t u v:=by
 have h':(i == j)=false:=by simpa using h
 simp [semW,execOp,arW,h',mapES]
theorem semW_entryStore {t ty:TypeId} {i j q:Nat} {u v x:Value} (h:i ≠ j) (h2:i ≠ q) (h3:j ≠ q):semW (.entryStore t (.tmp i) (.tmp j) (.tmp q)) ty [(i,u),(j,v),(q,x)]=estS t u v x:=by
 have h':(i == j)=false:=by simpa using h
 have h2':(i == q)=false:=by simpa using h2
 have h3':(j == q)=false:=by simpa using h3
 simp [semW,execOp,arW,h',h2',h3',estS]
end Go.Proofs.YtdieogcemmnaaaaGreatDoor

namespace Go.Proofs.YtdieogcemmnaaaaGreatDoor
set_option linter.unusedSimpArgs false
set_option linter.unusedVariables false
open Go.Proofs.YtdieogcemmnaaaaGreatDoor RX
set_option maxRecDepth 100000
def begOf (id:IdM) (c:CallP):BegM:=(id,(c.kind,c.off,c.n),(c.path,c.other,c.data))
theorem beganOf_ok (id:IdM) (c:CallP) (a:Option Addr) (cc:Nat) (S:HP) (hr:RdL S a c.data.length (c.data.map u8v)):Tri Tryz.prog 110 #[idV id,c.val a cc] S (fun v=>HP.and (v=begV (begOf id c)) S):=by
 refine tri_of_tree (ρ:=[.i id.1,.i id.2.1,.i id.2.2,.i c.kind,.s c.path,.s c.other,.i c.off,.i c.n,.a a,.n c.data.length,.n cc,.p S]) mixed Tryz.func110 tree_jBeganOf ?_
 unfold t_jBeganOf
 simp only [T.den,E.prop,E.den,RX.look,F1.app,F2.app,Uni.int_i,Uni.nat_n,Uni.bool_c,Uni.str_s,Uni.adr_a,Uni.val_v,Uni.hp_p,hden,cden,V.den,W.den,A.den,BR.den,SA.den,FV.den,capV,exs,exP,allP,Cur.app,List.map_cons,List.map_nil,List.cons_append,List.nil_append,List.drop_succ_cons,List.drop_zero,List.length_cons,List.length_nil,Nat.zero_add,Nat.reduceAdd,Int.neg_neg,Bool.not_not,List.append_nil,Nat.add_zero,List.getElem?_cons_zero,List.getElem?_cons_succ,Decidable.not_not,semW_eq,ne_eq,Nat.reduceEqDiff,not_false_eq_true]
 exact fun _ _ _=>⟨_,convW6 hr rfl,.of fun R h H=>⟨rfl,H⟩⟩
end Go.Proofs.YtdieogcemmnaaaaGreatDoor

namespace Go.Proofs.YtdieogcemmnaaaaGreatDoor
open Go.Proofs.YtdieogcemmnaaaaGreatDoor RX
set_option maxRecDepth 100000
structure DeedP where
 id:IdM
 call:CallP
 be:Int
 en:Int
 ans:AnsM
def DeedP.ansd (d:DeedP):Bool:=decide (0 ≤ d.en) && decide (d.ans.err ≠ 30)
structure JS where
 T:List Nd
 first:IdM → Option Nat
 n:Nat
 tw:Bool
 nob:Bool
 wr:Bool
def ansOf (T:List Nd) (c:CallP):AnsM:=(doS T c.kind c.path c.other c.off c.n c.data).2
def nextT (T:List Nd) (c:CallP):List Nd:=(doS T c.kind c.path c.other c.off c.n c.data).1
def begun (ds:List DeedP) (x:IdM × CallP):Bool:=ds.any fun d=>decide (begOf d.id d.call=begOf x.1 x.2)
def wrongS (ds:List DeedP) (id:IdM) (r:AnsM):Bool:=ds.any fun d=>d.ansd && decide (d.id=id) && decide (d.ans ≠ r)
def putF (f:IdM → Option Nat) (k:IdM) (n:Nat):IdM → Option Nat:=match f k with
 | some _=>f
 | none=>fput f k (some n)
def jstep (ds:List DeedP) (s:JS) (x:IdM × CallP):JS where
 T:=nextT s.T x.2
 first:=putF s.first x.1 s.n
 n:=s.n + 1
 tw:=s.tw || (s.first x.1).isSome
 nob:=s.nob || !begun ds x
 wr:=s.wr || ((s.first x.1).isNone && wrongS ds x.1 (ansOf s.T x.2))
def jrun (ds:List DeedP):JS → List (IdM × CallP) → JS
 | s,[]=>s
 | s,x :: r=>jrun ds (jstep ds s x) r
def js0:JS:=⟨newT,fun _=>none,0,false,false,false⟩
def missS (f:IdM → Option Nat) (ds:List DeedP):Bool:=ds.any fun d=>d.ansd && (f d.id).isNone
def lateP (f:IdM → Option Nat) (d e:DeedP):Prop := ∃ i j,f d.id=some i ∧ f e.id=some j ∧ e.ansd=true ∧ e.en < d.be ∧ i < j
def lateQ (f:IdM → Option Nat) (ds:List DeedP):Prop := ∃ d ∈ ds,∃ e ∈ ds,lateP f d e
open Classical in
noncomputable def lateS (f:IdM → Option Nat) (ds:List DeedP):Bool:=decide (lateQ f ds)
def flagsL (a b c d e:Bool):List Int:=(if a then [1] else []) ++ (if b then [2] else []) ++ (if c then [3] else []) ++ (if d then [4] else []) ++ (if e then [5] else [])
noncomputable def faultsS (ds:List DeedP) (L:List (IdM × CallP)):List Int :=
 flagsL (jrun ds js0 L).tw (jrun ds js0 L).nob (missS (jrun ds js0 L).first ds) (jrun ds js0 L).wr (lateS (jrun ds js0 L).first ds)
theorem jrun_app (ds:List DeedP) (L M:List (IdM × CallP)) : ∀ s,jrun ds s (L ++ M)=jrun ds (jrun ds s L) M:=by
 induction L with
 | nil=>intro s; rfl
 | cons x L ih=>intro s; exact ih _
theorem jrun_T (ds:List DeedP) (L:List (IdM × CallP)) : ∀ s,(jrun ds s L).T=treeOf s.T L ∧ (jrun ds s L).n=s.n + L.length:=by
 induction L with
 | nil=>intro s; exact ⟨rfl,rfl⟩
 | cons x L ih =>
  intro s
  obtain ⟨h1,h2⟩:=ih (jstep ds s x)
  refine ⟨h1,?_⟩
  show (jrun ds (jstep ds s x) L).n=_
  rw [h2]
  show s.n + 1 + L.length=s.n + (L.length + 1)
  omega
section
variable {be en:Nat → Int} {cs:List CallP} {ds:List DeedP}
end
end Go.Proofs.YtdieogcemmnaaaaGreatDoor

namespace Go.Proofs.YtdieogcemmnaaaaGreatDoor
set_option linter.unusedSimpArgs false
set_option linter.unusedVariables false
open Go.Proofs.YtdieogcemmnaaaaGreatDoor RX
set_option maxRecDepth 100000
theorem undDeed : ∃ d,Tryz.prog.underlying 88=some d:=Option.isSome_iff_exists.1 (by kernel_rfl)
theorem aggDeed:aggT Tryz.prog 88=true:=by kernel_rfl
theorem szDeed:szT Tryz.prog 88=17:=by kernel_rfl
structure DeedE where
 id:IdM
 call:CallP
 ca:Option Addr
 cc:Nat
 be:Int
 en:Int
 ans:AnsM
 da:Option Addr
 dc:Nat
 na:Option Addr
 nc:Nat
def DeedE.p (x:DeedE):DeedP:=⟨x.id,x.call,x.be,x.en,x.ans⟩
abbrev DeedE.vals (x:DeedE):List Value:=[.int .i64 x.id.1,.int .i64 x.id.2.1,.int .i64 x.id.2.2,.int .i64 x.call.kind,sE x.call.path,sE x.call.other,.int .i64 x.call.off,.int .i64 x.call.n,.slice x.ca x.call.data.length x.cc,.int .i64 x.be,.int .i64 x.en,
 .int .i64 x.ans.err,.int .i64 x.ans.kind,.int .i64 x.ans.size,.int .i64 x.ans.links,.slice x.da x.ans.data.length x.dc,.slice x.na x.ans.names.length x.nc]
theorem DeedE.len (x:DeedE):x.vals.length=17:=rfl
theorem DeedE.one (x:DeedE) : ∀ u ∈ x.vals,u.oneCell'=true:=fun u hu=>by
 simp only [DeedE.vals,List.mem_cons,List.not_mem_nil,or_false] at hu
 rcases hu with rfl | rfl | rfl | rfl | rfl | rfl | rfl | rfl | rfl | rfl | rfl | rfl | rfl | rfl | rfl | rfl | rfl <;> rfl
abbrev dvs (l:List DeedE):List Value:=l.flatMap DeedE.vals
theorem dvs_len (l:List DeedE):(dvs l).length=l.length * 17:=flat_lenL DeedE.vals 17 DeedE.len l
theorem answered_ok (x:DeedE) (S:HP):Tri Tryz.prog 111 #[.agg x.vals.toArray] S (fun v=>HP.and (v = .bool x.p.ansd) S):=by
 refine Tri.weak (A:=HP.sep S (HP.sep HP.tt HP.tt)) (B:=fun v=>HP.and (v = .bool x.p.ansd) (HP.sep S (HP.sep HP.tt HP.tt))) ?_ (fun R h H=>HP.sep_tt H |> fun H=>HP.sep_mono H (fun _ h=>h) fun _ _=>HP.sep_tt trivial) fun v R h H=>⟨H.1,HP.sep_left H.2⟩
 refine tri_of_tree (ρ:=[.i x.id.1,.i x.id.2.1,.i x.id.2.2,.i x.call.kind,.s x.call.path,.s x.call.other,.i x.call.off,.i x.call.n,.a x.ca,.n x.call.data.length,.n x.cc,.p S,.i x.be,.i x.en,.i x.ans.err,.i x.ans.kind,.i x.ans.size,.i x.ans.links,.a x.da,.n x.ans.data.length,.n x.dc,.p HP.tt,.a x.na,.n x.ans.names.length,.n x.nc,.p HP.tt]) mixed Tryz.func111 tree_jAnswered ?_
 unfold t_jAnswered
 simp only [T.den,E.prop,E.den,RX.look,F1.app,F2.app,Uni.int_i,Uni.nat_n,Uni.bool_c,Uni.str_s,Uni.adr_a,Uni.val_v,Uni.hp_p,hden,cden,V.den,W.den,A.den,BR.den,SA.den,FV.den,capV,exs,exP,allP,Cur.app,List.map_cons,List.map_nil,List.cons_append,List.nil_append,List.drop_succ_cons,List.drop_zero,List.length_cons,List.length_nil,Nat.zero_add,Nat.reduceAdd,Int.neg_neg,Bool.not_not,List.append_nil,Nat.add_zero,List.getElem?_cons_zero,List.getElem?_cons_succ,Decidable.not_not,semW_eq,ne_eq,Nat.reduceEqDiff,not_false_eq_true]
 intro _
 refine ⟨fun h => .of fun R h' H=>⟨?_,H⟩,fun h => .of fun R h' H=>⟨?_,H⟩⟩
 ·unfold DeedP.ansd DeedE.p; simp [h]
 ·unfold DeedP.ansd DeedE.p; simp [h]
theorem late1_ok (x:DeedE) (S:HP):Tri Tryz.prog 173 #[.agg x.vals.toArray] S (fun v=>HP.and (v = .bool (!x.p.ansd)) S):=by
 refine Tri.weak (A:=HP.sep S (HP.sep HP.tt HP.tt)) (B:=fun v=>HP.and (v = .bool (!x.p.ansd)) (HP.sep S (HP.sep HP.tt HP.tt))) ?_ (fun R h H=>HP.sep_tt H |> fun H=>HP.sep_mono H (fun _ h=>h) fun _ _=>HP.sep_tt trivial) fun v R h H=>⟨H.1,HP.sep_left H.2⟩
 refine tri_of_tree (ρ:=[.i x.id.1,.i x.id.2.1,.i x.id.2.2,.i x.call.kind,.s x.call.path,.s x.call.other,.i x.call.off,.i x.call.n,.a x.ca,.n x.call.data.length,.n x.cc,.p S,.i x.be,.i x.en,.i x.ans.err,.i x.ans.kind,.i x.ans.size,.i x.ans.links,.a x.da,.n x.ans.data.length,.n x.dc,.p HP.tt,.a x.na,.n x.ans.names.length,.n x.nc,.p HP.tt]) mixed Tryz.func173 tree_jLate1 ?_
 unfold t_jLate1
 simp only [T.den,E.prop,E.den,RX.look,F1.app,F2.app,Uni.int_i,Uni.nat_n,Uni.bool_c,Uni.str_s,Uni.adr_a,Uni.val_v,Uni.hp_p,hden,cden,V.den,W.den,A.den,BR.den,SA.den,FV.den,capV,exs,exP,allP,Cur.app,List.map_cons,List.map_nil,List.cons_append,List.nil_append,List.drop_succ_cons,List.drop_zero,List.length_cons,List.length_nil,Nat.zero_add,Nat.reduceAdd,Int.neg_neg,Bool.not_not,List.append_nil,Nat.add_zero,List.getElem?_cons_zero,List.getElem?_cons_succ,Decidable.not_not,semW_eq,ne_eq,Nat.reduceEqDiff,not_false_eq_true]
 intro _
 refine (answered_ok x (HP.sep S (HP.sep HP.tt HP.tt))).weak (fun _ _ h=>h) ?_
 rintro v R h ⟨rfl,H⟩
 exact ⟨_,rfl,.of fun R h H=>⟨rfl,H⟩,H⟩
theorem fgoL1:Fgo Tryz.prog 173:=⟨_,Tryz.func173,by kernel_rfl,by kernel_rfl⟩
theorem late1_v (x:DeedE) (S:HP):VTri Tryz.prog (.func (.func 173) #[] #[]) #[.agg x.vals.toArray] S (fun v=>HP.and (v = .bool (!x.p.ansd)) S) := .inl ⟨_,_,rfl,fgoL1,late1_ok x S⟩
theorem dvs_get {l:List DeedE} {k j:Nat} {x:DeedE} (hk:l[k]? = some x) (hj:j < 17):(dvs l)[k * 17 + j]? = x.vals[j]? := flat_getL DeedE.vals 17 DeedE.len l k j x hk hj
theorem ldD {S:HP} {a:Option Addr} {zs:List DeedE} (r:Rd S a (dvs zs)) {k:Nat} {x:DeedE} (hk:zs[k]? = some x):ORead Tryz.prog (loadS 88 (.pointer (a.map fun y=>(y.add (k * 17)).add 0))) S (.agg x.vals.toArray):=by
 obtain ⟨d,hd⟩:=undDeed
 refine loadN_ok (vs:=x.vals) hd aggDeed r (k:=k * 17) (off:=0) szDeed (Nat.succ_pos _) fun j v hj => ?_
 have hlt:j < 17:=(List.getElem?_eq_some_iff.1 hj).1
 rw [Nat.add_zero,dvs_get hk hlt]
 exact hj
def okD (x:DeedE):Bool:=x.p.ansd
theorem inI64D (x:Int) (h1 : -1 ≤ x) (h2:x ≤ 1000000001):IntKind.i64.min ≤ x ∧ x ≤ IntKind.i64.max:=⟨by show (-9223372036854775808:Int) ≤ x; omega,by show x ≤ (9223372036854775807:Int); omega⟩
set_option maxHeartbeats 1000000 in
theorem indexD_ok (a:Option Addr) (n c:Nat) (zs:List DeedE) (hl:zs.length=n) (ha:n ≠ 0 → a.isSome=true) (hn:n ≤ 1000000) (S:HP) (rd:Rd S a (dvs zs)) :
  Tri Tryz.prog 207 #[.slice a n c,.func (.func 173) #[] #[]] (HP.sep S HP.tt)
   (fun v=>HP.ex fun k:Int=>HP.and (v = .int .i64 k ∧ ((k = -1 ∧ ∀ x ∈ zs,okD x=true) ∨ ∃ j:Nat,k=j ∧ j < n ∧ (∀ i x,i < j → zs[i]? = some x → okD x=true) ∧ (∀ x,zs[j]? = some x → okD x=false))) (HP.sep S HP.tt)):=by
 refine tri_of_tree (ρ:=[.a a,.n n,.n c,.p S,.v (.func (.func 173) #[] #[]),.p HP.tt]) mixed Tryz.func207 tree_jIndexD ?_
 unfold t_jIndexD
 simp only [T.den,E.prop,E.den,RX.look,F1.app,F2.app,Uni.int_i,Uni.nat_n,Uni.bool_c,Uni.str_s,Uni.adr_a,Uni.val_v,Uni.hp_p,hden,cden,V.den,W.den,A.den,BR.den,SA.den,FV.den,capV,exs,exP,allP,Cur.app,List.map_cons,List.map_nil,List.cons_append,List.nil_append,List.drop_succ_cons,List.drop_zero,List.length_cons,List.length_nil,Nat.zero_add,Nat.reduceAdd,Int.neg_neg,Bool.not_not,List.append_nil,Nat.add_zero,List.getElem?_cons_zero,List.getElem?_cons_succ,Decidable.not_not,semW_eq,semW_load,ne_eq,Nat.reduceEqDiff,not_false_eq_true]
 refine ⟨fun _ i P => ∃ k:Nat,i=k ∧ k ≤ n ∧ P=HP.tt ∧ ∀ j x,j < k → zs[j]? = some x → okD x=true,fun _ i _=>n - i.toNat,⟨0,rfl,Nat.zero_le _,rfl,fun j x hj=>absurd hj (by omega)⟩,?_⟩
 rintro _ _ _ ⟨k,rfl,hk,rfl,hp⟩
 refine ⟨fun hlt=>⟨by omega,fun _=>⟨ha (by omega),fun _ => ?_⟩⟩,fun hge => .of fun R h H=>⟨-1,⟨rfl,.inl ⟨rfl,fun x hx => ?_⟩⟩,H⟩⟩
 ·obtain ⟨x,hx⟩ : ∃ x,zs[k]? = some x:=⟨_,List.getElem?_eq_getElem (by omega)⟩
  refine ⟨x.id.1,x.id.2.1,x.id.2.2,x.call.kind,x.call.path,x.call.other,x.call.off,x.call.n,x.ca,x.call.data.length,x.cc,x.be,x.en,x.ans.err,x.ans.kind,x.ans.size,x.ans.links,x.da,x.ans.data.length,x.dc,x.na,x.ans.names.length,x.nc,ldD rd hx,?_⟩
  refine (late1_v x (HP.sep HP.tt S)).weak (fun _ _ h=>h) ?_
  rintro v R h ⟨rfl,H⟩
  refine ⟨_,HP.tt,rfl,⟨fun h1 => .of fun R h H=>⟨k,⟨rfl,.inr ⟨k,rfl,by omega,hp,fun y hy => ?_⟩⟩,H⟩,fun h1=>⟨inI64D _ (by omega) (by omega),fun _=>⟨⟨k + 1,by omega,by omega,rfl,fun j y hj hy => ?_⟩,by dsimp only; omega⟩⟩⟩,H⟩
  ·rw [hx] at hy; cases hy
   simpa [okD] using h1
  ·rcases Nat.lt_or_eq_of_le (Nat.le_of_lt_succ hj) with h | h
   ·exact hp j y h hy
   ·subst h; rw [hx] at hy; cases hy; simpa [okD] using h1
 ·obtain ⟨j,hj⟩:=List.mem_iff_getElem?.1 hx
  have:=(List.getElem?_eq_some_iff.1 hj).1
  exact hp j x (by omega) hj
def clrS (t ty:TypeId) (u:Value):Sem Next:=do pure (.value (← Builtin.clear_ #[t] ty #[u]))
theorem semW_clear {t ty:TypeId} {i:Nat} {u:Value}:semW (.call ⟨.builtin .clear,#[.tmp i],#[t]⟩) ty [(i,u)]=clrS t ty u:=by
 simp [semW,execOp,resolve,arW,invoke,builtin,clrS]
theorem infoD:(Tryz.prog.info? 88).map (fun i=>(i.zero.map (·.cells.size),i.zero.map (fun z=>z.cells.all (·.oneCell')),i.size,i.bytes))=some (some 17,some true,17,200):=by kernel_rfl
theorem undDs:Tryz.prog.underlying 85=some (.slice 88):=by kernel_rfl
theorem zeroCells_sz (z:Array Value) (n:Nat):(Builtin.zeroCells z n).size=n * z.size ∧ ∀ v ∈ Builtin.zeroCells z n,v ∈ z:=by
 refine ⟨by simp [Builtin.zeroCells],fun v hv => ?_⟩
 unfold Builtin.zeroCells at hv
 simp only [Array.mem_map,Array.mem_range] at hv
 obtain ⟨i,hi,rfl⟩:=hv
 have hz:0 < z.size:=by
  rcases Nat.eq_zero_or_pos z.size with h | h
  ·rw [h,Nat.mul_zero] at hi; omega
  ·exact h
 rw [getElem!_pos z _ (Nat.mod_lt _ hz)]
 exact Array.getElem_mem _
set_option maxHeartbeats 1000000 in
theorem clear_ok (ty:TypeId) (a:Option Addr) (n c:Nat) (xs:List Value) (i m c2:Nat) (h:i + m=n) :
  OTri Tryz.prog (clrS 85 ty (.slice (a.map (·.add (i * 17))) m c2)) (OwC 88 17 a n c xs) (fun v=>HP.ex fun ys:List Value=>HP.and (v = .tuple #[] ∧ ys.take (i * 17)=xs.take (i * 17)) (OwC 88 17 a n c ys)):=by
 rintro w R h' F s ⟨hl,hh⟩
 rcases hh with ⟨rfl,h0,h1⟩ | ⟨g,cur,rfl,hg,q1,q2,q3,q4⟩
 ·refine ⟨.value (.tuple #[]),_,w,?_,rfl,Same.refl _,R,h',PH.le.refl _,s,xs,⟨rfl,rfl⟩,hl,.inl ⟨rfl,h0,h1⟩⟩
  unfold clrS Builtin.clear_
  simp [RX.run_underlying undDs]
 by_cases hm:m=0
 ·subst hm
  refine ⟨.value (.tuple #[]),_,w,?_,rfl,Same.refl _,R,h',PH.le.refl _,s,xs,⟨rfl,rfl⟩,hl,.inr ⟨g,cur,rfl,hg,q1,q2,q3,q4⟩⟩
  unfold clrS Builtin.clear_
  simp [RX.run_underlying undDs]
 have hw:=s.oh _ _ hg
 obtain ⟨inf,hi,hz⟩:=Option.map_eq_some_iff.1 infoD
 simp only [Prod.mk.injEq,Option.map_eq_some_iff] at hz
 obtain ⟨⟨z,hz0,hz1⟩,⟨z',hz0',hz2⟩,hz3,hz4⟩:=hz
 rw [hz0] at hz0'; cases hz0'
 obtain ⟨e1,e2⟩:=zeroCells_sz z.cells m
 have hzl:(Builtin.zeroCells z.cells m).toList.length=m * 17:=by rw [Array.length_toList,e1,hz1]
 have h1 : ∀ v ∈ (Builtin.zeroCells z.cells m).toList,v.oneCell'=true:=fun v hv=>by
  have:=e2 v (Array.mem_toList_iff.1 hv)
  exact (Array.all_eq_true'.1 hz2) v this
 have hsz:n * 17 ≤ cur.size:=by rw [q3]; exact Nat.mul_le_mul_right _ q1
 have hst:=run_storeCells_at (P:=Tryz.prog) g (i * 17) 88 (Builtin.zeroCells z.cells m).toList 0 cur w hw (by rw [hzl]; omega) h1
 have hrun:(clrS 85 ty (.slice ((some (⟨g,0,none⟩:Addr)).map (·.add (i * 17))) m c2)).run Tryz.prog w = .ok (.value (.tuple #[])) (w.setRow g (cur.toList.take (i * 17 + 0) ++ (Builtin.zeroCells z.cells m).toList ++ cur.toList.drop (i * 17 + 0 + (Builtin.zeroCells z.cells m).toList.length)).toArray):=by
  unfold clrS Builtin.clear_
  simp only [Option.map_some,addr_add,Nat.zero_add,List.getElem?_toArray,List.getElem?_cons_zero,Sem.run_bind,RX.run_underlying undDs,Result.andThen_ok,run_zeroV hi hz0,hst,Sem.run_pure]
 refine ⟨.value (.tuple #[]),_,_,hrun,rfl,⟨rfl,rfl,rfl,by simp⟩,R,_,PH.le.refl _,s.turn (y := .cells (cur.toList.take (i * 17 + 0) ++ (Builtin.zeroCells z.cells m).toList ++ cur.toList.drop (i * 17 + 0 + (Builtin.zeroCells z.cells m).toList.length)).toArray 88 (0,0)) hg (fun j hj=>setRow_other w g j _ hj) (setRow_heap w g cur _ 88 (0,0) hw),(cur.toList.take (i * 17 + 0) ++ (Builtin.zeroCells z.cells m).toList ++ cur.toList.drop (i * 17 + 0 + (Builtin.zeroCells z.cells m).toList.length)).take (n * 17),⟨rfl,?_⟩,?_,.inr ⟨g,_,rfl,if_pos rfl,q1,q2,?_,rfl⟩⟩
 ·subst q4
  rw [List.take_take,List.take_take,Nat.min_eq_left (by omega),Nat.add_zero,List.append_assoc,List.take_append_of_le_length (by simp; omega),List.take_take,Nat.min_self]
 ·simp only [List.length_take,List.length_append,List.length_drop,Array.length_toList,hzl]; omega
 ·simp only [List.size_toArray,List.length_append,List.length_take,List.length_drop,Array.length_toList,hzl]; omega
end Go.Proofs.YtdieogcemmnaaaaGreatDoor

namespace Go.Proofs.YtdieogcemmnaaaaGreatDoor
set_option linter.unusedSimpArgs false
set_option linter.unusedVariables false
open Go.Proofs.YtdieogcemmnaaaaGreatDoor RX
set_option maxRecDepth 100000
theorem infoD' : ∃ i z,Tryz.prog.info? 88=some i ∧ i.zero=some z ∧ z.cells.size=i.size ∧ i.size=17 ∧ i.bytes=200:=by
 obtain ⟨inf,hi,hz⟩:=Option.map_eq_some_iff.1 infoD
 simp only [Prod.mk.injEq,Option.map_eq_some_iff] at hz
 obtain ⟨⟨z,hz0,hz1⟩,_,hz3,hz4⟩:=hz
 exact ⟨inf,z,hi,hz0,by rw [hz1,hz3],hz3,hz4⟩
theorem OwC.at0 {e:TypeId} {size:Nat} {a:Option Addr} {n c:Nat} {xs:List Value} {R h:PH} (H:(OwC e size a n c xs).p R h) (k:Nat) (hk:k=0):a.map (·.add k)=a ∧ (a=none → n=0):=by
 subst hk
 rcases H.2 with ⟨rfl,h0,_⟩ | ⟨g,_,rfl,_⟩
 ·exact ⟨rfl,fun _=>h0⟩
 ·exact ⟨rfl,fun h=>by cases h⟩
theorem one_all (l:List DeedE) : ∀ u ∈ dvs l,u.oneCell'=true:=fun u hu=>by
 obtain ⟨x,_,hx⟩:=List.mem_flatMap.1 hu
 exact x.one u hx
abbrev OwD (a:Option Addr) (n c:Nat) (l:List DeedE):HP:=OwC 88 17 a n c (dvs l)
theorem OwD.len {a:Option Addr} {n c:Nat} {l:List DeedE} {R h:PH} (H:(OwD a n c l).p R h):l.length=n:=by
 have:=OwC.len H
 rw [dvs_len] at this
 omega
theorem appD (a:Option Addr) (n c:Nat) (l:List DeedE) (S:HP) (ad:Addr) (m c2:Nat) (q:List DeedE) (hr:Rd S (some ad) (dvs q)) (hm:q.length=m) (hb:n + m ≤ 1000000) :
  OTri Tryz.prog (appS 85 85 (.slice a n c) (.slice (some ad) m c2)) (HP.sep (OwD a n c l) S) (fun v=>HP.ex fun a'=>HP.ex fun c'=>HP.and (v = .slice a' (n + m) c') (HP.sep (OwD a' (n + m) c' (l ++ q)) S)):=by
 obtain ⟨i,z,hi,hz,h1,h2,h3⟩:=infoD'
 have:=append_ok 85 85 88 i z undDs hi hz h1 (by omega) a n c (dvs l) S ad m c2 (dvs q) hr (by rw [dvs_len,hm,h2]) (one_all q) (by unfold maxLen; omega) (by rw [h3]; omega)
 rw [h2] at this
 have e:dvs (l ++ q)=dvs l ++ dvs q:=List.flatMap_append
 unfold OwD
 rw [e]
 exact this
theorem cloneD_ok (a:Option Addr) (n c:Nat) (l:List DeedE) (hn:n ≤ 1000000):Tri Tryz.prog 172 #[.slice a n c] (OwD a n c l)
  (fun v=>HP.ex fun a'=>HP.ex fun c'=>HP.and (v = .slice a' n c') (HP.sep (OwD a' n c' l) (OwD a n c l))):=by
 refine Tri.fact (φ:=l.length=n ∧ (a=none → n=0)) (fun R h H=>⟨OwD.len H,(OwC.at0 H 0 rfl).2⟩) fun ⟨hl,ha⟩ => ?_
 refine tri_of_tree (ρ:=[.a a,.n n,.n c,.p (OwD a n c l)]) mixed Tryz.func172 tree_jCloneD ?_
 unfold t_jCloneD
 simp only [T.den,E.prop,E.den,RX.look,F1.app,F2.app,Uni.int_i,Uni.nat_n,Uni.bool_c,Uni.str_s,Uni.adr_a,Uni.val_v,Uni.hp_p,hden,cden,V.den,W.den,A.den,BR.den,SA.den,FV.den,capV,exs,exP,allP,Cur.app,List.map_cons,List.map_nil,List.cons_append,List.nil_append,List.drop_succ_cons,List.drop_zero,List.length_cons,List.length_nil,Nat.zero_add,Nat.reduceAdd,Int.neg_neg,Bool.not_not,List.append_nil,Nat.add_zero,List.getElem?_cons_zero,List.getElem?_cons_succ,Decidable.not_not,semW_eq,semW_append,ne_eq,Nat.reduceEqDiff,not_false_eq_true]
 refine ⟨fun h => .of fun R h' H => ?_,fun h => ?_⟩
 ·have hnone:a=none:=by cases a <;> simp at h ⊢
  have hn0:=ha hnone
  subst hn0
  have:l=[]:=List.eq_nil_of_length_eq_zero hl
  subst this
  exact ⟨none,0,rfl,HP.sep_mono (HP.tt_sep H) (fun _ _=>OwC.nil _ _ _ _) fun _ h=>h⟩
 ·obtain ⟨ad,rfl⟩ : ∃ ad,a=some ad:=by cases a with | none=>simp at h | some y=>exact ⟨y,rfl⟩
  intro b
  refine (appD (some ⟨b,0,none⟩) 0 0 [] (OwD (some ad) n c l) ad n c l (OwC.rd _ _ _ _ _ _) hl (by omega)).weak (fun R h H=>HP.sep_mono H (fun y hy=>⟨rfl,.inr ⟨b,#[],rfl,hy,Nat.le_refl _,by unfold maxLen; omega,rfl,rfl⟩⟩) fun _ h=>h) ?_
  rintro v R h ⟨a',c',rfl,H⟩
  rw [Nat.zero_add,List.nil_append] at H
  exact ⟨a',n,c',OwD a' n c' l,by rw [Nat.zero_add],.of fun R h H=>⟨a',c',rfl,HP.sep_comm H⟩,H⟩
theorem stD (a:Option Addr) (n c:Nat) (l:List DeedE) (hl:l.length=n) (k:Nat) (hk:k < n) (x:DeedE) :
  OTri Tryz.prog (storeS 88 (.pointer (a.map fun y=>(y.add (k * 17)).add 0)) (.agg x.vals.toArray)) (OwD a n c l) (fun v=>HP.and (v = .tuple #[]) (OwD a n c (l.set k x))):=by
 obtain ⟨i,z,hi,hz,h1,h2,h3⟩:=infoD'
 have hb:k * 17 + 17 ≤ n * 17:=by omega
 have:=store_ok hi 88 17 a n c (dvs l) (k * 17) 0 (.agg x.vals.toArray) x.vals rfl h2 (Nat.succ_pos _) x.one (by rw [x.len]; omega)
 refine this.weak (fun _ _ h=>h) fun v R h H => ?_
 obtain ⟨e,H⟩:=H
 refine ⟨e,?_⟩
 have e2:dvs (l.set k x)=(dvs l).take (k * 17 + 0) ++ x.vals ++ (dvs l).drop (k * 17 + 0 + x.vals.length):=by
  rw [List.set_eq_take_append_cons_drop,if_pos (by omega)]
  have t1 : ∀ j,dvs (l.take j)=(dvs l).take (j * 17):=fun j=>by
   have ht:l=l.take j ++ l.drop j:=(List.take_append_drop j l).symm
   by_cases hj:j ≤ l.length
   ·conv=>rhs; rw [ht]
    rw [show dvs (l.take j ++ l.drop j)=dvs (l.take j) ++ dvs (l.drop j) from List.flatMap_append,List.take_left' (by rw [dvs_len,List.length_take,Nat.min_eq_left hj])]
   ·rw [List.take_of_length_le (by omega),List.take_of_length_le (by rw [dvs_len]; omega)]
  have t2:dvs (l.drop (k + 1))=(dvs l).drop ((k + 1) * 17):=by
   have ht:l=l.take (k + 1) ++ l.drop (k + 1):=(List.take_append_drop (k + 1) l).symm
   conv=>rhs; rw [ht]
   rw [show dvs (l.take (k + 1) ++ l.drop (k + 1))=dvs (l.take (k + 1)) ++ dvs (l.drop (k + 1)) from List.flatMap_append,List.drop_left' (by rw [dvs_len,List.length_take,Nat.min_eq_left (by omega)])]
  rw [show dvs (l.take k ++ x :: l.drop (k + 1))=dvs (l.take k) ++ (x.vals ++ dvs (l.drop (k + 1))) by simp [dvs],t1,t2,List.append_assoc,x.len,show (k + 1) * 17=k * 17 + 17 by omega]
  rfl
 show (OwC _ _ _ _ _ _).p R h
 rw [e2]
 exact H
set_option maxHeartbeats 2000000 in
theorem deleteD_ok (a:Option Addr) (n c:Nat) (zs:List DeedE) (hn:n ≤ 1000000):Tri Tryz.prog 171 #[.slice a n c,.func (.func 173) #[] #[]] (OwD a n c zs)
  (fun v=>HP.ex fun c'=>HP.and (v = .slice a (zs.filter okD).length c') (OwD a (zs.filter okD).length c' (zs.filter okD))):=by
 refine Tri.fact (φ:=zs.length=n ∧ (n ≠ 0 → a.isSome=true) ∧ (a.map (·.add 0)=a) ∧ n ≤ c) (fun R h H=>⟨OwD.len H,fun hn=>OwC.some H (Nat.pos_of_ne_zero hn),(OwC.at0 H 0 rfl).1,OwC.le H⟩) fun ⟨hl,ha,ha0,hc⟩ => ?_
 refine Tri.weak (A:=HP.sep (OwD a n c zs) HP.tt) ?_ (fun R h H=>HP.sep_tt H) fun _ _ _ h=>h
 refine tri_of_tree (ρ:=[.a a,.n n,.n c,.p (OwD a n c zs),.v (.func (.func 173) #[] #[]),.p HP.tt]) mixed Tryz.func171 tree_jDeleteD ?_
 unfold t_jDeleteD
 simp only [T.den,E.prop,E.den,RX.look,F1.app,F2.app,Uni.int_i,Uni.nat_n,Uni.bool_c,Uni.str_s,Uni.adr_a,Uni.val_v,Uni.hp_p,hden,cden,V.den,W.den,A.den,BR.den,SA.den,FV.den,capV,exs,exP,allP,Cur.app,List.map_cons,List.map_nil,List.cons_append,List.nil_append,List.drop_succ_cons,List.drop_zero,List.length_cons,List.length_nil,Nat.zero_add,Nat.reduceAdd,Int.neg_neg,Bool.not_not,List.append_nil,Nat.add_zero,List.getElem?_cons_zero,List.getElem?_cons_succ,Decidable.not_not,semW_eq,semW_load,semW_store,semW_storeC,ne_eq,Nat.reduceEqDiff,not_false_eq_true]
 refine (indexD_ok a n c zs hl ha hn _ (OwC.rd _ _ _ _ _ _)).weak (fun _ _ h=>h) ?_
 rintro v R h ⟨k0,⟨rfl,hk0⟩,H⟩
 refine ⟨k0,OwD a n c zs,HP.tt,rfl,⟨fun h => .of fun R h' H => ?_,fun h => ?_⟩,H⟩
 ·rcases hk0 with ⟨_,hall⟩ | ⟨j,hj,_⟩
  ·have:zs.filter okD=zs:=List.filter_eq_self.2 hall
   rw [this,hl]
   exact ⟨c,rfl,HP.sep_left H⟩
  ·omega
 clear H
 obtain ⟨j0,rfl,hj0,hb,hj⟩:=hk0.resolve_left (fun e=>h e.1)
 refine ⟨inI64D _ (by omega) (by omega),fun _ => ?_⟩
 have f0:(zs.take j0).filter okD=zs.take j0:=List.filter_eq_self.2 fun x hx=>by
  obtain ⟨i,hi⟩:=List.mem_iff_getElem?.1 hx
  rw [List.getElem?_take] at hi
  split at hi
  ·exact hb i x (by assumption) hi
  ·cases hi
 have fstep : ∀ (j:Nat) (x:DeedE),zs[j]? = some x → (zs.take (j + 1)).filter okD=(zs.take j).filter okD ++ if okD x then [x] else []:=fun j x hx=>by
  have hlt:=(List.getElem?_eq_some_iff.1 hx).1
  rw [List.take_succ_eq_append_getElem hlt,List.filter_append]
  rw [List.getElem?_eq_getElem hlt] at hx
  rw [Option.some.inj hx]
  congr 1
  by_cases e:okD x=true <;> simp [e]
 obtain ⟨x0,hx0⟩ : ∃ x,zs[j0]? = some x:=⟨_,List.getElem?_eq_getElem (by omega)⟩
 refine ⟨fun i j P Q => ∃ (i' j':Nat) (es:List DeedE),i=i' ∧ j=j' ∧ i' < j' ∧ j' ≤ n ∧ es.length=n ∧ es.take i'=(zs.take j').filter okD ∧ es.drop j'=zs.drop j' ∧ P=OwD a n c es ∧ Q=HP.tt,fun _ j _ _=>n - j.toNat,⟨j0,j0 + 1,zs,rfl,by omega,by omega,by omega,hl,?_,rfl,rfl,rfl⟩,?_⟩
 ·rw [fstep j0 x0 hx0,f0,hj x0 hx0]; simp
 rintro _ _ _ _ ⟨i,j,es,rfl,rfl,hij,hjn,hel,ht,hd,rfl,rfl⟩
 refine ⟨fun hlt=>⟨by omega,fun _=>⟨ha (by omega),fun _ => ?_⟩⟩,fun hge => ?_⟩
 ·obtain ⟨x,hx⟩ : ∃ x,zs[j]? = some x:=⟨_,List.getElem?_eq_getElem (by omega)⟩
  have hex:es[j]? = some x:=by
   have:(es.drop j)[0]? = (zs.drop j)[0]? := by rw [hd]
   simpa [hx] using this
  refine ⟨x.id.1,x.id.2.1,x.id.2.2,x.call.kind,x.call.path,x.call.other,x.call.off,x.call.n,x.ca,x.call.data.length,x.cc,x.be,x.en,x.ans.err,x.ans.kind,x.ans.size,x.ans.links,x.da,x.ans.data.length,x.dc,x.na,x.ans.names.length,x.nc,ldD (OwC.rd _ _ _ _ _ _) hex,fun _ => ?_⟩
  have hd':es.drop (j + 1)=zs.drop (j + 1):=by
   have:=congrArg (List.drop 1) hd
   rwa [List.drop_drop,List.drop_drop] at this
  refine (late1_v x (HP.sep HP.tt (OwD a n c es))).weak (fun _ _ h=>h) ?_
  rintro v R h ⟨rfl,H⟩
  refine ⟨_,HP.tt,rfl,⟨fun h1=>⟨by omega,fun _=>⟨by omega,fun _ => ?_⟩⟩,fun h1=>⟨inI64D _ (by omega) (by omega),fun _=>⟨⟨i,j + 1,es,rfl,by omega,by omega,by omega,hel,?_,hd',rfl,rfl⟩,by dsimp only; omega⟩⟩⟩,H⟩
  ·have hok:okD x=true:=by simpa [okD] using h1
   refine (stD a n c es hel i (by omega) x).weak (fun _ _ h=>h) ?_
   rintro v R h ⟨rfl,H⟩
   refine ⟨OwD a n c (es.set i x),rfl,⟨inI64D _ (by omega) (by omega),fun _=>⟨inI64D _ (by omega) (by omega),fun _=>⟨⟨i + 1,j + 1,es.set i x,by omega,by omega,by omega,by omega,by rw [List.length_set]; exact hel,?_,?_,rfl,rfl⟩,by dsimp only; omega⟩⟩⟩,H⟩
   ·rw [fstep j x hx,hok,← ht]
    rw [List.take_succ_eq_append_getElem (by rw [List.length_set]; omega),List.take_set_of_le (Nat.le_refl _)]
    simp
   ·rw [List.drop_set_of_lt (by omega),hd']
  ·have hok:okD x=false:=by simpa [okD] using h1
   rw [fstep j x hx,hok,ht]; simp
 ·obtain rfl:j=n:=by omega
  have hfl:(zs.filter okD).length=i:=by
   have:=congrArg List.length ht
   rw [List.take_of_length_le (by omega:zs.length ≤ j),List.length_take] at this
   omega
  have hft:zs.filter okD=es.take i:=by rw [ht,List.take_of_length_le (by omega:zs.length ≤ j)]
  obtain ⟨inf,hi⟩:=underlying_info undDs
  obtain ⟨i2,z,hi2,_⟩:=infoD'
  have hfin : ∀ ys:List Value,ys.take (i * 17)=(dvs es).take (i * 17) → ∀ R h,(OwC 88 17 a j c ys).p R h → (OwD a i c (zs.filter okD)).p R h:=fun ys hys R h H=>by
   have e1:dvs (zs.filter okD)=ys.take (i * 17):=by
    rw [hys,hft]
    have ht:es=es.take i ++ es.drop i:=(List.take_append_drop i es).symm
    conv=>rhs; rw [ht]
    rw [show dvs (es.take i ++ es.drop i)=dvs (es.take i) ++ dvs (es.drop i) from List.flatMap_append,List.take_left' (by rw [dvs_len,List.length_take]; omega)]
   obtain ⟨h1,h2⟩:=H
   refine ⟨by rw [dvs_len,hfl],?_⟩
   rcases h2 with ⟨q1,q2,q3⟩ | ⟨g,cur,q1,q2,q3,q4,q5,q6⟩
   ·exact .inl ⟨q1,by omega,q3⟩
   ·refine .inr ⟨g,cur,q1,q2,by omega,q4,q5,?_⟩
    rw [e1,← q6,List.take_take,Nat.min_eq_left (by omega)]
  have rest : ∀ (ys:List Value),ys.take (i * 17)=(dvs es).take (i * 17) → ∃ (a':Option Addr) (n' c':Nat),ORead Tryz.prog (sliceS 85 (.slice a j c) none (some (.int .i64 (i:Int))) none) (OwC 88 17 a j c ys) (.slice a' n' c') ∧
    HP.ent (HP.sep (OwC 88 17 a j c ys) HP.tt) (HP.ex fun c3=>HP.and (Value.slice a' n' c' = .slice a (zs.filter okD).length c3) (OwD a (zs.filter okD).length c3 (zs.filter okD))):=fun ys hys=>by
   refine ⟨_,_,_,slice_ok undDs hi2 _ a j c none (some i) none (Nat.zero_le _) (by simp; omega) (Nat.le_refl _) (fun h=>by simp at h),.of fun R h H=>⟨c,?_,?_⟩⟩
   ·simp [hfl,ha0]
   ·rw [hfl]; exact hfin ys hys R _ (HP.sep_left H)
  have sl1:=slice_ok undDs hi2 (OwD a j c es) a j c (some i) none none (by simp; omega) (by simp; omega) (Nat.le_refl _) (fun h=>by simp at h)
  have hci:c ≠ i:=by omega
  have sl2:ORead Tryz.prog (sliceS 85 (.slice a j c) (some (.int .i64 (i:Int))) none none) (OwD a j c es) (.slice (a.map (·.add (i * 17))) (j - i) (c - i)):=by
   have e:(if (none:Option Nat).getD c=(some i).getD 0 then a else a.map (·.add ((some i).getD 0 * szT Tryz.prog 88)))=a.map (·.add (i * 17)):=by
    rw [szDeed,if_neg (by simpa using hci)]; rfl
   rw [e] at sl1
   exact sl1
  refine ⟨_,_,_,by rw [semW_slice]; exact sl2,?_⟩
  rw [semW_clear]
  refine (clear_ok _ a j c (dvs es) i (j - i) (c - i) (by omega)).weak (fun _ _ h=>h) ?_
  rintro v R h ⟨ys,⟨rfl,hys⟩,H⟩
  obtain ⟨a',n',c',h1,h2⟩:=rest ys hys
  refine ⟨_,rfl,⟨a',n',c',by rw [semW_slice]; exact h1,?_⟩,H⟩
  exact h2
end Go.Proofs.YtdieogcemmnaaaaGreatDoor

namespace Go.Proofs
open Go.Shelf
def Tryz.laysSortD_ren:Go.Shelf.Ren:=⟨fun | 6=>174 | 15=>193 | 14=>208 | 28=>227 | 29=>228 | 20=>239 | 21=>240 | 22=>241 | 23=>242 | 24=>243 | 25=>244 | 26=>245 | 27=>246 | 46=>263 | 47=>254 | 48=>255 | 49=>264 | 50=>265 | 57=>273 | n=>n,fun | 22=>85 | 24=>88 | 25=>264 | 3=>3 | 39=>283 | 0=>0 | 53=>243 | 55=>172 | 4=>4 | 46=>303 | 45=>302 | 50=>201 | 5=>5 | 9=>9 | 66=>334 | 70=>338 | 76=>347 | 77=>76 | n=>n,fun | n=>n⟩
theorem Tryz.laysSortD:Go.Proofs.SlLaysF0.n6 Tryz.prog Tryz.laysSortD_ren:={
 mixed:=by kernel_rfl
 f6:=⟨Tryz.f174.name,by decide,Tryz.func174.trans (congrArg some (by kernel_rfl))⟩
 f14:=⟨Tryz.f208.name,by decide,Tryz.func208.trans (congrArg some (by kernel_rfl))⟩
 f15:=Tryz.func193.trans (congrArg some (by kernel_rfl))
 f20:=⟨Tryz.f239.name,by decide,Tryz.func239.trans (congrArg some (by kernel_rfl))⟩
 f21:=⟨Tryz.f240.name,by decide,Tryz.func240.trans (congrArg some (by kernel_rfl))⟩
 f22:=⟨Tryz.f241.name,by decide,Tryz.func241.trans (congrArg some (by kernel_rfl))⟩
 f23:=⟨Tryz.f242.name,by decide,Tryz.func242.trans (congrArg some (by kernel_rfl))⟩
 f24:=⟨Tryz.f243.name,by decide,Tryz.func243.trans (congrArg some (by kernel_rfl))⟩
 f25:=⟨Tryz.f244.name,by decide,Tryz.func244.trans (congrArg some (by kernel_rfl))⟩
 f26:=⟨Tryz.f245.name,by decide,Tryz.func245.trans (congrArg some (by kernel_rfl))⟩
 f27:=⟨Tryz.f246.name,by decide,Tryz.func246.trans (congrArg some (by kernel_rfl))⟩
 f28:=Tryz.func227.trans (congrArg some (by kernel_rfl))
 f29:=Tryz.func228.trans (congrArg some (by kernel_rfl))
 f46:=⟨Tryz.f263.name,by decide,Tryz.func263.trans (congrArg some (by kernel_rfl))⟩
 f47:=Tryz.func254.trans (congrArg some (by kernel_rfl))
 f48:=Tryz.func255.trans (congrArg some (by kernel_rfl))
 f49:=⟨Tryz.f264.name,by decide,Tryz.func264.trans (congrArg some (by kernel_rfl))⟩
 f50:=⟨Tryz.f265.name,by decide,Tryz.func265.trans (congrArg some (by kernel_rfl))⟩
 f57:=⟨Tryz.f273.name,by decide,Tryz.func273.trans (congrArg some (by kernel_rfl))⟩
 t0:=Tryz.underlying0
 a0:=Tryz.isAgg0
 z0:=Tryz.sizeOf0
 v0:=Tryz.zeroValue0
 t3:=Tryz.underlying3
 a3:=Tryz.isAgg3
 z3:=Tryz.sizeOf3
 v3:=Tryz.zeroValue3
 t4:=Tryz.underlying4
 a4:=Tryz.isAgg4
 z4:=Tryz.sizeOf4
 v4:=Tryz.zeroValue4
 t5:=Tryz.underlying5
 a5:=Tryz.isAgg5
 z5:=Tryz.sizeOf5
 v5:=Tryz.zeroValue5
 t9:=Tryz.underlying9
 a9:=Tryz.isAgg9
 z9:=Tryz.sizeOf9
 v9:=Tryz.zeroValue9
 t22:=Tryz.underlying85
 a22:=Tryz.isAgg85
 z22:=Tryz.sizeOf85
 v22:=Tryz.zeroValue85
 t25:=Tryz.underlying264
 a25:=Tryz.isAgg264
 z25:=Tryz.sizeOf264
 v25:=Tryz.zeroValue264
 t39:=Tryz.underlying283
 a39:=Tryz.isAgg283
 z39:=Tryz.sizeOf283
 v39:=Tryz.zeroValue283
 t45:=Tryz.underlying302
 a45:=Tryz.isAgg302
 z45:=Tryz.sizeOf302
 v45:=Tryz.zeroValue302
 t46:=Tryz.underlying303
 a46:=Tryz.isAgg303
 z46:=Tryz.sizeOf303
 v46:=Tryz.zeroValue303
 t50:=Tryz.underlying201
 a50:=Tryz.isAgg201
 z50:=Tryz.sizeOf201
 v50:=Tryz.zeroValue201
 t53:=Tryz.underlying243
 a53:=Tryz.isAgg243
 z53:=Tryz.sizeOf243
 v53:=Tryz.zeroValue243
 t55:=Tryz.underlying172
 a55:=Tryz.isAgg172
 z55:=Tryz.sizeOf172
 v55:=Tryz.zeroValue172
 t66:=Tryz.underlying334
 a66:=Tryz.isAgg334
 z66:=Tryz.sizeOf334
 v66:=Tryz.zeroValue334
 t70:=Tryz.underlying338
 a70:=Tryz.isAgg338
 z70:=Tryz.sizeOf338
 v70:=Tryz.zeroValue338
 t76:=Tryz.underlying347
 a76:=Tryz.isAgg347
 z76:=Tryz.sizeOf347
 v76:=Tryz.zeroValue347
 t77:=Tryz.underlying76
 a77:=Tryz.isAgg76
 z77:=Tryz.sizeOf76
 v77:=Tryz.zeroValue76 }
end Go.Proofs

namespace Go.Proofs.YtdieogcemmnaaaaGreatDoor
open Go.Proofs.YtdieogcemmnaaaaGreatDoor RX Go.Sort
set_option maxRecDepth 100000
instance:Inhabited DeedE:=⟨⟨(0,0,0),⟨0,[],[],0,0,[]⟩,none,0,0,0,⟨0,0,0,0,[],[]⟩,none,0,none,0⟩⟩
theorem DeedE.form (x:DeedE) : ∃ a0 a1 a2 a3 a4 a5 a6 a7 a8 b0 b1 b2 b3 b4 b5,x.vals=[a0,a1,a2,a3,a4,a5,a6,a7,a8,.int .i64 x.be,.int .i64 x.en,b0,b1,b2,b3,b4,b5]:=⟨_,_,_,_,_,_,_,_,_,_,_,_,_,_,_,rfl⟩
def cfB (x y:DeedE):Int:=Lib.compareInt x.be y.be
def cfE (x y:DeedE):Int:=Lib.compareInt x.en y.en
theorem lt_cmp (a b:Int):decide (Lib.compareInt a b < 0)=decide (a < b):=by
 unfold Lib.compareInt
 by_cases h1:a < b
 ·simp [h1]
 ·by_cases h2:b < a <;> simp [h1,h2]
theorem ltB (x y:DeedE):ltOf cfB x y=decide (x.be < y.be):=lt_cmp _ _
theorem ltE (x y:DeedE):ltOf cfE x y=decide (x.en < y.en):=lt_cmp _ _
theorem swoB:SWO (ltOf cfB) where
 irrefl x:=by rw [ltB]; simp
 trans x y z h1 h2:=by rw [ltB] at *; simp at *; omega
 ntrans x y z h1 h2:=by rw [ltB] at *; simp at *; omega
theorem swoE:SWO (ltOf cfE) where
 irrefl x:=by rw [ltE]; simp
 trans x y z h1 h2:=by rw [ltE] at *; simp at *; omega
 ntrans x y z h1 h2:=by rw [ltE] at *; simp at *; omega
set_option maxHeartbeats 1000000 in
theorem late2_calls (x y:DeedE) (W:World):Calls Tryz.prog 175 #[.agg x.vals.toArray,.agg y.vals.toArray] W fun e w'=>e = .returned (.int .i64 (cfB x y)) ∧ ∃ q os',w'=grow (W.drewN q) os':=by
 have hcon:=fun W'=>Tryz.cmp_Compare_int x.be y.be W'
 unfold cfB
 generalize Lib.compareInt x.be y.be=r at hcon ⊢
 obtain ⟨a0,a1,a2,a3,a4,a5,a6,a7,a8,b0,b1,b2,b3,b4,b5,e1⟩:=x.form
 obtain ⟨c0,c1,c2,c3,c4,c5,c6,c7,c8,d0,d1,d2,d3,d4,d5,e2⟩:=y.form
 rw [e1,e2]
 generalize x.be=xb at *
 generalize y.be=yb at *
 generalize x.en=xe at *
 generalize y.en=ye at *
 clear e1 e2
 go_enter Tryz.func175,Tryz.ntmps175
 go_wp2_with (go_at_call 176; refine (hcon _).mono ?_; rintro e w' ⟨rfl,rfl⟩)
 go_ret
 exact ⟨rfl,0,_,by rw [alloc_eq_grow,alloc_eq_grow,grow_grow]; rfl⟩
set_option maxHeartbeats 1000000 in
theorem late3_calls (x y:DeedE) (W:World):Calls Tryz.prog 177 #[.agg x.vals.toArray,.agg y.vals.toArray] W fun e w'=>e = .returned (.int .i64 (cfE x y)) ∧ ∃ q os',w'=grow (W.drewN q) os':=by
 have hcon:=fun W'=>Tryz.cmp_Compare_int x.en y.en W'
 unfold cfE
 generalize Lib.compareInt x.en y.en=r at hcon ⊢
 obtain ⟨a0,a1,a2,a3,a4,a5,a6,a7,a8,b0,b1,b2,b3,b4,b5,e1⟩:=x.form
 obtain ⟨c0,c1,c2,c3,c4,c5,c6,c7,c8,d0,d1,d2,d3,d4,d5,e2⟩:=y.form
 rw [e1,e2]
 generalize x.be=xb at *
 generalize y.be=yb at *
 generalize x.en=xe at *
 generalize y.en=ye at *
 clear e1 e2
 go_enter Tryz.func177,Tryz.ntmps177
 go_wp2_with (go_at_call 176; refine (hcon _).mono ?_; rintro e w' ⟨rfl,rfl⟩)
 go_ret
 exact ⟨rfl,0,_,by rw [alloc_eq_grow,alloc_eq_grow,grow_grow]; rfl⟩
theorem isAggD : ∀ w,(isAgg 88).run Tryz.prog w = .ok true w:=fun w=>by
 obtain ⟨d,hd⟩:=undDeed
 rw [RX.run_isAgg hd,aggDeed]
theorem sizeOfD : ∀ w,(Go.sizeOf 88).run Tryz.prog w = .ok 17 w:=fun w=>by
 obtain ⟨d,hd⟩:=undDeed
 obtain ⟨i,hi⟩:=underlying_info hd
 rw [RX.run_sizeOf hi,szDeed]
theorem flat_flatK (zs:List DeedE):(flatK DeedE.vals 17 zs.toArray).toList=zs.flatMap DeedE.vals:=by
 refine List.ext_getElem? fun t => ?_
 have hlen:(zs.flatMap DeedE.vals).length=zs.length * 17:=flat_lenL DeedE.vals 17 DeedE.len zs
 by_cases ht:t < zs.length * 17
 ·have hq:t / 17 < zs.length:=by omega
  have hr:t % 17 < 17:=Nat.mod_lt _ (by omega)
  have h1:=flat_getL DeedE.vals 17 DeedE.len zs (t / 17) (t % 17) zs[t / 17] (List.getElem?_eq_getElem hq) hr
  rw [show t / 17 * 17 + t % 17=t by omega] at h1
  rw [h1]
  have h2:=get_flatK DeedE.vals 17 zs.toArray t (by simpa using ht)
  have hs:t < (flatK DeedE.vals 17 zs.toArray).size:=by simpa using ht
  rw [Array.getElem?_toList,Array.getElem?_eq_getElem hs]
  rw [getElem!_pos (flatK DeedE.vals 17 zs.toArray) t hs] at h2
  rw [h2]
  have e3:zs.toArray[t / 17]! = zs[t / 17]:=by simp [hq]
  rw [e3]
  have h4:t % 17 < zs[t / 17].vals.length:=by rw [DeedE.len]; exact hr
  rw [List.getElem?_eq_getElem h4,getElem!_pos zs[t / 17].vals (t % 17) h4]
 ·rw [List.getElem?_eq_none (by simp; omega),List.getElem?_eq_none (by omega)]
theorem sortD_ok {g:Nat} {cf:DeedE → DeedE → Int} (hO:SWO (ltOf cf)) (hg : ∃ fn,Tryz.prog.funcs[g]? = some fn ∧ fn.body.isNone=false ∧ (fn.name == "runtime.NumGoroutine")=false)
  (hc : ∀ (x y:DeedE) (W:World),Calls Tryz.prog g #[.agg x.vals.toArray,.agg y.vals.toArray] W fun e w'=>e = .returned (.int .i64 (cf x y)) ∧ ∃ q os',w'=grow (W.drewN q) os')
  (a:Option Addr) (c:Nat) (zs:List DeedE) (hz:zs.length ≤ 1000000) :
  Tri Tryz.prog 174 #[.slice a zs.length c,.func (.func g) #[] #[]] (OwC 88 17 a zs.length c (zs.flatMap DeedE.vals))
   (fun v=>HP.ex fun ys:List DeedE=>HP.and (v = .tuple #[] ∧ ys.Perm zs ∧ ys.Pairwise (fun x y=>ltOf cf y x=false)) (OwC 88 17 a ys.length c (ys.flatMap DeedE.vals))):=by
 rintro w R h F s ⟨hl,hx⟩
 by_cases hz0:zs.length=0
 ·have hnil:zs=[]:=List.eq_nil_of_length_eq_zero hz0
  subst hnil
  refine (AnyF.slices_SortFunc_none Tryz.laysSortD a c _ w).mono fun ed w' ⟨he,hw⟩=>⟨_,he,by rw [hw]; exact Same.refl _,R,h,PH.le.refl _,by rw [hw]; exact s,[],⟨rfl,List.Perm.refl _,List.Pairwise.nil⟩,?_⟩
  exact ⟨hl,hx⟩
 rcases hx with ⟨_,h2,_⟩ | ⟨b,cur,rfl,hb,q1,q2,q3,q4⟩
 ·exact absurd h2 hz0
 have hw:=s.oh _ _ hb
 have hlt:b < w.heap.size:=by rcases Nat.lt_or_ge b w.heap.size with h | h; exact h; rw [Array.getElem?_eq_none h] at hw; cases hw
 have hH:HoldsK DeedE.vals 17 w b 0 zs.toArray:=fun j hj=>by
  have hj':j < zs.length * 17:=by simpa using hj
  have e1:(flatK DeedE.vals 17 zs.toArray)[j]? = cur[j]? := by
   have h3:(flatK DeedE.vals 17 zs.toArray).toList[j]? = (cur.toList.take (zs.length * 17))[j]? := by rw [flat_flatK,q4]
   rw [List.getElem?_take,if_pos hj'] at h3
   simpa using h3
  refine ⟨?_,?_⟩
  ·rw [Nat.zero_add,cell_at hw,← e1,Array.getElem?_eq_getElem hj,getElem!_pos (flatK DeedE.vals 17 zs.toArray) j hj]; rfl
  ·simp [World.frozen?,hw]
 have eg : ∀ args w,(callFunc g args).run Tryz.prog w = .ok (.enter g args) w:=by
  obtain ⟨fn,h1,h2,h3⟩:=hg
  obtain ⟨bd,hbd⟩ : ∃ bd,fn.body=some bd:=by
   cases hh:fn.body with
   | none=>rw [hh] at h2; cases h2
   | some y=>exact ⟨y,rfl⟩
  exact enters_of h1 h3 hbd
 have hcmp:CmpLays Tryz.prog g #[] DeedE.vals 17 cf b 0 zs.toArray.size w:=fun m os dk _ x y=>hc x y _
 have hcon:=AnyQ.slices_SortFunc Tryz.laysSortD 17 isAggD sizeOfD DeedE.vals DeedE.len DeedE.one cf hO g #[] b 0 c zs.toArray w eg hcmp hH hlt (by simp; omega)
 rw [List.size_toArray] at hcon
 refine hcon.mono fun ed w' ⟨he,d',n,os,hp,hs,hw'⟩ => ?_
 obtain ⟨hps,hpp⟩:d'.size=zs.length ∧ d'.toList.Perm zs:=by
  obtain ⟨p1,_,p3⟩:=hp
  have p1':d'.size=zs.length:=by simpa using p1
  refine ⟨p1',?_⟩
  rw [Array.toList_extract,Array.toList_extract] at p3
  simp only [List.extract_eq_take_drop,List.drop_zero,Nat.sub_zero] at p3
  rw [List.take_of_length_le (by simp [p1']),List.take_of_length_le (by simp)] at p3
  exact p3
 have hpw:d'.toList.Pairwise (fun x y=>ltOf cf y x=false):=by
  rw [List.pairwise_iff_getElem]
  intro i j hi hj hij
  have hi':i < d'.size:=by simpa using hi
  have hj':j < d'.size:=by simpa using hj
  have:=hs i j (Nat.zero_le _) hij (by omega)
  rw [getElem!_pos d' j hj',getElem!_pos d' i hi'] at this
  simpa using this
 have hheap : ∀ k,k < w.heap.size → w'.heap[k]? = if b=k then (w.heap[k]?).map (onCells (putCells id 0 (flatK DeedE.vals 17 d'))) else w.heap[k]? := fun k hk=>by
  rw [hw']
  simp only [sortWorldK,putRowK,grow,putRow,mapBlock,ahead]
  rw [Array.getElem?_append_left (by simpa using hk),Array.getElem?_modify]
  rfl
 have hg':w'.heap[b]? = some (.cells (putCells id 0 (flatK DeedE.vals 17 d') cur) 88 (0,0)):=by
  rw [hheap b hlt,if_pos rfl,hw]; rfl
 have hgrown:w.grownBy w' (some b):=by
  refine ⟨by rw [hw']; rfl,by rw [hw']; rfl,by rw [hw']; rfl,by rw [hw']; simp [sortWorldK,putRowK,grow,putRow,mapBlock,ahead],fun k hk hne => ?_⟩
  rw [hheap k hk,if_neg (fun e=>hne (by rw [e]))]
 have s2:=Sat.grown s (row:=some b) (fun g2 hg2=>by cases hg2; rw [hb]; simp) hgrown hg' (.inl rfl)
 refine ⟨_,he,⟨hgrown.os,hgrown.tape,hgrown.output,hgrown.size⟩,R,_,PH.le.refl _,s2,d'.toList,⟨rfl,hpp,hpw⟩,?_,?_⟩
 ·exact flat_lenL DeedE.vals 17 DeedE.len d'.toList
 have hdl:d'.toList.length=zs.length:=by simp [hps]
 rw [hdl]
 refine .inr ⟨b,_,rfl,PH.one_self _ _,q1,q2,?_,?_⟩
 ·simp [putCells,q3]
 ·have hsz:zs.length * 17 ≤ cur.size:=by rw [q3]; exact Nat.mul_le_mul_right _ q1
  have hf:=flat_flatK d'.toList
  rw [Array.toArray_toList] at hf
  rw [← hf]
  refine List.ext_getElem? fun j => ?_
  rw [List.getElem?_take]
  have hfs:(flatK DeedE.vals 17 d').size=zs.length * 17:=by simp [hps]
  by_cases hj:j < zs.length * 17
  ·rw [if_pos hj]
   simp [putCells,hfs,hj,show j < cur.size by omega]
  ·rw [if_neg hj,List.getElem?_eq_none (by rw [Array.length_toList,hfs]; omega)]
end Go.Proofs.YtdieogcemmnaaaaGreatDoor

namespace Go.Proofs.YtdieogcemmnaaaaGreatDoor
set_option linter.unusedSimpArgs false
set_option linter.unusedVariables false
open Go.Proofs.YtdieogcemmnaaaaGreatDoor RX Go.Sort
set_option maxRecDepth 100000
def FMl (r:Nat) (f:IdM → Option Nat) (l:AL IdM) (c:Nat):HP:=HP.and (MapI l c ∧ ∀ k,alFind k l=(f k).map fun n:Nat => .int .i64 (n:Int)) (HP.one r (mapObj idV l c))
theorem undFM:Tryz.prog.underlying 197=some (.map 57 3):=by kernel_rfl
theorem infoI1 : ∃ i,Tryz.prog.info? 3=some i ∧ i.zero=some (.int .i64 0):=by
 obtain ⟨i,hi,h1,_⟩:=info_parts infoInt
 exact ⟨i,hi,h1⟩
def fz (f:IdM → Option Nat) (k:IdM):Int:=(((f k).getD 0:Nat):Int)
theorem lookF {r c:Nat} {f:IdM → Option Nat} {l:AL IdM} (hf : ∀ k,alFind k l=(f k).map fun n:Nat => .int .i64 (n:Int)) (k:IdM):ORead Tryz.prog (lookS 197 (.map (some r)) (idV k) false) (FMl r f l c) (.int .i64 (fz f k)):=by
 obtain ⟨i,hi,hz⟩:=infoI1
 have:=look_ok (c:=c) (l:=l) (r:=r) idK undFM hi hz k false (A:=FMl r f l c) fun R h H=>H.2
 rw [hf] at this
 unfold fz
 cases hh:f k <;> rw [hh] at this <;> exact this
theorem lookF2 {r c:Nat} {f:IdM → Option Nat} {l:AL IdM} (hf : ∀ k,alFind k l=(f k).map fun n:Nat => .int .i64 (n:Int)) (k:IdM):ORead Tryz.prog (lookS 197 (.map (some r)) (idV k) true) (FMl r f l c) (.tuple #[.int .i64 (fz f k),.bool (f k).isSome]):=by
 obtain ⟨i,hi,hz⟩:=infoI1
 have:=look_ok (c:=c) (l:=l) (r:=r) idK undFM hi hz k true (A:=FMl r f l c) fun R h H=>H.2
 rw [hf] at this
 unfold fz
 cases hh:f k <;> rw [hh] at this <;> exact this
structure DeedRd (S:HP) (a:Option Addr) (n:Nat) (es:List DeedE):Prop where
 len:es.length=n
 is:n ≠ 0 → a.isSome=true
 rd:Rd S a (dvs es)
 cd : ∀ x ∈ es,RdL S x.ca x.call.data.length (x.call.data.map u8v)
 ar : ∀ x ∈ es,∀ R h,S.p R h → (RoB x.da x.ans.data.length x.ans.data).p R h ∧ (RoS x.na x.ans.names.length x.ans.names).p R h
 nb : ∀ x ∈ es,x.ans.names.length ≤ 1000000
theorem ldD3 {S:HP} {a:Option Addr} {zs:List DeedE} (r:Rd S a (dvs zs)) {k:Nat} {x:DeedE} (hk:zs[k]? = some x):ORead Tryz.prog (loadS 57 (.pointer (a.map fun y=>(y.add (k * 17)).add 0))) S (idV x.id):=by
 refine loadN_ok (vs:=[.int .i64 x.id.1,.int .i64 x.id.2.1,.int .i64 x.id.2.2]) undIdT (by kernel_rfl) r (k:=k * 17) (off:=0) (by kernel_rfl) (Nat.succ_pos _) fun j v hj => ?_
 have hlt:j < 3:=(List.getElem?_eq_some_iff.1 hj).1
 rw [Nat.add_zero,dvs_get hk (by omega),← hj]
 match j,hlt with
 | 0,_=>rfl
 | 1,_=>rfl
 | 2,_=>rfl
theorem ldDE {S:HP} {a:Option Addr} {zs:List DeedE} (r:Rd S a (dvs zs)) {k:Nat} {x:DeedE} (hk:zs[k]? = some x):ORead Tryz.prog (loadS 3 (.pointer (a.map fun y=>(y.add (k * 17)).add 10))) S (.int .i64 x.en) :=
 load1_ok undIb aggI szI r (k:=k * 17) (off:=10) (by rw [dvs_get hk (by decide)]; rfl)
theorem fgoL2:Fgo Tryz.prog 175:=⟨_,Tryz.func175,by kernel_rfl,by kernel_rfl⟩
theorem fgoL3:Fgo Tryz.prog 177:=⟨_,Tryz.func177,by kernel_rfl,by kernel_rfl⟩
theorem fgoL2x : ∃ fn,Tryz.prog.funcs[175]? = some fn ∧ fn.body.isNone=false ∧ (fn.name == "runtime.NumGoroutine")=false:=fgoL2
theorem fgoL3x : ∃ fn,Tryz.prog.funcs[177]? = some fn ∧ fn.body.isNone=false ∧ (fn.name == "runtime.NumGoroutine")=false:=fgoL3
theorem pw_get {α:Type} {p:α → α → Prop} {l:List α} (h:l.Pairwise p) {i j:Nat} {x y:α} (hi:l[i]? = some x) (hj:l[j]? = some y) (hij:i < j):p x y:=by
 rw [List.pairwise_iff_getElem] at h
 obtain ⟨h1,rfl⟩:=List.getElem?_eq_some_iff.1 hi
 obtain ⟨h2,rfl⟩:=List.getElem?_eq_some_iff.1 hj
 exact h i j h1 h2 hij
structure LateI (f:IdM → Option Nat) (E:List DeedE) (d:Nat) (last:Int):Prop where
 le:d ≤ E.length
 up : ∀ (j:Nat) (e:DeedE),j < d → E[j]? = some e → fz f e.id ≤ last
 is:last = -1 ∨ ∃ (j:Nat) (e:DeedE),j < d ∧ E[j]? = some e ∧ last=fz f e.id
def LateC (I E:List DeedE) (k d:Nat):Prop := ∀ (j:Nat) (e:DeedE),j < d → E[j]? = some e → ∃ (i:Nat) (x:DeedE),i < k ∧ I[i]? = some x ∧ e.en < x.be
def LateN (f:IdM → Option Nat) (I E:List DeedE) (k:Nat):Prop := ∀ (i:Nat) (x:DeedE),i < k → I[i]? = some x → ∀ e ∈ E,e.en < x.be → ¬ fz f x.id < fz f e.id
def inF (f:IdM → Option Nat) (x:DeedE):Bool:=(f x.id).isSome
theorem filter_stepJ {p:DeedE → Bool} {l:List DeedE} {k:Nat} {x:DeedE} (hx:l[k]? = some x):(l.take (k + 1)).filter p=(l.take k).filter p ++ if p x then [x] else []:=by
 have hlt:=(List.getElem?_eq_some_iff.1 hx).1
 rw [List.take_succ_eq_append_getElem hlt,List.filter_append]
 rw [List.getElem?_eq_getElem hlt] at hx
 rw [Option.some.inj hx]
 congr 1
 by_cases e:p x=true <;> simp [e]
theorem Tri.preL {P:Program} {f:FuncId} {args:Array Value} {A A':HP} {B:Value → HP} (t:Tri P f args A B) (e:HP.ent A' A):Tri P f args A' B:=t.conseq (K:=HP.tt) (e.trans (.of fun _ _ H=>HP.sep_tt H)) fun v => .of fun _ _ H=>HP.sep_left H
theorem OTri.preL {P:Program} {s:Sem Next} {A A':HP} {B:Value → HP} (t:OTri P s A B) (e:HP.ent A' A):OTri P s A' B:=t.conseq (K:=HP.tt) (e.trans (.of fun _ _ H=>HP.sep_tt H)) fun v => .of fun _ _ H=>HP.sep_left H
set_option maxHeartbeats 4000000 in
theorem late_ok (r:Nat) (f:IdM → Option Nat) (Q:HP) (q0 : ∀ k,ORead Tryz.prog (lookS 197 (.map (some r)) (idV k) false) Q (.int .i64 (fz f k))) (q1 : ∀ k,ORead Tryz.prog (lookS 197 (.map (some r)) (idV k) true) Q (.tuple #[.int .i64 (fz f k),.bool (f k).isSome])) (a:Option Addr) (n c:Nat) (es:List DeedE) (S:HP) (dr:DeedRd S a n es) (hn:n ≤ 100000) :
  Tri Tryz.prog 116 #[.map (some r),.slice a n c] (HP.sep Q S) (fun v=>HP.and (v = .bool (lateS f (es.map DeedE.p))) (HP.sep Q S)):=by
 refine tri_of_tree (ρ:=[.n r,.p Q,.a a,.n n,.n c,.p S]) mixed Tryz.func116 tree_jLate ?_
 unfold t_jLate
 simp only [T.den,E.prop,E.den,RX.look,F1.app,F2.app,Uni.int_i,Uni.nat_n,Uni.bool_c,Uni.str_s,Uni.adr_a,Uni.val_v,Uni.hp_p,hden,cden,V.den,W.den,A.den,BR.den,SA.den,FV.den,capV,exs,exP,allP,Cur.app,List.map_cons,List.map_nil,List.cons_append,List.nil_append,List.drop_succ_cons,List.drop_zero,List.length_cons,List.length_nil,Nat.zero_add,Nat.reduceAdd,Int.neg_neg,Bool.not_not,List.append_nil,Nat.add_zero,List.getElem?_cons_zero,List.getElem?_cons_succ,Decidable.not_not,semW_eq,semW_load,semW_append,semW_lookup,semW_lookupC,ne_eq,Nat.reduceEqDiff,not_false_eq_true]
 have hl:=dr.len
 refine ⟨fun a1 n1 c1 P i => ∃ k:Nat,i=k ∧ k ≤ n ∧ n1=((es.take k).filter (inF f)).length ∧ HP.ent P (OwD a1 n1 c1 ((es.take k).filter (inF f))),fun _ _ _ _ i=>n - i.toNat,⟨0,rfl,Nat.zero_le _,rfl,.of fun R h H=>OwC.nil _ _ R h⟩,?_⟩
 rintro a1 _ c1 P _ ⟨k,rfl,hk,rfl,hP⟩
 refine ⟨fun hlt=>⟨by omega,fun _=>⟨dr.is (by omega),fun _ => ?_⟩⟩,fun hge => ?_⟩
 ·obtain ⟨x,hx⟩ : ∃ x,es[k]? = some x:=⟨_,List.getElem?_eq_getElem (by omega)⟩
  have nxt:IntKind.i64.min ≤ (k:Int) + 1 ∧ (k:Int) + 1 ≤ IntKind.i64.max:=inI64D _ (by omega) (by omega)
  refine ⟨x.id.1,x.id.2.1,x.id.2.2,x.call.kind,x.call.path,x.call.other,x.call.off,x.call.n,x.ca,x.call.data.length,x.cc,x.be,x.en,x.ans.err,x.ans.kind,x.ans.size,x.ans.links,x.da,x.ans.data.length,x.dc,x.na,x.ans.names.length,x.nc,ldD dr.rd hx,fun _ => ?_⟩
  refine ⟨_,_,q1 x.id,⟨fun h1=>fun b => ?_,fun h1=>⟨nxt,fun _=>⟨⟨k + 1,by omega,by omega,?_,?_⟩,by dsimp only; omega⟩⟩⟩⟩
  ·have hin:inF f x=true:=h1
   have hlen:((es.take k).filter (inF f)).length ≤ k:=Nat.le_trans (List.length_filter_le _ _) (by rw [List.length_take]; omega)
   refine OTri.preL ((appD a1 _ c1 _ (HP.sep (HP.one b (.cells x.vals.toArray 88 (0,0))) S) ⟨b,0,none⟩ 1 1 [x] (Rd.left (by simpa [dvs] using one_rd b x.vals.toArray 88)) rfl (by omega)).weak (fun _ _ h=>h) ?_) (hP.sep _)
   rintro v R h ⟨a',c',rfl,H⟩
   refine ⟨a',_,c',_,rfl,⟨nxt,fun _=>⟨⟨k + 1,by omega,by omega,?_,?_⟩,by dsimp only; omega⟩⟩,H⟩
   ·rw [filter_stepJ hx,hin]; simp
   ·rw [filter_stepJ hx,hin]; exact .refl _
  ·have hin:inF f x=false:=by simpa [inF] using h1
   rw [filter_stepJ hx,hin]; simp
  ·have hin:inF f x=false:=by simpa [inF] using h1
   rw [filter_stepJ hx,hin]; simpa using hP
 obtain rfl:k=n:=by omega
 rw [List.take_of_length_le (by omega)] at hP ⊢
 generalize hI0:es.filter (inF f)=I0 at hP ⊢
 have hI0l:I0.length ≤ k:=by rw [← hI0,← hl]; exact List.length_filter_le _ _
 refine Tri.preL ((cloneD_ok a1 _ c1 I0 (by omega)).weak (fun _ _ h=>h) ?_) hP
 rintro v R h ⟨a2,c2,rfl,H⟩
 refine ⟨a2,_,c2,_,_,rfl,?_,H⟩
 clear H
 refine (deleteD_ok a2 _ c2 I0 (by omega)).weak (fun _ _ h=>h) ?_
 rintro v R h ⟨c3,rfl,H⟩
 refine ⟨a2,_,c3,_,HP.tt,rfl,?_,HP.sep_tt H⟩
 clear H
 refine (sortD_ok swoB fgoL2x late2_calls a1 c1 I0 (by omega)).weak (fun _ _ h=>h) ?_
 rintro v R h ⟨I,⟨rfl,pI,sI⟩,H⟩
 have haI:I.length ≠ 0 → a1.isSome=true:=fun h=>OwC.some H (Nat.pos_of_ne_zero h)
 refine ⟨_,rfl,?_,H⟩
 clear H
 have hEl:(I0.filter okD).length ≤ I0.length:=List.length_filter_le _ _
 refine (sortD_ok swoE fgoL3x late3_calls a2 c3 (I0.filter okD) (by omega)).weak (fun _ _ h=>h) ?_
 rintro v R h ⟨E,⟨rfl,pE,sE'⟩,H⟩
 have haE:E.length ≠ 0 → a2.isSome=true:=fun h=>OwC.some H (Nat.pos_of_ne_zero h)
 refine ⟨_,rfl,?_,H⟩
 clear H
 have lI:=pI.length_eq
 have lE:=pE.length_eq
 have mI : ∀ x,x ∈ I ↔ x ∈ es ∧ (f x.id).isSome=true:=fun x=>by rw [pI.mem_iff,← hI0,List.mem_filter]; rfl
 have mE : ∀ x,x ∈ E ↔ x ∈ I ∧ x.p.ansd=true:=fun x=>by rw [pE.mem_iff,List.mem_filter,pI.mem_iff]; rfl
 have soI : ∀ {i j:Nat} {x y:DeedE},I[i]? = some x → I[j]? = some y → i < j → x.be ≤ y.be:=fun hi hj hij=>by
  have:=pw_get sI hi hj hij
  rw [ltB,decide_eq_false_iff_not] at this
  omega
 have soE : ∀ {i j:Nat} {x y:DeedE},E[i]? = some x → E[j]? = some y → i < j → x.en ≤ y.en:=fun hi hj hij=>by
  have:=pw_get sE' hi hj hij
  rw [ltE,decide_eq_false_iff_not] at this
  omega
 have rdI:Rd (OwC 88 17 a1 I.length c1 (dvs I)) a1 (dvs I):=OwC.rd _ _ _ _ _ _
 have rdE:Rd (OwC 88 17 a2 E.length c3 (dvs E)) a2 (dvs E):=OwC.rd _ _ _ _ _ _
 clear hP
 refine ⟨fun last dn is i => ∃ (k' d:Nat),i=k' ∧ dn=d ∧ is=false ∧ k' ≤ I.length ∧ LateI f E d last ∧ LateC I E k' d ∧ LateN f I E k',fun _ _ _ i=>I.length - i.toNat,⟨0,0,rfl,rfl,rfl,Nat.zero_le _,⟨Nat.zero_le _,fun j e hj=>absurd hj (by omega),.inl rfl⟩,fun j e hj=>absurd hj (by omega),fun i x hi=>absurd hi (by omega)⟩,?_⟩
 rintro last _ _ _ ⟨k',d,rfl,rfl,rfl,hk',li,lcc,ln⟩
 refine ⟨fun hlt=>⟨by omega,fun _=>⟨haI (by omega),fun _ => ?_⟩⟩,fun hge => .of fun R h H=>⟨?_,HP.sep_mono H (fun _ h=>h) fun _ h=>h⟩⟩
 ·obtain ⟨x,hx⟩ : ∃ x,I[k']? = some x:=⟨_,List.getElem?_eq_getElem (by omega)⟩
  refine ⟨x.id.1,x.id.2.1,x.id.2.2,x.call.kind,x.call.path,x.call.other,x.call.off,x.call.n,x.ca,x.call.data.length,x.cc,x.be,x.en,x.ans.err,x.ans.kind,x.ans.size,x.ans.links,x.da,x.ans.data.length,x.dc,x.na,x.ans.names.length,x.nc,ldD rdI hx,fun _ => ?_⟩
  refine ⟨fun last dn => ∃ d:Nat,dn=d ∧ LateI f E d last ∧ (∀ (j:Nat) (e:DeedE),j < d → E[j]? = some e → e.en < x.be),fun _ dn=>E.length - dn.toNat,⟨d,rfl,li,fun j e hj he => ?_⟩,?_⟩
  ·obtain ⟨i,y,hi,hy,h1⟩:=lcc j e hj he
   have:=soI hy hx hi
   omega
  clear li lcc
  rintro last _ ⟨d,rfl,li,lx⟩
  refine ⟨fun cc=>(cc=true ↔ ∃ e,E[d]? = some e ∧ e.en < x.be),?_,?_⟩
  ·refine ⟨fun hlt2=>⟨by omega,fun _=>⟨haE (by omega),fun _ => ?_⟩⟩,fun hge => ?_⟩
   ·obtain ⟨e,he⟩ : ∃ e,E[d]? = some e:=⟨_,List.getElem?_eq_getElem (by omega)⟩
    have key:(decide (e.en < x.be)=true ↔ ∃ e,E[d]? = some e ∧ e.en < x.be):=by
     rw [decide_eq_true_eq]
     exact ⟨fun h=>⟨e,he,h⟩,fun ⟨e',he',h⟩=>by rw [he] at he'; cases he'; exact h⟩
    exact ⟨e.en,ldDE rdE he,key⟩
   ·have key:(false=true ↔ ∃ e,E[d]? = some e ∧ e.en < x.be):=⟨fun h=>(by cases h),fun ⟨e,he,_⟩=>by
     have:=(List.getElem?_eq_some_iff.1 he).1
     omega⟩
    exact key
  ·rintro cc hc
   refine ⟨fun h1 => ?_,fun h1 => ?_⟩
   ·obtain ⟨e,he,hlt3⟩:=hc.1 h1
    have hd:=(List.getElem?_eq_some_iff.1 he).1
    refine ⟨by omega,fun _=>⟨by omega,fun _=>⟨haE (by omega),fun _=>⟨e.id.1,e.id.2.1,e.id.2.2,ldD3 rdE he,_,q0 e.id,inI64D _ (by omega) (by omega),fun _=>⟨⟨d + 1,by omega,⟨by omega,fun j y hj hy => ?_,.inr ?_⟩,fun j y hj hy => ?_⟩,by dsimp only; omega⟩⟩⟩⟩⟩
    ·rcases Nat.lt_or_eq_of_le (Nat.le_of_lt_succ hj) with h | h
     ·have:=li.up j y h hy; omega
     ·subst h; rw [he] at hy; cases hy; omega
    ·rcases Int.le_total last (fz f e.id) with h | h
     ·exact ⟨d,e,by omega,he,by omega⟩
     ·rcases li.is with h2 | ⟨j,y,hj,hy,h2⟩
      ·have:0 ≤ fz f e.id:=by unfold fz; omega
       omega
      ·exact ⟨j,y,by omega,hy,by omega⟩
    ·rcases Nat.lt_or_eq_of_le (Nat.le_of_lt_succ hj) with h | h
     ·exact lx j y h hy
     ·subst h; rw [he] at hy; cases hy; exact hlt3
   ·have hno : ∀ (j:Nat) (e:DeedE),E[j]? = some e → e.en < x.be → j < d:=fun j e he h=>by
     rcases Nat.lt_or_ge j d with h2 | h2
     ·exact h2
     ·exfalso
      refine h1 (hc.2 ?_)
      have hjl:=(List.getElem?_eq_some_iff.1 he).1
      obtain ⟨y,hy⟩ : ∃ y,E[d]? = some y:=⟨_,List.getElem?_eq_getElem (by omega)⟩
      refine ⟨y,hy,?_⟩
      rcases Nat.lt_or_eq_of_le h2 with h3 | h3
      ·have:=soE hy he h3; omega
      ·subst h3; rw [hy] at he; cases he; exact h
    refine ⟨_,q0 x.id,⟨fun h2 => .of fun R h H=>⟨?_,H⟩,fun h2=>⟨inI64D _ (by omega) (by omega),fun _=>⟨⟨k' + 1,d,by omega,rfl,rfl,by omega,li,fun j e hj he=>⟨k',x,by omega,hx,lx j e hj he⟩,fun i y hi hy e he hlt4 => ?_⟩,by dsimp only; omega⟩⟩⟩⟩
    ·have h0:0 ≤ fz f x.id:=by unfold fz; omega
     obtain ⟨j,e,hj,he,h3⟩:=li.is.resolve_left (by omega)
     have hxI:=(mI x).1 (List.mem_of_getElem? hx)
     have heE:=(mE e).1 (List.mem_of_getElem? he)
     have heI:=(mI e).1 heE.1
     have:lateS f (es.map DeedE.p)=true:=by
      unfold lateS
      rw [@decide_eq_true_eq _ (Classical.propDecidable _)]
      obtain ⟨i1,hi1⟩:=Option.isSome_iff_exists.1 hxI.2
      obtain ⟨j1,hj1⟩:=Option.isSome_iff_exists.1 heI.2
      refine ⟨x.p,List.mem_map.2 ⟨x,hxI.1,rfl⟩,e.p,List.mem_map.2 ⟨e,heI.1,rfl⟩,i1,j1,hi1,hj1,heE.2,lx j e hj he,?_⟩
      unfold fz at h2 h3
      rw [hi1] at h2; rw [hj1] at h3
      simp only [Option.getD_some] at h2 h3
      omega
     rw [this]
    ·rcases Nat.lt_or_eq_of_le (Nat.le_of_lt_succ hi) with h | h
     ·exact ln i y h hy e he hlt4
     ·subst h
      rw [hx] at hy; cases hy
      obtain ⟨j,hj⟩:=List.mem_iff_getElem?.1 he
      have:=li.up j e (hno j e hj hlt4) hj
      omega
 ·have hke:k'=I.length:=by omega
  subst hke
  have:lateS f (es.map DeedE.p)=false:=by
   unfold lateS
   rw [@decide_eq_false_iff_not _ (Classical.propDecidable _)]
   rintro ⟨d',hd',e',he',i,j,h1,h2,h3,h4,h5⟩
   obtain ⟨x,hx,rfl⟩:=List.mem_map.1 hd'
   obtain ⟨e,he,rfl⟩:=List.mem_map.1 he'
   have h1':f x.id=some i:=h1
   have h2':f e.id=some j:=h2
   have xI:=(mI x).2 ⟨hx,by rw [h1']; rfl⟩
   have eE:=(mE e).2 ⟨(mI e).2 ⟨he,by rw [h2']; rfl⟩,h3⟩
   obtain ⟨q,hq⟩:=List.mem_iff_getElem?.1 xI
   refine ln q x (List.getElem?_eq_some_iff.1 hq).1 hq e eE h4 ?_
   unfold fz
   rw [h1',h2']
   simp only [Option.getD_some]
   omega
  rw [this]
end Go.Proofs.YtdieogcemmnaaaaGreatDoor

namespace Go.Proofs.YtdieogcemmnaaaaGreatDoor
set_option linter.unusedSimpArgs false
set_option linter.unusedVariables false
open Go.Proofs.YtdieogcemmnaaaaGreatDoor RX
set_option maxRecDepth 100000
structure AnsE where
 m:AnsM
 da:Option Addr
 dc:Nat
 na:Option Addr
 nc:Nat
abbrev AnsE.vals (x:AnsE):List Value:=[.int .i64 x.m.err,.int .i64 x.m.kind,.int .i64 x.m.size,.int .i64 x.m.links,.slice x.da x.m.data.length x.dc,.slice x.na x.m.names.length x.nc]
def AnsE.ro (x:AnsE):HP:=HP.and (x.m.names.length ≤ 1000000) (HP.both (RoB x.da x.m.data.length x.m.data) (RoS x.na x.m.names.length x.m.names))
theorem AnsE.pers (x:AnsE) {R h h':PH} (H:x.ro.p R h):x.ro.p R h':=⟨H.1,H.2.1,H.2.2⟩
def kAnsP:PK AnsE where
 e:=31
 n:=6
 pos:=by decide
 vals:=AnsE.vals
 len _:=rfl
 one x u hu:=by
  simp only [AnsE.vals,List.mem_cons,List.not_mem_nil,or_false] at hu
  rcases hu with rfl | rfl | rfl | rfl | rfl | rfl <;> rfl
 rep:=AnsE.ro
def DeedE.a (x:DeedE):AnsE:=⟨x.ans,x.da,x.dc,x.na,x.nc⟩
theorem infoA:(Tryz.prog.info? 31).map (fun i=>(i.zero,i.size,i.bytes))=some (some ans0,6,80):=by kernel_rfl
theorem infoAp : ∃ i,Tryz.prog.info? 31=some i ∧ i.zero=some ans0 ∧ ans0.cells.size=i.size ∧ i.size=6 ∧ i.bytes=80:=by
 obtain ⟨i,hi,hz⟩:=Option.map_eq_some_iff.1 infoA
 simp only [Prod.mk.injEq] at hz
 exact ⟨i,hi,hz.1,by rw [hz.2.1]; rfl,hz.2⟩
theorem undAs:Tryz.prog.underlying 196=some (.slice 31):=by kernel_rfl
theorem undAn : ∃ d,Tryz.prog.underlying 31=some d:=Option.isSome_iff_exists.1 (by kernel_rfl)
theorem aggAn:aggT Tryz.prog 31=true:=by kernel_rfl
theorem szAn:szT Tryz.prog 31=6:=by kernel_rfl
def CB (b:Nat) (y:AnsM) (da:Option Addr) (dc:Nat) (na:Option Addr) (nc:Nat) (D N:HP):HP:=HP.sep (HP.one b (.cells #[.int .i64 y.err,.int .i64 y.kind,.int .i64 y.size,.int .i64 y.links,.slice da y.data.length dc,.slice na y.names.length nc] 31 (0,0))) (HP.sep D N)
theorem check1_ok (x:AnsE) (b:Nat) (y:AnsM) (da:Option Addr) (dc:Nat) (na:Option Addr) (nc:Nat) (DX NX D N:HP) (hX:RdL DX x.da x.m.data.length (x.m.data.map u8v)) (hY:RdL NX x.na x.m.names.length (x.m.names.map sE)) (hD:RdL D da y.data.length (y.data.map u8v)) (hN:RdL N na y.names.length (y.names.map sE)) (hb:x.m.names.length ≤ 1000000) :
  Tri Tryz.prog 113 #[.agg x.vals.toArray,.pointer (some ⟨b,0,none⟩)] (HP.sep DX (HP.sep NX (CB b y da dc na nc D N))) (fun v=>HP.and (v = .bool (decide (x.m ≠ y))) (HP.sep DX (HP.sep NX (CB b y da dc na nc D N)))):=by
 refine tri_of_tree (ρ:=[.i x.m.err,.i x.m.kind,.i x.m.size,.i x.m.links,.a x.da,.n x.m.data.length,.n x.dc,.p DX,.a x.na,.n x.m.names.length,.n x.nc,.p NX,.n b,.i y.err,.i y.kind,.i y.size,.i y.links,.a da,.n y.data.length,.n dc,.p D,.a na,.n y.names.length,.n nc,.p N]) mixed Tryz.func113 tree_jCheck1 ?_
 unfold t_jCheck1
 simp only [T.den,E.prop,E.den,RX.look,F1.app,F2.app,Uni.int_i,Uni.nat_n,Uni.bool_c,Uni.str_s,Uni.adr_a,Uni.val_v,Uni.hp_p,hden,cden,V.den,W.den,A.den,BR.den,SA.den,FV.den,capV,exs,exP,allP,Cur.app,List.map_cons,List.map_nil,List.cons_append,List.nil_append,List.drop_succ_cons,List.drop_zero,List.length_cons,List.length_nil,Nat.zero_add,Nat.reduceAdd,Int.neg_neg,Bool.not_not,List.append_nil,Nat.add_zero,List.getElem?_cons_zero,List.getElem?_cons_succ,Decidable.not_not,semW_eq,ne_eq,Nat.reduceEqDiff,not_false_eq_true]
 intro _
 refine (jSame_ok x.m y x.da x.dc x.na x.nc da dc na nc DX NX D N hX hY hD hN (by omega)).weak (fun _ _ h=>h) ?_
 rintro v R h ⟨rfl,H⟩
 refine ⟨_,rfl,.of fun R h H=>⟨?_,H⟩,H⟩
 by_cases e:x.m=y <;> simp [e]
theorem fgoCk:Fgo Tryz.prog 113:=⟨_,Tryz.func113,by kernel_rfl,by kernel_rfl⟩
theorem check1_v (x:AnsE) (b:Nat) (y:AnsM) (da:Option Addr) (dc:Nat) (na:Option Addr) (nc:Nat) (D N:HP) (hD:RdL D da y.data.length (y.data.map u8v)) (hN:RdL N na y.names.length (y.names.map sE)) (Q:HP) (hQ : ∀ R h,Q.p R h → x.ro.p R h) :
  VTri Tryz.prog (.func (.func 113) #[] #[.pointer (some ⟨b,0,none⟩)]) #[.agg x.vals.toArray] (HP.sep (CB b y da dc na nc D N) Q) (fun v=>HP.and (v = .bool (decide (x.m ≠ y))) (HP.sep (CB b y da dc na nc D N) Q)):=by
 refine .inl ⟨_,_,rfl,fgoCk,?_⟩
 refine Tri.fact (φ:=x.m.names.length ≤ 1000000) (fun R h H=>(hQ _ _ (HP.sep_right H)).1) fun hb => ?_
 refine (check1_ok x b y da dc na nc (RoB x.da x.m.data.length x.m.data) (RoS x.na x.m.names.length x.m.names) D N (RdL.ro _ _ _ _) (RdL.ro _ _ _ _) hD hN hb).conseq (K:=Q) (.of fun R h H => ?_) fun v => .of fun R h H => ?_
 ·have hro:=hQ _ _ (HP.sep_right H)
  have:=RoC.join hro.2.1 (RoC.join hro.2.2 H)
  exact HP.sep_assoc' (HP.sep_mono this (fun _ h=>h) fun z hz=>HP.sep_assoc' hz)
 ·obtain ⟨⟨e,_⟩,_⟩:(HP.and (v = .bool (decide (x.m ≠ y))) (HP.sep (RoB x.da x.m.data.length x.m.data) (HP.sep (RoS x.na x.m.names.length x.m.names) (CB b y da dc na nc D N)))).p R h ∧ True:=⟨HP.sep_left H,trivial⟩
  refine ⟨e,HP.sep_mono H (fun z hz=>HP.sep_right (HP.sep_right hz.2)) fun _ h=>h⟩
theorem ldA {a:Option Addr} {n c:Nat} {l:List AnsE} {k:Nat} {x:AnsE} (hk:l[k]? = some x):ORead Tryz.prog (loadS 31 (.pointer (a.map fun y=>(y.add (k * 6)).add 0))) (PL kAnsP a n c l) (.agg x.vals.toArray):=by
 obtain ⟨d,hd⟩:=undAn
 refine loadN_ok (vs:=x.vals) hd aggAn (PL.rd a n c l) (k:=k * 6) (off:=0) szAn (Nat.succ_pos _) fun j v hj => ?_
 have hlt:j < 6:=(List.getElem?_eq_some_iff.1 hj).1
 rw [Nat.add_zero]
 refine (flat_getL kAnsP.vals 6 kAnsP.len l k j x hk hlt).trans ?_
 exact hj
theorem PL.mem {a:Option Addr} {n c:Nat} {l:List AnsE} {x:AnsE} (hx:x ∈ l) {R h:PH} (H:(PL kAnsP a n c l).p R h):x.ro.p R h:=sepN_mem (List.mem_map.2 ⟨x,hx,rfl⟩) (HP.sep_right H.2)
structure AnsRd (Q:HP) (a:Option Addr) (n:Nat) (l:List AnsE):Prop where
 len:l.length=n
 is:n ≠ 0 → a.isSome=true
 ld : ∀ (k:Nat) (x:AnsE),l[k]? = some x → ORead Tryz.prog (loadS 31 (.pointer (a.map fun y=>(y.add (k * 6)).add 0))) Q (.agg x.vals.toArray)
 ro : ∀ x ∈ l,∀ R h,Q.p R h → x.ro.p R h
set_option maxHeartbeats 1000000 in
theorem indexA_ok (a:Option Addr) (n c:Nat) (l:List AnsE) (Q:HP) (ar:AnsRd Q a n l) (hn:n ≤ 1000000) (b:Nat) (y:AnsM) (da:Option Addr) (dc:Nat) (na:Option Addr) (nc:Nat) (D N:HP) (hD:RdL D da y.data.length (y.data.map u8v)) (hN:RdL N na y.names.length (y.names.map sE)) :
  Tri Tryz.prog 170 #[.slice a n c,.func (.func 113) #[] #[.pointer (some ⟨b,0,none⟩)]] (HP.sep Q (CB b y da dc na nc D N))
   (fun v=>HP.ex fun k:Int=>HP.and (v = .int .i64 k ∧ (0 ≤ k ↔ l.any (fun x=>decide (x.m ≠ y))=true)) (HP.sep Q (CB b y da dc na nc D N))):=by
 have hl:=ar.len
 refine tri_of_tree (ρ:=[.a a,.n n,.n c,.p Q,.v (.func (.func 113) #[] #[.pointer (some ⟨b,0,none⟩)]),.p (CB b y da dc na nc D N)]) mixed Tryz.func170 tree_jIndexFunc ?_
 unfold t_jIndexFunc
 simp only [T.den,E.prop,E.den,RX.look,F1.app,F2.app,Uni.int_i,Uni.nat_n,Uni.bool_c,Uni.str_s,Uni.adr_a,Uni.val_v,Uni.hp_p,hden,cden,V.den,W.den,A.den,BR.den,SA.den,FV.den,capV,exs,exP,allP,Cur.app,List.map_cons,List.map_nil,List.cons_append,List.nil_append,List.drop_succ_cons,List.drop_zero,List.length_cons,List.length_nil,Nat.zero_add,Nat.reduceAdd,Int.neg_neg,Bool.not_not,List.append_nil,Nat.add_zero,List.getElem?_cons_zero,List.getElem?_cons_succ,Decidable.not_not,semW_eq,semW_load,ne_eq,Nat.reduceEqDiff,not_false_eq_true]
 refine ⟨fun _ i P => ∃ k:Nat,i=k ∧ k ≤ n ∧ P=CB b y da dc na nc D N ∧ ∀ (j:Nat) (x:AnsE),j < k → l[j]? = some x → x.m=y,fun _ i _=>n - i.toNat,⟨0,rfl,Nat.zero_le _,rfl,fun j x hj=>absurd hj (by omega)⟩,?_⟩
 rintro _ _ _ ⟨k,rfl,hk,rfl,hp⟩
 refine ⟨fun hlt=>⟨by omega,fun _=>⟨ar.is (by omega),fun _ => ?_⟩⟩,fun hge => .of fun R h H=>⟨-1,⟨rfl,⟨fun h=>absurd h (by decide),fun h => ?_⟩⟩,H⟩⟩
 ·obtain ⟨x,hx⟩ : ∃ x,l[k]? = some x:=⟨_,List.getElem?_eq_getElem (by omega)⟩
  have hxm:=List.mem_of_getElem? hx
  refine ⟨x.m.err,x.m.kind,x.m.size,x.m.links,x.da,x.m.data.length,x.dc,x.na,x.m.names.length,x.nc,ar.ld k x hx,?_⟩
  refine (check1_v x b y da dc na nc D N hD hN Q fun R h H=>ar.ro x hxm R h H).weak (fun _ _ h=>h) ?_
  rintro v R h ⟨rfl,H⟩
  refine ⟨_,_,rfl,⟨fun h1 => .of fun R h H=>⟨k,⟨rfl,⟨fun _ => ?_,fun _=>by omega⟩⟩,H⟩,fun h1=>⟨inI64D _ (by omega) (by omega),fun _=>⟨⟨k + 1,by omega,by omega,rfl,fun j z hj hz => ?_⟩,by dsimp only; omega⟩⟩⟩,H⟩
  ·rw [List.any_eq_true]; exact ⟨x,hxm,h1⟩
  ·rcases Nat.lt_or_eq_of_le (Nat.le_of_lt_succ hj) with h | h
   ·exact hp j z h hz
   ·subst h; rw [hx] at hz; cases hz; simpa using h1
 ·rw [List.any_eq_true] at h
  obtain ⟨x,hx,h⟩:=h
  obtain ⟨j,hj⟩:=List.mem_iff_getElem?.1 hx
  have hjl:=(List.getElem?_eq_some_iff.1 hj).1
  rw [decide_eq_true_eq] at h
  exact absurd (hp j x (by omega) hj) h
theorem containsA_ok (a:Option Addr) (n c:Nat) (l:List AnsE) (Q:HP) (ar:AnsRd Q a n l) (hn:n ≤ 1000000) (b:Nat) (y:AnsM) (da:Option Addr) (dc:Nat) (na:Option Addr) (nc:Nat) (D N:HP) (hD:RdL D da y.data.length (y.data.map u8v)) (hN:RdL N na y.names.length (y.names.map sE)) :
  Tri Tryz.prog 115 #[.slice a n c,.func (.func 113) #[] #[.pointer (some ⟨b,0,none⟩)]] (HP.sep Q (CB b y da dc na nc D N))
   (fun v=>HP.and (v = .bool (l.any fun x=>decide (x.m ≠ y))) (HP.sep Q (CB b y da dc na nc D N))):=by
 refine tri_of_tree (ρ:=[.a a,.n n,.n c,.p Q,.v (.func (.func 113) #[] #[.pointer (some ⟨b,0,none⟩)]),.p (CB b y da dc na nc D N)]) mixed Tryz.func115 tree_jContainsFunc ?_
 unfold t_jContainsFunc
 simp only [T.den,E.prop,E.den,RX.look,F1.app,F2.app,Uni.int_i,Uni.nat_n,Uni.bool_c,Uni.str_s,Uni.adr_a,Uni.val_v,Uni.hp_p,hden,cden,V.den,W.den,A.den,BR.den,SA.den,FV.den,capV,exs,exP,allP,Cur.app,List.map_cons,List.map_nil,List.cons_append,List.nil_append,List.drop_succ_cons,List.drop_zero,List.length_cons,List.length_nil,Nat.zero_add,Nat.reduceAdd,Int.neg_neg,Bool.not_not,List.append_nil,Nat.add_zero,List.getElem?_cons_zero,List.getElem?_cons_succ,Decidable.not_not,semW_eq,ne_eq,Nat.reduceEqDiff,not_false_eq_true]
 refine (indexA_ok a n c l Q ar hn b y da dc na nc D N hD hN).weak (fun _ _ h=>h) ?_
 rintro v R h ⟨k,⟨rfl,hk⟩,H⟩
 refine ⟨k,_,_,rfl,.of fun R h H=>⟨?_,H⟩,H⟩
 show Value.bool _=Value.bool _
 congr 1
 rw [Bool.eq_iff_iff,decide_eq_true_eq]
 exact hk
section
variable {κ:Type} [DecidableEq κ]
theorem alDel_none (k:κ) : ∀ l:AL κ,alFind k l=none → alDel k l=l
 | [],_=>rfl
 | x :: l,h=>by
  simp only [alFind] at h
  split at h
  ·cases h
  ·rename_i e; simp only [alDel,if_neg e]; rw [alDel_none k l h]
theorem alx_perm (k:κ) (c:Nat) : ∀ (l:AL κ) (v:Value),alFind k l=some v → l.Perm ((k,v,alBorn k c l) :: alDel k l)
 | [],_,h=>by cases h
 | x :: l,v,h=>by
  simp only [alFind] at h
  split at h
  ·rename_i e
   cases h
   subst e
   simp only [alDel,alBorn,if_pos]
   exact List.Perm.refl _
  ·rename_i e
   simp only [alDel,alBorn,if_neg e]
   exact ((alx_perm k c l v h).cons x).trans (List.Perm.swap _ _ _)
theorem alDel_put (k:κ) (v:Value) (c:Nat) : ∀ l:AL κ,alDel k (alPut k v c l)=alDel k l
 | []=>by simp [alPut,alDel]
 | x :: l=>by
  simp only [alPut]
  split
  ·rename_i e; simp [alDel,e]
  ·rename_i e; simp only [alDel,if_neg e]; rw [alDel_put k v c l]
theorem alBorn_put (k:κ) (v:Value) (c c':Nat) : ∀ l:AL κ,alBorn k c' (alPut k v c l)=alBorn k c l
 | []=>by simp [alPut,alBorn]
 | x :: l=>by
  simp only [alPut]
  split
  ·rename_i e; simp [alBorn,e]
  ·rename_i e; simp only [alBorn,if_neg e]; rw [alBorn_put k v c c' l]
theorem alDel_ne {k:κ} {l:AL κ} (h:(l.map (·.1)).Nodup) {y:κ × Value × Nat} (hy:y ∈ alDel k l):y.1 ≠ k:=fun e=>by
 have h1:=alFind_del k k l h
 rw [if_pos rfl] at h1
 have h2:(alFind k (alDel k l)).isSome=true:=(alFind_isSome k _).2 (List.mem_map.2 ⟨y,hy,e⟩)
 rw [h1] at h2; cases h2
end
def tPart (f:IdM → List AnsE) (y:IdM × Value × Nat):HP:=HP.ex fun a=>HP.ex fun c=>HP.and (y.2.1 = .slice a (f y.1).length c) (PL kAnsP a (f y.1).length c (f y.1))
def TMl (r:Nat) (f:IdM → List AnsE) (l:AL IdM) (c:Nat):HP:=HP.and (MapI l c ∧ ∀ k,alFind k l=none ↔ f k=[]) (HP.sep (HP.one r (mapObj idV l c)) (sepN (l.map (tPart f))))
def TM (r:Nat) (f:IdM → List AnsE):HP:=HP.ex fun l=>HP.ex fun c=>TMl r f l c
def TH (r:Nat) (f:IdM → List AnsE) (k:IdM) (b:Nat):HP:=HP.ex fun l=>HP.ex fun c=>HP.and (MapI l c ∧ (alFind k l).isSome=true ∧ alBorn k c l=b ∧ ∀ k',k' ≠ k → (alFind k' l=none ↔ f k'=[])) (HP.sep (HP.one r (mapObj idV l c)) (sepN ((alDel k l).map (tPart f))))
theorem TM.new (r:Nat) {R h:PH} (H:(HP.one r (.map #[] 0)).p R h):(TM r fun _=>[]).p R h:=⟨[],0,⟨MapI.nil 0,fun k=>⟨fun _=>rfl,fun _=>rfl⟩⟩,HP.sep_tt H⟩
theorem undT:Tryz.prog.underlying 191=some (.map 57 196):=by kernel_rfl
theorem infoAs : ∃ i,Tryz.prog.info? 196=some i ∧ i.zero=some (.slice none 0 0):=by
 have h:(Tryz.prog.info? 196).map (fun i=>i.zero)=some (some (.slice none 0 0)):=by kernel_rfl
 obtain ⟨i,hi,hz⟩:=Option.map_eq_some_iff.1 h
 exact ⟨i,hi,hz⟩
theorem PL.none0 {R h:PH}:(PL kAnsP none 0 0 []).p R h:=⟨rfl,HP.sep_tt (OwC.nil _ _ R h)⟩
theorem tpart_find {r:Nat} {f:IdM → List AnsE} {l:AL IdM} {c:Nat} {k:IdM} {v:Value} (hf:alFind k l=some v) (hI:MapI l c) {R h:PH} (H:(sepN (l.map (tPart f))).p R h):(HP.sep (tPart f (k,v,alBorn k c l)) (sepN ((alDel k l).map (tPart f)))).p R h :=
 sepN_cons.1 (sepN_perm ((alx_perm k c l v hf).map (tPart f)) H)
set_option maxHeartbeats 1000000 in
theorem told_entry (r:Nat) (f:IdM → List AnsE) (k:IdM):OTri Tryz.prog (mapES 191 (.map (some r)) (idV k)) (TM r f)
  (fun v=>HP.ex fun a=>HP.ex fun c=>HP.ex fun b:Nat=>HP.and (v = .tuple #[.slice a (f k).length c,goInt (b:Nat)]) (HP.sep (PL kAnsP a (f k).length c (f k)) (TH r f k b))):=by
 refine OTri.exI fun l=>OTri.exI fun c=>OTri.pureI fun ⟨hI,hf⟩ => ?_
 obtain ⟨i,hi,hz⟩:=infoAs
 refine ((mapEntry_ok (c:=c) (l:=l) idK undT hi hz (r:=r) k).frame (sepN (l.map (tPart f)))).weak (fun _ _ h=>h) ?_
 intro v R h H
 cases hk:alFind k l with
 | none =>
  rw [hk] at H
  obtain ⟨e,_⟩:=HP.sep_left H
  have hfk:=(hf k).1 hk
  refine ⟨none,0,alBorn k c l,?_,?_⟩
  ·rw [hfk]; exact e
  ·rw [hfk]
   refine HP.sep_mono (HP.tt_sep H) (fun _ _=>PL.none0) fun z hz=>⟨_,_,⟨hI.put k _,by rw [alFind_put,if_pos rfl]; rfl,alBorn_put _ _ _ _ _,fun k' hne => ?_⟩,HP.sep_mono hz (fun _ h=>h.2) fun u hu => ?_⟩
   ·rw [alFind_put,if_neg hne]; exact hf k'
   ·rw [alDel_put,alDel_none k l hk]; exact hu
 | some u =>
  rw [hk] at H
  obtain ⟨h1,h2,d,l1,l2,⟨e,HA⟩,HB⟩:=H
  have HB':=tpart_find (c:=c) (r:=r) hk hI HB
  obtain ⟨h3,h4,d2,l3,l4,⟨a,cc,e2,HP1⟩,HR⟩:=HB'
  simp only at e2 HP1
  refine ⟨a,cc,alBorn k c l,?_,?_⟩
  ·rw [e,e2]; rfl
  ·have d3:=d.le (PH.le.refl _) l4
   have H0:(HP.sep (HP.one r (mapObj idV (alPut k u c l) (alClock k l c))) (HP.sep (PL kAnsP a (f k).length cc (f k)) (sepN ((alDel k l).map (tPart f))))).p R h:=⟨h1,h2,d,l1,l2,HA,h3,h4,d2,l3,l4,HP1,HR⟩
   refine HP.sep_mono (HP.swap H0) (fun _ h=>h) fun z hz => ?_
   ·refine ⟨_,_,⟨hI.put k _,by rw [alFind_put,if_pos rfl]; rfl,alBorn_put _ _ _ _ _,fun k' hne => ?_⟩,HP.sep_mono hz (fun _ h=>h) fun u hu => ?_⟩
    ·rw [alFind_put,if_neg hne]; exact hf k'
    ·rw [alDel_put]; exact hu
def putL (f:IdM → List AnsE) (k:IdM) (xs:List AnsE):IdM → List AnsE:=fun k'=>if k'=k then xs else f k'
theorem told_store (r:Nat) (f:IdM → List AnsE) (k:IdM) (b:Nat) (a:Option Addr) (n c:Nat) (xs:List AnsE) (hn:xs ≠ []):OTri Tryz.prog (estS 191 (.map (some r)) (goInt b) (.slice a n c)) (HP.sep (TH r f k b) (PL kAnsP a n c xs))
  (fun v=>HP.and (v = .tuple #[]) (TM r (putL f k xs))):=by
 refine OTri.fact (φ:=xs.length=n) (fun R h H=>(HP.sep_right H).1) fun hl => ?_
 refine (OTri.exI (A:=fun l=>HP.ex fun c'=>HP.sep (HP.and (MapI l c' ∧ (alFind k l).isSome=true ∧ alBorn k c' l=b ∧ ∀ k',k' ≠ k → (alFind k' l=none ↔ f k'=[])) (HP.sep (HP.one r (mapObj idV l c')) (sepN ((alDel k l).map (tPart f))))) (PL kAnsP a n c xs)) fun l=>OTri.exI fun c' => ?_).weak (fun R h ⟨h1,h2,d,l1,l2,⟨l,c',H1⟩,H2⟩=>⟨l,c',h1,h2,d,l1,l2,H1,H2⟩) fun _ _ _ h=>h
 refine OTri.fact (φ:=MapI l c' ∧ (alFind k l).isSome=true ∧ alBorn k c' l=b ∧ ∀ k',k' ≠ k → (alFind k' l=none ↔ f k'=[])) (fun R h H=>(HP.sep_left H).1) fun ⟨hI,hs,hb,hf⟩ => ?_
 subst hb
 refine ((entryStore_ok (t:=191) (enc:=idV) (r:=r) (c:=c') (l:=l) hI.2 k (.slice a n c) hs).frame (HP.sep (sepN ((alDel k l).map (tPart f))) (PL kAnsP a n c xs))).weak (fun R h H=>HP.sep_assoc (HP.sep_mono H (fun _ h=>h.2) fun _ h=>h)) ?_
 intro v R h H
 obtain ⟨e,_⟩:=HP.sep_left H
 have hI2:=hI.put k (.slice a n c)
 have hck:alClock k l c'=c':=by unfold alClock; rw [if_pos hs]
 rw [hck] at hI2
 refine ⟨e,alPut k (.slice a n c) c' l,c',⟨hI2,fun k' => ?_⟩,HP.sep_mono H (fun _ h=>h.2) fun z hz => ?_⟩
 ·rw [alFind_put]
  unfold putL
  by_cases hk:k'=k
  ·rw [if_pos hk,if_pos hk]; simp [hn]
  ·rw [if_neg hk,if_neg hk]; exact hf k' hk
 ·have hp:=alx_perm k c' (alPut k (.slice a n c) c' l) (.slice a n c) (by rw [alFind_put,if_pos rfl])
  refine sepN_perm (hp.map _).symm (sepN_cons.2 (HP.sep_comm (HP.sep_mono hz (fun u hu => ?_) fun u hu=>⟨a,c,?_,?_⟩)))
  ·rw [alDel_put]
   have:(alDel k l).map (tPart (putL f k xs))=(alDel k l).map (tPart f):=List.map_congr_left fun y hy=>by
    have hne:=alDel_ne hI.1 hy
    unfold tPart putL
    rw [if_neg hne]
   rw [this]; exact hu
  ·show Value.slice a n c=_
   unfold putL; rw [if_pos rfl,hl]
  ·show (PL kAnsP a (putL f k xs k).length c (putL f k xs k)).p R u
   unfold putL; rw [if_pos rfl,hl]; exact hu
structure TQ (P:HP) (r:Nat) (f:IdM → List AnsE):Prop where
 look : ∀ k,∃ a cc,ORead Tryz.prog (lookS 191 (.map (some r)) (idV k) false) P (.slice a (f k).length cc) ∧ AnsRd P a (f k).length (f k)
 ent:HP.ent P (TM r f)
theorem TQ.new (r:Nat):TQ (HP.one r (.map #[] 0)) r fun _=>[] where
 look k:=by
  obtain ⟨i,hi,hz⟩:=infoAs
  exact ⟨none,0,look_ok (c:=0) (l:=[]) (r:=r) idK undT hi hz k false (A:=HP.one r (.map #[] 0)) fun R h H=>H,⟨rfl,fun h=>absurd rfl h,fun k x h=>by simp at h,fun x h=>by cases h⟩⟩
 ent := .of fun R h H=>TM.new r H
theorem TQ.of {r:Nat} {f:IdM → List AnsE} {l:AL IdM} {c:Nat} {R h:PH} (H:(TMl r f l c).p R h):TQ (TMl r f l c) r f where
 look k:=by
  obtain ⟨⟨hI,hf⟩,H⟩:=H
  obtain ⟨i,hi,hz⟩:=infoAs
  have hlk:=look_ok (c:=c) (l:=l) (r:=r) idK undT hi hz k false (A:=TMl r f l c) fun R h H=>HP.sep_left H.2
  cases hk:alFind k l with
  | none =>
   have hfk:=(hf k).1 hk
   rw [hk] at hlk
   rw [hfk]
   exact ⟨none,0,hlk,⟨rfl,fun h=>absurd rfl h,fun k x h=>by simp at h,fun x h=>by cases h⟩⟩
  | some u =>
   obtain ⟨a,cc,e,H1⟩:=HP.sep_left (tpart_find (c:=c) (r:=r) hk hI (HP.sep_right H))
   simp only at e H1
   rw [hk,e] at hlk
   have hpl:HP.ent (TMl r f l c) (PL kAnsP a (f k).length cc (f k)) := .of fun R' h' H'=>by
    obtain ⟨h1,h2,d,l1,l2,⟨a',cc',e',H1⟩,_⟩:=tpart_find (c:=c) (r:=r) hk hI (HP.sep_right H'.2)
    simp only at e' H1
    rw [e] at e'
    cases e'
    exact (PL kAnsP a (f k).length cc (f k)).mono (PH.le.refl _) l1 H1
   refine ⟨a,cc,hlk,⟨rfl,fun hn=>PL.isAt H1 hn,fun j x hx=>(ldA hx).ent hpl,fun x hx R' h' H' => ?_⟩⟩
   obtain ⟨h1,h2,d,l1,l2,⟨a',cc',e',H1⟩,_⟩:=tpart_find (c:=c) (r:=r) hk hI (HP.sep_right H'.2)
   exact x.pers (PL.mem hx H1)
 ent := .of fun R h H=>⟨l,c,H⟩
end Go.Proofs.YtdieogcemmnaaaaGreatDoor

namespace Go.Proofs.YtdieogcemmnaaaaGreatDoor
open Go.Proofs.YtdieogcemmnaaaaGreatDoor RX
set_option maxRecDepth 100000
def BMl (r:Nat) (g:BegM → Nat) (l:AL BegM) (c:Nat):HP:=HP.and (MapI l c ∧ ∀ k,(alFind k l).getD (.int .i64 0) = .int .i64 (g k:Nat)) (HP.one r (mapObj begV l c))
def BM (r:Nat) (g:BegM → Nat):HP:=HP.ex fun l=>HP.ex fun c=>BMl r g l c
def BH (r:Nat) (g:BegM → Nat) (k:BegM) (b:Nat):HP:=HP.ex fun l=>HP.ex fun c=>HP.and (MapI l c ∧ (∀ k,(alFind k l).getD (.int .i64 0) = .int .i64 (g k:Nat)) ∧ (alFind k l).isSome=true ∧ alBorn k c l=b) (HP.one r (mapObj begV l c))
theorem BM.new (r:Nat) {R h:PH} (H:(HP.one r (.map #[] 0)).p R h):(BM r fun _=>0).p R h:=⟨[],0,⟨MapI.nil 0,fun k=>rfl⟩,H⟩
theorem undB:Tryz.prog.underlying 190=some (.map 193 3):=by kernel_rfl
theorem lookBl {r:Nat} {g:BegM → Nat} {l:AL BegM} {c:Nat} (hg : ∀ k,(alFind k l).getD (.int .i64 0) = .int .i64 (g k:Nat)) (k:BegM) {A:HP} (hA : ∀ R h,A.p R h → h r=some (mapObj begV l c)):ORead Tryz.prog (lookS 190 (.map (some r)) (begV k) false) A (.int .i64 (g k:Nat)):=by
 obtain ⟨i,hi,hz⟩:=infoI1
 have:=look_ok (c:=c) (l:=l) (r:=r) begK undB hi hz k false (A:=A) hA
 rw [← hg k]
 exact this
theorem ORead.exI {P:Program} {s:Sem Next} {α:Type} {A:α → HP} {v:Value} (t : ∀ x,ORead P s (A x) v):ORead P s (HP.ex A) v:=fun w R h F st ⟨x,a⟩=>t x w R h F st a
theorem ORead.pureI {P:Program} {s:Sem Next} {A:HP} {φ:Prop} {v:Value} (t:φ → ORead P s A v):ORead P s (HP.and φ A) v:=fun w R h F st a=>t a.1 w R h F st a.2
theorem lookB {r:Nat} {g:BegM → Nat} (k:BegM):ORead Tryz.prog (lookS 190 (.map (some r)) (begV k) false) (BM r g) (.int .i64 (g k:Nat)) :=
 ORead.exI fun l=>ORead.exI fun c=>ORead.pureI fun ⟨_,hg⟩=>lookBl hg k fun _ _ h=>h
theorem lookBH {r:Nat} {g:BegM → Nat} {k':BegM} {b:Nat} (k:BegM):ORead Tryz.prog (lookS 190 (.map (some r)) (begV k) false) (BH r g k' b) (.int .i64 (g k:Nat)) :=
 ORead.exI fun l=>ORead.exI fun c=>ORead.pureI fun ⟨_,hg,_⟩=>lookBl hg k fun _ _ h=>h
theorem begun_entry (r:Nat) (g:BegM → Nat) (k:BegM):OTri Tryz.prog (mapES 190 (.map (some r)) (begV k)) (BM r g) (fun v=>HP.ex fun b:Nat=>HP.and (v = .tuple #[.int .i64 (g k:Nat),goInt (b:Nat)]) (BH r g k b)):=by
 refine OTri.exI fun l=>OTri.exI fun c=>OTri.pureI fun ⟨hI,hg⟩ => ?_
 obtain ⟨i,hi,hz⟩:=infoI1
 refine (mapEntry_ok (c:=c) (l:=l) begK undB hi hz (r:=r) k).weak (fun _ _ h=>h) ?_
 rintro v R h ⟨e,H⟩
 refine ⟨alBorn k c l,by rw [e,hg k],_,_,⟨hI.put k _,fun k' => ?_,by rw [alFind_put,if_pos rfl]; rfl,alBorn_put _ _ _ _ _⟩,H⟩
 rw [alFind_put]
 by_cases e:k'=k
 ·rw [if_pos e,e]; exact hg k
 ·rw [if_neg e]; exact hg k'
def addB (g:BegM → Nat) (k:BegM):BegM → Nat:=fun k'=>if k'=k then g k + 1 else g k'
theorem begun_store (r:Nat) (g:BegM → Nat) (k:BegM) (b:Nat) (x:Int) (hx:x=(g k:Nat) + 1):OTri Tryz.prog (estS 190 (.map (some r)) (goInt (b:Nat)) (.int .i64 x)) (BH r g k b) (fun v=>HP.and (v = .tuple #[]) (BM r (addB g k))):=by
 refine OTri.exI fun l=>OTri.exI fun c=>OTri.pureI fun ⟨hI,hg,hs,hb⟩ => ?_
 subst hb hx
 refine (entryStore_ok (t:=190) (enc:=begV) (r:=r) (c:=c) (l:=l) hI.2 k (.int .i64 ((g k:Nat) + 1)) hs).weak (fun _ _ h=>h) ?_
 rintro v R h ⟨e,H⟩
 have hI2:=hI.put k (.int .i64 ((g k:Nat) + 1))
 have hck:alClock k l c=c:=by unfold alClock; rw [if_pos hs]
 rw [hck] at hI2
 refine ⟨e,_,_,⟨hI2,fun k' => ?_⟩,H⟩
 rw [alFind_put]
 unfold addB
 by_cases e:k'=k
 ·rw [if_pos e,if_pos e]; simp
 ·rw [if_neg e,if_neg e]; exact hg k'
def FO (b:Nat) (l:List Bool):HP:=HP.one b (.cells (l.map Value.bool).toArray 189 (0,0))
theorem infoBl:(Tryz.prog.info? 4).map (fun i=>i.size)=some 1:=by kernel_rfl
theorem undBl : ∃ d,Tryz.prog.underlying 4=some d:=Option.isSome_iff_exists.1 (by kernel_rfl)
theorem foStore (b:Nat) (l:List Bool) (k:Nat) (hk:k < l.length) (x:Bool):OTri Tryz.prog (storeS 4 (.pointer (some ⟨b,k,none⟩)) (.bool x)) (FO b l) (fun v=>HP.and (v = .tuple #[]) (FO b (l.set k x))):=by
 obtain ⟨i,hi,hz⟩:=Option.map_eq_some_iff.1 infoBl
 refine (storeOne_ok hi 189 b (l.map Value.bool).toArray k (.bool x) [.bool x] rfl (by rw [hz]; rfl) (Nat.succ_pos _) (fun v hv=>by simp at hv; subst hv; rfl) (by simp; omega) (by unfold maxLen; omega)).weak (fun _ _ h=>h) ?_
 rintro v R h ⟨e,H⟩
 refine ⟨e,?_⟩
 unfold FO
 have:(l.set k x).map Value.bool=(l.map Value.bool).take k ++ [.bool x] ++ (l.map Value.bool).drop (k + 1):=by
  rw [List.map_set,List.set_eq_take_append_cons_drop,if_pos (by simpa using hk)]
  simp
 rw [this]
 exact H
theorem foLoad (b:Nat) (l:List Bool) (k:Nat) (x:Bool) (hk:l[k]? = some x):ORead Tryz.prog (loadS 4 (.pointer (some ⟨b,k,none⟩))) (FO b l) (.bool x):=by
 obtain ⟨d,hd⟩:=undBl
 have:=load1_ok (t:=4) hd (by kernel_rfl) (by kernel_rfl) (one_rd b (l.map Value.bool).toArray 189) (k:=0) (off:=k) (v := .bool x) (by simp [hk])
 simpa [addr_add,FO] using this
theorem undB6 : ∃ d,Tryz.prog.underlying 189=some d:=Option.isSome_iff_exists.1 (by kernel_rfl)
theorem foAll (b:Nat) (l:List Bool) (hl:l.length=6):ORead Tryz.prog (loadS 189 (.pointer (some ⟨b,0,none⟩))) (FO b l) (.agg (l.map Value.bool).toArray):=by
 obtain ⟨d,hd⟩:=undB6
 have:=loadN_ok (t:=189) hd (by kernel_rfl) (one_rd b (l.map Value.bool).toArray 189) (k:=0) (off:=0) (vs:=l.map Value.bool) (by rw [List.length_map,hl]; kernel_rfl) (by simp; omega) (fun j v hj=>by simpa using hj)
 simpa [addr_add,FO] using this
theorem foIndex {i j:Nat} {ty:TypeId} (hij:i ≠ j) (l:List Bool) (hl:l.length=6) (k:Nat) (x:Bool) (hk:l[k]? = some x) {A:HP}:ORead Tryz.prog (semW (.index 189 (.tmp i) (.tmp j)) ty [(i,.agg (l.map Value.bool).toArray),(j,.int .i64 (k:Int))]) A (.bool x):=fun w R h F s a=>by
 have h6:=(List.getElem?_eq_some_iff.1 hk).1
 have h':(i == j)=false:=by simpa using hij
 obtain ⟨d,hd⟩:=undBl
 obtain ⟨inf,hi,hz⟩:=Option.map_eq_some_iff.1 infoBl
 have u6:Tryz.prog.underlying 189=some (.array 6 4):=by kernel_rfl
 have hagg:aggT Tryz.prog 4=false:=by kernel_rfl
 have hsz:szT Tryz.prog 4=1:=by kernel_rfl
 have hc:(0:Int) ≤ (k:Int) ∧ (k:Int) < 6:=by omega
 have hp:(part 4 (l.map Value.bool).toArray (k * 1)).run Tryz.prog w = .ok (.bool x) w:=by
  have hag:(isAgg 4).run Tryz.prog w = .ok false w:=by rw [RX.run_isAgg hd,hagg]
  simp [part,hag,hk]
 simp [semW,execOp,arW,h',Instr.index,asIntOf,RX.run_underlying u6,RX.run_sizeOf hi,hsz,hc,Sem.run_bind]
 simp at hp
 simp [hp]
 intro h
 omega
end Go.Proofs.YtdieogcemmnaaaaGreatDoor
