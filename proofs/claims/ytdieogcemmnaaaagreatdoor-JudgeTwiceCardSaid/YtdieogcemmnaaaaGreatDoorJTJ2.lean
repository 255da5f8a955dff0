/- Texts of this claim, joined. No condition. -/
import Derived.Test.YtdieogcemmnaaaaGreatDoorJTJ1
import Derived.Lib.AppendZeros
import Derived.Shelf.Small.Bits
import Derived.Shelf.Small.Strs
import Derived.Shelf.Strconv.Itoa0
import Derived.Shelf.Strings.Search1
import Derived.Shelf.Strings.Search2
import Derived.Shelf.Strings.Search3
import Derived.Shelf.Strings.Count
import Derived.Shelf.LaysM
import Derived.Shelf.Strings.Shaped
import Derived.Shelf.Sort.Plain
import Derived.Shelf.Strings.Prefix
import Derived.Shelf.Unicode.DecodeSlow
import Derived.Shelf.Slices.In.SortNone
import Derived.Ground.SlgcProg
import Derived.Shelf.SlicesG.Cmp
import Derived.Test.YtdieogcemmnaaaaGreatDoorProg
import Derived.Laws.MakeOwn
import Derived.Laws.CopyRow
import Derived.Lib.IndexLaws
import Derived.KernelRfl
import Derived.Lib.Builder
import Derived.Lib.UnsafeStr
import Derived.Laws.Externs
import Derived.Lib.AppendStr
import Derived.Sort.Row
import Derived.Sort.Grow
set_option linter.unusedSimpArgs false
set_option linter.unusedVariables false
namespace Go.Proofs.YtdieogcemmnaaaaGreatDoor
set_option linter.unusedSimpArgs false
set_option linter.unusedVariables false
open Go.Proofs.YtdieogcemmnaaaaGreatDoor RX
set_option maxRecDepth 100000
def apzS (ts : Array TypeId) (ty : TypeId) (u v : Value) : Sem Next := do pure (.value (← Builtin.append_ ts ty #[u,v]))
theorem semW_apz {ts : Array TypeId} {ty : TypeId} {i j : Nat} {u v : Value} (h : i ≠ j) : semW (.call ⟨.builtin .append,#[.tmp i,.tmp j],ts⟩) ty [(i,u),(j,v)] = apzS ts ty u v := by
 have h' : (i == j) = false := by simpa using h
 simp [semW,execOp,resolve,arW,invoke,builtin,h',apzS]
theorem info8i : Tryz.prog.info? 5 = some (Tryz.prog.info? 5).get! := by kernel_rfl
theorem undInt' : Tryz.prog.underlying 3 = some (.int .i64) := by kernel_rfl
theorem zc_len (z : Value) (n : Nat) : (Builtin.zeroCells #[z] n).toList.length = n := by simp [Builtin.zeroCells]
theorem zc_size (z : Value) (n : Nat) : (Builtin.zeroCells #[z] n).size = n := by simp [Builtin.zeroCells]
theorem zc_rep (z : Value) (n : Nat) : (Builtin.zeroCells #[z] n).toList = List.replicate n z := by
 refine List.ext_getElem (by simp [Builtin.zeroCells]) fun i h1 h2 => ?_
 simp [Builtin.zeroCells,Nat.mod_one]
theorem apz_ok {ty : TypeId} (m : Nat) (h0 : 0 < m) (hb : m ≤ 140737488355328) (A : HP) :
  OTri Tryz.prog (apzS #[28,3] ty (.slice none 0 0) (.int .i64 (m : Int))) A
   (fun v => HP.ex fun x => HP.ex fun c => HP.and (v = .slice (some ⟨x,0,none⟩) m c) (HP.sep (OwB (some ⟨x,0,none⟩) m c (List.replicate m 0)) A)) := fun w R h F s a => by
 obtain ⟨i,hi,h1,h2,h3⟩ := info_parts info8
 have hr := Lib.run_append_nil_zeros (P := Tryz.prog) w 28 3 ty 5 i (.int .u8 0) .i64 .i64 und8 undInt' hi h1 m h0 (by omega) (by omega) (by rw [h3]; omega)
 have s0 : Sat w.drew R h F := s.drew _
 obtain ⟨s1,d1⟩ := s0.alloc (.cells (Builtin.zeroCells (Value.int .u8 0).cells m ++ Builtin.zeroCells (Value.int .u8 0).cells (grownCap w m 0 5 - m)) 5 (0,0))
 have hc1 := grownCap_ge w m 0 5
 have hsame : Same w (w.drew.alloc (.cells (Builtin.zeroCells (Value.int .u8 0).cells m ++ Builtin.zeroCells (Value.int .u8 0).cells (grownCap w m 0 5 - m)) 5 (0,0))) := Same.trans (b := w.drew) ⟨rfl,rfl,rfl,Nat.le_refl _⟩ (Same.alloc w.drew _)
 refine ⟨_,_,_,by unfold apzS; rw [Sem.run_bind,hr]; rfl,rfl,hsame,R,_,PH.le.refl _,s1,w.heap.size,_,rfl,_,_,d1,PH.un_left _ _,PH.un_right d1,⟨by simp,.inr ⟨_,_,rfl,PH.one_self _ _,hc1,grownCap_le_maxLen _ _ _ _ (by unfold maxLen; omega),?_,?_⟩⟩,a⟩
 ·rw [show (Value.int .u8 0).cells = #[.int .u8 0] from rfl,Array.size_append,zc_size,zc_size]; omega
 ·rw [show (Value.int .u8 0).cells = #[.int .u8 0] from rfl,Array.toList_append,Nat.mul_one,List.take_left' (zc_len _ _),zc_rep,List.map_replicate]; rfl
theorem grow8_ok (m : Nat) (hb : m ≤ 140737488355328) :
  Tri Tryz.prog 201 #[.slice none 0 0,.int .i64 (m : Int)] HP.tt (fun v => HP.ex fun a => HP.ex fun c => HP.and (v = .slice a 0 c) (OwB a 0 c [])) := by
 refine tri_of_tree (ρ := [.a none,.n 0,.n 0,.p HP.tt,.i m]) mixed Tryz.func201 tree_grow8 ?_
 unfold t_grow8
 simp only [T.den,E.prop,E.den,RX.look,F1.app,F2.app,Uni.int_i,Uni.nat_n,Uni.bool_c,Uni.str_s,Uni.adr_a,Uni.val_v,Uni.hp_p,hden,cden,V.den,W.den,A.den,BR.den,SA.den,FV.den,capV,exs,exP,allP,Cur.app,List.map_cons,List.map_nil,List.cons_append,List.nil_append,List.drop_succ_cons,List.drop_zero,List.length_cons,List.length_nil,Nat.zero_add,Nat.reduceAdd,Int.neg_neg,Bool.not_not,List.append_nil,Nat.add_zero,List.getElem?_cons_zero,List.getElem?_cons_succ,Decidable.not_not,semW_eq,semW_append,ne_eq,Nat.reduceEqDiff,not_false_eq_true]
 refine ⟨fun h => absurd h (by omega),fun _ => ⟨inI64 _ (by omega) (by omega),fun _ => ⟨inI64 _ (by omega) (by omega),fun _ => ⟨fun hm => ?_,fun hm => ?_⟩⟩⟩⟩
 ·refine ⟨none,0,0,?_,?_⟩
  ·rw [semW_slice]; exact slice_ok und8 info8i HP.tt none 0 0 none (some 0) none (Nat.le_refl _) (Nat.le_refl _) (Nat.le_refl _) (fun h => by cases h)
  ·rw [semW_apz (by decide),show ((m : Int) - ((0 : Nat) - (0 : Nat) : Int)) = (m : Int) by omega]
   refine (apz_ok m (by omega) hb HP.tt).weak (fun _ _ h => h) ?_
   rintro v R h ⟨x,c,rfl,H⟩
   have hle := OwC.le (HP.sep_left H)
   refine ⟨some ⟨x,0,none⟩,m,c,OwB (some ⟨x,0,none⟩) m c (List.replicate m 0),HP.tt,rfl,⟨some ⟨x,0,none⟩,0,c,?_,?_⟩,H⟩
   ·rw [semW_slice]
    have h2 : ORead Tryz.prog (sliceS 28 (.slice (some ⟨x,0,none⟩) m c) (iv none) (iv (some 0)) (iv none)) (OwB (some ⟨x,0,none⟩) m c (List.replicate m 0)) (.slice (some ⟨x,0,none⟩) 0 c) := by
     simpa [addr_add] using slice_ok und8 info8i (OwB (some ⟨x,0,none⟩) m c (List.replicate m 0)) (some ⟨x,0,none⟩) m c none (some 0) none (Nat.le_refl _) (Nat.zero_le _) (Nat.le_refl _) (fun h => by cases h)
    exact h2
   ·refine .of fun R h H => ⟨some ⟨x,0,none⟩,c,rfl,?_⟩
    obtain ⟨hl,h'⟩ := HP.sep_right H
    rcases h' with ⟨e,_⟩ | ⟨g,cur,e,hg,q1,q2,q3,q4⟩
    ·cases e
    ·exact ⟨by simp,.inr ⟨g,cur,e,hg,Nat.zero_le _,q2,q3,by simp⟩⟩
 ·exact .of fun R h H => ⟨none,0,rfl,OwC.nil _ _ R h⟩
def wrapS (l : List UInt8) : List UInt8 := l ++ beN (sumS l) 4
def unwrapS (l : List UInt8) : Option (List UInt8) := if l.length < 4 then none else if beV (l.drop (l.length - 4)) = sumS (l.take (l.length - 4)) then some (l.take (l.length - 4)) else none
theorem wrapS_len (l : List UInt8) : (wrapS l).length = l.length + 4 := by simp [wrapS,beN_len]
theorem sumS_lt (l : List UInt8) : sumS l < 4294967296 := moreS_lt (by decide) l
theorem RdL.subs {S : HP} {a : Option Addr} {n : Nat} {xs : List Value} (r : RdL S a n xs) (o k : Nat) (hk : o + k ≤ n) (z : Prop) [Decidable z] (hz : z → k = 0) : RdL S (if z then a else a.map fun x => x.add o) k ((xs.drop o).take k) where
 rd w R h F s H j u hj := by
  rw [List.getElem?_take] at hj
  split at hj
  ·rename_i hjk
   rw [List.getElem?_drop] at hj
   obtain ⟨g,off,rfl,hc⟩ := r.rd w R h F s H (o + j) u hj
   rw [if_neg (fun h => by have := hz h; omega)]
   refine ⟨g,off + o,by rw [Option.map_some,RX.addr_add],?_⟩
   rw [Nat.add_assoc]; exact hc
  ·cases hj
 none R h H e := by
  split at e
  ·exact hz ‹_›
  ·have := r.none R h H (by simpa using e); omega
theorem unwrap_ok (a : Option Addr) (n c : Nat) (l : List UInt8) (S : HP) (hr : RdL S a n (l.map u8v)) (hl : l.length = n) (hc : n ≤ c) (ha : n ≠ 0 → a.isSome = true) (hb : n ≤ 140737488355000) :
  Tri Tryz.prog 84 #[.slice a n c] S (fun v => HP.ex fun a' => HP.ex fun c' => HP.and (v = .tuple #[.slice a' ((unwrapS l).getD []).length c',.int .i64 (if (unwrapS l).isSome then 0 else 3)])
   (HP.sep S (OwB a' ((unwrapS l).getD []).length c' ((unwrapS l).getD [])))) := by
 refine tri_of_tree (ρ := [.a a,.n n,.n c,.p S]) mixed Tryz.func84 tree_cUnwrap ?_
 unfold t_cUnwrap
 simp only [T.den,E.prop,E.den,RX.look,F1.app,F2.app,Uni.int_i,Uni.nat_n,Uni.bool_c,Uni.str_s,Uni.adr_a,Uni.val_v,Uni.hp_p,hden,cden,V.den,W.den,A.den,BR.den,SA.den,FV.den,capV,exs,exP,allP,Cur.app,List.map_cons,List.map_nil,List.cons_append,List.nil_append,List.drop_succ_cons,List.drop_zero,List.length_cons,List.length_nil,Nat.zero_add,Nat.reduceAdd,Int.neg_neg,Bool.not_not,List.append_nil,Nat.add_zero,List.getElem?_cons_zero,List.getElem?_cons_succ,Decidable.not_not,semW_eq,ne_eq,Nat.reduceEqDiff,not_false_eq_true]
 subst hl
 have bad : ∀ R h,unwrapS l = none → S.p R h → (HP.ex fun a' => HP.ex fun c' => HP.and (Value.tuple #[.slice none 0 0,.int .i64 3] = .tuple #[.slice a' ((unwrapS l).getD []).length c',.int .i64 (if (unwrapS l).isSome then 0 else 3)])
   (HP.sep S (OwB a' ((unwrapS l).getD []).length c' ((unwrapS l).getD [])))).p R h := fun R h e H => by
  rw [e]; exact ⟨none,0,rfl,HP.sep_comm (HP.sep_mono (HP.tt_sep H) (fun y _ => OwC.nil _ _ R y) fun _ h => h)⟩
 refine ⟨inI64 _ (by omega) (by omega),fun _ => ⟨fun h4 => ?_,fun h4 => ?_⟩⟩
 ·exact .of fun R h H => bad R h (by unfold unwrapS; rw [if_pos (by omega)]) H
 ·obtain ⟨m,hm⟩ : ∃ m,l.length = m + 4 := ⟨l.length - 4,by omega⟩
  have em : ((l.length : Int) - 4) = (m : Nat) := by omega
  rw [em]
  have r1 : RdL S (if m = 0 then a else a.map fun x => x.add (0 * szT Tryz.prog 5)) m ((l.take m).map u8v) := by
   have := hr.subs 0 m (by omega) (m = 0) (fun h => h)
   rw [Nat.zero_mul,List.map_take]; simpa using this
  have r2 : RdL S (if c = m then a else a.map fun x => x.add (m * szT Tryz.prog 5)) 4 ((l.drop m).map u8v) := by
   have := hr.subs m 4 (by omega) (c = m) (fun h => by omega)
   rw [sz8,Nat.mul_one,List.map_drop]
   rwa [List.take_of_length_le (by simp; omega)] at this
  have hA1 : m ≠ 0 → (if m = 0 then a else a.map fun x => x.add (0 * szT Tryz.prog 5)).isSome = true := fun h => by
   rw [if_neg h,Option.isSome_map]; exact ha (by omega)
  have lt1 : (l.take m).length = m := by rw [List.length_take]; omega
  have lt2 : (l.drop m).length = 4 := by rw [List.length_drop]; omega
  refine ⟨(if m = 0 then a else a.map fun x => x.add (0 * szT Tryz.prog 5)),m,m,by rw [semW_slice]; exact slice_ok und8 info8i S a l.length c (some 0) (some m) (some m) (Nat.zero_le _) (Nat.le_refl _) (by show m ≤ c; omega) (fun _ => rfl),(if c = m then a else a.map fun x => x.add (m * szT Tryz.prog 5)),4,c - m,?_,?_⟩
  ·rw [semW_slice]
   have := slice_ok und8 info8i S a l.length c (some m) none none (by show m ≤ l.length; omega) (by show l.length ≤ c; omega) (Nat.le_refl _) (fun h => by cases h)
   have e4 : l.length - m = 4 := by omega
   simp only [Option.getD_some,Option.getD_none,e4] at this
   exact this
  refine (rRead_ok _ 4 (c - m) (l.drop m) S r2 lt2 (by omega)).weak (fun _ _ h => h) ?_
  rintro v R h ⟨b,rfl,H⟩
  refine ⟨b,_,S,rfl,?_,HP.sep_comm H⟩
  refine (rNumber_ok b (l.drop m,false) 4 (by omega)).weak (fun _ _ h => h) ?_
  rintro v R h ⟨rfl,H⟩
  refine ⟨_,_,rfl,?_,H⟩
  refine (sum_ok _ m m (l.take m) S r1 lt1 hA1 (by omega)).weak (fun _ _ h => h) ?_
  rintro v R h ⟨rfl,H⟩
  have hlt := sumS_lt (l.take m)
  have hn : (numR (l.drop m,false) 4).1 = beV (l.drop m) := by
   unfold numR takeR
   rw [if_neg (by simp),if_neg (by rw [lt2]; omega),List.take_of_length_le (by rw [lt2]; omega)]
  rw [hn]
  have hu : unwrapS l = if beV (l.drop m) = sumS (l.take m) then some (l.take m) else none := by
   unfold unwrapS
   rw [if_neg (by omega),show l.length - 4 = m by omega]
  refine ⟨_,S,rfl,⟨inU64 _ (by omega) (by omega),fun _ => ⟨fun hne => ?_,fun he => ?_⟩⟩,H⟩
  ·exact .of fun R h H => bad R h (by rw [hu,if_neg (by omega)]) H
  ·rw [if_pos (by omega)] at hu
   refine (clone8_ok S _ m m (l.take m) r1 lt1 (by omega)).weak (fun _ _ h => h) ?_
   rintro v R h ⟨a',c',rfl,H⟩
   refine ⟨a',m,c',OwB a' m c' (l.take m),S,rfl,.of fun R h H => ?_,H⟩
   rw [hu]
   refine ⟨a',c',?_,?_⟩
   ·simp only [Option.getD_some,Option.isSome_some,if_true,lt1]
   ·simp only [Option.getD_some,lt1]; exact H
end Go.Proofs.YtdieogcemmnaaaaGreatDoor

namespace Go.Proofs.YtdieogcemmnaaaaGreatDoor
open Go.Proofs.YtdieogcemmnaaaaGreatDoor RX
def sE (l : List UInt8) : Value := .string ⟨l.toArray⟩
theorem bytes_beq (a b : List UInt8) : ((⟨a.toArray⟩ : ByteArray) == ⟨b.toArray⟩) = decide (a = b) := by
 have : ((⟨a.toArray⟩ : ByteArray) == ⟨b.toArray⟩) = (a.toArray == b.toArray) := rfl
 rw [this]
 by_cases h : a = b
 ·subst h; simp
 ·simp [h]
theorem str_enc {P : Program} {kt : TypeId} (h : P.underlying kt = some .string) : KeyEnc P kt sE where
 check em k w := by
  unfold Instr.checkKey
  simp [run_underlying h,sE]
 find k l w := by
  unfold Instr.findKey
  have hn : ∀ (l : AL (List UInt8)) (i : Nat),Instr.findNow .string (sE k) (l.map (toE sE)) i = some (alIdx k l i) := by
   intro l
   induction l with
   | nil => intro i; rfl
   | cons x l ih =>
    intro i
    simp only [List.map_cons,Instr.findNow,toE,sE,Instr.sameNow,alIdx,bytes_beq]
    by_cases e : k = x.1
    ·simp [e]
    ·simp only [decide_eq_false e,if_neg e]
     exact ih (i + 1)
  simp only [Sem.run_bind,run_underlying h,Result.andThen,hn,Sem.run_pure]
 bits k := by simp [Instr.sameBits,sE,bytes_beq]
end Go.Proofs.YtdieogcemmnaaaaGreatDoor

namespace Go.Proofs
open Go.Shelf
def Tryz.lays137_ren : Go.Shelf.Ren := ⟨fun | 137 => 238 | 217 => 262 | 266 => 272 | n => n,fun | 9 => 9 | 5 => 5 | 3 => 3 | n => n,fun | n => n⟩
theorem Tryz.lays137 : Go.Proofs.Lays.n137 Tryz.prog Tryz.lays137_ren := {
 mixed := by kernel_rfl
 f137 := Tryz.func238.trans (congrArg some (by kernel_rfl))
 f217 := Tryz.func262.trans (congrArg some (by kernel_rfl))
 f266 := Tryz.func272.trans (congrArg some (by kernel_rfl))
 t3 := Tryz.underlying3
 a3 := Tryz.isAgg3
 z3 := Tryz.sizeOf3
 v3 := Tryz.zeroValue3
 t5 := Tryz.underlying5
 a5 := Tryz.isAgg5
 z5 := Tryz.sizeOf5
 v5 := Tryz.zeroValue5
 t9 := Tryz.underlying9
 a9 := Tryz.isAgg9
 z9 := Tryz.sizeOf9
 v9 := Tryz.zeroValue9 }
open Go.RowKit in
theorem Tryz.strings_IndexByte (s : ByteArray) (c : Int) (w : World) :
  Calls Tryz.prog 238 #[.string s,.int .u8 c] w fun e w' => e = .returned (.int .i64 (Lib.indexByte s.data.toList c.toNat.toUInt8)) ∧ w' = w := Any.strings_IndexByte Tryz.lays137 s c w
def Tryz.lays143_ren : Go.Shelf.Ren := ⟨fun | 143 => 269 | 219 => 278 | 217 => 262 | 225 => 280 | 224 => 281 | 267 => 282 | 266 => 272 | 314 => 283 | n => n,fun | 9 => 9 | 3 => 3 | 4 => 4 | 5 => 5 | 46 => 283 | 146 => 360 | 51 => 243 | n => n,fun | 1 => 1 | n => n⟩
theorem Tryz.lays143 : Go.Proofs.Lays.n143 Tryz.prog Tryz.lays143_ren := {
 mixed := by kernel_rfl
 f143 := Tryz.func269.trans (congrArg some (by kernel_rfl))
 f217 := Tryz.func262.trans (congrArg some (by kernel_rfl))
 f219 := Tryz.func278.trans (congrArg some (by kernel_rfl))
 f224 := Tryz.func281.trans (congrArg some (by kernel_rfl))
 f225 := Tryz.func280.trans (congrArg some (by kernel_rfl))
 f266 := Tryz.func272.trans (congrArg some (by kernel_rfl))
 f267 := Tryz.func282.trans (congrArg some (by kernel_rfl))
 f314 := Tryz.func283.trans (congrArg some (by kernel_rfl))
 t3 := Tryz.underlying3
 a3 := Tryz.isAgg3
 z3 := Tryz.sizeOf3
 v3 := Tryz.zeroValue3
 t4 := Tryz.underlying4
 a4 := Tryz.isAgg4
 z4 := Tryz.sizeOf4
 v4 := Tryz.zeroValue4
 t5 := Tryz.underlying5
 a5 := Tryz.isAgg5
 z5 := Tryz.sizeOf5
 v5 := Tryz.zeroValue5
 t9 := Tryz.underlying9
 a9 := Tryz.isAgg9
 z9 := Tryz.sizeOf9
 v9 := Tryz.zeroValue9
 t46 := Tryz.underlying283
 a46 := Tryz.isAgg283
 z46 := Tryz.sizeOf283
 v46 := Tryz.zeroValue283
 t51 := Tryz.underlying243
 a51 := Tryz.isAgg243
 z51 := Tryz.sizeOf243
 v51 := Tryz.zeroValue243
 t146 := Tryz.underlying360
 a146 := Tryz.isAgg360
 z146 := Tryz.sizeOf360
 v146 := Tryz.zeroValue360
 g1 := by kernel_rfl }
open Go.RowKit Go.Lib in
theorem Tryz.strings_Index_one (s : ByteArray) (c : UInt8) (w : World) :
  Calls Tryz.prog 269 #[.string s,.string ⟨#[c]⟩] w fun e w' => e = .returned (.int .i64 (Lib.indexByte s.data.toList c)) ∧ w' = w := Any.strings_Index_one Tryz.lays143 s c w
def Tryz.lays138_ren : Go.Shelf.Ren := ⟨fun | 138 => 268 | 195 => 275 | 218 => 277 | 143 => 269 | 219 => 278 | 217 => 262 | 225 => 280 | 224 => 281 | 267 => 282 | 266 => 272 | 314 => 283 | n => n,fun | 9 => 9 | 3 => 3 | 4 => 4 | 5 => 5 | 0 => 0 | 46 => 283 | 146 => 360 | 51 => 243 | n => n,fun | 1 => 1 | n => n⟩
theorem Tryz.lays138 : Go.Proofs.Lays.n138 Tryz.prog Tryz.lays138_ren := {
 mixed := by kernel_rfl
 f138 := Tryz.func268.trans (congrArg some (by kernel_rfl))
 f143 := Tryz.func269.trans (congrArg some (by kernel_rfl))
 f195 := Tryz.func275.trans (congrArg some (by kernel_rfl))
 f217 := Tryz.func262.trans (congrArg some (by kernel_rfl))
 f218 := Tryz.func277.trans (congrArg some (by kernel_rfl))
 f219 := Tryz.func278.trans (congrArg some (by kernel_rfl))
 f224 := Tryz.func281.trans (congrArg some (by kernel_rfl))
 f225 := Tryz.func280.trans (congrArg some (by kernel_rfl))
 f266 := Tryz.func272.trans (congrArg some (by kernel_rfl))
 f267 := Tryz.func282.trans (congrArg some (by kernel_rfl))
 f314 := Tryz.func283.trans (congrArg some (by kernel_rfl))
 t0 := Tryz.underlying0
 a0 := Tryz.isAgg0
 z0 := Tryz.sizeOf0
 v0 := Tryz.zeroValue0
 t3 := Tryz.underlying3
 a3 := Tryz.isAgg3
 z3 := Tryz.sizeOf3
 v3 := Tryz.zeroValue3
 t4 := Tryz.underlying4
 a4 := Tryz.isAgg4
 z4 := Tryz.sizeOf4
 v4 := Tryz.zeroValue4
 t5 := Tryz.underlying5
 a5 := Tryz.isAgg5
 z5 := Tryz.sizeOf5
 v5 := Tryz.zeroValue5
 t9 := Tryz.underlying9
 a9 := Tryz.isAgg9
 z9 := Tryz.sizeOf9
 v9 := Tryz.zeroValue9
 t46 := Tryz.underlying283
 a46 := Tryz.isAgg283
 z46 := Tryz.sizeOf283
 v46 := Tryz.zeroValue283
 t51 := Tryz.underlying243
 a51 := Tryz.isAgg243
 z51 := Tryz.sizeOf243
 v51 := Tryz.zeroValue243
 t146 := Tryz.underlying360
 a146 := Tryz.isAgg360
 z146 := Tryz.sizeOf360
 v146 := Tryz.zeroValue360
 g1 := by kernel_rfl }
open Go.RowKit Go.Lib in
theorem Tryz.strings_Count_one (s : ByteArray) (c : UInt8) (w : World) :
  Calls Tryz.prog 268 #[.string s,.string ⟨#[c]⟩] w fun e w' => e = .returned (.int .i64 (Lib.countByte s.data.toList c)) ∧ w' = w := Any.strings_Count_one Tryz.lays138 s c w
def Tryz.lays189_ren : Go.Shelf.Ren := ⟨fun | 189 => 134 | 125 => 193 | 257 => 192 | 128 => 227 | 129 => 228 | 294 => 218 | 295 => 219 | 296 => 220 | 297 => 221 | 298 => 222 | 299 => 223 | 216 => 224 | 300 => 225 | 301 => 226 | 328 => 253 | 329 => 254 | 330 => 255 | 331 => 256 | 332 => 257 | 215 => 209 | 343 => 270 | n => n,fun | 28 => 89 | 3 => 3 | 46 => 283 | 0 => 0 | 51 => 243 | 53 => 172 | 4 => 4 | 183 => 303 | 182 => 302 | 131 => 201 | 5 => 5 | 9 => 9 | 218 => 334 | 222 => 338 | 228 => 347 | 229 => 76 | n => n,fun | n => n⟩
theorem Tryz.lays189 : Go.Proofs.Lays.n189 Tryz.prog Tryz.lays189_ren := {
 mixed := by kernel_rfl
 f125 := Tryz.func193.trans (congrArg some (by kernel_rfl))
 f128 := Tryz.func227.trans (congrArg some (by kernel_rfl))
 f129 := Tryz.func228.trans (congrArg some (by kernel_rfl))
 f189 := Tryz.func134.trans (congrArg some (by kernel_rfl))
 f215 := Tryz.func209.trans (congrArg some (by kernel_rfl))
 f216 := Tryz.func224.trans (congrArg some (by kernel_rfl))
 f257 := Tryz.func192.trans (congrArg some (by kernel_rfl))
 f294 := Tryz.func218.trans (congrArg some (by kernel_rfl))
 f295 := Tryz.func219.trans (congrArg some (by kernel_rfl))
 f296 := Tryz.func220.trans (congrArg some (by kernel_rfl))
 f297 := Tryz.func221.trans (congrArg some (by kernel_rfl))
 f298 := Tryz.func222.trans (congrArg some (by kernel_rfl))
 f299 := Tryz.func223.trans (congrArg some (by kernel_rfl))
 f300 := Tryz.func225.trans (congrArg some (by kernel_rfl))
 f301 := Tryz.func226.trans (congrArg some (by kernel_rfl))
 f328 := Tryz.func253.trans (congrArg some (by kernel_rfl))
 f329 := Tryz.func254.trans (congrArg some (by kernel_rfl))
 f330 := Tryz.func255.trans (congrArg some (by kernel_rfl))
 f331 := Tryz.func256.trans (congrArg some (by kernel_rfl))
 f332 := Tryz.func257.trans (congrArg some (by kernel_rfl))
 f343 := Tryz.func270.trans (congrArg some (by kernel_rfl))
 t0 := Tryz.underlying0
 a0 := Tryz.isAgg0
 z0 := Tryz.sizeOf0
 v0 := Tryz.zeroValue0
 t3 := Tryz.underlying3
 a3 := Tryz.isAgg3
 z3 := Tryz.sizeOf3
 v3 := Tryz.zeroValue3
 t4 := Tryz.underlying4
 a4 := Tryz.isAgg4
 z4 := Tryz.sizeOf4
 v4 := Tryz.zeroValue4
 t5 := Tryz.underlying5
 a5 := Tryz.isAgg5
 z5 := Tryz.sizeOf5
 v5 := Tryz.zeroValue5
 t9 := Tryz.underlying9
 a9 := Tryz.isAgg9
 z9 := Tryz.sizeOf9
 v9 := Tryz.zeroValue9
 t28 := Tryz.underlying89
 a28 := Tryz.isAgg89
 z28 := Tryz.sizeOf89
 v28 := Tryz.zeroValue89
 t46 := Tryz.underlying283
 a46 := Tryz.isAgg283
 z46 := Tryz.sizeOf283
 v46 := Tryz.zeroValue283
 t51 := Tryz.underlying243
 a51 := Tryz.isAgg243
 z51 := Tryz.sizeOf243
 v51 := Tryz.zeroValue243
 t53 := Tryz.underlying172
 a53 := Tryz.isAgg172
 z53 := Tryz.sizeOf172
 v53 := Tryz.zeroValue172
 t131 := Tryz.underlying201
 a131 := Tryz.isAgg201
 z131 := Tryz.sizeOf201
 v131 := Tryz.zeroValue201
 t182 := Tryz.underlying302
 a182 := Tryz.isAgg302
 z182 := Tryz.sizeOf302
 v182 := Tryz.zeroValue302
 t183 := Tryz.underlying303
 a183 := Tryz.isAgg303
 z183 := Tryz.sizeOf303
 v183 := Tryz.zeroValue303
 t218 := Tryz.underlying334
 a218 := Tryz.isAgg334
 z218 := Tryz.sizeOf334
 v218 := Tryz.zeroValue334
 t222 := Tryz.underlying338
 a222 := Tryz.isAgg338
 z222 := Tryz.sizeOf338
 v222 := Tryz.zeroValue338
 t228 := Tryz.underlying347
 a228 := Tryz.isAgg347
 z228 := Tryz.sizeOf347
 v228 := Tryz.zeroValue347
 t229 := Tryz.underlying76
 a229 := Tryz.isAgg76
 z229 := Tryz.sizeOf76
 v229 := Tryz.zeroValue76 }
open Go.Sort Go.RowKit in
theorem Tryz.slices_Sort_int (blk off cap : Nat) (zs : List Int) (w : World) (hH : Holds (Value.int .i64) w blk off zs.toArray) (hblk : blk < w.heap.size) (hsz : zs.length < 4611686018427387904) :
  Calls Tryz.prog 134 #[.slice (some ⟨blk,off,none⟩) zs.length cap] w fun e w' =>
   e = .returned (.tuple #[]) ∧ ∃ n os,w' = grow (putRow (Value.int .i64) (Sort.ahead w n) blk off (zs.mergeSort fun x y => decide (x ≤ y)).toArray) os := Any.slices_Sort_int Tryz.lays189 blk off cap zs w hH hblk hsz
def Tryz.lays190_ren : Go.Shelf.Ren := ⟨fun | 190 => 137 | 125 => 193 | 258 => 195 | 128 => 227 | 129 => 228 | 302 => 229 | 303 => 230 | 304 => 231 | 305 => 232 | 306 => 233 | 307 => 234 | 308 => 235 | 309 => 236 | 310 => 237 | 333 => 258 | 329 => 254 | 330 => 255 | 334 => 259 | 335 => 260 | 336 => 261 | 344 => 271 | n => n,fun | 31 => 29 | 9 => 9 | 3 => 3 | 46 => 283 | 0 => 0 | 51 => 243 | 53 => 172 | 4 => 4 | 183 => 303 | 182 => 302 | 131 => 201 | 5 => 5 | 218 => 334 | 222 => 338 | 228 => 347 | 229 => 76 | n => n,fun | n => n⟩
theorem Tryz.lays190 : Go.Proofs.Lays.n190 Tryz.prog Tryz.lays190_ren := {
 mixed := by kernel_rfl
 f125 := Tryz.func193.trans (congrArg some (by kernel_rfl))
 f128 := Tryz.func227.trans (congrArg some (by kernel_rfl))
 f129 := Tryz.func228.trans (congrArg some (by kernel_rfl))
 f190 := Tryz.func137.trans (congrArg some (by kernel_rfl))
 f258 := Tryz.func195.trans (congrArg some (by kernel_rfl))
 f302 := Tryz.func229.trans (congrArg some (by kernel_rfl))
 f303 := Tryz.func230.trans (congrArg some (by kernel_rfl))
 f304 := Tryz.func231.trans (congrArg some (by kernel_rfl))
 f305 := Tryz.func232.trans (congrArg some (by kernel_rfl))
 f306 := Tryz.func233.trans (congrArg some (by kernel_rfl))
 f307 := Tryz.func234.trans (congrArg some (by kernel_rfl))
 f308 := Tryz.func235.trans (congrArg some (by kernel_rfl))
 f309 := Tryz.func236.trans (congrArg some (by kernel_rfl))
 f310 := Tryz.func237.trans (congrArg some (by kernel_rfl))
 f329 := Tryz.func254.trans (congrArg some (by kernel_rfl))
 f330 := Tryz.func255.trans (congrArg some (by kernel_rfl))
 f333 := Tryz.func258.trans (congrArg some (by kernel_rfl))
 f334 := Tryz.func259.trans (congrArg some (by kernel_rfl))
 f335 := Tryz.func260.trans (congrArg some (by kernel_rfl))
 f336 := Tryz.func261.trans (congrArg some (by kernel_rfl))
 f344 := Tryz.func271.trans (congrArg some (by kernel_rfl))
 t0 := Tryz.underlying0
 a0 := Tryz.isAgg0
 z0 := Tryz.sizeOf0
 v0 := Tryz.zeroValue0
 t3 := Tryz.underlying3
 a3 := Tryz.isAgg3
 z3 := Tryz.sizeOf3
 v3 := Tryz.zeroValue3
 t4 := Tryz.underlying4
 a4 := Tryz.isAgg4
 z4 := Tryz.sizeOf4
 v4 := Tryz.zeroValue4
 t5 := Tryz.underlying5
 a5 := Tryz.isAgg5
 z5 := Tryz.sizeOf5
 v5 := Tryz.zeroValue5
 t9 := Tryz.underlying9
 a9 := Tryz.isAgg9
 z9 := Tryz.sizeOf9
 v9 := Tryz.zeroValue9
 t31 := Tryz.underlying29
 a31 := Tryz.isAgg29
 z31 := Tryz.sizeOf29
 v31 := Tryz.zeroValue29
 t46 := Tryz.underlying283
 a46 := Tryz.isAgg283
 z46 := Tryz.sizeOf283
 v46 := Tryz.zeroValue283
 t51 := Tryz.underlying243
 a51 := Tryz.isAgg243
 z51 := Tryz.sizeOf243
 v51 := Tryz.zeroValue243
 t53 := Tryz.underlying172
 a53 := Tryz.isAgg172
 z53 := Tryz.sizeOf172
 v53 := Tryz.zeroValue172
 t131 := Tryz.underlying201
 a131 := Tryz.isAgg201
 z131 := Tryz.sizeOf201
 v131 := Tryz.zeroValue201
 t182 := Tryz.underlying302
 a182 := Tryz.isAgg302
 z182 := Tryz.sizeOf302
 v182 := Tryz.zeroValue302
 t183 := Tryz.underlying303
 a183 := Tryz.isAgg303
 z183 := Tryz.sizeOf303
 v183 := Tryz.zeroValue303
 t218 := Tryz.underlying334
 a218 := Tryz.isAgg334
 z218 := Tryz.sizeOf334
 v218 := Tryz.zeroValue334
 t222 := Tryz.underlying338
 a222 := Tryz.isAgg338
 z222 := Tryz.sizeOf338
 v222 := Tryz.zeroValue338
 t228 := Tryz.underlying347
 a228 := Tryz.isAgg347
 z228 := Tryz.sizeOf347
 v228 := Tryz.zeroValue347
 t229 := Tryz.underlying76
 a229 := Tryz.isAgg76
 z229 := Tryz.sizeOf76
 v229 := Tryz.zeroValue76 }
open Go.Sort Go.RowKit in
theorem Tryz.slices_Sort_string (blk off cap : Nat) (ss : List (List UInt8)) (w : World) (hH : Holds encStr w blk off ss.toArray) (hblk : blk < w.heap.size) (hsz : ss.length < 4611686018427387904) :
  Calls Tryz.prog 137 #[.slice (some ⟨blk,off,none⟩) ss.length cap] w fun e w' =>
   e = .returned (.tuple #[]) ∧ ∃ n os,w' = grow (putRow encStr (Sort.ahead w n) blk off (ss.mergeSort fun x y => decide (x ≤ y)).toArray) os := Any.slices_Sort_string Tryz.lays190 blk off cap ss w hH hblk hsz
def Tryz.lays99_ren : Go.Shelf.Ren := ⟨fun | 99 => 214 | 206 => 250 | n => n,fun | 9 => 9 | 4 => 4 | 3 => 3 | n => n,fun | n => n⟩
theorem Tryz.lays99 : Go.Proofs.Lays.n99 Tryz.prog Tryz.lays99_ren := {
 mixed := by kernel_rfl
 f99 := Tryz.func214.trans (congrArg some (by kernel_rfl))
 f206 := Tryz.func250.trans (congrArg some (by kernel_rfl))
 t3 := Tryz.underlying3
 a3 := Tryz.isAgg3
 z3 := Tryz.sizeOf3
 v3 := Tryz.zeroValue3
 t4 := Tryz.underlying4
 a4 := Tryz.isAgg4
 z4 := Tryz.sizeOf4
 v4 := Tryz.zeroValue4
 t9 := Tryz.underlying9
 a9 := Tryz.isAgg9
 z9 := Tryz.sizeOf9
 v9 := Tryz.zeroValue9 }
open Go.RowKit Go.Lib in
theorem Tryz.strings_HasPrefix (s p : ByteArray) (w : World) :
  Calls Tryz.prog 214 #[.string s,.string p] w fun e w' => e = .returned (.bool (Lib.hasPrefix s.data.toList p.data.toList)) ∧ w' = w := Any.strings_HasPrefix Tryz.lays99 s p w
open Go.RowKit Go.Sort in
theorem Tryz.slices_Sort_string_none (p : Option Addr) (cap : Nat) (w : World) :
  Calls Tryz.prog 137 #[.slice p 0 cap] w fun e w' => e = .returned (.tuple #[]) ∧ w' = w := Any.slices_Sort_string_none Tryz.lays190 p cap w
open Go.RowKit Go.Sort in
theorem Tryz.slices_Sort_int_none (p : Option Addr) (cap : Nat) (w : World) :
  Calls Tryz.prog 134 #[.slice p 0 cap] w fun e w' => e = .returned (.tuple #[]) ∧ w' = w := Any.slices_Sort_int_none Tryz.lays189 p cap w
def Tryz.laysSlC25_f176_ren : Go.Shelf.Ren := ⟨fun | 5 => 176 | 7 => 209 | n => n,fun | 22 => 3 | 3 => 3 | 4 => 4 | n => n,fun | n => n⟩
theorem Tryz.laysSlC25_f176 : Go.Proofs.SlLaysC2.n5 Tryz.prog Tryz.laysSlC25_f176_ren := {
 mixed := by kernel_rfl
 f5 := ⟨Tryz.f176.name,by decide,Tryz.func176.trans (congrArg some (by kernel_rfl))⟩
 f7 := ⟨Tryz.f209.name,by decide,Tryz.func209.trans (congrArg some (by kernel_rfl))⟩
 t3 := Tryz.underlying3
 a3 := Tryz.isAgg3
 z3 := Tryz.sizeOf3
 v3 := Tryz.zeroValue3
 t4 := Tryz.underlying4
 a4 := Tryz.isAgg4
 z4 := Tryz.sizeOf4
 v4 := Tryz.zeroValue4
 t22 := Tryz.underlying3
 a22 := Tryz.isAgg3
 z22 := Tryz.sizeOf3
 v22 := Tryz.zeroValue3 }
open Go.Lib in
theorem Tryz.cmp_Compare_int (x y : Int) (w : World) :
  Calls Tryz.prog 176 #[.int .i64 x,.int .i64 y] w fun e w' => e = .returned (.int .i64 (Lib.compareInt x y)) ∧ w' = w := AnyG.cmp_Compare_int Tryz.laysSlC25_f176 x y w
end Go.Proofs

namespace Go.Proofs.YtdieogcemmnaaaaGreatDoor
open Go.Proofs.YtdieogcemmnaaaaGreatDoor RX
set_option maxRecDepth 100000
theorem Tri.ofCalls {P : Program} {f : FuncId} {args : Array Value} {v : Value} (A : HP) (h : ∀ w,Calls P f args w fun e w' => e = .returned v ∧ w' = w) : Tri P f args A (fun u => HP.and (u = v) A) := fun w R x F s a =>
 (h w).mono fun _ _ ⟨he,hw⟩ => ⟨v,he,by rw [hw]; exact Same.refl _,R,x,PH.le.refl _,by rw [hw]; exact s,rfl,a⟩
theorem hasPrefix_ok (s p : List UInt8) (A : HP) : Tri Tryz.prog 214 #[sE s,sE p] A (fun v => HP.and (v = .bool (p.isPrefixOf s)) A) :=
 Tri.ofCalls A fun w => by
  have := Tryz.strings_HasPrefix ⟨s.toArray⟩ ⟨p.toArray⟩ w
  exact this
theorem indexByte_ok (s : List UInt8) (c : Int) (A : HP) : Tri Tryz.prog 238 #[sE s,.int .u8 c] A (fun v => HP.and (v = .int .i64 (Lib.indexByte s c.toNat.toUInt8)) A) :=
 Tri.ofCalls A fun w => by
  have := Tryz.strings_IndexByte ⟨s.toArray⟩ c w
  exact this
theorem count1_ok (s : List UInt8) (c : UInt8) (A : HP) : Tri Tryz.prog 268 #[sE s,sE [c]] A (fun v => HP.and (v = .int .i64 (s.count c)) A) :=
 Tri.ofCalls A fun w => by
  have := Tryz.strings_Count_one ⟨s.toArray⟩ c w
  exact this
theorem index1_ok (s : List UInt8) (c : UInt8) (A : HP) : Tri Tryz.prog 269 #[sE s,sE [c]] A (fun v => HP.and (v = .int .i64 (Lib.indexByte s c)) A) :=
 Tri.ofCalls A fun w => by
  have := Tryz.strings_Index_one ⟨s.toArray⟩ c w
  exact this
def splitB (c : UInt8) : List UInt8 → List (List UInt8)
 | [] => [[]]
 | b :: r => if b = c then [] :: splitB c r else match splitB c r with
  | x :: q => (b :: x) :: q
  | [] => [[b]]
theorem splitB_len (c : UInt8) : ∀ s,(splitB c s).length = s.count c + 1
 | [] => rfl
 | b :: r => by
  have ih := splitB_len c r
  unfold splitB
  by_cases h : b = c
  ·subst h; rw [if_pos rfl]; simp [ih]
  ·rw [if_neg h]
   cases hq : splitB c r with
   | nil => rw [hq] at ih; simp at ih
   | cons x q => rw [hq] at ih; simp at ih ⊢; rw [List.count_cons_of_ne h]; omega
theorem splitB_none {c : UInt8} : ∀ {s : List UInt8},s.count c = 0 → splitB c s = [s]
 | [],_ => rfl
 | b :: r,h => by
  have hb : b ≠ c := fun e => by subst e; simp at h
  rw [List.count_cons_of_ne hb] at h
  unfold splitB
  rw [if_neg hb,splitB_none h]
theorem idx_neg {s : List UInt8} {c : UInt8} (h : Lib.indexByte s c < 0) : s.count c = 0 := by
 have h1 : Lib.indexByte s c = -1 := by have := Lib.indexByte_ge s c; omega
 rw [List.count_eq_zero]
 intro hm
 obtain ⟨k,hk,e⟩ := List.mem_iff_getElem.1 hm
 exact Lib.indexByte_none h1 k (by rw [List.getElem?_eq_getElem hk,e])
theorem idx_neg_iff {s : List UInt8} {c : UInt8} : Lib.indexByte s c < 0 ↔ c ∉ s := by
 constructor
 ·intro h; exact List.count_eq_zero.1 (idx_neg h)
 ·intro h
  rcases Int.lt_or_le (Lib.indexByte s c) 0 with h1 | h1
  ·exact h1
  ·obtain ⟨o,ho⟩ : ∃ o : Nat,Lib.indexByte s c = o := ⟨_,(Int.toNat_of_nonneg h1).symm⟩
   exact absurd (List.mem_of_getElem? (Lib.indexByte_some ho).1) h
theorem splitB_at {c : UInt8} : ∀ {s : List UInt8} {o : Nat},Lib.indexByte s c = o → splitB c s = s.take o :: splitB c (s.drop (o + 1)) ∧ o < s.length ∧ s.count c = (s.drop (o + 1)).count c + 1
 | [],o,h => by unfold Lib.indexByte at h; omega
 | b :: r,o,h => by
  unfold Lib.indexByte at h
  rw [show splitB c (b :: r) = if b = c then [] :: splitB c r else match splitB c r with
   | x :: q => (b :: x) :: q
   | [] => [[b]] from rfl]
  by_cases hb : b = c
  ·subst hb
   rw [if_pos (by simp)] at h
   obtain rfl : o = 0 := by omega
   rw [if_pos rfl]
   simp
  ·rw [if_neg (by simpa using hb)] at h
   split at h
   ·omega
   ·rename_i hq
    have h0 : Lib.indexByte r c ≠ -1 := by simpa using hq
    have h00 := Lib.indexByte_ge r c
    obtain ⟨p,rfl⟩ : ∃ p,o = p + 1 := ⟨o - 1,by omega⟩
    obtain ⟨h1,h2,h3⟩ := splitB_at (c := c) (s := r) (o := p) (by omega)
    rw [if_neg hb,h1,List.count_cons_of_ne hb]
    simp only [List.take_succ_cons,List.drop_succ_cons,List.length_cons]
    exact ⟨trivial,by omega,h3⟩
abbrev OwS (a : Option Addr) (n c : Nat) (l : List (List UInt8)) : HP := OwC 9 1 a n c (l.map sE)
abbrev RoS (a : Option Addr) (n : Nat) (l : List (List UInt8)) : HP := RoC 1 a n (l.map sE)
theorem infoStr : (Tryz.prog.info? 9).map (fun i => (i.zero,i.size,i.bytes)) = some (some (.string .empty),1,16) := by kernel_rfl
theorem undSs : Tryz.prog.underlying 29 = some (.slice 9) := by kernel_rfl
theorem undStr : Tryz.prog.underlying 9 = some .string := by kernel_rfl
theorem aggStr : aggT Tryz.prog 9 = false := by kernel_rfl
theorem szStr : szT Tryz.prog 9 = 1 := by kernel_rfl
def mkS (t : TypeId) (n c : Value) : Sem Next := do pure (.value (← Instr.makeSlice t n c))
theorem semW_mk {t ty : TypeId} {i : Nat} {u : Value} : semW (.makeSlice t (.tmp i) (.tmp i)) ty [(i,u),(i,u)] = mkS t u u := by simp [semW,execOp,arW,mkS]
theorem made_rep (z : Value) (n : Nat) : (madeCells #[z] n).toList = List.replicate n z := by
 refine List.ext_getElem (by simp [madeCells]) fun i h1 h2 => ?_
 simp [madeCells,Nat.mod_one]
theorem mk_ok {t e : TypeId} {i : TypeInfo} {z : Value} (ht : Tryz.prog.underlying t = some (.slice e)) (hi : Tryz.prog.info? e = some i) (hz : i.zero = some z) (hzs : z.cells = #[z]) (hs : i.size = 1) (n : Nat) (hb : i.bytes * n ≤ 281474976710656) (hm : n ≤ maxLen) (A : HP) :
  OTri Tryz.prog (mkS t (.int .i64 n) (.int .i64 n)) A (fun v => HP.ex fun x => HP.and (v = .slice (some ⟨x,0,none⟩) n n) (HP.sep (OwC e 1 (some ⟨x,0,none⟩) n n (List.replicate n z)) A)) := fun w R h F s a => by
 have hr2 := run_make (P := Tryz.prog) w t e i z ht hi hz .i64 .i64 n n (by omega) (Int.le_refl _) (by have : ((i.bytes * n : Nat) : Int) ≤ 281474976710656 := by omega
                                                                                                       rwa [Int.natCast_mul] at this) (by unfold maxLen at hm; omega)
 simp only [Int.toNat_natCast] at hr2
 obtain ⟨s1,d1⟩ := s.alloc (.cells (madeCells z.cells (n * i.size)) e)
 refine ⟨.value _,_,_,by unfold mkS; rw [Sem.run_bind,hr2]; rfl,rfl,Same.alloc w _,R,_,PH.le.refl _,s1,w.heap.size,rfl,_,_,d1,PH.un_left _ _,PH.un_right d1,⟨by simp,.inr ⟨_,_,rfl,PH.one_self _ _,Nat.le_refl _,hm,?_,?_⟩⟩,a⟩
 ·rw [hzs,hs]; simp [madeCells]
 ·rw [hzs,hs,made_rep]; simp
def cpS (ts : Array TypeId) (ty : TypeId) (u v : Value) : Sem Next := do pure (.value (← Builtin.copy_ ts ty #[u,v]))
theorem semW_copy {ts : Array TypeId} {ty : TypeId} {i j : Nat} {u v : Value} (h : i ≠ j) : semW (.call ⟨.builtin .copy,#[.tmp i,.tmp j],ts⟩) ty [(i,u),(j,v)] = cpS ts ty u v := by
 have h' : (i == j) = false := by simpa using h
 simp [semW,execOp,resolve,arW,invoke,builtin,h',cpS]
theorem cp_ok {dT sT ty e : TypeId} {i : TypeInfo} (hu : Tryz.prog.underlying dT = some (.slice e)) (hi : Tryz.prog.info? e = some i) (hs : i.size = 1) (a : Option Addr) (n c : Nat) (xs : List Value) (o dl dc : Nat) (S : HP) (b : Option Addr) (m c2 : Nat) (ys : List Value)
  (hr : RdL S b m ys) (hl : ys.length = m) (hm : m ≠ 0 → b.isSome = true) (hb0 : b = none → c2 = 0) (h1 : ∀ v ∈ ys,v.oneCell' = true) (ha : a.isSome = true) (hfit : o + min m dl ≤ n) :
  OTri Tryz.prog (cpS #[dT,sT] ty (.slice (a.map fun x => x.add o) dl dc) (.slice b m c2)) (HP.sep (OwC e 1 a n c xs) S)
   (fun v => HP.and (v = .int .i64 ((min m dl : Nat) : Int)) (HP.sep (OwC e 1 a n c (xs.take o ++ ys.take (min m dl) ++ xs.drop (o + min m dl))) S)) := by
 rintro w R h F s ⟨x1,x2,d,l1,l2,⟨hxl,hx⟩,hS⟩
 rcases hx with ⟨rfl,_⟩ | ⟨g,cur,rfl,hg,q1,q2,q3,q4⟩
 ·cases ha
 have hw := s.oh _ _ (l1 _ _ hg)
 have hmin : (ys.take (min m dl)).length = min m dl := by rw [List.length_take,hl]; omega
 have hsi : (Tryz.prog.info? e).map (·.size) = some 1 := by rw [hi]; simp [hs]
 have hcur : o + min m dl ≤ cur.size := by rw [q3]; omega
 have key : (Builtin.copy_ #[dT,sT] ty #[.slice (some ⟨g,0 + o,none⟩) dl dc,.slice b m c2]).run Tryz.prog w = .ok (goInt ((min m dl : Nat) : Int)) (w.setRow g (cur.toList.take o ++ ys.take (min m dl) ++ cur.toList.drop (o + min m dl)).toArray) := by
  rw [Nat.zero_add]
  cases b with
  | none =>
   have : m = 0 := Classical.byContradiction fun hq => by have := hm hq; cases this
   subst this
   obtain rfl := hb0 rfl
   have hrun := run_copy_nil (P := Tryz.prog) w dT sT ty e ⟨g,o,none⟩ dl dc hu (by rw [hsi]; rfl)
   rw [hrun]
   simp only [Nat.zero_min,Nat.add_zero,List.take_zero,List.append_nil,List.take_append_drop]
   congr 1
   rw [show cur.toList.toArray = cur by simp]
   exact (setRow_self w g cur e (0,0) hw).symm
  | some ad =>
   have := run_copy_row (P := Tryz.prog) w dT sT ty e g o dl dc ad m c2 cur e (ys.take (min m dl)) hu hsi hw hmin (fun j v hj => ?_) (by rw [hmin]; exact hcur) (fun v hv => h1 v (List.mem_of_mem_take hv))
   ·rw [this,hmin]
   ·have hj2 : ys[j]? = some v := by
     rw [List.getElem?_take] at hj
     split at hj
     ·exact hj
     ·cases hj
    obtain ⟨g2,off,e2,hc⟩ := hr.rd w R x2 _ (s.cut d.symm l2 l1) hS j v hj2
    cases e2
    rw [addr_add]
    exact hc
 have hset : ∀ k,k ≠ g → (w.setRow g (cur.toList.take o ++ ys.take (min m dl) ++ cur.toList.drop (o + min m dl)).toArray).heap[k]? = w.heap[k]? := fun k hk => setRow_other w g k _ hk
 have hhg : h g = some (.cells cur e (0,0)) := l1 _ _ hg
 have hnew := setRow_heap w g cur (cur.toList.take o ++ ys.take (min m dl) ++ cur.toList.drop (o + min m dl)).toArray e (0,0) hw
 have s2 := s.turn (y := .cells (cur.toList.take o ++ ys.take (min m dl) ++ cur.toList.drop (o + min m dl)).toArray e (0,0)) hhg hset hnew
 have hx2g : x2 g = none := (d g).resolve_left (by rw [hg]; simp)
 refine ⟨.value (goInt ((min m dl : Nat) : Int)),goInt ((min m dl : Nat) : Int),w.setRow g (cur.toList.take o ++ ys.take (min m dl) ++ cur.toList.drop (o + min m dl)).toArray,by unfold cpS; simp only [Option.map_some,addr_add]; rw [Sem.run_bind,key]; rfl,rfl,⟨rfl,rfl,rfl,by simp⟩,R,_,PH.le.refl _,s2,by simp [goInt],?_⟩
 refine ⟨PH.one g (.cells (cur.toList.take o ++ ys.take (min m dl) ++ cur.toList.drop (o + min m dl)).toArray e (0,0)),x2,fun k => ?_,PH.one_le (if_pos rfl),fun k y hk => ?_,⟨?_,.inr ⟨g,_,rfl,PH.one_self _ _,q1,q2,?_,?_⟩⟩,hS⟩
 ·by_cases e' : k = g
  ·subst e'; exact .inr hx2g
  ·exact .inl (if_neg e')
 ·have : k ≠ g := fun e' => by subst e'; rw [hx2g] at hk; cases hk
  exact (if_neg this).trans (l2 _ _ hk)
 ·simp only [List.length_append,List.length_take,List.length_drop,hl,hxl]; omega
 ·simp only [List.size_toArray,List.length_append,List.length_take,List.length_drop,Array.length_toList,hl,q3]; omega
 ·subst q4
  simp only [List.take_append,List.length_append,List.length_take,Array.length_toList,List.take_take,List.drop_take,List.length_drop,hl]
  have m1 : min o cur.size = o := by omega
  have m2 : min (n * 1) o = o := by omega
  have m3 : min o (n * 1) = o := by omega
  have m4 : min (n * 1 - o) (min m dl) = min m dl := by omega
  have m5 : min (min m dl) m = min m dl := by omega
  rw [m1,m2,m3,m4,m5]
end Go.Proofs.YtdieogcemmnaaaaGreatDoor

namespace Go.Proofs.YtdieogcemmnaaaaGreatDoor.RX
set_option maxRecDepth 100000
-- tideline/path.Name: ρ := [.s s]
def t_pName : T :=
(.br (.o2 .lt (.o1 .ofNat (.o1 .size (.v 0))) (.i 1))
(.ret (.w (.a (.bool (.c false)))) [])
(.br (.o2 .lt (.i 16) (.o1 .ofNat (.o1 .size (.v 0))))
(.ret (.w (.a (.bool (.c false)))) [])
(.br (.o2 .seq (.v 0) (.s [46]))
(.ret (.w (.a (.bool (.c false)))) [])
(.br (.o2 .seq (.v 0) (.s [46,46]))
(.ret (.w (.a (.bool (.c false)))) [])
(.call 238 [.a (.str (.v 0)),.a (.int .u8 (.i 47))] [] [.i] (.w (.a (.int .i64 (.v 1)))) []
(.br (.o2 .lt (.v 1) (.i 0))
(.call 238 [.a (.str (.v 0)),.a (.int .u8 (.i 0))] [] [.i] (.w (.a (.int .i64 (.v 2)))) []
(.ret (.w (.a (.bool (.o2 .lt (.v 2) (.i 0))))) []))
(.ret (.w (.a (.bool (.c false)))) [])))))))
theorem tree_pName : tree Tryz.prog { keep := [205,190,189,130,213,216,217,252,169,215,238,214],opn := true,rdf := true } Tryz.f205 [.a (.str (.v 0))] [] 1 = t_pName := by kernel_rfl
def t_pSplit : T :=
(.br (.o2 .seq (.v 0) (.s [47]))
(.ret (.tup [.a (.sl .nil (.n 0) (.n 0)),.a (.int .i64 (.i 0))]) [])
(.br (.o2 .lt (.i 136) (.o1 .ofNat (.o1 .size (.v 0))))
(.ret (.tup [.a (.sl .nil (.n 0) (.n 0)),.a (.int .i64 (.i 20))]) [])
(.call 214 [.a (.str (.v 0)),.a (.str (.s [47]))] [] [.c] (.w (.a (.bool (.v 1)))) []
(.br (.o1 .not (.v 1))
(.ret (.tup [.a (.sl .nil (.n 0) (.n 0)),.a (.int .i64 (.i 20))]) [])
(.read (.slice 9 (.tmp 16) (some (.const (.int .i64 1))) none none) 9 [(16,.w (.a (.str (.v 0))))] [] [.s] (.w (.a (.str (.v 2))))
(.call 215 [.a (.str (.v 2)),.a (.str (.s [47]))] [] [.a,.n,.n,.p] (.w (.a (.sl (.v 3) (.v 4) (.v 5)))) [(.a 3,.prop 6)]
(.br (.o2 .lt (.i 8) (.o1 .ofNat (.v 4)))
(.ret (.tup [.a (.sl .nil (.n 0) (.n 0)),.a (.int .i64 (.i 20))]) [])
(.call 217 [.a (.sl (.v 3) (.v 4) (.v 5)),.a (.func 216 [])] [(.a 3,.prop 6)] [.c] (.w (.a (.bool (.v 7)))) [(.a 3,.prop 6)]
(.br (.v 7)
(.ret (.tup [.a (.sl .nil (.n 0) (.n 0)),.a (.int .i64 (.i 20))]) [])
(.ret (.tup [.a (.sl (.v 3) (.v 4) (.v 5)),.a (.int .i64 (.i 0))]) [(.a 3,.prop 6)]))))))))))
theorem tree_pSplit : tree Tryz.prog { keep := [205,190,189,130,213,216,217,252,169,215,238,214],opn := true,rdf := true } Tryz.f190 [.a (.str (.v 0))] [] 1 = t_pSplit := by kernel_rfl
def t_pSplitC : T :=
(.call 205 [.a (.str (.v 0))] [] [.c] (.w (.a (.bool (.v 1)))) []
(.ret (.w (.a (.bool (.o1 .not (.v 1))))) []))
theorem tree_pSplitC : tree Tryz.prog { keep := [205,190,189,130,213,216,217,252,169,215,238,214],opn := true,rdf := true } Tryz.f216 [.a (.str (.v 0))] [] 1 = t_pSplitC := by kernel_rfl
def t_sContainsF : T :=
(.call 252 [.a (.sl (.v 0) (.v 1) (.v 2)),.a (.val 4)] [(.a 0,.prop 3),(.a 4,.prop 5)] [.i] (.w (.a (.int .i64 (.v 6)))) [(.a 0,.prop 3),(.a 4,.prop 5)]
(.ret (.w (.a (.bool (.o2 .le (.i 0) (.v 6))))) [(.a 0,.prop 3),(.a 4,.prop 5)]))
theorem tree_sContainsF : tree Tryz.prog { keep := [205,190,189,130,213,216,217,252,169,215,238,214],opn := true,rdf := true } Tryz.f217 [.a (.sl (.v 0) (.v 1) (.v 2)),.a (.val 4)] [(.a 0,.prop 3),(.a 4,.prop 5)] 6 = t_sContainsF := by kernel_rfl
def t_sIndexF : T :=
(.loop [.i,.i,.p] [.e (.o1 .neg (.o1 .neg (.i 0))),.e (.o1 .neg (.o1 .neg (.i 0))),.p [(.a 4,.prop 5)]]
(.br (.o2 .lt (.v 7) (.o1 .ofNat (.v 1)))
(.need (.o2 .le (.i 0) (.v 7))
(.need (.o1 .isSome (.v 0))
(.read (.load 9 (.tmp 14)) 9 [(14,.w (.a (.eptr 0 (.v 7) 1 0)))] [(.a 0,.prop 3)] [.s] (.w (.a (.str (.v 9))))
 (.callv 4 [.a (.str (.v 9))] [(.a 4,.prop 8)] [.c,.p] (.w (.a (.bool (.v 10)))) [(.a 4,.prop 11)]
(.br (.v 10)
(.ret (.w (.a (.int .i64 (.v 7)))) [(.a 0,.prop 3),(.a 4,.prop 11)])
(.need (.o1 (.inr .i64) (.o2 .add (.v 7) (.i 1)))
(.again 0 [.e (.o1 .neg (.o1 .neg (.v 6))),.e (.o1 .neg (.o1 .neg (.o2 .add (.v 7) (.i 1)))),.p [(.a 4,.prop 11)]])))))))
(.ret (.w (.a (.int .i64 (.i (-1))))) [(.a 0,.prop 3),(.a 4,.prop 8)])))
theorem tree_sIndexF : tree Tryz.prog { hv := [(0,[.a 4])],keep := [205,190,189,130,213,216,217,252,169,215,238,214],opn := true,rdf := true } Tryz.f252 [.a (.sl (.v 0) (.v 1) (.v 2)),.a (.val 4)] [(.a 0,.prop 3),(.a 4,.prop 5)] 6 = t_sIndexF := by kernel_rfl
def t_pJoin : T :=
(.br (.o2 .eq (.o1 .ofNat (.v 1)) (.i 0))
(.ret (.w (.a (.str (.s [47])))) [(.a 0,.prop 3)])
(.new
(.loop [.i,.p] [.e (.o1 .neg (.o1 .neg (.i 0))),.p [(.b (.v 4),.cells [.nilp,.sl .nil (.n 0) (.n 0)] 325)]]
(.br (.o2 .lt (.v 5) (.o1 .ofNat (.v 1)))
(.need (.o2 .le (.i 0) (.v 5))
(.need (.o1 .isSome (.v 0))
(.read (.load 9 (.tmp 13)) 9 [(13,.w (.a (.eptr 0 (.v 5) 1 0)))] [(.a 0,.prop 3)] [.s] (.w (.a (.str (.v 7))))
(.call 247 [.a (.ptr (.v 4) 0),.a (.int .u8 (.i 47))] [(.b (.v 4),.prop 6)] [.v,.p,.p] (.w (.a (.val 8))) [(.a 8,.prop 9),(.b (.v 4),.prop 10)]
(.call 248 [.a (.ptr (.v 4) 0),.a (.str (.v 7))] [(.b (.v 4),.prop 10)] [.i,.v,.p,.p] (.tup [.a (.int .i64 (.v 11)),.a (.val 12)]) [(.a 12,.prop 13),(.b (.v 4),.prop 14)]
(.need (.o1 (.inr .i64) (.o2 .add (.v 5) (.i 1)))
(.again 0 [.e (.o1 .neg (.o1 .neg (.o2 .add (.v 5) (.i 1)))),.p [(.b (.v 4),.prop 14)]])))))))
(.call 249 [.a (.ptr (.v 4) 0)] [(.b (.v 4),.prop 6)] [.s,.p] (.w (.a (.str (.v 7)))) [(.b (.v 4),.prop 8)]
(.ret (.w (.a (.str (.v 7)))) [(.a 0,.prop 3)]))))))
theorem tree_pJoin : tree Tryz.prog { absT := [325],hv := [(0,[.b (.v 4)])],keep := [205,190,189,130,213,216,217,252,169,215,238,214],opn := true,rdf := true } Tryz.f213 [.a (.sl (.v 0) (.v 1) (.v 2))] [(.a 0,.prop 3)] 4 = t_pJoin := by kernel_rfl
def t_pParent : T :=
(.call 190 [.a (.str (.v 0))] [] [.a,.n,.n,.p,.i] (.tup [.a (.sl (.v 1) (.v 2) (.v 3)),.a (.int .i64 (.v 5))]) [(.a 1,.prop 4)]
(.br (.o1 .not (.o2 .eq (.v 5) (.i 0)))
(.ret (.tup [.a (.str (.s [])),.a (.str (.s [])),.a (.int .i64 (.i 20))]) [])
(.br (.o2 .eq (.o1 .ofNat (.v 2)) (.i 0))
(.ret (.tup [.a (.str (.s [])),.a (.str (.s [])),.a (.int .i64 (.i 20))]) [])
(.need (.o1 (.inr .i64) (.o2 .sub (.o1 .ofNat (.v 2)) (.i 1)))
(.read (.slice 29 (.tmp 22) none (some (.tmp 23)) none) 29 [(22,.w (.a (.sl (.v 1) (.v 2) (.v 3)))),(23,.w (.a (.int .i64 (.o2 .sub (.o1 .ofNat (.v 2)) (.i 1)))))] [(.a 1,.prop 4)] [.a,.n,.n] (.w (.a (.sl (.v 6) (.v 7) (.v 8))))
(.need (.o2 .le (.i 0) (.o2 .sub (.o1 .ofNat (.v 2)) (.i 1)))
(.need (.o2 .lt (.o2 .sub (.o1 .ofNat (.v 2)) (.i 1)) (.o1 .ofNat (.v 2)))
(.need (.o1 .isSome (.v 1))
(.read (.load 9 (.tmp 28)) 9 [(28,.w (.a (.eptr 1 (.o2 .sub (.o1 .ofNat (.v 2)) (.i 1)) 1 0)))] [(.a 1,.prop 4)] [.s] (.w (.a (.str (.v 9))))
(.call 213 [.a (.sl (.v 6) (.v 7) (.v 8))] [(.a 1,.prop 4)] [.s] (.w (.a (.str (.v 10)))) [(.a 1,.prop 4)]
(.ret (.tup [.a (.str (.v 10)),.a (.str (.v 9)),.a (.int .i64 (.i 0))]) [])))))))))))
theorem tree_pParent : tree Tryz.prog { keep := [205,190,189,130,213,216,217,252,169,215,238,214],opn := true,rdf := true } Tryz.f189 [.a (.str (.v 0))] [] 1 = t_pParent := by kernel_rfl
def t_pInside : T :=
(.call 190 [.a (.str (.v 0))] [] [.a,.n,.n,.p,.i] (.tup [.a (.sl (.v 2) (.v 3) (.v 4)),.a (.int .i64 (.v 6))]) [(.a 2,.prop 5)]
(.br (.o1 .not (.o2 .eq (.v 6) (.i 0)))
(.ret (.w (.a (.bool (.c false)))) [])
(.call 190 [.a (.str (.v 1))] [] [.a,.n,.n,.p,.i] (.tup [.a (.sl (.v 7) (.v 8) (.v 9)),.a (.int .i64 (.v 11))]) [(.a 7,.prop 10)]
(.br (.o1 .not (.o2 .eq (.v 11) (.i 0)))
(.ret (.w (.a (.bool (.c false)))) [])
(.br (.o2 .le (.o1 .ofNat (.v 3)) (.o1 .ofNat (.v 8)))
(.ret (.w (.a (.bool (.c false)))) [])
(.read (.slice 29 (.tmp 30) none (some (.tmp 32)) none) 29 [(30,.w (.a (.sl (.v 2) (.v 3) (.v 4)))),(32,.w (.a (.int .i64 (.o1 .ofNat (.v 8)))))] [(.a 2,.prop 5)] [.a,.n,.n] (.w (.a (.sl (.v 12) (.v 13) (.v 14))))
(.call 169 [.a (.sl (.v 7) (.v 8) (.v 9)),.a (.sl (.v 12) (.v 13) (.v 14))] [(.a 7,.prop 10),(.a 2,.prop 5)] [.c] (.w (.a (.bool (.v 15)))) [(.a 7,.prop 10),(.a 2,.prop 5)]
(.ret (.w (.a (.bool (.v 15)))) []))))))))
theorem tree_pInside : tree Tryz.prog { keep := [205,190,189,130,213,216,217,252,169,215,238,214],opn := true,rdf := true } Tryz.f130 [.a (.str (.v 0)),.a (.str (.v 1))] [] 2 = t_pInside := by kernel_rfl
def t_sEqual : T :=
(.br (.o1 .not (.o2 .eq (.o1 .ofNat (.v 1)) (.o1 .ofNat (.v 5))))
(.ret (.w (.a (.bool (.c false)))) [(.a 0,.prop 3),(.a 4,.prop 7)])
(.loop [.c,.i] [.e (.o1 .not (.o1 .not (.c false))),.e (.o1 .neg (.o1 .neg (.i 0)))]
(.br (.o2 .lt (.v 9) (.o1 .ofNat (.v 1)))
(.need (.o2 .le (.i 0) (.v 9))
(.need (.o1 .isSome (.v 0))
(.read (.load 9 (.tmp 18)) 9 [(18,.w (.a (.eptr 0 (.v 9) 1 0)))] [(.a 0,.prop 3)] [.s] (.w (.a (.str (.v 10))))
(.need (.o2 .lt (.v 9) (.o1 .ofNat (.v 5)))
(.need (.o1 .isSome (.v 4))
(.read (.load 9 (.tmp 22)) 9 [(22,.w (.a (.eptr 4 (.v 9) 1 0)))] [(.a 4,.prop 7)] [.s] (.w (.a (.str (.v 11))))
(.br (.o1 .not (.o2 .seq (.v 10) (.v 11)))
(.ret (.w (.a (.bool (.c false)))) [(.a 0,.prop 3),(.a 4,.prop 7)])
(.need (.o1 (.inr .i64) (.o2 .add (.v 9) (.i 1)))
(.again 0 [.e (.o1 .not (.o1 .not (.v 8))),.e (.o1 .neg (.o1 .neg (.o2 .add (.v 9) (.i 1))))])))))))))
(.ret (.w (.a (.bool (.c true)))) [(.a 0,.prop 3),(.a 4,.prop 7)]))))
theorem tree_sEqual : tree Tryz.prog { keep := [205,190,189,130,213,216,217,252,169,215,238,214],opn := true,rdf := true } Tryz.f169 [.a (.sl (.v 0) (.v 1) (.v 2)),.a (.sl (.v 4) (.v 5) (.v 6))] [(.a 0,.prop 3),(.a 4,.prop 7)] 8 = t_sEqual := by kernel_rfl
def t_sSplit : T :=
(.call 251 [.a (.str (.v 0)),.a (.str (.v 1)),.a (.int .i64 (.i 0)),.a (.int .i64 (.i (-1)))] [] [.a,.n,.n,.p] (.w (.a (.sl (.v 2) (.v 3) (.v 4)))) [(.a 2,.prop 5)]
(.ret (.w (.a (.sl (.v 2) (.v 3) (.v 4)))) [(.a 2,.prop 5)]))
theorem tree_sSplit : tree Tryz.prog { keep := [205,190,189,130,213,216,217,252,169,215,238,214],opn := true,rdf := true } Tryz.f215 [.a (.str (.v 0)),.a (.str (.v 1))] [] 2 = t_sSplit := by kernel_rfl
def t_sGenSplit : T :=
(.br (.o2 .eq (.v 3) (.i 0))
(.ret (.w (.a (.sl .nil (.n 0) (.n 0)))) [])
(.br (.o2 .seq (.v 1) (.s []))
(.call 267 [.a (.str (.v 0)),.a (.int .i64 (.v 3))] [] [.a,.n,.n,.p] (.w (.a (.sl (.v 4) (.v 5) (.v 6)))) [(.a 4,.prop 7)]
(.ret (.w (.a (.sl (.v 4) (.v 5) (.v 6)))) [(.a 4,.prop 7)]))
(.br (.o2 .lt (.v 3) (.i 0))
(.call 268 [.a (.str (.v 0)),.a (.str (.v 1))] [] [.i] (.w (.a (.int .i64 (.v 4)))) []
(.need (.o1 (.inr .i64) (.o2 .add (.v 4) (.i 1)))
(.need (.o1 (.inr .i64) (.o2 .add (.o1 .ofNat (.o1 .size (.v 0))) (.i 1)))
(.op (.makeSlice 29 (.tmp 30) (.tmp 30)) 29 [(30,.w (.a (.int .i64 (.o2 .mn (.o2 .add (.v 4) (.i 1)) (.o2 .add (.o1 .ofNat (.o1 .size (.v 0))) (.i 1)))))),(30,.w (.a (.int .i64 (.o2 .mn (.o2 .add (.v 4) (.i 1)) (.o2 .add (.o1 .ofNat (.o1 .size (.v 0))) (.i 1))))))] [] [.a,.n,.n,.p] (.w (.a (.sl (.v 5) (.v 6) (.v 7)))) [(.a 5,.prop 8)]
(.need (.o1 (.inr .i64) (.o2 .sub (.o2 .mn (.o2 .add (.v 4) (.i 1)) (.o2 .add (.o1 .ofNat (.o1 .size (.v 0))) (.i 1))) (.i 1)))
(.loop [.s,.i,.p] [.e (.o2 .cat (.v 0) (.s [])),.e (.o1 .neg (.o1 .neg (.i 0))),.p [(.a 5,.prop 8)]]
(.br (.o2 .lt (.v 10) (.o2 .sub (.o2 .mn (.o2 .add (.v 4) (.i 1)) (.o2 .add (.o1 .ofNat (.o1 .size (.v 0))) (.i 1))) (.i 1)))
(.call 269 [.a (.str (.v 9)),.a (.str (.v 1))] [] [.i] (.w (.a (.int .i64 (.v 12)))) []
(.br (.o2 .lt (.v 12) (.i 0))
(.need (.o2 .le (.i 0) (.v 10))
(.need (.o2 .lt (.v 10) (.o1 .ofNat (.v 6)))
(.need (.o1 .isSome (.v 5))
(.op (.store 9 (.tmp 61) (.tmp 60)) 0 [(61,.w (.a (.eptr 5 (.v 10) 1 0))),(60,.w (.a (.str (.v 9))))] [(.a 5,.prop 11)] [.p] (.tup []) [(.a 5,.prop 13)]
(.need (.o1 (.inr .i64) (.o2 .add (.v 10) (.i 1)))
(.read (.slice 29 (.tmp 62) none (some (.tmp 64)) none) 29 [(62,.w (.a (.sl (.v 5) (.v 6) (.v 7)))),(64,.w (.a (.int .i64 (.o2 .add (.v 10) (.i 1)))))] [(.a 5,.prop 13)] [.a,.n,.n] (.w (.a (.sl (.v 14) (.v 15) (.v 16))))
(.ret (.w (.a (.sl (.v 14) (.v 15) (.v 16)))) [(.a 5,.prop 13)])))))))
(.need (.o1 (.inr .i64) (.o2 .add (.v 12) (.v 2)))
(.read (.slice 9 (.tmp 44) none (some (.tmp 47)) none) 9 [(44,.w (.a (.str (.v 9)))),(47,.w (.a (.int .i64 (.o2 .add (.v 12) (.v 2)))))] [] [.s] (.w (.a (.str (.v 13))))
(.need (.o2 .le (.i 0) (.v 10))
(.need (.o2 .lt (.v 10) (.o1 .ofNat (.v 6)))
(.need (.o1 .isSome (.v 5))
(.op (.store 9 (.tmp 49) (.tmp 48)) 0 [(49,.w (.a (.eptr 5 (.v 10) 1 0))),(48,.w (.a (.str (.v 13))))] [(.a 5,.prop 11)] [.p] (.tup []) [(.a 5,.prop 14)]
(.need (.o1 (.inr .i64) (.o2 .add (.v 12) (.o1 .ofNat (.o1 .size (.v 1)))))
(.read (.slice 9 (.tmp 50) (some (.tmp 54)) none none) 9 [(50,.w (.a (.str (.v 9)))),(54,.w (.a (.int .i64 (.o2 .add (.v 12) (.o1 .ofNat (.o1 .size (.v 1)))))))] [] [.s] (.w (.a (.str (.v 15))))
(.need (.o1 (.inr .i64) (.o2 .add (.v 10) (.i 1)))
(.again 0 [.e (.o2 .cat (.v 15) (.s [])),.e (.o1 .neg (.o1 .neg (.o2 .add (.v 10) (.i 1)))),.p [(.a 5,.prop 14)]]))))))))))))
(.need (.o2 .le (.i 0) (.v 10))
(.need (.o2 .lt (.v 10) (.o1 .ofNat (.v 6)))
(.need (.o1 .isSome (.v 5))
(.op (.store 9 (.tmp 61) (.tmp 60)) 0 [(61,.w (.a (.eptr 5 (.v 10) 1 0))),(60,.w (.a (.str (.v 9))))] [(.a 5,.prop 11)] [.p] (.tup []) [(.a 5,.prop 12)]
(.need (.o1 (.inr .i64) (.o2 .add (.v 10) (.i 1)))
(.read (.slice 29 (.tmp 62) none (some (.tmp 64)) none) 29 [(62,.w (.a (.sl (.v 5) (.v 6) (.v 7)))),(64,.w (.a (.int .i64 (.o2 .add (.v 10) (.i 1)))))] [(.a 5,.prop 12)] [.a,.n,.n] (.w (.a (.sl (.v 13) (.v 14) (.v 15))))
(.ret (.w (.a (.sl (.v 13) (.v 14) (.v 15)))) [(.a 5,.prop 12)]))))))))))))))
(.need (.o1 (.inr .i64) (.o2 .add (.o1 .ofNat (.o1 .size (.v 0))) (.i 1)))
(.op (.makeSlice 29 (.tmp 30) (.tmp 30)) 29 [(30,.w (.a (.int .i64 (.o2 .mn (.v 3) (.o2 .add (.o1 .ofNat (.o1 .size (.v 0))) (.i 1)))))),(30,.w (.a (.int .i64 (.o2 .mn (.v 3) (.o2 .add (.o1 .ofNat (.o1 .size (.v 0))) (.i 1))))))] [] [.a,.n,.n,.p] (.w (.a (.sl (.v 4) (.v 5) (.v 6)))) [(.a 4,.prop 7)]
(.need (.o1 (.inr .i64) (.o2 .sub (.o2 .mn (.v 3) (.o2 .add (.o1 .ofNat (.o1 .size (.v 0))) (.i 1))) (.i 1)))
(.loop [.s,.i,.p] [.e (.o2 .cat (.v 0) (.s [])),.e (.o1 .neg (.o1 .neg (.i 0))),.p [(.a 4,.prop 7)]]
(.br (.o2 .lt (.v 9) (.o2 .sub (.o2 .mn (.v 3) (.o2 .add (.o1 .ofNat (.o1 .size (.v 0))) (.i 1))) (.i 1)))
(.call 269 [.a (.str (.v 8)),.a (.str (.v 1))] [] [.i] (.w (.a (.int .i64 (.v 11)))) []
(.br (.o2 .lt (.v 11) (.i 0))
(.need (.o2 .le (.i 0) (.v 9))
(.need (.o2 .lt (.v 9) (.o1 .ofNat (.v 5)))
(.need (.o1 .isSome (.v 4))
(.op (.store 9 (.tmp 61) (.tmp 60)) 0 [(61,.w (.a (.eptr 4 (.v 9) 1 0))),(60,.w (.a (.str (.v 8))))] [(.a 4,.prop 10)] [.p] (.tup []) [(.a 4,.prop 12)]
(.need (.o1 (.inr .i64) (.o2 .add (.v 9) (.i 1)))
(.read (.slice 29 (.tmp 62) none (some (.tmp 64)) none) 29 [(62,.w (.a (.sl (.v 4) (.v 5) (.v 6)))),(64,.w (.a (.int .i64 (.o2 .add (.v 9) (.i 1)))))] [(.a 4,.prop 12)] [.a,.n,.n] (.w (.a (.sl (.v 13) (.v 14) (.v 15))))
(.ret (.w (.a (.sl (.v 13) (.v 14) (.v 15)))) [(.a 4,.prop 12)])))))))
(.need (.o1 (.inr .i64) (.o2 .add (.v 11) (.v 2)))
(.read (.slice 9 (.tmp 44) none (some (.tmp 47)) none) 9 [(44,.w (.a (.str (.v 8)))),(47,.w (.a (.int .i64 (.o2 .add (.v 11) (.v 2)))))] [] [.s] (.w (.a (.str (.v 12))))
(.need (.o2 .le (.i 0) (.v 9))
(.need (.o2 .lt (.v 9) (.o1 .ofNat (.v 5)))
(.need (.o1 .isSome (.v 4))
(.op (.store 9 (.tmp 49) (.tmp 48)) 0 [(49,.w (.a (.eptr 4 (.v 9) 1 0))),(48,.w (.a (.str (.v 12))))] [(.a 4,.prop 10)] [.p] (.tup []) [(.a 4,.prop 13)]
(.need (.o1 (.inr .i64) (.o2 .add (.v 11) (.o1 .ofNat (.o1 .size (.v 1)))))
(.read (.slice 9 (.tmp 50) (some (.tmp 54)) none none) 9 [(50,.w (.a (.str (.v 8)))),(54,.w (.a (.int .i64 (.o2 .add (.v 11) (.o1 .ofNat (.o1 .size (.v 1)))))))] [] [.s] (.w (.a (.str (.v 14))))
(.need (.o1 (.inr .i64) (.o2 .add (.v 9) (.i 1)))
(.again 0 [.e (.o2 .cat (.v 14) (.s [])),.e (.o1 .neg (.o1 .neg (.o2 .add (.v 9) (.i 1)))),.p [(.a 4,.prop 13)]]))))))))))))
(.need (.o2 .le (.i 0) (.v 9))
(.need (.o2 .lt (.v 9) (.o1 .ofNat (.v 5)))
(.need (.o1 .isSome (.v 4))
(.op (.store 9 (.tmp 61) (.tmp 60)) 0 [(61,.w (.a (.eptr 4 (.v 9) 1 0))),(60,.w (.a (.str (.v 8))))] [(.a 4,.prop 10)] [.p] (.tup []) [(.a 4,.prop 11)]
(.need (.o1 (.inr .i64) (.o2 .add (.v 9) (.i 1)))
(.read (.slice 29 (.tmp 62) none (some (.tmp 64)) none) 29 [(62,.w (.a (.sl (.v 4) (.v 5) (.v 6)))),(64,.w (.a (.int .i64 (.o2 .add (.v 9) (.i 1)))))] [(.a 4,.prop 11)] [.a,.n,.n] (.w (.a (.sl (.v 12) (.v 13) (.v 14))))
(.ret (.w (.a (.sl (.v 12) (.v 13) (.v 14)))) [(.a 4,.prop 11)])))))))))))))))
theorem tree_sGenSplit : tree Tryz.prog { hv := [(0,[.a 5,.a 4])],keep := [205,190,189,130,213,216,217,252,169,215,238,214],opn := true,rdf := true } Tryz.f251 [.a (.str (.v 0)),.a (.str (.v 1)),.a (.int .i64 (.v 2)),.a (.int .i64 (.v 3))] [] 4 = t_sGenSplit := by kernel_rfl
def t_bWriteByte : T :=
(.call 266 [.a (.val 0)] [(.a 0,.prop 1)] [.p] (.tup []) [(.a 0,.prop 3)]
(.read (.nilCheck (.tmp 8)) 0 [(8,.w (.a (.val 0)))] [(.a 0,.prop 3)] [.n] (.w (.a (.ptr (.v 4) 0)))
(.read (.load 28 (.tmp 10)) 28 [(10,.w (.a (.ptr (.v 4) 1)))] [(.a 0,.prop 3)] [.a,.n,.n] (.w (.a (.sl (.v 5) (.v 6) (.v 7))))
(.new
(.op (.call ⟨.builtin .append,#[.tmp 11,.tmp 13],#[28,28]⟩) 28 [(11,.w (.a (.sl (.v 5) (.v 6) (.v 7)))),(13,.w (.a (.sl (.b (.v 8) 0) (.n 1) (.n 1))))] [(.a 0,.prop 3),(.b (.v 8),.cells [.int .u8 (.v 2)] 5)] [.a,.n,.n,.p,.p] (.w (.a (.sl (.v 9) (.v 10) (.v 11)))) [(.a 9,.prop 12),(.a 0,.prop 13),(.b (.v 8),.cells [.int .u8 (.v 2)] 5)]
(.read (.nilCheck (.tmp 7)) 0 [(7,.w (.a (.val 0)))] [(.a 0,.prop 13)] [.n] (.w (.a (.ptr (.v 14) 0)))
(.op (.store 28 (.tmp 16) (.tmp 14)) 0 [(16,.w (.a (.ptr (.v 14) 1))),(14,.w (.a (.sl (.v 9) (.v 10) (.v 11))))] [(.a 0,.prop 13),(.a 9,.prop 12)] [.p] (.tup []) [(.a 0,.prop 15)]
(.ret (.w (.a .nili)) [(.a 0,.prop 15)]))))))))
theorem tree_bWriteByte : tree Tryz.prog { opq := [323],keep := [205,190,189,130,213,216,217,252,169,215,238,214],opn := true,rdf := true } Tryz.f247 [.a (.val 0),.a (.int .u8 (.v 2))] [(.a 0,.prop 1)] 3 = t_bWriteByte := by kernel_rfl
def t_bWriteString : T :=
(.call 266 [.a (.val 0)] [(.a 0,.prop 1)] [.p] (.tup []) [(.a 0,.prop 3)]
(.read (.nilCheck (.tmp 9)) 0 [(9,.w (.a (.val 0)))] [(.a 0,.prop 3)] [.n] (.w (.a (.ptr (.v 4) 0)))
(.read (.load 28 (.tmp 11)) 28 [(11,.w (.a (.ptr (.v 4) 1)))] [(.a 0,.prop 3)] [.a,.n,.n] (.w (.a (.sl (.v 5) (.v 6) (.v 7))))
(.op (.call ⟨.builtin .append,#[.tmp 12,.tmp 13],#[28,9]⟩) 28 [(12,.w (.a (.sl (.v 5) (.v 6) (.v 7)))),(13,.w (.a (.str (.v 2))))] [(.a 0,.prop 3)] [.a,.n,.n,.p,.p] (.w (.a (.sl (.v 8) (.v 9) (.v 10)))) [(.a 8,.prop 11),(.a 0,.prop 12)]
(.read (.nilCheck (.tmp 8)) 0 [(8,.w (.a (.val 0)))] [(.a 0,.prop 12)] [.n] (.w (.a (.ptr (.v 13) 0)))
(.op (.store 28 (.tmp 16) (.tmp 14)) 0 [(16,.w (.a (.ptr (.v 13) 1))),(14,.w (.a (.sl (.v 8) (.v 9) (.v 10))))] [(.a 0,.prop 12),(.a 8,.prop 11)] [.p] (.tup []) [(.a 0,.prop 14)]
(.ret (.tup [.a (.int .i64 (.o1 .ofNat (.o1 .size (.v 2)))),.a .nili]) [(.a 0,.prop 14)])))))))
theorem tree_bWriteString : tree Tryz.prog { opq := [323],keep := [205,190,189,130,213,216,217,252,169,215,238,214],opn := true,rdf := true } Tryz.f248 [.a (.val 0),.a (.str (.v 2))] [(.a 0,.prop 1)] 3 = t_bWriteString := by kernel_rfl
def t_bString : T :=
(.join [.s,.p]
(.read (.load 28 (.tmp 5)) 28 [(5,.w (.a (.ptr (.v 0) 1)))] [(.b (.v 0),.prop 1)] [.a,.n,.n] (.w (.a (.sl (.v 2) (.v 3) (.v 4))))
 (.all
(.op (.call ⟨.builtin .unsafeSliceData,#[.tmp 6],#[28]⟩) 344 [(6,.w (.a (.sl (.v 2) (.v 3) (.v 4))))] [(.b (.v 0),.prop 1)] [.n,.p,.p] (.w (.a (.ptr (.v 5) 0))) [(.b (.v 5),.prop 6),(.b (.v 0),.prop 7)]
(.read (.load 28 (.tmp 10)) 28 [(10,.w (.a (.ptr (.v 0) 1)))] [(.b (.v 0),.prop 7)] [.a,.n,.n] (.w (.a (.sl (.v 8) (.v 9) (.v 10))))
(.op (.call ⟨.builtin .unsafeString,#[.tmp 7,.tmp 12],#[344,3]⟩) 9 [(7,.w (.a (.ptr (.v 5) 0))),(12,.w (.a (.int .i64 (.o1 .ofNat (.v 9)))))] [(.b (.v 5),.prop 6)] [.s,.p] (.w (.a (.str (.v 11)))) [(.b (.v 5),.prop 12)]
(.again 0 [.e (.o2 .cat (.v 11) (.s [])),.p [(.b (.v 0),.prop 7)]]))))
(.read (.load 28 (.tmp 10)) 28 [(10,.w (.a (.ptr (.v 0) 1)))] [(.b (.v 0),.prop 1)] [.a,.n,.n] (.w (.a (.sl (.v 5) (.v 6) (.v 7))))
(.op (.call ⟨.builtin .unsafeSliceData,#[.tmp 6],#[28]⟩) 344 [(6,.w (.a (.sl (.v 2) (.v 3) (.v 4))))] [(.b (.v 0),.prop 1)] [.n,.p,.p] (.w (.a (.ptr (.v 8) 0))) [(.b (.v 8),.prop 9),(.b (.v 0),.prop 10)]
(.op (.call ⟨.builtin .unsafeString,#[.tmp 7,.tmp 12],#[344,3]⟩) 9 [(7,.w (.a (.ptr (.v 8) 0))),(12,.w (.a (.int .i64 (.o1 .ofNat (.v 6)))))] [(.b (.v 8),.prop 9)] [.s,.p] (.w (.a (.str (.v 11)))) [(.b (.v 8),.prop 12)]
(.again 0 [.e (.o2 .cat (.v 11) (.s [])),.p [(.b (.v 0),.prop 10)]]))))))
(.ret (.w (.a (.str (.v 2)))) [(.b (.v 0),.prop 3)]))
theorem tree_bString : tree Tryz.prog { keep := [205,190,189,130,213,216,217,252,169,215,238,214],opn := true,rdf := true,jn := [((3,2),some { ss := [.s,.p],n := 4,tv := [(3,none),(4,none),(5,none),(6,none),(7,none),(8,none),(9,none),(10,none),(11,none),(12,none),(13,none),(2,some (.w (.a (.str (.v 2)))))],h := [(.b (.v 0),.prop 3)],lk := [] })] } Tryz.f249 [.a (.ptr (.v 0) 0)] [(.b (.v 0),.prop 1)] 2 = t_bString := by kernel_rfl
def t_bCopyCheck : T :=
(.read (.nilCheck (.tmp 2)) 0 [(2,.w (.a (.val 0)))] [(.a 0,.prop 1)] [.n] (.w (.a (.ptr (.v 2) 0)))
(.read (.load 323 (.tmp 4)) 323 [(4,.w (.a (.ptr (.v 2) 0)))] [(.a 0,.prop 1)] [.v] (.w (.a (.val 3)))
(.read (.binOp .eql 323 (.tmp 5) (.const (.pointer none)) 323) 4 [(5,.w (.a (.val 3)))] [(.a 0,.prop 1)] [.c] (.w (.a (.bool (.v 4))))
(.br (.v 4)
(.read (.convert 323 351 (.tmp 8)) 351 [(8,.w (.a (.val 0)))] [(.a 0,.prop 1)] [.v] (.w (.a (.val 5)))
(.op (.call ⟨.value (.func 274),#[.tmp 9],#[351]⟩) 351 [(9,.w (.a (.val 5)))] [(.a 0,.prop 1)] [.v,.p,.p] (.w (.a (.val 6))) [(.a 6,.prop 7),(.a 0,.prop 8)]
(.read (.convert 351 323 (.tmp 10)) 323 [(10,.w (.a (.val 6)))] [(.a 6,.prop 7),(.a 0,.prop 8)] [.v] (.w (.a (.val 9)))
(.read (.nilCheck (.tmp 7)) 0 [(7,.w (.a (.val 0)))] [(.a 0,.prop 8)] [.n] (.w (.a (.ptr (.v 10) 0)))
(.op (.store 323 (.tmp 13) (.tmp 11)) 0 [(13,.w (.a (.ptr (.v 10) 0))),(11,.w (.a (.val 9)))] [(.a 0,.prop 8),(.a 6,.prop 7)] [.p] (.tup []) [(.a 0,.prop 11)]
(.ret (.tup []) [(.a 0,.prop 11)]))))))
(.read (.nilCheck (.tmp 14)) 0 [(14,.w (.a (.val 0)))] [(.a 0,.prop 1)] [.n] (.w (.a (.ptr (.v 5) 0)))
(.read (.load 323 (.tmp 16)) 323 [(16,.w (.a (.ptr (.v 5) 0)))] [(.a 0,.prop 1)] [.v] (.w (.a (.val 6)))
(.read (.binOp .neq 323 (.tmp 17) (.tmp 18) 323) 4 [(17,.w (.a (.val 6))),(18,.w (.a (.val 0)))] [(.a 0,.prop 1)] [.c] (.w (.a (.bool (.v 7))))
(.br (.v 7)
(.fail 90)
(.ret (.tup []) [(.a 0,.prop 1)])))))))))
theorem tree_bCopyCheck : tree Tryz.prog { opq := [323],keep := [205,190,189,130,213,216,217,252,169,215,238,214],opn := true,rdf := true,peek := [323] } Tryz.f266 [.a (.val 0)] [(.a 0,.prop 1)] 2 = t_bCopyCheck := by kernel_rfl
end Go.Proofs.YtdieogcemmnaaaaGreatDoor.RX

namespace Go.Proofs.YtdieogcemmnaaaaGreatDoor
set_option linter.unusedSimpArgs false
set_option linter.unusedVariables false
open Go.Proofs.YtdieogcemmnaaaaGreatDoor RX Go.Lib
set_option maxRecDepth 100000
theorem _root_.Go.Proofs.YtdieogcemmnaaaaGreatDoor.ORead.imp {P : Program} {s : Sem Next} {A A' : HP} {v : Value} (r : ORead P s A v) (f : ∀ R h,A'.p R h → A.p R h) : ORead P s A' v := fun w R h F st a => r w R h F st (f R h a)
theorem eqNilP {i : Nat} {ty u t e : TypeId} (hg : Tryz.prog.eqGuardType Tryz.prog.depth t = false) (hu : Tryz.prog.underlying t = some (.pointer e)) {p : Option Addr} {A : HP} : ORead Tryz.prog (semW (.binOp .eql t (.tmp i) (.const (.pointer none)) u) ty [(i,.pointer p)]) A (.bool (!p.isSome)) := fun w R hh F s _ => by
 have he : (Op.equal t (.pointer p) (.pointer none)).run Tryz.prog w = .ok (!p.isSome) w := RX.run_equal fun n => by cases p <;> simp [Op.equalIn,RX.run_underlying hu]
 simp only [semW,execOp,arW,List.find?_cons,beq_self_eq_true]
 simp [eqGuard,binOp,hg,program,Sem.run_bind,Result.andThen,he]
theorem neqNilP {i : Nat} {ty u t e : TypeId} (hg : Tryz.prog.eqGuardType Tryz.prog.depth t = false) (hu : Tryz.prog.underlying t = some (.pointer e)) {p : Option Addr} {A : HP} : ORead Tryz.prog (semW (.binOp .neq t (.tmp i) (.const (.pointer none)) u) ty [(i,.pointer p)]) A (.bool p.isSome) := fun w R hh F s _ => by
 have he : (Op.equal t (.pointer p) (.pointer none)).run Tryz.prog w = .ok (!p.isSome) w := RX.run_equal fun n => by cases p <;> simp [Op.equalIn,RX.run_underlying hu]
 simp only [semW,execOp,arW,List.find?_cons,beq_self_eq_true]
 simp [eqGuard,binOp,hg,program,Sem.run_bind,Result.andThen,he]
theorem nilChk' {p : Addr} {A : HP} : ORead Tryz.prog (nilS (.pointer (some p))) A (.pointer (some p)) := fun w R hh F s _ => by
 simp [nilS,semW,execOp,arW]
theorem guardB : Tryz.prog.eqGuardType Tryz.prog.depth 323 = false := by kernel_rfl
theorem undBp : Tryz.prog.underlying 323 = some (.pointer 325) := by kernel_rfl
theorem undUp : Tryz.prog.underlying 351 = some .unsafePointer := by kernel_rfl
theorem undB8 : Tryz.prog.underlying 28 = some (.slice 5) := by kernel_rfl
def BC (b : Nat) (p : Option Addr) (a : Option Addr) (n c : Nat) : HP := HP.one b (.cells #[.pointer p,.slice a n c] 325 (0,0))
def BRep (b : Nat) (l : List UInt8) : HP := HP.ex fun p => HP.ex fun a => HP.ex fun c => HP.and (p = none ∨ p = some ⟨b,0,none⟩) (HP.sep (BC b p a l.length c) (OwB a l.length c l))
theorem BRep.new (b : Nat) {R h : PH} (H : (HP.one b (.cells #[.pointer none,.slice none 0 0] 325 (0,0))).p R h) : (BRep b []).p R h :=
 ⟨none,none,0,.inl rfl,HP.sep_comm (HP.sep_mono (HP.tt_sep H) (fun _ _ => OwC.nil _ _ _ _) fun _ h => h)⟩
theorem loadP {b : Nat} {p a : Option Addr} {n c : Nat} {K : HP} : ORead Tryz.prog (loadS 323 (.pointer (some ⟨b,0,none⟩))) (HP.sep (BC b p a n c) K) (.pointer p) := by
 have := load1_ok (t := 323) undBp (by kernel_rfl) (by kernel_rfl) (Rd.left (B := K) (one_rd b #[.pointer p,.slice a n c] 325)) (k := 0) (off := 0) (v := .pointer p) rfl
 simpa [BC,Addr.add_zero'] using this
theorem loadBuf {b : Nat} {p a : Option Addr} {n c : Nat} {K : HP} : ORead Tryz.prog (loadS 28 (.pointer (some ⟨b,1,none⟩))) (HP.sep (BC b p a n c) K) (.slice a n c) := by
 have := load1_ok (t := 28) undB8 (by kernel_rfl) (by kernel_rfl) (Rd.left (B := K) (one_rd b #[.pointer p,.slice a n c] 325)) (k := 1) (off := 0) (v := .slice a n c) rfl
 simpa [BC,RX.addr_add] using this
theorem infoBld : (Tryz.prog.info? 325).map (·.size) = some 2 := by kernel_rfl
theorem liesBld : liesAt Tryz.prog Tryz.prog.depth 325 (2 / Tryz.prog.cellsOf 325) 0 325 1 = true := by kernel_rfl
def convSt (s d : TypeId) (u : Value) : Sem Next := do pure (.value (← convert s d u))
theorem semW_convSt {s d ty : TypeId} {i : Nat} {u : Value} : semW (.convert s d (.tmp i)) ty [(i,u)] = convSt s d u := by simp [semW,execOp,arW,convSt]
theorem BC.shape {b : Nat} {p a : Option Addr} {n c : Nat} {w : World} {R h F : PH} (s : Sat w R h F) (H : (BC b p a n c).p R h) : w.shape? b = some (325,2) := by
 have := s.oh _ _ H
 simp [World.shape?,this]
theorem toUnsafe {b : Nat} {p a : Option Addr} {n c : Nat} {K : HP} : ORead Tryz.prog (convSt 323 351 (.pointer (some ⟨b,0,none⟩))) (HP.sep (BC b p a n c) K) (.pointer (some ⟨b,0,none⟩)) := fun w R h F s H => by
 obtain ⟨j,hj,hjs⟩ := Option.map_eq_some_iff.1 infoBld
 have := Lib.run_to_unsafe (P := Tryz.prog) (w := w) ⟨b,0,none⟩ undBp undUp hj (by rw [hjs]; decide) (BC.shape s (HP.sep_left H)) (by decide : (0 : Nat) < 2)
 unfold convSt; rw [Sem.run_bind,this]; rfl
theorem fromUnsafe {b : Nat} {p a : Option Addr} {n c : Nat} {K : HP} : ORead Tryz.prog (convSt 351 323 (.pointer (some ⟨b,0,none⟩))) (HP.sep (BC b p a n c) K) (.pointer (some ⟨b,0,none⟩)) := fun w R h F s H => by
 obtain ⟨j,hj,hjs⟩ := Option.map_eq_some_iff.1 infoBld
 have := Lib.run_from_unsafe (P := Tryz.prog) (w := w) ⟨b,0,none⟩ undUp undBp hj (BC.shape s (HP.sep_left H)) liesBld
 unfold convSt; rw [Sem.run_bind,this]; rfl
theorem noEsc {i : Nat} {x : Value} (A : HP) : OTri Tryz.prog (semW (.call ⟨.value (.func 274),#[.tmp i],#[351]⟩) 351 [(i,x)]) A (fun v => HP.and (v = x) A) := fun w R h F s a => by
 have hr : (callFunc 274 #[x]).run Tryz.prog w = .ok (.value x) w := by
  rw [run_callFunc_extern Tryz.func274 (by kernel_rfl) (by kernel_rfl) (by kernel_rfl) (e := Extern.AbiNoEscape.same) (by kernel_rfl)]
  rw [Lib.run_noEscape]; rfl
 refine ⟨.value x,x,w,?_,rfl,Same.refl w,R,h,PH.le.refl _,s,rfl,a⟩
 rw [← hr]
 simp [semW,execOp,resolve,arW,invoke,Deferred.ofValue]
theorem storeP {b : Nat} {p a : Option Addr} {n c : Nat} (q : Option Addr) : OTri Tryz.prog (storeS 323 (.pointer (some ⟨b,0,none⟩)) (.pointer q)) (BC b p a n c) (fun v => HP.and (v = .tuple #[]) (BC b q a n c)) := by
 obtain ⟨i,hi⟩ : ∃ i,Tryz.prog.info? 323 = some i := Option.isSome_iff_exists.1 (by kernel_rfl)
 have hz : i.size = 1 := by
  have : (Tryz.prog.info? 323).map (·.size) = some 1 := by kernel_rfl
  rw [hi] at this; simpa using this
 exact storeOne_ok hi 325 b #[.pointer p,.slice a n c] 0 (.pointer q) [.pointer q] rfl hz (by simp) (by simp [Value.oneCell']) (by simp) (by unfold maxLen; simp)
theorem storeBuf {b : Nat} {p a : Option Addr} {n c : Nat} (a' : Option Addr) (n' c' : Nat) : OTri Tryz.prog (storeS 28 (.pointer (some ⟨b,1,none⟩)) (.slice a' n' c')) (BC b p a n c) (fun v => HP.and (v = .tuple #[]) (BC b p a' n' c')) := by
 obtain ⟨i,hi⟩ : ∃ i,Tryz.prog.info? 28 = some i := Option.isSome_iff_exists.1 (by kernel_rfl)
 have hz : i.size = 1 := by
  have : (Tryz.prog.info? 28).map (·.size) = some 1 := by kernel_rfl
  rw [hi] at this; simpa using this
 exact storeOne_ok hi 325 b #[.pointer p,.slice a n c] 1 (.slice a' n' c') [.slice a' n' c'] rfl hz (by simp) (by simp [Value.oneCell']) (by simp) (by unfold maxLen; simp)
theorem copyCheck_ok (b : Nat) (l : List UInt8) : Tri Tryz.prog 266 #[.pointer (some ⟨b,0,none⟩)] (BRep b l) (fun v => HP.and (v = .tuple #[]) (BRep b l)) := by
 refine Tri.ex fun p => Tri.ex fun a => Tri.ex fun c => ?_
 refine Tri.fact (φ := p = none ∨ p = some ⟨b,0,none⟩) (fun R h H => H.1) fun hp => ?_
 refine Tri.weak (A := HP.sep (BC b p a l.length c) (OwB a l.length c l)) ?_ (fun _ _ h => h.2) fun _ _ _ h => h
 refine tri_of_tree (ρ := [.v (.pointer (some ⟨b,0,none⟩)),.p (HP.sep (BC b p a l.length c) (OwB a l.length c l))]) mixed Tryz.func266 tree_bCopyCheck ?_
 unfold t_bCopyCheck
 simp only [T.den,E.prop,E.den,RX.look,F1.app,F2.app,Uni.int_i,Uni.nat_n,Uni.bool_c,Uni.str_s,Uni.adr_a,Uni.val_v,Uni.hp_p,hden,cden,V.den,W.den,A.den,BR.den,SA.den,FV.den,capV,exs,exP,allP,Cur.app,List.map_cons,List.map_nil,List.cons_append,List.nil_append,List.drop_succ_cons,List.drop_zero,List.length_cons,List.length_nil,Nat.zero_add,Nat.reduceAdd,Int.neg_neg,Bool.not_not,List.append_nil,Nat.add_zero,List.getElem?_cons_zero,List.getElem?_cons_succ,Decidable.not_not,semW_eq,semW_load,semW_store,semW_storeC,semW_nil,ne_eq,Nat.reduceEqDiff,not_false_eq_true,oneC]
 refine ⟨b,nilChk',.pointer p,loadP,!p.isSome,eqNilP guardB undBp,fun h => ?_,fun h => ?_⟩
 ·refine ⟨.pointer (some ⟨b,0,none⟩),by rw [semW_convSt]; exact toUnsafe,?_⟩
  refine (noEsc (HP.sep (BC b p a l.length c) (OwB a l.length c l))).weak (fun _ _ h => h) ?_
  rintro v R hh ⟨rfl,H⟩
  refine ⟨.pointer (some ⟨b,0,none⟩),HP.tt,HP.sep (BC b p a l.length c) (OwB a l.length c l),rfl,⟨.pointer (some ⟨b,0,none⟩),?_,b,nilChk',?_⟩,HP.tt_sep H⟩
  ·rw [semW_convSt]; exact fromUnsafe.imp fun _ _ H => HP.sep_right H
  ·refine ((storeP (some ⟨b,0,none⟩)).frame (OwB a l.length c l)).weak (fun _ _ H => HP.sep_left H) ?_
   rintro v R hh ⟨h1,h2,d,l1,l2,⟨rfl,hc⟩,ho⟩
   refine ⟨BRep b l,rfl,.of fun R h H => ⟨trivial,H⟩,some ⟨b,0,none⟩,a,c,.inr rfl,h1,h2,d,l1,l2,hc,ho⟩
 ·have hp' : p = some ⟨b,0,none⟩ := by
   rcases hp with rfl | rfl
   ·simp at h
   ·rfl
  subst hp'
  refine ⟨b,nilChk',.pointer (some ⟨b,0,none⟩),loadP,false,?_,fun h => by simp at h,fun _ => .of fun R h H => ⟨trivial,_,_,_,.inr rfl,H⟩⟩
  intro w R h F s H
  obtain ⟨j,hj,_⟩ := Option.map_eq_some_iff.1 infoBld
  have := Lib.run_neq_ptr_same (P := Tryz.prog) (w := w) ⟨b,0,none⟩ undBp hj
  simp only [semW,execOp,arW,List.find?_cons,beq_self_eq_true]
  simp [eqGuard,guardB,program,Sem.run_bind,Result.andThen,this]
def appStr (t u ty : TypeId) (x y : Value) : Sem Next := do pure (.value (← Builtin.append_ #[t,u] ty #[x,y]))
theorem semW_appStr {t u ty : TypeId} {i j : Nat} {x y : Value} (h : i ≠ j) : semW (.call ⟨.builtin .append,#[.tmp i,.tmp j],#[t,u]⟩) ty [(i,x),(j,y)] = appStr t u ty x y := by
 have h' : (i == j) = false := by simpa using h
 simp [semW,execOp,resolve,arW,invoke,builtin,h',appStr]
theorem strCells_eq (l : List UInt8) : strCells ⟨l.toArray⟩ = l.map u8v := by simp [strCells,u8v]
theorem app_str_at {w : World} (ty : TypeId) (v : Value) (n : Nat) (xs : List Value) (hown : w.ownsRow 0 5 1 v n xs) (s : ByteArray) (hb : n + s.size ≤ 140737488355328) :
  ∃ v' w',(Builtin.append_ #[28,9] ty #[v,.string s]).run Tryz.prog w = .ok v' w' ∧ w'.ownsRow 0 5 1 v' (n + s.size) (xs ++ strCells s) ∧ w.grownBy w' v.ownBlock ∧
   (v' = .slice none 0 0 ↔ v = .slice none 0 0 ∧ s.size = 0) ∧ (v'.ownBlock = v.ownBlock ∨ v'.ownBlock = some w.heap.size) := by
 obtain ⟨i,hi,h1,h2,h3⟩ := info_parts info8
 have h63 : n + s.size ≤ maxLen := by unfold maxLen; omega
 have hxl : xs.length = n := by simpa using hown.1
 obtain ⟨v',w',hr,ho,hg,hn⟩ := run_append_own_string (P := Tryz.prog) w 0 28 9 ty 5 i und8 undStr hi h1 h2 h3 v n xs hown s h63 hb (Nat.zero_le _)
 refine ⟨v',w',hr,ho,hg,hn,?_⟩
 rcases hown.2 with ⟨rfl,rfl⟩ | ⟨g,cap,cur,rfl,_,hgg,hnc,hcm,hcs,htake⟩
 ·by_cases hm : s.size = 0
  ·have := hn.2 ⟨rfl,hm⟩
   subst this
   exact .inl rfl
  ·have hr2 := run_append_nil_string (P := Tryz.prog) w 28 9 ty 5 i (.int .u8 0) und8 undStr hi h1 s (by omega) (by omega) (by rw [h3]; omega)
   rw [hr] at hr2
   cases hr2
   exact .inr rfl
 ·by_cases hroom : n + s.size ≤ cap
  ·have hr2 := run_append_room_string (P := Tryz.prog) w 28 9 ty 5 i und8 undStr hi h2 g n cap cur hgg s hroom (by omega)
   rw [hr] at hr2
   cases hr2
   exact .inl rfl
  ·have holds : ∀ j u,xs[j]? = some u → w.cell? ((⟨g,0,none⟩ : Addr).add j) = some u := hown.cells (g := g) rfl
   have hr2 := run_append_grow_string (P := Tryz.prog) w 28 9 ty 5 i (.int .u8 0) und8 undStr hi h1 ⟨g,0,none⟩ n cap xs (by rw [h2]; simpa using hxl) holds s (by omega) (by omega) (by rw [h3]; exact growslice_fits (by omega) (by omega))
   rw [hr] at hr2
   cases hr2
   exact .inr rfl
theorem appendStr_ok (ty : TypeId) (a : Option Addr) (n c : Nat) (l q : List UInt8) (S : HP) (hb : n + q.length ≤ 140737488355328) :
  OTri Tryz.prog (appStr 28 9 ty (.slice a n c) (sE q)) (HP.sep (OwB a n c l) S)
   (fun v => HP.ex fun a' => HP.ex fun c' => HP.and (v = .slice a' (n + q.length) c') (HP.sep (OwB a' (n + q.length) c' (l ++ q)) S)) := by
 rintro w R h F s ⟨x1,x2,d,l1,l2,⟨hxl,hx⟩,hS⟩
 have hown : w.ownsRow 0 5 1 (.slice a n c) n (l.map u8v) := by
  refine ⟨hxl,?_⟩
  rcases hx with ⟨rfl,rfl,rfl⟩ | ⟨g,cur,rfl,hg,q⟩
  ·exact .inl ⟨rfl,rfl⟩
  ·exact .inr ⟨g,c,cur,rfl,Nat.zero_le _,s.oh _ _ (l1 _ _ hg),q⟩
 obtain ⟨v',w',hrun,ho',hg,hnil,hblk⟩ := app_str_at ty (.slice a n c) n (l.map u8v) hown ⟨q.toArray⟩ hb
 rw [strCells_eq,← List.map_append] at ho'
 have hsz : (⟨q.toArray⟩ : ByteArray).size = q.length := rfl
 rw [hsz] at ho' hnil
 obtain ⟨hl',hsh⟩ := ho'
 have hS' : Same w w' := ⟨hg.os,hg.tape,hg.output,hg.size⟩
 have s1 := s.cut d l1 l2
 have hdF : x2.dj F := s.dhF.le l2 (PH.le.refl _)
 rcases hsh with ⟨rfl,h0⟩ | ⟨g',cap,cur,rfl,_,hcell,q1,q2,q3,q4⟩
 ·have hn0 : n = 0 := by omega
  have hm0 : q.length = 0 := by omega
  have e1 := hnil.1 rfl
  cases e1.1
  have hsame : ∀ k,k < w.heap.size → w'.heap[k]? = w.heap[k]? := fun k hk => hg.block k hk (by simp [Value.ownBlock])
  have own' : ∀ g : PH,g.own w → g.own w' := fun g og k y e => by rw [hsame k (og.lt e)]; exact og k y e
  refine ⟨_,_,w',by unfold appStr sE; rw [Sem.run_bind,hrun]; rfl,rfl,hS',R,x1.un x2,PH.le.refl _,⟨(PH.dj_un (s.dRh.le (PH.le.refl _) l1).symm (s.dRh.le (PH.le.refl _) l2).symm).symm,s.dRF,PH.dj_un (s.dhF.le l1 (PH.le.refl _)) hdF,own' _ s.oR,own' _ (s.oh.le (PH.un_le l1 l2)),own' _ s.oF,s.gl⟩,none,0,?_,x1,x2,d,PH.un_left _ _,PH.un_right d,?_,hS⟩
  ·rw [hn0,hm0]
  ·exact ⟨hl',.inl ⟨rfl,by omega,rfl⟩⟩
 ·have s2 := Sat.grown s1 (row := (Value.slice a n c).ownBlock) (fun g hgr => by
   rcases hx with ⟨rfl,_⟩ | ⟨g0,cur0,rfl,hg0,_⟩
   ·cases hgr
   ·cases hgr; rw [hg0]; simp) hg hcell (by
    rcases hblk with e | e
    ·exact .inl e.symm
    ·cases e; exact .inr (Nat.le_refl _))
  obtain ⟨s3,d3⟩ := s2.join hdF
  exact ⟨_,_,w',by unfold appStr sE; rw [Sem.run_bind,hrun]; rfl,rfl,hS',R,_,PH.le.refl _,s3,some ⟨g',0,none⟩,cap,rfl,PH.one g' (.cells cur 5 (0,0)),x2,d3,PH.un_left _ _,PH.un_right d3,⟨hl',.inr ⟨g',cur,rfl,PH.one_self _ _,q1,q2,q3,q4⟩⟩,hS⟩
theorem putBuf {b : Nat} {p a a' : Option Addr} {n c n' c' : Nat} {l : List UInt8} {B : Value → HP} (hp : p = none ∨ p = some ⟨b,0,none⟩) (hn : n' = l.length) (post : ∀ R h,(BRep b l).p R h → (B (.tuple #[])).p R h) :
  OTri Tryz.prog (storeS 28 (.pointer (some ⟨b,1,none⟩)) (.slice a' n' c')) (HP.sep (BC b p a n c) (OwB a' n' c' l)) B := by
 subst hn
 refine ((storeBuf (p := p) (a := a) (n := n) (c := c) a' l.length c').frame (OwB a' l.length c' l)).weak (fun _ _ h => h) ?_
 rintro v R hh ⟨h1,h2,d,l1,l2,⟨rfl,hc⟩,ho⟩
 exact post _ _ ⟨p,a',c',hp,h1,h2,d,l1,l2,hc,ho⟩
theorem wByteB_ok (b : Nat) (l : List UInt8) (x : UInt8) (hb : l.length ≤ 100000) : Tri Tryz.prog 247 #[.pointer (some ⟨b,0,none⟩),.int .u8 x.toNat] (BRep b l) (fun v => HP.and (v = .nilIface) (BRep b (l ++ [x]))) := by
 refine tri_of_tree (ρ := [.v (.pointer (some ⟨b,0,none⟩)),.p (BRep b l),.i x.toNat]) mixed Tryz.func247 tree_bWriteByte ?_
 unfold t_bWriteByte
 simp only [T.den,E.prop,E.den,RX.look,F1.app,F2.app,Uni.int_i,Uni.nat_n,Uni.bool_c,Uni.str_s,Uni.adr_a,Uni.val_v,Uni.hp_p,hden,cden,V.den,W.den,A.den,BR.den,SA.den,FV.den,capV,exs,exP,allP,Cur.app,List.map_cons,List.map_nil,List.cons_append,List.nil_append,List.drop_succ_cons,List.drop_zero,List.length_cons,List.length_nil,Nat.zero_add,Nat.reduceAdd,Int.neg_neg,Bool.not_not,List.append_nil,Nat.add_zero,List.getElem?_cons_zero,List.getElem?_cons_succ,Decidable.not_not,semW_eq,semW_load,semW_store,semW_storeC,semW_append,semW_nil,ne_eq,Nat.reduceEqDiff,not_false_eq_true,oneC]
 refine (copyCheck_ok b l).weak (fun _ _ h => h) ?_
 rintro v R h ⟨rfl,p,a,c,hp,H⟩
 refine ⟨HP.sep (BC b p a l.length c) (OwB a l.length c l),rfl,⟨b,nilChk',a,l.length,c,loadBuf,fun y => ?_⟩,H⟩
 clear H
 have ap := append8 a l.length c l (HP.one y (.cells #[.int .u8 x.toNat] 5 (0,0))) (some ⟨y,0,none⟩) 1 1 [x] ⟨one_rd y #[.int .u8 x.toNat] 5,fun R h H hq => by cases hq⟩ rfl (fun _ => rfl) (by omega)
 refine (ap.frame (BC b p a l.length c)).weak (fun R h H => ?_) ?_
 ·exact HP.sep_comm (HP.sep_assoc H)
 ·rintro v R h ⟨h1,h2,d,l1,l2,⟨a',c',rfl,H⟩,hBC⟩
  refine ⟨a',l.length + 1,c',OwB a' (l.length + 1) c' (l ++ [x]),BC b p a l.length c,rfl,⟨b,nilChk',?_⟩,HP.pick [_,_,_] [0,2,1] (by decide) rfl (HP.sep_assoc ⟨h1,h2,d,l1,l2,H,hBC⟩)⟩
  exact putBuf hp (by simp) fun R h H => ⟨BRep b (l ++ [x]),rfl,.of fun R h H => ⟨trivial,H⟩,H⟩
theorem wStringB_ok (b : Nat) (l q : List UInt8) (hb : l.length + q.length ≤ 100000) : Tri Tryz.prog 248 #[.pointer (some ⟨b,0,none⟩),sE q] (BRep b l) (fun v => HP.and (v = .tuple #[.int .i64 q.length,.nilIface]) (BRep b (l ++ q))) := by
 refine tri_of_tree (ρ := [.v (.pointer (some ⟨b,0,none⟩)),.p (BRep b l),.s q]) mixed Tryz.func248 tree_bWriteString ?_
 unfold t_bWriteString
 simp only [T.den,E.prop,E.den,RX.look,F1.app,F2.app,Uni.int_i,Uni.nat_n,Uni.bool_c,Uni.str_s,Uni.adr_a,Uni.val_v,Uni.hp_p,hden,cden,V.den,W.den,A.den,BR.den,SA.den,FV.den,capV,exs,exP,allP,Cur.app,List.map_cons,List.map_nil,List.cons_append,List.nil_append,List.drop_succ_cons,List.drop_zero,List.length_cons,List.length_nil,Nat.zero_add,Nat.reduceAdd,Int.neg_neg,Bool.not_not,List.append_nil,Nat.add_zero,List.getElem?_cons_zero,List.getElem?_cons_succ,Decidable.not_not,semW_eq,semW_load,semW_store,semW_storeC,semW_append,semW_nil,ne_eq,Nat.reduceEqDiff,not_false_eq_true,oneC]
 refine (copyCheck_ok b l).weak (fun _ _ h => h) ?_
 rintro v R h ⟨rfl,p,a,c,hp,H⟩
 refine ⟨HP.sep (BC b p a l.length c) (OwB a l.length c l),rfl,⟨b,nilChk',a,l.length,c,loadBuf,?_⟩,H⟩
 clear H
 rw [semW_appStr (by decide)]
 refine (appendStr_ok 28 a l.length c l q (BC b p a l.length c) (by omega)).weak (fun _ _ H => HP.sep_comm H) ?_
 rintro v R h ⟨a',c',rfl,H⟩
 refine ⟨a',l.length + q.length,c',OwB a' (l.length + q.length) c' (l ++ q),BC b p a l.length c,rfl,⟨b,nilChk',?_⟩,H⟩
 exact putBuf hp (by simp) fun R h H => ⟨BRep b (l ++ q),rfl,.of fun R h H => ⟨trivial,H⟩,H⟩
def usdS (ts : Array TypeId) (ty : TypeId) (x : Value) : Sem Next := do pure (.value (← Builtin.unsafeSliceData_ ts ty #[x]))
theorem semW_usd {ts : Array TypeId} {ty : TypeId} {i : Nat} {x : Value} : semW (.call ⟨.builtin .unsafeSliceData,#[.tmp i],ts⟩) ty [(i,x)] = usdS ts ty x := by
 simp [semW,execOp,resolve,arW,invoke,builtin,usdS]
def ussS (ts : Array TypeId) (ty : TypeId) (x y : Value) : Sem Next := do pure (.value (← Builtin.unsafeString_ ts ty #[x,y]))
theorem semW_uss {ts : Array TypeId} {ty : TypeId} {i j : Nat} {x y : Value} (h : i ≠ j) : semW (.call ⟨.builtin .unsafeString,#[.tmp i,.tmp j],ts⟩) ty [(i,x),(j,y)] = ussS ts ty x y := by
 have h' : (i == j) = false := by simpa using h
 simp [semW,execOp,resolve,arW,invoke,builtin,h',ussS]
theorem usd_ok (ts : Array TypeId) (ty : TypeId) (g n c : Nat) (hc : c ≠ 0) (A : HP) : OTri Tryz.prog (usdS ts ty (.slice (some ⟨g,0,none⟩) n c)) A (fun v => HP.and (v = .pointer (some ⟨g,0,none⟩)) A) :=
 OTri.ofRead (v := .pointer (some ⟨g,0,none⟩)) (fun w R h F s a => by
  unfold usdS
  rw [Sem.run_bind,run_unsafeSliceData_row w ts ty ⟨g,0,none⟩ n c hc]; rfl) fun R h H => ⟨rfl,H⟩
theorem undPb : Tryz.prog.underlying 344 = some (.pointer 5) := by kernel_rfl
theorem cells8 : Tryz.prog.cellsOf 5 = 1 := by kernel_rfl
theorem freeze_other {w : World} {g k n : Nat} (hk : k ≠ g) : (w.freeze ⟨g,0,none⟩ n).heap[k]? = w.heap[k]? := by
 unfold World.freeze
 split
 ·rfl
 ·simp only [Array.getElem?_modify]
  rw [if_neg (Ne.symm hk)]
theorem freeze_same (w : World) (g n : Nat) : Same w (w.freeze ⟨g,0,none⟩ n) := by
 unfold World.freeze
 split
 ·exact Same.refl w
 ·exact ⟨rfl,rfl,rfl,by simp⟩
theorem uss_ok (it ty : TypeId) (g c : Nat) (l : List UInt8) (h0 : l ≠ []) : OTri Tryz.prog (ussS #[344,it] ty (.pointer (some ⟨g,0,none⟩)) (.int .i64 l.length)) (OwB (some ⟨g,0,none⟩) l.length c l) (fun v => HP.and (v = sE l) HP.tt) := by
 rintro w R h F s ⟨hl,hx⟩
 rcases hx with ⟨h1,_⟩ | ⟨g',cur,e,hg,q1,q2,q3,q4⟩
 ·cases h1
 cases e
 have hw := s.oh _ _ hg
 have hrun := run_unsafeString_row (P := Tryz.prog) w 344 it ty 5 undPb cells8 g cur.size (by simp [World.shape?,hw]) l h0 (by omega) (by unfold maxLen at q2; omega) (fun j x hj => by
  rw [RX.addr_add,cell_at hw]
  have : (cur.toList.take (l.length * 1))[0 + j]? = some (u8v x) := by rw [q4]; simp [hj]
  rw [List.getElem?_take] at this
  split at this
  ·simpa [u8v] using this
  ·cases this)
 refine ⟨.value (sE l),sE l,w.freeze ⟨g,0,none⟩ l.length,by unfold ussS; rw [Sem.run_bind,hrun]; rfl,rfl,freeze_same w g _,R,PH.none',PH.le.refl _,⟨PH.dj_none _,s.dRF,PH.none_dj _,?_,(by intro k o e; cases e),?_,s.gl⟩,rfl,trivial⟩
 ·intro k o hk
  have : k ≠ g := fun e => by subst e; rcases s.dRh k with h1 | h1 <;> simp_all
  rw [freeze_other this]; exact s.oR k o hk
 ·intro k o hk
  have : k ≠ g := fun e => by subst e; rcases s.dhF k with h1 | h1 <;> simp_all
  rw [freeze_other this]; exact s.oF k o hk
set_option maxHeartbeats 1000000 in
theorem stringB_ok (b : Nat) (l : List UInt8) (h0 : l ≠ []) : Tri Tryz.prog 249 #[.pointer (some ⟨b,0,none⟩)] (BRep b l) (fun v => HP.and (v = sE l) HP.tt) := by
 refine Tri.ex fun p => Tri.ex fun a => Tri.ex fun c => ?_
 refine Tri.weak (A := HP.sep (BC b p a l.length c) (OwB a l.length c l)) ?_ (fun _ _ h => h.2) fun _ _ _ h => h
 have hl : l.length ≠ 0 := by simpa using h0
 refine Tri.fact (φ := (∃ g,a = some ⟨g,0,none⟩) ∧ c ≠ 0) (fun R h H => ?_) ?_
 ·rcases (HP.sep_right H).2 with ⟨_,h1,_⟩ | ⟨g,cur,rfl,_,h1,_⟩
  ·exact absurd h1 hl
  ·exact ⟨⟨g,rfl⟩,by omega⟩
 rintro ⟨⟨g,rfl⟩,hc⟩
 refine tri_of_tree (ρ := [.n b,.p (HP.sep (BC b p (some ⟨g,0,none⟩) l.length c) (OwB (some ⟨g,0,none⟩) l.length c l))]) mixed Tryz.func249 tree_bString ?_
 unfold t_bString
 simp only [T.den,E.prop,E.den,RX.look,F1.app,F2.app,Uni.int_i,Uni.nat_n,Uni.bool_c,Uni.str_s,Uni.adr_a,Uni.val_v,Uni.hp_p,hden,cden,V.den,W.den,A.den,BR.den,SA.den,FV.den,capV,exs,exP,allP,Cur.app,List.map_cons,List.map_nil,List.cons_append,List.nil_append,List.drop_succ_cons,List.drop_zero,List.length_cons,List.length_nil,Nat.zero_add,Nat.reduceAdd,Int.neg_neg,Bool.not_not,List.append_nil,Nat.add_zero,List.getElem?_cons_zero,List.getElem?_cons_succ,Decidable.not_not,semW_eq,semW_load,ne_eq,Nat.reduceEqDiff,not_false_eq_true]
 have ld : ∀ K : HP,ORead Tryz.prog (loadS 28 (.pointer (some ⟨b,1,none⟩))) (HP.sep (BC b p (some ⟨g,0,none⟩) l.length c) K) (.slice (some ⟨g,0,none⟩) l.length c) := fun K => loadBuf
 have ld1 : ORead Tryz.prog (loadS 28 (.pointer (some ⟨b,1,none⟩))) (BC b p (some ⟨g,0,none⟩) l.length c) (.slice (some ⟨g,0,none⟩) l.length c) := (ld HP.tt).imp fun _ _ H => HP.sep_tt H
 refine ⟨fun s P => s = l,⟨some ⟨g,0,none⟩,l.length,c,ld _,?_,some ⟨g,0,none⟩,l.length,c,ld _,?_⟩,?_⟩
 ·rw [semW_usd]
  refine (usd_ok _ _ g l.length c hc (HP.sep (BC b p (some ⟨g,0,none⟩) l.length c) (OwB (some ⟨g,0,none⟩) l.length c l))).weak (fun _ _ h => h) ?_
  rintro v R h ⟨rfl,H⟩
  refine ⟨g,OwB (some ⟨g,0,none⟩) l.length c l,BC b p (some ⟨g,0,none⟩) l.length c,rfl,⟨some ⟨g,0,none⟩,l.length,c,ld1,?_⟩,HP.sep_comm H⟩
  rw [semW_uss (by decide)]
  refine (uss_ok _ _ g c l h0).weak (fun _ _ h => h) ?_
  rintro v R h ⟨rfl,H⟩
  exact ⟨l,HP.tt,rfl,by simp [RX.look],H⟩
 ·rw [semW_usd]
  refine (usd_ok _ _ g l.length c hc (HP.sep (BC b p (some ⟨g,0,none⟩) l.length c) (OwB (some ⟨g,0,none⟩) l.length c l))).weak (fun _ _ h => h) ?_
  rintro v R h ⟨rfl,H⟩
  refine ⟨g,OwB (some ⟨g,0,none⟩) l.length c l,BC b p (some ⟨g,0,none⟩) l.length c,rfl,?_,HP.sep_comm H⟩
  rw [semW_uss (by decide)]
  refine (uss_ok _ _ g c l h0).weak (fun _ _ h => h) ?_
  rintro v R h ⟨rfl,H⟩
  exact ⟨l,HP.tt,rfl,by simp [RX.look],H⟩
 ·rintro s P rfl
  exact .of fun R h H => ⟨rfl,trivial⟩
end Go.Proofs.YtdieogcemmnaaaaGreatDoor

namespace Go.Proofs.YtdieogcemmnaaaaGreatDoor
set_option linter.unusedSimpArgs false
set_option linter.unusedVariables false
open Go.Proofs.YtdieogcemmnaaaaGreatDoor RX
set_option maxRecDepth 100000
def nameOk (s : List UInt8) : Bool := decide (1 ≤ s.length) && decide (s.length ≤ 16) && decide (s ≠ [46]) && decide (s ≠ [46,46]) && decide ((47 : UInt8) ∉ s) && decide ((0 : UInt8) ∉ s)
def splitP (s : List UInt8) : Option (List (List UInt8)) :=
 if s = [47] then some [] else match s with
 | b :: r => if b = 47 then (let l := splitB 47 r; if l.length ≤ 8 ∧ l.all nameOk = true then some l else none) else none
 | [] => none
def joinN (l : List (List UInt8)) : List UInt8 := l.flatMap fun x => 47 :: x
def joinP (l : List (List UInt8)) : List UInt8 := if l = [] then [47] else joinN l
theorem splitB_join (c : UInt8) : ∀ s : List UInt8,(splitB c s).flatMap (fun x => c :: x) = c :: s
 | [] => rfl
 | b :: r => by
  have ih := splitB_join c r
  unfold splitB
  by_cases h : b = c
  ·subst h; rw [if_pos rfl]; simp [ih]
  ·rw [if_neg h]
   cases hq : splitB c r with
   | nil => rw [hq] at ih; simp at ih
   | cons x q => rw [hq] at ih; simp at ih ⊢; exact ih
theorem pName_ok (s : List UInt8) (Q : HP) : Tri Tryz.prog 205 #[sE s] Q (fun v => HP.and (v = .bool (nameOk s)) Q) := by
 refine (show Tri Tryz.prog 205 #[sE s] HP.tt (fun v => HP.and (v = .bool (nameOk s)) HP.tt) from ?_).conseq (K := Q) (.of fun R h H => HP.tt_sep H) fun v => .of fun R h ⟨h1,h2,d,l1,l2,⟨e,_⟩,H⟩ => ⟨e,Q.mono (PH.le.refl _) l2 H⟩
 refine tri_of_tree (ρ := [.s s]) mixed Tryz.func205 tree_pName ?_
 unfold t_pName
 simp only [T.den,E.prop,E.den,RX.look,F1.app,F2.app,Uni.int_i,Uni.nat_n,Uni.bool_c,Uni.str_s,Uni.adr_a,Uni.val_v,Uni.hp_p,hden,cden,V.den,W.den,A.den,BR.den,SA.den,FV.den,capV,exs,exP,allP,Cur.app,List.map_cons,List.map_nil,List.cons_append,List.nil_append,List.drop_succ_cons,List.drop_zero,List.length_cons,List.length_nil,Nat.zero_add,Nat.reduceAdd,Int.neg_neg,Bool.not_not,List.append_nil,Nat.add_zero,List.getElem?_cons_zero,List.getElem?_cons_succ,Decidable.not_not,semW_eq,ne_eq,Nat.reduceEqDiff,not_false_eq_true]
 refine ⟨fun h => .of fun R h' H => ⟨?_,trivial⟩,fun h1 => ⟨fun h => .of fun R h' H => ⟨?_,trivial⟩,fun h2 => ⟨fun h => .of fun R h' H => ⟨?_,trivial⟩,fun h3 => ⟨fun h => .of fun R h' H => ⟨?_,trivial⟩,fun h4 => ?_⟩⟩⟩⟩
 ·have : ¬ (1 ≤ s.length) := by omega
  simp [nameOk,this]
 ·have : ¬ (s.length ≤ 16) := by omega
  simp [nameOk,this]
 ·simp [nameOk,h]
 ·simp [nameOk,h]
 refine (indexByte_ok s 47 HP.tt).weak (fun _ _ h => h) ?_
 rintro v R h ⟨rfl,H⟩
 refine ⟨Lib.indexByte s 47,rfl,⟨fun hlt => ?_,fun hge => .of fun R h H => ⟨?_,trivial⟩⟩,H⟩
 ·refine (indexByte_ok s 0 HP.tt).weak (fun _ _ h => h) ?_
  rintro v R h ⟨rfl,H⟩
  refine ⟨Lib.indexByte s 0,rfl,.of fun R h H => ⟨?_,trivial⟩,H⟩
  have e1 : (47 : UInt8) ∉ s := idx_neg_iff.1 hlt
  have q1 : 1 ≤ s.length := by omega
  have q2 : s.length ≤ 16 := by omega
  simp only [nameOk,q1,q2,h3,h4,e1,ne_eq,not_false_eq_true,decide_true,Bool.and_self,Bool.true_and,Value.bool.injEq]
  rw [decide_eq_decide]
  exact idx_neg_iff
 ·have e1 : (47 : UInt8) ∈ s := Classical.byContradiction fun h => hge (idx_neg_iff.2 h)
  simp [nameOk,e1]
theorem sliceStr (s : List UInt8) (lo hi : Option Nat) (h1 : lo.getD 0 ≤ hi.getD s.length) (h2 : hi.getD s.length ≤ s.length) (Q : HP) :
  ORead Tryz.prog (sliceS 9 (sE s) (iv lo) (iv hi) none) Q (sE ((s.take (hi.getD s.length)).drop (lo.getD 0))) := fun w R h F st a => by
 have e : (⟨s.toArray⟩ : ByteArray).extract (lo.getD 0) (hi.getD s.length) = ⟨((s.take (hi.getD s.length)).drop (lo.getD 0)).toArray⟩ := by
  have : ((⟨s.toArray⟩ : ByteArray).extract (lo.getD 0) (hi.getD s.length)).data = (((s.take (hi.getD s.length)).drop (lo.getD 0)).toArray) := by
   rw [ByteArray.data_extract]
   apply Array.ext'
   simp [List.drop_take]
  cases hq : (⟨s.toArray⟩ : ByteArray).extract (lo.getD 0) (hi.getD s.length)
  rw [hq] at this
  simp only at this
  rw [this]
 have hs : (⟨s.toArray⟩ : ByteArray).size = s.length := rfl
 unfold sliceS Instr.sliceAt Instr.slice sE
 cases lo <;> cases hi <;> simp only [Option.getD_some,Option.getD_none] at h1 h2 e ⊢ <;> simp [iv,RX.run_underlying undStr,Instr.sliceBounds,hs,run_bound,h1,h2,e]
theorem set_app {α : Type} {l : List α} {k : Nat} (h : l.length = k) (x y : α) (r : List α) : (l ++ y :: r).set k x = l ++ x :: r := by
 subst h; simp [List.set_append]
theorem sliceTo {t e : TypeId} {i : TypeInfo} (ht : Tryz.prog.underlying t = some (.slice e)) (hi : Tryz.prog.info? e = some i) (S : HP) (a : Option Addr) (n c k : Nat) (hk : k ≤ n) (hn : n ≤ c) :
  ORead Tryz.prog (sliceS t (.slice a n c) none (some (.int .i64 k)) none) S (.slice a k c) := by
 have := slice_ok ht hi S a n c none (some k) none (Nat.zero_le _) (by simp; omega) (Nat.le_refl _) (fun h => by cases h)
 have e1 : (a.map fun x => x.add 0) = a := by cases a <;> simp [Addr.add_zero']
 simpa [iv,e1] using this
theorem inI64' (x : Int) (h1 : -9223372036854775808 ≤ x) (h2 : x ≤ 9223372036854775807) : IntKind.i64.min ≤ x ∧ x ≤ IntKind.i64.max := ⟨h1,h2⟩
theorem storeStr {a : Option Addr} {n c : Nat} {l : List (List UInt8)} {k : Nat} (x : List UInt8) (hk : k < n) {P : HP} (hP : HP.ent P (OwS a n c l)) {B : Value → HP} (post : ∀ R h,(OwS a n c (l.set k x)).p R h → (B (.tuple #[])).p R h) :
  OTri Tryz.prog (storeS 9 (.pointer (a.map fun y => (y.add (k * 1)).add 0)) (sE x)) P B := by
 obtain ⟨i,hi,h1,h2,h3⟩ := info_parts infoStr
 have := store_ok (t := 9) hi 9 1 a n c (l.map sE) (k * 1) 0 (sE x) [sE x] rfl (by rw [h2]; rfl) (by simp) (by simp [sE,Value.oneCell']) (by simp; omega)
 refine (OTri.fact (φ := l.length = n) (fun R h H => by have := H.1; simpa using this) fun hl => ?_ : OTri _ _ (OwS a n c l) B).conseq (K := HP.tt) (hP.trans (.of fun R h H => HP.sep_tt H)) fun v => .of fun R h H => HP.sep_left H
 refine this.weak (fun _ _ h => h) ?_
 rintro v R h ⟨rfl,H⟩
 refine post R h ?_
 have e : (l.map sE).take (k * 1 + 0) ++ [sE x] ++ (l.map sE).drop (k * 1 + 0 + [sE x].length) = (l.set k x).map sE := by
  rw [List.map_set,List.set_eq_take_append_cons_drop,if_pos (by simp; omega)]
  simp
 rw [e] at H
 exact H
set_option maxHeartbeats 1000000 in
theorem genSplit_ok (s : List UInt8) (hs : s.length ≤ 1000) : Tri Tryz.prog 251 #[sE s,sE [47],.int .i64 0,.int .i64 (-1)] HP.tt (fun v => HP.ex fun a => HP.ex fun c => HP.and (v = .slice a (splitB 47 s).length c) (OwS a (splitB 47 s).length c (splitB 47 s))) := by
 refine tri_of_tree (ρ := [.s s,.s [47],.i 0,.i (-1)]) mixed Tryz.func251 tree_sGenSplit ?_
 unfold t_sGenSplit
 simp only [T.den,E.prop,E.den,RX.look,F1.app,F2.app,Uni.int_i,Uni.nat_n,Uni.bool_c,Uni.str_s,Uni.adr_a,Uni.val_v,Uni.hp_p,hden,cden,V.den,W.den,A.den,BR.den,SA.den,FV.den,capV,exs,exP,allP,Cur.app,List.map_cons,List.map_nil,List.cons_append,List.nil_append,List.drop_succ_cons,List.drop_zero,List.length_cons,List.length_nil,Nat.zero_add,Nat.reduceAdd,Int.neg_neg,Bool.not_not,List.append_nil,Nat.add_zero,List.getElem?_cons_zero,List.getElem?_cons_succ,Decidable.not_not,semW_eq,semW_store,semW_storeC,ne_eq,Nat.reduceEqDiff,not_false_eq_true]
 have hlen := splitB_len 47 s
 have hcl : s.count 47 ≤ s.length := List.count_le_length
 refine ⟨fun h => absurd h (by decide),fun _ => ⟨fun h => absurd h (by decide),fun _ => ⟨fun _ => ?_,fun h => absurd h (by decide)⟩⟩⟩
 refine (count1_ok s 47 HP.tt).weak (fun _ _ h => h) ?_
 rintro v R h ⟨rfl,H⟩
 refine ⟨s.count 47,rfl,⟨inI64' _ (by omega) (by omega),fun _ => ⟨inI64' _ (by omega) (by omega),fun _ => ?_⟩⟩,H⟩
 clear H
 rw [semW_mk]
 generalize hN : s.count 47 = N at *
 have hmin : min ((N : Int) + 1) ((s.length : Int) + 1) = ((N + 1 : Nat) : Int) := by omega
 simp only [hmin]
 obtain ⟨i0,hi0,z1,z2,z3⟩ := info_parts infoStr
 refine (mk_ok undSs hi0 z1 rfl z2 (N + 1) (by rw [z3]; omega) (by unfold maxLen; omega) HP.tt).weak (fun _ _ h => h) ?_
 rintro v R h ⟨x,rfl,H⟩
 refine ⟨some ⟨x,0,none⟩,N + 1,N + 1,OwS (some ⟨x,0,none⟩) (N + 1) (N + 1) (List.replicate (N + 1) []),rfl,⟨inI64' _ (by omega) (by omega),fun _ => ?_⟩,?_⟩
 ·clear H
  refine ⟨fun s' i P => ∃ (k : Nat) (done : List (List UInt8)),i = k ∧ k ≤ N ∧ done.length = k ∧ splitB 47 s = done ++ splitB 47 s' ∧ s'.count 47 = N - k ∧ s'.length ≤ 1000 ∧ HP.ent P (OwS (some ⟨x,0,none⟩) (N + 1) (N + 1) (done ++ List.replicate (N + 1 - k) [])),
   fun _ i _ => N - i.toNat,⟨0,[],rfl,Nat.zero_le _,rfl,rfl,by omega,hs,.refl _⟩,?_⟩
  rintro s' _ P ⟨k,done,rfl,hk,hd,hsp,hc,hs',hP⟩
  refine ⟨fun hlt => ?_,fun hge => ?_⟩
  ·refine (index1_ok s' 47 HP.tt).weak (fun _ _ h => h) ?_
   rintro v R h ⟨rfl,H⟩
   refine ⟨Lib.indexByte s' 47,rfl,⟨fun hneg => ?_,fun hnn => ?_⟩,H⟩
   ·have := idx_neg hneg; omega
   ·clear H
    obtain ⟨o,ho⟩ : ∃ o : Nat,Lib.indexByte s' 47 = o := ⟨_,(Int.toNat_of_nonneg (by omega)).symm⟩
    rw [ho]
    obtain ⟨q1,q2,q3⟩ := splitB_at ho
    simp only [Int.add_zero,Int.toNat_natCast]
    refine ⟨inI64' _ (by omega) (by omega),fun _ => ⟨s'.take o,sliceStr s' none (some o) (Nat.zero_le _) (by simp; omega) HP.tt,by omega,fun _ => ⟨by omega,fun _ => ⟨rfl,fun _ => ?_⟩⟩⟩⟩
    refine storeStr (k := k) (s'.take o) (by omega) hP fun R h H => ?_
    refine ⟨_,rfl,⟨inI64' _ (by simp; omega) (by simp; omega),fun _ => ⟨s'.drop (o + 1),?_,inI64' _ (by omega) (by omega),fun _ => ?_⟩⟩,H⟩
    ·have := sliceStr s' (some (o + 1)) none (by simp; omega) (by simp) HP.tt
     simp only [Option.getD_none,List.take_length] at this
     exact this
    ·refine ⟨⟨k + 1,done ++ [s'.take o],by omega,by omega,by simp [hd],by rw [hsp,q1]; simp,by omega,by simp; omega,.of fun R h H => ?_⟩,by first | omega | (dsimp only; omega)⟩
     have e : (done ++ List.replicate (N + 1 - k) []).set k (s'.take o) = done ++ [s'.take o] ++ List.replicate (N + 1 - (k + 1)) [] := by
      obtain ⟨m,hm⟩ : ∃ m,N + 1 - k = m + 1 := ⟨N - k,by omega⟩
      rw [hm,show N + 1 - (k + 1) = m by omega,List.replicate_succ,set_app hd]
      simp
     rw [← e]; exact H
  ·obtain rfl : k = N := by omega
   have h0 : s'.count 47 = 0 := by omega
   rw [splitB_none h0] at hsp
   simp only [Int.toNat_natCast]
   refine ⟨by omega,fun _ => ⟨by omega,fun _ => ⟨rfl,fun _ => ?_⟩⟩⟩
   refine storeStr (k := k) s' (by omega) hP fun R h H => ?_
   refine ⟨_,rfl,⟨inI64' _ (by omega) (by omega),fun _ => ⟨some ⟨x,0,none⟩,k + 1,k + 1,?_,.of fun R h H => ?_⟩⟩,H⟩
   ·exact sliceTo undSs hi0 _ _ _ _ (k + 1) (Nat.le_refl _) (Nat.le_refl _)
   ·have e : (done ++ List.replicate (k + 1 - k) []).set k s' = splitB 47 s := by
     rw [hsp,show k + 1 - k = 1 by omega]; exact set_app hd s' [] []
    rw [e] at H
    exact ⟨some ⟨x,0,none⟩,k + 1,by rw [hlen],by rw [hlen]; exact H⟩
 ·have e : (List.replicate (N + 1) (Value.string ByteArray.empty)) = (List.replicate (N + 1) ([] : List UInt8)).map sE := by
   rw [List.map_replicate]; rfl
  rw [e] at H
  exact HP.sep_left H
theorem sSplit_ok (s : List UInt8) (hs : s.length ≤ 1000) : Tri Tryz.prog 215 #[sE s,sE [47]] HP.tt (fun v => HP.ex fun a => HP.ex fun c => HP.and (v = .slice a (splitB 47 s).length c) (OwS a (splitB 47 s).length c (splitB 47 s))) := by
 refine tri_of_tree (ρ := [.s s,.s [47]]) mixed Tryz.func215 tree_sSplit ?_
 unfold t_sSplit
 simp only [T.den,E.prop,E.den,RX.look,F1.app,F2.app,Uni.int_i,Uni.nat_n,Uni.bool_c,Uni.str_s,Uni.adr_a,Uni.val_v,Uni.hp_p,hden,cden,V.den,W.den,A.den,BR.den,SA.den,FV.den,capV,exs,exP,allP,Cur.app,List.map_cons,List.map_nil,List.cons_append,List.nil_append,List.drop_succ_cons,List.drop_zero,List.length_cons,List.length_nil,Nat.zero_add,Nat.reduceAdd,Int.neg_neg,Bool.not_not,List.append_nil,Nat.add_zero,List.getElem?_cons_zero,List.getElem?_cons_succ,Decidable.not_not,semW_eq,ne_eq,Nat.reduceEqDiff,not_false_eq_true]
 refine (genSplit_ok s hs).weak (fun _ _ _ => trivial) ?_
 rintro v R h ⟨a,c,rfl,H⟩
 exact ⟨a,_,c,OwS a (splitB 47 s).length c (splitB 47 s),rfl,.of fun R h H => ⟨a,c,rfl,H⟩,H⟩
theorem loadStr {S : HP} {a : Option Addr} {l : List (List UInt8)} {k : Nat} {x : List UInt8} (r : Rd S a (l.map sE)) (hk : l[k]? = some x) :
  ORead Tryz.prog (loadS 9 (.pointer (a.map fun y => (y.add (k * 1)).add 0))) S (sE x) :=
 load1_ok undStr aggStr szStr r (k := k * 1) (off := 0) (by simp [hk])
set_option maxHeartbeats 1000000 in
theorem sIndexF_ok (S : HP) (a : Option Addr) (n c : Nat) (l : List (List UInt8)) (hr : RdL S a n (l.map sE)) (hl : l.length = n) (hn : n ≤ 100000) (fv : Value) (h1 : oneC fv = fv) (p : List UInt8 → Bool)
  (hf : ∀ x,VTri Tryz.prog fv #[sE x] HP.tt fun v => HP.and (v = .bool (p x)) HP.tt) :
  Tri Tryz.prog 252 #[.slice a n c,fv] S (fun v => HP.ex fun r : Int => HP.and (v = .int .i64 r ∧ (0 ≤ r ↔ l.any p = true)) S) := by
 refine Tri.conseq (K := HP.tt) (A := HP.sep S HP.tt) (B := fun v => HP.ex fun r : Int => HP.and (v = .int .i64 r ∧ (0 ≤ r ↔ l.any p = true)) (HP.sep S HP.tt)) ?_ (.of fun R h H => HP.sep_tt (HP.sep_tt H)) fun v => .of fun R h H => by
  obtain ⟨r,e,H⟩ := HP.sep_left H
  exact ⟨r,e,HP.sep_left H⟩
 refine Tri.fact (φ := a = none → n = 0) (fun R h H => hr.none R _ (HP.sep_left H)) fun hnil => ?_
 have := tri_of_tree (ρ := [.a a,.n n,.n c,.p S,.v fv,.p HP.tt]) mixed Tryz.func252 (t := t_sIndexF) (post := fun v => HP.ex fun r : Int => HP.and (v = .int .i64 r ∧ (0 ≤ r ↔ l.any p = true)) (HP.sep S HP.tt)) tree_sIndexF ?_
 ·simpa [W.den,RX.A.den,SA.den,E.den,RX.look,h1,hden,cden] using this
 unfold t_sIndexF
 simp only [T.den,E.prop,E.den,RX.look,F1.app,F2.app,Uni.int_i,Uni.nat_n,Uni.bool_c,Uni.str_s,Uni.adr_a,Uni.val_v,Uni.hp_p,hden,cden,V.den,W.den,A.den,BR.den,SA.den,FV.den,capV,exs,exP,allP,Cur.app,List.map_cons,List.map_nil,List.cons_append,List.nil_append,List.drop_succ_cons,List.drop_zero,List.length_cons,List.length_nil,Nat.zero_add,Nat.reduceAdd,Int.neg_neg,Bool.not_not,List.append_nil,Nat.add_zero,List.getElem?_cons_zero,List.getElem?_cons_succ,Decidable.not_not,semW_eq,semW_load,ne_eq,Nat.reduceEqDiff,not_false_eq_true]
 refine ⟨fun _ i P => ∃ k : Nat,i = k ∧ k ≤ n ∧ P = HP.tt ∧ ∀ q x,q < k → l[q]? = some x → p x = false,fun _ i _ => n - i.toNat,⟨0,rfl,Nat.zero_le _,rfl,fun q x h => by omega⟩,?_⟩
 rintro _ _ _ ⟨k,rfl,hk,rfl,hall⟩
 refine ⟨fun hlt => ⟨by omega,fun _ => ⟨?_,fun _ => ?_⟩⟩,fun hge => .of fun R h H => ⟨-1,⟨rfl,?_⟩,H⟩⟩
 ·cases a with
  | none => have := hnil rfl; omega
  | some _ => rfl
 ·have hkl : k < l.length := by omega
  refine ⟨l[k],loadStr hr.rd (List.getElem?_eq_getElem hkl),?_⟩
  refine (hf l[k]).weak (fun _ _ _ => trivial) ?_
  rintro v R h ⟨rfl,H⟩
  refine ⟨p l[k],HP.tt,rfl,⟨fun hp => .of fun R h H => ⟨k,⟨rfl,?_⟩,H⟩,fun hp => ⟨inI64' _ (by omega) (by omega),fun _ => ⟨⟨k + 1,by omega,by omega,rfl,fun q x hq hx => ?_⟩,by first | omega | (dsimp only; omega)⟩⟩⟩,H⟩
  ·refine ⟨fun _ => List.any_eq_true.2 ⟨l[k],List.getElem_mem hkl,hp⟩,fun _ => by omega⟩
  ·rcases Nat.lt_or_ge q k with h | h
   ·exact hall q x h hx
   ·obtain rfl : q = k := by omega
    rw [List.getElem?_eq_getElem hkl] at hx
    cases hx
    simpa using hp
 ·refine ⟨fun h => by omega,fun h => ?_⟩
  obtain ⟨x,hx,hp⟩ := List.any_eq_true.1 h
  obtain ⟨q,hq,rfl⟩ := List.mem_iff_getElem.1 hx
  have := hall q l[q] (by omega) (List.getElem?_eq_getElem hq)
  rw [hp] at this; cases this
theorem sContainsF_ok (S : HP) (a : Option Addr) (n c : Nat) (l : List (List UInt8)) (hr : RdL S a n (l.map sE)) (hl : l.length = n) (hn : n ≤ 100000) (fv : Value) (h1 : oneC fv = fv) (p : List UInt8 → Bool)
  (hf : ∀ x,VTri Tryz.prog fv #[sE x] HP.tt fun v => HP.and (v = .bool (p x)) HP.tt) :
  Tri Tryz.prog 217 #[.slice a n c,fv] S (fun v => HP.and (v = .bool (l.any p)) S) := by
 refine Tri.conseq (K := HP.tt) (A := HP.sep S HP.tt) (B := fun v => HP.and (v = .bool (l.any p)) (HP.sep S HP.tt)) ?_ (.of fun R h H => HP.sep_tt (HP.sep_tt H)) fun v => .of fun R h H => by
  obtain ⟨e,H⟩ := HP.sep_left H
  exact ⟨e,HP.sep_left H⟩
 have := tri_of_tree (ρ := [.a a,.n n,.n c,.p S,.v fv,.p HP.tt]) mixed Tryz.func217 (t := t_sContainsF) (post := fun v => HP.and (v = .bool (l.any p)) (HP.sep S HP.tt)) tree_sContainsF ?_
 ·simpa [W.den,RX.A.den,SA.den,E.den,RX.look,h1,hden,cden] using this
 unfold t_sContainsF
 simp only [T.den,E.prop,E.den,RX.look,F1.app,F2.app,Uni.int_i,Uni.nat_n,Uni.bool_c,Uni.str_s,Uni.adr_a,Uni.val_v,Uni.hp_p,hden,cden,V.den,W.den,A.den,BR.den,SA.den,FV.den,capV,exs,exP,allP,Cur.app,List.map_cons,List.map_nil,List.cons_append,List.nil_append,List.drop_succ_cons,List.drop_zero,List.length_cons,List.length_nil,Nat.zero_add,Nat.reduceAdd,Int.neg_neg,Bool.not_not,List.append_nil,Nat.add_zero,List.getElem?_cons_zero,List.getElem?_cons_succ,Decidable.not_not,semW_eq,ne_eq,Nat.reduceEqDiff,not_false_eq_true,h1]
 refine ((sIndexF_ok S a n c l hr hl hn fv h1 p hf).frame HP.tt).weak (fun _ _ h => h) ?_
 rintro v R h ⟨x1,x2,d,l1,l2,⟨r,⟨rfl,hr2⟩,H⟩,H2⟩
 refine ⟨r,rfl,.of fun R h H => ⟨?_,H⟩,x1,x2,d,l1,l2,H,H2⟩
 congr 1
 cases hq : l.any p
 ·rw [hq] at hr2; simp at hr2 ⊢; omega
 ·rw [hq] at hr2; simp at hr2 ⊢; omega
theorem bad_ok (x : List UInt8) : VTri Tryz.prog (.func (.func 216) #[] #[]) #[sE x] HP.tt fun v => HP.and (v = .bool (!nameOk x)) HP.tt := by
 refine .inl ⟨216,#[],rfl,⟨_,Tryz.func216,by kernel_rfl,by kernel_rfl⟩,?_⟩
 refine tri_of_tree (ρ := [.s x]) mixed Tryz.func216 tree_pSplitC ?_
 unfold t_pSplitC
 simp only [T.den,E.prop,E.den,RX.look,F1.app,F2.app,Uni.int_i,Uni.nat_n,Uni.bool_c,Uni.str_s,Uni.adr_a,Uni.val_v,Uni.hp_p,hden,cden,V.den,W.den,A.den,BR.den,SA.den,FV.den,capV,exs,exP,allP,Cur.app,List.map_cons,List.map_nil,List.cons_append,List.nil_append,List.drop_succ_cons,List.drop_zero,List.length_cons,List.length_nil,Nat.zero_add,Nat.reduceAdd,Int.neg_neg,Bool.not_not,List.append_nil,Nat.add_zero,List.getElem?_cons_zero,List.getElem?_cons_succ,Decidable.not_not,semW_eq,ne_eq,Nat.reduceEqDiff,not_false_eq_true]
 refine (pName_ok x HP.tt).weak (fun _ _ h => h) ?_
 rintro v R h ⟨rfl,H⟩
 exact ⟨nameOk x,rfl,.of fun R h H => ⟨rfl,H⟩,H⟩
theorem splitP_len {s : List UInt8} {l : List (List UInt8)} (h : splitP s = some l) : l.length ≤ 8 ∧ ∀ x ∈ l,nameOk x = true := by
 unfold splitP at h
 split at h
 ·cases h; simp
 ·split at h
  ·split at h
   ·simp only at h
    split at h
    ·rename_i hq
     cases h
     exact ⟨hq.1,fun x hx => List.all_eq_true.1 hq.2 x hx⟩
    ·cases h
   ·cases h
  ·cases h
theorem nameOk_len {x : List UInt8} (h : nameOk x = true) : 1 ≤ x.length ∧ x.length ≤ 16 := by
 simp only [nameOk,Bool.and_eq_true,decide_eq_true_eq] at h
 exact ⟨h.1.1.1.1.1,h.1.1.1.1.2⟩
theorem joinN_len : ∀ {l : List (List UInt8)},(∀ x ∈ l,nameOk x = true) → (joinN l).length ≤ 17 * l.length
 | [],_ => by simp [joinN]
 | x :: r,h => by
  have h1 := nameOk_len (h x (by simp))
  have ih := joinN_len (l := r) fun y hy => h y (by simp [hy])
  simp only [joinN,List.flatMap_cons,List.length_append,List.length_cons] at ih ⊢
  omega
set_option maxHeartbeats 1000000 in
theorem pSplit_ok (s : List UInt8) : Tri Tryz.prog 190 #[sE s] HP.tt (fun v => HP.ex fun a => HP.ex fun c => HP.and (v = .tuple #[.slice a ((splitP s).getD []).length c,.int .i64 (if (splitP s).isSome then 0 else 20)]) (OwS a ((splitP s).getD []).length c ((splitP s).getD []))) := by
 refine tri_of_tree (ρ := [.s s]) mixed Tryz.func190 tree_pSplit ?_
 unfold t_pSplit
 simp only [T.den,E.prop,E.den,RX.look,F1.app,F2.app,Uni.int_i,Uni.nat_n,Uni.bool_c,Uni.str_s,Uni.adr_a,Uni.val_v,Uni.hp_p,hden,cden,V.den,W.den,A.den,BR.den,SA.den,FV.den,capV,exs,exP,allP,Cur.app,List.map_cons,List.map_nil,List.cons_append,List.nil_append,List.drop_succ_cons,List.drop_zero,List.length_cons,List.length_nil,Nat.zero_add,Nat.reduceAdd,Int.neg_neg,Bool.not_not,List.append_nil,Nat.add_zero,List.getElem?_cons_zero,List.getElem?_cons_succ,Decidable.not_not,semW_eq,ne_eq,Nat.reduceEqDiff,not_false_eq_true]
 have bad : ∀ R h,splitP s = none → (HP.ex fun a => HP.ex fun c => HP.and ((Value.tuple #[.slice none 0 0,.int .i64 20]) = .tuple #[.slice a ((splitP s).getD []).length c,.int .i64 (if (splitP s).isSome then 0 else 20)]) (OwS a ((splitP s).getD []).length c ((splitP s).getD []))).p R h := fun R h e => by
  rw [e]; exact ⟨none,0,rfl,OwC.nil _ _ R h⟩
 refine ⟨fun h => .of fun R h' H => ?_,fun h1 => ⟨fun h => .of fun R h' H => bad R h' ?_,fun h2 => ?_⟩⟩
 ·have e : splitP s = some [] := by unfold splitP; rw [if_pos h]
  rw [e]; exact ⟨none,0,rfl,OwC.nil _ _ R h'⟩
 ·cases e : splitP s with
  | none => rfl
  | some l =>
   exfalso
   obtain ⟨q1,q2⟩ := splitP_len e
   have q3 := joinN_len q2
   unfold splitP at e
   rw [if_neg h1] at e
   split at e
   ·split at e
    ·rename_i b r hb
     simp only at e
     split at e
     ·cases e
      have := splitB_join 47 r
      unfold joinN at q3
      rw [this] at q3
      simp at h q3 q1
      omega
     ·cases e
    ·cases e
   ·cases e
 refine (hasPrefix_ok s [47] HP.tt).weak (fun _ _ h => h) ?_
 rintro v R h ⟨rfl,H⟩
 refine ⟨([47] : List UInt8).isPrefixOf s,rfl,⟨fun hp => .of fun R h H => bad R h ?_,fun hp => ?_⟩,H⟩
 ·unfold splitP
  rw [if_neg h1]
  cases s with
  | nil => rfl
  | cons b r =>
   have : ¬ b = 47 := fun e => by subst e; simp at hp
   simp only [this,if_false]
 ·clear H
  obtain ⟨r,rfl⟩ : ∃ r,s = 47 :: r := by
   cases s with
   | nil => simp at hp
   | cons b r =>
    have : b = 47 := by
     simp [List.isPrefixOf] at hp; exact hp.symm
    exact ⟨r,by rw [this]⟩
  have hl : r.length ≤ 1000 := by simp at h2; omega
  have hsl := sliceStr (47 :: r) (some 1) none (by simp) (by simp) HP.tt
  simp only [Option.getD_some,Option.getD_none,List.take_length,List.drop_succ_cons,List.drop_zero] at hsl
  refine ⟨r,hsl,?_⟩
  refine (sSplit_ok r hl).weak (fun _ _ h => h) ?_
  rintro v R h ⟨a,c,rfl,H⟩
  have es : splitP (47 :: r) = if (splitB 47 r).length ≤ 8 ∧ (splitB 47 r).all nameOk = true then some (splitB 47 r) else none := by
   unfold splitP; rw [if_neg h1]; simp
  refine ⟨a,_,c,OwS a (splitB 47 r).length c (splitB 47 r),rfl,⟨fun h8 => .of fun R h H => bad R h ?_,fun h8 => ?_⟩,H⟩
  ·rw [es,if_neg (fun q => by omega)]
  clear H
  refine Tri.fact (φ := a = none → (splitB 47 r).length = 0) (fun R h H => (RdL.ow _ _ _ _ _ _).none R h H) fun hnil => ?_
  refine (sContainsF_ok (OwS a (splitB 47 r).length c (splitB 47 r)) a _ c (splitB 47 r) (RdL.ow _ _ _ _ _ _) rfl (by omega) (.func (.func 216) #[] #[]) rfl (fun x => !nameOk x) bad_ok).weak (fun _ _ h => h) ?_
  rintro v R h ⟨rfl,H⟩
  refine ⟨(splitB 47 r).any fun x => !nameOk x,rfl,⟨fun hb => .of fun R h H => bad R h ?_,fun hb => .of fun R h H => ?_⟩,H⟩
  ·rw [es,if_neg]
   rintro ⟨_,q⟩
   obtain ⟨x,hx,hx2⟩ := List.any_eq_true.1 hb
   rw [List.all_eq_true.1 q x hx] at hx2
   cases hx2
  ·have e : splitP (47 :: r) = some (splitB 47 r) := by
    have hall : (splitB 47 r).all nameOk = true := List.all_eq_true.2 fun x hx => by
     cases hq : nameOk x with
     | true => rfl
     | false => exact absurd (List.any_eq_true.2 ⟨x,hx,by simp [hq]⟩) hb
    rw [es,if_pos ⟨by omega,hall⟩]
   rw [e]
   exact ⟨a,c,rfl,H⟩
theorem joinN_app (l : List (List UInt8)) (x : List UInt8) : joinN (l ++ [x]) = joinN l ++ [47] ++ x := by simp [joinN]
set_option maxHeartbeats 1000000 in
theorem pJoin_ok (S : HP) (a : Option Addr) (n c : Nat) (l : List (List UInt8)) (hr : RdL S a n (l.map sE)) (hl : l.length = n) (hn : n ≤ 8) (hok : ∀ x ∈ l,nameOk x = true) :
  Tri Tryz.prog 213 #[.slice a n c] S (fun v => HP.and (v = sE (joinP l)) S) := by
 refine Tri.fact (φ := a = none → n = 0) (fun R h H => hr.none R _ H) fun hnil => ?_
 refine tri_of_tree (ρ := [.a a,.n n,.n c,.p S]) mixed Tryz.func213 tree_pJoin ?_
 unfold t_pJoin
 simp only [T.den,E.prop,E.den,RX.look,F1.app,F2.app,Uni.int_i,Uni.nat_n,Uni.bool_c,Uni.str_s,Uni.adr_a,Uni.val_v,Uni.hp_p,hden,cden,V.den,W.den,A.den,BR.den,SA.den,FV.den,capV,exs,exP,allP,Cur.app,List.map_cons,List.map_nil,List.cons_append,List.nil_append,List.drop_succ_cons,List.drop_zero,List.length_cons,List.length_nil,Nat.zero_add,Nat.reduceAdd,Int.neg_neg,Bool.not_not,List.append_nil,Nat.add_zero,List.getElem?_cons_zero,List.getElem?_cons_succ,Decidable.not_not,semW_eq,semW_load,ne_eq,Nat.reduceEqDiff,not_false_eq_true]
 refine ⟨fun h => .of fun R h' H => ⟨?_,H⟩,fun h0 b => ?_⟩
 ·have : l = [] := List.eq_nil_of_length_eq_zero (by omega)
  rw [this]; rfl
 have hne : l ≠ [] := fun e => by subst e; simp at hl; omega
 have bound : ∀ k,k ≤ n → (joinN (l.take k)).length ≤ 17 * k := fun k hk => by
  have := joinN_len (l := l.take k) fun x hx => hok x (List.mem_of_mem_take hx)
  rw [List.length_take] at this; omega
 refine ⟨fun i P => ∃ k : Nat,i = k ∧ k ≤ n ∧ HP.ent P (BRep b (joinN (l.take k))),fun i _ => n - i.toNat,⟨0,rfl,Nat.zero_le _,.of fun R h H => BRep.new b H⟩,?_⟩
 rintro _ P ⟨k,rfl,hk,hP⟩
 refine ⟨fun hlt => ⟨by omega,fun _ => ⟨?_,fun _ => ?_⟩⟩,fun hge => ?_⟩
 ·cases a with
  | none => have := hnil rfl; omega
  | some _ => rfl
 ·have hkl : k < l.length := by omega
  have hx := nameOk_len (hok l[k] (List.getElem_mem hkl))
  have hb := bound k hk
  refine ⟨l[k],loadStr hr.rd (List.getElem?_eq_getElem hkl),?_⟩
  refine (wByteB_ok b (joinN (l.take k)) 47 (by omega)).conseq (K := HP.tt) (hP.trans (.of fun R h H => HP.sep_tt H)) fun v => .of fun R h H => ?_
  obtain ⟨rfl,H1⟩ := HP.sep_left H
  refine ⟨.nilIface,HP.tt,BRep b (joinN (l.take k) ++ [47]),rfl,?_,HP.tt_sep H1⟩
  clear H H1
  refine (wStringB_ok b (joinN (l.take k) ++ [47]) l[k] (by simp; omega)).weak (fun _ _ h => h) ?_
  rintro v R h ⟨rfl,H⟩
  refine ⟨l[k].length,.nilIface,HP.tt,BRep b (joinN (l.take k) ++ [47] ++ l[k]),rfl,⟨inI64' _ (by omega) (by omega),fun _ => ⟨⟨k + 1,by omega,by omega,.of fun R h H => ?_⟩,by first | omega | (dsimp only; omega)⟩⟩,HP.tt_sep H⟩
  rw [List.take_succ_eq_append_getElem hkl,joinN_app]
  exact H
 ·obtain rfl : k = n := by omega
  rw [List.take_of_length_le (by omega)] at hP
  have hj : joinN l ≠ [] := by
   cases l with
   | nil => exact absurd rfl hne
   | cons x r => simp [joinN]
  refine (stringB_ok b (joinN l) hj).conseq (K := HP.tt) (hP.trans (.of fun R h H => HP.sep_tt H)) fun v => .of fun R h H => ?_
  obtain ⟨rfl,H1⟩ := HP.sep_left H
  refine ⟨joinN l,HP.tt,rfl,.of fun R h H => ⟨?_,H⟩,H1⟩
  simp [joinP,hne,sE]
theorem RdL.cut {S : HP} {a : Option Addr} {n k : Nat} {xs : List Value} (r : RdL S a n xs) (hk : k ≤ n) : RdL S a k (xs.take k) :=
 ⟨fun w R h F s H j u hj => r.rd w R h F s H j u (by
  rw [List.getElem?_take] at hj
  split at hj
  ·exact hj
  ·cases hj),fun R h H e => by have := r.none R h H e; omega⟩
set_option maxHeartbeats 1000000 in
theorem pParent_ok (s : List UInt8) : Tri Tryz.prog 189 #[sE s] HP.tt (fun v => HP.pure (v = match splitP s with
  | some (x :: r) => .tuple #[sE (joinP (x :: r).dropLast),sE ((x :: r).getLast (by simp)),.int .i64 0]
  | _ => .tuple #[sE [],sE [],.int .i64 20])) := by
 refine tri_of_tree (ρ := [.s s]) mixed Tryz.func189 tree_pParent ?_
 unfold t_pParent
 simp only [T.den,E.prop,E.den,RX.look,F1.app,F2.app,Uni.int_i,Uni.nat_n,Uni.bool_c,Uni.str_s,Uni.adr_a,Uni.val_v,Uni.hp_p,hden,cden,V.den,W.den,A.den,BR.den,SA.den,FV.den,capV,exs,exP,allP,Cur.app,List.map_cons,List.map_nil,List.cons_append,List.nil_append,List.drop_succ_cons,List.drop_zero,List.length_cons,List.length_nil,Nat.zero_add,Nat.reduceAdd,Int.neg_neg,Bool.not_not,List.append_nil,Nat.add_zero,List.getElem?_cons_zero,List.getElem?_cons_succ,Decidable.not_not,semW_eq,semW_load,ne_eq,Nat.reduceEqDiff,not_false_eq_true]
 refine (pSplit_ok s).weak (fun _ _ h => h) ?_
 rintro v R h ⟨a,c,rfl,H⟩
 have hsome : ((splitP s).getD []).length ≠ 0 → a.isSome = true := fun hn => OwC.some H (by omega)
 have hle : ((splitP s).getD []).length ≤ c := OwC.le H
 refine ⟨a,_,c,OwS a ((splitP s).getD []).length c ((splitP s).getD []),_,rfl,?_,H⟩
 clear H
 cases hs : splitP s with
 | none => exact ⟨fun _ => .of fun R h H => rfl,fun h => by simp at h⟩
 | some l =>
  refine ⟨fun h => absurd (by rfl) h,fun _ => ⟨fun h => .of fun R h' H => ?_,fun h0 => ?_⟩⟩
  ·simp at h
   subst h; rfl
  rw [hs] at hsome hle
  simp only [Option.getD_some] at h0 hsome hle ⊢
  obtain ⟨hl8,hok⟩ := splitP_len hs
  have hlen : 0 < l.length := by omega
  obtain ⟨i,hi,_⟩ := info_parts infoStr
  obtain ⟨m,hm⟩ : ∃ m : Nat,l.length = m + 1 := ⟨l.length - 1,by omega⟩
  have e1 : (l.length : Int) - 1 = (m : Nat) := by omega
  have rd : RdL (OwS a l.length c l) a l.length (l.map sE) := RdL.ow _ _ _ _ _ _
  have hg : l[m]? = some (l.getLast (by intro e; subst e; simp at hlen)) := by
   rw [List.getLast_eq_getElem,List.getElem?_eq_getElem (by omega)]
   congr 1
   simp [hm]
  have hdl : l.dropLast = l.take m := by rw [List.dropLast_eq_take,hm]; rfl
  refine ⟨inI64' _ (by omega) (by omega),fun _ => ⟨a,m,c,?_,by omega,fun _ => ⟨by omega,fun _ => ⟨hsome (by omega),fun _ => ⟨l.getLast (by intro e; subst e; simp at hlen),?_,?_⟩⟩⟩⟩⟩
  ·rw [e1]
   exact sliceTo undSs hi _ a l.length c m (by omega) hle
  ·rw [e1]
   exact loadStr rd.rd hg
  ·have rd2 : RdL (OwS a l.length c l) a m ((l.take m).map sE) := by
    have := rd.cut (k := m) (by omega)
    rwa [← List.map_take] at this
   refine (pJoin_ok (OwS a l.length c l) a m c (l.take m) rd2 (by simp; omega) (by omega) fun x hx => hok x (List.mem_of_mem_take hx)).weak (fun _ _ h => h) ?_
   rintro v R h ⟨rfl,H⟩
   refine ⟨joinP (l.take m),rfl,.of fun R h H => ?_,H⟩
   cases l with
   | nil => simp at hlen
   | cons x r =>
    show _ = _
    simp only [hdl]
    rfl
theorem sEqual_ok (S1 S2 : HP) (a : Option Addr) (n c : Nat) (l : List (List UInt8)) (b : Option Addr) (m d : Nat) (q : List (List UInt8)) (h1 : RdL S1 a n (l.map sE)) (h2 : RdL S2 b m (q.map sE)) (hl : l.length = n) (hq : q.length = m) (hn : n ≤ 100000) :
  Tri Tryz.prog 169 #[.slice a n c,.slice b m d] (HP.sep S1 S2) (fun v => HP.and (v = .bool (decide (l = q))) (HP.sep S1 S2)) := by
 refine Tri.fact (φ := (a = none → n = 0) ∧ (b = none → m = 0)) (fun R h H => ⟨h1.none R _ (HP.sep_left H),h2.none R _ (HP.sep_right H)⟩) fun ⟨n1,n2⟩ => ?_
 refine tri_of_tree (ρ := [.a a,.n n,.n c,.p S1,.a b,.n m,.n d,.p S2]) mixed Tryz.func169 tree_sEqual ?_
 unfold t_sEqual
 simp only [T.den,E.prop,E.den,RX.look,F1.app,F2.app,Uni.int_i,Uni.nat_n,Uni.bool_c,Uni.str_s,Uni.adr_a,Uni.val_v,Uni.hp_p,hden,cden,V.den,W.den,A.den,BR.den,SA.den,FV.den,capV,exs,exP,allP,Cur.app,List.map_cons,List.map_nil,List.cons_append,List.nil_append,List.drop_succ_cons,List.drop_zero,List.length_cons,List.length_nil,Nat.zero_add,Nat.reduceAdd,Int.neg_neg,Bool.not_not,List.append_nil,Nat.add_zero,List.getElem?_cons_zero,List.getElem?_cons_succ,Decidable.not_not,semW_eq,semW_load,ne_eq,Nat.reduceEqDiff,not_false_eq_true]
 refine ⟨fun h => .of fun R h' H => ⟨?_,H⟩,fun h0 => ?_⟩
 ·have : l ≠ q := fun e => by subst e; omega
  rw [decide_eq_false this]
 have hnm : n = m := by omega
 refine ⟨fun _ i => ∃ k : Nat,i = k ∧ k ≤ n ∧ l.take k = q.take k,fun _ i => n - i.toNat,⟨0,rfl,Nat.zero_le _,rfl⟩,?_⟩
 rintro _ _ ⟨k,rfl,hk,he⟩
 refine ⟨fun hlt => ⟨by omega,fun _ => ⟨?_,fun _ => ?_⟩⟩,fun hge => .of fun R h H => ⟨?_,H⟩⟩
 ·cases a with
  | none => have := n1 rfl; omega
  | some _ => rfl
 ·have hkl : k < l.length := by omega
  have hkq : k < q.length := by omega
  refine ⟨l[k],loadStr h1.rd (List.getElem?_eq_getElem hkl),by omega,fun _ => ⟨?_,fun _ => ⟨q[k],loadStr h2.rd (List.getElem?_eq_getElem hkq),?_⟩⟩⟩
  ·cases b with
   | none => have := n2 rfl; omega
   | some _ => rfl
  refine ⟨fun hne => .of fun R h H => ⟨?_,H⟩,fun heq => ⟨inI64' _ (by omega) (by omega),fun _ => ⟨⟨k + 1,by omega,by omega,?_⟩,by first | omega | (dsimp only; omega)⟩⟩⟩
  ·have : l ≠ q := fun e => by subst e; exact hne rfl
   rw [decide_eq_false this]
  ·rw [List.take_succ_eq_append_getElem hkl,List.take_succ_eq_append_getElem hkq,he]
   have : l[k] = q[k] := heq
   rw [this]
 ·obtain rfl : k = n := by omega
  rw [List.take_of_length_le (by omega),List.take_of_length_le (by omega)] at he
  rw [decide_eq_true he]
def insideP (s o : List UInt8) : Bool := match splitP s,splitP o with
 | some l,some q => decide (q.length < l.length) && decide (q = l.take q.length)
 | _,_ => false
set_option maxHeartbeats 1000000 in
theorem pInside_ok (s o : List UInt8) : Tri Tryz.prog 130 #[sE s,sE o] HP.tt (fun v => HP.pure (v = .bool (insideP s o))) := by
 refine tri_of_tree (ρ := [.s s,.s o]) mixed Tryz.func130 tree_pInside ?_
 unfold t_pInside
 simp only [T.den,E.prop,E.den,RX.look,F1.app,F2.app,Uni.int_i,Uni.nat_n,Uni.bool_c,Uni.str_s,Uni.adr_a,Uni.val_v,Uni.hp_p,hden,cden,V.den,W.den,A.den,BR.den,SA.den,FV.den,capV,exs,exP,allP,Cur.app,List.map_cons,List.map_nil,List.cons_append,List.nil_append,List.drop_succ_cons,List.drop_zero,List.length_cons,List.length_nil,Nat.zero_add,Nat.reduceAdd,Int.neg_neg,Bool.not_not,List.append_nil,Nat.add_zero,List.getElem?_cons_zero,List.getElem?_cons_succ,Decidable.not_not,semW_eq,ne_eq,Nat.reduceEqDiff,not_false_eq_true]
 refine (pSplit_ok s).weak (fun _ _ h => h) ?_
 rintro v R h ⟨a,c,rfl,H⟩
 have hle : ((splitP s).getD []).length ≤ c := OwC.le H
 refine ⟨a,_,c,OwS a ((splitP s).getD []).length c ((splitP s).getD []),_,rfl,?_,H⟩
 clear H
 cases hs : splitP s with
 | none => exact ⟨fun _ => .of fun R h H => (by simp [HP.pure,insideP,hs]),fun h => by simp at h⟩
 | some l =>
  refine ⟨fun h => absurd (by rfl) h,fun _ => ?_⟩
  rw [hs] at hle
  simp only [Option.getD_some] at hle ⊢
  obtain ⟨hl8,_⟩ := splitP_len hs
  refine (pSplit_ok o).weak (fun _ _ h => h) ?_
  rintro v R h ⟨b,d,rfl,H⟩
  refine ⟨b,_,d,OwS b ((splitP o).getD []).length d ((splitP o).getD []),_,rfl,?_,H⟩
  clear H
  cases ho : splitP o with
  | none => exact ⟨fun _ => .of fun R h H => (by simp [HP.pure,insideP,hs,ho]),fun h => by simp at h⟩
  | some q =>
   simp only [Option.getD_some]
   obtain ⟨hq8,_⟩ := splitP_len ho
   refine ⟨fun h => absurd (by rfl) h,fun _ => ⟨fun h => .of fun R h' H => ?_,fun h0 => ?_⟩⟩
   ·have : ¬ q.length < l.length := by omega
    simp [HP.pure,insideP,hs,ho,this]
   ·obtain ⟨i,hi,_⟩ := info_parts infoStr
    have rd : RdL (OwS a l.length c l) a l.length (l.map sE) := RdL.ow _ _ _ _ _ _
    refine ⟨a,q.length,c,sliceTo undSs hi _ a l.length c q.length (by omega) hle,?_⟩
    have rd2 : RdL (OwS a l.length c l) a q.length ((l.take q.length).map sE) := by
     have := rd.cut (k := q.length) (by omega)
     rwa [← List.map_take] at this
    refine (sEqual_ok (OwS b q.length d q) (OwS a l.length c l) b q.length d q a q.length c (l.take q.length) (RdL.ow _ _ _ _ _ _) rd2 rfl (by simp; omega) (by omega)).weak (fun _ _ h => h) ?_
    rintro v R h ⟨rfl,H⟩
    refine ⟨_,rfl,.of fun R h H => ?_,H⟩
    have : q.length < l.length := by omega
    simp [HP.pure,insideP,hs,ho,this]
end Go.Proofs.YtdieogcemmnaaaaGreatDoor

namespace Go.Proofs.YtdieogcemmnaaaaGreatDoor
open Go.Proofs.YtdieogcemmnaaaaGreatDoor RX
section
variable {κ : Type} [DecidableEq κ] {enc : κ → Value} {r c : Nat} {l : AL κ}
theorem alPut_none (k : κ) (v : Value) (c : Nat) : ∀ l : AL κ,alFind k l = none → alPut k v c l = l ++ [(k,v,c)]
 | [],_ => rfl
 | x :: l,h => by
  simp only [alFind] at h
  split at h
  ·cases h
  ·rename_i hk; simp [alPut,hk,alPut_none k v c l h]
theorem alPut_born (k : κ) (v : Value) (c : Nat) : ∀ l : AL κ,(alFind k l).isSome = true → (alPut k v c l).map (·.2.2) = l.map (·.2.2)
 | [],h => by cases h
 | x :: l,h => by
  simp only [alFind] at h
  simp only [alPut]
  split at h
  ·rename_i hk; simp [hk]
  ·rename_i hk; simp [hk,alPut_born k v c l h]
theorem MapI.nil (c : Nat) : MapI ([] : AL κ) c := ⟨List.nodup_nil,Stamps.nil c⟩
theorem MapI.put (h : MapI l c) (k : κ) (v : Value) : MapI (alPut k v c l) (alClock k l c) := by
 refine ⟨alPut_nodup k v c l h.1,?_⟩
 unfold alClock
 cases hf : alFind k l with
 | none =>
  rw [alPut_none k v c l hf]
  exact h.2.snoc k v
 | some u =>
  have hb := alPut_born k v c l (by rw [hf]; rfl)
  refine ⟨fun x hx => ?_,by rw [hb]; exact h.2.nodup⟩
  have : x.2.2 ∈ (alPut k v c l).map (·.2.2) := List.mem_map.2 ⟨x,hx,rfl⟩
  rw [hb] at this
  obtain ⟨y,hy,e⟩ := List.mem_map.1 this
  rw [← e]
  exact h.2.low y hy
theorem alDel_sub (k : κ) : ∀ l : AL κ,(alDel k l).Sublist l
 | [] => List.Sublist.refl _
 | x :: l => by
  simp only [alDel]
  split
  ·exact List.sublist_cons_self _ _
  ·exact (alDel_sub k l).cons_cons _
theorem MapI.del (h : MapI l c) (k : κ) : MapI (alDel k l) c :=
 ⟨List.Nodup.sublist ((alDel_sub k l).map _) h.1,fun x hx => h.2.low x ((alDel_sub k l).subset hx),List.Nodup.sublist ((alDel_sub k l).map _) h.2.nodup⟩
theorem alFind_del (k k' : κ) : ∀ l : AL κ,(l.map (·.1)).Nodup → alFind k' (alDel k l) = if k' = k then none else alFind k' l
 | [],_ => by simp [alDel,alFind]
 | x :: l,h => by
  simp only [List.map_cons,List.nodup_cons] at h
  simp only [alDel]
  split
  ·rename_i hk
   subst hk
   split
   ·rename_i e
    subst e
    exact alFind_none_of _ l fun y hy e => h.1 (List.mem_map.2 ⟨y,hy,e⟩)
   ·rename_i e; simp [alFind,e]
  ·rename_i hk
   simp only [alFind]
   rw [alFind_del k k' l h.2]
   by_cases e : k' = x.1
   ·rw [if_pos e,if_pos e,if_neg (fun e2 => hk (by rw [← e2,e]))]
   ·rw [if_neg e,if_neg e]
variable {α : Type} {V : Value → α → HP} {f : κ → Option α}
def fput (f : κ → Option α) (k : κ) (x : Option α) : κ → Option α := fun k' => if k' = k then x else f k'
end
end Go.Proofs.YtdieogcemmnaaaaGreatDoor

namespace Go.Proofs.YtdieogcemmnaaaaGreatDoor
open Go.Proofs.YtdieogcemmnaaaaGreatDoor RX
theorem least {p : Nat → Prop} (h : ∃ n,p n) : ∃ m,p m ∧ ∀ n,p n → m ≤ n := by
 obtain ⟨n,hn⟩ := h
 induction n using Nat.strongRecOn with
 | _ n ih =>
  by_cases hx : ∃ m,m < n ∧ p m
  ·obtain ⟨m,hm,hp⟩ := hx; exact ih m hm hp
  ·exact ⟨n,hn,fun m hp => Nat.le_of_not_lt fun hlt => hx ⟨m,hlt,hp⟩⟩
open Classical in
noncomputable def leastN (p : Nat → Prop) : Nat := if h : ∃ n,p n then Classical.choose (least h) else 0
theorem leastN_spec {p : Nat → Prop} (h : ∃ n,p n) : p (leastN p) := by
 unfold leastN; rw [dif_pos h]; exact (Classical.choose_spec (least h)).1
theorem leastN_le {p : Nat → Prop} {n : Nat} (h : p n) : leastN p ≤ n := by
 unfold leastN; rw [dif_pos ⟨n,h⟩]; exact (Classical.choose_spec (least ⟨n,h⟩)).2 n h
theorem map_inj {α β : Type} (g : α → β) : ∀ {l : List α},(l.map g).Nodup → ∀ {x y : α},x ∈ l → y ∈ l → g x = g y → x = y
 | [],_,_,_,hx,_,_ => by cases hx
 | z :: l,h,x,y,hx,hy,e => by
  simp only [List.map_cons,List.nodup_cons] at h
  rcases List.mem_cons.1 hx with rfl | hx2 <;> rcases List.mem_cons.1 hy with rfl | hy2
  ·rfl
  ·exact (h.1 (List.mem_map.2 ⟨y,hy2,e.symm⟩)).elim
  ·exact (h.1 (List.mem_map.2 ⟨x,hx2,e⟩)).elim
  ·exact map_inj g h.2 hx2 hy2 e
theorem stamp_push {κ : Type} {l : AL κ} {c : Nat} (hs : Stamps l c) {x y : κ × Value × Nat} {S : Array Nat} (hx : x ∈ l) (hy : y ∈ l) (h : y.2.2 ∈ S.push x.2.2) : y = x ∨ y.2.2 ∈ S := by
 rcases Array.mem_push.1 h with h | h
 ·exact .inr h
 ·exact .inl (map_inj (fun z : κ × Value × Nat => z.2.2) hs.nodup hy hx h)
end Go.Proofs.YtdieogcemmnaaaaGreatDoor

namespace Go.Proofs.YtdieogcemmnaaaaGreatDoor
open Go.Proofs.YtdieogcemmnaaaaGreatDoor RX
set_option maxRecDepth 100000
section
variable {κ : Type} [DecidableEq κ] {enc : κ → Value} {m c : Nat} {l : AL κ} {Q : HP}
theorem rangA_ok {t k e : TypeId} (ht : Tryz.prog.underlying t = some (.map k e)) (hm : ∀ R h,Q.p R h → h m = some (mapObj enc l c)) :
  OTri Tryz.prog (rangS t (.map (some m))) Q (fun v => HP.ex fun it => HP.and (v = .pointer (some ⟨it,0,none⟩)) (HP.sep (HP.one it (.mapIter (some m) c #[] c)) Q)) := fun w R h F s a => by
 obtain ⟨s2,d2⟩ := s.alloc (.mapIter (some m) c #[] c)
 refine ⟨.value _,_,_,by unfold rangS; rw [Sem.run_bind,run_range_raw ht (s.oh _ _ (hm R h a))]; rfl,rfl,Same.alloc _ _,R,_,PH.le.refl _,s2,w.heap.size,rfl,_,h,d2,PH.un_left _ _,PH.un_right d2,PH.one_self _ _,a⟩
theorem rang0_ok {t k e : TypeId} (ht : Tryz.prog.underlying t = some (.map k e)) :
  OTri Tryz.prog (rangS t (.map none)) Q (fun v => HP.ex fun it => HP.and (v = .pointer (some ⟨it,0,none⟩)) (HP.sep (HP.one it (.mapIter none 0 #[] 0)) Q)) := fun w R h F s a => by
 obtain ⟨s2,d2⟩ := s.alloc (.mapIter none 0 #[] 0)
 refine ⟨.value _,_,w.alloc (.mapIter none 0 #[] 0),?_,rfl,Same.alloc _ _,R,_,PH.le.refl _,s2,w.heap.size,rfl,_,h,d2,PH.un_left _ _,PH.un_right d2,PH.one_self _ _,a⟩
 unfold rangS Instr.range
 simp [RX.run_underlying ht,newObj]
 rfl
theorem next0_ok {it : Nat} {ty : TypeId} : OTri Tryz.prog (nextS (.pointer (some ⟨it,0,none⟩)) ty) (HP.sep (HP.one it (.mapIter none 0 #[] 0)) Q) (fun v => HP.and (v = .tuple #[.bool false]) (HP.sep (HP.one it (.mapIter none 0 #[] 0)) Q)) :=
 OTri.ofRead (v := .tuple #[.bool false]) (fun w R h F s a => by
  have hh := s.oh _ _ (HP.sep_left a)
  unfold nextS Instr.next
  simp [getObj,Sem.run,hh]) fun R h H => ⟨rfl,H⟩
theorem nextA_ok {it : Nat} {S : Array Nat} {ty : TypeId} (hs : Stamps l c) (hm : ∀ R h,Q.p R h → h m = some (mapObj enc l c)) :
  OTri Tryz.prog (nextS (.pointer (some ⟨it,0,none⟩)) ty) (HP.sep (HP.one it (.mapIter (some m) c S c)) Q)
  (fun v => HP.ex fun e => HP.and (nextE enc l S v e) (HP.sep (HP.one it (.mapIter (some m) c (nextI S e) c)) Q)) := fun w R h F s a => by
 have a1 := HP.sep_left a
 have a2 := hm _ _ (HP.sep_right a)
 rcases run_next_raw (P := Tryz.prog) ty (s.oh _ _ a1) (s.oh _ _ a2) hs with ⟨hall,hrun⟩ | ⟨x,hx,hS,w1,hw1,hrun⟩
 ·exact ⟨.value _,_,w,by unfold nextS; rw [Sem.run_bind,hrun]; rfl,rfl,Same.refl _,R,h,PH.le.refl _,s,none,⟨rfl,hall⟩,a⟩
 ·have s1 : Sat w1 R h F ∧ Same w w1 := by
   rcases hw1 with rfl | rfl
   ·exact ⟨s,Same.refl _⟩
   ·exact ⟨s.drew _,Same.drew w _⟩
  obtain ⟨h1,h2,d,l1,l2,b1,b2⟩ := a
  have h2it : h2 it = none := (d it).resolve_left (by rw [show h1 it = some _ from b1]; simp)
  refine ⟨.value _,_,_,by unfold nextS; rw [Sem.run_bind,hrun]; rfl,rfl,s1.2.trans (Same.setObj _ _ _),R,_,PH.le.refl _,s1.1.setObj a1,some x,⟨rfl,hx,hS⟩,PH.one it _,h2,fun k => ?_,PH.one_le (if_pos rfl),fun k y hk => ?_,PH.one_self _ _,b2⟩
  ·by_cases e : k = it
   ·subst e; exact .inr h2it
   ·exact .inl (if_neg e)
  ·have : k ≠ it := fun e => by subst e; rw [h2it] at hk; cases hk
   exact (if_neg this).trans (l2 _ _ hk)
end
section
variable {κ : Type} {c : Nat} {l : AL κ}
theorem seen_push (hI : MapI l c) {S : Array Nat} {ys : List κ} (hy : ∀ k,k ∈ ys ↔ ∃ x ∈ l,x.1 = k ∧ x.2.2 ∈ S) {x : κ × Value × Nat} (hx : x ∈ l) (hS : x.2.2 ∉ S) :
  x.1 ∉ ys ∧ ∀ k,k ∈ ys ++ [x.1] ↔ ∃ y ∈ l,y.1 = k ∧ y.2.2 ∈ S.push x.2.2 := by
 refine ⟨fun h => ?_,fun k => ?_⟩
 ·obtain ⟨y,hyl,e,hys⟩ := (hy _).1 h
  have := map_inj (fun z : κ × Value × Nat => z.1) hI.1 hyl hx e
  subst this; exact hS hys
 ·rw [List.mem_append,hy]
  constructor
  ·rintro (⟨y,h1,h2,h3⟩ | h)
   ·exact ⟨y,h1,h2,Array.mem_push.2 (.inl h3)⟩
   ·simp at h; subst h; exact ⟨x,hx,rfl,Array.mem_push.2 (.inr rfl)⟩
  ·rintro ⟨y,h1,h2,h3⟩
   rcases stamp_push hI.2 hx h1 h3 with rfl | h
   ·exact .inr (by simp [h2])
   ·exact .inl ⟨y,h1,h2,h⟩
theorem seen_all {S : Array Nat} {ys : List κ} (hn : ys.Nodup) (hI : MapI l c) (hy : ∀ k,k ∈ ys ↔ ∃ x ∈ l,x.1 = k ∧ x.2.2 ∈ S) (hall : ∀ x ∈ l,x.2.2 ∈ S) : ys.Perm (l.map (·.1)) := by
 refine (List.perm_ext_iff_of_nodup hn hI.1).2 fun k => ?_
 rw [hy,List.mem_map]
 exact ⟨fun ⟨x,h1,h2,_⟩ => ⟨x,h1,h2⟩,fun ⟨x,h1,h2⟩ => ⟨x,h1,h2,hall x h1⟩⟩
end
def mayK {κ : Type} (enc : κ → Value) (ks : List κ) (ys : List κ) (args : Array Value) (ys' : List κ) : Prop := ∃ k,args = #[enc k] ∧ ys' = ys ++ [k] ∧ ys'.Nodup ∧ ys'.length ≤ ks.length
theorem nodup_len {κ : Type} [DecidableEq κ] : ∀ {ys ks : List κ},ys.Nodup → (∀ k ∈ ys,k ∈ ks) → ys.length ≤ ks.length
 | [],_,_,_ => Nat.zero_le _
 | y :: ys,ks,hn,h => by
  obtain ⟨h1,h2⟩ := List.nodup_cons.1 hn
  have := nodup_len (ks := ks.erase y) h2 fun k hk => (List.mem_erase_of_ne (fun e => by subst e; exact h1 hk)).2 (h k (by simp [hk]))
  have hy : y ∈ ks := h y (by simp)
  rw [List.length_erase_of_mem hy] at this
  have := List.length_pos_of_mem hy
  simp; omega
theorem sortRow_ok {α : Type} [Inhabited α] {enc : α → Value} {e : TypeId} {f : FuncId} {le : α → α → Bool} (h1 : ∀ x,(enc x).oneCell' = true)
  (hs : ∀ (blk off cap : Nat) (zs : List α) (w : World),Go.Sort.Holds enc w blk off zs.toArray → blk < w.heap.size → zs.length < 4611686018427387904 → Calls Tryz.prog f #[.slice (some ⟨blk,off,none⟩) zs.length cap] w fun ed w' => ed = .returned (.tuple #[]) ∧ ∃ n os,w' = Go.Sort.grow (Go.Sort.putRow enc (Go.Sort.ahead w n) blk off (zs.mergeSort le).toArray) os)
  (h0 : ∀ (p : Option Addr) (cap : Nat) (w : World),Calls Tryz.prog f #[.slice p 0 cap] w fun ed w' => ed = .returned (.tuple #[]) ∧ w' = w)
  (a : Option Addr) (c : Nat) (zs : List α) (hz : zs.length ≤ 1000000) :
  Tri Tryz.prog f #[.slice a zs.length c] (OwC e 1 a zs.length c (zs.map enc)) (fun v => HP.and (v = .tuple #[]) (OwC e 1 a zs.length c ((zs.mergeSort le).map enc))) := by
 rintro w R h F s ⟨hl,hx⟩
 have hml : (zs.mergeSort le).length = zs.length := List.length_mergeSort _
 by_cases hz0 : zs.length = 0
 ·have hnil : zs = [] := List.eq_nil_of_length_eq_zero hz0
  subst hnil
  refine (h0 a c w).mono fun ed w' ⟨he,hw⟩ => ⟨_,he,by rw [hw]; exact Same.refl _,R,h,PH.le.refl _,by rw [hw]; exact s,rfl,?_⟩
  rw [List.mergeSort_nil]
  exact ⟨hl,hx⟩
 rcases hx with ⟨_,h2,_⟩ | ⟨g,cur,rfl,hg,q1,q2,q3,q4⟩
 ·exact absurd h2 hz0
 have hw := s.oh _ _ hg
 have hget : ∀ (j : Nat) (x : α),zs[j]? = some x → cur[j]? = some (enc x) := fun j x hj => by
  have h3 : (cur.toList.take (zs.length * 1))[j]? = some (enc x) := by rw [q4]; simp [hj]
  rw [List.getElem?_take] at h3
  split at h3
  ·simpa using h3
  ·cases h3
 have hH : Go.Sort.Holds enc w g 0 zs.toArray := fun j hj => by
  have hj' : j < zs.length := by simpa using hj
  have := hget j zs[j] (List.getElem?_eq_getElem hj')
  refine ⟨?_,?_⟩
  ·rw [Nat.zero_add,cell_at hw,this]
   simp [hj']
  ·simp [World.frozen?,hw]
 refine (hs g 0 c zs w hH (by rcases Nat.lt_or_ge g w.heap.size with h | h; exact h; rw [Array.getElem?_eq_none h] at hw; cases hw) (by omega)).mono fun ed w' ⟨he,n,os,hw'⟩ => ?_
 have hlt : g < w.heap.size := by rcases Nat.lt_or_ge g w.heap.size with h | h; exact h; rw [Array.getElem?_eq_none h] at hw; cases hw
 have hheap : ∀ k,k < w.heap.size → w'.heap[k]? = if g = k then (w.heap[k]?).map (Go.Sort.onCells (Go.Sort.putCells enc 0 (zs.mergeSort le).toArray)) else w.heap[k]? := fun k hk => by
  rw [hw']
  simp only [Go.Sort.grow,Go.Sort.putRow,Go.Sort.mapBlock,Go.Sort.ahead]
  rw [Array.getElem?_append_left (by simpa using hk),Array.getElem?_modify]
 have hg' : w'.heap[g]? = some (.cells (Go.Sort.putCells enc 0 (zs.mergeSort le).toArray cur) e (0,0)) := by
  rw [hheap g hlt,if_pos rfl,hw]; rfl
 have hgrown : w.grownBy w' (some g) := by
  refine ⟨by rw [hw']; rfl,by rw [hw']; rfl,by rw [hw']; rfl,by rw [hw']; simp [Go.Sort.grow,Go.Sort.putRow,Go.Sort.mapBlock,Go.Sort.ahead],fun k hk hne => ?_⟩
  rw [hheap k hk,if_neg (fun e => hne (by rw [e]))]
 have s2 := Sat.grown s (row := some g) (fun g2 hg2 => by cases hg2; rw [hg]; simp) hgrown hg' (.inl rfl)
 refine ⟨_,he,⟨hgrown.os,hgrown.tape,hgrown.output,hgrown.size⟩,R,_,PH.le.refl _,s2,rfl,by simp,.inr ⟨g,_,rfl,PH.one_self _ _,q1,q2,?_,?_⟩⟩
 ·simp [Go.Sort.putCells,q3]
 ·have hsz : zs.length ≤ cur.size := by rw [q3]; omega
  refine List.ext_getElem? fun j => ?_
  rw [Nat.mul_one,List.getElem?_take]
  by_cases hj : j < zs.length
  ·rw [if_pos hj]
   have hjm : j < (zs.mergeSort le).length := by omega
   simp [Go.Sort.putCells,hj,hjm,show j < cur.size by omega]
  ·rw [if_neg hj,List.getElem?_eq_none (by simp; omega)]
end Go.Proofs.YtdieogcemmnaaaaGreatDoor

namespace Go.Proofs.YtdieogcemmnaaaaGreatDoor.RX
set_option maxRecDepth 100000
-- maps.Keys[map[string]int,string,int]: ρ := [.v m,.p mP]
def t_ksS : T :=
(.new
(.ret (.w (.a (.func 138 [(.v 2,0)]))) [(.a 0,.prop 1),(.b (.v 2),.cells [.val 0] 131)]))
theorem tree_ksS : tree Tryz.prog { opq := [131],keep := [75,136,194],link := [(75,0)],opn := true,rdf := true } Tryz.f75 [.a (.val 0)] [(.a 0,.prop 1)] 2 = t_ksS := by kernel_rfl
def t_ks1S : T :=
(.op (.range 131 (.tmp 4)) 0 [(4,.w (.a (.val 3)))] [(.a 3,.prop 4)] [.n,.p,.p] (.w (.a (.ptr (.v 5) 0))) [(.b (.v 5),.prop 6),(.a 3,.prop 7)]
(.loop [.p,.p] [.p [(.b (.v 5),.prop 6)],.p [(.a 0,.prop 1)]]
(.op (.next (.tmp 5) false) 0 [(5,.w (.a (.ptr (.v 5) 0)))] [(.b (.v 5),.prop 8),(.a 3,.prop 7)] [.c,.v,.v,.p] (.nx 10 11 12) [(.b (.v 5),.prop 13),(.a 3,.prop 7)]
(.br (.v 10)
(.read (.entry (.tmp 5)) 0 [(5,.w (.a (.ptr (.v 5) 0)))] [(.b (.v 5),.prop 13),(.a 3,.prop 7)] [.s,.i] (.tup [.a (.str (.v 14)),.a (.int .i64 (.v 15))])
 (.callv 0 [.a (.str (.v 14))] [(.a 0,.prop 9)] [.c,.p] (.w (.a (.bool (.v 16)))) [(.a 0,.prop 17)]
(.br (.o1 .not (.v 16))
(.ret (.tup []) [(.a 0,.prop 17),(.b (.v 2),.cells [.val 3] 131),(.a 3,.prop 7)])
(.again 0 [.p [(.b (.v 5),.prop 13)],.p [(.a 0,.prop 17)]]))))
(.ret (.tup []) [(.a 0,.prop 9),(.b (.v 2),.cells [.val 3] 131),(.a 3,.prop 7)])))))
theorem tree_ks1S : tree Tryz.prog { opq := [131],hv := [(0,[.b (.v 5),.a 0])],keep := [75,136,194],link := [(75,0)],ent := [(8,[9,3])],opn := true,rdf := true } Tryz.f138 [.a (.val 0),.a (.ptr (.v 2) 0)] [(.a 0,.prop 1),(.b (.v 2),.cells [.val 3] 131),(.a 3,.prop 4)] 5 = t_ks1S := by kernel_rfl
def t_apS : T :=
(.new
(.new
(.rangef (.val 4) [(.a 4,.prop 5)] [] [.a,.n,.n,.p] [.a (.v 0),.e (.o2 .nadd (.v 1) (.n 0)),.e (.o2 .nadd (.v 2) (.n 0)),.p [(.a 0,.prop 3)]] [.s] [.a (.str (.v 12))] []
(.new
(.op (.call ⟨.builtin .append,#[.tmp 8,.tmp 10],#[29,29]⟩) 29 [(8,.w (.a (.sl (.v 8) (.v 9) (.v 10)))),(10,.w (.a (.sl (.b (.v 13) 0) (.n 1) (.n 1))))] [(.a 8,.prop 11),(.b (.v 13),.cells [.str (.v 12)] 9)] [.a,.n,.n,.p] (.w (.a (.sl (.v 14) (.v 15) (.v 16)))) [(.a 14,.prop 17),(.b (.v 13),.cells [.str (.v 12)] 9)]
(.again 0 [.a (.v 14),.e (.o2 .nadd (.v 15) (.n 0)),.e (.o2 .nadd (.v 16) (.n 0)),.p [(.a 14,.prop 17)]])))
(.ret (.w (.a (.sl (.v 8) (.v 9) (.v 10)))) [(.a 4,.prop 5),(.a 8,.prop 11)]))))
theorem tree_apS : tree Tryz.prog { hv := [(0,[.b (.v 6),.a 0])],keep := [75,136,194],link := [(75,0)],pty := [(0,[9])],opn := true,rdf := true } Tryz.f194 [.a (.sl (.v 0) (.v 1) (.v 2)),.a (.val 4)] [(.a 0,.prop 3),(.a 4,.prop 5)] 6 = t_apS := by kernel_rfl
def t_coS : T :=
(.call 194 [.a (.sl .nil (.n 0) (.n 0)),.a (.val 0)] [(.a 0,.prop 1)] [.a,.n,.n,.p] (.w (.a (.sl (.v 2) (.v 3) (.v 4)))) [(.a 2,.prop 5),(.a 0,.prop 1)]
(.ret (.w (.a (.sl (.v 2) (.v 3) (.v 4)))) [(.a 0,.prop 1),(.a 2,.prop 5)]))
theorem tree_coS : tree Tryz.prog { keep := [75,136,194],link := [(75,0)],opn := true,rdf := true } Tryz.f136 [.a (.val 0)] [(.a 0,.prop 1)] 2 = t_coS := by kernel_rfl
def t_soS : T :=
(.call 136 [.a (.val 0)] [(.a 0,.prop 1)] [.a,.n,.n,.p] (.w (.a (.sl (.v 2) (.v 3) (.v 4)))) [(.a 2,.prop 5),(.a 0,.prop 1)]
(.call 137 [.a (.sl (.v 2) (.v 3) (.v 4))] [(.a 2,.prop 5)] [.p] (.tup []) [(.a 2,.prop 6)]
(.ret (.w (.a (.sl (.v 2) (.v 3) (.v 4)))) [(.a 0,.prop 1),(.a 2,.prop 6)])))
theorem tree_soS : tree Tryz.prog { keep := [75,136,194],link := [(75,0)],opn := true,rdf := true } Tryz.f74 [.a (.val 0)] [(.a 0,.prop 1)] 2 = t_soS := by kernel_rfl
def t_ksI : T :=
(.new
(.ret (.w (.a (.func 135 [(.v 2,0)]))) [(.a 0,.prop 1),(.b (.v 2),.cells [.val 0] 123)]))
theorem tree_ksI : tree Tryz.prog { opq := [123],keep := [72,133,191],link := [(72,0)],opn := true,rdf := true } Tryz.f72 [.a (.val 0)] [(.a 0,.prop 1)] 2 = t_ksI := by kernel_rfl
def t_ks1I : T :=
(.op (.range 123 (.tmp 4)) 0 [(4,.w (.a (.val 3)))] [(.a 3,.prop 4)] [.n,.p,.p] (.w (.a (.ptr (.v 5) 0))) [(.b (.v 5),.prop 6),(.a 3,.prop 7)]
(.loop [.p,.p] [.p [(.b (.v 5),.prop 6)],.p [(.a 0,.prop 1)]]
(.op (.next (.tmp 5) false) 0 [(5,.w (.a (.ptr (.v 5) 0)))] [(.b (.v 5),.prop 8),(.a 3,.prop 7)] [.c,.v,.v,.p] (.nx 10 11 12) [(.b (.v 5),.prop 13),(.a 3,.prop 7)]
(.br (.v 10)
(.read (.entry (.tmp 5)) 0 [(5,.w (.a (.ptr (.v 5) 0)))] [(.b (.v 5),.prop 13),(.a 3,.prop 7)] [.i,.n] (.tup [.a (.int .i64 (.v 14)),.a (.ptr (.v 15) 0)])
 (.callv 0 [.a (.int .i64 (.v 14))] [(.a 0,.prop 9)] [.c,.p] (.w (.a (.bool (.v 16)))) [(.a 0,.prop 17)]
(.br (.o1 .not (.v 16))
(.ret (.tup []) [(.a 0,.prop 17),(.b (.v 2),.cells [.val 3] 123),(.a 3,.prop 7)])
(.again 0 [.p [(.b (.v 5),.prop 13)],.p [(.a 0,.prop 17)]]))))
(.ret (.tup []) [(.a 0,.prop 9),(.b (.v 2),.cells [.val 3] 123),(.a 3,.prop 7)])))))
theorem tree_ks1I : tree Tryz.prog { opq := [123],hv := [(0,[.b (.v 5),.a 0])],keep := [72,133,191],link := [(72,0)],ent := [(8,[3,121])],opn := true,rdf := true } Tryz.f135 [.a (.val 0),.a (.ptr (.v 2) 0)] [(.a 0,.prop 1),(.b (.v 2),.cells [.val 3] 123),(.a 3,.prop 4)] 5 = t_ks1I := by kernel_rfl
def t_apI : T :=
(.new
(.new
(.rangef (.val 4) [(.a 4,.prop 5)] [] [.a,.n,.n,.p] [.a (.v 0),.e (.o2 .nadd (.v 1) (.n 0)),.e (.o2 .nadd (.v 2) (.n 0)),.p [(.a 0,.prop 3)]] [.i] [.a (.int .i64 (.v 12))] []
(.new
(.op (.call ⟨.builtin .append,#[.tmp 8,.tmp 10],#[89,89]⟩) 89 [(8,.w (.a (.sl (.v 8) (.v 9) (.v 10)))),(10,.w (.a (.sl (.b (.v 13) 0) (.n 1) (.n 1))))] [(.a 8,.prop 11),(.b (.v 13),.cells [.int .i64 (.v 12)] 3)] [.a,.n,.n,.p] (.w (.a (.sl (.v 14) (.v 15) (.v 16)))) [(.a 14,.prop 17),(.b (.v 13),.cells [.int .i64 (.v 12)] 3)]
(.again 0 [.a (.v 14),.e (.o2 .nadd (.v 15) (.n 0)),.e (.o2 .nadd (.v 16) (.n 0)),.p [(.a 14,.prop 17)]])))
(.ret (.w (.a (.sl (.v 8) (.v 9) (.v 10)))) [(.a 4,.prop 5),(.a 8,.prop 11)]))))
theorem tree_apI : tree Tryz.prog { hv := [(0,[.b (.v 6),.a 0])],keep := [72,133,191],link := [(72,0)],pty := [(0,[3])],opn := true,rdf := true } Tryz.f191 [.a (.sl (.v 0) (.v 1) (.v 2)),.a (.val 4)] [(.a 0,.prop 3),(.a 4,.prop 5)] 6 = t_apI := by kernel_rfl
def t_coI : T :=
(.call 191 [.a (.sl .nil (.n 0) (.n 0)),.a (.val 0)] [(.a 0,.prop 1)] [.a,.n,.n,.p] (.w (.a (.sl (.v 2) (.v 3) (.v 4)))) [(.a 2,.prop 5),(.a 0,.prop 1)]
(.ret (.w (.a (.sl (.v 2) (.v 3) (.v 4)))) [(.a 0,.prop 1),(.a 2,.prop 5)]))
theorem tree_coI : tree Tryz.prog { keep := [72,133,191],link := [(72,0)],opn := true,rdf := true } Tryz.f133 [.a (.val 0)] [(.a 0,.prop 1)] 2 = t_coI := by kernel_rfl
def t_soI : T :=
(.call 133 [.a (.val 0)] [(.a 0,.prop 1)] [.a,.n,.n,.p] (.w (.a (.sl (.v 2) (.v 3) (.v 4)))) [(.a 2,.prop 5),(.a 0,.prop 1)]
(.call 134 [.a (.sl (.v 2) (.v 3) (.v 4))] [(.a 2,.prop 5)] [.p] (.tup []) [(.a 2,.prop 6)]
(.ret (.w (.a (.sl (.v 2) (.v 3) (.v 4)))) [(.a 0,.prop 1),(.a 2,.prop 6)])))
theorem tree_soI : tree Tryz.prog { keep := [72,133,191],link := [(72,0)],opn := true,rdf := true } Tryz.f71 [.a (.val 0)] [(.a 0,.prop 1)] 2 = t_soI := by kernel_rfl
end Go.Proofs.YtdieogcemmnaaaaGreatDoor.RX

namespace Go.Proofs.YtdieogcemmnaaaaGreatDoor
set_option linter.unusedSimpArgs false
set_option linter.unusedVariables false
open Go.Proofs.YtdieogcemmnaaaaGreatDoor RX
set_option maxRecDepth 100000
def KBoxS (x : Nat) (m : Option Nat) : HP := HP.one x (.cells #[.map m] 131 (0,0))
theorem keysS_ok (m : Option Nat) (Q : HP) : Tri Tryz.prog 75 #[.map m] Q
  (fun v => HP.ex fun x => HP.and (v = .func (.func 138) #[] #[.pointer (some ⟨x,0,none⟩)]) (HP.sep (KBoxS x m) Q)) := by
 refine tri_of_tree (ρ := [.v (.map m),.p Q]) mixed Tryz.func75 tree_ksS ?_
 unfold t_ksS
 simp only [T.den,E.prop,E.den,RX.look,F1.app,F2.app,Uni.int_i,Uni.nat_n,Uni.bool_c,Uni.str_s,Uni.adr_a,Uni.val_v,Uni.hp_p,hden,cden,V.den,W.den,A.den,BR.den,SA.den,FV.den,capV,exs,exP,allP,Cur.app,List.map_cons,List.map_nil,List.cons_append,List.nil_append,List.drop_succ_cons,List.drop_zero,List.length_cons,List.length_nil,Nat.zero_add,Nat.reduceAdd,Int.neg_neg,Bool.not_not,List.append_nil,Nat.add_zero,List.getElem?_cons_zero,List.getElem?_cons_succ,Decidable.not_not,semW_eq,ne_eq,Nat.reduceEqDiff,not_false_eq_true]
 exact fun x => .of fun R h H => ⟨x,rfl,HP.sep_comm H⟩
theorem fgoS : Fgo Tryz.prog 138 := ⟨_,Tryz.func138,by kernel_rfl,by kernel_rfl⟩
def prKS (ks ys : List (List UInt8)) (args : Array Value) : HP := HP.pure (∃ ys',mayK sE ks ys args ys')
theorem enc_injS {a b : (List UInt8)} (h : sE a = sE b) : a = b := by
 simpa [sE] using h
set_option maxHeartbeats 1000000 in
theorem seqS (x : Nat) (m : Option Nat) (l : AL (List UInt8)) (c : Nat) (Q : HP) (hI : MapI l c) (hv : ∀ y ∈ l,(fun v : Value => ∃ n : Int,v = .int .i64 n) y.2.1) (hm : ∀ mb,m = some mb → ∀ R h,Q.p R h → h mb = some (mapObj sE l c)) (h0 : m = none → l = []) :
  SeqTri Tryz.prog (.func (.func 138) #[] #[.pointer (some ⟨x,0,none⟩)]) (HP.sep (KBoxS x m) Q) (fun _ => HP.tt) (prKS (l.map (·.1))) (mayK sE (l.map (·.1))) (fun ys => ys.Perm (l.map (·.1))) ([] : List (List UInt8)) := by
 refine ⟨_,_,rfl,fgoS,fun L Kp Jx hr => ?_⟩
 refine Tri.weak (A := HP.sep (HP.sep HP.tt (Kp [])) (HP.sep (KBoxS x m) Q)) ?_ (fun R h H => HP.sep_comm H) fun _ _ _ h => h
 refine tri_of_tree (ρ := [.v (.func (.yield L) #[] #[]),.p (HP.sep HP.tt (Kp [])),.n x,.v (.map m),.p Q]) mixed Tryz.func138 tree_ks1S ?_
 unfold t_ks1S
 simp only [T.den,E.prop,E.den,RX.look,F1.app,F2.app,Uni.int_i,Uni.nat_n,Uni.bool_c,Uni.str_s,Uni.adr_a,Uni.val_v,Uni.hp_p,hden,cden,V.den,W.den,A.den,BR.den,SA.den,FV.den,capV,exs,exP,allP,Cur.app,List.map_cons,List.map_nil,List.cons_append,List.nil_append,List.drop_succ_cons,List.drop_zero,List.length_cons,List.length_nil,Nat.zero_add,Nat.reduceAdd,Int.neg_neg,Bool.not_not,List.append_nil,Nat.add_zero,List.getElem?_cons_zero,List.getElem?_cons_succ,Decidable.not_not,semW_eq,semW_range,semW_next,semW_entry,ne_eq,Nat.reduceEqDiff,not_false_eq_true,oneC]
 have fin : ∀ (J Q' : HP),HP.ent J (SeqPost (fun _ => HP.tt) Kp Jx (fun ys => ys.Perm (l.map (·.1)))) → Q' = Q → HP.ent (HP.sep J (HP.sep (HP.one x (.cells #[.map m] 131)) Q'))
   (HP.sep (HP.sep (KBoxS x m) Q) (SeqPost (fun _ => HP.tt) Kp Jx (fun ys => ys.Perm (l.map (·.1))))) := fun J Q' hJ hQ => by
  subst hQ
  exact (hJ.sep _).trans (.of fun R h H => HP.sep_comm H)
 cases m with
 | none =>
  have hl : l = [] := h0 rfl
  refine (rang0_ok (Q := Q) (show Tryz.prog.underlying 131 = some (.map 9 3) by kernel_rfl)).weak (fun _ _ h => h) ?_
  rintro v R h ⟨it,rfl,H⟩
  refine ⟨it,HP.one it (.mapIter none 0 #[] 0),Q,rfl,⟨fun Pi Pk => Pi = HP.one it (.mapIter none 0 #[] 0) ∧ Pk = HP.sep HP.tt (Kp []),fun _ _ => Nat.zero,⟨rfl,rfl⟩,?_⟩,H⟩
  rintro _ _ ⟨rfl,rfl⟩
  refine next0_ok.weak (fun _ _ h => h) ?_
  rintro v R h ⟨rfl,H⟩
  refine ⟨false,.tuple #[],.tuple #[],_,rfl,⟨fun h => (by cases h),fun _ => fin _ _ (.of fun R h H => ⟨some [],?_,H⟩) rfl⟩,H⟩
  rw [hl]; exact List.Perm.refl _
 | some mb =>
  have hmb := hm mb rfl
  refine (rangA_ok (Q := Q) (enc := sE) (l := l) (c := c) (show Tryz.prog.underlying 131 = some (.map 9 3) by kernel_rfl) hmb).weak (fun _ _ h => h) ?_
  rintro v R h ⟨it,rfl,H⟩
  let J : HP → HP → Nat → Prop := fun Pi Pk N => ∃ (S : Array Nat) (ys : List (List UInt8)),Pi = HP.one it (.mapIter (some mb) c S c) ∧ HP.ent Pk (HP.sep HP.tt (Kp ys)) ∧ ys.Nodup ∧ (∀ k,k ∈ ys ↔ ∃ y ∈ l,y.1 = k ∧ y.2.2 ∈ S) ∧ leftN l S = N
  refine ⟨it,HP.one it (.mapIter (some mb) c #[] c),Q,rfl,⟨fun Pi Pk => ∃ N,J Pi Pk N,fun Pi Pk => leastN (J Pi Pk),⟨_,#[],[],rfl,.refl _,List.nodup_nil,fun k => by simp,rfl⟩,?_⟩,H⟩
  clear H
  intro Pi Pk hJ
  have hJ' := leastN_spec hJ
  generalize hNe : leastN (J Pi Pk) = N at hJ'
  obtain ⟨S,ys,rfl,hP,hn,hy,hN⟩ := hJ'
  refine (nextA_ok (Q := Q) hI.2 hmb).weak (fun _ _ h => h) ?_
  rintro v R h ⟨e,he,H⟩
  rcases e with _ | y
  ·refine ⟨false,.tuple #[],.tuple #[],_,he.1,⟨fun h => (by cases h),fun _ => fin _ _ (hP.trans (.of fun R h H => ⟨some ys,seen_all hn hI hy he.2,H⟩)) rfl⟩,H⟩
  ·obtain ⟨rfl,hyl,hyS⟩ := he
   obtain ⟨n,hn2⟩ := hv y hyl
   obtain ⟨hnot,hy2⟩ := seen_push hI hy hyl hyS
   have hnd : (ys ++ [y.1]).Nodup := by
    rw [List.nodup_append]
    exact ⟨hn,by simp,fun a ha b hb => by simp at hb; subst hb; exact fun e => hnot (e ▸ ha)⟩
   have hlen : (ys ++ [y.1]).length ≤ (l.map (·.1)).length := nodup_len hnd fun k hk => by
    obtain ⟨z,hz,e,_⟩ := (hy2 k).1 hk
    exact List.mem_map.2 ⟨z,hz,e⟩
   have hmay : mayK sE (l.map (·.1)) ys #[sE y.1] (ys ++ [y.1]) := ⟨y.1,rfl,rfl,hnd,hlen⟩
   have hent := entry_ok (enc := sE) (it := it) (m := mb) (c := c) (S := S) (x := y) hI.2 hyl (A := HP.sep (HP.one it (.mapIter (some mb) c (nextI S (some y)) c)) Q) (fun R h H => HP.sep_left H) (fun R h H => hmb _ _ (HP.sep_right H) |> fun h1 => by
    obtain ⟨_,_,_,_,l2,_,b2⟩ := H
    exact l2 _ _ (hmb _ _ b2))
   rw [hn2] at hent
   refine ⟨true,sE y.1,y.2.1,_,rfl,⟨fun _ => ⟨y.1,n,hent,?_⟩,fun h => (by simp at h)⟩,H⟩
   clear H
   refine (hr ys #[sE y.1] ⟨_,hmay⟩).conseq (K := HP.tt) (hP.trans (.of fun R h H => HP.sep_tt (HP.sep_pure H ⟨_,hmay⟩))) fun v => .of fun R h H => ?_
   obtain ⟨b',hv',hb⟩ := HP.sep_left H
   have hdec : leftN l (S.push y.2.2) < N := by rw [← hN]; exact leftN_push hyl hyS
   cases b' with
   | true =>
    refine ⟨true,_,hv',⟨fun h => absurd rfl h,fun _ => ?_⟩,hb⟩
    have hJ2 : J (HP.one it (.mapIter (some mb) c (nextI S (some y)) c)) (HP.ex fun g' => HP.and (mayK sE (l.map (·.1)) ys #[sE y.1] g') (HP.sep HP.tt (Kp g'))) (leftN l (S.push y.2.2)) := by
     refine ⟨S.push y.2.2,ys ++ [y.1],rfl,.of fun R h H => ?_,hnd,hy2,rfl⟩
     obtain ⟨g',⟨k',e1,e2,_⟩,H⟩ := H
     have : k' = y.1 := by
      have e3 : sE y.1 = sE k' := by simpa using e1
      exact (enc_injS e3).symm
     subst this
     subst e2
     exact H
    exact ⟨⟨_,hJ2⟩,Nat.lt_of_le_of_lt (leastN_le hJ2) (Nat.lt_of_lt_of_eq hdec hNe.symm)⟩
   | false =>
    exact ⟨false,Jx,hv',⟨fun _ => fin Jx Q (.of fun R h H => ⟨none,H⟩) rfl,fun h => absurd h (by simp)⟩,hb⟩
theorem infoKS : (Tryz.prog.info? 9).map (fun i => (i.zero,i.size,i.bytes)) = some (some (.string .empty),1,16) := by kernel_rfl
theorem undKS : Tryz.prog.underlying 29 = some (.slice 9) := by kernel_rfl
set_option maxHeartbeats 1000000 in
theorem appSeqS_ok (x : Nat) (m : Option Nat) (l : AL (List UInt8)) (c : Nat) (Q : HP) (hI : MapI l c) (hv : ∀ y ∈ l,(fun v : Value => ∃ n : Int,v = .int .i64 n) y.2.1) (hm : ∀ mb,m = some mb → ∀ R h,Q.p R h → h mb = some (mapObj sE l c)) (h0 : m = none → l = []) (hl : l.length ≤ 100000) :
  Tri Tryz.prog 194 #[.slice none 0 0,.func (.func 138) #[] #[.pointer (some ⟨x,0,none⟩)]] (HP.sep (KBoxS x m) Q)
   (fun v => HP.ex fun ys : List (List UInt8) => HP.ex fun a => HP.ex fun cc => HP.and (ys.Perm (l.map (·.1)) ∧ v = .slice a ys.length cc) (HP.sep (OwC 9 1 a ys.length cc (ys.map sE)) (HP.sep (KBoxS x m) Q))) := by
 refine Tri.weak (A := HP.sep (OwC 9 1 none 0 0 []) (HP.sep (KBoxS x m) Q)) ?_ (fun R h H => HP.sep_mono (HP.tt_sep H) (fun _ _ => OwC.nil _ _ _ _) fun _ h => h) fun _ _ _ h => h
 refine tri_of_tree (ρ := [.a none,.n 0,.n 0,.p (OwC 9 1 none 0 0 []),.v (.func (.func 138) #[] #[.pointer (some ⟨x,0,none⟩)]),.p (HP.sep (KBoxS x m) Q)]) mixed Tryz.func194 tree_apS ?_
 unfold t_apS
 simp only [T.den,E.prop,E.den,RX.look,F1.app,F2.app,Uni.int_i,Uni.nat_n,Uni.bool_c,Uni.str_s,Uni.adr_a,Uni.val_v,Uni.hp_p,hden,cden,V.den,W.den,A.den,BR.den,SA.den,FV.den,capV,exs,exP,allP,Cur.app,List.map_cons,List.map_nil,List.cons_append,List.nil_append,List.drop_succ_cons,List.drop_zero,List.length_cons,List.length_nil,Nat.zero_add,Nat.reduceAdd,Int.neg_neg,Bool.not_not,List.append_nil,Nat.add_zero,List.getElem?_cons_zero,List.getElem?_cons_succ,Decidable.not_not,semW_eq,semW_append,ne_eq,Nat.reduceEqDiff,not_false_eq_true,oneC]
 intro _ _
 refine ⟨List (List UInt8),fun _ => HP.tt,prKS (l.map (·.1)),mayK sE (l.map (·.1)),fun ys => ys.Perm (l.map (·.1)),[],fun ys a n cc P => n = ys.length ∧ HP.ent P (OwC 9 1 a n cc (ys.map sE)),seqS x m l c Q hI hv hm h0,⟨rfl,.refl _⟩,?_,?_,?_⟩
 ·intro ys a n cc P _; rfl
 ·rintro ys args ⟨ys',k,rfl,rfl,hnd,hlen⟩ a n cc P ⟨rfl,hP⟩
  refine ⟨k,rfl,.of fun _ _ _ => trivial,fun eb => ?_⟩
  obtain ⟨i,hi,z1,z2,z3⟩ := info_parts infoKS
  have hyl : ys.length + 1 ≤ 100000 := by
   have h3 := hlen
   simp at h3
   omega
  have happ := append_ok 29 29 9 i _ undKS hi z1 (by rw [z2]; rfl) (by omega) a ys.length cc (ys.map sE) (HP.one eb (.cells #[sE k] 9 (0,0))) ⟨eb,0,none⟩ 1 1 [sE k] (one_rd eb #[sE k] _) (by rw [z2]; rfl) (fun u hu => by simp at hu; subst hu; rfl) (by unfold maxLen; omega) (by rw [z3]; omega)
  rw [z2] at happ
  refine (happ.conseq (K := HP.tt) ((hP.sep _).trans (.of fun R h H => HP.sep_tt H)) fun v => .of fun R h H => ?_)
  obtain ⟨a2,c2,rfl,H1⟩ := HP.sep_left H
  refine ⟨a2,ys.length + 1,c2,OwC 9 1 a2 (ys.length + 1) c2 ((ys ++ [k]).map sE),rfl,⟨ys ++ [k],⟨k,rfl,rfl,hnd,hlen⟩,by simp,.refl _⟩,?_⟩
  rw [List.map_append]
  exact H1
 ·rintro ys hp a n cc P ⟨rfl,hP⟩
  exact ((HP.ent.refl _).sep2 hP).trans (.of fun R h H => ⟨ys,a,cc,⟨hp,rfl⟩,HP.sep_comm H⟩)
set_option maxHeartbeats 1000000 in
theorem sortedS_ok (x : Nat) (m : Option Nat) (l : AL (List UInt8)) (c : Nat) (Q : HP) (hI : MapI l c) (hv : ∀ y ∈ l,(fun v : Value => ∃ n : Int,v = .int .i64 n) y.2.1) (hm : ∀ mb,m = some mb → ∀ R h,Q.p R h → h mb = some (mapObj sE l c)) (h0 : m = none → l = []) (hl : l.length ≤ 100000) :
  Tri Tryz.prog 74 #[.func (.func 138) #[] #[.pointer (some ⟨x,0,none⟩)]] (HP.sep (KBoxS x m) Q)
   (fun v => HP.ex fun ys : List (List UInt8) => HP.ex fun a => HP.ex fun cc => HP.and (ys.Perm (l.map (·.1)) ∧ v = .slice a ys.length cc) (HP.sep (OwC 9 1 a ys.length cc ((ys.mergeSort fun x y => decide (x ≤ y)).map sE)) (HP.sep (KBoxS x m) Q))) := by
 have collect : Tri Tryz.prog 136 #[.func (.func 138) #[] #[.pointer (some ⟨x,0,none⟩)]] (HP.sep (KBoxS x m) Q)
   (fun v => HP.ex fun ys : List (List UInt8) => HP.ex fun a => HP.ex fun cc => HP.and (ys.Perm (l.map (·.1)) ∧ v = .slice a ys.length cc) (HP.sep (OwC 9 1 a ys.length cc (ys.map sE)) (HP.sep (KBoxS x m) Q))) := by
  refine tri_of_tree (ρ := [.v (.func (.func 138) #[] #[.pointer (some ⟨x,0,none⟩)]),.p (HP.sep (KBoxS x m) Q)]) mixed Tryz.func136 tree_coS ?_
  unfold t_coS
  simp only [T.den,E.prop,E.den,RX.look,F1.app,F2.app,Uni.int_i,Uni.nat_n,Uni.bool_c,Uni.str_s,Uni.adr_a,Uni.val_v,Uni.hp_p,hden,cden,V.den,W.den,A.den,BR.den,SA.den,FV.den,capV,exs,exP,allP,Cur.app,List.map_cons,List.map_nil,List.cons_append,List.nil_append,List.drop_succ_cons,List.drop_zero,List.length_cons,List.length_nil,Nat.zero_add,Nat.reduceAdd,Int.neg_neg,Bool.not_not,List.append_nil,Nat.add_zero,List.getElem?_cons_zero,List.getElem?_cons_succ,Decidable.not_not,semW_eq,ne_eq,Nat.reduceEqDiff,not_false_eq_true,oneC]
  refine (appSeqS_ok x m l c Q hI hv hm h0 hl).weak (fun _ _ h => h) ?_
  rintro v R h ⟨ys,a,cc,⟨hp,rfl⟩,H⟩
  exact ⟨a,ys.length,cc,OwC 9 1 a ys.length cc (ys.map sE),rfl,.of fun R h H => ⟨ys,a,cc,⟨hp,rfl⟩,HP.sep_comm H⟩,H⟩
 refine tri_of_tree (ρ := [.v (.func (.func 138) #[] #[.pointer (some ⟨x,0,none⟩)]),.p (HP.sep (KBoxS x m) Q)]) mixed Tryz.func74 tree_soS ?_
 unfold t_soS
 simp only [T.den,E.prop,E.den,RX.look,F1.app,F2.app,Uni.int_i,Uni.nat_n,Uni.bool_c,Uni.str_s,Uni.adr_a,Uni.val_v,Uni.hp_p,hden,cden,V.den,W.den,A.den,BR.den,SA.den,FV.den,capV,exs,exP,allP,Cur.app,List.map_cons,List.map_nil,List.cons_append,List.nil_append,List.drop_succ_cons,List.drop_zero,List.length_cons,List.length_nil,Nat.zero_add,Nat.reduceAdd,Int.neg_neg,Bool.not_not,List.append_nil,Nat.add_zero,List.getElem?_cons_zero,List.getElem?_cons_succ,Decidable.not_not,semW_eq,ne_eq,Nat.reduceEqDiff,not_false_eq_true,oneC]
 refine collect.weak (fun _ _ h => h) ?_
 rintro v R h ⟨ys,a,cc,⟨hp,rfl⟩,H⟩
 refine ⟨a,ys.length,cc,OwC 9 1 a ys.length cc (ys.map sE),rfl,?_,H⟩
 clear H
 have hyl : ys.length ≤ 100000 := by
  have := hp.length_eq
  simp at this; omega
 refine (sortRow_ok (enc := sE) (fun _ => rfl) (fun blk off cap zs w hH hb hz => Tryz.slices_Sort_string blk off cap zs w hH hb hz) (fun p cap w => Tryz.slices_Sort_string_none p cap w) a cc ys (by omega)).weak (fun _ _ h => h) ?_
 rintro v R h ⟨rfl,H⟩
 exact ⟨OwC 9 1 a ys.length cc ((ys.mergeSort fun x y => decide (x ≤ y)).map sE),rfl,.of fun R h H => ⟨ys,a,cc,⟨hp,rfl⟩,HP.sep_comm H⟩,H⟩
end Go.Proofs.YtdieogcemmnaaaaGreatDoor

namespace Go.Proofs.YtdieogcemmnaaaaGreatDoor
set_option linter.unusedSimpArgs false
set_option linter.unusedVariables false
open Go.Proofs.YtdieogcemmnaaaaGreatDoor RX
set_option maxRecDepth 100000
def KBoxI (x : Nat) (m : Option Nat) : HP := HP.one x (.cells #[.map m] 123 (0,0))
theorem keysI_ok (m : Option Nat) (Q : HP) : Tri Tryz.prog 72 #[.map m] Q
  (fun v => HP.ex fun x => HP.and (v = .func (.func 135) #[] #[.pointer (some ⟨x,0,none⟩)]) (HP.sep (KBoxI x m) Q)) := by
 refine tri_of_tree (ρ := [.v (.map m),.p Q]) mixed Tryz.func72 tree_ksI ?_
 unfold t_ksI
 simp only [T.den,E.prop,E.den,RX.look,F1.app,F2.app,Uni.int_i,Uni.nat_n,Uni.bool_c,Uni.str_s,Uni.adr_a,Uni.val_v,Uni.hp_p,hden,cden,V.den,W.den,A.den,BR.den,SA.den,FV.den,capV,exs,exP,allP,Cur.app,List.map_cons,List.map_nil,List.cons_append,List.nil_append,List.drop_succ_cons,List.drop_zero,List.length_cons,List.length_nil,Nat.zero_add,Nat.reduceAdd,Int.neg_neg,Bool.not_not,List.append_nil,Nat.add_zero,List.getElem?_cons_zero,List.getElem?_cons_succ,Decidable.not_not,semW_eq,ne_eq,Nat.reduceEqDiff,not_false_eq_true]
 exact fun x => .of fun R h H => ⟨x,rfl,HP.sep_comm H⟩
theorem fgoI : Fgo Tryz.prog 135 := ⟨_,Tryz.func135,by kernel_rfl,by kernel_rfl⟩
def prKI (ks ys : List Int) (args : Array Value) : HP := HP.pure (∃ ys',mayK i64v ks ys args ys')
theorem enc_injI {a b : Int} (h : i64v a = i64v b) : a = b := by
 simpa [i64v] using h
set_option maxHeartbeats 1000000 in
theorem seqI (x : Nat) (m : Option Nat) (l : AL Int) (c : Nat) (Q : HP) (hI : MapI l c) (hv : ∀ y ∈ l,(fun v : Value => ∃ n : Nat,v = .pointer (some ⟨n,0,none⟩)) y.2.1) (hm : ∀ mb,m = some mb → ∀ R h,Q.p R h → h mb = some (mapObj i64v l c)) (h0 : m = none → l = []) :
  SeqTri Tryz.prog (.func (.func 135) #[] #[.pointer (some ⟨x,0,none⟩)]) (HP.sep (KBoxI x m) Q) (fun _ => HP.tt) (prKI (l.map (·.1))) (mayK i64v (l.map (·.1))) (fun ys => ys.Perm (l.map (·.1))) ([] : List Int) := by
 refine ⟨_,_,rfl,fgoI,fun L Kp Jx hr => ?_⟩
 refine Tri.weak (A := HP.sep (HP.sep HP.tt (Kp [])) (HP.sep (KBoxI x m) Q)) ?_ (fun R h H => HP.sep_comm H) fun _ _ _ h => h
 refine tri_of_tree (ρ := [.v (.func (.yield L) #[] #[]),.p (HP.sep HP.tt (Kp [])),.n x,.v (.map m),.p Q]) mixed Tryz.func135 tree_ks1I ?_
 unfold t_ks1I
 simp only [T.den,E.prop,E.den,RX.look,F1.app,F2.app,Uni.int_i,Uni.nat_n,Uni.bool_c,Uni.str_s,Uni.adr_a,Uni.val_v,Uni.hp_p,hden,cden,V.den,W.den,A.den,BR.den,SA.den,FV.den,capV,exs,exP,allP,Cur.app,List.map_cons,List.map_nil,List.cons_append,List.nil_append,List.drop_succ_cons,List.drop_zero,List.length_cons,List.length_nil,Nat.zero_add,Nat.reduceAdd,Int.neg_neg,Bool.not_not,List.append_nil,Nat.add_zero,List.getElem?_cons_zero,List.getElem?_cons_succ,Decidable.not_not,semW_eq,semW_range,semW_next,semW_entry,ne_eq,Nat.reduceEqDiff,not_false_eq_true,oneC]
 have fin : ∀ (J Q' : HP),HP.ent J (SeqPost (fun _ => HP.tt) Kp Jx (fun ys => ys.Perm (l.map (·.1)))) → Q' = Q → HP.ent (HP.sep J (HP.sep (HP.one x (.cells #[.map m] 123)) Q'))
   (HP.sep (HP.sep (KBoxI x m) Q) (SeqPost (fun _ => HP.tt) Kp Jx (fun ys => ys.Perm (l.map (·.1))))) := fun J Q' hJ hQ => by
  subst hQ
  exact (hJ.sep _).trans (.of fun R h H => HP.sep_comm H)
 cases m with
 | none =>
  have hl : l = [] := h0 rfl
  refine (rang0_ok (Q := Q) (show Tryz.prog.underlying 123 = some (.map 3 121) by kernel_rfl)).weak (fun _ _ h => h) ?_
  rintro v R h ⟨it,rfl,H⟩
  refine ⟨it,HP.one it (.mapIter none 0 #[] 0),Q,rfl,⟨fun Pi Pk => Pi = HP.one it (.mapIter none 0 #[] 0) ∧ Pk = HP.sep HP.tt (Kp []),fun _ _ => Nat.zero,⟨rfl,rfl⟩,?_⟩,H⟩
  rintro _ _ ⟨rfl,rfl⟩
  refine next0_ok.weak (fun _ _ h => h) ?_
  rintro v R h ⟨rfl,H⟩
  refine ⟨false,.tuple #[],.tuple #[],_,rfl,⟨fun h => (by cases h),fun _ => fin _ _ (.of fun R h H => ⟨some [],?_,H⟩) rfl⟩,H⟩
  rw [hl]; exact List.Perm.refl _
 | some mb =>
  have hmb := hm mb rfl
  refine (rangA_ok (Q := Q) (enc := i64v) (l := l) (c := c) (show Tryz.prog.underlying 123 = some (.map 3 121) by kernel_rfl) hmb).weak (fun _ _ h => h) ?_
  rintro v R h ⟨it,rfl,H⟩
  let J : HP → HP → Nat → Prop := fun Pi Pk N => ∃ (S : Array Nat) (ys : List Int),Pi = HP.one it (.mapIter (some mb) c S c) ∧ HP.ent Pk (HP.sep HP.tt (Kp ys)) ∧ ys.Nodup ∧ (∀ k,k ∈ ys ↔ ∃ y ∈ l,y.1 = k ∧ y.2.2 ∈ S) ∧ leftN l S = N
  refine ⟨it,HP.one it (.mapIter (some mb) c #[] c),Q,rfl,⟨fun Pi Pk => ∃ N,J Pi Pk N,fun Pi Pk => leastN (J Pi Pk),⟨_,#[],[],rfl,.refl _,List.nodup_nil,fun k => by simp,rfl⟩,?_⟩,H⟩
  clear H
  intro Pi Pk hJ
  have hJ' := leastN_spec hJ
  generalize hNe : leastN (J Pi Pk) = N at hJ'
  obtain ⟨S,ys,rfl,hP,hn,hy,hN⟩ := hJ'
  refine (nextA_ok (Q := Q) hI.2 hmb).weak (fun _ _ h => h) ?_
  rintro v R h ⟨e,he,H⟩
  rcases e with _ | y
  ·refine ⟨false,.tuple #[],.tuple #[],_,he.1,⟨fun h => (by cases h),fun _ => fin _ _ (hP.trans (.of fun R h H => ⟨some ys,seen_all hn hI hy he.2,H⟩)) rfl⟩,H⟩
  ·obtain ⟨rfl,hyl,hyS⟩ := he
   obtain ⟨n,hn2⟩ := hv y hyl
   obtain ⟨hnot,hy2⟩ := seen_push hI hy hyl hyS
   have hnd : (ys ++ [y.1]).Nodup := by
    rw [List.nodup_append]
    exact ⟨hn,by simp,fun a ha b hb => by simp at hb; subst hb; exact fun e => hnot (e ▸ ha)⟩
   have hlen : (ys ++ [y.1]).length ≤ (l.map (·.1)).length := nodup_len hnd fun k hk => by
    obtain ⟨z,hz,e,_⟩ := (hy2 k).1 hk
    exact List.mem_map.2 ⟨z,hz,e⟩
   have hmay : mayK i64v (l.map (·.1)) ys #[i64v y.1] (ys ++ [y.1]) := ⟨y.1,rfl,rfl,hnd,hlen⟩
   have hent := entry_ok (enc := i64v) (it := it) (m := mb) (c := c) (S := S) (x := y) hI.2 hyl (A := HP.sep (HP.one it (.mapIter (some mb) c (nextI S (some y)) c)) Q) (fun R h H => HP.sep_left H) (fun R h H => hmb _ _ (HP.sep_right H) |> fun h1 => by
    obtain ⟨_,_,_,_,l2,_,b2⟩ := H
    exact l2 _ _ (hmb _ _ b2))
   rw [hn2] at hent
   refine ⟨true,i64v y.1,y.2.1,_,rfl,⟨fun _ => ⟨y.1,n,hent,?_⟩,fun h => (by simp at h)⟩,H⟩
   clear H
   refine (hr ys #[i64v y.1] ⟨_,hmay⟩).conseq (K := HP.tt) (hP.trans (.of fun R h H => HP.sep_tt (HP.sep_pure H ⟨_,hmay⟩))) fun v => .of fun R h H => ?_
   obtain ⟨b',hv',hb⟩ := HP.sep_left H
   have hdec : leftN l (S.push y.2.2) < N := by rw [← hN]; exact leftN_push hyl hyS
   cases b' with
   | true =>
    refine ⟨true,_,hv',⟨fun h => absurd rfl h,fun _ => ?_⟩,hb⟩
    have hJ2 : J (HP.one it (.mapIter (some mb) c (nextI S (some y)) c)) (HP.ex fun g' => HP.and (mayK i64v (l.map (·.1)) ys #[i64v y.1] g') (HP.sep HP.tt (Kp g'))) (leftN l (S.push y.2.2)) := by
     refine ⟨S.push y.2.2,ys ++ [y.1],rfl,.of fun R h H => ?_,hnd,hy2,rfl⟩
     obtain ⟨g',⟨k',e1,e2,_⟩,H⟩ := H
     have : k' = y.1 := by
      have e3 : i64v y.1 = i64v k' := by simpa using e1
      exact (enc_injI e3).symm
     subst this
     subst e2
     exact H
    exact ⟨⟨_,hJ2⟩,Nat.lt_of_le_of_lt (leastN_le hJ2) (Nat.lt_of_lt_of_eq hdec hNe.symm)⟩
   | false =>
    exact ⟨false,Jx,hv',⟨fun _ => fin Jx Q (.of fun R h H => ⟨none,H⟩) rfl,fun h => absurd h (by simp)⟩,hb⟩
theorem infoKI : (Tryz.prog.info? 3).map (fun i => (i.zero,i.size,i.bytes)) = some (some (.int .i64 0),1,8) := by kernel_rfl
theorem undKI : Tryz.prog.underlying 89 = some (.slice 3) := by kernel_rfl
set_option maxHeartbeats 1000000 in
theorem appSeqI_ok (x : Nat) (m : Option Nat) (l : AL Int) (c : Nat) (Q : HP) (hI : MapI l c) (hv : ∀ y ∈ l,(fun v : Value => ∃ n : Nat,v = .pointer (some ⟨n,0,none⟩)) y.2.1) (hm : ∀ mb,m = some mb → ∀ R h,Q.p R h → h mb = some (mapObj i64v l c)) (h0 : m = none → l = []) (hl : l.length ≤ 100000) :
  Tri Tryz.prog 191 #[.slice none 0 0,.func (.func 135) #[] #[.pointer (some ⟨x,0,none⟩)]] (HP.sep (KBoxI x m) Q)
   (fun v => HP.ex fun ys : List Int => HP.ex fun a => HP.ex fun cc => HP.and (ys.Perm (l.map (·.1)) ∧ v = .slice a ys.length cc) (HP.sep (OwC 3 1 a ys.length cc (ys.map i64v)) (HP.sep (KBoxI x m) Q))) := by
 refine Tri.weak (A := HP.sep (OwC 3 1 none 0 0 []) (HP.sep (KBoxI x m) Q)) ?_ (fun R h H => HP.sep_mono (HP.tt_sep H) (fun _ _ => OwC.nil _ _ _ _) fun _ h => h) fun _ _ _ h => h
 refine tri_of_tree (ρ := [.a none,.n 0,.n 0,.p (OwC 3 1 none 0 0 []),.v (.func (.func 135) #[] #[.pointer (some ⟨x,0,none⟩)]),.p (HP.sep (KBoxI x m) Q)]) mixed Tryz.func191 tree_apI ?_
 unfold t_apI
 simp only [T.den,E.prop,E.den,RX.look,F1.app,F2.app,Uni.int_i,Uni.nat_n,Uni.bool_c,Uni.str_s,Uni.adr_a,Uni.val_v,Uni.hp_p,hden,cden,V.den,W.den,A.den,BR.den,SA.den,FV.den,capV,exs,exP,allP,Cur.app,List.map_cons,List.map_nil,List.cons_append,List.nil_append,List.drop_succ_cons,List.drop_zero,List.length_cons,List.length_nil,Nat.zero_add,Nat.reduceAdd,Int.neg_neg,Bool.not_not,List.append_nil,Nat.add_zero,List.getElem?_cons_zero,List.getElem?_cons_succ,Decidable.not_not,semW_eq,semW_append,ne_eq,Nat.reduceEqDiff,not_false_eq_true,oneC]
 intro _ _
 refine ⟨List Int,fun _ => HP.tt,prKI (l.map (·.1)),mayK i64v (l.map (·.1)),fun ys => ys.Perm (l.map (·.1)),[],fun ys a n cc P => n = ys.length ∧ HP.ent P (OwC 3 1 a n cc (ys.map i64v)),seqI x m l c Q hI hv hm h0,⟨rfl,.refl _⟩,?_,?_,?_⟩
 ·intro ys a n cc P _; rfl
 ·rintro ys args ⟨ys',k,rfl,rfl,hnd,hlen⟩ a n cc P ⟨rfl,hP⟩
  refine ⟨k,rfl,.of fun _ _ _ => trivial,fun eb => ?_⟩
  obtain ⟨i,hi,z1,z2,z3⟩ := info_parts infoKI
  have hyl : ys.length + 1 ≤ 100000 := by
   have h3 := hlen
   simp at h3
   omega
  have happ := append_ok 89 89 3 i _ undKI hi z1 (by rw [z2]; rfl) (by omega) a ys.length cc (ys.map i64v) (HP.one eb (.cells #[i64v k] 3 (0,0))) ⟨eb,0,none⟩ 1 1 [i64v k] (one_rd eb #[i64v k] _) (by rw [z2]; rfl) (fun u hu => by simp at hu; subst hu; rfl) (by unfold maxLen; omega) (by rw [z3]; omega)
  rw [z2] at happ
  refine (happ.conseq (K := HP.tt) ((hP.sep _).trans (.of fun R h H => HP.sep_tt H)) fun v => .of fun R h H => ?_)
  obtain ⟨a2,c2,rfl,H1⟩ := HP.sep_left H
  refine ⟨a2,ys.length + 1,c2,OwC 3 1 a2 (ys.length + 1) c2 ((ys ++ [k]).map i64v),rfl,⟨ys ++ [k],⟨k,rfl,rfl,hnd,hlen⟩,by simp,.refl _⟩,?_⟩
  rw [List.map_append]
  exact H1
 ·rintro ys hp a n cc P ⟨rfl,hP⟩
  exact ((HP.ent.refl _).sep2 hP).trans (.of fun R h H => ⟨ys,a,cc,⟨hp,rfl⟩,HP.sep_comm H⟩)
set_option maxHeartbeats 1000000 in
theorem sortedI_ok (x : Nat) (m : Option Nat) (l : AL Int) (c : Nat) (Q : HP) (hI : MapI l c) (hv : ∀ y ∈ l,(fun v : Value => ∃ n : Nat,v = .pointer (some ⟨n,0,none⟩)) y.2.1) (hm : ∀ mb,m = some mb → ∀ R h,Q.p R h → h mb = some (mapObj i64v l c)) (h0 : m = none → l = []) (hl : l.length ≤ 100000) :
  Tri Tryz.prog 71 #[.func (.func 135) #[] #[.pointer (some ⟨x,0,none⟩)]] (HP.sep (KBoxI x m) Q)
   (fun v => HP.ex fun ys : List Int => HP.ex fun a => HP.ex fun cc => HP.and (ys.Perm (l.map (·.1)) ∧ v = .slice a ys.length cc) (HP.sep (OwC 3 1 a ys.length cc ((ys.mergeSort fun x y => decide (x ≤ y)).map i64v)) (HP.sep (KBoxI x m) Q))) := by
 have collect : Tri Tryz.prog 133 #[.func (.func 135) #[] #[.pointer (some ⟨x,0,none⟩)]] (HP.sep (KBoxI x m) Q)
   (fun v => HP.ex fun ys : List Int => HP.ex fun a => HP.ex fun cc => HP.and (ys.Perm (l.map (·.1)) ∧ v = .slice a ys.length cc) (HP.sep (OwC 3 1 a ys.length cc (ys.map i64v)) (HP.sep (KBoxI x m) Q))) := by
  refine tri_of_tree (ρ := [.v (.func (.func 135) #[] #[.pointer (some ⟨x,0,none⟩)]),.p (HP.sep (KBoxI x m) Q)]) mixed Tryz.func133 tree_coI ?_
  unfold t_coI
  simp only [T.den,E.prop,E.den,RX.look,F1.app,F2.app,Uni.int_i,Uni.nat_n,Uni.bool_c,Uni.str_s,Uni.adr_a,Uni.val_v,Uni.hp_p,hden,cden,V.den,W.den,A.den,BR.den,SA.den,FV.den,capV,exs,exP,allP,Cur.app,List.map_cons,List.map_nil,List.cons_append,List.nil_append,List.drop_succ_cons,List.drop_zero,List.length_cons,List.length_nil,Nat.zero_add,Nat.reduceAdd,Int.neg_neg,Bool.not_not,List.append_nil,Nat.add_zero,List.getElem?_cons_zero,List.getElem?_cons_succ,Decidable.not_not,semW_eq,ne_eq,Nat.reduceEqDiff,not_false_eq_true,oneC]
  refine (appSeqI_ok x m l c Q hI hv hm h0 hl).weak (fun _ _ h => h) ?_
  rintro v R h ⟨ys,a,cc,⟨hp,rfl⟩,H⟩
  exact ⟨a,ys.length,cc,OwC 3 1 a ys.length cc (ys.map i64v),rfl,.of fun R h H => ⟨ys,a,cc,⟨hp,rfl⟩,HP.sep_comm H⟩,H⟩
 refine tri_of_tree (ρ := [.v (.func (.func 135) #[] #[.pointer (some ⟨x,0,none⟩)]),.p (HP.sep (KBoxI x m) Q)]) mixed Tryz.func71 tree_soI ?_
 unfold t_soI
 simp only [T.den,E.prop,E.den,RX.look,F1.app,F2.app,Uni.int_i,Uni.nat_n,Uni.bool_c,Uni.str_s,Uni.adr_a,Uni.val_v,Uni.hp_p,hden,cden,V.den,W.den,A.den,BR.den,SA.den,FV.den,capV,exs,exP,allP,Cur.app,List.map_cons,List.map_nil,List.cons_append,List.nil_append,List.drop_succ_cons,List.drop_zero,List.length_cons,List.length_nil,Nat.zero_add,Nat.reduceAdd,Int.neg_neg,Bool.not_not,List.append_nil,Nat.add_zero,List.getElem?_cons_zero,List.getElem?_cons_succ,Decidable.not_not,semW_eq,ne_eq,Nat.reduceEqDiff,not_false_eq_true,oneC]
 refine collect.weak (fun _ _ h => h) ?_
 rintro v R h ⟨ys,a,cc,⟨hp,rfl⟩,H⟩
 refine ⟨a,ys.length,cc,OwC 3 1 a ys.length cc (ys.map i64v),rfl,?_,H⟩
 clear H
 have hyl : ys.length ≤ 100000 := by
  have := hp.length_eq
  simp at this; omega
 refine (sortRow_ok (enc := i64v) (fun _ => rfl) (fun blk off cap zs w hH hb hz => Tryz.slices_Sort_int blk off cap zs w hH hb hz) (fun p cap w => Tryz.slices_Sort_int_none p cap w) a cc ys (by omega)).weak (fun _ _ h => h) ?_
 rintro v R h ⟨rfl,H⟩
 exact ⟨OwC 3 1 a ys.length cc ((ys.mergeSort fun x y => decide (x ≤ y)).map i64v),rfl,.of fun R h H => ⟨ys,a,cc,⟨hp,rfl⟩,HP.sep_comm H⟩,H⟩
end Go.Proofs.YtdieogcemmnaaaaGreatDoor
