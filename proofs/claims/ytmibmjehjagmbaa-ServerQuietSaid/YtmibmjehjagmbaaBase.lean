/- Small laws on worlds: what a block of cells holds behind stores, new blocks and draws; which blocks may have turned. No condition. -/
import Derived.Test.YtmibmjehjagmbaaRows
import Derived.WalkKit
import Derived.WalkSpells
import Derived.WalkSmall
import Derived.WalkLawsBesides
import Derived.RegionTactic
import Derived.BigRegion
import Derived.BigQuiet
import Derived.Deep.QuietTactic
import Derived.Deep.RegionHeld3
import Derived.Lib.Hide
import Derived.Maps.OwnSet
import Derived.Maps.OwnOps
namespace Go.Proofs.Ytmibmjehjagmbaa
open Go.RowKit

/-- Block b is a row of cells. -/
def Cel (w : World) (b : Nat) (c : Array Value) (t : TypeId) : Prop := w.heap[b]? = some (.cells c t (0, 0))

/-- Nothing that was there has turned, but for the blocks of fp. -/
structure Mod (fp : List Nat) (w w' : World) : Prop where
  os : w'.os = w.os
  tape : w'.tape = w.tape
  output : w'.output = w.output
  size : w.heap.size ≤ w'.heap.size
  block : ∀ k, k < w.heap.size → k ∉ fp → w'.heap[k]? = w.heap[k]?

def putC (a : Addr) (v : Value) : Obj → Obj
  | .cells c elem frozen => .cells (if a.spot.isSome then c else c.setIfInBounds a.off v) elem frozen
  | o => o
theorem hp_setCell (w : World) (a : Addr) (v : Value) (g : Nat) : (w.setCell a v).heap[g]? = if a.block = g then (w.heap[g]?).map (putC a v) else w.heap[g]? := by
  simp only [World.setCell, Array.getElem?_modify]
  congr 2

theorem hp_alloc (w : World) (o : Obj) (g : Nat) : (w.alloc o).heap[g]? = if g = w.heap.size then some o else w.heap[g]? := by
  show (w.heap.push o)[g]? = _
  rw [Array.getElem?_push]

theorem hp_drew (w : World) (g : Nat) : w.drew.heap[g]? = w.heap[g]? := rfl
theorem hp_drewN (w : World) (n g : Nat) : (w.drewN n).heap[g]? = w.heap[g]? := rfl

theorem Cel.lt {w : World} {b : Nat} {c : Array Value} {t : TypeId} (h : Cel w b c t) : b < w.heap.size := lt_of_block h
theorem Cel.cell {w : World} {b : Nat} {c : Array Value} {t : TypeId} (h : Cel w b c t) (k : Nat) : w.cell? ⟨b, k, none⟩ = c[k]? := cell_of_row w b k c t (0, 0) h
theorem Cel.frozen {w : World} {b : Nat} {c : Array Value} {t : TypeId} (h : Cel w b c t) (k : Nat) : w.frozen? ⟨b, k, none⟩ = false := frozen_of_row w b k c t h
theorem Cel.set {w : World} {b : Nat} {c : Array Value} {t : TypeId} (h : Cel w b c t) (k : Nat) (v : Value) : Cel (w.setCell ⟨b, k, none⟩ v) b (c.setIfInBounds k v) t := by
  unfold Cel at *
  rw [hp_setCell, if_pos rfl, h]
  rfl
theorem Cel.setOther {w : World} {b : Nat} {c : Array Value} {t : TypeId} (h : Cel w b c t) {a : Addr} (hne : a.block ≠ b) (v : Value) : Cel (w.setCell a v) b c t := by
  unfold Cel at *
  rw [hp_setCell, if_neg hne, h]
theorem Cel.alloc {w : World} {b : Nat} {c : Array Value} {t : TypeId} (h : Cel w b c t) (o : Obj) : Cel (w.alloc o) b c t := by
  have := h.lt
  unfold Cel at *
  rw [hp_alloc, if_neg (by omega), h]
theorem Cel.new (w : World) (c : Array Value) (t : TypeId) : Cel (w.alloc (.cells c t (0, 0))) w.heap.size c t := by
  unfold Cel
  rw [hp_alloc, if_pos rfl]
theorem Cel.drew {w : World} {b : Nat} {c : Array Value} {t : TypeId} (h : Cel w b c t) : Cel w.drew b c t := h
theorem Cel.drewN {w : World} {b : Nat} {c : Array Value} {t : TypeId} (h : Cel w b c t) (n : Nat) : Cel (w.drewN n) b c t := h
theorem Cel.mod {w w' : World} {b : Nat} {c : Array Value} {t : TypeId} {fp : List Nat} (h : Cel w b c t) (hm : Mod fp w w') (hb : b ∉ fp) : Cel w' b c t := by
  have := h.lt
  unfold Cel at *
  rw [hm.block b this hb, h]

theorem Mod.refl (fp : List Nat) (w : World) : Mod fp w w := ⟨rfl, rfl, rfl, Nat.le_refl _, fun _ _ _ => rfl⟩
theorem Mod.mono {fp fp' : List Nat} {w w' : World} (h : Mod fp w w') (hs : ∀ b ∈ fp, b < w.heap.size → b ∈ fp') : Mod fp' w w' :=
  ⟨h.os, h.tape, h.output, h.size, fun k hk hn => h.block k hk (fun hm => hn (hs k hm hk))⟩
theorem Mod.trans {fp : List Nat} {a b c : World} (h : Mod fp a b) (k : Mod fp b c) : Mod fp a c :=
  ⟨k.os.trans h.os, k.tape.trans h.tape, k.output.trans h.output, Nat.le_trans h.size k.size, fun i hi hn => (k.block i (by have := h.size; omega) hn).trans (h.block i hi hn)⟩
theorem Mod.drew {fp : List Nat} {a w : World} (h : Mod fp a w) : Mod fp a w.drew := ⟨h.os, h.tape, h.output, h.size, h.block⟩
theorem Mod.drewN {fp : List Nat} {a w : World} (h : Mod fp a w) (n : Nat) : Mod fp a (w.drewN n) := ⟨h.os, h.tape, h.output, h.size, h.block⟩
theorem Mod.alloc {fp : List Nat} {a w : World} (h : Mod fp a w) (o : Obj) : Mod fp a (w.alloc o) :=
  ⟨h.os, h.tape, h.output, by have := h.size; simp; omega, fun k hk hn => by have := h.size; rw [hp_alloc, if_neg (by omega)]; exact h.block k hk hn⟩
theorem Mod.setCell {fp : List Nat} {a w : World} (h : Mod fp a w) {p : Addr} (hp : p.block ∈ fp ∨ a.heap.size ≤ p.block) (v : Value) : Mod fp a (w.setCell p v) :=
  ⟨h.os, h.tape, h.output, by have := h.size; simp [World.setCell]; omega, fun k hk hn => by
    rw [hp_setCell, if_neg (fun e => by subst e; rcases hp with hp | hp; exact hn hp; omega)]; exact h.block k hk hn⟩
/-- A step that may turn the blocks of fp', each in fp or new. -/
theorem Mod.then {fp fp' : List Nat} {a b c : World} (h : Mod fp a b) (k : Mod fp' b c) (hs : ∀ x ∈ fp', x ∈ fp ∨ a.heap.size ≤ x) : Mod fp a c :=
  ⟨k.os.trans h.os, k.tape.trans h.tape, k.output.trans h.output, Nat.le_trans h.size k.size, fun i hi hn =>
    (k.block i (by have := h.size; omega) (fun hm => by rcases hs i hm with h1 | h1; exact hn h1; omega)).trans (h.block i hi hn)⟩
theorem Mod.below {w w' : World} (h : Mod [] w w') : Below w.heap.size w w' := ⟨h.os, h.tape, h.output, h.size, fun k hk => h.block k hk (by simp)⟩
theorem Mod.cell {fp : List Nat} {w w' : World} (h : Mod fp w w') {a : Addr} (ha : a.block < w.heap.size) (hn : a.block ∉ fp) : w'.cell? a = w.cell? a := by
  unfold World.cell?; rw [h.block _ ha hn]
theorem Mod.frozen {fp : List Nat} {w w' : World} (h : Mod fp w w') {a : Addr} (ha : a.block < w.heap.size) (hn : a.block ∉ fp) : w'.frozen? a = w.frozen? a := by
  unfold World.frozen?; rw [h.block _ ha hn]

theorem bodyPost_ret3 {P : Program} {fn : Func} {R : Ending → World → Prop} {a : Act} {w : World} {x y z : Value}
    (hr : (results fn a.tmps).run P w = .ok (.tuple #[x, y, z]) w) (hd : a.defers = []) (hR : R (.returned (.tuple #[x, y, z])) w) : bodyPost P fn R .ret a w :=
  ⟨hd, _, hr, hR⟩

theorem Cel.setRow {w : World} {b : Nat} {c : Array Value} {t : TypeId} (h : Cel w b c t) (cs : Array Value) : Cel (w.setRow b cs) b cs t := setRow_heap w b c cs t (0, 0) h
theorem Cel.setRowOther {w : World} {b : Nat} {c : Array Value} {t : TypeId} (h : Cel w b c t) {g : Nat} (hne : g ≠ b) (cs : Array Value) : Cel (w.setRow g cs) b c t := by
  unfold Cel at *
  rw [setRow_other w g b cs (Ne.symm hne), h]
theorem Mod.setRow {fp : List Nat} {a w : World} (h : Mod fp a w) {g : Nat} (hp : g ∈ fp ∨ a.heap.size ≤ g) (cs : Array Value) : Mod fp a (w.setRow g cs) :=
  ⟨h.os, h.tape, h.output, by have := h.size; simp; omega, fun k hk hn => by
    rw [setRow_other w g k cs (fun e => by subst e; rcases hp with hp | hp; exact hn hp; omega)]; exact h.block k hk hn⟩

section
variable {P : Program} {ops : Array Oper} {rest : List Oper} {o : Oper} {a : Act} {w : World} {Q : Exit → Act → World → Prop}

/-- The store of a struct or an array over a whole block, or over some of its cells. -/
theorem run_storeVar_at (ty : TypeId) (g i : Nat) (t : TypeId) (cur cs : Array Value) (hg : Cel w g cur t) (hi : (P.info? ty).map (·.size) = some cs.size) (hl : i + cs.size ≤ cur.size) (h1 : cs.toList.all Value.oneCell' = true) :
    (storeVar ty ⟨g, i, none⟩ (.agg cs)).run P w = .ok () (w.setRow g (cur.toList.take i ++ cs.toList ++ cur.toList.drop (i + cs.size)).toArray) := by
  cases hq : P.info? ty with
  | none => simp [hq] at hi
  | some inf =>
    have hs : inf.size = cs.size := by simpa [hq] using hi
    have hst := run_storeCells_at (P := P) g i t cs.toList 0 cur w hg (by simpa using hl) (List.all_eq_true.1 h1)
    simp only [Nat.add_zero, Array.length_toList] at hst
    have hsz : (sizeOf ty).run P w = .ok cs.size w := by simp [sizeOf, typeInfo, hq, hs]
    unfold storeVar
    rw [Sem.run_bind, hsz]
    simp only [Result.andThen_ok, Value.cells, ne_eq, not_true_eq_false, if_false, hst]

theorem wpList_store_at (hgd : o.guard = none) (ty : TypeId) (p x : Operand) (ho : o.op = .store ty p x) (g i : Nat) (hp : a.eval p = .pointer (some ⟨g, i, none⟩)) (cs : Array Value) (hx : a.eval x = .agg cs)
    (t : TypeId) (cur : Array Value) (hg : Cel w g cur t) (hi : (P.info? ty).map (·.size) = some cs.size) (hl : i + cs.size ≤ cur.size) (h1 : cs.toList.all Value.oneCell' = true)
    (h : wpList P ops Q rest (a.put o.dst undef) (w.setRow g (cur.toList.take i ++ cs.toList ++ cur.toList.drop (i + cs.size)).toArray)) : wpList P ops Q (o :: rest) a w := by
  refine wpList_plain hgd fun K hk => ?_
  unfold Oper.wp execOp
  simp only [ho, hp, hx, Instr.storeAt, Instr.sureAddr, Sem.run_bind, Sem.run_pure, Result.andThen_ok, run_storeVar_at ty g i t cur cs hg hi hl h1]
  exact hk _ _ h

theorem wpList_store_row (hgd : o.guard = none) (ty : TypeId) (p x : Operand) (ho : o.op = .store ty p x) (g : Nat) (hp : a.eval p = .pointer (some ⟨g, 0, none⟩)) (cs : Array Value) (hx : a.eval x = .agg cs)
    (t : TypeId) (cur : Array Value) (hg : Cel w g cur t) (hi : (P.info? ty).map (·.size) = some cs.size) (hl : cs.size = cur.size) (h1 : cs.toList.all Value.oneCell' = true)
    (h : wpList P ops Q rest (a.put o.dst undef) (w.setRow g cs)) : wpList P ops Q (o :: rest) a w := by
  refine wpList_store_at hgd ty p x ho g 0 hp cs hx t cur hg hi (by omega) h1 ?_
  have e : (cur.toList.take 0 ++ cs.toList ++ cur.toList.drop (0 + cs.size)).toArray = cs := by
    rw [List.take_zero, List.nil_append, List.drop_of_length_le (by simp; omega), List.append_nil]
  rw [e]
  exact h
end

theorem results_row_tmp {P : Program} {w : World} {fn : Func} {p u : Tmp} {ty : TypeId} (h : fn.results = #[.cell p ty, .tmp u]) (tmps : Array Value) (g : Nat) (t : TypeId) (cs : Array Value) (d : TypeDesc) (v : Value)
    (hp : tmps.getD p undef = .pointer (some ⟨g, 0, none⟩)) (hg : Cel w g cs t) (hv : tmps.getD u undef = v)
    (hu : P.underlying ty = some d) (hd : (match d with | .struct _ | .array _ _ => true | _ => false) = true) (hi : (P.info? ty).map (·.size) = some cs.size) :
    (results fn tmps).run P w = .ok (.tuple #[.agg cs, v]) w := by
  rw [results_cell_tmp h, hp, hv]
  simp [asAddr, run_loadVar_row w g t ty cs (0, 0) d hg hu hd hi]

theorem bits_mask_i64 (x : Int) (j : Nat) (hj : j ≤ 62) : bits .and .i64 x (2 ^ j - 1) = x % 2 ^ j := by
  have hp : (2 : Int) ^ j - 1 = ((2 ^ j - 1 : Nat) : Int) := by
    have := Nat.one_le_two_pow (n := j)
    rw [Int.ofNat_sub this]; simp
  have hlt : (2 : Nat) ^ j ≤ 2 ^ 62 := Nat.pow_le_pow_right (by decide) hj
  have h1 : (BitVec.ofInt 64 ((2 : Int) ^ j - 1)).toNat = 2 ^ j - 1 := by
    rw [hp, BitVec.ofInt_natCast, BitVec.toNat_ofNat, Nat.mod_eq_of_lt (by omega)]
  have h2 : (BitVec.ofInt 64 x &&& BitVec.ofInt 64 ((2 : Int) ^ j - 1)).toNat = (BitVec.ofInt 64 x).toNat % 2 ^ j := by
    rw [BitVec.toNat_and, h1, Nat.and_two_pow_sub_one_eq_mod]
  have h3 : ((BitVec.ofInt 64 x).toNat : Int) = x % 2 ^ 64 := by
    rw [BitVec.toNat_ofInt]
    have : (0 : Int) ≤ x % 2 ^ 64 := Int.emod_nonneg _ (by decide)
    omega
  have h4 : (((BitVec.ofInt 64 x).toNat % 2 ^ j : Nat) : Int) = x % 2 ^ j := by
    rw [Int.natCast_emod, h3, Int.natCast_pow]
    exact Int.emod_emod_of_dvd x (by
      refine ⟨2 ^ (64 - j), ?_⟩
      have e : (64 : Nat) = j + (64 - j) := by omega
      have := Int.pow_add (2 : Int) j (64 - j)
      rw [← e] at this
      exact this)
  have h5 : bits .and .i64 x (2 ^ j - 1) = IntKind.i64.wrap ((BitVec.ofInt 64 x &&& BitVec.ofInt 64 ((2 : Int) ^ j - 1)).toNat : Int) := rfl
  rw [h5, h2, h4, IntKind.wrap_i64]
  have e1 : (0 : Int) ≤ x % 2 ^ j := Int.emod_nonneg _ (by have := Int.pow_pos (n := 2) (m := j) (by decide); omega)
  have e2 : x % 2 ^ j < 2 ^ j := Int.emod_lt_of_pos _ (Int.pow_pos (by decide))
  have e3 : ((2 : Int) ^ j) ≤ 2 ^ 62 := by
    have := Int.ofNat_le.2 hlt
    simpa using this
  omega
theorem and7 (x : Int) : bits .and .i64 x 7 = x % 8 := bits_mask_i64 x 3 (by decide)
theorem and3 (x : Int) : bits .and .i64 x 3 = x % 4 := bits_mask_i64 x 2 (by decide)
theorem andffff (x : Int) : bits .and .i64 x 65535 = x % 65536 := bits_mask_i64 x 16 (by decide)

theorem setRow_alloc (w : World) (n : Nat) (c cs : Array Value) (t : TypeId) (h : n = w.heap.size) : (w.alloc (.cells c t (0, 0))).setRow n cs = w.alloc (.cells cs t (0, 0)) := by
  subst h
  simp only [World.setRow, World.alloc]
  congr 1
  apply Array.ext_getElem?
  intro i
  simp only [Array.getElem?_modify, Array.getElem?_push]
  by_cases hi : w.heap.size = i
  · subst hi; simp
  · rw [if_neg hi, if_neg (Ne.symm hi), if_neg (Ne.symm hi)]

end Go.Proofs.Ytmibmjehjagmbaa
