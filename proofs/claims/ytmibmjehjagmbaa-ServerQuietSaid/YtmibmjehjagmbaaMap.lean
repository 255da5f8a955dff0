/- Laws on maps, whatever their elements are: look-up, store, delete, len and range, on a block that is known whole. No condition. -/
import Derived.Test.YtmibmjehjagmbaaBase
namespace Go.Proofs.Ytmibmjehjagmbaa
open Go.RowKit

def World.setObj (w : World) (r : Nat) (o : Obj) : World := { w with heap := w.heap.setIfInBounds r o }
theorem hp_setObj (w : World) (r g : Nat) (o : Obj) (h : r < w.heap.size) : (World.setObj w r o).heap[g]? = if r = g then some o else w.heap[g]? := by
  simp only [World.setObj, Array.getElem?_setIfInBounds]
  split
  · rename_i e; subst e; simp
  · rfl
theorem size_setObj (w : World) (r : Nat) (o : Obj) : (World.setObj w r o).heap.size = w.heap.size := by simp [World.setObj]
theorem Mod.setObj {fp : List Nat} {a w : World} (h : Mod fp a w) {r : Nat} (hp : r ∈ fp ∨ a.heap.size ≤ r) (o : Obj) : Mod fp a (World.setObj w r o) :=
  ⟨h.os, h.tape, h.output, by have := h.size; simp [World.setObj]; omega, fun k hk hn => by
    have hs := h.size
    have hne : r ≠ k := fun e => by subst e; rcases hp with hp | hp; exact hn hp; omega
    have : (World.setObj w r o).heap[k]? = w.heap[k]? := by simp [World.setObj, hne]
    rw [this]; exact h.block k hk hn⟩
theorem Cel.setObj {w : World} {b : Nat} {c : Array Value} {t : TypeId} (h : Cel w b c t) {r : Nat} (hne : r ≠ b) (o : Obj) : Cel (World.setObj w r o) b c t := by
  unfold Cel at *
  simp [World.setObj, hne, h]
theorem setObj_alloc (w : World) (n : Nat) (o o' : Obj) (h : n = w.heap.size) : World.setObj (w.alloc o) n o' = w.alloc o' := by
  subst h
  simp only [World.setObj, World.alloc]
  congr 1
  apply Array.ext_getElem?
  intro i
  simp only [Array.getElem?_setIfInBounds, Array.getElem?_push]
  by_cases hi : w.heap.size = i
  · subst hi; simp
  · rw [if_neg hi, if_neg (Ne.symm hi), if_neg (Ne.symm hi)]

section
variable {κ : Type} [DecidableEq κ]

/-- A map's entries as a list: key, value, when it was put. -/
abbrev AL (κ : Type) := List (κ × Value × Nat)
def toE (enc : κ → Value) (x : κ × Value × Nat) : MapEntry := { key := enc x.1, val := x.2.1, born := x.2.2 }
def mapObj (enc : κ → Value) (l : AL κ) (c : Nat) : Obj := .map (l.map (toE enc)).toArray c

def alIdx (k : κ) : AL κ → Nat → Option (Nat × Value)
  | [], _ => none
  | x :: l, i => if k = x.1 then some (i, x.2.1) else alIdx k l (i + 1)
def alFind (k : κ) : AL κ → Option Value
  | [] => none
  | x :: l => if k = x.1 then some x.2.1 else alFind k l
def alPut (k : κ) (v : Value) (c : Nat) : AL κ → AL κ
  | [] => [(k, v, c)]
  | x :: l => if k = x.1 then (k, v, x.2.2) :: l else x :: alPut k v c l
def alDel (k : κ) : AL κ → AL κ
  | [] => []
  | x :: l => if k = x.1 then l else x :: alDel k l
def alClock (k : κ) (l : AL κ) (c : Nat) : Nat := if (alFind k l).isSome then c else c + 1

theorem alIdx_find (k : κ) : ∀ (l : AL κ) (i : Nat), (alIdx k l i).map (·.2) = alFind k l
  | [], _ => rfl
  | x :: l, i => by unfold alIdx alFind; split; rfl; exact alIdx_find k l (i + 1)

theorem alIdx_some (k : κ) : ∀ (l : AL κ) (i j : Nat) (v : Value), alIdx k l i = some (j, v) → ∃ m b, j = i + m ∧ l[m]? = some (k, v, b) ∧ ∀ (u : Value) (c : Nat), alPut k u c l = l.set m (k, u, b) ∧ alDel k l = l.eraseIdx m
  | [], _, _, _, h => by cases h
  | x :: l, i, j, v, h => by
    unfold alIdx at h
    split at h
    · rename_i e
      obtain ⟨k', v', b⟩ := x
      simp only at e; subst e
      injection h with h; injection h with h1 h2; subst h1; subst h2
      exact ⟨0, b, rfl, rfl, fun u c => by simp [alPut, alDel]⟩
    · rename_i e
      obtain ⟨m, b, h1, h2, h3⟩ := alIdx_some k l _ _ _ h
      refine ⟨m + 1, b, by omega, by simpa using h2, fun u c => ?_⟩
      unfold alPut alDel
      rw [if_neg e, if_neg e, (h3 u c).1, (h3 u c).2]
      exact ⟨rfl, rfl⟩

theorem alIdx_none (k : κ) : ∀ (l : AL κ) (i : Nat), alIdx k l i = none → ∀ (u : Value) (c : Nat), alPut k u c l = l ++ [(k, u, c)] ∧ alDel k l = l
  | [], _, _, _, _ => ⟨rfl, rfl⟩
  | x :: l, i, h, u, c => by
    unfold alIdx at h
    split at h
    · cases h
    · rename_i e
      unfold alPut alDel
      rw [if_neg e, if_neg e, (alIdx_none k l _ h u c).1, (alIdx_none k l _ h u c).2]
      exact ⟨rfl, rfl⟩

theorem alFind_put (k k' : κ) (v : Value) (c : Nat) : ∀ l : AL κ, alFind k' (alPut k v c l) = if k' = k then some v else alFind k' l
  | [] => by simp [alPut, alFind]
  | x :: l => by
    unfold alPut
    split
    · rename_i e; subst e
      by_cases h : k' = x.1 <;> simp [alFind, h]
    · rename_i e
      unfold alFind
      rw [alFind_put k k' v c l]
      by_cases h : k' = x.1
      · have : k' ≠ k := fun h' => e (h'.symm.trans h)
        simp [h, Ne.symm e]
      · simp [h]

theorem alFind_none_of (k : κ) : ∀ l : AL κ, (∀ x ∈ l, x.1 ≠ k) → alFind k l = none
  | [], _ => rfl
  | x :: l, h => by
    unfold alFind
    rw [if_neg (fun e => h x (by simp) e.symm), alFind_none_of k l (fun y hy => h y (by simp [hy]))]

theorem alFind_some_mem (k : κ) : ∀ (l : AL κ) (v : Value), alFind k l = some v → ∃ b, (k, v, b) ∈ l
  | [], _, h => by cases h
  | x :: l, v, h => by
    unfold alFind at h
    split at h
    · rename_i e
      obtain ⟨k', v', b⟩ := x
      simp only at e; subst e
      injection h with h; subst h
      exact ⟨b, by simp⟩
    · obtain ⟨b, hb⟩ := alFind_some_mem k l v h
      exact ⟨b, by simp [hb]⟩

theorem alFind_mem (k : κ) (v : Value) (b : Nat) : ∀ (l : AL κ), (l.map (·.1)).Nodup → (k, v, b) ∈ l → alFind k l = some v
  | [], _, h => by cases h
  | x :: l, hn, h => by
    unfold alFind
    rw [List.map_cons, List.nodup_cons] at hn
    rcases List.mem_cons.1 h with h | h
    · subst h; simp
    · have : k ≠ x.1 := fun e => hn.1 (by rw [← e]; exact List.mem_map.2 ⟨_, h, rfl⟩)
      rw [if_neg this, alFind_mem k v b l hn.2 h]

theorem alPut_keys (k : κ) (v : Value) (c : Nat) : ∀ l : AL κ, (alPut k v c l).map (·.1) = if (alFind k l).isSome then l.map (·.1) else l.map (·.1) ++ [k]
  | [] => by simp [alPut, alFind]
  | x :: l => by
    unfold alPut alFind
    by_cases h : k = x.1
    · simp [h]
    · rw [if_neg h, if_neg h, List.map_cons, alPut_keys k v c l]
      split <;> simp

theorem alFind_isSome (k : κ) : ∀ l : AL κ, (alFind k l).isSome = true ↔ k ∈ l.map (·.1)
  | [] => by simp [alFind]
  | x :: l => by
    unfold alFind
    by_cases h : k = x.1
    · simp [h]
    · rw [if_neg h, alFind_isSome k l]; simp [h]

theorem alPut_nodup (k : κ) (v : Value) (c : Nat) (l : AL κ) (h : (l.map (·.1)).Nodup) : ((alPut k v c l).map (·.1)).Nodup := by
  rw [alPut_keys]
  split
  · exact h
  · rename_i hn
    rw [alFind_isSome] at hn
    rw [List.nodup_append]
    exact ⟨h, by simp, fun a ha b hb => by simp at hb; subst hb; exact fun e => hn (e ▸ ha)⟩

theorem alPut_length (k : κ) (v : Value) (c : Nat) (l : AL κ) : (alPut k v c l).length = if (alFind k l).isSome then l.length else l.length + 1 := by
  have h := congrArg List.length (alPut_keys k v c l)
  split at h <;> rename_i hh <;> simp [hh] at h ⊢ <;> exact h

/-- A key type whose values are compared at once. -/
structure KeyEnc (P : Program) (kt : TypeId) (enc : κ → Value) : Prop where
  check : ∀ (em : Bool) (k : κ) (w : World), (Instr.checkKey em 10000 kt (enc k)).run P w = .ok () w
  find : ∀ (k : κ) (l : AL κ) (w : World), (Instr.findKey kt (enc k) (l.map (toE enc))).run P w = .ok (alIdx k l 0) w
  bits : ∀ k, Instr.sameBits 10000 (enc k) (enc k) = true

theorem run_getObj_map {P : Program} {w : World} {r : Nat} {es : Array MapEntry} {c : Nat} (h : w.heap[r]? = some (.map es c)) : (getObj r).run P w = .ok (.map es c) w := by
  simp [getObj, Sem.run, h]
theorem run_setObj_map {P : Program} {w : World} {r : Nat} {es : Array MapEntry} {c : Nat} (o : Obj) (h : w.heap[r]? = some (.map es c)) : (setObj r o).run P w = .ok () (World.setObj w r o) := by
  simp [Go.setObj, Sem.run, h, World.setObj]

theorem run_mapUpdate_raw {P : Program} {w : World} {kt et t : TypeId} {enc : κ → Value} (K : KeyEnc P kt enc) (ht : P.underlying t = some (.map kt et)) {r : Nat} {l : AL κ} {c : Nat}
    (hb : w.heap[r]? = some (mapObj enc l c)) (k : κ) (v : Value) :
    (Instr.mapUpdate t (.map (some r)) (enc k) v).run P w = .ok () (World.setObj w r (mapObj enc (alPut k v c l) (alClock k l c))) := by
  unfold mapObj at hb
  unfold Instr.mapUpdate
  simp only [Sem.run_bind, run_underlying ht, Result.andThen, run_getObj_map hb, K.check, K.find]
  have hf := alIdx_find k l 0
  cases hi : alIdx k l 0 with
  | none =>
    rw [hi] at hf
    simp only [run_setObj_map _ hb, alClock, ← hf, (alIdx_none k l 0 hi v c).1]
    simp [mapObj, toE]
  | some p =>
    obtain ⟨j, u⟩ := p
    rw [hi] at hf
    obtain ⟨m, b, h1, h2, h3⟩ := alIdx_some k l 0 j u hi
    obtain rfl : j = m := by omega
    have hm : ((l.map (toE enc)).toArray[j]?.map (·.key)).getD (enc k) = enc k := by
      simp [h2, toE]
    simp only [hm, Instr.keyThatStays, K.bits, if_true, Sem.run_bind, Sem.run_pure, Result.andThen, run_setObj_map _ hb, alClock, ← hf, (h3 v c).1]
    simp only [mapObj, Option.map_some, Option.isSome_some, if_true]
    congr 3
    apply Array.ext_getElem?
    intro i
    have hj : j < l.length := by
      rcases Nat.lt_or_ge j l.length with h | h
      · exact h
      · rw [List.getElem?_eq_none h] at h2; cases h2
    simp only [Array.getElem?_modify, List.getElem?_toArray, List.getElem?_map, List.getElem?_set]
    by_cases e : j = i
    · subst e; rw [if_pos rfl, if_pos hj, h2]; simp [toE]
    · simp [e]

theorem run_lookup_raw {P : Program} {w : World} {kt et t : TypeId} {enc : κ → Value} (K : KeyEnc P kt enc) (ht : P.underlying t = some (.map kt et)) {r : Nat} {l : AL κ} {c : Nat}
    (hb : w.heap[r]? = some (mapObj enc l c)) (k : κ) (z : Value) (hz : (zeroValue et).run P w = .ok z w) (ok : Bool) :
    (Instr.lookup t (.map (some r)) (enc k) ok).run P w = .ok (if ok then .tuple #[(alFind k l).getD z, .bool (alFind k l).isSome] else (alFind k l).getD z) w := by
  unfold mapObj at hb
  unfold Instr.lookup
  simp only [Sem.run_bind, run_underlying ht, Result.andThen, run_getObj_map hb, Sem.run_pure, K.check, K.find]
  have hf := alIdx_find k l 0
  cases hi : alIdx k l 0 with
  | none => rw [hi] at hf; simp [← hf, hz, Result.andThen]
  | some p => rw [hi] at hf; simp [← hf]

theorem eraseIdx_map' {α β : Type} (f : α → β) : ∀ (l : List α) (i : Nat), (l.map f).eraseIdx i = (l.eraseIdx i).map f
  | [], _ => by simp
  | _ :: _, 0 => rfl
  | x :: l, i + 1 => by simp [eraseIdx_map' f l i]
theorem run_delete_raw {P : Program} {w : World} {kt et t : TypeId} {enc : κ → Value} (K : KeyEnc P kt enc) (ht : P.underlying t = some (.map kt et)) {r : Nat} {l : AL κ} {c : Nat}
    (hb : w.heap[r]? = some (mapObj enc l c)) (k : κ) (ts : Array TypeId) (ty : TypeId) (h0 : ts[0]? = some t) :
    (Builtin.delete_ ts ty #[.map (some r), enc k]).run P w = .ok (.tuple #[]) (World.setObj w r (mapObj enc (alDel k l) c)) := by
  unfold mapObj at hb
  unfold Builtin.delete_
  simp only [h0, List.getElem?_toArray, List.getElem?_cons_zero, List.getElem?_cons_succ, Sem.run_bind, run_underlying ht, Result.andThen, run_getObj_map hb, K.check, K.find]
  cases hi : alIdx k l 0 with
  | none =>
    simp only [(alIdx_none k l 0 hi .nilFunc 0).2]
    rw [Sem.run_bind, run_setObj_map _ hb]
    rfl
  | some p =>
    obtain ⟨j, u⟩ := p
    obtain ⟨m, b, h1, h2, h3⟩ := alIdx_some k l 0 j u hi
    obtain rfl : j = m := by omega
    simp only [(h3 .nilFunc 0).2]
    rw [Sem.run_bind, run_setObj_map _ hb]
    simp only [mapObj, Result.andThen_ok, Sem.run_pure]
    congr 3
    have hj : j < l.length := by
      rcases Nat.lt_or_ge j l.length with h | h
      · exact h
      · rw [List.getElem?_eq_none h] at h2; cases h2
    simp [Array.eraseIdxIfInBounds, hj, eraseIdx_map']
end

theorem int_enc {P : Program} {kt : TypeId} {ik : IntKind} (h : P.underlying kt = some (.int ik)) : KeyEnc P kt (fun n : Int => Value.int ik n) where
  check em k w := by
    unfold Instr.checkKey
    simp [run_underlying h]
  find k l w := by
    unfold Instr.findKey
    have hn : ∀ (l : AL Int) (i : Nat), Instr.findNow (.int ik) (.int ik k) (l.map (toE fun n : Int => Value.int ik n)) i = some (alIdx k l i) := by
      intro l
      induction l with
      | nil => intro i; rfl
      | cons x l ih =>
        intro i
        simp only [List.map_cons, Instr.findNow, toE, Instr.sameNow, if_true, alIdx]
        by_cases e : k = x.1
        · simp [e]
        · have : (k == x.1) = false := by simpa using e
          simp only [this, if_neg e]
          exact ih (i + 1)
    simp only [Sem.run_bind, run_underlying h, Result.andThen, hn, Sem.run_pure]
  bits k := by simp [Instr.sameBits]

section
variable {P : Program} {ops : Array Oper} {rest : List Oper} {o : Oper} {a : Act} {w : World} {Q : Exit → Act → World → Prop} {κ : Type} [DecidableEq κ]

theorem wpList_value (hg : o.guard = none) {v : Value} {w' : World} (h : (execOp a.eval o).run P w = .ok (.value v) w') (hK : wpList P ops Q rest (a.put o.dst v) w') : wpList P ops Q (o :: rest) a w := by
  refine wpList_plain hg fun K hk => ?_
  unfold Oper.wp
  rw [h]
  exact hk _ _ hK
theorem wpList_skip (hg : o.guard = none) {w' : World} (h : (execOp a.eval o).run P w = .ok .skip w') (hK : wpList P ops Q rest (a.put o.dst undef) w') : wpList P ops Q (o :: rest) a w := by
  refine wpList_plain hg fun K hk => ?_
  unfold Oper.wp
  rw [h]
  exact hk _ _ hK

theorem wpList_mapUpdate_raw {kt et : TypeId} {enc : κ → Value} (K : KeyEnc P kt enc) (hg : o.guard = none) (m x v : Operand) (t : TypeId) (hop : o.op = .mapUpdate t m x v) (ht : P.underlying t = some (.map kt et)) (r : Nat) (k : κ) (u : Value) (l : AL κ) (c : Nat)
    (hm : a.eval m = .map (some r)) (hx : a.eval x = enc k) (hv : a.eval v = u) (hb : w.heap[r]? = some (mapObj enc l c))
    (hK : wpList P ops Q rest (a.put o.dst undef) (World.setObj w r (mapObj enc (alPut k u c l) (alClock k l c)))) : wpList P ops Q (o :: rest) a w := by
  refine wpList_skip hg ?_ hK
  simp [execOp, hop, hm, hx, hv, run_mapUpdate_raw K ht hb]

theorem wpList_insert_raw {kt et : TypeId} {enc : κ → Value} (K : KeyEnc P kt enc) (hg : o.guard = none) (m x v : Operand) (t : TypeId) (hop : o.op = .insert t m x v) (ht : P.underlying t = some (.map kt et)) (r : Nat) (k : κ) (u : Value) (l : AL κ) (c : Nat)
    (hm : a.eval m = .map (some r)) (hx : a.eval x = enc k) (hv : a.eval v = u) (hb : w.heap[r]? = some (mapObj enc l c))
    (hK : wpList P ops Q rest (a.put o.dst undef) (World.setObj w r (mapObj enc (alPut k u c l) (alClock k l c)))) : wpList P ops Q (o :: rest) a w := by
  refine wpList_skip hg ?_ hK
  simp [execOp, hop, hm, hx, hv, run_mapUpdate_raw K ht hb]

theorem wpList_lookup_raw {kt et : TypeId} {enc : κ → Value} (K : KeyEnc P kt enc) (hg : o.guard = none) (m x : Operand) (t : TypeId) (ok : Bool) (hop : o.op = .lookup t m x ok) (ht : P.underlying t = some (.map kt et)) (r : Nat) (k : κ) (l : AL κ) (c : Nat) (z : Value)
    (hz : (zeroValue et).run P w = .ok z w) (hm : a.eval m = .map (some r)) (hx : a.eval x = enc k) (hb : w.heap[r]? = some (mapObj enc l c))
    (hK : wpList P ops Q rest (a.put o.dst (if ok then .tuple #[(alFind k l).getD z, .bool (alFind k l).isSome] else (alFind k l).getD z)) w) : wpList P ops Q (o :: rest) a w := by
  refine wpList_value hg ?_ hK
  simp [execOp, hop, hm, hx, run_lookup_raw K ht hb k z hz ok]
end

end Go.Proofs.Ytmibmjehjagmbaa
