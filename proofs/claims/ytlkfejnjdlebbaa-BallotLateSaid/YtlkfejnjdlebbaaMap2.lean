/- Maps whose keys are arrays of two ints; a struct loaded from cells that are known one by one. No condition. -/
import Derived.Test.YtlkfejnjdlebbaaMap
import Derived.ChangeKeysEq
namespace Go.Proofs.Ytlkfejnjdlebbaa
open Go.RowKit

section
variable {P : Program} {κ : Type} [DecidableEq κ]

/-- A key type whose values are compared part by part. -/
theorem asking_enc {kt : TypeId} {enc : κ → Value} {d : TypeDesc} (hd : P.underlying kt = some d) (hn : ∀ a b, Instr.sameNow d a b = none)
    (check : ∀ (em : Bool) (k : κ) (w : World), (Instr.checkKey em 10000 kt (enc k)).run P w = .ok () w)
    (heq : ∀ (k k' : κ) (w : World), (Op.equal kt (enc k) (enc k')).run P w = .ok (decide (k = k')) w)
    (bits : ∀ k, Instr.sameBits 10000 (enc k) (enc k) = true) : KeyEnc P kt enc where
  check := check
  bits := bits
  find k l w := by
    have hask : ∀ (l : AL κ) (i : Nat), (Instr.findAsking kt (enc k) (l.map (toE enc)) i).run P w = .ok (alIdx k l i) w := by
      intro l
      induction l with
      | nil => intro i; simp [Instr.findAsking, alIdx]
      | cons x l ih =>
        intro i
        simp only [List.map_cons, Instr.findAsking, Sem.run_bind, toE, heq, Result.andThen_ok, alIdx]
        by_cases e : k = x.1
        · simp [e]
        · simp only [e, decide_false, Bool.false_eq_true, if_false]
          exact ih (i + 1)
    unfold Instr.findKey
    cases l with
    | nil => simp [run_underlying hd, Instr.findNow, alIdx]
    | cons x l =>
      have hf : Instr.findNow d (enc k) ((x :: l).map (toE enc)) 0 = none := by
        simp [Instr.findNow, hn]
      simp only [Sem.run_bind, run_underlying hd, Result.andThen_ok, hf]
      exact hask (x :: l) 0

def enc2 (p : Int × Int) : Value := .agg #[.int .i64 p.1, .int .i64 p.2]

theorem arr2_enc {kt e : TypeId} {i : TypeInfo} (ht : P.underlying kt = some (.array 2 e)) (he : P.underlying e = some (.int .i64)) (hi : P.info? e = some i) (hs : P.cellsOf e = 1) : KeyEnc P kt enc2 := by
  have hpart : ∀ (a b : Int) (w : World), (part e #[.int .i64 a, .int .i64 b] 0).run P w = .ok (.int .i64 a) w ∧ (part e #[.int .i64 a, .int .i64 b] 1).run P w = .ok (.int .i64 b) w := by
    intro a b w
    have hagg : (isAgg e).run P w = .ok false w := by
      unfold isAgg
      rw [Sem.run_bind, run_underlying he]
      rfl
    constructor <;> simp [part, hagg]
  have hck : ∀ (em : Bool) (n : Int) (m : Nat) (w : World), (Instr.checkKey em (m + 1) e (.int .i64 n)).run P w = .ok () w := by
    intro em n m w
    unfold Instr.checkKey
    simp [run_underlying he]
  have heq1 : ∀ (a b : Int) (m : Nat) (w : World), (Op.equalIn (m + 1) e (.int .i64 a) (.int .i64 b)).run P w = .ok (a == b) w := by
    intro a b m w
    simp [Op.equalIn, run_underlying he]
  refine asking_enc ht (fun a b => rfl) ?_ ?_ ?_
  · intro em k w
    obtain ⟨a, b⟩ := k
    unfold Instr.checkKey enc2
    simp only [Sem.run_bind, run_underlying ht, Result.andThen_ok]
    simp only [Std.Legacy.Range.forIn_eq_forIn_range', Std.Legacy.Range.size, Nat.sub_zero, Nat.add_one_sub_one, Nat.div_one]
    simp only [List.range', List.forIn_cons, List.forIn_nil, Sem.run_bind, run_sizeOf w hi, hs, Nat.zero_mul, Nat.one_mul, Nat.zero_add, (hpart _ _ _).1, (hpart _ _ _).2, hck em _ 9998 w, Result.andThen_ok, Sem.run_pure]
  · intro k k' w
    obtain ⟨a, b⟩ := k
    obtain ⟨c, d⟩ := k'
    unfold Op.equal enc2
    rw [show Op.maxDepth = 9998 + 1 + 1 from rfl, run_equalIn_array w _ _ _ ht hi, hs]
    simp only [List.range_succ, List.range_zero, List.nil_append, List.cons_append, Op.eqItems, Sem.run_bind, Nat.zero_mul, Nat.one_mul, (hpart _ _ _).1, Result.andThen_ok, heq1]
    by_cases h1 : a = c
    · by_cases h2 : b = d
      · simp [h1, h2, (hpart _ _ _).2, heq1]
      · simp [h1, h2, (hpart _ _ _).2, heq1]
    · simp [h1]
  · intro k
    simp [enc2, Instr.sameBits]
end

section
variable {P : Program} {ops : Array Oper} {rest : List Oper} {o : Oper} {a : Act} {w : World} {Q : Exit → Act → World → Prop}

/-- A struct or an array loaded from an address, its cells known one by one. -/
theorem run_loadVar_cells (ty : TypeId) (g i : Nat) (cs : Array Value) (d : TypeDesc) (hc : ∀ j, j < cs.size → w.cell? ⟨g, i + j, none⟩ = cs[j]?)
    (hu : P.underlying ty = some d) (hd : (match d with | .struct _ | .array _ _ => true | _ => false) = true) (hi : (P.info? ty).map (·.size) = some cs.size) :
    (loadVar ty ⟨g, i, none⟩).run P w = .ok (.agg cs) w := by
  have hl : (loadCells ⟨g, i, none⟩ cs.toList.length).run P w = .ok cs.toList.toArray w :=
    run_loadCells_list (P := P) w ⟨g, i, none⟩ cs.toList (fun j v hv => by
      have hadd : (⟨g, i, none⟩ : Addr).add j = ⟨g, i + j, none⟩ := by unfold Addr.add; split <;> simp_all
      have hj : j < cs.size := by
        rcases Nat.lt_or_ge j cs.toList.length with h | h
        · simpa using h
        · rw [List.getElem?_eq_none h] at hv; cases hv
      rw [hadd, hc j hj]
      simpa using hv)
  cases hq : P.info? ty with
  | none => simp [hq] at hi
  | some inf =>
    have hs : inf.size = cs.size := by simpa [hq] using hi
    have hagg : (isAgg ty).run P w = .ok true w := by
      unfold isAgg
      rw [Sem.run_bind, run_underlying hu w]
      cases d <;> simp_all
    simp only [Array.length_toList, Array.toArray_toList] at hl
    simp [loadVar, Sem.run_bind, hagg, sizeOf, typeInfo, hq, hs, hl]

theorem wpList_load_cells (hgd : o.guard = none) (ty : TypeId) (x : Operand) (ho : o.op = .load ty x) (g i : Nat) (hx : a.eval x = .pointer (some ⟨g, i, none⟩)) (cs : Array Value) (d : TypeDesc)
    (hc : ∀ j, j < cs.size → w.cell? ⟨g, i + j, none⟩ = cs[j]?)
    (hu : P.underlying ty = some d) (hd : (match d with | .struct _ | .array _ _ => true | _ => false) = true) (hi : (P.info? ty).map (·.size) = some cs.size)
    (h : wpList P ops Q rest (a.put o.dst (.agg cs)) w) : wpList P ops Q (o :: rest) a w := by
  refine wpList_value hgd ?_ h
  unfold execOp
  simp only [ho, hx, Instr.loadAt, Instr.sureAddr, Sem.run_bind, Sem.run_pure, Result.andThen_ok, run_loadVar_cells ty g i cs d hc hu hd hi]
end

end Go.Proofs.Ytlkfejnjdlebbaa
