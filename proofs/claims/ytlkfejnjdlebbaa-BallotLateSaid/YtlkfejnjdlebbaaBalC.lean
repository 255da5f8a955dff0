/- Contracts of a proposer's Value, take. No condition. -/
import Derived.Test.YtlkfejnjdlebbaaBalB
import Derived.StillTailTactics
namespace Go.Proofs.Ytlkfejnjdlebbaa
open Go.RowKit

theorem run_len_map {P : Program} {w : World} {k e t ty : TypeId} {κ : Type} {enc : κ → Value} {r : Nat} {l : AL κ} {c : Nat} (ht : P.underlying t = some (.map k e)) (hb : w.heap[r]? = some (mapObj enc l c)) :
    (Builtin.len_ #[t] ty #[.map (some r)]).run P w = .ok (.int .i64 (l.length : Int)) w := by
  unfold mapObj at hb
  simp [Builtin.len_, run_underlying ht, run_getObj_map hb, goInt]

theorem alPut_none {κ : Type} [DecidableEq κ] (k : κ) (v : Value) (c : Nat) (l : AL κ) (h : alFind k l = none) : alPut k v c l = l ++ [(k, v, c)] ∧ alClock k l c = c + 1 := by
  have hi : alIdx k l 0 = none := by
    have := alIdx_find k l 0
    rw [h] at this
    cases e : alIdx k l 0 with
    | none => rfl
    | some x => rw [e] at this; cases this
  exact ⟨(alIdx_none k l 0 hi v c).1, by unfold alClock; rw [h]; rfl⟩

theorem encL_length (M : List (Int × Ans × Nat)) : (encL M).length = M.length := by simp [encL]
theorem encL_append (M N : List (Int × Ans × Nat)) : encL (M ++ N) = encL M ++ encL N := by simp [encL]

set_option maxHeartbeats 1000000 in
theorem value_any (b : Nat) (p : PSt) (l : List UInt8) (w : World) (h : Cel w b p.cells 67) (hv : Own8 w p.val l) (hl : p.val.len ≤ 140737488355328) :
    Calls Try.prog 18 #[.pointer (some ⟨b, 0, none⟩)] w fun e w' => ∃ s' : Slc, e = .returned s'.val ∧ IsCopy w w' p.val s' l := by
  have h2 : w.cell? ⟨b, 3, none⟩ = some (.slice p.val.a p.val.len p.val.cap) := h.cell 3
  have HC := Lib.hid (clone8 p.val l w hv.rd hl)
  go_enter Try.func18, Try.ntmps18
  go_wp2_with fail
  refine HC.out.mono ?_
  rintro e w1 ⟨s', rfl, hc⟩
  go_wp2
  go_ret
  exact ⟨s', rfl, hc⟩

/-- What 'take' makes of a proposer, the acceptor not having answered. -/
def takeS (p : PSt) (n : Nat) (ok : Bool) : PSt × Bool :=
  if ok then ({ p with agreed := p.agreed + 1 }, decide (p.acc / 2 < p.agreed + 1))
  else if p.acc / 2 < p.acc - (n + 1 - p.agreed) then (p, false) else ({ p with phase := 4 }, false)

set_option maxHeartbeats 2000000 in
theorem take_any (b : Nat) (p : PSt) (M : List (Int × Ans × Nat)) (c : Nat) (f : Int) (a : Ans) (w : World) (h : PAt w b p M c) (hf : alFind f (encL M) = none)
    (ha : 0 ≤ p.acc) (ha' : p.acc ≤ 4294967296) (hg : 0 ≤ p.agreed) (hg' : p.agreed ≤ M.length) (hM : M.length ≤ 4294967296) :
    Calls Try.prog 23 #[.pointer (some ⟨b, 0, none⟩), .int .i64 f, .agg a.cells] w fun e w' => e = .returned (.bool (takeS p M.length a.ok).2) ∧
      PAt w' b (takeS p M.length a.ok).1 (M ++ [(f, { a with turn := (M.length : Int) }, c)]) (c + 1) ∧ Mod [b, p.mp] w w' := by
  have h5 : w.cell? ⟨b, 5, none⟩ = some (.map (some p.mp)) := h.cel.cell 5
  have h0 : w.cell? ⟨b, 0, none⟩ = some (.int .i64 p.acc) := h.cel.cell 0
  have h6 : w.cell? ⟨b, 6, none⟩ = some (.int .i64 p.agreed) := h.cel.cell 6
  have K : KeyEnc Try.prog 3 intE := int_enc Try.underlying3
  have hlen : ∀ o : Obj, (Builtin.len_ #[65] 3 #[.map (some p.mp)]).run Try.prog (w.alloc o) = .ok (.int .i64 (M.length : Int)) (w.alloc o) := fun o => by
    rw [← encL_length M]
    exact run_len_map (enc := intE) (c := c) Try.underlying65 (by rw [hp_alloc, if_neg (by have := lt_of_block h.map; omega)]; exact h.map)
  obtain ⟨n, hn⟩ : ∃ n : Int, n = (M.length : Int) := ⟨_, rfl⟩
  rw [← hn] at hlen
  have hn0 : 0 ≤ n := by omega
  have hn1 : n ≤ 4294967296 := by omega
  have hgn : p.agreed ≤ n := by omega
  have hbl := h.cel.lt
  have hml := lt_of_block h.map
  have HN := Lib.hid hn
  have hTT : ∃ R, R = takeS p M.length a.ok ∧ R = if a.ok then ({ p with agreed := p.agreed + 1 }, decide (p.acc / 2 < p.agreed + 1)) else if p.acc / 2 < p.acc - (n + 1 - p.agreed) then (p, false) else ({ p with phase := 4 }, false) := ⟨_, rfl, by unfold takeS; rw [hn]⟩
  obtain ⟨R, hR, hTT⟩ := hTT
  rw [← hR, ← hn]
  have HTT := Lib.hid hTT
  clear hR hTT
  clear hn hg' hM
  unfold Ans.cells
  go_enter Try.func23, Try.ntmps23
  go_wp2_with fail
  have hc1 := h.cel.alloc (.cells ({ a with turn := n } : Ans).cells 69)
  have hN := Cel.new w ({ a with turn := n } : Ans).cells 69
  have hm1 : (w.alloc (.cells ({ a with turn := n } : Ans).cells 69)).heap[p.mp]? = some (mapObj intE (encL M) c) := by rw [hp_alloc, if_neg (by omega)]; exact h.map
  have hM1 := (Mod.refl [b, p.mp] w).alloc (.cells ({ a with turn := n } : Ans).cells 69)
  have hz1 : w.heap.size < (w.alloc (.cells ({ a with turn := n } : Ans).cells 69)).heap.size := by simp
  have hmne := h.ne
  generalize w.alloc (.cells ({ a with turn := n } : Ans).cells 69) = W at *
  obtain ⟨N, hNN⟩ : ∃ N, N = w.heap.size := ⟨_, rfl⟩
  rw [← hNN] at hN hz1 hbl hml ⊢
  clear hNN h h5 h0 h6 hlen
  have h5 : W.cell? ⟨b, 5, none⟩ = some (.map (some p.mp)) := hc1.cell 5
  have h0 : W.cell? ⟨b, 0, none⟩ = some (.int .i64 p.acc) := hc1.cell 0
  have h6 : W.cell? ⟨b, 6, none⟩ = some (.int .i64 p.agreed) := hc1.cell 6
  have hNc : ∀ k, W.cell? ⟨N, k, none⟩ = (#[.int .i64 n, .bool a.ok, .int .i64 a.r, .int .i64 a.w, .slice a.val.a a.val.len a.val.cap] : Array Value)[k]? := hN.cell
  go_still_tail 6, (by kernel_rfl)
  change wpList _ _ _ _ _ W.drew
  refine wpList_mapUpdate_raw K rfl _ _ _ 65 rfl Try.underlying65 p.mp f (.agg ({ a with turn := n } : Ans).cells) (encL M) c rfl rfl rfl hm1 ?_
  obtain ⟨e1, e2⟩ := alPut_none f (.agg ({ a with turn := n } : Ans).cells) c (encL M) hf
  rw [e1, e2]
  clear e1 e2
  have hc2 := hc1.drew.setObj (r := p.mp) (Ne.symm hmne) (mapObj intE (encL M ++ [(f, .agg ({ a with turn := n } : Ans).cells, c)]) (c + 1))
  have hN2 := hN.drew.setObj (r := p.mp) (by omega) (mapObj intE (encL M ++ [(f, .agg ({ a with turn := n } : Ans).cells, c)]) (c + 1))
  have hm2 : (World.setObj W.drew p.mp (mapObj intE (encL M ++ [(f, .agg ({ a with turn := n } : Ans).cells, c)]) (c + 1))).heap[p.mp]? = some (mapObj intE (encL (M ++ [(f, { a with turn := n }, c)])) (c + 1)) := by
    rw [hp_setObj _ _ _ _ (by show p.mp < W.heap.size; omega), if_pos rfl, encL_append]; rfl
  have hM2 := hM1.drew.setObj (r := p.mp) (.inl (by simp)) (mapObj intE (encL M ++ [(f, .agg ({ a with turn := n } : Ans).cells, c)]) (c + 1))
  generalize World.setObj W.drew p.mp (mapObj intE (encL M ++ [(f, .agg ({ a with turn := n } : Ans).cells, c)]) (c + 1)) = W2 at *
  clear hc1 hN hm1 hM1 h5 h0 h6 hNc hf
  have h5 : W2.cell? ⟨b, 5, none⟩ = some (.map (some p.mp)) := hc2.cell 5
  have h0 : W2.cell? ⟨b, 0, none⟩ = some (.int .i64 p.acc) := hc2.cell 0
  have h6 : W2.cell? ⟨b, 6, none⟩ = some (.int .i64 p.agreed) := hc2.cell 6
  have h4 : W2.cell? ⟨b, 4, none⟩ = some (.int .i64 p.phase) := hc2.cell 4
  have f6 := hc2.frozen 6
  have f4 := hc2.frozen 4
  have hok : W2.cell? ⟨N, 1, none⟩ = some (.bool a.ok) := hN2.cell 1
  have HC2 := Lib.hid hc2
  have HM2 := Lib.hid hm2
  have HMM := Lib.hid hM2
  have hTT := HTT.out
  clear hc2 hM2 hN2 HTT
  cases hb : a.ok with
  | true =>
    rw [hb] at hok hTT
    rw [if_pos rfl] at hTT
    have HTT := Lib.hid hTT
    have hc3 : Cel (W2.setCell ⟨b, 6, none⟩ (.int .i64 (p.agreed + 1))) b ({ p with agreed := p.agreed + 1 } : PSt).cells 67 := HC2.out.set 6 _
    have HC3 := Lib.hid hc3
    clear hTT hb hc3 hm2
    go_wp2_with (first
      | (go_at_call 29; refine (most_any b _ _ _ HC3.out ha ha').mono ?_; rintro e w' ⟨rfl, rfl⟩)
      | fail)
    go_ret
    rw [HTT.out]
    refine ⟨rfl, ⟨HC3.out, ?_⟩, HMM.out.setCell (.inl (by simp)) _⟩
    rw [hp_setCell, if_neg hmne]
    exact HM2.out
  | false =>
    rw [hb] at hok hTT
    rw [if_neg (by simp)] at hTT
    have HTT := Lib.hid hTT
    have hlen2 : ∀ k, (Builtin.len_ #[65] 3 #[.map (some p.mp)]).run Try.prog (W2.drewN k) = .ok (.int .i64 (n + 1)) (W2.drewN k) := fun k => by
      have h1 := run_len_map (P := Try.prog) (w := W2.drewN k) (enc := intE) (ty := 3) Try.underlying65 hm2
      rw [h1, encL_length, List.length_append, HN.out]
      rfl
    clear hTT hb hm2
    go_wp2_with fail
    go_quiet (fail)
    have hcd := HC2.out.drewN nq
    have HCD := Lib.hid hcd
    clear hcd
    by_cases hq : p.acc / 2 < p.acc - (n + 1 - p.agreed)
    · have hd : decide (p.acc / 2 < p.acc - (n + 1 - p.agreed)) = true := decide_eq_true hq
      have HQ := Lib.hid hq
      clear hq
      go_wp2_with (first
        | (go_at_call 29; refine (most_any b _ _ _ HCD.out ha ha').mono ?_; rintro e w' ⟨rfl, rfl⟩)
        | fail)
      go_ret
      rw [HTT.out, if_pos HQ.out]
      exact ⟨rfl, ⟨HCD.out, HM2.out⟩, HMM.out.drewN _⟩
    · have hd : decide (p.acc / 2 < p.acc - (n + 1 - p.agreed)) = false := decide_eq_false hq
      have HQ := Lib.hid hq
      clear hq
      go_wp2_with (first
        | (go_at_call 29; refine (most_any b _ _ _ HCD.out ha ha').mono ?_; rintro e w' ⟨rfl, rfl⟩)
        | fail)
      go_ret
      rw [HTT.out, if_neg (by have := HQ.out; omega)]
      refine ⟨rfl, ⟨(HC2.out.set 4 (.int .i64 4)).drewN _, ?_⟩, (HMM.out.setCell (.inl (by simp)) _).drewN _⟩
      rw [hp_setCell, if_neg hmne]
      exact HM2.out

end Go.Proofs.Ytlkfejnjdlebbaa
