/- The walk of TokensOnce: it answers true, and turns nothing that was there. No condition. -/
import Derived.Test.YtlkfejnjdlebbaaTokE
namespace Go.Proofs.Ytlkfejnjdlebbaa
open Go.RowKit

/-- The sequencer's last addresses, and the law's own map of them, are one. -/
def LastIs (L : List Int) (l : AL Int) : Prop := L.length = 8 ∧ ∀ j : Nat, j < 8 → alFind (j : Int) l = if L.getD j 0 = -1 then none else some (.int .i64 (L.getD j 0))

theorem LastIs.start : LastIs (List.replicate 8 (-1)) [] := by
  refine ⟨rfl, fun j hj => ?_⟩
  have : (List.replicate 8 (-1 : Int)).getD j 0 = -1 := by
    rw [List.getD_eq_getElem?_getD, List.getElem?_replicate, if_pos hj]; rfl
  rw [this]; rfl
theorem LastIs.put {L : List Int} {l : AL Int} (h : LastIs L l) (n : Int) (a : Int) (ha : 0 ≤ a) (c : Nat) : LastIs (L.set (n % 8).toNat a) (alPut (n % 8) (.int .i64 a) c l) := by
  refine ⟨by rw [List.length_set, h.1], fun j hj => ?_⟩
  have hb : 0 ≤ n % 8 ∧ n % 8 < 8 := ⟨Int.emod_nonneg _ (by decide), Int.emod_lt_of_pos _ (by decide)⟩
  have hg : (L.set (n % 8).toNat a).getD j 0 = if (n % 8).toNat = j then a else L.getD j 0 := by
    rw [List.getD_eq_getElem?_getD, List.getElem?_set, h.1]
    by_cases e : (n % 8).toNat = j
    · rw [if_pos e, if_pos e, if_pos (by omega)]; rfl
    · rw [if_neg e, if_neg e]; rfl
  rw [alFind_put, hg]
  by_cases e : (n % 8).toNat = j
  · have e' : (j : Int) = n % 8 := by omega
    rw [if_pos e, if_pos e', if_neg (by omega)]
  · have e' : ¬ (j : Int) = n % 8 := by omega
    rw [if_neg e, if_neg e']
    exact h.2 j hj
theorem LastIs.get {L : List Int} {l : AL Int} (h : LastIs L l) (n : Int) : alFind (n % 8) l = if L.getD (n % 8).toNat 0 = -1 then none else some (.int .i64 (L.getD (n % 8).toNat 0)) := by
  have hb : 0 ≤ n % 8 ∧ n % 8 < 8 := ⟨Int.emod_nonneg _ (by decide), Int.emod_lt_of_pos _ (by decide)⟩
  have := h.2 (n % 8).toNat (by omega)
  rw [show (((n % 8).toNat : Nat) : Int) = n % 8 by omega] at this
  exact this

theorem ansStart (ep a : Int) (h0 : 0 ≤ ep) (h1 : 0 ≤ a) (h2 : a ≤ 2147483648) :
    answerS (-1) 0 (List.replicate 8 (-1)) (msgStart ep a) = ((⟨0, 0, 0, true, 9, ep, a, 0, ⟨none, 0, 0⟩, 0, 0, ⟨none, 0, 0⟩, 0, a, 0, ep⟩, true), ep, a, List.replicate 8 (-1)) := by
  have e : startS (-1) 0 (List.replicate 8 (-1)) ep a = (0, ep, a, List.replicate 8 (-1)) := by
    unfold startS
    rw [if_neg (by omega), if_neg (by omega), if_pos (by omega)]
  unfold answerS
  rw [if_neg (by simp [msgStart, Msg.none]), if_pos (show (msgStart ep a).kind = 9 from rfl)]
  simp only [msgStart, Msg.none, e]
  rfl
theorem ansTok (ep a s : Int) (L : List Int) (h0 : 0 ≤ ep) (h2 : a ≤ 4294967296) (hs : 0 ≤ s) (hs' : s < 8) :
    answerS ep a L (msgTok ep s) = ((⟨0, 0, 0, true, 8, ep, s, 0, ⟨none, 0, 0⟩, 0, 0, ⟨none, 0, 0⟩, 0, a, 0, L.getD s.toNat 0⟩, true), ep, a + 1, L.set s.toNat a) := by
  have e : tokenS ep a L ep s = ((a, L.getD s.toNat 0, 0), a + 1, L.set s.toNat a) := by
    unfold tokenS
    rw [if_neg (by omega), if_neg (by omega), if_neg (by omega)]
  unfold answerS
  rw [if_neg (by simp [msgTok, Msg.none]), if_neg (by simp [msgTok])]
  simp only [msgTok, Msg.none, e]
  rfl

set_option maxRecDepth 100000 in
set_option maxHeartbeats 4000000 in
theorem once_true (ep a : Int) (b : Option Addr) (len cap : Nat) (z : List Int) (w : World) (h0 : 0 ≤ ep) (h1 : 0 ≤ a) (h2 : a ≤ 2147483648) (h3 : len ≤ 200)
    (hz : len ≤ z.length) (hb : ∀ i, i < len → ∃ x, b = some x ∧ w.cell? ⟨x.block, x.off + i, none⟩ = some (.int .i64 (z.getD i 0)) ∧ x.block < w.heap.size ∧ x.spot = none) :
    Calls Try.prog 3 #[.int .i64 ep, .int .i64 a, .slice b len cap] w fun e w' => e = .returned (.bool true) ∧ Mod [] w w' := by
  have d1 : ((len : Int) > 200) = False := by simp; omega
  go_enter Try.func3, Try.ntmps3
  go_wp2_with fail
  refine (speaks_any _).mono ?_
  rintro e w0 ⟨rfl, hm0⟩
  go_wp2_with fail
  refine (new_any _).mono ?_
  rintro e w1 ⟨rfl, hc1, hm1⟩
  have hM1 : Mod [] w w1 := hm0.trans hm1
  have hs0 := hm0.size
  obtain ⟨s, hs⟩ : ∃ s, s = w0.heap.size := ⟨_, rfl⟩
  rw [← hs] at hc1 hs0 ⊢
  clear hs
  go_wp2_with fail
  have hA := answer_any s (msgStart ep a) (-1) 0 (List.replicate 8 (-1)) rfl (by decide) w1 hc1
  rw [ansStart ep a h0 h1 h2] at hA
  refine hA.mono ?_
  rintro e w2 ⟨rfl, hc2, hm2⟩
  clear hA
  have hM2 : Mod [] w w2 := hM1.then hm2 (by simp; omega)
  clear hM1 hm2 hm1 hc1 hm0
  have hmm := @run_makeMap Try.prog
  go_wp2_with fail
  have hc3 := (hc2.alloc (.cells (⟨0, 0, 0, true, 9, ep, a, 0, ⟨none, 0, 0⟩, 0, 0, ⟨none, 0, 0⟩, 0, a, 0, ep⟩ : Msg).cells 33)).alloc (.map #[] 0)
  have hM3 := (hM2.alloc (.cells (⟨0, 0, 0, true, 9, ep, a, 0, ⟨none, 0, 0⟩, 0, 0, ⟨none, 0, 0⟩, 0, a, 0, ep⟩ : Msg).cells 33)).alloc (.map #[] 0)
  have hmap : ((w2.alloc (.cells (⟨0, 0, 0, true, 9, ep, a, 0, ⟨none, 0, 0⟩, 0, 0, ⟨none, 0, 0⟩, 0, a, 0, ep⟩ : Msg).cells 33)).alloc (.map #[] 0)).heap[w2.heap.size + 1]? = some (mapObj (fun n : Int => Value.int .i64 n) [] 0) := by
    rw [hp_alloc, if_pos (by simp)]; rfl
  have hsm : s < w2.heap.size := hc2.lt
  have hw2 := hM2.size
  obtain ⟨M, hM⟩ : ∃ M, M = w2.heap.size + 1 := ⟨_, rfl⟩
  rw [← hM] at hmap ⊢
  have hM' : w.heap.size < M ∧ s < M := by omega
  clear hM
  unfold Msg.cells at hc3 hM3 hmap
  go_loopw [53] (fun i wr => ∃ k : Nat, ∃ L : List Int, ∃ l : AL Int, ∃ c : Nat, k ≤ len ∧ i = .int .i64 k ∧ LastIs L l ∧ Cel wr s (Seqc ep (a + k) L) 58 ∧ wr.heap[M]? = some (mapObj (fun n : Int => Value.int .i64 n) l c) ∧ Mod [] w wr)
    (fun i _ => len - (intOf i).toNat)
  case atStart => exact ⟨0, _, _, _, Nat.zero_le _, rfl, LastIs.start, by simpa using hc3, hmap, hM3⟩
  case round =>
    obtain ⟨k, L, l, c, hk, rfl, hL, hcr, hmr, hMr⟩ := hrel
    clear hmap hc3 hM3 hc2 hM2
    by_cases hlt : k < len
    · obtain ⟨x, rfl, hx, hxw, hxs⟩ := hb k hlt
      obtain ⟨xb, xo, xs⟩ := x
      simp only at hx hxw hxs
      subst hxs
      have hx' : wr.cell? ⟨xb, xo + k, none⟩ = some (.int .i64 (z.getD k 0)) := (hMr.cell (a := ⟨xb, xo + k, none⟩) hxw (by simp)).trans hx
      generalize z.getD k 0 = n at hx'
      have h7 := and7 n
      have HB := Lib.hid hb
      clear hb hx
      go_wp2_with fail
      have hb8 : 0 ≤ n % 8 ∧ n % 8 < 8 := ⟨Int.emod_nonneg _ (by decide), Int.emod_lt_of_pos _ (by decide)⟩
      have hA := answer_any s (msgTok ep (n % 8)) ep (a + k) L hL.1 (by omega) wr hcr
      rw [ansTok ep (a + k) (n % 8) L h0 (by omega) hb8.1 hb8.2] at hA
      refine hA.mono ?_
      rintro e w4 ⟨rfl, hc4, hm4⟩
      clear hA
      have hML : M < wr.heap.size := lt_of_block hmr
      have hmr4 : w4.heap[M]? = some (mapObj (fun n : Int => Value.int .i64 n) l c) := (hm4.block M hML (by simp; omega)).trans hmr
      have hM4 : Mod [] w w4 := hMr.then hm4 (by simp; omega)
      have hML4 : M < w4.heap.size := lt_of_block hmr4
      have hget := hL.get n
      have hput := hL.put n (a + k) (by omega) c
      have HPUT := Lib.hid hput
      clear hL hput hcr hmr hMr hm4 hML
      obtain ⟨y, hy⟩ : ∃ y, y = L.getD (n % 8).toNat 0 := ⟨_, rfl⟩
      rw [← hy] at hget ⊢
      have HY := Lib.hid hy
      clear hy
      have K : KeyEnc Try.prog 3 (fun n : Int => Value.int .i64 n) := int_enc Try.underlying3
      have hz : (zeroValue 3).run Try.prog (w4.alloc (.cells (⟨0, 0, 0, true, 8, ep, n % 8, 0, ⟨none, 0, 0⟩, 0, 0, ⟨none, 0, 0⟩, 0, a + k, 0, y⟩ : Msg).cells 33)) = .ok (.int .i64 0) (w4.alloc (.cells (⟨0, 0, 0, true, 8, ep, n % 8, 0, ⟨none, 0, 0⟩, 0, 0, ⟨none, 0, 0⟩, 0, a + k, 0, y⟩ : Msg).cells 33)) := by kernel_rfl
      have hmr5 : (w4.alloc (.cells (⟨0, 0, 0, true, 8, ep, n % 8, 0, ⟨none, 0, 0⟩, 0, 0, ⟨none, 0, 0⟩, 0, a + k, 0, y⟩ : Msg).cells 33)).heap[M]? = some (mapObj (fun n : Int => Value.int .i64 n) l c) := by rw [hp_alloc, if_neg (by omega)]; exact hmr4
      have HZ := Lib.hid hz
      have HMR5 := Lib.hid hmr5
      clear hz hmr5
      obtain ⟨D, hD⟩ : ∃ D, D = (alFind (n % 8) l).getD (.int .i64 0) := ⟨_, rfl⟩
      obtain ⟨ok, hok⟩ : ∃ ok, ok = (alFind (n % 8) l).isSome := ⟨_, rfl⟩
      have hend : ∀ y' : Int, Cel (World.setObj (w4.alloc (.cells (⟨0, 0, 0, true, 8, ep, n % 8, 0, ⟨none, 0, 0⟩, 0, 0, ⟨none, 0, 0⟩, 0, a + k, 0, y'⟩ : Msg).cells 33)) M (mapObj (fun n : Int => Value.int .i64 n) (alPut (n % 8) (.int .i64 (a + k)) c l) (alClock (n % 8) l c))) s (Seqc ep (a + ((k + 1 : Nat) : Int)) (L.set (n % 8).toNat (a + k))) 58 ∧
          (World.setObj (w4.alloc (.cells (⟨0, 0, 0, true, 8, ep, n % 8, 0, ⟨none, 0, 0⟩, 0, 0, ⟨none, 0, 0⟩, 0, a + k, 0, y'⟩ : Msg).cells 33)) M (mapObj (fun n : Int => Value.int .i64 n) (alPut (n % 8) (.int .i64 (a + k)) c l) (alClock (n % 8) l c))).heap[M]? = some (mapObj (fun n : Int => Value.int .i64 n) (alPut (n % 8) (.int .i64 (a + k)) c l) (alClock (n % 8) l c)) ∧
          Mod [] w (World.setObj (w4.alloc (.cells (⟨0, 0, 0, true, 8, ep, n % 8, 0, ⟨none, 0, 0⟩, 0, 0, ⟨none, 0, 0⟩, 0, a + k, 0, y'⟩ : Msg).cells 33)) M (mapObj (fun n : Int => Value.int .i64 n) (alPut (n % 8) (.int .i64 (a + k)) c l) (alClock (n % 8) l c))) := by
        intro y'
        refine ⟨?_, ?_, (hM4.alloc _).setObj (.inr (by omega)) _⟩
        · have := (hc4.alloc (.cells (⟨0, 0, 0, true, 8, ep, n % 8, 0, ⟨none, 0, 0⟩, 0, 0, ⟨none, 0, 0⟩, 0, a + k, 0, y'⟩ : Msg).cells 33)).setObj (r := M) (by omega) (mapObj (fun n : Int => Value.int .i64 n) (alPut (n % 8) (.int .i64 (a + k)) c l) (alClock (n % 8) l c))
          rw [show a + ((k + 1 : Nat) : Int) = a + (k : Int) + 1 by omega]
          exact this
        · rw [hp_setObj _ _ _ _ (by simp; omega), if_pos rfl]
      have HEND := Lib.hid hend
      clear hend
      by_cases hc : y = -1
      · rw [if_pos hc] at hget
        rw [hget] at hD hok
        simp only [Option.getD_none, Option.isSome_none] at hD hok
        subst hD hok hc
        have HG := Lib.hid hget
        clear hget
        go_wp2_with (first
          | (refine wpList_lookup_raw K rfl _ _ 36 true rfl Try.underlying36 M (n % 8) l c (.int .i64 0) HZ.out rfl rfl HMR5.out ?_; rw [HG.out]; simp only [if_true, Option.getD_none, Option.isSome_none])
          | (refine wpList_mapUpdate_raw K rfl _ _ _ 36 rfl Try.underlying36 M (n % 8) _ l c rfl rfl rfl HMR5.out ?_)
          | fail)
        go_roundw
        case rel => exact ⟨k + 1, _, _, alClock (n % 8) l c, by omega, by go_num, HPUT.out, (HEND.out _).1, (HEND.out _).2.1, (HEND.out _).2.2⟩
        case measure => simp [intOf]; omega
      · rw [if_neg hc] at hget
        rw [hget] at hD hok
        simp only [Option.getD_some, Option.isSome_some] at hD hok
        subst hD hok
        have HG := Lib.hid hget
        clear hget hc
        go_wp2_with (first
          | (refine wpList_lookup_raw K rfl _ _ 36 true rfl Try.underlying36 M (n % 8) l c (.int .i64 0) HZ.out rfl rfl HMR5.out ?_; rw [HG.out]; simp only [if_true, Option.getD_some, Option.isSome_some])
          | (refine wpList_mapUpdate_raw K rfl _ _ _ 36 rfl Try.underlying36 M (n % 8) _ l c rfl rfl rfl HMR5.out ?_)
          | fail)
        go_roundw
        case rel => exact ⟨k + 1, _, _, alClock (n % 8) l c, by omega, by go_num, HPUT.out, (HEND.out _).1, (HEND.out _).2.1, (HEND.out _).2.2⟩
        case measure => simp [intOf]; omega
    · obtain rfl : k = len := by omega
      have HB := Lib.hid hb
      clear hb
      go_wp2_with (first
        | (go_at_call 10; refine (next_any s _ _ _ _ hcr).mono ?_; rintro e w' ⟨rfl, rfl⟩)
        | (go_at_call 11; refine (epoch_any s _ _ _ _ hcr).mono ?_; rintro e w' ⟨rfl, rfl⟩)
        | fail)
      go_ret
      exact ⟨rfl, hMr⟩
end Go.Proofs.Ytlkfejnjdlebbaa
