/- The walk of TokensStale: it answers true, and turns nothing that was there. No condition. -/
import Derived.Test.YtlkfejnjdlebbaaTokE
import Derived.Test.YtlkfejnjdlebbaaMap2
import Derived.Test.YtlkfejnjdlebbaaTokStaleLaw
namespace Go.Proofs.Ytlkfejnjdlebbaa
open Go.RowKit

/-- A list of messages that came in: element i's cells. -/
def MsgsAt (w : World) (b : Option Addr) (len : Nat) (ms : Nat → Msg) : Prop :=
  ∀ i, i < len → ∃ x, b = some x ∧ x.spot = none ∧ x.block < w.heap.size ∧ ∀ j, j < 16 → w.cell? ⟨x.block, x.off + i * 16 + j, none⟩ = (ms i).cells[j]?

set_option maxRecDepth 100000 in
set_option maxHeartbeats 4000000 in
theorem stale_true (b : Option Addr) (len cap : Nat) (ms : Nat → Msg) (w : World) (h3 : len ≤ 100) (hb : MsgsAt w b len ms) :
    Calls Try.prog 4 #[.slice b len cap] w fun e w' => e = .returned (.bool true) ∧ Mod [] w w' := by
  have d1 : ((len : Int) > 100) = False := by simp; omega
  have hmm := @run_makeMap Try.prog
  go_enter Try.func4, Try.ntmps4
  go_wp2_with fail
  refine (speaks_any _).mono ?_
  rintro e w0 ⟨rfl, hm0⟩
  go_wp2_with fail
  refine (new_any _).mono ?_
  rintro e w1 ⟨rfl, hc1, hm1⟩
  have hM1 : Mod [] w w1 := hm0.trans hm1
  have hs0 := hm0.size
  obtain ⟨s, hs⟩ : ∃ s, s = w0.heap.size := ⟨_, rfl⟩
  rw [← hs] at hc1 hs0 ⊢
  clear hs
  go_wp2_with fail
  have hc3 := hc1.alloc (.map #[] 0)
  have hM3 := hM1.alloc (.map #[] 0)
  have hmap : (w1.alloc (.map #[] 0)).heap[w1.heap.size]? = some (mapObj enc2 [] 0) := by
    rw [hp_alloc, if_pos rfl]; rfl
  have hsm : s < w1.heap.size := hc1.lt
  have hw2 := hM1.size
  obtain ⟨M, hM⟩ : ∃ M, M = w1.heap.size := ⟨_, rfl⟩
  rw [← hM] at hmap hsm hw2 ⊢
  clear hM
  go_loopw [20] (fun i wr => ∃ k : Nat, ∃ e n : Int, ∃ L : List Int, ∃ l : AL (Int × Int), ∃ c : Nat, k ≤ len ∧ i = .int .i64 k ∧ SeqOk e n L ∧ GivenOk e n l ∧ Cel wr s (Seqc e n L) 58 ∧ wr.heap[M]? = some (mapObj enc2 l c) ∧ Mod [] w wr)
    (fun i _ => len - (intOf i).toNat)
  case atStart => exact ⟨0, _, _, _, _, _, Nat.zero_le _, rfl, SeqOk.start, GivenOk.start _ _, hc3, hmap, hM3⟩
  case round =>
    obtain ⟨k, e, n, L, l, c, hk, rfl, hL, hG, hcr, hmr, hMr⟩ := hrel
    clear hmap hc3 hM3
    by_cases hlt : k < len
    · obtain ⟨x, rfl, hxs, hxw, hx⟩ := hb k hlt
      obtain ⟨xb, xo, xs⟩ := x
      simp only at hx hxw hxs
      subst hxs
      have hx' : ∀ j, j < (ms k).cells.size → wr.cell? ⟨xb, xo + k * 16 + j, none⟩ = (ms k).cells[j]? := fun j hj => (hMr.cell (a := ⟨xb, xo + k * 16 + j, none⟩) hxw (by simp)).trans (hx j hj)
      generalize ms k = m at hx'
      have HB := Lib.hid hb
      have HX := Lib.hid hx'
      clear hb hx hx'
      obtain ⟨mc, hmc⟩ : ∃ mc, mc = m.cells := ⟨_, rfl⟩
      have HMC := Lib.hid hmc
      have hms : (Try.prog.info? 33).map (·.size) = some mc.size := by rw [hmc]; kernel_rfl
      have hmo : mc.toList.all Value.oneCell' = true := by rw [hmc]; rfl
      have hmz : mc.size = 16 := by rw [hmc]; rfl
      rw [← hmc] at HX
      have h8 : mc[8]? = some (.slice m.data.a m.data.len m.data.cap) := by rw [hmc]; rfl
      have h11 : mc[11]? = some (.slice m.val.a m.val.len m.val.cap) := by rw [hmc]; rfl
      have h4 : mc[4]? = some (.int .i64 m.kind) := by rw [hmc]; rfl
      have HMS := Lib.hid hms
      have HMO := Lib.hid hmo
      have HMZ := Lib.hid hmz
      clear hmc hms hmo hmz
      by_cases c1 : (1000 : Int) < (m.data.len : Int)
      · go_wp2_with (first
          | (refine wpList_load_cells rfl 33 _ rfl xb (xo + k * 16) rfl mc _ HX.out Try.underlying33 rfl HMS.out ?_)
          | (refine wpList_store_row rfl 33 _ _ rfl _ rfl mc rfl 33 _ (Cel.new _ _ _) HMS.out HMZ.out HMO.out ?_; rw [setRow_alloc _ _ _ _ _ rfl])
          | fail)
        go_ret
        exact ⟨rfl, hMr.alloc _⟩
      have c1' : (m.data.len : Int) ≤ 1000 := by omega
      clear c1
      by_cases c2 : (1500 : Int) < (m.val.len : Int)
      · go_wp2_with (first
          | (refine wpList_load_cells rfl 33 _ rfl xb (xo + k * 16) rfl mc _ HX.out Try.underlying33 rfl HMS.out ?_)
          | (refine wpList_store_row rfl 33 _ _ rfl _ rfl mc rfl 33 _ (Cel.new _ _ _) HMS.out HMZ.out HMO.out ?_; rw [setRow_alloc _ _ _ _ _ rfl])
          | fail)
        go_ret
        exact ⟨rfl, hMr.alloc _⟩
      have c2' : (m.val.len : Int) ≤ 1500 := by omega
      clear c2
      go_wp2_with (first
        | (refine wpList_load_cells rfl 33 _ rfl xb (xo + k * 16) rfl mc _ HX.out Try.underlying33 rfl HMS.out ?_)
        | (refine wpList_store_row rfl 33 _ _ rfl _ rfl mc rfl 33 _ (Cel.new _ _ _) HMS.out HMZ.out HMO.out ?_; rw [setRow_alloc _ _ _ _ _ rfl])
        | (go_at_call 11; refine (epoch_any s _ _ _ _ (hcr.alloc _)).mono ?_; rintro e w' ⟨rfl, rfl⟩)
        | (go_at_call 10; refine (next_any s _ _ _ _ (hcr.alloc _)).mono ?_; rintro e w' ⟨rfl, rfl⟩)
        | (refine wpList_load_row rfl 33 _ rfl _ rfl 33 mc (0, 0) _ (Cel.new _ mc 33) Try.underlying33 rfl HMS.out ?_)
        | fail)
      have hA := answer_any s m e n L hL.len hL.low _ (hcr.alloc (.cells mc 33))
      obtain ⟨hL', hways⟩ := answerS_ok hL m
      generalize answerS e n L m = R at hA hL' hways
      obtain ⟨⟨om, ok⟩, e', n', L'⟩ := R
      simp only at hA hL' hways
      rw [← HMC.out] at hA
      refine hA.mono ?_
      rintro e5 w4 ⟨rfl, hc4, hm4⟩
      clear hA
      have hML : M < wr.heap.size := lt_of_block hmr
      have hmr4 : w4.heap[M]? = some (mapObj enc2 l c) := (hm4.block M (by simp; omega) (by simp; omega)).trans (by rw [hp_alloc, if_neg (by omega)]; exact hmr)
      have hM4 : Mod [] w w4 := (hMr.alloc _).then hm4 (by simp; omega)
      have hML4 : M < w4.heap.size := lt_of_block hmr4
      have hz4 : wr.heap.size < w4.heap.size := by have := hm4.size; simp at this; omega
      have hbm : Cel w4 wr.heap.size mc 33 := (Cel.new wr mc 33).mod hm4 (by have := hcr.lt; simp; omega)
      have ck : w4.cell? ⟨wr.heap.size, 4, none⟩ = some (.int .i64 m.kind) := (hbm.cell 4).trans h4
      obtain ⟨oc, hoc⟩ : ∃ oc, oc = om.cells := ⟨_, rfl⟩
      have hos : (Try.prog.info? 33).map (·.size) = some oc.size := by rw [hoc]; kernel_rfl
      have hoo : oc.toList.all Value.oneCell' = true := by rw [hoc]; rfl
      have hoz : oc.size = 16 := by rw [hoc]; rfl
      have o12 : oc[12]? = some (.int .i64 om.err) := by rw [hoc]; rfl
      have o13 : oc[13]? = some (.int .i64 om.tail) := by rw [hoc]; rfl
      have o15 : oc[15]? = some (.int .i64 om.back) := by rw [hoc]; rfl
      rw [← hoc]
      have HOS := Lib.hid hos
      have HOO := Lib.hid hoo
      have HOZ := Lib.hid hoz
      have HC4 := Lib.hid (hc4.alloc (.cells oc 33))
      have HC5 := Lib.hid hc4
      have HM4 := Lib.hid hM4
      have HMR4 := Lib.hid hmr4
      clear hoc hos hoo hoz hc4 hM4 hmr4 hm4 hbm hcr hmr hMr h8 h11 h4 HMS HMO HMZ HX
      generalize om.err = oe at o12 hways
      generalize om.tail = ot at o13 hways
      generalize om.back = ob at o15 hways
      have HG := Lib.hid hG
      clear hG hL
      rcases hways with ⟨rfl, rfl, rfl⟩ | ⟨rfl, he0, rfl, rfl⟩ | ⟨rfl, rfl, hk8, hup⟩ | ⟨rfl, rfl, hk8, rfl, rfl, rfl, hback⟩
      · go_wp2_with (first
          | (refine wpList_store_row rfl 33 _ _ rfl _ rfl oc rfl 33 _ (Cel.new _ _ _) HOS.out HOZ.out HOO.out ?_; rw [setRow_alloc _ _ _ _ _ rfl])
          | (go_at_call 11; refine (epoch_any s _ _ _ _ HC4.out).mono ?_; rintro e w' ⟨rfl, rfl⟩)
          | (go_at_call 10; refine (next_any s _ _ _ _ HC4.out).mono ?_; rintro e w' ⟨rfl, rfl⟩)
          | fail)
        go_roundw
        case rel => exact ⟨k + 1, _, _, _, _, _, by omega, by go_num, hL', HG.out, HC4.out, (by rw [hp_alloc, if_neg (by omega)]; exact HMR4.out), HM4.out.alloc _⟩
        case measure => simp [intOf]; omega
      · have b1 : (oe == 0) = false := by simpa using he0
        have b2 : (oe != 0) = true := by simpa using he0
        clear he0
        go_wp2_with (first
          | (refine wpList_store_row rfl 33 _ _ rfl _ rfl oc rfl 33 _ (Cel.new _ _ _) HOS.out HOZ.out HOO.out ?_; rw [setRow_alloc _ _ _ _ _ rfl])
          | (go_at_call 11; refine (epoch_any s _ _ _ _ HC4.out).mono ?_; rintro e w' ⟨rfl, rfl⟩)
          | (go_at_call 10; refine (next_any s _ _ _ _ HC4.out).mono ?_; rintro e w' ⟨rfl, rfl⟩)
          | fail)
        go_roundw
        case rel => exact ⟨k + 1, _, _, _, _, _, by omega, by go_num, hL', HG.out, HC4.out, (by rw [hp_alloc, if_neg (by omega)]; exact HMR4.out), HM4.out.alloc _⟩
        case measure => simp [intOf]; omega
      · have b1 : (m.kind == 8) = false := by simpa using hk8
        have HUP := Lib.hid hup
        rcases hup with hlt' | ⟨rfl, hle⟩
        · have b2 : (e' == e) = false := by rw [beq_eq_false_iff_ne]; omega
          have b3 : e ≤ e' := by omega
          clear hk8
          go_wp2_with (first
          | (refine wpList_store_row rfl 33 _ _ rfl _ rfl oc rfl 33 _ (Cel.new _ _ _) HOS.out HOZ.out HOO.out ?_; rw [setRow_alloc _ _ _ _ _ rfl])
          | (go_at_call 11; refine (epoch_any s _ _ _ _ HC4.out).mono ?_; rintro e w' ⟨rfl, rfl⟩)
          | (go_at_call 10; refine (next_any s _ _ _ _ HC4.out).mono ?_; rintro e w' ⟨rfl, rfl⟩)
          | fail)
          go_roundw
          case rel => exact ⟨k + 1, _, _, _, _, _, by omega, by go_num, hL', HG.out.up HUP.out, HC4.out, (by rw [hp_alloc, if_neg (by omega)]; exact HMR4.out), HM4.out.alloc _⟩
          case measure => simp [intOf]; omega
        · clear hk8
          go_wp2_with (first
          | (refine wpList_store_row rfl 33 _ _ rfl _ rfl oc rfl 33 _ (Cel.new _ _ _) HOS.out HOZ.out HOO.out ?_; rw [setRow_alloc _ _ _ _ _ rfl])
          | (go_at_call 11; refine (epoch_any s _ _ _ _ HC4.out).mono ?_; rintro e w' ⟨rfl, rfl⟩)
          | (go_at_call 10; refine (next_any s _ _ _ _ HC4.out).mono ?_; rintro e w' ⟨rfl, rfl⟩)
          | fail)
          go_roundw
          case rel => exact ⟨k + 1, _, _, _, _, _, by omega, by go_num, hL', HG.out.up (.inr ⟨rfl, hle⟩), HC4.out, (by rw [hp_alloc, if_neg (by omega)]; exact HMR4.out), HM4.out.alloc _⟩
          case measure => simp [intOf]; omega
      · rw [hk8] at ck
        have hnone := HG.out.none
        have HN := Lib.hid hnone
        have K : KeyEnc Try.prog 42 enc2 := by
          obtain ⟨i, hi⟩ : ∃ i, Try.prog.info? 3 = some i := info_of_underlying Try.underlying3
          exact arr2_enc Try.underlying42 Try.underlying3 hi (by kernel_rfl)
        have hz : ∀ W : World, (zeroValue 4).run Try.prog W = .ok (.bool false) W := fun _ => by kernel_rfl
        have HZ := Lib.hid hz
        clear hk8 hnone hz
        go_wp2_with (first
          | (refine wpList_store_row rfl 33 _ _ rfl _ rfl oc rfl 33 _ (Cel.new _ _ _) HOS.out HOZ.out HOO.out ?_; rw [setRow_alloc _ _ _ _ _ rfl])
          | (go_at_call 11; refine (epoch_any s _ _ _ _ HC4.out).mono ?_; rintro e w' ⟨rfl, rfl⟩)
          | (go_at_call 10; refine (next_any s _ _ _ _ HC4.out).mono ?_; rintro e w' ⟨rfl, rfl⟩)
          | (refine wpList_lookup_raw K rfl _ _ 41 false rfl Try.underlying41 M (_, _) l c (.bool false) (HZ.out _) rfl rfl (by rw [hp_alloc, if_neg (by omega)]; exact HMR4.out) ?_; rw [HN.out]; simp only [Bool.false_eq_true, if_false, Option.getD_none])
          | (refine wpList_mapUpdate_raw K rfl _ _ _ 41 rfl Try.underlying41 M (_, _) (.bool true) l c rfl rfl rfl (by rw [hp_alloc, if_neg (by omega)]; exact HMR4.out) ?_)
          | fail)
        go_roundw
        case rel =>
          refine ⟨k + 1, _, _, _, _, alClock (e', ot) l c, by omega, by go_num, hL', HG.out.put (.bool true) c, HC4.out.setObj (by omega) _, ?_, (HM4.out.alloc _).setObj (.inr (by omega)) _⟩
          rw [hp_setObj _ _ _ _ (by simp; omega), if_pos rfl]
        case measure => simp [intOf]; omega
    · obtain rfl : k = len := by omega
      have HB := Lib.hid hb
      clear hb
      go_wp2
      go_ret
      exact ⟨rfl, hMr⟩
end Go.Proofs.Ytlkfejnjdlebbaa
