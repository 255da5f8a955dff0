/- The contract of a proposer's choose: of what was told as accepted, the greatest ballot's value. No condition. -/
import Derived.Test.YtlkfejnjdlebbaaBalC
import Derived.Test.YtlkfejnjdlebbaaRange
namespace Go.Proofs.Ytlkfejnjdlebbaa
open Go.RowKit

def cand (a : Ans) : Prop := a.ok = true ∧ ¬ (a.r = 0 ∧ a.w = 0)
/-- What is to be accepted, by the answers. -/
def ChosenV (M : List (Int × Ans × Nat)) (v0 v : Slc) : Prop :=
  ((∀ x ∈ M, ¬ cand x.2.1) ∧ v = v0) ∨ ∃ x ∈ M, cand x.2.1 ∧ (∀ y ∈ M, cand y.2.1 → aheadB y.2.1 x.2.1 = false) ∧ v = x.2.1.val
/-- The best one of those that were gone through. -/
def BestOf (M : List (Int × Ans × Nat)) (S : Array Nat) (best : Ans) : Prop :=
  ((∀ x ∈ M, x.2.2 ∈ S → ¬ cand x.2.1) ∧ best = Ans.zero) ∨ ∃ x ∈ M, x.2.1 = best ∧ cand best ∧ ∀ y ∈ M, y.2.2 ∈ S → cand y.2.1 → aheadB y.2.1 best = false

theorem aheadB_irrefl (a : Ans) : aheadB a a = false := by simp [aheadB]
theorem aheadB_iff (a b : Ans) : aheadB a b = true ↔ (a.r = b.r ∧ a.w = b.w ∧ a.turn < b.turn) ∨ b.r < a.r ∨ (a.r = b.r ∧ b.w < a.w) := by
  unfold aheadB
  by_cases e : a.r = b.r ∧ a.w = b.w
  · rw [if_pos e]; simp; omega
  · rw [if_neg e]; simp; omega
theorem aheadB_false (a b : Ans) : aheadB a b = false ↔ ¬ ((a.r = b.r ∧ a.w = b.w ∧ a.turn < b.turn) ∨ b.r < a.r ∨ (a.r = b.r ∧ b.w < a.w)) := by
  rw [← aheadB_iff]; simp
theorem aheadB_trans {a b c : Ans} (h1 : aheadB a b = true) (h2 : aheadB c b = false) : aheadB c a = false := by
  rw [aheadB_iff] at h1
  rw [aheadB_false] at h2 ⊢
  omega
theorem map_inj {α β : Type} (f : α → β) : ∀ (l : List α), (l.map f).Nodup → ∀ x ∈ l, ∀ y ∈ l, f x = f y → x = y
  | [], _, x, hx, _, _, _ => by cases hx
  | z :: l, hn, x, hx, y, hy, e => by
    rw [List.map_cons, List.nodup_cons] at hn
    rcases List.mem_cons.1 hx with hx | hx
    · rcases List.mem_cons.1 hy with hy | hy
      · rw [hx, hy]
      · exact absurd (List.mem_map.2 ⟨y, hy, by rw [← e, hx]⟩) hn.1
    · rcases List.mem_cons.1 hy with hy | hy
      · exact absurd (List.mem_map.2 ⟨x, hx, by rw [e, hy]⟩) hn.1
      · exact map_inj f l hn.2 x hx y hy e

theorem encL_mem {M : List (Int × Ans × Nat)} {y : Int × Value × Nat} (h : y ∈ encL M) : ∃ x ∈ M, y = (x.1, .agg x.2.1.cells, x.2.2) := by
  unfold encL at h
  obtain ⟨x, hx, rfl⟩ := List.mem_map.1 h
  exact ⟨x, hx, rfl⟩
theorem encL_stamps (M : List (Int × Ans × Nat)) : (encL M).map (·.2.2) = M.map (·.2.2) := by
  unfold encL; rw [List.map_map]; rfl

theorem BestOf.start (M : List (Int × Ans × Nat)) : BestOf M #[] Ans.zero := .inl ⟨fun x _ h => by simp at h, rfl⟩
section
variable {M : List (Int × Ans × Nat)} {S : Array Nat} {best : Ans} {c : Nat} {x : Int × Ans × Nat}
theorem seen_push (hn : Stamps (encL M) c) (hx : x ∈ M) {y : Int × Ans × Nat} (hy : y ∈ M) (h : y.2.2 ∈ S.push x.2.2) : y = x ∨ y.2.2 ∈ S := by
  rcases Array.mem_push.1 h with h | h
  · exact .inr h
  · have := hn.nodup
    rw [encL_stamps] at this
    exact .inl (map_inj _ M this y hy x hx h)
theorem BestOf.skip (h : BestOf M S best) (hn : Stamps (encL M) c) (hx : x ∈ M) (hc : ¬ cand x.2.1) : BestOf M (S.push x.2.2) best := by
  rcases h with ⟨h1, h2⟩ | ⟨z, h1, h2, h3, h4⟩
  · refine .inl ⟨fun y hy hyS => ?_, h2⟩
    rcases seen_push hn hx hy hyS with rfl | h
    · exact hc
    · exact h1 y hy h
  · refine .inr ⟨z, h1, h2, h3, fun y hy hyS hyc => ?_⟩
    rcases seen_push hn hx hy hyS with rfl | h
    · exact absurd hyc hc
    · exact h4 y hy h hyc
theorem BestOf.keep (h : BestOf M S best) (hn : Stamps (encL M) c) (hx : x ∈ M) (h0 : ¬ (best.r = 0 ∧ best.w = 0)) (ha : aheadB x.2.1 best = false) : BestOf M (S.push x.2.2) best := by
  rcases h with ⟨h1, h2⟩ | ⟨z, h1, h2, h3, h4⟩
  · subst h2; exact absurd ⟨rfl, rfl⟩ h0
  · refine .inr ⟨z, h1, h2, h3, fun y hy hyS hyc => ?_⟩
    rcases seen_push hn hx hy hyS with rfl | h
    · exact ha
    · exact h4 y hy h hyc
theorem BestOf.take (h : BestOf M S best) (hn : Stamps (encL M) c) (hx : x ∈ M) (hc : cand x.2.1) (ha : (best.r = 0 ∧ best.w = 0) ∨ aheadB x.2.1 best = true) : BestOf M (S.push x.2.2) x.2.1 := by
  refine .inr ⟨x, hx, rfl, hc, fun y hy hyS hyc => ?_⟩
  rcases seen_push hn hx hy hyS with rfl | hS
  · exact aheadB_irrefl _
  · rcases h with ⟨h1, h2⟩ | ⟨z, h1, h2, h3, h4⟩
    · exact absurd hyc (h1 y hy hS)
    · rcases ha with ha | ha
      · exact absurd ha h3.2
      · exact aheadB_trans ha (h4 y hy hS hyc)
theorem BestOf.done (h : BestOf M S best) (hall : ∀ y ∈ encL M, y.2.2 ∈ S) (v0 : Slc) : ((best.r = 0 ∧ best.w = 0) → ChosenV M v0 v0) ∧ (¬ (best.r = 0 ∧ best.w = 0) → ChosenV M v0 best.val) := by
  have hall' : ∀ y ∈ M, y.2.2 ∈ S := fun y hy => hall (y.1, .agg y.2.1.cells, y.2.2) (by unfold encL; exact List.mem_map.2 ⟨y, hy, rfl⟩)
  rcases h with ⟨h1, h2⟩ | ⟨z, h1, h2, h3, h4⟩
  · subst h2
    exact ⟨fun _ => .inl ⟨fun y hy => h1 y hy (hall' y hy), rfl⟩, fun h => absurd ⟨rfl, rfl⟩ h⟩
  · subst h2
    exact ⟨fun h => absurd h h3.2, fun _ => .inr ⟨z, h1, h3, fun y hy hyc => h4 y hy (hall' y hy) hyc, rfl⟩⟩
end

/-- What holds at the head of choose's loop. -/
def ChooseRel (w : World) (b : Nat) (p : PSt) (M : List (Int × Ans × Nat)) (c B : Nat) (wr : World) : Prop :=
  ∃ S best, PAt wr b p M c ∧ Cel wr B best.cells 69 ∧ wr.heap[B + 1]? = some (.mapIter (some p.mp) c S c) ∧ BestOf M S best ∧ Mod [] w wr
theorem ChooseRel.mk {w : World} {b : Nat} {p : PSt} {M : List (Int × Ans × Nat)} {c B : Nat} {wr : World} (S : Array Nat) (best : Ans) (h : PAt wr b p M c ∧ Cel wr B best.cells 69 ∧ wr.heap[B + 1]? = some (.mapIter (some p.mp) c S c) ∧ BestOf M S best ∧ Mod [] w wr) :
    ChooseRel w b p M c B wr := ⟨S, best, h⟩

set_option maxHeartbeats 4000000 in
theorem choose_any (b : Nat) (p : PSt) (M : List (Int × Ans × Nat)) (c : Nat) (w : World) (h : PAt w b p M c) (hs : Stamps (encL M) c) :
    Calls Try.prog 24 #[.pointer (some ⟨b, 0, none⟩)] w fun e w' => e = .returned (.tuple #[]) ∧ ∃ v, ChosenV M p.val v ∧ PAt w' b { p with val := v } M c ∧ Mod [b] w w' := by
  have h5 : w.cell? ⟨b, 5, none⟩ = some (.map (some p.mp)) := h.cel.cell 5
  have hbl := h.cel.lt
  have hml := lt_of_block h.map
  have hm1 : (w.alloc (.cells #[.int .i64 0, .bool false, .int .i64 0, .int .i64 0, .slice none 0 0] 69)).heap[p.mp]? = some (mapObj intE (encL M) c) := by rw [hp_alloc, if_neg (by omega)]; exact h.map
  have hrg := run_range_raw (P := Try.prog) Try.underlying65 hm1
  rw [World.size_alloc] at hrg
  go_enter Try.func24, Try.ntmps24
  go_wp2
  have hP2 : PAt ((w.alloc (.cells #[.int .i64 0, .bool false, .int .i64 0, .int .i64 0, .slice none 0 0] 69)).alloc (.mapIter (some p.mp) c #[] c)) b p M c :=
    ⟨(h.cel.alloc _).alloc _, by rw [hp_alloc, if_neg (by simp; omega)]; exact hm1⟩
  have hB2 : Cel ((w.alloc (.cells #[.int .i64 0, .bool false, .int .i64 0, .int .i64 0, .slice none 0 0] 69)).alloc (.mapIter (some p.mp) c #[] c)) w.heap.size Ans.zero.cells 69 := (Cel.new w Ans.zero.cells _).alloc _
  have hI2 : ((w.alloc (.cells #[.int .i64 0, .bool false, .int .i64 0, .int .i64 0, .slice none 0 0] 69)).alloc (.mapIter (some p.mp) c #[] c)).heap[w.heap.size + 1]? = some (.mapIter (some p.mp) c #[] c) := by rw [hp_alloc, if_pos (by simp)]
  have hM2 : Mod [] w ((w.alloc (.cells #[.int .i64 0, .bool false, .int .i64 0, .int .i64 0, .slice none 0 0] 69)).alloc (.mapIter (some p.mp) c #[] c)) := ((Mod.refl _ _).alloc _).alloc _
  clear hrg hm1 h h5
  obtain ⟨B, hBe⟩ : ∃ B, B = w.heap.size := ⟨_, rfl⟩
  rw [← hBe] at hB2 hI2 hbl hml ⊢
  have HBE := Lib.hid hBe
  clear hBe
  go_loopw [10] (fun _ wr => ChooseRel w b p M c B wr) (fun _ wr => leftN (encL M) (wr.iterSeen (B + 1)))
  case atStart => exact ChooseRel.mk _ _ ⟨hP2, hB2, hI2, BestOf.start M, hM2⟩
  case round =>
    obtain ⟨S, best, hP, hB, hI, hbest, hM⟩ := hrel
    have hseen := iterSeen_of hI
    have HS := Lib.hid hseen
    clear hP2 hB2 hI2 hM2 hseen
    go_wp2_with (first
      | (refine wpList_next_raw rfl _ rfl (B + 1) p.mp c S (encL M) rfl hI hP.map hs ?h1 ?h2)
      | fail)
    case h1 =>
      intro hall
      obtain ⟨d1, d2⟩ := hbest.done (fun y hy => hall y.1 y.2.1 y.2.2 hy) p.val
      have b2 : wr.cell? ⟨B, 2, none⟩ = some (.int .i64 best.r) := hB.cell 2
      have b3 : wr.cell? ⟨B, 3, none⟩ = some (.int .i64 best.w) := hB.cell 3
      have b4 : wr.cell? ⟨B, 4, none⟩ = some (.slice best.val.a best.val.len best.val.cap) := hB.cell 4
      have c3 : wr.cell? ⟨b, 3, none⟩ = some (.slice p.val.a p.val.len p.val.cap) := hP.cel.cell 3
      have f3 := hP.cel.frozen 3
      have HP := Lib.hid hP
      have hset : Cel (wr.setCell ⟨b, 3, none⟩ (.slice best.val.a best.val.len best.val.cap)) b ({ p with val := best.val } : PSt).cells 67 := hP.cel.set 3 _
      have HSET := Lib.hid hset
      have hmne := hP.ne
      have D1 := Lib.hid d1
      have D2 := Lib.hid d2
      clear d1 d2 hset hall hP
      generalize best.r = br at *
      generalize best.w = bw at *
      by_cases e1 : br = 0
      · subst e1
        by_cases e2 : bw = 0
        · subst e2
          go_wp2
          go_end0
          exact ⟨rfl, p.val, D1.out (by simp), HP.out, hM.mono (by simp)⟩
        · have g2 : (bw == 0) = false := by simpa using e2
          have E2 := Lib.hid e2
          clear e2
          go_wp2
          go_end0
          refine ⟨rfl, best.val, D2.out (by simpa using E2.out), ⟨HSET.out, ?_⟩, ((hM.mono (by simp) : Mod [b] w wr)).setCell (.inl (by simp)) _⟩
          rw [hp_setCell, if_neg hmne]
          exact HP.out.map
      · have g1 : (br == 0) = false := by simpa using e1
        have E1 := Lib.hid e1
        clear e1
        go_wp2
        go_end0
        refine ⟨rfl, best.val, D2.out (fun h => E1.out h.1), ⟨HSET.out, ?_⟩, ((hM.mono (by simp) : Mod [b] w wr)).setCell (.inl (by simp)) _⟩
        rw [hp_setCell, if_neg hmne]
        exact HP.out.map
    case h2 =>
      intro k0 v0 b0 w1 hy hyS hit1 hm1
      obtain ⟨x, hx, hxe⟩ := encL_mem hy
      simp only [Prod.mk.injEq] at hxe
      obtain ⟨rfl, rfl, rfl⟩ := hxe
      have hB1 : B + 1 < wr.heap.size := lt_of_block hI
      have hP1 := hP.mod hm1 (by simp; omega) (by simp; omega)
      have hBB := hB.mod hm1 (by simp)
      have hMM : Mod [] w w1 := hM.then hm1 (by simp; have := HBE.out; omega)
      have hent := run_entry_raw (P := Try.prog) (x := (x.1, .agg x.2.1.cells, x.2.2)) hit1 hP1.map hs hy
      have hleft := leftN_push hy hyS
      have HLEFT := Lib.hid hleft
      have HIT := Lib.hid hit1
      have HMM := Lib.hid hMM
      have HBB := Lib.hid hBB
      have HP1 := Lib.hid hP1
      have HBEST := Lib.hid hbest
      have hz : wr.heap.size ≤ w1.heap.size := hm1.size
      clear hleft hit1 hMM hBB hP1 hbest hP hB hI hM hm1 hyS
      obtain ⟨f, ⟨t, o, r, q, v⟩, st⟩ := x
      simp only at *
      cases o with
      | false =>
        have hfin : PAt (w1.alloc (.cells ({ turn := t, ok := false, r := r, w := q, val := v } : Ans).cells 69)) b p M c ∧ Cel (w1.alloc (.cells ({ turn := t, ok := false, r := r, w := q, val := v } : Ans).cells 69)) B best.cells 69 ∧ (w1.alloc (.cells ({ turn := t, ok := false, r := r, w := q, val := v } : Ans).cells 69)).heap[B + 1]? = some (.mapIter (some p.mp) c (S.push st) c) ∧ BestOf M (S.push st) best ∧ Mod [] w (w1.alloc (.cells ({ turn := t, ok := false, r := r, w := q, val := v } : Ans).cells 69)) :=
          ⟨⟨HP1.out.cel.alloc _, by rw [hp_alloc, if_neg (by omega)]; exact HP1.out.map⟩, HBB.out.alloc _, by rw [hp_alloc, if_neg (by omega)]; exact HIT.out, HBEST.out.skip hs hx (by simp [cand]), HMM.out.alloc _⟩
        have HFIN := Lib.hid hfin
        clear hfin hx hy
        go_wp2_with fail
        refine ⟨ChooseRel.mk (S.push st) best HFIN.out, ?_⟩
        rw [iterSeen_of HFIN.out.2.2.1, HS.out]
        exact HLEFT.out
      | true =>
        by_cases e1 : r = 0
        · subst e1
          by_cases e2 : q = 0
          · subst e2
            have hfin : PAt (w1.alloc (.cells ({ turn := t, ok := true, r := 0, w := 0, val := v } : Ans).cells 69)) b p M c ∧ Cel (w1.alloc (.cells ({ turn := t, ok := true, r := 0, w := 0, val := v } : Ans).cells 69)) B best.cells 69 ∧ (w1.alloc (.cells ({ turn := t, ok := true, r := 0, w := 0, val := v } : Ans).cells 69)).heap[B + 1]? = some (.mapIter (some p.mp) c (S.push st) c) ∧ BestOf M (S.push st) best ∧ Mod [] w (w1.alloc (.cells ({ turn := t, ok := true, r := 0, w := 0, val := v } : Ans).cells 69)) :=
              ⟨⟨HP1.out.cel.alloc _, by rw [hp_alloc, if_neg (by omega)]; exact HP1.out.map⟩, HBB.out.alloc _, by rw [hp_alloc, if_neg (by omega)]; exact HIT.out, HBEST.out.skip hs hx (by simp [cand]), HMM.out.alloc _⟩
            have HFIN := Lib.hid hfin
            clear hfin hx hy
            go_wp2_with fail
            refine ⟨ChooseRel.mk (S.push st) best HFIN.out, ?_⟩
            rw [iterSeen_of HFIN.out.2.2.1, HS.out]
            exact HLEFT.out
          · have g2 : (q == 0) = false := by simpa using e2
            have hcand : cand ({ turn := t, ok := true, r := 0, w := q, val := v } : Ans) := ⟨rfl, by simpa using e2⟩
            have b0 : w1.cell? ⟨B, 0, none⟩ = some (.int .i64 best.turn) := HBB.out.cell 0
            have b1 : w1.cell? ⟨B, 1, none⟩ = some (.bool best.ok) := HBB.out.cell 1
            have b2 : w1.cell? ⟨B, 2, none⟩ = some (.int .i64 best.r) := HBB.out.cell 2
            have b3 : w1.cell? ⟨B, 3, none⟩ = some (.int .i64 best.w) := HBB.out.cell 3
            have b4 : w1.cell? ⟨B, 4, none⟩ = some (.slice best.val.a best.val.len best.val.cap) := HBB.out.cell 4
            have hBlt : B < w1.heap.size := by omega
            have hP2 : PAt (w1.alloc (.cells ({ turn := t, ok := true, r := 0, w := q, val := v } : Ans).cells 69)) b p M c := ⟨HP1.out.cel.alloc _, by rw [hp_alloc, if_neg (by omega)]; exact HP1.out.map⟩
            have hI2 : (w1.alloc (.cells ({ turn := t, ok := true, r := 0, w := q, val := v } : Ans).cells 69)).heap[B + 1]? = some (.mapIter (some p.mp) c (S.push st) c) := by rw [hp_alloc, if_neg (by omega)]; exact HIT.out
            have hB2 := HBB.out.alloc (.cells ({ turn := t, ok := true, r := 0, w := q, val := v } : Ans).cells 69)
            have hM2 := HMM.out.alloc (.cells ({ turn := t, ok := true, r := 0, w := q, val := v } : Ans).cells 69)
            have htk : ∀ (h : (best.r = 0 ∧ best.w = 0) ∨ aheadB ({ turn := t, ok := true, r := 0, w := q, val := v } : Ans) best = true), BestOf M (S.push st) ({ turn := t, ok := true, r := 0, w := q, val := v } : Ans) := fun h => HBEST.out.take hs hx hcand h
            have hkp : ∀ (h0 : ¬ (best.r = 0 ∧ best.w = 0)) (ha : aheadB ({ turn := t, ok := true, r := 0, w := q, val := v } : Ans) best = false), BestOf M (S.push st) best := fun h0 ha => HBEST.out.keep hs hx h0 ha
            have HP2 := Lib.hid hP2
            have HI2 := Lib.hid hI2
            have HB2 := Lib.hid hB2
            have HM2 := Lib.hid hM2
            have HTK := Lib.hid htk
            have HKP := Lib.hid hkp
            clear e2 hP2 hI2 hB2 hM2 htk hkp hcand hx hy HP1 HIT HBB HMM HBEST
            obtain ⟨bt, bo, br, bw, bv⟩ := best
            simp only at b0 b1 b2 b3 b4
            by_cases e3 : br = 0 ∧ bw = 0
            · have HE := Lib.hid e3
              obtain ⟨rfl, rfl⟩ := e3
              go_wp2_with (first
                | (refine wpList_store_row rfl 69 _ _ rfl B rfl ({ turn := t, ok := true, r := 0, w := q, val := v } : Ans).cells rfl 69 _ HB2.out (by kernel_rfl) rfl rfl ?_)
                | fail)
              have hI3 : ((w1.alloc (.cells ({ turn := t, ok := true, r := 0, w := q, val := v } : Ans).cells 69)).setRow B ({ turn := t, ok := true, r := 0, w := q, val := v } : Ans).cells).heap[B + 1]? = some (.mapIter (some p.mp) c (S.push st) c) := by rw [setRow_other _ _ _ _ (by omega)]; exact HI2.out
              refine ⟨ChooseRel.mk (S.push st) ({ turn := t, ok := true, r := 0, w := q, val := v } : Ans) ⟨⟨HP2.out.cel.setRowOther (by omega) _, by rw [setRow_other _ _ _ _ (by omega)]; exact HP2.out.map⟩, HB2.out.setRow _, hI3, HTK.out (.inl (by simp)), HM2.out.setRow (.inr (by have := HBE.out; omega)) _⟩, ?_⟩
              rw [iterSeen_of hI3, HS.out]
              exact HLEFT.out
            · have hnz : ∃ x y, (br == 0) = x ∧ (bw == 0) = y ∧ (x && y) = false := ⟨_, _, rfl, rfl, by simp; omega⟩
              obtain ⟨x, y, hx1, hy1, hxy⟩ := hnz
              have HE := Lib.hid e3
              clear e3
              cases hah : aheadB ({ turn := t, ok := true, r := 0, w := q, val := v } : Ans) (⟨bt, bo, br, bw, bv⟩ : Ans) with
              | true =>
                have HAH := Lib.hid hah
                clear hah
                by_cases e4 : br = 0
                · have e5 : (bw == 0) = false := by rw [beq_eq_false_iff_ne]; intro h; exact HE.out ⟨e4, h⟩
                  subst e4
                  clear hx1 hy1 hxy
                  go_wp2_with (first
                    | (go_at_call 30; refine (ahead_any ({ turn := t, ok := true, r := 0, w := q, val := v } : Ans) (⟨bt, bo, 0, bw, bv⟩ : Ans) _).mono ?_; rw [HAH.out]; rintro e w2 ⟨rfl, hm2⟩; have hP3 := HP2.out.below2 hm2; have hB3 := HB2.out.mod hm2 (by simp); have hI3 := (hm2.block _ (lt_of_block HI2.out) (by simp)).trans HI2.out; have hM3 := HM2.out.trans hm2; have hA3 := (Cel.new w1 ({ turn := t, ok := true, r := 0, w := q, val := v } : Ans).cells 69).mod hm2 (by simp); have a0 : w2.cell? ⟨w1.heap.size, 0, none⟩ = some (.int .i64 t) := hA3.cell 0; have a1 : w2.cell? ⟨w1.heap.size, 1, none⟩ = some (.bool true) := hA3.cell 1; have a2 : w2.cell? ⟨w1.heap.size, 2, none⟩ = some (.int .i64 0) := hA3.cell 2; have a3 : w2.cell? ⟨w1.heap.size, 3, none⟩ = some (.int .i64 q) := hA3.cell 3; have a4 : w2.cell? ⟨w1.heap.size, 4, none⟩ = some (.slice v.a v.len v.cap) := hA3.cell 4; have HA3 := Lib.hid hA3; have HB3 := Lib.hid hB3; have HI3 := Lib.hid hI3; have HP3 := Lib.hid hP3; have HM3 := Lib.hid hM3; clear hA3 hB3 hI3 hP3 hM3 hm2)
                    | (refine wpList_store_row rfl 69 _ _ rfl B rfl ({ turn := t, ok := true, r := 0, w := q, val := v } : Ans).cells rfl 69 _ HB3.out (by kernel_rfl) rfl rfl ?_)
                    | fail)
                  have hI4 : (w2.setRow B ({ turn := t, ok := true, r := 0, w := q, val := v } : Ans).cells).heap[B + 1]? = some (.mapIter (some p.mp) c (S.push st) c) := by rw [setRow_other _ _ _ _ (by omega)]; exact HI3.out
                  have hrel4 := ChooseRel.mk (S.push st) ({ turn := t, ok := true, r := 0, w := q, val := v } : Ans) ⟨⟨HP3.out.cel.setRowOther (by omega) _, by rw [setRow_other _ _ _ _ (by omega)]; exact HP3.out.map⟩, HB3.out.setRow _, hI4, HTK.out (.inr HAH.out), HM3.out.setRow (.inr (by have := HBE.out; omega)) _⟩
                  have hI4s := iterSeen_of hI4
                  refine ⟨⟨_, _, _, _, _, _, _, _, _, _, _, _, _, _, _, _, _, _, _, _, _, _, _, _, hrel4, rfl⟩, ?_⟩
                  rw [hI4s, HS.out]
                  exact HLEFT.out

                · have e5 : (br == 0) = false := by rw [beq_eq_false_iff_ne]; exact e4
                  clear hx1 hy1 hxy e4
                  go_wp2_with (first
                    | (go_at_call 30; refine (ahead_any ({ turn := t, ok := true, r := 0, w := q, val := v } : Ans) (⟨bt, bo, br, bw, bv⟩ : Ans) _).mono ?_; rw [HAH.out]; rintro e w2 ⟨rfl, hm2⟩; have hP3 := HP2.out.below2 hm2; have hB3 := HB2.out.mod hm2 (by simp); have hI3 := (hm2.block _ (lt_of_block HI2.out) (by simp)).trans HI2.out; have hM3 := HM2.out.trans hm2; have hA3 := (Cel.new w1 ({ turn := t, ok := true, r := 0, w := q, val := v } : Ans).cells 69).mod hm2 (by simp); have a0 : w2.cell? ⟨w1.heap.size, 0, none⟩ = some (.int .i64 t) := hA3.cell 0; have a1 : w2.cell? ⟨w1.heap.size, 1, none⟩ = some (.bool true) := hA3.cell 1; have a2 : w2.cell? ⟨w1.heap.size, 2, none⟩ = some (.int .i64 0) := hA3.cell 2; have a3 : w2.cell? ⟨w1.heap.size, 3, none⟩ = some (.int .i64 q) := hA3.cell 3; have a4 : w2.cell? ⟨w1.heap.size, 4, none⟩ = some (.slice v.a v.len v.cap) := hA3.cell 4; have HA3 := Lib.hid hA3; have HB3 := Lib.hid hB3; have HI3 := Lib.hid hI3; have HP3 := Lib.hid hP3; have HM3 := Lib.hid hM3; clear hA3 hB3 hI3 hP3 hM3 hm2)
                    | (refine wpList_store_row rfl 69 _ _ rfl B rfl ({ turn := t, ok := true, r := 0, w := q, val := v } : Ans).cells rfl 69 _ HB3.out (by kernel_rfl) rfl rfl ?_)
                    | fail)
                  have hI4 : (w2.setRow B ({ turn := t, ok := true, r := 0, w := q, val := v } : Ans).cells).heap[B + 1]? = some (.mapIter (some p.mp) c (S.push st) c) := by rw [setRow_other _ _ _ _ (by omega)]; exact HI3.out
                  have hrel4 := ChooseRel.mk (S.push st) ({ turn := t, ok := true, r := 0, w := q, val := v } : Ans) ⟨⟨HP3.out.cel.setRowOther (by omega) _, by rw [setRow_other _ _ _ _ (by omega)]; exact HP3.out.map⟩, HB3.out.setRow _, hI4, HTK.out (.inr HAH.out), HM3.out.setRow (.inr (by have := HBE.out; omega)) _⟩
                  have hI4s := iterSeen_of hI4
                  refine ⟨⟨_, _, _, _, _, _, _, _, _, _, _, _, _, _, _, _, _, _, _, _, _, _, _, _, hrel4, rfl⟩, ?_⟩
                  rw [hI4s, HS.out]
                  exact HLEFT.out


              | false =>
                have HAH := Lib.hid hah
                clear hah
                by_cases e4 : br = 0
                · have e5 : (bw == 0) = false := by rw [beq_eq_false_iff_ne]; intro h; exact HE.out ⟨e4, h⟩
                  subst e4
                  clear hx1 hy1 hxy
                  go_wp2_with (first
                    | (go_at_call 30; refine (ahead_any ({ turn := t, ok := true, r := 0, w := q, val := v } : Ans) (⟨bt, bo, 0, bw, bv⟩ : Ans) _).mono ?_; rw [HAH.out]; rintro e w2 ⟨rfl, hm2⟩)
                    | fail)
                  have hP3 := HP2.out.below2 hm2
                  have hB3 := HB2.out.mod hm2 (by simp)
                  have hI3 := (hm2.block _ (lt_of_block HI2.out) (by simp)).trans HI2.out
                  have hM3 := HM2.out.trans hm2
                  have hA3 := (Cel.new w1 ({ turn := t, ok := true, r := 0, w := q, val := v } : Ans).cells 69).mod hm2 (by simp)
                  have HB3 := Lib.hid hB3
                  have HI3 := Lib.hid hI3
                  have HP3 := Lib.hid hP3
                  have HM3 := Lib.hid hM3
                  clear hA3 hB3 hI3 hP3 hM3 hm2
                  go_wp2
                  refine ⟨ChooseRel.mk (S.push st) (⟨bt, bo, 0, bw, bv⟩ : Ans) ⟨HP3.out, HB3.out, HI3.out, HKP.out HE.out HAH.out, HM3.out⟩, ?_⟩
                  rw [iterSeen_of HI3.out, HS.out]
                  exact HLEFT.out

                · have e5 : (br == 0) = false := by rw [beq_eq_false_iff_ne]; exact e4
                  clear hx1 hy1 hxy e4
                  go_wp2_with (first
                    | (go_at_call 30; refine (ahead_any ({ turn := t, ok := true, r := 0, w := q, val := v } : Ans) (⟨bt, bo, br, bw, bv⟩ : Ans) _).mono ?_; rw [HAH.out]; rintro e w2 ⟨rfl, hm2⟩)
                    | fail)
                  have hP3 := HP2.out.below2 hm2
                  have hB3 := HB2.out.mod hm2 (by simp)
                  have hI3 := (hm2.block _ (lt_of_block HI2.out) (by simp)).trans HI2.out
                  have hM3 := HM2.out.trans hm2
                  have hA3 := (Cel.new w1 ({ turn := t, ok := true, r := 0, w := q, val := v } : Ans).cells 69).mod hm2 (by simp)
                  have HB3 := Lib.hid hB3
                  have HI3 := Lib.hid hI3
                  have HP3 := Lib.hid hP3
                  have HM3 := Lib.hid hM3
                  clear hA3 hB3 hI3 hP3 hM3 hm2
                  go_wp2
                  refine ⟨ChooseRel.mk (S.push st) (⟨bt, bo, br, bw, bv⟩ : Ans) ⟨HP3.out, HB3.out, HI3.out, HKP.out HE.out HAH.out, HM3.out⟩, ?_⟩
                  rw [iterSeen_of HI3.out, HS.out]
                  exact HLEFT.out


        · have g1 : (r == 0) = false := by simpa using e1
          have hcand : cand ({ turn := t, ok := true, r := r, w := q, val := v } : Ans) := ⟨rfl, by simp [e1]⟩
          have b0 : w1.cell? ⟨B, 0, none⟩ = some (.int .i64 best.turn) := HBB.out.cell 0
          have b1 : w1.cell? ⟨B, 1, none⟩ = some (.bool best.ok) := HBB.out.cell 1
          have b2 : w1.cell? ⟨B, 2, none⟩ = some (.int .i64 best.r) := HBB.out.cell 2
          have b3 : w1.cell? ⟨B, 3, none⟩ = some (.int .i64 best.w) := HBB.out.cell 3
          have b4 : w1.cell? ⟨B, 4, none⟩ = some (.slice best.val.a best.val.len best.val.cap) := HBB.out.cell 4
          have hBlt : B < w1.heap.size := by omega
          have hP2 : PAt (w1.alloc (.cells ({ turn := t, ok := true, r := r, w := q, val := v } : Ans).cells 69)) b p M c := ⟨HP1.out.cel.alloc _, by rw [hp_alloc, if_neg (by omega)]; exact HP1.out.map⟩
          have hI2 : (w1.alloc (.cells ({ turn := t, ok := true, r := r, w := q, val := v } : Ans).cells 69)).heap[B + 1]? = some (.mapIter (some p.mp) c (S.push st) c) := by rw [hp_alloc, if_neg (by omega)]; exact HIT.out
          have hB2 := HBB.out.alloc (.cells ({ turn := t, ok := true, r := r, w := q, val := v } : Ans).cells 69)
          have hM2 := HMM.out.alloc (.cells ({ turn := t, ok := true, r := r, w := q, val := v } : Ans).cells 69)
          have htk : ∀ (h : (best.r = 0 ∧ best.w = 0) ∨ aheadB ({ turn := t, ok := true, r := r, w := q, val := v } : Ans) best = true), BestOf M (S.push st) ({ turn := t, ok := true, r := r, w := q, val := v } : Ans) := fun h => HBEST.out.take hs hx hcand h
          have hkp : ∀ (h0 : ¬ (best.r = 0 ∧ best.w = 0)) (ha : aheadB ({ turn := t, ok := true, r := r, w := q, val := v } : Ans) best = false), BestOf M (S.push st) best := fun h0 ha => HBEST.out.keep hs hx h0 ha
          have HP2 := Lib.hid hP2
          have HI2 := Lib.hid hI2
          have HB2 := Lib.hid hB2
          have HM2 := Lib.hid hM2
          have HTK := Lib.hid htk
          have HKP := Lib.hid hkp
          clear e1 hP2 hI2 hB2 hM2 htk hkp hcand hx hy HP1 HIT HBB HMM HBEST
          obtain ⟨bt, bo, br, bw, bv⟩ := best
          simp only at b0 b1 b2 b3 b4
          by_cases e3 : br = 0 ∧ bw = 0
          · have HE := Lib.hid e3
            obtain ⟨rfl, rfl⟩ := e3
            go_wp2_with (first
              | (refine wpList_store_row rfl 69 _ _ rfl B rfl ({ turn := t, ok := true, r := r, w := q, val := v } : Ans).cells rfl 69 _ HB2.out (by kernel_rfl) rfl rfl ?_)
              | fail)
            have hI3 : ((w1.alloc (.cells ({ turn := t, ok := true, r := r, w := q, val := v } : Ans).cells 69)).setRow B ({ turn := t, ok := true, r := r, w := q, val := v } : Ans).cells).heap[B + 1]? = some (.mapIter (some p.mp) c (S.push st) c) := by rw [setRow_other _ _ _ _ (by omega)]; exact HI2.out
            refine ⟨ChooseRel.mk (S.push st) ({ turn := t, ok := true, r := r, w := q, val := v } : Ans) ⟨⟨HP2.out.cel.setRowOther (by omega) _, by rw [setRow_other _ _ _ _ (by omega)]; exact HP2.out.map⟩, HB2.out.setRow _, hI3, HTK.out (.inl (by simp)), HM2.out.setRow (.inr (by have := HBE.out; omega)) _⟩, ?_⟩
            rw [iterSeen_of hI3, HS.out]
            exact HLEFT.out
          · have hnz : ∃ x y, (br == 0) = x ∧ (bw == 0) = y ∧ (x && y) = false := ⟨_, _, rfl, rfl, by simp; omega⟩
            obtain ⟨x, y, hx1, hy1, hxy⟩ := hnz
            have HE := Lib.hid e3
            clear e3
            cases hah : aheadB ({ turn := t, ok := true, r := r, w := q, val := v } : Ans) (⟨bt, bo, br, bw, bv⟩ : Ans) with
            | true =>
              have HAH := Lib.hid hah
              clear hah
              by_cases e4 : br = 0
              · have e5 : (bw == 0) = false := by rw [beq_eq_false_iff_ne]; intro h; exact HE.out ⟨e4, h⟩
                subst e4
                clear hx1 hy1 hxy
                go_wp2_with (first
                  | (go_at_call 30; refine (ahead_any ({ turn := t, ok := true, r := r, w := q, val := v } : Ans) (⟨bt, bo, 0, bw, bv⟩ : Ans) _).mono ?_; rw [HAH.out]; rintro e w2 ⟨rfl, hm2⟩; have hP3 := HP2.out.below2 hm2; have hB3 := HB2.out.mod hm2 (by simp); have hI3 := (hm2.block _ (lt_of_block HI2.out) (by simp)).trans HI2.out; have hM3 := HM2.out.trans hm2; have hA3 := (Cel.new w1 ({ turn := t, ok := true, r := r, w := q, val := v } : Ans).cells 69).mod hm2 (by simp); have a0 : w2.cell? ⟨w1.heap.size, 0, none⟩ = some (.int .i64 t) := hA3.cell 0; have a1 : w2.cell? ⟨w1.heap.size, 1, none⟩ = some (.bool true) := hA3.cell 1; have a2 : w2.cell? ⟨w1.heap.size, 2, none⟩ = some (.int .i64 r) := hA3.cell 2; have a3 : w2.cell? ⟨w1.heap.size, 3, none⟩ = some (.int .i64 q) := hA3.cell 3; have a4 : w2.cell? ⟨w1.heap.size, 4, none⟩ = some (.slice v.a v.len v.cap) := hA3.cell 4; have HA3 := Lib.hid hA3; have HB3 := Lib.hid hB3; have HI3 := Lib.hid hI3; have HP3 := Lib.hid hP3; have HM3 := Lib.hid hM3; clear hA3 hB3 hI3 hP3 hM3 hm2)
                  | (refine wpList_store_row rfl 69 _ _ rfl B rfl ({ turn := t, ok := true, r := r, w := q, val := v } : Ans).cells rfl 69 _ HB3.out (by kernel_rfl) rfl rfl ?_)
                  | fail)
                have hI4 : (w2.setRow B ({ turn := t, ok := true, r := r, w := q, val := v } : Ans).cells).heap[B + 1]? = some (.mapIter (some p.mp) c (S.push st) c) := by rw [setRow_other _ _ _ _ (by omega)]; exact HI3.out
                have hrel4 := ChooseRel.mk (S.push st) ({ turn := t, ok := true, r := r, w := q, val := v } : Ans) ⟨⟨HP3.out.cel.setRowOther (by omega) _, by rw [setRow_other _ _ _ _ (by omega)]; exact HP3.out.map⟩, HB3.out.setRow _, hI4, HTK.out (.inr HAH.out), HM3.out.setRow (.inr (by have := HBE.out; omega)) _⟩
                have hI4s := iterSeen_of hI4
                refine ⟨⟨_, _, _, _, _, _, _, _, _, _, _, _, _, _, _, _, _, _, _, _, _, _, _, _, hrel4, rfl⟩, ?_⟩
                rw [hI4s, HS.out]
                exact HLEFT.out

              · have e5 : (br == 0) = false := by rw [beq_eq_false_iff_ne]; exact e4
                clear hx1 hy1 hxy e4
                go_wp2_with (first
                  | (go_at_call 30; refine (ahead_any ({ turn := t, ok := true, r := r, w := q, val := v } : Ans) (⟨bt, bo, br, bw, bv⟩ : Ans) _).mono ?_; rw [HAH.out]; rintro e w2 ⟨rfl, hm2⟩; have hP3 := HP2.out.below2 hm2; have hB3 := HB2.out.mod hm2 (by simp); have hI3 := (hm2.block _ (lt_of_block HI2.out) (by simp)).trans HI2.out; have hM3 := HM2.out.trans hm2; have hA3 := (Cel.new w1 ({ turn := t, ok := true, r := r, w := q, val := v } : Ans).cells 69).mod hm2 (by simp); have a0 : w2.cell? ⟨w1.heap.size, 0, none⟩ = some (.int .i64 t) := hA3.cell 0; have a1 : w2.cell? ⟨w1.heap.size, 1, none⟩ = some (.bool true) := hA3.cell 1; have a2 : w2.cell? ⟨w1.heap.size, 2, none⟩ = some (.int .i64 r) := hA3.cell 2; have a3 : w2.cell? ⟨w1.heap.size, 3, none⟩ = some (.int .i64 q) := hA3.cell 3; have a4 : w2.cell? ⟨w1.heap.size, 4, none⟩ = some (.slice v.a v.len v.cap) := hA3.cell 4; have HA3 := Lib.hid hA3; have HB3 := Lib.hid hB3; have HI3 := Lib.hid hI3; have HP3 := Lib.hid hP3; have HM3 := Lib.hid hM3; clear hA3 hB3 hI3 hP3 hM3 hm2)
                  | (refine wpList_store_row rfl 69 _ _ rfl B rfl ({ turn := t, ok := true, r := r, w := q, val := v } : Ans).cells rfl 69 _ HB3.out (by kernel_rfl) rfl rfl ?_)
                  | fail)
                have hI4 : (w2.setRow B ({ turn := t, ok := true, r := r, w := q, val := v } : Ans).cells).heap[B + 1]? = some (.mapIter (some p.mp) c (S.push st) c) := by rw [setRow_other _ _ _ _ (by omega)]; exact HI3.out
                have hrel4 := ChooseRel.mk (S.push st) ({ turn := t, ok := true, r := r, w := q, val := v } : Ans) ⟨⟨HP3.out.cel.setRowOther (by omega) _, by rw [setRow_other _ _ _ _ (by omega)]; exact HP3.out.map⟩, HB3.out.setRow _, hI4, HTK.out (.inr HAH.out), HM3.out.setRow (.inr (by have := HBE.out; omega)) _⟩
                have hI4s := iterSeen_of hI4
                refine ⟨⟨_, _, _, _, _, _, _, _, _, _, _, _, _, _, _, _, _, _, _, _, _, _, _, _, hrel4, rfl⟩, ?_⟩
                rw [hI4s, HS.out]
                exact HLEFT.out


            | false =>
              have HAH := Lib.hid hah
              clear hah
              by_cases e4 : br = 0
              · have e5 : (bw == 0) = false := by rw [beq_eq_false_iff_ne]; intro h; exact HE.out ⟨e4, h⟩
                subst e4
                clear hx1 hy1 hxy
                go_wp2_with (first
                  | (go_at_call 30; refine (ahead_any ({ turn := t, ok := true, r := r, w := q, val := v } : Ans) (⟨bt, bo, 0, bw, bv⟩ : Ans) _).mono ?_; rw [HAH.out]; rintro e w2 ⟨rfl, hm2⟩)
                  | fail)
                have hP3 := HP2.out.below2 hm2
                have hB3 := HB2.out.mod hm2 (by simp)
                have hI3 := (hm2.block _ (lt_of_block HI2.out) (by simp)).trans HI2.out
                have hM3 := HM2.out.trans hm2
                have hA3 := (Cel.new w1 ({ turn := t, ok := true, r := r, w := q, val := v } : Ans).cells 69).mod hm2 (by simp)
                have HB3 := Lib.hid hB3
                have HI3 := Lib.hid hI3
                have HP3 := Lib.hid hP3
                have HM3 := Lib.hid hM3
                clear hA3 hB3 hI3 hP3 hM3 hm2
                go_wp2
                refine ⟨ChooseRel.mk (S.push st) (⟨bt, bo, 0, bw, bv⟩ : Ans) ⟨HP3.out, HB3.out, HI3.out, HKP.out HE.out HAH.out, HM3.out⟩, ?_⟩
                rw [iterSeen_of HI3.out, HS.out]
                exact HLEFT.out

              · have e5 : (br == 0) = false := by rw [beq_eq_false_iff_ne]; exact e4
                clear hx1 hy1 hxy e4
                go_wp2_with (first
                  | (go_at_call 30; refine (ahead_any ({ turn := t, ok := true, r := r, w := q, val := v } : Ans) (⟨bt, bo, br, bw, bv⟩ : Ans) _).mono ?_; rw [HAH.out]; rintro e w2 ⟨rfl, hm2⟩)
                  | fail)
                have hP3 := HP2.out.below2 hm2
                have hB3 := HB2.out.mod hm2 (by simp)
                have hI3 := (hm2.block _ (lt_of_block HI2.out) (by simp)).trans HI2.out
                have hM3 := HM2.out.trans hm2
                have hA3 := (Cel.new w1 ({ turn := t, ok := true, r := r, w := q, val := v } : Ans).cells 69).mod hm2 (by simp)
                have HB3 := Lib.hid hB3
                have HI3 := Lib.hid hI3
                have HP3 := Lib.hid hP3
                have HM3 := Lib.hid hM3
                clear hA3 hB3 hI3 hP3 hM3 hm2
                go_wp2
                refine ⟨ChooseRel.mk (S.push st) (⟨bt, bo, br, bw, bv⟩ : Ans) ⟨HP3.out, HB3.out, HI3.out, HKP.out HE.out HAH.out, HM3.out⟩, ?_⟩
                rw [iterSeen_of HI3.out, HS.out]
                exact HLEFT.out


end Go.Proofs.Ytlkfejnjdlebbaa
