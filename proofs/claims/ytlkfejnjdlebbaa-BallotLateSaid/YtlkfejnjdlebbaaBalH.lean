/- Contract of a proposer's Promised: the walk. No condition. -/
import Derived.Test.YtlkfejnjdlebbaaBalG
namespace Go.Proofs.Ytlkfejnjdlebbaa
open Go.RowKit

abbrev PromS (w : World) (N : Nat) (r wh : Int) : World → Prop := fun w' => w'.cell? ⟨w.heap.size, 0, none⟩ = some (.int .i64 r) ∧ w'.cell? ⟨w.heap.size, 1, none⟩ = some (.int .i64 wh) ∧ w'.frozen? ⟨N, 2, none⟩ = false ∧ w'.frozen? ⟨N, 3, none⟩ = false ∧ w'.frozen? ⟨N, 4, none⟩ = false
theorem PromS.mk {w X : World} {N : Nat} {r wh : Int} {cur : Array Value} (h1 : Cel X w.heap.size #[.int .i64 r, .int .i64 wh] 30) (h2 : Cel X N cur 69) : PromS w N r wh X :=
  ⟨h1.cell 0, h1.cell 1, h2.frozen 2, h2.frozen 3, h2.frozen 4⟩

set_option maxHeartbeats 2000000 in
theorem promised_rep (b mp : Nat) (g : GSt) (f r wh : Int) (s : Slc) (l : List UInt8) (e : Int) (w : World) (h : PRep w b mp g) (hk : GOk g) (hs : Rd8 w s l) (hl : s.len ≤ 140737488355328) :
    Calls Try.prog 16 #[.pointer (some ⟨b, 0, none⟩), .int .i64 f, .agg #[.int .i64 r, .int .i64 wh], .slice s.a s.len s.cap, .int .i64 e] w fun en w' => en = .returned (.tuple #[]) ∧
      ∃ g' mp', GProm g f r wh l e g' ∧ (mp' = mp ∨ w.heap.size ≤ mp') ∧ PRep w' b mp' g' ∧ Mod [b, mp] w w' := by
  have hsz := h.lt
  have hM0 := (Mod.refl [] w).alloc (.cells #[.int .i64 r, .int .i64 wh] 30)
  have hb0 := Cel.new w #[.int .i64 r, .int .i64 wh] 30
  have h1 := h.below hM0
  have hs1 := hs.below hM0
  have hz : (w.alloc (.cells #[.int .i64 r, .int .i64 wh] 30)).heap.size = w.heap.size + 1 := by simp
  have hcel : ∃ p : PSt, p.phase = g.phase ∧ Cel (w.alloc (.cells #[.int .i64 r, .int .i64 wh] 30)) b p.cells 67 := by
    obtain ⟨p, M, c, B, h1, h2, h3, h4, h5, h6, h7, _⟩ := h1
    exact ⟨p, h5, h7.cel⟩
  obtain ⟨p, hph, hc⟩ := hcel
  have c4 : (w.alloc (.cells #[.int .i64 r, .int .i64 wh] 30)).cell? ⟨b, 4, none⟩ = some (.int .i64 p.phase) := hc.cell 4
  rw [hph] at c4
  clear hc hph p
  by_cases h2 : g.phase = 1
  · rw [h2] at c4
    cases hA : gAsked g f with
    | false =>
      have HG := Lib.hid (show GProm g f r wh l e g from by unfold GProm; rw [if_neg (fun hh => by rw [hA] at hh; cases hh.2)])
      have HA := Lib.hid hA
      clear h2 hA
      go_enter Try.func16, Try.ntmps16
      go_wp2_with fail
      refine (asked_rep b mp g f _ h1).mono ?_
      rw [HA.out]
      rintro e1 w1 ⟨rfl, hm⟩
      go_wp2
      refine bodyPost_ret (results_none rfl _ _ _) rfl ?_
      exact ⟨rfl, g, mp, HG.out, .inl rfl, h1.below hm, (hM0.trans hm).mono (by simp)⟩
    | true =>
      have hno : gHas g f = false := by
        unfold gAsked at hA
        cases hh : gHas g f with
        | false => rfl
        | true => rw [hh] at hA; simp at hA
      have hG : ∀ g', (if (gTake g f (gAns e r wh l)).2 = true then ∃ v, gChosen (gTake g f (gAns e r wh l)).1.ans g.vb v ∧ g' = { (gTake g f (gAns e r wh l)).1 with vb := v, phase := 2, ans := [], agreed := 0 }
          else g' = (gTake g f (gAns e r wh l)).1) → GProm g f r wh l e g' := fun g' hg => by unfold GProm; rw [if_pos ⟨h2, hA⟩]; exact hg
      have HG := Lib.hid hG
      have HA := Lib.hid hA
      clear h2 hA hG
      by_cases he : e = 0
      · subst he
        have HT := Lib.hid (fun (W : World) (s' : Slc) (hP : PRep W b mp g) (ho : Own8 W s' l) => take_rep b mp g f ⟨0, true, r, wh, s'⟩ l W hP hk hno ho)
        have hR0 : gAns 0 r wh l = ⟨true, r, wh, l⟩ := rfl
        rw [hR0] at HG
        simp only at HT
        generalize hR : gTake g f ⟨true, r, wh, l⟩ = R at HG HT
        obtain ⟨g1, ok⟩ := R
        have hvb : g1.vb = g.vb := by rw [← show (gTake g f ⟨true, r, wh, l⟩).1 = g1 by rw [hR]]; exact gTake_vb _ _ _
        simp only at HG HT
        clear hR hR0
        go_enter Try.func16, Try.ntmps16
        go_wp2_with fail
        refine (asked_rep b mp g f _ h1).mono ?_
        rw [HA.out]
        rintro e1 w1 ⟨rfl, hm⟩
        go_wp2_with (first
          | (refine wpList_store_row rfl 69 _ _ rfl _ rfl #[.int .i64 0, .bool true, .int .i64 0, .int .i64 0, .slice none 0 0] rfl 69 _ (Cel.new _ _ _) (by kernel_rfl) rfl rfl ?_; rw [setRow_alloc _ _ _ _ _ rfl])
          | fail)
        have hM2 := (hM0.trans hm).alloc (.cells #[.int .i64 0, .bool true, .int .i64 0, .int .i64 0, .slice none 0 0] 69)
        have hN := Cel.new w1 #[.int .i64 0, .bool true, .int .i64 0, .int .i64 0, .slice none 0 0] 69
        have hb2 := (hb0.mod hm (by simp)).alloc (.cells #[.int .i64 0, .bool true, .int .i64 0, .int .i64 0, .slice none 0 0] 69)
        have hNz : w.heap.size < w1.heap.size := by have := hm.size; omega
        have hNz2 : w1.heap.size < (w1.alloc (.cells #[.int .i64 0, .bool true, .int .i64 0, .int .i64 0, .slice none 0 0] 69)).heap.size := by simp
        generalize w1.alloc (.cells #[.int .i64 0, .bool true, .int .i64 0, .int .i64 0, .slice none 0 0] 69) = W at *
        generalize w1.heap.size = N at *
        have hne : N ≠ w.heap.size := by omega
        have HCL := Lib.hid (fun (X : World) (hX : Mod [] w X) => clone8 s l X (hs.below hX) hl)
        have HM2 := Lib.hid hM2
        clear hM0 hb0 h1 hs1 hz c4 hm hM2
        have B0 := hb2.drew
        have N0 := hN.drew
        go_region_held3 (PromS w N r wh) (with_reducible first | exact PromS.mk B0 N0 | exact PromS.mk B2 N2 | exact PromS.mk B3 N3 | exact PromS.mk B4 N4)
          (first | (go_at_call 22; refine (HCL.out _ HM2.out.drew).mono ?_; rintro e2 w2 ⟨s1, rfl, hc⟩; have B2 := hb2.drew.mod hc.mod (by simp); have N2 := hN.drew.mod hc.mod (by simp); have B3 := (B2.setOther (a := ⟨N, 2, none⟩) hne (.int .i64 r)).setOther (a := ⟨N, 3, none⟩) hne (.int .i64 wh); have N3 := (N2.set 2 (.int .i64 r)).set 3 (.int .i64 wh); have B4 := B3.setOther (a := ⟨N, 4, none⟩) hne (.slice s1.a s1.len s1.cap); have N4 := N3.set 4 (.slice s1.a s1.len s1.cap); have n2 : w2.cell? ⟨N, 2, none⟩ = some (.int .i64 0) := N2.cell 2; have n3 : w2.cell? ⟨N, 3, none⟩ = some (.int .i64 0) := N2.cell 3; have n4 : w2.cell? ⟨N, 4, none⟩ = some (.slice none 0 0) := N2.cell 4))
        have hmX : Mod [] w (((w2.setCell ⟨N, 2, none⟩ (.int .i64 r)).setCell ⟨N, 3, none⟩ (.int .i64 wh)).setCell ⟨N, 4, none⟩ (.slice s1.a s1.len s1.cap)) :=
          (((HM2.out.drew.trans hc.mod).setCell (p := ⟨N, 2, none⟩) (.inr (Nat.le_of_lt hNz)) _).setCell (p := ⟨N, 3, none⟩) (.inr (Nat.le_of_lt hNz)) _).setCell (p := ⟨N, 4, none⟩) (.inr (Nat.le_of_lt hNz)) _
        have hoX : Own8 (((w2.setCell ⟨N, 2, none⟩ (.int .i64 r)).setCell ⟨N, 3, none⟩ (.int .i64 wh)).setCell ⟨N, 4, none⟩ (.slice s1.a s1.len s1.cap)) s1 l := by
          refine hc.own.mod (fp := [N]) ((((Mod.refl _ _).setCell (p := ⟨N, 2, none⟩) (.inl (by simp)) _).setCell (p := ⟨N, 3, none⟩) (.inl (by simp)) _).setCell (p := ⟨N, 4, none⟩) (.inl (by simp)) _) (fun x hx => ?_)
          simp at hx; subst hx
          exact N2.noBytes (by decide)
        have N5 : Cel (((w2.setCell ⟨N, 2, none⟩ (.int .i64 r)).setCell ⟨N, 3, none⟩ (.int .i64 wh)).setCell ⟨N, 4, none⟩ (.slice s1.a s1.len s1.cap)) N (⟨0, true, r, wh, s1⟩ : Ans).cells 69 := N4
        generalize ((w2.setCell ⟨N, 2, none⟩ (.int .i64 r)).setCell ⟨N, 3, none⟩ (.int .i64 wh)).setCell ⟨N, 4, none⟩ (.slice s1.a s1.len s1.cap) = X at *
        clear B0 N0 B2 N2 B3 N3 B4 N4 n2 n3 n4 hc HM2 HCL hN hb2
        have hPX := h.below hmX
        have HN5 := Lib.hid N5
        have HMX := Lib.hid hmX
        clear N5 hmX h hs
        go_wp2_with (first
          | (refine wpList_load_row rfl 69 _ rfl _ rfl 69 _ (0, 0) _ HN5.out Try.underlying69 rfl (by kernel_rfl) ?_)
          | fail)
        refine (HT.out X s1 hPX hoX).mono ?_
        rintro e3 w3 ⟨rfl, hP3, hm3⟩
        have hM3 : Mod [b, mp] w w3 := (HMX.out.mono (by simp) : Mod [b, mp] w X).trans hm3
        have HM3 := Lib.hid hM3
        clear hM3 hm3 HMX HN5 hPX hoX
        cases ok with
        | false =>
          go_wp2
          go_end0
          exact ⟨rfl, g1, mp, HG.out _ (by rw [if_neg (by simp)]), .inl rfl, hP3, HM3.out⟩
        | true =>
          go_wp2_with fail
          refine (choose_rep b mp g1 w3 hP3).mono ?_
          rintro e4 w4 ⟨rfl, v, hv, hP4, hm4⟩
          have hM4 : Mod [b, mp] w w4 := HM3.out.trans (hm4.mono (by simp))
          have hS4 := prep_set4 hP4 2
          have hF4 := prep_fresh hS4
          have hz5 : (w4.setCell ⟨b, 4, none⟩ (.int .i64 2)).heap.size = w4.heap.size := by simp
          rw [hz5] at hF4
          have hbl := hP4.lt
          have hcel : ∃ p : PSt, Cel w4 b p.cells 67 := by
            obtain ⟨p, M, c, B, h1, h2, h3, h4, h5, h6, h7, _⟩ := hP4
            exact ⟨p, h7.cel⟩
          obtain ⟨p, hc⟩ := hcel
          have c4 : w4.cell? ⟨b, 4, none⟩ = some (.int .i64 p.phase) := hc.cell 4
          have c5 : w4.cell? ⟨b, 5, none⟩ = some (.map (some p.mp)) := hc.cell 5
          have c6 : w4.cell? ⟨b, 6, none⟩ = some (.int .i64 p.agreed) := hc.cell 6
          have f4 := hc.frozen 4
          have f5 := hc.frozen 5
          have f6 := hc.frozen 6
          have hbl1 := hbl.1
          have HF4 := Lib.hid hF4
          have HM4 := Lib.hid hM4
          have HV := Lib.hid hv
          have hsz4 : w.heap.size ≤ w4.heap.size := hM4.size
          clear hS4 hF4 hM4 hm4 hP4 hP3 HM3 hv hc hbl hsz
          have hmm := @run_makeMap Try.prog
          go_wp2
          go_end0
          refine ⟨rfl, _, _, HG.out _ (by rw [if_pos trivial]; exact ⟨v, by rw [← hvb]; exact HV.out, rfl⟩), .inr ?_, HF4.out.1, ?_⟩
          · exact hsz4
          · exact (HM4.out.setCell (p := ⟨b, 4, none⟩) (.inl (by simp)) _).trans HF4.out.2
      · have HT := Lib.hid (fun (W : World) (hP : PRep W b mp g) => take_rep b mp g f ⟨0, false, 0, 0, ⟨none, 0, 0⟩⟩ [] W hP hk hno (Own8.nil _))
        have hR0 : gAns e r wh l = ⟨false, 0, 0, []⟩ := if_neg he
        have hR2 : (gTake g f ⟨false, 0, 0, []⟩).2 = false := by unfold gTake; rw [if_neg (by simp)]; split <;> rfl
        rw [hR0] at HG
        simp only at HT
        have he2 : (e == 0) = false := by simpa using he
        generalize hR : gTake g f ⟨false, 0, 0, []⟩ = R at HG HT hR2
        obtain ⟨g1, ok⟩ := R
        simp only at HG HT hR2
        subst hR2
        clear hR hR0 he
        go_enter Try.func16, Try.ntmps16
        go_wp2_with fail
        refine (asked_rep b mp g f _ h1).mono ?_
        rw [HA.out]
        rintro e1 w1 ⟨rfl, hm⟩
        go_wp2_with (first
          | (refine wpList_store_row rfl 69 _ _ rfl _ rfl #[.int .i64 0, .bool false, .int .i64 0, .int .i64 0, .slice none 0 0] rfl 69 _ (Cel.new _ _ _) (by kernel_rfl) rfl rfl ?_; rw [setRow_alloc _ _ _ _ _ rfl])
          | (refine wpList_load_row rfl 69 _ rfl _ rfl 69 _ (0, 0) _ (Cel.new _ _ _) Try.underlying69 rfl (by kernel_rfl) ?_)
          | fail)
        have hM2 := (hM0.trans hm).alloc (.cells #[.int .i64 0, .bool false, .int .i64 0, .int .i64 0, .slice none 0 0] 69)
        refine (HT.out _ (h.below hM2)).mono ?_
        rintro e2 w2 ⟨rfl, hP, hm2⟩
        go_wp2
        go_end0
        exact ⟨rfl, g1, mp, HG.out _ (by rw [if_neg (by simp)]), .inl rfl, hP, (hM2.mono (by simp) : Mod [b, mp] w _).trans hm2⟩
  · have HG := Lib.hid (show GProm g f r wh l e g from by unfold GProm; rw [if_neg (fun hh => h2 hh.1)])
    have g2 : (g.phase != 1) = true := by simpa using h2
    clear h2
    go_enter Try.func16, Try.ntmps16
    go_wp2
    refine bodyPost_ret (results_none rfl _ _ _) rfl ?_
    exact ⟨rfl, g, mp, HG.out, .inl rfl, h1, hM0.mono (by simp)⟩
end Go.Proofs.Ytlkfejnjdlebbaa
