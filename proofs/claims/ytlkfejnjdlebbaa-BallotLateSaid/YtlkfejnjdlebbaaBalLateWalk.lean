/- The walk of BallotLate: it answers true, and turns nothing that was there. Printed by late.py. No condition. -/
import Derived.Test.YtlkfejnjdlebbaaBalLateLaw
import Derived.Test.YtlkfejnjdlebbaaBalLateOpen
namespace Go.Proofs.Ytlkfejnjdlebbaa
open Go.RowKit

def LateRel (w : World) (n : Int) (lt : Ra) (b olen : Nat) (i : Value) (wr : World) : Prop :=
  ∃ (k mp : Nat) (g : GSt), k ≤ olen ∧ i = .int .i64 k ∧ LInv n k g ∧ PRep wr b mp g ∧ w.heap.size < mp ∧ Cel wr w.heap.size lt.cells 54 ∧ Mod [] w wr
theorem LateRel.mk {w : World} {n : Int} {lt : Ra} {b olen : Nat} {i : Value} {wr : World} (k mp : Nat) (g : GSt) (h : k ≤ olen ∧ i = .int .i64 k ∧ LInv n k g ∧ PRep wr b mp g ∧ w.heap.size < mp ∧ Cel wr w.heap.size lt.cells 54 ∧ Mod [] w wr) : LateRel w n lt b olen i wr := ⟨k, mp, g, h⟩

/-- The condition of a region's walk may grow on the way. -/
theorem held_grow {P : Program} {md : Region.Mode} {ops : Array Oper} {Q : Exit → Act → World → Prop} {S S' : World → Prop} (h : ∀ w, S' w → S w) : ∀ (fuel : Nat) (listed : Array Bool) (a : Act) (w : World), wpAnyH P md ops Q S' fuel listed a w → wpAnyH P md ops Q S fuel listed a w
  | 0, _, _, _, hh => hh
  | fuel + 1, _, _, _, hh => ⟨hh.1, fun i hi => wpOp_mono (fun a' w' h' => ⟨h _ h'.1, held_grow h fuel _ a' w' h'.2⟩) (hh.2 i hi)⟩

/-- What a proposer answers in every world that came of this one. -/
structure Says (b mp : Nat) (g : GSt) (W : World) : Prop where
  hp : ∀ X, Mod [] W X → Calls Try.prog 14 #[.pointer (some ⟨b, 0, none⟩)] X fun e w' => e = .returned (.int .i64 g.phase) ∧ X = w'
  ha : ∀ X f, Mod [] W X → Calls Try.prog 15 #[.pointer (some ⟨b, 0, none⟩), .int .i64 f] X fun e w' => e = .returned (.bool (gAsked g f)) ∧ Mod [] X w'
  hv : ∀ X, Mod [] W X → Calls Try.prog 18 #[.pointer (some ⟨b, 0, none⟩)] X fun e w' => ∃ s' : Slc, e = .returned s'.val ∧ Own8 w' s' g.vb ∧ Mod [] X w'
theorem PRep.says {b mp : Nat} {g : GSt} {W : World} (h : PRep W b mp g) (hv : g.vb.length ≤ 140737488355328) : Says b mp g W :=
  ⟨fun X hX => phase_rep b mp g X (h.below hX), fun X f hX => asked_rep b mp g f X (h.below hX), fun X hX => (value_rep b mp g X (h.below hX) hv).mono fun _ _ ⟨s', h1, h2, _, h3⟩ => ⟨s', h1, h2, h3⟩⟩

set_option maxRecDepth 100000 in
set_option maxHeartbeats 8000000 in
theorem late_true (acc : Int) (ob : Option Addr) (olen ocap : Nat) (ra : Nat → Ra × List UInt8) (lt : Ra) (ll : List UInt8) (w : World) (h3 : olen ≤ 60) (hz : AnsAt w ob olen ra) (hl : Rd8 w lt.val ll) (hlb : lt.val.len ≤ 140737488355328) :
    Calls Try.prog 6 #[.int .i64 acc, .slice ob olen ocap, .agg lt.cells] w fun e w' => e = .returned (.bool true) ∧ Mod [] w w' := by
  have d1 : (olen : Int) ≤ 60 := by omega
  have ha7 := and7 acc
  have hN0 : 0 ≤ acc % 8 ∧ acc % 8 ≤ 7 := by omega
  generalize acc % 8 = N0 at ha7 hN0
  have hB0 := Cel.new w lt.cells 54
  have hM0 := (Mod.refl [] w).alloc (.cells lt.cells 54)
  have HZ := Lib.hid hz
  have HL := Lib.hid hl
  clear hz hl
  unfold Ra.cells at hB0 hM0 ⊢
  go_enter Try.func6, Try.ntmps6
  go_wp2_with fail
  refine (bspeaks_any _).mono ?_
  rintro e w1 ⟨rfl, hm1⟩
  have hM1 := hM0.trans hm1
  have hB1 := hB0.mod hm1 (by simp)
  have hlt1 := hB1.lt
  clear hM0 hB0 hm1
  have hci : (convert 26 26 (.slice (some ⟨w1.heap.size, 0, none⟩) 3 3)).run Try.prog (w1.alloc (.cells #[.int .u8 111, .int .u8 119, .int .u8 110] 5)) = .ok (.slice (some ⟨w1.heap.size, 0, none⟩) 3 3) (w1.alloc (.cells #[.int .u8 111, .int .u8 119, .int .u8 110] 5 (3, 4))) :=
    Lib.run_convert_bytes_const w1 _ 5 #[.int .u8 111, .int .u8 119, .int .u8 110] 3 3 Try.underlying26 Try.underlying5
  have hr : Rd8 (w1.alloc (.cells #[.int .u8 111, .int .u8 119, .int .u8 110] 5 (3, 4))) ⟨some ⟨w1.heap.size, 0, none⟩, 3, 3⟩ [111, 119, 110] := rd8_const w1 [111, 119, 110]
  have hm2 := (Mod.refl [] w1).alloc (.cells #[.int .u8 111, .int .u8 119, .int .u8 110] 5 (3, 4))
  have hz2 : w1.heap.size ≤ (w1.alloc (.cells #[.int .u8 111, .int .u8 119, .int .u8 110] 5 (3, 4))).heap.size := hm2.size
  have HST := Lib.hid (start_bal (N0 + 1) 2 0 _ [111, 119, 110] _ hr (by simp) (by omega))
  have HM2 := Lib.hid hm2
  clear hr hm2
  go_wp2_with fail
  refine HST.out.mono ?_
  rintro e w2 ⟨b, m0, rfl, hb, hm0, hP, hm3⟩
  have hMa : Mod [] w w2 := hM1.trans (HM2.out.trans hm3)
  have hBa := hB1.mod (HM2.out.trans hm3) (by simp)
  have hb' : w.heap.size < b := by omega
  have hm' : w.heap.size < m0 := by omega
  clear hM1 hB1 HM2 HST hm3 hb hm0 hlt1 hz2 hci
  obtain ⟨n, hn⟩ : ∃ n, n = N0 + 1 := ⟨_, rfl⟩
  rw [← hn] at hP ⊢
  have hn1 : 1 ≤ n := by omega
  have hn8 : n ≤ 8 := by omega
  clear hn hN0 ha7
  have hrel0 : LateRel w n lt b olen (.int .i64 0) w2 := LateRel.mk 0 m0 _ ⟨Nat.zero_le _, rfl, LInv.start n _ hn1 hn8 (by simp) 2 0, hP, hm', hBa, hMa⟩
  clear hP hm' hBa hMa
  go_wp2_with fail
  go_loopw [33] (fun i wr => LateRel w n lt b olen i wr) (fun i _ => olen - (intOf i).toNat)
  case atStart => exact hrel0
  case round =>
    obtain ⟨k, mp, g, hk, rfl, hI, hP, hmw, hB, hMr⟩ := hrel
    clear hrel0
    by_cases hlt : k < olen
    · obtain ⟨x, rfl, hxs, hxw, hx, hrd, hsb⟩ := HZ.out k hlt
      obtain ⟨xb, xo, xs⟩ := x
      simp only at hx hxw hxs
      subst hxs
      have hx' : ∀ j, j < 6 → wr.cell? ⟨xb, xo + k * 6 + j, none⟩ = (ra k).1.cells[j]? := fun j hj => (hMr.cell (a := ⟨xb, xo + k * 6 + j, none⟩) hxw (by simp)).trans (hx j hj)
      have hrd' := hrd.below hMr
      clear hx hrd
      generalize ra k = m at hx' hrd' hsb
      obtain ⟨⟨ph, frm, ok, r, q, s⟩, l⟩ := m
      simp only at hx' hrd' hsb
      have hbl := hP.lt
      have hBl := hB.lt
      obtain ⟨N, hNN⟩ : ∃ N, N = wr.heap.size := ⟨_, rfl⟩
      have HPr := Lib.hid hP
      have HIr := Lib.hid hI
      have HBr := Lib.hid hB
      have HMr := Lib.hid hMr
      have HRD := Lib.hid hrd'
      clear hP hI hB hMr hrd'
      cases ok
      · have hXX : ∀ j, j < (#[.int .i64 ph, .int .i64 frm, .bool false, .int .i64 r, .int .i64 q, .slice s.a s.len s.cap] : Array Value).size → wr.cell? ⟨xb, xo + k * 6 + j, none⟩ = (#[.int .i64 ph, .int .i64 frm, .bool false, .int .i64 r, .int .i64 q, .slice s.a s.len s.cap] : Array Value)[j]? := hx'
        have HX := Lib.hid hXX
        clear hx' hXX
        have hW := (Mod.refl [] wr).alloc (.cells #[.int .i64 ph, .int .i64 frm, .bool false, .int .i64 r, .int .i64 q, .slice s.a s.len s.cap] 54)
        have hNc := Cel.new wr #[.int .i64 ph, .int .i64 frm, .bool false, .int .i64 r, .int .i64 q, .slice s.a s.len s.cap] 54
        rw [← hNN] at hNc
        have n0 : (wr.alloc (.cells #[.int .i64 ph, .int .i64 frm, .bool false, .int .i64 r, .int .i64 q, .slice s.a s.len s.cap] 54)).cell? ⟨N, 0, none⟩ = some (.int .i64 ph) := hNc.cell 0
        have n1 : (wr.alloc (.cells #[.int .i64 ph, .int .i64 frm, .bool false, .int .i64 r, .int .i64 q, .slice s.a s.len s.cap] 54)).cell? ⟨N, 1, none⟩ = some (.int .i64 frm) := hNc.cell 1
        have n2 : (wr.alloc (.cells #[.int .i64 ph, .int .i64 frm, .bool false, .int .i64 r, .int .i64 q, .slice s.a s.len s.cap] 54)).cell? ⟨N, 2, none⟩ = some (.bool false) := hNc.cell 2
        have hNl := hNc.lt
        have hSay := (HPr.out.below hW).says HIr.out.ok.vb
        have HSAY := Lib.hid hSay
        have HNC := Lib.hid hNc
        have HW := Lib.hid hW
        clear hSay hNc hW
        rw [hNN] at n0 n1 n2 hNl
        go_wp2_with (first
          | (refine wpList_load_cells rfl 54 _ rfl xb (xo + k * 6) rfl #[.int .i64 ph, .int .i64 frm, .bool false, .int .i64 r, .int .i64 q, .slice s.a s.len s.cap] _ HX.out Try.underlying54 rfl (by kernel_rfl) ?_)
          | (refine wpList_store_row rfl 54 _ _ rfl _ rfl #[.int .i64 ph, .int .i64 frm, .bool false, .int .i64 r, .int .i64 q, .slice s.a s.len s.cap] rfl 54 _ (Cel.new _ _ _) (by kernel_rfl) rfl rfl ?_; rw [setRow_alloc _ _ _ _ _ rfl])
          | fail)
        rw [← hNN] at n0 n1 n2 hNl ⊢
        generalize wr.alloc (.cells #[.int .i64 ph, .int .i64 frm, .bool false, .int .i64 r, .int .i64 q, .slice s.a s.len s.cap] 54) = W at n0 n1 n2 HSAY HNC HW hNl ⊢
        have hNb : b < N ∧ mp < N ∧ w.heap.size < N := by omega
        clear hNN
        by_cases hph : ph = 1
        · subst hph
          cases hA : gAsked g frm with
          | false =>
            have HA := Lib.hid hA
            by_cases hK : g.phase = 1
            · have HSTILL := Lib.hid (show ¬ (g.phase = 1 ∧ gAsked g frm = true) from fun hh => by rw [hA] at hh; cases hh.2)
              have k1 : (g.phase != 1) = false := by rw [hK]; rfl
              clear hA hK
              go_region_held3 (fun w' => w'.cell? ⟨N, 1, none⟩ = some (.int .i64 frm)) (first | exact n1 | exact n1b)
                (first | (go_at_call 14; (first | refine (HSAY.out.hp _ (Mod.refl _ _).drew).mono ?_ | refine (HSAY.out.hp _ mB).mono ?_); rintro e2 w2' ⟨rfl, rfl⟩) | (go_at_call 15; refine (HSAY.out.ha _ frm (Mod.refl _ _).drew).mono ?_; rw [HA.out]; rintro e3 w3 ⟨rfl, hm3⟩; have mB := (Mod.refl [] W).drew.trans hm3; have n1b : w3.cell? ⟨N, 1, none⟩ = some (.int .i64 frm) := (HNC.out.mod mB (by simp)).cell 1))
              all_goals
                rename_i hheld
                clear hheld
                clear n0 n1 n2 n1b
                have m3 := HW.out.trans mB
                have HS3 := Lib.hid ((HPr.out.below m3).says HIr.out.ok.vb)
                have hN3 := HNC.out.mod mB (by simp)
                have c0 : w3.cell? ⟨N, 0, none⟩ = some (.int .i64 1) := hN3.cell 0
                have HN3 := Lib.hid hN3
                have HM3 := Lib.hid m3
                clear hN3 m3 mB hm3
                go_wp2_with fail
                refine (HS3.out.hv _ (Mod.refl _ _)).mono ?_
                rintro e4 w4 ⟨s1, rfl, ho1, hm4⟩
                clear c0
                have hN4 := HN3.out.mod hm4 (by simp)
                have c0 : w4.cell? ⟨N, 0, none⟩ = some (.int .i64 1) := hN4.cell 0
                have c1 : w4.cell? ⟨N, 1, none⟩ = some (.int .i64 frm) := hN4.cell 1
                have c3 : w4.cell? ⟨N, 3, none⟩ = some (.int .i64 r) := hN4.cell 3
                have c4 : w4.cell? ⟨N, 4, none⟩ = some (.int .i64 q) := hN4.cell 4
                have c5 : w4.cell? ⟨N, 5, none⟩ = some (.slice s.a s.len s.cap) := hN4.cell 5
                have HM4 := Lib.hid (HM3.out.trans hm4)
                have HP4 := Lib.hid (HPr.out.below HM4.out)
                have HN4 := Lib.hid hN4
                have HO1 := Lib.hid ho1
                clear hN4 hm4 ho1 HS3 HN3 HM3
                go_wp2_with fail
                refine (promised_rep b mp g frm r q s l 7 w4 HP4.out HIr.out.ok (HRD.out.below HM4.out) hsb).mono ?_
                rintro e5 w5 ⟨rfl, g', mp', hg, hmp', hP5, hM5⟩
                have hI5 := HIr.out.prom (by omega) (by rw [HRD.out.len]; exact hsb) hg
                have hmp5 : w.heap.size < mp' := by have := HMr.out.size; have := HM4.out.size; rcases hmp' with h | h <;> omega
                obtain rfl : g' = g := prom_still (fun hh => HSTILL.out hh) hg
                clear c0 c1 c3 c4 c5
                have hN5 := HN4.out.mod hM5 (by simp; omega)
                have hB5 : Cel w5 w.heap.size lt.cells 54 := (HBr.out.mod HM4.out (by simp)).mod hM5 (by simp; omega)
                have hO5 := HO1.out.mod hM5 HP4.out.noBytes
                have hMw5 : Mod [] w w5 := (HMr.out.trans HM4.out).then hM5 (by simp; omega)
                have c0 : w5.cell? ⟨N, 0, none⟩ = some (.int .i64 1) := hN5.cell 0
                have c1 : w5.cell? ⟨N, 1, none⟩ = some (.int .i64 frm) := hN5.cell 1
                have HS5 := Lib.hid (hP5.says hI5.ok.vb)
                have HCV5 := Lib.hid (fun (X : World) (hX : Mod [] w5 X) => conv8 (hO5.below hX).rd)
                have HN5 := Lib.hid hN5
                have HB5 := Lib.hid hB5
                have HMW := Lib.hid hMw5
                have HP5 := Lib.hid hP5
                have HI5 := Lib.hid hI5
                clear hN5 hB5 hO5 hMw5 hM5 hP5 hI5 HN4 HO1 HP4 HM4 hg hmp'
                have hcv1 := HCV5.out _ (Mod.refl [] w5).drew
                go_wp2_with fail
                refine wp_region_noPanic ?_
                refine wp_region_held_drew (S := (fun X => X.cell? ⟨N, 1, none⟩ = some (.int .i64 frm) ∧ (convert 26 9 (.slice s1.a s1.len s1.cap)).run Try.prog X = .ok (.string ⟨g'.vb.toArray⟩) X)) (by kernel_rfl) ⟨c1, hcv1⟩ (fun hHeld => ?_)
                refine wpAnyH_take (i := 0) (v := ?_) rfl (by kernel_rfl) (by kernel_rfl) (by kernel_rfl) (fun _ _ _ h => h) (Or.inl ⟨by rfl, ?_⟩) (by assumption) ?_; rotate_left; focus (intro wS hSw; (try dsimp only at hSw); first | (go_simp; done) | (go_simp; with_reducible rfl))
                simp only [List.getElem_toArray, List.getElem_cons_zero, Act.put, List.setIfInBounds_toArray, List.set_cons_zero, List.set_cons_succ]
                refine wpAnyH_take (i := 1) (v := ?_) rfl (by kernel_rfl) (by kernel_rfl) (by kernel_rfl) (fun _ _ _ h => h) (Or.inl ⟨by rfl, ?_⟩) (by assumption) ?_; rotate_left; focus (intro wS hSw; (try dsimp only at hSw); first | (go_simp; done) | (go_simp; with_reducible rfl))
                simp only [List.getElem_toArray, List.getElem_cons_succ, List.getElem_cons_zero, Act.put, List.setIfInBounds_toArray, List.set_cons_zero, List.set_cons_succ]
                refine wpAnyH_take (i := 2) (v := ?_) rfl (by kernel_rfl) (by kernel_rfl) (by kernel_rfl) (fun _ _ _ h => h) (Or.inl ⟨by rfl, ?_⟩) (by assumption) ?_; rotate_left; focus (intro wS hSw; (try dsimp only at hSw); first | (go_simp; done) | (go_simp; with_reducible rfl))
                simp only [List.getElem_toArray, List.getElem_cons_succ, List.getElem_cons_zero, Act.put, List.setIfInBounds_toArray, List.set_cons_zero, List.set_cons_succ]
                refine wpAnyH_take (i := 3) (v := undef) rfl (by kernel_rfl) (by kernel_rfl) (by kernel_rfl) (fun _ _ _ h => h) (Or.inr ⟨by rfl, rfl⟩) (by assumption) ?_
                simp only [List.getElem_toArray, List.getElem_cons_succ, List.getElem_cons_zero, Act.put, List.setIfInBounds_toArray, List.set_cons_zero, List.set_cons_succ]
                refine wpAnyH_take (i := 4) (v := ?_) rfl (by kernel_rfl) (by kernel_rfl) (by kernel_rfl) (fun _ _ _ h => h) (Or.inl ⟨by rfl, ?_⟩) (by assumption) ?_; rotate_left; focus (intro wS hSw; (try dsimp only at hSw); first | (go_simp; done) | (go_simp; with_reducible rfl))
                simp only [List.getElem_toArray, List.getElem_cons_succ, List.getElem_cons_zero, Act.put, List.setIfInBounds_toArray, List.set_cons_zero, List.set_cons_succ]
                refine wpAnyH_take (i := 5) (v := ?_) rfl (by kernel_rfl) (by kernel_rfl) (by kernel_rfl) (fun _ _ _ h => h) (Or.inl ⟨by rfl, ?_⟩) (by assumption) ?_; rotate_left; focus (intro wS hSw; (try dsimp only at hSw); first | (go_simp; done) | (go_simp; with_reducible rfl))
                simp only [List.getElem_toArray, List.getElem_cons_succ, List.getElem_cons_zero, Act.put, List.setIfInBounds_toArray, List.set_cons_zero, List.set_cons_succ]
                refine wpAnyH_take (i := 6) (v := ?_) rfl (by kernel_rfl) (by kernel_rfl) (by kernel_rfl) (fun _ _ _ h => h) (Or.inl ⟨by rfl, ?_⟩) (by assumption) ?_; rotate_left; focus (intro wS hSw; (try dsimp only at hSw); first | (go_simp; done) | (go_simp; with_reducible rfl))
                simp only [List.getElem_toArray, List.getElem_cons_succ, List.getElem_cons_zero, Act.put, List.setIfInBounds_toArray, List.set_cons_zero, List.set_cons_succ]
                refine wpAnyH_take (i := 8) (v := ?_) rfl (by kernel_rfl) (by kernel_rfl) (by kernel_rfl) (fun _ _ _ h => h) (Or.inl ⟨by rfl, ?_⟩) (by assumption) ?_; rotate_left; focus (intro wS hSw; (try dsimp only at hSw); first | (go_simp; done) | (go_simp; with_reducible rfl))
                simp only [List.getElem_toArray, List.getElem_cons_succ, List.getElem_cons_zero, Act.put, List.setIfInBounds_toArray, List.set_cons_zero, List.set_cons_succ]
                refine wpAnyH_ready (rs := [7]) (by kernel_rfl) (by simp) ?_
                refine AllReadyH.cons rfl (fun K hK => ?_) AllReadyH.nil
                go_simp
                go_at_call 14
                refine (HS5.out.hp _ (Mod.refl _ _).drew).mono ?_
                rintro e6 w6 ⟨rfl, rfl⟩
                refine hK.out _ _ ?_ (fun hHeld => ?_)
                · exact hHeld
                clear hK K
                refine wpAnyH_take (i := 9) (v := ?_) rfl (by kernel_rfl) (by kernel_rfl) (by kernel_rfl) (fun _ _ _ h => h) (Or.inl ⟨by rfl, ?_⟩) (by assumption) ?_; rotate_left; focus (intro wS hSw; (try dsimp only at hSw); first | (go_simp; done) | (go_simp; with_reducible rfl))
                simp only [List.getElem_toArray, List.getElem_cons_succ, List.getElem_cons_zero, Act.put, List.setIfInBounds_toArray, List.set_cons_zero, List.set_cons_succ]
                refine wpAnyH_take (i := 10) (v := ?_) rfl (by kernel_rfl) (by kernel_rfl) (by kernel_rfl) (fun _ _ _ h => h) (Or.inl ⟨by rfl, ?_⟩) (by assumption) ?_; rotate_left; focus (intro wS hSw; (try dsimp only at hSw); first | (go_simp; done) | (go_simp; with_reducible rfl))
                simp only [List.getElem_toArray, List.getElem_cons_succ, List.getElem_cons_zero, Act.put, List.setIfInBounds_toArray, List.set_cons_zero, List.set_cons_succ]
                refine wpAnyH_take (i := 11) (v := ?_) rfl (by kernel_rfl) (by kernel_rfl) (by kernel_rfl) (fun _ _ _ h => h) (Or.inl ⟨by rfl, ?_⟩) (by assumption) ?_; rotate_left; focus (intro wS hSw; (try dsimp only at hSw); first | (go_simp; done) | (go_simp; with_reducible rfl))
                simp only [List.getElem_toArray, List.getElem_cons_succ, List.getElem_cons_zero, Act.put, List.setIfInBounds_toArray, List.set_cons_zero, List.set_cons_succ]
                refine wpAnyH_take (i := 14) (v := ?_) rfl (by kernel_rfl) (by kernel_rfl) (by kernel_rfl) (fun _ _ _ h => h) (Or.inl ⟨by rfl, ?_⟩) (by assumption) ?_; rotate_left; focus (intro wS hSw; (try dsimp only at hSw); first | (go_simp; done) | (go_simp; with_reducible rfl))
                simp only [List.getElem_toArray, List.getElem_cons_succ, List.getElem_cons_zero, Act.put, List.setIfInBounds_toArray, List.set_cons_zero, List.set_cons_succ]
                refine wpAnyH_take (i := 15) (v := ?_) rfl (by kernel_rfl) (by kernel_rfl) (by kernel_rfl) (fun _ _ _ h => h) (Or.inl ⟨by rfl, ?_⟩) (by assumption) ?_; rotate_left; focus (intro wS hSw; (try dsimp only at hSw); first | (go_simp; done) | (go_simp; with_reducible rfl))
                simp only [List.getElem_toArray, List.getElem_cons_succ, List.getElem_cons_zero, Act.put, List.setIfInBounds_toArray, List.set_cons_zero, List.set_cons_succ]
                refine wpAnyH_ready (rs := [12]) (by kernel_rfl) (by simp) ?_
                refine AllReadyH.cons rfl (fun K hK => ?_) AllReadyH.nil
                go_simp
                go_at_call 18
                refine (HS5.out.hv _ (Mod.refl _ _).drew).mono ?_
                rintro e7 w7 ⟨s2, rfl, ho2, hm7⟩
                have hcv2 := conv8 ho2.rd
                have mD := (Mod.refl [] w5).drew.trans hm7
                have hcv3 := HCV5.out _ mD
                have c1b : w7.cell? ⟨N, 1, none⟩ = some (.int .i64 frm) := (HN5.out.mod mD (by simp)).cell 1
                refine hK.out _ _ ?_ (fun hHeld => ?_)
                · exact ⟨c1b, hcv3⟩
                clear hK K
                refine held_grow (S' := (fun X => (convert 26 9 (.slice s2.a s2.len s2.cap)).run Try.prog X = .ok (.string ⟨g'.vb.toArray⟩) X ∧ X.cell? ⟨N, 1, none⟩ = some (.int .i64 frm) ∧ (convert 26 9 (.slice s1.a s1.len s1.cap)).run Try.prog X = .ok (.string ⟨g'.vb.toArray⟩) X)) (fun X hX => hX.2) _ _ _ _ ?_
                have hHeld2 : (fun X => (convert 26 9 (.slice s2.a s2.len s2.cap)).run Try.prog X = .ok (.string ⟨g'.vb.toArray⟩) X ∧ X.cell? ⟨N, 1, none⟩ = some (.int .i64 frm) ∧ (convert 26 9 (.slice s1.a s1.len s1.cap)).run Try.prog X = .ok (.string ⟨g'.vb.toArray⟩) X) w7 := ⟨hcv2, c1b, hcv3⟩
                refine wpAnyH_take (i := 13) (v := ?_) rfl (by kernel_rfl) (by kernel_rfl) (by kernel_rfl) (fun _ _ _ h => h) (Or.inl ⟨by rfl, ?_⟩) (by assumption) ?_; rotate_left; focus (intro wS hSw; (try dsimp only at hSw); first | (go_simp; done) | (go_simp; with_reducible rfl))
                simp only [List.getElem_toArray, List.getElem_cons_succ, List.getElem_cons_zero, Act.put, List.setIfInBounds_toArray, List.set_cons_zero, List.set_cons_succ]
                refine wpAnyH_take (i := 16) (v := ?_) rfl (by kernel_rfl) (by kernel_rfl) (by kernel_rfl) (fun _ _ _ h => h) (Or.inl ⟨by rfl, ?_⟩) (by assumption) ?_; rotate_left; focus (intro wS hSw; (try dsimp only at hSw); first | (go_simp; done) | (go_simp; with_reducible rfl))
                simp only [List.getElem_toArray, List.getElem_cons_succ, List.getElem_cons_zero, Act.put, List.setIfInBounds_toArray, List.set_cons_zero, List.set_cons_succ]
                refine wpAnyH_take (i := 17) (v := ?_) rfl (by kernel_rfl) (by kernel_rfl) (by kernel_rfl) (fun _ _ _ h => h) (Or.inl ⟨by rfl, ?_⟩) (by assumption) ?_; rotate_left; focus (intro wS hSw; (try dsimp only at hSw); first | (go_simp; done) | (go_simp; with_reducible rfl))
                simp only [List.getElem_toArray, List.getElem_cons_succ, List.getElem_cons_zero, Act.put, List.setIfInBounds_toArray, List.set_cons_zero, List.set_cons_succ]
                refine wpAnyH_take (i := 18) (v := ?_) rfl (by kernel_rfl) (by kernel_rfl) (by kernel_rfl) (fun _ _ _ h => h) (Or.inl ⟨by rfl, ?_⟩) (by assumption) ?_; rotate_left; focus (intro wS hSw; (try dsimp only at hSw); first | (go_simp; done) | (go_simp; with_reducible rfl))
                simp only [List.getElem_toArray, List.getElem_cons_succ, List.getElem_cons_zero, Act.put, List.setIfInBounds_toArray, List.set_cons_zero, List.set_cons_succ]
                refine wpAnyH_take (i := 19) (v := ?_) rfl (by kernel_rfl) (by kernel_rfl) (by kernel_rfl) (fun _ _ _ h => h) (Or.inl ⟨by rfl, ?_⟩) (by assumption) ?_; rotate_left; focus (intro wS hSw; (try dsimp only at hSw); first | (go_simp; done) | (go_simp; with_reducible rfl))
                simp only [List.getElem_toArray, List.getElem_cons_succ, List.getElem_cons_zero, Act.put, List.setIfInBounds_toArray, List.set_cons_zero, List.set_cons_succ]
                refine wpAnyH_take (i := 20) (v := ?_) rfl (by kernel_rfl) (by kernel_rfl) (by kernel_rfl) (fun _ _ _ h => h) (Or.inl ⟨by rfl, ?_⟩) (by assumption) ?_; rotate_left; focus (intro wS hSw; (try dsimp only at hSw); first | (go_simp; done) | (go_simp; with_reducible rfl))
                simp only [List.getElem_toArray, List.getElem_cons_succ, List.getElem_cons_zero, Act.put, List.setIfInBounds_toArray, List.set_cons_zero, List.set_cons_succ]
                refine wpAnyH_take (i := 21) (v := ?_) rfl (by kernel_rfl) (by kernel_rfl) (by kernel_rfl) (fun _ _ _ h => h) (Or.inl ⟨by rfl, ?_⟩) (by assumption) ?_; rotate_left; focus (intro wS hSw; (try dsimp only at hSw); first | (go_simp; done) | (go_simp; with_reducible rfl))
                simp only [List.getElem_toArray, List.getElem_cons_succ, List.getElem_cons_zero, Act.put, List.setIfInBounds_toArray, List.set_cons_zero, List.set_cons_succ]
                refine wpAnyH_take (i := 23) (v := ?_) rfl (by kernel_rfl) (by kernel_rfl) (by kernel_rfl) (fun _ _ _ h => h) (Or.inl ⟨by rfl, ?_⟩) (by assumption) ?_; rotate_left; focus (intro wS hSw; (try dsimp only at hSw); first | (go_simp; done) | (go_simp; with_reducible rfl))
                simp only [List.getElem_toArray, List.getElem_cons_succ, List.getElem_cons_zero, Act.put, List.setIfInBounds_toArray, List.set_cons_zero, List.set_cons_succ]
                refine wpAnyH_ready (rs := [22]) (by kernel_rfl) (by simp) ?_
                refine AllReadyH.cons rfl (fun K hK => ?_) AllReadyH.nil
                go_simp
                go_at_call 15
                refine (HS5.out.ha _ frm mD).mono ?_
                rw [HA.out]
                rintro e8 w8 ⟨rfl, hm8⟩
                have mE := mD.trans hm8
                refine hK.out _ _ ?_ (fun hHeld => ?_)
                · exact ⟨conv8 (ho2.below hm8).rd, (HN5.out.mod mE (by simp)).cell 1, HCV5.out _ mE⟩
                clear hK K
                refine wpAnyH_take (i := 24) (v := ?_) rfl (by kernel_rfl) (by kernel_rfl) (by kernel_rfl) (fun _ _ _ h => h) (Or.inl ⟨by rfl, ?_⟩) (by assumption) ?_; rotate_left; focus (intro wS hSw; (try dsimp only at hSw); first | (go_simp; done) | (go_simp; with_reducible rfl))
                simp only [List.getElem_toArray, List.getElem_cons_succ, List.getElem_cons_zero, Act.put, List.setIfInBounds_toArray, List.set_cons_zero, List.set_cons_succ]
                refine wpAnyH_take (i := 25) (v := ?_) rfl (by kernel_rfl) (by kernel_rfl) (by kernel_rfl) (fun _ _ _ h => h) (Or.inl ⟨by rfl, ?_⟩) (by assumption) ?_; rotate_left; focus (intro wS hSw; (try dsimp only at hSw); first | (go_simp; done) | (go_simp; with_reducible rfl))
                simp only [List.getElem_toArray, List.getElem_cons_succ, List.getElem_cons_zero, Act.put, List.setIfInBounds_toArray, List.set_cons_zero, List.set_cons_succ]
                refine wpAnyH_take (i := 26) (v := ?_) rfl (by kernel_rfl) (by kernel_rfl) (by kernel_rfl) (fun _ _ _ h => h) (Or.inl ⟨by rfl, ?_⟩) (by assumption) ?_; rotate_left; focus (intro wS hSw; (try dsimp only at hSw); first | (go_simp; done) | (go_simp; with_reducible rfl))
                simp only [List.getElem_toArray, List.getElem_cons_succ, List.getElem_cons_zero, Act.put, List.setIfInBounds_toArray, List.set_cons_zero, List.set_cons_succ]
                refine wpAnyH_done (by kernel_rfl) ?_ _
                refine NoPanic.normal ?_
                go_wp2
                go_roundw
                case rel => exact LateRel.mk (k + 1) mp' g' ⟨by omega, by go_num, HI5.out, HP5.out.below mE, hmp5, HB5.out.mod mE (by simp), HMW.out.trans mE⟩
                case measure => simp [intOf]; omega
            · have HSTILL := Lib.hid (show ¬ (g.phase = 1 ∧ gAsked g frm = true) from fun hh => by rw [hA] at hh; cases hh.2)
              have k1 : (g.phase != 1) = true := by simpa using hK
              clear hA hK
              go_region_held3 (fun w' => w'.cell? ⟨N, 1, none⟩ = some (.int .i64 frm)) (first | exact n1 | exact n1b)
                (first | (go_at_call 14; (first | refine (HSAY.out.hp _ (Mod.refl _ _).drew).mono ?_ | refine (HSAY.out.hp _ mB).mono ?_); rintro e2 w2' ⟨rfl, rfl⟩) | (go_at_call 15; refine (HSAY.out.ha _ frm (Mod.refl _ _).drew).mono ?_; rw [HA.out]; rintro e3 w3 ⟨rfl, hm3⟩; have mB := (Mod.refl [] W).drew.trans hm3; have n1b : w3.cell? ⟨N, 1, none⟩ = some (.int .i64 frm) := (HNC.out.mod mB (by simp)).cell 1))
              all_goals
                rename_i hheld
                clear hheld
                clear n0 n1 n2 n1b
                have m3 := HW.out.trans mB
                have HS3 := Lib.hid ((HPr.out.below m3).says HIr.out.ok.vb)
                have hN3 := HNC.out.mod mB (by simp)
                have c0 : w3.cell? ⟨N, 0, none⟩ = some (.int .i64 1) := hN3.cell 0
                have HN3 := Lib.hid hN3
                have HM3 := Lib.hid m3
                clear hN3 m3 mB hm3
                go_wp2_with fail
                refine (HS3.out.hv _ (Mod.refl _ _)).mono ?_
                rintro e4 w4 ⟨s1, rfl, ho1, hm4⟩
                clear c0
                have hN4 := HN3.out.mod hm4 (by simp)
                have c0 : w4.cell? ⟨N, 0, none⟩ = some (.int .i64 1) := hN4.cell 0
                have c1 : w4.cell? ⟨N, 1, none⟩ = some (.int .i64 frm) := hN4.cell 1
                have c3 : w4.cell? ⟨N, 3, none⟩ = some (.int .i64 r) := hN4.cell 3
                have c4 : w4.cell? ⟨N, 4, none⟩ = some (.int .i64 q) := hN4.cell 4
                have c5 : w4.cell? ⟨N, 5, none⟩ = some (.slice s.a s.len s.cap) := hN4.cell 5
                have HM4 := Lib.hid (HM3.out.trans hm4)
                have HP4 := Lib.hid (HPr.out.below HM4.out)
                have HN4 := Lib.hid hN4
                have HO1 := Lib.hid ho1
                clear hN4 hm4 ho1 HS3 HN3 HM3
                go_wp2_with fail
                refine (promised_rep b mp g frm r q s l 7 w4 HP4.out HIr.out.ok (HRD.out.below HM4.out) hsb).mono ?_
                rintro e5 w5 ⟨rfl, g', mp', hg, hmp', hP5, hM5⟩
                have hI5 := HIr.out.prom (by omega) (by rw [HRD.out.len]; exact hsb) hg
                have hmp5 : w.heap.size < mp' := by have := HMr.out.size; have := HM4.out.size; rcases hmp' with h | h <;> omega
                obtain rfl : g' = g := prom_still (fun hh => HSTILL.out hh) hg
                clear c0 c1 c3 c4 c5
                have hN5 := HN4.out.mod hM5 (by simp; omega)
                have hB5 : Cel w5 w.heap.size lt.cells 54 := (HBr.out.mod HM4.out (by simp)).mod hM5 (by simp; omega)
                have hO5 := HO1.out.mod hM5 HP4.out.noBytes
                have hMw5 : Mod [] w w5 := (HMr.out.trans HM4.out).then hM5 (by simp; omega)
                have c0 : w5.cell? ⟨N, 0, none⟩ = some (.int .i64 1) := hN5.cell 0
                have c1 : w5.cell? ⟨N, 1, none⟩ = some (.int .i64 frm) := hN5.cell 1
                have HS5 := Lib.hid (hP5.says hI5.ok.vb)
                have HCV5 := Lib.hid (fun (X : World) (hX : Mod [] w5 X) => conv8 (hO5.below hX).rd)
                have HN5 := Lib.hid hN5
                have HB5 := Lib.hid hB5
                have HMW := Lib.hid hMw5
                have HP5 := Lib.hid hP5
                have HI5 := Lib.hid hI5
                clear hN5 hB5 hO5 hMw5 hM5 hP5 hI5 HN4 HO1 HP4 HM4 hg hmp'
                have hcv1 := HCV5.out _ (Mod.refl [] w5).drew
                go_wp2_with fail
                refine wp_region_noPanic ?_
                refine wp_region_held_drew (S := (fun X => X.cell? ⟨N, 1, none⟩ = some (.int .i64 frm) ∧ (convert 26 9 (.slice s1.a s1.len s1.cap)).run Try.prog X = .ok (.string ⟨g'.vb.toArray⟩) X)) (by kernel_rfl) ⟨c1, hcv1⟩ (fun hHeld => ?_)
                refine wpAnyH_take (i := 0) (v := ?_) rfl (by kernel_rfl) (by kernel_rfl) (by kernel_rfl) (fun _ _ _ h => h) (Or.inl ⟨by rfl, ?_⟩) (by assumption) ?_; rotate_left; focus (intro wS hSw; (try dsimp only at hSw); first | (go_simp; done) | (go_simp; with_reducible rfl))
                simp only [List.getElem_toArray, List.getElem_cons_zero, Act.put, List.setIfInBounds_toArray, List.set_cons_zero, List.set_cons_succ]
                refine wpAnyH_take (i := 1) (v := ?_) rfl (by kernel_rfl) (by kernel_rfl) (by kernel_rfl) (fun _ _ _ h => h) (Or.inl ⟨by rfl, ?_⟩) (by assumption) ?_; rotate_left; focus (intro wS hSw; (try dsimp only at hSw); first | (go_simp; done) | (go_simp; with_reducible rfl))
                simp only [List.getElem_toArray, List.getElem_cons_succ, List.getElem_cons_zero, Act.put, List.setIfInBounds_toArray, List.set_cons_zero, List.set_cons_succ]
                refine wpAnyH_take (i := 2) (v := ?_) rfl (by kernel_rfl) (by kernel_rfl) (by kernel_rfl) (fun _ _ _ h => h) (Or.inl ⟨by rfl, ?_⟩) (by assumption) ?_; rotate_left; focus (intro wS hSw; (try dsimp only at hSw); first | (go_simp; done) | (go_simp; with_reducible rfl))
                simp only [List.getElem_toArray, List.getElem_cons_succ, List.getElem_cons_zero, Act.put, List.setIfInBounds_toArray, List.set_cons_zero, List.set_cons_succ]
                refine wpAnyH_take (i := 3) (v := undef) rfl (by kernel_rfl) (by kernel_rfl) (by kernel_rfl) (fun _ _ _ h => h) (Or.inr ⟨by rfl, rfl⟩) (by assumption) ?_
                simp only [List.getElem_toArray, List.getElem_cons_succ, List.getElem_cons_zero, Act.put, List.setIfInBounds_toArray, List.set_cons_zero, List.set_cons_succ]
                refine wpAnyH_take (i := 4) (v := ?_) rfl (by kernel_rfl) (by kernel_rfl) (by kernel_rfl) (fun _ _ _ h => h) (Or.inl ⟨by rfl, ?_⟩) (by assumption) ?_; rotate_left; focus (intro wS hSw; (try dsimp only at hSw); first | (go_simp; done) | (go_simp; with_reducible rfl))
                simp only [List.getElem_toArray, List.getElem_cons_succ, List.getElem_cons_zero, Act.put, List.setIfInBounds_toArray, List.set_cons_zero, List.set_cons_succ]
                refine wpAnyH_take (i := 5) (v := ?_) rfl (by kernel_rfl) (by kernel_rfl) (by kernel_rfl) (fun _ _ _ h => h) (Or.inl ⟨by rfl, ?_⟩) (by assumption) ?_; rotate_left; focus (intro wS hSw; (try dsimp only at hSw); first | (go_simp; done) | (go_simp; with_reducible rfl))
                simp only [List.getElem_toArray, List.getElem_cons_succ, List.getElem_cons_zero, Act.put, List.setIfInBounds_toArray, List.set_cons_zero, List.set_cons_succ]
                refine wpAnyH_take (i := 6) (v := ?_) rfl (by kernel_rfl) (by kernel_rfl) (by kernel_rfl) (fun _ _ _ h => h) (Or.inl ⟨by rfl, ?_⟩) (by assumption) ?_; rotate_left; focus (intro wS hSw; (try dsimp only at hSw); first | (go_simp; done) | (go_simp; with_reducible rfl))
                simp only [List.getElem_toArray, List.getElem_cons_succ, List.getElem_cons_zero, Act.put, List.setIfInBounds_toArray, List.set_cons_zero, List.set_cons_succ]
                refine wpAnyH_take (i := 8) (v := ?_) rfl (by kernel_rfl) (by kernel_rfl) (by kernel_rfl) (fun _ _ _ h => h) (Or.inl ⟨by rfl, ?_⟩) (by assumption) ?_; rotate_left; focus (intro wS hSw; (try dsimp only at hSw); first | (go_simp; done) | (go_simp; with_reducible rfl))
                simp only [List.getElem_toArray, List.getElem_cons_succ, List.getElem_cons_zero, Act.put, List.setIfInBounds_toArray, List.set_cons_zero, List.set_cons_succ]
                refine wpAnyH_ready (rs := [7]) (by kernel_rfl) (by simp) ?_
                refine AllReadyH.cons rfl (fun K hK => ?_) AllReadyH.nil
                go_simp
                go_at_call 14
                refine (HS5.out.hp _ (Mod.refl _ _).drew).mono ?_
                rintro e6 w6 ⟨rfl, rfl⟩
                refine hK.out _ _ ?_ (fun hHeld => ?_)
                · exact hHeld
                clear hK K
                refine wpAnyH_take (i := 9) (v := ?_) rfl (by kernel_rfl) (by kernel_rfl) (by kernel_rfl) (fun _ _ _ h => h) (Or.inl ⟨by rfl, ?_⟩) (by assumption) ?_; rotate_left; focus (intro wS hSw; (try dsimp only at hSw); first | (go_simp; done) | (go_simp; with_reducible rfl))
                simp only [List.getElem_toArray, List.getElem_cons_succ, List.getElem_cons_zero, Act.put, List.setIfInBounds_toArray, List.set_cons_zero, List.set_cons_succ]
                refine wpAnyH_take (i := 10) (v := ?_) rfl (by kernel_rfl) (by kernel_rfl) (by kernel_rfl) (fun _ _ _ h => h) (Or.inl ⟨by rfl, ?_⟩) (by assumption) ?_; rotate_left; focus (intro wS hSw; (try dsimp only at hSw); first | (go_simp; done) | (go_simp; with_reducible rfl))
                simp only [List.getElem_toArray, List.getElem_cons_succ, List.getElem_cons_zero, Act.put, List.setIfInBounds_toArray, List.set_cons_zero, List.set_cons_succ]
                refine wpAnyH_take (i := 11) (v := ?_) rfl (by kernel_rfl) (by kernel_rfl) (by kernel_rfl) (fun _ _ _ h => h) (Or.inl ⟨by rfl, ?_⟩) (by assumption) ?_; rotate_left; focus (intro wS hSw; (try dsimp only at hSw); first | (go_simp; done) | (go_simp; with_reducible rfl))
                simp only [List.getElem_toArray, List.getElem_cons_succ, List.getElem_cons_zero, Act.put, List.setIfInBounds_toArray, List.set_cons_zero, List.set_cons_succ]
                refine wpAnyH_take (i := 14) (v := ?_) rfl (by kernel_rfl) (by kernel_rfl) (by kernel_rfl) (fun _ _ _ h => h) (Or.inl ⟨by rfl, ?_⟩) (by assumption) ?_; rotate_left; focus (intro wS hSw; (try dsimp only at hSw); first | (go_simp; done) | (go_simp; with_reducible rfl))
                simp only [List.getElem_toArray, List.getElem_cons_succ, List.getElem_cons_zero, Act.put, List.setIfInBounds_toArray, List.set_cons_zero, List.set_cons_succ]
                refine wpAnyH_take (i := 15) (v := ?_) rfl (by kernel_rfl) (by kernel_rfl) (by kernel_rfl) (fun _ _ _ h => h) (Or.inl ⟨by rfl, ?_⟩) (by assumption) ?_; rotate_left; focus (intro wS hSw; (try dsimp only at hSw); first | (go_simp; done) | (go_simp; with_reducible rfl))
                simp only [List.getElem_toArray, List.getElem_cons_succ, List.getElem_cons_zero, Act.put, List.setIfInBounds_toArray, List.set_cons_zero, List.set_cons_succ]
                refine wpAnyH_ready (rs := [12]) (by kernel_rfl) (by simp) ?_
                refine AllReadyH.cons rfl (fun K hK => ?_) AllReadyH.nil
                go_simp
                go_at_call 18
                refine (HS5.out.hv _ (Mod.refl _ _).drew).mono ?_
                rintro e7 w7 ⟨s2, rfl, ho2, hm7⟩
                have hcv2 := conv8 ho2.rd
                have mD := (Mod.refl [] w5).drew.trans hm7
                have hcv3 := HCV5.out _ mD
                have c1b : w7.cell? ⟨N, 1, none⟩ = some (.int .i64 frm) := (HN5.out.mod mD (by simp)).cell 1
                refine hK.out _ _ ?_ (fun hHeld => ?_)
                · exact ⟨c1b, hcv3⟩
                clear hK K
                refine held_grow (S' := (fun X => (convert 26 9 (.slice s2.a s2.len s2.cap)).run Try.prog X = .ok (.string ⟨g'.vb.toArray⟩) X ∧ X.cell? ⟨N, 1, none⟩ = some (.int .i64 frm) ∧ (convert 26 9 (.slice s1.a s1.len s1.cap)).run Try.prog X = .ok (.string ⟨g'.vb.toArray⟩) X)) (fun X hX => hX.2) _ _ _ _ ?_
                have hHeld2 : (fun X => (convert 26 9 (.slice s2.a s2.len s2.cap)).run Try.prog X = .ok (.string ⟨g'.vb.toArray⟩) X ∧ X.cell? ⟨N, 1, none⟩ = some (.int .i64 frm) ∧ (convert 26 9 (.slice s1.a s1.len s1.cap)).run Try.prog X = .ok (.string ⟨g'.vb.toArray⟩) X) w7 := ⟨hcv2, c1b, hcv3⟩
                refine wpAnyH_take (i := 13) (v := ?_) rfl (by kernel_rfl) (by kernel_rfl) (by kernel_rfl) (fun _ _ _ h => h) (Or.inl ⟨by rfl, ?_⟩) (by assumption) ?_; rotate_left; focus (intro wS hSw; (try dsimp only at hSw); first | (go_simp; done) | (go_simp; with_reducible rfl))
                simp only [List.getElem_toArray, List.getElem_cons_succ, List.getElem_cons_zero, Act.put, List.setIfInBounds_toArray, List.set_cons_zero, List.set_cons_succ]
                refine wpAnyH_take (i := 16) (v := ?_) rfl (by kernel_rfl) (by kernel_rfl) (by kernel_rfl) (fun _ _ _ h => h) (Or.inl ⟨by rfl, ?_⟩) (by assumption) ?_; rotate_left; focus (intro wS hSw; (try dsimp only at hSw); first | (go_simp; done) | (go_simp; with_reducible rfl))
                simp only [List.getElem_toArray, List.getElem_cons_succ, List.getElem_cons_zero, Act.put, List.setIfInBounds_toArray, List.set_cons_zero, List.set_cons_succ]
                refine wpAnyH_take (i := 17) (v := ?_) rfl (by kernel_rfl) (by kernel_rfl) (by kernel_rfl) (fun _ _ _ h => h) (Or.inl ⟨by rfl, ?_⟩) (by assumption) ?_; rotate_left; focus (intro wS hSw; (try dsimp only at hSw); first | (go_simp; done) | (go_simp; with_reducible rfl))
                simp only [List.getElem_toArray, List.getElem_cons_succ, List.getElem_cons_zero, Act.put, List.setIfInBounds_toArray, List.set_cons_zero, List.set_cons_succ]
                refine wpAnyH_take (i := 18) (v := ?_) rfl (by kernel_rfl) (by kernel_rfl) (by kernel_rfl) (fun _ _ _ h => h) (Or.inl ⟨by rfl, ?_⟩) (by assumption) ?_; rotate_left; focus (intro wS hSw; (try dsimp only at hSw); first | (go_simp; done) | (go_simp; with_reducible rfl))
                simp only [List.getElem_toArray, List.getElem_cons_succ, List.getElem_cons_zero, Act.put, List.setIfInBounds_toArray, List.set_cons_zero, List.set_cons_succ]
                refine wpAnyH_take (i := 19) (v := ?_) rfl (by kernel_rfl) (by kernel_rfl) (by kernel_rfl) (fun _ _ _ h => h) (Or.inl ⟨by rfl, ?_⟩) (by assumption) ?_; rotate_left; focus (intro wS hSw; (try dsimp only at hSw); first | (go_simp; done) | (go_simp; with_reducible rfl))
                simp only [List.getElem_toArray, List.getElem_cons_succ, List.getElem_cons_zero, Act.put, List.setIfInBounds_toArray, List.set_cons_zero, List.set_cons_succ]
                refine wpAnyH_take (i := 20) (v := ?_) rfl (by kernel_rfl) (by kernel_rfl) (by kernel_rfl) (fun _ _ _ h => h) (Or.inl ⟨by rfl, ?_⟩) (by assumption) ?_; rotate_left; focus (intro wS hSw; (try dsimp only at hSw); first | (go_simp; done) | (go_simp; with_reducible rfl))
                simp only [List.getElem_toArray, List.getElem_cons_succ, List.getElem_cons_zero, Act.put, List.setIfInBounds_toArray, List.set_cons_zero, List.set_cons_succ]
                refine wpAnyH_take (i := 21) (v := ?_) rfl (by kernel_rfl) (by kernel_rfl) (by kernel_rfl) (fun _ _ _ h => h) (Or.inl ⟨by rfl, ?_⟩) (by assumption) ?_; rotate_left; focus (intro wS hSw; (try dsimp only at hSw); first | (go_simp; done) | (go_simp; with_reducible rfl))
                simp only [List.getElem_toArray, List.getElem_cons_succ, List.getElem_cons_zero, Act.put, List.setIfInBounds_toArray, List.set_cons_zero, List.set_cons_succ]
                refine wpAnyH_take (i := 23) (v := ?_) rfl (by kernel_rfl) (by kernel_rfl) (by kernel_rfl) (fun _ _ _ h => h) (Or.inl ⟨by rfl, ?_⟩) (by assumption) ?_; rotate_left; focus (intro wS hSw; (try dsimp only at hSw); first | (go_simp; done) | (go_simp; with_reducible rfl))
                simp only [List.getElem_toArray, List.getElem_cons_succ, List.getElem_cons_zero, Act.put, List.setIfInBounds_toArray, List.set_cons_zero, List.set_cons_succ]
                refine wpAnyH_ready (rs := [22]) (by kernel_rfl) (by simp) ?_
                refine AllReadyH.cons rfl (fun K hK => ?_) AllReadyH.nil
                go_simp
                go_at_call 15
                refine (HS5.out.ha _ frm mD).mono ?_
                rw [HA.out]
                rintro e8 w8 ⟨rfl, hm8⟩
                have mE := mD.trans hm8
                refine hK.out _ _ ?_ (fun hHeld => ?_)
                · exact ⟨conv8 (ho2.below hm8).rd, (HN5.out.mod mE (by simp)).cell 1, HCV5.out _ mE⟩
                clear hK K
                refine wpAnyH_take (i := 24) (v := ?_) rfl (by kernel_rfl) (by kernel_rfl) (by kernel_rfl) (fun _ _ _ h => h) (Or.inl ⟨by rfl, ?_⟩) (by assumption) ?_; rotate_left; focus (intro wS hSw; (try dsimp only at hSw); first | (go_simp; done) | (go_simp; with_reducible rfl))
                simp only [List.getElem_toArray, List.getElem_cons_succ, List.getElem_cons_zero, Act.put, List.setIfInBounds_toArray, List.set_cons_zero, List.set_cons_succ]
                refine wpAnyH_take (i := 25) (v := ?_) rfl (by kernel_rfl) (by kernel_rfl) (by kernel_rfl) (fun _ _ _ h => h) (Or.inl ⟨by rfl, ?_⟩) (by assumption) ?_; rotate_left; focus (intro wS hSw; (try dsimp only at hSw); first | (go_simp; done) | (go_simp; with_reducible rfl))
                simp only [List.getElem_toArray, List.getElem_cons_succ, List.getElem_cons_zero, Act.put, List.setIfInBounds_toArray, List.set_cons_zero, List.set_cons_succ]
                refine wpAnyH_take (i := 26) (v := ?_) rfl (by kernel_rfl) (by kernel_rfl) (by kernel_rfl) (fun _ _ _ h => h) (Or.inl ⟨by rfl, ?_⟩) (by assumption) ?_; rotate_left; focus (intro wS hSw; (try dsimp only at hSw); first | (go_simp; done) | (go_simp; with_reducible rfl))
                simp only [List.getElem_toArray, List.getElem_cons_succ, List.getElem_cons_zero, Act.put, List.setIfInBounds_toArray, List.set_cons_zero, List.set_cons_succ]
                refine wpAnyH_done (by kernel_rfl) ?_ _
                refine NoPanic.normal ?_
                go_wp2
                go_roundw
                case rel => exact LateRel.mk (k + 1) mp' g' ⟨by omega, by go_num, HI5.out, HP5.out.below mE, hmp5, HB5.out.mod mE (by simp), HMW.out.trans mE⟩
                case measure => simp [intOf]; omega
          | true =>
            have HA := Lib.hid hA
            by_cases hK : g.phase = 1
            · have HMOV := Lib.hid (show g.phase = 1 ∧ gAsked g frm = true from ⟨hK, hA⟩)
              have k1 : (g.phase != 1) = false := by rw [hK]; rfl
              clear hA hK
              go_region_held3 (fun w' => w'.cell? ⟨N, 1, none⟩ = some (.int .i64 frm)) (first | exact n1 | exact n1b)
                (first | (go_at_call 14; (first | refine (HSAY.out.hp _ (Mod.refl _ _).drew).mono ?_ | refine (HSAY.out.hp _ mB).mono ?_); rintro e2 w2' ⟨rfl, rfl⟩) | (go_at_call 15; refine (HSAY.out.ha _ frm (Mod.refl _ _).drew).mono ?_; rw [HA.out]; rintro e3 w3 ⟨rfl, hm3⟩; have mB := (Mod.refl [] W).drew.trans hm3; have n1b : w3.cell? ⟨N, 1, none⟩ = some (.int .i64 frm) := (HNC.out.mod mB (by simp)).cell 1))
              all_goals
                rename_i hheld
                clear hheld
                clear n0 n1 n2 n1b
                have m3 := HW.out.trans mB
                have HS3 := Lib.hid ((HPr.out.below m3).says HIr.out.ok.vb)
                have hN3 := HNC.out.mod mB (by simp)
                have c0 : w3.cell? ⟨N, 0, none⟩ = some (.int .i64 1) := hN3.cell 0
                have HN3 := Lib.hid hN3
                have HM3 := Lib.hid m3
                clear hN3 m3 mB hm3
                go_wp2_with fail
                refine (HS3.out.hv _ (Mod.refl _ _)).mono ?_
                rintro e4 w4 ⟨s1, rfl, ho1, hm4⟩
                clear c0
                have hN4 := HN3.out.mod hm4 (by simp)
                have c0 : w4.cell? ⟨N, 0, none⟩ = some (.int .i64 1) := hN4.cell 0
                have c1 : w4.cell? ⟨N, 1, none⟩ = some (.int .i64 frm) := hN4.cell 1
                have c3 : w4.cell? ⟨N, 3, none⟩ = some (.int .i64 r) := hN4.cell 3
                have c4 : w4.cell? ⟨N, 4, none⟩ = some (.int .i64 q) := hN4.cell 4
                have c5 : w4.cell? ⟨N, 5, none⟩ = some (.slice s.a s.len s.cap) := hN4.cell 5
                have HM4 := Lib.hid (HM3.out.trans hm4)
                have HP4 := Lib.hid (HPr.out.below HM4.out)
                have HN4 := Lib.hid hN4
                have HO1 := Lib.hid ho1
                clear hN4 hm4 ho1 HS3 HN3 HM3
                go_wp2_with fail
                refine (promised_rep b mp g frm r q s l 7 w4 HP4.out HIr.out.ok (HRD.out.below HM4.out) hsb).mono ?_
                rintro e5 w5 ⟨rfl, g', mp', hg, hmp', hP5, hM5⟩
                have hI5 := HIr.out.prom (by omega) (by rw [HRD.out.len]; exact hsb) hg
                have hmp5 : w.heap.size < mp' := by have := HMr.out.size; have := HM4.out.size; rcases hmp' with h | h <;> omega
                have hmoves : g'.phase ≠ g.phase ∨ gAsked g' frm = false := prom_moves HMOV.out hg
                clear c0 c1 c3 c4 c5
                have hN5 := HN4.out.mod hM5 (by simp; omega)
                have hB5 : Cel w5 w.heap.size lt.cells 54 := (HBr.out.mod HM4.out (by simp)).mod hM5 (by simp; omega)
                have hO5 := HO1.out.mod hM5 HP4.out.noBytes
                have hMw5 : Mod [] w w5 := (HMr.out.trans HM4.out).then hM5 (by simp; omega)
                have c0 : w5.cell? ⟨N, 0, none⟩ = some (.int .i64 1) := hN5.cell 0
                have c1 : w5.cell? ⟨N, 1, none⟩ = some (.int .i64 frm) := hN5.cell 1
                have HS5 := Lib.hid (hP5.says hI5.ok.vb)
                have HCV5 := Lib.hid (fun (X : World) (hX : Mod [] w5 X) => conv8 (hO5.below hX).rd)
                have HN5 := Lib.hid hN5
                have HB5 := Lib.hid hB5
                have HMW := Lib.hid hMw5
                have HP5 := Lib.hid hP5
                have HI5 := Lib.hid hI5
                clear hN5 hB5 hO5 hMw5 hM5 hP5 hI5 HN4 HO1 HP4 HM4 hg hmp'
                clear HCV5
                go_wp2_with fail
                refine wp_region_noPanic ?_
                refine wp_region_held_drew (S := fun _ => True) (by kernel_rfl) trivial (fun hHeld => ?_)
                refine wpAnyH_take (i := 0) (v := ?_) rfl (by kernel_rfl) (by kernel_rfl) (by kernel_rfl) (fun _ _ _ h => h) (Or.inl ⟨by rfl, ?_⟩) (by assumption) ?_; rotate_left; focus (intro wS hSw; (try dsimp only at hSw); first | (go_simp; done) | (go_simp; with_reducible rfl))
                simp only [List.getElem_toArray, List.getElem_cons_zero, Act.put, List.setIfInBounds_toArray, List.set_cons_zero, List.set_cons_succ]
                refine wpAnyH_take (i := 1) (v := ?_) rfl (by kernel_rfl) (by kernel_rfl) (by kernel_rfl) (fun _ _ _ h => h) (Or.inl ⟨by rfl, ?_⟩) (by assumption) ?_; rotate_left; focus (intro wS hSw; (try dsimp only at hSw); first | (go_simp; done) | (go_simp; with_reducible rfl))
                simp only [List.getElem_toArray, List.getElem_cons_succ, List.getElem_cons_zero, Act.put, List.setIfInBounds_toArray, List.set_cons_zero, List.set_cons_succ]
                refine wpAnyH_take (i := 2) (v := ?_) rfl (by kernel_rfl) (by kernel_rfl) (by kernel_rfl) (fun _ _ _ h => h) (Or.inl ⟨by rfl, ?_⟩) (by assumption) ?_; rotate_left; focus (intro wS hSw; (try dsimp only at hSw); first | (go_simp; done) | (go_simp; with_reducible rfl))
                simp only [List.getElem_toArray, List.getElem_cons_succ, List.getElem_cons_zero, Act.put, List.setIfInBounds_toArray, List.set_cons_zero, List.set_cons_succ]
                refine wpAnyH_take (i := 3) (v := ?_) rfl (by kernel_rfl) (by kernel_rfl) (by kernel_rfl) (fun _ _ _ h => h) (Or.inl ⟨by rfl, ?_⟩) (by assumption) ?_; rotate_left; focus (intro wS hSw; (try dsimp only at hSw); first | (go_simp; done) | (go_simp; with_reducible rfl))
                simp only [List.getElem_toArray, List.getElem_cons_succ, List.getElem_cons_zero, Act.put, List.setIfInBounds_toArray, List.set_cons_zero, List.set_cons_succ]
                refine wpAnyH_take (i := 4) (v := ?_) rfl (by kernel_rfl) (by kernel_rfl) (by kernel_rfl) (fun _ _ _ h => h) (Or.inl ⟨by rfl, ?_⟩) (by assumption) ?_; rotate_left; focus (intro wS hSw; (try dsimp only at hSw); first | (go_simp; done) | (go_simp; with_reducible rfl))
                simp only [List.getElem_toArray, List.getElem_cons_succ, List.getElem_cons_zero, Act.put, List.setIfInBounds_toArray, List.set_cons_zero, List.set_cons_succ]
                refine wpAnyH_take (i := 5) (v := ?_) rfl (by kernel_rfl) (by kernel_rfl) (by kernel_rfl) (fun _ _ _ h => h) (Or.inl ⟨by rfl, ?_⟩) (by assumption) ?_; rotate_left; focus (intro wS hSw; (try dsimp only at hSw); first | (go_simp; done) | (go_simp; with_reducible rfl))
                simp only [List.getElem_toArray, List.getElem_cons_succ, List.getElem_cons_zero, Act.put, List.setIfInBounds_toArray, List.set_cons_zero, List.set_cons_succ]
                refine wpAnyH_take (i := 6) (v := undef) rfl (by kernel_rfl) (by kernel_rfl) (by kernel_rfl) (fun _ _ _ h => h) (Or.inr ⟨by rfl, rfl⟩) (by assumption) ?_
                simp only [List.getElem_toArray, List.getElem_cons_succ, List.getElem_cons_zero, Act.put, List.setIfInBounds_toArray, List.set_cons_zero, List.set_cons_succ]
                refine wpAnyH_take (i := 8) (v := undef) rfl (by kernel_rfl) (by kernel_rfl) (by kernel_rfl) (fun _ _ _ h => h) (Or.inr ⟨by rfl, rfl⟩) (by assumption) ?_
                simp only [List.getElem_toArray, List.getElem_cons_succ, List.getElem_cons_zero, Act.put, List.setIfInBounds_toArray, List.set_cons_zero, List.set_cons_succ]
                refine wpAnyH_ready (rs := [7]) (by kernel_rfl) (by simp) ?_
                refine AllReadyH.cons rfl (fun K hK => ?_) AllReadyH.nil
                go_simp
                refine hK.out _ _ ?_ (fun hHeld => ?_)
                · trivial
                clear hK K
                refine wpAnyH_take (i := 9) (v := undef) rfl (by kernel_rfl) (by kernel_rfl) (by kernel_rfl) (fun _ _ _ h => h) (Or.inr ⟨by rfl, rfl⟩) (by assumption) ?_
                simp only [List.getElem_toArray, List.getElem_cons_succ, List.getElem_cons_zero, Act.put, List.setIfInBounds_toArray, List.set_cons_zero, List.set_cons_succ]
                refine wpAnyH_take (i := 10) (v := undef) rfl (by kernel_rfl) (by kernel_rfl) (by kernel_rfl) (fun _ _ _ h => h) (Or.inr ⟨by rfl, rfl⟩) (by assumption) ?_
                simp only [List.getElem_toArray, List.getElem_cons_succ, List.getElem_cons_zero, Act.put, List.setIfInBounds_toArray, List.set_cons_zero, List.set_cons_succ]
                refine wpAnyH_take (i := 11) (v := undef) rfl (by kernel_rfl) (by kernel_rfl) (by kernel_rfl) (fun _ _ _ h => h) (Or.inr ⟨by rfl, rfl⟩) (by assumption) ?_
                simp only [List.getElem_toArray, List.getElem_cons_succ, List.getElem_cons_zero, Act.put, List.setIfInBounds_toArray, List.set_cons_zero, List.set_cons_succ]
                refine wpAnyH_take (i := 14) (v := undef) rfl (by kernel_rfl) (by kernel_rfl) (by kernel_rfl) (fun _ _ _ h => h) (Or.inr ⟨by rfl, rfl⟩) (by assumption) ?_
                simp only [List.getElem_toArray, List.getElem_cons_succ, List.getElem_cons_zero, Act.put, List.setIfInBounds_toArray, List.set_cons_zero, List.set_cons_succ]
                refine wpAnyH_take (i := 15) (v := undef) rfl (by kernel_rfl) (by kernel_rfl) (by kernel_rfl) (fun _ _ _ h => h) (Or.inr ⟨by rfl, rfl⟩) (by assumption) ?_
                simp only [List.getElem_toArray, List.getElem_cons_succ, List.getElem_cons_zero, Act.put, List.setIfInBounds_toArray, List.set_cons_zero, List.set_cons_succ]
                refine wpAnyH_ready (rs := [12]) (by kernel_rfl) (by simp) ?_
                refine AllReadyH.cons rfl (fun K hK => ?_) AllReadyH.nil
                go_simp
                refine hK.out _ _ ?_ (fun hHeld => ?_)
                · trivial
                clear hK K
                refine wpAnyH_take (i := 13) (v := undef) rfl (by kernel_rfl) (by kernel_rfl) (by kernel_rfl) (fun _ _ _ h => h) (Or.inr ⟨by rfl, rfl⟩) (by assumption) ?_
                simp only [List.getElem_toArray, List.getElem_cons_succ, List.getElem_cons_zero, Act.put, List.setIfInBounds_toArray, List.set_cons_zero, List.set_cons_succ]
                refine wpAnyH_take (i := 16) (v := undef) rfl (by kernel_rfl) (by kernel_rfl) (by kernel_rfl) (fun _ _ _ h => h) (Or.inr ⟨by rfl, rfl⟩) (by assumption) ?_
                simp only [List.getElem_toArray, List.getElem_cons_succ, List.getElem_cons_zero, Act.put, List.setIfInBounds_toArray, List.set_cons_zero, List.set_cons_succ]
                refine wpAnyH_take (i := 17) (v := undef) rfl (by kernel_rfl) (by kernel_rfl) (by kernel_rfl) (fun _ _ _ h => h) (Or.inr ⟨by rfl, rfl⟩) (by assumption) ?_
                simp only [List.getElem_toArray, List.getElem_cons_succ, List.getElem_cons_zero, Act.put, List.setIfInBounds_toArray, List.set_cons_zero, List.set_cons_succ]
                refine wpAnyH_take (i := 18) (v := undef) rfl (by kernel_rfl) (by kernel_rfl) (by kernel_rfl) (fun _ _ _ h => h) (Or.inr ⟨by rfl, rfl⟩) (by assumption) ?_
                simp only [List.getElem_toArray, List.getElem_cons_succ, List.getElem_cons_zero, Act.put, List.setIfInBounds_toArray, List.set_cons_zero, List.set_cons_succ]
                refine wpAnyH_take (i := 19) (v := undef) rfl (by kernel_rfl) (by kernel_rfl) (by kernel_rfl) (fun _ _ _ h => h) (Or.inr ⟨by rfl, rfl⟩) (by assumption) ?_
                simp only [List.getElem_toArray, List.getElem_cons_succ, List.getElem_cons_zero, Act.put, List.setIfInBounds_toArray, List.set_cons_zero, List.set_cons_succ]
                refine wpAnyH_take (i := 20) (v := undef) rfl (by kernel_rfl) (by kernel_rfl) (by kernel_rfl) (fun _ _ _ h => h) (Or.inr ⟨by rfl, rfl⟩) (by assumption) ?_
                simp only [List.getElem_toArray, List.getElem_cons_succ, List.getElem_cons_zero, Act.put, List.setIfInBounds_toArray, List.set_cons_zero, List.set_cons_succ]
                refine wpAnyH_take (i := 21) (v := undef) rfl (by kernel_rfl) (by kernel_rfl) (by kernel_rfl) (fun _ _ _ h => h) (Or.inr ⟨by rfl, rfl⟩) (by assumption) ?_
                simp only [List.getElem_toArray, List.getElem_cons_succ, List.getElem_cons_zero, Act.put, List.setIfInBounds_toArray, List.set_cons_zero, List.set_cons_succ]
                refine wpAnyH_take (i := 23) (v := undef) rfl (by kernel_rfl) (by kernel_rfl) (by kernel_rfl) (fun _ _ _ h => h) (Or.inr ⟨by rfl, rfl⟩) (by assumption) ?_
                simp only [List.getElem_toArray, List.getElem_cons_succ, List.getElem_cons_zero, Act.put, List.setIfInBounds_toArray, List.set_cons_zero, List.set_cons_succ]
                refine wpAnyH_ready (rs := [22]) (by kernel_rfl) (by simp) ?_
                refine AllReadyH.cons rfl (fun K hK => ?_) AllReadyH.nil
                go_simp
                refine hK.out _ _ ?_ (fun hHeld => ?_)
                · trivial
                clear hK K
                refine wpAnyH_take (i := 24) (v := undef) rfl (by kernel_rfl) (by kernel_rfl) (by kernel_rfl) (fun _ _ _ h => h) (Or.inr ⟨by rfl, rfl⟩) (by assumption) ?_
                simp only [List.getElem_toArray, List.getElem_cons_succ, List.getElem_cons_zero, Act.put, List.setIfInBounds_toArray, List.set_cons_zero, List.set_cons_succ]
                refine wpAnyH_take (i := 25) (v := undef) rfl (by kernel_rfl) (by kernel_rfl) (by kernel_rfl) (fun _ _ _ h => h) (Or.inr ⟨by rfl, rfl⟩) (by assumption) ?_
                simp only [List.getElem_toArray, List.getElem_cons_succ, List.getElem_cons_zero, Act.put, List.setIfInBounds_toArray, List.set_cons_zero, List.set_cons_succ]
                refine wpAnyH_take (i := 26) (v := ?_) rfl (by kernel_rfl) (by kernel_rfl) (by kernel_rfl) (fun _ _ _ h => h) (Or.inl ⟨by rfl, ?_⟩) (by assumption) ?_; rotate_left; focus (intro wS hSw; (try dsimp only at hSw); first | (go_simp; done) | (go_simp; with_reducible rfl))
                simp only [List.getElem_toArray, List.getElem_cons_succ, List.getElem_cons_zero, Act.put, List.setIfInBounds_toArray, List.set_cons_zero, List.set_cons_succ]
                refine wpAnyH_done (by kernel_rfl) ?_ _
                refine NoPanic.normal ?_
                by_cases hpp : g'.phase = g.phase
                · have HPP := Lib.hid hpp
                  have HAN := Lib.hid (hmoves.resolve_left (fun h => h hpp))
                  clear hmoves hpp
                  go_wp2_with (first
                    | (go_at_call 14; refine (HS5.out.hp _ (Mod.refl _ _).drew).mono ?_; rw [HPP.out]; rintro e6 w6 ⟨rfl, rfl⟩)
                    | (go_at_call 15; refine (HS5.out.ha _ frm (Mod.refl _ _).drew).mono ?_; rw [HAN.out]; rintro e8 w8 ⟨rfl, hm8⟩; have mE := (Mod.refl [] w5).drew.trans hm8)
                    | fail)
                  go_roundw
                  case rel => exact LateRel.mk (k + 1) mp' g' ⟨by omega, by go_num, HI5.out, HP5.out.below mE, hmp5, HB5.out.mod mE (by simp), HMW.out.trans mE⟩
                  case measure => simp [intOf]; omega
                · have hq : (g'.phase == g.phase) = false := beq_eq_false_iff_ne.2 hpp
                  clear hmoves hpp
                  go_wp2_with (first
                    | (go_at_call 14; refine (HS5.out.hp _ (Mod.refl _ _).drew).mono ?_; rintro e6 w6 ⟨rfl, rfl⟩)
                    | fail)
                  have mE := (Mod.refl [] w5).drew
                  go_roundw
                  case rel => exact LateRel.mk (k + 1) mp' g' ⟨by omega, by go_num, HI5.out, HP5.out.below mE, hmp5, HB5.out.mod mE (by simp), HMW.out.trans mE⟩
                  case measure => simp [intOf]; omega
            · have HSTILL := Lib.hid (show ¬ (g.phase = 1 ∧ gAsked g frm = true) from fun hh => hK hh.1)
              have k1 : (g.phase != 1) = true := by simpa using hK
              clear hA hK
              go_region_held3 (fun w' => w'.cell? ⟨N, 1, none⟩ = some (.int .i64 frm)) (first | exact n1 | exact n1b)
                (first | (go_at_call 14; (first | refine (HSAY.out.hp _ (Mod.refl _ _).drew).mono ?_ | refine (HSAY.out.hp _ mB).mono ?_); rintro e2 w2' ⟨rfl, rfl⟩) | (go_at_call 15; refine (HSAY.out.ha _ frm (Mod.refl _ _).drew).mono ?_; rw [HA.out]; rintro e3 w3 ⟨rfl, hm3⟩; have mB := (Mod.refl [] W).drew.trans hm3; have n1b : w3.cell? ⟨N, 1, none⟩ = some (.int .i64 frm) := (HNC.out.mod mB (by simp)).cell 1))
              all_goals
                rename_i hheld
                clear hheld
                clear n0 n1 n2 n1b
                have m3 := HW.out.trans mB
                have HS3 := Lib.hid ((HPr.out.below m3).says HIr.out.ok.vb)
                have hN3 := HNC.out.mod mB (by simp)
                have c0 : w3.cell? ⟨N, 0, none⟩ = some (.int .i64 1) := hN3.cell 0
                have HN3 := Lib.hid hN3
                have HM3 := Lib.hid m3
                clear hN3 m3 mB hm3
                go_wp2_with fail
                refine (HS3.out.hv _ (Mod.refl _ _)).mono ?_
                rintro e4 w4 ⟨s1, rfl, ho1, hm4⟩
                clear c0
                have hN4 := HN3.out.mod hm4 (by simp)
                have c0 : w4.cell? ⟨N, 0, none⟩ = some (.int .i64 1) := hN4.cell 0
                have c1 : w4.cell? ⟨N, 1, none⟩ = some (.int .i64 frm) := hN4.cell 1
                have c3 : w4.cell? ⟨N, 3, none⟩ = some (.int .i64 r) := hN4.cell 3
                have c4 : w4.cell? ⟨N, 4, none⟩ = some (.int .i64 q) := hN4.cell 4
                have c5 : w4.cell? ⟨N, 5, none⟩ = some (.slice s.a s.len s.cap) := hN4.cell 5
                have HM4 := Lib.hid (HM3.out.trans hm4)
                have HP4 := Lib.hid (HPr.out.below HM4.out)
                have HN4 := Lib.hid hN4
                have HO1 := Lib.hid ho1
                clear hN4 hm4 ho1 HS3 HN3 HM3
                go_wp2_with fail
                refine (promised_rep b mp g frm r q s l 7 w4 HP4.out HIr.out.ok (HRD.out.below HM4.out) hsb).mono ?_
                rintro e5 w5 ⟨rfl, g', mp', hg, hmp', hP5, hM5⟩
                have hI5 := HIr.out.prom (by omega) (by rw [HRD.out.len]; exact hsb) hg
                have hmp5 : w.heap.size < mp' := by have := HMr.out.size; have := HM4.out.size; rcases hmp' with h | h <;> omega
                obtain rfl : g' = g := prom_still (fun hh => HSTILL.out hh) hg
                clear c0 c1 c3 c4 c5
                have hN5 := HN4.out.mod hM5 (by simp; omega)
                have hB5 : Cel w5 w.heap.size lt.cells 54 := (HBr.out.mod HM4.out (by simp)).mod hM5 (by simp; omega)
                have hO5 := HO1.out.mod hM5 HP4.out.noBytes
                have hMw5 : Mod [] w w5 := (HMr.out.trans HM4.out).then hM5 (by simp; omega)
                have c0 : w5.cell? ⟨N, 0, none⟩ = some (.int .i64 1) := hN5.cell 0
                have c1 : w5.cell? ⟨N, 1, none⟩ = some (.int .i64 frm) := hN5.cell 1
                have HS5 := Lib.hid (hP5.says hI5.ok.vb)
                have HCV5 := Lib.hid (fun (X : World) (hX : Mod [] w5 X) => conv8 (hO5.below hX).rd)
                have HN5 := Lib.hid hN5
                have HB5 := Lib.hid hB5
                have HMW := Lib.hid hMw5
                have HP5 := Lib.hid hP5
                have HI5 := Lib.hid hI5
                clear hN5 hB5 hO5 hMw5 hM5 hP5 hI5 HN4 HO1 HP4 HM4 hg hmp'
                have hcv1 := HCV5.out _ (Mod.refl [] w5).drew
                go_wp2_with fail
                refine wp_region_noPanic ?_
                refine wp_region_held_drew (S := (fun X => X.cell? ⟨N, 1, none⟩ = some (.int .i64 frm) ∧ (convert 26 9 (.slice s1.a s1.len s1.cap)).run Try.prog X = .ok (.string ⟨g'.vb.toArray⟩) X)) (by kernel_rfl) ⟨c1, hcv1⟩ (fun hHeld => ?_)
                refine wpAnyH_take (i := 0) (v := ?_) rfl (by kernel_rfl) (by kernel_rfl) (by kernel_rfl) (fun _ _ _ h => h) (Or.inl ⟨by rfl, ?_⟩) (by assumption) ?_; rotate_left; focus (intro wS hSw; (try dsimp only at hSw); first | (go_simp; done) | (go_simp; with_reducible rfl))
                simp only [List.getElem_toArray, List.getElem_cons_zero, Act.put, List.setIfInBounds_toArray, List.set_cons_zero, List.set_cons_succ]
                refine wpAnyH_take (i := 1) (v := ?_) rfl (by kernel_rfl) (by kernel_rfl) (by kernel_rfl) (fun _ _ _ h => h) (Or.inl ⟨by rfl, ?_⟩) (by assumption) ?_; rotate_left; focus (intro wS hSw; (try dsimp only at hSw); first | (go_simp; done) | (go_simp; with_reducible rfl))
                simp only [List.getElem_toArray, List.getElem_cons_succ, List.getElem_cons_zero, Act.put, List.setIfInBounds_toArray, List.set_cons_zero, List.set_cons_succ]
                refine wpAnyH_take (i := 2) (v := ?_) rfl (by kernel_rfl) (by kernel_rfl) (by kernel_rfl) (fun _ _ _ h => h) (Or.inl ⟨by rfl, ?_⟩) (by assumption) ?_; rotate_left; focus (intro wS hSw; (try dsimp only at hSw); first | (go_simp; done) | (go_simp; with_reducible rfl))
                simp only [List.getElem_toArray, List.getElem_cons_succ, List.getElem_cons_zero, Act.put, List.setIfInBounds_toArray, List.set_cons_zero, List.set_cons_succ]
                refine wpAnyH_take (i := 3) (v := ?_) rfl (by kernel_rfl) (by kernel_rfl) (by kernel_rfl) (fun _ _ _ h => h) (Or.inl ⟨by rfl, ?_⟩) (by assumption) ?_; rotate_left; focus (intro wS hSw; (try dsimp only at hSw); first | (go_simp; done) | (go_simp; with_reducible rfl))
                simp only [List.getElem_toArray, List.getElem_cons_succ, List.getElem_cons_zero, Act.put, List.setIfInBounds_toArray, List.set_cons_zero, List.set_cons_succ]
                refine wpAnyH_take (i := 4) (v := ?_) rfl (by kernel_rfl) (by kernel_rfl) (by kernel_rfl) (fun _ _ _ h => h) (Or.inl ⟨by rfl, ?_⟩) (by assumption) ?_; rotate_left; focus (intro wS hSw; (try dsimp only at hSw); first | (go_simp; done) | (go_simp; with_reducible rfl))
                simp only [List.getElem_toArray, List.getElem_cons_succ, List.getElem_cons_zero, Act.put, List.setIfInBounds_toArray, List.set_cons_zero, List.set_cons_succ]
                refine wpAnyH_take (i := 5) (v := ?_) rfl (by kernel_rfl) (by kernel_rfl) (by kernel_rfl) (fun _ _ _ h => h) (Or.inl ⟨by rfl, ?_⟩) (by assumption) ?_; rotate_left; focus (intro wS hSw; (try dsimp only at hSw); first | (go_simp; done) | (go_simp; with_reducible rfl))
                simp only [List.getElem_toArray, List.getElem_cons_succ, List.getElem_cons_zero, Act.put, List.setIfInBounds_toArray, List.set_cons_zero, List.set_cons_succ]
                refine wpAnyH_take (i := 6) (v := ?_) rfl (by kernel_rfl) (by kernel_rfl) (by kernel_rfl) (fun _ _ _ h => h) (Or.inl ⟨by rfl, ?_⟩) (by assumption) ?_; rotate_left; focus (intro wS hSw; (try dsimp only at hSw); first | (go_simp; done) | (go_simp; with_reducible rfl))
                simp only [List.getElem_toArray, List.getElem_cons_succ, List.getElem_cons_zero, Act.put, List.setIfInBounds_toArray, List.set_cons_zero, List.set_cons_succ]
                refine wpAnyH_take (i := 8) (v := ?_) rfl (by kernel_rfl) (by kernel_rfl) (by kernel_rfl) (fun _ _ _ h => h) (Or.inl ⟨by rfl, ?_⟩) (by assumption) ?_; rotate_left; focus (intro wS hSw; (try dsimp only at hSw); first | (go_simp; done) | (go_simp; with_reducible rfl))
                simp only [List.getElem_toArray, List.getElem_cons_succ, List.getElem_cons_zero, Act.put, List.setIfInBounds_toArray, List.set_cons_zero, List.set_cons_succ]
                refine wpAnyH_ready (rs := [7]) (by kernel_rfl) (by simp) ?_
                refine AllReadyH.cons rfl (fun K hK => ?_) AllReadyH.nil
                go_simp
                go_at_call 14
                refine (HS5.out.hp _ (Mod.refl _ _).drew).mono ?_
                rintro e6 w6 ⟨rfl, rfl⟩
                refine hK.out _ _ ?_ (fun hHeld => ?_)
                · exact hHeld
                clear hK K
                refine wpAnyH_take (i := 9) (v := ?_) rfl (by kernel_rfl) (by kernel_rfl) (by kernel_rfl) (fun _ _ _ h => h) (Or.inl ⟨by rfl, ?_⟩) (by assumption) ?_; rotate_left; focus (intro wS hSw; (try dsimp only at hSw); first | (go_simp; done) | (go_simp; with_reducible rfl))
                simp only [List.getElem_toArray, List.getElem_cons_succ, List.getElem_cons_zero, Act.put, List.setIfInBounds_toArray, List.set_cons_zero, List.set_cons_succ]
                refine wpAnyH_take (i := 10) (v := ?_) rfl (by kernel_rfl) (by kernel_rfl) (by kernel_rfl) (fun _ _ _ h => h) (Or.inl ⟨by rfl, ?_⟩) (by assumption) ?_; rotate_left; focus (intro wS hSw; (try dsimp only at hSw); first | (go_simp; done) | (go_simp; with_reducible rfl))
                simp only [List.getElem_toArray, List.getElem_cons_succ, List.getElem_cons_zero, Act.put, List.setIfInBounds_toArray, List.set_cons_zero, List.set_cons_succ]
                refine wpAnyH_take (i := 11) (v := ?_) rfl (by kernel_rfl) (by kernel_rfl) (by kernel_rfl) (fun _ _ _ h => h) (Or.inl ⟨by rfl, ?_⟩) (by assumption) ?_; rotate_left; focus (intro wS hSw; (try dsimp only at hSw); first | (go_simp; done) | (go_simp; with_reducible rfl))
                simp only [List.getElem_toArray, List.getElem_cons_succ, List.getElem_cons_zero, Act.put, List.setIfInBounds_toArray, List.set_cons_zero, List.set_cons_succ]
                refine wpAnyH_take (i := 14) (v := ?_) rfl (by kernel_rfl) (by kernel_rfl) (by kernel_rfl) (fun _ _ _ h => h) (Or.inl ⟨by rfl, ?_⟩) (by assumption) ?_; rotate_left; focus (intro wS hSw; (try dsimp only at hSw); first | (go_simp; done) | (go_simp; with_reducible rfl))
                simp only [List.getElem_toArray, List.getElem_cons_succ, List.getElem_cons_zero, Act.put, List.setIfInBounds_toArray, List.set_cons_zero, List.set_cons_succ]
                refine wpAnyH_take (i := 15) (v := ?_) rfl (by kernel_rfl) (by kernel_rfl) (by kernel_rfl) (fun _ _ _ h => h) (Or.inl ⟨by rfl, ?_⟩) (by assumption) ?_; rotate_left; focus (intro wS hSw; (try dsimp only at hSw); first | (go_simp; done) | (go_simp; with_reducible rfl))
                simp only [List.getElem_toArray, List.getElem_cons_succ, List.getElem_cons_zero, Act.put, List.setIfInBounds_toArray, List.set_cons_zero, List.set_cons_succ]
                refine wpAnyH_ready (rs := [12]) (by kernel_rfl) (by simp) ?_
                refine AllReadyH.cons rfl (fun K hK => ?_) AllReadyH.nil
                go_simp
                go_at_call 18
                refine (HS5.out.hv _ (Mod.refl _ _).drew).mono ?_
                rintro e7 w7 ⟨s2, rfl, ho2, hm7⟩
                have hcv2 := conv8 ho2.rd
                have mD := (Mod.refl [] w5).drew.trans hm7
                have hcv3 := HCV5.out _ mD
                have c1b : w7.cell? ⟨N, 1, none⟩ = some (.int .i64 frm) := (HN5.out.mod mD (by simp)).cell 1
                refine hK.out _ _ ?_ (fun hHeld => ?_)
                · exact ⟨c1b, hcv3⟩
                clear hK K
                refine held_grow (S' := (fun X => (convert 26 9 (.slice s2.a s2.len s2.cap)).run Try.prog X = .ok (.string ⟨g'.vb.toArray⟩) X ∧ X.cell? ⟨N, 1, none⟩ = some (.int .i64 frm) ∧ (convert 26 9 (.slice s1.a s1.len s1.cap)).run Try.prog X = .ok (.string ⟨g'.vb.toArray⟩) X)) (fun X hX => hX.2) _ _ _ _ ?_
                have hHeld2 : (fun X => (convert 26 9 (.slice s2.a s2.len s2.cap)).run Try.prog X = .ok (.string ⟨g'.vb.toArray⟩) X ∧ X.cell? ⟨N, 1, none⟩ = some (.int .i64 frm) ∧ (convert 26 9 (.slice s1.a s1.len s1.cap)).run Try.prog X = .ok (.string ⟨g'.vb.toArray⟩) X) w7 := ⟨hcv2, c1b, hcv3⟩
                refine wpAnyH_take (i := 13) (v := ?_) rfl (by kernel_rfl) (by kernel_rfl) (by kernel_rfl) (fun _ _ _ h => h) (Or.inl ⟨by rfl, ?_⟩) (by assumption) ?_; rotate_left; focus (intro wS hSw; (try dsimp only at hSw); first | (go_simp; done) | (go_simp; with_reducible rfl))
                simp only [List.getElem_toArray, List.getElem_cons_succ, List.getElem_cons_zero, Act.put, List.setIfInBounds_toArray, List.set_cons_zero, List.set_cons_succ]
                refine wpAnyH_take (i := 16) (v := ?_) rfl (by kernel_rfl) (by kernel_rfl) (by kernel_rfl) (fun _ _ _ h => h) (Or.inl ⟨by rfl, ?_⟩) (by assumption) ?_; rotate_left; focus (intro wS hSw; (try dsimp only at hSw); first | (go_simp; done) | (go_simp; with_reducible rfl))
                simp only [List.getElem_toArray, List.getElem_cons_succ, List.getElem_cons_zero, Act.put, List.setIfInBounds_toArray, List.set_cons_zero, List.set_cons_succ]
                refine wpAnyH_take (i := 17) (v := ?_) rfl (by kernel_rfl) (by kernel_rfl) (by kernel_rfl) (fun _ _ _ h => h) (Or.inl ⟨by rfl, ?_⟩) (by assumption) ?_; rotate_left; focus (intro wS hSw; (try dsimp only at hSw); first | (go_simp; done) | (go_simp; with_reducible rfl))
                simp only [List.getElem_toArray, List.getElem_cons_succ, List.getElem_cons_zero, Act.put, List.setIfInBounds_toArray, List.set_cons_zero, List.set_cons_succ]
                refine wpAnyH_take (i := 18) (v := ?_) rfl (by kernel_rfl) (by kernel_rfl) (by kernel_rfl) (fun _ _ _ h => h) (Or.inl ⟨by rfl, ?_⟩) (by assumption) ?_; rotate_left; focus (intro wS hSw; (try dsimp only at hSw); first | (go_simp; done) | (go_simp; with_reducible rfl))
                simp only [List.getElem_toArray, List.getElem_cons_succ, List.getElem_cons_zero, Act.put, List.setIfInBounds_toArray, List.set_cons_zero, List.set_cons_succ]
                refine wpAnyH_take (i := 19) (v := ?_) rfl (by kernel_rfl) (by kernel_rfl) (by kernel_rfl) (fun _ _ _ h => h) (Or.inl ⟨by rfl, ?_⟩) (by assumption) ?_; rotate_left; focus (intro wS hSw; (try dsimp only at hSw); first | (go_simp; done) | (go_simp; with_reducible rfl))
                simp only [List.getElem_toArray, List.getElem_cons_succ, List.getElem_cons_zero, Act.put, List.setIfInBounds_toArray, List.set_cons_zero, List.set_cons_succ]
                refine wpAnyH_take (i := 20) (v := ?_) rfl (by kernel_rfl) (by kernel_rfl) (by kernel_rfl) (fun _ _ _ h => h) (Or.inl ⟨by rfl, ?_⟩) (by assumption) ?_; rotate_left; focus (intro wS hSw; (try dsimp only at hSw); first | (go_simp; done) | (go_simp; with_reducible rfl))
                simp only [List.getElem_toArray, List.getElem_cons_succ, List.getElem_cons_zero, Act.put, List.setIfInBounds_toArray, List.set_cons_zero, List.set_cons_succ]
                refine wpAnyH_take (i := 21) (v := ?_) rfl (by kernel_rfl) (by kernel_rfl) (by kernel_rfl) (fun _ _ _ h => h) (Or.inl ⟨by rfl, ?_⟩) (by assumption) ?_; rotate_left; focus (intro wS hSw; (try dsimp only at hSw); first | (go_simp; done) | (go_simp; with_reducible rfl))
                simp only [List.getElem_toArray, List.getElem_cons_succ, List.getElem_cons_zero, Act.put, List.setIfInBounds_toArray, List.set_cons_zero, List.set_cons_succ]
                refine wpAnyH_take (i := 23) (v := ?_) rfl (by kernel_rfl) (by kernel_rfl) (by kernel_rfl) (fun _ _ _ h => h) (Or.inl ⟨by rfl, ?_⟩) (by assumption) ?_; rotate_left; focus (intro wS hSw; (try dsimp only at hSw); first | (go_simp; done) | (go_simp; with_reducible rfl))
                simp only [List.getElem_toArray, List.getElem_cons_succ, List.getElem_cons_zero, Act.put, List.setIfInBounds_toArray, List.set_cons_zero, List.set_cons_succ]
                refine wpAnyH_ready (rs := [22]) (by kernel_rfl) (by simp) ?_
                refine AllReadyH.cons rfl (fun K hK => ?_) AllReadyH.nil
                go_simp
                go_at_call 15
                refine (HS5.out.ha _ frm mD).mono ?_
                rw [HA.out]
                rintro e8 w8 ⟨rfl, hm8⟩
                have mE := mD.trans hm8
                refine hK.out _ _ ?_ (fun hHeld => ?_)
                · exact ⟨conv8 (ho2.below hm8).rd, (HN5.out.mod mE (by simp)).cell 1, HCV5.out _ mE⟩
                clear hK K
                refine wpAnyH_take (i := 24) (v := ?_) rfl (by kernel_rfl) (by kernel_rfl) (by kernel_rfl) (fun _ _ _ h => h) (Or.inl ⟨by rfl, ?_⟩) (by assumption) ?_; rotate_left; focus (intro wS hSw; (try dsimp only at hSw); first | (go_simp; done) | (go_simp; with_reducible rfl))
                simp only [List.getElem_toArray, List.getElem_cons_succ, List.getElem_cons_zero, Act.put, List.setIfInBounds_toArray, List.set_cons_zero, List.set_cons_succ]
                refine wpAnyH_take (i := 25) (v := ?_) rfl (by kernel_rfl) (by kernel_rfl) (by kernel_rfl) (fun _ _ _ h => h) (Or.inl ⟨by rfl, ?_⟩) (by assumption) ?_; rotate_left; focus (intro wS hSw; (try dsimp only at hSw); first | (go_simp; done) | (go_simp; with_reducible rfl))
                simp only [List.getElem_toArray, List.getElem_cons_succ, List.getElem_cons_zero, Act.put, List.setIfInBounds_toArray, List.set_cons_zero, List.set_cons_succ]
                refine wpAnyH_take (i := 26) (v := ?_) rfl (by kernel_rfl) (by kernel_rfl) (by kernel_rfl) (fun _ _ _ h => h) (Or.inl ⟨by rfl, ?_⟩) (by assumption) ?_; rotate_left; focus (intro wS hSw; (try dsimp only at hSw); first | (go_simp; done) | (go_simp; with_reducible rfl))
                simp only [List.getElem_toArray, List.getElem_cons_succ, List.getElem_cons_zero, Act.put, List.setIfInBounds_toArray, List.set_cons_zero, List.set_cons_succ]
                refine wpAnyH_done (by kernel_rfl) ?_ _
                refine NoPanic.normal ?_
                go_wp2
                go_roundw
                case rel => exact LateRel.mk (k + 1) mp' g' ⟨by omega, by go_num, HI5.out, HP5.out.below mE, hmp5, HB5.out.mod mE (by simp), HMW.out.trans mE⟩
                case measure => simp [intOf]; omega
        · have p1 : (ph == 1) = false := beq_eq_false_iff_ne.2 hph
          have p2 : (ph != 1) = true := by simpa using hph
          clear hph
          cases hA : gAsked g frm with
          | false =>
            have HA := Lib.hid hA
            by_cases hK : g.phase = 2
            · have HSTILL := Lib.hid (show ¬ (g.phase = 2 ∧ gAsked g frm = true) from fun hh => by rw [hA] at hh; cases hh.2)
              have k1 : (g.phase != 2) = false := by rw [hK]; rfl
              clear hA hK
              go_region_held3 (fun w' => w'.cell? ⟨N, 1, none⟩ = some (.int .i64 frm)) (first | exact n1 | exact n1b)
                (first | (go_at_call 14; (first | refine (HSAY.out.hp _ (Mod.refl _ _).drew).mono ?_ | refine (HSAY.out.hp _ mB).mono ?_); rintro e2 w2' ⟨rfl, rfl⟩) | (go_at_call 15; refine (HSAY.out.ha _ frm (Mod.refl _ _).drew).mono ?_; rw [HA.out]; rintro e3 w3 ⟨rfl, hm3⟩; have mB := (Mod.refl [] W).drew.trans hm3; have n1b : w3.cell? ⟨N, 1, none⟩ = some (.int .i64 frm) := (HNC.out.mod mB (by simp)).cell 1))
              all_goals
                rename_i hheld
                clear hheld
                clear n0 n1 n2 n1b
                have m3 := HW.out.trans mB
                have HS3 := Lib.hid ((HPr.out.below m3).says HIr.out.ok.vb)
                have hN3 := HNC.out.mod mB (by simp)
                have c0 : w3.cell? ⟨N, 0, none⟩ = some (.int .i64 ph) := hN3.cell 0
                have HN3 := Lib.hid hN3
                have HM3 := Lib.hid m3
                clear hN3 m3 mB hm3
                go_wp2_with fail
                refine (HS3.out.hv _ (Mod.refl _ _)).mono ?_
                rintro e4 w4 ⟨s1, rfl, ho1, hm4⟩
                clear c0
                have hN4 := HN3.out.mod hm4 (by simp)
                have c0 : w4.cell? ⟨N, 0, none⟩ = some (.int .i64 ph) := hN4.cell 0
                have c1 : w4.cell? ⟨N, 1, none⟩ = some (.int .i64 frm) := hN4.cell 1
                have c3 : w4.cell? ⟨N, 3, none⟩ = some (.int .i64 r) := hN4.cell 3
                have c4 : w4.cell? ⟨N, 4, none⟩ = some (.int .i64 q) := hN4.cell 4
                have c5 : w4.cell? ⟨N, 5, none⟩ = some (.slice s.a s.len s.cap) := hN4.cell 5
                have HM4 := Lib.hid (HM3.out.trans hm4)
                have HP4 := Lib.hid (HPr.out.below HM4.out)
                have HN4 := Lib.hid hN4
                have HO1 := Lib.hid ho1
                clear hN4 hm4 ho1 HS3 HN3 HM3
                go_wp2_with fail
                refine (accepted_rep b mp g frm 7 w4 HP4.out HIr.out.ok).mono ?_
                rintro e5 w5 ⟨rfl, hP5, hM5⟩
                have hI5 := HIr.out.acpt (f := frm) (e := 7) (by omega)
                have hmp5 : w.heap.size < mp := hmw
                obtain ⟨mp', hmp'⟩ : ∃ mp', mp' = mp := ⟨_, rfl⟩
                obtain ⟨g', hg⟩ : ∃ g', g' = gAccepted g frm 7 := ⟨_, rfl⟩
                rw [← hg, ← hmp'] at hP5
                rw [← hg] at hI5
                rw [← hmp'] at hmp5
                obtain rfl : g' = g := hg.trans (acpt_still (fun hh => HSTILL.out hh))
                clear c0 c1 c3 c4 c5
                have hN5 := HN4.out.mod hM5 (by simp; omega)
                have hB5 : Cel w5 w.heap.size lt.cells 54 := (HBr.out.mod HM4.out (by simp)).mod hM5 (by simp; omega)
                have hO5 := HO1.out.mod hM5 HP4.out.noBytes
                have hMw5 : Mod [] w w5 := (HMr.out.trans HM4.out).then hM5 (by simp; omega)
                have c0 : w5.cell? ⟨N, 0, none⟩ = some (.int .i64 ph) := hN5.cell 0
                have c1 : w5.cell? ⟨N, 1, none⟩ = some (.int .i64 frm) := hN5.cell 1
                have HS5 := Lib.hid (hP5.says hI5.ok.vb)
                have HCV5 := Lib.hid (fun (X : World) (hX : Mod [] w5 X) => conv8 (hO5.below hX).rd)
                have HN5 := Lib.hid hN5
                have HB5 := Lib.hid hB5
                have HMW := Lib.hid hMw5
                have HP5 := Lib.hid hP5
                have HI5 := Lib.hid hI5
                clear hN5 hB5 hO5 hMw5 hM5 hP5 hI5 HN4 HO1 HP4 HM4 hg hmp'
                have hcv1 := HCV5.out _ (Mod.refl [] w5).drew
                go_wp2_with fail
                refine wp_region_noPanic ?_
                refine wp_region_held_drew (S := (fun X => X.cell? ⟨N, 1, none⟩ = some (.int .i64 frm) ∧ (convert 26 9 (.slice s1.a s1.len s1.cap)).run Try.prog X = .ok (.string ⟨g'.vb.toArray⟩) X)) (by kernel_rfl) ⟨c1, hcv1⟩ (fun hHeld => ?_)
                refine wpAnyH_take (i := 0) (v := ?_) rfl (by kernel_rfl) (by kernel_rfl) (by kernel_rfl) (fun _ _ _ h => h) (Or.inl ⟨by rfl, ?_⟩) (by assumption) ?_; rotate_left; focus (intro wS hSw; (try dsimp only at hSw); first | (go_simp; done) | (go_simp; with_reducible rfl))
                simp only [List.getElem_toArray, List.getElem_cons_zero, Act.put, List.setIfInBounds_toArray, List.set_cons_zero, List.set_cons_succ]
                refine wpAnyH_take (i := 1) (v := ?_) rfl (by kernel_rfl) (by kernel_rfl) (by kernel_rfl) (fun _ _ _ h => h) (Or.inl ⟨by rfl, ?_⟩) (by assumption) ?_; rotate_left; focus (intro wS hSw; (try dsimp only at hSw); first | (go_simp; done) | (go_simp; with_reducible rfl))
                simp only [List.getElem_toArray, List.getElem_cons_succ, List.getElem_cons_zero, Act.put, List.setIfInBounds_toArray, List.set_cons_zero, List.set_cons_succ]
                refine wpAnyH_take (i := 2) (v := ?_) rfl (by kernel_rfl) (by kernel_rfl) (by kernel_rfl) (fun _ _ _ h => h) (Or.inl ⟨by rfl, ?_⟩) (by assumption) ?_; rotate_left; focus (intro wS hSw; (try dsimp only at hSw); first | (go_simp; done) | (go_simp; with_reducible rfl))
                simp only [List.getElem_toArray, List.getElem_cons_succ, List.getElem_cons_zero, Act.put, List.setIfInBounds_toArray, List.set_cons_zero, List.set_cons_succ]
                refine wpAnyH_take (i := 3) (v := undef) rfl (by kernel_rfl) (by kernel_rfl) (by kernel_rfl) (fun _ _ _ h => h) (Or.inr ⟨by rfl, rfl⟩) (by assumption) ?_
                simp only [List.getElem_toArray, List.getElem_cons_succ, List.getElem_cons_zero, Act.put, List.setIfInBounds_toArray, List.set_cons_zero, List.set_cons_succ]
                refine wpAnyH_take (i := 4) (v := ?_) rfl (by kernel_rfl) (by kernel_rfl) (by kernel_rfl) (fun _ _ _ h => h) (Or.inl ⟨by rfl, ?_⟩) (by assumption) ?_; rotate_left; focus (intro wS hSw; (try dsimp only at hSw); first | (go_simp; done) | (go_simp; with_reducible rfl))
                simp only [List.getElem_toArray, List.getElem_cons_succ, List.getElem_cons_zero, Act.put, List.setIfInBounds_toArray, List.set_cons_zero, List.set_cons_succ]
                refine wpAnyH_take (i := 5) (v := ?_) rfl (by kernel_rfl) (by kernel_rfl) (by kernel_rfl) (fun _ _ _ h => h) (Or.inl ⟨by rfl, ?_⟩) (by assumption) ?_; rotate_left; focus (intro wS hSw; (try dsimp only at hSw); first | (go_simp; done) | (go_simp; with_reducible rfl))
                simp only [List.getElem_toArray, List.getElem_cons_succ, List.getElem_cons_zero, Act.put, List.setIfInBounds_toArray, List.set_cons_zero, List.set_cons_succ]
                refine wpAnyH_take (i := 6) (v := ?_) rfl (by kernel_rfl) (by kernel_rfl) (by kernel_rfl) (fun _ _ _ h => h) (Or.inl ⟨by rfl, ?_⟩) (by assumption) ?_; rotate_left; focus (intro wS hSw; (try dsimp only at hSw); first | (go_simp; done) | (go_simp; with_reducible rfl))
                simp only [List.getElem_toArray, List.getElem_cons_succ, List.getElem_cons_zero, Act.put, List.setIfInBounds_toArray, List.set_cons_zero, List.set_cons_succ]
                refine wpAnyH_take (i := 8) (v := ?_) rfl (by kernel_rfl) (by kernel_rfl) (by kernel_rfl) (fun _ _ _ h => h) (Or.inl ⟨by rfl, ?_⟩) (by assumption) ?_; rotate_left; focus (intro wS hSw; (try dsimp only at hSw); first | (go_simp; done) | (go_simp; with_reducible rfl))
                simp only [List.getElem_toArray, List.getElem_cons_succ, List.getElem_cons_zero, Act.put, List.setIfInBounds_toArray, List.set_cons_zero, List.set_cons_succ]
                refine wpAnyH_ready (rs := [7]) (by kernel_rfl) (by simp) ?_
                refine AllReadyH.cons rfl (fun K hK => ?_) AllReadyH.nil
                go_simp
                go_at_call 14
                refine (HS5.out.hp _ (Mod.refl _ _).drew).mono ?_
                rintro e6 w6 ⟨rfl, rfl⟩
                refine hK.out _ _ ?_ (fun hHeld => ?_)
                · exact hHeld
                clear hK K
                refine wpAnyH_take (i := 9) (v := ?_) rfl (by kernel_rfl) (by kernel_rfl) (by kernel_rfl) (fun _ _ _ h => h) (Or.inl ⟨by rfl, ?_⟩) (by assumption) ?_; rotate_left; focus (intro wS hSw; (try dsimp only at hSw); first | (go_simp; done) | (go_simp; with_reducible rfl))
                simp only [List.getElem_toArray, List.getElem_cons_succ, List.getElem_cons_zero, Act.put, List.setIfInBounds_toArray, List.set_cons_zero, List.set_cons_succ]
                refine wpAnyH_take (i := 10) (v := ?_) rfl (by kernel_rfl) (by kernel_rfl) (by kernel_rfl) (fun _ _ _ h => h) (Or.inl ⟨by rfl, ?_⟩) (by assumption) ?_; rotate_left; focus (intro wS hSw; (try dsimp only at hSw); first | (go_simp; done) | (go_simp; with_reducible rfl))
                simp only [List.getElem_toArray, List.getElem_cons_succ, List.getElem_cons_zero, Act.put, List.setIfInBounds_toArray, List.set_cons_zero, List.set_cons_succ]
                refine wpAnyH_take (i := 11) (v := ?_) rfl (by kernel_rfl) (by kernel_rfl) (by kernel_rfl) (fun _ _ _ h => h) (Or.inl ⟨by rfl, ?_⟩) (by assumption) ?_; rotate_left; focus (intro wS hSw; (try dsimp only at hSw); first | (go_simp; done) | (go_simp; with_reducible rfl))
                simp only [List.getElem_toArray, List.getElem_cons_succ, List.getElem_cons_zero, Act.put, List.setIfInBounds_toArray, List.set_cons_zero, List.set_cons_succ]
                refine wpAnyH_take (i := 14) (v := ?_) rfl (by kernel_rfl) (by kernel_rfl) (by kernel_rfl) (fun _ _ _ h => h) (Or.inl ⟨by rfl, ?_⟩) (by assumption) ?_; rotate_left; focus (intro wS hSw; (try dsimp only at hSw); first | (go_simp; done) | (go_simp; with_reducible rfl))
                simp only [List.getElem_toArray, List.getElem_cons_succ, List.getElem_cons_zero, Act.put, List.setIfInBounds_toArray, List.set_cons_zero, List.set_cons_succ]
                refine wpAnyH_take (i := 15) (v := ?_) rfl (by kernel_rfl) (by kernel_rfl) (by kernel_rfl) (fun _ _ _ h => h) (Or.inl ⟨by rfl, ?_⟩) (by assumption) ?_; rotate_left; focus (intro wS hSw; (try dsimp only at hSw); first | (go_simp; done) | (go_simp; with_reducible rfl))
                simp only [List.getElem_toArray, List.getElem_cons_succ, List.getElem_cons_zero, Act.put, List.setIfInBounds_toArray, List.set_cons_zero, List.set_cons_succ]
                refine wpAnyH_ready (rs := [12]) (by kernel_rfl) (by simp) ?_
                refine AllReadyH.cons rfl (fun K hK => ?_) AllReadyH.nil
                go_simp
                go_at_call 18
                refine (HS5.out.hv _ (Mod.refl _ _).drew).mono ?_
                rintro e7 w7 ⟨s2, rfl, ho2, hm7⟩
                have hcv2 := conv8 ho2.rd
                have mD := (Mod.refl [] w5).drew.trans hm7
                have hcv3 := HCV5.out _ mD
                have c1b : w7.cell? ⟨N, 1, none⟩ = some (.int .i64 frm) := (HN5.out.mod mD (by simp)).cell 1
                refine hK.out _ _ ?_ (fun hHeld => ?_)
                · exact ⟨c1b, hcv3⟩
                clear hK K
                refine held_grow (S' := (fun X => (convert 26 9 (.slice s2.a s2.len s2.cap)).run Try.prog X = .ok (.string ⟨g'.vb.toArray⟩) X ∧ X.cell? ⟨N, 1, none⟩ = some (.int .i64 frm) ∧ (convert 26 9 (.slice s1.a s1.len s1.cap)).run Try.prog X = .ok (.string ⟨g'.vb.toArray⟩) X)) (fun X hX => hX.2) _ _ _ _ ?_
                have hHeld2 : (fun X => (convert 26 9 (.slice s2.a s2.len s2.cap)).run Try.prog X = .ok (.string ⟨g'.vb.toArray⟩) X ∧ X.cell? ⟨N, 1, none⟩ = some (.int .i64 frm) ∧ (convert 26 9 (.slice s1.a s1.len s1.cap)).run Try.prog X = .ok (.string ⟨g'.vb.toArray⟩) X) w7 := ⟨hcv2, c1b, hcv3⟩
                refine wpAnyH_take (i := 13) (v := ?_) rfl (by kernel_rfl) (by kernel_rfl) (by kernel_rfl) (fun _ _ _ h => h) (Or.inl ⟨by rfl, ?_⟩) (by assumption) ?_; rotate_left; focus (intro wS hSw; (try dsimp only at hSw); first | (go_simp; done) | (go_simp; with_reducible rfl))
                simp only [List.getElem_toArray, List.getElem_cons_succ, List.getElem_cons_zero, Act.put, List.setIfInBounds_toArray, List.set_cons_zero, List.set_cons_succ]
                refine wpAnyH_take (i := 16) (v := ?_) rfl (by kernel_rfl) (by kernel_rfl) (by kernel_rfl) (fun _ _ _ h => h) (Or.inl ⟨by rfl, ?_⟩) (by assumption) ?_; rotate_left; focus (intro wS hSw; (try dsimp only at hSw); first | (go_simp; done) | (go_simp; with_reducible rfl))
                simp only [List.getElem_toArray, List.getElem_cons_succ, List.getElem_cons_zero, Act.put, List.setIfInBounds_toArray, List.set_cons_zero, List.set_cons_succ]
                refine wpAnyH_take (i := 17) (v := ?_) rfl (by kernel_rfl) (by kernel_rfl) (by kernel_rfl) (fun _ _ _ h => h) (Or.inl ⟨by rfl, ?_⟩) (by assumption) ?_; rotate_left; focus (intro wS hSw; (try dsimp only at hSw); first | (go_simp; done) | (go_simp; with_reducible rfl))
                simp only [List.getElem_toArray, List.getElem_cons_succ, List.getElem_cons_zero, Act.put, List.setIfInBounds_toArray, List.set_cons_zero, List.set_cons_succ]
                refine wpAnyH_take (i := 18) (v := ?_) rfl (by kernel_rfl) (by kernel_rfl) (by kernel_rfl) (fun _ _ _ h => h) (Or.inl ⟨by rfl, ?_⟩) (by assumption) ?_; rotate_left; focus (intro wS hSw; (try dsimp only at hSw); first | (go_simp; done) | (go_simp; with_reducible rfl))
                simp only [List.getElem_toArray, List.getElem_cons_succ, List.getElem_cons_zero, Act.put, List.setIfInBounds_toArray, List.set_cons_zero, List.set_cons_succ]
                refine wpAnyH_take (i := 19) (v := ?_) rfl (by kernel_rfl) (by kernel_rfl) (by kernel_rfl) (fun _ _ _ h => h) (Or.inl ⟨by rfl, ?_⟩) (by assumption) ?_; rotate_left; focus (intro wS hSw; (try dsimp only at hSw); first | (go_simp; done) | (go_simp; with_reducible rfl))
                simp only [List.getElem_toArray, List.getElem_cons_succ, List.getElem_cons_zero, Act.put, List.setIfInBounds_toArray, List.set_cons_zero, List.set_cons_succ]
                refine wpAnyH_take (i := 20) (v := ?_) rfl (by kernel_rfl) (by kernel_rfl) (by kernel_rfl) (fun _ _ _ h => h) (Or.inl ⟨by rfl, ?_⟩) (by assumption) ?_; rotate_left; focus (intro wS hSw; (try dsimp only at hSw); first | (go_simp; done) | (go_simp; with_reducible rfl))
                simp only [List.getElem_toArray, List.getElem_cons_succ, List.getElem_cons_zero, Act.put, List.setIfInBounds_toArray, List.set_cons_zero, List.set_cons_succ]
                refine wpAnyH_take (i := 21) (v := ?_) rfl (by kernel_rfl) (by kernel_rfl) (by kernel_rfl) (fun _ _ _ h => h) (Or.inl ⟨by rfl, ?_⟩) (by assumption) ?_; rotate_left; focus (intro wS hSw; (try dsimp only at hSw); first | (go_simp; done) | (go_simp; with_reducible rfl))
                simp only [List.getElem_toArray, List.getElem_cons_succ, List.getElem_cons_zero, Act.put, List.setIfInBounds_toArray, List.set_cons_zero, List.set_cons_succ]
                refine wpAnyH_take (i := 23) (v := ?_) rfl (by kernel_rfl) (by kernel_rfl) (by kernel_rfl) (fun _ _ _ h => h) (Or.inl ⟨by rfl, ?_⟩) (by assumption) ?_; rotate_left; focus (intro wS hSw; (try dsimp only at hSw); first | (go_simp; done) | (go_simp; with_reducible rfl))
                simp only [List.getElem_toArray, List.getElem_cons_succ, List.getElem_cons_zero, Act.put, List.setIfInBounds_toArray, List.set_cons_zero, List.set_cons_succ]
                refine wpAnyH_ready (rs := [22]) (by kernel_rfl) (by simp) ?_
                refine AllReadyH.cons rfl (fun K hK => ?_) AllReadyH.nil
                go_simp
                go_at_call 15
                refine (HS5.out.ha _ frm mD).mono ?_
                rw [HA.out]
                rintro e8 w8 ⟨rfl, hm8⟩
                have mE := mD.trans hm8
                refine hK.out _ _ ?_ (fun hHeld => ?_)
                · exact ⟨conv8 (ho2.below hm8).rd, (HN5.out.mod mE (by simp)).cell 1, HCV5.out _ mE⟩
                clear hK K
                refine wpAnyH_take (i := 24) (v := ?_) rfl (by kernel_rfl) (by kernel_rfl) (by kernel_rfl) (fun _ _ _ h => h) (Or.inl ⟨by rfl, ?_⟩) (by assumption) ?_; rotate_left; focus (intro wS hSw; (try dsimp only at hSw); first | (go_simp; done) | (go_simp; with_reducible rfl))
                simp only [List.getElem_toArray, List.getElem_cons_succ, List.getElem_cons_zero, Act.put, List.setIfInBounds_toArray, List.set_cons_zero, List.set_cons_succ]
                refine wpAnyH_take (i := 25) (v := ?_) rfl (by kernel_rfl) (by kernel_rfl) (by kernel_rfl) (fun _ _ _ h => h) (Or.inl ⟨by rfl, ?_⟩) (by assumption) ?_; rotate_left; focus (intro wS hSw; (try dsimp only at hSw); first | (go_simp; done) | (go_simp; with_reducible rfl))
                simp only [List.getElem_toArray, List.getElem_cons_succ, List.getElem_cons_zero, Act.put, List.setIfInBounds_toArray, List.set_cons_zero, List.set_cons_succ]
                refine wpAnyH_take (i := 26) (v := ?_) rfl (by kernel_rfl) (by kernel_rfl) (by kernel_rfl) (fun _ _ _ h => h) (Or.inl ⟨by rfl, ?_⟩) (by assumption) ?_; rotate_left; focus (intro wS hSw; (try dsimp only at hSw); first | (go_simp; done) | (go_simp; with_reducible rfl))
                simp only [List.getElem_toArray, List.getElem_cons_succ, List.getElem_cons_zero, Act.put, List.setIfInBounds_toArray, List.set_cons_zero, List.set_cons_succ]
                refine wpAnyH_done (by kernel_rfl) ?_ _
                refine NoPanic.normal ?_
                go_wp2
                go_roundw
                case rel => exact LateRel.mk (k + 1) mp' g' ⟨by omega, by go_num, HI5.out, HP5.out.below mE, hmp5, HB5.out.mod mE (by simp), HMW.out.trans mE⟩
                case measure => simp [intOf]; omega
            · have HSTILL := Lib.hid (show ¬ (g.phase = 2 ∧ gAsked g frm = true) from fun hh => by rw [hA] at hh; cases hh.2)
              have k1 : (g.phase != 2) = true := by simpa using hK
              clear hA hK
              go_region_held3 (fun w' => w'.cell? ⟨N, 1, none⟩ = some (.int .i64 frm)) (first | exact n1 | exact n1b)
                (first | (go_at_call 14; (first | refine (HSAY.out.hp _ (Mod.refl _ _).drew).mono ?_ | refine (HSAY.out.hp _ mB).mono ?_); rintro e2 w2' ⟨rfl, rfl⟩) | (go_at_call 15; refine (HSAY.out.ha _ frm (Mod.refl _ _).drew).mono ?_; rw [HA.out]; rintro e3 w3 ⟨rfl, hm3⟩; have mB := (Mod.refl [] W).drew.trans hm3; have n1b : w3.cell? ⟨N, 1, none⟩ = some (.int .i64 frm) := (HNC.out.mod mB (by simp)).cell 1))
              all_goals
                rename_i hheld
                clear hheld
                clear n0 n1 n2 n1b
                have m3 := HW.out.trans mB
                have HS3 := Lib.hid ((HPr.out.below m3).says HIr.out.ok.vb)
                have hN3 := HNC.out.mod mB (by simp)
                have c0 : w3.cell? ⟨N, 0, none⟩ = some (.int .i64 ph) := hN3.cell 0
                have HN3 := Lib.hid hN3
                have HM3 := Lib.hid m3
                clear hN3 m3 mB hm3
                go_wp2_with fail
                refine (HS3.out.hv _ (Mod.refl _ _)).mono ?_
                rintro e4 w4 ⟨s1, rfl, ho1, hm4⟩
                clear c0
                have hN4 := HN3.out.mod hm4 (by simp)
                have c0 : w4.cell? ⟨N, 0, none⟩ = some (.int .i64 ph) := hN4.cell 0
                have c1 : w4.cell? ⟨N, 1, none⟩ = some (.int .i64 frm) := hN4.cell 1
                have c3 : w4.cell? ⟨N, 3, none⟩ = some (.int .i64 r) := hN4.cell 3
                have c4 : w4.cell? ⟨N, 4, none⟩ = some (.int .i64 q) := hN4.cell 4
                have c5 : w4.cell? ⟨N, 5, none⟩ = some (.slice s.a s.len s.cap) := hN4.cell 5
                have HM4 := Lib.hid (HM3.out.trans hm4)
                have HP4 := Lib.hid (HPr.out.below HM4.out)
                have HN4 := Lib.hid hN4
                have HO1 := Lib.hid ho1
                clear hN4 hm4 ho1 HS3 HN3 HM3
                go_wp2_with fail
                refine (accepted_rep b mp g frm 7 w4 HP4.out HIr.out.ok).mono ?_
                rintro e5 w5 ⟨rfl, hP5, hM5⟩
                have hI5 := HIr.out.acpt (f := frm) (e := 7) (by omega)
                have hmp5 : w.heap.size < mp := hmw
                obtain ⟨mp', hmp'⟩ : ∃ mp', mp' = mp := ⟨_, rfl⟩
                obtain ⟨g', hg⟩ : ∃ g', g' = gAccepted g frm 7 := ⟨_, rfl⟩
                rw [← hg, ← hmp'] at hP5
                rw [← hg] at hI5
                rw [← hmp'] at hmp5
                obtain rfl : g' = g := hg.trans (acpt_still (fun hh => HSTILL.out hh))
                clear c0 c1 c3 c4 c5
                have hN5 := HN4.out.mod hM5 (by simp; omega)
                have hB5 : Cel w5 w.heap.size lt.cells 54 := (HBr.out.mod HM4.out (by simp)).mod hM5 (by simp; omega)
                have hO5 := HO1.out.mod hM5 HP4.out.noBytes
                have hMw5 : Mod [] w w5 := (HMr.out.trans HM4.out).then hM5 (by simp; omega)
                have c0 : w5.cell? ⟨N, 0, none⟩ = some (.int .i64 ph) := hN5.cell 0
                have c1 : w5.cell? ⟨N, 1, none⟩ = some (.int .i64 frm) := hN5.cell 1
                have HS5 := Lib.hid (hP5.says hI5.ok.vb)
                have HCV5 := Lib.hid (fun (X : World) (hX : Mod [] w5 X) => conv8 (hO5.below hX).rd)
                have HN5 := Lib.hid hN5
                have HB5 := Lib.hid hB5
                have HMW := Lib.hid hMw5
                have HP5 := Lib.hid hP5
                have HI5 := Lib.hid hI5
                clear hN5 hB5 hO5 hMw5 hM5 hP5 hI5 HN4 HO1 HP4 HM4 hg hmp'
                have hcv1 := HCV5.out _ (Mod.refl [] w5).drew
                go_wp2_with fail
                refine wp_region_noPanic ?_
                refine wp_region_held_drew (S := (fun X => X.cell? ⟨N, 1, none⟩ = some (.int .i64 frm) ∧ (convert 26 9 (.slice s1.a s1.len s1.cap)).run Try.prog X = .ok (.string ⟨g'.vb.toArray⟩) X)) (by kernel_rfl) ⟨c1, hcv1⟩ (fun hHeld => ?_)
                refine wpAnyH_take (i := 0) (v := ?_) rfl (by kernel_rfl) (by kernel_rfl) (by kernel_rfl) (fun _ _ _ h => h) (Or.inl ⟨by rfl, ?_⟩) (by assumption) ?_; rotate_left; focus (intro wS hSw; (try dsimp only at hSw); first | (go_simp; done) | (go_simp; with_reducible rfl))
                simp only [List.getElem_toArray, List.getElem_cons_zero, Act.put, List.setIfInBounds_toArray, List.set_cons_zero, List.set_cons_succ]
                refine wpAnyH_take (i := 1) (v := ?_) rfl (by kernel_rfl) (by kernel_rfl) (by kernel_rfl) (fun _ _ _ h => h) (Or.inl ⟨by rfl, ?_⟩) (by assumption) ?_; rotate_left; focus (intro wS hSw; (try dsimp only at hSw); first | (go_simp; done) | (go_simp; with_reducible rfl))
                simp only [List.getElem_toArray, List.getElem_cons_succ, List.getElem_cons_zero, Act.put, List.setIfInBounds_toArray, List.set_cons_zero, List.set_cons_succ]
                refine wpAnyH_take (i := 2) (v := ?_) rfl (by kernel_rfl) (by kernel_rfl) (by kernel_rfl) (fun _ _ _ h => h) (Or.inl ⟨by rfl, ?_⟩) (by assumption) ?_; rotate_left; focus (intro wS hSw; (try dsimp only at hSw); first | (go_simp; done) | (go_simp; with_reducible rfl))
                simp only [List.getElem_toArray, List.getElem_cons_succ, List.getElem_cons_zero, Act.put, List.setIfInBounds_toArray, List.set_cons_zero, List.set_cons_succ]
                refine wpAnyH_take (i := 3) (v := undef) rfl (by kernel_rfl) (by kernel_rfl) (by kernel_rfl) (fun _ _ _ h => h) (Or.inr ⟨by rfl, rfl⟩) (by assumption) ?_
                simp only [List.getElem_toArray, List.getElem_cons_succ, List.getElem_cons_zero, Act.put, List.setIfInBounds_toArray, List.set_cons_zero, List.set_cons_succ]
                refine wpAnyH_take (i := 4) (v := ?_) rfl (by kernel_rfl) (by kernel_rfl) (by kernel_rfl) (fun _ _ _ h => h) (Or.inl ⟨by rfl, ?_⟩) (by assumption) ?_; rotate_left; focus (intro wS hSw; (try dsimp only at hSw); first | (go_simp; done) | (go_simp; with_reducible rfl))
                simp only [List.getElem_toArray, List.getElem_cons_succ, List.getElem_cons_zero, Act.put, List.setIfInBounds_toArray, List.set_cons_zero, List.set_cons_succ]
                refine wpAnyH_take (i := 5) (v := ?_) rfl (by kernel_rfl) (by kernel_rfl) (by kernel_rfl) (fun _ _ _ h => h) (Or.inl ⟨by rfl, ?_⟩) (by assumption) ?_; rotate_left; focus (intro wS hSw; (try dsimp only at hSw); first | (go_simp; done) | (go_simp; with_reducible rfl))
                simp only [List.getElem_toArray, List.getElem_cons_succ, List.getElem_cons_zero, Act.put, List.setIfInBounds_toArray, List.set_cons_zero, List.set_cons_succ]
                refine wpAnyH_take (i := 6) (v := ?_) rfl (by kernel_rfl) (by kernel_rfl) (by kernel_rfl) (fun _ _ _ h => h) (Or.inl ⟨by rfl, ?_⟩) (by assumption) ?_; rotate_left; focus (intro wS hSw; (try dsimp only at hSw); first | (go_simp; done) | (go_simp; with_reducible rfl))
                simp only [List.getElem_toArray, List.getElem_cons_succ, List.getElem_cons_zero, Act.put, List.setIfInBounds_toArray, List.set_cons_zero, List.set_cons_succ]
                refine wpAnyH_take (i := 8) (v := ?_) rfl (by kernel_rfl) (by kernel_rfl) (by kernel_rfl) (fun _ _ _ h => h) (Or.inl ⟨by rfl, ?_⟩) (by assumption) ?_; rotate_left; focus (intro wS hSw; (try dsimp only at hSw); first | (go_simp; done) | (go_simp; with_reducible rfl))
                simp only [List.getElem_toArray, List.getElem_cons_succ, List.getElem_cons_zero, Act.put, List.setIfInBounds_toArray, List.set_cons_zero, List.set_cons_succ]
                refine wpAnyH_ready (rs := [7]) (by kernel_rfl) (by simp) ?_
                refine AllReadyH.cons rfl (fun K hK => ?_) AllReadyH.nil
                go_simp
                go_at_call 14
                refine (HS5.out.hp _ (Mod.refl _ _).drew).mono ?_
                rintro e6 w6 ⟨rfl, rfl⟩
                refine hK.out _ _ ?_ (fun hHeld => ?_)
                · exact hHeld
                clear hK K
                refine wpAnyH_take (i := 9) (v := ?_) rfl (by kernel_rfl) (by kernel_rfl) (by kernel_rfl) (fun _ _ _ h => h) (Or.inl ⟨by rfl, ?_⟩) (by assumption) ?_; rotate_left; focus (intro wS hSw; (try dsimp only at hSw); first | (go_simp; done) | (go_simp; with_reducible rfl))
                simp only [List.getElem_toArray, List.getElem_cons_succ, List.getElem_cons_zero, Act.put, List.setIfInBounds_toArray, List.set_cons_zero, List.set_cons_succ]
                refine wpAnyH_take (i := 10) (v := ?_) rfl (by kernel_rfl) (by kernel_rfl) (by kernel_rfl) (fun _ _ _ h => h) (Or.inl ⟨by rfl, ?_⟩) (by assumption) ?_; rotate_left; focus (intro wS hSw; (try dsimp only at hSw); first | (go_simp; done) | (go_simp; with_reducible rfl))
                simp only [List.getElem_toArray, List.getElem_cons_succ, List.getElem_cons_zero, Act.put, List.setIfInBounds_toArray, List.set_cons_zero, List.set_cons_succ]
                refine wpAnyH_take (i := 11) (v := ?_) rfl (by kernel_rfl) (by kernel_rfl) (by kernel_rfl) (fun _ _ _ h => h) (Or.inl ⟨by rfl, ?_⟩) (by assumption) ?_; rotate_left; focus (intro wS hSw; (try dsimp only at hSw); first | (go_simp; done) | (go_simp; with_reducible rfl))
                simp only [List.getElem_toArray, List.getElem_cons_succ, List.getElem_cons_zero, Act.put, List.setIfInBounds_toArray, List.set_cons_zero, List.set_cons_succ]
                refine wpAnyH_take (i := 14) (v := ?_) rfl (by kernel_rfl) (by kernel_rfl) (by kernel_rfl) (fun _ _ _ h => h) (Or.inl ⟨by rfl, ?_⟩) (by assumption) ?_; rotate_left; focus (intro wS hSw; (try dsimp only at hSw); first | (go_simp; done) | (go_simp; with_reducible rfl))
                simp only [List.getElem_toArray, List.getElem_cons_succ, List.getElem_cons_zero, Act.put, List.setIfInBounds_toArray, List.set_cons_zero, List.set_cons_succ]
                refine wpAnyH_take (i := 15) (v := ?_) rfl (by kernel_rfl) (by kernel_rfl) (by kernel_rfl) (fun _ _ _ h => h) (Or.inl ⟨by rfl, ?_⟩) (by assumption) ?_; rotate_left; focus (intro wS hSw; (try dsimp only at hSw); first | (go_simp; done) | (go_simp; with_reducible rfl))
                simp only [List.getElem_toArray, List.getElem_cons_succ, List.getElem_cons_zero, Act.put, List.setIfInBounds_toArray, List.set_cons_zero, List.set_cons_succ]
                refine wpAnyH_ready (rs := [12]) (by kernel_rfl) (by simp) ?_
                refine AllReadyH.cons rfl (fun K hK => ?_) AllReadyH.nil
                go_simp
                go_at_call 18
                refine (HS5.out.hv _ (Mod.refl _ _).drew).mono ?_
                rintro e7 w7 ⟨s2, rfl, ho2, hm7⟩
                have hcv2 := conv8 ho2.rd
                have mD := (Mod.refl [] w5).drew.trans hm7
                have hcv3 := HCV5.out _ mD
                have c1b : w7.cell? ⟨N, 1, none⟩ = some (.int .i64 frm) := (HN5.out.mod mD (by simp)).cell 1
                refine hK.out _ _ ?_ (fun hHeld => ?_)
                · exact ⟨c1b, hcv3⟩
                clear hK K
                refine held_grow (S' := (fun X => (convert 26 9 (.slice s2.a s2.len s2.cap)).run Try.prog X = .ok (.string ⟨g'.vb.toArray⟩) X ∧ X.cell? ⟨N, 1, none⟩ = some (.int .i64 frm) ∧ (convert 26 9 (.slice s1.a s1.len s1.cap)).run Try.prog X = .ok (.string ⟨g'.vb.toArray⟩) X)) (fun X hX => hX.2) _ _ _ _ ?_
                have hHeld2 : (fun X => (convert 26 9 (.slice s2.a s2.len s2.cap)).run Try.prog X = .ok (.string ⟨g'.vb.toArray⟩) X ∧ X.cell? ⟨N, 1, none⟩ = some (.int .i64 frm) ∧ (convert 26 9 (.slice s1.a s1.len s1.cap)).run Try.prog X = .ok (.string ⟨g'.vb.toArray⟩) X) w7 := ⟨hcv2, c1b, hcv3⟩
                refine wpAnyH_take (i := 13) (v := ?_) rfl (by kernel_rfl) (by kernel_rfl) (by kernel_rfl) (fun _ _ _ h => h) (Or.inl ⟨by rfl, ?_⟩) (by assumption) ?_; rotate_left; focus (intro wS hSw; (try dsimp only at hSw); first | (go_simp; done) | (go_simp; with_reducible rfl))
                simp only [List.getElem_toArray, List.getElem_cons_succ, List.getElem_cons_zero, Act.put, List.setIfInBounds_toArray, List.set_cons_zero, List.set_cons_succ]
                refine wpAnyH_take (i := 16) (v := ?_) rfl (by kernel_rfl) (by kernel_rfl) (by kernel_rfl) (fun _ _ _ h => h) (Or.inl ⟨by rfl, ?_⟩) (by assumption) ?_; rotate_left; focus (intro wS hSw; (try dsimp only at hSw); first | (go_simp; done) | (go_simp; with_reducible rfl))
                simp only [List.getElem_toArray, List.getElem_cons_succ, List.getElem_cons_zero, Act.put, List.setIfInBounds_toArray, List.set_cons_zero, List.set_cons_succ]
                refine wpAnyH_take (i := 17) (v := ?_) rfl (by kernel_rfl) (by kernel_rfl) (by kernel_rfl) (fun _ _ _ h => h) (Or.inl ⟨by rfl, ?_⟩) (by assumption) ?_; rotate_left; focus (intro wS hSw; (try dsimp only at hSw); first | (go_simp; done) | (go_simp; with_reducible rfl))
                simp only [List.getElem_toArray, List.getElem_cons_succ, List.getElem_cons_zero, Act.put, List.setIfInBounds_toArray, List.set_cons_zero, List.set_cons_succ]
                refine wpAnyH_take (i := 18) (v := ?_) rfl (by kernel_rfl) (by kernel_rfl) (by kernel_rfl) (fun _ _ _ h => h) (Or.inl ⟨by rfl, ?_⟩) (by assumption) ?_; rotate_left; focus (intro wS hSw; (try dsimp only at hSw); first | (go_simp; done) | (go_simp; with_reducible rfl))
                simp only [List.getElem_toArray, List.getElem_cons_succ, List.getElem_cons_zero, Act.put, List.setIfInBounds_toArray, List.set_cons_zero, List.set_cons_succ]
                refine wpAnyH_take (i := 19) (v := ?_) rfl (by kernel_rfl) (by kernel_rfl) (by kernel_rfl) (fun _ _ _ h => h) (Or.inl ⟨by rfl, ?_⟩) (by assumption) ?_; rotate_left; focus (intro wS hSw; (try dsimp only at hSw); first | (go_simp; done) | (go_simp; with_reducible rfl))
                simp only [List.getElem_toArray, List.getElem_cons_succ, List.getElem_cons_zero, Act.put, List.setIfInBounds_toArray, List.set_cons_zero, List.set_cons_succ]
                refine wpAnyH_take (i := 20) (v := ?_) rfl (by kernel_rfl) (by kernel_rfl) (by kernel_rfl) (fun _ _ _ h => h) (Or.inl ⟨by rfl, ?_⟩) (by assumption) ?_; rotate_left; focus (intro wS hSw; (try dsimp only at hSw); first | (go_simp; done) | (go_simp; with_reducible rfl))
                simp only [List.getElem_toArray, List.getElem_cons_succ, List.getElem_cons_zero, Act.put, List.setIfInBounds_toArray, List.set_cons_zero, List.set_cons_succ]
                refine wpAnyH_take (i := 21) (v := ?_) rfl (by kernel_rfl) (by kernel_rfl) (by kernel_rfl) (fun _ _ _ h => h) (Or.inl ⟨by rfl, ?_⟩) (by assumption) ?_; rotate_left; focus (intro wS hSw; (try dsimp only at hSw); first | (go_simp; done) | (go_simp; with_reducible rfl))
                simp only [List.getElem_toArray, List.getElem_cons_succ, List.getElem_cons_zero, Act.put, List.setIfInBounds_toArray, List.set_cons_zero, List.set_cons_succ]
                refine wpAnyH_take (i := 23) (v := ?_) rfl (by kernel_rfl) (by kernel_rfl) (by kernel_rfl) (fun _ _ _ h => h) (Or.inl ⟨by rfl, ?_⟩) (by assumption) ?_; rotate_left; focus (intro wS hSw; (try dsimp only at hSw); first | (go_simp; done) | (go_simp; with_reducible rfl))
                simp only [List.getElem_toArray, List.getElem_cons_succ, List.getElem_cons_zero, Act.put, List.setIfInBounds_toArray, List.set_cons_zero, List.set_cons_succ]
                refine wpAnyH_ready (rs := [22]) (by kernel_rfl) (by simp) ?_
                refine AllReadyH.cons rfl (fun K hK => ?_) AllReadyH.nil
                go_simp
                go_at_call 15
                refine (HS5.out.ha _ frm mD).mono ?_
                rw [HA.out]
                rintro e8 w8 ⟨rfl, hm8⟩
                have mE := mD.trans hm8
                refine hK.out _ _ ?_ (fun hHeld => ?_)
                · exact ⟨conv8 (ho2.below hm8).rd, (HN5.out.mod mE (by simp)).cell 1, HCV5.out _ mE⟩
                clear hK K
                refine wpAnyH_take (i := 24) (v := ?_) rfl (by kernel_rfl) (by kernel_rfl) (by kernel_rfl) (fun _ _ _ h => h) (Or.inl ⟨by rfl, ?_⟩) (by assumption) ?_; rotate_left; focus (intro wS hSw; (try dsimp only at hSw); first | (go_simp; done) | (go_simp; with_reducible rfl))
                simp only [List.getElem_toArray, List.getElem_cons_succ, List.getElem_cons_zero, Act.put, List.setIfInBounds_toArray, List.set_cons_zero, List.set_cons_succ]
                refine wpAnyH_take (i := 25) (v := ?_) rfl (by kernel_rfl) (by kernel_rfl) (by kernel_rfl) (fun _ _ _ h => h) (Or.inl ⟨by rfl, ?_⟩) (by assumption) ?_; rotate_left; focus (intro wS hSw; (try dsimp only at hSw); first | (go_simp; done) | (go_simp; with_reducible rfl))
                simp only [List.getElem_toArray, List.getElem_cons_succ, List.getElem_cons_zero, Act.put, List.setIfInBounds_toArray, List.set_cons_zero, List.set_cons_succ]
                refine wpAnyH_take (i := 26) (v := ?_) rfl (by kernel_rfl) (by kernel_rfl) (by kernel_rfl) (fun _ _ _ h => h) (Or.inl ⟨by rfl, ?_⟩) (by assumption) ?_; rotate_left; focus (intro wS hSw; (try dsimp only at hSw); first | (go_simp; done) | (go_simp; with_reducible rfl))
                simp only [List.getElem_toArray, List.getElem_cons_succ, List.getElem_cons_zero, Act.put, List.setIfInBounds_toArray, List.set_cons_zero, List.set_cons_succ]
                refine wpAnyH_done (by kernel_rfl) ?_ _
                refine NoPanic.normal ?_
                go_wp2
                go_roundw
                case rel => exact LateRel.mk (k + 1) mp' g' ⟨by omega, by go_num, HI5.out, HP5.out.below mE, hmp5, HB5.out.mod mE (by simp), HMW.out.trans mE⟩
                case measure => simp [intOf]; omega
          | true =>
            have HA := Lib.hid hA
            by_cases hK : g.phase = 2
            · have HMOV := Lib.hid (show g.phase = 2 ∧ gAsked g frm = true from ⟨hK, hA⟩)
              have k1 : (g.phase != 2) = false := by rw [hK]; rfl
              clear hA hK
              go_region_held3 (fun w' => w'.cell? ⟨N, 1, none⟩ = some (.int .i64 frm)) (first | exact n1 | exact n1b)
                (first | (go_at_call 14; (first | refine (HSAY.out.hp _ (Mod.refl _ _).drew).mono ?_ | refine (HSAY.out.hp _ mB).mono ?_); rintro e2 w2' ⟨rfl, rfl⟩) | (go_at_call 15; refine (HSAY.out.ha _ frm (Mod.refl _ _).drew).mono ?_; rw [HA.out]; rintro e3 w3 ⟨rfl, hm3⟩; have mB := (Mod.refl [] W).drew.trans hm3; have n1b : w3.cell? ⟨N, 1, none⟩ = some (.int .i64 frm) := (HNC.out.mod mB (by simp)).cell 1))
              all_goals
                rename_i hheld
                clear hheld
                clear n0 n1 n2 n1b
                have m3 := HW.out.trans mB
                have HS3 := Lib.hid ((HPr.out.below m3).says HIr.out.ok.vb)
                have hN3 := HNC.out.mod mB (by simp)
                have c0 : w3.cell? ⟨N, 0, none⟩ = some (.int .i64 ph) := hN3.cell 0
                have HN3 := Lib.hid hN3
                have HM3 := Lib.hid m3
                clear hN3 m3 mB hm3
                go_wp2_with fail
                refine (HS3.out.hv _ (Mod.refl _ _)).mono ?_
                rintro e4 w4 ⟨s1, rfl, ho1, hm4⟩
                clear c0
                have hN4 := HN3.out.mod hm4 (by simp)
                have c0 : w4.cell? ⟨N, 0, none⟩ = some (.int .i64 ph) := hN4.cell 0
                have c1 : w4.cell? ⟨N, 1, none⟩ = some (.int .i64 frm) := hN4.cell 1
                have c3 : w4.cell? ⟨N, 3, none⟩ = some (.int .i64 r) := hN4.cell 3
                have c4 : w4.cell? ⟨N, 4, none⟩ = some (.int .i64 q) := hN4.cell 4
                have c5 : w4.cell? ⟨N, 5, none⟩ = some (.slice s.a s.len s.cap) := hN4.cell 5
                have HM4 := Lib.hid (HM3.out.trans hm4)
                have HP4 := Lib.hid (HPr.out.below HM4.out)
                have HN4 := Lib.hid hN4
                have HO1 := Lib.hid ho1
                clear hN4 hm4 ho1 HS3 HN3 HM3
                go_wp2_with fail
                refine (accepted_rep b mp g frm 7 w4 HP4.out HIr.out.ok).mono ?_
                rintro e5 w5 ⟨rfl, hP5, hM5⟩
                have hI5 := HIr.out.acpt (f := frm) (e := 7) (by omega)
                have hmp5 : w.heap.size < mp := hmw
                obtain ⟨mp', hmp'⟩ : ∃ mp', mp' = mp := ⟨_, rfl⟩
                obtain ⟨g', hg⟩ : ∃ g', g' = gAccepted g frm 7 := ⟨_, rfl⟩
                rw [← hg, ← hmp'] at hP5
                rw [← hg] at hI5
                rw [← hmp'] at hmp5
                have hmoves : g'.phase ≠ g.phase ∨ gAsked g' frm = false := by rw [hg]; exact acpt_moves HMOV.out
                clear c0 c1 c3 c4 c5
                have hN5 := HN4.out.mod hM5 (by simp; omega)
                have hB5 : Cel w5 w.heap.size lt.cells 54 := (HBr.out.mod HM4.out (by simp)).mod hM5 (by simp; omega)
                have hO5 := HO1.out.mod hM5 HP4.out.noBytes
                have hMw5 : Mod [] w w5 := (HMr.out.trans HM4.out).then hM5 (by simp; omega)
                have c0 : w5.cell? ⟨N, 0, none⟩ = some (.int .i64 ph) := hN5.cell 0
                have c1 : w5.cell? ⟨N, 1, none⟩ = some (.int .i64 frm) := hN5.cell 1
                have HS5 := Lib.hid (hP5.says hI5.ok.vb)
                have HCV5 := Lib.hid (fun (X : World) (hX : Mod [] w5 X) => conv8 (hO5.below hX).rd)
                have HN5 := Lib.hid hN5
                have HB5 := Lib.hid hB5
                have HMW := Lib.hid hMw5
                have HP5 := Lib.hid hP5
                have HI5 := Lib.hid hI5
                clear hN5 hB5 hO5 hMw5 hM5 hP5 hI5 HN4 HO1 HP4 HM4 hg hmp'
                clear HCV5
                go_wp2_with fail
                refine wp_region_noPanic ?_
                refine wp_region_held_drew (S := fun _ => True) (by kernel_rfl) trivial (fun hHeld => ?_)
                refine wpAnyH_take (i := 0) (v := ?_) rfl (by kernel_rfl) (by kernel_rfl) (by kernel_rfl) (fun _ _ _ h => h) (Or.inl ⟨by rfl, ?_⟩) (by assumption) ?_; rotate_left; focus (intro wS hSw; (try dsimp only at hSw); first | (go_simp; done) | (go_simp; with_reducible rfl))
                simp only [List.getElem_toArray, List.getElem_cons_zero, Act.put, List.setIfInBounds_toArray, List.set_cons_zero, List.set_cons_succ]
                refine wpAnyH_take (i := 1) (v := ?_) rfl (by kernel_rfl) (by kernel_rfl) (by kernel_rfl) (fun _ _ _ h => h) (Or.inl ⟨by rfl, ?_⟩) (by assumption) ?_; rotate_left; focus (intro wS hSw; (try dsimp only at hSw); first | (go_simp; done) | (go_simp; with_reducible rfl))
                simp only [List.getElem_toArray, List.getElem_cons_succ, List.getElem_cons_zero, Act.put, List.setIfInBounds_toArray, List.set_cons_zero, List.set_cons_succ]
                refine wpAnyH_take (i := 2) (v := ?_) rfl (by kernel_rfl) (by kernel_rfl) (by kernel_rfl) (fun _ _ _ h => h) (Or.inl ⟨by rfl, ?_⟩) (by assumption) ?_; rotate_left; focus (intro wS hSw; (try dsimp only at hSw); first | (go_simp; done) | (go_simp; with_reducible rfl))
                simp only [List.getElem_toArray, List.getElem_cons_succ, List.getElem_cons_zero, Act.put, List.setIfInBounds_toArray, List.set_cons_zero, List.set_cons_succ]
                refine wpAnyH_take (i := 3) (v := ?_) rfl (by kernel_rfl) (by kernel_rfl) (by kernel_rfl) (fun _ _ _ h => h) (Or.inl ⟨by rfl, ?_⟩) (by assumption) ?_; rotate_left; focus (intro wS hSw; (try dsimp only at hSw); first | (go_simp; done) | (go_simp; with_reducible rfl))
                simp only [List.getElem_toArray, List.getElem_cons_succ, List.getElem_cons_zero, Act.put, List.setIfInBounds_toArray, List.set_cons_zero, List.set_cons_succ]
                refine wpAnyH_take (i := 4) (v := ?_) rfl (by kernel_rfl) (by kernel_rfl) (by kernel_rfl) (fun _ _ _ h => h) (Or.inl ⟨by rfl, ?_⟩) (by assumption) ?_; rotate_left; focus (intro wS hSw; (try dsimp only at hSw); first | (go_simp; done) | (go_simp; with_reducible rfl))
                simp only [List.getElem_toArray, List.getElem_cons_succ, List.getElem_cons_zero, Act.put, List.setIfInBounds_toArray, List.set_cons_zero, List.set_cons_succ]
                refine wpAnyH_take (i := 5) (v := ?_) rfl (by kernel_rfl) (by kernel_rfl) (by kernel_rfl) (fun _ _ _ h => h) (Or.inl ⟨by rfl, ?_⟩) (by assumption) ?_; rotate_left; focus (intro wS hSw; (try dsimp only at hSw); first | (go_simp; done) | (go_simp; with_reducible rfl))
                simp only [List.getElem_toArray, List.getElem_cons_succ, List.getElem_cons_zero, Act.put, List.setIfInBounds_toArray, List.set_cons_zero, List.set_cons_succ]
                refine wpAnyH_take (i := 6) (v := undef) rfl (by kernel_rfl) (by kernel_rfl) (by kernel_rfl) (fun _ _ _ h => h) (Or.inr ⟨by rfl, rfl⟩) (by assumption) ?_
                simp only [List.getElem_toArray, List.getElem_cons_succ, List.getElem_cons_zero, Act.put, List.setIfInBounds_toArray, List.set_cons_zero, List.set_cons_succ]
                refine wpAnyH_take (i := 8) (v := undef) rfl (by kernel_rfl) (by kernel_rfl) (by kernel_rfl) (fun _ _ _ h => h) (Or.inr ⟨by rfl, rfl⟩) (by assumption) ?_
                simp only [List.getElem_toArray, List.getElem_cons_succ, List.getElem_cons_zero, Act.put, List.setIfInBounds_toArray, List.set_cons_zero, List.set_cons_succ]
                refine wpAnyH_ready (rs := [7]) (by kernel_rfl) (by simp) ?_
                refine AllReadyH.cons rfl (fun K hK => ?_) AllReadyH.nil
                go_simp
                refine hK.out _ _ ?_ (fun hHeld => ?_)
                · trivial
                clear hK K
                refine wpAnyH_take (i := 9) (v := undef) rfl (by kernel_rfl) (by kernel_rfl) (by kernel_rfl) (fun _ _ _ h => h) (Or.inr ⟨by rfl, rfl⟩) (by assumption) ?_
                simp only [List.getElem_toArray, List.getElem_cons_succ, List.getElem_cons_zero, Act.put, List.setIfInBounds_toArray, List.set_cons_zero, List.set_cons_succ]
                refine wpAnyH_take (i := 10) (v := undef) rfl (by kernel_rfl) (by kernel_rfl) (by kernel_rfl) (fun _ _ _ h => h) (Or.inr ⟨by rfl, rfl⟩) (by assumption) ?_
                simp only [List.getElem_toArray, List.getElem_cons_succ, List.getElem_cons_zero, Act.put, List.setIfInBounds_toArray, List.set_cons_zero, List.set_cons_succ]
                refine wpAnyH_take (i := 11) (v := undef) rfl (by kernel_rfl) (by kernel_rfl) (by kernel_rfl) (fun _ _ _ h => h) (Or.inr ⟨by rfl, rfl⟩) (by assumption) ?_
                simp only [List.getElem_toArray, List.getElem_cons_succ, List.getElem_cons_zero, Act.put, List.setIfInBounds_toArray, List.set_cons_zero, List.set_cons_succ]
                refine wpAnyH_take (i := 14) (v := undef) rfl (by kernel_rfl) (by kernel_rfl) (by kernel_rfl) (fun _ _ _ h => h) (Or.inr ⟨by rfl, rfl⟩) (by assumption) ?_
                simp only [List.getElem_toArray, List.getElem_cons_succ, List.getElem_cons_zero, Act.put, List.setIfInBounds_toArray, List.set_cons_zero, List.set_cons_succ]
                refine wpAnyH_take (i := 15) (v := undef) rfl (by kernel_rfl) (by kernel_rfl) (by kernel_rfl) (fun _ _ _ h => h) (Or.inr ⟨by rfl, rfl⟩) (by assumption) ?_
                simp only [List.getElem_toArray, List.getElem_cons_succ, List.getElem_cons_zero, Act.put, List.setIfInBounds_toArray, List.set_cons_zero, List.set_cons_succ]
                refine wpAnyH_ready (rs := [12]) (by kernel_rfl) (by simp) ?_
                refine AllReadyH.cons rfl (fun K hK => ?_) AllReadyH.nil
                go_simp
                refine hK.out _ _ ?_ (fun hHeld => ?_)
                · trivial
                clear hK K
                refine wpAnyH_take (i := 13) (v := undef) rfl (by kernel_rfl) (by kernel_rfl) (by kernel_rfl) (fun _ _ _ h => h) (Or.inr ⟨by rfl, rfl⟩) (by assumption) ?_
                simp only [List.getElem_toArray, List.getElem_cons_succ, List.getElem_cons_zero, Act.put, List.setIfInBounds_toArray, List.set_cons_zero, List.set_cons_succ]
                refine wpAnyH_take (i := 16) (v := undef) rfl (by kernel_rfl) (by kernel_rfl) (by kernel_rfl) (fun _ _ _ h => h) (Or.inr ⟨by rfl, rfl⟩) (by assumption) ?_
                simp only [List.getElem_toArray, List.getElem_cons_succ, List.getElem_cons_zero, Act.put, List.setIfInBounds_toArray, List.set_cons_zero, List.set_cons_succ]
                refine wpAnyH_take (i := 17) (v := undef) rfl (by kernel_rfl) (by kernel_rfl) (by kernel_rfl) (fun _ _ _ h => h) (Or.inr ⟨by rfl, rfl⟩) (by assumption) ?_
                simp only [List.getElem_toArray, List.getElem_cons_succ, List.getElem_cons_zero, Act.put, List.setIfInBounds_toArray, List.set_cons_zero, List.set_cons_succ]
                refine wpAnyH_take (i := 18) (v := undef) rfl (by kernel_rfl) (by kernel_rfl) (by kernel_rfl) (fun _ _ _ h => h) (Or.inr ⟨by rfl, rfl⟩) (by assumption) ?_
                simp only [List.getElem_toArray, List.getElem_cons_succ, List.getElem_cons_zero, Act.put, List.setIfInBounds_toArray, List.set_cons_zero, List.set_cons_succ]
                refine wpAnyH_take (i := 19) (v := undef) rfl (by kernel_rfl) (by kernel_rfl) (by kernel_rfl) (fun _ _ _ h => h) (Or.inr ⟨by rfl, rfl⟩) (by assumption) ?_
                simp only [List.getElem_toArray, List.getElem_cons_succ, List.getElem_cons_zero, Act.put, List.setIfInBounds_toArray, List.set_cons_zero, List.set_cons_succ]
                refine wpAnyH_take (i := 20) (v := undef) rfl (by kernel_rfl) (by kernel_rfl) (by kernel_rfl) (fun _ _ _ h => h) (Or.inr ⟨by rfl, rfl⟩) (by assumption) ?_
                simp only [List.getElem_toArray, List.getElem_cons_succ, List.getElem_cons_zero, Act.put, List.setIfInBounds_toArray, List.set_cons_zero, List.set_cons_succ]
                refine wpAnyH_take (i := 21) (v := undef) rfl (by kernel_rfl) (by kernel_rfl) (by kernel_rfl) (fun _ _ _ h => h) (Or.inr ⟨by rfl, rfl⟩) (by assumption) ?_
                simp only [List.getElem_toArray, List.getElem_cons_succ, List.getElem_cons_zero, Act.put, List.setIfInBounds_toArray, List.set_cons_zero, List.set_cons_succ]
                refine wpAnyH_take (i := 23) (v := undef) rfl (by kernel_rfl) (by kernel_rfl) (by kernel_rfl) (fun _ _ _ h => h) (Or.inr ⟨by rfl, rfl⟩) (by assumption) ?_
                simp only [List.getElem_toArray, List.getElem_cons_succ, List.getElem_cons_zero, Act.put, List.setIfInBounds_toArray, List.set_cons_zero, List.set_cons_succ]
                refine wpAnyH_ready (rs := [22]) (by kernel_rfl) (by simp) ?_
                refine AllReadyH.cons rfl (fun K hK => ?_) AllReadyH.nil
                go_simp
                refine hK.out _ _ ?_ (fun hHeld => ?_)
                · trivial
                clear hK K
                refine wpAnyH_take (i := 24) (v := undef) rfl (by kernel_rfl) (by kernel_rfl) (by kernel_rfl) (fun _ _ _ h => h) (Or.inr ⟨by rfl, rfl⟩) (by assumption) ?_
                simp only [List.getElem_toArray, List.getElem_cons_succ, List.getElem_cons_zero, Act.put, List.setIfInBounds_toArray, List.set_cons_zero, List.set_cons_succ]
                refine wpAnyH_take (i := 25) (v := undef) rfl (by kernel_rfl) (by kernel_rfl) (by kernel_rfl) (fun _ _ _ h => h) (Or.inr ⟨by rfl, rfl⟩) (by assumption) ?_
                simp only [List.getElem_toArray, List.getElem_cons_succ, List.getElem_cons_zero, Act.put, List.setIfInBounds_toArray, List.set_cons_zero, List.set_cons_succ]
                refine wpAnyH_take (i := 26) (v := ?_) rfl (by kernel_rfl) (by kernel_rfl) (by kernel_rfl) (fun _ _ _ h => h) (Or.inl ⟨by rfl, ?_⟩) (by assumption) ?_; rotate_left; focus (intro wS hSw; (try dsimp only at hSw); first | (go_simp; done) | (go_simp; with_reducible rfl))
                simp only [List.getElem_toArray, List.getElem_cons_succ, List.getElem_cons_zero, Act.put, List.setIfInBounds_toArray, List.set_cons_zero, List.set_cons_succ]
                refine wpAnyH_done (by kernel_rfl) ?_ _
                refine NoPanic.normal ?_
                by_cases hpp : g'.phase = g.phase
                · have HPP := Lib.hid hpp
                  have HAN := Lib.hid (hmoves.resolve_left (fun h => h hpp))
                  clear hmoves hpp
                  go_wp2_with (first
                    | (go_at_call 14; refine (HS5.out.hp _ (Mod.refl _ _).drew).mono ?_; rw [HPP.out]; rintro e6 w6 ⟨rfl, rfl⟩)
                    | (go_at_call 15; refine (HS5.out.ha _ frm (Mod.refl _ _).drew).mono ?_; rw [HAN.out]; rintro e8 w8 ⟨rfl, hm8⟩; have mE := (Mod.refl [] w5).drew.trans hm8)
                    | fail)
                  go_roundw
                  case rel => exact LateRel.mk (k + 1) mp' g' ⟨by omega, by go_num, HI5.out, HP5.out.below mE, hmp5, HB5.out.mod mE (by simp), HMW.out.trans mE⟩
                  case measure => simp [intOf]; omega
                · have hq : (g'.phase == g.phase) = false := beq_eq_false_iff_ne.2 hpp
                  clear hmoves hpp
                  go_wp2_with (first
                    | (go_at_call 14; refine (HS5.out.hp _ (Mod.refl _ _).drew).mono ?_; rintro e6 w6 ⟨rfl, rfl⟩)
                    | fail)
                  have mE := (Mod.refl [] w5).drew
                  go_roundw
                  case rel => exact LateRel.mk (k + 1) mp' g' ⟨by omega, by go_num, HI5.out, HP5.out.below mE, hmp5, HB5.out.mod mE (by simp), HMW.out.trans mE⟩
                  case measure => simp [intOf]; omega
            · have HSTILL := Lib.hid (show ¬ (g.phase = 2 ∧ gAsked g frm = true) from fun hh => hK hh.1)
              have k1 : (g.phase != 2) = true := by simpa using hK
              clear hA hK
              go_region_held3 (fun w' => w'.cell? ⟨N, 1, none⟩ = some (.int .i64 frm)) (first | exact n1 | exact n1b)
                (first | (go_at_call 14; (first | refine (HSAY.out.hp _ (Mod.refl _ _).drew).mono ?_ | refine (HSAY.out.hp _ mB).mono ?_); rintro e2 w2' ⟨rfl, rfl⟩) | (go_at_call 15; refine (HSAY.out.ha _ frm (Mod.refl _ _).drew).mono ?_; rw [HA.out]; rintro e3 w3 ⟨rfl, hm3⟩; have mB := (Mod.refl [] W).drew.trans hm3; have n1b : w3.cell? ⟨N, 1, none⟩ = some (.int .i64 frm) := (HNC.out.mod mB (by simp)).cell 1))
              all_goals
                rename_i hheld
                clear hheld
                clear n0 n1 n2 n1b
                have m3 := HW.out.trans mB
                have HS3 := Lib.hid ((HPr.out.below m3).says HIr.out.ok.vb)
                have hN3 := HNC.out.mod mB (by simp)
                have c0 : w3.cell? ⟨N, 0, none⟩ = some (.int .i64 ph) := hN3.cell 0
                have HN3 := Lib.hid hN3
                have HM3 := Lib.hid m3
                clear hN3 m3 mB hm3
                go_wp2_with fail
                refine (HS3.out.hv _ (Mod.refl _ _)).mono ?_
                rintro e4 w4 ⟨s1, rfl, ho1, hm4⟩
                clear c0
                have hN4 := HN3.out.mod hm4 (by simp)
                have c0 : w4.cell? ⟨N, 0, none⟩ = some (.int .i64 ph) := hN4.cell 0
                have c1 : w4.cell? ⟨N, 1, none⟩ = some (.int .i64 frm) := hN4.cell 1
                have c3 : w4.cell? ⟨N, 3, none⟩ = some (.int .i64 r) := hN4.cell 3
                have c4 : w4.cell? ⟨N, 4, none⟩ = some (.int .i64 q) := hN4.cell 4
                have c5 : w4.cell? ⟨N, 5, none⟩ = some (.slice s.a s.len s.cap) := hN4.cell 5
                have HM4 := Lib.hid (HM3.out.trans hm4)
                have HP4 := Lib.hid (HPr.out.below HM4.out)
                have HN4 := Lib.hid hN4
                have HO1 := Lib.hid ho1
                clear hN4 hm4 ho1 HS3 HN3 HM3
                go_wp2_with fail
                refine (accepted_rep b mp g frm 7 w4 HP4.out HIr.out.ok).mono ?_
                rintro e5 w5 ⟨rfl, hP5, hM5⟩
                have hI5 := HIr.out.acpt (f := frm) (e := 7) (by omega)
                have hmp5 : w.heap.size < mp := hmw
                obtain ⟨mp', hmp'⟩ : ∃ mp', mp' = mp := ⟨_, rfl⟩
                obtain ⟨g', hg⟩ : ∃ g', g' = gAccepted g frm 7 := ⟨_, rfl⟩
                rw [← hg, ← hmp'] at hP5
                rw [← hg] at hI5
                rw [← hmp'] at hmp5
                obtain rfl : g' = g := hg.trans (acpt_still (fun hh => HSTILL.out hh))
                clear c0 c1 c3 c4 c5
                have hN5 := HN4.out.mod hM5 (by simp; omega)
                have hB5 : Cel w5 w.heap.size lt.cells 54 := (HBr.out.mod HM4.out (by simp)).mod hM5 (by simp; omega)
                have hO5 := HO1.out.mod hM5 HP4.out.noBytes
                have hMw5 : Mod [] w w5 := (HMr.out.trans HM4.out).then hM5 (by simp; omega)
                have c0 : w5.cell? ⟨N, 0, none⟩ = some (.int .i64 ph) := hN5.cell 0
                have c1 : w5.cell? ⟨N, 1, none⟩ = some (.int .i64 frm) := hN5.cell 1
                have HS5 := Lib.hid (hP5.says hI5.ok.vb)
                have HCV5 := Lib.hid (fun (X : World) (hX : Mod [] w5 X) => conv8 (hO5.below hX).rd)
                have HN5 := Lib.hid hN5
                have HB5 := Lib.hid hB5
                have HMW := Lib.hid hMw5
                have HP5 := Lib.hid hP5
                have HI5 := Lib.hid hI5
                clear hN5 hB5 hO5 hMw5 hM5 hP5 hI5 HN4 HO1 HP4 HM4 hg hmp'
                have hcv1 := HCV5.out _ (Mod.refl [] w5).drew
                go_wp2_with fail
                refine wp_region_noPanic ?_
                refine wp_region_held_drew (S := (fun X => X.cell? ⟨N, 1, none⟩ = some (.int .i64 frm) ∧ (convert 26 9 (.slice s1.a s1.len s1.cap)).run Try.prog X = .ok (.string ⟨g'.vb.toArray⟩) X)) (by kernel_rfl) ⟨c1, hcv1⟩ (fun hHeld => ?_)
                refine wpAnyH_take (i := 0) (v := ?_) rfl (by kernel_rfl) (by kernel_rfl) (by kernel_rfl) (fun _ _ _ h => h) (Or.inl ⟨by rfl, ?_⟩) (by assumption) ?_; rotate_left; focus (intro wS hSw; (try dsimp only at hSw); first | (go_simp; done) | (go_simp; with_reducible rfl))
                simp only [List.getElem_toArray, List.getElem_cons_zero, Act.put, List.setIfInBounds_toArray, List.set_cons_zero, List.set_cons_succ]
                refine wpAnyH_take (i := 1) (v := ?_) rfl (by kernel_rfl) (by kernel_rfl) (by kernel_rfl) (fun _ _ _ h => h) (Or.inl ⟨by rfl, ?_⟩) (by assumption) ?_; rotate_left; focus (intro wS hSw; (try dsimp only at hSw); first | (go_simp; done) | (go_simp; with_reducible rfl))
                simp only [List.getElem_toArray, List.getElem_cons_succ, List.getElem_cons_zero, Act.put, List.setIfInBounds_toArray, List.set_cons_zero, List.set_cons_succ]
                refine wpAnyH_take (i := 2) (v := ?_) rfl (by kernel_rfl) (by kernel_rfl) (by kernel_rfl) (fun _ _ _ h => h) (Or.inl ⟨by rfl, ?_⟩) (by assumption) ?_; rotate_left; focus (intro wS hSw; (try dsimp only at hSw); first | (go_simp; done) | (go_simp; with_reducible rfl))
                simp only [List.getElem_toArray, List.getElem_cons_succ, List.getElem_cons_zero, Act.put, List.setIfInBounds_toArray, List.set_cons_zero, List.set_cons_succ]
                refine wpAnyH_take (i := 3) (v := ?_) rfl (by kernel_rfl) (by kernel_rfl) (by kernel_rfl) (fun _ _ _ h => h) (Or.inl ⟨by rfl, ?_⟩) (by assumption) ?_; rotate_left; focus (intro wS hSw; (try dsimp only at hSw); first | (go_simp; done) | (go_simp; with_reducible rfl))
                simp only [List.getElem_toArray, List.getElem_cons_succ, List.getElem_cons_zero, Act.put, List.setIfInBounds_toArray, List.set_cons_zero, List.set_cons_succ]
                refine wpAnyH_take (i := 4) (v := ?_) rfl (by kernel_rfl) (by kernel_rfl) (by kernel_rfl) (fun _ _ _ h => h) (Or.inl ⟨by rfl, ?_⟩) (by assumption) ?_; rotate_left; focus (intro wS hSw; (try dsimp only at hSw); first | (go_simp; done) | (go_simp; with_reducible rfl))
                simp only [List.getElem_toArray, List.getElem_cons_succ, List.getElem_cons_zero, Act.put, List.setIfInBounds_toArray, List.set_cons_zero, List.set_cons_succ]
                refine wpAnyH_take (i := 5) (v := ?_) rfl (by kernel_rfl) (by kernel_rfl) (by kernel_rfl) (fun _ _ _ h => h) (Or.inl ⟨by rfl, ?_⟩) (by assumption) ?_; rotate_left; focus (intro wS hSw; (try dsimp only at hSw); first | (go_simp; done) | (go_simp; with_reducible rfl))
                simp only [List.getElem_toArray, List.getElem_cons_succ, List.getElem_cons_zero, Act.put, List.setIfInBounds_toArray, List.set_cons_zero, List.set_cons_succ]
                refine wpAnyH_take (i := 6) (v := ?_) rfl (by kernel_rfl) (by kernel_rfl) (by kernel_rfl) (fun _ _ _ h => h) (Or.inl ⟨by rfl, ?_⟩) (by assumption) ?_; rotate_left; focus (intro wS hSw; (try dsimp only at hSw); first | (go_simp; done) | (go_simp; with_reducible rfl))
                simp only [List.getElem_toArray, List.getElem_cons_succ, List.getElem_cons_zero, Act.put, List.setIfInBounds_toArray, List.set_cons_zero, List.set_cons_succ]
                refine wpAnyH_take (i := 8) (v := ?_) rfl (by kernel_rfl) (by kernel_rfl) (by kernel_rfl) (fun _ _ _ h => h) (Or.inl ⟨by rfl, ?_⟩) (by assumption) ?_; rotate_left; focus (intro wS hSw; (try dsimp only at hSw); first | (go_simp; done) | (go_simp; with_reducible rfl))
                simp only [List.getElem_toArray, List.getElem_cons_succ, List.getElem_cons_zero, Act.put, List.setIfInBounds_toArray, List.set_cons_zero, List.set_cons_succ]
                refine wpAnyH_ready (rs := [7]) (by kernel_rfl) (by simp) ?_
                refine AllReadyH.cons rfl (fun K hK => ?_) AllReadyH.nil
                go_simp
                go_at_call 14
                refine (HS5.out.hp _ (Mod.refl _ _).drew).mono ?_
                rintro e6 w6 ⟨rfl, rfl⟩
                refine hK.out _ _ ?_ (fun hHeld => ?_)
                · exact hHeld
                clear hK K
                refine wpAnyH_take (i := 9) (v := ?_) rfl (by kernel_rfl) (by kernel_rfl) (by kernel_rfl) (fun _ _ _ h => h) (Or.inl ⟨by rfl, ?_⟩) (by assumption) ?_; rotate_left; focus (intro wS hSw; (try dsimp only at hSw); first | (go_simp; done) | (go_simp; with_reducible rfl))
                simp only [List.getElem_toArray, List.getElem_cons_succ, List.getElem_cons_zero, Act.put, List.setIfInBounds_toArray, List.set_cons_zero, List.set_cons_succ]
                refine wpAnyH_take (i := 10) (v := ?_) rfl (by kernel_rfl) (by kernel_rfl) (by kernel_rfl) (fun _ _ _ h => h) (Or.inl ⟨by rfl, ?_⟩) (by assumption) ?_; rotate_left; focus (intro wS hSw; (try dsimp only at hSw); first | (go_simp; done) | (go_simp; with_reducible rfl))
                simp only [List.getElem_toArray, List.getElem_cons_succ, List.getElem_cons_zero, Act.put, List.setIfInBounds_toArray, List.set_cons_zero, List.set_cons_succ]
                refine wpAnyH_take (i := 11) (v := ?_) rfl (by kernel_rfl) (by kernel_rfl) (by kernel_rfl) (fun _ _ _ h => h) (Or.inl ⟨by rfl, ?_⟩) (by assumption) ?_; rotate_left; focus (intro wS hSw; (try dsimp only at hSw); first | (go_simp; done) | (go_simp; with_reducible rfl))
                simp only [List.getElem_toArray, List.getElem_cons_succ, List.getElem_cons_zero, Act.put, List.setIfInBounds_toArray, List.set_cons_zero, List.set_cons_succ]
                refine wpAnyH_take (i := 14) (v := ?_) rfl (by kernel_rfl) (by kernel_rfl) (by kernel_rfl) (fun _ _ _ h => h) (Or.inl ⟨by rfl, ?_⟩) (by assumption) ?_; rotate_left; focus (intro wS hSw; (try dsimp only at hSw); first | (go_simp; done) | (go_simp; with_reducible rfl))
                simp only [List.getElem_toArray, List.getElem_cons_succ, List.getElem_cons_zero, Act.put, List.setIfInBounds_toArray, List.set_cons_zero, List.set_cons_succ]
                refine wpAnyH_take (i := 15) (v := ?_) rfl (by kernel_rfl) (by kernel_rfl) (by kernel_rfl) (fun _ _ _ h => h) (Or.inl ⟨by rfl, ?_⟩) (by assumption) ?_; rotate_left; focus (intro wS hSw; (try dsimp only at hSw); first | (go_simp; done) | (go_simp; with_reducible rfl))
                simp only [List.getElem_toArray, List.getElem_cons_succ, List.getElem_cons_zero, Act.put, List.setIfInBounds_toArray, List.set_cons_zero, List.set_cons_succ]
                refine wpAnyH_ready (rs := [12]) (by kernel_rfl) (by simp) ?_
                refine AllReadyH.cons rfl (fun K hK => ?_) AllReadyH.nil
                go_simp
                go_at_call 18
                refine (HS5.out.hv _ (Mod.refl _ _).drew).mono ?_
                rintro e7 w7 ⟨s2, rfl, ho2, hm7⟩
                have hcv2 := conv8 ho2.rd
                have mD := (Mod.refl [] w5).drew.trans hm7
                have hcv3 := HCV5.out _ mD
                have c1b : w7.cell? ⟨N, 1, none⟩ = some (.int .i64 frm) := (HN5.out.mod mD (by simp)).cell 1
                refine hK.out _ _ ?_ (fun hHeld => ?_)
                · exact ⟨c1b, hcv3⟩
                clear hK K
                refine held_grow (S' := (fun X => (convert 26 9 (.slice s2.a s2.len s2.cap)).run Try.prog X = .ok (.string ⟨g'.vb.toArray⟩) X ∧ X.cell? ⟨N, 1, none⟩ = some (.int .i64 frm) ∧ (convert 26 9 (.slice s1.a s1.len s1.cap)).run Try.prog X = .ok (.string ⟨g'.vb.toArray⟩) X)) (fun X hX => hX.2) _ _ _ _ ?_
                have hHeld2 : (fun X => (convert 26 9 (.slice s2.a s2.len s2.cap)).run Try.prog X = .ok (.string ⟨g'.vb.toArray⟩) X ∧ X.cell? ⟨N, 1, none⟩ = some (.int .i64 frm) ∧ (convert 26 9 (.slice s1.a s1.len s1.cap)).run Try.prog X = .ok (.string ⟨g'.vb.toArray⟩) X) w7 := ⟨hcv2, c1b, hcv3⟩
                refine wpAnyH_take (i := 13) (v := ?_) rfl (by kernel_rfl) (by kernel_rfl) (by kernel_rfl) (fun _ _ _ h => h) (Or.inl ⟨by rfl, ?_⟩) (by assumption) ?_; rotate_left; focus (intro wS hSw; (try dsimp only at hSw); first | (go_simp; done) | (go_simp; with_reducible rfl))
                simp only [List.getElem_toArray, List.getElem_cons_succ, List.getElem_cons_zero, Act.put, List.setIfInBounds_toArray, List.set_cons_zero, List.set_cons_succ]
                refine wpAnyH_take (i := 16) (v := ?_) rfl (by kernel_rfl) (by kernel_rfl) (by kernel_rfl) (fun _ _ _ h => h) (Or.inl ⟨by rfl, ?_⟩) (by assumption) ?_; rotate_left; focus (intro wS hSw; (try dsimp only at hSw); first | (go_simp; done) | (go_simp; with_reducible rfl))
                simp only [List.getElem_toArray, List.getElem_cons_succ, List.getElem_cons_zero, Act.put, List.setIfInBounds_toArray, List.set_cons_zero, List.set_cons_succ]
                refine wpAnyH_take (i := 17) (v := ?_) rfl (by kernel_rfl) (by kernel_rfl) (by kernel_rfl) (fun _ _ _ h => h) (Or.inl ⟨by rfl, ?_⟩) (by assumption) ?_; rotate_left; focus (intro wS hSw; (try dsimp only at hSw); first | (go_simp; done) | (go_simp; with_reducible rfl))
                simp only [List.getElem_toArray, List.getElem_cons_succ, List.getElem_cons_zero, Act.put, List.setIfInBounds_toArray, List.set_cons_zero, List.set_cons_succ]
                refine wpAnyH_take (i := 18) (v := ?_) rfl (by kernel_rfl) (by kernel_rfl) (by kernel_rfl) (fun _ _ _ h => h) (Or.inl ⟨by rfl, ?_⟩) (by assumption) ?_; rotate_left; focus (intro wS hSw; (try dsimp only at hSw); first | (go_simp; done) | (go_simp; with_reducible rfl))
                simp only [List.getElem_toArray, List.getElem_cons_succ, List.getElem_cons_zero, Act.put, List.setIfInBounds_toArray, List.set_cons_zero, List.set_cons_succ]
                refine wpAnyH_take (i := 19) (v := ?_) rfl (by kernel_rfl) (by kernel_rfl) (by kernel_rfl) (fun _ _ _ h => h) (Or.inl ⟨by rfl, ?_⟩) (by assumption) ?_; rotate_left; focus (intro wS hSw; (try dsimp only at hSw); first | (go_simp; done) | (go_simp; with_reducible rfl))
                simp only [List.getElem_toArray, List.getElem_cons_succ, List.getElem_cons_zero, Act.put, List.setIfInBounds_toArray, List.set_cons_zero, List.set_cons_succ]
                refine wpAnyH_take (i := 20) (v := ?_) rfl (by kernel_rfl) (by kernel_rfl) (by kernel_rfl) (fun _ _ _ h => h) (Or.inl ⟨by rfl, ?_⟩) (by assumption) ?_; rotate_left; focus (intro wS hSw; (try dsimp only at hSw); first | (go_simp; done) | (go_simp; with_reducible rfl))
                simp only [List.getElem_toArray, List.getElem_cons_succ, List.getElem_cons_zero, Act.put, List.setIfInBounds_toArray, List.set_cons_zero, List.set_cons_succ]
                refine wpAnyH_take (i := 21) (v := ?_) rfl (by kernel_rfl) (by kernel_rfl) (by kernel_rfl) (fun _ _ _ h => h) (Or.inl ⟨by rfl, ?_⟩) (by assumption) ?_; rotate_left; focus (intro wS hSw; (try dsimp only at hSw); first | (go_simp; done) | (go_simp; with_reducible rfl))
                simp only [List.getElem_toArray, List.getElem_cons_succ, List.getElem_cons_zero, Act.put, List.setIfInBounds_toArray, List.set_cons_zero, List.set_cons_succ]
                refine wpAnyH_take (i := 23) (v := ?_) rfl (by kernel_rfl) (by kernel_rfl) (by kernel_rfl) (fun _ _ _ h => h) (Or.inl ⟨by rfl, ?_⟩) (by assumption) ?_; rotate_left; focus (intro wS hSw; (try dsimp only at hSw); first | (go_simp; done) | (go_simp; with_reducible rfl))
                simp only [List.getElem_toArray, List.getElem_cons_succ, List.getElem_cons_zero, Act.put, List.setIfInBounds_toArray, List.set_cons_zero, List.set_cons_succ]
                refine wpAnyH_ready (rs := [22]) (by kernel_rfl) (by simp) ?_
                refine AllReadyH.cons rfl (fun K hK => ?_) AllReadyH.nil
                go_simp
                go_at_call 15
                refine (HS5.out.ha _ frm mD).mono ?_
                rw [HA.out]
                rintro e8 w8 ⟨rfl, hm8⟩
                have mE := mD.trans hm8
                refine hK.out _ _ ?_ (fun hHeld => ?_)
                · exact ⟨conv8 (ho2.below hm8).rd, (HN5.out.mod mE (by simp)).cell 1, HCV5.out _ mE⟩
                clear hK K
                refine wpAnyH_take (i := 24) (v := ?_) rfl (by kernel_rfl) (by kernel_rfl) (by kernel_rfl) (fun _ _ _ h => h) (Or.inl ⟨by rfl, ?_⟩) (by assumption) ?_; rotate_left; focus (intro wS hSw; (try dsimp only at hSw); first | (go_simp; done) | (go_simp; with_reducible rfl))
                simp only [List.getElem_toArray, List.getElem_cons_succ, List.getElem_cons_zero, Act.put, List.setIfInBounds_toArray, List.set_cons_zero, List.set_cons_succ]
                refine wpAnyH_take (i := 25) (v := ?_) rfl (by kernel_rfl) (by kernel_rfl) (by kernel_rfl) (fun _ _ _ h => h) (Or.inl ⟨by rfl, ?_⟩) (by assumption) ?_; rotate_left; focus (intro wS hSw; (try dsimp only at hSw); first | (go_simp; done) | (go_simp; with_reducible rfl))
                simp only [List.getElem_toArray, List.getElem_cons_succ, List.getElem_cons_zero, Act.put, List.setIfInBounds_toArray, List.set_cons_zero, List.set_cons_succ]
                refine wpAnyH_take (i := 26) (v := ?_) rfl (by kernel_rfl) (by kernel_rfl) (by kernel_rfl) (fun _ _ _ h => h) (Or.inl ⟨by rfl, ?_⟩) (by assumption) ?_; rotate_left; focus (intro wS hSw; (try dsimp only at hSw); first | (go_simp; done) | (go_simp; with_reducible rfl))
                simp only [List.getElem_toArray, List.getElem_cons_succ, List.getElem_cons_zero, Act.put, List.setIfInBounds_toArray, List.set_cons_zero, List.set_cons_succ]
                refine wpAnyH_done (by kernel_rfl) ?_ _
                refine NoPanic.normal ?_
                go_wp2
                go_roundw
                case rel => exact LateRel.mk (k + 1) mp' g' ⟨by omega, by go_num, HI5.out, HP5.out.below mE, hmp5, HB5.out.mod mE (by simp), HMW.out.trans mE⟩
                case measure => simp [intOf]; omega
      · have hXX : ∀ j, j < (#[.int .i64 ph, .int .i64 frm, .bool true, .int .i64 r, .int .i64 q, .slice s.a s.len s.cap] : Array Value).size → wr.cell? ⟨xb, xo + k * 6 + j, none⟩ = (#[.int .i64 ph, .int .i64 frm, .bool true, .int .i64 r, .int .i64 q, .slice s.a s.len s.cap] : Array Value)[j]? := hx'
        have HX := Lib.hid hXX
        clear hx' hXX
        have hW := (Mod.refl [] wr).alloc (.cells #[.int .i64 ph, .int .i64 frm, .bool true, .int .i64 r, .int .i64 q, .slice s.a s.len s.cap] 54)
        have hNc := Cel.new wr #[.int .i64 ph, .int .i64 frm, .bool true, .int .i64 r, .int .i64 q, .slice s.a s.len s.cap] 54
        rw [← hNN] at hNc
        have n0 : (wr.alloc (.cells #[.int .i64 ph, .int .i64 frm, .bool true, .int .i64 r, .int .i64 q, .slice s.a s.len s.cap] 54)).cell? ⟨N, 0, none⟩ = some (.int .i64 ph) := hNc.cell 0
        have n1 : (wr.alloc (.cells #[.int .i64 ph, .int .i64 frm, .bool true, .int .i64 r, .int .i64 q, .slice s.a s.len s.cap] 54)).cell? ⟨N, 1, none⟩ = some (.int .i64 frm) := hNc.cell 1
        have n2 : (wr.alloc (.cells #[.int .i64 ph, .int .i64 frm, .bool true, .int .i64 r, .int .i64 q, .slice s.a s.len s.cap] 54)).cell? ⟨N, 2, none⟩ = some (.bool true) := hNc.cell 2
        have hNl := hNc.lt
        have hSay := (HPr.out.below hW).says HIr.out.ok.vb
        have HSAY := Lib.hid hSay
        have HNC := Lib.hid hNc
        have HW := Lib.hid hW
        clear hSay hNc hW
        rw [hNN] at n0 n1 n2 hNl
        go_wp2_with (first
          | (refine wpList_load_cells rfl 54 _ rfl xb (xo + k * 6) rfl #[.int .i64 ph, .int .i64 frm, .bool true, .int .i64 r, .int .i64 q, .slice s.a s.len s.cap] _ HX.out Try.underlying54 rfl (by kernel_rfl) ?_)
          | (refine wpList_store_row rfl 54 _ _ rfl _ rfl #[.int .i64 ph, .int .i64 frm, .bool true, .int .i64 r, .int .i64 q, .slice s.a s.len s.cap] rfl 54 _ (Cel.new _ _ _) (by kernel_rfl) rfl rfl ?_; rw [setRow_alloc _ _ _ _ _ rfl])
          | fail)
        rw [← hNN] at n0 n1 n2 hNl ⊢
        generalize wr.alloc (.cells #[.int .i64 ph, .int .i64 frm, .bool true, .int .i64 r, .int .i64 q, .slice s.a s.len s.cap] 54) = W at n0 n1 n2 HSAY HNC HW hNl ⊢
        have hNb : b < N ∧ mp < N ∧ w.heap.size < N := by omega
        clear hNN
        by_cases hph : ph = 1
        · subst hph
          cases hA : gAsked g frm with
          | false =>
            have HA := Lib.hid hA
            by_cases hK : g.phase = 1
            · have HSTILL := Lib.hid (show ¬ (g.phase = 1 ∧ gAsked g frm = true) from fun hh => by rw [hA] at hh; cases hh.2)
              have k1 : (g.phase != 1) = false := by rw [hK]; rfl
              clear hA hK
              go_region_held3 (fun w' => w'.cell? ⟨N, 1, none⟩ = some (.int .i64 frm)) (first | exact n1 | exact n1b)
                (first | (go_at_call 14; (first | refine (HSAY.out.hp _ (Mod.refl _ _).drew).mono ?_ | refine (HSAY.out.hp _ mB).mono ?_); rintro e2 w2' ⟨rfl, rfl⟩) | (go_at_call 15; refine (HSAY.out.ha _ frm (Mod.refl _ _).drew).mono ?_; rw [HA.out]; rintro e3 w3 ⟨rfl, hm3⟩; have mB := (Mod.refl [] W).drew.trans hm3; have n1b : w3.cell? ⟨N, 1, none⟩ = some (.int .i64 frm) := (HNC.out.mod mB (by simp)).cell 1))
              all_goals
                rename_i hheld
                clear hheld
                clear n0 n1 n2 n1b
                have m3 := HW.out.trans mB
                have HS3 := Lib.hid ((HPr.out.below m3).says HIr.out.ok.vb)
                have hN3 := HNC.out.mod mB (by simp)
                have c0 : w3.cell? ⟨N, 0, none⟩ = some (.int .i64 1) := hN3.cell 0
                have HN3 := Lib.hid hN3
                have HM3 := Lib.hid m3
                clear hN3 m3 mB hm3
                go_wp2_with fail
                refine (HS3.out.hv _ (Mod.refl _ _)).mono ?_
                rintro e4 w4 ⟨s1, rfl, ho1, hm4⟩
                clear c0
                have hN4 := HN3.out.mod hm4 (by simp)
                have c0 : w4.cell? ⟨N, 0, none⟩ = some (.int .i64 1) := hN4.cell 0
                have c1 : w4.cell? ⟨N, 1, none⟩ = some (.int .i64 frm) := hN4.cell 1
                have c3 : w4.cell? ⟨N, 3, none⟩ = some (.int .i64 r) := hN4.cell 3
                have c4 : w4.cell? ⟨N, 4, none⟩ = some (.int .i64 q) := hN4.cell 4
                have c5 : w4.cell? ⟨N, 5, none⟩ = some (.slice s.a s.len s.cap) := hN4.cell 5
                have HM4 := Lib.hid (HM3.out.trans hm4)
                have HP4 := Lib.hid (HPr.out.below HM4.out)
                have HN4 := Lib.hid hN4
                have HO1 := Lib.hid ho1
                clear hN4 hm4 ho1 HS3 HN3 HM3
                go_wp2_with fail
                refine (promised_rep b mp g frm r q s l 0 w4 HP4.out HIr.out.ok (HRD.out.below HM4.out) hsb).mono ?_
                rintro e5 w5 ⟨rfl, g', mp', hg, hmp', hP5, hM5⟩
                have hI5 := HIr.out.prom (by omega) (by rw [HRD.out.len]; exact hsb) hg
                have hmp5 : w.heap.size < mp' := by have := HMr.out.size; have := HM4.out.size; rcases hmp' with h | h <;> omega
                obtain rfl : g' = g := prom_still (fun hh => HSTILL.out hh) hg
                clear c0 c1 c3 c4 c5
                have hN5 := HN4.out.mod hM5 (by simp; omega)
                have hB5 : Cel w5 w.heap.size lt.cells 54 := (HBr.out.mod HM4.out (by simp)).mod hM5 (by simp; omega)
                have hO5 := HO1.out.mod hM5 HP4.out.noBytes
                have hMw5 : Mod [] w w5 := (HMr.out.trans HM4.out).then hM5 (by simp; omega)
                have c0 : w5.cell? ⟨N, 0, none⟩ = some (.int .i64 1) := hN5.cell 0
                have c1 : w5.cell? ⟨N, 1, none⟩ = some (.int .i64 frm) := hN5.cell 1
                have HS5 := Lib.hid (hP5.says hI5.ok.vb)
                have HCV5 := Lib.hid (fun (X : World) (hX : Mod [] w5 X) => conv8 (hO5.below hX).rd)
                have HN5 := Lib.hid hN5
                have HB5 := Lib.hid hB5
                have HMW := Lib.hid hMw5
                have HP5 := Lib.hid hP5
                have HI5 := Lib.hid hI5
                clear hN5 hB5 hO5 hMw5 hM5 hP5 hI5 HN4 HO1 HP4 HM4 hg hmp'
                have hcv1 := HCV5.out _ (Mod.refl [] w5).drew
                go_wp2_with fail
                refine wp_region_noPanic ?_
                refine wp_region_held_drew (S := (fun X => X.cell? ⟨N, 1, none⟩ = some (.int .i64 frm) ∧ (convert 26 9 (.slice s1.a s1.len s1.cap)).run Try.prog X = .ok (.string ⟨g'.vb.toArray⟩) X)) (by kernel_rfl) ⟨c1, hcv1⟩ (fun hHeld => ?_)
                refine wpAnyH_take (i := 0) (v := ?_) rfl (by kernel_rfl) (by kernel_rfl) (by kernel_rfl) (fun _ _ _ h => h) (Or.inl ⟨by rfl, ?_⟩) (by assumption) ?_; rotate_left; focus (intro wS hSw; (try dsimp only at hSw); first | (go_simp; done) | (go_simp; with_reducible rfl))
                simp only [List.getElem_toArray, List.getElem_cons_zero, Act.put, List.setIfInBounds_toArray, List.set_cons_zero, List.set_cons_succ]
                refine wpAnyH_take (i := 1) (v := ?_) rfl (by kernel_rfl) (by kernel_rfl) (by kernel_rfl) (fun _ _ _ h => h) (Or.inl ⟨by rfl, ?_⟩) (by assumption) ?_; rotate_left; focus (intro wS hSw; (try dsimp only at hSw); first | (go_simp; done) | (go_simp; with_reducible rfl))
                simp only [List.getElem_toArray, List.getElem_cons_succ, List.getElem_cons_zero, Act.put, List.setIfInBounds_toArray, List.set_cons_zero, List.set_cons_succ]
                refine wpAnyH_take (i := 2) (v := ?_) rfl (by kernel_rfl) (by kernel_rfl) (by kernel_rfl) (fun _ _ _ h => h) (Or.inl ⟨by rfl, ?_⟩) (by assumption) ?_; rotate_left; focus (intro wS hSw; (try dsimp only at hSw); first | (go_simp; done) | (go_simp; with_reducible rfl))
                simp only [List.getElem_toArray, List.getElem_cons_succ, List.getElem_cons_zero, Act.put, List.setIfInBounds_toArray, List.set_cons_zero, List.set_cons_succ]
                refine wpAnyH_take (i := 3) (v := undef) rfl (by kernel_rfl) (by kernel_rfl) (by kernel_rfl) (fun _ _ _ h => h) (Or.inr ⟨by rfl, rfl⟩) (by assumption) ?_
                simp only [List.getElem_toArray, List.getElem_cons_succ, List.getElem_cons_zero, Act.put, List.setIfInBounds_toArray, List.set_cons_zero, List.set_cons_succ]
                refine wpAnyH_take (i := 4) (v := ?_) rfl (by kernel_rfl) (by kernel_rfl) (by kernel_rfl) (fun _ _ _ h => h) (Or.inl ⟨by rfl, ?_⟩) (by assumption) ?_; rotate_left; focus (intro wS hSw; (try dsimp only at hSw); first | (go_simp; done) | (go_simp; with_reducible rfl))
                simp only [List.getElem_toArray, List.getElem_cons_succ, List.getElem_cons_zero, Act.put, List.setIfInBounds_toArray, List.set_cons_zero, List.set_cons_succ]
                refine wpAnyH_take (i := 5) (v := ?_) rfl (by kernel_rfl) (by kernel_rfl) (by kernel_rfl) (fun _ _ _ h => h) (Or.inl ⟨by rfl, ?_⟩) (by assumption) ?_; rotate_left; focus (intro wS hSw; (try dsimp only at hSw); first | (go_simp; done) | (go_simp; with_reducible rfl))
                simp only [List.getElem_toArray, List.getElem_cons_succ, List.getElem_cons_zero, Act.put, List.setIfInBounds_toArray, List.set_cons_zero, List.set_cons_succ]
                refine wpAnyH_take (i := 6) (v := ?_) rfl (by kernel_rfl) (by kernel_rfl) (by kernel_rfl) (fun _ _ _ h => h) (Or.inl ⟨by rfl, ?_⟩) (by assumption) ?_; rotate_left; focus (intro wS hSw; (try dsimp only at hSw); first | (go_simp; done) | (go_simp; with_reducible rfl))
                simp only [List.getElem_toArray, List.getElem_cons_succ, List.getElem_cons_zero, Act.put, List.setIfInBounds_toArray, List.set_cons_zero, List.set_cons_succ]
                refine wpAnyH_take (i := 8) (v := ?_) rfl (by kernel_rfl) (by kernel_rfl) (by kernel_rfl) (fun _ _ _ h => h) (Or.inl ⟨by rfl, ?_⟩) (by assumption) ?_; rotate_left; focus (intro wS hSw; (try dsimp only at hSw); first | (go_simp; done) | (go_simp; with_reducible rfl))
                simp only [List.getElem_toArray, List.getElem_cons_succ, List.getElem_cons_zero, Act.put, List.setIfInBounds_toArray, List.set_cons_zero, List.set_cons_succ]
                refine wpAnyH_ready (rs := [7]) (by kernel_rfl) (by simp) ?_
                refine AllReadyH.cons rfl (fun K hK => ?_) AllReadyH.nil
                go_simp
                go_at_call 14
                refine (HS5.out.hp _ (Mod.refl _ _).drew).mono ?_
                rintro e6 w6 ⟨rfl, rfl⟩
                refine hK.out _ _ ?_ (fun hHeld => ?_)
                · exact hHeld
                clear hK K
                refine wpAnyH_take (i := 9) (v := ?_) rfl (by kernel_rfl) (by kernel_rfl) (by kernel_rfl) (fun _ _ _ h => h) (Or.inl ⟨by rfl, ?_⟩) (by assumption) ?_; rotate_left; focus (intro wS hSw; (try dsimp only at hSw); first | (go_simp; done) | (go_simp; with_reducible rfl))
                simp only [List.getElem_toArray, List.getElem_cons_succ, List.getElem_cons_zero, Act.put, List.setIfInBounds_toArray, List.set_cons_zero, List.set_cons_succ]
                refine wpAnyH_take (i := 10) (v := ?_) rfl (by kernel_rfl) (by kernel_rfl) (by kernel_rfl) (fun _ _ _ h => h) (Or.inl ⟨by rfl, ?_⟩) (by assumption) ?_; rotate_left; focus (intro wS hSw; (try dsimp only at hSw); first | (go_simp; done) | (go_simp; with_reducible rfl))
                simp only [List.getElem_toArray, List.getElem_cons_succ, List.getElem_cons_zero, Act.put, List.setIfInBounds_toArray, List.set_cons_zero, List.set_cons_succ]
                refine wpAnyH_take (i := 11) (v := ?_) rfl (by kernel_rfl) (by kernel_rfl) (by kernel_rfl) (fun _ _ _ h => h) (Or.inl ⟨by rfl, ?_⟩) (by assumption) ?_; rotate_left; focus (intro wS hSw; (try dsimp only at hSw); first | (go_simp; done) | (go_simp; with_reducible rfl))
                simp only [List.getElem_toArray, List.getElem_cons_succ, List.getElem_cons_zero, Act.put, List.setIfInBounds_toArray, List.set_cons_zero, List.set_cons_succ]
                refine wpAnyH_take (i := 14) (v := ?_) rfl (by kernel_rfl) (by kernel_rfl) (by kernel_rfl) (fun _ _ _ h => h) (Or.inl ⟨by rfl, ?_⟩) (by assumption) ?_; rotate_left; focus (intro wS hSw; (try dsimp only at hSw); first | (go_simp; done) | (go_simp; with_reducible rfl))
                simp only [List.getElem_toArray, List.getElem_cons_succ, List.getElem_cons_zero, Act.put, List.setIfInBounds_toArray, List.set_cons_zero, List.set_cons_succ]
                refine wpAnyH_take (i := 15) (v := ?_) rfl (by kernel_rfl) (by kernel_rfl) (by kernel_rfl) (fun _ _ _ h => h) (Or.inl ⟨by rfl, ?_⟩) (by assumption) ?_; rotate_left; focus (intro wS hSw; (try dsimp only at hSw); first | (go_simp; done) | (go_simp; with_reducible rfl))
                simp only [List.getElem_toArray, List.getElem_cons_succ, List.getElem_cons_zero, Act.put, List.setIfInBounds_toArray, List.set_cons_zero, List.set_cons_succ]
                refine wpAnyH_ready (rs := [12]) (by kernel_rfl) (by simp) ?_
                refine AllReadyH.cons rfl (fun K hK => ?_) AllReadyH.nil
                go_simp
                go_at_call 18
                refine (HS5.out.hv _ (Mod.refl _ _).drew).mono ?_
                rintro e7 w7 ⟨s2, rfl, ho2, hm7⟩
                have hcv2 := conv8 ho2.rd
                have mD := (Mod.refl [] w5).drew.trans hm7
                have hcv3 := HCV5.out _ mD
                have c1b : w7.cell? ⟨N, 1, none⟩ = some (.int .i64 frm) := (HN5.out.mod mD (by simp)).cell 1
                refine hK.out _ _ ?_ (fun hHeld => ?_)
                · exact ⟨c1b, hcv3⟩
                clear hK K
                refine held_grow (S' := (fun X => (convert 26 9 (.slice s2.a s2.len s2.cap)).run Try.prog X = .ok (.string ⟨g'.vb.toArray⟩) X ∧ X.cell? ⟨N, 1, none⟩ = some (.int .i64 frm) ∧ (convert 26 9 (.slice s1.a s1.len s1.cap)).run Try.prog X = .ok (.string ⟨g'.vb.toArray⟩) X)) (fun X hX => hX.2) _ _ _ _ ?_
                have hHeld2 : (fun X => (convert 26 9 (.slice s2.a s2.len s2.cap)).run Try.prog X = .ok (.string ⟨g'.vb.toArray⟩) X ∧ X.cell? ⟨N, 1, none⟩ = some (.int .i64 frm) ∧ (convert 26 9 (.slice s1.a s1.len s1.cap)).run Try.prog X = .ok (.string ⟨g'.vb.toArray⟩) X) w7 := ⟨hcv2, c1b, hcv3⟩
                refine wpAnyH_take (i := 13) (v := ?_) rfl (by kernel_rfl) (by kernel_rfl) (by kernel_rfl) (fun _ _ _ h => h) (Or.inl ⟨by rfl, ?_⟩) (by assumption) ?_; rotate_left; focus (intro wS hSw; (try dsimp only at hSw); first | (go_simp; done) | (go_simp; with_reducible rfl))
                simp only [List.getElem_toArray, List.getElem_cons_succ, List.getElem_cons_zero, Act.put, List.setIfInBounds_toArray, List.set_cons_zero, List.set_cons_succ]
                refine wpAnyH_take (i := 16) (v := ?_) rfl (by kernel_rfl) (by kernel_rfl) (by kernel_rfl) (fun _ _ _ h => h) (Or.inl ⟨by rfl, ?_⟩) (by assumption) ?_; rotate_left; focus (intro wS hSw; (try dsimp only at hSw); first | (go_simp; done) | (go_simp; with_reducible rfl))
                simp only [List.getElem_toArray, List.getElem_cons_succ, List.getElem_cons_zero, Act.put, List.setIfInBounds_toArray, List.set_cons_zero, List.set_cons_succ]
                refine wpAnyH_take (i := 17) (v := ?_) rfl (by kernel_rfl) (by kernel_rfl) (by kernel_rfl) (fun _ _ _ h => h) (Or.inl ⟨by rfl, ?_⟩) (by assumption) ?_; rotate_left; focus (intro wS hSw; (try dsimp only at hSw); first | (go_simp; done) | (go_simp; with_reducible rfl))
                simp only [List.getElem_toArray, List.getElem_cons_succ, List.getElem_cons_zero, Act.put, List.setIfInBounds_toArray, List.set_cons_zero, List.set_cons_succ]
                refine wpAnyH_take (i := 18) (v := ?_) rfl (by kernel_rfl) (by kernel_rfl) (by kernel_rfl) (fun _ _ _ h => h) (Or.inl ⟨by rfl, ?_⟩) (by assumption) ?_; rotate_left; focus (intro wS hSw; (try dsimp only at hSw); first | (go_simp; done) | (go_simp; with_reducible rfl))
                simp only [List.getElem_toArray, List.getElem_cons_succ, List.getElem_cons_zero, Act.put, List.setIfInBounds_toArray, List.set_cons_zero, List.set_cons_succ]
                refine wpAnyH_take (i := 19) (v := ?_) rfl (by kernel_rfl) (by kernel_rfl) (by kernel_rfl) (fun _ _ _ h => h) (Or.inl ⟨by rfl, ?_⟩) (by assumption) ?_; rotate_left; focus (intro wS hSw; (try dsimp only at hSw); first | (go_simp; done) | (go_simp; with_reducible rfl))
                simp only [List.getElem_toArray, List.getElem_cons_succ, List.getElem_cons_zero, Act.put, List.setIfInBounds_toArray, List.set_cons_zero, List.set_cons_succ]
                refine wpAnyH_take (i := 20) (v := ?_) rfl (by kernel_rfl) (by kernel_rfl) (by kernel_rfl) (fun _ _ _ h => h) (Or.inl ⟨by rfl, ?_⟩) (by assumption) ?_; rotate_left; focus (intro wS hSw; (try dsimp only at hSw); first | (go_simp; done) | (go_simp; with_reducible rfl))
                simp only [List.getElem_toArray, List.getElem_cons_succ, List.getElem_cons_zero, Act.put, List.setIfInBounds_toArray, List.set_cons_zero, List.set_cons_succ]
                refine wpAnyH_take (i := 21) (v := ?_) rfl (by kernel_rfl) (by kernel_rfl) (by kernel_rfl) (fun _ _ _ h => h) (Or.inl ⟨by rfl, ?_⟩) (by assumption) ?_; rotate_left; focus (intro wS hSw; (try dsimp only at hSw); first | (go_simp; done) | (go_simp; with_reducible rfl))
                simp only [List.getElem_toArray, List.getElem_cons_succ, List.getElem_cons_zero, Act.put, List.setIfInBounds_toArray, List.set_cons_zero, List.set_cons_succ]
                refine wpAnyH_take (i := 23) (v := ?_) rfl (by kernel_rfl) (by kernel_rfl) (by kernel_rfl) (fun _ _ _ h => h) (Or.inl ⟨by rfl, ?_⟩) (by assumption) ?_; rotate_left; focus (intro wS hSw; (try dsimp only at hSw); first | (go_simp; done) | (go_simp; with_reducible rfl))
                simp only [List.getElem_toArray, List.getElem_cons_succ, List.getElem_cons_zero, Act.put, List.setIfInBounds_toArray, List.set_cons_zero, List.set_cons_succ]
                refine wpAnyH_ready (rs := [22]) (by kernel_rfl) (by simp) ?_
                refine AllReadyH.cons rfl (fun K hK => ?_) AllReadyH.nil
                go_simp
                go_at_call 15
                refine (HS5.out.ha _ frm mD).mono ?_
                rw [HA.out]
                rintro e8 w8 ⟨rfl, hm8⟩
                have mE := mD.trans hm8
                refine hK.out _ _ ?_ (fun hHeld => ?_)
                · exact ⟨conv8 (ho2.below hm8).rd, (HN5.out.mod mE (by simp)).cell 1, HCV5.out _ mE⟩
                clear hK K
                refine wpAnyH_take (i := 24) (v := ?_) rfl (by kernel_rfl) (by kernel_rfl) (by kernel_rfl) (fun _ _ _ h => h) (Or.inl ⟨by rfl, ?_⟩) (by assumption) ?_; rotate_left; focus (intro wS hSw; (try dsimp only at hSw); first | (go_simp; done) | (go_simp; with_reducible rfl))
                simp only [List.getElem_toArray, List.getElem_cons_succ, List.getElem_cons_zero, Act.put, List.setIfInBounds_toArray, List.set_cons_zero, List.set_cons_succ]
                refine wpAnyH_take (i := 25) (v := ?_) rfl (by kernel_rfl) (by kernel_rfl) (by kernel_rfl) (fun _ _ _ h => h) (Or.inl ⟨by rfl, ?_⟩) (by assumption) ?_; rotate_left; focus (intro wS hSw; (try dsimp only at hSw); first | (go_simp; done) | (go_simp; with_reducible rfl))
                simp only [List.getElem_toArray, List.getElem_cons_succ, List.getElem_cons_zero, Act.put, List.setIfInBounds_toArray, List.set_cons_zero, List.set_cons_succ]
                refine wpAnyH_take (i := 26) (v := ?_) rfl (by kernel_rfl) (by kernel_rfl) (by kernel_rfl) (fun _ _ _ h => h) (Or.inl ⟨by rfl, ?_⟩) (by assumption) ?_; rotate_left; focus (intro wS hSw; (try dsimp only at hSw); first | (go_simp; done) | (go_simp; with_reducible rfl))
                simp only [List.getElem_toArray, List.getElem_cons_succ, List.getElem_cons_zero, Act.put, List.setIfInBounds_toArray, List.set_cons_zero, List.set_cons_succ]
                refine wpAnyH_done (by kernel_rfl) ?_ _
                refine NoPanic.normal ?_
                go_wp2
                go_roundw
                case rel => exact LateRel.mk (k + 1) mp' g' ⟨by omega, by go_num, HI5.out, HP5.out.below mE, hmp5, HB5.out.mod mE (by simp), HMW.out.trans mE⟩
                case measure => simp [intOf]; omega
            · have HSTILL := Lib.hid (show ¬ (g.phase = 1 ∧ gAsked g frm = true) from fun hh => by rw [hA] at hh; cases hh.2)
              have k1 : (g.phase != 1) = true := by simpa using hK
              clear hA hK
              go_region_held3 (fun w' => w'.cell? ⟨N, 1, none⟩ = some (.int .i64 frm)) (first | exact n1 | exact n1b)
                (first | (go_at_call 14; (first | refine (HSAY.out.hp _ (Mod.refl _ _).drew).mono ?_ | refine (HSAY.out.hp _ mB).mono ?_); rintro e2 w2' ⟨rfl, rfl⟩) | (go_at_call 15; refine (HSAY.out.ha _ frm (Mod.refl _ _).drew).mono ?_; rw [HA.out]; rintro e3 w3 ⟨rfl, hm3⟩; have mB := (Mod.refl [] W).drew.trans hm3; have n1b : w3.cell? ⟨N, 1, none⟩ = some (.int .i64 frm) := (HNC.out.mod mB (by simp)).cell 1))
              all_goals
                rename_i hheld
                clear hheld
                clear n0 n1 n2 n1b
                have m3 := HW.out.trans mB
                have HS3 := Lib.hid ((HPr.out.below m3).says HIr.out.ok.vb)
                have hN3 := HNC.out.mod mB (by simp)
                have c0 : w3.cell? ⟨N, 0, none⟩ = some (.int .i64 1) := hN3.cell 0
                have HN3 := Lib.hid hN3
                have HM3 := Lib.hid m3
                clear hN3 m3 mB hm3
                go_wp2_with fail
                refine (HS3.out.hv _ (Mod.refl _ _)).mono ?_
                rintro e4 w4 ⟨s1, rfl, ho1, hm4⟩
                clear c0
                have hN4 := HN3.out.mod hm4 (by simp)
                have c0 : w4.cell? ⟨N, 0, none⟩ = some (.int .i64 1) := hN4.cell 0
                have c1 : w4.cell? ⟨N, 1, none⟩ = some (.int .i64 frm) := hN4.cell 1
                have c3 : w4.cell? ⟨N, 3, none⟩ = some (.int .i64 r) := hN4.cell 3
                have c4 : w4.cell? ⟨N, 4, none⟩ = some (.int .i64 q) := hN4.cell 4
                have c5 : w4.cell? ⟨N, 5, none⟩ = some (.slice s.a s.len s.cap) := hN4.cell 5
                have HM4 := Lib.hid (HM3.out.trans hm4)
                have HP4 := Lib.hid (HPr.out.below HM4.out)
                have HN4 := Lib.hid hN4
                have HO1 := Lib.hid ho1
                clear hN4 hm4 ho1 HS3 HN3 HM3
                go_wp2_with fail
                refine (promised_rep b mp g frm r q s l 0 w4 HP4.out HIr.out.ok (HRD.out.below HM4.out) hsb).mono ?_
                rintro e5 w5 ⟨rfl, g', mp', hg, hmp', hP5, hM5⟩
                have hI5 := HIr.out.prom (by omega) (by rw [HRD.out.len]; exact hsb) hg
                have hmp5 : w.heap.size < mp' := by have := HMr.out.size; have := HM4.out.size; rcases hmp' with h | h <;> omega
                obtain rfl : g' = g := prom_still (fun hh => HSTILL.out hh) hg
                clear c0 c1 c3 c4 c5
                have hN5 := HN4.out.mod hM5 (by simp; omega)
                have hB5 : Cel w5 w.heap.size lt.cells 54 := (HBr.out.mod HM4.out (by simp)).mod hM5 (by simp; omega)
                have hO5 := HO1.out.mod hM5 HP4.out.noBytes
                have hMw5 : Mod [] w w5 := (HMr.out.trans HM4.out).then hM5 (by simp; omega)
                have c0 : w5.cell? ⟨N, 0, none⟩ = some (.int .i64 1) := hN5.cell 0
                have c1 : w5.cell? ⟨N, 1, none⟩ = some (.int .i64 frm) := hN5.cell 1
                have HS5 := Lib.hid (hP5.says hI5.ok.vb)
                have HCV5 := Lib.hid (fun (X : World) (hX : Mod [] w5 X) => conv8 (hO5.below hX).rd)
                have HN5 := Lib.hid hN5
                have HB5 := Lib.hid hB5
                have HMW := Lib.hid hMw5
                have HP5 := Lib.hid hP5
                have HI5 := Lib.hid hI5
                clear hN5 hB5 hO5 hMw5 hM5 hP5 hI5 HN4 HO1 HP4 HM4 hg hmp'
                have hcv1 := HCV5.out _ (Mod.refl [] w5).drew
                go_wp2_with fail
                refine wp_region_noPanic ?_
                refine wp_region_held_drew (S := (fun X => X.cell? ⟨N, 1, none⟩ = some (.int .i64 frm) ∧ (convert 26 9 (.slice s1.a s1.len s1.cap)).run Try.prog X = .ok (.string ⟨g'.vb.toArray⟩) X)) (by kernel_rfl) ⟨c1, hcv1⟩ (fun hHeld => ?_)
                refine wpAnyH_take (i := 0) (v := ?_) rfl (by kernel_rfl) (by kernel_rfl) (by kernel_rfl) (fun _ _ _ h => h) (Or.inl ⟨by rfl, ?_⟩) (by assumption) ?_; rotate_left; focus (intro wS hSw; (try dsimp only at hSw); first | (go_simp; done) | (go_simp; with_reducible rfl))
                simp only [List.getElem_toArray, List.getElem_cons_zero, Act.put, List.setIfInBounds_toArray, List.set_cons_zero, List.set_cons_succ]
                refine wpAnyH_take (i := 1) (v := ?_) rfl (by kernel_rfl) (by kernel_rfl) (by kernel_rfl) (fun _ _ _ h => h) (Or.inl ⟨by rfl, ?_⟩) (by assumption) ?_; rotate_left; focus (intro wS hSw; (try dsimp only at hSw); first | (go_simp; done) | (go_simp; with_reducible rfl))
                simp only [List.getElem_toArray, List.getElem_cons_succ, List.getElem_cons_zero, Act.put, List.setIfInBounds_toArray, List.set_cons_zero, List.set_cons_succ]
                refine wpAnyH_take (i := 2) (v := ?_) rfl (by kernel_rfl) (by kernel_rfl) (by kernel_rfl) (fun _ _ _ h => h) (Or.inl ⟨by rfl, ?_⟩) (by assumption) ?_; rotate_left; focus (intro wS hSw; (try dsimp only at hSw); first | (go_simp; done) | (go_simp; with_reducible rfl))
                simp only [List.getElem_toArray, List.getElem_cons_succ, List.getElem_cons_zero, Act.put, List.setIfInBounds_toArray, List.set_cons_zero, List.set_cons_succ]
                refine wpAnyH_take (i := 3) (v := undef) rfl (by kernel_rfl) (by kernel_rfl) (by kernel_rfl) (fun _ _ _ h => h) (Or.inr ⟨by rfl, rfl⟩) (by assumption) ?_
                simp only [List.getElem_toArray, List.getElem_cons_succ, List.getElem_cons_zero, Act.put, List.setIfInBounds_toArray, List.set_cons_zero, List.set_cons_succ]
                refine wpAnyH_take (i := 4) (v := ?_) rfl (by kernel_rfl) (by kernel_rfl) (by kernel_rfl) (fun _ _ _ h => h) (Or.inl ⟨by rfl, ?_⟩) (by assumption) ?_; rotate_left; focus (intro wS hSw; (try dsimp only at hSw); first | (go_simp; done) | (go_simp; with_reducible rfl))
                simp only [List.getElem_toArray, List.getElem_cons_succ, List.getElem_cons_zero, Act.put, List.setIfInBounds_toArray, List.set_cons_zero, List.set_cons_succ]
                refine wpAnyH_take (i := 5) (v := ?_) rfl (by kernel_rfl) (by kernel_rfl) (by kernel_rfl) (fun _ _ _ h => h) (Or.inl ⟨by rfl, ?_⟩) (by assumption) ?_; rotate_left; focus (intro wS hSw; (try dsimp only at hSw); first | (go_simp; done) | (go_simp; with_reducible rfl))
                simp only [List.getElem_toArray, List.getElem_cons_succ, List.getElem_cons_zero, Act.put, List.setIfInBounds_toArray, List.set_cons_zero, List.set_cons_succ]
                refine wpAnyH_take (i := 6) (v := ?_) rfl (by kernel_rfl) (by kernel_rfl) (by kernel_rfl) (fun _ _ _ h => h) (Or.inl ⟨by rfl, ?_⟩) (by assumption) ?_; rotate_left; focus (intro wS hSw; (try dsimp only at hSw); first | (go_simp; done) | (go_simp; with_reducible rfl))
                simp only [List.getElem_toArray, List.getElem_cons_succ, List.getElem_cons_zero, Act.put, List.setIfInBounds_toArray, List.set_cons_zero, List.set_cons_succ]
                refine wpAnyH_take (i := 8) (v := ?_) rfl (by kernel_rfl) (by kernel_rfl) (by kernel_rfl) (fun _ _ _ h => h) (Or.inl ⟨by rfl, ?_⟩) (by assumption) ?_; rotate_left; focus (intro wS hSw; (try dsimp only at hSw); first | (go_simp; done) | (go_simp; with_reducible rfl))
                simp only [List.getElem_toArray, List.getElem_cons_succ, List.getElem_cons_zero, Act.put, List.setIfInBounds_toArray, List.set_cons_zero, List.set_cons_succ]
                refine wpAnyH_ready (rs := [7]) (by kernel_rfl) (by simp) ?_
                refine AllReadyH.cons rfl (fun K hK => ?_) AllReadyH.nil
                go_simp
                go_at_call 14
                refine (HS5.out.hp _ (Mod.refl _ _).drew).mono ?_
                rintro e6 w6 ⟨rfl, rfl⟩
                refine hK.out _ _ ?_ (fun hHeld => ?_)
                · exact hHeld
                clear hK K
                refine wpAnyH_take (i := 9) (v := ?_) rfl (by kernel_rfl) (by kernel_rfl) (by kernel_rfl) (fun _ _ _ h => h) (Or.inl ⟨by rfl, ?_⟩) (by assumption) ?_; rotate_left; focus (intro wS hSw; (try dsimp only at hSw); first | (go_simp; done) | (go_simp; with_reducible rfl))
                simp only [List.getElem_toArray, List.getElem_cons_succ, List.getElem_cons_zero, Act.put, List.setIfInBounds_toArray, List.set_cons_zero, List.set_cons_succ]
                refine wpAnyH_take (i := 10) (v := ?_) rfl (by kernel_rfl) (by kernel_rfl) (by kernel_rfl) (fun _ _ _ h => h) (Or.inl ⟨by rfl, ?_⟩) (by assumption) ?_; rotate_left; focus (intro wS hSw; (try dsimp only at hSw); first | (go_simp; done) | (go_simp; with_reducible rfl))
                simp only [List.getElem_toArray, List.getElem_cons_succ, List.getElem_cons_zero, Act.put, List.setIfInBounds_toArray, List.set_cons_zero, List.set_cons_succ]
                refine wpAnyH_take (i := 11) (v := ?_) rfl (by kernel_rfl) (by kernel_rfl) (by kernel_rfl) (fun _ _ _ h => h) (Or.inl ⟨by rfl, ?_⟩) (by assumption) ?_; rotate_left; focus (intro wS hSw; (try dsimp only at hSw); first | (go_simp; done) | (go_simp; with_reducible rfl))
                simp only [List.getElem_toArray, List.getElem_cons_succ, List.getElem_cons_zero, Act.put, List.setIfInBounds_toArray, List.set_cons_zero, List.set_cons_succ]
                refine wpAnyH_take (i := 14) (v := ?_) rfl (by kernel_rfl) (by kernel_rfl) (by kernel_rfl) (fun _ _ _ h => h) (Or.inl ⟨by rfl, ?_⟩) (by assumption) ?_; rotate_left; focus (intro wS hSw; (try dsimp only at hSw); first | (go_simp; done) | (go_simp; with_reducible rfl))
                simp only [List.getElem_toArray, List.getElem_cons_succ, List.getElem_cons_zero, Act.put, List.setIfInBounds_toArray, List.set_cons_zero, List.set_cons_succ]
                refine wpAnyH_take (i := 15) (v := ?_) rfl (by kernel_rfl) (by kernel_rfl) (by kernel_rfl) (fun _ _ _ h => h) (Or.inl ⟨by rfl, ?_⟩) (by assumption) ?_; rotate_left; focus (intro wS hSw; (try dsimp only at hSw); first | (go_simp; done) | (go_simp; with_reducible rfl))
                simp only [List.getElem_toArray, List.getElem_cons_succ, List.getElem_cons_zero, Act.put, List.setIfInBounds_toArray, List.set_cons_zero, List.set_cons_succ]
                refine wpAnyH_ready (rs := [12]) (by kernel_rfl) (by simp) ?_
                refine AllReadyH.cons rfl (fun K hK => ?_) AllReadyH.nil
                go_simp
                go_at_call 18
                refine (HS5.out.hv _ (Mod.refl _ _).drew).mono ?_
                rintro e7 w7 ⟨s2, rfl, ho2, hm7⟩
                have hcv2 := conv8 ho2.rd
                have mD := (Mod.refl [] w5).drew.trans hm7
                have hcv3 := HCV5.out _ mD
                have c1b : w7.cell? ⟨N, 1, none⟩ = some (.int .i64 frm) := (HN5.out.mod mD (by simp)).cell 1
                refine hK.out _ _ ?_ (fun hHeld => ?_)
                · exact ⟨c1b, hcv3⟩
                clear hK K
                refine held_grow (S' := (fun X => (convert 26 9 (.slice s2.a s2.len s2.cap)).run Try.prog X = .ok (.string ⟨g'.vb.toArray⟩) X ∧ X.cell? ⟨N, 1, none⟩ = some (.int .i64 frm) ∧ (convert 26 9 (.slice s1.a s1.len s1.cap)).run Try.prog X = .ok (.string ⟨g'.vb.toArray⟩) X)) (fun X hX => hX.2) _ _ _ _ ?_
                have hHeld2 : (fun X => (convert 26 9 (.slice s2.a s2.len s2.cap)).run Try.prog X = .ok (.string ⟨g'.vb.toArray⟩) X ∧ X.cell? ⟨N, 1, none⟩ = some (.int .i64 frm) ∧ (convert 26 9 (.slice s1.a s1.len s1.cap)).run Try.prog X = .ok (.string ⟨g'.vb.toArray⟩) X) w7 := ⟨hcv2, c1b, hcv3⟩
                refine wpAnyH_take (i := 13) (v := ?_) rfl (by kernel_rfl) (by kernel_rfl) (by kernel_rfl) (fun _ _ _ h => h) (Or.inl ⟨by rfl, ?_⟩) (by assumption) ?_; rotate_left; focus (intro wS hSw; (try dsimp only at hSw); first | (go_simp; done) | (go_simp; with_reducible rfl))
                simp only [List.getElem_toArray, List.getElem_cons_succ, List.getElem_cons_zero, Act.put, List.setIfInBounds_toArray, List.set_cons_zero, List.set_cons_succ]
                refine wpAnyH_take (i := 16) (v := ?_) rfl (by kernel_rfl) (by kernel_rfl) (by kernel_rfl) (fun _ _ _ h => h) (Or.inl ⟨by rfl, ?_⟩) (by assumption) ?_; rotate_left; focus (intro wS hSw; (try dsimp only at hSw); first | (go_simp; done) | (go_simp; with_reducible rfl))
                simp only [List.getElem_toArray, List.getElem_cons_succ, List.getElem_cons_zero, Act.put, List.setIfInBounds_toArray, List.set_cons_zero, List.set_cons_succ]
                refine wpAnyH_take (i := 17) (v := ?_) rfl (by kernel_rfl) (by kernel_rfl) (by kernel_rfl) (fun _ _ _ h => h) (Or.inl ⟨by rfl, ?_⟩) (by assumption) ?_; rotate_left; focus (intro wS hSw; (try dsimp only at hSw); first | (go_simp; done) | (go_simp; with_reducible rfl))
                simp only [List.getElem_toArray, List.getElem_cons_succ, List.getElem_cons_zero, Act.put, List.setIfInBounds_toArray, List.set_cons_zero, List.set_cons_succ]
                refine wpAnyH_take (i := 18) (v := ?_) rfl (by kernel_rfl) (by kernel_rfl) (by kernel_rfl) (fun _ _ _ h => h) (Or.inl ⟨by rfl, ?_⟩) (by assumption) ?_; rotate_left; focus (intro wS hSw; (try dsimp only at hSw); first | (go_simp; done) | (go_simp; with_reducible rfl))
                simp only [List.getElem_toArray, List.getElem_cons_succ, List.getElem_cons_zero, Act.put, List.setIfInBounds_toArray, List.set_cons_zero, List.set_cons_succ]
                refine wpAnyH_take (i := 19) (v := ?_) rfl (by kernel_rfl) (by kernel_rfl) (by kernel_rfl) (fun _ _ _ h => h) (Or.inl ⟨by rfl, ?_⟩) (by assumption) ?_; rotate_left; focus (intro wS hSw; (try dsimp only at hSw); first | (go_simp; done) | (go_simp; with_reducible rfl))
                simp only [List.getElem_toArray, List.getElem_cons_succ, List.getElem_cons_zero, Act.put, List.setIfInBounds_toArray, List.set_cons_zero, List.set_cons_succ]
                refine wpAnyH_take (i := 20) (v := ?_) rfl (by kernel_rfl) (by kernel_rfl) (by kernel_rfl) (fun _ _ _ h => h) (Or.inl ⟨by rfl, ?_⟩) (by assumption) ?_; rotate_left; focus (intro wS hSw; (try dsimp only at hSw); first | (go_simp; done) | (go_simp; with_reducible rfl))
                simp only [List.getElem_toArray, List.getElem_cons_succ, List.getElem_cons_zero, Act.put, List.setIfInBounds_toArray, List.set_cons_zero, List.set_cons_succ]
                refine wpAnyH_take (i := 21) (v := ?_) rfl (by kernel_rfl) (by kernel_rfl) (by kernel_rfl) (fun _ _ _ h => h) (Or.inl ⟨by rfl, ?_⟩) (by assumption) ?_; rotate_left; focus (intro wS hSw; (try dsimp only at hSw); first | (go_simp; done) | (go_simp; with_reducible rfl))
                simp only [List.getElem_toArray, List.getElem_cons_succ, List.getElem_cons_zero, Act.put, List.setIfInBounds_toArray, List.set_cons_zero, List.set_cons_succ]
                refine wpAnyH_take (i := 23) (v := ?_) rfl (by kernel_rfl) (by kernel_rfl) (by kernel_rfl) (fun _ _ _ h => h) (Or.inl ⟨by rfl, ?_⟩) (by assumption) ?_; rotate_left; focus (intro wS hSw; (try dsimp only at hSw); first | (go_simp; done) | (go_simp; with_reducible rfl))
                simp only [List.getElem_toArray, List.getElem_cons_succ, List.getElem_cons_zero, Act.put, List.setIfInBounds_toArray, List.set_cons_zero, List.set_cons_succ]
                refine wpAnyH_ready (rs := [22]) (by kernel_rfl) (by simp) ?_
                refine AllReadyH.cons rfl (fun K hK => ?_) AllReadyH.nil
                go_simp
                go_at_call 15
                refine (HS5.out.ha _ frm mD).mono ?_
                rw [HA.out]
                rintro e8 w8 ⟨rfl, hm8⟩
                have mE := mD.trans hm8
                refine hK.out _ _ ?_ (fun hHeld => ?_)
                · exact ⟨conv8 (ho2.below hm8).rd, (HN5.out.mod mE (by simp)).cell 1, HCV5.out _ mE⟩
                clear hK K
                refine wpAnyH_take (i := 24) (v := ?_) rfl (by kernel_rfl) (by kernel_rfl) (by kernel_rfl) (fun _ _ _ h => h) (Or.inl ⟨by rfl, ?_⟩) (by assumption) ?_; rotate_left; focus (intro wS hSw; (try dsimp only at hSw); first | (go_simp; done) | (go_simp; with_reducible rfl))
                simp only [List.getElem_toArray, List.getElem_cons_succ, List.getElem_cons_zero, Act.put, List.setIfInBounds_toArray, List.set_cons_zero, List.set_cons_succ]
                refine wpAnyH_take (i := 25) (v := ?_) rfl (by kernel_rfl) (by kernel_rfl) (by kernel_rfl) (fun _ _ _ h => h) (Or.inl ⟨by rfl, ?_⟩) (by assumption) ?_; rotate_left; focus (intro wS hSw; (try dsimp only at hSw); first | (go_simp; done) | (go_simp; with_reducible rfl))
                simp only [List.getElem_toArray, List.getElem_cons_succ, List.getElem_cons_zero, Act.put, List.setIfInBounds_toArray, List.set_cons_zero, List.set_cons_succ]
                refine wpAnyH_take (i := 26) (v := ?_) rfl (by kernel_rfl) (by kernel_rfl) (by kernel_rfl) (fun _ _ _ h => h) (Or.inl ⟨by rfl, ?_⟩) (by assumption) ?_; rotate_left; focus (intro wS hSw; (try dsimp only at hSw); first | (go_simp; done) | (go_simp; with_reducible rfl))
                simp only [List.getElem_toArray, List.getElem_cons_succ, List.getElem_cons_zero, Act.put, List.setIfInBounds_toArray, List.set_cons_zero, List.set_cons_succ]
                refine wpAnyH_done (by kernel_rfl) ?_ _
                refine NoPanic.normal ?_
                go_wp2
                go_roundw
                case rel => exact LateRel.mk (k + 1) mp' g' ⟨by omega, by go_num, HI5.out, HP5.out.below mE, hmp5, HB5.out.mod mE (by simp), HMW.out.trans mE⟩
                case measure => simp [intOf]; omega
          | true =>
            have HA := Lib.hid hA
            by_cases hK : g.phase = 1
            · have HMOV := Lib.hid (show g.phase = 1 ∧ gAsked g frm = true from ⟨hK, hA⟩)
              have k1 : (g.phase != 1) = false := by rw [hK]; rfl
              clear hA hK
              go_region_held3 (fun w' => w'.cell? ⟨N, 1, none⟩ = some (.int .i64 frm)) (first | exact n1 | exact n1b)
                (first | (go_at_call 14; (first | refine (HSAY.out.hp _ (Mod.refl _ _).drew).mono ?_ | refine (HSAY.out.hp _ mB).mono ?_); rintro e2 w2' ⟨rfl, rfl⟩) | (go_at_call 15; refine (HSAY.out.ha _ frm (Mod.refl _ _).drew).mono ?_; rw [HA.out]; rintro e3 w3 ⟨rfl, hm3⟩; have mB := (Mod.refl [] W).drew.trans hm3; have n1b : w3.cell? ⟨N, 1, none⟩ = some (.int .i64 frm) := (HNC.out.mod mB (by simp)).cell 1))
              all_goals
                rename_i hheld
                clear hheld
                clear n0 n1 n2 n1b
                have m3 := HW.out.trans mB
                have HS3 := Lib.hid ((HPr.out.below m3).says HIr.out.ok.vb)
                have hN3 := HNC.out.mod mB (by simp)
                have c0 : w3.cell? ⟨N, 0, none⟩ = some (.int .i64 1) := hN3.cell 0
                have HN3 := Lib.hid hN3
                have HM3 := Lib.hid m3
                clear hN3 m3 mB hm3
                go_wp2_with fail
                refine (HS3.out.hv _ (Mod.refl _ _)).mono ?_
                rintro e4 w4 ⟨s1, rfl, ho1, hm4⟩
                clear c0
                have hN4 := HN3.out.mod hm4 (by simp)
                have c0 : w4.cell? ⟨N, 0, none⟩ = some (.int .i64 1) := hN4.cell 0
                have c1 : w4.cell? ⟨N, 1, none⟩ = some (.int .i64 frm) := hN4.cell 1
                have c3 : w4.cell? ⟨N, 3, none⟩ = some (.int .i64 r) := hN4.cell 3
                have c4 : w4.cell? ⟨N, 4, none⟩ = some (.int .i64 q) := hN4.cell 4
                have c5 : w4.cell? ⟨N, 5, none⟩ = some (.slice s.a s.len s.cap) := hN4.cell 5
                have HM4 := Lib.hid (HM3.out.trans hm4)
                have HP4 := Lib.hid (HPr.out.below HM4.out)
                have HN4 := Lib.hid hN4
                have HO1 := Lib.hid ho1
                clear hN4 hm4 ho1 HS3 HN3 HM3
                go_wp2_with fail
                refine (promised_rep b mp g frm r q s l 0 w4 HP4.out HIr.out.ok (HRD.out.below HM4.out) hsb).mono ?_
                rintro e5 w5 ⟨rfl, g', mp', hg, hmp', hP5, hM5⟩
                have hI5 := HIr.out.prom (by omega) (by rw [HRD.out.len]; exact hsb) hg
                have hmp5 : w.heap.size < mp' := by have := HMr.out.size; have := HM4.out.size; rcases hmp' with h | h <;> omega
                have hmoves : g'.phase ≠ g.phase ∨ gAsked g' frm = false := prom_moves HMOV.out hg
                clear c0 c1 c3 c4 c5
                have hN5 := HN4.out.mod hM5 (by simp; omega)
                have hB5 : Cel w5 w.heap.size lt.cells 54 := (HBr.out.mod HM4.out (by simp)).mod hM5 (by simp; omega)
                have hO5 := HO1.out.mod hM5 HP4.out.noBytes
                have hMw5 : Mod [] w w5 := (HMr.out.trans HM4.out).then hM5 (by simp; omega)
                have c0 : w5.cell? ⟨N, 0, none⟩ = some (.int .i64 1) := hN5.cell 0
                have c1 : w5.cell? ⟨N, 1, none⟩ = some (.int .i64 frm) := hN5.cell 1
                have HS5 := Lib.hid (hP5.says hI5.ok.vb)
                have HCV5 := Lib.hid (fun (X : World) (hX : Mod [] w5 X) => conv8 (hO5.below hX).rd)
                have HN5 := Lib.hid hN5
                have HB5 := Lib.hid hB5
                have HMW := Lib.hid hMw5
                have HP5 := Lib.hid hP5
                have HI5 := Lib.hid hI5
                clear hN5 hB5 hO5 hMw5 hM5 hP5 hI5 HN4 HO1 HP4 HM4 hg hmp'
                clear HCV5
                go_wp2_with fail
                refine wp_region_noPanic ?_
                refine wp_region_held_drew (S := fun _ => True) (by kernel_rfl) trivial (fun hHeld => ?_)
                refine wpAnyH_take (i := 0) (v := ?_) rfl (by kernel_rfl) (by kernel_rfl) (by kernel_rfl) (fun _ _ _ h => h) (Or.inl ⟨by rfl, ?_⟩) (by assumption) ?_; rotate_left; focus (intro wS hSw; (try dsimp only at hSw); first | (go_simp; done) | (go_simp; with_reducible rfl))
                simp only [List.getElem_toArray, List.getElem_cons_zero, Act.put, List.setIfInBounds_toArray, List.set_cons_zero, List.set_cons_succ]
                refine wpAnyH_take (i := 1) (v := ?_) rfl (by kernel_rfl) (by kernel_rfl) (by kernel_rfl) (fun _ _ _ h => h) (Or.inl ⟨by rfl, ?_⟩) (by assumption) ?_; rotate_left; focus (intro wS hSw; (try dsimp only at hSw); first | (go_simp; done) | (go_simp; with_reducible rfl))
                simp only [List.getElem_toArray, List.getElem_cons_succ, List.getElem_cons_zero, Act.put, List.setIfInBounds_toArray, List.set_cons_zero, List.set_cons_succ]
                refine wpAnyH_take (i := 2) (v := ?_) rfl (by kernel_rfl) (by kernel_rfl) (by kernel_rfl) (fun _ _ _ h => h) (Or.inl ⟨by rfl, ?_⟩) (by assumption) ?_; rotate_left; focus (intro wS hSw; (try dsimp only at hSw); first | (go_simp; done) | (go_simp; with_reducible rfl))
                simp only [List.getElem_toArray, List.getElem_cons_succ, List.getElem_cons_zero, Act.put, List.setIfInBounds_toArray, List.set_cons_zero, List.set_cons_succ]
                refine wpAnyH_take (i := 3) (v := ?_) rfl (by kernel_rfl) (by kernel_rfl) (by kernel_rfl) (fun _ _ _ h => h) (Or.inl ⟨by rfl, ?_⟩) (by assumption) ?_; rotate_left; focus (intro wS hSw; (try dsimp only at hSw); first | (go_simp; done) | (go_simp; with_reducible rfl))
                simp only [List.getElem_toArray, List.getElem_cons_succ, List.getElem_cons_zero, Act.put, List.setIfInBounds_toArray, List.set_cons_zero, List.set_cons_succ]
                refine wpAnyH_take (i := 4) (v := ?_) rfl (by kernel_rfl) (by kernel_rfl) (by kernel_rfl) (fun _ _ _ h => h) (Or.inl ⟨by rfl, ?_⟩) (by assumption) ?_; rotate_left; focus (intro wS hSw; (try dsimp only at hSw); first | (go_simp; done) | (go_simp; with_reducible rfl))
                simp only [List.getElem_toArray, List.getElem_cons_succ, List.getElem_cons_zero, Act.put, List.setIfInBounds_toArray, List.set_cons_zero, List.set_cons_succ]
                refine wpAnyH_take (i := 5) (v := ?_) rfl (by kernel_rfl) (by kernel_rfl) (by kernel_rfl) (fun _ _ _ h => h) (Or.inl ⟨by rfl, ?_⟩) (by assumption) ?_; rotate_left; focus (intro wS hSw; (try dsimp only at hSw); first | (go_simp; done) | (go_simp; with_reducible rfl))
                simp only [List.getElem_toArray, List.getElem_cons_succ, List.getElem_cons_zero, Act.put, List.setIfInBounds_toArray, List.set_cons_zero, List.set_cons_succ]
                refine wpAnyH_take (i := 6) (v := undef) rfl (by kernel_rfl) (by kernel_rfl) (by kernel_rfl) (fun _ _ _ h => h) (Or.inr ⟨by rfl, rfl⟩) (by assumption) ?_
                simp only [List.getElem_toArray, List.getElem_cons_succ, List.getElem_cons_zero, Act.put, List.setIfInBounds_toArray, List.set_cons_zero, List.set_cons_succ]
                refine wpAnyH_take (i := 8) (v := undef) rfl (by kernel_rfl) (by kernel_rfl) (by kernel_rfl) (fun _ _ _ h => h) (Or.inr ⟨by rfl, rfl⟩) (by assumption) ?_
                simp only [List.getElem_toArray, List.getElem_cons_succ, List.getElem_cons_zero, Act.put, List.setIfInBounds_toArray, List.set_cons_zero, List.set_cons_succ]
                refine wpAnyH_ready (rs := [7]) (by kernel_rfl) (by simp) ?_
                refine AllReadyH.cons rfl (fun K hK => ?_) AllReadyH.nil
                go_simp
                refine hK.out _ _ ?_ (fun hHeld => ?_)
                · trivial
                clear hK K
                refine wpAnyH_take (i := 9) (v := undef) rfl (by kernel_rfl) (by kernel_rfl) (by kernel_rfl) (fun _ _ _ h => h) (Or.inr ⟨by rfl, rfl⟩) (by assumption) ?_
                simp only [List.getElem_toArray, List.getElem_cons_succ, List.getElem_cons_zero, Act.put, List.setIfInBounds_toArray, List.set_cons_zero, List.set_cons_succ]
                refine wpAnyH_take (i := 10) (v := undef) rfl (by kernel_rfl) (by kernel_rfl) (by kernel_rfl) (fun _ _ _ h => h) (Or.inr ⟨by rfl, rfl⟩) (by assumption) ?_
                simp only [List.getElem_toArray, List.getElem_cons_succ, List.getElem_cons_zero, Act.put, List.setIfInBounds_toArray, List.set_cons_zero, List.set_cons_succ]
                refine wpAnyH_take (i := 11) (v := undef) rfl (by kernel_rfl) (by kernel_rfl) (by kernel_rfl) (fun _ _ _ h => h) (Or.inr ⟨by rfl, rfl⟩) (by assumption) ?_
                simp only [List.getElem_toArray, List.getElem_cons_succ, List.getElem_cons_zero, Act.put, List.setIfInBounds_toArray, List.set_cons_zero, List.set_cons_succ]
                refine wpAnyH_take (i := 14) (v := undef) rfl (by kernel_rfl) (by kernel_rfl) (by kernel_rfl) (fun _ _ _ h => h) (Or.inr ⟨by rfl, rfl⟩) (by assumption) ?_
                simp only [List.getElem_toArray, List.getElem_cons_succ, List.getElem_cons_zero, Act.put, List.setIfInBounds_toArray, List.set_cons_zero, List.set_cons_succ]
                refine wpAnyH_take (i := 15) (v := undef) rfl (by kernel_rfl) (by kernel_rfl) (by kernel_rfl) (fun _ _ _ h => h) (Or.inr ⟨by rfl, rfl⟩) (by assumption) ?_
                simp only [List.getElem_toArray, List.getElem_cons_succ, List.getElem_cons_zero, Act.put, List.setIfInBounds_toArray, List.set_cons_zero, List.set_cons_succ]
                refine wpAnyH_ready (rs := [12]) (by kernel_rfl) (by simp) ?_
                refine AllReadyH.cons rfl (fun K hK => ?_) AllReadyH.nil
                go_simp
                refine hK.out _ _ ?_ (fun hHeld => ?_)
                · trivial
                clear hK K
                refine wpAnyH_take (i := 13) (v := undef) rfl (by kernel_rfl) (by kernel_rfl) (by kernel_rfl) (fun _ _ _ h => h) (Or.inr ⟨by rfl, rfl⟩) (by assumption) ?_
                simp only [List.getElem_toArray, List.getElem_cons_succ, List.getElem_cons_zero, Act.put, List.setIfInBounds_toArray, List.set_cons_zero, List.set_cons_succ]
                refine wpAnyH_take (i := 16) (v := undef) rfl (by kernel_rfl) (by kernel_rfl) (by kernel_rfl) (fun _ _ _ h => h) (Or.inr ⟨by rfl, rfl⟩) (by assumption) ?_
                simp only [List.getElem_toArray, List.getElem_cons_succ, List.getElem_cons_zero, Act.put, List.setIfInBounds_toArray, List.set_cons_zero, List.set_cons_succ]
                refine wpAnyH_take (i := 17) (v := undef) rfl (by kernel_rfl) (by kernel_rfl) (by kernel_rfl) (fun _ _ _ h => h) (Or.inr ⟨by rfl, rfl⟩) (by assumption) ?_
                simp only [List.getElem_toArray, List.getElem_cons_succ, List.getElem_cons_zero, Act.put, List.setIfInBounds_toArray, List.set_cons_zero, List.set_cons_succ]
                refine wpAnyH_take (i := 18) (v := undef) rfl (by kernel_rfl) (by kernel_rfl) (by kernel_rfl) (fun _ _ _ h => h) (Or.inr ⟨by rfl, rfl⟩) (by assumption) ?_
                simp only [List.getElem_toArray, List.getElem_cons_succ, List.getElem_cons_zero, Act.put, List.setIfInBounds_toArray, List.set_cons_zero, List.set_cons_succ]
                refine wpAnyH_take (i := 19) (v := undef) rfl (by kernel_rfl) (by kernel_rfl) (by kernel_rfl) (fun _ _ _ h => h) (Or.inr ⟨by rfl, rfl⟩) (by assumption) ?_
                simp only [List.getElem_toArray, List.getElem_cons_succ, List.getElem_cons_zero, Act.put, List.setIfInBounds_toArray, List.set_cons_zero, List.set_cons_succ]
                refine wpAnyH_take (i := 20) (v := undef) rfl (by kernel_rfl) (by kernel_rfl) (by kernel_rfl) (fun _ _ _ h => h) (Or.inr ⟨by rfl, rfl⟩) (by assumption) ?_
                simp only [List.getElem_toArray, List.getElem_cons_succ, List.getElem_cons_zero, Act.put, List.setIfInBounds_toArray, List.set_cons_zero, List.set_cons_succ]
                refine wpAnyH_take (i := 21) (v := undef) rfl (by kernel_rfl) (by kernel_rfl) (by kernel_rfl) (fun _ _ _ h => h) (Or.inr ⟨by rfl, rfl⟩) (by assumption) ?_
                simp only [List.getElem_toArray, List.getElem_cons_succ, List.getElem_cons_zero, Act.put, List.setIfInBounds_toArray, List.set_cons_zero, List.set_cons_succ]
                refine wpAnyH_take (i := 23) (v := undef) rfl (by kernel_rfl) (by kernel_rfl) (by kernel_rfl) (fun _ _ _ h => h) (Or.inr ⟨by rfl, rfl⟩) (by assumption) ?_
                simp only [List.getElem_toArray, List.getElem_cons_succ, List.getElem_cons_zero, Act.put, List.setIfInBounds_toArray, List.set_cons_zero, List.set_cons_succ]
                refine wpAnyH_ready (rs := [22]) (by kernel_rfl) (by simp) ?_
                refine AllReadyH.cons rfl (fun K hK => ?_) AllReadyH.nil
                go_simp
                refine hK.out _ _ ?_ (fun hHeld => ?_)
                · trivial
                clear hK K
                refine wpAnyH_take (i := 24) (v := undef) rfl (by kernel_rfl) (by kernel_rfl) (by kernel_rfl) (fun _ _ _ h => h) (Or.inr ⟨by rfl, rfl⟩) (by assumption) ?_
                simp only [List.getElem_toArray, List.getElem_cons_succ, List.getElem_cons_zero, Act.put, List.setIfInBounds_toArray, List.set_cons_zero, List.set_cons_succ]
                refine wpAnyH_take (i := 25) (v := undef) rfl (by kernel_rfl) (by kernel_rfl) (by kernel_rfl) (fun _ _ _ h => h) (Or.inr ⟨by rfl, rfl⟩) (by assumption) ?_
                simp only [List.getElem_toArray, List.getElem_cons_succ, List.getElem_cons_zero, Act.put, List.setIfInBounds_toArray, List.set_cons_zero, List.set_cons_succ]
                refine wpAnyH_take (i := 26) (v := ?_) rfl (by kernel_rfl) (by kernel_rfl) (by kernel_rfl) (fun _ _ _ h => h) (Or.inl ⟨by rfl, ?_⟩) (by assumption) ?_; rotate_left; focus (intro wS hSw; (try dsimp only at hSw); first | (go_simp; done) | (go_simp; with_reducible rfl))
                simp only [List.getElem_toArray, List.getElem_cons_succ, List.getElem_cons_zero, Act.put, List.setIfInBounds_toArray, List.set_cons_zero, List.set_cons_succ]
                refine wpAnyH_done (by kernel_rfl) ?_ _
                refine NoPanic.normal ?_
                by_cases hpp : g'.phase = g.phase
                · have HPP := Lib.hid hpp
                  have HAN := Lib.hid (hmoves.resolve_left (fun h => h hpp))
                  clear hmoves hpp
                  go_wp2_with (first
                    | (go_at_call 14; refine (HS5.out.hp _ (Mod.refl _ _).drew).mono ?_; rw [HPP.out]; rintro e6 w6 ⟨rfl, rfl⟩)
                    | (go_at_call 15; refine (HS5.out.ha _ frm (Mod.refl _ _).drew).mono ?_; rw [HAN.out]; rintro e8 w8 ⟨rfl, hm8⟩; have mE := (Mod.refl [] w5).drew.trans hm8)
                    | fail)
                  go_roundw
                  case rel => exact LateRel.mk (k + 1) mp' g' ⟨by omega, by go_num, HI5.out, HP5.out.below mE, hmp5, HB5.out.mod mE (by simp), HMW.out.trans mE⟩
                  case measure => simp [intOf]; omega
                · have hq : (g'.phase == g.phase) = false := beq_eq_false_iff_ne.2 hpp
                  clear hmoves hpp
                  go_wp2_with (first
                    | (go_at_call 14; refine (HS5.out.hp _ (Mod.refl _ _).drew).mono ?_; rintro e6 w6 ⟨rfl, rfl⟩)
                    | fail)
                  have mE := (Mod.refl [] w5).drew
                  go_roundw
                  case rel => exact LateRel.mk (k + 1) mp' g' ⟨by omega, by go_num, HI5.out, HP5.out.below mE, hmp5, HB5.out.mod mE (by simp), HMW.out.trans mE⟩
                  case measure => simp [intOf]; omega
            · have HSTILL := Lib.hid (show ¬ (g.phase = 1 ∧ gAsked g frm = true) from fun hh => hK hh.1)
              have k1 : (g.phase != 1) = true := by simpa using hK
              clear hA hK
              go_region_held3 (fun w' => w'.cell? ⟨N, 1, none⟩ = some (.int .i64 frm)) (first | exact n1 | exact n1b)
                (first | (go_at_call 14; (first | refine (HSAY.out.hp _ (Mod.refl _ _).drew).mono ?_ | refine (HSAY.out.hp _ mB).mono ?_); rintro e2 w2' ⟨rfl, rfl⟩) | (go_at_call 15; refine (HSAY.out.ha _ frm (Mod.refl _ _).drew).mono ?_; rw [HA.out]; rintro e3 w3 ⟨rfl, hm3⟩; have mB := (Mod.refl [] W).drew.trans hm3; have n1b : w3.cell? ⟨N, 1, none⟩ = some (.int .i64 frm) := (HNC.out.mod mB (by simp)).cell 1))
              all_goals
                rename_i hheld
                clear hheld
                clear n0 n1 n2 n1b
                have m3 := HW.out.trans mB
                have HS3 := Lib.hid ((HPr.out.below m3).says HIr.out.ok.vb)
                have hN3 := HNC.out.mod mB (by simp)
                have c0 : w3.cell? ⟨N, 0, none⟩ = some (.int .i64 1) := hN3.cell 0
                have HN3 := Lib.hid hN3
                have HM3 := Lib.hid m3
                clear hN3 m3 mB hm3
                go_wp2_with fail
                refine (HS3.out.hv _ (Mod.refl _ _)).mono ?_
                rintro e4 w4 ⟨s1, rfl, ho1, hm4⟩
                clear c0
                have hN4 := HN3.out.mod hm4 (by simp)
                have c0 : w4.cell? ⟨N, 0, none⟩ = some (.int .i64 1) := hN4.cell 0
                have c1 : w4.cell? ⟨N, 1, none⟩ = some (.int .i64 frm) := hN4.cell 1
                have c3 : w4.cell? ⟨N, 3, none⟩ = some (.int .i64 r) := hN4.cell 3
                have c4 : w4.cell? ⟨N, 4, none⟩ = some (.int .i64 q) := hN4.cell 4
                have c5 : w4.cell? ⟨N, 5, none⟩ = some (.slice s.a s.len s.cap) := hN4.cell 5
                have HM4 := Lib.hid (HM3.out.trans hm4)
                have HP4 := Lib.hid (HPr.out.below HM4.out)
                have HN4 := Lib.hid hN4
                have HO1 := Lib.hid ho1
                clear hN4 hm4 ho1 HS3 HN3 HM3
                go_wp2_with fail
                refine (promised_rep b mp g frm r q s l 0 w4 HP4.out HIr.out.ok (HRD.out.below HM4.out) hsb).mono ?_
                rintro e5 w5 ⟨rfl, g', mp', hg, hmp', hP5, hM5⟩
                have hI5 := HIr.out.prom (by omega) (by rw [HRD.out.len]; exact hsb) hg
                have hmp5 : w.heap.size < mp' := by have := HMr.out.size; have := HM4.out.size; rcases hmp' with h | h <;> omega
                obtain rfl : g' = g := prom_still (fun hh => HSTILL.out hh) hg
                clear c0 c1 c3 c4 c5
                have hN5 := HN4.out.mod hM5 (by simp; omega)
                have hB5 : Cel w5 w.heap.size lt.cells 54 := (HBr.out.mod HM4.out (by simp)).mod hM5 (by simp; omega)
                have hO5 := HO1.out.mod hM5 HP4.out.noBytes
                have hMw5 : Mod [] w w5 := (HMr.out.trans HM4.out).then hM5 (by simp; omega)
                have c0 : w5.cell? ⟨N, 0, none⟩ = some (.int .i64 1) := hN5.cell 0
                have c1 : w5.cell? ⟨N, 1, none⟩ = some (.int .i64 frm) := hN5.cell 1
                have HS5 := Lib.hid (hP5.says hI5.ok.vb)
                have HCV5 := Lib.hid (fun (X : World) (hX : Mod [] w5 X) => conv8 (hO5.below hX).rd)
                have HN5 := Lib.hid hN5
                have HB5 := Lib.hid hB5
                have HMW := Lib.hid hMw5
                have HP5 := Lib.hid hP5
                have HI5 := Lib.hid hI5
                clear hN5 hB5 hO5 hMw5 hM5 hP5 hI5 HN4 HO1 HP4 HM4 hg hmp'
                have hcv1 := HCV5.out _ (Mod.refl [] w5).drew
                go_wp2_with fail
                refine wp_region_noPanic ?_
                refine wp_region_held_drew (S := (fun X => X.cell? ⟨N, 1, none⟩ = some (.int .i64 frm) ∧ (convert 26 9 (.slice s1.a s1.len s1.cap)).run Try.prog X = .ok (.string ⟨g'.vb.toArray⟩) X)) (by kernel_rfl) ⟨c1, hcv1⟩ (fun hHeld => ?_)
                refine wpAnyH_take (i := 0) (v := ?_) rfl (by kernel_rfl) (by kernel_rfl) (by kernel_rfl) (fun _ _ _ h => h) (Or.inl ⟨by rfl, ?_⟩) (by assumption) ?_; rotate_left; focus (intro wS hSw; (try dsimp only at hSw); first | (go_simp; done) | (go_simp; with_reducible rfl))
                simp only [List.getElem_toArray, List.getElem_cons_zero, Act.put, List.setIfInBounds_toArray, List.set_cons_zero, List.set_cons_succ]
                refine wpAnyH_take (i := 1) (v := ?_) rfl (by kernel_rfl) (by kernel_rfl) (by kernel_rfl) (fun _ _ _ h => h) (Or.inl ⟨by rfl, ?_⟩) (by assumption) ?_; rotate_left; focus (intro wS hSw; (try dsimp only at hSw); first | (go_simp; done) | (go_simp; with_reducible rfl))
                simp only [List.getElem_toArray, List.getElem_cons_succ, List.getElem_cons_zero, Act.put, List.setIfInBounds_toArray, List.set_cons_zero, List.set_cons_succ]
                refine wpAnyH_take (i := 2) (v := ?_) rfl (by kernel_rfl) (by kernel_rfl) (by kernel_rfl) (fun _ _ _ h => h) (Or.inl ⟨by rfl, ?_⟩) (by assumption) ?_; rotate_left; focus (intro wS hSw; (try dsimp only at hSw); first | (go_simp; done) | (go_simp; with_reducible rfl))
                simp only [List.getElem_toArray, List.getElem_cons_succ, List.getElem_cons_zero, Act.put, List.setIfInBounds_toArray, List.set_cons_zero, List.set_cons_succ]
                refine wpAnyH_take (i := 3) (v := ?_) rfl (by kernel_rfl) (by kernel_rfl) (by kernel_rfl) (fun _ _ _ h => h) (Or.inl ⟨by rfl, ?_⟩) (by assumption) ?_; rotate_left; focus (intro wS hSw; (try dsimp only at hSw); first | (go_simp; done) | (go_simp; with_reducible rfl))
                simp only [List.getElem_toArray, List.getElem_cons_succ, List.getElem_cons_zero, Act.put, List.setIfInBounds_toArray, List.set_cons_zero, List.set_cons_succ]
                refine wpAnyH_take (i := 4) (v := ?_) rfl (by kernel_rfl) (by kernel_rfl) (by kernel_rfl) (fun _ _ _ h => h) (Or.inl ⟨by rfl, ?_⟩) (by assumption) ?_; rotate_left; focus (intro wS hSw; (try dsimp only at hSw); first | (go_simp; done) | (go_simp; with_reducible rfl))
                simp only [List.getElem_toArray, List.getElem_cons_succ, List.getElem_cons_zero, Act.put, List.setIfInBounds_toArray, List.set_cons_zero, List.set_cons_succ]
                refine wpAnyH_take (i := 5) (v := ?_) rfl (by kernel_rfl) (by kernel_rfl) (by kernel_rfl) (fun _ _ _ h => h) (Or.inl ⟨by rfl, ?_⟩) (by assumption) ?_; rotate_left; focus (intro wS hSw; (try dsimp only at hSw); first | (go_simp; done) | (go_simp; with_reducible rfl))
                simp only [List.getElem_toArray, List.getElem_cons_succ, List.getElem_cons_zero, Act.put, List.setIfInBounds_toArray, List.set_cons_zero, List.set_cons_succ]
                refine wpAnyH_take (i := 6) (v := ?_) rfl (by kernel_rfl) (by kernel_rfl) (by kernel_rfl) (fun _ _ _ h => h) (Or.inl ⟨by rfl, ?_⟩) (by assumption) ?_; rotate_left; focus (intro wS hSw; (try dsimp only at hSw); first | (go_simp; done) | (go_simp; with_reducible rfl))
                simp only [List.getElem_toArray, List.getElem_cons_succ, List.getElem_cons_zero, Act.put, List.setIfInBounds_toArray, List.set_cons_zero, List.set_cons_succ]
                refine wpAnyH_take (i := 8) (v := ?_) rfl (by kernel_rfl) (by kernel_rfl) (by kernel_rfl) (fun _ _ _ h => h) (Or.inl ⟨by rfl, ?_⟩) (by assumption) ?_; rotate_left; focus (intro wS hSw; (try dsimp only at hSw); first | (go_simp; done) | (go_simp; with_reducible rfl))
                simp only [List.getElem_toArray, List.getElem_cons_succ, List.getElem_cons_zero, Act.put, List.setIfInBounds_toArray, List.set_cons_zero, List.set_cons_succ]
                refine wpAnyH_ready (rs := [7]) (by kernel_rfl) (by simp) ?_
                refine AllReadyH.cons rfl (fun K hK => ?_) AllReadyH.nil
                go_simp
                go_at_call 14
                refine (HS5.out.hp _ (Mod.refl _ _).drew).mono ?_
                rintro e6 w6 ⟨rfl, rfl⟩
                refine hK.out _ _ ?_ (fun hHeld => ?_)
                · exact hHeld
                clear hK K
                refine wpAnyH_take (i := 9) (v := ?_) rfl (by kernel_rfl) (by kernel_rfl) (by kernel_rfl) (fun _ _ _ h => h) (Or.inl ⟨by rfl, ?_⟩) (by assumption) ?_; rotate_left; focus (intro wS hSw; (try dsimp only at hSw); first | (go_simp; done) | (go_simp; with_reducible rfl))
                simp only [List.getElem_toArray, List.getElem_cons_succ, List.getElem_cons_zero, Act.put, List.setIfInBounds_toArray, List.set_cons_zero, List.set_cons_succ]
                refine wpAnyH_take (i := 10) (v := ?_) rfl (by kernel_rfl) (by kernel_rfl) (by kernel_rfl) (fun _ _ _ h => h) (Or.inl ⟨by rfl, ?_⟩) (by assumption) ?_; rotate_left; focus (intro wS hSw; (try dsimp only at hSw); first | (go_simp; done) | (go_simp; with_reducible rfl))
                simp only [List.getElem_toArray, List.getElem_cons_succ, List.getElem_cons_zero, Act.put, List.setIfInBounds_toArray, List.set_cons_zero, List.set_cons_succ]
                refine wpAnyH_take (i := 11) (v := ?_) rfl (by kernel_rfl) (by kernel_rfl) (by kernel_rfl) (fun _ _ _ h => h) (Or.inl ⟨by rfl, ?_⟩) (by assumption) ?_; rotate_left; focus (intro wS hSw; (try dsimp only at hSw); first | (go_simp; done) | (go_simp; with_reducible rfl))
                simp only [List.getElem_toArray, List.getElem_cons_succ, List.getElem_cons_zero, Act.put, List.setIfInBounds_toArray, List.set_cons_zero, List.set_cons_succ]
                refine wpAnyH_take (i := 14) (v := ?_) rfl (by kernel_rfl) (by kernel_rfl) (by kernel_rfl) (fun _ _ _ h => h) (Or.inl ⟨by rfl, ?_⟩) (by assumption) ?_; rotate_left; focus (intro wS hSw; (try dsimp only at hSw); first | (go_simp; done) | (go_simp; with_reducible rfl))
                simp only [List.getElem_toArray, List.getElem_cons_succ, List.getElem_cons_zero, Act.put, List.setIfInBounds_toArray, List.set_cons_zero, List.set_cons_succ]
                refine wpAnyH_take (i := 15) (v := ?_) rfl (by kernel_rfl) (by kernel_rfl) (by kernel_rfl) (fun _ _ _ h => h) (Or.inl ⟨by rfl, ?_⟩) (by assumption) ?_; rotate_left; focus (intro wS hSw; (try dsimp only at hSw); first | (go_simp; done) | (go_simp; with_reducible rfl))
                simp only [List.getElem_toArray, List.getElem_cons_succ, List.getElem_cons_zero, Act.put, List.setIfInBounds_toArray, List.set_cons_zero, List.set_cons_succ]
                refine wpAnyH_ready (rs := [12]) (by kernel_rfl) (by simp) ?_
                refine AllReadyH.cons rfl (fun K hK => ?_) AllReadyH.nil
                go_simp
                go_at_call 18
                refine (HS5.out.hv _ (Mod.refl _ _).drew).mono ?_
                rintro e7 w7 ⟨s2, rfl, ho2, hm7⟩
                have hcv2 := conv8 ho2.rd
                have mD := (Mod.refl [] w5).drew.trans hm7
                have hcv3 := HCV5.out _ mD
                have c1b : w7.cell? ⟨N, 1, none⟩ = some (.int .i64 frm) := (HN5.out.mod mD (by simp)).cell 1
                refine hK.out _ _ ?_ (fun hHeld => ?_)
                · exact ⟨c1b, hcv3⟩
                clear hK K
                refine held_grow (S' := (fun X => (convert 26 9 (.slice s2.a s2.len s2.cap)).run Try.prog X = .ok (.string ⟨g'.vb.toArray⟩) X ∧ X.cell? ⟨N, 1, none⟩ = some (.int .i64 frm) ∧ (convert 26 9 (.slice s1.a s1.len s1.cap)).run Try.prog X = .ok (.string ⟨g'.vb.toArray⟩) X)) (fun X hX => hX.2) _ _ _ _ ?_
                have hHeld2 : (fun X => (convert 26 9 (.slice s2.a s2.len s2.cap)).run Try.prog X = .ok (.string ⟨g'.vb.toArray⟩) X ∧ X.cell? ⟨N, 1, none⟩ = some (.int .i64 frm) ∧ (convert 26 9 (.slice s1.a s1.len s1.cap)).run Try.prog X = .ok (.string ⟨g'.vb.toArray⟩) X) w7 := ⟨hcv2, c1b, hcv3⟩
                refine wpAnyH_take (i := 13) (v := ?_) rfl (by kernel_rfl) (by kernel_rfl) (by kernel_rfl) (fun _ _ _ h => h) (Or.inl ⟨by rfl, ?_⟩) (by assumption) ?_; rotate_left; focus (intro wS hSw; (try dsimp only at hSw); first | (go_simp; done) | (go_simp; with_reducible rfl))
                simp only [List.getElem_toArray, List.getElem_cons_succ, List.getElem_cons_zero, Act.put, List.setIfInBounds_toArray, List.set_cons_zero, List.set_cons_succ]
                refine wpAnyH_take (i := 16) (v := ?_) rfl (by kernel_rfl) (by kernel_rfl) (by kernel_rfl) (fun _ _ _ h => h) (Or.inl ⟨by rfl, ?_⟩) (by assumption) ?_; rotate_left; focus (intro wS hSw; (try dsimp only at hSw); first | (go_simp; done) | (go_simp; with_reducible rfl))
                simp only [List.getElem_toArray, List.getElem_cons_succ, List.getElem_cons_zero, Act.put, List.setIfInBounds_toArray, List.set_cons_zero, List.set_cons_succ]
                refine wpAnyH_take (i := 17) (v := ?_) rfl (by kernel_rfl) (by kernel_rfl) (by kernel_rfl) (fun _ _ _ h => h) (Or.inl ⟨by rfl, ?_⟩) (by assumption) ?_; rotate_left; focus (intro wS hSw; (try dsimp only at hSw); first | (go_simp; done) | (go_simp; with_reducible rfl))
                simp only [List.getElem_toArray, List.getElem_cons_succ, List.getElem_cons_zero, Act.put, List.setIfInBounds_toArray, List.set_cons_zero, List.set_cons_succ]
                refine wpAnyH_take (i := 18) (v := ?_) rfl (by kernel_rfl) (by kernel_rfl) (by kernel_rfl) (fun _ _ _ h => h) (Or.inl ⟨by rfl, ?_⟩) (by assumption) ?_; rotate_left; focus (intro wS hSw; (try dsimp only at hSw); first | (go_simp; done) | (go_simp; with_reducible rfl))
                simp only [List.getElem_toArray, List.getElem_cons_succ, List.getElem_cons_zero, Act.put, List.setIfInBounds_toArray, List.set_cons_zero, List.set_cons_succ]
                refine wpAnyH_take (i := 19) (v := ?_) rfl (by kernel_rfl) (by kernel_rfl) (by kernel_rfl) (fun _ _ _ h => h) (Or.inl ⟨by rfl, ?_⟩) (by assumption) ?_; rotate_left; focus (intro wS hSw; (try dsimp only at hSw); first | (go_simp; done) | (go_simp; with_reducible rfl))
                simp only [List.getElem_toArray, List.getElem_cons_succ, List.getElem_cons_zero, Act.put, List.setIfInBounds_toArray, List.set_cons_zero, List.set_cons_succ]
                refine wpAnyH_take (i := 20) (v := ?_) rfl (by kernel_rfl) (by kernel_rfl) (by kernel_rfl) (fun _ _ _ h => h) (Or.inl ⟨by rfl, ?_⟩) (by assumption) ?_; rotate_left; focus (intro wS hSw; (try dsimp only at hSw); first | (go_simp; done) | (go_simp; with_reducible rfl))
                simp only [List.getElem_toArray, List.getElem_cons_succ, List.getElem_cons_zero, Act.put, List.setIfInBounds_toArray, List.set_cons_zero, List.set_cons_succ]
                refine wpAnyH_take (i := 21) (v := ?_) rfl (by kernel_rfl) (by kernel_rfl) (by kernel_rfl) (fun _ _ _ h => h) (Or.inl ⟨by rfl, ?_⟩) (by assumption) ?_; rotate_left; focus (intro wS hSw; (try dsimp only at hSw); first | (go_simp; done) | (go_simp; with_reducible rfl))
                simp only [List.getElem_toArray, List.getElem_cons_succ, List.getElem_cons_zero, Act.put, List.setIfInBounds_toArray, List.set_cons_zero, List.set_cons_succ]
                refine wpAnyH_take (i := 23) (v := ?_) rfl (by kernel_rfl) (by kernel_rfl) (by kernel_rfl) (fun _ _ _ h => h) (Or.inl ⟨by rfl, ?_⟩) (by assumption) ?_; rotate_left; focus (intro wS hSw; (try dsimp only at hSw); first | (go_simp; done) | (go_simp; with_reducible rfl))
                simp only [List.getElem_toArray, List.getElem_cons_succ, List.getElem_cons_zero, Act.put, List.setIfInBounds_toArray, List.set_cons_zero, List.set_cons_succ]
                refine wpAnyH_ready (rs := [22]) (by kernel_rfl) (by simp) ?_
                refine AllReadyH.cons rfl (fun K hK => ?_) AllReadyH.nil
                go_simp
                go_at_call 15
                refine (HS5.out.ha _ frm mD).mono ?_
                rw [HA.out]
                rintro e8 w8 ⟨rfl, hm8⟩
                have mE := mD.trans hm8
                refine hK.out _ _ ?_ (fun hHeld => ?_)
                · exact ⟨conv8 (ho2.below hm8).rd, (HN5.out.mod mE (by simp)).cell 1, HCV5.out _ mE⟩
                clear hK K
                refine wpAnyH_take (i := 24) (v := ?_) rfl (by kernel_rfl) (by kernel_rfl) (by kernel_rfl) (fun _ _ _ h => h) (Or.inl ⟨by rfl, ?_⟩) (by assumption) ?_; rotate_left; focus (intro wS hSw; (try dsimp only at hSw); first | (go_simp; done) | (go_simp; with_reducible rfl))
                simp only [List.getElem_toArray, List.getElem_cons_succ, List.getElem_cons_zero, Act.put, List.setIfInBounds_toArray, List.set_cons_zero, List.set_cons_succ]
                refine wpAnyH_take (i := 25) (v := ?_) rfl (by kernel_rfl) (by kernel_rfl) (by kernel_rfl) (fun _ _ _ h => h) (Or.inl ⟨by rfl, ?_⟩) (by assumption) ?_; rotate_left; focus (intro wS hSw; (try dsimp only at hSw); first | (go_simp; done) | (go_simp; with_reducible rfl))
                simp only [List.getElem_toArray, List.getElem_cons_succ, List.getElem_cons_zero, Act.put, List.setIfInBounds_toArray, List.set_cons_zero, List.set_cons_succ]
                refine wpAnyH_take (i := 26) (v := ?_) rfl (by kernel_rfl) (by kernel_rfl) (by kernel_rfl) (fun _ _ _ h => h) (Or.inl ⟨by rfl, ?_⟩) (by assumption) ?_; rotate_left; focus (intro wS hSw; (try dsimp only at hSw); first | (go_simp; done) | (go_simp; with_reducible rfl))
                simp only [List.getElem_toArray, List.getElem_cons_succ, List.getElem_cons_zero, Act.put, List.setIfInBounds_toArray, List.set_cons_zero, List.set_cons_succ]
                refine wpAnyH_done (by kernel_rfl) ?_ _
                refine NoPanic.normal ?_
                go_wp2
                go_roundw
                case rel => exact LateRel.mk (k + 1) mp' g' ⟨by omega, by go_num, HI5.out, HP5.out.below mE, hmp5, HB5.out.mod mE (by simp), HMW.out.trans mE⟩
                case measure => simp [intOf]; omega
        · have p1 : (ph == 1) = false := beq_eq_false_iff_ne.2 hph
          have p2 : (ph != 1) = true := by simpa using hph
          clear hph
          cases hA : gAsked g frm with
          | false =>
            have HA := Lib.hid hA
            by_cases hK : g.phase = 2
            · have HSTILL := Lib.hid (show ¬ (g.phase = 2 ∧ gAsked g frm = true) from fun hh => by rw [hA] at hh; cases hh.2)
              have k1 : (g.phase != 2) = false := by rw [hK]; rfl
              clear hA hK
              go_region_held3 (fun w' => w'.cell? ⟨N, 1, none⟩ = some (.int .i64 frm)) (first | exact n1 | exact n1b)
                (first | (go_at_call 14; (first | refine (HSAY.out.hp _ (Mod.refl _ _).drew).mono ?_ | refine (HSAY.out.hp _ mB).mono ?_); rintro e2 w2' ⟨rfl, rfl⟩) | (go_at_call 15; refine (HSAY.out.ha _ frm (Mod.refl _ _).drew).mono ?_; rw [HA.out]; rintro e3 w3 ⟨rfl, hm3⟩; have mB := (Mod.refl [] W).drew.trans hm3; have n1b : w3.cell? ⟨N, 1, none⟩ = some (.int .i64 frm) := (HNC.out.mod mB (by simp)).cell 1))
              all_goals
                rename_i hheld
                clear hheld
                clear n0 n1 n2 n1b
                have m3 := HW.out.trans mB
                have HS3 := Lib.hid ((HPr.out.below m3).says HIr.out.ok.vb)
                have hN3 := HNC.out.mod mB (by simp)
                have c0 : w3.cell? ⟨N, 0, none⟩ = some (.int .i64 ph) := hN3.cell 0
                have HN3 := Lib.hid hN3
                have HM3 := Lib.hid m3
                clear hN3 m3 mB hm3
                go_wp2_with fail
                refine (HS3.out.hv _ (Mod.refl _ _)).mono ?_
                rintro e4 w4 ⟨s1, rfl, ho1, hm4⟩
                clear c0
                have hN4 := HN3.out.mod hm4 (by simp)
                have c0 : w4.cell? ⟨N, 0, none⟩ = some (.int .i64 ph) := hN4.cell 0
                have c1 : w4.cell? ⟨N, 1, none⟩ = some (.int .i64 frm) := hN4.cell 1
                have c3 : w4.cell? ⟨N, 3, none⟩ = some (.int .i64 r) := hN4.cell 3
                have c4 : w4.cell? ⟨N, 4, none⟩ = some (.int .i64 q) := hN4.cell 4
                have c5 : w4.cell? ⟨N, 5, none⟩ = some (.slice s.a s.len s.cap) := hN4.cell 5
                have HM4 := Lib.hid (HM3.out.trans hm4)
                have HP4 := Lib.hid (HPr.out.below HM4.out)
                have HN4 := Lib.hid hN4
                have HO1 := Lib.hid ho1
                clear hN4 hm4 ho1 HS3 HN3 HM3
                go_wp2_with fail
                refine (accepted_rep b mp g frm 0 w4 HP4.out HIr.out.ok).mono ?_
                rintro e5 w5 ⟨rfl, hP5, hM5⟩
                have hI5 := HIr.out.acpt (f := frm) (e := 0) (by omega)
                have hmp5 : w.heap.size < mp := hmw
                obtain ⟨mp', hmp'⟩ : ∃ mp', mp' = mp := ⟨_, rfl⟩
                obtain ⟨g', hg⟩ : ∃ g', g' = gAccepted g frm 0 := ⟨_, rfl⟩
                rw [← hg, ← hmp'] at hP5
                rw [← hg] at hI5
                rw [← hmp'] at hmp5
                obtain rfl : g' = g := hg.trans (acpt_still (fun hh => HSTILL.out hh))
                clear c0 c1 c3 c4 c5
                have hN5 := HN4.out.mod hM5 (by simp; omega)
                have hB5 : Cel w5 w.heap.size lt.cells 54 := (HBr.out.mod HM4.out (by simp)).mod hM5 (by simp; omega)
                have hO5 := HO1.out.mod hM5 HP4.out.noBytes
                have hMw5 : Mod [] w w5 := (HMr.out.trans HM4.out).then hM5 (by simp; omega)
                have c0 : w5.cell? ⟨N, 0, none⟩ = some (.int .i64 ph) := hN5.cell 0
                have c1 : w5.cell? ⟨N, 1, none⟩ = some (.int .i64 frm) := hN5.cell 1
                have HS5 := Lib.hid (hP5.says hI5.ok.vb)
                have HCV5 := Lib.hid (fun (X : World) (hX : Mod [] w5 X) => conv8 (hO5.below hX).rd)
                have HN5 := Lib.hid hN5
                have HB5 := Lib.hid hB5
                have HMW := Lib.hid hMw5
                have HP5 := Lib.hid hP5
                have HI5 := Lib.hid hI5
                clear hN5 hB5 hO5 hMw5 hM5 hP5 hI5 HN4 HO1 HP4 HM4 hg hmp'
                have hcv1 := HCV5.out _ (Mod.refl [] w5).drew
                go_wp2_with fail
                refine wp_region_noPanic ?_
                refine wp_region_held_drew (S := (fun X => X.cell? ⟨N, 1, none⟩ = some (.int .i64 frm) ∧ (convert 26 9 (.slice s1.a s1.len s1.cap)).run Try.prog X = .ok (.string ⟨g'.vb.toArray⟩) X)) (by kernel_rfl) ⟨c1, hcv1⟩ (fun hHeld => ?_)
                refine wpAnyH_take (i := 0) (v := ?_) rfl (by kernel_rfl) (by kernel_rfl) (by kernel_rfl) (fun _ _ _ h => h) (Or.inl ⟨by rfl, ?_⟩) (by assumption) ?_; rotate_left; focus (intro wS hSw; (try dsimp only at hSw); first | (go_simp; done) | (go_simp; with_reducible rfl))
                simp only [List.getElem_toArray, List.getElem_cons_zero, Act.put, List.setIfInBounds_toArray, List.set_cons_zero, List.set_cons_succ]
                refine wpAnyH_take (i := 1) (v := ?_) rfl (by kernel_rfl) (by kernel_rfl) (by kernel_rfl) (fun _ _ _ h => h) (Or.inl ⟨by rfl, ?_⟩) (by assumption) ?_; rotate_left; focus (intro wS hSw; (try dsimp only at hSw); first | (go_simp; done) | (go_simp; with_reducible rfl))
                simp only [List.getElem_toArray, List.getElem_cons_succ, List.getElem_cons_zero, Act.put, List.setIfInBounds_toArray, List.set_cons_zero, List.set_cons_succ]
                refine wpAnyH_take (i := 2) (v := ?_) rfl (by kernel_rfl) (by kernel_rfl) (by kernel_rfl) (fun _ _ _ h => h) (Or.inl ⟨by rfl, ?_⟩) (by assumption) ?_; rotate_left; focus (intro wS hSw; (try dsimp only at hSw); first | (go_simp; done) | (go_simp; with_reducible rfl))
                simp only [List.getElem_toArray, List.getElem_cons_succ, List.getElem_cons_zero, Act.put, List.setIfInBounds_toArray, List.set_cons_zero, List.set_cons_succ]
                refine wpAnyH_take (i := 3) (v := undef) rfl (by kernel_rfl) (by kernel_rfl) (by kernel_rfl) (fun _ _ _ h => h) (Or.inr ⟨by rfl, rfl⟩) (by assumption) ?_
                simp only [List.getElem_toArray, List.getElem_cons_succ, List.getElem_cons_zero, Act.put, List.setIfInBounds_toArray, List.set_cons_zero, List.set_cons_succ]
                refine wpAnyH_take (i := 4) (v := ?_) rfl (by kernel_rfl) (by kernel_rfl) (by kernel_rfl) (fun _ _ _ h => h) (Or.inl ⟨by rfl, ?_⟩) (by assumption) ?_; rotate_left; focus (intro wS hSw; (try dsimp only at hSw); first | (go_simp; done) | (go_simp; with_reducible rfl))
                simp only [List.getElem_toArray, List.getElem_cons_succ, List.getElem_cons_zero, Act.put, List.setIfInBounds_toArray, List.set_cons_zero, List.set_cons_succ]
                refine wpAnyH_take (i := 5) (v := ?_) rfl (by kernel_rfl) (by kernel_rfl) (by kernel_rfl) (fun _ _ _ h => h) (Or.inl ⟨by rfl, ?_⟩) (by assumption) ?_; rotate_left; focus (intro wS hSw; (try dsimp only at hSw); first | (go_simp; done) | (go_simp; with_reducible rfl))
                simp only [List.getElem_toArray, List.getElem_cons_succ, List.getElem_cons_zero, Act.put, List.setIfInBounds_toArray, List.set_cons_zero, List.set_cons_succ]
                refine wpAnyH_take (i := 6) (v := ?_) rfl (by kernel_rfl) (by kernel_rfl) (by kernel_rfl) (fun _ _ _ h => h) (Or.inl ⟨by rfl, ?_⟩) (by assumption) ?_; rotate_left; focus (intro wS hSw; (try dsimp only at hSw); first | (go_simp; done) | (go_simp; with_reducible rfl))
                simp only [List.getElem_toArray, List.getElem_cons_succ, List.getElem_cons_zero, Act.put, List.setIfInBounds_toArray, List.set_cons_zero, List.set_cons_succ]
                refine wpAnyH_take (i := 8) (v := ?_) rfl (by kernel_rfl) (by kernel_rfl) (by kernel_rfl) (fun _ _ _ h => h) (Or.inl ⟨by rfl, ?_⟩) (by assumption) ?_; rotate_left; focus (intro wS hSw; (try dsimp only at hSw); first | (go_simp; done) | (go_simp; with_reducible rfl))
                simp only [List.getElem_toArray, List.getElem_cons_succ, List.getElem_cons_zero, Act.put, List.setIfInBounds_toArray, List.set_cons_zero, List.set_cons_succ]
                refine wpAnyH_ready (rs := [7]) (by kernel_rfl) (by simp) ?_
                refine AllReadyH.cons rfl (fun K hK => ?_) AllReadyH.nil
                go_simp
                go_at_call 14
                refine (HS5.out.hp _ (Mod.refl _ _).drew).mono ?_
                rintro e6 w6 ⟨rfl, rfl⟩
                refine hK.out _ _ ?_ (fun hHeld => ?_)
                · exact hHeld
                clear hK K
                refine wpAnyH_take (i := 9) (v := ?_) rfl (by kernel_rfl) (by kernel_rfl) (by kernel_rfl) (fun _ _ _ h => h) (Or.inl ⟨by rfl, ?_⟩) (by assumption) ?_; rotate_left; focus (intro wS hSw; (try dsimp only at hSw); first | (go_simp; done) | (go_simp; with_reducible rfl))
                simp only [List.getElem_toArray, List.getElem_cons_succ, List.getElem_cons_zero, Act.put, List.setIfInBounds_toArray, List.set_cons_zero, List.set_cons_succ]
                refine wpAnyH_take (i := 10) (v := ?_) rfl (by kernel_rfl) (by kernel_rfl) (by kernel_rfl) (fun _ _ _ h => h) (Or.inl ⟨by rfl, ?_⟩) (by assumption) ?_; rotate_left; focus (intro wS hSw; (try dsimp only at hSw); first | (go_simp; done) | (go_simp; with_reducible rfl))
                simp only [List.getElem_toArray, List.getElem_cons_succ, List.getElem_cons_zero, Act.put, List.setIfInBounds_toArray, List.set_cons_zero, List.set_cons_succ]
                refine wpAnyH_take (i := 11) (v := ?_) rfl (by kernel_rfl) (by kernel_rfl) (by kernel_rfl) (fun _ _ _ h => h) (Or.inl ⟨by rfl, ?_⟩) (by assumption) ?_; rotate_left; focus (intro wS hSw; (try dsimp only at hSw); first | (go_simp; done) | (go_simp; with_reducible rfl))
                simp only [List.getElem_toArray, List.getElem_cons_succ, List.getElem_cons_zero, Act.put, List.setIfInBounds_toArray, List.set_cons_zero, List.set_cons_succ]
                refine wpAnyH_take (i := 14) (v := ?_) rfl (by kernel_rfl) (by kernel_rfl) (by kernel_rfl) (fun _ _ _ h => h) (Or.inl ⟨by rfl, ?_⟩) (by assumption) ?_; rotate_left; focus (intro wS hSw; (try dsimp only at hSw); first | (go_simp; done) | (go_simp; with_reducible rfl))
                simp only [List.getElem_toArray, List.getElem_cons_succ, List.getElem_cons_zero, Act.put, List.setIfInBounds_toArray, List.set_cons_zero, List.set_cons_succ]
                refine wpAnyH_take (i := 15) (v := ?_) rfl (by kernel_rfl) (by kernel_rfl) (by kernel_rfl) (fun _ _ _ h => h) (Or.inl ⟨by rfl, ?_⟩) (by assumption) ?_; rotate_left; focus (intro wS hSw; (try dsimp only at hSw); first | (go_simp; done) | (go_simp; with_reducible rfl))
                simp only [List.getElem_toArray, List.getElem_cons_succ, List.getElem_cons_zero, Act.put, List.setIfInBounds_toArray, List.set_cons_zero, List.set_cons_succ]
                refine wpAnyH_ready (rs := [12]) (by kernel_rfl) (by simp) ?_
                refine AllReadyH.cons rfl (fun K hK => ?_) AllReadyH.nil
                go_simp
                go_at_call 18
                refine (HS5.out.hv _ (Mod.refl _ _).drew).mono ?_
                rintro e7 w7 ⟨s2, rfl, ho2, hm7⟩
                have hcv2 := conv8 ho2.rd
                have mD := (Mod.refl [] w5).drew.trans hm7
                have hcv3 := HCV5.out _ mD
                have c1b : w7.cell? ⟨N, 1, none⟩ = some (.int .i64 frm) := (HN5.out.mod mD (by simp)).cell 1
                refine hK.out _ _ ?_ (fun hHeld => ?_)
                · exact ⟨c1b, hcv3⟩
                clear hK K
                refine held_grow (S' := (fun X => (convert 26 9 (.slice s2.a s2.len s2.cap)).run Try.prog X = .ok (.string ⟨g'.vb.toArray⟩) X ∧ X.cell? ⟨N, 1, none⟩ = some (.int .i64 frm) ∧ (convert 26 9 (.slice s1.a s1.len s1.cap)).run Try.prog X = .ok (.string ⟨g'.vb.toArray⟩) X)) (fun X hX => hX.2) _ _ _ _ ?_
                have hHeld2 : (fun X => (convert 26 9 (.slice s2.a s2.len s2.cap)).run Try.prog X = .ok (.string ⟨g'.vb.toArray⟩) X ∧ X.cell? ⟨N, 1, none⟩ = some (.int .i64 frm) ∧ (convert 26 9 (.slice s1.a s1.len s1.cap)).run Try.prog X = .ok (.string ⟨g'.vb.toArray⟩) X) w7 := ⟨hcv2, c1b, hcv3⟩
                refine wpAnyH_take (i := 13) (v := ?_) rfl (by kernel_rfl) (by kernel_rfl) (by kernel_rfl) (fun _ _ _ h => h) (Or.inl ⟨by rfl, ?_⟩) (by assumption) ?_; rotate_left; focus (intro wS hSw; (try dsimp only at hSw); first | (go_simp; done) | (go_simp; with_reducible rfl))
                simp only [List.getElem_toArray, List.getElem_cons_succ, List.getElem_cons_zero, Act.put, List.setIfInBounds_toArray, List.set_cons_zero, List.set_cons_succ]
                refine wpAnyH_take (i := 16) (v := ?_) rfl (by kernel_rfl) (by kernel_rfl) (by kernel_rfl) (fun _ _ _ h => h) (Or.inl ⟨by rfl, ?_⟩) (by assumption) ?_; rotate_left; focus (intro wS hSw; (try dsimp only at hSw); first | (go_simp; done) | (go_simp; with_reducible rfl))
                simp only [List.getElem_toArray, List.getElem_cons_succ, List.getElem_cons_zero, Act.put, List.setIfInBounds_toArray, List.set_cons_zero, List.set_cons_succ]
                refine wpAnyH_take (i := 17) (v := ?_) rfl (by kernel_rfl) (by kernel_rfl) (by kernel_rfl) (fun _ _ _ h => h) (Or.inl ⟨by rfl, ?_⟩) (by assumption) ?_; rotate_left; focus (intro wS hSw; (try dsimp only at hSw); first | (go_simp; done) | (go_simp; with_reducible rfl))
                simp only [List.getElem_toArray, List.getElem_cons_succ, List.getElem_cons_zero, Act.put, List.setIfInBounds_toArray, List.set_cons_zero, List.set_cons_succ]
                refine wpAnyH_take (i := 18) (v := ?_) rfl (by kernel_rfl) (by kernel_rfl) (by kernel_rfl) (fun _ _ _ h => h) (Or.inl ⟨by rfl, ?_⟩) (by assumption) ?_; rotate_left; focus (intro wS hSw; (try dsimp only at hSw); first | (go_simp; done) | (go_simp; with_reducible rfl))
                simp only [List.getElem_toArray, List.getElem_cons_succ, List.getElem_cons_zero, Act.put, List.setIfInBounds_toArray, List.set_cons_zero, List.set_cons_succ]
                refine wpAnyH_take (i := 19) (v := ?_) rfl (by kernel_rfl) (by kernel_rfl) (by kernel_rfl) (fun _ _ _ h => h) (Or.inl ⟨by rfl, ?_⟩) (by assumption) ?_; rotate_left; focus (intro wS hSw; (try dsimp only at hSw); first | (go_simp; done) | (go_simp; with_reducible rfl))
                simp only [List.getElem_toArray, List.getElem_cons_succ, List.getElem_cons_zero, Act.put, List.setIfInBounds_toArray, List.set_cons_zero, List.set_cons_succ]
                refine wpAnyH_take (i := 20) (v := ?_) rfl (by kernel_rfl) (by kernel_rfl) (by kernel_rfl) (fun _ _ _ h => h) (Or.inl ⟨by rfl, ?_⟩) (by assumption) ?_; rotate_left; focus (intro wS hSw; (try dsimp only at hSw); first | (go_simp; done) | (go_simp; with_reducible rfl))
                simp only [List.getElem_toArray, List.getElem_cons_succ, List.getElem_cons_zero, Act.put, List.setIfInBounds_toArray, List.set_cons_zero, List.set_cons_succ]
                refine wpAnyH_take (i := 21) (v := ?_) rfl (by kernel_rfl) (by kernel_rfl) (by kernel_rfl) (fun _ _ _ h => h) (Or.inl ⟨by rfl, ?_⟩) (by assumption) ?_; rotate_left; focus (intro wS hSw; (try dsimp only at hSw); first | (go_simp; done) | (go_simp; with_reducible rfl))
                simp only [List.getElem_toArray, List.getElem_cons_succ, List.getElem_cons_zero, Act.put, List.setIfInBounds_toArray, List.set_cons_zero, List.set_cons_succ]
                refine wpAnyH_take (i := 23) (v := ?_) rfl (by kernel_rfl) (by kernel_rfl) (by kernel_rfl) (fun _ _ _ h => h) (Or.inl ⟨by rfl, ?_⟩) (by assumption) ?_; rotate_left; focus (intro wS hSw; (try dsimp only at hSw); first | (go_simp; done) | (go_simp; with_reducible rfl))
                simp only [List.getElem_toArray, List.getElem_cons_succ, List.getElem_cons_zero, Act.put, List.setIfInBounds_toArray, List.set_cons_zero, List.set_cons_succ]
                refine wpAnyH_ready (rs := [22]) (by kernel_rfl) (by simp) ?_
                refine AllReadyH.cons rfl (fun K hK => ?_) AllReadyH.nil
                go_simp
                go_at_call 15
                refine (HS5.out.ha _ frm mD).mono ?_
                rw [HA.out]
                rintro e8 w8 ⟨rfl, hm8⟩
                have mE := mD.trans hm8
                refine hK.out _ _ ?_ (fun hHeld => ?_)
                · exact ⟨conv8 (ho2.below hm8).rd, (HN5.out.mod mE (by simp)).cell 1, HCV5.out _ mE⟩
                clear hK K
                refine wpAnyH_take (i := 24) (v := ?_) rfl (by kernel_rfl) (by kernel_rfl) (by kernel_rfl) (fun _ _ _ h => h) (Or.inl ⟨by rfl, ?_⟩) (by assumption) ?_; rotate_left; focus (intro wS hSw; (try dsimp only at hSw); first | (go_simp; done) | (go_simp; with_reducible rfl))
                simp only [List.getElem_toArray, List.getElem_cons_succ, List.getElem_cons_zero, Act.put, List.setIfInBounds_toArray, List.set_cons_zero, List.set_cons_succ]
                refine wpAnyH_take (i := 25) (v := ?_) rfl (by kernel_rfl) (by kernel_rfl) (by kernel_rfl) (fun _ _ _ h => h) (Or.inl ⟨by rfl, ?_⟩) (by assumption) ?_; rotate_left; focus (intro wS hSw; (try dsimp only at hSw); first | (go_simp; done) | (go_simp; with_reducible rfl))
                simp only [List.getElem_toArray, List.getElem_cons_succ, List.getElem_cons_zero, Act.put, List.setIfInBounds_toArray, List.set_cons_zero, List.set_cons_succ]
                refine wpAnyH_take (i := 26) (v := ?_) rfl (by kernel_rfl) (by kernel_rfl) (by kernel_rfl) (fun _ _ _ h => h) (Or.inl ⟨by rfl, ?_⟩) (by assumption) ?_; rotate_left; focus (intro wS hSw; (try dsimp only at hSw); first | (go_simp; done) | (go_simp; with_reducible rfl))
                simp only [List.getElem_toArray, List.getElem_cons_succ, List.getElem_cons_zero, Act.put, List.setIfInBounds_toArray, List.set_cons_zero, List.set_cons_succ]
                refine wpAnyH_done (by kernel_rfl) ?_ _
                refine NoPanic.normal ?_
                go_wp2
                go_roundw
                case rel => exact LateRel.mk (k + 1) mp' g' ⟨by omega, by go_num, HI5.out, HP5.out.below mE, hmp5, HB5.out.mod mE (by simp), HMW.out.trans mE⟩
                case measure => simp [intOf]; omega
            · have HSTILL := Lib.hid (show ¬ (g.phase = 2 ∧ gAsked g frm = true) from fun hh => by rw [hA] at hh; cases hh.2)
              have k1 : (g.phase != 2) = true := by simpa using hK
              clear hA hK
              go_region_held3 (fun w' => w'.cell? ⟨N, 1, none⟩ = some (.int .i64 frm)) (first | exact n1 | exact n1b)
                (first | (go_at_call 14; (first | refine (HSAY.out.hp _ (Mod.refl _ _).drew).mono ?_ | refine (HSAY.out.hp _ mB).mono ?_); rintro e2 w2' ⟨rfl, rfl⟩) | (go_at_call 15; refine (HSAY.out.ha _ frm (Mod.refl _ _).drew).mono ?_; rw [HA.out]; rintro e3 w3 ⟨rfl, hm3⟩; have mB := (Mod.refl [] W).drew.trans hm3; have n1b : w3.cell? ⟨N, 1, none⟩ = some (.int .i64 frm) := (HNC.out.mod mB (by simp)).cell 1))
              all_goals
                rename_i hheld
                clear hheld
                clear n0 n1 n2 n1b
                have m3 := HW.out.trans mB
                have HS3 := Lib.hid ((HPr.out.below m3).says HIr.out.ok.vb)
                have hN3 := HNC.out.mod mB (by simp)
                have c0 : w3.cell? ⟨N, 0, none⟩ = some (.int .i64 ph) := hN3.cell 0
                have HN3 := Lib.hid hN3
                have HM3 := Lib.hid m3
                clear hN3 m3 mB hm3
                go_wp2_with fail
                refine (HS3.out.hv _ (Mod.refl _ _)).mono ?_
                rintro e4 w4 ⟨s1, rfl, ho1, hm4⟩
                clear c0
                have hN4 := HN3.out.mod hm4 (by simp)
                have c0 : w4.cell? ⟨N, 0, none⟩ = some (.int .i64 ph) := hN4.cell 0
                have c1 : w4.cell? ⟨N, 1, none⟩ = some (.int .i64 frm) := hN4.cell 1
                have c3 : w4.cell? ⟨N, 3, none⟩ = some (.int .i64 r) := hN4.cell 3
                have c4 : w4.cell? ⟨N, 4, none⟩ = some (.int .i64 q) := hN4.cell 4
                have c5 : w4.cell? ⟨N, 5, none⟩ = some (.slice s.a s.len s.cap) := hN4.cell 5
                have HM4 := Lib.hid (HM3.out.trans hm4)
                have HP4 := Lib.hid (HPr.out.below HM4.out)
                have HN4 := Lib.hid hN4
                have HO1 := Lib.hid ho1
                clear hN4 hm4 ho1 HS3 HN3 HM3
                go_wp2_with fail
                refine (accepted_rep b mp g frm 0 w4 HP4.out HIr.out.ok).mono ?_
                rintro e5 w5 ⟨rfl, hP5, hM5⟩
                have hI5 := HIr.out.acpt (f := frm) (e := 0) (by omega)
                have hmp5 : w.heap.size < mp := hmw
                obtain ⟨mp', hmp'⟩ : ∃ mp', mp' = mp := ⟨_, rfl⟩
                obtain ⟨g', hg⟩ : ∃ g', g' = gAccepted g frm 0 := ⟨_, rfl⟩
                rw [← hg, ← hmp'] at hP5
                rw [← hg] at hI5
                rw [← hmp'] at hmp5
                obtain rfl : g' = g := hg.trans (acpt_still (fun hh => HSTILL.out hh))
                clear c0 c1 c3 c4 c5
                have hN5 := HN4.out.mod hM5 (by simp; omega)
                have hB5 : Cel w5 w.heap.size lt.cells 54 := (HBr.out.mod HM4.out (by simp)).mod hM5 (by simp; omega)
                have hO5 := HO1.out.mod hM5 HP4.out.noBytes
                have hMw5 : Mod [] w w5 := (HMr.out.trans HM4.out).then hM5 (by simp; omega)
                have c0 : w5.cell? ⟨N, 0, none⟩ = some (.int .i64 ph) := hN5.cell 0
                have c1 : w5.cell? ⟨N, 1, none⟩ = some (.int .i64 frm) := hN5.cell 1
                have HS5 := Lib.hid (hP5.says hI5.ok.vb)
                have HCV5 := Lib.hid (fun (X : World) (hX : Mod [] w5 X) => conv8 (hO5.below hX).rd)
                have HN5 := Lib.hid hN5
                have HB5 := Lib.hid hB5
                have HMW := Lib.hid hMw5
                have HP5 := Lib.hid hP5
                have HI5 := Lib.hid hI5
                clear hN5 hB5 hO5 hMw5 hM5 hP5 hI5 HN4 HO1 HP4 HM4 hg hmp'
                have hcv1 := HCV5.out _ (Mod.refl [] w5).drew
                go_wp2_with fail
                refine wp_region_noPanic ?_
                refine wp_region_held_drew (S := (fun X => X.cell? ⟨N, 1, none⟩ = some (.int .i64 frm) ∧ (convert 26 9 (.slice s1.a s1.len s1.cap)).run Try.prog X = .ok (.string ⟨g'.vb.toArray⟩) X)) (by kernel_rfl) ⟨c1, hcv1⟩ (fun hHeld => ?_)
                refine wpAnyH_take (i := 0) (v := ?_) rfl (by kernel_rfl) (by kernel_rfl) (by kernel_rfl) (fun _ _ _ h => h) (Or.inl ⟨by rfl, ?_⟩) (by assumption) ?_; rotate_left; focus (intro wS hSw; (try dsimp only at hSw); first | (go_simp; done) | (go_simp; with_reducible rfl))
                simp only [List.getElem_toArray, List.getElem_cons_zero, Act.put, List.setIfInBounds_toArray, List.set_cons_zero, List.set_cons_succ]
                refine wpAnyH_take (i := 1) (v := ?_) rfl (by kernel_rfl) (by kernel_rfl) (by kernel_rfl) (fun _ _ _ h => h) (Or.inl ⟨by rfl, ?_⟩) (by assumption) ?_; rotate_left; focus (intro wS hSw; (try dsimp only at hSw); first | (go_simp; done) | (go_simp; with_reducible rfl))
                simp only [List.getElem_toArray, List.getElem_cons_succ, List.getElem_cons_zero, Act.put, List.setIfInBounds_toArray, List.set_cons_zero, List.set_cons_succ]
                refine wpAnyH_take (i := 2) (v := ?_) rfl (by kernel_rfl) (by kernel_rfl) (by kernel_rfl) (fun _ _ _ h => h) (Or.inl ⟨by rfl, ?_⟩) (by assumption) ?_; rotate_left; focus (intro wS hSw; (try dsimp only at hSw); first | (go_simp; done) | (go_simp; with_reducible rfl))
                simp only [List.getElem_toArray, List.getElem_cons_succ, List.getElem_cons_zero, Act.put, List.setIfInBounds_toArray, List.set_cons_zero, List.set_cons_succ]
                refine wpAnyH_take (i := 3) (v := undef) rfl (by kernel_rfl) (by kernel_rfl) (by kernel_rfl) (fun _ _ _ h => h) (Or.inr ⟨by rfl, rfl⟩) (by assumption) ?_
                simp only [List.getElem_toArray, List.getElem_cons_succ, List.getElem_cons_zero, Act.put, List.setIfInBounds_toArray, List.set_cons_zero, List.set_cons_succ]
                refine wpAnyH_take (i := 4) (v := ?_) rfl (by kernel_rfl) (by kernel_rfl) (by kernel_rfl) (fun _ _ _ h => h) (Or.inl ⟨by rfl, ?_⟩) (by assumption) ?_; rotate_left; focus (intro wS hSw; (try dsimp only at hSw); first | (go_simp; done) | (go_simp; with_reducible rfl))
                simp only [List.getElem_toArray, List.getElem_cons_succ, List.getElem_cons_zero, Act.put, List.setIfInBounds_toArray, List.set_cons_zero, List.set_cons_succ]
                refine wpAnyH_take (i := 5) (v := ?_) rfl (by kernel_rfl) (by kernel_rfl) (by kernel_rfl) (fun _ _ _ h => h) (Or.inl ⟨by rfl, ?_⟩) (by assumption) ?_; rotate_left; focus (intro wS hSw; (try dsimp only at hSw); first | (go_simp; done) | (go_simp; with_reducible rfl))
                simp only [List.getElem_toArray, List.getElem_cons_succ, List.getElem_cons_zero, Act.put, List.setIfInBounds_toArray, List.set_cons_zero, List.set_cons_succ]
                refine wpAnyH_take (i := 6) (v := ?_) rfl (by kernel_rfl) (by kernel_rfl) (by kernel_rfl) (fun _ _ _ h => h) (Or.inl ⟨by rfl, ?_⟩) (by assumption) ?_; rotate_left; focus (intro wS hSw; (try dsimp only at hSw); first | (go_simp; done) | (go_simp; with_reducible rfl))
                simp only [List.getElem_toArray, List.getElem_cons_succ, List.getElem_cons_zero, Act.put, List.setIfInBounds_toArray, List.set_cons_zero, List.set_cons_succ]
                refine wpAnyH_take (i := 8) (v := ?_) rfl (by kernel_rfl) (by kernel_rfl) (by kernel_rfl) (fun _ _ _ h => h) (Or.inl ⟨by rfl, ?_⟩) (by assumption) ?_; rotate_left; focus (intro wS hSw; (try dsimp only at hSw); first | (go_simp; done) | (go_simp; with_reducible rfl))
                simp only [List.getElem_toArray, List.getElem_cons_succ, List.getElem_cons_zero, Act.put, List.setIfInBounds_toArray, List.set_cons_zero, List.set_cons_succ]
                refine wpAnyH_ready (rs := [7]) (by kernel_rfl) (by simp) ?_
                refine AllReadyH.cons rfl (fun K hK => ?_) AllReadyH.nil
                go_simp
                go_at_call 14
                refine (HS5.out.hp _ (Mod.refl _ _).drew).mono ?_
                rintro e6 w6 ⟨rfl, rfl⟩
                refine hK.out _ _ ?_ (fun hHeld => ?_)
                · exact hHeld
                clear hK K
                refine wpAnyH_take (i := 9) (v := ?_) rfl (by kernel_rfl) (by kernel_rfl) (by kernel_rfl) (fun _ _ _ h => h) (Or.inl ⟨by rfl, ?_⟩) (by assumption) ?_; rotate_left; focus (intro wS hSw; (try dsimp only at hSw); first | (go_simp; done) | (go_simp; with_reducible rfl))
                simp only [List.getElem_toArray, List.getElem_cons_succ, List.getElem_cons_zero, Act.put, List.setIfInBounds_toArray, List.set_cons_zero, List.set_cons_succ]
                refine wpAnyH_take (i := 10) (v := ?_) rfl (by kernel_rfl) (by kernel_rfl) (by kernel_rfl) (fun _ _ _ h => h) (Or.inl ⟨by rfl, ?_⟩) (by assumption) ?_; rotate_left; focus (intro wS hSw; (try dsimp only at hSw); first | (go_simp; done) | (go_simp; with_reducible rfl))
                simp only [List.getElem_toArray, List.getElem_cons_succ, List.getElem_cons_zero, Act.put, List.setIfInBounds_toArray, List.set_cons_zero, List.set_cons_succ]
                refine wpAnyH_take (i := 11) (v := ?_) rfl (by kernel_rfl) (by kernel_rfl) (by kernel_rfl) (fun _ _ _ h => h) (Or.inl ⟨by rfl, ?_⟩) (by assumption) ?_; rotate_left; focus (intro wS hSw; (try dsimp only at hSw); first | (go_simp; done) | (go_simp; with_reducible rfl))
                simp only [List.getElem_toArray, List.getElem_cons_succ, List.getElem_cons_zero, Act.put, List.setIfInBounds_toArray, List.set_cons_zero, List.set_cons_succ]
                refine wpAnyH_take (i := 14) (v := ?_) rfl (by kernel_rfl) (by kernel_rfl) (by kernel_rfl) (fun _ _ _ h => h) (Or.inl ⟨by rfl, ?_⟩) (by assumption) ?_; rotate_left; focus (intro wS hSw; (try dsimp only at hSw); first | (go_simp; done) | (go_simp; with_reducible rfl))
                simp only [List.getElem_toArray, List.getElem_cons_succ, List.getElem_cons_zero, Act.put, List.setIfInBounds_toArray, List.set_cons_zero, List.set_cons_succ]
                refine wpAnyH_take (i := 15) (v := ?_) rfl (by kernel_rfl) (by kernel_rfl) (by kernel_rfl) (fun _ _ _ h => h) (Or.inl ⟨by rfl, ?_⟩) (by assumption) ?_; rotate_left; focus (intro wS hSw; (try dsimp only at hSw); first | (go_simp; done) | (go_simp; with_reducible rfl))
                simp only [List.getElem_toArray, List.getElem_cons_succ, List.getElem_cons_zero, Act.put, List.setIfInBounds_toArray, List.set_cons_zero, List.set_cons_succ]
                refine wpAnyH_ready (rs := [12]) (by kernel_rfl) (by simp) ?_
                refine AllReadyH.cons rfl (fun K hK => ?_) AllReadyH.nil
                go_simp
                go_at_call 18
                refine (HS5.out.hv _ (Mod.refl _ _).drew).mono ?_
                rintro e7 w7 ⟨s2, rfl, ho2, hm7⟩
                have hcv2 := conv8 ho2.rd
                have mD := (Mod.refl [] w5).drew.trans hm7
                have hcv3 := HCV5.out _ mD
                have c1b : w7.cell? ⟨N, 1, none⟩ = some (.int .i64 frm) := (HN5.out.mod mD (by simp)).cell 1
                refine hK.out _ _ ?_ (fun hHeld => ?_)
                · exact ⟨c1b, hcv3⟩
                clear hK K
                refine held_grow (S' := (fun X => (convert 26 9 (.slice s2.a s2.len s2.cap)).run Try.prog X = .ok (.string ⟨g'.vb.toArray⟩) X ∧ X.cell? ⟨N, 1, none⟩ = some (.int .i64 frm) ∧ (convert 26 9 (.slice s1.a s1.len s1.cap)).run Try.prog X = .ok (.string ⟨g'.vb.toArray⟩) X)) (fun X hX => hX.2) _ _ _ _ ?_
                have hHeld2 : (fun X => (convert 26 9 (.slice s2.a s2.len s2.cap)).run Try.prog X = .ok (.string ⟨g'.vb.toArray⟩) X ∧ X.cell? ⟨N, 1, none⟩ = some (.int .i64 frm) ∧ (convert 26 9 (.slice s1.a s1.len s1.cap)).run Try.prog X = .ok (.string ⟨g'.vb.toArray⟩) X) w7 := ⟨hcv2, c1b, hcv3⟩
                refine wpAnyH_take (i := 13) (v := ?_) rfl (by kernel_rfl) (by kernel_rfl) (by kernel_rfl) (fun _ _ _ h => h) (Or.inl ⟨by rfl, ?_⟩) (by assumption) ?_; rotate_left; focus (intro wS hSw; (try dsimp only at hSw); first | (go_simp; done) | (go_simp; with_reducible rfl))
                simp only [List.getElem_toArray, List.getElem_cons_succ, List.getElem_cons_zero, Act.put, List.setIfInBounds_toArray, List.set_cons_zero, List.set_cons_succ]
                refine wpAnyH_take (i := 16) (v := ?_) rfl (by kernel_rfl) (by kernel_rfl) (by kernel_rfl) (fun _ _ _ h => h) (Or.inl ⟨by rfl, ?_⟩) (by assumption) ?_; rotate_left; focus (intro wS hSw; (try dsimp only at hSw); first | (go_simp; done) | (go_simp; with_reducible rfl))
                simp only [List.getElem_toArray, List.getElem_cons_succ, List.getElem_cons_zero, Act.put, List.setIfInBounds_toArray, List.set_cons_zero, List.set_cons_succ]
                refine wpAnyH_take (i := 17) (v := ?_) rfl (by kernel_rfl) (by kernel_rfl) (by kernel_rfl) (fun _ _ _ h => h) (Or.inl ⟨by rfl, ?_⟩) (by assumption) ?_; rotate_left; focus (intro wS hSw; (try dsimp only at hSw); first | (go_simp; done) | (go_simp; with_reducible rfl))
                simp only [List.getElem_toArray, List.getElem_cons_succ, List.getElem_cons_zero, Act.put, List.setIfInBounds_toArray, List.set_cons_zero, List.set_cons_succ]
                refine wpAnyH_take (i := 18) (v := ?_) rfl (by kernel_rfl) (by kernel_rfl) (by kernel_rfl) (fun _ _ _ h => h) (Or.inl ⟨by rfl, ?_⟩) (by assumption) ?_; rotate_left; focus (intro wS hSw; (try dsimp only at hSw); first | (go_simp; done) | (go_simp; with_reducible rfl))
                simp only [List.getElem_toArray, List.getElem_cons_succ, List.getElem_cons_zero, Act.put, List.setIfInBounds_toArray, List.set_cons_zero, List.set_cons_succ]
                refine wpAnyH_take (i := 19) (v := ?_) rfl (by kernel_rfl) (by kernel_rfl) (by kernel_rfl) (fun _ _ _ h => h) (Or.inl ⟨by rfl, ?_⟩) (by assumption) ?_; rotate_left; focus (intro wS hSw; (try dsimp only at hSw); first | (go_simp; done) | (go_simp; with_reducible rfl))
                simp only [List.getElem_toArray, List.getElem_cons_succ, List.getElem_cons_zero, Act.put, List.setIfInBounds_toArray, List.set_cons_zero, List.set_cons_succ]
                refine wpAnyH_take (i := 20) (v := ?_) rfl (by kernel_rfl) (by kernel_rfl) (by kernel_rfl) (fun _ _ _ h => h) (Or.inl ⟨by rfl, ?_⟩) (by assumption) ?_; rotate_left; focus (intro wS hSw; (try dsimp only at hSw); first | (go_simp; done) | (go_simp; with_reducible rfl))
                simp only [List.getElem_toArray, List.getElem_cons_succ, List.getElem_cons_zero, Act.put, List.setIfInBounds_toArray, List.set_cons_zero, List.set_cons_succ]
                refine wpAnyH_take (i := 21) (v := ?_) rfl (by kernel_rfl) (by kernel_rfl) (by kernel_rfl) (fun _ _ _ h => h) (Or.inl ⟨by rfl, ?_⟩) (by assumption) ?_; rotate_left; focus (intro wS hSw; (try dsimp only at hSw); first | (go_simp; done) | (go_simp; with_reducible rfl))
                simp only [List.getElem_toArray, List.getElem_cons_succ, List.getElem_cons_zero, Act.put, List.setIfInBounds_toArray, List.set_cons_zero, List.set_cons_succ]
                refine wpAnyH_take (i := 23) (v := ?_) rfl (by kernel_rfl) (by kernel_rfl) (by kernel_rfl) (fun _ _ _ h => h) (Or.inl ⟨by rfl, ?_⟩) (by assumption) ?_; rotate_left; focus (intro wS hSw; (try dsimp only at hSw); first | (go_simp; done) | (go_simp; with_reducible rfl))
                simp only [List.getElem_toArray, List.getElem_cons_succ, List.getElem_cons_zero, Act.put, List.setIfInBounds_toArray, List.set_cons_zero, List.set_cons_succ]
                refine wpAnyH_ready (rs := [22]) (by kernel_rfl) (by simp) ?_
                refine AllReadyH.cons rfl (fun K hK => ?_) AllReadyH.nil
                go_simp
                go_at_call 15
                refine (HS5.out.ha _ frm mD).mono ?_
                rw [HA.out]
                rintro e8 w8 ⟨rfl, hm8⟩
                have mE := mD.trans hm8
                refine hK.out _ _ ?_ (fun hHeld => ?_)
                · exact ⟨conv8 (ho2.below hm8).rd, (HN5.out.mod mE (by simp)).cell 1, HCV5.out _ mE⟩
                clear hK K
                refine wpAnyH_take (i := 24) (v := ?_) rfl (by kernel_rfl) (by kernel_rfl) (by kernel_rfl) (fun _ _ _ h => h) (Or.inl ⟨by rfl, ?_⟩) (by assumption) ?_; rotate_left; focus (intro wS hSw; (try dsimp only at hSw); first | (go_simp; done) | (go_simp; with_reducible rfl))
                simp only [List.getElem_toArray, List.getElem_cons_succ, List.getElem_cons_zero, Act.put, List.setIfInBounds_toArray, List.set_cons_zero, List.set_cons_succ]
                refine wpAnyH_take (i := 25) (v := ?_) rfl (by kernel_rfl) (by kernel_rfl) (by kernel_rfl) (fun _ _ _ h => h) (Or.inl ⟨by rfl, ?_⟩) (by assumption) ?_; rotate_left; focus (intro wS hSw; (try dsimp only at hSw); first | (go_simp; done) | (go_simp; with_reducible rfl))
                simp only [List.getElem_toArray, List.getElem_cons_succ, List.getElem_cons_zero, Act.put, List.setIfInBounds_toArray, List.set_cons_zero, List.set_cons_succ]
                refine wpAnyH_take (i := 26) (v := ?_) rfl (by kernel_rfl) (by kernel_rfl) (by kernel_rfl) (fun _ _ _ h => h) (Or.inl ⟨by rfl, ?_⟩) (by assumption) ?_; rotate_left; focus (intro wS hSw; (try dsimp only at hSw); first | (go_simp; done) | (go_simp; with_reducible rfl))
                simp only [List.getElem_toArray, List.getElem_cons_succ, List.getElem_cons_zero, Act.put, List.setIfInBounds_toArray, List.set_cons_zero, List.set_cons_succ]
                refine wpAnyH_done (by kernel_rfl) ?_ _
                refine NoPanic.normal ?_
                go_wp2
                go_roundw
                case rel => exact LateRel.mk (k + 1) mp' g' ⟨by omega, by go_num, HI5.out, HP5.out.below mE, hmp5, HB5.out.mod mE (by simp), HMW.out.trans mE⟩
                case measure => simp [intOf]; omega
          | true =>
            have HA := Lib.hid hA
            by_cases hK : g.phase = 2
            · have HMOV := Lib.hid (show g.phase = 2 ∧ gAsked g frm = true from ⟨hK, hA⟩)
              have k1 : (g.phase != 2) = false := by rw [hK]; rfl
              clear hA hK
              go_region_held3 (fun w' => w'.cell? ⟨N, 1, none⟩ = some (.int .i64 frm)) (first | exact n1 | exact n1b)
                (first | (go_at_call 14; (first | refine (HSAY.out.hp _ (Mod.refl _ _).drew).mono ?_ | refine (HSAY.out.hp _ mB).mono ?_); rintro e2 w2' ⟨rfl, rfl⟩) | (go_at_call 15; refine (HSAY.out.ha _ frm (Mod.refl _ _).drew).mono ?_; rw [HA.out]; rintro e3 w3 ⟨rfl, hm3⟩; have mB := (Mod.refl [] W).drew.trans hm3; have n1b : w3.cell? ⟨N, 1, none⟩ = some (.int .i64 frm) := (HNC.out.mod mB (by simp)).cell 1))
              all_goals
                rename_i hheld
                clear hheld
                clear n0 n1 n2 n1b
                have m3 := HW.out.trans mB
                have HS3 := Lib.hid ((HPr.out.below m3).says HIr.out.ok.vb)
                have hN3 := HNC.out.mod mB (by simp)
                have c0 : w3.cell? ⟨N, 0, none⟩ = some (.int .i64 ph) := hN3.cell 0
                have HN3 := Lib.hid hN3
                have HM3 := Lib.hid m3
                clear hN3 m3 mB hm3
                go_wp2_with fail
                refine (HS3.out.hv _ (Mod.refl _ _)).mono ?_
                rintro e4 w4 ⟨s1, rfl, ho1, hm4⟩
                clear c0
                have hN4 := HN3.out.mod hm4 (by simp)
                have c0 : w4.cell? ⟨N, 0, none⟩ = some (.int .i64 ph) := hN4.cell 0
                have c1 : w4.cell? ⟨N, 1, none⟩ = some (.int .i64 frm) := hN4.cell 1
                have c3 : w4.cell? ⟨N, 3, none⟩ = some (.int .i64 r) := hN4.cell 3
                have c4 : w4.cell? ⟨N, 4, none⟩ = some (.int .i64 q) := hN4.cell 4
                have c5 : w4.cell? ⟨N, 5, none⟩ = some (.slice s.a s.len s.cap) := hN4.cell 5
                have HM4 := Lib.hid (HM3.out.trans hm4)
                have HP4 := Lib.hid (HPr.out.below HM4.out)
                have HN4 := Lib.hid hN4
                have HO1 := Lib.hid ho1
                clear hN4 hm4 ho1 HS3 HN3 HM3
                go_wp2_with fail
                refine (accepted_rep b mp g frm 0 w4 HP4.out HIr.out.ok).mono ?_
                rintro e5 w5 ⟨rfl, hP5, hM5⟩
                have hI5 := HIr.out.acpt (f := frm) (e := 0) (by omega)
                have hmp5 : w.heap.size < mp := hmw
                obtain ⟨mp', hmp'⟩ : ∃ mp', mp' = mp := ⟨_, rfl⟩
                obtain ⟨g', hg⟩ : ∃ g', g' = gAccepted g frm 0 := ⟨_, rfl⟩
                rw [← hg, ← hmp'] at hP5
                rw [← hg] at hI5
                rw [← hmp'] at hmp5
                have hmoves : g'.phase ≠ g.phase ∨ gAsked g' frm = false := by rw [hg]; exact acpt_moves HMOV.out
                clear c0 c1 c3 c4 c5
                have hN5 := HN4.out.mod hM5 (by simp; omega)
                have hB5 : Cel w5 w.heap.size lt.cells 54 := (HBr.out.mod HM4.out (by simp)).mod hM5 (by simp; omega)
                have hO5 := HO1.out.mod hM5 HP4.out.noBytes
                have hMw5 : Mod [] w w5 := (HMr.out.trans HM4.out).then hM5 (by simp; omega)
                have c0 : w5.cell? ⟨N, 0, none⟩ = some (.int .i64 ph) := hN5.cell 0
                have c1 : w5.cell? ⟨N, 1, none⟩ = some (.int .i64 frm) := hN5.cell 1
                have HS5 := Lib.hid (hP5.says hI5.ok.vb)
                have HCV5 := Lib.hid (fun (X : World) (hX : Mod [] w5 X) => conv8 (hO5.below hX).rd)
                have HN5 := Lib.hid hN5
                have HB5 := Lib.hid hB5
                have HMW := Lib.hid hMw5
                have HP5 := Lib.hid hP5
                have HI5 := Lib.hid hI5
                clear hN5 hB5 hO5 hMw5 hM5 hP5 hI5 HN4 HO1 HP4 HM4 hg hmp'
                clear HCV5
                go_wp2_with fail
                refine wp_region_noPanic ?_
                refine wp_region_held_drew (S := fun _ => True) (by kernel_rfl) trivial (fun hHeld => ?_)
                refine wpAnyH_take (i := 0) (v := ?_) rfl (by kernel_rfl) (by kernel_rfl) (by kernel_rfl) (fun _ _ _ h => h) (Or.inl ⟨by rfl, ?_⟩) (by assumption) ?_; rotate_left; focus (intro wS hSw; (try dsimp only at hSw); first | (go_simp; done) | (go_simp; with_reducible rfl))
                simp only [List.getElem_toArray, List.getElem_cons_zero, Act.put, List.setIfInBounds_toArray, List.set_cons_zero, List.set_cons_succ]
                refine wpAnyH_take (i := 1) (v := ?_) rfl (by kernel_rfl) (by kernel_rfl) (by kernel_rfl) (fun _ _ _ h => h) (Or.inl ⟨by rfl, ?_⟩) (by assumption) ?_; rotate_left; focus (intro wS hSw; (try dsimp only at hSw); first | (go_simp; done) | (go_simp; with_reducible rfl))
                simp only [List.getElem_toArray, List.getElem_cons_succ, List.getElem_cons_zero, Act.put, List.setIfInBounds_toArray, List.set_cons_zero, List.set_cons_succ]
                refine wpAnyH_take (i := 2) (v := ?_) rfl (by kernel_rfl) (by kernel_rfl) (by kernel_rfl) (fun _ _ _ h => h) (Or.inl ⟨by rfl, ?_⟩) (by assumption) ?_; rotate_left; focus (intro wS hSw; (try dsimp only at hSw); first | (go_simp; done) | (go_simp; with_reducible rfl))
                simp only [List.getElem_toArray, List.getElem_cons_succ, List.getElem_cons_zero, Act.put, List.setIfInBounds_toArray, List.set_cons_zero, List.set_cons_succ]
                refine wpAnyH_take (i := 3) (v := ?_) rfl (by kernel_rfl) (by kernel_rfl) (by kernel_rfl) (fun _ _ _ h => h) (Or.inl ⟨by rfl, ?_⟩) (by assumption) ?_; rotate_left; focus (intro wS hSw; (try dsimp only at hSw); first | (go_simp; done) | (go_simp; with_reducible rfl))
                simp only [List.getElem_toArray, List.getElem_cons_succ, List.getElem_cons_zero, Act.put, List.setIfInBounds_toArray, List.set_cons_zero, List.set_cons_succ]
                refine wpAnyH_take (i := 4) (v := ?_) rfl (by kernel_rfl) (by kernel_rfl) (by kernel_rfl) (fun _ _ _ h => h) (Or.inl ⟨by rfl, ?_⟩) (by assumption) ?_; rotate_left; focus (intro wS hSw; (try dsimp only at hSw); first | (go_simp; done) | (go_simp; with_reducible rfl))
                simp only [List.getElem_toArray, List.getElem_cons_succ, List.getElem_cons_zero, Act.put, List.setIfInBounds_toArray, List.set_cons_zero, List.set_cons_succ]
                refine wpAnyH_take (i := 5) (v := ?_) rfl (by kernel_rfl) (by kernel_rfl) (by kernel_rfl) (fun _ _ _ h => h) (Or.inl ⟨by rfl, ?_⟩) (by assumption) ?_; rotate_left; focus (intro wS hSw; (try dsimp only at hSw); first | (go_simp; done) | (go_simp; with_reducible rfl))
                simp only [List.getElem_toArray, List.getElem_cons_succ, List.getElem_cons_zero, Act.put, List.setIfInBounds_toArray, List.set_cons_zero, List.set_cons_succ]
                refine wpAnyH_take (i := 6) (v := undef) rfl (by kernel_rfl) (by kernel_rfl) (by kernel_rfl) (fun _ _ _ h => h) (Or.inr ⟨by rfl, rfl⟩) (by assumption) ?_
                simp only [List.getElem_toArray, List.getElem_cons_succ, List.getElem_cons_zero, Act.put, List.setIfInBounds_toArray, List.set_cons_zero, List.set_cons_succ]
                refine wpAnyH_take (i := 8) (v := undef) rfl (by kernel_rfl) (by kernel_rfl) (by kernel_rfl) (fun _ _ _ h => h) (Or.inr ⟨by rfl, rfl⟩) (by assumption) ?_
                simp only [List.getElem_toArray, List.getElem_cons_succ, List.getElem_cons_zero, Act.put, List.setIfInBounds_toArray, List.set_cons_zero, List.set_cons_succ]
                refine wpAnyH_ready (rs := [7]) (by kernel_rfl) (by simp) ?_
                refine AllReadyH.cons rfl (fun K hK => ?_) AllReadyH.nil
                go_simp
                refine hK.out _ _ ?_ (fun hHeld => ?_)
                · trivial
                clear hK K
                refine wpAnyH_take (i := 9) (v := undef) rfl (by kernel_rfl) (by kernel_rfl) (by kernel_rfl) (fun _ _ _ h => h) (Or.inr ⟨by rfl, rfl⟩) (by assumption) ?_
                simp only [List.getElem_toArray, List.getElem_cons_succ, List.getElem_cons_zero, Act.put, List.setIfInBounds_toArray, List.set_cons_zero, List.set_cons_succ]
                refine wpAnyH_take (i := 10) (v := undef) rfl (by kernel_rfl) (by kernel_rfl) (by kernel_rfl) (fun _ _ _ h => h) (Or.inr ⟨by rfl, rfl⟩) (by assumption) ?_
                simp only [List.getElem_toArray, List.getElem_cons_succ, List.getElem_cons_zero, Act.put, List.setIfInBounds_toArray, List.set_cons_zero, List.set_cons_succ]
                refine wpAnyH_take (i := 11) (v := undef) rfl (by kernel_rfl) (by kernel_rfl) (by kernel_rfl) (fun _ _ _ h => h) (Or.inr ⟨by rfl, rfl⟩) (by assumption) ?_
                simp only [List.getElem_toArray, List.getElem_cons_succ, List.getElem_cons_zero, Act.put, List.setIfInBounds_toArray, List.set_cons_zero, List.set_cons_succ]
                refine wpAnyH_take (i := 14) (v := undef) rfl (by kernel_rfl) (by kernel_rfl) (by kernel_rfl) (fun _ _ _ h => h) (Or.inr ⟨by rfl, rfl⟩) (by assumption) ?_
                simp only [List.getElem_toArray, List.getElem_cons_succ, List.getElem_cons_zero, Act.put, List.setIfInBounds_toArray, List.set_cons_zero, List.set_cons_succ]
                refine wpAnyH_take (i := 15) (v := undef) rfl (by kernel_rfl) (by kernel_rfl) (by kernel_rfl) (fun _ _ _ h => h) (Or.inr ⟨by rfl, rfl⟩) (by assumption) ?_
                simp only [List.getElem_toArray, List.getElem_cons_succ, List.getElem_cons_zero, Act.put, List.setIfInBounds_toArray, List.set_cons_zero, List.set_cons_succ]
                refine wpAnyH_ready (rs := [12]) (by kernel_rfl) (by simp) ?_
                refine AllReadyH.cons rfl (fun K hK => ?_) AllReadyH.nil
                go_simp
                refine hK.out _ _ ?_ (fun hHeld => ?_)
                · trivial
                clear hK K
                refine wpAnyH_take (i := 13) (v := undef) rfl (by kernel_rfl) (by kernel_rfl) (by kernel_rfl) (fun _ _ _ h => h) (Or.inr ⟨by rfl, rfl⟩) (by assumption) ?_
                simp only [List.getElem_toArray, List.getElem_cons_succ, List.getElem_cons_zero, Act.put, List.setIfInBounds_toArray, List.set_cons_zero, List.set_cons_succ]
                refine wpAnyH_take (i := 16) (v := undef) rfl (by kernel_rfl) (by kernel_rfl) (by kernel_rfl) (fun _ _ _ h => h) (Or.inr ⟨by rfl, rfl⟩) (by assumption) ?_
                simp only [List.getElem_toArray, List.getElem_cons_succ, List.getElem_cons_zero, Act.put, List.setIfInBounds_toArray, List.set_cons_zero, List.set_cons_succ]
                refine wpAnyH_take (i := 17) (v := undef) rfl (by kernel_rfl) (by kernel_rfl) (by kernel_rfl) (fun _ _ _ h => h) (Or.inr ⟨by rfl, rfl⟩) (by assumption) ?_
                simp only [List.getElem_toArray, List.getElem_cons_succ, List.getElem_cons_zero, Act.put, List.setIfInBounds_toArray, List.set_cons_zero, List.set_cons_succ]
                refine wpAnyH_take (i := 18) (v := undef) rfl (by kernel_rfl) (by kernel_rfl) (by kernel_rfl) (fun _ _ _ h => h) (Or.inr ⟨by rfl, rfl⟩) (by assumption) ?_
                simp only [List.getElem_toArray, List.getElem_cons_succ, List.getElem_cons_zero, Act.put, List.setIfInBounds_toArray, List.set_cons_zero, List.set_cons_succ]
                refine wpAnyH_take (i := 19) (v := undef) rfl (by kernel_rfl) (by kernel_rfl) (by kernel_rfl) (fun _ _ _ h => h) (Or.inr ⟨by rfl, rfl⟩) (by assumption) ?_
                simp only [List.getElem_toArray, List.getElem_cons_succ, List.getElem_cons_zero, Act.put, List.setIfInBounds_toArray, List.set_cons_zero, List.set_cons_succ]
                refine wpAnyH_take (i := 20) (v := undef) rfl (by kernel_rfl) (by kernel_rfl) (by kernel_rfl) (fun _ _ _ h => h) (Or.inr ⟨by rfl, rfl⟩) (by assumption) ?_
                simp only [List.getElem_toArray, List.getElem_cons_succ, List.getElem_cons_zero, Act.put, List.setIfInBounds_toArray, List.set_cons_zero, List.set_cons_succ]
                refine wpAnyH_take (i := 21) (v := undef) rfl (by kernel_rfl) (by kernel_rfl) (by kernel_rfl) (fun _ _ _ h => h) (Or.inr ⟨by rfl, rfl⟩) (by assumption) ?_
                simp only [List.getElem_toArray, List.getElem_cons_succ, List.getElem_cons_zero, Act.put, List.setIfInBounds_toArray, List.set_cons_zero, List.set_cons_succ]
                refine wpAnyH_take (i := 23) (v := undef) rfl (by kernel_rfl) (by kernel_rfl) (by kernel_rfl) (fun _ _ _ h => h) (Or.inr ⟨by rfl, rfl⟩) (by assumption) ?_
                simp only [List.getElem_toArray, List.getElem_cons_succ, List.getElem_cons_zero, Act.put, List.setIfInBounds_toArray, List.set_cons_zero, List.set_cons_succ]
                refine wpAnyH_ready (rs := [22]) (by kernel_rfl) (by simp) ?_
                refine AllReadyH.cons rfl (fun K hK => ?_) AllReadyH.nil
                go_simp
                refine hK.out _ _ ?_ (fun hHeld => ?_)
                · trivial
                clear hK K
                refine wpAnyH_take (i := 24) (v := undef) rfl (by kernel_rfl) (by kernel_rfl) (by kernel_rfl) (fun _ _ _ h => h) (Or.inr ⟨by rfl, rfl⟩) (by assumption) ?_
                simp only [List.getElem_toArray, List.getElem_cons_succ, List.getElem_cons_zero, Act.put, List.setIfInBounds_toArray, List.set_cons_zero, List.set_cons_succ]
                refine wpAnyH_take (i := 25) (v := undef) rfl (by kernel_rfl) (by kernel_rfl) (by kernel_rfl) (fun _ _ _ h => h) (Or.inr ⟨by rfl, rfl⟩) (by assumption) ?_
                simp only [List.getElem_toArray, List.getElem_cons_succ, List.getElem_cons_zero, Act.put, List.setIfInBounds_toArray, List.set_cons_zero, List.set_cons_succ]
                refine wpAnyH_take (i := 26) (v := ?_) rfl (by kernel_rfl) (by kernel_rfl) (by kernel_rfl) (fun _ _ _ h => h) (Or.inl ⟨by rfl, ?_⟩) (by assumption) ?_; rotate_left; focus (intro wS hSw; (try dsimp only at hSw); first | (go_simp; done) | (go_simp; with_reducible rfl))
                simp only [List.getElem_toArray, List.getElem_cons_succ, List.getElem_cons_zero, Act.put, List.setIfInBounds_toArray, List.set_cons_zero, List.set_cons_succ]
                refine wpAnyH_done (by kernel_rfl) ?_ _
                refine NoPanic.normal ?_
                by_cases hpp : g'.phase = g.phase
                · have HPP := Lib.hid hpp
                  have HAN := Lib.hid (hmoves.resolve_left (fun h => h hpp))
                  clear hmoves hpp
                  go_wp2_with (first
                    | (go_at_call 14; refine (HS5.out.hp _ (Mod.refl _ _).drew).mono ?_; rw [HPP.out]; rintro e6 w6 ⟨rfl, rfl⟩)
                    | (go_at_call 15; refine (HS5.out.ha _ frm (Mod.refl _ _).drew).mono ?_; rw [HAN.out]; rintro e8 w8 ⟨rfl, hm8⟩; have mE := (Mod.refl [] w5).drew.trans hm8)
                    | fail)
                  go_roundw
                  case rel => exact LateRel.mk (k + 1) mp' g' ⟨by omega, by go_num, HI5.out, HP5.out.below mE, hmp5, HB5.out.mod mE (by simp), HMW.out.trans mE⟩
                  case measure => simp [intOf]; omega
                · have hq : (g'.phase == g.phase) = false := beq_eq_false_iff_ne.2 hpp
                  clear hmoves hpp
                  go_wp2_with (first
                    | (go_at_call 14; refine (HS5.out.hp _ (Mod.refl _ _).drew).mono ?_; rintro e6 w6 ⟨rfl, rfl⟩)
                    | fail)
                  have mE := (Mod.refl [] w5).drew
                  go_roundw
                  case rel => exact LateRel.mk (k + 1) mp' g' ⟨by omega, by go_num, HI5.out, HP5.out.below mE, hmp5, HB5.out.mod mE (by simp), HMW.out.trans mE⟩
                  case measure => simp [intOf]; omega
            · have HSTILL := Lib.hid (show ¬ (g.phase = 2 ∧ gAsked g frm = true) from fun hh => hK hh.1)
              have k1 : (g.phase != 2) = true := by simpa using hK
              clear hA hK
              go_region_held3 (fun w' => w'.cell? ⟨N, 1, none⟩ = some (.int .i64 frm)) (first | exact n1 | exact n1b)
                (first | (go_at_call 14; (first | refine (HSAY.out.hp _ (Mod.refl _ _).drew).mono ?_ | refine (HSAY.out.hp _ mB).mono ?_); rintro e2 w2' ⟨rfl, rfl⟩) | (go_at_call 15; refine (HSAY.out.ha _ frm (Mod.refl _ _).drew).mono ?_; rw [HA.out]; rintro e3 w3 ⟨rfl, hm3⟩; have mB := (Mod.refl [] W).drew.trans hm3; have n1b : w3.cell? ⟨N, 1, none⟩ = some (.int .i64 frm) := (HNC.out.mod mB (by simp)).cell 1))
              all_goals
                rename_i hheld
                clear hheld
                clear n0 n1 n2 n1b
                have m3 := HW.out.trans mB
                have HS3 := Lib.hid ((HPr.out.below m3).says HIr.out.ok.vb)
                have hN3 := HNC.out.mod mB (by simp)
                have c0 : w3.cell? ⟨N, 0, none⟩ = some (.int .i64 ph) := hN3.cell 0
                have HN3 := Lib.hid hN3
                have HM3 := Lib.hid m3
                clear hN3 m3 mB hm3
                go_wp2_with fail
                refine (HS3.out.hv _ (Mod.refl _ _)).mono ?_
                rintro e4 w4 ⟨s1, rfl, ho1, hm4⟩
                clear c0
                have hN4 := HN3.out.mod hm4 (by simp)
                have c0 : w4.cell? ⟨N, 0, none⟩ = some (.int .i64 ph) := hN4.cell 0
                have c1 : w4.cell? ⟨N, 1, none⟩ = some (.int .i64 frm) := hN4.cell 1
                have c3 : w4.cell? ⟨N, 3, none⟩ = some (.int .i64 r) := hN4.cell 3
                have c4 : w4.cell? ⟨N, 4, none⟩ = some (.int .i64 q) := hN4.cell 4
                have c5 : w4.cell? ⟨N, 5, none⟩ = some (.slice s.a s.len s.cap) := hN4.cell 5
                have HM4 := Lib.hid (HM3.out.trans hm4)
                have HP4 := Lib.hid (HPr.out.below HM4.out)
                have HN4 := Lib.hid hN4
                have HO1 := Lib.hid ho1
                clear hN4 hm4 ho1 HS3 HN3 HM3
                go_wp2_with fail
                refine (accepted_rep b mp g frm 0 w4 HP4.out HIr.out.ok).mono ?_
                rintro e5 w5 ⟨rfl, hP5, hM5⟩
                have hI5 := HIr.out.acpt (f := frm) (e := 0) (by omega)
                have hmp5 : w.heap.size < mp := hmw
                obtain ⟨mp', hmp'⟩ : ∃ mp', mp' = mp := ⟨_, rfl⟩
                obtain ⟨g', hg⟩ : ∃ g', g' = gAccepted g frm 0 := ⟨_, rfl⟩
                rw [← hg, ← hmp'] at hP5
                rw [← hg] at hI5
                rw [← hmp'] at hmp5
                obtain rfl : g' = g := hg.trans (acpt_still (fun hh => HSTILL.out hh))
                clear c0 c1 c3 c4 c5
                have hN5 := HN4.out.mod hM5 (by simp; omega)
                have hB5 : Cel w5 w.heap.size lt.cells 54 := (HBr.out.mod HM4.out (by simp)).mod hM5 (by simp; omega)
                have hO5 := HO1.out.mod hM5 HP4.out.noBytes
                have hMw5 : Mod [] w w5 := (HMr.out.trans HM4.out).then hM5 (by simp; omega)
                have c0 : w5.cell? ⟨N, 0, none⟩ = some (.int .i64 ph) := hN5.cell 0
                have c1 : w5.cell? ⟨N, 1, none⟩ = some (.int .i64 frm) := hN5.cell 1
                have HS5 := Lib.hid (hP5.says hI5.ok.vb)
                have HCV5 := Lib.hid (fun (X : World) (hX : Mod [] w5 X) => conv8 (hO5.below hX).rd)
                have HN5 := Lib.hid hN5
                have HB5 := Lib.hid hB5
                have HMW := Lib.hid hMw5
                have HP5 := Lib.hid hP5
                have HI5 := Lib.hid hI5
                clear hN5 hB5 hO5 hMw5 hM5 hP5 hI5 HN4 HO1 HP4 HM4 hg hmp'
                have hcv1 := HCV5.out _ (Mod.refl [] w5).drew
                go_wp2_with fail
                refine wp_region_noPanic ?_
                refine wp_region_held_drew (S := (fun X => X.cell? ⟨N, 1, none⟩ = some (.int .i64 frm) ∧ (convert 26 9 (.slice s1.a s1.len s1.cap)).run Try.prog X = .ok (.string ⟨g'.vb.toArray⟩) X)) (by kernel_rfl) ⟨c1, hcv1⟩ (fun hHeld => ?_)
                refine wpAnyH_take (i := 0) (v := ?_) rfl (by kernel_rfl) (by kernel_rfl) (by kernel_rfl) (fun _ _ _ h => h) (Or.inl ⟨by rfl, ?_⟩) (by assumption) ?_; rotate_left; focus (intro wS hSw; (try dsimp only at hSw); first | (go_simp; done) | (go_simp; with_reducible rfl))
                simp only [List.getElem_toArray, List.getElem_cons_zero, Act.put, List.setIfInBounds_toArray, List.set_cons_zero, List.set_cons_succ]
                refine wpAnyH_take (i := 1) (v := ?_) rfl (by kernel_rfl) (by kernel_rfl) (by kernel_rfl) (fun _ _ _ h => h) (Or.inl ⟨by rfl, ?_⟩) (by assumption) ?_; rotate_left; focus (intro wS hSw; (try dsimp only at hSw); first | (go_simp; done) | (go_simp; with_reducible rfl))
                simp only [List.getElem_toArray, List.getElem_cons_succ, List.getElem_cons_zero, Act.put, List.setIfInBounds_toArray, List.set_cons_zero, List.set_cons_succ]
                refine wpAnyH_take (i := 2) (v := ?_) rfl (by kernel_rfl) (by kernel_rfl) (by kernel_rfl) (fun _ _ _ h => h) (Or.inl ⟨by rfl, ?_⟩) (by assumption) ?_; rotate_left; focus (intro wS hSw; (try dsimp only at hSw); first | (go_simp; done) | (go_simp; with_reducible rfl))
                simp only [List.getElem_toArray, List.getElem_cons_succ, List.getElem_cons_zero, Act.put, List.setIfInBounds_toArray, List.set_cons_zero, List.set_cons_succ]
                refine wpAnyH_take (i := 3) (v := ?_) rfl (by kernel_rfl) (by kernel_rfl) (by kernel_rfl) (fun _ _ _ h => h) (Or.inl ⟨by rfl, ?_⟩) (by assumption) ?_; rotate_left; focus (intro wS hSw; (try dsimp only at hSw); first | (go_simp; done) | (go_simp; with_reducible rfl))
                simp only [List.getElem_toArray, List.getElem_cons_succ, List.getElem_cons_zero, Act.put, List.setIfInBounds_toArray, List.set_cons_zero, List.set_cons_succ]
                refine wpAnyH_take (i := 4) (v := ?_) rfl (by kernel_rfl) (by kernel_rfl) (by kernel_rfl) (fun _ _ _ h => h) (Or.inl ⟨by rfl, ?_⟩) (by assumption) ?_; rotate_left; focus (intro wS hSw; (try dsimp only at hSw); first | (go_simp; done) | (go_simp; with_reducible rfl))
                simp only [List.getElem_toArray, List.getElem_cons_succ, List.getElem_cons_zero, Act.put, List.setIfInBounds_toArray, List.set_cons_zero, List.set_cons_succ]
                refine wpAnyH_take (i := 5) (v := ?_) rfl (by kernel_rfl) (by kernel_rfl) (by kernel_rfl) (fun _ _ _ h => h) (Or.inl ⟨by rfl, ?_⟩) (by assumption) ?_; rotate_left; focus (intro wS hSw; (try dsimp only at hSw); first | (go_simp; done) | (go_simp; with_reducible rfl))
                simp only [List.getElem_toArray, List.getElem_cons_succ, List.getElem_cons_zero, Act.put, List.setIfInBounds_toArray, List.set_cons_zero, List.set_cons_succ]
                refine wpAnyH_take (i := 6) (v := ?_) rfl (by kernel_rfl) (by kernel_rfl) (by kernel_rfl) (fun _ _ _ h => h) (Or.inl ⟨by rfl, ?_⟩) (by assumption) ?_; rotate_left; focus (intro wS hSw; (try dsimp only at hSw); first | (go_simp; done) | (go_simp; with_reducible rfl))
                simp only [List.getElem_toArray, List.getElem_cons_succ, List.getElem_cons_zero, Act.put, List.setIfInBounds_toArray, List.set_cons_zero, List.set_cons_succ]
                refine wpAnyH_take (i := 8) (v := ?_) rfl (by kernel_rfl) (by kernel_rfl) (by kernel_rfl) (fun _ _ _ h => h) (Or.inl ⟨by rfl, ?_⟩) (by assumption) ?_; rotate_left; focus (intro wS hSw; (try dsimp only at hSw); first | (go_simp; done) | (go_simp; with_reducible rfl))
                simp only [List.getElem_toArray, List.getElem_cons_succ, List.getElem_cons_zero, Act.put, List.setIfInBounds_toArray, List.set_cons_zero, List.set_cons_succ]
                refine wpAnyH_ready (rs := [7]) (by kernel_rfl) (by simp) ?_
                refine AllReadyH.cons rfl (fun K hK => ?_) AllReadyH.nil
                go_simp
                go_at_call 14
                refine (HS5.out.hp _ (Mod.refl _ _).drew).mono ?_
                rintro e6 w6 ⟨rfl, rfl⟩
                refine hK.out _ _ ?_ (fun hHeld => ?_)
                · exact hHeld
                clear hK K
                refine wpAnyH_take (i := 9) (v := ?_) rfl (by kernel_rfl) (by kernel_rfl) (by kernel_rfl) (fun _ _ _ h => h) (Or.inl ⟨by rfl, ?_⟩) (by assumption) ?_; rotate_left; focus (intro wS hSw; (try dsimp only at hSw); first | (go_simp; done) | (go_simp; with_reducible rfl))
                simp only [List.getElem_toArray, List.getElem_cons_succ, List.getElem_cons_zero, Act.put, List.setIfInBounds_toArray, List.set_cons_zero, List.set_cons_succ]
                refine wpAnyH_take (i := 10) (v := ?_) rfl (by kernel_rfl) (by kernel_rfl) (by kernel_rfl) (fun _ _ _ h => h) (Or.inl ⟨by rfl, ?_⟩) (by assumption) ?_; rotate_left; focus (intro wS hSw; (try dsimp only at hSw); first | (go_simp; done) | (go_simp; with_reducible rfl))
                simp only [List.getElem_toArray, List.getElem_cons_succ, List.getElem_cons_zero, Act.put, List.setIfInBounds_toArray, List.set_cons_zero, List.set_cons_succ]
                refine wpAnyH_take (i := 11) (v := ?_) rfl (by kernel_rfl) (by kernel_rfl) (by kernel_rfl) (fun _ _ _ h => h) (Or.inl ⟨by rfl, ?_⟩) (by assumption) ?_; rotate_left; focus (intro wS hSw; (try dsimp only at hSw); first | (go_simp; done) | (go_simp; with_reducible rfl))
                simp only [List.getElem_toArray, List.getElem_cons_succ, List.getElem_cons_zero, Act.put, List.setIfInBounds_toArray, List.set_cons_zero, List.set_cons_succ]
                refine wpAnyH_take (i := 14) (v := ?_) rfl (by kernel_rfl) (by kernel_rfl) (by kernel_rfl) (fun _ _ _ h => h) (Or.inl ⟨by rfl, ?_⟩) (by assumption) ?_; rotate_left; focus (intro wS hSw; (try dsimp only at hSw); first | (go_simp; done) | (go_simp; with_reducible rfl))
                simp only [List.getElem_toArray, List.getElem_cons_succ, List.getElem_cons_zero, Act.put, List.setIfInBounds_toArray, List.set_cons_zero, List.set_cons_succ]
                refine wpAnyH_take (i := 15) (v := ?_) rfl (by kernel_rfl) (by kernel_rfl) (by kernel_rfl) (fun _ _ _ h => h) (Or.inl ⟨by rfl, ?_⟩) (by assumption) ?_; rotate_left; focus (intro wS hSw; (try dsimp only at hSw); first | (go_simp; done) | (go_simp; with_reducible rfl))
                simp only [List.getElem_toArray, List.getElem_cons_succ, List.getElem_cons_zero, Act.put, List.setIfInBounds_toArray, List.set_cons_zero, List.set_cons_succ]
                refine wpAnyH_ready (rs := [12]) (by kernel_rfl) (by simp) ?_
                refine AllReadyH.cons rfl (fun K hK => ?_) AllReadyH.nil
                go_simp
                go_at_call 18
                refine (HS5.out.hv _ (Mod.refl _ _).drew).mono ?_
                rintro e7 w7 ⟨s2, rfl, ho2, hm7⟩
                have hcv2 := conv8 ho2.rd
                have mD := (Mod.refl [] w5).drew.trans hm7
                have hcv3 := HCV5.out _ mD
                have c1b : w7.cell? ⟨N, 1, none⟩ = some (.int .i64 frm) := (HN5.out.mod mD (by simp)).cell 1
                refine hK.out _ _ ?_ (fun hHeld => ?_)
                · exact ⟨c1b, hcv3⟩
                clear hK K
                refine held_grow (S' := (fun X => (convert 26 9 (.slice s2.a s2.len s2.cap)).run Try.prog X = .ok (.string ⟨g'.vb.toArray⟩) X ∧ X.cell? ⟨N, 1, none⟩ = some (.int .i64 frm) ∧ (convert 26 9 (.slice s1.a s1.len s1.cap)).run Try.prog X = .ok (.string ⟨g'.vb.toArray⟩) X)) (fun X hX => hX.2) _ _ _ _ ?_
                have hHeld2 : (fun X => (convert 26 9 (.slice s2.a s2.len s2.cap)).run Try.prog X = .ok (.string ⟨g'.vb.toArray⟩) X ∧ X.cell? ⟨N, 1, none⟩ = some (.int .i64 frm) ∧ (convert 26 9 (.slice s1.a s1.len s1.cap)).run Try.prog X = .ok (.string ⟨g'.vb.toArray⟩) X) w7 := ⟨hcv2, c1b, hcv3⟩
                refine wpAnyH_take (i := 13) (v := ?_) rfl (by kernel_rfl) (by kernel_rfl) (by kernel_rfl) (fun _ _ _ h => h) (Or.inl ⟨by rfl, ?_⟩) (by assumption) ?_; rotate_left; focus (intro wS hSw; (try dsimp only at hSw); first | (go_simp; done) | (go_simp; with_reducible rfl))
                simp only [List.getElem_toArray, List.getElem_cons_succ, List.getElem_cons_zero, Act.put, List.setIfInBounds_toArray, List.set_cons_zero, List.set_cons_succ]
                refine wpAnyH_take (i := 16) (v := ?_) rfl (by kernel_rfl) (by kernel_rfl) (by kernel_rfl) (fun _ _ _ h => h) (Or.inl ⟨by rfl, ?_⟩) (by assumption) ?_; rotate_left; focus (intro wS hSw; (try dsimp only at hSw); first | (go_simp; done) | (go_simp; with_reducible rfl))
                simp only [List.getElem_toArray, List.getElem_cons_succ, List.getElem_cons_zero, Act.put, List.setIfInBounds_toArray, List.set_cons_zero, List.set_cons_succ]
                refine wpAnyH_take (i := 17) (v := ?_) rfl (by kernel_rfl) (by kernel_rfl) (by kernel_rfl) (fun _ _ _ h => h) (Or.inl ⟨by rfl, ?_⟩) (by assumption) ?_; rotate_left; focus (intro wS hSw; (try dsimp only at hSw); first | (go_simp; done) | (go_simp; with_reducible rfl))
                simp only [List.getElem_toArray, List.getElem_cons_succ, List.getElem_cons_zero, Act.put, List.setIfInBounds_toArray, List.set_cons_zero, List.set_cons_succ]
                refine wpAnyH_take (i := 18) (v := ?_) rfl (by kernel_rfl) (by kernel_rfl) (by kernel_rfl) (fun _ _ _ h => h) (Or.inl ⟨by rfl, ?_⟩) (by assumption) ?_; rotate_left; focus (intro wS hSw; (try dsimp only at hSw); first | (go_simp; done) | (go_simp; with_reducible rfl))
                simp only [List.getElem_toArray, List.getElem_cons_succ, List.getElem_cons_zero, Act.put, List.setIfInBounds_toArray, List.set_cons_zero, List.set_cons_succ]
                refine wpAnyH_take (i := 19) (v := ?_) rfl (by kernel_rfl) (by kernel_rfl) (by kernel_rfl) (fun _ _ _ h => h) (Or.inl ⟨by rfl, ?_⟩) (by assumption) ?_; rotate_left; focus (intro wS hSw; (try dsimp only at hSw); first | (go_simp; done) | (go_simp; with_reducible rfl))
                simp only [List.getElem_toArray, List.getElem_cons_succ, List.getElem_cons_zero, Act.put, List.setIfInBounds_toArray, List.set_cons_zero, List.set_cons_succ]
                refine wpAnyH_take (i := 20) (v := ?_) rfl (by kernel_rfl) (by kernel_rfl) (by kernel_rfl) (fun _ _ _ h => h) (Or.inl ⟨by rfl, ?_⟩) (by assumption) ?_; rotate_left; focus (intro wS hSw; (try dsimp only at hSw); first | (go_simp; done) | (go_simp; with_reducible rfl))
                simp only [List.getElem_toArray, List.getElem_cons_succ, List.getElem_cons_zero, Act.put, List.setIfInBounds_toArray, List.set_cons_zero, List.set_cons_succ]
                refine wpAnyH_take (i := 21) (v := ?_) rfl (by kernel_rfl) (by kernel_rfl) (by kernel_rfl) (fun _ _ _ h => h) (Or.inl ⟨by rfl, ?_⟩) (by assumption) ?_; rotate_left; focus (intro wS hSw; (try dsimp only at hSw); first | (go_simp; done) | (go_simp; with_reducible rfl))
                simp only [List.getElem_toArray, List.getElem_cons_succ, List.getElem_cons_zero, Act.put, List.setIfInBounds_toArray, List.set_cons_zero, List.set_cons_succ]
                refine wpAnyH_take (i := 23) (v := ?_) rfl (by kernel_rfl) (by kernel_rfl) (by kernel_rfl) (fun _ _ _ h => h) (Or.inl ⟨by rfl, ?_⟩) (by assumption) ?_; rotate_left; focus (intro wS hSw; (try dsimp only at hSw); first | (go_simp; done) | (go_simp; with_reducible rfl))
                simp only [List.getElem_toArray, List.getElem_cons_succ, List.getElem_cons_zero, Act.put, List.setIfInBounds_toArray, List.set_cons_zero, List.set_cons_succ]
                refine wpAnyH_ready (rs := [22]) (by kernel_rfl) (by simp) ?_
                refine AllReadyH.cons rfl (fun K hK => ?_) AllReadyH.nil
                go_simp
                go_at_call 15
                refine (HS5.out.ha _ frm mD).mono ?_
                rw [HA.out]
                rintro e8 w8 ⟨rfl, hm8⟩
                have mE := mD.trans hm8
                refine hK.out _ _ ?_ (fun hHeld => ?_)
                · exact ⟨conv8 (ho2.below hm8).rd, (HN5.out.mod mE (by simp)).cell 1, HCV5.out _ mE⟩
                clear hK K
                refine wpAnyH_take (i := 24) (v := ?_) rfl (by kernel_rfl) (by kernel_rfl) (by kernel_rfl) (fun _ _ _ h => h) (Or.inl ⟨by rfl, ?_⟩) (by assumption) ?_; rotate_left; focus (intro wS hSw; (try dsimp only at hSw); first | (go_simp; done) | (go_simp; with_reducible rfl))
                simp only [List.getElem_toArray, List.getElem_cons_succ, List.getElem_cons_zero, Act.put, List.setIfInBounds_toArray, List.set_cons_zero, List.set_cons_succ]
                refine wpAnyH_take (i := 25) (v := ?_) rfl (by kernel_rfl) (by kernel_rfl) (by kernel_rfl) (fun _ _ _ h => h) (Or.inl ⟨by rfl, ?_⟩) (by assumption) ?_; rotate_left; focus (intro wS hSw; (try dsimp only at hSw); first | (go_simp; done) | (go_simp; with_reducible rfl))
                simp only [List.getElem_toArray, List.getElem_cons_succ, List.getElem_cons_zero, Act.put, List.setIfInBounds_toArray, List.set_cons_zero, List.set_cons_succ]
                refine wpAnyH_take (i := 26) (v := ?_) rfl (by kernel_rfl) (by kernel_rfl) (by kernel_rfl) (fun _ _ _ h => h) (Or.inl ⟨by rfl, ?_⟩) (by assumption) ?_; rotate_left; focus (intro wS hSw; (try dsimp only at hSw); first | (go_simp; done) | (go_simp; with_reducible rfl))
                simp only [List.getElem_toArray, List.getElem_cons_succ, List.getElem_cons_zero, Act.put, List.setIfInBounds_toArray, List.set_cons_zero, List.set_cons_succ]
                refine wpAnyH_done (by kernel_rfl) ?_ _
                refine NoPanic.normal ?_
                go_wp2
                go_roundw
                case rel => exact LateRel.mk (k + 1) mp' g' ⟨by omega, by go_num, HI5.out, HP5.out.below mE, hmp5, HB5.out.mod mE (by simp), HMW.out.trans mE⟩
                case measure => simp [intOf]; omega
    · obtain rfl : k = olen := by omega
      have HS := Lib.hid (hP.says hI.ok.vb)
      have HP := Lib.hid hP
      have HI := Lib.hid hI
      have HB := Lib.hid hB
      have HMR := Lib.hid hMr
      clear hP hI hB hMr
      go_wp2_with fail
      refine wp_region_noPanic ?_
      refine wp_region_held_drew (S := (fun _ => True)) (by kernel_rfl) trivial (fun hHeld => ?_)
      refine wpAnyH_take (i := 0) (v := ?_) rfl (by kernel_rfl) (by kernel_rfl) (by kernel_rfl) (fun _ _ _ h => h) (Or.inl ⟨by rfl, ?_⟩) (by assumption) ?_; rotate_left; focus (intro wS hSw; (try dsimp only at hSw); first | (go_simp; done) | (go_simp; with_reducible rfl))
      simp only [List.getElem_toArray, List.getElem_cons_zero, Act.put, List.setIfInBounds_toArray, List.set_cons_zero, List.set_cons_succ]
      refine wpAnyH_take (i := 2) (v := ?_) rfl (by kernel_rfl) (by kernel_rfl) (by kernel_rfl) (fun _ _ _ h => h) (Or.inl ⟨by rfl, ?_⟩) (by assumption) ?_; rotate_left; focus (intro wS hSw; (try dsimp only at hSw); first | (go_simp; done) | (go_simp; with_reducible rfl))
      simp only [List.getElem_toArray, List.getElem_cons_succ, List.getElem_cons_zero, Act.put, List.setIfInBounds_toArray, List.set_cons_zero, List.set_cons_succ]
      refine wpAnyH_ready (rs := [1]) (by kernel_rfl) (by simp) ?_
      refine AllReadyH.cons rfl (fun K hK => ?_) AllReadyH.nil
      go_simp
      go_at_call 14
      refine (HS.out.hp _ (Mod.refl _ _).drew).mono ?_
      rintro e6 w6 ⟨rfl, rfl⟩
      refine hK.out _ _ ?_ (fun hHeld => ?_)
      · trivial
      clear hK K
      refine wpAnyH_ready (rs := [3]) (by kernel_rfl) (by simp) ?_
      refine AllReadyH.cons rfl (fun K hK => ?_) AllReadyH.nil
      go_simp
      go_at_call 18
      refine (HS.out.hv _ (Mod.refl _ _).drew).mono ?_
      rintro e7 w7 ⟨s2, rfl, ho2, hm7⟩
      have hcv2 := conv8 ho2.rd
      have mD := (Mod.refl [] wr).drew.trans hm7
      refine hK.out _ _ ?_ (fun hHeld => ?_)
      · trivial
      clear hK K
      refine held_grow (S' := (fun X => (convert 26 9 (.slice s2.a s2.len s2.cap)).run Try.prog X = .ok (.string ⟨g.vb.toArray⟩) X)) (fun X hX => trivial) _ _ _ _ ?_
      have hHeld2 : (fun X => (convert 26 9 (.slice s2.a s2.len s2.cap)).run Try.prog X = .ok (.string ⟨g.vb.toArray⟩) X) w7 := hcv2
      refine wpAnyH_take (i := 4) (v := ?_) rfl (by kernel_rfl) (by kernel_rfl) (by kernel_rfl) (fun _ _ _ h => h) (Or.inl ⟨by rfl, ?_⟩) (by assumption) ?_; rotate_left; focus (intro wS hSw; (try dsimp only at hSw); first | (go_simp; done) | (go_simp; with_reducible rfl))
      simp only [List.getElem_toArray, List.getElem_cons_succ, List.getElem_cons_zero, Act.put, List.setIfInBounds_toArray, List.set_cons_zero, List.set_cons_succ]
      refine wpAnyH_take (i := 5) (v := ?_) rfl (by kernel_rfl) (by kernel_rfl) (by kernel_rfl) (fun _ _ _ h => h) (Or.inl ⟨by rfl, ?_⟩) (by assumption) ?_; rotate_left; focus (intro wS hSw; (try dsimp only at hSw); first | (go_simp; done) | (go_simp; with_reducible rfl))
      simp only [List.getElem_toArray, List.getElem_cons_succ, List.getElem_cons_zero, Act.put, List.setIfInBounds_toArray, List.set_cons_zero, List.set_cons_succ]
      refine wpAnyH_take (i := 6) (v := ?_) rfl (by kernel_rfl) (by kernel_rfl) (by kernel_rfl) (fun _ _ _ h => h) (Or.inl ⟨by rfl, ?_⟩) (by assumption) ?_; rotate_left; focus (intro wS hSw; (try dsimp only at hSw); first | (go_simp; done) | (go_simp; with_reducible rfl))
      simp only [List.getElem_toArray, List.getElem_cons_succ, List.getElem_cons_zero, Act.put, List.setIfInBounds_toArray, List.set_cons_zero, List.set_cons_succ]
      refine wpAnyH_done (by kernel_rfl) ?_ _
      refine NoPanic.normal ?_
      have hB7 := HB.out.mod mD (by simp)
      have b3 : w7.cell? ⟨w.heap.size, 3, none⟩ = some (.int .i64 lt.r) := hB7.cell 3
      have b4 : w7.cell? ⟨w.heap.size, 4, none⟩ = some (.int .i64 lt.w) := hB7.cell 4
      have b5 : w7.cell? ⟨w.heap.size, 5, none⟩ = some (.slice lt.val.a lt.val.len lt.val.cap) := hB7.cell 5
      go_wp2_with fail
      refine (promised_rep b mp g n lt.r lt.w lt.val ll 0 w7 (HP.out.below mD) HI.out.ok (HL.out.below (HMR.out.trans mD)) hlb).mono ?_
      rintro e8 w8 ⟨rfl, g1, mp1, hg1, hmp1, hP8, hM8⟩
      rw [prom_still (fun hh => by rw [HI.out.nobody (.inr (Int.le_refl n))] at hh; cases hh.2) hg1] at hP8
      clear b3 b4 b5 hg1
      have hmp1' : w.heap.size < mp1 := by have := hB7.lt; rcases hmp1 with h | h <;> omega
      have hB8 := hB7.mod hM8 (by simp; omega)
      have hMw8 : Mod [] w w8 := (HMR.out.trans mD).then hM8 (by simp; omega)
      have b3 : w8.cell? ⟨w.heap.size, 3, none⟩ = some (.int .i64 lt.r) := hB8.cell 3
      have b4 : w8.cell? ⟨w.heap.size, 4, none⟩ = some (.int .i64 lt.w) := hB8.cell 4
      have b5 : w8.cell? ⟨w.heap.size, 5, none⟩ = some (.slice lt.val.a lt.val.len lt.val.cap) := hB8.cell 5
      clear hB7 hM8 hmp1
      go_wp2_with fail
      refine (promised_rep b mp1 g (-1) lt.r lt.w lt.val ll 0 w8 hP8 HI.out.ok (HL.out.below hMw8) hlb).mono ?_
      rintro e9 w9 ⟨rfl, g2, mp2, hg2, hmp2, hP9, hM9⟩
      rw [prom_still (fun hh => by rw [HI.out.nobody (.inl (by decide))] at hh; cases hh.2) hg2] at hP9
      have hmp2' : w.heap.size < mp2 := by have := hB8.lt; rcases hmp2 with h | h <;> omega
      have hMw9 : Mod [] w w9 := hMw8.then hM9 (by simp; omega)
      clear b3 b4 b5 hg2 hB8 hM9 hMw8 hP8
      go_wp2_with fail
      refine (accepted_rep b mp2 g n 0 w9 hP9 HI.out.ok).mono ?_
      rintro e10 w10 ⟨rfl, hP10, hM10⟩
      rw [acpt_still (fun hh => by rw [HI.out.nobody (.inr (Int.le_refl n))] at hh; cases hh.2)] at hP10
      have hMw10 : Mod [] w w10 := hMw9.then hM10 (by simp; omega)
      have HS10 := Lib.hid (hP10.says HI.out.ok.vb)
      clear hP9 hM10 hMw9 hP10
      go_wp2_with (first
        | (go_at_call 14; refine (HS10.out.hp _ (Mod.refl _ _)).mono ?_; rintro e11 w11 ⟨rfl, rfl⟩)
        | (go_at_call 18; refine (HS10.out.hv _ (Mod.refl _ _)).mono ?_; rintro e12 w12 ⟨s3, rfl, ho3, hm12⟩; have hcv3 := conv8 ho3.rd)
        | fail)
      go_ret
      exact ⟨rfl, hMw10.trans hm12⟩
end Go.Proofs.Ytlkfejnjdlebbaa
