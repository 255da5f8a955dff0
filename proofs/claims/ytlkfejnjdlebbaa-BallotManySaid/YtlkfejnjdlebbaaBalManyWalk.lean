/- The walk of BallotMany: it answers true, and turns nothing that was there. No condition. -/
import Derived.Test.YtlkfejnjdlebbaaBalManyLaw
import Derived.Test.YtlkfejnjdlebbaaOpenB
namespace Go.Proofs.Ytlkfejnjdlebbaa
open Go.RowKit

def ManyRel (w : World) (n : Int) (v : List UInt8) (b olen : Nat) (s i : Value) (wr : World) : Prop :=
  ∃ (k M mp : Nat) (g : GSt) (S : AL Int) (c : Nat), k ≤ olen ∧ i = .int .i64 k ∧ s = .map (some M) ∧ MInv n v g S ∧ PRep wr b mp g ∧ wr.heap[M]? = some (mapObj intE S c) ∧ M ≠ b ∧ M ≠ mp ∧ w.heap.size ≤ M ∧ w.heap.size ≤ mp ∧ Mod [] w wr
theorem ManyRel.mk {w : World} {n : Int} {v : List UInt8} {b olen : Nat} {s i : Value} {wr : World} (k M mp : Nat) (g : GSt) (S : AL Int) (c : Nat) (h : k ≤ olen ∧ i = .int .i64 k ∧ s = .map (some M) ∧ MInv n v g S ∧ PRep wr b mp g ∧ wr.heap[M]? = some (mapObj intE S c) ∧ M ≠ b ∧ M ≠ mp ∧ w.heap.size ≤ M ∧ w.heap.size ≤ mp ∧ Mod [] w wr) : ManyRel w n v b olen s i wr := ⟨k, M, mp, g, S, c, h⟩

set_option maxRecDepth 100000 in
set_option maxHeartbeats 4000000 in
theorem many_true (acc : Int) (ob : Option Addr) (olen ocap : Nat) (z : Nat → Int) (vs : Slc) (v : List UInt8) (w : World) (h3 : olen ≤ 100) (h4 : vs.len ≤ 100) (hz : IntsAt w ob olen z) (hv : Rd8 w vs v) :
    Calls Try.prog 5 #[.int .i64 acc, .slice ob olen ocap, .slice vs.a vs.len vs.cap] w fun e w' => e = .returned (.bool true) ∧ Mod [] w w' := by
  have d1 : (olen : Int) ≤ 100 := by omega
  have d2 : (vs.len : Int) ≤ 100 := by omega
  have hmm := @run_makeMap Try.prog
  have ha7 := and7 acc
  have hN0 : 0 ≤ acc % 8 ∧ acc % 8 ≤ 7 := by omega
  generalize acc % 8 = N0 at ha7 hN0
  have hvl : v.length ≤ 100 := by rw [hv.len]; exact h4
  go_enter Try.func5, Try.ntmps5
  go_wp2_with fail
  refine (bspeaks_any _).mono ?_
  rintro e w0 ⟨rfl, hm0⟩
  go_wp2_with fail
  refine (start_bal (N0 + 1) 1 0 vs v w0 (hv.below hm0) (by omega) (by omega)).mono ?_
  rintro e w1 ⟨b, m0, rfl, hb, hm0', hP, hM1⟩
  have hMa : Mod [] w w1 := hm0.trans hM1
  have hb' : w.heap.size ≤ b := by have := hm0.size; omega
  have hm' : w.heap.size ≤ m0 := by have := hm0.size; omega
  have hlt := hP.lt
  have hsz1 := hMa.size
  obtain ⟨n, hn⟩ : ∃ n, n = N0 + 1 := ⟨_, rfl⟩
  rw [← hn] at hP ⊢
  have hn1 : 1 ≤ n := by omega
  have hn8 : n ≤ 8 := by omega
  clear hn hN0 hm0 hM1 hb hm0' ha7
  go_wp2_with fail
  have hrel0 : ManyRel w n v b olen (.map (some w1.heap.size)) (.int .i64 0) (w1.alloc (.map #[] 0)) := ManyRel.mk 0 w1.heap.size m0 _ [] 0 ⟨Nat.zero_le _, rfl, rfl, MInv.start n v hn1, hP.below ((Mod.refl _ _).alloc _), (by rw [hp_alloc, if_pos rfl]; rfl), by omega, by omega, hsz1, hm', hMa.alloc _⟩
  clear hP hm' hlt hsz1 hMa
  go_loopw [9, 33] (fun s i wr => ManyRel w n v b olen s i wr) (fun _ i _ => olen - (intOf i).toNat)
  case atStart => exact hrel0
  case round =>
    obtain ⟨k, M, mp, g, S, c, hk, rfl, rfl, hI, hP, hmap, hMb, hMm, hMw, hmpw, hMr⟩ := hrel
    clear hrel0
    by_cases hlt : k < olen
    · obtain ⟨x, rfl, hxs, hxw, hx⟩ := hz k hlt
      obtain ⟨xb, xo, xs⟩ := x
      simp only at hx hxw hxs
      subst hxs
      have hx' : wr.cell? ⟨xb, xo + k, none⟩ = some (.int .i64 (z k)) := (hMr.cell (a := ⟨xb, xo + k, none⟩) hxw (by simp)).trans hx
      generalize z k = xk at hx'
      have hff := andffff xk
      have hA1 : 0 ≤ xk % 65536 ∧ xk % 65536 ≤ 65535 := by omega
      generalize xk % 65536 = A1 at hff hA1
      obtain ⟨a, ha⟩ : ∃ a, a = A1.tmod n := ⟨_, rfl⟩
      have ha' : a = A1 % n := by rw [ha]; exact Int.tmod_eq_emod_of_nonneg hA1.1
      have ha0 : 0 ≤ a := by rw [ha']; exact Int.emod_nonneg _ (by omega)
      have han : a < n := by rw [ha']; exact Int.emod_lt_of_pos _ (by omega)
      have hrem : A1.tmod n = a := ha.symm
      have hn0 : (n == 0) = false := by rw [beq_eq_false_iff_ne]; omega
      have hn00 : n ≠ 0 := by omega
      have HZ := Lib.hid hz
      have HV := Lib.hid hv
      clear ha ha' hz hv hx
      have hph := phase_rep b mp g wr hP
      rcases hI.ph with h1 | h1 | h1
      · rw [h1] at hph
        have hstep := hI.one hn1 ha0 han h1 c
        have has := hI.asked ha0 han (by omega)
        have hse := hI.seen a
        have hok := hI.ok hn1 hn8 hvl (by omega)
        have hok2 := gPromE_ok hok a (hI.small hn8 (by omega))
        have hq : n.tdiv 2 = n / 2 := Int.tdiv_eq_ediv_of_nonneg (by omega)
        have hqa : 0 ≤ n / 2 := by omega
        have hqb : n / 2 ≤ 4 := by omega
        generalize n / 2 = q at hstep hq hqa hqb
        have hask : ∀ X, Mod [] wr X → Calls Try.prog 15 #[.pointer (some ⟨b, 0, none⟩), .int .i64 a] X fun e w' => e = .returned (.bool (!gHas g a)) ∧ Mod [] X w' := fun X hX => by rw [← has]; exact asked_rep b mp g a X (hP.below hX)
        have hlk : ∀ X : World, X.heap[M]? = some (mapObj intE S c) → (Instr.lookup 46 (.map (some M)) (.int .i64 a) false).run Try.prog X = .ok (.bool (gHas g a)) X := fun X hX => by
          have := run_lookup_raw (int_enc Try.underlying3) Try.underlying46 hX a (.bool false) (by kernel_rfl) false
          rw [hse] at this
          exact this
        generalize gHas g a = H at hask hlk
        have hML := lt_of_block hmap
        have hPL := hP.lt
        have HASK := Lib.hid hask
        have HLK := Lib.hid hlk
        have HPH := Lib.hid hph
        have HST := Lib.hid hstep
        have HP := Lib.hid hP
        have HMP := Lib.hid hmap
        have HNC := Lib.hid hI.nc
        have HOK := Lib.hid hok
        have HOK2 := Lib.hid hok2
        have HMR := Lib.hid hMr
        have K : KeyEnc Try.prog 3 intE := int_enc Try.underlying3
        clear hask hlk hph hstep hP hmap hok hok2 hMr hI has hse
        go_wp2_with fail
        refine HPH.out.mono ?_
        rintro e2 w2 ⟨rfl, rfl⟩
        go_wp2_with fail
        go_region_held3 (fun w' => (Instr.lookup 46 (.map (some M)) (.int .i64 a) false).run Try.prog w' = .ok (.bool H) w') (first | exact HLK.out _ HMP.out | exact HLK.out _ hmap3)
          (first | (go_at_call 15; refine (HASK.out _ (Mod.refl _ _).drew).mono ?_; rintro e3 w3 ⟨rfl, hm3⟩; have hmap3 : w3.heap[M]? = some (mapObj intE S c) := (hm3.block M hML (by simp)).trans HMP.out))
        all_goals
          rename_i hheld
          clear hheld
          have hm3' : Mod [] wr w3 := (Mod.refl [] wr).drew.trans hm3
          have hP3 := HP.out.below hm3'
          have hM3 : Mod [] w w3 := HMR.out.trans hm3'
          have hML3 := lt_of_block hmap3
          clear hm3
          go_wp2_with fail
          refine (promisedE_rep b mp g a w3 hP3 HOK.out HNC.out).mono ?_
          rintro e4 w4 ⟨rfl, mp', hmp', hP4, hM4⟩
          have hmap4 : w4.heap[M]? = some (mapObj intE S c) := (hM4.block M hML3 (by simp; omega)).trans hmap3
          have hM4' : Mod [] w w4 := hM3.then hM4 (by simp; omega)
          have hmM : mp' ≠ M := by rcases hmp' with h | h <;> omega
          have hmw : w.heap.size ≤ mp' := by have := hM3.size; rcases hmp' with h | h <;> omega
          have hML4 := lt_of_block hmap4
          clear hM4 hP3 hmap3 hmp' hM3
          go_wp2_with fail
          refine (accepted_rep b mp' (gPromE g a) a 0 w4 hP4 HOK2.out).mono ?_
          rintro e5 w5 ⟨rfl, hP5, hM5⟩
          have hmap5 : w5.heap[M]? = some (mapObj intE S c) := (hM5.block M hML4 (by simp; omega)).trans hmap4
          have hM5' : Mod [] w w5 := hM4'.then hM5 (by simp; omega)
          have hML5 := lt_of_block hmap5
          have hP5' : PRep w5 b mp' (mStep g a) := hP5
          clear hM5 hP4 hmap4 hP5 hM4'
          have hst := HST.out
          generalize mStep g a = g' at hst hP5'
          have hm6 : Mod [M] w5 (World.setObj w5 M (mapObj intE (alPut a (.bool true) c S) (alClock a S c))) := (Mod.refl _ _).setObj (.inl (by simp)) _
          have hP6 : PRep (World.setObj w5 M (mapObj intE (alPut a (.bool true) c S) (alClock a S c))) b mp' g' := hP5'.mod hm6 (by simp; omega) (by simp; omega) (fun x hx => by simp at hx; subst hx; exact map_noBytes hmap5)
          have hmap6 : (World.setObj w5 M (mapObj intE (alPut a (.bool true) c S) (alClock a S c))).heap[M]? = some (mapObj intE (alPut a (.bool true) c S) (alClock a S c)) := by rw [hp_setObj _ _ _ _ hML5, if_pos rfl]
          have hM6 : Mod [] w (World.setObj w5 M (mapObj intE (alPut a (.bool true) c S) (alClock a S c))) := hM5'.setObj (.inr hMw) _
          have hlen : (Builtin.len_ #[46] 3 #[.map (some M)]).run Try.prog (World.setObj w5 M (mapObj intE (alPut a (.bool true) c S) (alClock a S c))) = .ok (.int .i64 ((alPut a (.bool true) c S).length : Int)) (World.setObj w5 M (mapObj intE (alPut a (.bool true) c S) (alClock a S c))) :=
            run_len_map (enc := intE) Try.underlying46 hmap6
          generalize hS' : alPut a (.bool true) c S = S' at hst hP6 hmap6 hM6 hlen
          generalize hW6 : World.setObj w5 M (mapObj intE S' (alClock a S c)) = W6 at hP6 hmap6 hM6 hlen
          have hph6 := phase_rep b mp' g' W6 hP6
          have HMAP5 := Lib.hid hmap5
          have HS' := Lib.hid hS'
          have HW6 := Lib.hid hW6
          have HP6 := Lib.hid hP6
          have HMAP6 := Lib.hid hmap6
          have HM6 := Lib.hid hM6
          have hPL6 := hP6.lt
          have hML6 := lt_of_block hmap6
          have hsz6 := hM6.size
          clear hmap5 hm6 hP5' hM5' hS' hW6 hP6 hmap6 hM6
          rcases hst with ⟨p1, l1, hI'⟩ | ⟨l1, hI', hways⟩
          · 
            rw [p1] at hph6
            have HPH6 := Lib.hid hph6
            have HI := Lib.hid hI'
            clear hph6 hI' HST HLK HASK HP HMP HMR
            go_wp2_with (first
              | (refine wpList_mapUpdate_raw K rfl _ _ _ 46 rfl Try.underlying46 M a (.bool true) S c rfl rfl rfl HMAP5.out ?_; rw [HS'.out, HW6.out])
              | (go_at_call 14; refine HPH6.out.mono ?_; rintro e7 w7 ⟨rfl, rfl⟩)
              | fail)
            go_roundw
            case rel => exact ManyRel.mk (k + 1) M mp' g' S' _ ⟨by omega, by go_num, rfl, HI.out, HP6.out, HMAP6.out, hMb, Ne.symm hmM, hMw, hmw, HM6.out⟩
            case measure => simp [intOf]; omega
          · have l2 : ¬ (S'.length : Int) ≤ q := by omega
            have hP7 := HP6.out.below ((Mod.refl [] W6).alloc (.map #[] 0))
            have hmap7 : (W6.alloc (.map #[] 0)).heap[W6.heap.size]? = some (mapObj intE [] 0) := by rw [hp_alloc, if_pos rfl]; rfl
            have hm8 : Mod [] W6 (World.setObj (W6.alloc (.map #[] 0)) W6.heap.size (mapObj intE [(a, .bool true, 0)] 1)) := ((Mod.refl [] W6).alloc (.map #[] 0)).setObj (.inr (Nat.le_refl _)) _
            have hP8 := HP6.out.below hm8
            have hmap8 : (World.setObj (W6.alloc (.map #[] 0)) W6.heap.size (mapObj intE [(a, .bool true, 0)] 1)).heap[W6.heap.size]? = some (mapObj intE [(a, .bool true, 0)] 1) := by rw [hp_setObj _ _ _ _ (by simp), if_pos rfl]
            have hM8 := HM6.out.trans hm8
            generalize hW8 : World.setObj (W6.alloc (.map #[] 0)) W6.heap.size (mapObj intE [(a, .bool true, 0)] 1) = W8 at hm8 hP8 hmap8 hM8
            have hph8 := phase_rep b mp' g' W8 hP8
            have HW8 := Lib.hid (show World.setObj (W6.alloc (.map #[] 0)) W6.heap.size (mapObj intE (alPut a (.bool true) 0 []) (alClock a [] 0)) = W8 from hW8)
            have HP8 := Lib.hid hP8
            have HMAP7 := Lib.hid hmap7
            have HMAP8 := Lib.hid hmap8
            have HM8 := Lib.hid hM8
            have HI := Lib.hid hI'
            clear hph6 hI' HST HLK HASK HP HMP HMR hP7 hmap7 hm8 hP8 hmap8 hM8 hW8
            rcases hways with ⟨hn2, p1⟩ | ⟨hn2, p1⟩
            all_goals
              rw [p1] at hph8
              have HPH6 := Lib.hid hph8
              clear hph8
            · have hb1 : (n == 1) = false := by rw [beq_eq_false_iff_ne]; omega
              go_wp2_with (first
                | (refine wpList_mapUpdate_raw K rfl _ _ _ 46 rfl Try.underlying46 M a (.bool true) S c rfl rfl rfl HMAP5.out ?_; rw [HS'.out, HW6.out])
                | (refine wpList_insert_raw K rfl _ _ _ 46 rfl Try.underlying46 W6.heap.size a (.bool true) [] 0 rfl rfl rfl HMAP7.out ?_; rw [HW8.out])
                | (go_at_call 14; refine HPH6.out.mono ?_; rintro e7 w7 ⟨rfl, rfl⟩)
                | fail)
              go_roundw
              case rel => exact ManyRel.mk (k + 1) W6.heap.size mp' g' _ _ ⟨by omega, by go_num, rfl, HI.out, HP8.out, HMAP8.out, by omega, by omega, by omega, hmw, HM8.out⟩
              case measure => simp [intOf]; omega
            · subst hn2
              go_wp2_with (first
                | (refine wpList_mapUpdate_raw K rfl _ _ _ 46 rfl Try.underlying46 M a (.bool true) S c rfl rfl rfl HMAP5.out ?_; rw [HS'.out, HW6.out])
                | (refine wpList_insert_raw K rfl _ _ _ 46 rfl Try.underlying46 W6.heap.size a (.bool true) [] 0 rfl rfl rfl HMAP7.out ?_; rw [HW8.out])
                | (go_at_call 14; refine HPH6.out.mono ?_; rintro e7 w7 ⟨rfl, rfl⟩)
                | fail)
              go_roundw
              case rel => exact ManyRel.mk (k + 1) W6.heap.size mp' g' _ _ ⟨by omega, by go_num, rfl, HI.out, HP8.out, HMAP8.out, by omega, by omega, by omega, hmw, HM8.out⟩
              case measure => simp [intOf]; omega
      · rw [h1] at hph
        have hstep := hI.two ha0 han h1 c
        have has := hI.asked ha0 han (by omega)
        have hse := hI.seen a
        have hok := hI.ok hn1 hn8 hvl (by omega)
        have hok2 := gPromE_ok hok a (hI.small hn8 (by omega))
        have hq : n.tdiv 2 = n / 2 := Int.tdiv_eq_ediv_of_nonneg (by omega)
        have hqa : 0 ≤ n / 2 := by omega
        have hqb : n / 2 ≤ 4 := by omega
        generalize n / 2 = q at hstep hq hqa hqb
        have hask : ∀ X, Mod [] wr X → Calls Try.prog 15 #[.pointer (some ⟨b, 0, none⟩), .int .i64 a] X fun e w' => e = .returned (.bool (!gHas g a)) ∧ Mod [] X w' := fun X hX => by rw [← has]; exact asked_rep b mp g a X (hP.below hX)
        have hlk : ∀ X : World, X.heap[M]? = some (mapObj intE S c) → (Instr.lookup 46 (.map (some M)) (.int .i64 a) false).run Try.prog X = .ok (.bool (gHas g a)) X := fun X hX => by
          have := run_lookup_raw (int_enc Try.underlying3) Try.underlying46 hX a (.bool false) (by kernel_rfl) false
          rw [hse] at this
          exact this
        generalize gHas g a = H at hask hlk
        have hML := lt_of_block hmap
        have hPL := hP.lt
        have HASK := Lib.hid hask
        have HLK := Lib.hid hlk
        have HPH := Lib.hid hph
        have HST := Lib.hid hstep
        have HP := Lib.hid hP
        have HMP := Lib.hid hmap
        have HNC := Lib.hid hI.nc
        have HOK := Lib.hid hok
        have HOK2 := Lib.hid hok2
        have HMR := Lib.hid hMr
        have K : KeyEnc Try.prog 3 intE := int_enc Try.underlying3
        clear hask hlk hph hstep hP hmap hok hok2 hMr hI has hse
        go_wp2_with fail
        refine HPH.out.mono ?_
        rintro e2 w2 ⟨rfl, rfl⟩
        go_wp2_with fail
        go_region_held3 (fun w' => (Instr.lookup 46 (.map (some M)) (.int .i64 a) false).run Try.prog w' = .ok (.bool H) w') (first | exact HLK.out _ HMP.out | exact HLK.out _ hmap3)
          (first | (go_at_call 15; refine (HASK.out _ (Mod.refl _ _).drew).mono ?_; rintro e3 w3 ⟨rfl, hm3⟩; have hmap3 : w3.heap[M]? = some (mapObj intE S c) := (hm3.block M hML (by simp)).trans HMP.out))
        all_goals
          rename_i hheld
          clear hheld
          have hm3' : Mod [] wr w3 := (Mod.refl [] wr).drew.trans hm3
          have hP3 := HP.out.below hm3'
          have hM3 : Mod [] w w3 := HMR.out.trans hm3'
          have hML3 := lt_of_block hmap3
          clear hm3
          go_wp2_with fail
          refine (promisedE_rep b mp g a w3 hP3 HOK.out HNC.out).mono ?_
          rintro e4 w4 ⟨rfl, mp', hmp', hP4, hM4⟩
          have hmap4 : w4.heap[M]? = some (mapObj intE S c) := (hM4.block M hML3 (by simp; omega)).trans hmap3
          have hM4' : Mod [] w w4 := hM3.then hM4 (by simp; omega)
          have hmM : mp' ≠ M := by rcases hmp' with h | h <;> omega
          have hmw : w.heap.size ≤ mp' := by have := hM3.size; rcases hmp' with h | h <;> omega
          have hML4 := lt_of_block hmap4
          clear hM4 hP3 hmap3 hmp' hM3
          go_wp2_with fail
          refine (accepted_rep b mp' (gPromE g a) a 0 w4 hP4 HOK2.out).mono ?_
          rintro e5 w5 ⟨rfl, hP5, hM5⟩
          have hmap5 : w5.heap[M]? = some (mapObj intE S c) := (hM5.block M hML4 (by simp; omega)).trans hmap4
          have hM5' : Mod [] w w5 := hM4'.then hM5 (by simp; omega)
          have hML5 := lt_of_block hmap5
          have hP5' : PRep w5 b mp' (mStep g a) := hP5
          clear hM5 hP4 hmap4 hP5 hM4'
          have hst := HST.out
          generalize mStep g a = g' at hst hP5'
          have hm6 : Mod [M] w5 (World.setObj w5 M (mapObj intE (alPut a (.bool true) c S) (alClock a S c))) := (Mod.refl _ _).setObj (.inl (by simp)) _
          have hP6 : PRep (World.setObj w5 M (mapObj intE (alPut a (.bool true) c S) (alClock a S c))) b mp' g' := hP5'.mod hm6 (by simp; omega) (by simp; omega) (fun x hx => by simp at hx; subst hx; exact map_noBytes hmap5)
          have hmap6 : (World.setObj w5 M (mapObj intE (alPut a (.bool true) c S) (alClock a S c))).heap[M]? = some (mapObj intE (alPut a (.bool true) c S) (alClock a S c)) := by rw [hp_setObj _ _ _ _ hML5, if_pos rfl]
          have hM6 : Mod [] w (World.setObj w5 M (mapObj intE (alPut a (.bool true) c S) (alClock a S c))) := hM5'.setObj (.inr hMw) _
          have hlen : (Builtin.len_ #[46] 3 #[.map (some M)]).run Try.prog (World.setObj w5 M (mapObj intE (alPut a (.bool true) c S) (alClock a S c))) = .ok (.int .i64 ((alPut a (.bool true) c S).length : Int)) (World.setObj w5 M (mapObj intE (alPut a (.bool true) c S) (alClock a S c))) :=
            run_len_map (enc := intE) Try.underlying46 hmap6
          generalize hS' : alPut a (.bool true) c S = S' at hst hP6 hmap6 hM6 hlen
          generalize hW6 : World.setObj w5 M (mapObj intE S' (alClock a S c)) = W6 at hP6 hmap6 hM6 hlen
          have hph6 := phase_rep b mp' g' W6 hP6
          have HMAP5 := Lib.hid hmap5
          have HS' := Lib.hid hS'
          have HW6 := Lib.hid hW6
          have HP6 := Lib.hid hP6
          have HMAP6 := Lib.hid hmap6
          have HM6 := Lib.hid hM6
          have hPL6 := hP6.lt
          have hML6 := lt_of_block hmap6
          have hsz6 := hM6.size
          clear hmap5 hm6 hP5' hM5' hS' hW6 hP6 hmap6 hM6
          obtain ⟨hI', ⟨l1, p1⟩ | ⟨l1, p1⟩⟩ := hst
          · 
            rw [p1] at hph6
            have HPH6 := Lib.hid hph6
            have HI := Lib.hid hI'
            clear hph6 hI' HST HLK HASK HP HMP HMR
            go_wp2_with (first
              | (refine wpList_mapUpdate_raw K rfl _ _ _ 46 rfl Try.underlying46 M a (.bool true) S c rfl rfl rfl HMAP5.out ?_; rw [HS'.out, HW6.out])
              | (go_at_call 14; refine HPH6.out.mono ?_; rintro e7 w7 ⟨rfl, rfl⟩)
              | fail)
            go_roundw
            case rel => exact ManyRel.mk (k + 1) M mp' g' S' _ ⟨by omega, by go_num, rfl, HI.out, HP6.out, HMAP6.out, hMb, Ne.symm hmM, hMw, hmw, HM6.out⟩
            case measure => simp [intOf]; omega
          · have l2 : ¬ q < (S'.length : Int) := by omega
            rw [p1] at hph6
            have HPH6 := Lib.hid hph6
            have HI := Lib.hid hI'
            clear hph6 hI' HST HLK HASK HP HMP HMR
            go_wp2_with (first
              | (refine wpList_mapUpdate_raw K rfl _ _ _ 46 rfl Try.underlying46 M a (.bool true) S c rfl rfl rfl HMAP5.out ?_; rw [HS'.out, HW6.out])
              | (go_at_call 14; refine HPH6.out.mono ?_; rintro e7 w7 ⟨rfl, rfl⟩)
              | fail)
            go_roundw
            case rel => exact ManyRel.mk (k + 1) M mp' g' S' _ ⟨by omega, by go_num, rfl, HI.out, HP6.out, HMAP6.out, hMb, Ne.symm hmM, hMw, hmw, HM6.out⟩
            case measure => simp [intOf]; omega
      · have hvb : g.vb.length ≤ 140737488355328 := by rw [hI.vb]; omega
        have hva : ∀ X, Mod [] wr X → Calls Try.prog 18 #[.pointer (some ⟨b, 0, none⟩)] X fun e w' => ∃ s' : Slc, e = .returned s'.val ∧ Own8 w' s' v ∧ (∀ x, s'.a = some x → X.heap.size ≤ x.block) ∧ Mod [] X w' := fun X hX => by
          rw [← hI.vb]
          exact value_rep b mp g X (hP.below hX) hvb
        have hcv : ∀ X, Mod [] w X → (convert 26 9 (.slice vs.a vs.len vs.cap)).run Try.prog X = .ok (.string ⟨v.toArray⟩) X := fun X hX => conv8 (HV.out.below hX)
        have HVA := Lib.hid hva
        have HCV := Lib.hid hcv
        have HMR := Lib.hid hMr
        have HPH := Lib.hid (phase_rep b mp g wr hP)
        clear hva hcv hMr hI hP hmap
        rw [h1] at HPH
        go_wp2_with fail
        refine HPH.out.mono ?_
        rintro e2 w2 ⟨rfl, rfl⟩
        go_wp2_with fail
        have hcv1 := HCV.out _ HMR.out.drew
        go_region_with (first | (go_at_call 18; refine (HVA.out _ (Mod.refl _ _).drew).mono ?_; rintro e3 w3 ⟨s', rfl, ho, _, hm3⟩; have hcv2 := conv8 ho.rd; have hcv3 := HCV.out _ (HMR.out.drew.trans hm3)) | fail)
        all_goals go_wp2
        all_goals go_ret
        all_goals exact ⟨rfl, HMR.out.drew.trans hm3⟩
    · obtain rfl : k = olen := by omega
      have hvb : g.vb.length ≤ 140737488355328 := by rw [hI.vb]; omega
      have hva : ∀ X, Mod [] wr X → Calls Try.prog 18 #[.pointer (some ⟨b, 0, none⟩)] X fun e w' => ∃ s' : Slc, e = .returned s'.val ∧ Own8 w' s' v ∧ (∀ x, s'.a = some x → X.heap.size ≤ x.block) ∧ Mod [] X w' := fun X hX => by
        rw [← hI.vb]
        exact value_rep b mp g X (hP.below hX) hvb
      have hcv : ∀ X, Mod [] w X → (convert 26 9 (.slice vs.a vs.len vs.cap)).run Try.prog X = .ok (.string ⟨v.toArray⟩) X := fun X hX => conv8 (hv.below hX)
      have HVA := Lib.hid hva
      have HCV := Lib.hid hcv
      have HMR := Lib.hid hMr
      have HPH := Lib.hid (phase_rep b mp g wr hP)
      clear hva hcv hMr hI hP hmap
      go_wp2_with fail
      have hcv1 := HCV.out _ HMR.out.drew
      go_region_with (first | (go_at_call 18; refine (HVA.out _ (Mod.refl _ _).drew).mono ?_; rintro e3 w3 ⟨s', rfl, ho, _, hm3⟩; have hcv2 := conv8 ho.rd; have hcv3 := HCV.out _ (HMR.out.drew.trans hm3)) | fail)
      all_goals go_wp2
      all_goals go_ret
      all_goals exact ⟨rfl, HMR.out.drew.trans hm3⟩
end Go.Proofs.Ytlkfejnjdlebbaa
