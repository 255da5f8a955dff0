/- The contract of the sequencer's Answer. No condition. -/
import Derived.Test.YtlkfejnjdlebbaaTokC
namespace Go.Proofs.Ytlkfejnjdlebbaa
open Go.RowKit

/-- What a sequencer (epoch, next, last) answers to a message; and what becomes of it. -/
def answerS (e n : Int) (l : List Int) (m : Msg) : (Msg × Bool) × Int × Int × List Int :=
  if m.rep = true ∨ (m.kind ≠ 9 ∧ m.kind ≠ 8) then ((Msg.none, false), e, n, l)
  else if m.kind = 9 then (({ m.reply 0 with err := (startS e n l m.ep m.at_).1, tail := if (startS e n l m.ep m.at_).1 = 0 then (startS e n l m.ep m.at_).2.2.1 else 0, back := (startS e n l m.ep m.at_).2.1 }, true), (startS e n l m.ep m.at_).2)
  else (({ m.reply 0 with err := (tokenS e n l m.ep m.at_).1.2.2, tail := (tokenS e n l m.ep m.at_).1.1, back := (tokenS e n l m.ep m.at_).1.2.1 }, true), e, (tokenS e n l m.ep m.at_).2)

def deedF (N f : Nat) : Value := .func (.func f) #[] #[.pointer (some ⟨N, 0, none⟩), .pointer (some ⟨N + 1, 0, none⟩), .pointer (some ⟨N + 2, 0, none⟩)]
def deedL (N : Nat) : AL Int := [(9, deedF N 25, 0), (8, deedF N 27, 1)]
theorem deedMap_eq (N : Nat) : deedMap N = mapObj (fun n : Int => Value.int .i64 n) (deedL N) 2 := rfl

set_option maxHeartbeats 1000000 in
theorem answer_any (s : Nat) (m : Msg) (e n : Int) (l : List Int) (hl : l.length = 8) (hn : 0 ≤ n) (w : World) (hs : Cel w s (Seqc e n l) 58) :
    Calls Try.prog 9 #[.pointer (some ⟨s, 0, none⟩), .agg m.cells] w fun en w' => en = .returned (.tuple #[.agg (answerS e n l m).1.1.cells, .bool (answerS e n l m).1.2]) ∧
      Cel w' s (Seqc (answerS e n l m).2.1 (answerS e n l m).2.2.1 (answerS e n l m).2.2.2) 58 ∧ Mod [s] w w' := by
  have hls := hs.lt
  have hR := fun W => reply_any m 0 W
  have hD1 := fun N r W h0 h1 h2 h3 h4 h5 h6 h7 h8 h9 h10 h11 => deed1_any N s r m (m.reply 0) e n l hl W h0 h1 h2 h3 h4 h5 h6 h7 h8 h9 h10 h11
  have hD2 := fun N r W h0 h1 h2 h3 h4 h5 h6 h7 h8 h9 h10 h11 => deed2_any N s r m (m.reply 0) e n l hl hn W h0 h1 h2 h3 h4 h5 h6 h7 h8 h9 h10 h11
  have hk : m.cells[4]? = some (.int .i64 m.kind) := rfl
  have hp : m.cells[3]? = some (.bool m.rep) := rfl
  obtain ⟨mc, hmc⟩ : ∃ mc, mc = m.cells := ⟨_, rfl⟩
  obtain ⟨rc, hrc⟩ : ∃ rc, rc = (m.reply 0).cells := ⟨_, rfl⟩
  rw [← hmc, ← hrc] at hR
  rw [← hmc] at hk hp hD1 hD2 ⊢
  rw [← hrc] at hD1 hD2
  have HM := Lib.hid hmc
  have HRC := Lib.hid hrc
  have HD1 := Lib.hid hD1
  have HD2 := Lib.hid hD2
  have HR := Lib.hid hR
  clear hmc hrc hD1 hD2 hR
  go_enter Try.func9, Try.ntmps9
  go_wp2_with (first
    | (refine wpList_load_row rfl 33 _ rfl _ rfl 33 mc (0, 0) _ ((Cel.new _ mc 33).alloc _) Try.underlying33 rfl (by rw [HM.out]; kernel_rfl) ?_)
    | fail)
  refine (HR.out _).mono ?_
  rintro e1 w1 ⟨rfl, hm1⟩
  have b0 := ((Cel.new w mc 33).alloc (.cells Msg.none.cells 33)).mod hm1 (by simp)
  have z0 := (Cel.new (w.alloc (.cells mc 33)) Msg.none.cells 33).mod hm1 (by simp)
  rw [World.size_alloc] at z0
  have hs1 := ((hs.alloc (.cells mc 33)).alloc (.cells Msg.none.cells 33)).mod hm1 (by simp)
  have hz1 := hm1.size
  have hM1 : Mod [] w w1 := (((Mod.refl [] w).alloc _).alloc _).then hm1 (by simp)
  simp only [World.size_alloc] at hz1
  go_wp2_with (first
    | (refine wpList_store_row rfl 33 _ _ rfl _ rfl rc rfl 33 _ (Cel.new _ _ _) (by rw [HRC.out]; kernel_rfl) (by rw [HRC.out]; rfl) (by rw [HRC.out]; rfl) ?_; rw [setRow_alloc _ _ _ _ _ rfl])
    | fail)
  have b1 := b0.alloc (.cells rc 33)
  rw [HM.out] at b1
  have z1 := z0.alloc (.cells rc 33)
  have cc : ∀ k, (w1.alloc (.cells rc 33)).cell? ⟨w.heap.size, k, none⟩ = m.cells[k]? := b1.cell
  unfold Msg.cells at cc
  have hs2 := (hs1.alloc (.cells rc 33))
  have hr2 := Cel.new w1 rc 33
  have hM2 := hM1.alloc (.cells rc 33)
  have hz2 : (w1.alloc (.cells rc 33)).heap.size = w1.heap.size + 1 := by simp
  have hw1 : w1.heap.size < (w1.alloc (.cells rc 33)).heap.size := by simp
  generalize w1.alloc (.cells rc 33) = w2 at *
  obtain ⟨r, hr⟩ : ∃ r, r = w1.heap.size := ⟨_, rfl⟩
  rw [← hr] at hr2 hw1 hz1 hz2 ⊢
  clear hr hk hp
  go_region_held3 (fun w' => (∀ k, w'.cell? ⟨w.heap.size, k, none⟩ = (#[.int .i64 m.frm, .int .i64 m.to, .int .i64 m.num, .bool m.rep, .int .i64 m.kind, .int .i64 m.ep, .int .i64 m.at_, .int .i64 m.what, .slice m.data.a m.data.len m.data.cap, .int .i64 m.rnd, .int .i64 m.who, .slice m.val.a m.val.len m.val.cap, .int .i64 m.err, .int .i64 m.tail, .int .i64 m.low, .int .i64 m.back] : Array Value)[k]?))
    (first | exact cc | exact cc3)
    (first | (go_at_call 21; refine (deeds_any s r _ _).mono ?_; rintro e2 w3 ⟨rfl, d0, d1, d2, d3, hm3, hz3⟩; rw [World.size_drew, hz2] at d0 d1 d2 d3 hz3; have b3 := b1.drew.mod hm3 (by simp); have cc3 : ∀ k, w3.cell? ⟨w.heap.size, k, none⟩ = m.cells[k]? := b3.cell; unfold Msg.cells at cc3; rw [deedMap_eq] at d3; have hlk := run_lookup_raw (int_enc Try.underlying3) Try.underlying61 d3 m.kind .nilFunc (by kernel_rfl) true; simp only [if_true] at hlk; generalize hD : (alFind m.kind (deedL (r + 1))).getD .nilFunc = D at hlk; generalize hok : (alFind m.kind (deedL (r + 1))).isSome = ok at hlk; have HD := Lib.hid hD; have HOK := Lib.hid hok; clear hD hok))
  rename_i hheld
  clear hheld
  have hs3 := hs2.drew.mod hm3 (by simp)
  have hr3 := hr2.drew.mod hm3 (by simp)
  have z3 := z1.drew.mod hm3 (by simp)
  have hM3 : Mod [] w w3 := hM2.drew.then hm3 (by simp)
  have crep : w3.cell? ⟨w.heap.size, 3, none⟩ = some (.bool m.rep) := b3.cell 3
  clear cc cc3 b0 b1 hs hs1 hs2 hM1 hM2 z0 z1 hr2 hm1 hm3 hlk
  by_cases hrep : m.rep = true
  · have HA := Lib.hid (show answerS e n l m = ((Msg.none, false), e, n, l) from if_pos (.inl hrep))
    rw [hrep] at crep
    clear hrep
    go_wp2_with (first
      | (refine wpList_store_row rfl 33 _ _ rfl _ rfl Msg.none.cells rfl 33 _ z3 (by kernel_rfl) rfl rfl ?_)
      | fail)
    refine bodyPost_ret (results_row_tmp rfl _ (w.heap.size + 1) 33 Msg.none.cells _ (.bool false) rfl (z3.setRow _) rfl Try.underlying33 rfl (by kernel_rfl)) rfl ?_
    rw [HA.out]
    exact ⟨rfl, hs3.setRowOther (by omega) _, (hM3.mono (by simp)).setRow (.inr (by omega)) _⟩
  have hrep' : m.rep = false := by simpa using hrep
  rw [hrep'] at crep
  by_cases hk : m.kind ≠ 9 ∧ m.kind ≠ 8
  · have HA := Lib.hid (show answerS e n l m = ((Msg.none, false), e, n, l) from if_pos (.inr hk))
    have hok : ok = false := by rw [← HOK.out]; simp [alFind, deedL, hk.1, hk.2]
    subst hok
    clear hk hrep hrep'
    go_wp2_with (first
      | (refine wpList_store_row rfl 33 _ _ rfl _ rfl Msg.none.cells rfl 33 _ z3 (by kernel_rfl) rfl rfl ?_)
      | fail)
    refine bodyPost_ret (results_row_tmp rfl _ (w.heap.size + 1) 33 Msg.none.cells _ (.bool false) rfl (z3.setRow _) rfl Try.underlying33 rfl (by kernel_rfl)) rfl ?_
    rw [HA.out]
    exact ⟨rfl, hs3.setRowOther (by omega) _, (hM3.mono (by simp)).setRow (.inr (by omega)) _⟩
  have hA0 := show answerS e n l m = _ from if_neg (not_or.2 ⟨hrep, hk⟩)
  have hmc := HM.out
  have e1 : Cel w3 (r + 1 + 1) mc 33 := by rw [hmc]; exact d1
  clear hmc
  by_cases h9 : m.kind = 9
  · rw [if_pos h9] at hA0
    have HA := Lib.hid hA0
    have hok : ok = true := by rw [← HOK.out]; simp [alFind, deedL, h9]
    have hD : D = deedF (r + 1) 25 := by rw [← HD.out]; simp [alFind, deedL, h9]
    subst hok
    subst hD
    clear hk hrep hrep' h9 hA0
    unfold deedF
    go_wp2_with fail
    refine (HD1.out (r + 1) r w3 d0 e1 d2 hs3 hr3 (by omega) (by omega) (by omega) (by omega) (by omega) (by omega) (by omega)).mono ?_
    rintro e5 w5 ⟨rfl, hs5, hr5, hm5⟩
    have z5 := z3.mod hm5 (by simp; omega)
    obtain ⟨om, hom⟩ : ∃ om, om = (answerS e n l m).1.1 := ⟨_, rfl⟩
    have hr6 : Cel w5 r om.cells 33 := by rw [hom, HA.out]; exact hr5
    have HOM := Lib.hid hom
    clear hom hr5
    go_wp2_with (first
      | (refine wpList_load_row rfl 33 _ rfl _ rfl 33 _ (0, 0) _ hr6 Try.underlying33 rfl (by kernel_rfl) ?_)
      | (refine wpList_store_row rfl 33 _ _ rfl _ rfl _ rfl 33 _ z5 (by kernel_rfl) rfl rfl ?_)
      | fail)
    refine bodyPost_ret (results_row_tmp rfl _ (w.heap.size + 1) 33 _ _ (.bool true) rfl (z5.setRow _) rfl Try.underlying33 rfl (by kernel_rfl)) rfl ?_
    rw [← HOM.out, HA.out]
    exact ⟨rfl, hs5.setRowOther (by omega) _, (((hM3.mono (by simp) : Mod [s] w w3).then hm5 (by simp; omega) : Mod [s] w w5)).setRow (.inr (by omega)) _⟩
  · rw [if_neg h9] at hA0
    have h8 : m.kind = 8 := by omega
    have HA := Lib.hid hA0
    have hok : ok = true := by rw [← HOK.out]; simp [alFind, deedL, h8]
    have hD : D = deedF (r + 1) 27 := by rw [← HD.out]; simp [alFind, deedL, h8]
    subst hok
    subst hD
    clear hk hrep hrep' h9 hA0 h8
    unfold deedF
    go_wp2_with fail
    refine (HD2.out (r + 1) r w3 d0 e1 d2 hs3 hr3 (by omega) (by omega) (by omega) (by omega) (by omega) (by omega) (by omega)).mono ?_
    rintro e5 w5 ⟨rfl, hs5, hr5, hm5⟩
    have z5 := z3.mod hm5 (by simp; omega)
    obtain ⟨om, hom⟩ : ∃ om, om = (answerS e n l m).1.1 := ⟨_, rfl⟩
    have hr6 : Cel w5 r om.cells 33 := by rw [hom, HA.out]; exact hr5
    have HOM := Lib.hid hom
    clear hom hr5
    go_wp2_with (first
      | (refine wpList_load_row rfl 33 _ rfl _ rfl 33 _ (0, 0) _ hr6 Try.underlying33 rfl (by kernel_rfl) ?_)
      | (refine wpList_store_row rfl 33 _ _ rfl _ rfl _ rfl 33 _ z5 (by kernel_rfl) rfl rfl ?_)
      | fail)
    refine bodyPost_ret (results_row_tmp rfl _ (w.heap.size + 1) 33 _ _ (.bool true) rfl (z5.setRow _) rfl Try.underlying33 rfl (by kernel_rfl)) rfl ?_
    rw [← HOM.out, HA.out]
    exact ⟨rfl, hs5.setRowOther (by omega) _, (((hM3.mono (by simp) : Mod [s] w w3).then hm5 (by simp; omega) : Mod [s] w w5)).setRow (.inr (by omega)) _⟩
end Go.Proofs.Ytlkfejnjdlebbaa
