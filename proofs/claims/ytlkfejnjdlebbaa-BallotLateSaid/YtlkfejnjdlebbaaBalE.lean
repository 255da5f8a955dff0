/- The contract of ballot.Start. No condition. -/
import Derived.Test.YtlkfejnjdlebbaaBalD
namespace Go.Proofs.Ytlkfejnjdlebbaa
open Go.RowKit

/-- An answer, as it is meant. -/
structure GA where
  ok : Bool
  r : Int
  w : Int
  vb : List UInt8
/-- A proposer, as it is meant. -/
structure GSt where
  acc : Int
  rnd : Int
  who : Int
  vb : List UInt8
  phase : Int
  ans : List (Int × GA)
  agreed : Int

def gView (B : Nat → List UInt8) (M : List (Int × Ans × Nat)) : List (Int × GA) := M.map fun x => (x.1, ⟨x.2.1.ok, x.2.1.r, x.2.1.w, B x.2.2⟩)

/-- Each answer's turn is its place. -/
def Turns (M : List (Int × Ans × Nat)) : Prop := ∀ (i : Nat) (x : Int × Ans × Nat), M[i]? = some x → x.2.1.turn = (i : Int)
/-- A proposer at block b, its answers in the map mp. -/
def PRep (w : World) (b mp : Nat) (g : GSt) : Prop :=
  ∃ (p : PSt) (M : List (Int × Ans × Nat)) (c : Nat) (B : Nat → List UInt8), p.mp = mp ∧ p.acc = g.acc ∧ p.rnd = g.rnd ∧ p.who = g.who ∧ p.phase = g.phase ∧ p.agreed = g.agreed ∧
    PAt w b p M c ∧ Stamps (encL M) c ∧ Own8 w p.val g.vb ∧ (∀ x ∈ M, Own8 w x.2.1.val (B x.2.2)) ∧
    gView B M = g.ans ∧ Turns M

/-- The numbers of a proposer are small. -/
structure GOk (g : GSt) : Prop where
  acc0 : 1 ≤ g.acc
  acc1 : g.acc ≤ 4294967296
  ag0 : 0 ≤ g.agreed
  ag1 : g.agreed ≤ g.ans.length
  len : g.ans.length ≤ 4294967296
  vb : g.vb.length ≤ 140737488355328

theorem start_finA (acc rnd who : Int) (s1 : Slc) (l : List UInt8) (w w1 : World) (hM : Mod [] w w1) (ho : Own8 w1 s1 l) : ∃ b mp, Ending.returned (.pointer (some ⟨w1.heap.size + 1, 0, none⟩)) = Ending.returned (.pointer (some ⟨b, 0, none⟩)) ∧ w.heap.size ≤ b ∧ w.heap.size ≤ mp ∧
    PRep ((w1.alloc (.map #[] 0)).alloc (.cells (⟨acc, rnd, who, s1, 1, w1.heap.size, 0⟩ : PSt).cells 67)) b mp ⟨acc, rnd, who, l, 1, [], 0⟩ ∧ Mod [] w ((w1.alloc (.map #[] 0)).alloc (.cells (⟨acc, rnd, who, s1, 1, w1.heap.size, 0⟩ : PSt).cells 67)) := by
  have hsz := hM.size
  refine ⟨w1.heap.size + 1, w1.heap.size, rfl, by omega, by omega, ⟨⟨acc, rnd, who, s1, 1, w1.heap.size, 0⟩, [], 0, fun _ => [], rfl, rfl, rfl, rfl, rfl, rfl, ⟨?_, ?_⟩, Stamps.nil _, (ho.alloc _).alloc _, (fun x hx => by cases hx), rfl, (fun i x h => by cases h)⟩, (hM.alloc _).alloc _⟩
  · have := Cel.new (w1.alloc (.map #[] 0)) (⟨acc, rnd, who, s1, 1, w1.heap.size, 0⟩ : PSt).cells 67
    rw [World.size_alloc] at this
    exact this
  · rw [hp_alloc, if_neg (by simp), hp_alloc, if_pos rfl]; rfl
theorem start_finB (acc rnd who : Int) (s1 : Slc) (l : List UInt8) (w W w1 : World) (hM : Mod [] w W) (hz : W.heap.size = w.heap.size + 1) (hM1 : Mod [] (W.alloc (.map #[] 0)).drew w1) (ho : Own8 w1 s1 l) : ∃ b mp, Ending.returned (.pointer (some ⟨w1.heap.size, 0, none⟩)) = Ending.returned (.pointer (some ⟨b, 0, none⟩)) ∧ w.heap.size ≤ b ∧ w.heap.size ≤ mp ∧
    PRep (w1.alloc (.cells (⟨acc, rnd, who, s1, 1, w.heap.size + 1, 0⟩ : PSt).cells 67)) b mp ⟨acc, rnd, who, l, 1, [], 0⟩ ∧ Mod [] w (w1.alloc (.cells (⟨acc, rnd, who, s1, 1, w.heap.size + 1, 0⟩ : PSt).cells 67)) := by
  have hsz : (W.alloc (.map #[] 0)).heap.size ≤ w1.heap.size := hM1.size
  rw [World.size_alloc] at hsz
  refine ⟨w1.heap.size, w.heap.size + 1, rfl, by omega, by omega, ⟨⟨acc, rnd, who, s1, 1, w.heap.size + 1, 0⟩, [], 0, fun _ => [], rfl, rfl, rfl, rfl, rfl, rfl, ⟨Cel.new _ _ _, ?_⟩, Stamps.nil _, ho.alloc _, (fun x hx => by cases hx), rfl, (fun i x h => by cases h)⟩, (((hM.alloc _).drew).trans hM1).alloc _⟩
  have hlt : w.heap.size + 1 < (W.alloc (.map #[] 0)).heap.size := by rw [World.size_alloc]; omega
  rw [hp_alloc, if_neg (by show w.heap.size + 1 ≠ w1.heap.size; omega)]
  refine (hM1.block _ hlt (by simp)).trans ?_
  show (W.alloc (.map #[] 0)).heap[w.heap.size + 1]? = _
  rw [hp_alloc, if_pos (by omega)]; rfl

set_option maxHeartbeats 4000000 in
theorem start_bal (acc rnd who : Int) (s : Slc) (l : List UInt8) (w : World) (h : Rd8 w s l) (hl : s.len ≤ 140737488355328) (ha : 1 ≤ acc) :
    Calls Try.prog 13 #[.int .i64 acc, .agg #[.int .i64 rnd, .int .i64 who], .slice s.a s.len s.cap] w fun e w' => ∃ b mp, e = .returned (.pointer (some ⟨b, 0, none⟩)) ∧
      w.heap.size ≤ b ∧ w.heap.size ≤ mp ∧ PRep w' b mp ⟨acc, rnd, who, l, 1, [], 0⟩ ∧ Mod [] w w' := by
  have hmm := @run_makeMap Try.prog
  have hacc : (acc < 1) = False := by simp; omega
  have hb0 := Cel.new w #[.int .i64 rnd, .int .i64 who] 30
  go_enter Try.func13, Try.ntmps13
  go_wp2_with fail
  have hM1 := (Mod.refl [] w).alloc (.cells #[.int .i64 rnd, .int .i64 who] 30)
  have hr1 := h.below hM1
  have hz1 : (w.alloc (.cells #[.int .i64 rnd, .int .i64 who] 30)).heap.size = w.heap.size + 1 := by simp
  generalize w.alloc (.cells #[.int .i64 rnd, .int .i64 who] 30) = W at *
  have c0 : W.cell? ⟨w.heap.size, 0, none⟩ = some (.int .i64 rnd) := hb0.cell 0
  have c1 : W.cell? ⟨w.heap.size, 1, none⟩ = some (.int .i64 who) := hb0.cell 1
  have mA : Mod [] W W.drew := (Mod.refl _ _).drew
  have mB : Mod [] W (W.alloc (.map #[] 0)).drew := ((Mod.refl _ _).alloc _).drew
  have HA := Lib.hid (clone8 s l _ (hr1.below mA) hl)
  have HB := Lib.hid (clone8 s l _ (hr1.below mB) hl)
  have HMA := Lib.hid mA
  have HMB := Lib.hid mB
  clear mA mB
  go_region_held3 (fun w' => w'.cell? ⟨w.heap.size, 0, none⟩ = some (.int .i64 rnd) ∧ w'.cell? ⟨w.heap.size, 1, none⟩ = some (.int .i64 who)) (first | exact ⟨c0, c1⟩ | exact ⟨(hb0.mod HMC.out (by simp)).cell 0, (hb0.mod HMC.out (by simp)).cell 1⟩ | exact ⟨(hb0.alloc _).cell 0, (hb0.alloc _).cell 1⟩ | exact ⟨((hb0.mod HMC.out (by simp)).alloc _).cell 0, ((hb0.mod HMC.out (by simp)).alloc _).cell 1⟩ | exact ⟨(((hb0.mod HMC.out (by simp)).alloc _).alloc _).cell 0, (((hb0.mod HMC.out (by simp)).alloc _).alloc _).cell 1⟩)
    (first | (go_at_call 22; refine HA.out.mono ?_; rintro e1 w1 ⟨s1, rfl, hc⟩; have HMC := Lib.hid (HMA.out.trans hc.mod); have hzz := hc.mod.size) | (go_at_call 22; refine HB.out.mono ?_; rintro e1 w1 ⟨s1, rfl, hc⟩; have HMC := Lib.hid (HMB.out.trans hc.mod); have hzz := hc.mod.size))
  all_goals go_wp2
  all_goals go_ret
  all_goals first
    | exact start_finA acc rnd who s1 l w w1 (hM1.trans HMC.out) hc.own
    | exact start_finB acc rnd who s1 l w W w1 hM1 hz1 hc.mod hc.own
end Go.Proofs.Ytlkfejnjdlebbaa
