/- Contracts of a proposer's small functions. No condition. -/
import Derived.Test.YtlkfejnjdlebbaaBytes
namespace Go.Proofs.Ytlkfejnjdlebbaa
open Go.RowKit

structure Ans where
  turn : Int
  ok : Bool
  r : Int
  w : Int
  val : Slc
abbrev Ans.cells (a : Ans) : Array Value := #[.int .i64 a.turn, .bool a.ok, .int .i64 a.r, .int .i64 a.w, .slice a.val.a a.val.len a.val.cap]
abbrev intE (n : Int) : Value := .int .i64 n
def encL (M : List (Int × Ans × Nat)) : AL Int := M.map fun x => (x.1, .agg x.2.1.cells, x.2.2)
def Ans.zero : Ans := ⟨0, false, 0, 0, ⟨none, 0, 0⟩⟩

structure PSt where
  acc : Int
  rnd : Int
  who : Int
  val : Slc
  phase : Int
  mp : Nat
  agreed : Int
abbrev PSt.cells (p : PSt) : Array Value := #[.int .i64 p.acc, .int .i64 p.rnd, .int .i64 p.who, .slice p.val.a p.val.len p.val.cap, .int .i64 p.phase, .map (some p.mp), .int .i64 p.agreed]

/-- The greater ballot, or the one that was told ahead. -/
def aheadB (a b : Ans) : Bool := if a.r = b.r ∧ a.w = b.w then decide (a.turn < b.turn) else decide (b.r < a.r ∨ (a.r = b.r ∧ b.w < a.w))

theorem isNaN_any (x : Int) (w : World) : Calls Try.prog 33 #[.int .i64 x] w fun e w' => e = .returned (.bool false) ∧ w = w' := by
  have hx : (x != x) = false := by simp
  go_enter Try.func33, Try.ntmps33
  go_wp2
  go_ret
  exact ⟨rfl, rfl⟩

def cmpI (x y : Int) : Int := if x < y then -1 else if y < x then 1 else 0

theorem compare_any (x y : Int) (w : World) : Calls Try.prog 31 #[.int .i64 x, .int .i64 y] w fun e w' => e = .returned (.int .i64 (cmpI x y)) ∧ w = w' := by
  unfold cmpI
  by_cases h1 : x < y
  · rw [if_pos h1]
    go_enter Try.func31, Try.ntmps31
    go_wp2_with (go_at_call 33; refine (isNaN_any _ _).mono ?_; rintro e w' ⟨rfl, rfl⟩)
    go_ret
    exact ⟨rfl, rfl⟩
  · rw [if_neg h1]
    have h1' : y ≤ x := by omega
    clear h1
    by_cases h2 : y < x
    · rw [if_pos h2]
      go_enter Try.func31, Try.ntmps31
      go_wp2_with (go_at_call 33; refine (isNaN_any _ _).mono ?_; rintro e w' ⟨rfl, rfl⟩)
      go_ret
      exact ⟨rfl, rfl⟩
    · rw [if_neg h2]
      have h2' : x ≤ y := by omega
      clear h2
      go_enter Try.func31, Try.ntmps31
      go_wp2_with (go_at_call 33; refine (isNaN_any _ _).mono ?_; rintro e w' ⟨rfl, rfl⟩)
      go_ret
      exact ⟨rfl, rfl⟩

def orI (x y : Int) : Int := if x = 0 then y else x

theorem or_any (g : Nat) (x y : Int) (w : World) (h0 : w.cell? ⟨g, 0, none⟩ = some (.int .i64 x)) (h1 : w.cell? ⟨g, 1, none⟩ = some (.int .i64 y)) :
    Calls Try.prog 32 #[.slice (some ⟨g, 0, none⟩) 2 2] w fun e w' => e = .returned (.int .i64 (orI x y)) ∧ w = w' := by
  go_enter Try.func32, Try.ntmps32
  go_wp2
  go_loop [8] (fun i => ∃ k : Nat, k ≤ 2 ∧ i = .int .i64 k ∧ (0 < k → x = 0) ∧ (1 < k → y = 0)) (fun i => 2 - (intOf i).toNat)
  case atStart => exact ⟨0, by omega, rfl, fun h => absurd h (by omega), fun h => absurd h (by omega)⟩
  case round =>
    obtain ⟨k, hk, rfl, g0, g1⟩ := hrel
    match k, hk with
    | 0, _ =>
      clear g0 g1
      by_cases hx : x = 0
      · subst hx
        go_wp2
        go_round
        case rel => exact ⟨1, by omega, rfl, (fun _ => by first | trivial | rfl), fun h => absurd h (by omega)⟩
        case measure => simp [intOf]
      · have b : (x != 0) = true := by simpa using hx
        have HX := Lib.hid (show orI x y = x from if_neg hx)
        clear hx
        go_wp2
        go_ret
        rw [HX.out]
        exact ⟨rfl, rfl⟩
    | 1, _ =>
      have hx := g0 (by omega)
      clear g0 g1
      subst hx
      by_cases hy : y = 0
      · subst hy
        go_wp2
        go_round
        case rel => exact ⟨2, by omega, rfl, (fun _ => by first | trivial | rfl), (fun _ => by first | trivial | rfl)⟩
        case measure => simp [intOf]
      · have b : (y != 0) = true := by simpa using hy
        have HX := Lib.hid (show orI 0 y = y from if_pos rfl)
        clear hy
        go_wp2
        go_ret
        rw [HX.out]
        exact ⟨rfl, rfl⟩
    | 2, _ =>
      have hx := g0 (by omega)
      have hy := g1 (by omega)
      clear g0 g1
      subst hx hy
      go_wp2
      go_ret
      exact ⟨rfl, rfl⟩

theorem most_any (b : Nat) (p : PSt) (n : Int) (w : World) (h : Cel w b p.cells 67) (ha : 0 ≤ p.acc) (ha' : p.acc ≤ 4294967296) :
    Calls Try.prog 29 #[.pointer (some ⟨b, 0, none⟩), .int .i64 n] w fun e w' => e = .returned (.bool (decide (p.acc / 2 < n))) ∧ w = w' := by
  have h0 : w.cell? ⟨b, 0, none⟩ = some (.int .i64 p.acc) := h.cell 0
  generalize p.acc = acc at *
  go_enter Try.func29, Try.ntmps29
  go_wp2
  go_ret
  exact ⟨rfl, rfl⟩

theorem phase_any (b : Nat) (p : PSt) (w : World) (h : Cel w b p.cells 67) :
    Calls Try.prog 14 #[.pointer (some ⟨b, 0, none⟩)] w fun e w' => e = .returned (.int .i64 p.phase) ∧ w = w' := by
  have h0 : w.cell? ⟨b, 4, none⟩ = some (.int .i64 p.phase) := h.cell 4
  go_enter Try.func14, Try.ntmps14
  go_wp2
  go_ret
  exact ⟨rfl, rfl⟩

/-- Is the acceptor still asked? -/
def askedB (p : PSt) (M : List (Int × Ans × Nat)) (from_ : Int) : Bool := decide ((p.phase = 1 ∨ p.phase = 2) ∧ 0 ≤ from_ ∧ from_ < p.acc) && !(alFind from_ (encL M)).isSome

end Go.Proofs.Ytlkfejnjdlebbaa
