/- Contracts of the unit: its calls. No condition. -/
import Derived.Test.YtmibmjehjagmbaaUnitE
namespace Go.Proofs.Ytmibmjehjagmbaa
set_option linter.unusedSimpArgs false
set_option linter.unusedVariables false
open Go.Proofs.Ytmibmjehjagmbaa RX

/-- What Read tells. -/
def readS (s : USt) (epoch at' : Int) : CellS × Int :=
  if reachE s epoch at' ≠ 0 then (⟨0, []⟩, reachE s epoch at')
  else if at' < s.low then (⟨0, []⟩, 11)
  else match s.cells at' with
    | some x => (x, 0)
    | none => (⟨0, []⟩, 9)
theorem uRead_ok (ub bd : Nat) (D : HP) (s : USt) (epoch at' : Int) :
    Tri Try.prog 19 #[.pointer (some ⟨ub, 0, none⟩), .int .i64 epoch, .int .i64 at'] (URep ub bd D s)
    (fun v => HP.ex fun a => HP.ex fun c => HP.and (v = .tuple #[.agg #[.int .i64 (readS s epoch at').1.what, .slice a (readS s epoch at').1.data.length c], .int .i64 (readS s epoch at').2]) (HP.sep (URep ub bd D s) (RoB a (readS s epoch at').1.data.length (readS s epoch at').1.data))) := by
  refine URep.tri fun mc mi lc cc li ci => ?_
  refine tri_of_tree (ρ := [.n ub, .n bd, .p D, .i s.epoch, .i s.low, .i s.top, .n mc, .p (MapH CellV iE mc s.cells lc cc), .n mi, .p (MapH InstV iE mi s.inst li ci), .i epoch, .i at']) mixed Try.func19 tree_uRead ?_
  unfold t_uRead
  simp only [T.den, E.prop, E.den, RX.look, F1.app, F2.app, Uni.int_i, Uni.nat_n, Uni.bool_c, Uni.str_s, Uni.adr_a, Uni.val_v, Uni.hp_p, hden, cden, V.den, W.den, A.den, BR.den, SA.den, FV.den, capV, exs, exP, allP, Cur.app, List.map_cons, List.map_nil, List.cons_append, List.nil_append, List.drop_succ_cons, List.drop_zero, List.length_cons, List.length_nil, Nat.zero_add, Nat.reduceAdd, Int.neg_neg, Bool.not_not, List.append_nil, Nat.add_zero, List.getElem?_cons_zero, List.getElem?_cons_succ, Decidable.not_not]
  intro x
  refine (uReachRaw_ok ub bd mc mi D _ _ s epoch at').weak (fun _ _ h => h) ?_
  rintro v R h ⟨rfl, H⟩
  refine ⟨_, rfl, ⟨fun h1 => .of fun R h H => ?_, fun h1 => ⟨fun h2 => .of fun R h H => ?_, fun h2 => ?_⟩⟩, H⟩
  · have e : readS s epoch at' = (⟨0, []⟩, reachE s epoch at') := if_pos h1
    rw [e]
    exact ⟨none, 0, rfl, RoC.joinR (RoC.nil _ _ R h) (URep.ofH H)⟩
  · have e : readS s epoch at' = (⟨0, []⟩, 11) := by unfold readS; rw [if_neg (by simpa using h1), if_pos h2]
    rw [e]
    exact ⟨none, 0, rfl, RoC.joinR (RoC.nil _ _ R h) (URep.ofH H)⟩
  · refine (uCell_ok ub bd mc mi D (MapH InstV iE mi s.inst li ci) s lc cc at').weak (fun _ _ h => h) ?_
    rintro v R h ⟨a, c, rfl, H⟩
    have hu : (URep ub bd D s).p R h → True := fun _ => trivial
    refine ⟨_, a, _, c, RoB a ((s.cells at').getD ⟨0, []⟩).data.length ((s.cells at').getD ⟨0, []⟩).data, _, rfl, fun y => ⟨fun hno => .of fun R h H => ?_, fun hyes => .of fun R h H => ?_⟩, H⟩
    · have hc : s.cells at' = none := by simpa using hno
      have e : readS s epoch at' = (⟨0, []⟩, 9) := by unfold readS; rw [if_neg (by simpa using h1), if_neg h2, hc]
      rw [e]
      exact ⟨none, 0, rfl, RoC.joinR (RoC.nil _ _ R h) (URep.ofH H)⟩
    · obtain ⟨z, hz⟩ := Option.isSome_iff_exists.1 hyes
      have e : readS s epoch at' = (z, 0) := by unfold readS; rw [if_neg (by simpa using h1), if_neg h2, hz]
      rw [e]
      rw [hz] at H ⊢
      refine ⟨a, c, rfl, RoC.joinR (HP.sep_right (HP.sep_right (HP.sep_right (HP.sep_right H)))) (URep.ofH (HP.sep_mono H (fun _ h => h) fun y hy => HP.sep_mono hy (fun _ h => h) fun u hu => HP.sep_mono hu (fun _ h => h) fun q hq => HP.sep_left hq))⟩
end Go.Proofs.Ytmibmjehjagmbaa
