/- Contracts of the unit: its calls that write. No condition. -/
import Derived.Test.YtmibmjehjagmbaaUnitF
namespace Go.Proofs.Ytmibmjehjagmbaa
set_option linter.unusedSimpArgs false
set_option linter.unusedVariables false
open Go.Proofs.Ytmibmjehjagmbaa RX

/-- A unit and its device, all of which lasts. -/
def UD (ub bd : Nat) (room : Int) (s : USt) (ps : List Pg) : HP := URep ub bd (DRep bd room ps ps.length) s
/-- Write a page and follow it. -/
def lastS (room : Int) (s : USt) (ps : List Pg) (l : List UInt8) (s' : USt) : Int × USt × List Pg := if room = ps.length then (4, s, ps) else (0, s', ps ++ [⟨1, l⟩])
def trimS (room : Int) (s : USt) (ps : List Pg) (epoch low : Int) : Int × USt × List Pg :=
  if reachE s epoch low ≠ 0 then (reachE s epoch low, s, ps)
  else if low ≤ s.low then (0, s, ps)
  else lastS room s ps (pageL 3 [low]) (forgS { s with low := low })
theorem putPg_last (room : Int) (ps : List Pg) (l : List UInt8) : (if (putPg room ps ⟨1, l⟩).1 = 0 then (putPg room ps ⟨1, l⟩).2.length else ps.length) = (putPg room ps ⟨1, l⟩).2.length := by
  unfold putPg
  split <;> simp
theorem uTrim_ok (ub bd : Nat) (room : Int) (s : USt) (ps : List Pg) (epoch low : Int) :
    Tri Try.prog 63 #[.pointer (some ⟨ub, 0, none⟩), .int .i64 epoch, .int .i64 low] (UD ub bd room s ps)
    (fun v => HP.and (v = .int .i64 (trimS room s ps epoch low).1) (UD ub bd room (trimS room s ps epoch low).2.1 (trimS room s ps epoch low).2.2)) := by
  refine URep.tri fun mc mi lc cc li ci => ?_
  refine tri_of_tree (ρ := [.n ub, .n bd, .p (DRep bd room ps ps.length), .i s.epoch, .i s.low, .i s.top, .n mc, .p (MapH CellV iE mc s.cells lc cc), .n mi, .p (MapH InstV iE mi s.inst li ci), .i epoch, .i low]) mixed Try.func63 tree_uTrim ?_
  unfold t_uTrim
  simp only [T.den, E.prop, E.den, RX.look, F1.app, F2.app, Uni.int_i, Uni.nat_n, Uni.bool_c, Uni.str_s, Uni.adr_a, Uni.val_v, Uni.hp_p, hden, cden, V.den, W.den, A.den, BR.den, SA.den, FV.den, capV, exs, exP, allP, Cur.app, List.map_cons, List.map_nil, List.cons_append, List.nil_append, List.drop_succ_cons, List.drop_zero, List.length_cons, List.length_nil, Nat.zero_add, Nat.reduceAdd, Int.neg_neg, Bool.not_not, List.append_nil, Nat.add_zero, List.getElem?_cons_zero, List.getElem?_cons_succ, Decidable.not_not]
  refine (uReachRaw_ok ub bd mc mi _ _ _ s epoch low).weak (fun _ _ h => h) ?_
  rintro v R h ⟨rfl, H⟩
  refine ⟨_, rfl, ⟨fun h1 => .of fun R h H => ?_, fun h1 => ⟨fun h2 => .of fun R h H => ?_, fun h2 y => ?_⟩⟩, H⟩
  · have e : trimS room s ps epoch low = (reachE s epoch low, s, ps) := if_pos h1
    rw [e]
    exact ⟨rfl, URep.ofH H⟩
  · have e : trimS room s ps epoch low = (0, s, ps) := by unfold trimS; rw [if_neg (by simpa using h1), if_pos h2]
    rw [e]
    exact ⟨rfl, URep.ofH H⟩
  · have e : trimS room s ps epoch low = lastS room s ps (pageL 3 [low]) (forgS { s with low := low }) := by unfold trimS; rw [if_neg (by simpa using h1), if_neg h2]
    rw [e]
    refine (upage_ok 3 (some ⟨y, 0, none⟩) 1 1 [low] _ (one_rd y #[.int .i64 low] _) rfl (fun _ => rfl) (by omega)).weak (fun _ _ h => h) ?_
    rintro v R h ⟨b, rfl, H⟩
    refine ⟨b, WRep b (pageL 3 [low]), low, rfl, ?_, HP.sep_comm H⟩
    refine (wOut_ok b (pageL 3 [low]) (by rw [pageL_len]; simp)).weak (fun _ _ h => h) ?_
    rintro v R h ⟨a', c', rfl, H⟩
    refine ⟨a', _, c', OwB a' (pageL 3 [low]).length c' (pageL 3 [low]), _, rfl, ?_, HP.sep_comm H⟩
    refine (uLast_ok ub bd mc mi room ps ps.length _ _ s a' _ c' (pageL 3 [low]) _ (RdL.ow _ 1 _ _ _ _) rfl (by rw [pageL_len]; simp)).weak (fun _ _ h => h) ?_
    rintro v R h ⟨rfl, H⟩
    rw [putPg_last] at H
    by_cases hf : room = ps.length
    · have e1 : putPg room ps ⟨1, pageL 3 [low]⟩ = (4, ps) := if_pos hf
      have e2 : ∀ s', lastS room s ps (pageL 3 [low]) s' = (4, s, ps) := fun _ => if_pos hf
      rw [e1] at H ⊢
      rw [e2]
      exact ⟨4, bd, DRep bd room ps ps.length, s.epoch, s.low, s.top, mc, MapH CellV iE mc s.cells lc cc, mi, MapH InstV iE mi s.inst li ci, _, rfl, ⟨fun _ => .of fun R h H => ⟨rfl, URep.ofH H⟩, fun h => absurd h (by decide)⟩, H⟩
    · have e1 : putPg room ps ⟨1, pageL 3 [low]⟩ = (0, ps ++ [(⟨1, pageL 3 [low]⟩ : Pg)]) := if_neg hf
      have e2 : ∀ s', lastS room s ps (pageL 3 [low]) s' = (0, s', ps ++ [(⟨1, pageL 3 [low]⟩ : Pg)]) := fun _ => if_neg hf
      rw [e1] at H ⊢
      rw [e2]
      dsimp only at H ⊢
      refine ⟨0, bd, DRep bd room (ps ++ [(⟨1, pageL 3 [low]⟩ : Pg)]) (ps ++ [(⟨1, pageL 3 [low]⟩ : Pg)]).length, s.epoch, s.low, s.top, mc, MapH CellV iE mc s.cells lc cc, mi, MapH InstV iE mi s.inst li ci, OwB a' (pageL 3 [low]).length c' (pageL 3 [low]), ?_⟩
      refine And.intro rfl (And.intro ?_ H)
      refine ⟨fun h => (h rfl).elim, fun _ => ?_⟩
      refine (uForget_ok ub bd mc mi _ (MapH InstV iE mi s.inst li ci) { s with low := low } lc cc).weak (fun _ _ h => h) ?_
      rintro v R h ⟨rfl, H⟩
      refine ⟨bd, DRep bd room (ps ++ [(⟨1, pageL 3 [low]⟩ : Pg)]) (ps ++ [(⟨1, pageL 3 [low]⟩ : Pg)]).length, s.epoch, low, s.top, mc, MapE CellV iE mc (forgS { s with low := low }).cells, mi, MapH InstV iE mi s.inst li ci, rfl, .of fun R h H => ⟨rfl, ?_⟩, H⟩
      show (URep ub bd (DRep bd room (ps ++ [(⟨1, pageL 3 [low]⟩ : Pg)]) (ps ++ [(⟨1, pageL 3 [low]⟩ : Pg)]).length) (forgS { s with low := low })).p R h
      refine URep.of (mc := mc) (mi := mi) (HP.sep_mono H (fun _ h => h) fun y hy => HP.sep_mono hy (fun _ h => h) fun z hz => HP.sep_mono hz (fun _ h => h) fun q hq => ?_)
      exact ⟨li, ci, hq⟩
end Go.Proofs.Ytmibmjehjagmbaa
