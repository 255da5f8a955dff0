/- Contracts of the unit: Seal and Write. No condition. -/
import Derived.Test.YtmibmjehjagmbaaUnitG
namespace Go.Proofs.Ytmibmjehjagmbaa
set_option linter.unusedSimpArgs false
set_option linter.unusedVariables false
open Go.Proofs.Ytmibmjehjagmbaa RX

def pgW (l : List UInt8) : Pg := ⟨1, l⟩
theorem lastS_full {room : Int} {s : USt} {ps : List Pg} {l : List UInt8} (h : room = ps.length) (s' : USt) : lastS room s ps l s' = (4, s, ps) := if_pos h
theorem lastS_room {room : Int} {s : USt} {ps : List Pg} {l : List UInt8} (h : ¬ room = ps.length) (s' : USt) : lastS room s ps l s' = (0, s', ps ++ [pgW l]) := if_neg h
/-- Write a page and let it last. -/
theorem uLastU_ok (ub bd mc mi : Nat) (room : Int) (ps : List Pg) (C I : HP) (s : USt) (a : Option Addr) (n c : Nat) (l : List UInt8) (S : HP) (hr : RdL S a n (l.map u8v)) (hl : l.length = n) (hb : n ≤ 140737488355328) :
    Tri Try.prog 75 #[.pointer (some ⟨ub, 0, none⟩), .slice a n c] (HP.sep (UOne ub bd mc mi s) (HP.sep (DRep bd room ps ps.length) (HP.sep C (HP.sep I S))))
    (fun v => HP.ex fun b : Bool => HP.and (v = .int .i64 (if b then 4 else 0) ∧ (b = true ↔ room = ps.length)) (HP.sep (UOne ub bd mc mi s) (HP.sep (DRep bd room (if b then ps else ps ++ [pgW l]) (if b then ps else ps ++ [pgW l]).length) (HP.sep C (HP.sep I S))))) := by
  refine (uLast_ok ub bd mc mi room ps ps.length C I s a n c l S hr hl hb).weak (fun _ _ h => h) ?_
  rintro v R h ⟨rfl, H⟩
  rw [putPg_last] at H
  by_cases hf : room = ps.length
  · have e1 : putPg room ps ⟨1, l⟩ = (4, ps) := if_pos hf
    rw [e1] at H ⊢
    exact ⟨true, ⟨rfl, fun _ => hf, fun _ => rfl⟩, H⟩
  · have e1 : putPg room ps ⟨1, l⟩ = (0, ps ++ [pgW l]) := if_neg hf
    rw [e1] at H ⊢
    exact ⟨false, ⟨rfl, fun h => (by cases h), fun h => absurd h hf⟩, H⟩
theorem UD.ofH {ub bd mc mi : Nat} {room : Int} {s : USt} {ps : List Pg} {lc : AL Int} {cc : Nat} {li : AL Int} {ci : Nat} {R h : PH} (H : (HP.sep (UOne ub bd mc mi s) (HP.sep (DRep bd room ps ps.length) (HP.sep (MapH CellV iE mc s.cells lc cc) (MapH InstV iE mi s.inst li ci)))).p R h) : (UD ub bd room s ps).p R h := URep.ofH H
def sealS (room : Int) (s : USt) (ps : List Pg) (epoch : Int) : Int × USt × List Pg :=
  if epoch ≤ s.epoch then (8, s, ps) else if 2147483647 < epoch then (1, s, ps) else lastS room s ps (pageL 4 [epoch]) { s with epoch := epoch }
theorem uSeal_ok (ub bd : Nat) (room : Int) (s : USt) (ps : List Pg) (epoch : Int) :
    Tri Try.prog 65 #[.pointer (some ⟨ub, 0, none⟩), .int .i64 epoch] (UD ub bd room s ps)
    (fun v => HP.and (v = .int .i64 (sealS room s ps epoch).1) (UD ub bd room (sealS room s ps epoch).2.1 (sealS room s ps epoch).2.2)) := by
  refine URep.tri fun mc mi lc cc li ci => ?_
  refine tri_of_tree (ρ := [.n ub, .n bd, .p (DRep bd room ps ps.length), .i s.epoch, .i s.low, .i s.top, .n mc, .p (MapH CellV iE mc s.cells lc cc), .n mi, .p (MapH InstV iE mi s.inst li ci), .i epoch]) mixed Try.func65 tree_uSeal ?_
  unfold t_uSeal
  simp only [T.den, E.prop, E.den, RX.look, F1.app, F2.app, Uni.int_i, Uni.nat_n, Uni.bool_c, Uni.str_s, Uni.adr_a, Uni.val_v, Uni.hp_p, hden, cden, V.den, W.den, A.den, BR.den, SA.den, FV.den, capV, exs, exP, allP, Cur.app, List.map_cons, List.map_nil, List.cons_append, List.nil_append, List.drop_succ_cons, List.drop_zero, List.length_cons, List.length_nil, Nat.zero_add, Nat.reduceAdd, Int.neg_neg, Bool.not_not, List.append_nil, Nat.add_zero, List.getElem?_cons_zero, List.getElem?_cons_succ, Decidable.not_not]
  refine ⟨fun h1 => .of fun R h H => ?_, fun h1 => ⟨fun h2 => .of fun R h H => ?_, fun h2 y => ?_⟩⟩
  · have e : sealS room s ps epoch = (8, s, ps) := if_pos h1
    rw [e]; exact ⟨rfl, UD.ofH H⟩
  · have e : sealS room s ps epoch = (1, s, ps) := by unfold sealS; rw [if_neg h1, if_pos h2]
    rw [e]; exact ⟨rfl, UD.ofH H⟩
  · have e : sealS room s ps epoch = lastS room s ps (pageL 4 [epoch]) { s with epoch := epoch } := by unfold sealS; rw [if_neg h1, if_neg h2]
    rw [e]
    refine (upage_ok 4 (some ⟨y, 0, none⟩) 1 1 [epoch] _ (one_rd y #[.int .i64 epoch] _) rfl (fun _ => rfl) (by omega)).weak (fun _ _ h => h) ?_
    rintro v R h ⟨b, rfl, H⟩
    refine ⟨b, WRep b (pageL 4 [epoch]), epoch, rfl, ?_, HP.sep_comm H⟩
    refine (wOut_ok b (pageL 4 [epoch]) (by rw [pageL_len]; simp)).weak (fun _ _ h => h) ?_
    rintro v R h ⟨a', c', rfl, H⟩
    refine ⟨a', _, c', OwB a' (pageL 4 [epoch]).length c' (pageL 4 [epoch]), _, rfl, ?_, HP.sep_comm H⟩
    refine (uLastU_ok ub bd mc mi room ps _ _ s a' _ c' (pageL 4 [epoch]) _ (RdL.ow _ 1 _ _ _ _) rfl (by rw [pageL_len]; simp)).weak (fun _ _ h => h) ?_
    rintro v R h ⟨full, ⟨rfl, hf⟩, H⟩
    cases full with
    | true =>
      rw [lastS_full (hf.1 rfl)]
      exact ⟨4, bd, DRep bd room ps ps.length, s.epoch, s.low, s.top, mc, MapH CellV iE mc s.cells lc cc, mi, MapH InstV iE mi s.inst li ci, _, rfl, ⟨fun _ => .of fun R h H => ⟨rfl, UD.ofH H⟩, fun h => absurd h (by decide)⟩, H⟩
    | false =>
      rw [lastS_room (fun h => by have := hf.2 h; cases this)]
      refine ⟨0, bd, DRep bd room (ps ++ [pgW (pageL 4 [epoch])]) (ps ++ [pgW (pageL 4 [epoch])]).length, s.epoch, s.low, s.top, mc, MapH CellV iE mc s.cells lc cc, mi, MapH InstV iE mi s.inst li ci, OwB a' (pageL 4 [epoch]).length c' (pageL 4 [epoch]), rfl, ⟨fun h => absurd rfl h, fun _ => .of fun R h H => ⟨rfl, ?_⟩⟩, H⟩
      exact UD.ofH (s := { s with epoch := epoch }) H
def zC : CellS := ⟨0, []⟩
def putS (s : USt) (at' : Int) (x : CellS) : USt := { s with cells := fput s.cells at' (some x), top := max s.top (at' + 1) }
/-- What Write tells, and what is there then. -/
def writeS (room : Int) (s : USt) (ps : List Pg) (epoch at' : Int) (x : CellS) : CellS × Int × USt × List Pg :=
  if reachE s epoch at' ≠ 0 then (zC, reachE s epoch at', s, ps)
  else if standB x.what x.data.length = false then (zC, 1, s, ps)
  else if at' < s.low then (zC, 11, s, ps)
  else match s.cells at' with
    | some y => (y, 10, s, ps)
    | none => (zC, lastS room s ps (cellL at' x) (putS s at' x))
theorem reach0 {s : USt} {epoch at' : Int} (h : reachE s epoch at' = 0) : epoch = s.epoch ∧ addrOk at' = true := by
  unfold reachE at h
  split at h
  · rename_i he
    split at h
    · rename_i ha; exact ⟨he, ha⟩
    · cases h
  · cases h
theorem UD.ofS {ub bd mc mi : Nat} {room : Int} {s : USt} {ps : List Pg} {lc : AL Int} {cc : Nat} {li : AL Int} {ci : Nat} {S : HP} {R h : PH} (H : (HP.sep (UOne ub bd mc mi s) (HP.sep (DRep bd room ps ps.length) (HP.sep (MapH CellV iE mc s.cells lc cc) (HP.sep (MapH InstV iE mi s.inst li ci) S)))).p R h) : (HP.sep (UD ub bd room s ps) S).p R h :=
  URep.ofS (HP.sep_mono H (fun _ h => h) fun y hy => HP.sep_mono hy (fun _ h => h) fun z hz => HP.sep_mono hz (fun q hq => ⟨_, _, hq⟩) fun u hu => HP.sep_mono hu (fun q hq => ⟨_, _, hq⟩) fun _ h => h)
theorem uWrite_ok (ub bd : Nat) (room : Int) (s : USt) (ps : List Pg) (epoch at' what : Int) (a : Option Addr) (n c : Nat) (d : List UInt8) (S : HP) (hr : RdL S a n (d.map u8v)) (hl : d.length = n) (ha : n ≠ 0 → a.isSome = true) :
    Tri Try.prog 57 #[.pointer (some ⟨ub, 0, none⟩), .int .i64 epoch, .int .i64 at', .agg #[.int .i64 what, .slice a n c]] (HP.sep (UD ub bd room s ps) S)
    (fun v => HP.ex fun a' => HP.ex fun c' => HP.and (v = .tuple #[.agg #[.int .i64 (writeS room s ps epoch at' ⟨what, d⟩).1.what, .slice a' (writeS room s ps epoch at' ⟨what, d⟩).1.data.length c'], .int .i64 (writeS room s ps epoch at' ⟨what, d⟩).2.1])
      (HP.sep (RoB a' (writeS room s ps epoch at' ⟨what, d⟩).1.data.length (writeS room s ps epoch at' ⟨what, d⟩).1.data) (HP.sep (UD ub bd room (writeS room s ps epoch at' ⟨what, d⟩).2.2.1 (writeS room s ps epoch at' ⟨what, d⟩).2.2.2) S))) := by
  refine URep.triS fun mc mi lc cc li ci => ?_
  refine tri_of_tree (ρ := [.n ub, .n bd, .p (DRep bd room ps ps.length), .i s.epoch, .i s.low, .i s.top, .n mc, .p (MapH CellV iE mc s.cells lc cc), .n mi, .p (MapH InstV iE mi s.inst li ci), .i epoch, .i at', .i what, .a a, .n n, .n c, .p S]) mixed Try.func57 tree_uWrite ?_
  unfold t_uWrite
  simp only [T.den, E.prop, E.den, RX.look, F1.app, F2.app, Uni.int_i, Uni.nat_n, Uni.bool_c, Uni.str_s, Uni.adr_a, Uni.val_v, Uni.hp_p, hden, cden, V.den, W.den, A.den, BR.den, SA.den, FV.den, capV, exs, exP, allP, Cur.app, List.map_cons, List.map_nil, List.cons_append, List.nil_append, List.drop_succ_cons, List.drop_zero, List.length_cons, List.length_nil, Nat.zero_add, Nat.reduceAdd, Int.neg_neg, Bool.not_not, List.append_nil, Nat.add_zero, List.getElem?_cons_zero, List.getElem?_cons_succ, Decidable.not_not]
  intro x y
  refine (uReachRaw_ok ub bd mc mi _ _ _ s epoch at').weak (fun _ _ h => h) ?_
  rintro v R h ⟨rfl, H⟩
  refine ⟨_, rfl, ⟨fun h1 => .of fun R h H => ?_, fun h1 => ?_⟩, H⟩
  · have e : writeS room s ps epoch at' ⟨what, d⟩ = (zC, reachE s epoch at', s, ps) := if_pos h1
    rw [e]; exact ⟨none, 0, rfl, RoC.join (RoC.nil _ _ R h) (UD.ofS H)⟩
  have hat := (reach0 h1).2
  refine (ustand_ok what a n c S).weak (fun _ _ h => h) ?_
  rintro v R h ⟨rfl, H⟩
  refine ⟨_, rfl, ⟨fun h2 => .of fun R h H => ?_, fun h2 => ⟨fun h3 => .of fun R h H => ?_, fun h3 => ?_⟩⟩, H⟩
  · have e : writeS room s ps epoch at' ⟨what, d⟩ = (zC, 1, s, ps) := by unfold writeS; rw [if_neg (by simpa using h1), if_pos (by simp only [hl]; simpa using h2)]
    rw [e]; exact ⟨none, 0, rfl, RoC.join (RoC.nil _ _ R h) (UD.ofS H)⟩
  · have e : writeS room s ps epoch at' ⟨what, d⟩ = (zC, 11, s, ps) := by unfold writeS; rw [if_neg (by simpa using h1), if_neg (by simp only [hl]; simpa using h2), if_pos h3]
    rw [e]; exact ⟨none, 0, rfl, RoC.join (RoC.nil _ _ R h) (UD.ofS H)⟩
  have hn : n ≤ 65536 := by
    simp only [standB] at h2
    split at h2
    · simp at h2; omega
    · split at h2
      · simp at h2; omega
      · simp at h2
  clear H
  refine (uCell_ok ub bd mc mi _ (MapH InstV iE mi s.inst li ci) s lc cc at').weak (fun _ _ h => h) ?_
  rintro v R h ⟨a', c', rfl, H⟩
  refine ⟨_, a', _, c', RoB a' ((s.cells at').getD ⟨0, []⟩).data.length ((s.cells at').getD ⟨0, []⟩).data, _, rfl, fun z => ⟨fun hyes => .of fun R h H => ?_, fun hno => ?_⟩, H⟩
  · obtain ⟨u, hu⟩ := Option.isSome_iff_exists.1 hyes
    have e : writeS room s ps epoch at' ⟨what, d⟩ = (u, 10, s, ps) := by unfold writeS; rw [if_neg (by simpa using h1), if_neg (by simp only [hl]; simpa using h2), if_neg h3, hu]
    rw [e]
    rw [hu] at H ⊢
    have hro := HP.sep_right (HP.sep_right (HP.sep_right (HP.sep_right (HP.sep_right H))))
    exact ⟨a', c', rfl, RoC.join hro (UD.ofS (HP.sep_mono H (fun _ h => h) fun y hy => HP.sep_mono hy (fun _ h => h) fun z hz => HP.sep_mono hz (fun _ h => h) fun u hu => HP.sep_mono hu (fun _ h => h) fun q hq => HP.sep_left hq))⟩
  · have hc : s.cells at' = none := by simpa using hno
    have e : writeS room s ps epoch at' ⟨what, d⟩ = (zC, lastS room s ps (cellL at' ⟨what, d⟩) (putS s at' ⟨what, d⟩)) := by unfold writeS; rw [if_neg (by simpa using h1), if_neg (by simp only [hl]; simpa using h2), if_neg h3, hc]
    rw [e]
    clear H
    refine (ucellPage_ok at' what a n c d S hr hl (by omega) ha).weak (fun _ _ h => h) ?_
    rintro v R h ⟨pa, pc, rfl, H⟩
    refine ⟨pa, _, pc, OwB pa (cellL at' ⟨what, d⟩).length pc (cellL at' ⟨what, d⟩), S, rfl, ?_, HP.sep_comm H⟩
    have hcl : (cellL at' ⟨what, d⟩).length ≤ 140737488355328 := by
      unfold cellL; split
      · rw [pageL_len]; simp
      · rw [List.length_append, List.length_append, pageL_len, beN_len]; simp; omega
    refine (uLastU_ok ub bd mc mi room ps _ _ s pa _ pc (cellL at' ⟨what, d⟩) _ (RdL.ow _ 1 _ _ _ _) rfl hcl).weak (fun _ _ h => h) ?_
    rintro v R h ⟨full, ⟨rfl, hf⟩, H⟩
    cases full with
    | true =>
      rw [lastS_full (hf.1 rfl)]
      exact ⟨4, bd, DRep bd room ps ps.length, s.epoch, s.low, s.top, mc, MapH CellV iE mc s.cells lc cc, mi, MapH InstV iE mi s.inst li ci, _, rfl, ⟨fun _ => .of fun R h H => ⟨none, 0, rfl, RoC.join (RoC.nil _ _ R h) (UD.ofS H)⟩, fun h => absurd h (by decide)⟩, H⟩
    | false =>
      rw [lastS_room (fun h => by have := hf.2 h; cases this)]
      refine ⟨0, bd, DRep bd room (ps ++ [pgW (cellL at' ⟨what, d⟩)]) (ps ++ [pgW (cellL at' ⟨what, d⟩)]).length, s.epoch, s.low, s.top, mc, MapH CellV iE mc s.cells lc cc, mi, MapH InstV iE mi s.inst li ci, OwB pa (cellL at' ⟨what, d⟩).length pc (cellL at' ⟨what, d⟩), rfl, ⟨fun h => absurd rfl h, fun _ => ?_⟩, H⟩
      refine (uPut_ok ub bd mc mi _ (MapH InstV iE mi s.inst li ci) s lc cc at' what a n c d S hr hl (by omega) hat).weak (fun _ _ h => h) ?_
      rintro v R h ⟨rfl, H⟩
      refine ⟨bd, DRep bd room (ps ++ [pgW (cellL at' ⟨what, d⟩)]) (ps ++ [pgW (cellL at' ⟨what, d⟩)]).length, s.epoch, s.low, max s.top (at' + 1), mc, MapE CellV iE mc (fput s.cells at' (some ⟨what, d⟩)), mi, MapH InstV iE mi s.inst li ci, S, rfl, .of fun R h H => ⟨none, 0, rfl, RoC.join (RoC.nil _ _ R h) ?_⟩, H⟩
      exact URep.ofS (s := putS s at' ⟨what, d⟩) (mc := mc) (mi := mi) (HP.sep_mono H (fun _ h => h) fun y hy => HP.sep_mono hy (fun _ h => h) fun z hz => HP.sep_mono hz (fun _ h => h) fun u hu => HP.sep_mono hu (fun q hq => ⟨_, _, hq⟩) fun _ h => h)
end Go.Proofs.Ytmibmjehjagmbaa
