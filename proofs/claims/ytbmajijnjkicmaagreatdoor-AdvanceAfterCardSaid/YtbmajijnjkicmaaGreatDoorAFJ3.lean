/- Texts of this claim, joined. No condition. -/
import Derived.Test.YtbmajijnjkicmaaGreatDoorAFJ1
import Derived.Test.YtbmajijnjkicmaaGreatDoorAFJ2
import Derived.KernelRfl
import Derived.SizedLaws
import Derived.ProofKit
import Derived.OpenShut
import Derived.Deep.Slices
import Derived.Lib.SmallJoins
import Derived.Below
set_option linter.unusedSimpArgs false
set_option linter.unusedVariables false

namespace Go.Proofs.YtbmajijnjkicmaaGreatDoor
set_option linter.unusedSimpArgs false
set_option linter.unusedVariables false
open Go.Proofs.YtbmajijnjkicmaaGreatDoor RX

def numOk (n : Int) : Bool := decide (0 ≤ n) && decide (n ≤ 2147483647)
def propOk (n r w : Int) : Bool := decide (1 ≤ n) && decide (n ≤ 2147483647) && numOk r && numOk w
def lessB (r w r' w' : Int) : Bool := decide (r < r') || (decide (r = r') && decide (w < w'))
def addrOk (n : Int) : Bool := decide (0 ≤ n) && decide (n ≤ 4294967296)
theorem unum_ok (n : Int) : Tri Tryz.prog 86 #[.int .i64 n] HP.tt (fun v => HP.and (v = .bool (numOk n)) HP.tt) := by
  refine tri_of_tree (ρ := [.i n]) mixed Tryz.func86 tree_number ?_
  unfold t_number
  simp only [T.den, E.prop, E.den, RX.look, F1.app, F2.app, Uni.int_i, Uni.nat_n, Uni.bool_c, Uni.str_s, Uni.adr_a, Uni.val_v, Uni.hp_p, hden, cden, V.den, W.den, A.den, BR.den, SA.den, FV.den, capV, exs, exP, allP, Cur.app, List.map_cons, List.map_nil, List.cons_append, List.nil_append, List.drop_succ_cons, List.drop_zero, List.length_cons, List.length_nil, Nat.zero_add, Nat.reduceAdd, Int.neg_neg, Bool.not_not, List.append_nil, Nat.add_zero, List.getElem?_cons_zero, List.getElem?_cons_succ, Decidable.not_not]
  refine ⟨fun h => .of fun R h' _ => ⟨?_, trivial⟩, fun h => .of fun R h' _ => ⟨?_, trivial⟩⟩
  · simp [numOk, h]; congr
  · simp [numOk, h]
theorem uprop_ok (n r w : Int) : Tri Tryz.prog 87 #[.int .i64 n, .agg #[.int .i64 r, .int .i64 w]] HP.tt (fun v => HP.and (v = .bool (propOk n r w)) HP.tt) := by
  refine tri_of_tree (ρ := [.i n, .i r, .i w]) mixed Tryz.func87 tree_proposal ?_
  unfold t_proposal
  simp only [T.den, E.prop, E.den, RX.look, F1.app, F2.app, Uni.int_i, Uni.nat_n, Uni.bool_c, Uni.str_s, Uni.adr_a, Uni.val_v, Uni.hp_p, hden, cden, V.den, W.den, A.den, BR.den, SA.den, FV.den, capV, exs, exP, allP, Cur.app, List.map_cons, List.map_nil, List.cons_append, List.nil_append, List.drop_succ_cons, List.drop_zero, List.length_cons, List.length_nil, Nat.zero_add, Nat.reduceAdd, Int.neg_neg, Bool.not_not, List.append_nil, Nat.add_zero, List.getElem?_cons_zero, List.getElem?_cons_succ, Decidable.not_not]
  refine fun x => ⟨fun h1 => ⟨fun h2 => ?_, fun h2 => .of fun R h' _ => ⟨?_, trivial⟩⟩, fun h1 => .of fun R h' _ => ⟨?_, trivial⟩⟩
  · refine (unum_ok r).weak (fun _ _ h => h) ?_
    rintro v R h ⟨rfl, H⟩
    refine ⟨_, rfl, ⟨fun h3 => ?_, fun h3 => .of fun R h' _ => ⟨?_, trivial⟩⟩, H⟩
    · refine (unum_ok w).weak (fun _ _ h => h) ?_
      rintro v R h ⟨rfl, H⟩
      refine ⟨_, rfl, .of fun R h' _ => ⟨?_, trivial⟩, H⟩
      simp [propOk, h1, h2, h3]
    · simp only [Bool.not_eq_true] at h3; simp [propOk, h3]
  · simp [propOk, h2]
  · simp [propOk, h1]
theorem uless_ok (r w r' w' : Int) : Tri Tryz.prog 135 #[.agg #[.int .i64 r, .int .i64 w], .agg #[.int .i64 r', .int .i64 w']] HP.tt (fun v => HP.and (v = .bool (lessB r w r' w')) HP.tt) := by
  refine tri_of_tree (ρ := [.i r, .i w, .i r', .i w']) mixed Tryz.func135 tree_less ?_
  unfold t_less
  simp only [T.den, E.prop, E.den, RX.look, F1.app, F2.app, Uni.int_i, Uni.nat_n, Uni.bool_c, Uni.str_s, Uni.adr_a, Uni.val_v, Uni.hp_p, hden, cden, V.den, W.den, A.den, BR.den, SA.den, FV.den, capV, exs, exP, allP, Cur.app, List.map_cons, List.map_nil, List.cons_append, List.nil_append, List.drop_succ_cons, List.drop_zero, List.length_cons, List.length_nil, Nat.zero_add, Nat.reduceAdd, Int.neg_neg, Bool.not_not, List.append_nil, Nat.add_zero, List.getElem?_cons_zero, List.getElem?_cons_succ, Decidable.not_not]
  refine fun x y => ⟨fun h1 => .of fun R h' _ => ⟨?_, trivial⟩, fun h1 => ⟨fun h2 => .of fun R h' _ => ⟨?_, trivial⟩, fun h2 => .of fun R h' _ => ⟨?_, trivial⟩⟩⟩
  · simp [lessB, h1]
  · simp [lessB, h1, h2]
  · simp [lessB, h1, h2]
theorem uaddr_ok (n : Int) : Tri Tryz.prog 73 #[.int .i64 n] HP.tt (fun v => HP.and (v = .bool (addrOk n)) HP.tt) := by
  refine tri_of_tree (ρ := [.i n]) mixed Tryz.func73 tree_address ?_
  unfold t_address
  simp only [T.den, E.prop, E.den, RX.look, F1.app, F2.app, Uni.int_i, Uni.nat_n, Uni.bool_c, Uni.str_s, Uni.adr_a, Uni.val_v, Uni.hp_p, hden, cden, V.den, W.den, A.den, BR.den, SA.den, FV.den, capV, exs, exP, allP, Cur.app, List.map_cons, List.map_nil, List.cons_append, List.nil_append, List.drop_succ_cons, List.drop_zero, List.length_cons, List.length_nil, Nat.zero_add, Nat.reduceAdd, Int.neg_neg, Bool.not_not, List.append_nil, Nat.add_zero, List.getElem?_cons_zero, List.getElem?_cons_succ, Decidable.not_not]
  refine ⟨fun h => .of fun R h' _ => ⟨?_, trivial⟩, fun h => .of fun R h' _ => ⟨?_, trivial⟩⟩
  · simp [addrOk, h]; congr
  · simp [addrOk, h]
def standB (what : Int) (n : Nat) : Bool := if what = 1 then decide ((n : Int) ≤ 65536) else if what = 2 then decide ((n : Int) = 0) else false
theorem ustand_ok (what : Int) (a : Option Addr) (n c : Nat) (S : HP) : Tri Tryz.prog 41 #[.agg #[.int .i64 what, .slice a n c]] S (fun v => HP.and (v = .bool (standB what n)) S) := by
  refine tri_of_tree (ρ := [.i what, .a a, .n n, .n c, .p S]) mixed Tryz.func41 tree_standing ?_
  unfold t_standing
  simp only [T.den, E.prop, E.den, RX.look, F1.app, F2.app, Uni.int_i, Uni.nat_n, Uni.bool_c, Uni.str_s, Uni.adr_a, Uni.val_v, Uni.hp_p, hden, cden, V.den, W.den, A.den, BR.den, SA.den, FV.den, capV, exs, exP, allP, Cur.app, List.map_cons, List.map_nil, List.cons_append, List.nil_append, List.drop_succ_cons, List.drop_zero, List.length_cons, List.length_nil, Nat.zero_add, Nat.reduceAdd, Int.neg_neg, Bool.not_not, List.append_nil, Nat.add_zero, List.getElem?_cons_zero, List.getElem?_cons_succ, Decidable.not_not]
  refine fun x => ⟨fun h1 => .of fun R h' H => ⟨?_, H⟩, fun h1 => ⟨fun h2 => .of fun R h' H => ⟨?_, H⟩, fun h2 => .of fun R h' H => ⟨?_, H⟩⟩⟩
  · simp [standB, h1]
  · simp [standB, h2]
  · simp [standB, h1, h2]
theorem wrap_u64 (x : Int) : 0 ≤ IntKind.u64.wrap x := by
  show (0 : Int) ≤ x % (2 ^ 64)
  exact Int.emod_nonneg _ (by decide)
theorem Tri.pre {P : Program} {f : FuncId} {args : Array Value} {A A' : HP} {B : Value → HP} (t : Tri P f args A B) (e : HP.ent A' A) : Tri P f args A' B :=
  t.conseq (K := HP.tt) (e.trans (.of fun _ _ => HP.sep_tt)) fun _ => .of fun _ _ => HP.sep_left
def pageL (k : UInt8) (ns : List Int) : List UInt8 := k :: ns.flatMap fun n => beN (IntKind.u64.wrap n).toNat 8
theorem pageL_len (k : UInt8) (ns : List Int) : (pageL k ns).length = 1 + 8 * ns.length := by
  unfold pageL
  rw [List.length_cons]
  induction ns with
  | nil => rfl
  | cons x r ih => rw [List.flatMap_cons, List.length_append, beN_len, List.length_cons]; omega
theorem upage_ok (k : UInt8) (a : Option Addr) (n c : Nat) (ns : List Int) (S : HP) (hr : Rd S a (ns.map fun x => .int .i64 x)) (hl : ns.length = n) (ha : n ≠ 0 → a.isSome = true) (hn : n ≤ 1000) :
    Tri Tryz.prog 77 #[u8v k, .slice a n c] S (fun v => HP.ex fun b => HP.and (v = .pointer (some ⟨b, 0, none⟩)) (HP.sep S (WRep b (pageL k ns)))) := by
  refine tri_of_tree (ρ := [.i k.toNat, .a a, .n n, .n c, .p S]) mixed Tryz.func77 tree_page ?_
  unfold t_page
  simp only [T.den, E.prop, E.den, RX.look, F1.app, F2.app, Uni.int_i, Uni.nat_n, Uni.bool_c, Uni.str_s, Uni.adr_a, Uni.val_v, Uni.hp_p, hden, cden, V.den, W.den, A.den, BR.den, SA.den, FV.den, capV, exs, exP, allP, Cur.app, List.map_cons, List.map_nil, List.cons_append, List.nil_append, List.drop_succ_cons, List.drop_zero, List.length_cons, List.length_nil, Nat.zero_add, Nat.reduceAdd, Int.neg_neg, Bool.not_not, List.append_nil, Nat.add_zero, List.getElem?_cons_zero, List.getElem?_cons_succ, Decidable.not_not]
  intro b
  refine (wByte_ok b [] k (by simp)).weak (fun R h H => ⟨none, 0, HP.sep_mono (HP.sep_tt H) (fun _ h => h) fun y _ => OwC.nil _ _ R y⟩) ?_
  rintro v R h ⟨rfl, H⟩
  refine ⟨WRep b [k], rfl, ⟨fun x P => ∃ j : Nat, x = j ∧ j ≤ n ∧ HP.ent P (WRep b (pageL k (ns.take j))), fun x _ => n - x.toNat, ⟨0, rfl, Nat.zero_le _, .refl _⟩, ?_⟩, H⟩
  rintro _ P ⟨j, rfl, hj, hP⟩
  refine ⟨fun hlt => ⟨by omega, fun _ => ⟨ha (by omega), fun _ => ?_⟩⟩, fun hge => ?_⟩
  · have hg : ns[j]? = some (ns[j]'(by omega)) := List.getElem?_eq_getElem (by omega)
    refine ⟨ns[j]'(by omega), ?_, ?_⟩
    · have := load1_ok (t := 3) (d := .int .i64) (by kernel_rfl) (by kernel_rfl) (by kernel_rfl) hr (k := j) (off := 0) (v := .int .i64 (ns[j]'(by omega))) (by rw [Nat.add_zero, List.getElem?_map, hg]; rfl)
      rw [semOf_load]
      simp only [T.den, E.prop, E.den, RX.look, F1.app, F2.app, Uni.int_i, Uni.nat_n, Uni.bool_c, Uni.str_s, Uni.adr_a, Uni.val_v, Uni.hp_p, hden, cden, V.den, W.den, A.den, BR.den, SA.den, FV.den, capV, exs, exP, allP, Cur.app, List.map_cons, List.map_nil, List.cons_append, List.nil_append, List.drop_succ_cons, List.drop_zero, List.length_cons, List.length_nil, Nat.zero_add, Nat.reduceAdd, Int.neg_neg, Bool.not_not, List.append_nil, Nat.add_zero, List.getElem?_cons_zero, List.getElem?_cons_succ, Decidable.not_not]
      rw [Int.toNat_natCast, Nat.mul_one]
      exact this
    · have hw : IntKind.u64.wrap (ns[j]'(by omega)) = ((IntKind.u64.wrap (ns[j]'(by omega))).toNat : Int) := (Int.toNat_of_nonneg (wrap_u64 _)).symm
      rw [hw]
      refine ((wNumber_ok b (pageL k (ns.take j)) (IntKind.u64.wrap (ns[j]'(by omega))).toNat 8 (Nat.le_refl _) (by rw [pageL_len, List.length_take]; omega)).pre hP).weak (fun _ _ h => h) ?_
      rintro v R h ⟨rfl, H⟩
      refine ⟨_, rfl, ⟨inI64 _ (by omega) (by omega), fun _ => ⟨⟨j + 1, by omega, by omega, .refl _⟩, by dsimp only; omega⟩⟩, ?_⟩
      have e : pageL k (ns.take (j + 1)) = pageL k (ns.take j) ++ beN (IntKind.u64.wrap (ns[j]'(by omega))).toNat 8 := by
        have : ns.take (j + 1) = ns.take j ++ [ns[j]'(by omega)] := by rw [List.take_add_one, hg]; rfl
        rw [this]
        simp only [pageL, List.flatMap_append, List.flatMap_cons, List.flatMap_nil, List.append_nil, List.cons_append]
      rw [e]
      exact H
  · have : j = n := by omega
    subst this
    rw [List.take_of_length_le (by omega)] at hP
    exact ((HP.ent.refl _).sep2 hP).trans (.of fun R h H => ⟨b, rfl, H⟩)
def cellL (at' : Int) (x : CellS) : List UInt8 := if x.what = 2 then pageL 2 [at'] else pageL 1 [at'] ++ beN x.data.length 4 ++ x.data
theorem ucellPage_ok (at' what : Int) (a : Option Addr) (n c : Nat) (d : List UInt8) (S : HP) (hr : RdL S a n (d.map u8v)) (hl : d.length = n) (hn : n ≤ 100000000) (ha : n ≠ 0 → a.isSome = true) :
    Tri Tryz.prog 44 #[.int .i64 at', .agg #[.int .i64 what, .slice a n c]] S (fun v => HP.ex fun a' => HP.ex fun c' => HP.and (v = .slice a' (cellL at' ⟨what, d⟩).length c') (HP.sep S (OwB a' (cellL at' ⟨what, d⟩).length c' (cellL at' ⟨what, d⟩)))) := by
  refine tri_of_tree (ρ := [.i at', .i what, .a a, .n n, .n c, .p S]) mixed Tryz.func44 tree_cellPage ?_
  unfold t_cellPage
  simp only [T.den, E.prop, E.den, RX.look, F1.app, F2.app, Uni.int_i, Uni.nat_n, Uni.bool_c, Uni.str_s, Uni.adr_a, Uni.val_v, Uni.hp_p, hden, cden, V.den, W.den, A.den, BR.den, SA.den, FV.den, capV, exs, exP, allP, Cur.app, List.map_cons, List.map_nil, List.cons_append, List.nil_append, List.drop_succ_cons, List.drop_zero, List.length_cons, List.length_nil, Nat.zero_add, Nat.reduceAdd, Int.neg_neg, Bool.not_not, List.append_nil, Nat.add_zero, List.getElem?_cons_zero, List.getElem?_cons_succ, Decidable.not_not]
  have rd1 : ∀ y, Rd (HP.one y (.cells #[.int .i64 at'] 3)) (some ⟨y, 0, none⟩) ([at'].map fun x => .int .i64 x) := fun y => one_rd y #[.int .i64 at'] _
  refine fun x => ⟨fun hw y => ?_, fun hw y => ?_⟩
  · refine (upage_ok 2 (some ⟨y, 0, none⟩) 1 1 [at'] _ (rd1 y) rfl (fun _ => rfl) (by omega)).weak (fun _ _ h => h) ?_
    rintro v R h ⟨b, rfl, H⟩
    refine ⟨b, WRep b (pageL 2 [at']), at', rfl, ?_, HP.sep_comm H⟩
    refine (wOut_ok b (pageL 2 [at']) (by rw [pageL_len]; simp)).weak (fun _ _ h => h) ?_
    rintro v R h ⟨a', c', rfl, H⟩
    have e : cellL at' ⟨what, d⟩ = pageL 2 [at'] := if_pos hw
    rw [e]
    exact ⟨a', _, c', OwB a' (pageL 2 [at']).length c' (pageL 2 [at']), _, rfl, .of fun R h H => ⟨a', c', rfl, H⟩, HP.sep_comm H⟩
  · refine (upage_ok 1 (some ⟨y, 0, none⟩) 1 1 [at'] _ (rd1 y) rfl (fun _ => rfl) (by omega)).weak (fun _ _ h => h) ?_
    rintro v R h ⟨b, rfl, H⟩
    refine ⟨b, WRep b (pageL 1 [at']), at', rfl, ?_, HP.sep_comm H⟩
    refine (wBytes_ok b (pageL 1 [at']) a n c d S hr hl ha (by rw [pageL_len]; simp only [List.length_cons, List.length_nil]; omega)).weak (fun _ _ h => h) ?_
    rintro v R h ⟨rfl, H⟩
    refine ⟨_, S, rfl, ?_, H⟩
    refine (wOut_ok b _ (by rw [List.length_append, List.length_append, pageL_len, beN_len]; simp only [List.length_cons, List.length_nil]; omega)).weak (fun _ _ h => h) ?_
    rintro v R h ⟨a', c', rfl, H⟩
    have e : cellL at' ⟨what, d⟩ = pageL 1 [at'] ++ beN n 4 ++ d := by simp only [cellL]; rw [if_neg hw, hl]
    rw [e]
    exact ⟨a', _, c', OwB a' _ c' _, _, rfl, .of fun R h H => ⟨a', c', rfl, H⟩, HP.sep_comm H⟩
end Go.Proofs.YtbmajijnjkicmaaGreatDoor



namespace Go.Proofs.YtbmajijnjkicmaaGreatDoor
set_option linter.unusedSimpArgs false
set_option linter.unusedVariables false
open Go.Proofs.YtbmajijnjkicmaaGreatDoor RX

structure InstS where
  pr : Int
  pw : Int
  ar : Int
  aw : Int
  val : List UInt8
def CellV (v : Value) (x : CellS) : HP := HP.ex fun a => HP.ex fun c => HP.and (v = .agg #[.int .i64 x.what, .slice a x.data.length c] ∧ x.data.length ≤ 140737488355328) (RoB a x.data.length x.data)
def InstV (v : Value) (x : InstS) : HP := HP.ex fun a => HP.ex fun c => HP.and (v = .agg #[.int .i64 x.pr, .int .i64 x.pw, .int .i64 x.ar, .int .i64 x.aw, .slice a x.val.length c] ∧ x.val.length ≤ 140737488355328) (RoB a x.val.length x.val)
theorem cellV_pers : Pers CellV := fun _ _ _ _ _ ⟨a, c, e, H⟩ => ⟨a, c, e, H⟩
theorem instV_pers : Pers InstV := fun _ _ _ _ _ ⟨a, c, e, H⟩ => ⟨a, c, e, H⟩
theorem undMc : Tryz.prog.underlying 91 = some (.map 3 37) := by kernel_rfl
theorem undMi : Tryz.prog.underlying 92 = some (.map 3 182) := by kernel_rfl
theorem infoC : (Tryz.prog.info? 37).map (fun i => (i.zero, i.size, i.bytes)) = some (some (.agg #[.int .i64 0, .slice none 0 0]), 2, 32) := by kernel_rfl
theorem infoI : (Tryz.prog.info? 182).map (fun i => (i.zero, i.size, i.bytes)) = some (some (.agg #[.int .i64 0, .int .i64 0, .int .i64 0, .int .i64 0, .slice none 0 0]), 5, 56) := by kernel_rfl
structure USt where
  epoch : Int
  low : Int
  top : Int
  cells : Int → Option CellS
  inst : Int → Option InstS
def UOne (ub bd mc mi : Nat) (s : USt) : HP := HP.one ub (.cells #[.pointer (some ⟨bd, 0, none⟩), .int .i64 s.epoch, .int .i64 s.low, .int .i64 s.top, .map (some mc), .map (some mi)] 94)
def URep (ub bd : Nat) (D : HP) (s : USt) : HP := HP.ex fun mc => HP.ex fun mi => HP.sep (UOne ub bd mc mi s) (HP.sep D (HP.sep (MapE CellV iE mc s.cells) (MapE InstV iE mi s.inst)))
theorem URep.tri {f : FuncId} {args : Array Value} {ub bd : Nat} {D : HP} {s : USt} {B : Value → HP}
    (t : ∀ mc mi lc cc li ci, Tri Tryz.prog f args (HP.sep (UOne ub bd mc mi s) (HP.sep D (HP.sep (MapH CellV iE mc s.cells lc cc) (MapH InstV iE mi s.inst li ci)))) B) : Tri Tryz.prog f args (URep ub bd D s) B := by
  refine Tri.ex fun mc => Tri.ex fun mi => ?_
  refine (Tri.ex (A := fun lc => HP.ex fun cc => HP.ex fun li => HP.ex fun ci => HP.sep (UOne ub bd mc mi s) (HP.sep D (HP.sep (MapH CellV iE mc s.cells lc cc) (MapH InstV iE mi s.inst li ci)))) fun lc => Tri.ex fun cc => Tri.ex fun li => Tri.ex fun ci => t mc mi lc cc li ci).weak ?_ fun _ _ _ h => h
  rintro R h ⟨h1, h2, d, l1, l2, H1, h3, h4, d2, l3, l4, H2, h5, h6, d3, l5, l6, ⟨lc, cc, H3⟩, ⟨li, ci, H4⟩⟩
  exact ⟨lc, cc, li, ci, h1, h2, d, l1, l2, H1, h3, h4, d2, l3, l4, H2, h5, h6, d3, l5, l6, H3, H4⟩
theorem URep.triS {f : FuncId} {args : Array Value} {ub bd : Nat} {D S : HP} {s : USt} {B : Value → HP}
    (t : ∀ mc mi lc cc li ci, Tri Tryz.prog f args (HP.sep (UOne ub bd mc mi s) (HP.sep D (HP.sep (MapH CellV iE mc s.cells lc cc) (HP.sep (MapH InstV iE mi s.inst li ci) S)))) B) : Tri Tryz.prog f args (HP.sep (URep ub bd D s) S) B := by
  refine (Tri.ex (A := fun mc => HP.ex fun mi => HP.ex fun lc => HP.ex fun cc => HP.ex fun li => HP.ex fun ci => HP.sep (UOne ub bd mc mi s) (HP.sep D (HP.sep (MapH CellV iE mc s.cells lc cc) (HP.sep (MapH InstV iE mi s.inst li ci) S)))) fun mc => Tri.ex fun mi => Tri.ex fun lc => Tri.ex fun cc => Tri.ex fun li => Tri.ex fun ci => t mc mi lc cc li ci).weak ?_ fun _ _ _ h => h
  rintro R h ⟨h1, h2, d, l1, l2, ⟨mc, mi, H⟩, HS⟩
  refine ⟨mc, mi, ?_⟩
  obtain ⟨k1, k2, e, m1, m2, H1, H2⟩ := HP.sep_assoc ⟨h1, h2, d, l1, l2, H, HS⟩
  obtain ⟨k3, k4, e2, m3, m4, H3, H4⟩ := HP.sep_assoc H2
  obtain ⟨k5, k6, e3, m5, m6, ⟨lc, cc, H5⟩, k7, k8, e4, m7, m8, ⟨li, ci, H6⟩, H7⟩ := HP.sep_assoc H4
  exact ⟨lc, cc, li, ci, k1, k2, e, m1, m2, H1, k3, k4, e2, m3, m4, H3, k5, k6, e3, m5, m6, H5, k7, k8, e4, m7, m8, H6, H7⟩
theorem URep.of {ub bd mc mi : Nat} {D : HP} {s : USt} {R h : PH} (H : (HP.sep (UOne ub bd mc mi s) (HP.sep D (HP.sep (MapE CellV iE mc s.cells) (MapE InstV iE mi s.inst)))).p R h) : (URep ub bd D s).p R h := ⟨mc, mi, H⟩
theorem URep.ofH {ub bd mc mi : Nat} {D : HP} {s : USt} {lc : AL Int} {cc : Nat} {li : AL Int} {ci : Nat} {R h : PH} (H : (HP.sep (UOne ub bd mc mi s) (HP.sep D (HP.sep (MapH CellV iE mc s.cells lc cc) (MapH InstV iE mi s.inst li ci)))).p R h) : (URep ub bd D s).p R h := by
  obtain ⟨h1, h2, d, l1, l2, H1, h3, h4, d2, l3, l4, H2, h5, h6, d3, l5, l6, H3, H4⟩ := H
  exact ⟨mc, mi, h1, h2, d, l1, l2, H1, h3, h4, d2, l3, l4, H2, h5, h6, d3, l5, l6, ⟨_, _, H3⟩, ⟨_, _, H4⟩⟩
theorem URep.ofS {ub bd mc mi : Nat} {D S : HP} {s : USt} {R h : PH} (H : (HP.sep (UOne ub bd mc mi s) (HP.sep D (HP.sep (MapE CellV iE mc s.cells) (HP.sep (MapE InstV iE mi s.inst) S)))).p R h) : (HP.sep (URep ub bd D s) S).p R h := by
  have H2 := HP.sep_assoc' (HP.sep_mono H (fun _ h => h) fun y hy => HP.sep_assoc' (HP.sep_mono hy (fun _ h => h) fun z hz => HP.sep_assoc' hz))
  exact HP.sep_mono H2 (fun y hy => ⟨mc, mi, hy⟩) fun _ h => h
theorem uEpoch_ok (ub bd : Nat) (D : HP) (s : USt) : Tri Tryz.prog 22 #[.pointer (some ⟨ub, 0, none⟩)] (URep ub bd D s) (fun v => HP.and (v = .int .i64 s.epoch) (URep ub bd D s)) := by
  refine URep.tri fun mc mi lc cc li ci => ?_
  refine tri_of_tree (ρ := [.n ub, .n bd, .p D, .i s.epoch, .i s.low, .i s.top, .n mc, .p (MapH CellV iE mc s.cells lc cc), .n mi, .p (MapH InstV iE mi s.inst li ci)]) mixed Tryz.func22 tree_uEpoch ?_
  unfold t_uEpoch
  simp only [T.den, E.prop, E.den, RX.look, F1.app, F2.app, Uni.int_i, Uni.nat_n, Uni.bool_c, Uni.str_s, Uni.adr_a, Uni.val_v, Uni.hp_p, hden, cden, V.den, W.den, A.den, BR.den, SA.den, FV.den, capV, exs, exP, allP, Cur.app, List.map_cons, List.map_nil, List.cons_append, List.nil_append, List.drop_succ_cons, List.drop_zero, List.length_cons, List.length_nil, Nat.zero_add, Nat.reduceAdd, Int.neg_neg, Bool.not_not, List.append_nil, Nat.add_zero, List.getElem?_cons_zero, List.getElem?_cons_succ, Decidable.not_not]
  exact .of fun R h H => ⟨trivial, URep.ofH H⟩
theorem uLow_ok (ub bd : Nat) (D : HP) (s : USt) : Tri Tryz.prog 59 #[.pointer (some ⟨ub, 0, none⟩)] (URep ub bd D s) (fun v => HP.and (v = .int .i64 s.low) (URep ub bd D s)) := by
  refine URep.tri fun mc mi lc cc li ci => ?_
  refine tri_of_tree (ρ := [.n ub, .n bd, .p D, .i s.epoch, .i s.low, .i s.top, .n mc, .p (MapH CellV iE mc s.cells lc cc), .n mi, .p (MapH InstV iE mi s.inst li ci)]) mixed Tryz.func59 tree_uLow ?_
  unfold t_uLow
  simp only [T.den, E.prop, E.den, RX.look, F1.app, F2.app, Uni.int_i, Uni.nat_n, Uni.bool_c, Uni.str_s, Uni.adr_a, Uni.val_v, Uni.hp_p, hden, cden, V.den, W.den, A.den, BR.den, SA.den, FV.den, capV, exs, exP, allP, Cur.app, List.map_cons, List.map_nil, List.cons_append, List.nil_append, List.drop_succ_cons, List.drop_zero, List.length_cons, List.length_nil, Nat.zero_add, Nat.reduceAdd, Int.neg_neg, Bool.not_not, List.append_nil, Nat.add_zero, List.getElem?_cons_zero, List.getElem?_cons_succ, Decidable.not_not]
  exact .of fun R h H => ⟨trivial, URep.ofH H⟩
theorem uTail_ok (ub bd : Nat) (D : HP) (s : USt) : Tri Tryz.prog 105 #[.pointer (some ⟨ub, 0, none⟩)] (URep ub bd D s) (fun v => HP.and (v = .int .i64 (max s.top s.low)) (URep ub bd D s)) := by
  refine URep.tri fun mc mi lc cc li ci => ?_
  refine tri_of_tree (ρ := [.n ub, .n bd, .p D, .i s.epoch, .i s.low, .i s.top, .n mc, .p (MapH CellV iE mc s.cells lc cc), .n mi, .p (MapH InstV iE mi s.inst li ci)]) mixed Tryz.func105 tree_uTail ?_
  unfold t_uTail
  simp only [T.den, E.prop, E.den, RX.look, F1.app, F2.app, Uni.int_i, Uni.nat_n, Uni.bool_c, Uni.str_s, Uni.adr_a, Uni.val_v, Uni.hp_p, hden, cden, V.den, W.den, A.den, BR.den, SA.den, FV.den, capV, exs, exP, allP, Cur.app, List.map_cons, List.map_nil, List.cons_append, List.nil_append, List.drop_succ_cons, List.drop_zero, List.length_cons, List.length_nil, Nat.zero_add, Nat.reduceAdd, Int.neg_neg, Bool.not_not, List.append_nil, Nat.add_zero, List.getElem?_cons_zero, List.getElem?_cons_succ, Decidable.not_not]
  exact .of fun R h H => ⟨trivial, URep.ofH H⟩
def reachE (s : USt) (epoch at' : Int) : Int := if epoch = s.epoch then (if addrOk at' then 0 else 2) else 8
theorem uReachRaw_ok (ub bd mc mi : Nat) (D C I : HP) (s : USt) (epoch at' : Int) : Tri Tryz.prog 40 #[.pointer (some ⟨ub, 0, none⟩), .int .i64 epoch, .int .i64 at'] (HP.sep (UOne ub bd mc mi s) (HP.sep D (HP.sep C I)))
    (fun v => HP.and (v = .int .i64 (reachE s epoch at')) (HP.sep (UOne ub bd mc mi s) (HP.sep D (HP.sep C I)))) := by
  refine tri_of_tree (ρ := [.n ub, .n bd, .p D, .i s.epoch, .i s.low, .i s.top, .n mc, .p C, .n mi, .p I, .i epoch, .i at']) mixed Tryz.func40 tree_uReach ?_
  unfold t_uReach
  simp only [T.den, E.prop, E.den, RX.look, F1.app, F2.app, Uni.int_i, Uni.nat_n, Uni.bool_c, Uni.str_s, Uni.adr_a, Uni.val_v, Uni.hp_p, hden, cden, V.den, W.den, A.den, BR.den, SA.den, FV.den, capV, exs, exP, allP, Cur.app, List.map_cons, List.map_nil, List.cons_append, List.nil_append, List.drop_succ_cons, List.drop_zero, List.length_cons, List.length_nil, Nat.zero_add, Nat.reduceAdd, Int.neg_neg, Bool.not_not, List.append_nil, Nat.add_zero, List.getElem?_cons_zero, List.getElem?_cons_succ, Decidable.not_not]
  refine ⟨fun h => .of fun R y H => ⟨by rw [reachE, if_neg h], H⟩, fun h => (uaddr_ok at').weak (fun _ _ h => h) ?_⟩
  rintro v R y ⟨rfl, H⟩
  refine ⟨_, rfl, ⟨fun h2 => .of fun R y H => ⟨by rw [reachE, if_pos h, if_neg h2], H⟩, fun h2 => .of fun R y H => ⟨by rw [reachE, if_pos h, if_pos h2], H⟩⟩, H⟩
theorem uLast_ok (ub bd mc mi : Nat) (room : Int) (ps : List Pg) (lasts : Nat) (C I : HP) (s : USt) (a : Option Addr) (n c : Nat) (l : List UInt8) (S : HP) (hr : RdL S a n (l.map u8v)) (hl : l.length = n) (hb : n ≤ 140737488355328) :
    Tri Tryz.prog 43 #[.pointer (some ⟨ub, 0, none⟩), .slice a n c] (HP.sep (UOne ub bd mc mi s) (HP.sep (DRep bd room ps lasts) (HP.sep C (HP.sep I S))))
    (fun v => HP.and (v = .int .i64 (putPg room ps ⟨1, l⟩).1) (HP.sep (UOne ub bd mc mi s) (HP.sep (DRep bd room (putPg room ps ⟨1, l⟩).2 (if (putPg room ps ⟨1, l⟩).1 = 0 then (putPg room ps ⟨1, l⟩).2.length else lasts)) (HP.sep C (HP.sep I S))))) := by
  refine tri_of_tree (ρ := [.n ub, .n bd, .p (DRep bd room ps lasts), .i s.epoch, .i s.low, .i s.top, .n mc, .p C, .n mi, .p I, .a a, .n n, .n c, .p S]) mixed Tryz.func43 tree_uLast ?_
  unfold t_uLast
  simp only [T.den, E.prop, E.den, RX.look, F1.app, F2.app, Uni.int_i, Uni.nat_n, Uni.bool_c, Uni.str_s, Uni.adr_a, Uni.val_v, Uni.hp_p, hden, cden, V.den, W.den, A.den, BR.den, SA.den, FV.den, capV, exs, exP, allP, Cur.app, List.map_cons, List.map_nil, List.cons_append, List.nil_append, List.drop_succ_cons, List.drop_zero, List.length_cons, List.length_nil, Nat.zero_add, Nat.reduceAdd, Int.neg_neg, Bool.not_not, List.append_nil, Nat.add_zero, List.getElem?_cons_zero, List.getElem?_cons_succ, Decidable.not_not]
  refine (dAppend_ok bd room ps lasts a n c l S hr hl hb).weak (fun _ _ h => h) ?_
  rintro v R h ⟨rfl, H⟩
  refine ⟨_, _, S, rfl, ⟨fun h0 => .of fun R y H => ⟨rfl, by rw [if_neg h0]; exact H⟩, fun h0 => ?_⟩, H⟩
  refine (dSync_ok bd room _ lasts).weak (fun _ _ h => h) ?_
  rintro v R y ⟨rfl, H⟩
  exact ⟨_, rfl, .of fun R z H => ⟨by rw [h0], by rw [if_pos h0]; exact H⟩, H⟩
theorem uPut_ok (ub bd mc mi : Nat) (D I : HP) (s : USt) (lc : AL Int) (cc : Nat) (at' what : Int) (a : Option Addr) (n c : Nat) (d : List UInt8) (S : HP) (hr : RdL S a n (d.map u8v)) (hl : d.length = n) (hb : n ≤ 140737488355328) (hat : addrOk at' = true) :
    Tri Tryz.prog 45 #[.pointer (some ⟨ub, 0, none⟩), .int .i64 at', .agg #[.int .i64 what, .slice a n c]] (HP.sep (UOne ub bd mc mi s) (HP.sep D (HP.sep (MapH CellV iE mc s.cells lc cc) (HP.sep I S))))
    (fun v => HP.and (v = .tuple #[]) (HP.sep (UOne ub bd mc mi { s with top := max s.top (at' + 1) }) (HP.sep D (HP.sep (MapE CellV iE mc (fput s.cells at' (some ⟨what, d⟩))) (HP.sep I S))))) := by
  refine tri_of_tree (ρ := [.n ub, .n bd, .p D, .i s.epoch, .i s.low, .i s.top, .n mc, .p (MapH CellV iE mc s.cells lc cc), .n mi, .p I, .i at', .i what, .a a, .n n, .n c, .p S]) mixed Tryz.func45 tree_uPut ?_
  unfold t_uPut
  simp only [T.den, E.prop, E.den, RX.look, F1.app, F2.app, Uni.int_i, Uni.nat_n, Uni.bool_c, Uni.str_s, Uni.adr_a, Uni.val_v, Uni.hp_p, hden, cden, V.den, W.den, A.den, BR.den, SA.den, FV.den, capV, exs, exP, allP, Cur.app, List.map_cons, List.map_nil, List.cons_append, List.nil_append, List.drop_succ_cons, List.drop_zero, List.length_cons, List.length_nil, Nat.zero_add, Nat.reduceAdd, Int.neg_neg, Bool.not_not, List.append_nil, Nat.add_zero, List.getElem?_cons_zero, List.getElem?_cons_succ, Decidable.not_not]
  intro x
  refine (cloneR_ok S a n c d hr hl hb).weak (fun _ _ h => h) ?_
  rintro v R h ⟨a', c', rfl, H⟩
  refine ⟨a', n, c', RoB a' n d, S, rfl, ?_, H⟩
  rw [semOf_update (by decide) (by decide) (by decide)]
  simp only [T.den, E.prop, E.den, RX.look, F1.app, F2.app, Uni.int_i, Uni.nat_n, Uni.bool_c, Uni.str_s, Uni.adr_a, Uni.val_v, Uni.hp_p, hden, cden, V.den, W.den, A.den, BR.den, SA.den, FV.den, capV, exs, exP, allP, Cur.app, List.map_cons, List.map_nil, List.cons_append, List.nil_append, List.drop_succ_cons, List.drop_zero, List.length_cons, List.length_nil, Nat.zero_add, Nat.reduceAdd, Int.neg_neg, Bool.not_not, List.append_nil, Nat.add_zero, List.getElem?_cons_zero, List.getElem?_cons_succ, Decidable.not_not]
  refine (MapH.put iK undMc cellV_pers at' _ ⟨what, d⟩ (fun R h H => ?_)).weak (fun _ _ h => h) ?_
  · subst hl
    exact ⟨a', c', ⟨rfl, hb⟩, H⟩
  · rintro v R h ⟨rfl, H⟩
    simp only [addrOk, Bool.and_eq_true, decide_eq_true_eq] at hat
    exact ⟨_, rfl, ⟨inI64 _ (by omega) (by omega), fun _ => .of fun R h H => ⟨trivial, H⟩⟩, H⟩
theorem Rd.imp {S T : HP} {a : Option Addr} {xs : List Value} (r : Rd T a xs) (h : ∀ R x, S.p R x → T.p R x) : Rd S a xs := fun w R x F s p => r w R x F s (h R x p)
theorem RdL.imp {S : HP} {a : Option Addr} {n : Nat} {l : List UInt8} (h : ∀ R x, S.p R x → (RoB a n l).p R x) : RdL S a n (l.map u8v) :=
  ⟨Rd.imp (RdL.ro 1 a n (l.map u8v)).rd h, fun R x p => (RdL.ro 1 a n (l.map u8v)).none R x (h R x p)⟩
theorem uCell_ok (ub bd mc mi : Nat) (D I : HP) (s : USt) (lc : AL Int) (cc : Nat) (at' : Int) :
    Tri Tryz.prog 42 #[.pointer (some ⟨ub, 0, none⟩), .int .i64 at'] (HP.sep (UOne ub bd mc mi s) (HP.sep D (HP.sep (MapH CellV iE mc s.cells lc cc) I)))
    (fun v => HP.ex fun a => HP.ex fun c => HP.and (v = .tuple #[.agg #[.int .i64 ((s.cells at').getD ⟨0, []⟩).what, .slice a ((s.cells at').getD ⟨0, []⟩).data.length c], .bool (s.cells at').isSome]) (HP.sep (RoB a ((s.cells at').getD ⟨0, []⟩).data.length ((s.cells at').getD ⟨0, []⟩).data) (HP.sep (UOne ub bd mc mi s) (HP.sep D (HP.sep (MapH CellV iE mc s.cells lc cc) I))))) := by
  refine Tri.fact (φ := ∃ a c, (alFind at' lc).getD (.agg #[.int .i64 0, .slice none 0 0]) = .agg #[.int .i64 ((s.cells at').getD ⟨0, []⟩).what, .slice a ((s.cells at').getD ⟨0, []⟩).data.length c] ∧ (alFind at' lc).isSome = (s.cells at').isSome ∧ ((s.cells at').getD ⟨0, []⟩).data.length ≤ 140737488355328 ∧
      ∀ R h, (MapH CellV iE mc s.cells lc cc).p R h → (RoB a ((s.cells at').getD ⟨0, []⟩).data.length ((s.cells at').getD ⟨0, []⟩).data).p R h) (fun R h H => ?_) ?_
  · have HM := HP.sep_left (HP.sep_right (HP.sep_right H))
    cases hc : s.cells at' with
    | none =>
      rw [MapH.no HM hc]
      exact ⟨none, 0, rfl, rfl, by simp, fun _ _ _ => RoC.nil _ _ _ _⟩
    | some x =>
      obtain ⟨v, hv, a, c, ⟨e, hb⟩, _⟩ := MapH.yes HM cellV_pers hc PH.none'
      rw [hv]
      refine ⟨a, c, e, rfl, hb, fun R2 h2 H2 => ?_⟩
      obtain ⟨v2, hv2, a2, c2, ⟨e2, _⟩, hr⟩ := MapH.yes H2 cellV_pers hc h2
      rw [hv] at hv2
      cases hv2
      rw [e] at e2
      cases e2
      exact hr
  rintro ⟨a, c, hval, hsome, hb, hro⟩
  refine tri_of_tree (ρ := [.n ub, .n bd, .p D, .i s.epoch, .i s.low, .i s.top, .n mc, .p (MapH CellV iE mc s.cells lc cc), .n mi, .p I, .i at']) mixed Tryz.func42 tree_uCell ?_
  unfold t_uCell
  simp only [T.den, E.prop, E.den, RX.look, F1.app, F2.app, Uni.int_i, Uni.nat_n, Uni.bool_c, Uni.str_s, Uni.adr_a, Uni.val_v, Uni.hp_p, hden, cden, V.den, W.den, A.den, BR.den, SA.den, FV.den, capV, exs, exP, allP, Cur.app, List.map_cons, List.map_nil, List.cons_append, List.nil_append, List.drop_succ_cons, List.drop_zero, List.length_cons, List.length_nil, Nat.zero_add, Nat.reduceAdd, Int.neg_neg, Bool.not_not, List.append_nil, Nat.add_zero, List.getElem?_cons_zero, List.getElem?_cons_succ, Decidable.not_not]
  intro x
  obtain ⟨i, hi, z1, _⟩ := info_parts infoC
  have hlook := look_ok (r := mc) (l := lc) (c := cc) iK undMc hi z1 at' true (A := MapH CellV iE mc s.cells lc cc) (fun R h H => MapH.at H)
  rw [if_pos rfl, hval, hsome] at hlook
  refine ⟨_, _, _, _, _, hlook, fun y => ?_⟩
  refine (cloneR_ok (MapH CellV iE mc s.cells lc cc) a _ c ((s.cells at').getD ⟨0, []⟩).data (RdL.imp hro) rfl hb).weak (fun _ _ h => h) ?_
  rintro v R h ⟨a', c', rfl, H⟩
  refine ⟨a', _, c', RoB a' ((s.cells at').getD ⟨0, []⟩).data.length ((s.cells at').getD ⟨0, []⟩).data, MapH CellV iE mc s.cells lc cc, rfl, .of fun R h H => ⟨a', c', rfl, ?_⟩, H⟩
  refine RoC.join (HP.sep_right (HP.sep_right (HP.sep_right (HP.sep_right H)))) ?_
  exact HP.sep_mono H (fun _ h => h) fun y hy => HP.sep_mono hy (fun _ h => h) fun z hz => HP.sep_mono hz (fun _ h => h) fun q hq => HP.sep_left hq
end Go.Proofs.YtbmajijnjkicmaaGreatDoor



namespace Go.Proofs.YtbmajijnjkicmaaGreatDoor
set_option linter.unusedSimpArgs false
set_option linter.unusedVariables false
open Go.Proofs.YtbmajijnjkicmaaGreatDoor RX

theorem MapH.put1 {κ α : Type} [DecidableEq κ] {enc : κ → Value} {r c : Nat} {l : AL κ} {V : Value → α → HP} {f : κ → Option α} {kt et t : TypeId} (K : KeyEnc Tryz.prog kt enc) (ht : Tryz.prog.underlying t = some (.map kt et)) (hV : Pers V) (k : κ) (v : Value) (x : α) (hv : ∀ R h, (MapH V enc r f l c).p R h → (V v x).p R h) :
    OTri Tryz.prog (updS t (.map (some r)) (enc k) v) (MapH V enc r f l c) (fun z => HP.and (z = .tuple #[]) (MapE V enc r (fput f k (some x)))) :=
  (MapH.put (r := r) (l := l) (c := c) (f := f) K ht hV k v x (A := V v x) (fun _ _ h => h)).weak (fun R h H => ⟨h, PH.none', PH.dj_none h, PH.le.refl _, PH.none_le _, H, hV _ _ _ _ _ (hv R h H)⟩) (fun z R h ⟨e, H⟩ => ⟨e, HP.sep_left H⟩)
def zI : InstS := ⟨0, 0, 0, 0, []⟩
def instAt (s : USt) (n : Int) : InstS := (s.inst n).getD zI
theorem inst_look (mi : Nat) (s : USt) (li : AL Int) (ci : Nat) (n : Int) {R h : PH} (HM : (MapH InstV iE mi s.inst li ci).p R h) :
    ∃ a c, (alFind n li).getD (.agg #[.int .i64 0, .int .i64 0, .int .i64 0, .int .i64 0, .slice none 0 0]) = .agg #[.int .i64 (instAt s n).pr, .int .i64 (instAt s n).pw, .int .i64 (instAt s n).ar, .int .i64 (instAt s n).aw, .slice a (instAt s n).val.length c] ∧ (instAt s n).val.length ≤ 140737488355328 ∧
      ∀ R h, (MapH InstV iE mi s.inst li ci).p R h → (RoB a (instAt s n).val.length (instAt s n).val).p R h := by
  unfold instAt
  cases hc : s.inst n with
  | none =>
    rw [MapH.no HM hc]
    exact ⟨none, 0, rfl, by simp [zI], fun _ _ _ => RoC.nil _ _ _ _⟩
  | some x =>
    obtain ⟨v, hv, a, c, ⟨e, hb⟩, _⟩ := MapH.yes HM instV_pers hc PH.none'
    rw [hv]
    refine ⟨a, c, e, hb, fun R2 h2 H2 => ?_⟩
    obtain ⟨v2, hv2, a2, c2, ⟨e2, _⟩, hr⟩ := MapH.yes H2 instV_pers hc h2
    rw [hv] at hv2
    cases hv2
    rw [e] at e2
    cases e2
    exact hr
def promS (s : USt) (n r w : Int) : USt := { s with inst := fput s.inst n (some { instAt s n with pr := r, pw := w }) }
theorem uProm_ok (ub bd mc mi : Nat) (D C : HP) (s : USt) (li : AL Int) (ci : Nat) (n r w : Int) :
    Tri Tryz.prog 88 #[.pointer (some ⟨ub, 0, none⟩), .int .i64 n, .agg #[.int .i64 r, .int .i64 w]] (HP.sep (UOne ub bd mc mi s) (HP.sep D (HP.sep C (MapH InstV iE mi s.inst li ci))))
    (fun v => HP.and (v = .tuple #[]) (HP.sep (UOne ub bd mc mi s) (HP.sep D (HP.sep C (MapE InstV iE mi (promS s n r w).inst))))) := by
  refine Tri.fact (fun R h H => inst_look mi s li ci n (HP.sep_right (HP.sep_right (HP.sep_right H)))) ?_
  rintro ⟨a, c, hval, hb, hro⟩
  refine tri_of_tree (ρ := [.n ub, .n bd, .p D, .i s.epoch, .i s.low, .i s.top, .n mc, .p C, .n mi, .p (MapH InstV iE mi s.inst li ci), .i n, .i r, .i w]) mixed Tryz.func88 tree_uProm ?_
  unfold t_uProm
  simp only [T.den, E.prop, E.den, RX.look, F1.app, F2.app, Uni.int_i, Uni.nat_n, Uni.bool_c, Uni.str_s, Uni.adr_a, Uni.val_v, Uni.hp_p, hden, cden, V.den, W.den, A.den, BR.den, SA.den, FV.den, capV, exs, exP, allP, Cur.app, List.map_cons, List.map_nil, List.cons_append, List.nil_append, List.drop_succ_cons, List.drop_zero, List.length_cons, List.length_nil, Nat.zero_add, Nat.reduceAdd, Int.neg_neg, Bool.not_not, List.append_nil, Nat.add_zero, List.getElem?_cons_zero, List.getElem?_cons_succ, Decidable.not_not]
  intro x
  obtain ⟨i, hi, z1, _⟩ := info_parts infoI
  have hlook := look_ok (r := mi) (l := li) (c := ci) iK undMi hi z1 n false (A := MapH InstV iE mi s.inst li ci) (fun R h H => MapH.at H)
  rw [if_neg (by decide), hval] at hlook
  refine ⟨_, _, _, _, _, _, _, hlook, fun y => ?_⟩
  rw [semOf_update (by decide) (by decide) (by decide)]
  simp only [T.den, E.prop, E.den, RX.look, F1.app, F2.app, Uni.int_i, Uni.nat_n, Uni.bool_c, Uni.str_s, Uni.adr_a, Uni.val_v, Uni.hp_p, hden, cden, V.den, W.den, A.den, BR.den, SA.den, FV.den, capV, exs, exP, allP, Cur.app, List.map_cons, List.map_nil, List.cons_append, List.nil_append, List.drop_succ_cons, List.drop_zero, List.length_cons, List.length_nil, Nat.zero_add, Nat.reduceAdd, Int.neg_neg, Bool.not_not, List.append_nil, Nat.add_zero, List.getElem?_cons_zero, List.getElem?_cons_succ, Decidable.not_not]
  refine (MapH.put1 iK undMi instV_pers n _ { instAt s n with pr := r, pw := w } (fun R h H => ⟨a, c, ⟨rfl, hb⟩, hro R h H⟩)).weak (fun _ _ h => h) ?_
  rintro v R h ⟨rfl, H⟩
  exact ⟨_, rfl, .of fun R h H => ⟨trivial, H⟩, H⟩
def accS (s : USt) (n r w : Int) (l : List UInt8) : USt := { s with inst := fput s.inst n (some ⟨r, w, r, w, l⟩) }
theorem uAcc_ok (ub bd mc mi : Nat) (D C : HP) (s : USt) (li : AL Int) (ci : Nat) (n r w : Int) (a : Option Addr) (k c : Nat) (l : List UInt8) (S : HP) (hr : RdL S a k (l.map u8v)) (hl : l.length = k) (hb : k ≤ 140737488355328) :
    Tri Tryz.prog 89 #[.pointer (some ⟨ub, 0, none⟩), .int .i64 n, .agg #[.int .i64 r, .int .i64 w], .slice a k c] (HP.sep (UOne ub bd mc mi s) (HP.sep D (HP.sep C (HP.sep (MapH InstV iE mi s.inst li ci) S))))
    (fun v => HP.and (v = .tuple #[]) (HP.sep (UOne ub bd mc mi s) (HP.sep D (HP.sep C (HP.sep (MapE InstV iE mi (accS s n r w l).inst) S))))) := by
  refine tri_of_tree (ρ := [.n ub, .n bd, .p D, .i s.epoch, .i s.low, .i s.top, .n mc, .p C, .n mi, .p (MapH InstV iE mi s.inst li ci), .i n, .i r, .i w, .a a, .n k, .n c, .p S]) mixed Tryz.func89 tree_uAcc ?_
  unfold t_uAcc
  simp only [T.den, E.prop, E.den, RX.look, F1.app, F2.app, Uni.int_i, Uni.nat_n, Uni.bool_c, Uni.str_s, Uni.adr_a, Uni.val_v, Uni.hp_p, hden, cden, V.den, W.den, A.den, BR.den, SA.den, FV.den, capV, exs, exP, allP, Cur.app, List.map_cons, List.map_nil, List.cons_append, List.nil_append, List.drop_succ_cons, List.drop_zero, List.length_cons, List.length_nil, Nat.zero_add, Nat.reduceAdd, Int.neg_neg, Bool.not_not, List.append_nil, Nat.add_zero, List.getElem?_cons_zero, List.getElem?_cons_succ, Decidable.not_not]
  intro x
  refine (cloneR_ok S a k c l hr hl hb).weak (fun _ _ h => h) ?_
  rintro v R h ⟨a', c', rfl, H⟩
  refine ⟨a', k, c', RoB a' k l, S, rfl, ?_, H⟩
  rw [semOf_update (by decide) (by decide) (by decide)]
  simp only [T.den, E.prop, E.den, RX.look, F1.app, F2.app, Uni.int_i, Uni.nat_n, Uni.bool_c, Uni.str_s, Uni.adr_a, Uni.val_v, Uni.hp_p, hden, cden, V.den, W.den, A.den, BR.den, SA.den, FV.den, capV, exs, exP, allP, Cur.app, List.map_cons, List.map_nil, List.cons_append, List.nil_append, List.drop_succ_cons, List.drop_zero, List.length_cons, List.length_nil, Nat.zero_add, Nat.reduceAdd, Int.neg_neg, Bool.not_not, List.append_nil, Nat.add_zero, List.getElem?_cons_zero, List.getElem?_cons_succ, Decidable.not_not]
  refine (MapH.put iK undMi instV_pers n _ ⟨r, w, r, w, l⟩ (fun R h H => ?_)).weak (fun _ _ h => h) ?_
  · subst hl
    exact ⟨a', c', ⟨rfl, hb⟩, H⟩
  · rintro v R h ⟨rfl, H⟩
    exact ⟨_, rfl, .of fun R h H => ⟨trivial, H⟩, H⟩
end Go.Proofs.YtbmajijnjkicmaaGreatDoor



namespace Go.Proofs.YtbmajijnjkicmaaGreatDoor
set_option linter.unusedSimpArgs false
set_option linter.unusedVariables false
open Go.Proofs.YtbmajijnjkicmaaGreatDoor RX

def Box (bx ub : Nat) : HP := HP.one bx (.cells #[.pointer (some ⟨ub, 0, none⟩)] 62)
theorem uFor1_ok (bx ub bd mc mi : Nat) (D C I : HP) (s : USt) (k what : Int) (a : Option Addr) (n c : Nat) :
    Tri Tryz.prog 91 #[.int .i64 k, .agg #[.int .i64 what, .slice a n c], .pointer (some ⟨bx, 0, none⟩)] (HP.sep (Box bx ub) (HP.sep (UOne ub bd mc mi s) (HP.sep D (HP.sep C I))))
    (fun v => HP.and (v = .bool (decide (k < s.low))) (HP.sep (Box bx ub) (HP.sep (UOne ub bd mc mi s) (HP.sep D (HP.sep C I))))) := by
  refine Tri.weak (A := HP.sep HP.tt (HP.sep (Box bx ub) (HP.sep (UOne ub bd mc mi s) (HP.sep D (HP.sep C I))))) ?_ (fun _ _ h => HP.tt_sep h) (fun _ _ _ h => h)
  refine tri_of_tree (ρ := [.i k, .i what, .a a, .n n, .n c, .p HP.tt, .n bx, .n ub, .n bd, .p D, .i s.epoch, .i s.low, .i s.top, .n mc, .p C, .n mi, .p I]) mixed Tryz.func91 tree_uFor1 ?_
  unfold t_uFor1
  simp only [T.den, E.prop, E.den, RX.look, F1.app, F2.app, Uni.int_i, Uni.nat_n, Uni.bool_c, Uni.str_s, Uni.adr_a, Uni.val_v, Uni.hp_p, hden, cden, V.den, W.den, A.den, BR.den, SA.den, FV.den, capV, exs, exP, allP, Cur.app, List.map_cons, List.map_nil, List.cons_append, List.nil_append, List.drop_succ_cons, List.drop_zero, List.length_cons, List.length_nil, Nat.zero_add, Nat.reduceAdd, Int.neg_neg, Bool.not_not, List.append_nil, Nat.add_zero, List.getElem?_cons_zero, List.getElem?_cons_succ, Decidable.not_not]
  exact fun x => .of fun R h H => ⟨trivial, HP.sep_right H⟩
theorem uFor1C_ok (bx ub bd mc mi : Nat) (D C I : HP) (s : USt) (k what : Int) (a : Option Addr) (n c : Nat) :
    Tri Tryz.prog 91 #[.int .i64 k, .agg #[.int .i64 what, .slice a n c], .pointer (some ⟨bx, 0, none⟩)] (HP.sep C (HP.sep (Box bx ub) (HP.sep (UOne ub bd mc mi s) (HP.sep D I))))
    (fun v => HP.and (v = .bool (decide (k < s.low))) (HP.sep C (HP.sep (Box bx ub) (HP.sep (UOne ub bd mc mi s) (HP.sep D I))))) :=
  (uFor1_ok bx ub bd mc mi D C I s k what a n c).weak
    (fun R h H => HP.sep_mono (HP.swap H) (fun _ h => h) fun y hy => HP.sep_mono (HP.swap hy) (fun _ h => h) fun z hz => HP.swap hz)
    (fun v R h ⟨e, H⟩ => ⟨e, HP.swap (HP.sep_mono H (fun _ h => h) fun y hy => HP.swap (HP.sep_mono hy (fun _ h => h) fun z hz => HP.swap hz))⟩)
theorem delF_ok (bx ub bd mc mi : Nat) (D I : HP) (s : USt) (lc : AL Int) (cc : Nat) :
    Tri Tryz.prog 90 #[.map (some mc), .func (.func 91) #[] #[.pointer (some ⟨bx, 0, none⟩)]] (HP.sep (MapH CellV iE mc s.cells lc cc) (HP.sep (Box bx ub) (HP.sep (UOne ub bd mc mi s) (HP.sep D I))))
    (fun v => HP.and (v = .tuple #[]) (HP.sep (MapE CellV iE mc (fun k => if k < s.low then none else s.cells k)) (HP.sep (Box bx ub) (HP.sep (UOne ub bd mc mi s) (HP.sep D I))))) := by
  refine Tri.fact (φ := MapI lc cc) (fun R h H => (HP.sep_left H).1) fun hI0 => ?_
  refine tri_of_tree (ρ := [.n mc, .p (MapH CellV iE mc s.cells lc cc), .n bx, .n ub, .n bd, .p D, .i s.epoch, .i s.low, .i s.top, .n mi, .p I]) mixed Tryz.func90 tree_delF ?_
  unfold t_delF
  simp only [T.den, E.prop, E.den, RX.look, F1.app, F2.app, Uni.int_i, Uni.nat_n, Uni.bool_c, Uni.str_s, Uni.adr_a, Uni.val_v, Uni.hp_p, hden, cden, V.den, W.den, A.den, BR.den, SA.den, FV.den, capV, exs, exP, allP, Cur.app, List.map_cons, List.map_nil, List.cons_append, List.nil_append, List.drop_succ_cons, List.drop_zero, List.length_cons, List.length_nil, Nat.zero_add, Nat.reduceAdd, Int.neg_neg, Bool.not_not, List.append_nil, Nat.add_zero, List.getElem?_cons_zero, List.getElem?_cons_succ, Decidable.not_not]
  rw [semOf_range]
  simp only [T.den, E.prop, E.den, RX.look, F1.app, F2.app, Uni.int_i, Uni.nat_n, Uni.bool_c, Uni.str_s, Uni.adr_a, Uni.val_v, Uni.hp_p, hden, cden, V.den, W.den, A.den, BR.den, SA.den, FV.den, capV, exs, exP, allP, Cur.app, List.map_cons, List.map_nil, List.cons_append, List.nil_append, List.drop_succ_cons, List.drop_zero, List.length_cons, List.length_nil, Nat.zero_add, Nat.reduceAdd, Int.neg_neg, Bool.not_not, List.append_nil, Nat.add_zero, List.getElem?_cons_zero, List.getElem?_cons_succ, Decidable.not_not]
  refine ((range_ok (m := mc) (l := lc) (c := cc) (enc := iE) undMc).frame (Vals CellV lc s.cells)).weak (fun R h H => H.2) ?_
  rintro v R h ⟨h1, h2, d, l1, l2, ⟨it, rfl, H⟩, HV⟩
  have Hst : (HP.sep (HP.one it (.mapIter (some mc) cc #[] cc)) (MapH CellV iE mc s.cells lc cc)).p R h := HP.sep_mono (HP.sep_assoc ⟨h1, h2, d, l1, l2, H, HV⟩) (fun _ h => h) fun y hy => ⟨hI0, hy⟩
  clear H HV d l1 l2
  let J : HP → HP → Nat → Prop := fun Pi Pm N => ∃ (l : AL Int) (S : Array Nat) (f : Int → Option CellS), Pi = HP.one it (.mapIter (some mc) cc S cc) ∧ Pm = MapH CellV iE mc f l cc ∧ MapI l cc ∧ (∀ k, f k = s.cells k ∨ (k < s.low ∧ f k = none)) ∧ (∀ x ∈ l, x.2.2 ∈ S → ¬ x.1 < s.low) ∧ leftN l S = N
  refine ⟨it, _, _, rfl, ⟨fun Pi Pm => ∃ N, J Pi Pm N, fun Pi Pm => leastN (J Pi Pm), ⟨_, lc, #[], s.cells, rfl, rfl, hI0, fun k => .inl rfl, fun x _ hx => absurd hx (by simp), rfl⟩, ?_⟩, Hst⟩
  intro Pi Pm hJ
  have hJ' := leastN_spec hJ
  generalize hNe : leastN (J Pi Pm) = N at hJ'
  obtain ⟨l, S, f, rfl, rfl, hI, hf, hS, hN⟩ := hJ'
  rw [semOf_next]
  simp only [T.den, E.prop, E.den, RX.look, F1.app, F2.app, Uni.int_i, Uni.nat_n, Uni.bool_c, Uni.str_s, Uni.adr_a, Uni.val_v, Uni.hp_p, hden, cden, V.den, W.den, A.den, BR.den, SA.den, FV.den, capV, exs, exP, allP, Cur.app, List.map_cons, List.map_nil, List.cons_append, List.nil_append, List.drop_succ_cons, List.drop_zero, List.length_cons, List.length_nil, Nat.zero_add, Nat.reduceAdd, Int.neg_neg, Bool.not_not, List.append_nil, Nat.add_zero, List.getElem?_cons_zero, List.getElem?_cons_succ, Decidable.not_not]
  refine (next_map hI.2).weak (fun _ _ h => h) ?_
  rintro v R h ⟨e, he, H⟩
  rcases e with _ | x
  · refine ⟨false, .tuple #[], .tuple #[], _, he.1, ⟨fun h => (by cases h), fun _ => HP.ent.of fun R h H => ⟨trivial, ?_⟩⟩, H⟩
    refine HP.sep_mono H (fun y hy => ?_) fun _ h => h
    have e : f = fun k => if k < s.low then none else s.cells k := funext fun k => by
      by_cases hk : k < s.low
      · rw [if_pos hk]
        cases hfk : f k with
        | none => rfl
        | some z =>
          obtain ⟨v, hv, _⟩ := MapH.yes hy cellV_pers hfk y
          obtain ⟨b, hb⟩ := alFind_some_mem k l v hv
          exact absurd hk (hS _ hb (he.2 _ hb))
      · rw [if_neg hk]
        exact (hf k).resolve_right fun h => hk h.1
    rw [← e]
    exact ⟨l, cc, hy⟩
  · obtain ⟨rfl, hx, hxS⟩ := he
    have Hm := HP.sep_right H
    have hfind : alFind x.1 l = some x.2.1 := alFind_mem x.1 x.2.1 x.2.2 l hI.1 hx
    obtain ⟨z, a, c, hz, _⟩ : ∃ z a c, x.2.1 = .agg #[.int .i64 (CellS.what z), .slice a z.data.length c] ∧ f x.1 = some z := by
      cases hfk : f x.1 with
      | none => rw [MapH.no Hm hfk] at hfind; cases hfind
      | some z =>
        obtain ⟨v, hv, a, c, ⟨e, _⟩, _⟩ := MapH.yes Hm cellV_pers hfk h
        rw [hfind] at hv
        cases hv
        exact ⟨z, a, c, e, rfl⟩
    refine ⟨true, iE x.1, x.2.1, _, rfl, ⟨fun _ => ?_, fun h => by simp at h⟩, H⟩
    have hent := entry_ok (enc := iE) (it := it) (m := mc) (c := cc) (S := S) (x := x) hI.2 hx (A := HP.sep (HP.one it (.mapIter (some mc) cc (nextI S (some x)) cc)) (MapH CellV iE mc f l cc)) (fun R h H => HP.sep_left H) (fun R h H => MapH.at (HP.sep_right H))
    rw [hz] at hent
    refine ⟨x.1, _, _, _, _, hent, fun y => ?_⟩
    refine (uFor1C_ok bx ub bd mc mi D (MapH CellV iE mc f l cc) I s x.1 _ _ _ _).weak (fun _ _ h => h) ?_
    rintro v R h ⟨rfl, H⟩
    refine ⟨_, rfl, ⟨fun hlow => ?_, fun hlow => ?_⟩, H⟩
    · rw [semOf_delete (by decide)]
      simp only [T.den, E.prop, E.den, RX.look, F1.app, F2.app, Uni.int_i, Uni.nat_n, Uni.bool_c, Uni.str_s, Uni.adr_a, Uni.val_v, Uni.hp_p, hden, cden, V.den, W.den, A.den, BR.den, SA.den, FV.den, capV, exs, exP, allP, Cur.app, List.map_cons, List.map_nil, List.cons_append, List.nil_append, List.drop_succ_cons, List.drop_zero, List.length_cons, List.length_nil, Nat.zero_add, Nat.reduceAdd, Int.neg_neg, Bool.not_not, List.append_nil, Nat.add_zero, List.getElem?_cons_zero, List.getElem?_cons_succ, Decidable.not_not]
      refine (MapH.del (r := mc) (l := l) (c := cc) (f := f) (V := CellV) iK undMc x.1 #[91, 3] 0 rfl).weak (fun _ _ h => h) ?_
      rintro v R h ⟨rfl, H⟩
      have hJ2 : J (HP.one it (.mapIter (some mc) cc (nextI S (some x)) cc)) (MapH CellV iE mc (fput f x.1 none) (alDel x.1 l) cc) (leftN (alDel x.1 l) (S.push x.2.2)) := by
        refine ⟨alDel x.1 l, S.push x.2.2, fput f x.1 none, rfl, rfl, hI.del x.1, fun k => ?_, fun y hy hyS => ?_, rfl⟩
        · unfold fput
          by_cases e : k = x.1
          · subst e; exact .inr ⟨by simpa using hlow, if_pos rfl⟩
          · rw [if_neg e]; exact hf k
        · have hyl := (alDel_sub x.1 l).subset hy
          rcases stamp_push hI.2 hx hyl hyS with rfl | h
          · have := (alFind_isSome y.1 (alDel y.1 l)).2 (List.mem_map.2 ⟨y, hy, rfl⟩)
            rw [alFind_del _ _ _ hI.1, if_pos rfl] at this
            cases this
          · exact hS y hyl h
      refine ⟨_, rfl, ⟨⟨_, hJ2⟩, Nat.lt_of_le_of_lt (leastN_le hJ2) ?_⟩, H⟩
      rw [hNe, ← hN]
      exact Nat.lt_of_le_of_lt (((alDel_sub x.1 l).filter _).length_le) (leftN_push hx hxS)
    · have hJ2 : J (HP.one it (.mapIter (some mc) cc (nextI S (some x)) cc)) (MapH CellV iE mc f l cc) (leftN l (S.push x.2.2)) := by
        refine ⟨l, S.push x.2.2, f, rfl, rfl, hI, hf, fun y hy hyS => ?_, rfl⟩
        rcases stamp_push hI.2 hx hy hyS with rfl | h
        · simpa using hlow
        · exact hS y hy h
      refine ⟨⟨_, hJ2⟩, Nat.lt_of_le_of_lt (leastN_le hJ2) ?_⟩
      rw [hNe, ← hN]
      exact leftN_push hx hxS
end Go.Proofs.YtbmajijnjkicmaaGreatDoor



namespace Go.Proofs.YtbmajijnjkicmaaGreatDoor
set_option linter.unusedSimpArgs false
set_option linter.unusedVariables false
open Go.Proofs.YtbmajijnjkicmaaGreatDoor RX

def forgS (s : USt) : USt := { s with cells := fun k => if k < s.low then none else s.cells k }
theorem uForget_ok (ub bd mc mi : Nat) (D I : HP) (s : USt) (lc : AL Int) (cc : Nat) :
    Tri Tryz.prog 49 #[.pointer (some ⟨ub, 0, none⟩)] (HP.sep (UOne ub bd mc mi s) (HP.sep D (HP.sep (MapH CellV iE mc s.cells lc cc) I)))
    (fun v => HP.and (v = .tuple #[]) (HP.sep (UOne ub bd mc mi s) (HP.sep D (HP.sep (MapE CellV iE mc (forgS s).cells) I)))) := by
  refine tri_of_tree (ρ := [.n ub, .n bd, .p D, .i s.epoch, .i s.low, .i s.top, .n mc, .p (MapH CellV iE mc s.cells lc cc), .n mi, .p I]) mixed Tryz.func49 tree_uForget ?_
  unfold t_uForget
  simp only [T.den, E.prop, E.den, RX.look, F1.app, F2.app, Uni.int_i, Uni.nat_n, Uni.bool_c, Uni.str_s, Uni.adr_a, Uni.val_v, Uni.hp_p, hden, cden, V.den, W.den, A.den, BR.den, SA.den, FV.den, capV, exs, exP, allP, Cur.app, List.map_cons, List.map_nil, List.cons_append, List.nil_append, List.drop_succ_cons, List.drop_zero, List.length_cons, List.length_nil, Nat.zero_add, Nat.reduceAdd, Int.neg_neg, Bool.not_not, List.append_nil, Nat.add_zero, List.getElem?_cons_zero, List.getElem?_cons_succ, Decidable.not_not]
  intro bx
  refine (delF_ok bx ub bd mc mi D I s lc cc).weak (fun _ _ h => h) ?_
  rintro v R h ⟨rfl, H⟩
  exact ⟨_, rfl, .of fun R h H => ⟨trivial, H⟩, H⟩
def endedR (r : List UInt8 × Bool) : Bool := !(r.2 || !r.1.isEmpty)
theorem endedR_no {r : List UInt8 × Bool} (h : ¬ (if r.2 = true ∨ r.1 ≠ [] then (3 : Int) else 0) = 0) : endedR r = false := by
  obtain ⟨l, w⟩ := r
  cases w <;> cases l <;> simp_all [endedR]
theorem endedR_yes {r : List UInt8 × Bool} (h : (if r.2 = true ∨ r.1 ≠ [] then (3 : Int) else 0) = 0) : endedR r = true := by
  obtain ⟨l, w⟩ := r
  cases w <;> cases l <;> simp_all [endedR]
theorem bytesR_len (s : List UInt8 × Bool) (most : Int) : (bytesR s most).1.length ≤ 140737488355328 := by
  have h1 := takeR_len (toldR s most).2 (toldR s most).1
  have h2 : (toldR s most).1 ≤ 4294967296 := by
    have := numR_lt s 4
    unfold toldR
    split
    · exact Nat.zero_le _
    · split
      · exact Nat.zero_le _
      · simp only; omega
  unfold bytesR
  omega
def followS (s : USt) (b : List UInt8) : Option USt :=
  let k := numR (b, false) 1
  let n := intOf64 (numR k.2 8).1
  let r := (numR k.2 8).2
  match k.1 with
  | 1 => let d := bytesR r 65536
    if endedR d.2 && addrOk n then some { s with cells := fput s.cells n (some ⟨1, d.1⟩), top := max s.top (n + 1) } else none
  | 2 => if endedR r && addrOk n then some { s with cells := fput s.cells n (some ⟨2, []⟩), top := max s.top (n + 1) } else none
  | 3 => if endedR r && addrOk n then some { s with low := n } else none
  | 4 => if endedR r && numOk n then some { s with epoch := n } else none
  | 5 => let a := numR r 8
    let c := numR a.2 8
    if endedR c.2 && propOk n (intOf64 a.1) (intOf64 c.1) then some (promS s n (intOf64 a.1) (intOf64 c.1)) else none
  | 6 => let a := numR r 8
    let c := numR a.2 8
    let d := bytesR c.2 1000
    if endedR d.2 && propOk n (intOf64 a.1) (intOf64 c.1) then some (accS s n (intOf64 a.1) (intOf64 c.1) d.1) else none
  | _ => none
theorem uFollow_ok (ub bd mc mi : Nat) (D : HP) (s : USt) (lc : AL Int) (cc : Nat) (li : AL Int) (ci : Nat) (a : Option Addr) (n c : Nat) (l : List UInt8) (S : HP) (hr : RdL S a n (l.map u8v)) (hl : l.length = n) (hb : n ≤ 140737488355328) :
    Tri Tryz.prog 48 #[.pointer (some ⟨ub, 0, none⟩), .slice a n c] (HP.sep (UOne ub bd mc mi s) (HP.sep D (HP.sep (MapH CellV iE mc s.cells lc cc) (HP.sep (MapH InstV iE mi s.inst li ci) S))))
    (fun v => HP.and (v = .bool (followS s l).isSome) (HP.sep (UOne ub bd mc mi ((followS s l).getD s)) (HP.sep D (HP.sep (MapE CellV iE mc ((followS s l).getD s).cells) (HP.sep (MapE InstV iE mi ((followS s l).getD s).inst) S))))) := by
  refine tri_of_tree (ρ := [.n ub, .n bd, .p D, .i s.epoch, .i s.low, .i s.top, .n mc, .p (MapH CellV iE mc s.cells lc cc), .n mi, .p (MapH InstV iE mi s.inst li ci), .a a, .n n, .n c, .p S]) mixed Tryz.func48 tree_uFollow ?_
  unfold t_uFollow
  simp only [T.den, E.prop, E.den, RX.look, F1.app, F2.app, Uni.int_i, Uni.nat_n, Uni.bool_c, Uni.str_s, Uni.adr_a, Uni.val_v, Uni.hp_p, hden, cden, V.den, W.den, A.den, BR.den, SA.den, FV.den, capV, exs, exP, allP, Cur.app, List.map_cons, List.map_nil, List.cons_append, List.nil_append, List.drop_succ_cons, List.drop_zero, List.length_cons, List.length_nil, Nat.zero_add, Nat.reduceAdd, Int.neg_neg, Bool.not_not, List.append_nil, Nat.add_zero, List.getElem?_cons_zero, List.getElem?_cons_succ, Decidable.not_not]
  refine (rRead_ok a n c l S hr hl hb).weak (fun _ _ h => h) ?_
  rintro v R h ⟨rb, rfl, H⟩
  refine ⟨rb, _, S, rfl, ?_, HP.sep_comm H⟩
  refine (rByte_ok rb (l, false)).weak (fun _ _ h => h) ?_
  rintro v R h ⟨rfl, H⟩
  refine ⟨_, _, rfl, ?_, H⟩
  refine (rInt_ok rb _).weak (fun _ _ h => h) ?_
  rintro v R h ⟨rfl, H⟩
  refine ⟨_, _, rfl, ?_, H⟩
  clear H
  have hk : (numR (l, false) 1).1 < 256 := by simpa using numR_lt (l, false) 1
  have fail : followS s l = none → HP.ent (HP.sep (UOne ub bd mc mi s) (HP.sep D (HP.sep (MapH CellV iE mc s.cells lc cc) (HP.sep (MapH InstV iE mi s.inst li ci) S)))) (HP.and (Value.bool false = Value.bool (followS s l).isSome) (HP.sep (UOne ub bd mc mi ((followS s l).getD s)) (HP.sep D (HP.sep (MapE CellV iE mc ((followS s l).getD s).cells) (HP.sep (MapE InstV iE mi ((followS s l).getD s).inst) S))))) := fun e => by
    rw [e]
    exact .of fun R h H => ⟨rfl, HP.sep_mono H (fun _ h => h) fun y hy => HP.sep_mono hy (fun _ h => h) fun z hz => HP.sep_mono hz (fun q hq => ⟨_, _, hq⟩) fun u hu => HP.sep_mono hu (fun q hq => ⟨_, _, hq⟩) fun _ h => h⟩
  generalize hkk : (numR (l, false) 1).1 = k at hk
  have hmod : k % 256 = k := Nat.mod_eq_of_lt hk
  rw [hmod]
  refine ⟨fun h1 => ?_, fun h1 => ⟨fun h2 => ?_, fun h2 => ⟨fun h3 => ?_, fun h3 => ⟨fun h4 => ?_, fun h4 => ⟨fun h5 => ?_, fun h5 => ⟨fun h6 => ?_, fun h6 => ?_⟩⟩⟩⟩⟩⟩
  · have hk1 : k = 1 := by omega
    subst hk1
    refine (rBytes_ok rb _ 65536).weak (fun _ _ h => h) ?_
    rintro v R h ⟨da, dc, rfl, H⟩
    refine ⟨da, _, dc, OwB da _ dc _, _, rfl, fun y => ?_, HP.sep_comm H⟩
    refine (rEnd_ok rb _).weak (fun _ _ h => h) ?_
    rintro v R h ⟨rfl, H⟩
    refine ⟨_, _, rfl, ⟨fun he => fail ?_, fun he => ?_⟩, H⟩
    · simp only [followS, hkk, endedR_no he]; rfl
    · refine (uaddr_ok _).weak (fun _ _ h => h) ?_
      rintro v R h ⟨rfl, H⟩
      refine ⟨_, rfl, ⟨fun ha => fail ?_, fun ha => ?_⟩, H⟩
      · simp only [followS, hkk]; rw [if_neg (by simp [ha])]
      · have e : followS s l = some { s with cells := fput s.cells (intOf64 (numR (numR (l, false) 1).2 8).1) (some ⟨1, (bytesR (numR (numR (l, false) 1).2 8).2 65536).1⟩), top := max s.top (intOf64 (numR (numR (l, false) 1).2 8).1 + 1) } := by
          simp only [followS, hkk]; rw [if_pos (by rw [endedR_yes he, ha]; rfl)]
        rw [e]
        refine (uPut_ok ub bd mc mi D (MapH InstV iE mi s.inst li ci) s lc cc _ 1 da _ dc (bytesR (numR (numR (l, false) 1).2 8).2 65536).1 _ (RdL.ow _ 1 _ _ _ _) rfl (bytesR_len _ _) ha).weak (fun _ _ h => h) ?_
        rintro v R h ⟨rfl, H⟩
        refine ⟨bd, D, s.epoch, s.low, _, mc, _, mi, MapH InstV iE mi s.inst li ci, _, rfl, .of fun R h H => ⟨rfl, ?_⟩, H⟩
        exact HP.sep_mono H (fun _ h => h) fun y hy => HP.sep_mono hy (fun _ h => h) fun z hz => HP.sep_mono hz (fun _ h => h) fun u hu => HP.sep_mono hu (fun q hq => ⟨_, _, hq⟩) fun _ h => h
  · have hk2 : k = 2 := by omega
    subst hk2
    refine (rEnd_ok rb _).weak (fun _ _ h => h) ?_
    rintro v R h ⟨rfl, H⟩
    refine ⟨_, _, rfl, ⟨fun he => fail ?_, fun he => ?_⟩, H⟩
    · simp only [followS, hkk, endedR_no he]; rfl
    · refine (uaddr_ok _).weak (fun _ _ h => h) ?_
      rintro v R h ⟨rfl, H⟩
      refine ⟨_, rfl, ⟨fun ha => fail ?_, fun ha => ?_⟩, H⟩
      · simp only [followS, hkk]; rw [if_neg (by simp [ha])]
      · have e : followS s l = some { s with cells := fput s.cells (intOf64 (numR (numR (l, false) 1).2 8).1) (some ⟨2, []⟩), top := max s.top (intOf64 (numR (numR (l, false) 1).2 8).1 + 1) } := by
          simp only [followS, hkk]; rw [if_pos (by rw [endedR_yes he, ha]; rfl)]
        rw [e]
        refine (uPut_ok ub bd mc mi D (MapH InstV iE mi s.inst li ci) s lc cc _ 2 none 0 0 [] HP.tt ⟨fun _ _ _ _ _ _ _ _ hj => by simp at hj, fun _ _ _ _ => rfl⟩ rfl (by omega) ha).weak (fun R h H => HP.sep_mono H (fun _ h => h) fun y hy => HP.sep_mono hy (fun _ h => h) fun z hz => HP.sep_mono hz (fun _ h => h) fun q hq => HP.sep_tt hq) ?_
        rintro v R h ⟨rfl, H⟩
        refine ⟨bd, D, s.epoch, s.low, _, mc, _, mi, MapH InstV iE mi s.inst li ci, rfl, .of fun R h H => ⟨rfl, ?_⟩, HP.sep_mono H (fun _ h => h) fun y hy => HP.sep_mono hy (fun _ h => h) fun z hz => HP.sep_mono hz (fun _ h => h) fun q hq => HP.sep_left hq⟩
        exact HP.sep_mono H (fun _ h => h) fun y hy => HP.sep_mono hy (fun _ h => h) fun z hz => HP.sep_mono hz (fun _ h => h) fun u hu => HP.sep_mono hu (fun q hq => ⟨_, _, hq⟩) fun _ h => h
  · have hk3 : k = 3 := by omega
    subst hk3
    refine (rEnd_ok rb _).weak (fun _ _ h => h) ?_
    rintro v R h ⟨rfl, H⟩
    refine ⟨_, _, rfl, ⟨fun he => fail ?_, fun he => ?_⟩, H⟩
    · simp only [followS, hkk, endedR_no he]; rfl
    · refine (uaddr_ok _).weak (fun _ _ h => h) ?_
      rintro v R h ⟨rfl, H⟩
      refine ⟨_, rfl, ⟨fun ha => fail ?_, fun ha => ?_⟩, H⟩
      · simp only [followS, hkk]; rw [if_neg (by simp [ha])]
      · have e : followS s l = some { s with low := intOf64 (numR (numR (l, false) 1).2 8).1 } := by
          simp only [followS, hkk]; rw [if_pos (by rw [endedR_yes he, ha]; rfl)]
        rw [e]
        exact .of fun R h H => ⟨rfl, HP.sep_mono H (fun _ h => h) fun y hy => HP.sep_mono hy (fun _ h => h) fun z hz => HP.sep_mono hz (fun q hq => ⟨_, _, hq⟩) fun u hu => HP.sep_mono hu (fun q hq => ⟨_, _, hq⟩) fun _ h => h⟩
  · have hk3 : k = 4 := by omega
    subst hk3
    refine (rEnd_ok rb _).weak (fun _ _ h => h) ?_
    rintro v R h ⟨rfl, H⟩
    refine ⟨_, _, rfl, ⟨fun he => fail ?_, fun he => ?_⟩, H⟩
    · simp only [followS, hkk, endedR_no he]; rfl
    · refine (unum_ok _).weak (fun _ _ h => h) ?_
      rintro v R h ⟨rfl, H⟩
      refine ⟨_, rfl, ⟨fun ha => fail ?_, fun ha => ?_⟩, H⟩
      · simp only [followS, hkk]; rw [if_neg (by simp [ha])]
      · have e : followS s l = some { s with epoch := intOf64 (numR (numR (l, false) 1).2 8).1 } := by
          simp only [followS, hkk]; rw [if_pos (by rw [endedR_yes he, ha]; rfl)]
        rw [e]
        exact .of fun R h H => ⟨rfl, HP.sep_mono H (fun _ h => h) fun y hy => HP.sep_mono hy (fun _ h => h) fun z hz => HP.sep_mono hz (fun q hq => ⟨_, _, hq⟩) fun u hu => HP.sep_mono hu (fun q hq => ⟨_, _, hq⟩) fun _ h => h⟩
  · have hk5 : k = 5 := by omega
    subst hk5
    refine (rInt_ok rb _).weak (fun _ _ h => h) ?_
    rintro v R h ⟨rfl, H⟩
    refine ⟨_, _, rfl, ?_, H⟩
    refine (rInt_ok rb _).weak (fun _ _ h => h) ?_
    rintro v R h ⟨rfl, H⟩
    refine ⟨_, _, rfl, fun y => ?_, H⟩
    refine (rEnd_ok rb _).weak (fun _ _ h => h) ?_
    rintro v R h ⟨rfl, H⟩
    refine ⟨_, _, rfl, ⟨fun he => fail ?_, fun he => ?_⟩, H⟩
    · simp only [followS, hkk, endedR_no he]; rfl
    · refine (uprop_ok _ _ _).weak (fun _ _ h => h) ?_
      rintro v R h ⟨rfl, H⟩
      refine ⟨_, rfl, ⟨fun ha => fail ?_, fun ha => ?_⟩, H⟩
      · simp only [followS, hkk]; rw [if_neg (by simp [ha])]
      · have e : followS s l = some (promS s (intOf64 (numR (numR (l, false) 1).2 8).1) (intOf64 (numR (numR (numR (l, false) 1).2 8).2 8).1) (intOf64 (numR (numR (numR (numR (l, false) 1).2 8).2 8).2 8).1)) := by
          simp only [followS, hkk]; rw [if_pos (by rw [endedR_yes he, ha]; rfl)]
        rw [e]
        refine (uProm_ok ub bd mc mi D (MapH CellV iE mc s.cells lc cc) s li ci _ _ _).weak (fun _ _ h => h) ?_
        rintro v R h ⟨rfl, H⟩
        refine ⟨bd, D, s.epoch, s.low, s.top, mc, MapH CellV iE mc s.cells lc cc, mi, _, rfl, .of fun R h H => ⟨rfl, ?_⟩, H⟩
        exact HP.sep_mono H (fun _ h => h) fun y hy => HP.sep_mono hy (fun _ h => h) fun z hz => HP.sep_mono hz (fun q hq => ⟨_, _, hq⟩) fun _ h => h
  · have hk6 : k = 6 := by omega
    subst hk6
    refine (rInt_ok rb _).weak (fun _ _ h => h) ?_
    rintro v R h ⟨rfl, H⟩
    refine ⟨_, _, rfl, ?_, H⟩
    refine (rInt_ok rb _).weak (fun _ _ h => h) ?_
    rintro v R h ⟨rfl, H⟩
    refine ⟨_, _, rfl, fun y => ?_, H⟩
    refine (rBytes_ok rb _ 1000).weak (fun _ _ h => h) ?_
    rintro v R h ⟨da, dc, rfl, H⟩
    refine ⟨da, _, dc, OwB da _ dc _, _, rfl, ?_, HP.sep_comm H⟩
    refine (rEnd_ok rb _).weak (fun _ _ h => h) ?_
    rintro v R h ⟨rfl, H⟩
    refine ⟨_, _, rfl, ⟨fun he => fail ?_, fun he => ?_⟩, H⟩
    · simp only [followS, hkk, endedR_no he]; rfl
    · refine (uprop_ok _ _ _).weak (fun _ _ h => h) ?_
      rintro v R h ⟨rfl, H⟩
      refine ⟨_, rfl, ⟨fun ha => fail ?_, fun ha => ?_⟩, H⟩
      · simp only [followS, hkk]; rw [if_neg (by simp [ha])]
      · have e : followS s l = some (accS s (intOf64 (numR (numR (l, false) 1).2 8).1) (intOf64 (numR (numR (numR (l, false) 1).2 8).2 8).1) (intOf64 (numR (numR (numR (numR (l, false) 1).2 8).2 8).2 8).1) (bytesR (numR (numR (numR (numR (l, false) 1).2 8).2 8).2 8).2 1000).1) := by
          simp only [followS, hkk]; rw [if_pos (by rw [endedR_yes he, ha]; rfl)]
        rw [e]
        refine (uAcc_ok ub bd mc mi D (MapH CellV iE mc s.cells lc cc) s li ci _ _ _ da _ dc _ _ (RdL.ow _ 1 _ _ _ _) rfl (bytesR_len _ _)).weak (fun _ _ h => h) ?_
        rintro v R h ⟨rfl, H⟩
        refine ⟨bd, D, s.epoch, s.low, s.top, mc, MapH CellV iE mc s.cells lc cc, mi, _, _, rfl, .of fun R h H => ⟨rfl, ?_⟩, H⟩
        exact HP.sep_mono H (fun _ h => h) fun y hy => HP.sep_mono hy (fun _ h => h) fun z hz => HP.sep_mono hz (fun q hq => ⟨_, _, hq⟩) fun _ h => h
  · refine fail ?_
    simp only [followS, hkk]
    split <;> first | rfl | omega
end Go.Proofs.YtbmajijnjkicmaaGreatDoor



namespace Go.Proofs.YtbmajijnjkicmaaGreatDoor
set_option linter.unusedSimpArgs false
set_option linter.unusedVariables false
open Go.Proofs.YtbmajijnjkicmaaGreatDoor RX

def readS (s : USt) (epoch at' : Int) : CellS × Int :=
  if reachE s epoch at' ≠ 0 then (⟨0, []⟩, reachE s epoch at')
  else if at' < s.low then (⟨0, []⟩, 11)
  else match s.cells at' with
    | some x => (x, 0)
    | none => (⟨0, []⟩, 9)
theorem uRead_ok (ub bd : Nat) (D : HP) (s : USt) (epoch at' : Int) :
    Tri Tryz.prog 100 #[.pointer (some ⟨ub, 0, none⟩), .int .i64 epoch, .int .i64 at'] (URep ub bd D s)
    (fun v => HP.ex fun a => HP.ex fun c => HP.and (v = .tuple #[.agg #[.int .i64 (readS s epoch at').1.what, .slice a (readS s epoch at').1.data.length c], .int .i64 (readS s epoch at').2]) (HP.sep (URep ub bd D s) (RoB a (readS s epoch at').1.data.length (readS s epoch at').1.data))) := by
  refine URep.tri fun mc mi lc cc li ci => ?_
  refine tri_of_tree (ρ := [.n ub, .n bd, .p D, .i s.epoch, .i s.low, .i s.top, .n mc, .p (MapH CellV iE mc s.cells lc cc), .n mi, .p (MapH InstV iE mi s.inst li ci), .i epoch, .i at']) mixed Tryz.func100 tree_uRead ?_
  unfold t_uRead
  simp only [T.den, E.prop, E.den, RX.look, F1.app, F2.app, Uni.int_i, Uni.nat_n, Uni.bool_c, Uni.str_s, Uni.adr_a, Uni.val_v, Uni.hp_p, hden, cden, V.den, W.den, A.den, BR.den, SA.den, FV.den, capV, exs, exP, allP, Cur.app, List.map_cons, List.map_nil, List.cons_append, List.nil_append, List.drop_succ_cons, List.drop_zero, List.length_cons, List.length_nil, Nat.zero_add, Nat.reduceAdd, Int.neg_neg, Bool.not_not, List.append_nil, Nat.add_zero, List.getElem?_cons_zero, List.getElem?_cons_succ, Decidable.not_not]
  intro x
  refine (uReachRaw_ok ub bd mc mi D _ _ s epoch at').weak (fun _ _ h => h) ?_
  rintro v R h ⟨rfl, H⟩
  refine ⟨_, rfl, ⟨fun h1 => .of fun R h H => ?_, fun h1 => ⟨fun h2 => .of fun R h H => ?_, fun h2 => ?_⟩⟩, H⟩
  · have e : readS s epoch at' = (⟨0, []⟩, reachE s epoch at') := if_pos h1
    rw [e]
    exact ⟨none, 0, rfl, RoC.joinR (RoC.nil _ _ R h) (URep.ofH H)⟩
  · have e : readS s epoch at' = (⟨0, []⟩, 11) := by unfold readS; rw [if_neg (by simpa using h1), if_pos h2]
    rw [e]
    exact ⟨none, 0, rfl, RoC.joinR (RoC.nil _ _ R h) (URep.ofH H)⟩
  · refine (uCell_ok ub bd mc mi D (MapH InstV iE mi s.inst li ci) s lc cc at').weak (fun _ _ h => h) ?_
    rintro v R h ⟨a, c, rfl, H⟩
    have hu : (URep ub bd D s).p R h → True := fun _ => trivial
    refine ⟨_, a, _, c, RoB a ((s.cells at').getD ⟨0, []⟩).data.length ((s.cells at').getD ⟨0, []⟩).data, _, rfl, fun y => ⟨fun hno => .of fun R h H => ?_, fun hyes => .of fun R h H => ?_⟩, H⟩
    · have hc : s.cells at' = none := by simpa using hno
      have e : readS s epoch at' = (⟨0, []⟩, 9) := by unfold readS; rw [if_neg (by simpa using h1), if_neg h2, hc]
      rw [e]
      exact ⟨none, 0, rfl, RoC.joinR (RoC.nil _ _ R h) (URep.ofH H)⟩
    · obtain ⟨z, hz⟩ := Option.isSome_iff_exists.1 hyes
      have e : readS s epoch at' = (z, 0) := by unfold readS; rw [if_neg (by simpa using h1), if_neg h2, hz]
      rw [e]
      rw [hz] at H ⊢
      refine ⟨a, c, rfl, RoC.joinR (HP.sep_right (HP.sep_right (HP.sep_right (HP.sep_right H)))) (URep.ofH (HP.sep_mono H (fun _ h => h) fun y hy => HP.sep_mono hy (fun _ h => h) fun u hu => HP.sep_mono hu (fun _ h => h) fun q hq => HP.sep_left hq))⟩
end Go.Proofs.YtbmajijnjkicmaaGreatDoor



namespace Go.Proofs.YtbmajijnjkicmaaGreatDoor
set_option linter.unusedSimpArgs false
set_option linter.unusedVariables false
open Go.Proofs.YtbmajijnjkicmaaGreatDoor RX

def UD (ub bd : Nat) (room : Int) (s : USt) (ps : List Pg) : HP := URep ub bd (DRep bd room ps ps.length) s
def lastS (room : Int) (s : USt) (ps : List Pg) (l : List UInt8) (s' : USt) : Int × USt × List Pg := if room = ps.length then (4, s, ps) else (0, s', ps ++ [⟨1, l⟩])
def trimS (room : Int) (s : USt) (ps : List Pg) (epoch low : Int) : Int × USt × List Pg :=
  if reachE s epoch low ≠ 0 then (reachE s epoch low, s, ps)
  else if low ≤ s.low then (0, s, ps)
  else lastS room s ps (pageL 3 [low]) (forgS { s with low := low })
theorem putPg_last (room : Int) (ps : List Pg) (l : List UInt8) : (if (putPg room ps ⟨1, l⟩).1 = 0 then (putPg room ps ⟨1, l⟩).2.length else ps.length) = (putPg room ps ⟨1, l⟩).2.length := by
  unfold putPg
  split <;> simp
theorem uTrim_ok (ub bd : Nat) (room : Int) (s : USt) (ps : List Pg) (epoch low : Int) :
    Tri Tryz.prog 102 #[.pointer (some ⟨ub, 0, none⟩), .int .i64 epoch, .int .i64 low] (UD ub bd room s ps)
    (fun v => HP.and (v = .int .i64 (trimS room s ps epoch low).1) (UD ub bd room (trimS room s ps epoch low).2.1 (trimS room s ps epoch low).2.2)) := by
  refine URep.tri fun mc mi lc cc li ci => ?_
  refine tri_of_tree (ρ := [.n ub, .n bd, .p (DRep bd room ps ps.length), .i s.epoch, .i s.low, .i s.top, .n mc, .p (MapH CellV iE mc s.cells lc cc), .n mi, .p (MapH InstV iE mi s.inst li ci), .i epoch, .i low]) mixed Tryz.func102 tree_uTrim ?_
  unfold t_uTrim
  simp only [T.den, E.prop, E.den, RX.look, F1.app, F2.app, Uni.int_i, Uni.nat_n, Uni.bool_c, Uni.str_s, Uni.adr_a, Uni.val_v, Uni.hp_p, hden, cden, V.den, W.den, A.den, BR.den, SA.den, FV.den, capV, exs, exP, allP, Cur.app, List.map_cons, List.map_nil, List.cons_append, List.nil_append, List.drop_succ_cons, List.drop_zero, List.length_cons, List.length_nil, Nat.zero_add, Nat.reduceAdd, Int.neg_neg, Bool.not_not, List.append_nil, Nat.add_zero, List.getElem?_cons_zero, List.getElem?_cons_succ, Decidable.not_not]
  refine (uReachRaw_ok ub bd mc mi _ _ _ s epoch low).weak (fun _ _ h => h) ?_
  rintro v R h ⟨rfl, H⟩
  refine ⟨_, rfl, ⟨fun h1 => .of fun R h H => ?_, fun h1 => ⟨fun h2 => .of fun R h H => ?_, fun h2 y => ?_⟩⟩, H⟩
  · have e : trimS room s ps epoch low = (reachE s epoch low, s, ps) := if_pos h1
    rw [e]
    exact ⟨rfl, URep.ofH H⟩
  · have e : trimS room s ps epoch low = (0, s, ps) := by unfold trimS; rw [if_neg (by simpa using h1), if_pos h2]
    rw [e]
    exact ⟨rfl, URep.ofH H⟩
  · have e : trimS room s ps epoch low = lastS room s ps (pageL 3 [low]) (forgS { s with low := low }) := by unfold trimS; rw [if_neg (by simpa using h1), if_neg h2]
    rw [e]
    refine (upage_ok 3 (some ⟨y, 0, none⟩) 1 1 [low] _ (one_rd y #[.int .i64 low] _) rfl (fun _ => rfl) (by omega)).weak (fun _ _ h => h) ?_
    rintro v R h ⟨b, rfl, H⟩
    refine ⟨b, WRep b (pageL 3 [low]), low, rfl, ?_, HP.sep_comm H⟩
    refine (wOut_ok b (pageL 3 [low]) (by rw [pageL_len]; simp)).weak (fun _ _ h => h) ?_
    rintro v R h ⟨a', c', rfl, H⟩
    refine ⟨a', _, c', OwB a' (pageL 3 [low]).length c' (pageL 3 [low]), _, rfl, ?_, HP.sep_comm H⟩
    refine (uLast_ok ub bd mc mi room ps ps.length _ _ s a' _ c' (pageL 3 [low]) _ (RdL.ow _ 1 _ _ _ _) rfl (by rw [pageL_len]; simp)).weak (fun _ _ h => h) ?_
    rintro v R h ⟨rfl, H⟩
    rw [putPg_last] at H
    by_cases hf : room = ps.length
    · have e1 : putPg room ps ⟨1, pageL 3 [low]⟩ = (4, ps) := if_pos hf
      have e2 : ∀ s', lastS room s ps (pageL 3 [low]) s' = (4, s, ps) := fun _ => if_pos hf
      rw [e1] at H ⊢
      rw [e2]
      exact ⟨4, bd, DRep bd room ps ps.length, s.epoch, s.low, s.top, mc, MapH CellV iE mc s.cells lc cc, mi, MapH InstV iE mi s.inst li ci, _, rfl, ⟨fun _ => .of fun R h H => ⟨rfl, URep.ofH H⟩, fun h => absurd h (by decide)⟩, H⟩
    · have e1 : putPg room ps ⟨1, pageL 3 [low]⟩ = (0, ps ++ [(⟨1, pageL 3 [low]⟩ : Pg)]) := if_neg hf
      have e2 : ∀ s', lastS room s ps (pageL 3 [low]) s' = (0, s', ps ++ [(⟨1, pageL 3 [low]⟩ : Pg)]) := fun _ => if_neg hf
      rw [e1] at H ⊢
      rw [e2]
      dsimp only at H ⊢
      refine ⟨0, bd, DRep bd room (ps ++ [(⟨1, pageL 3 [low]⟩ : Pg)]) (ps ++ [(⟨1, pageL 3 [low]⟩ : Pg)]).length, s.epoch, s.low, s.top, mc, MapH CellV iE mc s.cells lc cc, mi, MapH InstV iE mi s.inst li ci, OwB a' (pageL 3 [low]).length c' (pageL 3 [low]), ?_⟩
      refine And.intro rfl (And.intro ?_ H)
      refine ⟨fun h => (h rfl).elim, fun _ => ?_⟩
      refine (uForget_ok ub bd mc mi _ (MapH InstV iE mi s.inst li ci) { s with low := low } lc cc).weak (fun _ _ h => h) ?_
      rintro v R h ⟨rfl, H⟩
      refine ⟨bd, DRep bd room (ps ++ [(⟨1, pageL 3 [low]⟩ : Pg)]) (ps ++ [(⟨1, pageL 3 [low]⟩ : Pg)]).length, s.epoch, low, s.top, mc, MapE CellV iE mc (forgS { s with low := low }).cells, mi, MapH InstV iE mi s.inst li ci, rfl, .of fun R h H => ⟨rfl, ?_⟩, H⟩
      show (URep ub bd (DRep bd room (ps ++ [(⟨1, pageL 3 [low]⟩ : Pg)]) (ps ++ [(⟨1, pageL 3 [low]⟩ : Pg)]).length) (forgS { s with low := low })).p R h
      refine URep.of (mc := mc) (mi := mi) (HP.sep_mono H (fun _ h => h) fun y hy => HP.sep_mono hy (fun _ h => h) fun z hz => HP.sep_mono hz (fun _ h => h) fun q hq => ?_)
      exact ⟨li, ci, hq⟩
end Go.Proofs.YtbmajijnjkicmaaGreatDoor



namespace Go.Proofs.YtbmajijnjkicmaaGreatDoor
set_option linter.unusedSimpArgs false
set_option linter.unusedVariables false
open Go.Proofs.YtbmajijnjkicmaaGreatDoor RX

def pgW (l : List UInt8) : Pg := ⟨1, l⟩
theorem lastS_full {room : Int} {s : USt} {ps : List Pg} {l : List UInt8} (h : room = ps.length) (s' : USt) : lastS room s ps l s' = (4, s, ps) := if_pos h
theorem lastS_room {room : Int} {s : USt} {ps : List Pg} {l : List UInt8} (h : ¬ room = ps.length) (s' : USt) : lastS room s ps l s' = (0, s', ps ++ [pgW l]) := if_neg h
theorem uLastU_ok (ub bd mc mi : Nat) (room : Int) (ps : List Pg) (C I : HP) (s : USt) (a : Option Addr) (n c : Nat) (l : List UInt8) (S : HP) (hr : RdL S a n (l.map u8v)) (hl : l.length = n) (hb : n ≤ 140737488355328) :
    Tri Tryz.prog 43 #[.pointer (some ⟨ub, 0, none⟩), .slice a n c] (HP.sep (UOne ub bd mc mi s) (HP.sep (DRep bd room ps ps.length) (HP.sep C (HP.sep I S))))
    (fun v => HP.ex fun b : Bool => HP.and (v = .int .i64 (if b then 4 else 0) ∧ (b = true ↔ room = ps.length)) (HP.sep (UOne ub bd mc mi s) (HP.sep (DRep bd room (if b then ps else ps ++ [pgW l]) (if b then ps else ps ++ [pgW l]).length) (HP.sep C (HP.sep I S))))) := by
  refine (uLast_ok ub bd mc mi room ps ps.length C I s a n c l S hr hl hb).weak (fun _ _ h => h) ?_
  rintro v R h ⟨rfl, H⟩
  rw [putPg_last] at H
  by_cases hf : room = ps.length
  · have e1 : putPg room ps ⟨1, l⟩ = (4, ps) := if_pos hf
    rw [e1] at H ⊢
    exact ⟨true, ⟨rfl, fun _ => hf, fun _ => rfl⟩, H⟩
  · have e1 : putPg room ps ⟨1, l⟩ = (0, ps ++ [pgW l]) := if_neg hf
    rw [e1] at H ⊢
    exact ⟨false, ⟨rfl, fun h => (by cases h), fun h => absurd h hf⟩, H⟩
theorem UD.ofH {ub bd mc mi : Nat} {room : Int} {s : USt} {ps : List Pg} {lc : AL Int} {cc : Nat} {li : AL Int} {ci : Nat} {R h : PH} (H : (HP.sep (UOne ub bd mc mi s) (HP.sep (DRep bd room ps ps.length) (HP.sep (MapH CellV iE mc s.cells lc cc) (MapH InstV iE mi s.inst li ci)))).p R h) : (UD ub bd room s ps).p R h := URep.ofH H
def sealS (room : Int) (s : USt) (ps : List Pg) (epoch : Int) : Int × USt × List Pg :=
  if epoch ≤ s.epoch then (8, s, ps) else if 2147483647 < epoch then (1, s, ps) else lastS room s ps (pageL 4 [epoch]) { s with epoch := epoch }
theorem uSeal_ok (ub bd : Nat) (room : Int) (s : USt) (ps : List Pg) (epoch : Int) :
    Tri Tryz.prog 104 #[.pointer (some ⟨ub, 0, none⟩), .int .i64 epoch] (UD ub bd room s ps)
    (fun v => HP.and (v = .int .i64 (sealS room s ps epoch).1) (UD ub bd room (sealS room s ps epoch).2.1 (sealS room s ps epoch).2.2)) := by
  refine URep.tri fun mc mi lc cc li ci => ?_
  refine tri_of_tree (ρ := [.n ub, .n bd, .p (DRep bd room ps ps.length), .i s.epoch, .i s.low, .i s.top, .n mc, .p (MapH CellV iE mc s.cells lc cc), .n mi, .p (MapH InstV iE mi s.inst li ci), .i epoch]) mixed Tryz.func104 tree_uSeal ?_
  unfold t_uSeal
  simp only [T.den, E.prop, E.den, RX.look, F1.app, F2.app, Uni.int_i, Uni.nat_n, Uni.bool_c, Uni.str_s, Uni.adr_a, Uni.val_v, Uni.hp_p, hden, cden, V.den, W.den, A.den, BR.den, SA.den, FV.den, capV, exs, exP, allP, Cur.app, List.map_cons, List.map_nil, List.cons_append, List.nil_append, List.drop_succ_cons, List.drop_zero, List.length_cons, List.length_nil, Nat.zero_add, Nat.reduceAdd, Int.neg_neg, Bool.not_not, List.append_nil, Nat.add_zero, List.getElem?_cons_zero, List.getElem?_cons_succ, Decidable.not_not]
  refine ⟨fun h1 => .of fun R h H => ?_, fun h1 => ⟨fun h2 => .of fun R h H => ?_, fun h2 y => ?_⟩⟩
  · have e : sealS room s ps epoch = (8, s, ps) := if_pos h1
    rw [e]; exact ⟨rfl, UD.ofH H⟩
  · have e : sealS room s ps epoch = (1, s, ps) := by unfold sealS; rw [if_neg h1, if_pos h2]
    rw [e]; exact ⟨rfl, UD.ofH H⟩
  · have e : sealS room s ps epoch = lastS room s ps (pageL 4 [epoch]) { s with epoch := epoch } := by unfold sealS; rw [if_neg h1, if_neg h2]
    rw [e]
    refine (upage_ok 4 (some ⟨y, 0, none⟩) 1 1 [epoch] _ (one_rd y #[.int .i64 epoch] _) rfl (fun _ => rfl) (by omega)).weak (fun _ _ h => h) ?_
    rintro v R h ⟨b, rfl, H⟩
    refine ⟨b, WRep b (pageL 4 [epoch]), epoch, rfl, ?_, HP.sep_comm H⟩
    refine (wOut_ok b (pageL 4 [epoch]) (by rw [pageL_len]; simp)).weak (fun _ _ h => h) ?_
    rintro v R h ⟨a', c', rfl, H⟩
    refine ⟨a', _, c', OwB a' (pageL 4 [epoch]).length c' (pageL 4 [epoch]), _, rfl, ?_, HP.sep_comm H⟩
    refine (uLastU_ok ub bd mc mi room ps _ _ s a' _ c' (pageL 4 [epoch]) _ (RdL.ow _ 1 _ _ _ _) rfl (by rw [pageL_len]; simp)).weak (fun _ _ h => h) ?_
    rintro v R h ⟨full, ⟨rfl, hf⟩, H⟩
    cases full with
    | true =>
      rw [lastS_full (hf.1 rfl)]
      exact ⟨4, bd, DRep bd room ps ps.length, s.epoch, s.low, s.top, mc, MapH CellV iE mc s.cells lc cc, mi, MapH InstV iE mi s.inst li ci, _, rfl, ⟨fun _ => .of fun R h H => ⟨rfl, UD.ofH H⟩, fun h => absurd h (by decide)⟩, H⟩
    | false =>
      rw [lastS_room (fun h => by have := hf.2 h; cases this)]
      refine ⟨0, bd, DRep bd room (ps ++ [pgW (pageL 4 [epoch])]) (ps ++ [pgW (pageL 4 [epoch])]).length, s.epoch, s.low, s.top, mc, MapH CellV iE mc s.cells lc cc, mi, MapH InstV iE mi s.inst li ci, OwB a' (pageL 4 [epoch]).length c' (pageL 4 [epoch]), rfl, ⟨fun h => absurd rfl h, fun _ => .of fun R h H => ⟨rfl, ?_⟩⟩, H⟩
      exact UD.ofH (s := { s with epoch := epoch }) H
def putS (s : USt) (at' : Int) (x : CellS) : USt := { s with cells := fput s.cells at' (some x), top := max s.top (at' + 1) }
def writeS (room : Int) (s : USt) (ps : List Pg) (epoch at' : Int) (x : CellS) : CellS × Int × USt × List Pg :=
  if reachE s epoch at' ≠ 0 then (zC, reachE s epoch at', s, ps)
  else if standB x.what x.data.length = false then (zC, 1, s, ps)
  else if at' < s.low then (zC, 11, s, ps)
  else match s.cells at' with
    | some y => (y, 10, s, ps)
    | none => (zC, lastS room s ps (cellL at' x) (putS s at' x))
theorem reach0 {s : USt} {epoch at' : Int} (h : reachE s epoch at' = 0) : epoch = s.epoch ∧ addrOk at' = true := by
  unfold reachE at h
  split at h
  · rename_i he
    split at h
    · rename_i ha; exact ⟨he, ha⟩
    · cases h
  · cases h
theorem UD.ofS {ub bd mc mi : Nat} {room : Int} {s : USt} {ps : List Pg} {lc : AL Int} {cc : Nat} {li : AL Int} {ci : Nat} {S : HP} {R h : PH} (H : (HP.sep (UOne ub bd mc mi s) (HP.sep (DRep bd room ps ps.length) (HP.sep (MapH CellV iE mc s.cells lc cc) (HP.sep (MapH InstV iE mi s.inst li ci) S)))).p R h) : (HP.sep (UD ub bd room s ps) S).p R h :=
  URep.ofS (HP.sep_mono H (fun _ h => h) fun y hy => HP.sep_mono hy (fun _ h => h) fun z hz => HP.sep_mono hz (fun q hq => ⟨_, _, hq⟩) fun u hu => HP.sep_mono hu (fun q hq => ⟨_, _, hq⟩) fun _ h => h)
theorem uWrite_ok (ub bd : Nat) (room : Int) (s : USt) (ps : List Pg) (epoch at' what : Int) (a : Option Addr) (n c : Nat) (d : List UInt8) (S : HP) (hr : RdL S a n (d.map u8v)) (hl : d.length = n) (ha : n ≠ 0 → a.isSome = true) :
    Tri Tryz.prog 20 #[.pointer (some ⟨ub, 0, none⟩), .int .i64 epoch, .int .i64 at', .agg #[.int .i64 what, .slice a n c]] (HP.sep (UD ub bd room s ps) S)
    (fun v => HP.ex fun a' => HP.ex fun c' => HP.and (v = .tuple #[.agg #[.int .i64 (writeS room s ps epoch at' ⟨what, d⟩).1.what, .slice a' (writeS room s ps epoch at' ⟨what, d⟩).1.data.length c'], .int .i64 (writeS room s ps epoch at' ⟨what, d⟩).2.1])
      (HP.sep (RoB a' (writeS room s ps epoch at' ⟨what, d⟩).1.data.length (writeS room s ps epoch at' ⟨what, d⟩).1.data) (HP.sep (UD ub bd room (writeS room s ps epoch at' ⟨what, d⟩).2.2.1 (writeS room s ps epoch at' ⟨what, d⟩).2.2.2) S))) := by
  refine URep.triS fun mc mi lc cc li ci => ?_
  refine tri_of_tree (ρ := [.n ub, .n bd, .p (DRep bd room ps ps.length), .i s.epoch, .i s.low, .i s.top, .n mc, .p (MapH CellV iE mc s.cells lc cc), .n mi, .p (MapH InstV iE mi s.inst li ci), .i epoch, .i at', .i what, .a a, .n n, .n c, .p S]) mixed Tryz.func20 tree_uWrite ?_
  unfold t_uWrite
  simp only [T.den, E.prop, E.den, RX.look, F1.app, F2.app, Uni.int_i, Uni.nat_n, Uni.bool_c, Uni.str_s, Uni.adr_a, Uni.val_v, Uni.hp_p, hden, cden, V.den, W.den, A.den, BR.den, SA.den, FV.den, capV, exs, exP, allP, Cur.app, List.map_cons, List.map_nil, List.cons_append, List.nil_append, List.drop_succ_cons, List.drop_zero, List.length_cons, List.length_nil, Nat.zero_add, Nat.reduceAdd, Int.neg_neg, Bool.not_not, List.append_nil, Nat.add_zero, List.getElem?_cons_zero, List.getElem?_cons_succ, Decidable.not_not]
  intro x y
  refine (uReachRaw_ok ub bd mc mi _ _ _ s epoch at').weak (fun _ _ h => h) ?_
  rintro v R h ⟨rfl, H⟩
  refine ⟨_, rfl, ⟨fun h1 => .of fun R h H => ?_, fun h1 => ?_⟩, H⟩
  · have e : writeS room s ps epoch at' ⟨what, d⟩ = (zC, reachE s epoch at', s, ps) := if_pos h1
    rw [e]; exact ⟨none, 0, rfl, RoC.join (RoC.nil _ _ R h) (UD.ofS H)⟩
  have hat := (reach0 h1).2
  refine (ustand_ok what a n c S).weak (fun _ _ h => h) ?_
  rintro v R h ⟨rfl, H⟩
  refine ⟨_, rfl, ⟨fun h2 => .of fun R h H => ?_, fun h2 => ⟨fun h3 => .of fun R h H => ?_, fun h3 => ?_⟩⟩, H⟩
  · have e : writeS room s ps epoch at' ⟨what, d⟩ = (zC, 1, s, ps) := by unfold writeS; rw [if_neg (by simpa using h1), if_pos (by simp only [hl]; simpa using h2)]
    rw [e]; exact ⟨none, 0, rfl, RoC.join (RoC.nil _ _ R h) (UD.ofS H)⟩
  · have e : writeS room s ps epoch at' ⟨what, d⟩ = (zC, 11, s, ps) := by unfold writeS; rw [if_neg (by simpa using h1), if_neg (by simp only [hl]; simpa using h2), if_pos h3]
    rw [e]; exact ⟨none, 0, rfl, RoC.join (RoC.nil _ _ R h) (UD.ofS H)⟩
  have hn : n ≤ 65536 := by
    simp only [standB] at h2
    split at h2
    · simp at h2; omega
    · split at h2
      · simp at h2; omega
      · simp at h2
  clear H
  refine (uCell_ok ub bd mc mi _ (MapH InstV iE mi s.inst li ci) s lc cc at').weak (fun _ _ h => h) ?_
  rintro v R h ⟨a', c', rfl, H⟩
  refine ⟨_, a', _, c', RoB a' ((s.cells at').getD ⟨0, []⟩).data.length ((s.cells at').getD ⟨0, []⟩).data, _, rfl, fun z => ⟨fun hyes => .of fun R h H => ?_, fun hno => ?_⟩, H⟩
  · obtain ⟨u, hu⟩ := Option.isSome_iff_exists.1 hyes
    have e : writeS room s ps epoch at' ⟨what, d⟩ = (u, 10, s, ps) := by unfold writeS; rw [if_neg (by simpa using h1), if_neg (by simp only [hl]; simpa using h2), if_neg h3, hu]
    rw [e]
    rw [hu] at H ⊢
    have hro := HP.sep_right (HP.sep_right (HP.sep_right (HP.sep_right (HP.sep_right H))))
    exact ⟨a', c', rfl, RoC.join hro (UD.ofS (HP.sep_mono H (fun _ h => h) fun y hy => HP.sep_mono hy (fun _ h => h) fun z hz => HP.sep_mono hz (fun _ h => h) fun u hu => HP.sep_mono hu (fun _ h => h) fun q hq => HP.sep_left hq))⟩
  · have hc : s.cells at' = none := by simpa using hno
    have e : writeS room s ps epoch at' ⟨what, d⟩ = (zC, lastS room s ps (cellL at' ⟨what, d⟩) (putS s at' ⟨what, d⟩)) := by unfold writeS; rw [if_neg (by simpa using h1), if_neg (by simp only [hl]; simpa using h2), if_neg h3, hc]
    rw [e]
    clear H
    refine (ucellPage_ok at' what a n c d S hr hl (by omega) ha).weak (fun _ _ h => h) ?_
    rintro v R h ⟨pa, pc, rfl, H⟩
    refine ⟨pa, _, pc, OwB pa (cellL at' ⟨what, d⟩).length pc (cellL at' ⟨what, d⟩), S, rfl, ?_, HP.sep_comm H⟩
    have hcl : (cellL at' ⟨what, d⟩).length ≤ 140737488355328 := by
      unfold cellL; split
      · rw [pageL_len]; simp
      · rw [List.length_append, List.length_append, pageL_len, beN_len]; simp; omega
    refine (uLastU_ok ub bd mc mi room ps _ _ s pa _ pc (cellL at' ⟨what, d⟩) _ (RdL.ow _ 1 _ _ _ _) rfl hcl).weak (fun _ _ h => h) ?_
    rintro v R h ⟨full, ⟨rfl, hf⟩, H⟩
    cases full with
    | true =>
      rw [lastS_full (hf.1 rfl)]
      exact ⟨4, bd, DRep bd room ps ps.length, s.epoch, s.low, s.top, mc, MapH CellV iE mc s.cells lc cc, mi, MapH InstV iE mi s.inst li ci, _, rfl, ⟨fun _ => .of fun R h H => ⟨none, 0, rfl, RoC.join (RoC.nil _ _ R h) (UD.ofS H)⟩, fun h => absurd h (by decide)⟩, H⟩
    | false =>
      rw [lastS_room (fun h => by have := hf.2 h; cases this)]
      refine ⟨0, bd, DRep bd room (ps ++ [pgW (cellL at' ⟨what, d⟩)]) (ps ++ [pgW (cellL at' ⟨what, d⟩)]).length, s.epoch, s.low, s.top, mc, MapH CellV iE mc s.cells lc cc, mi, MapH InstV iE mi s.inst li ci, OwB pa (cellL at' ⟨what, d⟩).length pc (cellL at' ⟨what, d⟩), rfl, ⟨fun h => absurd rfl h, fun _ => ?_⟩, H⟩
      refine (uPut_ok ub bd mc mi _ (MapH InstV iE mi s.inst li ci) s lc cc at' what a n c d S hr hl (by omega) hat).weak (fun _ _ h => h) ?_
      rintro v R h ⟨rfl, H⟩
      refine ⟨bd, DRep bd room (ps ++ [pgW (cellL at' ⟨what, d⟩)]) (ps ++ [pgW (cellL at' ⟨what, d⟩)]).length, s.epoch, s.low, max s.top (at' + 1), mc, MapE CellV iE mc (fput s.cells at' (some ⟨what, d⟩)), mi, MapH InstV iE mi s.inst li ci, S, rfl, .of fun R h H => ⟨none, 0, rfl, RoC.join (RoC.nil _ _ R h) ?_⟩, H⟩
      exact URep.ofS (s := putS s at' ⟨what, d⟩) (mc := mc) (mi := mi) (HP.sep_mono H (fun _ h => h) fun y hy => HP.sep_mono hy (fun _ h => h) fun z hz => HP.sep_mono hz (fun _ h => h) fun u hu => HP.sep_mono hu (fun q hq => ⟨_, _, hq⟩) fun _ h => h)
end Go.Proofs.YtbmajijnjkicmaaGreatDoor



namespace Go.Proofs.YtbmajijnjkicmaaGreatDoor
set_option linter.unusedSimpArgs false
set_option linter.unusedVariables false
open Go.Proofs.YtbmajijnjkicmaaGreatDoor RX

def acceptS (room : Int) (s : USt) (ps : List Pg) (n r w : Int) (l : List UInt8) : Int × USt × List Pg :=
  if propOk n r w = false then (1, s, ps)
  else if 1000 < l.length then (1, s, ps)
  else if lessB r w (instAt s n).pr (instAt s n).pw = true then (7, s, ps)
  else lastS room s ps (pageL 6 [n, r, w] ++ beN l.length 4 ++ l) (accS s n r w l)
set_option maxRecDepth 100000 in
theorem uAccept_ok (ub bd : Nat) (room : Int) (s : USt) (ps : List Pg) (n r w : Int) (a : Option Addr) (k c : Nat) (l : List UInt8) (S : HP) (hr : RdL S a k (l.map u8v)) (hl : l.length = k) (ha : k ≠ 0 → a.isSome = true) :
    Tri Tryz.prog 110 #[.pointer (some ⟨ub, 0, none⟩), .int .i64 n, .agg #[.int .i64 r, .int .i64 w], .slice a k c] (HP.sep (UD ub bd room s ps) S)
    (fun v => HP.and (v = .int .i64 (acceptS room s ps n r w l).1) (HP.sep (UD ub bd room (acceptS room s ps n r w l).2.1 (acceptS room s ps n r w l).2.2) S)) := by
  refine URep.triS fun mc mi lc cc li ci => ?_
  refine Tri.fact (fun R h H => inst_look mi s li ci n (HP.sep_left (HP.sep_right (HP.sep_right (HP.sep_right H))))) ?_
  rintro ⟨va, vc, hval, hb, hro⟩
  refine tri_of_tree (ρ := [.n ub, .n bd, .p (DRep bd room ps ps.length), .i s.epoch, .i s.low, .i s.top, .n mc, .p (MapH CellV iE mc s.cells lc cc), .n mi, .p (MapH InstV iE mi s.inst li ci), .i n, .i r, .i w, .a a, .n k, .n c, .p S]) mixed Tryz.func110 tree_uAccept ?_
  unfold t_uAccept
  simp only [T.den, E.prop, E.den, RX.look, F1.app, F2.app, Uni.int_i, Uni.nat_n, Uni.bool_c, Uni.str_s, Uni.adr_a, Uni.val_v, Uni.hp_p, hden, cden, V.den, W.den, A.den, BR.den, SA.den, FV.den, capV, exs, exP, allP, Cur.app, List.map_cons, List.map_nil, List.cons_append, List.nil_append, List.drop_succ_cons, List.drop_zero, List.length_cons, List.length_nil, Nat.zero_add, Nat.reduceAdd, Int.neg_neg, Bool.not_not, List.append_nil, Nat.add_zero, List.getElem?_cons_zero, List.getElem?_cons_succ, Decidable.not_not]
  intro x
  refine (uprop_ok n r w).weak (fun _ _ h => h) ?_
  rintro v R h ⟨rfl, H⟩
  refine ⟨_, rfl, ⟨fun h1 => .of fun R h H => ?_, fun h1 => ⟨fun h2 => .of fun R h H => ?_, fun h2 => ?_⟩⟩, H⟩
  · have e : acceptS room s ps n r w l = (1, s, ps) := if_pos (by simpa using h1)
    rw [e]; exact ⟨rfl, UD.ofS H⟩
  · have e : acceptS room s ps n r w l = (1, s, ps) := by unfold acceptS; rw [if_neg (by simpa using h1), if_pos (by omega)]
    rw [e]; exact ⟨rfl, UD.ofS H⟩
  obtain ⟨i, hi, z1, _⟩ := info_parts infoI
  have hlook := look_ok (r := mi) (l := li) (c := ci) iK undMi hi z1 n false (A := MapH InstV iE mi s.inst li ci) (fun R h H => MapH.at H)
  rw [if_neg (by decide), hval] at hlook
  refine ⟨_, _, _, _, _, _, _, hlook, ?_⟩
  refine (uless_ok r w (instAt s n).pr (instAt s n).pw).weak (fun _ _ h => h) ?_
  rintro v R h ⟨rfl, H⟩
  refine ⟨_, rfl, ⟨fun h3 => .of fun R h H => ?_, fun h3 y => ?_⟩, H⟩
  · have e : acceptS room s ps n r w l = (7, s, ps) := by unfold acceptS; rw [if_neg (by simpa using h1), if_neg (by omega), if_pos h3]
    rw [e]; exact ⟨rfl, UD.ofS H⟩
  have e : acceptS room s ps n r w l = lastS room s ps (pageL 6 [n, r, w] ++ beN l.length 4 ++ l) (accS s n r w l) := by unfold acceptS; rw [if_neg (by simpa using h1), if_neg (by omega), if_neg h3]
  rw [e]
  clear H
  refine (upage_ok 6 (some ⟨y, 0, none⟩) 3 3 [n, r, w] _ (one_rd y #[.int .i64 n, .int .i64 r, .int .i64 w] _) rfl (fun _ => rfl) (by omega)).weak (fun _ _ h => h) ?_
  rintro v R h ⟨b, rfl, H⟩
  refine ⟨b, WRep b (pageL 6 [n, r, w]), n, r, w, rfl, ?_, HP.sep_comm H⟩
  refine (wBytes_ok b (pageL 6 [n, r, w]) a k c l S hr hl ha (by rw [pageL_len]; simp only [List.length_cons, List.length_nil]; omega)).weak (fun _ _ h => h) ?_
  rintro v R h ⟨rfl, H⟩
  refine ⟨WRep b (pageL 6 [n, r, w] ++ beN k 4 ++ l), S, rfl, ?_, H⟩
  have hlen : (pageL 6 [n, r, w] ++ beN k 4 ++ l).length ≤ 140737488355328 := by
    rw [List.length_append, List.length_append, pageL_len, beN_len]; simp; omega
  refine (wOut_ok b _ (by rw [List.length_append, List.length_append, pageL_len, beN_len]; simp only [List.length_cons, List.length_nil]; omega)).weak (fun _ _ h => h) ?_
  rintro v R h ⟨pa, pc, rfl, H⟩
  refine ⟨pa, _, pc, OwB pa (pageL 6 [n, r, w] ++ beN k 4 ++ l).length pc (pageL 6 [n, r, w] ++ beN k 4 ++ l), _, rfl, ?_, HP.sep_comm H⟩
  rw [hl]
  refine (uLastU_ok ub bd mc mi room ps _ _ s pa _ pc (pageL 6 [n, r, w] ++ beN k 4 ++ l) _ (RdL.ow _ 1 _ _ _ _) rfl hlen).weak (fun _ _ h => h) ?_
  rintro v R h ⟨full, ⟨rfl, hf⟩, H⟩
  cases full with
  | true =>
    rw [lastS_full (hf.1 rfl)]
    exact ⟨4, bd, DRep bd room ps ps.length, s.epoch, s.low, s.top, mc, MapH CellV iE mc s.cells lc cc, mi, MapH InstV iE mi s.inst li ci, _, rfl, ⟨fun _ => .of fun R h H => ⟨rfl, UD.ofS H⟩, fun h => absurd h (by decide)⟩, H⟩
  | false =>
    rw [lastS_room (fun h => by have := hf.2 h; cases this)]
    refine ⟨0, bd, DRep bd room (ps ++ [pgW (pageL 6 [n, r, w] ++ beN k 4 ++ l)]) (ps ++ [pgW (pageL 6 [n, r, w] ++ beN k 4 ++ l)]).length, s.epoch, s.low, s.top, mc, MapH CellV iE mc s.cells lc cc, mi, MapH InstV iE mi s.inst li ci, OwB pa (pageL 6 [n, r, w] ++ beN k 4 ++ l).length pc (pageL 6 [n, r, w] ++ beN k 4 ++ l), rfl, ⟨fun h => absurd rfl h, fun _ => ?_⟩, H⟩
    refine (uAcc_ok ub bd mc mi _ (MapH CellV iE mc s.cells lc cc) s li ci n r w a k c l S hr hl (by omega)).weak (fun _ _ h => h) ?_
    rintro v R h ⟨rfl, H⟩
    refine ⟨bd, DRep bd room (ps ++ [pgW (pageL 6 [n, r, w] ++ beN k 4 ++ l)]) (ps ++ [pgW (pageL 6 [n, r, w] ++ beN k 4 ++ l)]).length, s.epoch, s.low, s.top, mc, MapH CellV iE mc s.cells lc cc, mi, MapE InstV iE mi (accS s n r w l).inst, S, rfl, .of fun R h H => ⟨rfl, ?_⟩, H⟩
    exact URep.ofS (s := accS s n r w l) (mc := mc) (mi := mi) (HP.sep_mono H (fun _ h => h) fun y hy => HP.sep_mono hy (fun _ h => h) fun z hz => HP.sep_mono hz (fun q hq => ⟨_, _, hq⟩) fun _ h => h)
def promiseS (room : Int) (s : USt) (ps : List Pg) (n r w : Int) : Int × Int × List UInt8 × Int × USt × List Pg :=
  if propOk n r w = false then (0, 0, [], 1, s, ps)
  else if lessB r w (instAt s n).pr (instAt s n).pw = true then (0, 0, [], 7, s, ps)
  else if r = (instAt s n).pr ∧ w = (instAt s n).pw then ((instAt s n).ar, (instAt s n).aw, (instAt s n).val, 0, s, ps)
  else if room = ps.length then (0, 0, [], 4, s, ps)
  else ((instAt s n).ar, (instAt s n).aw, (instAt s n).val, 0, promS s n r w, ps ++ [pgW (pageL 5 [n, r, w])])
set_option maxRecDepth 100000 in
theorem uPromise_ok (ub bd : Nat) (room : Int) (s : USt) (ps : List Pg) (n r w : Int) :
    Tri Tryz.prog 108 #[.pointer (some ⟨ub, 0, none⟩), .int .i64 n, .agg #[.int .i64 r, .int .i64 w]] (UD ub bd room s ps)
    (fun v => HP.ex fun a => HP.ex fun c => HP.and (v = .tuple #[.agg #[.int .i64 (promiseS room s ps n r w).1, .int .i64 (promiseS room s ps n r w).2.1], .slice a (promiseS room s ps n r w).2.2.1.length c, .int .i64 (promiseS room s ps n r w).2.2.2.1])
      (HP.sep (UD ub bd room (promiseS room s ps n r w).2.2.2.2.1 (promiseS room s ps n r w).2.2.2.2.2) (RoB a (promiseS room s ps n r w).2.2.1.length (promiseS room s ps n r w).2.2.1))) := by
  refine URep.tri fun mc mi lc cc li ci => ?_
  refine Tri.fact (fun R h H => inst_look mi s li ci n (HP.sep_right (HP.sep_right (HP.sep_right H)))) ?_
  rintro ⟨va, vc, hval, hb, hro⟩
  refine tri_of_tree (ρ := [.n ub, .n bd, .p (DRep bd room ps ps.length), .i s.epoch, .i s.low, .i s.top, .n mc, .p (MapH CellV iE mc s.cells lc cc), .n mi, .p (MapH InstV iE mi s.inst li ci), .i n, .i r, .i w]) mixed Tryz.func108 tree_uPromise ?_
  unfold t_uPromise
  simp only [T.den, E.prop, E.den, RX.look, F1.app, F2.app, Uni.int_i, Uni.nat_n, Uni.bool_c, Uni.str_s, Uni.adr_a, Uni.val_v, Uni.hp_p, hden, cden, V.den, W.den, A.den, BR.den, SA.den, FV.den, capV, exs, exP, allP, Cur.app, List.map_cons, List.map_nil, List.cons_append, List.nil_append, List.drop_succ_cons, List.drop_zero, List.length_cons, List.length_nil, Nat.zero_add, Nat.reduceAdd, Int.neg_neg, Bool.not_not, List.append_nil, Nat.add_zero, List.getElem?_cons_zero, List.getElem?_cons_succ, Decidable.not_not]
  intro x y
  refine (uprop_ok n r w).weak (fun _ _ h => h) ?_
  rintro v R h ⟨rfl, H⟩
  refine ⟨_, rfl, ⟨fun h1 => .of fun R h H => ?_, fun h1 => ?_⟩, H⟩
  · have e : promiseS room s ps n r w = (0, 0, [], 1, s, ps) := if_pos (by simpa using h1)
    rw [e]; exact ⟨none, 0, rfl, RoC.joinR (RoC.nil _ _ R h) (UD.ofH H)⟩
  obtain ⟨i, hi, z1, _⟩ := info_parts infoI
  have hlook := look_ok (r := mi) (l := li) (c := ci) iK undMi hi z1 n false (A := MapH InstV iE mi s.inst li ci) (fun R h H => MapH.at H)
  rw [if_neg (by decide), hval] at hlook
  rw [semOf_lookup (by decide)]
  simp only [T.den, E.prop, E.den, RX.look, F1.app, F2.app, Uni.int_i, Uni.nat_n, Uni.bool_c, Uni.str_s, Uni.adr_a, Uni.val_v, Uni.hp_p, hden, cden, V.den, W.den, A.den, BR.den, SA.den, FV.den, capV, exs, exP, allP, Cur.app, List.map_cons, List.map_nil, List.cons_append, List.nil_append, List.drop_succ_cons, List.drop_zero, List.length_cons, List.length_nil, Nat.zero_add, Nat.reduceAdd, Int.neg_neg, Bool.not_not, List.append_nil, Nat.add_zero, List.getElem?_cons_zero, List.getElem?_cons_succ, Decidable.not_not]
  refine OTri.ofRead hlook fun R h H => ⟨(instAt s n).pr, (instAt s n).pw, (instAt s n).ar, (instAt s n).aw, va, (instAt s n).val.length, vc, RoB va (instAt s n).val.length (instAt s n).val, MapH InstV iE mi s.inst li ci, rfl, fun z => ?_, RoC.join (hro R h H) H⟩
  clear H
  refine (uless_ok r w (instAt s n).pr (instAt s n).pw).weak (fun _ _ h => h) ?_
  rintro v R h ⟨rfl, H⟩
  refine ⟨_, rfl, ⟨fun h3 => .of fun R h H => ?_, fun h3 => ?_⟩, H⟩
  · have e : promiseS room s ps n r w = (0, 0, [], 7, s, ps) := by unfold promiseS; rw [if_neg (by simpa using h1), if_pos h3]
    rw [e]; exact ⟨none, 0, rfl, RoC.joinR (RoC.nil _ _ R h) (UD.ofH H)⟩
  clear H
  refine ⟨_, semOf_neqB (r := r) (q := w) (r' := (instAt s n).pr) (q' := (instAt s n).pw) (by decide) rfl rfl, fun hne => fun y2 => ?_, fun heq => ?_⟩
  · have hne' : ¬ (r = (instAt s n).pr ∧ w = (instAt s n).pw) := by
      simp only [Bool.not_eq_true', Bool.and_eq_false_iff, decide_eq_false_iff_not] at hne
      rintro ⟨h1, h2⟩
      rcases hne with h | h
      · exact h h1
      · exact h h2
    refine (upage_ok 5 (some ⟨y2, 0, none⟩) 3 3 [n, r, w] _ (one_rd y2 #[.int .i64 n, .int .i64 r, .int .i64 w] _) rfl (fun _ => rfl) (by omega)).weak (fun _ _ h => h) ?_
    rintro v R h ⟨b, rfl, H⟩
    refine ⟨b, WRep b (pageL 5 [n, r, w]), n, r, w, rfl, ?_, HP.sep_comm H⟩
    refine (wOut_ok b (pageL 5 [n, r, w]) (by rw [pageL_len]; simp)).weak (fun _ _ h => h) ?_
    rintro v R h ⟨pa, pc, rfl, H⟩
    refine ⟨pa, _, pc, OwB pa (pageL 5 [n, r, w]).length pc (pageL 5 [n, r, w]), _, rfl, ?_, HP.sep_comm H⟩
    refine (uLastU_ok ub bd mc mi room ps _ _ s pa _ pc (pageL 5 [n, r, w]) _ (RdL.ow _ 1 _ _ _ _) rfl (by rw [pageL_len]; simp)).weak (fun _ _ h => h) ?_
    rintro v R h ⟨full, ⟨rfl, hf⟩, H⟩
    cases full with
    | true =>
      have e : promiseS room s ps n r w = (0, 0, [], 4, s, ps) := by unfold promiseS; rw [if_neg (by simpa using h1), if_neg h3, if_neg hne', if_pos (hf.1 rfl)]
      rw [e]
      exact ⟨4, bd, DRep bd room ps ps.length, s.epoch, s.low, s.top, mc, MapH CellV iE mc s.cells lc cc, mi, MapH InstV iE mi s.inst li ci, _, rfl, ⟨fun _ => .of fun R h H => ⟨none, 0, rfl, RoC.joinR (RoC.nil _ _ R h) (UD.ofH H)⟩, fun h => absurd h (by decide)⟩, H⟩
    | false =>
      have e : promiseS room s ps n r w = ((instAt s n).ar, (instAt s n).aw, (instAt s n).val, 0, promS s n r w, ps ++ [pgW (pageL 5 [n, r, w])]) := by unfold promiseS; rw [if_neg (by simpa using h1), if_neg h3, if_neg hne', if_neg (fun h => by have := hf.2 h; cases this)]
      rw [e]
      refine ⟨0, bd, DRep bd room (ps ++ [pgW (pageL 5 [n, r, w])]) (ps ++ [pgW (pageL 5 [n, r, w])]).length, s.epoch, s.low, s.top, mc, MapH CellV iE mc s.cells lc cc, mi, MapH InstV iE mi s.inst li ci, OwB pa (pageL 5 [n, r, w]).length pc (pageL 5 [n, r, w]), rfl, ⟨fun h => absurd rfl h, fun _ => ?_⟩, H⟩
      refine (uProm_ok ub bd mc mi _ (MapH CellV iE mc s.cells lc cc) s li ci n r w).weak (fun _ _ h => h) ?_
      rintro v R h ⟨rfl, H⟩
      refine ⟨bd, DRep bd room (ps ++ [pgW (pageL 5 [n, r, w])]) (ps ++ [pgW (pageL 5 [n, r, w])]).length, s.epoch, s.low, s.top, mc, MapH CellV iE mc s.cells lc cc, mi, MapE InstV iE mi (promS s n r w).inst, rfl, ?_, H⟩
      refine (cloneR_ok (RoB va (instAt s n).val.length (instAt s n).val) va _ vc (instAt s n).val (RdL.ro _ _ _ _) rfl hb).weak (fun _ _ h => h) ?_
      rintro v R h ⟨ca, cc', rfl, H⟩
      refine ⟨ca, _, cc', RoB ca (instAt s n).val.length (instAt s n).val, _, rfl, .of fun R h H => ⟨ca, cc', rfl, ?_⟩, H⟩
      exact URep.ofS (s := promS s n r w) (mc := mc) (mi := mi) (HP.sep_mono H (fun _ h => h) fun y hy => HP.sep_mono hy (fun _ h => h) fun z hz => HP.sep_mono hz (fun q hq => ⟨_, _, hq⟩) fun _ h => h)
  · have heq' : r = (instAt s n).pr ∧ w = (instAt s n).pw := by simpa using heq
    have e : promiseS room s ps n r w = ((instAt s n).ar, (instAt s n).aw, (instAt s n).val, 0, s, ps) := by unfold promiseS; rw [if_neg (by simpa using h1), if_neg h3, if_pos heq']
    rw [e]
    refine (cloneR_ok (HP.sep (RoB va (instAt s n).val.length (instAt s n).val) (MapH InstV iE mi s.inst li ci)) va _ vc (instAt s n).val ⟨(RdL.ro 1 va _ _).rd.left, fun R h H => (RdL.ro 1 va _ _).none R h (HP.sep_left H)⟩ rfl hb).weak (fun _ _ h => h) ?_
    rintro v R h ⟨ca, cc', rfl, H⟩
    refine ⟨ca, _, cc', RoB ca (instAt s n).val.length (instAt s n).val, RoB va (instAt s n).val.length (instAt s n).val, MapH InstV iE mi s.inst li ci, rfl, .of fun R h H => ⟨ca, cc', rfl, UD.ofS H⟩, H⟩
end Go.Proofs.YtbmajijnjkicmaaGreatDoor



namespace Go.Proofs.YtbmajijnjkicmaaGreatDoor
open Go.Proofs.YtbmajijnjkicmaaGreatDoor RX

end Go.Proofs.YtbmajijnjkicmaaGreatDoor



namespace Go.Proofs.YtbmajijnjkicmaaGreatDoor
set_option linter.unusedSimpArgs false
set_option linter.unusedVariables false
open Go.Proofs.YtbmajijnjkicmaaGreatDoor RX

def s0 : USt := ⟨0, 0, 0, fun _ => none, fun _ => none⟩
def foldS (s : USt) : List (List UInt8) → Option USt
  | [] => some s
  | b :: r => match followS s b with
    | some s' => foldS s' r
    | none => none
theorem foldS_app (s : USt) : ∀ (l m : List (List UInt8)), foldS s (l ++ m) = (foldS s l).bind fun s' => foldS s' m
  | [], m => rfl
  | b :: r, m => by
    simp only [List.cons_append, foldS]
    cases followS s b with
    | none => rfl
    | some s' => exact foldS_app s' r m
theorem foldS_step {s s1 : USt} {l : List (List UInt8)} (h : foldS s l = some s1) (k : Nat) (b : List UInt8) (hk : l[k]? = some b) : ∃ s2 s3, foldS s (l.take k) = some s2 ∧ followS s2 b = some s3 ∧ foldS s (l.take (k + 1)) = some s3 := by
  obtain ⟨hlt, rfl⟩ := List.getElem?_eq_some_iff.1 hk
  have e : l = l.take (k + 1) ++ l.drop (k + 1) := (List.take_append_drop _ _).symm
  rw [e, foldS_app] at h
  cases h1 : foldS s (l.take (k + 1)) with
  | none => rw [h1] at h; cases h
  | some s3 =>
    have h1' := h1
    rw [List.take_succ_eq_append_getElem hlt, foldS_app] at h1'
    cases h2 : foldS s (l.take k) with
    | none => rw [h2] at h1'; cases h1'
    | some s2 =>
      rw [h2] at h1'
      simp only [Option.bind_some, foldS] at h1'
      split at h1'
      · rename_i s' hs; cases h1'; exact ⟨s2, s3, rfl, hs, rfl⟩
      · cases h1'
theorem triM {f : FuncId} {args : Array Value} {ub bd mc mi : Nat} {D S : HP} {s : USt} {B : Value → HP}
    (t : ∀ lc cc li ci, Tri Tryz.prog f args (HP.sep (UOne ub bd mc mi s) (HP.sep D (HP.sep (MapH CellV iE mc s.cells lc cc) (HP.sep (MapH InstV iE mi s.inst li ci) S)))) B) : Tri Tryz.prog f args (HP.sep (UOne ub bd mc mi s) (HP.sep D (HP.sep (MapE CellV iE mc s.cells) (HP.sep (MapE InstV iE mi s.inst) S)))) B := by
  refine (Tri.ex (A := fun lc => HP.ex fun cc => HP.ex fun li => HP.ex fun ci => HP.sep (UOne ub bd mc mi s) (HP.sep D (HP.sep (MapH CellV iE mc s.cells lc cc) (HP.sep (MapH InstV iE mi s.inst li ci) S)))) fun lc => Tri.ex fun cc => Tri.ex fun li => Tri.ex fun ci => t lc cc li ci).weak ?_ fun _ _ _ h => h
  rintro R h ⟨h1, h2, d, l1, l2, H1, h3, h4, d2, l3, l4, H2, h5, h6, d3, l5, l6, ⟨lc, cc, H3⟩, h7, h8, d4, l7, l8, ⟨li, ci, H4⟩, H5⟩
  exact ⟨lc, cc, li, ci, h1, h2, d, l1, l2, H1, h3, h4, d2, l3, l4, H2, h5, h6, d3, l5, l6, H3, h7, h8, d4, l7, l8, H4, H5⟩
theorem uOpen_ok (bd : Nat) (room : Int) (ps : List Pg) (lasts : Nat) (s1 : USt) (hs : foldS s0 (wholes ps) = some s1) :
    Tri Tryz.prog 27 #[.pointer (some ⟨bd, 0, none⟩)] (DRep bd room ps lasts)
    (fun v => HP.ex fun ub => HP.and (v = .tuple #[.pointer (some ⟨ub, 0, none⟩), .int .i64 0]) (URep ub bd (DRep bd room ps lasts) (forgS s1))) := by
  refine tri_of_tree (ρ := [.n bd, .p (DRep bd room ps lasts)]) mixed Tryz.func27 tree_uOpen ?_
  unfold t_uOpen
  simp only [T.den, E.prop, E.den, RX.look, F1.app, F2.app, Uni.int_i, Uni.nat_n, Uni.bool_c, Uni.str_s, Uni.adr_a, Uni.val_v, Uni.hp_p, hden, cden, V.den, W.den, A.den, BR.den, SA.den, FV.den, capV, exs, exP, allP, Cur.app, List.map_cons, List.map_nil, List.cons_append, List.nil_append, List.drop_succ_cons, List.drop_zero, List.length_cons, List.length_nil, Nat.zero_add, Nat.reduceAdd, Int.neg_neg, Bool.not_not, List.append_nil, Nat.add_zero, List.getElem?_cons_zero, List.getElem?_cons_succ, Decidable.not_not]
  intro mc mi ub
  refine (dPages_ok bd room ps lasts).weak (fun _ _ h => h) ?_
  rintro v R h ⟨a, c, ⟨rfl, hD⟩, h1, h2, dj, l1, l2, HD, xs, ⟨hx1, hx2⟩, HL⟩
  have hall : ∀ (k : Nat) (p : List UInt8), (wholes ps)[k]? = some p → ∃ x, xs[k]? = some x ∧ x.2.1 = p.length ∧ p.length ≤ 140737488355328 := fun k p hp => by
    obtain ⟨x, q1, q2, q3, _⟩ := AllB.get k (HP.sep_right HL) hp
    exact ⟨x, q1, q2, q3⟩
  have hsome : (wholes ps).length ≠ 0 → a.isSome = true := fun hn => OwC.some (HP.sep_left HL) (by omega)
  have hlen : (wholes ps).length ≤ 65536 := by
    have h1 : (wholes ps).length ≤ ps.length := List.length_filterMap_le _ _
    have := hD.2.1
    have := hD.2.2.1
    omega
  generalize hls : wholes ps = ls at *
  refine ⟨a, ls.length, c, HP.sep (OwC 35 1 a ls.length c (xs.map slV)) (AllB xs ls), DRep bd room ps lasts, rfl, ?_, h2, h1, dj.symm, l2, l1, HL, HD⟩
  clear HL HD dj l1 l2
  let J : Value → HP → Int → Int → HP → HP → Nat → Int → Int → Int → Nat → Nat → HP → HP → Prop := fun _ _ _ i Pl D d ep lo tp m1 m2 PI PC => ∃ (k : Nat) (s : USt), i = k ∧ k ≤ ls.length ∧ foldS s0 (ls.take k) = some s ∧ ep = s.epoch ∧ lo = s.low ∧ tp = s.top ∧ m1 = mc ∧ m2 = mi ∧ d = bd ∧
    HP.ent Pl (HP.sep (OwC 35 1 a ls.length c (xs.map slV)) (AllB xs ls)) ∧ HP.ent D (DRep bd room ps lasts) ∧ HP.ent PI (MapE InstV iE mi s.inst) ∧ HP.ent PC (MapE CellV iE mc s.cells)
  refine ⟨J, fun _ _ _ i _ _ _ _ _ _ _ _ _ _ => ls.length - i.toNat, ⟨0, s0, rfl, Nat.zero_le _, rfl, rfl, rfl, rfl, rfl, rfl, rfl, HP.ent.refl _, HP.ent.refl _, .of fun R h H => MapE.new _ _ _ H, .of fun R h H => MapE.new _ _ _ H⟩, ?_⟩
  rintro u0 p0 e0 i Pl D d ep lo tp m1 m2 PI PC ⟨k, s, rfl, hk, hf, rfl, rfl, rfl, rfl, rfl, rfl, hPl, hDD, hPI, hPC⟩
  refine ⟨fun hlt => ⟨by omega, fun _ => ⟨hsome (by omega), fun _ => ?_⟩⟩, fun hge => ?_⟩
  · have hlt' : k < ls.length := by omega
    have hg : ls[k]? = some ls[k] := List.getElem?_eq_getElem hlt'
    obtain ⟨x, hx, x1, x2⟩ := hall k _ hg
    obtain ⟨s2, s3, g1, g2, g3⟩ := foldS_step hs k _ hg
    rw [hf] at g1
    cases g1
    refine ⟨x.1, x.2.1, x.2.2, ?_, ?_⟩
    · rw [semOf_load]
      simp only [T.den, E.prop, E.den, RX.look, F1.app, F2.app, Uni.int_i, Uni.nat_n, Uni.bool_c, Uni.str_s, Uni.adr_a, Uni.val_v, Uni.hp_p, hden, cden, V.den, W.den, A.den, BR.den, SA.den, FV.den, capV, exs, exP, allP, Cur.app, List.map_cons, List.map_nil, List.cons_append, List.nil_append, List.drop_succ_cons, List.drop_zero, List.length_cons, List.length_nil, Nat.zero_add, Nat.reduceAdd, Int.neg_neg, Bool.not_not, List.append_nil, Nat.add_zero, List.getElem?_cons_zero, List.getElem?_cons_succ, Decidable.not_not]
      rw [Int.toNat_natCast]
      exact ORead.ent hPl (load1_ok und8 (by kernel_rfl) (by kernel_rfl) ((OwC.rd 35 1 a ls.length c (xs.map slV)).left (B := AllB xs ls)) (k := k * 1) (off := 0) (v := slV x) (by simp [hx]))
    · refine Tri.pre (A := HP.sep (UOne ub d m1 m2 s) (HP.sep (DRep d room ps lasts) (HP.sep (MapE CellV iE m1 s.cells) (HP.sep (MapE InstV iE m2 s.inst) (HP.sep (OwC 35 1 a ls.length c (xs.map slV)) (AllB xs ls)))))) ?_ ((HP.ent.refl _).sep2 (hDD.sep2 (hPC.sep2 (hPI.sep2 hPl))))
      refine triM fun lc cc li ci => ?_
      refine (uFollow_ok ub d m1 m2 (DRep d room ps lasts) s lc cc li ci x.1 x.2.1 x.2.2 ls[k] (HP.sep (OwC 35 1 a ls.length c (xs.map slV)) (AllB xs ls)) (by
        rw [x1]
        exact RdL.imp fun R h H => by
          obtain ⟨y, q1, q2, q3, q4⟩ := AllB.get k (HP.sep_right H) hg
          rw [hx] at q1
          cases q1
          rw [x1] at q4
          exact q4) x1.symm (by omega)).weak (fun _ _ h => h) ?_
      rintro v R h ⟨rfl, H⟩
      rw [g2] at H
      simp only [Option.getD_some] at H
      refine ⟨true, d, DRep d room ps lasts, s3.epoch, s3.low, s3.top, m1, MapE CellV iE m1 s3.cells, m2, MapE InstV iE m2 s3.inst, HP.sep (OwC 35 1 a ls.length c (xs.map slV)) (AllB xs ls), by rw [g2]; rfl, ⟨fun h => absurd rfl h, fun _ => ⟨inI64 _ (by omega) (by omega), fun _ => ⟨⟨k + 1, s3, by omega, by omega, g3, rfl, rfl, rfl, rfl, rfl, rfl, HP.ent.refl _, HP.ent.refl _, HP.ent.refl _, HP.ent.refl _⟩, by dsimp only; omega⟩⟩⟩, H⟩
  · have hke : k = ls.length := by omega
    subst hke
    rw [List.take_length, hs] at hf
    cases hf
    refine Tri.pre (A := HP.sep (UOne ub d m1 m2 s1) (HP.sep (DRep d room ps lasts) (HP.sep (MapE CellV iE m1 s1.cells) (MapE InstV iE m2 s1.inst)))) ?_ ((HP.ent.refl _).sep2 (hDD.sep2 (hPC.sep2 hPI)))
    refine (Tri.ex (A := fun lc => HP.ex fun cc => HP.sep (UOne ub d m1 m2 s1) (HP.sep (DRep d room ps lasts) (HP.sep (MapH CellV iE m1 s1.cells lc cc) (MapE InstV iE m2 s1.inst)))) fun lc => Tri.ex fun cc => ?_).weak (fun R h ⟨h1, h2, d, l1, l2, H1, h3, h4, d2, l3, l4, H2, h5, h6, d3, l5, l6, ⟨lc, cc, H3⟩, H4⟩ => ⟨lc, cc, h1, h2, d, l1, l2, H1, h3, h4, d2, l3, l4, H2, h5, h6, d3, l5, l6, H3, H4⟩) fun _ _ _ h => h
    refine (uForget_ok ub d m1 m2 _ (MapE InstV iE m2 s1.inst) s1 lc cc).weak (fun _ _ h => h) ?_
    rintro v R h ⟨rfl, H⟩
    refine ⟨d, DRep d room ps lasts, s1.epoch, s1.low, s1.top, m1, MapE CellV iE m1 (forgS s1).cells, m2, MapE InstV iE m2 s1.inst, rfl, .of fun R h H => ⟨ub, rfl, ?_⟩, H⟩
    exact URep.of (s := forgS s1) (mc := m1) (mi := m2) H
end Go.Proofs.YtbmajijnjkicmaaGreatDoor



namespace Go.Proofs.YtbmajijnjkicmaaGreatDoor.RX
set_option maxRecDepth 100000
-- tideline/rpc.Reply: ρ := [.i m_From, .i m_To, .i m_Number, .c m_Reply, .i m_Kind, .i m_Epoch, .i m_At, .i m_Cell_What, .a m_Cell_Dataa, .n m_Cell_Datal, .n m_Cell_Datac, .p m_Cell_DataP, .i m_Ballot_Round, .i m_Ballot_Who, .a m_Valuea, .n m_Valuel, .n m_Valuec, .p m_ValueP, .i m_Err, .i m_Tail, .i m_Low, .i m_Back, .i e]
def t_reply : T :=
(.new
(.new
(.ret (.w (.agg [.int .i64 (.v 1), .int .i64 (.v 0), .int .i64 (.v 2), .bool (.c true), .int .i64 (.v 4), .int .i64 (.v 5), .int .i64 (.v 6), .int .i64 (.i 0), .sl .nil (.n 0) (.n 0), .int .i64 (.i 0), .int .i64 (.i 0), .sl .nil (.n 0) (.n 0), .int .i64 (.v 22), .int .i64 (.i 0), .int .i64 (.i 0), .int .i64 (.i 0)])) [(.a 8, .prop 11), (.a 14, .prop 17)])))
theorem tree_reply : tree Tryz.prog { keep := [22, 59, 105, 56] } Tryz.f56 [.agg [.int .i64 (.v 0), .int .i64 (.v 1), .int .i64 (.v 2), .bool (.v 3), .int .i64 (.v 4), .int .i64 (.v 5), .int .i64 (.v 6), .int .i64 (.v 7), .sl (.v 8) (.v 9) (.v 10), .int .i64 (.v 12), .int .i64 (.v 13), .sl (.v 14) (.v 15) (.v 16), .int .i64 (.v 18), .int .i64 (.v 19), .int .i64 (.v 20), .int .i64 (.v 21)], .a (.int .i64 (.v 22))] [(.a 8, .prop 11), (.a 14, .prop 17)] 23 = t_reply := by kernel_rfl
def t_deeds : T :=
(.new
(.new
(.new
(.new
(.op (.insert 116 (.tmp 7) (.const (.int .i64 1)) (.tmp 8)) 0 [(7, .w (.a (.map (.v 29)))), (8, .w (.a (.func 98 [(.v 26, 0), (.v 27, 0), (.v 28, 0)])))] [(.b (.v 29), .emap), (.b (.v 26), .cells [.ptr (.v 0) 0] 62), (.b (.v 0), .prop 1), (.b (.v 27), .cells [.int .i64 (.v 2), .int .i64 (.v 3), .int .i64 (.v 4), .bool (.v 5), .int .i64 (.v 6), .int .i64 (.v 7), .int .i64 (.v 8), .int .i64 (.v 9), .sl (.v 10) (.v 11) (.v 12), .int .i64 (.v 14), .int .i64 (.v 15), .sl (.v 16) (.v 17) (.v 18), .int .i64 (.v 20), .int .i64 (.v 21), .int .i64 (.v 22), .int .i64 (.v 23)] 41), (.a 10, .prop 13), (.a 16, .prop 19), (.b (.v 28), .cells [.ptr (.v 24) 0] 113), (.b (.v 24), .prop 25)] [.p] (.tup []) [(.b (.v 29), .prop 30)]
(.op (.insert 116 (.tmp 7) (.const (.int .i64 2)) (.tmp 9)) 0 [(7, .w (.a (.map (.v 29)))), (9, .w (.a (.func 99 [(.v 26, 0), (.v 27, 0), (.v 28, 0)])))] [(.b (.v 29), .prop 30)] [.p] (.tup []) [(.b (.v 29), .prop 31)]
(.op (.insert 116 (.tmp 7) (.const (.int .i64 3)) (.tmp 10)) 0 [(7, .w (.a (.map (.v 29)))), (10, .w (.a (.func 101 [(.v 26, 0), (.v 27, 0)])))] [(.b (.v 29), .prop 31)] [.p] (.tup []) [(.b (.v 29), .prop 32)]
(.op (.insert 116 (.tmp 7) (.const (.int .i64 4)) (.tmp 11)) 0 [(7, .w (.a (.map (.v 29)))), (11, .w (.a (.func 103 [(.v 26, 0), (.v 27, 0), (.v 28, 0)])))] [(.b (.v 29), .prop 32)] [.p] (.tup []) [(.b (.v 29), .prop 33)]
(.op (.insert 116 (.tmp 7) (.const (.int .i64 5)) (.tmp 12)) 0 [(7, .w (.a (.map (.v 29)))), (12, .w (.a (.func 106 [(.v 26, 0), (.v 27, 0), (.v 28, 0)])))] [(.b (.v 29), .prop 33)] [.p] (.tup []) [(.b (.v 29), .prop 34)]
(.op (.insert 116 (.tmp 7) (.const (.int .i64 6)) (.tmp 13)) 0 [(7, .w (.a (.map (.v 29)))), (13, .w (.a (.func 107 [(.v 26, 0), (.v 27, 0), (.v 28, 0)])))] [(.b (.v 29), .prop 34)] [.p] (.tup []) [(.b (.v 29), .prop 35)]
(.op (.insert 116 (.tmp 7) (.const (.int .i64 7)) (.tmp 14)) 0 [(7, .w (.a (.map (.v 29)))), (14, .w (.a (.func 109 [(.v 26, 0), (.v 27, 0)])))] [(.b (.v 29), .prop 35)] [.p] (.tup []) [(.b (.v 29), .prop 36)]
(.ret (.w (.a (.map (.v 29)))) [(.b (.v 29), .prop 36)]))))))))))))
theorem tree_deeds : tree Tryz.prog { keep := [22, 59, 105, 56] } Tryz.f58 [.a (.ptr (.v 0) 0), .agg [.int .i64 (.v 2), .int .i64 (.v 3), .int .i64 (.v 4), .bool (.v 5), .int .i64 (.v 6), .int .i64 (.v 7), .int .i64 (.v 8), .int .i64 (.v 9), .sl (.v 10) (.v 11) (.v 12), .int .i64 (.v 14), .int .i64 (.v 15), .sl (.v 16) (.v 17) (.v 18), .int .i64 (.v 20), .int .i64 (.v 21), .int .i64 (.v 22), .int .i64 (.v 23)], .a (.ptr (.v 24) 0)] [(.b (.v 0), .prop 1), (.a 10, .prop 13), (.a 16, .prop 19), (.b (.v 24), .prop 25)] 26 = t_deeds := by kernel_rfl
def t_deed1 : T :=
(.call 20 [.a (.ptr (.v 1) 0), .a (.int .i64 (.v 9)), .a (.int .i64 (.v 10)), .agg [.int .i64 (.v 11), .sl (.v 12) (.v 13) (.v 14)]] [(.b (.v 1), .prop 2), (.a 12, .prop 15)] [.i, .a, .n, .n, .p, .i, .p, .p] (.tup [.agg [.int .i64 (.v 50), .sl (.v 51) (.v 52) (.v 53)], .a (.int .i64 (.v 55))]) [(.a 51, .prop 54), (.b (.v 1), .prop 56), (.a 12, .prop 57)]
(.ret (.w (.a (.int .i64 (.v 55)))) [(.b (.v 0), .cells [.ptr (.v 1) 0] 62), (.b (.v 1), .prop 56), (.b (.v 3), .cells [.int .i64 (.v 4), .int .i64 (.v 5), .int .i64 (.v 6), .bool (.v 7), .int .i64 (.v 8), .int .i64 (.v 9), .int .i64 (.v 10), .int .i64 (.v 11), .sl (.v 12) (.v 13) (.v 14), .int .i64 (.v 16), .int .i64 (.v 17), .sl (.v 18) (.v 19) (.v 20), .int .i64 (.v 22), .int .i64 (.v 23), .int .i64 (.v 24), .int .i64 (.v 25)] 41), (.a 12, .prop 57), (.a 18, .prop 21), (.b (.v 26), .cells [.ptr (.v 27) 0] 113), (.b (.v 27), .cells [.int .i64 (.v 28), .int .i64 (.v 29), .int .i64 (.v 30), .bool (.v 31), .int .i64 (.v 32), .int .i64 (.v 33), .int .i64 (.v 34), .int .i64 (.v 50), .sl (.v 51) (.v 52) (.v 53), .int .i64 (.v 40), .int .i64 (.v 41), .sl (.v 42) (.v 43) (.v 44), .int .i64 (.v 46), .int .i64 (.v 47), .int .i64 (.v 48), .int .i64 (.v 49)] 41), (.a 51, .prop 54), (.a 42, .prop 45), (.a 36, .prop 39)]))
theorem tree_deed1 : tree Tryz.prog { keep := [22, 59, 105, 56] } Tryz.f98 [.a (.ptr (.v 0) 0), .a (.ptr (.v 3) 0), .a (.ptr (.v 26) 0)] [(.b (.v 0), .cells [.ptr (.v 1) 0] 62), (.b (.v 1), .prop 2), (.b (.v 3), .cells [.int .i64 (.v 4), .int .i64 (.v 5), .int .i64 (.v 6), .bool (.v 7), .int .i64 (.v 8), .int .i64 (.v 9), .int .i64 (.v 10), .int .i64 (.v 11), .sl (.v 12) (.v 13) (.v 14), .int .i64 (.v 16), .int .i64 (.v 17), .sl (.v 18) (.v 19) (.v 20), .int .i64 (.v 22), .int .i64 (.v 23), .int .i64 (.v 24), .int .i64 (.v 25)] 41), (.a 12, .prop 15), (.a 18, .prop 21), (.b (.v 26), .cells [.ptr (.v 27) 0] 113), (.b (.v 27), .cells [.int .i64 (.v 28), .int .i64 (.v 29), .int .i64 (.v 30), .bool (.v 31), .int .i64 (.v 32), .int .i64 (.v 33), .int .i64 (.v 34), .int .i64 (.v 35), .sl (.v 36) (.v 37) (.v 38), .int .i64 (.v 40), .int .i64 (.v 41), .sl (.v 42) (.v 43) (.v 44), .int .i64 (.v 46), .int .i64 (.v 47), .int .i64 (.v 48), .int .i64 (.v 49)] 41), (.a 36, .prop 39), (.a 42, .prop 45)] 50 = t_deed1 := by kernel_rfl
def t_deed2 : T :=
(.call 100 [.a (.ptr (.v 1) 0), .a (.int .i64 (.v 9)), .a (.int .i64 (.v 10))] [(.b (.v 1), .prop 2)] [.i, .a, .n, .n, .p, .i, .p] (.tup [.agg [.int .i64 (.v 50), .sl (.v 51) (.v 52) (.v 53)], .a (.int .i64 (.v 55))]) [(.a 51, .prop 54), (.b (.v 1), .prop 56)]
(.ret (.w (.a (.int .i64 (.v 55)))) [(.b (.v 0), .cells [.ptr (.v 1) 0] 62), (.b (.v 1), .prop 56), (.b (.v 3), .cells [.int .i64 (.v 4), .int .i64 (.v 5), .int .i64 (.v 6), .bool (.v 7), .int .i64 (.v 8), .int .i64 (.v 9), .int .i64 (.v 10), .int .i64 (.v 11), .sl (.v 12) (.v 13) (.v 14), .int .i64 (.v 16), .int .i64 (.v 17), .sl (.v 18) (.v 19) (.v 20), .int .i64 (.v 22), .int .i64 (.v 23), .int .i64 (.v 24), .int .i64 (.v 25)] 41), (.a 12, .prop 15), (.a 18, .prop 21), (.b (.v 26), .cells [.ptr (.v 27) 0] 113), (.b (.v 27), .cells [.int .i64 (.v 28), .int .i64 (.v 29), .int .i64 (.v 30), .bool (.v 31), .int .i64 (.v 32), .int .i64 (.v 33), .int .i64 (.v 34), .int .i64 (.v 50), .sl (.v 51) (.v 52) (.v 53), .int .i64 (.v 40), .int .i64 (.v 41), .sl (.v 42) (.v 43) (.v 44), .int .i64 (.v 46), .int .i64 (.v 47), .int .i64 (.v 48), .int .i64 (.v 49)] 41), (.a 51, .prop 54), (.a 42, .prop 45), (.a 36, .prop 39)]))
theorem tree_deed2 : tree Tryz.prog { keep := [22, 59, 105, 56] } Tryz.f99 [.a (.ptr (.v 0) 0), .a (.ptr (.v 3) 0), .a (.ptr (.v 26) 0)] [(.b (.v 0), .cells [.ptr (.v 1) 0] 62), (.b (.v 1), .prop 2), (.b (.v 3), .cells [.int .i64 (.v 4), .int .i64 (.v 5), .int .i64 (.v 6), .bool (.v 7), .int .i64 (.v 8), .int .i64 (.v 9), .int .i64 (.v 10), .int .i64 (.v 11), .sl (.v 12) (.v 13) (.v 14), .int .i64 (.v 16), .int .i64 (.v 17), .sl (.v 18) (.v 19) (.v 20), .int .i64 (.v 22), .int .i64 (.v 23), .int .i64 (.v 24), .int .i64 (.v 25)] 41), (.a 12, .prop 15), (.a 18, .prop 21), (.b (.v 26), .cells [.ptr (.v 27) 0] 113), (.b (.v 27), .cells [.int .i64 (.v 28), .int .i64 (.v 29), .int .i64 (.v 30), .bool (.v 31), .int .i64 (.v 32), .int .i64 (.v 33), .int .i64 (.v 34), .int .i64 (.v 35), .sl (.v 36) (.v 37) (.v 38), .int .i64 (.v 40), .int .i64 (.v 41), .sl (.v 42) (.v 43) (.v 44), .int .i64 (.v 46), .int .i64 (.v 47), .int .i64 (.v 48), .int .i64 (.v 49)] 41), (.a 36, .prop 39), (.a 42, .prop 45)] 50 = t_deed2 := by kernel_rfl
def t_deed3 : T :=
(.call 102 [.a (.ptr (.v 1) 0), .a (.int .i64 (.v 9)), .a (.int .i64 (.v 10))] [(.b (.v 1), .prop 2)] [.i, .p] (.w (.a (.int .i64 (.v 26)))) [(.b (.v 1), .prop 27)]
(.ret (.w (.a (.int .i64 (.v 26)))) [(.b (.v 0), .cells [.ptr (.v 1) 0] 62), (.b (.v 1), .prop 27), (.b (.v 3), .cells [.int .i64 (.v 4), .int .i64 (.v 5), .int .i64 (.v 6), .bool (.v 7), .int .i64 (.v 8), .int .i64 (.v 9), .int .i64 (.v 10), .int .i64 (.v 11), .sl (.v 12) (.v 13) (.v 14), .int .i64 (.v 16), .int .i64 (.v 17), .sl (.v 18) (.v 19) (.v 20), .int .i64 (.v 22), .int .i64 (.v 23), .int .i64 (.v 24), .int .i64 (.v 25)] 41), (.a 12, .prop 15), (.a 18, .prop 21)]))
theorem tree_deed3 : tree Tryz.prog { keep := [22, 59, 105, 56] } Tryz.f101 [.a (.ptr (.v 0) 0), .a (.ptr (.v 3) 0)] [(.b (.v 0), .cells [.ptr (.v 1) 0] 62), (.b (.v 1), .prop 2), (.b (.v 3), .cells [.int .i64 (.v 4), .int .i64 (.v 5), .int .i64 (.v 6), .bool (.v 7), .int .i64 (.v 8), .int .i64 (.v 9), .int .i64 (.v 10), .int .i64 (.v 11), .sl (.v 12) (.v 13) (.v 14), .int .i64 (.v 16), .int .i64 (.v 17), .sl (.v 18) (.v 19) (.v 20), .int .i64 (.v 22), .int .i64 (.v 23), .int .i64 (.v 24), .int .i64 (.v 25)] 41), (.a 12, .prop 15), (.a 18, .prop 21)] 26 = t_deed3 := by kernel_rfl
def t_deed4 : T :=
(.call 22 [.a (.ptr (.v 1) 0)] [(.b (.v 1), .prop 2)] [.i] (.w (.a (.int .i64 (.v 50)))) [(.b (.v 1), .prop 2)]
(.br (.o1 .not (.o2 .eq (.v 50) (.v 9)))
(.call 104 [.a (.ptr (.v 1) 0), .a (.int .i64 (.v 9))] [(.b (.v 1), .prop 2)] [.i, .p] (.w (.a (.int .i64 (.v 51)))) [(.b (.v 1), .prop 52)]
(.br (.o1 .not (.o2 .eq (.v 51) (.i 0)))
(.ret (.w (.a (.int .i64 (.v 51)))) [(.b (.v 0), .cells [.ptr (.v 1) 0] 62), (.b (.v 1), .prop 52), (.b (.v 3), .cells [.int .i64 (.v 4), .int .i64 (.v 5), .int .i64 (.v 6), .bool (.v 7), .int .i64 (.v 8), .int .i64 (.v 9), .int .i64 (.v 10), .int .i64 (.v 11), .sl (.v 12) (.v 13) (.v 14), .int .i64 (.v 16), .int .i64 (.v 17), .sl (.v 18) (.v 19) (.v 20), .int .i64 (.v 22), .int .i64 (.v 23), .int .i64 (.v 24), .int .i64 (.v 25)] 41), (.a 12, .prop 15), (.a 18, .prop 21), (.b (.v 26), .cells [.ptr (.v 27) 0] 113), (.b (.v 27), .cells [.int .i64 (.v 28), .int .i64 (.v 29), .int .i64 (.v 30), .bool (.v 31), .int .i64 (.v 32), .int .i64 (.v 33), .int .i64 (.v 34), .int .i64 (.v 35), .sl (.v 36) (.v 37) (.v 38), .int .i64 (.v 40), .int .i64 (.v 41), .sl (.v 42) (.v 43) (.v 44), .int .i64 (.v 46), .int .i64 (.v 47), .int .i64 (.v 48), .int .i64 (.v 49)] 41), (.a 36, .prop 39), (.a 42, .prop 45)])
(.call 105 [.a (.ptr (.v 1) 0)] [(.b (.v 1), .prop 52)] [.i] (.w (.a (.int .i64 (.v 53)))) [(.b (.v 1), .prop 52)]
(.ret (.w (.a (.int .i64 (.i 0)))) [(.b (.v 0), .cells [.ptr (.v 1) 0] 62), (.b (.v 1), .prop 52), (.b (.v 3), .cells [.int .i64 (.v 4), .int .i64 (.v 5), .int .i64 (.v 6), .bool (.v 7), .int .i64 (.v 8), .int .i64 (.v 9), .int .i64 (.v 10), .int .i64 (.v 11), .sl (.v 12) (.v 13) (.v 14), .int .i64 (.v 16), .int .i64 (.v 17), .sl (.v 18) (.v 19) (.v 20), .int .i64 (.v 22), .int .i64 (.v 23), .int .i64 (.v 24), .int .i64 (.v 25)] 41), (.a 12, .prop 15), (.a 18, .prop 21), (.b (.v 26), .cells [.ptr (.v 27) 0] 113), (.b (.v 27), .cells [.int .i64 (.v 28), .int .i64 (.v 29), .int .i64 (.v 30), .bool (.v 31), .int .i64 (.v 32), .int .i64 (.v 33), .int .i64 (.v 34), .int .i64 (.v 35), .sl (.v 36) (.v 37) (.v 38), .int .i64 (.v 40), .int .i64 (.v 41), .sl (.v 42) (.v 43) (.v 44), .int .i64 (.v 46), .int .i64 (.v 53), .int .i64 (.v 48), .int .i64 (.v 49)] 41), (.a 36, .prop 39), (.a 42, .prop 45)]))))
(.call 105 [.a (.ptr (.v 1) 0)] [(.b (.v 1), .prop 2)] [.i] (.w (.a (.int .i64 (.v 51)))) [(.b (.v 1), .prop 2)]
(.ret (.w (.a (.int .i64 (.i 0)))) [(.b (.v 0), .cells [.ptr (.v 1) 0] 62), (.b (.v 1), .prop 2), (.b (.v 3), .cells [.int .i64 (.v 4), .int .i64 (.v 5), .int .i64 (.v 6), .bool (.v 7), .int .i64 (.v 8), .int .i64 (.v 9), .int .i64 (.v 10), .int .i64 (.v 11), .sl (.v 12) (.v 13) (.v 14), .int .i64 (.v 16), .int .i64 (.v 17), .sl (.v 18) (.v 19) (.v 20), .int .i64 (.v 22), .int .i64 (.v 23), .int .i64 (.v 24), .int .i64 (.v 25)] 41), (.a 12, .prop 15), (.a 18, .prop 21), (.b (.v 26), .cells [.ptr (.v 27) 0] 113), (.b (.v 27), .cells [.int .i64 (.v 28), .int .i64 (.v 29), .int .i64 (.v 30), .bool (.v 31), .int .i64 (.v 32), .int .i64 (.v 33), .int .i64 (.v 34), .int .i64 (.v 35), .sl (.v 36) (.v 37) (.v 38), .int .i64 (.v 40), .int .i64 (.v 41), .sl (.v 42) (.v 43) (.v 44), .int .i64 (.v 46), .int .i64 (.v 51), .int .i64 (.v 48), .int .i64 (.v 49)] 41), (.a 36, .prop 39), (.a 42, .prop 45)]))))
theorem tree_deed4 : tree Tryz.prog { keep := [22, 59, 105, 56] } Tryz.f103 [.a (.ptr (.v 0) 0), .a (.ptr (.v 3) 0), .a (.ptr (.v 26) 0)] [(.b (.v 0), .cells [.ptr (.v 1) 0] 62), (.b (.v 1), .prop 2), (.b (.v 3), .cells [.int .i64 (.v 4), .int .i64 (.v 5), .int .i64 (.v 6), .bool (.v 7), .int .i64 (.v 8), .int .i64 (.v 9), .int .i64 (.v 10), .int .i64 (.v 11), .sl (.v 12) (.v 13) (.v 14), .int .i64 (.v 16), .int .i64 (.v 17), .sl (.v 18) (.v 19) (.v 20), .int .i64 (.v 22), .int .i64 (.v 23), .int .i64 (.v 24), .int .i64 (.v 25)] 41), (.a 12, .prop 15), (.a 18, .prop 21), (.b (.v 26), .cells [.ptr (.v 27) 0] 113), (.b (.v 27), .cells [.int .i64 (.v 28), .int .i64 (.v 29), .int .i64 (.v 30), .bool (.v 31), .int .i64 (.v 32), .int .i64 (.v 33), .int .i64 (.v 34), .int .i64 (.v 35), .sl (.v 36) (.v 37) (.v 38), .int .i64 (.v 40), .int .i64 (.v 41), .sl (.v 42) (.v 43) (.v 44), .int .i64 (.v 46), .int .i64 (.v 47), .int .i64 (.v 48), .int .i64 (.v 49)] 41), (.a 36, .prop 39), (.a 42, .prop 45)] 50 = t_deed4 := by kernel_rfl
def t_deed5 : T :=
(.call 22 [.a (.ptr (.v 1) 0)] [(.b (.v 1), .prop 2)] [.i] (.w (.a (.int .i64 (.v 50)))) [(.b (.v 1), .prop 2)]
(.br (.o1 .not (.o2 .eq (.v 50) (.v 9)))
(.ret (.w (.a (.int .i64 (.i 8)))) [(.b (.v 0), .cells [.ptr (.v 1) 0] 62), (.b (.v 1), .prop 2), (.b (.v 3), .cells [.int .i64 (.v 4), .int .i64 (.v 5), .int .i64 (.v 6), .bool (.v 7), .int .i64 (.v 8), .int .i64 (.v 9), .int .i64 (.v 10), .int .i64 (.v 11), .sl (.v 12) (.v 13) (.v 14), .int .i64 (.v 16), .int .i64 (.v 17), .sl (.v 18) (.v 19) (.v 20), .int .i64 (.v 22), .int .i64 (.v 23), .int .i64 (.v 24), .int .i64 (.v 25)] 41), (.a 12, .prop 15), (.a 18, .prop 21), (.b (.v 26), .cells [.ptr (.v 27) 0] 113), (.b (.v 27), .cells [.int .i64 (.v 28), .int .i64 (.v 29), .int .i64 (.v 30), .bool (.v 31), .int .i64 (.v 32), .int .i64 (.v 33), .int .i64 (.v 34), .int .i64 (.v 35), .sl (.v 36) (.v 37) (.v 38), .int .i64 (.v 40), .int .i64 (.v 41), .sl (.v 42) (.v 43) (.v 44), .int .i64 (.v 46), .int .i64 (.v 47), .int .i64 (.v 48), .int .i64 (.v 49)] 41), (.a 36, .prop 39), (.a 42, .prop 45)])
(.call 105 [.a (.ptr (.v 1) 0)] [(.b (.v 1), .prop 2)] [.i] (.w (.a (.int .i64 (.v 51)))) [(.b (.v 1), .prop 2)]
(.ret (.w (.a (.int .i64 (.i 0)))) [(.b (.v 0), .cells [.ptr (.v 1) 0] 62), (.b (.v 1), .prop 2), (.b (.v 3), .cells [.int .i64 (.v 4), .int .i64 (.v 5), .int .i64 (.v 6), .bool (.v 7), .int .i64 (.v 8), .int .i64 (.v 9), .int .i64 (.v 10), .int .i64 (.v 11), .sl (.v 12) (.v 13) (.v 14), .int .i64 (.v 16), .int .i64 (.v 17), .sl (.v 18) (.v 19) (.v 20), .int .i64 (.v 22), .int .i64 (.v 23), .int .i64 (.v 24), .int .i64 (.v 25)] 41), (.a 12, .prop 15), (.a 18, .prop 21), (.b (.v 26), .cells [.ptr (.v 27) 0] 113), (.b (.v 27), .cells [.int .i64 (.v 28), .int .i64 (.v 29), .int .i64 (.v 30), .bool (.v 31), .int .i64 (.v 32), .int .i64 (.v 33), .int .i64 (.v 34), .int .i64 (.v 35), .sl (.v 36) (.v 37) (.v 38), .int .i64 (.v 40), .int .i64 (.v 41), .sl (.v 42) (.v 43) (.v 44), .int .i64 (.v 46), .int .i64 (.v 51), .int .i64 (.v 48), .int .i64 (.v 49)] 41), (.a 36, .prop 39), (.a 42, .prop 45)]))))
theorem tree_deed5 : tree Tryz.prog { keep := [22, 59, 105, 56] } Tryz.f106 [.a (.ptr (.v 0) 0), .a (.ptr (.v 3) 0), .a (.ptr (.v 26) 0)] [(.b (.v 0), .cells [.ptr (.v 1) 0] 62), (.b (.v 1), .prop 2), (.b (.v 3), .cells [.int .i64 (.v 4), .int .i64 (.v 5), .int .i64 (.v 6), .bool (.v 7), .int .i64 (.v 8), .int .i64 (.v 9), .int .i64 (.v 10), .int .i64 (.v 11), .sl (.v 12) (.v 13) (.v 14), .int .i64 (.v 16), .int .i64 (.v 17), .sl (.v 18) (.v 19) (.v 20), .int .i64 (.v 22), .int .i64 (.v 23), .int .i64 (.v 24), .int .i64 (.v 25)] 41), (.a 12, .prop 15), (.a 18, .prop 21), (.b (.v 26), .cells [.ptr (.v 27) 0] 113), (.b (.v 27), .cells [.int .i64 (.v 28), .int .i64 (.v 29), .int .i64 (.v 30), .bool (.v 31), .int .i64 (.v 32), .int .i64 (.v 33), .int .i64 (.v 34), .int .i64 (.v 35), .sl (.v 36) (.v 37) (.v 38), .int .i64 (.v 40), .int .i64 (.v 41), .sl (.v 42) (.v 43) (.v 44), .int .i64 (.v 46), .int .i64 (.v 47), .int .i64 (.v 48), .int .i64 (.v 49)] 41), (.a 36, .prop 39), (.a 42, .prop 45)] 50 = t_deed5 := by kernel_rfl
def t_deed6 : T :=
(.call 108 [.a (.ptr (.v 1) 0), .a (.int .i64 (.v 10)), .agg [.int .i64 (.v 16), .int .i64 (.v 17)]] [(.b (.v 1), .prop 2)] [.i, .i, .a, .n, .n, .p, .i, .p] (.tup [.agg [.int .i64 (.v 50), .int .i64 (.v 51)], .a (.sl (.v 52) (.v 53) (.v 54)), .a (.int .i64 (.v 56))]) [(.a 52, .prop 55), (.b (.v 1), .prop 57)]
(.ret (.w (.a (.int .i64 (.v 56)))) [(.b (.v 0), .cells [.ptr (.v 1) 0] 62), (.b (.v 1), .prop 57), (.b (.v 3), .cells [.int .i64 (.v 4), .int .i64 (.v 5), .int .i64 (.v 6), .bool (.v 7), .int .i64 (.v 8), .int .i64 (.v 9), .int .i64 (.v 10), .int .i64 (.v 11), .sl (.v 12) (.v 13) (.v 14), .int .i64 (.v 16), .int .i64 (.v 17), .sl (.v 18) (.v 19) (.v 20), .int .i64 (.v 22), .int .i64 (.v 23), .int .i64 (.v 24), .int .i64 (.v 25)] 41), (.a 12, .prop 15), (.a 18, .prop 21), (.b (.v 26), .cells [.ptr (.v 27) 0] 113), (.b (.v 27), .cells [.int .i64 (.v 28), .int .i64 (.v 29), .int .i64 (.v 30), .bool (.v 31), .int .i64 (.v 32), .int .i64 (.v 33), .int .i64 (.v 34), .int .i64 (.v 35), .sl (.v 36) (.v 37) (.v 38), .int .i64 (.v 50), .int .i64 (.v 51), .sl (.v 52) (.v 53) (.v 54), .int .i64 (.v 46), .int .i64 (.v 47), .int .i64 (.v 48), .int .i64 (.v 49)] 41), (.a 36, .prop 39), (.a 52, .prop 55), (.a 42, .prop 45)]))
theorem tree_deed6 : tree Tryz.prog { keep := [22, 59, 105, 56] } Tryz.f107 [.a (.ptr (.v 0) 0), .a (.ptr (.v 3) 0), .a (.ptr (.v 26) 0)] [(.b (.v 0), .cells [.ptr (.v 1) 0] 62), (.b (.v 1), .prop 2), (.b (.v 3), .cells [.int .i64 (.v 4), .int .i64 (.v 5), .int .i64 (.v 6), .bool (.v 7), .int .i64 (.v 8), .int .i64 (.v 9), .int .i64 (.v 10), .int .i64 (.v 11), .sl (.v 12) (.v 13) (.v 14), .int .i64 (.v 16), .int .i64 (.v 17), .sl (.v 18) (.v 19) (.v 20), .int .i64 (.v 22), .int .i64 (.v 23), .int .i64 (.v 24), .int .i64 (.v 25)] 41), (.a 12, .prop 15), (.a 18, .prop 21), (.b (.v 26), .cells [.ptr (.v 27) 0] 113), (.b (.v 27), .cells [.int .i64 (.v 28), .int .i64 (.v 29), .int .i64 (.v 30), .bool (.v 31), .int .i64 (.v 32), .int .i64 (.v 33), .int .i64 (.v 34), .int .i64 (.v 35), .sl (.v 36) (.v 37) (.v 38), .int .i64 (.v 40), .int .i64 (.v 41), .sl (.v 42) (.v 43) (.v 44), .int .i64 (.v 46), .int .i64 (.v 47), .int .i64 (.v 48), .int .i64 (.v 49)] 41), (.a 36, .prop 39), (.a 42, .prop 45)] 50 = t_deed6 := by kernel_rfl
def t_deed7 : T :=
(.call 110 [.a (.ptr (.v 1) 0), .a (.int .i64 (.v 10)), .agg [.int .i64 (.v 16), .int .i64 (.v 17)], .a (.sl (.v 18) (.v 19) (.v 20))] [(.b (.v 1), .prop 2), (.a 18, .prop 21)] [.i, .p, .p] (.w (.a (.int .i64 (.v 26)))) [(.b (.v 1), .prop 27), (.a 18, .prop 28)]
(.ret (.w (.a (.int .i64 (.v 26)))) [(.b (.v 0), .cells [.ptr (.v 1) 0] 62), (.b (.v 1), .prop 27), (.b (.v 3), .cells [.int .i64 (.v 4), .int .i64 (.v 5), .int .i64 (.v 6), .bool (.v 7), .int .i64 (.v 8), .int .i64 (.v 9), .int .i64 (.v 10), .int .i64 (.v 11), .sl (.v 12) (.v 13) (.v 14), .int .i64 (.v 16), .int .i64 (.v 17), .sl (.v 18) (.v 19) (.v 20), .int .i64 (.v 22), .int .i64 (.v 23), .int .i64 (.v 24), .int .i64 (.v 25)] 41), (.a 12, .prop 15), (.a 18, .prop 28)]))
theorem tree_deed7 : tree Tryz.prog { keep := [22, 59, 105, 56] } Tryz.f109 [.a (.ptr (.v 0) 0), .a (.ptr (.v 3) 0)] [(.b (.v 0), .cells [.ptr (.v 1) 0] 62), (.b (.v 1), .prop 2), (.b (.v 3), .cells [.int .i64 (.v 4), .int .i64 (.v 5), .int .i64 (.v 6), .bool (.v 7), .int .i64 (.v 8), .int .i64 (.v 9), .int .i64 (.v 10), .int .i64 (.v 11), .sl (.v 12) (.v 13) (.v 14), .int .i64 (.v 16), .int .i64 (.v 17), .sl (.v 18) (.v 19) (.v 20), .int .i64 (.v 22), .int .i64 (.v 23), .int .i64 (.v 24), .int .i64 (.v 25)] 41), (.a 12, .prop 15), (.a 18, .prop 21)] 26 = t_deed7 := by kernel_rfl
def t_answer : T :=
(.new
(.new
(.call 56 [.agg [.int .i64 (.v 2), .int .i64 (.v 3), .int .i64 (.v 4), .bool (.v 5), .int .i64 (.v 6), .int .i64 (.v 7), .int .i64 (.v 8), .int .i64 (.v 9), .sl (.v 10) (.v 11) (.v 12), .int .i64 (.v 14), .int .i64 (.v 15), .sl (.v 16) (.v 17) (.v 18), .int .i64 (.v 20), .int .i64 (.v 21), .int .i64 (.v 22), .int .i64 (.v 23)], .a (.int .i64 (.i 0))] [(.a 10, .prop 13), (.a 16, .prop 19)] [.i, .i, .i, .c, .i, .i, .i, .i, .a, .n, .n, .p, .i, .i, .a, .n, .n, .p, .i, .i, .i, .i] (.w (.agg [.int .i64 (.v 26), .int .i64 (.v 27), .int .i64 (.v 28), .bool (.v 29), .int .i64 (.v 30), .int .i64 (.v 31), .int .i64 (.v 32), .int .i64 (.v 33), .sl (.v 34) (.v 35) (.v 36), .int .i64 (.v 38), .int .i64 (.v 39), .sl (.v 40) (.v 41) (.v 42), .int .i64 (.v 44), .int .i64 (.v 45), .int .i64 (.v 46), .int .i64 (.v 47)])) [(.a 34, .prop 37), (.a 40, .prop 43), (.a 10, .prop 13), (.a 16, .prop 19)]
(.new
(.call 58 [.a (.ptr (.v 0) 0), .agg [.int .i64 (.v 2), .int .i64 (.v 3), .int .i64 (.v 4), .bool (.v 5), .int .i64 (.v 6), .int .i64 (.v 7), .int .i64 (.v 8), .int .i64 (.v 9), .sl (.v 10) (.v 11) (.v 12), .int .i64 (.v 14), .int .i64 (.v 15), .sl (.v 16) (.v 17) (.v 18), .int .i64 (.v 20), .int .i64 (.v 21), .int .i64 (.v 22), .int .i64 (.v 23)], .a (.ptr (.v 48) 0)] [(.b (.v 0), .prop 1), (.a 10, .prop 13), (.a 16, .prop 19), (.b (.v 48), .cells [.int .i64 (.v 26), .int .i64 (.v 27), .int .i64 (.v 28), .bool (.v 29), .int .i64 (.v 30), .int .i64 (.v 31), .int .i64 (.v 32), .int .i64 (.v 33), .sl (.v 34) (.v 35) (.v 36), .int .i64 (.v 38), .int .i64 (.v 39), .sl (.v 40) (.v 41) (.v 42), .int .i64 (.v 44), .int .i64 (.v 45), .int .i64 (.v 46), .int .i64 (.v 47)] 41), (.a 34, .prop 37), (.a 40, .prop 43)] [.n, .p, .p, .p, .p, .i, .i, .i, .c, .i, .i, .i, .i, .a, .n, .n, .p, .i, .i, .a, .n, .n, .p, .i, .i, .i, .i] (.w (.a (.map (.v 49)))) [(.b (.v 49), .prop 50), (.b (.v 0), .prop 51), (.a 10, .prop 52), (.a 16, .prop 53), (.b (.v 48), .cells [.int .i64 (.v 54), .int .i64 (.v 55), .int .i64 (.v 56), .bool (.v 57), .int .i64 (.v 58), .int .i64 (.v 59), .int .i64 (.v 60), .int .i64 (.v 61), .sl (.v 62) (.v 63) (.v 64), .int .i64 (.v 66), .int .i64 (.v 67), .sl (.v 68) (.v 69) (.v 70), .int .i64 (.v 72), .int .i64 (.v 73), .int .i64 (.v 74), .int .i64 (.v 75)] 41), (.a 62, .prop 65), (.a 68, .prop 71)]
(.read (.lookup 116 (.tmp 14) (.tmp 16) true) 115 [(14, .w (.a (.map (.v 49)))), (16, .w (.a (.int .i64 (.v 6))))] [(.b (.v 49), .prop 50)] [.v, .c] (.tup [.a (.val 76), .a (.bool (.v 77))])
(.br (.v 5)
(.ret (.tup [.agg [.int .i64 (.i 0), .int .i64 (.i 0), .int .i64 (.i 0), .bool (.c false), .int .i64 (.i 0), .int .i64 (.i 0), .int .i64 (.i 0), .int .i64 (.i 0), .sl .nil (.n 0) (.n 0), .int .i64 (.i 0), .int .i64 (.i 0), .sl .nil (.n 0) (.n 0), .int .i64 (.i 0), .int .i64 (.i 0), .int .i64 (.i 0), .int .i64 (.i 0)], .a (.bool (.c false))]) [(.b (.v 0), .prop 51), (.a 10, .prop 52), (.a 16, .prop 53)])
(.br (.o1 .not (.v 77))
(.ret (.tup [.agg [.int .i64 (.i 0), .int .i64 (.i 0), .int .i64 (.i 0), .bool (.c false), .int .i64 (.i 0), .int .i64 (.i 0), .int .i64 (.i 0), .int .i64 (.i 0), .sl .nil (.n 0) (.n 0), .int .i64 (.i 0), .int .i64 (.i 0), .sl .nil (.n 0) (.n 0), .int .i64 (.i 0), .int .i64 (.i 0), .int .i64 (.i 0), .int .i64 (.i 0)], .a (.bool (.c false))]) [(.b (.v 0), .prop 51), (.a 10, .prop 52), (.a 16, .prop 53)])
  (.callv 76 [] [(.b (.v 49), .prop 50), (.b (.v 0), .prop 51), (.b (.v 48), .cells [.int .i64 (.v 54), .int .i64 (.v 55), .int .i64 (.v 56), .bool (.v 57), .int .i64 (.v 58), .int .i64 (.v 59), .int .i64 (.v 60), .int .i64 (.v 61), .sl (.v 62) (.v 63) (.v 64), .int .i64 (.v 66), .int .i64 (.v 67), .sl (.v 68) (.v 69) (.v 70), .int .i64 (.v 72), .int .i64 (.v 73), .int .i64 (.v 74), .int .i64 (.v 75)] 41), (.a 62, .prop 65), (.a 68, .prop 71)] [.i, .p, .i, .i, .i, .c, .i, .i, .i, .i, .a, .n, .n, .p, .i, .i, .a, .n, .n, .p, .i, .i, .i, .i] (.w (.a (.int .i64 (.v 78)))) [(.b (.v 0), .prop 79), (.b (.v 48), .cells [.int .i64 (.v 80), .int .i64 (.v 81), .int .i64 (.v 82), .bool (.v 83), .int .i64 (.v 84), .int .i64 (.v 85), .int .i64 (.v 86), .int .i64 (.v 87), .sl (.v 88) (.v 89) (.v 90), .int .i64 (.v 92), .int .i64 (.v 93), .sl (.v 94) (.v 95) (.v 96), .int .i64 (.v 98), .int .i64 (.v 99), .int .i64 (.v 100), .int .i64 (.v 101)] 41), (.a 88, .prop 91), (.a 94, .prop 97), (.b (.v 49), .prop 50), (.a 62, .prop 65), (.a 68, .prop 71)]
(.br (.o1 .not (.o2 .eq (.v 78) (.i 0)))
(.br (.o1 .not (.o2 .eq (.v 78) (.i 10)))
(.call 59 [.a (.ptr (.v 0) 0)] [(.b (.v 0), .prop 79)] [.i] (.w (.a (.int .i64 (.v 102)))) [(.b (.v 0), .prop 79)]
(.call 22 [.a (.ptr (.v 0) 0)] [(.b (.v 0), .prop 79)] [.i] (.w (.a (.int .i64 (.v 103)))) [(.b (.v 0), .prop 79)]
(.ret (.tup [.agg [.int .i64 (.v 80), .int .i64 (.v 81), .int .i64 (.v 82), .bool (.v 83), .int .i64 (.v 84), .int .i64 (.v 85), .int .i64 (.v 86), .int .i64 (.i 0), .sl .nil (.n 0) (.n 0), .int .i64 (.i 0), .int .i64 (.i 0), .sl .nil (.n 0) (.n 0), .int .i64 (.v 78), .int .i64 (.i 0), .int .i64 (.v 102), .int .i64 (.v 103)], .a (.bool (.c true))]) [(.b (.v 0), .prop 79), (.a 10, .prop 52), (.a 16, .prop 53)])))
(.call 59 [.a (.ptr (.v 0) 0)] [(.b (.v 0), .prop 79)] [.i] (.w (.a (.int .i64 (.v 102)))) [(.b (.v 0), .prop 79)]
(.call 22 [.a (.ptr (.v 0) 0)] [(.b (.v 0), .prop 79)] [.i] (.w (.a (.int .i64 (.v 103)))) [(.b (.v 0), .prop 79)]
(.ret (.tup [.agg [.int .i64 (.v 80), .int .i64 (.v 81), .int .i64 (.v 82), .bool (.v 83), .int .i64 (.v 84), .int .i64 (.v 85), .int .i64 (.v 86), .int .i64 (.v 87), .sl (.v 88) (.v 89) (.v 90), .int .i64 (.i 0), .int .i64 (.i 0), .sl .nil (.n 0) (.n 0), .int .i64 (.v 78), .int .i64 (.i 0), .int .i64 (.v 102), .int .i64 (.v 103)], .a (.bool (.c true))]) [(.b (.v 0), .prop 79), (.a 10, .prop 52), (.a 16, .prop 53), (.a 88, .prop 91)]))))
(.call 59 [.a (.ptr (.v 0) 0)] [(.b (.v 0), .prop 79)] [.i] (.w (.a (.int .i64 (.v 102)))) [(.b (.v 0), .prop 79)]
(.call 22 [.a (.ptr (.v 0) 0)] [(.b (.v 0), .prop 79)] [.i] (.w (.a (.int .i64 (.v 103)))) [(.b (.v 0), .prop 79)]
(.ret (.tup [.agg [.int .i64 (.v 80), .int .i64 (.v 81), .int .i64 (.v 82), .bool (.v 83), .int .i64 (.v 84), .int .i64 (.v 85), .int .i64 (.v 86), .int .i64 (.v 87), .sl (.v 88) (.v 89) (.v 90), .int .i64 (.v 92), .int .i64 (.v 93), .sl (.v 94) (.v 95) (.v 96), .int .i64 (.v 78), .int .i64 (.v 99), .int .i64 (.v 102), .int .i64 (.v 103)], .a (.bool (.c true))]) [(.b (.v 0), .prop 79), (.a 10, .prop 52), (.a 16, .prop 53), (.a 88, .prop 91), (.a 94, .prop 97)])))))))))))))
theorem tree_answer : tree Tryz.prog { keep := [22, 59, 105, 56], vt := [.b (.v 0), .b (.v 48)] } Tryz.f31 [.a (.ptr (.v 0) 0), .agg [.int .i64 (.v 2), .int .i64 (.v 3), .int .i64 (.v 4), .bool (.v 5), .int .i64 (.v 6), .int .i64 (.v 7), .int .i64 (.v 8), .int .i64 (.v 9), .sl (.v 10) (.v 11) (.v 12), .int .i64 (.v 14), .int .i64 (.v 15), .sl (.v 16) (.v 17) (.v 18), .int .i64 (.v 20), .int .i64 (.v 21), .int .i64 (.v 22), .int .i64 (.v 23)]] [(.b (.v 0), .prop 1), (.a 10, .prop 13), (.a 16, .prop 19)] 24 = t_answer := by kernel_rfl
end Go.Proofs.YtbmajijnjkicmaaGreatDoor.RX



namespace Go.Proofs.YtbmajijnjkicmaaGreatDoor
set_option linter.unusedSimpArgs false
set_option linter.unusedVariables false
open Go.Proofs.YtbmajijnjkicmaaGreatDoor RX

def repR (m : MR) (e : Int) : MR := ⟨m.to, m.fr, m.num, true, m.kind, m.ep, m.at', 0, none, 0, 0, 0, 0, none, 0, 0, e, 0, 0, 0⟩
theorem reply_ok (m : MR) (e : Int) (Dm Vm : HP) : Tri Tryz.prog 56 #[.agg m.vals, .int .i64 e] (HP.sep Dm Vm) (fun v => HP.and (v = .agg (repR m e).vals) (HP.sep Dm Vm)) := by
  refine tri_of_tree (ρ := [.i m.fr, .i m.to, .i m.num, .c m.rep, .i m.kind, .i m.ep, .i m.at', .i m.what, .a m.ca, .n m.cn, .n m.cc, .p Dm, .i m.br, .i m.bw, .a m.va, .n m.vn, .n m.vc, .p Vm, .i m.err, .i m.tail, .i m.low, .i m.back, .i e]) mixed Tryz.func56 tree_reply ?_
  unfold t_reply
  simp only [T.den, E.prop, E.den, RX.look, F1.app, F2.app, Uni.int_i, Uni.nat_n, Uni.bool_c, Uni.str_s, Uni.adr_a, Uni.val_v, Uni.hp_p, hden, cden, V.den, W.den, A.den, BR.den, SA.den, FV.den, capV, exs, exP, allP, Cur.app, List.map_cons, List.map_nil, List.cons_append, List.nil_append, List.drop_succ_cons, List.drop_zero, List.length_cons, List.length_nil, Nat.zero_add, Nat.reduceAdd, Int.neg_neg, Bool.not_not, List.append_nil, Nat.add_zero, List.getElem?_cons_zero, List.getElem?_cons_succ, Decidable.not_not]
  exact fun x y => .of fun R h H => ⟨rfl, H⟩
theorem semOf_insertC {ρ : Env} {i j : Nat} {t ty : TypeId} {u v : V} {k : Value} (h : i ≠ j) : semOf ρ (.insert t (.tmp i) (.const k) (.tmp j)) ty [(i, u), (j, v)] = updS t (u.den ρ) k (v.den ρ) := by
  have h' : (i == j) = false := by simpa using h
  simp [semOf, execOp, arEval, h', updS]
theorem undMf : Tryz.prog.underlying 116 = some (.map 3 114) := by kernel_rfl
def fv3 (f : FuncId) (bu bm br : Nat) : Value := .func (.func f) #[] #[.pointer (some ⟨bu, 0, none⟩), .pointer (some ⟨bm, 0, none⟩), .pointer (some ⟨br, 0, none⟩)]
def fv2 (f : FuncId) (bu bm : Nat) : Value := .func (.func f) #[] #[.pointer (some ⟨bu, 0, none⟩), .pointer (some ⟨bm, 0, none⟩)]
def deedsAL (bu bm br : Nat) : AL Int := [(1, fv3 98 bu bm br, 0), (2, fv3 99 bu bm br, 1), (3, fv2 101 bu bm, 2), (4, fv3 103 bu bm br, 3), (5, fv3 106 bu bm br, 4), (6, fv3 107 bu bm br, 5), (7, fv2 109 bu bm, 6)]
abbrev BoxU (bu ub : Nat) : HP := HP.one bu (.cells #[.pointer (some ⟨ub, 0, none⟩)] 62)
abbrev BoxR (br rb : Nat) : HP := HP.one br (.cells #[.pointer (some ⟨rb, 0, none⟩)] 113)
theorem ins_ok {mp : Nat} {l : AL Int} {c : Nat} (k : Int) (v : Value) (K : HP) : OTri Tryz.prog (updS 116 (.map (some mp)) (.int .i64 k) v) (HP.sep (HP.one mp (mapObj iE l c)) K) (fun x => HP.and (x = .tuple #[]) (HP.sep (HP.one mp (mapObj iE (alPut k v c l) (alClock k l c))) K)) :=
  ((upd_ok (r := mp) (l := l) (c := c) iK undMf k v).frame K).weak (fun _ _ h => h) (fun x R h ⟨h1, h2, d, l1, l2, ⟨e, H⟩, HK⟩ => ⟨e, h1, h2, d, l1, l2, H, HK⟩)
theorem deeds_ok (ub : Nat) (U : HP) (m : MR) (Dm Vm : HP) (rb : Nat) (Rc : HP) :
    Tri Tryz.prog 58 #[.pointer (some ⟨ub, 0, none⟩), .agg m.vals, .pointer (some ⟨rb, 0, none⟩)] (HP.sep U (HP.sep Dm (HP.sep Vm Rc)))
    (fun v => HP.ex fun mp => HP.ex fun bu => HP.ex fun bm => HP.ex fun br => HP.and (v = .map (some mp)) (HP.sep (HP.one mp (mapObj iE (deedsAL bu bm br) 7)) (HP.sep (BoxU bu ub) (HP.sep U (HP.sep (MOne bm m) (HP.sep Dm (HP.sep Vm (HP.sep (BoxR br rb) Rc)))))))) := by
  refine tri_of_tree (ρ := [.n ub, .p U, .i m.fr, .i m.to, .i m.num, .c m.rep, .i m.kind, .i m.ep, .i m.at', .i m.what, .a m.ca, .n m.cn, .n m.cc, .p Dm, .i m.br, .i m.bw, .a m.va, .n m.vn, .n m.vc, .p Vm, .i m.err, .i m.tail, .i m.low, .i m.back, .n rb, .p Rc]) mixed Tryz.func58 tree_deeds ?_
  unfold t_deeds
  simp only [T.den, E.prop, E.den, RX.look, F1.app, F2.app, Uni.int_i, Uni.nat_n, Uni.bool_c, Uni.str_s, Uni.adr_a, Uni.val_v, Uni.hp_p, hden, cden, V.den, W.den, A.den, BR.den, SA.den, FV.den, capV, exs, exP, allP, Cur.app, List.map_cons, List.map_nil, List.cons_append, List.nil_append, List.drop_succ_cons, List.drop_zero, List.length_cons, List.length_nil, Nat.zero_add, Nat.reduceAdd, Int.neg_neg, Bool.not_not, List.append_nil, Nat.add_zero, List.getElem?_cons_zero, List.getElem?_cons_succ, Decidable.not_not]
  intro bu bm br mp
  let K : HP := HP.sep (BoxU bu ub) (HP.sep U (HP.sep (MOne bm m) (HP.sep Dm (HP.sep Vm (HP.sep (BoxR br rb) Rc)))))
  rw [semOf_insertC (by decide)]
  simp only [T.den, E.prop, E.den, RX.look, F1.app, F2.app, Uni.int_i, Uni.nat_n, Uni.bool_c, Uni.str_s, Uni.adr_a, Uni.val_v, Uni.hp_p, hden, cden, V.den, W.den, A.den, BR.den, SA.den, FV.den, capV, exs, exP, allP, Cur.app, List.map_cons, List.map_nil, List.cons_append, List.nil_append, List.drop_succ_cons, List.drop_zero, List.length_cons, List.length_nil, Nat.zero_add, Nat.reduceAdd, Int.neg_neg, Bool.not_not, List.append_nil, Nat.add_zero, List.getElem?_cons_zero, List.getElem?_cons_succ, Decidable.not_not]
  refine (ins_ok (mp := mp) (l := []) (c := 0) 1 _ K).weak (fun _ _ h => h) ?_
  rintro v R h ⟨rfl, H⟩
  refine ⟨_, rfl, ?_, H⟩
  clear H
  rw [semOf_insertC (by decide)]
  simp only [T.den, E.prop, E.den, RX.look, F1.app, F2.app, Uni.int_i, Uni.nat_n, Uni.bool_c, Uni.str_s, Uni.adr_a, Uni.val_v, Uni.hp_p, hden, cden, V.den, W.den, A.den, BR.den, SA.den, FV.den, capV, exs, exP, allP, Cur.app, List.map_cons, List.map_nil, List.cons_append, List.nil_append, List.drop_succ_cons, List.drop_zero, List.length_cons, List.length_nil, Nat.zero_add, Nat.reduceAdd, Int.neg_neg, Bool.not_not, List.append_nil, Nat.add_zero, List.getElem?_cons_zero, List.getElem?_cons_succ, Decidable.not_not]
  refine (ins_ok 2 _ K).weak (fun _ _ h => h) ?_
  rintro v R h ⟨rfl, H⟩
  refine ⟨_, rfl, ?_, H⟩
  clear H
  rw [semOf_insertC (by decide)]
  simp only [T.den, E.prop, E.den, RX.look, F1.app, F2.app, Uni.int_i, Uni.nat_n, Uni.bool_c, Uni.str_s, Uni.adr_a, Uni.val_v, Uni.hp_p, hden, cden, V.den, W.den, A.den, BR.den, SA.den, FV.den, capV, exs, exP, allP, Cur.app, List.map_cons, List.map_nil, List.cons_append, List.nil_append, List.drop_succ_cons, List.drop_zero, List.length_cons, List.length_nil, Nat.zero_add, Nat.reduceAdd, Int.neg_neg, Bool.not_not, List.append_nil, Nat.add_zero, List.getElem?_cons_zero, List.getElem?_cons_succ, Decidable.not_not]
  refine (ins_ok 3 _ K).weak (fun _ _ h => h) ?_
  rintro v R h ⟨rfl, H⟩
  refine ⟨_, rfl, ?_, H⟩
  clear H
  rw [semOf_insertC (by decide)]
  simp only [T.den, E.prop, E.den, RX.look, F1.app, F2.app, Uni.int_i, Uni.nat_n, Uni.bool_c, Uni.str_s, Uni.adr_a, Uni.val_v, Uni.hp_p, hden, cden, V.den, W.den, A.den, BR.den, SA.den, FV.den, capV, exs, exP, allP, Cur.app, List.map_cons, List.map_nil, List.cons_append, List.nil_append, List.drop_succ_cons, List.drop_zero, List.length_cons, List.length_nil, Nat.zero_add, Nat.reduceAdd, Int.neg_neg, Bool.not_not, List.append_nil, Nat.add_zero, List.getElem?_cons_zero, List.getElem?_cons_succ, Decidable.not_not]
  refine (ins_ok 4 _ K).weak (fun _ _ h => h) ?_
  rintro v R h ⟨rfl, H⟩
  refine ⟨_, rfl, ?_, H⟩
  clear H
  rw [semOf_insertC (by decide)]
  simp only [T.den, E.prop, E.den, RX.look, F1.app, F2.app, Uni.int_i, Uni.nat_n, Uni.bool_c, Uni.str_s, Uni.adr_a, Uni.val_v, Uni.hp_p, hden, cden, V.den, W.den, A.den, BR.den, SA.den, FV.den, capV, exs, exP, allP, Cur.app, List.map_cons, List.map_nil, List.cons_append, List.nil_append, List.drop_succ_cons, List.drop_zero, List.length_cons, List.length_nil, Nat.zero_add, Nat.reduceAdd, Int.neg_neg, Bool.not_not, List.append_nil, Nat.add_zero, List.getElem?_cons_zero, List.getElem?_cons_succ, Decidable.not_not]
  refine (ins_ok 5 _ K).weak (fun _ _ h => h) ?_
  rintro v R h ⟨rfl, H⟩
  refine ⟨_, rfl, ?_, H⟩
  clear H
  rw [semOf_insertC (by decide)]
  simp only [T.den, E.prop, E.den, RX.look, F1.app, F2.app, Uni.int_i, Uni.nat_n, Uni.bool_c, Uni.str_s, Uni.adr_a, Uni.val_v, Uni.hp_p, hden, cden, V.den, W.den, A.den, BR.den, SA.den, FV.den, capV, exs, exP, allP, Cur.app, List.map_cons, List.map_nil, List.cons_append, List.nil_append, List.drop_succ_cons, List.drop_zero, List.length_cons, List.length_nil, Nat.zero_add, Nat.reduceAdd, Int.neg_neg, Bool.not_not, List.append_nil, Nat.add_zero, List.getElem?_cons_zero, List.getElem?_cons_succ, Decidable.not_not]
  refine (ins_ok 6 _ K).weak (fun _ _ h => h) ?_
  rintro v R h ⟨rfl, H⟩
  refine ⟨_, rfl, ?_, H⟩
  clear H
  rw [semOf_insertC (by decide)]
  simp only [T.den, E.prop, E.den, RX.look, F1.app, F2.app, Uni.int_i, Uni.nat_n, Uni.bool_c, Uni.str_s, Uni.adr_a, Uni.val_v, Uni.hp_p, hden, cden, V.den, W.den, A.den, BR.den, SA.den, FV.den, capV, exs, exP, allP, Cur.app, List.map_cons, List.map_nil, List.cons_append, List.nil_append, List.drop_succ_cons, List.drop_zero, List.length_cons, List.length_nil, Nat.zero_add, Nat.reduceAdd, Int.neg_neg, Bool.not_not, List.append_nil, Nat.add_zero, List.getElem?_cons_zero, List.getElem?_cons_succ, Decidable.not_not]
  refine (ins_ok 7 _ K).weak (fun _ _ h => h) ?_
  rintro v R h ⟨rfl, H⟩
  refine ⟨_, rfl, .of fun R h H => ⟨mp, bu, bm, br, rfl, ?_⟩, H⟩
  exact H
end Go.Proofs.YtbmajijnjkicmaaGreatDoor



namespace Go.Proofs.YtbmajijnjkicmaaGreatDoor
set_option linter.unusedSimpArgs false
set_option linter.unusedVariables false
open Go.Proofs.YtbmajijnjkicmaaGreatDoor RX

def deedS (room : Int) (s : USt) (ps : List Pg) (m r : MS) : Int × MS × USt × List Pg :=
  if m.kind = 1 then ((writeS room s ps m.ep m.at' m.cell).2.1, { r with cell := (writeS room s ps m.ep m.at' m.cell).1 }, (writeS room s ps m.ep m.at' m.cell).2.2)
  else if m.kind = 2 then ((readS s m.ep m.at').2, { r with cell := (readS s m.ep m.at').1 }, s, ps)
  else if m.kind = 3 then ((trimS room s ps m.ep m.at').1, r, (trimS room s ps m.ep m.at').2)
  else if m.kind = 4 then
    if s.epoch = m.ep then (0, { r with tail := max s.top s.low }, s, ps)
    else if (sealS room s ps m.ep).1 = 0 then (0, { r with tail := max (sealS room s ps m.ep).2.1.top (sealS room s ps m.ep).2.1.low }, (sealS room s ps m.ep).2)
    else ((sealS room s ps m.ep).1, r, (sealS room s ps m.ep).2)
  else if m.kind = 5 then if s.epoch = m.ep then (0, { r with tail := max s.top s.low }, s, ps) else (8, r, s, ps)
  else if m.kind = 6 then ((promiseS room s ps m.at' m.br m.bw).2.2.2.1, { r with br := (promiseS room s ps m.at' m.br m.bw).1, bw := (promiseS room s ps m.at' m.br m.bw).2.1, val := (promiseS room s ps m.at' m.br m.bw).2.2.1 }, (promiseS room s ps m.at' m.br m.bw).2.2.2.2)
  else ((acceptS room s ps m.at' m.br m.bw m.val).1, r, (acceptS room s ps m.at' m.br m.bw m.val).2)

section
variable (ub bd bu bm br rb : Nat) (room : Int) (s : USt) (ps : List Pg) (m r : MS) (ca : Option Addr) (cc : Nat) (va : Option Addr) (vc : Nat) (rca : Option Addr) (rcc : Nat) (rva : Option Addr) (rvc : Nat)
abbrev PreD : HP := HP.sep (BoxU bu ub) (HP.sep (UD ub bd room s ps) (HP.sep (MOne bm (m.raw ca cc va vc)) (HP.sep (m.Dro ca) (HP.sep (m.Vro va) (HP.sep (BoxR br rb) (HP.sep (MOne rb (r.raw rca rcc rva rvc)) (HP.sep (r.Dro rca) (r.Vro rva))))))))
abbrev PostD (x : Int × MS × USt × List Pg) (v : Value) : HP := HP.ex fun rca => HP.ex fun rcc => HP.ex fun rva => HP.ex fun rvc => HP.and (v = .int .i64 x.1) (PreD ub bd bu bm br rb room x.2.2.1 x.2.2.2 m x.2.1 ca cc va vc rca rcc rva rvc)
abbrev PreD' : HP := HP.sep (BoxU bu ub) (HP.sep (UD ub bd room s ps) (HP.sep (MOne bm (m.raw ca cc va vc)) (HP.sep (m.Dro ca) (m.Vro va))))

theorem deed1_ok (hk : m.kind = 1) : Tri Tryz.prog 98 #[.pointer (some ⟨bu, 0, none⟩), .pointer (some ⟨bm, 0, none⟩), .pointer (some ⟨br, 0, none⟩)] (PreD ub bd bu bm br rb room s ps m r ca cc va vc rca rcc rva rvc)
    (PostD ub bd bu bm br rb room m ca cc va vc (deedS room s ps m r)) := by
  have e : deedS room s ps m r = ((writeS room s ps m.ep m.at' m.cell).2.1, { r with cell := (writeS room s ps m.ep m.at' m.cell).1 }, (writeS room s ps m.ep m.at' m.cell).2.2) := if_pos hk
  rw [e]
  refine Tri.fact (φ := m.cell.data.length ≠ 0 → ca.isSome = true) (fun R h H hn => RoC.some (HP.sep_left (HP.sep_right (HP.sep_right (HP.sep_right H)))) (by omega)) fun hca => ?_
  refine tri_of_tree (ρ := [.n bu, .n ub, .p (UD ub bd room s ps), .n bm, .i m.fr, .i m.to, .i m.num, .c m.rep, .i m.kind, .i m.ep, .i m.at', .i m.cell.what, .a ca, .n m.cell.data.length, .n cc, .p (m.Dro ca), .i m.br, .i m.bw, .a va, .n m.val.length, .n vc, .p (m.Vro va), .i m.err, .i m.tail, .i m.low, .i m.back, .n br, .n rb,
    .i r.fr, .i r.to, .i r.num, .c r.rep, .i r.kind, .i r.ep, .i r.at', .i r.cell.what, .a rca, .n r.cell.data.length, .n rcc, .p (r.Dro rca), .i r.br, .i r.bw, .a rva, .n r.val.length, .n rvc, .p (r.Vro rva), .i r.err, .i r.tail, .i r.low, .i r.back]) mixed Tryz.func98 tree_deed1 ?_
  unfold t_deed1
  simp only [T.den, E.prop, E.den, RX.look, F1.app, F2.app, Uni.int_i, Uni.nat_n, Uni.bool_c, Uni.str_s, Uni.adr_a, Uni.val_v, Uni.hp_p, hden, cden, V.den, W.den, A.den, BR.den, SA.den, FV.den, capV, exs, exP, allP, Cur.app, List.map_cons, List.map_nil, List.cons_append, List.nil_append, List.drop_succ_cons, List.drop_zero, List.length_cons, List.length_nil, Nat.zero_add, Nat.reduceAdd, Int.neg_neg, Bool.not_not, List.append_nil, Nat.add_zero, List.getElem?_cons_zero, List.getElem?_cons_succ, Decidable.not_not]
  refine (uWrite_ok ub bd room s ps m.ep m.at' m.cell.what ca m.cell.data.length cc m.cell.data (m.Dro ca) (RdL.ro _ _ _ _) rfl hca).weak (fun _ _ h => h) ?_
  rintro v R h ⟨a', c', rfl, H⟩
  refine ⟨_, a', _, c', RoB a' (writeS room s ps m.ep m.at' m.cell).1.data.length (writeS room s ps m.ep m.at' m.cell).1.data, _, _, m.Dro ca, rfl, .of fun R h H => ⟨a', c', rva, rvc, rfl, ?_⟩, H⟩
  exact HP.sep_mono H (fun _ h => h) fun y1 H => HP.sep_mono H (fun _ h => h) fun y2 H => HP.sep_mono H (fun _ h => h) fun y3 H => HP.sep_mono H (fun _ h => h) fun y4 H => HP.sep_mono H (fun _ h => h) fun y5 H => HP.sep_mono H (fun _ h => h) fun y6 H => HP.sep_mono H (fun _ h => h) fun y7 H => HP.sep_mono H (fun _ h => h) fun y8 H => HP.sep_left H
theorem deed2_ok (hk : m.kind = 2) : Tri Tryz.prog 99 #[.pointer (some ⟨bu, 0, none⟩), .pointer (some ⟨bm, 0, none⟩), .pointer (some ⟨br, 0, none⟩)] (PreD ub bd bu bm br rb room s ps m r ca cc va vc rca rcc rva rvc)
    (PostD ub bd bu bm br rb room m ca cc va vc (deedS room s ps m r)) := by
  have e : deedS room s ps m r = ((readS s m.ep m.at').2, { r with cell := (readS s m.ep m.at').1 }, s, ps) := by unfold deedS; rw [if_neg (by omega), if_pos hk]
  rw [e]
  refine tri_of_tree (ρ := [.n bu, .n ub, .p (UD ub bd room s ps), .n bm, .i m.fr, .i m.to, .i m.num, .c m.rep, .i m.kind, .i m.ep, .i m.at', .i m.cell.what, .a ca, .n m.cell.data.length, .n cc, .p (m.Dro ca), .i m.br, .i m.bw, .a va, .n m.val.length, .n vc, .p (m.Vro va), .i m.err, .i m.tail, .i m.low, .i m.back, .n br, .n rb,
    .i r.fr, .i r.to, .i r.num, .c r.rep, .i r.kind, .i r.ep, .i r.at', .i r.cell.what, .a rca, .n r.cell.data.length, .n rcc, .p (r.Dro rca), .i r.br, .i r.bw, .a rva, .n r.val.length, .n rvc, .p (r.Vro rva), .i r.err, .i r.tail, .i r.low, .i r.back]) mixed Tryz.func99 tree_deed2 ?_
  unfold t_deed2
  simp only [T.den, E.prop, E.den, RX.look, F1.app, F2.app, Uni.int_i, Uni.nat_n, Uni.bool_c, Uni.str_s, Uni.adr_a, Uni.val_v, Uni.hp_p, hden, cden, V.den, W.den, A.den, BR.den, SA.den, FV.den, capV, exs, exP, allP, Cur.app, List.map_cons, List.map_nil, List.cons_append, List.nil_append, List.drop_succ_cons, List.drop_zero, List.length_cons, List.length_nil, Nat.zero_add, Nat.reduceAdd, Int.neg_neg, Bool.not_not, List.append_nil, Nat.add_zero, List.getElem?_cons_zero, List.getElem?_cons_succ, Decidable.not_not]
  refine (uRead_ok ub bd _ s m.ep m.at').weak (fun _ _ h => h) ?_
  rintro v R h ⟨a', c', rfl, H⟩
  refine ⟨_, a', _, c', RoB a' (readS s m.ep m.at').1.data.length (readS s m.ep m.at').1.data, _, UD ub bd room s ps, rfl, .of fun R h H => ⟨a', c', rva, rvc, rfl, ?_⟩, HP.sep_comm H⟩
  exact HP.sep_mono H (fun _ h => h) fun y1 H => HP.sep_mono H (fun _ h => h) fun y2 H => HP.sep_mono H (fun _ h => h) fun y3 H => HP.sep_mono H (fun _ h => h) fun y4 H => HP.sep_mono H (fun _ h => h) fun y5 H => HP.sep_mono H (fun _ h => h) fun y6 H => HP.sep_mono H (fun _ h => h) fun y7 H => HP.sep_mono H (fun _ h => h) fun y8 H => HP.sep_left H
theorem deed3_ok (hk : m.kind = 3) : Tri Tryz.prog 101 #[.pointer (some ⟨bu, 0, none⟩), .pointer (some ⟨bm, 0, none⟩)] (PreD' ub bd bu bm room s ps m ca cc va vc)
    (fun v => HP.and (v = .int .i64 (deedS room s ps m r).1 ∧ (deedS room s ps m r).2.1 = r) (PreD' ub bd bu bm room (deedS room s ps m r).2.2.1 (deedS room s ps m r).2.2.2 m ca cc va vc)) := by
  have e : deedS room s ps m r = ((trimS room s ps m.ep m.at').1, r, (trimS room s ps m.ep m.at').2) := by unfold deedS; rw [if_neg (by omega), if_neg (by omega), if_pos hk]
  rw [e]
  refine tri_of_tree (ρ := [.n bu, .n ub, .p (UD ub bd room s ps), .n bm, .i m.fr, .i m.to, .i m.num, .c m.rep, .i m.kind, .i m.ep, .i m.at', .i m.cell.what, .a ca, .n m.cell.data.length, .n cc, .p (m.Dro ca), .i m.br, .i m.bw, .a va, .n m.val.length, .n vc, .p (m.Vro va), .i m.err, .i m.tail, .i m.low, .i m.back]) mixed Tryz.func101 tree_deed3 ?_
  unfold t_deed3
  simp only [T.den, E.prop, E.den, RX.look, F1.app, F2.app, Uni.int_i, Uni.nat_n, Uni.bool_c, Uni.str_s, Uni.adr_a, Uni.val_v, Uni.hp_p, hden, cden, V.den, W.den, A.den, BR.den, SA.den, FV.den, capV, exs, exP, allP, Cur.app, List.map_cons, List.map_nil, List.cons_append, List.nil_append, List.drop_succ_cons, List.drop_zero, List.length_cons, List.length_nil, Nat.zero_add, Nat.reduceAdd, Int.neg_neg, Bool.not_not, List.append_nil, Nat.add_zero, List.getElem?_cons_zero, List.getElem?_cons_succ, Decidable.not_not]
  refine (uTrim_ok ub bd room s ps m.ep m.at').weak (fun _ _ h => h) ?_
  rintro v R h ⟨rfl, H⟩
  exact ⟨_, _, rfl, .of fun R h H => ⟨⟨rfl, trivial⟩, H⟩, H⟩
theorem deed4_ok (hk : m.kind = 4) : Tri Tryz.prog 103 #[.pointer (some ⟨bu, 0, none⟩), .pointer (some ⟨bm, 0, none⟩), .pointer (some ⟨br, 0, none⟩)] (PreD ub bd bu bm br rb room s ps m r ca cc va vc rca rcc rva rvc)
    (PostD ub bd bu bm br rb room m ca cc va vc (deedS room s ps m r)) := by
  have e : deedS room s ps m r = if s.epoch = m.ep then (0, { r with tail := max s.top s.low }, s, ps)
    else if (sealS room s ps m.ep).1 = 0 then (0, { r with tail := max (sealS room s ps m.ep).2.1.top (sealS room s ps m.ep).2.1.low }, (sealS room s ps m.ep).2)
    else ((sealS room s ps m.ep).1, r, (sealS room s ps m.ep).2) := by unfold deedS; rw [if_neg (by omega), if_neg (by omega), if_neg (by omega), if_pos hk]
  rw [e]
  refine tri_of_tree (ρ := [.n bu, .n ub, .p (UD ub bd room s ps), .n bm, .i m.fr, .i m.to, .i m.num, .c m.rep, .i m.kind, .i m.ep, .i m.at', .i m.cell.what, .a ca, .n m.cell.data.length, .n cc, .p (m.Dro ca), .i m.br, .i m.bw, .a va, .n m.val.length, .n vc, .p (m.Vro va), .i m.err, .i m.tail, .i m.low, .i m.back, .n br, .n rb,
    .i r.fr, .i r.to, .i r.num, .c r.rep, .i r.kind, .i r.ep, .i r.at', .i r.cell.what, .a rca, .n r.cell.data.length, .n rcc, .p (r.Dro rca), .i r.br, .i r.bw, .a rva, .n r.val.length, .n rvc, .p (r.Vro rva), .i r.err, .i r.tail, .i r.low, .i r.back]) mixed Tryz.func103 tree_deed4 ?_
  unfold t_deed4
  simp only [T.den, E.prop, E.den, RX.look, F1.app, F2.app, Uni.int_i, Uni.nat_n, Uni.bool_c, Uni.str_s, Uni.adr_a, Uni.val_v, Uni.hp_p, hden, cden, V.den, W.den, A.den, BR.den, SA.den, FV.den, capV, exs, exP, allP, Cur.app, List.map_cons, List.map_nil, List.cons_append, List.nil_append, List.drop_succ_cons, List.drop_zero, List.length_cons, List.length_nil, Nat.zero_add, Nat.reduceAdd, Int.neg_neg, Bool.not_not, List.append_nil, Nat.add_zero, List.getElem?_cons_zero, List.getElem?_cons_succ, Decidable.not_not]
  refine (uEpoch_ok ub bd _ s).weak (fun _ _ h => h) ?_
  rintro v R h ⟨rfl, H⟩
  refine ⟨_, rfl, ⟨fun h1 => ?_, fun h1 => ?_⟩, H⟩
  · rw [if_neg h1]
    refine (uSeal_ok ub bd room s ps m.ep).weak (fun _ _ h => h) ?_
    rintro v R h ⟨rfl, H⟩
    refine ⟨_, _, rfl, ⟨fun h2 => ?_, fun h2 => ?_⟩, H⟩
    · rw [if_neg h2]
      exact .of fun R h H => ⟨rca, rcc, rva, rvc, rfl, H⟩
    · rw [if_pos h2]
      refine (uTail_ok ub bd _ (sealS room s ps m.ep).2.1).weak (fun _ _ h => h) ?_
      rintro v R h ⟨rfl, H⟩
      exact ⟨_, rfl, .of fun R h H => ⟨rca, rcc, rva, rvc, rfl, H⟩, H⟩
  · rw [if_pos h1]
    refine (uTail_ok ub bd _ s).weak (fun _ _ h => h) ?_
    rintro v R h ⟨rfl, H⟩
    exact ⟨_, rfl, .of fun R h H => ⟨rca, rcc, rva, rvc, rfl, H⟩, H⟩
theorem deed5_ok (hk : m.kind = 5) : Tri Tryz.prog 106 #[.pointer (some ⟨bu, 0, none⟩), .pointer (some ⟨bm, 0, none⟩), .pointer (some ⟨br, 0, none⟩)] (PreD ub bd bu bm br rb room s ps m r ca cc va vc rca rcc rva rvc)
    (PostD ub bd bu bm br rb room m ca cc va vc (deedS room s ps m r)) := by
  have e : deedS room s ps m r = if s.epoch = m.ep then (0, { r with tail := max s.top s.low }, s, ps) else (8, r, s, ps) := by unfold deedS; rw [if_neg (by omega), if_neg (by omega), if_neg (by omega), if_neg (by omega), if_pos hk]
  rw [e]
  refine tri_of_tree (ρ := [.n bu, .n ub, .p (UD ub bd room s ps), .n bm, .i m.fr, .i m.to, .i m.num, .c m.rep, .i m.kind, .i m.ep, .i m.at', .i m.cell.what, .a ca, .n m.cell.data.length, .n cc, .p (m.Dro ca), .i m.br, .i m.bw, .a va, .n m.val.length, .n vc, .p (m.Vro va), .i m.err, .i m.tail, .i m.low, .i m.back, .n br, .n rb,
    .i r.fr, .i r.to, .i r.num, .c r.rep, .i r.kind, .i r.ep, .i r.at', .i r.cell.what, .a rca, .n r.cell.data.length, .n rcc, .p (r.Dro rca), .i r.br, .i r.bw, .a rva, .n r.val.length, .n rvc, .p (r.Vro rva), .i r.err, .i r.tail, .i r.low, .i r.back]) mixed Tryz.func106 tree_deed5 ?_
  unfold t_deed5
  simp only [T.den, E.prop, E.den, RX.look, F1.app, F2.app, Uni.int_i, Uni.nat_n, Uni.bool_c, Uni.str_s, Uni.adr_a, Uni.val_v, Uni.hp_p, hden, cden, V.den, W.den, A.den, BR.den, SA.den, FV.den, capV, exs, exP, allP, Cur.app, List.map_cons, List.map_nil, List.cons_append, List.nil_append, List.drop_succ_cons, List.drop_zero, List.length_cons, List.length_nil, Nat.zero_add, Nat.reduceAdd, Int.neg_neg, Bool.not_not, List.append_nil, Nat.add_zero, List.getElem?_cons_zero, List.getElem?_cons_succ, Decidable.not_not]
  refine (uEpoch_ok ub bd _ s).weak (fun _ _ h => h) ?_
  rintro v R h ⟨rfl, H⟩
  refine ⟨_, rfl, ⟨fun h1 => ?_, fun h1 => ?_⟩, H⟩
  · rw [if_neg h1]
    exact .of fun R h H => ⟨rca, rcc, rva, rvc, rfl, H⟩
  · rw [if_pos h1]
    refine (uTail_ok ub bd _ s).weak (fun _ _ h => h) ?_
    rintro v R h ⟨rfl, H⟩
    exact ⟨_, rfl, .of fun R h H => ⟨rca, rcc, rva, rvc, rfl, H⟩, H⟩
theorem deed6_ok (hk : m.kind = 6) : Tri Tryz.prog 107 #[.pointer (some ⟨bu, 0, none⟩), .pointer (some ⟨bm, 0, none⟩), .pointer (some ⟨br, 0, none⟩)] (PreD ub bd bu bm br rb room s ps m r ca cc va vc rca rcc rva rvc)
    (PostD ub bd bu bm br rb room m ca cc va vc (deedS room s ps m r)) := by
  have e : deedS room s ps m r = ((promiseS room s ps m.at' m.br m.bw).2.2.2.1, { r with br := (promiseS room s ps m.at' m.br m.bw).1, bw := (promiseS room s ps m.at' m.br m.bw).2.1, val := (promiseS room s ps m.at' m.br m.bw).2.2.1 }, (promiseS room s ps m.at' m.br m.bw).2.2.2.2) := by
    unfold deedS; rw [if_neg (by omega), if_neg (by omega), if_neg (by omega), if_neg (by omega), if_neg (by omega), if_pos hk]
  rw [e]
  refine tri_of_tree (ρ := [.n bu, .n ub, .p (UD ub bd room s ps), .n bm, .i m.fr, .i m.to, .i m.num, .c m.rep, .i m.kind, .i m.ep, .i m.at', .i m.cell.what, .a ca, .n m.cell.data.length, .n cc, .p (m.Dro ca), .i m.br, .i m.bw, .a va, .n m.val.length, .n vc, .p (m.Vro va), .i m.err, .i m.tail, .i m.low, .i m.back, .n br, .n rb,
    .i r.fr, .i r.to, .i r.num, .c r.rep, .i r.kind, .i r.ep, .i r.at', .i r.cell.what, .a rca, .n r.cell.data.length, .n rcc, .p (r.Dro rca), .i r.br, .i r.bw, .a rva, .n r.val.length, .n rvc, .p (r.Vro rva), .i r.err, .i r.tail, .i r.low, .i r.back]) mixed Tryz.func107 tree_deed6 ?_
  unfold t_deed6
  simp only [T.den, E.prop, E.den, RX.look, F1.app, F2.app, Uni.int_i, Uni.nat_n, Uni.bool_c, Uni.str_s, Uni.adr_a, Uni.val_v, Uni.hp_p, hden, cden, V.den, W.den, A.den, BR.den, SA.den, FV.den, capV, exs, exP, allP, Cur.app, List.map_cons, List.map_nil, List.cons_append, List.nil_append, List.drop_succ_cons, List.drop_zero, List.length_cons, List.length_nil, Nat.zero_add, Nat.reduceAdd, Int.neg_neg, Bool.not_not, List.append_nil, Nat.add_zero, List.getElem?_cons_zero, List.getElem?_cons_succ, Decidable.not_not]
  refine (uPromise_ok ub bd room s ps m.at' m.br m.bw).weak (fun _ _ h => h) ?_
  rintro v R h ⟨a', c', rfl, H⟩
  refine ⟨_, _, a', _, c', RoB a' (promiseS room s ps m.at' m.br m.bw).2.2.1.length (promiseS room s ps m.at' m.br m.bw).2.2.1, _, _, rfl, .of fun R h H => ⟨rca, rcc, a', c', rfl, ?_⟩, HP.sep_comm H⟩
  exact HP.sep_mono H (fun _ h => h) fun y1 H => HP.sep_mono H (fun _ h => h) fun y2 H => HP.sep_mono H (fun _ h => h) fun y3 H => HP.sep_mono H (fun _ h => h) fun y4 H => HP.sep_mono H (fun _ h => h) fun y5 H => HP.sep_mono H (fun _ h => h) fun y6 H => HP.sep_mono H (fun _ h => h) fun y7 H => HP.sep_mono H (fun _ h => h) fun y8 H => HP.sep_left H
theorem deed7_ok (hk : m.kind = 7) : Tri Tryz.prog 109 #[.pointer (some ⟨bu, 0, none⟩), .pointer (some ⟨bm, 0, none⟩)] (PreD' ub bd bu bm room s ps m ca cc va vc)
    (fun v => HP.and (v = .int .i64 (deedS room s ps m r).1 ∧ (deedS room s ps m r).2.1 = r) (PreD' ub bd bu bm room (deedS room s ps m r).2.2.1 (deedS room s ps m r).2.2.2 m ca cc va vc)) := by
  have e : deedS room s ps m r = ((acceptS room s ps m.at' m.br m.bw m.val).1, r, (acceptS room s ps m.at' m.br m.bw m.val).2) := by
    unfold deedS; rw [if_neg (by omega), if_neg (by omega), if_neg (by omega), if_neg (by omega), if_neg (by omega), if_neg (by omega)]
  rw [e]
  refine Tri.fact (φ := m.val.length ≠ 0 → va.isSome = true) (fun R h H hn => RoC.some (HP.sep_right (HP.sep_right (HP.sep_right (HP.sep_right H)))) (by omega)) fun hva => ?_
  refine tri_of_tree (ρ := [.n bu, .n ub, .p (UD ub bd room s ps), .n bm, .i m.fr, .i m.to, .i m.num, .c m.rep, .i m.kind, .i m.ep, .i m.at', .i m.cell.what, .a ca, .n m.cell.data.length, .n cc, .p (m.Dro ca), .i m.br, .i m.bw, .a va, .n m.val.length, .n vc, .p (m.Vro va), .i m.err, .i m.tail, .i m.low, .i m.back]) mixed Tryz.func109 tree_deed7 ?_
  unfold t_deed7
  simp only [T.den, E.prop, E.den, RX.look, F1.app, F2.app, Uni.int_i, Uni.nat_n, Uni.bool_c, Uni.str_s, Uni.adr_a, Uni.val_v, Uni.hp_p, hden, cden, V.den, W.den, A.den, BR.den, SA.den, FV.den, capV, exs, exP, allP, Cur.app, List.map_cons, List.map_nil, List.cons_append, List.nil_append, List.drop_succ_cons, List.drop_zero, List.length_cons, List.length_nil, Nat.zero_add, Nat.reduceAdd, Int.neg_neg, Bool.not_not, List.append_nil, Nat.add_zero, List.getElem?_cons_zero, List.getElem?_cons_succ, Decidable.not_not]
  refine (uAccept_ok ub bd room s ps m.at' m.br m.bw va m.val.length vc m.val (m.Vro va) (RdL.ro _ _ _ _) rfl hva).weak (fun _ _ h => h) ?_
  rintro v R h ⟨rfl, H⟩
  exact ⟨_, _, m.Vro va, rfl, .of fun R h H => ⟨⟨rfl, trivial⟩, H⟩, H⟩
end
end Go.Proofs.YtbmajijnjkicmaaGreatDoor



namespace Go.Proofs.YtbmajijnjkicmaaGreatDoor
set_option linter.unusedSimpArgs false
set_option linter.unusedVariables false
open Go.Proofs.YtbmajijnjkicmaaGreatDoor RX

def finS (e : Int) (r : MS) (s : USt) : MS :=
  if e = 0 then { r with err := e, low := s.low, back := s.epoch }
  else { r with err := e, br := 0, bw := 0, val := [], tail := 0, cell := if e = 10 then r.cell else zC, low := s.low, back := s.epoch }
def answerS (room : Int) (s : USt) (ps : List Pg) (m : MS) : Bool × MS × USt × List Pg :=
  if m.rep = true ∨ ¬ (1 ≤ m.kind ∧ m.kind ≤ 7) then (false, zMS, s, ps)
  else (true, finS (deedS room s ps m (repS m)).1 (deedS room s ps m (repS m)).2.1 (deedS room s ps m (repS m)).2.2.1, (deedS room s ps m (repS m)).2.2)
theorem infoF : (Tryz.prog.info? 114).map (fun i => (i.zero, i.size, i.bytes)) = some (some .nilFunc, 1, 8) := by kernel_rfl
theorem fgo1 : Fgo Tryz.prog 98 := ⟨_, Tryz.func98, by kernel_rfl, by kernel_rfl⟩
theorem fgo2 : Fgo Tryz.prog 99 := ⟨_, Tryz.func99, by kernel_rfl, by kernel_rfl⟩
theorem fgo3 : Fgo Tryz.prog 101 := ⟨_, Tryz.func101, by kernel_rfl, by kernel_rfl⟩
theorem fgo4 : Fgo Tryz.prog 103 := ⟨_, Tryz.func103, by kernel_rfl, by kernel_rfl⟩
theorem fgo5 : Fgo Tryz.prog 106 := ⟨_, Tryz.func106, by kernel_rfl, by kernel_rfl⟩
theorem fgo6 : Fgo Tryz.prog 107 := ⟨_, Tryz.func107, by kernel_rfl, by kernel_rfl⟩
theorem fgo7 : Fgo Tryz.prog 109 := ⟨_, Tryz.func109, by kernel_rfl, by kernel_rfl⟩
section
variable (ub bd bu bm br rb : Nat) (room : Int) (s : USt) (ps : List Pg) (m : MS) (ca : Option Addr) (cc : Nat) (va : Option Addr) (vc : Nat)
theorem deed_look (hk : 1 ≤ m.kind ∧ m.kind ≤ 7) : ∃ f, (alFind m.kind (deedsAL bu bm br)) = some f ∧ oneC f = f ∧
    VTri Tryz.prog f #[] (PreD ub bd bu bm br rb room s ps m (repS m) ca cc va vc none 0 none 0) (PostD ub bd bu bm br rb room m ca cc va vc (deedS room s ps m (repS m))) := by
  have small : ∀ {f : FuncId}, Fgo Tryz.prog f → Tri Tryz.prog f #[.pointer (some ⟨bu, 0, none⟩), .pointer (some ⟨bm, 0, none⟩)] (PreD' ub bd bu bm room s ps m ca cc va vc)
    (fun v => HP.and (v = .int .i64 (deedS room s ps m (repS m)).1 ∧ (deedS room s ps m (repS m)).2.1 = repS m) (PreD' ub bd bu bm room (deedS room s ps m (repS m)).2.2.1 (deedS room s ps m (repS m)).2.2.2 m ca cc va vc)) →
    VTri Tryz.prog (fv2 f bu bm) #[] (PreD ub bd bu bm br rb room s ps m (repS m) ca cc va vc none 0 none 0) (PostD ub bd bu bm br rb room m ca cc va vc (deedS room s ps m (repS m))) := fun g t =>
    .inl ⟨_, _, rfl, g, t.conseq (K := HP.sep (BoxR br rb) (HP.sep (MOne rb ((repS m).raw none 0 none 0)) (HP.sep ((repS m).Dro none) ((repS m).Vro none))))
      (.of fun R h H => HP.sep_assoc' (HP.sep_mono H (fun _ h => h) fun y H => HP.sep_assoc' (HP.sep_mono H (fun _ h => h) fun y H => HP.sep_assoc' (HP.sep_mono H (fun _ h => h) fun y H => HP.sep_assoc' H))))
      fun v => .of fun R h ⟨h1, h2, d, l1, l2, ⟨⟨e1, e2⟩, H⟩, HK⟩ => ⟨none, 0, none, 0, e1, by
        rw [e2]
        exact HP.sep_mono (HP.sep_assoc ⟨h1, h2, d, l1, l2, H, HK⟩) (fun _ h => h) fun y H => HP.sep_mono (HP.sep_assoc H) (fun _ h => h) fun y H => HP.sep_mono (HP.sep_assoc H) (fun _ h => h) fun y H => HP.sep_assoc H⟩⟩
  have hc : m.kind = 1 ∨ m.kind = 2 ∨ m.kind = 3 ∨ m.kind = 4 ∨ m.kind = 5 ∨ m.kind = 6 ∨ m.kind = 7 := by omega
  rcases hc with hk | hk | hk | hk | hk | hk | hk
  · exact ⟨fv3 98 bu bm br, by rw [hk]; rfl, rfl, .inl ⟨_, _, rfl, fgo1, deed1_ok ub bd bu bm br rb room s ps m (repS m) ca cc va vc none 0 none 0 hk⟩⟩
  · exact ⟨fv3 99 bu bm br, by rw [hk]; rfl, rfl, .inl ⟨_, _, rfl, fgo2, deed2_ok ub bd bu bm br rb room s ps m (repS m) ca cc va vc none 0 none 0 hk⟩⟩
  · exact ⟨fv2 101 bu bm, by rw [hk]; rfl, rfl, small fgo3 (deed3_ok ub bd bu bm room s ps m (repS m) ca cc va vc hk)⟩
  · exact ⟨fv3 103 bu bm br, by rw [hk]; rfl, rfl, .inl ⟨_, _, rfl, fgo4, deed4_ok ub bd bu bm br rb room s ps m (repS m) ca cc va vc none 0 none 0 hk⟩⟩
  · exact ⟨fv3 106 bu bm br, by rw [hk]; rfl, rfl, .inl ⟨_, _, rfl, fgo5, deed5_ok ub bd bu bm br rb room s ps m (repS m) ca cc va vc none 0 none 0 hk⟩⟩
  · exact ⟨fv3 107 bu bm br, by rw [hk]; rfl, rfl, .inl ⟨_, _, rfl, fgo6, deed6_ok ub bd bu bm br rb room s ps m (repS m) ca cc va vc none 0 none 0 hk⟩⟩
  · exact ⟨fv2 109 bu bm, by rw [hk]; rfl, rfl, small fgo7 (deed7_ok ub bd bu bm room s ps m (repS m) ca cc va vc hk)⟩
theorem deed_none (hk : ¬ (1 ≤ m.kind ∧ m.kind ≤ 7)) : alFind m.kind (deedsAL bu bm br) = none := by
  simp only [deedsAL, alFind]
  repeat rw [if_neg (by omega)]
end
set_option maxRecDepth 100000 in
theorem answer_ok (ub bd : Nat) (room : Int) (s : USt) (ps : List Pg) (m : MS) (ca : Option Addr) (cc : Nat) (va : Option Addr) (vc : Nat) :
    Tri Tryz.prog 31 #[.pointer (some ⟨ub, 0, none⟩), .agg (m.raw ca cc va vc).vals] (HP.sep (UD ub bd room s ps) (HP.sep (m.Dro ca) (m.Vro va)))
    (fun v => HP.ex fun rca => HP.ex fun rcc => HP.ex fun rva => HP.ex fun rvc => HP.and (v = .tuple #[.agg ((answerS room s ps m).2.1.raw rca rcc rva rvc).vals, .bool (answerS room s ps m).1])
      (HP.sep (UD ub bd room (answerS room s ps m).2.2.1 (answerS room s ps m).2.2.2) (HP.sep (m.Dro ca) (HP.sep (m.Vro va) (HP.sep ((answerS room s ps m).2.1.Dro rca) ((answerS room s ps m).2.1.Vro rva)))))) := by
  refine tri_of_tree (ρ := [.n ub, .p (UD ub bd room s ps), .i m.fr, .i m.to, .i m.num, .c m.rep, .i m.kind, .i m.ep, .i m.at', .i m.cell.what, .a ca, .n m.cell.data.length, .n cc, .p (m.Dro ca), .i m.br, .i m.bw, .a va, .n m.val.length, .n vc, .p (m.Vro va), .i m.err, .i m.tail, .i m.low, .i m.back]) mixed Tryz.func31 tree_answer ?_
  unfold t_answer
  simp only [T.den, E.prop, E.den, RX.look, F1.app, F2.app, Uni.int_i, Uni.nat_n, Uni.bool_c, Uni.str_s, Uni.adr_a, Uni.val_v, Uni.hp_p, hden, cden, V.den, W.den, A.den, BR.den, SA.den, FV.den, capV, exs, exP, allP, Cur.app, List.map_cons, List.map_nil, List.cons_append, List.nil_append, List.drop_succ_cons, List.drop_zero, List.length_cons, List.length_nil, Nat.zero_add, Nat.reduceAdd, Int.neg_neg, Bool.not_not, List.append_nil, Nat.add_zero, List.getElem?_cons_zero, List.getElem?_cons_succ, Decidable.not_not]
  intro x y
  refine (reply_ok (m.raw ca cc va vc) 0 (m.Dro ca) (m.Vro va)).weak (fun _ _ h => h) ?_
  rintro v R h ⟨rfl, H⟩
  refine ⟨m.to, m.fr, m.num, true, m.kind, m.ep, m.at', 0, none, 0, 0, HP.tt, 0, 0, none, 0, 0, HP.tt, 0, 0, 0, 0, rfl, fun rb => ?_, HP.tt_sep (HP.tt_sep H)⟩
  clear H
  refine (deeds_ok ub (UD ub bd room s ps) (m.raw ca cc va vc) (m.Dro ca) (m.Vro va) rb _).weak (fun _ _ h => h) ?_
  rintro v R h ⟨mp, bu, bm, br, rfl, H⟩
  have hD := HP.sep_left (HP.sep_right (HP.sep_right (HP.sep_right (HP.sep_right H))))
  have hV := HP.sep_left (HP.sep_right (HP.sep_right (HP.sep_right (HP.sep_right (HP.sep_right H)))))
  let P0 : HP := sepN [HP.one mp (mapObj iE (deedsAL bu bm br) 7), BoxU bu ub, MOne bm (m.raw ca cc va vc), m.Dro ca, m.Vro va, BoxR br rb]
  have hP0 : ∀ y, (sepN [HP.one mp (mapObj iE (deedsAL bu bm br) 7), BoxU bu ub, MOne bm (m.raw ca cc va vc), BoxR br rb]).p R y → P0.p R y := fun y hy =>
    HP.pick [m.Dro ca, m.Vro va, HP.one mp (mapObj iE (deedsAL bu bm br) 7), BoxU bu ub, MOne bm (m.raw ca cc va vc), BoxR br rb] [2, 3, 4, 0, 1, 5] (by decide) rfl (RoC.join hD (RoC.join hV hy))
  have H2 := HP.pick [HP.one mp (mapObj iE (deedsAL bu bm br) 7), BoxU bu ub, UD ub bd room s ps, MOne bm (m.raw ca cc va vc), m.Dro ca, m.Vro va, BoxR br rb, MOne rb (repR (m.raw ca cc va vc) 0), HP.tt, HP.tt] [0, 1, 3, 6, 2, 4, 5, 7, 8, 9] (by decide) rfl H
  have H3 := HP.sep_mono (sepN_app (l := [HP.one mp (mapObj iE (deedsAL bu bm br) 7), BoxU bu ub, MOne bm (m.raw ca cc va vc), BoxR br rb]) (m := [UD ub bd room s ps, m.Dro ca, m.Vro va, MOne rb (repR (m.raw ca cc va vc) 0), HP.tt, HP.tt]).1 H2) hP0 fun _ h => h
  refine ⟨mp, P0, UD ub bd room s ps, m.Dro ca, m.Vro va, m.to, m.fr, m.num, true, m.kind, m.ep, m.at', 0, none, 0, 0, HP.tt, 0, 0, none, 0, 0, HP.tt, 0, 0, 0, 0, rfl, ?_, H3⟩
  clear H H2 H3 hP0 hD hV
  obtain ⟨i, hi, z1, _⟩ := info_parts infoF
  have hlook := look_ok (r := mp) (l := deedsAL bu bm br) (c := 7) iK undMf hi z1 m.kind true (A := P0) (fun R h H => HP.sep_left H)
  rw [if_pos rfl] at hlook
  have nothing : (m.rep = true ∨ ¬ (1 ≤ m.kind ∧ m.kind ≤ 7)) → HP.ent (HP.sep (UD ub bd room s ps) (HP.sep (m.Dro ca) (m.Vro va))) (HP.ex fun rca => HP.ex fun rcc => HP.ex fun rva => HP.ex fun rvc => HP.and (Value.tuple #[.agg #[.int .i64 0, .int .i64 0, .int .i64 0, .bool false, .int .i64 0, .int .i64 0, .int .i64 0, .int .i64 0, .slice none 0 0, .int .i64 0, .int .i64 0, .slice none 0 0, .int .i64 0, .int .i64 0, .int .i64 0, .int .i64 0], .bool false] = .tuple #[.agg ((answerS room s ps m).2.1.raw rca rcc rva rvc).vals, .bool (answerS room s ps m).1])
      (HP.sep (UD ub bd room (answerS room s ps m).2.2.1 (answerS room s ps m).2.2.2) (HP.sep (m.Dro ca) (HP.sep (m.Vro va) (HP.sep ((answerS room s ps m).2.1.Dro rca) ((answerS room s ps m).2.1.Vro rva)))))) := fun hn => by
    have e : answerS room s ps m = (false, zMS, s, ps) := if_pos hn
    rw [e]
    exact .of fun R h H => ⟨none, 0, none, 0, rfl, HP.sep_mono H (fun _ h => h) fun y H => HP.sep_mono H (fun _ h => h) fun z H => HP.sep_assoc (RoC.joinR (RoC.nil 1 none R z) (RoC.joinR (RoC.nil 1 none R z) H))⟩
  by_cases hk : 1 ≤ m.kind ∧ m.kind ≤ 7
  · obtain ⟨f, hf, hf1, hv⟩ := deed_look ub bd bu bm br rb room s ps m ca cc va vc hk
    rw [hf] at hlook
    simp only [Option.getD_some, Option.isSome_some] at hlook
    refine ⟨f, true, by rw [hf1]; exact hlook, fun hr => nothing (.inl hr), fun hr => ⟨fun h => absurd rfl h, fun _ => ?_⟩⟩
    have ea : answerS room s ps m = (true, finS (deedS room s ps m (repS m)).1 (deedS room s ps m (repS m)).2.1 (deedS room s ps m (repS m)).2.2.1, (deedS room s ps m (repS m)).2.2) := if_neg (fun h => h.elim hr fun h => h hk)
    rw [ea]
    generalize hd : deedS room s ps m (repS m) = d at hv
    obtain ⟨e, r', s', ps'⟩ := d
    refine hv.conseq (K := HP.one mp (mapObj iE (deedsAL bu bm br) 7)) (.of fun R h H => ?_) fun v => .of fun R h H => ?_
    · have H1 := (sepN_app (l := [HP.one mp (mapObj iE (deedsAL bu bm br) 7), BoxU bu ub, MOne bm (m.raw ca cc va vc), m.Dro ca, m.Vro va, BoxR br rb]) (m := [UD ub bd room s ps, MOne rb (repR (m.raw ca cc va vc) 0), HP.tt, HP.tt])).2 H
      have H2 := RoC.join (RoC.nil 1 none R h : ((repS m).Dro none).p R h) (RoC.join (RoC.nil 1 none R h : ((repS m).Vro none).p R h) H1)
      have H3 := HP.pick [(repS m).Dro none, (repS m).Vro none, HP.one mp (mapObj iE (deedsAL bu bm br) 7), BoxU bu ub, MOne bm (m.raw ca cc va vc), m.Dro ca, m.Vro va, BoxR br rb, UD ub bd room s ps, MOne rb (repR (m.raw ca cc va vc) 0), HP.tt, HP.tt] [3, 8, 4, 5, 6, 7, 9, 0, 1, 2] (by decide) rfl H2
      exact (sepN_app (l := [BoxU bu ub, UD ub bd room s ps, MOne bm (m.raw ca cc va vc), m.Dro ca, m.Vro va, BoxR br rb, MOne rb (repR (m.raw ca cc va vc) 0), (repS m).Dro none, (repS m).Vro none]) (m := [HP.one mp (mapObj iE (deedsAL bu bm br) 7)])).1 H3
    · obtain ⟨h1, h2, dj, l1, l2, ⟨rca, rcc, rva, rvc, rfl, HP1⟩, HM⟩ := H
      have H1 := (sepN_app (l := [BoxU bu ub, UD ub bd room s' ps', MOne bm (m.raw ca cc va vc), m.Dro ca, m.Vro va, BoxR br rb, MOne rb (r'.raw rca rcc rva rvc), r'.Dro rca, r'.Vro rva]) (m := [HP.one mp (mapObj iE (deedsAL bu bm br) 7)])).2 ⟨h1, h2, dj, l1, l2, HP1, HM⟩
      have H2 := HP.pick [BoxU bu ub, UD ub bd room s' ps', MOne bm (m.raw ca cc va vc), m.Dro ca, m.Vro va, BoxR br rb, MOne rb (r'.raw rca rcc rva rvc), r'.Dro rca, r'.Vro rva, HP.one mp (mapObj iE (deedsAL bu bm br) 7)] [1, 6, 7, 8, 9, 0, 2, 3, 4, 5] (by decide) rfl H1
      have H3 := (sepN_app (l := [UD ub bd room s' ps', MOne rb (r'.raw rca rcc rva rvc), r'.Dro rca, r'.Vro rva]) (m := [P0, HP.tt, HP.tt])).2 (HP.sep_mono ((sepN_app (l := [UD ub bd room s' ps', MOne rb (r'.raw rca rcc rva rvc), r'.Dro rca, r'.Vro rva]) (m := [HP.one mp (mapObj iE (deedsAL bu bm br) 7), BoxU bu ub, MOne bm (m.raw ca cc va vc), m.Dro ca, m.Vro va, BoxR br rb])).1 H2) (fun _ h => h) fun _ h => HP.sep_tt (HP.sep_comm (HP.tt_sep h) |> HP.sep_left) |> fun h => HP.sep_mono h (fun _ h => h) fun _ _ => HP.sep_tt trivial)
      refine ⟨e, UD ub bd room s' ps', r'.fr, r'.to, r'.num, r'.rep, r'.kind, r'.ep, r'.at', r'.cell.what, rca, r'.cell.data.length, rcc, r'.Dro rca, r'.br, r'.bw, rva, r'.val.length, rvc, r'.Vro rva, r'.err, r'.tail, r'.low, r'.back, rfl, ?_, H3⟩
      clear H1 H2 H3 HP1 HM dj l1 l2
      refine ⟨fun h0 => ⟨fun h10 => ?_, fun h10 => ?_⟩, fun h0 => ?_⟩
      · refine (uLow_ok ub bd _ s').weak (fun _ _ h => h) ?_
        rintro v R h ⟨rfl, H⟩
        refine ⟨_, rfl, ?_, H⟩
        refine (uEpoch_ok ub bd _ s').weak (fun _ _ h => h) ?_
        rintro v R h ⟨rfl, H⟩
        refine ⟨_, rfl, .of fun R h H => ⟨none, 0, none, 0, ?_, ?_⟩, H⟩
        · simp only [finS, if_neg h0, if_neg h10]; rfl
        · simp only [finS, if_neg h0, if_neg h10]
          exact HP.sep_mono H (fun _ h => h) fun y H => HP.sep_mono H (fun _ h => h) fun z H => HP.sep_assoc (RoC.joinR (RoC.nil 1 none R z) (RoC.joinR (RoC.nil 1 none R z) H))
      · refine (uLow_ok ub bd _ s').weak (fun _ _ h => h) ?_
        rintro v R h ⟨rfl, H⟩
        refine ⟨_, rfl, ?_, H⟩
        refine (uEpoch_ok ub bd _ s').weak (fun _ _ h => h) ?_
        rintro v R h ⟨rfl, H⟩
        refine ⟨_, rfl, .of fun R h H => ⟨rca, rcc, none, 0, ?_, ?_⟩, H⟩
        · simp only [finS, if_neg h0, if_pos h10]; rfl
        · simp only [finS, if_neg h0, if_pos h10]
          exact HP.sep_mono H (fun _ h => h) fun y H => HP.sep_mono H (fun _ h => h) fun z H => HP.sep_mono H (fun _ h => h) fun u H => RoC.joinR (RoC.nil 1 none R u) H
      · refine (uLow_ok ub bd _ s').weak (fun _ _ h => h) ?_
        rintro v R h ⟨rfl, H⟩
        refine ⟨_, rfl, ?_, H⟩
        refine (uEpoch_ok ub bd _ s').weak (fun _ _ h => h) ?_
        rintro v R h ⟨rfl, H⟩
        refine ⟨_, rfl, .of fun R h H => ⟨rca, rcc, rva, rvc, ?_, ?_⟩, H⟩
        · simp only [finS, if_pos h0]
        · simp only [finS, if_pos h0]; exact H
  · rw [deed_none bu bm br m hk] at hlook
    refine ⟨.nilFunc, false, hlook, fun hr => nothing (.inl hr), fun hr => ⟨fun _ => nothing (.inr hk), fun h => by cases h⟩⟩
end Go.Proofs.YtbmajijnjkicmaaGreatDoor



namespace Go.Proofs.YtbmajijnjkicmaaGreatDoor

def Small {H : Type} (P : Program) (t : TypeId) (d : DataW H) : Prop := ∀ n ∈ d.weights P t, n ≤ reachBytes

section
variable {H : Type} {P : Program} {t e : TypeId}
theorem Small.arg {ts : List TypeId} {ds : List (DataW H)} (h : (DataW.weightsEach P ts ds).all (· ≤ reachBytes) = true) {j : Nat} {d : DataW H} (ht : ts[j]? = some t) (hd : ds[j]? = some d) : Small P t d := fun n hn => by
  have := List.all_eq_true.1 h n (DataW.weights_mem_each ht hd n hn)
  simpa using this
end
end Go.Proofs.YtbmajijnjkicmaaGreatDoor



namespace Go.Proofs.YtbmajijnjkicmaaGreatDoor
open Go.RowKit Go.ChangeShapes Go.WideShapes Go.Deep

def allOf (w : World) : PH := fun k => w.heap[k]?
theorem allOf_sat (w : World) (g : GR (allOf w)) : Sat w (allOf w) PH.none' PH.none' := ⟨PH.dj_none _, PH.dj_none _, PH.dj_none _, fun _ _ e => e, fun _ _ e => (by cases e), fun _ _ e => (by cases e), g⟩
theorem Tri.run {P : Program} {f : FuncId} {args : Array Value} {A : HP} {u : Value} (t : Tri P f args A (fun v => HP.pure (v = u))) {w : World} (hA : A.p (allOf w) PH.none') (g : GR (allOf w) := by exact True.intro) : Calls P f args w fun e w' => e = .returned u ∧ Below w.heap.size w w' := by
  refine (t w (allOf w) PH.none' PH.none' (allOf_sat w g) hA).mono fun e w' ⟨v, he, sm, R', h', lR, s, hv⟩ => ?_
  have hv' : v = u := hv
  refine ⟨by rw [he, hv'], sm.os, sm.tape, sm.output, sm.size, fun k hk => ?_⟩
  obtain ⟨o, ho⟩ : ∃ o, w.heap[k]? = some o := ⟨w.heap[k], by simp [hk]⟩
  rw [ho]
  exact s.oR _ _ (lR _ _ ho)
section
variable {H : Type} {enc : TypeId × Value → H} {P : Program} {w : World} {base : Nat} {spare : Nat → Bool} {held : Bool}
set_option maxRecDepth 100000 in
theorem int_open {H : Type} (_enc : TypeId × Value → H) (base : Nat) (v : Value) (w : World) (hv : Value.okWide Tryz.prog w .any base 3 v) : ∃ n, v = .int .i64 n := by
  simp only [Value.okWide, Tryz.underlying3, Cell.okWide] at hv
  unfold Cell.ok at hv
  rw [Tryz.underlying3] at hv
  cases v <;> first | exact hv.elim | exact ⟨_, by rw [hv.1]⟩
end
end Go.Proofs.YtbmajijnjkicmaaGreatDoor



namespace Go.Proofs.YtbmajijnjkicmaaGreatDoor
open Go.RowKit Go.ChangeShapes Go.WideShapes Go.Deep RX
set_option maxRecDepth 100000

def okI (x : Int) : Prop := -9223372036854775808 ≤ x ∧ x ≤ 9223372036854775807
def HP.both (A B : HP) : HP := ⟨fun R h => A.p R h ∧ B.p R h, fun l l' ⟨a, b⟩ => ⟨A.mono l l' a, B.mono l l' b⟩⟩
structure Kind (α : Type) where
  n : Nat
  pos : 0 < n
  vals : α → List Value
  len : ∀ x, (vals x).length = n
  hp : α → HP
  pers : ∀ x R h h', (hp x).p R h → (hp x).p R h'
theorem Rd.impR {S T : HP} {a : Option Addr} {xs : List Value} (r : Rd T a xs) (h : ∀ R x, S.p R x → T.p R x) : Rd S a xs := fun w R x F s p => r w R x F s (h R x p)
section
variable {α : Type}
def Ls (K : Kind α) (a : Option Addr) (n : Nat) (l : List α) : HP :=
  ⟨fun R h => l.length = n ∧ (RoC K.n a n (l.flatMap K.vals)).p R h ∧ ∀ x ∈ l, (K.hp x).p R h,
   fun lR lh ⟨h0, h1, h2⟩ => ⟨h0, (RoC _ _ _ _).mono lR lh h1, fun x hx => (K.hp x).mono lR lh (h2 x hx)⟩⟩
theorem Ls.pers {K : Kind α} {a : Option Addr} {n : Nat} {l : List α} {R h : PH} (h' : PH) (H : (Ls K a n l).p R h) : (Ls K a n l).p R h' := ⟨H.1, H.2.1, fun x hx => K.pers x _ _ _ (H.2.2 x hx)⟩
theorem Ls.rd {K : Kind α} {a : Option Addr} {n : Nat} {l : List α} : Rd (Ls K a n l) a (l.flatMap K.vals) := Rd.impR (RoC.rd K.n a n (l.flatMap K.vals)) fun _ _ H => H.2.1
theorem flat_getL (f : α → List Value) (w : Nat) (hw : ∀ x, (f x).length = w) : ∀ (l : List α) (k j : Nat) (x : α), l[k]? = some x → j < w → (l.flatMap f)[k * w + j]? = (f x)[j]?
  | [], k, j, x, h, _ => by simp at h
  | y :: r, 0, j, x, h, hj => by
    simp at h; subst h
    rw [List.flatMap_cons, Nat.zero_mul, Nat.zero_add, List.getElem?_append_left (by rw [hw]; exact hj)]
  | y :: r, k + 1, j, x, h, hj => by
    rw [List.flatMap_cons, List.getElem?_append_right (by rw [hw, Nat.succ_mul]; omega), hw, show (k + 1) * w + j - w = k * w + j by rw [Nat.succ_mul]; omega]
    exact flat_getL f w hw r k j x (by simpa using h) hj
theorem flat_lenL (f : α → List Value) (w : Nat) (hw : ∀ x, (f x).length = w) : ∀ l : List α, (l.flatMap f).length = l.length * w
  | [] => by simp
  | x :: l => by rw [List.flatMap_cons, List.length_append, hw, flat_lenL f w hw l, List.length_cons, Nat.succ_mul, Nat.add_comm]
theorem Ls.load {K : Kind α} {t : TypeId} {d : TypeDesc} (hd : Tryz.prog.underlying t = some d) (ha : aggT Tryz.prog t = true) (hz : szT Tryz.prog t = K.n) {a : Option Addr} {n : Nat} {l : List α} {k : Nat} {x : α} (hk : l[k]? = some x) :
    ORead Tryz.prog (loadS t (.pointer (a.map fun y => (y.add (k * K.n)).add 0))) (Ls K a n l) (.agg (K.vals x).toArray) := by
  refine loadN_ok (vs := K.vals x) hd ha (Ls.rd (K := K)) (k := k * K.n) (off := 0) (by rw [K.len]; exact hz) (by rw [K.len]; exact K.pos) fun j v hj => ?_
  have hlt : j < K.n := by
    have := (List.getElem?_eq_some_iff.1 hj).1
    rw [K.len] at this; exact this
  rw [Nat.add_zero, flat_getL K.vals K.n K.len l k j x hk hlt]
  exact hj
theorem Ls.load1 {K : Kind α} {t : TypeId} {d : TypeDesc} (hd : Tryz.prog.underlying t = some d) (ha : aggT Tryz.prog t = false) (hz : szT Tryz.prog t = 1) {a : Option Addr} {n : Nat} {l : List α} {k off : Nat} {x : α} {v : Value} (hk : l[k]? = some x) (hv : (K.vals x)[off]? = some v) :
    ORead Tryz.prog (loadS t (.pointer (a.map fun y => (y.add (k * K.n)).add off))) (Ls K a n l) v := by
  refine load1_ok hd ha hz (Ls.rd (K := K)) (k := k * K.n) (off := off) ?_
  have hlt : off < K.n := by
    have := (List.getElem?_eq_some_iff.1 hv).1
    rw [K.len] at this; exact this
  rw [flat_getL K.vals K.n K.len l k off x hk hlt]
  exact hv
end
section
variable {H : Type} {enc : TypeId × Value → H} {w : World} {α : Type}
theorem int_wf {x : Int} (h : (Lit.int IntKind.i64 x).wf = true) : okI x := by
  have h2 : (decide (IntKind.i64.min ≤ x) && decide (x ≤ IntKind.i64.max)) = true := h
  rw [Bool.and_eq_true] at h2
  exact ⟨of_decide_eq_true h2.1, of_decide_eq_true h2.2⟩
theorem int_openR {base : Nat} {v : Value} (hv : Value.okWide Tryz.prog w .any base 3 v) (h : ∃ d p, DataW.Trod enc Tryz.prog w 0 (fun _ => true) true 3 v d p ∧ Small Tryz.prog 3 d) : ∃ n, v = .int .i64 n ∧ okI n := by
  obtain ⟨n, rfl⟩ := int_open enc base v w hv
  obtain ⟨d, p, ⟨fuel, hf⟩, _⟩ := h
  obtain ⟨x, hx, _, hw⟩ := DataW.trod_int Tryz.underlying3 hf
  simp [Value.cells] at hx
  subst hx
  exact ⟨n, rfl, int_wf hw⟩
end
end Go.Proofs.YtbmajijnjkicmaaGreatDoor



namespace Go.Proofs.YtbmajijnjkicmaaGreatDoor
open Go.Proofs.YtbmajijnjkicmaaGreatDoor RX

structure PK (α : Type) where
  e : TypeId
  n : Nat
  pos : 0 < n
  vals : α → List Value
  len : ∀ x, (vals x).length = n
  one : ∀ x, ∀ u ∈ vals x, u.oneCell' = true
  rep : α → HP
section
variable {α : Type} (K : PK α)
def PL (a : Option Addr) (n c : Nat) (l : List α) : HP := HP.and (l.length = n) (HP.sep (OwC K.e K.n a n c (l.flatMap K.vals)) (sepN (l.map K.rep)))
def PRest (a : Option Addr) (n c : Nat) (l : List α) (k : Nat) : HP := HP.and (l.length = n) (HP.sep (OwC K.e K.n a n c (l.flatMap K.vals)) (sepN ((l.map K.rep).eraseIdx k)))
variable {K}
theorem PL.isAt {a : Option Addr} {n c : Nat} {l : List α} {R h : PH} (H : (PL K a n c l).p R h) (hn : n ≠ 0) : a.isSome = true := OwC.some (HP.sep_left H.2) (by omega)
theorem PL.rd (a : Option Addr) (n c : Nat) (l : List α) : Rd (PL K a n c l) a (l.flatMap K.vals) := Rd.impR (Rd.left (B := sepN (l.map K.rep)) (OwC.rd K.e K.n a n c (l.flatMap K.vals))) fun R h H => H.2
theorem PL.focus {a : Option Addr} {n c : Nat} {l : List α} {k : Nat} {x : α} (hk : l[k]? = some x) {R h : PH} (H : (PL K a n c l).p R h) : (HP.sep (K.rep x) (PRest K a n c l k)).p R h := by
  have H1 := HP.sep_mono H.2 (fun _ h => h) fun y hy => sepN_focus (k := k) (x := K.rep x) (by simp [hk]) hy
  exact HP.sep_mono (HP.swap H1) (fun _ h => h) fun y hy => ⟨H.1, hy⟩
end
end Go.Proofs.YtbmajijnjkicmaaGreatDoor

