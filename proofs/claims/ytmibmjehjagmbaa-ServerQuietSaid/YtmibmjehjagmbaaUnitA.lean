/- Contracts of the unit: numbers, pages. No condition. -/
import Derived.Test.YtmibmjehjagmbaaDevP
import Derived.Test.YtmibmjehjagmbaaMapV
import Derived.Test.YtmibmjehjagmbaaTrUnit
namespace Go.Proofs.Ytmibmjehjagmbaa
set_option linter.unusedSimpArgs false
set_option linter.unusedVariables false
open Go.Proofs.Ytmibmjehjagmbaa RX

def numOk (n : Int) : Bool := decide (0 ≤ n) && decide (n ≤ 2147483647)
def propOk (n r w : Int) : Bool := decide (1 ≤ n) && decide (n ≤ 2147483647) && numOk r && numOk w
def lessB (r w r' w' : Int) : Bool := decide (r < r') || (decide (r = r') && decide (w < w'))
def addrOk (n : Int) : Bool := decide (0 ≤ n) && decide (n ≤ 4294967296)
theorem unum_ok (n : Int) : Tri Try.prog 104 #[.int .i64 n] HP.tt (fun v => HP.and (v = .bool (numOk n)) HP.tt) := by
  refine tri_of_tree (ρ := [.i n]) mixed Try.func104 tree_number ?_
  unfold t_number
  simp only [T.den, E.prop, E.den, RX.look, F1.app, F2.app, Uni.int_i, Uni.nat_n, Uni.bool_c, Uni.str_s, Uni.adr_a, Uni.val_v, Uni.hp_p, hden, cden, V.den, W.den, A.den, BR.den, SA.den, FV.den, capV, exs, exP, allP, Cur.app, List.map_cons, List.map_nil, List.cons_append, List.nil_append, List.drop_succ_cons, List.drop_zero, List.length_cons, List.length_nil, Nat.zero_add, Nat.reduceAdd, Int.neg_neg, Bool.not_not, List.append_nil, Nat.add_zero, List.getElem?_cons_zero, List.getElem?_cons_succ, Decidable.not_not]
  refine ⟨fun h => .of fun R h' _ => ⟨?_, trivial⟩, fun h => .of fun R h' _ => ⟨?_, trivial⟩⟩
  · simp [numOk, h]; congr
  · simp [numOk, h]
theorem uprop_ok (n r w : Int) : Tri Try.prog 73 #[.int .i64 n, .agg #[.int .i64 r, .int .i64 w]] HP.tt (fun v => HP.and (v = .bool (propOk n r w)) HP.tt) := by
  refine tri_of_tree (ρ := [.i n, .i r, .i w]) mixed Try.func73 tree_proposal ?_
  unfold t_proposal
  simp only [T.den, E.prop, E.den, RX.look, F1.app, F2.app, Uni.int_i, Uni.nat_n, Uni.bool_c, Uni.str_s, Uni.adr_a, Uni.val_v, Uni.hp_p, hden, cden, V.den, W.den, A.den, BR.den, SA.den, FV.den, capV, exs, exP, allP, Cur.app, List.map_cons, List.map_nil, List.cons_append, List.nil_append, List.drop_succ_cons, List.drop_zero, List.length_cons, List.length_nil, Nat.zero_add, Nat.reduceAdd, Int.neg_neg, Bool.not_not, List.append_nil, Nat.add_zero, List.getElem?_cons_zero, List.getElem?_cons_succ, Decidable.not_not]
  refine fun x => ⟨fun h1 => ⟨fun h2 => ?_, fun h2 => .of fun R h' _ => ⟨?_, trivial⟩⟩, fun h1 => .of fun R h' _ => ⟨?_, trivial⟩⟩
  · refine (unum_ok r).weak (fun _ _ h => h) ?_
    rintro v R h ⟨rfl, H⟩
    refine ⟨_, rfl, ⟨fun h3 => ?_, fun h3 => .of fun R h' _ => ⟨?_, trivial⟩⟩, H⟩
    · refine (unum_ok w).weak (fun _ _ h => h) ?_
      rintro v R h ⟨rfl, H⟩
      refine ⟨_, rfl, .of fun R h' _ => ⟨?_, trivial⟩, H⟩
      simp [propOk, h1, h2, h3]
    · simp only [Bool.not_eq_true] at h3; simp [propOk, h3]
  · simp [propOk, h2]
  · simp [propOk, h1]
theorem uless_ok (r w r' w' : Int) : Tri Try.prog 74 #[.agg #[.int .i64 r, .int .i64 w], .agg #[.int .i64 r', .int .i64 w']] HP.tt (fun v => HP.and (v = .bool (lessB r w r' w')) HP.tt) := by
  refine tri_of_tree (ρ := [.i r, .i w, .i r', .i w']) mixed Try.func74 tree_less ?_
  unfold t_less
  simp only [T.den, E.prop, E.den, RX.look, F1.app, F2.app, Uni.int_i, Uni.nat_n, Uni.bool_c, Uni.str_s, Uni.adr_a, Uni.val_v, Uni.hp_p, hden, cden, V.den, W.den, A.den, BR.den, SA.den, FV.den, capV, exs, exP, allP, Cur.app, List.map_cons, List.map_nil, List.cons_append, List.nil_append, List.drop_succ_cons, List.drop_zero, List.length_cons, List.length_nil, Nat.zero_add, Nat.reduceAdd, Int.neg_neg, Bool.not_not, List.append_nil, Nat.add_zero, List.getElem?_cons_zero, List.getElem?_cons_succ, Decidable.not_not]
  refine fun x y => ⟨fun h1 => .of fun R h' _ => ⟨?_, trivial⟩, fun h1 => ⟨fun h2 => .of fun R h' _ => ⟨?_, trivial⟩, fun h2 => .of fun R h' _ => ⟨?_, trivial⟩⟩⟩
  · simp [lessB, h1]
  · simp [lessB, h1, h2]
  · simp [lessB, h1, h2]
theorem uaddr_ok (n : Int) : Tri Try.prog 103 #[.int .i64 n] HP.tt (fun v => HP.and (v = .bool (addrOk n)) HP.tt) := by
  refine tri_of_tree (ρ := [.i n]) mixed Try.func103 tree_address ?_
  unfold t_address
  simp only [T.den, E.prop, E.den, RX.look, F1.app, F2.app, Uni.int_i, Uni.nat_n, Uni.bool_c, Uni.str_s, Uni.adr_a, Uni.val_v, Uni.hp_p, hden, cden, V.den, W.den, A.den, BR.den, SA.den, FV.den, capV, exs, exP, allP, Cur.app, List.map_cons, List.map_nil, List.cons_append, List.nil_append, List.drop_succ_cons, List.drop_zero, List.length_cons, List.length_nil, Nat.zero_add, Nat.reduceAdd, Int.neg_neg, Bool.not_not, List.append_nil, Nat.add_zero, List.getElem?_cons_zero, List.getElem?_cons_succ, Decidable.not_not]
  refine ⟨fun h => .of fun R h' _ => ⟨?_, trivial⟩, fun h => .of fun R h' _ => ⟨?_, trivial⟩⟩
  · simp [addrOk, h]; congr
  · simp [addrOk, h]
def standB (what : Int) (n : Nat) : Bool := if what = 1 then decide ((n : Int) ≤ 65536) else if what = 2 then decide ((n : Int) = 0) else false
theorem ustand_ok (what : Int) (a : Option Addr) (n c : Nat) (S : HP) : Tri Try.prog 95 #[.agg #[.int .i64 what, .slice a n c]] S (fun v => HP.and (v = .bool (standB what n)) S) := by
  refine tri_of_tree (ρ := [.i what, .a a, .n n, .n c, .p S]) mixed Try.func95 tree_standing ?_
  unfold t_standing
  simp only [T.den, E.prop, E.den, RX.look, F1.app, F2.app, Uni.int_i, Uni.nat_n, Uni.bool_c, Uni.str_s, Uni.adr_a, Uni.val_v, Uni.hp_p, hden, cden, V.den, W.den, A.den, BR.den, SA.den, FV.den, capV, exs, exP, allP, Cur.app, List.map_cons, List.map_nil, List.cons_append, List.nil_append, List.drop_succ_cons, List.drop_zero, List.length_cons, List.length_nil, Nat.zero_add, Nat.reduceAdd, Int.neg_neg, Bool.not_not, List.append_nil, Nat.add_zero, List.getElem?_cons_zero, List.getElem?_cons_succ, Decidable.not_not]
  refine fun x => ⟨fun h1 => .of fun R h' H => ⟨?_, H⟩, fun h1 => ⟨fun h2 => .of fun R h' H => ⟨?_, H⟩, fun h2 => .of fun R h' H => ⟨?_, H⟩⟩⟩
  · simp [standB, h1]
  · simp [standB, h2]
  · simp [standB, h1, h2]
theorem wrap_u64 (x : Int) : 0 ≤ IntKind.u64.wrap x := by
  show (0 : Int) ≤ x % (2 ^ 64)
  exact Int.emod_nonneg _ (by decide)
theorem Tri.pre {P : Program} {f : FuncId} {args : Array Value} {A A' : HP} {B : Value → HP} (t : Tri P f args A B) (e : HP.ent A' A) : Tri P f args A' B :=
  t.conseq (K := HP.tt) (e.trans (.of fun _ _ => HP.sep_tt)) fun _ => .of fun _ _ => HP.sep_left
/-- A page: its kind, its numbers. -/
def pageL (k : UInt8) (ns : List Int) : List UInt8 := k :: ns.flatMap fun n => beN (IntKind.u64.wrap n).toNat 8
theorem pageL_len (k : UInt8) (ns : List Int) : (pageL k ns).length = 1 + 8 * ns.length := by
  unfold pageL
  rw [List.length_cons]
  induction ns with
  | nil => rfl
  | cons x r ih => rw [List.flatMap_cons, List.length_append, beN_len, List.length_cons]; omega
theorem upage_ok (k : UInt8) (a : Option Addr) (n c : Nat) (ns : List Int) (S : HP) (hr : Rd S a (ns.map fun x => .int .i64 x)) (hl : ns.length = n) (ha : n ≠ 0 → a.isSome = true) (hn : n ≤ 1000) :
    Tri Try.prog 76 #[u8v k, .slice a n c] S (fun v => HP.ex fun b => HP.and (v = .pointer (some ⟨b, 0, none⟩)) (HP.sep S (WRep b (pageL k ns)))) := by
  refine tri_of_tree (ρ := [.i k.toNat, .a a, .n n, .n c, .p S]) mixed Try.func76 tree_page ?_
  unfold t_page
  simp only [T.den, E.prop, E.den, RX.look, F1.app, F2.app, Uni.int_i, Uni.nat_n, Uni.bool_c, Uni.str_s, Uni.adr_a, Uni.val_v, Uni.hp_p, hden, cden, V.den, W.den, A.den, BR.den, SA.den, FV.den, capV, exs, exP, allP, Cur.app, List.map_cons, List.map_nil, List.cons_append, List.nil_append, List.drop_succ_cons, List.drop_zero, List.length_cons, List.length_nil, Nat.zero_add, Nat.reduceAdd, Int.neg_neg, Bool.not_not, List.append_nil, Nat.add_zero, List.getElem?_cons_zero, List.getElem?_cons_succ, Decidable.not_not]
  intro b
  refine (wByte_ok b [] k (by simp)).weak (fun R h H => ⟨none, 0, HP.sep_mono (HP.sep_tt H) (fun _ h => h) fun y _ => OwC.nil _ _ R y⟩) ?_
  rintro v R h ⟨rfl, H⟩
  refine ⟨WRep b [k], rfl, ⟨fun x P => ∃ j : Nat, x = j ∧ j ≤ n ∧ HP.ent P (WRep b (pageL k (ns.take j))), fun x _ => n - x.toNat, ⟨0, rfl, Nat.zero_le _, .refl _⟩, ?_⟩, H⟩
  rintro _ P ⟨j, rfl, hj, hP⟩
  refine ⟨fun hlt => ⟨by omega, fun _ => ⟨ha (by omega), fun _ => ?_⟩⟩, fun hge => ?_⟩
  · have hg : ns[j]? = some (ns[j]'(by omega)) := List.getElem?_eq_getElem (by omega)
    refine ⟨ns[j]'(by omega), ?_, ?_⟩
    · have := load1_ok (t := 3) (d := .int .i64) (by kernel_rfl) (by kernel_rfl) (by kernel_rfl) hr (k := j) (off := 0) (v := .int .i64 (ns[j]'(by omega))) (by rw [Nat.add_zero, List.getElem?_map, hg]; rfl)
      rw [semOf_load]
      simp only [T.den, E.prop, E.den, RX.look, F1.app, F2.app, Uni.int_i, Uni.nat_n, Uni.bool_c, Uni.str_s, Uni.adr_a, Uni.val_v, Uni.hp_p, hden, cden, V.den, W.den, A.den, BR.den, SA.den, FV.den, capV, exs, exP, allP, Cur.app, List.map_cons, List.map_nil, List.cons_append, List.nil_append, List.drop_succ_cons, List.drop_zero, List.length_cons, List.length_nil, Nat.zero_add, Nat.reduceAdd, Int.neg_neg, Bool.not_not, List.append_nil, Nat.add_zero, List.getElem?_cons_zero, List.getElem?_cons_succ, Decidable.not_not]
      rw [Int.toNat_natCast, Nat.mul_one]
      exact this
    · have hw : IntKind.u64.wrap (ns[j]'(by omega)) = ((IntKind.u64.wrap (ns[j]'(by omega))).toNat : Int) := (Int.toNat_of_nonneg (wrap_u64 _)).symm
      rw [hw]
      refine ((wNumber_ok b (pageL k (ns.take j)) (IntKind.u64.wrap (ns[j]'(by omega))).toNat 8 (Nat.le_refl _) (by rw [pageL_len, List.length_take]; omega)).pre hP).weak (fun _ _ h => h) ?_
      rintro v R h ⟨rfl, H⟩
      refine ⟨_, rfl, ⟨inI64 _ (by omega) (by omega), fun _ => ⟨⟨j + 1, by omega, by omega, .refl _⟩, by dsimp only; omega⟩⟩, ?_⟩
      have e : pageL k (ns.take (j + 1)) = pageL k (ns.take j) ++ beN (IntKind.u64.wrap (ns[j]'(by omega))).toNat 8 := by
        have : ns.take (j + 1) = ns.take j ++ [ns[j]'(by omega)] := by rw [List.take_add_one, hg]; rfl
        rw [this]
        simp only [pageL, List.flatMap_append, List.flatMap_cons, List.flatMap_nil, List.append_nil, List.cons_append]
      rw [e]
      exact H
  · have : j = n := by omega
    subst this
    rw [List.take_of_length_le (by omega)] at hP
    exact ((HP.ent.refl _).sep2 hP).trans (.of fun R h H => ⟨b, rfl, H⟩)
/-- What is kept of a cell. -/
structure CellS where
  what : Int
  data : List UInt8
def cellL (at' : Int) (x : CellS) : List UInt8 := if x.what = 2 then pageL 2 [at'] else pageL 1 [at'] ++ beN x.data.length 4 ++ x.data
theorem ucellPage_ok (at' what : Int) (a : Option Addr) (n c : Nat) (d : List UInt8) (S : HP) (hr : RdL S a n (d.map u8v)) (hl : d.length = n) (hn : n ≤ 100000000) (ha : n ≠ 0 → a.isSome = true) :
    Tri Try.prog 96 #[.int .i64 at', .agg #[.int .i64 what, .slice a n c]] S (fun v => HP.ex fun a' => HP.ex fun c' => HP.and (v = .slice a' (cellL at' ⟨what, d⟩).length c') (HP.sep S (OwB a' (cellL at' ⟨what, d⟩).length c' (cellL at' ⟨what, d⟩)))) := by
  refine tri_of_tree (ρ := [.i at', .i what, .a a, .n n, .n c, .p S]) mixed Try.func96 tree_cellPage ?_
  unfold t_cellPage
  simp only [T.den, E.prop, E.den, RX.look, F1.app, F2.app, Uni.int_i, Uni.nat_n, Uni.bool_c, Uni.str_s, Uni.adr_a, Uni.val_v, Uni.hp_p, hden, cden, V.den, W.den, A.den, BR.den, SA.den, FV.den, capV, exs, exP, allP, Cur.app, List.map_cons, List.map_nil, List.cons_append, List.nil_append, List.drop_succ_cons, List.drop_zero, List.length_cons, List.length_nil, Nat.zero_add, Nat.reduceAdd, Int.neg_neg, Bool.not_not, List.append_nil, Nat.add_zero, List.getElem?_cons_zero, List.getElem?_cons_succ, Decidable.not_not]
  have rd1 : ∀ y, Rd (HP.one y (.cells #[.int .i64 at'] 3)) (some ⟨y, 0, none⟩) ([at'].map fun x => .int .i64 x) := fun y => one_rd y #[.int .i64 at'] _
  refine fun x => ⟨fun hw y => ?_, fun hw y => ?_⟩
  · refine (upage_ok 2 (some ⟨y, 0, none⟩) 1 1 [at'] _ (rd1 y) rfl (fun _ => rfl) (by omega)).weak (fun _ _ h => h) ?_
    rintro v R h ⟨b, rfl, H⟩
    refine ⟨b, WRep b (pageL 2 [at']), at', rfl, ?_, HP.sep_comm H⟩
    refine (wOut_ok b (pageL 2 [at']) (by rw [pageL_len]; simp)).weak (fun _ _ h => h) ?_
    rintro v R h ⟨a', c', rfl, H⟩
    have e : cellL at' ⟨what, d⟩ = pageL 2 [at'] := if_pos hw
    rw [e]
    exact ⟨a', _, c', OwB a' (pageL 2 [at']).length c' (pageL 2 [at']), _, rfl, .of fun R h H => ⟨a', c', rfl, H⟩, HP.sep_comm H⟩
  · refine (upage_ok 1 (some ⟨y, 0, none⟩) 1 1 [at'] _ (rd1 y) rfl (fun _ => rfl) (by omega)).weak (fun _ _ h => h) ?_
    rintro v R h ⟨b, rfl, H⟩
    refine ⟨b, WRep b (pageL 1 [at']), at', rfl, ?_, HP.sep_comm H⟩
    refine (wBytes_ok b (pageL 1 [at']) a n c d S hr hl ha (by rw [pageL_len]; simp only [List.length_cons, List.length_nil]; omega)).weak (fun _ _ h => h) ?_
    rintro v R h ⟨rfl, H⟩
    refine ⟨_, S, rfl, ?_, H⟩
    refine (wOut_ok b _ (by rw [List.length_append, List.length_append, pageL_len, beN_len]; simp only [List.length_cons, List.length_nil]; omega)).weak (fun _ _ h => h) ?_
    rintro v R h ⟨a', c', rfl, H⟩
    have e : cellL at' ⟨what, d⟩ = pageL 1 [at'] ++ beN n 4 ++ d := by simp only [cellL]; rw [if_neg hw, hl]
    rw [e]
    exact ⟨a', _, c', OwB a' _ c' _, _, rfl, .of fun R h H => ⟨a', c', rfl, H⟩, HP.sep_comm H⟩
end Go.Proofs.Ytmibmjehjagmbaa
