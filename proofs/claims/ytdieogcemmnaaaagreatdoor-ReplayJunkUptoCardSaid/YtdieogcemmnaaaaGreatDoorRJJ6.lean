/- Texts of this claim, joined. No condition. -/
import Derived.Test.YtdieogcemmnaaaaGreatDoorRJJ1
import Derived.Test.YtdieogcemmnaaaaGreatDoorRJJ4
import Derived.Test.YtdieogcemmnaaaaGreatDoorRJJ5
import Derived.KernelRfl
import Derived.Laws.StructEq
set_option linter.unusedSimpArgs false
set_option linter.unusedVariables false

namespace Go.Proofs.YtdieogcemmnaaaaGreatDoor
set_option linter.unusedSimpArgs false
set_option linter.unusedVariables false
open Go.Proofs.YtdieogcemmnaaaaGreatDoor RX
set_option maxRecDepth 100000

theorem quo256 (v m : Nat) : (((v / 256 ^ m : Nat) : Int)).tdiv 256 = ((v / 256 ^ (m + 1) : Nat) : Int) := by
  rw [Nat.pow_succ, ← Nat.div_div_eq_div_mul]
  exact (Int.ofNat_tdiv _ _).symm
theorem byteAt_rem (v k j : Nat) (hj : j < k) : IntKind.u8.wrap ((((v / 256 ^ (k - 1 - j) : Nat) : Int)).tmod 256) = ((byteAt v k j).toNat : Int) := by
  have e1 : (((v / 256 ^ (k - 1 - j) : Nat) : Int)).tmod 256 = ((v / 256 ^ (k - 1 - j) % 256 : Nat) : Int) := (Int.ofNat_tmod _ _).symm
  have e2 : (256 : Nat) ^ (k - 1 - j) = 2 ^ (8 * (k - 1 - j)) := by rw [Nat.pow_mul]
  rw [e1, e2]
  simp only [IntKind.wrap, IntKind.bits, IntKind.signed, byteAt, UInt8.toNat_ofNat', Bool.false_and, Bool.false_eq_true, if_false]
  omega
set_option maxHeartbeats 1000000 in
theorem r1Put_ok (a : Option Addr) (c : Nat) (l : List UInt8) (v k : Nat) (hk : k ≤ 8) (hv : v < 18446744073709551616) (hb : l.length + 8 ≤ 140737488355328) :
    Tri Tryz.prog 102 #[.slice a l.length c, .int .u64 v, .int .i64 k] (OwB a l.length c l) (fun x => HP.ex fun a' => HP.ex fun c' => HP.and (x = .slice a' (l.length + k) c') (OwB a' (l.length + k) c' (l ++ beN v k))) := by
  refine tri_of_tree (ρ := [.a a, .n l.length, .n c, .p (OwB a l.length c l), .i v, .i k]) mixed Tryz.func102 tree_r1Put ?_
  unfold t_r1Put
  simp only [T.den, E.prop, E.den, RX.look, F1.app, F2.app, Uni.int_i, Uni.nat_n, Uni.bool_c, Uni.str_s, Uni.adr_a, Uni.val_v, Uni.hp_p, hden, cden, V.den, W.den, A.den, BR.den, SA.den, FV.den, capV, exs, exP, allP, Cur.app, List.map_cons, List.map_nil, List.cons_append, List.nil_append, List.drop_succ_cons, List.drop_zero, List.length_cons, List.length_nil, Nat.zero_add, Nat.reduceAdd, Int.neg_neg, Bool.not_not, List.append_nil, Nat.add_zero, List.getElem?_cons_zero, List.getElem?_cons_succ, Decidable.not_not, semW_eq, semW_append, ne_eq, Nat.reduceEqDiff, not_false_eq_true]
  refine ⟨fun h => by omega, fun _ => ⟨inI64 _ (by omega) (by omega), fun _ => ?_⟩⟩
  refine ⟨fun a n c i P => ∃ j : Nat, j ≤ k ∧ n = l.length + j ∧ i = (k : Int) - 1 - j ∧ HP.ent P (OwB a (l.length + j) c (l ++ (beN v k).take j)), fun _ _ _ i _ => (i + 1).toNat, ⟨0, Nat.zero_le _, rfl, by simp, by simpa using HP.ent.refl _⟩, ?_⟩
  rintro a n c i P ⟨j, hj, rfl, rfl, hP⟩
  refine ⟨fun hge => ?_, fun hlt => ?_⟩
  · have hjk : j < k := by omega
    refine ⟨fun x q => ∃ m : Nat, m ≤ k - 1 - j ∧ q = m ∧ x = ((v / 256 ^ m : Nat) : Int), fun _ q => (k - 1 - j) - q.toNat, ⟨0, Nat.zero_le _, rfl, by simp⟩, ?_⟩
    rintro x q ⟨m, hm, rfl, rfl⟩
    refine ⟨fun hlt => ?_, fun hge2 => ?_⟩
    · rw [quo256]
      have h1 : v / 256 ^ (m + 1) ≤ v := Nat.div_le_self _ _
      have h2 : ∃ w : Nat, v / 256 ^ (m + 1) = w := ⟨_, rfl⟩
      refine ⟨inU64 _ (Int.natCast_nonneg _) (by obtain ⟨w, hw⟩ := h2; rw [hw] at h1 ⊢; omega), fun _ => ⟨inI64 _ (by omega) (by omega), fun _ => ⟨⟨m + 1, by omega, by omega, rfl⟩, by dsimp only; omega⟩⟩⟩
    · obtain rfl : m = k - 1 - j := by omega
      intro y
      rw [byteAt_rem v k j hjk]
      refine OTri.pre3 ((append8 a (l.length + j) c (l ++ (beN v k).take j) _ (some ⟨y, 0, none⟩) 1 1 [byteAt v k j] ⟨one_rd y #[u8v (byteAt v k j)] _, fun _ _ _ e => by cases e⟩ rfl (fun _ => rfl) (by omega)).weak (fun _ _ h => h) ?_) (HP.ent.sep hP _)
      rintro r R h ⟨a', c', rfl, H⟩
      refine ⟨a', l.length + j + 1, c', _, rfl, ⟨inI64 _ (by omega) (by omega), fun _ => ⟨⟨j + 1, hjk, rfl, by omega, ?_⟩, by dsimp only; omega⟩⟩, H⟩
      rw [beN_take v k j hjk, ← List.append_assoc]
      exact HP.ent.refl _
  · obtain rfl : j = k := by omega
    refine hP.trans (.of fun R h H => ⟨a, c, rfl, ?_⟩)
    rw [List.take_of_length_le (by rw [beN_len]; exact Nat.le_refl _)] at H
    exact H
def lenB' (q : List UInt8) : List UInt8 := beN q.length 4 ++ q
theorem lenB'_len (q : List UInt8) : (lenB' q).length = q.length + 4 := by unfold lenB'; simp [beN_len]; omega
theorem wrapU {x : Nat} (h : x < 18446744073709551616) : IntKind.u64.wrap (x : Int) = x := wrap_in ⟨by show (0 : Int) ≤ _; omega, by show _ ≤ (18446744073709551615 : Int); omega⟩
theorem linksN_lt' (u : Int) : linksN u < 18446744073709551616 := by
  have h1 := linksN_val u
  simp only [IntKind.wrap, IntKind.bits, IntKind.signed, Bool.false_and, Bool.false_eq_true, if_false] at h1
  omega
def Enc (S : HP) (q : List UInt8) (v : Value) : HP := HP.ex fun a' : Option Addr => HP.ex fun c' : Nat => HP.and (v = .slice a' q.length c') (HP.sep (OwB a' q.length c' q) S)
theorem r1PutE (a : Option Addr) (c : Nat) (l : List UInt8) (v k : Nat) (hk : k ≤ 8) (hv : v < 18446744073709551616) (hb : l.length + 8 ≤ 140737488355328) :
    Tri Tryz.prog 102 #[.slice a l.length c, .int .u64 v, .int .i64 k] (OwB a l.length c l) (Enc HP.tt (l ++ beN v k)) := by
  refine (r1Put_ok a c l v k hk hv hb).weak (fun _ _ h => h) ?_
  rintro r R h ⟨a', c', rfl, H⟩
  refine ⟨a', c', ?_, ?_⟩
  · rw [List.length_append, beN_len]
  · rw [List.length_append, beN_len]; exact HP.sep_tt H
theorem r1Bytes_ok (a : Option Addr) (c : Nat) (l : List UInt8) (b : Option Addr) (d : Nat) (q : List UInt8) (S : HP) (hr : RdL S b q.length (q.map u8v)) (hs : q.length ≠ 0 → b.isSome = true) (hb : l.length + q.length + 100 ≤ 140737488355328) :
    Tri Tryz.prog 104 #[.slice a l.length c, .slice b q.length d] (HP.sep (OwB a l.length c l) S) (Enc S (l ++ lenB' q)) := by
  refine tri_of_tree (ρ := [.a a, .n l.length, .n c, .p (OwB a l.length c l), .a b, .n q.length, .n d, .p S]) mixed Tryz.func104 tree_r1Bytes ?_
  unfold t_r1Bytes
  simp only [T.den, E.prop, E.den, RX.look, F1.app, F2.app, Uni.int_i, Uni.nat_n, Uni.bool_c, Uni.str_s, Uni.adr_a, Uni.val_v, Uni.hp_p, hden, cden, V.den, W.den, A.den, BR.den, SA.den, FV.den, capV, exs, exP, allP, Cur.app, List.map_cons, List.map_nil, List.cons_append, List.nil_append, List.drop_succ_cons, List.drop_zero, List.length_cons, List.length_nil, Nat.zero_add, Nat.reduceAdd, Int.neg_neg, Bool.not_not, List.append_nil, Nat.add_zero, List.getElem?_cons_zero, List.getElem?_cons_succ, Decidable.not_not, semW_eq, semW_append, ne_eq, Nat.reduceEqDiff, not_false_eq_true]
  rw [wrapU (by omega)]
  refine (r1Put_ok a c l q.length 4 (by omega) (by omega) (by omega)).weak (fun _ _ h => h) ?_
  rintro v R h ⟨a1, c1, rfl, H⟩
  refine ⟨a1, l.length + 4, c1, OwB a1 (l.length + 4) c1 (l ++ beN q.length 4), HP.tt, rfl, ?_, HP.sep_tt H⟩
  clear H
  refine (append8 a1 (l.length + 4) c1 (l ++ beN q.length 4) S b q.length d q hr rfl hs (by omega)).weak (fun _ _ h => h) ?_
  rintro v R h ⟨a2, c2, rfl, H⟩
  refine ⟨a2, l.length + 4 + q.length, c2, OwB a2 (l.length + 4 + q.length) c2 (l ++ beN q.length 4 ++ q), rfl, .of fun R h H => ⟨a2, c2, ?_, ?_⟩, H⟩
  · rw [List.length_append, lenB'_len, Nat.add_assoc, Nat.add_comm 4]
  · have H2 := HP.sep_right H
    rw [List.length_append, lenB'_len, show l ++ lenB' q = l ++ beN q.length 4 ++ q by unfold lenB'; rw [List.append_assoc], show l.length + (q.length + 4) = l.length + 4 + q.length by omega]
    exact HP.sep_comm H2
theorem r1Text_ok (a : Option Addr) (c : Nat) (l : List UInt8) (s : Nm) (hb : l.length + s.length + 100 ≤ 140737488355328) :
    Tri Tryz.prog 109 #[.slice a l.length c, sE s] (OwB a l.length c l) (Enc HP.tt (l ++ lenB' s)) := by
  refine tri_of_tree (ρ := [.a a, .n l.length, .n c, .p (OwB a l.length c l), .s s]) mixed Tryz.func109 tree_r1Text ?_
  unfold t_r1Text
  simp only [T.den, E.prop, E.den, RX.look, F1.app, F2.app, Uni.int_i, Uni.nat_n, Uni.bool_c, Uni.str_s, Uni.adr_a, Uni.val_v, Uni.hp_p, hden, cden, V.den, W.den, A.den, BR.den, SA.den, FV.den, capV, exs, exP, allP, Cur.app, List.map_cons, List.map_nil, List.cons_append, List.nil_append, List.drop_succ_cons, List.drop_zero, List.length_cons, List.length_nil, Nat.zero_add, Nat.reduceAdd, Int.neg_neg, Bool.not_not, List.append_nil, Nat.add_zero, List.getElem?_cons_zero, List.getElem?_cons_succ, Decidable.not_not, semW_eq, ne_eq, Nat.reduceEqDiff, not_false_eq_true]
  rw [semW_cnv]
  refine (strB_ok s HP.tt).weak (fun _ _ h => h) ?_
  rintro v R h ⟨z, c2, ⟨rfl, hc⟩, H⟩
  refine ⟨some ⟨z, 0, none⟩, _, c2, RoB (some ⟨z, 0, none⟩) s.length s, rfl, ?_, HP.sep_left H⟩
  clear H
  refine (r1Bytes_ok a c l (some ⟨z, 0, none⟩) c2 s (RoB (some ⟨z, 0, none⟩) s.length s) (RdL.ro _ _ _ _) (fun _ => rfl) hb).weak (fun _ _ h => h) ?_
  rintro v R h ⟨a2, c3, rfl, H⟩
  refine ⟨a2, _, c3, OwB a2 (l ++ lenB' s).length c3 (l ++ lenB' s), HP.tt, rfl, .of fun R h H => ⟨a2, c3, rfl, HP.sep_comm H⟩, HP.sep_mono H (fun _ h => h) fun x hx => HP.tt_sep hx⟩
theorem r5Int_ok (a : Option Addr) (c : Nat) (l : List UInt8) (n : Int) (hb : l.length + 100 ≤ 140737488355328) :
    Tri Tryz.prog 103 #[.slice a l.length c, .int .i64 n] (OwB a l.length c l) (Enc HP.tt (l ++ beN (linksN n) 8)) := by
  refine tri_of_tree (ρ := [.a a, .n l.length, .n c, .p (OwB a l.length c l), .i n]) mixed Tryz.func103 tree_r5Int ?_
  unfold t_r5Int
  simp only [T.den, E.prop, E.den, RX.look, F1.app, F2.app, Uni.int_i, Uni.nat_n, Uni.bool_c, Uni.str_s, Uni.adr_a, Uni.val_v, Uni.hp_p, hden, cden, V.den, W.den, A.den, BR.den, SA.den, FV.den, capV, exs, exP, allP, Cur.app, List.map_cons, List.map_nil, List.cons_append, List.nil_append, List.drop_succ_cons, List.drop_zero, List.length_cons, List.length_nil, Nat.zero_add, Nat.reduceAdd, Int.neg_neg, Bool.not_not, List.append_nil, Nat.add_zero, List.getElem?_cons_zero, List.getElem?_cons_succ, Decidable.not_not, semW_eq, ne_eq, Nat.reduceEqDiff, not_false_eq_true]
  rw [← linksN_val]
  refine (r1Put_ok a c l (linksN n) 8 (by omega) (linksN_lt' n) (by omega)).weak (fun _ _ h => h) ?_
  rintro v R h ⟨a1, c1, rfl, H⟩
  refine ⟨a1, l.length + 8, c1, OwB a1 (l.length + 8) c1 (l ++ beN (linksN n) 8), HP.tt, rfl, .of fun R h H => ⟨a1, c1, ?_, ?_⟩, HP.sep_tt H⟩
  · rw [List.length_append, beN_len]
  · rw [List.length_append, beN_len]; exact HP.sep_comm H

def bit1 (s : Nat) : Nat := if s % 2 = 1 then s / 2 ^^^ 3988292384 else s / 2
def bits1 : Nat → Nat → Nat | 0, s => s | k + 1, s => bits1 k (bit1 s)
theorem bits1_succ (k s : Nat) : bits1 (k + 1) s = bit1 (bits1 k s) := by
  induction k generalizing s with
  | zero => rfl
  | succ k ih => show bits1 (k + 1) (bit1 s) = _; rw [ih]; rfl
theorem bit1_xor (a b : Nat) : bit1 (a ^^^ b) = bit1 a ^^^ bit1 b := by
  have h2 : (a ^^^ b) / 2 = a / 2 ^^^ b / 2 := Nat.xor_div_two
  have h1 : (a ^^^ b) % 2 = (a % 2) ^^^ (b % 2) := by
    have := Nat.xor_mod_two_pow (a := a) (b := b) (n := 1)
    simpa using this
  unfold bit1
  rw [h1, h2]
  rcases Nat.mod_two_eq_zero_or_one a with ha | ha <;> rcases Nat.mod_two_eq_zero_or_one b with hb | hb <;> rw [ha, hb]
  · simp
  · simp [Nat.xor_assoc]
  · simp only [Nat.xor_zero, if_true, Nat.zero_ne_one, if_false]
    rw [Nat.xor_assoc, Nat.xor_comm (b / 2), ← Nat.xor_assoc]
  · have : ¬ ((1 : Nat) ^^^ 1 = 1) := by decide
    rw [if_neg this, if_pos rfl, if_pos rfl]
    rw [Nat.xor_assoc, Nat.xor_comm (b / 2), ← Nat.xor_assoc 3988292384, Nat.xor_self, Nat.zero_xor]
theorem bit1_even (q : Nat) : bit1 (2 * q) = q := by
  unfold bit1
  rw [if_neg (by omega)]; omega
theorem split16 (s : Nat) : s = (2 ^ 4 * (s / 16)) ^^^ (s % 16) := by
  have h16 : s % 16 < 2 ^ 4 := by omega
  have e : s = 2 ^ 4 * (s / 16) + s % 16 := by omega
  conv => lhs; rw [e]
  apply Nat.eq_of_testBit_eq
  intro j
  rw [Nat.testBit_two_pow_mul_add _ h16, Nat.testBit_xor, Nat.testBit_two_pow_mul]
  by_cases hj : j < 4
  · rw [if_pos hj]
    have : ¬ 4 ≤ j := by omega
    simp [this]
  · rw [if_neg hj]
    have h4 : 4 ≤ j := by omega
    have : (s % 16).testBit j = false := Nat.testBit_lt_two_pow (Nat.lt_of_lt_of_le h16 (Nat.pow_le_pow_right (by decide) h4))
    simp [this, h4]
theorem bits4 (s : Nat) : bits1 4 s = nib s := by
  have hx : ∀ a b : Nat, bits1 4 (a ^^^ b) = bits1 4 a ^^^ bits1 4 b := fun a b => by
    simp only [bits1, bit1_xor]
  have hm : ∀ q : Nat, bits1 4 (2 ^ 4 * q) = q := fun q => by
    simp only [bits1]
    rw [show 2 ^ 4 * q = 2 * (2 * (2 * (2 * q))) by omega, bit1_even, bit1_even, bit1_even, bit1_even]
  have hr : ∀ r < 16, bits1 4 r = fours[r]?.getD 0 := by decide
  have e := split16 s
  conv => lhs; rw [e]
  rw [hx, hm, hr _ (by omega)]
  rfl
theorem bits8 (s : Nat) : bits1 8 s = nib (nib s) := by
  rw [← bits4 s, ← bits4]; rfl
theorem bit1_lt {s : Nat} (h : s < 4294967296) : bit1 s < 4294967296 := by
  unfold bit1
  split
  · exact xor32 (by omega) (by omega)
  · omega
theorem bits1_lt {s : Nat} (h : s < 4294967296) : ∀ k, bits1 k s < 4294967296
  | 0 => h
  | k + 1 => by rw [bits1_succ]; exact bit1_lt (bits1_lt h k)
theorem compl32 {x : Nat} (h : x < 4294967296) : (4294967295 : Nat) ^^^ x = 4294967295 - x := by
  have e := congrArg BitVec.toNat (BitVec.allOnes_xor (x := BitVec.ofNat 32 x))
  rw [BitVec.toNat_xor, BitVec.toNat_not, BitVec.toNat_allOnes, BitVec.toNat_ofNat, Nat.mod_eq_of_lt (by simpa using h)] at e
  simpa using e
set_option maxHeartbeats 1000000 in
theorem r2Sum_ok (a : Option Addr) (n c : Nat) (l : List UInt8) (S : HP) (hr : RdL S a n (l.map u8v)) (hl : l.length = n) (ha : n ≠ 0 → a.isSome = true) (hb : n ≤ 140737488355328) :
    Tri Tryz.prog 166 #[.slice a n c] S (fun v => HP.and (v = .int .u32 (sumS l : Nat)) S) := by
  refine tri_of_tree (ρ := [.a a, .n n, .n c, .p S]) mixed Tryz.func166 tree_r2Sum ?_
  unfold t_r2Sum
  simp only [T.den, E.prop, E.den, RX.look, F1.app, F2.app, Uni.int_i, Uni.nat_n, Uni.bool_c, Uni.str_s, Uni.adr_a, Uni.val_v, Uni.hp_p, hden, cden, V.den, W.den, A.den, BR.den, SA.den, FV.den, capV, exs, exP, allP, Cur.app, List.map_cons, List.map_nil, List.cons_append, List.nil_append, List.drop_succ_cons, List.drop_zero, List.length_cons, List.length_nil, Nat.zero_add, Nat.reduceAdd, Int.neg_neg, Bool.not_not, List.append_nil, Nat.add_zero, List.getElem?_cons_zero, List.getElem?_cons_succ, Decidable.not_not, semW_eq, semW_load, ne_eq, Nat.reduceEqDiff, not_false_eq_true]
  refine ⟨fun s i => ∃ k : Nat, k ≤ n ∧ i = k ∧ s = ((crcS 4294967295 (l.take k) : Nat) : Int), fun _ i => n - i.toNat, ⟨0, Nat.zero_le _, rfl, rfl⟩, ?_⟩
  rintro _ _ ⟨k, hk, rfl, rfl⟩
  have hlt32 : crcS 4294967295 (l.take k) < 4294967296 := crcS_lt (by decide) _
  refine ⟨fun hlt => ?_, fun hge => ?_⟩
  · have hkl : k < l.length := by omega
    obtain ⟨b, hbk⟩ : ∃ b, l[k]? = some b := ⟨_, List.getElem?_eq_getElem hkl⟩
    have hb8 := b.toNat_lt
    refine ⟨by omega, fun _ => ⟨ha (by omega), fun _ => ⟨b.toNat, load1_ok und8b agg8 sz8 hr.rd (k := k * 1) (off := 0) (by simp [u8v, hbk]), ?_⟩⟩⟩
    refine ⟨⟨by show (0 : Int) ≤ _; omega, by show _ ≤ (4294967295 : Int); omega⟩, fun _ => ?_⟩
    have hx0 : crcS 4294967295 (l.take k) ^^^ b.toNat < 4294967296 := xor32 hlt32 (by omega)
    refine ⟨fun s i => ∃ m : Nat, m ≤ 8 ∧ i = m ∧ s = ((bits1 m (crcS 4294967295 (l.take k) ^^^ b.toNat) : Nat) : Int), fun _ i => 8 - i.toNat, ⟨0, by omega, rfl, by rw [bxor32 hlt32 (by omega)]; rfl⟩, ?_⟩
    rintro _ _ ⟨m, hm, rfl, rfl⟩
    have hm32 := bits1_lt hx0 m
    obtain ⟨y, hy⟩ : ∃ y, bits1 m (crcS 4294967295 (l.take k) ^^^ b.toNat) = y := ⟨_, rfl⟩
    have hnext := bits1_succ m (crcS 4294967295 (l.take k) ^^^ b.toNat)
    rw [hy] at hm32 hnext ⊢
    have e1 : ((y : Int)).tdiv 2 = ((y / 2 : Nat) : Int) := (Int.ofNat_tdiv _ _).symm
    have e2 : ((y : Int)).tmod 2 = ((y % 2 : Nat) : Int) := (Int.ofNat_tmod _ _).symm
    rw [e1, e2]
    refine ⟨fun hlt8 => ?_, fun hge8 => ?_⟩
    · refine ⟨⟨by show (0 : Int) ≤ _; omega, by show _ ≤ (4294967295 : Int); omega⟩, fun _ => ⟨fun h1 => ?_, fun h1 => ?_⟩⟩
      · refine ⟨inI64 _ (by omega) (by omega), fun _ => ⟨⟨m + 1, by omega, by omega, ?_⟩, by dsimp only; omega⟩⟩
        rw [hnext]
        have := bxor32 (a := y / 2) (b := 3988292384) (by omega) (by omega)
        rw [show ((3988292384 : Nat) : Int) = 3988292384 from rfl] at this
        rw [this]
        unfold bit1; rw [if_pos (by omega)]
      · refine ⟨inI64 _ (by omega) (by omega), fun _ => ⟨⟨m + 1, by omega, by omega, ?_⟩, by dsimp only; omega⟩⟩
        rw [hnext]
        unfold bit1; rw [if_neg (by omega)]
    · obtain rfl : m = 8 := by omega
      refine ⟨inI64 _ (by omega) (by omega), fun _ => ⟨⟨k + 1, by omega, by omega, ?_⟩, by dsimp only; omega⟩⟩
      rw [List.take_add_one, hbk, Option.toList_some, crcS_snoc]
      unfold crcB
      rw [← bits8, hy]
  · obtain rfl : k = n := by omega
    refine .of fun R h H => ⟨?_, H⟩
    rw [List.take_of_length_le (by omega)] at hlt32 ⊢
    have e : (4294967295 : Int) - ((crcS 4294967295 l : Nat) : Int) = ((4294967295 - crcS 4294967295 l : Nat) : Int) := by omega
    rw [e, wrap32 (by omega)]
    unfold sumS moreS
    have h0 : (4294967295 : Nat) ^^^ 0 = 4294967295 := by decide
    rw [h0]
    have := compl32 hlt32
    rw [this]
set_option maxHeartbeats 1000000 in
theorem r2Wrap_ok (a : Option Addr) (n c : Nat) (l : List UInt8) (S : HP) (hr : RdL S a n (l.map u8v)) (hl : l.length = n) (ha : n ≠ 0 → a.isSome = true) (hb : n ≤ 140737488355000) :
    Tri Tryz.prog 105 #[.slice a n c] S (Enc S (wrapS l)) := by
  refine tri_of_tree (ρ := [.a a, .n n, .n c, .p S]) mixed Tryz.func105 tree_r2Wrap ?_
  unfold t_r2Wrap
  simp only [T.den, E.prop, E.den, RX.look, F1.app, F2.app, Uni.int_i, Uni.nat_n, Uni.bool_c, Uni.str_s, Uni.adr_a, Uni.val_v, Uni.hp_p, hden, cden, V.den, W.den, A.den, BR.den, SA.den, FV.den, capV, exs, exP, allP, Cur.app, List.map_cons, List.map_nil, List.cons_append, List.nil_append, List.drop_succ_cons, List.drop_zero, List.length_cons, List.length_nil, Nat.zero_add, Nat.reduceAdd, Int.neg_neg, Bool.not_not, List.append_nil, Nat.add_zero, List.getElem?_cons_zero, List.getElem?_cons_succ, Decidable.not_not, semW_eq, semW_append, ne_eq, Nat.reduceEqDiff, not_false_eq_true]
  intro x
  refine (append8 (some ⟨x, 0, none⟩) 0 0 [] S a n c l hr hl ha (by omega)).weak (fun R h H => HP.sep_mono H (fun y hy => ⟨rfl, .inr ⟨x, #[], rfl, hy, Nat.le_refl _, by unfold maxLen; omega, rfl, rfl⟩⟩) fun _ h => h) ?_
  rintro v R h ⟨a1, c1, rfl, H⟩
  rw [Nat.zero_add, List.nil_append] at H
  refine ⟨a1, n, c1, OwB a1 n c1 l, by rw [Nat.zero_add], ?_, H⟩
  clear H
  refine (r2Sum_ok a n c l S hr hl ha (by omega)).weak (fun _ _ h => h) ?_
  rintro v R h ⟨rfl, H⟩
  have hs := sumS_lt l
  refine ⟨_, rfl, ⟨inU64 _ (by omega) (by omega), fun _ => ?_⟩, H⟩
  clear H
  subst hl
  refine (r1Put_ok a1 c1 l (sumS l) 4 (by omega) (by omega) (by omega)).weak (fun _ _ h => h) ?_
  rintro v R h ⟨a2, c2, rfl, H⟩
  refine ⟨a2, l.length + 4, c2, OwB a2 (l.length + 4) c2 (l ++ beN (sumS l) 4), HP.tt, rfl, .of fun R h H => ⟨a2, c2, ?_, ?_⟩, HP.sep_tt H⟩
  · rw [wrapS_len]
  · rw [wrapS_len]; exact HP.sep_comm H
def callB (x : CallP) : List UInt8 := [byteI x.kind] ++ lenB' x.path ++ lenB' x.other ++ beN (linksN x.off) 8 ++ beN (linksN x.n) 8 ++ lenB' x.data
theorem one_ow {e : TypeId} {b : Nat} {v : Value} {R h : PH} (H : (HP.one b (.cells #[v] e (0, 0))).p R h) : (OwC e 1 (some ⟨b, 0, none⟩) 1 1 [v]).p R h := ⟨rfl, .inr ⟨b, #[v], rfl, H, Nat.le_refl _, by unfold maxLen; omega, rfl, rfl⟩⟩
set_option maxHeartbeats 2000000 in
theorem r5Encode_ok (x : CallP) (a : Option Addr) (c : Nat) (S : HP) (hr : RdL S a x.data.length (x.data.map u8v)) (ha : x.data.length ≠ 0 → a.isSome = true) (hb : x.path.length + x.other.length + x.data.length ≤ 100000000000000) :
    Tri Tryz.prog 46 #[x.val a c] S (Enc S (wrapS (callB x))) := by
  refine tri_of_tree (ρ := [.i x.kind, .s x.path, .s x.other, .i x.off, .i x.n, .a a, .n x.data.length, .n c, .p S]) mixed Tryz.func46 tree_r5Encode ?_
  unfold t_r5Encode
  simp only [T.den, E.prop, E.den, RX.look, F1.app, F2.app, Uni.int_i, Uni.nat_n, Uni.bool_c, Uni.str_s, Uni.adr_a, Uni.val_v, Uni.hp_p, hden, cden, V.den, W.den, A.den, BR.den, SA.den, FV.den, capV, exs, exP, allP, Cur.app, List.map_cons, List.map_nil, List.cons_append, List.nil_append, List.drop_succ_cons, List.drop_zero, List.length_cons, List.length_nil, Nat.zero_add, Nat.reduceAdd, Int.neg_neg, Bool.not_not, List.append_nil, Nat.add_zero, List.getElem?_cons_zero, List.getElem?_cons_succ, Decidable.not_not, semW_eq, ne_eq, Nat.reduceEqDiff, not_false_eq_true]
  intro y z
  rw [← byteI_val]
  refine (r1Text_ok (some ⟨z, 0, none⟩) 1 [byteI x.kind] x.path (by simp; omega)).weak (fun R h H => one_ow H) ?_
  rintro v R h ⟨a1, c1, rfl, H⟩
  refine ⟨a1, _, c1, OwB a1 ([byteI x.kind] ++ lenB' x.path).length c1 ([byteI x.kind] ++ lenB' x.path), HP.tt, rfl, ?_, H⟩
  clear H
  refine (r1Text_ok a1 c1 ([byteI x.kind] ++ lenB' x.path) x.other (by simp [lenB'_len]; omega)).weak (fun _ _ h => h) ?_
  rintro v R h ⟨a2, c2, rfl, H⟩
  refine ⟨a2, _, c2, _, HP.tt, rfl, ?_, H⟩
  clear H
  refine (r5Int_ok a2 c2 ([byteI x.kind] ++ lenB' x.path ++ lenB' x.other) x.off (by simp [lenB'_len]; omega)).weak (fun _ _ h => h) ?_
  rintro v R h ⟨a3, c3, rfl, H⟩
  refine ⟨a3, _, c3, _, HP.tt, rfl, ?_, H⟩
  clear H
  refine (r5Int_ok a3 c3 ([byteI x.kind] ++ lenB' x.path ++ lenB' x.other ++ beN (linksN x.off) 8) x.n (by simp [lenB'_len, beN_len]; omega)).weak (fun _ _ h => h) ?_
  rintro v R h ⟨a4, c4, rfl, H⟩
  refine ⟨a4, _, c4, _, HP.tt, rfl, ?_, H⟩
  clear H
  refine (r1Bytes_ok a4 c4 ([byteI x.kind] ++ lenB' x.path ++ lenB' x.other ++ beN (linksN x.off) 8 ++ beN (linksN x.n) 8) a c x.data S hr ha (by simp [lenB'_len, beN_len]; omega)).weak (fun _ _ h => h) ?_
  rintro v R h ⟨a5, c5, rfl, H⟩
  refine ⟨a5, _, c5, OwB a5 (callB x).length c5 (callB x), HP.tt, rfl, ?_, HP.sep_mono H (fun _ h => h) fun w hw => HP.tt_sep hw⟩
  have h5 : (callB x).length ≠ 0 → a5.isSome = true := fun hn => OwC.some (HP.sep_left H) (Nat.pos_of_ne_zero hn)
  clear H
  have hlen : (callB x).length ≤ 140737488355000 := by unfold callB; simp [lenB'_len, beN_len]; omega
  refine (r2Wrap_ok a5 (callB x).length c5 (callB x) _ (RdL.ow _ _ _ _ _ _) rfl h5 hlen).weak (fun _ _ h => h) ?_
  rintro v R h ⟨a6, c6, rfl, H⟩
  refine ⟨a6, _, c6, OwB a6 (wrapS (callB x)).length c6 (wrapS (callB x)), _, rfl, .of fun R h H => ⟨a6, c6, rfl, HP.sep_comm H⟩, H⟩
def logB (x : LogM) : List UInt8 := [byteI x.kind] ++ beN (linksN x.cl) 4 ++ beN (linksN x.bi) 4 ++ beN (linksN x.nu) 4 ++ [byteI x.st] ++ beN (linksN x.bk) 8 ++ lenB' x.pl
theorem logB_len (x : LogM) : (logB x).length = x.pl.length + 26 := by unfold logB; simp [lenB'_len, beN_len]; omega
set_option maxHeartbeats 2000000 in
theorem r7Bytes_ok (x : LogM) (a : Option Addr) (c : Nat) (S : HP) (hr : RdL S a x.pl.length (x.pl.map u8v)) (ha : x.pl.length ≠ 0 → a.isSome = true) (hb : x.pl.length ≤ 100000000000100) :
    Tri Tryz.prog 39 #[x.val a c] S (Enc S (wrapS (logB x))) := by
  refine tri_of_tree (ρ := [.i x.kind, .i x.cl, .i x.bi, .i x.nu, .i x.st, .i x.bk, .a a, .n x.pl.length, .n c, .p S]) mixed Tryz.func39 tree_r7Bytes ?_
  unfold t_r7Bytes
  simp only [T.den, E.prop, E.den, RX.look, F1.app, F2.app, Uni.int_i, Uni.nat_n, Uni.bool_c, Uni.str_s, Uni.adr_a, Uni.val_v, Uni.hp_p, hden, cden, V.den, W.den, A.den, BR.den, SA.den, FV.den, capV, exs, exP, allP, Cur.app, List.map_cons, List.map_nil, List.cons_append, List.nil_append, List.drop_succ_cons, List.drop_zero, List.length_cons, List.length_nil, Nat.zero_add, Nat.reduceAdd, Int.neg_neg, Bool.not_not, List.append_nil, Nat.add_zero, List.getElem?_cons_zero, List.getElem?_cons_succ, Decidable.not_not, semW_eq, semW_append, ne_eq, Nat.reduceEqDiff, not_false_eq_true]
  intro y z
  rw [← byteI_val, ← byteI_val, ← linksN_val, ← linksN_val, ← linksN_val]
  refine (r1PutE (some ⟨z, 0, none⟩) 1 [byteI x.kind] (linksN x.cl) 4 (by omega) (linksN_lt' _) (by simp)).weak (fun R h H => one_ow H) ?_
  rintro v R h ⟨a1, c1, rfl, H⟩
  refine ⟨a1, _, c1, OwB a1 ([byteI x.kind] ++ beN (linksN x.cl) 4).length c1 ([byteI x.kind] ++ beN (linksN x.cl) 4), HP.tt, rfl, ?_, H⟩
  clear H
  refine (r1PutE a1 c1 ([byteI x.kind] ++ beN (linksN x.cl) 4) (linksN x.bi) 4 (by omega) (linksN_lt' _) (by simp [beN_len])).weak (fun _ _ h => h) ?_
  rintro v R h ⟨a2, c2, rfl, H⟩
  refine ⟨a2, _, c2, _, HP.tt, rfl, ?_, H⟩
  clear H
  refine (r1PutE a2 c2 ([byteI x.kind] ++ beN (linksN x.cl) 4 ++ beN (linksN x.bi) 4) (linksN x.nu) 4 (by omega) (linksN_lt' _) (by simp [beN_len])).weak (fun _ _ h => h) ?_
  rintro v R h ⟨a3, c3, rfl, H⟩
  refine ⟨a3, _, c3, _, HP.tt, rfl, fun w => ?_, H⟩
  clear H
  refine (append8 a3 ([byteI x.kind] ++ beN (linksN x.cl) 4 ++ beN (linksN x.bi) 4 ++ beN (linksN x.nu) 4).length c3 ([byteI x.kind] ++ beN (linksN x.cl) 4 ++ beN (linksN x.bi) 4 ++ beN (linksN x.nu) 4) _ (some ⟨w, 0, none⟩) 1 1 [byteI x.st] ⟨one_rd w #[u8v (byteI x.st)] _, fun _ _ _ e => by cases e⟩ rfl (fun _ => rfl) (by simp [beN_len])).weak (fun _ _ h => h) ?_
  rintro v R h ⟨a4, c4, rfl, H⟩
  refine ⟨a4, ([byteI x.kind] ++ beN (linksN x.cl) 4 ++ beN (linksN x.bi) 4 ++ beN (linksN x.nu) 4).length + 1, c4, OwB a4 ([byteI x.kind] ++ beN (linksN x.cl) 4 ++ beN (linksN x.bi) 4 ++ beN (linksN x.nu) 4 ++ [byteI x.st]).length c4 ([byteI x.kind] ++ beN (linksN x.cl) 4 ++ beN (linksN x.bi) 4 ++ beN (linksN x.nu) 4 ++ [byteI x.st]), rfl, ?_, by rw [List.length_append (bs := [byteI x.st])]; exact H⟩
  clear H
  refine (r5Int_ok a4 c4 ([byteI x.kind] ++ beN (linksN x.cl) 4 ++ beN (linksN x.bi) 4 ++ beN (linksN x.nu) 4 ++ [byteI x.st]) x.bk (by simp [beN_len])).weak (fun _ _ h => h) ?_
  rintro v R h ⟨a5, c5, rfl, H⟩
  refine ⟨a5, _, c5, _, HP.tt, rfl, ?_, H⟩
  clear H
  refine (r1Bytes_ok a5 c5 ([byteI x.kind] ++ beN (linksN x.cl) 4 ++ beN (linksN x.bi) 4 ++ beN (linksN x.nu) 4 ++ [byteI x.st] ++ beN (linksN x.bk) 8) a c x.pl S hr ha (by simp [beN_len]; omega)).weak (fun _ _ h => h) ?_
  rintro v R h ⟨a6, c6, rfl, H⟩
  have h6 : (logB x).length ≠ 0 → a6.isSome = true := fun hn => OwC.some (HP.sep_left H) (Nat.pos_of_ne_zero hn)
  refine ⟨a6, _, c6, OwB a6 (logB x).length c6 (logB x), HP.tt, rfl, ?_, HP.sep_mono H (fun _ h => h) fun w hw => HP.tt_sep hw⟩
  clear H
  have hlen := logB_len x
  refine (r2Wrap_ok a6 (logB x).length c6 (logB x) _ (RdL.ow _ _ _ _ _ _) rfl h6 (by omega)).weak (fun _ _ h => h) ?_
  rintro v R h ⟨a7, c7, rfl, H⟩
  refine ⟨a7, _, c7, OwB a7 (wrapS (logB x)).length c7 (wrapS (logB x)), _, rfl, .of fun R h H => ⟨a7, c7, rfl, HP.sep_comm H⟩, H⟩
theorem r7may_ok (n : Int) : Tri Tryz.prog 162 #[.int .i64 n] HP.tt (fun v => HP.and (v = .bool (partOk n)) HP.tt) := by
  refine tri_of_tree (ρ := [.i n]) mixed Tryz.func162 tree_r7may ?_
  unfold t_r7may
  simp only [T.den, E.prop, E.den, RX.look, F1.app, F2.app, Uni.int_i, Uni.nat_n, Uni.bool_c, Uni.str_s, Uni.adr_a, Uni.val_v, Uni.hp_p, hden, cden, V.den, W.den, A.den, BR.den, SA.den, FV.den, capV, exs, exP, allP, Cur.app, List.map_cons, List.map_nil, List.cons_append, List.nil_append, List.drop_succ_cons, List.drop_zero, List.length_cons, List.length_nil, Nat.zero_add, Nat.reduceAdd, Int.neg_neg, Bool.not_not, List.append_nil, Nat.add_zero, List.getElem?_cons_zero, List.getElem?_cons_succ, Decidable.not_not, semW_eq, ne_eq, Nat.reduceEqDiff, not_false_eq_true]
  unfold partOk
  refine ⟨fun h => .of fun R x _ => ⟨?_, trivial⟩, fun h => .of fun R x _ => ⟨?_, trivial⟩⟩
  · have h' : 0 ≤ n := h
    rw [decide_eq_true h', Bool.true_and]; rfl
  · have h' : ¬ 0 ≤ n := h
    rw [decide_eq_false h', Bool.false_and]
set_option maxHeartbeats 1000000 in
theorem r7Right_ok (x : LogM) (a : Option Addr) (c : Nat) (S : HP) (hr : RdL S a x.pl.length (x.pl.map u8v)) (ha : x.pl.length ≠ 0 → a.isSome = true) (hb : x.pl.length ≤ 100000000000100) :
    Tri Tryz.prog 93 #[x.val a c] S (fun v => HP.and (v = .bool (logOk x)) S) := by
  refine tri_of_tree (ρ := [.i x.kind, .i x.cl, .i x.bi, .i x.nu, .i x.st, .i x.bk, .a a, .n x.pl.length, .n c, .p S]) mixed Tryz.func93 tree_r7Right ?_
  unfold t_r7Right
  simp only [T.den, E.prop, E.den, RX.look, F1.app, F2.app, Uni.int_i, Uni.nat_n, Uni.bool_c, Uni.str_s, Uni.adr_a, Uni.val_v, Uni.hp_p, hden, cden, V.den, W.den, A.den, BR.den, SA.den, FV.den, capV, exs, exP, allP, Cur.app, List.map_cons, List.map_nil, List.cons_append, List.nil_append, List.drop_succ_cons, List.drop_zero, List.length_cons, List.length_nil, Nat.zero_add, Nat.reduceAdd, Int.neg_neg, Bool.not_not, List.append_nil, Nat.add_zero, List.getElem?_cons_zero, List.getElem?_cons_succ, Decidable.not_not, semW_eq, ne_eq, Nat.reduceEqDiff, not_false_eq_true]
  intro _
  have no : logOk x = false → HP.ent S (HP.and (Value.bool false = .bool (logOk x)) S) := fun h => .of fun R h' H => ⟨by rw [h], H⟩
  refine ⟨fun h1 => ⟨fun h2 => no ?_, fun h2 => ?_⟩, fun h1 => ?_⟩
  · unfold logOk; simp [h1, h2]
  · have hk' : (decide (x.kind = 1) || decide (x.kind = 2)) = true := by
      have h2 : x.kind = 2 := by simpa using h2
      simp [h2]
    clear h1 h2
    refine (r7may_ok x.cl).weak (fun _ _ h => h) ?_
    rintro v R h ⟨rfl, H⟩
    refine ⟨_, rfl, ⟨fun h => no ?_, fun h1 => ?_⟩, H⟩
    · unfold logOk; simp [h]
    refine (r7may_ok x.bi).weak (fun _ _ h => h) ?_
    rintro v R h ⟨rfl, H⟩
    refine ⟨_, rfl, ⟨fun h => no ?_, fun h2 => ?_⟩, H⟩
    · unfold logOk; simp [h]
    refine (r7may_ok x.nu).weak (fun _ _ h => h) ?_
    rintro v R h ⟨rfl, H⟩
    refine ⟨_, rfl, ⟨fun h => no ?_, fun h3 => ⟨fun h4 => ⟨fun h5 => ⟨fun h6 => ⟨fun h7 => ?_, fun h => no ?_⟩, fun h => no ?_⟩, fun h => no ?_⟩, fun h => no ?_⟩⟩, H⟩
    · unfold logOk; simp [h]
    · refine (r7Bytes_ok x a c S hr ha hb).weak (fun _ _ h => h) ?_
      rintro v R h ⟨a1, c1, rfl, H⟩
      refine ⟨a1, _, c1, _, rfl, .of fun R h H => ⟨?_, H⟩, H⟩
      have a1 : 0 ≤ x.st := by omega
      have a2 : x.st < 8 := by omega
      have a3 : -1 ≤ x.bk := by omega
      have a4 : x.bk ≤ 4294967296 := by omega
      have h1 : partOk x.cl = true := by simpa using h1
      have h2 : partOk x.bi = true := by simpa using h2
      have h3 : partOk x.nu = true := by simpa using h3
      have hl := logB_len x
      unfold logOk
      rw [hk', h1, h2, h3, wrapS_len, hl]
      simp [a1, a2, a3, a4]
      omega
    · unfold logOk; have : ¬ x.bk ≤ 4294967296 := by omega
      simp [this]
    · unfold logOk; have : ¬ -1 ≤ x.bk := by omega
      simp [this]
    · unfold logOk; have : ¬ x.st < 8 := by omega
      simp [this]
    · unfold logOk; have : ¬ 0 ≤ x.st := by omega
      simp [this]
  · have hk' : (decide (x.kind = 1) || decide (x.kind = 2)) = true := by
      have h1 : x.kind = 1 := by simpa using h1
      simp [h1]
    clear h1
    refine (r7may_ok x.cl).weak (fun _ _ h => h) ?_
    rintro v R h ⟨rfl, H⟩
    refine ⟨_, rfl, ⟨fun h => no ?_, fun h1 => ?_⟩, H⟩
    · unfold logOk; simp [h]
    refine (r7may_ok x.bi).weak (fun _ _ h => h) ?_
    rintro v R h ⟨rfl, H⟩
    refine ⟨_, rfl, ⟨fun h => no ?_, fun h2 => ?_⟩, H⟩
    · unfold logOk; simp [h]
    refine (r7may_ok x.nu).weak (fun _ _ h => h) ?_
    rintro v R h ⟨rfl, H⟩
    refine ⟨_, rfl, ⟨fun h => no ?_, fun h3 => ⟨fun h4 => ⟨fun h5 => ⟨fun h6 => ⟨fun h7 => ?_, fun h => no ?_⟩, fun h => no ?_⟩, fun h => no ?_⟩, fun h => no ?_⟩⟩, H⟩
    · unfold logOk; simp [h]
    · refine (r7Bytes_ok x a c S hr ha hb).weak (fun _ _ h => h) ?_
      rintro v R h ⟨a1, c1, rfl, H⟩
      refine ⟨a1, _, c1, _, rfl, .of fun R h H => ⟨?_, H⟩, H⟩
      have a1 : 0 ≤ x.st := by omega
      have a2 : x.st < 8 := by omega
      have a3 : -1 ≤ x.bk := by omega
      have a4 : x.bk ≤ 4294967296 := by omega
      have h1 : partOk x.cl = true := by simpa using h1
      have h2 : partOk x.bi = true := by simpa using h2
      have h3 : partOk x.nu = true := by simpa using h3
      have hl := logB_len x
      unfold logOk
      rw [hk', h1, h2, h3, wrapS_len, hl]
      simp [a1, a2, a3, a4]
      omega
    · unfold logOk; have : ¬ x.bk ≤ 4294967296 := by omega
      simp [this]
    · unfold logOk; have : ¬ -1 ≤ x.bk := by omega
      simp [this]
    · unfold logOk; have : ¬ x.st < 8 := by omega
      simp [this]
    · unfold logOk; have : ¬ 0 ≤ x.st := by omega
      simp [this]
end Go.Proofs.YtdieogcemmnaaaaGreatDoor



namespace Go.Proofs.YtdieogcemmnaaaaGreatDoor
open Go.RowKit Go.ChangeShapes Go.WideShapes Go.Deep RX
set_option maxRecDepth 100000

def SmallU {H : Type} (_P : Program) (_t : TypeId) (d : DataW H) : Prop := Rows.uptoBulk d ≤ 1048576
section
variable {H : Type} {P : Program} {t e : TypeId}
theorem bulk_one (d : DataW H) : 1 ≤ Rows.uptoBulk d := by
  cases d with
  | lit l => cases l <;> simp [Rows.uptoBulk]
  | nil => simp [Rows.uptoBulk]
  | ptr d => simp [Rows.uptoBulk]
  | slice elems spare => simp [Rows.uptoBulk]
  | agg parts => simp [Rows.uptoBulk]
  | iface t d => simp [Rows.uptoBulk]
  | map entries => simp [Rows.uptoBulk]
  | held h => simp [Rows.uptoBulk]
theorem bulk_mem : ∀ {l : List (DataW H)} {d : DataW H}, d ∈ l → Rows.uptoBulk d ≤ Rows.uptoBulkAll l
  | x :: l, d, h => by
    simp only [Rows.uptoBulkAll]
    rcases List.mem_cons.1 h with h | h
    · subst h; omega
    · have := bulk_mem h; omega
theorem bulk_len : ∀ l : List (DataW H), l.length ≤ Rows.uptoBulkAll l
  | [] => by simp [Rows.uptoBulkAll]
  | x :: l => by have := bulk_one x; have := bulk_len l; simp only [Rows.uptoBulkAll, List.length_cons]; omega
theorem SmallU.elem {elems spare : List (DataW H)} (h : SmallU P t (.slice elems spare)) {d : DataW H} (hd : d ∈ elems) : SmallU P e d := by
  have h1 : Rows.uptoBulkAll elems + Rows.uptoBulkAll spare + 1 ≤ 1048576 := by simpa [SmallU, Rows.uptoBulk] using h
  have := bulk_mem hd
  unfold SmallU; omega
theorem SmallU.part {parts : List (DataW H)} (h : SmallU P t (.agg parts)) {i : Nat} {d : DataW H} (hd : parts[i]? = some d) : SmallU P e d := by
  have h1 : Rows.uptoBulkAll parts + 1 ≤ 1048576 := by simpa [SmallU, Rows.uptoBulk] using h
  have := bulk_mem (List.mem_of_getElem? hd)
  unfold SmallU; omega
theorem SmallU.len {elems spare : List (DataW H)} (h : SmallU P t (.slice elems spare)) : elems.length + spare.length ≤ 1048576 := by
  have h1 : Rows.uptoBulkAll elems + Rows.uptoBulkAll spare + 1 ≤ 1048576 := by simpa [SmallU, Rows.uptoBulk] using h
  have := bulk_len elems
  have := bulk_len spare
  omega
theorem SmallU.str {b : List UInt8} (h : SmallU (H := H) P t (.lit (.string b))) : b.length ≤ 1048576 := by
  have h1 : b.length + 1 ≤ 1048576 := by simpa [SmallU, Rows.uptoBulk] using h
  omega
theorem SmallU.arg {ds gs : List (DataW H)} (h : Rows.uptoSmall H (ds ++ gs) = true) {j : Nat} {d : DataW H} (hd : ds[j]? = some d) : SmallU P t d := by
  have h1 := of_decide_eq_true h
  have := bulk_mem (List.mem_append.2 (.inl (List.mem_of_getElem? hd)) : d ∈ ds ++ gs)
  unfold SmallU; omega
end
section
variable {H : Type} {enc : TypeId × Value → H} {w : World} {base : Nat}
theorem bytes_of_trodU {fuel : Nat} {v : Value} {x : DataW H × List MemPlace} (h : DataW.trod enc Tryz.prog w 0 (fun _ => true) true fuel 28 [v] = some x) (hs : SmallU Tryz.prog 28 x.1) :
    ∃ (a : Option Addr) (l : List UInt8) (c : Nat), v = .slice a l.length c ∧ (l.length ≤ 1048576 ∧ l.length ≤ c) ∧ ∀ h, (RoB a l.length l).p (allOf w) h := by
  rcases open_slice1 Tryz.underlying28 (by kernel_rfl) h with ⟨hcs, hx⟩ | ⟨a, len, cap, m, n, V, D, Pl, hcs, _, hl, _, hm, hx0, hx⟩
  · simp at hcs
    subst hcs
    exact ⟨none, [], 0, rfl, ⟨by simp, by simp⟩, fun h => RoC.nil _ _ _ _⟩
  · simp at hcs
    subst hcs
    have hlm : len ≤ m := by rw [hm]; simp only [if_true]; exact hl
    have hx' : ∀ i, i < len → ∃ q : UInt8, w.cell? (a.add i) = some (u8v q) := fun i hi => by
      obtain ⟨h1, h2⟩ := hx i (by omega)
      obtain ⟨q, hq, _, hw⟩ := DataW.trod_int Tryz.underlying5 h2
      simp at hq
      simp only [Lit.wf, Bool.and_eq_true, decide_eq_true_eq] at hw
      have h0 : (0 : Int) ≤ q := hw.1
      have h255 : q ≤ 255 := hw.2
      refine ⟨UInt8.ofNat q.toNat, ?_⟩
      rw [h1, hq]
      have e : ((UInt8.ofNat q.toNat).toNat : Int) = q := by
        rw [UInt8.toNat_ofNat']
        omega
      unfold u8v
      rw [e]
    obtain ⟨z, hz⟩ := choose_lt (p := fun i q => w.cell? (a.add i) = some (u8v q)) hx'
    have hb : len ≤ 1048576 := by
      rw [hx0] at hs
      have := SmallU.len hs
      simp at this
      omega
    have hlen : ((List.range len).map z).length = len := by simp
    refine ⟨some a, (List.range len).map z, cap, by rw [hlen], ⟨by rw [hlen]; exact hb, by rw [hlen]; exact hl⟩, fun h => ?_⟩
    rw [hlen]
    by_cases h0 : len = 0
    · subst h0; exact RoC.nil _ _ _ _
    · have hsp : a.spot = none := by
        have := hz 0 (by omega)
        rw [Addr.add_zero'] at this
        exact spot_none this
      obtain ⟨g, off, sp⟩ := a
      simp only at hsp
      subst hsp
      refine roC_of (by decide) (by simp) fun i v hv => ?_
      have hi : i < len := by have := (List.getElem?_eq_some_iff.1 hv).1; simpa using this
      have := (addr_plain (hz i hi)).2.1
      rw [this]
      simp [hi] at hv
      rw [← hv]
variable {α : Type}
theorem slice_of_trodU [Inhabited α] (K : Kind α) {t e : TypeId} (hu : Tryz.prog.underlying t = some (.slice e)) (hn : Tryz.prog.cellsOf e = K.n) (hb : 1 ≤ Tryz.prog.bytesOf e)
    (el : ∀ {cs : List Value} {n : Nat} {x : DataW H × List MemPlace}, DataW.trod enc Tryz.prog w 0 (fun _ => true) true n e cs = some x → SmallU Tryz.prog e x.1 → ∃ m : α, cs = K.vals m ∧ ∀ h, (K.hp m).p (allOf w) h)
    {fuel : Nat} {v : Value} {x : DataW H × List MemPlace} (h : DataW.trod enc Tryz.prog w 0 (fun _ => true) true fuel t [v] = some x) (hs : SmallU Tryz.prog t x.1) :
    ∃ (a : Option Addr) (l : List α) (c : Nat), v = .slice a l.length c ∧ l.length ≤ 1048576 ∧ ∀ h, (Ls K a l.length l).p (allOf w) h := by
  rcases open_slice hu h with ⟨hcs, _⟩ | ⟨a, len, cap, m, n, D, Pl, hcs, _, hl, hmax, hm, hxx, hx⟩
  · simp at hcs
    subst hcs
    exact ⟨none, [], 0, rfl, by simp, fun h => ⟨rfl, RoC.nil _ _ _ _, fun x hx => by cases hx⟩⟩
  · simp at hcs
    subst hcs
    rw [hn] at hx
    have hlm : len ≤ m := by rw [hm]; simp only [if_true]; exact hl
    rw [hxx] at hs
    have hbl : len ≤ 1048576 := by
      have := SmallU.len hs
      simp at this
      omega
    have hx' : ∀ i, i < len → ∃ q : α, (∀ j, j < K.n → w.cell? (a.add (i * K.n + j)) = (K.vals q)[j]?) ∧ ∀ h, (K.hp q).p (allOf w) h := fun i hi => by
      obtain ⟨cs', h1, h2⟩ := hx i (by omega)
      obtain ⟨q, rfl, hr⟩ := el h2 (SmallU.elem hs (List.mem_map.2 ⟨i, List.mem_range.2 hi, rfl⟩))
      obtain ⟨_, _, hc⟩ := World.cells?_some h1
      refine ⟨q, fun j hj => ?_, hr⟩
      rw [← add_add, hc j hj]
    obtain ⟨ra, hra⟩ := choose_lt (p := fun i (q : α) => (∀ j, j < K.n → w.cell? (a.add (i * K.n + j)) = (K.vals q)[j]?) ∧ ∀ h, (K.hp q).p (allOf w) h) hx'
    have hlen : ((List.range len).map ra).length = len := by simp
    refine ⟨some a, (List.range len).map ra, cap, by rw [hlen], by rw [hlen]; exact hbl, fun h => ⟨rfl, ?_, fun x hx => ?_⟩⟩
    · rw [hlen]
      by_cases h0 : len = 0
      · subst h0; exact RoC.nil _ _ _ _
      · have hsp : a.spot = none := by
          have h1 := (hra 0 (by omega)).1 0 K.pos
          rw [Nat.zero_mul, Nat.add_zero, Addr.add_zero', List.getElem?_eq_getElem (by rw [K.len]; exact K.pos)] at h1
          exact spot_none h1
        obtain ⟨g, off, sp⟩ := a
        simp only at hsp
        subst hsp
        have hlen2 : (((List.range len).map ra).flatMap K.vals).length = len * K.n := by rw [flat_lenL K.vals K.n K.len, hlen]
        refine roC_of K.pos hlen2 fun i v hv => ?_
        have hi : i < len * K.n := by have := (List.getElem?_eq_some_iff.1 hv).1; rw [hlen2] at this; exact this
        have hk : i / K.n < len := Nat.div_lt_of_lt_mul (by rw [Nat.mul_comm]; exact hi)
        have hj : i % K.n < K.n := Nat.mod_lt _ K.pos
        have e : i = (i / K.n) * K.n + i % K.n := by rw [Nat.mul_comm]; exact (Nat.div_add_mod i K.n).symm
        have hg : ((List.range len).map ra)[i / K.n]? = some (ra (i / K.n)) := by simp [hk]
        have h1 := flat_getL K.vals K.n K.len _ (i / K.n) (i % K.n) _ hg hj
        rw [← e] at h1
        have h2 := (hra (i / K.n) hk).1 (i % K.n) hj
        rw [← e] at h2
        rw [h1] at hv
        rw [hv] at h2
        exact (addr_plain h2).2.1
    · obtain ⟨i, hi, rfl⟩ := List.mem_map.1 hx
      exact (hra i (List.mem_range.1 hi)).2 h
theorem slice_openU [Inhabited α] (K : Kind α) {t e : TypeId} (hu : Tryz.prog.underlying t = some (.slice e)) (hn : Tryz.prog.cellsOf e = K.n) (hb : 1 ≤ Tryz.prog.bytesOf e)
    (el : ∀ {cs : List Value} {n : Nat} {x : DataW H × List MemPlace}, DataW.trod enc Tryz.prog w 0 (fun _ => true) true n e cs = some x → SmallU Tryz.prog e x.1 → ∃ m : α, cs = K.vals m ∧ ∀ h, (K.hp m).p (allOf w) h)
    {base : Nat} {v : Value} (hv : Value.okWide Tryz.prog w .any base t v) (h : ∃ d p, DataW.Trod enc Tryz.prog w 0 (fun _ => true) true t v d p ∧ SmallU Tryz.prog t d) :
    ∃ (a : Option Addr) (l : List α) (c : Nat), v = .slice a l.length c ∧ l.length ≤ 1048576 ∧ ∀ h, (Ls K a l.length l).p (allOf w) h := by
  obtain ⟨b, len, cap, rfl⟩ := okWide_slice hu hv
  obtain ⟨d, p, ⟨fuel, hf⟩, hsm⟩ := h
  exact slice_of_trodU K hu hn hb el hf hsm
theorem field_strU {t : TypeId} {cs : List Value} {n i c : Nat} {xs : List (DataW H × List MemPlace)} {j : Nat} (hu : Tryz.prog.underlying t = some .string) (hj : j < xs.length) (hc : c = 1)
    (h : DataW.trod enc Tryz.prog w 0 (fun _ => true) true n t ((cs.drop i).take c) = xs[j]?) (hs : SmallU Tryz.prog t xs[j].1) : ∃ x : List UInt8, cs[i]? = some (.string ⟨x.toArray⟩) ∧ x.length ≤ 1048576 := by
  subst hc
  rw [List.getElem?_eq_getElem hj] at h
  obtain ⟨s, h1, h3, _⟩ := DataW.trod_string hu h
  refine ⟨s.data.toList, by rw [take1 h1], ?_⟩
  rw [h3] at hs
  exact SmallU.str hs
theorem bytes_openRU {base : Nat} {v : Value} (hv : Value.okWide Tryz.prog w .any base 28 v) (h : ∃ d p, DataW.Trod enc Tryz.prog w 0 (fun _ => true) true 28 v d p ∧ SmallU Tryz.prog 28 d) :
    ∃ (a : Option Addr) (l : List UInt8) (c : Nat), v = .slice a l.length c ∧ (l.length ≤ 1048576 ∧ l.length ≤ c) ∧ ∀ h, (RoB a l.length l).p (allOf w) h := by
  obtain ⟨b, len, cap, rfl⟩ := okWide_slice Tryz.underlying28 hv
  obtain ⟨d, p, ⟨fuel, hf⟩, hsm⟩ := h
  exact bytes_of_trodU hf hsm
end
end Go.Proofs.YtdieogcemmnaaaaGreatDoor



namespace Go.Proofs.YtdieogcemmnaaaaGreatDoor
open Go.RowKit Go.ChangeShapes Go.WideShapes Go.Deep RX
set_option maxRecDepth 100000
set_option linter.unusedVariables false
set_option linter.unusedSimpArgs false

structure Step16 where
  what : Int
  low : Int
  id_cl : Int
  id_bi : Int
  id_nu : Int
  call_kind : Int
  call_path : List UInt8
  call_other : List UInt8
  call_off : Int
  call_n : Int
  call_data : List UInt8
  call_dataa : Option Addr
  call_datac : Nat
  raw : List UInt8
  rawa : Option Addr
  rawc : Nat
abbrev Step16.vals (x : Step16) : List Value := [.int .i64 x.what, .int .i64 x.low, .int .i64 x.id_cl, .int .i64 x.id_bi, .int .i64 x.id_nu, .int .i64 x.call_kind, .string ⟨x.call_path.toArray⟩, .string ⟨x.call_other.toArray⟩, .int .i64 x.call_off, .int .i64 x.call_n, .slice x.call_dataa x.call_data.length x.call_datac, .slice x.rawa x.raw.length x.rawc]
def Step16.hp (x : Step16) : HP := HP.both (HP.pure (okI x.what)) (HP.both (HP.pure (okI x.low)) (HP.both (HP.pure (okI x.id_cl)) (HP.both (HP.pure (okI x.id_bi)) (HP.both (HP.pure (okI x.id_nu)) (HP.both (HP.pure (okI x.call_kind)) (HP.both (HP.pure (x.call_path.length ≤ 1048576)) (HP.both (HP.pure (x.call_other.length ≤ 1048576)) (HP.both (HP.pure (okI x.call_off)) (HP.both (HP.pure (okI x.call_n)) (HP.both (HP.and (x.call_data.length ≤ 1048576 ∧ x.call_data.length ≤ x.call_datac) (RoB x.call_dataa x.call_data.length x.call_data)) (HP.and (x.raw.length ≤ 1048576 ∧ x.raw.length ≤ x.rawc) (RoB x.rawa x.raw.length x.raw))))))))))))
theorem Step16.pers (x : Step16) (R h h' : PH) (H : (x.hp).p R h) : (x.hp).p R h' := ⟨H.1, ⟨H.2.1, ⟨H.2.2.1, ⟨H.2.2.2.1, ⟨H.2.2.2.2.1, ⟨H.2.2.2.2.2.1, ⟨H.2.2.2.2.2.2.1, ⟨H.2.2.2.2.2.2.2.1, ⟨H.2.2.2.2.2.2.2.2.1, ⟨H.2.2.2.2.2.2.2.2.2.1, ⟨H.2.2.2.2.2.2.2.2.2.2.1, H.2.2.2.2.2.2.2.2.2.2.2⟩⟩⟩⟩⟩⟩⟩⟩⟩⟩⟩
instance : Inhabited Step16 := ⟨⟨0, 0, 0, 0, 0, 0, [], [], 0, 0, [], none, 0, [], none, 0⟩⟩
def kStep16 : Kind Step16 := ⟨12, by decide, Step16.vals, fun _ => rfl, Step16.hp, Step16.pers⟩
theorem Step16.of_trod {H : Type} {enc : TypeId × Value → H} {w : World} {cs : List Value} {n : Nat} {x : DataW H × List MemPlace} (h : DataW.trod enc Tryz.prog w 0 (fun _ => true) true n 65 cs = some x) (hs : SmallU Tryz.prog 65 x.1) : ∃ m : Step16, cs = kStep16.vals m ∧ ∀ h, (kStep16.hp m).p (allOf w) h := by
  obtain ⟨xs0, n0, _, hx0, hl0, hxl0, hf0⟩ := DataW.trod_struct Tryz.underlying65 h
  replace hxl0 : xs0.length = 5 := hxl0
  have hs0 : SmallU Tryz.prog 65 (.agg (xs0.map (·.1))) := by
    have e := hx0
    first | (subst e; exact hs) | (rw [e] at hs; exact hs) | (have e2 := congrArg Prod.fst e; rw [← e2]; exact hs) | (rw [← e]; exact hs)
  obtain ⟨c0, e0, w0⟩ := field_int Tryz.underlying3 (show 0 < xs0.length by omega) (by kernel_rfl) (hf0 0 _ rfl)
  obtain ⟨c1, e1, w1⟩ := field_int Tryz.underlying3 (show 1 < xs0.length by omega) (by kernel_rfl) (hf0 1 _ rfl)
  have g0_2 := hf0 2 _ rfl
  rw [List.getElem?_eq_getElem (show 2 < xs0.length by omega)] at g0_2
  have hp0_2 : SmallU Tryz.prog 57 xs0[2].1 := SmallU.part (i := 2) hs0 (by rw [List.getElem?_map, List.getElem?_eq_getElem (show 2 < xs0.length by omega)]; rfl)
  obtain ⟨xs1, n1, _, hx1, hl1, hxl1, hf1⟩ := DataW.trod_struct Tryz.underlying57 g0_2
  replace hxl1 : xs1.length = 3 := hxl1
  have hs1 : SmallU Tryz.prog 57 (.agg (xs1.map (·.1))) := by
    have e := hx1
    first | (subst e; exact hp0_2) | (rw [e] at hp0_2; exact hp0_2) | (have e2 := congrArg Prod.fst e; rw [← e2]; exact hp0_2) | (rw [← e]; exact hp0_2)
  obtain ⟨c2, e2, w2⟩ := field_int Tryz.underlying3 (show 0 < xs1.length by omega) (by kernel_rfl) (hf1 0 _ rfl)
  rw [List.getElem?_take_of_lt (of_decide_eq_true (by kernel_rfl)), List.getElem?_drop] at e2
  obtain ⟨c3, e3, w3⟩ := field_int Tryz.underlying3 (show 1 < xs1.length by omega) (by kernel_rfl) (hf1 1 _ rfl)
  rw [List.getElem?_take_of_lt (of_decide_eq_true (by kernel_rfl)), List.getElem?_drop] at e3
  obtain ⟨c4, e4, w4⟩ := field_int Tryz.underlying3 (show 2 < xs1.length by omega) (by kernel_rfl) (hf1 2 _ rfl)
  rw [List.getElem?_take_of_lt (of_decide_eq_true (by kernel_rfl)), List.getElem?_drop] at e4
  have g0_3 := hf0 3 _ rfl
  rw [List.getElem?_eq_getElem (show 3 < xs0.length by omega)] at g0_3
  have hp0_3 : SmallU Tryz.prog 34 xs0[3].1 := SmallU.part (i := 3) hs0 (by rw [List.getElem?_map, List.getElem?_eq_getElem (show 3 < xs0.length by omega)]; rfl)
  obtain ⟨xs2, n2, _, hx2, hl2, hxl2, hf2⟩ := DataW.trod_struct Tryz.underlying34 g0_3
  replace hxl2 : xs2.length = 6 := hxl2
  have hs2 : SmallU Tryz.prog 34 (.agg (xs2.map (·.1))) := by
    have e := hx2
    first | (subst e; exact hp0_3) | (rw [e] at hp0_3; exact hp0_3) | (have e2 := congrArg Prod.fst e; rw [← e2]; exact hp0_3) | (rw [← e]; exact hp0_3)
  obtain ⟨c5, e5, w5⟩ := field_int Tryz.underlying3 (show 0 < xs2.length by omega) (by kernel_rfl) (hf2 0 _ rfl)
  rw [List.getElem?_take_of_lt (of_decide_eq_true (by kernel_rfl)), List.getElem?_drop] at e5
  obtain ⟨c6, e6, w6⟩ := field_strU Tryz.underlying9 (show 1 < xs2.length by omega) (by kernel_rfl) (hf2 1 _ rfl) (SmallU.part (i := 1) hs2 (by rw [List.getElem?_map, List.getElem?_eq_getElem (show 1 < xs2.length by omega)]; rfl))
  rw [List.getElem?_take_of_lt (of_decide_eq_true (by kernel_rfl)), List.getElem?_drop] at e6
  obtain ⟨c7, e7, w7⟩ := field_strU Tryz.underlying9 (show 2 < xs2.length by omega) (by kernel_rfl) (hf2 2 _ rfl) (SmallU.part (i := 2) hs2 (by rw [List.getElem?_map, List.getElem?_eq_getElem (show 2 < xs2.length by omega)]; rfl))
  rw [List.getElem?_take_of_lt (of_decide_eq_true (by kernel_rfl)), List.getElem?_drop] at e7
  obtain ⟨c8, e8, w8⟩ := field_int Tryz.underlying3 (show 3 < xs2.length by omega) (by kernel_rfl) (hf2 3 _ rfl)
  rw [List.getElem?_take_of_lt (of_decide_eq_true (by kernel_rfl)), List.getElem?_drop] at e8
  obtain ⟨c9, e9, w9⟩ := field_int Tryz.underlying3 (show 4 < xs2.length by omega) (by kernel_rfl) (hf2 4 _ rfl)
  rw [List.getElem?_take_of_lt (of_decide_eq_true (by kernel_rfl)), List.getElem?_drop] at e9
  obtain ⟨a10, l10, k10, e10⟩ := field_slice Tryz.underlying28 (show 5 < xs2.length by omega) (by kernel_rfl) (hf2 5 _ rfl)
  have q10 := hf2 5 _ rfl
  rw [List.getElem?_eq_getElem (show 5 < xs2.length by omega)] at q10
  have g10 : DataW.trod enc Tryz.prog w 0 (fun _ => true) true n2 28 [.slice a10 l10 k10] = some xs2[5] := by
    rw [← take1' e10]
    exact q10
  have s10 : SmallU Tryz.prog 28 xs2[5].1 := SmallU.part (i := 5) hs2 (by rw [List.getElem?_map, List.getElem?_eq_getElem (show 5 < xs2.length by omega)]; rfl)
  obtain ⟨b10, d10, m10, r10, y10, z10⟩ := bytes_of_trodU g10 s10
  simp only [Value.slice.injEq] at r10
  obtain ⟨rfl, rfl, rfl⟩ := r10
  rw [List.getElem?_take_of_lt (of_decide_eq_true (by kernel_rfl)), List.getElem?_drop] at e10
  obtain ⟨a11, l11, k11, e11⟩ := field_slice Tryz.underlying28 (show 4 < xs0.length by omega) (by kernel_rfl) (hf0 4 _ rfl)
  have q11 := hf0 4 _ rfl
  rw [List.getElem?_eq_getElem (show 4 < xs0.length by omega)] at q11
  have g11 : DataW.trod enc Tryz.prog w 0 (fun _ => true) true n0 28 [.slice a11 l11 k11] = some xs0[4] := by
    rw [← take1' e11]
    exact q11
  have s11 : SmallU Tryz.prog 28 xs0[4].1 := SmallU.part (i := 4) hs0 (by rw [List.getElem?_map, List.getElem?_eq_getElem (show 4 < xs0.length by omega)]; rfl)
  obtain ⟨b11, d11, m11, r11, y11, z11⟩ := bytes_of_trodU g11 s11
  simp only [Value.slice.injEq] at r11
  obtain ⟨rfl, rfl, rfl⟩ := r11
  have hlen : cs.length = 12 := hl0.trans (by kernel_rfl)
  refine ⟨⟨c0, c1, c2, c3, c4, c5, c6, c7, c8, c9, d10, a10, k10, d11, a11, k11⟩, ?_, fun hh => ⟨int_wf w0, ⟨int_wf w1, ⟨int_wf w2, ⟨int_wf w3, ⟨int_wf w4, ⟨int_wf w5, ⟨w6, ⟨w7, ⟨int_wf w8, ⟨int_wf w9, ⟨⟨y10, z10 hh⟩, ⟨y11, z11 hh⟩⟩⟩⟩⟩⟩⟩⟩⟩⟩⟩⟩⟩
  clear h hl0 hf0 hl1 hf1 hl2 hf2 g0_2 g0_3 q10 g10 s10 q11 g11 s11
  revert e0 e1 e2 e3 e4 e5 e6 e7 e8 e9 e10 e11
  match cs, hlen with
  | [u0, u1, u2, u3, u4, u5, u6, u7, u8, u9, u10, u11], _ =>
    intro e0
    obtain rfl : u0 = .int _ c0 := Option.some.inj e0
    intro e1
    obtain rfl : u1 = .int _ c1 := Option.some.inj e1
    intro e2
    obtain rfl : u2 = .int _ c2 := Option.some.inj e2
    intro e3
    obtain rfl : u3 = .int _ c3 := Option.some.inj e3
    intro e4
    obtain rfl : u4 = .int _ c4 := Option.some.inj e4
    intro e5
    obtain rfl : u5 = .int _ c5 := Option.some.inj e5
    intro e6
    obtain rfl : u6 = .string ⟨c6.toArray⟩ := Option.some.inj e6
    intro e7
    obtain rfl : u7 = .string ⟨c7.toArray⟩ := Option.some.inj e7
    intro e8
    obtain rfl : u8 = .int _ c8 := Option.some.inj e8
    intro e9
    obtain rfl : u9 = .int _ c9 := Option.some.inj e9
    intro e10
    obtain rfl : u10 = .slice a10 d10.length k10 := Option.some.inj e10
    intro e11
    obtain rfl : u11 = .slice a11 d11.length k11 := Option.some.inj e11
    rfl
theorem Step16.load {a : Option Addr} {n : Nat} {l : List Step16} {k : Nat} {x : Step16} (hk : l[k]? = some x) : ORead Tryz.prog (loadS 65 (.pointer (a.map fun y => (y.add ((k : Int).toNat * 12)).add 0))) (Ls kStep16 a n l) (.agg x.vals.toArray) := by
  obtain ⟨d, hd⟩ : ∃ d, Tryz.prog.underlying 65 = some d := Option.isSome_iff_exists.1 (by kernel_rfl)
  exact Ls.load (K := kStep16) hd (by kernel_rfl) (by kernel_rfl) hk

end Go.Proofs.YtdieogcemmnaaaaGreatDoor



namespace Go.Proofs.YtdieogcemmnaaaaGreatDoor.RX
set_option maxRecDepth 100000
-- tideline/tidelineref01.Same: ρ := [.a aa, .n al, .n ac, .p aP, .a ba, .n bl, .n bc, .p bP]
def t_same01 : T :=
(.br (.o1 .not (.o2 .eq (.o1 .ofNat (.v 1)) (.o1 .ofNat (.v 5))))
(.ret (.w (.a (.bool (.c false)))) [(.a 0, .prop 3), (.a 4, .prop 7)])
(.loop [.c, .i] [.e (.o1 .not (.o1 .not (.c false))), .e (.o1 .neg (.o1 .neg (.i 0)))]
(.br (.o2 .lt (.v 9) (.o1 .ofNat (.v 1)))
(.need (.o2 .le (.i 0) (.v 9))
(.need (.o1 .isSome (.v 0))
(.read (.load 5 (.tmp 19)) 5 [(19, .w (.a (.eptr 0 (.v 9) 1 0)))] [(.a 0, .prop 3)] [.i] (.w (.a (.int .u8 (.v 10))))
(.need (.o2 .lt (.v 9) (.o1 .ofNat (.v 5)))
(.need (.o1 .isSome (.v 4))
(.read (.load 5 (.tmp 23)) 5 [(23, .w (.a (.eptr 4 (.v 9) 1 0)))] [(.a 4, .prop 7)] [.i] (.w (.a (.int .u8 (.v 11))))
(.br (.o1 .not (.o2 .eq (.v 10) (.v 11)))
(.ret (.w (.a (.bool (.c false)))) [(.a 0, .prop 3), (.a 4, .prop 7)])
(.need (.o1 (.inr .i64) (.o2 .add (.v 9) (.i 1)))
(.again 0 [.e (.o1 .not (.o1 .not (.v 8))), .e (.o1 .neg (.o1 .neg (.o2 .add (.v 9) (.i 1))))])))))))))
(.ret (.w (.a (.bool (.c true)))) [(.a 0, .prop 3), (.a 4, .prop 7)]))))
theorem tree_same01 : tree Tryz.prog { keep := [30, 76, 78], rdf := true } Tryz.f30 [.a (.sl (.v 0) (.v 1) (.v 2)), .a (.sl (.v 4) (.v 5) (.v 6))] [(.a 0, .prop 3), (.a 4, .prop 7)] 8 = t_same01 := by kernel_rfl
def t_name03 : T :=
(.loop [.c, .i] [.e (.o1 .not (.o1 .not (.c false))), .e (.o1 .neg (.o1 .neg (.i 0)))]
(.br (.o2 .lt (.v 2) (.o1 .ofNat (.o1 .size (.v 0))))
(.read (.index 9 (.tmp 10) (.tmp 11)) 5 [(10, .w (.a (.str (.v 0)))), (11, .w (.a (.int .i64 (.v 2))))] [] [.i] (.w (.a (.int .u8 (.v 3))))
(.br (.o2 .eq (.v 3) (.i 47))
(.ret (.w (.a (.bool (.c false)))) [])
(.read (.index 9 (.tmp 15) (.tmp 16)) 5 [(15, .w (.a (.str (.v 0)))), (16, .w (.a (.int .i64 (.v 2))))] [] [.i] (.w (.a (.int .u8 (.v 4))))
(.br (.o2 .eq (.v 4) (.i 0))
(.ret (.w (.a (.bool (.c false)))) [])
(.need (.o1 (.inr .i64) (.o2 .add (.v 2) (.i 1)))
(.again 0 [.e (.o1 .not (.o1 .not (.v 1))), .e (.o1 .neg (.o1 .neg (.o2 .add (.v 2) (.i 1))))]))))))
(.br (.o2 .le (.i 1) (.o1 .ofNat (.o1 .size (.v 0))))
(.br (.o2 .le (.o1 .ofNat (.o1 .size (.v 0))) (.i 16))
(.br (.o1 .not (.o2 .seq (.v 0) (.s [46])))
(.ret (.w (.a (.bool (.o1 .not (.o2 .seq (.v 0) (.s [46, 46])))))) [])
(.ret (.w (.a (.bool (.c false)))) []))
(.ret (.w (.a (.bool (.c false)))) []))
(.ret (.w (.a (.bool (.c false)))) []))))
theorem tree_name03 : tree Tryz.prog { keep := [30, 76, 78], rdf := true } Tryz.f78 [.a (.str (.v 0))] [] 1 = t_name03 := by kernel_rfl
def t_sameNodes : T :=
(.br (.o1 .not (.o2 .eq (.o1 .ofNat (.v 1)) (.o1 .ofNat (.v 5))))
(.ret (.w (.a (.bool (.c false)))) [(.a 0, .prop 3), (.a 4, .prop 7)])
(.loop [.c, .i] [.e (.o1 .not (.o1 .not (.c false))), .e (.o1 .neg (.o1 .neg (.i 0)))]
(.br (.o2 .lt (.v 9) (.o1 .ofNat (.v 1)))
(.join [.n, .n, .i, .i, .i, .a, .n, .n, .a, .n, .n, .i, .i, .i, .a, .n, .n, .a, .n, .n]
(.need (.o2 .le (.i 0) (.v 9))
(.need (.o1 .isSome (.v 0))
(.read (.load 43 (.tmp 22)) 43 [(22, .w (.a (.eptr 0 (.v 9) 5 0)))] [(.a 0, .prop 3)] [.i, .i, .i, .a, .n, .n, .a, .n, .n] (.w (.agg [.int .i64 (.v 10), .int .i64 (.v 11), .int .i64 (.v 12), .sl (.v 13) (.v 14) (.v 15), .sl (.v 16) (.v 17) (.v 18)]))
(.need (.o2 .lt (.v 9) (.o1 .ofNat (.v 5)))
(.need (.o1 .isSome (.v 4))
(.read (.load 43 (.tmp 26)) 43 [(26, .w (.a (.eptr 4 (.v 9) 5 0)))] [(.a 4, .prop 7)] [.i, .i, .i, .a, .n, .n, .a, .n, .n] (.w (.agg [.int .i64 (.v 19), .int .i64 (.v 20), .int .i64 (.v 21), .sl (.v 22) (.v 23) (.v 24), .sl (.v 25) (.v 26) (.v 27)]))
    (.all
(.new
(.new
(.again 0 [.n (.v 28), .n (.v 29), .e (.o1 .neg (.o1 .neg (.v 19))), .e (.o1 .neg (.o1 .neg (.v 20))), .e (.o1 .neg (.o1 .neg (.v 21))), .a (.v 22), .e (.o2 .nadd (.v 23) (.n 0)), .e (.o2 .nadd (.v 24) (.n 0)), .a (.v 25), .e (.o2 .nadd (.v 26) (.n 0)), .e (.o2 .nadd (.v 27) (.n 0)), .e (.o1 .neg (.o1 .neg (.v 10))), .e (.o1 .neg (.o1 .neg (.v 11))), .e (.o1 .neg (.o1 .neg (.v 12))), .a (.v 13), .e (.o2 .nadd (.v 14) (.n 0)), .e (.o2 .nadd (.v 15) (.n 0)), .a (.v 16), .e (.o2 .nadd (.v 17) (.n 0)), .e (.o2 .nadd (.v 18) (.n 0))])))
(.new
(.new
(.again 0 [.n (.v 29), .n (.v 28), .e (.o1 .neg (.o1 .neg (.v 19))), .e (.o1 .neg (.o1 .neg (.v 20))), .e (.o1 .neg (.o1 .neg (.v 21))), .a (.v 22), .e (.o2 .nadd (.v 23) (.n 0)), .e (.o2 .nadd (.v 24) (.n 0)), .a (.v 25), .e (.o2 .nadd (.v 26) (.n 0)), .e (.o2 .nadd (.v 27) (.n 0)), .e (.o1 .neg (.o1 .neg (.v 10))), .e (.o1 .neg (.o1 .neg (.v 11))), .e (.o1 .neg (.o1 .neg (.v 12))), .a (.v 13), .e (.o2 .nadd (.v 14) (.n 0)), .e (.o2 .nadd (.v 15) (.n 0)), .a (.v 16), .e (.o2 .nadd (.v 17) (.n 0)), .e (.o2 .nadd (.v 18) (.n 0))]))))))))))
(.br (.o1 .not (.o2 .eq (.v 21) (.v 12)))
(.ret (.w (.a (.bool (.c false)))) [(.a 0, .prop 3), (.a 4, .prop 7)])
(.br (.o1 .not (.o2 .eq (.v 22) (.v 13)))
(.ret (.w (.a (.bool (.c false)))) [(.a 0, .prop 3), (.a 4, .prop 7)])
(.br (.o1 .not (.o2 .eq (.v 23) (.v 14)))
(.ret (.w (.a (.bool (.c false)))) [(.a 0, .prop 3), (.a 4, .prop 7)])
(.call 30 [.a (.sl (.v 24) (.v 25) (.v 26)), .a (.sl (.v 15) (.v 16) (.v 17))] [(.a 0, .prop 3), (.a 4, .prop 7)] [.c] (.w (.a (.bool (.v 30)))) [(.a 0, .prop 3), (.a 4, .prop 7)]
(.br (.o1 .not (.v 30))
(.ret (.w (.a (.bool (.c false)))) [(.a 0, .prop 3), (.a 4, .prop 7)])
(.br (.o1 .not (.o2 .eq (.o1 .ofNat (.v 28)) (.o1 .ofNat (.v 19))))
(.ret (.w (.a (.bool (.c false)))) [(.a 0, .prop 3), (.a 4, .prop 7)])
(.loop [.c, .i] [.e (.o1 .not (.o1 .not (.v 8))), .e (.o1 .neg (.o1 .neg (.i 0)))]
(.br (.o2 .lt (.v 32) (.o1 .ofNat (.v 28)))
(.need (.o2 .le (.i 0) (.v 32))
(.need (.o1 .isSome (.v 27))
(.read (.load 140 (.tmp 74)) 140 [(74, .w (.a (.eptr 27 (.v 32) 2 0)))] [(.a 0, .prop 3)] [.s, .i] (.w (.agg [.str (.v 33), .int .i64 (.v 34)]))
(.need (.o2 .lt (.v 32) (.o1 .ofNat (.v 19)))
(.need (.o1 .isSome (.v 18))
(.read (.load 140 (.tmp 79)) 140 [(79, .w (.a (.eptr 18 (.v 32) 2 0)))] [(.a 4, .prop 7)] [.s, .i] (.w (.agg [.str (.v 35), .int .i64 (.v 36)]))
(.read (.binOp .neq 140 (.tmp 75) (.tmp 80) 140) 4 [(75, .w (.agg [.str (.v 33), .int .i64 (.v 34)])), (80, .w (.agg [.str (.v 35), .int .i64 (.v 36)]))] [] [.c] (.w (.a (.bool (.v 37))))
(.br (.v 37)
(.ret (.w (.a (.bool (.c false)))) [(.a 0, .prop 3), (.a 4, .prop 7)])
(.need (.o1 (.inr .i64) (.o2 .add (.v 32) (.i 1)))
(.again 0 [.e (.o1 .not (.o1 .not (.v 31))), .e (.o1 .neg (.o1 .neg (.o2 .add (.v 32) (.i 1))))]))))))))))
(.need (.o1 (.inr .i64) (.o2 .add (.v 9) (.i 1)))
(.again 1 [.e (.o1 .not (.o1 .not (.v 31))), .e (.o1 .neg (.o1 .neg (.o2 .add (.v 9) (.i 1))))])))))))))))
(.ret (.w (.a (.bool (.c true)))) [(.a 0, .prop 3), (.a 4, .prop 7)]))))
theorem tree_sameNodes : tree Tryz.prog { keep := [30, 76, 78], rdf := true, jn := [((20, 10), some { ss := [.n, .n, .i, .i, .i, .a, .n, .n, .a, .n, .n, .i, .i, .i, .a, .n, .n, .a, .n, .n], n := 30, tv := [(20, none), (21, none), (22, none), (23, none), (24, none), (25, none), (26, none), (27, none), (6, some (.w (.a (.ptr (.v 10) 0)))), (7, some (.w (.a (.ptr (.v 11) 0))))], h := [(.b (.v 11), .cells [.int .i64 (.v 12), .int .i64 (.v 13), .int .i64 (.v 14), .sl (.v 15) (.v 16) (.v 17), .sl (.v 18) (.v 19) (.v 20)] 43), (.b (.v 10), .cells [.int .i64 (.v 21), .int .i64 (.v 22), .int .i64 (.v 23), .sl (.v 24) (.v 25) (.v 26), .sl (.v 27) (.v 28) (.v 29)] 43), (.a 0, .prop 3), (.a 4, .prop 7)], lk := [(15, .a 4), (18, .a 4), (24, .a 0), (27, .a 0)] })] } Tryz.f20 [.a (.sl (.v 0) (.v 1) (.v 2)), .a (.sl (.v 4) (.v 5) (.v 6))] [(.a 0, .prop 3), (.a 4, .prop 7)] 8 = t_sameNodes := by kernel_rfl
end Go.Proofs.YtdieogcemmnaaaaGreatDoor.RX



namespace Go.Proofs.YtdieogcemmnaaaaGreatDoor
set_option linter.unusedSimpArgs false
set_option linter.unusedVariables false
open Go.Proofs.YtdieogcemmnaaaaGreatDoor RX
set_option maxRecDepth 100000

instance instAns : DecidableEq AnsM := fun r s => decidable_of_iff (r.err = s.err ∧ r.kind = s.kind ∧ r.size = s.size ∧ r.links = s.links ∧ r.data = s.data ∧ r.names = s.names) ⟨fun ⟨h1, h2, h3, h4, h5, h6⟩ => by cases r; cases s; simp only at h1 h2 h3 h4 h5 h6; subst h1 h2 h3 h4 h5 h6; rfl, fun h => by subst h; exact ⟨rfl, rfl, rfl, rfl, rfl, rfl⟩⟩
theorem RdL.isSome {S : HP} {a : Option Addr} {n : Nat} {xs : List Value} (r : RdL S a n xs) {R h : PH} (H : S.p R h) (hn : n ≠ 0) : a.isSome = true := by
  cases a with
  | some x => rfl
  | none => exact absurd (r.none R h H rfl) hn
theorem take_eq {α : Type} {l m : List α} {k : Nat} {x y : α} (hx : l[k]? = some x) (hy : m[k]? = some y) (h : l.take k = m.take k) (e : x = y) : l.take (k + 1) = m.take (k + 1) := by
  rw [List.take_add_one, List.take_add_one, hx, hy, h, e]
theorem getN {α : Type} {l : List α} {k : Nat} (h : k < l.length) : ∃ x, l[k]? = some x := ⟨_, List.getElem?_eq_getElem h⟩
theorem get_ne {α : Type} {l m : List α} {k : Nat} {x y : α} (hx : l[k]? = some x) (hy : m[k]? = some y) (h : x ≠ y) : l ≠ m := fun e => by
  subst e
  rw [hx] at hy
  exact h (Option.some.inj hy)
theorem same01_ok (a : Option Addr) (n c : Nat) (la : List UInt8) (b : Option Addr) (m d : Nat) (lb : List UInt8) (Sa Sb : HP) (hA : RdL Sa a n (la.map u8v)) (hB : RdL Sb b m (lb.map u8v)) (hla : la.length = n) (hlb : lb.length = m) (hn : n ≤ 140737488355328) :
    Tri Tryz.prog 30 #[.slice a n c, .slice b m d] (HP.sep Sa Sb) (fun v => HP.and (v = .bool (decide (la = lb))) (HP.sep Sa Sb)) := by
  refine Tri.fact (φ := (n ≠ 0 → a.isSome = true) ∧ (m ≠ 0 → b.isSome = true)) (fun R h H => ⟨hA.isSome (HP.sep_left H), hB.isSome (HP.sep_right H)⟩) fun ⟨ha, hb⟩ => ?_
  refine tri_of_tree (ρ := [.a a, .n n, .n c, .p Sa, .a b, .n m, .n d, .p Sb]) mixed Tryz.func30 tree_same01 ?_
  unfold t_same01
  simp only [T.den, E.prop, E.den, RX.look, F1.app, F2.app, Uni.int_i, Uni.nat_n, Uni.bool_c, Uni.str_s, Uni.adr_a, Uni.val_v, Uni.hp_p, hden, cden, V.den, W.den, A.den, BR.den, SA.den, FV.den, capV, exs, exP, allP, Cur.app, List.map_cons, List.map_nil, List.cons_append, List.nil_append, List.drop_succ_cons, List.drop_zero, List.length_cons, List.length_nil, Nat.zero_add, Nat.reduceAdd, Int.neg_neg, Bool.not_not, List.append_nil, Nat.add_zero, List.getElem?_cons_zero, List.getElem?_cons_succ, Decidable.not_not, semW_eq, semW_load, ne_eq, Nat.reduceEqDiff, not_false_eq_true]
  refine ⟨fun h => .of fun R h' H => ⟨?_, H⟩, fun h => ?_⟩
  · rw [decide_eq_false]
    intro e; subst e; omega
  have hnm : n = m := by omega
  subst hnm
  refine ⟨fun _ i => ∃ k : Nat, i = k ∧ k ≤ n ∧ la.take k = lb.take k, fun _ i => n - i.toNat, ⟨0, rfl, Nat.zero_le _, rfl⟩, ?_⟩
  rintro x _ ⟨k, rfl, hk, hpre⟩
  refine ⟨fun hlt => ⟨by omega, fun _ => ⟨ha (by omega), fun _ => ?_⟩⟩, fun hge => .of fun R h' H => ⟨?_, H⟩⟩
  · obtain ⟨x, hx⟩ := getN (l := la) (k := k) (by omega)
    obtain ⟨y, hy⟩ := getN (l := lb) (k := k) (by omega)
    have ra := load1_ok und8b agg8 sz8 hA.rd (k := (k : Int).toNat * 1) (off := 0) (v := u8v x) (by rw [Int.toNat_natCast, Nat.mul_one, Nat.add_zero, List.getElem?_map, hx]; rfl)
    have rb := load1_ok und8b agg8 sz8 hB.rd (k := (k : Int).toNat * 1) (off := 0) (v := u8v y) (by rw [Int.toNat_natCast, Nat.mul_one, Nat.add_zero, List.getElem?_map, hy]; rfl)
    refine ⟨_, ra, by omega, fun _ => ⟨hb (by omega), fun _ => ⟨_, rb, fun h1 => .of fun R h' H => ⟨by rw [decide_eq_false (get_ne hx hy fun e => h1 (by rw [e]))], H⟩, fun h1 => ⟨inI64' _ (by omega) (by omega), fun _ => ⟨⟨k + 1, by omega, by omega, take_eq hx hy hpre (UInt8.toNat_inj.1 (by omega))⟩, by dsimp only; omega⟩⟩⟩⟩⟩
  · have hke : k = n := by omega
    subst hke
    rw [List.take_of_length_le (by omega), List.take_of_length_le (by omega)] at hpre
    rw [decide_eq_true hpre]
theorem strB {x y : List UInt8} : ((⟨x.toArray⟩ : ByteArray).toList == (⟨y.toArray⟩ : ByteArray).toList) = decide (x = y) := by
  rw [ByteArray.toList_eq, ByteArray.toList_eq]
  by_cases e : x = y
  · subst e; simp
  · simp [e]
theorem run_ent_eq {w : World} (r r' : Nm) (q q' : Int) : (Op.equal 140 (.agg #[sE r, .int .i64 q]) (.agg #[sE r', .int .i64 q'])).run Tryz.prog w = .ok (decide (r = r') && decide (q = q')) w := by
  have hs : Tryz.prog.stoodInHeld 140 = false := by kernel_rfl
  have hi : Tryz.prog.underlying 3 = some (.int .i64) := by kernel_rfl
  have ht : Tryz.prog.underlying 9 = some .string := by kernel_rfl
  have e2 : ∀ n, (Op.equalIn (n + 2) 140 (.agg #[sE r, .int .i64 q]) (.agg #[sE r', .int .i64 q'])).run Tryz.prog w = .ok (decide (r = r') && decide (q = q')) w := fun n => by
    rw [Op.equalIn]
    simp only [Sem.run_bind, RX.run_underlying Tryz.underlying140, Result.andThen_ok]
    simp [program, Sem.run, hs, Result.andThen]
    have pt : ∀ (cs : Array Value) (off : Nat) (v : Value), cs[off]? = some v → (part 9 cs off).run Tryz.prog w = .ok v w := fun cs off v h => by
      have ha : aggT Tryz.prog 9 = false := by kernel_rfl
      simp only [part, Sem.run_bind, RX.run_isAgg ht, Result.andThen_ok, ha, Bool.false_eq_true, if_false, h]
      rfl
    have pi : ∀ (cs : Array Value) (off : Nat) (v : Value), cs[off]? = some v → (part 3 cs off).run Tryz.prog w = .ok v w := fun cs off v h => by
      have ha : aggT Tryz.prog 3 = false := by kernel_rfl
      simp only [part, Sem.run_bind, RX.run_isAgg hi, Result.andThen_ok, ha, Bool.false_eq_true, if_false, h]
      rfl
    have p0 : ∀ (a : Nm) (b : Int), Sem.run Tryz.prog (part 9 #[sE a, Value.int IntKind.i64 b] 0) w = .ok (sE a) w := fun a b => pt _ _ _ rfl
    have p1 : ∀ (a : Nm) (b : Int), Sem.run Tryz.prog (part 3 #[sE a, Value.int IntKind.i64 b] 1) w = .ok (.int .i64 b) w := fun a b => pi _ _ _ rfl
    have eqi : ∀ (n : Nat) (a b : Int), (Op.equalIn (n + 1) 3 (.int .i64 a) (.int .i64 b)).run Tryz.prog w = .ok (decide (a = b)) w := fun n a b => by
      simp only [Op.equalIn, Sem.run_bind, RX.run_underlying hi, Result.andThen_ok, if_true, Sem.run_pure]
      rfl
    have eqs : ∀ (n : Nat) (a b : Nm), (Op.equalIn (n + 1) 9 (sE a) (sE b)).run Tryz.prog w = .ok (decide (a = b)) w := fun n a b => by
      show (Op.equalIn (n + 1) 9 (.string _) (.string _)).run Tryz.prog w = _
      rw [run_equalIn_string w n 9 _ _ ht, strB]
    simp only [p0, eqs]
    by_cases h1 : r = r'
    · simp [h1, Sem.run_bind, p1, eqi]
      by_cases h2 : q = q'
      · simp [h2]
      · simp [h2]
    · simp [h1]
  exact e2 9998
theorem neqEnt {i j : Nat} {ty u : TypeId} (h : i ≠ j) {r r' : Nm} {q q' : Int} {A : HP} :
    ORead Tryz.prog (semW (.binOp .neq 140 (.tmp i) (.tmp j) u) ty [(i, .agg #[sE r, .int .i64 q]), (j, .agg #[sE r', .int .i64 q'])]) A (.bool (!(decide (r = r') && decide (q = q')))) := fun w R hh F s _ => by
  have h' : (i == j) = false := by simpa using h
  have hg : Tryz.prog.eqGuardType Tryz.prog.depth 140 = false := by kernel_rfl
  simp only [semW, execOp, arW, List.find?_cons, beq_self_eq_true, h']
  simp [eqGuard, binOp, hg, program, Sem.run_bind, Sem.run, Result.andThen, run_ent_eq]
instance instNd : DecidableEq Nd := fun r s => decidable_of_iff (r.num = s.num ∧ r.kind = s.kind ∧ r.links = s.links ∧ r.data = s.data ∧ r.ents = s.ents) ⟨fun ⟨h1, h2, h3, h4, h5⟩ => by cases r; cases s; simp only at h1 h2 h3 h4 h5; subst h1 h2 h3 h4 h5; rfl, fun h => by subst h; exact ⟨rfl, rfl, rfl, rfl, rfl⟩⟩
theorem nodesData {a : Option Addr} {n : Nat} {es : List NodeE} {x : NodeE} (hx : x ∈ es) : RdL (Ls kNode a n es) x.da x.nd.data.length (x.nd.data.map u8v) :=
  ⟨Rd.impR (RdL.ro 1 x.da x.nd.data.length (x.nd.data.map u8v)).rd fun R h H => (H.2.2 x hx).1, fun R h H e => (RdL.ro 1 x.da x.nd.data.length (x.nd.data.map u8v)).none R h (H.2.2 x hx).1 e⟩
theorem undEnt : ∃ d, Tryz.prog.underlying 140 = some d := Option.isSome_iff_exists.1 (by kernel_rfl)
theorem aggEnt : aggT Tryz.prog 140 = true := by kernel_rfl
theorem szEnt : szT Tryz.prog 140 = 2 := by kernel_rfl
theorem loadEnt {a : Option Addr} {n : Nat} {es : List NodeE} {x : NodeE} (hx : x ∈ es) {k : Nat} {e : Nm × Nat} (hk : x.nd.ents[k]? = some e) : ORead Tryz.prog (loadS 140 (.pointer (x.ea.map fun y => (y.add (k * 2)).add 0))) (Ls kNode a n es) (.agg #[sE e.1, .int .i64 e.2]) := by
  obtain ⟨d, hd⟩ := undEnt
  exact ORead.ent (.of fun R h H => (H.2.2 x hx).2) (Ls.load (K := kEnt) hd aggEnt szEnt hk)
theorem nodesEa {a : Option Addr} {n : Nat} {es : List NodeE} {R h : PH} (H : (Ls kNode a n es).p R h) : ∀ x ∈ es, x.nd.ents.length ≠ 0 → x.ea.isSome = true := fun x hx hn => Ls.some (H.2.2 x hx).2 hn
set_option maxHeartbeats 1000000 in
theorem sameNodes_ok (a : Option Addr) (n c : Nat) (es : List NodeE) (b : Option Addr) (m d : Nat) (fs : List NodeE) (hb : ∀ x ∈ es, x.nd.data.length ≤ 140737488355328 ∧ x.nd.ents.length ≤ 140737488355328) (hn : n ≤ 140737488355328) :
    Tri Tryz.prog 20 #[.slice a n c, .slice b m d] (HP.sep (Ls kNode a n es) (Ls kNode b m fs)) (fun v => HP.and (v = .bool (decide (es.map (·.nd) = fs.map (·.nd)))) (HP.sep (Ls kNode a n es) (Ls kNode b m fs))) := by
  refine Tri.fact (φ := (es.length = n ∧ fs.length = m) ∧ ((n ≠ 0 → a.isSome = true) ∧ (m ≠ 0 → b.isSome = true)) ∧ (∀ x ∈ es, x.nd.ents.length ≠ 0 → x.ea.isSome = true) ∧ (∀ x ∈ fs, x.nd.ents.length ≠ 0 → x.ea.isSome = true)) (fun R h H => ⟨⟨(HP.sep_left H).1, (HP.sep_right H).1⟩, ⟨fun h => Ls.some (HP.sep_left H) h, fun h => Ls.some (HP.sep_right H) h⟩, nodesEa (HP.sep_left H), nodesEa (HP.sep_right H)⟩) fun ⟨⟨hl, hm⟩, ⟨ha, hb'⟩, hea, heb⟩ => ?_
  refine tri_of_tree (ρ := [.a a, .n n, .n c, .p (Ls kNode a n es), .a b, .n m, .n d, .p (Ls kNode b m fs)]) mixed Tryz.func20 tree_sameNodes ?_
  unfold t_sameNodes
  simp only [T.den, E.prop, E.den, RX.look, F1.app, F2.app, Uni.int_i, Uni.nat_n, Uni.bool_c, Uni.str_s, Uni.adr_a, Uni.val_v, Uni.hp_p, hden, cden, V.den, W.den, A.den, BR.den, SA.den, FV.den, capV, exs, exP, allP, Cur.app, List.map_cons, List.map_nil, List.cons_append, List.nil_append, List.drop_succ_cons, List.drop_zero, List.length_cons, List.length_nil, Nat.zero_add, Nat.reduceAdd, Int.neg_neg, Bool.not_not, List.append_nil, Nat.add_zero, List.getElem?_cons_zero, List.getElem?_cons_succ, Decidable.not_not, semW_eq, semW_load, ne_eq, Nat.reduceEqDiff, not_false_eq_true]
  have no : es.map (·.nd) ≠ fs.map (·.nd) → HP.ent (HP.sep (Ls kNode a n es) (Ls kNode b m fs)) (HP.and (Value.bool false = .bool (decide (es.map (·.nd) = fs.map (·.nd)))) (HP.sep (Ls kNode a n es) (Ls kNode b m fs))) := fun h => .of fun R h' H => ⟨by rw [decide_eq_false h], H⟩
  refine ⟨fun h => no fun e => ?_, fun h => ?_⟩
  · have := congrArg List.length e
    simp only [List.length_map] at this
    omega
  have hnm : n = m := by omega
  refine ⟨fun _ i => ∃ k : Nat, i = k ∧ k ≤ n ∧ (es.map (·.nd)).take k = (fs.map (·.nd)).take k, fun _ i => n - i.toNat, ⟨0, rfl, Nat.zero_le _, rfl⟩, ?_⟩
  rintro x0 _ ⟨k, rfl, hk, hpre⟩
  refine ⟨fun hlt => ?_, fun hge => .of fun R h' H => ⟨?_, H⟩⟩
  · obtain ⟨x, hx⟩ := getN (l := es) (k := k) (by omega)
    obtain ⟨y, hy⟩ := getN (l := fs) (k := k) (by omega)
    have hxm := List.mem_of_getElem? hx
    have hym := List.mem_of_getElem? hy
    have hx' : (es.map (·.nd))[k]? = some x.nd := by rw [List.getElem?_map, hx]; rfl
    have hy' : (fs.map (·.nd))[k]? = some y.nd := by rw [List.getElem?_map, hy]; rfl
    have hxb := hb x hxm
    refine ⟨fun _ _ n2 k2 l2 da2 dl2 dc2 ea2 el2 ec2 n1 k1 l1 da1 dl1 dc1 ea1 el1 ec1 => n2 = y.nd.num ∧ k2 = y.nd.kind ∧ l2 = y.nd.links ∧ da2 = y.da ∧ dl2 = y.nd.data.length ∧ dc2 = y.dc ∧ ea2 = y.ea ∧ el2 = y.nd.ents.length ∧ ec2 = y.ec ∧ n1 = x.nd.num ∧ k1 = x.nd.kind ∧ l1 = x.nd.links ∧ da1 = x.da ∧ dl1 = x.nd.data.length ∧ dc1 = x.dc ∧ ea1 = x.ea ∧ el1 = x.nd.ents.length ∧ ec1 = x.ec, ?_, ?_⟩
    · refine ⟨by omega, fun _ => ⟨ha (by omega), fun _ => ⟨x.nd.num, x.nd.kind, x.nd.links, x.da, x.nd.data.length, x.dc, x.ea, x.nd.ents.length, x.ec, loadNode hx, by omega, fun _ => ⟨hb' (by omega), fun _ => ⟨y.nd.num, y.nd.kind, y.nd.links, y.da, y.nd.data.length, y.dc, y.ea, y.nd.ents.length, y.ec, loadNode hy, ?_⟩⟩⟩⟩⟩
      exact ⟨fun _ _ => ⟨rfl, rfl, rfl, rfl, rfl, rfl, rfl, rfl, rfl, rfl, rfl, rfl, rfl, rfl, rfl, rfl, rfl, rfl⟩, fun _ _ => ⟨rfl, rfl, rfl, rfl, rfl, rfl, rfl, rfl, rfl, rfl, rfl, rfl, rfl, rfl, rfl, rfl, rfl, rfl⟩⟩
    rintro _ _ _ _ _ _ _ _ _ _ _ _ _ _ _ _ _ _ _ _ ⟨rfl, rfl, rfl, rfl, rfl, rfl, rfl, rfl, rfl, rfl, rfl, rfl, rfl, rfl, rfl, rfl, rfl, rfl⟩
    have dif : x.nd ≠ y.nd → es.map (·.nd) ≠ fs.map (·.nd) := get_ne hx' hy'
    refine ⟨fun h => no (dif fun e => h (by rw [e])), fun e1 => ⟨fun h => no (dif fun e => h (by rw [e])), fun e2 => ⟨fun h => no (dif fun e => h (by rw [e])), fun e3 => ?_⟩⟩⟩
    refine (same01_ok x.da _ x.dc x.nd.data y.da _ y.dc y.nd.data (Ls kNode a n es) (Ls kNode b m fs) (nodesData hxm) (nodesData hym) rfl rfl hxb.1).weak (fun _ _ h => h) ?_
    rintro v R h ⟨rfl, H⟩
    refine ⟨_, rfl, ⟨fun h => no (dif fun e => h (by rw [e]; simp)), fun e4 => ⟨fun h => no (dif fun e => h (by rw [e])), fun e5 => ?_⟩⟩, H⟩
    have e4' := of_decide_eq_true e4
    clear H
    refine ⟨fun _ i => ∃ j : Nat, i = j ∧ j ≤ x.nd.ents.length ∧ x.nd.ents.take j = y.nd.ents.take j, fun _ i => x.nd.ents.length - i.toNat, ⟨0, rfl, Nat.zero_le _, rfl⟩, ?_⟩
    rintro x1 _ ⟨j, rfl, hj, hpre2⟩
    refine ⟨fun hlt2 => ⟨by omega, fun _ => ⟨hea x hxm (by omega), fun _ => ?_⟩⟩, fun hge2 => ?_⟩
    · obtain ⟨p, hp⟩ := getN (l := x.nd.ents) (k := j) (by omega)
      obtain ⟨q, hq⟩ := getN (l := y.nd.ents) (k := j) (by omega)
      refine ⟨p.1, p.2, loadEnt hxm hp, by omega, fun _ => ⟨heb y hym (by omega), fun _ => ⟨q.1, q.2, loadEnt hym hq, _, neqEnt (by decide), fun h => no (dif fun e => ?_), fun h => ⟨inI64' _ (by omega) (by omega), fun _ => ⟨⟨j + 1, by omega, by omega, take_eq hp hq hpre2 ?_⟩, by dsimp only; omega⟩⟩⟩⟩⟩
      · have : p = q := by rw [e] at hp; rw [hp] at hq; exact Option.some.inj hq
        subst this
        simp at h
      · simp at h
        exact Prod.ext h.1 (by have := h.2; omega)
    · have e6 : x.nd.ents = y.nd.ents := by
        rw [List.take_of_length_le (by omega), List.take_of_length_le (by omega)] at hpre2
        exact hpre2
      have e7 : x.nd = y.nd := by
        obtain ⟨⟨a1, a2, a3, a4, a5⟩, _, _, _, _⟩ := x
        obtain ⟨⟨b1, b2, b3, b4, b5⟩, _, _, _, _⟩ := y
        simp only at e1 e2 e3 e4' e6 ⊢
        have : a1 = b1 := by omega
        subst this e2 e3 e4' e6
        rfl
      exact ⟨inI64' _ (by omega) (by omega), fun _ => ⟨⟨k + 1, by omega, by omega, take_eq hx' hy' hpre e7⟩, by dsimp only; omega⟩⟩
  · have hke : k = n := by omega
    subst hke
    rw [List.take_of_length_le (by simp; omega), List.take_of_length_le (by simp; omega)] at hpre
    rw [decide_eq_true hpre]
end Go.Proofs.YtdieogcemmnaaaaGreatDoor



namespace Go.Proofs.YtdieogcemmnaaaaGreatDoor
open Go.Proofs.YtdieogcemmnaaaaGreatDoor RX
set_option maxRecDepth 100000

def bare (n : Nd) : Nd := { n with links := 0 }
end Go.Proofs.YtdieogcemmnaaaaGreatDoor



namespace Go.Proofs.YtdieogcemmnaaaaGreatDoor
open Go.Proofs.YtdieogcemmnaaaaGreatDoor RX
set_option maxRecDepth 100000

end Go.Proofs.YtdieogcemmnaaaaGreatDoor



namespace Go.Proofs.YtdieogcemmnaaaaGreatDoor
open Go.Proofs.YtdieogcemmnaaaaGreatDoor RX
set_option maxRecDepth 100000

theorem esBN {B : Nat} (hB : B ≤ 100000) {T : List Nd} (wf : TWf B T) {es : List NodeE} (he : es.map (·.nd) = T) : ∀ x ∈ es, x.nd.data.length ≤ 140737488355328 ∧ x.nd.ents.length ≤ 140737488355328 := fun x hx => by
  have hm : x.nd ∈ T := by rw [← he]; exact List.mem_map.2 ⟨x, hx, rfl⟩
  have := wf.good _ hm
  have := this.data
  have := (wf.good _ hm).efew
  omega
end Go.Proofs.YtdieogcemmnaaaaGreatDoor



namespace Go.Proofs.YtdieogcemmnaaaaGreatDoor.RX
set_option maxRecDepth 100000
-- tideline/tidelinelaw16.speaks: ρ := []
def t_speaks16 : T :=
(.call 34 [] [] [.n, .p] (.w (.a (.ptr (.v 0) 0))) [(.b (.v 0), .prop 1)]
(.call 35 [.a (.ptr (.v 0) 0), .agg [.int .i64 (.i 2), .sl .nil (.n 0) (.n 0)]] [(.b (.v 0), .prop 1)] [.p] (.tup []) [(.b (.v 0), .prop 2)]
(.call 44 [.a (.ptr (.v 0) 0)] [(.b (.v 0), .prop 2)] [.a, .n, .n, .p, .i] (.tup [.a (.sl (.v 3) (.v 4) (.v 5)), .a (.int .i64 (.v 7))]) [(.a 3, .prop 6), (.b (.v 0), .prop 2)]
(.call 38 [.a (.ptr (.v 0) 0)] [(.b (.v 0), .prop 2)] [.i] (.w (.a (.int .i64 (.v 8)))) [(.b (.v 0), .prop 2)]
(.br (.o2 .eq (.v 8) (.i 1))
(.call 37 [.a (.ptr (.v 0) 0)] [(.b (.v 0), .prop 2)] [.a, .n, .n, .p] (.w (.a (.sl (.v 9) (.v 10) (.v 11)))) [(.a 9, .prop 12), (.b (.v 0), .prop 2)]
(.br (.o2 .eq (.o1 .ofNat (.v 10)) (.i 1))
(.br (.o2 .eq (.v 7) (.i 0))
(.br (.o2 .lt (.i 0) (.o1 .ofNat (.v 4)))
(.call 92 [.a (.ptr (.v 0) 0)] [(.b (.v 0), .prop 2)] [.c] (.w (.a (.bool (.v 13)))) [(.b (.v 0), .prop 2)]
(.ret (.w (.a (.bool (.o1 .not (.v 13))))) []))
(.ret (.w (.a (.bool (.c false)))) []))
(.ret (.w (.a (.bool (.c false)))) []))
(.ret (.w (.a (.bool (.c false)))) [])))
(.ret (.w (.a (.bool (.c false)))) []))))))
theorem tree_speaks16 : tree Tryz.prog { keep := [37, 44, 38, 92, 43, 42, 39, 93, 46, 36, 32, 20, 30, 33, 40, 41], turn := [(35, [0])], rdf := true, cut := [101] } Tryz.f31 [] [] 0 = t_speaks16 := by kernel_rfl
def t_great16 : T :=
(.br (.o2 .lt (.i 60) (.o1 .ofNat (.v 1)))
(.ret (.w (.a (.bool (.c true)))) [(.a 0, .prop 3)])
(.loop [.c, .i] [.e (.o1 .not (.o1 .not (.c false))), .e (.o1 .neg (.o1 .neg (.i 0)))]
(.br (.o2 .lt (.v 5) (.o1 .ofNat (.v 1)))
(.need (.o2 .le (.i 0) (.v 5))
(.need (.o1 .isSome (.v 0))
(.read (.load 65 (.tmp 12)) 65 [(12, .w (.a (.eptr 0 (.v 5) 12 0)))] [(.a 0, .prop 3)] [.i, .i, .i, .i, .i, .i, .s, .s, .i, .i, .a, .n, .n, .a, .n, .n] (.w (.agg [.int .i64 (.v 6), .int .i64 (.v 7), .int .i64 (.v 8), .int .i64 (.v 9), .int .i64 (.v 10), .int .i64 (.v 11), .str (.v 12), .str (.v 13), .int .i64 (.v 14), .int .i64 (.v 15), .sl (.v 16) (.v 17) (.v 18), .sl (.v 19) (.v 20) (.v 21)]))
(.new
(.call 93 [.agg [.int .i64 (.i 1), .int .i64 (.v 8), .int .i64 (.v 9), .int .i64 (.v 10), .int .i64 (.i 0), .int .i64 (.i 0), .sl .nil (.n 0) (.n 0)]] [] [.c] (.w (.a (.bool (.v 23)))) []
(.br (.v 23)
(.br (.o2 .lt (.i 300) (.o1 .ofNat (.o1 .size (.v 12))))
(.ret (.w (.a (.bool (.c true)))) [(.a 0, .prop 3)])
(.br (.o2 .lt (.i 300) (.o1 .ofNat (.o1 .size (.v 13))))
(.ret (.w (.a (.bool (.c true)))) [(.a 0, .prop 3)])
(.br (.o2 .lt (.i 600) (.o1 .ofNat (.v 17)))
(.ret (.w (.a (.bool (.c true)))) [(.a 0, .prop 3)])
(.br (.o2 .lt (.i 1000) (.o1 .ofNat (.v 20)))
(.ret (.w (.a (.bool (.c true)))) [(.a 0, .prop 3)])
(.need (.o1 (.inr .i64) (.o2 .add (.v 5) (.i 1)))
(.again 0 [.e (.o1 .not (.o1 .not (.v 4))), .e (.o1 .neg (.o1 .neg (.o2 .add (.v 5) (.i 1))))]))))))
(.need (.o1 (.inr .i64) (.o2 .add (.v 5) (.i 1)))
(.again 0 [.e (.o1 .not (.o1 .not (.v 4))), .e (.o1 .neg (.o1 .neg (.o2 .add (.v 5) (.i 1))))]))))))))
(.ret (.w (.a (.bool (.c false)))) [(.a 0, .prop 3)]))))
theorem tree_great16 : tree Tryz.prog { keep := [37, 44, 38, 92, 43, 42, 39, 93, 46, 36, 32, 20, 30, 33, 40, 41], turn := [(35, [0])], rdf := true, cut := [101] } Tryz.f32 [.a (.sl (.v 0) (.v 1) (.v 2))] [(.a 0, .prop 3)] 4 = t_great16 := by kernel_rfl
def t_cell16 : T :=
(.new
(.new
(.br (.o2 .eq (.v 0) (.i 0))
(.call 46 [.agg [.int .i64 (.v 5), .str (.v 6), .str (.v 7), .int .i64 (.v 8), .int .i64 (.v 9), .sl (.v 10) (.v 11) (.v 12)]] [(.a 10, .prop 13)] [.a, .n, .n, .p] (.w (.a (.sl (.v 25) (.v 26) (.v 27)))) [(.a 25, .prop 28), (.a 10, .prop 13)]
(.call 39 [.agg [.int .i64 (.i 1), .int .i64 (.v 2), .int .i64 (.v 3), .int .i64 (.v 4), .int .i64 (.i 0), .int .i64 (.i (-1)), .sl (.v 25) (.v 26) (.v 27)]] [(.a 25, .prop 28)] [.a, .n, .n, .p] (.w (.a (.sl (.v 29) (.v 30) (.v 31)))) [(.a 29, .prop 32), (.a 25, .prop 28)]
(.ret (.w (.agg [.int .i64 (.i 1), .sl (.v 29) (.v 30) (.v 31)])) [(.a 10, .prop 13), (.a 14, .prop 17), (.a 19, .prop 22), (.a 29, .prop 32)])))
(.br (.o2 .eq (.v 0) (.i 1))
(.fail 29)
(.br (.o2 .eq (.v 0) (.i 2))
(.fail 29)
(.br (.o2 .eq (.v 0) (.i 4))
(.new
(.op (.call ⟨.builtin .append, #[.tmp 42, .tmp 44], #[28, 28]⟩) 28 [(42, .w (.a (.sl (.b (.v 25) 0) (.n 0) (.n 0)))), (44, .w (.a (.sl (.v 14) (.v 15) (.v 16))))] [(.b (.v 25), .cells [] 5), (.a 14, .prop 17)] [.a, .n, .n, .p] (.w (.a (.sl (.v 26) (.v 27) (.v 28)))) [(.a 26, .prop 29), (.a 14, .prop 17)]
(.ret (.w (.agg [.int .i64 (.i 1), .sl (.v 26) (.v 27) (.v 28)])) [(.a 10, .prop 13), (.a 14, .prop 17), (.a 19, .prop 22), (.a 26, .prop 29)])))
(.ret (.w (.agg [.int .i64 (.i 2), .sl .nil (.n 0) (.n 0)])) [(.a 10, .prop 13), (.a 14, .prop 17), (.a 19, .prop 22)])))))))
theorem tree_cell16 : tree Tryz.prog { keep := [37, 44, 38, 92, 43, 42, 39, 93, 46, 36, 32, 20, 30, 33, 40, 41], turn := [(35, [0])], rdf := true, cut := [101] } Tryz.f36 [.agg [.int .i64 (.v 0), .int .i64 (.v 1), .int .i64 (.v 2), .int .i64 (.v 3), .int .i64 (.v 4), .int .i64 (.v 5), .str (.v 6), .str (.v 7), .int .i64 (.v 8), .int .i64 (.v 9), .sl (.v 10) (.v 11) (.v 12), .sl (.v 14) (.v 15) (.v 16)], .a (.int .i64 (.v 18)), .a (.sl (.v 19) (.v 20) (.v 21))] [(.a 10, .prop 13), (.a 14, .prop 17), (.a 19, .prop 22)] 23 = t_cell16 := by kernel_rfl
def t_replayJunk : T :=
(.call 31 [] [] [.c] (.w (.a (.bool (.v 8)))) []
(.br (.o1 .not (.v 8))
(.ret (.w (.a (.bool (.c false)))) [(.a 0, .prop 3), (.a 4, .prop 7)])
(.call 32 [.a (.sl (.v 0) (.v 1) (.v 2))] [(.a 0, .prop 3)] [.c] (.w (.a (.bool (.v 9)))) [(.a 0, .prop 3)]
(.br (.v 9)
(.ret (.w (.a (.bool (.c true)))) [(.a 0, .prop 3), (.a 4, .prop 7)])
(.br (.o2 .lt (.i 1000) (.o1 .ofNat (.v 5)))
(.ret (.w (.a (.bool (.c true)))) [(.a 0, .prop 3), (.a 4, .prop 7)])
(.call 33 [.a (.sl (.v 4) (.v 5) (.v 6))] [(.a 4, .prop 7)] [.i, .i, .i, .i, .i, .i, .a, .n, .n, .p, .i] (.tup [.agg [.int .i64 (.v 10), .int .i64 (.v 11), .int .i64 (.v 12), .int .i64 (.v 13), .int .i64 (.v 14), .int .i64 (.v 15), .sl (.v 16) (.v 17) (.v 18)], .a (.int .i64 (.v 20))]) [(.a 16, .prop 19), (.a 4, .prop 7)]
(.new
(.br (.o2 .eq (.v 20) (.i 0))
(.ret (.w (.a (.bool (.c true)))) [(.a 0, .prop 3), (.a 4, .prop 7)])
(.call 34 [] [] [.n, .p] (.w (.a (.ptr (.v 22) 0))) [(.b (.v 22), .prop 23)]
(.loop [.i, .p] [.e (.o1 .neg (.o1 .neg (.i 0))), .p [(.b (.v 22), .prop 23)]]
(.br (.o2 .lt (.v 24) (.o1 .ofNat (.v 1)))
(.need (.o2 .le (.i 0) (.v 24))
(.need (.o1 .isSome (.v 0))
(.read (.load 65 (.tmp 42)) 65 [(42, .w (.a (.eptr 0 (.v 24) 12 0)))] [(.a 0, .prop 3)] [.i, .i, .i, .i, .i, .i, .s, .s, .i, .i, .a, .n, .n, .a, .n, .n] (.w (.agg [.int .i64 (.v 26), .int .i64 (.v 27), .int .i64 (.v 28), .int .i64 (.v 29), .int .i64 (.v 30), .int .i64 (.v 31), .str (.v 32), .str (.v 33), .int .i64 (.v 34), .int .i64 (.v 35), .sl (.v 36) (.v 37) (.v 38), .sl (.v 39) (.v 40) (.v 41)]))
(.new
(.br (.o2 .eq (.v 26) (.i 0))
(.call 36 [.agg [.int .i64 (.v 26), .int .i64 (.v 27), .int .i64 (.v 28), .int .i64 (.v 29), .int .i64 (.v 30), .int .i64 (.v 31), .str (.v 32), .str (.v 33), .int .i64 (.v 34), .int .i64 (.v 35), .sl (.v 36) (.v 37) (.v 38), .sl (.v 39) (.v 40) (.v 41)], .a (.int .i64 (.i 0)), .a (.sl .nil (.n 0) (.n 0))] [(.a 0, .prop 3)] [.i, .a, .n, .n, .p] (.w (.agg [.int .i64 (.v 43), .sl (.v 44) (.v 45) (.v 46)])) [(.a 44, .prop 47), (.a 0, .prop 3)]
(.call 35 [.a (.ptr (.v 22) 0), .agg [.int .i64 (.v 43), .sl (.v 44) (.v 45) (.v 46)]] [(.b (.v 22), .prop 25), (.a 44, .prop 47)] [.p] (.tup []) [(.b (.v 22), .prop 48), (.a 44, .prop 47)]
(.need (.o1 (.inr .i64) (.o2 .add (.v 24) (.i 1)))
(.again 0 [.e (.o1 .neg (.o1 .neg (.o2 .add (.v 24) (.i 1)))), .p [(.b (.v 22), .prop 48)]]))))
(.need (.o1 (.inr .i64) (.o2 .add (.v 24) (.i 1)))
(.again 0 [.e (.o1 .neg (.o1 .neg (.o2 .add (.v 24) (.i 1)))), .p [(.b (.v 22), .prop 25)]])))))))
(.call 37 [.a (.ptr (.v 22) 0)] [(.b (.v 22), .prop 25)] [.a, .n, .n, .p] (.w (.a (.sl (.v 26) (.v 27) (.v 28)))) [(.a 26, .prop 29), (.b (.v 22), .prop 25)]
(.call 38 [.a (.ptr (.v 22) 0)] [(.b (.v 22), .prop 25)] [.i] (.w (.a (.int .i64 (.v 30)))) [(.b (.v 22), .prop 25)]
(.call 39 [.agg [.int .i64 (.i 1), .int .i64 (.i 0), .int .i64 (.i 0), .int .i64 (.i 0), .int .i64 (.i 0), .int .i64 (.i (-1)), .sl (.v 4) (.v 5) (.v 6)]] [(.a 4, .prop 7)] [.a, .n, .n, .p] (.w (.a (.sl (.v 31) (.v 32) (.v 33)))) [(.a 31, .prop 34), (.a 4, .prop 7)]
(.call 39 [.agg [.int .i64 (.i 2), .int .i64 (.i 0), .int .i64 (.i 0), .int .i64 (.i 0), .int .i64 (.i 0), .int .i64 (.i (-1)), .sl (.v 4) (.v 5) (.v 6)]] [(.a 4, .prop 7)] [.a, .n, .n, .p] (.w (.a (.sl (.v 35) (.v 36) (.v 37)))) [(.a 35, .prop 38), (.a 4, .prop 7)]
(.call 35 [.a (.ptr (.v 22) 0), .agg [.int .i64 (.i 2), .sl .nil (.n 0) (.n 0)]] [(.b (.v 22), .prop 25)] [.p] (.tup []) [(.b (.v 22), .prop 39)]
(.call 35 [.a (.ptr (.v 22) 0), .agg [.int .i64 (.i 1), .sl (.v 4) (.v 5) (.v 6)]] [(.b (.v 22), .prop 39), (.a 4, .prop 7)] [.p] (.tup []) [(.b (.v 22), .prop 40), (.a 4, .prop 7)]
(.call 40 [.a (.sl (.v 4) (.v 5) (.v 6))] [(.a 4, .prop 7)] [.i, .s, .s, .i, .i, .a, .n, .n, .p, .i] (.tup [.agg [.int .i64 (.v 41), .str (.v 42), .str (.v 43), .int .i64 (.v 44), .int .i64 (.v 45), .sl (.v 46) (.v 47) (.v 48)], .a (.int .i64 (.v 50))]) [(.a 46, .prop 49), (.a 4, .prop 7)]
(.new
(.br (.o1 .not (.o2 .eq (.v 50) (.i 0)))
(.call 35 [.a (.ptr (.v 22) 0), .agg [.int .i64 (.i 1), .sl (.v 31) (.v 32) (.v 33)]] [(.b (.v 22), .prop 40), (.a 31, .prop 34)] [.p] (.tup []) [(.b (.v 22), .prop 52), (.a 31, .prop 34)]
(.call 41 [.a (.sl (.v 4) (.v 5) (.v 6))] [(.a 4, .prop 7)] [.i, .a, .n, .n, .p, .i] (.tup [.a (.int .i64 (.v 53)), .a (.sl (.v 54) (.v 55) (.v 56)), .a (.int .i64 (.v 58))]) [(.a 54, .prop 57), (.a 4, .prop 7)]
(.br (.o1 .not (.o2 .eq (.v 58) (.i 0)))
(.call 35 [.a (.ptr (.v 22) 0), .agg [.int .i64 (.i 1), .sl (.v 35) (.v 36) (.v 37)]] [(.b (.v 22), .prop 52), (.a 35, .prop 38)] [.p] (.tup []) [(.b (.v 22), .prop 59), (.a 35, .prop 38)]
(.call 35 [.a (.ptr (.v 22) 0), .agg [.int .i64 (.i 0), .sl .nil (.n 0) (.n 0)]] [(.b (.v 22), .prop 59)] [.p] (.tup []) [(.b (.v 22), .prop 60)]
(.call 42 [.a (.ptr (.v 22) 0)] [(.b (.v 22), .prop 60)] [.i, .i] (.tup [.a (.int .i64 (.v 61)), .a (.int .i64 (.v 62))]) [(.b (.v 22), .prop 60)]
(.call 38 [.a (.ptr (.v 22) 0)] [(.b (.v 22), .prop 60)] [.i] (.w (.a (.int .i64 (.v 63)))) [(.b (.v 22), .prop 60)]
(.need (.o1 (.inr .i64) (.o2 .add (.v 30) (.i 5)))
(.br (.o2 .eq (.v 63) (.o2 .add (.v 30) (.i 5)))
(.call 37 [.a (.ptr (.v 22) 0)] [(.b (.v 22), .prop 60)] [.a, .n, .n, .p] (.w (.a (.sl (.v 64) (.v 65) (.v 66)))) [(.a 64, .prop 67), (.b (.v 22), .prop 60)]
(.call 20 [.a (.sl (.v 64) (.v 65) (.v 66)), .a (.sl (.v 26) (.v 27) (.v 28))] [(.a 64, .prop 67), (.a 26, .prop 29)] [.c] (.w (.a (.bool (.v 68)))) [(.a 64, .prop 67), (.a 26, .prop 29)]
(.br (.v 68)
(.ret (.w (.a (.bool (.o2 .eq (.v 61) (.i (-1)))))) [(.a 0, .prop 3), (.a 4, .prop 7)])
(.ret (.w (.a (.bool (.c false)))) [(.a 0, .prop 3), (.a 4, .prop 7)]))))
(.ret (.w (.a (.bool (.c false)))) [(.a 0, .prop 3), (.a 4, .prop 7)])))))))
(.need (.o1 (.inr .i64) (.o2 .sub (.v 30) (.i 1)))
(.call 35 [.a (.ptr (.v 22) 0), .agg [.int .i64 (.i 0), .sl .nil (.n 0) (.n 0)]] [(.b (.v 22), .prop 52)] [.p] (.tup []) [(.b (.v 22), .prop 59)]
(.call 42 [.a (.ptr (.v 22) 0)] [(.b (.v 22), .prop 59)] [.i, .i] (.tup [.a (.int .i64 (.v 60)), .a (.int .i64 (.v 61))]) [(.b (.v 22), .prop 59)]
(.call 38 [.a (.ptr (.v 22) 0)] [(.b (.v 22), .prop 59)] [.i] (.w (.a (.int .i64 (.v 62)))) [(.b (.v 22), .prop 59)]
(.need (.o1 (.inr .i64) (.o2 .add (.o2 .sub (.v 30) (.i 1)) (.i 5)))
(.br (.o2 .eq (.v 62) (.o2 .add (.o2 .sub (.v 30) (.i 1)) (.i 5)))
(.call 37 [.a (.ptr (.v 22) 0)] [(.b (.v 22), .prop 59)] [.a, .n, .n, .p] (.w (.a (.sl (.v 63) (.v 64) (.v 65)))) [(.a 63, .prop 66), (.b (.v 22), .prop 59)]
(.call 20 [.a (.sl (.v 63) (.v 64) (.v 65)), .a (.sl (.v 26) (.v 27) (.v 28))] [(.a 63, .prop 66), (.a 26, .prop 29)] [.c] (.w (.a (.bool (.v 67)))) [(.a 63, .prop 66), (.a 26, .prop 29)]
(.br (.v 67)
(.ret (.w (.a (.bool (.o2 .eq (.v 60) (.i (-1)))))) [(.a 0, .prop 3), (.a 4, .prop 7)])
(.ret (.w (.a (.bool (.c false)))) [(.a 0, .prop 3), (.a 4, .prop 7)]))))
(.ret (.w (.a (.bool (.c false)))) [(.a 0, .prop 3), (.a 4, .prop 7)]))))))))))
(.need (.o1 (.inr .i64) (.o2 .sub (.v 30) (.i 1)))
(.call 41 [.a (.sl (.v 4) (.v 5) (.v 6))] [(.a 4, .prop 7)] [.i, .a, .n, .n, .p, .i] (.tup [.a (.int .i64 (.v 52)), .a (.sl (.v 53) (.v 54) (.v 55)), .a (.int .i64 (.v 57))]) [(.a 53, .prop 56), (.a 4, .prop 7)]
(.br (.o1 .not (.o2 .eq (.v 57) (.i 0)))
(.call 35 [.a (.ptr (.v 22) 0), .agg [.int .i64 (.i 1), .sl (.v 35) (.v 36) (.v 37)]] [(.b (.v 22), .prop 40), (.a 35, .prop 38)] [.p] (.tup []) [(.b (.v 22), .prop 58), (.a 35, .prop 38)]
(.call 35 [.a (.ptr (.v 22) 0), .agg [.int .i64 (.i 0), .sl .nil (.n 0) (.n 0)]] [(.b (.v 22), .prop 58)] [.p] (.tup []) [(.b (.v 22), .prop 59)]
(.call 42 [.a (.ptr (.v 22) 0)] [(.b (.v 22), .prop 59)] [.i, .i] (.tup [.a (.int .i64 (.v 60)), .a (.int .i64 (.v 61))]) [(.b (.v 22), .prop 59)]
(.call 38 [.a (.ptr (.v 22) 0)] [(.b (.v 22), .prop 59)] [.i] (.w (.a (.int .i64 (.v 62)))) [(.b (.v 22), .prop 59)]
(.need (.o1 (.inr .i64) (.o2 .add (.o2 .sub (.v 30) (.i 1)) (.i 5)))
(.br (.o2 .eq (.v 62) (.o2 .add (.o2 .sub (.v 30) (.i 1)) (.i 5)))
(.call 37 [.a (.ptr (.v 22) 0)] [(.b (.v 22), .prop 59)] [.a, .n, .n, .p] (.w (.a (.sl (.v 63) (.v 64) (.v 65)))) [(.a 63, .prop 66), (.b (.v 22), .prop 59)]
(.call 20 [.a (.sl (.v 63) (.v 64) (.v 65)), .a (.sl (.v 26) (.v 27) (.v 28))] [(.a 63, .prop 66), (.a 26, .prop 29)] [.c] (.w (.a (.bool (.v 67)))) [(.a 63, .prop 66), (.a 26, .prop 29)]
(.br (.v 67)
(.ret (.w (.a (.bool (.o2 .eq (.v 60) (.i (-1)))))) [(.a 0, .prop 3), (.a 4, .prop 7)])
(.ret (.w (.a (.bool (.c false)))) [(.a 0, .prop 3), (.a 4, .prop 7)]))))
(.ret (.w (.a (.bool (.c false)))) [(.a 0, .prop 3), (.a 4, .prop 7)])))))))
(.need (.o1 (.inr .i64) (.o2 .sub (.o2 .sub (.v 30) (.i 1)) (.i 1)))
(.call 35 [.a (.ptr (.v 22) 0), .agg [.int .i64 (.i 0), .sl .nil (.n 0) (.n 0)]] [(.b (.v 22), .prop 40)] [.p] (.tup []) [(.b (.v 22), .prop 58)]
(.call 42 [.a (.ptr (.v 22) 0)] [(.b (.v 22), .prop 58)] [.i, .i] (.tup [.a (.int .i64 (.v 59)), .a (.int .i64 (.v 60))]) [(.b (.v 22), .prop 58)]
(.call 38 [.a (.ptr (.v 22) 0)] [(.b (.v 22), .prop 58)] [.i] (.w (.a (.int .i64 (.v 61)))) [(.b (.v 22), .prop 58)]
(.need (.o1 (.inr .i64) (.o2 .add (.o2 .sub (.o2 .sub (.v 30) (.i 1)) (.i 1)) (.i 5)))
(.br (.o2 .eq (.v 61) (.o2 .add (.o2 .sub (.o2 .sub (.v 30) (.i 1)) (.i 1)) (.i 5)))
(.call 37 [.a (.ptr (.v 22) 0)] [(.b (.v 22), .prop 58)] [.a, .n, .n, .p] (.w (.a (.sl (.v 62) (.v 63) (.v 64)))) [(.a 62, .prop 65), (.b (.v 22), .prop 58)]
(.call 20 [.a (.sl (.v 62) (.v 63) (.v 64)), .a (.sl (.v 26) (.v 27) (.v 28))] [(.a 62, .prop 65), (.a 26, .prop 29)] [.c] (.w (.a (.bool (.v 66)))) [(.a 62, .prop 65), (.a 26, .prop 29)]
(.br (.v 66)
(.ret (.w (.a (.bool (.o2 .eq (.v 59) (.i (-1)))))) [(.a 0, .prop 3), (.a 4, .prop 7)])
(.ret (.w (.a (.bool (.c false)))) [(.a 0, .prop 3), (.a 4, .prop 7)]))))
(.ret (.w (.a (.bool (.c false)))) [(.a 0, .prop 3), (.a 4, .prop 7)]))))))))))))))))))))))))))))))
theorem tree_replayJunk : tree Tryz.prog { hv := [(0, [.b (.v 22)])], keep := [37, 44, 38, 92, 43, 42, 39, 93, 46, 36, 32, 20, 30, 33, 40, 41], turn := [(35, [0])], rdf := true, cut := [101] } Tryz.f10 [.a (.sl (.v 0) (.v 1) (.v 2)), .a (.sl (.v 4) (.v 5) (.v 6))] [(.a 0, .prop 3), (.a 4, .prop 7)] 8 = t_replayJunk := by kernel_rfl
end Go.Proofs.YtdieogcemmnaaaaGreatDoor.RX



namespace Go.Proofs.YtdieogcemmnaaaaGreatDoor
set_option linter.unusedSimpArgs false
set_option linter.unusedVariables false
open Go.Proofs.YtdieogcemmnaaaaGreatDoor RX
set_option maxRecDepth 100000

theorem rpTakeO {b : Nat} {s : RpS} {B : Nat} (hB : B ≤ 100000) (wf : TWf B s.t.pub) (what : Int) (a : Option Addr) (n c : Nat) (l : List UInt8) (S : HP) (hr : RdL S a n (l.map u8v)) (hl : l.length = n) (hc : n ≤ c) (ha : n ≠ 0 → a.isSome = true) (hnx : -9223372036854775808 ≤ s.nx + 1 ∧ s.nx + 1 ≤ 9223372036854775807) :
    Tri Tryz.prog 35 #[.pointer (some ⟨b, 0, none⟩), .agg #[.int .i64 what, .slice a n c]] (HP.sep (RpRep b s) S) (fun v => HP.ex fun s' : RpS => HP.and (v = .tuple #[] ∧ s'.pub = takeP s.pub what l) (HP.sep (RpRep b s') S)) := by
  refine (rpTake_ok hB wf what a n c l S hr hl hc ha hnx).weak (fun R h H => RpX.of H) ?_
  rintro v R h ⟨s', e, H⟩
  exact ⟨s', e, RpX.to H⟩
theorem rpTake0 {b : Nat} {s : RpS} {B : Nat} (hB : B ≤ 100000) (wf : TWf B s.t.pub) (what : Int) (hnx : -9223372036854775808 ≤ s.nx + 1 ∧ s.nx + 1 ≤ 9223372036854775807) :
    Tri Tryz.prog 35 #[.pointer (some ⟨b, 0, none⟩), .agg #[.int .i64 what, .slice none 0 0]] (RpRep b s) (fun v => HP.ex fun s' : RpS => HP.and (v = .tuple #[] ∧ s'.pub = takeP s.pub what []) (RpRep b s')) := by
  refine (rpTakeO (S := HP.tt) hB wf what none 0 0 [] ⟨fun w R h F s a j u hj => by simp at hj, fun _ _ _ _ => rfl⟩ rfl (Nat.le_refl _) (fun h => absurd rfl h) hnx).weak (fun R h H => HP.sep_tt H) ?_
  rintro v R h ⟨s', e, H⟩
  exact ⟨s', e, HP.sep_left H⟩
theorem snapP_same (p : RpP) (a : Int) (l : List UInt8) : (snapP p a l).T = p.T ∧ (snapP p a l).nx = p.nx := by
  unfold snapP
  split
  · exact ⟨rfl, rfl⟩
  · split
    · exact ⟨rfl, rfl⟩
    · split <;> exact ⟨rfl, rfl⟩
theorem takeP_nx (p : RpP) (what : Int) (l : List UInt8) : (takeP p what l).nx = p.nx + 1 := by
  unfold takeP
  split
  · rfl
  · split
    · rfl
    · unfold logP
      split
      · split <;> rfl
      · split
        · exact (snapP_same _ _ _).2
        · rfl
theorem TWf.mono {B B' : Nat} {T : List Nd} (wf : TWf B T) (h : B ≤ B') : TWf B' T :=
  ⟨wf.sorted, wf.root, fun n hn => let g := wf.good n hn; ⟨g.kind, g.data, g.lpos, by have := g.lfew; omega, by have := g.efew; omega, g.sort, g.name, g.num⟩, wf.tgt, wf.cnt⟩
theorem takeP_wf {B : Nat} (hB : 1 ≤ B) {p : RpP} (wf : TWf B p.T) (what : Int) (l : List UInt8) : TWf (B + 1) (takeP p what l).T := by
  unfold takeP
  split
  · exact wf.mono (Nat.le_succ _)
  · split
    · exact wf.mono (Nat.le_succ _)
    · unfold logP
      split
      · split
        · exact wf.mono (Nat.le_succ _)
        · exact wf.do hB _ _ _ _ _ _
      · split
        · rw [(snapP_same _ _ _).1]; exact wf.mono (Nat.le_succ _)
        · exact wf.mono (Nat.le_succ _)
set_option maxHeartbeats 1000000 in
theorem speaks16_ok : Tri Tryz.prog 31 #[] HP.tt (fun v => HP.pure (v = .bool true)) := by
  refine tri_of_tree (ρ := []) mixed Tryz.func31 tree_speaks16 ?_
  unfold t_speaks16
  simp only [T.den, E.prop, E.den, RX.look, F1.app, F2.app, Uni.int_i, Uni.nat_n, Uni.bool_c, Uni.str_s, Uni.adr_a, Uni.val_v, Uni.hp_p, hden, cden, V.den, W.den, A.den, BR.den, SA.den, FV.den, capV, exs, exP, allP, Cur.app, List.map_cons, List.map_nil, List.cons_append, List.nil_append, List.drop_succ_cons, List.drop_zero, List.length_cons, List.length_nil, Nat.zero_add, Nat.reduceAdd, Int.neg_neg, Bool.not_not, List.append_nil, Nat.add_zero, List.getElem?_cons_zero, List.getElem?_cons_succ, Decidable.not_not, semW_eq, ne_eq, Nat.reduceEqDiff, not_false_eq_true]
  refine rpNew_ok.weak (fun _ _ h => h) ?_
  rintro v R h ⟨b, s, ⟨rfl, h1, h2, h3, h4, h5, h6⟩, H⟩
  have wf : TWf 1 s.t.pub := by rw [h5]; exact newT_wf
  refine ⟨b, RpRep b s, rfl, ?_, H⟩
  clear H
  refine (rpTake0 (by omega) wf 2 (by rw [h1]; omega)).weak (fun _ _ h => h) ?_
  rintro v R h ⟨s', ⟨rfl, hs⟩, H⟩
  refine ⟨RpRep b s', rfl, ?_, H⟩
  clear H
  have hp : s'.pub = { s.pub with nx := s.pub.nx + 1 } := by rw [hs]; unfold takeP; rw [if_pos (by decide)]
  have hT : s'.t.pub = newT := by rw [← h5]; exact congrArg RpP.T hp
  have hn : s'.nx = 1 := by have := congrArg RpP.nx hp; have e : s.pub.nx = s.nx := rfl; rw [show s'.pub.nx = s'.nx from rfl] at this; rw [this]; show s.nx + 1 = 1; omega
  have wf' : TWf 1 s'.t.pub := by rw [hT]; exact newT_wf
  refine (rpSnap_ok (by omega) wf').weak (fun _ _ h => h) ?_
  rintro v R h ⟨a, c, rfl, H⟩
  refine ⟨a, _, c, _, 0, rfl, ?_, H⟩
  clear H
  refine rpNext_ok.weak (fun _ _ h => h) ?_
  rintro v R h ⟨rfl, H⟩
  refine ⟨_, rfl, ⟨fun _ => ?_, fun h => absurd hn h⟩, H⟩
  clear H
  refine (rpNodes_ok (by omega) wf').weak (fun _ _ h => h) ?_
  rintro v R h ⟨a2, c2, rfl, H⟩
  refine ⟨a2, _, c2, _, rfl, ⟨fun _ => ⟨fun _ => ⟨fun _ => ?_, fun h => absurd ?_ h⟩, fun h => absurd rfl h⟩, fun h => absurd ?_ h⟩, H⟩
  · clear H
    refine rpLost_ok.weak (fun _ _ h => h) ?_
    rintro v R h ⟨rfl, H⟩
    exact ⟨false, rfl, .of fun R h H => rfl, H⟩
  · have := wrapS_len (beN (linksN s'.nx) 8 ++ nodesB s'.t.pub)
    have e : snapS s'.nx s'.t.pub = wrapS (beN (linksN s'.nx) 8 ++ nodesB s'.t.pub) := rfl
    rw [e]; omega
  · rw [hT]; rfl
theorem st16_raw {a : Option Addr} {n : Nat} {L : List Step16} {x : Step16} (hx : x ∈ L) {R h : PH} (H : (Ls kStep16 a n L).p R h) : (x.call_data.length ≤ 1048576 ∧ x.call_data.length ≤ x.call_datac) ∧ (RoB x.call_dataa x.call_data.length x.call_data).p R h ∧ (x.raw.length ≤ 1048576 ∧ x.raw.length ≤ x.rawc) ∧ (RoB x.rawa x.raw.length x.raw).p R h ∧ x.call_path.length ≤ 1048576 ∧ x.call_other.length ≤ 1048576 := by
  obtain ⟨_, _, _, _, _, _, h7, h8, _, _, ⟨h11, h11'⟩, ⟨h12, h12'⟩⟩ := H.2.2 x hx
  exact ⟨h11, h11', h12, h12', h7, h8⟩
structure St16 (a : Option Addr) (n : Nat) (L : List Step16) : Prop where
  len : L.length = n
  is : n ≠ 0 → a.isSome = true
  data : ∀ x ∈ L, (x.call_data.length ≤ 1048576 ∧ x.call_data.length ≤ x.call_datac) ∧ (x.raw.length ≤ 1048576 ∧ x.raw.length ≤ x.rawc) ∧ x.call_path.length ≤ 1048576 ∧ x.call_other.length ≤ 1048576
  da : ∀ x ∈ L, x.call_data.length ≠ 0 → x.call_dataa.isSome = true
  ra : ∀ x ∈ L, x.raw.length ≠ 0 → x.rawa.isSome = true
theorem St16.of {a : Option Addr} {n : Nat} {L : List Step16} {R h : PH} (H : (Ls kStep16 a n L).p R h) : St16 a n L :=
  ⟨H.1, fun hn => Ls.some H hn, fun x hx => let ⟨h1, _, h3, _, h5, h6⟩ := st16_raw hx H; ⟨h1, h3, h5, h6⟩, fun x hx hd => let ⟨_, h2, _⟩ := st16_raw hx H; RoC.some h2 (by omega), fun x hx hd => let ⟨_, _, _, h4, _⟩ := st16_raw hx H; RoC.some h4 (by omega)⟩
set_option maxHeartbeats 1000000 in
theorem great16_ok (a : Option Addr) (n c : Nat) (L : List Step16) : Tri Tryz.prog 32 #[.slice a n c] (Ls kStep16 a n L) (fun v => HP.ex fun g : Bool => HP.and (v = .bool g ∧ (g = false → n ≤ 60)) (Ls kStep16 a n L)) := by
  refine Tri.fact (φ := St16 a n L) (fun R h H => St16.of H) fun st => ?_
  have hl := st.len
  refine tri_of_tree (ρ := [.a a, .n n, .n c, .p (Ls kStep16 a n L)]) mixed Tryz.func32 tree_great16 ?_
  unfold t_great16
  simp only [T.den, E.prop, E.den, RX.look, F1.app, F2.app, Uni.int_i, Uni.nat_n, Uni.bool_c, Uni.str_s, Uni.adr_a, Uni.val_v, Uni.hp_p, hden, cden, V.den, W.den, A.den, BR.den, SA.den, FV.den, capV, exs, exP, allP, Cur.app, List.map_cons, List.map_nil, List.cons_append, List.nil_append, List.drop_succ_cons, List.drop_zero, List.length_cons, List.length_nil, Nat.zero_add, Nat.reduceAdd, Int.neg_neg, Bool.not_not, List.append_nil, Nat.add_zero, List.getElem?_cons_zero, List.getElem?_cons_succ, Decidable.not_not, semW_eq, semW_load, ne_eq, Nat.reduceEqDiff, not_false_eq_true]
  have yes : HP.ent (Ls kStep16 a n L) (HP.ex fun g : Bool => HP.and (Value.bool true = .bool g ∧ (g = false → n ≤ 60)) (Ls kStep16 a n L)) := .of fun R h H => ⟨true, ⟨rfl, fun h => by cases h⟩, H⟩
  refine ⟨fun _ => yes, fun h60 => ?_⟩
  refine ⟨fun _ i => ∃ k : Nat, i = k ∧ k ≤ n, fun _ i => n - i.toNat, ⟨0, rfl, Nat.zero_le _⟩, ?_⟩
  rintro _ _ ⟨k, rfl, hk⟩
  refine ⟨fun hlt => ⟨by omega, fun _ => ⟨st.is (by omega), fun _ => ?_⟩⟩, fun hge => .of fun R h' H => ⟨false, ⟨rfl, fun _ => by omega⟩, H⟩⟩
  obtain ⟨x, hx⟩ : ∃ x, L[k]? = some x := ⟨_, List.getElem?_eq_getElem (by omega)⟩
  refine ⟨x.what, x.low, x.id_cl, x.id_bi, x.id_nu, x.call_kind, x.call_path, x.call_other, x.call_off, x.call_n, x.call_dataa, x.call_data.length, x.call_datac, x.rawa, x.raw.length, x.rawc, Step16.load hx, fun q => ?_⟩
  have nxt : IntKind.i64.min ≤ (k : Int) + 1 ∧ (k : Int) + 1 ≤ IntKind.i64.max := inI64' _ (by omega) (by omega)
  refine (r7Right_ok ⟨1, x.id_cl, x.id_bi, x.id_nu, 0, 0, []⟩ none 0 HP.tt ⟨fun w R h F s a j u hj => by simp at hj, fun _ _ _ _ => rfl⟩ (fun h => absurd rfl h) (by simp)).weak (fun _ _ h => h) ?_
  rintro v R h ⟨rfl, H⟩
  refine ⟨_, rfl, ⟨fun _ => ⟨fun _ => yes, fun _ => ⟨fun _ => yes, fun _ => ⟨fun _ => yes, fun _ => ⟨fun _ => yes, fun _ => ⟨nxt, fun _ => ⟨⟨k + 1, by omega, by omega⟩, by dsimp only; omega⟩⟩⟩⟩⟩⟩, fun _ => ⟨nxt, fun _ => ⟨⟨k + 1, by omega, by omega⟩, by dsimp only; omega⟩⟩⟩, H⟩
def Step16.call (x : Step16) : CallP := ⟨x.call_kind, x.call_path, x.call_other, x.call_off, x.call_n, x.call_data⟩
def Step16.log (x : Step16) : LogM := ⟨1, x.id_cl, x.id_bi, x.id_nu, 0, -1, wrapS (callB x.call)⟩
def cellS (x : Step16) : Int × List UInt8 := if x.what = 0 then (1, wrapS (logB x.log)) else if x.what = 4 then (1, x.raw) else (2, [])
set_option maxHeartbeats 1000000 in
theorem cell16_own (a : Option Addr) (n : Nat) (L : List Step16) {x : Step16} (hx : x ∈ L) (h1 : x.what ≠ 1) (h2 : x.what ≠ 2) (next : Int) :
    Tri Tryz.prog 36 #[.agg x.vals.toArray, .int .i64 next, .slice none 0 0] (Ls kStep16 a n L) (fun v => HP.ex fun a' : Option Addr => HP.ex fun c' : Nat => HP.and (v = .agg #[.int .i64 (cellS x).1, .slice a' (cellS x).2.length c'] ∧ (cellS x).2.length ≤ c' ∧ ((cellS x).2.length ≠ 0 → a'.isSome = true)) (HP.sep (OwB a' (cellS x).2.length c' (cellS x).2) (Ls kStep16 a n L))) := by
  refine Tri.fact (φ := St16 a n L) (fun R h H => St16.of H) fun st => ?_
  obtain ⟨hd1, hd2, hd3, hd4⟩ := st.data x hx
  refine Tri.weak (A := HP.sep (RoB x.call_dataa x.call_data.length x.call_data) (HP.sep (RoB x.rawa x.raw.length x.raw) (Ls kStep16 a n L))) ?_ (fun R h H => let ⟨_, q2, _, q4, _⟩ := st16_raw hx H; RoC.join q2 (RoC.join q4 H)) fun _ _ _ h => h
  refine tri_of_tree (ρ := [.i x.what, .i x.low, .i x.id_cl, .i x.id_bi, .i x.id_nu, .i x.call_kind, .s x.call_path, .s x.call_other, .i x.call_off, .i x.call_n, .a x.call_dataa, .n x.call_data.length, .n x.call_datac, .p (RoB x.call_dataa x.call_data.length x.call_data), .a x.rawa, .n x.raw.length, .n x.rawc, .p (RoB x.rawa x.raw.length x.raw), .i next, .a none, .n 0, .n 0, .p (Ls kStep16 a n L)]) mixed Tryz.func36 tree_cell16 ?_
  unfold t_cell16
  simp only [T.den, E.prop, E.den, RX.look, F1.app, F2.app, Uni.int_i, Uni.nat_n, Uni.bool_c, Uni.str_s, Uni.adr_a, Uni.val_v, Uni.hp_p, hden, cden, V.den, W.den, A.den, BR.den, SA.den, FV.den, capV, exs, exP, allP, Cur.app, List.map_cons, List.map_nil, List.cons_append, List.nil_append, List.drop_succ_cons, List.drop_zero, List.length_cons, List.length_nil, Nat.zero_add, Nat.reduceAdd, Int.neg_neg, Bool.not_not, List.append_nil, Nat.add_zero, List.getElem?_cons_zero, List.getElem?_cons_succ, Decidable.not_not, semW_eq, semW_append, ne_eq, Nat.reduceEqDiff, not_false_eq_true]
  intro _ _
  refine ⟨fun h0 => ?_, fun h0 => ⟨fun h => absurd h h1, fun _ => ⟨fun h => absurd h h2, fun _ => ⟨fun h4 => ?_, fun h4 => .of fun R h H => ?_⟩⟩⟩⟩
  · refine (r5Encode_ok x.call x.call_dataa x.call_datac _ (RdL.ro _ _ _ _) (st.da x hx) (by show x.call_path.length + x.call_other.length + x.call_data.length ≤ _; omega)).weak (fun _ _ h => h) ?_
    rintro v R h ⟨a1, c1, rfl, H⟩
    have hlen : (wrapS (callB x.call)).length ≤ 10000000 := by
      rw [wrapS_len]; unfold callB Step16.call; simp [lenB'_len, beN_len]; omega
    have hs1 : (wrapS (callB x.call)).length ≠ 0 → a1.isSome = true := fun hn => OwC.some (HP.sep_left H) (Nat.pos_of_ne_zero hn)
    refine ⟨a1, _, c1, _, rfl, ?_, H⟩
    clear H
    refine (r7Bytes_ok x.log a1 c1 _ (RdL.ow _ _ _ _ _ _) hs1 (by show (wrapS (callB x.call)).length ≤ _; omega)).weak (fun _ _ h => h) ?_
    rintro v R h ⟨a2, c2, rfl, H⟩
    have hc2 := OwC.le (HP.sep_left H)
    have hs2 : (wrapS (logB x.log)).length ≠ 0 → a2.isSome = true := fun hn => OwC.some (HP.sep_left H) (Nat.pos_of_ne_zero hn)
    refine ⟨a2, _, c2, _, rfl, .of fun R h H => ⟨a2, c2, ⟨?_, ?_, ?_⟩, ?_⟩, H⟩
    · unfold cellS; rw [if_pos h0]
    · unfold cellS; rw [if_pos h0]; exact hc2
    · unfold cellS; rw [if_pos h0]; exact hs2
    · unfold cellS; rw [if_pos h0]
      exact HP.sep_comm (HP.sep_right (HP.sep_right H))
  · intro y
    refine (append8 (some ⟨y, 0, none⟩) 0 0 [] _ x.rawa x.raw.length x.rawc x.raw (RdL.ro _ _ _ _) rfl (st.ra x hx) (by omega)).weak (fun R h H => HP.sep_mono H (fun z hz => ⟨rfl, .inr ⟨y, #[], rfl, hz, Nat.le_refl _, by unfold maxLen; omega, rfl, rfl⟩⟩) fun _ h => h) ?_
    rintro v R h ⟨a1, c1, rfl, H⟩
    rw [Nat.zero_add, List.nil_append] at H
    have hc1 := OwC.le (HP.sep_left H)
    have hs1 : x.raw.length ≠ 0 → a1.isSome = true := fun hn => OwC.some (HP.sep_left H) (Nat.pos_of_ne_zero hn)
    refine ⟨a1, x.raw.length, c1, OwB a1 x.raw.length c1 x.raw, by rw [Nat.zero_add], .of fun R h H => ⟨a1, c1, ⟨?_, ?_, ?_⟩, ?_⟩, H⟩
    · unfold cellS; rw [if_neg h0, if_pos h4]
    · unfold cellS; rw [if_neg h0, if_pos h4]; exact hc1
    · unfold cellS; rw [if_neg h0, if_pos h4]; exact hs1
    · unfold cellS; rw [if_neg h0, if_pos h4]
      exact HP.sep_comm (HP.sep_right (HP.sep_right H))
  · refine ⟨none, 0, ⟨?_, ?_, ?_⟩, ?_⟩
    · unfold cellS; rw [if_neg h0, if_neg h4]; rfl
    · unfold cellS; rw [if_neg h0, if_neg h4]; exact Nat.le_refl _
    · unfold cellS; rw [if_neg h0, if_neg h4]; exact fun h => absurd rfl h
    · unfold cellS; rw [if_neg h0, if_neg h4]
      have := HP.sep_right (HP.sep_right H)
      exact HP.sep_mono (HP.tt_sep this) (fun z _ => OwC.nil _ _ R z) fun _ h => h
theorem cell16_ok (a : Option Addr) (n : Nat) (L : List Step16) {x : Step16} (hx : x ∈ L) (h1 : x.what ≠ 1) (h2 : x.what ≠ 2) (next : Int) :
    Tri Tryz.prog 36 #[.agg x.vals.toArray, .int .i64 next, .slice none 0 0] (Ls kStep16 a n L) (fun v => HP.ex fun a' : Option Addr => HP.ex fun c' : Nat => HP.and (v = .agg #[.int .i64 (cellS x).1, .slice a' (cellS x).2.length c'] ∧ (cellS x).2.length ≤ c' ∧ ((cellS x).2.length ≠ 0 → a'.isSome = true)) (HP.sep (RoB a' (cellS x).2.length (cellS x).2) (Ls kStep16 a n L))) := by
  refine (cell16_own a n L hx h1 h2 next).post fun v => fun R h d ⟨a', c', e, H⟩ => ?_
  obtain ⟨R1, h1, q1, q2, q3, q4, H1⟩ := (HP.ent.sep (OwC.share _ _ _ _ _ _) (Ls kStep16 a n L)) R h d H
  exact ⟨R1, h1, q1, q2, q3, q4, a', c', e, H1⟩
end Go.Proofs.YtdieogcemmnaaaaGreatDoor



namespace Go.Proofs.YtdieogcemmnaaaaGreatDoor.RX
set_option maxRecDepth 100000
-- (*tideline/tidelineref01.Reader).Number: ρ := [.n r, .a r_Ba, .n r_Bl, .n r_Bc, .p r_BP, .i r_At, .c r_Wrong, .i n]
def t_rrNumber : T :=
(.br (.o2 .lt (.i 8) (.v 7))
(.join [.c]
(.br (.v 6)
(.again 0 [.e (.o1 .not (.o1 .not (.c true)))])
(.need (.o1 (.inr .i64) (.o2 .sub (.o1 .ofNat (.v 2)) (.v 5)))
(.again 0 [.e (.o1 .not (.o1 .not (.o2 .lt (.o2 .sub (.o1 .ofNat (.v 2)) (.v 5)) (.i 8))))])))
(.br (.v 8)
(.ret (.w (.a (.int .u64 (.i 0)))) [(.b (.v 0), .cells [.sl (.v 1) (.v 2) (.v 3), .int .i64 (.v 5), .bool (.c true)] 171), (.a 1, .prop 4)])
(.loop [.i, .i] [.e (.o1 .neg (.o1 .neg (.i 0))), .e (.o1 .neg (.o1 .neg (.i 0)))]
(.br (.o2 .lt (.v 10) (.i 8))
(.join [.i]
(.need (.o1 (.inr .i64) (.o2 .add (.v 5) (.v 10)))
(.need (.o2 .le (.i 0) (.o2 .add (.v 5) (.v 10)))
(.need (.o2 .lt (.o2 .add (.v 5) (.v 10)) (.o1 .ofNat (.v 2)))
(.need (.o1 .isSome (.v 1))
(.read (.load 5 (.tmp 49)) 5 [(49, .w (.a (.eptr 1 (.o2 .add (.v 5) (.v 10)) 1 0)))] [(.a 1, .prop 4)] [.i] (.w (.a (.int .u8 (.v 11))))
(.need (.o1 (.inr .u64) (.v 11))
(.again 0 [.e (.o1 .neg (.o1 .neg (.o1 (.wrap .u64) (.o2 .add (.o1 (.wrap .u64) (.o2 .mul (.i 256) (.v 9))) (.v 11)))))])))))))
(.need (.o1 (.inr .i64) (.o2 .add (.v 10) (.i 1)))
(.again 0 [.e (.o1 .neg (.o1 .neg (.v 11))), .e (.o1 .neg (.o1 .neg (.o2 .add (.v 10) (.i 1))))])))
(.need (.o1 (.inr .i64) (.o2 .add (.v 5) (.i 8)))
(.ret (.w (.a (.int .u64 (.v 9)))) [(.b (.v 0), .cells [.sl (.v 1) (.v 2) (.v 3), .int .i64 (.o2 .add (.v 5) (.i 8)), .bool (.v 6)] 171), (.a 1, .prop 4)]))))))
(.br (.o2 .lt (.v 7) (.i 0))
(.join [.c]
(.br (.v 6)
(.again 0 [.e (.o1 .not (.o1 .not (.c true)))])
(.need (.o1 (.inr .i64) (.o2 .sub (.o1 .ofNat (.v 2)) (.v 5)))
(.again 0 [.e (.o1 .not (.o1 .not (.o2 .lt (.o2 .sub (.o1 .ofNat (.v 2)) (.v 5)) (.i 0))))])))
(.br (.v 8)
(.ret (.w (.a (.int .u64 (.i 0)))) [(.b (.v 0), .cells [.sl (.v 1) (.v 2) (.v 3), .int .i64 (.v 5), .bool (.c true)] 171), (.a 1, .prop 4)])
(.loop [.i, .i] [.e (.o1 .neg (.o1 .neg (.i 0))), .e (.o1 .neg (.o1 .neg (.i 0)))]
(.br (.o2 .lt (.v 10) (.i 0))
(.join [.i]
(.need (.o1 (.inr .i64) (.o2 .add (.v 5) (.v 10)))
(.need (.o2 .le (.i 0) (.o2 .add (.v 5) (.v 10)))
(.need (.o2 .lt (.o2 .add (.v 5) (.v 10)) (.o1 .ofNat (.v 2)))
(.need (.o1 .isSome (.v 1))
(.read (.load 5 (.tmp 49)) 5 [(49, .w (.a (.eptr 1 (.o2 .add (.v 5) (.v 10)) 1 0)))] [(.a 1, .prop 4)] [.i] (.w (.a (.int .u8 (.v 11))))
(.need (.o1 (.inr .u64) (.v 11))
(.again 0 [.e (.o1 .neg (.o1 .neg (.o1 (.wrap .u64) (.o2 .add (.o1 (.wrap .u64) (.o2 .mul (.i 256) (.v 9))) (.v 11)))))])))))))
(.need (.o1 (.inr .i64) (.o2 .add (.v 10) (.i 1)))
(.again 0 [.e (.o1 .neg (.o1 .neg (.v 11))), .e (.o1 .neg (.o1 .neg (.o2 .add (.v 10) (.i 1))))])))
(.need (.o1 (.inr .i64) (.o2 .add (.v 5) (.i 0)))
(.ret (.w (.a (.int .u64 (.v 9)))) [(.b (.v 0), .cells [.sl (.v 1) (.v 2) (.v 3), .int .i64 (.o2 .add (.v 5) (.i 0)), .bool (.v 6)] 171), (.a 1, .prop 4)]))))))
(.join [.c]
(.br (.v 6)
(.again 0 [.e (.o1 .not (.o1 .not (.c true)))])
(.need (.o1 (.inr .i64) (.o2 .sub (.o1 .ofNat (.v 2)) (.v 5)))
(.again 0 [.e (.o1 .not (.o1 .not (.o2 .lt (.o2 .sub (.o1 .ofNat (.v 2)) (.v 5)) (.v 7))))])))
(.br (.v 8)
(.ret (.w (.a (.int .u64 (.i 0)))) [(.b (.v 0), .cells [.sl (.v 1) (.v 2) (.v 3), .int .i64 (.v 5), .bool (.c true)] 171), (.a 1, .prop 4)])
(.loop [.i, .i] [.e (.o1 .neg (.o1 .neg (.i 0))), .e (.o1 .neg (.o1 .neg (.i 0)))]
(.br (.o2 .lt (.v 10) (.v 7))
(.join [.i]
(.need (.o1 (.inr .i64) (.o2 .add (.v 5) (.v 10)))
(.need (.o2 .le (.i 0) (.o2 .add (.v 5) (.v 10)))
(.need (.o2 .lt (.o2 .add (.v 5) (.v 10)) (.o1 .ofNat (.v 2)))
(.need (.o1 .isSome (.v 1))
(.read (.load 5 (.tmp 49)) 5 [(49, .w (.a (.eptr 1 (.o2 .add (.v 5) (.v 10)) 1 0)))] [(.a 1, .prop 4)] [.i] (.w (.a (.int .u8 (.v 11))))
(.need (.o1 (.inr .u64) (.v 11))
(.again 0 [.e (.o1 .neg (.o1 .neg (.o1 (.wrap .u64) (.o2 .add (.o1 (.wrap .u64) (.o2 .mul (.i 256) (.v 9))) (.v 11)))))])))))))
(.need (.o1 (.inr .i64) (.o2 .add (.v 10) (.i 1)))
(.again 0 [.e (.o1 .neg (.o1 .neg (.v 11))), .e (.o1 .neg (.o1 .neg (.o2 .add (.v 10) (.i 1))))])))
(.need (.o1 (.inr .i64) (.o2 .add (.v 5) (.v 7)))
(.ret (.w (.a (.int .u64 (.v 9)))) [(.b (.v 0), .cells [.sl (.v 1) (.v 2) (.v 3), .int .i64 (.o2 .add (.v 5) (.v 7)), .bool (.v 6)] 171), (.a 1, .prop 4)]))))))))
theorem tree_rrNumber : tree Tryz.prog { absT := [5], keep := [30, 105, 26, 93], rdf := true, jn := [((11, 8), some { ss := [.c], n := 9, tv := [(11, none), (12, none), (13, none), (14, none), (15, none), (16, none), (17, none), (18, none), (19, none), (20, none), (21, none), (22, none), (23, none), (24, none), (25, none), (26, none), (27, none), (28, some (.w (.a (.bool (.v 8)))))], h := [(.b (.v 0), .cells [.sl (.v 1) (.v 2) (.v 3), .int .i64 (.v 5), .bool (.v 6)] 171), (.a 1, .prop 4)], lk := [] }), ((37, 11), some { ss := [.i], n := 12, tv := [(37, none), (38, none), (39, none), (40, none), (41, none), (42, none), (43, none), (44, none), (45, none), (46, none), (47, none), (48, none), (49, none), (50, none), (51, none), (52, none), (5, some (.w (.a (.int .u64 (.v 11)))))], h := [(.b (.v 0), .cells [.sl (.v 1) (.v 2) (.v 3), .int .i64 (.v 5), .bool (.v 6)] 171), (.a 1, .prop 4)], lk := [] })] } Tryz.f95 [.a (.ptr (.v 0) 0), .a (.int .i64 (.v 7))] [(.b (.v 0), .cells [.sl (.v 1) (.v 2) (.v 3), .int .i64 (.v 5), .bool (.v 6)] 171), (.a 1, .prop 4)] 8 = t_rrNumber := by kernel_rfl
def t_rrCount : T :=
(.call 95 [.a (.ptr (.v 0) 0), .a (.int .i64 (.i 4))] [(.b (.v 0), .cells [.sl (.v 1) (.v 2) (.v 3), .int .i64 (.v 5), .bool (.v 6)] 171), (.a 1, .prop 4)] [.i, .a, .n, .n, .p, .i, .c] (.w (.a (.int .u64 (.v 8)))) [(.b (.v 0), .cells [.sl (.v 9) (.v 10) (.v 11), .int .i64 (.v 13), .bool (.v 14)] 171), (.a 9, .prop 12)]
(.br (.o2 .lt (.v 7) (.o1 (.wrap .i64) (.v 8)))
(.ret (.w (.a (.int .i64 (.i 0)))) [(.b (.v 0), .cells [.sl (.v 9) (.v 10) (.v 11), .int .i64 (.v 13), .bool (.c true)] 171), (.a 9, .prop 12)])
(.ret (.w (.a (.int .i64 (.o1 (.wrap .i64) (.v 8))))) [(.b (.v 0), .cells [.sl (.v 9) (.v 10) (.v 11), .int .i64 (.v 13), .bool (.v 14)] 171), (.a 9, .prop 12)])))
theorem tree_rrCount : tree Tryz.prog { absT := [5], keep := [30, 105, 26, 93], rdf := true } Tryz.f106 [.a (.ptr (.v 0) 0), .a (.int .i64 (.v 7))] [(.b (.v 0), .cells [.sl (.v 1) (.v 2) (.v 3), .int .i64 (.v 5), .bool (.v 6)] 171), (.a 1, .prop 4)] 8 = t_rrCount := by kernel_rfl
def t_rrBytes : T :=
(.call 106 [.a (.ptr (.v 0) 0), .a (.int .i64 (.v 7))] [(.b (.v 0), .cells [.sl (.v 1) (.v 2) (.v 3), .int .i64 (.v 5), .bool (.v 6)] 171), (.a 1, .prop 4)] [.i, .a, .n, .n, .p, .i, .c] (.w (.a (.int .i64 (.v 8)))) [(.b (.v 0), .cells [.sl (.v 9) (.v 10) (.v 11), .int .i64 (.v 13), .bool (.v 14)] 171), (.a 9, .prop 12)]
(.join [.c]
(.br (.v 14)
(.again 0 [.e (.o1 .not (.o1 .not (.c true)))])
(.need (.o1 (.inr .i64) (.o2 .sub (.o1 .ofNat (.v 10)) (.v 13)))
(.again 0 [.e (.o1 .not (.o1 .not (.o2 .lt (.o2 .sub (.o1 .ofNat (.v 10)) (.v 13)) (.v 8))))])))
(.br (.v 15)
(.new
(.ret (.w (.a (.sl (.b (.v 16) 0) (.n 0) (.n 0)))) [(.b (.v 0), .cells [.sl (.v 9) (.v 10) (.v 11), .int .i64 (.v 13), .bool (.c true)] 171), (.a 9, .prop 12), (.b (.v 16), .cells [] 5)]))
(.need (.o1 (.inr .i64) (.o2 .add (.v 13) (.v 8)))
(.read (.slice 28 (.tmp 36) (some (.tmp 40)) (some (.tmp 46)) none) 28 [(36, .w (.a (.sl (.v 9) (.v 10) (.v 11)))), (40, .w (.a (.int .i64 (.v 13)))), (46, .w (.a (.int .i64 (.o2 .add (.v 13) (.v 8)))))] [(.a 9, .prop 12)] [.a, .n, .n] (.w (.a (.sl (.v 16) (.v 17) (.v 18))))
(.new
(.op (.call ⟨.builtin .append, #[.tmp 32, .tmp 47], #[28, 28]⟩) 28 [(32, .w (.a (.sl (.b (.v 19) 0) (.n 0) (.n 0)))), (47, .w (.a (.sl (.v 16) (.v 17) (.v 18))))] [(.b (.v 19), .cells [] 5), (.a 9, .prop 12)] [.a, .n, .n, .p] (.w (.a (.sl (.v 20) (.v 21) (.v 22)))) [(.a 20, .prop 23), (.a 9, .prop 12)]
(.ret (.w (.a (.sl (.v 20) (.v 21) (.v 22)))) [(.b (.v 0), .cells [.sl (.v 9) (.v 10) (.v 11), .int .i64 (.o2 .add (.v 13) (.v 8)), .bool (.v 14)] 171), (.a 9, .prop 12), (.a 20, .prop 23)]))))))))
theorem tree_rrBytes : tree Tryz.prog { absT := [5], keep := [30, 105, 26, 93], rdf := true, jn := [((10, 15), some { ss := [.c], n := 16, tv := [(10, none), (11, none), (12, none), (13, none), (14, none), (15, none), (16, none), (17, none), (18, none), (19, none), (20, none), (21, none), (22, none), (23, none), (24, none), (25, none), (26, none), (27, some (.w (.a (.bool (.v 15)))))], h := [(.b (.v 0), .cells [.sl (.v 9) (.v 10) (.v 11), .int .i64 (.v 13), .bool (.v 14)] 171), (.a 9, .prop 12)], lk := [] })] } Tryz.f96 [.a (.ptr (.v 0) 0), .a (.int .i64 (.v 7))] [(.b (.v 0), .cells [.sl (.v 1) (.v 2) (.v 3), .int .i64 (.v 5), .bool (.v 6)] 171), (.a 1, .prop 4)] 8 = t_rrBytes := by kernel_rfl
def t_rrEnd : T :=
(.join [.c]
(.br (.v 6)
(.again 0 [.e (.o1 .not (.o1 .not (.c true)))])
(.again 0 [.e (.o1 .not (.o1 .not (.o2 .lt (.v 5) (.o1 .ofNat (.v 2)))))]))
(.br (.v 7)
(.ret (.w (.a (.int .i64 (.i 3)))) [(.b (.v 0), .cells [.sl (.v 1) (.v 2) (.v 3), .int .i64 (.v 5), .bool (.v 6)] 171), (.a 1, .prop 4)])
(.ret (.w (.a (.int .i64 (.i 0)))) [(.b (.v 0), .cells [.sl (.v 1) (.v 2) (.v 3), .int .i64 (.v 5), .bool (.v 6)] 171), (.a 1, .prop 4)])))
theorem tree_rrEnd : tree Tryz.prog { absT := [5], keep := [30, 105, 26, 93], rdf := true, jn := [((3, 7), some { ss := [.c], n := 8, tv := [(3, none), (4, none), (5, none), (6, none), (7, none), (8, none), (9, none), (10, none), (11, none), (12, none), (13, none), (14, none), (15, none), (16, none), (17, none), (18, some (.w (.a (.bool (.v 7)))))], h := [(.b (.v 0), .cells [.sl (.v 1) (.v 2) (.v 3), .int .i64 (.v 5), .bool (.v 6)] 171), (.a 1, .prop 4)], lk := [] })] } Tryz.f97 [.a (.ptr (.v 0) 0)] [(.b (.v 0), .cells [.sl (.v 1) (.v 2) (.v 3), .int .i64 (.v 5), .bool (.v 6)] 171), (.a 1, .prop 4)] 7 = t_rrEnd := by kernel_rfl
def t_r2Unwrap : T :=
(.need (.o1 (.inr .i64) (.o2 .sub (.o1 .ofNat (.v 1)) (.i 4)))
(.br (.o2 .lt (.o2 .sub (.o1 .ofNat (.v 1)) (.i 4)) (.i 0))
(.ret (.tup [.a (.sl .nil (.n 0) (.n 0)), .a (.int .i64 (.i 3))]) [(.a 0, .prop 3)])
(.read (.slice 28 (.tmp 11) none (some (.tmp 12)) none) 28 [(11, .w (.a (.sl (.v 0) (.v 1) (.v 2)))), (12, .w (.a (.int .i64 (.o2 .sub (.o1 .ofNat (.v 1)) (.i 4)))))] [(.a 0, .prop 3)] [.a, .n, .n] (.w (.a (.sl (.v 4) (.v 5) (.v 6))))
(.call 105 [.a (.sl (.v 4) (.v 5) (.v 6))] [(.a 0, .prop 3)] [.a, .n, .n, .p] (.w (.a (.sl (.v 7) (.v 8) (.v 9)))) [(.a 7, .prop 10), (.a 0, .prop 3)]
(.call 30 [.a (.sl (.v 7) (.v 8) (.v 9)), .a (.sl (.v 0) (.v 1) (.v 2))] [(.a 7, .prop 10), (.a 0, .prop 3)] [.c] (.w (.a (.bool (.v 11)))) [(.a 7, .prop 10), (.a 0, .prop 3)]
(.br (.o1 .not (.v 11))
(.ret (.tup [.a (.sl .nil (.n 0) (.n 0)), .a (.int .i64 (.i 3))]) [(.a 0, .prop 3)])
(.new
(.read (.slice 28 (.tmp 20) none (some (.tmp 21)) none) 28 [(20, .w (.a (.sl (.v 0) (.v 1) (.v 2)))), (21, .w (.a (.int .i64 (.o2 .sub (.o1 .ofNat (.v 1)) (.i 4)))))] [(.a 0, .prop 3)] [.a, .n, .n] (.w (.a (.sl (.v 13) (.v 14) (.v 15))))
(.op (.call ⟨.builtin .append, #[.tmp 19, .tmp 22], #[28, 28]⟩) 28 [(19, .w (.a (.sl (.b (.v 12) 0) (.n 0) (.n 0)))), (22, .w (.a (.sl (.v 13) (.v 14) (.v 15))))] [(.b (.v 12), .cells [] 5), (.a 0, .prop 3)] [.a, .n, .n, .p] (.w (.a (.sl (.v 16) (.v 17) (.v 18)))) [(.a 16, .prop 19), (.a 0, .prop 3)]
(.ret (.tup [.a (.sl (.v 16) (.v 17) (.v 18)), .a (.int .i64 (.i 0))]) [(.a 0, .prop 3), (.a 16, .prop 19)]))))))))))
theorem tree_r2Unwrap : tree Tryz.prog { absT := [5], keep := [30, 105, 26, 93], rdf := true } Tryz.f94 [.a (.sl (.v 0) (.v 1) (.v 2))] [(.a 0, .prop 3)] 4 = t_r2Unwrap := by kernel_rfl
def t_r5Decode : T :=
(.new
(.call 94 [.a (.sl (.v 0) (.v 1) (.v 2))] [(.a 0, .prop 3)] [.a, .n, .n, .p, .i, .p] (.tup [.a (.sl (.v 5) (.v 6) (.v 7)), .a (.int .i64 (.v 9))]) [(.a 5, .prop 8), (.a 0, .prop 10)]
(.br (.o1 .not (.o2 .eq (.v 9) (.i 0)))
(.ret (.tup [.agg [.int .i64 (.i 0), .str (.s []), .str (.s []), .int .i64 (.i 0), .int .i64 (.i 0), .sl .nil (.n 0) (.n 0)], .a (.int .i64 (.i 3))]) [(.a 0, .prop 10)])
(.new
(.call 95 [.a (.ptr (.v 11) 0), .a (.int .i64 (.i 1))] [(.b (.v 11), .cells [.sl (.v 5) (.v 6) (.v 7), .int .i64 (.i 0), .bool (.c false)] 171), (.a 5, .prop 8)] [.i, .p] (.w (.a (.int .u64 (.v 12)))) [(.b (.v 11), .prop 13)]
(.new
(.call 96 [.a (.ptr (.v 11) 0), .a (.int .i64 (.i 300))] [(.b (.v 11), .prop 13)] [.a, .n, .n, .p, .p] (.w (.a (.sl (.v 15) (.v 16) (.v 17)))) [(.a 15, .prop 18), (.b (.v 11), .prop 19)]
(.read (.convert 28 9 (.tmp 24)) 9 [(24, .w (.a (.sl (.v 15) (.v 16) (.v 17))))] [(.a 15, .prop 18)] [.s] (.w (.a (.str (.v 20))))
(.call 96 [.a (.ptr (.v 11) 0), .a (.int .i64 (.i 300))] [(.b (.v 11), .prop 19)] [.a, .n, .n, .p, .p] (.w (.a (.sl (.v 21) (.v 22) (.v 23)))) [(.a 21, .prop 24), (.b (.v 11), .prop 25)]
(.read (.convert 28 9 (.tmp 28)) 9 [(28, .w (.a (.sl (.v 21) (.v 22) (.v 23))))] [(.a 21, .prop 24)] [.s] (.w (.a (.str (.v 26))))
(.call 95 [.a (.ptr (.v 11) 0), .a (.int .i64 (.i 8))] [(.b (.v 11), .prop 25)] [.i, .p] (.w (.a (.int .u64 (.v 27)))) [(.b (.v 11), .prop 28)]
(.call 95 [.a (.ptr (.v 11) 0), .a (.int .i64 (.i 8))] [(.b (.v 11), .prop 28)] [.i, .p] (.w (.a (.int .u64 (.v 29)))) [(.b (.v 11), .prop 30)]
(.call 96 [.a (.ptr (.v 11) 0), .a (.int .i64 (.i 4096))] [(.b (.v 11), .prop 30)] [.a, .n, .n, .p, .p] (.w (.a (.sl (.v 31) (.v 32) (.v 33)))) [(.a 31, .prop 34), (.b (.v 11), .prop 35)]
(.call 97 [.a (.ptr (.v 11) 0)] [(.b (.v 11), .prop 35)] [.i, .p] (.w (.a (.int .i64 (.v 36)))) [(.b (.v 11), .prop 37)]
(.br (.o1 .not (.o2 .eq (.v 36) (.i 0)))
(.ret (.tup [.agg [.int .i64 (.i 0), .str (.s []), .str (.s []), .int .i64 (.i 0), .int .i64 (.i 0), .sl .nil (.n 0) (.n 0)], .a (.int .i64 (.i 3))]) [(.a 0, .prop 10)])
(.ret (.tup [.agg [.int .i64 (.o1 (.wrap .i64) (.v 12)), .str (.v 20), .str (.v 26), .int .i64 (.o1 (.wrap .i64) (.v 27)), .int .i64 (.o1 (.wrap .i64) (.v 29)), .sl (.v 31) (.v 32) (.v 33)], .a (.int .i64 (.i 0))]) [(.a 0, .prop 10), (.a 31, .prop 34)]))))))))))))))))
theorem tree_r5Decode : tree Tryz.prog { absT := [5, 171], keep := [30, 105, 26, 93], rdf := true } Tryz.f40 [.a (.sl (.v 0) (.v 1) (.v 2))] [(.a 0, .prop 3)] 4 = t_r5Decode := by kernel_rfl
def t_r7Decode : T :=
(.new
(.call 94 [.a (.sl (.v 0) (.v 1) (.v 2))] [(.a 0, .prop 3)] [.a, .n, .n, .p, .i, .p] (.tup [.a (.sl (.v 5) (.v 6) (.v 7)), .a (.int .i64 (.v 9))]) [(.a 5, .prop 8), (.a 0, .prop 10)]
(.br (.o1 .not (.o2 .eq (.v 9) (.i 0)))
(.ret (.tup [.agg [.int .i64 (.i 0), .int .i64 (.i 0), .int .i64 (.i 0), .int .i64 (.i 0), .int .i64 (.i 0), .int .i64 (.i 0), .sl .nil (.n 0) (.n 0)], .a (.int .i64 (.i 3))]) [(.a 0, .prop 10)])
(.new
(.call 95 [.a (.ptr (.v 11) 0), .a (.int .i64 (.i 1))] [(.b (.v 11), .cells [.sl (.v 5) (.v 6) (.v 7), .int .i64 (.i 0), .bool (.c false)] 171), (.a 5, .prop 8)] [.i, .p] (.w (.a (.int .u64 (.v 12)))) [(.b (.v 11), .prop 13)]
(.new
(.call 95 [.a (.ptr (.v 11) 0), .a (.int .i64 (.i 4))] [(.b (.v 11), .prop 13)] [.i, .p] (.w (.a (.int .u64 (.v 15)))) [(.b (.v 11), .prop 16)]
(.call 95 [.a (.ptr (.v 11) 0), .a (.int .i64 (.i 4))] [(.b (.v 11), .prop 16)] [.i, .p] (.w (.a (.int .u64 (.v 17)))) [(.b (.v 11), .prop 18)]
(.call 95 [.a (.ptr (.v 11) 0), .a (.int .i64 (.i 4))] [(.b (.v 11), .prop 18)] [.i, .p] (.w (.a (.int .u64 (.v 19)))) [(.b (.v 11), .prop 20)]
(.call 95 [.a (.ptr (.v 11) 0), .a (.int .i64 (.i 1))] [(.b (.v 11), .prop 20)] [.i, .p] (.w (.a (.int .u64 (.v 21)))) [(.b (.v 11), .prop 22)]
(.call 95 [.a (.ptr (.v 11) 0), .a (.int .i64 (.i 8))] [(.b (.v 11), .prop 22)] [.i, .p] (.w (.a (.int .u64 (.v 23)))) [(.b (.v 11), .prop 24)]
(.call 96 [.a (.ptr (.v 11) 0), .a (.int .i64 (.i 65536))] [(.b (.v 11), .prop 24)] [.a, .n, .n, .p, .p] (.w (.a (.sl (.v 25) (.v 26) (.v 27)))) [(.a 25, .prop 28), (.b (.v 11), .prop 29)]
(.call 97 [.a (.ptr (.v 11) 0)] [(.b (.v 11), .prop 29)] [.i, .p] (.w (.a (.int .i64 (.v 30)))) [(.b (.v 11), .prop 31)]
(.br (.o1 .not (.o2 .eq (.v 30) (.i 0)))
(.ret (.tup [.agg [.int .i64 (.i 0), .int .i64 (.i 0), .int .i64 (.i 0), .int .i64 (.i 0), .int .i64 (.i 0), .int .i64 (.i 0), .sl .nil (.n 0) (.n 0)], .a (.int .i64 (.i 3))]) [(.a 0, .prop 10)])
(.call 93 [.agg [.int .i64 (.o1 (.wrap .i64) (.v 12)), .int .i64 (.o1 (.wrap .i64) (.v 15)), .int .i64 (.o1 (.wrap .i64) (.v 17)), .int .i64 (.o1 (.wrap .i64) (.v 19)), .int .i64 (.o1 (.wrap .i64) (.v 21)), .int .i64 (.o1 (.wrap .i64) (.v 23)), .sl (.v 25) (.v 26) (.v 27)]] [(.a 25, .prop 28)] [.c] (.w (.a (.bool (.v 32)))) [(.a 25, .prop 28)]
(.br (.o1 .not (.v 32))
(.ret (.tup [.agg [.int .i64 (.i 0), .int .i64 (.i 0), .int .i64 (.i 0), .int .i64 (.i 0), .int .i64 (.i 0), .int .i64 (.i 0), .sl .nil (.n 0) (.n 0)], .a (.int .i64 (.i 3))]) [(.a 0, .prop 10)])
(.ret (.tup [.agg [.int .i64 (.o1 (.wrap .i64) (.v 12)), .int .i64 (.o1 (.wrap .i64) (.v 15)), .int .i64 (.o1 (.wrap .i64) (.v 17)), .int .i64 (.o1 (.wrap .i64) (.v 19)), .int .i64 (.o1 (.wrap .i64) (.v 21)), .int .i64 (.o1 (.wrap .i64) (.v 23)), .sl (.v 25) (.v 26) (.v 27)], .a (.int .i64 (.i 0))]) [(.a 0, .prop 10), (.a 25, .prop 28)])))))))))))))))))
theorem tree_r7Decode : tree Tryz.prog { absT := [5, 171], keep := [30, 105, 26, 93], rdf := true } Tryz.f33 [.a (.sl (.v 0) (.v 1) (.v 2))] [(.a 0, .prop 3)] 4 = t_r7Decode := by kernel_rfl
def t_r6Decode : T :=
(.call 94 [.a (.sl (.v 0) (.v 1) (.v 2))] [(.a 0, .prop 3)] [.a, .n, .n, .p, .i, .p] (.tup [.a (.sl (.v 4) (.v 5) (.v 6)), .a (.int .i64 (.v 8))]) [(.a 4, .prop 7), (.a 0, .prop 9)]
(.br (.o1 .not (.o2 .eq (.v 8) (.i 0)))
(.ret (.tup [.a (.int .i64 (.i 0)), .a (.sl .nil (.n 0) (.n 0)), .a (.int .i64 (.i 3))]) [(.a 0, .prop 9)])
(.new
(.call 95 [.a (.ptr (.v 10) 0), .a (.int .i64 (.i 8))] [(.b (.v 10), .cells [.sl (.v 4) (.v 5) (.v 6), .int .i64 (.i 0), .bool (.c false)] 171), (.a 4, .prop 7)] [.i, .p] (.w (.a (.int .u64 (.v 11)))) [(.b (.v 10), .prop 12)]
(.call 106 [.a (.ptr (.v 10) 0), .a (.int .i64 (.i 64))] [(.b (.v 10), .prop 12)] [.i, .p] (.w (.a (.int .i64 (.v 13)))) [(.b (.v 10), .prop 14)]
(.new
(.loop [.a, .n, .n, .i, .p, .p] [.a (.b (.v 15) 0), .e (.o2 .nadd (.n 0) (.n 0)), .e (.o2 .nadd (.n 0) (.n 0)), .e (.o1 .neg (.o1 .neg (.i 0))), .p [(.b (.v 15), .cells [] 43)], .p [(.b (.v 10), .prop 14)]]
(.br (.o2 .lt (.v 19) (.v 13))
(.read (.load 4 (.tmp 38)) 4 [(38, .w (.a (.ptr (.v 10) 2)))] [(.b (.v 10), .prop 21)] [.c] (.w (.a (.bool (.v 22))))
(.br (.o1 .not (.v 22))
(.call 95 [.a (.ptr (.v 10) 0), .a (.int .i64 (.i 1))] [(.b (.v 10), .prop 21)] [.i, .p] (.w (.a (.int .u64 (.v 23)))) [(.b (.v 10), .prop 24)]
(.new
(.call 95 [.a (.ptr (.v 10) 0), .a (.int .i64 (.i 1))] [(.b (.v 10), .prop 24)] [.i, .p] (.w (.a (.int .u64 (.v 26)))) [(.b (.v 10), .prop 27)]
(.call 95 [.a (.ptr (.v 10) 0), .a (.int .i64 (.i 2))] [(.b (.v 10), .prop 27)] [.i, .p] (.w (.a (.int .u64 (.v 28)))) [(.b (.v 10), .prop 29)]
(.call 96 [.a (.ptr (.v 10) 0), .a (.int .i64 (.i 512))] [(.b (.v 10), .prop 29)] [.a, .n, .n, .p, .p] (.w (.a (.sl (.v 30) (.v 31) (.v 32)))) [(.a 30, .prop 33), (.b (.v 10), .prop 34)]
(.call 106 [.a (.ptr (.v 10) 0), .a (.int .i64 (.i 4194240))] [(.b (.v 10), .prop 34)] [.i, .p] (.w (.a (.int .i64 (.v 35)))) [(.b (.v 10), .prop 36)]
(.loop [.i, .p, .a, .n, .n, .p] [.e (.o1 .neg (.o1 .neg (.i 0))), .p [(.b (.v 10), .prop 36)], .a .nil, .e (.o2 .nadd (.n 0) (.n 0)), .e (.o2 .nadd (.n 0) (.n 0)), .p []]
(.br (.o2 .lt (.v 37) (.v 35))
(.read (.load 4 (.tmp 67)) 4 [(67, .w (.a (.ptr (.v 10) 2)))] [(.b (.v 10), .prop 38)] [.c] (.w (.a (.bool (.v 43))))
(.br (.o1 .not (.v 43))
(.call 96 [.a (.ptr (.v 10) 0), .a (.int .i64 (.i 16))] [(.b (.v 10), .prop 38)] [.a, .n, .n, .p, .p] (.w (.a (.sl (.v 44) (.v 45) (.v 46)))) [(.a 44, .prop 47), (.b (.v 10), .prop 48)]
(.read (.convert 28 9 (.tmp 74)) 9 [(74, .w (.a (.sl (.v 44) (.v 45) (.v 46))))] [(.a 44, .prop 47)] [.s] (.w (.a (.str (.v 49))))
(.call 95 [.a (.ptr (.v 10) 0), .a (.int .i64 (.i 1))] [(.b (.v 10), .prop 48)] [.i, .p] (.w (.a (.int .u64 (.v 50)))) [(.b (.v 10), .prop 51)]
(.new
(.op (.call ⟨.builtin .append, #[.tmp 77, .tmp 83], #[41, 41]⟩) 41 [(77, .w (.a (.sl (.v 39) (.v 40) (.v 41)))), (83, .w (.a (.sl (.b (.v 52) 0) (.n 1) (.n 1))))] [(.a 39, .prop 42), (.b (.v 52), .cells [.str (.v 49), .int .i64 (.o1 (.wrap .i64) (.v 50))] 140)] [.a, .n, .n, .p] (.w (.a (.sl (.v 53) (.v 54) (.v 55)))) [(.a 53, .prop 56)]
(.need (.o1 (.inr .i64) (.o2 .add (.v 37) (.i 1)))
(.again 0 [.e (.o1 .neg (.o1 .neg (.o2 .add (.v 37) (.i 1)))), .p [(.b (.v 10), .prop 51)], .a (.v 53), .e (.o2 .nadd (.v 54) (.n 0)), .e (.o2 .nadd (.v 55) (.n 0)), .p [(.a 53, .prop 56)]])))))))
(.new
(.op (.call ⟨.builtin .append, #[.tmp 86, .tmp 88], #[36, 36]⟩) 36 [(86, .w (.a (.sl (.v 16) (.v 17) (.v 18)))), (88, .w (.a (.sl (.b (.v 44) 0) (.n 1) (.n 1))))] [(.a 16, .prop 20), (.b (.v 44), .cells [.int .i64 (.o1 (.wrap .i64) (.v 23)), .int .i64 (.o1 (.wrap .i64) (.v 26)), .int .i64 (.o1 (.wrap .i64) (.v 28)), .sl (.v 30) (.v 31) (.v 32), .sl (.v 39) (.v 40) (.v 41)] 43), (.a 30, .prop 33), (.a 39, .prop 42)] [.a, .n, .n, .p] (.w (.a (.sl (.v 45) (.v 46) (.v 47)))) [(.a 45, .prop 48)]
(.need (.o1 (.inr .i64) (.o2 .add (.v 19) (.i 1)))
(.again 1 [.a (.v 45), .e (.o2 .nadd (.v 46) (.n 0)), .e (.o2 .nadd (.v 47) (.n 0)), .e (.o1 .neg (.o1 .neg (.o2 .add (.v 19) (.i 1)))), .p [(.a 45, .prop 48)], .p [(.b (.v 10), .prop 38)]]))))))
(.new
(.op (.call ⟨.builtin .append, #[.tmp 86, .tmp 88], #[36, 36]⟩) 36 [(86, .w (.a (.sl (.v 16) (.v 17) (.v 18)))), (88, .w (.a (.sl (.b (.v 43) 0) (.n 1) (.n 1))))] [(.a 16, .prop 20), (.b (.v 43), .cells [.int .i64 (.o1 (.wrap .i64) (.v 23)), .int .i64 (.o1 (.wrap .i64) (.v 26)), .int .i64 (.o1 (.wrap .i64) (.v 28)), .sl (.v 30) (.v 31) (.v 32), .sl (.v 39) (.v 40) (.v 41)] 43), (.a 30, .prop 33), (.a 39, .prop 42)] [.a, .n, .n, .p] (.w (.a (.sl (.v 44) (.v 45) (.v 46)))) [(.a 44, .prop 47)]
(.need (.o1 (.inr .i64) (.o2 .add (.v 19) (.i 1)))
(.again 1 [.a (.v 44), .e (.o2 .nadd (.v 45) (.n 0)), .e (.o2 .nadd (.v 46) (.n 0)), .e (.o1 .neg (.o1 .neg (.o2 .add (.v 19) (.i 1)))), .p [(.a 44, .prop 47)], .p [(.b (.v 10), .prop 38)]]))))))))))))
(.call 97 [.a (.ptr (.v 10) 0)] [(.b (.v 10), .prop 21)] [.i, .p] (.w (.a (.int .i64 (.v 23)))) [(.b (.v 10), .prop 24)]
(.br (.o1 .not (.o2 .eq (.v 23) (.i 0)))
(.ret (.tup [.a (.int .i64 (.i 0)), .a (.sl .nil (.n 0) (.n 0)), .a (.int .i64 (.i 3))]) [(.a 0, .prop 9)])
(.br (.o2 .lt (.o1 (.wrap .i64) (.v 11)) (.i 0))
(.ret (.tup [.a (.int .i64 (.i 0)), .a (.sl .nil (.n 0) (.n 0)), .a (.int .i64 (.i 3))]) [(.a 0, .prop 9)])
(.br (.o2 .lt (.i 4294967296) (.o1 (.wrap .i64) (.v 11)))
(.ret (.tup [.a (.int .i64 (.i 0)), .a (.sl .nil (.n 0) (.n 0)), .a (.int .i64 (.i 3))]) [(.a 0, .prop 9)])
(.call 26 [.a (.sl (.v 16) (.v 17) (.v 18))] [(.a 16, .prop 20)] [.c, .p] (.w (.a (.bool (.v 25)))) [(.a 16, .prop 26)]
(.br (.o1 .not (.v 25))
(.ret (.tup [.a (.int .i64 (.i 0)), .a (.sl .nil (.n 0) (.n 0)), .a (.int .i64 (.i 3))]) [(.a 0, .prop 9)])
(.ret (.tup [.a (.int .i64 (.o1 (.wrap .i64) (.v 11))), .a (.sl (.v 16) (.v 17) (.v 18)), .a (.int .i64 (.i 0))]) [(.a 0, .prop 9), (.a 16, .prop 26)])))))))))
(.call 97 [.a (.ptr (.v 10) 0)] [(.b (.v 10), .prop 21)] [.i, .p] (.w (.a (.int .i64 (.v 22)))) [(.b (.v 10), .prop 23)]
(.br (.o1 .not (.o2 .eq (.v 22) (.i 0)))
(.ret (.tup [.a (.int .i64 (.i 0)), .a (.sl .nil (.n 0) (.n 0)), .a (.int .i64 (.i 3))]) [(.a 0, .prop 9)])
(.br (.o2 .lt (.o1 (.wrap .i64) (.v 11)) (.i 0))
(.ret (.tup [.a (.int .i64 (.i 0)), .a (.sl .nil (.n 0) (.n 0)), .a (.int .i64 (.i 3))]) [(.a 0, .prop 9)])
(.br (.o2 .lt (.i 4294967296) (.o1 (.wrap .i64) (.v 11)))
(.ret (.tup [.a (.int .i64 (.i 0)), .a (.sl .nil (.n 0) (.n 0)), .a (.int .i64 (.i 3))]) [(.a 0, .prop 9)])
(.call 26 [.a (.sl (.v 16) (.v 17) (.v 18))] [(.a 16, .prop 20)] [.c, .p] (.w (.a (.bool (.v 24)))) [(.a 16, .prop 25)]
(.br (.o1 .not (.v 24))
(.ret (.tup [.a (.int .i64 (.i 0)), .a (.sl .nil (.n 0) (.n 0)), .a (.int .i64 (.i 3))]) [(.a 0, .prop 9)])
(.ret (.tup [.a (.int .i64 (.o1 (.wrap .i64) (.v 11))), .a (.sl (.v 16) (.v 17) (.v 18)), .a (.int .i64 (.i 0))]) [(.a 0, .prop 9), (.a 16, .prop 25)])))))))))))))))
theorem tree_r6Decode : tree Tryz.prog { absT := [5, 171], hv := [(0, [.b (.v 15), .b (.v 10)]), (2, [.b (.v 10), .b (.v 25)])], keep := [30], rdf := true, cel := [(2, .b (.v 25), [4])], apa := true } Tryz.f41 [.a (.sl (.v 0) (.v 1) (.v 2))] [(.a 0, .prop 3)] 4 = t_r6Decode := by kernel_rfl
end Go.Proofs.YtdieogcemmnaaaaGreatDoor.RX



namespace Go.Proofs.YtdieogcemmnaaaaGreatDoor
set_option linter.unusedSimpArgs false
set_option linter.unusedVariables false
open Go.Proofs.YtdieogcemmnaaaaGreatDoor RX
set_option maxRecDepth 100000

def DRep (b : Nat) (s : RS) : HP := HP.ex fun a : Option Addr => HP.ex fun c : Nat => HP.ex fun l : List UInt8 => HP.ex fun k : Nat =>
  HP.and (k ≤ l.length ∧ l.length ≤ c ∧ l.length ≤ 1000000000 ∧ (l.length ≠ 0 → a.isSome = true) ∧ s.1 = if s.2 then [] else l.drop k)
    (HP.sep (HP.one b (.cells #[.slice a l.length c, .int .i64 k, .bool s.2] 171)) (RoB a l.length l))
theorem drep_rd (b : Nat) (s : RS) : ORead Tryz.prog (loadS 4 (.pointer (some ⟨b, 2, none⟩))) (DRep b s) (.bool s.2) := fun w R h F st ⟨a, c, l, k, _, H⟩ => by
  have hd : Tryz.prog.underlying 4 = some .bool := by kernel_rfl
  have r := load1_ok (a := some ⟨b, 0, none⟩) (k := 0) (off := 2) (v := .bool s.2) hd (by kernel_rfl) (by kernel_rfl) (one_rd b #[.slice a l.length c, .int .i64 k, .bool s.2] 171) rfl
  exact ORead.ent (.of fun R h H => HP.sep_left H) r w R h F st H
theorem beV_nil : beV [] = 0 := rfl
theorem numR_bad {s : RS} {n : Nat} (h : s.2 = true) (h1 : s.1 = []) : numR s n = (0, ([], true)) := by
  obtain ⟨x, y⟩ := s
  simp only at h h1
  subst h h1
  unfold numR takeR
  simp [beV_nil]
theorem numR_few {s : RS} {n : Nat} (h : s.2 = false) (h1 : s.1.length < n) : numR s n = (0, ([], true)) := by
  unfold numR takeR
  rw [if_neg (by rw [h]; decide), if_pos h1]
  simp [beV_nil]
theorem numR_many {s : RS} {n : Nat} (h : s.2 = false) (h1 : n ≤ s.1.length) : numR s n = (beV (s.1.take n), (s.1.drop n, false)) := by
  unfold numR takeR
  rw [if_neg (by rw [h]; decide), if_neg (by omega)]
set_option maxHeartbeats 1000000 in
theorem dNumber_ok (b : Nat) (s : RS) (n : Nat) (hn : n ≤ 8) : Tri Tryz.prog 95 #[.pointer (some ⟨b, 0, none⟩), .int .i64 n] (DRep b s)
    (fun v => HP.and (v = .int .u64 ((numR s n).1 : Nat)) (DRep b (numR s n).2)) := by
  refine Tri.ex fun a => Tri.ex fun c => Tri.ex fun l => Tri.ex fun k => Tri.pure fun ⟨hk, hc, hb, ha, hs⟩ => ?_
  refine tri_of_tree (ρ := [.n b, .a a, .n l.length, .n c, .p (RoB a l.length l), .i k, .c s.2, .i n]) mixed Tryz.func95 tree_rrNumber ?_
  unfold t_rrNumber
  simp only [T.den, E.prop, E.den, RX.look, F1.app, F2.app, Uni.int_i, Uni.nat_n, Uni.bool_c, Uni.str_s, Uni.adr_a, Uni.val_v, Uni.hp_p, hden, cden, V.den, W.den, A.den, BR.den, SA.den, FV.den, capV, exs, exP, allP, Cur.app, List.map_cons, List.map_nil, List.cons_append, List.nil_append, List.drop_succ_cons, List.drop_zero, List.length_cons, List.length_nil, Nat.zero_add, Nat.reduceAdd, Int.neg_neg, Bool.not_not, List.append_nil, Nat.add_zero, List.getElem?_cons_zero, List.getElem?_cons_succ, Decidable.not_not, semW_eq, semW_load, ne_eq, Nat.reduceEqDiff, not_false_eq_true]
  refine ⟨fun h => absurd h (by omega), fun _ => ⟨fun h => absurd h (by omega), fun _ => ⟨fun f => f = (s.2 || decide (((l.length : Int) - k) < n)), ?_, ?_⟩⟩⟩
  · refine ⟨fun h => by rw [h]; rfl, fun h => ⟨inI64 _ (by omega) (by omega), fun _ => ?_⟩⟩
    have : s.2 = false := by simpa using h
    rw [this, Bool.false_or]
    exact decide_eq_decide.2 Iff.rfl
  · rintro f rfl
    refine ⟨fun h => .of fun R h' H => ?_, fun h => ?_⟩
    · have e : numR s n = (0, ([], true)) := by
        cases h2 : s.2 with
        | true => exact numR_bad h2 (by rw [hs, h2]; rfl)
        | false =>
          rw [h2] at h hs
          have h : (l.length : Int) - k < n := by simpa using h
          exact numR_few h2 (by rw [hs]; simp; omega)
      rw [e]
      exact ⟨rfl, a, c, l, k, ⟨hk, hc, hb, ha, rfl⟩, H⟩
    · have h2 : s.2 = false := by
        cases h2 : s.2 with
        | true => rw [h2] at h; simp at h
        | false => rfl
      have h3 : n ≤ l.length - k := by
        rw [h2] at h
        have : ¬ (l.length : Int) - k < n := by simpa using h
        omega
      rw [h2] at hs
      have hs1 : s.1 = l.drop k := by simpa using hs
      have e := numR_many (s := s) (n := n) h2 (by rw [hs1]; simp; omega)
      rw [e, hs1]
      refine ⟨fun v i => ∃ j : Nat, i = j ∧ j ≤ n ∧ v = ((beV ((l.drop k).take j) : Nat) : Int), fun v i => n - i.toNat, ⟨0, rfl, Nat.zero_le _, rfl⟩, ?_⟩
      rintro v i ⟨j, rfl, hj, rfl⟩
      have pw := beV_lt ((l.drop k).take j)
      rw [List.length_take, List.length_drop, Nat.min_eq_left (by omega)] at pw
      refine ⟨fun hlt => ⟨fun x => x = ((beV ((l.drop k).take (j + 1)) : Nat) : Int), ?_, ?_⟩, fun hge => ?_⟩
      · have hlt' : k + j < l.length := by omega
        have hget : l[k + j]? = some l[k + j] := List.getElem?_eq_getElem hlt'
        have h2 : 256 ^ j ≤ 256 ^ 7 := Nat.pow_le_pow_right (by decide) (by omega)
        have h3 : (256 : Nat) ^ 7 = 2 ^ 56 := by decide
        have hb8 := l[k + j].toNat_lt
        refine ⟨inI64 _ (by omega) (by omega), fun _ => ⟨by omega, fun _ => ⟨by omega, fun _ => ⟨ha (by omega), fun _ => ⟨(l[k + j].toNat : Int), ?_, inU64 _ (by omega) (by omega), fun _ => ?_⟩⟩⟩⟩⟩
        · have e1 : ((k : Int) + j).toNat = k + j := by omega
          rw [e1]
          exact load1_ok und8b agg8 sz8 (RoC.rd 1 a _ (l.map u8v)) (k := (k + j) * 1) (off := 0) (v := u8v l[k + j]) (by simp [hget])
        · have e3 : (l.drop k).take (j + 1) = (l.drop k).take j ++ [l[k + j]] := by
            rw [List.take_succ_eq_append_getElem (by simp; omega)]; simp
          rw [e3, beV_snoc]
          generalize beV ((l.drop k).take j) = v0 at *
          have e1 : IntKind.u64.wrap (256 * (v0 : Int)) = ((256 * v0 : Nat) : Int) := by
            have : (256 * (v0 : Int)) = ((256 * v0 : Nat) : Int) := by omega
            rw [this]; exact wrap_in (inU64 _ (by omega) (by omega))
          rw [e1]
          have e2 : ((256 * v0 : Nat) : Int) + (l[k + j].toNat : Int) = ((v0 * 256 + l[k + j].toNat : Nat) : Int) := by omega
          rw [e2]
          exact wrap_in (inU64 _ (by omega) (by omega))
      · rintro x rfl
        exact ⟨inI64 _ (by omega) (by omega), fun _ => ⟨⟨j + 1, by omega, by omega, rfl⟩, by dsimp only; omega⟩⟩
      · obtain rfl : j = n := by omega
        refine ⟨inI64 _ (by omega) (by omega), fun _ => .of fun R h H => ⟨rfl, a, c, l, k + j, ⟨by omega, hc, hb, ha, by simp⟩, ?_⟩⟩
        rw [h2] at H
        have e1 : ((k + j : Nat) : Int) = (k : Int) + j := by omega
        rw [e1]
        exact H
theorem dCount_ok (b : Nat) (s : RS) (m : Int) (hm : 0 ≤ m) : Tri Tryz.prog 106 #[.pointer (some ⟨b, 0, none⟩), .int .i64 m] (DRep b s)
    (fun v => HP.and (v = .int .i64 ((toldR s m).1 : Nat)) (DRep b (toldR s m).2)) := by
  have hlt := numR_lt s 4
  have h4 : (256 : Nat) ^ 4 = 4294967296 := by decide
  refine Tri.ex fun a => Tri.ex fun c => Tri.ex fun l => Tri.ex fun k => Tri.pure fun hh => ?_
  refine tri_of_tree (ρ := [.n b, .a a, .n l.length, .n c, .p (RoB a l.length l), .i k, .c s.2, .i m]) mixed Tryz.func106 tree_rrCount ?_
  unfold t_rrCount
  simp only [T.den, E.prop, E.den, RX.look, F1.app, F2.app, Uni.int_i, Uni.nat_n, Uni.bool_c, Uni.str_s, Uni.adr_a, Uni.val_v, Uni.hp_p, hden, cden, V.den, W.den, A.den, BR.den, SA.den, FV.den, capV, exs, exP, allP, Cur.app, List.map_cons, List.map_nil, List.cons_append, List.nil_append, List.drop_succ_cons, List.drop_zero, List.length_cons, List.length_nil, Nat.zero_add, Nat.reduceAdd, Int.neg_neg, Bool.not_not, List.append_nil, Nat.add_zero, List.getElem?_cons_zero, List.getElem?_cons_succ, Decidable.not_not, semW_eq, ne_eq, Nat.reduceEqDiff, not_false_eq_true]
  refine (dNumber_ok b s 4 (by omega)).weak (fun R h H => ⟨a, c, l, k, hh, H⟩) ?_
  rintro v R h ⟨rfl, a', c', l', k', hh', H⟩
  have hbad : (numR s 4).2.2 = true → (numR s 4).1 = 0 := fun hw => by
    unfold numR takeR at hw ⊢
    split
    · rfl
    · split
      · rfl
      · rename_i h1 h2
        rw [if_neg h1, if_neg h2] at hw; cases hw
  unfold toldR
  generalize (numR s 4).1 = x at *
  generalize (numR s 4).2 = s' at *
  obtain ⟨l1, w'⟩ := s'
  refine ⟨_, a', _, c', RoB a' l'.length l', k', w', rfl, ?_, H⟩
  have e : IntKind.i64.wrap (x : Int) = x := wrap_in (inI64 _ (by omega) (by omega))
  rw [e]
  simp only at hh' hbad
  refine ⟨fun h1 => .of fun R h H => ?_, fun h1 => .of fun R h H => ?_⟩
  · by_cases hw : w' = true
    · have := hbad hw; omega
    · rw [if_neg hw, if_pos h1]
      exact ⟨rfl, a', c', l', k', ⟨hh'.1, hh'.2.1, hh'.2.2.1, hh'.2.2.2.1, rfl⟩, H⟩
  · by_cases hw : w' = true
    · rw [if_pos hw]
      have := hbad hw
      subst this
      exact ⟨rfl, a', c', l', k', hh', H⟩
    · rw [if_neg hw, if_neg h1]
      exact ⟨rfl, a', c', l', k', hh', H⟩
set_option maxHeartbeats 1000000 in
theorem dBytes_ok (b : Nat) (s : RS) (m : Int) (hm : 0 ≤ m) : Tri Tryz.prog 96 #[.pointer (some ⟨b, 0, none⟩), .int .i64 m] (DRep b s)
    (fun v => HP.ex fun a => HP.ex fun c => HP.and (v = .slice a (bytesR s m).1.length c) (HP.sep (DRep b (bytesR s m).2) (OwB a (bytesR s m).1.length c (bytesR s m).1))) := by
  refine Tri.ex fun a => Tri.ex fun c => Tri.ex fun l => Tri.ex fun k => Tri.pure fun hh => ?_
  refine tri_of_tree (ρ := [.n b, .a a, .n l.length, .n c, .p (RoB a l.length l), .i k, .c s.2, .i m]) mixed Tryz.func96 tree_rrBytes ?_
  unfold t_rrBytes
  simp only [T.den, E.prop, E.den, RX.look, F1.app, F2.app, Uni.int_i, Uni.nat_n, Uni.bool_c, Uni.str_s, Uni.adr_a, Uni.val_v, Uni.hp_p, hden, cden, V.den, W.den, A.den, BR.den, SA.den, FV.den, capV, exs, exP, allP, Cur.app, List.map_cons, List.map_nil, List.cons_append, List.nil_append, List.drop_succ_cons, List.drop_zero, List.length_cons, List.length_nil, Nat.zero_add, Nat.reduceAdd, Int.neg_neg, Bool.not_not, List.append_nil, Nat.add_zero, List.getElem?_cons_zero, List.getElem?_cons_succ, Decidable.not_not, semW_eq, semW_append, ne_eq, Nat.reduceEqDiff, not_false_eq_true]
  refine (dCount_ok b s m hm).weak (fun R h H => ⟨a, c, l, k, hh, H⟩) ?_
  rintro v R h ⟨rfl, a', c', l', k', ⟨hk, hc, hb, ha, hs⟩, H⟩
  have hn := toldR_lt s m
  unfold bytesR
  generalize (toldR s m).1 = n at *
  generalize (toldR s m).2 = s' at *
  obtain ⟨l1, w'⟩ := s'
  simp only at hs
  refine ⟨_, a', _, c', RoB a' l'.length l', k', w', rfl, ?_, H⟩
  refine ⟨fun f => f = (w' || decide (((l'.length : Int) - k') < n)), ?_, ?_⟩
  · refine ⟨fun h => by rw [h]; rfl, fun h => ⟨inI64 _ (by omega) (by omega), fun _ => ?_⟩⟩
    have : w' = false := by simpa using h
    rw [this, Bool.false_or]
    exact decide_eq_decide.2 Iff.rfl
  · rintro f rfl
    refine ⟨fun h x => .of fun R h' H => ?_, fun h => ?_⟩
    · have e : takeR (l1, w') n = ([], ([], true)) := by
        unfold takeR
        cases h2 : w' with
        | true => subst h2; simp at hs; subst hs; simp
        | false =>
          subst h2
          have h : (l'.length : Int) - k' < n := by simpa using h
          simp at hs
          rw [if_neg (by simp), if_pos (by rw [hs]; simp; omega)]
      rw [e]
      exact ⟨some ⟨x, 0, none⟩, 0, rfl, HP.sep_mono (HP.sep_assoc' H) (fun y hy => ⟨a', c', l', k', ⟨hk, hc, hb, ha, rfl⟩, hy⟩) fun y hy => ⟨rfl, .inr ⟨x, #[], rfl, hy, Nat.le_refl _, by unfold maxLen; omega, rfl, rfl⟩⟩⟩
    · have h2 : w' = false := by
        cases h2 : w' with
        | true => rw [h2] at h; simp at h
        | false => rfl
      subst h2
      have h3 : n ≤ l'.length - k' := by
        have : ¬ (l'.length : Int) - k' < n := by simpa using h
        omega
      have hs1 : l1 = l'.drop k' := by simpa using hs
      have e : takeR (l1, false) n = (l1.take n, (l1.drop n, false)) := by
        unfold takeR
        rw [if_neg (by simp), if_neg (by rw [hs1]; simp; omega)]
      rw [e, hs1]
      obtain ⟨i, hi, _⟩ := info_parts info8
      have s1 := slice_ok und8 hi (RoB a' l'.length l') a' l'.length c' (some k') (some (k' + n)) none (by simp) (by simp; omega) (by simp) (fun h => by cases h)
      simp only [Option.getD_some, Option.getD_none, sz8, Nat.mul_one] at s1
      refine ⟨inI64 _ (by omega) (by omega), fun _ => ⟨_, k' + n - k', c' - k', by rw [semW_slice]; exact s1, fun x => ?_⟩⟩
      have e2 : k' + n - k' = n := by omega
      rw [e2]
      have r1 := (RdL.ro 1 a' l'.length (l'.map u8v)).subs k' n (by omega) (c' = k') (fun h => by omega)
      rw [← List.map_drop, ← List.map_take] at r1
      have hlen : ((l'.drop k').take n).length = n := by simp; omega
      refine (append8 (some ⟨x, 0, none⟩) 0 0 [] _ _ n (c' - k') ((l'.drop k').take n) r1 hlen (fun hne => ?_) (by omega)).weak (fun R h H => HP.sep_mono H (fun y hy => ⟨rfl, .inr ⟨x, #[], rfl, hy, Nat.le_refl _, by unfold maxLen; omega, rfl, rfl⟩⟩) fun _ h => h) ?_
      · rw [if_neg (by omega), Option.isSome_map]; exact ha (by omega)
      rintro v R h ⟨a1, c1, rfl, H⟩
      rw [Nat.zero_add, List.nil_append] at H
      refine ⟨a1, n, c1, OwB a1 n c1 ((l'.drop k').take n), by rw [Nat.zero_add], .of fun R h H => ⟨a1, c1, by rw [hlen], ?_⟩, H⟩
      rw [hlen]
      refine HP.sep_mono (HP.sep_assoc' H) (fun y hy => ⟨a', c', l', k' + n, ⟨by omega, hc, hb, ha, by simp⟩, ?_⟩) fun _ h => h
      have e1 : ((k' + n : Nat) : Int) = (k' : Int) + n := by omega
      rw [e1]
      exact hy
theorem dEnd_ok (b : Nat) (s : RS) : Tri Tryz.prog 97 #[.pointer (some ⟨b, 0, none⟩)] (DRep b s) (fun v => HP.and (v = .int .i64 (if s.2 = true ∨ s.1 ≠ [] then 3 else 0)) (DRep b s)) := by
  obtain ⟨l1, w'⟩ := s
  refine Tri.ex fun a => Tri.ex fun c => Tri.ex fun l => Tri.ex fun k => Tri.pure fun ⟨hk, hc, hb, ha, hs⟩ => ?_
  refine tri_of_tree (ρ := [.n b, .a a, .n l.length, .n c, .p (RoB a l.length l), .i k, .c w']) mixed Tryz.func97 tree_rrEnd ?_
  unfold t_rrEnd
  simp only [T.den, E.prop, E.den, RX.look, F1.app, F2.app, Uni.int_i, Uni.nat_n, Uni.bool_c, Uni.str_s, Uni.adr_a, Uni.val_v, Uni.hp_p, hden, cden, V.den, W.den, A.den, BR.den, SA.den, FV.den, capV, exs, exP, allP, Cur.app, List.map_cons, List.map_nil, List.cons_append, List.nil_append, List.drop_succ_cons, List.drop_zero, List.length_cons, List.length_nil, Nat.zero_add, Nat.reduceAdd, Int.neg_neg, Bool.not_not, List.append_nil, Nat.add_zero, List.getElem?_cons_zero, List.getElem?_cons_succ, Decidable.not_not, semW_eq, ne_eq, Nat.reduceEqDiff, not_false_eq_true]
  simp only at hs
  have iff' : (w' = true ∨ l1 ≠ []) ↔ (w' || decide ((k : Int) < l.length)) = true := by
    cases w' with
    | true => simp
    | false =>
      have hs : l1 = l.drop k := by simpa using hs
      rw [hs, Bool.false_or, decide_eq_true_eq]
      simp
  refine ⟨fun f => f = (w' || decide ((k : Int) < l.length)), ?_, ?_⟩
  · refine ⟨fun h => by rw [h]; rfl, fun h => ?_⟩
    have : w' = false := by simpa using h
    rw [this, Bool.false_or]
    exact decide_eq_decide.2 Iff.rfl
  · rintro f rfl
    refine ⟨fun h => .of fun R h' H => ?_, fun h => .of fun R h' H => ?_⟩
    · rw [if_pos (iff'.2 h)]; exact ⟨rfl, a, c, l, k, ⟨hk, hc, hb, ha, hs⟩, H⟩
    · rw [if_neg fun e => h (iff'.1 e)]; exact ⟨rfl, a, c, l, k, ⟨hk, hc, hb, ha, hs⟩, H⟩
theorem unwrap_iff (l : List UInt8) : unwrapS l = if l.length < 4 then none else if wrapS (l.take (l.length - 4)) = l then some (l.take (l.length - 4)) else none := by
  unfold unwrapS
  split
  · rfl
  · have hlt := sumS_lt (l.take (l.length - 4))
    have h4 : (256 : Nat) ^ 4 = 4294967296 := by decide
    have hi : beV (l.drop (l.length - 4)) = sumS (l.take (l.length - 4)) ↔ wrapS (l.take (l.length - 4)) = l := by
      unfold wrapS
      constructor
      · intro h
        have e : l.drop (l.length - 4) = beN (sumS (l.take (l.length - 4))) 4 := beV_inj 4 _ _ (by rw [List.length_drop]; omega) (beN_len _ _) (by rw [h, beV_beN 4 _ (by omega)])
        rw [← e, List.take_append_drop]
      · intro h
        have h2 := List.take_append_drop (l.length - 4) l
        have e : beN (sumS (l.take (l.length - 4))) 4 = l.drop (l.length - 4) := List.append_cancel_left (h.trans h2.symm)
        rw [← e, beV_beN 4 _ (by omega)]
    by_cases hb : beV (l.drop (l.length - 4)) = sumS (l.take (l.length - 4))
    · rw [if_pos hb, if_pos (hi.1 hb)]
    · rw [if_neg hb, if_neg fun e => hb (hi.2 e)]
set_option maxHeartbeats 1000000 in
theorem r2Unwrap_ok (a : Option Addr) (n c : Nat) (l : List UInt8) (S : HP) (hr : RdL S a n (l.map u8v)) (hl : l.length = n) (hc : n ≤ c) (ha : n ≠ 0 → a.isSome = true) (hb : n ≤ 140737488355000) :
    Tri Tryz.prog 94 #[.slice a n c] S (fun v => HP.ex fun a' => HP.ex fun c' => HP.and (v = .tuple #[.slice a' ((unwrapS l).getD []).length c', .int .i64 (if (unwrapS l).isSome then 0 else 3)])
      (HP.sep S (OwB a' ((unwrapS l).getD []).length c' ((unwrapS l).getD [])))) := by
  refine tri_of_tree (ρ := [.a a, .n n, .n c, .p S]) mixed Tryz.func94 tree_r2Unwrap ?_
  unfold t_r2Unwrap
  simp only [T.den, E.prop, E.den, RX.look, F1.app, F2.app, Uni.int_i, Uni.nat_n, Uni.bool_c, Uni.str_s, Uni.adr_a, Uni.val_v, Uni.hp_p, hden, cden, V.den, W.den, A.den, BR.den, SA.den, FV.den, capV, exs, exP, allP, Cur.app, List.map_cons, List.map_nil, List.cons_append, List.nil_append, List.drop_succ_cons, List.drop_zero, List.length_cons, List.length_nil, Nat.zero_add, Nat.reduceAdd, Int.neg_neg, Bool.not_not, List.append_nil, Nat.add_zero, List.getElem?_cons_zero, List.getElem?_cons_succ, Decidable.not_not, semW_eq, semW_append, ne_eq, Nat.reduceEqDiff, not_false_eq_true]
  subst hl
  have bad : ∀ R h, unwrapS l = none → S.p R h → (HP.ex fun a' => HP.ex fun c' => HP.and (Value.tuple #[.slice none 0 0, .int .i64 3] = .tuple #[.slice a' ((unwrapS l).getD []).length c', .int .i64 (if (unwrapS l).isSome then 0 else 3)])
      (HP.sep S (OwB a' ((unwrapS l).getD []).length c' ((unwrapS l).getD [])))).p R h := fun R h e H => by
    rw [e]; exact ⟨none, 0, rfl, HP.sep_comm (HP.sep_mono (HP.tt_sep H) (fun y _ => OwC.nil _ _ R y) fun _ h => h)⟩
  refine ⟨inI64 _ (by omega) (by omega), fun _ => ⟨fun h4 => ?_, fun h4 => ?_⟩⟩
  · exact .of fun R h H => bad R h (by unfold unwrapS; rw [if_pos (by omega)]) H
  obtain ⟨m, hm⟩ : ∃ m, l.length = m + 4 := ⟨l.length - 4, by omega⟩
  have em : ((l.length : Int) - 4) = (m : Nat) := by omega
  have e4 : l.length - 4 = m := by omega
  have hu := unwrap_iff l
  rw [if_neg (by omega), e4] at hu
  rw [em]
  have r1 : RdL S (if c = 0 then a else a.map fun x => x.add (0 * szT Tryz.prog 5)) m ((l.take m).map u8v) := by
    have := hr.subs 0 m (by omega) (c = 0) (fun h => by omega)
    rw [Nat.zero_mul, List.map_take]; simpa using this
  have hA1 : m ≠ 0 → (if c = 0 then a else a.map fun x => x.add (0 * szT Tryz.prog 5)).isSome = true := fun h => by
    rw [if_neg (by omega), Option.isSome_map]; exact ha (by omega)
  have lt1 : (l.take m).length = m := by rw [List.length_take]; omega
  have s1 := slice_ok und8 info8i S a l.length c none (some m) none (Nat.zero_le _) (by show m ≤ c; omega) (Nat.le_refl _) (fun h => by cases h)
  simp only [Option.getD_some, Option.getD_none, Nat.sub_zero] at s1
  refine ⟨_, m, c, by rw [semW_slice]; exact s1, ?_⟩
  refine (r2Wrap_ok _ m c (l.take m) S r1 lt1 hA1 (by omega)).weak (fun _ _ h => h) ?_
  rintro v R h ⟨a2, c2, rfl, H⟩
  refine ⟨a2, _, c2, _, rfl, ?_, H⟩
  clear H
  refine (same01_ok a2 _ c2 (wrapS (l.take m)) a l.length c l _ S (RdL.ow _ _ _ _ _ _) hr rfl rfl (by rw [wrapS_len]; omega)).weak (fun _ _ h => h) ?_
  rintro v R h ⟨rfl, H⟩
  refine ⟨_, rfl, ⟨fun h => ?_, fun h x => ⟨_, m, c, by rw [semW_slice]; exact s1, ?_⟩⟩, H⟩
  · have hne : ¬ wrapS (l.take m) = l := by simpa using h
    rw [if_neg hne] at hu
    exact .of fun R h H => bad R h hu H
  · have he : wrapS (l.take m) = l := by simpa using h
    rw [if_pos he] at hu
    clear H
    refine (append8 (some ⟨x, 0, none⟩) 0 0 [] S _ m c (l.take m) r1 lt1 hA1 (by omega)).weak (fun R h H => HP.sep_mono H (fun y hy => ⟨rfl, .inr ⟨x, #[], rfl, hy, Nat.le_refl _, by unfold maxLen; omega, rfl, rfl⟩⟩) fun _ h => h) ?_
    rintro v R h ⟨a1, c1, rfl, H⟩
    rw [Nat.zero_add, List.nil_append] at H
    refine ⟨a1, m, c1, OwB a1 m c1 (l.take m), by rw [Nat.zero_add], .of fun R h H => ⟨a1, c1, ?_, ?_⟩, H⟩
    · rw [hu]; simp [lt1]
    · rw [hu]; simp only [Option.getD_some, lt1]; exact H
theorem Tri.preE7 {P : Program} {f : FuncId} {args : Array Value} {A A' : HP} {B : Value → HP} (t : Tri P f args A B) (e : HP.ent A' A) : Tri P f args A' B := t.conseq (K := HP.tt) (e.trans (.of fun _ _ H => HP.sep_tt H)) fun v => .of fun _ _ H => HP.sep_left H
theorem drep_init (b : Nat) (a : Option Addr) (c : Nat) (q : List UInt8) (hb : q.length ≤ 1000000000) : HP.ent (HP.sep (HP.one b (.cells #[.slice a q.length c, .int .i64 0, .bool false] 171)) (OwB a q.length c q)) (DRep b (q, false)) := by
  rintro R h d H
  have hle := OwC.le (HP.sep_right H)
  have hs : q.length ≠ 0 → a.isSome = true := fun hn => OwC.some (HP.sep_right H) (by omega)
  refine ((HP.ent.sep2 (HP.ent.refl _) (OwC.share 5 1 a q.length c (q.map u8v))).trans ?_) R h d H
  exact .of fun R h H => ⟨a, c, q, 0, ⟨Nat.zero_le _, hle, hb, hs, by simp⟩, H⟩
theorem unwrapS_len {l q : List UInt8} (h : unwrapS l = some q) : q.length + 4 = l.length := by
  unfold unwrapS at h
  split at h
  · cases h
  · split at h
    · cases h; rw [List.length_take]; omega
    · cases h
def Call5 (l : List UInt8) (S : HP) (v : Value) : HP := HP.ex fun x : CallP => HP.ex fun a : Option Addr => HP.ex fun c : Nat => HP.ex fun k : Int =>
  HP.and (v = .tuple #[x.val a c, .int .i64 k] ∧ (callD l ≠ none → k = 0)) (HP.sep (OwB a x.data.length c x.data) S)
set_option maxHeartbeats 1000000 in
theorem r5Decode_ok (a : Option Addr) (n c : Nat) (l : List UInt8) (S : HP) (hr : RdL S a n (l.map u8v)) (hl : l.length = n) (hc : n ≤ c) (ha : n ≠ 0 → a.isSome = true) (hb : n ≤ 1000000) :
    Tri Tryz.prog 40 #[.slice a n c] S (Call5 l S) := by
  refine tri_of_tree (ρ := [.a a, .n n, .n c, .p S]) mixed Tryz.func40 tree_r5Decode ?_
  unfold t_r5Decode
  simp only [T.den, E.prop, E.den, RX.look, F1.app, F2.app, Uni.int_i, Uni.nat_n, Uni.bool_c, Uni.str_s, Uni.adr_a, Uni.val_v, Uni.hp_p, hden, cden, V.den, W.den, A.den, BR.den, SA.den, FV.den, capV, exs, exP, allP, Cur.app, List.map_cons, List.map_nil, List.cons_append, List.nil_append, List.drop_succ_cons, List.drop_zero, List.length_cons, List.length_nil, Nat.zero_add, Nat.reduceAdd, Int.neg_neg, Bool.not_not, List.append_nil, Nat.add_zero, List.getElem?_cons_zero, List.getElem?_cons_succ, Decidable.not_not, semW_eq, ne_eq, Nat.reduceEqDiff, not_false_eq_true]
  intro _
  have bad : callD l = none → ∀ {A : HP}, HP.ent A S → HP.ent A (Call5 l S (.tuple #[.agg #[.int .i64 0, sE [], sE [], .int .i64 0, .int .i64 0, .slice none 0 0], .int .i64 3])) := fun h A hA => by
    refine hA.trans (.of fun R h' H => ?_)
    exact ⟨⟨0, [], [], 0, 0, []⟩, none, 0, 3, ⟨rfl, fun e => absurd h e⟩, HP.sep_mono (HP.tt_sep H) (fun y _ => OwC.nil _ _ R y) fun _ h => h⟩
  have hd0 : callD l = match unwrapS l with
    | none => none
    | some q => if (callR (q, false)).2.2 = true ∨ (callR (q, false)).2.1 ≠ [] then none else some (callR (q, false)).1 := rfl
  refine (r2Unwrap_ok a n c l S hr hl hc ha (by omega)).weak (fun _ _ h => h) ?_
  rintro v R h ⟨a', c', rfl, H⟩
  refine ⟨a', _, c', OwB a' _ c' _, _, S, rfl, ?_, HP.sep_comm H⟩
  clear H
  cases hu : unwrapS l with
  | none =>
    rw [hu] at hd0
    exact ⟨fun _ => bad hd0 (HP.ent.refl _), fun h => (by simp at h)⟩
  | some q =>
    rw [hu] at hd0
    simp only at hd0
    refine ⟨fun h => absurd rfl h, fun _ b => ?_⟩
    simp only [Option.getD_some]
    have hq := unwrapS_len hu
    refine ((dNumber_ok b (q, false) 1 (by omega)).preE7 (drep_init b a' c' q (by omega))).weak (fun _ _ h => h) ?_
    rintro v R h ⟨rfl, H⟩
    refine ⟨_, _, rfl, fun _ => ?_, H⟩
    clear H
    refine (dBytes_ok b _ 300 (by omega)).weak (fun _ _ h => h) ?_
    rintro v R h ⟨pa, pc, rfl, H⟩
    refine ⟨pa, _, pc, _, _, rfl, ⟨_, convW6 (RdL.ow _ _ _ _ _ _) rfl, ?_⟩, HP.sep_comm H⟩
    clear H
    refine (dBytes_ok b _ 300 (by omega)).weak (fun _ _ h => h) ?_
    rintro v R h ⟨oa, oc, rfl, H⟩
    refine ⟨oa, _, oc, _, _, rfl, ⟨_, convW6 (RdL.ow _ _ _ _ _ _) rfl, ?_⟩, HP.sep_comm H⟩
    clear H
    refine (dNumber_ok b _ 8 (by omega)).weak (fun _ _ h => h) ?_
    rintro v R h ⟨rfl, H⟩
    refine ⟨_, _, rfl, ?_, H⟩
    clear H
    refine (dNumber_ok b _ 8 (by omega)).weak (fun _ _ h => h) ?_
    rintro v R h ⟨rfl, H⟩
    refine ⟨_, _, rfl, ?_, H⟩
    clear H
    refine (dBytes_ok b _ 4096 (by omega)).weak (fun _ _ h => h) ?_
    rintro v R h ⟨da, dc, rfl, H⟩
    refine ⟨da, _, dc, _, _, rfl, ?_, HP.sep_comm H⟩
    clear H
    refine (dEnd_ok b _).weak (fun _ _ h => h) ?_
    rintro v R h ⟨rfl, H⟩
    refine ⟨_, _, rfl, ⟨fun h1 => bad ?_ (HP.ent.refl _), fun h1 => ?_⟩, H⟩
    · rw [hd0, if_pos]
      by_cases e : (callR (q, false)).2.2 = true ∨ (callR (q, false)).2.1 ≠ []
      · exact e
      · exact absurd (if_neg e) h1
    clear H
    exact .of fun R h H => ⟨⟨_, _, _, _, _, _⟩, da, dc, 0, ⟨rfl, fun _ => rfl⟩, HP.sep_comm H⟩
def Log7 (l : List UInt8) (S : HP) (v : Value) : HP := HP.ex fun x : LogM => HP.ex fun a : Option Addr => HP.ex fun c : Nat => HP.ex fun k : Int =>
  HP.and (v = .tuple #[x.val a c, .int .i64 k] ∧ (entD l ≠ none → k = 0)) (HP.sep (OwB a x.pl.length c x.pl) S)
set_option maxHeartbeats 1000000 in
theorem r7Decode_ok (a : Option Addr) (n c : Nat) (l : List UInt8) (S : HP) (hr : RdL S a n (l.map u8v)) (hl : l.length = n) (hc : n ≤ c) (ha : n ≠ 0 → a.isSome = true) (hb : n ≤ 1000000) :
    Tri Tryz.prog 33 #[.slice a n c] S (Log7 l S) := by
  refine tri_of_tree (ρ := [.a a, .n n, .n c, .p S]) mixed Tryz.func33 tree_r7Decode ?_
  unfold t_r7Decode
  simp only [T.den, E.prop, E.den, RX.look, F1.app, F2.app, Uni.int_i, Uni.nat_n, Uni.bool_c, Uni.str_s, Uni.adr_a, Uni.val_v, Uni.hp_p, hden, cden, V.den, W.den, A.den, BR.den, SA.den, FV.den, capV, exs, exP, allP, Cur.app, List.map_cons, List.map_nil, List.cons_append, List.nil_append, List.drop_succ_cons, List.drop_zero, List.length_cons, List.length_nil, Nat.zero_add, Nat.reduceAdd, Int.neg_neg, Bool.not_not, List.append_nil, Nat.add_zero, List.getElem?_cons_zero, List.getElem?_cons_succ, Decidable.not_not, semW_eq, ne_eq, Nat.reduceEqDiff, not_false_eq_true]
  intro _
  have bad : entD l = none → ∀ {A : HP}, HP.ent A S → HP.ent A (Log7 l S (.tuple #[.agg #[.int .i64 0, .int .i64 0, .int .i64 0, .int .i64 0, .int .i64 0, .int .i64 0, .slice none 0 0], .int .i64 3])) := fun h A hA => by
    refine hA.trans (.of fun R h' H => ?_)
    exact ⟨⟨0, 0, 0, 0, 0, 0, []⟩, none, 0, 3, ⟨rfl, fun e => absurd h e⟩, HP.sep_mono (HP.tt_sep H) (fun y _ => OwC.nil _ _ R y) fun _ h => h⟩
  have hd0 : entD l = if 65536 < l.length then none else match unwrapS l with
    | none => none
    | some q => if (logR (q, false)).2.2 = true ∨ (logR (q, false)).2.1 ≠ [] then none else if logOk (logR (q, false)).1 = true then some (logR (q, false)).1 else none := rfl
  refine (r2Unwrap_ok a n c l S hr hl hc ha (by omega)).weak (fun _ _ h => h) ?_
  rintro v R h ⟨a', c', rfl, H⟩
  refine ⟨a', _, c', OwB a' _ c' _, _, S, rfl, ?_, HP.sep_comm H⟩
  clear H
  cases hu : unwrapS l with
  | none =>
    rw [hu] at hd0
    exact ⟨fun _ => bad (by rw [hd0]; split <;> rfl) (HP.ent.refl _), fun h => (by simp at h)⟩
  | some q =>
    rw [hu] at hd0
    simp only at hd0
    refine ⟨fun h => absurd rfl h, fun _ b => ?_⟩
    simp only [Option.getD_some]
    have hq := unwrapS_len hu
    refine ((dNumber_ok b (q, false) 1 (by omega)).preE7 (drep_init b a' c' q (by omega))).weak (fun _ _ h => h) ?_
    rintro v R h ⟨rfl, H⟩
    refine ⟨_, _, rfl, fun _ => ?_, H⟩
    clear H
    refine (dNumber_ok b _ 4 (by omega)).weak (fun _ _ h => h) ?_
    rintro v R h ⟨rfl, H⟩
    refine ⟨_, _, rfl, ?_, H⟩
    clear H
    refine (dNumber_ok b _ 4 (by omega)).weak (fun _ _ h => h) ?_
    rintro v R h ⟨rfl, H⟩
    refine ⟨_, _, rfl, ?_, H⟩
    clear H
    refine (dNumber_ok b _ 4 (by omega)).weak (fun _ _ h => h) ?_
    rintro v R h ⟨rfl, H⟩
    refine ⟨_, _, rfl, ?_, H⟩
    clear H
    refine (dNumber_ok b _ 1 (by omega)).weak (fun _ _ h => h) ?_
    rintro v R h ⟨rfl, H⟩
    refine ⟨_, _, rfl, ?_, H⟩
    clear H
    refine (dNumber_ok b _ 8 (by omega)).weak (fun _ _ h => h) ?_
    rintro v R h ⟨rfl, H⟩
    refine ⟨_, _, rfl, ?_, H⟩
    clear H
    refine (dBytes_ok b _ 65536 (by omega)).weak (fun _ _ h => h) ?_
    rintro v R h ⟨pa, pc, rfl, H⟩
    have hps := fun hn => OwC.some (HP.sep_right H) (Nat.pos_of_ne_zero hn)
    refine ⟨pa, _, pc, _, _, rfl, ?_, HP.sep_comm H⟩
    clear H
    refine (dEnd_ok b _).weak (fun _ _ h => h) ?_
    rintro v R h ⟨rfl, H⟩
    refine ⟨_, _, rfl, ⟨fun h1 => bad ?_ (HP.ent.refl _), fun h1 => ?_⟩, H⟩
    · rw [hd0, if_pos (c := (logR (q, false)).2.2 = true ∨ (logR (q, false)).2.1 ≠ [])]
      · split <;> rfl
      by_cases e : (logR (q, false)).2.2 = true ∨ (logR (q, false)).2.1 ≠ []
      · exact e
      · exact absurd (if_neg e) h1
    clear H
    have h1' : ¬ ((logR (q, false)).2.2 = true ∨ (logR (q, false)).2.1 ≠ []) := fun e => by
      have h3 : (if (logR (q, false)).2.2 = true ∨ (logR (q, false)).2.1 ≠ [] then (3 : Int) else 0) = 3 := if_pos e
      exact absurd (h3.symm.trans h1) (by decide)
    rw [if_neg h1'] at hd0
    have w1 : ∀ s : RS, IntKind.i64.wrap (((numR s 1).1 : Nat) : Int) = (((numR s 1).1 % 256 : Nat) : Int) := fun s => by
      have := numR_lt s 1
      have h2 : (256 : Nat) ^ 1 = 256 := by decide
      rw [Nat.mod_eq_of_lt (by omega)]
      exact wrap_in (inI64 _ (by omega) (by omega))
    rw [wrapI _ (numR_lt _ _), wrapI _ (numR_lt _ _), wrapI _ (numR_lt _ _), w1, w1]
    have hpl : (logR (q, false)).1.pl.length ≤ 100000000000100 := Nat.le_trans (takeR_len _ _) (Nat.le_trans (toldR_lt _ _) (by decide))
    refine (r7Right_ok (logR (q, false)).1 pa pc _ (RdL.ow _ _ _ _ _ _) hps hpl).weak (fun _ _ h => h) ?_
    rintro v R h ⟨rfl, H⟩
    refine ⟨_, rfl, ⟨fun h2 => bad ?_ (HP.ent.refl _), fun h2 => ?_⟩, H⟩
    · rw [hd0, if_neg h2]; split <;> rfl
    · exact .of fun R h H => ⟨(logR (q, false)).1, pa, pc, 0, ⟨rfl, fun _ => rfl⟩, HP.sep_comm H⟩
end Go.Proofs.YtdieogcemmnaaaaGreatDoor



namespace Go.Proofs.YtdieogcemmnaaaaGreatDoor
open Go.Proofs.YtdieogcemmnaaaaGreatDoor RX
set_option maxRecDepth 100000

def nodeS4 (s : RS) : RS := (bytesR (numR (numR (numR s 1).2 1).2 2).2 512).2
def nodeR6 (s : RS) : Nd × RS :=
  (⟨(numR s 1).1 % 256, (((numR (numR s 1).2 1).1 % 256 : Nat) : Int), intOf64 (numR (numR (numR s 1).2 1).2 2).1, (bytesR (numR (numR (numR s 1).2 1).2 2).2 512).1, (loopR entR (toldR (nodeS4 s) 4194240).1 (toldR (nodeS4 s) 4194240).2).1⟩,
   (loopR entR (toldR (nodeS4 s) 4194240).1 (toldR (nodeS4 s) 4194240).2).2)
theorem nodeS4_le (s : RS) : (nodeS4 s).1.length ≤ s.1.length := Nat.le_trans (bytesR_le _ _) (Nat.le_trans (numR_le _ _) (Nat.le_trans (numR_le _ _) (numR_le _ _)))
theorem nodeR6_le (s : RS) : (nodeR6 s).2.1.length ≤ s.1.length := Nat.le_trans (loopR_le entR_le _ _) (Nat.le_trans (toldR_len _ _) (nodeS4_le s))
theorem nodeR6_shrinks : Shrinks nodeR6 := fun s h => by
  have h5 := (toldR_false (loopR_false (f := entR) h)).1
  have h4 := (bytesR_false h5).1
  have h3 := (numR_false h4).1
  have h2 := (numR_false h3).1
  have h1 := (numR_false h2).2
  have a1 : (nodeR6 s).2.1.length ≤ (nodeS4 s).1.length := Nat.le_trans (loopR_le entR_le _ _) (toldR_len _ _)
  have a2 := bytesR_le (numR (numR (numR s 1).2 1).2 2).2 512
  have a3 := numR_le (numR (numR s 1).2 1).2 2
  have a4 := numR_le (numR s 1).2 1
  unfold nodeS4 at a1
  omega
theorem loopR_cnt {α : Type} {f : RS → α × RS} (hf : Shrinks f) : ∀ (n : Nat) (s : RS), (loopR f n s).2.2 = false → n + (loopR f n s).2.1.length ≤ s.1.length
  | 0, s, _ => by simp [loopR]
  | n + 1, s, h => by
    have hs := loopR_false h
    have e : loopR f (n + 1) s = ((f s).1 :: (loopR f n (f s).2).1, (loopR f n (f s).2).2) := by
      show (if s.2 then _ else _) = _
      rw [if_neg (by rw [hs]; decide)]
    rw [e] at h ⊢
    have h1 := loopR_cnt hf n _ h
    have h2 := hf s (loopR_false h)
    show n + 1 + (loopR f n (f s).2).2.1.length ≤ _
    omega
theorem told_same {s : RS} {m k : Int} {α : Type} {f : RS → α × RS} (hf : Shrinks f) (hw : (loopR f (toldR s m).1 (toldR s m).2).2.2 = false) (hk : (s.1.length : Int) ≤ k) (hm' : (4294967295 : Int) ≤ m) : toldR s k = toldR s m := by
  have h1 := loopR_cnt hf _ _ hw
  have h2 := toldR_len s m
  have hb := toldR_false (loopR_false hw)
  unfold toldR at *
  by_cases hbad : (numR s 4).2.2 = true
  · rw [if_pos hbad, if_pos hbad]
  · have hx := numR_lt s 4
    have h4 : (256 : Nat) ^ 4 = 4294967296 := by decide
    rw [if_neg hbad] at h1 h2 hb ⊢
    rw [if_neg hbad]
    rw [if_neg (by omega)] at h1 h2 hb ⊢
    rw [if_neg]
    have h1' : (numR s 4).1 + _ ≤ _ := h1
    omega
theorem node_same {s : RS} (h : (nodeR s).2.2 = false) (hl : s.1.length ≤ 4194240) : nodeR6 s = nodeR s := by
  have e0 : listR entR 9223372036854775807 (nodeS4 s) = loopR entR (toldR (nodeS4 s) 9223372036854775807).1 (toldR (nodeS4 s) 9223372036854775807).2 := by
    have h' : (listR entR 9223372036854775807 (nodeS4 s)).2.2 = false := h
    rw [listR_snd] at h'
    unfold listR
    rw [if_neg (by rw [h']; decide)]
  have hw : (loopR entR (toldR (nodeS4 s) 9223372036854775807).1 (toldR (nodeS4 s) 9223372036854775807).2).2.2 = false := by
    have h' : (listR entR 9223372036854775807 (nodeS4 s)).2.2 = false := h
    rw [listR_snd] at h'; exact h'
  have hle := nodeS4_le s
  have e1 := told_same (k := 4194240) entR_shrinks hw (by omega) (by omega)
  have e2 : nodeR s = (⟨(numR s 1).1 % 256, (((numR (numR s 1).2 1).1 % 256 : Nat) : Int), intOf64 (numR (numR (numR s 1).2 1).2 2).1, (bytesR (numR (numR (numR s 1).2 1).2 2).2 512).1, (listR entR 9223372036854775807 (nodeS4 s)).1⟩, (listR entR 9223372036854775807 (nodeS4 s)).2) := rfl
  rw [e2, e0]
  unfold nodeR6
  rw [e1]
theorem loop_same : ∀ (n : Nat) (s : RS), (loopR nodeR n s).2.2 = false → s.1.length ≤ 4194240 → loopR nodeR6 n s = loopR nodeR n s
  | 0, _, _, _ => rfl
  | n + 1, s, h, hl => by
    have hs := loopR_false h
    have e : ∀ f : RS → Nd × RS, loopR f (n + 1) s = ((f s).1 :: (loopR f n (f s).2).1, (loopR f n (f s).2).2) := fun f => by
      show (if s.2 then _ else _) = _
      rw [if_neg (by rw [hs]; decide)]
    rw [e nodeR] at h ⊢
    rw [e nodeR6]
    have hn := loopR_false (f := nodeR) (n := n) h
    have := nodeR_le s
    rw [node_same hn hl, loop_same n _ h (by omega)]
theorem wl_same {T : List Nd} (h : (T.flatMap (·.ents)).length < 65536) : wlS T = T := by
  unfold wlS
  conv => rhs; rw [← List.map_id T]
  refine List.map_congr_left fun n _ => ?_
  unfold wl1
  split
  · rename_i hh
    have := cntL_le (T.flatMap (·.ents)) n.num
    have e : cntL (T.flatMap (·.ents)) n.num % 65536 = cntL (T.flatMap (·.ents)) n.num := Int.emod_eq_of_lt this.1 (by omega)
    rw [e] at hh
    rw [hh.2]; rfl
  · rfl
theorem whole_wf {T : List Nd} {M : Nat} (hM : ∀ n ∈ T, n.ents.length ≤ M) (hM' : M ≤ 1500) (ho : okN (-1) T = true) (hw : WholeT T) : TWf 100000 T ∧ Reach T := by
  have p := Prep.of ho
  obtain ⟨_, hs⟩ := okN_all ho
  obtain ⟨r, r1, r2⟩ := hw.root
  refine ⟨⟨hs, ⟨r, r1, r2⟩, fun n hn => ?_, fun n hn e he => (hw.tgt n hn e he).1, fun n hn h0 => (hw.cnt n hn h0).1⟩, fun n hn => ?_⟩
  · have hg := p.good n hn
    have hm := hM n hn
    by_cases hk : n.kind = 1
    · have hg2 := hg
      unfold goodS at hg2
      rw [if_pos hk] at hg2
      simp only [Bool.and_eq_true, decide_eq_true_eq] at hg2
      obtain ⟨⟨g1, g2⟩, g3⟩ := hg2
      have g4 := okE_lt g3
      exact ⟨.inl ⟨hk, g1, g2⟩, by rw [g1]; simp, by omega, by omega, by omega, g4.2.1, fun e he => ⟨g4.2.2 e he, (hw.tgt n hn e he).2⟩, p.few n hn⟩
    · have hg2 := hg
      unfold goodS at hg2
      rw [if_neg hk] at hg2
      by_cases hk2 : n.kind = 2
      · rw [if_pos hk2] at hg2
        simp only [Bool.and_eq_true, decide_eq_true_eq] at hg2
        obtain ⟨g1, g2⟩ := hg2
        have h0 : n.num ≠ 0 := fun e => by
          have := p.at hn
          rw [e, r1] at this
          cases this; exact hk r2
        have hc := hw.cnt n hn h0
        have hmost := p.most hM n.num
        have hpos : 0 < Go.Proofs.YtdieogcemmnaaaaGreatDoor.refs T n.num := by
          have key : ∀ j, Rch T j → j = 0 ∨ 0 < Go.Proofs.YtdieogcemmnaaaaGreatDoor.refs T j := fun j hj => by
            cases hj with
            | root => exact .inl rfl
            | step _ hs =>
              obtain ⟨x, x1, _, x3⟩ := hs
              exact .inr (refs_pos (nodeAt_mem x1).1 (lk_mem x3) rfl)
          exact (key _ hc.2).resolve_left h0
        have hl := hc.1
        refine ⟨.inr ⟨hk2, g2⟩, g1, by omega, by omega, by omega, by rw [g2]; exact List.Pairwise.nil, by rw [g2]; exact fun _ h => (by cases h), p.few n hn⟩
      · rw [if_neg hk2] at hg2; cases hg2
  · by_cases h0 : n.num = 0
    · rw [h0]; exact Rch.root
    · exact (hw.cnt n hn h0).2
def dec6 (q : List UInt8) : List Nd × RS := loopR nodeR6 (toldR (numR (q, false) 8).2 64).1 (toldR (numR (q, false) 8).2 64).2
theorem dec6_ok {l q : List UInt8} (hu : unwrapS l = some q) (hl : l.length ≤ 1000) (hd : decS wholeS l ≠ none) :
    (dec6 q).2.2 = false ∧ (dec6 q).2.1 = [] ∧ 0 ≤ intOf64 (numR (q, false) 8).1 ∧ intOf64 (numR (q, false) 8).1 ≤ 4294967296 ∧ TWf 100000 (dec6 q).1 ∧ Reach (dec6 q).1 := by
  have hq := unwrapS_len hu
  have h8 := numR_le (q, false) 8
  have hq1 : (q, false).1.length ≤ 996 := by show q.length ≤ 996; omega
  have hd2 : decS wholeS l = if (listR nodeR 64 (numR (q, false) 8).2).2.2 = true ∨ (listR nodeR 64 (numR (q, false) 8).2).2.1 ≠ [] ∨ intOf64 (numR (q, false) 8).1 < 0 ∨ 4294967296 < intOf64 (numR (q, false) 8).1 then none
        else if loadOk wholeS (wlS (listR nodeR 64 (numR (q, false) 8).2).1) = true then some (intOf64 (numR (q, false) 8).1, wlS (listR nodeR 64 (numR (q, false) 8).2).1) else none := by unfold decS; rw [hu]
  rw [hd2] at hd
  generalize hsv : (numR (q, false) 8).2 = s at *
  have hsl : s.1.length ≤ 996 := Nat.le_trans h8 hq1
  by_cases hc : (listR nodeR 64 s).2.2 = true ∨ (listR nodeR 64 s).2.1 ≠ [] ∨ intOf64 (numR (q, false) 8).1 < 0 ∨ 4294967296 < intOf64 (numR (q, false) 8).1
  · rw [if_pos hc] at hd; exact absurd rfl hd
  rw [if_neg hc] at hd
  have hw : (listR nodeR 64 s).2.2 = false := by
    cases h : (listR nodeR 64 s).2.2 with
    | true => exact absurd (.inl h) hc
    | false => rfl
  have hn : (listR nodeR 64 s).2.1 = [] := Classical.byContradiction fun h => hc (.inr (.inl h))
  have hlo : loadOk wholeS (wlS (listR nodeR 64 s).1) = true := Classical.byContradiction fun h => by rw [if_neg h] at hd; exact hd rfl
  have hw2 := hw
  rw [listR_snd] at hw2
  have e0 : listR nodeR 64 s = loopR nodeR (toldR s 64).1 (toldR s 64).2 := by
    unfold listR
    rw [if_neg (by rw [hw2]; decide)]
  have ht := toldR_len s 64
  have e1 : dec6 q = listR nodeR 64 s := by
    unfold dec6
    rw [hsv, e0]
    exact loop_same _ _ hw2 (by omega)
  have hfew := nodes_few s
  have hents := ents_few s
  rw [← e1] at hw hn hlo hfew hents
  have hM : ∀ n ∈ (dec6 q).1, n.ents.length ≤ 997 := fun n hn => Nat.le_trans (hents n hn) (by omega)
  have hflat := flat_len_le (fun n : Nd => n.ents) 997 (dec6 q).1 hM
  have h64 : (dec6 q).1.length * 997 ≤ 64 * 997 := Nat.mul_le_mul_right _ hfew
  rw [wl_same (by omega)] at hlo
  unfold loadOk at hlo
  simp only [Bool.and_eq_true, decide_eq_true_eq] at hlo
  obtain ⟨⟨_, ho⟩, hwh⟩ := hlo
  have hwt : WholeT (dec6 q).1 := by
    unfold wholeS at hwh
    simpa using hwh
  have hf := whole_wf hM (by omega) ho hwt
  exact ⟨hw, hn, by omega, by omega, hf.1, hf.2⟩
end Go.Proofs.YtdieogcemmnaaaaGreatDoor



namespace Go.Proofs.YtdieogcemmnaaaaGreatDoor.RX
set_option maxRecDepth 100000
-- tideline/tidelineref04.Right: ρ := [.a la, .n ll, .n lc, .p lP]
def t_right04 : T :=
(.new
(.new
(.loop [.c, .i, .p, .p] [.e (.o1 .not (.o1 .not (.c false))), .e (.o1 .neg (.o1 .neg (.i 0))), .p [(.b (.v 5), .cells [.int .i64 (.i 0), .int .i64 (.i 0), .int .i64 (.i 0), .int .i64 (.i 0), .int .i64 (.i 0), .int .i64 (.i 0), .int .i64 (.i 0), .int .i64 (.i 0), .int .i64 (.i 0), .int .i64 (.i 0), .int .i64 (.i 0), .int .i64 (.i 0), .int .i64 (.i 0), .int .i64 (.i 0), .int .i64 (.i 0), .int .i64 (.i 0), .int .i64 (.i 0), .int .i64 (.i 0), .int .i64 (.i 0), .int .i64 (.i 0), .int .i64 (.i 0), .int .i64 (.i 0), .int .i64 (.i 0), .int .i64 (.i 0), .int .i64 (.i 0), .int .i64 (.i 0), .int .i64 (.i 0), .int .i64 (.i 0), .int .i64 (.i 0), .int .i64 (.i 0), .int .i64 (.i 0), .int .i64 (.i 0), .int .i64 (.i 0), .int .i64 (.i 0), .int .i64 (.i 0), .int .i64 (.i 0), .int .i64 (.i 0), .int .i64 (.i 0), .int .i64 (.i 0), .int .i64 (.i 0), .int .i64 (.i 0), .int .i64 (.i 0), .int .i64 (.i 0), .int .i64 (.i 0), .int .i64 (.i 0), .int .i64 (.i 0), .int .i64 (.i 0), .int .i64 (.i 0), .int .i64 (.i 0), .int .i64 (.i 0), .int .i64 (.i 0), .int .i64 (.i 0), .int .i64 (.i 0), .int .i64 (.i 0), .int .i64 (.i 0), .int .i64 (.i 0), .int .i64 (.i 0), .int .i64 (.i 0), .int .i64 (.i 0), .int .i64 (.i 0), .int .i64 (.i 0), .int .i64 (.i 0), .int .i64 (.i 0), .int .i64 (.i 0)] 147)], .p [(.b (.v 4), .cells [.int .i64 (.i 0), .int .i64 (.i 0), .int .i64 (.i 0), .int .i64 (.i 0), .int .i64 (.i 0), .int .i64 (.i 0), .int .i64 (.i 0), .int .i64 (.i 0), .int .i64 (.i 0), .int .i64 (.i 0), .int .i64 (.i 0), .int .i64 (.i 0), .int .i64 (.i 0), .int .i64 (.i 0), .int .i64 (.i 0), .int .i64 (.i 0), .int .i64 (.i 0), .int .i64 (.i 0), .int .i64 (.i 0), .int .i64 (.i 0), .int .i64 (.i 0), .int .i64 (.i 0), .int .i64 (.i 0), .int .i64 (.i 0), .int .i64 (.i 0), .int .i64 (.i 0), .int .i64 (.i 0), .int .i64 (.i 0), .int .i64 (.i 0), .int .i64 (.i 0), .int .i64 (.i 0), .int .i64 (.i 0), .int .i64 (.i 0), .int .i64 (.i 0), .int .i64 (.i 0), .int .i64 (.i 0), .int .i64 (.i 0), .int .i64 (.i 0), .int .i64 (.i 0), .int .i64 (.i 0), .int .i64 (.i 0), .int .i64 (.i 0), .int .i64 (.i 0), .int .i64 (.i 0), .int .i64 (.i 0), .int .i64 (.i 0), .int .i64 (.i 0), .int .i64 (.i 0), .int .i64 (.i 0), .int .i64 (.i 0), .int .i64 (.i 0), .int .i64 (.i 0), .int .i64 (.i 0), .int .i64 (.i 0), .int .i64 (.i 0), .int .i64 (.i 0), .int .i64 (.i 0), .int .i64 (.i 0), .int .i64 (.i 0), .int .i64 (.i 0), .int .i64 (.i 0), .int .i64 (.i 0), .int .i64 (.i 0), .int .i64 (.i 0)] 147)]]
(.br (.o2 .lt (.v 7) (.o1 .ofNat (.v 1)))
(.need (.o2 .le (.i 0) (.v 7))
(.need (.o1 .isSome (.v 0))
(.read (.load 43 (.tmp 26)) 43 [(26, .w (.a (.eptr 0 (.v 7) 5 0)))] [(.a 0, .prop 3)] [.i, .i, .i, .a, .n, .n, .a, .n, .n] (.w (.agg [.int .i64 (.v 10), .int .i64 (.v 11), .int .i64 (.v 12), .sl (.v 13) (.v 14) (.v 15), .sl (.v 16) (.v 17) (.v 18)]))
(.new
(.join [.c]
(.br (.o2 .lt (.v 10) (.i 0))
(.again 0 [.e (.o1 .not (.o1 .not (.c true)))])
(.br (.o2 .lt (.i 63) (.v 10))
(.again 0 [.e (.o1 .not (.o1 .not (.c true)))])
(.br (.o2 .lt (.i 0) (.v 7))
(.need (.o1 (.inr .i64) (.o2 .sub (.v 7) (.i 1)))
(.need (.o2 .le (.i 0) (.o2 .sub (.v 7) (.i 1)))
(.need (.o2 .lt (.o2 .sub (.v 7) (.i 1)) (.o1 .ofNat (.v 1)))
(.read (.load 3 (.tmp 44)) 3 [(44, .w (.a (.eptr 0 (.o2 .sub (.v 7) (.i 1)) 5 0)))] [(.a 0, .prop 3)] [.i] (.w (.a (.int .i64 (.v 20))))
(.again 0 [.e (.o1 .not (.o1 .not (.o2 .le (.v 10) (.v 20))))])))))
(.again 0 [.e (.o1 .not (.o1 .not (.c false)))]))))
(.br (.v 20)
(.ret (.w (.a (.bool (.c false)))) [(.a 0, .prop 3)])
(.br (.o2 .eq (.v 11) (.i 2))
(.br (.o2 .lt (.i 0) (.o1 .ofNat (.v 17)))
(.ret (.w (.a (.bool (.c false)))) [(.a 0, .prop 3)])
(.br (.o2 .lt (.i 512) (.o1 .ofNat (.v 14)))
(.ret (.w (.a (.bool (.c false)))) [(.a 0, .prop 3)])
(.br (.o2 .lt (.v 12) (.i 1))
(.ret (.w (.a (.bool (.c false)))) [(.a 0, .prop 3)])
(.read (.indexAddr 147 (.tmp 4) (.tmp 84)) 0 [(4, .w (.a (.ptr (.v 5) 0))), (84, .w (.a (.int .i64 (.v 10))))] [(.b (.v 5), .prop 8)] [.v] (.w (.a (.val 21)))
(.op (.store 3 (.tmp 87) (.tmp 86)) 0 [(87, .w (.a (.val 21))), (86, .w (.a (.int .i64 (.v 11))))] [(.b (.v 5), .prop 8)] [.p] (.tup []) [(.b (.v 5), .prop 22)]
(.loop [.c, .i, .p] [.e (.o1 .not (.o1 .not (.v 6))), .e (.o1 .neg (.o1 .neg (.i 0))), .p [(.b (.v 4), .prop 9)]]
(.br (.o2 .lt (.v 24) (.o1 .ofNat (.v 17)))
(.need (.o2 .le (.i 0) (.v 24))
(.need (.o1 .isSome (.v 16))
(.read (.load 140 (.tmp 98)) 140 [(98, .w (.a (.eptr 16 (.v 24) 2 0)))] [(.a 0, .prop 3)] [.s, .i] (.w (.agg [.str (.v 26), .int .i64 (.v 27)]))
(.new
(.join [.c]
(.call 78 [.a (.str (.v 26))] [] [.c] (.w (.a (.bool (.v 29)))) []
(.br (.o1 .not (.v 29))
(.again 0 [.e (.o1 .not (.o1 .not (.c true)))])
(.br (.o2 .lt (.i 0) (.v 24))
(.need (.o1 (.inr .i64) (.o2 .sub (.v 24) (.i 1)))
(.need (.o2 .le (.i 0) (.o2 .sub (.v 24) (.i 1)))
(.need (.o2 .lt (.o2 .sub (.v 24) (.i 1)) (.o1 .ofNat (.v 17)))
(.read (.load 9 (.tmp 113)) 9 [(113, .w (.a (.eptr 16 (.o2 .sub (.v 24) (.i 1)) 2 0)))] [(.a 0, .prop 3)] [.s] (.w (.a (.str (.v 30))))
(.read (.binOp .geq 9 (.tmp 114) (.tmp 116) 9) 4 [(114, .w (.a (.str (.v 30)))), (116, .w (.a (.str (.v 26))))] [] [.c] (.w (.a (.bool (.v 31))))
(.br (.v 31)
(.again 0 [.e (.o1 .not (.o1 .not (.c true)))])
(.br (.o2 .lt (.v 27) (.i 1))
(.again 0 [.e (.o1 .not (.o1 .not (.c true)))])
(.again 0 [.e (.o1 .not (.o1 .not (.o2 .lt (.i 63) (.v 27))))]))))))))
(.br (.o2 .lt (.v 27) (.i 1))
(.again 0 [.e (.o1 .not (.o1 .not (.c true)))])
(.again 0 [.e (.o1 .not (.o1 .not (.o2 .lt (.i 63) (.v 27))))])))))
(.br (.v 29)
(.ret (.w (.a (.bool (.c false)))) [(.a 0, .prop 3)])
(.read (.indexAddr 147 (.tmp 3) (.tmp 131)) 0 [(3, .w (.a (.ptr (.v 4) 0))), (131, .w (.a (.int .i64 (.v 27))))] [(.b (.v 4), .prop 25)] [.v] (.w (.a (.val 30)))
(.read (.load 3 (.tmp 132)) 3 [(132, .w (.a (.val 30)))] [(.b (.v 4), .prop 25)] [.i] (.w (.a (.int .i64 (.v 31))))
(.need (.o1 (.inr .i64) (.o2 .add (.v 31) (.i 1)))
(.read (.indexAddr 147 (.tmp 3) (.tmp 131)) 0 [(3, .w (.a (.ptr (.v 4) 0))), (131, .w (.a (.int .i64 (.v 27))))] [(.b (.v 4), .prop 25)] [.v] (.w (.a (.val 32)))
(.op (.store 3 (.tmp 135) (.tmp 134)) 0 [(135, .w (.a (.val 32))), (134, .w (.a (.int .i64 (.o2 .add (.v 31) (.i 1)))))] [(.b (.v 4), .prop 25)] [.p] (.tup []) [(.b (.v 4), .prop 33)]
(.need (.o1 (.inr .i64) (.o2 .add (.v 24) (.i 1)))
(.again 0 [.e (.o1 .not (.o1 .not (.v 23))), .e (.o1 .neg (.o1 .neg (.o2 .add (.v 24) (.i 1)))), .p [(.b (.v 4), .prop 33)]])))))))))))))
(.need (.o1 (.inr .i64) (.o2 .add (.v 7) (.i 1)))
(.again 1 [.e (.o1 .not (.o1 .not (.v 23))), .e (.o1 .neg (.o1 .neg (.o2 .add (.v 7) (.i 1)))), .p [(.b (.v 5), .prop 22)], .p [(.b (.v 4), .prop 25)]])))))))))
(.br (.o1 .not (.o2 .eq (.v 11) (.i 1)))
(.ret (.w (.a (.bool (.c false)))) [(.a 0, .prop 3)])
(.br (.o1 .not (.o2 .eq (.v 12) (.i 1)))
(.ret (.w (.a (.bool (.c false)))) [(.a 0, .prop 3)])
(.br (.o2 .lt (.i 0) (.o1 .ofNat (.v 14)))
(.ret (.w (.a (.bool (.c false)))) [(.a 0, .prop 3)])
(.read (.indexAddr 147 (.tmp 4) (.tmp 84)) 0 [(4, .w (.a (.ptr (.v 5) 0))), (84, .w (.a (.int .i64 (.v 10))))] [(.b (.v 5), .prop 8)] [.v] (.w (.a (.val 21)))
(.op (.store 3 (.tmp 87) (.tmp 86)) 0 [(87, .w (.a (.val 21))), (86, .w (.a (.int .i64 (.v 11))))] [(.b (.v 5), .prop 8)] [.p] (.tup []) [(.b (.v 5), .prop 22)]
(.loop [.c, .i, .p] [.e (.o1 .not (.o1 .not (.v 6))), .e (.o1 .neg (.o1 .neg (.i 0))), .p [(.b (.v 4), .prop 9)]]
(.br (.o2 .lt (.v 24) (.o1 .ofNat (.v 17)))
(.need (.o2 .le (.i 0) (.v 24))
(.need (.o1 .isSome (.v 16))
(.read (.load 140 (.tmp 98)) 140 [(98, .w (.a (.eptr 16 (.v 24) 2 0)))] [(.a 0, .prop 3)] [.s, .i] (.w (.agg [.str (.v 26), .int .i64 (.v 27)]))
(.new
(.join [.c]
(.call 78 [.a (.str (.v 26))] [] [.c] (.w (.a (.bool (.v 29)))) []
(.br (.o1 .not (.v 29))
(.again 0 [.e (.o1 .not (.o1 .not (.c true)))])
(.br (.o2 .lt (.i 0) (.v 24))
(.need (.o1 (.inr .i64) (.o2 .sub (.v 24) (.i 1)))
(.need (.o2 .le (.i 0) (.o2 .sub (.v 24) (.i 1)))
(.need (.o2 .lt (.o2 .sub (.v 24) (.i 1)) (.o1 .ofNat (.v 17)))
(.read (.load 9 (.tmp 113)) 9 [(113, .w (.a (.eptr 16 (.o2 .sub (.v 24) (.i 1)) 2 0)))] [(.a 0, .prop 3)] [.s] (.w (.a (.str (.v 30))))
(.read (.binOp .geq 9 (.tmp 114) (.tmp 116) 9) 4 [(114, .w (.a (.str (.v 30)))), (116, .w (.a (.str (.v 26))))] [] [.c] (.w (.a (.bool (.v 31))))
(.br (.v 31)
(.again 0 [.e (.o1 .not (.o1 .not (.c true)))])
(.br (.o2 .lt (.v 27) (.i 1))
(.again 0 [.e (.o1 .not (.o1 .not (.c true)))])
(.again 0 [.e (.o1 .not (.o1 .not (.o2 .lt (.i 63) (.v 27))))]))))))))
(.br (.o2 .lt (.v 27) (.i 1))
(.again 0 [.e (.o1 .not (.o1 .not (.c true)))])
(.again 0 [.e (.o1 .not (.o1 .not (.o2 .lt (.i 63) (.v 27))))])))))
(.br (.v 29)
(.ret (.w (.a (.bool (.c false)))) [(.a 0, .prop 3)])
(.read (.indexAddr 147 (.tmp 3) (.tmp 131)) 0 [(3, .w (.a (.ptr (.v 4) 0))), (131, .w (.a (.int .i64 (.v 27))))] [(.b (.v 4), .prop 25)] [.v] (.w (.a (.val 30)))
(.read (.load 3 (.tmp 132)) 3 [(132, .w (.a (.val 30)))] [(.b (.v 4), .prop 25)] [.i] (.w (.a (.int .i64 (.v 31))))
(.need (.o1 (.inr .i64) (.o2 .add (.v 31) (.i 1)))
(.read (.indexAddr 147 (.tmp 3) (.tmp 131)) 0 [(3, .w (.a (.ptr (.v 4) 0))), (131, .w (.a (.int .i64 (.v 27))))] [(.b (.v 4), .prop 25)] [.v] (.w (.a (.val 32)))
(.op (.store 3 (.tmp 135) (.tmp 134)) 0 [(135, .w (.a (.val 32))), (134, .w (.a (.int .i64 (.o2 .add (.v 31) (.i 1)))))] [(.b (.v 4), .prop 25)] [.p] (.tup []) [(.b (.v 4), .prop 33)]
(.need (.o1 (.inr .i64) (.o2 .add (.v 24) (.i 1)))
(.again 0 [.e (.o1 .not (.o1 .not (.v 23))), .e (.o1 .neg (.o1 .neg (.o2 .add (.v 24) (.i 1)))), .p [(.b (.v 4), .prop 33)]])))))))))))))
(.need (.o1 (.inr .i64) (.o2 .add (.v 7) (.i 1)))
(.again 1 [.e (.o1 .not (.o1 .not (.v 23))), .e (.o1 .neg (.o1 .neg (.o2 .add (.v 7) (.i 1)))), .p [(.b (.v 5), .prop 22)], .p [(.b (.v 4), .prop 25)]]))))))))))))))))
(.read (.load 3 (.tmp 136)) 3 [(136, .w (.a (.ptr (.v 5) 0)))] [(.b (.v 5), .prop 8)] [.i] (.w (.a (.int .i64 (.v 10))))
(.br (.o1 .not (.o2 .eq (.v 10) (.i 1)))
(.ret (.w (.a (.bool (.c false)))) [(.a 0, .prop 3)])
(.loop [.c, .i] [.e (.o1 .not (.o1 .not (.v 6))), .e (.o1 .neg (.o1 .neg (.i 0)))]
(.br (.o2 .lt (.v 12) (.o1 .ofNat (.v 1)))
(.join [.c]
(.need (.o2 .le (.i 0) (.v 12))
(.need (.o1 .isSome (.v 0))
(.read (.load 3 (.tmp 148)) 3 [(148, .w (.a (.eptr 0 (.v 12) 5 0)))] [(.a 0, .prop 3)] [.i] (.w (.a (.int .i64 (.v 13))))
(.br (.o2 .lt (.i 0) (.v 13))
(.read (.load 3 (.tmp 155)) 3 [(155, .w (.a (.eptr 0 (.v 12) 5 0)))] [(.a 0, .prop 3)] [.i] (.w (.a (.int .i64 (.v 14))))
(.read (.indexAddr 147 (.tmp 3) (.tmp 156)) 0 [(3, .w (.a (.ptr (.v 4) 0))), (156, .w (.a (.int .i64 (.v 14))))] [(.b (.v 4), .prop 9)] [.v] (.w (.a (.val 15)))
(.read (.load 3 (.tmp 157)) 3 [(157, .w (.a (.val 15)))] [(.b (.v 4), .prop 9)] [.i] (.w (.a (.int .i64 (.v 16))))
(.read (.load 3 (.tmp 162)) 3 [(162, .w (.a (.eptr 0 (.v 12) 5 2)))] [(.a 0, .prop 3)] [.i] (.w (.a (.int .i64 (.v 17))))
(.again 0 [.e (.o1 .not (.o1 .not (.o1 .not (.o2 .eq (.v 16) (.v 17)))))])))))
(.again 0 [.e (.o1 .not (.o1 .not (.c false)))])))))
(.br (.v 13)
(.ret (.w (.a (.bool (.c false)))) [(.a 0, .prop 3)])
(.need (.o1 (.inr .i64) (.o2 .add (.v 12) (.i 1)))
(.again 0 [.e (.o1 .not (.o1 .not (.v 11))), .e (.o1 .neg (.o1 .neg (.o2 .add (.v 12) (.i 1))))]))))
(.loop [.c, .i] [.e (.o1 .not (.o1 .not (.v 11))), .e (.o1 .neg (.o1 .neg (.i 0)))]
(.br (.o2 .lt (.v 14) (.i 64))
(.read (.indexAddr 147 (.tmp 3) (.tmp 170)) 0 [(3, .w (.a (.ptr (.v 4) 0))), (170, .w (.a (.int .i64 (.v 14))))] [(.b (.v 4), .prop 9)] [.v] (.w (.a (.val 15)))
(.read (.load 3 (.tmp 171)) 3 [(171, .w (.a (.val 15)))] [(.b (.v 4), .prop 9)] [.i] (.w (.a (.int .i64 (.v 16))))
(.br (.o2 .lt (.i 0) (.v 16))
(.read (.indexAddr 147 (.tmp 4) (.tmp 175)) 0 [(4, .w (.a (.ptr (.v 5) 0))), (175, .w (.a (.int .i64 (.v 14))))] [(.b (.v 5), .prop 8)] [.v] (.w (.a (.val 17)))
(.read (.load 3 (.tmp 176)) 3 [(176, .w (.a (.val 17)))] [(.b (.v 5), .prop 8)] [.i] (.w (.a (.int .i64 (.v 18))))
(.br (.o2 .eq (.v 18) (.i 0))
(.ret (.w (.a (.bool (.c false)))) [(.a 0, .prop 3)])
(.need (.o1 (.inr .i64) (.o2 .add (.v 14) (.i 1)))
(.again 0 [.e (.o1 .not (.o1 .not (.v 13))), .e (.o1 .neg (.o1 .neg (.o2 .add (.v 14) (.i 1))))])))))
(.need (.o1 (.inr .i64) (.o2 .add (.v 14) (.i 1)))
(.again 0 [.e (.o1 .not (.o1 .not (.v 13))), .e (.o1 .neg (.o1 .neg (.o2 .add (.v 14) (.i 1))))])))))
(.new
(.loop [.i, .p] [.e (.o1 .neg (.o1 .neg (.i 0))), .p [(.b (.v 15), .cells [.bool (.c true), .bool (.c false), .bool (.c false), .bool (.c false), .bool (.c false), .bool (.c false), .bool (.c false), .bool (.c false), .bool (.c false), .bool (.c false), .bool (.c false), .bool (.c false), .bool (.c false), .bool (.c false), .bool (.c false), .bool (.c false), .bool (.c false), .bool (.c false), .bool (.c false), .bool (.c false), .bool (.c false), .bool (.c false), .bool (.c false), .bool (.c false), .bool (.c false), .bool (.c false), .bool (.c false), .bool (.c false), .bool (.c false), .bool (.c false), .bool (.c false), .bool (.c false), .bool (.c false), .bool (.c false), .bool (.c false), .bool (.c false), .bool (.c false), .bool (.c false), .bool (.c false), .bool (.c false), .bool (.c false), .bool (.c false), .bool (.c false), .bool (.c false), .bool (.c false), .bool (.c false), .bool (.c false), .bool (.c false), .bool (.c false), .bool (.c false), .bool (.c false), .bool (.c false), .bool (.c false), .bool (.c false), .bool (.c false), .bool (.c false), .bool (.c false), .bool (.c false), .bool (.c false), .bool (.c false), .bool (.c false), .bool (.c false), .bool (.c false), .bool (.c false)] 149)]]
(.br (.o2 .lt (.v 16) (.o1 .ofNat (.v 1)))
(.loop [.i, .p] [.e (.o1 .neg (.o1 .neg (.i 0))), .p [(.b (.v 15), .prop 17)]]
(.br (.o2 .lt (.v 18) (.o1 .ofNat (.v 1)))
(.loop [.i, .p] [.e (.o1 .neg (.o1 .neg (.i 0))), .p [(.b (.v 15), .prop 19)]]
(.need (.o2 .le (.i 0) (.v 18))
(.need (.o1 .isSome (.v 0))
(.read (.load 41 (.tmp 198)) 41 [(198, .w (.a (.eptr 0 (.v 18) 5 4)))] [(.a 0, .prop 3)] [.a, .n, .n] (.w (.a (.sl (.v 22) (.v 23) (.v 24))))
(.br (.o2 .lt (.v 20) (.o1 .ofNat (.v 23)))
(.read (.load 3 (.tmp 207)) 3 [(207, .w (.a (.eptr 0 (.v 18) 5 0)))] [(.a 0, .prop 3)] [.i] (.w (.a (.int .i64 (.v 25))))
(.read (.indexAddr 149 (.tmp 11) (.tmp 208)) 0 [(11, .w (.a (.ptr (.v 15) 0))), (208, .w (.a (.int .i64 (.v 25))))] [(.b (.v 15), .prop 21)] [.v] (.w (.a (.val 26)))
(.read (.load 4 (.tmp 209)) 4 [(209, .w (.a (.val 26)))] [(.b (.v 15), .prop 21)] [.c] (.w (.a (.bool (.v 27))))
(.br (.v 27)
(.read (.load 41 (.tmp 214)) 41 [(214, .w (.a (.eptr 0 (.v 18) 5 4)))] [(.a 0, .prop 3)] [.a, .n, .n] (.w (.a (.sl (.v 28) (.v 29) (.v 30))))
(.need (.o2 .le (.i 0) (.v 20))
(.need (.o2 .lt (.v 20) (.o1 .ofNat (.v 29)))
(.need (.o1 .isSome (.v 28))
(.read (.load 3 (.tmp 218)) 3 [(218, .w (.a (.eptr 28 (.v 20) 2 1)))] [(.a 0, .prop 3)] [.i] (.w (.a (.int .i64 (.v 31))))
(.read (.indexAddr 149 (.tmp 11) (.tmp 219)) 0 [(11, .w (.a (.ptr (.v 15) 0))), (219, .w (.a (.int .i64 (.v 31))))] [(.b (.v 15), .prop 21)] [.v] (.w (.a (.val 32)))
(.op (.store 4 (.tmp 220) (.const (.bool true))) 0 [(220, .w (.a (.val 32)))] [(.b (.v 15), .prop 21)] [.p] (.tup []) [(.b (.v 15), .prop 33)]
(.need (.o1 (.inr .i64) (.o2 .add (.v 20) (.i 1)))
(.again 0 [.e (.o1 .neg (.o1 .neg (.o2 .add (.v 20) (.i 1)))), .p [(.b (.v 15), .prop 33)]])))))))))
(.need (.o1 (.inr .i64) (.o2 .add (.v 20) (.i 1)))
(.again 0 [.e (.o1 .neg (.o1 .neg (.o2 .add (.v 20) (.i 1)))), .p [(.b (.v 15), .prop 21)]]))))))
(.need (.o1 (.inr .i64) (.o2 .add (.v 18) (.i 1)))
(.again 1 [.e (.o1 .neg (.o1 .neg (.o2 .add (.v 18) (.i 1)))), .p [(.b (.v 15), .prop 21)]])))))))
(.need (.o1 (.inr .i64) (.o2 .add (.v 16) (.i 1)))
(.again 1 [.e (.o1 .neg (.o1 .neg (.o2 .add (.v 16) (.i 1)))), .p [(.b (.v 15), .prop 19)]]))))
(.loop [.c, .i] [.e (.o1 .not (.o1 .not (.v 13))), .e (.o1 .neg (.o1 .neg (.i 0)))]
(.br (.o2 .lt (.v 19) (.o1 .ofNat (.v 1)))
(.need (.o2 .le (.i 0) (.v 19))
(.need (.o1 .isSome (.v 0))
(.read (.load 3 (.tmp 230)) 3 [(230, .w (.a (.eptr 0 (.v 19) 5 0)))] [(.a 0, .prop 3)] [.i] (.w (.a (.int .i64 (.v 20))))
(.read (.indexAddr 149 (.tmp 11) (.tmp 231)) 0 [(11, .w (.a (.ptr (.v 15) 0))), (231, .w (.a (.int .i64 (.v 20))))] [(.b (.v 15), .prop 17)] [.v] (.w (.a (.val 21)))
(.read (.load 4 (.tmp 232)) 4 [(232, .w (.a (.val 21)))] [(.b (.v 15), .prop 17)] [.c] (.w (.a (.bool (.v 22))))
(.br (.o1 .not (.v 22))
(.ret (.w (.a (.bool (.c false)))) [(.a 0, .prop 3)])
(.need (.o1 (.inr .i64) (.o2 .add (.v 19) (.i 1)))
(.again 0 [.e (.o1 .not (.o1 .not (.v 18))), .e (.o1 .neg (.o1 .neg (.o2 .add (.v 19) (.i 1))))]))))))))
(.ret (.w (.a (.bool (.c true)))) [(.a 0, .prop 3)]))))))))))))))))
theorem tree_right04 : tree Tryz.prog { absT := [147, 149, 3, 4], hv := [(0, [.b (.v 5), .b (.v 4)]), (2, [.b (.v 4)]), (8, [.b (.v 15)]), (10, [.b (.v 15)]), (12, [.b (.v 15)])], keep := [30, 76, 78], rdf := true, jn := [((28, 20), some { ss := [.c], n := 21, tv := [(28, none), (29, none), (30, none), (31, none), (32, none), (33, none), (34, none), (35, none), (36, none), (37, none), (38, none), (39, none), (40, none), (41, none), (42, none), (43, none), (44, none), (45, none), (46, none), (47, none), (48, none), (49, none), (50, some (.w (.a (.bool (.v 20)))))], h := [(.b (.v 19), .cells [.int .i64 (.v 10), .int .i64 (.v 11), .int .i64 (.v 12), .sl (.v 13) (.v 14) (.v 15), .sl (.v 16) (.v 17) (.v 18)] 43), (.b (.v 5), .prop 8), (.b (.v 4), .prop 9), (.a 0, .prop 3)], lk := [] }), ((100, 29), some { ss := [.c], n := 30, tv := [(100, none), (101, none), (102, none), (103, none), (104, none), (105, none), (106, none), (107, none), (108, none), (109, none), (110, none), (111, none), (112, none), (113, none), (114, none), (115, none), (116, none), (117, none), (118, none), (119, none), (120, none), (121, none), (122, none), (123, none), (124, none), (125, none), (126, none), (127, none), (128, none), (129, some (.w (.a (.bool (.v 29)))))], h := [(.b (.v 28), .cells [.str (.v 26), .int .i64 (.v 27)] 140), (.b (.v 5), .prop 22), (.b (.v 19), .cells [.int .i64 (.v 10), .int .i64 (.v 11), .int .i64 (.v 12), .sl (.v 13) (.v 14) (.v 15), .sl (.v 16) (.v 17) (.v 18)] 43), (.b (.v 4), .prop 25), (.a 0, .prop 3)], lk := [] }), ((145, 13), some { ss := [.c], n := 14, tv := [(145, none), (146, none), (147, none), (148, none), (149, none), (150, none), (151, none), (152, none), (153, none), (154, none), (155, none), (156, none), (157, none), (158, none), (159, none), (160, none), (161, none), (162, none), (163, none), (164, none), (165, some (.w (.a (.bool (.v 13)))))], h := [(.b (.v 5), .prop 8), (.b (.v 4), .prop 9), (.a 0, .prop 3)], lk := [] })] } Tryz.f26 [.a (.sl (.v 0) (.v 1) (.v 2))] [(.a 0, .prop 3)] 4 = t_right04 := by kernel_rfl
end Go.Proofs.YtdieogcemmnaaaaGreatDoor.RX

