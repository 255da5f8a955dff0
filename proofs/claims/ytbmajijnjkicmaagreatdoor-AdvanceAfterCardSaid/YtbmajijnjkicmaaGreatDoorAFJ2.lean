/- Texts of this claim, joined. No condition. -/
import Derived.Test.YtbmajijnjkicmaaGreatDoorAFJ1
import Derived.KernelRfl
set_option linter.unusedSimpArgs false
set_option linter.unusedVariables false

namespace Go.Proofs.YtbmajijnjkicmaaGreatDoor
set_option linter.unusedSimpArgs false
set_option linter.unusedVariables false
open Go.Proofs.YtbmajijnjkicmaaGreatDoor RX

def RRep (b : Nat) (s : List UInt8 × Bool) : HP := HP.ex fun a => HP.ex fun c => HP.and (s.1.length ≤ c ∧ s.1.length ≤ 140737488355328) (HP.sep (HP.one b (.cells #[.slice a s.1.length c, .bool s.2] 179)) (RoB a s.1.length s.1))
theorem rFail_ok (b : Nat) (s : List UInt8 × Bool) : Tri Tryz.prog 143 #[.pointer (some ⟨b, 0, none⟩)] (RRep b s) (fun v => HP.and (v = .tuple #[]) (RRep b ([], true))) := by
  refine Tri.ex fun a => Tri.ex fun c => Tri.pure fun _ => ?_
  refine tri_of_tree (ρ := [.n b, .a a, .n s.1.length, .n c, .p (RoB a s.1.length s.1), .c s.2]) mixed Tryz.func143 tree_rFail ?_
  unfold t_rFail
  simp only [T.den, E.prop, E.den, RX.look, F1.app, F2.app, Uni.int_i, Uni.nat_n, Uni.bool_c, Uni.str_s, Uni.adr_a, Uni.val_v, Uni.hp_p, hden, cden, V.den, W.den, A.den, BR.den, SA.den, FV.den, capV, exs, exP, allP, Cur.app, List.map_cons, List.map_nil, List.cons_append, List.nil_append, List.drop_succ_cons, List.drop_zero, List.length_cons, List.length_nil, Nat.zero_add, Nat.reduceAdd, Int.neg_neg, Bool.not_not, List.append_nil, Nat.add_zero, List.getElem?_cons_zero, List.getElem?_cons_succ, Decidable.not_not]
  exact .of fun R h H => ⟨trivial, none, 0, ⟨by simp, by simp⟩, HP.sep_mono H (fun _ h => h) fun _ _ => RoC.nil _ _ _ _⟩
def takeR (s : List UInt8 × Bool) (n : Nat) : List UInt8 × (List UInt8 × Bool) := if s.2 then ([], s) else if s.1.length < n then ([], ([], true)) else (s.1.take n, (s.1.drop n, false))
theorem sz8 : szT Tryz.prog 5 = 1 := by kernel_rfl
theorem rTake_ok (b : Nat) (s : List UInt8 × Bool) (n : Nat) : Tri Tryz.prog 131 #[.pointer (some ⟨b, 0, none⟩), .int .i64 n] (RRep b s)
    (fun v => HP.ex fun a => HP.ex fun c => HP.and (v = .slice a (takeR s n).1.length c) (HP.sep (RoB a (takeR s n).1.length (takeR s n).1) (RRep b (takeR s n).2))) := by
  obtain ⟨l, wr⟩ := s
  refine Tri.ex fun a => Tri.ex fun c => Tri.pure fun hc => ?_
  simp only at hc
  refine tri_of_tree (ρ := [.n b, .a a, .n l.length, .n c, .p (RoB a l.length l), .c wr, .i n]) mixed Tryz.func131 tree_rTake ?_
  unfold t_rTake
  simp only [T.den, E.prop, E.den, RX.look, F1.app, F2.app, Uni.int_i, Uni.nat_n, Uni.bool_c, Uni.str_s, Uni.adr_a, Uni.val_v, Uni.hp_p, hden, cden, V.den, W.den, A.den, BR.den, SA.den, FV.den, capV, exs, exP, allP, Cur.app, List.map_cons, List.map_nil, List.cons_append, List.nil_append, List.drop_succ_cons, List.drop_zero, List.length_cons, List.length_nil, Nat.zero_add, Nat.reduceAdd, Int.neg_neg, Bool.not_not, List.append_nil, Nat.add_zero, List.getElem?_cons_zero, List.getElem?_cons_succ, Decidable.not_not]
  refine ⟨fun h1 => .of fun R h H => ?_, fun h1 => ⟨fun h2 => ?_, fun h2 => ?_⟩⟩
  · subst h1
    simp only [takeR, if_true]
    exact ⟨none, 0, rfl, RoC.join (RoC.nil _ _ R h) ⟨a, c, hc, H⟩⟩
  · have e : takeR (l, wr) n = ([], ([], true)) := by simp only [takeR]; rw [if_neg h1, if_pos (by omega)]
    rw [e]
    refine (rFail_ok b (l, wr)).weak (fun R h H => ⟨a, c, hc, H⟩) ?_
    rintro v R h ⟨rfl, a', c', hc', H⟩
    refine ⟨a', _, c', RoB a' 0 [], true, rfl, .of fun R h H => ⟨none, 0, rfl, RoC.join (RoC.nil _ _ R h) ⟨a', c', hc', H⟩⟩, H⟩
  · have hn : n ≤ l.length := by omega
    have hw : wr = false := by simpa using h1
    have e : takeR (l, wr) n = (l.take n, (l.drop n, false)) := by simp only [takeR]; rw [if_neg h1, if_neg (by omega)]
    rw [e]
    obtain ⟨i, hi, _⟩ := info_parts info8
    have s1 := slice_ok und8 hi (RoB a l.length l) a l.length c (some 0) (some n) (some n) (Nat.zero_le _) (Nat.le_refl _) (by simp; omega) (fun _ => rfl)
    have s2 := slice_ok und8 hi (RoB a l.length l) a l.length c (some n) none none hn hc.1 (Nat.le_refl _) (fun h => by cases h)
    refine ⟨_, _, _, s1, _, _, _, s2, ?_⟩
    simp only [Option.getD_some, Option.getD_none, Nat.sub_zero, sz8, Nat.mul_one, Nat.zero_mul]
    refine .of fun R h H => ?_
    have hro := HP.sep_right H
    have r1 := RoC.sub hro 0 n n (Nat.zero_le _) hn (Nat.le_refl _)
    have r2 := RoC.sub hro n l.length c hn (Nat.le_refl _) hc.1
    simp only [Nat.sub_zero, Nat.mul_one, Nat.zero_mul, List.drop_zero, ← List.map_take, ← List.map_drop] at r1 r2
    rw [List.take_of_length_le (by simp)] at r2
    have e1 : (l.take n).length = n := by simp [hn]
    have e2 : (l.drop n).length = l.length - n := by simp
    rw [← e2] at r2
    refine ⟨if n = 0 then a else Option.map (fun x => x.add 0) a, n, by rw [e1], ?_⟩
    rw [e1]
    refine RoC.join r1 ⟨_, c - n, ⟨by simp only [e2]; omega, by simp only [e2]; omega⟩, RoC.joinR r2 ?_⟩
    have := HP.sep_left H
    simp only [e2]
    rw [hw] at this
    exact this

def beV (l : List UInt8) : Nat := l.foldl (fun v b => v * 256 + b.toNat) 0
theorem beV_snoc (l : List UInt8) (b : UInt8) : beV (l ++ [b]) = beV l * 256 + b.toNat := by simp [beV]
theorem beV_lt (l : List UInt8) : beV l < 256 ^ l.length := by
  have key : ∀ (l : List UInt8) (v : Nat), l.foldl (fun v (b : UInt8) => v * 256 + b.toNat) v < (v + 1) * 256 ^ l.length := by
    intro l
    induction l with
    | nil => intro v; simp
    | cons b r ih =>
      intro v
      have hb := b.toNat_lt
      have h1 := ih (v * 256 + b.toNat)
      have h2 : (v * 256 + b.toNat + 1) * 256 ^ r.length ≤ (v + 1) * 256 * 256 ^ r.length := Nat.mul_le_mul_right _ (by omega)
      simp only [List.foldl_cons, List.length_cons, Nat.pow_succ]
      rw [Nat.mul_comm (256 ^ r.length) 256, ← Nat.mul_assoc]
      omega
  simpa [beV] using key l 0
def numR (s : List UInt8 × Bool) (n : Nat) : Nat × (List UInt8 × Bool) := (beV (takeR s n).1, (takeR s n).2)
theorem takeR_len (s : List UInt8 × Bool) (n : Nat) : (takeR s n).1.length ≤ n := by
  unfold takeR; split
  · simp
  · split <;> simp; omega
theorem or_step (v : Nat) (b : UInt8) (hv : v < 2 ^ 56) : bits .or .u64 (IntKind.u64.wrap ((v : Int) * 2 ^ (min (8 : Int).toNat IntKind.u64.bits))) (b.toNat : Int) = ((v * 256 + b.toNat : Nat) : Int) := by
  have hb := b.toNat_lt
  have e1 : IntKind.u64.wrap ((v : Int) * 2 ^ (min (8 : Int).toNat IntKind.u64.bits)) = ((v * 256 : Nat) : Int) := by
    have : (v : Int) * 2 ^ (min (8 : Int).toNat IntKind.u64.bits) = ((v * 256 : Nat) : Int) := by
      simp [IntKind.bits]
    rw [this]
    exact wrap_in ⟨by simp [IntKind.min, IntKind.signed]; omega, by simp [IntKind.max, IntKind.signed, IntKind.bits]; omega⟩
  rw [e1]
  have e2 : (v * 256 ||| b.toNat) = v * 256 + b.toNat := by
    have := Nat.shiftLeft_add_eq_or_of_lt (a := v) (b := b.toNat) (i := 8) (by omega)
    rw [Nat.shiftLeft_eq] at this
    exact this.symm
  show IntKind.u64.wrap ((BitVec.ofInt 64 ((v * 256 : Nat) : Int) ||| BitVec.ofInt 64 (b.toNat : Int)).toNat : Int) = _
  rw [BitVec.ofInt_natCast, BitVec.ofInt_natCast, BitVec.toNat_or, BitVec.toNat_ofNat, BitVec.toNat_ofNat, Nat.mod_eq_of_lt (by omega), Nat.mod_eq_of_lt (by omega), e2]
  exact wrap_in ⟨by simp [IntKind.min, IntKind.signed]; omega, by simp [IntKind.max, IntKind.signed, IntKind.bits]; omega⟩
theorem inI64 (x : Int) (h1 : -9223372036854775808 ≤ x) (h2 : x ≤ 9223372036854775807) : IntKind.i64.min ≤ x ∧ x ≤ IntKind.i64.max := by
  simp [IntKind.min, IntKind.max, IntKind.signed, IntKind.bits]; omega
theorem inU64 (x : Int) (h1 : 0 ≤ x) (h2 : x ≤ 18446744073709551615) : IntKind.u64.min ≤ x ∧ x ≤ IntKind.u64.max := by
  simp [IntKind.min, IntKind.max, IntKind.signed, IntKind.bits]; omega
theorem und8b : Tryz.prog.underlying 5 = some (.int .u8) := by kernel_rfl
theorem agg8 : aggT Tryz.prog 5 = false := by kernel_rfl
theorem rNumber_ok (b : Nat) (s : List UInt8 × Bool) (n : Nat) (hn : n ≤ 8) : Tri Tryz.prog 114 #[.pointer (some ⟨b, 0, none⟩), .int .i64 n] (RRep b s)
    (fun v => HP.and (v = .int .u64 ((numR s n).1 : Nat)) (RRep b (numR s n).2)) := by
  refine tri_of_tree (ρ := [.n b, .p (RRep b s), .i n]) mixed Tryz.func114 tree_rNumber ?_
  unfold t_rNumber
  simp only [T.den, E.prop, E.den, RX.look, F1.app, F2.app, Uni.int_i, Uni.nat_n, Uni.bool_c, Uni.str_s, Uni.adr_a, Uni.val_v, Uni.hp_p, hden, cden, V.den, W.den, A.den, BR.den, SA.den, FV.den, capV, exs, exP, allP, Cur.app, List.map_cons, List.map_nil, List.cons_append, List.nil_append, List.drop_succ_cons, List.drop_zero, List.length_cons, List.length_nil, Nat.zero_add, Nat.reduceAdd, Int.neg_neg, Bool.not_not, List.append_nil, Nat.add_zero, List.getElem?_cons_zero, List.getElem?_cons_succ, Decidable.not_not]
  refine (width_ok n HP.tt).weak (fun _ _ h => h) ?_
  rintro r R h ⟨rfl, H⟩
  refine ⟨min (max n 0) 8, rfl, ?_, H⟩
  rw [show min (max (n : Int) 0) 8 = n by omega]
  refine (rTake_ok b s n).weak (fun _ _ h => h) ?_
  rintro r R h ⟨a, c, rfl, H⟩
  have hlen := takeR_len s n
  have ha : 0 < (takeR s n).1.length → a.isSome = true := fun h => RoC.some (HP.sep_left H) h
  refine ⟨a, _, c, RoB a _ (takeR s n).1, RRep b (takeR s n).2, rfl, ?_, H⟩
  have hpow : 256 ^ (takeR s n).1.length ≤ 256 ^ 8 := Nat.pow_le_pow_right (by decide) (by omega)
  unfold numR
  generalize (takeR s n).1 = l at *
  generalize (takeR s n).2 = s' at *
  refine ⟨fun v i => ∃ k : Nat, i = k ∧ k ≤ l.length ∧ v = ((beV (l.take k) : Nat) : Int), fun v i => l.length - i.toNat, ⟨0, rfl, Nat.zero_le _, rfl⟩, ?_⟩
  rintro v i ⟨k, rfl, hk, rfl⟩
  refine ⟨fun hlt => ⟨by omega, fun _ => ?_⟩, fun hge => ?_⟩
  · have hlt' : k < l.length := by omega
    have hb8 := l[k].toNat_lt
    have hget : l[k]? = some l[k] := List.getElem?_eq_getElem hlt'
    have hk8 : beV (l.take k) < 2 ^ 56 := by
      have h1 := beV_lt (l.take k)
      rw [List.length_take, Nat.min_eq_left hk] at h1
      have h2 : 256 ^ k ≤ 256 ^ 7 := Nat.pow_le_pow_right (by decide) (by omega)
      have h3 : (256 : Nat) ^ 7 = 2 ^ 56 := by decide
      omega
    refine ⟨ha (by omega), fun _ => ⟨(l[k].toNat : Int), ?_, inU64 _ (by omega) (by omega), fun _ => ⟨inI64 _ (by omega) (by omega), fun _ => ⟨⟨k + 1, by omega, hlt', ?_⟩, by dsimp only; omega⟩⟩⟩⟩
    · exact load1_ok und8b agg8 sz8 (RoC.rd 1 a _ (l.map u8v)) (k := (k : Int).toNat * 1) (off := 0) (v := u8v l[k]) (by simp [hget])
    · rw [or_step _ _ hk8, List.take_succ_eq_append_getElem hlt', beV_snoc]
  · have : k = l.length := by omega
    subst this
    rw [List.take_length]
    exact .of fun R h H => ⟨rfl, H⟩
theorem wrap8 (v : Nat) : IntKind.u8.wrap (v : Int) = ((v % 256 : Nat) : Int) := by
  simp only [IntKind.wrap, IntKind.bits, IntKind.signed, Bool.false_and, Bool.false_eq_true, if_false]
  omega
theorem rByte_ok (b : Nat) (s : List UInt8 × Bool) : Tri Tryz.prog 82 #[.pointer (some ⟨b, 0, none⟩)] (RRep b s) (fun v => HP.and (v = .int .u8 (((numR s 1).1 % 256 : Nat) : Int)) (RRep b (numR s 1).2)) := by
  refine tri_of_tree (ρ := [.n b, .p (RRep b s)]) mixed Tryz.func82 tree_rByte ?_
  unfold t_rByte
  simp only [T.den, E.prop, E.den, RX.look, F1.app, F2.app, Uni.int_i, Uni.nat_n, Uni.bool_c, Uni.str_s, Uni.adr_a, Uni.val_v, Uni.hp_p, hden, cden, V.den, W.den, A.den, BR.den, SA.den, FV.den, capV, exs, exP, allP, Cur.app, List.map_cons, List.map_nil, List.cons_append, List.nil_append, List.drop_succ_cons, List.drop_zero, List.length_cons, List.length_nil, Nat.zero_add, Nat.reduceAdd, Int.neg_neg, Bool.not_not, List.append_nil, Nat.add_zero, List.getElem?_cons_zero, List.getElem?_cons_succ, Decidable.not_not]
  refine (rNumber_ok b s 1 (by omega)).weak (fun _ _ h => h) ?_
  rintro v R h ⟨rfl, H⟩
  exact ⟨_, _, rfl, .of fun R h H => ⟨by rw [wrap8], H⟩, H⟩
def intOf64 (v : Nat) : Int := IntKind.i64.wrap (v : Int)
theorem rInt_ok (b : Nat) (s : List UInt8 × Bool) : Tri Tryz.prog 83 #[.pointer (some ⟨b, 0, none⟩)] (RRep b s) (fun v => HP.and (v = .int .i64 (intOf64 (numR s 8).1)) (RRep b (numR s 8).2)) := by
  refine tri_of_tree (ρ := [.n b, .p (RRep b s)]) mixed Tryz.func83 tree_rInt ?_
  unfold t_rInt
  simp only [T.den, E.prop, E.den, RX.look, F1.app, F2.app, Uni.int_i, Uni.nat_n, Uni.bool_c, Uni.str_s, Uni.adr_a, Uni.val_v, Uni.hp_p, hden, cden, V.den, W.den, A.den, BR.den, SA.den, FV.den, capV, exs, exP, allP, Cur.app, List.map_cons, List.map_nil, List.cons_append, List.nil_append, List.drop_succ_cons, List.drop_zero, List.length_cons, List.length_nil, Nat.zero_add, Nat.reduceAdd, Int.neg_neg, Bool.not_not, List.append_nil, Nat.add_zero, List.getElem?_cons_zero, List.getElem?_cons_succ, Decidable.not_not]
  refine (rNumber_ok b s 8 (by omega)).weak (fun _ _ h => h) ?_
  rintro v R h ⟨rfl, H⟩
  exact ⟨_, _, rfl, .of fun R h H => ⟨rfl, H⟩, H⟩
def toldR (s : List UInt8 × Bool) (most : Int) : Nat × (List UInt8 × Bool) :=
  if (numR s 4).2.2 then (0, (numR s 4).2) else if most < (numR s 4).1 then (0, ([], true)) else ((numR s 4).1, (numR s 4).2)
theorem numR_lt (s : List UInt8 × Bool) (n : Nat) : (numR s n).1 < 256 ^ n :=
  Nat.lt_of_lt_of_le (beV_lt _) (Nat.pow_le_pow_right (by decide) (takeR_len s n))
theorem rTold_ok (b : Nat) (s : List UInt8 × Bool) (most : Int) : Tri Tryz.prog 132 #[.pointer (some ⟨b, 0, none⟩), .int .i64 most] (RRep b s) (fun v => HP.and (v = .int .i64 ((toldR s most).1 : Nat)) (RRep b (toldR s most).2)) := by
  have hlt := numR_lt s 4
  refine Tri.ex fun a => Tri.ex fun c => Tri.pure fun hc => ?_
  refine tri_of_tree (ρ := [.n b, .a a, .n s.1.length, .n c, .p (RoB a s.1.length s.1), .c s.2, .i most]) mixed Tryz.func132 tree_rTold ?_
  unfold t_rTold
  simp only [T.den, E.prop, E.den, RX.look, F1.app, F2.app, Uni.int_i, Uni.nat_n, Uni.bool_c, Uni.str_s, Uni.adr_a, Uni.val_v, Uni.hp_p, hden, cden, V.den, W.den, A.den, BR.den, SA.den, FV.den, capV, exs, exP, allP, Cur.app, List.map_cons, List.map_nil, List.cons_append, List.nil_append, List.drop_succ_cons, List.drop_zero, List.length_cons, List.length_nil, Nat.zero_add, Nat.reduceAdd, Int.neg_neg, Bool.not_not, List.append_nil, Nat.add_zero, List.getElem?_cons_zero, List.getElem?_cons_succ, Decidable.not_not]
  refine (rNumber_ok b s 4 (by omega)).weak (fun R h H => ⟨a, c, hc, H⟩) ?_
  rintro v R h ⟨rfl, a', c', hc', H⟩
  unfold toldR
  generalize (numR s 4).1 = x at *
  generalize (numR s 4).2 = s' at *
  obtain ⟨l', w'⟩ := s'
  refine ⟨_, a', _, c', RoB a' l'.length l', w', rfl, ?_, H⟩
  have e : IntKind.i64.wrap (x : Int) = x := wrap_in (inI64 _ (by omega) (by omega))
  rw [e]
  refine ⟨fun h1 => .of fun R h H => ?_, fun h1 => ⟨fun h2 => ?_, fun h2 => .of fun R h H => ?_⟩⟩
  · simp only [h1, if_true]
    subst h1
    exact ⟨rfl, a', c', hc', H⟩
  · rw [if_neg h1, if_pos h2]
    refine (rFail_ok b (l', w')).weak (fun R h H => ⟨a', c', hc', H⟩) ?_
    rintro v R h ⟨rfl, a2, c2, hc2, H⟩
    exact ⟨a2, _, c2, RoB a2 _ [], true, rfl, .of fun R h H => ⟨rfl, a2, c2, hc2, H⟩, H⟩
  · rw [if_neg h1, if_neg h2]
    exact ⟨rfl, a', c', hc', H⟩
def bytesR (s : List UInt8 × Bool) (most : Int) : List UInt8 × (List UInt8 × Bool) := takeR (toldR s most).2 (toldR s most).1
theorem rBytes_ok (b : Nat) (s : List UInt8 × Bool) (most : Int) : Tri Tryz.prog 84 #[.pointer (some ⟨b, 0, none⟩), .int .i64 most] (RRep b s)
    (fun v => HP.ex fun a => HP.ex fun c => HP.and (v = .slice a (bytesR s most).1.length c) (HP.sep (RRep b (bytesR s most).2) (OwB a (bytesR s most).1.length c (bytesR s most).1))) := by
  refine tri_of_tree (ρ := [.n b, .p (RRep b s), .i most]) mixed Tryz.func84 tree_rBytes ?_
  unfold t_rBytes
  simp only [T.den, E.prop, E.den, RX.look, F1.app, F2.app, Uni.int_i, Uni.nat_n, Uni.bool_c, Uni.str_s, Uni.adr_a, Uni.val_v, Uni.hp_p, hden, cden, V.den, W.den, A.den, BR.den, SA.den, FV.den, capV, exs, exP, allP, Cur.app, List.map_cons, List.map_nil, List.cons_append, List.nil_append, List.drop_succ_cons, List.drop_zero, List.length_cons, List.length_nil, Nat.zero_add, Nat.reduceAdd, Int.neg_neg, Bool.not_not, List.append_nil, Nat.add_zero, List.getElem?_cons_zero, List.getElem?_cons_succ, Decidable.not_not]
  refine (rTold_ok b s most).weak (fun _ _ h => h) ?_
  rintro v R h ⟨rfl, H⟩
  refine ⟨_, RRep b (toldR s most).2, rfl, ?_, H⟩
  refine (rTake_ok b _ _).weak (fun _ _ h => h) ?_
  rintro v R h ⟨a, c, rfl, H⟩
  have hlen : (bytesR s most).1.length ≤ 140737488355328 := by
    have h1 := takeR_len (toldR s most).2 (toldR s most).1
    have h2 : (toldR s most).1 < 256 ^ 4 := by
      have := numR_lt s 4
      unfold toldR; split
      · simp
      · split
        · simp
        · exact this
    have h3 : (256 : Nat) ^ 4 = 4294967296 := by decide
    unfold bytesR
    omega
  refine ⟨a, _, c, RoB a _ (bytesR s most).1, RRep b (bytesR s most).2, rfl, ?_, H⟩
  refine (clone8_ok _ a _ c (bytesR s most).1 (RdL.ro _ _ _ _) rfl hlen).weak (fun _ _ h => h) ?_
  rintro v R h ⟨a', c', rfl, H⟩
  exact ⟨a', _, c', OwB a' _ c' _, RoB a _ (bytesR s most).1, rfl, .of fun R h H => ⟨a', c', rfl, H⟩, H⟩
theorem rEnd_ok (b : Nat) (s : List UInt8 × Bool) : Tri Tryz.prog 85 #[.pointer (some ⟨b, 0, none⟩)] (RRep b s) (fun v => HP.and (v = .int .i64 (if s.2 = true ∨ s.1 ≠ [] then 3 else 0)) (RRep b s)) := by
  obtain ⟨l, w⟩ := s
  refine Tri.ex fun a => Tri.ex fun c => Tri.pure fun hc => ?_
  refine tri_of_tree (ρ := [.n b, .a a, .n l.length, .n c, .p (RoB a l.length l), .c w]) mixed Tryz.func85 tree_rEnd ?_
  unfold t_rEnd
  simp only [T.den, E.prop, E.den, RX.look, F1.app, F2.app, Uni.int_i, Uni.nat_n, Uni.bool_c, Uni.str_s, Uni.adr_a, Uni.val_v, Uni.hp_p, hden, cden, V.den, W.den, A.den, BR.den, SA.den, FV.den, capV, exs, exP, allP, Cur.app, List.map_cons, List.map_nil, List.cons_append, List.nil_append, List.drop_succ_cons, List.drop_zero, List.length_cons, List.length_nil, Nat.zero_add, Nat.reduceAdd, Int.neg_neg, Bool.not_not, List.append_nil, Nat.add_zero, List.getElem?_cons_zero, List.getElem?_cons_succ, Decidable.not_not]
  refine ⟨fun h1 => .of fun R h H => ⟨?_, a, c, hc, H⟩, fun h1 => ⟨fun h2 => .of fun R h H => ⟨?_, a, c, hc, H⟩, fun h2 => .of fun R h H => ⟨?_, a, c, hc, H⟩⟩⟩
  · rw [if_pos (.inl h1)]
  · rw [if_pos (.inr (fun e => by subst e; simp at h2))]
  · rw [if_neg (fun e => e.elim h1 fun e => h2 (by have := List.length_pos_iff.2 e; omega))]
theorem rRead_ok (a : Option Addr) (n c : Nat) (l : List UInt8) (S : HP) (hr : RdL S a n (l.map u8v)) (hl : l.length = n) (hb : n ≤ 140737488355328) :
    Tri Tryz.prog 81 #[.slice a n c] S (fun v => HP.ex fun b => HP.and (v = .pointer (some ⟨b, 0, none⟩)) (HP.sep S (RRep b (l, false)))) := by
  refine tri_of_tree (ρ := [.a a, .n n, .n c, .p S]) mixed Tryz.func81 tree_rRead ?_
  unfold t_rRead
  simp only [T.den, E.prop, E.den, RX.look, F1.app, F2.app, Uni.int_i, Uni.nat_n, Uni.bool_c, Uni.str_s, Uni.adr_a, Uni.val_v, Uni.hp_p, hden, cden, V.den, W.den, A.den, BR.den, SA.den, FV.den, capV, exs, exP, allP, Cur.app, List.map_cons, List.map_nil, List.cons_append, List.nil_append, List.drop_succ_cons, List.drop_zero, List.length_cons, List.length_nil, Nat.zero_add, Nat.reduceAdd, Int.neg_neg, Bool.not_not, List.append_nil, Nat.add_zero, List.getElem?_cons_zero, List.getElem?_cons_succ, Decidable.not_not]
  refine (clone8_ok S a n c l hr hl hb).weak (fun _ _ h => h) ?_
  rintro v R h ⟨a', c', rfl, H⟩
  refine ⟨a', _, c', OwB a' n c' l, S, rfl, fun x => ?_, H⟩
  subst hl
  rintro R h d H
  have hle := OwC.le (HP.sep_right (HP.sep_right H))
  refine ((HP.ent.sep2 (HP.ent.refl S) (HP.ent.sep2 (HP.ent.refl _) (OwC.share 5 1 a' l.length c' (l.map u8v)))).trans ?_) R h d H
  refine .of fun R h H => ⟨x, rfl, HP.sep_mono H (fun _ h => h) fun y hy => ?_⟩
  exact ⟨a', c', ⟨hle, hb⟩, hy⟩
end Go.Proofs.YtbmajijnjkicmaaGreatDoor



namespace Go.Proofs.YtbmajijnjkicmaaGreatDoor.RX
set_option maxRecDepth 100000
-- cmp.isNaN[int]: ρ := [.i x]
def t_bIsNaN : T :=
(.ret (.w (.a (.bool (.o1 .not (.o2 .eq (.v 0) (.v 0)))))) [])
theorem tree_bIsNaN : tree Tryz.prog { keep := [64, 67, 69, 136, 92, 74, 137, 145, 146, 150] } Tryz.f150 [.a (.int .i64 (.v 0))] [] 1 = t_bIsNaN := by kernel_rfl
def t_bCompare : T :=
(.call 150 [.a (.int .i64 (.v 0))] [] [.c] (.w (.a (.bool (.v 2)))) []
(.call 150 [.a (.int .i64 (.v 1))] [] [.c] (.w (.a (.bool (.v 3)))) []
(.br (.v 2)
(.br (.v 3)
(.ret (.w (.a (.int .i64 (.i 0)))) [])
(.ret (.w (.a (.int .i64 (.i (-1))))) []))
(.br (.v 3)
(.ret (.w (.a (.int .i64 (.i 1)))) [])
(.br (.o2 .lt (.v 0) (.v 1))
(.ret (.w (.a (.int .i64 (.i (-1))))) [])
(.br (.o2 .lt (.v 1) (.v 0))
(.ret (.w (.a (.int .i64 (.i 1)))) [])
(.ret (.w (.a (.int .i64 (.i 0)))) [])))))))
theorem tree_bCompare : tree Tryz.prog { keep := [64, 67, 69, 136, 92, 74, 137, 145, 146, 150] } Tryz.f145 [.a (.int .i64 (.v 0)), .a (.int .i64 (.v 1))] [] 2 = t_bCompare := by kernel_rfl
def t_bOr : T :=
(.loop [.i, .i] [.e (.o1 .neg (.o1 .neg (.i 0))), .e (.o1 .neg (.o1 .neg (.i 0)))]
(.br (.o2 .lt (.v 5) (.o1 .ofNat (.v 1)))
(.need (.o2 .le (.i 0) (.v 5))
(.need (.o1 .isSome (.v 0))
(.read (.load 3 (.tmp 10)) 3 [(10, .w (.a (.eptr 0 (.v 5) 1 0)))] [(.a 0, .prop 3)] [.i] (.w (.a (.int .i64 (.v 6))))
(.br (.o1 .not (.o2 .eq (.v 6) (.i 0)))
(.ret (.w (.a (.int .i64 (.v 6)))) [(.a 0, .prop 3)])
(.need (.o1 (.inr .i64) (.o2 .add (.v 5) (.i 1)))
(.again 0 [.e (.o1 .neg (.o1 .neg (.v 4))), .e (.o1 .neg (.o1 .neg (.o2 .add (.v 5) (.i 1))))]))))))
(.ret (.w (.a (.int .i64 (.i 0)))) [(.a 0, .prop 3)])))
theorem tree_bOr : tree Tryz.prog { keep := [64, 67, 69, 136, 92, 74, 137, 145, 146, 150] } Tryz.f146 [.a (.sl (.v 0) (.v 1) (.v 2))] [(.a 0, .prop 3)] 4 = t_bOr := by kernel_rfl
def t_bAhead : T :=
(.new
(.new
(.read (.binOp .eql 39 (.tmp 7) (.tmp 9) 39) 4 [(7, .w (.agg [.int .i64 (.v 2), .int .i64 (.v 3)])), (9, .w (.agg [.int .i64 (.v 10), .int .i64 (.v 11)]))] [] [.c] (.w (.a (.bool (.v 18))))
(.br (.v 18)
(.ret (.w (.a (.bool (.o2 .lt (.v 0) (.v 8))))) [(.a 4, .prop 7), (.a 12, .prop 15)])
(.call 145 [.a (.int .i64 (.v 2)), .a (.int .i64 (.v 10))] [] [.i] (.w (.a (.int .i64 (.v 19)))) []
(.call 145 [.a (.int .i64 (.v 3)), .a (.int .i64 (.v 11))] [] [.i] (.w (.a (.int .i64 (.v 20)))) []
(.new
(.call 146 [.a (.sl (.b (.v 21) 0) (.n 2) (.n 2))] [(.b (.v 21), .cells [.int .i64 (.v 19), .int .i64 (.v 20)] 3)] [.i] (.w (.a (.int .i64 (.v 22)))) [(.b (.v 21), .cells [.int .i64 (.v 19), .int .i64 (.v 20)] 3)]
(.ret (.w (.a (.bool (.o2 .lt (.i 0) (.v 22))))) [(.a 4, .prop 7), (.a 12, .prop 15)])))))))))
theorem tree_bAhead : tree Tryz.prog { keep := [64, 67, 69, 136, 92, 74, 137, 145, 146, 150] } Tryz.f137 [.agg [.int .i64 (.v 0), .bool (.v 1), .int .i64 (.v 2), .int .i64 (.v 3), .sl (.v 4) (.v 5) (.v 6)], .agg [.int .i64 (.v 8), .bool (.v 9), .int .i64 (.v 10), .int .i64 (.v 11), .sl (.v 12) (.v 13) (.v 14)]] [(.a 4, .prop 7), (.a 12, .prop 15)] 16 = t_bAhead := by kernel_rfl
def t_bStart : T :=
(.new
(.all
(.call 74 [.a (.sl (.v 3) (.v 4) (.v 5))] [(.a 3, .prop 6)] [.a, .n, .n, .p] (.w (.a (.sl (.v 8) (.v 9) (.v 10)))) [(.a 8, .prop 11), (.a 3, .prop 6)]
(.new
(.new
(.ret (.w (.a (.ptr (.v 13) 0))) [(.a 3, .prop 6), (.b (.v 13), .cells [.int .i64 (.o2 .mx (.v 0) (.i 1)), .int .i64 (.v 1), .int .i64 (.v 2), .sl (.v 8) (.v 9) (.v 10), .int .i64 (.i 1), .map (.v 12), .int .i64 (.i 0)] 154), (.a 8, .prop 11), (.b (.v 12), .emap)]))))
(.new
(.call 74 [.a (.sl (.v 3) (.v 4) (.v 5))] [(.a 3, .prop 6)] [.a, .n, .n, .p] (.w (.a (.sl (.v 9) (.v 10) (.v 11)))) [(.a 9, .prop 12), (.a 3, .prop 6)]
(.new
(.ret (.w (.a (.ptr (.v 13) 0))) [(.a 3, .prop 6), (.b (.v 13), .cells [.int .i64 (.o2 .mx (.v 0) (.i 1)), .int .i64 (.v 1), .int .i64 (.v 2), .sl (.v 9) (.v 10) (.v 11), .int .i64 (.i 1), .map (.v 8), .int .i64 (.i 0)] 154), (.a 9, .prop 12), (.b (.v 8), .emap)]))))))
theorem tree_bStart : tree Tryz.prog { keep := [64, 67, 69, 136, 92, 74, 137, 145, 146, 150] } Tryz.f65 [.a (.int .i64 (.v 0)), .agg [.int .i64 (.v 1), .int .i64 (.v 2)], .a (.sl (.v 3) (.v 4) (.v 5))] [(.a 3, .prop 6)] 7 = t_bStart := by kernel_rfl
def t_bPhase : T :=
(.ret (.w (.a (.int .i64 (.v 8)))) [(.b (.v 0), .cells [.int .i64 (.v 1), .int .i64 (.v 2), .int .i64 (.v 3), .sl (.v 4) (.v 5) (.v 6), .int .i64 (.v 8), .map (.v 9), .int .i64 (.v 11)] 154), (.a 4, .prop 7), (.b (.v 9), .prop 10)])
theorem tree_bPhase : tree Tryz.prog { keep := [64, 67, 69, 136, 92, 74, 137, 145, 146, 150] } Tryz.f64 [.a (.ptr (.v 0) 0)] [(.b (.v 0), .cells [.int .i64 (.v 1), .int .i64 (.v 2), .int .i64 (.v 3), .sl (.v 4) (.v 5) (.v 6), .int .i64 (.v 8), .map (.v 9), .int .i64 (.v 11)] 154), (.a 4, .prop 7), (.b (.v 9), .prop 10)] 12 = t_bPhase := by kernel_rfl
def t_bBallot : T :=
(.new
(.ret (.w (.agg [.int .i64 (.v 2), .int .i64 (.v 3)])) [(.b (.v 0), .cells [.int .i64 (.v 1), .int .i64 (.v 2), .int .i64 (.v 3), .sl (.v 4) (.v 5) (.v 6), .int .i64 (.v 8), .map (.v 9), .int .i64 (.v 11)] 154), (.a 4, .prop 7), (.b (.v 9), .prop 10)]))
theorem tree_bBallot : tree Tryz.prog { keep := [64, 67, 69, 136, 92, 74, 137, 145, 146, 150] } Tryz.f67 [.a (.ptr (.v 0) 0)] [(.b (.v 0), .cells [.int .i64 (.v 1), .int .i64 (.v 2), .int .i64 (.v 3), .sl (.v 4) (.v 5) (.v 6), .int .i64 (.v 8), .map (.v 9), .int .i64 (.v 11)] 154), (.a 4, .prop 7), (.b (.v 9), .prop 10)] 12 = t_bBallot := by kernel_rfl
def t_bValue : T :=
(.call 74 [.a (.sl (.v 4) (.v 5) (.v 6))] [(.a 4, .prop 7)] [.a, .n, .n, .p] (.w (.a (.sl (.v 12) (.v 13) (.v 14)))) [(.a 12, .prop 15), (.a 4, .prop 7)]
(.ret (.w (.a (.sl (.v 12) (.v 13) (.v 14)))) [(.b (.v 0), .cells [.int .i64 (.v 1), .int .i64 (.v 2), .int .i64 (.v 3), .sl (.v 4) (.v 5) (.v 6), .int .i64 (.v 8), .map (.v 9), .int .i64 (.v 11)] 154), (.a 4, .prop 7), (.b (.v 9), .prop 10), (.a 12, .prop 15)]))
theorem tree_bValue : tree Tryz.prog { keep := [64, 67, 69, 136, 92, 74, 137, 145, 146, 150] } Tryz.f69 [.a (.ptr (.v 0) 0)] [(.b (.v 0), .cells [.int .i64 (.v 1), .int .i64 (.v 2), .int .i64 (.v 3), .sl (.v 4) (.v 5) (.v 6), .int .i64 (.v 8), .map (.v 9), .int .i64 (.v 11)] 154), (.a 4, .prop 7), (.b (.v 9), .prop 10)] 12 = t_bValue := by kernel_rfl
def t_bMost : T :=
(.need (.o1 (.inr .i64) (.o2 .quo (.v 1) (.i 2)))
(.ret (.w (.a (.bool (.o2 .lt (.o2 .quo (.v 1) (.i 2)) (.v 12))))) [(.b (.v 0), .cells [.int .i64 (.v 1), .int .i64 (.v 2), .int .i64 (.v 3), .sl (.v 4) (.v 5) (.v 6), .int .i64 (.v 8), .map (.v 9), .int .i64 (.v 11)] 154), (.a 4, .prop 7), (.b (.v 9), .prop 10)]))
theorem tree_bMost : tree Tryz.prog { keep := [64, 67, 69, 136, 92, 74, 137, 145, 146, 150] } Tryz.f136 [.a (.ptr (.v 0) 0), .a (.int .i64 (.v 12))] [(.b (.v 0), .cells [.int .i64 (.v 1), .int .i64 (.v 2), .int .i64 (.v 3), .sl (.v 4) (.v 5) (.v 6), .int .i64 (.v 8), .map (.v 9), .int .i64 (.v 11)] 154), (.a 4, .prop 7), (.b (.v 9), .prop 10)] 13 = t_bMost := by kernel_rfl
def t_bAsked : T :=
(.br (.o1 .not (.o2 .eq (.v 8) (.i 1)))
(.br (.o1 .not (.o2 .eq (.v 8) (.i 2)))
(.ret (.w (.a (.bool (.c false)))) [(.b (.v 0), .cells [.int .i64 (.v 1), .int .i64 (.v 2), .int .i64 (.v 3), .sl (.v 4) (.v 5) (.v 6), .int .i64 (.v 8), .map (.v 9), .int .i64 (.v 11)] 154), (.a 4, .prop 7), (.b (.v 9), .prop 10)])
(.br (.o2 .lt (.v 12) (.i 0))
(.ret (.w (.a (.bool (.c false)))) [(.b (.v 0), .cells [.int .i64 (.v 1), .int .i64 (.v 2), .int .i64 (.v 3), .sl (.v 4) (.v 5) (.v 6), .int .i64 (.v 8), .map (.v 9), .int .i64 (.v 11)] 154), (.a 4, .prop 7), (.b (.v 9), .prop 10)])
(.br (.o2 .le (.v 1) (.v 12))
(.ret (.w (.a (.bool (.c false)))) [(.b (.v 0), .cells [.int .i64 (.v 1), .int .i64 (.v 2), .int .i64 (.v 3), .sl (.v 4) (.v 5) (.v 6), .int .i64 (.v 8), .map (.v 9), .int .i64 (.v 11)] 154), (.a 4, .prop 7), (.b (.v 9), .prop 10)])
(.read (.lookup 152 (.tmp 33) (.tmp 34) true) 183 [(33, .w (.a (.map (.v 9)))), (34, .w (.a (.int .i64 (.v 12))))] [(.b (.v 9), .prop 10)] [.i, .c, .i, .i, .a, .n, .n, .c] (.tup [.agg [.int .i64 (.v 13), .bool (.v 14), .int .i64 (.v 15), .int .i64 (.v 16), .sl (.v 17) (.v 18) (.v 19)], .a (.bool (.v 20))])
(.new
(.ret (.w (.a (.bool (.o1 .not (.v 20))))) [(.b (.v 0), .cells [.int .i64 (.v 1), .int .i64 (.v 2), .int .i64 (.v 3), .sl (.v 4) (.v 5) (.v 6), .int .i64 (.v 8), .map (.v 9), .int .i64 (.v 11)] 154), (.a 4, .prop 7), (.b (.v 9), .prop 10)]))))))
(.br (.o2 .lt (.v 12) (.i 0))
(.ret (.w (.a (.bool (.c false)))) [(.b (.v 0), .cells [.int .i64 (.v 1), .int .i64 (.v 2), .int .i64 (.v 3), .sl (.v 4) (.v 5) (.v 6), .int .i64 (.v 8), .map (.v 9), .int .i64 (.v 11)] 154), (.a 4, .prop 7), (.b (.v 9), .prop 10)])
(.br (.o2 .le (.v 1) (.v 12))
(.ret (.w (.a (.bool (.c false)))) [(.b (.v 0), .cells [.int .i64 (.v 1), .int .i64 (.v 2), .int .i64 (.v 3), .sl (.v 4) (.v 5) (.v 6), .int .i64 (.v 8), .map (.v 9), .int .i64 (.v 11)] 154), (.a 4, .prop 7), (.b (.v 9), .prop 10)])
(.read (.lookup 152 (.tmp 33) (.tmp 34) true) 183 [(33, .w (.a (.map (.v 9)))), (34, .w (.a (.int .i64 (.v 12))))] [(.b (.v 9), .prop 10)] [.i, .c, .i, .i, .a, .n, .n, .c] (.tup [.agg [.int .i64 (.v 13), .bool (.v 14), .int .i64 (.v 15), .int .i64 (.v 16), .sl (.v 17) (.v 18) (.v 19)], .a (.bool (.v 20))])
(.new
(.ret (.w (.a (.bool (.o1 .not (.v 20))))) [(.b (.v 0), .cells [.int .i64 (.v 1), .int .i64 (.v 2), .int .i64 (.v 3), .sl (.v 4) (.v 5) (.v 6), .int .i64 (.v 8), .map (.v 9), .int .i64 (.v 11)] 154), (.a 4, .prop 7), (.b (.v 9), .prop 10)]))))))
theorem tree_bAsked : tree Tryz.prog { keep := [64, 67, 69, 136, 92, 74, 137, 145, 146, 150] } Tryz.f92 [.a (.ptr (.v 0) 0), .a (.int .i64 (.v 12))] [(.b (.v 0), .cells [.int .i64 (.v 1), .int .i64 (.v 2), .int .i64 (.v 3), .sl (.v 4) (.v 5) (.v 6), .int .i64 (.v 8), .map (.v 9), .int .i64 (.v 11)] 154), (.a 4, .prop 7), (.b (.v 9), .prop 10)] 13 = t_bAsked := by kernel_rfl
def t_bTake : T :=
(.new
(.read (.call ⟨.builtin .len, #[.tmp 11], #[152]⟩) 3 [(11, .w (.a (.map (.v 9))))] [(.b (.v 9), .prop 10)] [.i] (.w (.a (.int .i64 (.v 22))))
(.op (.mapUpdate 152 (.tmp 17) (.tmp 18) (.tmp 19)) 0 [(17, .w (.a (.map (.v 9)))), (18, .w (.a (.int .i64 (.v 12)))), (19, .w (.agg [.int .i64 (.v 22), .bool (.v 14), .int .i64 (.v 15), .int .i64 (.v 16), .sl (.v 17) (.v 18) (.v 19)]))] [(.b (.v 9), .prop 10), (.a 17, .prop 20)] [.p] (.tup []) [(.b (.v 9), .prop 23), (.a 17, .prop 20)]
(.br (.v 14)
(.need (.o1 (.inr .i64) (.o2 .add (.v 11) (.i 1)))
(.call 136 [.a (.ptr (.v 0) 0), .a (.int .i64 (.o2 .add (.v 11) (.i 1)))] [(.b (.v 0), .cells [.int .i64 (.v 1), .int .i64 (.v 2), .int .i64 (.v 3), .sl (.v 4) (.v 5) (.v 6), .int .i64 (.v 8), .map (.v 9), .int .i64 (.o2 .add (.v 11) (.i 1))] 154), (.a 4, .prop 7), (.b (.v 9), .prop 23)] [.c] (.w (.a (.bool (.v 24)))) [(.b (.v 0), .cells [.int .i64 (.v 1), .int .i64 (.v 2), .int .i64 (.v 3), .sl (.v 4) (.v 5) (.v 6), .int .i64 (.v 8), .map (.v 9), .int .i64 (.o2 .add (.v 11) (.i 1))] 154), (.a 4, .prop 7), (.b (.v 9), .prop 23)]
(.ret (.w (.a (.bool (.v 24)))) [(.b (.v 0), .cells [.int .i64 (.v 1), .int .i64 (.v 2), .int .i64 (.v 3), .sl (.v 4) (.v 5) (.v 6), .int .i64 (.v 8), .map (.v 9), .int .i64 (.o2 .add (.v 11) (.i 1))] 154), (.a 4, .prop 7), (.b (.v 9), .prop 23), (.a 17, .prop 20)])))
(.read (.call ⟨.builtin .len, #[.tmp 38], #[152]⟩) 3 [(38, .w (.a (.map (.v 9))))] [(.b (.v 9), .prop 23)] [.i] (.w (.a (.int .i64 (.v 24))))
(.need (.o1 (.inr .i64) (.o2 .sub (.v 24) (.v 11)))
(.need (.o1 (.inr .i64) (.o2 .sub (.v 1) (.o2 .sub (.v 24) (.v 11))))
(.call 136 [.a (.ptr (.v 0) 0), .a (.int .i64 (.o2 .sub (.v 1) (.o2 .sub (.v 24) (.v 11))))] [(.b (.v 0), .cells [.int .i64 (.v 1), .int .i64 (.v 2), .int .i64 (.v 3), .sl (.v 4) (.v 5) (.v 6), .int .i64 (.v 8), .map (.v 9), .int .i64 (.v 11)] 154), (.a 4, .prop 7), (.b (.v 9), .prop 23)] [.c] (.w (.a (.bool (.v 25)))) [(.b (.v 0), .cells [.int .i64 (.v 1), .int .i64 (.v 2), .int .i64 (.v 3), .sl (.v 4) (.v 5) (.v 6), .int .i64 (.v 8), .map (.v 9), .int .i64 (.v 11)] 154), (.a 4, .prop 7), (.b (.v 9), .prop 23)]
(.br (.o1 .not (.v 25))
(.ret (.w (.a (.bool (.c false)))) [(.b (.v 0), .cells [.int .i64 (.v 1), .int .i64 (.v 2), .int .i64 (.v 3), .sl (.v 4) (.v 5) (.v 6), .int .i64 (.i 4), .map (.v 9), .int .i64 (.v 11)] 154), (.a 4, .prop 7), (.b (.v 9), .prop 23), (.a 17, .prop 20)])
(.ret (.w (.a (.bool (.c false)))) [(.b (.v 0), .cells [.int .i64 (.v 1), .int .i64 (.v 2), .int .i64 (.v 3), .sl (.v 4) (.v 5) (.v 6), .int .i64 (.v 8), .map (.v 9), .int .i64 (.v 11)] 154), (.a 4, .prop 7), (.b (.v 9), .prop 23), (.a 17, .prop 20)]))))))))))
theorem tree_bTake : tree Tryz.prog { keep := [64, 67, 69, 136, 92, 74, 137, 145, 146, 150] } Tryz.f111 [.a (.ptr (.v 0) 0), .a (.int .i64 (.v 12)), .agg [.int .i64 (.v 13), .bool (.v 14), .int .i64 (.v 15), .int .i64 (.v 16), .sl (.v 17) (.v 18) (.v 19)]] [(.b (.v 0), .cells [.int .i64 (.v 1), .int .i64 (.v 2), .int .i64 (.v 3), .sl (.v 4) (.v 5) (.v 6), .int .i64 (.v 8), .map (.v 9), .int .i64 (.v 11)] 154), (.a 4, .prop 7), (.b (.v 9), .prop 10), (.a 17, .prop 20)] 21 = t_bTake := by kernel_rfl
def t_bAccepted : T :=
(.br (.o1 .not (.o2 .eq (.v 8) (.i 2)))
(.ret (.tup []) [(.b (.v 0), .cells [.int .i64 (.v 1), .int .i64 (.v 2), .int .i64 (.v 3), .sl (.v 4) (.v 5) (.v 6), .int .i64 (.v 8), .map (.v 9), .int .i64 (.v 11)] 154), (.a 4, .prop 7), (.b (.v 9), .prop 10)])
(.call 92 [.a (.ptr (.v 0) 0), .a (.int .i64 (.v 12))] [(.b (.v 0), .cells [.int .i64 (.v 1), .int .i64 (.v 2), .int .i64 (.v 3), .sl (.v 4) (.v 5) (.v 6), .int .i64 (.v 8), .map (.v 9), .int .i64 (.v 11)] 154), (.a 4, .prop 7), (.b (.v 9), .prop 10)] [.c] (.w (.a (.bool (.v 14)))) [(.b (.v 0), .cells [.int .i64 (.v 1), .int .i64 (.v 2), .int .i64 (.v 3), .sl (.v 4) (.v 5) (.v 6), .int .i64 (.v 8), .map (.v 9), .int .i64 (.v 11)] 154), (.a 4, .prop 7), (.b (.v 9), .prop 10)]
(.br (.o1 .not (.v 14))
(.ret (.tup []) [(.b (.v 0), .cells [.int .i64 (.v 1), .int .i64 (.v 2), .int .i64 (.v 3), .sl (.v 4) (.v 5) (.v 6), .int .i64 (.v 8), .map (.v 9), .int .i64 (.v 11)] 154), (.a 4, .prop 7), (.b (.v 9), .prop 10)])
(.call 111 [.a (.ptr (.v 0) 0), .a (.int .i64 (.v 12)), .agg [.int .i64 (.i 0), .bool (.o2 .eq (.v 13) (.i 0)), .int .i64 (.i 0), .int .i64 (.i 0), .sl .nil (.n 0) (.n 0)]] [(.b (.v 0), .cells [.int .i64 (.v 1), .int .i64 (.v 2), .int .i64 (.v 3), .sl (.v 4) (.v 5) (.v 6), .int .i64 (.v 8), .map (.v 9), .int .i64 (.v 11)] 154), (.a 4, .prop 7), (.b (.v 9), .prop 10)] [.c, .i, .i, .i, .a, .n, .n, .p, .i, .n, .p, .i] (.w (.a (.bool (.v 15)))) [(.b (.v 0), .cells [.int .i64 (.v 16), .int .i64 (.v 17), .int .i64 (.v 18), .sl (.v 19) (.v 20) (.v 21), .int .i64 (.v 23), .map (.v 24), .int .i64 (.v 26)] 154), (.a 19, .prop 22), (.b (.v 24), .prop 25)]
(.br (.v 15)
(.ret (.tup []) [(.b (.v 0), .cells [.int .i64 (.v 16), .int .i64 (.v 17), .int .i64 (.v 18), .sl (.v 19) (.v 20) (.v 21), .int .i64 (.i 3), .map (.v 24), .int .i64 (.v 26)] 154), (.a 19, .prop 22), (.b (.v 24), .prop 25)])
(.ret (.tup []) [(.b (.v 0), .cells [.int .i64 (.v 16), .int .i64 (.v 17), .int .i64 (.v 18), .sl (.v 19) (.v 20) (.v 21), .int .i64 (.v 23), .map (.v 24), .int .i64 (.v 26)] 154), (.a 19, .prop 22), (.b (.v 24), .prop 25)]))))))
theorem tree_bAccepted : tree Tryz.prog { keep := [64, 67, 69, 136, 92, 74, 137, 145, 146, 150] } Tryz.f63 [.a (.ptr (.v 0) 0), .a (.int .i64 (.v 12)), .a (.int .i64 (.v 13))] [(.b (.v 0), .cells [.int .i64 (.v 1), .int .i64 (.v 2), .int .i64 (.v 3), .sl (.v 4) (.v 5) (.v 6), .int .i64 (.v 8), .map (.v 9), .int .i64 (.v 11)] 154), (.a 4, .prop 7), (.b (.v 9), .prop 10)] 14 = t_bAccepted := by kernel_rfl
def t_bPromised : T :=
(.new
(.br (.o1 .not (.o2 .eq (.v 8) (.i 1)))
(.ret (.tup []) [(.b (.v 0), .cells [.int .i64 (.v 1), .int .i64 (.v 2), .int .i64 (.v 3), .sl (.v 4) (.v 5) (.v 6), .int .i64 (.v 8), .map (.v 9), .int .i64 (.v 11)] 154), (.a 4, .prop 7), (.b (.v 9), .prop 10), (.a 15, .prop 18)])
(.call 92 [.a (.ptr (.v 0) 0), .a (.int .i64 (.v 12))] [(.b (.v 0), .cells [.int .i64 (.v 1), .int .i64 (.v 2), .int .i64 (.v 3), .sl (.v 4) (.v 5) (.v 6), .int .i64 (.v 8), .map (.v 9), .int .i64 (.v 11)] 154), (.a 4, .prop 7), (.b (.v 9), .prop 10)] [.c] (.w (.a (.bool (.v 21)))) [(.b (.v 0), .cells [.int .i64 (.v 1), .int .i64 (.v 2), .int .i64 (.v 3), .sl (.v 4) (.v 5) (.v 6), .int .i64 (.v 8), .map (.v 9), .int .i64 (.v 11)] 154), (.a 4, .prop 7), (.b (.v 9), .prop 10)]
(.br (.o1 .not (.v 21))
(.ret (.tup []) [(.b (.v 0), .cells [.int .i64 (.v 1), .int .i64 (.v 2), .int .i64 (.v 3), .sl (.v 4) (.v 5) (.v 6), .int .i64 (.v 8), .map (.v 9), .int .i64 (.v 11)] 154), (.a 4, .prop 7), (.b (.v 9), .prop 10), (.a 15, .prop 18)])
(.new
(.br (.o2 .eq (.v 19) (.i 0))
(.call 74 [.a (.sl (.v 15) (.v 16) (.v 17))] [(.a 15, .prop 18)] [.a, .n, .n, .p] (.w (.a (.sl (.v 23) (.v 24) (.v 25)))) [(.a 23, .prop 26), (.a 15, .prop 18)]
(.call 111 [.a (.ptr (.v 0) 0), .a (.int .i64 (.v 12)), .agg [.int .i64 (.i 0), .bool (.o2 .eq (.v 19) (.i 0)), .int .i64 (.v 13), .int .i64 (.v 14), .sl (.v 23) (.v 24) (.v 25)]] [(.b (.v 0), .cells [.int .i64 (.v 1), .int .i64 (.v 2), .int .i64 (.v 3), .sl (.v 4) (.v 5) (.v 6), .int .i64 (.v 8), .map (.v 9), .int .i64 (.v 11)] 154), (.a 4, .prop 7), (.b (.v 9), .prop 10), (.a 23, .prop 26)] [.c, .i, .i, .i, .a, .n, .n, .p, .i, .n, .p, .i, .p] (.w (.a (.bool (.v 27)))) [(.b (.v 0), .cells [.int .i64 (.v 28), .int .i64 (.v 29), .int .i64 (.v 30), .sl (.v 31) (.v 32) (.v 33), .int .i64 (.v 35), .map (.v 36), .int .i64 (.v 38)] 154), (.a 31, .prop 34), (.b (.v 36), .prop 37), (.a 23, .prop 39)]
(.br (.v 27)
(.call 112 [.a (.ptr (.v 0) 0)] [(.b (.v 0), .cells [.int .i64 (.v 28), .int .i64 (.v 29), .int .i64 (.v 30), .sl (.v 31) (.v 32) (.v 33), .int .i64 (.v 35), .map (.v 36), .int .i64 (.v 38)] 154), (.a 31, .prop 34), (.b (.v 36), .prop 37)] [.i, .i, .i, .a, .n, .n, .p, .i, .n, .p, .i] (.tup []) [(.b (.v 0), .cells [.int .i64 (.v 40), .int .i64 (.v 41), .int .i64 (.v 42), .sl (.v 43) (.v 44) (.v 45), .int .i64 (.v 47), .map (.v 48), .int .i64 (.v 50)] 154), (.a 43, .prop 46), (.b (.v 48), .prop 49)]
(.new
(.ret (.tup []) [(.b (.v 0), .cells [.int .i64 (.v 40), .int .i64 (.v 41), .int .i64 (.v 42), .sl (.v 43) (.v 44) (.v 45), .int .i64 (.i 2), .map (.v 51), .int .i64 (.i 0)] 154), (.a 43, .prop 46), (.b (.v 51), .emap), (.a 15, .prop 18)])))
(.ret (.tup []) [(.b (.v 0), .cells [.int .i64 (.v 28), .int .i64 (.v 29), .int .i64 (.v 30), .sl (.v 31) (.v 32) (.v 33), .int .i64 (.v 35), .map (.v 36), .int .i64 (.v 38)] 154), (.a 31, .prop 34), (.b (.v 36), .prop 37), (.a 15, .prop 18)]))))
(.call 111 [.a (.ptr (.v 0) 0), .a (.int .i64 (.v 12)), .agg [.int .i64 (.i 0), .bool (.o2 .eq (.v 19) (.i 0)), .int .i64 (.i 0), .int .i64 (.i 0), .sl .nil (.n 0) (.n 0)]] [(.b (.v 0), .cells [.int .i64 (.v 1), .int .i64 (.v 2), .int .i64 (.v 3), .sl (.v 4) (.v 5) (.v 6), .int .i64 (.v 8), .map (.v 9), .int .i64 (.v 11)] 154), (.a 4, .prop 7), (.b (.v 9), .prop 10)] [.c, .i, .i, .i, .a, .n, .n, .p, .i, .n, .p, .i] (.w (.a (.bool (.v 23)))) [(.b (.v 0), .cells [.int .i64 (.v 24), .int .i64 (.v 25), .int .i64 (.v 26), .sl (.v 27) (.v 28) (.v 29), .int .i64 (.v 31), .map (.v 32), .int .i64 (.v 34)] 154), (.a 27, .prop 30), (.b (.v 32), .prop 33)]
(.br (.v 23)
(.call 112 [.a (.ptr (.v 0) 0)] [(.b (.v 0), .cells [.int .i64 (.v 24), .int .i64 (.v 25), .int .i64 (.v 26), .sl (.v 27) (.v 28) (.v 29), .int .i64 (.v 31), .map (.v 32), .int .i64 (.v 34)] 154), (.a 27, .prop 30), (.b (.v 32), .prop 33)] [.i, .i, .i, .a, .n, .n, .p, .i, .n, .p, .i] (.tup []) [(.b (.v 0), .cells [.int .i64 (.v 35), .int .i64 (.v 36), .int .i64 (.v 37), .sl (.v 38) (.v 39) (.v 40), .int .i64 (.v 42), .map (.v 43), .int .i64 (.v 45)] 154), (.a 38, .prop 41), (.b (.v 43), .prop 44)]
(.new
(.ret (.tup []) [(.b (.v 0), .cells [.int .i64 (.v 35), .int .i64 (.v 36), .int .i64 (.v 37), .sl (.v 38) (.v 39) (.v 40), .int .i64 (.i 2), .map (.v 46), .int .i64 (.i 0)] 154), (.a 38, .prop 41), (.b (.v 46), .emap), (.a 15, .prop 18)])))
(.ret (.tup []) [(.b (.v 0), .cells [.int .i64 (.v 24), .int .i64 (.v 25), .int .i64 (.v 26), .sl (.v 27) (.v 28) (.v 29), .int .i64 (.v 31), .map (.v 32), .int .i64 (.v 34)] 154), (.a 27, .prop 30), (.b (.v 32), .prop 33), (.a 15, .prop 18)])))))))))
theorem tree_bPromised : tree Tryz.prog { keep := [64, 67, 69, 136, 92, 74, 137, 145, 146, 150] } Tryz.f62 [.a (.ptr (.v 0) 0), .a (.int .i64 (.v 12)), .agg [.int .i64 (.v 13), .int .i64 (.v 14)], .a (.sl (.v 15) (.v 16) (.v 17)), .a (.int .i64 (.v 19))] [(.b (.v 0), .cells [.int .i64 (.v 1), .int .i64 (.v 2), .int .i64 (.v 3), .sl (.v 4) (.v 5) (.v 6), .int .i64 (.v 8), .map (.v 9), .int .i64 (.v 11)] 154), (.a 4, .prop 7), (.b (.v 9), .prop 10), (.a 15, .prop 18)] 20 = t_bPromised := by kernel_rfl
def t_bChoose : T :=
(.new
(.op (.range 152 (.tmp 8)) 0 [(8, .w (.a (.map (.v 9))))] [(.b (.v 9), .prop 10)] [.n, .p, .p] (.w (.a (.ptr (.v 13) 0))) [(.b (.v 13), .prop 14), (.b (.v 9), .prop 15)]
(.loop [.p, .p, .i, .c, .i, .i, .a, .n, .n, .p] [.p [(.b (.v 13), .prop 14)], .p [(.b (.v 9), .prop 15)], .e (.o1 .neg (.o1 .neg (.i 0))), .e (.o1 .not (.o1 .not (.c false))), .e (.o1 .neg (.o1 .neg (.i 0))), .e (.o1 .neg (.o1 .neg (.i 0))), .a .nil, .e (.o2 .nadd (.n 0) (.n 0)), .e (.o2 .nadd (.n 0) (.n 0)), .p []]
(.op (.next (.tmp 9) false) 0 [(9, .w (.a (.ptr (.v 13) 0)))] [(.b (.v 13), .prop 16), (.b (.v 9), .prop 17)] [.c, .v, .v, .p] (.nx 26 27 28) [(.b (.v 13), .prop 29), (.b (.v 9), .prop 17)]
(.br (.v 26)
(.op (.entry (.tmp 9)) 0 [(9, .w (.a (.ptr (.v 13) 0)))] [(.b (.v 13), .prop 29), (.b (.v 9), .prop 17)] [.i, .i, .c, .i, .i, .a, .n, .n, .p, .p, .p] (.tup [.a (.int .i64 (.v 30)), .agg [.int .i64 (.v 31), .bool (.v 32), .int .i64 (.v 33), .int .i64 (.v 34), .sl (.v 35) (.v 36) (.v 37)]]) [(.a 35, .prop 38), (.b (.v 13), .prop 39), (.b (.v 9), .prop 40)]
(.new
(.br (.o1 .not (.v 32))
(.again 0 [.p [(.b (.v 13), .prop 39)], .p [(.b (.v 9), .prop 40)], .e (.o1 .neg (.o1 .neg (.v 18))), .e (.o1 .not (.o1 .not (.v 19))), .e (.o1 .neg (.o1 .neg (.v 20))), .e (.o1 .neg (.o1 .neg (.v 21))), .a (.v 22), .e (.o2 .nadd (.v 23) (.n 0)), .e (.o2 .nadd (.v 24) (.n 0)), .p [(.a 22, .prop 25)]])
(.read (.binOp .eql 39 (.tmp 19) (.tmp 20) 39) 4 [(19, .w (.agg [.int .i64 (.v 33), .int .i64 (.v 34)])), (20, .w (.agg [.int .i64 (.i 0), .int .i64 (.i 0)]))] [] [.c] (.w (.a (.bool (.v 42))))
(.br (.v 42)
(.again 0 [.p [(.b (.v 13), .prop 39)], .p [(.b (.v 9), .prop 40)], .e (.o1 .neg (.o1 .neg (.v 18))), .e (.o1 .not (.o1 .not (.v 19))), .e (.o1 .neg (.o1 .neg (.v 20))), .e (.o1 .neg (.o1 .neg (.v 21))), .a (.v 22), .e (.o2 .nadd (.v 23) (.n 0)), .e (.o2 .nadd (.v 24) (.n 0)), .p [(.a 22, .prop 25)]])
(.read (.binOp .eql 39 (.tmp 24) (.tmp 25) 39) 4 [(24, .w (.agg [.int .i64 (.v 20), .int .i64 (.v 21)])), (25, .w (.agg [.int .i64 (.i 0), .int .i64 (.i 0)]))] [] [.c] (.w (.a (.bool (.v 43))))
(.br (.v 43)
(.again 0 [.p [(.b (.v 13), .prop 39)], .p [(.b (.v 9), .prop 40)], .e (.o1 .neg (.o1 .neg (.v 31))), .e (.o1 .not (.o1 .not (.v 32))), .e (.o1 .neg (.o1 .neg (.v 33))), .e (.o1 .neg (.o1 .neg (.v 34))), .a (.v 35), .e (.o2 .nadd (.v 36) (.n 0)), .e (.o2 .nadd (.v 37) (.n 0)), .p [(.a 35, .prop 38)]])
(.call 137 [.agg [.int .i64 (.v 31), .bool (.v 32), .int .i64 (.v 33), .int .i64 (.v 34), .sl (.v 35) (.v 36) (.v 37)], .agg [.int .i64 (.v 18), .bool (.v 19), .int .i64 (.v 20), .int .i64 (.v 21), .sl (.v 22) (.v 23) (.v 24)]] [(.a 35, .prop 38), (.b (.v 9), .prop 40), (.a 22, .prop 25)] [.c] (.w (.a (.bool (.v 44)))) [(.a 35, .prop 38), (.b (.v 9), .prop 40), (.a 22, .prop 25)]
(.br (.v 44)
(.again 0 [.p [(.b (.v 13), .prop 39)], .p [(.b (.v 9), .prop 40)], .e (.o1 .neg (.o1 .neg (.v 31))), .e (.o1 .not (.o1 .not (.v 32))), .e (.o1 .neg (.o1 .neg (.v 33))), .e (.o1 .neg (.o1 .neg (.v 34))), .a (.v 35), .e (.o2 .nadd (.v 36) (.n 0)), .e (.o2 .nadd (.v 37) (.n 0)), .p [(.a 35, .prop 38)]])
(.again 0 [.p [(.b (.v 13), .prop 39)], .p [(.b (.v 9), .prop 40)], .e (.o1 .neg (.o1 .neg (.v 18))), .e (.o1 .not (.o1 .not (.v 19))), .e (.o1 .neg (.o1 .neg (.v 20))), .e (.o1 .neg (.o1 .neg (.v 21))), .a (.v 22), .e (.o2 .nadd (.v 23) (.n 0)), .e (.o2 .nadd (.v 24) (.n 0)), .p [(.a 22, .prop 25)]]))))))))))
(.read (.binOp .neq 39 (.tmp 34) (.tmp 35) 39) 4 [(34, .w (.agg [.int .i64 (.v 20), .int .i64 (.v 21)])), (35, .w (.agg [.int .i64 (.i 0), .int .i64 (.i 0)]))] [] [.c] (.w (.a (.bool (.v 30))))
(.br (.v 30)
(.ret (.tup []) [(.b (.v 0), .cells [.int .i64 (.v 1), .int .i64 (.v 2), .int .i64 (.v 3), .sl (.v 22) (.v 23) (.v 24), .int .i64 (.v 8), .map (.v 9), .int .i64 (.v 11)] 154), (.a 22, .prop 25), (.b (.v 9), .prop 17), (.a 4, .prop 7)])
(.ret (.tup []) [(.b (.v 0), .cells [.int .i64 (.v 1), .int .i64 (.v 2), .int .i64 (.v 3), .sl (.v 4) (.v 5) (.v 6), .int .i64 (.v 8), .map (.v 9), .int .i64 (.v 11)] 154), (.a 4, .prop 7), (.b (.v 9), .prop 17)]))))))))
theorem tree_bChoose : tree Tryz.prog { hv := [(0, [.b (.v 13), .b (.v 9), .b (.v 12)])], keep := [64, 67, 69, 136, 92, 74, 137, 145, 146, 150], ent := [(12, [3, 156])], mkd := [12] } Tryz.f112 [.a (.ptr (.v 0) 0)] [(.b (.v 0), .cells [.int .i64 (.v 1), .int .i64 (.v 2), .int .i64 (.v 3), .sl (.v 4) (.v 5) (.v 6), .int .i64 (.v 8), .map (.v 9), .int .i64 (.v 11)] 154), (.a 4, .prop 7), (.b (.v 9), .prop 10)] 12 = t_bChoose := by kernel_rfl
end Go.Proofs.YtbmajijnjkicmaaGreatDoor.RX



namespace Go.Proofs.YtbmajijnjkicmaaGreatDoor
set_option linter.unusedSimpArgs false
set_option linter.unusedVariables false
open Go.Proofs.YtbmajijnjkicmaaGreatDoor RX
set_option maxRecDepth 100000

theorem bIsNaN_ok (x : Int) : Tri Tryz.prog 150 #[.int .i64 x] HP.tt (fun v => HP.pure (v = .bool false)) := by
  refine tri_of_tree (ρ := [.i x]) mixed Tryz.func150 tree_bIsNaN ?_
  unfold t_bIsNaN
  simp only [T.den, E.prop, E.den, RX.look, F1.app, F2.app, Uni.int_i, Uni.nat_n, Uni.bool_c, Uni.str_s, Uni.adr_a, Uni.val_v, Uni.hp_p, hden, cden, V.den, W.den, A.den, BR.den, SA.den, FV.den, capV, exs, exP, allP, Cur.app, List.map_cons, List.map_nil, List.cons_append, List.nil_append, List.drop_succ_cons, List.drop_zero, List.length_cons, List.length_nil, Nat.zero_add, Nat.reduceAdd, Int.neg_neg, Bool.not_not, List.append_nil, Nat.add_zero, List.getElem?_cons_zero, List.getElem?_cons_succ, Decidable.not_not, semW_eq, ne_eq, Nat.reduceEqDiff, not_false_eq_true]
  exact .of fun R h H => by simp [HP.pure]
def cmpB (x y : Int) : Int := if x < y then -1 else if y < x then 1 else 0
theorem bCompare_ok (x y : Int) : Tri Tryz.prog 145 #[.int .i64 x, .int .i64 y] HP.tt (fun v => HP.pure (v = .int .i64 (cmpB x y))) := by
  refine tri_of_tree (ρ := [.i x, .i y]) mixed Tryz.func145 tree_bCompare ?_
  unfold t_bCompare
  simp only [T.den, E.prop, E.den, RX.look, F1.app, F2.app, Uni.int_i, Uni.nat_n, Uni.bool_c, Uni.str_s, Uni.adr_a, Uni.val_v, Uni.hp_p, hden, cden, V.den, W.den, A.den, BR.den, SA.den, FV.den, capV, exs, exP, allP, Cur.app, List.map_cons, List.map_nil, List.cons_append, List.nil_append, List.drop_succ_cons, List.drop_zero, List.length_cons, List.length_nil, Nat.zero_add, Nat.reduceAdd, Int.neg_neg, Bool.not_not, List.append_nil, Nat.add_zero, List.getElem?_cons_zero, List.getElem?_cons_succ, Decidable.not_not, semW_eq, ne_eq, Nat.reduceEqDiff, not_false_eq_true]
  refine (bIsNaN_ok x).weak (fun _ _ _ => trivial) ?_
  rintro v R h rfl
  refine ⟨_, rfl, ?_, trivial⟩
  refine (bIsNaN_ok y).weak (fun _ _ _ => trivial) ?_
  rintro v R h rfl
  refine ⟨_, rfl, ⟨fun e => absurd e (by decide), fun _ => ⟨fun e => absurd e (by decide), fun _ => ⟨fun h1 => .of fun R h H => ?_, fun h1 => ⟨fun h2 => .of fun R h H => ?_, fun h2 => .of fun R h H => ?_⟩⟩⟩⟩, trivial⟩
  · show _ = _; rw [cmpB, if_pos h1]
  · show _ = _; rw [cmpB, if_neg h1, if_pos h2]
  · show _ = _; rw [cmpB, if_neg h1, if_neg h2]
theorem bOr_ok (b : Nat) (x y : Int) : Tri Tryz.prog 146 #[.slice (some ⟨b, 0, none⟩) 2 2] (HP.one b (.cells #[.int .i64 x, .int .i64 y] 3 (0, 0)))
    (fun v => HP.and (v = .int .i64 (if x = 0 then y else x)) (HP.one b (.cells #[.int .i64 x, .int .i64 y] 3 (0, 0)))) := by
  refine tri_of_tree (ρ := [.a (some ⟨b, 0, none⟩), .n 2, .n 2, .p (HP.one b (.cells #[.int .i64 x, .int .i64 y] 3 (0, 0)))]) mixed Tryz.func146 tree_bOr ?_
  unfold t_bOr
  simp only [T.den, E.prop, E.den, RX.look, F1.app, F2.app, Uni.int_i, Uni.nat_n, Uni.bool_c, Uni.str_s, Uni.adr_a, Uni.val_v, Uni.hp_p, hden, cden, V.den, W.den, A.den, BR.den, SA.den, FV.den, capV, exs, exP, allP, Cur.app, List.map_cons, List.map_nil, List.cons_append, List.nil_append, List.drop_succ_cons, List.drop_zero, List.length_cons, List.length_nil, Nat.zero_add, Nat.reduceAdd, Int.neg_neg, Bool.not_not, List.append_nil, Nat.add_zero, List.getElem?_cons_zero, List.getElem?_cons_succ, Decidable.not_not, semW_eq, semW_load, ne_eq, Nat.reduceEqDiff, not_false_eq_true]
  have ld : ∀ (k : Nat) (u : Int), [Value.int .i64 x, .int .i64 y][k]? = some (.int .i64 u) → ORead Tryz.prog (loadS 3 (.pointer ((some ⟨b, 0, none⟩ : Option Addr).map fun q => (q.add (k * 1)).add 0))) (HP.one b (.cells #[.int .i64 x, .int .i64 y] 3 (0, 0))) (.int .i64 u) := fun k u hk => by
    obtain ⟨d, hd⟩ : ∃ d, Tryz.prog.underlying 3 = some d := Option.isSome_iff_exists.1 (by kernel_rfl)
    exact load1_ok hd (by kernel_rfl) (by kernel_rfl) (one_rd b #[.int .i64 x, .int .i64 y] 3) (k := k * 1) (off := 0) (by rw [Nat.mul_one, Nat.add_zero]; exact hk)
  refine ⟨fun _ i => i = 0 ∨ (i = 1 ∧ x = 0) ∨ (i = 2 ∧ x = 0 ∧ y = 0), fun _ i => 2 - i.toNat, .inl rfl, ?_⟩
  rintro _ _ (rfl | ⟨rfl, hx⟩ | ⟨rfl, hx, hy⟩)
  · refine ⟨fun _ => ⟨by omega, fun _ => ⟨rfl, fun _ => ⟨_, ld 0 x rfl, fun h0 => .of fun R h H => ⟨by rw [if_neg h0], H⟩, fun h0 => ⟨inI64 _ (by omega) (by omega), fun _ => ⟨.inr (.inl ⟨rfl, by simpa using h0⟩), by show 2 - ((0 : Int) + 1).toNat < 2 - (0 : Int).toNat; decide⟩⟩⟩⟩⟩, fun h => absurd (by decide) h⟩
  · refine ⟨fun _ => ⟨by omega, fun _ => ⟨rfl, fun _ => ⟨_, ld 1 y rfl, fun h0 => .of fun R h H => ⟨by rw [if_pos hx], H⟩, fun h0 => ⟨inI64 _ (by omega) (by omega), fun _ => ⟨.inr (.inr ⟨rfl, hx, by simpa using h0⟩), by show 2 - ((1 : Int) + 1).toNat < 2 - (1 : Int).toNat; decide⟩⟩⟩⟩⟩, fun h => absurd (by decide) h⟩
  · exact ⟨fun h => absurd h (by decide), fun _ => .of fun R h H => ⟨by rw [if_pos hx, hy], H⟩⟩
structure AnB where
  turn : Int
  ok : Bool
  r : Int
  w : Int
  val : List UInt8
def aheadW (a b : AnB) : Bool := if a.r = b.r ∧ a.w = b.w then decide (a.turn < b.turn) else decide (b.r < a.r ∨ (a.r = b.r ∧ b.w < a.w))
abbrev AnB.vals (x : AnB) (a : Option Addr) (c : Nat) : Array Value := #[.int .i64 x.turn, .bool x.ok, .int .i64 x.r, .int .i64 x.w, .slice a x.val.length c]
theorem bAhead_ok (P Q : HP) (x y : AnB) (a b : Option Addr) (c d : Nat) : Tri Tryz.prog 137 #[.agg (x.vals a c), .agg (y.vals b d)] (HP.sep P Q) (fun v => HP.and (v = .bool (aheadW x y)) (HP.sep P Q)) := by
  refine tri_of_tree (ρ := [.i x.turn, .c x.ok, .i x.r, .i x.w, .a a, .n x.val.length, .n c, .p P, .i y.turn, .c y.ok, .i y.r, .i y.w, .a b, .n y.val.length, .n d, .p Q]) mixed Tryz.func137 tree_bAhead ?_
  unfold t_bAhead
  simp only [T.den, E.prop, E.den, RX.look, F1.app, F2.app, Uni.int_i, Uni.nat_n, Uni.bool_c, Uni.str_s, Uni.adr_a, Uni.val_v, Uni.hp_p, hden, cden, V.den, W.den, A.den, BR.den, SA.den, FV.den, capV, exs, exP, allP, Cur.app, List.map_cons, List.map_nil, List.cons_append, List.nil_append, List.drop_succ_cons, List.drop_zero, List.length_cons, List.length_nil, Nat.zero_add, Nat.reduceAdd, Int.neg_neg, Bool.not_not, List.append_nil, Nat.add_zero, List.getElem?_cons_zero, List.getElem?_cons_succ, Decidable.not_not, semW_eq, ne_eq, Nat.reduceEqDiff, not_false_eq_true]
  intro _ _
  refine ⟨_, eqBW (by decide), fun h => .of fun R h' H => ⟨?_, H⟩, fun h => ?_⟩
  · unfold aheadW
    rw [if_pos (by simpa using h)]
  · have hne : ¬ (x.r = y.r ∧ x.w = y.w) := by simpa using h
    refine (bCompare_ok x.r y.r).weak (fun _ _ _ => trivial) ?_
    rintro v R h rfl
    refine ⟨_, rfl, ?_, trivial⟩
    refine (bCompare_ok x.w y.w).weak (fun _ _ _ => trivial) ?_
    rintro v R h rfl
    refine ⟨_, rfl, fun b' => ?_, trivial⟩
    refine (bOr_ok b' _ _).weak (fun _ _ h => h) ?_
    rintro v R h ⟨rfl, H⟩
    refine ⟨_, rfl, .of fun R h H => ⟨?_, H⟩, H⟩
    unfold aheadW
    rw [if_neg hne]
    congr 1
    rw [decide_eq_decide]
    unfold cmpB
    by_cases h1 : x.r < y.r
    · rw [if_pos h1, if_neg (by decide)]; omega
    · by_cases h2 : y.r < x.r
      · rw [if_neg h1, if_pos h2, if_neg (by decide)]; omega
      · rw [if_neg h1, if_neg h2, if_pos rfl]
        by_cases h3 : x.w < y.w
        · rw [if_pos h3]; omega
        · by_cases h4 : y.w < x.w
          · rw [if_neg h3, if_pos h4]; omega
          · rw [if_neg h3, if_neg h4]; omega
end Go.Proofs.YtbmajijnjkicmaaGreatDoor



namespace Go.Proofs.YtbmajijnjkicmaaGreatDoor
set_option linter.unusedSimpArgs false
set_option linter.unusedVariables false
open Go.Proofs.YtbmajijnjkicmaaGreatDoor RX
set_option maxRecDepth 100000

structure BA where
  ok : Bool
  r : Int
  w : Int
  val : List UInt8
structure BSt where
  acc : Int
  rnd : Int
  who : Int
  val : List UInt8
  phase : Int
  ans : List (Int × BA)
  agreed : Int
abbrev BA.at_ (x : BA) (i : Int) : AnB := ⟨i, x.ok, x.r, x.w, x.val⟩
def AnV (v : Value) (x : AnB) : HP := HP.ex fun a => HP.ex fun c => HP.and (v = .agg (x.vals a c) ∧ x.val.length ≤ 140737488355328) (RoB a x.val.length x.val)
theorem AnV.pers : Pers AnV := fun _ _ _ _ _ ⟨a, c, e, H⟩ => ⟨a, c, e, HP.sep_left (RoC.join (B := HP.tt) H trivial)⟩
def ansF : List (Int × BA) → Int → Int → Option AnB
  | [], _, _ => none
  | x :: L, i, k => if k = x.1 then some (x.2.at_ i) else ansF L (i + 1) k
theorem ansF_none {k : Int} : ∀ {L : List (Int × BA)} {i : Int}, ansF L i k = none ↔ k ∉ L.map (·.1)
  | [], _ => by simp [ansF]
  | x :: L, i => by
    simp only [ansF, List.map_cons, List.mem_cons, not_or]
    by_cases h : k = x.1
    · simp [h]
    · rw [if_neg h, ansF_none]; simp [h]
theorem ansF_app (x : BA) (f : Int) : ∀ (L : List (Int × BA)) (i : Int), f ∉ L.map (·.1) → ∀ k, ansF (L ++ [(f, x)]) i k = if k = f then some (x.at_ (i + L.length)) else ansF L i k
  | [], i, _, k => by simp [ansF]
  | y :: L, i, h, k => by
    simp only [List.map_cons, List.mem_cons, not_or] at h
    simp only [List.cons_append, ansF]
    rw [ansF_app x f L (i + 1) h.2 k]
    by_cases e : k = y.1
    · rw [if_pos e, if_neg (fun e2 => h.1 (e2.symm.trans e)), if_pos e]
    · rw [if_neg e, if_neg e]
      have : i + 1 + (L.length : Int) = i + ((y :: L).length : Nat) := by simp; omega
      rw [this]
def MapA (mp : Nat) (L : List (Int × BA)) : HP := HP.ex fun l => HP.ex fun c => HP.and (l.map (·.1) = L.map (·.1)) (MapH AnV iE mp (ansF L 0) l c)
theorem infoAn : (Tryz.prog.info? 156).map (fun i => (i.zero, i.size, i.bytes)) = some (some (.agg #[.int .i64 0, .bool false, .int .i64 0, .int .i64 0, .slice none 0 0]), 5, 56) := by kernel_rfl
theorem undMpA : Tryz.prog.underlying 152 = some (.map 3 156) := by kernel_rfl
theorem lenM_ok {i r c : Nat} {ty : TypeId} {l : AL Int} {A : HP} (hA : ∀ R h, A.p R h → h r = some (mapObj iE l c)) :
    ORead Tryz.prog (semW (.call ⟨.builtin .len, #[.tmp i], #[152]⟩) ty [(i, .map (some r))]) A (.int .i64 l.length) := fun w R h F s a => by
  have hg : w.heap[r]? = some (.map (l.map (toE iE)).toArray c) := s.oh _ _ (hA R h a)
  have e : (Builtin.len_ #[152] ty #[.map (some r)]).run Tryz.prog w = .ok (.int .i64 l.length) w := by
    simp only [Builtin.len_, List.getElem?_toArray, List.getElem?_cons_zero, Sem.run_bind, RX.run_underlying undMpA, Result.andThen_ok, run_getObj_map hg, Sem.run_pure, goInt, List.size_toArray, List.length_map]
  have e2 : semW (.call ⟨.builtin .len, #[.tmp i], #[152]⟩) ty [(i, .map (some r))] = (do pure (.value (← Builtin.len_ #[152] ty #[.map (some r)]))) := by simp [semW, execOp, resolve, arW, invoke, builtin]
  rw [e2, Sem.run_bind, e]
  rfl
abbrev POne (b : Nat) (g : BSt) (va : Option Addr) (vc mp : Nat) : HP := HP.one b (.cells #[.int .i64 g.acc, .int .i64 g.rnd, .int .i64 g.who, .slice va g.val.length vc, .int .i64 g.phase, .map (some mp), .int .i64 g.agreed] 154 (0, 0))
def BOk (g : BSt) : Prop := 1 ≤ g.acc ∧ g.acc ≤ 10000 ∧ 0 ≤ g.agreed ∧ g.agreed ≤ g.ans.length ∧ g.val.length ≤ 140737488355328
def BRep (b : Nat) (g : BSt) : HP := HP.ex fun va => HP.ex fun vc => HP.ex fun mp => HP.and (BOk g) (HP.sep (POne b g va vc mp) (HP.sep (RoB va g.val.length g.val) (MapA mp g.ans)))
section
variable (b : Nat) (g : BSt) (va : Option Addr) (vc mp : Nat) (P Q : HP)
theorem bPhase_ok : Tri Tryz.prog 64 #[.pointer (some ⟨b, 0, none⟩)] (HP.sep (POne b g va vc mp) (HP.sep P Q)) (fun v => HP.and (v = .int .i64 g.phase) (HP.sep (POne b g va vc mp) (HP.sep P Q))) := by
  refine tri_of_tree (ρ := [.n b, .i g.acc, .i g.rnd, .i g.who, .a va, .n g.val.length, .n vc, .p P, .i g.phase, .n mp, .p Q, .i g.agreed]) mixed Tryz.func64 tree_bPhase ?_
  unfold t_bPhase
  simp only [T.den, E.prop, E.den, RX.look, F1.app, F2.app, Uni.int_i, Uni.nat_n, Uni.bool_c, Uni.str_s, Uni.adr_a, Uni.val_v, Uni.hp_p, hden, cden, V.den, W.den, A.den, BR.den, SA.den, FV.den, capV, exs, exP, allP, Cur.app, List.map_cons, List.map_nil, List.cons_append, List.nil_append, List.drop_succ_cons, List.drop_zero, List.length_cons, List.length_nil, Nat.zero_add, Nat.reduceAdd, Int.neg_neg, Bool.not_not, List.append_nil, Nat.add_zero, List.getElem?_cons_zero, List.getElem?_cons_succ, Decidable.not_not, semW_eq, ne_eq, Nat.reduceEqDiff, not_false_eq_true]
  exact .of fun R h H => ⟨trivial, H⟩
theorem bBallot_ok : Tri Tryz.prog 67 #[.pointer (some ⟨b, 0, none⟩)] (HP.sep (POne b g va vc mp) (HP.sep P Q)) (fun v => HP.and (v = .agg #[.int .i64 g.rnd, .int .i64 g.who]) (HP.sep (POne b g va vc mp) (HP.sep P Q))) := by
  refine tri_of_tree (ρ := [.n b, .i g.acc, .i g.rnd, .i g.who, .a va, .n g.val.length, .n vc, .p P, .i g.phase, .n mp, .p Q, .i g.agreed]) mixed Tryz.func67 tree_bBallot ?_
  unfold t_bBallot
  simp only [T.den, E.prop, E.den, RX.look, F1.app, F2.app, Uni.int_i, Uni.nat_n, Uni.bool_c, Uni.str_s, Uni.adr_a, Uni.val_v, Uni.hp_p, hden, cden, V.den, W.den, A.den, BR.den, SA.den, FV.den, capV, exs, exP, allP, Cur.app, List.map_cons, List.map_nil, List.cons_append, List.nil_append, List.drop_succ_cons, List.drop_zero, List.length_cons, List.length_nil, Nat.zero_add, Nat.reduceAdd, Int.neg_neg, Bool.not_not, List.append_nil, Nat.add_zero, List.getElem?_cons_zero, List.getElem?_cons_succ, Decidable.not_not, semW_eq, ne_eq, Nat.reduceEqDiff, not_false_eq_true]
  exact fun _ => .of fun R h H => ⟨trivial, H⟩
def mostB (acc n : Int) : Bool := decide (acc.tdiv 2 < n)
theorem bMost_ok (n : Int) (hr : 0 ≤ g.acc ∧ g.acc ≤ 1000000) : Tri Tryz.prog 136 #[.pointer (some ⟨b, 0, none⟩), .int .i64 n] (HP.sep (POne b g va vc mp) (HP.sep P Q)) (fun v => HP.and (v = .bool (mostB g.acc n)) (HP.sep (POne b g va vc mp) (HP.sep P Q))) := by
  refine tri_of_tree (ρ := [.n b, .i g.acc, .i g.rnd, .i g.who, .a va, .n g.val.length, .n vc, .p P, .i g.phase, .n mp, .p Q, .i g.agreed, .i n]) mixed Tryz.func136 tree_bMost ?_
  unfold t_bMost
  simp only [T.den, E.prop, E.den, RX.look, F1.app, F2.app, Uni.int_i, Uni.nat_n, Uni.bool_c, Uni.str_s, Uni.adr_a, Uni.val_v, Uni.hp_p, hden, cden, V.den, W.den, A.den, BR.den, SA.den, FV.den, capV, exs, exP, allP, Cur.app, List.map_cons, List.map_nil, List.cons_append, List.nil_append, List.drop_succ_cons, List.drop_zero, List.length_cons, List.length_nil, Nat.zero_add, Nat.reduceAdd, Int.neg_neg, Bool.not_not, List.append_nil, Nat.add_zero, List.getElem?_cons_zero, List.getElem?_cons_succ, Decidable.not_not, semW_eq, ne_eq, Nat.reduceEqDiff, not_false_eq_true]
  have hq : g.acc.tdiv 2 = g.acc / 2 := Int.tdiv_eq_ediv_of_nonneg hr.1
  refine ⟨inI64 _ (by rw [hq]; omega) (by rw [hq]; omega), fun _ => .of fun R h H => ⟨rfl, H⟩⟩
theorem bValue_ok (hb : g.val.length ≤ 140737488355328) : Tri Tryz.prog 69 #[.pointer (some ⟨b, 0, none⟩)] (HP.sep (POne b g va vc mp) (HP.sep (RoB va g.val.length g.val) Q))
    (fun v => HP.ex fun a => HP.ex fun c => HP.and (v = .slice a g.val.length c) (HP.sep (RoB a g.val.length g.val) (HP.sep (POne b g va vc mp) (HP.sep (RoB va g.val.length g.val) Q)))) := by
  refine tri_of_tree (ρ := [.n b, .i g.acc, .i g.rnd, .i g.who, .a va, .n g.val.length, .n vc, .p (RoB va g.val.length g.val), .i g.phase, .n mp, .p Q, .i g.agreed]) mixed Tryz.func69 tree_bValue ?_
  unfold t_bValue
  simp only [T.den, E.prop, E.den, RX.look, F1.app, F2.app, Uni.int_i, Uni.nat_n, Uni.bool_c, Uni.str_s, Uni.adr_a, Uni.val_v, Uni.hp_p, hden, cden, V.den, W.den, A.den, BR.den, SA.den, FV.den, capV, exs, exP, allP, Cur.app, List.map_cons, List.map_nil, List.cons_append, List.nil_append, List.drop_succ_cons, List.drop_zero, List.length_cons, List.length_nil, Nat.zero_add, Nat.reduceAdd, Int.neg_neg, Bool.not_not, List.append_nil, Nat.add_zero, List.getElem?_cons_zero, List.getElem?_cons_succ, Decidable.not_not, semW_eq, ne_eq, Nat.reduceEqDiff, not_false_eq_true]
  refine (cloneR_ok (RoB va g.val.length g.val) va g.val.length vc g.val (RdL.ro _ _ _ _) rfl hb).weak (fun _ _ h => h) ?_
  rintro v R h ⟨a, c, rfl, H⟩
  refine ⟨a, _, c, RoB a g.val.length g.val, rfl, .of fun R h H => ⟨a, c, rfl, ?_⟩, H⟩
  exact HP.pick [_, _, _, _] [3, 0, 1, 2] (by decide) rfl H
def hasB (L : List (Int × BA)) (f : Int) : Bool := decide (f ∈ L.map (·.1))
def askedB (g : BSt) (f : Int) : Bool := decide ((g.phase = 1 ∨ g.phase = 2) ∧ 0 ≤ f ∧ f < g.acc) && !hasB g.ans f
theorem MapH.shape {mp c : Nat} {L : List (Int × BA)} {l : AL Int} {R h : PH} (H : (MapH AnV iE mp (ansF L 0) l c).p R h) : ∀ k v, alFind k l = some v → ∃ (x : AnB) (a : Option Addr) (d : Nat), v = .agg (x.vals a d) := fun k v hk => by
  have := HP.sep_right H.2 k
  rw [hk] at this
  revert this
  cases ansF L 0 k with
  | none => exact fun h => h.elim
  | some x => exact fun ⟨a, d, e, _⟩ => ⟨x, a, d, e.1⟩
theorem MapH.some_iff {mp c : Nat} {L : List (Int × BA)} {l : AL Int} {R h : PH} (H : (MapH AnV iE mp (ansF L 0) l c).p R h) (k : Int) : (alFind k l).isSome = hasB L k := by
  have := HP.sep_right H.2 k
  unfold hasB
  cases hf : ansF L 0 k with
  | none =>
    rw [hf] at this
    rw [decide_eq_false (ansF_none.1 hf)]
    revert this
    cases alFind k l with
    | none => exact fun _ => rfl
    | some v => exact fun h => h.elim
  | some x =>
    rw [hf] at this
    have hm : k ∈ L.map (·.1) := Classical.byContradiction fun hn => by rw [ansF_none.2 hn] at hf; cases hf
    rw [decide_eq_true hm]
    revert this
    cases alFind k l with
    | none => exact fun h => h.elim
    | some v => exact fun _ => rfl
theorem bAsked_ok (f : Int) (l : AL Int) (cl : Nat) : Tri Tryz.prog 92 #[.pointer (some ⟨b, 0, none⟩), .int .i64 f] (HP.sep (POne b g va vc mp) (HP.sep P (MapH AnV iE mp (ansF g.ans 0) l cl)))
    (fun v => HP.and (v = .bool (askedB g f)) (HP.sep (POne b g va vc mp) (HP.sep P (MapH AnV iE mp (ansF g.ans 0) l cl)))) := by
  refine Tri.fact (φ := (∀ k v, alFind k l = some v → ∃ (x : AnB) (a : Option Addr) (d : Nat), v = .agg (x.vals a d)) ∧ (alFind f l).isSome = hasB g.ans f) (fun R h H => ⟨MapH.shape (HP.sep_right (HP.sep_right H)), MapH.some_iff (HP.sep_right (HP.sep_right H)) f⟩) fun ⟨hsh, hs⟩ => ?_
  refine tri_of_tree (ρ := [.n b, .i g.acc, .i g.rnd, .i g.who, .a va, .n g.val.length, .n vc, .p P, .i g.phase, .n mp, .p (MapH AnV iE mp (ansF g.ans 0) l cl), .i g.agreed, .i f]) mixed Tryz.func92 tree_bAsked ?_
  unfold t_bAsked
  simp only [T.den, E.prop, E.den, RX.look, F1.app, F2.app, Uni.int_i, Uni.nat_n, Uni.bool_c, Uni.str_s, Uni.adr_a, Uni.val_v, Uni.hp_p, hden, cden, V.den, W.den, A.den, BR.den, SA.den, FV.den, capV, exs, exP, allP, Cur.app, List.map_cons, List.map_nil, List.cons_append, List.nil_append, List.drop_succ_cons, List.drop_zero, List.length_cons, List.length_nil, Nat.zero_add, Nat.reduceAdd, Int.neg_neg, Bool.not_not, List.append_nil, Nat.add_zero, List.getElem?_cons_zero, List.getElem?_cons_succ, Decidable.not_not, semW_eq, semW_lookup, semW_lookupC, ne_eq, Nat.reduceEqDiff, not_false_eq_true]
  obtain ⟨i, hi, z1, z2, z3⟩ := info_parts infoAn
  have hlk := look_ok (r := mp) (l := l) (c := cl) iK undMpA hi z1 f true (A := MapH AnV iE mp (ansF g.ans 0) l cl) fun R h H => MapH.at H
  have hlook : ∃ (x : AnB) (a : Option Addr) (d : Nat), ORead Tryz.prog (lookS 152 (.map (some mp)) (.int .i64 f) true) (MapH AnV iE mp (ansF g.ans 0) l cl) (.tuple #[.agg (x.vals a d), .bool (hasB g.ans f)]) := by
    rw [hs] at hlk
    cases hf : alFind f l with
    | none => rw [hf] at hlk; exact ⟨⟨0, false, 0, 0, []⟩, none, 0, hlk⟩
    | some v => obtain ⟨x, a, d, rfl⟩ := hsh f v hf; rw [hf] at hlk; exact ⟨x, a, d, hlk⟩
  obtain ⟨x, a, d, hl⟩ := hlook
  unfold askedB
  have no : ¬ ((g.phase = 1 ∨ g.phase = 2) ∧ 0 ≤ f ∧ f < g.acc) → HP.ent (HP.sep (POne b g va vc mp) (HP.sep P (MapH AnV iE mp (ansF g.ans 0) l cl))) (HP.and (Value.bool false = Value.bool (decide ((g.phase = 1 ∨ g.phase = 2) ∧ 0 ≤ f ∧ f < g.acc) && !hasB g.ans f)) (HP.sep (POne b g va vc mp) (HP.sep P (MapH AnV iE mp (ansF g.ans 0) l cl)))) := fun hn => .of fun R h H => ⟨by rw [decide_eq_false hn]; rfl, H⟩
  have yes : ((g.phase = 1 ∨ g.phase = 2) ∧ 0 ≤ f ∧ f < g.acc) → HP.ent (HP.sep (POne b g va vc mp) (HP.sep P (MapH AnV iE mp (ansF g.ans 0) l cl))) (HP.and (Value.bool (!hasB g.ans f) = Value.bool (decide ((g.phase = 1 ∨ g.phase = 2) ∧ 0 ≤ f ∧ f < g.acc) && !hasB g.ans f)) (HP.sep (POne b g va vc mp) (HP.sep P (MapH AnV iE mp (ansF g.ans 0) l cl)))) := fun hn => .of fun R h H => ⟨by rw [decide_eq_true hn]; simp, H⟩
  have yes' : ((g.phase = 1 ∨ g.phase = 2) ∧ 0 ≤ f ∧ f < g.acc) → HP.ent (HP.sep (POne b g va vc mp) (HP.sep P (MapH AnV iE mp (ansF g.ans 0) l cl))) (HP.and (Value.bool (decide (¬ hasB g.ans f = true)) = Value.bool (decide ((g.phase = 1 ∨ g.phase = 2) ∧ 0 ≤ f ∧ f < g.acc) && !hasB g.ans f)) (HP.sep (POne b g va vc mp) (HP.sep P (MapH AnV iE mp (ansF g.ans 0) l cl)))) := fun hn => .of fun R h H => ⟨by rw [decide_eq_true hn]; simp, H⟩
  refine ⟨fun h1 => ⟨fun h2 => no (by omega), fun h2 => ⟨fun h3 => no (by omega), fun h3 => ⟨fun h4 => no (by omega), fun h4 => ⟨_, _, _, _, _, _, _, _, hl, fun _ => ?_⟩⟩⟩⟩, fun h1 => ⟨fun h3 => no (by omega), fun h3 => ⟨fun h4 => no (by omega), fun h4 => ⟨_, _, _, _, _, _, _, _, hl, fun _ => ?_⟩⟩⟩⟩
  · first | exact yes (by omega) | exact yes' (by omega)
  · first | exact yes (by omega) | exact yes' (by omega)
theorem MapA.put {l : AL Int} {cl : Nat} {L : List (Int × BA)} (hk : l.map (·.1) = L.map (·.1)) {f : Int} (hf : f ∉ L.map (·.1)) (x : BA) (a : Option Addr) (d : Nat) (hx : x.val.length ≤ 140737488355328) :
    OTri Tryz.prog (updS 152 (.map (some mp)) (.int .i64 f) (.agg ((x.at_ L.length).vals a d))) (HP.sep (MapH AnV iE mp (ansF L 0) l cl) (RoB a x.val.length x.val)) (fun z => HP.and (z = .tuple #[]) (HP.sep (MapA mp (L ++ [(f, x)])) (RoB a x.val.length x.val))) := by
  refine OTri.fact (φ := MapI l cl ∧ alFind f l = none) (fun R h H => ⟨(HP.sep_left H).1, MapH.no (HP.sep_left H) (ansF_none.2 hf)⟩) fun ⟨hI, hn⟩ => ?_
  refine ((upd_ok (r := mp) (l := l) (c := cl) iK undMpA f (.agg ((x.at_ L.length).vals a d))).frame (HP.sep (Vals AnV l (ansF L 0)) (RoB a x.val.length x.val))).weak (fun R h ⟨h1, h2, d, l1, l2, ⟨_, H⟩, hA⟩ => HP.sep_assoc ⟨h1, h2, d, l1, l2, H, hA⟩) ?_
  rintro z R h ⟨h1, h2, dd, l1, l2, ⟨rfl, hone⟩, hrest⟩
  have hro := HP.sep_right hrest
  have hv : ∀ q, (AnV (.agg ((x.at_ L.length).vals a d)) (x.at_ L.length)).p R q := fun q => AnV.pers _ _ _ _ _ ⟨a, d, ⟨rfl, hx⟩, hro⟩
  have hF : fput (ansF L 0) f (some (x.at_ L.length)) = ansF (L ++ [(f, x)]) 0 := by
    funext k
    rw [ansF_app x f L 0 hf k, fput, Int.zero_add]
  refine ⟨rfl, HP.sep_mono (HP.sep_assoc' ⟨h1, h2, dd, l1, l2, hone, hrest⟩) (fun y hy => ⟨_, _, ?_, hI.put f _, HP.sep_mono hy (fun _ h => h) fun q hq => ?_⟩) fun _ h => h⟩
  · rw [alPut_none _ _ _ _ hn, List.map_append, List.map_append, hk]; rfl
  · rw [← hF]
    exact Vals.put hq f _ cl _ (hv q)
theorem lenA_ok {i mp : Nat} {ty : TypeId} {L : List (Int × BA)} : ORead Tryz.prog (semW (.call ⟨.builtin .len, #[.tmp i], #[152]⟩) ty [(i, .map (some mp))]) (MapA mp L) (.int .i64 L.length) := fun w R h F s ⟨l, c, hk, H⟩ => by
  have e : l.length = L.length := by simpa using congrArg List.length hk
  rw [← e]
  exact lenM_ok (A := MapH AnV iE mp (ansF L 0) l c) (fun R h H => MapH.at H) w R h F s H
def takeB (g : BSt) (f : Int) (x : BA) : BSt × Bool :=
  if x.ok = true then ({ g with ans := g.ans ++ [(f, x)], agreed := g.agreed + 1 }, mostB g.acc (g.agreed + 1))
  else if mostB g.acc (g.acc - (g.ans.length + 1 - g.agreed)) = true then ({ g with ans := g.ans ++ [(f, x)] }, false)
  else ({ g with ans := g.ans ++ [(f, x)], phase := 4 }, false)
theorem bTake_ok (f : Int) (x : BA) (t0 : Int) (a : Option Addr) (d : Nat) (hx : x.val.length ≤ 140737488355328) (hf : hasB g.ans f = false) (hlen : g.ans.length ≤ 100000) (hB : BOk g) :
    Tri Tryz.prog 111 #[.pointer (some ⟨b, 0, none⟩), .int .i64 f, .agg ((x.at_ t0).vals a d)] (HP.sep (POne b g va vc mp) (HP.sep P (HP.sep (MapA mp g.ans) (RoB a x.val.length x.val))))
      (fun v => HP.and (v = .bool (takeB g f x).2) (HP.sep (POne b (takeB g f x).1 va vc mp) (HP.sep P (HP.sep (MapA mp (takeB g f x).1.ans) (RoB a x.val.length x.val))))) := by
  obtain ⟨b1, b2, b3, b4, b5⟩ := hB
  have hfm : f ∉ g.ans.map (·.1) := by unfold hasB at hf; simpa using hf
  refine (Tri.ex (A := fun l => HP.ex fun cl => HP.and (l.map (·.1) = g.ans.map (·.1)) (HP.sep (POne b g va vc mp) (HP.sep P (HP.sep (MapH AnV iE mp (ansF g.ans 0) l cl) (RoB a x.val.length x.val))))) fun l => Tri.ex fun cl => Tri.pure fun hk => ?_).weak (fun R h H => ?_) fun _ _ _ h => h
  · refine tri_of_tree (ρ := [.n b, .i g.acc, .i g.rnd, .i g.who, .a va, .n g.val.length, .n vc, .p P, .i g.phase, .n mp, .p (MapH AnV iE mp (ansF g.ans 0) l cl), .i g.agreed, .i f, .i t0, .c x.ok, .i x.r, .i x.w, .a a, .n x.val.length, .n d, .p (RoB a x.val.length x.val)]) mixed Tryz.func111 tree_bTake ?_
    unfold t_bTake
    simp only [T.den, E.prop, E.den, RX.look, F1.app, F2.app, Uni.int_i, Uni.nat_n, Uni.bool_c, Uni.str_s, Uni.adr_a, Uni.val_v, Uni.hp_p, hden, cden, V.den, W.den, A.den, BR.den, SA.den, FV.den, capV, exs, exP, allP, Cur.app, List.map_cons, List.map_nil, List.cons_append, List.nil_append, List.drop_succ_cons, List.drop_zero, List.length_cons, List.length_nil, Nat.zero_add, Nat.reduceAdd, Int.neg_neg, Bool.not_not, List.append_nil, Nat.add_zero, List.getElem?_cons_zero, List.getElem?_cons_succ, Decidable.not_not, semW_eq, semW_update, semW_updateC, semW_updateK, ne_eq, Nat.reduceEqDiff, not_false_eq_true]
    intro _
    have hln : l.length = g.ans.length := by simpa using congrArg List.length hk
    refine ⟨g.ans.length, by rw [← hln]; exact lenM_ok fun R h H => MapH.at H, ?_⟩
    refine (MapA.put mp hk hfm x a d hx).weak (fun _ _ h => h) ?_
    rintro v R h ⟨rfl, H⟩
    refine ⟨MapA mp (g.ans ++ [(f, x)]), rfl, ⟨fun h1 => ⟨inI64 _ (by omega) (by omega), fun _ => ?_⟩, fun h1 => ⟨_, lenA_ok, ?_⟩⟩, H⟩
    · refine (bMost_ok b { g with ans := g.ans ++ [(f, x)], agreed := g.agreed + 1 } va vc mp P (MapA mp (g.ans ++ [(f, x)])) (g.agreed + 1) ⟨by show 0 ≤ g.acc; omega, by show g.acc ≤ 1000000; omega⟩).weak (fun _ _ h => h) ?_
      rintro v R h ⟨rfl, H⟩
      refine ⟨_, rfl, .of fun R h H => ?_, H⟩
      have e : takeB g f x = ({ g with ans := g.ans ++ [(f, x)], agreed := g.agreed + 1 }, mostB g.acc (g.agreed + 1)) := if_pos h1
      rw [e]
      exact ⟨rfl, H⟩
    · have el : ((g.ans ++ [(f, x)]).length : Int) = g.ans.length + 1 := by simp
      rw [el]
      refine ⟨inI64 _ (by omega) (by omega), fun _ => ⟨inI64 _ (by omega) (by omega), fun _ => ?_⟩⟩
      refine (bMost_ok b { g with ans := g.ans ++ [(f, x)] } va vc mp P (MapA mp (g.ans ++ [(f, x)])) _ ⟨by show 0 ≤ g.acc; omega, by show g.acc ≤ 1000000; omega⟩).weak (fun _ _ h => h) ?_
      rintro v R h ⟨rfl, H⟩
      refine ⟨_, rfl, ⟨fun h2 => .of fun R h H => ?_, fun h2 => .of fun R h H => ?_⟩, H⟩
      · have e : takeB g f x = ({ g with ans := g.ans ++ [(f, x)], phase := 4 }, false) := by unfold takeB; rw [if_neg h1]; exact if_neg h2
        rw [e]
        exact ⟨rfl, H⟩
      · have e : takeB g f x = ({ g with ans := g.ans ++ [(f, x)] }, false) := by unfold takeB; rw [if_neg h1]; exact if_pos h2
        rw [e]
        exact ⟨rfl, H⟩
  · obtain ⟨h1, h2, e1, l1, l2, HO, h3, h4, e2, l3, l4, HP', h5, h6, e3, l5, l6, ⟨l, cl, hk, HM⟩, HR⟩ := H
    exact ⟨l, cl, hk, h1, h2, e1, l1, l2, HO, h3, h4, e2, l3, l4, HP', h5, h6, e3, l5, l6, HM, HR⟩
end
end Go.Proofs.YtbmajijnjkicmaaGreatDoor



namespace Go.Proofs.YtbmajijnjkicmaaGreatDoor
set_option linter.unusedSimpArgs false
set_option linter.unusedVariables false
open Go.Proofs.YtbmajijnjkicmaaGreatDoor RX
set_option maxRecDepth 100000

def candA (x : AnB) : Prop := x.ok = true ∧ ¬ (x.r = 0 ∧ x.w = 0)
def lessA (x y : AnB) : Prop := x.r < y.r ∨ (x.r = y.r ∧ x.w < y.w)
def BestA (F : Int → Option AnB) (l : AL Int) (S : Array Nat) (x : AnB) : Prop :=
  (x.r = 0 ∧ x.w = 0 ∧ ∀ z ∈ l, z.2.2 ∈ S → ∀ y, F z.1 = some y → ¬ candA y) ∨
  (candA x ∧ (∃ k, F k = some x) ∧ ∀ z ∈ l, z.2.2 ∈ S → ∀ y, F z.1 = some y → candA y → ¬ lessA x y)
def ChoseB (F : Int → Option AnB) (v0 v : List UInt8) : Prop :=
  ((∀ k y, F k = some y → ¬ candA y) ∧ v = v0) ∨ ∃ k x, F k = some x ∧ candA x ∧ v = x.val ∧ ∀ k' y, F k' = some y → candA y → ¬ lessA x y
theorem BestA.skip {F : Int → Option AnB} {l : AL Int} {c : Nat} (hs : Stamps l c) {S : Array Nat} {x y : AnB} {z : Int × Value × Nat} (hz : z ∈ l) (hy : F z.1 = some y) (h : BestA F l S x) (hn : candA y → candA x ∧ ¬ lessA x y) : BestA F l (S.push z.2.2) x := by
  rcases h with ⟨r0, w0, hno⟩ | ⟨hc, hex, hmax⟩
  · refine .inl ⟨r0, w0, fun q hq hqs y' hy' hc' => ?_⟩
    rcases stamp_push hs hz hq hqs with rfl | hqs
    · rw [hy] at hy'; cases hy'
      exact (hn hc').1.2 ⟨r0, w0⟩
    · exact hno q hq hqs y' hy' hc'
  · refine .inr ⟨hc, hex, fun q hq hqs y' hy' hc' => ?_⟩
    rcases stamp_push hs hz hq hqs with rfl | hqs
    · rw [hy] at hy'; cases hy'
      exact (hn hc').2
    · exact hmax q hq hqs y' hy' hc'
theorem BestA.take {F : Int → Option AnB} {l : AL Int} {c : Nat} (hs : Stamps l c) {S : Array Nat} {x y : AnB} {z : Int × Value × Nat} (hz : z ∈ l) (hy : F z.1 = some y) (h : BestA F l S x) (hc : candA y) (hn : (x.r = 0 ∧ x.w = 0) ∨ ¬ lessA y x) : BestA F l (S.push z.2.2) y := by
  refine .inr ⟨hc, ⟨z.1, hy⟩, fun q hq hqs y' hy' hc' => ?_⟩
  rcases stamp_push hs hz hq hqs with rfl | hqs
  · rw [hy] at hy'; cases hy'
    unfold lessA; omega
  · rcases h with ⟨r0, w0, hno⟩ | ⟨hcx, _, hmax⟩
    · exact absurd hc' (hno q hq hqs y' hy')
    · have h1 := hmax q hq hqs y' hy' hc'
      have h2 := hn.resolve_left hcx.2
      unfold lessA at *
      omega
theorem aheadW_yes {y x : AnB} (h : aheadW y x = true) : ¬ lessA y x := by
  unfold aheadW at h
  unfold lessA
  split at h
  · omega
  · have := of_decide_eq_true h; omega
theorem aheadW_no {y x : AnB} (h : ¬ aheadW y x = true) : ¬ lessA x y := by
  unfold aheadW at h
  unfold lessA
  split at h
  · omega
  · have h2 : ¬ (x.r < y.r ∨ (y.r = x.r ∧ x.w < y.w)) := fun e => h (decide_eq_true e)
    omega
set_option maxHeartbeats 2000000 in
theorem bChoose_ok (b : Nat) (g : BSt) (va : Option Addr) (vc mp : Nat) (hB : BOk g) :
    Tri Tryz.prog 112 #[.pointer (some ⟨b, 0, none⟩)] (HP.sep (POne b g va vc mp) (HP.sep (RoB va g.val.length g.val) (MapA mp g.ans)))
      (fun v => HP.ex fun val => HP.ex fun va' => HP.ex fun vc' => HP.and (v = .tuple #[] ∧ ChoseB (ansF g.ans 0) g.val val) (HP.sep (POne b { g with val := val } va' vc' mp) (HP.sep (RoB va' val.length val) (MapA mp g.ans)))) := by
  refine (Tri.ex (A := fun l => HP.ex fun cl => HP.and (l.map (·.1) = g.ans.map (·.1)) (HP.sep (POne b g va vc mp) (HP.sep (RoB va g.val.length g.val) (MapH AnV iE mp (ansF g.ans 0) l cl)))) fun l => Tri.ex fun cl => Tri.pure fun hk => ?_).weak (fun R h H => ?_) fun _ _ _ h => h
  · refine Tri.fact (φ := MapI l cl) (fun R h H => (HP.sep_right (HP.sep_right H)).1) fun hI => ?_
    refine tri_of_tree (ρ := [.n b, .i g.acc, .i g.rnd, .i g.who, .a va, .n g.val.length, .n vc, .p (RoB va g.val.length g.val), .i g.phase, .n mp, .p (MapH AnV iE mp (ansF g.ans 0) l cl), .i g.agreed]) mixed Tryz.func112 tree_bChoose ?_
    unfold t_bChoose
    simp only [T.den, E.prop, E.den, RX.look, F1.app, F2.app, Uni.int_i, Uni.nat_n, Uni.bool_c, Uni.str_s, Uni.adr_a, Uni.val_v, Uni.hp_p, hden, cden, V.den, W.den, A.den, BR.den, SA.den, FV.den, capV, exs, exP, allP, Cur.app, List.map_cons, List.map_nil, List.cons_append, List.nil_append, List.drop_succ_cons, List.drop_zero, List.length_cons, List.length_nil, Nat.zero_add, Nat.reduceAdd, Int.neg_neg, Bool.not_not, List.append_nil, Nat.add_zero, List.getElem?_cons_zero, List.getElem?_cons_succ, Decidable.not_not, semW_eq, semW_range, semW_next, semW_entry, ne_eq, Nat.reduceEqDiff, not_false_eq_true]
    intro _
    refine ((range_ok (m := mp) (l := l) (c := cl) (enc := iE) undMpA).frame (Vals AnV l (ansF g.ans 0))).weak (fun R h H => H.2) ?_
    rintro v R h ⟨h1, h2, d, l1, l2, ⟨it, rfl, H⟩, HV⟩
    have Hst : (HP.sep (HP.one it (.mapIter (some mp) cl #[] cl)) (MapH AnV iE mp (ansF g.ans 0) l cl)).p R h := HP.sep_mono (HP.sep_assoc ⟨h1, h2, d, l1, l2, H, HV⟩) (fun _ h => h) fun y hy => ⟨hI, hy⟩
    clear H HV d l1 l2
    let J : HP → HP → Int → Bool → Int → Int → Option Addr → Nat → Nat → HP → Nat → Prop := fun Pi Pm t ok r w ba bn _ Pb N => ∃ (S : Array Nat) (x : AnB), Pi = HP.one it (.mapIter (some mp) cl S cl) ∧ Pm = MapH AnV iE mp (ansF g.ans 0) l cl ∧ t = x.turn ∧ ok = x.ok ∧ r = x.r ∧ w = x.w ∧ bn = x.val.length ∧ (∀ R h, Pb.p R h → (RoB ba x.val.length x.val).p R h) ∧ BestA (ansF g.ans 0) l S x ∧ leftN l S = N
    refine ⟨it, _, _, rfl, ⟨fun Pi Pm t ok r w ba bn bc Pb => ∃ N, J Pi Pm t ok r w ba bn bc Pb N, fun Pi Pm t ok r w ba bn bc Pb => leastN (J Pi Pm t ok r w ba bn bc Pb), ⟨_, #[], ⟨0, false, 0, 0, []⟩, rfl, rfl, rfl, rfl, rfl, rfl, rfl, fun R h _ => RoB0 none, .inl ⟨rfl, rfl, fun z _ hz => absurd hz (by simp)⟩, rfl⟩, ?_⟩, Hst⟩
    intro Pi Pm t ok r w ba bn bc Pb hJ
    have hJ' := leastN_spec hJ
    generalize hNe : leastN (J Pi Pm t ok r w ba bn bc Pb) = N at hJ'
    obtain ⟨S, x, rfl, rfl, rfl, rfl, rfl, rfl, rfl, hPb, hbest, hN⟩ := hJ'
    clear hJ
    refine (next_map hI.2).weak (fun _ _ h => h) ?_
    rintro v R h ⟨e, he, H⟩
    rcases e with _ | z
    · refine ⟨false, .tuple #[], .tuple #[], _, he.1, ⟨fun h => (by cases h), fun _ => ?_⟩, H⟩
      clear H
      have seen : ∀ k y, ansF g.ans 0 k = some y → ∃ q ∈ l, q.1 = k ∧ q.2.2 ∈ S := fun k y hy => by
        have hm : k ∈ g.ans.map (·.1) := Classical.byContradiction fun hn => by rw [ansF_none.2 hn] at hy; cases hy
        rw [← hk] at hm
        obtain ⟨q, hq, rfl⟩ := List.mem_map.1 hm
        exact ⟨q, hq, rfl, he.2 q hq⟩
      have hiff : (!(decide (x.r = 0) && decide (x.w = 0))) = true ↔ ¬ (x.r = 0 ∧ x.w = 0) := by
        by_cases e1 : x.r = 0 <;> by_cases e2 : x.w = 0 <;> simp [e1, e2]
      refine ⟨_, neqBW (by decide), fun h1 => .of fun R h H => ?_, fun h1 => .of fun R h H => ?_⟩
      · rcases hbest with ⟨r0, w0, _⟩ | ⟨hc, ⟨k0, hk0⟩, hmax⟩
        · exact absurd ⟨r0, w0⟩ (hiff.1 h1)
        · refine ⟨x.val, ba, bc, ⟨trivial, .inr ⟨k0, x, hk0, hc, rfl, fun k' y hy hcy => ?_⟩⟩, HP.sep_mono H (fun _ h => h) fun z hz => HP.sep_mono hz (fun u hu => hPb R u hu) fun u hu => ⟨l, cl, hk, HP.sep_left hu⟩⟩
          obtain ⟨q, hq, rfl, hqs⟩ := seen k' y hy
          exact hmax q hq hqs y hy hcy
      · rcases hbest with ⟨r0, w0, hno⟩ | ⟨hc, _, _⟩
        · refine ⟨g.val, va, vc, ⟨trivial, .inl ⟨fun k' y hy => ?_, rfl⟩⟩, HP.sep_mono H (fun _ h => h) fun z hz => HP.sep_mono hz (fun _ h => h) fun u hu => ⟨l, cl, hk, hu⟩⟩
          obtain ⟨q, hq, rfl, hqs⟩ := seen k' y hy
          exact hno q hq hqs y hy
        · exact absurd (hiff.2 hc.2) h1
    · obtain ⟨rfl, hz, hzS⟩ := he
      have hfind : alFind z.1 l = some z.2.1 := alFind_mem z.1 z.2.1 z.2.2 l hI.1 hz
      obtain ⟨y, hy, a, c, hv⟩ : ∃ y, ansF g.ans 0 z.1 = some y ∧ ∃ a c, z.2.1 = .agg (y.vals a c) := by
        have Hm := HP.sep_right H
        cases hfk : ansF g.ans 0 z.1 with
        | none => rw [MapH.no Hm hfk] at hfind; cases hfind
        | some y =>
          obtain ⟨v, hv, a, c, ⟨e, _⟩, _⟩ := MapH.yes Hm AnV.pers hfk h
          rw [hfind] at hv; cases hv
          exact ⟨y, rfl, a, c, e⟩
      refine ⟨true, iE z.1, z.2.1, _, rfl, ⟨fun _ => ?_, fun h => by simp at h⟩, H⟩
      clear H
      have hent := entry_ok (enc := iE) (it := it) (m := mp) (c := cl) (S := S) (x := z) hI.2 hz (A := HP.sep (HP.one it (.mapIter (some mp) cl (nextI S (some z)) cl)) (MapH AnV iE mp (ansF g.ans 0) l cl)) (fun R h H => HP.sep_left H) (fun R h H => MapH.at (HP.sep_right H))
      rw [hv] at hent
      have fin : ∀ (x' : AnB) (ba' : Option Addr) (bc' : Nat) (Pb' : HP), (∀ R h, Pb'.p R h → (RoB ba' x'.val.length x'.val).p R h) → BestA (ansF g.ans 0) l (S.push z.2.2) x' →
          (∃ N, J (HP.one it (.mapIter (some mp) cl (nextI S (some z)) cl)) (MapH AnV iE mp (ansF g.ans 0) l cl) x'.turn x'.ok x'.r x'.w ba' x'.val.length bc' Pb' N) ∧ leastN (J (HP.one it (.mapIter (some mp) cl (nextI S (some z)) cl)) (MapH AnV iE mp (ansF g.ans 0) l cl) x'.turn x'.ok x'.r x'.w ba' x'.val.length bc' Pb') < leastN (J (HP.one it (.mapIter (some mp) cl S cl)) (MapH AnV iE mp (ansF g.ans 0) l cl) x.turn x.ok x.r x.w ba x.val.length bc Pb) := fun x' ba' bc' Pb' h1 h2 => by
        have hJ2 : J (HP.one it (.mapIter (some mp) cl (nextI S (some z)) cl)) (MapH AnV iE mp (ansF g.ans 0) l cl) x'.turn x'.ok x'.r x'.w ba' x'.val.length bc' Pb' (leftN l (S.push z.2.2)) := ⟨S.push z.2.2, x', rfl, rfl, rfl, rfl, rfl, rfl, rfl, h1, h2, rfl⟩
        exact ⟨⟨_, hJ2⟩, Nat.lt_of_le_of_lt (leastN_le hJ2) (by rw [hNe, ← hN]; exact leftN_push hz hzS)⟩
      refine OTri.ofRead hent fun R' h' H' => ⟨z.1, y.turn, y.ok, y.r, y.w, a, y.val.length, c, RoB a y.val.length y.val, HP.one it (.mapIter (some mp) cl (nextI S (some z)) cl), MapH AnV iE mp (ansF g.ans 0) l cl, rfl, fun nb => ?_, ?_⟩
      · refine ⟨fun h1 => fin x ba bc Pb hPb (hbest.skip hI.2 hz hy fun hc => absurd hc.1 h1), fun h1 => ⟨_, eqBW (by decide), fun h2 => ?_, fun h2 => ⟨_, eqBW (by decide), fun h3 => ?_, fun h3 => ?_⟩⟩⟩
        · exact fin x ba bc Pb hPb (hbest.skip hI.2 hz hy fun hc => absurd (by simpa using h2) hc.2)
        · exact fin y a c _ (fun _ _ h => h) (hbest.take hI.2 hz hy ⟨h1, by simpa using h2⟩ (.inl (by simpa using h3)))
        · have hcx : candA x := by
            rcases hbest with ⟨r0, w0, _⟩ | ⟨hc, _⟩
            · exact absurd (by simp [r0, w0]) h3
            · exact hc
          have hcy : candA y := ⟨h1, by simpa using h2⟩
          refine (bAhead_ok (RoB a y.val.length y.val) (HP.sep (MapH AnV iE mp (ansF g.ans 0) l cl) Pb) y x a ba c bc).weak (fun _ _ h => h) ?_
          rintro v R h ⟨rfl, H⟩
          exact ⟨_, rfl, ⟨fun h4 => fin y a c _ (fun _ _ h => h) (hbest.take hI.2 hz hy hcy (.inr (aheadW_yes h4))), fun h4 => fin x ba bc Pb hPb (hbest.skip hI.2 hz hy fun _ => ⟨hcx, aheadW_no h4⟩)⟩, H⟩
      · obtain ⟨v, hv', a', c', ⟨e, _⟩, hro⟩ := MapH.yes (HP.sep_right H') AnV.pers hy h'
        rw [hfind, hv] at hv'
        cases hv'
        simp only [Value.agg.injEq, Array.mk.injEq, List.cons.injEq, Value.slice.injEq, and_true, true_and] at e
        obtain ⟨rfl, rfl⟩ := e
        exact RoC.join hro H'
  · obtain ⟨h1, h2, e1, l1, l2, HO, h3, h4, e2, l3, l4, HP', ⟨l, cl, hk, HM⟩⟩ := H
    exact ⟨l, cl, hk, h1, h2, e1, l1, l2, HO, h3, h4, e2, l3, l4, HP', HM⟩
end Go.Proofs.YtbmajijnjkicmaaGreatDoor



namespace Go.Proofs.YtbmajijnjkicmaaGreatDoor
set_option linter.unusedSimpArgs false
set_option linter.unusedVariables false
open Go.Proofs.YtbmajijnjkicmaaGreatDoor RX
set_option maxRecDepth 100000

theorem BRep.tri {f : FuncId} {args : Array Value} {b : Nat} {g : BSt} {K : HP} {B : Value → HP}
    (t : ∀ va vc mp, BOk g → Tri Tryz.prog f args (HP.sep (POne b g va vc mp) (HP.sep (RoB va g.val.length g.val) (HP.sep (MapA mp g.ans) K))) B) : Tri Tryz.prog f args (HP.sep (BRep b g) K) B := by
  refine (Tri.ex (A := fun va => HP.ex fun vc => HP.ex fun mp => HP.and (BOk g) (HP.sep (POne b g va vc mp) (HP.sep (RoB va g.val.length g.val) (HP.sep (MapA mp g.ans) K)))) fun va => Tri.ex fun vc => Tri.ex fun mp => Tri.pure fun h => t va vc mp h).weak (fun R h H => ?_) fun _ _ _ h => h
  obtain ⟨h1, h2, d, l1, l2, ⟨va, vc, mp, hB, H⟩, HK⟩ := H
  exact ⟨va, vc, mp, hB, HP.sep_mono (HP.sep_assoc ⟨h1, h2, d, l1, l2, H, HK⟩) (fun _ h => h) fun y hy => HP.sep_assoc hy⟩
theorem bAskedA_ok (b : Nat) (g : BSt) (va : Option Addr) (vc mp : Nat) (P : HP) (f : Int) : Tri Tryz.prog 92 #[.pointer (some ⟨b, 0, none⟩), .int .i64 f] (HP.sep (POne b g va vc mp) (HP.sep P (MapA mp g.ans)))
    (fun v => HP.and (v = .bool (askedB g f)) (HP.sep (POne b g va vc mp) (HP.sep P (MapA mp g.ans)))) := by
  refine (Tri.ex (A := fun l => HP.ex fun cl => HP.and (l.map (·.1) = g.ans.map (·.1)) (HP.sep (POne b g va vc mp) (HP.sep P (MapH AnV iE mp (ansF g.ans 0) l cl)))) fun l => Tri.ex fun cl => Tri.pure fun hk => ?_).weak (fun R h H => ?_) fun _ _ _ h => h
  · exact (bAsked_ok b g va vc mp P f l cl).weak (fun _ _ h => h) fun v R h ⟨e, H⟩ => ⟨e, HP.sep_mono H (fun _ h => h) fun y hy => HP.sep_mono hy (fun _ h => h) fun z hz => ⟨l, cl, hk, hz⟩⟩
  · obtain ⟨h1, h2, e1, l1, l2, HO, h3, h4, e2, l3, l4, HP', ⟨l, cl, hk, HM⟩⟩ := H
    exact ⟨l, cl, hk, h1, h2, e1, l1, l2, HO, h3, h4, e2, l3, l4, HP', HM⟩
def accB (g : BSt) (f e : Int) : BSt :=
  if g.phase = 2 ∧ askedB g f = true then (if (takeB g f ⟨decide (e = 0), 0, 0, []⟩).2 = true then { (takeB g f ⟨decide (e = 0), 0, 0, []⟩).1 with phase := 3 } else (takeB g f ⟨decide (e = 0), 0, 0, []⟩).1) else g
theorem asked_has {g : BSt} {f : Int} (h : askedB g f = true) : hasB g.ans f = false := by
  unfold askedB at h
  rw [Bool.and_eq_true] at h
  simpa using h.2
theorem takeB_val (g : BSt) (f : Int) (x : BA) : (takeB g f x).1.val = g.val := by unfold takeB; split <;> (try split) <;> rfl
theorem takeB_ok {g : BSt} (f : Int) (x : BA) (h : BOk g) : BOk (takeB g f x).1 := by
  obtain ⟨h1, h2, h3, h4, h5⟩ := h
  unfold takeB
  split
  · exact ⟨h1, h2, by show 0 ≤ g.agreed + 1; omega, by show g.agreed + 1 ≤ ((g.ans ++ [(f, x)]).length : Int); simp; omega, h5⟩
  · split <;> exact ⟨h1, h2, h3, by show g.agreed ≤ ((g.ans ++ [(f, x)]).length : Int); simp; omega, h5⟩
theorem bAccepted_ok (b : Nat) (g : BSt) (f e : Int) (hlen : g.ans.length ≤ 100000) : Tri Tryz.prog 63 #[.pointer (some ⟨b, 0, none⟩), .int .i64 f, .int .i64 e] (BRep b g) (fun v => HP.and (v = .tuple #[]) (BRep b (accB g f e))) := by
  refine (BRep.tri (K := HP.tt) fun va vc mp hB => ?_).weak (fun R h H => HP.sep_tt H) fun _ _ _ h => h
  refine Tri.weak (A := HP.sep (POne b g va vc mp) (HP.sep (RoB va g.val.length g.val) (MapA mp g.ans))) ?_ (fun R h H => HP.sep_mono H (fun _ h => h) fun y hy => HP.sep_mono hy (fun _ h => h) fun z hz => HP.sep_left hz) fun _ _ _ h => h
  refine tri_of_tree (ρ := [.n b, .i g.acc, .i g.rnd, .i g.who, .a va, .n g.val.length, .n vc, .p (RoB va g.val.length g.val), .i g.phase, .n mp, .p (MapA mp g.ans), .i g.agreed, .i f, .i e]) mixed Tryz.func63 tree_bAccepted ?_
  unfold t_bAccepted
  simp only [T.den, E.prop, E.den, RX.look, F1.app, F2.app, Uni.int_i, Uni.nat_n, Uni.bool_c, Uni.str_s, Uni.adr_a, Uni.val_v, Uni.hp_p, hden, cden, V.den, W.den, A.den, BR.den, SA.den, FV.den, capV, exs, exP, allP, Cur.app, List.map_cons, List.map_nil, List.cons_append, List.nil_append, List.drop_succ_cons, List.drop_zero, List.length_cons, List.length_nil, Nat.zero_add, Nat.reduceAdd, Int.neg_neg, Bool.not_not, List.append_nil, Nat.add_zero, List.getElem?_cons_zero, List.getElem?_cons_succ, Decidable.not_not, semW_eq, ne_eq, Nat.reduceEqDiff, not_false_eq_true]
  have same : accB g f e = g → HP.ent (HP.sep (POne b g va vc mp) (HP.sep (RoB va g.val.length g.val) (MapA mp g.ans))) (HP.and True (BRep b (accB g f e))) := fun h => .of fun R y H => ⟨trivial, by rw [h]; exact ⟨va, vc, mp, hB, H⟩⟩
  refine ⟨fun h1 => same (if_neg fun h => h1 h.1), fun h1 => ?_⟩
  refine (bAskedA_ok b g va vc mp (RoB va g.val.length g.val) f).weak (fun _ _ h => h) ?_
  rintro v R h ⟨rfl, H⟩
  refine ⟨_, rfl, ⟨fun h2 => same (if_neg fun h => h2 h.2), fun h2 => ?_⟩, H⟩
  clear H
  have hT := takeB_ok f ⟨decide (e = 0), 0, 0, []⟩ hB
  have hv := takeB_val g f ⟨decide (e = 0), 0, 0, []⟩
  have hacc : accB g f e = if (takeB g f ⟨decide (e = 0), 0, 0, []⟩).2 = true then { (takeB g f ⟨decide (e = 0), 0, 0, []⟩).1 with phase := 3 } else (takeB g f ⟨decide (e = 0), 0, 0, []⟩).1 := if_pos ⟨h1, h2⟩
  refine (bTake_ok b g va vc mp (RoB va g.val.length g.val) f ⟨decide (e = 0), 0, 0, []⟩ 0 none 0 (by simp) (asked_has h2) hlen hB).weak (fun R h H => HP.sep_mono H (fun _ h => h) fun y hy => HP.sep_mono hy (fun _ h => h) fun z hz => RoC.joinR (RoB0 none : (RoB none 0 []).p R z) hz) ?_
  rw [hacc]
  clear hacc same
  revert hT hv
  generalize takeB g f ⟨decide (e = 0), 0, 0, []⟩ = T
  intro hT hv
  rintro v R h ⟨rfl, H⟩
  rw [← hv] at H
  refine ⟨T.2, T.1.acc, T.1.rnd, T.1.who, va, T.1.val.length, vc, RoB va T.1.val.length T.1.val, T.1.phase, mp, MapA mp T.1.ans, T.1.agreed, rfl, ⟨fun h => .of fun R y H => ⟨trivial, ?_⟩, fun h => .of fun R y H => ⟨trivial, ?_⟩⟩, HP.sep_mono H (fun _ h => h) fun y hy => HP.sep_mono hy (fun _ h => h) fun z hz => HP.sep_left hz⟩
  · rw [if_pos h]; exact ⟨va, vc, mp, hT, H⟩
  · rw [if_neg h]; exact ⟨va, vc, mp, hT, H⟩
def promA (r w : Int) (l : List UInt8) (e : Int) : BA := if e = 0 then ⟨true, r, w, l⟩ else ⟨false, 0, 0, []⟩
def PromB (g : BSt) (f r w : Int) (l : List UInt8) (e : Int) (g' : BSt) : Prop :=
  if g.phase = 1 ∧ askedB g f = true then
    (if (takeB g f (promA r w l e)).2 = true then ∃ val, ChoseB (ansF (takeB g f (promA r w l e)).1.ans 0) g.val val ∧ g' = { (takeB g f (promA r w l e)).1 with val := val, phase := 2, ans := [], agreed := 0 } else g' = (takeB g f (promA r w l e)).1)
  else g' = g
theorem ChoseB.le {L : List (Int × BA)} {v0 v : List UInt8} (h : ChoseB (ansF L 0) v0 v) (h0 : v0.length ≤ 140737488355328) (hL : ∀ x ∈ L, x.2.val.length ≤ 140737488355328) : v.length ≤ 140737488355328 := by
  have aux : ∀ (L : List (Int × BA)) (i k : Int) (x : AnB), ansF L i k = some x → ∃ y ∈ L, y.2.val = x.val := fun L => by
    induction L with
    | nil => intro i k x h; cases h
    | cons y L ih =>
      intro i k x h
      simp only [ansF] at h
      split at h
      · cases h; exact ⟨y, by simp, rfl⟩
      · obtain ⟨z, hz, e⟩ := ih (i + 1) k x h; exact ⟨z, List.mem_cons_of_mem _ hz, e⟩
  rcases h with ⟨_, rfl⟩ | ⟨k, x, hx, _, rfl, _⟩
  · exact h0
  · obtain ⟨y, hy, e⟩ := aux L 0 k x hx
    rw [← e]; exact hL y hy
theorem MapA.new (mp : Nat) {R h : PH} (H : (HP.one mp (.map #[] 0)).p R h) : (MapA mp []).p R h :=
  ⟨[], 0, rfl, MapI.nil 0, HP.sep_mono (HP.sep_tt H) (fun _ h => h) fun _ _ _ => trivial⟩
theorem bPromised_ok (b : Nat) (g : BSt) (f r w e : Int) (a : Option Addr) (c : Nat) (l : List UInt8) (hl : l.length ≤ 140737488355328) (hL : ∀ x ∈ g.ans, x.2.val.length ≤ 140737488355328) (hlen : g.ans.length ≤ 100000) :
    Tri Tryz.prog 62 #[.pointer (some ⟨b, 0, none⟩), .int .i64 f, .agg #[.int .i64 r, .int .i64 w], .slice a l.length c, .int .i64 e] (HP.sep (BRep b g) (RoB a l.length l)) (fun v => HP.ex fun g' => HP.and (v = .tuple #[] ∧ PromB g f r w l e g') (BRep b g')) := by
  refine BRep.tri fun va vc mp hB => ?_
  refine tri_of_tree (ρ := [.n b, .i g.acc, .i g.rnd, .i g.who, .a va, .n g.val.length, .n vc, .p (RoB va g.val.length g.val), .i g.phase, .n mp, .p (MapA mp g.ans), .i g.agreed, .i f, .i r, .i w, .a a, .n l.length, .n c, .p (RoB a l.length l), .i e]) mixed Tryz.func62 tree_bPromised ?_
  unfold t_bPromised
  simp only [T.den, E.prop, E.den, RX.look, F1.app, F2.app, Uni.int_i, Uni.nat_n, Uni.bool_c, Uni.str_s, Uni.adr_a, Uni.val_v, Uni.hp_p, hden, cden, V.den, W.den, A.den, BR.den, SA.den, FV.den, capV, exs, exP, allP, Cur.app, List.map_cons, List.map_nil, List.cons_append, List.nil_append, List.drop_succ_cons, List.drop_zero, List.length_cons, List.length_nil, Nat.zero_add, Nat.reduceAdd, Int.neg_neg, Bool.not_not, List.append_nil, Nat.add_zero, List.getElem?_cons_zero, List.getElem?_cons_succ, Decidable.not_not, semW_eq, ne_eq, Nat.reduceEqDiff, not_false_eq_true]
  intro _
  have same : ¬ (g.phase = 1 ∧ askedB g f = true) → HP.ent (HP.sep (POne b g va vc mp) (HP.sep (RoB va g.val.length g.val) (HP.sep (MapA mp g.ans) (RoB a l.length l)))) (HP.ex fun g' => HP.and (True ∧ PromB g f r w l e g') (BRep b g')) := fun h => .of fun R y H => ⟨g, ⟨trivial, by unfold PromB; rw [if_neg h]⟩, va, vc, mp, hB, HP.sep_mono H (fun _ h => h) fun y hy => HP.sep_mono hy (fun _ h => h) fun z hz => HP.sep_left hz⟩
  refine ⟨fun h1 => same (fun h => h1 h.1), fun h1 => ?_⟩
  refine (bAskedA_ok b g va vc mp (RoB va g.val.length g.val) f).weak (fun _ _ h => h) ?_
  rintro v R h ⟨rfl, H⟩
  refine ⟨_, rfl, ⟨fun h2 => same (fun h => h2 h.2), fun h2 _ => ⟨fun h3 => ?_, fun h3 => ?_⟩⟩, H⟩
  · clear H
    refine (cloneR_ok (RoB a l.length l) a l.length c l (RdL.ro _ _ _ _) rfl hl).weak (fun _ _ h => h) ?_
    rintro v R h ⟨a2, c2, rfl, H⟩
    refine ⟨a2, _, c2, RoB a2 l.length l, rfl, ?_, H⟩
    clear H same
    subst h3
    have hx : promA r w l 0 = ⟨true, r, w, l⟩ := if_pos rfl
    have hP : ∀ g', (if (takeB g f ⟨true, r, w, l⟩).2 = true then ∃ val, ChoseB (ansF (takeB g f ⟨true, r, w, l⟩).1.ans 0) g.val val ∧ g' = { (takeB g f ⟨true, r, w, l⟩).1 with val := val, phase := 2, ans := [], agreed := 0 } else g' = (takeB g f ⟨true, r, w, l⟩).1) → PromB g f r w l 0 g' := fun g' h => by unfold PromB; rw [if_pos ⟨h1, h2⟩, hx]; exact h
    have hT := takeB_ok f ⟨true, r, w, l⟩ hB
    have hv := takeB_val g f ⟨true, r, w, l⟩
    refine (bTake_ok b g va vc mp (RoB va g.val.length g.val) f ⟨true, r, w, l⟩ 0 a2 c2 hl (asked_has h2) hlen hB).weak (fun _ _ h => h) ?_
    have hans : ∀ x ∈ (takeB g f ⟨true, r, w, l⟩).1.ans, x.2.val.length ≤ 140737488355328 := fun x hx => by
      have : (takeB g f ⟨true, r, w, l⟩).1.ans = g.ans ++ [(f, ⟨true, r, w, l⟩)] := by unfold takeB; split <;> (try split) <;> rfl
      rw [this] at hx
      rcases List.mem_append.1 hx with hx | hx
      · exact hL x hx
      · obtain rfl := List.mem_singleton.1 hx; exact hl
    revert hT hv hP hans
    generalize takeB g f ⟨true, r, w, l⟩ = T
    intro hP hT hv hans
    rintro v R h ⟨rfl, H⟩
    rw [← hv] at H
    refine ⟨T.2, T.1.acc, T.1.rnd, T.1.who, va, T.1.val.length, vc, RoB va T.1.val.length T.1.val, T.1.phase, mp, MapA mp T.1.ans, T.1.agreed, RoB a2 l.length l, rfl, ⟨fun h => ?_, fun h => .of fun R y H => ⟨T.1, ⟨trivial, hP _ (by rw [if_neg h])⟩, va, vc, mp, hT, HP.sep_mono H (fun _ h => h) fun y hy => HP.sep_mono hy (fun _ h => h) fun z hz => HP.sep_left hz⟩⟩, H⟩
    clear H
    refine (bChoose_ok b T.1 va vc mp hT).weak (fun _ _ h => h) ?_
    rintro v R y ⟨val, va', vc', ⟨rfl, hch⟩, H⟩
    refine ⟨T.1.acc, T.1.rnd, T.1.who, va', val.length, vc', RoB va' val.length val, T.1.phase, mp, MapA mp T.1.ans, T.1.agreed, rfl, fun nb => .of fun R y H => ?_, H⟩
    rw [hv] at hch
    have h0 : g.val.length ≤ 140737488355328 := hB.2.2.2.2
    have hval := hch.le h0 hans
    refine ⟨{ T.1 with val := val, phase := 2, ans := [], agreed := 0 }, ⟨trivial, hP _ (by rw [if_pos h]; exact ⟨val, hch, rfl⟩)⟩, va', vc', nb, ⟨hT.1, hT.2.1, Int.le_refl _, Int.le_refl _, hval⟩, HP.sep_mono H (fun _ h => h) fun y hy => HP.sep_mono hy (fun _ h => h) fun z hz => ?_⟩
    exact MapA.new nb (HP.sep_left hz)
  · clear H same
    have hx : promA r w l e = ⟨decide (e = 0), 0, 0, []⟩ := by unfold promA; rw [if_neg h3, decide_eq_false h3]
    have hno : (takeB g f ⟨decide (e = 0), 0, 0, []⟩).2 = false := by
      unfold takeB
      rw [if_neg (show ¬ decide (e = 0) = true by rw [decide_eq_false h3]; decide)]
      split <;> rfl
    have hP : ∀ g', g' = (takeB g f ⟨decide (e = 0), 0, 0, []⟩).1 → PromB g f r w l e g' := fun g' h => by unfold PromB; rw [if_pos ⟨h1, h2⟩, hx, if_neg (by rw [hno]; decide)]; exact h
    have hT := takeB_ok f ⟨decide (e = 0), 0, 0, []⟩ hB
    have hv := takeB_val g f ⟨decide (e = 0), 0, 0, []⟩
    refine (bTake_ok b g va vc mp (RoB va g.val.length g.val) f ⟨decide (e = 0), 0, 0, []⟩ 0 none 0 (by simp) (asked_has h2) hlen hB).weak (fun R h H => HP.sep_mono H (fun _ h => h) fun y hy => HP.sep_mono hy (fun _ h => h) fun z hz => RoC.joinR (RoB0 none : (RoB none 0 []).p R h) hz) ?_
    clear hx
    revert hno hP hT hv
    generalize takeB g f ⟨decide (e = 0), 0, 0, []⟩ = T
    intro hno hP hT hv
    rintro v R h ⟨rfl, H⟩
    rw [← hv] at H
    exact ⟨T.2, T.1.acc, T.1.rnd, T.1.who, va, T.1.val.length, vc, RoB va T.1.val.length T.1.val, T.1.phase, mp, MapA mp T.1.ans, T.1.agreed, rfl, ⟨fun h => absurd h (by rw [hno]; decide), fun h => .of fun R y H => ⟨T.1, ⟨trivial, hP _ rfl⟩, va, vc, mp, hT, HP.sep_mono H (fun _ h => h) fun y hy => HP.sep_mono hy (fun _ h => h) fun z hz => HP.sep_left hz⟩⟩, HP.sep_mono H (fun _ h => h) fun y hy => HP.sep_mono hy (fun _ h => h) fun z hz => HP.sep_left hz⟩
def startB (acc rnd who : Int) (l : List UInt8) : BSt := ⟨max acc 1, rnd, who, l, 1, [], 0⟩
theorem bStart_ok (acc rnd who : Int) (ha : acc ≤ 10000) (S : HP) (a : Option Addr) (n c : Nat) (l : List UInt8) (hr : RdL S a n (l.map u8v)) (hl : l.length = n) (hb : n ≤ 140737488355328) :
    Tri Tryz.prog 65 #[.int .i64 acc, .agg #[.int .i64 rnd, .int .i64 who], .slice a n c] S (fun v => HP.ex fun b => HP.and (v = .pointer (some ⟨b, 0, none⟩)) (HP.sep S (BRep b (startB acc rnd who l)))) := by
  refine tri_of_tree (ρ := [.i acc, .i rnd, .i who, .a a, .n n, .n c, .p S]) mixed Tryz.func65 tree_bStart ?_
  unfold t_bStart
  simp only [T.den, E.prop, E.den, RX.look, F1.app, F2.app, Uni.int_i, Uni.nat_n, Uni.bool_c, Uni.str_s, Uni.adr_a, Uni.val_v, Uni.hp_p, hden, cden, V.den, W.den, A.den, BR.den, SA.den, FV.den, capV, exs, exP, allP, Cur.app, List.map_cons, List.map_nil, List.cons_append, List.nil_append, List.drop_succ_cons, List.drop_zero, List.length_cons, List.length_nil, Nat.zero_add, Nat.reduceAdd, Int.neg_neg, Bool.not_not, List.append_nil, Nat.add_zero, List.getElem?_cons_zero, List.getElem?_cons_succ, Decidable.not_not, semW_eq, ne_eq, Nat.reduceEqDiff, not_false_eq_true]
  have fin : ∀ (a' : Option Addr) (c' mp b : Nat), HP.ent (HP.sep S (HP.sep (HP.one b (.cells #[.int .i64 (max acc 1), .int .i64 rnd, .int .i64 who, .slice a' n c', .int .i64 1, .map (some mp), .int .i64 0] 154 (0, 0))) (HP.sep (RoB a' n l) (HP.one mp (.map #[] 0)))))
      (HP.ex fun b' => HP.and (Value.pointer (some ⟨b, 0, none⟩) = Value.pointer (some ⟨b', 0, none⟩)) (HP.sep S (BRep b' (startB acc rnd who l)))) := fun a' c' mp b => .of fun R y H => ⟨b, rfl, HP.sep_mono H (fun _ h => h) fun z hz => ⟨a', c', mp, ⟨by show 1 ≤ max acc 1; omega, by show max acc 1 ≤ 10000; omega, Int.le_refl _, Int.le_refl _, by show l.length ≤ _; omega⟩, by
    subst hl
    exact HP.sep_mono hz (fun _ h => h) fun u hu => HP.sep_mono hu (fun _ h => h) fun q hq => MapA.new mp hq⟩⟩
  intro _
  refine ⟨?_, fun mp => ?_⟩
  · refine (cloneR_ok S a n c l hr hl hb).weak (fun _ _ h => h) ?_
    rintro v R h ⟨a', c', rfl, H⟩
    exact ⟨a', n, c', RoB a' n l, rfl, fun mp b => fin a' c' mp b, H⟩
  · refine (cloneR_ok S a n c l hr hl hb).weak (fun _ _ h => h) ?_
    rintro v R h ⟨a', c', rfl, H⟩
    exact ⟨a', n, c', RoB a' n l, rfl, fun b => fin a' c' mp b, H⟩
theorem bPhaseR_ok (b : Nat) (g : BSt) : Tri Tryz.prog 64 #[.pointer (some ⟨b, 0, none⟩)] (BRep b g) (fun v => HP.and (v = .int .i64 g.phase) (BRep b g)) :=
  (BRep.tri (K := HP.tt) fun va vc mp hB => (bPhase_ok b g va vc mp (RoB va g.val.length g.val) (HP.sep (MapA mp g.ans) HP.tt)).weak (fun _ _ h => h) (B' := fun v => HP.and (v = .int .i64 g.phase) (BRep b g)) fun v R h ⟨e, H⟩ =>
    ⟨e, va, vc, mp, hB, HP.sep_mono H (fun _ h => h) fun y hy => HP.sep_mono hy (fun _ h => h) fun z hz => HP.sep_left hz⟩).weak (fun R h H => HP.sep_tt H) fun _ _ _ h => h
theorem bBallotR_ok (b : Nat) (g : BSt) : Tri Tryz.prog 67 #[.pointer (some ⟨b, 0, none⟩)] (BRep b g) (fun v => HP.and (v = .agg #[.int .i64 g.rnd, .int .i64 g.who]) (BRep b g)) :=
  (BRep.tri (K := HP.tt) fun va vc mp hB => (bBallot_ok b g va vc mp (RoB va g.val.length g.val) (HP.sep (MapA mp g.ans) HP.tt)).weak (fun _ _ h => h) (B' := fun v => HP.and (v = .agg #[.int .i64 g.rnd, .int .i64 g.who]) (BRep b g)) fun v R h ⟨e, H⟩ =>
    ⟨e, va, vc, mp, hB, HP.sep_mono H (fun _ h => h) fun y hy => HP.sep_mono hy (fun _ h => h) fun z hz => HP.sep_left hz⟩).weak (fun R h H => HP.sep_tt H) fun _ _ _ h => h
theorem bValueR_ok (b : Nat) (g : BSt) : Tri Tryz.prog 69 #[.pointer (some ⟨b, 0, none⟩)] (BRep b g) (fun v => HP.ex fun a => HP.ex fun c => HP.and (v = .slice a g.val.length c) (HP.sep (RoB a g.val.length g.val) (BRep b g))) :=
  (BRep.tri (K := HP.tt) fun va vc mp hB => (bValue_ok b g va vc mp (HP.sep (MapA mp g.ans) HP.tt) hB.2.2.2.2).weak (fun _ _ h => h) (B' := fun v => HP.ex fun a => HP.ex fun c => HP.and (v = .slice a g.val.length c) (HP.sep (RoB a g.val.length g.val) (BRep b g))) fun v R h ⟨a, c, e, H⟩ =>
    ⟨a, c, e, HP.sep_mono H (fun _ h => h) fun y hy => ⟨va, vc, mp, hB, HP.sep_mono hy (fun _ h => h) fun z hz => HP.sep_mono hz (fun _ h => h) fun q hq => HP.sep_left hq⟩⟩).weak (fun R h H => HP.sep_tt H) fun _ _ _ h => h
theorem bAskedR_ok (b : Nat) (g : BSt) (f : Int) : Tri Tryz.prog 92 #[.pointer (some ⟨b, 0, none⟩), .int .i64 f] (BRep b g) (fun v => HP.and (v = .bool (askedB g f)) (BRep b g)) :=
  (BRep.tri (K := HP.tt) fun va vc mp hB => ((bAskedA_ok b g va vc mp (RoB va g.val.length g.val) f).frame HP.tt).weak (fun R h H => HP.sep_assoc' (HP.sep_mono H (fun _ h => h) fun y hy => HP.sep_assoc' hy)) (B' := fun v => HP.and (v = .bool (askedB g f)) (BRep b g)) fun v R h H => by
    obtain ⟨e, H⟩ := HP.sep_left H
    exact ⟨e, va, vc, mp, hB, H⟩).weak (fun R h H => HP.sep_tt H) fun _ _ _ h => h
end Go.Proofs.YtbmajijnjkicmaaGreatDoor



namespace Go.Proofs.YtbmajijnjkicmaaGreatDoor.RX
set_option maxRecDepth 100000
-- tideline/device.New: ρ := [.i pages]
def t_dNew : T :=
(.br (.o2 .lt (.v 0) (.i 1))
(.ret (.tup [.a .nilp, .a (.int .i64 (.i 2))]) [])
(.br (.o2 .lt (.i 65536) (.v 0))
(.ret (.tup [.a .nilp, .a (.int .i64 (.i 2))]) [])
(.new
(.ret (.tup [.a (.ptr (.v 1) 0), .a (.int .i64 (.i 0))]) [(.b (.v 1), .cells [.int .i64 (.v 0), .sl .nil (.n 0) (.n 0), .int .i64 (.i 0)] 102)]))))
theorem tree_dNew : tree Tryz.prog { } Tryz.f26 [.a (.int .i64 (.v 0))] [] 1 = t_dNew := by kernel_rfl
def t_dFree : T :=
(.need (.o1 (.inr .i64) (.o2 .sub (.v 1) (.o1 .ofNat (.v 3))))
(.ret (.w (.a (.int .i64 (.o2 .sub (.v 1) (.o1 .ofNat (.v 3)))))) [(.b (.v 0), .cells [.int .i64 (.v 1), .sl (.v 2) (.v 3) (.v 4), .int .i64 (.v 6)] 102), (.a 2, .prop 5)]))
theorem tree_dFree : tree Tryz.prog { } Tryz.f129 [.a (.ptr (.v 0) 0)] [(.b (.v 0), .cells [.int .i64 (.v 1), .sl (.v 2) (.v 3) (.v 4), .int .i64 (.v 6)] 102), (.a 2, .prop 5)] 7 = t_dFree := by kernel_rfl
def t_dAppend : T :=
(.call 129 [.a (.ptr (.v 0) 0)] [(.b (.v 0), .cells [.int .i64 (.v 1), .sl (.v 2) (.v 3) (.v 4), .int .i64 (.v 6)] 102), (.a 2, .prop 5)] [.i] (.w (.a (.int .i64 (.v 11)))) [(.b (.v 0), .cells [.int .i64 (.v 1), .sl (.v 2) (.v 3) (.v 4), .int .i64 (.v 6)] 102), (.a 2, .prop 5)]
(.br (.o2 .eq (.v 11) (.i 0))
(.ret (.w (.a (.int .i64 (.i 4)))) [(.b (.v 0), .cells [.int .i64 (.v 1), .sl (.v 2) (.v 3) (.v 4), .int .i64 (.v 6)] 102), (.a 2, .prop 5), (.a 7, .prop 10)])
(.call 74 [.a (.sl (.v 7) (.v 8) (.v 9))] [(.a 7, .prop 10)] [.a, .n, .n, .p, .p] (.w (.a (.sl (.v 12) (.v 13) (.v 14)))) [(.a 12, .prop 15), (.a 7, .prop 16)]
(.new
(.op (.call ⟨.builtin .append, #[.tmp 12, .tmp 16], #[100, 100]⟩) 100 [(12, .w (.a (.sl (.v 2) (.v 3) (.v 4)))), (16, .w (.a (.sl (.b (.v 17) 0) (.n 1) (.n 1))))] [(.a 2, .prop 5), (.b (.v 17), .cells [.int .i64 (.i 1), .sl (.v 12) (.v 13) (.v 14)] 177), (.a 12, .prop 15)] [.a, .n, .n, .p] (.w (.a (.sl (.v 18) (.v 19) (.v 20)))) [(.a 18, .prop 21), (.b (.v 17), .cells [.int .i64 (.i 1), .sl (.v 12) (.v 13) (.v 14)] 177), (.a 12, .prop 15)]
(.ret (.w (.a (.int .i64 (.i 0)))) [(.b (.v 0), .cells [.int .i64 (.v 1), .sl (.v 18) (.v 19) (.v 20), .int .i64 (.v 6)] 102), (.a 18, .prop 21), (.a 7, .prop 16)]))))))
theorem tree_dAppend : tree Tryz.prog { keep := [129] } Tryz.f75 [.a (.ptr (.v 0) 0), .a (.sl (.v 7) (.v 8) (.v 9))] [(.b (.v 0), .cells [.int .i64 (.v 1), .sl (.v 2) (.v 3) (.v 4), .int .i64 (.v 6)] 102), (.a 2, .prop 5), (.a 7, .prop 10)] 11 = t_dAppend := by kernel_rfl
def t_dSync : T :=
(.ret (.tup []) [(.b (.v 0), .cells [.int .i64 (.v 1), .sl (.v 2) (.v 3) (.v 4), .int .i64 (.o1 .ofNat (.v 3))] 102), (.a 2, .prop 5)])
theorem tree_dSync : tree Tryz.prog { } Tryz.f76 [.a (.ptr (.v 0) 0)] [(.b (.v 0), .cells [.int .i64 (.v 1), .sl (.v 2) (.v 3) (.v 4), .int .i64 (.v 6)] 102), (.a 2, .prop 5)] 7 = t_dSync := by kernel_rfl
def t_dWhole : T :=
(.new
(.ret (.w (.a (.func 130 [(.v 2, 0)]))) [(.b (.v 0), .prop 1), (.b (.v 2), .cells [.ptr (.v 0) 0] 68)]))
theorem tree_dWhole : tree Tryz.prog { } Tryz.f80 [.a (.ptr (.v 0) 0)] [(.b (.v 0), .prop 1)] 2 = t_dWhole := by kernel_rfl
def t_dWhole1 : T :=
(.loop [.i, .p] [.e (.o1 .neg (.o1 .neg (.i 0))), .p [(.a 0, .prop 1)]]
(.br (.o2 .lt (.v 10) (.o1 .ofNat (.v 6)))
(.need (.o2 .le (.i 0) (.v 10))
(.need (.o1 .isSome (.v 5))
(.read (.load 177 (.tmp 12)) 177 [(12, .w (.a (.eptr 5 (.v 10) 2 0)))] [(.a 5, .prop 8)] [.i, .a, .n, .n] (.w (.agg [.int .i64 (.v 12), .sl (.v 13) (.v 14) (.v 15)]))
(.new
(.br (.o2 .eq (.v 12) (.i 1))
   (.callv 0 [.a (.sl (.v 13) (.v 14) (.v 15))] [(.a 0, .prop 11), (.a 5, .prop 8)] [.c, .p] (.w (.a (.bool (.v 17)))) [(.a 0, .prop 18), (.a 5, .prop 8)]
(.br (.o1 .not (.v 17))
(.ret (.tup []) [(.a 0, .prop 18), (.b (.v 2), .cells [.ptr (.v 3) 0] 68), (.b (.v 3), .cells [.int .i64 (.v 4), .sl (.v 5) (.v 6) (.v 7), .int .i64 (.v 9)] 102), (.a 5, .prop 8)])
(.need (.o1 (.inr .i64) (.o2 .add (.v 10) (.i 1)))
(.again 0 [.e (.o1 .neg (.o1 .neg (.o2 .add (.v 10) (.i 1)))), .p [(.a 0, .prop 18)]]))))
(.need (.o1 (.inr .i64) (.o2 .add (.v 10) (.i 1)))
(.again 0 [.e (.o1 .neg (.o1 .neg (.o2 .add (.v 10) (.i 1)))), .p [(.a 0, .prop 11)]])))))))
(.ret (.tup []) [(.a 0, .prop 11), (.b (.v 2), .cells [.ptr (.v 3) 0] 68), (.b (.v 3), .cells [.int .i64 (.v 4), .sl (.v 5) (.v 6) (.v 7), .int .i64 (.v 9)] 102), (.a 5, .prop 8)])))
theorem tree_dWhole1 : tree Tryz.prog { hv := [(0, [.a 0])] } Tryz.f130 [.a (.val 0), .a (.ptr (.v 2) 0)] [(.a 0, .prop 1), (.b (.v 2), .cells [.ptr (.v 3) 0] 68), (.b (.v 3), .cells [.int .i64 (.v 4), .sl (.v 5) (.v 6) (.v 7), .int .i64 (.v 9)] 102), (.a 5, .prop 8)] 10 = t_dWhole1 := by kernel_rfl
def t_dPages : T :=
(.new
(.call 80 [.a (.ptr (.v 0) 0)] [(.b (.v 0), .prop 1)] [.v, .p] (.w (.a (.val 3))) [(.a 3, .prop 4), (.b (.v 0), .prop 1)]
(.new
(.rangef (.val 3) [(.a 3, .prop 4), (.b (.v 0), .prop 1)] [] [.a, .n, .n, .p] [.a .nil, .e (.o2 .nadd (.n 0) (.n 0)), .e (.o2 .nadd (.n 0) (.n 0)), .p []] [.a, .n, .n, .p] [.a (.sl (.v 10) (.v 11) (.v 12))] [(.a 10, .prop 13)]
(.call 74 [.a (.sl (.v 10) (.v 11) (.v 12))] [(.a 10, .prop 13)] [.a, .n, .n, .p, .p] (.w (.a (.sl (.v 14) (.v 15) (.v 16)))) [(.a 14, .prop 17), (.a 10, .prop 18)]
(.new
(.op (.call ⟨.builtin .append, #[.tmp 8, .tmp 11], #[103, 103]⟩) 103 [(8, .w (.a (.sl (.v 6) (.v 7) (.v 8)))), (11, .w (.a (.sl (.b (.v 19) 0) (.n 1) (.n 1))))] [(.a 6, .prop 9), (.b (.v 19), .cells [.sl (.v 14) (.v 15) (.v 16)] 35), (.a 14, .prop 17)] [.a, .n, .n, .p] (.w (.a (.sl (.v 20) (.v 21) (.v 22)))) [(.a 20, .prop 23), (.b (.v 19), .cells [.sl (.v 14) (.v 15) (.v 16)] 35), (.a 14, .prop 17)]
(.again 0 [.a (.v 20), .e (.o2 .nadd (.v 21) (.n 0)), .e (.o2 .nadd (.v 22) (.n 0)), .p [(.a 20, .prop 23)]]))))
(.ret (.w (.a (.sl (.v 6) (.v 7) (.v 8)))) [(.b (.v 0), .prop 1), (.a 6, .prop 9)])))))
theorem tree_dPages : tree Tryz.prog { hv := [(0, [.b (.v 2)])], keep := [80], link := [(80, 0)], pty := [(0, [35])] } Tryz.f47 [.a (.ptr (.v 0) 0)] [(.b (.v 0), .prop 1)] 2 = t_dPages := by kernel_rfl
end Go.Proofs.YtbmajijnjkicmaaGreatDoor.RX



namespace Go.Proofs.YtbmajijnjkicmaaGreatDoor
set_option linter.unusedSimpArgs false
set_option linter.unusedVariables false
open Go.Proofs.YtbmajijnjkicmaaGreatDoor RX

structure Pg where
  is : Int
  data : List UInt8
structure PgRec where
  is : Int
  a : Option Addr
  n : Nat
  c : Nat
def PgRec.vals (x : PgRec) : List Value := [.int .i64 x.is, .slice x.a x.n x.c]
def pgCells (xs : List PgRec) : List Value := xs.flatMap PgRec.vals
def AllD : List PgRec → List Pg → HP
  | [], [] => HP.tt
  | x :: xs, p :: ps => HP.and (x.is = p.is ∧ x.n = p.data.length ∧ p.data.length ≤ 140737488355328) (HP.sep (RoB x.a x.n p.data) (AllD xs ps))
  | _, _ => HP.pure False
theorem AllD.any {R : PH} : ∀ {xs : List PgRec} {ps : List Pg} {h h' : PH}, (AllD xs ps).p R h → (AllD xs ps).p R h'
  | [], [], _, _, _ => trivial
  | _ :: _, _ :: _, _, h', ⟨q, H⟩ => ⟨q, RoC.join (HP.sep_left H) (AllD.any (h' := h') (HP.sep_right H))⟩
  | [], _ :: _, _, _, H => H
  | _ :: _, [], _, _, H => H
theorem AllD.snoc {R h : PH} {x : PgRec} {p : Pg} (hx : x.is = p.is ∧ x.n = p.data.length ∧ p.data.length ≤ 140737488355328) (hr : (RoB x.a x.n p.data).p R h) : ∀ {xs : List PgRec} {ps : List Pg}, (AllD xs ps).p R h → (AllD (xs ++ [x]) (ps ++ [p])).p R h
  | [], [], _ => ⟨hx, RoC.join hr (trivial : HP.tt.p R h)⟩
  | _ :: _, _ :: _, ⟨q, H⟩ => ⟨q, RoC.join (HP.sep_left H) (AllD.snoc hx hr (HP.sep_right H) |> AllD.any (h' := h))⟩
  | [], _ :: _, H => H.elim
  | _ :: _, [], H => H.elim
def DInv (room : Int) (ps : List Pg) (lasts : Nat) : Prop := 0 ≤ room ∧ room ≤ 65536 ∧ (ps.length : Int) ≤ room ∧ lasts ≤ ps.length
def DRep (b : Nat) (room : Int) (ps : List Pg) (lasts : Nat) : HP := HP.ex fun a => HP.ex fun c => HP.ex fun xs => HP.and (DInv room ps lasts ∧ xs.length = ps.length) (HP.sep (HP.one b (.cells #[.int .i64 room, .slice a ps.length c, .int .i64 lasts] 102)) (HP.sep (OwC 177 2 a ps.length c (pgCells xs)) (AllD xs ps)))
theorem DRep.tri {f : FuncId} {args : Array Value} {b : Nat} {room : Int} {ps : List Pg} {lasts : Nat} {B : Value → HP}
    (t : ∀ a c xs, DInv room ps lasts → xs.length = ps.length → Tri Tryz.prog f args (HP.sep (HP.one b (.cells #[.int .i64 room, .slice a ps.length c, .int .i64 lasts] 102)) (HP.sep (OwC 177 2 a ps.length c (pgCells xs)) (AllD xs ps))) B) :
    Tri Tryz.prog f args (DRep b room ps lasts) B := Tri.ex fun a => Tri.ex fun c => Tri.ex fun xs => Tri.pure fun h => t a c xs h.1 h.2
theorem dFree_ok (b : Nat) (room : Int) (a : Option Addr) (n c : Nat) (S : HP) (lasts : Int) (h1 : -100000 ≤ room - n) (h2 : room - n ≤ 100000) :
    Tri Tryz.prog 129 #[.pointer (some ⟨b, 0, none⟩)] (HP.sep (HP.one b (.cells #[.int .i64 room, .slice a n c, .int .i64 lasts] 102)) S)
      (fun v => HP.and (v = .int .i64 (room - n)) (HP.sep (HP.one b (.cells #[.int .i64 room, .slice a n c, .int .i64 lasts] 102)) S)) := by
  refine tri_of_tree (ρ := [.n b, .i room, .a a, .n n, .n c, .p S, .i lasts]) mixed Tryz.func129 tree_dFree ?_
  unfold t_dFree
  simp only [T.den, E.prop, E.den, RX.look, F1.app, F2.app, Uni.int_i, Uni.nat_n, Uni.bool_c, Uni.str_s, Uni.adr_a, Uni.val_v, Uni.hp_p, hden, cden, V.den, W.den, A.den, BR.den, SA.den, FV.den, capV, exs, exP, allP, Cur.app, List.map_cons, List.map_nil, List.cons_append, List.nil_append, List.drop_succ_cons, List.drop_zero, List.length_cons, List.length_nil, Nat.zero_add, Nat.reduceAdd, Int.neg_neg, Bool.not_not, List.append_nil, Nat.add_zero, List.getElem?_cons_zero, List.getElem?_cons_succ, Decidable.not_not]
  exact ⟨inI64 _ (by omega) (by omega), fun _ => .of fun _ _ H => ⟨trivial, H⟩⟩
theorem dNew_ok (n : Int) (h1 : 1 ≤ n) (h2 : n ≤ 65536) : Tri Tryz.prog 26 #[.int .i64 n] HP.tt (fun v => HP.ex fun b => HP.and (v = .tuple #[.pointer (some ⟨b, 0, none⟩), .int .i64 0]) (DRep b n [] 0)) := by
  refine tri_of_tree (ρ := [.i n]) mixed Tryz.func26 tree_dNew ?_
  unfold t_dNew
  simp only [T.den, E.prop, E.den, RX.look, F1.app, F2.app, Uni.int_i, Uni.nat_n, Uni.bool_c, Uni.str_s, Uni.adr_a, Uni.val_v, Uni.hp_p, hden, cden, V.den, W.den, A.den, BR.den, SA.den, FV.den, capV, exs, exP, allP, Cur.app, List.map_cons, List.map_nil, List.cons_append, List.nil_append, List.drop_succ_cons, List.drop_zero, List.length_cons, List.length_nil, Nat.zero_add, Nat.reduceAdd, Int.neg_neg, Bool.not_not, List.append_nil, Nat.add_zero, List.getElem?_cons_zero, List.getElem?_cons_succ, Decidable.not_not]
  refine ⟨fun h => absurd h (by omega), fun _ => ⟨fun h => absurd h (by omega), fun _ x => .of fun R h H => ?_⟩⟩
  exact ⟨x, rfl, none, 0, [], ⟨⟨by omega, by omega, by simp; omega, by simp⟩, rfl⟩, HP.sep_mono (HP.sep_tt H) (fun _ h => h) fun y _ => HP.sep_tt (OwC.nil _ _ R y)⟩
theorem dSyncRaw_ok (b : Nat) (room : Int) (a : Option Addr) (n c : Nat) (lasts : Int) (S : HP) : Tri Tryz.prog 76 #[.pointer (some ⟨b, 0, none⟩)] (HP.sep (HP.one b (.cells #[.int .i64 room, .slice a n c, .int .i64 lasts] 102)) S)
    (fun v => HP.and (v = .tuple #[]) (HP.sep (HP.one b (.cells #[.int .i64 room, .slice a n c, .int .i64 n] 102)) S)) := by
  refine tri_of_tree (ρ := [.n b, .i room, .a a, .n n, .n c, .p S, .i lasts]) mixed Tryz.func76 tree_dSync ?_
  unfold t_dSync
  simp only [T.den, E.prop, E.den, RX.look, F1.app, F2.app, Uni.int_i, Uni.nat_n, Uni.bool_c, Uni.str_s, Uni.adr_a, Uni.val_v, Uni.hp_p, hden, cden, V.den, W.den, A.den, BR.den, SA.den, FV.den, capV, exs, exP, allP, Cur.app, List.map_cons, List.map_nil, List.cons_append, List.nil_append, List.drop_succ_cons, List.drop_zero, List.length_cons, List.length_nil, Nat.zero_add, Nat.reduceAdd, Int.neg_neg, Bool.not_not, List.append_nil, Nat.add_zero, List.getElem?_cons_zero, List.getElem?_cons_succ, Decidable.not_not]
  exact .of fun R h H => ⟨trivial, H⟩
theorem dSync_ok (b : Nat) (room : Int) (ps : List Pg) (lasts : Nat) : Tri Tryz.prog 76 #[.pointer (some ⟨b, 0, none⟩)] (DRep b room ps lasts) (fun v => HP.and (v = .tuple #[]) (DRep b room ps ps.length)) :=
  DRep.tri fun a c xs hI hx => (dSyncRaw_ok b room a ps.length c lasts _).weak (fun _ _ h => h) fun v R h ⟨e, H⟩ => ⟨e, a, c, xs, ⟨⟨hI.1, hI.2.1, hI.2.2.1, Nat.le_refl _⟩, hx⟩, H⟩
theorem infoP : (Tryz.prog.info? 177).map (fun i => (i.zero, i.size, i.bytes)) = some (some (.agg #[.int .i64 0, .slice none 0 0]), 2, 32) := by kernel_rfl
theorem undP : Tryz.prog.underlying 100 = some (.slice 177) := by kernel_rfl
theorem pgCells_one (xs : List PgRec) : ∀ u ∈ pgCells xs, u.oneCell' = true := fun u hu => by
  obtain ⟨x, _, hx⟩ := List.mem_flatMap.1 hu
  simp only [PgRec.vals, List.mem_cons, List.not_mem_nil, or_false] at hx
  rcases hx with rfl | rfl <;> rfl
def putPg (room : Int) (ps : List Pg) (p : Pg) : Int × List Pg := if room = ps.length then (4, ps) else (0, ps ++ [p])
theorem dAppend_ok (b : Nat) (room : Int) (ps : List Pg) (lasts : Nat) (a : Option Addr) (n c : Nat) (l : List UInt8) (S : HP) (hr : RdL S a n (l.map u8v)) (hl : l.length = n) (hb : n ≤ 140737488355328) :
    Tri Tryz.prog 75 #[.pointer (some ⟨b, 0, none⟩), .slice a n c] (HP.sep (DRep b room ps lasts) S) (fun v => HP.and (v = .int .i64 (putPg room ps ⟨1, l⟩).1) (HP.sep (DRep b room (putPg room ps ⟨1, l⟩).2 lasts) S)) := by
  refine (Tri.ex (A := fun da => HP.ex fun dc => HP.ex fun xs => HP.and (DInv room ps lasts ∧ xs.length = ps.length) (HP.sep (HP.one b (.cells #[.int .i64 room, .slice da ps.length dc, .int .i64 lasts] 102)) (HP.sep (HP.sep (OwC 177 2 da ps.length dc (pgCells xs)) (AllD xs ps)) S)))
    fun da => Tri.ex fun dc => Tri.ex fun xs => Tri.pure fun hI => ?_).weak (fun R h ⟨h1, h2, d, l1, l2, ⟨da, dc, xs, hI, H⟩, hS⟩ => ⟨da, dc, xs, hI, HP.sep_assoc ⟨h1, h2, d, l1, l2, H, hS⟩⟩) fun _ _ _ h => h
  obtain ⟨⟨i1, i2, i3, i4⟩, hxl⟩ := hI
  refine tri_of_tree (ρ := [.n b, .i room, .a da, .n ps.length, .n dc, .p (HP.sep (OwC 177 2 da ps.length dc (pgCells xs)) (AllD xs ps)), .i lasts, .a a, .n n, .n c, .p S]) mixed Tryz.func75 tree_dAppend ?_
  unfold t_dAppend
  simp only [T.den, E.prop, E.den, RX.look, F1.app, F2.app, Uni.int_i, Uni.nat_n, Uni.bool_c, Uni.str_s, Uni.adr_a, Uni.val_v, Uni.hp_p, hden, cden, V.den, W.den, A.den, BR.den, SA.den, FV.den, capV, exs, exP, allP, Cur.app, List.map_cons, List.map_nil, List.cons_append, List.nil_append, List.drop_succ_cons, List.drop_zero, List.length_cons, List.length_nil, Nat.zero_add, Nat.reduceAdd, Int.neg_neg, Bool.not_not, List.append_nil, Nat.add_zero, List.getElem?_cons_zero, List.getElem?_cons_succ, Decidable.not_not]
  refine (dFree_ok b room da ps.length dc _ lasts (by omega) (by omega)).weak (fun _ _ h => h) ?_
  rintro v R h ⟨rfl, H⟩
  refine ⟨_, rfl, ⟨fun hz => .of fun R h H => ?_, fun hz => ?_⟩, H⟩
  · have e : putPg room ps ⟨1, l⟩ = (4, ps) := if_pos (by omega)
    rw [e]
    exact ⟨rfl, HP.sep_mono (HP.sep_assoc' H) (fun y hy => ⟨da, dc, xs, ⟨⟨i1, i2, i3, i4⟩, hxl⟩, hy⟩) fun _ h => h⟩
  · have e : putPg room ps ⟨1, l⟩ = (0, ps ++ [⟨1, l⟩]) := if_neg (by omega)
    rw [e]
    refine (cloneR_ok S a n c l hr hl hb).weak (fun _ _ h => h) ?_
    rintro v R h ⟨a', c', rfl, H⟩
    refine ⟨a', n, c', RoB a' n l, S, rfl, fun y => ?_, H⟩
    rw [semOf_append (by decide)]
    simp only [T.den, E.prop, E.den, RX.look, F1.app, F2.app, Uni.int_i, Uni.nat_n, Uni.bool_c, Uni.str_s, Uni.adr_a, Uni.val_v, Uni.hp_p, hden, cden, V.den, W.den, A.den, BR.den, SA.den, FV.den, capV, exs, exP, allP, Cur.app, List.map_cons, List.map_nil, List.cons_append, List.nil_append, List.drop_succ_cons, List.drop_zero, List.length_cons, List.length_nil, Nat.zero_add, Nat.reduceAdd, Int.neg_neg, Bool.not_not, List.append_nil, Nat.add_zero, List.getElem?_cons_zero, List.getElem?_cons_succ, Decidable.not_not]
    obtain ⟨i, hi, z1, z2, z3⟩ := info_parts infoP
    have happ := append_ok 100 100 177 i _ undP hi z1 (by rw [z2]; rfl) (by omega) da ps.length dc (pgCells xs) (HP.sep (AllD xs ps) (HP.sep (HP.one y (.cells #[.int .i64 1, .slice a' n c'] 177)) (RoB a' n l))) ⟨y, 0, none⟩ 1 1 (PgRec.vals ⟨1, a', n, c'⟩) ((one_rd y _ _).left.right) (by rw [z2]; rfl) (fun u hu => pgCells_one [⟨1, a', n, c'⟩] u (by simpa [pgCells] using hu)) (by unfold maxLen; omega) (by rw [z3]; omega)
    rw [z2] at happ
    refine happ.weak (fun R h H => HP.sep_assoc H) ?_
    rintro v R h ⟨a2, c2, rfl, H⟩
    have hcells : pgCells xs ++ PgRec.vals ⟨1, a', n, c'⟩ = pgCells (xs ++ [⟨1, a', n, c'⟩]) := by simp [pgCells]
    rw [hcells] at H
    refine ⟨a2, _, c2, HP.sep (OwC 177 2 a2 (ps.length + 1) c2 (pgCells (xs ++ [⟨1, a', n, c'⟩]))) (AllD (xs ++ [⟨1, a', n, c'⟩]) (ps ++ [⟨1, l⟩])), rfl, .of fun R h H => ⟨trivial, ?_⟩, ?_⟩
    · have hlen : ps.length + 1 = (ps ++ [(⟨1, l⟩ : Pg)]).length := by simp
      rw [hlen] at H
      refine HP.sep_mono (HP.sep_assoc' H) (fun y hy => ⟨a2, c2, _, ⟨⟨i1, i2, by simp; omega, by simp; omega⟩, by simp [hxl]⟩, hy⟩) fun _ h => h
    · have hall := HP.sep_left (HP.sep_right H)
      have hro := HP.sep_right (HP.sep_right (HP.sep_right H))
      have hnew : ∀ z, (AllD (xs ++ [⟨1, a', n, c'⟩]) (ps ++ [⟨1, l⟩])).p R z := fun z => AllD.any (AllD.snoc (x := ⟨1, a', n, c'⟩) (p := ⟨1, l⟩) ⟨rfl, hl.symm, by simp only; omega⟩ hro hall)
      refine HP.sep_mono H (fun z hz => HP.sep_mono (HP.sep_tt hz) (fun _ h => h) fun z _ => hnew z) fun z hz => HP.sep_right hz
theorem pgCells_get (xs : List PgRec) : ∀ (j : Nat) (x : PgRec), xs[j]? = some x → (pgCells xs)[j * 2]? = some (.int .i64 x.is) ∧ (pgCells xs)[j * 2 + 1]? = some (.slice x.a x.n x.c) := by
  induction xs with
  | nil => intro j x h; simp at h
  | cons y r ih =>
    intro j x h
    cases j with
    | zero => simp at h; subst h; simp [pgCells, PgRec.vals]
    | succ j =>
      obtain ⟨h1, h2⟩ := ih j x (by simpa using h)
      simp only [pgCells, List.flatMap_cons] at h1 h2 ⊢
      have e1 : (j + 1) * 2 = j * 2 + 2 := by omega
      rw [e1]
      exact ⟨by simpa [PgRec.vals] using h1, by simpa [PgRec.vals] using h2⟩

end Go.Proofs.YtbmajijnjkicmaaGreatDoor



namespace Go.Proofs.YtbmajijnjkicmaaGreatDoor
set_option linter.unusedSimpArgs false
set_option linter.unusedVariables false
open Go.Proofs.YtbmajijnjkicmaaGreatDoor RX

theorem AllD.get2 {R h : PH} : ∀ {xs : List PgRec} {ps : List Pg} (i : Nat) {p : Pg}, (AllD xs ps).p R h → ps[i]? = some p → ∃ x, xs[i]? = some x ∧ x.is = p.is ∧ x.n = p.data.length ∧ p.data.length ≤ 140737488355328 ∧ (RoB x.a x.n p.data).p R h
  | [], [], i, p, _, hp => by simp at hp
  | x :: xs, q :: ps, 0, p, ⟨h1, H⟩, hp => by simp at hp; subst hp; exact ⟨x, rfl, h1.1, h1.2.1, h1.2.2, HP.sep_left H⟩
  | x :: xs, q :: ps, i + 1, p, ⟨h1, H⟩, hp => by
    obtain ⟨y, q1, q2, q3, q4⟩ := AllD.get2 (h := h) i (AllD.any (HP.sep_right H)) (by simpa using hp)
    exact ⟨y, by simpa using q1, q2, q3, q4⟩
  | [], _ :: _, _, _, H, _ => H.elim
  | _ :: _, [], _, _, H, _ => H.elim
abbrev BRec := Option Addr × Nat × Nat
def slV (x : BRec) : Value := .slice x.1 x.2.1 x.2.2
def AllB : List BRec → List (List UInt8) → HP
  | [], [] => HP.tt
  | x :: xs, l :: ls => HP.and (x.2.1 = l.length ∧ l.length ≤ 140737488355328) (HP.sep (RoB x.1 x.2.1 l) (AllB xs ls))
  | _, _ => HP.pure False
theorem AllB.any {R : PH} : ∀ {xs : List BRec} {ps : List (List UInt8)} {h h' : PH}, (AllB xs ps).p R h → (AllB xs ps).p R h'
  | [], [], _, _, _ => trivial
  | _ :: _, _ :: _, _, h', ⟨q, H⟩ => ⟨q, RoC.join (HP.sep_left H) (AllB.any (h' := h') (HP.sep_right H))⟩
  | [], _ :: _, _, _, H => H
  | _ :: _, [], _, _, H => H
theorem AllB.snoc {R h : PH} {x : BRec} {p : List UInt8} (hx : x.2.1 = p.length ∧ p.length ≤ 140737488355328) (hr : (RoB x.1 x.2.1 p).p R h) : ∀ {xs : List BRec} {ps : List (List UInt8)}, (AllB xs ps).p R h → (AllB (xs ++ [x]) (ps ++ [p])).p R h
  | [], [], _ => ⟨hx, RoC.join hr (trivial : HP.tt.p R h)⟩
  | _ :: _, _ :: _, ⟨q, H⟩ => ⟨q, RoC.join (HP.sep_left H) (AllB.snoc hx hr (HP.sep_right H) |> AllB.any (h' := h))⟩
  | [], _ :: _, H => H.elim
  | _ :: _, [], H => H.elim
theorem AllB.get {R h : PH} : ∀ {xs : List BRec} {ps : List (List UInt8)} (i : Nat) {p : List UInt8}, (AllB xs ps).p R h → ps[i]? = some p → ∃ x, xs[i]? = some x ∧ x.2.1 = p.length ∧ p.length ≤ 140737488355328 ∧ (RoB x.1 x.2.1 p).p R h
  | [], [], i, p, _, hp => by simp at hp
  | x :: xs, q :: ps, 0, p, ⟨h1, H⟩, hp => by simp at hp; subst hp; exact ⟨x, rfl, h1.1, h1.2, HP.sep_left H⟩
  | x :: xs, q :: ps, i + 1, p, ⟨h1, H⟩, hp => by
    obtain ⟨y, q1, q2, q3, q4⟩ := AllB.get (h := h) i (AllB.any (HP.sep_right H)) (by simpa using hp)
    exact ⟨y, by simpa using q1, q2, q3, q4⟩
  | [], _ :: _, _, _, H, _ => H.elim
  | _ :: _, [], _, _, H, _ => H.elim
def LL (a : Option Addr) (n c : Nat) (ls : List (List UInt8)) : HP := HP.ex fun xs => HP.and (xs.length = ls.length ∧ n = ls.length) (HP.sep (OwC 35 1 a n c (xs.map slV)) (AllB xs ls))
theorem infoLL : (Tryz.prog.info? 35).map (fun i => (i.zero, i.size, i.bytes)) = some (some (.slice none 0 0), 1, 24) := by kernel_rfl
theorem undLL : Tryz.prog.underlying 103 = some (.slice 35) := by kernel_rfl
theorem slV_one (xs : List BRec) : ∀ u ∈ xs.map slV, u.oneCell' = true := fun u hu => by
  obtain ⟨x, _, rfl⟩ := List.mem_map.1 hu; rfl
def wholes (ps : List Pg) : List (List UInt8) := ps.filterMap fun p => if p.is = 1 then some p.data else none
theorem wholes_take (ps : List Pg) (k : Nat) (p : Pg) (h : ps[k]? = some p) : wholes (ps.take (k + 1)) = wholes (ps.take k) ++ (if p.is = 1 then [p.data] else []) := by
  obtain ⟨hk, rfl⟩ := List.getElem?_eq_some_iff.1 h
  rw [List.take_succ_eq_append_getElem hk, wholes, List.filterMap_append]
  congr 1
  simp only [List.filterMap_cons, List.filterMap_nil]
  by_cases e : ps[k].is = 1 <;> simp [e]
theorem wholes_pre (ps : List Pg) (k : Nat) : wholes (ps.take k) <+: wholes ps := by
  have : wholes ps = wholes (ps.take k) ++ wholes (ps.drop k) := by
    rw [wholes, wholes, wholes, ← List.filterMap_append, List.take_append_drop]
  rw [this]; exact List.prefix_append _ _

def BoxD (bx b : Nat) : HP := HP.one bx (.cells #[.pointer (some ⟨b, 0, none⟩)] 68)
theorem dWhole_ok (b : Nat) (D : HP) : Tri Tryz.prog 80 #[.pointer (some ⟨b, 0, none⟩)] D
    (fun v => HP.ex fun bx => HP.and (v = .func (.func 130) #[] #[.pointer (some ⟨bx, 0, none⟩)]) (HP.sep (BoxD bx b) D)) := by
  refine tri_of_tree (ρ := [.n b, .p D]) mixed Tryz.func80 tree_dWhole ?_
  unfold t_dWhole
  simp only [T.den, E.prop, E.den, RX.look, F1.app, F2.app, Uni.int_i, Uni.nat_n, Uni.bool_c, Uni.str_s, Uni.adr_a, Uni.val_v, Uni.hp_p, hden, cden, V.den, W.den, A.den, BR.den, SA.den, FV.den, capV, exs, exP, allP, Cur.app, List.map_cons, List.map_nil, List.cons_append, List.nil_append, List.drop_succ_cons, List.drop_zero, List.length_cons, List.length_nil, Nat.zero_add, Nat.reduceAdd, Int.neg_neg, Bool.not_not, List.append_nil, Nat.add_zero, List.getElem?_cons_zero, List.getElem?_cons_succ, Decidable.not_not]
  exact fun x => .of fun R h H => ⟨x, rfl, HP.sep_comm H⟩
def mayW (ps : List Pg) (ys : List (List UInt8)) (args : Array Value) (ys' : List (List UInt8)) : Prop := ∃ a n c l, args = #[.slice a n c] ∧ ys' = ys ++ [l] ∧ ys' <+: wholes ps
def prW (ps : List Pg) (ys : List (List UInt8)) (args : Array Value) : HP := HP.ex fun z : BRec × List UInt8 => HP.and (args = #[slV z.1] ∧ z.2.length = z.1.2.1 ∧ z.1.2.1 ≤ 140737488355328 ∧ ys ++ [z.2] <+: wholes ps) (RoB z.1.1 z.1.2.1 z.2)
theorem fgo_whole1 : Fgo Tryz.prog 130 := ⟨_, Tryz.func130, by kernel_rfl, by kernel_rfl⟩
theorem pre_one {α : Type} {ys W : List α} {x y : α} (h : ys ++ [x] <+: W) (h' : ys ++ [y] <+: W) : x = y := by
  obtain ⟨t, ht⟩ := h
  obtain ⟨t', ht'⟩ := h'
  rw [← ht, List.append_assoc, List.append_assoc] at ht'
  have := List.append_cancel_left ht'
  simpa using (List.cons.inj this).1.symm
theorem dWhole_seq (bx b : Nat) (room : Int) (ps : List Pg) (lasts : Nat) : SeqTri Tryz.prog (.func (.func 130) #[] #[.pointer (some ⟨bx, 0, none⟩)]) (HP.sep (BoxD bx b) (DRep b room ps lasts)) (fun _ => HP.tt) (prW ps) (mayW ps) (fun ys => ys = wholes ps) [] := by
  refine ⟨_, _, rfl, fgo_whole1, fun l K Jx hr => ?_⟩
  refine (Tri.ex (A := fun da => HP.ex fun dc => HP.ex fun xs => HP.and (DInv room ps lasts ∧ xs.length = ps.length) (HP.sep (HP.sep HP.tt (K [])) (HP.sep (BoxD bx b) (HP.sep (HP.one b (.cells #[.int .i64 room, .slice da ps.length dc, .int .i64 lasts] 102)) (HP.sep (OwC 177 2 da ps.length dc (pgCells xs)) (AllD xs ps))))))
    fun da => Tri.ex fun dc => Tri.ex fun xs => Tri.pure fun hI => ?_).weak (fun R h H => ?_) fun _ _ _ h => h
  rotate_left
  · obtain ⟨h1, h2, d, l1, l2, hK, h3, h4, d2, l3, l4, hB, da, dc, xs, hI, H⟩ := HP.sep_comm H
    exact ⟨da, dc, xs, hI, h1, h2, d, l1, l2, hK, h3, h4, d2, l3, l4, hB, H⟩
  obtain ⟨hD, hxl⟩ := hI
  refine Tri.fact (φ := (ps.length ≠ 0 → da.isSome = true) ∧ ∀ (k : Nat) (p : Pg), ps[k]? = some p → ∃ x : PgRec, xs[k]? = some x ∧ x.is = p.is ∧ x.n = p.data.length ∧ p.data.length ≤ 140737488355328) (fun R h H => ⟨fun hn => OwC.some (HP.sep_left (HP.sep_right (HP.sep_right (HP.sep_right H)))) (by omega), fun k p hp => by
    obtain ⟨x, q1, q2, q3, q4, _⟩ := AllD.get2 k (HP.sep_right (HP.sep_right (HP.sep_right (HP.sep_right H)))) hp
    exact ⟨x, q1, q2, q3, q4⟩⟩) fun ⟨hda, hall⟩ => ?_
  obtain ⟨pd, hpd⟩ : ∃ d, Tryz.prog.underlying 177 = some d := Option.isSome_iff_exists.1 (by kernel_rfl)
  refine tri_of_tree (ρ := [.v (.func (.yield l) #[] #[]), .p (HP.sep HP.tt (K [])), .n bx, .n b, .i room, .a da, .n ps.length, .n dc, .p (HP.sep (OwC 177 2 da ps.length dc (pgCells xs)) (AllD xs ps)), .i lasts]) mixed Tryz.func130 tree_dWhole1 ?_
  unfold t_dWhole1
  simp only [T.den, E.prop, E.den, RX.look, F1.app, F2.app, Uni.int_i, Uni.nat_n, Uni.bool_c, Uni.str_s, Uni.adr_a, Uni.val_v, Uni.hp_p, hden, cden, V.den, W.den, A.den, BR.den, SA.den, FV.den, capV, exs, exP, allP, Cur.app, List.map_cons, List.map_nil, List.cons_append, List.nil_append, List.drop_succ_cons, List.drop_zero, List.length_cons, List.length_nil, Nat.zero_add, Nat.reduceAdd, Int.neg_neg, Bool.not_not, List.append_nil, Nat.add_zero, List.getElem?_cons_zero, List.getElem?_cons_succ, Decidable.not_not]
  have fin : ∀ J : HP, HP.ent J (SeqPost (fun _ => HP.tt) K Jx (fun ys => ys = wholes ps)) → HP.ent (HP.sep J (HP.sep (HP.one bx (.cells #[.pointer (some ⟨b, 0, none⟩)] 68)) (HP.sep (HP.one b (.cells #[.int .i64 room, .slice da ps.length dc, .int .i64 lasts] 102)) (HP.sep (OwC 177 2 da ps.length dc (pgCells xs)) (AllD xs ps)))))
      (HP.sep (HP.sep (BoxD bx b) (DRep b room ps lasts)) (SeqPost (fun _ => HP.tt) K Jx (fun ys => ys = wholes ps))) := fun J hJ =>
    (hJ.sep _).trans (.of fun R h H => HP.sep_comm (HP.sep_mono H (fun _ h => h) fun y hy => HP.sep_mono hy (fun _ h => h) fun z hz => ⟨da, dc, xs, ⟨hD, hxl⟩, hz⟩))
  refine ⟨fun i P => ∃ k : Nat, i = k ∧ k ≤ ps.length ∧ HP.ent P (HP.sep HP.tt (K (wholes (ps.take k)))), fun i P => ps.length - i.toNat, ⟨0, rfl, Nat.zero_le _, HP.ent.refl _⟩, ?_⟩
  rintro _ P ⟨k, rfl, hk, hP⟩
  refine ⟨fun hlt => ⟨by omega, fun _ => ⟨hda (by omega), fun _ => ?_⟩⟩, fun hge => ?_⟩
  · have hlt' : k < ps.length := by omega
    have hg : ps[k]? = some ps[k] := List.getElem?_eq_getElem hlt'
    have hi64 : IntKind.i64.min ≤ (k : Int) + 1 ∧ (k : Int) + 1 ≤ IntKind.i64.max := inI64 _ (by omega) (by have := hD.2.1; have := hD.2.2.1; omega)
    obtain ⟨x, hx, x1, x2, x3⟩ := hall k _ hg
    have hnext : ps[k].is ≠ 1 → wholes (ps.take (k + 1)) = wholes (ps.take k) := fun h => by rw [wholes_take ps k _ hg, if_neg h, List.append_nil]
    have hnext1 : ps[k].is = 1 → wholes (ps.take (k + 1)) = wholes (ps.take k) ++ [ps[k].data] := fun h => by rw [wholes_take ps k _ hg, if_pos h]
    refine ⟨x.is, x.a, x.n, x.c, ?_, fun y => ?_⟩
    · rw [semOf_load]
      simp only [T.den, E.prop, E.den, RX.look, F1.app, F2.app, Uni.int_i, Uni.nat_n, Uni.bool_c, Uni.str_s, Uni.adr_a, Uni.val_v, Uni.hp_p, hden, cden, V.den, W.den, A.den, BR.den, SA.den, FV.den, capV, exs, exP, allP, Cur.app, List.map_cons, List.map_nil, List.cons_append, List.nil_append, List.drop_succ_cons, List.drop_zero, List.length_cons, List.length_nil, Nat.zero_add, Nat.reduceAdd, Int.neg_neg, Bool.not_not, List.append_nil, Nat.add_zero, List.getElem?_cons_zero, List.getElem?_cons_succ, Decidable.not_not]
      rw [Int.toNat_natCast]
      obtain ⟨g1, g2⟩ := pgCells_get xs k _ hx
      refine loadN_ok (vs := [.int .i64 x.is, .slice x.a x.n x.c]) hpd (by kernel_rfl) ((OwC.rd 177 2 da ps.length dc (pgCells xs)).left (B := AllD xs ps)) (by kernel_rfl) (by simp) fun j v hj => ?_
      match j with
      | 0 => simp at hj; subst hj; simpa using g1
      | 1 => simp at hj; subst hj; simpa using g2
      | j + 2 => simp at hj
    · rw [x1]
      refine ⟨fun h1 => ?_, fun h1 => ⟨hi64, fun _ => ⟨⟨k + 1, by omega, by omega, by rw [hnext h1]; exact hP⟩, by dsimp only; omega⟩⟩⟩
      have hpre : wholes (ps.take k) ++ [ps[k].data] <+: wholes ps := by rw [← hnext1 h1]; exact wholes_pre ps _
      refine (hr (wholes (ps.take k)) #[.slice x.a x.n x.c] ⟨_, x.a, x.n, x.c, ps[k].data, rfl, rfl, hpre⟩).conseq (K := HP.sep (OwC 177 2 da ps.length dc (pgCells xs)) (AllD xs ps)) ?_ ?_
      · refine (hP.sep _).trans (.of fun R h H => ?_)
        have hA := HP.sep_right (HP.sep_right H)
        obtain ⟨x', q1, _, _, _, q5⟩ := AllD.get2 k hA hg
        rw [hx] at q1
        cases q1
        refine HP.sep_mono H (fun y hy => ?_) fun _ h => h
        exact HP.sep_mono (RoC.join (B := HP.sep HP.tt (K (wholes (ps.take k)))) q5 hy) (fun z hz => ⟨((x.a, x.n, x.c), ps[k].data), ⟨rfl, x2.symm, by dsimp only; omega, hpre⟩, hz⟩) fun _ h => h
      · refine fun v => .of fun R h ⟨h1', h2, dj, l1, l2, ⟨b', hv, hb⟩, hC⟩ => ?_
        cases b' with
        | true => 
          refine ⟨true, HP.ex fun g' => HP.and (mayW ps (wholes (ps.take k)) #[.slice x.a x.n x.c] g') (HP.sep HP.tt (K g')), hv, ⟨fun h => absurd rfl h, fun _ => ⟨hi64, fun _ => ⟨⟨k + 1, by omega, by omega, ?_⟩, by dsimp only; omega⟩⟩⟩, h1', h2, dj, l1, l2, hb, hC⟩
          refine .of fun R h ⟨g', ⟨_, _, _, l', _, hg1, hg2⟩, H⟩ => ?_
          subst hg1
          rw [hnext1 h1, pre_one hpre hg2]
          exact H
        | false => 
          exact ⟨false, Jx, hv, ⟨fun _ => fin Jx (.of fun R h H => ⟨none, H⟩), fun h => absurd h (by simp)⟩, h1', h2, dj, l1, l2, hb, hC⟩
  · have hke : k = ps.length := by omega
    subst hke
    rw [List.take_length] at hP
    exact fin P (hP.trans (.of fun R h H => ⟨some (wholes ps), rfl, H⟩))
theorem dPages_ok (b : Nat) (room : Int) (ps : List Pg) (lasts : Nat) : Tri Tryz.prog 47 #[.pointer (some ⟨b, 0, none⟩)] (DRep b room ps lasts)
    (fun v => HP.ex fun a => HP.ex fun c => HP.and (v = .slice a (wholes ps).length c ∧ DInv room ps lasts) (HP.sep (DRep b room ps lasts) (LL a (wholes ps).length c (wholes ps)))) := by
  refine Tri.fact (φ := DInv room ps lasts) (fun R h ⟨_, _, _, hI, _⟩ => hI.1) fun hD => ?_
  refine tri_of_tree (ρ := [.n b, .p (DRep b room ps lasts)]) mixed Tryz.func47 tree_dPages ?_
  unfold t_dPages
  simp only [T.den, E.prop, E.den, RX.look, F1.app, F2.app, Uni.int_i, Uni.nat_n, Uni.bool_c, Uni.str_s, Uni.adr_a, Uni.val_v, Uni.hp_p, hden, cden, V.den, W.den, A.den, BR.den, SA.den, FV.den, capV, exs, exP, allP, Cur.app, List.map_cons, List.map_nil, List.cons_append, List.nil_append, List.drop_succ_cons, List.drop_zero, List.length_cons, List.length_nil, Nat.zero_add, Nat.reduceAdd, Int.neg_neg, Bool.not_not, List.append_nil, Nat.add_zero, List.getElem?_cons_zero, List.getElem?_cons_succ, Decidable.not_not]
  intro ob
  refine (dWhole_ok b (DRep b room ps lasts)).weak (fun _ _ h => h) ?_
  rintro v R h ⟨bx, rfl, H⟩
  refine ⟨.func (.func 130) #[] #[.pointer (some ⟨bx, 0, none⟩)], BoxD bx b, rfl, fun db => ?_, H⟩
  have hw : (wholes ps).length ≤ 65536 := by
    have h1 : (wholes ps).length ≤ ps.length := List.length_filterMap_le _ _
    have := hD.2.1
    have := hD.2.2.1
    omega
  refine ⟨List (List UInt8), fun _ => HP.tt, prW ps, mayW ps, fun ys => ys = wholes ps, [], fun ys a n c P => n = ys.length ∧ ys <+: wholes ps ∧ HP.ent P (LL a n c ys), dWhole_seq bx b room ps lasts, ?_, ?_, ?_, ?_⟩
  · exact ⟨rfl, List.nil_prefix, .of fun R h _ => ⟨[], ⟨rfl, rfl⟩, OwC.nil _ _ R h |> HP.sep_tt⟩⟩
  · intro ys a n c P _; rfl
  · rintro ys args ⟨g', a0, n0, c0, l0, rfl, rfl, hpre⟩ a n c P ⟨rfl, hys, hP⟩
    refine ⟨a0, n0, c0, prW ps ys #[.slice a0 n0 c0], rfl, HP.ent.refl _, ?_⟩
    refine Tri.ex (A := fun z : BRec × List UInt8 => HP.and (#[Value.slice a0 n0 c0] = #[slV z.1] ∧ z.2.length = z.1.2.1 ∧ z.1.2.1 ≤ 140737488355328 ∧ ys ++ [z.2] <+: wholes ps) (RoB z.1.1 z.1.2.1 z.2)) fun z => Tri.pure fun hz => ?_
    obtain ⟨⟨a1, n1, c1⟩, d1⟩ := z
    obtain ⟨hz1, hz2, hz3, hz4⟩ := hz
    simp only [slV, Array.mk.injEq, List.cons.injEq, Value.slice.injEq, and_true] at hz1
    obtain ⟨rfl, rfl, rfl⟩ := hz1
    simp only at hz2 hz3 hz4
    refine (cloneR_ok (RoB a0 n0 d1) a0 n0 c0 d1 (RdL.ro _ _ _ _) hz2 hz3).weak (fun _ _ h => h) ?_
    rintro v R h ⟨a', c', rfl, H⟩
    refine ⟨a', n0, c', RoB a' n0 d1, RoB a0 n0 d1, rfl, fun eb => ?_, H⟩
    clear H
    rw [semOf_append (by decide)]
    simp only [T.den, E.prop, E.den, RX.look, F1.app, F2.app, Uni.int_i, Uni.nat_n, Uni.bool_c, Uni.str_s, Uni.adr_a, Uni.val_v, Uni.hp_p, hden, cden, V.den, W.den, A.den, BR.den, SA.den, FV.den, capV, exs, exP, allP, Cur.app, List.map_cons, List.map_nil, List.cons_append, List.nil_append, List.drop_succ_cons, List.drop_zero, List.length_cons, List.length_nil, Nat.zero_add, Nat.reduceAdd, Int.neg_neg, Bool.not_not, List.append_nil, Nat.add_zero, List.getElem?_cons_zero, List.getElem?_cons_succ, Decidable.not_not]
    obtain ⟨i, hi, z1, z2, z3⟩ := info_parts infoLL
    have hyl : ys.length + 1 ≤ 65536 := by
      have := hz4.length_le
      simp at this
      omega
    refine (OTri.conseq (A := HP.ex fun xs => HP.and (xs.length = ys.length) (HP.sep (OwC 35 1 a ys.length c (xs.map slV)) (HP.sep (AllB xs ys) (HP.sep (HP.one eb (.cells #[.slice a' n0 c'] 35)) (RoB a' n0 d1))))) (K := HP.tt) (OTri.exI fun xs => OTri.pureI fun hx => ?_) ((hP.sep _).trans (.of fun R h ⟨h1, h2, d, l1, l2, ⟨xs, hx, H⟩, H2⟩ => HP.sep_tt ⟨xs, hx.1, HP.sep_assoc ⟨h1, h2, d, l1, l2, H, H2⟩⟩)) fun v => .of fun _ _ H => HP.sep_left H)
    have happ := append_ok 103 103 35 i _ undLL hi z1 (by rw [z2]; rfl) (by omega) a ys.length c (xs.map slV) (HP.sep (AllB xs ys) (HP.sep (HP.one eb (.cells #[.slice a' n0 c'] 35)) (RoB a' n0 d1))) ⟨eb, 0, none⟩ 1 1 [slV (a', n0, c')] ((one_rd eb _ _).left.right) (by rw [z2]; rfl) (fun u hu => slV_one [(a', n0, c')] u (by simpa using hu)) (by unfold maxLen; omega) (by rw [z3]; omega)
    rw [z2] at happ
    refine happ.weak (fun _ _ h => h) ?_
    rintro v R h ⟨a2, c2, rfl, H⟩
    have hro := HP.sep_right (HP.sep_right (HP.sep_right H))
    have hall := HP.sep_left (HP.sep_right H)
    refine ⟨a2, ys.length + 1, c2, LL a2 (ys.length + 1) c2 (ys ++ [d1]), rfl, ⟨ys ++ [d1], ⟨a0, n0, c0, d1, rfl, rfl, hz4⟩, by simp, hz4, HP.ent.refl _⟩, ?_⟩
    refine HP.sep_mono H (fun y hy => ⟨xs ++ [(a', n0, c')], ⟨by simp [hx], by simp⟩, ?_⟩) fun y hy => HP.sep_right hy
    refine HP.sep_comm (HP.sep_mono (HP.tt_sep hy) (fun q _ => AllB.any (AllB.snoc (x := (a', n0, c')) (p := d1) ⟨hz2.symm, by omega⟩ hro hall)) fun q hq => ?_)
    rw [List.map_append]; exact hq
  · rintro _ rfl a n c P ⟨rfl, _, hP⟩
    refine ((HP.ent.refl (DRep b room ps lasts)).sep2 hP).trans (.of fun R h H => ⟨a, c, ⟨rfl, hD⟩, H⟩)
end Go.Proofs.YtbmajijnjkicmaaGreatDoor



namespace Go.Proofs.YtbmajijnjkicmaaGreatDoor.RX
set_option maxRecDepth 100000
-- tideline/unit.number: ρ := [.i n]
def t_number : T :=
(.br (.o2 .le (.i 0) (.v 0))
(.ret (.w (.a (.bool (.o2 .le (.v 0) (.i 2147483647))))) [])
(.ret (.w (.a (.bool (.c false)))) []))
theorem tree_number : tree Tryz.prog { absT := [169, 179], keep := [73, 86, 87, 135, 41, 40, 42, 22, 59, 105, 91], turn := [(90, [0])] } Tryz.f86 [.a (.int .i64 (.v 0))] [] 1 = t_number := by kernel_rfl
def t_proposal : T :=
(.new
(.br (.o2 .le (.i 1) (.v 0))
(.br (.o2 .le (.v 0) (.i 2147483647))
(.call 86 [.a (.int .i64 (.v 1))] [] [.c] (.w (.a (.bool (.v 4)))) []
(.br (.v 4)
(.call 86 [.a (.int .i64 (.v 2))] [] [.c] (.w (.a (.bool (.v 5)))) []
(.ret (.w (.a (.bool (.v 5)))) []))
(.ret (.w (.a (.bool (.c false)))) [])))
(.ret (.w (.a (.bool (.c false)))) []))
(.ret (.w (.a (.bool (.c false)))) [])))
theorem tree_proposal : tree Tryz.prog { absT := [169, 179], keep := [73, 86, 87, 135, 41, 40, 42, 22, 59, 105, 91], turn := [(90, [0])] } Tryz.f87 [.a (.int .i64 (.v 0)), .agg [.int .i64 (.v 1), .int .i64 (.v 2)]] [] 3 = t_proposal := by kernel_rfl
def t_less : T :=
(.new
(.new
(.br (.o2 .lt (.v 0) (.v 2))
(.ret (.w (.a (.bool (.c true)))) [])
(.br (.o2 .eq (.v 0) (.v 2))
(.ret (.w (.a (.bool (.o2 .lt (.v 1) (.v 3))))) [])
(.ret (.w (.a (.bool (.c false)))) [])))))
theorem tree_less : tree Tryz.prog { absT := [169, 179], keep := [73, 86, 87, 135, 41, 40, 42, 22, 59, 105, 91], turn := [(90, [0])] } Tryz.f135 [.agg [.int .i64 (.v 0), .int .i64 (.v 1)], .agg [.int .i64 (.v 2), .int .i64 (.v 3)]] [] 4 = t_less := by kernel_rfl
def t_address : T :=
(.br (.o2 .le (.i 0) (.v 0))
(.ret (.w (.a (.bool (.o2 .le (.v 0) (.i 4294967296))))) [])
(.ret (.w (.a (.bool (.c false)))) []))
theorem tree_address : tree Tryz.prog { absT := [169, 179], keep := [73, 86, 87, 135, 41, 40, 42, 22, 59, 105, 91], turn := [(90, [0])] } Tryz.f73 [.a (.int .i64 (.v 0))] [] 1 = t_address := by kernel_rfl
def t_standing : T :=
(.new
(.br (.o2 .eq (.v 0) (.i 1))
(.ret (.w (.a (.bool (.o2 .le (.o1 .ofNat (.v 2)) (.i 65536))))) [(.a 1, .prop 4)])
(.br (.o2 .eq (.v 0) (.i 2))
(.ret (.w (.a (.bool (.o2 .eq (.o1 .ofNat (.v 2)) (.i 0))))) [(.a 1, .prop 4)])
(.ret (.w (.a (.bool (.c false)))) [(.a 1, .prop 4)]))))
theorem tree_standing : tree Tryz.prog { absT := [169, 179], keep := [73, 86, 87, 135, 41, 40, 42, 22, 59, 105, 91], turn := [(90, [0])] } Tryz.f41 [.agg [.int .i64 (.v 0), .sl (.v 1) (.v 2) (.v 3)]] [(.a 1, .prop 4)] 5 = t_standing := by kernel_rfl
def t_page : T :=
(.new
(.call 127 [.a (.ptr (.v 5) 0), .a (.int .u8 (.v 0))] [(.b (.v 5), .cells [.sl .nil (.n 0) (.n 0)] 169)] [.p] (.tup []) [(.b (.v 5), .prop 6)]
(.loop [.i, .p] [.e (.o1 .neg (.o1 .neg (.i 0))), .p [(.b (.v 5), .prop 6)]]
(.br (.o2 .lt (.v 7) (.o1 .ofNat (.v 2)))
(.need (.o2 .le (.i 0) (.v 7))
(.need (.o1 .isSome (.v 1))
(.read (.load 3 (.tmp 17)) 3 [(17, .w (.a (.eptr 1 (.v 7) 1 0)))] [(.a 1, .prop 4)] [.i] (.w (.a (.int .i64 (.v 9))))
(.call 122 [.a (.ptr (.v 5) 0), .a (.int .u64 (.o1 (.wrap .u64) (.v 9))), .a (.int .i64 (.i 8))] [(.b (.v 5), .prop 8)] [.p] (.tup []) [(.b (.v 5), .prop 10)]
(.need (.o1 (.inr .i64) (.o2 .add (.v 7) (.i 1)))
(.again 0 [.e (.o1 .neg (.o1 .neg (.o2 .add (.v 7) (.i 1)))), .p [(.b (.v 5), .prop 10)]]))))))
(.ret (.w (.a (.ptr (.v 5) 0))) [(.a 1, .prop 4), (.b (.v 5), .prop 8)])))))
theorem tree_page : tree Tryz.prog { absT := [169, 179], hv := [(0, [.b (.v 5)])], keep := [73, 86, 87, 135, 41, 40, 42, 22, 59, 105, 91], turn := [(90, [0])] } Tryz.f77 [.a (.int .u8 (.v 0)), .a (.sl (.v 1) (.v 2) (.v 3))] [(.a 1, .prop 4)] 5 = t_page := by kernel_rfl
def t_cellPage : T :=
(.new
(.br (.o2 .eq (.v 1) (.i 2))
(.new
(.call 77 [.a (.int .u8 (.i 2)), .a (.sl (.b (.v 7) 0) (.n 1) (.n 1))] [(.b (.v 7), .cells [.int .i64 (.v 0)] 3)] [.n, .p, .i] (.w (.a (.ptr (.v 8) 0))) [(.b (.v 8), .prop 9), (.b (.v 7), .cells [.int .i64 (.v 10)] 3)]
(.call 78 [.a (.ptr (.v 8) 0)] [(.b (.v 8), .prop 9)] [.a, .n, .n, .p, .p] (.w (.a (.sl (.v 11) (.v 12) (.v 13)))) [(.a 11, .prop 14), (.b (.v 8), .prop 15)]
(.ret (.w (.a (.sl (.v 11) (.v 12) (.v 13)))) [(.a 2, .prop 5), (.a 11, .prop 14)]))))
(.new
(.call 77 [.a (.int .u8 (.i 1)), .a (.sl (.b (.v 7) 0) (.n 1) (.n 1))] [(.b (.v 7), .cells [.int .i64 (.v 0)] 3)] [.n, .p, .i] (.w (.a (.ptr (.v 8) 0))) [(.b (.v 8), .prop 9), (.b (.v 7), .cells [.int .i64 (.v 10)] 3)]
(.call 79 [.a (.ptr (.v 8) 0), .a (.sl (.v 2) (.v 3) (.v 4))] [(.b (.v 8), .prop 9), (.a 2, .prop 5)] [.p, .p] (.tup []) [(.b (.v 8), .prop 11), (.a 2, .prop 12)]
(.call 78 [.a (.ptr (.v 8) 0)] [(.b (.v 8), .prop 11)] [.a, .n, .n, .p, .p] (.w (.a (.sl (.v 13) (.v 14) (.v 15)))) [(.a 13, .prop 16), (.b (.v 8), .prop 17)]
(.ret (.w (.a (.sl (.v 13) (.v 14) (.v 15)))) [(.a 2, .prop 12), (.a 13, .prop 16)])))))))
theorem tree_cellPage : tree Tryz.prog { absT := [169, 179], keep := [73, 86, 87, 135, 41, 40, 42, 22, 59, 105, 91], turn := [(90, [0])] } Tryz.f44 [.a (.int .i64 (.v 0)), .agg [.int .i64 (.v 1), .sl (.v 2) (.v 3) (.v 4)]] [(.a 2, .prop 5)] 6 = t_cellPage := by kernel_rfl
def t_uEpoch : T :=
(.ret (.w (.a (.int .i64 (.v 3)))) [(.b (.v 0), .cells [.ptr (.v 1) 0, .int .i64 (.v 3), .int .i64 (.v 4), .int .i64 (.v 5), .map (.v 6), .map (.v 8)] 94), (.b (.v 1), .prop 2), (.b (.v 6), .prop 7), (.b (.v 8), .prop 9)])
theorem tree_uEpoch : tree Tryz.prog { absT := [169, 179], keep := [73, 86, 87, 135, 41, 40, 42, 22, 59, 105, 91], turn := [(90, [0])] } Tryz.f22 [.a (.ptr (.v 0) 0)] [(.b (.v 0), .cells [.ptr (.v 1) 0, .int .i64 (.v 3), .int .i64 (.v 4), .int .i64 (.v 5), .map (.v 6), .map (.v 8)] 94), (.b (.v 1), .prop 2), (.b (.v 6), .prop 7), (.b (.v 8), .prop 9)] 10 = t_uEpoch := by kernel_rfl
def t_uLow : T :=
(.ret (.w (.a (.int .i64 (.v 4)))) [(.b (.v 0), .cells [.ptr (.v 1) 0, .int .i64 (.v 3), .int .i64 (.v 4), .int .i64 (.v 5), .map (.v 6), .map (.v 8)] 94), (.b (.v 1), .prop 2), (.b (.v 6), .prop 7), (.b (.v 8), .prop 9)])
theorem tree_uLow : tree Tryz.prog { absT := [169, 179], keep := [73, 86, 87, 135, 41, 40, 42, 22, 59, 105, 91], turn := [(90, [0])] } Tryz.f59 [.a (.ptr (.v 0) 0)] [(.b (.v 0), .cells [.ptr (.v 1) 0, .int .i64 (.v 3), .int .i64 (.v 4), .int .i64 (.v 5), .map (.v 6), .map (.v 8)] 94), (.b (.v 1), .prop 2), (.b (.v 6), .prop 7), (.b (.v 8), .prop 9)] 10 = t_uLow := by kernel_rfl
def t_uTail : T :=
(.ret (.w (.a (.int .i64 (.o2 .mx (.v 5) (.v 4))))) [(.b (.v 0), .cells [.ptr (.v 1) 0, .int .i64 (.v 3), .int .i64 (.v 4), .int .i64 (.v 5), .map (.v 6), .map (.v 8)] 94), (.b (.v 1), .prop 2), (.b (.v 6), .prop 7), (.b (.v 8), .prop 9)])
theorem tree_uTail : tree Tryz.prog { absT := [169, 179], keep := [73, 86, 87, 135, 41, 40, 42, 22, 59, 105, 91], turn := [(90, [0])] } Tryz.f105 [.a (.ptr (.v 0) 0)] [(.b (.v 0), .cells [.ptr (.v 1) 0, .int .i64 (.v 3), .int .i64 (.v 4), .int .i64 (.v 5), .map (.v 6), .map (.v 8)] 94), (.b (.v 1), .prop 2), (.b (.v 6), .prop 7), (.b (.v 8), .prop 9)] 10 = t_uTail := by kernel_rfl
def t_uReach : T :=
(.br (.o1 .not (.o2 .eq (.v 10) (.v 3)))
(.ret (.w (.a (.int .i64 (.i 8)))) [(.b (.v 0), .cells [.ptr (.v 1) 0, .int .i64 (.v 3), .int .i64 (.v 4), .int .i64 (.v 5), .map (.v 6), .map (.v 8)] 94), (.b (.v 1), .prop 2), (.b (.v 6), .prop 7), (.b (.v 8), .prop 9)])
(.call 73 [.a (.int .i64 (.v 11))] [] [.c] (.w (.a (.bool (.v 12)))) []
(.br (.o1 .not (.v 12))
(.ret (.w (.a (.int .i64 (.i 2)))) [(.b (.v 0), .cells [.ptr (.v 1) 0, .int .i64 (.v 3), .int .i64 (.v 4), .int .i64 (.v 5), .map (.v 6), .map (.v 8)] 94), (.b (.v 1), .prop 2), (.b (.v 6), .prop 7), (.b (.v 8), .prop 9)])
(.ret (.w (.a (.int .i64 (.i 0)))) [(.b (.v 0), .cells [.ptr (.v 1) 0, .int .i64 (.v 3), .int .i64 (.v 4), .int .i64 (.v 5), .map (.v 6), .map (.v 8)] 94), (.b (.v 1), .prop 2), (.b (.v 6), .prop 7), (.b (.v 8), .prop 9)]))))
theorem tree_uReach : tree Tryz.prog { absT := [169, 179], keep := [73, 86, 87, 135, 41, 40, 42, 22, 59, 105, 91], turn := [(90, [0])] } Tryz.f40 [.a (.ptr (.v 0) 0), .a (.int .i64 (.v 10)), .a (.int .i64 (.v 11))] [(.b (.v 0), .cells [.ptr (.v 1) 0, .int .i64 (.v 3), .int .i64 (.v 4), .int .i64 (.v 5), .map (.v 6), .map (.v 8)] 94), (.b (.v 1), .prop 2), (.b (.v 6), .prop 7), (.b (.v 8), .prop 9)] 12 = t_uReach := by kernel_rfl
def t_uLast : T :=
(.call 75 [.a (.ptr (.v 1) 0), .a (.sl (.v 10) (.v 11) (.v 12))] [(.b (.v 1), .prop 2), (.a 10, .prop 13)] [.i, .p, .p] (.w (.a (.int .i64 (.v 14)))) [(.b (.v 1), .prop 15), (.a 10, .prop 16)]
(.br (.o1 .not (.o2 .eq (.v 14) (.i 0)))
(.ret (.w (.a (.int .i64 (.v 14)))) [(.b (.v 0), .cells [.ptr (.v 1) 0, .int .i64 (.v 3), .int .i64 (.v 4), .int .i64 (.v 5), .map (.v 6), .map (.v 8)] 94), (.b (.v 1), .prop 15), (.b (.v 6), .prop 7), (.b (.v 8), .prop 9), (.a 10, .prop 16)])
(.call 76 [.a (.ptr (.v 1) 0)] [(.b (.v 1), .prop 15)] [.p] (.tup []) [(.b (.v 1), .prop 17)]
(.ret (.w (.a (.int .i64 (.i 0)))) [(.b (.v 0), .cells [.ptr (.v 1) 0, .int .i64 (.v 3), .int .i64 (.v 4), .int .i64 (.v 5), .map (.v 6), .map (.v 8)] 94), (.b (.v 1), .prop 17), (.b (.v 6), .prop 7), (.b (.v 8), .prop 9), (.a 10, .prop 16)]))))
theorem tree_uLast : tree Tryz.prog { absT := [169, 179], keep := [73, 86, 87, 135, 41, 40, 42, 22, 59, 105, 91], turn := [(90, [0])] } Tryz.f43 [.a (.ptr (.v 0) 0), .a (.sl (.v 10) (.v 11) (.v 12))] [(.b (.v 0), .cells [.ptr (.v 1) 0, .int .i64 (.v 3), .int .i64 (.v 4), .int .i64 (.v 5), .map (.v 6), .map (.v 8)] 94), (.b (.v 1), .prop 2), (.b (.v 6), .prop 7), (.b (.v 8), .prop 9), (.a 10, .prop 13)] 14 = t_uLast := by kernel_rfl
def t_uPut : T :=
(.new
(.call 74 [.a (.sl (.v 12) (.v 13) (.v 14))] [(.a 12, .prop 15)] [.a, .n, .n, .p, .p] (.w (.a (.sl (.v 17) (.v 18) (.v 19)))) [(.a 17, .prop 20), (.a 12, .prop 21)]
(.op (.mapUpdate 91 (.tmp 9) (.tmp 10) (.tmp 16)) 0 [(9, .w (.a (.map (.v 6)))), (10, .w (.a (.int .i64 (.v 10)))), (16, .w (.agg [.int .i64 (.v 11), .sl (.v 17) (.v 18) (.v 19)]))] [(.b (.v 6), .prop 7), (.a 17, .prop 20)] [.p] (.tup []) [(.b (.v 6), .prop 22), (.a 17, .prop 20)]
(.need (.o1 (.inr .i64) (.o2 .add (.v 10) (.i 1)))
(.ret (.tup []) [(.b (.v 0), .cells [.ptr (.v 1) 0, .int .i64 (.v 3), .int .i64 (.v 4), .int .i64 (.o2 .mx (.v 5) (.o2 .add (.v 10) (.i 1))), .map (.v 6), .map (.v 8)] 94), (.b (.v 1), .prop 2), (.b (.v 6), .prop 22), (.b (.v 8), .prop 9), (.a 12, .prop 21)])))))
theorem tree_uPut : tree Tryz.prog { absT := [169, 179], keep := [73, 86, 87, 135, 41, 40, 42, 22, 59, 105, 91], turn := [(90, [0])] } Tryz.f45 [.a (.ptr (.v 0) 0), .a (.int .i64 (.v 10)), .agg [.int .i64 (.v 11), .sl (.v 12) (.v 13) (.v 14)]] [(.b (.v 0), .cells [.ptr (.v 1) 0, .int .i64 (.v 3), .int .i64 (.v 4), .int .i64 (.v 5), .map (.v 6), .map (.v 8)] 94), (.b (.v 1), .prop 2), (.b (.v 6), .prop 7), (.b (.v 8), .prop 9), (.a 12, .prop 15)] 16 = t_uPut := by kernel_rfl
def t_uCell : T :=
(.new
(.read (.lookup 91 (.tmp 12) (.tmp 13) true) 95 [(12, .w (.a (.map (.v 6)))), (13, .w (.a (.int .i64 (.v 10))))] [(.b (.v 6), .prop 7)] [.i, .a, .n, .n, .c] (.tup [.agg [.int .i64 (.v 12), .sl (.v 13) (.v 14) (.v 15)], .a (.bool (.v 16))])
(.new
(.call 74 [.a (.sl (.v 13) (.v 14) (.v 15))] [(.b (.v 6), .prop 7)] [.a, .n, .n, .p, .p] (.w (.a (.sl (.v 18) (.v 19) (.v 20)))) [(.a 18, .prop 21), (.b (.v 6), .prop 22)]
(.ret (.tup [.agg [.int .i64 (.v 12), .sl (.v 18) (.v 19) (.v 20)], .a (.bool (.v 16))]) [(.b (.v 0), .cells [.ptr (.v 1) 0, .int .i64 (.v 3), .int .i64 (.v 4), .int .i64 (.v 5), .map (.v 6), .map (.v 8)] 94), (.b (.v 1), .prop 2), (.b (.v 6), .prop 22), (.b (.v 8), .prop 9), (.a 18, .prop 21)])))))
theorem tree_uCell : tree Tryz.prog { absT := [169, 179], keep := [73, 86, 87, 135, 41, 40, 42, 22, 59, 105, 91], turn := [(90, [0])] } Tryz.f42 [.a (.ptr (.v 0) 0), .a (.int .i64 (.v 10))] [(.b (.v 0), .cells [.ptr (.v 1) 0, .int .i64 (.v 3), .int .i64 (.v 4), .int .i64 (.v 5), .map (.v 6), .map (.v 8)] 94), (.b (.v 1), .prop 2), (.b (.v 6), .prop 7), (.b (.v 8), .prop 9)] 11 = t_uCell := by kernel_rfl
def t_uProm : T :=
(.new
(.read (.lookup 92 (.tmp 10) (.tmp 11) false) 182 [(10, .w (.a (.map (.v 8)))), (11, .w (.a (.int .i64 (.v 10))))] [(.b (.v 8), .prop 9)] [.i, .i, .i, .i, .a, .n, .n] (.w (.agg [.int .i64 (.v 14), .int .i64 (.v 15), .int .i64 (.v 16), .int .i64 (.v 17), .sl (.v 18) (.v 19) (.v 20)]))
(.new
(.op (.mapUpdate 92 (.tmp 18) (.tmp 19) (.tmp 20)) 0 [(18, .w (.a (.map (.v 8)))), (19, .w (.a (.int .i64 (.v 10)))), (20, .w (.agg [.int .i64 (.v 11), .int .i64 (.v 12), .int .i64 (.v 16), .int .i64 (.v 17), .sl (.v 18) (.v 19) (.v 20)]))] [(.b (.v 8), .prop 9)] [.p] (.tup []) [(.b (.v 8), .prop 22)]
(.ret (.tup []) [(.b (.v 0), .cells [.ptr (.v 1) 0, .int .i64 (.v 3), .int .i64 (.v 4), .int .i64 (.v 5), .map (.v 6), .map (.v 8)] 94), (.b (.v 1), .prop 2), (.b (.v 6), .prop 7), (.b (.v 8), .prop 22)])))))
theorem tree_uProm : tree Tryz.prog { absT := [169, 179], keep := [73, 86, 87, 135, 41, 40, 42, 22, 59, 105, 91], turn := [(90, [0])] } Tryz.f88 [.a (.ptr (.v 0) 0), .a (.int .i64 (.v 10)), .agg [.int .i64 (.v 11), .int .i64 (.v 12)]] [(.b (.v 0), .cells [.ptr (.v 1) 0, .int .i64 (.v 3), .int .i64 (.v 4), .int .i64 (.v 5), .map (.v 6), .map (.v 8)] 94), (.b (.v 1), .prop 2), (.b (.v 6), .prop 7), (.b (.v 8), .prop 9)] 13 = t_uProm := by kernel_rfl
def t_uAcc : T :=
(.new
(.call 74 [.a (.sl (.v 13) (.v 14) (.v 15))] [(.a 13, .prop 16)] [.a, .n, .n, .p, .p] (.w (.a (.sl (.v 18) (.v 19) (.v 20)))) [(.a 18, .prop 21), (.a 13, .prop 22)]
(.op (.mapUpdate 92 (.tmp 11) (.tmp 12) (.tmp 17)) 0 [(11, .w (.a (.map (.v 8)))), (12, .w (.a (.int .i64 (.v 10)))), (17, .w (.agg [.int .i64 (.v 11), .int .i64 (.v 12), .int .i64 (.v 11), .int .i64 (.v 12), .sl (.v 18) (.v 19) (.v 20)]))] [(.b (.v 8), .prop 9), (.a 18, .prop 21)] [.p] (.tup []) [(.b (.v 8), .prop 23), (.a 18, .prop 21)]
(.ret (.tup []) [(.b (.v 0), .cells [.ptr (.v 1) 0, .int .i64 (.v 3), .int .i64 (.v 4), .int .i64 (.v 5), .map (.v 6), .map (.v 8)] 94), (.b (.v 1), .prop 2), (.b (.v 6), .prop 7), (.b (.v 8), .prop 23), (.a 13, .prop 22)]))))
theorem tree_uAcc : tree Tryz.prog { absT := [169, 179], keep := [73, 86, 87, 135, 41, 40, 42, 22, 59, 105, 91], turn := [(90, [0])] } Tryz.f89 [.a (.ptr (.v 0) 0), .a (.int .i64 (.v 10)), .agg [.int .i64 (.v 11), .int .i64 (.v 12)], .a (.sl (.v 13) (.v 14) (.v 15))] [(.b (.v 0), .cells [.ptr (.v 1) 0, .int .i64 (.v 3), .int .i64 (.v 4), .int .i64 (.v 5), .map (.v 6), .map (.v 8)] 94), (.b (.v 1), .prop 2), (.b (.v 6), .prop 7), (.b (.v 8), .prop 9), (.a 13, .prop 16)] 17 = t_uAcc := by kernel_rfl
def t_uFor1 : T :=
(.new
(.ret (.w (.a (.bool (.o2 .lt (.v 0) (.v 11))))) [(.a 2, .prop 5), (.b (.v 6), .cells [.ptr (.v 7) 0] 62), (.b (.v 7), .cells [.ptr (.v 8) 0, .int .i64 (.v 10), .int .i64 (.v 11), .int .i64 (.v 12), .map (.v 13), .map (.v 15)] 94), (.b (.v 8), .prop 9), (.b (.v 13), .prop 14), (.b (.v 15), .prop 16)]))
theorem tree_uFor1 : tree Tryz.prog { absT := [169, 179], keep := [73, 86, 87, 135, 41, 40, 42, 22, 59, 105, 91], turn := [(90, [0])] } Tryz.f91 [.a (.int .i64 (.v 0)), .agg [.int .i64 (.v 1), .sl (.v 2) (.v 3) (.v 4)], .a (.ptr (.v 6) 0)] [(.a 2, .prop 5), (.b (.v 6), .cells [.ptr (.v 7) 0] 62), (.b (.v 7), .cells [.ptr (.v 8) 0, .int .i64 (.v 10), .int .i64 (.v 11), .int .i64 (.v 12), .map (.v 13), .map (.v 15)] 94), (.b (.v 8), .prop 9), (.b (.v 13), .prop 14), (.b (.v 15), .prop 16)] 17 = t_uFor1 := by kernel_rfl
def t_delF : T :=
(.op (.range 91 (.tmp 6)) 0 [(6, .w (.a (.map (.v 0))))] [(.b (.v 0), .prop 1)] [.n, .p, .p] (.w (.a (.ptr (.v 11) 0))) [(.b (.v 11), .prop 12), (.b (.v 0), .prop 13)]
(.loop [.p, .p] [.p [(.b (.v 11), .prop 12)], .p [(.b (.v 0), .prop 13)]]
(.op (.next (.tmp 7) false) 0 [(7, .w (.a (.ptr (.v 11) 0)))] [(.b (.v 11), .prop 14), (.b (.v 0), .prop 15)] [.c, .v, .v, .p] (.nx 16 17 18) [(.b (.v 11), .prop 19), (.b (.v 0), .prop 15)]
(.br (.v 16)
(.read (.entry (.tmp 7)) 0 [(7, .w (.a (.ptr (.v 11) 0)))] [(.b (.v 11), .prop 19), (.b (.v 0), .prop 15)] [.i, .i, .a, .n, .n] (.tup [.a (.int .i64 (.v 20)), .agg [.int .i64 (.v 21), .sl (.v 22) (.v 23) (.v 24)]])
(.new
(.call 91 [.a (.int .i64 (.v 20)), .agg [.int .i64 (.v 21), .sl (.v 22) (.v 23) (.v 24)], .a (.ptr (.v 2) 0)] [(.b (.v 0), .prop 15), (.b (.v 2), .cells [.ptr (.v 3) 0] 62), (.b (.v 3), .cells [.ptr (.v 4) 0, .int .i64 (.v 6), .int .i64 (.v 7), .int .i64 (.v 8), .map (.v 0), .map (.v 9)] 94), (.b (.v 4), .prop 5), (.b (.v 9), .prop 10)] [.c] (.w (.a (.bool (.v 26)))) [(.b (.v 0), .prop 15), (.b (.v 2), .cells [.ptr (.v 3) 0] 62), (.b (.v 3), .cells [.ptr (.v 4) 0, .int .i64 (.v 6), .int .i64 (.v 7), .int .i64 (.v 8), .map (.v 0), .map (.v 9)] 94), (.b (.v 4), .prop 5), (.b (.v 9), .prop 10)]
(.br (.v 26)
(.op (.call ⟨.builtin .delete, #[.tmp 17, .tmp 18], #[91, 3]⟩) 0 [(17, .w (.a (.map (.v 0)))), (18, .w (.a (.int .i64 (.v 20))))] [(.b (.v 0), .prop 15)] [.p] (.tup []) [(.b (.v 0), .prop 27)]
(.again 0 [.p [(.b (.v 11), .prop 19)], .p [(.b (.v 0), .prop 27)]]))
(.again 0 [.p [(.b (.v 11), .prop 19)], .p [(.b (.v 0), .prop 15)]])))))
(.ret (.tup []) [(.b (.v 0), .prop 15), (.b (.v 2), .cells [.ptr (.v 3) 0] 62), (.b (.v 3), .cells [.ptr (.v 4) 0, .int .i64 (.v 6), .int .i64 (.v 7), .int .i64 (.v 8), .map (.v 0), .map (.v 9)] 94), (.b (.v 4), .prop 5), (.b (.v 9), .prop 10)])))))
theorem tree_delF : tree Tryz.prog { absT := [169, 179], hv := [(0, [.b (.v 11), .b (.v 0)])], keep := [73, 86, 87, 135, 41, 40, 42, 22, 59, 105, 91], ent := [(10, [3, 37])], turn := [(90, [0])] } Tryz.f90 [.a (.map (.v 0)), .a (.func 91 [(.v 2, 0)])] [(.b (.v 0), .prop 1), (.b (.v 2), .cells [.ptr (.v 3) 0] 62), (.b (.v 3), .cells [.ptr (.v 4) 0, .int .i64 (.v 6), .int .i64 (.v 7), .int .i64 (.v 8), .map (.v 0), .map (.v 9)] 94), (.b (.v 4), .prop 5), (.b (.v 9), .prop 10)] 11 = t_delF := by kernel_rfl
def t_uForget : T :=
(.new
(.call 90 [.a (.map (.v 6)), .a (.func 91 [(.v 10, 0)])] [(.b (.v 6), .prop 7), (.b (.v 10), .cells [.ptr (.v 0) 0] 62), (.b (.v 0), .cells [.ptr (.v 1) 0, .int .i64 (.v 3), .int .i64 (.v 4), .int .i64 (.v 5), .map (.v 6), .map (.v 8)] 94), (.b (.v 1), .prop 2), (.b (.v 8), .prop 9)] [.p] (.tup []) [(.b (.v 6), .prop 11), (.b (.v 10), .cells [.ptr (.v 0) 0] 62), (.b (.v 0), .cells [.ptr (.v 1) 0, .int .i64 (.v 3), .int .i64 (.v 4), .int .i64 (.v 5), .map (.v 6), .map (.v 8)] 94), (.b (.v 1), .prop 2), (.b (.v 8), .prop 9)]
(.ret (.tup []) [(.b (.v 0), .cells [.ptr (.v 1) 0, .int .i64 (.v 3), .int .i64 (.v 4), .int .i64 (.v 5), .map (.v 6), .map (.v 8)] 94), (.b (.v 1), .prop 2), (.b (.v 6), .prop 11), (.b (.v 8), .prop 9)])))
theorem tree_uForget : tree Tryz.prog { absT := [169, 179], keep := [73, 86, 87, 135, 41, 40, 42, 22, 59, 105, 91], turn := [(90, [0])] } Tryz.f49 [.a (.ptr (.v 0) 0)] [(.b (.v 0), .cells [.ptr (.v 1) 0, .int .i64 (.v 3), .int .i64 (.v 4), .int .i64 (.v 5), .map (.v 6), .map (.v 8)] 94), (.b (.v 1), .prop 2), (.b (.v 6), .prop 7), (.b (.v 8), .prop 9)] 10 = t_uForget := by kernel_rfl
def t_uFollow : T :=
(.call 81 [.a (.sl (.v 10) (.v 11) (.v 12))] [(.a 10, .prop 13)] [.n, .p, .p] (.w (.a (.ptr (.v 14) 0))) [(.b (.v 14), .prop 15), (.a 10, .prop 16)]
(.call 82 [.a (.ptr (.v 14) 0)] [(.b (.v 14), .prop 15)] [.i, .p] (.w (.a (.int .u8 (.v 17)))) [(.b (.v 14), .prop 18)]
(.call 83 [.a (.ptr (.v 14) 0)] [(.b (.v 14), .prop 18)] [.i, .p] (.w (.a (.int .i64 (.v 19)))) [(.b (.v 14), .prop 20)]
(.br (.o2 .eq (.v 17) (.i 1))
(.call 84 [.a (.ptr (.v 14) 0), .a (.int .i64 (.i 65536))] [(.b (.v 14), .prop 20)] [.a, .n, .n, .p, .p] (.w (.a (.sl (.v 21) (.v 22) (.v 23)))) [(.a 21, .prop 24), (.b (.v 14), .prop 25)]
(.new
(.call 85 [.a (.ptr (.v 14) 0)] [(.b (.v 14), .prop 25)] [.i, .p] (.w (.a (.int .i64 (.v 27)))) [(.b (.v 14), .prop 28)]
(.br (.o1 .not (.o2 .eq (.v 27) (.i 0)))
(.ret (.w (.a (.bool (.c false)))) [(.b (.v 0), .cells [.ptr (.v 1) 0, .int .i64 (.v 3), .int .i64 (.v 4), .int .i64 (.v 5), .map (.v 6), .map (.v 8)] 94), (.b (.v 1), .prop 2), (.b (.v 6), .prop 7), (.b (.v 8), .prop 9), (.a 10, .prop 16)])
(.call 73 [.a (.int .i64 (.v 19))] [] [.c] (.w (.a (.bool (.v 29)))) []
(.br (.o1 .not (.v 29))
(.ret (.w (.a (.bool (.c false)))) [(.b (.v 0), .cells [.ptr (.v 1) 0, .int .i64 (.v 3), .int .i64 (.v 4), .int .i64 (.v 5), .map (.v 6), .map (.v 8)] 94), (.b (.v 1), .prop 2), (.b (.v 6), .prop 7), (.b (.v 8), .prop 9), (.a 10, .prop 16)])
(.call 45 [.a (.ptr (.v 0) 0), .a (.int .i64 (.v 19)), .agg [.int .i64 (.i 1), .sl (.v 21) (.v 22) (.v 23)]] [(.b (.v 0), .cells [.ptr (.v 1) 0, .int .i64 (.v 3), .int .i64 (.v 4), .int .i64 (.v 5), .map (.v 6), .map (.v 8)] 94), (.b (.v 1), .prop 2), (.b (.v 6), .prop 7), (.b (.v 8), .prop 9), (.a 21, .prop 24)] [.n, .p, .i, .i, .i, .n, .p, .n, .p, .p] (.tup []) [(.b (.v 0), .cells [.ptr (.v 30) 0, .int .i64 (.v 32), .int .i64 (.v 33), .int .i64 (.v 34), .map (.v 35), .map (.v 37)] 94), (.b (.v 30), .prop 31), (.b (.v 35), .prop 36), (.b (.v 37), .prop 38), (.a 21, .prop 39)]
(.ret (.w (.a (.bool (.c true)))) [(.b (.v 0), .cells [.ptr (.v 30) 0, .int .i64 (.v 32), .int .i64 (.v 33), .int .i64 (.v 34), .map (.v 35), .map (.v 37)] 94), (.b (.v 30), .prop 31), (.b (.v 35), .prop 36), (.b (.v 37), .prop 38), (.a 10, .prop 16)]))))))))
(.br (.o2 .eq (.v 17) (.i 2))
(.call 85 [.a (.ptr (.v 14) 0)] [(.b (.v 14), .prop 20)] [.i, .p] (.w (.a (.int .i64 (.v 21)))) [(.b (.v 14), .prop 22)]
(.br (.o1 .not (.o2 .eq (.v 21) (.i 0)))
(.ret (.w (.a (.bool (.c false)))) [(.b (.v 0), .cells [.ptr (.v 1) 0, .int .i64 (.v 3), .int .i64 (.v 4), .int .i64 (.v 5), .map (.v 6), .map (.v 8)] 94), (.b (.v 1), .prop 2), (.b (.v 6), .prop 7), (.b (.v 8), .prop 9), (.a 10, .prop 16)])
(.call 73 [.a (.int .i64 (.v 19))] [] [.c] (.w (.a (.bool (.v 23)))) []
(.br (.o1 .not (.v 23))
(.ret (.w (.a (.bool (.c false)))) [(.b (.v 0), .cells [.ptr (.v 1) 0, .int .i64 (.v 3), .int .i64 (.v 4), .int .i64 (.v 5), .map (.v 6), .map (.v 8)] 94), (.b (.v 1), .prop 2), (.b (.v 6), .prop 7), (.b (.v 8), .prop 9), (.a 10, .prop 16)])
(.call 45 [.a (.ptr (.v 0) 0), .a (.int .i64 (.v 19)), .agg [.int .i64 (.i 2), .sl .nil (.n 0) (.n 0)]] [(.b (.v 0), .cells [.ptr (.v 1) 0, .int .i64 (.v 3), .int .i64 (.v 4), .int .i64 (.v 5), .map (.v 6), .map (.v 8)] 94), (.b (.v 1), .prop 2), (.b (.v 6), .prop 7), (.b (.v 8), .prop 9)] [.n, .p, .i, .i, .i, .n, .p, .n, .p] (.tup []) [(.b (.v 0), .cells [.ptr (.v 24) 0, .int .i64 (.v 26), .int .i64 (.v 27), .int .i64 (.v 28), .map (.v 29), .map (.v 31)] 94), (.b (.v 24), .prop 25), (.b (.v 29), .prop 30), (.b (.v 31), .prop 32)]
(.ret (.w (.a (.bool (.c true)))) [(.b (.v 0), .cells [.ptr (.v 24) 0, .int .i64 (.v 26), .int .i64 (.v 27), .int .i64 (.v 28), .map (.v 29), .map (.v 31)] 94), (.b (.v 24), .prop 25), (.b (.v 29), .prop 30), (.b (.v 31), .prop 32), (.a 10, .prop 16)]))))))
(.br (.o2 .eq (.v 17) (.i 3))
(.call 85 [.a (.ptr (.v 14) 0)] [(.b (.v 14), .prop 20)] [.i, .p] (.w (.a (.int .i64 (.v 21)))) [(.b (.v 14), .prop 22)]
(.br (.o1 .not (.o2 .eq (.v 21) (.i 0)))
(.ret (.w (.a (.bool (.c false)))) [(.b (.v 0), .cells [.ptr (.v 1) 0, .int .i64 (.v 3), .int .i64 (.v 4), .int .i64 (.v 5), .map (.v 6), .map (.v 8)] 94), (.b (.v 1), .prop 2), (.b (.v 6), .prop 7), (.b (.v 8), .prop 9), (.a 10, .prop 16)])
(.call 73 [.a (.int .i64 (.v 19))] [] [.c] (.w (.a (.bool (.v 23)))) []
(.br (.o1 .not (.v 23))
(.ret (.w (.a (.bool (.c false)))) [(.b (.v 0), .cells [.ptr (.v 1) 0, .int .i64 (.v 3), .int .i64 (.v 4), .int .i64 (.v 5), .map (.v 6), .map (.v 8)] 94), (.b (.v 1), .prop 2), (.b (.v 6), .prop 7), (.b (.v 8), .prop 9), (.a 10, .prop 16)])
(.ret (.w (.a (.bool (.c true)))) [(.b (.v 0), .cells [.ptr (.v 1) 0, .int .i64 (.v 3), .int .i64 (.v 19), .int .i64 (.v 5), .map (.v 6), .map (.v 8)] 94), (.b (.v 1), .prop 2), (.b (.v 6), .prop 7), (.b (.v 8), .prop 9), (.a 10, .prop 16)])))))
(.br (.o2 .eq (.v 17) (.i 4))
(.call 85 [.a (.ptr (.v 14) 0)] [(.b (.v 14), .prop 20)] [.i, .p] (.w (.a (.int .i64 (.v 21)))) [(.b (.v 14), .prop 22)]
(.br (.o1 .not (.o2 .eq (.v 21) (.i 0)))
(.ret (.w (.a (.bool (.c false)))) [(.b (.v 0), .cells [.ptr (.v 1) 0, .int .i64 (.v 3), .int .i64 (.v 4), .int .i64 (.v 5), .map (.v 6), .map (.v 8)] 94), (.b (.v 1), .prop 2), (.b (.v 6), .prop 7), (.b (.v 8), .prop 9), (.a 10, .prop 16)])
(.call 86 [.a (.int .i64 (.v 19))] [] [.c] (.w (.a (.bool (.v 23)))) []
(.br (.o1 .not (.v 23))
(.ret (.w (.a (.bool (.c false)))) [(.b (.v 0), .cells [.ptr (.v 1) 0, .int .i64 (.v 3), .int .i64 (.v 4), .int .i64 (.v 5), .map (.v 6), .map (.v 8)] 94), (.b (.v 1), .prop 2), (.b (.v 6), .prop 7), (.b (.v 8), .prop 9), (.a 10, .prop 16)])
(.ret (.w (.a (.bool (.c true)))) [(.b (.v 0), .cells [.ptr (.v 1) 0, .int .i64 (.v 19), .int .i64 (.v 4), .int .i64 (.v 5), .map (.v 6), .map (.v 8)] 94), (.b (.v 1), .prop 2), (.b (.v 6), .prop 7), (.b (.v 8), .prop 9), (.a 10, .prop 16)])))))
(.br (.o2 .eq (.v 17) (.i 5))
(.call 83 [.a (.ptr (.v 14) 0)] [(.b (.v 14), .prop 20)] [.i, .p] (.w (.a (.int .i64 (.v 21)))) [(.b (.v 14), .prop 22)]
(.call 83 [.a (.ptr (.v 14) 0)] [(.b (.v 14), .prop 22)] [.i, .p] (.w (.a (.int .i64 (.v 23)))) [(.b (.v 14), .prop 24)]
(.new
(.call 85 [.a (.ptr (.v 14) 0)] [(.b (.v 14), .prop 24)] [.i, .p] (.w (.a (.int .i64 (.v 26)))) [(.b (.v 14), .prop 27)]
(.br (.o1 .not (.o2 .eq (.v 26) (.i 0)))
(.ret (.w (.a (.bool (.c false)))) [(.b (.v 0), .cells [.ptr (.v 1) 0, .int .i64 (.v 3), .int .i64 (.v 4), .int .i64 (.v 5), .map (.v 6), .map (.v 8)] 94), (.b (.v 1), .prop 2), (.b (.v 6), .prop 7), (.b (.v 8), .prop 9), (.a 10, .prop 16)])
(.call 87 [.a (.int .i64 (.v 19)), .agg [.int .i64 (.v 21), .int .i64 (.v 23)]] [] [.c] (.w (.a (.bool (.v 28)))) []
(.br (.o1 .not (.v 28))
(.ret (.w (.a (.bool (.c false)))) [(.b (.v 0), .cells [.ptr (.v 1) 0, .int .i64 (.v 3), .int .i64 (.v 4), .int .i64 (.v 5), .map (.v 6), .map (.v 8)] 94), (.b (.v 1), .prop 2), (.b (.v 6), .prop 7), (.b (.v 8), .prop 9), (.a 10, .prop 16)])
(.call 88 [.a (.ptr (.v 0) 0), .a (.int .i64 (.v 19)), .agg [.int .i64 (.v 21), .int .i64 (.v 23)]] [(.b (.v 0), .cells [.ptr (.v 1) 0, .int .i64 (.v 3), .int .i64 (.v 4), .int .i64 (.v 5), .map (.v 6), .map (.v 8)] 94), (.b (.v 1), .prop 2), (.b (.v 6), .prop 7), (.b (.v 8), .prop 9)] [.n, .p, .i, .i, .i, .n, .p, .n, .p] (.tup []) [(.b (.v 0), .cells [.ptr (.v 29) 0, .int .i64 (.v 31), .int .i64 (.v 32), .int .i64 (.v 33), .map (.v 34), .map (.v 36)] 94), (.b (.v 29), .prop 30), (.b (.v 34), .prop 35), (.b (.v 36), .prop 37)]
(.ret (.w (.a (.bool (.c true)))) [(.b (.v 0), .cells [.ptr (.v 29) 0, .int .i64 (.v 31), .int .i64 (.v 32), .int .i64 (.v 33), .map (.v 34), .map (.v 36)] 94), (.b (.v 29), .prop 30), (.b (.v 34), .prop 35), (.b (.v 36), .prop 37), (.a 10, .prop 16)])))))))))
(.br (.o2 .eq (.v 17) (.i 6))
(.call 83 [.a (.ptr (.v 14) 0)] [(.b (.v 14), .prop 20)] [.i, .p] (.w (.a (.int .i64 (.v 21)))) [(.b (.v 14), .prop 22)]
(.call 83 [.a (.ptr (.v 14) 0)] [(.b (.v 14), .prop 22)] [.i, .p] (.w (.a (.int .i64 (.v 23)))) [(.b (.v 14), .prop 24)]
(.new
(.call 84 [.a (.ptr (.v 14) 0), .a (.int .i64 (.i 1000))] [(.b (.v 14), .prop 24)] [.a, .n, .n, .p, .p] (.w (.a (.sl (.v 26) (.v 27) (.v 28)))) [(.a 26, .prop 29), (.b (.v 14), .prop 30)]
(.call 85 [.a (.ptr (.v 14) 0)] [(.b (.v 14), .prop 30)] [.i, .p] (.w (.a (.int .i64 (.v 31)))) [(.b (.v 14), .prop 32)]
(.br (.o1 .not (.o2 .eq (.v 31) (.i 0)))
(.ret (.w (.a (.bool (.c false)))) [(.b (.v 0), .cells [.ptr (.v 1) 0, .int .i64 (.v 3), .int .i64 (.v 4), .int .i64 (.v 5), .map (.v 6), .map (.v 8)] 94), (.b (.v 1), .prop 2), (.b (.v 6), .prop 7), (.b (.v 8), .prop 9), (.a 10, .prop 16)])
(.call 87 [.a (.int .i64 (.v 19)), .agg [.int .i64 (.v 21), .int .i64 (.v 23)]] [] [.c] (.w (.a (.bool (.v 33)))) []
(.br (.o1 .not (.v 33))
(.ret (.w (.a (.bool (.c false)))) [(.b (.v 0), .cells [.ptr (.v 1) 0, .int .i64 (.v 3), .int .i64 (.v 4), .int .i64 (.v 5), .map (.v 6), .map (.v 8)] 94), (.b (.v 1), .prop 2), (.b (.v 6), .prop 7), (.b (.v 8), .prop 9), (.a 10, .prop 16)])
(.call 89 [.a (.ptr (.v 0) 0), .a (.int .i64 (.v 19)), .agg [.int .i64 (.v 21), .int .i64 (.v 23)], .a (.sl (.v 26) (.v 27) (.v 28))] [(.b (.v 0), .cells [.ptr (.v 1) 0, .int .i64 (.v 3), .int .i64 (.v 4), .int .i64 (.v 5), .map (.v 6), .map (.v 8)] 94), (.b (.v 1), .prop 2), (.b (.v 6), .prop 7), (.b (.v 8), .prop 9), (.a 26, .prop 29)] [.n, .p, .i, .i, .i, .n, .p, .n, .p, .p] (.tup []) [(.b (.v 0), .cells [.ptr (.v 34) 0, .int .i64 (.v 36), .int .i64 (.v 37), .int .i64 (.v 38), .map (.v 39), .map (.v 41)] 94), (.b (.v 34), .prop 35), (.b (.v 39), .prop 40), (.b (.v 41), .prop 42), (.a 26, .prop 43)]
(.ret (.w (.a (.bool (.c true)))) [(.b (.v 0), .cells [.ptr (.v 34) 0, .int .i64 (.v 36), .int .i64 (.v 37), .int .i64 (.v 38), .map (.v 39), .map (.v 41)] 94), (.b (.v 34), .prop 35), (.b (.v 39), .prop 40), (.b (.v 41), .prop 42), (.a 10, .prop 16)]))))))))))
(.ret (.w (.a (.bool (.c false)))) [(.b (.v 0), .cells [.ptr (.v 1) 0, .int .i64 (.v 3), .int .i64 (.v 4), .int .i64 (.v 5), .map (.v 6), .map (.v 8)] 94), (.b (.v 1), .prop 2), (.b (.v 6), .prop 7), (.b (.v 8), .prop 9), (.a 10, .prop 16)]))))))))))
theorem tree_uFollow : tree Tryz.prog { absT := [169, 179], keep := [73, 86, 87, 135, 41, 40, 42, 22, 59, 105, 91], turn := [(90, [0])] } Tryz.f48 [.a (.ptr (.v 0) 0), .a (.sl (.v 10) (.v 11) (.v 12))] [(.b (.v 0), .cells [.ptr (.v 1) 0, .int .i64 (.v 3), .int .i64 (.v 4), .int .i64 (.v 5), .map (.v 6), .map (.v 8)] 94), (.b (.v 1), .prop 2), (.b (.v 6), .prop 7), (.b (.v 8), .prop 9), (.a 10, .prop 13)] 14 = t_uFollow := by kernel_rfl
def t_uOpen : T :=
(.new
(.new
(.new
(.call 47 [.a (.ptr (.v 0) 0)] [(.b (.v 0), .prop 1)] [.a, .n, .n, .p, .p] (.w (.a (.sl (.v 5) (.v 6) (.v 7)))) [(.a 5, .prop 8), (.b (.v 0), .prop 9)]
(.loop [.v, .p, .i, .i, .p, .p, .n, .i, .i, .i, .n, .n, .p, .p] [.v .nilp, .p [], .e (.o1 .neg (.o1 .neg (.i 0))), .e (.o1 .neg (.o1 .neg (.i 0))), .p [(.a 5, .prop 8)], .p [(.b (.v 0), .prop 9)], .n (.v 0), .e (.o1 .neg (.o1 .neg (.i 0))), .e (.o1 .neg (.o1 .neg (.i 0))), .e (.o1 .neg (.o1 .neg (.i 0))), .n (.v 2), .n (.v 3), .p [(.b (.v 3), .emap)], .p [(.b (.v 2), .emap)]]
(.br (.o2 .lt (.v 13) (.o1 .ofNat (.v 6)))
(.need (.o2 .le (.i 0) (.v 13))
(.need (.o1 .isSome (.v 5))
(.read (.load 35 (.tmp 17)) 35 [(17, .w (.a (.eptr 5 (.v 13) 1 0)))] [(.a 5, .prop 14)] [.a, .n, .n] (.w (.a (.sl (.v 24) (.v 25) (.v 26))))
(.call 48 [.a (.ptr (.v 4) 0), .a (.sl (.v 24) (.v 25) (.v 26))] [(.b (.v 4), .cells [.ptr (.v 16) 0, .int .i64 (.v 17), .int .i64 (.v 18), .int .i64 (.v 19), .map (.v 20), .map (.v 21)] 94), (.b (.v 16), .prop 15), (.b (.v 20), .prop 23), (.b (.v 21), .prop 22), (.a 5, .prop 14)] [.c, .n, .p, .i, .i, .i, .n, .p, .n, .p, .p] (.w (.a (.bool (.v 27)))) [(.b (.v 4), .cells [.ptr (.v 28) 0, .int .i64 (.v 30), .int .i64 (.v 31), .int .i64 (.v 32), .map (.v 33), .map (.v 35)] 94), (.b (.v 28), .prop 29), (.b (.v 33), .prop 34), (.b (.v 35), .prop 36), (.a 5, .prop 37)]
(.br (.o1 .not (.v 27))
(.ret (.tup [.a .nilp, .a (.int .i64 (.i 3))]) [])
(.need (.o1 (.inr .i64) (.o2 .add (.v 13) (.i 1)))
(.again 0 [.v (.val 10), .p [(.a 10, .prop 11)], .e (.o1 .neg (.o1 .neg (.v 12))), .e (.o1 .neg (.o1 .neg (.o2 .add (.v 13) (.i 1)))), .p [(.a 5, .prop 37)], .p [(.b (.v 28), .prop 29)], .n (.v 28), .e (.o1 .neg (.o1 .neg (.v 30))), .e (.o1 .neg (.o1 .neg (.v 31))), .e (.o1 .neg (.o1 .neg (.v 32))), .n (.v 33), .n (.v 35), .p [(.b (.v 35), .prop 36)], .p [(.b (.v 33), .prop 34)]])))))))
(.call 49 [.a (.ptr (.v 4) 0)] [(.b (.v 4), .cells [.ptr (.v 16) 0, .int .i64 (.v 17), .int .i64 (.v 18), .int .i64 (.v 19), .map (.v 20), .map (.v 21)] 94), (.b (.v 16), .prop 15), (.b (.v 20), .prop 23), (.b (.v 21), .prop 22)] [.n, .p, .i, .i, .i, .n, .p, .n, .p] (.tup []) [(.b (.v 4), .cells [.ptr (.v 24) 0, .int .i64 (.v 26), .int .i64 (.v 27), .int .i64 (.v 28), .map (.v 29), .map (.v 31)] 94), (.b (.v 24), .prop 25), (.b (.v 29), .prop 30), (.b (.v 31), .prop 32)]
(.ret (.tup [.a (.ptr (.v 4) 0), .a (.int .i64 (.i 0))]) [(.b (.v 4), .cells [.ptr (.v 24) 0, .int .i64 (.v 26), .int .i64 (.v 27), .int .i64 (.v 28), .map (.v 29), .map (.v 31)] 94), (.b (.v 24), .prop 25), (.b (.v 29), .prop 30), (.b (.v 31), .prop 32)]))))))))
theorem tree_uOpen : tree Tryz.prog { absT := [169, 179], hv := [(0, [.a 5, .b (.v 0), .b (.v 4), .b (.v 3), .b (.v 2)])], keep := [73, 86, 87, 135, 41, 40, 42, 22, 59, 105, 91], turn := [(90, [0])] } Tryz.f27 [.a (.ptr (.v 0) 0)] [(.b (.v 0), .prop 1)] 2 = t_uOpen := by kernel_rfl
def t_uRead : T :=
(.new
(.call 40 [.a (.ptr (.v 0) 0), .a (.int .i64 (.v 10)), .a (.int .i64 (.v 11))] [(.b (.v 0), .cells [.ptr (.v 1) 0, .int .i64 (.v 3), .int .i64 (.v 4), .int .i64 (.v 5), .map (.v 6), .map (.v 8)] 94), (.b (.v 1), .prop 2), (.b (.v 6), .prop 7), (.b (.v 8), .prop 9)] [.i] (.w (.a (.int .i64 (.v 13)))) [(.b (.v 0), .cells [.ptr (.v 1) 0, .int .i64 (.v 3), .int .i64 (.v 4), .int .i64 (.v 5), .map (.v 6), .map (.v 8)] 94), (.b (.v 1), .prop 2), (.b (.v 6), .prop 7), (.b (.v 8), .prop 9)]
(.br (.o1 .not (.o2 .eq (.v 13) (.i 0)))
(.ret (.tup [.agg [.int .i64 (.i 0), .sl .nil (.n 0) (.n 0)], .a (.int .i64 (.v 13))]) [(.b (.v 0), .cells [.ptr (.v 1) 0, .int .i64 (.v 3), .int .i64 (.v 4), .int .i64 (.v 5), .map (.v 6), .map (.v 8)] 94), (.b (.v 1), .prop 2), (.b (.v 6), .prop 7), (.b (.v 8), .prop 9)])
(.br (.o2 .lt (.v 11) (.v 4))
(.ret (.tup [.agg [.int .i64 (.i 0), .sl .nil (.n 0) (.n 0)], .a (.int .i64 (.i 11))]) [(.b (.v 0), .cells [.ptr (.v 1) 0, .int .i64 (.v 3), .int .i64 (.v 4), .int .i64 (.v 5), .map (.v 6), .map (.v 8)] 94), (.b (.v 1), .prop 2), (.b (.v 6), .prop 7), (.b (.v 8), .prop 9)])
(.call 42 [.a (.ptr (.v 0) 0), .a (.int .i64 (.v 11))] [(.b (.v 0), .cells [.ptr (.v 1) 0, .int .i64 (.v 3), .int .i64 (.v 4), .int .i64 (.v 5), .map (.v 6), .map (.v 8)] 94), (.b (.v 1), .prop 2), (.b (.v 6), .prop 7), (.b (.v 8), .prop 9)] [.i, .a, .n, .n, .p, .c] (.tup [.agg [.int .i64 (.v 14), .sl (.v 15) (.v 16) (.v 17)], .a (.bool (.v 19))]) [(.a 15, .prop 18), (.b (.v 0), .cells [.ptr (.v 1) 0, .int .i64 (.v 3), .int .i64 (.v 4), .int .i64 (.v 5), .map (.v 6), .map (.v 8)] 94), (.b (.v 1), .prop 2), (.b (.v 6), .prop 7), (.b (.v 8), .prop 9)]
(.new
(.br (.o1 .not (.v 19))
(.ret (.tup [.agg [.int .i64 (.i 0), .sl .nil (.n 0) (.n 0)], .a (.int .i64 (.i 9))]) [(.b (.v 0), .cells [.ptr (.v 1) 0, .int .i64 (.v 3), .int .i64 (.v 4), .int .i64 (.v 5), .map (.v 6), .map (.v 8)] 94), (.b (.v 1), .prop 2), (.b (.v 6), .prop 7), (.b (.v 8), .prop 9)])
(.ret (.tup [.agg [.int .i64 (.v 14), .sl (.v 15) (.v 16) (.v 17)], .a (.int .i64 (.i 0))]) [(.b (.v 0), .cells [.ptr (.v 1) 0, .int .i64 (.v 3), .int .i64 (.v 4), .int .i64 (.v 5), .map (.v 6), .map (.v 8)] 94), (.b (.v 1), .prop 2), (.b (.v 6), .prop 7), (.b (.v 8), .prop 9), (.a 15, .prop 18)]))))))))
theorem tree_uRead : tree Tryz.prog { absT := [169, 179], keep := [73, 86, 87, 135, 41, 40, 42, 22, 59, 105, 91], turn := [(90, [0])] } Tryz.f100 [.a (.ptr (.v 0) 0), .a (.int .i64 (.v 10)), .a (.int .i64 (.v 11))] [(.b (.v 0), .cells [.ptr (.v 1) 0, .int .i64 (.v 3), .int .i64 (.v 4), .int .i64 (.v 5), .map (.v 6), .map (.v 8)] 94), (.b (.v 1), .prop 2), (.b (.v 6), .prop 7), (.b (.v 8), .prop 9)] 12 = t_uRead := by kernel_rfl
def t_uWrite : T :=
(.new
(.new
(.call 40 [.a (.ptr (.v 0) 0), .a (.int .i64 (.v 10)), .a (.int .i64 (.v 11))] [(.b (.v 0), .cells [.ptr (.v 1) 0, .int .i64 (.v 3), .int .i64 (.v 4), .int .i64 (.v 5), .map (.v 6), .map (.v 8)] 94), (.b (.v 1), .prop 2), (.b (.v 6), .prop 7), (.b (.v 8), .prop 9)] [.i] (.w (.a (.int .i64 (.v 19)))) [(.b (.v 0), .cells [.ptr (.v 1) 0, .int .i64 (.v 3), .int .i64 (.v 4), .int .i64 (.v 5), .map (.v 6), .map (.v 8)] 94), (.b (.v 1), .prop 2), (.b (.v 6), .prop 7), (.b (.v 8), .prop 9)]
(.br (.o1 .not (.o2 .eq (.v 19) (.i 0)))
(.ret (.tup [.agg [.int .i64 (.i 0), .sl .nil (.n 0) (.n 0)], .a (.int .i64 (.v 19))]) [(.b (.v 0), .cells [.ptr (.v 1) 0, .int .i64 (.v 3), .int .i64 (.v 4), .int .i64 (.v 5), .map (.v 6), .map (.v 8)] 94), (.b (.v 1), .prop 2), (.b (.v 6), .prop 7), (.b (.v 8), .prop 9), (.a 13, .prop 16)])
(.call 41 [.agg [.int .i64 (.v 12), .sl (.v 13) (.v 14) (.v 15)]] [(.a 13, .prop 16)] [.c] (.w (.a (.bool (.v 20)))) [(.a 13, .prop 16)]
(.br (.o1 .not (.v 20))
(.ret (.tup [.agg [.int .i64 (.i 0), .sl .nil (.n 0) (.n 0)], .a (.int .i64 (.i 1))]) [(.b (.v 0), .cells [.ptr (.v 1) 0, .int .i64 (.v 3), .int .i64 (.v 4), .int .i64 (.v 5), .map (.v 6), .map (.v 8)] 94), (.b (.v 1), .prop 2), (.b (.v 6), .prop 7), (.b (.v 8), .prop 9), (.a 13, .prop 16)])
(.br (.o2 .lt (.v 11) (.v 4))
(.ret (.tup [.agg [.int .i64 (.i 0), .sl .nil (.n 0) (.n 0)], .a (.int .i64 (.i 11))]) [(.b (.v 0), .cells [.ptr (.v 1) 0, .int .i64 (.v 3), .int .i64 (.v 4), .int .i64 (.v 5), .map (.v 6), .map (.v 8)] 94), (.b (.v 1), .prop 2), (.b (.v 6), .prop 7), (.b (.v 8), .prop 9), (.a 13, .prop 16)])
(.call 42 [.a (.ptr (.v 0) 0), .a (.int .i64 (.v 11))] [(.b (.v 0), .cells [.ptr (.v 1) 0, .int .i64 (.v 3), .int .i64 (.v 4), .int .i64 (.v 5), .map (.v 6), .map (.v 8)] 94), (.b (.v 1), .prop 2), (.b (.v 6), .prop 7), (.b (.v 8), .prop 9)] [.i, .a, .n, .n, .p, .c] (.tup [.agg [.int .i64 (.v 21), .sl (.v 22) (.v 23) (.v 24)], .a (.bool (.v 26))]) [(.a 22, .prop 25), (.b (.v 0), .cells [.ptr (.v 1) 0, .int .i64 (.v 3), .int .i64 (.v 4), .int .i64 (.v 5), .map (.v 6), .map (.v 8)] 94), (.b (.v 1), .prop 2), (.b (.v 6), .prop 7), (.b (.v 8), .prop 9)]
(.new
(.br (.v 26)
(.ret (.tup [.agg [.int .i64 (.v 21), .sl (.v 22) (.v 23) (.v 24)], .a (.int .i64 (.i 10))]) [(.b (.v 0), .cells [.ptr (.v 1) 0, .int .i64 (.v 3), .int .i64 (.v 4), .int .i64 (.v 5), .map (.v 6), .map (.v 8)] 94), (.b (.v 1), .prop 2), (.b (.v 6), .prop 7), (.b (.v 8), .prop 9), (.a 13, .prop 16), (.a 22, .prop 25)])
(.call 44 [.a (.int .i64 (.v 11)), .agg [.int .i64 (.v 12), .sl (.v 13) (.v 14) (.v 15)]] [(.a 13, .prop 16)] [.a, .n, .n, .p, .p] (.w (.a (.sl (.v 28) (.v 29) (.v 30)))) [(.a 28, .prop 31), (.a 13, .prop 32)]
(.call 43 [.a (.ptr (.v 0) 0), .a (.sl (.v 28) (.v 29) (.v 30))] [(.b (.v 0), .cells [.ptr (.v 1) 0, .int .i64 (.v 3), .int .i64 (.v 4), .int .i64 (.v 5), .map (.v 6), .map (.v 8)] 94), (.b (.v 1), .prop 2), (.b (.v 6), .prop 7), (.b (.v 8), .prop 9), (.a 28, .prop 31)] [.i, .n, .p, .i, .i, .i, .n, .p, .n, .p, .p] (.w (.a (.int .i64 (.v 33)))) [(.b (.v 0), .cells [.ptr (.v 34) 0, .int .i64 (.v 36), .int .i64 (.v 37), .int .i64 (.v 38), .map (.v 39), .map (.v 41)] 94), (.b (.v 34), .prop 35), (.b (.v 39), .prop 40), (.b (.v 41), .prop 42), (.a 28, .prop 43)]
(.br (.o1 .not (.o2 .eq (.v 33) (.i 0)))
(.ret (.tup [.agg [.int .i64 (.i 0), .sl .nil (.n 0) (.n 0)], .a (.int .i64 (.v 33))]) [(.b (.v 0), .cells [.ptr (.v 34) 0, .int .i64 (.v 36), .int .i64 (.v 37), .int .i64 (.v 38), .map (.v 39), .map (.v 41)] 94), (.b (.v 34), .prop 35), (.b (.v 39), .prop 40), (.b (.v 41), .prop 42), (.a 13, .prop 32)])
(.call 45 [.a (.ptr (.v 0) 0), .a (.int .i64 (.v 11)), .agg [.int .i64 (.v 12), .sl (.v 13) (.v 14) (.v 15)]] [(.b (.v 0), .cells [.ptr (.v 34) 0, .int .i64 (.v 36), .int .i64 (.v 37), .int .i64 (.v 38), .map (.v 39), .map (.v 41)] 94), (.b (.v 34), .prop 35), (.b (.v 39), .prop 40), (.b (.v 41), .prop 42), (.a 13, .prop 32)] [.n, .p, .i, .i, .i, .n, .p, .n, .p, .p] (.tup []) [(.b (.v 0), .cells [.ptr (.v 44) 0, .int .i64 (.v 46), .int .i64 (.v 47), .int .i64 (.v 48), .map (.v 49), .map (.v 51)] 94), (.b (.v 44), .prop 45), (.b (.v 49), .prop 50), (.b (.v 51), .prop 52), (.a 13, .prop 53)]
(.ret (.tup [.agg [.int .i64 (.i 0), .sl .nil (.n 0) (.n 0)], .a (.int .i64 (.i 0))]) [(.b (.v 0), .cells [.ptr (.v 44) 0, .int .i64 (.v 46), .int .i64 (.v 47), .int .i64 (.v 48), .map (.v 49), .map (.v 51)] 94), (.b (.v 44), .prop 45), (.b (.v 49), .prop 50), (.b (.v 51), .prop 52), (.a 13, .prop 53)])))))))))))))))
theorem tree_uWrite : tree Tryz.prog { absT := [169, 179], keep := [73, 86, 87, 135, 41, 40, 42, 22, 59, 105, 91], turn := [(90, [0])] } Tryz.f20 [.a (.ptr (.v 0) 0), .a (.int .i64 (.v 10)), .a (.int .i64 (.v 11)), .agg [.int .i64 (.v 12), .sl (.v 13) (.v 14) (.v 15)]] [(.b (.v 0), .cells [.ptr (.v 1) 0, .int .i64 (.v 3), .int .i64 (.v 4), .int .i64 (.v 5), .map (.v 6), .map (.v 8)] 94), (.b (.v 1), .prop 2), (.b (.v 6), .prop 7), (.b (.v 8), .prop 9), (.a 13, .prop 16)] 17 = t_uWrite := by kernel_rfl
def t_uTrim : T :=
(.call 40 [.a (.ptr (.v 0) 0), .a (.int .i64 (.v 10)), .a (.int .i64 (.v 11))] [(.b (.v 0), .cells [.ptr (.v 1) 0, .int .i64 (.v 3), .int .i64 (.v 4), .int .i64 (.v 5), .map (.v 6), .map (.v 8)] 94), (.b (.v 1), .prop 2), (.b (.v 6), .prop 7), (.b (.v 8), .prop 9)] [.i] (.w (.a (.int .i64 (.v 12)))) [(.b (.v 0), .cells [.ptr (.v 1) 0, .int .i64 (.v 3), .int .i64 (.v 4), .int .i64 (.v 5), .map (.v 6), .map (.v 8)] 94), (.b (.v 1), .prop 2), (.b (.v 6), .prop 7), (.b (.v 8), .prop 9)]
(.br (.o1 .not (.o2 .eq (.v 12) (.i 0)))
(.ret (.w (.a (.int .i64 (.v 12)))) [(.b (.v 0), .cells [.ptr (.v 1) 0, .int .i64 (.v 3), .int .i64 (.v 4), .int .i64 (.v 5), .map (.v 6), .map (.v 8)] 94), (.b (.v 1), .prop 2), (.b (.v 6), .prop 7), (.b (.v 8), .prop 9)])
(.br (.o2 .le (.v 11) (.v 4))
(.ret (.w (.a (.int .i64 (.i 0)))) [(.b (.v 0), .cells [.ptr (.v 1) 0, .int .i64 (.v 3), .int .i64 (.v 4), .int .i64 (.v 5), .map (.v 6), .map (.v 8)] 94), (.b (.v 1), .prop 2), (.b (.v 6), .prop 7), (.b (.v 8), .prop 9)])
(.new
(.call 77 [.a (.int .u8 (.i 3)), .a (.sl (.b (.v 13) 0) (.n 1) (.n 1))] [(.b (.v 13), .cells [.int .i64 (.v 11)] 3)] [.n, .p, .i] (.w (.a (.ptr (.v 14) 0))) [(.b (.v 14), .prop 15), (.b (.v 13), .cells [.int .i64 (.v 16)] 3)]
(.call 78 [.a (.ptr (.v 14) 0)] [(.b (.v 14), .prop 15)] [.a, .n, .n, .p, .p] (.w (.a (.sl (.v 17) (.v 18) (.v 19)))) [(.a 17, .prop 20), (.b (.v 14), .prop 21)]
(.call 43 [.a (.ptr (.v 0) 0), .a (.sl (.v 17) (.v 18) (.v 19))] [(.b (.v 0), .cells [.ptr (.v 1) 0, .int .i64 (.v 3), .int .i64 (.v 4), .int .i64 (.v 5), .map (.v 6), .map (.v 8)] 94), (.b (.v 1), .prop 2), (.b (.v 6), .prop 7), (.b (.v 8), .prop 9), (.a 17, .prop 20)] [.i, .n, .p, .i, .i, .i, .n, .p, .n, .p, .p] (.w (.a (.int .i64 (.v 22)))) [(.b (.v 0), .cells [.ptr (.v 23) 0, .int .i64 (.v 25), .int .i64 (.v 26), .int .i64 (.v 27), .map (.v 28), .map (.v 30)] 94), (.b (.v 23), .prop 24), (.b (.v 28), .prop 29), (.b (.v 30), .prop 31), (.a 17, .prop 32)]
(.br (.o1 .not (.o2 .eq (.v 22) (.i 0)))
(.ret (.w (.a (.int .i64 (.v 22)))) [(.b (.v 0), .cells [.ptr (.v 23) 0, .int .i64 (.v 25), .int .i64 (.v 26), .int .i64 (.v 27), .map (.v 28), .map (.v 30)] 94), (.b (.v 23), .prop 24), (.b (.v 28), .prop 29), (.b (.v 30), .prop 31)])
(.call 49 [.a (.ptr (.v 0) 0)] [(.b (.v 0), .cells [.ptr (.v 23) 0, .int .i64 (.v 25), .int .i64 (.v 11), .int .i64 (.v 27), .map (.v 28), .map (.v 30)] 94), (.b (.v 23), .prop 24), (.b (.v 28), .prop 29), (.b (.v 30), .prop 31)] [.n, .p, .i, .i, .i, .n, .p, .n, .p] (.tup []) [(.b (.v 0), .cells [.ptr (.v 33) 0, .int .i64 (.v 35), .int .i64 (.v 36), .int .i64 (.v 37), .map (.v 38), .map (.v 40)] 94), (.b (.v 33), .prop 34), (.b (.v 38), .prop 39), (.b (.v 40), .prop 41)]
(.ret (.w (.a (.int .i64 (.i 0)))) [(.b (.v 0), .cells [.ptr (.v 33) 0, .int .i64 (.v 35), .int .i64 (.v 36), .int .i64 (.v 37), .map (.v 38), .map (.v 40)] 94), (.b (.v 33), .prop 34), (.b (.v 38), .prop 39), (.b (.v 40), .prop 41)]))))))))))
theorem tree_uTrim : tree Tryz.prog { absT := [169, 179], keep := [73, 86, 87, 135, 41, 40, 42, 22, 59, 105, 91], turn := [(90, [0])] } Tryz.f102 [.a (.ptr (.v 0) 0), .a (.int .i64 (.v 10)), .a (.int .i64 (.v 11))] [(.b (.v 0), .cells [.ptr (.v 1) 0, .int .i64 (.v 3), .int .i64 (.v 4), .int .i64 (.v 5), .map (.v 6), .map (.v 8)] 94), (.b (.v 1), .prop 2), (.b (.v 6), .prop 7), (.b (.v 8), .prop 9)] 12 = t_uTrim := by kernel_rfl
def t_uSeal : T :=
(.br (.o2 .le (.v 10) (.v 3))
(.ret (.w (.a (.int .i64 (.i 8)))) [(.b (.v 0), .cells [.ptr (.v 1) 0, .int .i64 (.v 3), .int .i64 (.v 4), .int .i64 (.v 5), .map (.v 6), .map (.v 8)] 94), (.b (.v 1), .prop 2), (.b (.v 6), .prop 7), (.b (.v 8), .prop 9)])
(.br (.o2 .lt (.i 2147483647) (.v 10))
(.ret (.w (.a (.int .i64 (.i 1)))) [(.b (.v 0), .cells [.ptr (.v 1) 0, .int .i64 (.v 3), .int .i64 (.v 4), .int .i64 (.v 5), .map (.v 6), .map (.v 8)] 94), (.b (.v 1), .prop 2), (.b (.v 6), .prop 7), (.b (.v 8), .prop 9)])
(.new
(.call 77 [.a (.int .u8 (.i 4)), .a (.sl (.b (.v 11) 0) (.n 1) (.n 1))] [(.b (.v 11), .cells [.int .i64 (.v 10)] 3)] [.n, .p, .i] (.w (.a (.ptr (.v 12) 0))) [(.b (.v 12), .prop 13), (.b (.v 11), .cells [.int .i64 (.v 14)] 3)]
(.call 78 [.a (.ptr (.v 12) 0)] [(.b (.v 12), .prop 13)] [.a, .n, .n, .p, .p] (.w (.a (.sl (.v 15) (.v 16) (.v 17)))) [(.a 15, .prop 18), (.b (.v 12), .prop 19)]
(.call 43 [.a (.ptr (.v 0) 0), .a (.sl (.v 15) (.v 16) (.v 17))] [(.b (.v 0), .cells [.ptr (.v 1) 0, .int .i64 (.v 3), .int .i64 (.v 4), .int .i64 (.v 5), .map (.v 6), .map (.v 8)] 94), (.b (.v 1), .prop 2), (.b (.v 6), .prop 7), (.b (.v 8), .prop 9), (.a 15, .prop 18)] [.i, .n, .p, .i, .i, .i, .n, .p, .n, .p, .p] (.w (.a (.int .i64 (.v 20)))) [(.b (.v 0), .cells [.ptr (.v 21) 0, .int .i64 (.v 23), .int .i64 (.v 24), .int .i64 (.v 25), .map (.v 26), .map (.v 28)] 94), (.b (.v 21), .prop 22), (.b (.v 26), .prop 27), (.b (.v 28), .prop 29), (.a 15, .prop 30)]
(.br (.o1 .not (.o2 .eq (.v 20) (.i 0)))
(.ret (.w (.a (.int .i64 (.v 20)))) [(.b (.v 0), .cells [.ptr (.v 21) 0, .int .i64 (.v 23), .int .i64 (.v 24), .int .i64 (.v 25), .map (.v 26), .map (.v 28)] 94), (.b (.v 21), .prop 22), (.b (.v 26), .prop 27), (.b (.v 28), .prop 29)])
(.ret (.w (.a (.int .i64 (.i 0)))) [(.b (.v 0), .cells [.ptr (.v 21) 0, .int .i64 (.v 10), .int .i64 (.v 24), .int .i64 (.v 25), .map (.v 26), .map (.v 28)] 94), (.b (.v 21), .prop 22), (.b (.v 26), .prop 27), (.b (.v 28), .prop 29)]))))))))
theorem tree_uSeal : tree Tryz.prog { absT := [169, 179], keep := [73, 86, 87, 135, 41, 40, 42, 22, 59, 105, 91], turn := [(90, [0])] } Tryz.f104 [.a (.ptr (.v 0) 0), .a (.int .i64 (.v 10))] [(.b (.v 0), .cells [.ptr (.v 1) 0, .int .i64 (.v 3), .int .i64 (.v 4), .int .i64 (.v 5), .map (.v 6), .map (.v 8)] 94), (.b (.v 1), .prop 2), (.b (.v 6), .prop 7), (.b (.v 8), .prop 9)] 11 = t_uSeal := by kernel_rfl
def t_uPromise : T :=
(.new
(.new
(.call 87 [.a (.int .i64 (.v 10)), .agg [.int .i64 (.v 11), .int .i64 (.v 12)]] [] [.c] (.w (.a (.bool (.v 15)))) []
(.br (.o1 .not (.v 15))
(.ret (.tup [.agg [.int .i64 (.i 0), .int .i64 (.i 0)], .a (.sl .nil (.n 0) (.n 0)), .a (.int .i64 (.i 1))]) [(.b (.v 0), .cells [.ptr (.v 1) 0, .int .i64 (.v 3), .int .i64 (.v 4), .int .i64 (.v 5), .map (.v 6), .map (.v 8)] 94), (.b (.v 1), .prop 2), (.b (.v 6), .prop 7), (.b (.v 8), .prop 9)])
(.op (.lookup 92 (.tmp 19) (.tmp 20) false) 182 [(19, .w (.a (.map (.v 8)))), (20, .w (.a (.int .i64 (.v 10))))] [(.b (.v 8), .prop 9)] [.i, .i, .i, .i, .a, .n, .n, .p, .p] (.w (.agg [.int .i64 (.v 16), .int .i64 (.v 17), .int .i64 (.v 18), .int .i64 (.v 19), .sl (.v 20) (.v 21) (.v 22)])) [(.a 20, .prop 23), (.b (.v 8), .prop 24)]
(.new
(.call 135 [.agg [.int .i64 (.v 11), .int .i64 (.v 12)], .agg [.int .i64 (.v 16), .int .i64 (.v 17)]] [] [.c] (.w (.a (.bool (.v 26)))) []
(.br (.v 26)
(.ret (.tup [.agg [.int .i64 (.i 0), .int .i64 (.i 0)], .a (.sl .nil (.n 0) (.n 0)), .a (.int .i64 (.i 7))]) [(.b (.v 0), .cells [.ptr (.v 1) 0, .int .i64 (.v 3), .int .i64 (.v 4), .int .i64 (.v 5), .map (.v 6), .map (.v 8)] 94), (.b (.v 1), .prop 2), (.b (.v 6), .prop 7), (.b (.v 8), .prop 24)])
(.read (.binOp .neq 39 (.tmp 27) (.tmp 29) 39) 4 [(27, .w (.agg [.int .i64 (.v 11), .int .i64 (.v 12)])), (29, .w (.agg [.int .i64 (.v 16), .int .i64 (.v 17)]))] [] [.c] (.w (.a (.bool (.v 27))))
(.br (.v 27)
(.new
(.call 77 [.a (.int .u8 (.i 5)), .a (.sl (.b (.v 28) 0) (.n 3) (.n 3))] [(.b (.v 28), .cells [.int .i64 (.v 10), .int .i64 (.v 11), .int .i64 (.v 12)] 3)] [.n, .p, .i, .i, .i] (.w (.a (.ptr (.v 29) 0))) [(.b (.v 29), .prop 30), (.b (.v 28), .cells [.int .i64 (.v 31), .int .i64 (.v 32), .int .i64 (.v 33)] 3)]
(.call 78 [.a (.ptr (.v 29) 0)] [(.b (.v 29), .prop 30)] [.a, .n, .n, .p, .p] (.w (.a (.sl (.v 34) (.v 35) (.v 36)))) [(.a 34, .prop 37), (.b (.v 29), .prop 38)]
(.call 43 [.a (.ptr (.v 0) 0), .a (.sl (.v 34) (.v 35) (.v 36))] [(.b (.v 0), .cells [.ptr (.v 1) 0, .int .i64 (.v 3), .int .i64 (.v 4), .int .i64 (.v 5), .map (.v 6), .map (.v 8)] 94), (.b (.v 1), .prop 2), (.b (.v 6), .prop 7), (.b (.v 8), .prop 24), (.a 34, .prop 37)] [.i, .n, .p, .i, .i, .i, .n, .p, .n, .p, .p] (.w (.a (.int .i64 (.v 39)))) [(.b (.v 0), .cells [.ptr (.v 40) 0, .int .i64 (.v 42), .int .i64 (.v 43), .int .i64 (.v 44), .map (.v 45), .map (.v 47)] 94), (.b (.v 40), .prop 41), (.b (.v 45), .prop 46), (.b (.v 47), .prop 48), (.a 34, .prop 49)]
(.br (.o1 .not (.o2 .eq (.v 39) (.i 0)))
(.ret (.tup [.agg [.int .i64 (.i 0), .int .i64 (.i 0)], .a (.sl .nil (.n 0) (.n 0)), .a (.int .i64 (.v 39))]) [(.b (.v 0), .cells [.ptr (.v 40) 0, .int .i64 (.v 42), .int .i64 (.v 43), .int .i64 (.v 44), .map (.v 45), .map (.v 47)] 94), (.b (.v 40), .prop 41), (.b (.v 45), .prop 46), (.b (.v 47), .prop 48)])
(.call 88 [.a (.ptr (.v 0) 0), .a (.int .i64 (.v 10)), .agg [.int .i64 (.v 11), .int .i64 (.v 12)]] [(.b (.v 0), .cells [.ptr (.v 40) 0, .int .i64 (.v 42), .int .i64 (.v 43), .int .i64 (.v 44), .map (.v 45), .map (.v 47)] 94), (.b (.v 40), .prop 41), (.b (.v 45), .prop 46), (.b (.v 47), .prop 48)] [.n, .p, .i, .i, .i, .n, .p, .n, .p] (.tup []) [(.b (.v 0), .cells [.ptr (.v 50) 0, .int .i64 (.v 52), .int .i64 (.v 53), .int .i64 (.v 54), .map (.v 55), .map (.v 57)] 94), (.b (.v 50), .prop 51), (.b (.v 55), .prop 56), (.b (.v 57), .prop 58)]
(.call 74 [.a (.sl (.v 20) (.v 21) (.v 22))] [(.a 20, .prop 23)] [.a, .n, .n, .p, .p] (.w (.a (.sl (.v 59) (.v 60) (.v 61)))) [(.a 59, .prop 62), (.a 20, .prop 63)]
(.ret (.tup [.agg [.int .i64 (.v 18), .int .i64 (.v 19)], .a (.sl (.v 59) (.v 60) (.v 61)), .a (.int .i64 (.i 0))]) [(.b (.v 0), .cells [.ptr (.v 50) 0, .int .i64 (.v 52), .int .i64 (.v 53), .int .i64 (.v 54), .map (.v 55), .map (.v 57)] 94), (.b (.v 50), .prop 51), (.b (.v 55), .prop 56), (.b (.v 57), .prop 58), (.a 59, .prop 62)]))))))))
(.call 74 [.a (.sl (.v 20) (.v 21) (.v 22))] [(.a 20, .prop 23), (.b (.v 8), .prop 24)] [.a, .n, .n, .p, .p, .p] (.w (.a (.sl (.v 28) (.v 29) (.v 30)))) [(.a 28, .prop 31), (.a 20, .prop 32), (.b (.v 8), .prop 33)]
(.ret (.tup [.agg [.int .i64 (.v 18), .int .i64 (.v 19)], .a (.sl (.v 28) (.v 29) (.v 30)), .a (.int .i64 (.i 0))]) [(.b (.v 0), .cells [.ptr (.v 1) 0, .int .i64 (.v 3), .int .i64 (.v 4), .int .i64 (.v 5), .map (.v 6), .map (.v 8)] 94), (.b (.v 1), .prop 2), (.b (.v 6), .prop 7), (.b (.v 8), .prop 33), (.a 28, .prop 31)]))))))))))))
theorem tree_uPromise : tree Tryz.prog { absT := [169, 179], keep := [73, 86, 87, 135, 41, 40, 42, 22, 59, 105, 91], turn := [(90, [0])], mkd := [21] } Tryz.f108 [.a (.ptr (.v 0) 0), .a (.int .i64 (.v 10)), .agg [.int .i64 (.v 11), .int .i64 (.v 12)]] [(.b (.v 0), .cells [.ptr (.v 1) 0, .int .i64 (.v 3), .int .i64 (.v 4), .int .i64 (.v 5), .map (.v 6), .map (.v 8)] 94), (.b (.v 1), .prop 2), (.b (.v 6), .prop 7), (.b (.v 8), .prop 9)] 13 = t_uPromise := by kernel_rfl
def t_uAccept : T :=
(.new
(.call 87 [.a (.int .i64 (.v 10)), .agg [.int .i64 (.v 11), .int .i64 (.v 12)]] [] [.c] (.w (.a (.bool (.v 18)))) []
(.br (.o1 .not (.v 18))
(.ret (.w (.a (.int .i64 (.i 1)))) [(.b (.v 0), .cells [.ptr (.v 1) 0, .int .i64 (.v 3), .int .i64 (.v 4), .int .i64 (.v 5), .map (.v 6), .map (.v 8)] 94), (.b (.v 1), .prop 2), (.b (.v 6), .prop 7), (.b (.v 8), .prop 9), (.a 13, .prop 16)])
(.br (.o2 .lt (.i 1000) (.o1 .ofNat (.v 14)))
(.ret (.w (.a (.int .i64 (.i 1)))) [(.b (.v 0), .cells [.ptr (.v 1) 0, .int .i64 (.v 3), .int .i64 (.v 4), .int .i64 (.v 5), .map (.v 6), .map (.v 8)] 94), (.b (.v 1), .prop 2), (.b (.v 6), .prop 7), (.b (.v 8), .prop 9), (.a 13, .prop 16)])
(.read (.lookup 92 (.tmp 24) (.tmp 25) false) 182 [(24, .w (.a (.map (.v 8)))), (25, .w (.a (.int .i64 (.v 10))))] [(.b (.v 8), .prop 9)] [.i, .i, .i, .i, .a, .n, .n] (.w (.agg [.int .i64 (.v 19), .int .i64 (.v 20), .int .i64 (.v 21), .int .i64 (.v 22), .sl (.v 23) (.v 24) (.v 25)]))
(.call 135 [.agg [.int .i64 (.v 11), .int .i64 (.v 12)], .agg [.int .i64 (.v 19), .int .i64 (.v 20)]] [] [.c] (.w (.a (.bool (.v 26)))) []
(.br (.v 26)
(.ret (.w (.a (.int .i64 (.i 7)))) [(.b (.v 0), .cells [.ptr (.v 1) 0, .int .i64 (.v 3), .int .i64 (.v 4), .int .i64 (.v 5), .map (.v 6), .map (.v 8)] 94), (.b (.v 1), .prop 2), (.b (.v 6), .prop 7), (.b (.v 8), .prop 9), (.a 13, .prop 16)])
(.new
(.call 77 [.a (.int .u8 (.i 6)), .a (.sl (.b (.v 27) 0) (.n 3) (.n 3))] [(.b (.v 27), .cells [.int .i64 (.v 10), .int .i64 (.v 11), .int .i64 (.v 12)] 3)] [.n, .p, .i, .i, .i] (.w (.a (.ptr (.v 28) 0))) [(.b (.v 28), .prop 29), (.b (.v 27), .cells [.int .i64 (.v 30), .int .i64 (.v 31), .int .i64 (.v 32)] 3)]
(.call 79 [.a (.ptr (.v 28) 0), .a (.sl (.v 13) (.v 14) (.v 15))] [(.b (.v 28), .prop 29), (.a 13, .prop 16)] [.p, .p] (.tup []) [(.b (.v 28), .prop 33), (.a 13, .prop 34)]
(.call 78 [.a (.ptr (.v 28) 0)] [(.b (.v 28), .prop 33)] [.a, .n, .n, .p, .p] (.w (.a (.sl (.v 35) (.v 36) (.v 37)))) [(.a 35, .prop 38), (.b (.v 28), .prop 39)]
(.call 43 [.a (.ptr (.v 0) 0), .a (.sl (.v 35) (.v 36) (.v 37))] [(.b (.v 0), .cells [.ptr (.v 1) 0, .int .i64 (.v 3), .int .i64 (.v 4), .int .i64 (.v 5), .map (.v 6), .map (.v 8)] 94), (.b (.v 1), .prop 2), (.b (.v 6), .prop 7), (.b (.v 8), .prop 9), (.a 35, .prop 38)] [.i, .n, .p, .i, .i, .i, .n, .p, .n, .p, .p] (.w (.a (.int .i64 (.v 40)))) [(.b (.v 0), .cells [.ptr (.v 41) 0, .int .i64 (.v 43), .int .i64 (.v 44), .int .i64 (.v 45), .map (.v 46), .map (.v 48)] 94), (.b (.v 41), .prop 42), (.b (.v 46), .prop 47), (.b (.v 48), .prop 49), (.a 35, .prop 50)]
(.br (.o1 .not (.o2 .eq (.v 40) (.i 0)))
(.ret (.w (.a (.int .i64 (.v 40)))) [(.b (.v 0), .cells [.ptr (.v 41) 0, .int .i64 (.v 43), .int .i64 (.v 44), .int .i64 (.v 45), .map (.v 46), .map (.v 48)] 94), (.b (.v 41), .prop 42), (.b (.v 46), .prop 47), (.b (.v 48), .prop 49), (.a 13, .prop 34)])
(.call 89 [.a (.ptr (.v 0) 0), .a (.int .i64 (.v 10)), .agg [.int .i64 (.v 11), .int .i64 (.v 12)], .a (.sl (.v 13) (.v 14) (.v 15))] [(.b (.v 0), .cells [.ptr (.v 41) 0, .int .i64 (.v 43), .int .i64 (.v 44), .int .i64 (.v 45), .map (.v 46), .map (.v 48)] 94), (.b (.v 41), .prop 42), (.b (.v 46), .prop 47), (.b (.v 48), .prop 49), (.a 13, .prop 34)] [.n, .p, .i, .i, .i, .n, .p, .n, .p, .p] (.tup []) [(.b (.v 0), .cells [.ptr (.v 51) 0, .int .i64 (.v 53), .int .i64 (.v 54), .int .i64 (.v 55), .map (.v 56), .map (.v 58)] 94), (.b (.v 51), .prop 52), (.b (.v 56), .prop 57), (.b (.v 58), .prop 59), (.a 13, .prop 60)]
(.ret (.w (.a (.int .i64 (.i 0)))) [(.b (.v 0), .cells [.ptr (.v 51) 0, .int .i64 (.v 53), .int .i64 (.v 54), .int .i64 (.v 55), .map (.v 56), .map (.v 58)] 94), (.b (.v 51), .prop 52), (.b (.v 56), .prop 57), (.b (.v 58), .prop 59), (.a 13, .prop 60)])))))))))))))))
theorem tree_uAccept : tree Tryz.prog { absT := [169, 179], keep := [73, 86, 87, 135, 41, 40, 42, 22, 59, 105, 91], turn := [(90, [0])] } Tryz.f110 [.a (.ptr (.v 0) 0), .a (.int .i64 (.v 10)), .agg [.int .i64 (.v 11), .int .i64 (.v 12)], .a (.sl (.v 13) (.v 14) (.v 15))] [(.b (.v 0), .cells [.ptr (.v 1) 0, .int .i64 (.v 3), .int .i64 (.v 4), .int .i64 (.v 5), .map (.v 6), .map (.v 8)] 94), (.b (.v 1), .prop 2), (.b (.v 6), .prop 7), (.b (.v 8), .prop 9), (.a 13, .prop 16)] 17 = t_uAccept := by kernel_rfl
end Go.Proofs.YtbmajijnjkicmaaGreatDoor.RX

