/- Contracts of octet's Reader. No condition. -/
import Derived.Test.YtmibmjehjagmbaaOct
import Derived.Test.YtmibmjehjagmbaaTrRd
namespace Go.Proofs.Ytmibmjehjagmbaa
set_option linter.unusedSimpArgs false
set_option linter.unusedVariables false
open Go.Proofs.Ytmibmjehjagmbaa RX

def RRep (b : Nat) (s : List UInt8 × Bool) : HP := HP.ex fun a => HP.ex fun c => HP.and (s.1.length ≤ c ∧ s.1.length ≤ 140737488355328) (HP.sep (HP.one b (.cells #[.slice a s.1.length c, .bool s.2] 183)) (RoB a s.1.length s.1))
theorem rFail_ok (b : Nat) (s : List UInt8 × Bool) : Tri Try.prog 138 #[.pointer (some ⟨b, 0, none⟩)] (RRep b s) (fun v => HP.and (v = .tuple #[]) (RRep b ([], true))) := by
  refine Tri.ex fun a => Tri.ex fun c => Tri.pure fun _ => ?_
  refine tri_of_tree (ρ := [.n b, .a a, .n s.1.length, .n c, .p (RoB a s.1.length s.1), .c s.2]) mixed Try.func138 tree_rFail ?_
  unfold t_rFail
  simp only [T.den, E.prop, E.den, RX.look, F1.app, F2.app, Uni.int_i, Uni.nat_n, Uni.bool_c, Uni.str_s, Uni.adr_a, Uni.val_v, Uni.hp_p, hden, cden, V.den, W.den, A.den, BR.den, SA.den, FV.den, capV, exs, exP, allP, Cur.app, List.map_cons, List.map_nil, List.cons_append, List.nil_append, List.drop_succ_cons, List.drop_zero, List.length_cons, List.length_nil, Nat.zero_add, Nat.reduceAdd, Int.neg_neg, Bool.not_not, List.append_nil, Nat.add_zero, List.getElem?_cons_zero, List.getElem?_cons_succ, Decidable.not_not]
  exact .of fun R h H => ⟨trivial, none, 0, ⟨by simp, by simp⟩, HP.sep_mono H (fun _ h => h) fun _ _ => RoC.nil _ _ _ _⟩
/-- So many bytes are taken. -/
def takeR (s : List UInt8 × Bool) (n : Nat) : List UInt8 × (List UInt8 × Bool) := if s.2 then ([], s) else if s.1.length < n then ([], ([], true)) else (s.1.take n, (s.1.drop n, false))
theorem und8' : Try.prog.underlying 30 = some (.slice 5) := und8
theorem sz8 : szT Try.prog 5 = 1 := by kernel_rfl
theorem rTake_ok (b : Nat) (s : List UInt8 × Bool) (n : Nat) : Tri Try.prog 131 #[.pointer (some ⟨b, 0, none⟩), .int .i64 n] (RRep b s)
    (fun v => HP.ex fun a => HP.ex fun c => HP.and (v = .slice a (takeR s n).1.length c) (HP.sep (RoB a (takeR s n).1.length (takeR s n).1) (RRep b (takeR s n).2))) := by
  obtain ⟨l, wr⟩ := s
  refine Tri.ex fun a => Tri.ex fun c => Tri.pure fun hc => ?_
  simp only at hc
  refine tri_of_tree (ρ := [.n b, .a a, .n l.length, .n c, .p (RoB a l.length l), .c wr, .i n]) mixed Try.func131 tree_rTake ?_
  unfold t_rTake
  simp only [T.den, E.prop, E.den, RX.look, F1.app, F2.app, Uni.int_i, Uni.nat_n, Uni.bool_c, Uni.str_s, Uni.adr_a, Uni.val_v, Uni.hp_p, hden, cden, V.den, W.den, A.den, BR.den, SA.den, FV.den, capV, exs, exP, allP, Cur.app, List.map_cons, List.map_nil, List.cons_append, List.nil_append, List.drop_succ_cons, List.drop_zero, List.length_cons, List.length_nil, Nat.zero_add, Nat.reduceAdd, Int.neg_neg, Bool.not_not, List.append_nil, Nat.add_zero, List.getElem?_cons_zero, List.getElem?_cons_succ, Decidable.not_not]
  refine ⟨fun h1 => .of fun R h H => ?_, fun h1 => ⟨fun h2 => ?_, fun h2 => ?_⟩⟩
  · subst h1
    simp only [takeR, if_true]
    exact ⟨none, 0, rfl, RoC.join (RoC.nil _ _ R h) ⟨a, c, hc, H⟩⟩
  · have e : takeR (l, wr) n = ([], ([], true)) := by simp only [takeR]; rw [if_neg h1, if_pos (by omega)]
    rw [e]
    refine (rFail_ok b (l, wr)).weak (fun R h H => ⟨a, c, hc, H⟩) ?_
    rintro v R h ⟨rfl, a', c', hc', H⟩
    refine ⟨a', _, c', RoB a' 0 [], true, rfl, .of fun R h H => ⟨none, 0, rfl, RoC.join (RoC.nil _ _ R h) ⟨a', c', hc', H⟩⟩, H⟩
  · have hn : n ≤ l.length := by omega
    have hw : wr = false := by simpa using h1
    have e : takeR (l, wr) n = (l.take n, (l.drop n, false)) := by simp only [takeR]; rw [if_neg h1, if_neg (by omega)]
    rw [e]
    obtain ⟨i, hi, _⟩ := info_parts info8
    have s1 := slice_ok und8 hi (RoB a l.length l) a l.length c (some 0) (some n) (some n) (Nat.zero_le _) (Nat.le_refl _) (by simp; omega) (fun _ => rfl)
    have s2 := slice_ok und8 hi (RoB a l.length l) a l.length c (some n) none none hn hc.1 (Nat.le_refl _) (fun h => by cases h)
    refine ⟨_, _, _, s1, _, _, _, s2, ?_⟩
    simp only [Option.getD_some, Option.getD_none, Nat.sub_zero, sz8, Nat.mul_one, Nat.zero_mul]
    refine .of fun R h H => ?_
    have hro := HP.sep_right H
    have r1 := RoC.sub hro 0 n n (Nat.zero_le _) hn (Nat.le_refl _)
    have r2 := RoC.sub hro n l.length c hn (Nat.le_refl _) hc.1
    simp only [Nat.sub_zero, Nat.mul_one, Nat.zero_mul, List.drop_zero, ← List.map_take, ← List.map_drop] at r1 r2
    rw [List.take_of_length_le (by simp)] at r2
    have e1 : (l.take n).length = n := by simp [hn]
    have e2 : (l.drop n).length = l.length - n := by simp
    rw [← e2] at r2
    refine ⟨if n = 0 then a else Option.map (fun x => x.add 0) a, n, by rw [e1], ?_⟩
    rw [e1]
    refine RoC.join r1 ⟨_, c - n, ⟨by simp only [e2]; omega, by simp only [e2]; omega⟩, RoC.joinR r2 ?_⟩
    have := HP.sep_left H
    simp only [e2]
    rw [hw] at this
    exact this

def beV (l : List UInt8) : Nat := l.foldl (fun v b => v * 256 + b.toNat) 0
theorem beV_snoc (l : List UInt8) (b : UInt8) : beV (l ++ [b]) = beV l * 256 + b.toNat := by simp [beV]
theorem beV_lt (l : List UInt8) : beV l < 256 ^ l.length := by
  have key : ∀ (l : List UInt8) (v : Nat), l.foldl (fun v (b : UInt8) => v * 256 + b.toNat) v < (v + 1) * 256 ^ l.length := by
    intro l
    induction l with
    | nil => intro v; simp
    | cons b r ih =>
      intro v
      have hb := b.toNat_lt
      have h1 := ih (v * 256 + b.toNat)
      have h2 : (v * 256 + b.toNat + 1) * 256 ^ r.length ≤ (v + 1) * 256 * 256 ^ r.length := Nat.mul_le_mul_right _ (by omega)
      simp only [List.foldl_cons, List.length_cons, Nat.pow_succ]
      rw [Nat.mul_comm (256 ^ r.length) 256, ← Nat.mul_assoc]
      omega
  simpa [beV] using key l 0
/-- A number of so many bytes. -/
def numR (s : List UInt8 × Bool) (n : Nat) : Nat × (List UInt8 × Bool) := (beV (takeR s n).1, (takeR s n).2)
theorem takeR_len (s : List UInt8 × Bool) (n : Nat) : (takeR s n).1.length ≤ n := by
  unfold takeR; split
  · simp
  · split <;> simp; omega
theorem or_step (v : Nat) (b : UInt8) (hv : v < 2 ^ 56) : bits .or .u64 (IntKind.u64.wrap ((v : Int) * 2 ^ (min (8 : Int).toNat IntKind.u64.bits))) (b.toNat : Int) = ((v * 256 + b.toNat : Nat) : Int) := by
  have hb := b.toNat_lt
  have e1 : IntKind.u64.wrap ((v : Int) * 2 ^ (min (8 : Int).toNat IntKind.u64.bits)) = ((v * 256 : Nat) : Int) := by
    have : (v : Int) * 2 ^ (min (8 : Int).toNat IntKind.u64.bits) = ((v * 256 : Nat) : Int) := by
      simp [IntKind.bits]
    rw [this]
    exact wrap_in ⟨by simp [IntKind.min, IntKind.signed]; omega, by simp [IntKind.max, IntKind.signed, IntKind.bits]; omega⟩
  rw [e1]
  have e2 : (v * 256 ||| b.toNat) = v * 256 + b.toNat := by
    have := Nat.shiftLeft_add_eq_or_of_lt (a := v) (b := b.toNat) (i := 8) (by omega)
    rw [Nat.shiftLeft_eq] at this
    exact this.symm
  show IntKind.u64.wrap ((BitVec.ofInt 64 ((v * 256 : Nat) : Int) ||| BitVec.ofInt 64 (b.toNat : Int)).toNat : Int) = _
  rw [BitVec.ofInt_natCast, BitVec.ofInt_natCast, BitVec.toNat_or, BitVec.toNat_ofNat, BitVec.toNat_ofNat, Nat.mod_eq_of_lt (by omega), Nat.mod_eq_of_lt (by omega), e2]
  exact wrap_in ⟨by simp [IntKind.min, IntKind.signed]; omega, by simp [IntKind.max, IntKind.signed, IntKind.bits]; omega⟩
theorem inI64 (x : Int) (h1 : -9223372036854775808 ≤ x) (h2 : x ≤ 9223372036854775807) : IntKind.i64.min ≤ x ∧ x ≤ IntKind.i64.max := by
  simp [IntKind.min, IntKind.max, IntKind.signed, IntKind.bits]; omega
theorem inU64 (x : Int) (h1 : 0 ≤ x) (h2 : x ≤ 18446744073709551615) : IntKind.u64.min ≤ x ∧ x ≤ IntKind.u64.max := by
  simp [IntKind.min, IntKind.max, IntKind.signed, IntKind.bits]; omega
theorem und8b : Try.prog.underlying 5 = some (.int .u8) := by kernel_rfl
theorem agg8 : aggT Try.prog 5 = false := by kernel_rfl
theorem rNumber_ok (b : Nat) (s : List UInt8 × Bool) (n : Nat) (hn : n ≤ 8) : Tri Try.prog 130 #[.pointer (some ⟨b, 0, none⟩), .int .i64 n] (RRep b s)
    (fun v => HP.and (v = .int .u64 ((numR s n).1 : Nat)) (RRep b (numR s n).2)) := by
  refine tri_of_tree (ρ := [.n b, .p (RRep b s), .i n]) mixed Try.func130 tree_rNumber ?_
  unfold t_rNumber
  simp only [T.den, E.prop, E.den, RX.look, F1.app, F2.app, Uni.int_i, Uni.nat_n, Uni.bool_c, Uni.str_s, Uni.adr_a, Uni.val_v, Uni.hp_p, hden, cden, V.den, W.den, A.den, BR.den, SA.den, FV.den, capV, exs, exP, allP, Cur.app, List.map_cons, List.map_nil, List.cons_append, List.nil_append, List.drop_succ_cons, List.drop_zero, List.length_cons, List.length_nil, Nat.zero_add, Nat.reduceAdd, Int.neg_neg, Bool.not_not, List.append_nil, Nat.add_zero, List.getElem?_cons_zero, List.getElem?_cons_succ, Decidable.not_not]
  refine (width_ok n HP.tt).weak (fun _ _ h => h) ?_
  rintro r R h ⟨rfl, H⟩
  refine ⟨min (max n 0) 8, rfl, ?_, H⟩
  rw [show min (max (n : Int) 0) 8 = n by omega]
  refine (rTake_ok b s n).weak (fun _ _ h => h) ?_
  rintro r R h ⟨a, c, rfl, H⟩
  have hlen := takeR_len s n
  have ha : 0 < (takeR s n).1.length → a.isSome = true := fun h => RoC.some (HP.sep_left H) h
  refine ⟨a, _, c, RoB a _ (takeR s n).1, RRep b (takeR s n).2, rfl, ?_, H⟩
  have hpow : 256 ^ (takeR s n).1.length ≤ 256 ^ 8 := Nat.pow_le_pow_right (by decide) (by omega)
  unfold numR
  generalize (takeR s n).1 = l at *
  generalize (takeR s n).2 = s' at *
  refine ⟨fun v i => ∃ k : Nat, i = k ∧ k ≤ l.length ∧ v = ((beV (l.take k) : Nat) : Int), fun v i => l.length - i.toNat, ⟨0, rfl, Nat.zero_le _, rfl⟩, ?_⟩
  rintro v i ⟨k, rfl, hk, rfl⟩
  refine ⟨fun hlt => ⟨by omega, fun _ => ?_⟩, fun hge => ?_⟩
  · have hlt' : k < l.length := by omega
    have hb8 := l[k].toNat_lt
    have hget : l[k]? = some l[k] := List.getElem?_eq_getElem hlt'
    have hk8 : beV (l.take k) < 2 ^ 56 := by
      have h1 := beV_lt (l.take k)
      rw [List.length_take, Nat.min_eq_left hk] at h1
      have h2 : 256 ^ k ≤ 256 ^ 7 := Nat.pow_le_pow_right (by decide) (by omega)
      have h3 : (256 : Nat) ^ 7 = 2 ^ 56 := by decide
      omega
    refine ⟨ha (by omega), fun _ => ⟨(l[k].toNat : Int), ?_, inU64 _ (by omega) (by omega), fun _ => ⟨inI64 _ (by omega) (by omega), fun _ => ⟨⟨k + 1, by omega, hlt', ?_⟩, by dsimp only; omega⟩⟩⟩⟩
    · exact load1_ok und8b agg8 sz8 (RoC.rd 1 a _ (l.map u8v)) (k := (k : Int).toNat * 1) (off := 0) (v := u8v l[k]) (by simp [hget])
    · rw [or_step _ _ hk8, List.take_succ_eq_append_getElem hlt', beV_snoc]
  · have : k = l.length := by omega
    subst this
    rw [List.take_length]
    exact .of fun R h H => ⟨rfl, H⟩
theorem wrap8 (v : Nat) : IntKind.u8.wrap (v : Int) = ((v % 256 : Nat) : Int) := by
  simp only [IntKind.wrap, IntKind.bits, IntKind.signed, Bool.false_and, Bool.false_eq_true, if_false]
  omega
theorem rByte_ok (b : Nat) (s : List UInt8 × Bool) : Tri Try.prog 99 #[.pointer (some ⟨b, 0, none⟩)] (RRep b s) (fun v => HP.and (v = .int .u8 (((numR s 1).1 % 256 : Nat) : Int)) (RRep b (numR s 1).2)) := by
  refine tri_of_tree (ρ := [.n b, .p (RRep b s)]) mixed Try.func99 tree_rByte ?_
  unfold t_rByte
  simp only [T.den, E.prop, E.den, RX.look, F1.app, F2.app, Uni.int_i, Uni.nat_n, Uni.bool_c, Uni.str_s, Uni.adr_a, Uni.val_v, Uni.hp_p, hden, cden, V.den, W.den, A.den, BR.den, SA.den, FV.den, capV, exs, exP, allP, Cur.app, List.map_cons, List.map_nil, List.cons_append, List.nil_append, List.drop_succ_cons, List.drop_zero, List.length_cons, List.length_nil, Nat.zero_add, Nat.reduceAdd, Int.neg_neg, Bool.not_not, List.append_nil, Nat.add_zero, List.getElem?_cons_zero, List.getElem?_cons_succ, Decidable.not_not]
  refine (rNumber_ok b s 1 (by omega)).weak (fun _ _ h => h) ?_
  rintro v R h ⟨rfl, H⟩
  exact ⟨_, _, rfl, .of fun R h H => ⟨by rw [wrap8], H⟩, H⟩
def intOf64 (v : Nat) : Int := IntKind.i64.wrap (v : Int)
theorem rInt_ok (b : Nat) (s : List UInt8 × Bool) : Tri Try.prog 100 #[.pointer (some ⟨b, 0, none⟩)] (RRep b s) (fun v => HP.and (v = .int .i64 (intOf64 (numR s 8).1)) (RRep b (numR s 8).2)) := by
  refine tri_of_tree (ρ := [.n b, .p (RRep b s)]) mixed Try.func100 tree_rInt ?_
  unfold t_rInt
  simp only [T.den, E.prop, E.den, RX.look, F1.app, F2.app, Uni.int_i, Uni.nat_n, Uni.bool_c, Uni.str_s, Uni.adr_a, Uni.val_v, Uni.hp_p, hden, cden, V.den, W.den, A.den, BR.den, SA.den, FV.den, capV, exs, exP, allP, Cur.app, List.map_cons, List.map_nil, List.cons_append, List.nil_append, List.drop_succ_cons, List.drop_zero, List.length_cons, List.length_nil, Nat.zero_add, Nat.reduceAdd, Int.neg_neg, Bool.not_not, List.append_nil, Nat.add_zero, List.getElem?_cons_zero, List.getElem?_cons_succ, Decidable.not_not]
  refine (rNumber_ok b s 8 (by omega)).weak (fun _ _ h => h) ?_
  rintro v R h ⟨rfl, H⟩
  exact ⟨_, _, rfl, .of fun R h H => ⟨rfl, H⟩, H⟩
/-- How many there are, at most so many. -/
def toldR (s : List UInt8 × Bool) (most : Int) : Nat × (List UInt8 × Bool) :=
  if (numR s 4).2.2 then (0, (numR s 4).2) else if most < (numR s 4).1 then (0, ([], true)) else ((numR s 4).1, (numR s 4).2)
theorem numR_lt (s : List UInt8 × Bool) (n : Nat) : (numR s n).1 < 256 ^ n :=
  Nat.lt_of_lt_of_le (beV_lt _) (Nat.pow_le_pow_right (by decide) (takeR_len s n))
theorem rTold_ok (b : Nat) (s : List UInt8 × Bool) (most : Int) : Tri Try.prog 132 #[.pointer (some ⟨b, 0, none⟩), .int .i64 most] (RRep b s) (fun v => HP.and (v = .int .i64 ((toldR s most).1 : Nat)) (RRep b (toldR s most).2)) := by
  have hlt := numR_lt s 4
  refine Tri.ex fun a => Tri.ex fun c => Tri.pure fun hc => ?_
  refine tri_of_tree (ρ := [.n b, .a a, .n s.1.length, .n c, .p (RoB a s.1.length s.1), .c s.2, .i most]) mixed Try.func132 tree_rTold ?_
  unfold t_rTold
  simp only [T.den, E.prop, E.den, RX.look, F1.app, F2.app, Uni.int_i, Uni.nat_n, Uni.bool_c, Uni.str_s, Uni.adr_a, Uni.val_v, Uni.hp_p, hden, cden, V.den, W.den, A.den, BR.den, SA.den, FV.den, capV, exs, exP, allP, Cur.app, List.map_cons, List.map_nil, List.cons_append, List.nil_append, List.drop_succ_cons, List.drop_zero, List.length_cons, List.length_nil, Nat.zero_add, Nat.reduceAdd, Int.neg_neg, Bool.not_not, List.append_nil, Nat.add_zero, List.getElem?_cons_zero, List.getElem?_cons_succ, Decidable.not_not]
  refine (rNumber_ok b s 4 (by omega)).weak (fun R h H => ⟨a, c, hc, H⟩) ?_
  rintro v R h ⟨rfl, a', c', hc', H⟩
  unfold toldR
  generalize (numR s 4).1 = x at *
  generalize (numR s 4).2 = s' at *
  obtain ⟨l', w'⟩ := s'
  refine ⟨_, a', _, c', RoB a' l'.length l', w', rfl, ?_, H⟩
  have e : IntKind.i64.wrap (x : Int) = x := wrap_in (inI64 _ (by omega) (by omega))
  rw [e]
  refine ⟨fun h1 => .of fun R h H => ?_, fun h1 => ⟨fun h2 => ?_, fun h2 => .of fun R h H => ?_⟩⟩
  · simp only [h1, if_true]
    subst h1
    exact ⟨rfl, a', c', hc', H⟩
  · rw [if_neg h1, if_pos h2]
    refine (rFail_ok b (l', w')).weak (fun R h H => ⟨a', c', hc', H⟩) ?_
    rintro v R h ⟨rfl, a2, c2, hc2, H⟩
    exact ⟨a2, _, c2, RoB a2 _ [], true, rfl, .of fun R h H => ⟨rfl, a2, c2, hc2, H⟩, H⟩
  · rw [if_neg h1, if_neg h2]
    exact ⟨rfl, a', c', hc', H⟩
def bytesR (s : List UInt8 × Bool) (most : Int) : List UInt8 × (List UInt8 × Bool) := takeR (toldR s most).2 (toldR s most).1
theorem rBytes_ok (b : Nat) (s : List UInt8 × Bool) (most : Int) : Tri Try.prog 101 #[.pointer (some ⟨b, 0, none⟩), .int .i64 most] (RRep b s)
    (fun v => HP.ex fun a => HP.ex fun c => HP.and (v = .slice a (bytesR s most).1.length c) (HP.sep (RRep b (bytesR s most).2) (OwB a (bytesR s most).1.length c (bytesR s most).1))) := by
  refine tri_of_tree (ρ := [.n b, .p (RRep b s), .i most]) mixed Try.func101 tree_rBytes ?_
  unfold t_rBytes
  simp only [T.den, E.prop, E.den, RX.look, F1.app, F2.app, Uni.int_i, Uni.nat_n, Uni.bool_c, Uni.str_s, Uni.adr_a, Uni.val_v, Uni.hp_p, hden, cden, V.den, W.den, A.den, BR.den, SA.den, FV.den, capV, exs, exP, allP, Cur.app, List.map_cons, List.map_nil, List.cons_append, List.nil_append, List.drop_succ_cons, List.drop_zero, List.length_cons, List.length_nil, Nat.zero_add, Nat.reduceAdd, Int.neg_neg, Bool.not_not, List.append_nil, Nat.add_zero, List.getElem?_cons_zero, List.getElem?_cons_succ, Decidable.not_not]
  refine (rTold_ok b s most).weak (fun _ _ h => h) ?_
  rintro v R h ⟨rfl, H⟩
  refine ⟨_, RRep b (toldR s most).2, rfl, ?_, H⟩
  refine (rTake_ok b _ _).weak (fun _ _ h => h) ?_
  rintro v R h ⟨a, c, rfl, H⟩
  have hlen : (bytesR s most).1.length ≤ 140737488355328 := by
    have h1 := takeR_len (toldR s most).2 (toldR s most).1
    have h2 : (toldR s most).1 < 256 ^ 4 := by
      have := numR_lt s 4
      unfold toldR; split
      · simp
      · split
        · simp
        · exact this
    have h3 : (256 : Nat) ^ 4 = 4294967296 := by decide
    unfold bytesR
    omega
  refine ⟨a, _, c, RoB a _ (bytesR s most).1, RRep b (bytesR s most).2, rfl, ?_, H⟩
  refine (clone8_ok _ a _ c (bytesR s most).1 (RdL.ro _ _ _ _) rfl hlen).weak (fun _ _ h => h) ?_
  rintro v R h ⟨a', c', rfl, H⟩
  exact ⟨a', _, c', OwB a' _ c' _, RoB a _ (bytesR s most).1, rfl, .of fun R h H => ⟨a', c', rfl, H⟩, H⟩
theorem rEnd_ok (b : Nat) (s : List UInt8 × Bool) : Tri Try.prog 102 #[.pointer (some ⟨b, 0, none⟩)] (RRep b s) (fun v => HP.and (v = .int .i64 (if s.2 = true ∨ s.1 ≠ [] then 3 else 0)) (RRep b s)) := by
  obtain ⟨l, w⟩ := s
  refine Tri.ex fun a => Tri.ex fun c => Tri.pure fun hc => ?_
  refine tri_of_tree (ρ := [.n b, .a a, .n l.length, .n c, .p (RoB a l.length l), .c w]) mixed Try.func102 tree_rEnd ?_
  unfold t_rEnd
  simp only [T.den, E.prop, E.den, RX.look, F1.app, F2.app, Uni.int_i, Uni.nat_n, Uni.bool_c, Uni.str_s, Uni.adr_a, Uni.val_v, Uni.hp_p, hden, cden, V.den, W.den, A.den, BR.den, SA.den, FV.den, capV, exs, exP, allP, Cur.app, List.map_cons, List.map_nil, List.cons_append, List.nil_append, List.drop_succ_cons, List.drop_zero, List.length_cons, List.length_nil, Nat.zero_add, Nat.reduceAdd, Int.neg_neg, Bool.not_not, List.append_nil, Nat.add_zero, List.getElem?_cons_zero, List.getElem?_cons_succ, Decidable.not_not]
  refine ⟨fun h1 => .of fun R h H => ⟨?_, a, c, hc, H⟩, fun h1 => ⟨fun h2 => .of fun R h H => ⟨?_, a, c, hc, H⟩, fun h2 => .of fun R h H => ⟨?_, a, c, hc, H⟩⟩⟩
  · rw [if_pos (.inl h1)]
  · rw [if_pos (.inr (fun e => by subst e; simp at h2))]
  · rw [if_neg (fun e => e.elim h1 fun e => h2 (by have := List.length_pos_iff.2 e; omega))]
theorem rRead_ok (a : Option Addr) (n c : Nat) (l : List UInt8) (S : HP) (hr : RdL S a n (l.map u8v)) (hl : l.length = n) (hb : n ≤ 140737488355328) :
    Tri Try.prog 98 #[.slice a n c] S (fun v => HP.ex fun b => HP.and (v = .pointer (some ⟨b, 0, none⟩)) (HP.sep S (RRep b (l, false)))) := by
  refine tri_of_tree (ρ := [.a a, .n n, .n c, .p S]) mixed Try.func98 tree_rRead ?_
  unfold t_rRead
  simp only [T.den, E.prop, E.den, RX.look, F1.app, F2.app, Uni.int_i, Uni.nat_n, Uni.bool_c, Uni.str_s, Uni.adr_a, Uni.val_v, Uni.hp_p, hden, cden, V.den, W.den, A.den, BR.den, SA.den, FV.den, capV, exs, exP, allP, Cur.app, List.map_cons, List.map_nil, List.cons_append, List.nil_append, List.drop_succ_cons, List.drop_zero, List.length_cons, List.length_nil, Nat.zero_add, Nat.reduceAdd, Int.neg_neg, Bool.not_not, List.append_nil, Nat.add_zero, List.getElem?_cons_zero, List.getElem?_cons_succ, Decidable.not_not]
  refine (clone8_ok S a n c l hr hl hb).weak (fun _ _ h => h) ?_
  rintro v R h ⟨a', c', rfl, H⟩
  refine ⟨a', _, c', OwB a' n c' l, S, rfl, fun x => ?_, H⟩
  subst hl
  rintro R h d H
  have hle := OwC.le (HP.sep_right (HP.sep_right H))
  refine ((HP.ent.sep2 (HP.ent.refl S) (HP.ent.sep2 (HP.ent.refl _) (OwC.share 5 1 a' l.length c' (l.map u8v)))).trans ?_) R h d H
  refine .of fun R h H => ⟨x, rfl, HP.sep_mono H (fun _ h => h) fun y hy => ?_⟩
  exact ⟨a', c', ⟨hle, hb⟩, hy⟩
end Go.Proofs.Ytmibmjehjagmbaa
