/- Texts of this claim, joined: Rdr, TrDev, Dev, DevP, MapV, TrUnit, UnitA, UnitB. No condition. -/
import Derived.Test.YtmibmjehjagmbaaCFJ1
import Derived.KernelRfl
set_option linter.unusedSimpArgs false
set_option linter.unusedVariables false
/- Contracts of octet's Reader. No condition. -/
namespace Go.Proofs.Ytmibmjehjagmbaa
set_option linter.unusedSimpArgs false
set_option linter.unusedVariables false
open Go.Proofs.Ytmibmjehjagmbaa RX

def RRep (b : Nat) (s : List UInt8 × Bool) : HP := HP.ex fun a => HP.ex fun c => HP.and (s.1.length ≤ c ∧ s.1.length ≤ 140737488355328) (HP.sep (HP.one b (.cells #[.slice a s.1.length c, .bool s.2] 183)) (RoB a s.1.length s.1))
theorem rFail_ok (b : Nat) (s : List UInt8 × Bool) : Tri Try.prog 138 #[.pointer (some ⟨b, 0, none⟩)] (RRep b s) (fun v => HP.and (v = .tuple #[]) (RRep b ([], true))) := by
  refine Tri.ex fun a => Tri.ex fun c => Tri.pure fun _ => ?_
  refine tri_of_tree (ρ := [.n b, .a a, .n s.1.length, .n c, .p (RoB a s.1.length s.1), .c s.2]) mixed Try.func138 tree_rFail ?_
  unfold t_rFail
  simp only [T.den, E.prop, E.den, RX.look, F1.app, F2.app, Uni.int_i, Uni.nat_n, Uni.bool_c, Uni.str_s, Uni.adr_a, Uni.val_v, Uni.hp_p, hden, cden, V.den, W.den, A.den, BR.den, SA.den, FV.den, capV, exs, exP, allP, Cur.app, List.map_cons, List.map_nil, List.cons_append, List.nil_append, List.drop_succ_cons, List.drop_zero, List.length_cons, List.length_nil, Nat.zero_add, Nat.reduceAdd, Int.neg_neg, Bool.not_not, List.append_nil, Nat.add_zero, List.getElem?_cons_zero, List.getElem?_cons_succ, Decidable.not_not]
  exact .of fun R h H => ⟨trivial, none, 0, ⟨by simp, by simp⟩, HP.sep_mono H (fun _ h => h) fun _ _ => RoC.nil _ _ _ _⟩
/-- So many bytes are taken. -/
def takeR (s : List UInt8 × Bool) (n : Nat) : List UInt8 × (List UInt8 × Bool) := if s.2 then ([], s) else if s.1.length < n then ([], ([], true)) else (s.1.take n, (s.1.drop n, false))
theorem und8' : Try.prog.underlying 30 = some (.slice 5) := und8
theorem sz8 : szT Try.prog 5 = 1 := by kernel_rfl
theorem rTake_ok (b : Nat) (s : List UInt8 × Bool) (n : Nat) : Tri Try.prog 131 #[.pointer (some ⟨b, 0, none⟩), .int .i64 n] (RRep b s)
    (fun v => HP.ex fun a => HP.ex fun c => HP.and (v = .slice a (takeR s n).1.length c) (HP.sep (RoB a (takeR s n).1.length (takeR s n).1) (RRep b (takeR s n).2))) := by
  obtain ⟨l, wr⟩ := s
  refine Tri.ex fun a => Tri.ex fun c => Tri.pure fun hc => ?_
  simp only at hc
  refine tri_of_tree (ρ := [.n b, .a a, .n l.length, .n c, .p (RoB a l.length l), .c wr, .i n]) mixed Try.func131 tree_rTake ?_
  unfold t_rTake
  simp only [T.den, E.prop, E.den, RX.look, F1.app, F2.app, Uni.int_i, Uni.nat_n, Uni.bool_c, Uni.str_s, Uni.adr_a, Uni.val_v, Uni.hp_p, hden, cden, V.den, W.den, A.den, BR.den, SA.den, FV.den, capV, exs, exP, allP, Cur.app, List.map_cons, List.map_nil, List.cons_append, List.nil_append, List.drop_succ_cons, List.drop_zero, List.length_cons, List.length_nil, Nat.zero_add, Nat.reduceAdd, Int.neg_neg, Bool.not_not, List.append_nil, Nat.add_zero, List.getElem?_cons_zero, List.getElem?_cons_succ, Decidable.not_not]
  refine ⟨fun h1 => .of fun R h H => ?_, fun h1 => ⟨fun h2 => ?_, fun h2 => ?_⟩⟩
  · subst h1
    simp only [takeR, if_true]
    exact ⟨none, 0, rfl, RoC.join (RoC.nil _ _ R h) ⟨a, c, hc, H⟩⟩
  · have e : takeR (l, wr) n = ([], ([], true)) := by simp only [takeR]; rw [if_neg h1, if_pos (by omega)]
    rw [e]
    refine (rFail_ok b (l, wr)).weak (fun R h H => ⟨a, c, hc, H⟩) ?_
    rintro v R h ⟨rfl, a', c', hc', H⟩
    refine ⟨a', _, c', RoB a' 0 [], true, rfl, .of fun R h H => ⟨none, 0, rfl, RoC.join (RoC.nil _ _ R h) ⟨a', c', hc', H⟩⟩, H⟩
  · have hn : n ≤ l.length := by omega
    have hw : wr = false := by simpa using h1
    have e : takeR (l, wr) n = (l.take n, (l.drop n, false)) := by simp only [takeR]; rw [if_neg h1, if_neg (by omega)]
    rw [e]
    obtain ⟨i, hi, _⟩ := info_parts info8
    have s1 := slice_ok und8 hi (RoB a l.length l) a l.length c (some 0) (some n) (some n) (Nat.zero_le _) (Nat.le_refl _) (by simp; omega) (fun _ => rfl)
    have s2 := slice_ok und8 hi (RoB a l.length l) a l.length c (some n) none none hn hc.1 (Nat.le_refl _) (fun h => by cases h)
    refine ⟨_, _, _, s1, _, _, _, s2, ?_⟩
    simp only [Option.getD_some, Option.getD_none, Nat.sub_zero, sz8, Nat.mul_one, Nat.zero_mul]
    refine .of fun R h H => ?_
    have hro := HP.sep_right H
    have r1 := RoC.sub hro 0 n n (Nat.zero_le _) hn (Nat.le_refl _)
    have r2 := RoC.sub hro n l.length c hn (Nat.le_refl _) hc.1
    simp only [Nat.sub_zero, Nat.mul_one, Nat.zero_mul, List.drop_zero, ← List.map_take, ← List.map_drop] at r1 r2
    rw [List.take_of_length_le (by simp)] at r2
    have e1 : (l.take n).length = n := by simp [hn]
    have e2 : (l.drop n).length = l.length - n := by simp
    rw [← e2] at r2
    refine ⟨if n = 0 then a else Option.map (fun x => x.add 0) a, n, by rw [e1], ?_⟩
    rw [e1]
    refine RoC.join r1 ⟨_, c - n, ⟨by simp only [e2]; omega, by simp only [e2]; omega⟩, RoC.joinR r2 ?_⟩
    have := HP.sep_left H
    simp only [e2]
    rw [hw] at this
    exact this

def beV (l : List UInt8) : Nat := l.foldl (fun v b => v * 256 + b.toNat) 0
theorem beV_snoc (l : List UInt8) (b : UInt8) : beV (l ++ [b]) = beV l * 256 + b.toNat := by simp [beV]
theorem beV_lt (l : List UInt8) : beV l < 256 ^ l.length := by
  have key : ∀ (l : List UInt8) (v : Nat), l.foldl (fun v (b : UInt8) => v * 256 + b.toNat) v < (v + 1) * 256 ^ l.length := by
    intro l
    induction l with
    | nil => intro v; simp
    | cons b r ih =>
      intro v
      have hb := b.toNat_lt
      have h1 := ih (v * 256 + b.toNat)
      have h2 : (v * 256 + b.toNat + 1) * 256 ^ r.length ≤ (v + 1) * 256 * 256 ^ r.length := Nat.mul_le_mul_right _ (by omega)
      simp only [List.foldl_cons, List.length_cons, Nat.pow_succ]
      rw [Nat.mul_comm (256 ^ r.length) 256, ← Nat.mul_assoc]
      omega
  simpa [beV] using key l 0
/-- A number of so many bytes. -/
def numR (s : List UInt8 × Bool) (n : Nat) : Nat × (List UInt8 × Bool) := (beV (takeR s n).1, (takeR s n).2)
theorem takeR_len (s : List UInt8 × Bool) (n : Nat) : (takeR s n).1.length ≤ n := by
  unfold takeR; split
  · simp
  · split <;> simp; omega
theorem or_step (v : Nat) (b : UInt8) (hv : v < 2 ^ 56) : bits .or .u64 (IntKind.u64.wrap ((v : Int) * 2 ^ (min (8 : Int).toNat IntKind.u64.bits))) (b.toNat : Int) = ((v * 256 + b.toNat : Nat) : Int) := by
  have hb := b.toNat_lt
  have e1 : IntKind.u64.wrap ((v : Int) * 2 ^ (min (8 : Int).toNat IntKind.u64.bits)) = ((v * 256 : Nat) : Int) := by
    have : (v : Int) * 2 ^ (min (8 : Int).toNat IntKind.u64.bits) = ((v * 256 : Nat) : Int) := by
      simp [IntKind.bits]
    rw [this]
    exact wrap_in ⟨by simp [IntKind.min, IntKind.signed]; omega, by simp [IntKind.max, IntKind.signed, IntKind.bits]; omega⟩
  rw [e1]
  have e2 : (v * 256 ||| b.toNat) = v * 256 + b.toNat := by
    have := Nat.shiftLeft_add_eq_or_of_lt (a := v) (b := b.toNat) (i := 8) (by omega)
    rw [Nat.shiftLeft_eq] at this
    exact this.symm
  show IntKind.u64.wrap ((BitVec.ofInt 64 ((v * 256 : Nat) : Int) ||| BitVec.ofInt 64 (b.toNat : Int)).toNat : Int) = _
  rw [BitVec.ofInt_natCast, BitVec.ofInt_natCast, BitVec.toNat_or, BitVec.toNat_ofNat, BitVec.toNat_ofNat, Nat.mod_eq_of_lt (by omega), Nat.mod_eq_of_lt (by omega), e2]
  exact wrap_in ⟨by simp [IntKind.min, IntKind.signed]; omega, by simp [IntKind.max, IntKind.signed, IntKind.bits]; omega⟩
theorem inI64 (x : Int) (h1 : -9223372036854775808 ≤ x) (h2 : x ≤ 9223372036854775807) : IntKind.i64.min ≤ x ∧ x ≤ IntKind.i64.max := by
  simp [IntKind.min, IntKind.max, IntKind.signed, IntKind.bits]; omega
theorem inU64 (x : Int) (h1 : 0 ≤ x) (h2 : x ≤ 18446744073709551615) : IntKind.u64.min ≤ x ∧ x ≤ IntKind.u64.max := by
  simp [IntKind.min, IntKind.max, IntKind.signed, IntKind.bits]; omega
theorem und8b : Try.prog.underlying 5 = some (.int .u8) := by kernel_rfl
theorem agg8 : aggT Try.prog 5 = false := by kernel_rfl
theorem rNumber_ok (b : Nat) (s : List UInt8 × Bool) (n : Nat) (hn : n ≤ 8) : Tri Try.prog 130 #[.pointer (some ⟨b, 0, none⟩), .int .i64 n] (RRep b s)
    (fun v => HP.and (v = .int .u64 ((numR s n).1 : Nat)) (RRep b (numR s n).2)) := by
  refine tri_of_tree (ρ := [.n b, .p (RRep b s), .i n]) mixed Try.func130 tree_rNumber ?_
  unfold t_rNumber
  simp only [T.den, E.prop, E.den, RX.look, F1.app, F2.app, Uni.int_i, Uni.nat_n, Uni.bool_c, Uni.str_s, Uni.adr_a, Uni.val_v, Uni.hp_p, hden, cden, V.den, W.den, A.den, BR.den, SA.den, FV.den, capV, exs, exP, allP, Cur.app, List.map_cons, List.map_nil, List.cons_append, List.nil_append, List.drop_succ_cons, List.drop_zero, List.length_cons, List.length_nil, Nat.zero_add, Nat.reduceAdd, Int.neg_neg, Bool.not_not, List.append_nil, Nat.add_zero, List.getElem?_cons_zero, List.getElem?_cons_succ, Decidable.not_not]
  refine (width_ok n HP.tt).weak (fun _ _ h => h) ?_
  rintro r R h ⟨rfl, H⟩
  refine ⟨min (max n 0) 8, rfl, ?_, H⟩
  rw [show min (max (n : Int) 0) 8 = n by omega]
  refine (rTake_ok b s n).weak (fun _ _ h => h) ?_
  rintro r R h ⟨a, c, rfl, H⟩
  have hlen := takeR_len s n
  have ha : 0 < (takeR s n).1.length → a.isSome = true := fun h => RoC.some (HP.sep_left H) h
  refine ⟨a, _, c, RoB a _ (takeR s n).1, RRep b (takeR s n).2, rfl, ?_, H⟩
  have hpow : 256 ^ (takeR s n).1.length ≤ 256 ^ 8 := Nat.pow_le_pow_right (by decide) (by omega)
  unfold numR
  generalize (takeR s n).1 = l at *
  generalize (takeR s n).2 = s' at *
  refine ⟨fun v i => ∃ k : Nat, i = k ∧ k ≤ l.length ∧ v = ((beV (l.take k) : Nat) : Int), fun v i => l.length - i.toNat, ⟨0, rfl, Nat.zero_le _, rfl⟩, ?_⟩
  rintro v i ⟨k, rfl, hk, rfl⟩
  refine ⟨fun hlt => ⟨by omega, fun _ => ?_⟩, fun hge => ?_⟩
  · have hlt' : k < l.length := by omega
    have hb8 := l[k].toNat_lt
    have hget : l[k]? = some l[k] := List.getElem?_eq_getElem hlt'
    have hk8 : beV (l.take k) < 2 ^ 56 := by
      have h1 := beV_lt (l.take k)
      rw [List.length_take, Nat.min_eq_left hk] at h1
      have h2 : 256 ^ k ≤ 256 ^ 7 := Nat.pow_le_pow_right (by decide) (by omega)
      have h3 : (256 : Nat) ^ 7 = 2 ^ 56 := by decide
      omega
    refine ⟨ha (by omega), fun _ => ⟨(l[k].toNat : Int), ?_, inU64 _ (by omega) (by omega), fun _ => ⟨inI64 _ (by omega) (by omega), fun _ => ⟨⟨k + 1, by omega, hlt', ?_⟩, by dsimp only; omega⟩⟩⟩⟩
    · exact load1_ok und8b agg8 sz8 (RoC.rd 1 a _ (l.map u8v)) (k := (k : Int).toNat * 1) (off := 0) (v := u8v l[k]) (by simp [hget])
    · rw [or_step _ _ hk8, List.take_succ_eq_append_getElem hlt', beV_snoc]
  · have : k = l.length := by omega
    subst this
    rw [List.take_length]
    exact .of fun R h H => ⟨rfl, H⟩
theorem wrap8 (v : Nat) : IntKind.u8.wrap (v : Int) = ((v % 256 : Nat) : Int) := by
  simp only [IntKind.wrap, IntKind.bits, IntKind.signed, Bool.false_and, Bool.false_eq_true, if_false]
  omega
theorem rByte_ok (b : Nat) (s : List UInt8 × Bool) : Tri Try.prog 99 #[.pointer (some ⟨b, 0, none⟩)] (RRep b s) (fun v => HP.and (v = .int .u8 (((numR s 1).1 % 256 : Nat) : Int)) (RRep b (numR s 1).2)) := by
  refine tri_of_tree (ρ := [.n b, .p (RRep b s)]) mixed Try.func99 tree_rByte ?_
  unfold t_rByte
  simp only [T.den, E.prop, E.den, RX.look, F1.app, F2.app, Uni.int_i, Uni.nat_n, Uni.bool_c, Uni.str_s, Uni.adr_a, Uni.val_v, Uni.hp_p, hden, cden, V.den, W.den, A.den, BR.den, SA.den, FV.den, capV, exs, exP, allP, Cur.app, List.map_cons, List.map_nil, List.cons_append, List.nil_append, List.drop_succ_cons, List.drop_zero, List.length_cons, List.length_nil, Nat.zero_add, Nat.reduceAdd, Int.neg_neg, Bool.not_not, List.append_nil, Nat.add_zero, List.getElem?_cons_zero, List.getElem?_cons_succ, Decidable.not_not]
  refine (rNumber_ok b s 1 (by omega)).weak (fun _ _ h => h) ?_
  rintro v R h ⟨rfl, H⟩
  exact ⟨_, _, rfl, .of fun R h H => ⟨by rw [wrap8], H⟩, H⟩
def intOf64 (v : Nat) : Int := IntKind.i64.wrap (v : Int)
theorem rInt_ok (b : Nat) (s : List UInt8 × Bool) : Tri Try.prog 100 #[.pointer (some ⟨b, 0, none⟩)] (RRep b s) (fun v => HP.and (v = .int .i64 (intOf64 (numR s 8).1)) (RRep b (numR s 8).2)) := by
  refine tri_of_tree (ρ := [.n b, .p (RRep b s)]) mixed Try.func100 tree_rInt ?_
  unfold t_rInt
  simp only [T.den, E.prop, E.den, RX.look, F1.app, F2.app, Uni.int_i, Uni.nat_n, Uni.bool_c, Uni.str_s, Uni.adr_a, Uni.val_v, Uni.hp_p, hden, cden, V.den, W.den, A.den, BR.den, SA.den, FV.den, capV, exs, exP, allP, Cur.app, List.map_cons, List.map_nil, List.cons_append, List.nil_append, List.drop_succ_cons, List.drop_zero, List.length_cons, List.length_nil, Nat.zero_add, Nat.reduceAdd, Int.neg_neg, Bool.not_not, List.append_nil, Nat.add_zero, List.getElem?_cons_zero, List.getElem?_cons_succ, Decidable.not_not]
  refine (rNumber_ok b s 8 (by omega)).weak (fun _ _ h => h) ?_
  rintro v R h ⟨rfl, H⟩
  exact ⟨_, _, rfl, .of fun R h H => ⟨rfl, H⟩, H⟩
/-- How many there are, at most so many. -/
def toldR (s : List UInt8 × Bool) (most : Int) : Nat × (List UInt8 × Bool) :=
  if (numR s 4).2.2 then (0, (numR s 4).2) else if most < (numR s 4).1 then (0, ([], true)) else ((numR s 4).1, (numR s 4).2)
theorem numR_lt (s : List UInt8 × Bool) (n : Nat) : (numR s n).1 < 256 ^ n :=
  Nat.lt_of_lt_of_le (beV_lt _) (Nat.pow_le_pow_right (by decide) (takeR_len s n))
theorem rTold_ok (b : Nat) (s : List UInt8 × Bool) (most : Int) : Tri Try.prog 132 #[.pointer (some ⟨b, 0, none⟩), .int .i64 most] (RRep b s) (fun v => HP.and (v = .int .i64 ((toldR s most).1 : Nat)) (RRep b (toldR s most).2)) := by
  have hlt := numR_lt s 4
  refine Tri.ex fun a => Tri.ex fun c => Tri.pure fun hc => ?_
  refine tri_of_tree (ρ := [.n b, .a a, .n s.1.length, .n c, .p (RoB a s.1.length s.1), .c s.2, .i most]) mixed Try.func132 tree_rTold ?_
  unfold t_rTold
  simp only [T.den, E.prop, E.den, RX.look, F1.app, F2.app, Uni.int_i, Uni.nat_n, Uni.bool_c, Uni.str_s, Uni.adr_a, Uni.val_v, Uni.hp_p, hden, cden, V.den, W.den, A.den, BR.den, SA.den, FV.den, capV, exs, exP, allP, Cur.app, List.map_cons, List.map_nil, List.cons_append, List.nil_append, List.drop_succ_cons, List.drop_zero, List.length_cons, List.length_nil, Nat.zero_add, Nat.reduceAdd, Int.neg_neg, Bool.not_not, List.append_nil, Nat.add_zero, List.getElem?_cons_zero, List.getElem?_cons_succ, Decidable.not_not]
  refine (rNumber_ok b s 4 (by omega)).weak (fun R h H => ⟨a, c, hc, H⟩) ?_
  rintro v R h ⟨rfl, a', c', hc', H⟩
  unfold toldR
  generalize (numR s 4).1 = x at *
  generalize (numR s 4).2 = s' at *
  obtain ⟨l', w'⟩ := s'
  refine ⟨_, a', _, c', RoB a' l'.length l', w', rfl, ?_, H⟩
  have e : IntKind.i64.wrap (x : Int) = x := wrap_in (inI64 _ (by omega) (by omega))
  rw [e]
  refine ⟨fun h1 => .of fun R h H => ?_, fun h1 => ⟨fun h2 => ?_, fun h2 => .of fun R h H => ?_⟩⟩
  · simp only [h1, if_true]
    subst h1
    exact ⟨rfl, a', c', hc', H⟩
  · rw [if_neg h1, if_pos h2]
    refine (rFail_ok b (l', w')).weak (fun R h H => ⟨a', c', hc', H⟩) ?_
    rintro v R h ⟨rfl, a2, c2, hc2, H⟩
    exact ⟨a2, _, c2, RoB a2 _ [], true, rfl, .of fun R h H => ⟨rfl, a2, c2, hc2, H⟩, H⟩
  · rw [if_neg h1, if_neg h2]
    exact ⟨rfl, a', c', hc', H⟩
def bytesR (s : List UInt8 × Bool) (most : Int) : List UInt8 × (List UInt8 × Bool) := takeR (toldR s most).2 (toldR s most).1
theorem rBytes_ok (b : Nat) (s : List UInt8 × Bool) (most : Int) : Tri Try.prog 101 #[.pointer (some ⟨b, 0, none⟩), .int .i64 most] (RRep b s)
    (fun v => HP.ex fun a => HP.ex fun c => HP.and (v = .slice a (bytesR s most).1.length c) (HP.sep (RRep b (bytesR s most).2) (OwB a (bytesR s most).1.length c (bytesR s most).1))) := by
  refine tri_of_tree (ρ := [.n b, .p (RRep b s), .i most]) mixed Try.func101 tree_rBytes ?_
  unfold t_rBytes
  simp only [T.den, E.prop, E.den, RX.look, F1.app, F2.app, Uni.int_i, Uni.nat_n, Uni.bool_c, Uni.str_s, Uni.adr_a, Uni.val_v, Uni.hp_p, hden, cden, V.den, W.den, A.den, BR.den, SA.den, FV.den, capV, exs, exP, allP, Cur.app, List.map_cons, List.map_nil, List.cons_append, List.nil_append, List.drop_succ_cons, List.drop_zero, List.length_cons, List.length_nil, Nat.zero_add, Nat.reduceAdd, Int.neg_neg, Bool.not_not, List.append_nil, Nat.add_zero, List.getElem?_cons_zero, List.getElem?_cons_succ, Decidable.not_not]
  refine (rTold_ok b s most).weak (fun _ _ h => h) ?_
  rintro v R h ⟨rfl, H⟩
  refine ⟨_, RRep b (toldR s most).2, rfl, ?_, H⟩
  refine (rTake_ok b _ _).weak (fun _ _ h => h) ?_
  rintro v R h ⟨a, c, rfl, H⟩
  have hlen : (bytesR s most).1.length ≤ 140737488355328 := by
    have h1 := takeR_len (toldR s most).2 (toldR s most).1
    have h2 : (toldR s most).1 < 256 ^ 4 := by
      have := numR_lt s 4
      unfold toldR; split
      · simp
      · split
        · simp
        · exact this
    have h3 : (256 : Nat) ^ 4 = 4294967296 := by decide
    unfold bytesR
    omega
  refine ⟨a, _, c, RoB a _ (bytesR s most).1, RRep b (bytesR s most).2, rfl, ?_, H⟩
  refine (clone8_ok _ a _ c (bytesR s most).1 (RdL.ro _ _ _ _) rfl hlen).weak (fun _ _ h => h) ?_
  rintro v R h ⟨a', c', rfl, H⟩
  exact ⟨a', _, c', OwB a' _ c' _, RoB a _ (bytesR s most).1, rfl, .of fun R h H => ⟨a', c', rfl, H⟩, H⟩
theorem rEnd_ok (b : Nat) (s : List UInt8 × Bool) : Tri Try.prog 102 #[.pointer (some ⟨b, 0, none⟩)] (RRep b s) (fun v => HP.and (v = .int .i64 (if s.2 = true ∨ s.1 ≠ [] then 3 else 0)) (RRep b s)) := by
  obtain ⟨l, w⟩ := s
  refine Tri.ex fun a => Tri.ex fun c => Tri.pure fun hc => ?_
  refine tri_of_tree (ρ := [.n b, .a a, .n l.length, .n c, .p (RoB a l.length l), .c w]) mixed Try.func102 tree_rEnd ?_
  unfold t_rEnd
  simp only [T.den, E.prop, E.den, RX.look, F1.app, F2.app, Uni.int_i, Uni.nat_n, Uni.bool_c, Uni.str_s, Uni.adr_a, Uni.val_v, Uni.hp_p, hden, cden, V.den, W.den, A.den, BR.den, SA.den, FV.den, capV, exs, exP, allP, Cur.app, List.map_cons, List.map_nil, List.cons_append, List.nil_append, List.drop_succ_cons, List.drop_zero, List.length_cons, List.length_nil, Nat.zero_add, Nat.reduceAdd, Int.neg_neg, Bool.not_not, List.append_nil, Nat.add_zero, List.getElem?_cons_zero, List.getElem?_cons_succ, Decidable.not_not]
  refine ⟨fun h1 => .of fun R h H => ⟨?_, a, c, hc, H⟩, fun h1 => ⟨fun h2 => .of fun R h H => ⟨?_, a, c, hc, H⟩, fun h2 => .of fun R h H => ⟨?_, a, c, hc, H⟩⟩⟩
  · rw [if_pos (.inl h1)]
  · rw [if_pos (.inr (fun e => by subst e; simp at h2))]
  · rw [if_neg (fun e => e.elim h1 fun e => h2 (by have := List.length_pos_iff.2 e; omega))]
theorem rRead_ok (a : Option Addr) (n c : Nat) (l : List UInt8) (S : HP) (hr : RdL S a n (l.map u8v)) (hl : l.length = n) (hb : n ≤ 140737488355328) :
    Tri Try.prog 98 #[.slice a n c] S (fun v => HP.ex fun b => HP.and (v = .pointer (some ⟨b, 0, none⟩)) (HP.sep S (RRep b (l, false)))) := by
  refine tri_of_tree (ρ := [.a a, .n n, .n c, .p S]) mixed Try.func98 tree_rRead ?_
  unfold t_rRead
  simp only [T.den, E.prop, E.den, RX.look, F1.app, F2.app, Uni.int_i, Uni.nat_n, Uni.bool_c, Uni.str_s, Uni.adr_a, Uni.val_v, Uni.hp_p, hden, cden, V.den, W.den, A.den, BR.den, SA.den, FV.den, capV, exs, exP, allP, Cur.app, List.map_cons, List.map_nil, List.cons_append, List.nil_append, List.drop_succ_cons, List.drop_zero, List.length_cons, List.length_nil, Nat.zero_add, Nat.reduceAdd, Int.neg_neg, Bool.not_not, List.append_nil, Nat.add_zero, List.getElem?_cons_zero, List.getElem?_cons_succ, Decidable.not_not]
  refine (clone8_ok S a n c l hr hl hb).weak (fun _ _ h => h) ?_
  rintro v R h ⟨a', c', rfl, H⟩
  refine ⟨a', _, c', OwB a' n c' l, S, rfl, fun x => ?_, H⟩
  subst hl
  rintro R h d H
  have hle := OwC.le (HP.sep_right (HP.sep_right H))
  refine ((HP.ent.sep2 (HP.ent.refl S) (HP.ent.sep2 (HP.ent.refl _) (OwC.share 5 1 a' l.length c' (l.map u8v)))).trans ?_) R h d H
  refine .of fun R h H => ⟨x, rfl, HP.sep_mono H (fun _ h => h) fun y hy => ?_⟩
  exact ⟨a', c', ⟨hle, hb⟩, hy⟩
end Go.Proofs.Ytmibmjehjagmbaa

/- Trees of functions, printed by rx.lean. No condition. -/
namespace Go.Proofs.Ytmibmjehjagmbaa.RX
set_option maxRecDepth 100000
-- tideline/device.New: ρ := [.i pages]
def t_dNew : T :=
(.br (.o2 .lt (.v 0) (.i 1))
 (.ret (.tup [(.a .nilp), (.a (.int .i64 (.i 2)))]) [])
 (.br (.o2 .lt (.i 65536) (.v 0))
  (.ret (.tup [(.a .nilp), (.a (.int .i64 (.i 2)))]) [])
  (.new
  (.ret (.tup [(.a (.ptr (.v 1) 0)), (.a (.int .i64 (.i 0)))]) [((.b (.v 1)), (.cells [(.int .i64 (.v 0)), (.sl .nil (.n 0) (.n 0)), (.int .i64 (.i 0))] 108))]))))
theorem tree_dNew : tree Try.prog { absT := [], opq := [], hv := [], keep := [], link := [], ent := [], turn := [], shr := [], vt := [], mkd := [], rlink := [], pty := [], outl := false, stay := [], snk := [] } Try.f23 [(.a (.int .i64 (.v 0)))] [] 1 = t_dNew := by kernel_rfl
-- (*tideline/device.Device).Free: ρ := [.n d, .i d_room, .a d_pagesa, .n d_pagesl, .n d_pagesc, .p d_pagesP, .i d_lasts]
def t_dFree : T :=
(.need (.o1 (.inr .i64) (.o2 .sub (.v 1) (.o1 .ofNat (.v 3))))
(.ret (.w (.a (.int .i64 (.o2 .sub (.v 1) (.o1 .ofNat (.v 3)))))) [((.b (.v 0)), (.cells [(.int .i64 (.v 1)), (.sl (.v 2) (.v 3) (.v 4)), (.int .i64 (.v 6))] 108)), ((.a 2), (.prop 5))]))
theorem tree_dFree : tree Try.prog { absT := [], opq := [], hv := [], keep := [], link := [], ent := [], turn := [], shr := [], vt := [], mkd := [], rlink := [], pty := [], outl := false, stay := [], snk := [] } Try.f86 [(.a (.ptr (.v 0) 0))] [((.b (.v 0)), (.cells [(.int .i64 (.v 1)), (.sl (.v 2) (.v 3) (.v 4)), (.int .i64 (.v 6))] 108)), ((.a 2), (.prop 5))] 7 = t_dFree := by kernel_rfl
-- (*tideline/device.Device).Append: ρ := [.n d, .i d_room, .a d_pagesa, .n d_pagesl, .n d_pagesc, .p d_pagesP, .i d_lasts, .a ba, .n bl, .n bc, .p bP]
def t_dAppend : T :=
(.call 86 [(.a (.ptr (.v 0) 0))] [((.b (.v 0)), (.cells [(.int .i64 (.v 1)), (.sl (.v 2) (.v 3) (.v 4)), (.int .i64 (.v 6))] 108)), ((.a 2), (.prop 5))] [.i] (.w (.a (.int .i64 (.v 11)))) [((.b (.v 0)), (.cells [(.int .i64 (.v 1)), (.sl (.v 2) (.v 3) (.v 4)), (.int .i64 (.v 6))] 108)), ((.a 2), (.prop 5))]
(.br (.o2 .eq (.v 11) (.i 0))
 (.ret (.w (.a (.int .i64 (.i 4)))) [((.b (.v 0)), (.cells [(.int .i64 (.v 1)), (.sl (.v 2) (.v 3) (.v 4)), (.int .i64 (.v 6))] 108)), ((.a 2), (.prop 5)), ((.a 7), (.prop 10))])
 (.call 72 [(.a (.sl (.v 7) (.v 8) (.v 9)))] [((.a 7), (.prop 10))] [.a, .n, .n, .p, .p] (.w (.a (.sl (.v 12) (.v 13) (.v 14)))) [((.a 12), (.prop 15)), ((.a 7), (.prop 16))]
 (.new
 (.op (.call ⟨.builtin .append, #[(.tmp 12), (.tmp 16)], #[106, 106]⟩) 106 [(12, (.w (.a (.sl (.v 2) (.v 3) (.v 4))))), (16, (.w (.a (.sl (.b (.v 17) 0) (.n 1) (.n 1)))))] [((.a 2), (.prop 5)), ((.b (.v 17)), (.cells [(.int .i64 (.i 1)), (.sl (.v 12) (.v 13) (.v 14))] 110)), ((.a 12), (.prop 15))] [.a, .n, .n, .p] (.w (.a (.sl (.v 18) (.v 19) (.v 20)))) [((.a 18), (.prop 21)), ((.b (.v 17)), (.cells [(.int .i64 (.i 1)), (.sl (.v 12) (.v 13) (.v 14))] 110)), ((.a 12), (.prop 15))]
 (.ret (.w (.a (.int .i64 (.i 0)))) [((.b (.v 0)), (.cells [(.int .i64 (.v 1)), (.sl (.v 18) (.v 19) (.v 20)), (.int .i64 (.v 6))] 108)), ((.a 18), (.prop 21)), ((.a 7), (.prop 16))]))))))
theorem tree_dAppend : tree Try.prog { absT := [], opq := [], hv := [], keep := [86], link := [], ent := [], turn := [], shr := [], vt := [], mkd := [], rlink := [], pty := [], outl := false, stay := [], snk := [] } Try.f35 [(.a (.ptr (.v 0) 0)), (.a (.sl (.v 7) (.v 8) (.v 9)))] [((.b (.v 0)), (.cells [(.int .i64 (.v 1)), (.sl (.v 2) (.v 3) (.v 4)), (.int .i64 (.v 6))] 108)), ((.a 2), (.prop 5)), ((.a 7), (.prop 10))] 11 = t_dAppend := by kernel_rfl
-- (*tideline/device.Device).Sync: ρ := [.n d, .i d_room, .a d_pagesa, .n d_pagesl, .n d_pagesc, .p d_pagesP, .i d_lasts]
def t_dSync : T :=
(.ret (.tup []) [((.b (.v 0)), (.cells [(.int .i64 (.v 1)), (.sl (.v 2) (.v 3) (.v 4)), (.int .i64 (.o1 .ofNat (.v 3)))] 108)), ((.a 2), (.prop 5))])
theorem tree_dSync : tree Try.prog { absT := [], opq := [], hv := [], keep := [], link := [], ent := [], turn := [], shr := [], vt := [], mkd := [], rlink := [], pty := [], outl := false, stay := [], snk := [] } Try.f58 [(.a (.ptr (.v 0) 0))] [((.b (.v 0)), (.cells [(.int .i64 (.v 1)), (.sl (.v 2) (.v 3) (.v 4)), (.int .i64 (.v 6))] 108)), ((.a 2), (.prop 5))] 7 = t_dSync := by kernel_rfl
-- slices.Clone[[]tideline/device.page,tideline/device.page]: ρ := [.a sa, .n sl, .n sc, .p sP]
def t_cloneP : T :=
(.br (.o1 .not (.o1 .isSome (.v 0)))
 (.ret (.w (.a (.sl .nil (.n 0) (.n 0)))) [((.a 0), (.prop 3))])
 (.new
 (.op (.call ⟨.builtin .append, #[(.tmp 5), (.tmp 6)], #[106, 106]⟩) 106 [(5, (.w (.a (.sl (.b (.v 4) 0) (.n 0) (.n 0))))), (6, (.w (.a (.sl (.v 0) (.v 1) (.v 2)))))] [((.b (.v 4)), (.cells [] 110)), ((.a 0), (.prop 3))] [.a, .n, .n, .p] (.w (.a (.sl (.v 5) (.v 6) (.v 7)))) [((.a 5), (.prop 8)), ((.a 0), (.prop 3))]
 (.ret (.w (.a (.sl (.v 5) (.v 6) (.v 7)))) [((.a 0), (.prop 3)), ((.a 5), (.prop 8))]))))
theorem tree_cloneP : tree Try.prog { absT := [], opq := [], hv := [], keep := [], link := [], ent := [], turn := [], shr := [], vt := [], mkd := [], rlink := [], pty := [], outl := false, stay := [], snk := [] } Try.f84 [(.a (.sl (.v 0) (.v 1) (.v 2)))] [((.a 0), (.prop 3))] 4 = t_cloneP := by kernel_rfl
-- (*tideline/device.Device).Twin: ρ := [.n d, .i d_room, .a d_pagesa, .n d_pagesl, .n d_pagesc, .p d_pagesP, .i d_lasts]
def t_dTwin : T :=
(.call 84 [(.a (.sl (.v 2) (.v 3) (.v 4)))] [((.a 2), (.prop 5))] [.a, .n, .n, .p, .p] (.w (.a (.sl (.v 7) (.v 8) (.v 9)))) [((.a 7), (.prop 10)), ((.a 2), (.prop 11))]
(.new
(.ret (.w (.a (.ptr (.v 12) 0))) [((.b (.v 0)), (.cells [(.int .i64 (.v 1)), (.sl (.v 2) (.v 3) (.v 4)), (.int .i64 (.v 6))] 108)), ((.a 2), (.prop 11)), ((.b (.v 12)), (.cells [(.int .i64 (.v 1)), (.sl (.v 7) (.v 8) (.v 9)), (.int .i64 (.o1 .ofNat (.v 3)))] 108)), ((.a 7), (.prop 10))])))
theorem tree_dTwin : tree Try.prog { absT := [], opq := [], hv := [], keep := [], link := [], ent := [], turn := [], shr := [], vt := [], mkd := [], rlink := [], pty := [], outl := false, stay := [], snk := [] } Try.f33 [(.a (.ptr (.v 0) 0))] [((.b (.v 0)), (.cells [(.int .i64 (.v 1)), (.sl (.v 2) (.v 3) (.v 4)), (.int .i64 (.v 6))] 108)), ((.a 2), (.prop 5))] 7 = t_dTwin := by kernel_rfl
-- (*tideline/device.Device).Crash: ρ := [.n d, .i d_room, .a d_pagesa, .n d_pagesl, .n d_pagesc, .p d_pagesP, .i d_lasts, .a picksa, .n picksl, .n picksc, .p picksP]
def t_dCrash : T :=
(.read (.slice 106 (.tmp 10) (some (.tmp 14)) none none) 106 [(10, (.w (.a (.sl (.v 2) (.v 3) (.v 4))))), (14, (.w (.a (.int .i64 (.v 6)))))] [((.a 2), (.prop 5))] [.a, .n, .n] (.w (.a (.sl (.v 11) (.v 12) (.v 13))))
(.loop [.i, .p] [(.e (.o1 .neg (.o1 .neg (.i 0)))), (.p [((.a 2), (.prop 5))])]
 (.br (.o2 .lt (.v 14) (.o1 .ofNat (.v 12)))
  (.br (.o2 .lt (.i 0) (.o1 .ofNat (.v 8)))
   (.need (.o1 .not (.o2 .eq (.o1 .ofNat (.v 8)) (.i 0)))
   (.need (.o2 .le (.i 0) (.o2 .rem (.v 14) (.o1 .ofNat (.v 8))))
   (.need (.o2 .lt (.o2 .rem (.v 14) (.o1 .ofNat (.v 8))) (.o1 .ofNat (.v 8)))
   (.need (.o1 .isSome (.v 7))
   (.read (.load 5 (.tmp 28)) 5 [(28, (.w (.a (.eptr 7 (.o2 .rem (.v 14) (.o1 .ofNat (.v 8))) 1 0))))] [((.a 7), (.prop 10))] [.i] (.w (.a (.int .u8 (.v 16))))
   (.br (.o2 .eq (.o2 .rem (.v 16) (.i 3)) (.i 0))
    (.need (.o1 (.inr .i64) (.o2 .add (.v 6) (.v 14)))
    (.need (.o2 .le (.i 0) (.o2 .add (.v 6) (.v 14)))
    (.need (.o2 .lt (.o2 .add (.v 6) (.v 14)) (.o1 .ofNat (.v 3)))
    (.need (.o1 .isSome (.v 2))
    (.op (.store 110 (.tmp 45) (.tmp 44)) 0 [(45, (.w (.a (.eptr 2 (.o2 .add (.v 6) (.v 14)) 2 0)))), (44, (.w (.agg [(.int .i64 (.i 0)), (.sl .nil (.n 0) (.n 0))])))] [((.a 2), (.prop 15))] [.p] (.tup []) [((.a 2), (.prop 17))]
    (.need (.o1 (.inr .i64) (.o2 .add (.v 14) (.i 1)))
    (.again 0 [(.e (.o1 .neg (.o1 .neg (.o2 .add (.v 14) (.i 1))))), (.p [((.a 2), (.prop 17))])])))))))
    (.br (.o2 .eq (.o2 .rem (.v 16) (.i 3)) (.i 2))
     (.need (.o1 (.inr .i64) (.o2 .add (.v 6) (.v 14)))
     (.need (.o2 .le (.i 0) (.o2 .add (.v 6) (.v 14)))
     (.need (.o2 .lt (.o2 .add (.v 6) (.v 14)) (.o1 .ofNat (.v 3)))
     (.need (.o1 .isSome (.v 2))
     (.op (.store 110 (.tmp 59) (.tmp 58)) 0 [(59, (.w (.a (.eptr 2 (.o2 .add (.v 6) (.v 14)) 2 0)))), (58, (.w (.agg [(.int .i64 (.i 2)), (.sl .nil (.n 0) (.n 0))])))] [((.a 2), (.prop 15))] [.p] (.tup []) [((.a 2), (.prop 17))]
     (.need (.o1 (.inr .i64) (.o2 .add (.v 14) (.i 1)))
     (.again 0 [(.e (.o1 .neg (.o1 .neg (.o2 .add (.v 14) (.i 1))))), (.p [((.a 2), (.prop 17))])])))))))
     (.need (.o1 (.inr .i64) (.o2 .add (.v 14) (.i 1)))
     (.again 0 [(.e (.o1 .neg (.o1 .neg (.o2 .add (.v 14) (.i 1))))), (.p [((.a 2), (.prop 15))])])))))))))
   (.need (.o1 (.inr .i64) (.o2 .add (.v 6) (.v 14)))
   (.need (.o2 .le (.i 0) (.o2 .add (.v 6) (.v 14)))
   (.need (.o2 .lt (.o2 .add (.v 6) (.v 14)) (.o1 .ofNat (.v 3)))
   (.need (.o1 .isSome (.v 2))
   (.op (.store 110 (.tmp 45) (.tmp 44)) 0 [(45, (.w (.a (.eptr 2 (.o2 .add (.v 6) (.v 14)) 2 0)))), (44, (.w (.agg [(.int .i64 (.i 0)), (.sl .nil (.n 0) (.n 0))])))] [((.a 2), (.prop 15))] [.p] (.tup []) [((.a 2), (.prop 16))]
   (.need (.o1 (.inr .i64) (.o2 .add (.v 14) (.i 1)))
   (.again 0 [(.e (.o1 .neg (.o1 .neg (.o2 .add (.v 14) (.i 1))))), (.p [((.a 2), (.prop 16))])]))))))))
  (.loop [.i] [(.e (.o1 .neg (.o1 .neg (.o1 .ofNat (.v 3)))))]
   (.br (.o2 .lt (.i 0) (.v 16))
    (.need (.o1 (.inr .i64) (.o2 .sub (.v 16) (.i 1)))
    (.need (.o2 .le (.i 0) (.o2 .sub (.v 16) (.i 1)))
    (.need (.o2 .lt (.o2 .sub (.v 16) (.i 1)) (.o1 .ofNat (.v 3)))
    (.need (.o1 .isSome (.v 2))
    (.read (.load 3 (.tmp 76)) 3 [(76, (.w (.a (.eptr 2 (.o2 .sub (.v 16) (.i 1)) 2 0))))] [((.a 2), (.prop 15))] [.i] (.w (.a (.int .i64 (.v 17))))
    (.br (.o2 .eq (.v 17) (.i 0))
     (.again 0 [(.e (.o1 .neg (.o1 .neg (.o2 .sub (.v 16) (.i 1)))))])
     (.read (.slice 106 (.tmp 86) none (some (.tmp 87)) none) 106 [(86, (.w (.a (.sl (.v 2) (.v 3) (.v 4))))), (87, (.w (.a (.int .i64 (.v 16)))))] [((.a 2), (.prop 15))] [.a, .n, .n] (.w (.a (.sl (.v 18) (.v 19) (.v 20))))
     (.call 58 [(.a (.ptr (.v 0) 0))] [((.b (.v 0)), (.cells [(.int .i64 (.v 1)), (.sl (.v 18) (.v 19) (.v 20)), (.int .i64 (.v 6))] 108)), ((.a 2), (.prop 15))] [.i, .a, .n, .n, .p, .i] (.tup []) [((.b (.v 0)), (.cells [(.int .i64 (.v 21)), (.sl (.v 22) (.v 23) (.v 24)), (.int .i64 (.v 26))] 108)), ((.a 22), (.prop 25))]
     (.ret (.tup []) [((.b (.v 0)), (.cells [(.int .i64 (.v 21)), (.sl (.v 22) (.v 23) (.v 24)), (.int .i64 (.v 26))] 108)), ((.a 22), (.prop 25)), ((.a 7), (.prop 10))])))))))))
    (.read (.slice 106 (.tmp 86) none (some (.tmp 87)) none) 106 [(86, (.w (.a (.sl (.v 2) (.v 3) (.v 4))))), (87, (.w (.a (.int .i64 (.v 16)))))] [((.a 2), (.prop 15))] [.a, .n, .n] (.w (.a (.sl (.v 17) (.v 18) (.v 19))))
    (.call 58 [(.a (.ptr (.v 0) 0))] [((.b (.v 0)), (.cells [(.int .i64 (.v 1)), (.sl (.v 17) (.v 18) (.v 19)), (.int .i64 (.v 6))] 108)), ((.a 2), (.prop 15))] [.i, .a, .n, .n, .p, .i] (.tup []) [((.b (.v 0)), (.cells [(.int .i64 (.v 20)), (.sl (.v 21) (.v 22) (.v 23)), (.int .i64 (.v 25))] 108)), ((.a 21), (.prop 24))]
    (.ret (.tup []) [((.b (.v 0)), (.cells [(.int .i64 (.v 20)), (.sl (.v 21) (.v 22) (.v 23)), (.int .i64 (.v 25))] 108)), ((.a 21), (.prop 24)), ((.a 7), (.prop 10))]))))))))
theorem tree_dCrash : tree Try.prog { absT := [], opq := [], hv := [(0, [(.a 2)])], keep := [], link := [], ent := [], turn := [], shr := [], vt := [], mkd := [], rlink := [], pty := [], outl := false, stay := [], snk := [] } Try.f16 [(.a (.ptr (.v 0) 0)), (.a (.sl (.v 7) (.v 8) (.v 9)))] [((.b (.v 0)), (.cells [(.int .i64 (.v 1)), (.sl (.v 2) (.v 3) (.v 4)), (.int .i64 (.v 6))] 108)), ((.a 2), (.prop 5)), ((.a 7), (.prop 10))] 11 = t_dCrash := by kernel_rfl
-- (*tideline/device.Device).whole: ρ := [.n d, .p dP]
def t_dWhole : T :=
(.new
(.ret (.w (.a (.func 118 [((.v 2), 0)]))) [((.b (.v 0)), (.prop 1)), ((.b (.v 2)), (.cells [(.ptr (.v 0) 0)] 25))]))
theorem tree_dWhole : tree Try.prog { absT := [], opq := [], hv := [], keep := [], link := [], ent := [], turn := [], shr := [], vt := [], mkd := [], rlink := [], pty := [], outl := false, stay := [], snk := [] } Try.f85 [(.a (.ptr (.v 0) 0))] [((.b (.v 0)), (.prop 1))] 2 = t_dWhole := by kernel_rfl
-- (*tideline/device.Device).whole$1: ρ := [.v yield, .p yieldP, .n d, .n d, .i d_room, .a d_pagesa, .n d_pagesl, .n d_pagesc, .p d_pagesP, .i d_lasts]
def t_dWhole1 : T :=
(.loop [.i, .p] [(.e (.o1 .neg (.o1 .neg (.i 0)))), (.p [((.a 0), (.prop 1))])]
 (.br (.o2 .lt (.v 10) (.o1 .ofNat (.v 6)))
  (.need (.o2 .le (.i 0) (.v 10))
  (.need (.o1 .isSome (.v 5))
  (.read (.load 110 (.tmp 12)) 110 [(12, (.w (.a (.eptr 5 (.v 10) 2 0))))] [((.a 5), (.prop 8))] [.i, .a, .n, .n] (.w (.agg [(.int .i64 (.v 12)), (.sl (.v 13) (.v 14) (.v 15))]))
  (.new
  (.br (.o2 .eq (.v 12) (.i 1))
   (.callv 0 [(.a (.sl (.v 13) (.v 14) (.v 15)))] [((.a 0), (.prop 11)), ((.a 5), (.prop 8))] [.c, .p] (.w (.a (.bool (.v 17)))) [((.a 0), (.prop 18)), ((.a 5), (.prop 8))]
   (.br (.o1 .not (.v 17))
    (.ret (.tup []) [((.a 0), (.prop 18)), ((.b (.v 2)), (.cells [(.ptr (.v 3) 0)] 25)), ((.b (.v 3)), (.cells [(.int .i64 (.v 4)), (.sl (.v 5) (.v 6) (.v 7)), (.int .i64 (.v 9))] 108)), ((.a 5), (.prop 8))])
    (.need (.o1 (.inr .i64) (.o2 .add (.v 10) (.i 1)))
    (.again 0 [(.e (.o1 .neg (.o1 .neg (.o2 .add (.v 10) (.i 1))))), (.p [((.a 0), (.prop 18))])]))))
   (.need (.o1 (.inr .i64) (.o2 .add (.v 10) (.i 1)))
   (.again 0 [(.e (.o1 .neg (.o1 .neg (.o2 .add (.v 10) (.i 1))))), (.p [((.a 0), (.prop 11))])])))))))
  (.ret (.tup []) [((.a 0), (.prop 11)), ((.b (.v 2)), (.cells [(.ptr (.v 3) 0)] 25)), ((.b (.v 3)), (.cells [(.int .i64 (.v 4)), (.sl (.v 5) (.v 6) (.v 7)), (.int .i64 (.v 9))] 108)), ((.a 5), (.prop 8))])))
theorem tree_dWhole1 : tree Try.prog { absT := [], opq := [], hv := [(0, [(.a 0)])], keep := [], link := [], ent := [], turn := [], shr := [], vt := [], mkd := [], rlink := [], pty := [], outl := false, stay := [], snk := [] } Try.f118 [(.a (.val 0)), (.a (.ptr (.v 2) 0))] [((.a 0), (.prop 1)), ((.b (.v 2)), (.cells [(.ptr (.v 3) 0)] 25)), ((.b (.v 3)), (.cells [(.int .i64 (.v 4)), (.sl (.v 5) (.v 6) (.v 7)), (.int .i64 (.v 9))] 108)), ((.a 5), (.prop 8))] 10 = t_dWhole1 := by kernel_rfl
-- (*tideline/device.Device).Pages: ρ := [.n d, .p dP]
def t_dPages : T :=
(.new
(.call 85 [(.a (.ptr (.v 0) 0))] [((.b (.v 0)), (.prop 1))] [.v, .p] (.w (.a (.val 3))) [((.a 3), (.prop 4)), ((.b (.v 0)), (.prop 1))]
(.new
(.rangef (.val 3) [((.a 3), (.prop 4)), ((.b (.v 0)), (.prop 1))] [] [.a, .n, .n, .p] [(.a .nil), (.e (.o2 .nadd (.n 0) (.n 0))), (.e (.o2 .nadd (.n 0) (.n 0))), (.p [])] [.a, .n, .n, .p] [(.a (.sl (.v 10) (.v 11) (.v 12)))] [((.a 10), (.prop 13))]
 (.call 72 [(.a (.sl (.v 10) (.v 11) (.v 12)))] [((.a 10), (.prop 13))] [.a, .n, .n, .p, .p] (.w (.a (.sl (.v 14) (.v 15) (.v 16)))) [((.a 14), (.prop 17)), ((.a 10), (.prop 18))]
 (.new
 (.op (.call ⟨.builtin .append, #[(.tmp 8), (.tmp 11)], #[72, 72]⟩) 72 [(8, (.w (.a (.sl (.v 6) (.v 7) (.v 8))))), (11, (.w (.a (.sl (.b (.v 19) 0) (.n 1) (.n 1)))))] [((.a 6), (.prop 9)), ((.b (.v 19)), (.cells [(.sl (.v 14) (.v 15) (.v 16))] 30)), ((.a 14), (.prop 17))] [.a, .n, .n, .p] (.w (.a (.sl (.v 20) (.v 21) (.v 22)))) [((.a 20), (.prop 23)), ((.b (.v 19)), (.cells [(.sl (.v 14) (.v 15) (.v 16))] 30)), ((.a 14), (.prop 17))]
 (.again 0 [(.a (.v 20)), (.e (.o2 .nadd (.v 21) (.n 0))), (.e (.o2 .nadd (.v 22) (.n 0))), (.p [((.a 20), (.prop 23))])]))))
 (.ret (.w (.a (.sl (.v 6) (.v 7) (.v 8)))) [((.b (.v 0)), (.prop 1)), ((.a 6), (.prop 9))])))))
theorem tree_dPages : tree Try.prog { absT := [], opq := [], hv := [(0, [(.b (.v 2))])], keep := [85], link := [(85, 0)], ent := [], turn := [], shr := [], vt := [], mkd := [], rlink := [], pty := [(0, [30])], outl := false, stay := [], snk := [] } Try.f34 [(.a (.ptr (.v 0) 0))] [((.b (.v 0)), (.prop 1))] 2 = t_dPages := by kernel_rfl
end Go.Proofs.Ytmibmjehjagmbaa.RX

/- Contracts of the device. No condition. -/
namespace Go.Proofs.Ytmibmjehjagmbaa
set_option linter.unusedSimpArgs false
set_option linter.unusedVariables false
open Go.Proofs.Ytmibmjehjagmbaa RX

/-- A page: what it is (0 empty, 1 whole, 2 torn), and its bytes. -/
structure Pg where
  is : Int
  data : List UInt8
structure PgRec where
  is : Int
  a : Option Addr
  n : Nat
  c : Nat
def PgRec.vals (x : PgRec) : List Value := [.int .i64 x.is, .slice x.a x.n x.c]
def pgCells (xs : List PgRec) : List Value := xs.flatMap PgRec.vals
/-- The bytes of the pages never turn. -/
def AllD : List PgRec → List Pg → HP
  | [], [] => HP.tt
  | x :: xs, p :: ps => HP.and (x.is = p.is ∧ x.n = p.data.length ∧ p.data.length ≤ 140737488355328) (HP.sep (RoB x.a x.n p.data) (AllD xs ps))
  | _, _ => HP.pure False
theorem AllD.any {R : PH} : ∀ {xs : List PgRec} {ps : List Pg} {h h' : PH}, (AllD xs ps).p R h → (AllD xs ps).p R h'
  | [], [], _, _, _ => trivial
  | _ :: _, _ :: _, _, h', ⟨q, H⟩ => ⟨q, RoC.join (HP.sep_left H) (AllD.any (h' := h') (HP.sep_right H))⟩
  | [], _ :: _, _, _, H => H
  | _ :: _, [], _, _, H => H
theorem AllD.len {R h : PH} : ∀ {xs : List PgRec} {ps : List Pg}, (AllD xs ps).p R h → xs.length = ps.length
  | [], [], _ => rfl
  | x :: xs, p :: ps, ⟨_, H⟩ => by simp [AllD.len (HP.sep_right H)]
  | [], _ :: _, H => H.elim
  | _ :: _, [], H => H.elim
theorem AllD.snoc {R h : PH} {x : PgRec} {p : Pg} (hx : x.is = p.is ∧ x.n = p.data.length ∧ p.data.length ≤ 140737488355328) (hr : (RoB x.a x.n p.data).p R h) : ∀ {xs : List PgRec} {ps : List Pg}, (AllD xs ps).p R h → (AllD (xs ++ [x]) (ps ++ [p])).p R h
  | [], [], _ => ⟨hx, RoC.join hr (trivial : HP.tt.p R h)⟩
  | _ :: _, _ :: _, ⟨q, H⟩ => ⟨q, RoC.join (HP.sep_left H) (AllD.snoc hx hr (HP.sep_right H) |> AllD.any (h' := h))⟩
  | [], _ :: _, H => H.elim
  | _ :: _, [], H => H.elim
theorem AllD.get {R h : PH} : ∀ {xs : List PgRec} {ps : List Pg} (i : Nat) {p : Pg}, (AllD xs ps).p R h → ps[i]? = some p → ∃ x, xs[i]? = some x ∧ x.is = p.is ∧ x.n = p.data.length ∧ (RoB x.a x.n p.data).p R h
  | [], [], i, p, _, hp => by simp at hp
  | x :: xs, q :: ps, 0, p, ⟨h1, H⟩, hp => by simp at hp; subst hp; exact ⟨x, rfl, h1.1, h1.2.1, HP.sep_left H⟩
  | x :: xs, q :: ps, i + 1, p, ⟨h1, H⟩, hp => by
    obtain ⟨y, q1, q2, q3, q4⟩ := AllD.get (h := h) i (AllD.any (HP.sep_right H)) (by simpa using hp)
    exact ⟨y, by simpa using q1, q2, q3, q4⟩
  | [], _ :: _, _, _, H, _ => H.elim
  | _ :: _, [], _, _, H, _ => H.elim
theorem pgCells_len (xs : List PgRec) : (pgCells xs).length = xs.length * 2 := by
  induction xs with
  | nil => rfl
  | cons x r ih => simp only [pgCells, List.flatMap_cons, List.length_append, List.length_cons] at ih ⊢; rw [ih]; simp [PgRec.vals]; omega

def DInv (room : Int) (ps : List Pg) (lasts : Nat) : Prop := 0 ≤ room ∧ room ≤ 65536 ∧ (ps.length : Int) ≤ room ∧ lasts ≤ ps.length
def DRep (b : Nat) (room : Int) (ps : List Pg) (lasts : Nat) : HP := HP.ex fun a => HP.ex fun c => HP.ex fun xs => HP.and (DInv room ps lasts ∧ xs.length = ps.length) (HP.sep (HP.one b (.cells #[.int .i64 room, .slice a ps.length c, .int .i64 lasts] 108)) (HP.sep (OwC 110 2 a ps.length c (pgCells xs)) (AllD xs ps)))
/-- .. as the code has it: one part for the pages. -/
theorem DRep.tri {f : FuncId} {args : Array Value} {b : Nat} {room : Int} {ps : List Pg} {lasts : Nat} {B : Value → HP}
    (t : ∀ a c xs, DInv room ps lasts → xs.length = ps.length → Tri Try.prog f args (HP.sep (HP.one b (.cells #[.int .i64 room, .slice a ps.length c, .int .i64 lasts] 108)) (HP.sep (OwC 110 2 a ps.length c (pgCells xs)) (AllD xs ps))) B) :
    Tri Try.prog f args (DRep b room ps lasts) B := Tri.ex fun a => Tri.ex fun c => Tri.ex fun xs => Tri.pure fun h => t a c xs h.1 h.2
theorem dFree_ok (b : Nat) (room : Int) (a : Option Addr) (n c : Nat) (S : HP) (lasts : Int) (h1 : -100000 ≤ room - n) (h2 : room - n ≤ 100000) :
    Tri Try.prog 86 #[.pointer (some ⟨b, 0, none⟩)] (HP.sep (HP.one b (.cells #[.int .i64 room, .slice a n c, .int .i64 lasts] 108)) S)
      (fun v => HP.and (v = .int .i64 (room - n)) (HP.sep (HP.one b (.cells #[.int .i64 room, .slice a n c, .int .i64 lasts] 108)) S)) := by
  refine tri_of_tree (ρ := [.n b, .i room, .a a, .n n, .n c, .p S, .i lasts]) mixed Try.func86 tree_dFree ?_
  unfold t_dFree
  simp only [T.den, E.prop, E.den, RX.look, F1.app, F2.app, Uni.int_i, Uni.nat_n, Uni.bool_c, Uni.str_s, Uni.adr_a, Uni.val_v, Uni.hp_p, hden, cden, V.den, W.den, A.den, BR.den, SA.den, FV.den, capV, exs, exP, allP, Cur.app, List.map_cons, List.map_nil, List.cons_append, List.nil_append, List.drop_succ_cons, List.drop_zero, List.length_cons, List.length_nil, Nat.zero_add, Nat.reduceAdd, Int.neg_neg, Bool.not_not, List.append_nil, Nat.add_zero, List.getElem?_cons_zero, List.getElem?_cons_succ, Decidable.not_not]
  exact ⟨inI64 _ (by omega) (by omega), fun _ => .of fun _ _ H => ⟨trivial, H⟩⟩
theorem dNew_ok (n : Int) (h1 : 1 ≤ n) (h2 : n ≤ 65536) : Tri Try.prog 23 #[.int .i64 n] HP.tt (fun v => HP.ex fun b => HP.and (v = .tuple #[.pointer (some ⟨b, 0, none⟩), .int .i64 0]) (DRep b n [] 0)) := by
  refine tri_of_tree (ρ := [.i n]) mixed Try.func23 tree_dNew ?_
  unfold t_dNew
  simp only [T.den, E.prop, E.den, RX.look, F1.app, F2.app, Uni.int_i, Uni.nat_n, Uni.bool_c, Uni.str_s, Uni.adr_a, Uni.val_v, Uni.hp_p, hden, cden, V.den, W.den, A.den, BR.den, SA.den, FV.den, capV, exs, exP, allP, Cur.app, List.map_cons, List.map_nil, List.cons_append, List.nil_append, List.drop_succ_cons, List.drop_zero, List.length_cons, List.length_nil, Nat.zero_add, Nat.reduceAdd, Int.neg_neg, Bool.not_not, List.append_nil, Nat.add_zero, List.getElem?_cons_zero, List.getElem?_cons_succ, Decidable.not_not]
  refine ⟨fun h => absurd h (by omega), fun _ => ⟨fun h => absurd h (by omega), fun _ x => .of fun R h H => ?_⟩⟩
  exact ⟨x, rfl, none, 0, [], ⟨⟨by omega, by omega, by simp; omega, by simp⟩, rfl⟩, HP.sep_mono (HP.sep_tt H) (fun _ h => h) fun y _ => HP.sep_tt (OwC.nil _ _ R y)⟩
theorem dSyncRaw_ok (b : Nat) (room : Int) (a : Option Addr) (n c : Nat) (lasts : Int) (S : HP) : Tri Try.prog 58 #[.pointer (some ⟨b, 0, none⟩)] (HP.sep (HP.one b (.cells #[.int .i64 room, .slice a n c, .int .i64 lasts] 108)) S)
    (fun v => HP.and (v = .tuple #[]) (HP.sep (HP.one b (.cells #[.int .i64 room, .slice a n c, .int .i64 n] 108)) S)) := by
  refine tri_of_tree (ρ := [.n b, .i room, .a a, .n n, .n c, .p S, .i lasts]) mixed Try.func58 tree_dSync ?_
  unfold t_dSync
  simp only [T.den, E.prop, E.den, RX.look, F1.app, F2.app, Uni.int_i, Uni.nat_n, Uni.bool_c, Uni.str_s, Uni.adr_a, Uni.val_v, Uni.hp_p, hden, cden, V.den, W.den, A.den, BR.den, SA.den, FV.den, capV, exs, exP, allP, Cur.app, List.map_cons, List.map_nil, List.cons_append, List.nil_append, List.drop_succ_cons, List.drop_zero, List.length_cons, List.length_nil, Nat.zero_add, Nat.reduceAdd, Int.neg_neg, Bool.not_not, List.append_nil, Nat.add_zero, List.getElem?_cons_zero, List.getElem?_cons_succ, Decidable.not_not]
  exact .of fun R h H => ⟨trivial, H⟩
theorem dSync_ok (b : Nat) (room : Int) (ps : List Pg) (lasts : Nat) : Tri Try.prog 58 #[.pointer (some ⟨b, 0, none⟩)] (DRep b room ps lasts) (fun v => HP.and (v = .tuple #[]) (DRep b room ps ps.length)) :=
  DRep.tri fun a c xs hI hx => (dSyncRaw_ok b room a ps.length c lasts _).weak (fun _ _ h => h) fun v R h ⟨e, H⟩ => ⟨e, a, c, xs, ⟨⟨hI.1, hI.2.1, hI.2.2.1, Nat.le_refl _⟩, hx⟩, H⟩
theorem infoP : (Try.prog.info? 110).map (fun i => (i.zero, i.size, i.bytes)) = some (some (.agg #[.int .i64 0, .slice none 0 0]), 2, 32) := by kernel_rfl
theorem undP : Try.prog.underlying 106 = some (.slice 110) := by kernel_rfl
theorem pgCells_one (xs : List PgRec) : ∀ u ∈ pgCells xs, u.oneCell' = true := fun u hu => by
  obtain ⟨x, _, hx⟩ := List.mem_flatMap.1 hu
  simp only [PgRec.vals, List.mem_cons, List.not_mem_nil, or_false] at hx
  rcases hx with rfl | rfl <;> rfl
/-- Write a page behind the others. -/
def putPg (room : Int) (ps : List Pg) (p : Pg) : Int × List Pg := if room = ps.length then (4, ps) else (0, ps ++ [p])
theorem dAppend_ok (b : Nat) (room : Int) (ps : List Pg) (lasts : Nat) (a : Option Addr) (n c : Nat) (l : List UInt8) (S : HP) (hr : RdL S a n (l.map u8v)) (hl : l.length = n) (hb : n ≤ 140737488355328) :
    Tri Try.prog 35 #[.pointer (some ⟨b, 0, none⟩), .slice a n c] (HP.sep (DRep b room ps lasts) S) (fun v => HP.and (v = .int .i64 (putPg room ps ⟨1, l⟩).1) (HP.sep (DRep b room (putPg room ps ⟨1, l⟩).2 lasts) S)) := by
  refine (Tri.ex (A := fun da => HP.ex fun dc => HP.ex fun xs => HP.and (DInv room ps lasts ∧ xs.length = ps.length) (HP.sep (HP.one b (.cells #[.int .i64 room, .slice da ps.length dc, .int .i64 lasts] 108)) (HP.sep (HP.sep (OwC 110 2 da ps.length dc (pgCells xs)) (AllD xs ps)) S)))
    fun da => Tri.ex fun dc => Tri.ex fun xs => Tri.pure fun hI => ?_).weak (fun R h ⟨h1, h2, d, l1, l2, ⟨da, dc, xs, hI, H⟩, hS⟩ => ⟨da, dc, xs, hI, HP.sep_assoc ⟨h1, h2, d, l1, l2, H, hS⟩⟩) fun _ _ _ h => h
  obtain ⟨⟨i1, i2, i3, i4⟩, hxl⟩ := hI
  refine tri_of_tree (ρ := [.n b, .i room, .a da, .n ps.length, .n dc, .p (HP.sep (OwC 110 2 da ps.length dc (pgCells xs)) (AllD xs ps)), .i lasts, .a a, .n n, .n c, .p S]) mixed Try.func35 tree_dAppend ?_
  unfold t_dAppend
  simp only [T.den, E.prop, E.den, RX.look, F1.app, F2.app, Uni.int_i, Uni.nat_n, Uni.bool_c, Uni.str_s, Uni.adr_a, Uni.val_v, Uni.hp_p, hden, cden, V.den, W.den, A.den, BR.den, SA.den, FV.den, capV, exs, exP, allP, Cur.app, List.map_cons, List.map_nil, List.cons_append, List.nil_append, List.drop_succ_cons, List.drop_zero, List.length_cons, List.length_nil, Nat.zero_add, Nat.reduceAdd, Int.neg_neg, Bool.not_not, List.append_nil, Nat.add_zero, List.getElem?_cons_zero, List.getElem?_cons_succ, Decidable.not_not]
  refine (dFree_ok b room da ps.length dc _ lasts (by omega) (by omega)).weak (fun _ _ h => h) ?_
  rintro v R h ⟨rfl, H⟩
  refine ⟨_, rfl, ⟨fun hz => .of fun R h H => ?_, fun hz => ?_⟩, H⟩
  · have e : putPg room ps ⟨1, l⟩ = (4, ps) := if_pos (by omega)
    rw [e]
    exact ⟨rfl, HP.sep_mono (HP.sep_assoc' H) (fun y hy => ⟨da, dc, xs, ⟨⟨i1, i2, i3, i4⟩, hxl⟩, hy⟩) fun _ h => h⟩
  · have e : putPg room ps ⟨1, l⟩ = (0, ps ++ [⟨1, l⟩]) := if_neg (by omega)
    rw [e]
    refine (cloneR_ok S a n c l hr hl hb).weak (fun _ _ h => h) ?_
    rintro v R h ⟨a', c', rfl, H⟩
    refine ⟨a', n, c', RoB a' n l, S, rfl, fun y => ?_, H⟩
    rw [semOf_append (by decide)]
    simp only [T.den, E.prop, E.den, RX.look, F1.app, F2.app, Uni.int_i, Uni.nat_n, Uni.bool_c, Uni.str_s, Uni.adr_a, Uni.val_v, Uni.hp_p, hden, cden, V.den, W.den, A.den, BR.den, SA.den, FV.den, capV, exs, exP, allP, Cur.app, List.map_cons, List.map_nil, List.cons_append, List.nil_append, List.drop_succ_cons, List.drop_zero, List.length_cons, List.length_nil, Nat.zero_add, Nat.reduceAdd, Int.neg_neg, Bool.not_not, List.append_nil, Nat.add_zero, List.getElem?_cons_zero, List.getElem?_cons_succ, Decidable.not_not]
    obtain ⟨i, hi, z1, z2, z3⟩ := info_parts infoP
    have happ := append_ok 106 106 110 i _ undP hi z1 (by rw [z2]; rfl) (by omega) da ps.length dc (pgCells xs) (HP.sep (AllD xs ps) (HP.sep (HP.one y (.cells #[.int .i64 1, .slice a' n c'] 110)) (RoB a' n l))) ⟨y, 0, none⟩ 1 1 (PgRec.vals ⟨1, a', n, c'⟩) ((one_rd y _ _).left.right) (by rw [z2]; rfl) (fun u hu => pgCells_one [⟨1, a', n, c'⟩] u (by simpa [pgCells] using hu)) (by unfold maxLen; omega) (by rw [z3]; omega)
    rw [z2] at happ
    refine happ.weak (fun R h H => HP.sep_assoc H) ?_
    rintro v R h ⟨a2, c2, rfl, H⟩
    have hcells : pgCells xs ++ PgRec.vals ⟨1, a', n, c'⟩ = pgCells (xs ++ [⟨1, a', n, c'⟩]) := by simp [pgCells]
    rw [hcells] at H
    refine ⟨a2, _, c2, HP.sep (OwC 110 2 a2 (ps.length + 1) c2 (pgCells (xs ++ [⟨1, a', n, c'⟩]))) (AllD (xs ++ [⟨1, a', n, c'⟩]) (ps ++ [⟨1, l⟩])), rfl, .of fun R h H => ⟨trivial, ?_⟩, ?_⟩
    · have hlen : ps.length + 1 = (ps ++ [(⟨1, l⟩ : Pg)]).length := by simp
      rw [hlen] at H
      refine HP.sep_mono (HP.sep_assoc' H) (fun y hy => ⟨a2, c2, _, ⟨⟨i1, i2, by simp; omega, by simp; omega⟩, by simp [hxl]⟩, hy⟩) fun _ h => h
    · have hall := HP.sep_left (HP.sep_right H)
      have hro := HP.sep_right (HP.sep_right (HP.sep_right H))
      have hnew : ∀ z, (AllD (xs ++ [⟨1, a', n, c'⟩]) (ps ++ [⟨1, l⟩])).p R z := fun z => AllD.any (AllD.snoc (x := ⟨1, a', n, c'⟩) (p := ⟨1, l⟩) ⟨rfl, hl.symm, by simp only; omega⟩ hro hall)
      refine HP.sep_mono H (fun z hz => HP.sep_mono (HP.sep_tt hz) (fun _ h => h) fun z _ => hnew z) fun z hz => HP.sep_right hz
theorem AllD.set {R h : PH} {x : PgRec} {p : Pg} (hx : x.is = p.is ∧ x.n = p.data.length ∧ p.data.length ≤ 140737488355328) (hr : (RoB x.a x.n p.data).p R h) : ∀ {xs : List PgRec} {ps : List Pg} (j : Nat), (AllD xs ps).p R h → (AllD (xs.set j x) (ps.set j p)).p R h
  | [], [], _, _ => trivial
  | _ :: _, _ :: _, 0, ⟨_, H⟩ => ⟨hx, RoC.join hr (HP.sep_right H)⟩
  | _ :: _, _ :: _, j + 1, ⟨q, H⟩ => ⟨q, RoC.join (HP.sep_left H) (AllD.set hx hr j (HP.sep_right H))⟩
  | [], _ :: _, _, H => H.elim
  | _ :: _, [], _, H => H.elim
theorem pgCells_set (x : PgRec) : ∀ (xs : List PgRec) (j : Nat), j < xs.length → (pgCells xs).take (j * 2) ++ x.vals ++ (pgCells xs).drop (j * 2 + 2) = pgCells (xs.set j x)
  | [], j, h => by simp at h
  | y :: r, 0, _ => by simp [pgCells, PgRec.vals]
  | y :: r, j + 1, h => by
    have ih := pgCells_set x r j (by simpa using h)
    simp only [pgCells, List.flatMap_cons, List.set_cons_succ] at ih ⊢
    rw [← ih]
    have e1 : (j + 1) * 2 = j * 2 + 2 := by omega
    rw [e1]
    simp [PgRec.vals]
theorem pgCells_get (xs : List PgRec) : ∀ (j : Nat) (x : PgRec), xs[j]? = some x → (pgCells xs)[j * 2]? = some (.int .i64 x.is) ∧ (pgCells xs)[j * 2 + 1]? = some (.slice x.a x.n x.c) := by
  induction xs with
  | nil => intro j x h; simp at h
  | cons y r ih =>
    intro j x h
    cases j with
    | zero => simp at h; subst h; simp [pgCells, PgRec.vals]
    | succ j =>
      obtain ⟨h1, h2⟩ := ih j x (by simpa using h)
      simp only [pgCells, List.flatMap_cons] at h1 h2 ⊢
      have e1 : (j + 1) * 2 = j * 2 + 2 := by omega
      rw [e1]
      exact ⟨by simpa [PgRec.vals] using h1, by simpa [PgRec.vals] using h2⟩
theorem AllD.take {R h : PH} : ∀ {xs : List PgRec} {ps : List Pg} (n : Nat), (AllD xs ps).p R h → (AllD (xs.take n) (ps.take n)).p R h
  | [], [], n, _ => by simp; trivial
  | _ :: _, _ :: _, 0, _ => trivial
  | _ :: _, _ :: _, n + 1, ⟨q, H⟩ => ⟨q, RoC.join (HP.sep_left H) (AllD.take n (HP.sep_right H))⟩
  | [], _ :: _, _, H => H.elim
  | _ :: _, [], _, H => H.elim
theorem pgCells_take : ∀ (xs : List PgRec) (j : Nat), pgCells (xs.take j) = (pgCells xs).take (j * 2)
  | [], j => by simp [pgCells]
  | y :: r, 0 => by simp [pgCells]
  | y :: r, j + 1 => by
    have ih := pgCells_take r j
    simp only [pgCells, List.flatMap_cons, List.take_succ_cons] at ih ⊢
    have e1 : (j + 1) * 2 = j * 2 + 2 := by omega
    rw [e1, ih]
    simp [PgRec.vals]
theorem OwC.shrink {e : TypeId} {size : Nat} {a : Option Addr} {n c : Nat} {xs : List Value} {R h : PH} (H : (OwC e size a n c xs).p R h) (j : Nat) (hj : j ≤ n) (k : Nat) (hk : k = 0) :
    (OwC e size (if c = 0 then a else a.map (·.add k)) j c (xs.take (j * size))).p R h := by
  subst hk
  obtain ⟨hl, hh⟩ := H
  refine ⟨by rw [List.length_take, hl]; exact Nat.min_eq_left (Nat.mul_le_mul_right _ hj), ?_⟩
  rcases hh with ⟨rfl, rfl, rfl⟩ | ⟨g, cur, rfl, hg, h1, h2, h3, h4⟩
  · exact .inl ⟨rfl, by omega, rfl⟩
  · refine .inr ⟨g, cur, ?_, hg, by omega, h2, h3, ?_⟩
    · split
      · rfl
      · simp only [Option.map_some, addr_add, Nat.add_zero]
    · rw [← h4, List.take_take]
      congr 1
      exact (Nat.min_eq_left (Nat.mul_le_mul_right _ hj)).symm

/-! a crash -/
/-- The device's pages, whatever their slices. -/
def Pages (da : Option Addr) (dc n : Nat) (q : List Pg) : HP := HP.ex fun xs => HP.and (xs.length = q.length) (HP.sep (OwC 110 2 da n dc (pgCells xs)) (AllD xs q))
theorem OTri.exI {o : Sem Next} {α : Type} {A : α → HP} {B : Value → HP} (t : ∀ x, OTri Try.prog o (A x) B) : OTri Try.prog o (HP.ex A) B := fun w R h F s ⟨x, a⟩ => t x w R h F s a
theorem OTri.pureI {o : Sem Next} {A : HP} {B : Value → HP} {φ : Prop} (t : φ → OTri Try.prog o A B) : OTri Try.prog o (HP.and φ A) B := fun w R h F s a => t a.1 w R h F s a.2
def pickOf (picks : List UInt8) (i : Nat) : Nat := match picks[i % picks.length]? with
  | some b => b.toNat % 3
  | none => 0
def crashPg (picks : List UInt8) (i : Nat) (p : Pg) : Pg := if pickOf picks i = 0 then ⟨0, []⟩ else if pickOf picks i = 2 then ⟨2, []⟩ else p
/-- The pages, when so many of those that do not last are lost or not. -/
def crashK (picks : List UInt8) (ps : List Pg) (lasts : Nat) : Nat → List Pg
  | 0 => ps
  | k + 1 => match (crashK picks ps lasts k)[lasts + k]? with
    | some p => (crashK picks ps lasts k).set (lasts + k) (crashPg picks k p)
    | none => crashK picks ps lasts k
theorem crashK_len (picks : List UInt8) (ps : List Pg) (lasts : Nat) : ∀ k, (crashK picks ps lasts k).length = ps.length
  | 0 => rfl
  | k + 1 => by
    simp only [crashK]
    split
    · rw [List.length_set]; exact crashK_len picks ps lasts k
    · exact crashK_len picks ps lasts k
/-- .. how many are left, when the last ones that are empty are gone. -/
def trimN (ps : List Pg) : Nat → Nat
  | 0 => 0
  | n + 1 => match ps[n]? with
    | some p => if p.is = 0 then trimN ps n else n + 1
    | none => n + 1
def crashPs (picks : List UInt8) (ps : List Pg) (lasts : Nat) : List Pg :=
  let q := crashK picks ps lasts (ps.length - lasts)
  q.take (trimN q q.length)
theorem trimN_le (ps : List Pg) : ∀ n, trimN ps n ≤ n
  | 0 => Nat.le_refl _
  | n + 1 => by
    simp only [trimN]
    split
    · split
      · exact Nat.le_succ_of_le (trimN_le ps n)
      · exact Nat.le_refl _
    · exact Nat.le_refl _
theorem dCrash_ok (b : Nat) (room : Int) (ps : List Pg) (lasts : Nat) (a : Option Addr) (n c : Nat) (picks : List UInt8) (S : HP) (hr : RdL S a n (picks.map u8v)) (hl : picks.length = n) (ha : n ≠ 0 → a.isSome = true) (hn : n ≤ 140737488355328) :
    Tri Try.prog 16 #[.pointer (some ⟨b, 0, none⟩), .slice a n c] (HP.sep (DRep b room ps lasts) S) (fun v => HP.and (v = .tuple #[]) (HP.sep (DRep b room (crashPs picks ps lasts) (crashPs picks ps lasts).length) S)) := by
  refine (Tri.ex (A := fun da => HP.ex fun dc => HP.ex fun xs => HP.and (DInv room ps lasts ∧ xs.length = ps.length) (HP.sep (HP.one b (.cells #[.int .i64 room, .slice da ps.length dc, .int .i64 lasts] 108)) (HP.sep (HP.sep (OwC 110 2 da ps.length dc (pgCells xs)) (AllD xs ps)) S)))
    fun da => Tri.ex fun dc => Tri.ex fun xs => Tri.pure fun hI => ?_).weak (fun R h ⟨h1, h2, d, l1, l2, ⟨da, dc, xs, hI, H⟩, hS⟩ => ⟨da, dc, xs, hI, HP.sep_assoc ⟨h1, h2, d, l1, l2, H, hS⟩⟩) fun _ _ _ h => h
  obtain ⟨⟨i1, i2, i3, i4⟩, hxl⟩ := hI
  refine Tri.fact (φ := ps.length ≤ dc ∧ (ps.length ≠ 0 → da.isSome = true)) (fun R h H => ?_) fun hdc => ?_
  · have := HP.sep_left (HP.sep_left (HP.sep_right H))
    exact ⟨OwC.le this, fun h => OwC.some this (by omega)⟩
  refine tri_of_tree (ρ := [.n b, .i room, .a da, .n ps.length, .n dc, .p (HP.sep (OwC 110 2 da ps.length dc (pgCells xs)) (AllD xs ps)), .i lasts, .a a, .n n, .n c, .p S]) mixed Try.func16 tree_dCrash ?_
  unfold t_dCrash
  simp only [T.den, E.prop, E.den, RX.look, F1.app, F2.app, Uni.int_i, Uni.nat_n, Uni.bool_c, Uni.str_s, Uni.adr_a, Uni.val_v, Uni.hp_p, hden, cden, V.den, W.den, A.den, BR.den, SA.den, FV.den, capV, exs, exP, allP, Cur.app, List.map_cons, List.map_nil, List.cons_append, List.nil_append, List.drop_succ_cons, List.drop_zero, List.length_cons, List.length_nil, Nat.zero_add, Nat.reduceAdd, Int.neg_neg, Bool.not_not, List.append_nil, Nat.add_zero, List.getElem?_cons_zero, List.getElem?_cons_succ, Decidable.not_not]
  obtain ⟨i, hi, z1, z2, z3⟩ := info_parts infoP
  refine ⟨_, _, _, slice_ok undP hi _ da ps.length dc (some lasts) none none i4 hdc.1 (Nat.le_refl _) (fun h => by cases h), ?_⟩
  simp only [Option.getD_some, Option.getD_none]
  have und3 : Try.prog.underlying 3 = some (.int .i64) := by kernel_rfl
  have agg3 : aggT Try.prog 3 = false := by kernel_rfl
  have sz3 : szT Try.prog 3 = 1 := by kernel_rfl
  have pt1 : ∀ k, k < ps.length - lasts → ∀ (v : Int) (p' : Pg), p'.is = v → p'.data = [] → ∀ P : HP, HP.ent P (Pages da dc ps.length (crashK picks ps lasts k)) →
      OTri Try.prog (storeS 110 (.pointer (da.map fun x => (x.add (((lasts : Int) + (k : Int)).toNat * 2)).add 0)) (.agg #[.int .i64 v, .slice none 0 0])) P
        (fun r => HP.and (r = .tuple #[]) (Pages da dc ps.length ((crashK picks ps lasts k).set (lasts + k) p'))) := fun k hk v p' hv hd P hP => by
    refine (OTri.conseq (A := Pages da dc ps.length (crashK picks ps lasts k)) (K := HP.tt) ?_ (hP.trans (.of fun _ _ => HP.sep_tt)) fun _ => .of fun _ _ => HP.sep_left)
    refine OTri.exI fun xs => OTri.pureI fun hx => ?_
    rw [crashK_len] at hx
    have := (store_ok hi 110 2 da ps.length dc (pgCells xs) ((lasts + k) * 2) 0 (.agg #[.int .i64 v, .slice none 0 0]) (PgRec.vals ⟨v, none, 0, 0⟩) rfl (by rw [z2]; rfl) (by simp [PgRec.vals]) (fun u hu => pgCells_one [⟨v, none, 0, 0⟩] u (by simpa [pgCells] using hu)) (by simp only [PgRec.vals, List.length_cons, List.length_nil]; omega)).frame (AllD xs (crashK picks ps lasts k))
    rw [show ((lasts : Int) + (k : Int)).toNat = lasts + k by omega]
    refine this.weak (fun _ _ h => h) ?_
    rintro r R h ⟨h1, h2, d, l1, l2, ⟨rfl, Ho⟩, Ha⟩
    refine ⟨rfl, xs.set (lasts + k) ⟨v, none, 0, 0⟩, by rw [List.length_set, List.length_set, crashK_len]; exact hx, h1, h2, d, l1, l2, ?_, AllD.set ⟨hv.symm, by rw [hd]; rfl, by rw [hd]; simp⟩ (by rw [hd]; exact RoC.nil _ _ _ _) _ Ha⟩
    rw [← pgCells_set _ _ _ (by omega)]
    exact Ho
  have nxt : ∀ k, k < ps.length - lasts → ∃ p, (crashK picks ps lasts k)[lasts + k]? = some p ∧ crashK picks ps lasts (k + 1) = (crashK picks ps lasts k).set (lasts + k) (crashPg picks k p) := fun k hk => by
    have hlt : lasts + k < (crashK picks ps lasts k).length := by rw [crashK_len]; omega
    refine ⟨_, List.getElem?_eq_getElem hlt, ?_⟩
    simp only [crashK, List.getElem?_eq_getElem hlt]
  have same : ∀ k, k < ps.length - lasts → pickOf picks k ≠ 0 → pickOf picks k ≠ 2 → crashK picks ps lasts (k + 1) = crashK picks ps lasts k := fun k hk h0 h2 => by
    obtain ⟨p, hp, e⟩ := nxt k hk
    rw [e, crashPg, if_neg h0, if_neg h2]
    exact List.ext_getElem? fun i => by
      rw [List.getElem?_set]
      split
      · rename_i e; subst e; rw [hp]; split
        · rfl
        · rename_i hlt; rw [List.getElem?_eq_none (by omega)] at hp; cases hp
      · rfl
  refine ⟨fun i P => ∃ k : Nat, i = k ∧ k ≤ ps.length - lasts ∧ HP.ent P (Pages da dc ps.length (crashK picks ps lasts k)), fun i P => ps.length - lasts - i.toNat, ⟨0, rfl, Nat.zero_le _, .of fun R h H => ⟨xs, hxl, H⟩⟩, ?_⟩
  rintro _ P ⟨k, rfl, hk, hP⟩
  refine ⟨fun hlt => ⟨fun hpos => ?_, fun hz => ?_⟩, fun hge => ?_⟩
  · have hn0 : 0 < n := by omega
    have hm : k % n < n := Nat.mod_lt _ hn0
    have htm : (k : Int).tmod (n : Int) = ((k % n : Nat) : Int) := (Int.ofNat_tmod k n).symm
    have hget : picks[k % n]? = some (picks[k % n]'(by omega)) := List.getElem?_eq_getElem (by omega)
    have hpick : pickOf picks k = (picks[k % n]'(by omega)).toNat % 3 := by simp only [pickOf, hl, hget]
    have hx3 : ((picks[k % n]'(by omega)).toNat : Int).tmod 3 = (pickOf picks k : Int) := by rw [hpick]; exact (Int.ofNat_tmod _ 3).symm
    refine ⟨by omega, fun _ => ⟨by rw [htm]; omega, fun _ => ⟨by rw [htm]; omega, fun _ => ⟨ha (by omega), fun _ => ⟨((picks[k % n]'(by omega)).toNat : Int), ?_, ?_⟩⟩⟩⟩⟩
    · have := load1_ok (t := 5) (d := .int .u8) (by kernel_rfl) (by kernel_rfl) (by kernel_rfl) hr.rd (k := k % n) (off := 0) (v := u8v (picks[k % n]'(by omega))) (by rw [Nat.add_zero, List.getElem?_map, hget]; rfl)
      rw [semOf_load]
      simp only [T.den, E.prop, E.den, RX.look, F1.app, F2.app, Uni.int_i, Uni.nat_n, Uni.bool_c, Uni.str_s, Uni.adr_a, Uni.val_v, Uni.hp_p, hden, cden, V.den, W.den, A.den, BR.den, SA.den, FV.den, capV, exs, exP, allP, Cur.app, List.map_cons, List.map_nil, List.cons_append, List.nil_append, List.drop_succ_cons, List.drop_zero, List.length_cons, List.length_nil, Nat.zero_add, Nat.reduceAdd, Int.neg_neg, Bool.not_not, List.append_nil, Nat.add_zero, List.getElem?_cons_zero, List.getElem?_cons_succ, Decidable.not_not]
      rw [htm]
      rw [Int.toNat_natCast, Nat.mul_one]
      exact this
    · rw [hx3]
      refine ⟨fun h0 => ⟨inI64 _ (by omega) (by omega), fun _ => ⟨by omega, fun _ => ⟨by omega, fun _ => ⟨hdc.2 (by omega), fun _ => ?_⟩⟩⟩⟩, fun h0 => ⟨fun h2 => ⟨inI64 _ (by omega) (by omega), fun _ => ⟨by omega, fun _ => ⟨by omega, fun _ => ⟨hdc.2 (by omega), fun _ => ?_⟩⟩⟩⟩, fun h2 => ⟨inI64 _ (by omega) (by omega), fun _ => ⟨⟨k + 1, by omega, by omega, ?_⟩, by dsimp only; omega⟩⟩⟩⟩
      · rw [semOf_store (by decide)]
        obtain ⟨p, _, e⟩ := nxt k (by omega)
        refine (pt1 k (by omega) 0 ⟨0, []⟩ rfl rfl P hP).weak (fun _ _ h => h) ?_
        rintro v R h ⟨rfl, H⟩
        refine ⟨_, rfl, ⟨inI64 _ (by omega) (by omega), fun _ => ⟨⟨k + 1, by omega, by omega, .refl _⟩, by dsimp only; omega⟩⟩, ?_⟩
        rw [e, crashPg, if_pos (by omega)]
        exact H
      · rw [semOf_store (by decide)]
        obtain ⟨p, _, e⟩ := nxt k (by omega)
        refine (pt1 k (by omega) 2 ⟨2, []⟩ rfl rfl P hP).weak (fun _ _ h => h) ?_
        rintro v R h ⟨rfl, H⟩
        refine ⟨_, rfl, ⟨inI64 _ (by omega) (by omega), fun _ => ⟨⟨k + 1, by omega, by omega, .refl _⟩, by dsimp only; omega⟩⟩, ?_⟩
        rw [e, crashPg, if_neg (by omega), if_pos (by omega)]
        exact H
      · rw [same k (by omega) (by omega) (by omega)]; exact hP
  · have hn0 : n = 0 := by omega
    refine ⟨inI64 _ (by omega) (by omega), fun _ => ⟨by omega, fun _ => ⟨by omega, fun _ => ⟨hdc.2 (by omega), fun _ => ?_⟩⟩⟩⟩
    rw [semOf_store (by decide)]
    obtain ⟨p, _, e⟩ := nxt k (by omega)
    refine (pt1 k (by omega) 0 ⟨0, []⟩ rfl rfl P hP).weak (fun _ _ h => h) ?_
    rintro v R h ⟨rfl, H⟩
    refine ⟨_, rfl, ⟨inI64 _ (by omega) (by omega), fun _ => ⟨⟨k + 1, by omega, by omega, .refl _⟩, by dsimp only; omega⟩⟩, ?_⟩
    have hp0 : pickOf picks k = 0 := by
      have : picks = [] := List.eq_nil_of_length_eq_zero (by omega)
      subst this; rfl
    rw [e, crashPg, if_pos hp0]
    exact H
  · have hke : k = ps.length - lasts := by omega
    subst hke
    generalize hq : crashK picks ps lasts (ps.length - lasts) = q at hP
    have hql : q.length = ps.length := by rw [← hq, crashK_len]
    have hcr : crashPs picks ps lasts = q.take (trimN q q.length) := by simp only [crashPs, hq]
    rw [hcr]
    clear pt1 nxt same hk hge hq hcr hr ha
    refine ⟨fun x => ∃ j : Nat, x = j ∧ j ≤ q.length ∧ trimN q j = trimN q q.length, fun x => x.toNat, ⟨q.length, by omega, Nat.le_refl _, rfl⟩, ?_⟩
    rintro _ ⟨j, rfl, hj, ht⟩
    have hsl : ∀ j, j ≤ q.length → ORead Try.prog (sliceS 106 (.slice da ps.length dc) (iv none) (iv (some j)) (iv none)) P (.slice (if dc = 0 then da else da.map (·.add (0 * szT Try.prog 110))) j dc) := fun j hj => by
      have := slice_ok undP hi P da ps.length dc none (some j) none (Nat.zero_le _) (by simp only [Option.getD_some, Option.getD_none]; omega) (Nat.le_refl _) (fun h => by cases h)
      simpa only [Option.getD_some, Option.getD_none, Nat.sub_zero] using this
    have fin : ∀ j, j ≤ q.length → trimN q q.length = j → Tri Try.prog 58 #[.pointer (some ⟨b, 0, none⟩)] (HP.sep (HP.one b (.cells #[.int .i64 room, .slice (if dc = 0 then da else da.map (·.add (0 * szT Try.prog 110))) j dc, .int .i64 lasts] 108)) P)
        (fun v => HP.and (v = .tuple #[]) (HP.sep (HP.one b (.cells #[.int .i64 room, .slice (if dc = 0 then da else da.map (·.add (0 * szT Try.prog 110))) j dc, .int .i64 j] 108)) P)) := fun j _ _ => dSyncRaw_ok b room _ j dc lasts P
    have done : ∀ j, j ≤ q.length → trimN q q.length = j → HP.ent (HP.sep (HP.one b (.cells #[.int .i64 room, .slice (if dc = 0 then da else da.map (·.add (0 * szT Try.prog 110))) j dc, .int .i64 j] 108)) (HP.sep P S))
        (HP.and True (HP.sep (DRep b room (q.take (trimN q q.length)) (q.take (trimN q q.length)).length) S)) := fun j hj ht => by
      have e1 : (q.take j).length = j := by rw [List.length_take]; omega
      rw [ht, e1]
      refine ((HP.ent.refl _).sep2 (hP.sep S)).trans (.of fun R h H => ⟨trivial, ?_⟩)
      refine HP.sep_mono (HP.sep_assoc' H) (fun y hy => ?_) fun _ h => h
      obtain ⟨h1, h2, d, l1, l2, hone, xs', hx', g1, g2, d', m1, m2, ho, hall⟩ := hy
      refine ⟨if dc = 0 then da else da.map (·.add (0 * szT Try.prog 110)), dc, xs'.take j, ⟨⟨i1, i2, by rw [e1]; omega, by rw [e1]; omega⟩, by rw [List.length_take, List.length_take, hx']⟩, ?_⟩
      rw [e1]
      refine ⟨h1, h2, d, l1, l2, hone, g1, g2, d', m1, m2, ?_, AllD.take j hall⟩
      rw [pgCells_take]
      exact OwC.shrink ho j (by omega) _ (Nat.zero_mul _)
    refine ⟨fun hp => ⟨inI64 _ (by omega) (by omega), fun _ => ⟨by omega, fun _ => ⟨by omega, fun _ => ⟨hdc.2 (by omega), fun _ => ?_⟩⟩⟩⟩, fun hp => ?_⟩
    · obtain ⟨j, rfl⟩ : ∃ i, j = i + 1 := ⟨j - 1, by omega⟩
      have hg : q[j]? = some (q[j]'(by omega)) := List.getElem?_eq_getElem (by omega)
      refine ⟨(q[j]'(by omega)).is, ?_, fun h0 => ⟨⟨j, by omega, by omega, ?_⟩, by dsimp only; omega⟩, fun h0 => ?_⟩
      · rw [semOf_load]
        simp only [T.den, E.prop, E.den, RX.look, F1.app, F2.app, Uni.int_i, Uni.nat_n, Uni.bool_c, Uni.str_s, Uni.adr_a, Uni.val_v, Uni.hp_p, hden, cden, V.den, W.den, A.den, BR.den, SA.den, FV.den, capV, exs, exP, allP, Cur.app, List.map_cons, List.map_nil, List.cons_append, List.nil_append, List.drop_succ_cons, List.drop_zero, List.length_cons, List.length_nil, Nat.zero_add, Nat.reduceAdd, Int.neg_neg, Bool.not_not, List.append_nil, Nat.add_zero, List.getElem?_cons_zero, List.getElem?_cons_succ, Decidable.not_not]
        refine ORead.ent hP fun w R h F s ⟨xs', hx', H⟩ => ?_
        obtain ⟨x, q1, q2, _⟩ := AllD.get j (HP.sep_right H) hg
        have := load1_ok und3 agg3 sz3 ((OwC.rd 110 2 da ps.length dc (pgCells xs')).left (B := AllD xs' q)) (k := j * 2) (off := 0) (pgCells_get xs' j x q1).1 w R h F s H
        rw [q2] at this
        rw [show (((j + 1 : Nat) : Int) - 1).toNat = j by omega]
        exact this
      · rw [← ht]; simp only [trimN, hg, if_pos h0]
      · have htt : trimN q q.length = j + 1 := by rw [← ht]; simp only [trimN, hg, if_neg h0]
        refine ⟨_, _, _, hsl (j + 1) hj, (fin (j + 1) hj htt).weak (fun _ _ h => h) ?_⟩
        rintro v R h ⟨rfl, H⟩
        exact ⟨_, _, _, _, P, _, rfl, done (j + 1) hj htt, H⟩
    · have hj0 : j = 0 := by omega
      subst hj0
      refine ⟨_, _, _, hsl 0 hj, (fin 0 hj ht.symm).weak (fun _ _ h => h) ?_⟩
      rintro v R h ⟨rfl, H⟩
      exact ⟨_, _, _, _, P, _, rfl, done 0 hj ht.symm, H⟩
end Go.Proofs.Ytmibmjehjagmbaa

/- Contracts of the device: what its pages hold. No condition. -/
namespace Go.Proofs.Ytmibmjehjagmbaa
set_option linter.unusedSimpArgs false
set_option linter.unusedVariables false
open Go.Proofs.Ytmibmjehjagmbaa RX

theorem AllD.get2 {R h : PH} : ∀ {xs : List PgRec} {ps : List Pg} (i : Nat) {p : Pg}, (AllD xs ps).p R h → ps[i]? = some p → ∃ x, xs[i]? = some x ∧ x.is = p.is ∧ x.n = p.data.length ∧ p.data.length ≤ 140737488355328 ∧ (RoB x.a x.n p.data).p R h
  | [], [], i, p, _, hp => by simp at hp
  | x :: xs, q :: ps, 0, p, ⟨h1, H⟩, hp => by simp at hp; subst hp; exact ⟨x, rfl, h1.1, h1.2.1, h1.2.2, HP.sep_left H⟩
  | x :: xs, q :: ps, i + 1, p, ⟨h1, H⟩, hp => by
    obtain ⟨y, q1, q2, q3, q4⟩ := AllD.get2 (h := h) i (AllD.any (HP.sep_right H)) (by simpa using hp)
    exact ⟨y, by simpa using q1, q2, q3, q4⟩
  | [], _ :: _, _, _, H, _ => H.elim
  | _ :: _, [], _, _, H, _ => H.elim
/-- A list of byte slices, each of which never turns. -/
abbrev BRec := Option Addr × Nat × Nat
def slV (x : BRec) : Value := .slice x.1 x.2.1 x.2.2
def AllB : List BRec → List (List UInt8) → HP
  | [], [] => HP.tt
  | x :: xs, l :: ls => HP.and (x.2.1 = l.length ∧ l.length ≤ 140737488355328) (HP.sep (RoB x.1 x.2.1 l) (AllB xs ls))
  | _, _ => HP.pure False
theorem AllB.any {R : PH} : ∀ {xs : List BRec} {ps : List (List UInt8)} {h h' : PH}, (AllB xs ps).p R h → (AllB xs ps).p R h'
  | [], [], _, _, _ => trivial
  | _ :: _, _ :: _, _, h', ⟨q, H⟩ => ⟨q, RoC.join (HP.sep_left H) (AllB.any (h' := h') (HP.sep_right H))⟩
  | [], _ :: _, _, _, H => H
  | _ :: _, [], _, _, H => H
theorem AllB.len {R h : PH} : ∀ {xs : List BRec} {ps : List (List UInt8)}, (AllB xs ps).p R h → xs.length = ps.length
  | [], [], _ => rfl
  | x :: xs, p :: ps, ⟨_, H⟩ => by simp [AllB.len (HP.sep_right H)]
  | [], _ :: _, H => H.elim
  | _ :: _, [], H => H.elim
theorem AllB.snoc {R h : PH} {x : BRec} {p : List UInt8} (hx : x.2.1 = p.length ∧ p.length ≤ 140737488355328) (hr : (RoB x.1 x.2.1 p).p R h) : ∀ {xs : List BRec} {ps : List (List UInt8)}, (AllB xs ps).p R h → (AllB (xs ++ [x]) (ps ++ [p])).p R h
  | [], [], _ => ⟨hx, RoC.join hr (trivial : HP.tt.p R h)⟩
  | _ :: _, _ :: _, ⟨q, H⟩ => ⟨q, RoC.join (HP.sep_left H) (AllB.snoc hx hr (HP.sep_right H) |> AllB.any (h' := h))⟩
  | [], _ :: _, H => H.elim
  | _ :: _, [], H => H.elim
theorem AllB.get {R h : PH} : ∀ {xs : List BRec} {ps : List (List UInt8)} (i : Nat) {p : List UInt8}, (AllB xs ps).p R h → ps[i]? = some p → ∃ x, xs[i]? = some x ∧ x.2.1 = p.length ∧ p.length ≤ 140737488355328 ∧ (RoB x.1 x.2.1 p).p R h
  | [], [], i, p, _, hp => by simp at hp
  | x :: xs, q :: ps, 0, p, ⟨h1, H⟩, hp => by simp at hp; subst hp; exact ⟨x, rfl, h1.1, h1.2, HP.sep_left H⟩
  | x :: xs, q :: ps, i + 1, p, ⟨h1, H⟩, hp => by
    obtain ⟨y, q1, q2, q3, q4⟩ := AllB.get (h := h) i (AllB.any (HP.sep_right H)) (by simpa using hp)
    exact ⟨y, by simpa using q1, q2, q3, q4⟩
  | [], _ :: _, _, _, H, _ => H.elim
  | _ :: _, [], _, _, H, _ => H.elim
/-- A list of byte slices of its own. -/
def LL (a : Option Addr) (n c : Nat) (ls : List (List UInt8)) : HP := HP.ex fun xs => HP.and (xs.length = ls.length ∧ n = ls.length) (HP.sep (OwC 30 1 a n c (xs.map slV)) (AllB xs ls))
theorem infoLL : (Try.prog.info? 30).map (fun i => (i.zero, i.size, i.bytes)) = some (some (.slice none 0 0), 1, 24) := by kernel_rfl
theorem undLL : Try.prog.underlying 72 = some (.slice 30) := by kernel_rfl
theorem slV_one (xs : List BRec) : ∀ u ∈ xs.map slV, u.oneCell' = true := fun u hu => by
  obtain ⟨x, _, rfl⟩ := List.mem_map.1 hu; rfl
/-- The bytes of the pages that are whole. -/
def wholes (ps : List Pg) : List (List UInt8) := ps.filterMap fun p => if p.is = 1 then some p.data else none
theorem wholes_take (ps : List Pg) (k : Nat) (p : Pg) (h : ps[k]? = some p) : wholes (ps.take (k + 1)) = wholes (ps.take k) ++ (if p.is = 1 then [p.data] else []) := by
  obtain ⟨hk, rfl⟩ := List.getElem?_eq_some_iff.1 h
  rw [List.take_succ_eq_append_getElem hk, wholes, List.filterMap_append]
  congr 1
  simp only [List.filterMap_cons, List.filterMap_nil]
  by_cases e : ps[k].is = 1 <;> simp [e]
theorem wholes_pre (ps : List Pg) (k : Nat) : wholes (ps.take k) <+: wholes ps := by
  have : wholes ps = wholes (ps.take k) ++ wholes (ps.drop k) := by
    rw [wholes, wholes, wholes, ← List.filterMap_append, List.take_append_drop]
  rw [this]; exact List.prefix_append _ _

def BoxD (bx b : Nat) : HP := HP.one bx (.cells #[.pointer (some ⟨b, 0, none⟩)] 25)
theorem dWhole_ok (b : Nat) (D : HP) : Tri Try.prog 85 #[.pointer (some ⟨b, 0, none⟩)] D
    (fun v => HP.ex fun bx => HP.and (v = .func (.func 118) #[] #[.pointer (some ⟨bx, 0, none⟩)]) (HP.sep (BoxD bx b) D)) := by
  refine tri_of_tree (ρ := [.n b, .p D]) mixed Try.func85 tree_dWhole ?_
  unfold t_dWhole
  simp only [T.den, E.prop, E.den, RX.look, F1.app, F2.app, Uni.int_i, Uni.nat_n, Uni.bool_c, Uni.str_s, Uni.adr_a, Uni.val_v, Uni.hp_p, hden, cden, V.den, W.den, A.den, BR.den, SA.den, FV.den, capV, exs, exP, allP, Cur.app, List.map_cons, List.map_nil, List.cons_append, List.nil_append, List.drop_succ_cons, List.drop_zero, List.length_cons, List.length_nil, Nat.zero_add, Nat.reduceAdd, Int.neg_neg, Bool.not_not, List.append_nil, Nat.add_zero, List.getElem?_cons_zero, List.getElem?_cons_succ, Decidable.not_not]
  exact fun x => .of fun R h H => ⟨x, rfl, HP.sep_comm H⟩
def mayW (ps : List Pg) (ys : List (List UInt8)) (args : Array Value) (ys' : List (List UInt8)) : Prop := ∃ a n c l, args = #[.slice a n c] ∧ ys' = ys ++ [l] ∧ ys' <+: wholes ps
def prW (ps : List Pg) (ys : List (List UInt8)) (args : Array Value) : HP := HP.ex fun z : BRec × List UInt8 => HP.and (args = #[slV z.1] ∧ z.2.length = z.1.2.1 ∧ z.1.2.1 ≤ 140737488355328 ∧ ys ++ [z.2] <+: wholes ps) (RoB z.1.1 z.1.2.1 z.2)
theorem fgo_whole1 : Fgo Try.prog 118 := ⟨_, Try.func118, by kernel_rfl, by kernel_rfl⟩
theorem pre_one {α : Type} {ys W : List α} {x y : α} (h : ys ++ [x] <+: W) (h' : ys ++ [y] <+: W) : x = y := by
  obtain ⟨t, ht⟩ := h
  obtain ⟨t', ht'⟩ := h'
  rw [← ht, List.append_assoc, List.append_assoc] at ht'
  have := List.append_cancel_left ht'
  simpa using (List.cons.inj this).1.symm
theorem dWhole_seq (bx b : Nat) (room : Int) (ps : List Pg) (lasts : Nat) : SeqTri Try.prog (.func (.func 118) #[] #[.pointer (some ⟨bx, 0, none⟩)]) (HP.sep (BoxD bx b) (DRep b room ps lasts)) (fun _ => HP.tt) (prW ps) (mayW ps) (fun ys => ys = wholes ps) [] := by
  refine ⟨_, _, rfl, fgo_whole1, fun l K Jx hr => ?_⟩
  refine (Tri.ex (A := fun da => HP.ex fun dc => HP.ex fun xs => HP.and (DInv room ps lasts ∧ xs.length = ps.length) (HP.sep (HP.sep HP.tt (K [])) (HP.sep (BoxD bx b) (HP.sep (HP.one b (.cells #[.int .i64 room, .slice da ps.length dc, .int .i64 lasts] 108)) (HP.sep (OwC 110 2 da ps.length dc (pgCells xs)) (AllD xs ps))))))
    fun da => Tri.ex fun dc => Tri.ex fun xs => Tri.pure fun hI => ?_).weak (fun R h H => ?_) fun _ _ _ h => h
  rotate_left
  · obtain ⟨h1, h2, d, l1, l2, hK, h3, h4, d2, l3, l4, hB, da, dc, xs, hI, H⟩ := HP.sep_comm H
    exact ⟨da, dc, xs, hI, h1, h2, d, l1, l2, hK, h3, h4, d2, l3, l4, hB, H⟩
  obtain ⟨hD, hxl⟩ := hI
  refine Tri.fact (φ := (ps.length ≠ 0 → da.isSome = true) ∧ ∀ (k : Nat) (p : Pg), ps[k]? = some p → ∃ x : PgRec, xs[k]? = some x ∧ x.is = p.is ∧ x.n = p.data.length ∧ p.data.length ≤ 140737488355328) (fun R h H => ⟨fun hn => OwC.some (HP.sep_left (HP.sep_right (HP.sep_right (HP.sep_right H)))) (by omega), fun k p hp => by
    obtain ⟨x, q1, q2, q3, q4, _⟩ := AllD.get2 k (HP.sep_right (HP.sep_right (HP.sep_right (HP.sep_right H)))) hp
    exact ⟨x, q1, q2, q3, q4⟩⟩) fun ⟨hda, hall⟩ => ?_
  obtain ⟨pd, hpd⟩ : ∃ d, Try.prog.underlying 110 = some d := Option.isSome_iff_exists.1 (by kernel_rfl)
  refine tri_of_tree (ρ := [.v (.func (.yield l) #[] #[]), .p (HP.sep HP.tt (K [])), .n bx, .n b, .i room, .a da, .n ps.length, .n dc, .p (HP.sep (OwC 110 2 da ps.length dc (pgCells xs)) (AllD xs ps)), .i lasts]) mixed Try.func118 tree_dWhole1 ?_
  unfold t_dWhole1
  simp only [T.den, E.prop, E.den, RX.look, F1.app, F2.app, Uni.int_i, Uni.nat_n, Uni.bool_c, Uni.str_s, Uni.adr_a, Uni.val_v, Uni.hp_p, hden, cden, V.den, W.den, A.den, BR.den, SA.den, FV.den, capV, exs, exP, allP, Cur.app, List.map_cons, List.map_nil, List.cons_append, List.nil_append, List.drop_succ_cons, List.drop_zero, List.length_cons, List.length_nil, Nat.zero_add, Nat.reduceAdd, Int.neg_neg, Bool.not_not, List.append_nil, Nat.add_zero, List.getElem?_cons_zero, List.getElem?_cons_succ, Decidable.not_not]
  have fin : ∀ J : HP, HP.ent J (SeqPost (fun _ => HP.tt) K Jx (fun ys => ys = wholes ps)) → HP.ent (HP.sep J (HP.sep (HP.one bx (.cells #[.pointer (some ⟨b, 0, none⟩)] 25)) (HP.sep (HP.one b (.cells #[.int .i64 room, .slice da ps.length dc, .int .i64 lasts] 108)) (HP.sep (OwC 110 2 da ps.length dc (pgCells xs)) (AllD xs ps)))))
      (HP.sep (HP.sep (BoxD bx b) (DRep b room ps lasts)) (SeqPost (fun _ => HP.tt) K Jx (fun ys => ys = wholes ps))) := fun J hJ =>
    (hJ.sep _).trans (.of fun R h H => HP.sep_comm (HP.sep_mono H (fun _ h => h) fun y hy => HP.sep_mono hy (fun _ h => h) fun z hz => ⟨da, dc, xs, ⟨hD, hxl⟩, hz⟩))
  refine ⟨fun i P => ∃ k : Nat, i = k ∧ k ≤ ps.length ∧ HP.ent P (HP.sep HP.tt (K (wholes (ps.take k)))), fun i P => ps.length - i.toNat, ⟨0, rfl, Nat.zero_le _, HP.ent.refl _⟩, ?_⟩
  rintro _ P ⟨k, rfl, hk, hP⟩
  refine ⟨fun hlt => ⟨by omega, fun _ => ⟨hda (by omega), fun _ => ?_⟩⟩, fun hge => ?_⟩
  · have hlt' : k < ps.length := by omega
    have hg : ps[k]? = some ps[k] := List.getElem?_eq_getElem hlt'
    have hi64 : IntKind.i64.min ≤ (k : Int) + 1 ∧ (k : Int) + 1 ≤ IntKind.i64.max := inI64 _ (by omega) (by have := hD.2.1; have := hD.2.2.1; omega)
    obtain ⟨x, hx, x1, x2, x3⟩ := hall k _ hg
    have hnext : ps[k].is ≠ 1 → wholes (ps.take (k + 1)) = wholes (ps.take k) := fun h => by rw [wholes_take ps k _ hg, if_neg h, List.append_nil]
    have hnext1 : ps[k].is = 1 → wholes (ps.take (k + 1)) = wholes (ps.take k) ++ [ps[k].data] := fun h => by rw [wholes_take ps k _ hg, if_pos h]
    refine ⟨x.is, x.a, x.n, x.c, ?_, fun y => ?_⟩
    · rw [semOf_load]
      simp only [T.den, E.prop, E.den, RX.look, F1.app, F2.app, Uni.int_i, Uni.nat_n, Uni.bool_c, Uni.str_s, Uni.adr_a, Uni.val_v, Uni.hp_p, hden, cden, V.den, W.den, A.den, BR.den, SA.den, FV.den, capV, exs, exP, allP, Cur.app, List.map_cons, List.map_nil, List.cons_append, List.nil_append, List.drop_succ_cons, List.drop_zero, List.length_cons, List.length_nil, Nat.zero_add, Nat.reduceAdd, Int.neg_neg, Bool.not_not, List.append_nil, Nat.add_zero, List.getElem?_cons_zero, List.getElem?_cons_succ, Decidable.not_not]
      rw [Int.toNat_natCast]
      obtain ⟨g1, g2⟩ := pgCells_get xs k _ hx
      refine loadN_ok (vs := [.int .i64 x.is, .slice x.a x.n x.c]) hpd (by kernel_rfl) ((OwC.rd 110 2 da ps.length dc (pgCells xs)).left (B := AllD xs ps)) (by kernel_rfl) (by simp) fun j v hj => ?_
      match j with
      | 0 => simp at hj; subst hj; simpa using g1
      | 1 => simp at hj; subst hj; simpa using g2
      | j + 2 => simp at hj
    · rw [x1]
      refine ⟨fun h1 => ?_, fun h1 => ⟨hi64, fun _ => ⟨⟨k + 1, by omega, by omega, by rw [hnext h1]; exact hP⟩, by dsimp only; omega⟩⟩⟩
      have hpre : wholes (ps.take k) ++ [ps[k].data] <+: wholes ps := by rw [← hnext1 h1]; exact wholes_pre ps _
      refine (hr (wholes (ps.take k)) #[.slice x.a x.n x.c] ⟨_, x.a, x.n, x.c, ps[k].data, rfl, rfl, hpre⟩).conseq (K := HP.sep (OwC 110 2 da ps.length dc (pgCells xs)) (AllD xs ps)) ?_ ?_
      · refine (hP.sep _).trans (.of fun R h H => ?_)
        have hA := HP.sep_right (HP.sep_right H)
        obtain ⟨x', q1, _, _, _, q5⟩ := AllD.get2 k hA hg
        rw [hx] at q1
        cases q1
        refine HP.sep_mono H (fun y hy => ?_) fun _ h => h
        exact HP.sep_mono (RoC.join (B := HP.sep HP.tt (K (wholes (ps.take k)))) q5 hy) (fun z hz => ⟨((x.a, x.n, x.c), ps[k].data), ⟨rfl, x2.symm, by dsimp only; omega, hpre⟩, hz⟩) fun _ h => h
      · refine fun v => .of fun R h ⟨h1', h2, dj, l1, l2, ⟨b', hv, hb⟩, hC⟩ => ?_
        cases b' with
        | true => 
          refine ⟨true, HP.ex fun g' => HP.and (mayW ps (wholes (ps.take k)) #[.slice x.a x.n x.c] g') (HP.sep HP.tt (K g')), hv, ⟨fun h => absurd rfl h, fun _ => ⟨hi64, fun _ => ⟨⟨k + 1, by omega, by omega, ?_⟩, by dsimp only; omega⟩⟩⟩, h1', h2, dj, l1, l2, hb, hC⟩
          refine .of fun R h ⟨g', ⟨_, _, _, l', _, hg1, hg2⟩, H⟩ => ?_
          subst hg1
          rw [hnext1 h1, pre_one hpre hg2]
          exact H
        | false => 
          exact ⟨false, Jx, hv, ⟨fun _ => fin Jx (.of fun R h H => ⟨none, H⟩), fun h => absurd h (by simp)⟩, h1', h2, dj, l1, l2, hb, hC⟩
  · have hke : k = ps.length := by omega
    subst hke
    rw [List.take_length] at hP
    exact fin P (hP.trans (.of fun R h H => ⟨some (wholes ps), rfl, H⟩))
theorem dPages_ok (b : Nat) (room : Int) (ps : List Pg) (lasts : Nat) : Tri Try.prog 34 #[.pointer (some ⟨b, 0, none⟩)] (DRep b room ps lasts)
    (fun v => HP.ex fun a => HP.ex fun c => HP.and (v = .slice a (wholes ps).length c ∧ DInv room ps lasts) (HP.sep (DRep b room ps lasts) (LL a (wholes ps).length c (wholes ps)))) := by
  refine Tri.fact (φ := DInv room ps lasts) (fun R h ⟨_, _, _, hI, _⟩ => hI.1) fun hD => ?_
  refine tri_of_tree (ρ := [.n b, .p (DRep b room ps lasts)]) mixed Try.func34 tree_dPages ?_
  unfold t_dPages
  simp only [T.den, E.prop, E.den, RX.look, F1.app, F2.app, Uni.int_i, Uni.nat_n, Uni.bool_c, Uni.str_s, Uni.adr_a, Uni.val_v, Uni.hp_p, hden, cden, V.den, W.den, A.den, BR.den, SA.den, FV.den, capV, exs, exP, allP, Cur.app, List.map_cons, List.map_nil, List.cons_append, List.nil_append, List.drop_succ_cons, List.drop_zero, List.length_cons, List.length_nil, Nat.zero_add, Nat.reduceAdd, Int.neg_neg, Bool.not_not, List.append_nil, Nat.add_zero, List.getElem?_cons_zero, List.getElem?_cons_succ, Decidable.not_not]
  intro ob
  refine (dWhole_ok b (DRep b room ps lasts)).weak (fun _ _ h => h) ?_
  rintro v R h ⟨bx, rfl, H⟩
  refine ⟨.func (.func 118) #[] #[.pointer (some ⟨bx, 0, none⟩)], BoxD bx b, rfl, fun db => ?_, H⟩
  have hw : (wholes ps).length ≤ 65536 := by
    have h1 : (wholes ps).length ≤ ps.length := List.length_filterMap_le _ _
    have := hD.2.1
    have := hD.2.2.1
    omega
  refine ⟨List (List UInt8), fun _ => HP.tt, prW ps, mayW ps, fun ys => ys = wholes ps, [], fun ys a n c P => n = ys.length ∧ ys <+: wholes ps ∧ HP.ent P (LL a n c ys), dWhole_seq bx b room ps lasts, ?_, ?_, ?_, ?_⟩
  · exact ⟨rfl, List.nil_prefix, .of fun R h _ => ⟨[], ⟨rfl, rfl⟩, OwC.nil _ _ R h |> HP.sep_tt⟩⟩
  · intro ys a n c P _; rfl
  · rintro ys args ⟨g', a0, n0, c0, l0, rfl, rfl, hpre⟩ a n c P ⟨rfl, hys, hP⟩
    refine ⟨a0, n0, c0, prW ps ys #[.slice a0 n0 c0], rfl, HP.ent.refl _, ?_⟩
    refine Tri.ex (A := fun z : BRec × List UInt8 => HP.and (#[Value.slice a0 n0 c0] = #[slV z.1] ∧ z.2.length = z.1.2.1 ∧ z.1.2.1 ≤ 140737488355328 ∧ ys ++ [z.2] <+: wholes ps) (RoB z.1.1 z.1.2.1 z.2)) fun z => Tri.pure fun hz => ?_
    obtain ⟨⟨a1, n1, c1⟩, d1⟩ := z
    obtain ⟨hz1, hz2, hz3, hz4⟩ := hz
    simp only [slV, Array.mk.injEq, List.cons.injEq, Value.slice.injEq, and_true] at hz1
    obtain ⟨rfl, rfl, rfl⟩ := hz1
    simp only at hz2 hz3 hz4
    refine (cloneR_ok (RoB a0 n0 d1) a0 n0 c0 d1 (RdL.ro _ _ _ _) hz2 hz3).weak (fun _ _ h => h) ?_
    rintro v R h ⟨a', c', rfl, H⟩
    refine ⟨a', n0, c', RoB a' n0 d1, RoB a0 n0 d1, rfl, fun eb => ?_, H⟩
    clear H
    rw [semOf_append (by decide)]
    simp only [T.den, E.prop, E.den, RX.look, F1.app, F2.app, Uni.int_i, Uni.nat_n, Uni.bool_c, Uni.str_s, Uni.adr_a, Uni.val_v, Uni.hp_p, hden, cden, V.den, W.den, A.den, BR.den, SA.den, FV.den, capV, exs, exP, allP, Cur.app, List.map_cons, List.map_nil, List.cons_append, List.nil_append, List.drop_succ_cons, List.drop_zero, List.length_cons, List.length_nil, Nat.zero_add, Nat.reduceAdd, Int.neg_neg, Bool.not_not, List.append_nil, Nat.add_zero, List.getElem?_cons_zero, List.getElem?_cons_succ, Decidable.not_not]
    obtain ⟨i, hi, z1, z2, z3⟩ := info_parts infoLL
    have hyl : ys.length + 1 ≤ 65536 := by
      have := hz4.length_le
      simp at this
      omega
    refine (OTri.conseq (A := HP.ex fun xs => HP.and (xs.length = ys.length) (HP.sep (OwC 30 1 a ys.length c (xs.map slV)) (HP.sep (AllB xs ys) (HP.sep (HP.one eb (.cells #[.slice a' n0 c'] 30)) (RoB a' n0 d1))))) (K := HP.tt) (OTri.exI fun xs => OTri.pureI fun hx => ?_) ((hP.sep _).trans (.of fun R h ⟨h1, h2, d, l1, l2, ⟨xs, hx, H⟩, H2⟩ => HP.sep_tt ⟨xs, hx.1, HP.sep_assoc ⟨h1, h2, d, l1, l2, H, H2⟩⟩)) fun v => .of fun _ _ H => HP.sep_left H)
    have happ := append_ok 72 72 30 i _ undLL hi z1 (by rw [z2]; rfl) (by omega) a ys.length c (xs.map slV) (HP.sep (AllB xs ys) (HP.sep (HP.one eb (.cells #[.slice a' n0 c'] 30)) (RoB a' n0 d1))) ⟨eb, 0, none⟩ 1 1 [slV (a', n0, c')] ((one_rd eb _ _).left.right) (by rw [z2]; rfl) (fun u hu => slV_one [(a', n0, c')] u (by simpa using hu)) (by unfold maxLen; omega) (by rw [z3]; omega)
    rw [z2] at happ
    refine happ.weak (fun _ _ h => h) ?_
    rintro v R h ⟨a2, c2, rfl, H⟩
    have hro := HP.sep_right (HP.sep_right (HP.sep_right H))
    have hall := HP.sep_left (HP.sep_right H)
    refine ⟨a2, ys.length + 1, c2, LL a2 (ys.length + 1) c2 (ys ++ [d1]), rfl, ⟨ys ++ [d1], ⟨a0, n0, c0, d1, rfl, rfl, hz4⟩, by simp, hz4, HP.ent.refl _⟩, ?_⟩
    refine HP.sep_mono H (fun y hy => ⟨xs ++ [(a', n0, c')], ⟨by simp [hx], by simp⟩, ?_⟩) fun y hy => HP.sep_right hy
    refine HP.sep_comm (HP.sep_mono (HP.tt_sep hy) (fun q _ => AllB.any (AllB.snoc (x := (a', n0, c')) (p := d1) ⟨hz2.symm, by omega⟩ hro hall)) fun q hq => ?_)
    rw [List.map_append]; exact hq
  · rintro _ rfl a n c P ⟨rfl, _, hP⟩
    refine ((HP.ent.refl (DRep b room ps lasts)).sep2 hP).trans (.of fun R h H => ⟨a, c, ⟨rfl, hD⟩, H⟩)
end Go.Proofs.Ytmibmjehjagmbaa

/- Maps as assertions: what each key stands for, by parts that never turn. No condition. -/
namespace Go.Proofs.Ytmibmjehjagmbaa
open Go.Proofs.Ytmibmjehjagmbaa RX

section
variable {κ : Type} [DecidableEq κ] {enc : κ → Value} {r c : Nat} {l : AL κ}

theorem alPut_none (k : κ) (v : Value) (c : Nat) : ∀ l : AL κ, alFind k l = none → alPut k v c l = l ++ [(k, v, c)]
  | [], _ => rfl
  | x :: l, h => by
    simp only [alFind] at h
    split at h
    · cases h
    · rename_i hk; simp [alPut, hk, alPut_none k v c l h]
theorem alPut_born (k : κ) (v : Value) (c : Nat) : ∀ l : AL κ, (alFind k l).isSome = true → (alPut k v c l).map (·.2.2) = l.map (·.2.2)
  | [], h => by cases h
  | x :: l, h => by
    simp only [alFind] at h
    simp only [alPut]
    split at h
    · rename_i hk; simp [hk]
    · rename_i hk; simp [hk, alPut_born k v c l h]
theorem MapI.nil (c : Nat) : MapI ([] : AL κ) c := ⟨List.nodup_nil, Stamps.nil c⟩
theorem MapI.put (h : MapI l c) (k : κ) (v : Value) : MapI (alPut k v c l) (alClock k l c) := by
  refine ⟨alPut_nodup k v c l h.1, ?_⟩
  unfold alClock
  cases hf : alFind k l with
  | none =>
    rw [alPut_none k v c l hf]
    exact h.2.snoc k v
  | some u =>
    have hb := alPut_born k v c l (by rw [hf]; rfl)
    refine ⟨fun x hx => ?_, by rw [hb]; exact h.2.nodup⟩
    have : x.2.2 ∈ (alPut k v c l).map (·.2.2) := List.mem_map.2 ⟨x, hx, rfl⟩
    rw [hb] at this
    obtain ⟨y, hy, e⟩ := List.mem_map.1 this
    rw [← e]
    exact h.2.low y hy
theorem alDel_sub (k : κ) : ∀ l : AL κ, (alDel k l).Sublist l
  | [] => List.Sublist.refl _
  | x :: l => by
    simp only [alDel]
    split
    · exact List.sublist_cons_self _ _
    · exact (alDel_sub k l).cons_cons _
theorem MapI.del (h : MapI l c) (k : κ) : MapI (alDel k l) c :=
  ⟨List.Nodup.sublist ((alDel_sub k l).map _) h.1, fun x hx => h.2.low x ((alDel_sub k l).subset hx), List.Nodup.sublist ((alDel_sub k l).map _) h.2.nodup⟩
theorem alFind_del (k k' : κ) : ∀ l : AL κ, (l.map (·.1)).Nodup → alFind k' (alDel k l) = if k' = k then none else alFind k' l
  | [], _ => by simp [alDel, alFind]
  | x :: l, h => by
    simp only [List.map_cons, List.nodup_cons] at h
    simp only [alDel]
    split
    · rename_i hk
      subst hk
      split
      · rename_i e
        subst e
        exact alFind_none_of _ l fun y hy e => h.1 (List.mem_map.2 ⟨y, hy, e⟩)
      · rename_i e; simp [alFind, e]
    · rename_i hk
      simp only [alFind]
      rw [alFind_del k k' l h.2]
      by_cases e : k' = x.1
      · rw [if_pos e, if_pos e, if_neg (fun e2 => hk (by rw [← e2, e]))]
      · rw [if_neg e, if_neg e]

/-- What a key's value stands for never turns. -/
def Pers {α : Type} (V : Value → α → HP) : Prop := ∀ v x R h h', (V v x).p R h → (V v x).p R h'
def Vals {α : Type} (V : Value → α → HP) (l : AL κ) (f : κ → Option α) : HP :=
  ⟨fun R h => ∀ k, match alFind k l, f k with
    | none, none => True
    | some v, some x => (V v x).p R h
    | _, _ => False,
   fun lR lh H k => by
    have := H k
    revert this
    cases alFind k l <;> cases f k <;> simp only [imp_self]
    exact fun p => (V _ _).mono lR lh p⟩
variable {α : Type} {V : Value → α → HP} {f : κ → Option α}
def fput (f : κ → Option α) (k : κ) (x : Option α) : κ → Option α := fun k' => if k' = k then x else f k'
theorem Vals.any (hV : Pers V) {R h h' : PH} (H : (Vals V l f).p R h) : (Vals V l f).p R h' := fun k => by
  have := H k
  revert this
  cases alFind k l <;> cases f k <;> simp only [imp_self]
  exact fun p => hV _ _ _ _ _ p
theorem Vals.nil {R h : PH} : (Vals V ([] : AL κ) (fun _ => none)).p R h := fun _ => trivial
theorem Vals.put {R h : PH} (H : (Vals V l f).p R h) (k : κ) (v : Value) (c : Nat) (x : α) (hv : (V v x).p R h) : (Vals V (alPut k v c l) (fput f k (some x))).p R h := fun k' => by
  rw [alFind_put, fput]
  by_cases e : k' = k
  · rw [if_pos e, if_pos e]; exact hv
  · rw [if_neg e, if_neg e]; exact H k'
theorem Vals.del {R h : PH} (H : (Vals V l f).p R h) (hn : (l.map (·.1)).Nodup) (k : κ) : (Vals V (alDel k l) (fput f k none)).p R h := fun k' => by
  rw [alFind_del _ _ _ hn, fput]
  by_cases e : k' = k
  · rw [if_pos e, if_pos e]; trivial
  · rw [if_neg e, if_neg e]; exact H k'
/-- A map. -/
def MapH (V : Value → α → HP) (enc : κ → Value) (r : Nat) (f : κ → Option α) (l : AL κ) (c : Nat) : HP := HP.and (MapI l c) (HP.sep (HP.one r (mapObj enc l c)) (Vals V l f))
def MapE (V : Value → α → HP) (enc : κ → Value) (r : Nat) (f : κ → Option α) : HP := HP.ex fun l => HP.ex fun c => MapH V enc r f l c
theorem MapE.new (V : Value → α → HP) (enc : κ → Value) (r : Nat) {R h : PH} (H : (HP.one r (.map #[] 0)).p R h) : (MapE V enc r (fun _ => none)).p R h :=
  ⟨[], 0, MapI.nil 0, HP.sep_mono (HP.sep_tt H) (fun _ h => h) fun _ _ => Vals.nil⟩
theorem MapH.at {R h : PH} (H : (MapH V enc r f l c).p R h) : h r = some (mapObj enc l c) := HP.sep_left H.2
theorem MapH.yes {R h : PH} (H : (MapH V enc r f l c).p R h) (hV : Pers V) {k : κ} {x : α} (e : f k = some x) (h' : PH) : ∃ v, alFind k l = some v ∧ (V v x).p R h' := by
  have := HP.sep_right H.2 k
  rw [e] at this
  revert this
  cases alFind k l with
  | none => exact fun h => h.elim
  | some v => exact fun h => ⟨v, rfl, hV _ _ _ _ _ h⟩
theorem MapH.no {R h : PH} (H : (MapH V enc r f l c).p R h) {k : κ} (e : f k = none) : alFind k l = none := by
  have := HP.sep_right H.2 k
  rw [e] at this
  revert this
  cases alFind k l with
  | none => exact fun _ => rfl
  | some v => exact fun h => h.elim
theorem MapH.put {kt et t : TypeId} (K : KeyEnc Try.prog kt enc) (ht : Try.prog.underlying t = some (.map kt et)) (hV : Pers V) (k : κ) (v : Value) (x : α) {A : HP} (hv : ∀ R h, A.p R h → (V v x).p R h) :
    OTri Try.prog (updS t (.map (some r)) (enc k) v) (HP.sep (MapH V enc r f l c) A) (fun z => HP.and (z = .tuple #[]) (HP.sep (MapE V enc r (fput f k (some x))) A)) := by
  refine OTri.fact (φ := MapI l c) (fun R h H => (HP.sep_left H).1) fun hI => ?_
  refine ((upd_ok (r := r) (l := l) (c := c) K ht k v).frame (HP.sep (Vals V l f) A)).weak (fun R h ⟨h1, h2, d, l1, l2, ⟨_, H⟩, hA⟩ => HP.sep_assoc ⟨h1, h2, d, l1, l2, H, hA⟩) ?_
  rintro z R h ⟨h1, h2, d, l1, l2, ⟨rfl, hone⟩, hrest⟩
  have hx := hv _ _ (HP.sep_right hrest)
  refine ⟨rfl, HP.sep_mono (HP.sep_assoc' ⟨h1, h2, d, l1, l2, hone, hrest⟩) (fun y hy => ⟨_, _, hI.put k v, HP.sep_mono hy (fun _ h => h) fun q hq => Vals.put hq k v c x (hV _ _ _ _ _ hx)⟩) fun _ h => h⟩
theorem MapH.del {kt et t : TypeId} (K : KeyEnc Try.prog kt enc) (ht : Try.prog.underlying t = some (.map kt et)) (k : κ) (ts : Array TypeId) (ty : TypeId) (h0 : ts[0]? = some t) :
    OTri Try.prog (delS ts ty (.map (some r)) (enc k)) (MapH V enc r f l c) (fun z => HP.and (z = .tuple #[]) (MapH V enc r (fput f k none) (alDel k l) c)) := by
  refine OTri.fact (φ := MapI l c) (fun R h H => H.1) fun hI => ?_
  refine ((del_ok (r := r) (l := l) (c := c) (ty := ty) K ht k ts h0).frame (Vals V l f)).weak (fun R h ⟨_, H⟩ => H) ?_
  rintro z R h ⟨h1, h2, d, l1, l2, ⟨rfl, hone⟩, hrest⟩
  exact ⟨rfl, hI.del k, h1, h2, d, l1, l2, hone, Vals.del hrest hI.1 k⟩
end
end Go.Proofs.Ytmibmjehjagmbaa

/- Trees of functions, printed by rx.lean. No condition. -/
namespace Go.Proofs.Ytmibmjehjagmbaa.RX
set_option maxRecDepth 100000
-- tideline/unit.number: ρ := [.i n]
def t_number : T :=
(.br (.o2 .le (.i 0) (.v 0))
 (.ret (.w (.a (.bool (.o2 .le (.v 0) (.i 2147483647))))) [])
 (.ret (.w (.a (.bool (.c false)))) []))
theorem tree_number : tree Try.prog { absT := [175, 183], opq := [], hv := [], keep := [103, 104, 73, 74, 95, 70, 71, 20, 38, 40, 106], link := [], ent := [], turn := [(105, [0])], shr := [], vt := [], mkd := [], rlink := [], pty := [], outl := false, stay := [], snk := [] } Try.f104 [(.a (.int .i64 (.v 0)))] [] 1 = t_number := by kernel_rfl
-- tideline/unit.proposal: ρ := [.i n, .i b_Round, .i b_Who]
def t_proposal : T :=
(.new
(.br (.o2 .le (.i 1) (.v 0))
 (.br (.o2 .le (.v 0) (.i 2147483647))
  (.call 104 [(.a (.int .i64 (.v 1)))] [] [.c] (.w (.a (.bool (.v 4)))) []
  (.br (.v 4)
   (.call 104 [(.a (.int .i64 (.v 2)))] [] [.c] (.w (.a (.bool (.v 5)))) []
   (.ret (.w (.a (.bool (.v 5)))) []))
   (.ret (.w (.a (.bool (.c false)))) [])))
  (.ret (.w (.a (.bool (.c false)))) []))
 (.ret (.w (.a (.bool (.c false)))) [])))
theorem tree_proposal : tree Try.prog { absT := [175, 183], opq := [], hv := [], keep := [103, 104, 73, 74, 95, 70, 71, 20, 38, 40, 106], link := [], ent := [], turn := [(105, [0])], shr := [], vt := [], mkd := [], rlink := [], pty := [], outl := false, stay := [], snk := [] } Try.f73 [(.a (.int .i64 (.v 0))), (.agg [(.int .i64 (.v 1)), (.int .i64 (.v 2))])] [] 3 = t_proposal := by kernel_rfl
-- tideline/unit.less: ρ := [.i b_Round, .i b_Who, .i other_Round, .i other_Who]
def t_less : T :=
(.new
(.new
(.br (.o2 .lt (.v 0) (.v 2))
 (.ret (.w (.a (.bool (.c true)))) [])
 (.br (.o2 .eq (.v 0) (.v 2))
  (.ret (.w (.a (.bool (.o2 .lt (.v 1) (.v 3))))) [])
  (.ret (.w (.a (.bool (.c false)))) [])))))
theorem tree_less : tree Try.prog { absT := [175, 183], opq := [], hv := [], keep := [103, 104, 73, 74, 95, 70, 71, 20, 38, 40, 106], link := [], ent := [], turn := [(105, [0])], shr := [], vt := [], mkd := [], rlink := [], pty := [], outl := false, stay := [], snk := [] } Try.f74 [(.agg [(.int .i64 (.v 0)), (.int .i64 (.v 1))]), (.agg [(.int .i64 (.v 2)), (.int .i64 (.v 3))])] [] 4 = t_less := by kernel_rfl
-- tideline/unit.address: ρ := [.i at]
def t_address : T :=
(.br (.o2 .le (.i 0) (.v 0))
 (.ret (.w (.a (.bool (.o2 .le (.v 0) (.i 4294967296))))) [])
 (.ret (.w (.a (.bool (.c false)))) []))
theorem tree_address : tree Try.prog { absT := [175, 183], opq := [], hv := [], keep := [103, 104, 73, 74, 95, 70, 71, 20, 38, 40, 106], link := [], ent := [], turn := [(105, [0])], shr := [], vt := [], mkd := [], rlink := [], pty := [], outl := false, stay := [], snk := [] } Try.f103 [(.a (.int .i64 (.v 0)))] [] 1 = t_address := by kernel_rfl
-- tideline/unit.standing: ρ := [.i x_What, .a x_Dataa, .n x_Datal, .n x_Datac, .p x_DataP]
def t_standing : T :=
(.new
(.br (.o2 .eq (.v 0) (.i 1))
 (.ret (.w (.a (.bool (.o2 .le (.o1 .ofNat (.v 2)) (.i 65536))))) [((.a 1), (.prop 4))])
 (.br (.o2 .eq (.v 0) (.i 2))
  (.ret (.w (.a (.bool (.o2 .eq (.o1 .ofNat (.v 2)) (.i 0))))) [((.a 1), (.prop 4))])
  (.ret (.w (.a (.bool (.c false)))) [((.a 1), (.prop 4))]))))
theorem tree_standing : tree Try.prog { absT := [175, 183], opq := [], hv := [], keep := [103, 104, 73, 74, 95, 70, 71, 20, 38, 40, 106], link := [], ent := [], turn := [(105, [0])], shr := [], vt := [], mkd := [], rlink := [], pty := [], outl := false, stay := [], snk := [] } Try.f95 [(.agg [(.int .i64 (.v 0)), (.sl (.v 1) (.v 2) (.v 3))])] [((.a 1), (.prop 4))] 5 = t_standing := by kernel_rfl
-- tideline/unit.page: ρ := [.i kind, .a numbersa, .n numbersl, .n numbersc, .p numbersP]
def t_page : T :=
(.new
(.call 114 [(.a (.ptr (.v 5) 0)), (.a (.int .u8 (.v 0)))] [((.b (.v 5)), (.cells [(.sl .nil (.n 0) (.n 0))] 175))] [.p] (.tup []) [((.b (.v 5)), (.prop 6))]
(.loop [.i, .p] [(.e (.o1 .neg (.o1 .neg (.i 0)))), (.p [((.b (.v 5)), (.prop 6))])]
 (.br (.o2 .lt (.v 7) (.o1 .ofNat (.v 2)))
  (.need (.o2 .le (.i 0) (.v 7))
  (.need (.o1 .isSome (.v 1))
  (.read (.load 3 (.tmp 17)) 3 [(17, (.w (.a (.eptr 1 (.v 7) 1 0))))] [((.a 1), (.prop 4))] [.i] (.w (.a (.int .i64 (.v 9))))
  (.call 115 [(.a (.ptr (.v 5) 0)), (.a (.int .u64 (.o1 (.wrap .u64) (.v 9)))), (.a (.int .i64 (.i 8)))] [((.b (.v 5)), (.prop 8))] [.p] (.tup []) [((.b (.v 5)), (.prop 10))]
  (.need (.o1 (.inr .i64) (.o2 .add (.v 7) (.i 1)))
  (.again 0 [(.e (.o1 .neg (.o1 .neg (.o2 .add (.v 7) (.i 1))))), (.p [((.b (.v 5)), (.prop 10))])]))))))
  (.ret (.w (.a (.ptr (.v 5) 0))) [((.a 1), (.prop 4)), ((.b (.v 5)), (.prop 8))])))))
theorem tree_page : tree Try.prog { absT := [175, 183], opq := [], hv := [(0, [(.b (.v 5))])], keep := [103, 104, 73, 74, 95, 70, 71, 20, 38, 40, 106], link := [], ent := [], turn := [(105, [0])], shr := [], vt := [], mkd := [], rlink := [], pty := [], outl := false, stay := [], snk := [] } Try.f76 [(.a (.int .u8 (.v 0))), (.a (.sl (.v 1) (.v 2) (.v 3)))] [((.a 1), (.prop 4))] 5 = t_page := by kernel_rfl
-- tideline/unit.cellPage: ρ := [.i at, .i x_What, .a x_Dataa, .n x_Datal, .n x_Datac, .p x_DataP]
def t_cellPage : T :=
(.new
(.br (.o2 .eq (.v 1) (.i 2))
 (.new
 (.call 76 [(.a (.int .u8 (.i 2))), (.a (.sl (.b (.v 7) 0) (.n 1) (.n 1)))] [((.b (.v 7)), (.cells [(.int .i64 (.v 0))] 3))] [.n, .p, .i] (.w (.a (.ptr (.v 8) 0))) [((.b (.v 8)), (.prop 9)), ((.b (.v 7)), (.cells [(.int .i64 (.v 10))] 3))]
 (.call 77 [(.a (.ptr (.v 8) 0))] [((.b (.v 8)), (.prop 9))] [.a, .n, .n, .p, .p] (.w (.a (.sl (.v 11) (.v 12) (.v 13)))) [((.a 11), (.prop 14)), ((.b (.v 8)), (.prop 15))]
 (.ret (.w (.a (.sl (.v 11) (.v 12) (.v 13)))) [((.a 2), (.prop 5)), ((.a 11), (.prop 14))]))))
 (.new
 (.call 76 [(.a (.int .u8 (.i 1))), (.a (.sl (.b (.v 7) 0) (.n 1) (.n 1)))] [((.b (.v 7)), (.cells [(.int .i64 (.v 0))] 3))] [.n, .p, .i] (.w (.a (.ptr (.v 8) 0))) [((.b (.v 8)), (.prop 9)), ((.b (.v 7)), (.cells [(.int .i64 (.v 10))] 3))]
 (.call 82 [(.a (.ptr (.v 8) 0)), (.a (.sl (.v 2) (.v 3) (.v 4)))] [((.b (.v 8)), (.prop 9)), ((.a 2), (.prop 5))] [.p, .p] (.tup []) [((.b (.v 8)), (.prop 11)), ((.a 2), (.prop 12))]
 (.call 77 [(.a (.ptr (.v 8) 0))] [((.b (.v 8)), (.prop 11))] [.a, .n, .n, .p, .p] (.w (.a (.sl (.v 13) (.v 14) (.v 15)))) [((.a 13), (.prop 16)), ((.b (.v 8)), (.prop 17))]
 (.ret (.w (.a (.sl (.v 13) (.v 14) (.v 15)))) [((.a 2), (.prop 12)), ((.a 13), (.prop 16))])))))))
theorem tree_cellPage : tree Try.prog { absT := [175, 183], opq := [], hv := [], keep := [103, 104, 73, 74, 95, 70, 71, 20, 38, 40, 106], link := [], ent := [], turn := [(105, [0])], shr := [], vt := [], mkd := [], rlink := [], pty := [], outl := false, stay := [], snk := [] } Try.f96 [(.a (.int .i64 (.v 0))), (.agg [(.int .i64 (.v 1)), (.sl (.v 2) (.v 3) (.v 4))])] [((.a 2), (.prop 5))] 6 = t_cellPage := by kernel_rfl
-- (*tideline/unit.Unit).Epoch: ρ := [.n u, .n u_d, .p u_dP, .i u_epoch, .i u_low, .i u_top, .n u_cells, .p u_cellsP, .n u_instances, .p u_instancesP]
def t_uEpoch : T :=
(.ret (.w (.a (.int .i64 (.v 3)))) [((.b (.v 0)), (.cells [(.ptr (.v 1) 0), (.int .i64 (.v 3)), (.int .i64 (.v 4)), (.int .i64 (.v 5)), (.map (.v 6)), (.map (.v 8))] 113)), ((.b (.v 1)), (.prop 2)), ((.b (.v 6)), (.prop 7)), ((.b (.v 8)), (.prop 9))])
theorem tree_uEpoch : tree Try.prog { absT := [175, 183], opq := [], hv := [], keep := [103, 104, 73, 74, 95, 70, 71, 20, 38, 40, 106], link := [], ent := [], turn := [(105, [0])], shr := [], vt := [], mkd := [], rlink := [], pty := [], outl := false, stay := [], snk := [] } Try.f20 [(.a (.ptr (.v 0) 0))] [((.b (.v 0)), (.cells [(.ptr (.v 1) 0), (.int .i64 (.v 3)), (.int .i64 (.v 4)), (.int .i64 (.v 5)), (.map (.v 6)), (.map (.v 8))] 113)), ((.b (.v 1)), (.prop 2)), ((.b (.v 6)), (.prop 7)), ((.b (.v 8)), (.prop 9))] 10 = t_uEpoch := by kernel_rfl
-- (*tideline/unit.Unit).Low: ρ := [.n u, .n u_d, .p u_dP, .i u_epoch, .i u_low, .i u_top, .n u_cells, .p u_cellsP, .n u_instances, .p u_instancesP]
def t_uLow : T :=
(.ret (.w (.a (.int .i64 (.v 4)))) [((.b (.v 0)), (.cells [(.ptr (.v 1) 0), (.int .i64 (.v 3)), (.int .i64 (.v 4)), (.int .i64 (.v 5)), (.map (.v 6)), (.map (.v 8))] 113)), ((.b (.v 1)), (.prop 2)), ((.b (.v 6)), (.prop 7)), ((.b (.v 8)), (.prop 9))])
theorem tree_uLow : tree Try.prog { absT := [175, 183], opq := [], hv := [], keep := [103, 104, 73, 74, 95, 70, 71, 20, 38, 40, 106], link := [], ent := [], turn := [(105, [0])], shr := [], vt := [], mkd := [], rlink := [], pty := [], outl := false, stay := [], snk := [] } Try.f38 [(.a (.ptr (.v 0) 0))] [((.b (.v 0)), (.cells [(.ptr (.v 1) 0), (.int .i64 (.v 3)), (.int .i64 (.v 4)), (.int .i64 (.v 5)), (.map (.v 6)), (.map (.v 8))] 113)), ((.b (.v 1)), (.prop 2)), ((.b (.v 6)), (.prop 7)), ((.b (.v 8)), (.prop 9))] 10 = t_uLow := by kernel_rfl
-- (*tideline/unit.Unit).Tail: ρ := [.n u, .n u_d, .p u_dP, .i u_epoch, .i u_low, .i u_top, .n u_cells, .p u_cellsP, .n u_instances, .p u_instancesP]
def t_uTail : T :=
(.ret (.w (.a (.int .i64 (.o2 .mx (.v 5) (.v 4))))) [((.b (.v 0)), (.cells [(.ptr (.v 1) 0), (.int .i64 (.v 3)), (.int .i64 (.v 4)), (.int .i64 (.v 5)), (.map (.v 6)), (.map (.v 8))] 113)), ((.b (.v 1)), (.prop 2)), ((.b (.v 6)), (.prop 7)), ((.b (.v 8)), (.prop 9))])
theorem tree_uTail : tree Try.prog { absT := [175, 183], opq := [], hv := [], keep := [103, 104, 73, 74, 95, 70, 71, 20, 38, 40, 106], link := [], ent := [], turn := [(105, [0])], shr := [], vt := [], mkd := [], rlink := [], pty := [], outl := false, stay := [], snk := [] } Try.f40 [(.a (.ptr (.v 0) 0))] [((.b (.v 0)), (.cells [(.ptr (.v 1) 0), (.int .i64 (.v 3)), (.int .i64 (.v 4)), (.int .i64 (.v 5)), (.map (.v 6)), (.map (.v 8))] 113)), ((.b (.v 1)), (.prop 2)), ((.b (.v 6)), (.prop 7)), ((.b (.v 8)), (.prop 9))] 10 = t_uTail := by kernel_rfl
-- (*tideline/unit.Unit).reach: ρ := [.n u, .n u_d, .p u_dP, .i u_epoch, .i u_low, .i u_top, .n u_cells, .p u_cellsP, .n u_instances, .p u_instancesP, .i epoch, .i at]
def t_uReach : T :=
(.br (.o1 .not (.o2 .eq (.v 10) (.v 3)))
 (.ret (.w (.a (.int .i64 (.i 8)))) [((.b (.v 0)), (.cells [(.ptr (.v 1) 0), (.int .i64 (.v 3)), (.int .i64 (.v 4)), (.int .i64 (.v 5)), (.map (.v 6)), (.map (.v 8))] 113)), ((.b (.v 1)), (.prop 2)), ((.b (.v 6)), (.prop 7)), ((.b (.v 8)), (.prop 9))])
 (.call 103 [(.a (.int .i64 (.v 11)))] [] [.c] (.w (.a (.bool (.v 12)))) []
 (.br (.o1 .not (.v 12))
  (.ret (.w (.a (.int .i64 (.i 2)))) [((.b (.v 0)), (.cells [(.ptr (.v 1) 0), (.int .i64 (.v 3)), (.int .i64 (.v 4)), (.int .i64 (.v 5)), (.map (.v 6)), (.map (.v 8))] 113)), ((.b (.v 1)), (.prop 2)), ((.b (.v 6)), (.prop 7)), ((.b (.v 8)), (.prop 9))])
  (.ret (.w (.a (.int .i64 (.i 0)))) [((.b (.v 0)), (.cells [(.ptr (.v 1) 0), (.int .i64 (.v 3)), (.int .i64 (.v 4)), (.int .i64 (.v 5)), (.map (.v 6)), (.map (.v 8))] 113)), ((.b (.v 1)), (.prop 2)), ((.b (.v 6)), (.prop 7)), ((.b (.v 8)), (.prop 9))]))))
theorem tree_uReach : tree Try.prog { absT := [175, 183], opq := [], hv := [], keep := [103, 104, 73, 74, 95, 70, 71, 20, 38, 40, 106], link := [], ent := [], turn := [(105, [0])], shr := [], vt := [], mkd := [], rlink := [], pty := [], outl := false, stay := [], snk := [] } Try.f70 [(.a (.ptr (.v 0) 0)), (.a (.int .i64 (.v 10))), (.a (.int .i64 (.v 11)))] [((.b (.v 0)), (.cells [(.ptr (.v 1) 0), (.int .i64 (.v 3)), (.int .i64 (.v 4)), (.int .i64 (.v 5)), (.map (.v 6)), (.map (.v 8))] 113)), ((.b (.v 1)), (.prop 2)), ((.b (.v 6)), (.prop 7)), ((.b (.v 8)), (.prop 9))] 12 = t_uReach := by kernel_rfl
-- (*tideline/unit.Unit).last: ρ := [.n u, .n u_d, .p u_dP, .i u_epoch, .i u_low, .i u_top, .n u_cells, .p u_cellsP, .n u_instances, .p u_instancesP, .a ba, .n bl, .n bc, .p bP]
def t_uLast : T :=
(.call 35 [(.a (.ptr (.v 1) 0)), (.a (.sl (.v 10) (.v 11) (.v 12)))] [((.b (.v 1)), (.prop 2)), ((.a 10), (.prop 13))] [.i, .p, .p] (.w (.a (.int .i64 (.v 14)))) [((.b (.v 1)), (.prop 15)), ((.a 10), (.prop 16))]
(.br (.o1 .not (.o2 .eq (.v 14) (.i 0)))
 (.ret (.w (.a (.int .i64 (.v 14)))) [((.b (.v 0)), (.cells [(.ptr (.v 1) 0), (.int .i64 (.v 3)), (.int .i64 (.v 4)), (.int .i64 (.v 5)), (.map (.v 6)), (.map (.v 8))] 113)), ((.b (.v 1)), (.prop 15)), ((.b (.v 6)), (.prop 7)), ((.b (.v 8)), (.prop 9)), ((.a 10), (.prop 16))])
 (.call 58 [(.a (.ptr (.v 1) 0))] [((.b (.v 1)), (.prop 15))] [.p] (.tup []) [((.b (.v 1)), (.prop 17))]
 (.ret (.w (.a (.int .i64 (.i 0)))) [((.b (.v 0)), (.cells [(.ptr (.v 1) 0), (.int .i64 (.v 3)), (.int .i64 (.v 4)), (.int .i64 (.v 5)), (.map (.v 6)), (.map (.v 8))] 113)), ((.b (.v 1)), (.prop 17)), ((.b (.v 6)), (.prop 7)), ((.b (.v 8)), (.prop 9)), ((.a 10), (.prop 16))]))))
theorem tree_uLast : tree Try.prog { absT := [175, 183], opq := [], hv := [], keep := [103, 104, 73, 74, 95, 70, 71, 20, 38, 40, 106], link := [], ent := [], turn := [(105, [0])], shr := [], vt := [], mkd := [], rlink := [], pty := [], outl := false, stay := [], snk := [] } Try.f75 [(.a (.ptr (.v 0) 0)), (.a (.sl (.v 10) (.v 11) (.v 12)))] [((.b (.v 0)), (.cells [(.ptr (.v 1) 0), (.int .i64 (.v 3)), (.int .i64 (.v 4)), (.int .i64 (.v 5)), (.map (.v 6)), (.map (.v 8))] 113)), ((.b (.v 1)), (.prop 2)), ((.b (.v 6)), (.prop 7)), ((.b (.v 8)), (.prop 9)), ((.a 10), (.prop 13))] 14 = t_uLast := by kernel_rfl
-- (*tideline/unit.Unit).put: ρ := [.n u, .n u_d, .p u_dP, .i u_epoch, .i u_low, .i u_top, .n u_cells, .p u_cellsP, .n u_instances, .p u_instancesP, .i at, .i x_What, .a x_Dataa, .n x_Datal, .n x_Datac, .p x_DataP]
def t_uPut : T :=
(.new
(.call 72 [(.a (.sl (.v 12) (.v 13) (.v 14)))] [((.a 12), (.prop 15))] [.a, .n, .n, .p, .p] (.w (.a (.sl (.v 17) (.v 18) (.v 19)))) [((.a 17), (.prop 20)), ((.a 12), (.prop 21))]
(.op (.mapUpdate 88 (.tmp 9) (.tmp 10) (.tmp 16)) 0 [(9, (.w (.a (.map (.v 6))))), (10, (.w (.a (.int .i64 (.v 10))))), (16, (.w (.agg [(.int .i64 (.v 11)), (.sl (.v 17) (.v 18) (.v 19))])))] [((.b (.v 6)), (.prop 7)), ((.a 17), (.prop 20))] [.p] (.tup []) [((.b (.v 6)), (.prop 22)), ((.a 17), (.prop 20))]
(.need (.o1 (.inr .i64) (.o2 .add (.v 10) (.i 1)))
(.ret (.tup []) [((.b (.v 0)), (.cells [(.ptr (.v 1) 0), (.int .i64 (.v 3)), (.int .i64 (.v 4)), (.int .i64 (.o2 .mx (.v 5) (.o2 .add (.v 10) (.i 1)))), (.map (.v 6)), (.map (.v 8))] 113)), ((.b (.v 1)), (.prop 2)), ((.b (.v 6)), (.prop 22)), ((.b (.v 8)), (.prop 9)), ((.a 12), (.prop 21))])))))
theorem tree_uPut : tree Try.prog { absT := [175, 183], opq := [], hv := [], keep := [103, 104, 73, 74, 95, 70, 71, 20, 38, 40, 106], link := [], ent := [], turn := [(105, [0])], shr := [], vt := [], mkd := [], rlink := [], pty := [], outl := false, stay := [], snk := [] } Try.f97 [(.a (.ptr (.v 0) 0)), (.a (.int .i64 (.v 10))), (.agg [(.int .i64 (.v 11)), (.sl (.v 12) (.v 13) (.v 14))])] [((.b (.v 0)), (.cells [(.ptr (.v 1) 0), (.int .i64 (.v 3)), (.int .i64 (.v 4)), (.int .i64 (.v 5)), (.map (.v 6)), (.map (.v 8))] 113)), ((.b (.v 1)), (.prop 2)), ((.b (.v 6)), (.prop 7)), ((.b (.v 8)), (.prop 9)), ((.a 12), (.prop 15))] 16 = t_uPut := by kernel_rfl
-- (*tideline/unit.Unit).cell: ρ := [.n u, .n u_d, .p u_dP, .i u_epoch, .i u_low, .i u_top, .n u_cells, .p u_cellsP, .n u_instances, .p u_instancesP, .i at]
def t_uCell : T :=
(.new
(.read (.lookup 88 (.tmp 12) (.tmp 13) true) 98 [(12, (.w (.a (.map (.v 6))))), (13, (.w (.a (.int .i64 (.v 10)))))] [((.b (.v 6)), (.prop 7))] [.i, .a, .n, .n, .c] (.tup [(.agg [(.int .i64 (.v 12)), (.sl (.v 13) (.v 14) (.v 15))]), (.a (.bool (.v 16)))])
(.new
(.call 72 [(.a (.sl (.v 13) (.v 14) (.v 15)))] [((.b (.v 6)), (.prop 7))] [.a, .n, .n, .p, .p] (.w (.a (.sl (.v 18) (.v 19) (.v 20)))) [((.a 18), (.prop 21)), ((.b (.v 6)), (.prop 22))]
(.ret (.tup [(.agg [(.int .i64 (.v 12)), (.sl (.v 18) (.v 19) (.v 20))]), (.a (.bool (.v 16)))]) [((.b (.v 0)), (.cells [(.ptr (.v 1) 0), (.int .i64 (.v 3)), (.int .i64 (.v 4)), (.int .i64 (.v 5)), (.map (.v 6)), (.map (.v 8))] 113)), ((.b (.v 1)), (.prop 2)), ((.b (.v 6)), (.prop 22)), ((.b (.v 8)), (.prop 9)), ((.a 18), (.prop 21))])))))
theorem tree_uCell : tree Try.prog { absT := [175, 183], opq := [], hv := [], keep := [103, 104, 73, 74, 95, 70, 71, 20, 38, 40, 106], link := [], ent := [], turn := [(105, [0])], shr := [], vt := [], mkd := [], rlink := [], pty := [], outl := false, stay := [], snk := [] } Try.f71 [(.a (.ptr (.v 0) 0)), (.a (.int .i64 (.v 10)))] [((.b (.v 0)), (.cells [(.ptr (.v 1) 0), (.int .i64 (.v 3)), (.int .i64 (.v 4)), (.int .i64 (.v 5)), (.map (.v 6)), (.map (.v 8))] 113)), ((.b (.v 1)), (.prop 2)), ((.b (.v 6)), (.prop 7)), ((.b (.v 8)), (.prop 9))] 11 = t_uCell := by kernel_rfl
-- (*tideline/unit.Unit).promise: ρ := [.n u, .n u_d, .p u_dP, .i u_epoch, .i u_low, .i u_top, .n u_cells, .p u_cellsP, .n u_instances, .p u_instancesP, .i n, .i b_Round, .i b_Who]
def t_uProm : T :=
(.new
(.read (.lookup 111 (.tmp 10) (.tmp 11) false) 133 [(10, (.w (.a (.map (.v 8))))), (11, (.w (.a (.int .i64 (.v 10)))))] [((.b (.v 8)), (.prop 9))] [.i, .i, .i, .i, .a, .n, .n] (.w (.agg [(.int .i64 (.v 14)), (.int .i64 (.v 15)), (.int .i64 (.v 16)), (.int .i64 (.v 17)), (.sl (.v 18) (.v 19) (.v 20))]))
(.new
(.op (.mapUpdate 111 (.tmp 18) (.tmp 19) (.tmp 20)) 0 [(18, (.w (.a (.map (.v 8))))), (19, (.w (.a (.int .i64 (.v 10))))), (20, (.w (.agg [(.int .i64 (.v 11)), (.int .i64 (.v 12)), (.int .i64 (.v 16)), (.int .i64 (.v 17)), (.sl (.v 18) (.v 19) (.v 20))])))] [((.b (.v 8)), (.prop 9))] [.p] (.tup []) [((.b (.v 8)), (.prop 22))]
(.ret (.tup []) [((.b (.v 0)), (.cells [(.ptr (.v 1) 0), (.int .i64 (.v 3)), (.int .i64 (.v 4)), (.int .i64 (.v 5)), (.map (.v 6)), (.map (.v 8))] 113)), ((.b (.v 1)), (.prop 2)), ((.b (.v 6)), (.prop 7)), ((.b (.v 8)), (.prop 22))])))))
theorem tree_uProm : tree Try.prog { absT := [175, 183], opq := [], hv := [], keep := [103, 104, 73, 74, 95, 70, 71, 20, 38, 40, 106], link := [], ent := [], turn := [(105, [0])], shr := [], vt := [], mkd := [], rlink := [], pty := [], outl := false, stay := [], snk := [] } Try.f78 [(.a (.ptr (.v 0) 0)), (.a (.int .i64 (.v 10))), (.agg [(.int .i64 (.v 11)), (.int .i64 (.v 12))])] [((.b (.v 0)), (.cells [(.ptr (.v 1) 0), (.int .i64 (.v 3)), (.int .i64 (.v 4)), (.int .i64 (.v 5)), (.map (.v 6)), (.map (.v 8))] 113)), ((.b (.v 1)), (.prop 2)), ((.b (.v 6)), (.prop 7)), ((.b (.v 8)), (.prop 9))] 13 = t_uProm := by kernel_rfl
-- (*tideline/unit.Unit).accept: ρ := [.n u, .n u_d, .p u_dP, .i u_epoch, .i u_low, .i u_top, .n u_cells, .p u_cellsP, .n u_instances, .p u_instancesP, .i n, .i b_Round, .i b_Who, .a valuea, .n valuel, .n valuec, .p valueP]
def t_uAcc : T :=
(.new
(.call 72 [(.a (.sl (.v 13) (.v 14) (.v 15)))] [((.a 13), (.prop 16))] [.a, .n, .n, .p, .p] (.w (.a (.sl (.v 18) (.v 19) (.v 20)))) [((.a 18), (.prop 21)), ((.a 13), (.prop 22))]
(.op (.mapUpdate 111 (.tmp 11) (.tmp 12) (.tmp 17)) 0 [(11, (.w (.a (.map (.v 8))))), (12, (.w (.a (.int .i64 (.v 10))))), (17, (.w (.agg [(.int .i64 (.v 11)), (.int .i64 (.v 12)), (.int .i64 (.v 11)), (.int .i64 (.v 12)), (.sl (.v 18) (.v 19) (.v 20))])))] [((.b (.v 8)), (.prop 9)), ((.a 18), (.prop 21))] [.p] (.tup []) [((.b (.v 8)), (.prop 23)), ((.a 18), (.prop 21))]
(.ret (.tup []) [((.b (.v 0)), (.cells [(.ptr (.v 1) 0), (.int .i64 (.v 3)), (.int .i64 (.v 4)), (.int .i64 (.v 5)), (.map (.v 6)), (.map (.v 8))] 113)), ((.b (.v 1)), (.prop 2)), ((.b (.v 6)), (.prop 7)), ((.b (.v 8)), (.prop 23)), ((.a 13), (.prop 22))]))))
theorem tree_uAcc : tree Try.prog { absT := [175, 183], opq := [], hv := [], keep := [103, 104, 73, 74, 95, 70, 71, 20, 38, 40, 106], link := [], ent := [], turn := [(105, [0])], shr := [], vt := [], mkd := [], rlink := [], pty := [], outl := false, stay := [], snk := [] } Try.f83 [(.a (.ptr (.v 0) 0)), (.a (.int .i64 (.v 10))), (.agg [(.int .i64 (.v 11)), (.int .i64 (.v 12))]), (.a (.sl (.v 13) (.v 14) (.v 15)))] [((.b (.v 0)), (.cells [(.ptr (.v 1) 0), (.int .i64 (.v 3)), (.int .i64 (.v 4)), (.int .i64 (.v 5)), (.map (.v 6)), (.map (.v 8))] 113)), ((.b (.v 1)), (.prop 2)), ((.b (.v 6)), (.prop 7)), ((.b (.v 8)), (.prop 9)), ((.a 13), (.prop 16))] 17 = t_uAcc := by kernel_rfl
-- (*tideline/unit.Unit).forget$1: ρ := [.i at, .i __What, .a __Dataa, .n __Datal, .n __Datac, .p __DataP, .n u, .n u, .n u_d, .p u_dP, .i u_epoch, .i u_low, .i u_top, .n u_cells, .p u_cellsP, .n u_instances, .p u_instancesP]
def t_uFor1 : T :=
(.new
(.ret (.w (.a (.bool (.o2 .lt (.v 0) (.v 11))))) [((.a 2), (.prop 5)), ((.b (.v 6)), (.cells [(.ptr (.v 7) 0)] 26)), ((.b (.v 7)), (.cells [(.ptr (.v 8) 0), (.int .i64 (.v 10)), (.int .i64 (.v 11)), (.int .i64 (.v 12)), (.map (.v 13)), (.map (.v 15))] 113)), ((.b (.v 8)), (.prop 9)), ((.b (.v 13)), (.prop 14)), ((.b (.v 15)), (.prop 16))]))
theorem tree_uFor1 : tree Try.prog { absT := [175, 183], opq := [], hv := [], keep := [103, 104, 73, 74, 95, 70, 71, 20, 38, 40, 106], link := [], ent := [], turn := [(105, [0])], shr := [], vt := [], mkd := [], rlink := [], pty := [], outl := false, stay := [], snk := [] } Try.f106 [(.a (.int .i64 (.v 0))), (.agg [(.int .i64 (.v 1)), (.sl (.v 2) (.v 3) (.v 4))]), (.a (.ptr (.v 6) 0))] [((.a 2), (.prop 5)), ((.b (.v 6)), (.cells [(.ptr (.v 7) 0)] 26)), ((.b (.v 7)), (.cells [(.ptr (.v 8) 0), (.int .i64 (.v 10)), (.int .i64 (.v 11)), (.int .i64 (.v 12)), (.map (.v 13)), (.map (.v 15))] 113)), ((.b (.v 8)), (.prop 9)), ((.b (.v 13)), (.prop 14)), ((.b (.v 15)), (.prop 16))] 17 = t_uFor1 := by kernel_rfl
-- maps.DeleteFunc[map[int]tideline/api.Cell,int,tideline/api.Cell]
def t_delF : T :=
(.op (.range 88 (.tmp 6)) 0 [(6, (.w (.a (.map (.v 0)))))] [((.b (.v 0)), (.prop 1))] [.n, .p, .p] (.w (.a (.ptr (.v 11) 0))) [((.b (.v 11)), (.prop 12)), ((.b (.v 0)), (.prop 13))]
(.loop [.p, .p] [(.p [((.b (.v 11)), (.prop 12))]), (.p [((.b (.v 0)), (.prop 13))])]
 (.op (.next (.tmp 7) false) 0 [(7, (.w (.a (.ptr (.v 11) 0))))] [((.b (.v 11)), (.prop 14)), ((.b (.v 0)), (.prop 15))] [.c, .v, .v, .p] (.nx 16 17 18) [((.b (.v 11)), (.prop 19)), ((.b (.v 0)), (.prop 15))]
 (.br (.v 16)
  (.read (.entry (.tmp 7)) 0 [(7, (.w (.a (.ptr (.v 11) 0))))] [((.b (.v 11)), (.prop 19)), ((.b (.v 0)), (.prop 15))] [.i, .i, .a, .n, .n] (.tup [(.a (.int .i64 (.v 20))), (.agg [(.int .i64 (.v 21)), (.sl (.v 22) (.v 23) (.v 24))])])
  (.new
  (.call 106 [(.a (.int .i64 (.v 20))), (.agg [(.int .i64 (.v 21)), (.sl (.v 22) (.v 23) (.v 24))]), (.a (.ptr (.v 2) 0))] [((.b (.v 0)), (.prop 15)), ((.b (.v 2)), (.cells [(.ptr (.v 3) 0)] 26)), ((.b (.v 3)), (.cells [(.ptr (.v 4) 0), (.int .i64 (.v 6)), (.int .i64 (.v 7)), (.int .i64 (.v 8)), (.map (.v 0)), (.map (.v 9))] 113)), ((.b (.v 4)), (.prop 5)), ((.b (.v 9)), (.prop 10))] [.c] (.w (.a (.bool (.v 26)))) [((.b (.v 0)), (.prop 15)), ((.b (.v 2)), (.cells [(.ptr (.v 3) 0)] 26)), ((.b (.v 3)), (.cells [(.ptr (.v 4) 0), (.int .i64 (.v 6)), (.int .i64 (.v 7)), (.int .i64 (.v 8)), (.map (.v 0)), (.map (.v 9))] 113)), ((.b (.v 4)), (.prop 5)), ((.b (.v 9)), (.prop 10))]
  (.br (.v 26)
   (.op (.call ⟨.builtin .delete, #[(.tmp 17), (.tmp 18)], #[88, 3]⟩) 0 [(17, (.w (.a (.map (.v 0))))), (18, (.w (.a (.int .i64 (.v 20)))))] [((.b (.v 0)), (.prop 15))] [.p] (.tup []) [((.b (.v 0)), (.prop 27))]
   (.again 0 [(.p [((.b (.v 11)), (.prop 19))]), (.p [((.b (.v 0)), (.prop 27))])]))
   (.again 0 [(.p [((.b (.v 11)), (.prop 19))]), (.p [((.b (.v 0)), (.prop 15))])])))))
  (.ret (.tup []) [((.b (.v 0)), (.prop 15)), ((.b (.v 2)), (.cells [(.ptr (.v 3) 0)] 26)), ((.b (.v 3)), (.cells [(.ptr (.v 4) 0), (.int .i64 (.v 6)), (.int .i64 (.v 7)), (.int .i64 (.v 8)), (.map (.v 0)), (.map (.v 9))] 113)), ((.b (.v 4)), (.prop 5)), ((.b (.v 9)), (.prop 10))])))))
theorem tree_delF : tree Try.prog { absT := [175, 183], opq := [], hv := [(0, [(.b (.v 11)), (.b (.v 0))])], keep := [103, 104, 73, 74, 95, 70, 71, 20, 38, 40, 106], link := [], ent := [(10, [3, 32])], turn := [(105, [0])], shr := [], vt := [], mkd := [], rlink := [], pty := [], outl := false, stay := [], snk := [] } Try.f105 [(.a (.map (.v 0))), (.a (.func 106 [((.v 2), 0)]))] [((.b (.v 0)), (.prop 1)), ((.b (.v 2)), (.cells [(.ptr (.v 3) 0)] 26)), ((.b (.v 3)), (.cells [(.ptr (.v 4) 0), (.int .i64 (.v 6)), (.int .i64 (.v 7)), (.int .i64 (.v 8)), (.map (.v 0)), (.map (.v 9))] 113)), ((.b (.v 4)), (.prop 5)), ((.b (.v 9)), (.prop 10))] 11 = t_delF := by kernel_rfl
-- (*tideline/unit.Unit).forget: ρ := [.n u, .n u_d, .p u_dP, .i u_epoch, .i u_low, .i u_top, .n u_cells, .p u_cellsP, .n u_instances, .p u_instancesP]
def t_uForget : T :=
(.new
(.call 105 [(.a (.map (.v 6))), (.a (.func 106 [((.v 10), 0)]))] [((.b (.v 6)), (.prop 7)), ((.b (.v 10)), (.cells [(.ptr (.v 0) 0)] 26)), ((.b (.v 0)), (.cells [(.ptr (.v 1) 0), (.int .i64 (.v 3)), (.int .i64 (.v 4)), (.int .i64 (.v 5)), (.map (.v 6)), (.map (.v 8))] 113)), ((.b (.v 1)), (.prop 2)), ((.b (.v 8)), (.prop 9))] [.p] (.tup []) [((.b (.v 6)), (.prop 11)), ((.b (.v 10)), (.cells [(.ptr (.v 0) 0)] 26)), ((.b (.v 0)), (.cells [(.ptr (.v 1) 0), (.int .i64 (.v 3)), (.int .i64 (.v 4)), (.int .i64 (.v 5)), (.map (.v 6)), (.map (.v 8))] 113)), ((.b (.v 1)), (.prop 2)), ((.b (.v 8)), (.prop 9))]
(.ret (.tup []) [((.b (.v 0)), (.cells [(.ptr (.v 1) 0), (.int .i64 (.v 3)), (.int .i64 (.v 4)), (.int .i64 (.v 5)), (.map (.v 6)), (.map (.v 8))] 113)), ((.b (.v 1)), (.prop 2)), ((.b (.v 6)), (.prop 11)), ((.b (.v 8)), (.prop 9))])))
theorem tree_uForget : tree Try.prog { absT := [175, 183], opq := [], hv := [], keep := [103, 104, 73, 74, 95, 70, 71, 20, 38, 40, 106], link := [], ent := [], turn := [(105, [0])], shr := [], vt := [], mkd := [], rlink := [], pty := [], outl := false, stay := [], snk := [] } Try.f60 [(.a (.ptr (.v 0) 0))] [((.b (.v 0)), (.cells [(.ptr (.v 1) 0), (.int .i64 (.v 3)), (.int .i64 (.v 4)), (.int .i64 (.v 5)), (.map (.v 6)), (.map (.v 8))] 113)), ((.b (.v 1)), (.prop 2)), ((.b (.v 6)), (.prop 7)), ((.b (.v 8)), (.prop 9))] 10 = t_uForget := by kernel_rfl
-- (*tideline/unit.Unit).follow: ρ := [.n u, .n u_d, .p u_dP, .i u_epoch, .i u_low, .i u_top, .n u_cells, .p u_cellsP, .n u_instances, .p u_instancesP, .a ba, .n bl, .n bc, .p bP]
def t_uFollow : T :=
(.call 98 [(.a (.sl (.v 10) (.v 11) (.v 12)))] [((.a 10), (.prop 13))] [.n, .p, .p] (.w (.a (.ptr (.v 14) 0))) [((.b (.v 14)), (.prop 15)), ((.a 10), (.prop 16))]
(.call 99 [(.a (.ptr (.v 14) 0))] [((.b (.v 14)), (.prop 15))] [.i, .p] (.w (.a (.int .u8 (.v 17)))) [((.b (.v 14)), (.prop 18))]
(.call 100 [(.a (.ptr (.v 14) 0))] [((.b (.v 14)), (.prop 18))] [.i, .p] (.w (.a (.int .i64 (.v 19)))) [((.b (.v 14)), (.prop 20))]
(.br (.o2 .eq (.v 17) (.i 1))
 (.call 101 [(.a (.ptr (.v 14) 0)), (.a (.int .i64 (.i 65536)))] [((.b (.v 14)), (.prop 20))] [.a, .n, .n, .p, .p] (.w (.a (.sl (.v 21) (.v 22) (.v 23)))) [((.a 21), (.prop 24)), ((.b (.v 14)), (.prop 25))]
 (.new
 (.call 102 [(.a (.ptr (.v 14) 0))] [((.b (.v 14)), (.prop 25))] [.i, .p] (.w (.a (.int .i64 (.v 27)))) [((.b (.v 14)), (.prop 28))]
 (.br (.o1 .not (.o2 .eq (.v 27) (.i 0)))
  (.ret (.w (.a (.bool (.c false)))) [((.b (.v 0)), (.cells [(.ptr (.v 1) 0), (.int .i64 (.v 3)), (.int .i64 (.v 4)), (.int .i64 (.v 5)), (.map (.v 6)), (.map (.v 8))] 113)), ((.b (.v 1)), (.prop 2)), ((.b (.v 6)), (.prop 7)), ((.b (.v 8)), (.prop 9)), ((.a 10), (.prop 16))])
  (.call 103 [(.a (.int .i64 (.v 19)))] [] [.c] (.w (.a (.bool (.v 29)))) []
  (.br (.o1 .not (.v 29))
   (.ret (.w (.a (.bool (.c false)))) [((.b (.v 0)), (.cells [(.ptr (.v 1) 0), (.int .i64 (.v 3)), (.int .i64 (.v 4)), (.int .i64 (.v 5)), (.map (.v 6)), (.map (.v 8))] 113)), ((.b (.v 1)), (.prop 2)), ((.b (.v 6)), (.prop 7)), ((.b (.v 8)), (.prop 9)), ((.a 10), (.prop 16))])
   (.call 97 [(.a (.ptr (.v 0) 0)), (.a (.int .i64 (.v 19))), (.agg [(.int .i64 (.i 1)), (.sl (.v 21) (.v 22) (.v 23))])] [((.b (.v 0)), (.cells [(.ptr (.v 1) 0), (.int .i64 (.v 3)), (.int .i64 (.v 4)), (.int .i64 (.v 5)), (.map (.v 6)), (.map (.v 8))] 113)), ((.b (.v 1)), (.prop 2)), ((.b (.v 6)), (.prop 7)), ((.b (.v 8)), (.prop 9)), ((.a 21), (.prop 24))] [.n, .p, .i, .i, .i, .n, .p, .n, .p, .p] (.tup []) [((.b (.v 0)), (.cells [(.ptr (.v 30) 0), (.int .i64 (.v 32)), (.int .i64 (.v 33)), (.int .i64 (.v 34)), (.map (.v 35)), (.map (.v 37))] 113)), ((.b (.v 30)), (.prop 31)), ((.b (.v 35)), (.prop 36)), ((.b (.v 37)), (.prop 38)), ((.a 21), (.prop 39))]
   (.ret (.w (.a (.bool (.c true)))) [((.b (.v 0)), (.cells [(.ptr (.v 30) 0), (.int .i64 (.v 32)), (.int .i64 (.v 33)), (.int .i64 (.v 34)), (.map (.v 35)), (.map (.v 37))] 113)), ((.b (.v 30)), (.prop 31)), ((.b (.v 35)), (.prop 36)), ((.b (.v 37)), (.prop 38)), ((.a 10), (.prop 16))]))))))))
 (.br (.o2 .eq (.v 17) (.i 2))
  (.call 102 [(.a (.ptr (.v 14) 0))] [((.b (.v 14)), (.prop 20))] [.i, .p] (.w (.a (.int .i64 (.v 21)))) [((.b (.v 14)), (.prop 22))]
  (.br (.o1 .not (.o2 .eq (.v 21) (.i 0)))
   (.ret (.w (.a (.bool (.c false)))) [((.b (.v 0)), (.cells [(.ptr (.v 1) 0), (.int .i64 (.v 3)), (.int .i64 (.v 4)), (.int .i64 (.v 5)), (.map (.v 6)), (.map (.v 8))] 113)), ((.b (.v 1)), (.prop 2)), ((.b (.v 6)), (.prop 7)), ((.b (.v 8)), (.prop 9)), ((.a 10), (.prop 16))])
   (.call 103 [(.a (.int .i64 (.v 19)))] [] [.c] (.w (.a (.bool (.v 23)))) []
   (.br (.o1 .not (.v 23))
    (.ret (.w (.a (.bool (.c false)))) [((.b (.v 0)), (.cells [(.ptr (.v 1) 0), (.int .i64 (.v 3)), (.int .i64 (.v 4)), (.int .i64 (.v 5)), (.map (.v 6)), (.map (.v 8))] 113)), ((.b (.v 1)), (.prop 2)), ((.b (.v 6)), (.prop 7)), ((.b (.v 8)), (.prop 9)), ((.a 10), (.prop 16))])
    (.call 97 [(.a (.ptr (.v 0) 0)), (.a (.int .i64 (.v 19))), (.agg [(.int .i64 (.i 2)), (.sl .nil (.n 0) (.n 0))])] [((.b (.v 0)), (.cells [(.ptr (.v 1) 0), (.int .i64 (.v 3)), (.int .i64 (.v 4)), (.int .i64 (.v 5)), (.map (.v 6)), (.map (.v 8))] 113)), ((.b (.v 1)), (.prop 2)), ((.b (.v 6)), (.prop 7)), ((.b (.v 8)), (.prop 9))] [.n, .p, .i, .i, .i, .n, .p, .n, .p] (.tup []) [((.b (.v 0)), (.cells [(.ptr (.v 24) 0), (.int .i64 (.v 26)), (.int .i64 (.v 27)), (.int .i64 (.v 28)), (.map (.v 29)), (.map (.v 31))] 113)), ((.b (.v 24)), (.prop 25)), ((.b (.v 29)), (.prop 30)), ((.b (.v 31)), (.prop 32))]
    (.ret (.w (.a (.bool (.c true)))) [((.b (.v 0)), (.cells [(.ptr (.v 24) 0), (.int .i64 (.v 26)), (.int .i64 (.v 27)), (.int .i64 (.v 28)), (.map (.v 29)), (.map (.v 31))] 113)), ((.b (.v 24)), (.prop 25)), ((.b (.v 29)), (.prop 30)), ((.b (.v 31)), (.prop 32)), ((.a 10), (.prop 16))]))))))
  (.br (.o2 .eq (.v 17) (.i 3))
   (.call 102 [(.a (.ptr (.v 14) 0))] [((.b (.v 14)), (.prop 20))] [.i, .p] (.w (.a (.int .i64 (.v 21)))) [((.b (.v 14)), (.prop 22))]
   (.br (.o1 .not (.o2 .eq (.v 21) (.i 0)))
    (.ret (.w (.a (.bool (.c false)))) [((.b (.v 0)), (.cells [(.ptr (.v 1) 0), (.int .i64 (.v 3)), (.int .i64 (.v 4)), (.int .i64 (.v 5)), (.map (.v 6)), (.map (.v 8))] 113)), ((.b (.v 1)), (.prop 2)), ((.b (.v 6)), (.prop 7)), ((.b (.v 8)), (.prop 9)), ((.a 10), (.prop 16))])
    (.call 103 [(.a (.int .i64 (.v 19)))] [] [.c] (.w (.a (.bool (.v 23)))) []
    (.br (.o1 .not (.v 23))
     (.ret (.w (.a (.bool (.c false)))) [((.b (.v 0)), (.cells [(.ptr (.v 1) 0), (.int .i64 (.v 3)), (.int .i64 (.v 4)), (.int .i64 (.v 5)), (.map (.v 6)), (.map (.v 8))] 113)), ((.b (.v 1)), (.prop 2)), ((.b (.v 6)), (.prop 7)), ((.b (.v 8)), (.prop 9)), ((.a 10), (.prop 16))])
     (.ret (.w (.a (.bool (.c true)))) [((.b (.v 0)), (.cells [(.ptr (.v 1) 0), (.int .i64 (.v 3)), (.int .i64 (.v 19)), (.int .i64 (.v 5)), (.map (.v 6)), (.map (.v 8))] 113)), ((.b (.v 1)), (.prop 2)), ((.b (.v 6)), (.prop 7)), ((.b (.v 8)), (.prop 9)), ((.a 10), (.prop 16))])))))
   (.br (.o2 .eq (.v 17) (.i 4))
    (.call 102 [(.a (.ptr (.v 14) 0))] [((.b (.v 14)), (.prop 20))] [.i, .p] (.w (.a (.int .i64 (.v 21)))) [((.b (.v 14)), (.prop 22))]
    (.br (.o1 .not (.o2 .eq (.v 21) (.i 0)))
     (.ret (.w (.a (.bool (.c false)))) [((.b (.v 0)), (.cells [(.ptr (.v 1) 0), (.int .i64 (.v 3)), (.int .i64 (.v 4)), (.int .i64 (.v 5)), (.map (.v 6)), (.map (.v 8))] 113)), ((.b (.v 1)), (.prop 2)), ((.b (.v 6)), (.prop 7)), ((.b (.v 8)), (.prop 9)), ((.a 10), (.prop 16))])
     (.call 104 [(.a (.int .i64 (.v 19)))] [] [.c] (.w (.a (.bool (.v 23)))) []
     (.br (.o1 .not (.v 23))
      (.ret (.w (.a (.bool (.c false)))) [((.b (.v 0)), (.cells [(.ptr (.v 1) 0), (.int .i64 (.v 3)), (.int .i64 (.v 4)), (.int .i64 (.v 5)), (.map (.v 6)), (.map (.v 8))] 113)), ((.b (.v 1)), (.prop 2)), ((.b (.v 6)), (.prop 7)), ((.b (.v 8)), (.prop 9)), ((.a 10), (.prop 16))])
      (.ret (.w (.a (.bool (.c true)))) [((.b (.v 0)), (.cells [(.ptr (.v 1) 0), (.int .i64 (.v 19)), (.int .i64 (.v 4)), (.int .i64 (.v 5)), (.map (.v 6)), (.map (.v 8))] 113)), ((.b (.v 1)), (.prop 2)), ((.b (.v 6)), (.prop 7)), ((.b (.v 8)), (.prop 9)), ((.a 10), (.prop 16))])))))
    (.br (.o2 .eq (.v 17) (.i 5))
     (.call 100 [(.a (.ptr (.v 14) 0))] [((.b (.v 14)), (.prop 20))] [.i, .p] (.w (.a (.int .i64 (.v 21)))) [((.b (.v 14)), (.prop 22))]
     (.call 100 [(.a (.ptr (.v 14) 0))] [((.b (.v 14)), (.prop 22))] [.i, .p] (.w (.a (.int .i64 (.v 23)))) [((.b (.v 14)), (.prop 24))]
     (.new
     (.call 102 [(.a (.ptr (.v 14) 0))] [((.b (.v 14)), (.prop 24))] [.i, .p] (.w (.a (.int .i64 (.v 26)))) [((.b (.v 14)), (.prop 27))]
     (.br (.o1 .not (.o2 .eq (.v 26) (.i 0)))
      (.ret (.w (.a (.bool (.c false)))) [((.b (.v 0)), (.cells [(.ptr (.v 1) 0), (.int .i64 (.v 3)), (.int .i64 (.v 4)), (.int .i64 (.v 5)), (.map (.v 6)), (.map (.v 8))] 113)), ((.b (.v 1)), (.prop 2)), ((.b (.v 6)), (.prop 7)), ((.b (.v 8)), (.prop 9)), ((.a 10), (.prop 16))])
      (.call 73 [(.a (.int .i64 (.v 19))), (.agg [(.int .i64 (.v 21)), (.int .i64 (.v 23))])] [] [.c] (.w (.a (.bool (.v 28)))) []
      (.br (.o1 .not (.v 28))
       (.ret (.w (.a (.bool (.c false)))) [((.b (.v 0)), (.cells [(.ptr (.v 1) 0), (.int .i64 (.v 3)), (.int .i64 (.v 4)), (.int .i64 (.v 5)), (.map (.v 6)), (.map (.v 8))] 113)), ((.b (.v 1)), (.prop 2)), ((.b (.v 6)), (.prop 7)), ((.b (.v 8)), (.prop 9)), ((.a 10), (.prop 16))])
       (.call 78 [(.a (.ptr (.v 0) 0)), (.a (.int .i64 (.v 19))), (.agg [(.int .i64 (.v 21)), (.int .i64 (.v 23))])] [((.b (.v 0)), (.cells [(.ptr (.v 1) 0), (.int .i64 (.v 3)), (.int .i64 (.v 4)), (.int .i64 (.v 5)), (.map (.v 6)), (.map (.v 8))] 113)), ((.b (.v 1)), (.prop 2)), ((.b (.v 6)), (.prop 7)), ((.b (.v 8)), (.prop 9))] [.n, .p, .i, .i, .i, .n, .p, .n, .p] (.tup []) [((.b (.v 0)), (.cells [(.ptr (.v 29) 0), (.int .i64 (.v 31)), (.int .i64 (.v 32)), (.int .i64 (.v 33)), (.map (.v 34)), (.map (.v 36))] 113)), ((.b (.v 29)), (.prop 30)), ((.b (.v 34)), (.prop 35)), ((.b (.v 36)), (.prop 37))]
       (.ret (.w (.a (.bool (.c true)))) [((.b (.v 0)), (.cells [(.ptr (.v 29) 0), (.int .i64 (.v 31)), (.int .i64 (.v 32)), (.int .i64 (.v 33)), (.map (.v 34)), (.map (.v 36))] 113)), ((.b (.v 29)), (.prop 30)), ((.b (.v 34)), (.prop 35)), ((.b (.v 36)), (.prop 37)), ((.a 10), (.prop 16))])))))))))
     (.br (.o2 .eq (.v 17) (.i 6))
      (.call 100 [(.a (.ptr (.v 14) 0))] [((.b (.v 14)), (.prop 20))] [.i, .p] (.w (.a (.int .i64 (.v 21)))) [((.b (.v 14)), (.prop 22))]
      (.call 100 [(.a (.ptr (.v 14) 0))] [((.b (.v 14)), (.prop 22))] [.i, .p] (.w (.a (.int .i64 (.v 23)))) [((.b (.v 14)), (.prop 24))]
      (.new
      (.call 101 [(.a (.ptr (.v 14) 0)), (.a (.int .i64 (.i 1000)))] [((.b (.v 14)), (.prop 24))] [.a, .n, .n, .p, .p] (.w (.a (.sl (.v 26) (.v 27) (.v 28)))) [((.a 26), (.prop 29)), ((.b (.v 14)), (.prop 30))]
      (.call 102 [(.a (.ptr (.v 14) 0))] [((.b (.v 14)), (.prop 30))] [.i, .p] (.w (.a (.int .i64 (.v 31)))) [((.b (.v 14)), (.prop 32))]
      (.br (.o1 .not (.o2 .eq (.v 31) (.i 0)))
       (.ret (.w (.a (.bool (.c false)))) [((.b (.v 0)), (.cells [(.ptr (.v 1) 0), (.int .i64 (.v 3)), (.int .i64 (.v 4)), (.int .i64 (.v 5)), (.map (.v 6)), (.map (.v 8))] 113)), ((.b (.v 1)), (.prop 2)), ((.b (.v 6)), (.prop 7)), ((.b (.v 8)), (.prop 9)), ((.a 10), (.prop 16))])
       (.call 73 [(.a (.int .i64 (.v 19))), (.agg [(.int .i64 (.v 21)), (.int .i64 (.v 23))])] [] [.c] (.w (.a (.bool (.v 33)))) []
       (.br (.o1 .not (.v 33))
        (.ret (.w (.a (.bool (.c false)))) [((.b (.v 0)), (.cells [(.ptr (.v 1) 0), (.int .i64 (.v 3)), (.int .i64 (.v 4)), (.int .i64 (.v 5)), (.map (.v 6)), (.map (.v 8))] 113)), ((.b (.v 1)), (.prop 2)), ((.b (.v 6)), (.prop 7)), ((.b (.v 8)), (.prop 9)), ((.a 10), (.prop 16))])
        (.call 83 [(.a (.ptr (.v 0) 0)), (.a (.int .i64 (.v 19))), (.agg [(.int .i64 (.v 21)), (.int .i64 (.v 23))]), (.a (.sl (.v 26) (.v 27) (.v 28)))] [((.b (.v 0)), (.cells [(.ptr (.v 1) 0), (.int .i64 (.v 3)), (.int .i64 (.v 4)), (.int .i64 (.v 5)), (.map (.v 6)), (.map (.v 8))] 113)), ((.b (.v 1)), (.prop 2)), ((.b (.v 6)), (.prop 7)), ((.b (.v 8)), (.prop 9)), ((.a 26), (.prop 29))] [.n, .p, .i, .i, .i, .n, .p, .n, .p, .p] (.tup []) [((.b (.v 0)), (.cells [(.ptr (.v 34) 0), (.int .i64 (.v 36)), (.int .i64 (.v 37)), (.int .i64 (.v 38)), (.map (.v 39)), (.map (.v 41))] 113)), ((.b (.v 34)), (.prop 35)), ((.b (.v 39)), (.prop 40)), ((.b (.v 41)), (.prop 42)), ((.a 26), (.prop 43))]
        (.ret (.w (.a (.bool (.c true)))) [((.b (.v 0)), (.cells [(.ptr (.v 34) 0), (.int .i64 (.v 36)), (.int .i64 (.v 37)), (.int .i64 (.v 38)), (.map (.v 39)), (.map (.v 41))] 113)), ((.b (.v 34)), (.prop 35)), ((.b (.v 39)), (.prop 40)), ((.b (.v 41)), (.prop 42)), ((.a 10), (.prop 16))]))))))))))
      (.ret (.w (.a (.bool (.c false)))) [((.b (.v 0)), (.cells [(.ptr (.v 1) 0), (.int .i64 (.v 3)), (.int .i64 (.v 4)), (.int .i64 (.v 5)), (.map (.v 6)), (.map (.v 8))] 113)), ((.b (.v 1)), (.prop 2)), ((.b (.v 6)), (.prop 7)), ((.b (.v 8)), (.prop 9)), ((.a 10), (.prop 16))]))))))))))
theorem tree_uFollow : tree Try.prog { absT := [175, 183], opq := [], hv := [], keep := [103, 104, 73, 74, 95, 70, 71, 20, 38, 40, 106], link := [], ent := [], turn := [(105, [0])], shr := [], vt := [], mkd := [], rlink := [], pty := [], outl := false, stay := [], snk := [] } Try.f59 [(.a (.ptr (.v 0) 0)), (.a (.sl (.v 10) (.v 11) (.v 12)))] [((.b (.v 0)), (.cells [(.ptr (.v 1) 0), (.int .i64 (.v 3)), (.int .i64 (.v 4)), (.int .i64 (.v 5)), (.map (.v 6)), (.map (.v 8))] 113)), ((.b (.v 1)), (.prop 2)), ((.b (.v 6)), (.prop 7)), ((.b (.v 8)), (.prop 9)), ((.a 10), (.prop 13))] 14 = t_uFollow := by kernel_rfl
-- tideline/unit.Open: ρ := [.n d, .p dP]
def t_uOpen : T :=
(.new
(.new
(.new
(.call 34 [(.a (.ptr (.v 0) 0))] [((.b (.v 0)), (.prop 1))] [.a, .n, .n, .p, .p] (.w (.a (.sl (.v 5) (.v 6) (.v 7)))) [((.a 5), (.prop 8)), ((.b (.v 0)), (.prop 9))]
(.loop [.v, .p, .i, .i, .p, .p, .n, .i, .i, .i, .n, .n, .p, .p] [(.v .nilp), (.p []), (.e (.o1 .neg (.o1 .neg (.i 0)))), (.e (.o1 .neg (.o1 .neg (.i 0)))), (.p [((.a 5), (.prop 8))]), (.p [((.b (.v 0)), (.prop 9))]), (.n (.v 0)), (.e (.o1 .neg (.o1 .neg (.i 0)))), (.e (.o1 .neg (.o1 .neg (.i 0)))), (.e (.o1 .neg (.o1 .neg (.i 0)))), (.n (.v 2)), (.n (.v 3)), (.p [((.b (.v 3)), .emap)]), (.p [((.b (.v 2)), .emap)])]
 (.br (.o2 .lt (.v 13) (.o1 .ofNat (.v 6)))
  (.need (.o2 .le (.i 0) (.v 13))
  (.need (.o1 .isSome (.v 5))
  (.read (.load 30 (.tmp 17)) 30 [(17, (.w (.a (.eptr 5 (.v 13) 1 0))))] [((.a 5), (.prop 14))] [.a, .n, .n] (.w (.a (.sl (.v 24) (.v 25) (.v 26))))
  (.call 59 [(.a (.ptr (.v 4) 0)), (.a (.sl (.v 24) (.v 25) (.v 26)))] [((.b (.v 4)), (.cells [(.ptr (.v 16) 0), (.int .i64 (.v 17)), (.int .i64 (.v 18)), (.int .i64 (.v 19)), (.map (.v 20)), (.map (.v 21))] 113)), ((.b (.v 16)), (.prop 15)), ((.b (.v 20)), (.prop 23)), ((.b (.v 21)), (.prop 22)), ((.a 5), (.prop 14))] [.c, .n, .p, .i, .i, .i, .n, .p, .n, .p, .p] (.w (.a (.bool (.v 27)))) [((.b (.v 4)), (.cells [(.ptr (.v 28) 0), (.int .i64 (.v 30)), (.int .i64 (.v 31)), (.int .i64 (.v 32)), (.map (.v 33)), (.map (.v 35))] 113)), ((.b (.v 28)), (.prop 29)), ((.b (.v 33)), (.prop 34)), ((.b (.v 35)), (.prop 36)), ((.a 5), (.prop 37))]
  (.br (.o1 .not (.v 27))
   (.ret (.tup [(.a .nilp), (.a (.int .i64 (.i 3)))]) [])
   (.need (.o1 (.inr .i64) (.o2 .add (.v 13) (.i 1)))
   (.again 0 [(.v (.val 10)), (.p [((.a 10), (.prop 11))]), (.e (.o1 .neg (.o1 .neg (.v 12)))), (.e (.o1 .neg (.o1 .neg (.o2 .add (.v 13) (.i 1))))), (.p [((.a 5), (.prop 37))]), (.p [((.b (.v 28)), (.prop 29))]), (.n (.v 28)), (.e (.o1 .neg (.o1 .neg (.v 30)))), (.e (.o1 .neg (.o1 .neg (.v 31)))), (.e (.o1 .neg (.o1 .neg (.v 32)))), (.n (.v 33)), (.n (.v 35)), (.p [((.b (.v 35)), (.prop 36))]), (.p [((.b (.v 33)), (.prop 34))])])))))))
  (.call 60 [(.a (.ptr (.v 4) 0))] [((.b (.v 4)), (.cells [(.ptr (.v 16) 0), (.int .i64 (.v 17)), (.int .i64 (.v 18)), (.int .i64 (.v 19)), (.map (.v 20)), (.map (.v 21))] 113)), ((.b (.v 16)), (.prop 15)), ((.b (.v 20)), (.prop 23)), ((.b (.v 21)), (.prop 22))] [.n, .p, .i, .i, .i, .n, .p, .n, .p] (.tup []) [((.b (.v 4)), (.cells [(.ptr (.v 24) 0), (.int .i64 (.v 26)), (.int .i64 (.v 27)), (.int .i64 (.v 28)), (.map (.v 29)), (.map (.v 31))] 113)), ((.b (.v 24)), (.prop 25)), ((.b (.v 29)), (.prop 30)), ((.b (.v 31)), (.prop 32))]
  (.ret (.tup [(.a (.ptr (.v 4) 0)), (.a (.int .i64 (.i 0)))]) [((.b (.v 4)), (.cells [(.ptr (.v 24) 0), (.int .i64 (.v 26)), (.int .i64 (.v 27)), (.int .i64 (.v 28)), (.map (.v 29)), (.map (.v 31))] 113)), ((.b (.v 24)), (.prop 25)), ((.b (.v 29)), (.prop 30)), ((.b (.v 31)), (.prop 32))]))))))))
theorem tree_uOpen : tree Try.prog { absT := [175, 183], opq := [], hv := [(0, [(.a 5), (.b (.v 0)), (.b (.v 4)), (.b (.v 3)), (.b (.v 2))])], keep := [103, 104, 73, 74, 95, 70, 71, 20, 38, 40, 106], link := [], ent := [], turn := [(105, [0])], shr := [], vt := [], mkd := [], rlink := [], pty := [], outl := false, stay := [], snk := [] } Try.f17 [(.a (.ptr (.v 0) 0))] [((.b (.v 0)), (.prop 1))] 2 = t_uOpen := by kernel_rfl
-- (*tideline/unit.Unit).Read: ρ := [.n u, .n u_d, .p u_dP, .i u_epoch, .i u_low, .i u_top, .n u_cells, .p u_cellsP, .n u_instances, .p u_instancesP, .i epoch, .i at]
def t_uRead : T :=
(.new
(.call 70 [(.a (.ptr (.v 0) 0)), (.a (.int .i64 (.v 10))), (.a (.int .i64 (.v 11)))] [((.b (.v 0)), (.cells [(.ptr (.v 1) 0), (.int .i64 (.v 3)), (.int .i64 (.v 4)), (.int .i64 (.v 5)), (.map (.v 6)), (.map (.v 8))] 113)), ((.b (.v 1)), (.prop 2)), ((.b (.v 6)), (.prop 7)), ((.b (.v 8)), (.prop 9))] [.i] (.w (.a (.int .i64 (.v 13)))) [((.b (.v 0)), (.cells [(.ptr (.v 1) 0), (.int .i64 (.v 3)), (.int .i64 (.v 4)), (.int .i64 (.v 5)), (.map (.v 6)), (.map (.v 8))] 113)), ((.b (.v 1)), (.prop 2)), ((.b (.v 6)), (.prop 7)), ((.b (.v 8)), (.prop 9))]
(.br (.o1 .not (.o2 .eq (.v 13) (.i 0)))
 (.ret (.tup [(.agg [(.int .i64 (.i 0)), (.sl .nil (.n 0) (.n 0))]), (.a (.int .i64 (.v 13)))]) [((.b (.v 0)), (.cells [(.ptr (.v 1) 0), (.int .i64 (.v 3)), (.int .i64 (.v 4)), (.int .i64 (.v 5)), (.map (.v 6)), (.map (.v 8))] 113)), ((.b (.v 1)), (.prop 2)), ((.b (.v 6)), (.prop 7)), ((.b (.v 8)), (.prop 9))])
 (.br (.o2 .lt (.v 11) (.v 4))
  (.ret (.tup [(.agg [(.int .i64 (.i 0)), (.sl .nil (.n 0) (.n 0))]), (.a (.int .i64 (.i 11)))]) [((.b (.v 0)), (.cells [(.ptr (.v 1) 0), (.int .i64 (.v 3)), (.int .i64 (.v 4)), (.int .i64 (.v 5)), (.map (.v 6)), (.map (.v 8))] 113)), ((.b (.v 1)), (.prop 2)), ((.b (.v 6)), (.prop 7)), ((.b (.v 8)), (.prop 9))])
  (.call 71 [(.a (.ptr (.v 0) 0)), (.a (.int .i64 (.v 11)))] [((.b (.v 0)), (.cells [(.ptr (.v 1) 0), (.int .i64 (.v 3)), (.int .i64 (.v 4)), (.int .i64 (.v 5)), (.map (.v 6)), (.map (.v 8))] 113)), ((.b (.v 1)), (.prop 2)), ((.b (.v 6)), (.prop 7)), ((.b (.v 8)), (.prop 9))] [.i, .a, .n, .n, .p, .c] (.tup [(.agg [(.int .i64 (.v 14)), (.sl (.v 15) (.v 16) (.v 17))]), (.a (.bool (.v 19)))]) [((.a 15), (.prop 18)), ((.b (.v 0)), (.cells [(.ptr (.v 1) 0), (.int .i64 (.v 3)), (.int .i64 (.v 4)), (.int .i64 (.v 5)), (.map (.v 6)), (.map (.v 8))] 113)), ((.b (.v 1)), (.prop 2)), ((.b (.v 6)), (.prop 7)), ((.b (.v 8)), (.prop 9))]
  (.new
  (.br (.o1 .not (.v 19))
   (.ret (.tup [(.agg [(.int .i64 (.i 0)), (.sl .nil (.n 0) (.n 0))]), (.a (.int .i64 (.i 9)))]) [((.b (.v 0)), (.cells [(.ptr (.v 1) 0), (.int .i64 (.v 3)), (.int .i64 (.v 4)), (.int .i64 (.v 5)), (.map (.v 6)), (.map (.v 8))] 113)), ((.b (.v 1)), (.prop 2)), ((.b (.v 6)), (.prop 7)), ((.b (.v 8)), (.prop 9))])
   (.ret (.tup [(.agg [(.int .i64 (.v 14)), (.sl (.v 15) (.v 16) (.v 17))]), (.a (.int .i64 (.i 0)))]) [((.b (.v 0)), (.cells [(.ptr (.v 1) 0), (.int .i64 (.v 3)), (.int .i64 (.v 4)), (.int .i64 (.v 5)), (.map (.v 6)), (.map (.v 8))] 113)), ((.b (.v 1)), (.prop 2)), ((.b (.v 6)), (.prop 7)), ((.b (.v 8)), (.prop 9)), ((.a 15), (.prop 18))]))))))))
theorem tree_uRead : tree Try.prog { absT := [175, 183], opq := [], hv := [], keep := [103, 104, 73, 74, 95, 70, 71, 20, 38, 40, 106], link := [], ent := [], turn := [(105, [0])], shr := [], vt := [], mkd := [], rlink := [], pty := [], outl := false, stay := [], snk := [] } Try.f19 [(.a (.ptr (.v 0) 0)), (.a (.int .i64 (.v 10))), (.a (.int .i64 (.v 11)))] [((.b (.v 0)), (.cells [(.ptr (.v 1) 0), (.int .i64 (.v 3)), (.int .i64 (.v 4)), (.int .i64 (.v 5)), (.map (.v 6)), (.map (.v 8))] 113)), ((.b (.v 1)), (.prop 2)), ((.b (.v 6)), (.prop 7)), ((.b (.v 8)), (.prop 9))] 12 = t_uRead := by kernel_rfl
-- (*tideline/unit.Unit).Write: ρ := [.n u, .n u_d, .p u_dP, .i u_epoch, .i u_low, .i u_top, .n u_cells, .p u_cellsP, .n u_instances, .p u_instancesP, .i epoch, .i at, .i x_What, .a x_Dataa, .n x_Datal, .n x_Datac, .p x_DataP]
def t_uWrite : T :=
(.new
(.new
(.call 70 [(.a (.ptr (.v 0) 0)), (.a (.int .i64 (.v 10))), (.a (.int .i64 (.v 11)))] [((.b (.v 0)), (.cells [(.ptr (.v 1) 0), (.int .i64 (.v 3)), (.int .i64 (.v 4)), (.int .i64 (.v 5)), (.map (.v 6)), (.map (.v 8))] 113)), ((.b (.v 1)), (.prop 2)), ((.b (.v 6)), (.prop 7)), ((.b (.v 8)), (.prop 9))] [.i] (.w (.a (.int .i64 (.v 19)))) [((.b (.v 0)), (.cells [(.ptr (.v 1) 0), (.int .i64 (.v 3)), (.int .i64 (.v 4)), (.int .i64 (.v 5)), (.map (.v 6)), (.map (.v 8))] 113)), ((.b (.v 1)), (.prop 2)), ((.b (.v 6)), (.prop 7)), ((.b (.v 8)), (.prop 9))]
(.br (.o1 .not (.o2 .eq (.v 19) (.i 0)))
 (.ret (.tup [(.agg [(.int .i64 (.i 0)), (.sl .nil (.n 0) (.n 0))]), (.a (.int .i64 (.v 19)))]) [((.b (.v 0)), (.cells [(.ptr (.v 1) 0), (.int .i64 (.v 3)), (.int .i64 (.v 4)), (.int .i64 (.v 5)), (.map (.v 6)), (.map (.v 8))] 113)), ((.b (.v 1)), (.prop 2)), ((.b (.v 6)), (.prop 7)), ((.b (.v 8)), (.prop 9)), ((.a 13), (.prop 16))])
 (.call 95 [(.agg [(.int .i64 (.v 12)), (.sl (.v 13) (.v 14) (.v 15))])] [((.a 13), (.prop 16))] [.c] (.w (.a (.bool (.v 20)))) [((.a 13), (.prop 16))]
 (.br (.o1 .not (.v 20))
  (.ret (.tup [(.agg [(.int .i64 (.i 0)), (.sl .nil (.n 0) (.n 0))]), (.a (.int .i64 (.i 1)))]) [((.b (.v 0)), (.cells [(.ptr (.v 1) 0), (.int .i64 (.v 3)), (.int .i64 (.v 4)), (.int .i64 (.v 5)), (.map (.v 6)), (.map (.v 8))] 113)), ((.b (.v 1)), (.prop 2)), ((.b (.v 6)), (.prop 7)), ((.b (.v 8)), (.prop 9)), ((.a 13), (.prop 16))])
  (.br (.o2 .lt (.v 11) (.v 4))
   (.ret (.tup [(.agg [(.int .i64 (.i 0)), (.sl .nil (.n 0) (.n 0))]), (.a (.int .i64 (.i 11)))]) [((.b (.v 0)), (.cells [(.ptr (.v 1) 0), (.int .i64 (.v 3)), (.int .i64 (.v 4)), (.int .i64 (.v 5)), (.map (.v 6)), (.map (.v 8))] 113)), ((.b (.v 1)), (.prop 2)), ((.b (.v 6)), (.prop 7)), ((.b (.v 8)), (.prop 9)), ((.a 13), (.prop 16))])
   (.call 71 [(.a (.ptr (.v 0) 0)), (.a (.int .i64 (.v 11)))] [((.b (.v 0)), (.cells [(.ptr (.v 1) 0), (.int .i64 (.v 3)), (.int .i64 (.v 4)), (.int .i64 (.v 5)), (.map (.v 6)), (.map (.v 8))] 113)), ((.b (.v 1)), (.prop 2)), ((.b (.v 6)), (.prop 7)), ((.b (.v 8)), (.prop 9))] [.i, .a, .n, .n, .p, .c] (.tup [(.agg [(.int .i64 (.v 21)), (.sl (.v 22) (.v 23) (.v 24))]), (.a (.bool (.v 26)))]) [((.a 22), (.prop 25)), ((.b (.v 0)), (.cells [(.ptr (.v 1) 0), (.int .i64 (.v 3)), (.int .i64 (.v 4)), (.int .i64 (.v 5)), (.map (.v 6)), (.map (.v 8))] 113)), ((.b (.v 1)), (.prop 2)), ((.b (.v 6)), (.prop 7)), ((.b (.v 8)), (.prop 9))]
   (.new
   (.br (.v 26)
    (.ret (.tup [(.agg [(.int .i64 (.v 21)), (.sl (.v 22) (.v 23) (.v 24))]), (.a (.int .i64 (.i 10)))]) [((.b (.v 0)), (.cells [(.ptr (.v 1) 0), (.int .i64 (.v 3)), (.int .i64 (.v 4)), (.int .i64 (.v 5)), (.map (.v 6)), (.map (.v 8))] 113)), ((.b (.v 1)), (.prop 2)), ((.b (.v 6)), (.prop 7)), ((.b (.v 8)), (.prop 9)), ((.a 13), (.prop 16)), ((.a 22), (.prop 25))])
    (.call 96 [(.a (.int .i64 (.v 11))), (.agg [(.int .i64 (.v 12)), (.sl (.v 13) (.v 14) (.v 15))])] [((.a 13), (.prop 16))] [.a, .n, .n, .p, .p] (.w (.a (.sl (.v 28) (.v 29) (.v 30)))) [((.a 28), (.prop 31)), ((.a 13), (.prop 32))]
    (.call 75 [(.a (.ptr (.v 0) 0)), (.a (.sl (.v 28) (.v 29) (.v 30)))] [((.b (.v 0)), (.cells [(.ptr (.v 1) 0), (.int .i64 (.v 3)), (.int .i64 (.v 4)), (.int .i64 (.v 5)), (.map (.v 6)), (.map (.v 8))] 113)), ((.b (.v 1)), (.prop 2)), ((.b (.v 6)), (.prop 7)), ((.b (.v 8)), (.prop 9)), ((.a 28), (.prop 31))] [.i, .n, .p, .i, .i, .i, .n, .p, .n, .p, .p] (.w (.a (.int .i64 (.v 33)))) [((.b (.v 0)), (.cells [(.ptr (.v 34) 0), (.int .i64 (.v 36)), (.int .i64 (.v 37)), (.int .i64 (.v 38)), (.map (.v 39)), (.map (.v 41))] 113)), ((.b (.v 34)), (.prop 35)), ((.b (.v 39)), (.prop 40)), ((.b (.v 41)), (.prop 42)), ((.a 28), (.prop 43))]
    (.br (.o1 .not (.o2 .eq (.v 33) (.i 0)))
     (.ret (.tup [(.agg [(.int .i64 (.i 0)), (.sl .nil (.n 0) (.n 0))]), (.a (.int .i64 (.v 33)))]) [((.b (.v 0)), (.cells [(.ptr (.v 34) 0), (.int .i64 (.v 36)), (.int .i64 (.v 37)), (.int .i64 (.v 38)), (.map (.v 39)), (.map (.v 41))] 113)), ((.b (.v 34)), (.prop 35)), ((.b (.v 39)), (.prop 40)), ((.b (.v 41)), (.prop 42)), ((.a 13), (.prop 32))])
     (.call 97 [(.a (.ptr (.v 0) 0)), (.a (.int .i64 (.v 11))), (.agg [(.int .i64 (.v 12)), (.sl (.v 13) (.v 14) (.v 15))])] [((.b (.v 0)), (.cells [(.ptr (.v 34) 0), (.int .i64 (.v 36)), (.int .i64 (.v 37)), (.int .i64 (.v 38)), (.map (.v 39)), (.map (.v 41))] 113)), ((.b (.v 34)), (.prop 35)), ((.b (.v 39)), (.prop 40)), ((.b (.v 41)), (.prop 42)), ((.a 13), (.prop 32))] [.n, .p, .i, .i, .i, .n, .p, .n, .p, .p] (.tup []) [((.b (.v 0)), (.cells [(.ptr (.v 44) 0), (.int .i64 (.v 46)), (.int .i64 (.v 47)), (.int .i64 (.v 48)), (.map (.v 49)), (.map (.v 51))] 113)), ((.b (.v 44)), (.prop 45)), ((.b (.v 49)), (.prop 50)), ((.b (.v 51)), (.prop 52)), ((.a 13), (.prop 53))]
     (.ret (.tup [(.agg [(.int .i64 (.i 0)), (.sl .nil (.n 0) (.n 0))]), (.a (.int .i64 (.i 0)))]) [((.b (.v 0)), (.cells [(.ptr (.v 44) 0), (.int .i64 (.v 46)), (.int .i64 (.v 47)), (.int .i64 (.v 48)), (.map (.v 49)), (.map (.v 51))] 113)), ((.b (.v 44)), (.prop 45)), ((.b (.v 49)), (.prop 50)), ((.b (.v 51)), (.prop 52)), ((.a 13), (.prop 53))])))))))))))))))
theorem tree_uWrite : tree Try.prog { absT := [175, 183], opq := [], hv := [], keep := [103, 104, 73, 74, 95, 70, 71, 20, 38, 40, 106], link := [], ent := [], turn := [(105, [0])], shr := [], vt := [], mkd := [], rlink := [], pty := [], outl := false, stay := [], snk := [] } Try.f57 [(.a (.ptr (.v 0) 0)), (.a (.int .i64 (.v 10))), (.a (.int .i64 (.v 11))), (.agg [(.int .i64 (.v 12)), (.sl (.v 13) (.v 14) (.v 15))])] [((.b (.v 0)), (.cells [(.ptr (.v 1) 0), (.int .i64 (.v 3)), (.int .i64 (.v 4)), (.int .i64 (.v 5)), (.map (.v 6)), (.map (.v 8))] 113)), ((.b (.v 1)), (.prop 2)), ((.b (.v 6)), (.prop 7)), ((.b (.v 8)), (.prop 9)), ((.a 13), (.prop 16))] 17 = t_uWrite := by kernel_rfl
-- (*tideline/unit.Unit).Trim: ρ := [.n u, .n u_d, .p u_dP, .i u_epoch, .i u_low, .i u_top, .n u_cells, .p u_cellsP, .n u_instances, .p u_instancesP, .i epoch, .i low]
def t_uTrim : T :=
(.call 70 [(.a (.ptr (.v 0) 0)), (.a (.int .i64 (.v 10))), (.a (.int .i64 (.v 11)))] [((.b (.v 0)), (.cells [(.ptr (.v 1) 0), (.int .i64 (.v 3)), (.int .i64 (.v 4)), (.int .i64 (.v 5)), (.map (.v 6)), (.map (.v 8))] 113)), ((.b (.v 1)), (.prop 2)), ((.b (.v 6)), (.prop 7)), ((.b (.v 8)), (.prop 9))] [.i] (.w (.a (.int .i64 (.v 12)))) [((.b (.v 0)), (.cells [(.ptr (.v 1) 0), (.int .i64 (.v 3)), (.int .i64 (.v 4)), (.int .i64 (.v 5)), (.map (.v 6)), (.map (.v 8))] 113)), ((.b (.v 1)), (.prop 2)), ((.b (.v 6)), (.prop 7)), ((.b (.v 8)), (.prop 9))]
(.br (.o1 .not (.o2 .eq (.v 12) (.i 0)))
 (.ret (.w (.a (.int .i64 (.v 12)))) [((.b (.v 0)), (.cells [(.ptr (.v 1) 0), (.int .i64 (.v 3)), (.int .i64 (.v 4)), (.int .i64 (.v 5)), (.map (.v 6)), (.map (.v 8))] 113)), ((.b (.v 1)), (.prop 2)), ((.b (.v 6)), (.prop 7)), ((.b (.v 8)), (.prop 9))])
 (.br (.o2 .le (.v 11) (.v 4))
  (.ret (.w (.a (.int .i64 (.i 0)))) [((.b (.v 0)), (.cells [(.ptr (.v 1) 0), (.int .i64 (.v 3)), (.int .i64 (.v 4)), (.int .i64 (.v 5)), (.map (.v 6)), (.map (.v 8))] 113)), ((.b (.v 1)), (.prop 2)), ((.b (.v 6)), (.prop 7)), ((.b (.v 8)), (.prop 9))])
  (.new
  (.call 76 [(.a (.int .u8 (.i 3))), (.a (.sl (.b (.v 13) 0) (.n 1) (.n 1)))] [((.b (.v 13)), (.cells [(.int .i64 (.v 11))] 3))] [.n, .p, .i] (.w (.a (.ptr (.v 14) 0))) [((.b (.v 14)), (.prop 15)), ((.b (.v 13)), (.cells [(.int .i64 (.v 16))] 3))]
  (.call 77 [(.a (.ptr (.v 14) 0))] [((.b (.v 14)), (.prop 15))] [.a, .n, .n, .p, .p] (.w (.a (.sl (.v 17) (.v 18) (.v 19)))) [((.a 17), (.prop 20)), ((.b (.v 14)), (.prop 21))]
  (.call 75 [(.a (.ptr (.v 0) 0)), (.a (.sl (.v 17) (.v 18) (.v 19)))] [((.b (.v 0)), (.cells [(.ptr (.v 1) 0), (.int .i64 (.v 3)), (.int .i64 (.v 4)), (.int .i64 (.v 5)), (.map (.v 6)), (.map (.v 8))] 113)), ((.b (.v 1)), (.prop 2)), ((.b (.v 6)), (.prop 7)), ((.b (.v 8)), (.prop 9)), ((.a 17), (.prop 20))] [.i, .n, .p, .i, .i, .i, .n, .p, .n, .p, .p] (.w (.a (.int .i64 (.v 22)))) [((.b (.v 0)), (.cells [(.ptr (.v 23) 0), (.int .i64 (.v 25)), (.int .i64 (.v 26)), (.int .i64 (.v 27)), (.map (.v 28)), (.map (.v 30))] 113)), ((.b (.v 23)), (.prop 24)), ((.b (.v 28)), (.prop 29)), ((.b (.v 30)), (.prop 31)), ((.a 17), (.prop 32))]
  (.br (.o1 .not (.o2 .eq (.v 22) (.i 0)))
   (.ret (.w (.a (.int .i64 (.v 22)))) [((.b (.v 0)), (.cells [(.ptr (.v 23) 0), (.int .i64 (.v 25)), (.int .i64 (.v 26)), (.int .i64 (.v 27)), (.map (.v 28)), (.map (.v 30))] 113)), ((.b (.v 23)), (.prop 24)), ((.b (.v 28)), (.prop 29)), ((.b (.v 30)), (.prop 31))])
   (.call 60 [(.a (.ptr (.v 0) 0))] [((.b (.v 0)), (.cells [(.ptr (.v 23) 0), (.int .i64 (.v 25)), (.int .i64 (.v 11)), (.int .i64 (.v 27)), (.map (.v 28)), (.map (.v 30))] 113)), ((.b (.v 23)), (.prop 24)), ((.b (.v 28)), (.prop 29)), ((.b (.v 30)), (.prop 31))] [.n, .p, .i, .i, .i, .n, .p, .n, .p] (.tup []) [((.b (.v 0)), (.cells [(.ptr (.v 33) 0), (.int .i64 (.v 35)), (.int .i64 (.v 36)), (.int .i64 (.v 37)), (.map (.v 38)), (.map (.v 40))] 113)), ((.b (.v 33)), (.prop 34)), ((.b (.v 38)), (.prop 39)), ((.b (.v 40)), (.prop 41))]
   (.ret (.w (.a (.int .i64 (.i 0)))) [((.b (.v 0)), (.cells [(.ptr (.v 33) 0), (.int .i64 (.v 35)), (.int .i64 (.v 36)), (.int .i64 (.v 37)), (.map (.v 38)), (.map (.v 40))] 113)), ((.b (.v 33)), (.prop 34)), ((.b (.v 38)), (.prop 39)), ((.b (.v 40)), (.prop 41))]))))))))))
theorem tree_uTrim : tree Try.prog { absT := [175, 183], opq := [], hv := [], keep := [103, 104, 73, 74, 95, 70, 71, 20, 38, 40, 106], link := [], ent := [], turn := [(105, [0])], shr := [], vt := [], mkd := [], rlink := [], pty := [], outl := false, stay := [], snk := [] } Try.f63 [(.a (.ptr (.v 0) 0)), (.a (.int .i64 (.v 10))), (.a (.int .i64 (.v 11)))] [((.b (.v 0)), (.cells [(.ptr (.v 1) 0), (.int .i64 (.v 3)), (.int .i64 (.v 4)), (.int .i64 (.v 5)), (.map (.v 6)), (.map (.v 8))] 113)), ((.b (.v 1)), (.prop 2)), ((.b (.v 6)), (.prop 7)), ((.b (.v 8)), (.prop 9))] 12 = t_uTrim := by kernel_rfl
-- (*tideline/unit.Unit).Seal: ρ := [.n u, .n u_d, .p u_dP, .i u_epoch, .i u_low, .i u_top, .n u_cells, .p u_cellsP, .n u_instances, .p u_instancesP, .i epoch]
def t_uSeal : T :=
(.br (.o2 .le (.v 10) (.v 3))
 (.ret (.w (.a (.int .i64 (.i 8)))) [((.b (.v 0)), (.cells [(.ptr (.v 1) 0), (.int .i64 (.v 3)), (.int .i64 (.v 4)), (.int .i64 (.v 5)), (.map (.v 6)), (.map (.v 8))] 113)), ((.b (.v 1)), (.prop 2)), ((.b (.v 6)), (.prop 7)), ((.b (.v 8)), (.prop 9))])
 (.br (.o2 .lt (.i 2147483647) (.v 10))
  (.ret (.w (.a (.int .i64 (.i 1)))) [((.b (.v 0)), (.cells [(.ptr (.v 1) 0), (.int .i64 (.v 3)), (.int .i64 (.v 4)), (.int .i64 (.v 5)), (.map (.v 6)), (.map (.v 8))] 113)), ((.b (.v 1)), (.prop 2)), ((.b (.v 6)), (.prop 7)), ((.b (.v 8)), (.prop 9))])
  (.new
  (.call 76 [(.a (.int .u8 (.i 4))), (.a (.sl (.b (.v 11) 0) (.n 1) (.n 1)))] [((.b (.v 11)), (.cells [(.int .i64 (.v 10))] 3))] [.n, .p, .i] (.w (.a (.ptr (.v 12) 0))) [((.b (.v 12)), (.prop 13)), ((.b (.v 11)), (.cells [(.int .i64 (.v 14))] 3))]
  (.call 77 [(.a (.ptr (.v 12) 0))] [((.b (.v 12)), (.prop 13))] [.a, .n, .n, .p, .p] (.w (.a (.sl (.v 15) (.v 16) (.v 17)))) [((.a 15), (.prop 18)), ((.b (.v 12)), (.prop 19))]
  (.call 75 [(.a (.ptr (.v 0) 0)), (.a (.sl (.v 15) (.v 16) (.v 17)))] [((.b (.v 0)), (.cells [(.ptr (.v 1) 0), (.int .i64 (.v 3)), (.int .i64 (.v 4)), (.int .i64 (.v 5)), (.map (.v 6)), (.map (.v 8))] 113)), ((.b (.v 1)), (.prop 2)), ((.b (.v 6)), (.prop 7)), ((.b (.v 8)), (.prop 9)), ((.a 15), (.prop 18))] [.i, .n, .p, .i, .i, .i, .n, .p, .n, .p, .p] (.w (.a (.int .i64 (.v 20)))) [((.b (.v 0)), (.cells [(.ptr (.v 21) 0), (.int .i64 (.v 23)), (.int .i64 (.v 24)), (.int .i64 (.v 25)), (.map (.v 26)), (.map (.v 28))] 113)), ((.b (.v 21)), (.prop 22)), ((.b (.v 26)), (.prop 27)), ((.b (.v 28)), (.prop 29)), ((.a 15), (.prop 30))]
  (.br (.o1 .not (.o2 .eq (.v 20) (.i 0)))
   (.ret (.w (.a (.int .i64 (.v 20)))) [((.b (.v 0)), (.cells [(.ptr (.v 21) 0), (.int .i64 (.v 23)), (.int .i64 (.v 24)), (.int .i64 (.v 25)), (.map (.v 26)), (.map (.v 28))] 113)), ((.b (.v 21)), (.prop 22)), ((.b (.v 26)), (.prop 27)), ((.b (.v 28)), (.prop 29))])
   (.ret (.w (.a (.int .i64 (.i 0)))) [((.b (.v 0)), (.cells [(.ptr (.v 21) 0), (.int .i64 (.v 10)), (.int .i64 (.v 24)), (.int .i64 (.v 25)), (.map (.v 26)), (.map (.v 28))] 113)), ((.b (.v 21)), (.prop 22)), ((.b (.v 26)), (.prop 27)), ((.b (.v 28)), (.prop 29))]))))))))
theorem tree_uSeal : tree Try.prog { absT := [175, 183], opq := [], hv := [], keep := [103, 104, 73, 74, 95, 70, 71, 20, 38, 40, 106], link := [], ent := [], turn := [(105, [0])], shr := [], vt := [], mkd := [], rlink := [], pty := [], outl := false, stay := [], snk := [] } Try.f65 [(.a (.ptr (.v 0) 0)), (.a (.int .i64 (.v 10)))] [((.b (.v 0)), (.cells [(.ptr (.v 1) 0), (.int .i64 (.v 3)), (.int .i64 (.v 4)), (.int .i64 (.v 5)), (.map (.v 6)), (.map (.v 8))] 113)), ((.b (.v 1)), (.prop 2)), ((.b (.v 6)), (.prop 7)), ((.b (.v 8)), (.prop 9))] 11 = t_uSeal := by kernel_rfl
-- (*tideline/unit.Unit).Promise: ρ := [.n u, .n u_d, .p u_dP, .i u_epoch, .i u_low, .i u_top, .n u_cells, .p u_cellsP, .n u_instances, .p u_instancesP, .i n, .i b_Round, .i b_Who]
def t_uPromise : T :=
(.new
(.new
(.call 73 [(.a (.int .i64 (.v 10))), (.agg [(.int .i64 (.v 11)), (.int .i64 (.v 12))])] [] [.c] (.w (.a (.bool (.v 15)))) []
(.br (.o1 .not (.v 15))
 (.ret (.tup [(.agg [(.int .i64 (.i 0)), (.int .i64 (.i 0))]), (.a (.sl .nil (.n 0) (.n 0))), (.a (.int .i64 (.i 1)))]) [((.b (.v 0)), (.cells [(.ptr (.v 1) 0), (.int .i64 (.v 3)), (.int .i64 (.v 4)), (.int .i64 (.v 5)), (.map (.v 6)), (.map (.v 8))] 113)), ((.b (.v 1)), (.prop 2)), ((.b (.v 6)), (.prop 7)), ((.b (.v 8)), (.prop 9))])
 (.op (.lookup 111 (.tmp 19) (.tmp 20) false) 133 [(19, (.w (.a (.map (.v 8))))), (20, (.w (.a (.int .i64 (.v 10)))))] [((.b (.v 8)), (.prop 9))] [.i, .i, .i, .i, .a, .n, .n, .p, .p] (.w (.agg [(.int .i64 (.v 16)), (.int .i64 (.v 17)), (.int .i64 (.v 18)), (.int .i64 (.v 19)), (.sl (.v 20) (.v 21) (.v 22))])) [((.a 20), (.prop 23)), ((.b (.v 8)), (.prop 24))]
 (.new
 (.call 74 [(.agg [(.int .i64 (.v 11)), (.int .i64 (.v 12))]), (.agg [(.int .i64 (.v 16)), (.int .i64 (.v 17))])] [] [.c] (.w (.a (.bool (.v 26)))) []
 (.br (.v 26)
  (.ret (.tup [(.agg [(.int .i64 (.i 0)), (.int .i64 (.i 0))]), (.a (.sl .nil (.n 0) (.n 0))), (.a (.int .i64 (.i 7)))]) [((.b (.v 0)), (.cells [(.ptr (.v 1) 0), (.int .i64 (.v 3)), (.int .i64 (.v 4)), (.int .i64 (.v 5)), (.map (.v 6)), (.map (.v 8))] 113)), ((.b (.v 1)), (.prop 2)), ((.b (.v 6)), (.prop 7)), ((.b (.v 8)), (.prop 24))])
  (.read (.binOp .neq 34 (.tmp 27) (.tmp 29) 34) 4 [(27, (.w (.agg [(.int .i64 (.v 11)), (.int .i64 (.v 12))]))), (29, (.w (.agg [(.int .i64 (.v 16)), (.int .i64 (.v 17))])))] [] [.c] (.w (.a (.bool (.v 27))))
  (.br (.v 27)
   (.new
   (.call 76 [(.a (.int .u8 (.i 5))), (.a (.sl (.b (.v 28) 0) (.n 3) (.n 3)))] [((.b (.v 28)), (.cells [(.int .i64 (.v 10)), (.int .i64 (.v 11)), (.int .i64 (.v 12))] 3))] [.n, .p, .i, .i, .i] (.w (.a (.ptr (.v 29) 0))) [((.b (.v 29)), (.prop 30)), ((.b (.v 28)), (.cells [(.int .i64 (.v 31)), (.int .i64 (.v 32)), (.int .i64 (.v 33))] 3))]
   (.call 77 [(.a (.ptr (.v 29) 0))] [((.b (.v 29)), (.prop 30))] [.a, .n, .n, .p, .p] (.w (.a (.sl (.v 34) (.v 35) (.v 36)))) [((.a 34), (.prop 37)), ((.b (.v 29)), (.prop 38))]
   (.call 75 [(.a (.ptr (.v 0) 0)), (.a (.sl (.v 34) (.v 35) (.v 36)))] [((.b (.v 0)), (.cells [(.ptr (.v 1) 0), (.int .i64 (.v 3)), (.int .i64 (.v 4)), (.int .i64 (.v 5)), (.map (.v 6)), (.map (.v 8))] 113)), ((.b (.v 1)), (.prop 2)), ((.b (.v 6)), (.prop 7)), ((.b (.v 8)), (.prop 24)), ((.a 34), (.prop 37))] [.i, .n, .p, .i, .i, .i, .n, .p, .n, .p, .p] (.w (.a (.int .i64 (.v 39)))) [((.b (.v 0)), (.cells [(.ptr (.v 40) 0), (.int .i64 (.v 42)), (.int .i64 (.v 43)), (.int .i64 (.v 44)), (.map (.v 45)), (.map (.v 47))] 113)), ((.b (.v 40)), (.prop 41)), ((.b (.v 45)), (.prop 46)), ((.b (.v 47)), (.prop 48)), ((.a 34), (.prop 49))]
   (.br (.o1 .not (.o2 .eq (.v 39) (.i 0)))
    (.ret (.tup [(.agg [(.int .i64 (.i 0)), (.int .i64 (.i 0))]), (.a (.sl .nil (.n 0) (.n 0))), (.a (.int .i64 (.v 39)))]) [((.b (.v 0)), (.cells [(.ptr (.v 40) 0), (.int .i64 (.v 42)), (.int .i64 (.v 43)), (.int .i64 (.v 44)), (.map (.v 45)), (.map (.v 47))] 113)), ((.b (.v 40)), (.prop 41)), ((.b (.v 45)), (.prop 46)), ((.b (.v 47)), (.prop 48))])
    (.call 78 [(.a (.ptr (.v 0) 0)), (.a (.int .i64 (.v 10))), (.agg [(.int .i64 (.v 11)), (.int .i64 (.v 12))])] [((.b (.v 0)), (.cells [(.ptr (.v 40) 0), (.int .i64 (.v 42)), (.int .i64 (.v 43)), (.int .i64 (.v 44)), (.map (.v 45)), (.map (.v 47))] 113)), ((.b (.v 40)), (.prop 41)), ((.b (.v 45)), (.prop 46)), ((.b (.v 47)), (.prop 48))] [.n, .p, .i, .i, .i, .n, .p, .n, .p] (.tup []) [((.b (.v 0)), (.cells [(.ptr (.v 50) 0), (.int .i64 (.v 52)), (.int .i64 (.v 53)), (.int .i64 (.v 54)), (.map (.v 55)), (.map (.v 57))] 113)), ((.b (.v 50)), (.prop 51)), ((.b (.v 55)), (.prop 56)), ((.b (.v 57)), (.prop 58))]
    (.call 72 [(.a (.sl (.v 20) (.v 21) (.v 22)))] [((.a 20), (.prop 23))] [.a, .n, .n, .p, .p] (.w (.a (.sl (.v 59) (.v 60) (.v 61)))) [((.a 59), (.prop 62)), ((.a 20), (.prop 63))]
    (.ret (.tup [(.agg [(.int .i64 (.v 18)), (.int .i64 (.v 19))]), (.a (.sl (.v 59) (.v 60) (.v 61))), (.a (.int .i64 (.i 0)))]) [((.b (.v 0)), (.cells [(.ptr (.v 50) 0), (.int .i64 (.v 52)), (.int .i64 (.v 53)), (.int .i64 (.v 54)), (.map (.v 55)), (.map (.v 57))] 113)), ((.b (.v 50)), (.prop 51)), ((.b (.v 55)), (.prop 56)), ((.b (.v 57)), (.prop 58)), ((.a 59), (.prop 62))]))))))))
   (.call 72 [(.a (.sl (.v 20) (.v 21) (.v 22)))] [((.a 20), (.prop 23)), ((.b (.v 8)), (.prop 24))] [.a, .n, .n, .p, .p, .p] (.w (.a (.sl (.v 28) (.v 29) (.v 30)))) [((.a 28), (.prop 31)), ((.a 20), (.prop 32)), ((.b (.v 8)), (.prop 33))]
   (.ret (.tup [(.agg [(.int .i64 (.v 18)), (.int .i64 (.v 19))]), (.a (.sl (.v 28) (.v 29) (.v 30))), (.a (.int .i64 (.i 0)))]) [((.b (.v 0)), (.cells [(.ptr (.v 1) 0), (.int .i64 (.v 3)), (.int .i64 (.v 4)), (.int .i64 (.v 5)), (.map (.v 6)), (.map (.v 8))] 113)), ((.b (.v 1)), (.prop 2)), ((.b (.v 6)), (.prop 7)), ((.b (.v 8)), (.prop 33)), ((.a 28), (.prop 31))]))))))))))))
theorem tree_uPromise : tree Try.prog { absT := [175, 183], opq := [], hv := [], keep := [103, 104, 73, 74, 95, 70, 71, 20, 38, 40, 106], link := [], ent := [], turn := [(105, [0])], shr := [], vt := [], mkd := [21], rlink := [], pty := [], outl := false, stay := [], snk := [] } Try.f26 [(.a (.ptr (.v 0) 0)), (.a (.int .i64 (.v 10))), (.agg [(.int .i64 (.v 11)), (.int .i64 (.v 12))])] [((.b (.v 0)), (.cells [(.ptr (.v 1) 0), (.int .i64 (.v 3)), (.int .i64 (.v 4)), (.int .i64 (.v 5)), (.map (.v 6)), (.map (.v 8))] 113)), ((.b (.v 1)), (.prop 2)), ((.b (.v 6)), (.prop 7)), ((.b (.v 8)), (.prop 9))] 13 = t_uPromise := by kernel_rfl
-- (*tideline/unit.Unit).Accept: ρ := [.n u, .n u_d, .p u_dP, .i u_epoch, .i u_low, .i u_top, .n u_cells, .p u_cellsP, .n u_instances, .p u_instancesP, .i n, .i b_Round, .i b_Who, .a valuea, .n valuel, .n valuec, .p valueP]
def t_uAccept : T :=
(.new
(.call 73 [(.a (.int .i64 (.v 10))), (.agg [(.int .i64 (.v 11)), (.int .i64 (.v 12))])] [] [.c] (.w (.a (.bool (.v 18)))) []
(.br (.o1 .not (.v 18))
 (.ret (.w (.a (.int .i64 (.i 1)))) [((.b (.v 0)), (.cells [(.ptr (.v 1) 0), (.int .i64 (.v 3)), (.int .i64 (.v 4)), (.int .i64 (.v 5)), (.map (.v 6)), (.map (.v 8))] 113)), ((.b (.v 1)), (.prop 2)), ((.b (.v 6)), (.prop 7)), ((.b (.v 8)), (.prop 9)), ((.a 13), (.prop 16))])
 (.br (.o2 .lt (.i 1000) (.o1 .ofNat (.v 14)))
  (.ret (.w (.a (.int .i64 (.i 1)))) [((.b (.v 0)), (.cells [(.ptr (.v 1) 0), (.int .i64 (.v 3)), (.int .i64 (.v 4)), (.int .i64 (.v 5)), (.map (.v 6)), (.map (.v 8))] 113)), ((.b (.v 1)), (.prop 2)), ((.b (.v 6)), (.prop 7)), ((.b (.v 8)), (.prop 9)), ((.a 13), (.prop 16))])
  (.read (.lookup 111 (.tmp 24) (.tmp 25) false) 133 [(24, (.w (.a (.map (.v 8))))), (25, (.w (.a (.int .i64 (.v 10)))))] [((.b (.v 8)), (.prop 9))] [.i, .i, .i, .i, .a, .n, .n] (.w (.agg [(.int .i64 (.v 19)), (.int .i64 (.v 20)), (.int .i64 (.v 21)), (.int .i64 (.v 22)), (.sl (.v 23) (.v 24) (.v 25))]))
  (.call 74 [(.agg [(.int .i64 (.v 11)), (.int .i64 (.v 12))]), (.agg [(.int .i64 (.v 19)), (.int .i64 (.v 20))])] [] [.c] (.w (.a (.bool (.v 26)))) []
  (.br (.v 26)
   (.ret (.w (.a (.int .i64 (.i 7)))) [((.b (.v 0)), (.cells [(.ptr (.v 1) 0), (.int .i64 (.v 3)), (.int .i64 (.v 4)), (.int .i64 (.v 5)), (.map (.v 6)), (.map (.v 8))] 113)), ((.b (.v 1)), (.prop 2)), ((.b (.v 6)), (.prop 7)), ((.b (.v 8)), (.prop 9)), ((.a 13), (.prop 16))])
   (.new
   (.call 76 [(.a (.int .u8 (.i 6))), (.a (.sl (.b (.v 27) 0) (.n 3) (.n 3)))] [((.b (.v 27)), (.cells [(.int .i64 (.v 10)), (.int .i64 (.v 11)), (.int .i64 (.v 12))] 3))] [.n, .p, .i, .i, .i] (.w (.a (.ptr (.v 28) 0))) [((.b (.v 28)), (.prop 29)), ((.b (.v 27)), (.cells [(.int .i64 (.v 30)), (.int .i64 (.v 31)), (.int .i64 (.v 32))] 3))]
   (.call 82 [(.a (.ptr (.v 28) 0)), (.a (.sl (.v 13) (.v 14) (.v 15)))] [((.b (.v 28)), (.prop 29)), ((.a 13), (.prop 16))] [.p, .p] (.tup []) [((.b (.v 28)), (.prop 33)), ((.a 13), (.prop 34))]
   (.call 77 [(.a (.ptr (.v 28) 0))] [((.b (.v 28)), (.prop 33))] [.a, .n, .n, .p, .p] (.w (.a (.sl (.v 35) (.v 36) (.v 37)))) [((.a 35), (.prop 38)), ((.b (.v 28)), (.prop 39))]
   (.call 75 [(.a (.ptr (.v 0) 0)), (.a (.sl (.v 35) (.v 36) (.v 37)))] [((.b (.v 0)), (.cells [(.ptr (.v 1) 0), (.int .i64 (.v 3)), (.int .i64 (.v 4)), (.int .i64 (.v 5)), (.map (.v 6)), (.map (.v 8))] 113)), ((.b (.v 1)), (.prop 2)), ((.b (.v 6)), (.prop 7)), ((.b (.v 8)), (.prop 9)), ((.a 35), (.prop 38))] [.i, .n, .p, .i, .i, .i, .n, .p, .n, .p, .p] (.w (.a (.int .i64 (.v 40)))) [((.b (.v 0)), (.cells [(.ptr (.v 41) 0), (.int .i64 (.v 43)), (.int .i64 (.v 44)), (.int .i64 (.v 45)), (.map (.v 46)), (.map (.v 48))] 113)), ((.b (.v 41)), (.prop 42)), ((.b (.v 46)), (.prop 47)), ((.b (.v 48)), (.prop 49)), ((.a 35), (.prop 50))]
   (.br (.o1 .not (.o2 .eq (.v 40) (.i 0)))
    (.ret (.w (.a (.int .i64 (.v 40)))) [((.b (.v 0)), (.cells [(.ptr (.v 41) 0), (.int .i64 (.v 43)), (.int .i64 (.v 44)), (.int .i64 (.v 45)), (.map (.v 46)), (.map (.v 48))] 113)), ((.b (.v 41)), (.prop 42)), ((.b (.v 46)), (.prop 47)), ((.b (.v 48)), (.prop 49)), ((.a 13), (.prop 34))])
    (.call 83 [(.a (.ptr (.v 0) 0)), (.a (.int .i64 (.v 10))), (.agg [(.int .i64 (.v 11)), (.int .i64 (.v 12))]), (.a (.sl (.v 13) (.v 14) (.v 15)))] [((.b (.v 0)), (.cells [(.ptr (.v 41) 0), (.int .i64 (.v 43)), (.int .i64 (.v 44)), (.int .i64 (.v 45)), (.map (.v 46)), (.map (.v 48))] 113)), ((.b (.v 41)), (.prop 42)), ((.b (.v 46)), (.prop 47)), ((.b (.v 48)), (.prop 49)), ((.a 13), (.prop 34))] [.n, .p, .i, .i, .i, .n, .p, .n, .p, .p] (.tup []) [((.b (.v 0)), (.cells [(.ptr (.v 51) 0), (.int .i64 (.v 53)), (.int .i64 (.v 54)), (.int .i64 (.v 55)), (.map (.v 56)), (.map (.v 58))] 113)), ((.b (.v 51)), (.prop 52)), ((.b (.v 56)), (.prop 57)), ((.b (.v 58)), (.prop 59)), ((.a 13), (.prop 60))]
    (.ret (.w (.a (.int .i64 (.i 0)))) [((.b (.v 0)), (.cells [(.ptr (.v 51) 0), (.int .i64 (.v 53)), (.int .i64 (.v 54)), (.int .i64 (.v 55)), (.map (.v 56)), (.map (.v 58))] 113)), ((.b (.v 51)), (.prop 52)), ((.b (.v 56)), (.prop 57)), ((.b (.v 58)), (.prop 59)), ((.a 13), (.prop 60))])))))))))))))))
theorem tree_uAccept : tree Try.prog { absT := [175, 183], opq := [], hv := [], keep := [103, 104, 73, 74, 95, 70, 71, 20, 38, 40, 106], link := [], ent := [], turn := [(105, [0])], shr := [], vt := [], mkd := [], rlink := [], pty := [], outl := false, stay := [], snk := [] } Try.f29 [(.a (.ptr (.v 0) 0)), (.a (.int .i64 (.v 10))), (.agg [(.int .i64 (.v 11)), (.int .i64 (.v 12))]), (.a (.sl (.v 13) (.v 14) (.v 15)))] [((.b (.v 0)), (.cells [(.ptr (.v 1) 0), (.int .i64 (.v 3)), (.int .i64 (.v 4)), (.int .i64 (.v 5)), (.map (.v 6)), (.map (.v 8))] 113)), ((.b (.v 1)), (.prop 2)), ((.b (.v 6)), (.prop 7)), ((.b (.v 8)), (.prop 9)), ((.a 13), (.prop 16))] 17 = t_uAccept := by kernel_rfl
end Go.Proofs.Ytmibmjehjagmbaa.RX

/- Contracts of the unit: numbers, pages. No condition. -/
namespace Go.Proofs.Ytmibmjehjagmbaa
set_option linter.unusedSimpArgs false
set_option linter.unusedVariables false
open Go.Proofs.Ytmibmjehjagmbaa RX

def numOk (n : Int) : Bool := decide (0 ≤ n) && decide (n ≤ 2147483647)
def propOk (n r w : Int) : Bool := decide (1 ≤ n) && decide (n ≤ 2147483647) && numOk r && numOk w
def lessB (r w r' w' : Int) : Bool := decide (r < r') || (decide (r = r') && decide (w < w'))
def addrOk (n : Int) : Bool := decide (0 ≤ n) && decide (n ≤ 4294967296)
theorem unum_ok (n : Int) : Tri Try.prog 104 #[.int .i64 n] HP.tt (fun v => HP.and (v = .bool (numOk n)) HP.tt) := by
  refine tri_of_tree (ρ := [.i n]) mixed Try.func104 tree_number ?_
  unfold t_number
  simp only [T.den, E.prop, E.den, RX.look, F1.app, F2.app, Uni.int_i, Uni.nat_n, Uni.bool_c, Uni.str_s, Uni.adr_a, Uni.val_v, Uni.hp_p, hden, cden, V.den, W.den, A.den, BR.den, SA.den, FV.den, capV, exs, exP, allP, Cur.app, List.map_cons, List.map_nil, List.cons_append, List.nil_append, List.drop_succ_cons, List.drop_zero, List.length_cons, List.length_nil, Nat.zero_add, Nat.reduceAdd, Int.neg_neg, Bool.not_not, List.append_nil, Nat.add_zero, List.getElem?_cons_zero, List.getElem?_cons_succ, Decidable.not_not]
  refine ⟨fun h => .of fun R h' _ => ⟨?_, trivial⟩, fun h => .of fun R h' _ => ⟨?_, trivial⟩⟩
  · simp [numOk, h]; congr
  · simp [numOk, h]
theorem uprop_ok (n r w : Int) : Tri Try.prog 73 #[.int .i64 n, .agg #[.int .i64 r, .int .i64 w]] HP.tt (fun v => HP.and (v = .bool (propOk n r w)) HP.tt) := by
  refine tri_of_tree (ρ := [.i n, .i r, .i w]) mixed Try.func73 tree_proposal ?_
  unfold t_proposal
  simp only [T.den, E.prop, E.den, RX.look, F1.app, F2.app, Uni.int_i, Uni.nat_n, Uni.bool_c, Uni.str_s, Uni.adr_a, Uni.val_v, Uni.hp_p, hden, cden, V.den, W.den, A.den, BR.den, SA.den, FV.den, capV, exs, exP, allP, Cur.app, List.map_cons, List.map_nil, List.cons_append, List.nil_append, List.drop_succ_cons, List.drop_zero, List.length_cons, List.length_nil, Nat.zero_add, Nat.reduceAdd, Int.neg_neg, Bool.not_not, List.append_nil, Nat.add_zero, List.getElem?_cons_zero, List.getElem?_cons_succ, Decidable.not_not]
  refine fun x => ⟨fun h1 => ⟨fun h2 => ?_, fun h2 => .of fun R h' _ => ⟨?_, trivial⟩⟩, fun h1 => .of fun R h' _ => ⟨?_, trivial⟩⟩
  · refine (unum_ok r).weak (fun _ _ h => h) ?_
    rintro v R h ⟨rfl, H⟩
    refine ⟨_, rfl, ⟨fun h3 => ?_, fun h3 => .of fun R h' _ => ⟨?_, trivial⟩⟩, H⟩
    · refine (unum_ok w).weak (fun _ _ h => h) ?_
      rintro v R h ⟨rfl, H⟩
      refine ⟨_, rfl, .of fun R h' _ => ⟨?_, trivial⟩, H⟩
      simp [propOk, h1, h2, h3]
    · simp only [Bool.not_eq_true] at h3; simp [propOk, h3]
  · simp [propOk, h2]
  · simp [propOk, h1]
theorem uless_ok (r w r' w' : Int) : Tri Try.prog 74 #[.agg #[.int .i64 r, .int .i64 w], .agg #[.int .i64 r', .int .i64 w']] HP.tt (fun v => HP.and (v = .bool (lessB r w r' w')) HP.tt) := by
  refine tri_of_tree (ρ := [.i r, .i w, .i r', .i w']) mixed Try.func74 tree_less ?_
  unfold t_less
  simp only [T.den, E.prop, E.den, RX.look, F1.app, F2.app, Uni.int_i, Uni.nat_n, Uni.bool_c, Uni.str_s, Uni.adr_a, Uni.val_v, Uni.hp_p, hden, cden, V.den, W.den, A.den, BR.den, SA.den, FV.den, capV, exs, exP, allP, Cur.app, List.map_cons, List.map_nil, List.cons_append, List.nil_append, List.drop_succ_cons, List.drop_zero, List.length_cons, List.length_nil, Nat.zero_add, Nat.reduceAdd, Int.neg_neg, Bool.not_not, List.append_nil, Nat.add_zero, List.getElem?_cons_zero, List.getElem?_cons_succ, Decidable.not_not]
  refine fun x y => ⟨fun h1 => .of fun R h' _ => ⟨?_, trivial⟩, fun h1 => ⟨fun h2 => .of fun R h' _ => ⟨?_, trivial⟩, fun h2 => .of fun R h' _ => ⟨?_, trivial⟩⟩⟩
  · simp [lessB, h1]
  · simp [lessB, h1, h2]
  · simp [lessB, h1, h2]
theorem uaddr_ok (n : Int) : Tri Try.prog 103 #[.int .i64 n] HP.tt (fun v => HP.and (v = .bool (addrOk n)) HP.tt) := by
  refine tri_of_tree (ρ := [.i n]) mixed Try.func103 tree_address ?_
  unfold t_address
  simp only [T.den, E.prop, E.den, RX.look, F1.app, F2.app, Uni.int_i, Uni.nat_n, Uni.bool_c, Uni.str_s, Uni.adr_a, Uni.val_v, Uni.hp_p, hden, cden, V.den, W.den, A.den, BR.den, SA.den, FV.den, capV, exs, exP, allP, Cur.app, List.map_cons, List.map_nil, List.cons_append, List.nil_append, List.drop_succ_cons, List.drop_zero, List.length_cons, List.length_nil, Nat.zero_add, Nat.reduceAdd, Int.neg_neg, Bool.not_not, List.append_nil, Nat.add_zero, List.getElem?_cons_zero, List.getElem?_cons_succ, Decidable.not_not]
  refine ⟨fun h => .of fun R h' _ => ⟨?_, trivial⟩, fun h => .of fun R h' _ => ⟨?_, trivial⟩⟩
  · simp [addrOk, h]; congr
  · simp [addrOk, h]
def standB (what : Int) (n : Nat) : Bool := if what = 1 then decide ((n : Int) ≤ 65536) else if what = 2 then decide ((n : Int) = 0) else false
theorem ustand_ok (what : Int) (a : Option Addr) (n c : Nat) (S : HP) : Tri Try.prog 95 #[.agg #[.int .i64 what, .slice a n c]] S (fun v => HP.and (v = .bool (standB what n)) S) := by
  refine tri_of_tree (ρ := [.i what, .a a, .n n, .n c, .p S]) mixed Try.func95 tree_standing ?_
  unfold t_standing
  simp only [T.den, E.prop, E.den, RX.look, F1.app, F2.app, Uni.int_i, Uni.nat_n, Uni.bool_c, Uni.str_s, Uni.adr_a, Uni.val_v, Uni.hp_p, hden, cden, V.den, W.den, A.den, BR.den, SA.den, FV.den, capV, exs, exP, allP, Cur.app, List.map_cons, List.map_nil, List.cons_append, List.nil_append, List.drop_succ_cons, List.drop_zero, List.length_cons, List.length_nil, Nat.zero_add, Nat.reduceAdd, Int.neg_neg, Bool.not_not, List.append_nil, Nat.add_zero, List.getElem?_cons_zero, List.getElem?_cons_succ, Decidable.not_not]
  refine fun x => ⟨fun h1 => .of fun R h' H => ⟨?_, H⟩, fun h1 => ⟨fun h2 => .of fun R h' H => ⟨?_, H⟩, fun h2 => .of fun R h' H => ⟨?_, H⟩⟩⟩
  · simp [standB, h1]
  · simp [standB, h2]
  · simp [standB, h1, h2]
theorem wrap_u64 (x : Int) : 0 ≤ IntKind.u64.wrap x := by
  show (0 : Int) ≤ x % (2 ^ 64)
  exact Int.emod_nonneg _ (by decide)
theorem Tri.pre {P : Program} {f : FuncId} {args : Array Value} {A A' : HP} {B : Value → HP} (t : Tri P f args A B) (e : HP.ent A' A) : Tri P f args A' B :=
  t.conseq (K := HP.tt) (e.trans (.of fun _ _ => HP.sep_tt)) fun _ => .of fun _ _ => HP.sep_left
/-- A page: its kind, its numbers. -/
def pageL (k : UInt8) (ns : List Int) : List UInt8 := k :: ns.flatMap fun n => beN (IntKind.u64.wrap n).toNat 8
theorem pageL_len (k : UInt8) (ns : List Int) : (pageL k ns).length = 1 + 8 * ns.length := by
  unfold pageL
  rw [List.length_cons]
  induction ns with
  | nil => rfl
  | cons x r ih => rw [List.flatMap_cons, List.length_append, beN_len, List.length_cons]; omega
theorem upage_ok (k : UInt8) (a : Option Addr) (n c : Nat) (ns : List Int) (S : HP) (hr : Rd S a (ns.map fun x => .int .i64 x)) (hl : ns.length = n) (ha : n ≠ 0 → a.isSome = true) (hn : n ≤ 1000) :
    Tri Try.prog 76 #[u8v k, .slice a n c] S (fun v => HP.ex fun b => HP.and (v = .pointer (some ⟨b, 0, none⟩)) (HP.sep S (WRep b (pageL k ns)))) := by
  refine tri_of_tree (ρ := [.i k.toNat, .a a, .n n, .n c, .p S]) mixed Try.func76 tree_page ?_
  unfold t_page
  simp only [T.den, E.prop, E.den, RX.look, F1.app, F2.app, Uni.int_i, Uni.nat_n, Uni.bool_c, Uni.str_s, Uni.adr_a, Uni.val_v, Uni.hp_p, hden, cden, V.den, W.den, A.den, BR.den, SA.den, FV.den, capV, exs, exP, allP, Cur.app, List.map_cons, List.map_nil, List.cons_append, List.nil_append, List.drop_succ_cons, List.drop_zero, List.length_cons, List.length_nil, Nat.zero_add, Nat.reduceAdd, Int.neg_neg, Bool.not_not, List.append_nil, Nat.add_zero, List.getElem?_cons_zero, List.getElem?_cons_succ, Decidable.not_not]
  intro b
  refine (wByte_ok b [] k (by simp)).weak (fun R h H => ⟨none, 0, HP.sep_mono (HP.sep_tt H) (fun _ h => h) fun y _ => OwC.nil _ _ R y⟩) ?_
  rintro v R h ⟨rfl, H⟩
  refine ⟨WRep b [k], rfl, ⟨fun x P => ∃ j : Nat, x = j ∧ j ≤ n ∧ HP.ent P (WRep b (pageL k (ns.take j))), fun x _ => n - x.toNat, ⟨0, rfl, Nat.zero_le _, .refl _⟩, ?_⟩, H⟩
  rintro _ P ⟨j, rfl, hj, hP⟩
  refine ⟨fun hlt => ⟨by omega, fun _ => ⟨ha (by omega), fun _ => ?_⟩⟩, fun hge => ?_⟩
  · have hg : ns[j]? = some (ns[j]'(by omega)) := List.getElem?_eq_getElem (by omega)
    refine ⟨ns[j]'(by omega), ?_, ?_⟩
    · have := load1_ok (t := 3) (d := .int .i64) (by kernel_rfl) (by kernel_rfl) (by kernel_rfl) hr (k := j) (off := 0) (v := .int .i64 (ns[j]'(by omega))) (by rw [Nat.add_zero, List.getElem?_map, hg]; rfl)
      rw [semOf_load]
      simp only [T.den, E.prop, E.den, RX.look, F1.app, F2.app, Uni.int_i, Uni.nat_n, Uni.bool_c, Uni.str_s, Uni.adr_a, Uni.val_v, Uni.hp_p, hden, cden, V.den, W.den, A.den, BR.den, SA.den, FV.den, capV, exs, exP, allP, Cur.app, List.map_cons, List.map_nil, List.cons_append, List.nil_append, List.drop_succ_cons, List.drop_zero, List.length_cons, List.length_nil, Nat.zero_add, Nat.reduceAdd, Int.neg_neg, Bool.not_not, List.append_nil, Nat.add_zero, List.getElem?_cons_zero, List.getElem?_cons_succ, Decidable.not_not]
      rw [Int.toNat_natCast, Nat.mul_one]
      exact this
    · have hw : IntKind.u64.wrap (ns[j]'(by omega)) = ((IntKind.u64.wrap (ns[j]'(by omega))).toNat : Int) := (Int.toNat_of_nonneg (wrap_u64 _)).symm
      rw [hw]
      refine ((wNumber_ok b (pageL k (ns.take j)) (IntKind.u64.wrap (ns[j]'(by omega))).toNat 8 (Nat.le_refl _) (by rw [pageL_len, List.length_take]; omega)).pre hP).weak (fun _ _ h => h) ?_
      rintro v R h ⟨rfl, H⟩
      refine ⟨_, rfl, ⟨inI64 _ (by omega) (by omega), fun _ => ⟨⟨j + 1, by omega, by omega, .refl _⟩, by dsimp only; omega⟩⟩, ?_⟩
      have e : pageL k (ns.take (j + 1)) = pageL k (ns.take j) ++ beN (IntKind.u64.wrap (ns[j]'(by omega))).toNat 8 := by
        have : ns.take (j + 1) = ns.take j ++ [ns[j]'(by omega)] := by rw [List.take_add_one, hg]; rfl
        rw [this]
        simp only [pageL, List.flatMap_append, List.flatMap_cons, List.flatMap_nil, List.append_nil, List.cons_append]
      rw [e]
      exact H
  · have : j = n := by omega
    subst this
    rw [List.take_of_length_le (by omega)] at hP
    exact ((HP.ent.refl _).sep2 hP).trans (.of fun R h H => ⟨b, rfl, H⟩)
/-- What is kept of a cell. -/
structure CellS where
  what : Int
  data : List UInt8
def cellL (at' : Int) (x : CellS) : List UInt8 := if x.what = 2 then pageL 2 [at'] else pageL 1 [at'] ++ beN x.data.length 4 ++ x.data
theorem ucellPage_ok (at' what : Int) (a : Option Addr) (n c : Nat) (d : List UInt8) (S : HP) (hr : RdL S a n (d.map u8v)) (hl : d.length = n) (hn : n ≤ 100000000) (ha : n ≠ 0 → a.isSome = true) :
    Tri Try.prog 96 #[.int .i64 at', .agg #[.int .i64 what, .slice a n c]] S (fun v => HP.ex fun a' => HP.ex fun c' => HP.and (v = .slice a' (cellL at' ⟨what, d⟩).length c') (HP.sep S (OwB a' (cellL at' ⟨what, d⟩).length c' (cellL at' ⟨what, d⟩)))) := by
  refine tri_of_tree (ρ := [.i at', .i what, .a a, .n n, .n c, .p S]) mixed Try.func96 tree_cellPage ?_
  unfold t_cellPage
  simp only [T.den, E.prop, E.den, RX.look, F1.app, F2.app, Uni.int_i, Uni.nat_n, Uni.bool_c, Uni.str_s, Uni.adr_a, Uni.val_v, Uni.hp_p, hden, cden, V.den, W.den, A.den, BR.den, SA.den, FV.den, capV, exs, exP, allP, Cur.app, List.map_cons, List.map_nil, List.cons_append, List.nil_append, List.drop_succ_cons, List.drop_zero, List.length_cons, List.length_nil, Nat.zero_add, Nat.reduceAdd, Int.neg_neg, Bool.not_not, List.append_nil, Nat.add_zero, List.getElem?_cons_zero, List.getElem?_cons_succ, Decidable.not_not]
  have rd1 : ∀ y, Rd (HP.one y (.cells #[.int .i64 at'] 3)) (some ⟨y, 0, none⟩) ([at'].map fun x => .int .i64 x) := fun y => one_rd y #[.int .i64 at'] _
  refine fun x => ⟨fun hw y => ?_, fun hw y => ?_⟩
  · refine (upage_ok 2 (some ⟨y, 0, none⟩) 1 1 [at'] _ (rd1 y) rfl (fun _ => rfl) (by omega)).weak (fun _ _ h => h) ?_
    rintro v R h ⟨b, rfl, H⟩
    refine ⟨b, WRep b (pageL 2 [at']), at', rfl, ?_, HP.sep_comm H⟩
    refine (wOut_ok b (pageL 2 [at']) (by rw [pageL_len]; simp)).weak (fun _ _ h => h) ?_
    rintro v R h ⟨a', c', rfl, H⟩
    have e : cellL at' ⟨what, d⟩ = pageL 2 [at'] := if_pos hw
    rw [e]
    exact ⟨a', _, c', OwB a' (pageL 2 [at']).length c' (pageL 2 [at']), _, rfl, .of fun R h H => ⟨a', c', rfl, H⟩, HP.sep_comm H⟩
  · refine (upage_ok 1 (some ⟨y, 0, none⟩) 1 1 [at'] _ (rd1 y) rfl (fun _ => rfl) (by omega)).weak (fun _ _ h => h) ?_
    rintro v R h ⟨b, rfl, H⟩
    refine ⟨b, WRep b (pageL 1 [at']), at', rfl, ?_, HP.sep_comm H⟩
    refine (wBytes_ok b (pageL 1 [at']) a n c d S hr hl ha (by rw [pageL_len]; simp only [List.length_cons, List.length_nil]; omega)).weak (fun _ _ h => h) ?_
    rintro v R h ⟨rfl, H⟩
    refine ⟨_, S, rfl, ?_, H⟩
    refine (wOut_ok b _ (by rw [List.length_append, List.length_append, pageL_len, beN_len]; simp only [List.length_cons, List.length_nil]; omega)).weak (fun _ _ h => h) ?_
    rintro v R h ⟨a', c', rfl, H⟩
    have e : cellL at' ⟨what, d⟩ = pageL 1 [at'] ++ beN n 4 ++ d := by simp only [cellL]; rw [if_neg hw, hl]
    rw [e]
    exact ⟨a', _, c', OwB a' _ c' _, _, rfl, .of fun R h H => ⟨a', c', rfl, H⟩, HP.sep_comm H⟩
end Go.Proofs.Ytmibmjehjagmbaa

/- Contracts of the unit: what it keeps. No condition. -/
namespace Go.Proofs.Ytmibmjehjagmbaa
set_option linter.unusedSimpArgs false
set_option linter.unusedVariables false
open Go.Proofs.Ytmibmjehjagmbaa RX

structure InstS where
  pr : Int
  pw : Int
  ar : Int
  aw : Int
  val : List UInt8
def CellV (v : Value) (x : CellS) : HP := HP.ex fun a => HP.ex fun c => HP.and (v = .agg #[.int .i64 x.what, .slice a x.data.length c] ∧ x.data.length ≤ 140737488355328) (RoB a x.data.length x.data)
def InstV (v : Value) (x : InstS) : HP := HP.ex fun a => HP.ex fun c => HP.and (v = .agg #[.int .i64 x.pr, .int .i64 x.pw, .int .i64 x.ar, .int .i64 x.aw, .slice a x.val.length c] ∧ x.val.length ≤ 140737488355328) (RoB a x.val.length x.val)
theorem cellV_pers : Pers CellV := fun _ _ _ _ _ ⟨a, c, e, H⟩ => ⟨a, c, e, H⟩
theorem instV_pers : Pers InstV := fun _ _ _ _ _ ⟨a, c, e, H⟩ => ⟨a, c, e, H⟩
def iE (n : Int) : Value := .int .i64 n
theorem iK : KeyEnc Try.prog 3 iE := int_enc (by kernel_rfl)
theorem undMc : Try.prog.underlying 88 = some (.map 3 32) := by kernel_rfl
theorem undMi : Try.prog.underlying 111 = some (.map 3 133) := by kernel_rfl
theorem infoC : (Try.prog.info? 32).map (fun i => (i.zero, i.size, i.bytes)) = some (some (.agg #[.int .i64 0, .slice none 0 0]), 2, 32) := by kernel_rfl
theorem infoI : (Try.prog.info? 133).map (fun i => (i.zero, i.size, i.bytes)) = some (some (.agg #[.int .i64 0, .int .i64 0, .int .i64 0, .int .i64 0, .slice none 0 0]), 5, 56) := by kernel_rfl
structure USt where
  epoch : Int
  low : Int
  top : Int
  cells : Int → Option CellS
  inst : Int → Option InstS
def UOne (ub bd mc mi : Nat) (s : USt) : HP := HP.one ub (.cells #[.pointer (some ⟨bd, 0, none⟩), .int .i64 s.epoch, .int .i64 s.low, .int .i64 s.top, .map (some mc), .map (some mi)] 113)
def URep (ub bd : Nat) (D : HP) (s : USt) : HP := HP.ex fun mc => HP.ex fun mi => HP.sep (UOne ub bd mc mi s) (HP.sep D (HP.sep (MapE CellV iE mc s.cells) (MapE InstV iE mi s.inst)))
theorem URep.tri {f : FuncId} {args : Array Value} {ub bd : Nat} {D : HP} {s : USt} {B : Value → HP}
    (t : ∀ mc mi lc cc li ci, Tri Try.prog f args (HP.sep (UOne ub bd mc mi s) (HP.sep D (HP.sep (MapH CellV iE mc s.cells lc cc) (MapH InstV iE mi s.inst li ci)))) B) : Tri Try.prog f args (URep ub bd D s) B := by
  refine Tri.ex fun mc => Tri.ex fun mi => ?_
  refine (Tri.ex (A := fun lc => HP.ex fun cc => HP.ex fun li => HP.ex fun ci => HP.sep (UOne ub bd mc mi s) (HP.sep D (HP.sep (MapH CellV iE mc s.cells lc cc) (MapH InstV iE mi s.inst li ci)))) fun lc => Tri.ex fun cc => Tri.ex fun li => Tri.ex fun ci => t mc mi lc cc li ci).weak ?_ fun _ _ _ h => h
  rintro R h ⟨h1, h2, d, l1, l2, H1, h3, h4, d2, l3, l4, H2, h5, h6, d3, l5, l6, ⟨lc, cc, H3⟩, ⟨li, ci, H4⟩⟩
  exact ⟨lc, cc, li, ci, h1, h2, d, l1, l2, H1, h3, h4, d2, l3, l4, H2, h5, h6, d3, l5, l6, H3, H4⟩
theorem URep.triS {f : FuncId} {args : Array Value} {ub bd : Nat} {D S : HP} {s : USt} {B : Value → HP}
    (t : ∀ mc mi lc cc li ci, Tri Try.prog f args (HP.sep (UOne ub bd mc mi s) (HP.sep D (HP.sep (MapH CellV iE mc s.cells lc cc) (HP.sep (MapH InstV iE mi s.inst li ci) S)))) B) : Tri Try.prog f args (HP.sep (URep ub bd D s) S) B := by
  refine (Tri.ex (A := fun mc => HP.ex fun mi => HP.ex fun lc => HP.ex fun cc => HP.ex fun li => HP.ex fun ci => HP.sep (UOne ub bd mc mi s) (HP.sep D (HP.sep (MapH CellV iE mc s.cells lc cc) (HP.sep (MapH InstV iE mi s.inst li ci) S)))) fun mc => Tri.ex fun mi => Tri.ex fun lc => Tri.ex fun cc => Tri.ex fun li => Tri.ex fun ci => t mc mi lc cc li ci).weak ?_ fun _ _ _ h => h
  rintro R h ⟨h1, h2, d, l1, l2, ⟨mc, mi, H⟩, HS⟩
  refine ⟨mc, mi, ?_⟩
  obtain ⟨k1, k2, e, m1, m2, H1, H2⟩ := HP.sep_assoc ⟨h1, h2, d, l1, l2, H, HS⟩
  obtain ⟨k3, k4, e2, m3, m4, H3, H4⟩ := HP.sep_assoc H2
  obtain ⟨k5, k6, e3, m5, m6, ⟨lc, cc, H5⟩, k7, k8, e4, m7, m8, ⟨li, ci, H6⟩, H7⟩ := HP.sep_assoc H4
  exact ⟨lc, cc, li, ci, k1, k2, e, m1, m2, H1, k3, k4, e2, m3, m4, H3, k5, k6, e3, m5, m6, H5, k7, k8, e4, m7, m8, H6, H7⟩
/-- .. and back. -/
theorem URep.of {ub bd mc mi : Nat} {D : HP} {s : USt} {R h : PH} (H : (HP.sep (UOne ub bd mc mi s) (HP.sep D (HP.sep (MapE CellV iE mc s.cells) (MapE InstV iE mi s.inst)))).p R h) : (URep ub bd D s).p R h := ⟨mc, mi, H⟩
theorem URep.ofH {ub bd mc mi : Nat} {D : HP} {s : USt} {lc : AL Int} {cc : Nat} {li : AL Int} {ci : Nat} {R h : PH} (H : (HP.sep (UOne ub bd mc mi s) (HP.sep D (HP.sep (MapH CellV iE mc s.cells lc cc) (MapH InstV iE mi s.inst li ci)))).p R h) : (URep ub bd D s).p R h := by
  obtain ⟨h1, h2, d, l1, l2, H1, h3, h4, d2, l3, l4, H2, h5, h6, d3, l5, l6, H3, H4⟩ := H
  exact ⟨mc, mi, h1, h2, d, l1, l2, H1, h3, h4, d2, l3, l4, H2, h5, h6, d3, l5, l6, ⟨_, _, H3⟩, ⟨_, _, H4⟩⟩
theorem URep.ofS {ub bd mc mi : Nat} {D S : HP} {s : USt} {R h : PH} (H : (HP.sep (UOne ub bd mc mi s) (HP.sep D (HP.sep (MapE CellV iE mc s.cells) (HP.sep (MapE InstV iE mi s.inst) S)))).p R h) : (HP.sep (URep ub bd D s) S).p R h := by
  have H2 := HP.sep_assoc' (HP.sep_mono H (fun _ h => h) fun y hy => HP.sep_assoc' (HP.sep_mono hy (fun _ h => h) fun z hz => HP.sep_assoc' hz))
  exact HP.sep_mono H2 (fun y hy => ⟨mc, mi, hy⟩) fun _ h => h
theorem uEpoch_ok (ub bd : Nat) (D : HP) (s : USt) : Tri Try.prog 20 #[.pointer (some ⟨ub, 0, none⟩)] (URep ub bd D s) (fun v => HP.and (v = .int .i64 s.epoch) (URep ub bd D s)) := by
  refine URep.tri fun mc mi lc cc li ci => ?_
  refine tri_of_tree (ρ := [.n ub, .n bd, .p D, .i s.epoch, .i s.low, .i s.top, .n mc, .p (MapH CellV iE mc s.cells lc cc), .n mi, .p (MapH InstV iE mi s.inst li ci)]) mixed Try.func20 tree_uEpoch ?_
  unfold t_uEpoch
  simp only [T.den, E.prop, E.den, RX.look, F1.app, F2.app, Uni.int_i, Uni.nat_n, Uni.bool_c, Uni.str_s, Uni.adr_a, Uni.val_v, Uni.hp_p, hden, cden, V.den, W.den, A.den, BR.den, SA.den, FV.den, capV, exs, exP, allP, Cur.app, List.map_cons, List.map_nil, List.cons_append, List.nil_append, List.drop_succ_cons, List.drop_zero, List.length_cons, List.length_nil, Nat.zero_add, Nat.reduceAdd, Int.neg_neg, Bool.not_not, List.append_nil, Nat.add_zero, List.getElem?_cons_zero, List.getElem?_cons_succ, Decidable.not_not]
  exact .of fun R h H => ⟨trivial, URep.ofH H⟩
theorem uLow_ok (ub bd : Nat) (D : HP) (s : USt) : Tri Try.prog 38 #[.pointer (some ⟨ub, 0, none⟩)] (URep ub bd D s) (fun v => HP.and (v = .int .i64 s.low) (URep ub bd D s)) := by
  refine URep.tri fun mc mi lc cc li ci => ?_
  refine tri_of_tree (ρ := [.n ub, .n bd, .p D, .i s.epoch, .i s.low, .i s.top, .n mc, .p (MapH CellV iE mc s.cells lc cc), .n mi, .p (MapH InstV iE mi s.inst li ci)]) mixed Try.func38 tree_uLow ?_
  unfold t_uLow
  simp only [T.den, E.prop, E.den, RX.look, F1.app, F2.app, Uni.int_i, Uni.nat_n, Uni.bool_c, Uni.str_s, Uni.adr_a, Uni.val_v, Uni.hp_p, hden, cden, V.den, W.den, A.den, BR.den, SA.den, FV.den, capV, exs, exP, allP, Cur.app, List.map_cons, List.map_nil, List.cons_append, List.nil_append, List.drop_succ_cons, List.drop_zero, List.length_cons, List.length_nil, Nat.zero_add, Nat.reduceAdd, Int.neg_neg, Bool.not_not, List.append_nil, Nat.add_zero, List.getElem?_cons_zero, List.getElem?_cons_succ, Decidable.not_not]
  exact .of fun R h H => ⟨trivial, URep.ofH H⟩
theorem uTail_ok (ub bd : Nat) (D : HP) (s : USt) : Tri Try.prog 40 #[.pointer (some ⟨ub, 0, none⟩)] (URep ub bd D s) (fun v => HP.and (v = .int .i64 (max s.top s.low)) (URep ub bd D s)) := by
  refine URep.tri fun mc mi lc cc li ci => ?_
  refine tri_of_tree (ρ := [.n ub, .n bd, .p D, .i s.epoch, .i s.low, .i s.top, .n mc, .p (MapH CellV iE mc s.cells lc cc), .n mi, .p (MapH InstV iE mi s.inst li ci)]) mixed Try.func40 tree_uTail ?_
  unfold t_uTail
  simp only [T.den, E.prop, E.den, RX.look, F1.app, F2.app, Uni.int_i, Uni.nat_n, Uni.bool_c, Uni.str_s, Uni.adr_a, Uni.val_v, Uni.hp_p, hden, cden, V.den, W.den, A.den, BR.den, SA.den, FV.den, capV, exs, exP, allP, Cur.app, List.map_cons, List.map_nil, List.cons_append, List.nil_append, List.drop_succ_cons, List.drop_zero, List.length_cons, List.length_nil, Nat.zero_add, Nat.reduceAdd, Int.neg_neg, Bool.not_not, List.append_nil, Nat.add_zero, List.getElem?_cons_zero, List.getElem?_cons_succ, Decidable.not_not]
  exact .of fun R h H => ⟨trivial, URep.ofH H⟩
def reachE (s : USt) (epoch at' : Int) : Int := if epoch = s.epoch then (if addrOk at' then 0 else 2) else 8
theorem uReachRaw_ok (ub bd mc mi : Nat) (D C I : HP) (s : USt) (epoch at' : Int) : Tri Try.prog 70 #[.pointer (some ⟨ub, 0, none⟩), .int .i64 epoch, .int .i64 at'] (HP.sep (UOne ub bd mc mi s) (HP.sep D (HP.sep C I)))
    (fun v => HP.and (v = .int .i64 (reachE s epoch at')) (HP.sep (UOne ub bd mc mi s) (HP.sep D (HP.sep C I)))) := by
  refine tri_of_tree (ρ := [.n ub, .n bd, .p D, .i s.epoch, .i s.low, .i s.top, .n mc, .p C, .n mi, .p I, .i epoch, .i at']) mixed Try.func70 tree_uReach ?_
  unfold t_uReach
  simp only [T.den, E.prop, E.den, RX.look, F1.app, F2.app, Uni.int_i, Uni.nat_n, Uni.bool_c, Uni.str_s, Uni.adr_a, Uni.val_v, Uni.hp_p, hden, cden, V.den, W.den, A.den, BR.den, SA.den, FV.den, capV, exs, exP, allP, Cur.app, List.map_cons, List.map_nil, List.cons_append, List.nil_append, List.drop_succ_cons, List.drop_zero, List.length_cons, List.length_nil, Nat.zero_add, Nat.reduceAdd, Int.neg_neg, Bool.not_not, List.append_nil, Nat.add_zero, List.getElem?_cons_zero, List.getElem?_cons_succ, Decidable.not_not]
  refine ⟨fun h => .of fun R y H => ⟨by rw [reachE, if_neg h], H⟩, fun h => (uaddr_ok at').weak (fun _ _ h => h) ?_⟩
  rintro v R y ⟨rfl, H⟩
  refine ⟨_, rfl, ⟨fun h2 => .of fun R y H => ⟨by rw [reachE, if_pos h, if_neg h2], H⟩, fun h2 => .of fun R y H => ⟨by rw [reachE, if_pos h, if_pos h2], H⟩⟩, H⟩
theorem uLast_ok (ub bd mc mi : Nat) (room : Int) (ps : List Pg) (lasts : Nat) (C I : HP) (s : USt) (a : Option Addr) (n c : Nat) (l : List UInt8) (S : HP) (hr : RdL S a n (l.map u8v)) (hl : l.length = n) (hb : n ≤ 140737488355328) :
    Tri Try.prog 75 #[.pointer (some ⟨ub, 0, none⟩), .slice a n c] (HP.sep (UOne ub bd mc mi s) (HP.sep (DRep bd room ps lasts) (HP.sep C (HP.sep I S))))
    (fun v => HP.and (v = .int .i64 (putPg room ps ⟨1, l⟩).1) (HP.sep (UOne ub bd mc mi s) (HP.sep (DRep bd room (putPg room ps ⟨1, l⟩).2 (if (putPg room ps ⟨1, l⟩).1 = 0 then (putPg room ps ⟨1, l⟩).2.length else lasts)) (HP.sep C (HP.sep I S))))) := by
  refine tri_of_tree (ρ := [.n ub, .n bd, .p (DRep bd room ps lasts), .i s.epoch, .i s.low, .i s.top, .n mc, .p C, .n mi, .p I, .a a, .n n, .n c, .p S]) mixed Try.func75 tree_uLast ?_
  unfold t_uLast
  simp only [T.den, E.prop, E.den, RX.look, F1.app, F2.app, Uni.int_i, Uni.nat_n, Uni.bool_c, Uni.str_s, Uni.adr_a, Uni.val_v, Uni.hp_p, hden, cden, V.den, W.den, A.den, BR.den, SA.den, FV.den, capV, exs, exP, allP, Cur.app, List.map_cons, List.map_nil, List.cons_append, List.nil_append, List.drop_succ_cons, List.drop_zero, List.length_cons, List.length_nil, Nat.zero_add, Nat.reduceAdd, Int.neg_neg, Bool.not_not, List.append_nil, Nat.add_zero, List.getElem?_cons_zero, List.getElem?_cons_succ, Decidable.not_not]
  refine (dAppend_ok bd room ps lasts a n c l S hr hl hb).weak (fun _ _ h => h) ?_
  rintro v R h ⟨rfl, H⟩
  refine ⟨_, _, S, rfl, ⟨fun h0 => .of fun R y H => ⟨rfl, by rw [if_neg h0]; exact H⟩, fun h0 => ?_⟩, H⟩
  refine (dSync_ok bd room _ lasts).weak (fun _ _ h => h) ?_
  rintro v R y ⟨rfl, H⟩
  exact ⟨_, rfl, .of fun R z H => ⟨by rw [h0], by rw [if_pos h0]; exact H⟩, H⟩
theorem uPut_ok (ub bd mc mi : Nat) (D I : HP) (s : USt) (lc : AL Int) (cc : Nat) (at' what : Int) (a : Option Addr) (n c : Nat) (d : List UInt8) (S : HP) (hr : RdL S a n (d.map u8v)) (hl : d.length = n) (hb : n ≤ 140737488355328) (hat : addrOk at' = true) :
    Tri Try.prog 97 #[.pointer (some ⟨ub, 0, none⟩), .int .i64 at', .agg #[.int .i64 what, .slice a n c]] (HP.sep (UOne ub bd mc mi s) (HP.sep D (HP.sep (MapH CellV iE mc s.cells lc cc) (HP.sep I S))))
    (fun v => HP.and (v = .tuple #[]) (HP.sep (UOne ub bd mc mi { s with top := max s.top (at' + 1) }) (HP.sep D (HP.sep (MapE CellV iE mc (fput s.cells at' (some ⟨what, d⟩))) (HP.sep I S))))) := by
  refine tri_of_tree (ρ := [.n ub, .n bd, .p D, .i s.epoch, .i s.low, .i s.top, .n mc, .p (MapH CellV iE mc s.cells lc cc), .n mi, .p I, .i at', .i what, .a a, .n n, .n c, .p S]) mixed Try.func97 tree_uPut ?_
  unfold t_uPut
  simp only [T.den, E.prop, E.den, RX.look, F1.app, F2.app, Uni.int_i, Uni.nat_n, Uni.bool_c, Uni.str_s, Uni.adr_a, Uni.val_v, Uni.hp_p, hden, cden, V.den, W.den, A.den, BR.den, SA.den, FV.den, capV, exs, exP, allP, Cur.app, List.map_cons, List.map_nil, List.cons_append, List.nil_append, List.drop_succ_cons, List.drop_zero, List.length_cons, List.length_nil, Nat.zero_add, Nat.reduceAdd, Int.neg_neg, Bool.not_not, List.append_nil, Nat.add_zero, List.getElem?_cons_zero, List.getElem?_cons_succ, Decidable.not_not]
  intro x
  refine (cloneR_ok S a n c d hr hl hb).weak (fun _ _ h => h) ?_
  rintro v R h ⟨a', c', rfl, H⟩
  refine ⟨a', n, c', RoB a' n d, S, rfl, ?_, H⟩
  rw [semOf_update (by decide) (by decide) (by decide)]
  simp only [T.den, E.prop, E.den, RX.look, F1.app, F2.app, Uni.int_i, Uni.nat_n, Uni.bool_c, Uni.str_s, Uni.adr_a, Uni.val_v, Uni.hp_p, hden, cden, V.den, W.den, A.den, BR.den, SA.den, FV.den, capV, exs, exP, allP, Cur.app, List.map_cons, List.map_nil, List.cons_append, List.nil_append, List.drop_succ_cons, List.drop_zero, List.length_cons, List.length_nil, Nat.zero_add, Nat.reduceAdd, Int.neg_neg, Bool.not_not, List.append_nil, Nat.add_zero, List.getElem?_cons_zero, List.getElem?_cons_succ, Decidable.not_not]
  refine (MapH.put iK undMc cellV_pers at' _ ⟨what, d⟩ (fun R h H => ?_)).weak (fun _ _ h => h) ?_
  · subst hl
    exact ⟨a', c', ⟨rfl, hb⟩, H⟩
  · rintro v R h ⟨rfl, H⟩
    simp only [addrOk, Bool.and_eq_true, decide_eq_true_eq] at hat
    exact ⟨_, rfl, ⟨inI64 _ (by omega) (by omega), fun _ => .of fun R h H => ⟨trivial, H⟩⟩, H⟩
theorem Rd.imp {S T : HP} {a : Option Addr} {xs : List Value} (r : Rd T a xs) (h : ∀ R x, S.p R x → T.p R x) : Rd S a xs := fun w R x F s p => r w R x F s (h R x p)
theorem RdL.imp {S : HP} {a : Option Addr} {n : Nat} {l : List UInt8} (h : ∀ R x, S.p R x → (RoB a n l).p R x) : RdL S a n (l.map u8v) :=
  ⟨Rd.imp (RdL.ro 1 a n (l.map u8v)).rd h, fun R x p => (RdL.ro 1 a n (l.map u8v)).none R x (h R x p)⟩
theorem uCell_ok (ub bd mc mi : Nat) (D I : HP) (s : USt) (lc : AL Int) (cc : Nat) (at' : Int) :
    Tri Try.prog 71 #[.pointer (some ⟨ub, 0, none⟩), .int .i64 at'] (HP.sep (UOne ub bd mc mi s) (HP.sep D (HP.sep (MapH CellV iE mc s.cells lc cc) I)))
    (fun v => HP.ex fun a => HP.ex fun c => HP.and (v = .tuple #[.agg #[.int .i64 ((s.cells at').getD ⟨0, []⟩).what, .slice a ((s.cells at').getD ⟨0, []⟩).data.length c], .bool (s.cells at').isSome]) (HP.sep (RoB a ((s.cells at').getD ⟨0, []⟩).data.length ((s.cells at').getD ⟨0, []⟩).data) (HP.sep (UOne ub bd mc mi s) (HP.sep D (HP.sep (MapH CellV iE mc s.cells lc cc) I))))) := by
  refine Tri.fact (φ := ∃ a c, (alFind at' lc).getD (.agg #[.int .i64 0, .slice none 0 0]) = .agg #[.int .i64 ((s.cells at').getD ⟨0, []⟩).what, .slice a ((s.cells at').getD ⟨0, []⟩).data.length c] ∧ (alFind at' lc).isSome = (s.cells at').isSome ∧ ((s.cells at').getD ⟨0, []⟩).data.length ≤ 140737488355328 ∧
      ∀ R h, (MapH CellV iE mc s.cells lc cc).p R h → (RoB a ((s.cells at').getD ⟨0, []⟩).data.length ((s.cells at').getD ⟨0, []⟩).data).p R h) (fun R h H => ?_) ?_
  · have HM := HP.sep_left (HP.sep_right (HP.sep_right H))
    cases hc : s.cells at' with
    | none =>
      rw [MapH.no HM hc]
      exact ⟨none, 0, rfl, rfl, by simp, fun _ _ _ => RoC.nil _ _ _ _⟩
    | some x =>
      obtain ⟨v, hv, a, c, ⟨e, hb⟩, _⟩ := MapH.yes HM cellV_pers hc PH.none'
      rw [hv]
      refine ⟨a, c, e, rfl, hb, fun R2 h2 H2 => ?_⟩
      obtain ⟨v2, hv2, a2, c2, ⟨e2, _⟩, hr⟩ := MapH.yes H2 cellV_pers hc h2
      rw [hv] at hv2
      cases hv2
      rw [e] at e2
      cases e2
      exact hr
  rintro ⟨a, c, hval, hsome, hb, hro⟩
  refine tri_of_tree (ρ := [.n ub, .n bd, .p D, .i s.epoch, .i s.low, .i s.top, .n mc, .p (MapH CellV iE mc s.cells lc cc), .n mi, .p I, .i at']) mixed Try.func71 tree_uCell ?_
  unfold t_uCell
  simp only [T.den, E.prop, E.den, RX.look, F1.app, F2.app, Uni.int_i, Uni.nat_n, Uni.bool_c, Uni.str_s, Uni.adr_a, Uni.val_v, Uni.hp_p, hden, cden, V.den, W.den, A.den, BR.den, SA.den, FV.den, capV, exs, exP, allP, Cur.app, List.map_cons, List.map_nil, List.cons_append, List.nil_append, List.drop_succ_cons, List.drop_zero, List.length_cons, List.length_nil, Nat.zero_add, Nat.reduceAdd, Int.neg_neg, Bool.not_not, List.append_nil, Nat.add_zero, List.getElem?_cons_zero, List.getElem?_cons_succ, Decidable.not_not]
  intro x
  obtain ⟨i, hi, z1, _⟩ := info_parts infoC
  have hlook := look_ok (r := mc) (l := lc) (c := cc) iK undMc hi z1 at' true (A := MapH CellV iE mc s.cells lc cc) (fun R h H => MapH.at H)
  rw [if_pos rfl, hval, hsome] at hlook
  refine ⟨_, _, _, _, _, hlook, fun y => ?_⟩
  refine (cloneR_ok (MapH CellV iE mc s.cells lc cc) a _ c ((s.cells at').getD ⟨0, []⟩).data (RdL.imp hro) rfl hb).weak (fun _ _ h => h) ?_
  rintro v R h ⟨a', c', rfl, H⟩
  refine ⟨a', _, c', RoB a' ((s.cells at').getD ⟨0, []⟩).data.length ((s.cells at').getD ⟨0, []⟩).data, MapH CellV iE mc s.cells lc cc, rfl, .of fun R h H => ⟨a', c', rfl, ?_⟩, H⟩
  refine RoC.join (HP.sep_right (HP.sep_right (HP.sep_right (HP.sep_right H)))) ?_
  exact HP.sep_mono H (fun _ h => h) fun y hy => HP.sep_mono hy (fun _ h => h) fun z hz => HP.sep_mono hz (fun _ h => h) fun q hq => HP.sep_left hq
end Go.Proofs.Ytmibmjehjagmbaa
