/- Texts of this claim, joined: TrRd, Rdr, Lw4E, TreeBytesW, TreeBytesD, TreeBytesA, TreeBytesK, TreeBytesB. No condition. -/
import Derived.Test.YtdieogcemmnaaaaGreatDoorTBJ1
import Derived.Test.YtdieogcemmnaaaaGreatDoorTBJ5
import Derived.KernelRfl
import Derived.ProofKit
import Derived.OpenShut
import Derived.ShutString
import Derived.ChangeOld
import Derived.Below
import Derived.SizedLaws
import Derived.Lay
import Derived.LaidMore
import Derived.Test.YtdieogcemmnaaaaGreatDoorTie
import Derived.Test.YtdieogcemmnaaaaGreatDoorCards
import Derived.SevenTiedAt
set_option linter.unusedSimpArgs false
set_option linter.unusedVariables false
/- Trees of functions, printed by rx.lean. No condition. -/
namespace Go.Proofs.YtdieogcemmnaaaaGreatDoor.RX
set_option maxRecDepth 100000
-- tideline/octet.Read: ρ := [.a ba, .n bl, .n bc, .p bP]
def t_rRead : T :=
(.call 73 [(.a (.sl (.v 0) (.v 1) (.v 2)))] [((.a 0), (.prop 3))] [.a, .n, .n, .p, .p] (.w (.a (.sl (.v 4) (.v 5) (.v 6)))) [((.a 4), (.prop 7)), ((.a 0), (.prop 8))]
(.new
(.ret (.w (.a (.ptr (.v 9) 0))) [((.a 0), (.prop 8)), ((.b (.v 9)), (.cells [(.sl (.v 4) (.v 5) (.v 6)), (.bool (.c false))] 247)), ((.a 4), (.prop 7))])))
theorem tree_rRead : tree Tryz.prog { absT := [], opq := [], hv := [], keep := [], link := [], ent := [], turn := [], shr := [], vt := [], mkd := [], rlink := [], pty := [], outl := false, stay := [], snk := [] } Tryz.f85 [(.a (.sl (.v 0) (.v 1) (.v 2)))] [((.a 0), (.prop 3))] 4 = t_rRead := by kernel_rfl
-- (*tideline/octet.Reader).fail: ρ := [.n r, .a r_lefta, .n r_leftl, .n r_leftc, .p r_leftP, .c r_wrong]
def t_rFail : T :=
(.ret (.tup []) [((.b (.v 0)), (.cells [(.sl .nil (.n 0) (.n 0)), (.bool (.c true))] 247)), ((.a 1), (.prop 4))])
theorem tree_rFail : tree Tryz.prog { absT := [], opq := [], hv := [], keep := [], link := [], ent := [], turn := [], shr := [], vt := [], mkd := [], rlink := [], pty := [], outl := false, stay := [], snk := [] } Tryz.f203 [(.a (.ptr (.v 0) 0))] [((.b (.v 0)), (.cells [(.sl (.v 1) (.v 2) (.v 3)), (.bool (.v 5))] 247)), ((.a 1), (.prop 4))] 6 = t_rFail := by kernel_rfl
-- (*tideline/octet.Reader).take: ρ := [.n r, .a r_lefta, .n r_leftl, .n r_leftc, .p r_leftP, .c r_wrong, .i n]
def t_rTake : T :=
(.br (.v 5)
 (.ret (.w (.a (.sl .nil (.n 0) (.n 0)))) [((.b (.v 0)), (.cells [(.sl (.v 1) (.v 2) (.v 3)), (.bool (.v 5))] 247)), ((.a 1), (.prop 4))])
 (.br (.o2 .lt (.o1 .ofNat (.v 2)) (.v 6))
  (.call 203 [(.a (.ptr (.v 0) 0))] [((.b (.v 0)), (.cells [(.sl (.v 1) (.v 2) (.v 3)), (.bool (.v 5))] 247)), ((.a 1), (.prop 4))] [.a, .n, .n, .p, .c] (.tup []) [((.b (.v 0)), (.cells [(.sl (.v 7) (.v 8) (.v 9)), (.bool (.v 11))] 247)), ((.a 7), (.prop 10))]
  (.ret (.w (.a (.sl .nil (.n 0) (.n 0)))) [((.b (.v 0)), (.cells [(.sl (.v 7) (.v 8) (.v 9)), (.bool (.v 11))] 247)), ((.a 7), (.prop 10))]))
  (.read (.slice 28 (.tmp 22) (some (.const (.int .i64 0))) (some (.tmp 23)) (some (.tmp 24))) 28 [(22, (.w (.a (.sl (.v 1) (.v 2) (.v 3))))), (23, (.w (.a (.int .i64 (.v 6))))), (24, (.w (.a (.int .i64 (.v 6)))))] [((.a 1), (.prop 4))] [.a, .n, .n] (.w (.a (.sl (.v 7) (.v 8) (.v 9))))
  (.read (.slice 28 (.tmp 30) (some (.tmp 31)) none none) 28 [(30, (.w (.a (.sl (.v 1) (.v 2) (.v 3))))), (31, (.w (.a (.int .i64 (.v 6)))))] [((.a 1), (.prop 4))] [.a, .n, .n] (.w (.a (.sl (.v 10) (.v 11) (.v 12))))
  (.ret (.w (.a (.sl (.v 7) (.v 8) (.v 9)))) [((.b (.v 0)), (.cells [(.sl (.v 10) (.v 11) (.v 12)), (.bool (.v 5))] 247)), ((.a 1), (.prop 4))])))))
theorem tree_rTake : tree Tryz.prog { absT := [], opq := [], hv := [], keep := [], link := [], ent := [], turn := [], shr := [], vt := [], mkd := [], rlink := [], pty := [], outl := false, stay := [], snk := [] } Tryz.f202 [(.a (.ptr (.v 0) 0)), (.a (.int .i64 (.v 6)))] [((.b (.v 0)), (.cells [(.sl (.v 1) (.v 2) (.v 3)), (.bool (.v 5))] 247)), ((.a 1), (.prop 4))] 7 = t_rTake := by kernel_rfl
-- (*tideline/octet.Reader).Number: ρ := [.n r, .p rP, .i n]
def t_rNumber : T :=
(.call 199 [(.a (.int .i64 (.v 2)))] [] [.i] (.w (.a (.int .i64 (.v 3)))) []
(.call 202 [(.a (.ptr (.v 0) 0)), (.a (.int .i64 (.v 3)))] [((.b (.v 0)), (.prop 1))] [.a, .n, .n, .p, .p] (.w (.a (.sl (.v 4) (.v 5) (.v 6)))) [((.a 4), (.prop 7)), ((.b (.v 0)), (.prop 8))]
(.loop [.i, .i] [(.e (.o1 .neg (.o1 .neg (.i 0)))), (.e (.o1 .neg (.o1 .neg (.i 0))))]
 (.br (.o2 .lt (.v 10) (.o1 .ofNat (.v 5)))
  (.need (.o2 .le (.i 0) (.v 10))
  (.need (.o1 .isSome (.v 4))
  (.read (.load 5 (.tmp 15)) 5 [(15, (.w (.a (.eptr 4 (.v 10) 1 0))))] [((.a 4), (.prop 7))] [.i] (.w (.a (.int .u8 (.v 11))))
  (.need (.o1 (.inr .u64) (.v 11))
  (.need (.o1 (.inr .i64) (.o2 .add (.v 10) (.i 1)))
  (.again 0 [(.e (.o1 .neg (.o1 .neg (.o2 (.bit .or .u64) (.o2 (.shl .u64) (.v 9) (.i 8)) (.v 11))))), (.e (.o1 .neg (.o1 .neg (.o2 .add (.v 10) (.i 1)))))]))))))
  (.ret (.w (.a (.int .u64 (.v 9)))) [((.b (.v 0)), (.prop 8))])))))
theorem tree_rNumber : tree Tryz.prog { absT := [], opq := [], hv := [], keep := [], link := [], ent := [], turn := [], shr := [], vt := [], mkd := [], rlink := [], pty := [], outl := false, stay := [], snk := [] } Tryz.f153 [(.a (.ptr (.v 0) 0)), (.a (.int .i64 (.v 2)))] [((.b (.v 0)), (.prop 1))] 3 = t_rNumber := by kernel_rfl
-- (*tideline/octet.Reader).told: ρ := [.n r, .a r_lefta, .n r_leftl, .n r_leftc, .p r_leftP, .c r_wrong, .i most]
def t_rTold : T :=
(.call 153 [(.a (.ptr (.v 0) 0)), (.a (.int .i64 (.i 4)))] [((.b (.v 0)), (.cells [(.sl (.v 1) (.v 2) (.v 3)), (.bool (.v 5))] 247)), ((.a 1), (.prop 4))] [.i, .a, .n, .n, .p, .c] (.w (.a (.int .u64 (.v 7)))) [((.b (.v 0)), (.cells [(.sl (.v 8) (.v 9) (.v 10)), (.bool (.v 12))] 247)), ((.a 8), (.prop 11))]
(.br (.v 12)
 (.ret (.w (.a (.int .i64 (.i 0)))) [((.b (.v 0)), (.cells [(.sl (.v 8) (.v 9) (.v 10)), (.bool (.v 12))] 247)), ((.a 8), (.prop 11))])
 (.br (.o2 .lt (.v 6) (.o1 (.wrap .i64) (.v 7)))
  (.call 203 [(.a (.ptr (.v 0) 0))] [((.b (.v 0)), (.cells [(.sl (.v 8) (.v 9) (.v 10)), (.bool (.v 12))] 247)), ((.a 8), (.prop 11))] [.a, .n, .n, .p, .c] (.tup []) [((.b (.v 0)), (.cells [(.sl (.v 13) (.v 14) (.v 15)), (.bool (.v 17))] 247)), ((.a 13), (.prop 16))]
  (.ret (.w (.a (.int .i64 (.i 0)))) [((.b (.v 0)), (.cells [(.sl (.v 13) (.v 14) (.v 15)), (.bool (.v 17))] 247)), ((.a 13), (.prop 16))]))
  (.ret (.w (.a (.int .i64 (.o1 (.wrap .i64) (.v 7))))) [((.b (.v 0)), (.cells [(.sl (.v 8) (.v 9) (.v 10)), (.bool (.v 12))] 247)), ((.a 8), (.prop 11))]))))
theorem tree_rTold : tree Tryz.prog { absT := [], opq := [], hv := [], keep := [], link := [], ent := [], turn := [], shr := [], vt := [], mkd := [], rlink := [], pty := [], outl := false, stay := [], snk := [] } Tryz.f154 [(.a (.ptr (.v 0) 0)), (.a (.int .i64 (.v 6)))] [((.b (.v 0)), (.cells [(.sl (.v 1) (.v 2) (.v 3)), (.bool (.v 5))] 247)), ((.a 1), (.prop 4))] 7 = t_rTold := by kernel_rfl
-- (*tideline/octet.Reader).Byte: ρ := [.n r, .p rP]
def t_rByte : T :=
(.call 153 [(.a (.ptr (.v 0) 0)), (.a (.int .i64 (.i 1)))] [((.b (.v 0)), (.prop 1))] [.i, .p] (.w (.a (.int .u64 (.v 2)))) [((.b (.v 0)), (.prop 3))]
(.ret (.w (.a (.int .u8 (.o1 (.wrap .u8) (.v 2))))) [((.b (.v 0)), (.prop 3))]))
theorem tree_rByte : tree Tryz.prog { absT := [], opq := [], hv := [], keep := [], link := [], ent := [], turn := [], shr := [], vt := [], mkd := [], rlink := [], pty := [], outl := false, stay := [], snk := [] } Tryz.f156 [(.a (.ptr (.v 0) 0))] [((.b (.v 0)), (.prop 1))] 2 = t_rByte := by kernel_rfl
-- (*tideline/octet.Reader).Int: ρ := [.n r, .p rP]
def t_rInt : T :=
(.call 153 [(.a (.ptr (.v 0) 0)), (.a (.int .i64 (.i 8)))] [((.b (.v 0)), (.prop 1))] [.i, .p] (.w (.a (.int .u64 (.v 2)))) [((.b (.v 0)), (.prop 3))]
(.ret (.w (.a (.int .i64 (.o1 (.wrap .i64) (.v 2))))) [((.b (.v 0)), (.prop 3))]))
theorem tree_rInt : tree Tryz.prog { absT := [], opq := [], hv := [], keep := [], link := [], ent := [], turn := [], shr := [], vt := [], mkd := [], rlink := [], pty := [], outl := false, stay := [], snk := [] } Tryz.f86 [(.a (.ptr (.v 0) 0))] [((.b (.v 0)), (.prop 1))] 2 = t_rInt := by kernel_rfl
-- (*tideline/octet.Reader).Bytes: ρ := [.n r, .p rP, .i most]
def t_rBytes : T :=
(.call 154 [(.a (.ptr (.v 0) 0)), (.a (.int .i64 (.v 2)))] [((.b (.v 0)), (.prop 1))] [.i, .p] (.w (.a (.int .i64 (.v 3)))) [((.b (.v 0)), (.prop 4))]
(.call 202 [(.a (.ptr (.v 0) 0)), (.a (.int .i64 (.v 3)))] [((.b (.v 0)), (.prop 4))] [.a, .n, .n, .p, .p] (.w (.a (.sl (.v 5) (.v 6) (.v 7)))) [((.a 5), (.prop 8)), ((.b (.v 0)), (.prop 9))]
(.call 73 [(.a (.sl (.v 5) (.v 6) (.v 7)))] [((.a 5), (.prop 8))] [.a, .n, .n, .p, .p] (.w (.a (.sl (.v 10) (.v 11) (.v 12)))) [((.a 10), (.prop 13)), ((.a 5), (.prop 14))]
(.ret (.w (.a (.sl (.v 10) (.v 11) (.v 12)))) [((.b (.v 0)), (.prop 9)), ((.a 10), (.prop 13))]))))
theorem tree_rBytes : tree Tryz.prog { absT := [], opq := [], hv := [], keep := [], link := [], ent := [], turn := [], shr := [], vt := [], mkd := [], rlink := [], pty := [], outl := false, stay := [], snk := [] } Tryz.f157 [(.a (.ptr (.v 0) 0)), (.a (.int .i64 (.v 2)))] [((.b (.v 0)), (.prop 1))] 3 = t_rBytes := by kernel_rfl
-- (*tideline/octet.Reader).End: ρ := [.n r, .a r_lefta, .n r_leftl, .n r_leftc, .p r_leftP, .c r_wrong]
def t_rEnd : T :=
(.br (.v 5)
 (.ret (.w (.a (.int .i64 (.i 3)))) [((.b (.v 0)), (.cells [(.sl (.v 1) (.v 2) (.v 3)), (.bool (.v 5))] 247)), ((.a 1), (.prop 4))])
 (.br (.o2 .lt (.i 0) (.o1 .ofNat (.v 2)))
  (.ret (.w (.a (.int .i64 (.i 3)))) [((.b (.v 0)), (.cells [(.sl (.v 1) (.v 2) (.v 3)), (.bool (.v 5))] 247)), ((.a 1), (.prop 4))])
  (.ret (.w (.a (.int .i64 (.i 0)))) [((.b (.v 0)), (.cells [(.sl (.v 1) (.v 2) (.v 3)), (.bool (.v 5))] 247)), ((.a 1), (.prop 4))])))
theorem tree_rEnd : tree Tryz.prog { absT := [], opq := [], hv := [], keep := [], link := [], ent := [], turn := [], shr := [], vt := [], mkd := [], rlink := [], pty := [], outl := false, stay := [], snk := [] } Tryz.f89 [(.a (.ptr (.v 0) 0))] [((.b (.v 0)), (.cells [(.sl (.v 1) (.v 2) (.v 3)), (.bool (.v 5))] 247)), ((.a 1), (.prop 4))] 6 = t_rEnd := by kernel_rfl
end Go.Proofs.YtdieogcemmnaaaaGreatDoor.RX

/- Contracts of octet's Reader. No condition. -/
namespace Go.Proofs.YtdieogcemmnaaaaGreatDoor
set_option linter.unusedSimpArgs false
set_option linter.unusedVariables false
open Go.Proofs.YtdieogcemmnaaaaGreatDoor RX

def RRep (b : Nat) (s : List UInt8 × Bool) : HP := HP.ex fun a => HP.ex fun c => HP.and (s.1.length ≤ c ∧ s.1.length ≤ 140737488355328) (HP.sep (HP.one b (.cells #[.slice a s.1.length c, .bool s.2] 247)) (RoB a s.1.length s.1))
theorem rFail_ok (b : Nat) (s : List UInt8 × Bool) : Tri Tryz.prog 203 #[.pointer (some ⟨b, 0, none⟩)] (RRep b s) (fun v => HP.and (v = .tuple #[]) (RRep b ([], true))) := by
  refine Tri.ex fun a => Tri.ex fun c => Tri.pure fun _ => ?_
  refine tri_of_tree (ρ := [.n b, .a a, .n s.1.length, .n c, .p (RoB a s.1.length s.1), .c s.2]) mixed Tryz.func203 tree_rFail ?_
  unfold t_rFail
  simp only [T.den, E.prop, E.den, RX.look, F1.app, F2.app, Uni.int_i, Uni.nat_n, Uni.bool_c, Uni.str_s, Uni.adr_a, Uni.val_v, Uni.hp_p, hden, cden, V.den, W.den, A.den, BR.den, SA.den, FV.den, capV, exs, exP, allP, Cur.app, List.map_cons, List.map_nil, List.cons_append, List.nil_append, List.drop_succ_cons, List.drop_zero, List.length_cons, List.length_nil, Nat.zero_add, Nat.reduceAdd, Int.neg_neg, Bool.not_not, List.append_nil, Nat.add_zero, List.getElem?_cons_zero, List.getElem?_cons_succ, Decidable.not_not]
  exact .of fun R h H => ⟨trivial, none, 0, ⟨by simp, by simp⟩, HP.sep_mono H (fun _ h => h) fun _ _ => RoC.nil _ _ _ _⟩
/-- So many bytes are taken. -/
def takeR (s : List UInt8 × Bool) (n : Nat) : List UInt8 × (List UInt8 × Bool) := if s.2 then ([], s) else if s.1.length < n then ([], ([], true)) else (s.1.take n, (s.1.drop n, false))
theorem und8' : Tryz.prog.underlying 28 = some (.slice 5) := und8
theorem sz8 : szT Tryz.prog 5 = 1 := by kernel_rfl
theorem rTake_ok (b : Nat) (s : List UInt8 × Bool) (n : Nat) : Tri Tryz.prog 202 #[.pointer (some ⟨b, 0, none⟩), .int .i64 n] (RRep b s)
    (fun v => HP.ex fun a => HP.ex fun c => HP.and (v = .slice a (takeR s n).1.length c) (HP.sep (RoB a (takeR s n).1.length (takeR s n).1) (RRep b (takeR s n).2))) := by
  obtain ⟨l, wr⟩ := s
  refine Tri.ex fun a => Tri.ex fun c => Tri.pure fun hc => ?_
  simp only at hc
  refine tri_of_tree (ρ := [.n b, .a a, .n l.length, .n c, .p (RoB a l.length l), .c wr, .i n]) mixed Tryz.func202 tree_rTake ?_
  unfold t_rTake
  simp only [T.den, E.prop, E.den, RX.look, F1.app, F2.app, Uni.int_i, Uni.nat_n, Uni.bool_c, Uni.str_s, Uni.adr_a, Uni.val_v, Uni.hp_p, hden, cden, V.den, W.den, A.den, BR.den, SA.den, FV.den, capV, exs, exP, allP, Cur.app, List.map_cons, List.map_nil, List.cons_append, List.nil_append, List.drop_succ_cons, List.drop_zero, List.length_cons, List.length_nil, Nat.zero_add, Nat.reduceAdd, Int.neg_neg, Bool.not_not, List.append_nil, Nat.add_zero, List.getElem?_cons_zero, List.getElem?_cons_succ, Decidable.not_not]
  refine ⟨fun h1 => .of fun R h H => ?_, fun h1 => ⟨fun h2 => ?_, fun h2 => ?_⟩⟩
  · subst h1
    simp only [takeR, if_true]
    exact ⟨none, 0, rfl, RoC.join (RoC.nil _ _ R h) ⟨a, c, hc, H⟩⟩
  · have e : takeR (l, wr) n = ([], ([], true)) := by simp only [takeR]; rw [if_neg h1, if_pos (by omega)]
    rw [e]
    refine (rFail_ok b (l, wr)).weak (fun R h H => ⟨a, c, hc, H⟩) ?_
    rintro v R h ⟨rfl, a', c', hc', H⟩
    refine ⟨a', _, c', RoB a' 0 [], true, rfl, .of fun R h H => ⟨none, 0, rfl, RoC.join (RoC.nil _ _ R h) ⟨a', c', hc', H⟩⟩, H⟩
  · have hn : n ≤ l.length := by omega
    have hw : wr = false := by simpa using h1
    have e : takeR (l, wr) n = (l.take n, (l.drop n, false)) := by simp only [takeR]; rw [if_neg h1, if_neg (by omega)]
    rw [e]
    obtain ⟨i, hi, _⟩ := info_parts info8
    have s1 := slice_ok und8 hi (RoB a l.length l) a l.length c (some 0) (some n) (some n) (Nat.zero_le _) (Nat.le_refl _) (by simp; omega) (fun _ => rfl)
    have s2 := slice_ok und8 hi (RoB a l.length l) a l.length c (some n) none none hn hc.1 (Nat.le_refl _) (fun h => by cases h)
    refine ⟨_, _, _, s1, _, _, _, s2, ?_⟩
    simp only [Option.getD_some, Option.getD_none, Nat.sub_zero, sz8, Nat.mul_one, Nat.zero_mul]
    refine .of fun R h H => ?_
    have hro := HP.sep_right H
    have r1 := RoC.sub hro 0 n n (Nat.zero_le _) hn (Nat.le_refl _)
    have r2 := RoC.sub hro n l.length c hn (Nat.le_refl _) hc.1
    simp only [Nat.sub_zero, Nat.mul_one, Nat.zero_mul, List.drop_zero, ← List.map_take, ← List.map_drop] at r1 r2
    rw [List.take_of_length_le (by simp)] at r2
    have e1 : (l.take n).length = n := by simp [hn]
    have e2 : (l.drop n).length = l.length - n := by simp
    rw [← e2] at r2
    refine ⟨if n = 0 then a else Option.map (fun x => x.add 0) a, n, by rw [e1], ?_⟩
    rw [e1]
    refine RoC.join r1 ⟨_, c - n, ⟨by simp only [e2]; omega, by simp only [e2]; omega⟩, RoC.joinR r2 ?_⟩
    have := HP.sep_left H
    simp only [e2]
    rw [hw] at this
    exact this

def beV (l : List UInt8) : Nat := l.foldl (fun v b => v * 256 + b.toNat) 0
theorem beV_snoc (l : List UInt8) (b : UInt8) : beV (l ++ [b]) = beV l * 256 + b.toNat := by simp [beV]
theorem beV_lt (l : List UInt8) : beV l < 256 ^ l.length := by
  have key : ∀ (l : List UInt8) (v : Nat), l.foldl (fun v (b : UInt8) => v * 256 + b.toNat) v < (v + 1) * 256 ^ l.length := by
    intro l
    induction l with
    | nil => intro v; simp
    | cons b r ih =>
      intro v
      have hb := b.toNat_lt
      have h1 := ih (v * 256 + b.toNat)
      have h2 : (v * 256 + b.toNat + 1) * 256 ^ r.length ≤ (v + 1) * 256 * 256 ^ r.length := Nat.mul_le_mul_right _ (by omega)
      simp only [List.foldl_cons, List.length_cons, Nat.pow_succ]
      rw [Nat.mul_comm (256 ^ r.length) 256, ← Nat.mul_assoc]
      omega
  simpa [beV] using key l 0
/-- A number of so many bytes. -/
def numR (s : List UInt8 × Bool) (n : Nat) : Nat × (List UInt8 × Bool) := (beV (takeR s n).1, (takeR s n).2)
theorem takeR_len (s : List UInt8 × Bool) (n : Nat) : (takeR s n).1.length ≤ n := by
  unfold takeR; split
  · simp
  · split <;> simp; omega
theorem or_step (v : Nat) (b : UInt8) (hv : v < 2 ^ 56) : bits .or .u64 (IntKind.u64.wrap ((v : Int) * 2 ^ (min (8 : Int).toNat IntKind.u64.bits))) (b.toNat : Int) = ((v * 256 + b.toNat : Nat) : Int) := by
  have hb := b.toNat_lt
  have e1 : IntKind.u64.wrap ((v : Int) * 2 ^ (min (8 : Int).toNat IntKind.u64.bits)) = ((v * 256 : Nat) : Int) := by
    have : (v : Int) * 2 ^ (min (8 : Int).toNat IntKind.u64.bits) = ((v * 256 : Nat) : Int) := by
      simp [IntKind.bits]
    rw [this]
    exact wrap_in ⟨by simp [IntKind.min, IntKind.signed]; omega, by simp [IntKind.max, IntKind.signed, IntKind.bits]; omega⟩
  rw [e1]
  have e2 : (v * 256 ||| b.toNat) = v * 256 + b.toNat := by
    have := Nat.shiftLeft_add_eq_or_of_lt (a := v) (b := b.toNat) (i := 8) (by omega)
    rw [Nat.shiftLeft_eq] at this
    exact this.symm
  show IntKind.u64.wrap ((BitVec.ofInt 64 ((v * 256 : Nat) : Int) ||| BitVec.ofInt 64 (b.toNat : Int)).toNat : Int) = _
  rw [BitVec.ofInt_natCast, BitVec.ofInt_natCast, BitVec.toNat_or, BitVec.toNat_ofNat, BitVec.toNat_ofNat, Nat.mod_eq_of_lt (by omega), Nat.mod_eq_of_lt (by omega), e2]
  exact wrap_in ⟨by simp [IntKind.min, IntKind.signed]; omega, by simp [IntKind.max, IntKind.signed, IntKind.bits]; omega⟩
theorem inI64 (x : Int) (h1 : -9223372036854775808 ≤ x) (h2 : x ≤ 9223372036854775807) : IntKind.i64.min ≤ x ∧ x ≤ IntKind.i64.max := by
  simp [IntKind.min, IntKind.max, IntKind.signed, IntKind.bits]; omega
theorem inU64 (x : Int) (h1 : 0 ≤ x) (h2 : x ≤ 18446744073709551615) : IntKind.u64.min ≤ x ∧ x ≤ IntKind.u64.max := by
  simp [IntKind.min, IntKind.max, IntKind.signed, IntKind.bits]; omega
theorem und8b : Tryz.prog.underlying 5 = some (.int .u8) := by kernel_rfl
theorem agg8 : aggT Tryz.prog 5 = false := by kernel_rfl
theorem rNumber_ok (b : Nat) (s : List UInt8 × Bool) (n : Nat) (hn : n ≤ 8) : Tri Tryz.prog 153 #[.pointer (some ⟨b, 0, none⟩), .int .i64 n] (RRep b s)
    (fun v => HP.and (v = .int .u64 ((numR s n).1 : Nat)) (RRep b (numR s n).2)) := by
  refine tri_of_tree (ρ := [.n b, .p (RRep b s), .i n]) mixed Tryz.func153 tree_rNumber ?_
  unfold t_rNumber
  simp only [T.den, E.prop, E.den, RX.look, F1.app, F2.app, Uni.int_i, Uni.nat_n, Uni.bool_c, Uni.str_s, Uni.adr_a, Uni.val_v, Uni.hp_p, hden, cden, V.den, W.den, A.den, BR.den, SA.den, FV.den, capV, exs, exP, allP, Cur.app, List.map_cons, List.map_nil, List.cons_append, List.nil_append, List.drop_succ_cons, List.drop_zero, List.length_cons, List.length_nil, Nat.zero_add, Nat.reduceAdd, Int.neg_neg, Bool.not_not, List.append_nil, Nat.add_zero, List.getElem?_cons_zero, List.getElem?_cons_succ, Decidable.not_not]
  refine (width_ok n HP.tt).weak (fun _ _ h => h) ?_
  rintro r R h ⟨rfl, H⟩
  refine ⟨min (max n 0) 8, rfl, ?_, H⟩
  rw [show min (max (n : Int) 0) 8 = n by omega]
  refine (rTake_ok b s n).weak (fun _ _ h => h) ?_
  rintro r R h ⟨a, c, rfl, H⟩
  have hlen := takeR_len s n
  have ha : 0 < (takeR s n).1.length → a.isSome = true := fun h => RoC.some (HP.sep_left H) h
  refine ⟨a, _, c, RoB a _ (takeR s n).1, RRep b (takeR s n).2, rfl, ?_, H⟩
  have hpow : 256 ^ (takeR s n).1.length ≤ 256 ^ 8 := Nat.pow_le_pow_right (by decide) (by omega)
  unfold numR
  generalize (takeR s n).1 = l at *
  generalize (takeR s n).2 = s' at *
  refine ⟨fun v i => ∃ k : Nat, i = k ∧ k ≤ l.length ∧ v = ((beV (l.take k) : Nat) : Int), fun v i => l.length - i.toNat, ⟨0, rfl, Nat.zero_le _, rfl⟩, ?_⟩
  rintro v i ⟨k, rfl, hk, rfl⟩
  refine ⟨fun hlt => ⟨by omega, fun _ => ?_⟩, fun hge => ?_⟩
  · have hlt' : k < l.length := by omega
    have hb8 := l[k].toNat_lt
    have hget : l[k]? = some l[k] := List.getElem?_eq_getElem hlt'
    have hk8 : beV (l.take k) < 2 ^ 56 := by
      have h1 := beV_lt (l.take k)
      rw [List.length_take, Nat.min_eq_left hk] at h1
      have h2 : 256 ^ k ≤ 256 ^ 7 := Nat.pow_le_pow_right (by decide) (by omega)
      have h3 : (256 : Nat) ^ 7 = 2 ^ 56 := by decide
      omega
    refine ⟨ha (by omega), fun _ => ⟨(l[k].toNat : Int), ?_, inU64 _ (by omega) (by omega), fun _ => ⟨inI64 _ (by omega) (by omega), fun _ => ⟨⟨k + 1, by omega, hlt', ?_⟩, by dsimp only; omega⟩⟩⟩⟩
    · exact load1_ok und8b agg8 sz8 (RoC.rd 1 a _ (l.map u8v)) (k := (k : Int).toNat * 1) (off := 0) (v := u8v l[k]) (by simp [hget])
    · rw [or_step _ _ hk8, List.take_succ_eq_append_getElem hlt', beV_snoc]
  · have : k = l.length := by omega
    subst this
    rw [List.take_length]
    exact .of fun R h H => ⟨rfl, H⟩
theorem wrap8 (v : Nat) : IntKind.u8.wrap (v : Int) = ((v % 256 : Nat) : Int) := by
  simp only [IntKind.wrap, IntKind.bits, IntKind.signed, Bool.false_and, Bool.false_eq_true, if_false]
  omega
theorem rByte_ok (b : Nat) (s : List UInt8 × Bool) : Tri Tryz.prog 156 #[.pointer (some ⟨b, 0, none⟩)] (RRep b s) (fun v => HP.and (v = .int .u8 (((numR s 1).1 % 256 : Nat) : Int)) (RRep b (numR s 1).2)) := by
  refine tri_of_tree (ρ := [.n b, .p (RRep b s)]) mixed Tryz.func156 tree_rByte ?_
  unfold t_rByte
  simp only [T.den, E.prop, E.den, RX.look, F1.app, F2.app, Uni.int_i, Uni.nat_n, Uni.bool_c, Uni.str_s, Uni.adr_a, Uni.val_v, Uni.hp_p, hden, cden, V.den, W.den, A.den, BR.den, SA.den, FV.den, capV, exs, exP, allP, Cur.app, List.map_cons, List.map_nil, List.cons_append, List.nil_append, List.drop_succ_cons, List.drop_zero, List.length_cons, List.length_nil, Nat.zero_add, Nat.reduceAdd, Int.neg_neg, Bool.not_not, List.append_nil, Nat.add_zero, List.getElem?_cons_zero, List.getElem?_cons_succ, Decidable.not_not]
  refine (rNumber_ok b s 1 (by omega)).weak (fun _ _ h => h) ?_
  rintro v R h ⟨rfl, H⟩
  exact ⟨_, _, rfl, .of fun R h H => ⟨by rw [wrap8], H⟩, H⟩
def intOf64 (v : Nat) : Int := IntKind.i64.wrap (v : Int)
theorem rInt_ok (b : Nat) (s : List UInt8 × Bool) : Tri Tryz.prog 86 #[.pointer (some ⟨b, 0, none⟩)] (RRep b s) (fun v => HP.and (v = .int .i64 (intOf64 (numR s 8).1)) (RRep b (numR s 8).2)) := by
  refine tri_of_tree (ρ := [.n b, .p (RRep b s)]) mixed Tryz.func86 tree_rInt ?_
  unfold t_rInt
  simp only [T.den, E.prop, E.den, RX.look, F1.app, F2.app, Uni.int_i, Uni.nat_n, Uni.bool_c, Uni.str_s, Uni.adr_a, Uni.val_v, Uni.hp_p, hden, cden, V.den, W.den, A.den, BR.den, SA.den, FV.den, capV, exs, exP, allP, Cur.app, List.map_cons, List.map_nil, List.cons_append, List.nil_append, List.drop_succ_cons, List.drop_zero, List.length_cons, List.length_nil, Nat.zero_add, Nat.reduceAdd, Int.neg_neg, Bool.not_not, List.append_nil, Nat.add_zero, List.getElem?_cons_zero, List.getElem?_cons_succ, Decidable.not_not]
  refine (rNumber_ok b s 8 (by omega)).weak (fun _ _ h => h) ?_
  rintro v R h ⟨rfl, H⟩
  exact ⟨_, _, rfl, .of fun R h H => ⟨rfl, H⟩, H⟩
/-- How many there are, at most so many. -/
def toldR (s : List UInt8 × Bool) (most : Int) : Nat × (List UInt8 × Bool) :=
  if (numR s 4).2.2 then (0, (numR s 4).2) else if most < (numR s 4).1 then (0, ([], true)) else ((numR s 4).1, (numR s 4).2)
theorem numR_lt (s : List UInt8 × Bool) (n : Nat) : (numR s n).1 < 256 ^ n :=
  Nat.lt_of_lt_of_le (beV_lt _) (Nat.pow_le_pow_right (by decide) (takeR_len s n))
theorem rTold_ok (b : Nat) (s : List UInt8 × Bool) (most : Int) : Tri Tryz.prog 154 #[.pointer (some ⟨b, 0, none⟩), .int .i64 most] (RRep b s) (fun v => HP.and (v = .int .i64 ((toldR s most).1 : Nat)) (RRep b (toldR s most).2)) := by
  have hlt := numR_lt s 4
  refine Tri.ex fun a => Tri.ex fun c => Tri.pure fun hc => ?_
  refine tri_of_tree (ρ := [.n b, .a a, .n s.1.length, .n c, .p (RoB a s.1.length s.1), .c s.2, .i most]) mixed Tryz.func154 tree_rTold ?_
  unfold t_rTold
  simp only [T.den, E.prop, E.den, RX.look, F1.app, F2.app, Uni.int_i, Uni.nat_n, Uni.bool_c, Uni.str_s, Uni.adr_a, Uni.val_v, Uni.hp_p, hden, cden, V.den, W.den, A.den, BR.den, SA.den, FV.den, capV, exs, exP, allP, Cur.app, List.map_cons, List.map_nil, List.cons_append, List.nil_append, List.drop_succ_cons, List.drop_zero, List.length_cons, List.length_nil, Nat.zero_add, Nat.reduceAdd, Int.neg_neg, Bool.not_not, List.append_nil, Nat.add_zero, List.getElem?_cons_zero, List.getElem?_cons_succ, Decidable.not_not]
  refine (rNumber_ok b s 4 (by omega)).weak (fun R h H => ⟨a, c, hc, H⟩) ?_
  rintro v R h ⟨rfl, a', c', hc', H⟩
  unfold toldR
  generalize (numR s 4).1 = x at *
  generalize (numR s 4).2 = s' at *
  obtain ⟨l', w'⟩ := s'
  refine ⟨_, a', _, c', RoB a' l'.length l', w', rfl, ?_, H⟩
  have e : IntKind.i64.wrap (x : Int) = x := wrap_in (inI64 _ (by omega) (by omega))
  rw [e]
  refine ⟨fun h1 => .of fun R h H => ?_, fun h1 => ⟨fun h2 => ?_, fun h2 => .of fun R h H => ?_⟩⟩
  · simp only [h1, if_true]
    subst h1
    exact ⟨rfl, a', c', hc', H⟩
  · rw [if_neg h1, if_pos h2]
    refine (rFail_ok b (l', w')).weak (fun R h H => ⟨a', c', hc', H⟩) ?_
    rintro v R h ⟨rfl, a2, c2, hc2, H⟩
    exact ⟨a2, _, c2, RoB a2 _ [], true, rfl, .of fun R h H => ⟨rfl, a2, c2, hc2, H⟩, H⟩
  · rw [if_neg h1, if_neg h2]
    exact ⟨rfl, a', c', hc', H⟩
def bytesR (s : List UInt8 × Bool) (most : Int) : List UInt8 × (List UInt8 × Bool) := takeR (toldR s most).2 (toldR s most).1
theorem rBytes_ok (b : Nat) (s : List UInt8 × Bool) (most : Int) : Tri Tryz.prog 157 #[.pointer (some ⟨b, 0, none⟩), .int .i64 most] (RRep b s)
    (fun v => HP.ex fun a => HP.ex fun c => HP.and (v = .slice a (bytesR s most).1.length c) (HP.sep (RRep b (bytesR s most).2) (OwB a (bytesR s most).1.length c (bytesR s most).1))) := by
  refine tri_of_tree (ρ := [.n b, .p (RRep b s), .i most]) mixed Tryz.func157 tree_rBytes ?_
  unfold t_rBytes
  simp only [T.den, E.prop, E.den, RX.look, F1.app, F2.app, Uni.int_i, Uni.nat_n, Uni.bool_c, Uni.str_s, Uni.adr_a, Uni.val_v, Uni.hp_p, hden, cden, V.den, W.den, A.den, BR.den, SA.den, FV.den, capV, exs, exP, allP, Cur.app, List.map_cons, List.map_nil, List.cons_append, List.nil_append, List.drop_succ_cons, List.drop_zero, List.length_cons, List.length_nil, Nat.zero_add, Nat.reduceAdd, Int.neg_neg, Bool.not_not, List.append_nil, Nat.add_zero, List.getElem?_cons_zero, List.getElem?_cons_succ, Decidable.not_not]
  refine (rTold_ok b s most).weak (fun _ _ h => h) ?_
  rintro v R h ⟨rfl, H⟩
  refine ⟨_, RRep b (toldR s most).2, rfl, ?_, H⟩
  refine (rTake_ok b _ _).weak (fun _ _ h => h) ?_
  rintro v R h ⟨a, c, rfl, H⟩
  have hlen : (bytesR s most).1.length ≤ 140737488355328 := by
    have h1 := takeR_len (toldR s most).2 (toldR s most).1
    have h2 : (toldR s most).1 < 256 ^ 4 := by
      have := numR_lt s 4
      unfold toldR; split
      · simp
      · split
        · simp
        · exact this
    have h3 : (256 : Nat) ^ 4 = 4294967296 := by decide
    unfold bytesR
    omega
  refine ⟨a, _, c, RoB a _ (bytesR s most).1, RRep b (bytesR s most).2, rfl, ?_, H⟩
  refine (clone8_ok _ a _ c (bytesR s most).1 (RdL.ro _ _ _ _) rfl hlen).weak (fun _ _ h => h) ?_
  rintro v R h ⟨a', c', rfl, H⟩
  exact ⟨a', _, c', OwB a' _ c' _, RoB a _ (bytesR s most).1, rfl, .of fun R h H => ⟨a', c', rfl, H⟩, H⟩
theorem rEnd_ok (b : Nat) (s : List UInt8 × Bool) : Tri Tryz.prog 89 #[.pointer (some ⟨b, 0, none⟩)] (RRep b s) (fun v => HP.and (v = .int .i64 (if s.2 = true ∨ s.1 ≠ [] then 3 else 0)) (RRep b s)) := by
  obtain ⟨l, w⟩ := s
  refine Tri.ex fun a => Tri.ex fun c => Tri.pure fun hc => ?_
  refine tri_of_tree (ρ := [.n b, .a a, .n l.length, .n c, .p (RoB a l.length l), .c w]) mixed Tryz.func89 tree_rEnd ?_
  unfold t_rEnd
  simp only [T.den, E.prop, E.den, RX.look, F1.app, F2.app, Uni.int_i, Uni.nat_n, Uni.bool_c, Uni.str_s, Uni.adr_a, Uni.val_v, Uni.hp_p, hden, cden, V.den, W.den, A.den, BR.den, SA.den, FV.den, capV, exs, exP, allP, Cur.app, List.map_cons, List.map_nil, List.cons_append, List.nil_append, List.drop_succ_cons, List.drop_zero, List.length_cons, List.length_nil, Nat.zero_add, Nat.reduceAdd, Int.neg_neg, Bool.not_not, List.append_nil, Nat.add_zero, List.getElem?_cons_zero, List.getElem?_cons_succ, Decidable.not_not]
  refine ⟨fun h1 => .of fun R h H => ⟨?_, a, c, hc, H⟩, fun h1 => ⟨fun h2 => .of fun R h H => ⟨?_, a, c, hc, H⟩, fun h2 => .of fun R h H => ⟨?_, a, c, hc, H⟩⟩⟩
  · rw [if_pos (.inl h1)]
  · rw [if_pos (.inr (fun e => by subst e; simp at h2))]
  · rw [if_neg (fun e => e.elim h1 fun e => h2 (by have := List.length_pos_iff.2 e; omega))]
theorem rRead_ok (a : Option Addr) (n c : Nat) (l : List UInt8) (S : HP) (hr : RdL S a n (l.map u8v)) (hl : l.length = n) (hb : n ≤ 140737488355328) :
    Tri Tryz.prog 85 #[.slice a n c] S (fun v => HP.ex fun b => HP.and (v = .pointer (some ⟨b, 0, none⟩)) (HP.sep S (RRep b (l, false)))) := by
  refine tri_of_tree (ρ := [.a a, .n n, .n c, .p S]) mixed Tryz.func85 tree_rRead ?_
  unfold t_rRead
  simp only [T.den, E.prop, E.den, RX.look, F1.app, F2.app, Uni.int_i, Uni.nat_n, Uni.bool_c, Uni.str_s, Uni.adr_a, Uni.val_v, Uni.hp_p, hden, cden, V.den, W.den, A.den, BR.den, SA.den, FV.den, capV, exs, exP, allP, Cur.app, List.map_cons, List.map_nil, List.cons_append, List.nil_append, List.drop_succ_cons, List.drop_zero, List.length_cons, List.length_nil, Nat.zero_add, Nat.reduceAdd, Int.neg_neg, Bool.not_not, List.append_nil, Nat.add_zero, List.getElem?_cons_zero, List.getElem?_cons_succ, Decidable.not_not]
  refine (clone8_ok S a n c l hr hl hb).weak (fun _ _ h => h) ?_
  rintro v R h ⟨a', c', rfl, H⟩
  refine ⟨a', _, c', OwB a' n c' l, S, rfl, fun x => ?_, H⟩
  subst hl
  rintro R h d H
  have hle := OwC.le (HP.sep_right (HP.sep_right H))
  refine ((HP.ent.sep2 (HP.ent.refl S) (HP.ent.sep2 (HP.ent.refl _) (OwC.share 5 1 a' l.length c' (l.map u8v)))).trans ?_) R h d H
  refine .of fun R h H => ⟨x, rfl, HP.sep_mono H (fun _ h => h) fun y hy => ?_⟩
  exact ⟨a', c', ⟨hle, hb⟩, hy⟩
end Go.Proofs.YtdieogcemmnaaaaGreatDoor

/- Law 4: TreeBytes answers true. No condition. -/
namespace Go.Proofs.YtdieogcemmnaaaaGreatDoor
set_option linter.unusedSimpArgs false
set_option linter.unusedVariables false
open Go.Proofs.YtdieogcemmnaaaaGreatDoor RX
set_option maxRecDepth 100000

theorem tf_wf (l : List UInt8) (h : l.length ≤ 512) : TWf 1 (Tf l) := by
  refine TWf.mk' (by simp [Tf]) ⟨_, rfl, rfl⟩ (fun k n hn => ?_) (fun k n hn => ?_) (fun k n hn h0 => ?_)
  · obtain ⟨h1, h2⟩ := nodeAt_mem hn
    simp only [Tf, List.mem_cons, List.not_mem_nil, or_false] at h1
    rcases h1 with rfl | rfl
    · exact ⟨.inl ⟨rfl, rfl, rfl⟩, by simp, by simp, by simp, by simp, by simp, by intro e he; simp at he; subst he; exact ⟨by decide +kernel, by simp⟩, by simp⟩
    · exact ⟨.inr ⟨rfl, rfl⟩, h, by simp, by simp, by simp, by simp, by simp, by simp⟩
  · obtain ⟨h1, h2⟩ := nodeAt_mem hn
    simp only [Tf, List.mem_cons, List.not_mem_nil, or_false] at h1
    rcases h1 with rfl | rfl
    · intro e he; simp at he; subst he; rfl
    · intro e he; simp at he
  · obtain ⟨h1, h2⟩ := nodeAt_mem hn
    simp only [Tf, List.mem_cons, List.not_mem_nil, or_false] at h1
    rcases h1 with rfl | rfl
    · exact absurd h2.symm h0
    · simp only at h2; subst h2; rfl
/-- A call of a tree with one file, that gives another such. -/
theorem doF {b : Nat} {t : TS} {l : List UInt8} (ht : t.pub = Tf l) (h : l.length ≤ 512) (kind off n : Int) {l' : List UInt8} {r : AnsM} (hd : doS (Tf l) kind [47, 102] [] off n [] = (Tf l', r)) {K : Int → Int → Int → Int → Option Addr → Nat → Nat → HP → Option Addr → Nat → Nat → HP → HP → Prop}
    (hK : ∀ t' da dc na nc, t'.pub = Tf l' → K r.err r.kind r.size r.links da r.data.length dc (OwB da r.data.length dc r.data) na r.names.length nc (OwS na r.names.length nc r.names) (TRep b t')) :
    Tri Tryz.prog 18 #[.pointer (some ⟨b, 0, none⟩), .agg #[.int .i64 kind, .string ⟨#[47, 102]⟩, .string ⟨#[]⟩, .int .i64 off, .int .i64 n, .slice none 0 0]] (TRep b t) (fun v => HP.ex fun e : Int => HP.ex fun k : Int => HP.ex fun s : Int => HP.ex fun l : Int => HP.ex fun da : Option Addr => HP.ex fun dl : Nat => HP.ex fun dc : Nat => HP.ex fun dP : HP => HP.ex fun na : Option Addr => HP.ex fun nl : Nat => HP.ex fun nc : Nat => HP.ex fun nP : HP => HP.ex fun tP : HP =>
      HP.and (v = .agg #[.int .i64 e, .int .i64 k, .int .i64 s, .int .i64 l, .slice da dl dc, .slice na nl nc]) (HP.and (K e k s l da dl dc dP na nl nc nP tP) (HP.sep dP (HP.sep nP tP)))) := by
  refine doL0 (B := 1) (by decide) (by rw [ht]; exact tf_wf l h) kind [47, 102] [] off n fun t' da dc na nc h' => ?_
  rw [ht, hd] at h' ⊢
  exact hK t' da dc na nc h'
/-- The same, with what is known of the bytes. -/
theorem doF1 {b : Nat} {t : TS} {l : List UInt8} (ht : t.pub = Tf l) (h : l.length ≤ 512) (kind off n : Int) {l' : List UInt8} {r : AnsM} (hd : doS (Tf l) kind [47, 102] [] off n [] = (Tf l', r)) {K : Int → Int → Int → Int → Option Addr → Nat → Nat → HP → Option Addr → Nat → Nat → HP → HP → Prop}
    (hK : ∀ t' da dc na nc, t'.pub = Tf l' → (r.data.length ≠ 0 → da.isSome = true) → K r.err r.kind r.size r.links da r.data.length dc (OwB da r.data.length dc r.data) na r.names.length nc (OwS na r.names.length nc r.names) (TRep b t')) :
    Tri Tryz.prog 18 #[.pointer (some ⟨b, 0, none⟩), .agg #[.int .i64 kind, .string ⟨#[47, 102]⟩, .string ⟨#[]⟩, .int .i64 off, .int .i64 n, .slice none 0 0]] (TRep b t) (fun v => HP.ex fun e : Int => HP.ex fun k : Int => HP.ex fun s : Int => HP.ex fun l : Int => HP.ex fun da : Option Addr => HP.ex fun dl : Nat => HP.ex fun dc : Nat => HP.ex fun dP : HP => HP.ex fun na : Option Addr => HP.ex fun nl : Nat => HP.ex fun nc : Nat => HP.ex fun nP : HP => HP.ex fun tP : HP =>
      HP.and (v = .agg #[.int .i64 e, .int .i64 k, .int .i64 s, .int .i64 l, .slice da dl dc, .slice na nl nc]) (HP.and (K e k s l da dl dc dP na nl nc nP tP) (HP.sep dP (HP.sep nP tP)))) := by
  have hd' : CallD ⟨kind, [47, 102], [], off, n, none, 0, 0⟩ HP.tt [] := ⟨⟨fun w R h F s a j u hj => by simp at hj, fun _ _ _ _ => rfl⟩, rfl, fun h => absurd rfl h⟩
  have e : doS t.pub kind [47, 102] [] off n [] = (Tf l', r) := by rw [ht]; exact hd
  refine (tDo_ok (B := 1) (by decide) (by rw [ht]; exact tf_wf l h) ⟨kind, [47, 102], [], off, n, none, 0, 0⟩ HP.tt [] hd').weak (fun _ _ H => HP.sep_tt H) ?_
  rintro v R h ⟨t', ht', da, dc, na, nc, rfl, H⟩
  simp only [e] at ht' H ⊢
  exact ⟨r.err, r.kind, r.size, r.links, da, r.data.length, dc, _, na, r.names.length, nc, _, _, rfl, hK t' da dc na nc ht' (fun hn => OwC.some (HP.sep_left H) (by omega)), HP.sep_mono H (fun _ h => h) fun z hz => HP.sep_mono hz (fun _ h => h) fun u hu => HP.sep_left hu⟩
theorem convW {i : Nat} {S : HP} {a : Option Addr} {n c : Nat} {l : List UInt8} (hr : RdL S a n (l.map u8v)) (hl : l.length = n) : ORead Tryz.prog (semW (.convert 28 9 (.tmp i)) 9 [(i, .slice a n c)]) S (sE l) := by
  have := conv_ok (ρ := [.v (.slice a n c)]) (i := i) (x := .w (.a (.val 0))) (S := S) (a := a) (n := n) (c := c) (l := l) rfl hr hl
  rw [semW_eq] at this
  exact this
theorem convP {i : Nat} {P : HP} {a : Option Addr} {c : Nat} {l : List UInt8} (hP : HP.ent P (OwB a l.length c l)) : ORead Tryz.prog (semW (.convert 28 9 (.tmp i)) 9 [(i, .slice a l.length c)]) P (sE l) :=
  ORead.ent hP (convW (RdL.ow _ _ _ _ _ _) rfl)
theorem and511 (x : Int) : bits .and .i64 x 511 = x % 512 := bits_mask_i64 x 9 (by decide)
set_option maxHeartbeats 4000000 in
theorem treeBytes_ok (a : Option Addr) (n c : Nat) (L : List CallE) (m : Int) (hm : okI m) : Tri Tryz.prog 3 #[.slice a n c, .int .i64 m] (Ls kCall a n L) (fun v => HP.pure (v = .bool true)) := by
  refine Tri.fact (φ := L.length = n ∧ (n ≠ 0 → a.isSome = true) ∧ dataAt L) (fun R h H => ⟨H.1, fun hn => Ls.some H hn, dataAt_of H⟩) fun ⟨hl, ha, hL⟩ => ?_
  refine tri_of_tree (ρ := [.a a, .n n, .n c, .p (Ls kCall a n L), .i m]) mixed Tryz.func3 tree_treeBytes ?_
  unfold t_treeBytes
  simp only [T.den, E.prop, E.den, RX.look, F1.app, F2.app, Uni.int_i, Uni.nat_n, Uni.bool_c, Uni.str_s, Uni.adr_a, Uni.val_v, Uni.hp_p, hden, cden, V.den, W.den, A.den, BR.den, SA.den, FV.den, capV, exs, exP, allP, Cur.app, List.map_cons, List.map_nil, List.cons_append, List.nil_append, List.drop_succ_cons, List.drop_zero, List.length_cons, List.length_nil, Nat.zero_add, Nat.reduceAdd, Int.neg_neg, Bool.not_not, List.append_nil, Nat.add_zero, List.getElem?_cons_zero, List.getElem?_cons_succ, Decidable.not_not, semW_eq, semW_load, semW_store, semW_storeC, semW_append, semW_lookup, semW_lookupC, semW_update, semW_updateC, semW_updateK, semW_delete, semW_range, semW_next, semW_entry, semW_nil, ne_eq, Nat.reduceEqDiff, not_false_eq_true]
  refine speaks04_ok.weak (fun _ _ _ => trivial) ?_
  rintro v R h rfl
  refine ⟨true, rfl, ⟨fun h => by simp at h, fun _ => ?_⟩, trivial⟩
  refine (great04_ok a n c L).weak (fun _ _ h => h) ?_
  rintro v R h ⟨rfl, H⟩
  refine ⟨greatB L, rfl, ⟨fun _ => .of fun R h H => trivial, fun hg => ?_⟩, H⟩
  clear H
  have hL120 := great_len hg
  refine tNew_ok.weak (fun _ _ h => h) ?_
  rintro v R h ⟨b, t0, ⟨rfl, h0⟩, H⟩
  refine ⟨b, TRep b t0, rfl, ?_, H⟩
  clear H
  have made : doS t0.pub 3 [47, 102] [] 0 0 [] = (Tf [], {}) := by rw [h0]; exact made_f
  refine doL0 (B := 1) (by decide) (by rw [h0]; exact newT_wf) 3 [47, 102] [] 0 0 fun t1 da dc na nc h1 => ?_
  rw [made] at h1
  intro g1
  refine ⟨fun al n' c' i P Q => ∃ k : Nat, i = k ∧ k ≤ n ∧ ∃ (l : List UInt8) (t : TS), n' = l.length ∧ l.length ≤ 512 ∧ t.pub = Tf l ∧ (l.length ≠ 0 → al.isSome = true) ∧ HP.ent P (OwB al l.length c' l) ∧ Q = TRep b t, fun _ _ _ i _ _ => n - i.toNat,
    ⟨0, rfl, Nat.zero_le _, [], t1, rfl, by simp, h1, fun _ => rfl, .of fun R h H => ⟨rfl, .inr ⟨g1, #[], rfl, H, Nat.le_refl _, by unfold maxLen; omega, rfl, rfl⟩⟩, rfl⟩, ?_⟩
  rintro al _ c' _ P _ ⟨k, rfl, hk, l, t, rfl, hll, ht, hsm0, hP, rfl⟩
  refine ⟨fun hlt => ⟨by omega, fun _ => ⟨ha (by omega), fun _ => ?_⟩⟩, fun hge g2 => ?_⟩
  · obtain ⟨x, hx⟩ : ∃ x, L[k]? = some x := ⟨_, List.getElem?_eq_getElem (by omega)⟩
    have hxm := List.mem_of_getElem? hx
    refine ⟨x.kind, x.path, x.other, x.off, x.n, x.da, x.data.length, x.dc, loadCall hx, fun q => ?_⟩
    have hw := write_f l x.other x.off x.n x.data
    have hd0 : CallD x.m (Ls kCall a n L) x.data := callD_of hL hxm
    refine doL (B := 1) (by decide) (by rw [ht]; exact tf_wf l hll) { x.m with kind := 7, path := [47, 102] } (Ls kCall a n L) x.data ⟨hd0.rd, hd0.len, hd0.some'⟩ fun t2 da dc na nc h2 => ?_
    have he : doC t.pub { x.m with kind := 7, path := [47, 102] } x.data = doS (Tf l) 7 [47, 102] x.other x.off x.n x.data := by rw [ht]; rfl
    rw [he] at h2 ⊢
    have go : ∀ (al2 : Option Addr) (c2 : Nat) (P2 : HP) (l2 : List UInt8), l2.length ≤ 512 → t2.pub = Tf l2 → (l2.length ≠ 0 → al2.isSome = true) → HP.ent P2 (OwB al2 l2.length c2 l2) → (IntKind.i64.min ≤ (k : Int) + 1 ∧ (k : Int) + 1 ≤ IntKind.i64.max) ∧ ((IntKind.i64.min ≤ (k : Int) + 1 ∧ (k : Int) + 1 ≤ IntKind.i64.max) →
        (∃ k' : Nat, (k : Int) + 1 = k' ∧ k' ≤ n ∧ ∃ (l' : List UInt8) (t : TS), l2.length = l'.length ∧ l'.length ≤ 512 ∧ t.pub = Tf l' ∧ (l'.length ≠ 0 → al2.isSome = true) ∧ HP.ent P2 (OwB al2 l'.length c2 l') ∧ TRep b t2 = TRep b t) ∧ n - ((k : Int) + 1).toNat < n - (k : Int).toNat) := fun al2 c2 P2 l2 hl2 ht2 hs2 hP2 =>
      ⟨inI64' _ (by omega) (by omega), fun _ => ⟨⟨k + 1, by omega, by omega, l2, t2, rfl, hl2, ht2, hs2, hP2, rfl⟩, by omega⟩⟩
    rw [hw] at h2 ⊢
    by_cases e1 : x.off < 0 ∨ 256 < x.data.length
    · rw [if_pos e1] at h2 ⊢
      exact ⟨fun _ => go al c' P l hll h2 hsm0 hP, fun h => absurd h (by simp)⟩
    rw [if_neg e1] at h2 ⊢
    by_cases e2 : 512 < x.off + x.data.length
    · rw [if_pos e2] at h2 ⊢
      exact ⟨fun _ => go al c' P l hll h2 hsm0 hP, fun h => absurd h (by simp)⟩
    rw [if_neg e2] at h2 ⊢
    have e3 : (if x.data = [] then (Tf l, ({} : AnsM)) else (Tf (wrote x.off.toNat x.data l), {})) = (Tf (wroteK x.off.toNat x.data l), {}) := by unfold wroteK; split <;> rfl
    rw [e3] at h2 ⊢
    clear e3 hw he
    obtain ⟨off, ho⟩ := Int.eq_ofNat_of_zero_le (show 0 ≤ x.off by omega)
    rw [ho] at h2 e2 ⊢
    simp only [Int.toNat_natCast] at h2
    refine ⟨fun h => absurd rfl h, fun _ => ?_⟩
    have hda : x.data.length ≠ 0 → x.da.isSome = true := hd0.some'
    have hdn : x.data.length ≤ 256 := by omega
    have wl : ∀ j, j ≤ x.data.length → (wroteK off (x.data.take j) l).length ≤ 512 ∧ (j ≠ 0 → off + j ≤ (wroteK off (x.data.take j) l).length) := fun j hj => by
      rw [wroteK_len, List.length_take, Nat.min_eq_left hj]
      split
      · rename_i h
        have : (x.data.take j).length = j := by rw [List.length_take]; omega
        rw [h] at this
        simp at this
        omega
      · omega
    refine ⟨fun al n' c' i P => ∃ j : Nat, i = j ∧ j ≤ x.data.length ∧ n' = (wroteK off (x.data.take j) l).length ∧ (n' ≠ 0 → al.isSome = true) ∧ HP.ent P (OwB al n' c' (wroteK off (x.data.take j) l)), fun _ _ _ i _ => x.data.length - i.toNat, ⟨0, rfl, Nat.zero_le _, by rw [wroteK_zero], hsm0, by rw [wroteK_zero]; exact hP⟩, ?_⟩
    rintro al1 _ c1 _ P1 ⟨j, rfl, hj, rfl, hs1, hP1⟩
    refine ⟨fun hlt => ⟨by omega, fun _ => ⟨hda (by omega), fun _ => ?_⟩⟩, fun hge => ?_⟩
    · obtain ⟨y, hy⟩ : ∃ y, x.data[j]? = some y := ⟨_, List.getElem?_eq_getElem (by omega)⟩
      have hw1 := wl j hj
      refine ⟨y.toNat, ?_, ?_⟩
      · exact load1_ok und8b agg8 sz8 hd0.rd.rd (k := (j : Int).toNat * 1) (off := 0) (by simp [hy, u8v])
      refine ⟨fun al n' c' P => ∃ e : Nat, e ≤ off + j + 1 ∧ n' = (padTo (wroteK off (x.data.take j) l) e).length ∧ (n' ≠ 0 → al.isSome = true) ∧ HP.ent P (OwB al n' c' (padTo (wroteK off (x.data.take j) l) e)), fun _ n' _ _ => off + j + 1 - n', ⟨0, by omega, by simp [padTo], hs1, by simpa [padTo] using hP1⟩, ?_⟩
      rintro al2 _ c2 P2 ⟨e, he, rfl, hs3, hP2⟩
      refine ⟨inI64' _ (by omega) (by omega), fun _ => ⟨fun hsm q2 => ?_, fun hbig => ⟨by omega, fun _ => ⟨by omega, fun _ => ?_⟩⟩⟩⟩
      · have ap := append8 al2 (padTo (wroteK off (x.data.take j) l) e).length c2 (padTo (wroteK off (x.data.take j) l) e) (HP.one q2 (.cells #[.int .u8 0] 5 (0, 0))) (some ⟨q2, 0, none⟩) 1 1 [0] ⟨one_rd q2 #[.int .u8 0] 5, fun _ _ _ e => by cases e⟩ rfl (fun _ => rfl) (by rw [padTo_len]; omega)
        refine OTri.pre3 (ap.weak (fun _ _ h => h) ?_) (HP.ent.sep hP2 _)
        rintro v R h ⟨a', c', rfl, H⟩
        have hpl := padTo_len (wroteK off (x.data.take j) l) e
        have hpe : padTo (wroteK off (x.data.take j) l) e ++ [0] = padTo (wroteK off (x.data.take j) l) ((padTo (wroteK off (x.data.take j) l) e).length + 1) := by
          rw [← padTo_one _ (by omega), ← padTo_le _ (by omega) (Nat.le_refl _)]
        have hpl2 := padTo_len (wroteK off (x.data.take j) l) ((padTo (wroteK off (x.data.take j) l) e).length + 1)
        refine ⟨a', (padTo (wroteK off (x.data.take j) l) e).length + 1, c', _, rfl, ⟨⟨(padTo (wroteK off (x.data.take j) l) e).length + 1, by omega, by omega, fun _ => OwC.some (HP.sep_left H) (by omega), ?_⟩, by dsimp only; omega⟩, H⟩
        rw [hpe]
        exact .of fun _ _ h => h
      · have hpe : padTo (wroteK off (x.data.take j) l) e = padTo (wroteK off (x.data.take j) l) (off + j + 1) := padTo_le _ he (by omega)
        have hlast : (padTo (wroteK off (x.data.take j) l) (off + j + 1)).set (off + j) y = wroteK off (x.data.take (j + 1)) l := wroteK_step off x.data l j y hy
        have hlen2 : (wroteK off (x.data.take (j + 1)) l).length = (padTo (wroteK off (x.data.take j) l) e).length := by rw [← hlast, hpe, List.length_set]
        refine ⟨hs3 (by omega), fun _ => ?_⟩
        have e4 : ((off : Int) + (j : Int)).toNat = off + j := by omega
        rw [e4]
        refine storeByte y (by omega) hP2 fun R h H => ?_
        rw [hpe, hlast] at H
        refine ⟨_, rfl, ⟨inI64' _ (by omega) (by omega), fun _ => ⟨⟨j + 1, by omega, by omega, hlen2.symm, hs3, ?_⟩, by dsimp only; omega⟩⟩, H⟩
        rw [← hpe]
        exact .of fun _ _ h => h
    · obtain rfl : j = x.data.length := by omega
      rw [List.take_length] at hP1 hs1 ⊢
      have := wl x.data.length (Nat.le_refl _)
      rw [List.take_length] at this
      exact go al1 c1 P1 (wroteK off x.data l) this.1 h2 hs1 hP1
  · obtain rfl : k = n := by omega
    refine ⟨fun a2 n' c2 i P Q => ∃ (j : Nat) (t : TS), i = ((256 * j : Nat) : Int) ∧ j ≤ 4 ∧ n' = (l.take (256 * j)).length ∧ t.pub = Tf l ∧ HP.ent P (OwB a2 n' c2 (l.take (256 * j))) ∧ Q = TRep b t, fun _ _ _ i _ _ => 1024 - i.toNat,
      ⟨0, t, rfl, by omega, by simp, ht, .of fun R h H => (show (OwB (some ⟨g2, 0, none⟩) 0 0 (l.take (256 * 0))).p R h from ⟨by simp, .inr ⟨g2, #[], rfl, H, Nat.le_refl _, by unfold maxLen; omega, rfl, by simp⟩⟩), rfl⟩, ?_⟩
    rintro a2 _ c2 _ P2 _ ⟨j, t3, rfl, hj, rfl, ht3, hP2, rfl⟩
    refine ⟨fun hlt => ?_, fun hge2 => ?_⟩
    · refine doF ht3 hll 8 ((256 * j : Nat) : Int) ((256 : Nat) : Int) (read_f l (256 * j) 256 (by omega)) fun t4 da dc na nc h4 => ?_
      dsimp only
      generalize hq : (l.drop (256 * j)).take 256 = q
      refine OTri.fact (φ := q.length ≠ 0 → da.isSome = true) (fun R h H hn => OwC.some (HP.sep_right H) (by omega)) fun hds => ?_
      have hql : q.length ≤ 256 := by rw [← hq, List.length_take]; omega
      have htl : (l.take (256 * j)).length ≤ 1024 := by rw [List.length_take]; omega
      refine OTri.pre3 ((append8 a2 _ c2 (l.take (256 * j)) (OwB da q.length dc q) da q.length dc q (RdL.ow _ _ _ _ _ _) rfl hds (by omega)).weak (fun _ _ h => h) ?_) (HP.ent.sep hP2 _)
      rintro v R h ⟨a', c', rfl, H⟩
      have hj4 : l.take (256 * j) ++ q = l.take (256 * (j + 1)) := by rw [← hq]; exact four l j
      rw [← List.length_append, hj4] at H
      rw [← List.length_append, hj4]
      refine ⟨a', _, c', _, rfl, ⟨inI64' _ (by omega) (by omega), fun _ => ⟨⟨j + 1, t4, by omega, by omega, rfl, h4, .of fun _ _ h => h, rfl⟩, (by omega : 1024 - (((256 * j : Nat) : Int) + 256).toNat < 1024 - ((256 * j : Nat) : Int).toNat)⟩⟩, H⟩
    · obtain rfl : j = 4 := by omega
      have hall : l.take (256 * 4) = l := List.take_of_length_le (by omega)
      rw [hall] at hP2 ⊢
      refine ⟨l, convP hP2, l, convP hP, fun h => absurd rfl h, fun _ => ?_⟩
      refine doF ht3 hll 10 0 0 (stat_f l) fun t4 da dc na nc h4 => ?_
      refine ⟨fun h => absurd rfl h, fun _ => ?_⟩
      rw [and511]
      obtain ⟨q, hq⟩ := Int.eq_ofNat_of_zero_le (show 0 ≤ m % 512 by omega)
      have hq5 : q < 512 := by omega
      rw [hq]
      refine doF h4 hll 9 0 q (cut_f l q (by omega)) fun t5 da dc na nc h5 => ?_
      refine doF h5 (by rw [sizeD_len]; omega) 9 0 ((512 : Nat) : Int) (cut_f (sizeD l q) 512 (by omega)) fun t6 da dc na nc h6 => ?_
      have hc6 : (sizeD (sizeD l q) 512).length ≤ 512 := by rw [sizeD_len]; omega
      refine ⟨fun _ i P => ∃ (j : Nat) (t : TS), i = j ∧ j ≤ 512 ∧ t.pub = Tf (sizeD (sizeD l q) 512) ∧ P = TRep b t, fun _ i _ => 512 - i.toNat, ⟨0, t6, rfl, by omega, h6, rfl⟩, ?_⟩
      rintro _ _ _ ⟨j, t7, rfl, hj7, ht7, rfl⟩
      have ld : ∀ (w : UInt8) (da : Option Addr) (dc : Nat), ORead Tryz.prog (loadS 5 (.pointer (da.map fun y => (y.add (Int.toNat 0 * 1)).add 0))) (OwB da [w].length dc [w]) (.int .u8 w.toNat) := fun w da dc =>
        load1_ok und8b agg8 sz8 (RdL.ow _ _ _ _ _ _).rd (k := Int.toNat 0 * 1) (off := 0) (by simp [u8v])
      have rd : j < 512 → doS (Tf (sizeD (sizeD l q) 512)) 8 [47, 102] [] (j : Int) ((1 : Nat) : Int) [] = (Tf (sizeD (sizeD l q) 512), { data := [if j < q ∧ j < l.length then l.getD j 0 else 0] }) := fun hlt => by
        rw [read_f _ j 1 (by omega)]
        have : ((sizeD (sizeD l q) 512).drop j).take 1 = [if j < q ∧ j < l.length then l.getD j 0 else 0] := by
          refine List.ext_getElem? fun i => ?_
          rw [List.getElem?_take, List.getElem?_drop]
          cases i with
          | zero => rw [if_pos (by omega)]; simp only [Nat.add_zero, List.getElem?_cons_zero]; rw [cuts_get l q j hlt]
          | succ i => rw [if_neg (by omega)]; simp
        rw [this]
      refine ⟨fun hlt => ⟨fun h1 => ⟨fun h2 => ⟨by omega, fun _ => ⟨hsm0 (by omega), fun _ => ⟨(l.getD j 0).toNat, ?_, ?_⟩⟩⟩, fun h2 => ?_⟩, fun h1 => ?_⟩, fun _ => .of fun _ _ _ => trivial⟩
      · have hj : l[j]? = some (l.getD j 0) := by rw [List.getD_eq_getElem?_getD, List.getElem?_eq_getElem (by omega)]; rfl
        exact ORead.ent hP (load1_ok und8b agg8 sz8 (RdL.ow _ _ _ _ _ _).rd (k := (j : Int).toNat * 1) (off := 0) (by rw [Int.toNat_natCast, Nat.mul_one, Nat.add_zero, List.getElem?_map, hj]; rfl))
      · refine doF1 ht7 hc6 8 j ((1 : Nat) : Int) (rd (by omega)) fun t8 da dc na nc h8 hs8 => ?_
        rw [if_pos (by omega)] at hs8 ⊢
        exact ⟨fun h => absurd (by simp) h, fun _ => ⟨by simp, fun _ => ⟨hs8 (by simp), fun _ => ⟨_, ld _ _ _, fun h => absurd rfl h, fun _ => ⟨inI64' _ (by omega) (by omega), fun _ => ⟨⟨j + 1, t8, by omega, by omega, h8, rfl⟩, by dsimp only; omega⟩⟩⟩⟩⟩⟩
      · refine doF1 ht7 hc6 8 j ((1 : Nat) : Int) (rd (by omega)) fun t8 da dc na nc h8 hs8 => ?_
        rw [if_neg (by omega)] at hs8 ⊢
        exact ⟨fun h => absurd (by simp) h, fun _ => ⟨by simp, fun _ => ⟨hs8 (by simp), fun _ => ⟨_, ld _ _ _, fun h => absurd (by simp) h, fun _ => ⟨inI64' _ (by omega) (by omega), fun _ => ⟨⟨j + 1, t8, by omega, by omega, h8, rfl⟩, by dsimp only; omega⟩⟩⟩⟩⟩⟩
      · refine doF1 ht7 hc6 8 j ((1 : Nat) : Int) (rd (by omega)) fun t8 da dc na nc h8 hs8 => ?_
        rw [if_neg (by omega)] at hs8 ⊢
        exact ⟨fun h => absurd (by simp) h, fun _ => ⟨by simp, fun _ => ⟨hs8 (by simp), fun _ => ⟨_, ld _ _ _, fun h => absurd (by simp) h, fun _ => ⟨inI64' _ (by omega) (by omega), fun _ => ⟨⟨j + 1, t8, by omega, by omega, h8, rfl⟩, by dsimp only; omega⟩⟩⟩⟩⟩⟩
end Go.Proofs.YtdieogcemmnaaaaGreatDoor

/- What comes into TreeBytes, and its walk. No condition. -/
namespace Go.Proofs.YtdieogcemmnaaaaGreatDoor
open Go.RowKit Go.ChangeShapes Go.WideShapes Go.Deep RX

set_option maxRecDepth 100000 in
theorem treeBytes_walk {H : Type} (enc : TypeId × Value → H) (base : Nat) (v0 v1 : Value) (w : World)
    (k0 : Value.okWide Tryz.prog w .any base 22 v0) (h0 : ∃ d p, DataW.Trod enc Tryz.prog w 0 (fun _ => true) true 22 v0 d p ∧ Small Tryz.prog 22 d)
    (k1 : Value.okWide Tryz.prog w .any base 3 v1) (h1 : ∃ d p, DataW.Trod enc Tryz.prog w 0 (fun _ => true) true 3 v1 d p ∧ Small Tryz.prog 3 d) :
    Calls Tryz.prog 3 #[v0, v1] w fun e w' => e = .returned (.bool true) ∧ Below w.heap.size w w' := by
  obtain ⟨a0, l0, c0, rfl, b0, z0⟩ := slice_open kCallE Tryz.underlying22 (by kernel_rfl) (of_decide_eq_true (by kernel_rfl)) CallE.of_trod k0 h0
  obtain ⟨n1, rfl, r1⟩ := int_openR k1 h1
  exact Tri.run (treeBytes_ok a0 l0.length c0 l0 n1 r1) (z0 _)
end Go.Proofs.YtdieogcemmnaaaaGreatDoor

/- TreeBytes holds: for every input the law returns true, and each argument reads behind the call as it read before. No condition. -/
namespace Go.Proofs.YtdieogcemmnaaaaGreatDoor.treeBytes
open Go.ChangeShapes Go.WideShapes Go.ChangeAt Go.RowKit
set_option linter.unusedVariables false

theorem own : ownKnob Tryz.prog.godebug = none := by kernel_rfl
theorem laidOut : laidOutB Tryz.prog = true := by kernel_rfl

def laidL : List (String × DataW Unit) := [("unicode/utf8.acceptRanges", Rows.laid_unicode_utf8_acceptRanges), ("unicode/utf8.first", Rows.laid_unicode_utf8_first)]
set_option maxRecDepth 100000 in
theorem plainL (w : World) : laidMetH Tryz.prog laidL w = laidMet Tryz.prog laidL w := MakeChecks.laidMetH_plain _ _ _ (by kernel_rfl)
set_option maxRecDepth 100000 in
theorem door_met (os : Os) (args : Array Value) : laidMetH Tryz.prog laidL ((World.laidAll Tryz.prog os laidL).forCall (fun _ _ => 0) ⟨#[], args, []⟩).memory := by
  rw [plainL]
  exact laidMet_laidAll _ (by kernel_rfl) (by kernel_rfl)
end Go.Proofs.YtdieogcemmnaaaaGreatDoor.treeBytes


/- TreeBytes holds: for every input the law returns true, and each argument reads behind the call as it read before. No condition. -/
namespace Go.Proofs.YtdieogcemmnaaaaGreatDoor.treeBytes
open Go.ChangeShapes Go.WideShapes Go.ChangeAt Go.RowKit
set_option linter.unusedVariables false

set_option maxRecDepth 100000 in
theorem lifted (os : Os) (started : os.Started) (H : Type) (enc : TypeId × Value → H) :
    ReturnsInHanded {} Tryz.checked os 3 .any (fun w args => (Rows.treeBytesSpec.pre enc Tryz.prog Tryz.f3 [] false w args ∧ laidMetH Tryz.prog laidL w) ∧ sizedMet enc Tryz.prog Tryz.f3 (OpenSpec.ofChange Rows.treeBytesSpec) false w args) (Rows.treeBytesSpec.post enc Tryz.prog Tryz.f3 false true false false) := by
  refine returnsInHanded_of_change_and (C := Tryz.checked) (X := fun w _ => laidMetH Tryz.prog laidL w) (fun _ _ _ hh h => h.of_heap hh) own started (by kernel_rfl) Tryz.func3
    (ChangeSpec.witness_shaped (enc := enc) (C := Tryz.checked) (os := os) (X := fun w _ => laidMetH Tryz.prog laidL w) false (World.laidAll Tryz.prog os laidL) #[.slice none 0 0, .int .i64 0] 8 (World.laidAll_os _ _ _) (World.shaped_of_ZipB (by kernel_rfl) (by kernel_rfl)) (by kernel_rfl) (by kernel_rfl) (by kernel_rfl) (door_met os _)) ?_
  intro W base args ds gs before hval0 hW hcnd hsz0 _ _
  have hval : ∀ (j : Nat) t v, Tryz.f3.params[j]? = some t → args[j]? = some v → Value.okWide Tryz.prog W .any base t v := hval0
  have hW' := hW
  obtain ⟨p, q, hA0, hV, rfl, hfz, hnd⟩ := hW
  have hA : DataW.TrodAll enc Tryz.prog W 0 (fun _ => true) true Tryz.f3.params.toList args.toList ds p := hA0
  have hsz : (DataW.weightsEach Tryz.prog (Tryz.f3.params.toList ++ Rows.treeBytesSpec.plain.varTypes Tryz.prog) (ds ++ gs)).all (· ≤ reachBytes) = true := hsz0
  clear hsz0
  rw [Tryz.params3] at hA hval hsz
  obtain ⟨v0, vs0, d0, ds0, p0, q0, hargs, rfl, rfl, h0, r0⟩ := trodAll_cons hA
  obtain ⟨v1, vs1, d1, ds1, p1, q1, rfl, rfl, rfl, h1, r1⟩ := trodAll_cons r0
  obtain ⟨rfl, rfl, rfl⟩ := trodAll_nil r1
  obtain rfl : args = #[v0, v1] := by cases args; simp_all
  obtain ⟨rfl, rfl⟩ := trodVars_none hV
  have lt0 : ∀ x ∈ p0, x.block < W.heap.size := by obtain ⟨m, hm⟩ := h0; exact DataW.trod_lt m _ _ _ hm
  have lt1 : ∀ x ∈ p1, x.block < W.heap.size := by obtain ⟨m, hm⟩ := h1; exact DataW.trod_lt m _ _ _ hm
  refine (treeBytes_walk enc base v0 v1 W (hval 0 22 v0 rfl rfl) ⟨_, _, h0, Small.arg hsz (j := 0) rfl rfl⟩ (hval 1 3 v1 rfl rfl) ⟨_, _, h1, Small.arg hsz (j := 1) rfl rfl⟩).mono fun e W' ⟨he, bel⟩ => ?_
  subst he
  exact ⟨_, rfl, _, _, _, [], _, [], hW', trodAll_mk1 (shut_bool Tryz.underlying4 _), (trodAll_cons_mk (Below.trod laidOut (by kernel_rfl) (of_decide_eq_true (by kernel_rfl)) h0 bel lt0) (trodAll_cons_mk (Below.trod laidOut (by kernel_rfl) (of_decide_eq_true (by kernel_rfl)) h1 bel lt1) trodAll_mk0)), rfl, bel.frame _, fun h => by cases h⟩

end Go.Proofs.YtdieogcemmnaaaaGreatDoor.treeBytes


/- TreeBytes holds: for every input the law returns true, and each argument reads behind the call as it read before. No condition. -/
namespace Go.Proofs.YtdieogcemmnaaaaGreatDoor.treeBytes
open Go.ChangeShapes Go.WideShapes Go.ChangeAt Go.RowKit
set_option linter.unusedVariables false

theorem and2 {a b : Bool} (h1 : a = true) (h2 : b = true) : (a && b) = true := by rw [h1, h2]; rfl
theorem c0 : (fun (P : Program) (f : FuncId) (fn : Func) (s : ChangeSpec) (c : OpenClaim) => (c.wf (OpenSpec.ofChange s) : Bool)) Tryz.pinned.checked.prog 3 Tryz.f3 Rows.treeBytesSpec Rows.treeBytesRow = true := by kernel_rfl
theorem c1 : (fun (P : Program) (f : FuncId) (fn : Func) (s : ChangeSpec) (c : OpenClaim) => (laidOutB P : Bool)) Tryz.pinned.checked.prog 3 Tryz.f3 Rows.treeBytesSpec Rows.treeBytesRow = true := by kernel_rfl
theorem c2 : (fun (P : Program) (f : FuncId) (fn : Func) (s : ChangeSpec) (c : OpenClaim) => (mapsRowed P : Bool)) Tryz.pinned.checked.prog 3 Tryz.f3 Rows.treeBytesSpec Rows.treeBytesRow = true := by kernel_rfl
theorem c3 : (fun (P : Program) (f : FuncId) (fn : Func) (s : ChangeSpec) (c : OpenClaim) => (fn.params.all (P.readableRec ·) : Bool)) Tryz.pinned.checked.prog 3 Tryz.f3 Rows.treeBytesSpec Rows.treeBytesRow = true := by kernel_rfl
theorem c4 : (fun (P : Program) (f : FuncId) (fn : Func) (s : ChangeSpec) (c : OpenClaim) => (namedTie P c.named s.vars : Bool)) Tryz.pinned.checked.prog 3 Tryz.f3 Rows.treeBytesSpec Rows.treeBytesRow = true := by kernel_rfl
theorem c5 : (fun (P : Program) (f : FuncId) (fn : Func) (s : ChangeSpec) (c : OpenClaim) => ((c.stops == []) : Bool)) Tryz.pinned.checked.prog 3 Tryz.f3 Rows.treeBytesSpec Rows.treeBytesRow = true := by kernel_rfl
theorem c6 : (fun (P : Program) (f : FuncId) (fn : Func) (s : ChangeSpec) (c : OpenClaim) => ((P.stops == []) : Bool)) Tryz.pinned.checked.prog 3 Tryz.f3 Rows.treeBytesSpec Rows.treeBytesRow = true := by kernel_rfl
theorem c7 : (fun (P : Program) (f : FuncId) (fn : Func) (s : ChangeSpec) (c : OpenClaim) => ((c.knobs == []) : Bool)) Tryz.pinned.checked.prog 3 Tryz.f3 Rows.treeBytesSpec Rows.treeBytesRow = true := by kernel_rfl
theorem c8 : (fun (P : Program) (f : FuncId) (fn : Func) (s : ChangeSpec) (c : OpenClaim) => ((P.stopKnobs == []) : Bool)) Tryz.pinned.checked.prog 3 Tryz.f3 Rows.treeBytesSpec Rows.treeBytesRow = true := by kernel_rfl
theorem c9 : (fun (P : Program) (f : FuncId) (fn : Func) (s : ChangeSpec) (c : OpenClaim) => ((c.inPlace == P.inPlace f) : Bool)) Tryz.pinned.checked.prog 3 Tryz.f3 Rows.treeBytesSpec Rows.treeBytesRow = true := by kernel_rfl
theorem c10 : (fun (P : Program) (f : FuncId) (fn : Func) (s : ChangeSpec) (c : OpenClaim) => ((c.unfollowed == P.unfollowed f) : Bool)) Tryz.pinned.checked.prog 3 Tryz.f3 Rows.treeBytesSpec Rows.treeBytesRow = true := by kernel_rfl
theorem c11 : (fun (P : Program) (f : FuncId) (fn : Func) (s : ChangeSpec) (c : OpenClaim) => ((c.recurses == P.recurses f) : Bool)) Tryz.pinned.checked.prog 3 Tryz.f3 Rows.treeBytesSpec Rows.treeBytesRow = true := by kernel_rfl
theorem c12 : (fun (P : Program) (f : FuncId) (fn : Func) (s : ChangeSpec) (c : OpenClaim) => ((c.named == P.varsNamed f) : Bool)) Tryz.pinned.checked.prog 3 Tryz.f3 Rows.treeBytesSpec Rows.treeBytesRow = true := by kernel_rfl
theorem c13 : (fun (P : Program) (f : FuncId) (fn : Func) (s : ChangeSpec) (c : OpenClaim) => ((c.maps == (fn.params.toList ++ s.plain.varTypes P).any (P.mapsRec ·)) : Bool)) Tryz.pinned.checked.prog 3 Tryz.f3 Rows.treeBytesSpec Rows.treeBytesRow = true := by kernel_rfl
theorem c14 : (fun (P : Program) (f : FuncId) (fn : Func) (s : ChangeSpec) (c : OpenClaim) => ((c.ifaces == (fn.params.toList ++ s.plain.varTypes P).any (P.ifacesRec ·)) : Bool)) Tryz.pinned.checked.prog 3 Tryz.f3 Rows.treeBytesSpec Rows.treeBytesRow = true := by kernel_rfl
theorem c15 : (fun (P : Program) (f : FuncId) (fn : Func) (s : ChangeSpec) (c : OpenClaim) => ((c.mapsOut == P.mapsAmong fn.resultTypes.toList) : Bool)) Tryz.pinned.checked.prog 3 Tryz.f3 Rows.treeBytesSpec Rows.treeBytesRow = true := by kernel_rfl
theorem c16 : (fun (P : Program) (f : FuncId) (fn : Func) (s : ChangeSpec) (c : OpenClaim) => ((c.loops == (fn.params.toList ++ s.plain.varTypes P).any (P.loopsFrom ·)) : Bool)) Tryz.pinned.checked.prog 3 Tryz.f3 Rows.treeBytesSpec Rows.treeBytesRow = true := by kernel_rfl
theorem c17 : (fun (P : Program) (f : FuncId) (fn : Func) (s : ChangeSpec) (c : OpenClaim) => ((c.wideKeys == (fn.params.toList ++ s.plain.varTypes P ++ fn.resultTypes.toList).any (P.wideKeysFrom ·)) : Bool)) Tryz.pinned.checked.prog 3 Tryz.f3 Rows.treeBytesSpec Rows.treeBytesRow = true := by kernel_rfl
theorem c18 : (fun (P : Program) (f : FuncId) (fn : Func) (s : ChangeSpec) (c : OpenClaim) => (s.vars.all (P.varReadable ·) : Bool)) Tryz.pinned.checked.prog 3 Tryz.f3 Rows.treeBytesSpec Rows.treeBytesRow = true := by kernel_rfl
theorem c19 : (fun (P : Program) (f : FuncId) (fn : Func) (s : ChangeSpec) (c : OpenClaim) => (fn.resultTypes.all (fun t => P.readableRec t && decide (t < P.types.size)) : Bool)) Tryz.pinned.checked.prog 3 Tryz.f3 Rows.treeBytesSpec Rows.treeBytesRow = true := by kernel_rfl
theorem c20 : (fun (P : Program) (f : FuncId) (fn : Func) (s : ChangeSpec) (c : OpenClaim) => ((c.ifacesOut == fn.resultTypes.toList.any (P.ifacesRec ·)) : Bool)) Tryz.pinned.checked.prog 3 Tryz.f3 Rows.treeBytesSpec Rows.treeBytesRow = true := by kernel_rfl
theorem c21 : (fun (P : Program) (f : FuncId) (fn : Func) (s : ChangeSpec) (c : OpenClaim) => ((c.loopsOut == fn.resultTypes.toList.any (P.loopsFrom ·)) : Bool)) Tryz.pinned.checked.prog 3 Tryz.f3 Rows.treeBytesSpec Rows.treeBytesRow = true := by kernel_rfl
theorem c22 : (fun (P : Program) (f : FuncId) (fn : Func) (s : ChangeSpec) (c : OpenClaim) => ((c.plainKeys == P.plainKeys) : Bool)) Tryz.pinned.checked.prog 3 Tryz.f3 Rows.treeBytesSpec Rows.treeBytesRow = true := by kernel_rfl
theorem c23 : (fun (P : Program) (f : FuncId) (fn : Func) (s : ChangeSpec) (c : OpenClaim) => (c.shortTexts.isNone : Bool)) Tryz.pinned.checked.prog 3 Tryz.f3 Rows.treeBytesSpec Rows.treeBytesRow = true := by kernel_rfl
theorem c24 : (fun (P : Program) (f : FuncId) (fn : Func) (s : ChangeSpec) (c : OpenClaim) => (P.stopsHeard : Bool)) Tryz.pinned.checked.prog 3 Tryz.f3 Rows.treeBytesSpec Rows.treeBytesRow = true := by kernel_rfl
theorem c25 : (fun (P : Program) (f : FuncId) (fn : Func) (s : ChangeSpec) (c : OpenClaim) => (P.mayEnter : Bool)) Tryz.pinned.checked.prog 3 Tryz.f3 Rows.treeBytesSpec Rows.treeBytesRow = true := by kernel_rfl
theorem c26 : (fun (P : Program) (f : FuncId) (fn : Func) (s : ChangeSpec) (c : OpenClaim) => ((c.lifted == P.liftsFinal) : Bool)) Tryz.pinned.checked.prog 3 Tryz.f3 Rows.treeBytesSpec Rows.treeBytesRow = true := by kernel_rfl
theorem c27 : (fun (P : Program) (f : FuncId) (fn : Func) (s : ChangeSpec) (c : OpenClaim) => ((P.make == some c.make) : Bool)) Tryz.pinned.checked.prog 3 Tryz.f3 Rows.treeBytesSpec Rows.treeBytesRow = true := by kernel_rfl
theorem c28 : (fun (P : Program) (f : FuncId) (fn : Func) (s : ChangeSpec) (c : OpenClaim) => ((c.kinds == (if c.domain.isEmpty then [] else fn.params.toList.map fun t => match P.underlying t with | some (.int k) => some k | _ => none)) : Bool)) Tryz.pinned.checked.prog 3 Tryz.f3 Rows.treeBytesSpec Rows.treeBytesRow = true := by kernel_rfl
theorem c29 : (fun (P : Program) (f : FuncId) (fn : Func) (s : ChangeSpec) (c : OpenClaim) => ((c.pinned == c.pinnedBy) : Bool)) Tryz.pinned.checked.prog 3 Tryz.f3 Rows.treeBytesSpec Rows.treeBytesRow = true := by kernel_rfl
theorem c30 : (fun (P : Program) (f : FuncId) (fn : Func) (s : ChangeSpec) (c : OpenClaim) => ((c.veiled == (fn.params.toList ++ s.plain.varTypes P ++ fn.resultTypes.toList).any (P.veiledRec ·)) : Bool)) Tryz.pinned.checked.prog 3 Tryz.f3 Rows.treeBytesSpec Rows.treeBytesRow = true := by kernel_rfl
theorem c31 : (fun (P : Program) (f : FuncId) (fn : Func) (s : ChangeSpec) (c : OpenClaim) => (c.veiledFits P fn.params.toList (fn.params.toList ++ s.plain.varTypes P ++ fn.resultTypes.toList) : Bool)) Tryz.pinned.checked.prog 3 Tryz.f3 Rows.treeBytesSpec Rows.treeBytesRow = true := by kernel_rfl
theorem inst : Tryz.f3.isInstance Tryz.pinned.checked.prog Rows.treeBytesRow.origin Rows.treeBytesRow.targs := (of_decide_eq_true (by kernel_rfl))
theorem wrap : Tryz.f3.isWrapper Tryz.pinned.checked.prog Rows.treeBytesRow.wrapper Rows.treeBytesRow.mainSum := by unfold Func.isWrapper; first | (rw [if_pos (by decide +kernel)]; kernel_rfl) | (rw [if_neg (by decide +kernel)]; exact ⟨rfl, rfl⟩)
theorem nmd : Tryz.pinned.checked.prog.funcNamed Rows.treeBytesRow.func = some 3 := by kernel_rfl
end Go.Proofs.YtdieogcemmnaaaaGreatDoor.treeBytes


/- TreeBytes holds: for every input the law returns true, and each argument reads behind the call as it read before. No condition. -/
namespace Go.Proofs.YtdieogcemmnaaaaGreatDoor.treeBytes
open Go.ChangeShapes Go.WideShapes Go.ChangeAt Go.RowKit
set_option linter.unusedVariables false

set_option maxRecDepth 100000 in
theorem closed : joinedFacts Tryz.pinned.checked.prog 3 Tryz.f3 Rows.treeBytesSpec Rows.treeBytesRow = true := (and2 (and2 (and2 (and2 (and2 (and2 (and2 (and2 (and2 (and2 (and2 (and2 (and2 (and2 (and2 (and2 (and2 (and2 (and2 (and2 (and2 (and2 (and2 (and2 (and2 (and2 (and2 (and2 (and2 (and2 (and2 c0 c1) c2) c3) c4) c5) c6) c7) c8) c9) c10) c11) c12) c13) c14) c15) c16) c17) c18) c19) c20) c21) c22) c23) c24) c25) c26) c27) c28) c29) c30) c31)
theorem over : Rows.treeBytesRow.holds Tryz.pinned (OpenSpec.ofChange Rows.treeBytesSpec) :=
  OpenClaim.holds_of_wide 3 Tryz.f3 rfl rfl rfl rfl rfl rfl rfl ⟨rfl, rfl, rfl, rfl, rfl⟩ rfl rfl rfl rfl rfl nmd Tryz.func3 closed inst wrap (fun os started H enc _ => lifted os started H enc)
end Go.Proofs.YtdieogcemmnaaaaGreatDoor.treeBytes

