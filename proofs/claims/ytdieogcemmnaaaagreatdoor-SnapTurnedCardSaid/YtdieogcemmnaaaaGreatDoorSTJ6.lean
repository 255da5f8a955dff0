/- Texts of this claim, joined: TrSnapW, WhB, TrSnapD, Dc, Crc, Spk, SnI, SnJ, TrRef04, Eq04, Sto, Lw6, GrL, U8O, SnapTurnedW, SnapTurnedD, SnapTurnedA, SnapTurnedK, SnapTurnedB. No condition. -/
import Derived.Test.YtdieogcemmnaaaaGreatDoorSTJ1
import Derived.Test.YtdieogcemmnaaaaGreatDoorSTJ2
import Derived.Test.YtdieogcemmnaaaaGreatDoorSTJ4
import Derived.Test.YtdieogcemmnaaaaGreatDoorSTJ5
import Derived.KernelRfl
import Derived.Laws.StructEq
import Derived.OpenShut
import Derived.ProofKit
import Derived.ShutString
import Derived.ChangeOld
import Derived.Below
import Derived.SizedLaws
import Derived.Lay
import Derived.LaidMore
import Derived.Test.YtdieogcemmnaaaaGreatDoorTie
import Derived.Test.YtdieogcemmnaaaaGreatDoorCards
import Derived.SevenTiedAt
set_option linter.unusedSimpArgs false
set_option linter.unusedVariables false
/- Trees of functions, printed by rx.lean. No condition. -/
namespace Go.Proofs.YtdieogcemmnaaaaGreatDoor.RX
set_option maxRecDepth 100000
-- (*tideline/tree.Tree).whole: ρ := [.n t, .p tP]
def t_tWhole : T :=
(.read (.load 123 (.tmp 14)) 123 [(14, (.w (.a (.ptr (.v 0) 0))))] [((.b (.v 0)), (.prop 1))] [.n] (.w (.a (.map (.v 2))))
(.read (.lookup 123 (.tmp 15) (.const (.int .i64 0)) false) 121 [(15, (.w (.a (.map (.v 2)))))] [((.b (.v 0)), (.prop 1))] [.v] (.w (.a (.val 3)))
(.read (.binOp .eql 121 (.tmp 17) (.const (.pointer none)) 121) 4 [(17, (.w (.a (.val 3))))] [((.b (.v 0)), (.prop 1))] [.c] (.w (.a (.bool (.v 4))))
(.br (.v 4)
 (.ret (.w (.a (.bool (.c false)))) [((.b (.v 0)), (.prop 1))])
 (.read (.nilCheck (.tmp 20)) 0 [(20, (.w (.a (.val 3))))] [((.b (.v 0)), (.prop 1))] [.n] (.w (.a (.ptr (.v 5) 0)))
 (.read (.load 3 (.tmp 22)) 3 [(22, (.w (.a (.ptr (.v 5) 0))))] [((.b (.v 0)), (.prop 1))] [.i] (.w (.a (.int .i64 (.v 6))))
 (.br (.o1 .not (.o2 .eq (.v 6) (.i 1)))
  (.ret (.w (.a (.bool (.c false)))) [((.b (.v 0)), (.prop 1))])
  (.new
  (.new
  (.loop [.a, .n, .n, .c, .p, .p] [(.a (.b (.v 8) 0)), (.e (.o2 .nadd (.n 1) (.n 0))), (.e (.o2 .nadd (.n 1) (.n 0))), (.e (.o1 .not (.o1 .not (.c false)))), (.p [((.b (.v 8)), (.cells [(.val 3)] 121))]), (.p [((.b (.v 7)), (.cells [(.int .i64 (.i 0)), (.int .i64 (.i 0)), (.int .i64 (.i 0)), (.int .i64 (.i 0)), (.int .i64 (.i 0)), (.int .i64 (.i 0)), (.int .i64 (.i 0)), (.int .i64 (.i 0)), (.int .i64 (.i 0)), (.int .i64 (.i 0)), (.int .i64 (.i 0)), (.int .i64 (.i 0)), (.int .i64 (.i 0)), (.int .i64 (.i 0)), (.int .i64 (.i 0)), (.int .i64 (.i 0)), (.int .i64 (.i 0)), (.int .i64 (.i 0)), (.int .i64 (.i 0)), (.int .i64 (.i 0)), (.int .i64 (.i 0)), (.int .i64 (.i 0)), (.int .i64 (.i 0)), (.int .i64 (.i 0)), (.int .i64 (.i 0)), (.int .i64 (.i 0)), (.int .i64 (.i 0)), (.int .i64 (.i 0)), (.int .i64 (.i 0)), (.int .i64 (.i 0)), (.int .i64 (.i 0)), (.int .i64 (.i 0)), (.int .i64 (.i 0)), (.int .i64 (.i 0)), (.int .i64 (.i 0)), (.int .i64 (.i 0)), (.int .i64 (.i 0)), (.int .i64 (.i 0)), (.int .i64 (.i 0)), (.int .i64 (.i 0)), (.int .i64 (.i 0)), (.int .i64 (.i 0)), (.int .i64 (.i 0)), (.int .i64 (.i 0)), (.int .i64 (.i 0)), (.int .i64 (.i 0)), (.int .i64 (.i 0)), (.int .i64 (.i 0)), (.int .i64 (.i 0)), (.int .i64 (.i 0)), (.int .i64 (.i 0)), (.int .i64 (.i 0)), (.int .i64 (.i 0)), (.int .i64 (.i 0)), (.int .i64 (.i 0)), (.int .i64 (.i 0)), (.int .i64 (.i 0)), (.int .i64 (.i 0)), (.int .i64 (.i 0)), (.int .i64 (.i 0)), (.int .i64 (.i 0)), (.int .i64 (.i 0)), (.int .i64 (.i 0)), (.int .i64 (.i 0))] 147))])]
   (.br (.o2 .lt (.i 0) (.o1 .ofNat (.v 10)))
    (.need (.o1 (.inr .i64) (.o2 .sub (.o1 .ofNat (.v 10)) (.i 1)))
    (.need (.o2 .le (.i 0) (.o2 .sub (.o1 .ofNat (.v 10)) (.i 1)))
    (.need (.o2 .lt (.o2 .sub (.o1 .ofNat (.v 10)) (.i 1)) (.o1 .ofNat (.v 10)))
    (.need (.o1 .isSome (.v 9))
    (.read (.load 121 (.tmp 35)) 121 [(35, (.w (.a (.eptr 9 (.o2 .sub (.o1 .ofNat (.v 10)) (.i 1)) 1 0))))] [((.a 9), (.prop 13)), ((.b (.v 0)), (.prop 1))] [.v] (.w (.a (.val 15)))
    (.read (.slice 291 (.tmp 37) none (some (.tmp 40)) none) 291 [(37, (.w (.a (.sl (.v 9) (.v 10) (.v 11))))), (40, (.w (.a (.int .i64 (.o2 .sub (.o1 .ofNat (.v 10)) (.i 1))))))] [((.a 9), (.prop 13)), ((.b (.v 0)), (.prop 1))] [.a, .n, .n] (.w (.a (.sl (.v 16) (.v 17) (.v 18))))
    (.read (.nilCheck (.tmp 42)) 0 [(42, (.w (.a (.val 15))))] [((.a 9), (.prop 13)), ((.b (.v 0)), (.prop 1))] [.n] (.w (.a (.ptr (.v 19) 0)))
    (.read (.load 131 (.tmp 44)) 131 [(44, (.w (.a (.ptr (.v 19) 3))))] [((.a 9), (.prop 13)), ((.b (.v 0)), (.prop 1))] [.n] (.w (.a (.map (.v 20))))
    (.op (.range 131 (.tmp 45)) 0 [(45, (.w (.a (.map (.v 20)))))] [((.a 9), (.prop 13)), ((.b (.v 0)), (.prop 1))] [.n, .p, .p] (.w (.a (.ptr (.v 21) 0))) [((.b (.v 21)), (.prop 22)), ((.a 9), (.prop 23)), ((.b (.v 0)), (.prop 1))]
    (.loop [.c, .a, .n, .n, .p, .p, .p] [(.e (.o1 .not (.o1 .not (.v 12)))), (.a (.v 16)), (.e (.o2 .nadd (.v 17) (.n 0))), (.e (.o2 .nadd (.v 18) (.n 0))), (.p [((.b (.v 21)), (.prop 22))]), (.p [((.a 9), (.prop 23))]), (.p [((.b (.v 7)), (.prop 14))])]
     (.op (.next (.tmp 46) false) 0 [(46, (.w (.a (.ptr (.v 21) 0))))] [((.b (.v 21)), (.prop 28)), ((.a 9), (.prop 29)), ((.b (.v 0)), (.prop 1))] [.c, .v, .v, .p] (.nx 31 32 33) [((.b (.v 21)), (.prop 34)), ((.a 9), (.prop 29)), ((.b (.v 0)), (.prop 1))]
     (.br (.v 31)
      (.read (.entry (.tmp 46)) 0 [(46, (.w (.a (.ptr (.v 21) 0))))] [((.b (.v 21)), (.prop 34)), ((.a 9), (.prop 29)), ((.b (.v 0)), (.prop 1))] [.s, .i] (.tup [(.a (.str (.v 35))), (.a (.int .i64 (.v 36)))])
      (.read (.load 123 (.tmp 53)) 123 [(53, (.w (.a (.ptr (.v 0) 0))))] [((.b (.v 0)), (.prop 1))] [.n] (.w (.a (.map (.v 37))))
      (.read (.lookup 123 (.tmp 54) (.tmp 55) false) 121 [(54, (.w (.a (.map (.v 37))))), (55, (.w (.a (.int .i64 (.v 36)))))] [((.b (.v 0)), (.prop 1))] [.v] (.w (.a (.val 38)))
      (.read (.binOp .eql 121 (.tmp 57) (.const (.pointer none)) 121) 4 [(57, (.w (.a (.val 38))))] [((.b (.v 0)), (.prop 1))] [.c] (.w (.a (.bool (.v 39))))
      (.br (.v 39)
       (.ret (.w (.a (.bool (.c false)))) [((.b (.v 0)), (.prop 1))])
       (.br (.o2 .eq (.v 36) (.i 0))
        (.ret (.w (.a (.bool (.c false)))) [((.b (.v 0)), (.prop 1))])
        (.read (.indexAddr 147 (.tmp 4) (.tmp 63)) 0 [(4, (.w (.a (.ptr (.v 7) 0)))), (63, (.w (.a (.int .i64 (.v 36)))))] [((.b (.v 7)), (.prop 30))] [.v] (.w (.a (.val 40)))
        (.read (.load 3 (.tmp 64)) 3 [(64, (.w (.a (.val 40))))] [((.b (.v 7)), (.prop 30))] [.i] (.w (.a (.int .i64 (.v 41))))
        (.need (.o1 (.inr .i64) (.o2 .add (.v 41) (.i 1)))
        (.read (.indexAddr 147 (.tmp 4) (.tmp 63)) 0 [(4, (.w (.a (.ptr (.v 7) 0)))), (63, (.w (.a (.int .i64 (.v 36)))))] [((.b (.v 7)), (.prop 30))] [.v] (.w (.a (.val 42)))
        (.op (.store 3 (.tmp 67) (.tmp 66)) 0 [(67, (.w (.a (.val 42)))), (66, (.w (.a (.int .i64 (.o2 .add (.v 41) (.i 1))))))] [((.b (.v 7)), (.prop 30))] [.p] (.tup []) [((.b (.v 7)), (.prop 43))]
        (.read (.indexAddr 147 (.tmp 4) (.tmp 68)) 0 [(4, (.w (.a (.ptr (.v 7) 0)))), (68, (.w (.a (.int .i64 (.v 36)))))] [((.b (.v 7)), (.prop 43))] [.v] (.w (.a (.val 44)))
        (.read (.load 3 (.tmp 69)) 3 [(69, (.w (.a (.val 44))))] [((.b (.v 7)), (.prop 43))] [.i] (.w (.a (.int .i64 (.v 45))))
        (.read (.nilCheck (.tmp 71)) 0 [(71, (.w (.a (.val 38))))] [((.b (.v 0)), (.prop 1))] [.n] (.w (.a (.ptr (.v 46) 0)))
        (.read (.load 3 (.tmp 73)) 3 [(73, (.w (.a (.ptr (.v 46) 1))))] [((.b (.v 0)), (.prop 1))] [.i] (.w (.a (.int .i64 (.v 47))))
        (.br (.o2 .lt (.v 47) (.v 45))
         (.ret (.w (.a (.bool (.c false)))) [((.b (.v 0)), (.prop 1))])
         (.read (.nilCheck (.tmp 76)) 0 [(76, (.w (.a (.val 38))))] [((.b (.v 0)), (.prop 1))] [.n] (.w (.a (.ptr (.v 48) 0)))
         (.read (.load 3 (.tmp 78)) 3 [(78, (.w (.a (.ptr (.v 48) 0))))] [((.b (.v 0)), (.prop 1))] [.i] (.w (.a (.int .i64 (.v 49))))
         (.br (.o2 .eq (.v 49) (.i 1))
          (.new
          (.op (.call ⟨.builtin .append, #[(.tmp 81), (.tmp 83)], #[291, 291]⟩) 291 [(81, (.w (.a (.sl (.v 25) (.v 26) (.v 27))))), (83, (.w (.a (.sl (.b (.v 50) 0) (.n 1) (.n 1)))))] [((.a 9), (.prop 29)), ((.b (.v 0)), (.prop 1)), ((.b (.v 50)), (.cells [(.val 38)] 121))] [.a, .n, .n, .p, .p] (.w (.a (.sl (.v 51) (.v 52) (.v 53)))) [((.a 51), (.prop 54)), ((.a 9), (.prop 55)), ((.b (.v 0)), (.prop 1))]
          (.again 0 [(.e (.o1 .not (.o1 .not (.v 24)))), (.a (.v 51)), (.e (.o2 .nadd (.v 52) (.n 0))), (.e (.o2 .nadd (.v 53) (.n 0))), (.p [((.b (.v 21)), (.prop 34))]), (.p [((.a 9), (.prop 55))]), (.p [((.b (.v 7)), (.prop 43))])])))
          (.again 0 [(.e (.o1 .not (.o1 .not (.v 24)))), (.a (.v 25)), (.e (.o2 .nadd (.v 26) (.n 0))), (.e (.o2 .nadd (.v 27) (.n 0))), (.p [((.b (.v 21)), (.prop 34))]), (.p [((.a 9), (.prop 29))]), (.p [((.b (.v 7)), (.prop 43))])]))))))))))))))))))))
      (.again 1 [(.a (.v 25)), (.e (.o2 .nadd (.v 26) (.n 0))), (.e (.o2 .nadd (.v 27) (.n 0))), (.e (.o1 .not (.o1 .not (.v 24)))), (.p [((.a 9), (.prop 29))]), (.p [((.b (.v 7)), (.prop 30))])])))))))))))))
    (.read (.load 123 (.tmp 87)) 123 [(87, (.w (.a (.ptr (.v 0) 0))))] [((.b (.v 0)), (.prop 1))] [.n] (.w (.a (.map (.v 15))))
    (.op (.range 123 (.tmp 88)) 0 [(88, (.w (.a (.map (.v 15)))))] [((.b (.v 0)), (.prop 1))] [.n, .p, .p] (.w (.a (.ptr (.v 16) 0))) [((.b (.v 16)), (.prop 17)), ((.b (.v 0)), (.prop 18))]
    (.loop [.c, .p] [(.e (.o1 .not (.o1 .not (.v 12)))), (.p [((.b (.v 16)), (.prop 17))])]
     (.op (.next (.tmp 89) false) 0 [(89, (.w (.a (.ptr (.v 16) 0))))] [((.b (.v 16)), (.prop 20)), ((.b (.v 0)), (.prop 18))] [.c, .v, .v, .p] (.nx 21 22 23) [((.b (.v 16)), (.prop 24)), ((.b (.v 0)), (.prop 18))]
     (.br (.v 21)
      (.read (.entry (.tmp 89)) 0 [(89, (.w (.a (.ptr (.v 16) 0))))] [((.b (.v 16)), (.prop 24)), ((.b (.v 0)), (.prop 18))] [.i, .v] (.tup [(.a (.int .i64 (.v 25))), (.a (.val 26))])
      (.br (.o1 .not (.o2 .eq (.v 25) (.i 0)))
       (.read (.indexAddr 147 (.tmp 4) (.tmp 98)) 0 [(4, (.w (.a (.ptr (.v 7) 0)))), (98, (.w (.a (.int .i64 (.v 25)))))] [((.b (.v 7)), (.prop 14))] [.v] (.w (.a (.val 27)))
       (.read (.load 3 (.tmp 99)) 3 [(99, (.w (.a (.val 27))))] [((.b (.v 7)), (.prop 14))] [.i] (.w (.a (.int .i64 (.v 28))))
       (.br (.o2 .eq (.v 28) (.i 0))
        (.ret (.w (.a (.bool (.c false)))) [((.b (.v 0)), (.prop 18))])
        (.read (.indexAddr 147 (.tmp 4) (.tmp 103)) 0 [(4, (.w (.a (.ptr (.v 7) 0)))), (103, (.w (.a (.int .i64 (.v 25)))))] [((.b (.v 7)), (.prop 14))] [.v] (.w (.a (.val 29)))
        (.read (.load 3 (.tmp 104)) 3 [(104, (.w (.a (.val 29))))] [((.b (.v 7)), (.prop 14))] [.i] (.w (.a (.int .i64 (.v 30))))
        (.read (.nilCheck (.tmp 106)) 0 [(106, (.w (.a (.val 26))))] [((.b (.v 0)), (.prop 18))] [.n] (.w (.a (.ptr (.v 31) 0)))
        (.read (.load 3 (.tmp 108)) 3 [(108, (.w (.a (.ptr (.v 31) 1))))] [((.b (.v 0)), (.prop 18))] [.i] (.w (.a (.int .i64 (.v 32))))
        (.br (.o1 .not (.o2 .eq (.v 30) (.v 32)))
         (.ret (.w (.a (.bool (.c false)))) [((.b (.v 0)), (.prop 18))])
         (.again 0 [(.e (.o1 .not (.o1 .not (.v 19)))), (.p [((.b (.v 16)), (.prop 24))])])))))))))
       (.again 0 [(.e (.o1 .not (.o1 .not (.v 19)))), (.p [((.b (.v 16)), (.prop 24))])])))
      (.ret (.w (.a (.bool (.c true)))) [((.b (.v 0)), (.prop 18))])))))))))))))))))
theorem tree_tWhole : tree Tryz.prog { absT := [147, 3], opq := [121], hv := [(0, [(.b (.v 8)), (.b (.v 7))]), (2, [(.b (.v 21)), (.a 9), (.b (.v 7))]), (4, [(.b (.v 16))])], keep := [], link := [], ent := [(49, [9, 3]), (92, [3, 121])], turn := [], shr := [], vt := [], mkd := [], rlink := [], pty := [], outl := false, stay := [(.b (.v 0))], snk := [], opn := true, rdf := true, hlk := [(0, 8, (.b (.v 0)))], peek := [121] } Tryz.f161 [(.a (.ptr (.v 0) 0))] [((.b (.v 0)), (.prop 1))] 2 = t_tWhole := by kernel_rfl
end Go.Proofs.YtdieogcemmnaaaaGreatDoor.RX

/- tree.whole as a contract. No condition. -/
namespace Go.Proofs.YtdieogcemmnaaaaGreatDoor
set_option linter.unusedSimpArgs false
set_option linter.unusedVariables false
open Go.Proofs.YtdieogcemmnaaaaGreatDoor RX
set_option maxRecDepth 100000

/-- A part of a heap, as it stands. -/
def Own (R0 h0 : PH) : HP := ⟨fun R h => R0.le R ∧ h0.le h, fun l l' ⟨a, b⟩ => ⟨a.trans l, b.trans l'⟩⟩
theorem Tri.frz {P : Program} {f : FuncId} {args : Array Value} {A : HP} {B : Value → HP} (t : ∀ R0 h0, A.p R0 h0 → Tri P f args (Own R0 h0) B) : Tri P f args A B :=
  fun w R h F s a => t R h a w R h F s ⟨PH.le.refl _, PH.le.refl _⟩
theorem Own.to {R0 h0 : PH} {A : HP} (a : A.p R0 h0) : HP.ent (Own R0 h0) A := .of fun _ _ ⟨l, l'⟩ => A.mono l l' a
theorem undA64 : Tryz.prog.underlying 147 = some (.array 64 3) := by kernel_rfl
theorem undPn : Tryz.prog.underlying 121 = some (.pointer 133) := by kernel_rfl
theorem undSn : Tryz.prog.underlying 291 = some (.slice 121) := by kernel_rfl
def SeenA (b : Nat) (f : Nat → Nat) : HP := Ar 147 b (arF 64 fun k => .int .i64 (f k : Nat))
theorem wIx {b k : Nat} {x : Int} (hx : x = k) (hk : k < 64) {A : HP} : ORead Tryz.prog (idxS 147 (.pointer (some ⟨b, 0, none⟩)) (.int .i64 x)) A (.pointer (some ⟨b, k, none⟩)) := arIx undA64 (by kernel_rfl) (by kernel_rfl) hx hk
theorem wLd {b k : Nat} {f : Nat → Nat} (hk : k < 64) {P : HP} (hP : HP.ent P (SeenA b f)) : ORead Tryz.prog (loadS 3 (.pointer (some ⟨b, k, none⟩))) P (.int .i64 (f k : Nat)) := ORead.ent hP (arLd undIb aggI szI (arF_get hk))
theorem wSt {b k : Nat} {f : Nat → Nat} {x : Int} (hx : x = (f k : Nat) + 1) (hk : k < 64) {P : HP} (hP : HP.ent P (SeenA b f)) {C : Value → HP} (post : ∀ R h, (SeenA b fun q => if q = k then f k + 1 else f q).p R h → (C (.tuple #[])).p R h) : OTri Tryz.prog (storeS 3 (.pointer (some ⟨b, k, none⟩)) (.int .i64 x)) P C := by
  obtain ⟨i, hi, _, hz, _⟩ := info_parts infoInt
  refine OTri.pre3 ((arSt hi hz rfl rfl (by rw [arF_len]; exact hk)).weak (fun _ _ h => h) ?_) hP
  rintro v R h ⟨rfl, H⟩
  rw [arF_set hk] at H
  refine post R h ?_
  unfold SeenA
  have : (arF 64 fun j => if j = k then Value.int .i64 x else .int .i64 (f j : Nat)) = arF 64 fun q => .int .i64 ((if q = k then f k + 1 else f q : Nat) : Int) := arF_congr fun j _ => by
    by_cases e : j = k
    · subst e; rw [if_pos rfl, if_pos rfl, hx]; rfl
    · rw [if_neg e, if_neg e]
  rw [← this]; exact H
def ptrN (ns : List HN) (k : Nat) : Value := .pointer ((hnAt ns k).map fun x => ⟨x.nb, 0, none⟩)
def Stk (ns : List HN) (a : Option Addr) (c : Nat) (st : List Nat) : HP := OwC 121 1 a st.length c (st.map (ptrN ns))
theorem OwC.cut {e : TypeId} {a : Option Addr} {n c : Nat} {xs : List Value} {v : Value} {R h : PH} (H : (OwC e 1 a (n + 1) c (xs ++ [v])).p R h) : (OwC e 1 a n c xs).p R h := by
  obtain ⟨h1, h2⟩ := H
  have hx : xs.length = n := by simpa using h1
  refine ⟨by simpa using hx, ?_⟩
  rcases h2 with ⟨_, h, _⟩ | ⟨g, cur, e1, e2, e3, e4, e5, e6⟩
  · cases h
  · refine .inr ⟨g, cur, e1, e2, by omega, e4, e5, ?_⟩
    have := congrArg (List.take n) e6
    rw [List.take_take, List.take_left' hx] at this
    rw [Nat.mul_one]
    rw [← this]; congr 1; omega
theorem semW_slhi' {i j : Nat} {t ty : TypeId} {u v : Value} (h : i ≠ j) : semW (.slice t (.tmp i) none (some (.tmp j)) none) ty [(i, u), (j, v)] = sliceS t u none (some v) none := by
  have h' : (i == j) = false := by simpa using h
  simp [semW, execOp, arW, sliceS, h']
theorem zero64 : ([.int .i64 0, .int .i64 0, .int .i64 0, .int .i64 0, .int .i64 0, .int .i64 0, .int .i64 0, .int .i64 0, .int .i64 0, .int .i64 0, .int .i64 0, .int .i64 0, .int .i64 0, .int .i64 0, .int .i64 0, .int .i64 0, .int .i64 0, .int .i64 0, .int .i64 0, .int .i64 0, .int .i64 0, .int .i64 0, .int .i64 0, .int .i64 0, .int .i64 0, .int .i64 0, .int .i64 0, .int .i64 0, .int .i64 0, .int .i64 0, .int .i64 0, .int .i64 0, .int .i64 0, .int .i64 0, .int .i64 0, .int .i64 0, .int .i64 0, .int .i64 0, .int .i64 0, .int .i64 0, .int .i64 0, .int .i64 0, .int .i64 0, .int .i64 0, .int .i64 0, .int .i64 0, .int .i64 0, .int .i64 0, .int .i64 0, .int .i64 0, .int .i64 0, .int .i64 0, .int .i64 0, .int .i64 0, .int .i64 0, .int .i64 0, .int .i64 0, .int .i64 0, .int .i64 0, .int .i64 0, .int .i64 0, .int .i64 0, .int .i64 0, .int .i64 0] : List Value) = arF 64 fun _ => .int .i64 ((0 : Nat) : Int) := rfl
theorem wholeS_no {T : List Nd} (h : ¬ WholeT T) : wholeS T = false := @decide_eq_false _ (Classical.propDecidable _) h
theorem wholeS_yes {T : List Nd} (h : WholeT T) : wholeS T = true := @decide_eq_true _ (Classical.propDecidable _) h
theorem slTo {S : HP} {a : Option Addr} {n c k : Nat} (hk : k ≤ n) (hle : ∀ R h, S.p R h → n ≤ c) : ORead Tryz.prog (sliceS 291 (.slice a n c) none (some (.int .i64 (k : Nat))) none) S (.slice a k c) := fun w R h F s H => by
  obtain ⟨i, hi, _, _, _⟩ := info_parts infoNp
  have hc := hle R h H
  have := slice_ok undSn hi S a n c none (some k) none (Nat.zero_le _) (by simp; omega) (by simp) (fun h => (by cases h)) w R h F s H
  refine Eq.trans this ?_
  have e : (if c = 0 then a else a.map (·.add (0 * szT Tryz.prog 121))) = a := by
    split
    · rfl
    · cases a with
      | none => rfl
      | some y => simp; rfl
  simp only [Option.getD_none, Option.getD_some, Nat.sub_zero, e]
theorem appP {ns : List HN} {a : Option Addr} {c : Nat} {st : List Nat} {k q : Nat} {Q : HP} (hb : st.length ≤ 1000000) : OTri Tryz.prog (appS 291 291 (.slice a st.length c) (.slice (some ⟨q, 0, none⟩) 1 1)) (HP.sep (Stk ns a c st) (HP.sep Q (HP.one q (.cells #[ptrN ns k] 121 (0, 0)))))
    (fun v => HP.ex fun a' => HP.ex fun c' => HP.and (v = .slice a' (st.length + 1) c') (HP.sep (Stk ns a' c' (st ++ [k])) Q)) := by
  obtain ⟨i, hi, h1, h2, h3⟩ := info_parts infoNp
  have := append_ok 291 291 121 i _ undSn hi h1 (by rw [h2]; rfl) (by omega) a st.length c (st.map (ptrN ns)) (HP.sep Q (HP.one q (.cells #[ptrN ns k] 121 (0, 0)))) ⟨q, 0, none⟩ 1 1 [ptrN ns k] (Rd.right (one_rd q #[ptrN ns k] _)) (by rw [h2]; rfl) (fun u hu => by obtain rfl := List.mem_singleton.1 hu; rfl) (by unfold maxLen; omega) (by rw [h3]; omega)
  rw [h2] at this
  refine this.weak (fun _ _ h => h) ?_
  rintro v R h ⟨a', c', rfl, H⟩
  refine ⟨a', c', rfl, HP.sep_mono H (fun x hx => ?_) fun x hx => HP.sep_left hx⟩
  unfold Stk
  rw [List.length_append, List.map_append]
  exact hx
theorem al_ent {l : AL Nm} {c : Nat} {ents : List (Nm × Nat)} (hI : MapI l c) (hk : ∀ k, alFind k l = (lk ents k).map fun n => Value.int .i64 n) {y : Nm × Value × Nat} (hy : y ∈ l) : ∃ k, (y.1, k) ∈ ents ∧ lk ents y.1 = some k ∧ y.2.1 = .int .i64 (k : Nat) := by
  have h := alFind_mem y.1 y.2.1 y.2.2 l hI.1 hy
  rw [hk] at h
  cases hl : lk ents y.1 with
  | none => rw [hl] at h; cases h
  | some k => rw [hl] at h; exact ⟨k, lk_mem hl, rfl, (Option.some.inj h).symm⟩
theorem al_nd {l : AL Int} {c : Nat} {ns : List HN} (hI : MapI l c) (hk : ∀ k, alFind k l = nodeV ns k) {y : Int × Value × Nat} (hy : y ∈ l) : ∃ x, x ∈ ns ∧ (x.p.num : Int) = y.1 ∧ y.2.1 = .pointer (some ⟨x.nb, 0, none⟩) := by
  have h := alFind_mem y.1 y.2.1 y.2.2 l hI.1 hy
  rw [hk] at h
  unfold nodeV at h
  obtain ⟨x, h1, h2⟩ := Option.map_eq_some_iff.1 h
  exact ⟨x, List.mem_of_find?_eq_some h1, by simpa using List.find?_some h1, h2.symm⟩
theorem nodeV_mem {ns : List HN} {x : HN} (hx : x ∈ ns) : (nodeV ns x.p.num).isSome = true := by
  unfold nodeV
  rw [Option.isSome_map, List.find?_isSome]
  exact ⟨x, hx, by simp⟩
/-- The walk between two directories. -/
def OI (t : TS) (sb : Nat) (a : Option Addr) (n c : Nat) (p q : HP) (m : Nat) : Prop := ∃ (D st : List Nat) (f : Nat → Nat), n = st.length ∧ (st.length ≠ 0 → a.isSome = true) ∧ WI t.pub D st f ∧ (∀ k, f k = seenD t.pub D k) ∧ (∀ d ∈ D, ∀ e ∈ entsAt t.pub d, (nodeAt t.pub e.2).isSome = true ∧ e.2 ≠ 0) ∧ HP.ent p (Stk t.ns a c st) ∧ HP.ent q (SeenA sb f) ∧ m + D.length = t.pub.length
/-- .. within one. -/
def II (t : TS) (sb : Nat) (u : Nat) (D : List Nat) (mb it cl : Nat) (l : AL Nm) (a : Option Addr) (n c : Nat) (pi pk pa : HP) (m : Nat) : Prop := ∃ (st : List Nat) (P : List (Nm × Nat)) (S : Array Nat) (f : Nat → Nat), n = st.length ∧ (st.length ≠ 0 → a.isSome = true) ∧ WIn t.pub u D st P f ∧ Rng l S (P.map (·.1)) ∧ HP.ent pi (HP.one it (.mapIter (some mb) cl S cl)) ∧ HP.ent pk (Stk t.ns a c st) ∧ HP.ent pa (SeenA sb f) ∧ m + P.length = l.length
/-- .. behind them. -/
def FI (t : TS) (f : Nat → Nat) (mb it cl : Nat) (l : AL Int) (pi : HP) (m : Nat) : Prop := ∃ (S : Array Nat) (P : List Int), Rng l S P ∧ HP.ent pi (HP.one it (.mapIter (some mb) cl S cl)) ∧ (∀ n ∈ t.pub, (n.num : Int) ∈ P → n.num ≠ 0 → f n.num ≠ 0 ∧ (f n.num : Int) = n.links) ∧ m + P.length = l.length
theorem rng_few {κ : Type} [DecidableEq κ] {l : AL κ} {S : Array Nat} {P : List κ} (h : Rng l S P) : P.length ≤ l.length := by
  have := nodup_sub h.nd h.sub
  simpa using this
set_option maxHeartbeats 4000000 in
theorem whole_ok {b : Nat} {t : TS} (hok : okN (-1) t.pub = true) (hents' : ∀ n ∈ t.pub, n.ents.length ≤ 1000000000) :
    Tri Tryz.prog 161 #[.pointer (some ⟨b, 0, none⟩)] (TRep b t) (fun v => HP.and (v = .bool (wholeS t.pub)) (TRep b t)) := by
  refine Tri.frz fun R0 h0 H0 => ?_
  have hQ : HP.ent (Own R0 h0) (TRep b t) := Own.to H0
  have pp := Prep.of hok
  have fin : ∀ {x : Bool} {A : HP}, HP.ent A (Own R0 h0) → wholeS t.pub = x → HP.ent A (HP.and (Value.bool x = .bool (wholeS t.pub)) (TRep b t)) := fun hA hx => (hA.trans hQ).trans (.of fun R h H => ⟨by rw [hx], H⟩)
  have no : ∀ {A : HP}, HP.ent A (Own R0 h0) → ¬ WholeT t.pub → HP.ent A (HP.and (Value.bool false = .bool (wholeS t.pub)) (TRep b t)) := fun hA hn => fin hA (wholeS_no hn)
  refine tri_of_tree (ρ := [.n b, .p (Own R0 h0)]) mixed Tryz.func161 tree_tWhole ?_
  unfold t_tWhole
  simp only [T.den, E.prop, E.den, RX.look, F1.app, F2.app, Uni.int_i, Uni.nat_n, Uni.bool_c, Uni.str_s, Uni.adr_a, Uni.val_v, Uni.hp_p, hden, cden, V.den, W.den, A.den, BR.den, SA.den, FV.den, capV, exs, exP, allP, Cur.app, List.map_cons, List.map_nil, List.cons_append, List.nil_append, List.drop_succ_cons, List.drop_zero, List.length_cons, List.length_nil, Nat.zero_add, Nat.reduceAdd, Int.neg_neg, Bool.not_not, List.append_nil, Nat.add_zero, List.getElem?_cons_zero, List.getElem?_cons_succ, Decidable.not_not, semW_eq, semW_load, semW_store, semW_storeC, semW_append, semW_lookup, semW_lookupC, semW_update, semW_updateC, semW_updateK, semW_delete, semW_range, semW_next, semW_entry, semW_nil, ne_eq, Nat.reduceEqDiff, not_false_eq_true, semW_ix, semW_slhi']
  have lk0 := (lkNode (b := b) (t := t) 0).ent hQ
  refine ⟨t.mb, ldNodes.ent hQ, ptrN t.ns 0, lk0, _, eqlNilP (p := (hnAt t.ns 0).map fun x => ⟨x.nb, 0, none⟩) (by kernel_rfl) undPn, ?_⟩
  have few : t.pub.length ≤ 64 := by
    have := nodup_sub pp.nd (m := List.range 64) fun x hx => by
      obtain ⟨n, hn, rfl⟩ := List.mem_map.1 hx
      exact List.mem_range.2 (pp.few n hn)
    simpa using this
  obtain ⟨l0, c0, hI0, hk0, hh0⟩ := TRep.nmap H0
  have hm0 : ∀ R h, (Own R0 h0).p R h → h t.mb = some (mapObj i64v l0 c0) := fun R h H => H.2 _ _ hh0
  have lt64 : ∀ {k : Nat}, (nodeAt t.pub k).isSome = true → k < 64 := fun {k} h => by
    obtain ⟨n, hn⟩ := Option.isSome_iff_exists.1 h
    obtain ⟨h1, h2⟩ := nodeAt_mem hn
    rw [← h2]; exact pp.few n h1
  have right : ∀ {A : HP}, HP.ent (HP.sep A (Own R0 h0)) (Own R0 h0) := .of fun R h H => HP.sep_right H
  refine ⟨fun hn => no (HP.ent.refl _) fun w => ?_, fun hn => ?_⟩
  · obtain ⟨n, hn1, _⟩ := w.root
    rw [nodeAt_pub] at hn1
    cases hx0 : hnAt t.ns 0 with
    | none => rw [hx0] at hn1; cases hn1
    | some x => rw [hx0] at hn; cases hn
  obtain ⟨x0, hx0⟩ : ∃ x0, hnAt t.ns 0 = some x0 := by
    cases hx0 : hnAt t.ns 0 with
    | none => rw [hx0] at hn; exact absurd rfl hn
    | some x => exact ⟨x, rfl⟩
  obtain ⟨hx0m, hx0n⟩ := hnAt_mem hx0
  have e0 : ptrN t.ns 0 = .pointer (some ⟨x0.nb, 0, none⟩) := by unfold ptrN; rw [hx0]; rfl
  refine ⟨x0.nb, by rw [e0]; exact nilChk', x0.p.kind, (ldKind hx0m).ent hQ, ⟨fun hk => no (HP.ent.refl _) fun w => ?_, fun hk => ?_⟩⟩
  · obtain ⟨n, hn, hn1⟩ := w.root
    rw [nodeAt_pub, hx0] at hn; cases hn; exact hk hn1
  have hk : x0.p.kind = 1 := by simpa using hk
  have hroot : isDir t.pub 0 := ⟨x0.p, by rw [nodeAt_pub, hx0]; rfl, hk⟩
  intro sb rb
  refine ⟨fun a n c w p q => ∃ m, OI t sb a n c p q m, fun a n c w p q => leastN (OI t sb a n c p q), ⟨t.pub.length, [], [0], fun _ => 0, rfl, fun _ => rfl, WI.init hroot, fun _ => rfl, fun _ h => (by cases h), ?_, ?_, by simp⟩, ?_⟩
  · refine .of fun R h H => ⟨rfl, .inr ⟨rb, #[ptrN t.ns 0], rfl, H, Nat.le_refl _, by unfold maxLen; omega, rfl, rfl⟩⟩
  · refine .of fun R h H => ?_
    unfold SeenA Ar
    rw [← zero64]
    exact H
  intro a n c w p q hOI
  have hO := leastN_spec hOI
  generalize hNe : leastN (OI t sb a n c p q) = N at hO ⊢
  obtain ⟨D, st, f, rfl, hsome, hW, hf, htgt, hp, hq, hm⟩ := hO
  refine ⟨fun hlt => ?_, fun hge => ?_⟩
  · rcases List.eq_nil_or_concat st with rfl | ⟨st, u, rfl⟩
    · simp at hlt
    rw [List.concat_eq_append] at *
    have hlen : (st ++ [u]).length = st.length + 1 := by simp
    rw [hlen] at hsome hNe ⊢
    have e1 : ((st.length + 1 : Nat) : Int) - 1 = (st.length : Nat) := by omega
    rw [e1]
    have hfew := hW.few
    rw [hlen] at hfew
    obtain ⟨⟨nu, hnu, hnk⟩, hru⟩ := hW.dir u (by simp)
    obtain ⟨xu, hxu, hxp, hxm⟩ := hn_of (t := t) (k := u) (by rw [hnu]; rfl)
    rw [hxp] at hnu; cases hnu
    obtain ⟨lu, cu, hIu, hku, hhu⟩ := NRep.emap (TRep.node H0 hxm) hnk
    have hmu : ∀ R h, (Own R0 h0).p R h → h xu.mb = some (mapObj sE lu cu) := fun R h H => H.2 _ _ hhu
    have hents : entsAt t.pub u = xu.p.ents := by unfold entsAt; rw [hxp]
    have emo : xu.mapo = some xu.mb := by unfold HN.mapo; rw [if_pos hnk]
    have epu : ptrN t.ns u = .pointer (some ⟨xu.nb, 0, none⟩) := by unfold ptrN; rw [hxu]; rfl
    have hStk : HP.ent (HP.sep p (Own R0 h0)) (Stk t.ns a c (st ++ [u])) := (HP.ent.sep hp _).trans (.of fun R h H => HP.sep_left H)
    refine ⟨inI64' _ (by omega) (by omega), fun _ => ⟨by omega, fun _ => ⟨by omega, fun _ => ⟨hsome (by omega), fun _ => ?_⟩⟩⟩⟩
    refine ⟨.pointer (some ⟨xu.nb, 0, none⟩), ?_, a, st.length, c, ?_, xu.nb, nilChk', xu.mb, ?_, ?_⟩
    · refine ORead.ent hStk ?_
      refine load1_ok undPn (by kernel_rfl) (by kernel_rfl) (OwC.rd _ _ _ _ _ _) (k := st.length * 1) (off := 0) ?_
      show _ = some (Value.pointer (some ⟨xu.nb, 0, none⟩))
      rw [← epu]; simp
    · refine ORead.ent hStk (slTo (Nat.le_succ _) fun R h H => ?_)
      have := OwC.le H; rw [hlen] at this; exact this
    · rw [← emo]; exact ((ldEnts hxm).ent hQ).ent right
    refine (rangA_ok (Q := HP.sep p (Own R0 h0)) (enc := sE) (l := lu) (c := cu) undEM fun R h ⟨_, _, _, _, l2, _, H⟩ => l2 _ _ (hmu _ _ H)).weak (fun _ _ h => h) ?_
    rintro v R h ⟨it, rfl, H⟩
    refine ⟨it, HP.one it (.mapIter (some xu.mb) cu #[] cu), p, rfl, ?_, H⟩
    clear H
    have hpop := hW.pop
    refine ⟨fun w a n c pi pk pa => ∃ m, II t sb u D xu.mb it cu lu a n c pi pk pa m, fun w a n c pi pk pa => leastN (II t sb u D xu.mb it cu lu a n c pi pk pa), ⟨lu.length, st, [], #[], f, rfl, fun _ => hsome (by omega), ⟨hpop, fun k => by simp [cntE, hf], htgt, List.nodup_nil, fun _ h => (by cases h)⟩, Rng.nil lu, .refl _, hp.trans (.of fun R h H => ?_), hq, rfl⟩, ?_⟩
    · unfold Stk at H ⊢
      rw [List.map_append, hlen] at H
      exact OwC.cut H
    intro w2 a2 n2 c2 pi pk pa hII
    have hI := leastN_spec hII
    generalize hMe : leastN (II t sb u D xu.mb it cu lu a2 n2 c2 pi pk pa) = M at hI ⊢
    obtain ⟨st2, P, S, g, rfl, hsome2, hWI, hR, hpi, hpk, hpa, hM⟩ := hI
    refine OTri.pre3 ((nextA_ok (Q := HP.sep pk (Own R0 h0)) hIu.2 fun R h ⟨_, _, _, _, l2, _, H⟩ => l2 _ _ (hmu _ _ H)).weak (fun _ _ h => h) ?_) (HP.ent.sep hpi _)
    rintro v R h ⟨e, he, H⟩
    rcases e with _ | y
    · refine ⟨false, .tuple #[], .tuple #[], _, he.1, ⟨fun h => (by cases h), fun _ => ?_⟩, H⟩
      clear H
      have hall : ∀ e ∈ entsAt t.pub u, e.1 ∈ P.map (·.1) := fun e hE => hR.done he.2 e.1 (by
        rw [hents] at hE
        obtain ⟨z, hz⟩ := Option.isSome_iff_exists.1 ((lk_keys e.1 xu.p.ents).2 (List.mem_map.2 ⟨e, hE, rfl⟩))
        rw [← alFind_isSome, hku, hz]; rfl)
      obtain ⟨o1, o2⟩ := hWI.out pp hall
      have hnew : OI t sb a2 st2.length c2 pk pa (N - 1) := ⟨u :: D, st2, g, rfl, hsome2, hWI.wi, o1, o2, hpk, hpa, by simp; omega⟩
      refine ⟨⟨_, hnew⟩, ?_⟩
      have := leastN_le hnew
      show leastN (OI t sb a2 st2.length c2 pk pa) < leastN (OI t sb a (st.length + 1) c p q)
      rw [hNe]; omega
    · obtain ⟨rfl, hyl, hyS⟩ := he
      obtain ⟨k, hke, hlk, hyv⟩ := al_ent hIu hku hyl
      obtain ⟨hnot, hR2⟩ := hR.step hIu hyl hyS
      have heu : (y.1, k) ∈ entsAt t.pub u := by rw [hents]; exact hke
      have hent := entry_ok (enc := sE) (it := it) (m := xu.mb) (c := cu) (S := S) (x := y) hIu.2 hyl (A := HP.sep (HP.one it (.mapIter (some xu.mb) cu (nextI S (some y)) cu)) (HP.sep pk (Own R0 h0))) (fun R h H => HP.sep_left H) (fun R h H => by
        obtain ⟨_, _, _, _, l2, _, _, _, _, _, l4, _, b2⟩ := H
        exact l2 _ _ (l4 _ _ (hmu _ _ b2)))
      rw [hyv] at hent
      have lkk := (lkNode (b := b) (t := t) k).ent hQ
      refine ⟨true, sE y.1, y.2.1, _, rfl, ⟨fun _ => ⟨y.1, k, hent, t.mb, ldNodes.ent hQ, ptrN t.ns k, lkk, _, eqlNilP (p := (hnAt t.ns k).map fun x => ⟨x.nb, 0, none⟩) (by kernel_rfl) undPn, ?_⟩, fun h => (by simp at h)⟩, H⟩
      clear H
      have hxu2 : xu.p ∈ t.pub ∧ xu.p.num = u := nodeAt_mem hxp
      refine ⟨fun hn => no (HP.ent.refl _) fun w => ?_, fun hn => ⟨fun hk0 => no (HP.ent.refl _) fun w => (w.tgt _ hxu2.1 _ hke).2 (by omega), fun hk0 => ?_⟩⟩
      · have := (w.tgt _ hxu2.1 _ hke).1
        obtain ⟨z, hz, _⟩ := hn_of this
        rw [hz] at hn; cases hn
      obtain ⟨xk, hxk⟩ : ∃ x, hnAt t.ns k = some x := by
        cases hx : hnAt t.ns k with
        | none => rw [hx] at hn; exact absurd rfl hn
        | some x => exact ⟨x, rfl⟩
      obtain ⟨hxkm, hxkn⟩ := hnAt_mem hxk
      have hnk2 : nodeAt t.pub k = some xk.p := by rw [nodeAt_pub, hxk]; rfl
      have hks : (nodeAt t.pub k).isSome = true := by rw [hnk2]; rfl
      have hxkp : xk.p ∈ t.pub := (nodeAt_mem hnk2).1
      have hk64 := lt64 hks
      have hk00 : k ≠ 0 := by omega
      have epk : ptrN t.ns k = .pointer (some ⟨xk.nb, 0, none⟩) := by unfold ptrN; rw [hxk]; rfl
      have hlt : g k + 1 ≤ refs t.pub k := hWI.lt pp heu hnot
      have hmost := pp.most hents' k
      refine ⟨.pointer (some ⟨sb, k, none⟩), wIx rfl hk64, (g k : Nat), wLd hk64 hpa, inI64' _ (by omega) (by omega), fun _ => ⟨.pointer (some ⟨sb, k, none⟩), wIx rfl hk64, ?_⟩⟩
      refine wSt rfl hk64 hpa fun R h H => ⟨SeenA sb _, rfl, ?_, H⟩
      clear H
      refine ⟨.pointer (some ⟨sb, k, none⟩), wIx rfl hk64, _, wLd hk64 (HP.ent.refl _), xk.nb, by rw [epk]; exact nilChk', xk.p.links, (ldLinks hxkm).ent hQ, ?_⟩
      rw [if_pos rfl]
      refine ⟨fun hgt => no (HP.ent.refl _) fun w => ?_, fun hle => ?_⟩
      · have := (w.cnt xk.p hxkp (by rw [hxkn]; exact hk00)).1
        rw [hxkn] at this
        omega
      refine ⟨xk.nb, by rw [epk]; exact nilChk', xk.p.kind, (ldKind hxkm).ent hQ, ⟨fun hdir q => ?_, fun hfile => ?_⟩⟩
      · have hkd : isDir t.pub k := ⟨xk.p, hnk2, hdir⟩
        have hl1 := (goodS_dir (pp.good _ hxkp) hdir).1
        have hg0 : g k = 0 := by omega
        have hrk : Rch t.pub k := .step hru (pp.step ⟨xu.p, hxp, hnk⟩ heu)
        have hw2 := hWI.wi.push hkd hrk hk00 hg0
        have hfew2 := hw2.few
        refine OTri.pre3 ((appP (ns := t.ns) (k := k) (Q := Own R0 h0) (by simp at hfew2; omega)).weak (fun _ _ h => h) ?_) (HP.ent.sep hpk _)
        rintro v R h ⟨a3, c3, rfl, H⟩
        have hs3 : a3.isSome = true := OwC.some (HP.sep_left H) (by simp)
        refine ⟨a3, _, c3, HP.tt, Stk t.ns a3 c3 (st2 ++ [k]), rfl, ?_, HP.tt_sep H⟩
        clear H
        have hnew : II t sb u D xu.mb it cu lu a3 (st2.length + 1) c3 (HP.one it (.mapIter (some xu.mb) cu (nextI S (some y)) cu)) (Stk t.ns a3 c3 (st2 ++ [k])) (SeenA sb fun q => if q = k then g k + 1 else g q) (M - 1) :=
          ⟨st2 ++ [k], P ++ [(y.1, k)], S.push y.2.2, _, by simp, fun _ => hs3, hWI.snoc (e := (y.1, k)) heu hnot hks hk00 hw2, by rw [List.map_append]; exact hR2, .refl _, .refl _, .refl _, by have := rng_few hR2; simp at this ⊢; omega⟩
        refine ⟨⟨_, hnew⟩, ?_⟩
        have := leastN_le hnew
        have := rng_few hR2
        simp at this
        show leastN (II t sb u D xu.mb it cu lu a3 (st2.length + 1) c3 _ _ _) < leastN (II t sb u D xu.mb it cu lu a2 st2.length c2 pi pk pa)
        rw [hMe]; omega
      · have hkd : ¬ isDir t.pub k := fun ⟨n, h1, h2⟩ => by rw [hnk2] at h1; cases h1; exact hfile h2
        have hw2 := hWI.wi.file hkd
        have hnew : II t sb u D xu.mb it cu lu a2 st2.length c2 (HP.one it (.mapIter (some xu.mb) cu (nextI S (some y)) cu)) pk (SeenA sb fun q => if q = k then g k + 1 else g q) (M - 1) :=
          ⟨st2, P ++ [(y.1, k)], S.push y.2.2, _, rfl, hsome2, hWI.snoc (e := (y.1, k)) heu hnot hks hk00 hw2, by rw [List.map_append]; exact hR2, .refl _, hpk, .refl _, by have := rng_few hR2; simp at this ⊢; omega⟩
        refine ⟨⟨_, hnew⟩, ?_⟩
        have := leastN_le hnew
        have := rng_few hR2
        simp at this
        show leastN (II t sb u D xu.mb it cu lu a2 st2.length c2 _ _ _) < leastN (II t sb u D xu.mb it cu lu a2 st2.length c2 pi pk pa)
        rw [hMe]; omega
  · have hst : st = [] := List.length_eq_zero_iff.1 (by omega)
    subst hst
    have hE : WEnd t.pub D f := ⟨hW, hf, htgt⟩
    refine ⟨t.mb, ldNodes.ent hQ, ?_⟩
    refine (rangA_ok (Q := Own R0 h0) (enc := i64v) (l := l0) (c := c0) undNM hm0).weak (fun _ _ h => h) ?_
    rintro v R h ⟨it, rfl, H⟩
    refine ⟨it, HP.one it (.mapIter (some t.mb) c0 #[] c0), Own R0 h0, rfl, ?_, H⟩
    clear H
    refine ⟨fun w pi => ∃ m, FI t f t.mb it c0 l0 pi m, fun w pi => leastN (FI t f t.mb it c0 l0 pi), ⟨l0.length, #[], [], Rng.nil l0, .refl _, fun _ _ h => (by cases h), rfl⟩, ?_⟩
    intro w2 pi hFI
    have hF := leastN_spec hFI
    generalize hMe : leastN (FI t f t.mb it c0 l0 pi) = M at hF ⊢
    obtain ⟨S, P, hR, hpi, hgood, hM⟩ := hF
    refine OTri.pre3 ((nextA_ok (Q := Own R0 h0) hI0.2 hm0).weak (fun _ _ h => h) ?_) (HP.ent.sep hpi _)
    rintro v R h ⟨e, he, H⟩
    rcases e with _ | y
    · refine ⟨false, .tuple #[], .tuple #[], _, he.1, ⟨fun h => (by cases h), fun _ => fin (HP.ent.refl _) (wholeS_yes (hE.yes pp fun n hn h0 => ?_))⟩, H⟩
      obtain ⟨z, hz, rfl⟩ := List.mem_map.1 (show n ∈ t.ns.map (·.p) from hn)
      refine hgood _ hn (hR.done he.2 _ ?_) h0
      rw [← alFind_isSome, hk0]; exact nodeV_mem hz
    · obtain ⟨rfl, hyl, hyS⟩ := he
      obtain ⟨x, hxm, hxn, hyv⟩ := al_nd hI0 hk0 hyl
      obtain ⟨hnot, hR2⟩ := hR.step hI0 hyl hyS
      have hent := entry_ok (enc := i64v) (it := it) (m := t.mb) (c := c0) (S := S) (x := y) hI0.2 hyl (A := HP.sep (HP.one it (.mapIter (some t.mb) c0 (nextI S (some y)) c0)) (Own R0 h0)) (fun R h H => HP.sep_left H) (fun R h H => by
        obtain ⟨_, _, _, _, l2, _, b2⟩ := H
        exact l2 _ _ (hm0 _ _ b2))
      rw [hyv] at hent
      have hxp : x.p ∈ t.pub := List.mem_map.2 ⟨x, hxm, rfl⟩
      have hk64 := pp.few _ hxp
      refine ⟨true, i64v y.1, y.2.1, _, rfl, ⟨fun _ => ⟨y.1, .pointer (some ⟨x.nb, 0, none⟩), hent, ?_⟩, fun h => (by simp at h)⟩, H⟩
      clear H
      have nxt : (x.p.num ≠ 0 → f x.p.num ≠ 0 ∧ (f x.p.num : Int) = x.p.links) → ∀ {w3 : Bool}, (∃ m, FI t f t.mb it c0 l0 (HP.one it (.mapIter (some t.mb) c0 (nextI S (some y)) c0)) m) ∧ leastN (FI t f t.mb it c0 l0 (HP.one it (.mapIter (some t.mb) c0 (nextI S (some y)) c0))) < M := fun hx w3 => by
        have hlen := rng_few hR2
        simp at hlen
        have hnew : FI t f t.mb it c0 l0 (HP.one it (.mapIter (some t.mb) c0 (nextI S (some y)) c0)) (M - 1) := ⟨_, P ++ [y.1], hR2, .refl _, fun n hn hP h0 => by
          rcases List.mem_append.1 hP with h | h
          · exact hgood n hn h h0
          · have e2 : n.num = x.p.num := by have := List.mem_singleton.1 h; omega
            have e3 : n = x.p := map_inj (fun z : Nd => z.num) pp.nd hn hxp e2
            rw [e3]; rw [e3] at h0; exact hx h0, by simp; omega⟩
        have := leastN_le hnew
        exact ⟨⟨_, hnew⟩, by omega⟩
      rw [← hxn]
      refine ⟨fun hne => ?_, fun he => by have h := nxt (fun h => absurd (show ((x.p.num : Int) = 0) by simpa using he) (by omega)) (w3 := w2); rw [← hMe] at h; exact h⟩
      have hne : x.p.num ≠ 0 := by omega
      refine ⟨.pointer (some ⟨sb, x.p.num, none⟩), wIx rfl hk64, (f x.p.num : Nat), wLd hk64 hq, ⟨fun hz => no (HP.ent.refl _) (hE.no pp hxp hne (.inl (by omega))), fun hz => ?_⟩⟩
      refine ⟨.pointer (some ⟨sb, x.p.num, none⟩), wIx rfl hk64, (f x.p.num : Nat), wLd hk64 hq, x.nb, nilChk', x.p.links, (ldLinks hxm).ent hQ, ⟨fun hz2 => no (HP.ent.refl _) (hE.no pp hxp hne (.inr hz2)), fun hz2 => ?_⟩⟩
      have h := nxt (fun _ => ⟨by omega, by simpa using hz2⟩) (w3 := w2)
      rw [← hMe] at h; exact h
end Go.Proofs.YtdieogcemmnaaaaGreatDoor

/- Trees of functions, printed by rx.lean. No condition. -/
namespace Go.Proofs.YtdieogcemmnaaaaGreatDoor.RX
set_option maxRecDepth 100000
-- tideline/snap.Decode: ρ := [.a ba, .n bl, .n bc, .p bP]
def t_snapDecode : T :=
(.call 84 [(.a (.sl (.v 0) (.v 1) (.v 2)))] [((.a 0), (.prop 3))] [.a, .n, .n, .p, .i, .p] (.tup [(.a (.sl (.v 4) (.v 5) (.v 6))), (.a (.int .i64 (.v 8)))]) [((.a 4), (.prop 7)), ((.a 0), (.prop 9))]
(.br (.o1 .not (.o2 .eq (.v 8) (.i 0)))
 (.ret (.tup [(.a (.int .i64 (.i 0))), (.a .nilp), (.a (.int .i64 (.i 3)))]) [((.a 0), (.prop 9))])
 (.call 85 [(.a (.sl (.v 4) (.v 5) (.v 6)))] [((.a 4), (.prop 7))] [.n, .p, .p] (.w (.a (.ptr (.v 10) 0))) [((.b (.v 10)), (.prop 11)), ((.a 4), (.prop 12))]
 (.call 86 [(.a (.ptr (.v 10) 0))] [((.b (.v 10)), (.prop 11))] [.i, .p] (.w (.a (.int .i64 (.v 13)))) [((.b (.v 10)), (.prop 14))]
 (.call 87 [(.a (.ptr (.v 10) 0)), (.a (.int .i64 (.i 64))), (.a (.func 88 []))] [((.b (.v 10)), (.prop 14))] [.a, .n, .n, .p, .p] (.w (.a (.sl (.v 15) (.v 16) (.v 17)))) [((.a 15), (.prop 18)), ((.b (.v 10)), (.prop 19))]
 (.call 89 [(.a (.ptr (.v 10) 0))] [((.b (.v 10)), (.prop 19))] [.i, .p] (.w (.a (.int .i64 (.v 20)))) [((.b (.v 10)), (.prop 21))]
 (.br (.o1 .not (.o2 .eq (.v 20) (.i 0)))
  (.ret (.tup [(.a (.int .i64 (.i 0))), (.a .nilp), (.a (.int .i64 (.i 3)))]) [((.a 0), (.prop 9))])
  (.br (.o2 .lt (.v 13) (.i 0))
   (.ret (.tup [(.a (.int .i64 (.i 0))), (.a .nilp), (.a (.int .i64 (.i 3)))]) [((.a 0), (.prop 9))])
   (.br (.o2 .lt (.i 4294967296) (.v 13))
    (.ret (.tup [(.a (.int .i64 (.i 0))), (.a .nilp), (.a (.int .i64 (.i 3)))]) [((.a 0), (.prop 9))])
    (.call 90 [(.a (.sl (.v 15) (.v 16) (.v 17)))] [((.a 15), (.prop 18))] [.p] (.tup []) [((.a 15), (.prop 22))]
    (.call 91 [(.a (.sl (.v 15) (.v 16) (.v 17)))] [((.a 15), (.prop 22))] [.v, .p, .i, .p] (.tup [(.a (.val 23)), (.a (.int .i64 (.v 25)))]) [((.a 23), (.prop 24)), ((.a 15), (.prop 26))]
    (.br (.o1 .not (.o2 .eq (.v 25) (.i 0)))
     (.ret (.tup [(.a (.int .i64 (.i 0))), (.a .nilp), (.a (.int .i64 (.i 3)))]) [((.a 0), (.prop 9))])
     (.ret (.tup [(.a (.int .i64 (.v 13))), (.a (.val 23)), (.a (.int .i64 (.i 0)))]) [((.a 0), (.prop 9)), ((.a 23), (.prop 24))])))))))))))))
theorem tree_snapDecode : tree Tryz.prog { absT := [], opq := [25], hv := [], keep := [], link := [], ent := [], turn := [], shr := [], vt := [], mkd := [], rlink := [], pty := [], outl := false, stay := [], snk := [] } Tryz.f29 [(.a (.sl (.v 0) (.v 1) (.v 2)))] [((.a 0), (.prop 3))] 4 = t_snapDecode := by kernel_rfl
-- tideline/tidelinelaw06.speaks: ρ := []
def t_speaks06 : T :=
(.call 17 [] [] [.v, .p] (.w (.a (.val 0))) [((.a 0), (.prop 1))]
(.call 28 [(.a (.int .i64 (.i 5))), (.a (.val 0))] [((.a 0), (.prop 1))] [.a, .n, .n, .p, .p] (.w (.a (.sl (.v 2) (.v 3) (.v 4)))) [((.a 2), (.prop 5)), ((.a 0), (.prop 6))]
(.call 29 [(.a (.sl (.v 2) (.v 3) (.v 4)))] [((.a 2), (.prop 5))] [.i, .v, .p, .i, .p] (.tup [(.a (.int .i64 (.v 7))), (.a (.val 8)), (.a (.int .i64 (.v 10)))]) [((.a 8), (.prop 9)), ((.a 2), (.prop 11))]
(.br (.o2 .eq (.v 7) (.i 5))
 (.br (.o2 .eq (.v 10) (.i 0))
  (.read (.binOp .neq 25 (.tmp 18) (.const (.pointer none)) 25) 4 [(18, (.w (.a (.val 8))))] [((.a 8), (.prop 9))] [.c] (.w (.a (.bool (.v 12))))
  (.br (.v 12)
   (.call 19 [(.a (.val 8))] [((.a 8), (.prop 9))] [.a, .n, .n, .p, .p] (.w (.a (.sl (.v 13) (.v 14) (.v 15)))) [((.a 13), (.prop 16)), ((.a 8), (.prop 17))]
   (.ret (.w (.a (.bool (.o2 .eq (.o1 .ofNat (.v 14)) (.i 1))))) []))
   (.ret (.w (.a (.bool (.c false)))) [])))
  (.ret (.w (.a (.bool (.c false)))) []))
 (.ret (.w (.a (.bool (.c false)))) [])))))
theorem tree_speaks06 : tree Tryz.prog { absT := [], opq := [25], hv := [], keep := [], link := [], ent := [], turn := [], shr := [], vt := [], mkd := [], rlink := [], pty := [], outl := false, stay := [], snk := [] } Tryz.f27 [] [] 0 = t_speaks06 := by kernel_rfl
-- tideline/tidelinelaw06.SnapSame: ρ := [.a aa, .n al, .n ac, .p aP, .a ba, .n bl, .n bc, .p bP, .i upto, .i other]
def t_snapSame : T :=
(.call 27 [] [] [.c] (.w (.a (.bool (.v 10)))) []
(.br (.o1 .not (.v 10))
 (.ret (.w (.a (.bool (.c false)))) [((.a 0), (.prop 3)), ((.a 4), (.prop 7))])
 (.call 16 [(.a (.sl (.v 0) (.v 1) (.v 2)))] [((.a 0), (.prop 3))] [.c] (.w (.a (.bool (.v 11)))) [((.a 0), (.prop 3))]
 (.br (.v 11)
  (.ret (.w (.a (.bool (.c true)))) [((.a 0), (.prop 3)), ((.a 4), (.prop 7))])
  (.call 16 [(.a (.sl (.v 4) (.v 5) (.v 6)))] [((.a 4), (.prop 7))] [.c] (.w (.a (.bool (.v 12)))) [((.a 4), (.prop 7))]
  (.br (.v 12)
   (.ret (.w (.a (.bool (.c true)))) [((.a 0), (.prop 3)), ((.a 4), (.prop 7))])
   (.call 17 [] [] [.n, .p] (.w (.a (.ptr (.v 13) 0))) [((.b (.v 13)), (.prop 14))]
   (.call 17 [] [] [.n, .p] (.w (.a (.ptr (.v 15) 0))) [((.b (.v 15)), (.prop 16))]
   (.loop [.i, .p] [(.e (.o1 .neg (.o1 .neg (.i 0)))), (.p [((.b (.v 13)), (.prop 14))])]
    (.br (.o2 .lt (.v 17) (.o1 .ofNat (.v 1)))
     (.need (.o2 .le (.i 0) (.v 17))
     (.need (.o1 .isSome (.v 0))
     (.read (.load 34 (.tmp 30)) 34 [(30, (.w (.a (.eptr 0 (.v 17) 6 0))))] [((.a 0), (.prop 3))] [.i, .s, .s, .i, .i, .a, .n, .n] (.w (.agg [(.int .i64 (.v 19)), (.str (.v 20)), (.str (.v 21)), (.int .i64 (.v 22)), (.int .i64 (.v 23)), (.sl (.v 24) (.v 25) (.v 26))]))
     (.new
     (.call 18 [(.a (.ptr (.v 13) 0)), (.agg [(.int .i64 (.v 19)), (.str (.v 20)), (.str (.v 21)), (.int .i64 (.v 22)), (.int .i64 (.v 23)), (.sl (.v 24) (.v 25) (.v 26))])] [((.b (.v 13)), (.prop 18)), ((.a 0), (.prop 3))] [.i, .i, .i, .i, .a, .n, .n, .p, .a, .n, .n, .p, .p] (.w (.agg [(.int .i64 (.v 28)), (.int .i64 (.v 29)), (.int .i64 (.v 30)), (.int .i64 (.v 31)), (.sl (.v 32) (.v 33) (.v 34)), (.sl (.v 36) (.v 37) (.v 38))])) [((.a 32), (.prop 35)), ((.a 36), (.prop 39)), ((.b (.v 13)), (.prop 40)), ((.a 0), (.prop 3))]
     (.need (.o1 (.inr .i64) (.o2 .add (.v 17) (.i 1)))
     (.again 0 [(.e (.o1 .neg (.o1 .neg (.o2 .add (.v 17) (.i 1))))), (.p [((.b (.v 13)), (.prop 40))])])))))))
     (.loop [.i, .p] [(.e (.o1 .neg (.o1 .neg (.i 0)))), (.p [((.b (.v 15)), (.prop 16))])]
      (.br (.o2 .lt (.v 19) (.o1 .ofNat (.v 5)))
       (.need (.o2 .le (.i 0) (.v 19))
       (.need (.o1 .isSome (.v 4))
       (.read (.load 34 (.tmp 40)) 34 [(40, (.w (.a (.eptr 4 (.v 19) 6 0))))] [((.a 4), (.prop 7))] [.i, .s, .s, .i, .i, .a, .n, .n] (.w (.agg [(.int .i64 (.v 21)), (.str (.v 22)), (.str (.v 23)), (.int .i64 (.v 24)), (.int .i64 (.v 25)), (.sl (.v 26) (.v 27) (.v 28))]))
       (.new
       (.call 18 [(.a (.ptr (.v 15) 0)), (.agg [(.int .i64 (.v 21)), (.str (.v 22)), (.str (.v 23)), (.int .i64 (.v 24)), (.int .i64 (.v 25)), (.sl (.v 26) (.v 27) (.v 28))])] [((.b (.v 15)), (.prop 20)), ((.a 4), (.prop 7))] [.i, .i, .i, .i, .a, .n, .n, .p, .a, .n, .n, .p, .p] (.w (.agg [(.int .i64 (.v 30)), (.int .i64 (.v 31)), (.int .i64 (.v 32)), (.int .i64 (.v 33)), (.sl (.v 34) (.v 35) (.v 36)), (.sl (.v 38) (.v 39) (.v 40))])) [((.a 34), (.prop 37)), ((.a 38), (.prop 41)), ((.b (.v 15)), (.prop 42)), ((.a 4), (.prop 7))]
       (.need (.o1 (.inr .i64) (.o2 .add (.v 19) (.i 1)))
       (.again 0 [(.e (.o1 .neg (.o1 .neg (.o2 .add (.v 19) (.i 1))))), (.p [((.b (.v 15)), (.prop 42))])])))))))
       (.call 19 [(.a (.ptr (.v 13) 0))] [((.b (.v 13)), (.prop 18))] [.a, .n, .n, .p] (.w (.a (.sl (.v 21) (.v 22) (.v 23)))) [((.a 21), (.prop 24)), ((.b (.v 13)), (.prop 18))]
       (.call 19 [(.a (.ptr (.v 15) 0))] [((.b (.v 15)), (.prop 20))] [.a, .n, .n, .p] (.w (.a (.sl (.v 25) (.v 26) (.v 27)))) [((.a 25), (.prop 28)), ((.b (.v 15)), (.prop 20))]
       (.call 20 [(.a (.sl (.v 21) (.v 22) (.v 23))), (.a (.sl (.v 25) (.v 26) (.v 27)))] [((.a 21), (.prop 24)), ((.a 25), (.prop 28))] [.c] (.w (.a (.bool (.v 29)))) [((.a 21), (.prop 24)), ((.a 25), (.prop 28))]
       (.call 28 [(.a (.int .i64 (.v 8))), (.a (.ptr (.v 13) 0))] [((.b (.v 13)), (.prop 18))] [.a, .n, .n, .p] (.w (.a (.sl (.v 30) (.v 31) (.v 32)))) [((.a 30), (.prop 33)), ((.b (.v 13)), (.prop 18))]
       (.call 28 [(.a (.int .i64 (.v 8))), (.a (.ptr (.v 15) 0))] [((.b (.v 15)), (.prop 20))] [.a, .n, .n, .p] (.w (.a (.sl (.v 34) (.v 35) (.v 36)))) [((.a 34), (.prop 37)), ((.b (.v 15)), (.prop 20))]
       (.call 30 [(.a (.sl (.v 30) (.v 31) (.v 32))), (.a (.sl (.v 34) (.v 35) (.v 36)))] [((.a 30), (.prop 33)), ((.a 34), (.prop 37))] [.c] (.w (.a (.bool (.v 38)))) [((.a 30), (.prop 33)), ((.a 34), (.prop 37))]
       (.br (.o2 .beq (.v 38) (.v 29))
        (.call 28 [(.a (.int .i64 (.v 8))), (.a (.ptr (.v 13) 0))] [((.b (.v 13)), (.prop 18))] [.a, .n, .n, .p] (.w (.a (.sl (.v 39) (.v 40) (.v 41)))) [((.a 39), (.prop 42)), ((.b (.v 13)), (.prop 18))]
        (.call 28 [(.a (.int .i64 (.v 9))), (.a (.ptr (.v 13) 0))] [((.b (.v 13)), (.prop 18))] [.a, .n, .n, .p] (.w (.a (.sl (.v 43) (.v 44) (.v 45)))) [((.a 43), (.prop 46)), ((.b (.v 13)), (.prop 18))]
        (.call 30 [(.a (.sl (.v 39) (.v 40) (.v 41))), (.a (.sl (.v 43) (.v 44) (.v 45)))] [((.a 39), (.prop 42)), ((.a 43), (.prop 46))] [.c] (.w (.a (.bool (.v 47)))) [((.a 39), (.prop 42)), ((.a 43), (.prop 46))]
        (.ret (.w (.a (.bool (.o2 .beq (.v 47) (.o2 .eq (.v 8) (.v 9)))))) [((.a 0), (.prop 3)), ((.a 4), (.prop 7))]))))
        (.ret (.w (.a (.bool (.c false)))) [((.a 0), (.prop 3)), ((.a 4), (.prop 7))]))))))))))))))))))))
theorem tree_snapSame : tree Tryz.prog { absT := [], opq := [], hv := [(0, [(.b (.v 13))]), (2, [(.b (.v 15))])], keep := [19, 20, 30, 16, 28], link := [], ent := [], turn := [(18, [0])], shr := [], vt := [], mkd := [], rlink := [], pty := [], outl := false, stay := [], snk := [], rdf := true } Tryz.f9 [(.a (.sl (.v 0) (.v 1) (.v 2))), (.a (.sl (.v 4) (.v 5) (.v 6))), (.a (.int .i64 (.v 8))), (.a (.int .i64 (.v 9)))] [((.a 0), (.prop 3)), ((.a 4), (.prop 7))] 10 = t_snapSame := by kernel_rfl
-- tideline/tidelinelaw06.SnapTurned: ρ := [.i upto, .a callsa, .n callsl, .n callsc, .p callsP, .i at, .i turn]
def t_snapTurned : T :=
(.call 27 [] [] [.c] (.w (.a (.bool (.v 7)))) []
(.br (.o1 .not (.v 7))
 (.ret (.w (.a (.bool (.c false)))) [((.a 1), (.prop 4))])
 (.call 16 [(.a (.sl (.v 1) (.v 2) (.v 3)))] [((.a 1), (.prop 4))] [.c] (.w (.a (.bool (.v 8)))) [((.a 1), (.prop 4))]
 (.br (.v 8)
  (.ret (.w (.a (.bool (.c true)))) [((.a 1), (.prop 4))])
  (.br (.o2 .lt (.v 0) (.i 0))
   (.ret (.w (.a (.bool (.c true)))) [((.a 1), (.prop 4))])
   (.br (.o2 .lt (.i 4294967296) (.v 0))
    (.ret (.w (.a (.bool (.c true)))) [((.a 1), (.prop 4))])
    (.br (.o2 .eq (.v 6) (.i 0))
     (.ret (.w (.a (.bool (.c true)))) [((.a 1), (.prop 4))])
     (.call 17 [] [] [.v, .p] (.w (.a (.val 9))) [((.a 9), (.prop 10))]
     (.loop [.i, .p] [(.e (.o1 .neg (.o1 .neg (.i 0)))), (.p [((.a 9), (.prop 10))])]
      (.br (.o2 .lt (.v 11) (.o1 .ofNat (.v 2)))
       (.need (.o2 .le (.i 0) (.v 11))
       (.need (.o1 .isSome (.v 1))
       (.read (.load 34 (.tmp 37)) 34 [(37, (.w (.a (.eptr 1 (.v 11) 6 0))))] [((.a 1), (.prop 4))] [.i, .s, .s, .i, .i, .a, .n, .n] (.w (.agg [(.int .i64 (.v 13)), (.str (.v 14)), (.str (.v 15)), (.int .i64 (.v 16)), (.int .i64 (.v 17)), (.sl (.v 18) (.v 19) (.v 20))]))
       (.new
       (.call 18 [(.a (.val 9)), (.agg [(.int .i64 (.v 13)), (.str (.v 14)), (.str (.v 15)), (.int .i64 (.v 16)), (.int .i64 (.v 17)), (.sl (.v 18) (.v 19) (.v 20))])] [((.a 9), (.prop 12)), ((.a 1), (.prop 4))] [.i, .i, .i, .i, .a, .n, .n, .p, .a, .n, .n, .p, .p] (.w (.agg [(.int .i64 (.v 22)), (.int .i64 (.v 23)), (.int .i64 (.v 24)), (.int .i64 (.v 25)), (.sl (.v 26) (.v 27) (.v 28)), (.sl (.v 30) (.v 31) (.v 32))])) [((.a 26), (.prop 29)), ((.a 30), (.prop 33)), ((.a 9), (.prop 34)), ((.a 1), (.prop 4))]
       (.need (.o1 (.inr .i64) (.o2 .add (.v 11) (.i 1)))
       (.again 0 [(.e (.o1 .neg (.o1 .neg (.o2 .add (.v 11) (.i 1))))), (.p [((.a 9), (.prop 34))])])))))))
       (.call 28 [(.a (.int .i64 (.v 0))), (.a (.val 9))] [((.a 9), (.prop 12))] [.a, .n, .n, .p] (.w (.a (.sl (.v 13) (.v 14) (.v 15)))) [((.a 13), (.prop 16)), ((.a 9), (.prop 12))]
       (.br (.o2 .eq (.o1 .ofNat (.v 14)) (.i 0))
        (.ret (.w (.a (.bool (.c false)))) [((.a 1), (.prop 4))])
        (.need (.o2 .le (.i 0) (.o2 .rem (.o2 (.bit .and .i64) (.v 5) (.i 65535)) (.o1 .ofNat (.v 14))))
        (.need (.o2 .lt (.o2 .rem (.o2 (.bit .and .i64) (.v 5) (.i 65535)) (.o1 .ofNat (.v 14))) (.o1 .ofNat (.v 14)))
        (.need (.o1 .isSome (.v 13))
        (.read (.load 5 (.tmp 55)) 5 [(55, (.w (.a (.eptr 13 (.o2 .rem (.o2 (.bit .and .i64) (.v 5) (.i 65535)) (.o1 .ofNat (.v 14))) 1 0))))] [((.a 13), (.prop 16))] [.i] (.w (.a (.int .u8 (.v 17))))
        (.op (.store 5 (.tmp 59) (.tmp 58)) 0 [(59, (.w (.a (.eptr 13 (.o2 .rem (.o2 (.bit .and .i64) (.v 5) (.i 65535)) (.o1 .ofNat (.v 14))) 1 0)))), (58, (.w (.a (.int .u8 (.o2 (.bit .xor .u8) (.v 17) (.v 6))))))] [((.a 13), (.prop 16))] [.p] (.tup []) [((.a 13), (.prop 18))]
        (.call 29 [(.a (.sl (.v 13) (.v 14) (.v 15)))] [((.a 13), (.prop 18))] [.i, .v, .p, .i, .p] (.tup [(.a (.int .i64 (.v 19))), (.a (.val 20)), (.a (.int .i64 (.v 22)))]) [((.a 20), (.prop 21)), ((.a 13), (.prop 23))]
        (.br (.o2 .eq (.v 22) (.i 3))
         (.read (.binOp .eql 25 (.tmp 69) (.const (.pointer none)) 25) 4 [(69, (.w (.a (.val 20))))] [((.a 20), (.prop 21))] [.c] (.w (.a (.bool (.v 24))))
         (.br (.v 24)
          (.ret (.w (.a (.bool (.o2 .eq (.v 19) (.i 0))))) [((.a 1), (.prop 4))])
          (.ret (.w (.a (.bool (.c false)))) [((.a 1), (.prop 4))])))
         (.ret (.w (.a (.bool (.c false)))) [((.a 1), (.prop 4))]))))))))))))))))))))
theorem tree_snapTurned : tree Tryz.prog { absT := [], opq := [25], hv := [(0, [(.a 9)])], keep := [19, 20, 30, 16, 28], link := [], ent := [], turn := [(18, [0])], shr := [], vt := [], mkd := [], rlink := [], pty := [], outl := false, stay := [], snk := [], rdf := true } Tryz.f8 [(.a (.int .i64 (.v 0))), (.a (.sl (.v 1) (.v 2) (.v 3))), (.a (.int .i64 (.v 5))), (.a (.int .u8 (.v 6)))] [((.a 1), (.prop 4))] 7 = t_snapTurned := by kernel_rfl
end Go.Proofs.YtdieogcemmnaaaaGreatDoor.RX

/- snap.Decode, told by what tree.whole answers. No condition. -/
namespace Go.Proofs.YtdieogcemmnaaaaGreatDoor
set_option linter.unusedSimpArgs false
set_option linter.unusedVariables false
open Go.Proofs.YtdieogcemmnaaaaGreatDoor RX
set_option maxRecDepth 100000

theorem loopR_len {α : Type} (f : RS → α × RS) : ∀ (n : Nat) (s : RS), (loopR f n s).1.length ≤ n
  | 0, _ => Nat.le_refl _
  | n + 1, s => by
    unfold loopR
    split
    · simp
    · simpa using loopR_len f n _
theorem loopR_len2 {α : Type} {f : RS → α × RS} (hf : Shrinks f) : ∀ (n : Nat) (s : RS), (loopR f n s).1.length ≤ s.1.length + 1
  | 0, _ => by simp [loopR]
  | n + 1, s => by
    unfold loopR
    split
    · simp
    · simp only [List.length_cons]
      cases hw : (f s).2.2 with
      | true => rw [loopR_end f (.inr hw)]; simp
      | false =>
        have h1 := hf s hw
        have h2 := loopR_len2 hf n (f s).2
        omega
theorem loopR_all {α : Type} {f : RS → α × RS} (hf : ∀ s, (f s).2.1.length ≤ s.1.length) : ∀ (n : Nat) (s : RS), ∀ x ∈ (loopR f n s).1, ∃ s', s'.1.length ≤ s.1.length ∧ x = (f s').1
  | 0, _, _, h => by cases h
  | n + 1, s, x, h => by
    unfold loopR at h
    split at h
    · cases h
    · rcases List.mem_cons.1 h with rfl | h
      · exact ⟨s, Nat.le_refl _, rfl⟩
      · obtain ⟨s', h1, h2⟩ := loopR_all hf n _ x h
        exact ⟨s', Nat.le_trans h1 (hf s), h2⟩
theorem listR_fst {α : Type} (f : RS → α × RS) (m : Int) (s : RS) : (listR f m s).1 = [] ∨ (listR f m s).1 = (loopR f (toldR s m).1 (toldR s m).2).1 := by
  unfold listR; split
  · exact .inl rfl
  · exact .inr rfl
theorem toldR_most (s : RS) {m : Int} (h : 0 ≤ m) : ((toldR s m).1 : Int) ≤ m := by
  unfold toldR
  split
  · simpa using h
  · split
    · simpa using h
    · show ((numR s 4).1 : Int) ≤ m; omega
theorem nodeR_le (s : RS) : (nodeR s).2.1.length ≤ s.1.length :=
  Nat.le_trans (listR_le (f := entR) entR_le _ _) (Nat.le_trans (bytesR_le _ _) (Nat.le_trans (numR_le _ _) (Nat.le_trans (numR_le _ _) (numR_le _ _))))
theorem nodes_few (s : RS) : (listR nodeR 64 s).1.length ≤ 64 := by
  rcases listR_fst nodeR 64 s with e | e
  · rw [e]; simp
  · rw [e]
    have := loopR_len nodeR (toldR s 64).1 (toldR s 64).2
    have := toldR_most s (m := 64) (by omega)
    omega
theorem ents_few (s : RS) : ∀ x ∈ (listR nodeR 64 s).1, x.ents.length ≤ s.1.length + 1 := fun x hx => by
  rcases listR_fst nodeR 64 s with e | e
  · rw [e] at hx; cases hx
  · rw [e] at hx
    obtain ⟨s', h1, rfl⟩ := loopR_all nodeR_le _ _ x hx
    have h0 := toldR_len s 64
    have key : ∀ q : RS, q.1.length ≤ s'.1.length → (listR entR 9223372036854775807 q).1.length ≤ s'.1.length + 1 := fun q hq => by
      rcases listR_fst entR 9223372036854775807 q with e2 | e2
      · rw [e2]; simp
      · rw [e2]
        have := loopR_len2 entR_shrinks (toldR q 9223372036854775807).1 (toldR q 9223372036854775807).2
        have := toldR_len q 9223372036854775807
        omega
    have := key (bytesR (numR (numR (numR s' 1).2 1).2 2).2 512).2 (Nat.le_trans (bytesR_le _ _) (Nat.le_trans (numR_le _ _) (Nat.le_trans (numR_le _ _) (numR_le _ _))))
    show (listR entR 9223372036854775807 (bytesR (numR (numR (numR s' 1).2 1).2 2).2 512).2).1.length ≤ _
    omega
/-- What is told by bytes. -/
def decS (wv : List Nd → Bool) (l : List UInt8) : Option (Int × List Nd) := match unwrapS l with
  | none => none
  | some q =>
    let u := intOf64 (numR (q, false) 8).1
    let r := listR nodeR 64 (numR (q, false) 8).2
    if r.2.2 = true ∨ r.2.1 ≠ [] ∨ u < 0 ∨ 4294967296 < u then none else if loadOk wv (wlS r.1) = true then some (u, wlS r.1) else none
def DcPost (wv : List Nd → Bool) (l : List UInt8) (S : HP) (v : Value) : HP := match decS wv l with
  | none => HP.and (v = .tuple #[.int .i64 0, .pointer none, .int .i64 3]) S
  | some (u, T1) => HP.ex fun b : Nat => HP.ex fun t : TS => HP.and (v = .tuple #[.int .i64 u, .pointer (some ⟨b, 0, none⟩), .int .i64 0] ∧ t.pub = T1) (HP.sep S (TRep b t))
theorem decode_ok (wv : List Nd → Bool) (hw : ∀ b t, okN (-1) t.pub = true → (∀ n ∈ t.pub, n.ents.length ≤ 1000000000) → Tri Tryz.prog 161 #[.pointer (some ⟨b, 0, none⟩)] (TRep b t) (fun v => HP.and (v = .bool (wv t.pub)) (TRep b t)))
    (a : Option Addr) (n c : Nat) (l : List UInt8) (S : HP) (hr : RdL S a n (l.map u8v)) (hl : l.length = n) (hc : n ≤ c) (ha : n ≠ 0 → a.isSome = true) (hb : n ≤ 1000000) :
    Tri Tryz.prog 29 #[.slice a n c] S (DcPost wv l S) := by
  refine tri_of_tree (ρ := [.a a, .n n, .n c, .p S]) mixed Tryz.func29 tree_snapDecode ?_
  unfold t_snapDecode
  simp only [T.den, E.prop, E.den, RX.look, F1.app, F2.app, Uni.int_i, Uni.nat_n, Uni.bool_c, Uni.str_s, Uni.adr_a, Uni.val_v, Uni.hp_p, hden, cden, V.den, W.den, A.den, BR.den, SA.den, FV.den, capV, exs, exP, allP, Cur.app, List.map_cons, List.map_nil, List.cons_append, List.nil_append, List.drop_succ_cons, List.drop_zero, List.length_cons, List.length_nil, Nat.zero_add, Nat.reduceAdd, Int.neg_neg, Bool.not_not, List.append_nil, Nat.add_zero, List.getElem?_cons_zero, List.getElem?_cons_succ, Decidable.not_not, semW_eq, semW_load, semW_store, semW_storeC, semW_append, semW_lookup, semW_lookupC, semW_update, semW_updateC, semW_updateK, semW_delete, semW_range, semW_next, semW_entry, semW_nil, ne_eq, Nat.reduceEqDiff, not_false_eq_true]
  refine (unwrap_ok a n c l S hr hl hc ha (by omega)).weak (fun _ _ h => h) ?_
  rintro v R h ⟨a', c', rfl, H⟩
  refine ⟨a', _, c', OwB a' _ c' _, _, S, rfl, ?_, HP.sep_comm H⟩
  cases hu : unwrapS l with
  | none =>
    refine ⟨fun _ => .of fun R h H => ?_, fun h => (by simp at h)⟩
    have : decS wv l = none := by unfold decS; rw [hu]
    unfold DcPost; rw [this]; exact ⟨rfl, H⟩
  | some q =>
    refine ⟨fun h => absurd rfl h, fun _ => ?_⟩
    simp only [Option.getD_some]
    have hq : q.length ≤ 1000000 := by
      unfold unwrapS at hu
      split at hu
      · cases hu
      · split at hu
        · cases hu; rw [List.length_take]; omega
        · cases hu
    refine (rRead_ok a' _ c' q _ (RdL.ow _ _ _ _ _ _) rfl (by omega)).weak (fun _ _ h => h) ?_
    rintro v R h ⟨b, rfl, H⟩
    refine ⟨b, _, _, rfl, ?_, HP.sep_comm H⟩
    refine (rInt_ok b (q, false)).weak (fun _ _ h => h) ?_
    rintro v R h ⟨rfl, H⟩
    refine ⟨_, _, rfl, ?_, H⟩
    have hL : (numR (q, false) 8).2.1.length ≤ 1000000 := Nat.le_trans (numR_le _ _) hq
    refine (listNodes_ok b _ 64 (by omega)).weak (fun _ _ h => h) ?_
    rintro v R h ⟨ea, ec, es, ⟨rfl, hes⟩, H⟩
    refine ⟨ea, _, ec, _, _, rfl, ?_, H⟩
    refine (rEnd_ok b _).weak (fun _ _ h => h) ?_
    rintro v R h ⟨rfl, H⟩
    have hd : decS wv l = if (listR nodeR 64 (numR (q, false) 8).2).2.2 = true ∨ (listR nodeR 64 (numR (q, false) 8).2).2.1 ≠ [] ∨ intOf64 (numR (q, false) 8).1 < 0 ∨ 4294967296 < intOf64 (numR (q, false) 8).1 then none
        else if loadOk wv (wlS (listR nodeR 64 (numR (q, false) 8).2).1) = true then some (intOf64 (numR (q, false) 8).1, wlS (listR nodeR 64 (numR (q, false) 8).2).1) else none := by unfold decS; rw [hu]
    have bad : decS wv l = none → ∀ {A : HP}, HP.ent A S → HP.ent A (DcPost wv l S (.tuple #[.int .i64 0, .pointer none, .int .i64 3])) := fun h A hA => by
      unfold DcPost; rw [h]; exact hA.trans (.of fun R h H => ⟨rfl, H⟩)
    refine ⟨_, _, rfl, ⟨fun h1 => bad ?_ (HP.ent.refl _), fun h1 => ⟨fun h2 => bad ?_ (HP.ent.refl _), fun h2 => ⟨fun h3 => bad ?_ (HP.ent.refl _), fun h3 => ?_⟩⟩⟩, H⟩
    · rw [hd, if_pos]
      by_cases e : (listR nodeR 64 (numR (q, false) 8).2).2.2 = true ∨ (listR nodeR 64 (numR (q, false) 8).2).2.1 ≠ []
      · exact e.elim .inl fun e => .inr (.inl e)
      · exact absurd (if_neg e) h1
    · rw [hd, if_pos (.inr (.inr (.inl h2)))]
    · rw [hd, if_pos (.inr (.inr (.inr h3)))]
    · have h1' : ¬ ((listR nodeR 64 (numR (q, false) 8).2).2.2 = true ∨ (listR nodeR 64 (numR (q, false) 8).2).2.1 ≠ []) := fun e => by rw [if_pos e] at h1; cases h1
      rw [if_neg (fun e => e.elim (fun e => h1' (.inl e)) fun e => e.elim (fun e => h1' (.inr e)) fun e => e.elim h2 h3)] at hd
      have hfew : es.length ≤ 64 := by
        have := nodes_few (numR (q, false) 8).2
        rw [← hes] at this; simpa using this
      have hents : ∀ x ∈ es, x.nd.ents.length ≤ 1000001 := fun x hx => by
        have := ents_few (numR (q, false) 8).2 x.nd (by rw [← hes]; exact List.mem_map.2 ⟨x, hx, rfl⟩)
        omega
      have hT : ((es.map (·.nd)).flatMap (·.ents)).length ≤ 1000000000000 := by
        have := flat_len_le (fun n : Nd => n.ents) 1000001 (es.map (·.nd)) fun n hn => by
          obtain ⟨x, hx, rfl⟩ := List.mem_map.1 hn; exact hents x hx
        rw [List.length_map] at this
        have h2 : es.length * 1000001 ≤ 64 * 1000001 := Nat.mul_le_mul_right _ hfew
        omega
      refine (wholeLinks_ok ea ec es hT (by omega)).weak (fun _ _ h => h) ?_
      rintro v R h ⟨rfl, es', ⟨hm, hl'⟩, H⟩
      refine ⟨_, rfl, ?_, H⟩
      have hents' : ∀ x ∈ es', x.nd.ents.length ≤ 1000000000 := fun x hx => by
        have h1 : x.nd ∈ wlS (es.map (·.nd)) := by rw [← hm]; exact List.mem_map.2 ⟨x, hx, rfl⟩
        obtain ⟨n, hn, he⟩ := List.mem_map.1 h1
        obtain ⟨y, hy, rfl⟩ := List.mem_map.1 hn
        have := hents y hy
        have e2 : x.nd.ents = y.nd.ents := by rw [← he]; unfold wl1; split <;> rfl
        rw [e2]; omega
      rw [← hl']
      refine (load_ok wv hw ea ec es' (by omega) hents').weak (fun _ _ h => h) ?_
      rintro v R h ⟨b2, t2, ⟨hv, hp⟩, H⟩
      rw [hm, hes] at hv hp H
      by_cases hlo : loadOk wv (wlS (listR nodeR 64 (numR (q, false) 8).2).1) = true
      · rw [if_pos hlo] at hv H hd
        refine ⟨.pointer (some ⟨b2, 0, none⟩), TRep b2 t2, 0, _, hv, ⟨fun h => absurd rfl h, fun _ => .of fun R h H => ?_⟩, HP.sep_comm H⟩
        unfold DcPost; rw [hd]
        exact ⟨b2, t2, ⟨rfl, hp hlo⟩, H⟩
      · rw [if_neg hlo] at hv H hd
        refine ⟨.pointer none, HP.tt, 3, _, hv, ⟨fun _ => bad hd (HP.ent.refl _), fun h => (by simp at h)⟩, HP.sep_comm H⟩
end Go.Proofs.YtdieogcemmnaaaaGreatDoor

/- A sum tells any one changed byte. No condition. -/
namespace Go.Proofs.YtdieogcemmnaaaaGreatDoor
open Go.Proofs.YtdieogcemmnaaaaGreatDoor RX
set_option maxRecDepth 100000

theorem xor_inj {a b c : Nat} (h : a ^^^ c = b ^^^ c) : a = b := by
  have := congrArg (· ^^^ c) h
  simpa [Nat.xor_assoc] using this
theorem fours_top : ∀ i < 16, ∀ j < 16, (fours[i]?.getD 0) / 268435456 = (fours[j]?.getD 0) / 268435456 → i = j := by decide
theorem nib_inj {s t : Nat} (hs : s < 4294967296) (ht : t < 4294967296) (h : nib s = nib t) : s = t := by
  have top : ∀ {s : Nat}, s < 4294967296 → nib s / 268435456 = (fours[s % 16]?.getD 0) / 268435456 := fun {s} hs => by
    unfold nib
    have e : (268435456 : Nat) = 2 ^ 28 := by decide
    rw [e, ← Nat.shiftRight_eq_div_pow, Nat.shiftRight_xor_distrib, Nat.shiftRight_eq_div_pow, Nat.shiftRight_eq_div_pow, Nat.div_eq_of_lt (by omega), Nat.zero_xor]
  have h1 := top hs
  rw [h, top ht] at h1
  have h2 := fours_top _ (Nat.mod_lt s (by decide)) _ (Nat.mod_lt t (by decide)) h1.symm
  unfold nib at h
  rw [h2] at h
  have := xor_inj h
  omega
theorem crcB_inj_s {s t : Nat} (hs : s < 4294967296) (ht : t < 4294967296) (b : UInt8) (h : crcB s b = crcB t b) : s = t := by
  have hb := b.toNat_lt
  unfold crcB at h
  have h1 := nib_inj (nib_lt (xor32 hs (by omega))) (nib_lt (xor32 ht (by omega))) h
  exact xor_inj (nib_inj (xor32 hs (by omega)) (xor32 ht (by omega)) h1)
theorem crcB_inj_b {s : Nat} (hs : s < 4294967296) {b c : UInt8} (h : crcB s b = crcB s c) : b = c := by
  have hb := b.toNat_lt
  have hc := c.toNat_lt
  unfold crcB at h
  have h1 := nib_inj (nib_lt (xor32 hs (by omega))) (nib_lt (xor32 hs (by omega))) h
  have h2 := nib_inj (xor32 hs (by omega)) (xor32 hs (by omega)) h1
  rw [Nat.xor_comm, Nat.xor_comm s] at h2
  exact UInt8.toNat_inj.1 (xor_inj h2)
theorem crcS_inj {s t : Nat} (hs : s < 4294967296) (ht : t < 4294967296) : ∀ (l : List UInt8), crcS s l = crcS t l → s = t := fun l => by
  induction l generalizing s t with
  | nil => exact id
  | cons b l ih => exact fun h => crcB_inj_s hs ht b (ih (crcB_lt hs b) (crcB_lt ht b) h)
theorem sumS_turn (p r : List UInt8) {b c : UInt8} (h : sumS (p ++ b :: r) = sumS (p ++ c :: r)) : b = c := by
  unfold sumS moreS at h
  rw [Nat.xor_comm, Nat.xor_comm 4294967295 (crcS _ (p ++ c :: r))] at h
  have h1 := xor_inj h
  have e : ∀ x : UInt8, crcS (4294967295 ^^^ 0) (p ++ x :: r) = crcS (crcB (crcS (4294967295 ^^^ 0) p) x) r := fun x => by simp [crcS]
  rw [e, e] at h1
  have h0 : crcS (4294967295 ^^^ 0) p < 4294967296 := crcS_lt (by decide) p
  exact crcB_inj_b h0 (crcS_inj (crcB_lt h0 b) (crcB_lt h0 c) r h1)
theorem beN_snoc (v n : Nat) : beN v (n + 1) = beN (v / 256) n ++ [UInt8.ofNat v] := by
  unfold beN
  rw [List.range_succ, List.map_append]
  congr 1
  · refine List.map_congr_left fun j hj => ?_
    have hj := List.mem_range.1 hj
    unfold byteAt
    have e : 2 ^ (8 * (n + 1 - 1 - j)) = 256 * 2 ^ (8 * (n - 1 - j)) := by
      rw [show 8 * (n + 1 - 1 - j) = 8 * (n - 1 - j) + 8 by omega, Nat.pow_add]; omega
    rw [e, Nat.div_div_eq_div_mul]
  · simp [byteAt]
theorem beV_beN : ∀ (n v : Nat), v < 256 ^ n → beV (beN v n) = v
  | 0, v, h => by simp at h; subst h; rfl
  | n + 1, v, h => by
    rw [beN_snoc, beV_snoc, beV_beN n (v / 256) (by rw [Nat.pow_succ] at h; omega), UInt8.toNat_ofNat']
    omega
theorem beV_inj : ∀ (n : Nat) (l m : List UInt8), l.length = n → m.length = n → beV l = beV m → l = m
  | 0, l, m, h1, h2, _ => by rw [List.eq_nil_of_length_eq_zero h1, List.eq_nil_of_length_eq_zero h2]
  | n + 1, l, m, h1, h2, h => by
    have hl : l ≠ [] := fun e => by rw [e] at h1; cases h1
    have hm : m ≠ [] := fun e => by rw [e] at h2; cases h2
    rw [← List.dropLast_concat_getLast hl, ← List.dropLast_concat_getLast hm] at h ⊢
    rw [beV_snoc, beV_snoc] at h
    have a := (l.getLast hl).toNat_lt
    have b := (m.getLast hm).toNat_lt
    have e1 := beV_inj n l.dropLast m.dropLast (by rw [List.length_dropLast]; omega) (by rw [List.length_dropLast]; omega) (by omega)
    have e2 : l.getLast hl = m.getLast hm := UInt8.toNat_inj.1 (by omega)
    rw [e1, e2]
theorem unwrap_wrap (l : List UInt8) : unwrapS (wrapS l) = some l := by
  have h4 : (256 : Nat) ^ 4 = 4294967296 := by decide
  unfold unwrapS
  rw [wrapS_len, if_neg (by omega), Nat.add_sub_cancel]
  unfold wrapS
  rw [List.drop_left, List.take_left, beV_beN 4 _ (by have := sumS_lt l; omega), if_pos rfl]
theorem unwrap_turned (l : List UInt8) (i : Nat) (hi : i < (wrapS l).length) (b : UInt8) (hb : (wrapS l)[i]? ≠ some b) : unwrapS ((wrapS l).set i b) = none := by
  have h4 : (256 : Nat) ^ 4 = 4294967296 := by decide
  have hs := beV_beN 4 (sumS l) (by have := sumS_lt l; omega)
  unfold unwrapS
  rw [List.length_set, wrapS_len, if_neg (by omega), Nat.add_sub_cancel]
  refine if_neg fun h => hb ?_
  by_cases hl : i < l.length
  · have e1 : ((wrapS l).set i b).drop l.length = beN (sumS l) 4 := by
      rw [List.drop_set_of_lt hl]; unfold wrapS; exact List.drop_left
    have e2 : ((wrapS l).set i b).take l.length = l.set i b := by
      unfold wrapS; rw [List.take_set, List.take_left]
    rw [e1, e2, hs] at h
    have e3 : l = l.take i ++ l[i] :: l.drop (i + 1) := by simp
    have e4 : l.set i b = l.take i ++ b :: l.drop (i + 1) := by rw [List.set_eq_take_append_cons_drop, if_pos hl]
    rw [e4] at h
    have h' : sumS (l.take i ++ l[i] :: l.drop (i + 1)) = sumS (l.take i ++ b :: l.drop (i + 1)) := by rw [← e3]; exact h
    rw [← sumS_turn _ _ h']
    unfold wrapS
    rw [List.getElem?_append_left hl, List.getElem?_eq_getElem hl]
  · have e2 : ((wrapS l).set i b).take l.length = l := by
      rw [List.take_set_of_le (by omega)]; unfold wrapS; exact List.take_left
    rw [e2, ← hs] at h
    have hw := wrapS_len l
    have e5 := beV_inj 4 _ _ (by rw [List.length_drop, List.length_set, hw]; omega) (beN_len _ _) h
    have h6 : (((wrapS l).set i b).drop l.length)[i - l.length]? = some b := by
      rw [List.getElem?_drop, show l.length + (i - l.length) = i by omega, List.getElem?_set_self hi]
    rw [e5] at h6
    unfold wrapS
    rw [List.getElem?_append_right (by omega)]
    exact h6
end Go.Proofs.YtdieogcemmnaaaaGreatDoor

/- What the bytes of the new tree tell. No condition. -/
namespace Go.Proofs.YtdieogcemmnaaaaGreatDoor
set_option linter.unusedSimpArgs false
set_option linter.unusedVariables false
open Go.Proofs.YtdieogcemmnaaaaGreatDoor RX
set_option maxRecDepth 100000

def rootNd : Nd := ⟨0, 1, 1, [], []⟩
theorem root_read : listR nodeR 64 (numR (beN (linksN 5) 8 ++ nodesB [rootNd], false) 8).2 = ([rootNd], ([], false)) := by kernel_rfl
theorem root_upto : intOf64 (numR (beN (linksN 5) 8 ++ nodesB [rootNd], false) 8).1 = 5 := by kernel_rfl
theorem root_wl : wlS [rootNd] = [rootNd] := by kernel_rfl
theorem root_ok : okN (-1) [rootNd] = true := by kernel_rfl
theorem root_dec {wv : List Nd → Bool} (h : wv [rootNd] = true) : decS wv (snapS 5 [rootNd]) = some (5, [rootNd]) := by
  unfold decS snapS
  rw [unwrap_wrap]
  simp only [root_read, root_upto, root_wl]
  unfold loadOk
  rw [root_ok, h]
  rfl
theorem newT_root : newT = [rootNd] := rfl
theorem speaks06_ok (wv : List Nd → Bool) (hw : ∀ b t, okN (-1) t.pub = true → (∀ n ∈ t.pub, n.ents.length ≤ 1000000000) → Tri Tryz.prog 161 #[.pointer (some ⟨b, 0, none⟩)] (TRep b t) (fun v => HP.and (v = .bool (wv t.pub)) (TRep b t))) (h1 : wv [rootNd] = true) :
    Tri Tryz.prog 27 #[] HP.tt (fun v => HP.pure (v = .bool true)) := by
  refine tri_of_tree (ρ := []) mixed Tryz.func27 tree_speaks06 ?_
  unfold t_speaks06
  simp only [T.den, E.prop, E.den, RX.look, F1.app, F2.app, Uni.int_i, Uni.nat_n, Uni.bool_c, Uni.str_s, Uni.adr_a, Uni.val_v, Uni.hp_p, hden, cden, V.den, W.den, A.den, BR.den, SA.den, FV.den, capV, exs, exP, allP, Cur.app, List.map_cons, List.map_nil, List.cons_append, List.nil_append, List.drop_succ_cons, List.drop_zero, List.length_cons, List.length_nil, Nat.zero_add, Nat.reduceAdd, Int.neg_neg, Bool.not_not, List.append_nil, Nat.add_zero, List.getElem?_cons_zero, List.getElem?_cons_succ, Decidable.not_not, semW_eq, semW_load, semW_store, semW_storeC, semW_append, semW_lookup, semW_lookupC, semW_update, semW_updateC, semW_updateK, semW_delete, semW_range, semW_next, semW_entry, semW_nil, ne_eq, Nat.reduceEqDiff, not_false_eq_true]
  refine tNew_ok.weak (fun _ _ h => h) ?_
  rintro v R h ⟨b, t, ⟨rfl, hp⟩, H⟩
  refine ⟨.pointer (some ⟨b, 0, none⟩), TRep b t, rfl, ?_, H⟩
  refine (encode_ok (B := 1) (by omega) (by rw [hp]; exact newT_wf) 5).weak (fun _ _ h => h) ?_
  rintro v R h ⟨a, c, rfl, H⟩
  have hlen := wrapS_len (beN (linksN 5) 8 ++ nodesB [rootNd])
  rw [hp, newT_root] at H
  have hle := OwC.le (HP.sep_right H)
  have hsome : (snapS 5 [rootNd]).length ≠ 0 → a.isSome = true := fun hn => OwC.some (HP.sep_right H) (by omega)
  have hl26 : (snapS 5 [rootNd]).length = 28 := by kernel_rfl
  refine ⟨a, (snapS 5 [rootNd]).length, c, OwB a _ c (snapS 5 [rootNd]), TRep b t, by rw [hp, newT_root], ?_, HP.sep_comm H⟩
  refine (decode_ok wv hw a _ c (snapS 5 [rootNd]) _ (RdL.ow _ _ _ _ _ _) rfl hle hsome (by omega)).weak (fun _ _ h => h) ?_
  intro v R h H
  unfold DcPost at H
  rw [root_dec h1] at H
  obtain ⟨b2, t2, ⟨rfl, hp2⟩, H⟩ := H
  refine ⟨5, .pointer (some ⟨b2, 0, none⟩), TRep b2 t2, 0, _, rfl, ⟨fun _ => ⟨fun _ => ⟨true, neqNilP (e := 125) (by kernel_rfl) (by kernel_rfl), fun _ => ?_, fun h => absurd rfl h⟩, fun h => absurd rfl h⟩, fun h => absurd rfl h⟩, HP.sep_comm H⟩
  refine (tNodes_ok (B := 1) (by omega) (by rw [hp2, ← newT_root]; exact newT_wf)).weak (fun _ _ h => h) ?_
  rintro v R h ⟨a3, c3, rfl, H⟩
  refine ⟨a3, _, c3, _, _, rfl, .of fun R h H => ?_, H⟩
  rw [hp2]; rfl
end Go.Proofs.YtdieogcemmnaaaaGreatDoor

/- No two trees have the same bytes. No condition. -/
namespace Go.Proofs.YtdieogcemmnaaaaGreatDoor
open Go.Proofs.YtdieogcemmnaaaaGreatDoor RX
set_option maxRecDepth 100000

theorem byteAt_eq {v w n j : Nat} (h : byteAt v n j = byteAt w n j) : v / 2 ^ (8 * (n - 1 - j)) % 256 = w / 2 ^ (8 * (n - 1 - j)) % 256 := by
  have := congrArg UInt8.toNat h
  unfold byteAt at this
  rwa [UInt8.toNat_ofNat', UInt8.toNat_ofNat'] at this
theorem dig_inj : ∀ (n v w : Nat), v < 256 ^ n → w < 256 ^ n → (∀ j < n, v / 2 ^ (8 * j) % 256 = w / 2 ^ (8 * j) % 256) → v = w
  | 0, v, w, hv, hw, _ => by simp at hv hw; omega
  | n + 1, v, w, hv, hw, h => by
    have h0 := h 0 (by omega)
    simp at h0
    have hd : v / 256 = w / 256 := dig_inj n (v / 256) (w / 256) (by rw [Nat.pow_succ] at hv; omega) (by rw [Nat.pow_succ] at hw; omega) fun j hj => by
      have := h (j + 1) (by omega)
      have e : 2 ^ (8 * (j + 1)) = 256 * 2 ^ (8 * j) := by rw [show 8 * (j + 1) = 8 * j + 8 by omega, Nat.pow_add]; omega
      rwa [e, ← Nat.div_div_eq_div_mul, ← Nat.div_div_eq_div_mul] at this
    omega
theorem beN_inj {v w n : Nat} (hv : v < 256 ^ n) (hw : w < 256 ^ n) (h : beN v n = beN w n) : v = w := by
  refine dig_inj n v w hv hw fun j hj => ?_
  have hj' : n - 1 - j < n := by omega
  have h1 : (beN v n)[n - 1 - j]? = (beN w n)[n - 1 - j]? := by rw [h]
  unfold beN at h1
  rw [List.getElem?_map, List.getElem?_map, List.getElem?_range hj'] at h1
  have h2 := byteAt_eq (Option.some.inj h1)
  rwa [show n - 1 - (n - 1 - j) = j by omega] at h2
theorem beN_cut {v w n : Nat} {r r' : List UInt8} (hv : v < 256 ^ n) (hw : w < 256 ^ n) (h : beN v n ++ r = beN w n ++ r') : v = w ∧ r = r' := by
  obtain ⟨h1, h2⟩ := List.append_inj h (by rw [beN_len, beN_len])
  exact ⟨beN_inj hv hw h1, h2⟩
theorem lenB_cut {l l' r r' : List UInt8} (hl : l.length < 4294967296) (hl' : l'.length < 4294967296) (h : beN l.length 4 ++ (l ++ r) = beN l'.length 4 ++ (l' ++ r')) : l = l' ∧ r = r' := by
  obtain ⟨h1, h2⟩ := beN_cut (n := 4) (by simpa using hl) (by simpa using hl') h
  exact List.append_inj h2 h1
theorem byte_inj {a b : Nat} (ha : a < 256) (hb : b < 256) (h : UInt8.ofNat a = UInt8.ofNat b) : a = b := by
  have := congrArg UInt8.toNat h
  rw [UInt8.toNat_ofNat', UInt8.toNat_ofNat'] at this
  omega
/-- An entry as trees have them. -/
def EOk (x : Nm × Nat) : Prop := x.1.length < 256 ∧ x.2 < 256
theorem entB_cut {x y : Nm × Nat} {r r' : List UInt8} (hx : EOk x) (hy : EOk y) (h : entB x ++ r = entB y ++ r') : x = y ∧ r = r' := by
  unfold entB at h
  simp only [List.append_assoc] at h
  obtain ⟨h1, h2⟩ := lenB_cut (by have := hx.1; omega) (by have := hy.1; omega) h
  injection h2 with h3 h4
  have := byte_inj hx.2 hy.2 h3
  exact ⟨Prod.ext h1 this, h4⟩
theorem flat_cut {α : Type} {f : α → List UInt8} {ok : α → Prop} (hf : ∀ {x y : α} {r r' : List UInt8}, ok x → ok y → f x ++ r = f y ++ r' → x = y ∧ r = r') :
    ∀ {l l' : List α} {r r' : List UInt8}, (∀ x ∈ l, ok x) → (∀ x ∈ l', ok x) → l.length = l'.length → l.flatMap f ++ r = l'.flatMap f ++ r' → l = l' ∧ r = r'
  | [], [], _, _, _, _, _, h => ⟨rfl, h⟩
  | [], _ :: _, _, _, _, _, hl, _ => by cases hl
  | _ :: _, [], _, _, _, _, hl, _ => by cases hl
  | x :: l, y :: l', r, r', h1, h2, hl, h => by
    rw [List.flatMap_cons, List.flatMap_cons, List.append_assoc, List.append_assoc] at h
    obtain ⟨e, h'⟩ := hf (h1 x List.mem_cons_self) (h2 y List.mem_cons_self) h
    obtain ⟨e2, h''⟩ := flat_cut hf (fun z hz => h1 z (List.mem_cons_of_mem _ hz)) (fun z hz => h2 z (List.mem_cons_of_mem _ hz)) (by simpa using hl) h'
    exact ⟨by rw [e, e2], h''⟩
/-- What the bytes hold of a node: all but the links, which the entries tell. -/
def bare (n : Nd) : Nd := { n with links := 0 }
def NOk (n : Nd) : Prop := n.num < 256 ∧ 0 ≤ n.kind ∧ n.kind < 256 ∧ n.data.length < 4294967296 ∧ n.ents.length < 4294967296 ∧ ∀ e ∈ n.ents, EOk e
theorem byteI_nat {k : Int} (h0 : 0 ≤ k) (h1 : k < 256) : byteI k = UInt8.ofNat k.toNat := by
  unfold byteI
  congr 1
  simp only [IntKind.wrap, IntKind.bits, IntKind.signed, Bool.false_and, Bool.false_eq_true, if_false]
  omega
theorem nodeB_cut {x y : Nd} {r r' : List UInt8} (hx : NOk x) (hy : NOk y) (h : nodeB x ++ r = nodeB y ++ r') : bare x = bare y ∧ r = r' := by
  obtain ⟨a1, a2, a3, a4, a5, a6⟩ := hx
  obtain ⟨b1, b2, b3, b4, b5, b6⟩ := hy
  unfold nodeB at h
  simp only [List.append_assoc, List.cons_append, List.nil_append] at h
  injection h with h1 h
  injection h with h2 h
  obtain ⟨_, h⟩ := List.append_inj h (by rw [beN_len, beN_len])
  obtain ⟨h3, h⟩ := lenB_cut a4 b4 h
  obtain ⟨h4, h⟩ := beN_cut (n := 4) (by simpa using a5) (by simpa using b5) h
  obtain ⟨h5, h⟩ := flat_cut entB_cut a6 b6 h4 h
  rw [byteI_nat (by omega) (by omega), byteI_nat (by omega) (by omega)] at h1
  rw [byteI_nat a2 a3, byteI_nat b2 b3] at h2
  have e1 := byte_inj (by omega) (by omega) h1
  have e2 := byte_inj (by omega) (by omega) h2
  refine ⟨?_, h⟩
  obtain ⟨xn, xk, xl, xd, xe⟩ := x
  obtain ⟨yn, yk, yl, yd, ye⟩ := y
  simp only at *
  unfold bare
  simp only [Nd.mk.injEq]
  exact ⟨by omega, by omega, trivial, h3, h5⟩
end Go.Proofs.YtdieogcemmnaaaaGreatDoor

/- No two trees have the same bytes: the whole of it. No condition. -/
namespace Go.Proofs.YtdieogcemmnaaaaGreatDoor
open Go.Proofs.YtdieogcemmnaaaaGreatDoor RX
set_option maxRecDepth 100000

theorem flat_cut2 {α β : Type} {f : α → List UInt8} {g : α → β} {ok : α → Prop} (hf : ∀ {x y : α} {r r' : List UInt8}, ok x → ok y → f x ++ r = f y ++ r' → g x = g y ∧ r = r') :
    ∀ {l l' : List α} {r r' : List UInt8}, (∀ x ∈ l, ok x) → (∀ x ∈ l', ok x) → l.length = l'.length → l.flatMap f ++ r = l'.flatMap f ++ r' → l.map g = l'.map g ∧ r = r'
  | [], [], _, _, _, _, _, h => ⟨rfl, h⟩
  | [], _ :: _, _, _, _, _, hl, _ => by cases hl
  | _ :: _, [], _, _, _, _, hl, _ => by cases hl
  | x :: l, y :: l', r, r', h1, h2, hl, h => by
    rw [List.flatMap_cons, List.flatMap_cons, List.append_assoc, List.append_assoc] at h
    obtain ⟨e, h'⟩ := hf (h1 x List.mem_cons_self) (h2 y List.mem_cons_self) h
    obtain ⟨e2, h''⟩ := flat_cut2 hf (fun z hz => h1 z (List.mem_cons_of_mem _ hz)) (fun z hz => h2 z (List.mem_cons_of_mem _ hz)) (by simpa using hl) h'
    exact ⟨by rw [List.map_cons, List.map_cons, e, e2], h''⟩
theorem refs_bare (T1 : List Nd) (k : Nat) : refs (T1.map bare) k = refs T1 k := by
  unfold refs; rw [List.map_map]; rfl
theorem NOk.of {B : Nat} {T1 : List Nd} (hB : B ≤ 100000) (wf : TWf B T1) {n : Nd} (hn : n ∈ T1) : NOk n := by
  have g := wf.good n hn
  have := g.num
  have := g.data
  have := g.efew
  refine ⟨by omega, ?_, ?_, by omega, by omega, fun e he => ⟨?_, by have := tgt_lt wf hn he; omega⟩⟩
  · rcases g.kind with ⟨h, _⟩ | ⟨h, _⟩ <;> omega
  · rcases g.kind with ⟨h, _⟩ | ⟨h, _⟩ <;> omega
  · have := (g.name e he).1
    unfold nameOk at this
    simp at this
    omega
theorem links_of {B : Nat} {T1 : List Nd} (wf : TWf B T1) {n : Nd} (hn : n ∈ T1) : n.links = if n.num = 0 then 1 else (refs T1 n.num : Int) := by
  by_cases h : n.num = 0
  · rw [if_pos h]
    obtain ⟨r, hr, hk⟩ := wf.root
    have hnd : (T1.map (·.num)).Nodup := wf.nd
    have e : r = n := by
      unfold nodeAt at hr
      have h1 := List.mem_of_find?_eq_some hr
      have h2 := List.find?_some hr
      simp at h2
      obtain ⟨i, hi, rfl⟩ := List.mem_iff_getElem.1 h1
      obtain ⟨j, hj, rfl⟩ := List.mem_iff_getElem.1 hn
      have hij : i = j := by
        have := (List.nodup_iff_pairwise_ne.1 hnd)
        exact (List.getElem_inj (h₀ := by simpa using hi) (h₁ := by simpa using hj) hnd).1 (by simp [h2, h])
      subst hij; rfl
    subst e
    rcases (wf.good r hn).kind with ⟨_, _, h3⟩ | ⟨h3, _⟩
    · exact h3
    · omega
  · rw [if_neg h]; exact (wf.cnt n hn h).symm
theorem bare_inj {B B' : Nat} {T1 T2 : List Nd} (wf : TWf B T1) (wf' : TWf B' T2) (h : T1.map bare = T2.map bare) : T1 = T2 := by
  have hl : T1.length = T2.length := by have := congrArg List.length h; simpa using this
  refine List.ext_getElem hl fun i h1 h2 => ?_
  have hb : bare T1[i] = bare T2[i] := by
    have : (T1.map bare)[i]? = (T2.map bare)[i]? := by rw [h]
    rw [List.getElem?_map, List.getElem?_map, List.getElem?_eq_getElem h1, List.getElem?_eq_getElem h2] at this
    exact Option.some.inj this
  have e1 := links_of wf (List.getElem_mem h1)
  have e2 := links_of wf' (List.getElem_mem h2)
  rw [← refs_bare T1] at e1
  rw [← refs_bare T2] at e2
  rw [h] at e1
  have hn : T1[i].num = T2[i].num := (show (bare T1[i]).num = (bare T2[i]).num from by rw [hb])
  have hk : T1[i].kind = T2[i].kind := (show (bare T1[i]).kind = (bare T2[i]).kind from by rw [hb])
  have hd : T1[i].data = T2[i].data := (show (bare T1[i]).data = (bare T2[i]).data from by rw [hb])
  have he : T1[i].ents = T2[i].ents := (show (bare T1[i]).ents = (bare T2[i]).ents from by rw [hb])
  rw [hn, ← e2] at e1
  generalize T1[i] = x at *
  generalize T2[i] = y at *
  obtain ⟨xn, xk, xl, xd, xe⟩ := x
  obtain ⟨yn, yk, yl, yd, ye⟩ := y
  simp only at hn hk hd he e1
  subst hn hk hd he e1
  rfl
theorem linksN_inj {u v : Int} (hu : -9223372036854775808 ≤ u ∧ u ≤ 9223372036854775807) (hv : -9223372036854775808 ≤ v ∧ v ≤ 9223372036854775807) (h : linksN u = linksN v) : u = v := by
  have h1 := linksN_val u
  have h2 := linksN_val v
  rw [h, h2] at h1
  simp only [IntKind.wrap, IntKind.bits, IntKind.signed, Bool.false_and, Bool.false_eq_true, if_false] at h1
  omega
theorem linksN_lt (u : Int) : linksN u < 256 ^ 8 := by
  have h1 := linksN_val u
  simp only [IntKind.wrap, IntKind.bits, IntKind.signed, Bool.false_and, Bool.false_eq_true, if_false] at h1
  have : (256 : Nat) ^ 8 = 18446744073709551616 := by decide
  omega
theorem snapS_inj {B B' : Nat} (hB : B ≤ 100000) (hB' : B' ≤ 100000) {T1 T2 : List Nd} (wf : TWf B T1) (wf' : TWf B' T2) {u v : Int} (hu : -9223372036854775808 ≤ u ∧ u ≤ 9223372036854775807) (hv : -9223372036854775808 ≤ v ∧ v ≤ 9223372036854775807)
    (h : snapS u T1 = snapS v T2) : u = v ∧ T1 = T2 := by
  unfold snapS at h
  have hlen : (beN (linksN u) 8 ++ nodesB T1).length = (beN (linksN v) 8 ++ nodesB T2).length := by
    have := congrArg List.length h
    rw [wrapS_len, wrapS_len] at this
    omega
  have h1 := (List.append_inj (show _ ++ _ = _ ++ _ from h) hlen).1
  obtain ⟨h2, h3⟩ := beN_cut (linksN_lt u) (linksN_lt v) h1
  refine ⟨linksN_inj hu hv h2, ?_⟩
  unfold nodesB at h3
  have a1 := few_nodes wf
  have a2 := few_nodes wf'
  have e4 : (256 : Nat) ^ 4 = 4294967296 := by decide
  obtain ⟨h4, h5⟩ := beN_cut (n := 4) (by omega) (by omega) h3
  have h6 := (flat_cut2 (r := []) (r' := []) nodeB_cut (fun x hx => NOk.of hB wf hx) (fun x hx => NOk.of hB' wf' hx) h4 (by rw [h5])).1
  exact bare_inj wf wf' h6
end Go.Proofs.YtdieogcemmnaaaaGreatDoor

/- Trees of functions, printed by rx.lean. No condition. -/
namespace Go.Proofs.YtdieogcemmnaaaaGreatDoor.RX
set_option maxRecDepth 100000
-- tideline/tidelineref01.Same: ρ := [.a aa, .n al, .n ac, .p aP, .a ba, .n bl, .n bc, .p bP]
def t_same01 : T :=
(.br (.o1 .not (.o2 .eq (.o1 .ofNat (.v 1)) (.o1 .ofNat (.v 5))))
 (.ret (.w (.a (.bool (.c false)))) [((.a 0), (.prop 3)), ((.a 4), (.prop 7))])
 (.loop [.c, .i] [(.e (.o1 .not (.o1 .not (.c false)))), (.e (.o1 .neg (.o1 .neg (.i 0))))]
  (.br (.o2 .lt (.v 9) (.o1 .ofNat (.v 1)))
   (.need (.o2 .le (.i 0) (.v 9))
   (.need (.o1 .isSome (.v 0))
   (.read (.load 5 (.tmp 19)) 5 [(19, (.w (.a (.eptr 0 (.v 9) 1 0))))] [((.a 0), (.prop 3))] [.i] (.w (.a (.int .u8 (.v 10))))
   (.need (.o2 .lt (.v 9) (.o1 .ofNat (.v 5)))
   (.need (.o1 .isSome (.v 4))
   (.read (.load 5 (.tmp 23)) 5 [(23, (.w (.a (.eptr 4 (.v 9) 1 0))))] [((.a 4), (.prop 7))] [.i] (.w (.a (.int .u8 (.v 11))))
   (.br (.o1 .not (.o2 .eq (.v 10) (.v 11)))
    (.ret (.w (.a (.bool (.c false)))) [((.a 0), (.prop 3)), ((.a 4), (.prop 7))])
    (.need (.o1 (.inr .i64) (.o2 .add (.v 9) (.i 1)))
    (.again 0 [(.e (.o1 .not (.o1 .not (.v 8)))), (.e (.o1 .neg (.o1 .neg (.o2 .add (.v 9) (.i 1)))))])))))))))
   (.ret (.w (.a (.bool (.c true)))) [((.a 0), (.prop 3)), ((.a 4), (.prop 7))]))))
theorem tree_same01 : tree Tryz.prog { absT := [], opq := [], hv := [], keep := [30, 76, 78], link := [], ent := [], turn := [], shr := [], vt := [], mkd := [], rlink := [], pty := [], outl := false, stay := [], snk := [], rdf := true } Tryz.f30 [(.a (.sl (.v 0) (.v 1) (.v 2))), (.a (.sl (.v 4) (.v 5) (.v 6)))] [((.a 0), (.prop 3)), ((.a 4), (.prop 7))] 8 = t_same01 := by kernel_rfl
-- tideline/tidelineref03.SameTexts: ρ := [.a aa, .n al, .n ac, .p aP, .a ba, .n bl, .n bc, .p bP]
def t_sameTexts : T :=
(.br (.o1 .not (.o2 .eq (.o1 .ofNat (.v 1)) (.o1 .ofNat (.v 5))))
 (.ret (.w (.a (.bool (.c false)))) [((.a 0), (.prop 3)), ((.a 4), (.prop 7))])
 (.loop [.c, .i] [(.e (.o1 .not (.o1 .not (.c false)))), (.e (.o1 .neg (.o1 .neg (.i 0))))]
  (.br (.o2 .lt (.v 9) (.o1 .ofNat (.v 1)))
   (.need (.o2 .le (.i 0) (.v 9))
   (.need (.o1 .isSome (.v 0))
   (.read (.load 9 (.tmp 19)) 9 [(19, (.w (.a (.eptr 0 (.v 9) 1 0))))] [((.a 0), (.prop 3))] [.s] (.w (.a (.str (.v 10))))
   (.need (.o2 .lt (.v 9) (.o1 .ofNat (.v 5)))
   (.need (.o1 .isSome (.v 4))
   (.read (.load 9 (.tmp 23)) 9 [(23, (.w (.a (.eptr 4 (.v 9) 1 0))))] [((.a 4), (.prop 7))] [.s] (.w (.a (.str (.v 11))))
   (.br (.o1 .not (.o2 .seq (.v 10) (.v 11)))
    (.ret (.w (.a (.bool (.c false)))) [((.a 0), (.prop 3)), ((.a 4), (.prop 7))])
    (.need (.o1 (.inr .i64) (.o2 .add (.v 9) (.i 1)))
    (.again 0 [(.e (.o1 .not (.o1 .not (.v 8)))), (.e (.o1 .neg (.o1 .neg (.o2 .add (.v 9) (.i 1)))))])))))))))
   (.ret (.w (.a (.bool (.c true)))) [((.a 0), (.prop 3)), ((.a 4), (.prop 7))]))))
theorem tree_sameTexts : tree Tryz.prog { absT := [], opq := [], hv := [], keep := [30, 76, 78], link := [], ent := [], turn := [], shr := [], vt := [], mkd := [], rlink := [], pty := [], outl := false, stay := [], snk := [], rdf := true } Tryz.f76 [(.a (.sl (.v 0) (.v 1) (.v 2))), (.a (.sl (.v 4) (.v 5) (.v 6)))] [((.a 0), (.prop 3)), ((.a 4), (.prop 7))] 8 = t_sameTexts := by kernel_rfl
-- tideline/tidelineref03.Name: ρ := [.s s]
def t_name03 : T :=
(.loop [.c, .i] [(.e (.o1 .not (.o1 .not (.c false)))), (.e (.o1 .neg (.o1 .neg (.i 0))))]
 (.br (.o2 .lt (.v 2) (.o1 .ofNat (.o1 .size (.v 0))))
  (.read (.index 9 (.tmp 10) (.tmp 11)) 5 [(10, (.w (.a (.str (.v 0))))), (11, (.w (.a (.int .i64 (.v 2)))))] [] [.i] (.w (.a (.int .u8 (.v 3))))
  (.br (.o2 .eq (.v 3) (.i 47))
   (.ret (.w (.a (.bool (.c false)))) [])
   (.read (.index 9 (.tmp 15) (.tmp 16)) 5 [(15, (.w (.a (.str (.v 0))))), (16, (.w (.a (.int .i64 (.v 2)))))] [] [.i] (.w (.a (.int .u8 (.v 4))))
   (.br (.o2 .eq (.v 4) (.i 0))
    (.ret (.w (.a (.bool (.c false)))) [])
    (.need (.o1 (.inr .i64) (.o2 .add (.v 2) (.i 1)))
    (.again 0 [(.e (.o1 .not (.o1 .not (.v 1)))), (.e (.o1 .neg (.o1 .neg (.o2 .add (.v 2) (.i 1)))))]))))))
  (.br (.o2 .le (.i 1) (.o1 .ofNat (.o1 .size (.v 0))))
   (.br (.o2 .le (.o1 .ofNat (.o1 .size (.v 0))) (.i 16))
    (.br (.o1 .not (.o2 .seq (.v 0) (.s [46])))
     (.ret (.w (.a (.bool (.o1 .not (.o2 .seq (.v 0) (.s [46, 46])))))) [])
     (.ret (.w (.a (.bool (.c false)))) []))
    (.ret (.w (.a (.bool (.c false)))) []))
   (.ret (.w (.a (.bool (.c false)))) []))))
theorem tree_name03 : tree Tryz.prog { absT := [], opq := [], hv := [], keep := [30, 76, 78], link := [], ent := [], turn := [], shr := [], vt := [], mkd := [], rlink := [], pty := [], outl := false, stay := [], snk := [], rdf := true } Tryz.f78 [(.a (.str (.v 0)))] [] 1 = t_name03 := by kernel_rfl
-- tideline/tidelineref04.SameAnswer: ρ := [.i a_Err, .i a_Kind, .i a_Size, .i a_Links, .a a_Dataa, .n a_Datal, .n a_Datac, .p a_DataP, .a a_Namesa, .n a_Namesl, .n a_Namesc, .p a_NamesP, .i b_Err, .i b_Kind, .i b_Size, .i b_Links, .a b_Dataa, .n b_Datal, .n b_Datac, .p b_DataP, .a b_Namesa, .n b_Namesl, .n b_Namesc, .p b_NamesP]
def t_sameAnswer : T :=
(.new
(.new
(.br (.o2 .eq (.v 0) (.v 12))
 (.br (.o2 .eq (.v 1) (.v 13))
  (.br (.o2 .eq (.v 2) (.v 14))
   (.br (.o2 .eq (.v 3) (.v 15))
    (.call 30 [(.a (.sl (.v 4) (.v 5) (.v 6))), (.a (.sl (.v 16) (.v 17) (.v 18)))] [((.a 4), (.prop 7)), ((.a 16), (.prop 19))] [.c] (.w (.a (.bool (.v 26)))) [((.a 4), (.prop 7)), ((.a 16), (.prop 19))]
    (.br (.v 26)
     (.call 76 [(.a (.sl (.v 8) (.v 9) (.v 10))), (.a (.sl (.v 20) (.v 21) (.v 22)))] [((.a 8), (.prop 11)), ((.a 20), (.prop 23))] [.c] (.w (.a (.bool (.v 27)))) [((.a 8), (.prop 11)), ((.a 20), (.prop 23))]
     (.ret (.w (.a (.bool (.v 27)))) [((.a 4), (.prop 7)), ((.a 8), (.prop 11)), ((.a 16), (.prop 19)), ((.a 20), (.prop 23))]))
     (.ret (.w (.a (.bool (.c false)))) [((.a 4), (.prop 7)), ((.a 8), (.prop 11)), ((.a 16), (.prop 19)), ((.a 20), (.prop 23))])))
    (.ret (.w (.a (.bool (.c false)))) [((.a 4), (.prop 7)), ((.a 8), (.prop 11)), ((.a 16), (.prop 19)), ((.a 20), (.prop 23))]))
   (.ret (.w (.a (.bool (.c false)))) [((.a 4), (.prop 7)), ((.a 8), (.prop 11)), ((.a 16), (.prop 19)), ((.a 20), (.prop 23))]))
  (.ret (.w (.a (.bool (.c false)))) [((.a 4), (.prop 7)), ((.a 8), (.prop 11)), ((.a 16), (.prop 19)), ((.a 20), (.prop 23))]))
 (.ret (.w (.a (.bool (.c false)))) [((.a 4), (.prop 7)), ((.a 8), (.prop 11)), ((.a 16), (.prop 19)), ((.a 20), (.prop 23))]))))
theorem tree_sameAnswer : tree Tryz.prog { absT := [], opq := [], hv := [], keep := [30, 76, 78], link := [], ent := [], turn := [], shr := [], vt := [], mkd := [], rlink := [], pty := [], outl := false, stay := [], snk := [], rdf := true } Tryz.f21 [(.agg [(.int .i64 (.v 0)), (.int .i64 (.v 1)), (.int .i64 (.v 2)), (.int .i64 (.v 3)), (.sl (.v 4) (.v 5) (.v 6)), (.sl (.v 8) (.v 9) (.v 10))]), (.agg [(.int .i64 (.v 12)), (.int .i64 (.v 13)), (.int .i64 (.v 14)), (.int .i64 (.v 15)), (.sl (.v 16) (.v 17) (.v 18)), (.sl (.v 20) (.v 21) (.v 22))])] [((.a 4), (.prop 7)), ((.a 8), (.prop 11)), ((.a 16), (.prop 19)), ((.a 20), (.prop 23))] 24 = t_sameAnswer := by kernel_rfl
-- tideline/tidelineref04.SameNodes: ρ := [.a aa, .n al, .n ac, .p aP, .a ba, .n bl, .n bc, .p bP]
def t_sameNodes : T :=
(.br (.o1 .not (.o2 .eq (.o1 .ofNat (.v 1)) (.o1 .ofNat (.v 5))))
 (.ret (.w (.a (.bool (.c false)))) [((.a 0), (.prop 3)), ((.a 4), (.prop 7))])
 (.loop [.c, .i] [(.e (.o1 .not (.o1 .not (.c false)))), (.e (.o1 .neg (.o1 .neg (.i 0))))]
  (.br (.o2 .lt (.v 9) (.o1 .ofNat (.v 1)))
   (.join [.n, .n, .i, .i, .i, .a, .n, .n, .a, .n, .n, .i, .i, .i, .a, .n, .n, .a, .n, .n]
    (.need (.o2 .le (.i 0) (.v 9))
    (.need (.o1 .isSome (.v 0))
    (.read (.load 43 (.tmp 22)) 43 [(22, (.w (.a (.eptr 0 (.v 9) 5 0))))] [((.a 0), (.prop 3))] [.i, .i, .i, .a, .n, .n, .a, .n, .n] (.w (.agg [(.int .i64 (.v 10)), (.int .i64 (.v 11)), (.int .i64 (.v 12)), (.sl (.v 13) (.v 14) (.v 15)), (.sl (.v 16) (.v 17) (.v 18))]))
    (.need (.o2 .lt (.v 9) (.o1 .ofNat (.v 5)))
    (.need (.o1 .isSome (.v 4))
    (.read (.load 43 (.tmp 26)) 43 [(26, (.w (.a (.eptr 4 (.v 9) 5 0))))] [((.a 4), (.prop 7))] [.i, .i, .i, .a, .n, .n, .a, .n, .n] (.w (.agg [(.int .i64 (.v 19)), (.int .i64 (.v 20)), (.int .i64 (.v 21)), (.sl (.v 22) (.v 23) (.v 24)), (.sl (.v 25) (.v 26) (.v 27))]))
    (.all
     (.new
     (.new
     (.again 0 [(.n (.v 28)), (.n (.v 29)), (.e (.o1 .neg (.o1 .neg (.v 19)))), (.e (.o1 .neg (.o1 .neg (.v 20)))), (.e (.o1 .neg (.o1 .neg (.v 21)))), (.a (.v 22)), (.e (.o2 .nadd (.v 23) (.n 0))), (.e (.o2 .nadd (.v 24) (.n 0))), (.a (.v 25)), (.e (.o2 .nadd (.v 26) (.n 0))), (.e (.o2 .nadd (.v 27) (.n 0))), (.e (.o1 .neg (.o1 .neg (.v 10)))), (.e (.o1 .neg (.o1 .neg (.v 11)))), (.e (.o1 .neg (.o1 .neg (.v 12)))), (.a (.v 13)), (.e (.o2 .nadd (.v 14) (.n 0))), (.e (.o2 .nadd (.v 15) (.n 0))), (.a (.v 16)), (.e (.o2 .nadd (.v 17) (.n 0))), (.e (.o2 .nadd (.v 18) (.n 0)))])))
     (.new
     (.new
     (.again 0 [(.n (.v 29)), (.n (.v 28)), (.e (.o1 .neg (.o1 .neg (.v 19)))), (.e (.o1 .neg (.o1 .neg (.v 20)))), (.e (.o1 .neg (.o1 .neg (.v 21)))), (.a (.v 22)), (.e (.o2 .nadd (.v 23) (.n 0))), (.e (.o2 .nadd (.v 24) (.n 0))), (.a (.v 25)), (.e (.o2 .nadd (.v 26) (.n 0))), (.e (.o2 .nadd (.v 27) (.n 0))), (.e (.o1 .neg (.o1 .neg (.v 10)))), (.e (.o1 .neg (.o1 .neg (.v 11)))), (.e (.o1 .neg (.o1 .neg (.v 12)))), (.a (.v 13)), (.e (.o2 .nadd (.v 14) (.n 0))), (.e (.o2 .nadd (.v 15) (.n 0))), (.a (.v 16)), (.e (.o2 .nadd (.v 17) (.n 0))), (.e (.o2 .nadd (.v 18) (.n 0)))]))))))))))
   (.br (.o1 .not (.o2 .eq (.v 21) (.v 12)))
    (.ret (.w (.a (.bool (.c false)))) [((.a 0), (.prop 3)), ((.a 4), (.prop 7))])
    (.br (.o1 .not (.o2 .eq (.v 22) (.v 13)))
     (.ret (.w (.a (.bool (.c false)))) [((.a 0), (.prop 3)), ((.a 4), (.prop 7))])
     (.br (.o1 .not (.o2 .eq (.v 23) (.v 14)))
      (.ret (.w (.a (.bool (.c false)))) [((.a 0), (.prop 3)), ((.a 4), (.prop 7))])
      (.call 30 [(.a (.sl (.v 24) (.v 25) (.v 26))), (.a (.sl (.v 15) (.v 16) (.v 17)))] [((.a 0), (.prop 3)), ((.a 4), (.prop 7))] [.c] (.w (.a (.bool (.v 30)))) [((.a 0), (.prop 3)), ((.a 4), (.prop 7))]
      (.br (.o1 .not (.v 30))
       (.ret (.w (.a (.bool (.c false)))) [((.a 0), (.prop 3)), ((.a 4), (.prop 7))])
       (.br (.o1 .not (.o2 .eq (.o1 .ofNat (.v 28)) (.o1 .ofNat (.v 19))))
        (.ret (.w (.a (.bool (.c false)))) [((.a 0), (.prop 3)), ((.a 4), (.prop 7))])
        (.loop [.c, .i] [(.e (.o1 .not (.o1 .not (.v 8)))), (.e (.o1 .neg (.o1 .neg (.i 0))))]
         (.br (.o2 .lt (.v 32) (.o1 .ofNat (.v 28)))
          (.need (.o2 .le (.i 0) (.v 32))
          (.need (.o1 .isSome (.v 27))
          (.read (.load 140 (.tmp 74)) 140 [(74, (.w (.a (.eptr 27 (.v 32) 2 0))))] [((.a 0), (.prop 3))] [.s, .i] (.w (.agg [(.str (.v 33)), (.int .i64 (.v 34))]))
          (.need (.o2 .lt (.v 32) (.o1 .ofNat (.v 19)))
          (.need (.o1 .isSome (.v 18))
          (.read (.load 140 (.tmp 79)) 140 [(79, (.w (.a (.eptr 18 (.v 32) 2 0))))] [((.a 4), (.prop 7))] [.s, .i] (.w (.agg [(.str (.v 35)), (.int .i64 (.v 36))]))
          (.read (.binOp .neq 140 (.tmp 75) (.tmp 80) 140) 4 [(75, (.w (.agg [(.str (.v 33)), (.int .i64 (.v 34))]))), (80, (.w (.agg [(.str (.v 35)), (.int .i64 (.v 36))])))] [] [.c] (.w (.a (.bool (.v 37))))
          (.br (.v 37)
           (.ret (.w (.a (.bool (.c false)))) [((.a 0), (.prop 3)), ((.a 4), (.prop 7))])
           (.need (.o1 (.inr .i64) (.o2 .add (.v 32) (.i 1)))
           (.again 0 [(.e (.o1 .not (.o1 .not (.v 31)))), (.e (.o1 .neg (.o1 .neg (.o2 .add (.v 32) (.i 1)))))]))))))))))
          (.need (.o1 (.inr .i64) (.o2 .add (.v 9) (.i 1)))
          (.again 1 [(.e (.o1 .not (.o1 .not (.v 31)))), (.e (.o1 .neg (.o1 .neg (.o2 .add (.v 9) (.i 1)))))])))))))))))
   (.ret (.w (.a (.bool (.c true)))) [((.a 0), (.prop 3)), ((.a 4), (.prop 7))]))))
theorem tree_sameNodes : tree Tryz.prog { absT := [], opq := [], hv := [], keep := [30, 76, 78], link := [], ent := [], turn := [], shr := [], vt := [], mkd := [], rlink := [], pty := [], outl := false, stay := [], snk := [], rdf := true, jn := [((20, 10), some { ss := [.n, .n, .i, .i, .i, .a, .n, .n, .a, .n, .n, .i, .i, .i, .a, .n, .n, .a, .n, .n], n := 30, tv := [(20, none), (21, none), (22, none), (23, none), (24, none), (25, none), (26, none), (27, none), (6, some (.w (.a (.ptr (.v 10) 0)))), (7, some (.w (.a (.ptr (.v 11) 0))))], h := [((.b (.v 11)), (.cells [(.int .i64 (.v 12)), (.int .i64 (.v 13)), (.int .i64 (.v 14)), (.sl (.v 15) (.v 16) (.v 17)), (.sl (.v 18) (.v 19) (.v 20))] 43)), ((.b (.v 10)), (.cells [(.int .i64 (.v 21)), (.int .i64 (.v 22)), (.int .i64 (.v 23)), (.sl (.v 24) (.v 25) (.v 26)), (.sl (.v 27) (.v 28) (.v 29))] 43)), ((.a 0), (.prop 3)), ((.a 4), (.prop 7))], lk := [(15, (.a 4)), (18, (.a 4)), (24, (.a 0)), (27, (.a 0))] })] } Tryz.f20 [(.a (.sl (.v 0) (.v 1) (.v 2))), (.a (.sl (.v 4) (.v 5) (.v 6)))] [((.a 0), (.prop 3)), ((.a 4), (.prop 7))] 8 = t_sameNodes := by kernel_rfl
end Go.Proofs.YtdieogcemmnaaaaGreatDoor.RX

/- Contracts of what law 4 compares with: bytes, texts, answers, nodes. No condition. -/
namespace Go.Proofs.YtdieogcemmnaaaaGreatDoor
set_option linter.unusedSimpArgs false
set_option linter.unusedVariables false
open Go.Proofs.YtdieogcemmnaaaaGreatDoor RX
set_option maxRecDepth 100000

instance instAns : DecidableEq AnsM := fun r s => decidable_of_iff (r.err = s.err ∧ r.kind = s.kind ∧ r.size = s.size ∧ r.links = s.links ∧ r.data = s.data ∧ r.names = s.names) ⟨fun ⟨h1, h2, h3, h4, h5, h6⟩ => by cases r; cases s; simp only at h1 h2 h3 h4 h5 h6; subst h1 h2 h3 h4 h5 h6; rfl, fun h => by subst h; exact ⟨rfl, rfl, rfl, rfl, rfl, rfl⟩⟩
theorem RdL.isSome {S : HP} {a : Option Addr} {n : Nat} {xs : List Value} (r : RdL S a n xs) {R h : PH} (H : S.p R h) (hn : n ≠ 0) : a.isSome = true := by
  cases a with
  | some x => rfl
  | none => exact absurd (r.none R h H rfl) hn
theorem take_eq {α : Type} {l m : List α} {k : Nat} {x y : α} (hx : l[k]? = some x) (hy : m[k]? = some y) (h : l.take k = m.take k) (e : x = y) : l.take (k + 1) = m.take (k + 1) := by
  rw [List.take_add_one, List.take_add_one, hx, hy, h, e]
theorem getN {α : Type} {l : List α} {k : Nat} (h : k < l.length) : ∃ x, l[k]? = some x := ⟨_, List.getElem?_eq_getElem h⟩
theorem get_ne {α : Type} {l m : List α} {k : Nat} {x y : α} (hx : l[k]? = some x) (hy : m[k]? = some y) (h : x ≠ y) : l ≠ m := fun e => by
  subst e
  rw [hx] at hy
  exact h (Option.some.inj hy)
theorem same01_ok (a : Option Addr) (n c : Nat) (la : List UInt8) (b : Option Addr) (m d : Nat) (lb : List UInt8) (Sa Sb : HP) (hA : RdL Sa a n (la.map u8v)) (hB : RdL Sb b m (lb.map u8v)) (hla : la.length = n) (hlb : lb.length = m) (hn : n ≤ 140737488355328) :
    Tri Tryz.prog 30 #[.slice a n c, .slice b m d] (HP.sep Sa Sb) (fun v => HP.and (v = .bool (decide (la = lb))) (HP.sep Sa Sb)) := by
  refine Tri.fact (φ := (n ≠ 0 → a.isSome = true) ∧ (m ≠ 0 → b.isSome = true)) (fun R h H => ⟨hA.isSome (HP.sep_left H), hB.isSome (HP.sep_right H)⟩) fun ⟨ha, hb⟩ => ?_
  refine tri_of_tree (ρ := [.a a, .n n, .n c, .p Sa, .a b, .n m, .n d, .p Sb]) mixed Tryz.func30 tree_same01 ?_
  unfold t_same01
  simp only [T.den, E.prop, E.den, RX.look, F1.app, F2.app, Uni.int_i, Uni.nat_n, Uni.bool_c, Uni.str_s, Uni.adr_a, Uni.val_v, Uni.hp_p, hden, cden, V.den, W.den, A.den, BR.den, SA.den, FV.den, capV, exs, exP, allP, Cur.app, List.map_cons, List.map_nil, List.cons_append, List.nil_append, List.drop_succ_cons, List.drop_zero, List.length_cons, List.length_nil, Nat.zero_add, Nat.reduceAdd, Int.neg_neg, Bool.not_not, List.append_nil, Nat.add_zero, List.getElem?_cons_zero, List.getElem?_cons_succ, Decidable.not_not, semW_eq, semW_load, semW_store, semW_storeC, semW_append, semW_lookup, semW_lookupC, semW_update, semW_updateC, semW_updateK, semW_delete, semW_range, semW_next, semW_entry, semW_nil, ne_eq, Nat.reduceEqDiff, not_false_eq_true]
  refine ⟨fun h => .of fun R h' H => ⟨?_, H⟩, fun h => ?_⟩
  · rw [decide_eq_false]
    intro e; subst e; omega
  have hnm : n = m := by omega
  subst hnm
  refine ⟨fun _ i => ∃ k : Nat, i = k ∧ k ≤ n ∧ la.take k = lb.take k, fun _ i => n - i.toNat, ⟨0, rfl, Nat.zero_le _, rfl⟩, ?_⟩
  rintro x _ ⟨k, rfl, hk, hpre⟩
  refine ⟨fun hlt => ⟨by omega, fun _ => ⟨ha (by omega), fun _ => ?_⟩⟩, fun hge => .of fun R h' H => ⟨?_, H⟩⟩
  · obtain ⟨x, hx⟩ := getN (l := la) (k := k) (by omega)
    obtain ⟨y, hy⟩ := getN (l := lb) (k := k) (by omega)
    have ra := load1_ok und8b agg8 sz8 hA.rd (k := (k : Int).toNat * 1) (off := 0) (v := u8v x) (by rw [Int.toNat_natCast, Nat.mul_one, Nat.add_zero, List.getElem?_map, hx]; rfl)
    have rb := load1_ok und8b agg8 sz8 hB.rd (k := (k : Int).toNat * 1) (off := 0) (v := u8v y) (by rw [Int.toNat_natCast, Nat.mul_one, Nat.add_zero, List.getElem?_map, hy]; rfl)
    refine ⟨_, ra, by omega, fun _ => ⟨hb (by omega), fun _ => ⟨_, rb, fun h1 => .of fun R h' H => ⟨by rw [decide_eq_false (get_ne hx hy fun e => h1 (by rw [e]))], H⟩, fun h1 => ⟨inI64' _ (by omega) (by omega), fun _ => ⟨⟨k + 1, by omega, by omega, take_eq hx hy hpre (UInt8.toNat_inj.1 (by omega))⟩, by dsimp only; omega⟩⟩⟩⟩⟩
  · have hke : k = n := by omega
    subst hke
    rw [List.take_of_length_le (by omega), List.take_of_length_le (by omega)] at hpre
    rw [decide_eq_true hpre]
theorem sameTexts_ok (a : Option Addr) (n c : Nat) (la : List Nm) (b : Option Addr) (m d : Nat) (lb : List Nm) (Sa Sb : HP) (hA : RdL Sa a n (la.map sE)) (hB : RdL Sb b m (lb.map sE)) (hla : la.length = n) (hlb : lb.length = m) (hn : n ≤ 140737488355328) :
    Tri Tryz.prog 76 #[.slice a n c, .slice b m d] (HP.sep Sa Sb) (fun v => HP.and (v = .bool (decide (la = lb))) (HP.sep Sa Sb)) := by
  refine Tri.fact (φ := (n ≠ 0 → a.isSome = true) ∧ (m ≠ 0 → b.isSome = true)) (fun R h H => ⟨hA.isSome (HP.sep_left H), hB.isSome (HP.sep_right H)⟩) fun ⟨ha, hb⟩ => ?_
  refine tri_of_tree (ρ := [.a a, .n n, .n c, .p Sa, .a b, .n m, .n d, .p Sb]) mixed Tryz.func76 tree_sameTexts ?_
  unfold t_sameTexts
  simp only [T.den, E.prop, E.den, RX.look, F1.app, F2.app, Uni.int_i, Uni.nat_n, Uni.bool_c, Uni.str_s, Uni.adr_a, Uni.val_v, Uni.hp_p, hden, cden, V.den, W.den, A.den, BR.den, SA.den, FV.den, capV, exs, exP, allP, Cur.app, List.map_cons, List.map_nil, List.cons_append, List.nil_append, List.drop_succ_cons, List.drop_zero, List.length_cons, List.length_nil, Nat.zero_add, Nat.reduceAdd, Int.neg_neg, Bool.not_not, List.append_nil, Nat.add_zero, List.getElem?_cons_zero, List.getElem?_cons_succ, Decidable.not_not, semW_eq, semW_load, semW_store, semW_storeC, semW_append, semW_lookup, semW_lookupC, semW_update, semW_updateC, semW_updateK, semW_delete, semW_range, semW_next, semW_entry, semW_nil, ne_eq, Nat.reduceEqDiff, not_false_eq_true]
  refine ⟨fun h => .of fun R h' H => ⟨?_, H⟩, fun h => ?_⟩
  · rw [decide_eq_false]
    intro e; subst e; omega
  have hnm : n = m := by omega
  subst hnm
  refine ⟨fun _ i => ∃ k : Nat, i = k ∧ k ≤ n ∧ la.take k = lb.take k, fun _ i => n - i.toNat, ⟨0, rfl, Nat.zero_le _, rfl⟩, ?_⟩
  rintro x _ ⟨k, rfl, hk, hpre⟩
  refine ⟨fun hlt => ⟨by omega, fun _ => ⟨ha (by omega), fun _ => ?_⟩⟩, fun hge => .of fun R h' H => ⟨?_, H⟩⟩
  · obtain ⟨x, hx⟩ := getN (l := la) (k := k) (by omega)
    obtain ⟨y, hy⟩ := getN (l := lb) (k := k) (by omega)
    have ra := loadStr hA.rd (k := (k : Int).toNat) hx
    have rb := loadStr hB.rd (k := (k : Int).toNat) hy
    refine ⟨_, ra, by omega, fun _ => ⟨hb (by omega), fun _ => ⟨_, rb, fun h1 => .of fun R h' H => ⟨by rw [decide_eq_false (get_ne hx hy h1)], H⟩, fun h1 => ⟨inI64' _ (by omega) (by omega), fun _ => ⟨⟨k + 1, by omega, by omega, take_eq hx hy hpre h1⟩, by dsimp only; omega⟩⟩⟩⟩⟩
  · have hke : k = n := by omega
    subst hke
    rw [List.take_of_length_le (by omega), List.take_of_length_le (by omega)] at hpre
    rw [decide_eq_true hpre]
theorem sameAnswer_ok (r s : AnsM) (da1 : Option Addr) (dc1 : Nat) (na1 : Option Addr) (nc1 : Nat) (da2 : Option Addr) (dc2 : Nat) (na2 : Option Addr) (nc2 : Nat) (D1 N1 D2 N2 : HP)
    (hD1 : RdL D1 da1 r.data.length (r.data.map u8v)) (hN1 : RdL N1 na1 r.names.length (r.names.map sE)) (hD2 : RdL D2 da2 s.data.length (s.data.map u8v)) (hN2 : RdL N2 na2 s.names.length (s.names.map sE)) (hb1 : r.data.length ≤ 140737488355328) (hb2 : r.names.length ≤ 140737488355328) :
    Tri Tryz.prog 21 #[r.at da1 dc1 na1 nc1, s.at da2 dc2 na2 nc2] (HP.sep D1 (HP.sep N1 (HP.sep D2 N2)))
      (fun v => HP.and (v = .bool (decide (r = s))) (HP.sep D1 (HP.sep N1 (HP.sep D2 N2)))) := by
  refine tri_of_tree (ρ := [.i r.err, .i r.kind, .i r.size, .i r.links, .a da1, .n r.data.length, .n dc1, .p D1, .a na1, .n r.names.length, .n nc1, .p N1, .i s.err, .i s.kind, .i s.size, .i s.links, .a da2, .n s.data.length, .n dc2, .p D2, .a na2, .n s.names.length, .n nc2, .p N2]) mixed Tryz.func21 tree_sameAnswer ?_
  unfold t_sameAnswer
  simp only [T.den, E.prop, E.den, RX.look, F1.app, F2.app, Uni.int_i, Uni.nat_n, Uni.bool_c, Uni.str_s, Uni.adr_a, Uni.val_v, Uni.hp_p, hden, cden, V.den, W.den, A.den, BR.den, SA.den, FV.den, capV, exs, exP, allP, Cur.app, List.map_cons, List.map_nil, List.cons_append, List.nil_append, List.drop_succ_cons, List.drop_zero, List.length_cons, List.length_nil, Nat.zero_add, Nat.reduceAdd, Int.neg_neg, Bool.not_not, List.append_nil, Nat.add_zero, List.getElem?_cons_zero, List.getElem?_cons_succ, Decidable.not_not, semW_eq, semW_load, semW_store, semW_storeC, semW_append, semW_lookup, semW_lookupC, semW_update, semW_updateC, semW_updateK, semW_delete, semW_range, semW_next, semW_entry, semW_nil, ne_eq, Nat.reduceEqDiff, not_false_eq_true]
  have no : ∀ {φ : Prop}, (r = s → φ) → ¬ φ → HP.ent (HP.sep D1 (HP.sep N1 (HP.sep D2 N2))) (HP.and (Value.bool false = .bool (decide (r = s))) (HP.sep D1 (HP.sep N1 (HP.sep D2 N2)))) := fun h1 h2 => .of fun R h H => ⟨by rw [decide_eq_false fun e => h2 (h1 e)], H⟩
  intro _ _
  refine ⟨fun e1 => ⟨fun e2 => ⟨fun e3 => ⟨fun e4 => ?_, no fun e => by rw [e]⟩, no fun e => by rw [e]⟩, no fun e => by rw [e]⟩, no fun e => by rw [e]⟩
  refine (same01_ok da1 _ dc1 r.data da2 _ dc2 s.data D1 D2 hD1 hD2 rfl rfl hb1).weak (fun _ _ h => h) ?_
  rintro v R h ⟨rfl, H⟩
  refine ⟨_, rfl, ⟨fun e5 => ?_, fun e5 => ?_⟩, H⟩
  · refine (sameTexts_ok na1 _ nc1 r.names na2 _ nc2 s.names N1 N2 hN1 hN2 rfl rfl hb2).weak (fun _ _ h => h) ?_
    rintro v R h ⟨rfl, H⟩
    refine ⟨_, rfl, .of fun R h H => ⟨?_, H⟩, H⟩
    have e5' := of_decide_eq_true e5
    have : (r.names = s.names) ↔ (r = s) := ⟨fun e6 => by
      obtain ⟨a1, a2, a3, a4, a5, a6⟩ := r
      obtain ⟨b1, b2, b3, b4, b5, b6⟩ := s
      simp only at *
      subst e1 e2 e3 e4 e5' e6
      rfl, fun e => by rw [e]⟩
    simp only [this]
  · refine .of fun R h H => ⟨?_, H⟩
    rw [decide_eq_false]
    intro e
    subst e
    exact e5 (by simp)
theorem strB {x y : List UInt8} : ((⟨x.toArray⟩ : ByteArray).toList == (⟨y.toArray⟩ : ByteArray).toList) = decide (x = y) := by
  rw [ByteArray.toList_eq, ByteArray.toList_eq]
  by_cases e : x = y
  · subst e; simp
  · simp [e]
theorem run_ent_eq {w : World} (r r' : Nm) (q q' : Int) : (Op.equal 140 (.agg #[sE r, .int .i64 q]) (.agg #[sE r', .int .i64 q'])).run Tryz.prog w = .ok (decide (r = r') && decide (q = q')) w := by
  have hs : Tryz.prog.stoodInHeld 140 = false := by kernel_rfl
  have hi : Tryz.prog.underlying 3 = some (.int .i64) := by kernel_rfl
  have ht : Tryz.prog.underlying 9 = some .string := by kernel_rfl
  have e2 : ∀ n, (Op.equalIn (n + 2) 140 (.agg #[sE r, .int .i64 q]) (.agg #[sE r', .int .i64 q'])).run Tryz.prog w = .ok (decide (r = r') && decide (q = q')) w := fun n => by
    rw [Op.equalIn]
    simp only [Sem.run_bind, RX.run_underlying Tryz.underlying140, Result.andThen_ok]
    simp [program, Sem.run, hs, Result.andThen]
    have pt : ∀ (cs : Array Value) (off : Nat) (v : Value), cs[off]? = some v → (part 9 cs off).run Tryz.prog w = .ok v w := fun cs off v h => by
      have ha : aggT Tryz.prog 9 = false := by kernel_rfl
      simp only [part, Sem.run_bind, RX.run_isAgg ht, Result.andThen_ok, ha, Bool.false_eq_true, if_false, h]
      rfl
    have pi : ∀ (cs : Array Value) (off : Nat) (v : Value), cs[off]? = some v → (part 3 cs off).run Tryz.prog w = .ok v w := fun cs off v h => by
      have ha : aggT Tryz.prog 3 = false := by kernel_rfl
      simp only [part, Sem.run_bind, RX.run_isAgg hi, Result.andThen_ok, ha, Bool.false_eq_true, if_false, h]
      rfl
    have p0 : ∀ (a : Nm) (b : Int), Sem.run Tryz.prog (part 9 #[sE a, Value.int IntKind.i64 b] 0) w = .ok (sE a) w := fun a b => pt _ _ _ rfl
    have p1 : ∀ (a : Nm) (b : Int), Sem.run Tryz.prog (part 3 #[sE a, Value.int IntKind.i64 b] 1) w = .ok (.int .i64 b) w := fun a b => pi _ _ _ rfl
    have eqi : ∀ (n : Nat) (a b : Int), (Op.equalIn (n + 1) 3 (.int .i64 a) (.int .i64 b)).run Tryz.prog w = .ok (decide (a = b)) w := fun n a b => by
      simp only [Op.equalIn, Sem.run_bind, RX.run_underlying hi, Result.andThen_ok, if_true, Sem.run_pure]
      rfl
    have eqs : ∀ (n : Nat) (a b : Nm), (Op.equalIn (n + 1) 9 (sE a) (sE b)).run Tryz.prog w = .ok (decide (a = b)) w := fun n a b => by
      show (Op.equalIn (n + 1) 9 (.string _) (.string _)).run Tryz.prog w = _
      rw [run_equalIn_string w n 9 _ _ ht, strB]
    simp only [p0, eqs]
    by_cases h1 : r = r'
    · simp [h1, Sem.run_bind, p1, eqi]
      by_cases h2 : q = q'
      · simp [h2]
      · simp [h2]
    · simp [h1]
  exact e2 9998
theorem neqEnt {i j : Nat} {ty u : TypeId} (h : i ≠ j) {r r' : Nm} {q q' : Int} {A : HP} :
    ORead Tryz.prog (semW (.binOp .neq 140 (.tmp i) (.tmp j) u) ty [(i, .agg #[sE r, .int .i64 q]), (j, .agg #[sE r', .int .i64 q'])]) A (.bool (!(decide (r = r') && decide (q = q')))) := fun w R hh F s _ => by
  have h' : (i == j) = false := by simpa using h
  have hg : Tryz.prog.eqGuardType Tryz.prog.depth 140 = false := by kernel_rfl
  simp only [semW, execOp, arW, List.find?_cons, beq_self_eq_true, h']
  simp [eqGuard, binOp, hg, program, Sem.run_bind, Sem.run, Result.andThen, run_ent_eq]
instance instNd : DecidableEq Nd := fun r s => decidable_of_iff (r.num = s.num ∧ r.kind = s.kind ∧ r.links = s.links ∧ r.data = s.data ∧ r.ents = s.ents) ⟨fun ⟨h1, h2, h3, h4, h5⟩ => by cases r; cases s; simp only at h1 h2 h3 h4 h5; subst h1 h2 h3 h4 h5; rfl, fun h => by subst h; exact ⟨rfl, rfl, rfl, rfl, rfl⟩⟩
theorem nodesData {a : Option Addr} {n : Nat} {es : List NodeE} {x : NodeE} (hx : x ∈ es) : RdL (Ls kNode a n es) x.da x.nd.data.length (x.nd.data.map u8v) :=
  ⟨Rd.impR (RdL.ro 1 x.da x.nd.data.length (x.nd.data.map u8v)).rd fun R h H => (H.2.2 x hx).1, fun R h H e => (RdL.ro 1 x.da x.nd.data.length (x.nd.data.map u8v)).none R h (H.2.2 x hx).1 e⟩
theorem undEnt : ∃ d, Tryz.prog.underlying 140 = some d := Option.isSome_iff_exists.1 (by kernel_rfl)
theorem aggEnt : aggT Tryz.prog 140 = true := by kernel_rfl
theorem szEnt : szT Tryz.prog 140 = 2 := by kernel_rfl
theorem loadEnt {a : Option Addr} {n : Nat} {es : List NodeE} {x : NodeE} (hx : x ∈ es) {k : Nat} {e : Nm × Nat} (hk : x.nd.ents[k]? = some e) : ORead Tryz.prog (loadS 140 (.pointer (x.ea.map fun y => (y.add (k * 2)).add 0))) (Ls kNode a n es) (.agg #[sE e.1, .int .i64 e.2]) := by
  obtain ⟨d, hd⟩ := undEnt
  exact ORead.ent (.of fun R h H => (H.2.2 x hx).2) (Ls.load (K := kEnt) hd aggEnt szEnt hk)
theorem nodesEa {a : Option Addr} {n : Nat} {es : List NodeE} {R h : PH} (H : (Ls kNode a n es).p R h) : ∀ x ∈ es, x.nd.ents.length ≠ 0 → x.ea.isSome = true := fun x hx hn => Ls.some (H.2.2 x hx).2 hn
set_option maxHeartbeats 1000000 in
theorem sameNodes_ok (a : Option Addr) (n c : Nat) (es : List NodeE) (b : Option Addr) (m d : Nat) (fs : List NodeE) (hb : ∀ x ∈ es, x.nd.data.length ≤ 140737488355328 ∧ x.nd.ents.length ≤ 140737488355328) (hn : n ≤ 140737488355328) :
    Tri Tryz.prog 20 #[.slice a n c, .slice b m d] (HP.sep (Ls kNode a n es) (Ls kNode b m fs)) (fun v => HP.and (v = .bool (decide (es.map (·.nd) = fs.map (·.nd)))) (HP.sep (Ls kNode a n es) (Ls kNode b m fs))) := by
  refine Tri.fact (φ := (es.length = n ∧ fs.length = m) ∧ ((n ≠ 0 → a.isSome = true) ∧ (m ≠ 0 → b.isSome = true)) ∧ (∀ x ∈ es, x.nd.ents.length ≠ 0 → x.ea.isSome = true) ∧ (∀ x ∈ fs, x.nd.ents.length ≠ 0 → x.ea.isSome = true)) (fun R h H => ⟨⟨(HP.sep_left H).1, (HP.sep_right H).1⟩, ⟨fun h => Ls.some (HP.sep_left H) h, fun h => Ls.some (HP.sep_right H) h⟩, nodesEa (HP.sep_left H), nodesEa (HP.sep_right H)⟩) fun ⟨⟨hl, hm⟩, ⟨ha, hb'⟩, hea, heb⟩ => ?_
  refine tri_of_tree (ρ := [.a a, .n n, .n c, .p (Ls kNode a n es), .a b, .n m, .n d, .p (Ls kNode b m fs)]) mixed Tryz.func20 tree_sameNodes ?_
  unfold t_sameNodes
  simp only [T.den, E.prop, E.den, RX.look, F1.app, F2.app, Uni.int_i, Uni.nat_n, Uni.bool_c, Uni.str_s, Uni.adr_a, Uni.val_v, Uni.hp_p, hden, cden, V.den, W.den, A.den, BR.den, SA.den, FV.den, capV, exs, exP, allP, Cur.app, List.map_cons, List.map_nil, List.cons_append, List.nil_append, List.drop_succ_cons, List.drop_zero, List.length_cons, List.length_nil, Nat.zero_add, Nat.reduceAdd, Int.neg_neg, Bool.not_not, List.append_nil, Nat.add_zero, List.getElem?_cons_zero, List.getElem?_cons_succ, Decidable.not_not, semW_eq, semW_load, semW_store, semW_storeC, semW_append, semW_lookup, semW_lookupC, semW_update, semW_updateC, semW_updateK, semW_delete, semW_range, semW_next, semW_entry, semW_nil, ne_eq, Nat.reduceEqDiff, not_false_eq_true]
  have no : es.map (·.nd) ≠ fs.map (·.nd) → HP.ent (HP.sep (Ls kNode a n es) (Ls kNode b m fs)) (HP.and (Value.bool false = .bool (decide (es.map (·.nd) = fs.map (·.nd)))) (HP.sep (Ls kNode a n es) (Ls kNode b m fs))) := fun h => .of fun R h' H => ⟨by rw [decide_eq_false h], H⟩
  refine ⟨fun h => no fun e => ?_, fun h => ?_⟩
  · have := congrArg List.length e
    simp only [List.length_map] at this
    omega
  have hnm : n = m := by omega
  refine ⟨fun _ i => ∃ k : Nat, i = k ∧ k ≤ n ∧ (es.map (·.nd)).take k = (fs.map (·.nd)).take k, fun _ i => n - i.toNat, ⟨0, rfl, Nat.zero_le _, rfl⟩, ?_⟩
  rintro x0 _ ⟨k, rfl, hk, hpre⟩
  refine ⟨fun hlt => ?_, fun hge => .of fun R h' H => ⟨?_, H⟩⟩
  · obtain ⟨x, hx⟩ := getN (l := es) (k := k) (by omega)
    obtain ⟨y, hy⟩ := getN (l := fs) (k := k) (by omega)
    have hxm := List.mem_of_getElem? hx
    have hym := List.mem_of_getElem? hy
    have hx' : (es.map (·.nd))[k]? = some x.nd := by rw [List.getElem?_map, hx]; rfl
    have hy' : (fs.map (·.nd))[k]? = some y.nd := by rw [List.getElem?_map, hy]; rfl
    have hxb := hb x hxm
    refine ⟨fun _ _ n2 k2 l2 da2 dl2 dc2 ea2 el2 ec2 n1 k1 l1 da1 dl1 dc1 ea1 el1 ec1 => n2 = y.nd.num ∧ k2 = y.nd.kind ∧ l2 = y.nd.links ∧ da2 = y.da ∧ dl2 = y.nd.data.length ∧ dc2 = y.dc ∧ ea2 = y.ea ∧ el2 = y.nd.ents.length ∧ ec2 = y.ec ∧ n1 = x.nd.num ∧ k1 = x.nd.kind ∧ l1 = x.nd.links ∧ da1 = x.da ∧ dl1 = x.nd.data.length ∧ dc1 = x.dc ∧ ea1 = x.ea ∧ el1 = x.nd.ents.length ∧ ec1 = x.ec, ?_, ?_⟩
    · refine ⟨by omega, fun _ => ⟨ha (by omega), fun _ => ⟨x.nd.num, x.nd.kind, x.nd.links, x.da, x.nd.data.length, x.dc, x.ea, x.nd.ents.length, x.ec, loadNode hx, by omega, fun _ => ⟨hb' (by omega), fun _ => ⟨y.nd.num, y.nd.kind, y.nd.links, y.da, y.nd.data.length, y.dc, y.ea, y.nd.ents.length, y.ec, loadNode hy, ?_⟩⟩⟩⟩⟩
      exact ⟨fun _ _ => ⟨rfl, rfl, rfl, rfl, rfl, rfl, rfl, rfl, rfl, rfl, rfl, rfl, rfl, rfl, rfl, rfl, rfl, rfl⟩, fun _ _ => ⟨rfl, rfl, rfl, rfl, rfl, rfl, rfl, rfl, rfl, rfl, rfl, rfl, rfl, rfl, rfl, rfl, rfl, rfl⟩⟩
    rintro _ _ _ _ _ _ _ _ _ _ _ _ _ _ _ _ _ _ _ _ ⟨rfl, rfl, rfl, rfl, rfl, rfl, rfl, rfl, rfl, rfl, rfl, rfl, rfl, rfl, rfl, rfl, rfl, rfl⟩
    have dif : x.nd ≠ y.nd → es.map (·.nd) ≠ fs.map (·.nd) := get_ne hx' hy'
    refine ⟨fun h => no (dif fun e => h (by rw [e])), fun e1 => ⟨fun h => no (dif fun e => h (by rw [e])), fun e2 => ⟨fun h => no (dif fun e => h (by rw [e])), fun e3 => ?_⟩⟩⟩
    refine (same01_ok x.da _ x.dc x.nd.data y.da _ y.dc y.nd.data (Ls kNode a n es) (Ls kNode b m fs) (nodesData hxm) (nodesData hym) rfl rfl hxb.1).weak (fun _ _ h => h) ?_
    rintro v R h ⟨rfl, H⟩
    refine ⟨_, rfl, ⟨fun h => no (dif fun e => h (by rw [e]; simp)), fun e4 => ⟨fun h => no (dif fun e => h (by rw [e])), fun e5 => ?_⟩⟩, H⟩
    have e4' := of_decide_eq_true e4
    clear H
    refine ⟨fun _ i => ∃ j : Nat, i = j ∧ j ≤ x.nd.ents.length ∧ x.nd.ents.take j = y.nd.ents.take j, fun _ i => x.nd.ents.length - i.toNat, ⟨0, rfl, Nat.zero_le _, rfl⟩, ?_⟩
    rintro x1 _ ⟨j, rfl, hj, hpre2⟩
    refine ⟨fun hlt2 => ⟨by omega, fun _ => ⟨hea x hxm (by omega), fun _ => ?_⟩⟩, fun hge2 => ?_⟩
    · obtain ⟨p, hp⟩ := getN (l := x.nd.ents) (k := j) (by omega)
      obtain ⟨q, hq⟩ := getN (l := y.nd.ents) (k := j) (by omega)
      refine ⟨p.1, p.2, loadEnt hxm hp, by omega, fun _ => ⟨heb y hym (by omega), fun _ => ⟨q.1, q.2, loadEnt hym hq, _, neqEnt (by decide), fun h => no (dif fun e => ?_), fun h => ⟨inI64' _ (by omega) (by omega), fun _ => ⟨⟨j + 1, by omega, by omega, take_eq hp hq hpre2 ?_⟩, by dsimp only; omega⟩⟩⟩⟩⟩
      · have : p = q := by rw [e] at hp; rw [hp] at hq; exact Option.some.inj hq
        subst this
        simp at h
      · simp at h
        exact Prod.ext h.1 (by have := h.2; omega)
    · have e6 : x.nd.ents = y.nd.ents := by
        rw [List.take_of_length_le (by omega), List.take_of_length_le (by omega)] at hpre2
        exact hpre2
      have e7 : x.nd = y.nd := by
        obtain ⟨⟨a1, a2, a3, a4, a5⟩, _, _, _, _⟩ := x
        obtain ⟨⟨b1, b2, b3, b4, b5⟩, _, _, _, _⟩ := y
        simp only at e1 e2 e3 e4' e6 ⊢
        have : a1 = b1 := by omega
        subst this e2 e3 e4' e6
        rfl
      exact ⟨inI64' _ (by omega) (by omega), fun _ => ⟨⟨k + 1, by omega, by omega, take_eq hx' hy' hpre e7⟩, by dsimp only; omega⟩⟩
  · have hke : k = n := by omega
    subst hke
    rw [List.take_of_length_le (by simp; omega), List.take_of_length_le (by simp; omega)] at hpre
    rw [decide_eq_true hpre]
end Go.Proofs.YtdieogcemmnaaaaGreatDoor

/- A byte stored into a row of one's own; how great nodes are. No condition. -/
namespace Go.Proofs.YtdieogcemmnaaaaGreatDoor
open Go.Proofs.YtdieogcemmnaaaaGreatDoor RX
set_option maxRecDepth 100000

theorem stoByte {a : Option Addr} {n c : Nat} {l : List UInt8} {k : Nat} (x : UInt8) (hk : k < n) {P : HP} (hP : HP.ent P (OwB a n c l)) {B : Value → HP} (post : ∀ R h, (OwB a n c (l.set k x)).p R h → (B (.tuple #[])).p R h) :
    OTri Tryz.prog (storeS 5 (.pointer (a.map fun y => (y.add (k * 1)).add 0)) (.int .u8 x.toNat)) P B := by
  obtain ⟨i, hi, h1, h2, h3⟩ := info_parts info8
  have := store_ok (t := 5) hi 5 1 a n c (l.map u8v) (k * 1) 0 (u8v x) [u8v x] rfl (by rw [h2]; rfl) (by simp) (by simp [u8v, Value.oneCell']) (by simp; omega)
  refine (OTri.fact (φ := l.length = n) (fun R h H => by have := H.1; simpa using this) fun hl => ?_ : OTri _ _ (OwB a n c l) B).conseq (K := HP.tt) (hP.trans (.of fun R h H => HP.sep_tt H)) fun v => .of fun R h H => HP.sep_left H
  refine this.weak (fun _ _ h => h) ?_
  rintro v R h ⟨rfl, H⟩
  refine post R h ?_
  have e : (l.map u8v).take (k * 1 + 0) ++ [u8v x] ++ (l.map u8v).drop (k * 1 + 0 + [u8v x].length) = (l.set k x).map u8v := by
    rw [List.map_set, List.set_eq_take_append_cons_drop, if_pos (by simp; omega)]
    simp
  rw [e] at H
  exact H
theorem esBN {B : Nat} (hB : B ≤ 100000) {T : List Nd} (wf : TWf B T) {es : List NodeE} (he : es.map (·.nd) = T) : ∀ x ∈ es, x.nd.data.length ≤ 140737488355328 ∧ x.nd.ents.length ≤ 140737488355328 := fun x hx => by
  have hm : x.nd ∈ T := by rw [← he]; exact List.mem_map.2 ⟨x, hx, rfl⟩
  have := wf.good _ hm
  have := this.data
  have := (wf.good _ hm).efew
  omega
end Go.Proofs.YtdieogcemmnaaaaGreatDoor

/- Law 6: the same bytes for the same nodes; any one changed byte is told. No condition. -/
namespace Go.Proofs.YtdieogcemmnaaaaGreatDoor
set_option linter.unusedSimpArgs false
set_option linter.unusedVariables false
open Go.Proofs.YtdieogcemmnaaaaGreatDoor RX
set_option maxRecDepth 100000

theorem root_whole : wholeS [rootNd] = true := by
  have h0 : isDir [rootNd] 0 := ⟨rootNd, rfl, rfl⟩
  refine wholeS_yes ⟨h0, fun n hn e he => ?_, fun n hn h => ?_⟩
  · obtain rfl := List.mem_singleton.1 hn; cases he
  · obtain rfl := List.mem_singleton.1 hn; exact absurd rfl h
theorem speaks06_true : Tri Tryz.prog 27 #[] HP.tt (fun v => HP.pure (v = .bool true)) := speaks06_ok wholeS (fun _ _ h1 h2 => whole_ok h1 h2) root_whole
theorem snapS_iff {B B' : Nat} (hB : B ≤ 100000) (hB' : B' ≤ 100000) {T1 T2 : List Nd} (wf : TWf B T1) (wf' : TWf B' T2) {u v : Int} (hu : -9223372036854775808 ≤ u ∧ u ≤ 9223372036854775807) (hv : -9223372036854775808 ≤ v ∧ v ≤ 9223372036854775807) :
    snapS u T1 = snapS v T2 ↔ u = v ∧ T1 = T2 := ⟨snapS_inj hB hB' wf wf' hu hv, fun ⟨h1, h2⟩ => by rw [h1, h2]⟩
theorem snapS_small {B : Nat} (hB : B ≤ 121) {T1 : List Nd} (wf : TWf B T1) (u : Int) : (snapS u T1).length ≤ 900000 := by
  have h64 := few_nodes wf
  have hfl : (T1.flatMap nodeB).length ≤ 64 * (600 + B * 100) := Nat.le_trans (flat_len_le nodeB _ T1 fun x hx => nodeB_le (wf.good x hx)) (Nat.mul_le_mul_right _ h64)
  unfold snapS
  rw [wrapS_len]
  unfold nodesB
  simp only [List.length_append, beN_len]
  omega
set_option maxHeartbeats 4000000 in
theorem snapSame_ok (a : Option Addr) (n c : Nat) (L : List CallE) (b : Option Addr) (m d : Nat) (M : List CallE) (u v : Int) (hu : -9223372036854775808 ≤ u ∧ u ≤ 9223372036854775807) (hv : -9223372036854775808 ≤ v ∧ v ≤ 9223372036854775807) :
    Tri Tryz.prog 9 #[.slice a n c, .slice b m d, .int .i64 u, .int .i64 v] (HP.sep (Ls kCall a n L) (Ls kCall b m M)) (fun v => HP.pure (v = .bool true)) := by
  refine Tri.fact (φ := (L.length = n ∧ (n ≠ 0 → a.isSome = true) ∧ dataAt L) ∧ (M.length = m ∧ (m ≠ 0 → b.isSome = true) ∧ dataAt M)) (fun R h H => ⟨⟨(HP.sep_left H).1, fun hn => Ls.some (HP.sep_left H) hn, dataAt_of (HP.sep_left H)⟩, (HP.sep_right H).1, fun hn => Ls.some (HP.sep_right H) hn, dataAt_of (HP.sep_right H)⟩) fun ⟨⟨hl, ha, hL⟩, hm, hb, hM⟩ => ?_
  refine tri_of_tree (ρ := [.a a, .n n, .n c, .p (Ls kCall a n L), .a b, .n m, .n d, .p (Ls kCall b m M), .i u, .i v]) mixed Tryz.func9 tree_snapSame ?_
  unfold t_snapSame
  simp (maxSteps := 3000000) only [T.den, E.prop, E.den, RX.look, F1.app, F2.app, Uni.int_i, Uni.nat_n, Uni.bool_c, Uni.str_s, Uni.adr_a, Uni.val_v, Uni.hp_p, hden, cden, V.den, W.den, A.den, BR.den, SA.den, FV.den, capV, exs, exP, allP, Cur.app, List.map_cons, List.map_nil, List.cons_append, List.nil_append, List.drop_succ_cons, List.drop_zero, List.length_cons, List.length_nil, Nat.zero_add, Nat.reduceAdd, Int.neg_neg, Bool.not_not, List.append_nil, Nat.add_zero, List.getElem?_cons_zero, List.getElem?_cons_succ, Decidable.not_not, semW_eq, semW_load, semW_store, semW_storeC, semW_append, semW_lookup, semW_lookupC, semW_update, semW_updateC, semW_updateK, semW_delete, semW_range, semW_next, semW_entry, semW_nil, ne_eq, Nat.reduceEqDiff, not_false_eq_true]
  refine speaks06_true.weak (fun _ _ _ => trivial) ?_
  rintro v' R h rfl
  refine ⟨true, rfl, ⟨fun h => by simp at h, fun _ => ?_⟩, trivial⟩
  refine (great04_ok a n c L).weak (fun _ _ h => h) ?_
  rintro v' R h ⟨rfl, H⟩
  refine ⟨greatB L, rfl, ⟨fun _ => .of fun R h H => trivial, fun hg => ?_⟩, H⟩
  clear H
  refine (great04_ok b m d M).weak (fun _ _ h => h) ?_
  rintro v' R h ⟨rfl, H⟩
  refine ⟨greatB M, rfl, ⟨fun _ => .of fun R h H => trivial, fun hg2 => ?_⟩, H⟩
  clear H
  have hL120 := great_len hg
  have hM120 := great_len hg2
  refine tNew_ok.weak (fun _ _ h => h) ?_
  rintro v' R h ⟨x, t0, ⟨rfl, h0⟩, H⟩
  refine ⟨x, TRep x t0, rfl, ?_, H⟩
  clear H
  refine tNew_ok.weak (fun _ _ h => h) ?_
  rintro v' R h ⟨y, s0, ⟨rfl, g0⟩, H⟩
  refine ⟨y, TRep y s0, rfl, ?_, H⟩
  clear H
  refine ⟨fun i P => ∃ k : Nat, i = k ∧ k ≤ n ∧ ∃ t : TS, TWf (k + 1) t.pub ∧ P = TRep x t, fun i _ => n - i.toNat, ⟨0, rfl, Nat.zero_le _, t0, by rw [h0]; exact newT_wf, rfl⟩, ?_⟩
  rintro _ _ ⟨k, rfl, hk, t, wf, rfl⟩
  refine ⟨fun hlt => ⟨by omega, fun _ => ⟨ha (by omega), fun _ => ?_⟩⟩, fun hge => ?_⟩
  · obtain ⟨e, he⟩ : ∃ x, L[k]? = some x := ⟨_, List.getElem?_eq_getElem (by omega)⟩
    have hxm := List.mem_of_getElem? he
    refine ⟨e.kind, e.path, e.other, e.off, e.n, e.da, e.data.length, e.dc, loadCall he, fun q => ?_⟩
    refine doL (by omega) wf e.m (Ls kCall a n L) e.data (callD_of hL hxm) fun t1 da dc na nc h1 => ?_
    have wf1 : TWf (k + 2) t1.pub := by rw [h1]; exact wf.do (by omega) _ _ _ _ _ _
    exact ⟨inI64' _ (by omega) (by omega), fun _ => ⟨⟨k + 1, by omega, by omega, t1, wf1, rfl⟩, by dsimp only; omega⟩⟩
  obtain rfl : k = n := by omega
  refine ⟨fun i P => ∃ j : Nat, i = j ∧ j ≤ m ∧ ∃ t : TS, TWf (j + 1) t.pub ∧ P = TRep y t, fun i _ => m - i.toNat, ⟨0, rfl, Nat.zero_le _, s0, by rw [g0]; exact newT_wf, rfl⟩, ?_⟩
  rintro _ _ ⟨j, rfl, hj, s, wf2, rfl⟩
  refine ⟨fun hlt => ⟨by omega, fun _ => ⟨hb (by omega), fun _ => ?_⟩⟩, fun hge => ?_⟩
  · obtain ⟨e, he⟩ : ∃ x, M[j]? = some x := ⟨_, List.getElem?_eq_getElem (by omega)⟩
    have hxm := List.mem_of_getElem? he
    refine ⟨e.kind, e.path, e.other, e.off, e.n, e.da, e.data.length, e.dc, loadCall he, fun q => ?_⟩
    refine doL (by omega) wf2 e.m (Ls kCall b m M) e.data (callD_of hM hxm) fun t1 da dc na nc h1 => ?_
    have wf1 : TWf (j + 2) t1.pub := by rw [h1]; exact wf2.do (by omega) _ _ _ _ _ _
    exact ⟨inI64' _ (by omega) (by omega), fun _ => ⟨⟨j + 1, by omega, by omega, t1, wf1, rfl⟩, by dsimp only; omega⟩⟩
  obtain rfl : j = m := by omega
  have hk5 : k + 1 ≤ 121 := by omega
  have hj5 : j + 1 ≤ 121 := by omega
  have f1 := few_nodes wf
  have f2 := few_nodes wf2
  refine (tNodes_ok (by omega) wf).weak (fun _ _ h => h) ?_
  rintro v' R h ⟨na, nc, rfl, g1, g2, gd, gl1, gl2, ⟨es, hes, H1⟩, H2⟩
  refine ⟨na, t.pub.length, nc, Ls kNode na t.pub.length es, rfl, ?_, ⟨g1, g2, gd, gl1, gl2, H1, H2⟩⟩
  clear H1 H2
  refine (tNodes_ok (by omega) wf2).weak (fun _ _ h => h) ?_
  rintro v' R h ⟨nb, nd, rfl, g1, g2, gd, gl1, gl2, ⟨fs, hfs, H1⟩, H2⟩
  refine ⟨nb, s.pub.length, nd, Ls kNode nb s.pub.length fs, rfl, ?_, ⟨g1, g2, gd, gl1, gl2, H1, H2⟩⟩
  clear H1 H2
  refine (sameNodes_ok na t.pub.length nc es nb s.pub.length nd fs (esBN (by omega) wf hes) (by omega)).weak (fun _ _ h => h) ?_
  rintro v' R h ⟨rfl, H⟩
  refine ⟨_, rfl, ?_, H⟩
  clear H
  refine (encode_ok (by omega) wf u).weak (fun _ _ h => h) ?_
  rintro v' R h ⟨pa, pc, rfl, H⟩
  refine ⟨pa, _, pc, OwB pa _ pc (snapS u t.pub), rfl, ?_, HP.sep_comm H⟩
  clear H
  refine (encode_ok (by omega) wf2 u).weak (fun _ _ h => h) ?_
  rintro v' R h ⟨qa, qc, rfl, H⟩
  refine ⟨qa, _, qc, OwB qa _ qc (snapS u s.pub), rfl, ?_, HP.sep_comm H⟩
  clear H
  have z1 := snapS_small hk5 wf u
  refine (same01_ok pa _ pc (snapS u t.pub) qa _ qc (snapS u s.pub) _ _ (RdL.ow _ _ _ _ _ _) (RdL.ow _ _ _ _ _ _) rfl rfl (by omega)).weak (fun _ _ h => h) ?_
  rintro v' R h ⟨rfl, H⟩
  refine ⟨_, rfl, ⟨fun _ => ?_, fun hn => ?_⟩, H⟩
  · clear H
    refine (encode_ok (by omega) wf u).weak (fun _ _ h => h) ?_
    rintro v' R h ⟨pa, pc, rfl, H⟩
    refine ⟨pa, _, pc, OwB pa _ pc (snapS u t.pub), rfl, ?_, HP.sep_comm H⟩
    clear H
    refine (encode_ok (by omega) wf v).weak (fun _ _ h => h) ?_
    rintro v' R h ⟨qa, qc, rfl, H⟩
    refine ⟨qa, _, qc, OwB qa _ qc (snapS v t.pub), rfl, ?_, HP.sep_comm H⟩
    clear H
    refine (same01_ok pa _ pc (snapS u t.pub) qa _ qc (snapS v t.pub) _ _ (RdL.ow _ _ _ _ _ _) (RdL.ow _ _ _ _ _ _) rfl rfl (by omega)).weak (fun _ _ h => h) ?_
    rintro v' R h ⟨rfl, H⟩
    refine ⟨_, rfl, .of fun R h H => ?_, H⟩
    show Value.bool _ = _
    have := snapS_iff (by omega : k + 1 ≤ 100000) (by omega : k + 1 ≤ 100000) wf wf hu hv
    simp [this]
  · have := snapS_iff (by omega : k + 1 ≤ 100000) (by omega : j + 1 ≤ 100000) wf wf2 hu hu
    exact absurd (by simp [this, hes, hfs]) hn
theorem bxor8 (x y : UInt8) : bits .xor .u8 (x.toNat : Int) (y.toNat : Int) = ((x ^^^ y).toNat : Int) := by
  have e : bits .xor .u8 (x.toNat : Int) (y.toNat : Int) = IntKind.u8.wrap ((BitVec.ofInt 8 (x.toNat : Int) ^^^ BitVec.ofInt 8 (y.toNat : Int)).toNat : Int) := rfl
  have hx := x.toNat_lt
  have hy := y.toNat_lt
  rw [e, BitVec.ofInt_natCast, BitVec.ofInt_natCast, BitVec.toNat_xor, BitVec.toNat_ofNat, BitVec.toNat_ofNat, Nat.mod_eq_of_lt hx, Nat.mod_eq_of_lt hy, ← UInt8.toNat_xor]
  have hz := (x ^^^ y).toNat_lt
  exact wrap_in ⟨by show (0 : Int) ≤ _; omega, by show _ ≤ (255 : Int); omega⟩
theorem xor_ne {x y : UInt8} (h : y ≠ 0) : x ^^^ y ≠ x := fun e => h (by
  have := congrArg (fun z => x ^^^ z) e
  simpa [← UInt8.xor_assoc] using this)
theorem snapTurned_ok (u : Int) (a : Option Addr) (n c : Nat) (L : List CallE) (at' : Int) (z : UInt8) :
    Tri Tryz.prog 8 #[.int .i64 u, .slice a n c, .int .i64 at', .int .u8 z.toNat] (Ls kCall a n L) (fun v => HP.pure (v = .bool true)) := by
  refine Tri.fact (φ := L.length = n ∧ (n ≠ 0 → a.isSome = true) ∧ dataAt L) (fun R h H => ⟨H.1, fun hn => Ls.some H hn, dataAt_of H⟩) fun ⟨hl, ha, hL⟩ => ?_
  refine tri_of_tree (ρ := [.i u, .a a, .n n, .n c, .p (Ls kCall a n L), .i at', .i z.toNat]) mixed Tryz.func8 tree_snapTurned ?_
  unfold t_snapTurned
  simp (maxSteps := 3000000) only [T.den, E.prop, E.den, RX.look, F1.app, F2.app, Uni.int_i, Uni.nat_n, Uni.bool_c, Uni.str_s, Uni.adr_a, Uni.val_v, Uni.hp_p, hden, cden, V.den, W.den, A.den, BR.den, SA.den, FV.den, capV, exs, exP, allP, Cur.app, List.map_cons, List.map_nil, List.cons_append, List.nil_append, List.drop_succ_cons, List.drop_zero, List.length_cons, List.length_nil, Nat.zero_add, Nat.reduceAdd, Int.neg_neg, Bool.not_not, List.append_nil, Nat.add_zero, List.getElem?_cons_zero, List.getElem?_cons_succ, Decidable.not_not, semW_eq, semW_load, semW_store, semW_storeC, semW_append, semW_lookup, semW_lookupC, semW_update, semW_updateC, semW_updateK, semW_delete, semW_range, semW_next, semW_entry, semW_nil, ne_eq, Nat.reduceEqDiff, not_false_eq_true]
  refine speaks06_true.weak (fun _ _ _ => trivial) ?_
  rintro v' R h rfl
  refine ⟨true, rfl, ⟨fun h => by simp at h, fun _ => ?_⟩, trivial⟩
  refine (great04_ok a n c L).weak (fun _ _ h => h) ?_
  rintro v' R h ⟨rfl, H⟩
  refine ⟨greatB L, rfl, ⟨fun _ => .of fun R h H => trivial, fun hg => ⟨fun _ => .of fun R h H => trivial, fun hu0 => ⟨fun _ => .of fun R h H => trivial, fun hu1 => ⟨fun _ => .of fun R h H => trivial, fun hz => ?_⟩⟩⟩⟩, H⟩
  clear H
  have hL120 := great_len hg
  refine tNew_ok.weak (fun _ _ h => h) ?_
  rintro v' R h ⟨x, t0, ⟨rfl, h0⟩, H⟩
  refine ⟨.pointer (some ⟨x, 0, none⟩), TRep x t0, rfl, ?_, H⟩
  clear H
  refine ⟨fun i P => ∃ k : Nat, i = k ∧ k ≤ n ∧ ∃ t : TS, TWf (k + 1) t.pub ∧ P = TRep x t, fun i _ => n - i.toNat, ⟨0, rfl, Nat.zero_le _, t0, by rw [h0]; exact newT_wf, rfl⟩, ?_⟩
  rintro _ _ ⟨k, rfl, hk, t, wf, rfl⟩
  refine ⟨fun hlt => ⟨by omega, fun _ => ⟨ha (by omega), fun _ => ?_⟩⟩, fun hge => ?_⟩
  · obtain ⟨e, he⟩ : ∃ x, L[k]? = some x := ⟨_, List.getElem?_eq_getElem (by omega)⟩
    have hxm := List.mem_of_getElem? he
    refine ⟨e.kind, e.path, e.other, e.off, e.n, e.da, e.data.length, e.dc, loadCall he, fun q => ?_⟩
    refine doL (by omega) wf e.m (Ls kCall a n L) e.data (callD_of hL hxm) fun t1 da dc na nc h1 => ?_
    have wf1 : TWf (k + 2) t1.pub := by rw [h1]; exact wf.do (by omega) _ _ _ _ _ _
    exact ⟨inI64' _ (by omega) (by omega), fun _ => ⟨⟨k + 1, by omega, by omega, t1, wf1, rfl⟩, by dsimp only; omega⟩⟩
  obtain rfl : k = n := by omega
  have hk5 : k + 1 ≤ 121 := by omega
  refine (encode_ok (by omega) wf u).weak (fun _ _ h => h) ?_
  rintro v' R h ⟨pa, pc, rfl, H⟩
  have hlen := wrapS_len (beN (linksN u) 8 ++ nodesB t.pub)
  have hlen : 4 ≤ (snapS u t.pub).length := by unfold snapS; omega
  have hsm := snapS_small hk5 wf u
  have hpa : pa.isSome = true := OwC.some (HP.sep_right H) (by omega)
  have hle := OwC.le (HP.sep_right H)
  refine ⟨pa, _, pc, OwB pa _ pc (snapS u t.pub), rfl, ?_, HP.sep_comm H⟩
  clear H
  refine ⟨fun h => by omega, fun _ => ?_⟩
  rw [andffff]
  obtain ⟨i, hi⟩ : ∃ i : Nat, (at' % 65536).tmod ((snapS u t.pub).length : Int) = i := ⟨((at' % 65536).tmod ((snapS u t.pub).length : Int)).toNat, by
    have := Int.tmod_nonneg (a := at' % 65536) ((snapS u t.pub).length : Int) (by omega); omega⟩
  have hi2 : i < (snapS u t.pub).length := by
    have := Int.tmod_lt_of_pos (at' % 65536) (b := ((snapS u t.pub).length : Int)) (by omega); omega
  rw [hi]
  obtain ⟨w, hw⟩ : ∃ w, (snapS u t.pub)[i]? = some w := ⟨_, List.getElem?_eq_getElem hi2⟩
  refine ⟨by omega, fun _ => ⟨by omega, fun _ => ⟨hpa, fun _ => ⟨w.toNat, ?_, ?_⟩⟩⟩⟩
  · exact load1_ok und8b agg8 sz8 (RdL.ow _ _ _ _ _ _).rd (k := i * 1) (off := 0) (by simp [u8v, hw])
  rw [bxor8]
  refine stoByte (w ^^^ z) hi2 (HP.ent.refl _) fun R h H => ?_
  refine ⟨_, rfl, ?_, H⟩
  clear H
  have hne : z ≠ 0 := fun e => hz (by rw [e]; rfl)
  have hdec : unwrapS ((snapS u t.pub).set i (w ^^^ z)) = none := by
    unfold snapS at hw hi2 ⊢
    exact unwrap_turned _ i hi2 _ (by rw [hw]; exact fun e => xor_ne hne (Option.some.inj e).symm)
  refine (decode_ok wholeS (fun _ _ h1 h2 => whole_ok h1 h2) pa _ pc ((snapS u t.pub).set i (w ^^^ z)) _ (RdL.ow _ _ _ _ _ _) (by rw [List.length_set]) hle (fun _ => hpa) (by omega)).weak (fun _ _ h => h) ?_
  intro v' R h H
  have hd : decS wholeS ((snapS u t.pub).set i (w ^^^ z)) = none := by unfold decS; rw [hdec]
  unfold DcPost at H
  rw [hd] at H
  obtain ⟨rfl, H⟩ := H
  refine ⟨0, .pointer none, HP.tt, 3, _, rfl, ⟨fun _ => ⟨true, eqlNilP (e := 125) (by kernel_rfl) (by kernel_rfl), fun _ => .of fun R h H => rfl, fun h => absurd rfl h⟩, fun h => absurd rfl h⟩, HP.tt_sep H⟩
end Go.Proofs.YtdieogcemmnaaaaGreatDoor

/- What the row lists of the sums' table is what each world's unchanging part is asked for. No condition. -/
namespace Go.Proofs.YtdieogcemmnaaaaGreatDoor
open Go.Proofs.YtdieogcemmnaaaaGreatDoor RX
open Go.ChangeShapes Go.WideShapes Go.ChangeAt Go.RowKit
set_option maxRecDepth 100000

theorem fours_name : Tryz.prog.globalNamed "tideline/check.fours" = some 0 := by kernel_rfl
theorem fours_type : (Tryz.prog.globals[(0 : Nat)]?).map (·.type) = some 316 := by kernel_rfl
theorem cells32 : Tryz.prog.cellsOf 243 = 1 := by kernel_rfl
theorem gr_of {w : World} {x : String × DataW Unit} {r : List (String × DataW Unit)} {ps : List MemPlace} (h : DataW.LaidVars Tryz.prog w (x :: ("tideline/check.fours", Rows.laid_tideline_check_fours) :: r) ps) : GR (allOf w) := by
  obtain ⟨_, _, _, _, _, q1, _, _, _, _, h2, _⟩ := h
  obtain ⟨g, t, cs, fuel, p, q, hg, ht, hv, htr, _, _⟩ := h2
  rw [fours_name] at hg
  cases hg
  rw [fours_type] at ht
  cases ht
  unfold World.var? at hv
  rw [fours_name] at hv
  simp only [Option.bind_some] at hv
  obtain ⟨ty, fr, hh⟩ : ∃ ty fr, w.heap[(0 : Nat)]? = some (.cells cs ty fr) := by
    split at hv
    · rename_i c ty fr e; cases hv; exact ⟨ty, fr, e⟩
    · cases hv
  refine ⟨cs, ty, fr, hh, fun i v hi => ?_⟩
  obtain ⟨xs, m, _, hx, hl, hn, hel⟩ := DataW.trod_array undF htr
  have hi16 : i < 16 := (List.getElem?_eq_some_iff.1 hi).1
  have hd : xs.map (·.1) = fours.map fun n : Nat => DataW.lit (.int .u32 ((n : Nat) : Int)) := by
    have := congrArg Prod.fst hx
    unfold Rows.laid_tideline_check_fours at this
    injection this with this
    exact this.symm
  have h1 := hel i hi16
  rw [cells32, Nat.mul_one] at h1
  have h3 : (xs.map (·.1))[i]? = some (DataW.lit (.int .u32 (v : Int))) := by rw [hd, List.getElem?_map, hi]; rfl
  rw [List.getElem?_map] at h3
  obtain ⟨y, hy, hy2⟩ := Option.map_eq_some_iff.1 h3
  rw [hy] at h1
  obtain ⟨z, hz, hz2, _⟩ := DataW.trod_int und32 h1
  rw [hz2] at hy2
  have e : z = (v : Int) := by
    injection hy2 with e
    injection e
  subst e
  have h5 : (List.take 1 (cs.toList.drop i))[0]? = some (Value.int .u32 (v : Int)) := by rw [hz]; rfl
  rw [List.getElem?_take, if_pos (by decide), List.getElem?_drop, Nat.add_zero] at h5
  simpa using h5
end Go.Proofs.YtdieogcemmnaaaaGreatDoor

/- A parameter that is a byte; two lists that came in. No condition. -/
namespace Go.Proofs.YtdieogcemmnaaaaGreatDoor
open Go.RowKit Go.ChangeShapes Go.WideShapes Go.Deep RX
set_option maxRecDepth 100000

theorem u8_wf {x : Int} (h : (Lit.int IntKind.u8 x).wf = true) : ∃ b : UInt8, x = b.toNat := by
  have h2 : (decide (IntKind.u8.min ≤ x) && decide (x ≤ IntKind.u8.max)) = true := h
  rw [Bool.and_eq_true] at h2
  have h3 : (0 : Int) ≤ x := of_decide_eq_true h2.1
  have h4 : x ≤ (255 : Int) := of_decide_eq_true h2.2
  refine ⟨UInt8.ofNat x.toNat, ?_⟩
  rw [UInt8.toNat_ofNat']
  omega
theorem u8_open (base : Nat) (v : Value) (w : World) (hv : Value.okWide Tryz.prog w .any base 5 v) : ∃ n, v = .int .u8 n := by
  simp only [Value.okWide, Tryz.underlying5, Cell.okWide] at hv
  unfold Cell.ok at hv
  rw [Tryz.underlying5] at hv
  cases v <;> first | exact hv.elim | exact ⟨_, by rw [hv.1]⟩
/-- A parameter that is a byte. -/
theorem u8_openR {H : Type} {enc : TypeId × Value → H} {w : World} {base : Nat} {v : Value} (hv : Value.okWide Tryz.prog w .any base 5 v) (h : ∃ d p, DataW.Trod enc Tryz.prog w 0 (fun _ => true) true 5 v d p ∧ Small Tryz.prog 5 d) : ∃ b : UInt8, v = .int .u8 b.toNat := by
  obtain ⟨n, rfl⟩ := u8_open base v w hv
  obtain ⟨d, p, ⟨fuel, hf⟩, _⟩ := h
  obtain ⟨x, hx, _, hw⟩ := DataW.trod_int Tryz.underlying5 hf
  simp [Value.cells] at hx
  subst hx
  obtain ⟨b, hb⟩ := u8_wf hw
  exact ⟨b, by rw [hb]⟩
theorem two {A B : HP} {R : PH} (a : A.p R PH.none') (b : B.p R PH.none') : (HP.sep A B).p R PH.none' := ⟨PH.none', PH.none', PH.dj_none _, PH.le.refl _, PH.le.refl _, a, b⟩
end Go.Proofs.YtdieogcemmnaaaaGreatDoor

/- What comes into SnapTurned, and its walk. No condition. -/
namespace Go.Proofs.YtdieogcemmnaaaaGreatDoor
open Go.RowKit Go.ChangeShapes Go.WideShapes Go.Deep RX

set_option maxRecDepth 100000 in
theorem snapTurned_walk {H : Type} (enc : TypeId × Value → H) (base : Nat) (v0 v1 v2 v3 : Value) (w : World)
    (k0 : Value.okWide Tryz.prog w .any base 3 v0) (h0 : ∃ d p, DataW.Trod enc Tryz.prog w 0 (fun _ => true) true 3 v0 d p ∧ Small Tryz.prog 3 d)
    (k1 : Value.okWide Tryz.prog w .any base 22 v1) (h1 : ∃ d p, DataW.Trod enc Tryz.prog w 0 (fun _ => true) true 22 v1 d p ∧ Small Tryz.prog 22 d)
    (k2 : Value.okWide Tryz.prog w .any base 3 v2) (h2 : ∃ d p, DataW.Trod enc Tryz.prog w 0 (fun _ => true) true 3 v2 d p ∧ Small Tryz.prog 3 d)
    (k3 : Value.okWide Tryz.prog w .any base 5 v3) (h3 : ∃ d p, DataW.Trod enc Tryz.prog w 0 (fun _ => true) true 5 v3 d p ∧ Small Tryz.prog 5 d) (hG : GR (allOf w)) :
    Calls Tryz.prog 8 #[v0, v1, v2, v3] w fun e w' => e = .returned (.bool true) ∧ Below w.heap.size w w' := by
  obtain ⟨n0, rfl, r0⟩ := int_openR k0 h0
  obtain ⟨a1, l1, c1, rfl, b1, z1⟩ := slice_open kCallE Tryz.underlying22 (by kernel_rfl) (of_decide_eq_true (by kernel_rfl)) CallE.of_trod k1 h1
  obtain ⟨n2, rfl, r2⟩ := int_openR k2 h2
  obtain ⟨n3, rfl, r3⟩ := u8_openR k3 h3
  exact Tri.run (snapTurned_ok n0 a1 l1.length c1 l1 n2 n3) (z1 _) hG
end Go.Proofs.YtdieogcemmnaaaaGreatDoor

/- SnapTurned holds: for every input the law returns true, and each argument reads behind the call as it read before. No condition. -/
namespace Go.Proofs.YtdieogcemmnaaaaGreatDoor.snapTurned
open Go.ChangeShapes Go.WideShapes Go.ChangeAt Go.RowKit
set_option linter.unusedVariables false

theorem own : ownKnob Tryz.prog.godebug = none := by kernel_rfl
theorem laidOut : laidOutB Tryz.prog = true := by kernel_rfl

def laidL : List (String × DataW Unit) := [("unicode/utf8.acceptRanges", Rows.laid_unicode_utf8_acceptRanges), ("tideline/check.fours", Rows.laid_tideline_check_fours), ("unicode/utf8.first", Rows.laid_unicode_utf8_first)]
set_option maxRecDepth 100000 in
theorem plainL (w : World) : laidMetH Tryz.prog laidL w = laidMet Tryz.prog laidL w := MakeChecks.laidMetH_plain _ _ _ (by kernel_rfl)
set_option maxRecDepth 100000 in
theorem door_met (os : Os) (args : Array Value) : laidMetH Tryz.prog laidL ((World.laidAll Tryz.prog os laidL).forCall (fun _ _ => 0) ⟨#[], args, []⟩).memory := by
  rw [plainL]
  exact laidMet_laidAll _ (by kernel_rfl) (by kernel_rfl)
end Go.Proofs.YtdieogcemmnaaaaGreatDoor.snapTurned


/- SnapTurned holds: for every input the law returns true, and each argument reads behind the call as it read before. No condition. -/
namespace Go.Proofs.YtdieogcemmnaaaaGreatDoor.snapTurned
open Go.ChangeShapes Go.WideShapes Go.ChangeAt Go.RowKit
set_option linter.unusedVariables false

set_option maxRecDepth 100000 in
theorem lifted (os : Os) (started : os.Started) (H : Type) (enc : TypeId × Value → H) :
    ReturnsInHanded {} Tryz.checked os 8 .any (fun w args => (Rows.snapTurnedSpec.pre enc Tryz.prog Tryz.f8 [] false w args ∧ laidMetH Tryz.prog laidL w) ∧ sizedMet enc Tryz.prog Tryz.f8 (OpenSpec.ofChange Rows.snapTurnedSpec) false w args) (Rows.snapTurnedSpec.post enc Tryz.prog Tryz.f8 false true false false) := by
  refine returnsInHanded_of_change_and (C := Tryz.checked) (X := fun w _ => laidMetH Tryz.prog laidL w) (fun _ _ _ hh h => h.of_heap hh) own started (by kernel_rfl) Tryz.func8
    (ChangeSpec.witness_shaped (enc := enc) (C := Tryz.checked) (os := os) (X := fun w _ => laidMetH Tryz.prog laidL w) false (World.laidAll Tryz.prog os laidL) #[.int .i64 0, .slice none 0 0, .int .i64 0, .int .u8 0] 8 (World.laidAll_os _ _ _) (World.shaped_of_ZipB (by kernel_rfl) (by kernel_rfl)) (by kernel_rfl) (by kernel_rfl) (by kernel_rfl) (door_met os _)) ?_
  intro W base args ds gs before hval0 hW hcnd hsz0 hX _
  have hG : GR (allOf W) := by rw [plainL] at hX; obtain ⟨_, hv, _⟩ := hX; exact gr_of hv
  have hval : ∀ (j : Nat) t v, Tryz.f8.params[j]? = some t → args[j]? = some v → Value.okWide Tryz.prog W .any base t v := hval0
  have hW' := hW
  obtain ⟨p, q, hA0, hV, rfl, hfz, hnd⟩ := hW
  have hA : DataW.TrodAll enc Tryz.prog W 0 (fun _ => true) true Tryz.f8.params.toList args.toList ds p := hA0
  have hsz : (DataW.weightsEach Tryz.prog (Tryz.f8.params.toList ++ Rows.snapTurnedSpec.plain.varTypes Tryz.prog) (ds ++ gs)).all (· ≤ reachBytes) = true := hsz0
  clear hsz0
  rw [Tryz.params8] at hA hval hsz
  obtain ⟨v0, vs0, d0, ds0, p0, q0, hargs, rfl, rfl, h0, r0⟩ := trodAll_cons hA
  obtain ⟨v1, vs1, d1, ds1, p1, q1, rfl, rfl, rfl, h1, r1⟩ := trodAll_cons r0
  obtain ⟨v2, vs2, d2, ds2, p2, q2, rfl, rfl, rfl, h2, r2⟩ := trodAll_cons r1
  obtain ⟨v3, vs3, d3, ds3, p3, q3, rfl, rfl, rfl, h3, r3⟩ := trodAll_cons r2
  obtain ⟨rfl, rfl, rfl⟩ := trodAll_nil r3
  obtain rfl : args = #[v0, v1, v2, v3] := by cases args; simp_all
  obtain ⟨rfl, rfl⟩ := trodVars_none hV
  have lt0 : ∀ x ∈ p0, x.block < W.heap.size := by obtain ⟨m, hm⟩ := h0; exact DataW.trod_lt m _ _ _ hm
  have lt1 : ∀ x ∈ p1, x.block < W.heap.size := by obtain ⟨m, hm⟩ := h1; exact DataW.trod_lt m _ _ _ hm
  have lt2 : ∀ x ∈ p2, x.block < W.heap.size := by obtain ⟨m, hm⟩ := h2; exact DataW.trod_lt m _ _ _ hm
  have lt3 : ∀ x ∈ p3, x.block < W.heap.size := by obtain ⟨m, hm⟩ := h3; exact DataW.trod_lt m _ _ _ hm
  refine (snapTurned_walk enc base v0 v1 v2 v3 W (hval 0 3 v0 rfl rfl) ⟨_, _, h0, Small.arg hsz (j := 0) rfl rfl⟩ (hval 1 22 v1 rfl rfl) ⟨_, _, h1, Small.arg hsz (j := 1) rfl rfl⟩ (hval 2 3 v2 rfl rfl) ⟨_, _, h2, Small.arg hsz (j := 2) rfl rfl⟩ (hval 3 5 v3 rfl rfl) ⟨_, _, h3, Small.arg hsz (j := 3) rfl rfl⟩ hG).mono fun e W' ⟨he, bel⟩ => ?_
  subst he
  exact ⟨_, rfl, _, _, _, [], _, [], hW', trodAll_mk1 (shut_bool Tryz.underlying4 _), (trodAll_cons_mk (Below.trod laidOut (by kernel_rfl) (of_decide_eq_true (by kernel_rfl)) h0 bel lt0) (trodAll_cons_mk (Below.trod laidOut (by kernel_rfl) (of_decide_eq_true (by kernel_rfl)) h1 bel lt1) (trodAll_cons_mk (Below.trod laidOut (by kernel_rfl) (of_decide_eq_true (by kernel_rfl)) h2 bel lt2) (trodAll_cons_mk (Below.trod laidOut (by kernel_rfl) (of_decide_eq_true (by kernel_rfl)) h3 bel lt3) trodAll_mk0)))), rfl, bel.frame _, fun h => by cases h⟩

end Go.Proofs.YtdieogcemmnaaaaGreatDoor.snapTurned


/- SnapTurned holds: for every input the law returns true, and each argument reads behind the call as it read before. No condition. -/
namespace Go.Proofs.YtdieogcemmnaaaaGreatDoor.snapTurned
open Go.ChangeShapes Go.WideShapes Go.ChangeAt Go.RowKit
set_option linter.unusedVariables false

theorem and2 {a b : Bool} (h1 : a = true) (h2 : b = true) : (a && b) = true := by rw [h1, h2]; rfl
theorem c0 : (fun (P : Program) (f : FuncId) (fn : Func) (s : ChangeSpec) (c : OpenClaim) => (c.wf (OpenSpec.ofChange s) : Bool)) Tryz.pinned.checked.prog 8 Tryz.f8 Rows.snapTurnedSpec Rows.snapTurnedRow = true := by kernel_rfl
theorem c1 : (fun (P : Program) (f : FuncId) (fn : Func) (s : ChangeSpec) (c : OpenClaim) => (laidOutB P : Bool)) Tryz.pinned.checked.prog 8 Tryz.f8 Rows.snapTurnedSpec Rows.snapTurnedRow = true := by kernel_rfl
theorem c2 : (fun (P : Program) (f : FuncId) (fn : Func) (s : ChangeSpec) (c : OpenClaim) => (mapsRowed P : Bool)) Tryz.pinned.checked.prog 8 Tryz.f8 Rows.snapTurnedSpec Rows.snapTurnedRow = true := by kernel_rfl
theorem c3 : (fun (P : Program) (f : FuncId) (fn : Func) (s : ChangeSpec) (c : OpenClaim) => (fn.params.all (P.readableRec ·) : Bool)) Tryz.pinned.checked.prog 8 Tryz.f8 Rows.snapTurnedSpec Rows.snapTurnedRow = true := by kernel_rfl
theorem c4 : (fun (P : Program) (f : FuncId) (fn : Func) (s : ChangeSpec) (c : OpenClaim) => (namedTie P c.named s.vars : Bool)) Tryz.pinned.checked.prog 8 Tryz.f8 Rows.snapTurnedSpec Rows.snapTurnedRow = true := by kernel_rfl
theorem c5 : (fun (P : Program) (f : FuncId) (fn : Func) (s : ChangeSpec) (c : OpenClaim) => ((c.stops == []) : Bool)) Tryz.pinned.checked.prog 8 Tryz.f8 Rows.snapTurnedSpec Rows.snapTurnedRow = true := by kernel_rfl
theorem c6 : (fun (P : Program) (f : FuncId) (fn : Func) (s : ChangeSpec) (c : OpenClaim) => ((P.stops == []) : Bool)) Tryz.pinned.checked.prog 8 Tryz.f8 Rows.snapTurnedSpec Rows.snapTurnedRow = true := by kernel_rfl
theorem c7 : (fun (P : Program) (f : FuncId) (fn : Func) (s : ChangeSpec) (c : OpenClaim) => ((c.knobs == []) : Bool)) Tryz.pinned.checked.prog 8 Tryz.f8 Rows.snapTurnedSpec Rows.snapTurnedRow = true := by kernel_rfl
theorem c8 : (fun (P : Program) (f : FuncId) (fn : Func) (s : ChangeSpec) (c : OpenClaim) => ((P.stopKnobs == []) : Bool)) Tryz.pinned.checked.prog 8 Tryz.f8 Rows.snapTurnedSpec Rows.snapTurnedRow = true := by kernel_rfl
theorem c9 : (fun (P : Program) (f : FuncId) (fn : Func) (s : ChangeSpec) (c : OpenClaim) => ((c.inPlace == P.inPlace f) : Bool)) Tryz.pinned.checked.prog 8 Tryz.f8 Rows.snapTurnedSpec Rows.snapTurnedRow = true := by kernel_rfl
theorem c10 : (fun (P : Program) (f : FuncId) (fn : Func) (s : ChangeSpec) (c : OpenClaim) => ((c.unfollowed == P.unfollowed f) : Bool)) Tryz.pinned.checked.prog 8 Tryz.f8 Rows.snapTurnedSpec Rows.snapTurnedRow = true := by kernel_rfl
theorem c11 : (fun (P : Program) (f : FuncId) (fn : Func) (s : ChangeSpec) (c : OpenClaim) => ((c.recurses == P.recurses f) : Bool)) Tryz.pinned.checked.prog 8 Tryz.f8 Rows.snapTurnedSpec Rows.snapTurnedRow = true := by kernel_rfl
theorem c12 : (fun (P : Program) (f : FuncId) (fn : Func) (s : ChangeSpec) (c : OpenClaim) => ((c.named == P.varsNamed f) : Bool)) Tryz.pinned.checked.prog 8 Tryz.f8 Rows.snapTurnedSpec Rows.snapTurnedRow = true := by kernel_rfl
theorem c13 : (fun (P : Program) (f : FuncId) (fn : Func) (s : ChangeSpec) (c : OpenClaim) => ((c.maps == (fn.params.toList ++ s.plain.varTypes P).any (P.mapsRec ·)) : Bool)) Tryz.pinned.checked.prog 8 Tryz.f8 Rows.snapTurnedSpec Rows.snapTurnedRow = true := by kernel_rfl
theorem c14 : (fun (P : Program) (f : FuncId) (fn : Func) (s : ChangeSpec) (c : OpenClaim) => ((c.ifaces == (fn.params.toList ++ s.plain.varTypes P).any (P.ifacesRec ·)) : Bool)) Tryz.pinned.checked.prog 8 Tryz.f8 Rows.snapTurnedSpec Rows.snapTurnedRow = true := by kernel_rfl
theorem c15 : (fun (P : Program) (f : FuncId) (fn : Func) (s : ChangeSpec) (c : OpenClaim) => ((c.mapsOut == P.mapsAmong fn.resultTypes.toList) : Bool)) Tryz.pinned.checked.prog 8 Tryz.f8 Rows.snapTurnedSpec Rows.snapTurnedRow = true := by kernel_rfl
theorem c16 : (fun (P : Program) (f : FuncId) (fn : Func) (s : ChangeSpec) (c : OpenClaim) => ((c.loops == (fn.params.toList ++ s.plain.varTypes P).any (P.loopsFrom ·)) : Bool)) Tryz.pinned.checked.prog 8 Tryz.f8 Rows.snapTurnedSpec Rows.snapTurnedRow = true := by kernel_rfl
theorem c17 : (fun (P : Program) (f : FuncId) (fn : Func) (s : ChangeSpec) (c : OpenClaim) => ((c.wideKeys == (fn.params.toList ++ s.plain.varTypes P ++ fn.resultTypes.toList).any (P.wideKeysFrom ·)) : Bool)) Tryz.pinned.checked.prog 8 Tryz.f8 Rows.snapTurnedSpec Rows.snapTurnedRow = true := by kernel_rfl
theorem c18 : (fun (P : Program) (f : FuncId) (fn : Func) (s : ChangeSpec) (c : OpenClaim) => (s.vars.all (P.varReadable ·) : Bool)) Tryz.pinned.checked.prog 8 Tryz.f8 Rows.snapTurnedSpec Rows.snapTurnedRow = true := by kernel_rfl
theorem c19 : (fun (P : Program) (f : FuncId) (fn : Func) (s : ChangeSpec) (c : OpenClaim) => (fn.resultTypes.all (fun t => P.readableRec t && decide (t < P.types.size)) : Bool)) Tryz.pinned.checked.prog 8 Tryz.f8 Rows.snapTurnedSpec Rows.snapTurnedRow = true := by kernel_rfl
theorem c20 : (fun (P : Program) (f : FuncId) (fn : Func) (s : ChangeSpec) (c : OpenClaim) => ((c.ifacesOut == fn.resultTypes.toList.any (P.ifacesRec ·)) : Bool)) Tryz.pinned.checked.prog 8 Tryz.f8 Rows.snapTurnedSpec Rows.snapTurnedRow = true := by kernel_rfl
theorem c21 : (fun (P : Program) (f : FuncId) (fn : Func) (s : ChangeSpec) (c : OpenClaim) => ((c.loopsOut == fn.resultTypes.toList.any (P.loopsFrom ·)) : Bool)) Tryz.pinned.checked.prog 8 Tryz.f8 Rows.snapTurnedSpec Rows.snapTurnedRow = true := by kernel_rfl
theorem c22 : (fun (P : Program) (f : FuncId) (fn : Func) (s : ChangeSpec) (c : OpenClaim) => ((c.plainKeys == P.plainKeys) : Bool)) Tryz.pinned.checked.prog 8 Tryz.f8 Rows.snapTurnedSpec Rows.snapTurnedRow = true := by kernel_rfl
theorem c23 : (fun (P : Program) (f : FuncId) (fn : Func) (s : ChangeSpec) (c : OpenClaim) => (c.shortTexts.isNone : Bool)) Tryz.pinned.checked.prog 8 Tryz.f8 Rows.snapTurnedSpec Rows.snapTurnedRow = true := by kernel_rfl
theorem c24 : (fun (P : Program) (f : FuncId) (fn : Func) (s : ChangeSpec) (c : OpenClaim) => (P.stopsHeard : Bool)) Tryz.pinned.checked.prog 8 Tryz.f8 Rows.snapTurnedSpec Rows.snapTurnedRow = true := by kernel_rfl
theorem c25 : (fun (P : Program) (f : FuncId) (fn : Func) (s : ChangeSpec) (c : OpenClaim) => (P.mayEnter : Bool)) Tryz.pinned.checked.prog 8 Tryz.f8 Rows.snapTurnedSpec Rows.snapTurnedRow = true := by kernel_rfl
theorem c26 : (fun (P : Program) (f : FuncId) (fn : Func) (s : ChangeSpec) (c : OpenClaim) => ((c.lifted == P.liftsFinal) : Bool)) Tryz.pinned.checked.prog 8 Tryz.f8 Rows.snapTurnedSpec Rows.snapTurnedRow = true := by kernel_rfl
theorem c27 : (fun (P : Program) (f : FuncId) (fn : Func) (s : ChangeSpec) (c : OpenClaim) => ((P.make == some c.make) : Bool)) Tryz.pinned.checked.prog 8 Tryz.f8 Rows.snapTurnedSpec Rows.snapTurnedRow = true := by kernel_rfl
theorem c28 : (fun (P : Program) (f : FuncId) (fn : Func) (s : ChangeSpec) (c : OpenClaim) => ((c.kinds == (if c.domain.isEmpty then [] else fn.params.toList.map fun t => match P.underlying t with | some (.int k) => some k | _ => none)) : Bool)) Tryz.pinned.checked.prog 8 Tryz.f8 Rows.snapTurnedSpec Rows.snapTurnedRow = true := by kernel_rfl
theorem c29 : (fun (P : Program) (f : FuncId) (fn : Func) (s : ChangeSpec) (c : OpenClaim) => ((c.pinned == c.pinnedBy) : Bool)) Tryz.pinned.checked.prog 8 Tryz.f8 Rows.snapTurnedSpec Rows.snapTurnedRow = true := by kernel_rfl
theorem c30 : (fun (P : Program) (f : FuncId) (fn : Func) (s : ChangeSpec) (c : OpenClaim) => ((c.veiled == (fn.params.toList ++ s.plain.varTypes P ++ fn.resultTypes.toList).any (P.veiledRec ·)) : Bool)) Tryz.pinned.checked.prog 8 Tryz.f8 Rows.snapTurnedSpec Rows.snapTurnedRow = true := by kernel_rfl
theorem c31 : (fun (P : Program) (f : FuncId) (fn : Func) (s : ChangeSpec) (c : OpenClaim) => (c.veiledFits P fn.params.toList (fn.params.toList ++ s.plain.varTypes P ++ fn.resultTypes.toList) : Bool)) Tryz.pinned.checked.prog 8 Tryz.f8 Rows.snapTurnedSpec Rows.snapTurnedRow = true := by kernel_rfl
theorem inst : Tryz.f8.isInstance Tryz.pinned.checked.prog Rows.snapTurnedRow.origin Rows.snapTurnedRow.targs := (of_decide_eq_true (by kernel_rfl))
theorem wrap : Tryz.f8.isWrapper Tryz.pinned.checked.prog Rows.snapTurnedRow.wrapper Rows.snapTurnedRow.mainSum := by unfold Func.isWrapper; first | (rw [if_pos (by decide +kernel)]; kernel_rfl) | (rw [if_neg (by decide +kernel)]; exact ⟨rfl, rfl⟩)
theorem nmd : Tryz.pinned.checked.prog.funcNamed Rows.snapTurnedRow.func = some 8 := by kernel_rfl
end Go.Proofs.YtdieogcemmnaaaaGreatDoor.snapTurned


/- SnapTurned holds: for every input the law returns true, and each argument reads behind the call as it read before. No condition. -/
namespace Go.Proofs.YtdieogcemmnaaaaGreatDoor.snapTurned
open Go.ChangeShapes Go.WideShapes Go.ChangeAt Go.RowKit
set_option linter.unusedVariables false

set_option maxRecDepth 100000 in
theorem closed : joinedFacts Tryz.pinned.checked.prog 8 Tryz.f8 Rows.snapTurnedSpec Rows.snapTurnedRow = true := (and2 (and2 (and2 (and2 (and2 (and2 (and2 (and2 (and2 (and2 (and2 (and2 (and2 (and2 (and2 (and2 (and2 (and2 (and2 (and2 (and2 (and2 (and2 (and2 (and2 (and2 (and2 (and2 (and2 (and2 (and2 c0 c1) c2) c3) c4) c5) c6) c7) c8) c9) c10) c11) c12) c13) c14) c15) c16) c17) c18) c19) c20) c21) c22) c23) c24) c25) c26) c27) c28) c29) c30) c31)
theorem over : Rows.snapTurnedRow.holds Tryz.pinned (OpenSpec.ofChange Rows.snapTurnedSpec) :=
  OpenClaim.holds_of_wide 8 Tryz.f8 rfl rfl rfl rfl rfl rfl rfl ⟨rfl, rfl, rfl, rfl, rfl⟩ rfl rfl rfl rfl rfl nmd Tryz.func8 closed inst wrap (fun os started H enc _ => lifted os started H enc)
end Go.Proofs.YtdieogcemmnaaaaGreatDoor.snapTurned

