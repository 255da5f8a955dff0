/- Texts of this claim, joined. No condition. -/
import Derived.Test.YtcpjdfihpdjkbaaDoorTOJ1
import Derived.KernelRfl
import Derived.Below
import Derived.Laws.IdiomStrings
import Derived.Lib.Join
import Derived.Lib.ItoaLen
import Derived.Lib.AtoiAllCases
import Derived.OpenShut
import Derived.Test.YtcpjdfihpdjkbaaDoorRows
import Derived.ProofKit
import Derived.ShutString
import Derived.ChangeOld
import Derived.SizedLaws
import Derived.Lay
import Derived.LaidMore
import Derived.Test.YtcpjdfihpdjkbaaDoorTie
import Derived.Test.YtcpjdfihpdjkbaaDoorCards
import Derived.SevenTiedAt
set_option linter.unusedSimpArgs false
set_option linter.unusedVariables false

namespace Go.Proofs.YtcpjdfihpdjkbaaDoor.RX
set_option maxRecDepth 100000
-- tideline/tale.number: ρ := [.v of, .p ofP]
def t_tNumber : T :=
(.op (.makeInterface 75 (.tmp 4)) 42 [(4, .w (.agg [.val 0, .func 31 [], .func 32 []]))] [(.a 0, .prop 1)] [.v, .p, .p] (.w (.a (.val 2))) [(.a 2, .prop 3), (.a 0, .prop 4)]
(.ret (.w (.a (.val 2))) [(.a 0, .prop 4), (.a 2, .prop 3)]))
theorem tree_tNumber : tree Tryd.prog { absT := [63], outl := true, opn := true, rdf := true } Tryd.f18 [.a (.val 0)] [(.a 0, .prop 1)] 2 = t_tNumber := by kernel_rfl
def t_tData : T :=
(.op (.makeInterface 85 (.tmp 4)) 42 [(4, .w (.agg [.val 0, .func 42 [], .func 43 []]))] [(.a 0, .prop 1)] [.v, .p, .p] (.w (.a (.val 2))) [(.a 2, .prop 3), (.a 0, .prop 4)]
(.ret (.w (.a (.val 2))) [(.a 0, .prop 4), (.a 2, .prop 3)]))
theorem tree_tData : tree Tryd.prog { absT := [63], outl := true, opn := true, rdf := true } Tryd.f24 [.a (.val 0)] [(.a 0, .prop 1)] 2 = t_tData := by kernel_rfl
def t_tText : T :=
(.op (.makeInterface 93 (.tmp 8)) 42 [(8, .w (.agg [.val 0, .func 51 [], .func 52 []]))] [(.a 0, .prop 1)] [.v, .p, .p] (.w (.a (.val 2))) [(.a 2, .prop 3), (.a 0, .prop 4)]
(.ret (.w (.a (.val 2))) [(.a 0, .prop 4), (.a 2, .prop 3)]))
theorem tree_tText : tree Tryd.prog { absT := [63], outl := true, opn := true, rdf := true } Tryd.f34 [.a (.val 0)] [(.a 0, .prop 1)] 2 = t_tText := by kernel_rfl
def t_tTruth : T :=
(.op (.makeInterface 82 (.tmp 8)) 42 [(8, .w (.agg [.val 0, .func 40 [], .func 41 []]))] [(.a 0, .prop 1)] [.v, .p, .p] (.w (.a (.val 2))) [(.a 2, .prop 3), (.a 0, .prop 4)]
(.ret (.w (.a (.val 2))) [(.a 0, .prop 4), (.a 2, .prop 3)]))
theorem tree_tTruth : tree Tryd.prog { absT := [63], outl := true, opn := true, rdf := true } Tryd.f22 [.a (.val 0)] [(.a 0, .prop 1)] 2 = t_tTruth := by kernel_rfl
def t_tForm : T :=
(.call 18 [.a (.func 19 [])] [] [.v, .p] (.w (.a (.val 1))) [(.a 1, .prop 2)]
(.call 18 [.a (.func 20 [])] [] [.v, .p] (.w (.a (.val 3))) [(.a 3, .prop 4)]
(.br (.o2 .eq (.v 0) (.i 1))
(.new
(.call 21 [] [] [.a, .n, .n, .p] (.w (.a (.sl (.v 6) (.v 7) (.v 8)))) [(.a 6, .prop 9)]
(.op (.call ⟨.builtin .append, #[.tmp 12, .tmp 13], #[37, 37]⟩) 37 [(12, .w (.a (.sl (.b (.v 5) 0) (.n 1) (.n 1)))), (13, .w (.a (.sl (.v 6) (.v 7) (.v 8))))] [(.b (.v 5), .cells [.val 1] 42), (.a 1, .prop 2), (.a 6, .prop 9)] [.a, .n, .n, .p] (.w (.a (.sl (.v 10) (.v 11) (.v 12)))) [(.a 10, .prop 13), (.a 6, .prop 9)]
(.ret (.tup [.a (.str (.s [99, 97, 108, 108])), .a (.sl (.v 10) (.v 11) (.v 12))]) [(.a 10, .prop 13)]))))
(.br (.o2 .eq (.v 0) (.i 2))
(.new
(.ret (.tup [.a (.str (.s [115, 110, 97, 112])), .a (.sl (.b (.v 5) 0) (.n 1) (.n 1))]) [(.b (.v 5), .cells [.val 1] 42), (.a 1, .prop 2)]))
(.br (.o2 .eq (.v 0) (.i 3))
(.new
(.ret (.tup [.a (.str (.s [116, 114, 105, 109])), .a (.sl (.b (.v 5) 0) (.n 1) (.n 1))]) [(.b (.v 5), .cells [.val 1] 42), (.a 1, .prop 2)]))
(.br (.o2 .eq (.v 0) (.i 4))
(.new
(.ret (.tup [.a (.str (.s [103, 105, 118, 101, 117, 112])), .a (.sl (.b (.v 5) 0) (.n 1) (.n 1))]) [(.b (.v 5), .cells [.val 1] 42), (.a 1, .prop 2)]))
(.br (.o2 .eq (.v 0) (.i 5))
(.new
(.ret (.tup [.a (.str (.s [116, 105, 99, 107])), .a (.sl (.b (.v 5) 0) (.n 1) (.n 1))]) [(.b (.v 5), .cells [.val 1] 42), (.a 1, .prop 2)]))
(.br (.o2 .eq (.v 0) (.i 6))
(.call 22 [.a (.func 23 [])] [] [.v, .p] (.w (.a (.val 5))) [(.a 5, .prop 6)]
(.new
(.ret (.tup [.a (.str (.s [100, 101, 108, 105, 118, 101, 114])), .a (.sl (.b (.v 7) 0) (.n 2) (.n 2))]) [(.b (.v 7), .cells [.val 3, .val 5] 42), (.a 3, .prop 4), (.a 5, .prop 6)])))
(.br (.o2 .eq (.v 0) (.i 7))
(.new
(.ret (.tup [.a (.str (.s [100, 114, 111, 112])), .a (.sl (.b (.v 5) 0) (.n 1) (.n 1))]) [(.b (.v 5), .cells [.val 3] 42), (.a 3, .prop 4)]))
(.br (.o2 .eq (.v 0) (.i 8))
(.call 24 [.a (.func 25 [])] [] [.v, .p] (.w (.a (.val 5))) [(.a 5, .prop 6)]
(.new
(.ret (.tup [.a (.str (.s [99, 114, 97, 115, 104])), .a (.sl (.b (.v 7) 0) (.n 2) (.n 2))]) [(.b (.v 7), .cells [.val 1, .val 5] 42), (.a 1, .prop 2), (.a 5, .prop 6)])))
(.ret (.tup [.a (.str (.s [])), .a (.sl .nil (.n 0) (.n 0))]) [])))))))))))
theorem tree_tForm : tree Tryd.prog { absT := [63], outl := true, opn := true, rdf := true } Tryd.f12 [.a (.int .i64 (.v 0))] [] 1 = t_tForm := by kernel_rfl
def t_tCallForm : T :=
(.call 18 [.a (.func 33 [])] [] [.v, .p] (.w (.a (.val 0))) [(.a 0, .prop 1)]
(.call 34 [.a (.func 35 [])] [] [.v, .p] (.w (.a (.val 2))) [(.a 2, .prop 3)]
(.call 34 [.a (.func 36 [])] [] [.v, .p] (.w (.a (.val 4))) [(.a 4, .prop 5)]
(.call 18 [.a (.func 37 [])] [] [.v, .p] (.w (.a (.val 6))) [(.a 6, .prop 7)]
(.call 18 [.a (.func 38 [])] [] [.v, .p] (.w (.a (.val 8))) [(.a 8, .prop 9)]
(.call 24 [.a (.func 39 [])] [] [.v, .p] (.w (.a (.val 10))) [(.a 10, .prop 11)]
(.new
(.ret (.w (.a (.sl (.b (.v 12) 0) (.n 6) (.n 6)))) [(.b (.v 12), .cells [.val 0, .val 2, .val 4, .val 6, .val 8, .val 10] 42), (.a 0, .prop 1), (.a 2, .prop 3), (.a 4, .prop 5), (.a 6, .prop 7), (.a 8, .prop 9), (.a 10, .prop 11)]))))))))
theorem tree_tCallForm : tree Tryd.prog { absT := [63], outl := true, opn := true, rdf := true } Tryd.f21 [] [] 0 = t_tCallForm := by kernel_rfl
def t_tForm1 : T :=
(.ret (.w (.a (.ptr (.v 0) 1))) [(.b (.v 0), .prop 1)])
theorem tree_tForm1 : tree Tryd.prog { absT := [63], outl := true, opn := true, rdf := true } Tryd.f19 [.a (.ptr (.v 0) 0)] [(.b (.v 0), .prop 1)] 2 = t_tForm1 := by kernel_rfl
def t_tForm2 : T :=
(.ret (.w (.a (.ptr (.v 0) 2))) [(.b (.v 0), .prop 1)])
theorem tree_tForm2 : tree Tryd.prog { absT := [63], outl := true, opn := true, rdf := true } Tryd.f20 [.a (.ptr (.v 0) 0)] [(.b (.v 0), .prop 1)] 2 = t_tForm2 := by kernel_rfl
def t_tForm3 : T :=
(.ret (.w (.a (.ptr (.v 0) 3))) [(.b (.v 0), .prop 1)])
theorem tree_tForm3 : tree Tryd.prog { absT := [63], outl := true, opn := true, rdf := true } Tryd.f23 [.a (.ptr (.v 0) 0)] [(.b (.v 0), .prop 1)] 2 = t_tForm3 := by kernel_rfl
def t_tForm4 : T :=
(.ret (.w (.a (.ptr (.v 0) 10))) [(.b (.v 0), .prop 1)])
theorem tree_tForm4 : tree Tryd.prog { absT := [63], outl := true, opn := true, rdf := true } Tryd.f25 [.a (.ptr (.v 0) 0)] [(.b (.v 0), .prop 1)] 2 = t_tForm4 := by kernel_rfl
def t_tCallForm1 : T :=
(.ret (.w (.a (.ptr (.v 0) 4))) [(.b (.v 0), .prop 1)])
theorem tree_tCallForm1 : tree Tryd.prog { absT := [63], outl := true, opn := true, rdf := true } Tryd.f33 [.a (.ptr (.v 0) 0)] [(.b (.v 0), .prop 1)] 2 = t_tCallForm1 := by kernel_rfl
def t_tCallForm2 : T :=
(.ret (.w (.a (.ptr (.v 0) 5))) [(.b (.v 0), .prop 1)])
theorem tree_tCallForm2 : tree Tryd.prog { absT := [63], outl := true, opn := true, rdf := true } Tryd.f35 [.a (.ptr (.v 0) 0)] [(.b (.v 0), .prop 1)] 2 = t_tCallForm2 := by kernel_rfl
def t_tCallForm3 : T :=
(.ret (.w (.a (.ptr (.v 0) 6))) [(.b (.v 0), .prop 1)])
theorem tree_tCallForm3 : tree Tryd.prog { absT := [63], outl := true, opn := true, rdf := true } Tryd.f36 [.a (.ptr (.v 0) 0)] [(.b (.v 0), .prop 1)] 2 = t_tCallForm3 := by kernel_rfl
def t_tCallForm4 : T :=
(.ret (.w (.a (.ptr (.v 0) 7))) [(.b (.v 0), .prop 1)])
theorem tree_tCallForm4 : tree Tryd.prog { absT := [63], outl := true, opn := true, rdf := true } Tryd.f37 [.a (.ptr (.v 0) 0)] [(.b (.v 0), .prop 1)] 2 = t_tCallForm4 := by kernel_rfl
def t_tCallForm5 : T :=
(.ret (.w (.a (.ptr (.v 0) 8))) [(.b (.v 0), .prop 1)])
theorem tree_tCallForm5 : tree Tryd.prog { absT := [63], outl := true, opn := true, rdf := true } Tryd.f38 [.a (.ptr (.v 0) 0)] [(.b (.v 0), .prop 1)] 2 = t_tCallForm5 := by kernel_rfl
def t_tCallForm6 : T :=
(.ret (.w (.a (.ptr (.v 0) 9))) [(.b (.v 0), .prop 1)])
theorem tree_tCallForm6 : tree Tryd.prog { absT := [63], outl := true, opn := true, rdf := true } Tryd.f39 [.a (.ptr (.v 0) 0)] [(.b (.v 0), .prop 1)] 2 = t_tCallForm6 := by kernel_rfl
def t_tTellBytes : T :=
(.br (.o2 .eq (.o1 .ofNat (.v 1)) (.i 0))
(.ret (.w (.a (.str (.s [45])))) [(.a 0, .prop 3)])
(.new
(.loop [.i, .p] [.e (.o1 .neg (.o1 .neg (.i 0))), .p [(.b (.v 4), .cells [.nilp, .sl .nil (.n 0) (.n 0)] 63)]]
(.br (.o2 .lt (.v 5) (.o1 .ofNat (.v 1)))
(.need (.o2 .le (.i 0) (.v 5))
(.need (.o1 .isSome (.v 0))
(.read (.load 5 (.tmp 13)) 5 [(13, .w (.a (.eptr 0 (.v 5) 1 0)))] [(.a 0, .prop 3)] [.i] (.w (.a (.int .u8 (.v 7))))
(.read (.index 9 (.const (.string ⟨#[48, 49, 50, 51, 52, 53, 54, 55, 56, 57, 97, 98, 99, 100, 101, 102]⟩)) (.tmp 16)) 5 [(16, .w (.a (.int .u8 (.o2 (.shr .u8) (.v 7) (.i 4)))))] [] [.i] (.w (.a (.int .u8 (.v 8))))
(.call 53 [.a (.ptr (.v 4) 0), .a (.int .u8 (.v 8))] [(.b (.v 4), .prop 6)] [.v, .p, .p] (.w (.a (.val 9))) [(.a 9, .prop 10), (.b (.v 4), .prop 11)]
(.read (.index 9 (.const (.string ⟨#[48, 49, 50, 51, 52, 53, 54, 55, 56, 57, 97, 98, 99, 100, 101, 102]⟩)) (.tmp 20)) 5 [(20, .w (.a (.int .u8 (.o2 (.bit .and .u8) (.v 7) (.i 15)))))] [] [.i] (.w (.a (.int .u8 (.v 12))))
(.call 53 [.a (.ptr (.v 4) 0), .a (.int .u8 (.v 12))] [(.b (.v 4), .prop 11)] [.v, .p, .p] (.w (.a (.val 13))) [(.a 13, .prop 14), (.b (.v 4), .prop 15)]
(.need (.o1 (.inr .i64) (.o2 .add (.v 5) (.i 1)))
(.again 0 [.e (.o1 .neg (.o1 .neg (.o2 .add (.v 5) (.i 1)))), .p [(.b (.v 4), .prop 15)]])))))))))
(.call 28 [.a (.ptr (.v 4) 0)] [(.b (.v 4), .prop 6)] [.s, .p] (.w (.a (.str (.v 7)))) [(.b (.v 4), .prop 8)]
(.ret (.w (.a (.str (.v 7)))) [(.a 0, .prop 3)]))))))
theorem tree_tTellBytes : tree Tryd.prog { absT := [63], hv := [(0, [.b (.v 4)])], outl := true, opn := true, rdf := true } Tryd.f42 [.a (.sl (.v 0) (.v 1) (.v 2))] [(.a 0, .prop 3)] 4 = t_tTellBytes := by kernel_rfl
def t_tText1 : T :=
(.op (.convert 9 22 (.tmp 3)) 22 [(3, .w (.a (.str (.v 0))))] [] [.a, .n, .n, .p] (.w (.a (.sl (.v 1) (.v 2) (.v 3)))) [(.a 1, .prop 4)]
(.call 42 [.a (.sl (.v 1) (.v 2) (.v 3))] [(.a 1, .prop 4)] [.s, .p] (.w (.a (.str (.v 5)))) [(.a 1, .prop 6)]
(.ret (.w (.a (.str (.v 5)))) [])))
theorem tree_tText1 : tree Tryd.prog { absT := [63], outl := true, opn := true, rdf := true } Tryd.f51 [.a (.str (.v 0))] [] 1 = t_tText1 := by kernel_rfl
def t_tTruth1 : T :=
(.br (.v 0)
(.ret (.w (.a (.str (.s [49])))) [])
(.ret (.w (.a (.str (.s [48])))) []))
theorem tree_tTruth1 : tree Tryd.prog { absT := [63], outl := true, opn := true, rdf := true } Tryd.f40 [.a (.bool (.v 0))] [] 1 = t_tTruth1 := by kernel_rfl
def t_tPutInt : T :=
(.new
(.callv 0 [.a (.ptr (.v 6) 0)] [(.a 0, .prop 1), (.b (.v 6), .prop 7)] [.v, .p, .p] (.w (.a (.val 9))) [(.a 9, .prop 10), (.a 0, .prop 11), (.b (.v 6), .prop 7)]
(.read (.nilCheck (.tmp 10)) 0 [(10, .w (.a (.val 9)))] [(.a 9, .prop 10), (.b (.v 6), .prop 7)] [] (.w (.a (.val 9)))
(.read (.load 3 (.tmp 11)) 3 [(11, .w (.a (.val 9)))] [(.a 9, .prop 10), (.b (.v 6), .prop 7)] [.i] (.w (.a (.int .i64 (.v 12))))
(.callv 2 [.a (.int .i64 (.v 12))] [(.a 2, .prop 3)] [.s, .p] (.w (.a (.str (.v 13)))) [(.a 2, .prop 14)]
(.ret (.w (.a (.str (.v 13)))) [(.a 0, .prop 11), (.a 2, .prop 14), (.a 4, .prop 5), (.b (.v 6), .prop 7)]))))))
theorem tree_tPutInt : tree Tryd.prog { absT := [63], opq := [52], outl := true, rdf := true, vlk := true } Tryd.f109 [.agg [.val 0, .val 2, .val 4], .a (.ptr (.v 6) 0)] [(.a 0, .prop 1), (.a 2, .prop 3), (.a 4, .prop 5), (.b (.v 6), .prop 7)] 8 = t_tPutInt := by kernel_rfl
def t_tPutBool : T :=
(.new
(.callv 0 [.a (.ptr (.v 6) 0)] [(.a 0, .prop 1), (.b (.v 6), .prop 7)] [.v, .p, .p] (.w (.a (.val 9))) [(.a 9, .prop 10), (.a 0, .prop 11), (.b (.v 6), .prop 7)]
(.read (.nilCheck (.tmp 10)) 0 [(10, .w (.a (.val 9)))] [(.a 9, .prop 10), (.b (.v 6), .prop 7)] [] (.w (.a (.val 9)))
(.read (.load 4 (.tmp 11)) 4 [(11, .w (.a (.val 9)))] [(.a 9, .prop 10), (.b (.v 6), .prop 7)] [.c] (.w (.a (.bool (.v 12))))
(.callv 2 [.a (.bool (.v 12))] [(.a 2, .prop 3)] [.s, .p] (.w (.a (.str (.v 13)))) [(.a 2, .prop 14)]
(.ret (.w (.a (.str (.v 13)))) [(.a 0, .prop 11), (.a 2, .prop 14), (.a 4, .prop 5), (.b (.v 6), .prop 7)]))))))
theorem tree_tPutBool : tree Tryd.prog { absT := [63], opq := [56], outl := true, rdf := true, vlk := true } Tryd.f111 [.agg [.val 0, .val 2, .val 4], .a (.ptr (.v 6) 0)] [(.a 0, .prop 1), (.a 2, .prop 3), (.a 4, .prop 5), (.b (.v 6), .prop 7)] 8 = t_tPutBool := by kernel_rfl
def t_tPutBytes : T :=
(.new
(.callv 0 [.a (.ptr (.v 6) 0)] [(.a 0, .prop 1), (.b (.v 6), .prop 7)] [.v, .p, .p] (.w (.a (.val 9))) [(.a 9, .prop 10), (.a 0, .prop 11), (.b (.v 6), .prop 7)]
(.read (.nilCheck (.tmp 10)) 0 [(10, .w (.a (.val 9)))] [(.a 9, .prop 10), (.b (.v 6), .prop 7)] [] (.w (.a (.val 9)))
(.read (.load 22 (.tmp 11)) 22 [(11, .w (.a (.val 9)))] [(.a 9, .prop 10), (.b (.v 6), .prop 7)] [.a, .n, .n] (.w (.a (.sl (.v 12) (.v 13) (.v 14))))
(.callv 2 [.a (.sl (.v 12) (.v 13) (.v 14))] [(.a 2, .prop 3), (.a 9, .prop 10), (.b (.v 6), .prop 7)] [.s, .p] (.w (.a (.str (.v 15)))) [(.a 2, .prop 16), (.a 9, .prop 10), (.b (.v 6), .prop 7)]
(.ret (.w (.a (.str (.v 15)))) [(.a 0, .prop 11), (.a 2, .prop 16), (.a 4, .prop 5), (.b (.v 6), .prop 7)]))))))
theorem tree_tPutBytes : tree Tryd.prog { absT := [63], opq := [59], outl := true, rdf := true, vlk := true } Tryd.f113 [.agg [.val 0, .val 2, .val 4], .a (.ptr (.v 6) 0)] [(.a 0, .prop 1), (.a 2, .prop 3), (.a 4, .prop 5), (.b (.v 6), .prop 7)] 8 = t_tPutBytes := by kernel_rfl
def t_tPutStr : T :=
(.new
(.callv 0 [.a (.ptr (.v 6) 0)] [(.a 0, .prop 1), (.b (.v 6), .prop 7)] [.v, .p, .p] (.w (.a (.val 9))) [(.a 9, .prop 10), (.a 0, .prop 11), (.b (.v 6), .prop 7)]
(.read (.nilCheck (.tmp 10)) 0 [(10, .w (.a (.val 9)))] [(.a 9, .prop 10), (.b (.v 6), .prop 7)] [] (.w (.a (.val 9)))
(.read (.load 9 (.tmp 11)) 9 [(11, .w (.a (.val 9)))] [(.a 9, .prop 10), (.b (.v 6), .prop 7)] [.s] (.w (.a (.str (.v 12))))
(.callv 2 [.a (.str (.v 12))] [(.a 2, .prop 3)] [.s, .p] (.w (.a (.str (.v 13)))) [(.a 2, .prop 14)]
(.ret (.w (.a (.str (.v 13)))) [(.a 0, .prop 11), (.a 2, .prop 14), (.a 4, .prop 5), (.b (.v 6), .prop 7)]))))))
theorem tree_tPutStr : tree Tryd.prog { absT := [63], opq := [77], outl := true, rdf := true, vlk := true } Tryd.f115 [.agg [.val 0, .val 2, .val 4], .a (.ptr (.v 6) 0)] [(.a 0, .prop 1), (.a 2, .prop 3), (.a 4, .prop 5), (.b (.v 6), .prop 7)] 8 = t_tPutStr := by kernel_rfl
def t_tLine : T :=
(.new
(.call 12 [.a (.int .i64 (.v 0))] [] [.s, .a, .n, .n, .p] (.tup [.a (.str (.v 18)), .a (.sl (.v 19) (.v 20) (.v 21))]) [(.a 19, .prop 22)]
(.br (.o2 .seq (.v 18) (.s []))
(.ret (.w (.a (.str (.s [63])))) [(.a 9, .prop 12), (.a 13, .prop 16)])
(.new
(.loop [.a, .n, .n, .i, .p, .p] [.a (.b (.v 23) 0), .e (.o2 .nadd (.n 1) (.n 0)), .e (.o2 .nadd (.n 1) (.n 0)), .e (.o1 .neg (.o1 .neg (.i 0))), .p [(.b (.v 23), .cells [.str (.v 18)] 9)], .p [(.b (.v 17), .cells [.int .i64 (.v 0), .int .i64 (.v 1), .int .i64 (.v 2), .bool (.v 3), .int .i64 (.v 4), .str (.v 5), .str (.v 6), .int .i64 (.v 7), .int .i64 (.v 8), .sl (.v 9) (.v 10) (.v 11), .sl (.v 13) (.v 14) (.v 15)] 26), (.a 9, .prop 12), (.a 13, .prop 16)]]
(.br (.o2 .lt (.v 27) (.o1 .ofNat (.v 20)))
(.need (.o2 .le (.i 0) (.v 27))
(.need (.o1 .isSome (.v 19))
(.read (.load 42 (.tmp 22)) 42 [(22, .w (.a (.eptr 19 (.v 27) 1 0)))] [(.a 19, .prop 22)] [.v] (.w (.a (.val 30)))
   (.callm 30 "tideline/tale.put" [.a (.ptr (.v 17) 0)] [(.a 19, .prop 22), (.b (.v 17), .prop 29)] [.s, .p] (.w (.a (.str (.v 31)))) [(.b (.v 17), .prop 32), (.a 19, .prop 22)]
(.new
(.op (.call ⟨.builtin .append, #[.tmp 24, .tmp 27], #[40, 40]⟩) 40 [(24, .w (.a (.sl (.v 24) (.v 25) (.v 26)))), (27, .w (.a (.sl (.b (.v 33) 0) (.n 1) (.n 1))))] [(.a 24, .prop 28), (.b (.v 33), .cells [.str (.v 31)] 9)] [.a, .n, .n, .p] (.w (.a (.sl (.v 34) (.v 35) (.v 36)))) [(.a 34, .prop 37), (.b (.v 33), .cells [.str (.v 31)] 9)]
(.need (.o1 (.inr .i64) (.o2 .add (.v 27) (.i 1)))
(.again 0 [.a (.v 34), .e (.o2 .nadd (.v 35) (.n 0)), .e (.o2 .nadd (.v 36) (.n 0)), .e (.o1 .neg (.o1 .neg (.o2 .add (.v 27) (.i 1)))), .p [(.a 34, .prop 37)], .p [(.b (.v 17), .prop 32)]]))))))))
(.call 13 [.a (.sl (.v 24) (.v 25) (.v 26)), .a (.str (.s [32]))] [(.a 24, .prop 28)] [.s, .p] (.w (.a (.str (.v 30)))) [(.a 24, .prop 31)]
(.ret (.w (.a (.str (.v 30)))) []))))))))
theorem tree_tLine : tree Tryd.prog { absT := [26], hv := [(0, [.b (.v 23), .b (.v 17)])], outl := true, snk := [(0, [.a 9, .a 13])], opn := true, rdf := true } Tryd.f7 [.agg [.int .i64 (.v 0), .int .i64 (.v 1), .int .i64 (.v 2), .bool (.v 3), .int .i64 (.v 4), .str (.v 5), .str (.v 6), .int .i64 (.v 7), .int .i64 (.v 8), .sl (.v 9) (.v 10) (.v 11), .sl (.v 13) (.v 14) (.v 15)]] [(.a 9, .prop 12), (.a 13, .prop 16)] 17 = t_tLine := by kernel_rfl
end Go.Proofs.YtcpjdfihpdjkbaaDoor.RX



namespace Go.Proofs.YtcpjdfihpdjkbaaDoor
set_option linter.unusedSimpArgs false
set_option linter.unusedVariables false
open Go.Proofs.YtcpjdfihpdjkbaaDoor RX Go.RowKit
set_option maxRecDepth 100000

theorem _root_.Go.Proofs.YtcpjdfihpdjkbaaDoor.Sat.below {w w' : World} {R h F : PH} (s : Sat w R h F) (b : Below w.heap.size w w') : Sat w' R h F := by
  have k : ∀ g : PH, g.own w → g.own w' := fun g og i o e => by rw [b.block i (og.lt e)]; exact og i o e
  exact ⟨s.dRh, s.dRF, s.dhF, k R s.oR, k h s.oh, k F s.oF, s.gl⟩
theorem Tri.ofBelow {P : Program} {f : FuncId} {args : Array Value} {B : Value → Prop} (A : HP) (h : ∀ w R h F, Sat w R h F → A.p R h → Calls P f args w fun e w' => ∃ v, e = .returned v ∧ B v ∧ Below w.heap.size w w') : Tri P f args A (fun u => HP.and (B u) A) :=
  fun w R x F s a => (h w R x F s a).mono fun e w' ⟨v, he, hB, b⟩ => ⟨v, he, ⟨b.os, b.tape, b.output, b.size⟩, R, x, PH.le.refl _, s.below b, hB, a⟩
theorem below_grow (w : World) (os : Array Obj) (k : Nat) : Below w.heap.size w (Go.Sort.grow (w.drewN k) os) :=
  ⟨rfl, rfl, rfl, by simp [Go.Sort.grow, World.drewN], fun i hi => by simp [Go.Sort.grow, World.drewN, Array.getElem?_append, hi]⟩

theorem var_of {w : World} {R h F : PH} (s : Sat w R h F) {g : Nat} {nm : String} {cs : Array Value} {ty : TypeId} {fr : Nat × Nat} (hn : Tryd.prog.globalNamed nm = some g) (hg : R g = some (.cells cs ty fr)) : w.var? Tryd.prog nm = some cs := by
  unfold World.var?
  rw [hn]
  simp only [Option.bind_some]
  rw [s.oR _ _ hg]
theorem tens_of {w : World} {R h F : PH} (s : Sat w R h F) : Lib.TabIs Tryd.prog w "internal/strconv.uint64pow10" .u64 Lib.pow10Tab := by
  obtain ⟨⟨ty, fr, e⟩, _⟩ := s.gl
  have := var_of s (nm := "internal/strconv.uint64pow10") (g := 3) (by kernel_rfl) e
  unfold Lib.TabIs
  rw [this]
  have : Lib.pow10Tab = tens := by decide
  rw [this]

theorem itoa_ok (n : Int) (hn : IntKind.i64.min ≤ n ∧ n ≤ IntKind.i64.max) (A : HP) : Tri Tryd.prog 31 #[.int .i64 n] A (fun v => HP.and (v = sE (Lib.itoa n)) A) :=
  Tri.ofBelow (B := fun v => v = sE (Lib.itoa n)) A fun w R h F s _ => (Tryd.strconv_Itoa n hn.1 hn.2 w (tens_of s)).mono fun e w' ⟨he, k, os, hw⟩ => ⟨_, he, rfl, hw ▸ below_grow w os k⟩
def atoiV (s : List UInt8) : Int := match Lib.atoiAll s with
  | .ok v => v
  | .range => Lib.atoiSat s
  | _ => 0
def atoiB (s : List UInt8) : Bool := match Lib.atoiAll s with
  | .ok _ => true
  | _ => false
theorem isIf {t : TypeId} (h : (match Tryd.prog.underlying t with | some (.interface _) => true | _ => false) = true) : ∃ ms, Tryd.prog.underlying t = some (.interface ms) := by
  split at h
  · rename_i ms e; exact ⟨ms, e⟩
  · cases h
end Go.Proofs.YtcpjdfihpdjkbaaDoor



namespace Go.Proofs.YtcpjdfihpdjkbaaDoor
set_option linter.unusedSimpArgs false
set_option linter.unusedVariables false
open Go.Proofs.YtcpjdfihpdjkbaaDoor RX Go.RowKit
set_option maxRecDepth 100000

theorem inI64t (x : Int) (h1 : -9223372036854775808 ≤ x) (h2 : x ≤ 9223372036854775807) : IntKind.i64.min ≤ x ∧ x ≤ IntKind.i64.max := ⟨h1, h2⟩
def digsL : List UInt8 := [48, 49, 50, 51, 52, 53, 54, 55, 56, 57, 97, 98, 99, 100, 101, 102]
def hexD (n : Nat) : UInt8 := digsL.getD n 0
def hex1 (x : UInt8) : List UInt8 := [hexD (x.toNat / 16), hexD (x.toNat % 16)]
def hexL (l : List UInt8) : List UInt8 := l.flatMap hex1
def hexW (l : List UInt8) : List UInt8 := if l = [] then [45] else hexL l
theorem hexL_len (l : List UInt8) : (hexL l).length = 2 * l.length := by
  unfold hexL
  induction l with
  | nil => rfl
  | cons x r ih => rw [List.flatMap_cons, List.length_append, ih]; show 2 + _ = _; rw [List.length_cons]; omega
theorem und8b' : Tryd.prog.underlying 5 = some (.int .u8) := by kernel_rfl
theorem agg8b : aggT Tryd.prog 5 = false := by kernel_rfl
theorem sz8b : szT Tryd.prog 5 = 1 := by kernel_rfl
theorem loadB {S : HP} {a : Option Addr} {l : List UInt8} {k : Nat} {x : UInt8} (r : Rd S a (l.map u8v)) (hk : l[k]? = some x) : ORead Tryd.prog (loadS 5 (.pointer (a.map fun y => (y.add (k * 1)).add 0))) S (.int .u8 x.toNat) :=
  load1_ok und8b' agg8b sz8b r (k := k * 1) (off := 0) (by simp [hk, u8v])
theorem strIxG {t ty : TypeId} {o1 o2 : Operand} {ar : List (Nat × Value)} {kd : IntKind} (ht : Tryd.prog.underlying t = some .string) {s : List UInt8} {k : Nat} {x : Int} {c : UInt8} (hx : x = k) (hk : s[k]? = some c) (h1 : arW ar o1 = .string ⟨s.toArray⟩) (h2 : arW ar o2 = .int kd x) {A : HP} :
    ORead Tryd.prog (semW (.index t o1 o2) ty ar) A (.int .u8 c.toNat) := fun w R hh F st _ => by
  subst hx
  have hkl : k < s.length := (List.getElem?_eq_some_iff.1 hk).1
  have e : (Instr.index t (.string ⟨s.toArray⟩) (.int kd k)).run Tryd.prog w = .ok (.int .u8 c.toNat) w := by
    have hb : (⟨s.toArray⟩ : ByteArray)[k]? = some c := by
      have hz : k < (⟨s.toArray⟩ : ByteArray).size := by simp [ByteArray.size]; exact hkl
      rw [getElem?_pos (⟨s.toArray⟩ : ByteArray) k hz]
      rw [List.getElem?_eq_getElem hkl] at hk
      exact hk
    unfold Instr.index
    simp [asIntOf, Sem.run_bind, RX.run_underlying ht, hb]
  simp only [semW, execOp, h1, h2]
  rw [Sem.run_bind, e]
  rfl
theorem shr4 (x : UInt8) : Int.fdiv (x.toNat : Int) (2 ^ (min (4 : Int).toNat IntKind.u8.bits)) = ((x.toNat / 16 : Nat) : Int) := by
  show Int.fdiv (x.toNat : Int) 16 = _
  rw [Int.fdiv_eq_ediv_of_nonneg _ (by decide)]; rfl
theorem and15 (x : UInt8) : bits .and .u8 (x.toNat : Int) 15 = ((x.toNat % 16 : Nat) : Int) := by
  have : ∀ n : Fin 256, bits .and .u8 ((n : Nat) : Int) 15 = ((n.val % 16 : Nat) : Int) := by decide
  exact this ⟨x.toNat, x.toNat_lt⟩
theorem digs_get {n : Nat} (h : n < 16) : digsL[n]? = some (hexD n) := by
  have : ∀ m : Fin 16, digsL[m.val]? = some (hexD m.val) := by decide
  exact this ⟨n, h⟩
set_option maxHeartbeats 1000000 in
theorem tellBytes_ok (S : HP) (a : Option Addr) (n c : Nat) (l : List UInt8) (hr : RdL S a n (l.map u8v)) (hl : l.length = n) (hn : n ≤ 20000) : Tri Tryd.prog 42 #[.slice a n c] S (fun v => HP.and (v = sE (hexW l)) S) := by
  refine Tri.fact (φ := a = none → n = 0) (fun R h H => hr.none R _ H) fun hnil => ?_
  refine tri_of_tree (ρ := [.a a, .n n, .n c, .p S]) mixed Tryd.func42 tree_tTellBytes ?_
  unfold t_tTellBytes
  simp only [T.den, E.prop, E.den, RX.look, F1.app, F2.app, Uni.int_i, Uni.nat_n, Uni.bool_c, Uni.str_s, Uni.adr_a, Uni.val_v, Uni.hp_p, hden, cden, V.den, W.den, A.den, BR.den, SA.den, FV.den, capV, exs, exP, allP, Cur.app, List.map_cons, List.map_nil, List.cons_append, List.nil_append, List.drop_succ_cons, List.drop_zero, List.length_cons, List.length_nil, Nat.zero_add, Nat.reduceAdd, Int.neg_neg, Bool.not_not, List.append_nil, Nat.add_zero, List.getElem?_cons_zero, List.getElem?_cons_succ, Decidable.not_not, semW_eq, semW_load, ne_eq, Nat.reduceEqDiff, not_false_eq_true]
  refine ⟨fun h => .of fun R h' H => ⟨?_, H⟩, fun h0 b => ?_⟩
  · have : l = [] := List.eq_nil_of_length_eq_zero (by omega)
    rw [this]; rfl
  have hne : l ≠ [] := fun e => by subst e; simp at hl; omega
  refine ⟨fun i P => ∃ k : Nat, i = k ∧ k ≤ n ∧ HP.ent P (BRep b (hexL (l.take k))), fun i _ => n - i.toNat, ⟨0, rfl, Nat.zero_le _, .of fun R h H => BRep.new b H⟩, ?_⟩
  rintro _ P ⟨k, rfl, hk, hP⟩
  refine ⟨fun hlt => ⟨by omega, fun _ => ⟨?_, fun _ => ?_⟩⟩, fun hge => ?_⟩
  · cases a with
    | none => have := hnil rfl; omega
    | some _ => rfl
  · have hkl : k < l.length := by omega
    have hlen : (hexL (l.take k)).length ≤ 40000 := by rw [hexL_len, List.length_take]; omega
    have hx16 : l[k].toNat / 16 < 16 := by have := l[k].toNat_lt; omega
    refine ⟨l[k].toNat, loadB hr.rd (List.getElem?_eq_getElem hkl), (hexD (l[k].toNat / 16)).toNat, strIxG undStr (shr4 _) (digs_get hx16) rfl rfl, ?_⟩
    refine (wByteB_ok b (hexL (l.take k)) (hexD (l[k].toNat / 16)) (by omega)).conseq (K := HP.tt) (hP.trans (.of fun R h H => HP.sep_tt H)) fun v => .of fun R h H => ?_
    obtain ⟨rfl, H1⟩ := HP.sep_left H
    refine ⟨.nilIface, HP.tt, BRep b (hexL (l.take k) ++ [hexD (l[k].toNat / 16)]), rfl, ⟨(hexD (l[k].toNat % 16)).toNat, strIxG undStr (and15 _) (digs_get (Nat.mod_lt _ (by decide))) rfl rfl, ?_⟩, HP.tt_sep H1⟩
    clear H H1
    refine (wByteB_ok b (hexL (l.take k) ++ [hexD (l[k].toNat / 16)]) (hexD (l[k].toNat % 16)) (by simp; omega)).weak (fun _ _ h => h) ?_
    rintro v R h ⟨rfl, H⟩
    refine ⟨.nilIface, HP.tt, BRep b (hexL (l.take k) ++ [hexD (l[k].toNat / 16)] ++ [hexD (l[k].toNat % 16)]), rfl, ⟨inI64t _ (by omega) (by omega), fun _ => ⟨⟨k + 1, by omega, by omega, .of fun R h H => ?_⟩, by first | omega | (dsimp only; omega)⟩⟩, HP.tt_sep H⟩
    have e : hexL (l.take (k + 1)) = hexL (l.take k) ++ [hexD (l[k].toNat / 16)] ++ [hexD (l[k].toNat % 16)] := by
      rw [List.take_succ_eq_append_getElem hkl]
      unfold hexL
      rw [List.flatMap_append]
      simp [hex1]
    rw [e]
    exact H
  · obtain rfl : k = n := by omega
    rw [List.take_of_length_le (by omega)] at hP
    have hj : hexL l ≠ [] := fun e => by have := hexL_len l; rw [e] at this; simp at this; omega
    refine (stringB_ok b (hexL l) hj).conseq (K := HP.tt) (hP.trans (.of fun R h H => HP.sep_tt H)) fun v => .of fun R h H => ?_
    obtain ⟨rfl, H1⟩ := HP.sep_left H
    exact ⟨hexL l, HP.tt, rfl, .of fun R h H => ⟨congrArg sE (if_neg hne).symm, H⟩, H1⟩

def hexI (c : UInt8) : Int := Lib.indexByte digsL c
def pairsB : List UInt8 → Option (List UInt8)
  | a :: b :: r => if hexI a < 0 ∨ hexI b < 0 then none else (pairsB r).map (UInt8.ofNat ((hexI a).toNat * 16 + (hexI b).toNat) :: ·)
  | [] => some []
  | [_] => none
def readB (s : List UInt8) : Option (List UInt8) := if s = [45] then some [] else if s = [] ∨ s.length % 2 ≠ 0 then none else pairsB s
end Go.Proofs.YtcpjdfihpdjkbaaDoor



namespace Go.Proofs.YtcpjdfihpdjkbaaDoor
set_option linter.unusedSimpArgs false
set_option linter.unusedVariables false
open Go.Proofs.YtcpjdfihpdjkbaaDoor RX Go.RowKit
set_option maxRecDepth 100000

structure EvS where
  kind : Int
  who : Int
  at_ : Int
  stays : Bool
  ck : Int
  path : List UInt8
  other : List UInt8
  off : Int
  n : Int
  data : List UInt8
  picks : List UInt8
structure EvA where
  da : Option Addr
  dc : Nat
  pa : Option Addr
  pc : Nat
def evL (e : EvS) (r : EvA) : List Value := [.int .i64 e.kind, .int .i64 e.who, .int .i64 e.at_, .bool e.stays, .int .i64 e.ck, sE e.path, sE e.other, .int .i64 e.off, .int .i64 e.n, .slice r.da e.data.length r.dc, .slice r.pa e.picks.length r.pc]
def in64 (x : Int) : Prop := IntKind.i64.min ≤ x ∧ x ≤ IntKind.i64.max
structure EvOk (e : EvS) : Prop where
  who : in64 e.who
  at_ : in64 e.at_
  ck : in64 e.ck
  off : in64 e.off
  n : in64 e.n
  path : e.path.length ≤ 20000
  other : e.other.length ≤ 20000
  data : e.data.length ≤ 20000
  picks : e.picks.length ≤ 20000
def EvO (b : Nat) (e : EvS) (r : EvA) : HP := HP.one b (.cells (evL e r).toArray 26 (0, 0))
def EvB (e : EvS) (r : EvA) : HP := HP.sep (RoB r.da e.data.length e.data) (RoB r.pa e.picks.length e.picks)
def EvHR (b : Nat) (e : EvS) (r : EvA) : HP := HP.and (EvOk e) (HP.sep (EvO b e r) (EvB e r))
abbrev fnV (f : FuncId) : Value := .func (.func f) #[] #[]

def OfT (of : FuncId) (k : Nat) : Prop := Fgo Tryd.prog of ∧ ∀ (b : Nat) (K : HP), Tri Tryd.prog of #[.pointer (some ⟨b, 0, none⟩)] K (fun v => HP.and (v = .pointer (some ⟨b, k, none⟩)) K)
theorem of_who : OfT 19 1 := ⟨⟨_, Tryd.func19, by kernel_rfl, by kernel_rfl⟩, fun b K => by
  refine tri_of_tree (ρ := [.n b, .p K]) mixed Tryd.func19 tree_tForm1 ?_
  unfold t_tForm1
  simp only [T.den, E.prop, E.den, RX.look, F1.app, F2.app, Uni.int_i, Uni.nat_n, Uni.bool_c, Uni.str_s, Uni.adr_a, Uni.val_v, Uni.hp_p, hden, cden, V.den, W.den, A.den, BR.den, SA.den, FV.den, capV, exs, exP, allP, Cur.app, List.map_cons, List.map_nil, List.cons_append, List.nil_append, List.drop_succ_cons, List.drop_zero, List.length_cons, List.length_nil, Nat.zero_add, Nat.reduceAdd, Int.neg_neg, Bool.not_not, List.append_nil, Nat.add_zero, List.getElem?_cons_zero, List.getElem?_cons_succ, Decidable.not_not, semW_eq, ne_eq, Nat.reduceEqDiff, not_false_eq_true]
  exact .of fun R h H => ⟨trivial, H⟩⟩
theorem of_at_ : OfT 20 2 := ⟨⟨_, Tryd.func20, by kernel_rfl, by kernel_rfl⟩, fun b K => by
  refine tri_of_tree (ρ := [.n b, .p K]) mixed Tryd.func20 tree_tForm2 ?_
  unfold t_tForm2
  simp only [T.den, E.prop, E.den, RX.look, F1.app, F2.app, Uni.int_i, Uni.nat_n, Uni.bool_c, Uni.str_s, Uni.adr_a, Uni.val_v, Uni.hp_p, hden, cden, V.den, W.den, A.den, BR.den, SA.den, FV.den, capV, exs, exP, allP, Cur.app, List.map_cons, List.map_nil, List.cons_append, List.nil_append, List.drop_succ_cons, List.drop_zero, List.length_cons, List.length_nil, Nat.zero_add, Nat.reduceAdd, Int.neg_neg, Bool.not_not, List.append_nil, Nat.add_zero, List.getElem?_cons_zero, List.getElem?_cons_succ, Decidable.not_not, semW_eq, ne_eq, Nat.reduceEqDiff, not_false_eq_true]
  exact .of fun R h H => ⟨trivial, H⟩⟩
theorem of_stays : OfT 23 3 := ⟨⟨_, Tryd.func23, by kernel_rfl, by kernel_rfl⟩, fun b K => by
  refine tri_of_tree (ρ := [.n b, .p K]) mixed Tryd.func23 tree_tForm3 ?_
  unfold t_tForm3
  simp only [T.den, E.prop, E.den, RX.look, F1.app, F2.app, Uni.int_i, Uni.nat_n, Uni.bool_c, Uni.str_s, Uni.adr_a, Uni.val_v, Uni.hp_p, hden, cden, V.den, W.den, A.den, BR.den, SA.den, FV.den, capV, exs, exP, allP, Cur.app, List.map_cons, List.map_nil, List.cons_append, List.nil_append, List.drop_succ_cons, List.drop_zero, List.length_cons, List.length_nil, Nat.zero_add, Nat.reduceAdd, Int.neg_neg, Bool.not_not, List.append_nil, Nat.add_zero, List.getElem?_cons_zero, List.getElem?_cons_succ, Decidable.not_not, semW_eq, ne_eq, Nat.reduceEqDiff, not_false_eq_true]
  exact .of fun R h H => ⟨trivial, H⟩⟩
theorem of_picks : OfT 25 10 := ⟨⟨_, Tryd.func25, by kernel_rfl, by kernel_rfl⟩, fun b K => by
  refine tri_of_tree (ρ := [.n b, .p K]) mixed Tryd.func25 tree_tForm4 ?_
  unfold t_tForm4
  simp only [T.den, E.prop, E.den, RX.look, F1.app, F2.app, Uni.int_i, Uni.nat_n, Uni.bool_c, Uni.str_s, Uni.adr_a, Uni.val_v, Uni.hp_p, hden, cden, V.den, W.den, A.den, BR.den, SA.den, FV.den, capV, exs, exP, allP, Cur.app, List.map_cons, List.map_nil, List.cons_append, List.nil_append, List.drop_succ_cons, List.drop_zero, List.length_cons, List.length_nil, Nat.zero_add, Nat.reduceAdd, Int.neg_neg, Bool.not_not, List.append_nil, Nat.add_zero, List.getElem?_cons_zero, List.getElem?_cons_succ, Decidable.not_not, semW_eq, ne_eq, Nat.reduceEqDiff, not_false_eq_true]
  exact .of fun R h H => ⟨trivial, H⟩⟩
theorem of_ck : OfT 33 4 := ⟨⟨_, Tryd.func33, by kernel_rfl, by kernel_rfl⟩, fun b K => by
  refine tri_of_tree (ρ := [.n b, .p K]) mixed Tryd.func33 tree_tCallForm1 ?_
  unfold t_tCallForm1
  simp only [T.den, E.prop, E.den, RX.look, F1.app, F2.app, Uni.int_i, Uni.nat_n, Uni.bool_c, Uni.str_s, Uni.adr_a, Uni.val_v, Uni.hp_p, hden, cden, V.den, W.den, A.den, BR.den, SA.den, FV.den, capV, exs, exP, allP, Cur.app, List.map_cons, List.map_nil, List.cons_append, List.nil_append, List.drop_succ_cons, List.drop_zero, List.length_cons, List.length_nil, Nat.zero_add, Nat.reduceAdd, Int.neg_neg, Bool.not_not, List.append_nil, Nat.add_zero, List.getElem?_cons_zero, List.getElem?_cons_succ, Decidable.not_not, semW_eq, ne_eq, Nat.reduceEqDiff, not_false_eq_true]
  exact .of fun R h H => ⟨trivial, H⟩⟩
theorem of_path : OfT 35 5 := ⟨⟨_, Tryd.func35, by kernel_rfl, by kernel_rfl⟩, fun b K => by
  refine tri_of_tree (ρ := [.n b, .p K]) mixed Tryd.func35 tree_tCallForm2 ?_
  unfold t_tCallForm2
  simp only [T.den, E.prop, E.den, RX.look, F1.app, F2.app, Uni.int_i, Uni.nat_n, Uni.bool_c, Uni.str_s, Uni.adr_a, Uni.val_v, Uni.hp_p, hden, cden, V.den, W.den, A.den, BR.den, SA.den, FV.den, capV, exs, exP, allP, Cur.app, List.map_cons, List.map_nil, List.cons_append, List.nil_append, List.drop_succ_cons, List.drop_zero, List.length_cons, List.length_nil, Nat.zero_add, Nat.reduceAdd, Int.neg_neg, Bool.not_not, List.append_nil, Nat.add_zero, List.getElem?_cons_zero, List.getElem?_cons_succ, Decidable.not_not, semW_eq, ne_eq, Nat.reduceEqDiff, not_false_eq_true]
  exact .of fun R h H => ⟨trivial, H⟩⟩
theorem of_other : OfT 36 6 := ⟨⟨_, Tryd.func36, by kernel_rfl, by kernel_rfl⟩, fun b K => by
  refine tri_of_tree (ρ := [.n b, .p K]) mixed Tryd.func36 tree_tCallForm3 ?_
  unfold t_tCallForm3
  simp only [T.den, E.prop, E.den, RX.look, F1.app, F2.app, Uni.int_i, Uni.nat_n, Uni.bool_c, Uni.str_s, Uni.adr_a, Uni.val_v, Uni.hp_p, hden, cden, V.den, W.den, A.den, BR.den, SA.den, FV.den, capV, exs, exP, allP, Cur.app, List.map_cons, List.map_nil, List.cons_append, List.nil_append, List.drop_succ_cons, List.drop_zero, List.length_cons, List.length_nil, Nat.zero_add, Nat.reduceAdd, Int.neg_neg, Bool.not_not, List.append_nil, Nat.add_zero, List.getElem?_cons_zero, List.getElem?_cons_succ, Decidable.not_not, semW_eq, ne_eq, Nat.reduceEqDiff, not_false_eq_true]
  exact .of fun R h H => ⟨trivial, H⟩⟩
theorem of_off : OfT 37 7 := ⟨⟨_, Tryd.func37, by kernel_rfl, by kernel_rfl⟩, fun b K => by
  refine tri_of_tree (ρ := [.n b, .p K]) mixed Tryd.func37 tree_tCallForm4 ?_
  unfold t_tCallForm4
  simp only [T.den, E.prop, E.den, RX.look, F1.app, F2.app, Uni.int_i, Uni.nat_n, Uni.bool_c, Uni.str_s, Uni.adr_a, Uni.val_v, Uni.hp_p, hden, cden, V.den, W.den, A.den, BR.den, SA.den, FV.den, capV, exs, exP, allP, Cur.app, List.map_cons, List.map_nil, List.cons_append, List.nil_append, List.drop_succ_cons, List.drop_zero, List.length_cons, List.length_nil, Nat.zero_add, Nat.reduceAdd, Int.neg_neg, Bool.not_not, List.append_nil, Nat.add_zero, List.getElem?_cons_zero, List.getElem?_cons_succ, Decidable.not_not, semW_eq, ne_eq, Nat.reduceEqDiff, not_false_eq_true]
  exact .of fun R h H => ⟨trivial, H⟩⟩
theorem of_n : OfT 38 8 := ⟨⟨_, Tryd.func38, by kernel_rfl, by kernel_rfl⟩, fun b K => by
  refine tri_of_tree (ρ := [.n b, .p K]) mixed Tryd.func38 tree_tCallForm5 ?_
  unfold t_tCallForm5
  simp only [T.den, E.prop, E.den, RX.look, F1.app, F2.app, Uni.int_i, Uni.nat_n, Uni.bool_c, Uni.str_s, Uni.adr_a, Uni.val_v, Uni.hp_p, hden, cden, V.den, W.den, A.den, BR.den, SA.den, FV.den, capV, exs, exP, allP, Cur.app, List.map_cons, List.map_nil, List.cons_append, List.nil_append, List.drop_succ_cons, List.drop_zero, List.length_cons, List.length_nil, Nat.zero_add, Nat.reduceAdd, Int.neg_neg, Bool.not_not, List.append_nil, Nat.add_zero, List.getElem?_cons_zero, List.getElem?_cons_succ, Decidable.not_not, semW_eq, ne_eq, Nat.reduceEqDiff, not_false_eq_true]
  exact .of fun R h H => ⟨trivial, H⟩⟩
theorem of_data : OfT 39 9 := ⟨⟨_, Tryd.func39, by kernel_rfl, by kernel_rfl⟩, fun b K => by
  refine tri_of_tree (ρ := [.n b, .p K]) mixed Tryd.func39 tree_tCallForm6 ?_
  unfold t_tCallForm6
  simp only [T.den, E.prop, E.den, RX.look, F1.app, F2.app, Uni.int_i, Uni.nat_n, Uni.bool_c, Uni.str_s, Uni.adr_a, Uni.val_v, Uni.hp_p, hden, cden, V.den, W.den, A.den, BR.den, SA.den, FV.den, capV, exs, exP, allP, Cur.app, List.map_cons, List.map_nil, List.cons_append, List.nil_append, List.drop_succ_cons, List.drop_zero, List.length_cons, List.length_nil, Nat.zero_add, Nat.reduceAdd, Int.neg_neg, Bool.not_not, List.append_nil, Nat.add_zero, List.getElem?_cons_zero, List.getElem?_cons_succ, Decidable.not_not, semW_eq, ne_eq, Nat.reduceEqDiff, not_false_eq_true]
  exact .of fun R h H => ⟨trivial, H⟩⟩
theorem OfT.v {of : FuncId} {k : Nat} (h : OfT of k) (b : Nat) (K : HP) : VTri Tryd.prog (fnV of) #[.pointer (some ⟨b, 0, none⟩)] K (fun v => HP.and (v = .pointer (some ⟨b, k, none⟩)) K) := .inl ⟨of, #[], rfl, h.1, h.2 b K⟩
theorem vOf {f : FuncId} {args : Array Value} {K : HP} {B : Value → HP} (g : Fgo Tryd.prog f) (t : Tri Tryd.prog f args K B) : VTri Tryd.prog (fnV f) args K B := .inl ⟨f, #[], rfl, g, t⟩
theorem ldE {t : TypeId} {d : TypeDesc} (hd : Tryd.prog.underlying t = some d) (ha : aggT Tryd.prog t = false) (hz : szT Tryd.prog t = 1) {b k : Nat} {e : EvS} {r : EvA} {v : Value} (hk : (evL e r)[k]? = some v) : ORead Tryd.prog (loadS t (.pointer (some ⟨b, k, none⟩))) (EvHR b e r) v :=
  ORead.ent (.of fun R h H => H.2) (ldB1 (Q := EvB e r) hd ha hz (by simpa using hk))
theorem undBo : Tryd.prog.underlying 4 = some .bool := by kernel_rfl
theorem aggBo : aggT Tryd.prog 4 = false := by kernel_rfl
theorem szBo : szT Tryd.prog 4 = 1 := by kernel_rfl
theorem RdL.impT {S : HP} {a : Option Addr} {n : Nat} {l : List UInt8} (h : ∀ R x, S.p R x → (RoB a n l).p R x) : RdL S a n (l.map u8v) :=
  ⟨Rd.impR (RoC.rd 1 a n (l.map u8v)) h, fun R x H e => (RdL.ro 1 a n (l.map u8v)).none R x (h R x H) e⟩
def cnvST (s d : TypeId) (u : Value) : Sem Next := do pure (.value (← convert s d u))
theorem semW_cnvT {s d ty : TypeId} {i : Nat} {u : Value} : semW (.convert s d (.tmp i)) ty [(i, u)] = cnvST s d u := by simp [semW, execOp, arW, cnvST]
theorem strBT1 (l : List UInt8) (A : HP) : OTri Tryd.prog (cnvST 9 22 (sE l)) A (fun v => HP.ex fun x => HP.ex fun c => HP.ex fun C : Array Value => HP.and (v = .slice (some ⟨x, 0, none⟩) l.length c ∧ l.length ≤ c ∧ C.toList.take l.length = l.map u8v)
    (HP.sep (HP.one x (.cells C 5 (C.size, C.size + 1))) A)) := fun w R h F s a => by
  have hr := run_bytes_of_string (P := Tryd.prog) w 9 22 5 ⟨l.toArray⟩ undStr und8 und8b'
  have hz : (⟨l.toArray⟩ : ByteArray).size = l.length := by simp [ByteArray.size]
  rw [hz] at hr
  have s0 : Sat w.drew R h F := s.drew _
  obtain ⟨s1, d1⟩ := s0.alloc (.cells (bytesRow ⟨l.toArray⟩ (grownCap w l.length 0 5)) 5 ((bytesRow ⟨l.toArray⟩ (grownCap w l.length 0 5)).size, (bytesRow ⟨l.toArray⟩ (grownCap w l.length 0 5)).size + 1))
  have hc1 := grownCap_ge w l.length 0 5
  have hsame : Same w (w.drew.alloc (.cells (bytesRow ⟨l.toArray⟩ (grownCap w l.length 0 5)) 5 ((bytesRow ⟨l.toArray⟩ (grownCap w l.length 0 5)).size, (bytesRow ⟨l.toArray⟩ (grownCap w l.length 0 5)).size + 1))) := Same.trans (b := w.drew) ⟨rfl, rfl, rfl, Nat.le_refl _⟩ (Same.alloc w.drew _)
  refine ⟨_, _, _, by unfold cnvST sE; rw [Sem.run_bind, hr]; rfl, rfl, hsame, R, _, PH.le.refl _, s1, w.heap.size, _, bytesRow ⟨l.toArray⟩ (grownCap w l.length 0 5), ⟨rfl, hc1, ?_⟩, _, _, d1, PH.un_left _ _, PH.un_right d1, PH.one_self _ _, a⟩
  simp [bytesRow, u8v]
theorem strBT_ok (l : List UInt8) (A : HP) : OTri Tryd.prog (cnvST 9 22 (sE l)) A (fun v => HP.ex fun x => HP.ex fun c => HP.and (v = .slice (some ⟨x, 0, none⟩) l.length c ∧ l.length ≤ c) (HP.sep (RoB (some ⟨x, 0, none⟩) l.length l) A)) :=
  (strBT1 l A).post fun v R h d ⟨x, c, C, ⟨e, hc, ht⟩, H⟩ => by
    obtain ⟨R1, h1, q1, q2, q3, q4, H1⟩ := (HP.ent.sep (HP.ent.share _ _) A) R h d H
    refine ⟨R1, h1, q1, q2, q3, q4, x, c, ⟨e, hc⟩, HP.sep_mono H1 (fun y hy => ⟨by simp, fun _ => ⟨x, 0, C, _, _, rfl, hy, ?_⟩⟩) fun _ h => h⟩
    rw [List.drop_zero, List.length_map]; exact ht
theorem convT {i : Nat} {S : HP} {a : Option Addr} {n c : Nat} {l : List UInt8} (hr : RdL S a n (l.map u8v)) (hl : l.length = n) : ORead Tryd.prog (semW (.convert 22 9 (.tmp i)) 9 [(i, .slice a n c)]) S (sE l) := by
  have := conv_ok (ρ := [.v (.slice a n c)]) (i := i) (x := .w (.a (.val 0))) (S := S) (a := a) (n := n) (c := c) (l := l) rfl hr hl
  rw [semW_eq] at this
  exact this
def boolW (b : Bool) : List UInt8 := if b then [49] else [48]
theorem truth1_ok (x : Bool) (K : HP) : Tri Tryd.prog 40 #[.bool x] K (fun v => HP.and (v = sE (boolW x)) K) := by
  refine Tri.weak (A := HP.sep HP.tt K) (B := fun v => HP.sep (HP.pure (v = sE (boolW x))) K) (Tri.frame ?_ K) (fun R h H => HP.tt_sep H) fun v R h H => ⟨HP.sep_left H, HP.sep_right H⟩
  refine tri_of_tree (ρ := [.c x]) mixed Tryd.func40 tree_tTruth1 ?_
  unfold t_tTruth1
  simp only [T.den, E.prop, E.den, RX.look, F1.app, F2.app, Uni.int_i, Uni.nat_n, Uni.bool_c, Uni.str_s, Uni.adr_a, Uni.val_v, Uni.hp_p, hden, cden, V.den, W.den, A.den, BR.den, SA.den, FV.den, capV, exs, exP, allP, Cur.app, List.map_cons, List.map_nil, List.cons_append, List.nil_append, List.drop_succ_cons, List.drop_zero, List.length_cons, List.length_nil, Nat.zero_add, Nat.reduceAdd, Int.neg_neg, Bool.not_not, List.append_nil, Nat.add_zero, List.getElem?_cons_zero, List.getElem?_cons_succ, Decidable.not_not, semW_eq, ne_eq, Nat.reduceEqDiff, not_false_eq_true]
  refine ⟨fun h => .of fun R _ H => ?_, fun h => .of fun R _ H => ?_⟩
  · obtain rfl : x = true := h
    rfl
  · obtain rfl : x = false := by simpa using h
    rfl
def takeT (s : List UInt8) : Bool := decide (s = [48]) || decide (s = [49])
theorem text1_ok (s : List UInt8) (hs : s.length ≤ 20000) (K : HP) : Tri Tryd.prog 51 #[sE s] K (fun v => HP.and (v = sE (hexW s)) K) := by
  refine Tri.weak (A := HP.sep HP.tt K) (B := fun v => HP.sep (HP.pure (v = sE (hexW s))) K) (Tri.frame ?_ K) (fun R h H => HP.tt_sep H) fun v R h H => ⟨HP.sep_left H, HP.sep_right H⟩
  refine tri_of_tree (ρ := [.s s]) mixed Tryd.func51 tree_tText1 ?_
  unfold t_tText1
  simp only [T.den, E.prop, E.den, RX.look, F1.app, F2.app, Uni.int_i, Uni.nat_n, Uni.bool_c, Uni.str_s, Uni.adr_a, Uni.val_v, Uni.hp_p, hden, cden, V.den, W.den, A.den, BR.den, SA.den, FV.den, capV, exs, exP, allP, Cur.app, List.map_cons, List.map_nil, List.cons_append, List.nil_append, List.drop_succ_cons, List.drop_zero, List.length_cons, List.length_nil, Nat.zero_add, Nat.reduceAdd, Int.neg_neg, Bool.not_not, List.append_nil, Nat.add_zero, List.getElem?_cons_zero, List.getElem?_cons_succ, Decidable.not_not, semW_eq, ne_eq, Nat.reduceEqDiff, not_false_eq_true]
  rw [semW_cnvT]
  refine (strBT_ok s HP.tt).weak (fun _ _ h => h) ?_
  rintro v R h ⟨x, c, ⟨rfl, hc⟩, H⟩
  refine ⟨some ⟨x, 0, none⟩, s.length, c, RoB (some ⟨x, 0, none⟩) s.length s, rfl, ?_, HP.sep_left H⟩
  clear H
  refine (tellBytes_ok (RoB (some ⟨x, 0, none⟩) s.length s) (some ⟨x, 0, none⟩) s.length c s (RdL.ro _ _ _ _) rfl hs).weak (fun _ _ h => h) ?_
  rintro v R h ⟨rfl, H⟩
  exact ⟨hexW s, HP.tt, rfl, .of fun R h H => rfl, trivial⟩

theorem ldSlE {b k : Nat} {e : EvS} {r : EvA} {v : Value} (hk : (evL e r)[k]? = some v) : ORead Tryd.prog (loadS 22 (.pointer (some ⟨b, k, none⟩))) (EvHR b e r) v := ldE und8 (by kernel_rfl) (by kernel_rfl) hk
theorem putInt_ok {of : FuncId} {k : Nat} (ho : OfT of k) (b : Nat) (e : EvS) (r : EvA) {x : Int} (hk : (evL e r)[k]? = some (.int .i64 x)) (hx : in64 x) :
    Tri Tryd.prog 109 #[.agg #[fnV of, fnV 31, fnV 32], .pointer (some ⟨b, 0, none⟩)] (EvHR b e r) (fun v => HP.and (v = sE (Lib.itoa x)) (EvHR b e r)) := by
  refine Tri.weak (A := HP.sep HP.tt (HP.sep HP.tt (HP.sep HP.tt (EvHR b e r)))) ?_ (fun R h H => HP.tt_sep (HP.tt_sep (HP.tt_sep H))) fun _ _ _ h => h
  refine tri_of_tree (ρ := [.v (fnV of), .p HP.tt, .v (fnV 31), .p HP.tt, .v (fnV 32), .p HP.tt, .n b, .p (EvHR b e r)]) mixed Tryd.func109 tree_tPutInt ?_
  unfold t_tPutInt
  simp only [T.den, E.prop, E.den, RX.look, F1.app, F2.app, Uni.int_i, Uni.nat_n, Uni.bool_c, Uni.str_s, Uni.adr_a, Uni.val_v, Uni.hp_p, hden, cden, V.den, W.den, A.den, BR.den, SA.den, FV.den, capV, exs, exP, allP, Cur.app, List.map_cons, List.map_nil, List.cons_append, List.nil_append, List.drop_succ_cons, List.drop_zero, List.length_cons, List.length_nil, Nat.zero_add, Nat.reduceAdd, Int.neg_neg, Bool.not_not, List.append_nil, Nat.add_zero, List.getElem?_cons_zero, List.getElem?_cons_succ, Decidable.not_not, semW_eq, semW_load, semW_nil, ne_eq, Nat.reduceEqDiff, not_false_eq_true]
  intro _
  refine (ho.v b (EvHR b e r)).weak (fun R h H => HP.sep_right H) ?_
  rintro v R h ⟨rfl, H⟩
  refine ⟨.pointer (some ⟨b, k, none⟩), HP.tt, HP.tt, rfl, ⟨nilChk', x, (ldE undIb aggI szI hk).imp fun _ _ H => HP.sep_right H, ?_⟩, HP.tt_sep (HP.tt_sep H)⟩
  clear H
  refine (vOf ⟨_, Tryd.func31, by kernel_rfl, by kernel_rfl⟩ (itoa_ok x hx HP.tt)).weak (fun _ _ h => h) ?_
  rintro v R h ⟨rfl, H⟩
  exact ⟨Lib.itoa x, HP.tt, rfl, .of fun R h H => ⟨rfl, HP.sep_right (HP.sep_right (HP.sep_right H))⟩, H⟩
theorem putBool_ok {of : FuncId} {k : Nat} (ho : OfT of k) (b : Nat) (e : EvS) (r : EvA) {x : Bool} (hk : (evL e r)[k]? = some (.bool x)) :
    Tri Tryd.prog 111 #[.agg #[fnV of, fnV 40, fnV 41], .pointer (some ⟨b, 0, none⟩)] (EvHR b e r) (fun v => HP.and (v = sE (boolW x)) (EvHR b e r)) := by
  refine Tri.weak (A := HP.sep HP.tt (HP.sep HP.tt (HP.sep HP.tt (EvHR b e r)))) ?_ (fun R h H => HP.tt_sep (HP.tt_sep (HP.tt_sep H))) fun _ _ _ h => h
  refine tri_of_tree (ρ := [.v (fnV of), .p HP.tt, .v (fnV 40), .p HP.tt, .v (fnV 41), .p HP.tt, .n b, .p (EvHR b e r)]) mixed Tryd.func111 tree_tPutBool ?_
  unfold t_tPutBool
  simp only [T.den, E.prop, E.den, RX.look, F1.app, F2.app, Uni.int_i, Uni.nat_n, Uni.bool_c, Uni.str_s, Uni.adr_a, Uni.val_v, Uni.hp_p, hden, cden, V.den, W.den, A.den, BR.den, SA.den, FV.den, capV, exs, exP, allP, Cur.app, List.map_cons, List.map_nil, List.cons_append, List.nil_append, List.drop_succ_cons, List.drop_zero, List.length_cons, List.length_nil, Nat.zero_add, Nat.reduceAdd, Int.neg_neg, Bool.not_not, List.append_nil, Nat.add_zero, List.getElem?_cons_zero, List.getElem?_cons_succ, Decidable.not_not, semW_eq, semW_load, semW_nil, ne_eq, Nat.reduceEqDiff, not_false_eq_true]
  intro _
  refine (ho.v b (EvHR b e r)).weak (fun R h H => HP.sep_right H) ?_
  rintro v R h ⟨rfl, H⟩
  refine ⟨.pointer (some ⟨b, k, none⟩), HP.tt, HP.tt, rfl, ⟨nilChk', x, (ldE undBo aggBo szBo hk).imp fun _ _ H => HP.sep_right H, ?_⟩, HP.tt_sep (HP.tt_sep H)⟩
  clear H
  refine (vOf ⟨_, Tryd.func40, by kernel_rfl, by kernel_rfl⟩ (truth1_ok x HP.tt)).weak (fun _ _ h => h) ?_
  rintro v R h ⟨rfl, H⟩
  exact ⟨boolW x, HP.tt, rfl, .of fun R h H => ⟨rfl, HP.sep_right (HP.sep_right (HP.sep_right H))⟩, H⟩
theorem putStr_ok {of : FuncId} {k : Nat} (ho : OfT of k) (b : Nat) (e : EvS) (r : EvA) {x : List UInt8} (hk : (evL e r)[k]? = some (sE x)) (hx : x.length ≤ 20000) :
    Tri Tryd.prog 115 #[.agg #[fnV of, fnV 51, fnV 52], .pointer (some ⟨b, 0, none⟩)] (EvHR b e r) (fun v => HP.and (v = sE (hexW x)) (EvHR b e r)) := by
  refine Tri.weak (A := HP.sep HP.tt (HP.sep HP.tt (HP.sep HP.tt (EvHR b e r)))) ?_ (fun R h H => HP.tt_sep (HP.tt_sep (HP.tt_sep H))) fun _ _ _ h => h
  refine tri_of_tree (ρ := [.v (fnV of), .p HP.tt, .v (fnV 51), .p HP.tt, .v (fnV 52), .p HP.tt, .n b, .p (EvHR b e r)]) mixed Tryd.func115 tree_tPutStr ?_
  unfold t_tPutStr
  simp only [T.den, E.prop, E.den, RX.look, F1.app, F2.app, Uni.int_i, Uni.nat_n, Uni.bool_c, Uni.str_s, Uni.adr_a, Uni.val_v, Uni.hp_p, hden, cden, V.den, W.den, A.den, BR.den, SA.den, FV.den, capV, exs, exP, allP, Cur.app, List.map_cons, List.map_nil, List.cons_append, List.nil_append, List.drop_succ_cons, List.drop_zero, List.length_cons, List.length_nil, Nat.zero_add, Nat.reduceAdd, Int.neg_neg, Bool.not_not, List.append_nil, Nat.add_zero, List.getElem?_cons_zero, List.getElem?_cons_succ, Decidable.not_not, semW_eq, semW_load, semW_nil, ne_eq, Nat.reduceEqDiff, not_false_eq_true]
  intro _
  refine (ho.v b (EvHR b e r)).weak (fun R h H => HP.sep_right H) ?_
  rintro v R h ⟨rfl, H⟩
  refine ⟨.pointer (some ⟨b, k, none⟩), HP.tt, HP.tt, rfl, ⟨nilChk', x, (ldE undStr aggStr szStr hk).imp fun _ _ H => HP.sep_right H, ?_⟩, HP.tt_sep (HP.tt_sep H)⟩
  clear H
  refine (vOf ⟨_, Tryd.func51, by kernel_rfl, by kernel_rfl⟩ (text1_ok x hx HP.tt)).weak (fun _ _ h => h) ?_
  rintro v R h ⟨rfl, H⟩
  exact ⟨hexW x, HP.tt, rfl, .of fun R h H => ⟨rfl, HP.sep_right (HP.sep_right (HP.sep_right H))⟩, H⟩
theorem putBytes_ok {of : FuncId} {k : Nat} (ho : OfT of k) (b : Nat) (e : EvS) (r : EvA) {l : List UInt8} {a : Option Addr} {c : Nat} (hk : (evL e r)[k]? = some (.slice a l.length c)) (hl : l.length ≤ 20000) (hr : ∀ R h, (EvB e r).p R h → (RoB a l.length l).p R h) :
    Tri Tryd.prog 113 #[.agg #[fnV of, fnV 42, fnV 43], .pointer (some ⟨b, 0, none⟩)] (EvHR b e r) (fun v => HP.and (v = sE (hexW l)) (EvHR b e r)) := by
  refine Tri.weak (A := HP.sep HP.tt (HP.sep HP.tt (HP.sep HP.tt (EvHR b e r)))) ?_ (fun R h H => HP.tt_sep (HP.tt_sep (HP.tt_sep H))) fun _ _ _ h => h
  refine tri_of_tree (ρ := [.v (fnV of), .p HP.tt, .v (fnV 42), .p HP.tt, .v (fnV 43), .p HP.tt, .n b, .p (EvHR b e r)]) mixed Tryd.func113 tree_tPutBytes ?_
  unfold t_tPutBytes
  simp only [T.den, E.prop, E.den, RX.look, F1.app, F2.app, Uni.int_i, Uni.nat_n, Uni.bool_c, Uni.str_s, Uni.adr_a, Uni.val_v, Uni.hp_p, hden, cden, V.den, W.den, A.den, BR.den, SA.den, FV.den, capV, exs, exP, allP, Cur.app, List.map_cons, List.map_nil, List.cons_append, List.nil_append, List.drop_succ_cons, List.drop_zero, List.length_cons, List.length_nil, Nat.zero_add, Nat.reduceAdd, Int.neg_neg, Bool.not_not, List.append_nil, Nat.add_zero, List.getElem?_cons_zero, List.getElem?_cons_succ, Decidable.not_not, semW_eq, semW_load, semW_nil, ne_eq, Nat.reduceEqDiff, not_false_eq_true]
  intro _
  refine (ho.v b (EvHR b e r)).weak (fun R h H => HP.sep_right H) ?_
  rintro v R h ⟨rfl, H⟩
  refine ⟨.pointer (some ⟨b, k, none⟩), HP.tt, HP.tt, rfl, ⟨nilChk', a, l.length, c, (ldSlE hk).imp fun _ _ H => HP.sep_right H, ?_⟩, HP.tt_sep (HP.tt_sep H)⟩
  clear H
  refine (vOf ⟨_, Tryd.func42, by kernel_rfl, by kernel_rfl⟩ (tellBytes_ok (HP.sep HP.tt (HP.sep HP.tt (EvHR b e r))) a l.length c l (RdL.impT fun R h H => hr R _ (HP.sep_right (HP.sep_right (HP.sep_right H)).2)) rfl hl)).weak (fun _ _ h => h) ?_
  rintro v R h ⟨rfl, H⟩
  exact ⟨hexW l, HP.tt, rfl, .of fun R h H => ⟨rfl, HP.sep_right (HP.sep_right (HP.sep_right H))⟩, H⟩
end Go.Proofs.YtcpjdfihpdjkbaaDoor



namespace Go.Proofs.YtcpjdfihpdjkbaaDoor
open Go.Proofs.YtcpjdfihpdjkbaaDoor RX Go.RowKit
set_option maxRecDepth 100000

inductive Fld where
  | who | at_ | stays | ck | path | other | off | n | data | picks
def wInt (of : FuncId) : Value := .iface 75 (.agg #[fnV of, fnV 31, fnV 32])
def wBool (of : FuncId) : Value := .iface 82 (.agg #[fnV of, fnV 40, fnV 41])
def wStr (of : FuncId) : Value := .iface 93 (.agg #[fnV of, fnV 51, fnV 52])
def wBytes (of : FuncId) : Value := .iface 85 (.agg #[fnV of, fnV 42, fnV 43])
def Fld.val : Fld → Value
  | .who => wInt 19
  | .at_ => wInt 20
  | .stays => wBool 23
  | .ck => wInt 33
  | .path => wStr 35
  | .other => wStr 36
  | .off => wInt 37
  | .n => wInt 38
  | .data => wBytes 39
  | .picks => wBytes 25
def Fld.put (e : EvS) : Fld → List UInt8
  | .who => Lib.itoa e.who
  | .at_ => Lib.itoa e.at_
  | .stays => boolW e.stays
  | .ck => Lib.itoa e.ck
  | .path => hexW e.path
  | .other => hexW e.other
  | .off => Lib.itoa e.off
  | .n => Lib.itoa e.n
  | .data => hexW e.data
  | .picks => hexW e.picks
def numT (s : List UInt8) : Option Int := if atoiB s = true then some (atoiV s) else none
def boolT' (s : List UInt8) : Option Bool := if takeT s = true then some (decide (s = [49])) else none
def Fld.take (e : EvS) (s : List UInt8) : Fld → Option EvS
  | .who => (numT s).map fun x => { e with who := x }
  | .at_ => (numT s).map fun x => { e with at_ := x }
  | .stays => (boolT' s).map fun x => { e with stays := x }
  | .ck => (numT s).map fun x => { e with ck := x }
  | .path => (readB s).map fun x => { e with path := x }
  | .other => (readB s).map fun x => { e with other := x }
  | .off => (numT s).map fun x => { e with off := x }
  | .n => (numT s).map fun x => { e with n := x }
  | .data => (readB s).map fun x => { e with data := x }
  | .picks => (readB s).map fun x => { e with picks := x }
theorem mPutI (x : Value) : ∀ w, (method (Tryd.prog.types.size + Made.depth) 75 x "tideline/tale.put").run Tryd.prog w = .ok (109, x) w := fun w => by kernel_rfl
theorem mPutB (x : Value) : ∀ w, (method (Tryd.prog.types.size + Made.depth) 82 x "tideline/tale.put").run Tryd.prog w = .ok (111, x) w := fun w => by kernel_rfl
theorem mPutS (x : Value) : ∀ w, (method (Tryd.prog.types.size + Made.depth) 93 x "tideline/tale.put").run Tryd.prog w = .ok (115, x) w := fun w => by kernel_rfl
theorem mPutY (x : Value) : ∀ w, (method (Tryd.prog.types.size + Made.depth) 85 x "tideline/tale.put").run Tryd.prog w = .ok (113, x) w := fun w => by kernel_rfl
theorem MTri.fact {v : Value} {nm : String} {args : Array Value} {A : HP} {B : Value → HP} {φ : Prop} (hv : ∃ t x f r, v = .iface t x ∧ (∀ w, (method (Tryd.prog.types.size + Made.depth) t x nm).run Tryd.prog w = .ok (f, r) w) ∧ Fgo Tryd.prog f ∧ (φ → Tri Tryd.prog f (#[r] ++ args) A B)) (hf : ∀ R h, A.p R h → φ) : MTri Tryd.prog v nm args A B :=
  let ⟨t, x, f, r, e, hm, hg, ht⟩ := hv; ⟨t, x, f, r, e, hm, hg, Tri.fact hf ht⟩
theorem put_ok (f : Fld) (b : Nat) (e : EvS) (r : EvA) : MTri Tryd.prog f.val "tideline/tale.put" #[.pointer (some ⟨b, 0, none⟩)] (EvHR b e r) (fun v => HP.and (v = sE (f.put e)) (EvHR b e r)) := by
  refine MTri.fact (φ := EvOk e) ?_ (fun R h H => H.1)
  cases f
  · exact ⟨_, _, _, _, rfl, mPutI _, ⟨_, Tryd.func109, by kernel_rfl, by kernel_rfl⟩, fun h => putInt_ok of_who b e r rfl h.who⟩
  · exact ⟨_, _, _, _, rfl, mPutI _, ⟨_, Tryd.func109, by kernel_rfl, by kernel_rfl⟩, fun h => putInt_ok of_at_ b e r rfl h.at_⟩
  · exact ⟨_, _, _, _, rfl, mPutB _, ⟨_, Tryd.func111, by kernel_rfl, by kernel_rfl⟩, fun h => putBool_ok of_stays b e r rfl⟩
  · exact ⟨_, _, _, _, rfl, mPutI _, ⟨_, Tryd.func109, by kernel_rfl, by kernel_rfl⟩, fun h => putInt_ok of_ck b e r rfl h.ck⟩
  · exact ⟨_, _, _, _, rfl, mPutS _, ⟨_, Tryd.func115, by kernel_rfl, by kernel_rfl⟩, fun h => putStr_ok of_path b e r rfl h.path⟩
  · exact ⟨_, _, _, _, rfl, mPutS _, ⟨_, Tryd.func115, by kernel_rfl, by kernel_rfl⟩, fun h => putStr_ok of_other b e r rfl h.other⟩
  · exact ⟨_, _, _, _, rfl, mPutI _, ⟨_, Tryd.func109, by kernel_rfl, by kernel_rfl⟩, fun h => putInt_ok of_off b e r rfl h.off⟩
  · exact ⟨_, _, _, _, rfl, mPutI _, ⟨_, Tryd.func109, by kernel_rfl, by kernel_rfl⟩, fun h => putInt_ok of_n b e r rfl h.n⟩
  · exact ⟨_, _, _, _, rfl, mPutY _, ⟨_, Tryd.func113, by kernel_rfl, by kernel_rfl⟩, fun h => putBytes_ok of_data b e r rfl h.data fun R h H => HP.sep_left H⟩
  · exact ⟨_, _, _, _, rfl, mPutY _, ⟨_, Tryd.func113, by kernel_rfl, by kernel_rfl⟩, fun h => putBytes_ok of_picks b e r rfl h.picks fun R h H => HP.sep_right H⟩
end Go.Proofs.YtcpjdfihpdjkbaaDoor



namespace Go.Proofs.YtcpjdfihpdjkbaaDoor
set_option linter.unusedSimpArgs false
set_option linter.unusedVariables false
open Go.Proofs.YtcpjdfihpdjkbaaDoor RX Go.RowKit
set_option maxRecDepth 100000

theorem mkI_ok {t ty : TypeId} {i : Nat} {x : Value} {fs : Array Field} (hu : Tryd.prog.underlying t = some (.struct fs)) (A : HP) : OTri Tryd.prog (semW (.makeInterface t (.tmp i)) ty [(i, x)]) A (fun v => HP.and (v = .iface t x) A) :=
  OTri.ofRead (v := .iface t x) (fun w R h F s a => by
    simp [semW, execOp, arW, Instr.makeInterface, RX.run_underlying hu, Sem.run_bind]) fun R h H => ⟨rfl, H⟩
theorem isSt {t : TypeId} (h : (match Tryd.prog.underlying t with | some (.struct _) => true | _ => false) = true) : ∃ fs, Tryd.prog.underlying t = some (.struct fs) := by
  split at h
  · rename_i ms e; exact ⟨ms, e⟩
  · cases h
theorem number_ok (of : FuncId) : Tri Tryd.prog 18 #[fnV of] HP.tt (fun v => HP.and (v = wInt of) HP.tt) := by
  refine tri_of_tree (ρ := [.v (fnV of), .p HP.tt]) mixed Tryd.func18 tree_tNumber ?_
  unfold t_tNumber
  simp only [T.den, E.prop, E.den, RX.look, F1.app, F2.app, Uni.int_i, Uni.nat_n, Uni.bool_c, Uni.str_s, Uni.adr_a, Uni.val_v, Uni.hp_p, hden, cden, V.den, W.den, A.den, BR.den, SA.den, FV.den, capV, exs, exP, allP, Cur.app, List.map_cons, List.map_nil, List.cons_append, List.nil_append, List.drop_succ_cons, List.drop_zero, List.length_cons, List.length_nil, Nat.zero_add, Nat.reduceAdd, Int.neg_neg, Bool.not_not, List.append_nil, Nat.add_zero, List.getElem?_cons_zero, List.getElem?_cons_succ, Decidable.not_not, semW_eq, ne_eq, Nat.reduceEqDiff, not_false_eq_true]
  obtain ⟨fs, hu⟩ := isSt (t := 75) (by kernel_rfl)
  refine (mkI_ok hu HP.tt).weak (fun _ _ h => h) ?_
  rintro v R h ⟨rfl, H⟩
  exact ⟨wInt of, HP.tt, HP.tt, rfl, .of fun R h H => ⟨rfl, trivial⟩, HP.tt_sep trivial⟩
theorem data_ok (of : FuncId) : Tri Tryd.prog 24 #[fnV of] HP.tt (fun v => HP.and (v = wBytes of) HP.tt) := by
  refine tri_of_tree (ρ := [.v (fnV of), .p HP.tt]) mixed Tryd.func24 tree_tData ?_
  unfold t_tData
  simp only [T.den, E.prop, E.den, RX.look, F1.app, F2.app, Uni.int_i, Uni.nat_n, Uni.bool_c, Uni.str_s, Uni.adr_a, Uni.val_v, Uni.hp_p, hden, cden, V.den, W.den, A.den, BR.den, SA.den, FV.den, capV, exs, exP, allP, Cur.app, List.map_cons, List.map_nil, List.cons_append, List.nil_append, List.drop_succ_cons, List.drop_zero, List.length_cons, List.length_nil, Nat.zero_add, Nat.reduceAdd, Int.neg_neg, Bool.not_not, List.append_nil, Nat.add_zero, List.getElem?_cons_zero, List.getElem?_cons_succ, Decidable.not_not, semW_eq, ne_eq, Nat.reduceEqDiff, not_false_eq_true]
  obtain ⟨fs, hu⟩ := isSt (t := 85) (by kernel_rfl)
  refine (mkI_ok hu HP.tt).weak (fun _ _ h => h) ?_
  rintro v R h ⟨rfl, H⟩
  exact ⟨wBytes of, HP.tt, HP.tt, rfl, .of fun R h H => ⟨rfl, trivial⟩, HP.tt_sep trivial⟩
theorem text_ok (of : FuncId) : Tri Tryd.prog 34 #[fnV of] HP.tt (fun v => HP.and (v = wStr of) HP.tt) := by
  refine tri_of_tree (ρ := [.v (fnV of), .p HP.tt]) mixed Tryd.func34 tree_tText ?_
  unfold t_tText
  simp only [T.den, E.prop, E.den, RX.look, F1.app, F2.app, Uni.int_i, Uni.nat_n, Uni.bool_c, Uni.str_s, Uni.adr_a, Uni.val_v, Uni.hp_p, hden, cden, V.den, W.den, A.den, BR.den, SA.den, FV.den, capV, exs, exP, allP, Cur.app, List.map_cons, List.map_nil, List.cons_append, List.nil_append, List.drop_succ_cons, List.drop_zero, List.length_cons, List.length_nil, Nat.zero_add, Nat.reduceAdd, Int.neg_neg, Bool.not_not, List.append_nil, Nat.add_zero, List.getElem?_cons_zero, List.getElem?_cons_succ, Decidable.not_not, semW_eq, ne_eq, Nat.reduceEqDiff, not_false_eq_true]
  obtain ⟨fs, hu⟩ := isSt (t := 93) (by kernel_rfl)
  refine (mkI_ok hu HP.tt).weak (fun _ _ h => h) ?_
  rintro v R h ⟨rfl, H⟩
  exact ⟨wStr of, HP.tt, HP.tt, rfl, .of fun R h H => ⟨rfl, trivial⟩, HP.tt_sep trivial⟩
theorem truth_ok (of : FuncId) : Tri Tryd.prog 22 #[fnV of] HP.tt (fun v => HP.and (v = wBool of) HP.tt) := by
  refine tri_of_tree (ρ := [.v (fnV of), .p HP.tt]) mixed Tryd.func22 tree_tTruth ?_
  unfold t_tTruth
  simp only [T.den, E.prop, E.den, RX.look, F1.app, F2.app, Uni.int_i, Uni.nat_n, Uni.bool_c, Uni.str_s, Uni.adr_a, Uni.val_v, Uni.hp_p, hden, cden, V.den, W.den, A.den, BR.den, SA.den, FV.den, capV, exs, exP, allP, Cur.app, List.map_cons, List.map_nil, List.cons_append, List.nil_append, List.drop_succ_cons, List.drop_zero, List.length_cons, List.length_nil, Nat.zero_add, Nat.reduceAdd, Int.neg_neg, Bool.not_not, List.append_nil, Nat.add_zero, List.getElem?_cons_zero, List.getElem?_cons_succ, Decidable.not_not, semW_eq, ne_eq, Nat.reduceEqDiff, not_false_eq_true]
  obtain ⟨fs, hu⟩ := isSt (t := 82) (by kernel_rfl)
  refine (mkI_ok hu HP.tt).weak (fun _ _ h => h) ?_
  rintro v R h ⟨rfl, H⟩
  exact ⟨wBool of, HP.tt, HP.tt, rfl, .of fun R h H => ⟨rfl, trivial⟩, HP.tt_sep trivial⟩

def Wds (a : Option Addr) (n : Nat) (ws : List Fld) : HP := RoC 1 a n (ws.map Fld.val)
theorem one_ro (x : Nat) (ty : TypeId) (l : List Value) : HP.ent (HP.one x (.cells l.toArray ty (0, 0))) (RoC 1 (some ⟨x, 0, none⟩) l.length l) :=
  (HP.ent.share _ _).trans (.of fun R h H => ⟨by simp, fun _ => ⟨x, 0, _, _, _, rfl, H, by simp⟩⟩)
theorem infoWd : (Tryd.prog.info? 42).map (fun i => (i.zero, i.size, i.bytes)) = some (some .nilIface, 1, 16) := by kernel_rfl
theorem undWs : Tryd.prog.underlying 37 = some (.slice 42) := by kernel_rfl
theorem val_one : ∀ (ws : List Fld), ∀ u ∈ ws.map Fld.val, u.oneCell' = true := fun ws u hu => by
  obtain ⟨f, _, rfl⟩ := List.mem_map.1 hu
  cases f <;> rfl
theorem oneC_val (f : Fld) : oneC f.val = f.val := by cases f <;> rfl
def callF : List Fld := [.ck, .path, .other, .off, .n, .data]
theorem callForm_ok : Tri Tryd.prog 21 #[] HP.tt (fun v => HP.ex fun x => HP.and (v = .slice (some ⟨x, 0, none⟩) 6 6) (Wds (some ⟨x, 0, none⟩) 6 callF)) := by
  refine tri_of_tree (ρ := []) mixed Tryd.func21 tree_tCallForm ?_
  unfold t_tCallForm
  simp only [T.den, E.prop, E.den, RX.look, F1.app, F2.app, Uni.int_i, Uni.nat_n, Uni.bool_c, Uni.str_s, Uni.adr_a, Uni.val_v, Uni.hp_p, hden, cden, V.den, W.den, A.den, BR.den, SA.den, FV.den, capV, exs, exP, allP, Cur.app, List.map_cons, List.map_nil, List.cons_append, List.nil_append, List.drop_succ_cons, List.drop_zero, List.length_cons, List.length_nil, Nat.zero_add, Nat.reduceAdd, Int.neg_neg, Bool.not_not, List.append_nil, Nat.add_zero, List.getElem?_cons_zero, List.getElem?_cons_succ, Decidable.not_not, semW_eq, ne_eq, Nat.reduceEqDiff, not_false_eq_true]
  refine (number_ok 33).weak (fun _ _ h => h) ?_
  rintro v R h ⟨rfl, H⟩
  refine ⟨wInt 33, HP.tt, rfl, ?_, H⟩
  clear H
  refine (text_ok 35).weak (fun _ _ h => h) ?_
  rintro v R h ⟨rfl, H⟩
  refine ⟨wStr 35, HP.tt, rfl, ?_, H⟩
  clear H
  refine (text_ok 36).weak (fun _ _ h => h) ?_
  rintro v R h ⟨rfl, H⟩
  refine ⟨wStr 36, HP.tt, rfl, ?_, H⟩
  clear H
  refine (number_ok 37).weak (fun _ _ h => h) ?_
  rintro v R h ⟨rfl, H⟩
  refine ⟨wInt 37, HP.tt, rfl, ?_, H⟩
  clear H
  refine (number_ok 38).weak (fun _ _ h => h) ?_
  rintro v R h ⟨rfl, H⟩
  refine ⟨wInt 38, HP.tt, rfl, ?_, H⟩
  clear H
  refine (data_ok 39).weak (fun _ _ h => h) ?_
  rintro v R h ⟨rfl, H⟩
  refine ⟨wBytes 39, HP.tt, rfl, fun x => ?_, H⟩
  clear H
  refine ((HP.ent.of fun R h H => HP.sep_left H).trans (one_ro x _ (callF.map Fld.val))).trans (.of fun R h H => ⟨x, rfl, H⟩)
def formS (k : Int) : List UInt8 × List Fld :=
  if k = 1 then ([99, 97, 108, 108], .who :: callF) else if k = 2 then ([115, 110, 97, 112], [.who]) else if k = 3 then ([116, 114, 105, 109], [.who]) else if k = 4 then ([103, 105, 118, 101, 117, 112], [.who]) else if k = 5 then ([116, 105, 99, 107], [.who])
  else if k = 6 then ([100, 101, 108, 105, 118, 101, 114], [.at_, .stays]) else if k = 7 then ([100, 114, 111, 112], [.at_]) else if k = 8 then ([99, 114, 97, 115, 104], [.who, .picks]) else ([], [])
def FormP (q : List UInt8 × List Fld) (v : Value) : HP := HP.ex fun a => HP.ex fun c => HP.and (v = .tuple #[sE q.1, .slice a q.2.length c]) (Wds a q.2.length q.2)
theorem formP1 (x : Nat) (s : List UInt8) (ws : List Fld) {K : HP} : HP.ent (HP.sep (HP.one x (.cells (ws.map Fld.val).toArray 42 (0, 0))) K) (FormP (s, ws) (.tuple #[sE s, .slice (some ⟨x, 0, none⟩) ws.length ws.length])) :=
  ((HP.ent.of fun R h H => HP.sep_left H).trans (one_ro x _ (ws.map Fld.val))).trans (.of fun R h H => ⟨_, _, rfl, by rw [List.length_map] at H; exact H⟩)
theorem form_ok (k : Int) : Tri Tryd.prog 12 #[.int .i64 k] HP.tt (FormP (formS k)) := by
  refine tri_of_tree (ρ := [.i k]) mixed Tryd.func12 tree_tForm ?_
  unfold t_tForm
  simp only [T.den, E.prop, E.den, RX.look, F1.app, F2.app, Uni.int_i, Uni.nat_n, Uni.bool_c, Uni.str_s, Uni.adr_a, Uni.val_v, Uni.hp_p, hden, cden, V.den, W.den, A.den, BR.den, SA.den, FV.den, capV, exs, exP, allP, Cur.app, List.map_cons, List.map_nil, List.cons_append, List.nil_append, List.drop_succ_cons, List.drop_zero, List.length_cons, List.length_nil, Nat.zero_add, Nat.reduceAdd, Int.neg_neg, Bool.not_not, List.append_nil, Nat.add_zero, List.getElem?_cons_zero, List.getElem?_cons_succ, Decidable.not_not, semW_eq, semW_append, ne_eq, Nat.reduceEqDiff, not_false_eq_true]
  refine (number_ok 19).weak (fun _ _ h => h) ?_
  rintro v R h ⟨rfl, H⟩
  refine ⟨wInt 19, HP.tt, rfl, ?_, H⟩
  clear H
  refine (number_ok 20).weak (fun _ _ h => h) ?_
  rintro v R h ⟨rfl, H⟩
  refine ⟨wInt 20, HP.tt, rfl, ?_, H⟩
  clear H
  unfold formS
  refine ⟨fun h1 => ?_, fun h1 => ?_⟩
  · rw [if_pos h1]
    intro y
    refine callForm_ok.weak (fun _ _ h => h) ?_
    rintro v R h ⟨x, rfl, H⟩
    refine ⟨some ⟨x, 0, none⟩, 6, 6, Wds (some ⟨x, 0, none⟩) 6 callF, rfl, ?_, H⟩
    clear H
    obtain ⟨i, hi, z1, z2, z3⟩ := info_parts infoWd
    have ap := append_ok 37 37 42 i .nilIface undWs hi z1 (by rw [z2]; rfl) (by omega) (some ⟨y, 0, none⟩) 1 1 [wInt 19] (Wds (some ⟨x, 0, none⟩) 6 callF) ⟨x, 0, none⟩ 6 6 (callF.map Fld.val) (RoC.rd 1 _ 6 _) (by rw [z2]; rfl) (val_one _) (by unfold maxLen; omega) (by rw [z3]; decide)
    refine ap.weak (fun R h H => HP.sep_mono H (fun y' hy => ⟨by rw [z2]; rfl, .inr ⟨_, _, rfl, hy, Nat.le_refl _, by unfold maxLen; omega, by rw [z2]; rfl, by rw [z2]; rfl⟩⟩) fun y' hy => HP.sep_right hy) ?_
    rintro v R h ⟨a', c', rfl, H⟩
    refine ⟨a', 7, c', OwC 42 i.size a' 7 c' ([wInt 19] ++ callF.map Fld.val), rfl, ?_, H⟩
    rw [z2]
    exact (OwC.share _ _ _ _ _ _).trans (.of fun R h H => ⟨a', c', rfl, H⟩)
  rw [if_neg h1]
  refine ⟨fun h1 => ?_, fun h1 => ?_⟩
  · rw [if_pos h1]; intro y; exact formP1 y _ [.who]
  rw [if_neg h1]
  refine ⟨fun h1 => ?_, fun h1 => ?_⟩
  · rw [if_pos h1]; intro y; exact formP1 y _ [.who]
  rw [if_neg h1]
  refine ⟨fun h1 => ?_, fun h1 => ?_⟩
  · rw [if_pos h1]; intro y; exact formP1 y _ [.who]
  rw [if_neg h1]
  refine ⟨fun h1 => ?_, fun h1 => ?_⟩
  · rw [if_pos h1]; intro y; exact formP1 y _ [.who]
  rw [if_neg h1]
  refine ⟨fun h1 => ?_, fun h1 => ?_⟩
  · rw [if_pos h1]
    refine (truth_ok 23).weak (fun _ _ h => h) ?_
    rintro v R h ⟨rfl, H⟩
    exact ⟨wBool 23, HP.tt, rfl, fun y => formP1 y _ [.at_, .stays], H⟩
  rw [if_neg h1]
  refine ⟨fun h1 => ?_, fun h1 => ?_⟩
  · rw [if_pos h1]; intro y; exact formP1 y _ [.at_]
  rw [if_neg h1]
  refine ⟨fun h1 => ?_, fun h1 => ?_⟩
  · rw [if_pos h1]
    refine (data_ok 25).weak (fun _ _ h => h) ?_
    rintro v R h ⟨rfl, H⟩
    exact ⟨wBytes 25, HP.tt, rfl, fun y => formP1 y _ [.who, .picks], H⟩
  rw [if_neg h1]
  exact .of fun R h H => ⟨none, 0, rfl, RoC.nil _ _ _ _⟩
end Go.Proofs.YtcpjdfihpdjkbaaDoor



namespace Go.Proofs.YtcpjdfihpdjkbaaDoor
set_option linter.unusedSimpArgs false
set_option linter.unusedVariables false
open Go.Proofs.YtcpjdfihpdjkbaaDoor RX Go.RowKit
set_option maxRecDepth 100000

theorem MTri.conseq {v : Value} {nm : String} {args : Array Value} {A A' K : HP} {B B' : Value → HP} (t : MTri Tryd.prog v nm args A B) (pre : HP.ent A' (HP.sep A K)) (post : ∀ v, HP.ent (HP.sep (B v) K) (B' v)) : MTri Tryd.prog v nm args A' B' :=
  let ⟨t, x, f, r, e, hm, hg, ht⟩ := t; ⟨t, x, f, r, e, hm, hg, ht.conseq pre post⟩
theorem join_ok (a : Option Addr) (n c : Nat) (l : List (List UInt8)) (sep : List UInt8) (hl : l.length = n) (h0 : n ≠ 0) (hn : n ≤ 1000000) (hb : (Lib.join l sep).length ≤ 140737488355328) :
    Tri Tryd.prog 13 #[.slice a n c, sE sep] (OwS a n c l) (fun v => HP.and (v = sE (Lib.join l sep)) (OwS a n c l)) :=
  Tri.ofBelow (B := fun v => v = sE (Lib.join l sep)) (OwS a n c l) fun w R h F s H => by
    obtain ⟨hx, ⟨_, h1, _⟩ | ⟨g, cur, rfl, hg, q1, q2, q3, q4⟩⟩ := H
    · exact absurd h1 h0
    have hw := s.oh _ _ hg
    have ecur : ∀ (j : Nat) x, (l.map fun x => (⟨x.toArray⟩ : ByteArray))[j]? = some x → w.cell? ⟨g, 0 + j, none⟩ = some (.string x) := fun j x hj => by
      rw [Nat.zero_add, cell_at hw]
      rw [List.getElem?_map] at hj
      obtain ⟨y, hy, rfl⟩ := Option.map_eq_some_iff.1 hj
      have : (cur.toList.take (n * 1))[j]? = some (sE y) := by rw [q4]; simp [hy]
      rw [List.getElem?_take] at this
      split at this
      · simpa [sE] using this
      · cases this
    have hmm : (l.map fun x => (⟨x.toArray⟩ : ByteArray)).map (·.data.toList) = l := by
      rw [List.map_map]
      exact List.map_id'' (fun x => by simp) l
    have := Tryd.strings_Join g 0 c (l.map fun x => (⟨x.toArray⟩ : ByteArray)) ⟨sep.toArray⟩ w ecur (s.oh.lt hg) (by rw [List.length_map]; omega) (by rw [List.length_map]; omega) (by rw [hmm]; simpa using hb)
    rw [List.length_map, hl, hmm] at this
    exact this.mono fun e w' ⟨he, hb⟩ => ⟨_, he, rfl, hb⟩
def lineS (e : EvS) : List UInt8 := if (formS e.kind).1 = [] then [63] else Lib.join ((formS e.kind).1 :: (formS e.kind).2.map (Fld.put e)) [32]
theorem hexW_len (l : List UInt8) : (hexW l).length ≤ 2 * l.length + 1 := by
  unfold hexW
  split
  · simp
  · rw [hexL_len]; omega
theorem put_len {e : EvS} (h : EvOk e) (f : Fld) : (f.put e).length ≤ 40001 := by
  have i : ∀ x, in64 x → (Lib.itoa x).length ≤ 40001 := fun x hx => by have := Lib.itoa_length_le x hx.1 hx.2; omega
  have y : ∀ l : List UInt8, l.length ≤ 20000 → (hexW l).length ≤ 40001 := fun l hl => by have := hexW_len l; omega
  cases f
  · exact i _ h.who
  · exact i _ h.at_
  · show (boolW e.stays).length ≤ _; unfold boolW; split <;> decide
  · exact i _ h.ck
  · exact y _ h.path
  · exact y _ h.other
  · exact i _ h.off
  · exact i _ h.n
  · exact y _ h.data
  · exact y _ h.picks
theorem form_len (k : Int) : (formS k).1.length ≤ 8 ∧ (formS k).2.length ≤ 7 := by
  unfold formS
  repeat' split
  all_goals exact ⟨by decide, by decide⟩
theorem join_len (sep : List UInt8) (B : Nat) : ∀ (l : List (List UInt8)), (∀ x ∈ l, x.length ≤ B) → (Lib.join l sep).length ≤ l.length * (B + sep.length)
  | [], _ => by simp [Lib.join_nil]
  | x :: r, h => by
    rw [Lib.join_cons, List.length_append, Lib.joinTail_length]
    have h1 := h x (by simp)
    have h2 : ∀ r : List (List UInt8), (∀ x ∈ r, x.length ≤ B) → Lib.lens r ≤ r.length * B := fun r => by
      induction r with
      | nil => intro _; simp [Lib.lens]
      | cons y r ih =>
        intro hh
        have a := hh y (by simp)
        have b := ih fun x hx => hh x (List.mem_cons_of_mem _ hx)
        unfold Lib.lens at b ⊢
        rw [List.map_cons, List.sum_cons, List.length_cons, Nat.add_mul]
        omega
    have h3 := h2 r fun x hx => h x (List.mem_cons_of_mem _ hx)
    rw [List.length_cons, Nat.add_mul, Nat.mul_add r.length]
    have : sep.length * r.length = r.length * sep.length := Nat.mul_comm _ _
    omega
theorem infoS : ∃ i, Tryd.prog.info? 9 = some i ∧ i.zero = some (.string .empty) ∧ i.size = 1 ∧ i.bytes = 16 := by
  obtain ⟨i, hi, z1, z2, z3⟩ := info_parts infoStr
  exact ⟨i, hi, z1, z2, z3⟩
theorem appendSt (a : Option Addr) (n c : Nat) (l : List (List UInt8)) (y : Nat) (x : List UInt8) (K : HP) (hn : n ≤ 1000000) :
    OTri Tryd.prog (appS 40 40 (.slice a n c) (.slice (some ⟨y, 0, none⟩) 1 1)) (HP.sep (OwS a n c l) (HP.one y (.cells #[sE x] 9 (0, 0))))
      (fun v => HP.ex fun a' => HP.ex fun c' => HP.and (v = .slice a' (n + 1) c') (HP.sep (OwS a' (n + 1) c' (l ++ [x])) (HP.one y (.cells #[sE x] 9 (0, 0))))) := by
  obtain ⟨i, hi, z1, z2, z3⟩ := infoS
  have := append_ok 40 40 9 i (.string .empty) undSs hi z1 (by rw [z2]; rfl) (by omega) a n c (l.map sE) (HP.one y (.cells #[sE x] 9 (0, 0))) ⟨y, 0, none⟩ 1 1 [sE x] (one_rd y #[sE x] 9) (by rw [z2]; rfl) (fun u hu => by simp at hu; subst hu; rfl) (by unfold maxLen; omega) (by rw [z3]; omega)
  rw [z2] at this
  exact this.weak (fun _ _ h => h) fun v R h ⟨a', c', e, H⟩ => ⟨a', c', e, by
    have e2 : (l ++ [x]).map sE = l.map sE ++ [sE x] := by simp
    show (HP.sep (OwC _ _ _ _ _ ((l ++ [x]).map sE)) _).p R h
    rw [e2]; exact H⟩
theorem wd_load {a : Option Addr} {n k : Nat} {ws : List Fld} {f : Fld} (hk : ws[k]? = some f) : ORead Tryd.prog (loadS 42 (.pointer (a.map fun y => (y.add (k * 1)).add 0))) (Wds a n ws) f.val := by
  obtain ⟨ms, hu⟩ := isIf (t := 42) (by kernel_rfl)
  exact load1_ok hu (by kernel_rfl) (by kernel_rfl) (RoC.rd 1 a n (ws.map Fld.val)) (k := k * 1) (off := 0) (by simp [hk])
theorem line_ok (e : EvS) (r : EvA) (he : EvOk e) :
    Tri Tryd.prog 7 #[.agg (evL e r).toArray] (EvB e r) (fun v => HP.and (v = sE (lineS e)) HP.tt) := by
  refine tri_of_tree (ρ := [.i e.kind, .i e.who, .i e.at_, .c e.stays, .i e.ck, .s e.path, .s e.other, .i e.off, .i e.n, .a r.da, .n e.data.length, .n r.dc, .p (RoB r.da e.data.length e.data), .a r.pa, .n e.picks.length, .n r.pc, .p (RoB r.pa e.picks.length e.picks)]) mixed Tryd.func7 tree_tLine ?_
  unfold t_tLine
  simp only [T.den, E.prop, E.den, RX.look, F1.app, F2.app, Uni.int_i, Uni.nat_n, Uni.bool_c, Uni.str_s, Uni.adr_a, Uni.val_v, Uni.hp_p, hden, cden, V.den, W.den, A.den, BR.den, SA.den, FV.den, capV, exs, exP, allP, Cur.app, List.map_cons, List.map_nil, List.cons_append, List.nil_append, List.drop_succ_cons, List.drop_zero, List.length_cons, List.length_nil, Nat.zero_add, Nat.reduceAdd, Int.neg_neg, Bool.not_not, List.append_nil, Nat.add_zero, List.getElem?_cons_zero, List.getElem?_cons_succ, Decidable.not_not, semW_eq, semW_load, semW_append, ne_eq, Nat.reduceEqDiff, not_false_eq_true]
  intro b
  refine (form_ok e.kind).weak (fun _ _ _ => trivial) ?_
  unfold lineS
  have hfl := form_len e.kind
  generalize formS e.kind = q at hfl ⊢
  obtain ⟨nm, ws⟩ := q
  rintro v R h ⟨a, c, rfl, H⟩
  have hsm : ws.length ≠ 0 → a.isSome = true := fun hn => RoC.some H (Nat.pos_of_ne_zero hn)
  refine ⟨nm, a, ws.length, c, Wds a ws.length ws, rfl, ⟨fun h1 => .of fun R h H => ⟨?_, trivial⟩, fun h1 z => ?_⟩, H⟩
  · show sE [63] = _
    rw [if_pos (show nm = [] from h1)]
  clear H
  rw [if_neg (show ¬ nm = [] from h1)]
  dsimp only at hfl
  refine ⟨fun a' n' c' i P Q => ∃ k : Nat, i = k ∧ k ≤ ws.length ∧ n' = k + 1 ∧ HP.ent P (OwS a' (k + 1) c' (nm :: (ws.take k).map (Fld.put e))) ∧ HP.ent Q (EvHR b e r), fun _ _ _ i _ _ => ws.length - i.toNat,
    ⟨0, rfl, Nat.zero_le _, rfl, .of fun R h H => ⟨rfl, .inr ⟨z, _, rfl, H, Nat.le_refl _, by unfold maxLen; omega, rfl, rfl⟩⟩, .of fun R h H => ⟨he, H⟩⟩, ?_⟩
  rintro a' _ c' _ P Q ⟨k, rfl, hk, rfl, hP, hQ⟩
  refine ⟨fun hlt => ?_, fun hge => ?_⟩
  · have hkl : k < ws.length := by omega
    have hg : ws[k]? = some ws[k] := List.getElem?_eq_getElem hkl
    generalize ws[k] = f at hg
    refine ⟨by omega, fun _ => ⟨hsm (by omega), fun _ => ⟨f.val, ?_, ?_⟩⟩⟩
    · rw [oneC_val]; exact wd_load hg
    refine (put_ok f b e r).conseq (K := Wds a ws.length ws) ((HP.ent.sep2 (HP.ent.refl _) hQ).trans (.of fun R h H => HP.sep_comm H)) fun v => .of fun R h ⟨h1, h2, d, l1, l2, ⟨e1, H1⟩, H2⟩ => ?_
    refine ⟨f.put e, EvHR b e r, e1, fun y => ?_, h1, h2, d, l1, l2, H1, H2⟩
    refine (appendSt a' (k + 1) c' _ y (f.put e) HP.tt (by omega)).conseq (K := HP.tt) ((HP.ent.sep2 hP (HP.ent.refl _)).trans (.of fun R h H => HP.sep_tt H)) fun v => .of fun R h H => ?_
    obtain ⟨a2, c2, rfl, H1⟩ := HP.sep_left H
    refine ⟨a2, k + 1 + 1, c2, _, rfl, ⟨inI64t _ (by omega) (by omega), fun _ => ⟨⟨k + 1, by omega, by omega, rfl, .of fun R h H => ?_, .refl _⟩, by dsimp only; omega⟩⟩, H1⟩
    have : (ws.take (k + 1)).map (Fld.put e) = (ws.take k).map (Fld.put e) ++ [f.put e] := by
      rw [List.take_add_one, hg, List.map_append]; rfl
    rw [this]
    exact H
  · obtain rfl : k = ws.length := by omega
    rw [List.take_length] at hP
    have hjl := join_len [32] 40001 (nm :: ws.map (Fld.put e)) fun x hx => by
      rcases List.mem_cons.1 hx with rfl | hx
      · omega
      · obtain ⟨f, _, rfl⟩ := List.mem_map.1 hx
        exact put_len he f
    refine (join_ok a' (ws.length + 1) c' (nm :: ws.map (Fld.put e)) [32] (by simp) (by omega) (by omega) ?_).conseq (K := HP.tt) (hP.trans (.of fun R h H => HP.sep_tt H)) fun v => .of fun R h H => ?_
    · rw [List.length_cons, List.length_map] at hjl
      have : (ws.length + 1) * (40001 + [(32 : UInt8)].length) ≤ 8 * 40002 := Nat.mul_le_mul (by omega) (by decide)
      omega
    obtain ⟨rfl, H1⟩ := HP.sep_left H
    exact ⟨_, HP.tt, rfl, .of fun R h H => ⟨rfl, trivial⟩, trivial⟩
end Go.Proofs.YtcpjdfihpdjkbaaDoor



namespace Go.Proofs.YtcpjdfihpdjkbaaDoor
set_option linter.unusedSimpArgs false
set_option linter.unusedVariables false
open Go.Proofs.YtcpjdfihpdjkbaaDoor RX
set_option maxRecDepth 100000

theorem sliceStr (s : List UInt8) (lo hi : Option Nat) (h1 : lo.getD 0 ≤ hi.getD s.length) (h2 : hi.getD s.length ≤ s.length) (Q : HP) :
    ORead Tryd.prog (sliceS 9 (sE s) (iv lo) (iv hi) none) Q (sE ((s.take (hi.getD s.length)).drop (lo.getD 0))) := fun w R h F st a => by
  have e : (⟨s.toArray⟩ : ByteArray).extract (lo.getD 0) (hi.getD s.length) = ⟨((s.take (hi.getD s.length)).drop (lo.getD 0)).toArray⟩ := by
    have : ((⟨s.toArray⟩ : ByteArray).extract (lo.getD 0) (hi.getD s.length)).data = (((s.take (hi.getD s.length)).drop (lo.getD 0)).toArray) := by
      rw [ByteArray.data_extract]
      apply Array.ext'
      simp [List.drop_take]
    cases hq : (⟨s.toArray⟩ : ByteArray).extract (lo.getD 0) (hi.getD s.length)
    rw [hq] at this
    simp only at this
    rw [this]
  have hs : (⟨s.toArray⟩ : ByteArray).size = s.length := rfl
  unfold sliceS Instr.sliceAt Instr.slice sE
  cases lo <;> cases hi <;> simp only [Option.getD_some, Option.getD_none] at h1 h2 e ⊢ <;> simp [iv, RX.run_underlying undStr, Instr.sliceBounds, hs, run_bound, h1, h2, e]
theorem set_app {α : Type} {l : List α} {k : Nat} (h : l.length = k) (x y : α) (r : List α) : (l ++ y :: r).set k x = l ++ x :: r := by
  subst h; simp [List.set_append]
theorem sliceTo {t e : TypeId} {i : TypeInfo} (ht : Tryd.prog.underlying t = some (.slice e)) (hi : Tryd.prog.info? e = some i) (S : HP) (a : Option Addr) (n c k : Nat) (hk : k ≤ n) (hn : n ≤ c) :
    ORead Tryd.prog (sliceS t (.slice a n c) none (some (.int .i64 k)) none) S (.slice a k c) := by
  have := slice_ok ht hi S a n c none (some k) none (Nat.zero_le _) (by simp; omega) (Nat.le_refl _) (fun h => by cases h)
  have e1 : (a.map fun x => x.add 0) = a := by cases a <;> simp [Addr.add_zero']
  simpa [iv, e1] using this
theorem inI64' (x : Int) (h1 : -9223372036854775808 ≤ x) (h2 : x ≤ 9223372036854775807) : IntKind.i64.min ≤ x ∧ x ≤ IntKind.i64.max := ⟨h1, h2⟩
theorem storeStr {a : Option Addr} {n c : Nat} {l : List (List UInt8)} {k : Nat} (x : List UInt8) (hk : k < n) {P : HP} (hP : HP.ent P (OwS a n c l)) {B : Value → HP} (post : ∀ R h, (OwS a n c (l.set k x)).p R h → (B (.tuple #[])).p R h) :
    OTri Tryd.prog (storeS 9 (.pointer (a.map fun y => (y.add (k * 1)).add 0)) (sE x)) P B := by
  obtain ⟨i, hi, h1, h2, h3⟩ := info_parts infoStr
  have := store_ok (t := 9) hi 9 1 a n c (l.map sE) (k * 1) 0 (sE x) [sE x] rfl (by rw [h2]; rfl) (by simp) (by simp [sE, Value.oneCell']) (by simp; omega)
  refine (OTri.fact (φ := l.length = n) (fun R h H => by have := H.1; simpa using this) fun hl => ?_ : OTri _ _ (OwS a n c l) B).conseq (K := HP.tt) (hP.trans (.of fun R h H => HP.sep_tt H)) fun v => .of fun R h H => HP.sep_left H
  refine this.weak (fun _ _ h => h) ?_
  rintro v R h ⟨rfl, H⟩
  refine post R h ?_
  have e : (l.map sE).take (k * 1 + 0) ++ [sE x] ++ (l.map sE).drop (k * 1 + 0 + [sE x].length) = (l.set k x).map sE := by
    rw [List.map_set, List.set_eq_take_append_cons_drop, if_pos (by simp; omega)]
    simp
  rw [e] at H
  exact H
end Go.Proofs.YtcpjdfihpdjkbaaDoor



namespace Go.Proofs.YtcpjdfihpdjkbaaDoor
set_option linter.unusedSimpArgs false
set_option linter.unusedVariables false
open Go.Proofs.YtcpjdfihpdjkbaaDoor RX Go.RowKit
set_option maxRecDepth 100000

set_option maxHeartbeats 1000000 in
theorem genSplitG_ok (ch : UInt8) (s : List UInt8) (hs : s.length ≤ 20000) : Tri Tryd.prog 30 #[sE s, sE [ch], .int .i64 0, .int .i64 (-1)] HP.tt (fun v => HP.ex fun a => HP.ex fun c => HP.and (v = .slice a (splitB ch s).length c) (OwS a (splitB ch s).length c (splitB ch s))) := by
  refine tri_of_tree (ρ := [.s s, .s [ch], .i 0, .i (-1)]) mixed Tryd.func30 tree_sGenSplit ?_
  unfold t_sGenSplit
  simp only [T.den, E.prop, E.den, RX.look, F1.app, F2.app, Uni.int_i, Uni.nat_n, Uni.bool_c, Uni.str_s, Uni.adr_a, Uni.val_v, Uni.hp_p, hden, cden, V.den, W.den, A.den, BR.den, SA.den, FV.den, capV, exs, exP, allP, Cur.app, List.map_cons, List.map_nil, List.cons_append, List.nil_append, List.drop_succ_cons, List.drop_zero, List.length_cons, List.length_nil, Nat.zero_add, Nat.reduceAdd, Int.neg_neg, Bool.not_not, List.append_nil, Nat.add_zero, List.getElem?_cons_zero, List.getElem?_cons_succ, Decidable.not_not, semW_eq, semW_store, semW_storeC, ne_eq, Nat.reduceEqDiff, not_false_eq_true]
  have hlen := splitB_len ch s
  have hcl : s.count ch ≤ s.length := List.count_le_length
  refine ⟨fun h => absurd h (by decide), fun _ => ⟨fun h => absurd h (by simp), fun _ => ⟨fun _ => ?_, fun h => absurd h (by decide)⟩⟩⟩
  refine (count1_ok s ch HP.tt).weak (fun _ _ h => h) ?_
  rintro v R h ⟨rfl, H⟩
  refine ⟨s.count ch, rfl, ⟨inI64' _ (by omega) (by omega), fun _ => ⟨inI64' _ (by omega) (by omega), fun _ => ?_⟩⟩, H⟩
  clear H
  rw [semW_mk]
  generalize hN : s.count ch = N at *
  have hmin : min ((N : Int) + 1) ((s.length : Int) + 1) = ((N + 1 : Nat) : Int) := by omega
  simp only [hmin]
  obtain ⟨i0, hi0, z1, z2, z3⟩ := info_parts infoStr
  refine (mk_ok undSs hi0 z1 rfl z2 (N + 1) (by rw [z3]; omega) (by unfold maxLen; omega) HP.tt).weak (fun _ _ h => h) ?_
  rintro v R h ⟨x, rfl, H⟩
  refine ⟨some ⟨x, 0, none⟩, N + 1, N + 1, OwS (some ⟨x, 0, none⟩) (N + 1) (N + 1) (List.replicate (N + 1) []), rfl, ⟨inI64' _ (by omega) (by omega), fun _ => ?_⟩, ?_⟩
  · clear H
    refine ⟨fun s' i P => ∃ (k : Nat) (done : List (List UInt8)), i = k ∧ k ≤ N ∧ done.length = k ∧ splitB ch s = done ++ splitB ch s' ∧ s'.count ch = N - k ∧ s'.length ≤ 20000 ∧ HP.ent P (OwS (some ⟨x, 0, none⟩) (N + 1) (N + 1) (done ++ List.replicate (N + 1 - k) [])),
      fun _ i _ => N - i.toNat, ⟨0, [], rfl, Nat.zero_le _, rfl, rfl, by omega, hs, .refl _⟩, ?_⟩
    rintro s' _ P ⟨k, done, rfl, hk, hd, hsp, hc, hs', hP⟩
    refine ⟨fun hlt => ?_, fun hge => ?_⟩
    · refine (index1_ok s' ch HP.tt).weak (fun _ _ h => h) ?_
      rintro v R h ⟨rfl, H⟩
      refine ⟨Lib.indexByte s' ch, rfl, ⟨fun hneg => ?_, fun hnn => ?_⟩, H⟩
      · have := idx_neg hneg; omega
      · clear H
        obtain ⟨o, ho⟩ : ∃ o : Nat, Lib.indexByte s' ch = o := ⟨_, (Int.toNat_of_nonneg (by omega)).symm⟩
        rw [ho]
        obtain ⟨q1, q2, q3⟩ := splitB_at ho
        simp only [Int.add_zero, Int.toNat_natCast]
        refine ⟨inI64' _ (by omega) (by omega), fun _ => ⟨s'.take o, sliceStr s' none (some o) (Nat.zero_le _) (by simp; omega) HP.tt, by omega, fun _ => ⟨by omega, fun _ => ⟨rfl, fun _ => ?_⟩⟩⟩⟩
        refine storeStr (k := k) (s'.take o) (by omega) hP fun R h H => ?_
        refine ⟨_, rfl, ⟨inI64' _ (by simp; omega) (by simp; omega), fun _ => ⟨s'.drop (o + 1), ?_, inI64' _ (by omega) (by omega), fun _ => ?_⟩⟩, H⟩
        · have := sliceStr s' (some (o + 1)) none (by simp; omega) (by simp) HP.tt
          simp only [Option.getD_none, List.take_length] at this
          exact this
        · refine ⟨⟨k + 1, done ++ [s'.take o], by omega, by omega, by simp [hd], by rw [hsp, q1]; simp, by omega, by simp; omega, .of fun R h H => ?_⟩, by first | omega | (dsimp only; omega)⟩
          have e : (done ++ List.replicate (N + 1 - k) []).set k (s'.take o) = done ++ [s'.take o] ++ List.replicate (N + 1 - (k + 1)) [] := by
            obtain ⟨m, hm⟩ : ∃ m, N + 1 - k = m + 1 := ⟨N - k, by omega⟩
            rw [hm, show N + 1 - (k + 1) = m by omega, List.replicate_succ, set_app hd]
            simp
          rw [← e]; exact H
    · obtain rfl : k = N := by omega
      have h0 : s'.count ch = 0 := by omega
      rw [splitB_none h0] at hsp
      simp only [Int.toNat_natCast]
      refine ⟨by omega, fun _ => ⟨by omega, fun _ => ⟨rfl, fun _ => ?_⟩⟩⟩
      refine storeStr (k := k) s' (by omega) hP fun R h H => ?_
      refine ⟨_, rfl, ⟨inI64' _ (by omega) (by omega), fun _ => ⟨some ⟨x, 0, none⟩, k + 1, k + 1, ?_, .of fun R h H => ?_⟩⟩, H⟩
      · exact sliceTo undSs hi0 _ _ _ _ (k + 1) (Nat.le_refl _) (Nat.le_refl _)
      · have e : (done ++ List.replicate (k + 1 - k) []).set k s' = splitB ch s := by
          rw [hsp, show k + 1 - k = 1 by omega]; exact set_app hd s' [] []
        rw [e] at H
        exact ⟨some ⟨x, 0, none⟩, k + 1, by rw [hlen], by rw [hlen]; exact H⟩
  · have e : (List.replicate (N + 1) (Value.string ByteArray.empty)) = (List.replicate (N + 1) ([] : List UInt8)).map sE := by
      rw [List.map_replicate]; rfl
    rw [e] at H
    exact HP.sep_left H
theorem splitG_ok (ch : UInt8) (s : List UInt8) (hs : s.length ≤ 20000) : Tri Tryd.prog 15 #[sE s, sE [ch]] HP.tt (fun v => HP.ex fun a => HP.ex fun c => HP.and (v = .slice a (splitB ch s).length c) (OwS a (splitB ch s).length c (splitB ch s))) := by
  refine tri_of_tree (ρ := [.s s, .s [ch]]) mixed Tryd.func15 tree_sSplit ?_
  unfold t_sSplit
  simp only [T.den, E.prop, E.den, RX.look, F1.app, F2.app, Uni.int_i, Uni.nat_n, Uni.bool_c, Uni.str_s, Uni.adr_a, Uni.val_v, Uni.hp_p, hden, cden, V.den, W.den, A.den, BR.den, SA.den, FV.den, capV, exs, exP, allP, Cur.app, List.map_cons, List.map_nil, List.cons_append, List.nil_append, List.drop_succ_cons, List.drop_zero, List.length_cons, List.length_nil, Nat.zero_add, Nat.reduceAdd, Int.neg_neg, Bool.not_not, List.append_nil, Nat.add_zero, List.getElem?_cons_zero, List.getElem?_cons_succ, Decidable.not_not, semW_eq, ne_eq, Nat.reduceEqDiff, not_false_eq_true]
  refine (genSplitG_ok ch s hs).weak (fun _ _ _ => trivial) ?_
  rintro v R h ⟨a, c, rfl, H⟩
  exact ⟨a, _, c, OwS a (splitB ch s).length c (splitB ch s), rfl, .of fun R h H => ⟨a, c, rfl, H⟩, H⟩

def takeAll : List Fld → List (List UInt8) → EvS → Option EvS
  | [], _, e => some e
  | _ :: _, [], _ => none
  | f :: fs, w :: ws, e => (f.take e w).bind (takeAll fs ws)
def zeroE (k : Int) : EvS := ⟨k, 0, 0, false, 0, [], [], 0, 0, [], []⟩
def readK (s : List UInt8) (told : List (List UInt8)) : List Int → Option EvS
  | [] => none
  | k :: r => if (formS k).1 ≠ told.headD [] ∨ (formS k).2.length + 1 ≠ told.length then readK s told r else match takeAll (formS k).2 told.tail (zeroE k) with
    | none => none
    | some e => if lineS e = s then some e else none
theorem readK_cons (s : List UInt8) (T : List (List UInt8)) (k : Int) (r : List Int) : readK s T (k :: r) = if (formS k).1 ≠ T.headD [] ∨ (formS k).2.length + 1 ≠ T.length then readK s T r else match takeAll (formS k).2 T.tail (zeroE k) with
    | none => none
    | some e => if lineS e = s then some e else none := rfl
def kinds (k : Nat) : List Int := (List.range' k (9 - k)).map fun n : Nat => (n : Int)
def readS (s : List UInt8) : Option EvS := readK s (splitB 32 s) (kinds 1)
theorem takeAll_cons (f : Fld) (fs : List Fld) (w : List UInt8) (ws : List (List UInt8)) (e : EvS) : takeAll (f :: fs) (w :: ws) e = (f.take e w).bind (takeAll fs ws) := rfl
theorem EvB.pers {e : EvS} {r : EvA} {R h : PH} (h' : PH) (H : (EvB e r).p R h) : (EvB e r).p R h' :=
  have a : (RoB r.da e.data.length e.data).p R h := HP.sep_left H
  have b : (RoB r.pa e.picks.length e.picks).p R h := HP.sep_right H
  ⟨PH.none', h', PH.none_dj _, PH.none_le _, PH.le.refl _, a, b⟩
end Go.Proofs.YtcpjdfihpdjkbaaDoor



namespace Go.Proofs.YtcpjdfihpdjkbaaDoor.RX
set_option maxRecDepth 100000
-- tideline/tidelineref22.Hex: ρ := [.a ba, .n bl, .n bc, .p bP]
def t_rTold : T :=
(.new
(.new
(.new
(.br (.o1 .not (.o2 .eq (.v 0) (.i 6)))
(.br (.o1 .not (.o2 .eq (.v 0) (.i 7)))
(.br (.o2 .eq (.v 0) (.i 1))
(.br (.o2 .eq (.v 0) (.i 8))
(.ret (.w (.agg [.int .i64 (.v 0), .int .i64 (.v 1), .int .i64 (.i 0), .bool (.c false), .int .i64 (.v 4), .str (.v 5), .str (.v 6), .int .i64 (.v 7), .int .i64 (.v 8), .sl (.v 9) (.v 10) (.v 11), .sl (.v 13) (.v 14) (.v 15)])) [(.a 9, .prop 12), (.a 13, .prop 16)])
(.ret (.w (.agg [.int .i64 (.v 0), .int .i64 (.v 1), .int .i64 (.i 0), .bool (.c false), .int .i64 (.v 4), .str (.v 5), .str (.v 6), .int .i64 (.v 7), .int .i64 (.v 8), .sl (.v 9) (.v 10) (.v 11), .sl .nil (.n 0) (.n 0)])) [(.a 9, .prop 12), (.a 13, .prop 16)]))
(.br (.o2 .eq (.v 0) (.i 8))
(.ret (.w (.agg [.int .i64 (.v 0), .int .i64 (.v 1), .int .i64 (.i 0), .bool (.c false), .int .i64 (.i 0), .str (.s []), .str (.s []), .int .i64 (.i 0), .int .i64 (.i 0), .sl .nil (.n 0) (.n 0), .sl (.v 13) (.v 14) (.v 15)])) [(.a 9, .prop 12), (.a 13, .prop 16)])
(.ret (.w (.agg [.int .i64 (.v 0), .int .i64 (.v 1), .int .i64 (.i 0), .bool (.c false), .int .i64 (.i 0), .str (.s []), .str (.s []), .int .i64 (.i 0), .int .i64 (.i 0), .sl .nil (.n 0) (.n 0), .sl .nil (.n 0) (.n 0)])) [(.a 9, .prop 12), (.a 13, .prop 16)])))
(.br (.o2 .eq (.v 0) (.i 1))
(.br (.o2 .eq (.v 0) (.i 8))
(.ret (.w (.agg [.int .i64 (.v 0), .int .i64 (.i 0), .int .i64 (.v 2), .bool (.c false), .int .i64 (.v 4), .str (.v 5), .str (.v 6), .int .i64 (.v 7), .int .i64 (.v 8), .sl (.v 9) (.v 10) (.v 11), .sl (.v 13) (.v 14) (.v 15)])) [(.a 9, .prop 12), (.a 13, .prop 16)])
(.ret (.w (.agg [.int .i64 (.v 0), .int .i64 (.i 0), .int .i64 (.v 2), .bool (.c false), .int .i64 (.v 4), .str (.v 5), .str (.v 6), .int .i64 (.v 7), .int .i64 (.v 8), .sl (.v 9) (.v 10) (.v 11), .sl .nil (.n 0) (.n 0)])) [(.a 9, .prop 12), (.a 13, .prop 16)]))
(.br (.o2 .eq (.v 0) (.i 8))
(.ret (.w (.agg [.int .i64 (.v 0), .int .i64 (.i 0), .int .i64 (.v 2), .bool (.c false), .int .i64 (.i 0), .str (.s []), .str (.s []), .int .i64 (.i 0), .int .i64 (.i 0), .sl .nil (.n 0) (.n 0), .sl (.v 13) (.v 14) (.v 15)])) [(.a 9, .prop 12), (.a 13, .prop 16)])
(.ret (.w (.agg [.int .i64 (.v 0), .int .i64 (.i 0), .int .i64 (.v 2), .bool (.c false), .int .i64 (.i 0), .str (.s []), .str (.s []), .int .i64 (.i 0), .int .i64 (.i 0), .sl .nil (.n 0) (.n 0), .sl .nil (.n 0) (.n 0)])) [(.a 9, .prop 12), (.a 13, .prop 16)]))))
(.br (.o2 .eq (.v 0) (.i 1))
(.br (.o2 .eq (.v 0) (.i 8))
(.ret (.w (.agg [.int .i64 (.v 0), .int .i64 (.i 0), .int .i64 (.v 2), .bool (.v 3), .int .i64 (.v 4), .str (.v 5), .str (.v 6), .int .i64 (.v 7), .int .i64 (.v 8), .sl (.v 9) (.v 10) (.v 11), .sl (.v 13) (.v 14) (.v 15)])) [(.a 9, .prop 12), (.a 13, .prop 16)])
(.ret (.w (.agg [.int .i64 (.v 0), .int .i64 (.i 0), .int .i64 (.v 2), .bool (.v 3), .int .i64 (.v 4), .str (.v 5), .str (.v 6), .int .i64 (.v 7), .int .i64 (.v 8), .sl (.v 9) (.v 10) (.v 11), .sl .nil (.n 0) (.n 0)])) [(.a 9, .prop 12), (.a 13, .prop 16)]))
(.br (.o2 .eq (.v 0) (.i 8))
(.ret (.w (.agg [.int .i64 (.v 0), .int .i64 (.i 0), .int .i64 (.v 2), .bool (.v 3), .int .i64 (.i 0), .str (.s []), .str (.s []), .int .i64 (.i 0), .int .i64 (.i 0), .sl .nil (.n 0) (.n 0), .sl (.v 13) (.v 14) (.v 15)])) [(.a 9, .prop 12), (.a 13, .prop 16)])
(.ret (.w (.agg [.int .i64 (.v 0), .int .i64 (.i 0), .int .i64 (.v 2), .bool (.v 3), .int .i64 (.i 0), .str (.s []), .str (.s []), .int .i64 (.i 0), .int .i64 (.i 0), .sl .nil (.n 0) (.n 0), .sl .nil (.n 0) (.n 0)])) [(.a 9, .prop 12), (.a 13, .prop 16)])))))))
theorem tree_rTold : tree Tryd.prog { keep := [8, 17, 16, 11, 99999, 14, 29, 6, 5, 7, 99999], outl := true, opn := true, rdf := true } Tryd.f9 [.agg [.int .i64 (.v 0), .int .i64 (.v 1), .int .i64 (.v 2), .bool (.v 3), .int .i64 (.v 4), .str (.v 5), .str (.v 6), .int .i64 (.v 7), .int .i64 (.v 8), .sl (.v 9) (.v 10) (.v 11), .sl (.v 13) (.v 14) (.v 15)]] [(.a 9, .prop 12), (.a 13, .prop 16)] 17 = t_rTold := by kernel_rfl
def t_rSame : T :=
(.new
(.new
(.br (.o2 .eq (.v 0) (.v 17))
(.br (.o2 .eq (.v 1) (.v 18))
(.br (.o2 .eq (.v 2) (.v 19))
(.br (.o2 .beq (.v 3) (.v 20))
(.call 14 [.agg [.int .i64 (.v 4), .str (.v 5), .str (.v 6), .int .i64 (.v 7), .int .i64 (.v 8), .sl (.v 9) (.v 10) (.v 11)], .agg [.int .i64 (.v 21), .str (.v 22), .str (.v 23), .int .i64 (.v 24), .int .i64 (.v 25), .sl (.v 26) (.v 27) (.v 28)]] [(.a 9, .prop 12), (.a 26, .prop 29)] [.c] (.w (.a (.bool (.v 36)))) [(.a 9, .prop 12), (.a 26, .prop 29)]
(.br (.v 36)
(.read (.convert 22 9 (.tmp 40)) 9 [(40, .w (.a (.sl (.v 13) (.v 14) (.v 15))))] [(.a 13, .prop 16)] [.s] (.w (.a (.str (.v 37))))
(.read (.convert 22 9 (.tmp 43)) 9 [(43, .w (.a (.sl (.v 30) (.v 31) (.v 32))))] [(.a 30, .prop 33)] [.s] (.w (.a (.str (.v 38))))
(.ret (.w (.a (.bool (.o2 .seq (.v 37) (.v 38))))) [(.a 9, .prop 12), (.a 13, .prop 16), (.a 26, .prop 29), (.a 30, .prop 33)])))
(.ret (.w (.a (.bool (.c false)))) [(.a 9, .prop 12), (.a 13, .prop 16), (.a 26, .prop 29), (.a 30, .prop 33)])))
(.ret (.w (.a (.bool (.c false)))) [(.a 9, .prop 12), (.a 13, .prop 16), (.a 26, .prop 29), (.a 30, .prop 33)]))
(.ret (.w (.a (.bool (.c false)))) [(.a 9, .prop 12), (.a 13, .prop 16), (.a 26, .prop 29), (.a 30, .prop 33)]))
(.ret (.w (.a (.bool (.c false)))) [(.a 9, .prop 12), (.a 13, .prop 16), (.a 26, .prop 29), (.a 30, .prop 33)]))
(.ret (.w (.a (.bool (.c false)))) [(.a 9, .prop 12), (.a 13, .prop 16), (.a 26, .prop 29), (.a 30, .prop 33)]))))
theorem tree_rSame : tree Tryd.prog { keep := [8, 17, 16, 11, 99999, 14, 29, 6, 5, 7, 99999], outl := true, opn := true, rdf := true } Tryd.f8 [.agg [.int .i64 (.v 0), .int .i64 (.v 1), .int .i64 (.v 2), .bool (.v 3), .int .i64 (.v 4), .str (.v 5), .str (.v 6), .int .i64 (.v 7), .int .i64 (.v 8), .sl (.v 9) (.v 10) (.v 11), .sl (.v 13) (.v 14) (.v 15)], .agg [.int .i64 (.v 17), .int .i64 (.v 18), .int .i64 (.v 19), .bool (.v 20), .int .i64 (.v 21), .str (.v 22), .str (.v 23), .int .i64 (.v 24), .int .i64 (.v 25), .sl (.v 26) (.v 27) (.v 28), .sl (.v 30) (.v 31) (.v 32)]] [(.a 9, .prop 12), (.a 13, .prop 16), (.a 26, .prop 29), (.a 30, .prop 33)] 34 = t_rSame := by kernel_rfl
def t_rSameCall : T :=
(.new
(.new
(.br (.o2 .eq (.v 0) (.v 9))
(.br (.o2 .seq (.v 1) (.v 10))
(.br (.o2 .seq (.v 2) (.v 11))
(.br (.o2 .eq (.v 3) (.v 12))
(.br (.o2 .eq (.v 4) (.v 13))
(.call 29 [.a (.sl (.v 5) (.v 6) (.v 7)), .a (.sl (.v 14) (.v 15) (.v 16))] [(.a 5, .prop 8), (.a 14, .prop 17)] [.c] (.w (.a (.bool (.v 20)))) [(.a 5, .prop 8), (.a 14, .prop 17)]
(.ret (.w (.a (.bool (.v 20)))) [(.a 5, .prop 8), (.a 14, .prop 17)]))
(.ret (.w (.a (.bool (.c false)))) [(.a 5, .prop 8), (.a 14, .prop 17)]))
(.ret (.w (.a (.bool (.c false)))) [(.a 5, .prop 8), (.a 14, .prop 17)]))
(.ret (.w (.a (.bool (.c false)))) [(.a 5, .prop 8), (.a 14, .prop 17)]))
(.ret (.w (.a (.bool (.c false)))) [(.a 5, .prop 8), (.a 14, .prop 17)]))
(.ret (.w (.a (.bool (.c false)))) [(.a 5, .prop 8), (.a 14, .prop 17)]))))
theorem tree_rSameCall : tree Tryd.prog { keep := [8, 17, 16, 11, 99999, 14, 29, 6, 5, 7, 99999], outl := true, opn := true, rdf := true } Tryd.f14 [.agg [.int .i64 (.v 0), .str (.v 1), .str (.v 2), .int .i64 (.v 3), .int .i64 (.v 4), .sl (.v 5) (.v 6) (.v 7)], .agg [.int .i64 (.v 9), .str (.v 10), .str (.v 11), .int .i64 (.v 12), .int .i64 (.v 13), .sl (.v 14) (.v 15) (.v 16)]] [(.a 5, .prop 8), (.a 14, .prop 17)] 18 = t_rSameCall := by kernel_rfl
def t_r01Same : T :=
(.br (.o1 .not (.o2 .eq (.o1 .ofNat (.v 1)) (.o1 .ofNat (.v 5))))
(.ret (.w (.a (.bool (.c false)))) [(.a 0, .prop 3), (.a 4, .prop 7)])
(.loop [.c, .i] [.e (.o1 .not (.o1 .not (.c false))), .e (.o1 .neg (.o1 .neg (.i 0)))]
(.br (.o2 .lt (.v 9) (.o1 .ofNat (.v 1)))
(.need (.o2 .le (.i 0) (.v 9))
(.need (.o1 .isSome (.v 0))
(.read (.load 5 (.tmp 19)) 5 [(19, .w (.a (.eptr 0 (.v 9) 1 0)))] [(.a 0, .prop 3)] [.i] (.w (.a (.int .u8 (.v 10))))
(.need (.o2 .lt (.v 9) (.o1 .ofNat (.v 5)))
(.need (.o1 .isSome (.v 4))
(.read (.load 5 (.tmp 23)) 5 [(23, .w (.a (.eptr 4 (.v 9) 1 0)))] [(.a 4, .prop 7)] [.i] (.w (.a (.int .u8 (.v 11))))
(.br (.o1 .not (.o2 .eq (.v 10) (.v 11)))
(.ret (.w (.a (.bool (.c false)))) [(.a 0, .prop 3), (.a 4, .prop 7)])
(.need (.o1 (.inr .i64) (.o2 .add (.v 9) (.i 1)))
(.again 0 [.e (.o1 .not (.o1 .not (.v 8))), .e (.o1 .neg (.o1 .neg (.o2 .add (.v 9) (.i 1))))])))))))))
(.ret (.w (.a (.bool (.c true)))) [(.a 0, .prop 3), (.a 4, .prop 7)]))))
theorem tree_r01Same : tree Tryd.prog { keep := [8, 17, 16, 11, 99999, 14, 29, 6, 5, 7, 99999], outl := true, opn := true, rdf := true } Tryd.f29 [.a (.sl (.v 0) (.v 1) (.v 2)), .a (.sl (.v 4) (.v 5) (.v 6))] [(.a 0, .prop 3), (.a 4, .prop 7)] 8 = t_r01Same := by kernel_rfl
def t_great22 : T :=
(.new
(.br (.o2 .lt (.i 500) (.o1 .ofNat (.o1 .size (.v 5))))
(.ret (.w (.a (.bool (.c true)))) [(.a 9, .prop 12), (.a 13, .prop 16)])
(.br (.o2 .lt (.i 500) (.o1 .ofNat (.o1 .size (.v 6))))
(.ret (.w (.a (.bool (.c true)))) [(.a 9, .prop 12), (.a 13, .prop 16)])
(.br (.o2 .lt (.i 1000) (.o1 .ofNat (.v 10)))
(.ret (.w (.a (.bool (.c true)))) [(.a 9, .prop 12), (.a 13, .prop 16)])
(.ret (.w (.a (.bool (.o2 .lt (.i 500) (.o1 .ofNat (.v 14)))))) [(.a 9, .prop 12), (.a 13, .prop 16)])))))
theorem tree_great22 : tree Tryd.prog { keep := [8, 17, 16, 11, 99999, 14, 29, 6, 5, 7, 99999], outl := true, opn := true, rdf := true } Tryd.f6 [.agg [.int .i64 (.v 0), .int .i64 (.v 1), .int .i64 (.v 2), .bool (.v 3), .int .i64 (.v 4), .str (.v 5), .str (.v 6), .int .i64 (.v 7), .int .i64 (.v 8), .sl (.v 9) (.v 10) (.v 11), .sl (.v 13) (.v 14) (.v 15)]] [(.a 9, .prop 12), (.a 13, .prop 16)] 17 = t_great22 := by kernel_rfl
def t_speaks22 : T :=
(.call 7 [.agg [.int .i64 (.i 5), .int .i64 (.i 8), .int .i64 (.i 0), .bool (.c false), .int .i64 (.i 0), .str (.s []), .str (.s []), .int .i64 (.i 0), .int .i64 (.i 0), .sl .nil (.n 0) (.n 0), .sl .nil (.n 0) (.n 0)]] [] [.s] (.w (.a (.str (.v 0)))) []
(.ret (.w (.a (.bool (.o2 .seq (.v 0) (.s [116, 105, 99, 107, 32, 56]))))) []))
theorem tree_speaks22 : tree Tryd.prog { keep := [8, 17, 16, 11, 99999, 14, 29, 6, 5, 7, 99999], outl := true, opn := true, rdf := true } Tryd.f5 [] [] 0 = t_speaks22 := by kernel_rfl
def t_taleOne : T :=
(.new
(.new
(.call 5 [] [] [.c] (.w (.a (.bool (.v 36)))) []
(.br (.o1 .not (.v 36))
(.ret (.w (.a (.bool (.c false)))) [(.a 9, .prop 12), (.a 13, .prop 16), (.a 26, .prop 29), (.a 30, .prop 33)])
(.call 6 [.agg [.int .i64 (.v 0), .int .i64 (.v 1), .int .i64 (.v 2), .bool (.v 3), .int .i64 (.v 4), .str (.v 5), .str (.v 6), .int .i64 (.v 7), .int .i64 (.v 8), .sl (.v 9) (.v 10) (.v 11), .sl (.v 13) (.v 14) (.v 15)]] [(.a 9, .prop 12), (.a 13, .prop 16)] [.c] (.w (.a (.bool (.v 37)))) [(.a 9, .prop 12), (.a 13, .prop 16)]
(.br (.v 37)
(.ret (.w (.a (.bool (.c true)))) [(.a 9, .prop 12), (.a 13, .prop 16), (.a 26, .prop 29), (.a 30, .prop 33)])
(.call 6 [.agg [.int .i64 (.v 17), .int .i64 (.v 18), .int .i64 (.v 19), .bool (.v 20), .int .i64 (.v 21), .str (.v 22), .str (.v 23), .int .i64 (.v 24), .int .i64 (.v 25), .sl (.v 26) (.v 27) (.v 28), .sl (.v 30) (.v 31) (.v 32)]] [(.a 26, .prop 29), (.a 30, .prop 33)] [.c] (.w (.a (.bool (.v 38)))) [(.a 26, .prop 29), (.a 30, .prop 33)]
(.br (.v 38)
(.ret (.w (.a (.bool (.c true)))) [(.a 9, .prop 12), (.a 13, .prop 16), (.a 26, .prop 29), (.a 30, .prop 33)])
(.call 7 [.agg [.int .i64 (.v 0), .int .i64 (.v 1), .int .i64 (.v 2), .bool (.v 3), .int .i64 (.v 4), .str (.v 5), .str (.v 6), .int .i64 (.v 7), .int .i64 (.v 8), .sl (.v 9) (.v 10) (.v 11), .sl (.v 13) (.v 14) (.v 15)]] [(.a 9, .prop 12), (.a 13, .prop 16)] [.s] (.w (.a (.str (.v 39)))) [(.a 9, .prop 12), (.a 13, .prop 16)]
(.call 7 [.agg [.int .i64 (.v 17), .int .i64 (.v 18), .int .i64 (.v 19), .bool (.v 20), .int .i64 (.v 21), .str (.v 22), .str (.v 23), .int .i64 (.v 24), .int .i64 (.v 25), .sl (.v 26) (.v 27) (.v 28), .sl (.v 30) (.v 31) (.v 32)]] [(.a 26, .prop 29), (.a 30, .prop 33)] [.s] (.w (.a (.str (.v 40)))) [(.a 26, .prop 29), (.a 30, .prop 33)]
(.br (.o2 .seq (.v 39) (.s [63]))
(.br (.o2 .lt (.v 0) (.i 1))
(.br (.o2 .beq (.o2 .seq (.v 39) (.s [63])) (.c true))
(.br (.o2 .lt (.v 17) (.i 1))
(.ret (.w (.a (.bool (.o2 .beq (.o2 .seq (.v 40) (.s [63])) (.c true))))) [(.a 9, .prop 12), (.a 13, .prop 16), (.a 26, .prop 29), (.a 30, .prop 33)])
(.ret (.w (.a (.bool (.o2 .beq (.o2 .seq (.v 40) (.s [63])) (.o2 .lt (.i 8) (.v 17)))))) [(.a 9, .prop 12), (.a 13, .prop 16), (.a 26, .prop 29), (.a 30, .prop 33)]))
(.ret (.w (.a (.bool (.c false)))) [(.a 9, .prop 12), (.a 13, .prop 16), (.a 26, .prop 29), (.a 30, .prop 33)]))
(.br (.o2 .beq (.o2 .seq (.v 39) (.s [63])) (.o2 .lt (.i 8) (.v 0)))
(.br (.o2 .lt (.v 17) (.i 1))
(.ret (.w (.a (.bool (.o2 .beq (.o2 .seq (.v 40) (.s [63])) (.c true))))) [(.a 9, .prop 12), (.a 13, .prop 16), (.a 26, .prop 29), (.a 30, .prop 33)])
(.ret (.w (.a (.bool (.o2 .beq (.o2 .seq (.v 40) (.s [63])) (.o2 .lt (.i 8) (.v 17)))))) [(.a 9, .prop 12), (.a 13, .prop 16), (.a 26, .prop 29), (.a 30, .prop 33)]))
(.ret (.w (.a (.bool (.c false)))) [(.a 9, .prop 12), (.a 13, .prop 16), (.a 26, .prop 29), (.a 30, .prop 33)])))
(.br (.o2 .seq (.v 40) (.s [63]))
(.br (.o2 .lt (.v 0) (.i 1))
(.br (.o2 .beq (.o2 .seq (.v 39) (.s [63])) (.c true))
(.br (.o2 .lt (.v 17) (.i 1))
(.ret (.w (.a (.bool (.o2 .beq (.o2 .seq (.v 40) (.s [63])) (.c true))))) [(.a 9, .prop 12), (.a 13, .prop 16), (.a 26, .prop 29), (.a 30, .prop 33)])
(.ret (.w (.a (.bool (.o2 .beq (.o2 .seq (.v 40) (.s [63])) (.o2 .lt (.i 8) (.v 17)))))) [(.a 9, .prop 12), (.a 13, .prop 16), (.a 26, .prop 29), (.a 30, .prop 33)]))
(.ret (.w (.a (.bool (.c false)))) [(.a 9, .prop 12), (.a 13, .prop 16), (.a 26, .prop 29), (.a 30, .prop 33)]))
(.br (.o2 .beq (.o2 .seq (.v 39) (.s [63])) (.o2 .lt (.i 8) (.v 0)))
(.br (.o2 .lt (.v 17) (.i 1))
(.ret (.w (.a (.bool (.o2 .beq (.o2 .seq (.v 40) (.s [63])) (.c true))))) [(.a 9, .prop 12), (.a 13, .prop 16), (.a 26, .prop 29), (.a 30, .prop 33)])
(.ret (.w (.a (.bool (.o2 .beq (.o2 .seq (.v 40) (.s [63])) (.o2 .lt (.i 8) (.v 17)))))) [(.a 9, .prop 12), (.a 13, .prop 16), (.a 26, .prop 29), (.a 30, .prop 33)]))
(.ret (.w (.a (.bool (.c false)))) [(.a 9, .prop 12), (.a 13, .prop 16), (.a 26, .prop 29), (.a 30, .prop 33)])))
(.loop [.i, .i] [.e (.o1 .neg (.o1 .neg (.i 0))), .e (.o1 .neg (.o1 .neg (.i 0)))]
(.br (.o2 .lt (.v 42) (.o1 .ofNat (.o1 .size (.v 39))))
(.read (.index 9 (.tmp 58) (.tmp 59)) 5 [(58, .w (.a (.str (.v 39)))), (59, .w (.a (.int .i64 (.v 42))))] [] [.i] (.w (.a (.int .u8 (.v 43))))
(.br (.o2 .eq (.v 43) (.i 32))
(.need (.o1 (.inr .i64) (.o2 .add (.v 41) (.i 1)))
(.need (.o1 (.inr .i64) (.o2 .add (.v 42) (.i 1)))
(.again 0 [.e (.o1 .neg (.o1 .neg (.o2 .add (.v 41) (.i 1)))), .e (.o1 .neg (.o1 .neg (.o2 .add (.v 42) (.i 1))))])))
(.need (.o1 (.inr .i64) (.o2 .add (.v 42) (.i 1)))
(.again 0 [.e (.o1 .neg (.o1 .neg (.v 41))), .e (.o1 .neg (.o1 .neg (.o2 .add (.v 42) (.i 1))))]))))
(.new
(.need (.o1 (.inr .i64) (.o2 .sub (.v 0) (.i 1)))
(.read (.indexAddr 30 (.tmp 64) (.tmp 67)) 0 [(64, .w (.a (.sl (.b (.v 43) 0) (.n 8) (.n 8)))), (67, .w (.a (.int .i64 (.o2 .sub (.v 0) (.i 1)))))] [(.b (.v 43), .cells [.int .i64 (.i 7), .int .i64 (.i 1), .int .i64 (.i 1), .int .i64 (.i 1), .int .i64 (.i 1), .int .i64 (.i 2), .int .i64 (.i 1), .int .i64 (.i 2)] 3)] [.v] (.w (.a (.val 44)))
(.read (.load 3 (.tmp 68)) 3 [(68, .w (.a (.val 44)))] [(.b (.v 43), .cells [.int .i64 (.i 7), .int .i64 (.i 1), .int .i64 (.i 1), .int .i64 (.i 1), .int .i64 (.i 1), .int .i64 (.i 2), .int .i64 (.i 1), .int .i64 (.i 2)] 3)] [.i] (.w (.a (.int .i64 (.v 45))))
(.join [.c, .p, .p, .p, .p]
(.call 9 [.agg [.int .i64 (.v 0), .int .i64 (.v 1), .int .i64 (.v 2), .bool (.v 3), .int .i64 (.v 4), .str (.v 5), .str (.v 6), .int .i64 (.v 7), .int .i64 (.v 8), .sl (.v 9) (.v 10) (.v 11), .sl (.v 13) (.v 14) (.v 15)]] [(.a 9, .prop 12), (.a 13, .prop 16)] [.i, .i, .i, .c, .i, .s, .s, .i, .i, .a, .n, .n, .p, .a, .n, .n, .p, .p, .p] (.w (.agg [.int .i64 (.v 46), .int .i64 (.v 47), .int .i64 (.v 48), .bool (.v 49), .int .i64 (.v 50), .str (.v 51), .str (.v 52), .int .i64 (.v 53), .int .i64 (.v 54), .sl (.v 55) (.v 56) (.v 57), .sl (.v 59) (.v 60) (.v 61)])) [(.a 55, .prop 58), (.a 59, .prop 62), (.a 9, .prop 63), (.a 13, .prop 64)]
(.call 9 [.agg [.int .i64 (.v 17), .int .i64 (.v 18), .int .i64 (.v 19), .bool (.v 20), .int .i64 (.v 21), .str (.v 22), .str (.v 23), .int .i64 (.v 24), .int .i64 (.v 25), .sl (.v 26) (.v 27) (.v 28), .sl (.v 30) (.v 31) (.v 32)]] [(.a 26, .prop 29), (.a 30, .prop 33)] [.i, .i, .i, .c, .i, .s, .s, .i, .i, .a, .n, .n, .p, .a, .n, .n, .p, .p, .p] (.w (.agg [.int .i64 (.v 65), .int .i64 (.v 66), .int .i64 (.v 67), .bool (.v 68), .int .i64 (.v 69), .str (.v 70), .str (.v 71), .int .i64 (.v 72), .int .i64 (.v 73), .sl (.v 74) (.v 75) (.v 76), .sl (.v 78) (.v 79) (.v 80)])) [(.a 74, .prop 77), (.a 78, .prop 81), (.a 26, .prop 82), (.a 30, .prop 83)]
(.call 8 [.agg [.int .i64 (.v 46), .int .i64 (.v 47), .int .i64 (.v 48), .bool (.v 49), .int .i64 (.v 50), .str (.v 51), .str (.v 52), .int .i64 (.v 53), .int .i64 (.v 54), .sl (.v 55) (.v 56) (.v 57), .sl (.v 59) (.v 60) (.v 61)], .agg [.int .i64 (.v 65), .int .i64 (.v 66), .int .i64 (.v 67), .bool (.v 68), .int .i64 (.v 69), .str (.v 70), .str (.v 71), .int .i64 (.v 72), .int .i64 (.v 73), .sl (.v 74) (.v 75) (.v 76), .sl (.v 78) (.v 79) (.v 80)]] [(.a 55, .prop 58), (.a 59, .prop 62), (.a 74, .prop 77), (.a 78, .prop 81)] [.c] (.w (.a (.bool (.v 84)))) [(.a 55, .prop 58), (.a 59, .prop 62), (.a 74, .prop 77), (.a 78, .prop 81)]
(.br (.o2 .beq (.o2 .seq (.v 39) (.v 40)) (.v 84))
(.again 0 [.e (.o1 .not (.o1 .not (.o2 .eq (.v 41) (.v 45)))), .p [(.a 26, .prop 82)], .p [(.a 30, .prop 83)], .p [(.a 9, .prop 63)], .p [(.a 13, .prop 64)]])
(.again 0 [.e (.o1 .not (.o1 .not (.c false))), .p [(.a 26, .prop 82)], .p [(.a 30, .prop 83)], .p [(.a 9, .prop 63)], .p [(.a 13, .prop 64)]])))))
(.ret (.w (.a (.bool (.v 46)))) [(.a 9, .prop 49), (.a 13, .prop 50), (.a 26, .prop 47), (.a 30, .prop 48)]))))))))))))))))))))
theorem tree_taleOne : tree Tryd.prog { keep := [8, 17, 16, 11, 99999, 14, 29, 6, 5, 7, 99999], outl := true, opn := true, rdf := true, jn := [((70, 46), some { ss := [.c, .p, .p, .p, .p], n := 51, tv := [(70, none), (71, none), (72, none), (73, none), (74, none), (75, none), (76, none), (77, none), (78, none), (79, none), (80, none), (81, none), (82, none), (83, none), (4, some (.w (.a (.bool (.v 46)))))], h := [(.a 26, .prop 47), (.a 30, .prop 48), (.a 9, .prop 49), (.a 13, .prop 50), (.b (.v 43), .cells [.int .i64 (.i 7), .int .i64 (.i 1), .int .i64 (.i 1), .int .i64 (.i 1), .int .i64 (.i 1), .int .i64 (.i 2), .int .i64 (.i 1), .int .i64 (.i 2)] 3), (.b (.v 35), .cells [.int .i64 (.v 17), .int .i64 (.v 18), .int .i64 (.v 19), .bool (.v 20), .int .i64 (.v 21), .str (.v 22), .str (.v 23), .int .i64 (.v 24), .int .i64 (.v 25), .sl (.v 26) (.v 27) (.v 28), .sl (.v 30) (.v 31) (.v 32)] 26), (.b (.v 34), .cells [.int .i64 (.v 0), .int .i64 (.v 1), .int .i64 (.v 2), .bool (.v 3), .int .i64 (.v 4), .str (.v 5), .str (.v 6), .int .i64 (.v 7), .int .i64 (.v 8), .sl (.v 9) (.v 10) (.v 11), .sl (.v 13) (.v 14) (.v 15)] 26)], lk := [] })] } Tryd.f3 [.agg [.int .i64 (.v 0), .int .i64 (.v 1), .int .i64 (.v 2), .bool (.v 3), .int .i64 (.v 4), .str (.v 5), .str (.v 6), .int .i64 (.v 7), .int .i64 (.v 8), .sl (.v 9) (.v 10) (.v 11), .sl (.v 13) (.v 14) (.v 15)], .agg [.int .i64 (.v 17), .int .i64 (.v 18), .int .i64 (.v 19), .bool (.v 20), .int .i64 (.v 21), .str (.v 22), .str (.v 23), .int .i64 (.v 24), .int .i64 (.v 25), .sl (.v 26) (.v 27) (.v 28), .sl (.v 30) (.v 31) (.v 32)]] [(.a 9, .prop 12), (.a 13, .prop 16), (.a 26, .prop 29), (.a 30, .prop 33)] 34 = t_taleOne := by kernel_rfl
end Go.Proofs.YtcpjdfihpdjkbaaDoor.RX



namespace Go.Proofs.YtcpjdfihpdjkbaaDoor
set_option linter.unusedSimpArgs false
set_option linter.unusedVariables false
open Go.Proofs.YtcpjdfihpdjkbaaDoor RX Go.RowKit
set_option maxRecDepth 100000


end Go.Proofs.YtcpjdfihpdjkbaaDoor



namespace Go.Proofs.YtcpjdfihpdjkbaaDoor
set_option linter.unusedSimpArgs false
set_option linter.unusedVariables false
open Go.Proofs.YtcpjdfihpdjkbaaDoor RX Go.RowKit
set_option maxRecDepth 100000

def ixSl (t : TypeId) (u v : Value) : Sem Next := do pure (.value (← Instr.indexAt t u v))
theorem semW_ixSl {t ty : TypeId} {i j : Nat} {u v : Value} (h : i ≠ j) : semW (.indexAddr t (.tmp i) (.tmp j)) ty [(i, u), (j, v)] = ixSl t u v := by
  have h' : (i == j) = false := by simpa using h
  simp [semW, execOp, arW, h', ixSl]
theorem ixSl_ok {t el : TypeId} (ht : Tryd.prog.underlying t = some (.slice el)) (hi : (Tryd.prog.info? el).isSome = true) (hz : szT Tryd.prog el = 1) {b n c k : Nat} {x : Int} (hx : x = k) (hk : k < n) {A : HP} :
    ORead Tryd.prog (ixSl t (.slice (some ⟨b, 0, none⟩) n c) (.int .i64 x)) A (.pointer (some ⟨b, k, none⟩)) := fun w R h F s _ => by
  obtain ⟨i, hi⟩ := Option.isSome_iff_exists.1 hi
  subst hx
  unfold ixSl
  rw [Sem.run_bind, RX.run_indexAt_slice ht hi (by omega) (by omega), hz]
  simp [addr_add]
theorem ldOne {t : TypeId} {d : TypeDesc} (hd : Tryd.prog.underlying t = some d) (ha : aggT Tryd.prog t = false) (hz : szT Tryd.prog t = 1) {b k : Nat} {cs : Array Value} {ty : TypeId} {v : Value} (hk : cs.toList[k]? = some v) : ORead Tryd.prog (loadS t (.pointer (some ⟨b, k, none⟩))) (HP.one b (.cells cs ty (0, 0))) v := by
  have := load1_ok (t := t) hd ha hz (one_rd b cs ty) (k := k) (off := 0) (v := v) hk
  simpa [addr_add] using this
def nms : List (List UInt8) := [[99, 97, 108, 108], [115, 110, 97, 112], [116, 114, 105, 109], [103, 105, 118, 101, 117, 112], [116, 105, 99, 107], [100, 101, 108, 105, 118, 101, 114], [100, 114, 111, 112], [99, 114, 97, 115, 104]]
theorem nms_at {k : Int} (h1 : 1 ≤ k) (h8 : k ≤ 8) : nms[(k - 1).toNat]? = some (formS k).1 ∧ (formS k).1 ≠ [] := by
  have : k = 1 ∨ k = 2 ∨ k = 3 ∨ k = 4 ∨ k = 5 ∨ k = 6 ∨ k = 7 ∨ k = 8 := by omega
  rcases this with rfl | rfl | rfl | rfl | rfl | rfl | rfl | rfl <;> exact ⟨rfl, by decide⟩
theorem formS_out {k : Int} (h : k < 1 ∨ 8 < k) : formS k = ([], []) := by
  unfold formS
  rw [if_neg (by omega), if_neg (by omega), if_neg (by omega), if_neg (by omega), if_neg (by omega), if_neg (by omega), if_neg (by omega), if_neg (by omega)]
theorem line2 {e : EvS} (h1 : 2 ≤ e.kind) (h2 : e.kind ≤ 5) : lineS e = (formS e.kind).1 ++ [32] ++ Lib.itoa e.who := by
  have : e.kind = 2 ∨ e.kind = 3 ∨ e.kind = 4 ∨ e.kind = 5 := by omega
  have : (formS e.kind).2 = [.who] := by rcases this with h | h | h | h <;> rw [h] <;> rfl
  unfold lineS
  rw [if_neg (nms_at (by omega) (by omega)).2, this]
  simp [Lib.join_cons, Lib.joinTail, Fld.put]
theorem line0 {e : EvS} (h : e.kind < 1 ∨ 8 < e.kind) : lineS e = [63] := by
  unfold lineS
  rw [formS_out h]; rfl
end Go.Proofs.YtcpjdfihpdjkbaaDoor



namespace Go.Proofs.YtcpjdfihpdjkbaaDoor
set_option linter.unusedSimpArgs false
set_option linter.unusedVariables false
open Go.Proofs.YtcpjdfihpdjkbaaDoor RX Go.RowKit
set_option maxRecDepth 100000

theorem EvS.ext' {a b : EvS} (h : a.kind = b.kind ∧ a.who = b.who ∧ a.at_ = b.at_ ∧ a.stays = b.stays ∧ a.ck = b.ck ∧ a.path = b.path ∧ a.other = b.other ∧ a.off = b.off ∧ a.n = b.n ∧ a.data = b.data ∧ a.picks = b.picks) : a = b := by
  obtain ⟨h1, h2, h3, h4, h5, h6, h7, h8, h9, h10, h11⟩ := h
  cases a; cases b
  simp_all
instance : DecidableEq EvS := fun a b => decidable_of_iff (a.kind = b.kind ∧ a.who = b.who ∧ a.at_ = b.at_ ∧ a.stays = b.stays ∧ a.ck = b.ck ∧ a.path = b.path ∧ a.other = b.other ∧ a.off = b.off ∧ a.n = b.n ∧ a.data = b.data ∧ a.picks = b.picks) ⟨EvS.ext', fun h => by subst h; simp⟩
theorem r01Same_ok (a : Option Addr) (c : Nat) (l : List UInt8) (a' : Option Addr) (c' : Nat) (l' : List UInt8) (hl : l.length ≤ 20000) (hl' : l'.length ≤ 20000) :
    Tri Tryd.prog 29 #[.slice a l.length c, .slice a' l'.length c'] (HP.sep (RoB a l.length l) (RoB a' l'.length l')) (fun v => HP.and (v = .bool (decide (l = l'))) (HP.sep (RoB a l.length l) (RoB a' l'.length l'))) := by
  refine Tri.fact (φ := (a = none → l.length = 0) ∧ (a' = none → l'.length = 0)) (fun R h H => ⟨(RdL.ro 1 a l.length (l.map u8v)).none R h (HP.sep_left H), (RdL.ro 1 a' l'.length (l'.map u8v)).none R h (HP.sep_right H)⟩) fun ⟨hn1, hn2⟩ => ?_
  refine tri_of_tree (ρ := [.a a, .n l.length, .n c, .p (RoB a l.length l), .a a', .n l'.length, .n c', .p (RoB a' l'.length l')]) mixed Tryd.func29 tree_r01Same ?_
  unfold t_r01Same
  simp only [T.den, E.prop, E.den, RX.look, F1.app, F2.app, Uni.int_i, Uni.nat_n, Uni.bool_c, Uni.str_s, Uni.adr_a, Uni.val_v, Uni.hp_p, hden, cden, V.den, W.den, A.den, BR.den, SA.den, FV.den, capV, exs, exP, allP, Cur.app, List.map_cons, List.map_nil, List.cons_append, List.nil_append, List.drop_succ_cons, List.drop_zero, List.length_cons, List.length_nil, Nat.zero_add, Nat.reduceAdd, Int.neg_neg, Bool.not_not, List.append_nil, Nat.add_zero, List.getElem?_cons_zero, List.getElem?_cons_succ, Decidable.not_not, semW_eq, semW_load, ne_eq, Nat.reduceEqDiff, not_false_eq_true]
  refine ⟨fun hne => .of fun R h H => ⟨?_, H⟩, fun he => ?_⟩
  · rw [decide_eq_false (fun e => hne (by rw [e]))]
  have he : l.length = l'.length := by omega
  refine ⟨fun _ i => ∃ k : Nat, i = k ∧ k ≤ l.length ∧ l.take k = l'.take k, fun _ i => l.length - i.toNat, ⟨0, rfl, Nat.zero_le _, rfl⟩, ?_⟩
  rintro _ _ ⟨k, rfl, hk, hkk⟩
  refine ⟨fun hlt => ?_, fun hge => .of fun R h H => ⟨?_, H⟩⟩
  · have h1 : k < l.length := by omega
    have h2 : k < l'.length := by omega
    refine ⟨by omega, fun _ => ⟨?_, fun _ => ⟨l[k].toNat, loadB (RdL.ro 1 a l.length (l.map u8v)).rd (List.getElem?_eq_getElem h1), by omega, fun _ => ⟨?_, fun _ => ⟨l'[k].toNat, loadB (RdL.ro 1 a' l'.length (l'.map u8v)).rd (List.getElem?_eq_getElem h2), fun hd => .of fun R h H => ⟨?_, H⟩, fun hd => ⟨inI64t _ (by omega) (by omega), fun _ => ⟨⟨k + 1, by omega, by omega, ?_⟩, by dsimp only; omega⟩⟩⟩⟩⟩⟩⟩
    · cases a with
      | none => have := hn1 rfl; omega
      | some _ => rfl
    · cases a' with
      | none => have := hn2 rfl; omega
      | some _ => rfl
    · rw [decide_eq_false]
      intro e
      subst e
      exact hd rfl
    · rw [List.take_succ_eq_append_getElem h1, List.take_succ_eq_append_getElem h2, hkk]
      have : l[k] = l'[k] := UInt8.toNat_inj.1 (by omega)
      rw [this]
  · obtain rfl : k = l.length := by omega
    rw [List.take_length, List.take_of_length_le (by omega)] at hkk
    rw [decide_eq_true hkk]
theorem rSameCall_ok (x y : EvS) (rx ry : EvA) (hx : EvOk x) (hy : EvOk y) :
    Tri Tryd.prog 14 #[.agg #[.int .i64 x.ck, sE x.path, sE x.other, .int .i64 x.off, .int .i64 x.n, .slice rx.da x.data.length rx.dc], .agg #[.int .i64 y.ck, sE y.path, sE y.other, .int .i64 y.off, .int .i64 y.n, .slice ry.da y.data.length ry.dc]]
      (HP.sep (RoB rx.da x.data.length x.data) (RoB ry.da y.data.length y.data)) (fun v => HP.and (v = .bool (decide (x.ck = y.ck ∧ x.path = y.path ∧ x.other = y.other ∧ x.off = y.off ∧ x.n = y.n ∧ x.data = y.data))) (HP.sep (RoB rx.da x.data.length x.data) (RoB ry.da y.data.length y.data))) := by
  refine tri_of_tree (ρ := [.i x.ck, .s x.path, .s x.other, .i x.off, .i x.n, .a rx.da, .n x.data.length, .n rx.dc, .p (RoB rx.da x.data.length x.data), .i y.ck, .s y.path, .s y.other, .i y.off, .i y.n, .a ry.da, .n y.data.length, .n ry.dc, .p (RoB ry.da y.data.length y.data)]) mixed Tryd.func14 tree_rSameCall ?_
  unfold t_rSameCall
  simp only [T.den, E.prop, E.den, RX.look, F1.app, F2.app, Uni.int_i, Uni.nat_n, Uni.bool_c, Uni.str_s, Uni.adr_a, Uni.val_v, Uni.hp_p, hden, cden, V.den, W.den, A.den, BR.den, SA.den, FV.den, capV, exs, exP, allP, Cur.app, List.map_cons, List.map_nil, List.cons_append, List.nil_append, List.drop_succ_cons, List.drop_zero, List.length_cons, List.length_nil, Nat.zero_add, Nat.reduceAdd, Int.neg_neg, Bool.not_not, List.append_nil, Nat.add_zero, List.getElem?_cons_zero, List.getElem?_cons_succ, Decidable.not_not, semW_eq, ne_eq, Nat.reduceEqDiff, not_false_eq_true]
  intro b b2
  have no : ∀ {K : HP}, ¬ (x.ck = y.ck ∧ x.path = y.path ∧ x.other = y.other ∧ x.off = y.off ∧ x.n = y.n ∧ x.data = y.data) → HP.ent K (HP.and (Value.bool false = .bool (decide (x.ck = y.ck ∧ x.path = y.path ∧ x.other = y.other ∧ x.off = y.off ∧ x.n = y.n ∧ x.data = y.data))) K) := fun h => .of fun R z H => ⟨by rw [decide_eq_false h], H⟩
  refine ⟨fun h1 => ⟨fun h2 => ⟨fun h3 => ⟨fun h4 => ⟨fun h5 => ?_, fun h => no fun q => h q.2.2.2.2.1⟩, fun h => no fun q => h q.2.2.2.1⟩, fun h => no fun q => h q.2.2.1⟩, fun h => no fun q => h q.2.1⟩, fun h => no fun q => h q.1⟩
  refine (r01Same_ok rx.da rx.dc x.data ry.da ry.dc y.data hx.data hy.data).weak (fun _ _ h => h) ?_
  rintro v R h ⟨rfl, H⟩
  refine ⟨decide (x.data = y.data), rfl, .of fun R h H => ⟨?_, H⟩, H⟩
  congr 1
  exact decide_eq_decide.2 ⟨fun e => ⟨h1, h2, h3, h4, h5, e⟩, fun q => q.2.2.2.2.2⟩
def EvB2 (x : EvS) (rx : EvA) (y : EvS) (ry : EvA) : HP := HP.sep (RoB rx.da x.data.length x.data) (HP.sep (RoB rx.pa x.picks.length x.picks) (HP.sep (RoB ry.da y.data.length y.data) (RoB ry.pa y.picks.length y.picks)))
theorem rSame_ok (x y : EvS) (rx ry : EvA) (hx : EvOk x) (hy : EvOk y) :
    Tri Tryd.prog 8 #[.agg (evL x rx).toArray, .agg (evL y ry).toArray] (EvB2 x rx y ry) (fun v => HP.and (v = .bool (decide (x = y))) (EvB2 x rx y ry)) := by
  refine tri_of_tree (ρ := [.i x.kind, .i x.who, .i x.at_, .c x.stays, .i x.ck, .s x.path, .s x.other, .i x.off, .i x.n, .a rx.da, .n x.data.length, .n rx.dc, .p (RoB rx.da x.data.length x.data), .a rx.pa, .n x.picks.length, .n rx.pc, .p (RoB rx.pa x.picks.length x.picks), .i y.kind, .i y.who, .i y.at_, .c y.stays, .i y.ck, .s y.path, .s y.other, .i y.off, .i y.n, .a ry.da, .n y.data.length, .n ry.dc, .p (RoB ry.da y.data.length y.data), .a ry.pa, .n y.picks.length, .n ry.pc, .p (RoB ry.pa y.picks.length y.picks)]) mixed Tryd.func8 tree_rSame ?_
  unfold t_rSame
  simp only [T.den, E.prop, E.den, RX.look, F1.app, F2.app, Uni.int_i, Uni.nat_n, Uni.bool_c, Uni.str_s, Uni.adr_a, Uni.val_v, Uni.hp_p, hden, cden, V.den, W.den, A.den, BR.den, SA.den, FV.den, capV, exs, exP, allP, Cur.app, List.map_cons, List.map_nil, List.cons_append, List.nil_append, List.drop_succ_cons, List.drop_zero, List.length_cons, List.length_nil, Nat.zero_add, Nat.reduceAdd, Int.neg_neg, Bool.not_not, List.append_nil, Nat.add_zero, List.getElem?_cons_zero, List.getElem?_cons_succ, Decidable.not_not, semW_eq, ne_eq, Nat.reduceEqDiff, not_false_eq_true]
  intro b b2
  have no : ¬ (x = y) → HP.ent (EvB2 x rx y ry) (HP.and (Value.bool false = .bool (decide (x = y))) (EvB2 x rx y ry)) := fun h => .of fun R z H => ⟨by rw [decide_eq_false h], H⟩
  refine ⟨fun h1 => ⟨fun h2 => ⟨fun h3 => ⟨fun h4 => ?_, fun h => no fun q => h (by rw [q]; simp)⟩, fun h => no fun q => h (by rw [q])⟩, fun h => no fun q => h (by rw [q])⟩, fun h => no fun q => h (by rw [q])⟩
  refine (rSameCall_ok x y rx ry hx hy).weak (fun _ _ h => h) ?_
  rintro v R h ⟨rfl, H⟩
  refine ⟨decide (x.ck = y.ck ∧ x.path = y.path ∧ x.other = y.other ∧ x.off = y.off ∧ x.n = y.n ∧ x.data = y.data), rfl, ⟨fun h5 => ?_, fun h5 => no fun q => h5 (by rw [q]; simp)⟩, H⟩
  refine ⟨x.picks, convT (RdL.ro _ _ _ _) rfl, y.picks, convT (RdL.ro _ _ _ _) rfl, .of fun R h H => ⟨?_, H⟩⟩
  congr 1
  have h5 := of_decide_eq_true h5
  refine decide_eq_decide.2 ⟨fun e => EvS.ext' ⟨h1, h2, h3, by simpa using h4, h5.1, h5.2.1, h5.2.2.1, h5.2.2.2.1, h5.2.2.2.2.1, h5.2.2.2.2.2, e⟩, fun q => by rw [q]⟩
def toldS (e : EvS) : EvS where
  kind := e.kind
  who := if ¬ e.kind = 6 ∧ ¬ e.kind = 7 then e.who else 0
  at_ := if ¬ e.kind = 6 ∧ ¬ e.kind = 7 then 0 else e.at_
  stays := if e.kind = 6 then e.stays else false
  ck := if e.kind = 1 then e.ck else 0
  path := if e.kind = 1 then e.path else []
  other := if e.kind = 1 then e.other else []
  off := if e.kind = 1 then e.off else 0
  n := if e.kind = 1 then e.n else 0
  data := if e.kind = 1 then e.data else []
  picks := if e.kind = 8 then e.picks else []
def toldA (e : EvS) (r : EvA) : EvA where
  da := if e.kind = 1 then r.da else none
  dc := if e.kind = 1 then r.dc else 0
  pa := if e.kind = 8 then r.pa else none
  pc := if e.kind = 8 then r.pc else 0
theorem EvOk.told {e : EvS} (h : EvOk e) : EvOk (toldS e) := by
  have z : in64 0 := ⟨by decide, by decide⟩
  have i : ∀ (p : Prop) [Decidable p] (x y : Int), in64 x → in64 y → in64 (if p then x else y) := fun p _ x y hx hy => by split <;> assumption
  have j : ∀ (p : Prop) [Decidable p] (x : List UInt8), x.length ≤ 20000 → (if p then x else []).length ≤ 20000 := fun p _ x hx => by
    split
    · exact hx
    · exact Nat.zero_le _
  exact ⟨i _ _ _ h.who z, i _ _ _ z h.at_, i _ _ _ h.ck z, i _ _ _ h.off z, i _ _ _ h.n z, j _ _ h.path, j _ _ h.other, j _ _ h.data, j _ _ h.picks⟩
theorem ro_if {p : Prop} [Decidable p] {a : Option Addr} {l : List UInt8} {R h : PH} (H : (RoB a l.length l).p R h) : (RoB (if p then a else none) (if p then l else []).length (if p then l else [])).p R h := by
  split
  · exact H
  · exact RoC.nil _ _ _ _
def EvT (e : EvS) (r : EvA) : HP := HP.sep (RoB (toldA e r).da (toldS e).data.length (toldS e).data) (HP.sep (RoB (toldA e r).pa (toldS e).picks.length (toldS e).picks) (EvB e r))
theorem EvB.told {e : EvS} {r : EvA} : HP.ent (EvB e r) (EvT e r) := .of fun R h H =>
  have h1 : (RoB r.da e.data.length e.data).p R h := HP.sep_left H
  have h2 : (RoB r.pa e.picks.length e.picks).p R h := HP.sep_right H
  ⟨PH.none', h, PH.none_dj _, PH.none_le _, PH.le.refl _, ro_if (R := R) (h := PH.none') h1, PH.none', h, PH.none_dj _, PH.none_le _, PH.le.refl _, ro_if (R := R) (h := PH.none') h2, H⟩
theorem rTold_ok (e : EvS) (r : EvA) :
    Tri Tryd.prog 9 #[.agg (evL e r).toArray] (EvB e r) (fun v => HP.and (v = .agg (evL (toldS e) (toldA e r)).toArray) (EvT e r)) := by
  refine tri_of_tree (ρ := [.i e.kind, .i e.who, .i e.at_, .c e.stays, .i e.ck, .s e.path, .s e.other, .i e.off, .i e.n, .a r.da, .n e.data.length, .n r.dc, .p (RoB r.da e.data.length e.data), .a r.pa, .n e.picks.length, .n r.pc, .p (RoB r.pa e.picks.length e.picks)]) mixed Tryd.func9 tree_rTold ?_
  unfold t_rTold
  simp only [T.den, E.prop, E.den, RX.look, F1.app, F2.app, Uni.int_i, Uni.nat_n, Uni.bool_c, Uni.str_s, Uni.adr_a, Uni.val_v, Uni.hp_p, hden, cden, V.den, W.den, A.den, BR.den, SA.den, FV.den, capV, exs, exP, allP, Cur.app, List.map_cons, List.map_nil, List.cons_append, List.nil_append, List.drop_succ_cons, List.drop_zero, List.length_cons, List.length_nil, Nat.zero_add, Nat.reduceAdd, Int.neg_neg, Bool.not_not, List.append_nil, Nat.add_zero, List.getElem?_cons_zero, List.getElem?_cons_succ, Decidable.not_not, semW_eq, ne_eq, Nat.reduceEqDiff, not_false_eq_true]
  intro b b2 b3
  have go : ∀ (l : List Value), evL (toldS e) (toldA e r) = l → HP.ent (EvB e r) (HP.and (Value.agg l.toArray = .agg (evL (toldS e) (toldA e r)).toArray) (EvT e r)) := fun l hl => by
    rw [hl]; exact EvB.told.trans (.of fun R h H => ⟨rfl, H⟩)
  unfold evL toldS toldA at go
  refine ⟨fun h6 => ⟨fun h7 => ⟨fun h1 => ⟨fun h8 => ?_, fun h8 => ?_⟩, fun h1 => ⟨fun h8 => ?_, fun h8 => ?_⟩⟩, fun h7 => ⟨fun h1 => ⟨fun h8 => ?_, fun h8 => ?_⟩, fun h1 => ⟨fun h8 => ?_, fun h8 => ?_⟩⟩⟩, fun h6 => ⟨fun h1 => ⟨fun h8 => ?_, fun h8 => ?_⟩, fun h1 => ⟨fun h8 => ?_, fun h8 => ?_⟩⟩⟩
  all_goals first | (exfalso; omega) | (refine go _ ?_; simp_all [sE])
end Go.Proofs.YtcpjdfihpdjkbaaDoor



namespace Go.Proofs.YtcpjdfihpdjkbaaDoor
open Go.Proofs.YtcpjdfihpdjkbaaDoor RX Go.RowKit
set_option maxRecDepth 100000


theorem dg_nat {d : Nat} (h : d < 10) : (UInt8.ofNat (48 + d)).toNat = 48 + d := by
  rw [UInt8.toNat_ofNat']; omega
theorem parse_dec : ∀ (n u : Nat), u < n → u < 18446744073709551616 → ∀ r, Lib.parseUint10 0 (Lib.decDigits u ++ r) = Lib.parseUint10 u r
  | 0, u, h, _ => by omega
  | n + 1, u, hn, hu => fun r => by
    by_cases h : u < 10
    · rw [Lib.decDigits, dif_pos h]
      show Lib.parseUint10 0 (UInt8.ofNat (48 + u) :: r) = _
      rw [Lib.parseUint10, dg_nat h, if_pos (by omega), if_neg (by omega), if_neg (by omega), show 0 * 10 + (48 + u - 48) = u by omega]
    · rw [Lib.decDigits, dif_neg h, List.append_assoc, parse_dec n (u / 10) (by omega) (by omega)]
      show Lib.parseUint10 (u / 10) (UInt8.ofNat (48 + u % 10) :: r) = _
      rw [Lib.parseUint10, dg_nat (Nat.mod_lt _ (by decide)), if_pos (by omega), if_neg (by omega), if_neg (by omega), show u / 10 * 10 + (48 + u % 10 - 48) = u by omega]
theorem dec_digs : ∀ (n u : Nat), u < n → Lib.decDigits u ≠ [] ∧ ∀ c ∈ Lib.decDigits u, 48 ≤ c.toNat ∧ c.toNat ≤ 57
  | 0, u, h => by omega
  | n + 1, u, hn => by
    by_cases h : u < 10
    · rw [Lib.decDigits, dif_pos h]
      refine ⟨by simp, fun c hc => ?_⟩
      rw [List.mem_singleton] at hc
      subst hc
      rw [dg_nat h]; omega
    · rw [Lib.decDigits, dif_neg h]
      refine ⟨by simp, fun c hc => ?_⟩
      rcases List.mem_append.1 hc with hc | hc
      · exact (dec_digs n (u / 10) (by omega)).2 c hc
      · rw [List.mem_singleton] at hc
        subst hc
        rw [dg_nat (Nat.mod_lt _ (by decide))]; omega
theorem parse_mag {u : Nat} (h : u < 18446744073709551616) : Lib.parseMag (Lib.decDigits u) = .ok u := by
  unfold Lib.parseMag
  rw [if_neg (dec_digs (u + 1) u (by omega)).1]
  have := parse_dec (u + 1) u (by omega) h []
  rw [List.append_nil] at this
  rw [this]; rfl
theorem atoi_itoa {n : Int} (hn : in64 n) : Lib.atoiAll (Lib.itoa n) = .ok n := by
  obtain ⟨h1, h2⟩ : -9223372036854775808 ≤ n ∧ n ≤ 9223372036854775807 := hn
  unfold Lib.itoa
  split
  · rw [Lib.atoiAll_minus, parse_mag (by omega)]
    show (if 9223372036854775808 < n.natAbs then _ else _) = _
    rw [if_neg (by omega)]
    congr 1
    omega
  · obtain ⟨d1, d2⟩ := dec_digs (n.toNat + 1) n.toNat (by omega)
    have hp := parse_mag (u := n.toNat) (by omega)
    cases hd : Lib.decDigits n.toNat with
    | nil => exact absurd hd d1
    | cons c r =>
      rw [hd] at hp d2
      have := d2 c (by simp)
      rw [Lib.atoiAll_plain c r (by omega) (by omega), hp]
      show (if 9223372036854775808 ≤ n.toNat then _ else _) = _
      rw [if_neg (by omega)]
      congr 1
      omega
theorem numT_itoa {n : Int} (hn : in64 n) : numT (Lib.itoa n) = some n := by
  unfold numT atoiB atoiV
  rw [atoi_itoa hn]; rfl
theorem itoa_sp {n : Int} : (32 : UInt8) ∉ Lib.itoa n := by
  intro h
  unfold Lib.itoa at h
  split at h
  · rcases List.mem_cons.1 h with h | h
    · exact absurd h (by decide)
    · exact absurd ((dec_digs _ _ (Nat.lt_succ_self _)).2 _ h).1 (by decide)
  · exact absurd ((dec_digs _ _ (Nat.lt_succ_self _)).2 _ h).1 (by decide)

theorem hexD_I : ∀ d : Fin 16, hexI (hexD d.val) = d.val ∧ hexD d.val ≠ 32 ∧ hexD d.val ≠ 45 := by decide
theorem pairs_hex : ∀ l : List UInt8, pairsB (hexL l) = some l
  | [] => rfl
  | x :: r => by
    have h256 := x.toNat_lt
    obtain ⟨a1, _⟩ := hexD_I ⟨x.toNat / 16, by omega⟩
    obtain ⟨b1, _⟩ := hexD_I ⟨x.toNat % 16, by omega⟩
    have e : hexL (x :: r) = hexD (x.toNat / 16) :: hexD (x.toNat % 16) :: hexL r := rfl
    rw [e, pairsB, a1, b1, if_neg (by simp only [not_or]; omega), pairs_hex r]
    have : UInt8.ofNat ((((x.toNat / 16 : Nat) : Int)).toNat * 16 + (((x.toNat % 16 : Nat) : Int)).toNat) = x := by
      rw [Int.toNat_natCast, Int.toNat_natCast, show x.toNat / 16 * 16 + x.toNat % 16 = x.toNat by omega]
      exact UInt8.ofNat_toNat
    show some (_ :: r) = _
    rw [this]
theorem readB_hex (l : List UInt8) : readB (hexW l) = some l := by
  unfold hexW
  split
  · rename_i h; rw [h]; rfl
  · rename_i h
    have hl := hexL_len l
    have hp : 0 < l.length := List.length_pos_iff.2 h
    unfold readB
    rw [if_neg, if_neg, pairs_hex]
    · rintro (h | h)
      · rw [h] at hl; simp at hl; omega
      · omega
    · intro h
      rw [h] at hl; simp at hl; omega
theorem hexW_sp (l : List UInt8) : (32 : UInt8) ∉ hexW l := by
  unfold hexW
  split
  · decide
  · unfold hexL
    rw [List.mem_flatMap]
    rintro ⟨x, _, hx⟩
    have h256 := x.toNat_lt
    obtain ⟨_, a1, _⟩ := hexD_I ⟨x.toNat / 16, by omega⟩
    obtain ⟨_, b1, _⟩ := hexD_I ⟨x.toNat % 16, by omega⟩
    rcases List.mem_cons.1 hx with h | h
    · exact a1 h.symm
    · rw [List.mem_singleton] at h
      exact b1 h.symm
theorem boolW_sp (b : Bool) : (32 : UInt8) ∉ boolW b := by cases b <;> decide
theorem boolT_W (b : Bool) : boolT' (boolW b) = some b := by cases b <;> decide

theorem splitB_cons (c b : UInt8) (r : List UInt8) : splitB c (b :: r) = if b = c then [] :: splitB c r else match splitB c r with
    | y :: q => (b :: y) :: q
    | [] => [[b]] := rfl
theorem splitB_app (c : UInt8) (s : List UInt8) : ∀ x : List UInt8, c ∉ x → splitB c (x ++ c :: s) = x :: splitB c s
  | [], _ => by rw [List.nil_append, splitB_cons, if_pos rfl]
  | b :: r, h => by
    rw [List.cons_append, splitB_cons, if_neg (fun e => h (by rw [e]; simp)), splitB_app c s r (fun q => h (List.mem_cons_of_mem _ q))]
theorem splitB_words (c : UInt8) : ∀ (r : List (List UInt8)) (x : List UInt8), c ∉ x → (∀ y ∈ r, c ∉ y) → splitB c (Lib.join (x :: r) [c]) = x :: r
  | [], x, hx, _ => by rw [Lib.join_one, splitB_none (List.count_eq_zero.2 hx)]
  | y :: r, x, hx, h => by
    have e : Lib.join (x :: y :: r) [c] = x ++ c :: Lib.join (y :: r) [c] := by
      rw [Lib.join_cons, Lib.join_cons]
      simp [Lib.joinTail]
    rw [e, splitB_app c _ x hx, splitB_words c r y (h y (by simp)) fun z hz => h z (List.mem_cons_of_mem _ hz)]
theorem put_sp (e : EvS) (f : Fld) : (32 : UInt8) ∉ f.put e := by
  cases f <;> first | exact itoa_sp | exact hexW_sp _ | exact boolW_sp _
theorem nm_sp {k : Int} : (32 : UInt8) ∉ (formS k).1 := by
  unfold formS
  repeat' split
  all_goals decide
theorem words_line {e : EvS} (h : (formS e.kind).1 ≠ []) : splitB 32 (lineS e) = (formS e.kind).1 :: (formS e.kind).2.map (Fld.put e) := by
  unfold lineS
  rw [if_neg h]
  refine splitB_words 32 _ _ nm_sp fun y hy => ?_
  obtain ⟨f, _, rfl⟩ := List.mem_map.1 hy
  exact put_sp e f
def Fld.copy (s e : EvS) : Fld → EvS
  | .who => { e with who := s.who }
  | .at_ => { e with at_ := s.at_ }
  | .stays => { e with stays := s.stays }
  | .ck => { e with ck := s.ck }
  | .path => { e with path := s.path }
  | .other => { e with other := s.other }
  | .off => { e with off := s.off }
  | .n => { e with n := s.n }
  | .data => { e with data := s.data }
  | .picks => { e with picks := s.picks }
theorem take_put {s : EvS} (h : EvOk s) (e : EvS) (f : Fld) : f.take e (f.put s) = some (f.copy s e) := by
  cases f <;> simp [Fld.take, Fld.put, Fld.copy, numT_itoa h.who, numT_itoa h.at_, numT_itoa h.ck, numT_itoa h.off, numT_itoa h.n, readB_hex, boolT_W]
theorem takeAll_put {s : EvS} (h : EvOk s) : ∀ (fs : List Fld) (e : EvS), takeAll fs (fs.map (Fld.put s)) e = some (fs.foldl (fun e f => f.copy s e) e)
  | [], _ => rfl
  | f :: fs, e => by
    rw [List.map_cons, takeAll_cons, take_put h, Option.bind_some, takeAll_put h fs]; rfl
theorem kinds8 {k : Int} (h1 : 1 ≤ k) (h8 : k ≤ 8) : k = 1 ∨ k = 2 ∨ k = 3 ∨ k = 4 ∨ k = 5 ∨ k = 6 ∨ k = 7 ∨ k = 8 := by omega
theorem copy_told {e : EvS} (h1 : 1 ≤ e.kind) (h8 : e.kind ≤ 8) : (formS e.kind).2.foldl (fun x f => f.copy e x) (zeroE e.kind) = toldS e := by
  obtain ⟨k, who, at_, stays, ck, path, other, off, n, data, picks⟩ := e
  rcases kinds8 h1 h8 with h | h | h | h | h | h | h | h <;> (dsimp only at h; subst h; rfl)
theorem line_told (e : EvS) : lineS (toldS e) = lineS e := by
  by_cases h1 : 1 ≤ e.kind ∧ e.kind ≤ 8
  · obtain ⟨k, who, at_, stays, ck, path, other, off, n, data, picks⟩ := e
    rcases kinds8 h1.1 h1.2 with h | h | h | h | h | h | h | h <;> (dsimp only at h; subst h; rfl)
  · have hk : (toldS e).kind = e.kind := rfl
    rw [line0 (e := e) (by omega), line0 (e := toldS e) (by rw [hk]; omega)]
theorem readK_line {e : EvS} (he : EvOk e) (h1 : 1 ≤ e.kind) (h8 : e.kind ≤ 8) : readK (lineS e) ((formS e.kind).1 :: (formS e.kind).2.map (Fld.put e)) (kinds 1) = some (toldS e) := by
  have key : ∀ r : List Int, readK (lineS e) ((formS e.kind).1 :: (formS e.kind).2.map (Fld.put e)) (e.kind :: r) = some (toldS e) := fun r => by
    rw [readK_cons, if_neg (by simp), List.tail_cons, takeAll_put he, copy_told h1 h8]
    show (if lineS (toldS e) = lineS e then _ else _) = _
    rw [if_pos (line_told e)]
  have skip : ∀ (k : Int) (r : List Int), (formS k).1 ≠ (formS e.kind).1 → readK (lineS e) ((formS e.kind).1 :: (formS e.kind).2.map (Fld.put e)) (k :: r) = readK (lineS e) ((formS e.kind).1 :: (formS e.kind).2.map (Fld.put e)) r := fun k r h => by
    rw [readK_cons, if_pos (.inl h)]
  have ek : kinds 1 = [1, 2, 3, 4, 5, 6, 7, 8] := rfl
  rw [ek]
  have hne : ∀ i j : Fin 8, i.val ≠ j.val → (formS (i.val + 1)).1 ≠ (formS (j.val + 1)).1 := by decide
  rcases kinds8 h1 h8 with h | h | h | h | h | h | h | h
  all_goals
    rw [h] at key skip ⊢
    repeat (first | exact key _ | rw [skip _ _ (by decide)])
theorem read_line {e : EvS} (he : EvOk e) (h1 : 1 ≤ e.kind) (h8 : e.kind ≤ 8) : readS (lineS e) = some (toldS e) := by
  unfold readS
  rw [words_line (nms_at h1 h8).2]
  exact readK_line he h1 h8
theorem line_inj {a b : EvS} (ha : EvOk a) (hb : EvOk b) (a1 : 1 ≤ a.kind ∧ a.kind ≤ 8) (b1 : 1 ≤ b.kind ∧ b.kind ≤ 8) : lineS a = lineS b ↔ toldS a = toldS b := by
  constructor
  · intro h
    have := read_line ha a1.1 a1.2
    rw [h, read_line hb b1.1 b1.2] at this
    exact (Option.some.inj this).symm
  · intro h
    rw [← line_told a, h, line_told]
theorem line_q {e : EvS} : lineS e = [63] ↔ (e.kind < 1 ∨ 8 < e.kind) := by
  constructor
  · intro h
    refine Classical.byContradiction fun hn => ?_
    have hw := words_line (e := e) (nms_at (by omega) (by omega)).2
    rw [h] at hw
    have h2 : [[(63 : UInt8)]] = _ := hw
    have : (formS e.kind).1 = [63] := (List.cons.inj h2).1.symm
    rcases kinds8 (k := e.kind) (by omega) (by omega) with h | h | h | h | h | h | h | h <;> (rw [h] at this; exact absurd this (by decide))
  · exact line0
theorem line_count {e : EvS} (h1 : 1 ≤ e.kind) (h8 : e.kind ≤ 8) : (lineS e).count 32 = (formS e.kind).2.length := by
  have := splitB_len 32 (lineS e)
  rw [words_line (nms_at h1 h8).2] at this
  simp at this
  omega

instance : DecidableEq Fld := fun a b => by cases a <;> cases b <;> first | exact isTrue rfl | exact isFalse (by intro h; cases h)
end Go.Proofs.YtcpjdfihpdjkbaaDoor



namespace Go.Proofs.YtcpjdfihpdjkbaaDoor
set_option linter.unusedSimpArgs false
set_option linter.unusedVariables false
open Go.Proofs.YtcpjdfihpdjkbaaDoor RX Go.RowKit
set_option maxRecDepth 100000

theorem lineK_ok (e : EvS) (r : EvA) (he : EvOk e) :
    Tri Tryd.prog 7 #[.agg (evL e r).toArray] (EvB e r) (fun v => HP.and (v = sE (lineS e)) (EvB e r)) := by
  refine ((line_ok e r he).frame (EvB e r)).weak (fun R h H => ?_) fun v R h H => ?_
  · exact HP.sep_mono (HP.tt_sep H) (fun y _ => EvB.pers y H) fun _ h => h
  · obtain ⟨h1, h2, d, l1, l2, ⟨e1, _⟩, H2⟩ := H
    exact ⟨e1, EvB.pers _ H2⟩
theorem speaks22_ok : Tri Tryd.prog 5 #[] HP.tt (fun v => HP.and (v = .bool true) HP.tt) := by
  refine tri_of_tree (ρ := []) mixed Tryd.func5 tree_speaks22 ?_
  unfold t_speaks22
  simp only [T.den, E.prop, E.den, RX.look, F1.app, F2.app, Uni.int_i, Uni.nat_n, Uni.bool_c, Uni.str_s, Uni.adr_a, Uni.val_v, Uni.hp_p, hden, cden, V.den, W.den, A.den, BR.den, SA.den, FV.den, capV, exs, exP, allP, Cur.app, List.map_cons, List.map_nil, List.cons_append, List.nil_append, List.drop_succ_cons, List.drop_zero, List.length_cons, List.length_nil, Nat.zero_add, Nat.reduceAdd, Int.neg_neg, Bool.not_not, List.append_nil, Nat.add_zero, List.getElem?_cons_zero, List.getElem?_cons_succ, Decidable.not_not, semW_eq, ne_eq, Nat.reduceEqDiff, not_false_eq_true]
  have z : in64 0 := ⟨by decide, by decide⟩
  refine (lineK_ok ⟨5, 8, 0, false, 0, [], [], 0, 0, [], []⟩ ⟨none, 0, none, 0⟩ ⟨⟨by decide, by decide⟩, z, z, z, z, Nat.zero_le _, Nat.zero_le _, Nat.zero_le _, Nat.zero_le _⟩).weak (fun R h H => ?_) ?_
  · exact ⟨PH.none', h, PH.none_dj _, PH.none_le _, PH.le.refl _, RoC.nil _ _ _ _, RoC.nil _ _ _ _⟩
  rintro v R h ⟨rfl, H⟩
  refine ⟨_, rfl, .of fun R h H => ⟨?_, trivial⟩, trivial⟩
  rw [line2 (by decide) (by decide)]
  have : Lib.itoa 8 = [56] := by
    show Lib.decDigits 8 = _
    rw [Lib.decDigits_one (by decide)]; rfl
  rw [this]; rfl
def greatS (e : EvS) : Prop := 500 < e.path.length ∨ 500 < e.other.length ∨ 1000 < e.data.length ∨ 500 < e.picks.length
instance (e : EvS) : Decidable (greatS e) := inferInstanceAs (Decidable (_ ∨ _))
theorem great22_ok (e : EvS) (r : EvA) :
    Tri Tryd.prog 6 #[.agg (evL e r).toArray] (EvB e r) (fun v => HP.and (v = .bool (decide (greatS e))) (EvB e r)) := by
  refine tri_of_tree (ρ := [.i e.kind, .i e.who, .i e.at_, .c e.stays, .i e.ck, .s e.path, .s e.other, .i e.off, .i e.n, .a r.da, .n e.data.length, .n r.dc, .p (RoB r.da e.data.length e.data), .a r.pa, .n e.picks.length, .n r.pc, .p (RoB r.pa e.picks.length e.picks)]) mixed Tryd.func6 tree_great22 ?_
  unfold t_great22
  simp only [T.den, E.prop, E.den, RX.look, F1.app, F2.app, Uni.int_i, Uni.nat_n, Uni.bool_c, Uni.str_s, Uni.adr_a, Uni.val_v, Uni.hp_p, hden, cden, V.den, W.den, A.den, BR.den, SA.den, FV.den, capV, exs, exP, allP, Cur.app, List.map_cons, List.map_nil, List.cons_append, List.nil_append, List.drop_succ_cons, List.drop_zero, List.length_cons, List.length_nil, Nat.zero_add, Nat.reduceAdd, Int.neg_neg, Bool.not_not, List.append_nil, Nat.add_zero, List.getElem?_cons_zero, List.getElem?_cons_succ, Decidable.not_not, semW_eq, ne_eq, Nat.reduceEqDiff, not_false_eq_true]
  intro b
  have yes : greatS e → HP.ent (EvB e r) (HP.and (Value.bool true = .bool (decide (greatS e))) (EvB e r)) := fun h => .of fun R z H => ⟨by rw [decide_eq_true h], H⟩
  refine ⟨fun h1 => yes (.inl (by omega)), fun h1 => ⟨fun h2 => yes (.inr (.inl (by omega))), fun h2 => ⟨fun h3 => yes (.inr (.inr (.inl (by omega)))), fun h3 => ?_⟩⟩⟩
  refine .of fun R h H => ⟨?_, H⟩
  congr 1
  refine decide_eq_decide.2 ⟨fun h => .inr (.inr (.inr (by omega))), fun h => ?_⟩
  unfold greatS at h
  omega
def EvN (e : EvS) : Prop := in64 e.kind ∧ in64 e.who ∧ in64 e.at_ ∧ in64 e.ck ∧ in64 e.off ∧ in64 e.n
theorem EvN.ok {e : EvS} (h : EvN e) (hg : ¬ greatS e) : EvOk e := by
  obtain ⟨h1, h2, h3, h4, h5, h6⟩ := h
  unfold greatS at hg
  exact ⟨h2, h3, h4, h5, h6, by omega, by omega, by omega, by omega⟩
theorem EvB2.of {x y : EvS} {rx ry : EvA} {R h h1 h2 : PH} (H1 : (EvB x rx).p R h1) (H2 : (EvB y ry).p R h2) : (EvB2 x rx y ry).p R h :=
  have a1 : (RoB rx.da x.data.length x.data).p R h1 := HP.sep_left H1
  have a2 : (RoB rx.pa x.picks.length x.picks).p R h1 := HP.sep_right H1
  have a3 : (RoB ry.da y.data.length y.data).p R h2 := HP.sep_left H2
  have a4 : (RoB ry.pa y.picks.length y.picks).p R h2 := HP.sep_right H2
  ⟨PH.none', h, PH.none_dj _, PH.none_le _, PH.le.refl _, a1, PH.none', h, PH.none_dj _, PH.none_le _, PH.le.refl _, a2, PH.none', h, PH.none_dj _, PH.none_le _, PH.le.refl _, a3, a4⟩
theorem line_len {e : EvS} (he : EvOk e) : (lineS e).length ≤ 400000 := by
  unfold lineS
  split
  · decide
  have hfl := form_len e.kind
  have hjl := join_len [32] 40001 ((formS e.kind).1 :: (formS e.kind).2.map (Fld.put e)) fun x hx => by
    rcases List.mem_cons.1 hx with rfl | hx
    · omega
    · obtain ⟨f, _, rfl⟩ := List.mem_map.1 hx
      exact put_len he f
  rw [List.length_cons, List.length_map] at hjl
  have : ((formS e.kind).2.length + 1) * (40001 + [(32 : UInt8)].length) ≤ 8 * 40002 := Nat.mul_le_mul (by omega) (by decide)
  omega
theorem bq1 {e : EvS} (h : e.kind < 1) : (decide (lineS e = [63]) == true) = true := by
  rw [decide_eq_true (line_q.2 (.inl h))]; rfl
theorem bq2 {e : EvS} (h : ¬ e.kind < 1) : (decide (lineS e = [63]) == decide (8 < e.kind)) = true := by
  rw [beq_iff_eq]
  refine decide_eq_decide.2 ⟨fun q => ?_, fun q => line_q.2 (.inr q)⟩
  have := line_q.1 q
  omega
theorem wants {k : Int} (h1 : 1 ≤ k) (h8 : k ≤ 8) : ([7, 1, 1, 1, 1, 2, 1, 2] : List Int)[(k - 1).toNat]? = some ((formS k).2.length : Int) := by
  rcases kinds8 h1 h8 with rfl | rfl | rfl | rfl | rfl | rfl | rfl | rfl <;> rfl
theorem undSI : Tryd.prog.underlying 30 = some (.slice 3) := by kernel_rfl
set_option maxHeartbeats 1000000 in
theorem taleOne_ok (x y : EvS) (rx ry : EvA) (nx : EvN x) (ny : EvN y) : Tri Tryd.prog 3 #[.agg (evL x rx).toArray, .agg (evL y ry).toArray] (EvB2 x rx y ry) (fun v => HP.and (v = .bool true) HP.tt) := by
  refine tri_of_tree (ρ := [.i x.kind, .i x.who, .i x.at_, .c x.stays, .i x.ck, .s x.path, .s x.other, .i x.off, .i x.n, .a rx.da, .n x.data.length, .n rx.dc, .p (RoB rx.da x.data.length x.data), .a rx.pa, .n x.picks.length, .n rx.pc, .p (RoB rx.pa x.picks.length x.picks), .i y.kind, .i y.who, .i y.at_, .c y.stays, .i y.ck, .s y.path, .s y.other, .i y.off, .i y.n, .a ry.da, .n y.data.length, .n ry.dc, .p (RoB ry.da y.data.length y.data), .a ry.pa, .n y.picks.length, .n ry.pc, .p (RoB ry.pa y.picks.length y.picks)]) mixed Tryd.func3 tree_taleOne ?_
  unfold t_taleOne
  simp (maxSteps := 3000000) only [T.den, E.prop, E.den, RX.look, F1.app, F2.app, Uni.int_i, Uni.nat_n, Uni.bool_c, Uni.str_s, Uni.adr_a, Uni.val_v, Uni.hp_p, hden, cden, V.den, W.den, A.den, BR.den, SA.den, FV.den, capV, exs, exP, allP, Cur.app, List.map_cons, List.map_nil, List.cons_append, List.nil_append, List.drop_succ_cons, List.drop_zero, List.length_cons, List.length_nil, Nat.zero_add, Nat.reduceAdd, Int.neg_neg, Bool.not_not, List.append_nil, Nat.add_zero, List.getElem?_cons_zero, List.getElem?_cons_succ, Decidable.not_not, semW_eq, semW_load, ne_eq, Nat.reduceEqDiff, not_false_eq_true]
  intro b b2
  refine speaks22_ok.weak (fun _ _ h => h) ?_
  rintro v R h ⟨rfl, H⟩
  refine ⟨true, rfl, ⟨fun h => absurd rfl h, fun _ => ?_⟩, H⟩
  clear H
  refine (great22_ok x rx).weak (fun _ _ h => h) ?_
  rintro v R h ⟨rfl, H⟩
  refine ⟨decide (greatS x), rfl, ⟨fun h => .of fun R h H => ⟨trivial, trivial⟩, fun gx => ?_⟩, H⟩
  clear H
  refine (great22_ok y ry).weak (fun _ _ h => h) ?_
  rintro v R h ⟨rfl, H⟩
  refine ⟨decide (greatS y), rfl, ⟨fun h => .of fun R h H => ⟨trivial, trivial⟩, fun gy => ?_⟩, H⟩
  clear H
  have ox := nx.ok (by simpa using gx)
  have oy := ny.ok (by simpa using gy)
  refine (lineK_ok x rx ox).weak (fun _ _ h => h) ?_
  rintro v R h ⟨rfl, H⟩
  refine ⟨lineS x, rfl, ?_, H⟩
  clear H
  refine (lineK_ok y ry oy).weak (fun _ _ h => h) ?_
  rintro v R h ⟨rfl, H⟩
  refine ⟨lineS y, rfl, ?_, H⟩
  clear H
  have fin : ∀ {K : HP} {c : Bool}, c = true → HP.ent K (HP.and (Value.bool c = .bool true) HP.tt) := fun h => .of fun R x _ => ⟨by rw [h], trivial⟩
  refine ⟨fun _ => ⟨fun k1 => ⟨fun _ => ⟨fun k2 => fin (bq1 k2), fun k2 => fin (bq2 k2)⟩, fun h => absurd (bq1 k1) h⟩, fun k1 => ⟨fun _ => ⟨fun k2 => fin (bq1 k2), fun k2 => fin (bq2 k2)⟩, fun h => absurd (bq2 k1) h⟩⟩, fun lx => ⟨fun _ => ⟨fun k1 => ⟨fun _ => ⟨fun k2 => fin (bq1 k2), fun k2 => fin (bq2 k2)⟩, fun h => absurd (bq1 k1) h⟩, fun k1 => ⟨fun _ => ⟨fun k2 => fin (bq1 k2), fun k2 => fin (bq2 k2)⟩, fun h => absurd (bq2 k1) h⟩⟩, fun ly => ?_⟩⟩
  have kx : 1 ≤ x.kind ∧ x.kind ≤ 8 := by
    have : ¬ (x.kind < 1 ∨ 8 < x.kind) := fun h => lx (line_q.2 h)
    omega
  have ky : 1 ≤ y.kind ∧ y.kind ≤ 8 := by
    have : ¬ (y.kind < 1 ∨ 8 < y.kind) := fun h => ly (line_q.2 h)
    omega
  have hlen := line_len ox
  refine ⟨fun c i => ∃ k : Nat, i = k ∧ k ≤ (lineS x).length ∧ c = ((lineS x).take k).count 32, fun _ i => (lineS x).length - i.toNat, ⟨0, rfl, Nat.zero_le _, by simp⟩, ?_⟩
  rintro _ _ ⟨k, rfl, hk, rfl⟩
  refine ⟨fun hlt => ?_, fun hge b3 => ?_⟩
  · have hkl : k < (lineS x).length := by omega
    have hc : ((lineS x).take (k + 1)).count 32 = ((lineS x).take k).count 32 + if (lineS x)[k] = 32 then 1 else 0 := by
      rw [List.take_succ_eq_append_getElem hkl, List.count_append, List.count_singleton]
      simp
    have hcl : ((lineS x).take k).count 32 ≤ k := Nat.le_trans List.count_le_length (by rw [List.length_take]; omega)
    refine ⟨(lineS x)[k].toNat, strIxG undStr rfl (List.getElem?_eq_getElem hkl) rfl rfl, fun h => ⟨inI64t _ (by omega) (by omega), fun _ => ⟨inI64t _ (by omega) (by omega), fun _ => ⟨⟨k + 1, by omega, by omega, ?_⟩, by dsimp only; omega⟩⟩⟩, fun h => ⟨inI64t _ (by omega) (by omega), fun _ => ⟨⟨k + 1, by omega, by omega, ?_⟩, by dsimp only; omega⟩⟩⟩
    · have : (lineS x)[k] = 32 := UInt8.toNat_inj.1 (by show _ = 32; omega)
      rw [if_pos this] at hc; omega
    · have : ¬ (lineS x)[k] = 32 := fun e => h (by rw [e]; rfl)
      rw [if_neg this] at hc; omega
  obtain rfl : k = (lineS x).length := by omega
  rw [List.take_length, line_count kx.1 kx.2]
  clear hge hk hlen
  refine ⟨inI64t _ (by omega) (by omega), fun _ => ⟨.pointer (some ⟨b3, (x.kind - 1).toNat, none⟩), ?_, (formS x.kind).2.length, ?_, fun c _ _ _ _ => c = true, ?_, fun c _ _ _ _ hc => fin hc⟩⟩
  · rw [semW_ixSl (by decide)]
    exact ixSl_ok undSI (by kernel_rfl) szI (by omega) (by omega)
  · refine ldOne undIb aggI szI ?_
    have : (([7, 1, 1, 1, 1, 2, 1, 2] : List Int).map (Value.int .i64))[(x.kind - 1).toNat]? = some (.int .i64 (formS x.kind).2.length) := by rw [List.getElem?_map, wants kx.1 kx.2]; rfl
    exact this
  refine (rTold_ok x rx).weak (fun _ _ h => h) ?_
  rintro v R h ⟨rfl, H⟩
  refine ⟨(toldS x).kind, (toldS x).who, (toldS x).at_, (toldS x).stays, (toldS x).ck, (toldS x).path, (toldS x).other, (toldS x).off, (toldS x).n, (toldA x rx).da, (toldS x).data.length, (toldA x rx).dc, RoB (toldA x rx).da (toldS x).data.length (toldS x).data, (toldA x rx).pa, (toldS x).picks.length, (toldA x rx).pc, RoB (toldA x rx).pa (toldS x).picks.length (toldS x).picks, RoB rx.da x.data.length x.data, RoB rx.pa x.picks.length x.picks, ?_, ?_, ?_⟩
  · rfl
  · clear H
    refine (rTold_ok y ry).weak (fun _ _ h => h) ?_
    rintro v R h ⟨rfl, H⟩
    refine ⟨(toldS y).kind, (toldS y).who, (toldS y).at_, (toldS y).stays, (toldS y).ck, (toldS y).path, (toldS y).other, (toldS y).off, (toldS y).n, (toldA y ry).da, (toldS y).data.length, (toldA y ry).dc, RoB (toldA y ry).da (toldS y).data.length (toldS y).data, (toldA y ry).pa, (toldS y).picks.length, (toldA y ry).pc, RoB (toldA y ry).pa (toldS y).picks.length (toldS y).picks, RoB ry.da y.data.length y.data, RoB ry.pa y.picks.length y.picks, ?_, ?_, ?_⟩
    · rfl
    · clear H
      refine (rSame_ok (toldS x) (toldS y) (toldA x rx) (toldA y ry) ox.told oy.told).weak (fun R h H => H) ?_
      rintro v R h ⟨rfl, H⟩
      refine ⟨decide (toldS x = toldS y), rfl, ⟨fun _ => ?_, fun hn => ?_⟩, H⟩
      · exact decide_eq_true rfl
      · exact absurd (beq_iff_eq.2 (decide_eq_decide.2 (line_inj ox oy kx ky))) hn
    · exact H
  · exact H
end Go.Proofs.YtcpjdfihpdjkbaaDoor



namespace Go.Proofs.YtcpjdfihpdjkbaaDoor
open Go.RowKit Go.ChangeShapes Go.WideShapes Go.Deep RX
set_option maxRecDepth 100000
set_option linter.unusedVariables false
set_option linter.unusedSimpArgs false

structure EvI where
  kind : Int
  who : Int
  at_ : Int
  stays : Bool
  call_kind : Int
  call_path : List UInt8
  call_other : List UInt8
  call_off : Int
  call_n : Int
  call_data : List UInt8
  call_dataa : Option Addr
  call_datac : Nat
  picks : List UInt8
  picksa : Option Addr
  picksc : Nat
abbrev EvI.vals (x : EvI) : List Value := [.int .i64 x.kind, .int .i64 x.who, .int .i64 x.at_, .bool x.stays, .int .i64 x.call_kind, .string ⟨x.call_path.toArray⟩, .string ⟨x.call_other.toArray⟩, .int .i64 x.call_off, .int .i64 x.call_n, .slice x.call_dataa x.call_data.length x.call_datac, .slice x.picksa x.picks.length x.picksc]
def EvI.hp (x : EvI) : HP := HP.both (HP.pure (okI x.kind)) (HP.both (HP.pure (okI x.who)) (HP.both (HP.pure (okI x.at_)) (HP.both (HP.pure (okI x.call_kind)) (HP.both (HP.pure (x.call_path.length ≤ 9223372036854775807)) (HP.both (HP.pure (x.call_other.length ≤ 9223372036854775807)) (HP.both (HP.pure (okI x.call_off)) (HP.both (HP.pure (okI x.call_n)) (HP.both (HP.and (x.call_data.length ≤ 140737488355328) (RoB x.call_dataa x.call_data.length x.call_data)) (HP.and (x.picks.length ≤ 140737488355328) (RoB x.picksa x.picks.length x.picks))))))))))
theorem EvI.pers (x : EvI) (R h h' : PH) (H : (x.hp).p R h) : (x.hp).p R h' := ⟨H.1, ⟨H.2.1, ⟨H.2.2.1, ⟨H.2.2.2.1, ⟨H.2.2.2.2.1, ⟨H.2.2.2.2.2.1, ⟨H.2.2.2.2.2.2.1, ⟨H.2.2.2.2.2.2.2.1, ⟨H.2.2.2.2.2.2.2.2.1, H.2.2.2.2.2.2.2.2.2⟩⟩⟩⟩⟩⟩⟩⟩⟩
instance : Inhabited EvI := ⟨⟨0, 0, 0, false, 0, [], [], 0, 0, [], none, 0, [], none, 0⟩⟩
def kEvI : Kind EvI := ⟨11, by decide, EvI.vals, fun _ => rfl, EvI.hp, EvI.pers⟩
theorem EvI.of_trod {H : Type} {enc : TypeId × Value → H} {w : World} {cs : List Value} {n : Nat} {x : DataW H × List MemPlace} (h : DataW.trod enc Tryd.prog w 0 (fun _ => true) true n 26 cs = some x) (hs : Small Tryd.prog 26 x.1) : ∃ m : EvI, cs = kEvI.vals m ∧ ∀ h, (kEvI.hp m).p (allOf w) h := by
  obtain ⟨xs0, n0, _, hx0, hl0, hxl0, hf0⟩ := DataW.trod_struct Tryd.underlying26 h
  replace hxl0 : xs0.length = 6 := hxl0
  have hs0 : Small Tryd.prog 26 (.agg (xs0.map (·.1))) := by
    have e := hx0
    first | (subst e; exact hs) | (rw [e] at hs; exact hs) | (have e2 := congrArg Prod.fst e; rw [← e2]; exact hs) | (rw [← e]; exact hs)
  obtain ⟨c0, e0, w0⟩ := field_int Tryd.underlying3 (show 0 < xs0.length by omega) (by kernel_rfl) (hf0 0 _ rfl)
  obtain ⟨c1, e1, w1⟩ := field_int Tryd.underlying3 (show 1 < xs0.length by omega) (by kernel_rfl) (hf0 1 _ rfl)
  obtain ⟨c2, e2, w2⟩ := field_int Tryd.underlying3 (show 2 < xs0.length by omega) (by kernel_rfl) (hf0 2 _ rfl)
  obtain ⟨c3, e3⟩ := field_bool Tryd.underlying4 (show 3 < xs0.length by omega) (by kernel_rfl) (hf0 3 _ rfl)
  have g0_4 := hf0 4 _ rfl
  rw [List.getElem?_eq_getElem (show 4 < xs0.length by omega)] at g0_4
  have hp0_4 : Small Tryd.prog 24 xs0[4].1 := Small.part (i := 4) hs0 Tryd.underlying26 rfl (by rw [List.getElem?_map, List.getElem?_eq_getElem (show 4 < xs0.length by omega)]; rfl)
  obtain ⟨xs1, n1, _, hx1, hl1, hxl1, hf1⟩ := DataW.trod_struct Tryd.underlying24 g0_4
  replace hxl1 : xs1.length = 6 := hxl1
  have hs1 : Small Tryd.prog 24 (.agg (xs1.map (·.1))) := by
    have e := hx1
    first | (subst e; exact hp0_4) | (rw [e] at hp0_4; exact hp0_4) | (have e2 := congrArg Prod.fst e; rw [← e2]; exact hp0_4) | (rw [← e]; exact hp0_4)
  obtain ⟨c4, e4, w4⟩ := field_int Tryd.underlying3 (show 0 < xs1.length by omega) (by kernel_rfl) (hf1 0 _ rfl)
  rw [List.getElem?_take_of_lt (of_decide_eq_true (by kernel_rfl)), List.getElem?_drop] at e4
  obtain ⟨c5, e5, w5⟩ := field_str Tryd.underlying9 (show 1 < xs1.length by omega) (by kernel_rfl) (hf1 1 _ rfl)
  rw [List.getElem?_take_of_lt (of_decide_eq_true (by kernel_rfl)), List.getElem?_drop] at e5
  obtain ⟨c6, e6, w6⟩ := field_str Tryd.underlying9 (show 2 < xs1.length by omega) (by kernel_rfl) (hf1 2 _ rfl)
  rw [List.getElem?_take_of_lt (of_decide_eq_true (by kernel_rfl)), List.getElem?_drop] at e6
  obtain ⟨c7, e7, w7⟩ := field_int Tryd.underlying3 (show 3 < xs1.length by omega) (by kernel_rfl) (hf1 3 _ rfl)
  rw [List.getElem?_take_of_lt (of_decide_eq_true (by kernel_rfl)), List.getElem?_drop] at e7
  obtain ⟨c8, e8, w8⟩ := field_int Tryd.underlying3 (show 4 < xs1.length by omega) (by kernel_rfl) (hf1 4 _ rfl)
  rw [List.getElem?_take_of_lt (of_decide_eq_true (by kernel_rfl)), List.getElem?_drop] at e8
  obtain ⟨a9, l9, k9, e9⟩ := field_slice Tryd.underlying22 (show 5 < xs1.length by omega) (by kernel_rfl) (hf1 5 _ rfl)
  have q9 := hf1 5 _ rfl
  rw [List.getElem?_eq_getElem (show 5 < xs1.length by omega)] at q9
  have g9 : DataW.trod enc Tryd.prog w 0 (fun _ => true) true n1 22 [.slice a9 l9 k9] = some xs1[5] := by
    rw [← take1' e9]
    exact q9
  have s9 : Small Tryd.prog 22 xs1[5].1 := Small.part (i := 5) hs1 Tryd.underlying24 rfl (by rw [List.getElem?_map, List.getElem?_eq_getElem (show 5 < xs1.length by omega)]; rfl)
  obtain ⟨b9, d9, m9, r9, y9, z9⟩ := bytes_of_trod g9 s9
  simp only [Value.slice.injEq] at r9
  obtain ⟨rfl, rfl, rfl⟩ := r9
  rw [List.getElem?_take_of_lt (of_decide_eq_true (by kernel_rfl)), List.getElem?_drop] at e9
  obtain ⟨a10, l10, k10, e10⟩ := field_slice Tryd.underlying22 (show 5 < xs0.length by omega) (by kernel_rfl) (hf0 5 _ rfl)
  have q10 := hf0 5 _ rfl
  rw [List.getElem?_eq_getElem (show 5 < xs0.length by omega)] at q10
  have g10 : DataW.trod enc Tryd.prog w 0 (fun _ => true) true n0 22 [.slice a10 l10 k10] = some xs0[5] := by
    rw [← take1' e10]
    exact q10
  have s10 : Small Tryd.prog 22 xs0[5].1 := Small.part (i := 5) hs0 Tryd.underlying26 rfl (by rw [List.getElem?_map, List.getElem?_eq_getElem (show 5 < xs0.length by omega)]; rfl)
  obtain ⟨b10, d10, m10, r10, y10, z10⟩ := bytes_of_trod g10 s10
  simp only [Value.slice.injEq] at r10
  obtain ⟨rfl, rfl, rfl⟩ := r10
  have hlen : cs.length = 11 := hl0.trans (by kernel_rfl)
  refine ⟨⟨c0, c1, c2, c3, c4, c5, c6, c7, c8, d9, a9, k9, d10, a10, k10⟩, ?_, fun hh => ⟨int_wf w0, ⟨int_wf w1, ⟨int_wf w2, ⟨int_wf w4, ⟨w5, ⟨w6, ⟨int_wf w7, ⟨int_wf w8, ⟨⟨y9, z9 hh⟩, ⟨y10, z10 hh⟩⟩⟩⟩⟩⟩⟩⟩⟩⟩⟩
  clear h hl0 hf0 hl1 hf1 g0_4 q9 g9 s9 q10 g10 s10
  revert e0 e1 e2 e3 e4 e5 e6 e7 e8 e9 e10
  match cs, hlen with
  | [u0, u1, u2, u3, u4, u5, u6, u7, u8, u9, u10], _ =>
    intro e0
    obtain rfl : u0 = .int _ c0 := Option.some.inj e0
    intro e1
    obtain rfl : u1 = .int _ c1 := Option.some.inj e1
    intro e2
    obtain rfl : u2 = .int _ c2 := Option.some.inj e2
    intro e3
    obtain rfl : u3 = .bool c3 := Option.some.inj e3
    intro e4
    obtain rfl : u4 = .int _ c4 := Option.some.inj e4
    intro e5
    obtain rfl : u5 = .string ⟨c5.toArray⟩ := Option.some.inj e5
    intro e6
    obtain rfl : u6 = .string ⟨c6.toArray⟩ := Option.some.inj e6
    intro e7
    obtain rfl : u7 = .int _ c7 := Option.some.inj e7
    intro e8
    obtain rfl : u8 = .int _ c8 := Option.some.inj e8
    intro e9
    obtain rfl : u9 = .slice a9 d9.length k9 := Option.some.inj e9
    intro e10
    obtain rfl : u10 = .slice a10 d10.length k10 := Option.some.inj e10
    rfl
end Go.Proofs.YtcpjdfihpdjkbaaDoor



namespace Go.Proofs.YtcpjdfihpdjkbaaDoor
open Go.Proofs.YtcpjdfihpdjkbaaDoor RX Go.RowKit
set_option maxRecDepth 100000

def EvI.s (m : EvI) : EvS := ⟨m.kind, m.who, m.at_, m.stays, m.call_kind, m.call_path, m.call_other, m.call_off, m.call_n, m.call_data, m.picks⟩
def EvI.r (m : EvI) : EvA := ⟨m.call_dataa, m.call_datac, m.picksa, m.picksc⟩
theorem EvI.n {m : EvI} {w : World} (z : ∀ h, (kEvI.hp m).p (allOf w) h) : EvN m.s := by
  obtain ⟨a, b, c, d, e, f, g, h, _⟩ : (EvI.hp m).p (allOf w) PH.none' := z PH.none'
  exact ⟨a, b, c, d, g, h⟩
theorem EvI.b {m : EvI} {w : World} (z : ∀ h, (kEvI.hp m).p (allOf w) h) (x : PH) : (EvB m.s m.r).p (allOf w) x := by
  obtain ⟨a, b, c, d, e, f, g, h, i, j⟩ : (EvI.hp m).p (allOf w) PH.none' := z PH.none'
  exact ⟨PH.none', x, PH.none_dj _, PH.none_le _, PH.le.refl _, i.2, j.2⟩
theorem taleOne_in (m0 m1 : EvI) {w : World} (z0 : ∀ h, (kEvI.hp m0).p (allOf w) h) (z1 : ∀ h, (kEvI.hp m1).p (allOf w) h) : Tri Tryd.prog 3 #[.agg (kEvI.vals m0).toArray, .agg (kEvI.vals m1).toArray] (EvB2 m0.s m0.r m1.s m1.r) (fun v => HP.pure (v = .bool true)) :=
  (taleOne_ok m0.s m1.s m0.r m1.r (EvI.n z0) (EvI.n z1)).weak (fun _ _ h => h) fun _ _ _ h => h.1
end Go.Proofs.YtcpjdfihpdjkbaaDoor



namespace Go.Proofs.YtcpjdfihpdjkbaaDoor
open Go.Proofs.YtcpjdfihpdjkbaaDoor RX
open Go.ChangeShapes Go.WideShapes Go.ChangeAt Go.RowKit
set_option maxRecDepth 100000

theorem laid_in {P : Program} {w : World} {n : String} {d : DataW Unit} : ∀ {l : List (String × DataW Unit)} {ps : List MemPlace}, DataW.LaidVars P w l ps → (n, d) ∈ l → ∃ g t cs fuel p ty fr, P.globalNamed n = some g ∧ (P.globals[g]?).map (·.type) = some t ∧ w.heap[(g : Nat)]? = some (.cells cs ty fr) ∧ DataW.trod (fun _ => ()) P w 0 (fun _ => true) false fuel t cs.toList = some (d, p)
  | [], _, _, hm => by cases hm
  | (n', d') :: r, ps, ⟨g, t, cs, fuel, p, q, hg, ht, hv, htr, hr, _⟩, hm => by
    rcases List.mem_cons.1 hm with e | hm
    · cases e
      unfold World.var? at hv
      rw [hg] at hv
      simp only [Option.bind_some] at hv
      split at hv
      · rename_i c ty fr e
        cases hv
        exact ⟨g, t, _, fuel, p, ty, fr, hg, ht, e, htr⟩
      · cases hv
    · exact laid_in hr hm
theorem trod_if {P : Program} {w : World} {t : TypeId} {ms : Array (String × TypeId)} {fuel : Nat} {cs : List Value} {nm : String} {x : DataW Unit} {p : List MemPlace} (hu : P.underlying t = some (.interface ms)) (h : DataW.trod (fun _ => ()) P w 0 (fun _ => true) false fuel t cs = some (.iface nm x, p)) : ∃ tp v, cs = [.iface tp v] := by
  cases fuel with
  | zero => simp [DataW.trod] at h
  | succ m =>
    unfold DataW.trod at h
    rw [hu] at h
    cases cs with
    | nil => simp at h
    | cons c r =>
      cases r with
      | cons _ _ => simp at h
      | nil =>
        cases c
        case iface u v => exact ⟨u, v, rfl⟩
        all_goals simp at h
theorem pow_type : (Tryd.prog.globals[(3 : Nat)]?).map (·.type) = some 125 := by kernel_rfl
theorem undPow : Tryd.prog.underlying 125 = some (.array 20 72) := by kernel_rfl
theorem und64u : Tryd.prog.underlying 72 = some (.int .u64) := by kernel_rfl
theorem cells64 : Tryd.prog.cellsOf 72 = 1 := by kernel_rfl
theorem cellsPow : Tryd.prog.cellsOf 125 = 20 := by kernel_rfl
theorem gre_of {w : World} {l : List (String × DataW Unit)} {ps : List MemPlace} (h : DataW.LaidVars Tryd.prog w l ps) {n : String} {nm : String} {x : DataW Unit} (hm : (n, .iface nm x) ∈ l) {g : Nat} (hg : Tryd.prog.globalNamed n = some g) (ht : (Tryd.prog.globals[g]?).map (·.type) = some 66) : GRe (allOf w) g := by
  obtain ⟨g', t, cs, fuel, p, ty, fr, hg', ht', hh, htr⟩ := laid_in h hm
  rw [hg] at hg'
  cases hg'
  rw [ht] at ht'
  cases ht'
  obtain ⟨ms, hu⟩ := isIf (t := 66) (by kernel_rfl)
  obtain ⟨tp, v, e⟩ := trod_if hu htr
  have : cs = #[.iface tp v] := by rw [← Array.toArray_toList (xs := cs), e]
  exact ⟨tp, v, ty, fr, by rw [← this]; exact hh⟩
theorem gr_of {w : World} {l : List (String × DataW Unit)} {ps : List MemPlace} (h : DataW.LaidVars Tryd.prog w l ps) (h1 : ("internal/strconv.uint64pow10", Rows.laid_internal_strconv_uint64pow10) ∈ l := by repeat (first | exact List.Mem.head _ | apply List.Mem.tail)) (h2 : ("strconv.ErrRange", Rows.laid_strconv_ErrRange) ∈ l := by repeat (first | exact List.Mem.head _ | apply List.Mem.tail)) (h3 : ("strconv.ErrSyntax", Rows.laid_strconv_ErrSyntax) ∈ l := by repeat (first | exact List.Mem.head _ | apply List.Mem.tail)) : GR (allOf w) := by
  refine ⟨?_, gre_of h h3 (g := 4) (by kernel_rfl) (by kernel_rfl), gre_of h h2 (g := 5) (by kernel_rfl) (by kernel_rfl)⟩
  obtain ⟨g, t, cs, fuel, p, ty, fr, hg, ht, hh, htr⟩ := laid_in h h1
  obtain rfl : g = 3 := Option.some.inj (hg.symm.trans (by kernel_rfl))
  rw [pow_type] at ht
  cases ht
  obtain ⟨xs, m, _, hx, hl, hn, hel⟩ := DataW.trod_array undPow htr
  have hd : xs.map (·.1) = tens.map fun n => DataW.lit (.int .u64 n) := by
    have := congrArg Prod.fst hx
    unfold Rows.laid_internal_strconv_uint64pow10 at this
    injection this with this
    exact this.symm
  have hcs : cs = (tens.map (Value.int .u64)).toArray := by
    rw [← Array.toArray_toList (xs := cs)]
    congr 1
    refine List.ext_getElem? fun i => ?_
    rw [cellsPow] at hl
    by_cases hi : i < 20
    · have h1 := hel i hi
      rw [cells64, Nat.mul_one] at h1
      obtain ⟨v, hv⟩ : ∃ v, tens[i]? = some v := ⟨tens[i]'(by show i < 20; exact hi), List.getElem?_eq_getElem _⟩
      have h3 : (xs.map (·.1))[i]? = some (DataW.lit (.int .u64 v)) := by rw [hd, List.getElem?_map, hv]; rfl
      rw [List.getElem?_map] at h3
      obtain ⟨y, hy, hy2⟩ := Option.map_eq_some_iff.1 h3
      rw [hy] at h1
      obtain ⟨z, hz, hz2, _⟩ := DataW.trod_int und64u h1
      rw [hz2] at hy2
      have e : z = v := by
        injection hy2 with e
        injection e
      subst e
      have h5 : (List.take 1 (cs.toList.drop i))[0]? = some (Value.int .u64 z) := by rw [hz]; rfl
      rw [List.getElem?_take, if_pos (by decide), List.getElem?_drop, Nat.add_zero] at h5
      rw [h5, List.getElem?_map, hv]; rfl
    · rw [List.getElem?_eq_none (by omega), List.getElem?_eq_none (by show 20 ≤ i; omega)]
  exact ⟨ty, fr, by rw [← hcs]; exact hh⟩
end Go.Proofs.YtcpjdfihpdjkbaaDoor



namespace Go.Proofs.YtcpjdfihpdjkbaaDoor
open Go.RowKit Go.ChangeShapes Go.WideShapes Go.Deep RX

set_option maxRecDepth 100000 in
theorem taleOne_walk {H : Type} (enc : TypeId × Value → H) (base : Nat) (v0 v1 : Value) (w : World)
    (k0 : Value.okWide Tryd.prog w .any base 26 v0) (h0 : ∃ d p, DataW.Trod enc Tryd.prog w 0 (fun _ => true) true 26 v0 d p ∧ Small Tryd.prog 26 d)
    (k1 : Value.okWide Tryd.prog w .any base 26 v1) (h1 : ∃ d p, DataW.Trod enc Tryd.prog w 0 (fun _ => true) true 26 v1 d p ∧ Small Tryd.prog 26 d) (hG : GR (allOf w)) :
    Calls Tryd.prog 3 #[v0, v1] w fun e w' => e = .returned (.bool true) ∧ Below w.heap.size w w' := by
  obtain ⟨m0, rfl, z0⟩ := struct_open kEvI Tryd.underlying26 EvI.of_trod k0 h0
  obtain ⟨m1, rfl, z1⟩ := struct_open kEvI Tryd.underlying26 EvI.of_trod k1 h1
  exact Tri.run (taleOne_in m0 m1 z0 z1) (EvB2.of (h1 := PH.none') (h2 := PH.none') (EvI.b z0 _) (EvI.b z1 _)) hG
end Go.Proofs.YtcpjdfihpdjkbaaDoor



namespace Go.Proofs.YtcpjdfihpdjkbaaDoor.taleOne
open Go.ChangeShapes Go.WideShapes Go.ChangeAt Go.RowKit
set_option linter.unusedVariables false

theorem own : ownKnob Tryd.prog.godebug = none := by kernel_rfl
theorem laidOut : laidOutB Tryd.prog = true := by kernel_rfl

def laidL : List (String × DataW Unit) := [("math/bits.deBruijn32tab", Rows.laid_math_bits_deBruijn32tab), ("math/bits.deBruijn64tab", Rows.laid_math_bits_deBruijn64tab), ("internal/strconv.uint64pow10", Rows.laid_internal_strconv_uint64pow10), ("strconv.ErrRange", Rows.laid_strconv_ErrRange), ("strconv.ErrSyntax", Rows.laid_strconv_ErrSyntax)]
set_option maxRecDepth 100000 in
theorem plainL (w : World) : laidMetH Tryd.prog laidL w = laidMet Tryd.prog laidL w := MakeChecks.laidMetH_plain _ _ _ (by kernel_rfl)
set_option maxRecDepth 100000 in
theorem door_met (os : Os) (args : Array Value) : laidMetH Tryd.prog laidL ((World.laidAll Tryd.prog os laidL).forCall (fun _ _ => 0) ⟨#[], args, []⟩).memory := by
  rw [plainL]
  exact laidMet_laidAll _ (by kernel_rfl) (by kernel_rfl)
end Go.Proofs.YtcpjdfihpdjkbaaDoor.taleOne




namespace Go.Proofs.YtcpjdfihpdjkbaaDoor.taleOne
open Go.ChangeShapes Go.WideShapes Go.ChangeAt Go.RowKit
set_option linter.unusedVariables false

set_option maxRecDepth 100000 in
theorem lifted (os : Os) (started : os.Started) (H : Type) (enc : TypeId × Value → H) :
    ReturnsInHanded {} Tryd.checked os 3 .any (fun w args => (Rows.taleOneSpec.pre enc Tryd.prog Tryd.f3 [] false w args ∧ laidMetH Tryd.prog laidL w) ∧ sizedMet enc Tryd.prog Tryd.f3 (OpenSpec.ofChange Rows.taleOneSpec) false w args) (Rows.taleOneSpec.post enc Tryd.prog Tryd.f3 false true false false) := by
  refine returnsInHanded_of_change_and (C := Tryd.checked) (X := fun w _ => laidMetH Tryd.prog laidL w) (fun _ _ _ hh h => h.of_heap hh) own started (by kernel_rfl) Tryd.func3
    (ChangeSpec.witness_shaped (enc := enc) (C := Tryd.checked) (os := os) (X := fun w _ => laidMetH Tryd.prog laidL w) false (World.laidAll Tryd.prog os laidL) #[.agg #[.int .i64 0, .int .i64 0, .int .i64 0, .bool false, .int .i64 0, .string .empty, .string .empty, .int .i64 0, .int .i64 0, .slice none 0 0, .slice none 0 0], .agg #[.int .i64 0, .int .i64 0, .int .i64 0, .bool false, .int .i64 0, .string .empty, .string .empty, .int .i64 0, .int .i64 0, .slice none 0 0, .slice none 0 0]] 8 (World.laidAll_os _ _ _) (World.shaped_of_ZipB (by kernel_rfl) (by kernel_rfl)) (by kernel_rfl) (by kernel_rfl) (by kernel_rfl) (door_met os _)) ?_
  intro W base args ds gs before hval0 hW hcnd hsz0 hX _
  have hG : GR (allOf W) := by rw [plainL] at hX; obtain ⟨_, hv, _⟩ := hX; exact gr_of hv
  have hval : ∀ (j : Nat) t v, Tryd.f3.params[j]? = some t → args[j]? = some v → Value.okWide Tryd.prog W .any base t v := hval0
  have hW' := hW
  obtain ⟨p, q, hA0, hV, rfl, hfz, hnd⟩ := hW
  have hA : DataW.TrodAll enc Tryd.prog W 0 (fun _ => true) true Tryd.f3.params.toList args.toList ds p := hA0
  have hsz : (DataW.weightsEach Tryd.prog (Tryd.f3.params.toList ++ Rows.taleOneSpec.plain.varTypes Tryd.prog) (ds ++ gs)).all (· ≤ reachBytes) = true := hsz0
  clear hsz0
  rw [Tryd.params3] at hA hval hsz
  obtain ⟨v0, vs0, d0, ds0, p0, q0, hargs, rfl, rfl, h0, r0⟩ := trodAll_cons hA
  obtain ⟨v1, vs1, d1, ds1, p1, q1, rfl, rfl, rfl, h1, r1⟩ := trodAll_cons r0
  obtain ⟨rfl, rfl, rfl⟩ := trodAll_nil r1
  obtain rfl : args = #[v0, v1] := by cases args; simp_all
  obtain ⟨rfl, rfl⟩ := trodVars_none hV
  have lt0 : ∀ x ∈ p0, x.block < W.heap.size := by obtain ⟨m, hm⟩ := h0; exact DataW.trod_lt m _ _ _ hm
  have lt1 : ∀ x ∈ p1, x.block < W.heap.size := by obtain ⟨m, hm⟩ := h1; exact DataW.trod_lt m _ _ _ hm
  refine (taleOne_walk enc base v0 v1 W (hval 0 26 v0 rfl rfl) ⟨_, _, h0, Small.arg hsz (j := 0) rfl rfl⟩ (hval 1 26 v1 rfl rfl) ⟨_, _, h1, Small.arg hsz (j := 1) rfl rfl⟩ hG).mono fun e W' ⟨he, bel⟩ => ?_
  subst he
  exact ⟨_, rfl, _, _, _, [], _, [], hW', trodAll_mk1 (shut_bool Tryd.underlying4 _), (trodAll_cons_mk (Below.trod laidOut (by kernel_rfl) (of_decide_eq_true (by kernel_rfl)) h0 bel lt0) (trodAll_cons_mk (Below.trod laidOut (by kernel_rfl) (of_decide_eq_true (by kernel_rfl)) h1 bel lt1) trodAll_mk0)), rfl, bel.frame _, fun h => by cases h⟩

end Go.Proofs.YtcpjdfihpdjkbaaDoor.taleOne




namespace Go.Proofs.YtcpjdfihpdjkbaaDoor.taleOne
open Go.ChangeShapes Go.WideShapes Go.ChangeAt Go.RowKit
set_option linter.unusedVariables false

theorem and2 {a b : Bool} (h1 : a = true) (h2 : b = true) : (a && b) = true := by rw [h1, h2]; rfl
theorem c0 : (fun (P : Program) (f : FuncId) (fn : Func) (s : ChangeSpec) (c : OpenClaim) => (c.wf (OpenSpec.ofChange s) : Bool)) Tryd.pinned.checked.prog 3 Tryd.f3 Rows.taleOneSpec Rows.taleOneRow = true := by kernel_rfl
theorem c1 : (fun (P : Program) (f : FuncId) (fn : Func) (s : ChangeSpec) (c : OpenClaim) => (laidOutB P : Bool)) Tryd.pinned.checked.prog 3 Tryd.f3 Rows.taleOneSpec Rows.taleOneRow = true := by kernel_rfl
theorem c2 : (fun (P : Program) (f : FuncId) (fn : Func) (s : ChangeSpec) (c : OpenClaim) => (mapsRowed P : Bool)) Tryd.pinned.checked.prog 3 Tryd.f3 Rows.taleOneSpec Rows.taleOneRow = true := by kernel_rfl
theorem c3 : (fun (P : Program) (f : FuncId) (fn : Func) (s : ChangeSpec) (c : OpenClaim) => (fn.params.all (P.readableRec ·) : Bool)) Tryd.pinned.checked.prog 3 Tryd.f3 Rows.taleOneSpec Rows.taleOneRow = true := by kernel_rfl
theorem c4 : (fun (P : Program) (f : FuncId) (fn : Func) (s : ChangeSpec) (c : OpenClaim) => (namedTie P c.named s.vars : Bool)) Tryd.pinned.checked.prog 3 Tryd.f3 Rows.taleOneSpec Rows.taleOneRow = true := by kernel_rfl
theorem c5 : (fun (P : Program) (f : FuncId) (fn : Func) (s : ChangeSpec) (c : OpenClaim) => ((c.stops == []) : Bool)) Tryd.pinned.checked.prog 3 Tryd.f3 Rows.taleOneSpec Rows.taleOneRow = true := by kernel_rfl
theorem c6 : (fun (P : Program) (f : FuncId) (fn : Func) (s : ChangeSpec) (c : OpenClaim) => ((P.stops == []) : Bool)) Tryd.pinned.checked.prog 3 Tryd.f3 Rows.taleOneSpec Rows.taleOneRow = true := by kernel_rfl
theorem c7 : (fun (P : Program) (f : FuncId) (fn : Func) (s : ChangeSpec) (c : OpenClaim) => ((c.knobs == []) : Bool)) Tryd.pinned.checked.prog 3 Tryd.f3 Rows.taleOneSpec Rows.taleOneRow = true := by kernel_rfl
theorem c8 : (fun (P : Program) (f : FuncId) (fn : Func) (s : ChangeSpec) (c : OpenClaim) => ((P.stopKnobs == []) : Bool)) Tryd.pinned.checked.prog 3 Tryd.f3 Rows.taleOneSpec Rows.taleOneRow = true := by kernel_rfl
theorem c9 : (fun (P : Program) (f : FuncId) (fn : Func) (s : ChangeSpec) (c : OpenClaim) => ((c.inPlace == P.inPlace f) : Bool)) Tryd.pinned.checked.prog 3 Tryd.f3 Rows.taleOneSpec Rows.taleOneRow = true := by kernel_rfl
theorem c10 : (fun (P : Program) (f : FuncId) (fn : Func) (s : ChangeSpec) (c : OpenClaim) => ((c.unfollowed == P.unfollowed f) : Bool)) Tryd.pinned.checked.prog 3 Tryd.f3 Rows.taleOneSpec Rows.taleOneRow = true := by kernel_rfl
theorem c11 : (fun (P : Program) (f : FuncId) (fn : Func) (s : ChangeSpec) (c : OpenClaim) => ((c.recurses == P.recurses f) : Bool)) Tryd.pinned.checked.prog 3 Tryd.f3 Rows.taleOneSpec Rows.taleOneRow = true := by kernel_rfl
theorem c12 : (fun (P : Program) (f : FuncId) (fn : Func) (s : ChangeSpec) (c : OpenClaim) => ((c.named == P.varsNamed f) : Bool)) Tryd.pinned.checked.prog 3 Tryd.f3 Rows.taleOneSpec Rows.taleOneRow = true := by kernel_rfl
theorem c13 : (fun (P : Program) (f : FuncId) (fn : Func) (s : ChangeSpec) (c : OpenClaim) => ((c.maps == (fn.params.toList ++ s.plain.varTypes P).any (P.mapsRec ·)) : Bool)) Tryd.pinned.checked.prog 3 Tryd.f3 Rows.taleOneSpec Rows.taleOneRow = true := by kernel_rfl
theorem c14 : (fun (P : Program) (f : FuncId) (fn : Func) (s : ChangeSpec) (c : OpenClaim) => ((c.ifaces == (fn.params.toList ++ s.plain.varTypes P).any (P.ifacesRec ·)) : Bool)) Tryd.pinned.checked.prog 3 Tryd.f3 Rows.taleOneSpec Rows.taleOneRow = true := by kernel_rfl
theorem c15 : (fun (P : Program) (f : FuncId) (fn : Func) (s : ChangeSpec) (c : OpenClaim) => ((c.mapsOut == P.mapsAmong fn.resultTypes.toList) : Bool)) Tryd.pinned.checked.prog 3 Tryd.f3 Rows.taleOneSpec Rows.taleOneRow = true := by kernel_rfl
theorem c16 : (fun (P : Program) (f : FuncId) (fn : Func) (s : ChangeSpec) (c : OpenClaim) => ((c.loops == (fn.params.toList ++ s.plain.varTypes P).any (P.loopsFrom ·)) : Bool)) Tryd.pinned.checked.prog 3 Tryd.f3 Rows.taleOneSpec Rows.taleOneRow = true := by kernel_rfl
theorem c17 : (fun (P : Program) (f : FuncId) (fn : Func) (s : ChangeSpec) (c : OpenClaim) => ((c.wideKeys == (fn.params.toList ++ s.plain.varTypes P ++ fn.resultTypes.toList).any (P.wideKeysFrom ·)) : Bool)) Tryd.pinned.checked.prog 3 Tryd.f3 Rows.taleOneSpec Rows.taleOneRow = true := by kernel_rfl
theorem c18 : (fun (P : Program) (f : FuncId) (fn : Func) (s : ChangeSpec) (c : OpenClaim) => (s.vars.all (P.varReadable ·) : Bool)) Tryd.pinned.checked.prog 3 Tryd.f3 Rows.taleOneSpec Rows.taleOneRow = true := by kernel_rfl
theorem c19 : (fun (P : Program) (f : FuncId) (fn : Func) (s : ChangeSpec) (c : OpenClaim) => (fn.resultTypes.all (fun t => P.readableRec t && decide (t < P.types.size)) : Bool)) Tryd.pinned.checked.prog 3 Tryd.f3 Rows.taleOneSpec Rows.taleOneRow = true := by kernel_rfl
theorem c20 : (fun (P : Program) (f : FuncId) (fn : Func) (s : ChangeSpec) (c : OpenClaim) => ((c.ifacesOut == fn.resultTypes.toList.any (P.ifacesRec ·)) : Bool)) Tryd.pinned.checked.prog 3 Tryd.f3 Rows.taleOneSpec Rows.taleOneRow = true := by kernel_rfl
theorem c21 : (fun (P : Program) (f : FuncId) (fn : Func) (s : ChangeSpec) (c : OpenClaim) => ((c.loopsOut == fn.resultTypes.toList.any (P.loopsFrom ·)) : Bool)) Tryd.pinned.checked.prog 3 Tryd.f3 Rows.taleOneSpec Rows.taleOneRow = true := by kernel_rfl
theorem c22 : (fun (P : Program) (f : FuncId) (fn : Func) (s : ChangeSpec) (c : OpenClaim) => ((c.plainKeys == P.plainKeys) : Bool)) Tryd.pinned.checked.prog 3 Tryd.f3 Rows.taleOneSpec Rows.taleOneRow = true := by kernel_rfl
theorem c23 : (fun (P : Program) (f : FuncId) (fn : Func) (s : ChangeSpec) (c : OpenClaim) => (c.shortTexts.isNone : Bool)) Tryd.pinned.checked.prog 3 Tryd.f3 Rows.taleOneSpec Rows.taleOneRow = true := by kernel_rfl
theorem c24 : (fun (P : Program) (f : FuncId) (fn : Func) (s : ChangeSpec) (c : OpenClaim) => (P.stopsHeard : Bool)) Tryd.pinned.checked.prog 3 Tryd.f3 Rows.taleOneSpec Rows.taleOneRow = true := by kernel_rfl
theorem c25 : (fun (P : Program) (f : FuncId) (fn : Func) (s : ChangeSpec) (c : OpenClaim) => (P.mayEnter : Bool)) Tryd.pinned.checked.prog 3 Tryd.f3 Rows.taleOneSpec Rows.taleOneRow = true := by kernel_rfl
theorem c26 : (fun (P : Program) (f : FuncId) (fn : Func) (s : ChangeSpec) (c : OpenClaim) => ((c.lifted == P.liftsFinal) : Bool)) Tryd.pinned.checked.prog 3 Tryd.f3 Rows.taleOneSpec Rows.taleOneRow = true := by kernel_rfl
theorem c27 : (fun (P : Program) (f : FuncId) (fn : Func) (s : ChangeSpec) (c : OpenClaim) => ((P.make == some c.make) : Bool)) Tryd.pinned.checked.prog 3 Tryd.f3 Rows.taleOneSpec Rows.taleOneRow = true := by kernel_rfl
theorem c28 : (fun (P : Program) (f : FuncId) (fn : Func) (s : ChangeSpec) (c : OpenClaim) => ((c.kinds == (if c.domain.isEmpty then [] else fn.params.toList.map fun t => match P.underlying t with | some (.int k) => some k | _ => none)) : Bool)) Tryd.pinned.checked.prog 3 Tryd.f3 Rows.taleOneSpec Rows.taleOneRow = true := by kernel_rfl
theorem c29 : (fun (P : Program) (f : FuncId) (fn : Func) (s : ChangeSpec) (c : OpenClaim) => ((c.pinned == c.pinnedBy) : Bool)) Tryd.pinned.checked.prog 3 Tryd.f3 Rows.taleOneSpec Rows.taleOneRow = true := by kernel_rfl
theorem c30 : (fun (P : Program) (f : FuncId) (fn : Func) (s : ChangeSpec) (c : OpenClaim) => ((c.veiled == (fn.params.toList ++ s.plain.varTypes P ++ fn.resultTypes.toList).any (P.veiledRec ·)) : Bool)) Tryd.pinned.checked.prog 3 Tryd.f3 Rows.taleOneSpec Rows.taleOneRow = true := by kernel_rfl
theorem c31 : (fun (P : Program) (f : FuncId) (fn : Func) (s : ChangeSpec) (c : OpenClaim) => (c.veiledFits P fn.params.toList (fn.params.toList ++ s.plain.varTypes P ++ fn.resultTypes.toList) : Bool)) Tryd.pinned.checked.prog 3 Tryd.f3 Rows.taleOneSpec Rows.taleOneRow = true := by kernel_rfl
theorem inst : Tryd.f3.isInstance Tryd.pinned.checked.prog Rows.taleOneRow.origin Rows.taleOneRow.targs := (of_decide_eq_true (by kernel_rfl))
theorem wrap : Tryd.f3.isWrapper Tryd.pinned.checked.prog Rows.taleOneRow.wrapper Rows.taleOneRow.mainSum := by unfold Func.isWrapper; first | (rw [if_pos (by decide +kernel)]; kernel_rfl) | (rw [if_neg (by decide +kernel)]; exact ⟨rfl, rfl⟩)
theorem nmd : Tryd.pinned.checked.prog.funcNamed Rows.taleOneRow.func = some 3 := by kernel_rfl
end Go.Proofs.YtcpjdfihpdjkbaaDoor.taleOne




namespace Go.Proofs.YtcpjdfihpdjkbaaDoor.taleOne
open Go.ChangeShapes Go.WideShapes Go.ChangeAt Go.RowKit
set_option linter.unusedVariables false

set_option maxRecDepth 100000 in
theorem closed : joinedFacts Tryd.pinned.checked.prog 3 Tryd.f3 Rows.taleOneSpec Rows.taleOneRow = true := (and2 (and2 (and2 (and2 (and2 (and2 (and2 (and2 (and2 (and2 (and2 (and2 (and2 (and2 (and2 (and2 (and2 (and2 (and2 (and2 (and2 (and2 (and2 (and2 (and2 (and2 (and2 (and2 (and2 (and2 (and2 c0 c1) c2) c3) c4) c5) c6) c7) c8) c9) c10) c11) c12) c13) c14) c15) c16) c17) c18) c19) c20) c21) c22) c23) c24) c25) c26) c27) c28) c29) c30) c31)
theorem over : Rows.taleOneRow.holds Tryd.pinned (OpenSpec.ofChange Rows.taleOneSpec) :=
  OpenClaim.holds_of_wide 3 Tryd.f3 rfl rfl rfl rfl rfl rfl rfl ⟨rfl, rfl, rfl, rfl, rfl⟩ rfl rfl rfl rfl rfl nmd Tryd.func3 closed inst wrap (fun os started H enc _ => lifted os started H enc)
end Go.Proofs.YtcpjdfihpdjkbaaDoor.taleOne


