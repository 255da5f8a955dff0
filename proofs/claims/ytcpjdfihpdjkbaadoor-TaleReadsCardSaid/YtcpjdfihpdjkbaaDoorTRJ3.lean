/- Texts of this claim, joined. No condition. -/
import Derived.Test.YtcpjdfihpdjkbaaDoorTRJ1
import Derived.Test.YtcpjdfihpdjkbaaDoorTRJ2
import Derived.KernelRfl
import Derived.OpenShut
import Derived.Test.YtcpjdfihpdjkbaaDoorRows
import Derived.ProofKit
import Derived.ShutString
import Derived.ChangeOld
import Derived.Below
import Derived.SizedLaws
import Derived.Lay
import Derived.LaidMore
import Derived.Test.YtcpjdfihpdjkbaaDoorTie
import Derived.Test.YtcpjdfihpdjkbaaDoorCards
import Derived.SevenTiedAt
set_option linter.unusedSimpArgs false
set_option linter.unusedVariables false

namespace Go.Proofs.YtcpjdfihpdjkbaaDoor.RX
set_option maxRecDepth 100000
-- tideline/tidelineref22.Hex: ρ := [.a ba, .n bl, .n bc, .p bP]
def t_rHex : T :=
(.new
(.loop [.a, .n, .n, .i, .p] [.a (.b (.v 4) 0), .e (.o2 .nadd (.n 0) (.n 0)), .e (.o2 .nadd (.n 0) (.n 0)), .e (.o1 .neg (.o1 .neg (.i 0))), .p [(.b (.v 4), .cells [] 5)]]
(.br (.o2 .lt (.v 8) (.o1 .ofNat (.v 1)))
(.need (.o2 .le (.i 0) (.v 8))
(.need (.o1 .isSome (.v 0))
(.read (.load 5 (.tmp 15)) 5 [(15, .w (.a (.eptr 0 (.v 8) 1 0)))] [(.a 0, .prop 3)] [.i] (.w (.a (.int .u8 (.v 10))))
(.need (.o1 (.inr .u8) (.o2 .quo (.v 10) (.i 16)))
(.read (.index 9 (.const (.string ⟨#[48, 49, 50, 51, 52, 53, 54, 55, 56, 57, 97, 98, 99, 100, 101, 102]⟩)) (.tmp 17)) 5 [(17, .w (.a (.int .u8 (.o2 .quo (.v 10) (.i 16)))))] [] [.i] (.w (.a (.int .u8 (.v 11))))
(.read (.load 5 (.tmp 21)) 5 [(21, .w (.a (.eptr 0 (.v 8) 1 0)))] [(.a 0, .prop 3)] [.i] (.w (.a (.int .u8 (.v 12))))
(.read (.index 9 (.const (.string ⟨#[48, 49, 50, 51, 52, 53, 54, 55, 56, 57, 97, 98, 99, 100, 101, 102]⟩)) (.tmp 23)) 5 [(23, .w (.a (.int .u8 (.o2 .rem (.v 12) (.i 16)))))] [] [.i] (.w (.a (.int .u8 (.v 13))))
(.new
(.op (.call ⟨.builtin .append, #[.tmp 12, .tmp 25], #[22, 22]⟩) 22 [(12, .w (.a (.sl (.v 5) (.v 6) (.v 7)))), (25, .w (.a (.sl (.b (.v 14) 0) (.n 2) (.n 2))))] [(.a 5, .prop 9), (.b (.v 14), .cells [.int .u8 (.v 11), .int .u8 (.v 13)] 5)] [.a, .n, .n, .p] (.w (.a (.sl (.v 15) (.v 16) (.v 17)))) [(.a 15, .prop 18), (.b (.v 14), .cells [.int .u8 (.v 11), .int .u8 (.v 13)] 5)]
(.need (.o1 (.inr .i64) (.o2 .add (.v 8) (.i 1)))
(.again 0 [.a (.v 15), .e (.o2 .nadd (.v 16) (.n 0)), .e (.o2 .nadd (.v 17) (.n 0)), .e (.o1 .neg (.o1 .neg (.o2 .add (.v 8) (.i 1)))), .p [(.a 15, .prop 18)]])))))))))))
(.br (.o2 .eq (.o1 .ofNat (.v 6)) (.i 0))
(.ret (.w (.a (.str (.s [45])))) [(.a 0, .prop 3)])
(.read (.convert 22 9 (.tmp 30)) 9 [(30, .w (.a (.sl (.v 5) (.v 6) (.v 7))))] [(.a 5, .prop 9)] [.s] (.w (.a (.str (.v 10))))
(.ret (.w (.a (.str (.v 10)))) [(.a 0, .prop 3)]))))))
theorem tree_rHex : tree Tryd.prog { hv := [(0, [.b (.v 4)])], keep := [8, 17, 16, 11, 99999, 14, 29, 6, 5, 7, 99999], outl := true, opn := true, rdf := true } Tryd.f17 [.a (.sl (.v 0) (.v 1) (.v 2))] [(.a 0, .prop 3)] 4 = t_rHex := by kernel_rfl
def t_rInt : T :=
(.br (.o2 .lt (.v 0) (.i 0))
(.need (.o1 (.inr .i64) (.o2 .add (.v 0) (.i 1)))
(.need (.o1 (.inr .i64) (.o2 .sub (.i 0) (.o2 .add (.v 0) (.i 1))))
(.loop [.s, .i, .i] [.e (.o2 .cat (.s []) (.s [])), .e (.o1 .neg (.o1 .neg (.o1 (.wrap .u64) (.o2 .add (.o1 (.wrap .u64) (.o2 .sub (.i 0) (.o2 .add (.v 0) (.i 1)))) (.i 1))))), .e (.o1 .neg (.o1 .neg (.i 0)))]
(.br (.o2 .lt (.v 3) (.i 20))
(.br (.o2 .lt (.i 0) (.v 2))
(.read (.slice 9 (.const (.string ⟨#[48, 49, 50, 51, 52, 53, 54, 55, 56, 57]⟩)) (some (.tmp 28)) (some (.tmp 31)) none) 9 [(28, .w (.a (.int .u64 (.o2 .rem (.v 2) (.i 10))))), (31, .w (.a (.int .u64 (.o1 (.wrap .u64) (.o2 .add (.o2 .rem (.v 2) (.i 10)) (.i 1))))))] [] [.s] (.w (.a (.str (.v 4))))
(.need (.o2 .le (.o1 .ofNat (.o2 .nadd (.o1 .size (.v 4)) (.o1 .size (.v 1)))) (.i 9223372036854775807))
(.need (.o1 (.inr .u64) (.o2 .quo (.v 2) (.i 10)))
(.need (.o1 (.inr .i64) (.o2 .add (.v 3) (.i 1)))
(.again 0 [.e (.o2 .cat (.o2 .cat (.v 4) (.v 1)) (.s [])), .e (.o1 .neg (.o1 .neg (.o2 .quo (.v 2) (.i 10)))), .e (.o1 .neg (.o1 .neg (.o2 .add (.v 3) (.i 1))))])))))
(.br (.o2 .eq (.v 3) (.i 0))
(.read (.slice 9 (.const (.string ⟨#[48, 49, 50, 51, 52, 53, 54, 55, 56, 57]⟩)) (some (.tmp 28)) (some (.tmp 31)) none) 9 [(28, .w (.a (.int .u64 (.o2 .rem (.v 2) (.i 10))))), (31, .w (.a (.int .u64 (.o1 (.wrap .u64) (.o2 .add (.o2 .rem (.v 2) (.i 10)) (.i 1))))))] [] [.s] (.w (.a (.str (.v 4))))
(.need (.o2 .le (.o1 .ofNat (.o2 .nadd (.o1 .size (.v 4)) (.o1 .size (.v 1)))) (.i 9223372036854775807))
(.need (.o1 (.inr .u64) (.o2 .quo (.v 2) (.i 10)))
(.need (.o1 (.inr .i64) (.o2 .add (.v 3) (.i 1)))
(.again 0 [.e (.o2 .cat (.o2 .cat (.v 4) (.v 1)) (.s [])), .e (.o1 .neg (.o1 .neg (.o2 .quo (.v 2) (.i 10)))), .e (.o1 .neg (.o1 .neg (.o2 .add (.v 3) (.i 1))))])))))
(.need (.o2 .le (.o1 .ofNat (.o2 .nadd (.o1 .size (.s [45])) (.o1 .size (.v 1)))) (.i 9223372036854775807))
(.ret (.w (.a (.str (.o2 .cat (.s [45]) (.v 1))))) []))))
(.need (.o2 .le (.o1 .ofNat (.o2 .nadd (.o1 .size (.s [45])) (.o1 .size (.v 1)))) (.i 9223372036854775807))
(.ret (.w (.a (.str (.o2 .cat (.s [45]) (.v 1))))) []))))))
(.loop [.s, .i, .i] [.e (.o2 .cat (.s []) (.s [])), .e (.o1 .neg (.o1 .neg (.o1 (.wrap .u64) (.v 0)))), .e (.o1 .neg (.o1 .neg (.i 0)))]
(.br (.o2 .lt (.v 3) (.i 20))
(.br (.o2 .lt (.i 0) (.v 2))
(.read (.slice 9 (.const (.string ⟨#[48, 49, 50, 51, 52, 53, 54, 55, 56, 57]⟩)) (some (.tmp 28)) (some (.tmp 31)) none) 9 [(28, .w (.a (.int .u64 (.o2 .rem (.v 2) (.i 10))))), (31, .w (.a (.int .u64 (.o1 (.wrap .u64) (.o2 .add (.o2 .rem (.v 2) (.i 10)) (.i 1))))))] [] [.s] (.w (.a (.str (.v 4))))
(.need (.o2 .le (.o1 .ofNat (.o2 .nadd (.o1 .size (.v 4)) (.o1 .size (.v 1)))) (.i 9223372036854775807))
(.need (.o1 (.inr .u64) (.o2 .quo (.v 2) (.i 10)))
(.need (.o1 (.inr .i64) (.o2 .add (.v 3) (.i 1)))
(.again 0 [.e (.o2 .cat (.o2 .cat (.v 4) (.v 1)) (.s [])), .e (.o1 .neg (.o1 .neg (.o2 .quo (.v 2) (.i 10)))), .e (.o1 .neg (.o1 .neg (.o2 .add (.v 3) (.i 1))))])))))
(.br (.o2 .eq (.v 3) (.i 0))
(.read (.slice 9 (.const (.string ⟨#[48, 49, 50, 51, 52, 53, 54, 55, 56, 57]⟩)) (some (.tmp 28)) (some (.tmp 31)) none) 9 [(28, .w (.a (.int .u64 (.o2 .rem (.v 2) (.i 10))))), (31, .w (.a (.int .u64 (.o1 (.wrap .u64) (.o2 .add (.o2 .rem (.v 2) (.i 10)) (.i 1))))))] [] [.s] (.w (.a (.str (.v 4))))
(.need (.o2 .le (.o1 .ofNat (.o2 .nadd (.o1 .size (.v 4)) (.o1 .size (.v 1)))) (.i 9223372036854775807))
(.need (.o1 (.inr .u64) (.o2 .quo (.v 2) (.i 10)))
(.need (.o1 (.inr .i64) (.o2 .add (.v 3) (.i 1)))
(.again 0 [.e (.o2 .cat (.o2 .cat (.v 4) (.v 1)) (.s [])), .e (.o1 .neg (.o1 .neg (.o2 .quo (.v 2) (.i 10)))), .e (.o1 .neg (.o1 .neg (.o2 .add (.v 3) (.i 1))))])))))
(.ret (.w (.a (.str (.v 1)))) [])))
(.ret (.w (.a (.str (.v 1)))) []))))
theorem tree_rInt : tree Tryd.prog { keep := [8, 17, 16, 11, 99999, 14, 29, 6, 5, 7, 99999], outl := true, opn := true, rdf := true } Tryd.f16 [.a (.int .i64 (.v 0))] [] 1 = t_rInt := by kernel_rfl
def t_rLine : T :=
(.new
(.new
(.br (.o2 .lt (.v 0) (.i 1))
(.ret (.w (.a (.str (.s [63])))) [(.a 9, .prop 12), (.a 13, .prop 16)])
(.br (.o2 .lt (.i 8) (.v 0))
(.ret (.w (.a (.str (.s [63])))) [(.a 9, .prop 12), (.a 13, .prop 16)])
(.need (.o1 (.inr .i64) (.o2 .sub (.v 0) (.i 1)))
(.read (.indexAddr 40 (.tmp 15) (.tmp 18)) 0 [(15, .w (.a (.sl (.b (.v 18) 0) (.n 8) (.n 8)))), (18, .w (.a (.int .i64 (.o2 .sub (.v 0) (.i 1)))))] [(.b (.v 18), .cells [.str (.s [99, 97, 108, 108]), .str (.s [115, 110, 97, 112]), .str (.s [116, 114, 105, 109]), .str (.s [103, 105, 118, 101, 117, 112]), .str (.s [116, 105, 99, 107]), .str (.s [100, 101, 108, 105, 118, 101, 114]), .str (.s [100, 114, 111, 112]), .str (.s [99, 114, 97, 115, 104])] 9)] [.v] (.w (.a (.val 19)))
(.read (.load 9 (.tmp 19)) 9 [(19, .w (.a (.val 19)))] [(.b (.v 18), .cells [.str (.s [99, 97, 108, 108]), .str (.s [115, 110, 97, 112]), .str (.s [116, 114, 105, 109]), .str (.s [103, 105, 118, 101, 117, 112]), .str (.s [116, 105, 99, 107]), .str (.s [100, 101, 108, 105, 118, 101, 114]), .str (.s [100, 114, 111, 112]), .str (.s [99, 114, 97, 115, 104])] 9)] [.s] (.w (.a (.str (.v 20))))
(.br (.o2 .eq (.v 0) (.i 1))
(.new
(.join [.s]
(.need (.o2 .le (.o1 .ofNat (.o2 .nadd (.o1 .size (.v 20)) (.o1 .size (.s [32])))) (.i 9223372036854775807))
    (.all
(.call 16 [.a (.int .i64 (.v 1))] [] [.s] (.w (.a (.str (.v 22)))) []
(.need (.o2 .le (.o1 .ofNat (.o2 .nadd (.o1 .size (.o2 .cat (.v 20) (.s [32]))) (.o1 .size (.v 22)))) (.i 9223372036854775807))
(.need (.o2 .le (.o1 .ofNat (.o2 .nadd (.o1 .size (.o2 .cat (.o2 .cat (.v 20) (.s [32])) (.v 22))) (.o1 .size (.s [32])))) (.i 9223372036854775807))
     (.all
(.call 16 [.a (.int .i64 (.v 4))] [] [.s] (.w (.a (.str (.v 23)))) []
(.need (.o2 .le (.o1 .ofNat (.o2 .nadd (.o1 .size (.o2 .cat (.o2 .cat (.o2 .cat (.v 20) (.s [32])) (.v 22)) (.s [32]))) (.o1 .size (.v 23)))) (.i 9223372036854775807))
(.need (.o2 .le (.o1 .ofNat (.o2 .nadd (.o1 .size (.o2 .cat (.o2 .cat (.o2 .cat (.o2 .cat (.v 20) (.s [32])) (.v 22)) (.s [32])) (.v 23))) (.o1 .size (.s [32])))) (.i 9223372036854775807))
      (.all
(.op (.convert 9 22 (.tmp 40)) 22 [(40, .w (.a (.str (.v 5))))] [] [.a, .n, .n, .p] (.w (.a (.sl (.v 24) (.v 25) (.v 26)))) [(.a 24, .prop 27)]
       (.all
(.call 17 [.a (.sl (.v 24) (.v 25) (.v 26))] [(.a 24, .prop 27)] [.s] (.w (.a (.str (.v 28)))) [(.a 24, .prop 27)]
(.need (.o2 .le (.o1 .ofNat (.o2 .nadd (.o1 .size (.o2 .cat (.o2 .cat (.o2 .cat (.o2 .cat (.o2 .cat (.v 20) (.s [32])) (.v 22)) (.s [32])) (.v 23)) (.s [32]))) (.o1 .size (.v 28)))) (.i 9223372036854775807))
(.need (.o2 .le (.o1 .ofNat (.o2 .nadd (.o1 .size (.o2 .cat (.o2 .cat (.o2 .cat (.o2 .cat (.o2 .cat (.o2 .cat (.v 20) (.s [32])) (.v 22)) (.s [32])) (.v 23)) (.s [32])) (.v 28))) (.o1 .size (.s [32])))) (.i 9223372036854775807))
(.op (.convert 9 22 (.tmp 46)) 22 [(46, .w (.a (.str (.v 6))))] [] [.a, .n, .n, .p] (.w (.a (.sl (.v 29) (.v 30) (.v 31)))) [(.a 29, .prop 32)]
(.call 17 [.a (.sl (.v 29) (.v 30) (.v 31))] [(.a 29, .prop 32)] [.s] (.w (.a (.str (.v 33)))) [(.a 29, .prop 32)]
(.need (.o2 .le (.o1 .ofNat (.o2 .nadd (.o1 .size (.o2 .cat (.o2 .cat (.o2 .cat (.o2 .cat (.o2 .cat (.o2 .cat (.o2 .cat (.v 20) (.s [32])) (.v 22)) (.s [32])) (.v 23)) (.s [32])) (.v 28)) (.s [32]))) (.o1 .size (.v 33)))) (.i 9223372036854775807))
(.need (.o2 .le (.o1 .ofNat (.o2 .nadd (.o1 .size (.o2 .cat (.o2 .cat (.o2 .cat (.o2 .cat (.o2 .cat (.o2 .cat (.o2 .cat (.o2 .cat (.v 20) (.s [32])) (.v 22)) (.s [32])) (.v 23)) (.s [32])) (.v 28)) (.s [32])) (.v 33))) (.o1 .size (.s [32])))) (.i 9223372036854775807))
(.call 16 [.a (.int .i64 (.v 7))] [] [.s] (.w (.a (.str (.v 34)))) []
(.need (.o2 .le (.o1 .ofNat (.o2 .nadd (.o1 .size (.o2 .cat (.o2 .cat (.o2 .cat (.o2 .cat (.o2 .cat (.o2 .cat (.o2 .cat (.o2 .cat (.o2 .cat (.v 20) (.s [32])) (.v 22)) (.s [32])) (.v 23)) (.s [32])) (.v 28)) (.s [32])) (.v 33)) (.s [32]))) (.o1 .size (.v 34)))) (.i 9223372036854775807))
(.need (.o2 .le (.o1 .ofNat (.o2 .nadd (.o1 .size (.o2 .cat (.o2 .cat (.o2 .cat (.o2 .cat (.o2 .cat (.o2 .cat (.o2 .cat (.o2 .cat (.o2 .cat (.o2 .cat (.v 20) (.s [32])) (.v 22)) (.s [32])) (.v 23)) (.s [32])) (.v 28)) (.s [32])) (.v 33)) (.s [32])) (.v 34))) (.o1 .size (.s [32])))) (.i 9223372036854775807))
(.call 16 [.a (.int .i64 (.v 8))] [] [.s] (.w (.a (.str (.v 35)))) []
(.need (.o2 .le (.o1 .ofNat (.o2 .nadd (.o1 .size (.o2 .cat (.o2 .cat (.o2 .cat (.o2 .cat (.o2 .cat (.o2 .cat (.o2 .cat (.o2 .cat (.o2 .cat (.o2 .cat (.o2 .cat (.v 20) (.s [32])) (.v 22)) (.s [32])) (.v 23)) (.s [32])) (.v 28)) (.s [32])) (.v 33)) (.s [32])) (.v 34)) (.s [32]))) (.o1 .size (.v 35)))) (.i 9223372036854775807))
(.need (.o2 .le (.o1 .ofNat (.o2 .nadd (.o1 .size (.o2 .cat (.o2 .cat (.o2 .cat (.o2 .cat (.o2 .cat (.o2 .cat (.o2 .cat (.o2 .cat (.o2 .cat (.o2 .cat (.o2 .cat (.o2 .cat (.v 20) (.s [32])) (.v 22)) (.s [32])) (.v 23)) (.s [32])) (.v 28)) (.s [32])) (.v 33)) (.s [32])) (.v 34)) (.s [32])) (.v 35))) (.o1 .size (.s [32])))) (.i 9223372036854775807))
(.call 17 [.a (.sl (.v 9) (.v 10) (.v 11))] [(.a 9, .prop 12)] [.s] (.w (.a (.str (.v 36)))) [(.a 9, .prop 12)]
(.need (.o2 .le (.o1 .ofNat (.o2 .nadd (.o1 .size (.o2 .cat (.o2 .cat (.o2 .cat (.o2 .cat (.o2 .cat (.o2 .cat (.o2 .cat (.o2 .cat (.o2 .cat (.o2 .cat (.o2 .cat (.o2 .cat (.o2 .cat (.v 20) (.s [32])) (.v 22)) (.s [32])) (.v 23)) (.s [32])) (.v 28)) (.s [32])) (.v 33)) (.s [32])) (.v 34)) (.s [32])) (.v 35)) (.s [32]))) (.o1 .size (.v 36)))) (.i 9223372036854775807))
(.again 0 [.e (.o2 .cat (.o2 .cat (.o2 .cat (.o2 .cat (.o2 .cat (.o2 .cat (.o2 .cat (.o2 .cat (.o2 .cat (.o2 .cat (.o2 .cat (.o2 .cat (.o2 .cat (.o2 .cat (.o2 .cat (.v 20) (.s [32])) (.v 22)) (.s [32])) (.v 23)) (.s [32])) (.v 28)) (.s [32])) (.v 33)) (.s [32])) (.v 34)) (.s [32])) (.v 35)) (.s [32])) (.v 36)) (.s []))]))))))))))))))))
(.op (.convert 9 22 (.tmp 46)) 22 [(46, .w (.a (.str (.v 6))))] [] [.a, .n, .n, .p] (.w (.a (.sl (.v 28) (.v 29) (.v 30)))) [(.a 28, .prop 31)]
(.call 17 [.a (.sl (.v 24) (.v 25) (.v 26))] [(.a 24, .prop 27)] [.s] (.w (.a (.str (.v 32)))) [(.a 24, .prop 27)]
(.need (.o2 .le (.o1 .ofNat (.o2 .nadd (.o1 .size (.o2 .cat (.o2 .cat (.o2 .cat (.o2 .cat (.o2 .cat (.v 20) (.s [32])) (.v 22)) (.s [32])) (.v 23)) (.s [32]))) (.o1 .size (.v 32)))) (.i 9223372036854775807))
(.need (.o2 .le (.o1 .ofNat (.o2 .nadd (.o1 .size (.o2 .cat (.o2 .cat (.o2 .cat (.o2 .cat (.o2 .cat (.o2 .cat (.v 20) (.s [32])) (.v 22)) (.s [32])) (.v 23)) (.s [32])) (.v 32))) (.o1 .size (.s [32])))) (.i 9223372036854775807))
(.call 17 [.a (.sl (.v 28) (.v 29) (.v 30))] [(.a 28, .prop 31)] [.s] (.w (.a (.str (.v 33)))) [(.a 28, .prop 31)]
(.need (.o2 .le (.o1 .ofNat (.o2 .nadd (.o1 .size (.o2 .cat (.o2 .cat (.o2 .cat (.o2 .cat (.o2 .cat (.o2 .cat (.o2 .cat (.v 20) (.s [32])) (.v 22)) (.s [32])) (.v 23)) (.s [32])) (.v 32)) (.s [32]))) (.o1 .size (.v 33)))) (.i 9223372036854775807))
(.need (.o2 .le (.o1 .ofNat (.o2 .nadd (.o1 .size (.o2 .cat (.o2 .cat (.o2 .cat (.o2 .cat (.o2 .cat (.o2 .cat (.o2 .cat (.o2 .cat (.v 20) (.s [32])) (.v 22)) (.s [32])) (.v 23)) (.s [32])) (.v 32)) (.s [32])) (.v 33))) (.o1 .size (.s [32])))) (.i 9223372036854775807))
(.call 16 [.a (.int .i64 (.v 7))] [] [.s] (.w (.a (.str (.v 34)))) []
(.need (.o2 .le (.o1 .ofNat (.o2 .nadd (.o1 .size (.o2 .cat (.o2 .cat (.o2 .cat (.o2 .cat (.o2 .cat (.o2 .cat (.o2 .cat (.o2 .cat (.o2 .cat (.v 20) (.s [32])) (.v 22)) (.s [32])) (.v 23)) (.s [32])) (.v 32)) (.s [32])) (.v 33)) (.s [32]))) (.o1 .size (.v 34)))) (.i 9223372036854775807))
(.need (.o2 .le (.o1 .ofNat (.o2 .nadd (.o1 .size (.o2 .cat (.o2 .cat (.o2 .cat (.o2 .cat (.o2 .cat (.o2 .cat (.o2 .cat (.o2 .cat (.o2 .cat (.o2 .cat (.v 20) (.s [32])) (.v 22)) (.s [32])) (.v 23)) (.s [32])) (.v 32)) (.s [32])) (.v 33)) (.s [32])) (.v 34))) (.o1 .size (.s [32])))) (.i 9223372036854775807))
(.call 16 [.a (.int .i64 (.v 8))] [] [.s] (.w (.a (.str (.v 35)))) []
(.need (.o2 .le (.o1 .ofNat (.o2 .nadd (.o1 .size (.o2 .cat (.o2 .cat (.o2 .cat (.o2 .cat (.o2 .cat (.o2 .cat (.o2 .cat (.o2 .cat (.o2 .cat (.o2 .cat (.o2 .cat (.v 20) (.s [32])) (.v 22)) (.s [32])) (.v 23)) (.s [32])) (.v 32)) (.s [32])) (.v 33)) (.s [32])) (.v 34)) (.s [32]))) (.o1 .size (.v 35)))) (.i 9223372036854775807))
(.need (.o2 .le (.o1 .ofNat (.o2 .nadd (.o1 .size (.o2 .cat (.o2 .cat (.o2 .cat (.o2 .cat (.o2 .cat (.o2 .cat (.o2 .cat (.o2 .cat (.o2 .cat (.o2 .cat (.o2 .cat (.o2 .cat (.v 20) (.s [32])) (.v 22)) (.s [32])) (.v 23)) (.s [32])) (.v 32)) (.s [32])) (.v 33)) (.s [32])) (.v 34)) (.s [32])) (.v 35))) (.o1 .size (.s [32])))) (.i 9223372036854775807))
(.call 17 [.a (.sl (.v 9) (.v 10) (.v 11))] [(.a 9, .prop 12)] [.s] (.w (.a (.str (.v 36)))) [(.a 9, .prop 12)]
(.need (.o2 .le (.o1 .ofNat (.o2 .nadd (.o1 .size (.o2 .cat (.o2 .cat (.o2 .cat (.o2 .cat (.o2 .cat (.o2 .cat (.o2 .cat (.o2 .cat (.o2 .cat (.o2 .cat (.o2 .cat (.o2 .cat (.o2 .cat (.v 20) (.s [32])) (.v 22)) (.s [32])) (.v 23)) (.s [32])) (.v 32)) (.s [32])) (.v 33)) (.s [32])) (.v 34)) (.s [32])) (.v 35)) (.s [32]))) (.o1 .size (.v 36)))) (.i 9223372036854775807))
(.again 0 [.e (.o2 .cat (.o2 .cat (.o2 .cat (.o2 .cat (.o2 .cat (.o2 .cat (.o2 .cat (.o2 .cat (.o2 .cat (.o2 .cat (.o2 .cat (.o2 .cat (.o2 .cat (.o2 .cat (.o2 .cat (.v 20) (.s [32])) (.v 22)) (.s [32])) (.v 23)) (.s [32])) (.v 32)) (.s [32])) (.v 33)) (.s [32])) (.v 34)) (.s [32])) (.v 35)) (.s [32])) (.v 36)) (.s []))]))))))))))))))))))
(.op (.convert 9 22 (.tmp 46)) 22 [(46, .w (.a (.str (.v 6))))] [] [.a, .n, .n, .p] (.w (.a (.sl (.v 24) (.v 25) (.v 26)))) [(.a 24, .prop 27)]
(.op (.convert 9 22 (.tmp 40)) 22 [(40, .w (.a (.str (.v 5))))] [] [.a, .n, .n, .p] (.w (.a (.sl (.v 28) (.v 29) (.v 30)))) [(.a 28, .prop 31)]
(.call 17 [.a (.sl (.v 28) (.v 29) (.v 30))] [(.a 28, .prop 31)] [.s] (.w (.a (.str (.v 32)))) [(.a 28, .prop 31)]
(.need (.o2 .le (.o1 .ofNat (.o2 .nadd (.o1 .size (.o2 .cat (.o2 .cat (.o2 .cat (.o2 .cat (.o2 .cat (.v 20) (.s [32])) (.v 22)) (.s [32])) (.v 23)) (.s [32]))) (.o1 .size (.v 32)))) (.i 9223372036854775807))
(.need (.o2 .le (.o1 .ofNat (.o2 .nadd (.o1 .size (.o2 .cat (.o2 .cat (.o2 .cat (.o2 .cat (.o2 .cat (.o2 .cat (.v 20) (.s [32])) (.v 22)) (.s [32])) (.v 23)) (.s [32])) (.v 32))) (.o1 .size (.s [32])))) (.i 9223372036854775807))
(.call 17 [.a (.sl (.v 24) (.v 25) (.v 26))] [(.a 24, .prop 27)] [.s] (.w (.a (.str (.v 33)))) [(.a 24, .prop 27)]
(.need (.o2 .le (.o1 .ofNat (.o2 .nadd (.o1 .size (.o2 .cat (.o2 .cat (.o2 .cat (.o2 .cat (.o2 .cat (.o2 .cat (.o2 .cat (.v 20) (.s [32])) (.v 22)) (.s [32])) (.v 23)) (.s [32])) (.v 32)) (.s [32]))) (.o1 .size (.v 33)))) (.i 9223372036854775807))
(.need (.o2 .le (.o1 .ofNat (.o2 .nadd (.o1 .size (.o2 .cat (.o2 .cat (.o2 .cat (.o2 .cat (.o2 .cat (.o2 .cat (.o2 .cat (.o2 .cat (.v 20) (.s [32])) (.v 22)) (.s [32])) (.v 23)) (.s [32])) (.v 32)) (.s [32])) (.v 33))) (.o1 .size (.s [32])))) (.i 9223372036854775807))
(.call 16 [.a (.int .i64 (.v 7))] [] [.s] (.w (.a (.str (.v 34)))) []
(.need (.o2 .le (.o1 .ofNat (.o2 .nadd (.o1 .size (.o2 .cat (.o2 .cat (.o2 .cat (.o2 .cat (.o2 .cat (.o2 .cat (.o2 .cat (.o2 .cat (.o2 .cat (.v 20) (.s [32])) (.v 22)) (.s [32])) (.v 23)) (.s [32])) (.v 32)) (.s [32])) (.v 33)) (.s [32]))) (.o1 .size (.v 34)))) (.i 9223372036854775807))
(.need (.o2 .le (.o1 .ofNat (.o2 .nadd (.o1 .size (.o2 .cat (.o2 .cat (.o2 .cat (.o2 .cat (.o2 .cat (.o2 .cat (.o2 .cat (.o2 .cat (.o2 .cat (.o2 .cat (.v 20) (.s [32])) (.v 22)) (.s [32])) (.v 23)) (.s [32])) (.v 32)) (.s [32])) (.v 33)) (.s [32])) (.v 34))) (.o1 .size (.s [32])))) (.i 9223372036854775807))
(.call 16 [.a (.int .i64 (.v 8))] [] [.s] (.w (.a (.str (.v 35)))) []
(.need (.o2 .le (.o1 .ofNat (.o2 .nadd (.o1 .size (.o2 .cat (.o2 .cat (.o2 .cat (.o2 .cat (.o2 .cat (.o2 .cat (.o2 .cat (.o2 .cat (.o2 .cat (.o2 .cat (.o2 .cat (.v 20) (.s [32])) (.v 22)) (.s [32])) (.v 23)) (.s [32])) (.v 32)) (.s [32])) (.v 33)) (.s [32])) (.v 34)) (.s [32]))) (.o1 .size (.v 35)))) (.i 9223372036854775807))
(.need (.o2 .le (.o1 .ofNat (.o2 .nadd (.o1 .size (.o2 .cat (.o2 .cat (.o2 .cat (.o2 .cat (.o2 .cat (.o2 .cat (.o2 .cat (.o2 .cat (.o2 .cat (.o2 .cat (.o2 .cat (.o2 .cat (.v 20) (.s [32])) (.v 22)) (.s [32])) (.v 23)) (.s [32])) (.v 32)) (.s [32])) (.v 33)) (.s [32])) (.v 34)) (.s [32])) (.v 35))) (.o1 .size (.s [32])))) (.i 9223372036854775807))
(.call 17 [.a (.sl (.v 9) (.v 10) (.v 11))] [(.a 9, .prop 12)] [.s] (.w (.a (.str (.v 36)))) [(.a 9, .prop 12)]
(.need (.o2 .le (.o1 .ofNat (.o2 .nadd (.o1 .size (.o2 .cat (.o2 .cat (.o2 .cat (.o2 .cat (.o2 .cat (.o2 .cat (.o2 .cat (.o2 .cat (.o2 .cat (.o2 .cat (.o2 .cat (.o2 .cat (.o2 .cat (.v 20) (.s [32])) (.v 22)) (.s [32])) (.v 23)) (.s [32])) (.v 32)) (.s [32])) (.v 33)) (.s [32])) (.v 34)) (.s [32])) (.v 35)) (.s [32]))) (.o1 .size (.v 36)))) (.i 9223372036854775807))
(.again 0 [.e (.o2 .cat (.o2 .cat (.o2 .cat (.o2 .cat (.o2 .cat (.o2 .cat (.o2 .cat (.o2 .cat (.o2 .cat (.o2 .cat (.o2 .cat (.o2 .cat (.o2 .cat (.o2 .cat (.o2 .cat (.v 20) (.s [32])) (.v 22)) (.s [32])) (.v 23)) (.s [32])) (.v 32)) (.s [32])) (.v 33)) (.s [32])) (.v 34)) (.s [32])) (.v 35)) (.s [32])) (.v 36)) (.s []))])))))))))))))))))))))
      (.all
(.op (.convert 9 22 (.tmp 40)) 22 [(40, .w (.a (.str (.v 5))))] [] [.a, .n, .n, .p] (.w (.a (.sl (.v 23) (.v 24) (.v 25)))) [(.a 23, .prop 26)]
       (.all
(.call 16 [.a (.int .i64 (.v 4))] [] [.s] (.w (.a (.str (.v 27)))) []
(.need (.o2 .le (.o1 .ofNat (.o2 .nadd (.o1 .size (.o2 .cat (.o2 .cat (.o2 .cat (.v 20) (.s [32])) (.v 22)) (.s [32]))) (.o1 .size (.v 27)))) (.i 9223372036854775807))
(.need (.o2 .le (.o1 .ofNat (.o2 .nadd (.o1 .size (.o2 .cat (.o2 .cat (.o2 .cat (.o2 .cat (.v 20) (.s [32])) (.v 22)) (.s [32])) (.v 27))) (.o1 .size (.s [32])))) (.i 9223372036854775807))
        (.all
(.call 17 [.a (.sl (.v 23) (.v 24) (.v 25))] [(.a 23, .prop 26)] [.s] (.w (.a (.str (.v 28)))) [(.a 23, .prop 26)]
(.need (.o2 .le (.o1 .ofNat (.o2 .nadd (.o1 .size (.o2 .cat (.o2 .cat (.o2 .cat (.o2 .cat (.o2 .cat (.v 20) (.s [32])) (.v 22)) (.s [32])) (.v 27)) (.s [32]))) (.o1 .size (.v 28)))) (.i 9223372036854775807))
(.need (.o2 .le (.o1 .ofNat (.o2 .nadd (.o1 .size (.o2 .cat (.o2 .cat (.o2 .cat (.o2 .cat (.o2 .cat (.o2 .cat (.v 20) (.s [32])) (.v 22)) (.s [32])) (.v 27)) (.s [32])) (.v 28))) (.o1 .size (.s [32])))) (.i 9223372036854775807))
(.op (.convert 9 22 (.tmp 46)) 22 [(46, .w (.a (.str (.v 6))))] [] [.a, .n, .n, .p] (.w (.a (.sl (.v 29) (.v 30) (.v 31)))) [(.a 29, .prop 32)]
(.call 17 [.a (.sl (.v 29) (.v 30) (.v 31))] [(.a 29, .prop 32)] [.s] (.w (.a (.str (.v 33)))) [(.a 29, .prop 32)]
(.need (.o2 .le (.o1 .ofNat (.o2 .nadd (.o1 .size (.o2 .cat (.o2 .cat (.o2 .cat (.o2 .cat (.o2 .cat (.o2 .cat (.o2 .cat (.v 20) (.s [32])) (.v 22)) (.s [32])) (.v 27)) (.s [32])) (.v 28)) (.s [32]))) (.o1 .size (.v 33)))) (.i 9223372036854775807))
(.need (.o2 .le (.o1 .ofNat (.o2 .nadd (.o1 .size (.o2 .cat (.o2 .cat (.o2 .cat (.o2 .cat (.o2 .cat (.o2 .cat (.o2 .cat (.o2 .cat (.v 20) (.s [32])) (.v 22)) (.s [32])) (.v 27)) (.s [32])) (.v 28)) (.s [32])) (.v 33))) (.o1 .size (.s [32])))) (.i 9223372036854775807))
(.call 16 [.a (.int .i64 (.v 7))] [] [.s] (.w (.a (.str (.v 34)))) []
(.need (.o2 .le (.o1 .ofNat (.o2 .nadd (.o1 .size (.o2 .cat (.o2 .cat (.o2 .cat (.o2 .cat (.o2 .cat (.o2 .cat (.o2 .cat (.o2 .cat (.o2 .cat (.v 20) (.s [32])) (.v 22)) (.s [32])) (.v 27)) (.s [32])) (.v 28)) (.s [32])) (.v 33)) (.s [32]))) (.o1 .size (.v 34)))) (.i 9223372036854775807))
(.need (.o2 .le (.o1 .ofNat (.o2 .nadd (.o1 .size (.o2 .cat (.o2 .cat (.o2 .cat (.o2 .cat (.o2 .cat (.o2 .cat (.o2 .cat (.o2 .cat (.o2 .cat (.o2 .cat (.v 20) (.s [32])) (.v 22)) (.s [32])) (.v 27)) (.s [32])) (.v 28)) (.s [32])) (.v 33)) (.s [32])) (.v 34))) (.o1 .size (.s [32])))) (.i 9223372036854775807))
(.call 16 [.a (.int .i64 (.v 8))] [] [.s] (.w (.a (.str (.v 35)))) []
(.need (.o2 .le (.o1 .ofNat (.o2 .nadd (.o1 .size (.o2 .cat (.o2 .cat (.o2 .cat (.o2 .cat (.o2 .cat (.o2 .cat (.o2 .cat (.o2 .cat (.o2 .cat (.o2 .cat (.o2 .cat (.v 20) (.s [32])) (.v 22)) (.s [32])) (.v 27)) (.s [32])) (.v 28)) (.s [32])) (.v 33)) (.s [32])) (.v 34)) (.s [32]))) (.o1 .size (.v 35)))) (.i 9223372036854775807))
(.need (.o2 .le (.o1 .ofNat (.o2 .nadd (.o1 .size (.o2 .cat (.o2 .cat (.o2 .cat (.o2 .cat (.o2 .cat (.o2 .cat (.o2 .cat (.o2 .cat (.o2 .cat (.o2 .cat (.o2 .cat (.o2 .cat (.v 20) (.s [32])) (.v 22)) (.s [32])) (.v 27)) (.s [32])) (.v 28)) (.s [32])) (.v 33)) (.s [32])) (.v 34)) (.s [32])) (.v 35))) (.o1 .size (.s [32])))) (.i 9223372036854775807))
(.call 17 [.a (.sl (.v 9) (.v 10) (.v 11))] [(.a 9, .prop 12)] [.s] (.w (.a (.str (.v 36)))) [(.a 9, .prop 12)]
(.need (.o2 .le (.o1 .ofNat (.o2 .nadd (.o1 .size (.o2 .cat (.o2 .cat (.o2 .cat (.o2 .cat (.o2 .cat (.o2 .cat (.o2 .cat (.o2 .cat (.o2 .cat (.o2 .cat (.o2 .cat (.o2 .cat (.o2 .cat (.v 20) (.s [32])) (.v 22)) (.s [32])) (.v 27)) (.s [32])) (.v 28)) (.s [32])) (.v 33)) (.s [32])) (.v 34)) (.s [32])) (.v 35)) (.s [32]))) (.o1 .size (.v 36)))) (.i 9223372036854775807))
(.again 0 [.e (.o2 .cat (.o2 .cat (.o2 .cat (.o2 .cat (.o2 .cat (.o2 .cat (.o2 .cat (.o2 .cat (.o2 .cat (.o2 .cat (.o2 .cat (.o2 .cat (.o2 .cat (.o2 .cat (.o2 .cat (.v 20) (.s [32])) (.v 22)) (.s [32])) (.v 27)) (.s [32])) (.v 28)) (.s [32])) (.v 33)) (.s [32])) (.v 34)) (.s [32])) (.v 35)) (.s [32])) (.v 36)) (.s []))]))))))))))))))))
(.op (.convert 9 22 (.tmp 46)) 22 [(46, .w (.a (.str (.v 6))))] [] [.a, .n, .n, .p] (.w (.a (.sl (.v 28) (.v 29) (.v 30)))) [(.a 28, .prop 31)]
(.call 17 [.a (.sl (.v 23) (.v 24) (.v 25))] [(.a 23, .prop 26)] [.s] (.w (.a (.str (.v 32)))) [(.a 23, .prop 26)]
(.need (.o2 .le (.o1 .ofNat (.o2 .nadd (.o1 .size (.o2 .cat (.o2 .cat (.o2 .cat (.o2 .cat (.o2 .cat (.v 20) (.s [32])) (.v 22)) (.s [32])) (.v 27)) (.s [32]))) (.o1 .size (.v 32)))) (.i 9223372036854775807))
(.need (.o2 .le (.o1 .ofNat (.o2 .nadd (.o1 .size (.o2 .cat (.o2 .cat (.o2 .cat (.o2 .cat (.o2 .cat (.o2 .cat (.v 20) (.s [32])) (.v 22)) (.s [32])) (.v 27)) (.s [32])) (.v 32))) (.o1 .size (.s [32])))) (.i 9223372036854775807))
(.call 17 [.a (.sl (.v 28) (.v 29) (.v 30))] [(.a 28, .prop 31)] [.s] (.w (.a (.str (.v 33)))) [(.a 28, .prop 31)]
(.need (.o2 .le (.o1 .ofNat (.o2 .nadd (.o1 .size (.o2 .cat (.o2 .cat (.o2 .cat (.o2 .cat (.o2 .cat (.o2 .cat (.o2 .cat (.v 20) (.s [32])) (.v 22)) (.s [32])) (.v 27)) (.s [32])) (.v 32)) (.s [32]))) (.o1 .size (.v 33)))) (.i 9223372036854775807))
(.need (.o2 .le (.o1 .ofNat (.o2 .nadd (.o1 .size (.o2 .cat (.o2 .cat (.o2 .cat (.o2 .cat (.o2 .cat (.o2 .cat (.o2 .cat (.o2 .cat (.v 20) (.s [32])) (.v 22)) (.s [32])) (.v 27)) (.s [32])) (.v 32)) (.s [32])) (.v 33))) (.o1 .size (.s [32])))) (.i 9223372036854775807))
(.call 16 [.a (.int .i64 (.v 7))] [] [.s] (.w (.a (.str (.v 34)))) []
(.need (.o2 .le (.o1 .ofNat (.o2 .nadd (.o1 .size (.o2 .cat (.o2 .cat (.o2 .cat (.o2 .cat (.o2 .cat (.o2 .cat (.o2 .cat (.o2 .cat (.o2 .cat (.v 20) (.s [32])) (.v 22)) (.s [32])) (.v 27)) (.s [32])) (.v 32)) (.s [32])) (.v 33)) (.s [32]))) (.o1 .size (.v 34)))) (.i 9223372036854775807))
(.need (.o2 .le (.o1 .ofNat (.o2 .nadd (.o1 .size (.o2 .cat (.o2 .cat (.o2 .cat (.o2 .cat (.o2 .cat (.o2 .cat (.o2 .cat (.o2 .cat (.o2 .cat (.o2 .cat (.v 20) (.s [32])) (.v 22)) (.s [32])) (.v 27)) (.s [32])) (.v 32)) (.s [32])) (.v 33)) (.s [32])) (.v 34))) (.o1 .size (.s [32])))) (.i 9223372036854775807))
(.call 16 [.a (.int .i64 (.v 8))] [] [.s] (.w (.a (.str (.v 35)))) []
(.need (.o2 .le (.o1 .ofNat (.o2 .nadd (.o1 .size (.o2 .cat (.o2 .cat (.o2 .cat (.o2 .cat (.o2 .cat (.o2 .cat (.o2 .cat (.o2 .cat (.o2 .cat (.o2 .cat (.o2 .cat (.v 20) (.s [32])) (.v 22)) (.s [32])) (.v 27)) (.s [32])) (.v 32)) (.s [32])) (.v 33)) (.s [32])) (.v 34)) (.s [32]))) (.o1 .size (.v 35)))) (.i 9223372036854775807))
(.need (.o2 .le (.o1 .ofNat (.o2 .nadd (.o1 .size (.o2 .cat (.o2 .cat (.o2 .cat (.o2 .cat (.o2 .cat (.o2 .cat (.o2 .cat (.o2 .cat (.o2 .cat (.o2 .cat (.o2 .cat (.o2 .cat (.v 20) (.s [32])) (.v 22)) (.s [32])) (.v 27)) (.s [32])) (.v 32)) (.s [32])) (.v 33)) (.s [32])) (.v 34)) (.s [32])) (.v 35))) (.o1 .size (.s [32])))) (.i 9223372036854775807))
(.call 17 [.a (.sl (.v 9) (.v 10) (.v 11))] [(.a 9, .prop 12)] [.s] (.w (.a (.str (.v 36)))) [(.a 9, .prop 12)]
(.need (.o2 .le (.o1 .ofNat (.o2 .nadd (.o1 .size (.o2 .cat (.o2 .cat (.o2 .cat (.o2 .cat (.o2 .cat (.o2 .cat (.o2 .cat (.o2 .cat (.o2 .cat (.o2 .cat (.o2 .cat (.o2 .cat (.o2 .cat (.v 20) (.s [32])) (.v 22)) (.s [32])) (.v 27)) (.s [32])) (.v 32)) (.s [32])) (.v 33)) (.s [32])) (.v 34)) (.s [32])) (.v 35)) (.s [32]))) (.o1 .size (.v 36)))) (.i 9223372036854775807))
(.again 0 [.e (.o2 .cat (.o2 .cat (.o2 .cat (.o2 .cat (.o2 .cat (.o2 .cat (.o2 .cat (.o2 .cat (.o2 .cat (.o2 .cat (.o2 .cat (.o2 .cat (.o2 .cat (.o2 .cat (.o2 .cat (.v 20) (.s [32])) (.v 22)) (.s [32])) (.v 27)) (.s [32])) (.v 32)) (.s [32])) (.v 33)) (.s [32])) (.v 34)) (.s [32])) (.v 35)) (.s [32])) (.v 36)) (.s []))]))))))))))))))))))))
(.op (.convert 9 22 (.tmp 46)) 22 [(46, .w (.a (.str (.v 6))))] [] [.a, .n, .n, .p] (.w (.a (.sl (.v 27) (.v 28) (.v 29)))) [(.a 27, .prop 30)]
(.call 16 [.a (.int .i64 (.v 4))] [] [.s] (.w (.a (.str (.v 31)))) []
(.need (.o2 .le (.o1 .ofNat (.o2 .nadd (.o1 .size (.o2 .cat (.o2 .cat (.o2 .cat (.v 20) (.s [32])) (.v 22)) (.s [32]))) (.o1 .size (.v 31)))) (.i 9223372036854775807))
(.need (.o2 .le (.o1 .ofNat (.o2 .nadd (.o1 .size (.o2 .cat (.o2 .cat (.o2 .cat (.o2 .cat (.v 20) (.s [32])) (.v 22)) (.s [32])) (.v 31))) (.o1 .size (.s [32])))) (.i 9223372036854775807))
(.call 17 [.a (.sl (.v 23) (.v 24) (.v 25))] [(.a 23, .prop 26)] [.s] (.w (.a (.str (.v 32)))) [(.a 23, .prop 26)]
(.need (.o2 .le (.o1 .ofNat (.o2 .nadd (.o1 .size (.o2 .cat (.o2 .cat (.o2 .cat (.o2 .cat (.o2 .cat (.v 20) (.s [32])) (.v 22)) (.s [32])) (.v 31)) (.s [32]))) (.o1 .size (.v 32)))) (.i 9223372036854775807))
(.need (.o2 .le (.o1 .ofNat (.o2 .nadd (.o1 .size (.o2 .cat (.o2 .cat (.o2 .cat (.o2 .cat (.o2 .cat (.o2 .cat (.v 20) (.s [32])) (.v 22)) (.s [32])) (.v 31)) (.s [32])) (.v 32))) (.o1 .size (.s [32])))) (.i 9223372036854775807))
(.call 17 [.a (.sl (.v 27) (.v 28) (.v 29))] [(.a 27, .prop 30)] [.s] (.w (.a (.str (.v 33)))) [(.a 27, .prop 30)]
(.need (.o2 .le (.o1 .ofNat (.o2 .nadd (.o1 .size (.o2 .cat (.o2 .cat (.o2 .cat (.o2 .cat (.o2 .cat (.o2 .cat (.o2 .cat (.v 20) (.s [32])) (.v 22)) (.s [32])) (.v 31)) (.s [32])) (.v 32)) (.s [32]))) (.o1 .size (.v 33)))) (.i 9223372036854775807))
(.need (.o2 .le (.o1 .ofNat (.o2 .nadd (.o1 .size (.o2 .cat (.o2 .cat (.o2 .cat (.o2 .cat (.o2 .cat (.o2 .cat (.o2 .cat (.o2 .cat (.v 20) (.s [32])) (.v 22)) (.s [32])) (.v 31)) (.s [32])) (.v 32)) (.s [32])) (.v 33))) (.o1 .size (.s [32])))) (.i 9223372036854775807))
(.call 16 [.a (.int .i64 (.v 7))] [] [.s] (.w (.a (.str (.v 34)))) []
(.need (.o2 .le (.o1 .ofNat (.o2 .nadd (.o1 .size (.o2 .cat (.o2 .cat (.o2 .cat (.o2 .cat (.o2 .cat (.o2 .cat (.o2 .cat (.o2 .cat (.o2 .cat (.v 20) (.s [32])) (.v 22)) (.s [32])) (.v 31)) (.s [32])) (.v 32)) (.s [32])) (.v 33)) (.s [32]))) (.o1 .size (.v 34)))) (.i 9223372036854775807))
(.need (.o2 .le (.o1 .ofNat (.o2 .nadd (.o1 .size (.o2 .cat (.o2 .cat (.o2 .cat (.o2 .cat (.o2 .cat (.o2 .cat (.o2 .cat (.o2 .cat (.o2 .cat (.o2 .cat (.v 20) (.s [32])) (.v 22)) (.s [32])) (.v 31)) (.s [32])) (.v 32)) (.s [32])) (.v 33)) (.s [32])) (.v 34))) (.o1 .size (.s [32])))) (.i 9223372036854775807))
(.call 16 [.a (.int .i64 (.v 8))] [] [.s] (.w (.a (.str (.v 35)))) []
(.need (.o2 .le (.o1 .ofNat (.o2 .nadd (.o1 .size (.o2 .cat (.o2 .cat (.o2 .cat (.o2 .cat (.o2 .cat (.o2 .cat (.o2 .cat (.o2 .cat (.o2 .cat (.o2 .cat (.o2 .cat (.v 20) (.s [32])) (.v 22)) (.s [32])) (.v 31)) (.s [32])) (.v 32)) (.s [32])) (.v 33)) (.s [32])) (.v 34)) (.s [32]))) (.o1 .size (.v 35)))) (.i 9223372036854775807))
(.need (.o2 .le (.o1 .ofNat (.o2 .nadd (.o1 .size (.o2 .cat (.o2 .cat (.o2 .cat (.o2 .cat (.o2 .cat (.o2 .cat (.o2 .cat (.o2 .cat (.o2 .cat (.o2 .cat (.o2 .cat (.o2 .cat (.v 20) (.s [32])) (.v 22)) (.s [32])) (.v 31)) (.s [32])) (.v 32)) (.s [32])) (.v 33)) (.s [32])) (.v 34)) (.s [32])) (.v 35))) (.o1 .size (.s [32])))) (.i 9223372036854775807))
(.call 17 [.a (.sl (.v 9) (.v 10) (.v 11))] [(.a 9, .prop 12)] [.s] (.w (.a (.str (.v 36)))) [(.a 9, .prop 12)]
(.need (.o2 .le (.o1 .ofNat (.o2 .nadd (.o1 .size (.o2 .cat (.o2 .cat (.o2 .cat (.o2 .cat (.o2 .cat (.o2 .cat (.o2 .cat (.o2 .cat (.o2 .cat (.o2 .cat (.o2 .cat (.o2 .cat (.o2 .cat (.v 20) (.s [32])) (.v 22)) (.s [32])) (.v 31)) (.s [32])) (.v 32)) (.s [32])) (.v 33)) (.s [32])) (.v 34)) (.s [32])) (.v 35)) (.s [32]))) (.o1 .size (.v 36)))) (.i 9223372036854775807))
(.again 0 [.e (.o2 .cat (.o2 .cat (.o2 .cat (.o2 .cat (.o2 .cat (.o2 .cat (.o2 .cat (.o2 .cat (.o2 .cat (.o2 .cat (.o2 .cat (.o2 .cat (.o2 .cat (.o2 .cat (.o2 .cat (.v 20) (.s [32])) (.v 22)) (.s [32])) (.v 31)) (.s [32])) (.v 32)) (.s [32])) (.v 33)) (.s [32])) (.v 34)) (.s [32])) (.v 35)) (.s [32])) (.v 36)) (.s []))])))))))))))))))))))))
(.op (.convert 9 22 (.tmp 46)) 22 [(46, .w (.a (.str (.v 6))))] [] [.a, .n, .n, .p] (.w (.a (.sl (.v 23) (.v 24) (.v 25)))) [(.a 23, .prop 26)]
       (.all
(.call 16 [.a (.int .i64 (.v 4))] [] [.s] (.w (.a (.str (.v 27)))) []
(.need (.o2 .le (.o1 .ofNat (.o2 .nadd (.o1 .size (.o2 .cat (.o2 .cat (.o2 .cat (.v 20) (.s [32])) (.v 22)) (.s [32]))) (.o1 .size (.v 27)))) (.i 9223372036854775807))
(.need (.o2 .le (.o1 .ofNat (.o2 .nadd (.o1 .size (.o2 .cat (.o2 .cat (.o2 .cat (.o2 .cat (.v 20) (.s [32])) (.v 22)) (.s [32])) (.v 27))) (.o1 .size (.s [32])))) (.i 9223372036854775807))
(.op (.convert 9 22 (.tmp 40)) 22 [(40, .w (.a (.str (.v 5))))] [] [.a, .n, .n, .p] (.w (.a (.sl (.v 28) (.v 29) (.v 30)))) [(.a 28, .prop 31)]
(.call 17 [.a (.sl (.v 28) (.v 29) (.v 30))] [(.a 28, .prop 31)] [.s] (.w (.a (.str (.v 32)))) [(.a 28, .prop 31)]
(.need (.o2 .le (.o1 .ofNat (.o2 .nadd (.o1 .size (.o2 .cat (.o2 .cat (.o2 .cat (.o2 .cat (.o2 .cat (.v 20) (.s [32])) (.v 22)) (.s [32])) (.v 27)) (.s [32]))) (.o1 .size (.v 32)))) (.i 9223372036854775807))
(.need (.o2 .le (.o1 .ofNat (.o2 .nadd (.o1 .size (.o2 .cat (.o2 .cat (.o2 .cat (.o2 .cat (.o2 .cat (.o2 .cat (.v 20) (.s [32])) (.v 22)) (.s [32])) (.v 27)) (.s [32])) (.v 32))) (.o1 .size (.s [32])))) (.i 9223372036854775807))
(.call 17 [.a (.sl (.v 23) (.v 24) (.v 25))] [(.a 23, .prop 26)] [.s] (.w (.a (.str (.v 33)))) [(.a 23, .prop 26)]
(.need (.o2 .le (.o1 .ofNat (.o2 .nadd (.o1 .size (.o2 .cat (.o2 .cat (.o2 .cat (.o2 .cat (.o2 .cat (.o2 .cat (.o2 .cat (.v 20) (.s [32])) (.v 22)) (.s [32])) (.v 27)) (.s [32])) (.v 32)) (.s [32]))) (.o1 .size (.v 33)))) (.i 9223372036854775807))
(.need (.o2 .le (.o1 .ofNat (.o2 .nadd (.o1 .size (.o2 .cat (.o2 .cat (.o2 .cat (.o2 .cat (.o2 .cat (.o2 .cat (.o2 .cat (.o2 .cat (.v 20) (.s [32])) (.v 22)) (.s [32])) (.v 27)) (.s [32])) (.v 32)) (.s [32])) (.v 33))) (.o1 .size (.s [32])))) (.i 9223372036854775807))
(.call 16 [.a (.int .i64 (.v 7))] [] [.s] (.w (.a (.str (.v 34)))) []
(.need (.o2 .le (.o1 .ofNat (.o2 .nadd (.o1 .size (.o2 .cat (.o2 .cat (.o2 .cat (.o2 .cat (.o2 .cat (.o2 .cat (.o2 .cat (.o2 .cat (.o2 .cat (.v 20) (.s [32])) (.v 22)) (.s [32])) (.v 27)) (.s [32])) (.v 32)) (.s [32])) (.v 33)) (.s [32]))) (.o1 .size (.v 34)))) (.i 9223372036854775807))
(.need (.o2 .le (.o1 .ofNat (.o2 .nadd (.o1 .size (.o2 .cat (.o2 .cat (.o2 .cat (.o2 .cat (.o2 .cat (.o2 .cat (.o2 .cat (.o2 .cat (.o2 .cat (.o2 .cat (.v 20) (.s [32])) (.v 22)) (.s [32])) (.v 27)) (.s [32])) (.v 32)) (.s [32])) (.v 33)) (.s [32])) (.v 34))) (.o1 .size (.s [32])))) (.i 9223372036854775807))
(.call 16 [.a (.int .i64 (.v 8))] [] [.s] (.w (.a (.str (.v 35)))) []
(.need (.o2 .le (.o1 .ofNat (.o2 .nadd (.o1 .size (.o2 .cat (.o2 .cat (.o2 .cat (.o2 .cat (.o2 .cat (.o2 .cat (.o2 .cat (.o2 .cat (.o2 .cat (.o2 .cat (.o2 .cat (.v 20) (.s [32])) (.v 22)) (.s [32])) (.v 27)) (.s [32])) (.v 32)) (.s [32])) (.v 33)) (.s [32])) (.v 34)) (.s [32]))) (.o1 .size (.v 35)))) (.i 9223372036854775807))
(.need (.o2 .le (.o1 .ofNat (.o2 .nadd (.o1 .size (.o2 .cat (.o2 .cat (.o2 .cat (.o2 .cat (.o2 .cat (.o2 .cat (.o2 .cat (.o2 .cat (.o2 .cat (.o2 .cat (.o2 .cat (.o2 .cat (.v 20) (.s [32])) (.v 22)) (.s [32])) (.v 27)) (.s [32])) (.v 32)) (.s [32])) (.v 33)) (.s [32])) (.v 34)) (.s [32])) (.v 35))) (.o1 .size (.s [32])))) (.i 9223372036854775807))
(.call 17 [.a (.sl (.v 9) (.v 10) (.v 11))] [(.a 9, .prop 12)] [.s] (.w (.a (.str (.v 36)))) [(.a 9, .prop 12)]
(.need (.o2 .le (.o1 .ofNat (.o2 .nadd (.o1 .size (.o2 .cat (.o2 .cat (.o2 .cat (.o2 .cat (.o2 .cat (.o2 .cat (.o2 .cat (.o2 .cat (.o2 .cat (.o2 .cat (.o2 .cat (.o2 .cat (.o2 .cat (.v 20) (.s [32])) (.v 22)) (.s [32])) (.v 27)) (.s [32])) (.v 32)) (.s [32])) (.v 33)) (.s [32])) (.v 34)) (.s [32])) (.v 35)) (.s [32]))) (.o1 .size (.v 36)))) (.i 9223372036854775807))
(.again 0 [.e (.o2 .cat (.o2 .cat (.o2 .cat (.o2 .cat (.o2 .cat (.o2 .cat (.o2 .cat (.o2 .cat (.o2 .cat (.o2 .cat (.o2 .cat (.o2 .cat (.o2 .cat (.o2 .cat (.o2 .cat (.v 20) (.s [32])) (.v 22)) (.s [32])) (.v 27)) (.s [32])) (.v 32)) (.s [32])) (.v 33)) (.s [32])) (.v 34)) (.s [32])) (.v 35)) (.s [32])) (.v 36)) (.s []))])))))))))))))))))))
(.op (.convert 9 22 (.tmp 40)) 22 [(40, .w (.a (.str (.v 5))))] [] [.a, .n, .n, .p] (.w (.a (.sl (.v 27) (.v 28) (.v 29)))) [(.a 27, .prop 30)]
(.call 16 [.a (.int .i64 (.v 4))] [] [.s] (.w (.a (.str (.v 31)))) []
(.need (.o2 .le (.o1 .ofNat (.o2 .nadd (.o1 .size (.o2 .cat (.o2 .cat (.o2 .cat (.v 20) (.s [32])) (.v 22)) (.s [32]))) (.o1 .size (.v 31)))) (.i 9223372036854775807))
(.need (.o2 .le (.o1 .ofNat (.o2 .nadd (.o1 .size (.o2 .cat (.o2 .cat (.o2 .cat (.o2 .cat (.v 20) (.s [32])) (.v 22)) (.s [32])) (.v 31))) (.o1 .size (.s [32])))) (.i 9223372036854775807))
(.call 17 [.a (.sl (.v 27) (.v 28) (.v 29))] [(.a 27, .prop 30)] [.s] (.w (.a (.str (.v 32)))) [(.a 27, .prop 30)]
(.need (.o2 .le (.o1 .ofNat (.o2 .nadd (.o1 .size (.o2 .cat (.o2 .cat (.o2 .cat (.o2 .cat (.o2 .cat (.v 20) (.s [32])) (.v 22)) (.s [32])) (.v 31)) (.s [32]))) (.o1 .size (.v 32)))) (.i 9223372036854775807))
(.need (.o2 .le (.o1 .ofNat (.o2 .nadd (.o1 .size (.o2 .cat (.o2 .cat (.o2 .cat (.o2 .cat (.o2 .cat (.o2 .cat (.v 20) (.s [32])) (.v 22)) (.s [32])) (.v 31)) (.s [32])) (.v 32))) (.o1 .size (.s [32])))) (.i 9223372036854775807))
(.call 17 [.a (.sl (.v 23) (.v 24) (.v 25))] [(.a 23, .prop 26)] [.s] (.w (.a (.str (.v 33)))) [(.a 23, .prop 26)]
(.need (.o2 .le (.o1 .ofNat (.o2 .nadd (.o1 .size (.o2 .cat (.o2 .cat (.o2 .cat (.o2 .cat (.o2 .cat (.o2 .cat (.o2 .cat (.v 20) (.s [32])) (.v 22)) (.s [32])) (.v 31)) (.s [32])) (.v 32)) (.s [32]))) (.o1 .size (.v 33)))) (.i 9223372036854775807))
(.need (.o2 .le (.o1 .ofNat (.o2 .nadd (.o1 .size (.o2 .cat (.o2 .cat (.o2 .cat (.o2 .cat (.o2 .cat (.o2 .cat (.o2 .cat (.o2 .cat (.v 20) (.s [32])) (.v 22)) (.s [32])) (.v 31)) (.s [32])) (.v 32)) (.s [32])) (.v 33))) (.o1 .size (.s [32])))) (.i 9223372036854775807))
(.call 16 [.a (.int .i64 (.v 7))] [] [.s] (.w (.a (.str (.v 34)))) []
(.need (.o2 .le (.o1 .ofNat (.o2 .nadd (.o1 .size (.o2 .cat (.o2 .cat (.o2 .cat (.o2 .cat (.o2 .cat (.o2 .cat (.o2 .cat (.o2 .cat (.o2 .cat (.v 20) (.s [32])) (.v 22)) (.s [32])) (.v 31)) (.s [32])) (.v 32)) (.s [32])) (.v 33)) (.s [32]))) (.o1 .size (.v 34)))) (.i 9223372036854775807))
(.need (.o2 .le (.o1 .ofNat (.o2 .nadd (.o1 .size (.o2 .cat (.o2 .cat (.o2 .cat (.o2 .cat (.o2 .cat (.o2 .cat (.o2 .cat (.o2 .cat (.o2 .cat (.o2 .cat (.v 20) (.s [32])) (.v 22)) (.s [32])) (.v 31)) (.s [32])) (.v 32)) (.s [32])) (.v 33)) (.s [32])) (.v 34))) (.o1 .size (.s [32])))) (.i 9223372036854775807))
(.call 16 [.a (.int .i64 (.v 8))] [] [.s] (.w (.a (.str (.v 35)))) []
(.need (.o2 .le (.o1 .ofNat (.o2 .nadd (.o1 .size (.o2 .cat (.o2 .cat (.o2 .cat (.o2 .cat (.o2 .cat (.o2 .cat (.o2 .cat (.o2 .cat (.o2 .cat (.o2 .cat (.o2 .cat (.v 20) (.s [32])) (.v 22)) (.s [32])) (.v 31)) (.s [32])) (.v 32)) (.s [32])) (.v 33)) (.s [32])) (.v 34)) (.s [32]))) (.o1 .size (.v 35)))) (.i 9223372036854775807))
(.need (.o2 .le (.o1 .ofNat (.o2 .nadd (.o1 .size (.o2 .cat (.o2 .cat (.o2 .cat (.o2 .cat (.o2 .cat (.o2 .cat (.o2 .cat (.o2 .cat (.o2 .cat (.o2 .cat (.o2 .cat (.o2 .cat (.v 20) (.s [32])) (.v 22)) (.s [32])) (.v 31)) (.s [32])) (.v 32)) (.s [32])) (.v 33)) (.s [32])) (.v 34)) (.s [32])) (.v 35))) (.o1 .size (.s [32])))) (.i 9223372036854775807))
(.call 17 [.a (.sl (.v 9) (.v 10) (.v 11))] [(.a 9, .prop 12)] [.s] (.w (.a (.str (.v 36)))) [(.a 9, .prop 12)]
(.need (.o2 .le (.o1 .ofNat (.o2 .nadd (.o1 .size (.o2 .cat (.o2 .cat (.o2 .cat (.o2 .cat (.o2 .cat (.o2 .cat (.o2 .cat (.o2 .cat (.o2 .cat (.o2 .cat (.o2 .cat (.o2 .cat (.o2 .cat (.v 20) (.s [32])) (.v 22)) (.s [32])) (.v 31)) (.s [32])) (.v 32)) (.s [32])) (.v 33)) (.s [32])) (.v 34)) (.s [32])) (.v 35)) (.s [32]))) (.o1 .size (.v 36)))) (.i 9223372036854775807))
(.again 0 [.e (.o2 .cat (.o2 .cat (.o2 .cat (.o2 .cat (.o2 .cat (.o2 .cat (.o2 .cat (.o2 .cat (.o2 .cat (.o2 .cat (.o2 .cat (.o2 .cat (.o2 .cat (.o2 .cat (.o2 .cat (.v 20) (.s [32])) (.v 22)) (.s [32])) (.v 31)) (.s [32])) (.v 32)) (.s [32])) (.v 33)) (.s [32])) (.v 34)) (.s [32])) (.v 35)) (.s [32])) (.v 36)) (.s []))]))))))))))))))))))))))))))
     (.all
(.op (.convert 9 22 (.tmp 40)) 22 [(40, .w (.a (.str (.v 5))))] [] [.a, .n, .n, .p] (.w (.a (.sl (.v 22) (.v 23) (.v 24)))) [(.a 22, .prop 25)]
      (.all
(.call 16 [.a (.int .i64 (.v 1))] [] [.s] (.w (.a (.str (.v 26)))) []
(.need (.o2 .le (.o1 .ofNat (.o2 .nadd (.o1 .size (.o2 .cat (.v 20) (.s [32]))) (.o1 .size (.v 26)))) (.i 9223372036854775807))
(.need (.o2 .le (.o1 .ofNat (.o2 .nadd (.o1 .size (.o2 .cat (.o2 .cat (.v 20) (.s [32])) (.v 26))) (.o1 .size (.s [32])))) (.i 9223372036854775807))
       (.all
(.call 16 [.a (.int .i64 (.v 4))] [] [.s] (.w (.a (.str (.v 27)))) []
(.need (.o2 .le (.o1 .ofNat (.o2 .nadd (.o1 .size (.o2 .cat (.o2 .cat (.o2 .cat (.v 20) (.s [32])) (.v 26)) (.s [32]))) (.o1 .size (.v 27)))) (.i 9223372036854775807))
(.need (.o2 .le (.o1 .ofNat (.o2 .nadd (.o1 .size (.o2 .cat (.o2 .cat (.o2 .cat (.o2 .cat (.v 20) (.s [32])) (.v 26)) (.s [32])) (.v 27))) (.o1 .size (.s [32])))) (.i 9223372036854775807))
        (.all
(.call 17 [.a (.sl (.v 22) (.v 23) (.v 24))] [(.a 22, .prop 25)] [.s] (.w (.a (.str (.v 28)))) [(.a 22, .prop 25)]
(.need (.o2 .le (.o1 .ofNat (.o2 .nadd (.o1 .size (.o2 .cat (.o2 .cat (.o2 .cat (.o2 .cat (.o2 .cat (.v 20) (.s [32])) (.v 26)) (.s [32])) (.v 27)) (.s [32]))) (.o1 .size (.v 28)))) (.i 9223372036854775807))
(.need (.o2 .le (.o1 .ofNat (.o2 .nadd (.o1 .size (.o2 .cat (.o2 .cat (.o2 .cat (.o2 .cat (.o2 .cat (.o2 .cat (.v 20) (.s [32])) (.v 26)) (.s [32])) (.v 27)) (.s [32])) (.v 28))) (.o1 .size (.s [32])))) (.i 9223372036854775807))
(.op (.convert 9 22 (.tmp 46)) 22 [(46, .w (.a (.str (.v 6))))] [] [.a, .n, .n, .p] (.w (.a (.sl (.v 29) (.v 30) (.v 31)))) [(.a 29, .prop 32)]
(.call 17 [.a (.sl (.v 29) (.v 30) (.v 31))] [(.a 29, .prop 32)] [.s] (.w (.a (.str (.v 33)))) [(.a 29, .prop 32)]
(.need (.o2 .le (.o1 .ofNat (.o2 .nadd (.o1 .size (.o2 .cat (.o2 .cat (.o2 .cat (.o2 .cat (.o2 .cat (.o2 .cat (.o2 .cat (.v 20) (.s [32])) (.v 26)) (.s [32])) (.v 27)) (.s [32])) (.v 28)) (.s [32]))) (.o1 .size (.v 33)))) (.i 9223372036854775807))
(.need (.o2 .le (.o1 .ofNat (.o2 .nadd (.o1 .size (.o2 .cat (.o2 .cat (.o2 .cat (.o2 .cat (.o2 .cat (.o2 .cat (.o2 .cat (.o2 .cat (.v 20) (.s [32])) (.v 26)) (.s [32])) (.v 27)) (.s [32])) (.v 28)) (.s [32])) (.v 33))) (.o1 .size (.s [32])))) (.i 9223372036854775807))
(.call 16 [.a (.int .i64 (.v 7))] [] [.s] (.w (.a (.str (.v 34)))) []
(.need (.o2 .le (.o1 .ofNat (.o2 .nadd (.o1 .size (.o2 .cat (.o2 .cat (.o2 .cat (.o2 .cat (.o2 .cat (.o2 .cat (.o2 .cat (.o2 .cat (.o2 .cat (.v 20) (.s [32])) (.v 26)) (.s [32])) (.v 27)) (.s [32])) (.v 28)) (.s [32])) (.v 33)) (.s [32]))) (.o1 .size (.v 34)))) (.i 9223372036854775807))
(.need (.o2 .le (.o1 .ofNat (.o2 .nadd (.o1 .size (.o2 .cat (.o2 .cat (.o2 .cat (.o2 .cat (.o2 .cat (.o2 .cat (.o2 .cat (.o2 .cat (.o2 .cat (.o2 .cat (.v 20) (.s [32])) (.v 26)) (.s [32])) (.v 27)) (.s [32])) (.v 28)) (.s [32])) (.v 33)) (.s [32])) (.v 34))) (.o1 .size (.s [32])))) (.i 9223372036854775807))
(.call 16 [.a (.int .i64 (.v 8))] [] [.s] (.w (.a (.str (.v 35)))) []
(.need (.o2 .le (.o1 .ofNat (.o2 .nadd (.o1 .size (.o2 .cat (.o2 .cat (.o2 .cat (.o2 .cat (.o2 .cat (.o2 .cat (.o2 .cat (.o2 .cat (.o2 .cat (.o2 .cat (.o2 .cat (.v 20) (.s [32])) (.v 26)) (.s [32])) (.v 27)) (.s [32])) (.v 28)) (.s [32])) (.v 33)) (.s [32])) (.v 34)) (.s [32]))) (.o1 .size (.v 35)))) (.i 9223372036854775807))
(.need (.o2 .le (.o1 .ofNat (.o2 .nadd (.o1 .size (.o2 .cat (.o2 .cat (.o2 .cat (.o2 .cat (.o2 .cat (.o2 .cat (.o2 .cat (.o2 .cat (.o2 .cat (.o2 .cat (.o2 .cat (.o2 .cat (.v 20) (.s [32])) (.v 26)) (.s [32])) (.v 27)) (.s [32])) (.v 28)) (.s [32])) (.v 33)) (.s [32])) (.v 34)) (.s [32])) (.v 35))) (.o1 .size (.s [32])))) (.i 9223372036854775807))
(.call 17 [.a (.sl (.v 9) (.v 10) (.v 11))] [(.a 9, .prop 12)] [.s] (.w (.a (.str (.v 36)))) [(.a 9, .prop 12)]
(.need (.o2 .le (.o1 .ofNat (.o2 .nadd (.o1 .size (.o2 .cat (.o2 .cat (.o2 .cat (.o2 .cat (.o2 .cat (.o2 .cat (.o2 .cat (.o2 .cat (.o2 .cat (.o2 .cat (.o2 .cat (.o2 .cat (.o2 .cat (.v 20) (.s [32])) (.v 26)) (.s [32])) (.v 27)) (.s [32])) (.v 28)) (.s [32])) (.v 33)) (.s [32])) (.v 34)) (.s [32])) (.v 35)) (.s [32]))) (.o1 .size (.v 36)))) (.i 9223372036854775807))
(.again 0 [.e (.o2 .cat (.o2 .cat (.o2 .cat (.o2 .cat (.o2 .cat (.o2 .cat (.o2 .cat (.o2 .cat (.o2 .cat (.o2 .cat (.o2 .cat (.o2 .cat (.o2 .cat (.o2 .cat (.o2 .cat (.v 20) (.s [32])) (.v 26)) (.s [32])) (.v 27)) (.s [32])) (.v 28)) (.s [32])) (.v 33)) (.s [32])) (.v 34)) (.s [32])) (.v 35)) (.s [32])) (.v 36)) (.s []))]))))))))))))))))
(.op (.convert 9 22 (.tmp 46)) 22 [(46, .w (.a (.str (.v 6))))] [] [.a, .n, .n, .p] (.w (.a (.sl (.v 28) (.v 29) (.v 30)))) [(.a 28, .prop 31)]
(.call 17 [.a (.sl (.v 22) (.v 23) (.v 24))] [(.a 22, .prop 25)] [.s] (.w (.a (.str (.v 32)))) [(.a 22, .prop 25)]
(.need (.o2 .le (.o1 .ofNat (.o2 .nadd (.o1 .size (.o2 .cat (.o2 .cat (.o2 .cat (.o2 .cat (.o2 .cat (.v 20) (.s [32])) (.v 26)) (.s [32])) (.v 27)) (.s [32]))) (.o1 .size (.v 32)))) (.i 9223372036854775807))
(.need (.o2 .le (.o1 .ofNat (.o2 .nadd (.o1 .size (.o2 .cat (.o2 .cat (.o2 .cat (.o2 .cat (.o2 .cat (.o2 .cat (.v 20) (.s [32])) (.v 26)) (.s [32])) (.v 27)) (.s [32])) (.v 32))) (.o1 .size (.s [32])))) (.i 9223372036854775807))
(.call 17 [.a (.sl (.v 28) (.v 29) (.v 30))] [(.a 28, .prop 31)] [.s] (.w (.a (.str (.v 33)))) [(.a 28, .prop 31)]
(.need (.o2 .le (.o1 .ofNat (.o2 .nadd (.o1 .size (.o2 .cat (.o2 .cat (.o2 .cat (.o2 .cat (.o2 .cat (.o2 .cat (.o2 .cat (.v 20) (.s [32])) (.v 26)) (.s [32])) (.v 27)) (.s [32])) (.v 32)) (.s [32]))) (.o1 .size (.v 33)))) (.i 9223372036854775807))
(.need (.o2 .le (.o1 .ofNat (.o2 .nadd (.o1 .size (.o2 .cat (.o2 .cat (.o2 .cat (.o2 .cat (.o2 .cat (.o2 .cat (.o2 .cat (.o2 .cat (.v 20) (.s [32])) (.v 26)) (.s [32])) (.v 27)) (.s [32])) (.v 32)) (.s [32])) (.v 33))) (.o1 .size (.s [32])))) (.i 9223372036854775807))
(.call 16 [.a (.int .i64 (.v 7))] [] [.s] (.w (.a (.str (.v 34)))) []
(.need (.o2 .le (.o1 .ofNat (.o2 .nadd (.o1 .size (.o2 .cat (.o2 .cat (.o2 .cat (.o2 .cat (.o2 .cat (.o2 .cat (.o2 .cat (.o2 .cat (.o2 .cat (.v 20) (.s [32])) (.v 26)) (.s [32])) (.v 27)) (.s [32])) (.v 32)) (.s [32])) (.v 33)) (.s [32]))) (.o1 .size (.v 34)))) (.i 9223372036854775807))
(.need (.o2 .le (.o1 .ofNat (.o2 .nadd (.o1 .size (.o2 .cat (.o2 .cat (.o2 .cat (.o2 .cat (.o2 .cat (.o2 .cat (.o2 .cat (.o2 .cat (.o2 .cat (.o2 .cat (.v 20) (.s [32])) (.v 26)) (.s [32])) (.v 27)) (.s [32])) (.v 32)) (.s [32])) (.v 33)) (.s [32])) (.v 34))) (.o1 .size (.s [32])))) (.i 9223372036854775807))
(.call 16 [.a (.int .i64 (.v 8))] [] [.s] (.w (.a (.str (.v 35)))) []
(.need (.o2 .le (.o1 .ofNat (.o2 .nadd (.o1 .size (.o2 .cat (.o2 .cat (.o2 .cat (.o2 .cat (.o2 .cat (.o2 .cat (.o2 .cat (.o2 .cat (.o2 .cat (.o2 .cat (.o2 .cat (.v 20) (.s [32])) (.v 26)) (.s [32])) (.v 27)) (.s [32])) (.v 32)) (.s [32])) (.v 33)) (.s [32])) (.v 34)) (.s [32]))) (.o1 .size (.v 35)))) (.i 9223372036854775807))
(.need (.o2 .le (.o1 .ofNat (.o2 .nadd (.o1 .size (.o2 .cat (.o2 .cat (.o2 .cat (.o2 .cat (.o2 .cat (.o2 .cat (.o2 .cat (.o2 .cat (.o2 .cat (.o2 .cat (.o2 .cat (.o2 .cat (.v 20) (.s [32])) (.v 26)) (.s [32])) (.v 27)) (.s [32])) (.v 32)) (.s [32])) (.v 33)) (.s [32])) (.v 34)) (.s [32])) (.v 35))) (.o1 .size (.s [32])))) (.i 9223372036854775807))
(.call 17 [.a (.sl (.v 9) (.v 10) (.v 11))] [(.a 9, .prop 12)] [.s] (.w (.a (.str (.v 36)))) [(.a 9, .prop 12)]
(.need (.o2 .le (.o1 .ofNat (.o2 .nadd (.o1 .size (.o2 .cat (.o2 .cat (.o2 .cat (.o2 .cat (.o2 .cat (.o2 .cat (.o2 .cat (.o2 .cat (.o2 .cat (.o2 .cat (.o2 .cat (.o2 .cat (.o2 .cat (.v 20) (.s [32])) (.v 26)) (.s [32])) (.v 27)) (.s [32])) (.v 32)) (.s [32])) (.v 33)) (.s [32])) (.v 34)) (.s [32])) (.v 35)) (.s [32]))) (.o1 .size (.v 36)))) (.i 9223372036854775807))
(.again 0 [.e (.o2 .cat (.o2 .cat (.o2 .cat (.o2 .cat (.o2 .cat (.o2 .cat (.o2 .cat (.o2 .cat (.o2 .cat (.o2 .cat (.o2 .cat (.o2 .cat (.o2 .cat (.o2 .cat (.o2 .cat (.v 20) (.s [32])) (.v 26)) (.s [32])) (.v 27)) (.s [32])) (.v 32)) (.s [32])) (.v 33)) (.s [32])) (.v 34)) (.s [32])) (.v 35)) (.s [32])) (.v 36)) (.s []))]))))))))))))))))))))
(.op (.convert 9 22 (.tmp 46)) 22 [(46, .w (.a (.str (.v 6))))] [] [.a, .n, .n, .p] (.w (.a (.sl (.v 27) (.v 28) (.v 29)))) [(.a 27, .prop 30)]
(.call 16 [.a (.int .i64 (.v 4))] [] [.s] (.w (.a (.str (.v 31)))) []
(.need (.o2 .le (.o1 .ofNat (.o2 .nadd (.o1 .size (.o2 .cat (.o2 .cat (.o2 .cat (.v 20) (.s [32])) (.v 26)) (.s [32]))) (.o1 .size (.v 31)))) (.i 9223372036854775807))
(.need (.o2 .le (.o1 .ofNat (.o2 .nadd (.o1 .size (.o2 .cat (.o2 .cat (.o2 .cat (.o2 .cat (.v 20) (.s [32])) (.v 26)) (.s [32])) (.v 31))) (.o1 .size (.s [32])))) (.i 9223372036854775807))
(.call 17 [.a (.sl (.v 22) (.v 23) (.v 24))] [(.a 22, .prop 25)] [.s] (.w (.a (.str (.v 32)))) [(.a 22, .prop 25)]
(.need (.o2 .le (.o1 .ofNat (.o2 .nadd (.o1 .size (.o2 .cat (.o2 .cat (.o2 .cat (.o2 .cat (.o2 .cat (.v 20) (.s [32])) (.v 26)) (.s [32])) (.v 31)) (.s [32]))) (.o1 .size (.v 32)))) (.i 9223372036854775807))
(.need (.o2 .le (.o1 .ofNat (.o2 .nadd (.o1 .size (.o2 .cat (.o2 .cat (.o2 .cat (.o2 .cat (.o2 .cat (.o2 .cat (.v 20) (.s [32])) (.v 26)) (.s [32])) (.v 31)) (.s [32])) (.v 32))) (.o1 .size (.s [32])))) (.i 9223372036854775807))
(.call 17 [.a (.sl (.v 27) (.v 28) (.v 29))] [(.a 27, .prop 30)] [.s] (.w (.a (.str (.v 33)))) [(.a 27, .prop 30)]
(.need (.o2 .le (.o1 .ofNat (.o2 .nadd (.o1 .size (.o2 .cat (.o2 .cat (.o2 .cat (.o2 .cat (.o2 .cat (.o2 .cat (.o2 .cat (.v 20) (.s [32])) (.v 26)) (.s [32])) (.v 31)) (.s [32])) (.v 32)) (.s [32]))) (.o1 .size (.v 33)))) (.i 9223372036854775807))
(.need (.o2 .le (.o1 .ofNat (.o2 .nadd (.o1 .size (.o2 .cat (.o2 .cat (.o2 .cat (.o2 .cat (.o2 .cat (.o2 .cat (.o2 .cat (.o2 .cat (.v 20) (.s [32])) (.v 26)) (.s [32])) (.v 31)) (.s [32])) (.v 32)) (.s [32])) (.v 33))) (.o1 .size (.s [32])))) (.i 9223372036854775807))
(.call 16 [.a (.int .i64 (.v 7))] [] [.s] (.w (.a (.str (.v 34)))) []
(.need (.o2 .le (.o1 .ofNat (.o2 .nadd (.o1 .size (.o2 .cat (.o2 .cat (.o2 .cat (.o2 .cat (.o2 .cat (.o2 .cat (.o2 .cat (.o2 .cat (.o2 .cat (.v 20) (.s [32])) (.v 26)) (.s [32])) (.v 31)) (.s [32])) (.v 32)) (.s [32])) (.v 33)) (.s [32]))) (.o1 .size (.v 34)))) (.i 9223372036854775807))
(.need (.o2 .le (.o1 .ofNat (.o2 .nadd (.o1 .size (.o2 .cat (.o2 .cat (.o2 .cat (.o2 .cat (.o2 .cat (.o2 .cat (.o2 .cat (.o2 .cat (.o2 .cat (.o2 .cat (.v 20) (.s [32])) (.v 26)) (.s [32])) (.v 31)) (.s [32])) (.v 32)) (.s [32])) (.v 33)) (.s [32])) (.v 34))) (.o1 .size (.s [32])))) (.i 9223372036854775807))
(.call 16 [.a (.int .i64 (.v 8))] [] [.s] (.w (.a (.str (.v 35)))) []
(.need (.o2 .le (.o1 .ofNat (.o2 .nadd (.o1 .size (.o2 .cat (.o2 .cat (.o2 .cat (.o2 .cat (.o2 .cat (.o2 .cat (.o2 .cat (.o2 .cat (.o2 .cat (.o2 .cat (.o2 .cat (.v 20) (.s [32])) (.v 26)) (.s [32])) (.v 31)) (.s [32])) (.v 32)) (.s [32])) (.v 33)) (.s [32])) (.v 34)) (.s [32]))) (.o1 .size (.v 35)))) (.i 9223372036854775807))
(.need (.o2 .le (.o1 .ofNat (.o2 .nadd (.o1 .size (.o2 .cat (.o2 .cat (.o2 .cat (.o2 .cat (.o2 .cat (.o2 .cat (.o2 .cat (.o2 .cat (.o2 .cat (.o2 .cat (.o2 .cat (.o2 .cat (.v 20) (.s [32])) (.v 26)) (.s [32])) (.v 31)) (.s [32])) (.v 32)) (.s [32])) (.v 33)) (.s [32])) (.v 34)) (.s [32])) (.v 35))) (.o1 .size (.s [32])))) (.i 9223372036854775807))
(.call 17 [.a (.sl (.v 9) (.v 10) (.v 11))] [(.a 9, .prop 12)] [.s] (.w (.a (.str (.v 36)))) [(.a 9, .prop 12)]
(.need (.o2 .le (.o1 .ofNat (.o2 .nadd (.o1 .size (.o2 .cat (.o2 .cat (.o2 .cat (.o2 .cat (.o2 .cat (.o2 .cat (.o2 .cat (.o2 .cat (.o2 .cat (.o2 .cat (.o2 .cat (.o2 .cat (.o2 .cat (.v 20) (.s [32])) (.v 26)) (.s [32])) (.v 31)) (.s [32])) (.v 32)) (.s [32])) (.v 33)) (.s [32])) (.v 34)) (.s [32])) (.v 35)) (.s [32]))) (.o1 .size (.v 36)))) (.i 9223372036854775807))
(.again 0 [.e (.o2 .cat (.o2 .cat (.o2 .cat (.o2 .cat (.o2 .cat (.o2 .cat (.o2 .cat (.o2 .cat (.o2 .cat (.o2 .cat (.o2 .cat (.o2 .cat (.o2 .cat (.o2 .cat (.o2 .cat (.v 20) (.s [32])) (.v 26)) (.s [32])) (.v 31)) (.s [32])) (.v 32)) (.s [32])) (.v 33)) (.s [32])) (.v 34)) (.s [32])) (.v 35)) (.s [32])) (.v 36)) (.s []))])))))))))))))))))))))))
(.op (.convert 9 22 (.tmp 46)) 22 [(46, .w (.a (.str (.v 6))))] [] [.a, .n, .n, .p] (.w (.a (.sl (.v 26) (.v 27) (.v 28)))) [(.a 26, .prop 29)]
(.call 16 [.a (.int .i64 (.v 1))] [] [.s] (.w (.a (.str (.v 30)))) []
(.need (.o2 .le (.o1 .ofNat (.o2 .nadd (.o1 .size (.o2 .cat (.v 20) (.s [32]))) (.o1 .size (.v 30)))) (.i 9223372036854775807))
(.need (.o2 .le (.o1 .ofNat (.o2 .nadd (.o1 .size (.o2 .cat (.o2 .cat (.v 20) (.s [32])) (.v 30))) (.o1 .size (.s [32])))) (.i 9223372036854775807))
(.call 16 [.a (.int .i64 (.v 4))] [] [.s] (.w (.a (.str (.v 31)))) []
(.need (.o2 .le (.o1 .ofNat (.o2 .nadd (.o1 .size (.o2 .cat (.o2 .cat (.o2 .cat (.v 20) (.s [32])) (.v 30)) (.s [32]))) (.o1 .size (.v 31)))) (.i 9223372036854775807))
(.need (.o2 .le (.o1 .ofNat (.o2 .nadd (.o1 .size (.o2 .cat (.o2 .cat (.o2 .cat (.o2 .cat (.v 20) (.s [32])) (.v 30)) (.s [32])) (.v 31))) (.o1 .size (.s [32])))) (.i 9223372036854775807))
(.call 17 [.a (.sl (.v 22) (.v 23) (.v 24))] [(.a 22, .prop 25)] [.s] (.w (.a (.str (.v 32)))) [(.a 22, .prop 25)]
(.need (.o2 .le (.o1 .ofNat (.o2 .nadd (.o1 .size (.o2 .cat (.o2 .cat (.o2 .cat (.o2 .cat (.o2 .cat (.v 20) (.s [32])) (.v 30)) (.s [32])) (.v 31)) (.s [32]))) (.o1 .size (.v 32)))) (.i 9223372036854775807))
(.need (.o2 .le (.o1 .ofNat (.o2 .nadd (.o1 .size (.o2 .cat (.o2 .cat (.o2 .cat (.o2 .cat (.o2 .cat (.o2 .cat (.v 20) (.s [32])) (.v 30)) (.s [32])) (.v 31)) (.s [32])) (.v 32))) (.o1 .size (.s [32])))) (.i 9223372036854775807))
(.call 17 [.a (.sl (.v 26) (.v 27) (.v 28))] [(.a 26, .prop 29)] [.s] (.w (.a (.str (.v 33)))) [(.a 26, .prop 29)]
(.need (.o2 .le (.o1 .ofNat (.o2 .nadd (.o1 .size (.o2 .cat (.o2 .cat (.o2 .cat (.o2 .cat (.o2 .cat (.o2 .cat (.o2 .cat (.v 20) (.s [32])) (.v 30)) (.s [32])) (.v 31)) (.s [32])) (.v 32)) (.s [32]))) (.o1 .size (.v 33)))) (.i 9223372036854775807))
(.need (.o2 .le (.o1 .ofNat (.o2 .nadd (.o1 .size (.o2 .cat (.o2 .cat (.o2 .cat (.o2 .cat (.o2 .cat (.o2 .cat (.o2 .cat (.o2 .cat (.v 20) (.s [32])) (.v 30)) (.s [32])) (.v 31)) (.s [32])) (.v 32)) (.s [32])) (.v 33))) (.o1 .size (.s [32])))) (.i 9223372036854775807))
(.call 16 [.a (.int .i64 (.v 7))] [] [.s] (.w (.a (.str (.v 34)))) []
(.need (.o2 .le (.o1 .ofNat (.o2 .nadd (.o1 .size (.o2 .cat (.o2 .cat (.o2 .cat (.o2 .cat (.o2 .cat (.o2 .cat (.o2 .cat (.o2 .cat (.o2 .cat (.v 20) (.s [32])) (.v 30)) (.s [32])) (.v 31)) (.s [32])) (.v 32)) (.s [32])) (.v 33)) (.s [32]))) (.o1 .size (.v 34)))) (.i 9223372036854775807))
(.need (.o2 .le (.o1 .ofNat (.o2 .nadd (.o1 .size (.o2 .cat (.o2 .cat (.o2 .cat (.o2 .cat (.o2 .cat (.o2 .cat (.o2 .cat (.o2 .cat (.o2 .cat (.o2 .cat (.v 20) (.s [32])) (.v 30)) (.s [32])) (.v 31)) (.s [32])) (.v 32)) (.s [32])) (.v 33)) (.s [32])) (.v 34))) (.o1 .size (.s [32])))) (.i 9223372036854775807))
(.call 16 [.a (.int .i64 (.v 8))] [] [.s] (.w (.a (.str (.v 35)))) []
(.need (.o2 .le (.o1 .ofNat (.o2 .nadd (.o1 .size (.o2 .cat (.o2 .cat (.o2 .cat (.o2 .cat (.o2 .cat (.o2 .cat (.o2 .cat (.o2 .cat (.o2 .cat (.o2 .cat (.o2 .cat (.v 20) (.s [32])) (.v 30)) (.s [32])) (.v 31)) (.s [32])) (.v 32)) (.s [32])) (.v 33)) (.s [32])) (.v 34)) (.s [32]))) (.o1 .size (.v 35)))) (.i 9223372036854775807))
(.need (.o2 .le (.o1 .ofNat (.o2 .nadd (.o1 .size (.o2 .cat (.o2 .cat (.o2 .cat (.o2 .cat (.o2 .cat (.o2 .cat (.o2 .cat (.o2 .cat (.o2 .cat (.o2 .cat (.o2 .cat (.o2 .cat (.v 20) (.s [32])) (.v 30)) (.s [32])) (.v 31)) (.s [32])) (.v 32)) (.s [32])) (.v 33)) (.s [32])) (.v 34)) (.s [32])) (.v 35))) (.o1 .size (.s [32])))) (.i 9223372036854775807))
(.call 17 [.a (.sl (.v 9) (.v 10) (.v 11))] [(.a 9, .prop 12)] [.s] (.w (.a (.str (.v 36)))) [(.a 9, .prop 12)]
(.need (.o2 .le (.o1 .ofNat (.o2 .nadd (.o1 .size (.o2 .cat (.o2 .cat (.o2 .cat (.o2 .cat (.o2 .cat (.o2 .cat (.o2 .cat (.o2 .cat (.o2 .cat (.o2 .cat (.o2 .cat (.o2 .cat (.o2 .cat (.v 20) (.s [32])) (.v 30)) (.s [32])) (.v 31)) (.s [32])) (.v 32)) (.s [32])) (.v 33)) (.s [32])) (.v 34)) (.s [32])) (.v 35)) (.s [32]))) (.o1 .size (.v 36)))) (.i 9223372036854775807))
(.again 0 [.e (.o2 .cat (.o2 .cat (.o2 .cat (.o2 .cat (.o2 .cat (.o2 .cat (.o2 .cat (.o2 .cat (.o2 .cat (.o2 .cat (.o2 .cat (.o2 .cat (.o2 .cat (.o2 .cat (.o2 .cat (.v 20) (.s [32])) (.v 30)) (.s [32])) (.v 31)) (.s [32])) (.v 32)) (.s [32])) (.v 33)) (.s [32])) (.v 34)) (.s [32])) (.v 35)) (.s [32])) (.v 36)) (.s []))]))))))))))))))))))))))))
(.op (.convert 9 22 (.tmp 46)) 22 [(46, .w (.a (.str (.v 6))))] [] [.a, .n, .n, .p] (.w (.a (.sl (.v 22) (.v 23) (.v 24)))) [(.a 22, .prop 25)]
      (.all
(.call 16 [.a (.int .i64 (.v 1))] [] [.s] (.w (.a (.str (.v 26)))) []
(.need (.o2 .le (.o1 .ofNat (.o2 .nadd (.o1 .size (.o2 .cat (.v 20) (.s [32]))) (.o1 .size (.v 26)))) (.i 9223372036854775807))
(.need (.o2 .le (.o1 .ofNat (.o2 .nadd (.o1 .size (.o2 .cat (.o2 .cat (.v 20) (.s [32])) (.v 26))) (.o1 .size (.s [32])))) (.i 9223372036854775807))
       (.all
(.call 16 [.a (.int .i64 (.v 4))] [] [.s] (.w (.a (.str (.v 27)))) []
(.need (.o2 .le (.o1 .ofNat (.o2 .nadd (.o1 .size (.o2 .cat (.o2 .cat (.o2 .cat (.v 20) (.s [32])) (.v 26)) (.s [32]))) (.o1 .size (.v 27)))) (.i 9223372036854775807))
(.need (.o2 .le (.o1 .ofNat (.o2 .nadd (.o1 .size (.o2 .cat (.o2 .cat (.o2 .cat (.o2 .cat (.v 20) (.s [32])) (.v 26)) (.s [32])) (.v 27))) (.o1 .size (.s [32])))) (.i 9223372036854775807))
(.op (.convert 9 22 (.tmp 40)) 22 [(40, .w (.a (.str (.v 5))))] [] [.a, .n, .n, .p] (.w (.a (.sl (.v 28) (.v 29) (.v 30)))) [(.a 28, .prop 31)]
(.call 17 [.a (.sl (.v 28) (.v 29) (.v 30))] [(.a 28, .prop 31)] [.s] (.w (.a (.str (.v 32)))) [(.a 28, .prop 31)]
(.need (.o2 .le (.o1 .ofNat (.o2 .nadd (.o1 .size (.o2 .cat (.o2 .cat (.o2 .cat (.o2 .cat (.o2 .cat (.v 20) (.s [32])) (.v 26)) (.s [32])) (.v 27)) (.s [32]))) (.o1 .size (.v 32)))) (.i 9223372036854775807))
(.need (.o2 .le (.o1 .ofNat (.o2 .nadd (.o1 .size (.o2 .cat (.o2 .cat (.o2 .cat (.o2 .cat (.o2 .cat (.o2 .cat (.v 20) (.s [32])) (.v 26)) (.s [32])) (.v 27)) (.s [32])) (.v 32))) (.o1 .size (.s [32])))) (.i 9223372036854775807))
(.call 17 [.a (.sl (.v 22) (.v 23) (.v 24))] [(.a 22, .prop 25)] [.s] (.w (.a (.str (.v 33)))) [(.a 22, .prop 25)]
(.need (.o2 .le (.o1 .ofNat (.o2 .nadd (.o1 .size (.o2 .cat (.o2 .cat (.o2 .cat (.o2 .cat (.o2 .cat (.o2 .cat (.o2 .cat (.v 20) (.s [32])) (.v 26)) (.s [32])) (.v 27)) (.s [32])) (.v 32)) (.s [32]))) (.o1 .size (.v 33)))) (.i 9223372036854775807))
(.need (.o2 .le (.o1 .ofNat (.o2 .nadd (.o1 .size (.o2 .cat (.o2 .cat (.o2 .cat (.o2 .cat (.o2 .cat (.o2 .cat (.o2 .cat (.o2 .cat (.v 20) (.s [32])) (.v 26)) (.s [32])) (.v 27)) (.s [32])) (.v 32)) (.s [32])) (.v 33))) (.o1 .size (.s [32])))) (.i 9223372036854775807))
(.call 16 [.a (.int .i64 (.v 7))] [] [.s] (.w (.a (.str (.v 34)))) []
(.need (.o2 .le (.o1 .ofNat (.o2 .nadd (.o1 .size (.o2 .cat (.o2 .cat (.o2 .cat (.o2 .cat (.o2 .cat (.o2 .cat (.o2 .cat (.o2 .cat (.o2 .cat (.v 20) (.s [32])) (.v 26)) (.s [32])) (.v 27)) (.s [32])) (.v 32)) (.s [32])) (.v 33)) (.s [32]))) (.o1 .size (.v 34)))) (.i 9223372036854775807))
(.need (.o2 .le (.o1 .ofNat (.o2 .nadd (.o1 .size (.o2 .cat (.o2 .cat (.o2 .cat (.o2 .cat (.o2 .cat (.o2 .cat (.o2 .cat (.o2 .cat (.o2 .cat (.o2 .cat (.v 20) (.s [32])) (.v 26)) (.s [32])) (.v 27)) (.s [32])) (.v 32)) (.s [32])) (.v 33)) (.s [32])) (.v 34))) (.o1 .size (.s [32])))) (.i 9223372036854775807))
(.call 16 [.a (.int .i64 (.v 8))] [] [.s] (.w (.a (.str (.v 35)))) []
(.need (.o2 .le (.o1 .ofNat (.o2 .nadd (.o1 .size (.o2 .cat (.o2 .cat (.o2 .cat (.o2 .cat (.o2 .cat (.o2 .cat (.o2 .cat (.o2 .cat (.o2 .cat (.o2 .cat (.o2 .cat (.v 20) (.s [32])) (.v 26)) (.s [32])) (.v 27)) (.s [32])) (.v 32)) (.s [32])) (.v 33)) (.s [32])) (.v 34)) (.s [32]))) (.o1 .size (.v 35)))) (.i 9223372036854775807))
(.need (.o2 .le (.o1 .ofNat (.o2 .nadd (.o1 .size (.o2 .cat (.o2 .cat (.o2 .cat (.o2 .cat (.o2 .cat (.o2 .cat (.o2 .cat (.o2 .cat (.o2 .cat (.o2 .cat (.o2 .cat (.o2 .cat (.v 20) (.s [32])) (.v 26)) (.s [32])) (.v 27)) (.s [32])) (.v 32)) (.s [32])) (.v 33)) (.s [32])) (.v 34)) (.s [32])) (.v 35))) (.o1 .size (.s [32])))) (.i 9223372036854775807))
(.call 17 [.a (.sl (.v 9) (.v 10) (.v 11))] [(.a 9, .prop 12)] [.s] (.w (.a (.str (.v 36)))) [(.a 9, .prop 12)]
(.need (.o2 .le (.o1 .ofNat (.o2 .nadd (.o1 .size (.o2 .cat (.o2 .cat (.o2 .cat (.o2 .cat (.o2 .cat (.o2 .cat (.o2 .cat (.o2 .cat (.o2 .cat (.o2 .cat (.o2 .cat (.o2 .cat (.o2 .cat (.v 20) (.s [32])) (.v 26)) (.s [32])) (.v 27)) (.s [32])) (.v 32)) (.s [32])) (.v 33)) (.s [32])) (.v 34)) (.s [32])) (.v 35)) (.s [32]))) (.o1 .size (.v 36)))) (.i 9223372036854775807))
(.again 0 [.e (.o2 .cat (.o2 .cat (.o2 .cat (.o2 .cat (.o2 .cat (.o2 .cat (.o2 .cat (.o2 .cat (.o2 .cat (.o2 .cat (.o2 .cat (.o2 .cat (.o2 .cat (.o2 .cat (.o2 .cat (.v 20) (.s [32])) (.v 26)) (.s [32])) (.v 27)) (.s [32])) (.v 32)) (.s [32])) (.v 33)) (.s [32])) (.v 34)) (.s [32])) (.v 35)) (.s [32])) (.v 36)) (.s []))])))))))))))))))))))
(.op (.convert 9 22 (.tmp 40)) 22 [(40, .w (.a (.str (.v 5))))] [] [.a, .n, .n, .p] (.w (.a (.sl (.v 27) (.v 28) (.v 29)))) [(.a 27, .prop 30)]
(.call 16 [.a (.int .i64 (.v 4))] [] [.s] (.w (.a (.str (.v 31)))) []
(.need (.o2 .le (.o1 .ofNat (.o2 .nadd (.o1 .size (.o2 .cat (.o2 .cat (.o2 .cat (.v 20) (.s [32])) (.v 26)) (.s [32]))) (.o1 .size (.v 31)))) (.i 9223372036854775807))
(.need (.o2 .le (.o1 .ofNat (.o2 .nadd (.o1 .size (.o2 .cat (.o2 .cat (.o2 .cat (.o2 .cat (.v 20) (.s [32])) (.v 26)) (.s [32])) (.v 31))) (.o1 .size (.s [32])))) (.i 9223372036854775807))
(.call 17 [.a (.sl (.v 27) (.v 28) (.v 29))] [(.a 27, .prop 30)] [.s] (.w (.a (.str (.v 32)))) [(.a 27, .prop 30)]
(.need (.o2 .le (.o1 .ofNat (.o2 .nadd (.o1 .size (.o2 .cat (.o2 .cat (.o2 .cat (.o2 .cat (.o2 .cat (.v 20) (.s [32])) (.v 26)) (.s [32])) (.v 31)) (.s [32]))) (.o1 .size (.v 32)))) (.i 9223372036854775807))
(.need (.o2 .le (.o1 .ofNat (.o2 .nadd (.o1 .size (.o2 .cat (.o2 .cat (.o2 .cat (.o2 .cat (.o2 .cat (.o2 .cat (.v 20) (.s [32])) (.v 26)) (.s [32])) (.v 31)) (.s [32])) (.v 32))) (.o1 .size (.s [32])))) (.i 9223372036854775807))
(.call 17 [.a (.sl (.v 22) (.v 23) (.v 24))] [(.a 22, .prop 25)] [.s] (.w (.a (.str (.v 33)))) [(.a 22, .prop 25)]
(.need (.o2 .le (.o1 .ofNat (.o2 .nadd (.o1 .size (.o2 .cat (.o2 .cat (.o2 .cat (.o2 .cat (.o2 .cat (.o2 .cat (.o2 .cat (.v 20) (.s [32])) (.v 26)) (.s [32])) (.v 31)) (.s [32])) (.v 32)) (.s [32]))) (.o1 .size (.v 33)))) (.i 9223372036854775807))
(.need (.o2 .le (.o1 .ofNat (.o2 .nadd (.o1 .size (.o2 .cat (.o2 .cat (.o2 .cat (.o2 .cat (.o2 .cat (.o2 .cat (.o2 .cat (.o2 .cat (.v 20) (.s [32])) (.v 26)) (.s [32])) (.v 31)) (.s [32])) (.v 32)) (.s [32])) (.v 33))) (.o1 .size (.s [32])))) (.i 9223372036854775807))
(.call 16 [.a (.int .i64 (.v 7))] [] [.s] (.w (.a (.str (.v 34)))) []
(.need (.o2 .le (.o1 .ofNat (.o2 .nadd (.o1 .size (.o2 .cat (.o2 .cat (.o2 .cat (.o2 .cat (.o2 .cat (.o2 .cat (.o2 .cat (.o2 .cat (.o2 .cat (.v 20) (.s [32])) (.v 26)) (.s [32])) (.v 31)) (.s [32])) (.v 32)) (.s [32])) (.v 33)) (.s [32]))) (.o1 .size (.v 34)))) (.i 9223372036854775807))
(.need (.o2 .le (.o1 .ofNat (.o2 .nadd (.o1 .size (.o2 .cat (.o2 .cat (.o2 .cat (.o2 .cat (.o2 .cat (.o2 .cat (.o2 .cat (.o2 .cat (.o2 .cat (.o2 .cat (.v 20) (.s [32])) (.v 26)) (.s [32])) (.v 31)) (.s [32])) (.v 32)) (.s [32])) (.v 33)) (.s [32])) (.v 34))) (.o1 .size (.s [32])))) (.i 9223372036854775807))
(.call 16 [.a (.int .i64 (.v 8))] [] [.s] (.w (.a (.str (.v 35)))) []
(.need (.o2 .le (.o1 .ofNat (.o2 .nadd (.o1 .size (.o2 .cat (.o2 .cat (.o2 .cat (.o2 .cat (.o2 .cat (.o2 .cat (.o2 .cat (.o2 .cat (.o2 .cat (.o2 .cat (.o2 .cat (.v 20) (.s [32])) (.v 26)) (.s [32])) (.v 31)) (.s [32])) (.v 32)) (.s [32])) (.v 33)) (.s [32])) (.v 34)) (.s [32]))) (.o1 .size (.v 35)))) (.i 9223372036854775807))
(.need (.o2 .le (.o1 .ofNat (.o2 .nadd (.o1 .size (.o2 .cat (.o2 .cat (.o2 .cat (.o2 .cat (.o2 .cat (.o2 .cat (.o2 .cat (.o2 .cat (.o2 .cat (.o2 .cat (.o2 .cat (.o2 .cat (.v 20) (.s [32])) (.v 26)) (.s [32])) (.v 31)) (.s [32])) (.v 32)) (.s [32])) (.v 33)) (.s [32])) (.v 34)) (.s [32])) (.v 35))) (.o1 .size (.s [32])))) (.i 9223372036854775807))
(.call 17 [.a (.sl (.v 9) (.v 10) (.v 11))] [(.a 9, .prop 12)] [.s] (.w (.a (.str (.v 36)))) [(.a 9, .prop 12)]
(.need (.o2 .le (.o1 .ofNat (.o2 .nadd (.o1 .size (.o2 .cat (.o2 .cat (.o2 .cat (.o2 .cat (.o2 .cat (.o2 .cat (.o2 .cat (.o2 .cat (.o2 .cat (.o2 .cat (.o2 .cat (.o2 .cat (.o2 .cat (.v 20) (.s [32])) (.v 26)) (.s [32])) (.v 31)) (.s [32])) (.v 32)) (.s [32])) (.v 33)) (.s [32])) (.v 34)) (.s [32])) (.v 35)) (.s [32]))) (.o1 .size (.v 36)))) (.i 9223372036854775807))
(.again 0 [.e (.o2 .cat (.o2 .cat (.o2 .cat (.o2 .cat (.o2 .cat (.o2 .cat (.o2 .cat (.o2 .cat (.o2 .cat (.o2 .cat (.o2 .cat (.o2 .cat (.o2 .cat (.o2 .cat (.o2 .cat (.v 20) (.s [32])) (.v 26)) (.s [32])) (.v 31)) (.s [32])) (.v 32)) (.s [32])) (.v 33)) (.s [32])) (.v 34)) (.s [32])) (.v 35)) (.s [32])) (.v 36)) (.s []))])))))))))))))))))))))))
(.op (.convert 9 22 (.tmp 40)) 22 [(40, .w (.a (.str (.v 5))))] [] [.a, .n, .n, .p] (.w (.a (.sl (.v 26) (.v 27) (.v 28)))) [(.a 26, .prop 29)]
(.call 16 [.a (.int .i64 (.v 1))] [] [.s] (.w (.a (.str (.v 30)))) []
(.need (.o2 .le (.o1 .ofNat (.o2 .nadd (.o1 .size (.o2 .cat (.v 20) (.s [32]))) (.o1 .size (.v 30)))) (.i 9223372036854775807))
(.need (.o2 .le (.o1 .ofNat (.o2 .nadd (.o1 .size (.o2 .cat (.o2 .cat (.v 20) (.s [32])) (.v 30))) (.o1 .size (.s [32])))) (.i 9223372036854775807))
(.call 16 [.a (.int .i64 (.v 4))] [] [.s] (.w (.a (.str (.v 31)))) []
(.need (.o2 .le (.o1 .ofNat (.o2 .nadd (.o1 .size (.o2 .cat (.o2 .cat (.o2 .cat (.v 20) (.s [32])) (.v 30)) (.s [32]))) (.o1 .size (.v 31)))) (.i 9223372036854775807))
(.need (.o2 .le (.o1 .ofNat (.o2 .nadd (.o1 .size (.o2 .cat (.o2 .cat (.o2 .cat (.o2 .cat (.v 20) (.s [32])) (.v 30)) (.s [32])) (.v 31))) (.o1 .size (.s [32])))) (.i 9223372036854775807))
(.call 17 [.a (.sl (.v 26) (.v 27) (.v 28))] [(.a 26, .prop 29)] [.s] (.w (.a (.str (.v 32)))) [(.a 26, .prop 29)]
(.need (.o2 .le (.o1 .ofNat (.o2 .nadd (.o1 .size (.o2 .cat (.o2 .cat (.o2 .cat (.o2 .cat (.o2 .cat (.v 20) (.s [32])) (.v 30)) (.s [32])) (.v 31)) (.s [32]))) (.o1 .size (.v 32)))) (.i 9223372036854775807))
(.need (.o2 .le (.o1 .ofNat (.o2 .nadd (.o1 .size (.o2 .cat (.o2 .cat (.o2 .cat (.o2 .cat (.o2 .cat (.o2 .cat (.v 20) (.s [32])) (.v 30)) (.s [32])) (.v 31)) (.s [32])) (.v 32))) (.o1 .size (.s [32])))) (.i 9223372036854775807))
(.call 17 [.a (.sl (.v 22) (.v 23) (.v 24))] [(.a 22, .prop 25)] [.s] (.w (.a (.str (.v 33)))) [(.a 22, .prop 25)]
(.need (.o2 .le (.o1 .ofNat (.o2 .nadd (.o1 .size (.o2 .cat (.o2 .cat (.o2 .cat (.o2 .cat (.o2 .cat (.o2 .cat (.o2 .cat (.v 20) (.s [32])) (.v 30)) (.s [32])) (.v 31)) (.s [32])) (.v 32)) (.s [32]))) (.o1 .size (.v 33)))) (.i 9223372036854775807))
(.need (.o2 .le (.o1 .ofNat (.o2 .nadd (.o1 .size (.o2 .cat (.o2 .cat (.o2 .cat (.o2 .cat (.o2 .cat (.o2 .cat (.o2 .cat (.o2 .cat (.v 20) (.s [32])) (.v 30)) (.s [32])) (.v 31)) (.s [32])) (.v 32)) (.s [32])) (.v 33))) (.o1 .size (.s [32])))) (.i 9223372036854775807))
(.call 16 [.a (.int .i64 (.v 7))] [] [.s] (.w (.a (.str (.v 34)))) []
(.need (.o2 .le (.o1 .ofNat (.o2 .nadd (.o1 .size (.o2 .cat (.o2 .cat (.o2 .cat (.o2 .cat (.o2 .cat (.o2 .cat (.o2 .cat (.o2 .cat (.o2 .cat (.v 20) (.s [32])) (.v 30)) (.s [32])) (.v 31)) (.s [32])) (.v 32)) (.s [32])) (.v 33)) (.s [32]))) (.o1 .size (.v 34)))) (.i 9223372036854775807))
(.need (.o2 .le (.o1 .ofNat (.o2 .nadd (.o1 .size (.o2 .cat (.o2 .cat (.o2 .cat (.o2 .cat (.o2 .cat (.o2 .cat (.o2 .cat (.o2 .cat (.o2 .cat (.o2 .cat (.v 20) (.s [32])) (.v 30)) (.s [32])) (.v 31)) (.s [32])) (.v 32)) (.s [32])) (.v 33)) (.s [32])) (.v 34))) (.o1 .size (.s [32])))) (.i 9223372036854775807))
(.call 16 [.a (.int .i64 (.v 8))] [] [.s] (.w (.a (.str (.v 35)))) []
(.need (.o2 .le (.o1 .ofNat (.o2 .nadd (.o1 .size (.o2 .cat (.o2 .cat (.o2 .cat (.o2 .cat (.o2 .cat (.o2 .cat (.o2 .cat (.o2 .cat (.o2 .cat (.o2 .cat (.o2 .cat (.v 20) (.s [32])) (.v 30)) (.s [32])) (.v 31)) (.s [32])) (.v 32)) (.s [32])) (.v 33)) (.s [32])) (.v 34)) (.s [32]))) (.o1 .size (.v 35)))) (.i 9223372036854775807))
(.need (.o2 .le (.o1 .ofNat (.o2 .nadd (.o1 .size (.o2 .cat (.o2 .cat (.o2 .cat (.o2 .cat (.o2 .cat (.o2 .cat (.o2 .cat (.o2 .cat (.o2 .cat (.o2 .cat (.o2 .cat (.o2 .cat (.v 20) (.s [32])) (.v 30)) (.s [32])) (.v 31)) (.s [32])) (.v 32)) (.s [32])) (.v 33)) (.s [32])) (.v 34)) (.s [32])) (.v 35))) (.o1 .size (.s [32])))) (.i 9223372036854775807))
(.call 17 [.a (.sl (.v 9) (.v 10) (.v 11))] [(.a 9, .prop 12)] [.s] (.w (.a (.str (.v 36)))) [(.a 9, .prop 12)]
(.need (.o2 .le (.o1 .ofNat (.o2 .nadd (.o1 .size (.o2 .cat (.o2 .cat (.o2 .cat (.o2 .cat (.o2 .cat (.o2 .cat (.o2 .cat (.o2 .cat (.o2 .cat (.o2 .cat (.o2 .cat (.o2 .cat (.o2 .cat (.v 20) (.s [32])) (.v 30)) (.s [32])) (.v 31)) (.s [32])) (.v 32)) (.s [32])) (.v 33)) (.s [32])) (.v 34)) (.s [32])) (.v 35)) (.s [32]))) (.o1 .size (.v 36)))) (.i 9223372036854775807))
(.again 0 [.e (.o2 .cat (.o2 .cat (.o2 .cat (.o2 .cat (.o2 .cat (.o2 .cat (.o2 .cat (.o2 .cat (.o2 .cat (.o2 .cat (.o2 .cat (.o2 .cat (.o2 .cat (.o2 .cat (.o2 .cat (.v 20) (.s [32])) (.v 30)) (.s [32])) (.v 31)) (.s [32])) (.v 32)) (.s [32])) (.v 33)) (.s [32])) (.v 34)) (.s [32])) (.v 35)) (.s [32])) (.v 36)) (.s []))])))))))))))))))))))))))))))
(.ret (.w (.a (.str (.v 22)))) [(.a 9, .prop 12), (.a 13, .prop 16)])))
(.br (.o2 .eq (.v 0) (.i 6))
(.br (.v 3)
(.need (.o2 .le (.o1 .ofNat (.o2 .nadd (.o1 .size (.v 20)) (.o1 .size (.s [32])))) (.i 9223372036854775807))
(.call 16 [.a (.int .i64 (.v 2))] [] [.s] (.w (.a (.str (.v 21)))) []
(.need (.o2 .le (.o1 .ofNat (.o2 .nadd (.o1 .size (.o2 .cat (.v 20) (.s [32]))) (.o1 .size (.v 21)))) (.i 9223372036854775807))
(.need (.o2 .le (.o1 .ofNat (.o2 .nadd (.o1 .size (.o2 .cat (.o2 .cat (.v 20) (.s [32])) (.v 21))) (.o1 .size (.s [32, 49])))) (.i 9223372036854775807))
(.ret (.w (.a (.str (.o2 .cat (.o2 .cat (.o2 .cat (.v 20) (.s [32])) (.v 21)) (.s [32, 49]))))) [(.a 9, .prop 12), (.a 13, .prop 16)])))))
(.need (.o2 .le (.o1 .ofNat (.o2 .nadd (.o1 .size (.v 20)) (.o1 .size (.s [32])))) (.i 9223372036854775807))
(.call 16 [.a (.int .i64 (.v 2))] [] [.s] (.w (.a (.str (.v 21)))) []
(.need (.o2 .le (.o1 .ofNat (.o2 .nadd (.o1 .size (.o2 .cat (.v 20) (.s [32]))) (.o1 .size (.v 21)))) (.i 9223372036854775807))
(.need (.o2 .le (.o1 .ofNat (.o2 .nadd (.o1 .size (.o2 .cat (.o2 .cat (.v 20) (.s [32])) (.v 21))) (.o1 .size (.s [32, 48])))) (.i 9223372036854775807))
(.ret (.w (.a (.str (.o2 .cat (.o2 .cat (.o2 .cat (.v 20) (.s [32])) (.v 21)) (.s [32, 48]))))) [(.a 9, .prop 12), (.a 13, .prop 16)]))))))
(.br (.o2 .eq (.v 0) (.i 7))
(.need (.o2 .le (.o1 .ofNat (.o2 .nadd (.o1 .size (.v 20)) (.o1 .size (.s [32])))) (.i 9223372036854775807))
(.call 16 [.a (.int .i64 (.v 2))] [] [.s] (.w (.a (.str (.v 21)))) []
(.need (.o2 .le (.o1 .ofNat (.o2 .nadd (.o1 .size (.o2 .cat (.v 20) (.s [32]))) (.o1 .size (.v 21)))) (.i 9223372036854775807))
(.ret (.w (.a (.str (.o2 .cat (.o2 .cat (.v 20) (.s [32])) (.v 21))))) [(.a 9, .prop 12), (.a 13, .prop 16)]))))
(.br (.o2 .eq (.v 0) (.i 8))
(.need (.o2 .le (.o1 .ofNat (.o2 .nadd (.o1 .size (.v 20)) (.o1 .size (.s [32])))) (.i 9223372036854775807))
(.call 16 [.a (.int .i64 (.v 1))] [] [.s] (.w (.a (.str (.v 21)))) []
(.need (.o2 .le (.o1 .ofNat (.o2 .nadd (.o1 .size (.o2 .cat (.v 20) (.s [32]))) (.o1 .size (.v 21)))) (.i 9223372036854775807))
(.need (.o2 .le (.o1 .ofNat (.o2 .nadd (.o1 .size (.o2 .cat (.o2 .cat (.v 20) (.s [32])) (.v 21))) (.o1 .size (.s [32])))) (.i 9223372036854775807))
(.call 17 [.a (.sl (.v 13) (.v 14) (.v 15))] [(.a 13, .prop 16)] [.s] (.w (.a (.str (.v 22)))) [(.a 13, .prop 16)]
(.need (.o2 .le (.o1 .ofNat (.o2 .nadd (.o1 .size (.o2 .cat (.o2 .cat (.o2 .cat (.v 20) (.s [32])) (.v 21)) (.s [32]))) (.o1 .size (.v 22)))) (.i 9223372036854775807))
(.ret (.w (.a (.str (.o2 .cat (.o2 .cat (.o2 .cat (.o2 .cat (.v 20) (.s [32])) (.v 21)) (.s [32])) (.v 22))))) [(.a 9, .prop 12), (.a 13, .prop 16)])))))))
(.need (.o2 .le (.o1 .ofNat (.o2 .nadd (.o1 .size (.v 20)) (.o1 .size (.s [32])))) (.i 9223372036854775807))
(.call 16 [.a (.int .i64 (.v 1))] [] [.s] (.w (.a (.str (.v 21)))) []
(.need (.o2 .le (.o1 .ofNat (.o2 .nadd (.o1 .size (.o2 .cat (.v 20) (.s [32]))) (.o1 .size (.v 21)))) (.i 9223372036854775807))
(.ret (.w (.a (.str (.o2 .cat (.o2 .cat (.v 20) (.s [32])) (.v 21))))) [(.a 9, .prop 12), (.a 13, .prop 16)])))))))))))))))
theorem tree_rLine : tree Tryd.prog { keep := [8, 17, 16, 11, 99999, 14, 29, 6, 5, 7, 99999], outl := true, opn := true, rdf := true, jn := [((27, 22), some { ss := [.s], n := 23, tv := [(27, none), (28, none), (29, none), (30, none), (31, none), (32, none), (33, none), (34, none), (35, none), (36, none), (37, none), (38, none), (39, none), (40, none), (41, none), (42, none), (43, none), (44, none), (45, none), (46, none), (47, none), (48, none), (49, none), (50, none), (51, none), (52, none), (53, none), (54, none), (55, none), (56, none), (57, none), (58, none), (59, none), (60, none), (61, none), (62, none), (63, none), (64, none), (2, some (.w (.a (.str (.v 22)))))], h := [(.a 9, .prop 12), (.b (.v 21), .cells [.int .i64 (.v 4), .str (.v 5), .str (.v 6), .int .i64 (.v 7), .int .i64 (.v 8), .sl (.v 9) (.v 10) (.v 11)] 24), (.b (.v 18), .cells [.str (.s [99, 97, 108, 108]), .str (.s [115, 110, 97, 112]), .str (.s [116, 114, 105, 109]), .str (.s [103, 105, 118, 101, 117, 112]), .str (.s [116, 105, 99, 107]), .str (.s [100, 101, 108, 105, 118, 101, 114]), .str (.s [100, 114, 111, 112]), .str (.s [99, 114, 97, 115, 104])] 9), (.b (.v 17), .cells [.int .i64 (.v 0), .int .i64 (.v 1), .int .i64 (.v 2), .bool (.v 3), .int .i64 (.v 4), .str (.v 5), .str (.v 6), .int .i64 (.v 7), .int .i64 (.v 8), .sl (.v 9) (.v 10) (.v 11), .sl (.v 13) (.v 14) (.v 15)] 26), (.a 13, .prop 16)], lk := [] })] } Tryd.f11 [.agg [.int .i64 (.v 0), .int .i64 (.v 1), .int .i64 (.v 2), .bool (.v 3), .int .i64 (.v 4), .str (.v 5), .str (.v 6), .int .i64 (.v 7), .int .i64 (.v 8), .sl (.v 9) (.v 10) (.v 11), .sl (.v 13) (.v 14) (.v 15)]] [(.a 9, .prop 12), (.a 13, .prop 16)] 17 = t_rLine := by kernel_rfl
def t_rTold : T :=
(.new
(.new
(.new
(.br (.o1 .not (.o2 .eq (.v 0) (.i 6)))
(.br (.o1 .not (.o2 .eq (.v 0) (.i 7)))
(.br (.o2 .eq (.v 0) (.i 1))
(.br (.o2 .eq (.v 0) (.i 8))
(.ret (.w (.agg [.int .i64 (.v 0), .int .i64 (.v 1), .int .i64 (.i 0), .bool (.c false), .int .i64 (.v 4), .str (.v 5), .str (.v 6), .int .i64 (.v 7), .int .i64 (.v 8), .sl (.v 9) (.v 10) (.v 11), .sl (.v 13) (.v 14) (.v 15)])) [(.a 9, .prop 12), (.a 13, .prop 16)])
(.ret (.w (.agg [.int .i64 (.v 0), .int .i64 (.v 1), .int .i64 (.i 0), .bool (.c false), .int .i64 (.v 4), .str (.v 5), .str (.v 6), .int .i64 (.v 7), .int .i64 (.v 8), .sl (.v 9) (.v 10) (.v 11), .sl .nil (.n 0) (.n 0)])) [(.a 9, .prop 12), (.a 13, .prop 16)]))
(.br (.o2 .eq (.v 0) (.i 8))
(.ret (.w (.agg [.int .i64 (.v 0), .int .i64 (.v 1), .int .i64 (.i 0), .bool (.c false), .int .i64 (.i 0), .str (.s []), .str (.s []), .int .i64 (.i 0), .int .i64 (.i 0), .sl .nil (.n 0) (.n 0), .sl (.v 13) (.v 14) (.v 15)])) [(.a 9, .prop 12), (.a 13, .prop 16)])
(.ret (.w (.agg [.int .i64 (.v 0), .int .i64 (.v 1), .int .i64 (.i 0), .bool (.c false), .int .i64 (.i 0), .str (.s []), .str (.s []), .int .i64 (.i 0), .int .i64 (.i 0), .sl .nil (.n 0) (.n 0), .sl .nil (.n 0) (.n 0)])) [(.a 9, .prop 12), (.a 13, .prop 16)])))
(.br (.o2 .eq (.v 0) (.i 1))
(.br (.o2 .eq (.v 0) (.i 8))
(.ret (.w (.agg [.int .i64 (.v 0), .int .i64 (.i 0), .int .i64 (.v 2), .bool (.c false), .int .i64 (.v 4), .str (.v 5), .str (.v 6), .int .i64 (.v 7), .int .i64 (.v 8), .sl (.v 9) (.v 10) (.v 11), .sl (.v 13) (.v 14) (.v 15)])) [(.a 9, .prop 12), (.a 13, .prop 16)])
(.ret (.w (.agg [.int .i64 (.v 0), .int .i64 (.i 0), .int .i64 (.v 2), .bool (.c false), .int .i64 (.v 4), .str (.v 5), .str (.v 6), .int .i64 (.v 7), .int .i64 (.v 8), .sl (.v 9) (.v 10) (.v 11), .sl .nil (.n 0) (.n 0)])) [(.a 9, .prop 12), (.a 13, .prop 16)]))
(.br (.o2 .eq (.v 0) (.i 8))
(.ret (.w (.agg [.int .i64 (.v 0), .int .i64 (.i 0), .int .i64 (.v 2), .bool (.c false), .int .i64 (.i 0), .str (.s []), .str (.s []), .int .i64 (.i 0), .int .i64 (.i 0), .sl .nil (.n 0) (.n 0), .sl (.v 13) (.v 14) (.v 15)])) [(.a 9, .prop 12), (.a 13, .prop 16)])
(.ret (.w (.agg [.int .i64 (.v 0), .int .i64 (.i 0), .int .i64 (.v 2), .bool (.c false), .int .i64 (.i 0), .str (.s []), .str (.s []), .int .i64 (.i 0), .int .i64 (.i 0), .sl .nil (.n 0) (.n 0), .sl .nil (.n 0) (.n 0)])) [(.a 9, .prop 12), (.a 13, .prop 16)]))))
(.br (.o2 .eq (.v 0) (.i 1))
(.br (.o2 .eq (.v 0) (.i 8))
(.ret (.w (.agg [.int .i64 (.v 0), .int .i64 (.i 0), .int .i64 (.v 2), .bool (.v 3), .int .i64 (.v 4), .str (.v 5), .str (.v 6), .int .i64 (.v 7), .int .i64 (.v 8), .sl (.v 9) (.v 10) (.v 11), .sl (.v 13) (.v 14) (.v 15)])) [(.a 9, .prop 12), (.a 13, .prop 16)])
(.ret (.w (.agg [.int .i64 (.v 0), .int .i64 (.i 0), .int .i64 (.v 2), .bool (.v 3), .int .i64 (.v 4), .str (.v 5), .str (.v 6), .int .i64 (.v 7), .int .i64 (.v 8), .sl (.v 9) (.v 10) (.v 11), .sl .nil (.n 0) (.n 0)])) [(.a 9, .prop 12), (.a 13, .prop 16)]))
(.br (.o2 .eq (.v 0) (.i 8))
(.ret (.w (.agg [.int .i64 (.v 0), .int .i64 (.i 0), .int .i64 (.v 2), .bool (.v 3), .int .i64 (.i 0), .str (.s []), .str (.s []), .int .i64 (.i 0), .int .i64 (.i 0), .sl .nil (.n 0) (.n 0), .sl (.v 13) (.v 14) (.v 15)])) [(.a 9, .prop 12), (.a 13, .prop 16)])
(.ret (.w (.agg [.int .i64 (.v 0), .int .i64 (.i 0), .int .i64 (.v 2), .bool (.v 3), .int .i64 (.i 0), .str (.s []), .str (.s []), .int .i64 (.i 0), .int .i64 (.i 0), .sl .nil (.n 0) (.n 0), .sl .nil (.n 0) (.n 0)])) [(.a 9, .prop 12), (.a 13, .prop 16)])))))))
theorem tree_rTold : tree Tryd.prog { keep := [8, 17, 16, 11, 99999, 14, 29, 6, 5, 7, 99999], outl := true, opn := true, rdf := true } Tryd.f9 [.agg [.int .i64 (.v 0), .int .i64 (.v 1), .int .i64 (.v 2), .bool (.v 3), .int .i64 (.v 4), .str (.v 5), .str (.v 6), .int .i64 (.v 7), .int .i64 (.v 8), .sl (.v 9) (.v 10) (.v 11), .sl (.v 13) (.v 14) (.v 15)]] [(.a 9, .prop 12), (.a 13, .prop 16)] 17 = t_rTold := by kernel_rfl
def t_rSame : T :=
(.new
(.new
(.br (.o2 .eq (.v 0) (.v 17))
(.br (.o2 .eq (.v 1) (.v 18))
(.br (.o2 .eq (.v 2) (.v 19))
(.br (.o2 .beq (.v 3) (.v 20))
(.call 14 [.agg [.int .i64 (.v 4), .str (.v 5), .str (.v 6), .int .i64 (.v 7), .int .i64 (.v 8), .sl (.v 9) (.v 10) (.v 11)], .agg [.int .i64 (.v 21), .str (.v 22), .str (.v 23), .int .i64 (.v 24), .int .i64 (.v 25), .sl (.v 26) (.v 27) (.v 28)]] [(.a 9, .prop 12), (.a 26, .prop 29)] [.c] (.w (.a (.bool (.v 36)))) [(.a 9, .prop 12), (.a 26, .prop 29)]
(.br (.v 36)
(.read (.convert 22 9 (.tmp 40)) 9 [(40, .w (.a (.sl (.v 13) (.v 14) (.v 15))))] [(.a 13, .prop 16)] [.s] (.w (.a (.str (.v 37))))
(.read (.convert 22 9 (.tmp 43)) 9 [(43, .w (.a (.sl (.v 30) (.v 31) (.v 32))))] [(.a 30, .prop 33)] [.s] (.w (.a (.str (.v 38))))
(.ret (.w (.a (.bool (.o2 .seq (.v 37) (.v 38))))) [(.a 9, .prop 12), (.a 13, .prop 16), (.a 26, .prop 29), (.a 30, .prop 33)])))
(.ret (.w (.a (.bool (.c false)))) [(.a 9, .prop 12), (.a 13, .prop 16), (.a 26, .prop 29), (.a 30, .prop 33)])))
(.ret (.w (.a (.bool (.c false)))) [(.a 9, .prop 12), (.a 13, .prop 16), (.a 26, .prop 29), (.a 30, .prop 33)]))
(.ret (.w (.a (.bool (.c false)))) [(.a 9, .prop 12), (.a 13, .prop 16), (.a 26, .prop 29), (.a 30, .prop 33)]))
(.ret (.w (.a (.bool (.c false)))) [(.a 9, .prop 12), (.a 13, .prop 16), (.a 26, .prop 29), (.a 30, .prop 33)]))
(.ret (.w (.a (.bool (.c false)))) [(.a 9, .prop 12), (.a 13, .prop 16), (.a 26, .prop 29), (.a 30, .prop 33)]))))
theorem tree_rSame : tree Tryd.prog { keep := [8, 17, 16, 11, 99999, 14, 29, 6, 5, 7, 99999], outl := true, opn := true, rdf := true } Tryd.f8 [.agg [.int .i64 (.v 0), .int .i64 (.v 1), .int .i64 (.v 2), .bool (.v 3), .int .i64 (.v 4), .str (.v 5), .str (.v 6), .int .i64 (.v 7), .int .i64 (.v 8), .sl (.v 9) (.v 10) (.v 11), .sl (.v 13) (.v 14) (.v 15)], .agg [.int .i64 (.v 17), .int .i64 (.v 18), .int .i64 (.v 19), .bool (.v 20), .int .i64 (.v 21), .str (.v 22), .str (.v 23), .int .i64 (.v 24), .int .i64 (.v 25), .sl (.v 26) (.v 27) (.v 28), .sl (.v 30) (.v 31) (.v 32)]] [(.a 9, .prop 12), (.a 13, .prop 16), (.a 26, .prop 29), (.a 30, .prop 33)] 34 = t_rSame := by kernel_rfl
def t_rSameCall : T :=
(.new
(.new
(.br (.o2 .eq (.v 0) (.v 9))
(.br (.o2 .seq (.v 1) (.v 10))
(.br (.o2 .seq (.v 2) (.v 11))
(.br (.o2 .eq (.v 3) (.v 12))
(.br (.o2 .eq (.v 4) (.v 13))
(.call 29 [.a (.sl (.v 5) (.v 6) (.v 7)), .a (.sl (.v 14) (.v 15) (.v 16))] [(.a 5, .prop 8), (.a 14, .prop 17)] [.c] (.w (.a (.bool (.v 20)))) [(.a 5, .prop 8), (.a 14, .prop 17)]
(.ret (.w (.a (.bool (.v 20)))) [(.a 5, .prop 8), (.a 14, .prop 17)]))
(.ret (.w (.a (.bool (.c false)))) [(.a 5, .prop 8), (.a 14, .prop 17)]))
(.ret (.w (.a (.bool (.c false)))) [(.a 5, .prop 8), (.a 14, .prop 17)]))
(.ret (.w (.a (.bool (.c false)))) [(.a 5, .prop 8), (.a 14, .prop 17)]))
(.ret (.w (.a (.bool (.c false)))) [(.a 5, .prop 8), (.a 14, .prop 17)]))
(.ret (.w (.a (.bool (.c false)))) [(.a 5, .prop 8), (.a 14, .prop 17)]))))
theorem tree_rSameCall : tree Tryd.prog { keep := [8, 17, 16, 11, 99999, 14, 29, 6, 5, 7, 99999], outl := true, opn := true, rdf := true } Tryd.f14 [.agg [.int .i64 (.v 0), .str (.v 1), .str (.v 2), .int .i64 (.v 3), .int .i64 (.v 4), .sl (.v 5) (.v 6) (.v 7)], .agg [.int .i64 (.v 9), .str (.v 10), .str (.v 11), .int .i64 (.v 12), .int .i64 (.v 13), .sl (.v 14) (.v 15) (.v 16)]] [(.a 5, .prop 8), (.a 14, .prop 17)] 18 = t_rSameCall := by kernel_rfl
def t_r01Same : T :=
(.br (.o1 .not (.o2 .eq (.o1 .ofNat (.v 1)) (.o1 .ofNat (.v 5))))
(.ret (.w (.a (.bool (.c false)))) [(.a 0, .prop 3), (.a 4, .prop 7)])
(.loop [.c, .i] [.e (.o1 .not (.o1 .not (.c false))), .e (.o1 .neg (.o1 .neg (.i 0)))]
(.br (.o2 .lt (.v 9) (.o1 .ofNat (.v 1)))
(.need (.o2 .le (.i 0) (.v 9))
(.need (.o1 .isSome (.v 0))
(.read (.load 5 (.tmp 19)) 5 [(19, .w (.a (.eptr 0 (.v 9) 1 0)))] [(.a 0, .prop 3)] [.i] (.w (.a (.int .u8 (.v 10))))
(.need (.o2 .lt (.v 9) (.o1 .ofNat (.v 5)))
(.need (.o1 .isSome (.v 4))
(.read (.load 5 (.tmp 23)) 5 [(23, .w (.a (.eptr 4 (.v 9) 1 0)))] [(.a 4, .prop 7)] [.i] (.w (.a (.int .u8 (.v 11))))
(.br (.o1 .not (.o2 .eq (.v 10) (.v 11)))
(.ret (.w (.a (.bool (.c false)))) [(.a 0, .prop 3), (.a 4, .prop 7)])
(.need (.o1 (.inr .i64) (.o2 .add (.v 9) (.i 1)))
(.again 0 [.e (.o1 .not (.o1 .not (.v 8))), .e (.o1 .neg (.o1 .neg (.o2 .add (.v 9) (.i 1))))])))))))))
(.ret (.w (.a (.bool (.c true)))) [(.a 0, .prop 3), (.a 4, .prop 7)]))))
theorem tree_r01Same : tree Tryd.prog { keep := [8, 17, 16, 11, 99999, 14, 29, 6, 5, 7, 99999], outl := true, opn := true, rdf := true } Tryd.f29 [.a (.sl (.v 0) (.v 1) (.v 2)), .a (.sl (.v 4) (.v 5) (.v 6))] [(.a 0, .prop 3), (.a 4, .prop 7)] 8 = t_r01Same := by kernel_rfl
def t_speaks22 : T :=
(.call 7 [.agg [.int .i64 (.i 5), .int .i64 (.i 8), .int .i64 (.i 0), .bool (.c false), .int .i64 (.i 0), .str (.s []), .str (.s []), .int .i64 (.i 0), .int .i64 (.i 0), .sl .nil (.n 0) (.n 0), .sl .nil (.n 0) (.n 0)]] [] [.s] (.w (.a (.str (.v 0)))) []
(.ret (.w (.a (.bool (.o2 .seq (.v 0) (.s [116, 105, 99, 107, 32, 56]))))) []))
theorem tree_speaks22 : tree Tryd.prog { keep := [8, 17, 16, 11, 99999, 14, 29, 6, 5, 7, 99999], outl := true, opn := true, rdf := true } Tryd.f5 [] [] 0 = t_speaks22 := by kernel_rfl
def t_taleReads : T :=
(.call 5 [] [] [.c] (.w (.a (.bool (.v 1)))) []
(.br (.o1 .not (.v 1))
(.ret (.w (.a (.bool (.c false)))) [])
(.br (.o2 .lt (.i 1000) (.o1 .ofNat (.o1 .size (.v 0))))
(.ret (.w (.a (.bool (.c true)))) [])
(.call 10 [.a (.str (.v 0))] [] [.i, .i, .i, .c, .i, .s, .s, .i, .i, .a, .n, .n, .p, .a, .n, .n, .p, .i] (.tup [.agg [.int .i64 (.v 2), .int .i64 (.v 3), .int .i64 (.v 4), .bool (.v 5), .int .i64 (.v 6), .str (.v 7), .str (.v 8), .int .i64 (.v 9), .int .i64 (.v 10), .sl (.v 11) (.v 12) (.v 13), .sl (.v 15) (.v 16) (.v 17)], .a (.int .i64 (.v 19))]) [(.a 11, .prop 14), (.a 15, .prop 18)]
(.new
(.br (.o1 .not (.o2 .eq (.v 19) (.i 0)))
(.br (.o2 .eq (.v 19) (.i 3))
(.call 8 [.agg [.int .i64 (.v 2), .int .i64 (.v 3), .int .i64 (.v 4), .bool (.v 5), .int .i64 (.v 6), .str (.v 7), .str (.v 8), .int .i64 (.v 9), .int .i64 (.v 10), .sl (.v 11) (.v 12) (.v 13), .sl (.v 15) (.v 16) (.v 17)], .agg [.int .i64 (.i 0), .int .i64 (.i 0), .int .i64 (.i 0), .bool (.c false), .int .i64 (.i 0), .str (.s []), .str (.s []), .int .i64 (.i 0), .int .i64 (.i 0), .sl .nil (.n 0) (.n 0), .sl .nil (.n 0) (.n 0)]] [(.a 11, .prop 14), (.a 15, .prop 18)] [.c] (.w (.a (.bool (.v 21)))) [(.a 11, .prop 14), (.a 15, .prop 18)]
(.ret (.w (.a (.bool (.v 21)))) []))
(.ret (.w (.a (.bool (.c false)))) []))
(.join [.c, .p, .p]
(.br (.o1 .not (.o2 .seq (.v 0) (.s [63])))
(.call 11 [.agg [.int .i64 (.v 2), .int .i64 (.v 3), .int .i64 (.v 4), .bool (.v 5), .int .i64 (.v 6), .str (.v 7), .str (.v 8), .int .i64 (.v 9), .int .i64 (.v 10), .sl (.v 11) (.v 12) (.v 13), .sl (.v 15) (.v 16) (.v 17)]] [(.a 11, .prop 14), (.a 15, .prop 18)] [.s] (.w (.a (.str (.v 21)))) [(.a 11, .prop 14), (.a 15, .prop 18)]
(.br (.o2 .seq (.v 21) (.v 0))
(.call 9 [.agg [.int .i64 (.v 2), .int .i64 (.v 3), .int .i64 (.v 4), .bool (.v 5), .int .i64 (.v 6), .str (.v 7), .str (.v 8), .int .i64 (.v 9), .int .i64 (.v 10), .sl (.v 11) (.v 12) (.v 13), .sl (.v 15) (.v 16) (.v 17)]] [(.a 11, .prop 14), (.a 15, .prop 18)] [.i, .i, .i, .c, .i, .s, .s, .i, .i, .a, .n, .n, .p, .a, .n, .n, .p, .p, .p] (.w (.agg [.int .i64 (.v 22), .int .i64 (.v 23), .int .i64 (.v 24), .bool (.v 25), .int .i64 (.v 26), .str (.v 27), .str (.v 28), .int .i64 (.v 29), .int .i64 (.v 30), .sl (.v 31) (.v 32) (.v 33), .sl (.v 35) (.v 36) (.v 37)])) [(.a 31, .prop 34), (.a 35, .prop 38), (.a 11, .prop 39), (.a 15, .prop 40)]
(.call 8 [.agg [.int .i64 (.v 2), .int .i64 (.v 3), .int .i64 (.v 4), .bool (.v 5), .int .i64 (.v 6), .str (.v 7), .str (.v 8), .int .i64 (.v 9), .int .i64 (.v 10), .sl (.v 11) (.v 12) (.v 13), .sl (.v 15) (.v 16) (.v 17)], .agg [.int .i64 (.v 22), .int .i64 (.v 23), .int .i64 (.v 24), .bool (.v 25), .int .i64 (.v 26), .str (.v 27), .str (.v 28), .int .i64 (.v 29), .int .i64 (.v 30), .sl (.v 31) (.v 32) (.v 33), .sl (.v 35) (.v 36) (.v 37)]] [(.a 11, .prop 39), (.a 15, .prop 40), (.a 31, .prop 34), (.a 35, .prop 38)] [.c] (.w (.a (.bool (.v 41)))) [(.a 11, .prop 39), (.a 15, .prop 40), (.a 31, .prop 34), (.a 35, .prop 38)]
(.again 0 [.e (.o1 .not (.o1 .not (.v 41))), .p [(.a 11, .prop 39)], .p [(.a 15, .prop 40)]])))
(.again 0 [.e (.o1 .not (.o1 .not (.c false))), .p [(.a 11, .prop 14)], .p [(.a 15, .prop 18)]])))
(.again 0 [.e (.o1 .not (.o1 .not (.c false))), .p [(.a 11, .prop 14)], .p [(.a 15, .prop 18)]]))
(.ret (.w (.a (.bool (.v 21)))) []))))))))
theorem tree_taleReads : tree Tryd.prog { keep := [8, 17, 16, 11, 99999, 14, 29, 6, 5, 7, 99999], outl := true, opn := true, rdf := true, jn := [((24, 21), some { ss := [.c, .p, .p], n := 24, tv := [(24, none), (25, none), (26, none), (27, none), (28, none), (29, none), (30, none), (31, none), (32, none), (33, none), (34, none), (35, none), (36, none), (37, none), (2, some (.w (.a (.bool (.v 21)))))], h := [(.a 11, .prop 22), (.a 15, .prop 23), (.b (.v 20), .cells [.int .i64 (.v 2), .int .i64 (.v 3), .int .i64 (.v 4), .bool (.v 5), .int .i64 (.v 6), .str (.v 7), .str (.v 8), .int .i64 (.v 9), .int .i64 (.v 10), .sl (.v 11) (.v 12) (.v 13), .sl (.v 15) (.v 16) (.v 17)] 26)], lk := [] })] } Tryd.f4 [.a (.str (.v 0))] [] 1 = t_taleReads := by kernel_rfl
end Go.Proofs.YtcpjdfihpdjkbaaDoor.RX



namespace Go.Proofs.YtcpjdfihpdjkbaaDoor
set_option linter.unusedSimpArgs false
set_option linter.unusedVariables false
open Go.Proofs.YtcpjdfihpdjkbaaDoor RX Go.RowKit
set_option maxRecDepth 100000

theorem u8in (x : Nat) (h : x < 256) : IntKind.u8.min ≤ (x : Int) ∧ (x : Int) ≤ IntKind.u8.max := ⟨by show (0 : Int) ≤ _; omega, by show _ ≤ (255 : Int); omega⟩
set_option maxHeartbeats 1000000 in
theorem rHex_ok (S : HP) (a : Option Addr) (n c : Nat) (l : List UInt8) (hr : RdL S a n (l.map u8v)) (hl : l.length = n) (hn : n ≤ 20000) : Tri Tryd.prog 17 #[.slice a n c] S (fun v => HP.and (v = sE (hexW l)) S) := by
  refine Tri.fact (φ := a = none → n = 0) (fun R h H => hr.none R _ H) fun hnil => ?_
  refine tri_of_tree (ρ := [.a a, .n n, .n c, .p S]) mixed Tryd.func17 tree_rHex ?_
  unfold t_rHex
  simp only [T.den, E.prop, E.den, RX.look, F1.app, F2.app, Uni.int_i, Uni.nat_n, Uni.bool_c, Uni.str_s, Uni.adr_a, Uni.val_v, Uni.hp_p, hden, cden, V.den, W.den, A.den, BR.den, SA.den, FV.den, capV, exs, exP, allP, Cur.app, List.map_cons, List.map_nil, List.cons_append, List.nil_append, List.drop_succ_cons, List.drop_zero, List.length_cons, List.length_nil, Nat.zero_add, Nat.reduceAdd, Int.neg_neg, Bool.not_not, List.append_nil, Nat.add_zero, List.getElem?_cons_zero, List.getElem?_cons_succ, Decidable.not_not, semW_eq, semW_load, semW_append, ne_eq, Nat.reduceEqDiff, not_false_eq_true]
  intro b
  refine ⟨fun a' n' c' i P => ∃ k : Nat, i = k ∧ k ≤ n ∧ n' = 2 * k ∧ HP.ent P (OwB a' (2 * k) c' (hexL (l.take k))), fun _ _ _ i _ => n - i.toNat, ⟨0, rfl, Nat.zero_le _, rfl, .of fun R h H => ?_⟩, ?_⟩
  · rw [List.take_zero]
    exact ⟨rfl, .inr ⟨b, _, rfl, H, Nat.le_refl _, by unfold maxLen; omega, rfl, rfl⟩⟩
  rintro a' _ c' _ P ⟨k, rfl, hk, rfl, hP⟩
  refine ⟨fun hlt => ⟨by omega, fun _ => ⟨?_, fun _ => ?_⟩⟩, fun hge => ?_⟩
  · cases a with
    | none => have := hnil rfl; omega
    | some _ => rfl
  · have hkl : k < l.length := by omega
    have h256 : l[k].toNat < 256 := l[k].toNat_lt
    have hx16 : l[k].toNat / 16 < 16 := by omega
    have e16 : ((l[k].toNat : Nat) : Int).tdiv 16 = ((l[k].toNat / 16 : Nat) : Int) := rfl
    have m16 : ((l[k].toNat : Nat) : Int).tmod 16 = ((l[k].toNat % 16 : Nat) : Int) := rfl
    refine ⟨l[k].toNat, loadB hr.rd (List.getElem?_eq_getElem hkl), ?_⟩
    rw [e16]
    refine ⟨u8in _ (by omega), fun _ => ⟨(hexD (l[k].toNat / 16)).toNat, strIxG undStr rfl (digs_get hx16) rfl rfl, l[k].toNat, loadB hr.rd (List.getElem?_eq_getElem hkl), (hexD (l[k].toNat % 16)).toNat, strIxG undStr m16 (digs_get (Nat.mod_lt _ (by decide))) rfl rfl, fun y => ?_⟩⟩
    refine (append8 a' (2 * k) c' (hexL (l.take k)) (HP.one y (.cells ((hex1 l[k]).map u8v).toArray 5 (0, 0))) (some ⟨y, 0, none⟩) 2 2 (hex1 l[k]) ⟨one_rd y _ _, fun _ _ _ h => by cases h⟩ rfl (fun _ => rfl) (by omega)).conseq (K := HP.tt) ((HP.ent.sep2 hP (.refl _)).trans (.of fun R h H => HP.sep_tt H)) fun v => .of fun R h H => ?_
    obtain ⟨a2, c2, rfl, H1⟩ := HP.sep_left H
    refine ⟨a2, 2 * k + 2, c2, _, rfl, ⟨inI64t _ (by omega) (by omega), fun _ => ⟨⟨k + 1, by omega, by omega, by omega, .of fun R h H => ?_⟩, by dsimp only; omega⟩⟩, H1⟩
    have e : hexL (l.take (k + 1)) = hexL (l.take k) ++ hex1 l[k] := by
      rw [List.take_succ_eq_append_getElem hkl]
      unfold hexL
      rw [List.flatMap_append]
      simp
    rw [e]
    exact H
  · obtain rfl : k = n := by omega
    rw [List.take_of_length_le (by omega)] at hP
    refine ⟨fun h0 => .of fun R h H => ⟨?_, H⟩, fun h0 => ?_⟩
    · have : l = [] := List.eq_nil_of_length_eq_zero (by omega)
      rw [this]; rfl
    · have hne : l ≠ [] := fun e => by subst e; simp at hl; omega
      refine ⟨hexL l, ORead.ent hP (convT (RdL.ow _ _ _ _ _ _) (by rw [hexL_len]; omega)), .of fun R h H => ⟨congrArg sE (if_neg hne).symm, H⟩⟩

theorem run_boundU {w : World} {n y : Nat} {c : BoundsCode} (h : n ≤ y) : (Instr.sliceBound (.int .u64 (n : Int)) y c).run Tryd.prog w = .ok n w := by
  have : (0 : Int) ≤ n ∧ (n : Int) ≤ y := ⟨by omega, by omega⟩
  simp [Instr.sliceBound, asIntOf, this]
theorem sliceU (s : List UInt8) (lo hi : Nat) (h1 : lo ≤ hi) (h2 : hi ≤ s.length) (Q : HP) :
    ORead Tryd.prog (sliceS 9 (sE s) (some (.int .u64 lo)) (some (.int .u64 hi)) none) Q (sE ((s.take hi).drop lo)) := fun w R h F st a => by
  have e : (⟨s.toArray⟩ : ByteArray).extract lo hi = ⟨((s.take hi).drop lo).toArray⟩ := by
    have : ((⟨s.toArray⟩ : ByteArray).extract lo hi).data = (((s.take hi).drop lo).toArray) := by
      rw [ByteArray.data_extract]
      apply Array.ext'
      simp [List.drop_take]
    cases hq : (⟨s.toArray⟩ : ByteArray).extract lo hi
    rw [hq] at this
    simp only at this
    rw [this]
  have hs : (⟨s.toArray⟩ : ByteArray).size = s.length := rfl
  unfold sliceS Instr.sliceAt Instr.slice sE
  simp [RX.run_underlying undStr, Instr.sliceBounds, hs, run_boundU, h1, h2, e]
def tenL : List UInt8 := [48, 49, 50, 51, 52, 53, 54, 55, 56, 57]
theorem dig1 : ∀ d : Fin 10, (tenL.take (d.val + 1)).drop d.val = [UInt8.ofNat (48 + d.val)] := by decide
def DigI (M k m : Nat) (s : List UInt8) : Prop := (k = 0 ∧ m = M ∧ s = []) ∨ (0 < k ∧ s.length = k ∧ ((0 < m ∧ Lib.decDigits M = Lib.decDigits m ++ s) ∨ (m = 0 ∧ Lib.decDigits M = s)))
theorem DigI.next {M k m : Nat} {s : List UInt8} (h : DigI M k m s) (hm : 0 < m ∨ k = 0) : DigI M (k + 1) (m / 10) (UInt8.ofNat (48 + m % 10) :: s) := by
  have e : Lib.decDigits M = Lib.decDigits m ++ s ∧ s.length = k := by
    rcases h with ⟨rfl, rfl, rfl⟩ | ⟨h0, hl, ⟨h1, h2⟩ | ⟨h1, h2⟩⟩
    · simp
    · exact ⟨h2, hl⟩
    · omega
  refine .inr ⟨by omega, by simp [e.2], ?_⟩
  rw [e.1]
  by_cases h10 : m < 10
  · refine .inr ⟨by omega, ?_⟩
    rw [Lib.decDigits, dif_pos h10, Nat.mod_eq_of_lt h10]; rfl
  · refine .inl ⟨by omega, ?_⟩
    rw [Lib.decDigits, dif_neg h10]; simp
theorem DigI.done {M k : Nat} {s : List UInt8} (h : DigI M k 0 s) (hk : k ≠ 0) : s = Lib.decDigits M := by
  rcases h with ⟨rfl, _⟩ | ⟨h0, hl, ⟨h1, h2⟩ | ⟨h1, h2⟩⟩
  · exact absurd rfl hk
  · omega
  · exact h2.symm
theorem DigI.low {M k m : Nat} {s : List UInt8} (h : DigI M k m s) (hM : M < 2 ^ 64) (hb : m * 10 ^ k ≤ M) : m < 2 ^ 64 := by
  have : 1 ≤ 10 ^ k := Nat.one_le_pow _ _ (by decide)
  have := Nat.le_mul_of_pos_right m this
  omega
theorem DigI.next' {M k m : Nat} {s : List UInt8} (h : m * 10 ^ k ≤ M) : m / 10 * 10 ^ (k + 1) ≤ M := by
  rw [Nat.pow_succ, Nat.mul_comm (10 ^ k), ← Nat.mul_assoc]
  exact Nat.le_trans (Nat.mul_le_mul_right _ (Nat.div_mul_le_self m 10)) h
theorem wrapU (x : Int) (h1 : 0 ≤ x) (h2 : x < 18446744073709551616) : IntKind.u64.wrap x = x := by
  show x % 18446744073709551616 = x
  exact Int.emod_eq_of_lt h1 h2
def IntI (M : Nat) (s : List UInt8) (m i : Int) : Prop := ∃ k q : Nat, i = k ∧ m = q ∧ k ≤ 20 ∧ DigI M k q s ∧ q * 10 ^ k ≤ M
theorem IntI.out {M : Nat} {s : List UInt8} {m i : Int} (h : IntI M s m i) (hM : M < 18446744073709551616) : ((¬ 0 < m ∧ ¬ i = 0) ∨ ¬ i < 20) → s = Lib.decDigits M ∧ s.length ≤ 20 := by
  obtain ⟨k, q, rfl, rfl, hk, hd, hb⟩ := h
  intro ho
  obtain rfl : q = 0 := by
    rcases ho with h | h
    · omega
    · obtain rfl : k = 20 := by omega
      have : (10 : Nat) ^ 20 = 100000000000000000000 := by decide
      omega
  refine ⟨hd.done (by omega), ?_⟩
  rcases hd with ⟨rfl, _, rfl⟩ | ⟨_, h, _⟩
  · simp
  · omega
theorem IntI.read {M : Nat} {s : List UInt8} {m i : Int} (h : IntI M s m i) (hM : M < 18446744073709551616) (hm : 0 < m ∨ i = 0) (h20 : i < 20) {K : HP} :
    ∃ x : List UInt8, (∀ {ar : List (Nat × Value)} {ty : TypeId} {o1 o2 o3 : Operand}, arW ar o1 = .string ⟨tenL.toArray⟩ → arW ar o2 = .int .u64 (m.tmod 10) → arW ar o3 = .int .u64 (IntKind.u64.wrap (m.tmod 10 + 1)) → ORead Tryd.prog (semW (.slice 9 o1 (some o2) (some o3) none) ty ar) K (.string ⟨x.toArray⟩)) ∧ ((x.length + s.length : Nat) : Int) ≤ 9223372036854775807 ∧ (IntKind.u64.min ≤ m.tdiv 10 ∧ m.tdiv 10 ≤ IntKind.u64.max) ∧ (IntKind.i64.min ≤ i + 1 ∧ i + 1 ≤ IntKind.i64.max) ∧ IntI M (x ++ s) (m.tdiv 10) (i + 1) ∧ 20 - (i + 1).toNat < 20 - i.toNat := by
  obtain ⟨k, q, rfl, rfl, hk, hd, hb⟩ := h
  have hq : q < 18446744073709551616 := hd.low (by omega) hb
  have e10 : ((q : Nat) : Int).tdiv 10 = ((q / 10 : Nat) : Int) := rfl
  have m10 : ((q : Nat) : Int).tmod 10 = ((q % 10 : Nat) : Int) := rfl
  have hl : s.length ≤ 20 := by
    rcases hd with ⟨rfl, _, rfl⟩ | ⟨_, h, _⟩
    · simp
    · omega
  have hx : (tenL.take (q % 10 + 1)).drop (q % 10) = [UInt8.ofNat (48 + q % 10)] := dig1 ⟨q % 10, Nat.mod_lt _ (by decide)⟩
  refine ⟨[UInt8.ofNat (48 + q % 10)], ?_, by simp; omega, ?_, inI64t _ (by omega) (by omega), ⟨k + 1, q / 10, by omega, e10, by omega, hd.next (by omega), DigI.next' (s := s) hb⟩, by omega⟩
  · intro ar ty o1 o2 o3 e1 e2 e3
    rw [semW_slice, e1]
    simp only [Option.map_some, Option.map_none, e2, e3, m10]
    rw [wrapU _ (by omega) (by omega)]
    have := sliceU tenL (q % 10) (q % 10 + 1) (by omega) (by show _ ≤ 10; omega) K
    rw [hx] at this
    exact this
  · rw [e10]
    exact ⟨by show (0 : Int) ≤ _; omega, by show _ ≤ (18446744073709551615 : Int); omega⟩
set_option maxHeartbeats 1000000 in
theorem rInt_ok (n : Int) (hn : in64 n) (K : HP) : Tri Tryd.prog 16 #[.int .i64 n] K (fun v => HP.and (v = sE (Lib.itoa n)) K) := by
  refine Tri.weak (A := HP.sep HP.tt K) (B := fun v => HP.sep (HP.pure (v = sE (Lib.itoa n))) K) (Tri.frame ?_ K) (fun R h H => HP.tt_sep H) fun v R h H => ⟨HP.sep_left H, HP.sep_right H⟩
  obtain ⟨hn1, hn2⟩ : -9223372036854775808 ≤ n ∧ n ≤ 9223372036854775807 := hn
  refine tri_of_tree (ρ := [.i n]) mixed Tryd.func16 tree_rInt ?_
  unfold t_rInt
  simp only [T.den, E.prop, E.den, RX.look, F1.app, F2.app, Uni.int_i, Uni.nat_n, Uni.bool_c, Uni.str_s, Uni.adr_a, Uni.val_v, Uni.hp_p, hden, cden, V.den, W.den, A.den, BR.den, SA.den, FV.den, capV, exs, exP, allP, Cur.app, List.map_cons, List.map_nil, List.cons_append, List.nil_append, List.drop_succ_cons, List.drop_zero, List.length_cons, List.length_nil, Nat.zero_add, Nat.reduceAdd, Int.neg_neg, Bool.not_not, List.append_nil, Nat.add_zero, List.getElem?_cons_zero, List.getElem?_cons_succ, Decidable.not_not, semW_eq, ne_eq, Nat.reduceEqDiff, not_false_eq_true]
  have init : ∀ m : Int, 0 ≤ m → IntI m.toNat [] m 0 := fun m h => ⟨0, m.toNat, rfl, by omega, by omega, .inl ⟨rfl, rfl, rfl⟩, by simp⟩
  refine ⟨fun hneg => ⟨inI64t _ (by omega) (by omega), fun _ => ⟨inI64t _ (by omega) (by omega), fun _ => ?_⟩⟩, fun hpos => ?_⟩
  · rw [wrapU (0 - (n + 1)) (by omega) (by omega), wrapU _ (by omega) (by omega)]
    have hM : n.natAbs < 18446744073709551616 := by omega
    refine ⟨fun s m i => IntI n.natAbs s m i, fun _ _ i => 20 - i.toNat, ?_, fun s m i hI => ⟨fun h20 => ⟨fun h0 => ?_, fun h0 => ⟨fun hi => ?_, fun hi => ?_⟩⟩, fun h20 => ?_⟩⟩
    · have := init (0 - (n + 1) + 1) (by omega)
      rwa [show (0 - (n + 1) + 1).toNat = n.natAbs by omega] at this
    · obtain ⟨x, h1, h2, h3, h4, h5, h6⟩ := hI.read hM (K := HP.tt) (.inl h0) h20
      exact ⟨x, h1 rfl rfl rfl, h2, fun _ => ⟨h3, fun _ => ⟨h4, fun _ => ⟨h5, h6⟩⟩⟩⟩
    · obtain ⟨x, h1, h2, h3, h4, h5, h6⟩ := hI.read hM (K := HP.tt) (.inr hi) h20
      exact ⟨x, h1 rfl rfl rfl, h2, fun _ => ⟨h3, fun _ => ⟨h4, fun _ => ⟨h5, h6⟩⟩⟩⟩
    · obtain ⟨rfl, hl⟩ := hI.out hM (.inl ⟨h0, hi⟩)
      refine ⟨by omega, fun _ => .of fun R h H => ?_⟩
      show _ = sE _
      unfold Lib.itoa
      rw [if_pos hneg]; rfl
    · obtain ⟨rfl, hl⟩ := hI.out hM (.inr h20)
      refine ⟨by omega, fun _ => .of fun R h H => ?_⟩
      show _ = sE _
      unfold Lib.itoa
      rw [if_pos hneg]; rfl
  · rw [wrapU _ (by omega) (by omega)]
    have hM : n.toNat < 18446744073709551616 := by omega
    refine ⟨fun s m i => IntI n.toNat s m i, fun _ _ i => 20 - i.toNat, init n (by omega), fun s m i hI => ⟨fun h20 => ⟨fun h0 => ?_, fun h0 => ⟨fun hi => ?_, fun hi => ?_⟩⟩, fun h20 => ?_⟩⟩
    · obtain ⟨x, h1, h2, h3, h4, h5, h6⟩ := hI.read hM (K := HP.tt) (.inl h0) h20
      exact ⟨x, h1 rfl rfl rfl, h2, fun _ => ⟨h3, fun _ => ⟨h4, fun _ => ⟨h5, h6⟩⟩⟩⟩
    · obtain ⟨x, h1, h2, h3, h4, h5, h6⟩ := hI.read hM (K := HP.tt) (.inr hi) h20
      exact ⟨x, h1 rfl rfl rfl, h2, fun _ => ⟨h3, fun _ => ⟨h4, fun _ => ⟨h5, h6⟩⟩⟩⟩
    · obtain ⟨rfl, hl⟩ := hI.out hM (.inl ⟨h0, hi⟩)
      refine .of fun R h H => ?_
      show _ = sE _
      unfold Lib.itoa
      rw [if_neg hpos]; rfl
    · obtain ⟨rfl, hl⟩ := hI.out hM (.inr h20)
      refine .of fun R h H => ?_
      show _ = sE _
      unfold Lib.itoa
      rw [if_neg hpos]; rfl
end Go.Proofs.YtcpjdfihpdjkbaaDoor



namespace Go.Proofs.YtcpjdfihpdjkbaaDoor
set_option linter.unusedSimpArgs false
set_option linter.unusedVariables false
open Go.Proofs.YtcpjdfihpdjkbaaDoor RX Go.RowKit
set_option maxRecDepth 100000

def ixSl (t : TypeId) (u v : Value) : Sem Next := do pure (.value (← Instr.indexAt t u v))
theorem semW_ixSl {t ty : TypeId} {i j : Nat} {u v : Value} (h : i ≠ j) : semW (.indexAddr t (.tmp i) (.tmp j)) ty [(i, u), (j, v)] = ixSl t u v := by
  have h' : (i == j) = false := by simpa using h
  simp [semW, execOp, arW, h', ixSl]
theorem ixSl_ok {t el : TypeId} (ht : Tryd.prog.underlying t = some (.slice el)) (hi : (Tryd.prog.info? el).isSome = true) (hz : szT Tryd.prog el = 1) {b n c k : Nat} {x : Int} (hx : x = k) (hk : k < n) {A : HP} :
    ORead Tryd.prog (ixSl t (.slice (some ⟨b, 0, none⟩) n c) (.int .i64 x)) A (.pointer (some ⟨b, k, none⟩)) := fun w R h F s _ => by
  obtain ⟨i, hi⟩ := Option.isSome_iff_exists.1 hi
  subst hx
  unfold ixSl
  rw [Sem.run_bind, RX.run_indexAt_slice ht hi (by omega) (by omega), hz]
  simp [addr_add]
theorem ldOne {t : TypeId} {d : TypeDesc} (hd : Tryd.prog.underlying t = some d) (ha : aggT Tryd.prog t = false) (hz : szT Tryd.prog t = 1) {b k : Nat} {cs : Array Value} {ty : TypeId} {v : Value} (hk : cs.toList[k]? = some v) : ORead Tryd.prog (loadS t (.pointer (some ⟨b, k, none⟩))) (HP.one b (.cells cs ty (0, 0))) v := by
  have := load1_ok (t := t) hd ha hz (one_rd b cs ty) (k := k) (off := 0) (v := v) hk
  simpa [addr_add] using this
def nms : List (List UInt8) := [[99, 97, 108, 108], [115, 110, 97, 112], [116, 114, 105, 109], [103, 105, 118, 101, 117, 112], [116, 105, 99, 107], [100, 101, 108, 105, 118, 101, 114], [100, 114, 111, 112], [99, 114, 97, 115, 104]]
theorem nms_at {k : Int} (h1 : 1 ≤ k) (h8 : k ≤ 8) : nms[(k - 1).toNat]? = some (formS k).1 ∧ (formS k).1 ≠ [] := by
  have : k = 1 ∨ k = 2 ∨ k = 3 ∨ k = 4 ∨ k = 5 ∨ k = 6 ∨ k = 7 ∨ k = 8 := by omega
  rcases this with rfl | rfl | rfl | rfl | rfl | rfl | rfl | rfl <;> exact ⟨rfl, by decide⟩
theorem formS_out {k : Int} (h : k < 1 ∨ 8 < k) : formS k = ([], []) := by
  unfold formS
  rw [if_neg (by omega), if_neg (by omega), if_neg (by omega), if_neg (by omega), if_neg (by omega), if_neg (by omega), if_neg (by omega), if_neg (by omega)]
theorem line1 {e : EvS} (h : e.kind = 1) : lineS e = (formS e.kind).1 ++ [32] ++ Lib.itoa e.who ++ [32] ++ Lib.itoa e.ck ++ [32] ++ hexW e.path ++ [32] ++ hexW e.other ++ [32] ++ Lib.itoa e.off ++ [32] ++ Lib.itoa e.n ++ [32] ++ hexW e.data := by
  unfold lineS
  rw [h, if_neg (by decide)]
  show Lib.join ((formS 1).1 :: (Fld.who :: callF).map (Fld.put e)) [32] = _
  simp [Lib.join_cons, Lib.joinTail, callF, Fld.put]
theorem line6 {e : EvS} (h : e.kind = 6) : lineS e = (formS e.kind).1 ++ [32] ++ Lib.itoa e.at_ ++ 32 :: boolW e.stays := by
  unfold lineS
  rw [h, if_neg (by decide)]
  show Lib.join ((formS 6).1 :: [Fld.at_, .stays].map (Fld.put e)) [32] = _
  simp [Lib.join_cons, Lib.joinTail, Fld.put]
theorem line7 {e : EvS} (h : e.kind = 7) : lineS e = (formS e.kind).1 ++ [32] ++ Lib.itoa e.at_ := by
  unfold lineS
  rw [h, if_neg (by decide)]
  show Lib.join ((formS 7).1 :: [Fld.at_].map (Fld.put e)) [32] = _
  simp [Lib.join_cons, Lib.joinTail, Fld.put]
theorem line8 {e : EvS} (h : e.kind = 8) : lineS e = (formS e.kind).1 ++ [32] ++ Lib.itoa e.who ++ [32] ++ hexW e.picks := by
  unfold lineS
  rw [h, if_neg (by decide)]
  show Lib.join ((formS 8).1 :: [Fld.who, .picks].map (Fld.put e)) [32] = _
  simp [Lib.join_cons, Lib.joinTail, Fld.put]
theorem line2 {e : EvS} (h1 : 2 ≤ e.kind) (h2 : e.kind ≤ 5) : lineS e = (formS e.kind).1 ++ [32] ++ Lib.itoa e.who := by
  have : e.kind = 2 ∨ e.kind = 3 ∨ e.kind = 4 ∨ e.kind = 5 := by omega
  have : (formS e.kind).2 = [.who] := by rcases this with h | h | h | h <;> rw [h] <;> rfl
  unfold lineS
  rw [if_neg (nms_at (by omega) (by omega)).2, this]
  simp [Lib.join_cons, Lib.joinTail, Fld.put]
theorem line0 {e : EvS} (h : e.kind < 1 ∨ 8 < e.kind) : lineS e = [63] := by
  unfold lineS
  rw [formS_out h]; rfl
theorem undSt8 : Tryd.prog.underlying 40 = some (.slice 9) := by kernel_rfl
theorem itoa21 {x : Int} (h : in64 x) : (Lib.itoa x).length ≤ 21 := Lib.itoa_length_le x h.1 h.2
theorem hex20 {l : List UInt8} (h : l.length ≤ 20000) : (hexW l).length ≤ 40001 := by have := hexW_len l; omega
set_option maxHeartbeats 4000000 in
theorem rLine_ok (e : EvS) (r : EvA) (he : EvOk e) :
    Tri Tryd.prog 11 #[.agg (evL e r).toArray] (EvB e r) (fun v => HP.and (v = sE (lineS e)) (EvB e r)) := by
  refine tri_of_tree (ρ := [.i e.kind, .i e.who, .i e.at_, .c e.stays, .i e.ck, .s e.path, .s e.other, .i e.off, .i e.n, .a r.da, .n e.data.length, .n r.dc, .p (RoB r.da e.data.length e.data), .a r.pa, .n e.picks.length, .n r.pc, .p (RoB r.pa e.picks.length e.picks)]) mixed Tryd.func11 tree_rLine ?_
  unfold t_rLine
  simp (maxSteps := 3000000) only [T.den, E.prop, E.den, RX.look, F1.app, F2.app, Uni.int_i, Uni.nat_n, Uni.bool_c, Uni.str_s, Uni.adr_a, Uni.val_v, Uni.hp_p, hden, cden, V.den, W.den, A.den, BR.den, SA.den, FV.den, capV, exs, exP, allP, Cur.app, List.map_cons, List.map_nil, List.cons_append, List.nil_append, List.drop_succ_cons, List.drop_zero, List.length_cons, List.length_nil, Nat.zero_add, Nat.reduceAdd, Int.neg_neg, Bool.not_not, List.append_nil, Nat.add_zero, List.getElem?_cons_zero, List.getElem?_cons_succ, Decidable.not_not, semW_eq, semW_load, ne_eq, Nat.reduceEqDiff, not_false_eq_true]
  intro b b2
  refine ⟨fun h1 => .of fun R h H => ⟨?_, H⟩, fun h1 => ⟨fun h8 => .of fun R h H => ⟨?_, H⟩, fun h8 => ?_⟩⟩
  · rw [line0 (.inl h1)]; rfl
  · rw [line0 (.inr h8)]; rfl
  obtain ⟨n1, n2⟩ := nms_at (k := e.kind) (by omega) (by omega)
  have w1 := itoa21 he.who
  have w2 := itoa21 he.at_
  have w3 := itoa21 he.ck
  have w4 := itoa21 he.off
  have w5 := itoa21 he.n
  have w6 := hex20 he.path
  have w7 := hex20 he.other
  have w8 := hex20 he.data
  have w9 := hex20 he.picks
  have w0 := (form_len e.kind).1
  have l1 := @line1 e
  have l6 := @line6 e
  have l7 := @line7 e
  have l8 := @line8 e
  have l2 := @line2 e
  have T_who := rInt_ok e.who he.who HP.tt
  have T_at_ := rInt_ok e.at_ he.at_ HP.tt
  have T_ck := rInt_ok e.ck he.ck HP.tt
  have T_off := rInt_ok e.off he.off HP.tt
  have T_n := rInt_ok e.n he.n HP.tt
  have H_path := fun a c => rHex_ok (RoB a e.path.length e.path) a e.path.length c e.path (RdL.ro _ _ _ _) rfl he.path
  have H_other := fun a c => rHex_ok (RoB a e.other.length e.other) a e.other.length c e.other (RdL.ro _ _ _ _) rfl he.other
  have H_data := fun a c => rHex_ok (RoB a e.data.length e.data) a e.data.length c e.data (RdL.ro _ _ _ _) rfl he.data
  have H_picks := fun a c => rHex_ok (RoB a e.picks.length e.picks) a e.picks.length c e.picks (RdL.ro _ _ _ _) rfl he.picks
  generalize (formS e.kind).1 = nm at *
  refine ⟨inI64t _ (by omega) (by omega), fun _ => ⟨.pointer (some ⟨b2, (e.kind - 1).toNat, none⟩), ?_, nm, ?_, fun hk1 y => ⟨fun s => s = lineS e, ?_, fun s hs => .of fun R h H => ⟨?_, H⟩⟩, fun hk1 => ⟨fun hk6 => ⟨fun hs => ?_, fun hs => ?_⟩, fun hk6 => ⟨fun hk7 => ?_, fun hk7 => ⟨fun hk8 => ?_, fun hk8 => ?_⟩⟩⟩⟩⟩
  · rw [semW_ixSl (by decide)]
    exact ixSl_ok undSt8 (by kernel_rfl) szStr (by omega) (by omega)
  · refine ldOne undStr aggStr szStr ?_
    have : (nms.map sE)[(e.kind - 1).toNat]? = some (sE nm) := by rw [List.getElem?_map, n1]; rfl
    exact this
  · have L := l1 hk1
    clear l1 l6 l7 l8 l2 n1 n2
    repeat' (first
      | exact L.symm
      | (refine .of fun R h H => ⟨congrArg sE L.symm, H⟩)
      | (refine And.intro (by first | omega | (simp only [List.length_append, List.length_cons, List.length_nil]; omega)) fun _ => ?_)
      | ((with_reducible refine T_who.weak (fun _ _ h => h) ?_); rintro v R h ⟨rfl, H⟩; refine ⟨Lib.itoa e.who, rfl, ?_, H⟩; clear H)
      | ((with_reducible refine T_at_.weak (fun _ _ h => h) ?_); rintro v R h ⟨rfl, H⟩; refine ⟨Lib.itoa e.at_, rfl, ?_, H⟩; clear H)
      | ((with_reducible refine T_ck.weak (fun _ _ h => h) ?_); rintro v R h ⟨rfl, H⟩; refine ⟨Lib.itoa e.ck, rfl, ?_, H⟩; clear H)
      | ((with_reducible refine T_off.weak (fun _ _ h => h) ?_); rintro v R h ⟨rfl, H⟩; refine ⟨Lib.itoa e.off, rfl, ?_, H⟩; clear H)
      | ((with_reducible refine T_n.weak (fun _ _ h => h) ?_); rintro v R h ⟨rfl, H⟩; refine ⟨Lib.itoa e.n, rfl, ?_, H⟩; clear H)
      | ((with_reducible refine (H_path _ _).weak (fun _ _ h => h) ?_); rintro v R h ⟨rfl, H⟩; refine ⟨hexW e.path, rfl, ?_, H⟩; clear H)
      | ((with_reducible refine (H_other _ _).weak (fun _ _ h => h) ?_); rintro v R h ⟨rfl, H⟩; refine ⟨hexW e.other, rfl, ?_, H⟩; clear H)
      | ((with_reducible refine (H_data _ _).weak (fun _ _ h => h) ?_); rintro v R h ⟨rfl, H⟩; refine ⟨hexW e.data, rfl, ?_, H⟩; clear H)
      | ((with_reducible refine (H_picks _ _).weak (fun _ _ h => h) ?_); rintro v R h ⟨rfl, H⟩; refine ⟨hexW e.picks, rfl, ?_, H⟩; clear H)
      | (rw [semW_cnvT]; refine (strBT_ok _ HP.tt).weak (fun _ _ h => h) ?_; rintro v R h ⟨x, c, ⟨rfl, hc⟩, H⟩; refine ⟨some ⟨x, 0, none⟩, _, c, RoB (some ⟨x, 0, none⟩) _ _, rfl, ?_, HP.sep_left H⟩; clear H hc)
      | (refine And.intro ?_ ?_))
  · rw [hs]; rfl
  · have L := l6 hk6
    rw [hs] at L
    clear l1 l6 l7 l8 l2 n1 n2
    repeat' (first
      | exact L.symm
      | (refine .of fun R h H => ⟨congrArg sE L.symm, H⟩)
      | (refine And.intro (by first | omega | (simp only [List.length_append, List.length_cons, List.length_nil]; omega)) fun _ => ?_)
      | ((with_reducible refine T_who.weak (fun _ _ h => h) ?_); rintro v R h ⟨rfl, H⟩; refine ⟨Lib.itoa e.who, rfl, ?_, H⟩; clear H)
      | ((with_reducible refine T_at_.weak (fun _ _ h => h) ?_); rintro v R h ⟨rfl, H⟩; refine ⟨Lib.itoa e.at_, rfl, ?_, H⟩; clear H)
      | ((with_reducible refine T_ck.weak (fun _ _ h => h) ?_); rintro v R h ⟨rfl, H⟩; refine ⟨Lib.itoa e.ck, rfl, ?_, H⟩; clear H)
      | ((with_reducible refine T_off.weak (fun _ _ h => h) ?_); rintro v R h ⟨rfl, H⟩; refine ⟨Lib.itoa e.off, rfl, ?_, H⟩; clear H)
      | ((with_reducible refine T_n.weak (fun _ _ h => h) ?_); rintro v R h ⟨rfl, H⟩; refine ⟨Lib.itoa e.n, rfl, ?_, H⟩; clear H)
      | ((with_reducible refine (H_path _ _).weak (fun _ _ h => h) ?_); rintro v R h ⟨rfl, H⟩; refine ⟨hexW e.path, rfl, ?_, H⟩; clear H)
      | ((with_reducible refine (H_other _ _).weak (fun _ _ h => h) ?_); rintro v R h ⟨rfl, H⟩; refine ⟨hexW e.other, rfl, ?_, H⟩; clear H)
      | ((with_reducible refine (H_data _ _).weak (fun _ _ h => h) ?_); rintro v R h ⟨rfl, H⟩; refine ⟨hexW e.data, rfl, ?_, H⟩; clear H)
      | ((with_reducible refine (H_picks _ _).weak (fun _ _ h => h) ?_); rintro v R h ⟨rfl, H⟩; refine ⟨hexW e.picks, rfl, ?_, H⟩; clear H)
      | (rw [semW_cnvT]; refine (strBT_ok _ HP.tt).weak (fun _ _ h => h) ?_; rintro v R h ⟨x, c, ⟨rfl, hc⟩, H⟩; refine ⟨some ⟨x, 0, none⟩, _, c, RoB (some ⟨x, 0, none⟩) _ _, rfl, ?_, HP.sep_left H⟩; clear H hc)
      | (refine And.intro ?_ ?_))
  · have L := l6 hk6
    rw [show e.stays = false by simpa using hs] at L
    clear l1 l6 l7 l8 l2 n1 n2
    repeat' (first
      | exact L.symm
      | (refine .of fun R h H => ⟨congrArg sE L.symm, H⟩)
      | (refine And.intro (by first | omega | (simp only [List.length_append, List.length_cons, List.length_nil]; omega)) fun _ => ?_)
      | ((with_reducible refine T_who.weak (fun _ _ h => h) ?_); rintro v R h ⟨rfl, H⟩; refine ⟨Lib.itoa e.who, rfl, ?_, H⟩; clear H)
      | ((with_reducible refine T_at_.weak (fun _ _ h => h) ?_); rintro v R h ⟨rfl, H⟩; refine ⟨Lib.itoa e.at_, rfl, ?_, H⟩; clear H)
      | ((with_reducible refine T_ck.weak (fun _ _ h => h) ?_); rintro v R h ⟨rfl, H⟩; refine ⟨Lib.itoa e.ck, rfl, ?_, H⟩; clear H)
      | ((with_reducible refine T_off.weak (fun _ _ h => h) ?_); rintro v R h ⟨rfl, H⟩; refine ⟨Lib.itoa e.off, rfl, ?_, H⟩; clear H)
      | ((with_reducible refine T_n.weak (fun _ _ h => h) ?_); rintro v R h ⟨rfl, H⟩; refine ⟨Lib.itoa e.n, rfl, ?_, H⟩; clear H)
      | ((with_reducible refine (H_path _ _).weak (fun _ _ h => h) ?_); rintro v R h ⟨rfl, H⟩; refine ⟨hexW e.path, rfl, ?_, H⟩; clear H)
      | ((with_reducible refine (H_other _ _).weak (fun _ _ h => h) ?_); rintro v R h ⟨rfl, H⟩; refine ⟨hexW e.other, rfl, ?_, H⟩; clear H)
      | ((with_reducible refine (H_data _ _).weak (fun _ _ h => h) ?_); rintro v R h ⟨rfl, H⟩; refine ⟨hexW e.data, rfl, ?_, H⟩; clear H)
      | ((with_reducible refine (H_picks _ _).weak (fun _ _ h => h) ?_); rintro v R h ⟨rfl, H⟩; refine ⟨hexW e.picks, rfl, ?_, H⟩; clear H)
      | (rw [semW_cnvT]; refine (strBT_ok _ HP.tt).weak (fun _ _ h => h) ?_; rintro v R h ⟨x, c, ⟨rfl, hc⟩, H⟩; refine ⟨some ⟨x, 0, none⟩, _, c, RoB (some ⟨x, 0, none⟩) _ _, rfl, ?_, HP.sep_left H⟩; clear H hc)
      | (refine And.intro ?_ ?_))
  · have L := l7 hk7
    clear l1 l6 l7 l8 l2 n1 n2
    repeat' (first
      | exact L.symm
      | (refine .of fun R h H => ⟨congrArg sE L.symm, H⟩)
      | (refine And.intro (by first | omega | (simp only [List.length_append, List.length_cons, List.length_nil]; omega)) fun _ => ?_)
      | ((with_reducible refine T_who.weak (fun _ _ h => h) ?_); rintro v R h ⟨rfl, H⟩; refine ⟨Lib.itoa e.who, rfl, ?_, H⟩; clear H)
      | ((with_reducible refine T_at_.weak (fun _ _ h => h) ?_); rintro v R h ⟨rfl, H⟩; refine ⟨Lib.itoa e.at_, rfl, ?_, H⟩; clear H)
      | ((with_reducible refine T_ck.weak (fun _ _ h => h) ?_); rintro v R h ⟨rfl, H⟩; refine ⟨Lib.itoa e.ck, rfl, ?_, H⟩; clear H)
      | ((with_reducible refine T_off.weak (fun _ _ h => h) ?_); rintro v R h ⟨rfl, H⟩; refine ⟨Lib.itoa e.off, rfl, ?_, H⟩; clear H)
      | ((with_reducible refine T_n.weak (fun _ _ h => h) ?_); rintro v R h ⟨rfl, H⟩; refine ⟨Lib.itoa e.n, rfl, ?_, H⟩; clear H)
      | ((with_reducible refine (H_path _ _).weak (fun _ _ h => h) ?_); rintro v R h ⟨rfl, H⟩; refine ⟨hexW e.path, rfl, ?_, H⟩; clear H)
      | ((with_reducible refine (H_other _ _).weak (fun _ _ h => h) ?_); rintro v R h ⟨rfl, H⟩; refine ⟨hexW e.other, rfl, ?_, H⟩; clear H)
      | ((with_reducible refine (H_data _ _).weak (fun _ _ h => h) ?_); rintro v R h ⟨rfl, H⟩; refine ⟨hexW e.data, rfl, ?_, H⟩; clear H)
      | ((with_reducible refine (H_picks _ _).weak (fun _ _ h => h) ?_); rintro v R h ⟨rfl, H⟩; refine ⟨hexW e.picks, rfl, ?_, H⟩; clear H)
      | (rw [semW_cnvT]; refine (strBT_ok _ HP.tt).weak (fun _ _ h => h) ?_; rintro v R h ⟨x, c, ⟨rfl, hc⟩, H⟩; refine ⟨some ⟨x, 0, none⟩, _, c, RoB (some ⟨x, 0, none⟩) _ _, rfl, ?_, HP.sep_left H⟩; clear H hc)
      | (refine And.intro ?_ ?_))
  · have L := l8 hk8
    clear l1 l6 l7 l8 l2 n1 n2
    repeat' (first
      | exact L.symm
      | (refine .of fun R h H => ⟨congrArg sE L.symm, H⟩)
      | (refine And.intro (by first | omega | (simp only [List.length_append, List.length_cons, List.length_nil]; omega)) fun _ => ?_)
      | ((with_reducible refine T_who.weak (fun _ _ h => h) ?_); rintro v R h ⟨rfl, H⟩; refine ⟨Lib.itoa e.who, rfl, ?_, H⟩; clear H)
      | ((with_reducible refine T_at_.weak (fun _ _ h => h) ?_); rintro v R h ⟨rfl, H⟩; refine ⟨Lib.itoa e.at_, rfl, ?_, H⟩; clear H)
      | ((with_reducible refine T_ck.weak (fun _ _ h => h) ?_); rintro v R h ⟨rfl, H⟩; refine ⟨Lib.itoa e.ck, rfl, ?_, H⟩; clear H)
      | ((with_reducible refine T_off.weak (fun _ _ h => h) ?_); rintro v R h ⟨rfl, H⟩; refine ⟨Lib.itoa e.off, rfl, ?_, H⟩; clear H)
      | ((with_reducible refine T_n.weak (fun _ _ h => h) ?_); rintro v R h ⟨rfl, H⟩; refine ⟨Lib.itoa e.n, rfl, ?_, H⟩; clear H)
      | ((with_reducible refine (H_path _ _).weak (fun _ _ h => h) ?_); rintro v R h ⟨rfl, H⟩; refine ⟨hexW e.path, rfl, ?_, H⟩; clear H)
      | ((with_reducible refine (H_other _ _).weak (fun _ _ h => h) ?_); rintro v R h ⟨rfl, H⟩; refine ⟨hexW e.other, rfl, ?_, H⟩; clear H)
      | ((with_reducible refine (H_data _ _).weak (fun _ _ h => h) ?_); rintro v R h ⟨rfl, H⟩; refine ⟨hexW e.data, rfl, ?_, H⟩; clear H)
      | ((with_reducible refine (H_picks _ _).weak (fun _ _ h => h) ?_); rintro v R h ⟨rfl, H⟩; refine ⟨hexW e.picks, rfl, ?_, H⟩; clear H)
      | (rw [semW_cnvT]; refine (strBT_ok _ HP.tt).weak (fun _ _ h => h) ?_; rintro v R h ⟨x, c, ⟨rfl, hc⟩, H⟩; refine ⟨some ⟨x, 0, none⟩, _, c, RoB (some ⟨x, 0, none⟩) _ _, rfl, ?_, HP.sep_left H⟩; clear H hc)
      | (refine And.intro ?_ ?_))
  · have L := l2 (by omega) (by omega)
    clear l1 l6 l7 l8 l2 n1 n2
    repeat' (first
      | exact L.symm
      | (refine .of fun R h H => ⟨congrArg sE L.symm, H⟩)
      | (refine And.intro (by first | omega | (simp only [List.length_append, List.length_cons, List.length_nil]; omega)) fun _ => ?_)
      | ((with_reducible refine T_who.weak (fun _ _ h => h) ?_); rintro v R h ⟨rfl, H⟩; refine ⟨Lib.itoa e.who, rfl, ?_, H⟩; clear H)
      | ((with_reducible refine T_at_.weak (fun _ _ h => h) ?_); rintro v R h ⟨rfl, H⟩; refine ⟨Lib.itoa e.at_, rfl, ?_, H⟩; clear H)
      | ((with_reducible refine T_ck.weak (fun _ _ h => h) ?_); rintro v R h ⟨rfl, H⟩; refine ⟨Lib.itoa e.ck, rfl, ?_, H⟩; clear H)
      | ((with_reducible refine T_off.weak (fun _ _ h => h) ?_); rintro v R h ⟨rfl, H⟩; refine ⟨Lib.itoa e.off, rfl, ?_, H⟩; clear H)
      | ((with_reducible refine T_n.weak (fun _ _ h => h) ?_); rintro v R h ⟨rfl, H⟩; refine ⟨Lib.itoa e.n, rfl, ?_, H⟩; clear H)
      | ((with_reducible refine (H_path _ _).weak (fun _ _ h => h) ?_); rintro v R h ⟨rfl, H⟩; refine ⟨hexW e.path, rfl, ?_, H⟩; clear H)
      | ((with_reducible refine (H_other _ _).weak (fun _ _ h => h) ?_); rintro v R h ⟨rfl, H⟩; refine ⟨hexW e.other, rfl, ?_, H⟩; clear H)
      | ((with_reducible refine (H_data _ _).weak (fun _ _ h => h) ?_); rintro v R h ⟨rfl, H⟩; refine ⟨hexW e.data, rfl, ?_, H⟩; clear H)
      | ((with_reducible refine (H_picks _ _).weak (fun _ _ h => h) ?_); rintro v R h ⟨rfl, H⟩; refine ⟨hexW e.picks, rfl, ?_, H⟩; clear H)
      | (rw [semW_cnvT]; refine (strBT_ok _ HP.tt).weak (fun _ _ h => h) ?_; rintro v R h ⟨x, c, ⟨rfl, hc⟩, H⟩; refine ⟨some ⟨x, 0, none⟩, _, c, RoB (some ⟨x, 0, none⟩) _ _, rfl, ?_, HP.sep_left H⟩; clear H hc)
      | (refine And.intro ?_ ?_))
end Go.Proofs.YtcpjdfihpdjkbaaDoor



namespace Go.Proofs.YtcpjdfihpdjkbaaDoor
set_option linter.unusedSimpArgs false
set_option linter.unusedVariables false
open Go.Proofs.YtcpjdfihpdjkbaaDoor RX Go.RowKit
set_option maxRecDepth 100000

theorem EvS.ext' {a b : EvS} (h : a.kind = b.kind ∧ a.who = b.who ∧ a.at_ = b.at_ ∧ a.stays = b.stays ∧ a.ck = b.ck ∧ a.path = b.path ∧ a.other = b.other ∧ a.off = b.off ∧ a.n = b.n ∧ a.data = b.data ∧ a.picks = b.picks) : a = b := by
  obtain ⟨h1, h2, h3, h4, h5, h6, h7, h8, h9, h10, h11⟩ := h
  cases a; cases b
  simp_all
instance : DecidableEq EvS := fun a b => decidable_of_iff (a.kind = b.kind ∧ a.who = b.who ∧ a.at_ = b.at_ ∧ a.stays = b.stays ∧ a.ck = b.ck ∧ a.path = b.path ∧ a.other = b.other ∧ a.off = b.off ∧ a.n = b.n ∧ a.data = b.data ∧ a.picks = b.picks) ⟨EvS.ext', fun h => by subst h; simp⟩
theorem r01Same_ok (a : Option Addr) (c : Nat) (l : List UInt8) (a' : Option Addr) (c' : Nat) (l' : List UInt8) (hl : l.length ≤ 20000) (hl' : l'.length ≤ 20000) :
    Tri Tryd.prog 29 #[.slice a l.length c, .slice a' l'.length c'] (HP.sep (RoB a l.length l) (RoB a' l'.length l')) (fun v => HP.and (v = .bool (decide (l = l'))) (HP.sep (RoB a l.length l) (RoB a' l'.length l'))) := by
  refine Tri.fact (φ := (a = none → l.length = 0) ∧ (a' = none → l'.length = 0)) (fun R h H => ⟨(RdL.ro 1 a l.length (l.map u8v)).none R h (HP.sep_left H), (RdL.ro 1 a' l'.length (l'.map u8v)).none R h (HP.sep_right H)⟩) fun ⟨hn1, hn2⟩ => ?_
  refine tri_of_tree (ρ := [.a a, .n l.length, .n c, .p (RoB a l.length l), .a a', .n l'.length, .n c', .p (RoB a' l'.length l')]) mixed Tryd.func29 tree_r01Same ?_
  unfold t_r01Same
  simp only [T.den, E.prop, E.den, RX.look, F1.app, F2.app, Uni.int_i, Uni.nat_n, Uni.bool_c, Uni.str_s, Uni.adr_a, Uni.val_v, Uni.hp_p, hden, cden, V.den, W.den, A.den, BR.den, SA.den, FV.den, capV, exs, exP, allP, Cur.app, List.map_cons, List.map_nil, List.cons_append, List.nil_append, List.drop_succ_cons, List.drop_zero, List.length_cons, List.length_nil, Nat.zero_add, Nat.reduceAdd, Int.neg_neg, Bool.not_not, List.append_nil, Nat.add_zero, List.getElem?_cons_zero, List.getElem?_cons_succ, Decidable.not_not, semW_eq, semW_load, ne_eq, Nat.reduceEqDiff, not_false_eq_true]
  refine ⟨fun hne => .of fun R h H => ⟨?_, H⟩, fun he => ?_⟩
  · rw [decide_eq_false (fun e => hne (by rw [e]))]
  have he : l.length = l'.length := by omega
  refine ⟨fun _ i => ∃ k : Nat, i = k ∧ k ≤ l.length ∧ l.take k = l'.take k, fun _ i => l.length - i.toNat, ⟨0, rfl, Nat.zero_le _, rfl⟩, ?_⟩
  rintro _ _ ⟨k, rfl, hk, hkk⟩
  refine ⟨fun hlt => ?_, fun hge => .of fun R h H => ⟨?_, H⟩⟩
  · have h1 : k < l.length := by omega
    have h2 : k < l'.length := by omega
    refine ⟨by omega, fun _ => ⟨?_, fun _ => ⟨l[k].toNat, loadB (RdL.ro 1 a l.length (l.map u8v)).rd (List.getElem?_eq_getElem h1), by omega, fun _ => ⟨?_, fun _ => ⟨l'[k].toNat, loadB (RdL.ro 1 a' l'.length (l'.map u8v)).rd (List.getElem?_eq_getElem h2), fun hd => .of fun R h H => ⟨?_, H⟩, fun hd => ⟨inI64t _ (by omega) (by omega), fun _ => ⟨⟨k + 1, by omega, by omega, ?_⟩, by dsimp only; omega⟩⟩⟩⟩⟩⟩⟩
    · cases a with
      | none => have := hn1 rfl; omega
      | some _ => rfl
    · cases a' with
      | none => have := hn2 rfl; omega
      | some _ => rfl
    · rw [decide_eq_false]
      intro e
      subst e
      exact hd rfl
    · rw [List.take_succ_eq_append_getElem h1, List.take_succ_eq_append_getElem h2, hkk]
      have : l[k] = l'[k] := UInt8.toNat_inj.1 (by omega)
      rw [this]
  · obtain rfl : k = l.length := by omega
    rw [List.take_length, List.take_of_length_le (by omega)] at hkk
    rw [decide_eq_true hkk]
theorem rSameCall_ok (x y : EvS) (rx ry : EvA) (hx : EvOk x) (hy : EvOk y) :
    Tri Tryd.prog 14 #[.agg #[.int .i64 x.ck, sE x.path, sE x.other, .int .i64 x.off, .int .i64 x.n, .slice rx.da x.data.length rx.dc], .agg #[.int .i64 y.ck, sE y.path, sE y.other, .int .i64 y.off, .int .i64 y.n, .slice ry.da y.data.length ry.dc]]
      (HP.sep (RoB rx.da x.data.length x.data) (RoB ry.da y.data.length y.data)) (fun v => HP.and (v = .bool (decide (x.ck = y.ck ∧ x.path = y.path ∧ x.other = y.other ∧ x.off = y.off ∧ x.n = y.n ∧ x.data = y.data))) (HP.sep (RoB rx.da x.data.length x.data) (RoB ry.da y.data.length y.data))) := by
  refine tri_of_tree (ρ := [.i x.ck, .s x.path, .s x.other, .i x.off, .i x.n, .a rx.da, .n x.data.length, .n rx.dc, .p (RoB rx.da x.data.length x.data), .i y.ck, .s y.path, .s y.other, .i y.off, .i y.n, .a ry.da, .n y.data.length, .n ry.dc, .p (RoB ry.da y.data.length y.data)]) mixed Tryd.func14 tree_rSameCall ?_
  unfold t_rSameCall
  simp only [T.den, E.prop, E.den, RX.look, F1.app, F2.app, Uni.int_i, Uni.nat_n, Uni.bool_c, Uni.str_s, Uni.adr_a, Uni.val_v, Uni.hp_p, hden, cden, V.den, W.den, A.den, BR.den, SA.den, FV.den, capV, exs, exP, allP, Cur.app, List.map_cons, List.map_nil, List.cons_append, List.nil_append, List.drop_succ_cons, List.drop_zero, List.length_cons, List.length_nil, Nat.zero_add, Nat.reduceAdd, Int.neg_neg, Bool.not_not, List.append_nil, Nat.add_zero, List.getElem?_cons_zero, List.getElem?_cons_succ, Decidable.not_not, semW_eq, ne_eq, Nat.reduceEqDiff, not_false_eq_true]
  intro b b2
  have no : ∀ {K : HP}, ¬ (x.ck = y.ck ∧ x.path = y.path ∧ x.other = y.other ∧ x.off = y.off ∧ x.n = y.n ∧ x.data = y.data) → HP.ent K (HP.and (Value.bool false = .bool (decide (x.ck = y.ck ∧ x.path = y.path ∧ x.other = y.other ∧ x.off = y.off ∧ x.n = y.n ∧ x.data = y.data))) K) := fun h => .of fun R z H => ⟨by rw [decide_eq_false h], H⟩
  refine ⟨fun h1 => ⟨fun h2 => ⟨fun h3 => ⟨fun h4 => ⟨fun h5 => ?_, fun h => no fun q => h q.2.2.2.2.1⟩, fun h => no fun q => h q.2.2.2.1⟩, fun h => no fun q => h q.2.2.1⟩, fun h => no fun q => h q.2.1⟩, fun h => no fun q => h q.1⟩
  refine (r01Same_ok rx.da rx.dc x.data ry.da ry.dc y.data hx.data hy.data).weak (fun _ _ h => h) ?_
  rintro v R h ⟨rfl, H⟩
  refine ⟨decide (x.data = y.data), rfl, .of fun R h H => ⟨?_, H⟩, H⟩
  congr 1
  exact decide_eq_decide.2 ⟨fun e => ⟨h1, h2, h3, h4, h5, e⟩, fun q => q.2.2.2.2.2⟩
def EvB2 (x : EvS) (rx : EvA) (y : EvS) (ry : EvA) : HP := HP.sep (RoB rx.da x.data.length x.data) (HP.sep (RoB rx.pa x.picks.length x.picks) (HP.sep (RoB ry.da y.data.length y.data) (RoB ry.pa y.picks.length y.picks)))
theorem rSame_ok (x y : EvS) (rx ry : EvA) (hx : EvOk x) (hy : EvOk y) :
    Tri Tryd.prog 8 #[.agg (evL x rx).toArray, .agg (evL y ry).toArray] (EvB2 x rx y ry) (fun v => HP.and (v = .bool (decide (x = y))) (EvB2 x rx y ry)) := by
  refine tri_of_tree (ρ := [.i x.kind, .i x.who, .i x.at_, .c x.stays, .i x.ck, .s x.path, .s x.other, .i x.off, .i x.n, .a rx.da, .n x.data.length, .n rx.dc, .p (RoB rx.da x.data.length x.data), .a rx.pa, .n x.picks.length, .n rx.pc, .p (RoB rx.pa x.picks.length x.picks), .i y.kind, .i y.who, .i y.at_, .c y.stays, .i y.ck, .s y.path, .s y.other, .i y.off, .i y.n, .a ry.da, .n y.data.length, .n ry.dc, .p (RoB ry.da y.data.length y.data), .a ry.pa, .n y.picks.length, .n ry.pc, .p (RoB ry.pa y.picks.length y.picks)]) mixed Tryd.func8 tree_rSame ?_
  unfold t_rSame
  simp only [T.den, E.prop, E.den, RX.look, F1.app, F2.app, Uni.int_i, Uni.nat_n, Uni.bool_c, Uni.str_s, Uni.adr_a, Uni.val_v, Uni.hp_p, hden, cden, V.den, W.den, A.den, BR.den, SA.den, FV.den, capV, exs, exP, allP, Cur.app, List.map_cons, List.map_nil, List.cons_append, List.nil_append, List.drop_succ_cons, List.drop_zero, List.length_cons, List.length_nil, Nat.zero_add, Nat.reduceAdd, Int.neg_neg, Bool.not_not, List.append_nil, Nat.add_zero, List.getElem?_cons_zero, List.getElem?_cons_succ, Decidable.not_not, semW_eq, ne_eq, Nat.reduceEqDiff, not_false_eq_true]
  intro b b2
  have no : ¬ (x = y) → HP.ent (EvB2 x rx y ry) (HP.and (Value.bool false = .bool (decide (x = y))) (EvB2 x rx y ry)) := fun h => .of fun R z H => ⟨by rw [decide_eq_false h], H⟩
  refine ⟨fun h1 => ⟨fun h2 => ⟨fun h3 => ⟨fun h4 => ?_, fun h => no fun q => h (by rw [q]; simp)⟩, fun h => no fun q => h (by rw [q])⟩, fun h => no fun q => h (by rw [q])⟩, fun h => no fun q => h (by rw [q])⟩
  refine (rSameCall_ok x y rx ry hx hy).weak (fun _ _ h => h) ?_
  rintro v R h ⟨rfl, H⟩
  refine ⟨decide (x.ck = y.ck ∧ x.path = y.path ∧ x.other = y.other ∧ x.off = y.off ∧ x.n = y.n ∧ x.data = y.data), rfl, ⟨fun h5 => ?_, fun h5 => no fun q => h5 (by rw [q]; simp)⟩, H⟩
  refine ⟨x.picks, convT (RdL.ro _ _ _ _) rfl, y.picks, convT (RdL.ro _ _ _ _) rfl, .of fun R h H => ⟨?_, H⟩⟩
  congr 1
  have h5 := of_decide_eq_true h5
  refine decide_eq_decide.2 ⟨fun e => EvS.ext' ⟨h1, h2, h3, by simpa using h4, h5.1, h5.2.1, h5.2.2.1, h5.2.2.2.1, h5.2.2.2.2.1, h5.2.2.2.2.2, e⟩, fun q => by rw [q]⟩
def toldS (e : EvS) : EvS where
  kind := e.kind
  who := if ¬ e.kind = 6 ∧ ¬ e.kind = 7 then e.who else 0
  at_ := if ¬ e.kind = 6 ∧ ¬ e.kind = 7 then 0 else e.at_
  stays := if e.kind = 6 then e.stays else false
  ck := if e.kind = 1 then e.ck else 0
  path := if e.kind = 1 then e.path else []
  other := if e.kind = 1 then e.other else []
  off := if e.kind = 1 then e.off else 0
  n := if e.kind = 1 then e.n else 0
  data := if e.kind = 1 then e.data else []
  picks := if e.kind = 8 then e.picks else []
def toldA (e : EvS) (r : EvA) : EvA where
  da := if e.kind = 1 then r.da else none
  dc := if e.kind = 1 then r.dc else 0
  pa := if e.kind = 8 then r.pa else none
  pc := if e.kind = 8 then r.pc else 0
theorem EvOk.told {e : EvS} (h : EvOk e) : EvOk (toldS e) := by
  have z : in64 0 := ⟨by decide, by decide⟩
  have i : ∀ (p : Prop) [Decidable p] (x y : Int), in64 x → in64 y → in64 (if p then x else y) := fun p _ x y hx hy => by split <;> assumption
  have j : ∀ (p : Prop) [Decidable p] (x : List UInt8), x.length ≤ 20000 → (if p then x else []).length ≤ 20000 := fun p _ x hx => by
    split
    · exact hx
    · exact Nat.zero_le _
  exact ⟨i _ _ _ h.who z, i _ _ _ z h.at_, i _ _ _ h.ck z, i _ _ _ h.off z, i _ _ _ h.n z, j _ _ h.path, j _ _ h.other, j _ _ h.data, j _ _ h.picks⟩
theorem ro_if {p : Prop} [Decidable p] {a : Option Addr} {l : List UInt8} {R h : PH} (H : (RoB a l.length l).p R h) : (RoB (if p then a else none) (if p then l else []).length (if p then l else [])).p R h := by
  split
  · exact H
  · exact RoC.nil _ _ _ _
def EvT (e : EvS) (r : EvA) : HP := HP.sep (RoB (toldA e r).da (toldS e).data.length (toldS e).data) (HP.sep (RoB (toldA e r).pa (toldS e).picks.length (toldS e).picks) (EvB e r))
theorem EvB.told {e : EvS} {r : EvA} : HP.ent (EvB e r) (EvT e r) := .of fun R h H =>
  have h1 : (RoB r.da e.data.length e.data).p R h := HP.sep_left H
  have h2 : (RoB r.pa e.picks.length e.picks).p R h := HP.sep_right H
  ⟨PH.none', h, PH.none_dj _, PH.none_le _, PH.le.refl _, ro_if (R := R) (h := PH.none') h1, PH.none', h, PH.none_dj _, PH.none_le _, PH.le.refl _, ro_if (R := R) (h := PH.none') h2, H⟩
theorem rTold_ok (e : EvS) (r : EvA) :
    Tri Tryd.prog 9 #[.agg (evL e r).toArray] (EvB e r) (fun v => HP.and (v = .agg (evL (toldS e) (toldA e r)).toArray) (EvT e r)) := by
  refine tri_of_tree (ρ := [.i e.kind, .i e.who, .i e.at_, .c e.stays, .i e.ck, .s e.path, .s e.other, .i e.off, .i e.n, .a r.da, .n e.data.length, .n r.dc, .p (RoB r.da e.data.length e.data), .a r.pa, .n e.picks.length, .n r.pc, .p (RoB r.pa e.picks.length e.picks)]) mixed Tryd.func9 tree_rTold ?_
  unfold t_rTold
  simp only [T.den, E.prop, E.den, RX.look, F1.app, F2.app, Uni.int_i, Uni.nat_n, Uni.bool_c, Uni.str_s, Uni.adr_a, Uni.val_v, Uni.hp_p, hden, cden, V.den, W.den, A.den, BR.den, SA.den, FV.den, capV, exs, exP, allP, Cur.app, List.map_cons, List.map_nil, List.cons_append, List.nil_append, List.drop_succ_cons, List.drop_zero, List.length_cons, List.length_nil, Nat.zero_add, Nat.reduceAdd, Int.neg_neg, Bool.not_not, List.append_nil, Nat.add_zero, List.getElem?_cons_zero, List.getElem?_cons_succ, Decidable.not_not, semW_eq, ne_eq, Nat.reduceEqDiff, not_false_eq_true]
  intro b b2 b3
  have go : ∀ (l : List Value), evL (toldS e) (toldA e r) = l → HP.ent (EvB e r) (HP.and (Value.agg l.toArray = .agg (evL (toldS e) (toldA e r)).toArray) (EvT e r)) := fun l hl => by
    rw [hl]; exact EvB.told.trans (.of fun R h H => ⟨rfl, H⟩)
  unfold evL toldS toldA at go
  refine ⟨fun h6 => ⟨fun h7 => ⟨fun h1 => ⟨fun h8 => ?_, fun h8 => ?_⟩, fun h1 => ⟨fun h8 => ?_, fun h8 => ?_⟩⟩, fun h7 => ⟨fun h1 => ⟨fun h8 => ?_, fun h8 => ?_⟩, fun h1 => ⟨fun h8 => ?_, fun h8 => ?_⟩⟩⟩, fun h6 => ⟨fun h1 => ⟨fun h8 => ?_, fun h8 => ?_⟩, fun h1 => ⟨fun h8 => ?_, fun h8 => ?_⟩⟩⟩
  all_goals first | (exfalso; omega) | (refine go _ ?_; simp_all [sE])
end Go.Proofs.YtcpjdfihpdjkbaaDoor



namespace Go.Proofs.YtcpjdfihpdjkbaaDoor
open Go.Proofs.YtcpjdfihpdjkbaaDoor RX Go.RowKit
set_option maxRecDepth 100000


theorem dg_nat {d : Nat} (h : d < 10) : (UInt8.ofNat (48 + d)).toNat = 48 + d := by
  rw [UInt8.toNat_ofNat']; omega
theorem parse_dec : ∀ (n u : Nat), u < n → u < 18446744073709551616 → ∀ r, Lib.parseUint10 0 (Lib.decDigits u ++ r) = Lib.parseUint10 u r
  | 0, u, h, _ => by omega
  | n + 1, u, hn, hu => fun r => by
    by_cases h : u < 10
    · rw [Lib.decDigits, dif_pos h]
      show Lib.parseUint10 0 (UInt8.ofNat (48 + u) :: r) = _
      rw [Lib.parseUint10, dg_nat h, if_pos (by omega), if_neg (by omega), if_neg (by omega), show 0 * 10 + (48 + u - 48) = u by omega]
    · rw [Lib.decDigits, dif_neg h, List.append_assoc, parse_dec n (u / 10) (by omega) (by omega)]
      show Lib.parseUint10 (u / 10) (UInt8.ofNat (48 + u % 10) :: r) = _
      rw [Lib.parseUint10, dg_nat (Nat.mod_lt _ (by decide)), if_pos (by omega), if_neg (by omega), if_neg (by omega), show u / 10 * 10 + (48 + u % 10 - 48) = u by omega]
theorem dec_digs : ∀ (n u : Nat), u < n → Lib.decDigits u ≠ [] ∧ ∀ c ∈ Lib.decDigits u, 48 ≤ c.toNat ∧ c.toNat ≤ 57
  | 0, u, h => by omega
  | n + 1, u, hn => by
    by_cases h : u < 10
    · rw [Lib.decDigits, dif_pos h]
      refine ⟨by simp, fun c hc => ?_⟩
      rw [List.mem_singleton] at hc
      subst hc
      rw [dg_nat h]; omega
    · rw [Lib.decDigits, dif_neg h]
      refine ⟨by simp, fun c hc => ?_⟩
      rcases List.mem_append.1 hc with hc | hc
      · exact (dec_digs n (u / 10) (by omega)).2 c hc
      · rw [List.mem_singleton] at hc
        subst hc
        rw [dg_nat (Nat.mod_lt _ (by decide))]; omega
theorem itoa_sp {n : Int} : (32 : UInt8) ∉ Lib.itoa n := by
  intro h
  unfold Lib.itoa at h
  split at h
  · rcases List.mem_cons.1 h with h | h
    · exact absurd h (by decide)
    · exact absurd ((dec_digs _ _ (Nat.lt_succ_self _)).2 _ h).1 (by decide)
  · exact absurd ((dec_digs _ _ (Nat.lt_succ_self _)).2 _ h).1 (by decide)

theorem hexD_I : ∀ d : Fin 16, hexI (hexD d.val) = d.val ∧ hexD d.val ≠ 32 ∧ hexD d.val ≠ 45 := by decide
theorem pairs_hex : ∀ l : List UInt8, pairsB (hexL l) = some l
  | [] => rfl
  | x :: r => by
    have h256 := x.toNat_lt
    obtain ⟨a1, _⟩ := hexD_I ⟨x.toNat / 16, by omega⟩
    obtain ⟨b1, _⟩ := hexD_I ⟨x.toNat % 16, by omega⟩
    have e : hexL (x :: r) = hexD (x.toNat / 16) :: hexD (x.toNat % 16) :: hexL r := rfl
    rw [e, pairsB, a1, b1, if_neg (by simp only [not_or]; omega), pairs_hex r]
    have : UInt8.ofNat ((((x.toNat / 16 : Nat) : Int)).toNat * 16 + (((x.toNat % 16 : Nat) : Int)).toNat) = x := by
      rw [Int.toNat_natCast, Int.toNat_natCast, show x.toNat / 16 * 16 + x.toNat % 16 = x.toNat by omega]
      exact UInt8.ofNat_toNat
    show some (_ :: r) = _
    rw [this]
theorem hexW_sp (l : List UInt8) : (32 : UInt8) ∉ hexW l := by
  unfold hexW
  split
  · decide
  · unfold hexL
    rw [List.mem_flatMap]
    rintro ⟨x, _, hx⟩
    have h256 := x.toNat_lt
    obtain ⟨_, a1, _⟩ := hexD_I ⟨x.toNat / 16, by omega⟩
    obtain ⟨_, b1, _⟩ := hexD_I ⟨x.toNat % 16, by omega⟩
    rcases List.mem_cons.1 hx with h | h
    · exact a1 h.symm
    · rw [List.mem_singleton] at h
      exact b1 h.symm
theorem boolW_sp (b : Bool) : (32 : UInt8) ∉ boolW b := by cases b <;> decide

theorem splitB_cons (c b : UInt8) (r : List UInt8) : splitB c (b :: r) = if b = c then [] :: splitB c r else match splitB c r with
    | y :: q => (b :: y) :: q
    | [] => [[b]] := rfl
theorem splitB_app (c : UInt8) (s : List UInt8) : ∀ x : List UInt8, c ∉ x → splitB c (x ++ c :: s) = x :: splitB c s
  | [], _ => by rw [List.nil_append, splitB_cons, if_pos rfl]
  | b :: r, h => by
    rw [List.cons_append, splitB_cons, if_neg (fun e => h (by rw [e]; simp)), splitB_app c s r (fun q => h (List.mem_cons_of_mem _ q))]
theorem splitB_words (c : UInt8) : ∀ (r : List (List UInt8)) (x : List UInt8), c ∉ x → (∀ y ∈ r, c ∉ y) → splitB c (Lib.join (x :: r) [c]) = x :: r
  | [], x, hx, _ => by rw [Lib.join_one, splitB_none (List.count_eq_zero.2 hx)]
  | y :: r, x, hx, h => by
    have e : Lib.join (x :: y :: r) [c] = x ++ c :: Lib.join (y :: r) [c] := by
      rw [Lib.join_cons, Lib.join_cons]
      simp [Lib.joinTail]
    rw [e, splitB_app c _ x hx, splitB_words c r y (h y (by simp)) fun z hz => h z (List.mem_cons_of_mem _ hz)]
theorem put_sp (e : EvS) (f : Fld) : (32 : UInt8) ∉ f.put e := by
  cases f <;> first | exact itoa_sp | exact hexW_sp _ | exact boolW_sp _
theorem nm_sp {k : Int} : (32 : UInt8) ∉ (formS k).1 := by
  unfold formS
  repeat' split
  all_goals decide
theorem words_line {e : EvS} (h : (formS e.kind).1 ≠ []) : splitB 32 (lineS e) = (formS e.kind).1 :: (formS e.kind).2.map (Fld.put e) := by
  unfold lineS
  rw [if_neg h]
  refine splitB_words 32 _ _ nm_sp fun y hy => ?_
  obtain ⟨f, _, rfl⟩ := List.mem_map.1 hy
  exact put_sp e f
theorem kinds8 {k : Int} (h1 : 1 ≤ k) (h8 : k ≤ 8) : k = 1 ∨ k = 2 ∨ k = 3 ∨ k = 4 ∨ k = 5 ∨ k = 6 ∨ k = 7 ∨ k = 8 := by omega
theorem line_q {e : EvS} : lineS e = [63] ↔ (e.kind < 1 ∨ 8 < e.kind) := by
  constructor
  · intro h
    refine Classical.byContradiction fun hn => ?_
    have hw := words_line (e := e) (nms_at (by omega) (by omega)).2
    rw [h] at hw
    have h2 : [[(63 : UInt8)]] = _ := hw
    have : (formS e.kind).1 = [63] := (List.cons.inj h2).1.symm
    rcases kinds8 (k := e.kind) (by omega) (by omega) with h | h | h | h | h | h | h | h <;> (rw [h] at this; exact absurd this (by decide))
  · exact line0

instance : DecidableEq Fld := fun a b => by cases a <;> cases b <;> first | exact isTrue rfl | exact isFalse (by intro h; cases h)
structure Keeps (fs : List Fld) (e e' : EvS) : Prop where
  kind : e'.kind = e.kind
  who : Fld.who ∉ fs → e'.who = e.who
  at_ : Fld.at_ ∉ fs → e'.at_ = e.at_
  stays : Fld.stays ∉ fs → e'.stays = e.stays
  ck : Fld.ck ∉ fs → e'.ck = e.ck
  path : Fld.path ∉ fs → e'.path = e.path
  other : Fld.other ∉ fs → e'.other = e.other
  off : Fld.off ∉ fs → e'.off = e.off
  n : Fld.n ∉ fs → e'.n = e.n
  data : Fld.data ∉ fs → e'.data = e.data
  picks : Fld.picks ∉ fs → e'.picks = e.picks
theorem take_keeps {f : Fld} {e e' : EvS} {w : List UInt8} (h : f.take e w = some e') (fs : List Fld) (h2 : f ∈ fs) : Keeps fs e e' := by
  cases f <;> (obtain ⟨x, _, rfl⟩ := Option.map_eq_some_iff.1 h; constructor <;> first | rfl | (intro; rfl) | (intro hn; exact absurd h2 hn))
theorem Keeps.trans {fs : List Fld} {a b c : EvS} (h : Keeps fs a b) (g : Keeps fs b c) : Keeps fs a c :=
  ⟨g.kind.trans h.kind, fun n => (g.who n).trans (h.who n), fun n => (g.at_ n).trans (h.at_ n), fun n => (g.stays n).trans (h.stays n), fun n => (g.ck n).trans (h.ck n), fun n => (g.path n).trans (h.path n), fun n => (g.other n).trans (h.other n), fun n => (g.off n).trans (h.off n), fun n => (g.n n).trans (h.n n), fun n => (g.data n).trans (h.data n), fun n => (g.picks n).trans (h.picks n)⟩
theorem takeAll_keeps (gs : List Fld) : ∀ (fs : List Fld) (ws : List (List UInt8)) (e e' : EvS), (∀ f ∈ fs, f ∈ gs) → takeAll fs ws e = some e' → Keeps gs e e'
  | [], _, e, e', _, h => by
    cases h
    constructor <;> first | rfl | (intro; rfl)
  | f :: fs, [], e, e', _, h => by cases h
  | f :: fs, w :: ws, e, e', hs, h => by
    rw [takeAll_cons] at h
    obtain ⟨e1, h1, h2⟩ := Option.bind_eq_some_iff.1 h
    exact (take_keeps h1 gs (hs f (by simp))).trans (takeAll_keeps gs fs ws e1 e' (fun f hf => hs f (List.mem_cons_of_mem _ hf)) h2)
theorem told_keeps {k : Int} (h1 : 1 ≤ k) (h8 : k ≤ 8) {e : EvS} (h : Keeps (formS k).2 (zeroE k) e) : toldS e = e := by
  have hk : e.kind = k := h.kind
  obtain ⟨kd, who, at_, stays, ck, path, other, off, n, data, picks⟩ := e
  obtain ⟨q0, q1, q2, q3, q4, q5, q6, q7, q8, q9, q10⟩ := h
  dsimp only at *
  subst hk
  rcases kinds8 h1 h8 with h | h | h | h | h | h | h | h
  all_goals
    subst h
    refine EvS.ext' ⟨rfl, ?_, ?_, ?_, ?_, ?_, ?_, ?_, ?_, ?_, ?_⟩
    all_goals first
      | rfl
      | exact (q1 (by decide)).symm
      | exact (q2 (by decide)).symm
      | exact (q3 (by decide)).symm
      | exact (q4 (by decide)).symm
      | exact (q5 (by decide)).symm
      | exact (q6 (by decide)).symm
      | exact (q7 (by decide)).symm
      | exact (q8 (by decide)).symm
      | exact (q9 (by decide)).symm
      | exact (q10 (by decide)).symm
theorem readK_told {s : List UInt8} {T : List (List UInt8)} {e : EvS} : ∀ ks : List Int, (∀ k ∈ ks, 1 ≤ k ∧ k ≤ 8) → readK s T ks = some e → lineS e = s ∧ toldS e = e ∧ 1 ≤ e.kind ∧ e.kind ≤ 8
  | [], _, h => by cases h
  | k :: r, hk, h => by
    rw [readK_cons] at h
    split at h
    · exact readK_told r (fun q hq => hk q (List.mem_cons_of_mem _ hq)) h
    · split at h
      · cases h
      · rename_i e' he'
        split at h
        · rename_i hl
          cases h
          obtain ⟨k1, k8⟩ := hk k (by simp)
          have kp := takeAll_keeps (formS k).2 _ _ _ _ (fun f hf => hf) he'
          have : e.kind = k := kp.kind
          exact ⟨hl, told_keeps k1 k8 kp, by omega, by omega⟩
        · cases h
theorem readS_told {s : List UInt8} {e : EvS} (h : readS s = some e) : lineS e = s ∧ toldS e = e ∧ s ≠ [63] := by
  obtain ⟨h1, h2, h3, h4⟩ := readK_told (kinds 1) (by decide) h
  refine ⟨h1, h2, fun q => ?_⟩
  rw [q] at h1
  have := line_q.1 h1
  omega
end Go.Proofs.YtcpjdfihpdjkbaaDoor



namespace Go.Proofs.YtcpjdfihpdjkbaaDoor
set_option linter.unusedSimpArgs false
set_option linter.unusedVariables false
open Go.Proofs.YtcpjdfihpdjkbaaDoor RX Go.RowKit
set_option maxRecDepth 100000

theorem lineK_ok (e : EvS) (r : EvA) (he : EvOk e) :
    Tri Tryd.prog 7 #[.agg (evL e r).toArray] (EvB e r) (fun v => HP.and (v = sE (lineS e)) (EvB e r)) := by
  refine ((line_ok e r he).frame (EvB e r)).weak (fun R h H => ?_) fun v R h H => ?_
  · exact HP.sep_mono (HP.tt_sep H) (fun y _ => EvB.pers y H) fun _ h => h
  · obtain ⟨h1, h2, d, l1, l2, ⟨e1, _⟩, H2⟩ := H
    exact ⟨e1, EvB.pers _ H2⟩
theorem speaks22_ok : Tri Tryd.prog 5 #[] HP.tt (fun v => HP.and (v = .bool true) HP.tt) := by
  refine tri_of_tree (ρ := []) mixed Tryd.func5 tree_speaks22 ?_
  unfold t_speaks22
  simp only [T.den, E.prop, E.den, RX.look, F1.app, F2.app, Uni.int_i, Uni.nat_n, Uni.bool_c, Uni.str_s, Uni.adr_a, Uni.val_v, Uni.hp_p, hden, cden, V.den, W.den, A.den, BR.den, SA.den, FV.den, capV, exs, exP, allP, Cur.app, List.map_cons, List.map_nil, List.cons_append, List.nil_append, List.drop_succ_cons, List.drop_zero, List.length_cons, List.length_nil, Nat.zero_add, Nat.reduceAdd, Int.neg_neg, Bool.not_not, List.append_nil, Nat.add_zero, List.getElem?_cons_zero, List.getElem?_cons_succ, Decidable.not_not, semW_eq, ne_eq, Nat.reduceEqDiff, not_false_eq_true]
  have z : in64 0 := ⟨by decide, by decide⟩
  refine (lineK_ok ⟨5, 8, 0, false, 0, [], [], 0, 0, [], []⟩ ⟨none, 0, none, 0⟩ ⟨⟨by decide, by decide⟩, z, z, z, z, Nat.zero_le _, Nat.zero_le _, Nat.zero_le _, Nat.zero_le _⟩).weak (fun R h H => ?_) ?_
  · exact ⟨PH.none', h, PH.none_dj _, PH.none_le _, PH.le.refl _, RoC.nil _ _ _ _, RoC.nil _ _ _ _⟩
  rintro v R h ⟨rfl, H⟩
  refine ⟨_, rfl, .of fun R h H => ⟨?_, trivial⟩, trivial⟩
  rw [line2 (by decide) (by decide)]
  have : Lib.itoa 8 = [56] := by
    show Lib.decDigits 8 = _
    rw [Lib.decDigits_one (by decide)]; rfl
  rw [this]; rfl
def greatS (e : EvS) : Prop := 500 < e.path.length ∨ 500 < e.other.length ∨ 1000 < e.data.length ∨ 500 < e.picks.length
instance (e : EvS) : Decidable (greatS e) := inferInstanceAs (Decidable (_ ∨ _))
theorem EvOk.zero : EvOk (zeroE 0) := zero_ok 0
theorem EvB.zero {R h : PH} : (EvB (zeroE 0) ⟨none, 0, none, 0⟩).p R h := ⟨PH.none', h, PH.none_dj _, PH.none_le _, PH.le.refl _, RoC.nil _ _ _ _, RoC.nil _ _ _ _⟩
theorem EvB2.of {x y : EvS} {rx ry : EvA} {R h h1 h2 : PH} (H1 : (EvB x rx).p R h1) (H2 : (EvB y ry).p R h2) : (EvB2 x rx y ry).p R h :=
  have a1 : (RoB rx.da x.data.length x.data).p R h1 := HP.sep_left H1
  have a2 : (RoB rx.pa x.picks.length x.picks).p R h1 := HP.sep_right H1
  have a3 : (RoB ry.da y.data.length y.data).p R h2 := HP.sep_left H2
  have a4 : (RoB ry.pa y.picks.length y.picks).p R h2 := HP.sep_right H2
  ⟨PH.none', h, PH.none_dj _, PH.none_le _, PH.le.refl _, a1, PH.none', h, PH.none_dj _, PH.none_le _, PH.le.refl _, a2, PH.none', h, PH.none_dj _, PH.none_le _, PH.le.refl _, a3, a4⟩
set_option maxHeartbeats 1000000 in
theorem taleReads_ok (s : List UInt8) : Tri Tryd.prog 4 #[sE s] HP.tt (fun v => HP.and (v = .bool true) HP.tt) := by
  refine tri_of_tree (ρ := [.s s]) mixed Tryd.func4 tree_taleReads ?_
  unfold t_taleReads
  simp only [T.den, E.prop, E.den, RX.look, F1.app, F2.app, Uni.int_i, Uni.nat_n, Uni.bool_c, Uni.str_s, Uni.adr_a, Uni.val_v, Uni.hp_p, hden, cden, V.den, W.den, A.den, BR.den, SA.den, FV.den, capV, exs, exP, allP, Cur.app, List.map_cons, List.map_nil, List.cons_append, List.nil_append, List.drop_succ_cons, List.drop_zero, List.length_cons, List.length_nil, Nat.zero_add, Nat.reduceAdd, Int.neg_neg, Bool.not_not, List.append_nil, Nat.add_zero, List.getElem?_cons_zero, List.getElem?_cons_succ, Decidable.not_not, semW_eq, ne_eq, Nat.reduceEqDiff, not_false_eq_true]
  refine speaks22_ok.weak (fun _ _ h => h) ?_
  rintro v R h ⟨rfl, H⟩
  refine ⟨true, rfl, ⟨fun h => absurd rfl h, fun _ => ⟨fun hg => .of fun R h H => ⟨trivial, trivial⟩, fun hg => ?_⟩⟩, H⟩
  clear H
  refine (read_ok s (by omega)).weak (fun _ _ h => h) ?_
  unfold ReadP
  intro v R h H
  cases hr : readS s with
  | none =>
    rw [hr] at H
    obtain rfl : v = _ := H
    refine ⟨0, 0, 0, false, 0, [], [], 0, 0, none, 0, 0, RoB none 0 [], none, 0, 0, RoB none 0 [], 3, rfl, fun b => ⟨fun _ => ⟨fun _ => ?_, fun h => absurd rfl h⟩, fun h => absurd h (by decide)⟩, EvB.zero⟩
    refine (rSame_ok (zeroE 0) (zeroE 0) ⟨none, 0, none, 0⟩ ⟨none, 0, none, 0⟩ EvOk.zero EvOk.zero).weak (fun R h H => EvB2.of (h1 := h) (h2 := h) H H) ?_
    rintro v R h ⟨rfl, H⟩
    exact ⟨true, rfl, .of fun R h H => ⟨rfl, trivial⟩, EvB.zero⟩
  | some e =>
    rw [hr] at H
    obtain ⟨r, ⟨rfl, he⟩, H⟩ := H
    obtain ⟨q1, q2, q3⟩ := readS_told hr
    refine ⟨e.kind, e.who, e.at_, e.stays, e.ck, e.path, e.other, e.off, e.n, r.da, e.data.length, r.dc, RoB r.da e.data.length e.data, r.pa, e.picks.length, r.pc, RoB r.pa e.picks.length e.picks, 0, rfl, ?_, H⟩
    clear H
    refine fun b => ⟨fun h => absurd rfl h, fun _ => ⟨fun c _ _ => c = true, ⟨fun _ => ?_, fun h => absurd h q3⟩, fun c _ _ hc => .of fun R h H => ⟨by rw [hc], trivial⟩⟩⟩
    refine (rLine_ok e r he).weak (fun _ _ h => h) ?_
    rintro v R h ⟨rfl, H⟩
    refine ⟨lineS e, rfl, ⟨fun _ => ?_, fun h => absurd q1 h⟩, H⟩
    clear H
    refine (rTold_ok e r).weak (fun _ _ h => h) ?_
    rintro v R h ⟨rfl, H⟩
    refine ⟨(toldS e).kind, (toldS e).who, (toldS e).at_, (toldS e).stays, (toldS e).ck, (toldS e).path, (toldS e).other, (toldS e).off, (toldS e).n, (toldA e r).da, (toldS e).data.length, (toldA e r).dc, RoB (toldA e r).da (toldS e).data.length (toldS e).data, (toldA e r).pa, (toldS e).picks.length, (toldA e r).pc, RoB (toldA e r).pa (toldS e).picks.length (toldS e).picks, RoB r.da e.data.length e.data, RoB r.pa e.picks.length e.picks, ?_, ?_, ?_⟩
    · rfl
    · clear H
      refine (rSame_ok e (toldS e) r (toldA e r) he he.told).weak (fun R h H => H) ?_
      rintro v R h ⟨rfl, H⟩
      exact ⟨true, by rw [decide_eq_true q2.symm], rfl, H⟩
    · exact H
theorem taleReads_in (s : List UInt8) : Tri Tryd.prog 4 #[.string ⟨s.toArray⟩] HP.tt (fun v => HP.pure (v = .bool true)) :=
  (taleReads_ok s).weak (fun _ _ h => h) fun _ _ _ h => h.1
end Go.Proofs.YtcpjdfihpdjkbaaDoor



namespace Go.Proofs.YtcpjdfihpdjkbaaDoor
open Go.Proofs.YtcpjdfihpdjkbaaDoor RX
open Go.ChangeShapes Go.WideShapes Go.ChangeAt Go.RowKit
set_option maxRecDepth 100000

theorem laid_in {P : Program} {w : World} {n : String} {d : DataW Unit} : ∀ {l : List (String × DataW Unit)} {ps : List MemPlace}, DataW.LaidVars P w l ps → (n, d) ∈ l → ∃ g t cs fuel p ty fr, P.globalNamed n = some g ∧ (P.globals[g]?).map (·.type) = some t ∧ w.heap[(g : Nat)]? = some (.cells cs ty fr) ∧ DataW.trod (fun _ => ()) P w 0 (fun _ => true) false fuel t cs.toList = some (d, p)
  | [], _, _, hm => by cases hm
  | (n', d') :: r, ps, ⟨g, t, cs, fuel, p, q, hg, ht, hv, htr, hr, _⟩, hm => by
    rcases List.mem_cons.1 hm with e | hm
    · cases e
      unfold World.var? at hv
      rw [hg] at hv
      simp only [Option.bind_some] at hv
      split at hv
      · rename_i c ty fr e
        cases hv
        exact ⟨g, t, _, fuel, p, ty, fr, hg, ht, e, htr⟩
      · cases hv
    · exact laid_in hr hm
theorem trod_if {P : Program} {w : World} {t : TypeId} {ms : Array (String × TypeId)} {fuel : Nat} {cs : List Value} {nm : String} {x : DataW Unit} {p : List MemPlace} (hu : P.underlying t = some (.interface ms)) (h : DataW.trod (fun _ => ()) P w 0 (fun _ => true) false fuel t cs = some (.iface nm x, p)) : ∃ tp v, cs = [.iface tp v] := by
  cases fuel with
  | zero => simp [DataW.trod] at h
  | succ m =>
    unfold DataW.trod at h
    rw [hu] at h
    cases cs with
    | nil => simp at h
    | cons c r =>
      cases r with
      | cons _ _ => simp at h
      | nil =>
        cases c
        case iface u v => exact ⟨u, v, rfl⟩
        all_goals simp at h
theorem pow_type : (Tryd.prog.globals[(3 : Nat)]?).map (·.type) = some 125 := by kernel_rfl
theorem undPow : Tryd.prog.underlying 125 = some (.array 20 72) := by kernel_rfl
theorem und64u : Tryd.prog.underlying 72 = some (.int .u64) := by kernel_rfl
theorem cells64 : Tryd.prog.cellsOf 72 = 1 := by kernel_rfl
theorem cellsPow : Tryd.prog.cellsOf 125 = 20 := by kernel_rfl
theorem gre_of {w : World} {l : List (String × DataW Unit)} {ps : List MemPlace} (h : DataW.LaidVars Tryd.prog w l ps) {n : String} {nm : String} {x : DataW Unit} (hm : (n, .iface nm x) ∈ l) {g : Nat} (hg : Tryd.prog.globalNamed n = some g) (ht : (Tryd.prog.globals[g]?).map (·.type) = some 66) : GRe (allOf w) g := by
  obtain ⟨g', t, cs, fuel, p, ty, fr, hg', ht', hh, htr⟩ := laid_in h hm
  rw [hg] at hg'
  cases hg'
  rw [ht] at ht'
  cases ht'
  obtain ⟨ms, hu⟩ := isIf (t := 66) (by kernel_rfl)
  obtain ⟨tp, v, e⟩ := trod_if hu htr
  have : cs = #[.iface tp v] := by rw [← Array.toArray_toList (xs := cs), e]
  exact ⟨tp, v, ty, fr, by rw [← this]; exact hh⟩
theorem gr_of {w : World} {l : List (String × DataW Unit)} {ps : List MemPlace} (h : DataW.LaidVars Tryd.prog w l ps) (h1 : ("internal/strconv.uint64pow10", Rows.laid_internal_strconv_uint64pow10) ∈ l := by repeat (first | exact List.Mem.head _ | apply List.Mem.tail)) (h2 : ("strconv.ErrRange", Rows.laid_strconv_ErrRange) ∈ l := by repeat (first | exact List.Mem.head _ | apply List.Mem.tail)) (h3 : ("strconv.ErrSyntax", Rows.laid_strconv_ErrSyntax) ∈ l := by repeat (first | exact List.Mem.head _ | apply List.Mem.tail)) : GR (allOf w) := by
  refine ⟨?_, gre_of h h3 (g := 4) (by kernel_rfl) (by kernel_rfl), gre_of h h2 (g := 5) (by kernel_rfl) (by kernel_rfl)⟩
  obtain ⟨g, t, cs, fuel, p, ty, fr, hg, ht, hh, htr⟩ := laid_in h h1
  obtain rfl : g = 3 := Option.some.inj (hg.symm.trans (by kernel_rfl))
  rw [pow_type] at ht
  cases ht
  obtain ⟨xs, m, _, hx, hl, hn, hel⟩ := DataW.trod_array undPow htr
  have hd : xs.map (·.1) = tens.map fun n => DataW.lit (.int .u64 n) := by
    have := congrArg Prod.fst hx
    unfold Rows.laid_internal_strconv_uint64pow10 at this
    injection this with this
    exact this.symm
  have hcs : cs = (tens.map (Value.int .u64)).toArray := by
    rw [← Array.toArray_toList (xs := cs)]
    congr 1
    refine List.ext_getElem? fun i => ?_
    rw [cellsPow] at hl
    by_cases hi : i < 20
    · have h1 := hel i hi
      rw [cells64, Nat.mul_one] at h1
      obtain ⟨v, hv⟩ : ∃ v, tens[i]? = some v := ⟨tens[i]'(by show i < 20; exact hi), List.getElem?_eq_getElem _⟩
      have h3 : (xs.map (·.1))[i]? = some (DataW.lit (.int .u64 v)) := by rw [hd, List.getElem?_map, hv]; rfl
      rw [List.getElem?_map] at h3
      obtain ⟨y, hy, hy2⟩ := Option.map_eq_some_iff.1 h3
      rw [hy] at h1
      obtain ⟨z, hz, hz2, _⟩ := DataW.trod_int und64u h1
      rw [hz2] at hy2
      have e : z = v := by
        injection hy2 with e
        injection e
      subst e
      have h5 : (List.take 1 (cs.toList.drop i))[0]? = some (Value.int .u64 z) := by rw [hz]; rfl
      rw [List.getElem?_take, if_pos (by decide), List.getElem?_drop, Nat.add_zero] at h5
      rw [h5, List.getElem?_map, hv]; rfl
    · rw [List.getElem?_eq_none (by omega), List.getElem?_eq_none (by show 20 ≤ i; omega)]
  exact ⟨ty, fr, by rw [← hcs]; exact hh⟩
end Go.Proofs.YtcpjdfihpdjkbaaDoor



namespace Go.Proofs.YtcpjdfihpdjkbaaDoor
open Go.RowKit Go.ChangeShapes Go.WideShapes Go.Deep RX
set_option maxRecDepth 100000
theorem str_open (base : Nat) (v : Value) (w : World) (hv : Value.okWide Tryd.prog w .any base 9 v) : ∃ s, v = .string s := by
  simp only [Value.okWide, Tryd.underlying9, Cell.okWide] at hv
  unfold Cell.ok at hv
  rw [Tryd.underlying9] at hv
  cases v <;> first | exact hv.elim | exact ⟨_, rfl⟩
theorem str_openR {H : Type} {enc : TypeId × Value → H} {w : World} {base : Nat} {v : Value} (hv : Value.okWide Tryd.prog w .any base 9 v) (h : ∃ d p, DataW.Trod enc Tryd.prog w 0 (fun _ => true) true 9 v d p ∧ Small Tryd.prog 9 d) : ∃ l : List UInt8, v = .string ⟨l.toArray⟩ ∧ l.length ≤ 9223372036854775807 := by
  obtain ⟨s0, rfl⟩ := str_open base v w hv
  obtain ⟨d, p, ⟨fuel, hf⟩, _⟩ := h
  obtain ⟨s, h1, _, h2⟩ := DataW.trod_string Tryd.underlying9 hf
  simp [Value.cells] at h1
  subst h1
  exact ⟨s0.data.toList, rfl, Nat.le_trans (Nat.le_of_eq (Array.length_toList)) h2⟩
end Go.Proofs.YtcpjdfihpdjkbaaDoor



namespace Go.Proofs.YtcpjdfihpdjkbaaDoor
open Go.RowKit Go.ChangeShapes Go.WideShapes Go.Deep RX

set_option maxRecDepth 100000 in
theorem taleReads_walk {H : Type} (enc : TypeId × Value → H) (base : Nat) (v0 : Value) (w : World)
    (k0 : Value.okWide Tryd.prog w .any base 9 v0) (h0 : ∃ d p, DataW.Trod enc Tryd.prog w 0 (fun _ => true) true 9 v0 d p ∧ Small Tryd.prog 9 d) (hG : GR (allOf w)) :
    Calls Tryd.prog 4 #[v0] w fun e w' => e = .returned (.bool true) ∧ Below w.heap.size w w' := by
  obtain ⟨l0, rfl, b0⟩ := str_openR k0 h0
  exact Tri.run (taleReads_in l0) trivial hG
end Go.Proofs.YtcpjdfihpdjkbaaDoor



namespace Go.Proofs.YtcpjdfihpdjkbaaDoor.taleReads
open Go.ChangeShapes Go.WideShapes Go.ChangeAt Go.RowKit
set_option linter.unusedVariables false

theorem own : ownKnob Tryd.prog.godebug = none := by kernel_rfl
theorem laidOut : laidOutB Tryd.prog = true := by kernel_rfl

def laidL : List (String × DataW Unit) := [("math/bits.deBruijn32tab", Rows.laid_math_bits_deBruijn32tab), ("math/bits.deBruijn64tab", Rows.laid_math_bits_deBruijn64tab), ("internal/strconv.uint64pow10", Rows.laid_internal_strconv_uint64pow10), ("unicode/utf8.acceptRanges", Rows.laid_unicode_utf8_acceptRanges), ("strconv.ErrRange", Rows.laid_strconv_ErrRange), ("strconv.ErrSyntax", Rows.laid_strconv_ErrSyntax), ("unicode/utf8.first", Rows.laid_unicode_utf8_first)]
set_option maxRecDepth 100000 in
theorem plainL (w : World) : laidMetH Tryd.prog laidL w = laidMet Tryd.prog laidL w := MakeChecks.laidMetH_plain _ _ _ (by kernel_rfl)
set_option maxRecDepth 100000 in
theorem door_met (os : Os) (args : Array Value) : laidMetH Tryd.prog laidL ((World.laidAll Tryd.prog os laidL).forCall (fun _ _ => 0) ⟨#[], args, []⟩).memory := by
  rw [plainL]
  exact laidMet_laidAll _ (by kernel_rfl) (by kernel_rfl)
end Go.Proofs.YtcpjdfihpdjkbaaDoor.taleReads




namespace Go.Proofs.YtcpjdfihpdjkbaaDoor.taleReads
open Go.ChangeShapes Go.WideShapes Go.ChangeAt Go.RowKit
set_option linter.unusedVariables false

set_option maxRecDepth 100000 in
theorem lifted (os : Os) (started : os.Started) (H : Type) (enc : TypeId × Value → H) :
    ReturnsInHanded {} Tryd.checked os 4 .any (fun w args => (Rows.taleReadsSpec.pre enc Tryd.prog Tryd.f4 [] false w args ∧ laidMetH Tryd.prog laidL w) ∧ sizedMet enc Tryd.prog Tryd.f4 (OpenSpec.ofChange Rows.taleReadsSpec) false w args) (Rows.taleReadsSpec.post enc Tryd.prog Tryd.f4 false true false false) := by
  refine returnsInHanded_of_change_and (C := Tryd.checked) (X := fun w _ => laidMetH Tryd.prog laidL w) (fun _ _ _ hh h => h.of_heap hh) own started (by kernel_rfl) Tryd.func4
    (ChangeSpec.witness_shaped (enc := enc) (C := Tryd.checked) (os := os) (X := fun w _ => laidMetH Tryd.prog laidL w) false (World.laidAll Tryd.prog os laidL) #[.string .empty] 8 (World.laidAll_os _ _ _) (World.shaped_of_ZipB (by kernel_rfl) (by kernel_rfl)) (by kernel_rfl) (by kernel_rfl) (by kernel_rfl) (door_met os _)) ?_
  intro W base args ds gs before hval0 hW hcnd hsz0 hX _
  have hG : GR (allOf W) := by rw [plainL] at hX; obtain ⟨_, hv, _⟩ := hX; exact gr_of hv
  have hval : ∀ (j : Nat) t v, Tryd.f4.params[j]? = some t → args[j]? = some v → Value.okWide Tryd.prog W .any base t v := hval0
  have hW' := hW
  obtain ⟨p, q, hA0, hV, rfl, hfz, hnd⟩ := hW
  have hA : DataW.TrodAll enc Tryd.prog W 0 (fun _ => true) true Tryd.f4.params.toList args.toList ds p := hA0
  have hsz : (DataW.weightsEach Tryd.prog (Tryd.f4.params.toList ++ Rows.taleReadsSpec.plain.varTypes Tryd.prog) (ds ++ gs)).all (· ≤ reachBytes) = true := hsz0
  clear hsz0
  rw [Tryd.params4] at hA hval hsz
  obtain ⟨v0, vs0, d0, ds0, p0, q0, hargs, rfl, rfl, h0, r0⟩ := trodAll_cons hA
  obtain ⟨rfl, rfl, rfl⟩ := trodAll_nil r0
  obtain rfl : args = #[v0] := by cases args; simp_all
  obtain ⟨rfl, rfl⟩ := trodVars_none hV
  have lt0 : ∀ x ∈ p0, x.block < W.heap.size := by obtain ⟨m, hm⟩ := h0; exact DataW.trod_lt m _ _ _ hm
  refine (taleReads_walk enc base v0 W (hval 0 9 v0 rfl rfl) ⟨_, _, h0, Small.arg hsz (j := 0) rfl rfl⟩ hG).mono fun e W' ⟨he, bel⟩ => ?_
  subst he
  exact ⟨_, rfl, _, _, _, [], _, [], hW', trodAll_mk1 (shut_bool Tryd.underlying4 _), (trodAll_cons_mk (Below.trod laidOut (by kernel_rfl) (of_decide_eq_true (by kernel_rfl)) h0 bel lt0) trodAll_mk0), rfl, bel.frame _, fun h => by cases h⟩

end Go.Proofs.YtcpjdfihpdjkbaaDoor.taleReads




namespace Go.Proofs.YtcpjdfihpdjkbaaDoor.taleReads
open Go.ChangeShapes Go.WideShapes Go.ChangeAt Go.RowKit
set_option linter.unusedVariables false

theorem and2 {a b : Bool} (h1 : a = true) (h2 : b = true) : (a && b) = true := by rw [h1, h2]; rfl
theorem c0 : (fun (P : Program) (f : FuncId) (fn : Func) (s : ChangeSpec) (c : OpenClaim) => (c.wf (OpenSpec.ofChange s) : Bool)) Tryd.pinned.checked.prog 4 Tryd.f4 Rows.taleReadsSpec Rows.taleReadsRow = true := by kernel_rfl
theorem c1 : (fun (P : Program) (f : FuncId) (fn : Func) (s : ChangeSpec) (c : OpenClaim) => (laidOutB P : Bool)) Tryd.pinned.checked.prog 4 Tryd.f4 Rows.taleReadsSpec Rows.taleReadsRow = true := by kernel_rfl
theorem c2 : (fun (P : Program) (f : FuncId) (fn : Func) (s : ChangeSpec) (c : OpenClaim) => (mapsRowed P : Bool)) Tryd.pinned.checked.prog 4 Tryd.f4 Rows.taleReadsSpec Rows.taleReadsRow = true := by kernel_rfl
theorem c3 : (fun (P : Program) (f : FuncId) (fn : Func) (s : ChangeSpec) (c : OpenClaim) => (fn.params.all (P.readableRec ·) : Bool)) Tryd.pinned.checked.prog 4 Tryd.f4 Rows.taleReadsSpec Rows.taleReadsRow = true := by kernel_rfl
theorem c4 : (fun (P : Program) (f : FuncId) (fn : Func) (s : ChangeSpec) (c : OpenClaim) => (namedTie P c.named s.vars : Bool)) Tryd.pinned.checked.prog 4 Tryd.f4 Rows.taleReadsSpec Rows.taleReadsRow = true := by kernel_rfl
theorem c5 : (fun (P : Program) (f : FuncId) (fn : Func) (s : ChangeSpec) (c : OpenClaim) => ((c.stops == []) : Bool)) Tryd.pinned.checked.prog 4 Tryd.f4 Rows.taleReadsSpec Rows.taleReadsRow = true := by kernel_rfl
theorem c6 : (fun (P : Program) (f : FuncId) (fn : Func) (s : ChangeSpec) (c : OpenClaim) => ((P.stops == []) : Bool)) Tryd.pinned.checked.prog 4 Tryd.f4 Rows.taleReadsSpec Rows.taleReadsRow = true := by kernel_rfl
theorem c7 : (fun (P : Program) (f : FuncId) (fn : Func) (s : ChangeSpec) (c : OpenClaim) => ((c.knobs == []) : Bool)) Tryd.pinned.checked.prog 4 Tryd.f4 Rows.taleReadsSpec Rows.taleReadsRow = true := by kernel_rfl
theorem c8 : (fun (P : Program) (f : FuncId) (fn : Func) (s : ChangeSpec) (c : OpenClaim) => ((P.stopKnobs == []) : Bool)) Tryd.pinned.checked.prog 4 Tryd.f4 Rows.taleReadsSpec Rows.taleReadsRow = true := by kernel_rfl
theorem c9 : (fun (P : Program) (f : FuncId) (fn : Func) (s : ChangeSpec) (c : OpenClaim) => ((c.inPlace == P.inPlace f) : Bool)) Tryd.pinned.checked.prog 4 Tryd.f4 Rows.taleReadsSpec Rows.taleReadsRow = true := by kernel_rfl
theorem c10 : (fun (P : Program) (f : FuncId) (fn : Func) (s : ChangeSpec) (c : OpenClaim) => ((c.unfollowed == P.unfollowed f) : Bool)) Tryd.pinned.checked.prog 4 Tryd.f4 Rows.taleReadsSpec Rows.taleReadsRow = true := by kernel_rfl
theorem c11 : (fun (P : Program) (f : FuncId) (fn : Func) (s : ChangeSpec) (c : OpenClaim) => ((c.recurses == P.recurses f) : Bool)) Tryd.pinned.checked.prog 4 Tryd.f4 Rows.taleReadsSpec Rows.taleReadsRow = true := by kernel_rfl
theorem c12 : (fun (P : Program) (f : FuncId) (fn : Func) (s : ChangeSpec) (c : OpenClaim) => ((c.named == P.varsNamed f) : Bool)) Tryd.pinned.checked.prog 4 Tryd.f4 Rows.taleReadsSpec Rows.taleReadsRow = true := by kernel_rfl
theorem c13 : (fun (P : Program) (f : FuncId) (fn : Func) (s : ChangeSpec) (c : OpenClaim) => ((c.maps == (fn.params.toList ++ s.plain.varTypes P).any (P.mapsRec ·)) : Bool)) Tryd.pinned.checked.prog 4 Tryd.f4 Rows.taleReadsSpec Rows.taleReadsRow = true := by kernel_rfl
theorem c14 : (fun (P : Program) (f : FuncId) (fn : Func) (s : ChangeSpec) (c : OpenClaim) => ((c.ifaces == (fn.params.toList ++ s.plain.varTypes P).any (P.ifacesRec ·)) : Bool)) Tryd.pinned.checked.prog 4 Tryd.f4 Rows.taleReadsSpec Rows.taleReadsRow = true := by kernel_rfl
theorem c15 : (fun (P : Program) (f : FuncId) (fn : Func) (s : ChangeSpec) (c : OpenClaim) => ((c.mapsOut == P.mapsAmong fn.resultTypes.toList) : Bool)) Tryd.pinned.checked.prog 4 Tryd.f4 Rows.taleReadsSpec Rows.taleReadsRow = true := by kernel_rfl
theorem c16 : (fun (P : Program) (f : FuncId) (fn : Func) (s : ChangeSpec) (c : OpenClaim) => ((c.loops == (fn.params.toList ++ s.plain.varTypes P).any (P.loopsFrom ·)) : Bool)) Tryd.pinned.checked.prog 4 Tryd.f4 Rows.taleReadsSpec Rows.taleReadsRow = true := by kernel_rfl
theorem c17 : (fun (P : Program) (f : FuncId) (fn : Func) (s : ChangeSpec) (c : OpenClaim) => ((c.wideKeys == (fn.params.toList ++ s.plain.varTypes P ++ fn.resultTypes.toList).any (P.wideKeysFrom ·)) : Bool)) Tryd.pinned.checked.prog 4 Tryd.f4 Rows.taleReadsSpec Rows.taleReadsRow = true := by kernel_rfl
theorem c18 : (fun (P : Program) (f : FuncId) (fn : Func) (s : ChangeSpec) (c : OpenClaim) => (s.vars.all (P.varReadable ·) : Bool)) Tryd.pinned.checked.prog 4 Tryd.f4 Rows.taleReadsSpec Rows.taleReadsRow = true := by kernel_rfl
theorem c19 : (fun (P : Program) (f : FuncId) (fn : Func) (s : ChangeSpec) (c : OpenClaim) => (fn.resultTypes.all (fun t => P.readableRec t && decide (t < P.types.size)) : Bool)) Tryd.pinned.checked.prog 4 Tryd.f4 Rows.taleReadsSpec Rows.taleReadsRow = true := by kernel_rfl
theorem c20 : (fun (P : Program) (f : FuncId) (fn : Func) (s : ChangeSpec) (c : OpenClaim) => ((c.ifacesOut == fn.resultTypes.toList.any (P.ifacesRec ·)) : Bool)) Tryd.pinned.checked.prog 4 Tryd.f4 Rows.taleReadsSpec Rows.taleReadsRow = true := by kernel_rfl
theorem c21 : (fun (P : Program) (f : FuncId) (fn : Func) (s : ChangeSpec) (c : OpenClaim) => ((c.loopsOut == fn.resultTypes.toList.any (P.loopsFrom ·)) : Bool)) Tryd.pinned.checked.prog 4 Tryd.f4 Rows.taleReadsSpec Rows.taleReadsRow = true := by kernel_rfl
theorem c22 : (fun (P : Program) (f : FuncId) (fn : Func) (s : ChangeSpec) (c : OpenClaim) => ((c.plainKeys == P.plainKeys) : Bool)) Tryd.pinned.checked.prog 4 Tryd.f4 Rows.taleReadsSpec Rows.taleReadsRow = true := by kernel_rfl
theorem c23 : (fun (P : Program) (f : FuncId) (fn : Func) (s : ChangeSpec) (c : OpenClaim) => (c.shortTexts.isNone : Bool)) Tryd.pinned.checked.prog 4 Tryd.f4 Rows.taleReadsSpec Rows.taleReadsRow = true := by kernel_rfl
theorem c24 : (fun (P : Program) (f : FuncId) (fn : Func) (s : ChangeSpec) (c : OpenClaim) => (P.stopsHeard : Bool)) Tryd.pinned.checked.prog 4 Tryd.f4 Rows.taleReadsSpec Rows.taleReadsRow = true := by kernel_rfl
theorem c25 : (fun (P : Program) (f : FuncId) (fn : Func) (s : ChangeSpec) (c : OpenClaim) => (P.mayEnter : Bool)) Tryd.pinned.checked.prog 4 Tryd.f4 Rows.taleReadsSpec Rows.taleReadsRow = true := by kernel_rfl
theorem c26 : (fun (P : Program) (f : FuncId) (fn : Func) (s : ChangeSpec) (c : OpenClaim) => ((c.lifted == P.liftsFinal) : Bool)) Tryd.pinned.checked.prog 4 Tryd.f4 Rows.taleReadsSpec Rows.taleReadsRow = true := by kernel_rfl
theorem c27 : (fun (P : Program) (f : FuncId) (fn : Func) (s : ChangeSpec) (c : OpenClaim) => ((P.make == some c.make) : Bool)) Tryd.pinned.checked.prog 4 Tryd.f4 Rows.taleReadsSpec Rows.taleReadsRow = true := by kernel_rfl
theorem c28 : (fun (P : Program) (f : FuncId) (fn : Func) (s : ChangeSpec) (c : OpenClaim) => ((c.kinds == (if c.domain.isEmpty then [] else fn.params.toList.map fun t => match P.underlying t with | some (.int k) => some k | _ => none)) : Bool)) Tryd.pinned.checked.prog 4 Tryd.f4 Rows.taleReadsSpec Rows.taleReadsRow = true := by kernel_rfl
theorem c29 : (fun (P : Program) (f : FuncId) (fn : Func) (s : ChangeSpec) (c : OpenClaim) => ((c.pinned == c.pinnedBy) : Bool)) Tryd.pinned.checked.prog 4 Tryd.f4 Rows.taleReadsSpec Rows.taleReadsRow = true := by kernel_rfl
theorem c30 : (fun (P : Program) (f : FuncId) (fn : Func) (s : ChangeSpec) (c : OpenClaim) => ((c.veiled == (fn.params.toList ++ s.plain.varTypes P ++ fn.resultTypes.toList).any (P.veiledRec ·)) : Bool)) Tryd.pinned.checked.prog 4 Tryd.f4 Rows.taleReadsSpec Rows.taleReadsRow = true := by kernel_rfl
theorem c31 : (fun (P : Program) (f : FuncId) (fn : Func) (s : ChangeSpec) (c : OpenClaim) => (c.veiledFits P fn.params.toList (fn.params.toList ++ s.plain.varTypes P ++ fn.resultTypes.toList) : Bool)) Tryd.pinned.checked.prog 4 Tryd.f4 Rows.taleReadsSpec Rows.taleReadsRow = true := by kernel_rfl
theorem inst : Tryd.f4.isInstance Tryd.pinned.checked.prog Rows.taleReadsRow.origin Rows.taleReadsRow.targs := (of_decide_eq_true (by kernel_rfl))
theorem wrap : Tryd.f4.isWrapper Tryd.pinned.checked.prog Rows.taleReadsRow.wrapper Rows.taleReadsRow.mainSum := by unfold Func.isWrapper; first | (rw [if_pos (by decide +kernel)]; kernel_rfl) | (rw [if_neg (by decide +kernel)]; exact ⟨rfl, rfl⟩)
theorem nmd : Tryd.pinned.checked.prog.funcNamed Rows.taleReadsRow.func = some 4 := by kernel_rfl
end Go.Proofs.YtcpjdfihpdjkbaaDoor.taleReads




namespace Go.Proofs.YtcpjdfihpdjkbaaDoor.taleReads
open Go.ChangeShapes Go.WideShapes Go.ChangeAt Go.RowKit
set_option linter.unusedVariables false

set_option maxRecDepth 100000 in
theorem closed : joinedFacts Tryd.pinned.checked.prog 4 Tryd.f4 Rows.taleReadsSpec Rows.taleReadsRow = true := (and2 (and2 (and2 (and2 (and2 (and2 (and2 (and2 (and2 (and2 (and2 (and2 (and2 (and2 (and2 (and2 (and2 (and2 (and2 (and2 (and2 (and2 (and2 (and2 (and2 (and2 (and2 (and2 (and2 (and2 (and2 c0 c1) c2) c3) c4) c5) c6) c7) c8) c9) c10) c11) c12) c13) c14) c15) c16) c17) c18) c19) c20) c21) c22) c23) c24) c25) c26) c27) c28) c29) c30) c31)
theorem over : Rows.taleReadsRow.holds Tryd.pinned (OpenSpec.ofChange Rows.taleReadsSpec) :=
  OpenClaim.holds_of_wide 4 Tryd.f4 rfl rfl rfl rfl rfl rfl rfl ⟨rfl, rfl, rfl, rfl, rfl⟩ rfl rfl rfl rfl rfl nmd Tryd.func4 closed inst wrap (fun os started H enc _ => lifted os started H enc)
end Go.Proofs.YtcpjdfihpdjkbaaDoor.taleReads


