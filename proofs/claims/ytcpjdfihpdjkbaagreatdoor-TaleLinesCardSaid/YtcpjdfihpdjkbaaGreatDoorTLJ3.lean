/- Texts of this claim, joined. No condition. -/
import Derived.Test.YtcpjdfihpdjkbaaGreatDoorTLJ1
import Derived.Test.YtcpjdfihpdjkbaaGreatDoorTLJ2
import Derived.KernelRfl
set_option linter.unusedSimpArgs false
set_option linter.unusedVariables false

namespace Go.Proofs.YtcpjdfihpdjkbaaGreatDoor.RX
set_option maxRecDepth 100000
-- tideline/tidelineref22.Hex: ρ := [.a ba, .n bl, .n bc, .p bP]
def t_rHex : T :=
(.new
(.loop [.a, .n, .n, .i, .p] [.a (.b (.v 4) 0), .e (.o2 .nadd (.n 0) (.n 0)), .e (.o2 .nadd (.n 0) (.n 0)), .e (.o1 .neg (.o1 .neg (.i 0))), .p [(.b (.v 4), .cells [] 5)]]
(.br (.o2 .lt (.v 8) (.o1 .ofNat (.v 1)))
(.need (.o2 .le (.i 0) (.v 8))
(.need (.o1 .isSome (.v 0))
(.read (.load 5 (.tmp 15)) 5 [(15, .w (.a (.eptr 0 (.v 8) 1 0)))] [(.a 0, .prop 3)] [.i] (.w (.a (.int .u8 (.v 10))))
(.need (.o1 (.inr .u8) (.o2 .quo (.v 10) (.i 16)))
(.read (.index 9 (.const (.string ⟨#[48, 49, 50, 51, 52, 53, 54, 55, 56, 57, 97, 98, 99, 100, 101, 102]⟩)) (.tmp 17)) 5 [(17, .w (.a (.int .u8 (.o2 .quo (.v 10) (.i 16)))))] [] [.i] (.w (.a (.int .u8 (.v 11))))
(.read (.load 5 (.tmp 21)) 5 [(21, .w (.a (.eptr 0 (.v 8) 1 0)))] [(.a 0, .prop 3)] [.i] (.w (.a (.int .u8 (.v 12))))
(.read (.index 9 (.const (.string ⟨#[48, 49, 50, 51, 52, 53, 54, 55, 56, 57, 97, 98, 99, 100, 101, 102]⟩)) (.tmp 23)) 5 [(23, .w (.a (.int .u8 (.o2 .rem (.v 12) (.i 16)))))] [] [.i] (.w (.a (.int .u8 (.v 13))))
(.new
(.op (.call ⟨.builtin .append, #[.tmp 12, .tmp 25], #[22, 22]⟩) 22 [(12, .w (.a (.sl (.v 5) (.v 6) (.v 7)))), (25, .w (.a (.sl (.b (.v 14) 0) (.n 2) (.n 2))))] [(.a 5, .prop 9), (.b (.v 14), .cells [.int .u8 (.v 11), .int .u8 (.v 13)] 5)] [.a, .n, .n, .p] (.w (.a (.sl (.v 15) (.v 16) (.v 17)))) [(.a 15, .prop 18), (.b (.v 14), .cells [.int .u8 (.v 11), .int .u8 (.v 13)] 5)]
(.need (.o1 (.inr .i64) (.o2 .add (.v 8) (.i 1)))
(.again 0 [.a (.v 15), .e (.o2 .nadd (.v 16) (.n 0)), .e (.o2 .nadd (.v 17) (.n 0)), .e (.o1 .neg (.o1 .neg (.o2 .add (.v 8) (.i 1)))), .p [(.a 15, .prop 18)]])))))))))))
(.br (.o2 .eq (.o1 .ofNat (.v 6)) (.i 0))
(.ret (.w (.a (.str (.s [45])))) [(.a 0, .prop 3)])
(.read (.convert 22 9 (.tmp 30)) 9 [(30, .w (.a (.sl (.v 5) (.v 6) (.v 7))))] [(.a 5, .prop 9)] [.s] (.w (.a (.str (.v 10))))
(.ret (.w (.a (.str (.v 10)))) [(.a 0, .prop 3)]))))))
theorem tree_rHex : tree Tryz.prog { hv := [(0, [.b (.v 4)])], keep := [11, 19, 18, 9, 10, 20, 35, 5, 4, 6, 8], outl := true, opn := true, rdf := true } Tryz.f19 [.a (.sl (.v 0) (.v 1) (.v 2))] [(.a 0, .prop 3)] 4 = t_rHex := by kernel_rfl
def t_rInt : T :=
(.br (.o2 .lt (.v 0) (.i 0))
(.need (.o1 (.inr .i64) (.o2 .add (.v 0) (.i 1)))
(.need (.o1 (.inr .i64) (.o2 .sub (.i 0) (.o2 .add (.v 0) (.i 1))))
(.loop [.s, .i, .i] [.e (.o2 .cat (.s []) (.s [])), .e (.o1 .neg (.o1 .neg (.o1 (.wrap .u64) (.o2 .add (.o1 (.wrap .u64) (.o2 .sub (.i 0) (.o2 .add (.v 0) (.i 1)))) (.i 1))))), .e (.o1 .neg (.o1 .neg (.i 0)))]
(.br (.o2 .lt (.v 3) (.i 20))
(.br (.o2 .lt (.i 0) (.v 2))
(.read (.slice 9 (.const (.string ⟨#[48, 49, 50, 51, 52, 53, 54, 55, 56, 57]⟩)) (some (.tmp 28)) (some (.tmp 31)) none) 9 [(28, .w (.a (.int .u64 (.o2 .rem (.v 2) (.i 10))))), (31, .w (.a (.int .u64 (.o1 (.wrap .u64) (.o2 .add (.o2 .rem (.v 2) (.i 10)) (.i 1))))))] [] [.s] (.w (.a (.str (.v 4))))
(.need (.o2 .le (.o1 .ofNat (.o2 .nadd (.o1 .size (.v 4)) (.o1 .size (.v 1)))) (.i 9223372036854775807))
(.need (.o1 (.inr .u64) (.o2 .quo (.v 2) (.i 10)))
(.need (.o1 (.inr .i64) (.o2 .add (.v 3) (.i 1)))
(.again 0 [.e (.o2 .cat (.o2 .cat (.v 4) (.v 1)) (.s [])), .e (.o1 .neg (.o1 .neg (.o2 .quo (.v 2) (.i 10)))), .e (.o1 .neg (.o1 .neg (.o2 .add (.v 3) (.i 1))))])))))
(.br (.o2 .eq (.v 3) (.i 0))
(.read (.slice 9 (.const (.string ⟨#[48, 49, 50, 51, 52, 53, 54, 55, 56, 57]⟩)) (some (.tmp 28)) (some (.tmp 31)) none) 9 [(28, .w (.a (.int .u64 (.o2 .rem (.v 2) (.i 10))))), (31, .w (.a (.int .u64 (.o1 (.wrap .u64) (.o2 .add (.o2 .rem (.v 2) (.i 10)) (.i 1))))))] [] [.s] (.w (.a (.str (.v 4))))
(.need (.o2 .le (.o1 .ofNat (.o2 .nadd (.o1 .size (.v 4)) (.o1 .size (.v 1)))) (.i 9223372036854775807))
(.need (.o1 (.inr .u64) (.o2 .quo (.v 2) (.i 10)))
(.need (.o1 (.inr .i64) (.o2 .add (.v 3) (.i 1)))
(.again 0 [.e (.o2 .cat (.o2 .cat (.v 4) (.v 1)) (.s [])), .e (.o1 .neg (.o1 .neg (.o2 .quo (.v 2) (.i 10)))), .e (.o1 .neg (.o1 .neg (.o2 .add (.v 3) (.i 1))))])))))
(.need (.o2 .le (.o1 .ofNat (.o2 .nadd (.o1 .size (.s [45])) (.o1 .size (.v 1)))) (.i 9223372036854775807))
(.ret (.w (.a (.str (.o2 .cat (.s [45]) (.v 1))))) []))))
(.need (.o2 .le (.o1 .ofNat (.o2 .nadd (.o1 .size (.s [45])) (.o1 .size (.v 1)))) (.i 9223372036854775807))
(.ret (.w (.a (.str (.o2 .cat (.s [45]) (.v 1))))) []))))))
(.loop [.s, .i, .i] [.e (.o2 .cat (.s []) (.s [])), .e (.o1 .neg (.o1 .neg (.o1 (.wrap .u64) (.v 0)))), .e (.o1 .neg (.o1 .neg (.i 0)))]
(.br (.o2 .lt (.v 3) (.i 20))
(.br (.o2 .lt (.i 0) (.v 2))
(.read (.slice 9 (.const (.string ⟨#[48, 49, 50, 51, 52, 53, 54, 55, 56, 57]⟩)) (some (.tmp 28)) (some (.tmp 31)) none) 9 [(28, .w (.a (.int .u64 (.o2 .rem (.v 2) (.i 10))))), (31, .w (.a (.int .u64 (.o1 (.wrap .u64) (.o2 .add (.o2 .rem (.v 2) (.i 10)) (.i 1))))))] [] [.s] (.w (.a (.str (.v 4))))
(.need (.o2 .le (.o1 .ofNat (.o2 .nadd (.o1 .size (.v 4)) (.o1 .size (.v 1)))) (.i 9223372036854775807))
(.need (.o1 (.inr .u64) (.o2 .quo (.v 2) (.i 10)))
(.need (.o1 (.inr .i64) (.o2 .add (.v 3) (.i 1)))
(.again 0 [.e (.o2 .cat (.o2 .cat (.v 4) (.v 1)) (.s [])), .e (.o1 .neg (.o1 .neg (.o2 .quo (.v 2) (.i 10)))), .e (.o1 .neg (.o1 .neg (.o2 .add (.v 3) (.i 1))))])))))
(.br (.o2 .eq (.v 3) (.i 0))
(.read (.slice 9 (.const (.string ⟨#[48, 49, 50, 51, 52, 53, 54, 55, 56, 57]⟩)) (some (.tmp 28)) (some (.tmp 31)) none) 9 [(28, .w (.a (.int .u64 (.o2 .rem (.v 2) (.i 10))))), (31, .w (.a (.int .u64 (.o1 (.wrap .u64) (.o2 .add (.o2 .rem (.v 2) (.i 10)) (.i 1))))))] [] [.s] (.w (.a (.str (.v 4))))
(.need (.o2 .le (.o1 .ofNat (.o2 .nadd (.o1 .size (.v 4)) (.o1 .size (.v 1)))) (.i 9223372036854775807))
(.need (.o1 (.inr .u64) (.o2 .quo (.v 2) (.i 10)))
(.need (.o1 (.inr .i64) (.o2 .add (.v 3) (.i 1)))
(.again 0 [.e (.o2 .cat (.o2 .cat (.v 4) (.v 1)) (.s [])), .e (.o1 .neg (.o1 .neg (.o2 .quo (.v 2) (.i 10)))), .e (.o1 .neg (.o1 .neg (.o2 .add (.v 3) (.i 1))))])))))
(.ret (.w (.a (.str (.v 1)))) [])))
(.ret (.w (.a (.str (.v 1)))) []))))
theorem tree_rInt : tree Tryz.prog { keep := [11, 19, 18, 9, 10, 20, 35, 5, 4, 6, 8], outl := true, opn := true, rdf := true } Tryz.f18 [.a (.int .i64 (.v 0))] [] 1 = t_rInt := by kernel_rfl
def t_rLine : T :=
(.new
(.new
(.br (.o2 .lt (.v 0) (.i 1))
(.ret (.w (.a (.str (.s [63])))) [(.a 9, .prop 12), (.a 13, .prop 16)])
(.br (.o2 .lt (.i 8) (.v 0))
(.ret (.w (.a (.str (.s [63])))) [(.a 9, .prop 12), (.a 13, .prop 16)])
(.need (.o1 (.inr .i64) (.o2 .sub (.v 0) (.i 1)))
(.read (.indexAddr 30 (.tmp 15) (.tmp 18)) 0 [(15, .w (.a (.sl (.b (.v 18) 0) (.n 8) (.n 8)))), (18, .w (.a (.int .i64 (.o2 .sub (.v 0) (.i 1)))))] [(.b (.v 18), .cells [.str (.s [99, 97, 108, 108]), .str (.s [115, 110, 97, 112]), .str (.s [116, 114, 105, 109]), .str (.s [103, 105, 118, 101, 117, 112]), .str (.s [116, 105, 99, 107]), .str (.s [100, 101, 108, 105, 118, 101, 114]), .str (.s [100, 114, 111, 112]), .str (.s [99, 114, 97, 115, 104])] 9)] [.v] (.w (.a (.val 19)))
(.read (.load 9 (.tmp 19)) 9 [(19, .w (.a (.val 19)))] [(.b (.v 18), .cells [.str (.s [99, 97, 108, 108]), .str (.s [115, 110, 97, 112]), .str (.s [116, 114, 105, 109]), .str (.s [103, 105, 118, 101, 117, 112]), .str (.s [116, 105, 99, 107]), .str (.s [100, 101, 108, 105, 118, 101, 114]), .str (.s [100, 114, 111, 112]), .str (.s [99, 114, 97, 115, 104])] 9)] [.s] (.w (.a (.str (.v 20))))
(.br (.o2 .eq (.v 0) (.i 1))
(.new
(.join [.s]
(.need (.o2 .le (.o1 .ofNat (.o2 .nadd (.o1 .size (.v 20)) (.o1 .size (.s [32])))) (.i 9223372036854775807))
    (.all
(.call 18 [.a (.int .i64 (.v 1))] [] [.s] (.w (.a (.str (.v 22)))) []
(.need (.o2 .le (.o1 .ofNat (.o2 .nadd (.o1 .size (.o2 .cat (.v 20) (.s [32]))) (.o1 .size (.v 22)))) (.i 9223372036854775807))
(.need (.o2 .le (.o1 .ofNat (.o2 .nadd (.o1 .size (.o2 .cat (.o2 .cat (.v 20) (.s [32])) (.v 22))) (.o1 .size (.s [32])))) (.i 9223372036854775807))
     (.all
(.call 18 [.a (.int .i64 (.v 4))] [] [.s] (.w (.a (.str (.v 23)))) []
(.need (.o2 .le (.o1 .ofNat (.o2 .nadd (.o1 .size (.o2 .cat (.o2 .cat (.o2 .cat (.v 20) (.s [32])) (.v 22)) (.s [32]))) (.o1 .size (.v 23)))) (.i 9223372036854775807))
(.need (.o2 .le (.o1 .ofNat (.o2 .nadd (.o1 .size (.o2 .cat (.o2 .cat (.o2 .cat (.o2 .cat (.v 20) (.s [32])) (.v 22)) (.s [32])) (.v 23))) (.o1 .size (.s [32])))) (.i 9223372036854775807))
      (.all
(.op (.convert 9 22 (.tmp 40)) 22 [(40, .w (.a (.str (.v 5))))] [] [.a, .n, .n, .p] (.w (.a (.sl (.v 24) (.v 25) (.v 26)))) [(.a 24, .prop 27)]
       (.all
(.call 19 [.a (.sl (.v 24) (.v 25) (.v 26))] [(.a 24, .prop 27)] [.s] (.w (.a (.str (.v 28)))) [(.a 24, .prop 27)]
(.need (.o2 .le (.o1 .ofNat (.o2 .nadd (.o1 .size (.o2 .cat (.o2 .cat (.o2 .cat (.o2 .cat (.o2 .cat (.v 20) (.s [32])) (.v 22)) (.s [32])) (.v 23)) (.s [32]))) (.o1 .size (.v 28)))) (.i 9223372036854775807))
(.need (.o2 .le (.o1 .ofNat (.o2 .nadd (.o1 .size (.o2 .cat (.o2 .cat (.o2 .cat (.o2 .cat (.o2 .cat (.o2 .cat (.v 20) (.s [32])) (.v 22)) (.s [32])) (.v 23)) (.s [32])) (.v 28))) (.o1 .size (.s [32])))) (.i 9223372036854775807))
(.op (.convert 9 22 (.tmp 46)) 22 [(46, .w (.a (.str (.v 6))))] [] [.a, .n, .n, .p] (.w (.a (.sl (.v 29) (.v 30) (.v 31)))) [(.a 29, .prop 32)]
(.call 19 [.a (.sl (.v 29) (.v 30) (.v 31))] [(.a 29, .prop 32)] [.s] (.w (.a (.str (.v 33)))) [(.a 29, .prop 32)]
(.need (.o2 .le (.o1 .ofNat (.o2 .nadd (.o1 .size (.o2 .cat (.o2 .cat (.o2 .cat (.o2 .cat (.o2 .cat (.o2 .cat (.o2 .cat (.v 20) (.s [32])) (.v 22)) (.s [32])) (.v 23)) (.s [32])) (.v 28)) (.s [32]))) (.o1 .size (.v 33)))) (.i 9223372036854775807))
(.need (.o2 .le (.o1 .ofNat (.o2 .nadd (.o1 .size (.o2 .cat (.o2 .cat (.o2 .cat (.o2 .cat (.o2 .cat (.o2 .cat (.o2 .cat (.o2 .cat (.v 20) (.s [32])) (.v 22)) (.s [32])) (.v 23)) (.s [32])) (.v 28)) (.s [32])) (.v 33))) (.o1 .size (.s [32])))) (.i 9223372036854775807))
(.call 18 [.a (.int .i64 (.v 7))] [] [.s] (.w (.a (.str (.v 34)))) []
(.need (.o2 .le (.o1 .ofNat (.o2 .nadd (.o1 .size (.o2 .cat (.o2 .cat (.o2 .cat (.o2 .cat (.o2 .cat (.o2 .cat (.o2 .cat (.o2 .cat (.o2 .cat (.v 20) (.s [32])) (.v 22)) (.s [32])) (.v 23)) (.s [32])) (.v 28)) (.s [32])) (.v 33)) (.s [32]))) (.o1 .size (.v 34)))) (.i 9223372036854775807))
(.need (.o2 .le (.o1 .ofNat (.o2 .nadd (.o1 .size (.o2 .cat (.o2 .cat (.o2 .cat (.o2 .cat (.o2 .cat (.o2 .cat (.o2 .cat (.o2 .cat (.o2 .cat (.o2 .cat (.v 20) (.s [32])) (.v 22)) (.s [32])) (.v 23)) (.s [32])) (.v 28)) (.s [32])) (.v 33)) (.s [32])) (.v 34))) (.o1 .size (.s [32])))) (.i 9223372036854775807))
(.call 18 [.a (.int .i64 (.v 8))] [] [.s] (.w (.a (.str (.v 35)))) []
(.need (.o2 .le (.o1 .ofNat (.o2 .nadd (.o1 .size (.o2 .cat (.o2 .cat (.o2 .cat (.o2 .cat (.o2 .cat (.o2 .cat (.o2 .cat (.o2 .cat (.o2 .cat (.o2 .cat (.o2 .cat (.v 20) (.s [32])) (.v 22)) (.s [32])) (.v 23)) (.s [32])) (.v 28)) (.s [32])) (.v 33)) (.s [32])) (.v 34)) (.s [32]))) (.o1 .size (.v 35)))) (.i 9223372036854775807))
(.need (.o2 .le (.o1 .ofNat (.o2 .nadd (.o1 .size (.o2 .cat (.o2 .cat (.o2 .cat (.o2 .cat (.o2 .cat (.o2 .cat (.o2 .cat (.o2 .cat (.o2 .cat (.o2 .cat (.o2 .cat (.o2 .cat (.v 20) (.s [32])) (.v 22)) (.s [32])) (.v 23)) (.s [32])) (.v 28)) (.s [32])) (.v 33)) (.s [32])) (.v 34)) (.s [32])) (.v 35))) (.o1 .size (.s [32])))) (.i 9223372036854775807))
(.call 19 [.a (.sl (.v 9) (.v 10) (.v 11))] [(.a 9, .prop 12)] [.s] (.w (.a (.str (.v 36)))) [(.a 9, .prop 12)]
(.need (.o2 .le (.o1 .ofNat (.o2 .nadd (.o1 .size (.o2 .cat (.o2 .cat (.o2 .cat (.o2 .cat (.o2 .cat (.o2 .cat (.o2 .cat (.o2 .cat (.o2 .cat (.o2 .cat (.o2 .cat (.o2 .cat (.o2 .cat (.v 20) (.s [32])) (.v 22)) (.s [32])) (.v 23)) (.s [32])) (.v 28)) (.s [32])) (.v 33)) (.s [32])) (.v 34)) (.s [32])) (.v 35)) (.s [32]))) (.o1 .size (.v 36)))) (.i 9223372036854775807))
(.again 0 [.e (.o2 .cat (.o2 .cat (.o2 .cat (.o2 .cat (.o2 .cat (.o2 .cat (.o2 .cat (.o2 .cat (.o2 .cat (.o2 .cat (.o2 .cat (.o2 .cat (.o2 .cat (.o2 .cat (.o2 .cat (.v 20) (.s [32])) (.v 22)) (.s [32])) (.v 23)) (.s [32])) (.v 28)) (.s [32])) (.v 33)) (.s [32])) (.v 34)) (.s [32])) (.v 35)) (.s [32])) (.v 36)) (.s []))]))))))))))))))))
(.op (.convert 9 22 (.tmp 46)) 22 [(46, .w (.a (.str (.v 6))))] [] [.a, .n, .n, .p] (.w (.a (.sl (.v 28) (.v 29) (.v 30)))) [(.a 28, .prop 31)]
(.call 19 [.a (.sl (.v 24) (.v 25) (.v 26))] [(.a 24, .prop 27)] [.s] (.w (.a (.str (.v 32)))) [(.a 24, .prop 27)]
(.need (.o2 .le (.o1 .ofNat (.o2 .nadd (.o1 .size (.o2 .cat (.o2 .cat (.o2 .cat (.o2 .cat (.o2 .cat (.v 20) (.s [32])) (.v 22)) (.s [32])) (.v 23)) (.s [32]))) (.o1 .size (.v 32)))) (.i 9223372036854775807))
(.need (.o2 .le (.o1 .ofNat (.o2 .nadd (.o1 .size (.o2 .cat (.o2 .cat (.o2 .cat (.o2 .cat (.o2 .cat (.o2 .cat (.v 20) (.s [32])) (.v 22)) (.s [32])) (.v 23)) (.s [32])) (.v 32))) (.o1 .size (.s [32])))) (.i 9223372036854775807))
(.call 19 [.a (.sl (.v 28) (.v 29) (.v 30))] [(.a 28, .prop 31)] [.s] (.w (.a (.str (.v 33)))) [(.a 28, .prop 31)]
(.need (.o2 .le (.o1 .ofNat (.o2 .nadd (.o1 .size (.o2 .cat (.o2 .cat (.o2 .cat (.o2 .cat (.o2 .cat (.o2 .cat (.o2 .cat (.v 20) (.s [32])) (.v 22)) (.s [32])) (.v 23)) (.s [32])) (.v 32)) (.s [32]))) (.o1 .size (.v 33)))) (.i 9223372036854775807))
(.need (.o2 .le (.o1 .ofNat (.o2 .nadd (.o1 .size (.o2 .cat (.o2 .cat (.o2 .cat (.o2 .cat (.o2 .cat (.o2 .cat (.o2 .cat (.o2 .cat (.v 20) (.s [32])) (.v 22)) (.s [32])) (.v 23)) (.s [32])) (.v 32)) (.s [32])) (.v 33))) (.o1 .size (.s [32])))) (.i 9223372036854775807))
(.call 18 [.a (.int .i64 (.v 7))] [] [.s] (.w (.a (.str (.v 34)))) []
(.need (.o2 .le (.o1 .ofNat (.o2 .nadd (.o1 .size (.o2 .cat (.o2 .cat (.o2 .cat (.o2 .cat (.o2 .cat (.o2 .cat (.o2 .cat (.o2 .cat (.o2 .cat (.v 20) (.s [32])) (.v 22)) (.s [32])) (.v 23)) (.s [32])) (.v 32)) (.s [32])) (.v 33)) (.s [32]))) (.o1 .size (.v 34)))) (.i 9223372036854775807))
(.need (.o2 .le (.o1 .ofNat (.o2 .nadd (.o1 .size (.o2 .cat (.o2 .cat (.o2 .cat (.o2 .cat (.o2 .cat (.o2 .cat (.o2 .cat (.o2 .cat (.o2 .cat (.o2 .cat (.v 20) (.s [32])) (.v 22)) (.s [32])) (.v 23)) (.s [32])) (.v 32)) (.s [32])) (.v 33)) (.s [32])) (.v 34))) (.o1 .size (.s [32])))) (.i 9223372036854775807))
(.call 18 [.a (.int .i64 (.v 8))] [] [.s] (.w (.a (.str (.v 35)))) []
(.need (.o2 .le (.o1 .ofNat (.o2 .nadd (.o1 .size (.o2 .cat (.o2 .cat (.o2 .cat (.o2 .cat (.o2 .cat (.o2 .cat (.o2 .cat (.o2 .cat (.o2 .cat (.o2 .cat (.o2 .cat (.v 20) (.s [32])) (.v 22)) (.s [32])) (.v 23)) (.s [32])) (.v 32)) (.s [32])) (.v 33)) (.s [32])) (.v 34)) (.s [32]))) (.o1 .size (.v 35)))) (.i 9223372036854775807))
(.need (.o2 .le (.o1 .ofNat (.o2 .nadd (.o1 .size (.o2 .cat (.o2 .cat (.o2 .cat (.o2 .cat (.o2 .cat (.o2 .cat (.o2 .cat (.o2 .cat (.o2 .cat (.o2 .cat (.o2 .cat (.o2 .cat (.v 20) (.s [32])) (.v 22)) (.s [32])) (.v 23)) (.s [32])) (.v 32)) (.s [32])) (.v 33)) (.s [32])) (.v 34)) (.s [32])) (.v 35))) (.o1 .size (.s [32])))) (.i 9223372036854775807))
(.call 19 [.a (.sl (.v 9) (.v 10) (.v 11))] [(.a 9, .prop 12)] [.s] (.w (.a (.str (.v 36)))) [(.a 9, .prop 12)]
(.need (.o2 .le (.o1 .ofNat (.o2 .nadd (.o1 .size (.o2 .cat (.o2 .cat (.o2 .cat (.o2 .cat (.o2 .cat (.o2 .cat (.o2 .cat (.o2 .cat (.o2 .cat (.o2 .cat (.o2 .cat (.o2 .cat (.o2 .cat (.v 20) (.s [32])) (.v 22)) (.s [32])) (.v 23)) (.s [32])) (.v 32)) (.s [32])) (.v 33)) (.s [32])) (.v 34)) (.s [32])) (.v 35)) (.s [32]))) (.o1 .size (.v 36)))) (.i 9223372036854775807))
(.again 0 [.e (.o2 .cat (.o2 .cat (.o2 .cat (.o2 .cat (.o2 .cat (.o2 .cat (.o2 .cat (.o2 .cat (.o2 .cat (.o2 .cat (.o2 .cat (.o2 .cat (.o2 .cat (.o2 .cat (.o2 .cat (.v 20) (.s [32])) (.v 22)) (.s [32])) (.v 23)) (.s [32])) (.v 32)) (.s [32])) (.v 33)) (.s [32])) (.v 34)) (.s [32])) (.v 35)) (.s [32])) (.v 36)) (.s []))]))))))))))))))))))
(.op (.convert 9 22 (.tmp 46)) 22 [(46, .w (.a (.str (.v 6))))] [] [.a, .n, .n, .p] (.w (.a (.sl (.v 24) (.v 25) (.v 26)))) [(.a 24, .prop 27)]
(.op (.convert 9 22 (.tmp 40)) 22 [(40, .w (.a (.str (.v 5))))] [] [.a, .n, .n, .p] (.w (.a (.sl (.v 28) (.v 29) (.v 30)))) [(.a 28, .prop 31)]
(.call 19 [.a (.sl (.v 28) (.v 29) (.v 30))] [(.a 28, .prop 31)] [.s] (.w (.a (.str (.v 32)))) [(.a 28, .prop 31)]
(.need (.o2 .le (.o1 .ofNat (.o2 .nadd (.o1 .size (.o2 .cat (.o2 .cat (.o2 .cat (.o2 .cat (.o2 .cat (.v 20) (.s [32])) (.v 22)) (.s [32])) (.v 23)) (.s [32]))) (.o1 .size (.v 32)))) (.i 9223372036854775807))
(.need (.o2 .le (.o1 .ofNat (.o2 .nadd (.o1 .size (.o2 .cat (.o2 .cat (.o2 .cat (.o2 .cat (.o2 .cat (.o2 .cat (.v 20) (.s [32])) (.v 22)) (.s [32])) (.v 23)) (.s [32])) (.v 32))) (.o1 .size (.s [32])))) (.i 9223372036854775807))
(.call 19 [.a (.sl (.v 24) (.v 25) (.v 26))] [(.a 24, .prop 27)] [.s] (.w (.a (.str (.v 33)))) [(.a 24, .prop 27)]
(.need (.o2 .le (.o1 .ofNat (.o2 .nadd (.o1 .size (.o2 .cat (.o2 .cat (.o2 .cat (.o2 .cat (.o2 .cat (.o2 .cat (.o2 .cat (.v 20) (.s [32])) (.v 22)) (.s [32])) (.v 23)) (.s [32])) (.v 32)) (.s [32]))) (.o1 .size (.v 33)))) (.i 9223372036854775807))
(.need (.o2 .le (.o1 .ofNat (.o2 .nadd (.o1 .size (.o2 .cat (.o2 .cat (.o2 .cat (.o2 .cat (.o2 .cat (.o2 .cat (.o2 .cat (.o2 .cat (.v 20) (.s [32])) (.v 22)) (.s [32])) (.v 23)) (.s [32])) (.v 32)) (.s [32])) (.v 33))) (.o1 .size (.s [32])))) (.i 9223372036854775807))
(.call 18 [.a (.int .i64 (.v 7))] [] [.s] (.w (.a (.str (.v 34)))) []
(.need (.o2 .le (.o1 .ofNat (.o2 .nadd (.o1 .size (.o2 .cat (.o2 .cat (.o2 .cat (.o2 .cat (.o2 .cat (.o2 .cat (.o2 .cat (.o2 .cat (.o2 .cat (.v 20) (.s [32])) (.v 22)) (.s [32])) (.v 23)) (.s [32])) (.v 32)) (.s [32])) (.v 33)) (.s [32]))) (.o1 .size (.v 34)))) (.i 9223372036854775807))
(.need (.o2 .le (.o1 .ofNat (.o2 .nadd (.o1 .size (.o2 .cat (.o2 .cat (.o2 .cat (.o2 .cat (.o2 .cat (.o2 .cat (.o2 .cat (.o2 .cat (.o2 .cat (.o2 .cat (.v 20) (.s [32])) (.v 22)) (.s [32])) (.v 23)) (.s [32])) (.v 32)) (.s [32])) (.v 33)) (.s [32])) (.v 34))) (.o1 .size (.s [32])))) (.i 9223372036854775807))
(.call 18 [.a (.int .i64 (.v 8))] [] [.s] (.w (.a (.str (.v 35)))) []
(.need (.o2 .le (.o1 .ofNat (.o2 .nadd (.o1 .size (.o2 .cat (.o2 .cat (.o2 .cat (.o2 .cat (.o2 .cat (.o2 .cat (.o2 .cat (.o2 .cat (.o2 .cat (.o2 .cat (.o2 .cat (.v 20) (.s [32])) (.v 22)) (.s [32])) (.v 23)) (.s [32])) (.v 32)) (.s [32])) (.v 33)) (.s [32])) (.v 34)) (.s [32]))) (.o1 .size (.v 35)))) (.i 9223372036854775807))
(.need (.o2 .le (.o1 .ofNat (.o2 .nadd (.o1 .size (.o2 .cat (.o2 .cat (.o2 .cat (.o2 .cat (.o2 .cat (.o2 .cat (.o2 .cat (.o2 .cat (.o2 .cat (.o2 .cat (.o2 .cat (.o2 .cat (.v 20) (.s [32])) (.v 22)) (.s [32])) (.v 23)) (.s [32])) (.v 32)) (.s [32])) (.v 33)) (.s [32])) (.v 34)) (.s [32])) (.v 35))) (.o1 .size (.s [32])))) (.i 9223372036854775807))
(.call 19 [.a (.sl (.v 9) (.v 10) (.v 11))] [(.a 9, .prop 12)] [.s] (.w (.a (.str (.v 36)))) [(.a 9, .prop 12)]
(.need (.o2 .le (.o1 .ofNat (.o2 .nadd (.o1 .size (.o2 .cat (.o2 .cat (.o2 .cat (.o2 .cat (.o2 .cat (.o2 .cat (.o2 .cat (.o2 .cat (.o2 .cat (.o2 .cat (.o2 .cat (.o2 .cat (.o2 .cat (.v 20) (.s [32])) (.v 22)) (.s [32])) (.v 23)) (.s [32])) (.v 32)) (.s [32])) (.v 33)) (.s [32])) (.v 34)) (.s [32])) (.v 35)) (.s [32]))) (.o1 .size (.v 36)))) (.i 9223372036854775807))
(.again 0 [.e (.o2 .cat (.o2 .cat (.o2 .cat (.o2 .cat (.o2 .cat (.o2 .cat (.o2 .cat (.o2 .cat (.o2 .cat (.o2 .cat (.o2 .cat (.o2 .cat (.o2 .cat (.o2 .cat (.o2 .cat (.v 20) (.s [32])) (.v 22)) (.s [32])) (.v 23)) (.s [32])) (.v 32)) (.s [32])) (.v 33)) (.s [32])) (.v 34)) (.s [32])) (.v 35)) (.s [32])) (.v 36)) (.s []))])))))))))))))))))))))
      (.all
(.op (.convert 9 22 (.tmp 40)) 22 [(40, .w (.a (.str (.v 5))))] [] [.a, .n, .n, .p] (.w (.a (.sl (.v 23) (.v 24) (.v 25)))) [(.a 23, .prop 26)]
       (.all
(.call 18 [.a (.int .i64 (.v 4))] [] [.s] (.w (.a (.str (.v 27)))) []
(.need (.o2 .le (.o1 .ofNat (.o2 .nadd (.o1 .size (.o2 .cat (.o2 .cat (.o2 .cat (.v 20) (.s [32])) (.v 22)) (.s [32]))) (.o1 .size (.v 27)))) (.i 9223372036854775807))
(.need (.o2 .le (.o1 .ofNat (.o2 .nadd (.o1 .size (.o2 .cat (.o2 .cat (.o2 .cat (.o2 .cat (.v 20) (.s [32])) (.v 22)) (.s [32])) (.v 27))) (.o1 .size (.s [32])))) (.i 9223372036854775807))
        (.all
(.call 19 [.a (.sl (.v 23) (.v 24) (.v 25))] [(.a 23, .prop 26)] [.s] (.w (.a (.str (.v 28)))) [(.a 23, .prop 26)]
(.need (.o2 .le (.o1 .ofNat (.o2 .nadd (.o1 .size (.o2 .cat (.o2 .cat (.o2 .cat (.o2 .cat (.o2 .cat (.v 20) (.s [32])) (.v 22)) (.s [32])) (.v 27)) (.s [32]))) (.o1 .size (.v 28)))) (.i 9223372036854775807))
(.need (.o2 .le (.o1 .ofNat (.o2 .nadd (.o1 .size (.o2 .cat (.o2 .cat (.o2 .cat (.o2 .cat (.o2 .cat (.o2 .cat (.v 20) (.s [32])) (.v 22)) (.s [32])) (.v 27)) (.s [32])) (.v 28))) (.o1 .size (.s [32])))) (.i 9223372036854775807))
(.op (.convert 9 22 (.tmp 46)) 22 [(46, .w (.a (.str (.v 6))))] [] [.a, .n, .n, .p] (.w (.a (.sl (.v 29) (.v 30) (.v 31)))) [(.a 29, .prop 32)]
(.call 19 [.a (.sl (.v 29) (.v 30) (.v 31))] [(.a 29, .prop 32)] [.s] (.w (.a (.str (.v 33)))) [(.a 29, .prop 32)]
(.need (.o2 .le (.o1 .ofNat (.o2 .nadd (.o1 .size (.o2 .cat (.o2 .cat (.o2 .cat (.o2 .cat (.o2 .cat (.o2 .cat (.o2 .cat (.v 20) (.s [32])) (.v 22)) (.s [32])) (.v 27)) (.s [32])) (.v 28)) (.s [32]))) (.o1 .size (.v 33)))) (.i 9223372036854775807))
(.need (.o2 .le (.o1 .ofNat (.o2 .nadd (.o1 .size (.o2 .cat (.o2 .cat (.o2 .cat (.o2 .cat (.o2 .cat (.o2 .cat (.o2 .cat (.o2 .cat (.v 20) (.s [32])) (.v 22)) (.s [32])) (.v 27)) (.s [32])) (.v 28)) (.s [32])) (.v 33))) (.o1 .size (.s [32])))) (.i 9223372036854775807))
(.call 18 [.a (.int .i64 (.v 7))] [] [.s] (.w (.a (.str (.v 34)))) []
(.need (.o2 .le (.o1 .ofNat (.o2 .nadd (.o1 .size (.o2 .cat (.o2 .cat (.o2 .cat (.o2 .cat (.o2 .cat (.o2 .cat (.o2 .cat (.o2 .cat (.o2 .cat (.v 20) (.s [32])) (.v 22)) (.s [32])) (.v 27)) (.s [32])) (.v 28)) (.s [32])) (.v 33)) (.s [32]))) (.o1 .size (.v 34)))) (.i 9223372036854775807))
(.need (.o2 .le (.o1 .ofNat (.o2 .nadd (.o1 .size (.o2 .cat (.o2 .cat (.o2 .cat (.o2 .cat (.o2 .cat (.o2 .cat (.o2 .cat (.o2 .cat (.o2 .cat (.o2 .cat (.v 20) (.s [32])) (.v 22)) (.s [32])) (.v 27)) (.s [32])) (.v 28)) (.s [32])) (.v 33)) (.s [32])) (.v 34))) (.o1 .size (.s [32])))) (.i 9223372036854775807))
(.call 18 [.a (.int .i64 (.v 8))] [] [.s] (.w (.a (.str (.v 35)))) []
(.need (.o2 .le (.o1 .ofNat (.o2 .nadd (.o1 .size (.o2 .cat (.o2 .cat (.o2 .cat (.o2 .cat (.o2 .cat (.o2 .cat (.o2 .cat (.o2 .cat (.o2 .cat (.o2 .cat (.o2 .cat (.v 20) (.s [32])) (.v 22)) (.s [32])) (.v 27)) (.s [32])) (.v 28)) (.s [32])) (.v 33)) (.s [32])) (.v 34)) (.s [32]))) (.o1 .size (.v 35)))) (.i 9223372036854775807))
(.need (.o2 .le (.o1 .ofNat (.o2 .nadd (.o1 .size (.o2 .cat (.o2 .cat (.o2 .cat (.o2 .cat (.o2 .cat (.o2 .cat (.o2 .cat (.o2 .cat (.o2 .cat (.o2 .cat (.o2 .cat (.o2 .cat (.v 20) (.s [32])) (.v 22)) (.s [32])) (.v 27)) (.s [32])) (.v 28)) (.s [32])) (.v 33)) (.s [32])) (.v 34)) (.s [32])) (.v 35))) (.o1 .size (.s [32])))) (.i 9223372036854775807))
(.call 19 [.a (.sl (.v 9) (.v 10) (.v 11))] [(.a 9, .prop 12)] [.s] (.w (.a (.str (.v 36)))) [(.a 9, .prop 12)]
(.need (.o2 .le (.o1 .ofNat (.o2 .nadd (.o1 .size (.o2 .cat (.o2 .cat (.o2 .cat (.o2 .cat (.o2 .cat (.o2 .cat (.o2 .cat (.o2 .cat (.o2 .cat (.o2 .cat (.o2 .cat (.o2 .cat (.o2 .cat (.v 20) (.s [32])) (.v 22)) (.s [32])) (.v 27)) (.s [32])) (.v 28)) (.s [32])) (.v 33)) (.s [32])) (.v 34)) (.s [32])) (.v 35)) (.s [32]))) (.o1 .size (.v 36)))) (.i 9223372036854775807))
(.again 0 [.e (.o2 .cat (.o2 .cat (.o2 .cat (.o2 .cat (.o2 .cat (.o2 .cat (.o2 .cat (.o2 .cat (.o2 .cat (.o2 .cat (.o2 .cat (.o2 .cat (.o2 .cat (.o2 .cat (.o2 .cat (.v 20) (.s [32])) (.v 22)) (.s [32])) (.v 27)) (.s [32])) (.v 28)) (.s [32])) (.v 33)) (.s [32])) (.v 34)) (.s [32])) (.v 35)) (.s [32])) (.v 36)) (.s []))]))))))))))))))))
(.op (.convert 9 22 (.tmp 46)) 22 [(46, .w (.a (.str (.v 6))))] [] [.a, .n, .n, .p] (.w (.a (.sl (.v 28) (.v 29) (.v 30)))) [(.a 28, .prop 31)]
(.call 19 [.a (.sl (.v 23) (.v 24) (.v 25))] [(.a 23, .prop 26)] [.s] (.w (.a (.str (.v 32)))) [(.a 23, .prop 26)]
(.need (.o2 .le (.o1 .ofNat (.o2 .nadd (.o1 .size (.o2 .cat (.o2 .cat (.o2 .cat (.o2 .cat (.o2 .cat (.v 20) (.s [32])) (.v 22)) (.s [32])) (.v 27)) (.s [32]))) (.o1 .size (.v 32)))) (.i 9223372036854775807))
(.need (.o2 .le (.o1 .ofNat (.o2 .nadd (.o1 .size (.o2 .cat (.o2 .cat (.o2 .cat (.o2 .cat (.o2 .cat (.o2 .cat (.v 20) (.s [32])) (.v 22)) (.s [32])) (.v 27)) (.s [32])) (.v 32))) (.o1 .size (.s [32])))) (.i 9223372036854775807))
(.call 19 [.a (.sl (.v 28) (.v 29) (.v 30))] [(.a 28, .prop 31)] [.s] (.w (.a (.str (.v 33)))) [(.a 28, .prop 31)]
(.need (.o2 .le (.o1 .ofNat (.o2 .nadd (.o1 .size (.o2 .cat (.o2 .cat (.o2 .cat (.o2 .cat (.o2 .cat (.o2 .cat (.o2 .cat (.v 20) (.s [32])) (.v 22)) (.s [32])) (.v 27)) (.s [32])) (.v 32)) (.s [32]))) (.o1 .size (.v 33)))) (.i 9223372036854775807))
(.need (.o2 .le (.o1 .ofNat (.o2 .nadd (.o1 .size (.o2 .cat (.o2 .cat (.o2 .cat (.o2 .cat (.o2 .cat (.o2 .cat (.o2 .cat (.o2 .cat (.v 20) (.s [32])) (.v 22)) (.s [32])) (.v 27)) (.s [32])) (.v 32)) (.s [32])) (.v 33))) (.o1 .size (.s [32])))) (.i 9223372036854775807))
(.call 18 [.a (.int .i64 (.v 7))] [] [.s] (.w (.a (.str (.v 34)))) []
(.need (.o2 .le (.o1 .ofNat (.o2 .nadd (.o1 .size (.o2 .cat (.o2 .cat (.o2 .cat (.o2 .cat (.o2 .cat (.o2 .cat (.o2 .cat (.o2 .cat (.o2 .cat (.v 20) (.s [32])) (.v 22)) (.s [32])) (.v 27)) (.s [32])) (.v 32)) (.s [32])) (.v 33)) (.s [32]))) (.o1 .size (.v 34)))) (.i 9223372036854775807))
(.need (.o2 .le (.o1 .ofNat (.o2 .nadd (.o1 .size (.o2 .cat (.o2 .cat (.o2 .cat (.o2 .cat (.o2 .cat (.o2 .cat (.o2 .cat (.o2 .cat (.o2 .cat (.o2 .cat (.v 20) (.s [32])) (.v 22)) (.s [32])) (.v 27)) (.s [32])) (.v 32)) (.s [32])) (.v 33)) (.s [32])) (.v 34))) (.o1 .size (.s [32])))) (.i 9223372036854775807))
(.call 18 [.a (.int .i64 (.v 8))] [] [.s] (.w (.a (.str (.v 35)))) []
(.need (.o2 .le (.o1 .ofNat (.o2 .nadd (.o1 .size (.o2 .cat (.o2 .cat (.o2 .cat (.o2 .cat (.o2 .cat (.o2 .cat (.o2 .cat (.o2 .cat (.o2 .cat (.o2 .cat (.o2 .cat (.v 20) (.s [32])) (.v 22)) (.s [32])) (.v 27)) (.s [32])) (.v 32)) (.s [32])) (.v 33)) (.s [32])) (.v 34)) (.s [32]))) (.o1 .size (.v 35)))) (.i 9223372036854775807))
(.need (.o2 .le (.o1 .ofNat (.o2 .nadd (.o1 .size (.o2 .cat (.o2 .cat (.o2 .cat (.o2 .cat (.o2 .cat (.o2 .cat (.o2 .cat (.o2 .cat (.o2 .cat (.o2 .cat (.o2 .cat (.o2 .cat (.v 20) (.s [32])) (.v 22)) (.s [32])) (.v 27)) (.s [32])) (.v 32)) (.s [32])) (.v 33)) (.s [32])) (.v 34)) (.s [32])) (.v 35))) (.o1 .size (.s [32])))) (.i 9223372036854775807))
(.call 19 [.a (.sl (.v 9) (.v 10) (.v 11))] [(.a 9, .prop 12)] [.s] (.w (.a (.str (.v 36)))) [(.a 9, .prop 12)]
(.need (.o2 .le (.o1 .ofNat (.o2 .nadd (.o1 .size (.o2 .cat (.o2 .cat (.o2 .cat (.o2 .cat (.o2 .cat (.o2 .cat (.o2 .cat (.o2 .cat (.o2 .cat (.o2 .cat (.o2 .cat (.o2 .cat (.o2 .cat (.v 20) (.s [32])) (.v 22)) (.s [32])) (.v 27)) (.s [32])) (.v 32)) (.s [32])) (.v 33)) (.s [32])) (.v 34)) (.s [32])) (.v 35)) (.s [32]))) (.o1 .size (.v 36)))) (.i 9223372036854775807))
(.again 0 [.e (.o2 .cat (.o2 .cat (.o2 .cat (.o2 .cat (.o2 .cat (.o2 .cat (.o2 .cat (.o2 .cat (.o2 .cat (.o2 .cat (.o2 .cat (.o2 .cat (.o2 .cat (.o2 .cat (.o2 .cat (.v 20) (.s [32])) (.v 22)) (.s [32])) (.v 27)) (.s [32])) (.v 32)) (.s [32])) (.v 33)) (.s [32])) (.v 34)) (.s [32])) (.v 35)) (.s [32])) (.v 36)) (.s []))]))))))))))))))))))))
(.op (.convert 9 22 (.tmp 46)) 22 [(46, .w (.a (.str (.v 6))))] [] [.a, .n, .n, .p] (.w (.a (.sl (.v 27) (.v 28) (.v 29)))) [(.a 27, .prop 30)]
(.call 18 [.a (.int .i64 (.v 4))] [] [.s] (.w (.a (.str (.v 31)))) []
(.need (.o2 .le (.o1 .ofNat (.o2 .nadd (.o1 .size (.o2 .cat (.o2 .cat (.o2 .cat (.v 20) (.s [32])) (.v 22)) (.s [32]))) (.o1 .size (.v 31)))) (.i 9223372036854775807))
(.need (.o2 .le (.o1 .ofNat (.o2 .nadd (.o1 .size (.o2 .cat (.o2 .cat (.o2 .cat (.o2 .cat (.v 20) (.s [32])) (.v 22)) (.s [32])) (.v 31))) (.o1 .size (.s [32])))) (.i 9223372036854775807))
(.call 19 [.a (.sl (.v 23) (.v 24) (.v 25))] [(.a 23, .prop 26)] [.s] (.w (.a (.str (.v 32)))) [(.a 23, .prop 26)]
(.need (.o2 .le (.o1 .ofNat (.o2 .nadd (.o1 .size (.o2 .cat (.o2 .cat (.o2 .cat (.o2 .cat (.o2 .cat (.v 20) (.s [32])) (.v 22)) (.s [32])) (.v 31)) (.s [32]))) (.o1 .size (.v 32)))) (.i 9223372036854775807))
(.need (.o2 .le (.o1 .ofNat (.o2 .nadd (.o1 .size (.o2 .cat (.o2 .cat (.o2 .cat (.o2 .cat (.o2 .cat (.o2 .cat (.v 20) (.s [32])) (.v 22)) (.s [32])) (.v 31)) (.s [32])) (.v 32))) (.o1 .size (.s [32])))) (.i 9223372036854775807))
(.call 19 [.a (.sl (.v 27) (.v 28) (.v 29))] [(.a 27, .prop 30)] [.s] (.w (.a (.str (.v 33)))) [(.a 27, .prop 30)]
(.need (.o2 .le (.o1 .ofNat (.o2 .nadd (.o1 .size (.o2 .cat (.o2 .cat (.o2 .cat (.o2 .cat (.o2 .cat (.o2 .cat (.o2 .cat (.v 20) (.s [32])) (.v 22)) (.s [32])) (.v 31)) (.s [32])) (.v 32)) (.s [32]))) (.o1 .size (.v 33)))) (.i 9223372036854775807))
(.need (.o2 .le (.o1 .ofNat (.o2 .nadd (.o1 .size (.o2 .cat (.o2 .cat (.o2 .cat (.o2 .cat (.o2 .cat (.o2 .cat (.o2 .cat (.o2 .cat (.v 20) (.s [32])) (.v 22)) (.s [32])) (.v 31)) (.s [32])) (.v 32)) (.s [32])) (.v 33))) (.o1 .size (.s [32])))) (.i 9223372036854775807))
(.call 18 [.a (.int .i64 (.v 7))] [] [.s] (.w (.a (.str (.v 34)))) []
(.need (.o2 .le (.o1 .ofNat (.o2 .nadd (.o1 .size (.o2 .cat (.o2 .cat (.o2 .cat (.o2 .cat (.o2 .cat (.o2 .cat (.o2 .cat (.o2 .cat (.o2 .cat (.v 20) (.s [32])) (.v 22)) (.s [32])) (.v 31)) (.s [32])) (.v 32)) (.s [32])) (.v 33)) (.s [32]))) (.o1 .size (.v 34)))) (.i 9223372036854775807))
(.need (.o2 .le (.o1 .ofNat (.o2 .nadd (.o1 .size (.o2 .cat (.o2 .cat (.o2 .cat (.o2 .cat (.o2 .cat (.o2 .cat (.o2 .cat (.o2 .cat (.o2 .cat (.o2 .cat (.v 20) (.s [32])) (.v 22)) (.s [32])) (.v 31)) (.s [32])) (.v 32)) (.s [32])) (.v 33)) (.s [32])) (.v 34))) (.o1 .size (.s [32])))) (.i 9223372036854775807))
(.call 18 [.a (.int .i64 (.v 8))] [] [.s] (.w (.a (.str (.v 35)))) []
(.need (.o2 .le (.o1 .ofNat (.o2 .nadd (.o1 .size (.o2 .cat (.o2 .cat (.o2 .cat (.o2 .cat (.o2 .cat (.o2 .cat (.o2 .cat (.o2 .cat (.o2 .cat (.o2 .cat (.o2 .cat (.v 20) (.s [32])) (.v 22)) (.s [32])) (.v 31)) (.s [32])) (.v 32)) (.s [32])) (.v 33)) (.s [32])) (.v 34)) (.s [32]))) (.o1 .size (.v 35)))) (.i 9223372036854775807))
(.need (.o2 .le (.o1 .ofNat (.o2 .nadd (.o1 .size (.o2 .cat (.o2 .cat (.o2 .cat (.o2 .cat (.o2 .cat (.o2 .cat (.o2 .cat (.o2 .cat (.o2 .cat (.o2 .cat (.o2 .cat (.o2 .cat (.v 20) (.s [32])) (.v 22)) (.s [32])) (.v 31)) (.s [32])) (.v 32)) (.s [32])) (.v 33)) (.s [32])) (.v 34)) (.s [32])) (.v 35))) (.o1 .size (.s [32])))) (.i 9223372036854775807))
(.call 19 [.a (.sl (.v 9) (.v 10) (.v 11))] [(.a 9, .prop 12)] [.s] (.w (.a (.str (.v 36)))) [(.a 9, .prop 12)]
(.need (.o2 .le (.o1 .ofNat (.o2 .nadd (.o1 .size (.o2 .cat (.o2 .cat (.o2 .cat (.o2 .cat (.o2 .cat (.o2 .cat (.o2 .cat (.o2 .cat (.o2 .cat (.o2 .cat (.o2 .cat (.o2 .cat (.o2 .cat (.v 20) (.s [32])) (.v 22)) (.s [32])) (.v 31)) (.s [32])) (.v 32)) (.s [32])) (.v 33)) (.s [32])) (.v 34)) (.s [32])) (.v 35)) (.s [32]))) (.o1 .size (.v 36)))) (.i 9223372036854775807))
(.again 0 [.e (.o2 .cat (.o2 .cat (.o2 .cat (.o2 .cat (.o2 .cat (.o2 .cat (.o2 .cat (.o2 .cat (.o2 .cat (.o2 .cat (.o2 .cat (.o2 .cat (.o2 .cat (.o2 .cat (.o2 .cat (.v 20) (.s [32])) (.v 22)) (.s [32])) (.v 31)) (.s [32])) (.v 32)) (.s [32])) (.v 33)) (.s [32])) (.v 34)) (.s [32])) (.v 35)) (.s [32])) (.v 36)) (.s []))])))))))))))))))))))))
(.op (.convert 9 22 (.tmp 46)) 22 [(46, .w (.a (.str (.v 6))))] [] [.a, .n, .n, .p] (.w (.a (.sl (.v 23) (.v 24) (.v 25)))) [(.a 23, .prop 26)]
       (.all
(.call 18 [.a (.int .i64 (.v 4))] [] [.s] (.w (.a (.str (.v 27)))) []
(.need (.o2 .le (.o1 .ofNat (.o2 .nadd (.o1 .size (.o2 .cat (.o2 .cat (.o2 .cat (.v 20) (.s [32])) (.v 22)) (.s [32]))) (.o1 .size (.v 27)))) (.i 9223372036854775807))
(.need (.o2 .le (.o1 .ofNat (.o2 .nadd (.o1 .size (.o2 .cat (.o2 .cat (.o2 .cat (.o2 .cat (.v 20) (.s [32])) (.v 22)) (.s [32])) (.v 27))) (.o1 .size (.s [32])))) (.i 9223372036854775807))
(.op (.convert 9 22 (.tmp 40)) 22 [(40, .w (.a (.str (.v 5))))] [] [.a, .n, .n, .p] (.w (.a (.sl (.v 28) (.v 29) (.v 30)))) [(.a 28, .prop 31)]
(.call 19 [.a (.sl (.v 28) (.v 29) (.v 30))] [(.a 28, .prop 31)] [.s] (.w (.a (.str (.v 32)))) [(.a 28, .prop 31)]
(.need (.o2 .le (.o1 .ofNat (.o2 .nadd (.o1 .size (.o2 .cat (.o2 .cat (.o2 .cat (.o2 .cat (.o2 .cat (.v 20) (.s [32])) (.v 22)) (.s [32])) (.v 27)) (.s [32]))) (.o1 .size (.v 32)))) (.i 9223372036854775807))
(.need (.o2 .le (.o1 .ofNat (.o2 .nadd (.o1 .size (.o2 .cat (.o2 .cat (.o2 .cat (.o2 .cat (.o2 .cat (.o2 .cat (.v 20) (.s [32])) (.v 22)) (.s [32])) (.v 27)) (.s [32])) (.v 32))) (.o1 .size (.s [32])))) (.i 9223372036854775807))
(.call 19 [.a (.sl (.v 23) (.v 24) (.v 25))] [(.a 23, .prop 26)] [.s] (.w (.a (.str (.v 33)))) [(.a 23, .prop 26)]
(.need (.o2 .le (.o1 .ofNat (.o2 .nadd (.o1 .size (.o2 .cat (.o2 .cat (.o2 .cat (.o2 .cat (.o2 .cat (.o2 .cat (.o2 .cat (.v 20) (.s [32])) (.v 22)) (.s [32])) (.v 27)) (.s [32])) (.v 32)) (.s [32]))) (.o1 .size (.v 33)))) (.i 9223372036854775807))
(.need (.o2 .le (.o1 .ofNat (.o2 .nadd (.o1 .size (.o2 .cat (.o2 .cat (.o2 .cat (.o2 .cat (.o2 .cat (.o2 .cat (.o2 .cat (.o2 .cat (.v 20) (.s [32])) (.v 22)) (.s [32])) (.v 27)) (.s [32])) (.v 32)) (.s [32])) (.v 33))) (.o1 .size (.s [32])))) (.i 9223372036854775807))
(.call 18 [.a (.int .i64 (.v 7))] [] [.s] (.w (.a (.str (.v 34)))) []
(.need (.o2 .le (.o1 .ofNat (.o2 .nadd (.o1 .size (.o2 .cat (.o2 .cat (.o2 .cat (.o2 .cat (.o2 .cat (.o2 .cat (.o2 .cat (.o2 .cat (.o2 .cat (.v 20) (.s [32])) (.v 22)) (.s [32])) (.v 27)) (.s [32])) (.v 32)) (.s [32])) (.v 33)) (.s [32]))) (.o1 .size (.v 34)))) (.i 9223372036854775807))
(.need (.o2 .le (.o1 .ofNat (.o2 .nadd (.o1 .size (.o2 .cat (.o2 .cat (.o2 .cat (.o2 .cat (.o2 .cat (.o2 .cat (.o2 .cat (.o2 .cat (.o2 .cat (.o2 .cat (.v 20) (.s [32])) (.v 22)) (.s [32])) (.v 27)) (.s [32])) (.v 32)) (.s [32])) (.v 33)) (.s [32])) (.v 34))) (.o1 .size (.s [32])))) (.i 9223372036854775807))
(.call 18 [.a (.int .i64 (.v 8))] [] [.s] (.w (.a (.str (.v 35)))) []
(.need (.o2 .le (.o1 .ofNat (.o2 .nadd (.o1 .size (.o2 .cat (.o2 .cat (.o2 .cat (.o2 .cat (.o2 .cat (.o2 .cat (.o2 .cat (.o2 .cat (.o2 .cat (.o2 .cat (.o2 .cat (.v 20) (.s [32])) (.v 22)) (.s [32])) (.v 27)) (.s [32])) (.v 32)) (.s [32])) (.v 33)) (.s [32])) (.v 34)) (.s [32]))) (.o1 .size (.v 35)))) (.i 9223372036854775807))
(.need (.o2 .le (.o1 .ofNat (.o2 .nadd (.o1 .size (.o2 .cat (.o2 .cat (.o2 .cat (.o2 .cat (.o2 .cat (.o2 .cat (.o2 .cat (.o2 .cat (.o2 .cat (.o2 .cat (.o2 .cat (.o2 .cat (.v 20) (.s [32])) (.v 22)) (.s [32])) (.v 27)) (.s [32])) (.v 32)) (.s [32])) (.v 33)) (.s [32])) (.v 34)) (.s [32])) (.v 35))) (.o1 .size (.s [32])))) (.i 9223372036854775807))
(.call 19 [.a (.sl (.v 9) (.v 10) (.v 11))] [(.a 9, .prop 12)] [.s] (.w (.a (.str (.v 36)))) [(.a 9, .prop 12)]
(.need (.o2 .le (.o1 .ofNat (.o2 .nadd (.o1 .size (.o2 .cat (.o2 .cat (.o2 .cat (.o2 .cat (.o2 .cat (.o2 .cat (.o2 .cat (.o2 .cat (.o2 .cat (.o2 .cat (.o2 .cat (.o2 .cat (.o2 .cat (.v 20) (.s [32])) (.v 22)) (.s [32])) (.v 27)) (.s [32])) (.v 32)) (.s [32])) (.v 33)) (.s [32])) (.v 34)) (.s [32])) (.v 35)) (.s [32]))) (.o1 .size (.v 36)))) (.i 9223372036854775807))
(.again 0 [.e (.o2 .cat (.o2 .cat (.o2 .cat (.o2 .cat (.o2 .cat (.o2 .cat (.o2 .cat (.o2 .cat (.o2 .cat (.o2 .cat (.o2 .cat (.o2 .cat (.o2 .cat (.o2 .cat (.o2 .cat (.v 20) (.s [32])) (.v 22)) (.s [32])) (.v 27)) (.s [32])) (.v 32)) (.s [32])) (.v 33)) (.s [32])) (.v 34)) (.s [32])) (.v 35)) (.s [32])) (.v 36)) (.s []))])))))))))))))))))))
(.op (.convert 9 22 (.tmp 40)) 22 [(40, .w (.a (.str (.v 5))))] [] [.a, .n, .n, .p] (.w (.a (.sl (.v 27) (.v 28) (.v 29)))) [(.a 27, .prop 30)]
(.call 18 [.a (.int .i64 (.v 4))] [] [.s] (.w (.a (.str (.v 31)))) []
(.need (.o2 .le (.o1 .ofNat (.o2 .nadd (.o1 .size (.o2 .cat (.o2 .cat (.o2 .cat (.v 20) (.s [32])) (.v 22)) (.s [32]))) (.o1 .size (.v 31)))) (.i 9223372036854775807))
(.need (.o2 .le (.o1 .ofNat (.o2 .nadd (.o1 .size (.o2 .cat (.o2 .cat (.o2 .cat (.o2 .cat (.v 20) (.s [32])) (.v 22)) (.s [32])) (.v 31))) (.o1 .size (.s [32])))) (.i 9223372036854775807))
(.call 19 [.a (.sl (.v 27) (.v 28) (.v 29))] [(.a 27, .prop 30)] [.s] (.w (.a (.str (.v 32)))) [(.a 27, .prop 30)]
(.need (.o2 .le (.o1 .ofNat (.o2 .nadd (.o1 .size (.o2 .cat (.o2 .cat (.o2 .cat (.o2 .cat (.o2 .cat (.v 20) (.s [32])) (.v 22)) (.s [32])) (.v 31)) (.s [32]))) (.o1 .size (.v 32)))) (.i 9223372036854775807))
(.need (.o2 .le (.o1 .ofNat (.o2 .nadd (.o1 .size (.o2 .cat (.o2 .cat (.o2 .cat (.o2 .cat (.o2 .cat (.o2 .cat (.v 20) (.s [32])) (.v 22)) (.s [32])) (.v 31)) (.s [32])) (.v 32))) (.o1 .size (.s [32])))) (.i 9223372036854775807))
(.call 19 [.a (.sl (.v 23) (.v 24) (.v 25))] [(.a 23, .prop 26)] [.s] (.w (.a (.str (.v 33)))) [(.a 23, .prop 26)]
(.need (.o2 .le (.o1 .ofNat (.o2 .nadd (.o1 .size (.o2 .cat (.o2 .cat (.o2 .cat (.o2 .cat (.o2 .cat (.o2 .cat (.o2 .cat (.v 20) (.s [32])) (.v 22)) (.s [32])) (.v 31)) (.s [32])) (.v 32)) (.s [32]))) (.o1 .size (.v 33)))) (.i 9223372036854775807))
(.need (.o2 .le (.o1 .ofNat (.o2 .nadd (.o1 .size (.o2 .cat (.o2 .cat (.o2 .cat (.o2 .cat (.o2 .cat (.o2 .cat (.o2 .cat (.o2 .cat (.v 20) (.s [32])) (.v 22)) (.s [32])) (.v 31)) (.s [32])) (.v 32)) (.s [32])) (.v 33))) (.o1 .size (.s [32])))) (.i 9223372036854775807))
(.call 18 [.a (.int .i64 (.v 7))] [] [.s] (.w (.a (.str (.v 34)))) []
(.need (.o2 .le (.o1 .ofNat (.o2 .nadd (.o1 .size (.o2 .cat (.o2 .cat (.o2 .cat (.o2 .cat (.o2 .cat (.o2 .cat (.o2 .cat (.o2 .cat (.o2 .cat (.v 20) (.s [32])) (.v 22)) (.s [32])) (.v 31)) (.s [32])) (.v 32)) (.s [32])) (.v 33)) (.s [32]))) (.o1 .size (.v 34)))) (.i 9223372036854775807))
(.need (.o2 .le (.o1 .ofNat (.o2 .nadd (.o1 .size (.o2 .cat (.o2 .cat (.o2 .cat (.o2 .cat (.o2 .cat (.o2 .cat (.o2 .cat (.o2 .cat (.o2 .cat (.o2 .cat (.v 20) (.s [32])) (.v 22)) (.s [32])) (.v 31)) (.s [32])) (.v 32)) (.s [32])) (.v 33)) (.s [32])) (.v 34))) (.o1 .size (.s [32])))) (.i 9223372036854775807))
(.call 18 [.a (.int .i64 (.v 8))] [] [.s] (.w (.a (.str (.v 35)))) []
(.need (.o2 .le (.o1 .ofNat (.o2 .nadd (.o1 .size (.o2 .cat (.o2 .cat (.o2 .cat (.o2 .cat (.o2 .cat (.o2 .cat (.o2 .cat (.o2 .cat (.o2 .cat (.o2 .cat (.o2 .cat (.v 20) (.s [32])) (.v 22)) (.s [32])) (.v 31)) (.s [32])) (.v 32)) (.s [32])) (.v 33)) (.s [32])) (.v 34)) (.s [32]))) (.o1 .size (.v 35)))) (.i 9223372036854775807))
(.need (.o2 .le (.o1 .ofNat (.o2 .nadd (.o1 .size (.o2 .cat (.o2 .cat (.o2 .cat (.o2 .cat (.o2 .cat (.o2 .cat (.o2 .cat (.o2 .cat (.o2 .cat (.o2 .cat (.o2 .cat (.o2 .cat (.v 20) (.s [32])) (.v 22)) (.s [32])) (.v 31)) (.s [32])) (.v 32)) (.s [32])) (.v 33)) (.s [32])) (.v 34)) (.s [32])) (.v 35))) (.o1 .size (.s [32])))) (.i 9223372036854775807))
(.call 19 [.a (.sl (.v 9) (.v 10) (.v 11))] [(.a 9, .prop 12)] [.s] (.w (.a (.str (.v 36)))) [(.a 9, .prop 12)]
(.need (.o2 .le (.o1 .ofNat (.o2 .nadd (.o1 .size (.o2 .cat (.o2 .cat (.o2 .cat (.o2 .cat (.o2 .cat (.o2 .cat (.o2 .cat (.o2 .cat (.o2 .cat (.o2 .cat (.o2 .cat (.o2 .cat (.o2 .cat (.v 20) (.s [32])) (.v 22)) (.s [32])) (.v 31)) (.s [32])) (.v 32)) (.s [32])) (.v 33)) (.s [32])) (.v 34)) (.s [32])) (.v 35)) (.s [32]))) (.o1 .size (.v 36)))) (.i 9223372036854775807))
(.again 0 [.e (.o2 .cat (.o2 .cat (.o2 .cat (.o2 .cat (.o2 .cat (.o2 .cat (.o2 .cat (.o2 .cat (.o2 .cat (.o2 .cat (.o2 .cat (.o2 .cat (.o2 .cat (.o2 .cat (.o2 .cat (.v 20) (.s [32])) (.v 22)) (.s [32])) (.v 31)) (.s [32])) (.v 32)) (.s [32])) (.v 33)) (.s [32])) (.v 34)) (.s [32])) (.v 35)) (.s [32])) (.v 36)) (.s []))]))))))))))))))))))))))))))
     (.all
(.op (.convert 9 22 (.tmp 40)) 22 [(40, .w (.a (.str (.v 5))))] [] [.a, .n, .n, .p] (.w (.a (.sl (.v 22) (.v 23) (.v 24)))) [(.a 22, .prop 25)]
      (.all
(.call 18 [.a (.int .i64 (.v 1))] [] [.s] (.w (.a (.str (.v 26)))) []
(.need (.o2 .le (.o1 .ofNat (.o2 .nadd (.o1 .size (.o2 .cat (.v 20) (.s [32]))) (.o1 .size (.v 26)))) (.i 9223372036854775807))
(.need (.o2 .le (.o1 .ofNat (.o2 .nadd (.o1 .size (.o2 .cat (.o2 .cat (.v 20) (.s [32])) (.v 26))) (.o1 .size (.s [32])))) (.i 9223372036854775807))
       (.all
(.call 18 [.a (.int .i64 (.v 4))] [] [.s] (.w (.a (.str (.v 27)))) []
(.need (.o2 .le (.o1 .ofNat (.o2 .nadd (.o1 .size (.o2 .cat (.o2 .cat (.o2 .cat (.v 20) (.s [32])) (.v 26)) (.s [32]))) (.o1 .size (.v 27)))) (.i 9223372036854775807))
(.need (.o2 .le (.o1 .ofNat (.o2 .nadd (.o1 .size (.o2 .cat (.o2 .cat (.o2 .cat (.o2 .cat (.v 20) (.s [32])) (.v 26)) (.s [32])) (.v 27))) (.o1 .size (.s [32])))) (.i 9223372036854775807))
        (.all
(.call 19 [.a (.sl (.v 22) (.v 23) (.v 24))] [(.a 22, .prop 25)] [.s] (.w (.a (.str (.v 28)))) [(.a 22, .prop 25)]
(.need (.o2 .le (.o1 .ofNat (.o2 .nadd (.o1 .size (.o2 .cat (.o2 .cat (.o2 .cat (.o2 .cat (.o2 .cat (.v 20) (.s [32])) (.v 26)) (.s [32])) (.v 27)) (.s [32]))) (.o1 .size (.v 28)))) (.i 9223372036854775807))
(.need (.o2 .le (.o1 .ofNat (.o2 .nadd (.o1 .size (.o2 .cat (.o2 .cat (.o2 .cat (.o2 .cat (.o2 .cat (.o2 .cat (.v 20) (.s [32])) (.v 26)) (.s [32])) (.v 27)) (.s [32])) (.v 28))) (.o1 .size (.s [32])))) (.i 9223372036854775807))
(.op (.convert 9 22 (.tmp 46)) 22 [(46, .w (.a (.str (.v 6))))] [] [.a, .n, .n, .p] (.w (.a (.sl (.v 29) (.v 30) (.v 31)))) [(.a 29, .prop 32)]
(.call 19 [.a (.sl (.v 29) (.v 30) (.v 31))] [(.a 29, .prop 32)] [.s] (.w (.a (.str (.v 33)))) [(.a 29, .prop 32)]
(.need (.o2 .le (.o1 .ofNat (.o2 .nadd (.o1 .size (.o2 .cat (.o2 .cat (.o2 .cat (.o2 .cat (.o2 .cat (.o2 .cat (.o2 .cat (.v 20) (.s [32])) (.v 26)) (.s [32])) (.v 27)) (.s [32])) (.v 28)) (.s [32]))) (.o1 .size (.v 33)))) (.i 9223372036854775807))
(.need (.o2 .le (.o1 .ofNat (.o2 .nadd (.o1 .size (.o2 .cat (.o2 .cat (.o2 .cat (.o2 .cat (.o2 .cat (.o2 .cat (.o2 .cat (.o2 .cat (.v 20) (.s [32])) (.v 26)) (.s [32])) (.v 27)) (.s [32])) (.v 28)) (.s [32])) (.v 33))) (.o1 .size (.s [32])))) (.i 9223372036854775807))
(.call 18 [.a (.int .i64 (.v 7))] [] [.s] (.w (.a (.str (.v 34)))) []
(.need (.o2 .le (.o1 .ofNat (.o2 .nadd (.o1 .size (.o2 .cat (.o2 .cat (.o2 .cat (.o2 .cat (.o2 .cat (.o2 .cat (.o2 .cat (.o2 .cat (.o2 .cat (.v 20) (.s [32])) (.v 26)) (.s [32])) (.v 27)) (.s [32])) (.v 28)) (.s [32])) (.v 33)) (.s [32]))) (.o1 .size (.v 34)))) (.i 9223372036854775807))
(.need (.o2 .le (.o1 .ofNat (.o2 .nadd (.o1 .size (.o2 .cat (.o2 .cat (.o2 .cat (.o2 .cat (.o2 .cat (.o2 .cat (.o2 .cat (.o2 .cat (.o2 .cat (.o2 .cat (.v 20) (.s [32])) (.v 26)) (.s [32])) (.v 27)) (.s [32])) (.v 28)) (.s [32])) (.v 33)) (.s [32])) (.v 34))) (.o1 .size (.s [32])))) (.i 9223372036854775807))
(.call 18 [.a (.int .i64 (.v 8))] [] [.s] (.w (.a (.str (.v 35)))) []
(.need (.o2 .le (.o1 .ofNat (.o2 .nadd (.o1 .size (.o2 .cat (.o2 .cat (.o2 .cat (.o2 .cat (.o2 .cat (.o2 .cat (.o2 .cat (.o2 .cat (.o2 .cat (.o2 .cat (.o2 .cat (.v 20) (.s [32])) (.v 26)) (.s [32])) (.v 27)) (.s [32])) (.v 28)) (.s [32])) (.v 33)) (.s [32])) (.v 34)) (.s [32]))) (.o1 .size (.v 35)))) (.i 9223372036854775807))
(.need (.o2 .le (.o1 .ofNat (.o2 .nadd (.o1 .size (.o2 .cat (.o2 .cat (.o2 .cat (.o2 .cat (.o2 .cat (.o2 .cat (.o2 .cat (.o2 .cat (.o2 .cat (.o2 .cat (.o2 .cat (.o2 .cat (.v 20) (.s [32])) (.v 26)) (.s [32])) (.v 27)) (.s [32])) (.v 28)) (.s [32])) (.v 33)) (.s [32])) (.v 34)) (.s [32])) (.v 35))) (.o1 .size (.s [32])))) (.i 9223372036854775807))
(.call 19 [.a (.sl (.v 9) (.v 10) (.v 11))] [(.a 9, .prop 12)] [.s] (.w (.a (.str (.v 36)))) [(.a 9, .prop 12)]
(.need (.o2 .le (.o1 .ofNat (.o2 .nadd (.o1 .size (.o2 .cat (.o2 .cat (.o2 .cat (.o2 .cat (.o2 .cat (.o2 .cat (.o2 .cat (.o2 .cat (.o2 .cat (.o2 .cat (.o2 .cat (.o2 .cat (.o2 .cat (.v 20) (.s [32])) (.v 26)) (.s [32])) (.v 27)) (.s [32])) (.v 28)) (.s [32])) (.v 33)) (.s [32])) (.v 34)) (.s [32])) (.v 35)) (.s [32]))) (.o1 .size (.v 36)))) (.i 9223372036854775807))
(.again 0 [.e (.o2 .cat (.o2 .cat (.o2 .cat (.o2 .cat (.o2 .cat (.o2 .cat (.o2 .cat (.o2 .cat (.o2 .cat (.o2 .cat (.o2 .cat (.o2 .cat (.o2 .cat (.o2 .cat (.o2 .cat (.v 20) (.s [32])) (.v 26)) (.s [32])) (.v 27)) (.s [32])) (.v 28)) (.s [32])) (.v 33)) (.s [32])) (.v 34)) (.s [32])) (.v 35)) (.s [32])) (.v 36)) (.s []))]))))))))))))))))
(.op (.convert 9 22 (.tmp 46)) 22 [(46, .w (.a (.str (.v 6))))] [] [.a, .n, .n, .p] (.w (.a (.sl (.v 28) (.v 29) (.v 30)))) [(.a 28, .prop 31)]
(.call 19 [.a (.sl (.v 22) (.v 23) (.v 24))] [(.a 22, .prop 25)] [.s] (.w (.a (.str (.v 32)))) [(.a 22, .prop 25)]
(.need (.o2 .le (.o1 .ofNat (.o2 .nadd (.o1 .size (.o2 .cat (.o2 .cat (.o2 .cat (.o2 .cat (.o2 .cat (.v 20) (.s [32])) (.v 26)) (.s [32])) (.v 27)) (.s [32]))) (.o1 .size (.v 32)))) (.i 9223372036854775807))
(.need (.o2 .le (.o1 .ofNat (.o2 .nadd (.o1 .size (.o2 .cat (.o2 .cat (.o2 .cat (.o2 .cat (.o2 .cat (.o2 .cat (.v 20) (.s [32])) (.v 26)) (.s [32])) (.v 27)) (.s [32])) (.v 32))) (.o1 .size (.s [32])))) (.i 9223372036854775807))
(.call 19 [.a (.sl (.v 28) (.v 29) (.v 30))] [(.a 28, .prop 31)] [.s] (.w (.a (.str (.v 33)))) [(.a 28, .prop 31)]
(.need (.o2 .le (.o1 .ofNat (.o2 .nadd (.o1 .size (.o2 .cat (.o2 .cat (.o2 .cat (.o2 .cat (.o2 .cat (.o2 .cat (.o2 .cat (.v 20) (.s [32])) (.v 26)) (.s [32])) (.v 27)) (.s [32])) (.v 32)) (.s [32]))) (.o1 .size (.v 33)))) (.i 9223372036854775807))
(.need (.o2 .le (.o1 .ofNat (.o2 .nadd (.o1 .size (.o2 .cat (.o2 .cat (.o2 .cat (.o2 .cat (.o2 .cat (.o2 .cat (.o2 .cat (.o2 .cat (.v 20) (.s [32])) (.v 26)) (.s [32])) (.v 27)) (.s [32])) (.v 32)) (.s [32])) (.v 33))) (.o1 .size (.s [32])))) (.i 9223372036854775807))
(.call 18 [.a (.int .i64 (.v 7))] [] [.s] (.w (.a (.str (.v 34)))) []
(.need (.o2 .le (.o1 .ofNat (.o2 .nadd (.o1 .size (.o2 .cat (.o2 .cat (.o2 .cat (.o2 .cat (.o2 .cat (.o2 .cat (.o2 .cat (.o2 .cat (.o2 .cat (.v 20) (.s [32])) (.v 26)) (.s [32])) (.v 27)) (.s [32])) (.v 32)) (.s [32])) (.v 33)) (.s [32]))) (.o1 .size (.v 34)))) (.i 9223372036854775807))
(.need (.o2 .le (.o1 .ofNat (.o2 .nadd (.o1 .size (.o2 .cat (.o2 .cat (.o2 .cat (.o2 .cat (.o2 .cat (.o2 .cat (.o2 .cat (.o2 .cat (.o2 .cat (.o2 .cat (.v 20) (.s [32])) (.v 26)) (.s [32])) (.v 27)) (.s [32])) (.v 32)) (.s [32])) (.v 33)) (.s [32])) (.v 34))) (.o1 .size (.s [32])))) (.i 9223372036854775807))
(.call 18 [.a (.int .i64 (.v 8))] [] [.s] (.w (.a (.str (.v 35)))) []
(.need (.o2 .le (.o1 .ofNat (.o2 .nadd (.o1 .size (.o2 .cat (.o2 .cat (.o2 .cat (.o2 .cat (.o2 .cat (.o2 .cat (.o2 .cat (.o2 .cat (.o2 .cat (.o2 .cat (.o2 .cat (.v 20) (.s [32])) (.v 26)) (.s [32])) (.v 27)) (.s [32])) (.v 32)) (.s [32])) (.v 33)) (.s [32])) (.v 34)) (.s [32]))) (.o1 .size (.v 35)))) (.i 9223372036854775807))
(.need (.o2 .le (.o1 .ofNat (.o2 .nadd (.o1 .size (.o2 .cat (.o2 .cat (.o2 .cat (.o2 .cat (.o2 .cat (.o2 .cat (.o2 .cat (.o2 .cat (.o2 .cat (.o2 .cat (.o2 .cat (.o2 .cat (.v 20) (.s [32])) (.v 26)) (.s [32])) (.v 27)) (.s [32])) (.v 32)) (.s [32])) (.v 33)) (.s [32])) (.v 34)) (.s [32])) (.v 35))) (.o1 .size (.s [32])))) (.i 9223372036854775807))
(.call 19 [.a (.sl (.v 9) (.v 10) (.v 11))] [(.a 9, .prop 12)] [.s] (.w (.a (.str (.v 36)))) [(.a 9, .prop 12)]
(.need (.o2 .le (.o1 .ofNat (.o2 .nadd (.o1 .size (.o2 .cat (.o2 .cat (.o2 .cat (.o2 .cat (.o2 .cat (.o2 .cat (.o2 .cat (.o2 .cat (.o2 .cat (.o2 .cat (.o2 .cat (.o2 .cat (.o2 .cat (.v 20) (.s [32])) (.v 26)) (.s [32])) (.v 27)) (.s [32])) (.v 32)) (.s [32])) (.v 33)) (.s [32])) (.v 34)) (.s [32])) (.v 35)) (.s [32]))) (.o1 .size (.v 36)))) (.i 9223372036854775807))
(.again 0 [.e (.o2 .cat (.o2 .cat (.o2 .cat (.o2 .cat (.o2 .cat (.o2 .cat (.o2 .cat (.o2 .cat (.o2 .cat (.o2 .cat (.o2 .cat (.o2 .cat (.o2 .cat (.o2 .cat (.o2 .cat (.v 20) (.s [32])) (.v 26)) (.s [32])) (.v 27)) (.s [32])) (.v 32)) (.s [32])) (.v 33)) (.s [32])) (.v 34)) (.s [32])) (.v 35)) (.s [32])) (.v 36)) (.s []))]))))))))))))))))))))
(.op (.convert 9 22 (.tmp 46)) 22 [(46, .w (.a (.str (.v 6))))] [] [.a, .n, .n, .p] (.w (.a (.sl (.v 27) (.v 28) (.v 29)))) [(.a 27, .prop 30)]
(.call 18 [.a (.int .i64 (.v 4))] [] [.s] (.w (.a (.str (.v 31)))) []
(.need (.o2 .le (.o1 .ofNat (.o2 .nadd (.o1 .size (.o2 .cat (.o2 .cat (.o2 .cat (.v 20) (.s [32])) (.v 26)) (.s [32]))) (.o1 .size (.v 31)))) (.i 9223372036854775807))
(.need (.o2 .le (.o1 .ofNat (.o2 .nadd (.o1 .size (.o2 .cat (.o2 .cat (.o2 .cat (.o2 .cat (.v 20) (.s [32])) (.v 26)) (.s [32])) (.v 31))) (.o1 .size (.s [32])))) (.i 9223372036854775807))
(.call 19 [.a (.sl (.v 22) (.v 23) (.v 24))] [(.a 22, .prop 25)] [.s] (.w (.a (.str (.v 32)))) [(.a 22, .prop 25)]
(.need (.o2 .le (.o1 .ofNat (.o2 .nadd (.o1 .size (.o2 .cat (.o2 .cat (.o2 .cat (.o2 .cat (.o2 .cat (.v 20) (.s [32])) (.v 26)) (.s [32])) (.v 31)) (.s [32]))) (.o1 .size (.v 32)))) (.i 9223372036854775807))
(.need (.o2 .le (.o1 .ofNat (.o2 .nadd (.o1 .size (.o2 .cat (.o2 .cat (.o2 .cat (.o2 .cat (.o2 .cat (.o2 .cat (.v 20) (.s [32])) (.v 26)) (.s [32])) (.v 31)) (.s [32])) (.v 32))) (.o1 .size (.s [32])))) (.i 9223372036854775807))
(.call 19 [.a (.sl (.v 27) (.v 28) (.v 29))] [(.a 27, .prop 30)] [.s] (.w (.a (.str (.v 33)))) [(.a 27, .prop 30)]
(.need (.o2 .le (.o1 .ofNat (.o2 .nadd (.o1 .size (.o2 .cat (.o2 .cat (.o2 .cat (.o2 .cat (.o2 .cat (.o2 .cat (.o2 .cat (.v 20) (.s [32])) (.v 26)) (.s [32])) (.v 31)) (.s [32])) (.v 32)) (.s [32]))) (.o1 .size (.v 33)))) (.i 9223372036854775807))
(.need (.o2 .le (.o1 .ofNat (.o2 .nadd (.o1 .size (.o2 .cat (.o2 .cat (.o2 .cat (.o2 .cat (.o2 .cat (.o2 .cat (.o2 .cat (.o2 .cat (.v 20) (.s [32])) (.v 26)) (.s [32])) (.v 31)) (.s [32])) (.v 32)) (.s [32])) (.v 33))) (.o1 .size (.s [32])))) (.i 9223372036854775807))
(.call 18 [.a (.int .i64 (.v 7))] [] [.s] (.w (.a (.str (.v 34)))) []
(.need (.o2 .le (.o1 .ofNat (.o2 .nadd (.o1 .size (.o2 .cat (.o2 .cat (.o2 .cat (.o2 .cat (.o2 .cat (.o2 .cat (.o2 .cat (.o2 .cat (.o2 .cat (.v 20) (.s [32])) (.v 26)) (.s [32])) (.v 31)) (.s [32])) (.v 32)) (.s [32])) (.v 33)) (.s [32]))) (.o1 .size (.v 34)))) (.i 9223372036854775807))
(.need (.o2 .le (.o1 .ofNat (.o2 .nadd (.o1 .size (.o2 .cat (.o2 .cat (.o2 .cat (.o2 .cat (.o2 .cat (.o2 .cat (.o2 .cat (.o2 .cat (.o2 .cat (.o2 .cat (.v 20) (.s [32])) (.v 26)) (.s [32])) (.v 31)) (.s [32])) (.v 32)) (.s [32])) (.v 33)) (.s [32])) (.v 34))) (.o1 .size (.s [32])))) (.i 9223372036854775807))
(.call 18 [.a (.int .i64 (.v 8))] [] [.s] (.w (.a (.str (.v 35)))) []
(.need (.o2 .le (.o1 .ofNat (.o2 .nadd (.o1 .size (.o2 .cat (.o2 .cat (.o2 .cat (.o2 .cat (.o2 .cat (.o2 .cat (.o2 .cat (.o2 .cat (.o2 .cat (.o2 .cat (.o2 .cat (.v 20) (.s [32])) (.v 26)) (.s [32])) (.v 31)) (.s [32])) (.v 32)) (.s [32])) (.v 33)) (.s [32])) (.v 34)) (.s [32]))) (.o1 .size (.v 35)))) (.i 9223372036854775807))
(.need (.o2 .le (.o1 .ofNat (.o2 .nadd (.o1 .size (.o2 .cat (.o2 .cat (.o2 .cat (.o2 .cat (.o2 .cat (.o2 .cat (.o2 .cat (.o2 .cat (.o2 .cat (.o2 .cat (.o2 .cat (.o2 .cat (.v 20) (.s [32])) (.v 26)) (.s [32])) (.v 31)) (.s [32])) (.v 32)) (.s [32])) (.v 33)) (.s [32])) (.v 34)) (.s [32])) (.v 35))) (.o1 .size (.s [32])))) (.i 9223372036854775807))
(.call 19 [.a (.sl (.v 9) (.v 10) (.v 11))] [(.a 9, .prop 12)] [.s] (.w (.a (.str (.v 36)))) [(.a 9, .prop 12)]
(.need (.o2 .le (.o1 .ofNat (.o2 .nadd (.o1 .size (.o2 .cat (.o2 .cat (.o2 .cat (.o2 .cat (.o2 .cat (.o2 .cat (.o2 .cat (.o2 .cat (.o2 .cat (.o2 .cat (.o2 .cat (.o2 .cat (.o2 .cat (.v 20) (.s [32])) (.v 26)) (.s [32])) (.v 31)) (.s [32])) (.v 32)) (.s [32])) (.v 33)) (.s [32])) (.v 34)) (.s [32])) (.v 35)) (.s [32]))) (.o1 .size (.v 36)))) (.i 9223372036854775807))
(.again 0 [.e (.o2 .cat (.o2 .cat (.o2 .cat (.o2 .cat (.o2 .cat (.o2 .cat (.o2 .cat (.o2 .cat (.o2 .cat (.o2 .cat (.o2 .cat (.o2 .cat (.o2 .cat (.o2 .cat (.o2 .cat (.v 20) (.s [32])) (.v 26)) (.s [32])) (.v 31)) (.s [32])) (.v 32)) (.s [32])) (.v 33)) (.s [32])) (.v 34)) (.s [32])) (.v 35)) (.s [32])) (.v 36)) (.s []))])))))))))))))))))))))))
(.op (.convert 9 22 (.tmp 46)) 22 [(46, .w (.a (.str (.v 6))))] [] [.a, .n, .n, .p] (.w (.a (.sl (.v 26) (.v 27) (.v 28)))) [(.a 26, .prop 29)]
(.call 18 [.a (.int .i64 (.v 1))] [] [.s] (.w (.a (.str (.v 30)))) []
(.need (.o2 .le (.o1 .ofNat (.o2 .nadd (.o1 .size (.o2 .cat (.v 20) (.s [32]))) (.o1 .size (.v 30)))) (.i 9223372036854775807))
(.need (.o2 .le (.o1 .ofNat (.o2 .nadd (.o1 .size (.o2 .cat (.o2 .cat (.v 20) (.s [32])) (.v 30))) (.o1 .size (.s [32])))) (.i 9223372036854775807))
(.call 18 [.a (.int .i64 (.v 4))] [] [.s] (.w (.a (.str (.v 31)))) []
(.need (.o2 .le (.o1 .ofNat (.o2 .nadd (.o1 .size (.o2 .cat (.o2 .cat (.o2 .cat (.v 20) (.s [32])) (.v 30)) (.s [32]))) (.o1 .size (.v 31)))) (.i 9223372036854775807))
(.need (.o2 .le (.o1 .ofNat (.o2 .nadd (.o1 .size (.o2 .cat (.o2 .cat (.o2 .cat (.o2 .cat (.v 20) (.s [32])) (.v 30)) (.s [32])) (.v 31))) (.o1 .size (.s [32])))) (.i 9223372036854775807))
(.call 19 [.a (.sl (.v 22) (.v 23) (.v 24))] [(.a 22, .prop 25)] [.s] (.w (.a (.str (.v 32)))) [(.a 22, .prop 25)]
(.need (.o2 .le (.o1 .ofNat (.o2 .nadd (.o1 .size (.o2 .cat (.o2 .cat (.o2 .cat (.o2 .cat (.o2 .cat (.v 20) (.s [32])) (.v 30)) (.s [32])) (.v 31)) (.s [32]))) (.o1 .size (.v 32)))) (.i 9223372036854775807))
(.need (.o2 .le (.o1 .ofNat (.o2 .nadd (.o1 .size (.o2 .cat (.o2 .cat (.o2 .cat (.o2 .cat (.o2 .cat (.o2 .cat (.v 20) (.s [32])) (.v 30)) (.s [32])) (.v 31)) (.s [32])) (.v 32))) (.o1 .size (.s [32])))) (.i 9223372036854775807))
(.call 19 [.a (.sl (.v 26) (.v 27) (.v 28))] [(.a 26, .prop 29)] [.s] (.w (.a (.str (.v 33)))) [(.a 26, .prop 29)]
(.need (.o2 .le (.o1 .ofNat (.o2 .nadd (.o1 .size (.o2 .cat (.o2 .cat (.o2 .cat (.o2 .cat (.o2 .cat (.o2 .cat (.o2 .cat (.v 20) (.s [32])) (.v 30)) (.s [32])) (.v 31)) (.s [32])) (.v 32)) (.s [32]))) (.o1 .size (.v 33)))) (.i 9223372036854775807))
(.need (.o2 .le (.o1 .ofNat (.o2 .nadd (.o1 .size (.o2 .cat (.o2 .cat (.o2 .cat (.o2 .cat (.o2 .cat (.o2 .cat (.o2 .cat (.o2 .cat (.v 20) (.s [32])) (.v 30)) (.s [32])) (.v 31)) (.s [32])) (.v 32)) (.s [32])) (.v 33))) (.o1 .size (.s [32])))) (.i 9223372036854775807))
(.call 18 [.a (.int .i64 (.v 7))] [] [.s] (.w (.a (.str (.v 34)))) []
(.need (.o2 .le (.o1 .ofNat (.o2 .nadd (.o1 .size (.o2 .cat (.o2 .cat (.o2 .cat (.o2 .cat (.o2 .cat (.o2 .cat (.o2 .cat (.o2 .cat (.o2 .cat (.v 20) (.s [32])) (.v 30)) (.s [32])) (.v 31)) (.s [32])) (.v 32)) (.s [32])) (.v 33)) (.s [32]))) (.o1 .size (.v 34)))) (.i 9223372036854775807))
(.need (.o2 .le (.o1 .ofNat (.o2 .nadd (.o1 .size (.o2 .cat (.o2 .cat (.o2 .cat (.o2 .cat (.o2 .cat (.o2 .cat (.o2 .cat (.o2 .cat (.o2 .cat (.o2 .cat (.v 20) (.s [32])) (.v 30)) (.s [32])) (.v 31)) (.s [32])) (.v 32)) (.s [32])) (.v 33)) (.s [32])) (.v 34))) (.o1 .size (.s [32])))) (.i 9223372036854775807))
(.call 18 [.a (.int .i64 (.v 8))] [] [.s] (.w (.a (.str (.v 35)))) []
(.need (.o2 .le (.o1 .ofNat (.o2 .nadd (.o1 .size (.o2 .cat (.o2 .cat (.o2 .cat (.o2 .cat (.o2 .cat (.o2 .cat (.o2 .cat (.o2 .cat (.o2 .cat (.o2 .cat (.o2 .cat (.v 20) (.s [32])) (.v 30)) (.s [32])) (.v 31)) (.s [32])) (.v 32)) (.s [32])) (.v 33)) (.s [32])) (.v 34)) (.s [32]))) (.o1 .size (.v 35)))) (.i 9223372036854775807))
(.need (.o2 .le (.o1 .ofNat (.o2 .nadd (.o1 .size (.o2 .cat (.o2 .cat (.o2 .cat (.o2 .cat (.o2 .cat (.o2 .cat (.o2 .cat (.o2 .cat (.o2 .cat (.o2 .cat (.o2 .cat (.o2 .cat (.v 20) (.s [32])) (.v 30)) (.s [32])) (.v 31)) (.s [32])) (.v 32)) (.s [32])) (.v 33)) (.s [32])) (.v 34)) (.s [32])) (.v 35))) (.o1 .size (.s [32])))) (.i 9223372036854775807))
(.call 19 [.a (.sl (.v 9) (.v 10) (.v 11))] [(.a 9, .prop 12)] [.s] (.w (.a (.str (.v 36)))) [(.a 9, .prop 12)]
(.need (.o2 .le (.o1 .ofNat (.o2 .nadd (.o1 .size (.o2 .cat (.o2 .cat (.o2 .cat (.o2 .cat (.o2 .cat (.o2 .cat (.o2 .cat (.o2 .cat (.o2 .cat (.o2 .cat (.o2 .cat (.o2 .cat (.o2 .cat (.v 20) (.s [32])) (.v 30)) (.s [32])) (.v 31)) (.s [32])) (.v 32)) (.s [32])) (.v 33)) (.s [32])) (.v 34)) (.s [32])) (.v 35)) (.s [32]))) (.o1 .size (.v 36)))) (.i 9223372036854775807))
(.again 0 [.e (.o2 .cat (.o2 .cat (.o2 .cat (.o2 .cat (.o2 .cat (.o2 .cat (.o2 .cat (.o2 .cat (.o2 .cat (.o2 .cat (.o2 .cat (.o2 .cat (.o2 .cat (.o2 .cat (.o2 .cat (.v 20) (.s [32])) (.v 30)) (.s [32])) (.v 31)) (.s [32])) (.v 32)) (.s [32])) (.v 33)) (.s [32])) (.v 34)) (.s [32])) (.v 35)) (.s [32])) (.v 36)) (.s []))]))))))))))))))))))))))))
(.op (.convert 9 22 (.tmp 46)) 22 [(46, .w (.a (.str (.v 6))))] [] [.a, .n, .n, .p] (.w (.a (.sl (.v 22) (.v 23) (.v 24)))) [(.a 22, .prop 25)]
      (.all
(.call 18 [.a (.int .i64 (.v 1))] [] [.s] (.w (.a (.str (.v 26)))) []
(.need (.o2 .le (.o1 .ofNat (.o2 .nadd (.o1 .size (.o2 .cat (.v 20) (.s [32]))) (.o1 .size (.v 26)))) (.i 9223372036854775807))
(.need (.o2 .le (.o1 .ofNat (.o2 .nadd (.o1 .size (.o2 .cat (.o2 .cat (.v 20) (.s [32])) (.v 26))) (.o1 .size (.s [32])))) (.i 9223372036854775807))
       (.all
(.call 18 [.a (.int .i64 (.v 4))] [] [.s] (.w (.a (.str (.v 27)))) []
(.need (.o2 .le (.o1 .ofNat (.o2 .nadd (.o1 .size (.o2 .cat (.o2 .cat (.o2 .cat (.v 20) (.s [32])) (.v 26)) (.s [32]))) (.o1 .size (.v 27)))) (.i 9223372036854775807))
(.need (.o2 .le (.o1 .ofNat (.o2 .nadd (.o1 .size (.o2 .cat (.o2 .cat (.o2 .cat (.o2 .cat (.v 20) (.s [32])) (.v 26)) (.s [32])) (.v 27))) (.o1 .size (.s [32])))) (.i 9223372036854775807))
(.op (.convert 9 22 (.tmp 40)) 22 [(40, .w (.a (.str (.v 5))))] [] [.a, .n, .n, .p] (.w (.a (.sl (.v 28) (.v 29) (.v 30)))) [(.a 28, .prop 31)]
(.call 19 [.a (.sl (.v 28) (.v 29) (.v 30))] [(.a 28, .prop 31)] [.s] (.w (.a (.str (.v 32)))) [(.a 28, .prop 31)]
(.need (.o2 .le (.o1 .ofNat (.o2 .nadd (.o1 .size (.o2 .cat (.o2 .cat (.o2 .cat (.o2 .cat (.o2 .cat (.v 20) (.s [32])) (.v 26)) (.s [32])) (.v 27)) (.s [32]))) (.o1 .size (.v 32)))) (.i 9223372036854775807))
(.need (.o2 .le (.o1 .ofNat (.o2 .nadd (.o1 .size (.o2 .cat (.o2 .cat (.o2 .cat (.o2 .cat (.o2 .cat (.o2 .cat (.v 20) (.s [32])) (.v 26)) (.s [32])) (.v 27)) (.s [32])) (.v 32))) (.o1 .size (.s [32])))) (.i 9223372036854775807))
(.call 19 [.a (.sl (.v 22) (.v 23) (.v 24))] [(.a 22, .prop 25)] [.s] (.w (.a (.str (.v 33)))) [(.a 22, .prop 25)]
(.need (.o2 .le (.o1 .ofNat (.o2 .nadd (.o1 .size (.o2 .cat (.o2 .cat (.o2 .cat (.o2 .cat (.o2 .cat (.o2 .cat (.o2 .cat (.v 20) (.s [32])) (.v 26)) (.s [32])) (.v 27)) (.s [32])) (.v 32)) (.s [32]))) (.o1 .size (.v 33)))) (.i 9223372036854775807))
(.need (.o2 .le (.o1 .ofNat (.o2 .nadd (.o1 .size (.o2 .cat (.o2 .cat (.o2 .cat (.o2 .cat (.o2 .cat (.o2 .cat (.o2 .cat (.o2 .cat (.v 20) (.s [32])) (.v 26)) (.s [32])) (.v 27)) (.s [32])) (.v 32)) (.s [32])) (.v 33))) (.o1 .size (.s [32])))) (.i 9223372036854775807))
(.call 18 [.a (.int .i64 (.v 7))] [] [.s] (.w (.a (.str (.v 34)))) []
(.need (.o2 .le (.o1 .ofNat (.o2 .nadd (.o1 .size (.o2 .cat (.o2 .cat (.o2 .cat (.o2 .cat (.o2 .cat (.o2 .cat (.o2 .cat (.o2 .cat (.o2 .cat (.v 20) (.s [32])) (.v 26)) (.s [32])) (.v 27)) (.s [32])) (.v 32)) (.s [32])) (.v 33)) (.s [32]))) (.o1 .size (.v 34)))) (.i 9223372036854775807))
(.need (.o2 .le (.o1 .ofNat (.o2 .nadd (.o1 .size (.o2 .cat (.o2 .cat (.o2 .cat (.o2 .cat (.o2 .cat (.o2 .cat (.o2 .cat (.o2 .cat (.o2 .cat (.o2 .cat (.v 20) (.s [32])) (.v 26)) (.s [32])) (.v 27)) (.s [32])) (.v 32)) (.s [32])) (.v 33)) (.s [32])) (.v 34))) (.o1 .size (.s [32])))) (.i 9223372036854775807))
(.call 18 [.a (.int .i64 (.v 8))] [] [.s] (.w (.a (.str (.v 35)))) []
(.need (.o2 .le (.o1 .ofNat (.o2 .nadd (.o1 .size (.o2 .cat (.o2 .cat (.o2 .cat (.o2 .cat (.o2 .cat (.o2 .cat (.o2 .cat (.o2 .cat (.o2 .cat (.o2 .cat (.o2 .cat (.v 20) (.s [32])) (.v 26)) (.s [32])) (.v 27)) (.s [32])) (.v 32)) (.s [32])) (.v 33)) (.s [32])) (.v 34)) (.s [32]))) (.o1 .size (.v 35)))) (.i 9223372036854775807))
(.need (.o2 .le (.o1 .ofNat (.o2 .nadd (.o1 .size (.o2 .cat (.o2 .cat (.o2 .cat (.o2 .cat (.o2 .cat (.o2 .cat (.o2 .cat (.o2 .cat (.o2 .cat (.o2 .cat (.o2 .cat (.o2 .cat (.v 20) (.s [32])) (.v 26)) (.s [32])) (.v 27)) (.s [32])) (.v 32)) (.s [32])) (.v 33)) (.s [32])) (.v 34)) (.s [32])) (.v 35))) (.o1 .size (.s [32])))) (.i 9223372036854775807))
(.call 19 [.a (.sl (.v 9) (.v 10) (.v 11))] [(.a 9, .prop 12)] [.s] (.w (.a (.str (.v 36)))) [(.a 9, .prop 12)]
(.need (.o2 .le (.o1 .ofNat (.o2 .nadd (.o1 .size (.o2 .cat (.o2 .cat (.o2 .cat (.o2 .cat (.o2 .cat (.o2 .cat (.o2 .cat (.o2 .cat (.o2 .cat (.o2 .cat (.o2 .cat (.o2 .cat (.o2 .cat (.v 20) (.s [32])) (.v 26)) (.s [32])) (.v 27)) (.s [32])) (.v 32)) (.s [32])) (.v 33)) (.s [32])) (.v 34)) (.s [32])) (.v 35)) (.s [32]))) (.o1 .size (.v 36)))) (.i 9223372036854775807))
(.again 0 [.e (.o2 .cat (.o2 .cat (.o2 .cat (.o2 .cat (.o2 .cat (.o2 .cat (.o2 .cat (.o2 .cat (.o2 .cat (.o2 .cat (.o2 .cat (.o2 .cat (.o2 .cat (.o2 .cat (.o2 .cat (.v 20) (.s [32])) (.v 26)) (.s [32])) (.v 27)) (.s [32])) (.v 32)) (.s [32])) (.v 33)) (.s [32])) (.v 34)) (.s [32])) (.v 35)) (.s [32])) (.v 36)) (.s []))])))))))))))))))))))
(.op (.convert 9 22 (.tmp 40)) 22 [(40, .w (.a (.str (.v 5))))] [] [.a, .n, .n, .p] (.w (.a (.sl (.v 27) (.v 28) (.v 29)))) [(.a 27, .prop 30)]
(.call 18 [.a (.int .i64 (.v 4))] [] [.s] (.w (.a (.str (.v 31)))) []
(.need (.o2 .le (.o1 .ofNat (.o2 .nadd (.o1 .size (.o2 .cat (.o2 .cat (.o2 .cat (.v 20) (.s [32])) (.v 26)) (.s [32]))) (.o1 .size (.v 31)))) (.i 9223372036854775807))
(.need (.o2 .le (.o1 .ofNat (.o2 .nadd (.o1 .size (.o2 .cat (.o2 .cat (.o2 .cat (.o2 .cat (.v 20) (.s [32])) (.v 26)) (.s [32])) (.v 31))) (.o1 .size (.s [32])))) (.i 9223372036854775807))
(.call 19 [.a (.sl (.v 27) (.v 28) (.v 29))] [(.a 27, .prop 30)] [.s] (.w (.a (.str (.v 32)))) [(.a 27, .prop 30)]
(.need (.o2 .le (.o1 .ofNat (.o2 .nadd (.o1 .size (.o2 .cat (.o2 .cat (.o2 .cat (.o2 .cat (.o2 .cat (.v 20) (.s [32])) (.v 26)) (.s [32])) (.v 31)) (.s [32]))) (.o1 .size (.v 32)))) (.i 9223372036854775807))
(.need (.o2 .le (.o1 .ofNat (.o2 .nadd (.o1 .size (.o2 .cat (.o2 .cat (.o2 .cat (.o2 .cat (.o2 .cat (.o2 .cat (.v 20) (.s [32])) (.v 26)) (.s [32])) (.v 31)) (.s [32])) (.v 32))) (.o1 .size (.s [32])))) (.i 9223372036854775807))
(.call 19 [.a (.sl (.v 22) (.v 23) (.v 24))] [(.a 22, .prop 25)] [.s] (.w (.a (.str (.v 33)))) [(.a 22, .prop 25)]
(.need (.o2 .le (.o1 .ofNat (.o2 .nadd (.o1 .size (.o2 .cat (.o2 .cat (.o2 .cat (.o2 .cat (.o2 .cat (.o2 .cat (.o2 .cat (.v 20) (.s [32])) (.v 26)) (.s [32])) (.v 31)) (.s [32])) (.v 32)) (.s [32]))) (.o1 .size (.v 33)))) (.i 9223372036854775807))
(.need (.o2 .le (.o1 .ofNat (.o2 .nadd (.o1 .size (.o2 .cat (.o2 .cat (.o2 .cat (.o2 .cat (.o2 .cat (.o2 .cat (.o2 .cat (.o2 .cat (.v 20) (.s [32])) (.v 26)) (.s [32])) (.v 31)) (.s [32])) (.v 32)) (.s [32])) (.v 33))) (.o1 .size (.s [32])))) (.i 9223372036854775807))
(.call 18 [.a (.int .i64 (.v 7))] [] [.s] (.w (.a (.str (.v 34)))) []
(.need (.o2 .le (.o1 .ofNat (.o2 .nadd (.o1 .size (.o2 .cat (.o2 .cat (.o2 .cat (.o2 .cat (.o2 .cat (.o2 .cat (.o2 .cat (.o2 .cat (.o2 .cat (.v 20) (.s [32])) (.v 26)) (.s [32])) (.v 31)) (.s [32])) (.v 32)) (.s [32])) (.v 33)) (.s [32]))) (.o1 .size (.v 34)))) (.i 9223372036854775807))
(.need (.o2 .le (.o1 .ofNat (.o2 .nadd (.o1 .size (.o2 .cat (.o2 .cat (.o2 .cat (.o2 .cat (.o2 .cat (.o2 .cat (.o2 .cat (.o2 .cat (.o2 .cat (.o2 .cat (.v 20) (.s [32])) (.v 26)) (.s [32])) (.v 31)) (.s [32])) (.v 32)) (.s [32])) (.v 33)) (.s [32])) (.v 34))) (.o1 .size (.s [32])))) (.i 9223372036854775807))
(.call 18 [.a (.int .i64 (.v 8))] [] [.s] (.w (.a (.str (.v 35)))) []
(.need (.o2 .le (.o1 .ofNat (.o2 .nadd (.o1 .size (.o2 .cat (.o2 .cat (.o2 .cat (.o2 .cat (.o2 .cat (.o2 .cat (.o2 .cat (.o2 .cat (.o2 .cat (.o2 .cat (.o2 .cat (.v 20) (.s [32])) (.v 26)) (.s [32])) (.v 31)) (.s [32])) (.v 32)) (.s [32])) (.v 33)) (.s [32])) (.v 34)) (.s [32]))) (.o1 .size (.v 35)))) (.i 9223372036854775807))
(.need (.o2 .le (.o1 .ofNat (.o2 .nadd (.o1 .size (.o2 .cat (.o2 .cat (.o2 .cat (.o2 .cat (.o2 .cat (.o2 .cat (.o2 .cat (.o2 .cat (.o2 .cat (.o2 .cat (.o2 .cat (.o2 .cat (.v 20) (.s [32])) (.v 26)) (.s [32])) (.v 31)) (.s [32])) (.v 32)) (.s [32])) (.v 33)) (.s [32])) (.v 34)) (.s [32])) (.v 35))) (.o1 .size (.s [32])))) (.i 9223372036854775807))
(.call 19 [.a (.sl (.v 9) (.v 10) (.v 11))] [(.a 9, .prop 12)] [.s] (.w (.a (.str (.v 36)))) [(.a 9, .prop 12)]
(.need (.o2 .le (.o1 .ofNat (.o2 .nadd (.o1 .size (.o2 .cat (.o2 .cat (.o2 .cat (.o2 .cat (.o2 .cat (.o2 .cat (.o2 .cat (.o2 .cat (.o2 .cat (.o2 .cat (.o2 .cat (.o2 .cat (.o2 .cat (.v 20) (.s [32])) (.v 26)) (.s [32])) (.v 31)) (.s [32])) (.v 32)) (.s [32])) (.v 33)) (.s [32])) (.v 34)) (.s [32])) (.v 35)) (.s [32]))) (.o1 .size (.v 36)))) (.i 9223372036854775807))
(.again 0 [.e (.o2 .cat (.o2 .cat (.o2 .cat (.o2 .cat (.o2 .cat (.o2 .cat (.o2 .cat (.o2 .cat (.o2 .cat (.o2 .cat (.o2 .cat (.o2 .cat (.o2 .cat (.o2 .cat (.o2 .cat (.v 20) (.s [32])) (.v 26)) (.s [32])) (.v 31)) (.s [32])) (.v 32)) (.s [32])) (.v 33)) (.s [32])) (.v 34)) (.s [32])) (.v 35)) (.s [32])) (.v 36)) (.s []))])))))))))))))))))))))))
(.op (.convert 9 22 (.tmp 40)) 22 [(40, .w (.a (.str (.v 5))))] [] [.a, .n, .n, .p] (.w (.a (.sl (.v 26) (.v 27) (.v 28)))) [(.a 26, .prop 29)]
(.call 18 [.a (.int .i64 (.v 1))] [] [.s] (.w (.a (.str (.v 30)))) []
(.need (.o2 .le (.o1 .ofNat (.o2 .nadd (.o1 .size (.o2 .cat (.v 20) (.s [32]))) (.o1 .size (.v 30)))) (.i 9223372036854775807))
(.need (.o2 .le (.o1 .ofNat (.o2 .nadd (.o1 .size (.o2 .cat (.o2 .cat (.v 20) (.s [32])) (.v 30))) (.o1 .size (.s [32])))) (.i 9223372036854775807))
(.call 18 [.a (.int .i64 (.v 4))] [] [.s] (.w (.a (.str (.v 31)))) []
(.need (.o2 .le (.o1 .ofNat (.o2 .nadd (.o1 .size (.o2 .cat (.o2 .cat (.o2 .cat (.v 20) (.s [32])) (.v 30)) (.s [32]))) (.o1 .size (.v 31)))) (.i 9223372036854775807))
(.need (.o2 .le (.o1 .ofNat (.o2 .nadd (.o1 .size (.o2 .cat (.o2 .cat (.o2 .cat (.o2 .cat (.v 20) (.s [32])) (.v 30)) (.s [32])) (.v 31))) (.o1 .size (.s [32])))) (.i 9223372036854775807))
(.call 19 [.a (.sl (.v 26) (.v 27) (.v 28))] [(.a 26, .prop 29)] [.s] (.w (.a (.str (.v 32)))) [(.a 26, .prop 29)]
(.need (.o2 .le (.o1 .ofNat (.o2 .nadd (.o1 .size (.o2 .cat (.o2 .cat (.o2 .cat (.o2 .cat (.o2 .cat (.v 20) (.s [32])) (.v 30)) (.s [32])) (.v 31)) (.s [32]))) (.o1 .size (.v 32)))) (.i 9223372036854775807))
(.need (.o2 .le (.o1 .ofNat (.o2 .nadd (.o1 .size (.o2 .cat (.o2 .cat (.o2 .cat (.o2 .cat (.o2 .cat (.o2 .cat (.v 20) (.s [32])) (.v 30)) (.s [32])) (.v 31)) (.s [32])) (.v 32))) (.o1 .size (.s [32])))) (.i 9223372036854775807))
(.call 19 [.a (.sl (.v 22) (.v 23) (.v 24))] [(.a 22, .prop 25)] [.s] (.w (.a (.str (.v 33)))) [(.a 22, .prop 25)]
(.need (.o2 .le (.o1 .ofNat (.o2 .nadd (.o1 .size (.o2 .cat (.o2 .cat (.o2 .cat (.o2 .cat (.o2 .cat (.o2 .cat (.o2 .cat (.v 20) (.s [32])) (.v 30)) (.s [32])) (.v 31)) (.s [32])) (.v 32)) (.s [32]))) (.o1 .size (.v 33)))) (.i 9223372036854775807))
(.need (.o2 .le (.o1 .ofNat (.o2 .nadd (.o1 .size (.o2 .cat (.o2 .cat (.o2 .cat (.o2 .cat (.o2 .cat (.o2 .cat (.o2 .cat (.o2 .cat (.v 20) (.s [32])) (.v 30)) (.s [32])) (.v 31)) (.s [32])) (.v 32)) (.s [32])) (.v 33))) (.o1 .size (.s [32])))) (.i 9223372036854775807))
(.call 18 [.a (.int .i64 (.v 7))] [] [.s] (.w (.a (.str (.v 34)))) []
(.need (.o2 .le (.o1 .ofNat (.o2 .nadd (.o1 .size (.o2 .cat (.o2 .cat (.o2 .cat (.o2 .cat (.o2 .cat (.o2 .cat (.o2 .cat (.o2 .cat (.o2 .cat (.v 20) (.s [32])) (.v 30)) (.s [32])) (.v 31)) (.s [32])) (.v 32)) (.s [32])) (.v 33)) (.s [32]))) (.o1 .size (.v 34)))) (.i 9223372036854775807))
(.need (.o2 .le (.o1 .ofNat (.o2 .nadd (.o1 .size (.o2 .cat (.o2 .cat (.o2 .cat (.o2 .cat (.o2 .cat (.o2 .cat (.o2 .cat (.o2 .cat (.o2 .cat (.o2 .cat (.v 20) (.s [32])) (.v 30)) (.s [32])) (.v 31)) (.s [32])) (.v 32)) (.s [32])) (.v 33)) (.s [32])) (.v 34))) (.o1 .size (.s [32])))) (.i 9223372036854775807))
(.call 18 [.a (.int .i64 (.v 8))] [] [.s] (.w (.a (.str (.v 35)))) []
(.need (.o2 .le (.o1 .ofNat (.o2 .nadd (.o1 .size (.o2 .cat (.o2 .cat (.o2 .cat (.o2 .cat (.o2 .cat (.o2 .cat (.o2 .cat (.o2 .cat (.o2 .cat (.o2 .cat (.o2 .cat (.v 20) (.s [32])) (.v 30)) (.s [32])) (.v 31)) (.s [32])) (.v 32)) (.s [32])) (.v 33)) (.s [32])) (.v 34)) (.s [32]))) (.o1 .size (.v 35)))) (.i 9223372036854775807))
(.need (.o2 .le (.o1 .ofNat (.o2 .nadd (.o1 .size (.o2 .cat (.o2 .cat (.o2 .cat (.o2 .cat (.o2 .cat (.o2 .cat (.o2 .cat (.o2 .cat (.o2 .cat (.o2 .cat (.o2 .cat (.o2 .cat (.v 20) (.s [32])) (.v 30)) (.s [32])) (.v 31)) (.s [32])) (.v 32)) (.s [32])) (.v 33)) (.s [32])) (.v 34)) (.s [32])) (.v 35))) (.o1 .size (.s [32])))) (.i 9223372036854775807))
(.call 19 [.a (.sl (.v 9) (.v 10) (.v 11))] [(.a 9, .prop 12)] [.s] (.w (.a (.str (.v 36)))) [(.a 9, .prop 12)]
(.need (.o2 .le (.o1 .ofNat (.o2 .nadd (.o1 .size (.o2 .cat (.o2 .cat (.o2 .cat (.o2 .cat (.o2 .cat (.o2 .cat (.o2 .cat (.o2 .cat (.o2 .cat (.o2 .cat (.o2 .cat (.o2 .cat (.o2 .cat (.v 20) (.s [32])) (.v 30)) (.s [32])) (.v 31)) (.s [32])) (.v 32)) (.s [32])) (.v 33)) (.s [32])) (.v 34)) (.s [32])) (.v 35)) (.s [32]))) (.o1 .size (.v 36)))) (.i 9223372036854775807))
(.again 0 [.e (.o2 .cat (.o2 .cat (.o2 .cat (.o2 .cat (.o2 .cat (.o2 .cat (.o2 .cat (.o2 .cat (.o2 .cat (.o2 .cat (.o2 .cat (.o2 .cat (.o2 .cat (.o2 .cat (.o2 .cat (.v 20) (.s [32])) (.v 30)) (.s [32])) (.v 31)) (.s [32])) (.v 32)) (.s [32])) (.v 33)) (.s [32])) (.v 34)) (.s [32])) (.v 35)) (.s [32])) (.v 36)) (.s []))])))))))))))))))))))))))))))
(.ret (.w (.a (.str (.v 22)))) [(.a 9, .prop 12), (.a 13, .prop 16)])))
(.br (.o2 .eq (.v 0) (.i 6))
(.br (.v 3)
(.need (.o2 .le (.o1 .ofNat (.o2 .nadd (.o1 .size (.v 20)) (.o1 .size (.s [32])))) (.i 9223372036854775807))
(.call 18 [.a (.int .i64 (.v 2))] [] [.s] (.w (.a (.str (.v 21)))) []
(.need (.o2 .le (.o1 .ofNat (.o2 .nadd (.o1 .size (.o2 .cat (.v 20) (.s [32]))) (.o1 .size (.v 21)))) (.i 9223372036854775807))
(.need (.o2 .le (.o1 .ofNat (.o2 .nadd (.o1 .size (.o2 .cat (.o2 .cat (.v 20) (.s [32])) (.v 21))) (.o1 .size (.s [32, 49])))) (.i 9223372036854775807))
(.ret (.w (.a (.str (.o2 .cat (.o2 .cat (.o2 .cat (.v 20) (.s [32])) (.v 21)) (.s [32, 49]))))) [(.a 9, .prop 12), (.a 13, .prop 16)])))))
(.need (.o2 .le (.o1 .ofNat (.o2 .nadd (.o1 .size (.v 20)) (.o1 .size (.s [32])))) (.i 9223372036854775807))
(.call 18 [.a (.int .i64 (.v 2))] [] [.s] (.w (.a (.str (.v 21)))) []
(.need (.o2 .le (.o1 .ofNat (.o2 .nadd (.o1 .size (.o2 .cat (.v 20) (.s [32]))) (.o1 .size (.v 21)))) (.i 9223372036854775807))
(.need (.o2 .le (.o1 .ofNat (.o2 .nadd (.o1 .size (.o2 .cat (.o2 .cat (.v 20) (.s [32])) (.v 21))) (.o1 .size (.s [32, 48])))) (.i 9223372036854775807))
(.ret (.w (.a (.str (.o2 .cat (.o2 .cat (.o2 .cat (.v 20) (.s [32])) (.v 21)) (.s [32, 48]))))) [(.a 9, .prop 12), (.a 13, .prop 16)]))))))
(.br (.o2 .eq (.v 0) (.i 7))
(.need (.o2 .le (.o1 .ofNat (.o2 .nadd (.o1 .size (.v 20)) (.o1 .size (.s [32])))) (.i 9223372036854775807))
(.call 18 [.a (.int .i64 (.v 2))] [] [.s] (.w (.a (.str (.v 21)))) []
(.need (.o2 .le (.o1 .ofNat (.o2 .nadd (.o1 .size (.o2 .cat (.v 20) (.s [32]))) (.o1 .size (.v 21)))) (.i 9223372036854775807))
(.ret (.w (.a (.str (.o2 .cat (.o2 .cat (.v 20) (.s [32])) (.v 21))))) [(.a 9, .prop 12), (.a 13, .prop 16)]))))
(.br (.o2 .eq (.v 0) (.i 8))
(.need (.o2 .le (.o1 .ofNat (.o2 .nadd (.o1 .size (.v 20)) (.o1 .size (.s [32])))) (.i 9223372036854775807))
(.call 18 [.a (.int .i64 (.v 1))] [] [.s] (.w (.a (.str (.v 21)))) []
(.need (.o2 .le (.o1 .ofNat (.o2 .nadd (.o1 .size (.o2 .cat (.v 20) (.s [32]))) (.o1 .size (.v 21)))) (.i 9223372036854775807))
(.need (.o2 .le (.o1 .ofNat (.o2 .nadd (.o1 .size (.o2 .cat (.o2 .cat (.v 20) (.s [32])) (.v 21))) (.o1 .size (.s [32])))) (.i 9223372036854775807))
(.call 19 [.a (.sl (.v 13) (.v 14) (.v 15))] [(.a 13, .prop 16)] [.s] (.w (.a (.str (.v 22)))) [(.a 13, .prop 16)]
(.need (.o2 .le (.o1 .ofNat (.o2 .nadd (.o1 .size (.o2 .cat (.o2 .cat (.o2 .cat (.v 20) (.s [32])) (.v 21)) (.s [32]))) (.o1 .size (.v 22)))) (.i 9223372036854775807))
(.ret (.w (.a (.str (.o2 .cat (.o2 .cat (.o2 .cat (.o2 .cat (.v 20) (.s [32])) (.v 21)) (.s [32])) (.v 22))))) [(.a 9, .prop 12), (.a 13, .prop 16)])))))))
(.need (.o2 .le (.o1 .ofNat (.o2 .nadd (.o1 .size (.v 20)) (.o1 .size (.s [32])))) (.i 9223372036854775807))
(.call 18 [.a (.int .i64 (.v 1))] [] [.s] (.w (.a (.str (.v 21)))) []
(.need (.o2 .le (.o1 .ofNat (.o2 .nadd (.o1 .size (.o2 .cat (.v 20) (.s [32]))) (.o1 .size (.v 21)))) (.i 9223372036854775807))
(.ret (.w (.a (.str (.o2 .cat (.o2 .cat (.v 20) (.s [32])) (.v 21))))) [(.a 9, .prop 12), (.a 13, .prop 16)])))))))))))))))
theorem tree_rLine : tree Tryz.prog { keep := [11, 19, 18, 9, 10, 20, 35, 5, 4, 6, 8], outl := true, opn := true, rdf := true, jn := [((27, 22), some { ss := [.s], n := 23, tv := [(27, none), (28, none), (29, none), (30, none), (31, none), (32, none), (33, none), (34, none), (35, none), (36, none), (37, none), (38, none), (39, none), (40, none), (41, none), (42, none), (43, none), (44, none), (45, none), (46, none), (47, none), (48, none), (49, none), (50, none), (51, none), (52, none), (53, none), (54, none), (55, none), (56, none), (57, none), (58, none), (59, none), (60, none), (61, none), (62, none), (63, none), (64, none), (2, some (.w (.a (.str (.v 22)))))], h := [(.a 9, .prop 12), (.b (.v 21), .cells [.int .i64 (.v 4), .str (.v 5), .str (.v 6), .int .i64 (.v 7), .int .i64 (.v 8), .sl (.v 9) (.v 10) (.v 11)] 24), (.b (.v 18), .cells [.str (.s [99, 97, 108, 108]), .str (.s [115, 110, 97, 112]), .str (.s [116, 114, 105, 109]), .str (.s [103, 105, 118, 101, 117, 112]), .str (.s [116, 105, 99, 107]), .str (.s [100, 101, 108, 105, 118, 101, 114]), .str (.s [100, 114, 111, 112]), .str (.s [99, 114, 97, 115, 104])] 9), (.b (.v 17), .cells [.int .i64 (.v 0), .int .i64 (.v 1), .int .i64 (.v 2), .bool (.v 3), .int .i64 (.v 4), .str (.v 5), .str (.v 6), .int .i64 (.v 7), .int .i64 (.v 8), .sl (.v 9) (.v 10) (.v 11), .sl (.v 13) (.v 14) (.v 15)] 26), (.a 13, .prop 16)], lk := [] })] } Tryz.f9 [.agg [.int .i64 (.v 0), .int .i64 (.v 1), .int .i64 (.v 2), .bool (.v 3), .int .i64 (.v 4), .str (.v 5), .str (.v 6), .int .i64 (.v 7), .int .i64 (.v 8), .sl (.v 9) (.v 10) (.v 11), .sl (.v 13) (.v 14) (.v 15)]] [(.a 9, .prop 12), (.a 13, .prop 16)] 17 = t_rLine := by kernel_rfl
def t_rTold : T :=
(.new
(.new
(.new
(.br (.o1 .not (.o2 .eq (.v 0) (.i 6)))
(.br (.o1 .not (.o2 .eq (.v 0) (.i 7)))
(.br (.o2 .eq (.v 0) (.i 1))
(.br (.o2 .eq (.v 0) (.i 8))
(.ret (.w (.agg [.int .i64 (.v 0), .int .i64 (.v 1), .int .i64 (.i 0), .bool (.c false), .int .i64 (.v 4), .str (.v 5), .str (.v 6), .int .i64 (.v 7), .int .i64 (.v 8), .sl (.v 9) (.v 10) (.v 11), .sl (.v 13) (.v 14) (.v 15)])) [(.a 9, .prop 12), (.a 13, .prop 16)])
(.ret (.w (.agg [.int .i64 (.v 0), .int .i64 (.v 1), .int .i64 (.i 0), .bool (.c false), .int .i64 (.v 4), .str (.v 5), .str (.v 6), .int .i64 (.v 7), .int .i64 (.v 8), .sl (.v 9) (.v 10) (.v 11), .sl .nil (.n 0) (.n 0)])) [(.a 9, .prop 12), (.a 13, .prop 16)]))
(.br (.o2 .eq (.v 0) (.i 8))
(.ret (.w (.agg [.int .i64 (.v 0), .int .i64 (.v 1), .int .i64 (.i 0), .bool (.c false), .int .i64 (.i 0), .str (.s []), .str (.s []), .int .i64 (.i 0), .int .i64 (.i 0), .sl .nil (.n 0) (.n 0), .sl (.v 13) (.v 14) (.v 15)])) [(.a 9, .prop 12), (.a 13, .prop 16)])
(.ret (.w (.agg [.int .i64 (.v 0), .int .i64 (.v 1), .int .i64 (.i 0), .bool (.c false), .int .i64 (.i 0), .str (.s []), .str (.s []), .int .i64 (.i 0), .int .i64 (.i 0), .sl .nil (.n 0) (.n 0), .sl .nil (.n 0) (.n 0)])) [(.a 9, .prop 12), (.a 13, .prop 16)])))
(.br (.o2 .eq (.v 0) (.i 1))
(.br (.o2 .eq (.v 0) (.i 8))
(.ret (.w (.agg [.int .i64 (.v 0), .int .i64 (.i 0), .int .i64 (.v 2), .bool (.c false), .int .i64 (.v 4), .str (.v 5), .str (.v 6), .int .i64 (.v 7), .int .i64 (.v 8), .sl (.v 9) (.v 10) (.v 11), .sl (.v 13) (.v 14) (.v 15)])) [(.a 9, .prop 12), (.a 13, .prop 16)])
(.ret (.w (.agg [.int .i64 (.v 0), .int .i64 (.i 0), .int .i64 (.v 2), .bool (.c false), .int .i64 (.v 4), .str (.v 5), .str (.v 6), .int .i64 (.v 7), .int .i64 (.v 8), .sl (.v 9) (.v 10) (.v 11), .sl .nil (.n 0) (.n 0)])) [(.a 9, .prop 12), (.a 13, .prop 16)]))
(.br (.o2 .eq (.v 0) (.i 8))
(.ret (.w (.agg [.int .i64 (.v 0), .int .i64 (.i 0), .int .i64 (.v 2), .bool (.c false), .int .i64 (.i 0), .str (.s []), .str (.s []), .int .i64 (.i 0), .int .i64 (.i 0), .sl .nil (.n 0) (.n 0), .sl (.v 13) (.v 14) (.v 15)])) [(.a 9, .prop 12), (.a 13, .prop 16)])
(.ret (.w (.agg [.int .i64 (.v 0), .int .i64 (.i 0), .int .i64 (.v 2), .bool (.c false), .int .i64 (.i 0), .str (.s []), .str (.s []), .int .i64 (.i 0), .int .i64 (.i 0), .sl .nil (.n 0) (.n 0), .sl .nil (.n 0) (.n 0)])) [(.a 9, .prop 12), (.a 13, .prop 16)]))))
(.br (.o2 .eq (.v 0) (.i 1))
(.br (.o2 .eq (.v 0) (.i 8))
(.ret (.w (.agg [.int .i64 (.v 0), .int .i64 (.i 0), .int .i64 (.v 2), .bool (.v 3), .int .i64 (.v 4), .str (.v 5), .str (.v 6), .int .i64 (.v 7), .int .i64 (.v 8), .sl (.v 9) (.v 10) (.v 11), .sl (.v 13) (.v 14) (.v 15)])) [(.a 9, .prop 12), (.a 13, .prop 16)])
(.ret (.w (.agg [.int .i64 (.v 0), .int .i64 (.i 0), .int .i64 (.v 2), .bool (.v 3), .int .i64 (.v 4), .str (.v 5), .str (.v 6), .int .i64 (.v 7), .int .i64 (.v 8), .sl (.v 9) (.v 10) (.v 11), .sl .nil (.n 0) (.n 0)])) [(.a 9, .prop 12), (.a 13, .prop 16)]))
(.br (.o2 .eq (.v 0) (.i 8))
(.ret (.w (.agg [.int .i64 (.v 0), .int .i64 (.i 0), .int .i64 (.v 2), .bool (.v 3), .int .i64 (.i 0), .str (.s []), .str (.s []), .int .i64 (.i 0), .int .i64 (.i 0), .sl .nil (.n 0) (.n 0), .sl (.v 13) (.v 14) (.v 15)])) [(.a 9, .prop 12), (.a 13, .prop 16)])
(.ret (.w (.agg [.int .i64 (.v 0), .int .i64 (.i 0), .int .i64 (.v 2), .bool (.v 3), .int .i64 (.i 0), .str (.s []), .str (.s []), .int .i64 (.i 0), .int .i64 (.i 0), .sl .nil (.n 0) (.n 0), .sl .nil (.n 0) (.n 0)])) [(.a 9, .prop 12), (.a 13, .prop 16)])))))))
theorem tree_rTold : tree Tryz.prog { keep := [11, 19, 18, 9, 10, 20, 35, 5, 4, 6, 8], outl := true, opn := true, rdf := true } Tryz.f12 [.agg [.int .i64 (.v 0), .int .i64 (.v 1), .int .i64 (.v 2), .bool (.v 3), .int .i64 (.v 4), .str (.v 5), .str (.v 6), .int .i64 (.v 7), .int .i64 (.v 8), .sl (.v 9) (.v 10) (.v 11), .sl (.v 13) (.v 14) (.v 15)]] [(.a 9, .prop 12), (.a 13, .prop 16)] 17 = t_rTold := by kernel_rfl
def t_rSame : T :=
(.new
(.new
(.br (.o2 .eq (.v 0) (.v 17))
(.br (.o2 .eq (.v 1) (.v 18))
(.br (.o2 .eq (.v 2) (.v 19))
(.br (.o2 .beq (.v 3) (.v 20))
(.call 20 [.agg [.int .i64 (.v 4), .str (.v 5), .str (.v 6), .int .i64 (.v 7), .int .i64 (.v 8), .sl (.v 9) (.v 10) (.v 11)], .agg [.int .i64 (.v 21), .str (.v 22), .str (.v 23), .int .i64 (.v 24), .int .i64 (.v 25), .sl (.v 26) (.v 27) (.v 28)]] [(.a 9, .prop 12), (.a 26, .prop 29)] [.c] (.w (.a (.bool (.v 36)))) [(.a 9, .prop 12), (.a 26, .prop 29)]
(.br (.v 36)
(.read (.convert 22 9 (.tmp 40)) 9 [(40, .w (.a (.sl (.v 13) (.v 14) (.v 15))))] [(.a 13, .prop 16)] [.s] (.w (.a (.str (.v 37))))
(.read (.convert 22 9 (.tmp 43)) 9 [(43, .w (.a (.sl (.v 30) (.v 31) (.v 32))))] [(.a 30, .prop 33)] [.s] (.w (.a (.str (.v 38))))
(.ret (.w (.a (.bool (.o2 .seq (.v 37) (.v 38))))) [(.a 9, .prop 12), (.a 13, .prop 16), (.a 26, .prop 29), (.a 30, .prop 33)])))
(.ret (.w (.a (.bool (.c false)))) [(.a 9, .prop 12), (.a 13, .prop 16), (.a 26, .prop 29), (.a 30, .prop 33)])))
(.ret (.w (.a (.bool (.c false)))) [(.a 9, .prop 12), (.a 13, .prop 16), (.a 26, .prop 29), (.a 30, .prop 33)]))
(.ret (.w (.a (.bool (.c false)))) [(.a 9, .prop 12), (.a 13, .prop 16), (.a 26, .prop 29), (.a 30, .prop 33)]))
(.ret (.w (.a (.bool (.c false)))) [(.a 9, .prop 12), (.a 13, .prop 16), (.a 26, .prop 29), (.a 30, .prop 33)]))
(.ret (.w (.a (.bool (.c false)))) [(.a 9, .prop 12), (.a 13, .prop 16), (.a 26, .prop 29), (.a 30, .prop 33)]))))
theorem tree_rSame : tree Tryz.prog { keep := [11, 19, 18, 9, 10, 20, 35, 5, 4, 6, 8], outl := true, opn := true, rdf := true } Tryz.f11 [.agg [.int .i64 (.v 0), .int .i64 (.v 1), .int .i64 (.v 2), .bool (.v 3), .int .i64 (.v 4), .str (.v 5), .str (.v 6), .int .i64 (.v 7), .int .i64 (.v 8), .sl (.v 9) (.v 10) (.v 11), .sl (.v 13) (.v 14) (.v 15)], .agg [.int .i64 (.v 17), .int .i64 (.v 18), .int .i64 (.v 19), .bool (.v 20), .int .i64 (.v 21), .str (.v 22), .str (.v 23), .int .i64 (.v 24), .int .i64 (.v 25), .sl (.v 26) (.v 27) (.v 28), .sl (.v 30) (.v 31) (.v 32)]] [(.a 9, .prop 12), (.a 13, .prop 16), (.a 26, .prop 29), (.a 30, .prop 33)] 34 = t_rSame := by kernel_rfl
def t_rSameCall : T :=
(.new
(.new
(.br (.o2 .eq (.v 0) (.v 9))
(.br (.o2 .seq (.v 1) (.v 10))
(.br (.o2 .seq (.v 2) (.v 11))
(.br (.o2 .eq (.v 3) (.v 12))
(.br (.o2 .eq (.v 4) (.v 13))
(.call 35 [.a (.sl (.v 5) (.v 6) (.v 7)), .a (.sl (.v 14) (.v 15) (.v 16))] [(.a 5, .prop 8), (.a 14, .prop 17)] [.c] (.w (.a (.bool (.v 20)))) [(.a 5, .prop 8), (.a 14, .prop 17)]
(.ret (.w (.a (.bool (.v 20)))) [(.a 5, .prop 8), (.a 14, .prop 17)]))
(.ret (.w (.a (.bool (.c false)))) [(.a 5, .prop 8), (.a 14, .prop 17)]))
(.ret (.w (.a (.bool (.c false)))) [(.a 5, .prop 8), (.a 14, .prop 17)]))
(.ret (.w (.a (.bool (.c false)))) [(.a 5, .prop 8), (.a 14, .prop 17)]))
(.ret (.w (.a (.bool (.c false)))) [(.a 5, .prop 8), (.a 14, .prop 17)]))
(.ret (.w (.a (.bool (.c false)))) [(.a 5, .prop 8), (.a 14, .prop 17)]))))
theorem tree_rSameCall : tree Tryz.prog { keep := [11, 19, 18, 9, 10, 20, 35, 5, 4, 6, 8], outl := true, opn := true, rdf := true } Tryz.f20 [.agg [.int .i64 (.v 0), .str (.v 1), .str (.v 2), .int .i64 (.v 3), .int .i64 (.v 4), .sl (.v 5) (.v 6) (.v 7)], .agg [.int .i64 (.v 9), .str (.v 10), .str (.v 11), .int .i64 (.v 12), .int .i64 (.v 13), .sl (.v 14) (.v 15) (.v 16)]] [(.a 5, .prop 8), (.a 14, .prop 17)] 18 = t_rSameCall := by kernel_rfl
def t_r01Same : T :=
(.br (.o1 .not (.o2 .eq (.o1 .ofNat (.v 1)) (.o1 .ofNat (.v 5))))
(.ret (.w (.a (.bool (.c false)))) [(.a 0, .prop 3), (.a 4, .prop 7)])
(.loop [.c, .i] [.e (.o1 .not (.o1 .not (.c false))), .e (.o1 .neg (.o1 .neg (.i 0)))]
(.br (.o2 .lt (.v 9) (.o1 .ofNat (.v 1)))
(.need (.o2 .le (.i 0) (.v 9))
(.need (.o1 .isSome (.v 0))
(.read (.load 5 (.tmp 19)) 5 [(19, .w (.a (.eptr 0 (.v 9) 1 0)))] [(.a 0, .prop 3)] [.i] (.w (.a (.int .u8 (.v 10))))
(.need (.o2 .lt (.v 9) (.o1 .ofNat (.v 5)))
(.need (.o1 .isSome (.v 4))
(.read (.load 5 (.tmp 23)) 5 [(23, .w (.a (.eptr 4 (.v 9) 1 0)))] [(.a 4, .prop 7)] [.i] (.w (.a (.int .u8 (.v 11))))
(.br (.o1 .not (.o2 .eq (.v 10) (.v 11)))
(.ret (.w (.a (.bool (.c false)))) [(.a 0, .prop 3), (.a 4, .prop 7)])
(.need (.o1 (.inr .i64) (.o2 .add (.v 9) (.i 1)))
(.again 0 [.e (.o1 .not (.o1 .not (.v 8))), .e (.o1 .neg (.o1 .neg (.o2 .add (.v 9) (.i 1))))])))))))))
(.ret (.w (.a (.bool (.c true)))) [(.a 0, .prop 3), (.a 4, .prop 7)]))))
theorem tree_r01Same : tree Tryz.prog { keep := [11, 19, 18, 9, 10, 20, 35, 5, 4, 6, 8], outl := true, opn := true, rdf := true } Tryz.f35 [.a (.sl (.v 0) (.v 1) (.v 2)), .a (.sl (.v 4) (.v 5) (.v 6))] [(.a 0, .prop 3), (.a 4, .prop 7)] 8 = t_r01Same := by kernel_rfl
def t_great22 : T :=
(.new
(.br (.o2 .lt (.i 500) (.o1 .ofNat (.o1 .size (.v 5))))
(.ret (.w (.a (.bool (.c true)))) [(.a 9, .prop 12), (.a 13, .prop 16)])
(.br (.o2 .lt (.i 500) (.o1 .ofNat (.o1 .size (.v 6))))
(.ret (.w (.a (.bool (.c true)))) [(.a 9, .prop 12), (.a 13, .prop 16)])
(.br (.o2 .lt (.i 1000) (.o1 .ofNat (.v 10)))
(.ret (.w (.a (.bool (.c true)))) [(.a 9, .prop 12), (.a 13, .prop 16)])
(.ret (.w (.a (.bool (.o2 .lt (.i 500) (.o1 .ofNat (.v 14)))))) [(.a 9, .prop 12), (.a 13, .prop 16)])))))
theorem tree_great22 : tree Tryz.prog { keep := [11, 19, 18, 9, 10, 20, 35, 5, 4, 6, 8], outl := true, opn := true, rdf := true } Tryz.f5 [.agg [.int .i64 (.v 0), .int .i64 (.v 1), .int .i64 (.v 2), .bool (.v 3), .int .i64 (.v 4), .str (.v 5), .str (.v 6), .int .i64 (.v 7), .int .i64 (.v 8), .sl (.v 9) (.v 10) (.v 11), .sl (.v 13) (.v 14) (.v 15)]] [(.a 9, .prop 12), (.a 13, .prop 16)] 17 = t_great22 := by kernel_rfl
def t_speaks22 : T :=
(.call 6 [.agg [.int .i64 (.i 5), .int .i64 (.i 8), .int .i64 (.i 0), .bool (.c false), .int .i64 (.i 0), .str (.s []), .str (.s []), .int .i64 (.i 0), .int .i64 (.i 0), .sl .nil (.n 0) (.n 0), .sl .nil (.n 0) (.n 0)]] [] [.s] (.w (.a (.str (.v 0)))) []
(.ret (.w (.a (.bool (.o2 .seq (.v 0) (.s [116, 105, 99, 107, 32, 56]))))) []))
theorem tree_speaks22 : tree Tryz.prog { keep := [11, 19, 18, 9, 10, 20, 35, 5, 4, 6, 8], outl := true, opn := true, rdf := true } Tryz.f4 [] [] 0 = t_speaks22 := by kernel_rfl
end Go.Proofs.YtcpjdfihpdjkbaaGreatDoor.RX



namespace Go.Proofs.YtcpjdfihpdjkbaaGreatDoor
set_option linter.unusedSimpArgs false
set_option linter.unusedVariables false
open Go.Proofs.YtcpjdfihpdjkbaaGreatDoor RX Go.RowKit
set_option maxRecDepth 100000

theorem u8in (x : Nat) (h : x < 256) : IntKind.u8.min ≤ (x : Int) ∧ (x : Int) ≤ IntKind.u8.max := ⟨by show (0 : Int) ≤ _; omega, by show _ ≤ (255 : Int); omega⟩
set_option maxHeartbeats 1000000 in
theorem rHex_ok (S : HP) (a : Option Addr) (n c : Nat) (l : List UInt8) (hr : RdL S a n (l.map u8v)) (hl : l.length = n) (hn : n ≤ 20000) : Tri Tryz.prog 19 #[.slice a n c] S (fun v => HP.and (v = sE (hexW l)) S) := by
  refine Tri.fact (φ := a = none → n = 0) (fun R h H => hr.none R _ H) fun hnil => ?_
  refine tri_of_tree (ρ := [.a a, .n n, .n c, .p S]) mixed Tryz.func19 tree_rHex ?_
  unfold t_rHex
  simp only [T.den, E.prop, E.den, RX.look, F1.app, F2.app, Uni.int_i, Uni.nat_n, Uni.bool_c, Uni.str_s, Uni.adr_a, Uni.val_v, Uni.hp_p, hden, cden, V.den, W.den, A.den, BR.den, SA.den, FV.den, capV, exs, exP, allP, Cur.app, List.map_cons, List.map_nil, List.cons_append, List.nil_append, List.drop_succ_cons, List.drop_zero, List.length_cons, List.length_nil, Nat.zero_add, Nat.reduceAdd, Int.neg_neg, Bool.not_not, List.append_nil, Nat.add_zero, List.getElem?_cons_zero, List.getElem?_cons_succ, Decidable.not_not, semW_eq, semW_load, semW_append, ne_eq, Nat.reduceEqDiff, not_false_eq_true]
  intro b
  refine ⟨fun a' n' c' i P => ∃ k : Nat, i = k ∧ k ≤ n ∧ n' = 2 * k ∧ HP.ent P (OwB a' (2 * k) c' (hexL (l.take k))), fun _ _ _ i _ => n - i.toNat, ⟨0, rfl, Nat.zero_le _, rfl, .of fun R h H => ?_⟩, ?_⟩
  · rw [List.take_zero]
    exact ⟨rfl, .inr ⟨b, _, rfl, H, Nat.le_refl _, by unfold maxLen; omega, rfl, rfl⟩⟩
  rintro a' _ c' _ P ⟨k, rfl, hk, rfl, hP⟩
  refine ⟨fun hlt => ⟨by omega, fun _ => ⟨?_, fun _ => ?_⟩⟩, fun hge => ?_⟩
  · cases a with
    | none => have := hnil rfl; omega
    | some _ => rfl
  · have hkl : k < l.length := by omega
    have h256 : l[k].toNat < 256 := l[k].toNat_lt
    have hx16 : l[k].toNat / 16 < 16 := by omega
    have e16 : ((l[k].toNat : Nat) : Int).tdiv 16 = ((l[k].toNat / 16 : Nat) : Int) := rfl
    have m16 : ((l[k].toNat : Nat) : Int).tmod 16 = ((l[k].toNat % 16 : Nat) : Int) := rfl
    refine ⟨l[k].toNat, loadB hr.rd (List.getElem?_eq_getElem hkl), ?_⟩
    rw [e16]
    refine ⟨u8in _ (by omega), fun _ => ⟨(hexD (l[k].toNat / 16)).toNat, strIxG undStr rfl (digs_get hx16) rfl rfl, l[k].toNat, loadB hr.rd (List.getElem?_eq_getElem hkl), (hexD (l[k].toNat % 16)).toNat, strIxG undStr m16 (digs_get (Nat.mod_lt _ (by decide))) rfl rfl, fun y => ?_⟩⟩
    refine (append8 a' (2 * k) c' (hexL (l.take k)) (HP.one y (.cells ((hex1 l[k]).map u8v).toArray 5 (0, 0))) (some ⟨y, 0, none⟩) 2 2 (hex1 l[k]) ⟨one_rd y _ _, fun _ _ _ h => by cases h⟩ rfl (fun _ => rfl) (by omega)).conseq (K := HP.tt) ((HP.ent.sep2 hP (.refl _)).trans (.of fun R h H => HP.sep_tt H)) fun v => .of fun R h H => ?_
    obtain ⟨a2, c2, rfl, H1⟩ := HP.sep_left H
    refine ⟨a2, 2 * k + 2, c2, _, rfl, ⟨inI64t _ (by omega) (by omega), fun _ => ⟨⟨k + 1, by omega, by omega, by omega, .of fun R h H => ?_⟩, by dsimp only; omega⟩⟩, H1⟩
    have e : hexL (l.take (k + 1)) = hexL (l.take k) ++ hex1 l[k] := by
      rw [List.take_succ_eq_append_getElem hkl]
      unfold hexL
      rw [List.flatMap_append]
      simp
    rw [e]
    exact H
  · obtain rfl : k = n := by omega
    rw [List.take_of_length_le (by omega)] at hP
    refine ⟨fun h0 => .of fun R h H => ⟨?_, H⟩, fun h0 => ?_⟩
    · have : l = [] := List.eq_nil_of_length_eq_zero (by omega)
      rw [this]; rfl
    · have hne : l ≠ [] := fun e => by subst e; simp at hl; omega
      refine ⟨hexL l, ORead.ent hP (convT (RdL.ow _ _ _ _ _ _) (by rw [hexL_len]; omega)), .of fun R h H => ⟨congrArg sE (if_neg hne).symm, H⟩⟩

theorem run_boundU {w : World} {n y : Nat} {c : BoundsCode} (h : n ≤ y) : (Instr.sliceBound (.int .u64 (n : Int)) y c).run Tryz.prog w = .ok n w := by
  have : (0 : Int) ≤ n ∧ (n : Int) ≤ y := ⟨by omega, by omega⟩
  simp [Instr.sliceBound, asIntOf, this]
theorem sliceU (s : List UInt8) (lo hi : Nat) (h1 : lo ≤ hi) (h2 : hi ≤ s.length) (Q : HP) :
    ORead Tryz.prog (sliceS 9 (sE s) (some (.int .u64 lo)) (some (.int .u64 hi)) none) Q (sE ((s.take hi).drop lo)) := fun w R h F st a => by
  have e : (⟨s.toArray⟩ : ByteArray).extract lo hi = ⟨((s.take hi).drop lo).toArray⟩ := by
    have : ((⟨s.toArray⟩ : ByteArray).extract lo hi).data = (((s.take hi).drop lo).toArray) := by
      rw [ByteArray.data_extract]
      apply Array.ext'
      simp [List.drop_take]
    cases hq : (⟨s.toArray⟩ : ByteArray).extract lo hi
    rw [hq] at this
    simp only at this
    rw [this]
  have hs : (⟨s.toArray⟩ : ByteArray).size = s.length := rfl
  unfold sliceS Instr.sliceAt Instr.slice sE
  simp [RX.run_underlying undStr, Instr.sliceBounds, hs, run_boundU, h1, h2, e]
def tenL : List UInt8 := [48, 49, 50, 51, 52, 53, 54, 55, 56, 57]
theorem dig1 : ∀ d : Fin 10, (tenL.take (d.val + 1)).drop d.val = [UInt8.ofNat (48 + d.val)] := by decide
def DigI (M k m : Nat) (s : List UInt8) : Prop := (k = 0 ∧ m = M ∧ s = []) ∨ (0 < k ∧ s.length = k ∧ ((0 < m ∧ Lib.decDigits M = Lib.decDigits m ++ s) ∨ (m = 0 ∧ Lib.decDigits M = s)))
theorem DigI.next {M k m : Nat} {s : List UInt8} (h : DigI M k m s) (hm : 0 < m ∨ k = 0) : DigI M (k + 1) (m / 10) (UInt8.ofNat (48 + m % 10) :: s) := by
  have e : Lib.decDigits M = Lib.decDigits m ++ s ∧ s.length = k := by
    rcases h with ⟨rfl, rfl, rfl⟩ | ⟨h0, hl, ⟨h1, h2⟩ | ⟨h1, h2⟩⟩
    · simp
    · exact ⟨h2, hl⟩
    · omega
  refine .inr ⟨by omega, by simp [e.2], ?_⟩
  rw [e.1]
  by_cases h10 : m < 10
  · refine .inr ⟨by omega, ?_⟩
    rw [Lib.decDigits, dif_pos h10, Nat.mod_eq_of_lt h10]; rfl
  · refine .inl ⟨by omega, ?_⟩
    rw [Lib.decDigits, dif_neg h10]; simp
theorem DigI.done {M k : Nat} {s : List UInt8} (h : DigI M k 0 s) (hk : k ≠ 0) : s = Lib.decDigits M := by
  rcases h with ⟨rfl, _⟩ | ⟨h0, hl, ⟨h1, h2⟩ | ⟨h1, h2⟩⟩
  · exact absurd rfl hk
  · omega
  · exact h2.symm
theorem DigI.low {M k m : Nat} {s : List UInt8} (h : DigI M k m s) (hM : M < 2 ^ 64) (hb : m * 10 ^ k ≤ M) : m < 2 ^ 64 := by
  have : 1 ≤ 10 ^ k := Nat.one_le_pow _ _ (by decide)
  have := Nat.le_mul_of_pos_right m this
  omega
theorem DigI.next' {M k m : Nat} {s : List UInt8} (h : m * 10 ^ k ≤ M) : m / 10 * 10 ^ (k + 1) ≤ M := by
  rw [Nat.pow_succ, Nat.mul_comm (10 ^ k), ← Nat.mul_assoc]
  exact Nat.le_trans (Nat.mul_le_mul_right _ (Nat.div_mul_le_self m 10)) h
theorem wrapU (x : Int) (h1 : 0 ≤ x) (h2 : x < 18446744073709551616) : IntKind.u64.wrap x = x := by
  show x % 18446744073709551616 = x
  exact Int.emod_eq_of_lt h1 h2
def IntI (M : Nat) (s : List UInt8) (m i : Int) : Prop := ∃ k q : Nat, i = k ∧ m = q ∧ k ≤ 20 ∧ DigI M k q s ∧ q * 10 ^ k ≤ M
theorem IntI.out {M : Nat} {s : List UInt8} {m i : Int} (h : IntI M s m i) (hM : M < 18446744073709551616) : ((¬ 0 < m ∧ ¬ i = 0) ∨ ¬ i < 20) → s = Lib.decDigits M ∧ s.length ≤ 20 := by
  obtain ⟨k, q, rfl, rfl, hk, hd, hb⟩ := h
  intro ho
  obtain rfl : q = 0 := by
    rcases ho with h | h
    · omega
    · obtain rfl : k = 20 := by omega
      have : (10 : Nat) ^ 20 = 100000000000000000000 := by decide
      omega
  refine ⟨hd.done (by omega), ?_⟩
  rcases hd with ⟨rfl, _, rfl⟩ | ⟨_, h, _⟩
  · simp
  · omega
theorem IntI.read {M : Nat} {s : List UInt8} {m i : Int} (h : IntI M s m i) (hM : M < 18446744073709551616) (hm : 0 < m ∨ i = 0) (h20 : i < 20) {K : HP} :
    ∃ x : List UInt8, (∀ {ar : List (Nat × Value)} {ty : TypeId} {o1 o2 o3 : Operand}, arW ar o1 = .string ⟨tenL.toArray⟩ → arW ar o2 = .int .u64 (m.tmod 10) → arW ar o3 = .int .u64 (IntKind.u64.wrap (m.tmod 10 + 1)) → ORead Tryz.prog (semW (.slice 9 o1 (some o2) (some o3) none) ty ar) K (.string ⟨x.toArray⟩)) ∧ ((x.length + s.length : Nat) : Int) ≤ 9223372036854775807 ∧ (IntKind.u64.min ≤ m.tdiv 10 ∧ m.tdiv 10 ≤ IntKind.u64.max) ∧ (IntKind.i64.min ≤ i + 1 ∧ i + 1 ≤ IntKind.i64.max) ∧ IntI M (x ++ s) (m.tdiv 10) (i + 1) ∧ 20 - (i + 1).toNat < 20 - i.toNat := by
  obtain ⟨k, q, rfl, rfl, hk, hd, hb⟩ := h
  have hq : q < 18446744073709551616 := hd.low (by omega) hb
  have e10 : ((q : Nat) : Int).tdiv 10 = ((q / 10 : Nat) : Int) := rfl
  have m10 : ((q : Nat) : Int).tmod 10 = ((q % 10 : Nat) : Int) := rfl
  have hl : s.length ≤ 20 := by
    rcases hd with ⟨rfl, _, rfl⟩ | ⟨_, h, _⟩
    · simp
    · omega
  have hx : (tenL.take (q % 10 + 1)).drop (q % 10) = [UInt8.ofNat (48 + q % 10)] := dig1 ⟨q % 10, Nat.mod_lt _ (by decide)⟩
  refine ⟨[UInt8.ofNat (48 + q % 10)], ?_, by simp; omega, ?_, inI64t _ (by omega) (by omega), ⟨k + 1, q / 10, by omega, e10, by omega, hd.next (by omega), DigI.next' (s := s) hb⟩, by omega⟩
  · intro ar ty o1 o2 o3 e1 e2 e3
    rw [semW_slice, e1]
    simp only [Option.map_some, Option.map_none, e2, e3, m10]
    rw [wrapU _ (by omega) (by omega)]
    have := sliceU tenL (q % 10) (q % 10 + 1) (by omega) (by show _ ≤ 10; omega) K
    rw [hx] at this
    exact this
  · rw [e10]
    exact ⟨by show (0 : Int) ≤ _; omega, by show _ ≤ (18446744073709551615 : Int); omega⟩
set_option maxHeartbeats 1000000 in
theorem rInt_ok (n : Int) (hn : in64 n) (K : HP) : Tri Tryz.prog 18 #[.int .i64 n] K (fun v => HP.and (v = sE (Lib.itoa n)) K) := by
  refine Tri.weak (A := HP.sep HP.tt K) (B := fun v => HP.sep (HP.pure (v = sE (Lib.itoa n))) K) (Tri.frame ?_ K) (fun R h H => HP.tt_sep H) fun v R h H => ⟨HP.sep_left H, HP.sep_right H⟩
  obtain ⟨hn1, hn2⟩ : -9223372036854775808 ≤ n ∧ n ≤ 9223372036854775807 := hn
  refine tri_of_tree (ρ := [.i n]) mixed Tryz.func18 tree_rInt ?_
  unfold t_rInt
  simp only [T.den, E.prop, E.den, RX.look, F1.app, F2.app, Uni.int_i, Uni.nat_n, Uni.bool_c, Uni.str_s, Uni.adr_a, Uni.val_v, Uni.hp_p, hden, cden, V.den, W.den, A.den, BR.den, SA.den, FV.den, capV, exs, exP, allP, Cur.app, List.map_cons, List.map_nil, List.cons_append, List.nil_append, List.drop_succ_cons, List.drop_zero, List.length_cons, List.length_nil, Nat.zero_add, Nat.reduceAdd, Int.neg_neg, Bool.not_not, List.append_nil, Nat.add_zero, List.getElem?_cons_zero, List.getElem?_cons_succ, Decidable.not_not, semW_eq, ne_eq, Nat.reduceEqDiff, not_false_eq_true]
  have init : ∀ m : Int, 0 ≤ m → IntI m.toNat [] m 0 := fun m h => ⟨0, m.toNat, rfl, by omega, by omega, .inl ⟨rfl, rfl, rfl⟩, by simp⟩
  refine ⟨fun hneg => ⟨inI64t _ (by omega) (by omega), fun _ => ⟨inI64t _ (by omega) (by omega), fun _ => ?_⟩⟩, fun hpos => ?_⟩
  · rw [wrapU (0 - (n + 1)) (by omega) (by omega), wrapU _ (by omega) (by omega)]
    have hM : n.natAbs < 18446744073709551616 := by omega
    refine ⟨fun s m i => IntI n.natAbs s m i, fun _ _ i => 20 - i.toNat, ?_, fun s m i hI => ⟨fun h20 => ⟨fun h0 => ?_, fun h0 => ⟨fun hi => ?_, fun hi => ?_⟩⟩, fun h20 => ?_⟩⟩
    · have := init (0 - (n + 1) + 1) (by omega)
      rwa [show (0 - (n + 1) + 1).toNat = n.natAbs by omega] at this
    · obtain ⟨x, h1, h2, h3, h4, h5, h6⟩ := hI.read hM (K := HP.tt) (.inl h0) h20
      exact ⟨x, h1 rfl rfl rfl, h2, fun _ => ⟨h3, fun _ => ⟨h4, fun _ => ⟨h5, h6⟩⟩⟩⟩
    · obtain ⟨x, h1, h2, h3, h4, h5, h6⟩ := hI.read hM (K := HP.tt) (.inr hi) h20
      exact ⟨x, h1 rfl rfl rfl, h2, fun _ => ⟨h3, fun _ => ⟨h4, fun _ => ⟨h5, h6⟩⟩⟩⟩
    · obtain ⟨rfl, hl⟩ := hI.out hM (.inl ⟨h0, hi⟩)
      refine ⟨by omega, fun _ => .of fun R h H => ?_⟩
      show _ = sE _
      unfold Lib.itoa
      rw [if_pos hneg]; rfl
    · obtain ⟨rfl, hl⟩ := hI.out hM (.inr h20)
      refine ⟨by omega, fun _ => .of fun R h H => ?_⟩
      show _ = sE _
      unfold Lib.itoa
      rw [if_pos hneg]; rfl
  · rw [wrapU _ (by omega) (by omega)]
    have hM : n.toNat < 18446744073709551616 := by omega
    refine ⟨fun s m i => IntI n.toNat s m i, fun _ _ i => 20 - i.toNat, init n (by omega), fun s m i hI => ⟨fun h20 => ⟨fun h0 => ?_, fun h0 => ⟨fun hi => ?_, fun hi => ?_⟩⟩, fun h20 => ?_⟩⟩
    · obtain ⟨x, h1, h2, h3, h4, h5, h6⟩ := hI.read hM (K := HP.tt) (.inl h0) h20
      exact ⟨x, h1 rfl rfl rfl, h2, fun _ => ⟨h3, fun _ => ⟨h4, fun _ => ⟨h5, h6⟩⟩⟩⟩
    · obtain ⟨x, h1, h2, h3, h4, h5, h6⟩ := hI.read hM (K := HP.tt) (.inr hi) h20
      exact ⟨x, h1 rfl rfl rfl, h2, fun _ => ⟨h3, fun _ => ⟨h4, fun _ => ⟨h5, h6⟩⟩⟩⟩
    · obtain ⟨rfl, hl⟩ := hI.out hM (.inl ⟨h0, hi⟩)
      refine .of fun R h H => ?_
      show _ = sE _
      unfold Lib.itoa
      rw [if_neg hpos]; rfl
    · obtain ⟨rfl, hl⟩ := hI.out hM (.inr h20)
      refine .of fun R h H => ?_
      show _ = sE _
      unfold Lib.itoa
      rw [if_neg hpos]; rfl
end Go.Proofs.YtcpjdfihpdjkbaaGreatDoor



namespace Go.Proofs.YtcpjdfihpdjkbaaGreatDoor
set_option linter.unusedSimpArgs false
set_option linter.unusedVariables false
open Go.Proofs.YtcpjdfihpdjkbaaGreatDoor RX Go.RowKit
set_option maxRecDepth 100000

def ixSl (t : TypeId) (u v : Value) : Sem Next := do pure (.value (← Instr.indexAt t u v))
theorem semW_ixSl {t ty : TypeId} {i j : Nat} {u v : Value} (h : i ≠ j) : semW (.indexAddr t (.tmp i) (.tmp j)) ty [(i, u), (j, v)] = ixSl t u v := by
  have h' : (i == j) = false := by simpa using h
  simp [semW, execOp, arW, h', ixSl]
theorem ixSl_ok {t el : TypeId} (ht : Tryz.prog.underlying t = some (.slice el)) (hi : (Tryz.prog.info? el).isSome = true) (hz : szT Tryz.prog el = 1) {b n c k : Nat} {x : Int} (hx : x = k) (hk : k < n) {A : HP} :
    ORead Tryz.prog (ixSl t (.slice (some ⟨b, 0, none⟩) n c) (.int .i64 x)) A (.pointer (some ⟨b, k, none⟩)) := fun w R h F s _ => by
  obtain ⟨i, hi⟩ := Option.isSome_iff_exists.1 hi
  subst hx
  unfold ixSl
  rw [Sem.run_bind, RX.run_indexAt_slice ht hi (by omega) (by omega), hz]
  simp [addr_add]
theorem ldOne {t : TypeId} {d : TypeDesc} (hd : Tryz.prog.underlying t = some d) (ha : aggT Tryz.prog t = false) (hz : szT Tryz.prog t = 1) {b k : Nat} {cs : Array Value} {ty : TypeId} {v : Value} (hk : cs.toList[k]? = some v) : ORead Tryz.prog (loadS t (.pointer (some ⟨b, k, none⟩))) (HP.one b (.cells cs ty (0, 0))) v := by
  have := load1_ok (t := t) hd ha hz (one_rd b cs ty) (k := k) (off := 0) (v := v) hk
  simpa [addr_add] using this
def nms : List (List UInt8) := [[99, 97, 108, 108], [115, 110, 97, 112], [116, 114, 105, 109], [103, 105, 118, 101, 117, 112], [116, 105, 99, 107], [100, 101, 108, 105, 118, 101, 114], [100, 114, 111, 112], [99, 114, 97, 115, 104]]
theorem nms_at {k : Int} (h1 : 1 ≤ k) (h8 : k ≤ 8) : nms[(k - 1).toNat]? = some (formS k).1 ∧ (formS k).1 ≠ [] := by
  have : k = 1 ∨ k = 2 ∨ k = 3 ∨ k = 4 ∨ k = 5 ∨ k = 6 ∨ k = 7 ∨ k = 8 := by omega
  rcases this with rfl | rfl | rfl | rfl | rfl | rfl | rfl | rfl <;> exact ⟨rfl, by decide⟩
theorem formS_out {k : Int} (h : k < 1 ∨ 8 < k) : formS k = ([], []) := by
  unfold formS
  rw [if_neg (by omega), if_neg (by omega), if_neg (by omega), if_neg (by omega), if_neg (by omega), if_neg (by omega), if_neg (by omega), if_neg (by omega)]
theorem line1 {e : EvS} (h : e.kind = 1) : lineS e = (formS e.kind).1 ++ [32] ++ Lib.itoa e.who ++ [32] ++ Lib.itoa e.ck ++ [32] ++ hexW e.path ++ [32] ++ hexW e.other ++ [32] ++ Lib.itoa e.off ++ [32] ++ Lib.itoa e.n ++ [32] ++ hexW e.data := by
  unfold lineS
  rw [h, if_neg (by decide)]
  show Lib.join ((formS 1).1 :: (Fld.who :: callF).map (Fld.put e)) [32] = _
  simp [Lib.join_cons, Lib.joinTail, callF, Fld.put]
theorem line6 {e : EvS} (h : e.kind = 6) : lineS e = (formS e.kind).1 ++ [32] ++ Lib.itoa e.at_ ++ 32 :: boolW e.stays := by
  unfold lineS
  rw [h, if_neg (by decide)]
  show Lib.join ((formS 6).1 :: [Fld.at_, .stays].map (Fld.put e)) [32] = _
  simp [Lib.join_cons, Lib.joinTail, Fld.put]
theorem line7 {e : EvS} (h : e.kind = 7) : lineS e = (formS e.kind).1 ++ [32] ++ Lib.itoa e.at_ := by
  unfold lineS
  rw [h, if_neg (by decide)]
  show Lib.join ((formS 7).1 :: [Fld.at_].map (Fld.put e)) [32] = _
  simp [Lib.join_cons, Lib.joinTail, Fld.put]
theorem line8 {e : EvS} (h : e.kind = 8) : lineS e = (formS e.kind).1 ++ [32] ++ Lib.itoa e.who ++ [32] ++ hexW e.picks := by
  unfold lineS
  rw [h, if_neg (by decide)]
  show Lib.join ((formS 8).1 :: [Fld.who, .picks].map (Fld.put e)) [32] = _
  simp [Lib.join_cons, Lib.joinTail, Fld.put]
theorem line2 {e : EvS} (h1 : 2 ≤ e.kind) (h2 : e.kind ≤ 5) : lineS e = (formS e.kind).1 ++ [32] ++ Lib.itoa e.who := by
  have : e.kind = 2 ∨ e.kind = 3 ∨ e.kind = 4 ∨ e.kind = 5 := by omega
  have : (formS e.kind).2 = [.who] := by rcases this with h | h | h | h <;> rw [h] <;> rfl
  unfold lineS
  rw [if_neg (nms_at (by omega) (by omega)).2, this]
  simp [Lib.join_cons, Lib.joinTail, Fld.put]
theorem line0 {e : EvS} (h : e.kind < 1 ∨ 8 < e.kind) : lineS e = [63] := by
  unfold lineS
  rw [formS_out h]; rfl
theorem undSt8 : Tryz.prog.underlying 30 = some (.slice 9) := by kernel_rfl
theorem itoa21 {x : Int} (h : in64 x) : (Lib.itoa x).length ≤ 21 := Lib.itoa_length_le x h.1 h.2
theorem hex20 {l : List UInt8} (h : l.length ≤ 20000) : (hexW l).length ≤ 40001 := by have := hexW_len l; omega
set_option maxHeartbeats 4000000 in
theorem rLine_ok (e : EvS) (r : EvA) (he : EvOk e) :
    Tri Tryz.prog 9 #[.agg (evL e r).toArray] (EvB e r) (fun v => HP.and (v = sE (lineS e)) (EvB e r)) := by
  refine tri_of_tree (ρ := [.i e.kind, .i e.who, .i e.at_, .c e.stays, .i e.ck, .s e.path, .s e.other, .i e.off, .i e.n, .a r.da, .n e.data.length, .n r.dc, .p (RoB r.da e.data.length e.data), .a r.pa, .n e.picks.length, .n r.pc, .p (RoB r.pa e.picks.length e.picks)]) mixed Tryz.func9 tree_rLine ?_
  unfold t_rLine
  simp (maxSteps := 3000000) only [T.den, E.prop, E.den, RX.look, F1.app, F2.app, Uni.int_i, Uni.nat_n, Uni.bool_c, Uni.str_s, Uni.adr_a, Uni.val_v, Uni.hp_p, hden, cden, V.den, W.den, A.den, BR.den, SA.den, FV.den, capV, exs, exP, allP, Cur.app, List.map_cons, List.map_nil, List.cons_append, List.nil_append, List.drop_succ_cons, List.drop_zero, List.length_cons, List.length_nil, Nat.zero_add, Nat.reduceAdd, Int.neg_neg, Bool.not_not, List.append_nil, Nat.add_zero, List.getElem?_cons_zero, List.getElem?_cons_succ, Decidable.not_not, semW_eq, semW_load, ne_eq, Nat.reduceEqDiff, not_false_eq_true]
  intro b b2
  refine ⟨fun h1 => .of fun R h H => ⟨?_, H⟩, fun h1 => ⟨fun h8 => .of fun R h H => ⟨?_, H⟩, fun h8 => ?_⟩⟩
  · rw [line0 (.inl h1)]; rfl
  · rw [line0 (.inr h8)]; rfl
  obtain ⟨n1, n2⟩ := nms_at (k := e.kind) (by omega) (by omega)
  have w1 := itoa21 he.who
  have w2 := itoa21 he.at_
  have w3 := itoa21 he.ck
  have w4 := itoa21 he.off
  have w5 := itoa21 he.n
  have w6 := hex20 he.path
  have w7 := hex20 he.other
  have w8 := hex20 he.data
  have w9 := hex20 he.picks
  have w0 := (form_len e.kind).1
  have l1 := @line1 e
  have l6 := @line6 e
  have l7 := @line7 e
  have l8 := @line8 e
  have l2 := @line2 e
  have T_who := rInt_ok e.who he.who HP.tt
  have T_at_ := rInt_ok e.at_ he.at_ HP.tt
  have T_ck := rInt_ok e.ck he.ck HP.tt
  have T_off := rInt_ok e.off he.off HP.tt
  have T_n := rInt_ok e.n he.n HP.tt
  have H_path := fun a c => rHex_ok (RoB a e.path.length e.path) a e.path.length c e.path (RdL.ro _ _ _ _) rfl he.path
  have H_other := fun a c => rHex_ok (RoB a e.other.length e.other) a e.other.length c e.other (RdL.ro _ _ _ _) rfl he.other
  have H_data := fun a c => rHex_ok (RoB a e.data.length e.data) a e.data.length c e.data (RdL.ro _ _ _ _) rfl he.data
  have H_picks := fun a c => rHex_ok (RoB a e.picks.length e.picks) a e.picks.length c e.picks (RdL.ro _ _ _ _) rfl he.picks
  generalize (formS e.kind).1 = nm at *
  refine ⟨inI64t _ (by omega) (by omega), fun _ => ⟨.pointer (some ⟨b2, (e.kind - 1).toNat, none⟩), ?_, nm, ?_, fun hk1 y => ⟨fun s => s = lineS e, ?_, fun s hs => .of fun R h H => ⟨?_, H⟩⟩, fun hk1 => ⟨fun hk6 => ⟨fun hs => ?_, fun hs => ?_⟩, fun hk6 => ⟨fun hk7 => ?_, fun hk7 => ⟨fun hk8 => ?_, fun hk8 => ?_⟩⟩⟩⟩⟩
  · rw [semW_ixSl (by decide)]
    exact ixSl_ok undSt8 (by kernel_rfl) szStr (by omega) (by omega)
  · refine ldOne undStr aggStr szStr ?_
    have : (nms.map sE)[(e.kind - 1).toNat]? = some (sE nm) := by rw [List.getElem?_map, n1]; rfl
    exact this
  · have L := l1 hk1
    clear l1 l6 l7 l8 l2 n1 n2
    repeat' (first
      | exact L.symm
      | (refine .of fun R h H => ⟨congrArg sE L.symm, H⟩)
      | (refine And.intro (by first | omega | (simp only [List.length_append, List.length_cons, List.length_nil]; omega)) fun _ => ?_)
      | ((with_reducible refine T_who.weak (fun _ _ h => h) ?_); rintro v R h ⟨rfl, H⟩; refine ⟨Lib.itoa e.who, rfl, ?_, H⟩; clear H)
      | ((with_reducible refine T_at_.weak (fun _ _ h => h) ?_); rintro v R h ⟨rfl, H⟩; refine ⟨Lib.itoa e.at_, rfl, ?_, H⟩; clear H)
      | ((with_reducible refine T_ck.weak (fun _ _ h => h) ?_); rintro v R h ⟨rfl, H⟩; refine ⟨Lib.itoa e.ck, rfl, ?_, H⟩; clear H)
      | ((with_reducible refine T_off.weak (fun _ _ h => h) ?_); rintro v R h ⟨rfl, H⟩; refine ⟨Lib.itoa e.off, rfl, ?_, H⟩; clear H)
      | ((with_reducible refine T_n.weak (fun _ _ h => h) ?_); rintro v R h ⟨rfl, H⟩; refine ⟨Lib.itoa e.n, rfl, ?_, H⟩; clear H)
      | ((with_reducible refine (H_path _ _).weak (fun _ _ h => h) ?_); rintro v R h ⟨rfl, H⟩; refine ⟨hexW e.path, rfl, ?_, H⟩; clear H)
      | ((with_reducible refine (H_other _ _).weak (fun _ _ h => h) ?_); rintro v R h ⟨rfl, H⟩; refine ⟨hexW e.other, rfl, ?_, H⟩; clear H)
      | ((with_reducible refine (H_data _ _).weak (fun _ _ h => h) ?_); rintro v R h ⟨rfl, H⟩; refine ⟨hexW e.data, rfl, ?_, H⟩; clear H)
      | ((with_reducible refine (H_picks _ _).weak (fun _ _ h => h) ?_); rintro v R h ⟨rfl, H⟩; refine ⟨hexW e.picks, rfl, ?_, H⟩; clear H)
      | (rw [semW_cnvT]; refine (strBT_ok _ HP.tt).weak (fun _ _ h => h) ?_; rintro v R h ⟨x, c, ⟨rfl, hc⟩, H⟩; refine ⟨some ⟨x, 0, none⟩, _, c, RoB (some ⟨x, 0, none⟩) _ _, rfl, ?_, HP.sep_left H⟩; clear H hc)
      | (refine And.intro ?_ ?_))
  · rw [hs]; rfl
  · have L := l6 hk6
    rw [hs] at L
    clear l1 l6 l7 l8 l2 n1 n2
    repeat' (first
      | exact L.symm
      | (refine .of fun R h H => ⟨congrArg sE L.symm, H⟩)
      | (refine And.intro (by first | omega | (simp only [List.length_append, List.length_cons, List.length_nil]; omega)) fun _ => ?_)
      | ((with_reducible refine T_who.weak (fun _ _ h => h) ?_); rintro v R h ⟨rfl, H⟩; refine ⟨Lib.itoa e.who, rfl, ?_, H⟩; clear H)
      | ((with_reducible refine T_at_.weak (fun _ _ h => h) ?_); rintro v R h ⟨rfl, H⟩; refine ⟨Lib.itoa e.at_, rfl, ?_, H⟩; clear H)
      | ((with_reducible refine T_ck.weak (fun _ _ h => h) ?_); rintro v R h ⟨rfl, H⟩; refine ⟨Lib.itoa e.ck, rfl, ?_, H⟩; clear H)
      | ((with_reducible refine T_off.weak (fun _ _ h => h) ?_); rintro v R h ⟨rfl, H⟩; refine ⟨Lib.itoa e.off, rfl, ?_, H⟩; clear H)
      | ((with_reducible refine T_n.weak (fun _ _ h => h) ?_); rintro v R h ⟨rfl, H⟩; refine ⟨Lib.itoa e.n, rfl, ?_, H⟩; clear H)
      | ((with_reducible refine (H_path _ _).weak (fun _ _ h => h) ?_); rintro v R h ⟨rfl, H⟩; refine ⟨hexW e.path, rfl, ?_, H⟩; clear H)
      | ((with_reducible refine (H_other _ _).weak (fun _ _ h => h) ?_); rintro v R h ⟨rfl, H⟩; refine ⟨hexW e.other, rfl, ?_, H⟩; clear H)
      | ((with_reducible refine (H_data _ _).weak (fun _ _ h => h) ?_); rintro v R h ⟨rfl, H⟩; refine ⟨hexW e.data, rfl, ?_, H⟩; clear H)
      | ((with_reducible refine (H_picks _ _).weak (fun _ _ h => h) ?_); rintro v R h ⟨rfl, H⟩; refine ⟨hexW e.picks, rfl, ?_, H⟩; clear H)
      | (rw [semW_cnvT]; refine (strBT_ok _ HP.tt).weak (fun _ _ h => h) ?_; rintro v R h ⟨x, c, ⟨rfl, hc⟩, H⟩; refine ⟨some ⟨x, 0, none⟩, _, c, RoB (some ⟨x, 0, none⟩) _ _, rfl, ?_, HP.sep_left H⟩; clear H hc)
      | (refine And.intro ?_ ?_))
  · have L := l6 hk6
    rw [show e.stays = false by simpa using hs] at L
    clear l1 l6 l7 l8 l2 n1 n2
    repeat' (first
      | exact L.symm
      | (refine .of fun R h H => ⟨congrArg sE L.symm, H⟩)
      | (refine And.intro (by first | omega | (simp only [List.length_append, List.length_cons, List.length_nil]; omega)) fun _ => ?_)
      | ((with_reducible refine T_who.weak (fun _ _ h => h) ?_); rintro v R h ⟨rfl, H⟩; refine ⟨Lib.itoa e.who, rfl, ?_, H⟩; clear H)
      | ((with_reducible refine T_at_.weak (fun _ _ h => h) ?_); rintro v R h ⟨rfl, H⟩; refine ⟨Lib.itoa e.at_, rfl, ?_, H⟩; clear H)
      | ((with_reducible refine T_ck.weak (fun _ _ h => h) ?_); rintro v R h ⟨rfl, H⟩; refine ⟨Lib.itoa e.ck, rfl, ?_, H⟩; clear H)
      | ((with_reducible refine T_off.weak (fun _ _ h => h) ?_); rintro v R h ⟨rfl, H⟩; refine ⟨Lib.itoa e.off, rfl, ?_, H⟩; clear H)
      | ((with_reducible refine T_n.weak (fun _ _ h => h) ?_); rintro v R h ⟨rfl, H⟩; refine ⟨Lib.itoa e.n, rfl, ?_, H⟩; clear H)
      | ((with_reducible refine (H_path _ _).weak (fun _ _ h => h) ?_); rintro v R h ⟨rfl, H⟩; refine ⟨hexW e.path, rfl, ?_, H⟩; clear H)
      | ((with_reducible refine (H_other _ _).weak (fun _ _ h => h) ?_); rintro v R h ⟨rfl, H⟩; refine ⟨hexW e.other, rfl, ?_, H⟩; clear H)
      | ((with_reducible refine (H_data _ _).weak (fun _ _ h => h) ?_); rintro v R h ⟨rfl, H⟩; refine ⟨hexW e.data, rfl, ?_, H⟩; clear H)
      | ((with_reducible refine (H_picks _ _).weak (fun _ _ h => h) ?_); rintro v R h ⟨rfl, H⟩; refine ⟨hexW e.picks, rfl, ?_, H⟩; clear H)
      | (rw [semW_cnvT]; refine (strBT_ok _ HP.tt).weak (fun _ _ h => h) ?_; rintro v R h ⟨x, c, ⟨rfl, hc⟩, H⟩; refine ⟨some ⟨x, 0, none⟩, _, c, RoB (some ⟨x, 0, none⟩) _ _, rfl, ?_, HP.sep_left H⟩; clear H hc)
      | (refine And.intro ?_ ?_))
  · have L := l7 hk7
    clear l1 l6 l7 l8 l2 n1 n2
    repeat' (first
      | exact L.symm
      | (refine .of fun R h H => ⟨congrArg sE L.symm, H⟩)
      | (refine And.intro (by first | omega | (simp only [List.length_append, List.length_cons, List.length_nil]; omega)) fun _ => ?_)
      | ((with_reducible refine T_who.weak (fun _ _ h => h) ?_); rintro v R h ⟨rfl, H⟩; refine ⟨Lib.itoa e.who, rfl, ?_, H⟩; clear H)
      | ((with_reducible refine T_at_.weak (fun _ _ h => h) ?_); rintro v R h ⟨rfl, H⟩; refine ⟨Lib.itoa e.at_, rfl, ?_, H⟩; clear H)
      | ((with_reducible refine T_ck.weak (fun _ _ h => h) ?_); rintro v R h ⟨rfl, H⟩; refine ⟨Lib.itoa e.ck, rfl, ?_, H⟩; clear H)
      | ((with_reducible refine T_off.weak (fun _ _ h => h) ?_); rintro v R h ⟨rfl, H⟩; refine ⟨Lib.itoa e.off, rfl, ?_, H⟩; clear H)
      | ((with_reducible refine T_n.weak (fun _ _ h => h) ?_); rintro v R h ⟨rfl, H⟩; refine ⟨Lib.itoa e.n, rfl, ?_, H⟩; clear H)
      | ((with_reducible refine (H_path _ _).weak (fun _ _ h => h) ?_); rintro v R h ⟨rfl, H⟩; refine ⟨hexW e.path, rfl, ?_, H⟩; clear H)
      | ((with_reducible refine (H_other _ _).weak (fun _ _ h => h) ?_); rintro v R h ⟨rfl, H⟩; refine ⟨hexW e.other, rfl, ?_, H⟩; clear H)
      | ((with_reducible refine (H_data _ _).weak (fun _ _ h => h) ?_); rintro v R h ⟨rfl, H⟩; refine ⟨hexW e.data, rfl, ?_, H⟩; clear H)
      | ((with_reducible refine (H_picks _ _).weak (fun _ _ h => h) ?_); rintro v R h ⟨rfl, H⟩; refine ⟨hexW e.picks, rfl, ?_, H⟩; clear H)
      | (rw [semW_cnvT]; refine (strBT_ok _ HP.tt).weak (fun _ _ h => h) ?_; rintro v R h ⟨x, c, ⟨rfl, hc⟩, H⟩; refine ⟨some ⟨x, 0, none⟩, _, c, RoB (some ⟨x, 0, none⟩) _ _, rfl, ?_, HP.sep_left H⟩; clear H hc)
      | (refine And.intro ?_ ?_))
  · have L := l8 hk8
    clear l1 l6 l7 l8 l2 n1 n2
    repeat' (first
      | exact L.symm
      | (refine .of fun R h H => ⟨congrArg sE L.symm, H⟩)
      | (refine And.intro (by first | omega | (simp only [List.length_append, List.length_cons, List.length_nil]; omega)) fun _ => ?_)
      | ((with_reducible refine T_who.weak (fun _ _ h => h) ?_); rintro v R h ⟨rfl, H⟩; refine ⟨Lib.itoa e.who, rfl, ?_, H⟩; clear H)
      | ((with_reducible refine T_at_.weak (fun _ _ h => h) ?_); rintro v R h ⟨rfl, H⟩; refine ⟨Lib.itoa e.at_, rfl, ?_, H⟩; clear H)
      | ((with_reducible refine T_ck.weak (fun _ _ h => h) ?_); rintro v R h ⟨rfl, H⟩; refine ⟨Lib.itoa e.ck, rfl, ?_, H⟩; clear H)
      | ((with_reducible refine T_off.weak (fun _ _ h => h) ?_); rintro v R h ⟨rfl, H⟩; refine ⟨Lib.itoa e.off, rfl, ?_, H⟩; clear H)
      | ((with_reducible refine T_n.weak (fun _ _ h => h) ?_); rintro v R h ⟨rfl, H⟩; refine ⟨Lib.itoa e.n, rfl, ?_, H⟩; clear H)
      | ((with_reducible refine (H_path _ _).weak (fun _ _ h => h) ?_); rintro v R h ⟨rfl, H⟩; refine ⟨hexW e.path, rfl, ?_, H⟩; clear H)
      | ((with_reducible refine (H_other _ _).weak (fun _ _ h => h) ?_); rintro v R h ⟨rfl, H⟩; refine ⟨hexW e.other, rfl, ?_, H⟩; clear H)
      | ((with_reducible refine (H_data _ _).weak (fun _ _ h => h) ?_); rintro v R h ⟨rfl, H⟩; refine ⟨hexW e.data, rfl, ?_, H⟩; clear H)
      | ((with_reducible refine (H_picks _ _).weak (fun _ _ h => h) ?_); rintro v R h ⟨rfl, H⟩; refine ⟨hexW e.picks, rfl, ?_, H⟩; clear H)
      | (rw [semW_cnvT]; refine (strBT_ok _ HP.tt).weak (fun _ _ h => h) ?_; rintro v R h ⟨x, c, ⟨rfl, hc⟩, H⟩; refine ⟨some ⟨x, 0, none⟩, _, c, RoB (some ⟨x, 0, none⟩) _ _, rfl, ?_, HP.sep_left H⟩; clear H hc)
      | (refine And.intro ?_ ?_))
  · have L := l2 (by omega) (by omega)
    clear l1 l6 l7 l8 l2 n1 n2
    repeat' (first
      | exact L.symm
      | (refine .of fun R h H => ⟨congrArg sE L.symm, H⟩)
      | (refine And.intro (by first | omega | (simp only [List.length_append, List.length_cons, List.length_nil]; omega)) fun _ => ?_)
      | ((with_reducible refine T_who.weak (fun _ _ h => h) ?_); rintro v R h ⟨rfl, H⟩; refine ⟨Lib.itoa e.who, rfl, ?_, H⟩; clear H)
      | ((with_reducible refine T_at_.weak (fun _ _ h => h) ?_); rintro v R h ⟨rfl, H⟩; refine ⟨Lib.itoa e.at_, rfl, ?_, H⟩; clear H)
      | ((with_reducible refine T_ck.weak (fun _ _ h => h) ?_); rintro v R h ⟨rfl, H⟩; refine ⟨Lib.itoa e.ck, rfl, ?_, H⟩; clear H)
      | ((with_reducible refine T_off.weak (fun _ _ h => h) ?_); rintro v R h ⟨rfl, H⟩; refine ⟨Lib.itoa e.off, rfl, ?_, H⟩; clear H)
      | ((with_reducible refine T_n.weak (fun _ _ h => h) ?_); rintro v R h ⟨rfl, H⟩; refine ⟨Lib.itoa e.n, rfl, ?_, H⟩; clear H)
      | ((with_reducible refine (H_path _ _).weak (fun _ _ h => h) ?_); rintro v R h ⟨rfl, H⟩; refine ⟨hexW e.path, rfl, ?_, H⟩; clear H)
      | ((with_reducible refine (H_other _ _).weak (fun _ _ h => h) ?_); rintro v R h ⟨rfl, H⟩; refine ⟨hexW e.other, rfl, ?_, H⟩; clear H)
      | ((with_reducible refine (H_data _ _).weak (fun _ _ h => h) ?_); rintro v R h ⟨rfl, H⟩; refine ⟨hexW e.data, rfl, ?_, H⟩; clear H)
      | ((with_reducible refine (H_picks _ _).weak (fun _ _ h => h) ?_); rintro v R h ⟨rfl, H⟩; refine ⟨hexW e.picks, rfl, ?_, H⟩; clear H)
      | (rw [semW_cnvT]; refine (strBT_ok _ HP.tt).weak (fun _ _ h => h) ?_; rintro v R h ⟨x, c, ⟨rfl, hc⟩, H⟩; refine ⟨some ⟨x, 0, none⟩, _, c, RoB (some ⟨x, 0, none⟩) _ _, rfl, ?_, HP.sep_left H⟩; clear H hc)
      | (refine And.intro ?_ ?_))
end Go.Proofs.YtcpjdfihpdjkbaaGreatDoor



namespace Go.Proofs.YtcpjdfihpdjkbaaGreatDoor
set_option linter.unusedSimpArgs false
set_option linter.unusedVariables false
open Go.Proofs.YtcpjdfihpdjkbaaGreatDoor RX Go.RowKit
set_option maxRecDepth 100000

theorem EvS.ext' {a b : EvS} (h : a.kind = b.kind ∧ a.who = b.who ∧ a.at_ = b.at_ ∧ a.stays = b.stays ∧ a.ck = b.ck ∧ a.path = b.path ∧ a.other = b.other ∧ a.off = b.off ∧ a.n = b.n ∧ a.data = b.data ∧ a.picks = b.picks) : a = b := by
  obtain ⟨h1, h2, h3, h4, h5, h6, h7, h8, h9, h10, h11⟩ := h
  cases a; cases b
  simp_all
instance : DecidableEq EvS := fun a b => decidable_of_iff (a.kind = b.kind ∧ a.who = b.who ∧ a.at_ = b.at_ ∧ a.stays = b.stays ∧ a.ck = b.ck ∧ a.path = b.path ∧ a.other = b.other ∧ a.off = b.off ∧ a.n = b.n ∧ a.data = b.data ∧ a.picks = b.picks) ⟨EvS.ext', fun h => by subst h; simp⟩
theorem r01Same_ok (a : Option Addr) (c : Nat) (l : List UInt8) (a' : Option Addr) (c' : Nat) (l' : List UInt8) (hl : l.length ≤ 20000) (hl' : l'.length ≤ 20000) :
    Tri Tryz.prog 35 #[.slice a l.length c, .slice a' l'.length c'] (HP.sep (RoB a l.length l) (RoB a' l'.length l')) (fun v => HP.and (v = .bool (decide (l = l'))) (HP.sep (RoB a l.length l) (RoB a' l'.length l'))) := by
  refine Tri.fact (φ := (a = none → l.length = 0) ∧ (a' = none → l'.length = 0)) (fun R h H => ⟨(RdL.ro 1 a l.length (l.map u8v)).none R h (HP.sep_left H), (RdL.ro 1 a' l'.length (l'.map u8v)).none R h (HP.sep_right H)⟩) fun ⟨hn1, hn2⟩ => ?_
  refine tri_of_tree (ρ := [.a a, .n l.length, .n c, .p (RoB a l.length l), .a a', .n l'.length, .n c', .p (RoB a' l'.length l')]) mixed Tryz.func35 tree_r01Same ?_
  unfold t_r01Same
  simp only [T.den, E.prop, E.den, RX.look, F1.app, F2.app, Uni.int_i, Uni.nat_n, Uni.bool_c, Uni.str_s, Uni.adr_a, Uni.val_v, Uni.hp_p, hden, cden, V.den, W.den, A.den, BR.den, SA.den, FV.den, capV, exs, exP, allP, Cur.app, List.map_cons, List.map_nil, List.cons_append, List.nil_append, List.drop_succ_cons, List.drop_zero, List.length_cons, List.length_nil, Nat.zero_add, Nat.reduceAdd, Int.neg_neg, Bool.not_not, List.append_nil, Nat.add_zero, List.getElem?_cons_zero, List.getElem?_cons_succ, Decidable.not_not, semW_eq, semW_load, ne_eq, Nat.reduceEqDiff, not_false_eq_true]
  refine ⟨fun hne => .of fun R h H => ⟨?_, H⟩, fun he => ?_⟩
  · rw [decide_eq_false (fun e => hne (by rw [e]))]
  have he : l.length = l'.length := by omega
  refine ⟨fun _ i => ∃ k : Nat, i = k ∧ k ≤ l.length ∧ l.take k = l'.take k, fun _ i => l.length - i.toNat, ⟨0, rfl, Nat.zero_le _, rfl⟩, ?_⟩
  rintro _ _ ⟨k, rfl, hk, hkk⟩
  refine ⟨fun hlt => ?_, fun hge => .of fun R h H => ⟨?_, H⟩⟩
  · have h1 : k < l.length := by omega
    have h2 : k < l'.length := by omega
    refine ⟨by omega, fun _ => ⟨?_, fun _ => ⟨l[k].toNat, loadB (RdL.ro 1 a l.length (l.map u8v)).rd (List.getElem?_eq_getElem h1), by omega, fun _ => ⟨?_, fun _ => ⟨l'[k].toNat, loadB (RdL.ro 1 a' l'.length (l'.map u8v)).rd (List.getElem?_eq_getElem h2), fun hd => .of fun R h H => ⟨?_, H⟩, fun hd => ⟨inI64t _ (by omega) (by omega), fun _ => ⟨⟨k + 1, by omega, by omega, ?_⟩, by dsimp only; omega⟩⟩⟩⟩⟩⟩⟩
    · cases a with
      | none => have := hn1 rfl; omega
      | some _ => rfl
    · cases a' with
      | none => have := hn2 rfl; omega
      | some _ => rfl
    · rw [decide_eq_false]
      intro e
      subst e
      exact hd rfl
    · rw [List.take_succ_eq_append_getElem h1, List.take_succ_eq_append_getElem h2, hkk]
      have : l[k] = l'[k] := UInt8.toNat_inj.1 (by omega)
      rw [this]
  · obtain rfl : k = l.length := by omega
    rw [List.take_length, List.take_of_length_le (by omega)] at hkk
    rw [decide_eq_true hkk]
theorem rSameCall_ok (x y : EvS) (rx ry : EvA) (hx : EvOk x) (hy : EvOk y) :
    Tri Tryz.prog 20 #[.agg #[.int .i64 x.ck, sE x.path, sE x.other, .int .i64 x.off, .int .i64 x.n, .slice rx.da x.data.length rx.dc], .agg #[.int .i64 y.ck, sE y.path, sE y.other, .int .i64 y.off, .int .i64 y.n, .slice ry.da y.data.length ry.dc]]
      (HP.sep (RoB rx.da x.data.length x.data) (RoB ry.da y.data.length y.data)) (fun v => HP.and (v = .bool (decide (x.ck = y.ck ∧ x.path = y.path ∧ x.other = y.other ∧ x.off = y.off ∧ x.n = y.n ∧ x.data = y.data))) (HP.sep (RoB rx.da x.data.length x.data) (RoB ry.da y.data.length y.data))) := by
  refine tri_of_tree (ρ := [.i x.ck, .s x.path, .s x.other, .i x.off, .i x.n, .a rx.da, .n x.data.length, .n rx.dc, .p (RoB rx.da x.data.length x.data), .i y.ck, .s y.path, .s y.other, .i y.off, .i y.n, .a ry.da, .n y.data.length, .n ry.dc, .p (RoB ry.da y.data.length y.data)]) mixed Tryz.func20 tree_rSameCall ?_
  unfold t_rSameCall
  simp only [T.den, E.prop, E.den, RX.look, F1.app, F2.app, Uni.int_i, Uni.nat_n, Uni.bool_c, Uni.str_s, Uni.adr_a, Uni.val_v, Uni.hp_p, hden, cden, V.den, W.den, A.den, BR.den, SA.den, FV.den, capV, exs, exP, allP, Cur.app, List.map_cons, List.map_nil, List.cons_append, List.nil_append, List.drop_succ_cons, List.drop_zero, List.length_cons, List.length_nil, Nat.zero_add, Nat.reduceAdd, Int.neg_neg, Bool.not_not, List.append_nil, Nat.add_zero, List.getElem?_cons_zero, List.getElem?_cons_succ, Decidable.not_not, semW_eq, ne_eq, Nat.reduceEqDiff, not_false_eq_true]
  intro b b2
  have no : ∀ {K : HP}, ¬ (x.ck = y.ck ∧ x.path = y.path ∧ x.other = y.other ∧ x.off = y.off ∧ x.n = y.n ∧ x.data = y.data) → HP.ent K (HP.and (Value.bool false = .bool (decide (x.ck = y.ck ∧ x.path = y.path ∧ x.other = y.other ∧ x.off = y.off ∧ x.n = y.n ∧ x.data = y.data))) K) := fun h => .of fun R z H => ⟨by rw [decide_eq_false h], H⟩
  refine ⟨fun h1 => ⟨fun h2 => ⟨fun h3 => ⟨fun h4 => ⟨fun h5 => ?_, fun h => no fun q => h q.2.2.2.2.1⟩, fun h => no fun q => h q.2.2.2.1⟩, fun h => no fun q => h q.2.2.1⟩, fun h => no fun q => h q.2.1⟩, fun h => no fun q => h q.1⟩
  refine (r01Same_ok rx.da rx.dc x.data ry.da ry.dc y.data hx.data hy.data).weak (fun _ _ h => h) ?_
  rintro v R h ⟨rfl, H⟩
  refine ⟨decide (x.data = y.data), rfl, .of fun R h H => ⟨?_, H⟩, H⟩
  congr 1
  exact decide_eq_decide.2 ⟨fun e => ⟨h1, h2, h3, h4, h5, e⟩, fun q => q.2.2.2.2.2⟩
def EvB2 (x : EvS) (rx : EvA) (y : EvS) (ry : EvA) : HP := HP.sep (RoB rx.da x.data.length x.data) (HP.sep (RoB rx.pa x.picks.length x.picks) (HP.sep (RoB ry.da y.data.length y.data) (RoB ry.pa y.picks.length y.picks)))
theorem rSame_ok (x y : EvS) (rx ry : EvA) (hx : EvOk x) (hy : EvOk y) :
    Tri Tryz.prog 11 #[.agg (evL x rx).toArray, .agg (evL y ry).toArray] (EvB2 x rx y ry) (fun v => HP.and (v = .bool (decide (x = y))) (EvB2 x rx y ry)) := by
  refine tri_of_tree (ρ := [.i x.kind, .i x.who, .i x.at_, .c x.stays, .i x.ck, .s x.path, .s x.other, .i x.off, .i x.n, .a rx.da, .n x.data.length, .n rx.dc, .p (RoB rx.da x.data.length x.data), .a rx.pa, .n x.picks.length, .n rx.pc, .p (RoB rx.pa x.picks.length x.picks), .i y.kind, .i y.who, .i y.at_, .c y.stays, .i y.ck, .s y.path, .s y.other, .i y.off, .i y.n, .a ry.da, .n y.data.length, .n ry.dc, .p (RoB ry.da y.data.length y.data), .a ry.pa, .n y.picks.length, .n ry.pc, .p (RoB ry.pa y.picks.length y.picks)]) mixed Tryz.func11 tree_rSame ?_
  unfold t_rSame
  simp only [T.den, E.prop, E.den, RX.look, F1.app, F2.app, Uni.int_i, Uni.nat_n, Uni.bool_c, Uni.str_s, Uni.adr_a, Uni.val_v, Uni.hp_p, hden, cden, V.den, W.den, A.den, BR.den, SA.den, FV.den, capV, exs, exP, allP, Cur.app, List.map_cons, List.map_nil, List.cons_append, List.nil_append, List.drop_succ_cons, List.drop_zero, List.length_cons, List.length_nil, Nat.zero_add, Nat.reduceAdd, Int.neg_neg, Bool.not_not, List.append_nil, Nat.add_zero, List.getElem?_cons_zero, List.getElem?_cons_succ, Decidable.not_not, semW_eq, ne_eq, Nat.reduceEqDiff, not_false_eq_true]
  intro b b2
  have no : ¬ (x = y) → HP.ent (EvB2 x rx y ry) (HP.and (Value.bool false = .bool (decide (x = y))) (EvB2 x rx y ry)) := fun h => .of fun R z H => ⟨by rw [decide_eq_false h], H⟩
  refine ⟨fun h1 => ⟨fun h2 => ⟨fun h3 => ⟨fun h4 => ?_, fun h => no fun q => h (by rw [q]; simp)⟩, fun h => no fun q => h (by rw [q])⟩, fun h => no fun q => h (by rw [q])⟩, fun h => no fun q => h (by rw [q])⟩
  refine (rSameCall_ok x y rx ry hx hy).weak (fun _ _ h => h) ?_
  rintro v R h ⟨rfl, H⟩
  refine ⟨decide (x.ck = y.ck ∧ x.path = y.path ∧ x.other = y.other ∧ x.off = y.off ∧ x.n = y.n ∧ x.data = y.data), rfl, ⟨fun h5 => ?_, fun h5 => no fun q => h5 (by rw [q]; simp)⟩, H⟩
  refine ⟨x.picks, convT (RdL.ro _ _ _ _) rfl, y.picks, convT (RdL.ro _ _ _ _) rfl, .of fun R h H => ⟨?_, H⟩⟩
  congr 1
  have h5 := of_decide_eq_true h5
  refine decide_eq_decide.2 ⟨fun e => EvS.ext' ⟨h1, h2, h3, by simpa using h4, h5.1, h5.2.1, h5.2.2.1, h5.2.2.2.1, h5.2.2.2.2.1, h5.2.2.2.2.2, e⟩, fun q => by rw [q]⟩
def toldS (e : EvS) : EvS where
  kind := e.kind
  who := if ¬ e.kind = 6 ∧ ¬ e.kind = 7 then e.who else 0
  at_ := if ¬ e.kind = 6 ∧ ¬ e.kind = 7 then 0 else e.at_
  stays := if e.kind = 6 then e.stays else false
  ck := if e.kind = 1 then e.ck else 0
  path := if e.kind = 1 then e.path else []
  other := if e.kind = 1 then e.other else []
  off := if e.kind = 1 then e.off else 0
  n := if e.kind = 1 then e.n else 0
  data := if e.kind = 1 then e.data else []
  picks := if e.kind = 8 then e.picks else []
def toldA (e : EvS) (r : EvA) : EvA where
  da := if e.kind = 1 then r.da else none
  dc := if e.kind = 1 then r.dc else 0
  pa := if e.kind = 8 then r.pa else none
  pc := if e.kind = 8 then r.pc else 0
theorem EvOk.told {e : EvS} (h : EvOk e) : EvOk (toldS e) := by
  have z : in64 0 := ⟨by decide, by decide⟩
  have i : ∀ (p : Prop) [Decidable p] (x y : Int), in64 x → in64 y → in64 (if p then x else y) := fun p _ x y hx hy => by split <;> assumption
  have j : ∀ (p : Prop) [Decidable p] (x : List UInt8), x.length ≤ 20000 → (if p then x else []).length ≤ 20000 := fun p _ x hx => by
    split
    · exact hx
    · exact Nat.zero_le _
  exact ⟨i _ _ _ h.who z, i _ _ _ z h.at_, i _ _ _ h.ck z, i _ _ _ h.off z, i _ _ _ h.n z, j _ _ h.path, j _ _ h.other, j _ _ h.data, j _ _ h.picks⟩
theorem ro_if {p : Prop} [Decidable p] {a : Option Addr} {l : List UInt8} {R h : PH} (H : (RoB a l.length l).p R h) : (RoB (if p then a else none) (if p then l else []).length (if p then l else [])).p R h := by
  split
  · exact H
  · exact RoC.nil _ _ _ _
def EvT (e : EvS) (r : EvA) : HP := HP.sep (RoB (toldA e r).da (toldS e).data.length (toldS e).data) (HP.sep (RoB (toldA e r).pa (toldS e).picks.length (toldS e).picks) (EvB e r))
theorem EvB.told {e : EvS} {r : EvA} : HP.ent (EvB e r) (EvT e r) := .of fun R h H =>
  have h1 : (RoB r.da e.data.length e.data).p R h := HP.sep_left H
  have h2 : (RoB r.pa e.picks.length e.picks).p R h := HP.sep_right H
  ⟨PH.none', h, PH.none_dj _, PH.none_le _, PH.le.refl _, ro_if (R := R) (h := PH.none') h1, PH.none', h, PH.none_dj _, PH.none_le _, PH.le.refl _, ro_if (R := R) (h := PH.none') h2, H⟩
theorem rTold_ok (e : EvS) (r : EvA) :
    Tri Tryz.prog 12 #[.agg (evL e r).toArray] (EvB e r) (fun v => HP.and (v = .agg (evL (toldS e) (toldA e r)).toArray) (EvT e r)) := by
  refine tri_of_tree (ρ := [.i e.kind, .i e.who, .i e.at_, .c e.stays, .i e.ck, .s e.path, .s e.other, .i e.off, .i e.n, .a r.da, .n e.data.length, .n r.dc, .p (RoB r.da e.data.length e.data), .a r.pa, .n e.picks.length, .n r.pc, .p (RoB r.pa e.picks.length e.picks)]) mixed Tryz.func12 tree_rTold ?_
  unfold t_rTold
  simp only [T.den, E.prop, E.den, RX.look, F1.app, F2.app, Uni.int_i, Uni.nat_n, Uni.bool_c, Uni.str_s, Uni.adr_a, Uni.val_v, Uni.hp_p, hden, cden, V.den, W.den, A.den, BR.den, SA.den, FV.den, capV, exs, exP, allP, Cur.app, List.map_cons, List.map_nil, List.cons_append, List.nil_append, List.drop_succ_cons, List.drop_zero, List.length_cons, List.length_nil, Nat.zero_add, Nat.reduceAdd, Int.neg_neg, Bool.not_not, List.append_nil, Nat.add_zero, List.getElem?_cons_zero, List.getElem?_cons_succ, Decidable.not_not, semW_eq, ne_eq, Nat.reduceEqDiff, not_false_eq_true]
  intro b b2 b3
  have go : ∀ (l : List Value), evL (toldS e) (toldA e r) = l → HP.ent (EvB e r) (HP.and (Value.agg l.toArray = .agg (evL (toldS e) (toldA e r)).toArray) (EvT e r)) := fun l hl => by
    rw [hl]; exact EvB.told.trans (.of fun R h H => ⟨rfl, H⟩)
  unfold evL toldS toldA at go
  refine ⟨fun h6 => ⟨fun h7 => ⟨fun h1 => ⟨fun h8 => ?_, fun h8 => ?_⟩, fun h1 => ⟨fun h8 => ?_, fun h8 => ?_⟩⟩, fun h7 => ⟨fun h1 => ⟨fun h8 => ?_, fun h8 => ?_⟩, fun h1 => ⟨fun h8 => ?_, fun h8 => ?_⟩⟩⟩, fun h6 => ⟨fun h1 => ⟨fun h8 => ?_, fun h8 => ?_⟩, fun h1 => ⟨fun h8 => ?_, fun h8 => ?_⟩⟩⟩
  all_goals first | (exfalso; omega) | (refine go _ ?_; simp_all [sE])
end Go.Proofs.YtcpjdfihpdjkbaaGreatDoor



namespace Go.Proofs.YtcpjdfihpdjkbaaGreatDoor
open Go.Proofs.YtcpjdfihpdjkbaaGreatDoor RX Go.RowKit
set_option maxRecDepth 100000


theorem dg_nat {d : Nat} (h : d < 10) : (UInt8.ofNat (48 + d)).toNat = 48 + d := by
  rw [UInt8.toNat_ofNat']; omega
theorem parse_dec : ∀ (n u : Nat), u < n → u < 18446744073709551616 → ∀ r, Lib.parseUint10 0 (Lib.decDigits u ++ r) = Lib.parseUint10 u r
  | 0, u, h, _ => by omega
  | n + 1, u, hn, hu => fun r => by
    by_cases h : u < 10
    · rw [Lib.decDigits, dif_pos h]
      show Lib.parseUint10 0 (UInt8.ofNat (48 + u) :: r) = _
      rw [Lib.parseUint10, dg_nat h, if_pos (by omega), if_neg (by omega), if_neg (by omega), show 0 * 10 + (48 + u - 48) = u by omega]
    · rw [Lib.decDigits, dif_neg h, List.append_assoc, parse_dec n (u / 10) (by omega) (by omega)]
      show Lib.parseUint10 (u / 10) (UInt8.ofNat (48 + u % 10) :: r) = _
      rw [Lib.parseUint10, dg_nat (Nat.mod_lt _ (by decide)), if_pos (by omega), if_neg (by omega), if_neg (by omega), show u / 10 * 10 + (48 + u % 10 - 48) = u by omega]
theorem dec_digs : ∀ (n u : Nat), u < n → Lib.decDigits u ≠ [] ∧ ∀ c ∈ Lib.decDigits u, 48 ≤ c.toNat ∧ c.toNat ≤ 57
  | 0, u, h => by omega
  | n + 1, u, hn => by
    by_cases h : u < 10
    · rw [Lib.decDigits, dif_pos h]
      refine ⟨by simp, fun c hc => ?_⟩
      rw [List.mem_singleton] at hc
      subst hc
      rw [dg_nat h]; omega
    · rw [Lib.decDigits, dif_neg h]
      refine ⟨by simp, fun c hc => ?_⟩
      rcases List.mem_append.1 hc with hc | hc
      · exact (dec_digs n (u / 10) (by omega)).2 c hc
      · rw [List.mem_singleton] at hc
        subst hc
        rw [dg_nat (Nat.mod_lt _ (by decide))]; omega
theorem parse_mag {u : Nat} (h : u < 18446744073709551616) : Lib.parseMag (Lib.decDigits u) = .ok u := by
  unfold Lib.parseMag
  rw [if_neg (dec_digs (u + 1) u (by omega)).1]
  have := parse_dec (u + 1) u (by omega) h []
  rw [List.append_nil] at this
  rw [this]; rfl
theorem atoi_itoa {n : Int} (hn : in64 n) : Lib.atoiAll (Lib.itoa n) = .ok n := by
  obtain ⟨h1, h2⟩ : -9223372036854775808 ≤ n ∧ n ≤ 9223372036854775807 := hn
  unfold Lib.itoa
  split
  · rw [Lib.atoiAll_minus, parse_mag (by omega)]
    show (if 9223372036854775808 < n.natAbs then _ else _) = _
    rw [if_neg (by omega)]
    congr 1
    omega
  · obtain ⟨d1, d2⟩ := dec_digs (n.toNat + 1) n.toNat (by omega)
    have hp := parse_mag (u := n.toNat) (by omega)
    cases hd : Lib.decDigits n.toNat with
    | nil => exact absurd hd d1
    | cons c r =>
      rw [hd] at hp d2
      have := d2 c (by simp)
      rw [Lib.atoiAll_plain c r (by omega) (by omega), hp]
      show (if 9223372036854775808 ≤ n.toNat then _ else _) = _
      rw [if_neg (by omega)]
      congr 1
      omega
theorem numT_itoa {n : Int} (hn : in64 n) : numT (Lib.itoa n) = some n := by
  unfold numT atoiB atoiV
  rw [atoi_itoa hn]; rfl
theorem itoa_sp {n : Int} : (32 : UInt8) ∉ Lib.itoa n := by
  intro h
  unfold Lib.itoa at h
  split at h
  · rcases List.mem_cons.1 h with h | h
    · exact absurd h (by decide)
    · exact absurd ((dec_digs _ _ (Nat.lt_succ_self _)).2 _ h).1 (by decide)
  · exact absurd ((dec_digs _ _ (Nat.lt_succ_self _)).2 _ h).1 (by decide)

theorem hexD_I : ∀ d : Fin 16, hexI (hexD d.val) = d.val ∧ hexD d.val ≠ 32 ∧ hexD d.val ≠ 45 := by decide
theorem pairs_hex : ∀ l : List UInt8, pairsB (hexL l) = some l
  | [] => rfl
  | x :: r => by
    have h256 := x.toNat_lt
    obtain ⟨a1, _⟩ := hexD_I ⟨x.toNat / 16, by omega⟩
    obtain ⟨b1, _⟩ := hexD_I ⟨x.toNat % 16, by omega⟩
    have e : hexL (x :: r) = hexD (x.toNat / 16) :: hexD (x.toNat % 16) :: hexL r := rfl
    rw [e, pairsB, a1, b1, if_neg (by simp only [not_or]; omega), pairs_hex r]
    have : UInt8.ofNat ((((x.toNat / 16 : Nat) : Int)).toNat * 16 + (((x.toNat % 16 : Nat) : Int)).toNat) = x := by
      rw [Int.toNat_natCast, Int.toNat_natCast, show x.toNat / 16 * 16 + x.toNat % 16 = x.toNat by omega]
      exact UInt8.ofNat_toNat
    show some (_ :: r) = _
    rw [this]
theorem readB_hex (l : List UInt8) : readB (hexW l) = some l := by
  unfold hexW
  split
  · rename_i h; rw [h]; rfl
  · rename_i h
    have hl := hexL_len l
    have hp : 0 < l.length := List.length_pos_iff.2 h
    unfold readB
    rw [if_neg, if_neg, pairs_hex]
    · rintro (h | h)
      · rw [h] at hl; simp at hl; omega
      · omega
    · intro h
      rw [h] at hl; simp at hl; omega
theorem hexW_sp (l : List UInt8) : (32 : UInt8) ∉ hexW l := by
  unfold hexW
  split
  · decide
  · unfold hexL
    rw [List.mem_flatMap]
    rintro ⟨x, _, hx⟩
    have h256 := x.toNat_lt
    obtain ⟨_, a1, _⟩ := hexD_I ⟨x.toNat / 16, by omega⟩
    obtain ⟨_, b1, _⟩ := hexD_I ⟨x.toNat % 16, by omega⟩
    rcases List.mem_cons.1 hx with h | h
    · exact a1 h.symm
    · rw [List.mem_singleton] at h
      exact b1 h.symm
theorem boolW_sp (b : Bool) : (32 : UInt8) ∉ boolW b := by cases b <;> decide
theorem boolT_W (b : Bool) : boolT' (boolW b) = some b := by cases b <;> decide

theorem splitB_cons (c b : UInt8) (r : List UInt8) : splitB c (b :: r) = if b = c then [] :: splitB c r else match splitB c r with
    | y :: q => (b :: y) :: q
    | [] => [[b]] := rfl
theorem splitB_app (c : UInt8) (s : List UInt8) : ∀ x : List UInt8, c ∉ x → splitB c (x ++ c :: s) = x :: splitB c s
  | [], _ => by rw [List.nil_append, splitB_cons, if_pos rfl]
  | b :: r, h => by
    rw [List.cons_append, splitB_cons, if_neg (fun e => h (by rw [e]; simp)), splitB_app c s r (fun q => h (List.mem_cons_of_mem _ q))]
theorem splitB_words (c : UInt8) : ∀ (r : List (List UInt8)) (x : List UInt8), c ∉ x → (∀ y ∈ r, c ∉ y) → splitB c (Lib.join (x :: r) [c]) = x :: r
  | [], x, hx, _ => by rw [Lib.join_one, splitB_none (List.count_eq_zero.2 hx)]
  | y :: r, x, hx, h => by
    have e : Lib.join (x :: y :: r) [c] = x ++ c :: Lib.join (y :: r) [c] := by
      rw [Lib.join_cons, Lib.join_cons]
      simp [Lib.joinTail]
    rw [e, splitB_app c _ x hx, splitB_words c r y (h y (by simp)) fun z hz => h z (List.mem_cons_of_mem _ hz)]
theorem put_sp (e : EvS) (f : Fld) : (32 : UInt8) ∉ f.put e := by
  cases f <;> first | exact itoa_sp | exact hexW_sp _ | exact boolW_sp _
theorem nm_sp {k : Int} : (32 : UInt8) ∉ (formS k).1 := by
  unfold formS
  repeat' split
  all_goals decide
theorem words_line {e : EvS} (h : (formS e.kind).1 ≠ []) : splitB 32 (lineS e) = (formS e.kind).1 :: (formS e.kind).2.map (Fld.put e) := by
  unfold lineS
  rw [if_neg h]
  refine splitB_words 32 _ _ nm_sp fun y hy => ?_
  obtain ⟨f, _, rfl⟩ := List.mem_map.1 hy
  exact put_sp e f
def Fld.copy (s e : EvS) : Fld → EvS
  | .who => { e with who := s.who }
  | .at_ => { e with at_ := s.at_ }
  | .stays => { e with stays := s.stays }
  | .ck => { e with ck := s.ck }
  | .path => { e with path := s.path }
  | .other => { e with other := s.other }
  | .off => { e with off := s.off }
  | .n => { e with n := s.n }
  | .data => { e with data := s.data }
  | .picks => { e with picks := s.picks }
theorem take_put {s : EvS} (h : EvOk s) (e : EvS) (f : Fld) : f.take e (f.put s) = some (f.copy s e) := by
  cases f <;> simp [Fld.take, Fld.put, Fld.copy, numT_itoa h.who, numT_itoa h.at_, numT_itoa h.ck, numT_itoa h.off, numT_itoa h.n, readB_hex, boolT_W]
theorem takeAll_put {s : EvS} (h : EvOk s) : ∀ (fs : List Fld) (e : EvS), takeAll fs (fs.map (Fld.put s)) e = some (fs.foldl (fun e f => f.copy s e) e)
  | [], _ => rfl
  | f :: fs, e => by
    rw [List.map_cons, takeAll_cons, take_put h, Option.bind_some, takeAll_put h fs]; rfl
theorem kinds8 {k : Int} (h1 : 1 ≤ k) (h8 : k ≤ 8) : k = 1 ∨ k = 2 ∨ k = 3 ∨ k = 4 ∨ k = 5 ∨ k = 6 ∨ k = 7 ∨ k = 8 := by omega
theorem copy_told {e : EvS} (h1 : 1 ≤ e.kind) (h8 : e.kind ≤ 8) : (formS e.kind).2.foldl (fun x f => f.copy e x) (zeroE e.kind) = toldS e := by
  obtain ⟨k, who, at_, stays, ck, path, other, off, n, data, picks⟩ := e
  rcases kinds8 h1 h8 with h | h | h | h | h | h | h | h <;> (dsimp only at h; subst h; rfl)
theorem line_told (e : EvS) : lineS (toldS e) = lineS e := by
  by_cases h1 : 1 ≤ e.kind ∧ e.kind ≤ 8
  · obtain ⟨k, who, at_, stays, ck, path, other, off, n, data, picks⟩ := e
    rcases kinds8 h1.1 h1.2 with h | h | h | h | h | h | h | h <;> (dsimp only at h; subst h; rfl)
  · have hk : (toldS e).kind = e.kind := rfl
    rw [line0 (e := e) (by omega), line0 (e := toldS e) (by rw [hk]; omega)]
theorem readK_line {e : EvS} (he : EvOk e) (h1 : 1 ≤ e.kind) (h8 : e.kind ≤ 8) : readK (lineS e) ((formS e.kind).1 :: (formS e.kind).2.map (Fld.put e)) (kinds 1) = some (toldS e) := by
  have key : ∀ r : List Int, readK (lineS e) ((formS e.kind).1 :: (formS e.kind).2.map (Fld.put e)) (e.kind :: r) = some (toldS e) := fun r => by
    rw [readK_cons, if_neg (by simp), List.tail_cons, takeAll_put he, copy_told h1 h8]
    show (if lineS (toldS e) = lineS e then _ else _) = _
    rw [if_pos (line_told e)]
  have skip : ∀ (k : Int) (r : List Int), (formS k).1 ≠ (formS e.kind).1 → readK (lineS e) ((formS e.kind).1 :: (formS e.kind).2.map (Fld.put e)) (k :: r) = readK (lineS e) ((formS e.kind).1 :: (formS e.kind).2.map (Fld.put e)) r := fun k r h => by
    rw [readK_cons, if_pos (.inl h)]
  have ek : kinds 1 = [1, 2, 3, 4, 5, 6, 7, 8] := rfl
  rw [ek]
  have hne : ∀ i j : Fin 8, i.val ≠ j.val → (formS (i.val + 1)).1 ≠ (formS (j.val + 1)).1 := by decide
  rcases kinds8 h1 h8 with h | h | h | h | h | h | h | h
  all_goals
    rw [h] at key skip ⊢
    repeat (first | exact key _ | rw [skip _ _ (by decide)])
theorem read_line {e : EvS} (he : EvOk e) (h1 : 1 ≤ e.kind) (h8 : e.kind ≤ 8) : readS (lineS e) = some (toldS e) := by
  unfold readS
  rw [words_line (nms_at h1 h8).2]
  exact readK_line he h1 h8
theorem line_q {e : EvS} : lineS e = [63] ↔ (e.kind < 1 ∨ 8 < e.kind) := by
  constructor
  · intro h
    refine Classical.byContradiction fun hn => ?_
    have hw := words_line (e := e) (nms_at (by omega) (by omega)).2
    rw [h] at hw
    have h2 : [[(63 : UInt8)]] = _ := hw
    have : (formS e.kind).1 = [63] := (List.cons.inj h2).1.symm
    rcases kinds8 (k := e.kind) (by omega) (by omega) with h | h | h | h | h | h | h | h <;> (rw [h] at this; exact absurd this (by decide))
  · exact line0

instance : DecidableEq Fld := fun a b => by cases a <;> cases b <;> first | exact isTrue rfl | exact isFalse (by intro h; cases h)
end Go.Proofs.YtcpjdfihpdjkbaaGreatDoor



namespace Go.Proofs.YtcpjdfihpdjkbaaGreatDoor
set_option linter.unusedSimpArgs false
set_option linter.unusedVariables false
open Go.Proofs.YtcpjdfihpdjkbaaGreatDoor RX Go.RowKit
set_option maxRecDepth 100000

theorem lineK_ok (e : EvS) (r : EvA) (he : EvOk e) :
    Tri Tryz.prog 6 #[.agg (evL e r).toArray] (EvB e r) (fun v => HP.and (v = sE (lineS e)) (EvB e r)) := by
  refine ((line_ok e r he).frame (EvB e r)).weak (fun R h H => ?_) fun v R h H => ?_
  · exact HP.sep_mono (HP.tt_sep H) (fun y _ => EvB.pers y H) fun _ h => h
  · obtain ⟨h1, h2, d, l1, l2, ⟨e1, _⟩, H2⟩ := H
    exact ⟨e1, EvB.pers _ H2⟩
theorem speaks22_ok : Tri Tryz.prog 4 #[] HP.tt (fun v => HP.and (v = .bool true) HP.tt) := by
  refine tri_of_tree (ρ := []) mixed Tryz.func4 tree_speaks22 ?_
  unfold t_speaks22
  simp only [T.den, E.prop, E.den, RX.look, F1.app, F2.app, Uni.int_i, Uni.nat_n, Uni.bool_c, Uni.str_s, Uni.adr_a, Uni.val_v, Uni.hp_p, hden, cden, V.den, W.den, A.den, BR.den, SA.den, FV.den, capV, exs, exP, allP, Cur.app, List.map_cons, List.map_nil, List.cons_append, List.nil_append, List.drop_succ_cons, List.drop_zero, List.length_cons, List.length_nil, Nat.zero_add, Nat.reduceAdd, Int.neg_neg, Bool.not_not, List.append_nil, Nat.add_zero, List.getElem?_cons_zero, List.getElem?_cons_succ, Decidable.not_not, semW_eq, ne_eq, Nat.reduceEqDiff, not_false_eq_true]
  have z : in64 0 := ⟨by decide, by decide⟩
  refine (lineK_ok ⟨5, 8, 0, false, 0, [], [], 0, 0, [], []⟩ ⟨none, 0, none, 0⟩ ⟨⟨by decide, by decide⟩, z, z, z, z, Nat.zero_le _, Nat.zero_le _, Nat.zero_le _, Nat.zero_le _⟩).weak (fun R h H => ?_) ?_
  · exact ⟨PH.none', h, PH.none_dj _, PH.none_le _, PH.le.refl _, RoC.nil _ _ _ _, RoC.nil _ _ _ _⟩
  rintro v R h ⟨rfl, H⟩
  refine ⟨_, rfl, .of fun R h H => ⟨?_, trivial⟩, trivial⟩
  rw [line2 (by decide) (by decide)]
  have : Lib.itoa 8 = [56] := by
    show Lib.decDigits 8 = _
    rw [Lib.decDigits_one (by decide)]; rfl
  rw [this]; rfl
def greatS (e : EvS) : Prop := 500 < e.path.length ∨ 500 < e.other.length ∨ 1000 < e.data.length ∨ 500 < e.picks.length
instance (e : EvS) : Decidable (greatS e) := inferInstanceAs (Decidable (_ ∨ _))
theorem great22_ok (e : EvS) (r : EvA) :
    Tri Tryz.prog 5 #[.agg (evL e r).toArray] (EvB e r) (fun v => HP.and (v = .bool (decide (greatS e))) (EvB e r)) := by
  refine tri_of_tree (ρ := [.i e.kind, .i e.who, .i e.at_, .c e.stays, .i e.ck, .s e.path, .s e.other, .i e.off, .i e.n, .a r.da, .n e.data.length, .n r.dc, .p (RoB r.da e.data.length e.data), .a r.pa, .n e.picks.length, .n r.pc, .p (RoB r.pa e.picks.length e.picks)]) mixed Tryz.func5 tree_great22 ?_
  unfold t_great22
  simp only [T.den, E.prop, E.den, RX.look, F1.app, F2.app, Uni.int_i, Uni.nat_n, Uni.bool_c, Uni.str_s, Uni.adr_a, Uni.val_v, Uni.hp_p, hden, cden, V.den, W.den, A.den, BR.den, SA.den, FV.den, capV, exs, exP, allP, Cur.app, List.map_cons, List.map_nil, List.cons_append, List.nil_append, List.drop_succ_cons, List.drop_zero, List.length_cons, List.length_nil, Nat.zero_add, Nat.reduceAdd, Int.neg_neg, Bool.not_not, List.append_nil, Nat.add_zero, List.getElem?_cons_zero, List.getElem?_cons_succ, Decidable.not_not, semW_eq, ne_eq, Nat.reduceEqDiff, not_false_eq_true]
  intro b
  have yes : greatS e → HP.ent (EvB e r) (HP.and (Value.bool true = .bool (decide (greatS e))) (EvB e r)) := fun h => .of fun R z H => ⟨by rw [decide_eq_true h], H⟩
  refine ⟨fun h1 => yes (.inl (by omega)), fun h1 => ⟨fun h2 => yes (.inr (.inl (by omega))), fun h2 => ⟨fun h3 => yes (.inr (.inr (.inl (by omega)))), fun h3 => ?_⟩⟩⟩
  refine .of fun R h H => ⟨?_, H⟩
  congr 1
  refine decide_eq_decide.2 ⟨fun h => .inr (.inr (.inr (by omega))), fun h => ?_⟩
  unfold greatS at h
  omega
def EvN (e : EvS) : Prop := in64 e.kind ∧ in64 e.who ∧ in64 e.at_ ∧ in64 e.ck ∧ in64 e.off ∧ in64 e.n
theorem EvN.ok {e : EvS} (h : EvN e) (hg : ¬ greatS e) : EvOk e := by
  obtain ⟨h1, h2, h3, h4, h5, h6⟩ := h
  unfold greatS at hg
  exact ⟨h2, h3, h4, h5, h6, by omega, by omega, by omega, by omega⟩
theorem EvOk.zero : EvOk (zeroE 0) := zero_ok 0
theorem EvB.zero {R h : PH} : (EvB (zeroE 0) ⟨none, 0, none, 0⟩).p R h := ⟨PH.none', h, PH.none_dj _, PH.none_le _, PH.le.refl _, RoC.nil _ _ _ _, RoC.nil _ _ _ _⟩
theorem EvB2.of {x y : EvS} {rx ry : EvA} {R h h1 h2 : PH} (H1 : (EvB x rx).p R h1) (H2 : (EvB y ry).p R h2) : (EvB2 x rx y ry).p R h :=
  have a1 : (RoB rx.da x.data.length x.data).p R h1 := HP.sep_left H1
  have a2 : (RoB rx.pa x.picks.length x.picks).p R h1 := HP.sep_right H1
  have a3 : (RoB ry.da y.data.length y.data).p R h2 := HP.sep_left H2
  have a4 : (RoB ry.pa y.picks.length y.picks).p R h2 := HP.sep_right H2
  ⟨PH.none', h, PH.none_dj _, PH.none_le _, PH.le.refl _, a1, PH.none', h, PH.none_dj _, PH.none_le _, PH.le.refl _, a2, PH.none', h, PH.none_dj _, PH.none_le _, PH.le.refl _, a3, a4⟩
end Go.Proofs.YtcpjdfihpdjkbaaGreatDoor



namespace Go.Proofs.YtcpjdfihpdjkbaaGreatDoor
open Go.RowKit Go.ChangeShapes Go.WideShapes Go.Deep RX
set_option maxRecDepth 100000

abbrev StrL := List UInt8
def kStrL : Kind StrL where
  n := 1
  pos := by decide
  vals x := [.string ⟨x.toArray⟩]
  len _ := rfl
  hp x := HP.pure (x.length ≤ 9223372036854775807)
  pers _ _ _ _ h := h
theorem StrL.of_trod {H : Type} {enc : TypeId × Value → H} {w : World} {cs : List Value} {n : Nat} {x : DataW H × List MemPlace} (h : DataW.trod enc Tryz.prog w 0 (fun _ => true) true n 9 cs = some x) (_ : Small Tryz.prog 9 x.1) : ∃ m : StrL, cs = kStrL.vals m ∧ ∀ h, (kStrL.hp m).p (allOf w) h := by
  obtain ⟨s, hx, _, hw⟩ := DataW.trod_string Tryz.underlying9 h
  exact ⟨s.data.toList, by simpa [kStrL] using hx, fun _ => Nat.le_trans (Nat.le_of_eq Array.length_toList) hw⟩
end Go.Proofs.YtcpjdfihpdjkbaaGreatDoor



namespace Go.Proofs.YtcpjdfihpdjkbaaGreatDoor
open Go.RowKit Go.ChangeShapes Go.WideShapes Go.Deep RX
set_option maxRecDepth 100000
set_option linter.unusedVariables false
set_option linter.unusedSimpArgs false

structure DeedI where
  id_client : Int
  id_birth : Int
  id_number : Int
  call_kind : Int
  call_path : List UInt8
  call_other : List UInt8
  call_off : Int
  call_n : Int
  call_data : List UInt8
  call_dataa : Option Addr
  call_datac : Nat
  began : Int
  ended : Int
  answer_err : Int
  answer_kind : Int
  answer_size : Int
  answer_links : Int
  answer_data : List UInt8
  answer_dataa : Option Addr
  answer_datac : Nat
  answer_names : List StrL
  answer_namesa : Option Addr
  answer_namesc : Nat
abbrev DeedI.vals (x : DeedI) : List Value := [.int .i64 x.id_client, .int .i64 x.id_birth, .int .i64 x.id_number, .int .i64 x.call_kind, .string ⟨x.call_path.toArray⟩, .string ⟨x.call_other.toArray⟩, .int .i64 x.call_off, .int .i64 x.call_n, .slice x.call_dataa x.call_data.length x.call_datac, .int .i64 x.began, .int .i64 x.ended, .int .i64 x.answer_err, .int .i64 x.answer_kind, .int .i64 x.answer_size, .int .i64 x.answer_links, .slice x.answer_dataa x.answer_data.length x.answer_datac, .slice x.answer_namesa x.answer_names.length x.answer_namesc]
def DeedI.hp (x : DeedI) : HP := HP.both (HP.pure (okI x.id_client)) (HP.both (HP.pure (okI x.id_birth)) (HP.both (HP.pure (okI x.id_number)) (HP.both (HP.pure (okI x.call_kind)) (HP.both (HP.pure (x.call_path.length ≤ 9223372036854775807)) (HP.both (HP.pure (x.call_other.length ≤ 9223372036854775807)) (HP.both (HP.pure (okI x.call_off)) (HP.both (HP.pure (okI x.call_n)) (HP.both (HP.and (x.call_data.length ≤ 140737488355328) (RoB x.call_dataa x.call_data.length x.call_data)) (HP.both (HP.pure (okI x.began)) (HP.both (HP.pure (okI x.ended)) (HP.both (HP.pure (okI x.answer_err)) (HP.both (HP.pure (okI x.answer_kind)) (HP.both (HP.pure (okI x.answer_size)) (HP.both (HP.pure (okI x.answer_links)) (HP.both (HP.and (x.answer_data.length ≤ 140737488355328) (RoB x.answer_dataa x.answer_data.length x.answer_data)) (HP.and (x.answer_names.length ≤ 140737488355328) (Ls kStrL x.answer_namesa x.answer_names.length x.answer_names)))))))))))))))))
theorem DeedI.pers (x : DeedI) (R h h' : PH) (H : (x.hp).p R h) : (x.hp).p R h' := ⟨H.1, ⟨H.2.1, ⟨H.2.2.1, ⟨H.2.2.2.1, ⟨H.2.2.2.2.1, ⟨H.2.2.2.2.2.1, ⟨H.2.2.2.2.2.2.1, ⟨H.2.2.2.2.2.2.2.1, ⟨H.2.2.2.2.2.2.2.2.1, ⟨H.2.2.2.2.2.2.2.2.2.1, ⟨H.2.2.2.2.2.2.2.2.2.2.1, ⟨H.2.2.2.2.2.2.2.2.2.2.2.1, ⟨H.2.2.2.2.2.2.2.2.2.2.2.2.1, ⟨H.2.2.2.2.2.2.2.2.2.2.2.2.2.1, ⟨H.2.2.2.2.2.2.2.2.2.2.2.2.2.2.1, ⟨H.2.2.2.2.2.2.2.2.2.2.2.2.2.2.2.1, ⟨(H.2.2.2.2.2.2.2.2.2.2.2.2.2.2.2.2).1, Ls.pers h' (H.2.2.2.2.2.2.2.2.2.2.2.2.2.2.2.2).2⟩⟩⟩⟩⟩⟩⟩⟩⟩⟩⟩⟩⟩⟩⟩⟩⟩
instance : Inhabited DeedI := ⟨⟨0, 0, 0, 0, [], [], 0, 0, [], none, 0, 0, 0, 0, 0, 0, 0, [], none, 0, [], none, 0⟩⟩
def kDeedI : Kind DeedI := ⟨17, by decide, DeedI.vals, fun _ => rfl, DeedI.hp, DeedI.pers⟩
theorem DeedI.of_trod {H : Type} {enc : TypeId × Value → H} {w : World} {cs : List Value} {n : Nat} {x : DataW H × List MemPlace} (h : DataW.trod enc Tryz.prog w 0 (fun _ => true) true n 34 cs = some x) (hs : Small Tryz.prog 34 x.1) : ∃ m : DeedI, cs = kDeedI.vals m ∧ ∀ h, (kDeedI.hp m).p (allOf w) h := by
  obtain ⟨xs0, n0, _, hx0, hl0, hxl0, hf0⟩ := DataW.trod_struct Tryz.underlying34 h
  replace hxl0 : xs0.length = 5 := hxl0
  have hs0 : Small Tryz.prog 34 (.agg (xs0.map (·.1))) := by
    have e := hx0
    first | (subst e; exact hs) | (rw [e] at hs; exact hs) | (have e2 := congrArg Prod.fst e; rw [← e2]; exact hs) | (rw [← e]; exact hs)
  have g0_0 := hf0 0 _ rfl
  rw [List.getElem?_eq_getElem (show 0 < xs0.length by omega)] at g0_0
  have hp0_0 : Small Tryz.prog 28 xs0[0].1 := Small.part (i := 0) hs0 Tryz.underlying34 rfl (by rw [List.getElem?_map, List.getElem?_eq_getElem (show 0 < xs0.length by omega)]; rfl)
  obtain ⟨xs1, n1, _, hx1, hl1, hxl1, hf1⟩ := DataW.trod_struct Tryz.underlying28 g0_0
  replace hxl1 : xs1.length = 3 := hxl1
  have hs1 : Small Tryz.prog 28 (.agg (xs1.map (·.1))) := by
    have e := hx1
    first | (subst e; exact hp0_0) | (rw [e] at hp0_0; exact hp0_0) | (have e2 := congrArg Prod.fst e; rw [← e2]; exact hp0_0) | (rw [← e]; exact hp0_0)
  obtain ⟨c0, e0, w0⟩ := field_int Tryz.underlying3 (show 0 < xs1.length by omega) (by kernel_rfl) (hf1 0 _ rfl)
  rw [List.getElem?_take_of_lt (of_decide_eq_true (by kernel_rfl)), List.getElem?_drop] at e0
  obtain ⟨c1, e1, w1⟩ := field_int Tryz.underlying3 (show 1 < xs1.length by omega) (by kernel_rfl) (hf1 1 _ rfl)
  rw [List.getElem?_take_of_lt (of_decide_eq_true (by kernel_rfl)), List.getElem?_drop] at e1
  obtain ⟨c2, e2, w2⟩ := field_int Tryz.underlying3 (show 2 < xs1.length by omega) (by kernel_rfl) (hf1 2 _ rfl)
  rw [List.getElem?_take_of_lt (of_decide_eq_true (by kernel_rfl)), List.getElem?_drop] at e2
  have g0_1 := hf0 1 _ rfl
  rw [List.getElem?_eq_getElem (show 1 < xs0.length by omega)] at g0_1
  have hp0_1 : Small Tryz.prog 24 xs0[1].1 := Small.part (i := 1) hs0 Tryz.underlying34 rfl (by rw [List.getElem?_map, List.getElem?_eq_getElem (show 1 < xs0.length by omega)]; rfl)
  obtain ⟨xs2, n2, _, hx2, hl2, hxl2, hf2⟩ := DataW.trod_struct Tryz.underlying24 g0_1
  replace hxl2 : xs2.length = 6 := hxl2
  have hs2 : Small Tryz.prog 24 (.agg (xs2.map (·.1))) := by
    have e := hx2
    first | (subst e; exact hp0_1) | (rw [e] at hp0_1; exact hp0_1) | (have e2 := congrArg Prod.fst e; rw [← e2]; exact hp0_1) | (rw [← e]; exact hp0_1)
  obtain ⟨c3, e3, w3⟩ := field_int Tryz.underlying3 (show 0 < xs2.length by omega) (by kernel_rfl) (hf2 0 _ rfl)
  rw [List.getElem?_take_of_lt (of_decide_eq_true (by kernel_rfl)), List.getElem?_drop] at e3
  obtain ⟨c4, e4, w4⟩ := field_str Tryz.underlying9 (show 1 < xs2.length by omega) (by kernel_rfl) (hf2 1 _ rfl)
  rw [List.getElem?_take_of_lt (of_decide_eq_true (by kernel_rfl)), List.getElem?_drop] at e4
  obtain ⟨c5, e5, w5⟩ := field_str Tryz.underlying9 (show 2 < xs2.length by omega) (by kernel_rfl) (hf2 2 _ rfl)
  rw [List.getElem?_take_of_lt (of_decide_eq_true (by kernel_rfl)), List.getElem?_drop] at e5
  obtain ⟨c6, e6, w6⟩ := field_int Tryz.underlying3 (show 3 < xs2.length by omega) (by kernel_rfl) (hf2 3 _ rfl)
  rw [List.getElem?_take_of_lt (of_decide_eq_true (by kernel_rfl)), List.getElem?_drop] at e6
  obtain ⟨c7, e7, w7⟩ := field_int Tryz.underlying3 (show 4 < xs2.length by omega) (by kernel_rfl) (hf2 4 _ rfl)
  rw [List.getElem?_take_of_lt (of_decide_eq_true (by kernel_rfl)), List.getElem?_drop] at e7
  obtain ⟨a8, l8, k8, e8⟩ := field_slice Tryz.underlying22 (show 5 < xs2.length by omega) (by kernel_rfl) (hf2 5 _ rfl)
  have q8 := hf2 5 _ rfl
  rw [List.getElem?_eq_getElem (show 5 < xs2.length by omega)] at q8
  have g8 : DataW.trod enc Tryz.prog w 0 (fun _ => true) true n2 22 [.slice a8 l8 k8] = some xs2[5] := by
    rw [← take1' e8]
    exact q8
  have s8 : Small Tryz.prog 22 xs2[5].1 := Small.part (i := 5) hs2 Tryz.underlying24 rfl (by rw [List.getElem?_map, List.getElem?_eq_getElem (show 5 < xs2.length by omega)]; rfl)
  obtain ⟨b8, d8, m8, r8, y8, z8⟩ := bytes_of_trod g8 s8
  simp only [Value.slice.injEq] at r8
  obtain ⟨rfl, rfl, rfl⟩ := r8
  rw [List.getElem?_take_of_lt (of_decide_eq_true (by kernel_rfl)), List.getElem?_drop] at e8
  obtain ⟨c9, e9, w9⟩ := field_int Tryz.underlying3 (show 2 < xs0.length by omega) (by kernel_rfl) (hf0 2 _ rfl)
  obtain ⟨c10, e10, w10⟩ := field_int Tryz.underlying3 (show 3 < xs0.length by omega) (by kernel_rfl) (hf0 3 _ rfl)
  have g0_4 := hf0 4 _ rfl
  rw [List.getElem?_eq_getElem (show 4 < xs0.length by omega)] at g0_4
  have hp0_4 : Small Tryz.prog 32 xs0[4].1 := Small.part (i := 4) hs0 Tryz.underlying34 rfl (by rw [List.getElem?_map, List.getElem?_eq_getElem (show 4 < xs0.length by omega)]; rfl)
  obtain ⟨xs3, n3, _, hx3, hl3, hxl3, hf3⟩ := DataW.trod_struct Tryz.underlying32 g0_4
  replace hxl3 : xs3.length = 6 := hxl3
  have hs3 : Small Tryz.prog 32 (.agg (xs3.map (·.1))) := by
    have e := hx3
    first | (subst e; exact hp0_4) | (rw [e] at hp0_4; exact hp0_4) | (have e2 := congrArg Prod.fst e; rw [← e2]; exact hp0_4) | (rw [← e]; exact hp0_4)
  obtain ⟨c11, e11, w11⟩ := field_int Tryz.underlying29 (show 0 < xs3.length by omega) (by kernel_rfl) (hf3 0 _ rfl)
  rw [List.getElem?_take_of_lt (of_decide_eq_true (by kernel_rfl)), List.getElem?_drop] at e11
  obtain ⟨c12, e12, w12⟩ := field_int Tryz.underlying3 (show 1 < xs3.length by omega) (by kernel_rfl) (hf3 1 _ rfl)
  rw [List.getElem?_take_of_lt (of_decide_eq_true (by kernel_rfl)), List.getElem?_drop] at e12
  obtain ⟨c13, e13, w13⟩ := field_int Tryz.underlying3 (show 2 < xs3.length by omega) (by kernel_rfl) (hf3 2 _ rfl)
  rw [List.getElem?_take_of_lt (of_decide_eq_true (by kernel_rfl)), List.getElem?_drop] at e13
  obtain ⟨c14, e14, w14⟩ := field_int Tryz.underlying3 (show 3 < xs3.length by omega) (by kernel_rfl) (hf3 3 _ rfl)
  rw [List.getElem?_take_of_lt (of_decide_eq_true (by kernel_rfl)), List.getElem?_drop] at e14
  obtain ⟨a15, l15, k15, e15⟩ := field_slice Tryz.underlying22 (show 4 < xs3.length by omega) (by kernel_rfl) (hf3 4 _ rfl)
  have q15 := hf3 4 _ rfl
  rw [List.getElem?_eq_getElem (show 4 < xs3.length by omega)] at q15
  have g15 : DataW.trod enc Tryz.prog w 0 (fun _ => true) true n3 22 [.slice a15 l15 k15] = some xs3[4] := by
    rw [← take1' e15]
    exact q15
  have s15 : Small Tryz.prog 22 xs3[4].1 := Small.part (i := 4) hs3 Tryz.underlying32 rfl (by rw [List.getElem?_map, List.getElem?_eq_getElem (show 4 < xs3.length by omega)]; rfl)
  obtain ⟨b15, d15, m15, r15, y15, z15⟩ := bytes_of_trod g15 s15
  simp only [Value.slice.injEq] at r15
  obtain ⟨rfl, rfl, rfl⟩ := r15
  rw [List.getElem?_take_of_lt (of_decide_eq_true (by kernel_rfl)), List.getElem?_drop] at e15
  obtain ⟨a16, l16, k16, e16⟩ := field_slice Tryz.underlying30 (show 5 < xs3.length by omega) (by kernel_rfl) (hf3 5 _ rfl)
  have q16 := hf3 5 _ rfl
  rw [List.getElem?_eq_getElem (show 5 < xs3.length by omega)] at q16
  have g16 : DataW.trod enc Tryz.prog w 0 (fun _ => true) true n3 30 [.slice a16 l16 k16] = some xs3[5] := by
    rw [← take1' e16]
    exact q16
  have s16 : Small Tryz.prog 30 xs3[5].1 := Small.part (i := 5) hs3 Tryz.underlying32 rfl (by rw [List.getElem?_map, List.getElem?_eq_getElem (show 5 < xs3.length by omega)]; rfl)
  obtain ⟨b16, d16, m16, r16, y16, z16⟩ := slice_of_trod kStrL Tryz.underlying30 (by kernel_rfl) (of_decide_eq_true (by kernel_rfl)) StrL.of_trod g16 s16
  simp only [Value.slice.injEq] at r16
  obtain ⟨rfl, rfl, rfl⟩ := r16
  rw [List.getElem?_take_of_lt (of_decide_eq_true (by kernel_rfl)), List.getElem?_drop] at e16
  have hlen : cs.length = 17 := hl0.trans (by kernel_rfl)
  refine ⟨⟨c0, c1, c2, c3, c4, c5, c6, c7, d8, a8, k8, c9, c10, c11, c12, c13, c14, d15, a15, k15, d16, a16, k16⟩, ?_, fun hh => ⟨int_wf w0, ⟨int_wf w1, ⟨int_wf w2, ⟨int_wf w3, ⟨w4, ⟨w5, ⟨int_wf w6, ⟨int_wf w7, ⟨⟨y8, z8 hh⟩, ⟨int_wf w9, ⟨int_wf w10, ⟨int_wf w11, ⟨int_wf w12, ⟨int_wf w13, ⟨int_wf w14, ⟨⟨y15, z15 hh⟩, ⟨y16, z16 hh⟩⟩⟩⟩⟩⟩⟩⟩⟩⟩⟩⟩⟩⟩⟩⟩⟩⟩
  clear h hl0 hf0 hl1 hf1 hl2 hf2 hl3 hf3 g0_0 g0_1 q8 g8 s8 g0_4 q15 g15 s15 q16 g16 s16
  revert e0 e1 e2 e3 e4 e5 e6 e7 e8 e9 e10 e11 e12 e13 e14 e15 e16
  match cs, hlen with
  | [u0, u1, u2, u3, u4, u5, u6, u7, u8, u9, u10, u11, u12, u13, u14, u15, u16], _ =>
    intro e0
    obtain rfl : u0 = .int _ c0 := Option.some.inj e0
    intro e1
    obtain rfl : u1 = .int _ c1 := Option.some.inj e1
    intro e2
    obtain rfl : u2 = .int _ c2 := Option.some.inj e2
    intro e3
    obtain rfl : u3 = .int _ c3 := Option.some.inj e3
    intro e4
    obtain rfl : u4 = .string ⟨c4.toArray⟩ := Option.some.inj e4
    intro e5
    obtain rfl : u5 = .string ⟨c5.toArray⟩ := Option.some.inj e5
    intro e6
    obtain rfl : u6 = .int _ c6 := Option.some.inj e6
    intro e7
    obtain rfl : u7 = .int _ c7 := Option.some.inj e7
    intro e8
    obtain rfl : u8 = .slice a8 d8.length k8 := Option.some.inj e8
    intro e9
    obtain rfl : u9 = .int _ c9 := Option.some.inj e9
    intro e10
    obtain rfl : u10 = .int _ c10 := Option.some.inj e10
    intro e11
    obtain rfl : u11 = .int _ c11 := Option.some.inj e11
    intro e12
    obtain rfl : u12 = .int _ c12 := Option.some.inj e12
    intro e13
    obtain rfl : u13 = .int _ c13 := Option.some.inj e13
    intro e14
    obtain rfl : u14 = .int _ c14 := Option.some.inj e14
    intro e15
    obtain rfl : u15 = .slice a15 d15.length k15 := Option.some.inj e15
    intro e16
    obtain rfl : u16 = .slice a16 d16.length k16 := Option.some.inj e16
    rfl
end Go.Proofs.YtcpjdfihpdjkbaaGreatDoor



namespace Go.Proofs.YtcpjdfihpdjkbaaGreatDoor.RX
set_option maxRecDepth 100000
-- tideline/tidelineref22.Tell: ρ := [.i d_Id_Client, .i d_Id_Birth, .i d_Id_Number, .i d_Call_Kind, .s d_Call_Path, .s d_Call_Other, .i d_Call_Off, .i d_Call_N, .a d_Call_Dataa, .n d_Call_Datal, .n d_Call_Datac, .p d_Call_DataP, .i d_Began, .i d_Ended, .i d_Answer_Err, .i d_Answer_Kind, .i d_Answer_Size, .i d_Answer_Links, .a d_Answer_Dataa, .n d_Answer_Datal, .n d_Answer_Datac, .p d_Answer_DataP, .a d_Answer_Namesa, .n d_Answer_Namesl, .n d_Answer_Namesc, .p d_Answer_NamesP]
def t_rTell : T :=
(.new
(.call 18 [.a (.int .i64 (.v 0))] [] [.s] (.w (.a (.str (.v 27)))) []
(.need (.o2 .le (.o1 .ofNat (.o2 .nadd (.o1 .size (.v 27)) (.o1 .size (.s [46])))) (.i 9223372036854775807))
(.call 18 [.a (.int .i64 (.v 1))] [] [.s] (.w (.a (.str (.v 28)))) []
(.need (.o2 .le (.o1 .ofNat (.o2 .nadd (.o1 .size (.o2 .cat (.v 27) (.s [46]))) (.o1 .size (.v 28)))) (.i 9223372036854775807))
(.need (.o2 .le (.o1 .ofNat (.o2 .nadd (.o1 .size (.o2 .cat (.o2 .cat (.v 27) (.s [46])) (.v 28))) (.o1 .size (.s [46])))) (.i 9223372036854775807))
(.call 18 [.a (.int .i64 (.v 2))] [] [.s] (.w (.a (.str (.v 29)))) []
(.need (.o2 .le (.o1 .ofNat (.o2 .nadd (.o1 .size (.o2 .cat (.o2 .cat (.o2 .cat (.v 27) (.s [46])) (.v 28)) (.s [46]))) (.o1 .size (.v 29)))) (.i 9223372036854775807))
(.need (.o2 .le (.o1 .ofNat (.o2 .nadd (.o1 .size (.o2 .cat (.o2 .cat (.o2 .cat (.o2 .cat (.v 27) (.s [46])) (.v 28)) (.s [46])) (.v 29))) (.o1 .size (.s [32])))) (.i 9223372036854775807))
(.call 18 [.a (.int .i64 (.v 12))] [] [.s] (.w (.a (.str (.v 30)))) []
(.need (.o2 .le (.o1 .ofNat (.o2 .nadd (.o1 .size (.o2 .cat (.o2 .cat (.o2 .cat (.o2 .cat (.o2 .cat (.v 27) (.s [46])) (.v 28)) (.s [46])) (.v 29)) (.s [32]))) (.o1 .size (.v 30)))) (.i 9223372036854775807))
(.need (.o2 .le (.o1 .ofNat (.o2 .nadd (.o1 .size (.o2 .cat (.o2 .cat (.o2 .cat (.o2 .cat (.o2 .cat (.o2 .cat (.v 27) (.s [46])) (.v 28)) (.s [46])) (.v 29)) (.s [32])) (.v 30))) (.o1 .size (.s [46, 46])))) (.i 9223372036854775807))
(.br (.o2 .le (.i 0) (.v 13))
(.call 18 [.a (.int .i64 (.v 13))] [] [.s] (.w (.a (.str (.v 31)))) []
(.need (.o2 .le (.o1 .ofNat (.o2 .nadd (.o1 .size (.v 31)) (.o1 .size (.s [32, 61, 32])))) (.i 9223372036854775807))
(.call 18 [.a (.int .i64 (.v 14))] [] [.s] (.w (.a (.str (.v 32)))) []
(.need (.o2 .le (.o1 .ofNat (.o2 .nadd (.o1 .size (.o2 .cat (.v 31) (.s [32, 61, 32]))) (.o1 .size (.v 32)))) (.i 9223372036854775807))
(.need (.o2 .le (.o1 .ofNat (.o2 .nadd (.o1 .size (.o2 .cat (.o2 .cat (.o2 .cat (.o2 .cat (.o2 .cat (.o2 .cat (.o2 .cat (.v 27) (.s [46])) (.v 28)) (.s [46])) (.v 29)) (.s [32])) (.v 30)) (.s [46, 46]))) (.o1 .size (.o2 .cat (.o2 .cat (.v 31) (.s [32, 61, 32])) (.v 32))))) (.i 9223372036854775807))
(.br (.o2 .eq (.v 14) (.i 0))
(.call 19 [.a (.sl (.v 18) (.v 19) (.v 20))] [(.a 18, .prop 21)] [.s] (.w (.a (.str (.v 33)))) [(.a 18, .prop 21)]
(.need (.o2 .le (.o1 .ofNat (.o2 .nadd (.o1 .size (.s [32])) (.o1 .size (.v 33)))) (.i 9223372036854775807))
(.need (.o2 .le (.o1 .ofNat (.o2 .nadd (.o1 .size (.o2 .cat (.s [32]) (.v 33))) (.o1 .size (.s [32])))) (.i 9223372036854775807))
(.call 18 [.a (.int .i64 (.o1 .ofNat (.v 23)))] [] [.s] (.w (.a (.str (.v 34)))) []
(.need (.o2 .le (.o1 .ofNat (.o2 .nadd (.o1 .size (.o2 .cat (.o2 .cat (.s [32]) (.v 33)) (.s [32]))) (.o1 .size (.v 34)))) (.i 9223372036854775807))
(.need (.o2 .le (.o1 .ofNat (.o2 .nadd (.o1 .size (.o2 .cat (.o2 .cat (.o2 .cat (.o2 .cat (.o2 .cat (.o2 .cat (.o2 .cat (.o2 .cat (.v 27) (.s [46])) (.v 28)) (.s [46])) (.v 29)) (.s [32])) (.v 30)) (.s [46, 46])) (.o2 .cat (.o2 .cat (.v 31) (.s [32, 61, 32])) (.v 32)))) (.o1 .size (.o2 .cat (.o2 .cat (.o2 .cat (.s [32]) (.v 33)) (.s [32])) (.v 34))))) (.i 9223372036854775807))
(.ret (.w (.a (.str (.o2 .cat (.o2 .cat (.o2 .cat (.o2 .cat (.o2 .cat (.o2 .cat (.o2 .cat (.o2 .cat (.o2 .cat (.v 27) (.s [46])) (.v 28)) (.s [46])) (.v 29)) (.s [32])) (.v 30)) (.s [46, 46])) (.o2 .cat (.o2 .cat (.v 31) (.s [32, 61, 32])) (.v 32))) (.o2 .cat (.o2 .cat (.o2 .cat (.s [32]) (.v 33)) (.s [32])) (.v 34)))))) [(.a 8, .prop 11), (.a 18, .prop 21), (.a 22, .prop 25)])))))))
(.ret (.w (.a (.str (.o2 .cat (.o2 .cat (.o2 .cat (.o2 .cat (.o2 .cat (.o2 .cat (.o2 .cat (.o2 .cat (.v 27) (.s [46])) (.v 28)) (.s [46])) (.v 29)) (.s [32])) (.v 30)) (.s [46, 46])) (.o2 .cat (.o2 .cat (.v 31) (.s [32, 61, 32])) (.v 32)))))) [(.a 8, .prop 11), (.a 18, .prop 21), (.a 22, .prop 25)])))))))
(.ret (.w (.a (.str (.o2 .cat (.o2 .cat (.o2 .cat (.o2 .cat (.o2 .cat (.o2 .cat (.o2 .cat (.v 27) (.s [46])) (.v 28)) (.s [46])) (.v 29)) (.s [32])) (.v 30)) (.s [46, 46]))))) [(.a 8, .prop 11), (.a 18, .prop 21), (.a 22, .prop 25)]))))))))))))))
theorem tree_rTell : tree Tryz.prog { keep := [11, 19, 18, 9, 10, 20, 35, 5, 4, 6, 17, 14, 8], outl := true, opn := true, rdf := true } Tryz.f10 [.agg [.int .i64 (.v 0), .int .i64 (.v 1), .int .i64 (.v 2), .int .i64 (.v 3), .str (.v 4), .str (.v 5), .int .i64 (.v 6), .int .i64 (.v 7), .sl (.v 8) (.v 9) (.v 10), .int .i64 (.v 12), .int .i64 (.v 13), .int .i64 (.v 14), .int .i64 (.v 15), .int .i64 (.v 16), .int .i64 (.v 17), .sl (.v 18) (.v 19) (.v 20), .sl (.v 22) (.v 23) (.v 24)]] [(.a 8, .prop 11), (.a 18, .prop 21), (.a 22, .prop 25)] 26 = t_rTell := by kernel_rfl
def t_tTell : T :=
(.loop [.a, .n, .n, .p, .i] [.a .nil, .e (.o2 .nadd (.n 0) (.n 0)), .e (.o2 .nadd (.n 0) (.n 0)), .p [], .e (.o1 .neg (.o1 .neg (.i 0)))]
(.br (.o2 .lt (.v 8) (.o1 .ofNat (.v 1)))
(.need (.o2 .le (.i 0) (.v 8))
(.need (.o1 .isSome (.v 0))
(.read (.load 34 (.tmp 12)) 34 [(12, .w (.a (.eptr 0 (.v 8) 17 0)))] [(.a 0, .prop 3)] [.i, .i, .i, .i, .s, .s, .i, .i, .a, .n, .n, .i, .i, .i, .i, .i, .i, .a, .n, .n, .a, .n, .n] (.w (.agg [.int .i64 (.v 9), .int .i64 (.v 10), .int .i64 (.v 11), .int .i64 (.v 12), .str (.v 13), .str (.v 14), .int .i64 (.v 15), .int .i64 (.v 16), .sl (.v 17) (.v 18) (.v 19), .int .i64 (.v 20), .int .i64 (.v 21), .int .i64 (.v 22), .int .i64 (.v 23), .int .i64 (.v 24), .int .i64 (.v 25), .sl (.v 26) (.v 27) (.v 28), .sl (.v 29) (.v 30) (.v 31)]))
(.new
(.call 16 [.a (.int .i64 (.v 9))] [] [.s] (.w (.a (.str (.v 33)))) []
(.call 16 [.a (.int .i64 (.v 10))] [] [.s] (.w (.a (.str (.v 34)))) []
(.call 16 [.a (.int .i64 (.v 11))] [] [.s] (.w (.a (.str (.v 35)))) []
(.new
(.call 14 [.a (.sl (.b (.v 36) 0) (.n 3) (.n 3)), .a (.str (.s [46]))] [(.b (.v 36), .cells [.str (.v 33), .str (.v 34), .str (.v 35)] 9)] [.s] (.w (.a (.str (.v 37)))) [(.b (.v 36), .cells [.str (.v 33), .str (.v 34), .str (.v 35)] 9)]
(.need (.o2 .le (.o1 .ofNat (.o2 .nadd (.o1 .size (.v 37)) (.o1 .size (.s [32])))) (.i 9223372036854775807))
(.call 16 [.a (.int .i64 (.v 20))] [] [.s] (.w (.a (.str (.v 38)))) []
(.need (.o2 .le (.o1 .ofNat (.o2 .nadd (.o1 .size (.o2 .cat (.v 37) (.s [32]))) (.o1 .size (.v 38)))) (.i 9223372036854775807))
(.need (.o2 .le (.o1 .ofNat (.o2 .nadd (.o1 .size (.o2 .cat (.o2 .cat (.v 37) (.s [32])) (.v 38))) (.o1 .size (.s [46, 46])))) (.i 9223372036854775807))
(.br (.o2 .le (.i 0) (.v 21))
(.call 16 [.a (.int .i64 (.v 21))] [] [.s] (.w (.a (.str (.v 39)))) []
(.need (.o2 .le (.o1 .ofNat (.o2 .nadd (.o1 .size (.v 39)) (.o1 .size (.s [32, 61, 32])))) (.i 9223372036854775807))
(.call 16 [.a (.int .i64 (.v 22))] [] [.s] (.w (.a (.str (.v 40)))) []
(.need (.o2 .le (.o1 .ofNat (.o2 .nadd (.o1 .size (.o2 .cat (.v 39) (.s [32, 61, 32]))) (.o1 .size (.v 40)))) (.i 9223372036854775807))
(.need (.o2 .le (.o1 .ofNat (.o2 .nadd (.o1 .size (.o2 .cat (.o2 .cat (.o2 .cat (.v 37) (.s [32])) (.v 38)) (.s [46, 46]))) (.o1 .size (.o2 .cat (.o2 .cat (.v 39) (.s [32, 61, 32])) (.v 40))))) (.i 9223372036854775807))
(.br (.o2 .eq (.v 22) (.i 0))
(.call 17 [.a (.sl (.v 26) (.v 27) (.v 28))] [(.a 0, .prop 3)] [.s] (.w (.a (.str (.v 41)))) [(.a 0, .prop 3)]
(.need (.o2 .le (.o1 .ofNat (.o2 .nadd (.o1 .size (.s [32])) (.o1 .size (.v 41)))) (.i 9223372036854775807))
(.need (.o2 .le (.o1 .ofNat (.o2 .nadd (.o1 .size (.o2 .cat (.s [32]) (.v 41))) (.o1 .size (.s [32])))) (.i 9223372036854775807))
(.call 16 [.a (.int .i64 (.o1 .ofNat (.v 30)))] [] [.s] (.w (.a (.str (.v 42)))) []
(.need (.o2 .le (.o1 .ofNat (.o2 .nadd (.o1 .size (.o2 .cat (.o2 .cat (.s [32]) (.v 41)) (.s [32]))) (.o1 .size (.v 42)))) (.i 9223372036854775807))
(.need (.o2 .le (.o1 .ofNat (.o2 .nadd (.o1 .size (.o2 .cat (.o2 .cat (.o2 .cat (.o2 .cat (.v 37) (.s [32])) (.v 38)) (.s [46, 46])) (.o2 .cat (.o2 .cat (.v 39) (.s [32, 61, 32])) (.v 40)))) (.o1 .size (.o2 .cat (.o2 .cat (.o2 .cat (.s [32]) (.v 41)) (.s [32])) (.v 42))))) (.i 9223372036854775807))
(.new
(.op (.call ⟨.builtin .append, #[.tmp 67, .tmp 69], #[30, 30]⟩) 30 [(67, .w (.a (.sl (.v 4) (.v 5) (.v 6)))), (69, .w (.a (.sl (.b (.v 43) 0) (.n 1) (.n 1))))] [(.a 4, .prop 7), (.b (.v 43), .cells [.str (.o2 .cat (.o2 .cat (.o2 .cat (.o2 .cat (.o2 .cat (.v 37) (.s [32])) (.v 38)) (.s [46, 46])) (.o2 .cat (.o2 .cat (.v 39) (.s [32, 61, 32])) (.v 40))) (.o2 .cat (.o2 .cat (.o2 .cat (.s [32]) (.v 41)) (.s [32])) (.v 42)))] 9)] [.a, .n, .n, .p] (.w (.a (.sl (.v 44) (.v 45) (.v 46)))) [(.a 44, .prop 47), (.b (.v 43), .cells [.str (.o2 .cat (.o2 .cat (.o2 .cat (.o2 .cat (.o2 .cat (.v 37) (.s [32])) (.v 38)) (.s [46, 46])) (.o2 .cat (.o2 .cat (.v 39) (.s [32, 61, 32])) (.v 40))) (.o2 .cat (.o2 .cat (.o2 .cat (.s [32]) (.v 41)) (.s [32])) (.v 42)))] 9)]
(.need (.o1 (.inr .i64) (.o2 .add (.v 8) (.i 1)))
(.again 0 [.a (.v 44), .e (.o2 .nadd (.v 45) (.n 0)), .e (.o2 .nadd (.v 46) (.n 0)), .p [(.a 44, .prop 47)], .e (.o1 .neg (.o1 .neg (.o2 .add (.v 8) (.i 1))))]))))))))))
(.new
(.op (.call ⟨.builtin .append, #[.tmp 67, .tmp 69], #[30, 30]⟩) 30 [(67, .w (.a (.sl (.v 4) (.v 5) (.v 6)))), (69, .w (.a (.sl (.b (.v 41) 0) (.n 1) (.n 1))))] [(.a 4, .prop 7), (.b (.v 41), .cells [.str (.o2 .cat (.o2 .cat (.o2 .cat (.o2 .cat (.v 37) (.s [32])) (.v 38)) (.s [46, 46])) (.o2 .cat (.o2 .cat (.v 39) (.s [32, 61, 32])) (.v 40)))] 9)] [.a, .n, .n, .p] (.w (.a (.sl (.v 42) (.v 43) (.v 44)))) [(.a 42, .prop 45), (.b (.v 41), .cells [.str (.o2 .cat (.o2 .cat (.o2 .cat (.o2 .cat (.v 37) (.s [32])) (.v 38)) (.s [46, 46])) (.o2 .cat (.o2 .cat (.v 39) (.s [32, 61, 32])) (.v 40)))] 9)]
(.need (.o1 (.inr .i64) (.o2 .add (.v 8) (.i 1)))
(.again 0 [.a (.v 42), .e (.o2 .nadd (.v 43) (.n 0)), .e (.o2 .nadd (.v 44) (.n 0)), .p [(.a 42, .prop 45)], .e (.o1 .neg (.o1 .neg (.o2 .add (.v 8) (.i 1))))]))))))))))
(.new
(.op (.call ⟨.builtin .append, #[.tmp 67, .tmp 69], #[30, 30]⟩) 30 [(67, .w (.a (.sl (.v 4) (.v 5) (.v 6)))), (69, .w (.a (.sl (.b (.v 39) 0) (.n 1) (.n 1))))] [(.a 4, .prop 7), (.b (.v 39), .cells [.str (.o2 .cat (.o2 .cat (.o2 .cat (.v 37) (.s [32])) (.v 38)) (.s [46, 46]))] 9)] [.a, .n, .n, .p] (.w (.a (.sl (.v 40) (.v 41) (.v 42)))) [(.a 40, .prop 43), (.b (.v 39), .cells [.str (.o2 .cat (.o2 .cat (.o2 .cat (.v 37) (.s [32])) (.v 38)) (.s [46, 46]))] 9)]
(.need (.o1 (.inr .i64) (.o2 .add (.v 8) (.i 1)))
(.again 0 [.a (.v 40), .e (.o2 .nadd (.v 41) (.n 0)), .e (.o2 .nadd (.v 42) (.n 0)), .p [(.a 40, .prop 43)], .e (.o1 .neg (.o1 .neg (.o2 .add (.v 8) (.i 1))))]))))))))))))))))))
(.ret (.w (.a (.sl (.v 4) (.v 5) (.v 6)))) [(.a 0, .prop 3), (.a 4, .prop 7)])))
theorem tree_tTell : tree Tryz.prog { absT := [34], keep := [11, 19, 18, 9, 10, 20, 35, 5, 4, 6, 17, 14, 8], outl := true, opn := true, rdf := true } Tryz.f8 [.a (.sl (.v 0) (.v 1) (.v 2))] [(.a 0, .prop 3)] 4 = t_tTell := by kernel_rfl
def t_taleLines : T :=
(.new
(.new
(.call 4 [] [] [.c] (.w (.a (.bool (.v 45)))) []
(.br (.o1 .not (.v 45))
(.ret (.w (.a (.bool (.c false)))) [(.a 9, .prop 12), (.a 13, .prop 16), (.a 25, .prop 28), (.a 35, .prop 38), (.a 39, .prop 42)])
(.call 5 [.agg [.int .i64 (.v 0), .int .i64 (.v 1), .int .i64 (.v 2), .bool (.v 3), .int .i64 (.v 4), .str (.v 5), .str (.v 6), .int .i64 (.v 7), .int .i64 (.v 8), .sl (.v 9) (.v 10) (.v 11), .sl (.v 13) (.v 14) (.v 15)]] [(.a 9, .prop 12), (.a 13, .prop 16)] [.c] (.w (.a (.bool (.v 46)))) [(.a 9, .prop 12), (.a 13, .prop 16)]
(.br (.v 46)
(.ret (.w (.a (.bool (.c true)))) [(.a 9, .prop 12), (.a 13, .prop 16), (.a 25, .prop 28), (.a 35, .prop 38), (.a 39, .prop 42)])
(.br (.o2 .lt (.i 500) (.o1 .ofNat (.v 36)))
(.ret (.w (.a (.bool (.c true)))) [(.a 9, .prop 12), (.a 13, .prop 16), (.a 25, .prop 28), (.a 35, .prop 38), (.a 39, .prop 42)])
(.br (.o2 .lt (.i 50) (.o1 .ofNat (.v 40)))
(.ret (.w (.a (.bool (.c true)))) [(.a 9, .prop 12), (.a 13, .prop 16), (.a 25, .prop 28), (.a 35, .prop 38), (.a 39, .prop 42)])
(.call 6 [.agg [.int .i64 (.v 0), .int .i64 (.v 1), .int .i64 (.v 2), .bool (.v 3), .int .i64 (.v 4), .str (.v 5), .str (.v 6), .int .i64 (.v 7), .int .i64 (.v 8), .sl (.v 9) (.v 10) (.v 11), .sl (.v 13) (.v 14) (.v 15)]] [(.a 9, .prop 12), (.a 13, .prop 16)] [.s] (.w (.a (.str (.v 47)))) [(.a 9, .prop 12), (.a 13, .prop 16)]
(.call 7 [.a (.str (.v 47))] [] [.i, .i, .i, .c, .i, .s, .s, .i, .i, .a, .n, .n, .p, .a, .n, .n, .p, .i] (.tup [.agg [.int .i64 (.v 48), .int .i64 (.v 49), .int .i64 (.v 50), .bool (.v 51), .int .i64 (.v 52), .str (.v 53), .str (.v 54), .int .i64 (.v 55), .int .i64 (.v 56), .sl (.v 57) (.v 58) (.v 59), .sl (.v 61) (.v 62) (.v 63)], .a (.int .i64 (.v 65))]) [(.a 57, .prop 60), (.a 61, .prop 64)]
(.new
(.new
(.call 8 [.a (.sl (.b (.v 67) 0) (.n 1) (.n 1))] [(.b (.v 67), .cells [.int .i64 (.v 17), .int .i64 (.v 18), .int .i64 (.v 19), .int .i64 (.v 20), .str (.v 21), .str (.v 22), .int .i64 (.v 23), .int .i64 (.v 24), .sl (.v 25) (.v 26) (.v 27), .int .i64 (.v 29), .int .i64 (.v 30), .int .i64 (.v 31), .int .i64 (.v 32), .int .i64 (.v 33), .int .i64 (.v 34), .sl (.v 35) (.v 36) (.v 37), .sl (.v 39) (.v 40) (.v 41)] 34), (.a 25, .prop 28), (.a 35, .prop 38), (.a 39, .prop 42)] [.a, .n, .n, .p] (.w (.a (.sl (.v 68) (.v 69) (.v 70)))) [(.a 68, .prop 71), (.b (.v 67), .cells [.int .i64 (.v 17), .int .i64 (.v 18), .int .i64 (.v 19), .int .i64 (.v 20), .str (.v 21), .str (.v 22), .int .i64 (.v 23), .int .i64 (.v 24), .sl (.v 25) (.v 26) (.v 27), .int .i64 (.v 29), .int .i64 (.v 30), .int .i64 (.v 31), .int .i64 (.v 32), .int .i64 (.v 33), .int .i64 (.v 34), .sl (.v 35) (.v 36) (.v 37), .sl (.v 39) (.v 40) (.v 41)] 34), (.a 25, .prop 28), (.a 35, .prop 38), (.a 39, .prop 42)]
(.join [.c]
(.call 9 [.agg [.int .i64 (.v 0), .int .i64 (.v 1), .int .i64 (.v 2), .bool (.v 3), .int .i64 (.v 4), .str (.v 5), .str (.v 6), .int .i64 (.v 7), .int .i64 (.v 8), .sl (.v 9) (.v 10) (.v 11), .sl (.v 13) (.v 14) (.v 15)]] [(.a 9, .prop 12), (.a 13, .prop 16)] [.s] (.w (.a (.str (.v 72)))) [(.a 9, .prop 12), (.a 13, .prop 16)]
(.br (.o1 .not (.o2 .seq (.v 47) (.v 72)))
(.again 0 [.e (.o1 .not (.o1 .not (.c true)))])
(.br (.o1 .not (.o2 .eq (.o1 .ofNat (.v 69)) (.i 1)))
(.again 0 [.e (.o1 .not (.o1 .not (.c true)))])
(.need (.o2 .lt (.i 0) (.o1 .ofNat (.v 69)))
(.need (.o1 .isSome (.v 68))
(.read (.load 9 (.tmp 48)) 9 [(48, .w (.a (.eptr 68 (.i 0) 1 0)))] [(.a 68, .prop 71)] [.s] (.w (.a (.str (.v 73))))
(.call 10 [.agg [.int .i64 (.v 17), .int .i64 (.v 18), .int .i64 (.v 19), .int .i64 (.v 20), .str (.v 21), .str (.v 22), .int .i64 (.v 23), .int .i64 (.v 24), .sl (.v 25) (.v 26) (.v 27), .int .i64 (.v 29), .int .i64 (.v 30), .int .i64 (.v 31), .int .i64 (.v 32), .int .i64 (.v 33), .int .i64 (.v 34), .sl (.v 35) (.v 36) (.v 37), .sl (.v 39) (.v 40) (.v 41)]] [(.a 25, .prop 28), (.a 35, .prop 38), (.a 39, .prop 42)] [.s] (.w (.a (.str (.v 74)))) [(.a 25, .prop 28), (.a 35, .prop 38), (.a 39, .prop 42)]
(.again 0 [.e (.o1 .not (.o1 .not (.o1 .not (.o2 .seq (.v 73) (.v 74)))))]))))))))
(.br (.v 72)
(.ret (.w (.a (.bool (.c false)))) [(.a 9, .prop 12), (.a 13, .prop 16), (.a 25, .prop 28), (.a 35, .prop 38), (.a 39, .prop 42)])
(.br (.o2 .seq (.v 47) (.s [63]))
(.br (.o2 .eq (.v 65) (.i 3))
(.call 11 [.agg [.int .i64 (.v 48), .int .i64 (.v 49), .int .i64 (.v 50), .bool (.v 51), .int .i64 (.v 52), .str (.v 53), .str (.v 54), .int .i64 (.v 55), .int .i64 (.v 56), .sl (.v 57) (.v 58) (.v 59), .sl (.v 61) (.v 62) (.v 63)], .agg [.int .i64 (.i 0), .int .i64 (.i 0), .int .i64 (.i 0), .bool (.c false), .int .i64 (.i 0), .str (.s []), .str (.s []), .int .i64 (.i 0), .int .i64 (.i 0), .sl .nil (.n 0) (.n 0), .sl .nil (.n 0) (.n 0)]] [(.a 57, .prop 60), (.a 61, .prop 64)] [.c] (.w (.a (.bool (.v 73)))) [(.a 57, .prop 60), (.a 61, .prop 64)]
(.ret (.w (.a (.bool (.v 73)))) [(.a 9, .prop 12), (.a 13, .prop 16), (.a 25, .prop 28), (.a 35, .prop 38), (.a 39, .prop 42)]))
(.ret (.w (.a (.bool (.c false)))) [(.a 9, .prop 12), (.a 13, .prop 16), (.a 25, .prop 28), (.a 35, .prop 38), (.a 39, .prop 42)]))
(.join [.c, .p, .p]
(.br (.o2 .eq (.v 65) (.i 0))
(.call 12 [.agg [.int .i64 (.v 0), .int .i64 (.v 1), .int .i64 (.v 2), .bool (.v 3), .int .i64 (.v 4), .str (.v 5), .str (.v 6), .int .i64 (.v 7), .int .i64 (.v 8), .sl (.v 9) (.v 10) (.v 11), .sl (.v 13) (.v 14) (.v 15)]] [(.a 9, .prop 12), (.a 13, .prop 16)] [.i, .i, .i, .c, .i, .s, .s, .i, .i, .a, .n, .n, .p, .a, .n, .n, .p, .p, .p] (.w (.agg [.int .i64 (.v 73), .int .i64 (.v 74), .int .i64 (.v 75), .bool (.v 76), .int .i64 (.v 77), .str (.v 78), .str (.v 79), .int .i64 (.v 80), .int .i64 (.v 81), .sl (.v 82) (.v 83) (.v 84), .sl (.v 86) (.v 87) (.v 88)])) [(.a 82, .prop 85), (.a 86, .prop 89), (.a 9, .prop 90), (.a 13, .prop 91)]
(.call 11 [.agg [.int .i64 (.v 48), .int .i64 (.v 49), .int .i64 (.v 50), .bool (.v 51), .int .i64 (.v 52), .str (.v 53), .str (.v 54), .int .i64 (.v 55), .int .i64 (.v 56), .sl (.v 57) (.v 58) (.v 59), .sl (.v 61) (.v 62) (.v 63)], .agg [.int .i64 (.v 73), .int .i64 (.v 74), .int .i64 (.v 75), .bool (.v 76), .int .i64 (.v 77), .str (.v 78), .str (.v 79), .int .i64 (.v 80), .int .i64 (.v 81), .sl (.v 82) (.v 83) (.v 84), .sl (.v 86) (.v 87) (.v 88)]] [(.a 57, .prop 60), (.a 61, .prop 64), (.a 82, .prop 85), (.a 86, .prop 89)] [.c] (.w (.a (.bool (.v 92)))) [(.a 57, .prop 60), (.a 61, .prop 64), (.a 82, .prop 85), (.a 86, .prop 89)]
(.again 0 [.e (.o1 .not (.o1 .not (.v 92))), .p [(.a 9, .prop 90)], .p [(.a 13, .prop 91)]])))
(.again 0 [.e (.o1 .not (.o1 .not (.c false))), .p [(.a 9, .prop 12)], .p [(.a 13, .prop 16)]]))
(.ret (.w (.a (.bool (.v 73)))) [(.a 9, .prop 74), (.a 13, .prop 75), (.a 25, .prop 28), (.a 35, .prop 38), (.a 39, .prop 42)]))))))))))))))))))
theorem tree_taleLines : tree Tryz.prog { absT := [34], keep := [11, 19, 18, 9, 10, 20, 35, 5, 4, 6, 17, 14, 8], outl := true, opn := true, rdf := true, jn := [((37, 72), some { ss := [.c], n := 73, tv := [(37, none), (38, none), (39, none), (40, none), (41, none), (42, none), (43, none), (44, none), (45, none), (46, none), (47, none), (48, none), (49, none), (50, none), (51, none), (52, none), (53, some (.w (.a (.bool (.v 72)))))], h := [(.a 9, .prop 12), (.a 13, .prop 16), (.a 68, .prop 71), (.b (.v 67), .cells [.int .i64 (.v 17), .int .i64 (.v 18), .int .i64 (.v 19), .int .i64 (.v 20), .str (.v 21), .str (.v 22), .int .i64 (.v 23), .int .i64 (.v 24), .sl (.v 25) (.v 26) (.v 27), .int .i64 (.v 29), .int .i64 (.v 30), .int .i64 (.v 31), .int .i64 (.v 32), .int .i64 (.v 33), .int .i64 (.v 34), .sl (.v 35) (.v 36) (.v 37), .sl (.v 39) (.v 40) (.v 41)] 34), (.a 25, .prop 28), (.a 35, .prop 38), (.a 39, .prop 42), (.b (.v 66), .cells [.int .i64 (.v 48), .int .i64 (.v 49), .int .i64 (.v 50), .bool (.v 51), .int .i64 (.v 52), .str (.v 53), .str (.v 54), .int .i64 (.v 55), .int .i64 (.v 56), .sl (.v 57) (.v 58) (.v 59), .sl (.v 61) (.v 62) (.v 63)] 26), (.a 57, .prop 60), (.a 61, .prop 64), (.b (.v 44), .cells [.int .i64 (.v 17), .int .i64 (.v 18), .int .i64 (.v 19), .int .i64 (.v 20), .str (.v 21), .str (.v 22), .int .i64 (.v 23), .int .i64 (.v 24), .sl (.v 25) (.v 26) (.v 27), .int .i64 (.v 29), .int .i64 (.v 30), .int .i64 (.v 31), .int .i64 (.v 32), .int .i64 (.v 33), .int .i64 (.v 34), .sl (.v 35) (.v 36) (.v 37), .sl (.v 39) (.v 40) (.v 41)] 34), (.b (.v 43), .cells [.int .i64 (.v 0), .int .i64 (.v 1), .int .i64 (.v 2), .bool (.v 3), .int .i64 (.v 4), .str (.v 5), .str (.v 6), .int .i64 (.v 7), .int .i64 (.v 8), .sl (.v 9) (.v 10) (.v 11), .sl (.v 13) (.v 14) (.v 15)] 26)], lk := [] }), ((63, 73), some { ss := [.c, .p, .p], n := 76, tv := [(63, none), (64, none), (65, none), (66, none), (67, none), (68, none), (69, none), (70, none), (4, some (.w (.a (.bool (.v 73)))))], h := [(.a 57, .prop 60), (.a 61, .prop 64), (.a 9, .prop 74), (.a 13, .prop 75), (.a 68, .prop 71), (.b (.v 67), .cells [.int .i64 (.v 17), .int .i64 (.v 18), .int .i64 (.v 19), .int .i64 (.v 20), .str (.v 21), .str (.v 22), .int .i64 (.v 23), .int .i64 (.v 24), .sl (.v 25) (.v 26) (.v 27), .int .i64 (.v 29), .int .i64 (.v 30), .int .i64 (.v 31), .int .i64 (.v 32), .int .i64 (.v 33), .int .i64 (.v 34), .sl (.v 35) (.v 36) (.v 37), .sl (.v 39) (.v 40) (.v 41)] 34), (.a 25, .prop 28), (.a 35, .prop 38), (.a 39, .prop 42), (.b (.v 66), .cells [.int .i64 (.v 48), .int .i64 (.v 49), .int .i64 (.v 50), .bool (.v 51), .int .i64 (.v 52), .str (.v 53), .str (.v 54), .int .i64 (.v 55), .int .i64 (.v 56), .sl (.v 57) (.v 58) (.v 59), .sl (.v 61) (.v 62) (.v 63)] 26), (.b (.v 44), .cells [.int .i64 (.v 17), .int .i64 (.v 18), .int .i64 (.v 19), .int .i64 (.v 20), .str (.v 21), .str (.v 22), .int .i64 (.v 23), .int .i64 (.v 24), .sl (.v 25) (.v 26) (.v 27), .int .i64 (.v 29), .int .i64 (.v 30), .int .i64 (.v 31), .int .i64 (.v 32), .int .i64 (.v 33), .int .i64 (.v 34), .sl (.v 35) (.v 36) (.v 37), .sl (.v 39) (.v 40) (.v 41)] 34), (.b (.v 43), .cells [.int .i64 (.v 0), .int .i64 (.v 1), .int .i64 (.v 2), .bool (.v 3), .int .i64 (.v 4), .str (.v 5), .str (.v 6), .int .i64 (.v 7), .int .i64 (.v 8), .sl (.v 9) (.v 10) (.v 11), .sl (.v 13) (.v 14) (.v 15)] 26)], lk := [] })] } Tryz.f3 [.agg [.int .i64 (.v 0), .int .i64 (.v 1), .int .i64 (.v 2), .bool (.v 3), .int .i64 (.v 4), .str (.v 5), .str (.v 6), .int .i64 (.v 7), .int .i64 (.v 8), .sl (.v 9) (.v 10) (.v 11), .sl (.v 13) (.v 14) (.v 15)], .agg [.int .i64 (.v 17), .int .i64 (.v 18), .int .i64 (.v 19), .int .i64 (.v 20), .str (.v 21), .str (.v 22), .int .i64 (.v 23), .int .i64 (.v 24), .sl (.v 25) (.v 26) (.v 27), .int .i64 (.v 29), .int .i64 (.v 30), .int .i64 (.v 31), .int .i64 (.v 32), .int .i64 (.v 33), .int .i64 (.v 34), .sl (.v 35) (.v 36) (.v 37), .sl (.v 39) (.v 40) (.v 41)]] [(.a 9, .prop 12), (.a 13, .prop 16), (.a 25, .prop 28), (.a 35, .prop 38), (.a 39, .prop 42)] 43 = t_taleLines := by kernel_rfl
end Go.Proofs.YtcpjdfihpdjkbaaGreatDoor.RX



namespace Go.Proofs.YtcpjdfihpdjkbaaGreatDoor
set_option linter.unusedSimpArgs false
set_option linter.unusedVariables false
open Go.Proofs.YtcpjdfihpdjkbaaGreatDoor RX Go.RowKit
set_option maxRecDepth 100000

def DdP (x : DeedI) : HP := HP.sep (RoB x.call_dataa x.call_data.length x.call_data) (HP.sep (RoB x.answer_dataa x.answer_data.length x.answer_data) (Ls kStrL x.answer_namesa x.answer_names.length x.answer_names))
structure DdOk (x : DeedI) : Prop where
  client : in64 x.id_client
  birth : in64 x.id_birth
  number : in64 x.id_number
  began : in64 x.began
  ended : in64 x.ended
  err : in64 x.answer_err
  data : x.answer_data.length ≤ 500
  names : x.answer_names.length ≤ 50
def tellS (x : DeedI) : List UInt8 :=
  Lib.itoa x.id_client ++ [46] ++ Lib.itoa x.id_birth ++ [46] ++ Lib.itoa x.id_number ++ [32] ++ Lib.itoa x.began ++ [46, 46] ++ (if 0 ≤ x.ended then Lib.itoa x.ended ++ [32, 61, 32] ++ Lib.itoa x.answer_err ++ (if x.answer_err = 0 then [32] ++ hexW x.answer_data ++ [32] ++ Lib.itoa x.answer_names.length else []) else [])
set_option maxHeartbeats 1000000 in
theorem rTell_ok (x : DeedI) (hx : DdOk x) : Tri Tryz.prog 10 #[.agg x.vals.toArray] (DdP x) (fun v => HP.and (v = sE (tellS x)) (DdP x)) := by
  refine tri_of_tree (ρ := [.i x.id_client, .i x.id_birth, .i x.id_number, .i x.call_kind, .s x.call_path, .s x.call_other, .i x.call_off, .i x.call_n, .a x.call_dataa, .n x.call_data.length, .n x.call_datac, .p (RoB x.call_dataa x.call_data.length x.call_data), .i x.began, .i x.ended, .i x.answer_err, .i x.answer_kind, .i x.answer_size, .i x.answer_links, .a x.answer_dataa, .n x.answer_data.length, .n x.answer_datac, .p (RoB x.answer_dataa x.answer_data.length x.answer_data), .a x.answer_namesa, .n x.answer_names.length, .n x.answer_namesc, .p (Ls kStrL x.answer_namesa x.answer_names.length x.answer_names)]) mixed Tryz.func10 tree_rTell ?_
  unfold t_rTell
  simp (maxSteps := 3000000) only [T.den, E.prop, E.den, RX.look, F1.app, F2.app, Uni.int_i, Uni.nat_n, Uni.bool_c, Uni.str_s, Uni.adr_a, Uni.val_v, Uni.hp_p, hden, cden, V.den, W.den, A.den, BR.den, SA.den, FV.den, capV, exs, exP, allP, Cur.app, List.map_cons, List.map_nil, List.cons_append, List.nil_append, List.drop_succ_cons, List.drop_zero, List.length_cons, List.length_nil, Nat.zero_add, Nat.reduceAdd, Int.neg_neg, Bool.not_not, List.append_nil, Nat.add_zero, List.getElem?_cons_zero, List.getElem?_cons_succ, Decidable.not_not, semW_eq, ne_eq, Nat.reduceEqDiff, not_false_eq_true]
  intro b
  have hn64 : in64 (x.answer_names.length : Int) := by have := hx.names; exact ⟨by show (-9223372036854775808 : Int) ≤ _; omega, by show _ ≤ (9223372036854775807 : Int); omega⟩
  have w1 := itoa21 hx.client
  have w2 := itoa21 hx.birth
  have w3 := itoa21 hx.number
  have w4 := itoa21 hx.began
  have w5 := itoa21 hx.ended
  have w6 := itoa21 hx.err
  have w7 := itoa21 hn64
  have w8 := hexW_len x.answer_data
  have w9 := hx.data
  have T1 := rInt_ok _ hx.client HP.tt
  have T2 := rInt_ok _ hx.birth HP.tt
  have T3 := rInt_ok _ hx.number HP.tt
  have T4 := rInt_ok _ hx.began HP.tt
  have T5 := rInt_ok _ hx.ended HP.tt
  have T6 := rInt_ok _ hx.err HP.tt
  have T7 := rInt_ok _ hn64 HP.tt
  have H1 := rHex_ok (RoB x.answer_dataa x.answer_data.length x.answer_data) x.answer_dataa x.answer_data.length x.answer_datac x.answer_data (RdL.ro _ _ _ _) rfl (by omega)
  repeat' (first
    | (refine And.intro (by first | omega | (simp only [List.length_append, List.length_cons, List.length_nil]; omega)) fun _ => ?_)
    | ((with_reducible refine T1.weak (fun _ _ h => h) ?_); rintro v R h ⟨rfl, H⟩; refine ⟨Lib.itoa x.id_client, rfl, ?_, H⟩; clear H)
    | ((with_reducible refine T2.weak (fun _ _ h => h) ?_); rintro v R h ⟨rfl, H⟩; refine ⟨Lib.itoa x.id_birth, rfl, ?_, H⟩; clear H)
    | ((with_reducible refine T3.weak (fun _ _ h => h) ?_); rintro v R h ⟨rfl, H⟩; refine ⟨Lib.itoa x.id_number, rfl, ?_, H⟩; clear H)
    | ((with_reducible refine T4.weak (fun _ _ h => h) ?_); rintro v R h ⟨rfl, H⟩; refine ⟨Lib.itoa x.began, rfl, ?_, H⟩; clear H)
    | ((with_reducible refine T5.weak (fun _ _ h => h) ?_); rintro v R h ⟨rfl, H⟩; refine ⟨Lib.itoa x.ended, rfl, ?_, H⟩; clear H)
    | ((with_reducible refine T6.weak (fun _ _ h => h) ?_); rintro v R h ⟨rfl, H⟩; refine ⟨Lib.itoa x.answer_err, rfl, ?_, H⟩; clear H)
    | ((with_reducible refine T7.weak (fun _ _ h => h) ?_); rintro v R h ⟨rfl, H⟩; refine ⟨Lib.itoa x.answer_names.length, rfl, ?_, H⟩; clear H)
    | ((with_reducible refine H1.weak (fun _ _ h => h) ?_); rintro v R h ⟨rfl, H⟩; refine ⟨hexW x.answer_data, rfl, ?_, H⟩; clear H)
    | (refine And.intro (fun h0 => ?_) (fun h0 => ?_)))
  all_goals
    refine .of fun R h H => ⟨congrArg sE ?_, H⟩
    clear H
    unfold tellS
    by_cases q1 : 0 ≤ x.ended <;> by_cases q2 : x.answer_err = 0
    all_goals first
      | (rw [if_pos q1, if_pos q2]; simp [List.append_assoc]; done)
      | (rw [if_pos q1, if_neg q2]; simp [List.append_assoc]; done)
      | (rw [if_neg q1]; simp [List.append_assoc]; done)
      | (exfalso; omega)
theorem joinOne_ok (b : Nat) (l : List (List UInt8)) (sep : List UInt8) (h0 : l ≠ []) (hn : l.length ≤ 1000000) (hb : (Lib.join l sep).length ≤ 140737488355328) (ty : TypeId) :
    Tri Tryz.prog 14 #[.slice (some ⟨b, 0, none⟩) l.length l.length, sE sep] (HP.one b (.cells (l.map sE).toArray ty (0, 0))) (fun v => HP.and (v = sE (Lib.join l sep)) (HP.one b (.cells (l.map sE).toArray ty (0, 0)))) :=
  Tri.ofBelow (B := fun v => v = sE (Lib.join l sep)) (HP.one b (.cells (l.map sE).toArray ty (0, 0))) fun w R h F s H => by
    have hg : h b = some (.cells (l.map sE).toArray ty (0, 0)) := H
    have hw := s.oh _ _ hg
    have ecur : ∀ (j : Nat) x, (l.map fun x => (⟨x.toArray⟩ : ByteArray))[j]? = some x → w.cell? ⟨b, 0 + j, none⟩ = some (.string x) := fun j x hj => by
      rw [Nat.zero_add, cell_at hw]
      rw [List.getElem?_map] at hj
      obtain ⟨y, hy, rfl⟩ := Option.map_eq_some_iff.1 hj
      simp [hy, sE]
    have hmm : (l.map fun x => (⟨x.toArray⟩ : ByteArray)).map (·.data.toList) = l := by
      rw [List.map_map]
      exact List.map_id'' (fun x => by simp) l
    have hp := List.length_pos_iff.2 h0
    have := Tryz.strings_Join b 0 l.length (l.map fun x => (⟨x.toArray⟩ : ByteArray)) ⟨sep.toArray⟩ w ecur (s.oh.lt hg) (by rw [List.length_map]; omega) (by rw [List.length_map]; omega) (by rw [hmm]; simpa using hb)
    rw [List.length_map, hmm] at this
    exact this.mono fun e w' ⟨he, hb⟩ => ⟨_, he, rfl, hb⟩
def DdS (b : Nat) (x : DeedI) : HP := HP.sep (HP.one b (.cells x.vals.toArray 34 (0, 0))) (DdP x)
set_option maxHeartbeats 1000000 in
theorem tTell_ok (b : Nat) (x : DeedI) (hx : DdOk x) : Tri Tryz.prog 8 #[.slice (some ⟨b, 0, none⟩) 1 1] (DdS b x) (fun v => HP.ex fun a => HP.ex fun c => HP.and (v = .slice a 1 c) (HP.sep (OwS a 1 c [tellS x]) (DdS b x))) := by
  refine tri_of_tree (ρ := [.a (some ⟨b, 0, none⟩), .n 1, .n 1, .p (DdS b x)]) mixed Tryz.func8 tree_tTell ?_
  unfold t_tTell
  simp (maxSteps := 3000000) only [T.den, E.prop, E.den, RX.look, F1.app, F2.app, Uni.int_i, Uni.nat_n, Uni.bool_c, Uni.str_s, Uni.adr_a, Uni.val_v, Uni.hp_p, hden, cden, V.den, W.den, A.den, BR.den, SA.den, FV.den, capV, exs, exP, allP, Cur.app, List.map_cons, List.map_nil, List.cons_append, List.nil_append, List.drop_succ_cons, List.drop_zero, List.length_cons, List.length_nil, Nat.zero_add, Nat.reduceAdd, Int.neg_neg, Bool.not_not, List.append_nil, Nat.add_zero, List.getElem?_cons_zero, List.getElem?_cons_succ, Decidable.not_not, semW_eq, semW_load, semW_append, ne_eq, Nat.reduceEqDiff, not_false_eq_true]
  have hn64 : in64 (x.answer_names.length : Int) := by have := hx.names; exact ⟨by show (-9223372036854775808 : Int) ≤ _; omega, by show _ ≤ (9223372036854775807 : Int); omega⟩
  refine ⟨fun a' n' c' P i => ∃ k : Nat, i = k ∧ k ≤ 1 ∧ n' = k ∧ HP.ent P (OwS a' k c' (List.replicate k (tellS x))), fun _ _ _ _ i => 1 - i.toNat, ⟨0, rfl, by omega, rfl, .of fun R h H => ?_⟩, ?_⟩
  · exact OwC.nil _ _ R h
  rintro a' k c' P _ ⟨_, rfl, hk, rfl, hP⟩
  refine ⟨fun hlt => ?_, fun hge => ?_⟩
  · obtain rfl : k = 0 := by omega
    refine ⟨by omega, fun _ => ⟨rfl, fun _ => ⟨x.id_client, x.id_birth, x.id_number, x.call_kind, x.call_path, x.call_other, x.call_off, x.call_n, x.call_dataa, x.call_data.length, x.call_datac, x.began, x.ended, x.answer_err, x.answer_kind, x.answer_size, x.answer_links, x.answer_dataa, x.answer_data.length, x.answer_datac, x.answer_namesa, x.answer_names.length, x.answer_namesc, ?_, ?_⟩⟩⟩
    · obtain ⟨fs, hu⟩ := isSt (t := 34) (by kernel_rfl)
      have := ldBN (Q := DdP x) (b := b) (k := 0) (cs := x.vals.toArray) (e := 34) (vs := x.vals) hu (by kernel_rfl) (by kernel_rfl) (by simp) fun j v hj => by simpa using hj
      exact this
    have w1 := itoa21 hx.client
    have w2 := itoa21 hx.birth
    have w3 := itoa21 hx.number
    have w4 := itoa21 hx.began
    have w5 := itoa21 hx.ended
    have w6 := itoa21 hx.err
    have w7 := itoa21 hn64
    have w8 := hexW_len x.answer_data
    have w9 := hx.data
    have T1 := itoa_ok _ hx.client HP.tt
    have T2 := itoa_ok _ hx.birth HP.tt
    have T3 := itoa_ok _ hx.number HP.tt
    have T4 := itoa_ok _ hx.began HP.tt
    have T5 := itoa_ok _ hx.ended HP.tt
    have T6 := itoa_ok _ hx.err HP.tt
    have T7 := itoa_ok _ hn64 HP.tt
    have H1 := tellBytes_ok (DdS b x) x.answer_dataa x.answer_data.length x.answer_datac x.answer_data (RdL.impT fun R h H => (HP.sep_left (HP.sep_right (HP.sep_right H)) : (RoB x.answer_dataa x.answer_data.length x.answer_data).p R _)) rfl (by omega)
    have hJ : Lib.join [Lib.itoa x.id_client, Lib.itoa x.id_birth, Lib.itoa x.id_number] [46] = Lib.itoa x.id_client ++ [46] ++ Lib.itoa x.id_birth ++ [46] ++ Lib.itoa x.id_number := by simp [Lib.join_cons, Lib.joinTail]
    have wJ : (Lib.join [Lib.itoa x.id_client, Lib.itoa x.id_birth, Lib.itoa x.id_number] [46]).length ≤ 100 := by rw [hJ]; simp; omega
    have J1 := fun y => joinOne_ok y [Lib.itoa x.id_client, Lib.itoa x.id_birth, Lib.itoa x.id_number] [46] (by simp) (by simp) (by omega) 9
    have eq : tellS x = Lib.join [Lib.itoa x.id_client, Lib.itoa x.id_birth, Lib.itoa x.id_number] [46] ++ [32] ++ Lib.itoa x.began ++ [46, 46] ++ (if 0 ≤ x.ended then Lib.itoa x.ended ++ [32, 61, 32] ++ Lib.itoa x.answer_err ++ (if x.answer_err = 0 then [32] ++ hexW x.answer_data ++ [32] ++ Lib.itoa x.answer_names.length else []) else []) := by rw [hJ]; rfl
    generalize Lib.join [Lib.itoa x.id_client, Lib.itoa x.id_birth, Lib.itoa x.id_number] [46] = J at *
    have fin : ∀ (t : List UInt8) (y : Nat), t = tellS x → OTri Tryz.prog (appS 30 30 (.slice a' 0 c') (.slice (some ⟨y, 0, none⟩) 1 1)) (P.sep (HP.one y (.cells #[.string ⟨t.toArray⟩] 9 (0, 0)))) (fun v => HP.ex fun a2 => HP.ex fun c2 => HP.and (v = .slice a2 1 c2) (HP.sep (OwS a2 1 c2 [tellS x]) (HP.one y (.cells #[.string ⟨t.toArray⟩] 9 (0, 0))))) := fun t y ht => by
      subst ht
      refine (appendSt a' 0 c' [] y (tellS x) HP.tt (by omega)).conseq (K := HP.tt) ((HP.ent.sep2 hP (HP.ent.refl _)).trans (.of fun R h H => HP.sep_tt H)) fun v => .of fun R h H => HP.sep_left H
    repeat' (first
      | (intro (_ : Nat))
      | (refine And.intro (by first | omega | (simp only [List.length_append, List.length_cons, List.length_nil]; omega)) fun _ => ?_)
      | ((with_reducible refine T1.weak (fun _ _ h => h) ?_); rintro v R h ⟨rfl, H⟩; refine ⟨Lib.itoa x.id_client, rfl, ?_, H⟩; clear H)
      | ((with_reducible refine T2.weak (fun _ _ h => h) ?_); rintro v R h ⟨rfl, H⟩; refine ⟨Lib.itoa x.id_birth, rfl, ?_, H⟩; clear H)
      | ((with_reducible refine T3.weak (fun _ _ h => h) ?_); rintro v R h ⟨rfl, H⟩; refine ⟨Lib.itoa x.id_number, rfl, ?_, H⟩; clear H)
      | ((with_reducible refine T4.weak (fun _ _ h => h) ?_); rintro v R h ⟨rfl, H⟩; refine ⟨Lib.itoa x.began, rfl, ?_, H⟩; clear H)
      | ((with_reducible refine T5.weak (fun _ _ h => h) ?_); rintro v R h ⟨rfl, H⟩; refine ⟨Lib.itoa x.ended, rfl, ?_, H⟩; clear H)
      | ((with_reducible refine T6.weak (fun _ _ h => h) ?_); rintro v R h ⟨rfl, H⟩; refine ⟨Lib.itoa x.answer_err, rfl, ?_, H⟩; clear H)
      | ((with_reducible refine T7.weak (fun _ _ h => h) ?_); rintro v R h ⟨rfl, H⟩; refine ⟨Lib.itoa x.answer_names.length, rfl, ?_, H⟩; clear H)
      | ((with_reducible refine H1.weak (fun _ _ h => h) ?_); rintro v R h ⟨rfl, H⟩; refine ⟨hexW x.answer_data, rfl, ?_, H⟩; clear H)
      | ((refine (J1 _).weak (fun _ _ h => h) ?_); rintro v R h ⟨rfl, H⟩; refine ⟨J, rfl, ?_, H⟩; clear H)
      | ((refine (fin _ _ ?_).weak (fun _ _ h => h) ?_); rotate_left; rintro v R h ⟨a2, c2, rfl, H⟩; refine ⟨a2, 1, c2, OwS a2 1 c2 [tellS x], rfl, ⟨inI64t _ (by omega) (by omega), fun _ => ⟨⟨1, by omega, by omega, rfl, .refl _⟩, by dsimp only; omega⟩⟩, H⟩)
      | (refine And.intro (fun h0 => ?_) (fun h0 => ?_)))
    all_goals
      rw [eq]
      by_cases q1 : 0 ≤ x.ended <;> by_cases q2 : x.answer_err = 0
    all_goals first
      | (rw [if_pos q1, if_pos q2]; simp [List.append_assoc]; done)
      | (rw [if_pos q1, if_neg q2]; simp [List.append_assoc]; done)
      | (rw [if_neg q1]; simp [List.append_assoc]; done)
      | (exfalso; omega)
  · obtain rfl : k = 1 := by omega
    exact (HP.ent.sep2 (HP.ent.refl _) hP).trans (.of fun R h H => ⟨a', c', rfl, HP.sep_comm H⟩)
end Go.Proofs.YtcpjdfihpdjkbaaGreatDoor

