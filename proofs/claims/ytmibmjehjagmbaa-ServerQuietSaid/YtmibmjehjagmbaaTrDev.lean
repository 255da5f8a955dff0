/- Trees of functions, printed by rx.lean. No condition. -/
import Derived.Test.YtmibmjehjagmbaaSndL
import Derived.KernelRfl
namespace Go.Proofs.Ytmibmjehjagmbaa.RX
set_option maxRecDepth 100000
-- tideline/device.New: ρ := [.i pages]
def t_dNew : T :=
(.br (.o2 .lt (.v 0) (.i 1))
 (.ret (.tup [(.a .nilp), (.a (.int .i64 (.i 2)))]) [])
 (.br (.o2 .lt (.i 65536) (.v 0))
  (.ret (.tup [(.a .nilp), (.a (.int .i64 (.i 2)))]) [])
  (.new
  (.ret (.tup [(.a (.ptr (.v 1) 0)), (.a (.int .i64 (.i 0)))]) [((.b (.v 1)), (.cells [(.int .i64 (.v 0)), (.sl .nil (.n 0) (.n 0)), (.int .i64 (.i 0))] 108))]))))
theorem tree_dNew : tree Try.prog { absT := [], opq := [], hv := [], keep := [], link := [], ent := [], turn := [], shr := [], vt := [], mkd := [], rlink := [], pty := [] } Try.f23 [(.a (.int .i64 (.v 0)))] [] 1 = t_dNew := by kernel_rfl
-- (*tideline/device.Device).Free: ρ := [.n d, .i d_room, .a d_pagesa, .n d_pagesl, .n d_pagesc, .p d_pagesP, .i d_lasts]
def t_dFree : T :=
(.need (.o1 (.inr .i64) (.o2 .sub (.v 1) (.o1 .ofNat (.v 3))))
(.ret (.w (.a (.int .i64 (.o2 .sub (.v 1) (.o1 .ofNat (.v 3)))))) [((.b (.v 0)), (.cells [(.int .i64 (.v 1)), (.sl (.v 2) (.v 3) (.v 4)), (.int .i64 (.v 6))] 108)), ((.a 2), (.prop 5))]))
theorem tree_dFree : tree Try.prog { absT := [], opq := [], hv := [], keep := [], link := [], ent := [], turn := [], shr := [], vt := [], mkd := [], rlink := [], pty := [] } Try.f86 [(.a (.ptr (.v 0) 0))] [((.b (.v 0)), (.cells [(.int .i64 (.v 1)), (.sl (.v 2) (.v 3) (.v 4)), (.int .i64 (.v 6))] 108)), ((.a 2), (.prop 5))] 7 = t_dFree := by kernel_rfl
-- (*tideline/device.Device).Append: ρ := [.n d, .i d_room, .a d_pagesa, .n d_pagesl, .n d_pagesc, .p d_pagesP, .i d_lasts, .a ba, .n bl, .n bc, .p bP]
def t_dAppend : T :=
(.call 86 [(.a (.ptr (.v 0) 0))] [((.b (.v 0)), (.cells [(.int .i64 (.v 1)), (.sl (.v 2) (.v 3) (.v 4)), (.int .i64 (.v 6))] 108)), ((.a 2), (.prop 5))] [.i] (.w (.a (.int .i64 (.v 11)))) [((.b (.v 0)), (.cells [(.int .i64 (.v 1)), (.sl (.v 2) (.v 3) (.v 4)), (.int .i64 (.v 6))] 108)), ((.a 2), (.prop 5))]
(.br (.o2 .eq (.v 11) (.i 0))
 (.ret (.w (.a (.int .i64 (.i 4)))) [((.b (.v 0)), (.cells [(.int .i64 (.v 1)), (.sl (.v 2) (.v 3) (.v 4)), (.int .i64 (.v 6))] 108)), ((.a 2), (.prop 5)), ((.a 7), (.prop 10))])
 (.call 72 [(.a (.sl (.v 7) (.v 8) (.v 9)))] [((.a 7), (.prop 10))] [.a, .n, .n, .p, .p] (.w (.a (.sl (.v 12) (.v 13) (.v 14)))) [((.a 12), (.prop 15)), ((.a 7), (.prop 16))]
 (.new
 (.op (.call ⟨.builtin .append, #[(.tmp 12), (.tmp 16)], #[106, 106]⟩) 106 [(12, (.w (.a (.sl (.v 2) (.v 3) (.v 4))))), (16, (.w (.a (.sl (.b (.v 17) 0) (.n 1) (.n 1)))))] [((.a 2), (.prop 5)), ((.b (.v 17)), (.cells [(.int .i64 (.i 1)), (.sl (.v 12) (.v 13) (.v 14))] 110)), ((.a 12), (.prop 15))] [.a, .n, .n, .p] (.w (.a (.sl (.v 18) (.v 19) (.v 20)))) [((.a 18), (.prop 21)), ((.b (.v 17)), (.cells [(.int .i64 (.i 1)), (.sl (.v 12) (.v 13) (.v 14))] 110)), ((.a 12), (.prop 15))]
 (.ret (.w (.a (.int .i64 (.i 0)))) [((.b (.v 0)), (.cells [(.int .i64 (.v 1)), (.sl (.v 18) (.v 19) (.v 20)), (.int .i64 (.v 6))] 108)), ((.a 18), (.prop 21)), ((.a 7), (.prop 16))]))))))
theorem tree_dAppend : tree Try.prog { absT := [], opq := [], hv := [], keep := [86], link := [], ent := [], turn := [], shr := [], vt := [], mkd := [], rlink := [], pty := [] } Try.f35 [(.a (.ptr (.v 0) 0)), (.a (.sl (.v 7) (.v 8) (.v 9)))] [((.b (.v 0)), (.cells [(.int .i64 (.v 1)), (.sl (.v 2) (.v 3) (.v 4)), (.int .i64 (.v 6))] 108)), ((.a 2), (.prop 5)), ((.a 7), (.prop 10))] 11 = t_dAppend := by kernel_rfl
-- (*tideline/device.Device).Sync: ρ := [.n d, .i d_room, .a d_pagesa, .n d_pagesl, .n d_pagesc, .p d_pagesP, .i d_lasts]
def t_dSync : T :=
(.ret (.tup []) [((.b (.v 0)), (.cells [(.int .i64 (.v 1)), (.sl (.v 2) (.v 3) (.v 4)), (.int .i64 (.o1 .ofNat (.v 3)))] 108)), ((.a 2), (.prop 5))])
theorem tree_dSync : tree Try.prog { absT := [], opq := [], hv := [], keep := [], link := [], ent := [], turn := [], shr := [], vt := [], mkd := [], rlink := [], pty := [] } Try.f58 [(.a (.ptr (.v 0) 0))] [((.b (.v 0)), (.cells [(.int .i64 (.v 1)), (.sl (.v 2) (.v 3) (.v 4)), (.int .i64 (.v 6))] 108)), ((.a 2), (.prop 5))] 7 = t_dSync := by kernel_rfl
-- slices.Clone[[]tideline/device.page,tideline/device.page]: ρ := [.a sa, .n sl, .n sc, .p sP]
def t_cloneP : T :=
(.br (.o1 .not (.o1 .isSome (.v 0)))
 (.ret (.w (.a (.sl .nil (.n 0) (.n 0)))) [((.a 0), (.prop 3))])
 (.new
 (.op (.call ⟨.builtin .append, #[(.tmp 5), (.tmp 6)], #[106, 106]⟩) 106 [(5, (.w (.a (.sl (.b (.v 4) 0) (.n 0) (.n 0))))), (6, (.w (.a (.sl (.v 0) (.v 1) (.v 2)))))] [((.b (.v 4)), (.cells [] 110)), ((.a 0), (.prop 3))] [.a, .n, .n, .p] (.w (.a (.sl (.v 5) (.v 6) (.v 7)))) [((.a 5), (.prop 8)), ((.a 0), (.prop 3))]
 (.ret (.w (.a (.sl (.v 5) (.v 6) (.v 7)))) [((.a 0), (.prop 3)), ((.a 5), (.prop 8))]))))
theorem tree_cloneP : tree Try.prog { absT := [], opq := [], hv := [], keep := [], link := [], ent := [], turn := [], shr := [], vt := [], mkd := [], rlink := [], pty := [] } Try.f84 [(.a (.sl (.v 0) (.v 1) (.v 2)))] [((.a 0), (.prop 3))] 4 = t_cloneP := by kernel_rfl
-- (*tideline/device.Device).Twin: ρ := [.n d, .i d_room, .a d_pagesa, .n d_pagesl, .n d_pagesc, .p d_pagesP, .i d_lasts]
def t_dTwin : T :=
(.call 84 [(.a (.sl (.v 2) (.v 3) (.v 4)))] [((.a 2), (.prop 5))] [.a, .n, .n, .p, .p] (.w (.a (.sl (.v 7) (.v 8) (.v 9)))) [((.a 7), (.prop 10)), ((.a 2), (.prop 11))]
(.new
(.ret (.w (.a (.ptr (.v 12) 0))) [((.b (.v 0)), (.cells [(.int .i64 (.v 1)), (.sl (.v 2) (.v 3) (.v 4)), (.int .i64 (.v 6))] 108)), ((.a 2), (.prop 11)), ((.b (.v 12)), (.cells [(.int .i64 (.v 1)), (.sl (.v 7) (.v 8) (.v 9)), (.int .i64 (.o1 .ofNat (.v 3)))] 108)), ((.a 7), (.prop 10))])))
theorem tree_dTwin : tree Try.prog { absT := [], opq := [], hv := [], keep := [], link := [], ent := [], turn := [], shr := [], vt := [], mkd := [], rlink := [], pty := [] } Try.f33 [(.a (.ptr (.v 0) 0))] [((.b (.v 0)), (.cells [(.int .i64 (.v 1)), (.sl (.v 2) (.v 3) (.v 4)), (.int .i64 (.v 6))] 108)), ((.a 2), (.prop 5))] 7 = t_dTwin := by kernel_rfl
-- (*tideline/device.Device).Crash: ρ := [.n d, .i d_room, .a d_pagesa, .n d_pagesl, .n d_pagesc, .p d_pagesP, .i d_lasts, .a picksa, .n picksl, .n picksc, .p picksP]
def t_dCrash : T :=
(.read (.slice 106 (.tmp 10) (some (.tmp 14)) none none) 106 [(10, (.w (.a (.sl (.v 2) (.v 3) (.v 4))))), (14, (.w (.a (.int .i64 (.v 6)))))] [((.a 2), (.prop 5))] [.a, .n, .n] (.w (.a (.sl (.v 11) (.v 12) (.v 13))))
(.loop [.i, .p] [(.e (.o1 .neg (.o1 .neg (.i 0)))), (.p [((.a 2), (.prop 5))])]
 (.br (.o2 .lt (.v 14) (.o1 .ofNat (.v 12)))
  (.br (.o2 .lt (.i 0) (.o1 .ofNat (.v 8)))
   (.need (.o1 .not (.o2 .eq (.o1 .ofNat (.v 8)) (.i 0)))
   (.need (.o2 .le (.i 0) (.o2 .rem (.v 14) (.o1 .ofNat (.v 8))))
   (.need (.o2 .lt (.o2 .rem (.v 14) (.o1 .ofNat (.v 8))) (.o1 .ofNat (.v 8)))
   (.need (.o1 .isSome (.v 7))
   (.read (.load 5 (.tmp 28)) 5 [(28, (.w (.a (.eptr 7 (.o2 .rem (.v 14) (.o1 .ofNat (.v 8))) 1 0))))] [((.a 7), (.prop 10))] [.i] (.w (.a (.int .u8 (.v 16))))
   (.br (.o2 .eq (.o2 .rem (.v 16) (.i 3)) (.i 0))
    (.need (.o1 (.inr .i64) (.o2 .add (.v 6) (.v 14)))
    (.need (.o2 .le (.i 0) (.o2 .add (.v 6) (.v 14)))
    (.need (.o2 .lt (.o2 .add (.v 6) (.v 14)) (.o1 .ofNat (.v 3)))
    (.need (.o1 .isSome (.v 2))
    (.op (.store 110 (.tmp 45) (.tmp 44)) 0 [(45, (.w (.a (.eptr 2 (.o2 .add (.v 6) (.v 14)) 2 0)))), (44, (.w (.agg [(.int .i64 (.i 0)), (.sl .nil (.n 0) (.n 0))])))] [((.a 2), (.prop 15))] [.p] (.tup []) [((.a 2), (.prop 17))]
    (.need (.o1 (.inr .i64) (.o2 .add (.v 14) (.i 1)))
    (.again 0 [(.e (.o1 .neg (.o1 .neg (.o2 .add (.v 14) (.i 1))))), (.p [((.a 2), (.prop 17))])])))))))
    (.br (.o2 .eq (.o2 .rem (.v 16) (.i 3)) (.i 2))
     (.need (.o1 (.inr .i64) (.o2 .add (.v 6) (.v 14)))
     (.need (.o2 .le (.i 0) (.o2 .add (.v 6) (.v 14)))
     (.need (.o2 .lt (.o2 .add (.v 6) (.v 14)) (.o1 .ofNat (.v 3)))
     (.need (.o1 .isSome (.v 2))
     (.op (.store 110 (.tmp 59) (.tmp 58)) 0 [(59, (.w (.a (.eptr 2 (.o2 .add (.v 6) (.v 14)) 2 0)))), (58, (.w (.agg [(.int .i64 (.i 2)), (.sl .nil (.n 0) (.n 0))])))] [((.a 2), (.prop 15))] [.p] (.tup []) [((.a 2), (.prop 17))]
     (.need (.o1 (.inr .i64) (.o2 .add (.v 14) (.i 1)))
     (.again 0 [(.e (.o1 .neg (.o1 .neg (.o2 .add (.v 14) (.i 1))))), (.p [((.a 2), (.prop 17))])])))))))
     (.need (.o1 (.inr .i64) (.o2 .add (.v 14) (.i 1)))
     (.again 0 [(.e (.o1 .neg (.o1 .neg (.o2 .add (.v 14) (.i 1))))), (.p [((.a 2), (.prop 15))])])))))))))
   (.need (.o1 (.inr .i64) (.o2 .add (.v 6) (.v 14)))
   (.need (.o2 .le (.i 0) (.o2 .add (.v 6) (.v 14)))
   (.need (.o2 .lt (.o2 .add (.v 6) (.v 14)) (.o1 .ofNat (.v 3)))
   (.need (.o1 .isSome (.v 2))
   (.op (.store 110 (.tmp 45) (.tmp 44)) 0 [(45, (.w (.a (.eptr 2 (.o2 .add (.v 6) (.v 14)) 2 0)))), (44, (.w (.agg [(.int .i64 (.i 0)), (.sl .nil (.n 0) (.n 0))])))] [((.a 2), (.prop 15))] [.p] (.tup []) [((.a 2), (.prop 16))]
   (.need (.o1 (.inr .i64) (.o2 .add (.v 14) (.i 1)))
   (.again 0 [(.e (.o1 .neg (.o1 .neg (.o2 .add (.v 14) (.i 1))))), (.p [((.a 2), (.prop 16))])]))))))))
  (.loop [.i] [(.e (.o1 .neg (.o1 .neg (.o1 .ofNat (.v 3)))))]
   (.br (.o2 .lt (.i 0) (.v 16))
    (.need (.o1 (.inr .i64) (.o2 .sub (.v 16) (.i 1)))
    (.need (.o2 .le (.i 0) (.o2 .sub (.v 16) (.i 1)))
    (.need (.o2 .lt (.o2 .sub (.v 16) (.i 1)) (.o1 .ofNat (.v 3)))
    (.need (.o1 .isSome (.v 2))
    (.read (.load 3 (.tmp 76)) 3 [(76, (.w (.a (.eptr 2 (.o2 .sub (.v 16) (.i 1)) 2 0))))] [((.a 2), (.prop 15))] [.i] (.w (.a (.int .i64 (.v 17))))
    (.br (.o2 .eq (.v 17) (.i 0))
     (.again 0 [(.e (.o1 .neg (.o1 .neg (.o2 .sub (.v 16) (.i 1)))))])
     (.read (.slice 106 (.tmp 86) none (some (.tmp 87)) none) 106 [(86, (.w (.a (.sl (.v 2) (.v 3) (.v 4))))), (87, (.w (.a (.int .i64 (.v 16)))))] [((.a 2), (.prop 15))] [.a, .n, .n] (.w (.a (.sl (.v 18) (.v 19) (.v 20))))
     (.call 58 [(.a (.ptr (.v 0) 0))] [((.b (.v 0)), (.cells [(.int .i64 (.v 1)), (.sl (.v 18) (.v 19) (.v 20)), (.int .i64 (.v 6))] 108)), ((.a 2), (.prop 15))] [.i, .a, .n, .n, .p, .i] (.tup []) [((.b (.v 0)), (.cells [(.int .i64 (.v 21)), (.sl (.v 22) (.v 23) (.v 24)), (.int .i64 (.v 26))] 108)), ((.a 22), (.prop 25))]
     (.ret (.tup []) [((.b (.v 0)), (.cells [(.int .i64 (.v 21)), (.sl (.v 22) (.v 23) (.v 24)), (.int .i64 (.v 26))] 108)), ((.a 22), (.prop 25)), ((.a 7), (.prop 10))])))))))))
    (.read (.slice 106 (.tmp 86) none (some (.tmp 87)) none) 106 [(86, (.w (.a (.sl (.v 2) (.v 3) (.v 4))))), (87, (.w (.a (.int .i64 (.v 16)))))] [((.a 2), (.prop 15))] [.a, .n, .n] (.w (.a (.sl (.v 17) (.v 18) (.v 19))))
    (.call 58 [(.a (.ptr (.v 0) 0))] [((.b (.v 0)), (.cells [(.int .i64 (.v 1)), (.sl (.v 17) (.v 18) (.v 19)), (.int .i64 (.v 6))] 108)), ((.a 2), (.prop 15))] [.i, .a, .n, .n, .p, .i] (.tup []) [((.b (.v 0)), (.cells [(.int .i64 (.v 20)), (.sl (.v 21) (.v 22) (.v 23)), (.int .i64 (.v 25))] 108)), ((.a 21), (.prop 24))]
    (.ret (.tup []) [((.b (.v 0)), (.cells [(.int .i64 (.v 20)), (.sl (.v 21) (.v 22) (.v 23)), (.int .i64 (.v 25))] 108)), ((.a 21), (.prop 24)), ((.a 7), (.prop 10))]))))))))
theorem tree_dCrash : tree Try.prog { absT := [], opq := [], hv := [(0, [(.a 2)])], keep := [], link := [], ent := [], turn := [], shr := [], vt := [], mkd := [], rlink := [], pty := [] } Try.f16 [(.a (.ptr (.v 0) 0)), (.a (.sl (.v 7) (.v 8) (.v 9)))] [((.b (.v 0)), (.cells [(.int .i64 (.v 1)), (.sl (.v 2) (.v 3) (.v 4)), (.int .i64 (.v 6))] 108)), ((.a 2), (.prop 5)), ((.a 7), (.prop 10))] 11 = t_dCrash := by kernel_rfl
-- (*tideline/device.Device).whole: ρ := [.n d, .p dP]
def t_dWhole : T :=
(.new
(.ret (.w (.a (.func 118 [((.v 2), 0)]))) [((.b (.v 0)), (.prop 1)), ((.b (.v 2)), (.cells [(.ptr (.v 0) 0)] 25))]))
theorem tree_dWhole : tree Try.prog { absT := [], opq := [], hv := [], keep := [], link := [], ent := [], turn := [], shr := [], vt := [], mkd := [], rlink := [], pty := [] } Try.f85 [(.a (.ptr (.v 0) 0))] [((.b (.v 0)), (.prop 1))] 2 = t_dWhole := by kernel_rfl
-- (*tideline/device.Device).whole$1: ρ := [.v yield, .p yieldP, .n d, .n d, .i d_room, .a d_pagesa, .n d_pagesl, .n d_pagesc, .p d_pagesP, .i d_lasts]
def t_dWhole1 : T :=
(.loop [.i, .p] [(.e (.o1 .neg (.o1 .neg (.i 0)))), (.p [((.a 0), (.prop 1))])]
 (.br (.o2 .lt (.v 10) (.o1 .ofNat (.v 6)))
  (.need (.o2 .le (.i 0) (.v 10))
  (.need (.o1 .isSome (.v 5))
  (.read (.load 110 (.tmp 12)) 110 [(12, (.w (.a (.eptr 5 (.v 10) 2 0))))] [((.a 5), (.prop 8))] [.i, .a, .n, .n] (.w (.agg [(.int .i64 (.v 12)), (.sl (.v 13) (.v 14) (.v 15))]))
  (.new
  (.br (.o2 .eq (.v 12) (.i 1))
   (.callv 0 [(.a (.sl (.v 13) (.v 14) (.v 15)))] [((.a 0), (.prop 11)), ((.a 5), (.prop 8))] [.c, .p] (.w (.a (.bool (.v 17)))) [((.a 0), (.prop 18)), ((.a 5), (.prop 8))]
   (.br (.o1 .not (.v 17))
    (.ret (.tup []) [((.a 0), (.prop 18)), ((.b (.v 2)), (.cells [(.ptr (.v 3) 0)] 25)), ((.b (.v 3)), (.cells [(.int .i64 (.v 4)), (.sl (.v 5) (.v 6) (.v 7)), (.int .i64 (.v 9))] 108)), ((.a 5), (.prop 8))])
    (.need (.o1 (.inr .i64) (.o2 .add (.v 10) (.i 1)))
    (.again 0 [(.e (.o1 .neg (.o1 .neg (.o2 .add (.v 10) (.i 1))))), (.p [((.a 0), (.prop 18))])]))))
   (.need (.o1 (.inr .i64) (.o2 .add (.v 10) (.i 1)))
   (.again 0 [(.e (.o1 .neg (.o1 .neg (.o2 .add (.v 10) (.i 1))))), (.p [((.a 0), (.prop 11))])])))))))
  (.ret (.tup []) [((.a 0), (.prop 11)), ((.b (.v 2)), (.cells [(.ptr (.v 3) 0)] 25)), ((.b (.v 3)), (.cells [(.int .i64 (.v 4)), (.sl (.v 5) (.v 6) (.v 7)), (.int .i64 (.v 9))] 108)), ((.a 5), (.prop 8))])))
theorem tree_dWhole1 : tree Try.prog { absT := [], opq := [], hv := [(0, [(.a 0)])], keep := [], link := [], ent := [], turn := [], shr := [], vt := [], mkd := [], rlink := [], pty := [] } Try.f118 [(.a (.val 0)), (.a (.ptr (.v 2) 0))] [((.a 0), (.prop 1)), ((.b (.v 2)), (.cells [(.ptr (.v 3) 0)] 25)), ((.b (.v 3)), (.cells [(.int .i64 (.v 4)), (.sl (.v 5) (.v 6) (.v 7)), (.int .i64 (.v 9))] 108)), ((.a 5), (.prop 8))] 10 = t_dWhole1 := by kernel_rfl
-- (*tideline/device.Device).Pages: ρ := [.n d, .p dP]
def t_dPages : T :=
(.new
(.call 85 [(.a (.ptr (.v 0) 0))] [((.b (.v 0)), (.prop 1))] [.v, .p] (.w (.a (.val 3))) [((.a 3), (.prop 4)), ((.b (.v 0)), (.prop 1))]
(.new
(.rangef (.val 3) [((.a 3), (.prop 4)), ((.b (.v 0)), (.prop 1))] [] [.a, .n, .n, .p] [(.a .nil), (.e (.o2 .nadd (.n 0) (.n 0))), (.e (.o2 .nadd (.n 0) (.n 0))), (.p [])] [.a, .n, .n, .p] [(.a (.sl (.v 10) (.v 11) (.v 12)))] [((.a 10), (.prop 13))]
 (.call 72 [(.a (.sl (.v 10) (.v 11) (.v 12)))] [((.a 10), (.prop 13))] [.a, .n, .n, .p, .p] (.w (.a (.sl (.v 14) (.v 15) (.v 16)))) [((.a 14), (.prop 17)), ((.a 10), (.prop 18))]
 (.new
 (.op (.call ⟨.builtin .append, #[(.tmp 8), (.tmp 11)], #[72, 72]⟩) 72 [(8, (.w (.a (.sl (.v 6) (.v 7) (.v 8))))), (11, (.w (.a (.sl (.b (.v 19) 0) (.n 1) (.n 1)))))] [((.a 6), (.prop 9)), ((.b (.v 19)), (.cells [(.sl (.v 14) (.v 15) (.v 16))] 30)), ((.a 14), (.prop 17))] [.a, .n, .n, .p] (.w (.a (.sl (.v 20) (.v 21) (.v 22)))) [((.a 20), (.prop 23)), ((.b (.v 19)), (.cells [(.sl (.v 14) (.v 15) (.v 16))] 30)), ((.a 14), (.prop 17))]
 (.again 0 [(.a (.v 20)), (.e (.o2 .nadd (.v 21) (.n 0))), (.e (.o2 .nadd (.v 22) (.n 0))), (.p [((.a 20), (.prop 23))])]))))
 (.ret (.w (.a (.sl (.v 6) (.v 7) (.v 8)))) [((.b (.v 0)), (.prop 1)), ((.a 6), (.prop 9))])))))
theorem tree_dPages : tree Try.prog { absT := [], opq := [], hv := [(0, [(.b (.v 2))])], keep := [85], link := [(85, 0)], ent := [], turn := [], shr := [], vt := [], mkd := [], rlink := [], pty := [(0, [30])] } Try.f34 [(.a (.ptr (.v 0) 0))] [((.b (.v 0)), (.prop 1))] 2 = t_dPages := by kernel_rfl
end Go.Proofs.Ytmibmjehjagmbaa.RX
