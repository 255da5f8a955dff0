/- Trees of functions, printed by rx.lean. No condition. -/
import Derived.Test.YtmibmjehjagmbaaSndL
import Derived.KernelRfl
namespace Go.Proofs.Ytmibmjehjagmbaa.RX
set_option maxRecDepth 100000
-- tideline/octet.Read: ρ := [.a ba, .n bl, .n bc, .p bP]
def t_rRead : T :=
(.call 72 [(.a (.sl (.v 0) (.v 1) (.v 2)))] [((.a 0), (.prop 3))] [.a, .n, .n, .p, .p] (.w (.a (.sl (.v 4) (.v 5) (.v 6)))) [((.a 4), (.prop 7)), ((.a 0), (.prop 8))]
(.new
(.ret (.w (.a (.ptr (.v 9) 0))) [((.a 0), (.prop 8)), ((.b (.v 9)), (.cells [(.sl (.v 4) (.v 5) (.v 6)), (.bool (.c false))] 183)), ((.a 4), (.prop 7))])))
theorem tree_rRead : tree Try.prog { absT := [], opq := [], hv := [], keep := [], link := [], ent := [], turn := [], shr := [], vt := [], mkd := [], rlink := [], pty := [] } Try.f98 [(.a (.sl (.v 0) (.v 1) (.v 2)))] [((.a 0), (.prop 3))] 4 = t_rRead := by kernel_rfl
-- (*tideline/octet.Reader).fail: ρ := [.n r, .a r_lefta, .n r_leftl, .n r_leftc, .p r_leftP, .c r_wrong]
def t_rFail : T :=
(.ret (.tup []) [((.b (.v 0)), (.cells [(.sl .nil (.n 0) (.n 0)), (.bool (.c true))] 183)), ((.a 1), (.prop 4))])
theorem tree_rFail : tree Try.prog { absT := [], opq := [], hv := [], keep := [], link := [], ent := [], turn := [], shr := [], vt := [], mkd := [], rlink := [], pty := [] } Try.f138 [(.a (.ptr (.v 0) 0))] [((.b (.v 0)), (.cells [(.sl (.v 1) (.v 2) (.v 3)), (.bool (.v 5))] 183)), ((.a 1), (.prop 4))] 6 = t_rFail := by kernel_rfl
-- (*tideline/octet.Reader).take: ρ := [.n r, .a r_lefta, .n r_leftl, .n r_leftc, .p r_leftP, .c r_wrong, .i n]
def t_rTake : T :=
(.br (.v 5)
 (.ret (.w (.a (.sl .nil (.n 0) (.n 0)))) [((.b (.v 0)), (.cells [(.sl (.v 1) (.v 2) (.v 3)), (.bool (.v 5))] 183)), ((.a 1), (.prop 4))])
 (.br (.o2 .lt (.o1 .ofNat (.v 2)) (.v 6))
  (.call 138 [(.a (.ptr (.v 0) 0))] [((.b (.v 0)), (.cells [(.sl (.v 1) (.v 2) (.v 3)), (.bool (.v 5))] 183)), ((.a 1), (.prop 4))] [.a, .n, .n, .p, .c] (.tup []) [((.b (.v 0)), (.cells [(.sl (.v 7) (.v 8) (.v 9)), (.bool (.v 11))] 183)), ((.a 7), (.prop 10))]
  (.ret (.w (.a (.sl .nil (.n 0) (.n 0)))) [((.b (.v 0)), (.cells [(.sl (.v 7) (.v 8) (.v 9)), (.bool (.v 11))] 183)), ((.a 7), (.prop 10))]))
  (.read (.slice 30 (.tmp 22) (some (.const (.int .i64 0))) (some (.tmp 23)) (some (.tmp 24))) 30 [(22, (.w (.a (.sl (.v 1) (.v 2) (.v 3))))), (23, (.w (.a (.int .i64 (.v 6))))), (24, (.w (.a (.int .i64 (.v 6)))))] [((.a 1), (.prop 4))] [.a, .n, .n] (.w (.a (.sl (.v 7) (.v 8) (.v 9))))
  (.read (.slice 30 (.tmp 30) (some (.tmp 31)) none none) 30 [(30, (.w (.a (.sl (.v 1) (.v 2) (.v 3))))), (31, (.w (.a (.int .i64 (.v 6)))))] [((.a 1), (.prop 4))] [.a, .n, .n] (.w (.a (.sl (.v 10) (.v 11) (.v 12))))
  (.ret (.w (.a (.sl (.v 7) (.v 8) (.v 9)))) [((.b (.v 0)), (.cells [(.sl (.v 10) (.v 11) (.v 12)), (.bool (.v 5))] 183)), ((.a 1), (.prop 4))])))))
theorem tree_rTake : tree Try.prog { absT := [], opq := [], hv := [], keep := [], link := [], ent := [], turn := [], shr := [], vt := [], mkd := [], rlink := [], pty := [] } Try.f131 [(.a (.ptr (.v 0) 0)), (.a (.int .i64 (.v 6)))] [((.b (.v 0)), (.cells [(.sl (.v 1) (.v 2) (.v 3)), (.bool (.v 5))] 183)), ((.a 1), (.prop 4))] 7 = t_rTake := by kernel_rfl
-- (*tideline/octet.Reader).Number: ρ := [.n r, .p rP, .i n]
def t_rNumber : T :=
(.call 134 [(.a (.int .i64 (.v 2)))] [] [.i] (.w (.a (.int .i64 (.v 3)))) []
(.call 131 [(.a (.ptr (.v 0) 0)), (.a (.int .i64 (.v 3)))] [((.b (.v 0)), (.prop 1))] [.a, .n, .n, .p, .p] (.w (.a (.sl (.v 4) (.v 5) (.v 6)))) [((.a 4), (.prop 7)), ((.b (.v 0)), (.prop 8))]
(.loop [.i, .i] [(.e (.o1 .neg (.o1 .neg (.i 0)))), (.e (.o1 .neg (.o1 .neg (.i 0))))]
 (.br (.o2 .lt (.v 10) (.o1 .ofNat (.v 5)))
  (.need (.o2 .le (.i 0) (.v 10))
  (.need (.o1 .isSome (.v 4))
  (.read (.load 5 (.tmp 15)) 5 [(15, (.w (.a (.eptr 4 (.v 10) 1 0))))] [((.a 4), (.prop 7))] [.i] (.w (.a (.int .u8 (.v 11))))
  (.need (.o1 (.inr .u64) (.v 11))
  (.need (.o1 (.inr .i64) (.o2 .add (.v 10) (.i 1)))
  (.again 0 [(.e (.o1 .neg (.o1 .neg (.o2 (.bit .or .u64) (.o2 (.shl .u64) (.v 9) (.i 8)) (.v 11))))), (.e (.o1 .neg (.o1 .neg (.o2 .add (.v 10) (.i 1)))))]))))))
  (.ret (.w (.a (.int .u64 (.v 9)))) [((.b (.v 0)), (.prop 8))])))))
theorem tree_rNumber : tree Try.prog { absT := [], opq := [], hv := [], keep := [], link := [], ent := [], turn := [], shr := [], vt := [], mkd := [], rlink := [], pty := [] } Try.f130 [(.a (.ptr (.v 0) 0)), (.a (.int .i64 (.v 2)))] [((.b (.v 0)), (.prop 1))] 3 = t_rNumber := by kernel_rfl
-- (*tideline/octet.Reader).told: ρ := [.n r, .a r_lefta, .n r_leftl, .n r_leftc, .p r_leftP, .c r_wrong, .i most]
def t_rTold : T :=
(.call 130 [(.a (.ptr (.v 0) 0)), (.a (.int .i64 (.i 4)))] [((.b (.v 0)), (.cells [(.sl (.v 1) (.v 2) (.v 3)), (.bool (.v 5))] 183)), ((.a 1), (.prop 4))] [.i, .a, .n, .n, .p, .c] (.w (.a (.int .u64 (.v 7)))) [((.b (.v 0)), (.cells [(.sl (.v 8) (.v 9) (.v 10)), (.bool (.v 12))] 183)), ((.a 8), (.prop 11))]
(.br (.v 12)
 (.ret (.w (.a (.int .i64 (.i 0)))) [((.b (.v 0)), (.cells [(.sl (.v 8) (.v 9) (.v 10)), (.bool (.v 12))] 183)), ((.a 8), (.prop 11))])
 (.br (.o2 .lt (.v 6) (.o1 (.wrap .i64) (.v 7)))
  (.call 138 [(.a (.ptr (.v 0) 0))] [((.b (.v 0)), (.cells [(.sl (.v 8) (.v 9) (.v 10)), (.bool (.v 12))] 183)), ((.a 8), (.prop 11))] [.a, .n, .n, .p, .c] (.tup []) [((.b (.v 0)), (.cells [(.sl (.v 13) (.v 14) (.v 15)), (.bool (.v 17))] 183)), ((.a 13), (.prop 16))]
  (.ret (.w (.a (.int .i64 (.i 0)))) [((.b (.v 0)), (.cells [(.sl (.v 13) (.v 14) (.v 15)), (.bool (.v 17))] 183)), ((.a 13), (.prop 16))]))
  (.ret (.w (.a (.int .i64 (.o1 (.wrap .i64) (.v 7))))) [((.b (.v 0)), (.cells [(.sl (.v 8) (.v 9) (.v 10)), (.bool (.v 12))] 183)), ((.a 8), (.prop 11))]))))
theorem tree_rTold : tree Try.prog { absT := [], opq := [], hv := [], keep := [], link := [], ent := [], turn := [], shr := [], vt := [], mkd := [], rlink := [], pty := [] } Try.f132 [(.a (.ptr (.v 0) 0)), (.a (.int .i64 (.v 6)))] [((.b (.v 0)), (.cells [(.sl (.v 1) (.v 2) (.v 3)), (.bool (.v 5))] 183)), ((.a 1), (.prop 4))] 7 = t_rTold := by kernel_rfl
-- (*tideline/octet.Reader).Byte: ρ := [.n r, .p rP]
def t_rByte : T :=
(.call 130 [(.a (.ptr (.v 0) 0)), (.a (.int .i64 (.i 1)))] [((.b (.v 0)), (.prop 1))] [.i, .p] (.w (.a (.int .u64 (.v 2)))) [((.b (.v 0)), (.prop 3))]
(.ret (.w (.a (.int .u8 (.o1 (.wrap .u8) (.v 2))))) [((.b (.v 0)), (.prop 3))]))
theorem tree_rByte : tree Try.prog { absT := [], opq := [], hv := [], keep := [], link := [], ent := [], turn := [], shr := [], vt := [], mkd := [], rlink := [], pty := [] } Try.f99 [(.a (.ptr (.v 0) 0))] [((.b (.v 0)), (.prop 1))] 2 = t_rByte := by kernel_rfl
-- (*tideline/octet.Reader).Int: ρ := [.n r, .p rP]
def t_rInt : T :=
(.call 130 [(.a (.ptr (.v 0) 0)), (.a (.int .i64 (.i 8)))] [((.b (.v 0)), (.prop 1))] [.i, .p] (.w (.a (.int .u64 (.v 2)))) [((.b (.v 0)), (.prop 3))]
(.ret (.w (.a (.int .i64 (.o1 (.wrap .i64) (.v 2))))) [((.b (.v 0)), (.prop 3))]))
theorem tree_rInt : tree Try.prog { absT := [], opq := [], hv := [], keep := [], link := [], ent := [], turn := [], shr := [], vt := [], mkd := [], rlink := [], pty := [] } Try.f100 [(.a (.ptr (.v 0) 0))] [((.b (.v 0)), (.prop 1))] 2 = t_rInt := by kernel_rfl
-- (*tideline/octet.Reader).Bytes: ρ := [.n r, .p rP, .i most]
def t_rBytes : T :=
(.call 132 [(.a (.ptr (.v 0) 0)), (.a (.int .i64 (.v 2)))] [((.b (.v 0)), (.prop 1))] [.i, .p] (.w (.a (.int .i64 (.v 3)))) [((.b (.v 0)), (.prop 4))]
(.call 131 [(.a (.ptr (.v 0) 0)), (.a (.int .i64 (.v 3)))] [((.b (.v 0)), (.prop 4))] [.a, .n, .n, .p, .p] (.w (.a (.sl (.v 5) (.v 6) (.v 7)))) [((.a 5), (.prop 8)), ((.b (.v 0)), (.prop 9))]
(.call 72 [(.a (.sl (.v 5) (.v 6) (.v 7)))] [((.a 5), (.prop 8))] [.a, .n, .n, .p, .p] (.w (.a (.sl (.v 10) (.v 11) (.v 12)))) [((.a 10), (.prop 13)), ((.a 5), (.prop 14))]
(.ret (.w (.a (.sl (.v 10) (.v 11) (.v 12)))) [((.b (.v 0)), (.prop 9)), ((.a 10), (.prop 13))]))))
theorem tree_rBytes : tree Try.prog { absT := [], opq := [], hv := [], keep := [], link := [], ent := [], turn := [], shr := [], vt := [], mkd := [], rlink := [], pty := [] } Try.f101 [(.a (.ptr (.v 0) 0)), (.a (.int .i64 (.v 2)))] [((.b (.v 0)), (.prop 1))] 3 = t_rBytes := by kernel_rfl
-- (*tideline/octet.Reader).End: ρ := [.n r, .a r_lefta, .n r_leftl, .n r_leftc, .p r_leftP, .c r_wrong]
def t_rEnd : T :=
(.br (.v 5)
 (.ret (.w (.a (.int .i64 (.i 3)))) [((.b (.v 0)), (.cells [(.sl (.v 1) (.v 2) (.v 3)), (.bool (.v 5))] 183)), ((.a 1), (.prop 4))])
 (.br (.o2 .lt (.i 0) (.o1 .ofNat (.v 2)))
  (.ret (.w (.a (.int .i64 (.i 3)))) [((.b (.v 0)), (.cells [(.sl (.v 1) (.v 2) (.v 3)), (.bool (.v 5))] 183)), ((.a 1), (.prop 4))])
  (.ret (.w (.a (.int .i64 (.i 0)))) [((.b (.v 0)), (.cells [(.sl (.v 1) (.v 2) (.v 3)), (.bool (.v 5))] 183)), ((.a 1), (.prop 4))])))
theorem tree_rEnd : tree Try.prog { absT := [], opq := [], hv := [], keep := [], link := [], ent := [], turn := [], shr := [], vt := [], mkd := [], rlink := [], pty := [] } Try.f102 [(.a (.ptr (.v 0) 0))] [((.b (.v 0)), (.cells [(.sl (.v 1) (.v 2) (.v 3)), (.bool (.v 5))] 183)), ((.a 1), (.prop 4))] 6 = t_rEnd := by kernel_rfl
end Go.Proofs.Ytmibmjehjagmbaa.RX
