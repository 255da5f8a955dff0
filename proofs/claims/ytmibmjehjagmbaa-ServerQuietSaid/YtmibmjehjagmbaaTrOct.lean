/- Trees of functions, printed by rx.lean. No condition. -/
import Derived.Test.YtmibmjehjagmbaaSndL
import Derived.KernelRfl
namespace Go.Proofs.Ytmibmjehjagmbaa.RX
set_option maxRecDepth 100000
-- slices.Clone[[]byte,byte]: ρ := [.a sa, .n sl, .n sc, .p sP]
def t_clone8 : T :=
(.br (.o1 .not (.o1 .isSome (.v 0)))
 (.ret (.w (.a (.sl .nil (.n 0) (.n 0)))) [((.a 0), (.prop 3))])
 (.new
 (.op (.call ⟨.builtin .append, #[(.tmp 5), (.tmp 6)], #[30, 30]⟩) 30 [(5, (.w (.a (.sl (.b (.v 4) 0) (.n 0) (.n 0))))), (6, (.w (.a (.sl (.v 0) (.v 1) (.v 2)))))] [((.b (.v 4)), (.cells [] 5)), ((.a 0), (.prop 3))] [.a, .n, .n, .p] (.w (.a (.sl (.v 5) (.v 6) (.v 7)))) [((.a 5), (.prop 8)), ((.a 0), (.prop 3))]
 (.ret (.w (.a (.sl (.v 5) (.v 6) (.v 7)))) [((.a 0), (.prop 3)), ((.a 5), (.prop 8))]))))
theorem tree_clone8 : tree Try.prog { absT := [], opq := [], hv := [], keep := [], link := [], ent := [], turn := [], shr := [], vt := [], mkd := [], rlink := [], pty := [] } Try.f72 [(.a (.sl (.v 0) (.v 1) (.v 2)))] [((.a 0), (.prop 3))] 4 = t_clone8 := by kernel_rfl
-- (*tideline/octet.Writer).Byte: ρ := [.n w, .a w_outa, .n w_outl, .n w_outc, .p w_outP, .i b]
def t_wByte : T :=
(.new
(.op (.call ⟨.builtin .append, #[(.tmp 8), (.tmp 10)], #[30, 30]⟩) 30 [(8, (.w (.a (.sl (.v 1) (.v 2) (.v 3))))), (10, (.w (.a (.sl (.b (.v 6) 0) (.n 1) (.n 1)))))] [((.a 1), (.prop 4)), ((.b (.v 6)), (.cells [(.int .u8 (.v 5))] 5))] [.a, .n, .n, .p] (.w (.a (.sl (.v 7) (.v 8) (.v 9)))) [((.a 7), (.prop 10)), ((.b (.v 6)), (.cells [(.int .u8 (.v 5))] 5))]
(.ret (.tup []) [((.b (.v 0)), (.cells [(.sl (.v 7) (.v 8) (.v 9))] 175)), ((.a 7), (.prop 10))])))
theorem tree_wByte : tree Try.prog { absT := [], opq := [], hv := [], keep := [], link := [], ent := [], turn := [], shr := [], vt := [], mkd := [], rlink := [], pty := [] } Try.f114 [(.a (.ptr (.v 0) 0)), (.a (.int .u8 (.v 5)))] [((.b (.v 0)), (.cells [(.sl (.v 1) (.v 2) (.v 3))] 175)), ((.a 1), (.prop 4))] 6 = t_wByte := by kernel_rfl
-- tideline/octet.width: ρ := [.i n]
def t_width : T :=
(.ret (.w (.a (.int .i64 (.o2 .mn (.o2 .mx (.v 0) (.i 0)) (.i 8))))) [])
theorem tree_width : tree Try.prog { absT := [], opq := [], hv := [], keep := [], link := [], ent := [], turn := [], shr := [], vt := [], mkd := [], rlink := [], pty := [] } Try.f134 [(.a (.int .i64 (.v 0)))] [] 1 = t_width := by kernel_rfl
-- (*tideline/octet.Writer).Number: ρ := [.n w, .p wP, .i v, .i n]
def t_wNumber : T :=
(.call 134 [(.a (.int .i64 (.v 3)))] [] [.i] (.w (.a (.int .i64 (.v 4)))) []
(.loop [.i, .p] [(.e (.o1 .neg (.o1 .neg (.i 0)))), (.p [((.b (.v 0)), (.prop 1))])]
 (.br (.o2 .lt (.v 5) (.v 4))
  (.need (.o1 (.inr .i64) (.o2 .sub (.v 4) (.i 1)))
  (.need (.o1 (.inr .i64) (.o2 .sub (.o2 .sub (.v 4) (.i 1)) (.v 5)))
  (.need (.o1 (.inr .i64) (.o2 .mul (.i 8) (.o2 .sub (.o2 .sub (.v 4) (.i 1)) (.v 5))))
  (.need (.o2 .le (.i 0) (.o2 .mul (.i 8) (.o2 .sub (.o2 .sub (.v 4) (.i 1)) (.v 5))))
  (.call 114 [(.a (.ptr (.v 0) 0)), (.a (.int .u8 (.o1 (.wrap .u8) (.o2 (.shr .u64) (.v 2) (.o2 .mul (.i 8) (.o2 .sub (.o2 .sub (.v 4) (.i 1)) (.v 5)))))))] [((.b (.v 0)), (.prop 6))] [.p] (.tup []) [((.b (.v 0)), (.prop 7))]
  (.need (.o1 (.inr .i64) (.o2 .add (.v 5) (.i 1)))
  (.again 0 [(.e (.o1 .neg (.o1 .neg (.o2 .add (.v 5) (.i 1))))), (.p [((.b (.v 0)), (.prop 7))])])))))))
  (.ret (.tup []) [((.b (.v 0)), (.prop 6))]))))
theorem tree_wNumber : tree Try.prog { absT := [], opq := [], hv := [(0, [(.b (.v 0))])], keep := [], link := [], ent := [], turn := [], shr := [], vt := [], mkd := [], rlink := [], pty := [] } Try.f115 [(.a (.ptr (.v 0) 0)), (.a (.int .u64 (.v 2))), (.a (.int .i64 (.v 3)))] [((.b (.v 0)), (.prop 1))] 4 = t_wNumber := by kernel_rfl
-- (*tideline/octet.Writer).Bytes: ρ := [.n w, .a w_outa, .n w_outl, .n w_outc, .p w_outP, .a ba, .n bl, .n bc, .p bP]
def t_wBytes : T :=
(.call 115 [(.a (.ptr (.v 0) 0)), (.a (.int .u64 (.o1 (.wrap .u64) (.o1 .ofNat (.v 6))))), (.a (.int .i64 (.i 4)))] [((.b (.v 0)), (.cells [(.sl (.v 1) (.v 2) (.v 3))] 175)), ((.a 1), (.prop 4))] [.a, .n, .n, .p] (.tup []) [((.b (.v 0)), (.cells [(.sl (.v 9) (.v 10) (.v 11))] 175)), ((.a 9), (.prop 12))]
(.op (.call ⟨.builtin .append, #[(.tmp 13), (.tmp 14)], #[30, 30]⟩) 30 [(13, (.w (.a (.sl (.v 9) (.v 10) (.v 11))))), (14, (.w (.a (.sl (.v 5) (.v 6) (.v 7)))))] [((.a 9), (.prop 12)), ((.a 5), (.prop 8))] [.a, .n, .n, .p] (.w (.a (.sl (.v 13) (.v 14) (.v 15)))) [((.a 13), (.prop 16)), ((.a 5), (.prop 8))]
(.ret (.tup []) [((.b (.v 0)), (.cells [(.sl (.v 13) (.v 14) (.v 15))] 175)), ((.a 13), (.prop 16)), ((.a 5), (.prop 8))])))
theorem tree_wBytes : tree Try.prog { absT := [], opq := [], hv := [], keep := [], link := [], ent := [], turn := [], shr := [], vt := [], mkd := [], rlink := [], pty := [] } Try.f82 [(.a (.ptr (.v 0) 0)), (.a (.sl (.v 5) (.v 6) (.v 7)))] [((.b (.v 0)), (.cells [(.sl (.v 1) (.v 2) (.v 3))] 175)), ((.a 1), (.prop 4)), ((.a 5), (.prop 8))] 9 = t_wBytes := by kernel_rfl
-- (*tideline/octet.Writer).Out: ρ := [.n w, .a w_outa, .n w_outl, .n w_outc, .p w_outP]
def t_wOut : T :=
(.call 72 [(.a (.sl (.v 1) (.v 2) (.v 3)))] [((.a 1), (.prop 4))] [.a, .n, .n, .p, .p] (.w (.a (.sl (.v 5) (.v 6) (.v 7)))) [((.a 5), (.prop 8)), ((.a 1), (.prop 9))]
(.ret (.w (.a (.sl (.v 5) (.v 6) (.v 7)))) [((.b (.v 0)), (.cells [(.sl (.v 1) (.v 2) (.v 3))] 175)), ((.a 1), (.prop 9)), ((.a 5), (.prop 8))]))
theorem tree_wOut : tree Try.prog { absT := [], opq := [], hv := [], keep := [], link := [], ent := [], turn := [], shr := [], vt := [], mkd := [], rlink := [], pty := [] } Try.f77 [(.a (.ptr (.v 0) 0))] [((.b (.v 0)), (.cells [(.sl (.v 1) (.v 2) (.v 3))] 175)), ((.a 1), (.prop 4))] 5 = t_wOut := by kernel_rfl
end Go.Proofs.Ytmibmjehjagmbaa.RX
