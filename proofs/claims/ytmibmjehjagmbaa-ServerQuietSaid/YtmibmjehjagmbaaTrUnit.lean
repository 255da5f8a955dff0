/- Trees of functions, printed by rx.lean. No condition. -/
import Derived.Test.YtmibmjehjagmbaaSndL
import Derived.KernelRfl
namespace Go.Proofs.Ytmibmjehjagmbaa.RX
set_option maxRecDepth 100000
-- tideline/unit.number: ρ := [.i n]
def t_number : T :=
(.br (.o2 .le (.i 0) (.v 0))
 (.ret (.w (.a (.bool (.o2 .le (.v 0) (.i 2147483647))))) [])
 (.ret (.w (.a (.bool (.c false)))) []))
theorem tree_number : tree Try.prog { absT := [175, 183], opq := [], hv := [], keep := [103, 104, 73, 74, 95, 70, 71, 20, 38, 40, 106], link := [], ent := [], turn := [(105, [0])], shr := [], vt := [], mkd := [], rlink := [], pty := [] } Try.f104 [(.a (.int .i64 (.v 0)))] [] 1 = t_number := by kernel_rfl
-- tideline/unit.proposal: ρ := [.i n, .i b_Round, .i b_Who]
def t_proposal : T :=
(.new
(.br (.o2 .le (.i 1) (.v 0))
 (.br (.o2 .le (.v 0) (.i 2147483647))
  (.call 104 [(.a (.int .i64 (.v 1)))] [] [.c] (.w (.a (.bool (.v 4)))) []
  (.br (.v 4)
   (.call 104 [(.a (.int .i64 (.v 2)))] [] [.c] (.w (.a (.bool (.v 5)))) []
   (.ret (.w (.a (.bool (.v 5)))) []))
   (.ret (.w (.a (.bool (.c false)))) [])))
  (.ret (.w (.a (.bool (.c false)))) []))
 (.ret (.w (.a (.bool (.c false)))) [])))
theorem tree_proposal : tree Try.prog { absT := [175, 183], opq := [], hv := [], keep := [103, 104, 73, 74, 95, 70, 71, 20, 38, 40, 106], link := [], ent := [], turn := [(105, [0])], shr := [], vt := [], mkd := [], rlink := [], pty := [] } Try.f73 [(.a (.int .i64 (.v 0))), (.agg [(.int .i64 (.v 1)), (.int .i64 (.v 2))])] [] 3 = t_proposal := by kernel_rfl
-- tideline/unit.less: ρ := [.i b_Round, .i b_Who, .i other_Round, .i other_Who]
def t_less : T :=
(.new
(.new
(.br (.o2 .lt (.v 0) (.v 2))
 (.ret (.w (.a (.bool (.c true)))) [])
 (.br (.o2 .eq (.v 0) (.v 2))
  (.ret (.w (.a (.bool (.o2 .lt (.v 1) (.v 3))))) [])
  (.ret (.w (.a (.bool (.c false)))) [])))))
theorem tree_less : tree Try.prog { absT := [175, 183], opq := [], hv := [], keep := [103, 104, 73, 74, 95, 70, 71, 20, 38, 40, 106], link := [], ent := [], turn := [(105, [0])], shr := [], vt := [], mkd := [], rlink := [], pty := [] } Try.f74 [(.agg [(.int .i64 (.v 0)), (.int .i64 (.v 1))]), (.agg [(.int .i64 (.v 2)), (.int .i64 (.v 3))])] [] 4 = t_less := by kernel_rfl
-- tideline/unit.address: ρ := [.i at]
def t_address : T :=
(.br (.o2 .le (.i 0) (.v 0))
 (.ret (.w (.a (.bool (.o2 .le (.v 0) (.i 4294967296))))) [])
 (.ret (.w (.a (.bool (.c false)))) []))
theorem tree_address : tree Try.prog { absT := [175, 183], opq := [], hv := [], keep := [103, 104, 73, 74, 95, 70, 71, 20, 38, 40, 106], link := [], ent := [], turn := [(105, [0])], shr := [], vt := [], mkd := [], rlink := [], pty := [] } Try.f103 [(.a (.int .i64 (.v 0)))] [] 1 = t_address := by kernel_rfl
-- tideline/unit.standing: ρ := [.i x_What, .a x_Dataa, .n x_Datal, .n x_Datac, .p x_DataP]
def t_standing : T :=
(.new
(.br (.o2 .eq (.v 0) (.i 1))
 (.ret (.w (.a (.bool (.o2 .le (.o1 .ofNat (.v 2)) (.i 65536))))) [((.a 1), (.prop 4))])
 (.br (.o2 .eq (.v 0) (.i 2))
  (.ret (.w (.a (.bool (.o2 .eq (.o1 .ofNat (.v 2)) (.i 0))))) [((.a 1), (.prop 4))])
  (.ret (.w (.a (.bool (.c false)))) [((.a 1), (.prop 4))]))))
theorem tree_standing : tree Try.prog { absT := [175, 183], opq := [], hv := [], keep := [103, 104, 73, 74, 95, 70, 71, 20, 38, 40, 106], link := [], ent := [], turn := [(105, [0])], shr := [], vt := [], mkd := [], rlink := [], pty := [] } Try.f95 [(.agg [(.int .i64 (.v 0)), (.sl (.v 1) (.v 2) (.v 3))])] [((.a 1), (.prop 4))] 5 = t_standing := by kernel_rfl
-- tideline/unit.page: ρ := [.i kind, .a numbersa, .n numbersl, .n numbersc, .p numbersP]
def t_page : T :=
(.new
(.call 114 [(.a (.ptr (.v 5) 0)), (.a (.int .u8 (.v 0)))] [((.b (.v 5)), (.cells [(.sl .nil (.n 0) (.n 0))] 175))] [.p] (.tup []) [((.b (.v 5)), (.prop 6))]
(.loop [.i, .p] [(.e (.o1 .neg (.o1 .neg (.i 0)))), (.p [((.b (.v 5)), (.prop 6))])]
 (.br (.o2 .lt (.v 7) (.o1 .ofNat (.v 2)))
  (.need (.o2 .le (.i 0) (.v 7))
  (.need (.o1 .isSome (.v 1))
  (.read (.load 3 (.tmp 17)) 3 [(17, (.w (.a (.eptr 1 (.v 7) 1 0))))] [((.a 1), (.prop 4))] [.i] (.w (.a (.int .i64 (.v 9))))
  (.call 115 [(.a (.ptr (.v 5) 0)), (.a (.int .u64 (.o1 (.wrap .u64) (.v 9)))), (.a (.int .i64 (.i 8)))] [((.b (.v 5)), (.prop 8))] [.p] (.tup []) [((.b (.v 5)), (.prop 10))]
  (.need (.o1 (.inr .i64) (.o2 .add (.v 7) (.i 1)))
  (.again 0 [(.e (.o1 .neg (.o1 .neg (.o2 .add (.v 7) (.i 1))))), (.p [((.b (.v 5)), (.prop 10))])]))))))
  (.ret (.w (.a (.ptr (.v 5) 0))) [((.a 1), (.prop 4)), ((.b (.v 5)), (.prop 8))])))))
theorem tree_page : tree Try.prog { absT := [175, 183], opq := [], hv := [(0, [(.b (.v 5))])], keep := [103, 104, 73, 74, 95, 70, 71, 20, 38, 40, 106], link := [], ent := [], turn := [(105, [0])], shr := [], vt := [], mkd := [], rlink := [], pty := [] } Try.f76 [(.a (.int .u8 (.v 0))), (.a (.sl (.v 1) (.v 2) (.v 3)))] [((.a 1), (.prop 4))] 5 = t_page := by kernel_rfl
-- tideline/unit.cellPage: ρ := [.i at, .i x_What, .a x_Dataa, .n x_Datal, .n x_Datac, .p x_DataP]
def t_cellPage : T :=
(.new
(.br (.o2 .eq (.v 1) (.i 2))
 (.new
 (.call 76 [(.a (.int .u8 (.i 2))), (.a (.sl (.b (.v 7) 0) (.n 1) (.n 1)))] [((.b (.v 7)), (.cells [(.int .i64 (.v 0))] 3))] [.n, .p, .i] (.w (.a (.ptr (.v 8) 0))) [((.b (.v 8)), (.prop 9)), ((.b (.v 7)), (.cells [(.int .i64 (.v 10))] 3))]
 (.call 77 [(.a (.ptr (.v 8) 0))] [((.b (.v 8)), (.prop 9))] [.a, .n, .n, .p, .p] (.w (.a (.sl (.v 11) (.v 12) (.v 13)))) [((.a 11), (.prop 14)), ((.b (.v 8)), (.prop 15))]
 (.ret (.w (.a (.sl (.v 11) (.v 12) (.v 13)))) [((.a 2), (.prop 5)), ((.a 11), (.prop 14))]))))
 (.new
 (.call 76 [(.a (.int .u8 (.i 1))), (.a (.sl (.b (.v 7) 0) (.n 1) (.n 1)))] [((.b (.v 7)), (.cells [(.int .i64 (.v 0))] 3))] [.n, .p, .i] (.w (.a (.ptr (.v 8) 0))) [((.b (.v 8)), (.prop 9)), ((.b (.v 7)), (.cells [(.int .i64 (.v 10))] 3))]
 (.call 82 [(.a (.ptr (.v 8) 0)), (.a (.sl (.v 2) (.v 3) (.v 4)))] [((.b (.v 8)), (.prop 9)), ((.a 2), (.prop 5))] [.p, .p] (.tup []) [((.b (.v 8)), (.prop 11)), ((.a 2), (.prop 12))]
 (.call 77 [(.a (.ptr (.v 8) 0))] [((.b (.v 8)), (.prop 11))] [.a, .n, .n, .p, .p] (.w (.a (.sl (.v 13) (.v 14) (.v 15)))) [((.a 13), (.prop 16)), ((.b (.v 8)), (.prop 17))]
 (.ret (.w (.a (.sl (.v 13) (.v 14) (.v 15)))) [((.a 2), (.prop 12)), ((.a 13), (.prop 16))])))))))
theorem tree_cellPage : tree Try.prog { absT := [175, 183], opq := [], hv := [], keep := [103, 104, 73, 74, 95, 70, 71, 20, 38, 40, 106], link := [], ent := [], turn := [(105, [0])], shr := [], vt := [], mkd := [], rlink := [], pty := [] } Try.f96 [(.a (.int .i64 (.v 0))), (.agg [(.int .i64 (.v 1)), (.sl (.v 2) (.v 3) (.v 4))])] [((.a 2), (.prop 5))] 6 = t_cellPage := by kernel_rfl
-- (*tideline/unit.Unit).Epoch: ρ := [.n u, .n u_d, .p u_dP, .i u_epoch, .i u_low, .i u_top, .n u_cells, .p u_cellsP, .n u_instances, .p u_instancesP]
def t_uEpoch : T :=
(.ret (.w (.a (.int .i64 (.v 3)))) [((.b (.v 0)), (.cells [(.ptr (.v 1) 0), (.int .i64 (.v 3)), (.int .i64 (.v 4)), (.int .i64 (.v 5)), (.map (.v 6)), (.map (.v 8))] 113)), ((.b (.v 1)), (.prop 2)), ((.b (.v 6)), (.prop 7)), ((.b (.v 8)), (.prop 9))])
theorem tree_uEpoch : tree Try.prog { absT := [175, 183], opq := [], hv := [], keep := [103, 104, 73, 74, 95, 70, 71, 20, 38, 40, 106], link := [], ent := [], turn := [(105, [0])], shr := [], vt := [], mkd := [], rlink := [], pty := [] } Try.f20 [(.a (.ptr (.v 0) 0))] [((.b (.v 0)), (.cells [(.ptr (.v 1) 0), (.int .i64 (.v 3)), (.int .i64 (.v 4)), (.int .i64 (.v 5)), (.map (.v 6)), (.map (.v 8))] 113)), ((.b (.v 1)), (.prop 2)), ((.b (.v 6)), (.prop 7)), ((.b (.v 8)), (.prop 9))] 10 = t_uEpoch := by kernel_rfl
-- (*tideline/unit.Unit).Low: ρ := [.n u, .n u_d, .p u_dP, .i u_epoch, .i u_low, .i u_top, .n u_cells, .p u_cellsP, .n u_instances, .p u_instancesP]
def t_uLow : T :=
(.ret (.w (.a (.int .i64 (.v 4)))) [((.b (.v 0)), (.cells [(.ptr (.v 1) 0), (.int .i64 (.v 3)), (.int .i64 (.v 4)), (.int .i64 (.v 5)), (.map (.v 6)), (.map (.v 8))] 113)), ((.b (.v 1)), (.prop 2)), ((.b (.v 6)), (.prop 7)), ((.b (.v 8)), (.prop 9))])
theorem tree_uLow : tree Try.prog { absT := [175, 183], opq := [], hv := [], keep := [103, 104, 73, 74, 95, 70, 71, 20, 38, 40, 106], link := [], ent := [], turn := [(105, [0])], shr := [], vt := [], mkd := [], rlink := [], pty := [] } Try.f38 [(.a (.ptr (.v 0) 0))] [((.b (.v 0)), (.cells [(.ptr (.v 1) 0), (.int .i64 (.v 3)), (.int .i64 (.v 4)), (.int .i64 (.v 5)), (.map (.v 6)), (.map (.v 8))] 113)), ((.b (.v 1)), (.prop 2)), ((.b (.v 6)), (.prop 7)), ((.b (.v 8)), (.prop 9))] 10 = t_uLow := by kernel_rfl
-- (*tideline/unit.Unit).Tail: ρ := [.n u, .n u_d, .p u_dP, .i u_epoch, .i u_low, .i u_top, .n u_cells, .p u_cellsP, .n u_instances, .p u_instancesP]
def t_uTail : T :=
(.ret (.w (.a (.int .i64 (.o2 .mx (.v 5) (.v 4))))) [((.b (.v 0)), (.cells [(.ptr (.v 1) 0), (.int .i64 (.v 3)), (.int .i64 (.v 4)), (.int .i64 (.v 5)), (.map (.v 6)), (.map (.v 8))] 113)), ((.b (.v 1)), (.prop 2)), ((.b (.v 6)), (.prop 7)), ((.b (.v 8)), (.prop 9))])
theorem tree_uTail : tree Try.prog { absT := [175, 183], opq := [], hv := [], keep := [103, 104, 73, 74, 95, 70, 71, 20, 38, 40, 106], link := [], ent := [], turn := [(105, [0])], shr := [], vt := [], mkd := [], rlink := [], pty := [] } Try.f40 [(.a (.ptr (.v 0) 0))] [((.b (.v 0)), (.cells [(.ptr (.v 1) 0), (.int .i64 (.v 3)), (.int .i64 (.v 4)), (.int .i64 (.v 5)), (.map (.v 6)), (.map (.v 8))] 113)), ((.b (.v 1)), (.prop 2)), ((.b (.v 6)), (.prop 7)), ((.b (.v 8)), (.prop 9))] 10 = t_uTail := by kernel_rfl
-- (*tideline/unit.Unit).reach: ρ := [.n u, .n u_d, .p u_dP, .i u_epoch, .i u_low, .i u_top, .n u_cells, .p u_cellsP, .n u_instances, .p u_instancesP, .i epoch, .i at]
def t_uReach : T :=
(.br (.o1 .not (.o2 .eq (.v 10) (.v 3)))
 (.ret (.w (.a (.int .i64 (.i 8)))) [((.b (.v 0)), (.cells [(.ptr (.v 1) 0), (.int .i64 (.v 3)), (.int .i64 (.v 4)), (.int .i64 (.v 5)), (.map (.v 6)), (.map (.v 8))] 113)), ((.b (.v 1)), (.prop 2)), ((.b (.v 6)), (.prop 7)), ((.b (.v 8)), (.prop 9))])
 (.call 103 [(.a (.int .i64 (.v 11)))] [] [.c] (.w (.a (.bool (.v 12)))) []
 (.br (.o1 .not (.v 12))
  (.ret (.w (.a (.int .i64 (.i 2)))) [((.b (.v 0)), (.cells [(.ptr (.v 1) 0), (.int .i64 (.v 3)), (.int .i64 (.v 4)), (.int .i64 (.v 5)), (.map (.v 6)), (.map (.v 8))] 113)), ((.b (.v 1)), (.prop 2)), ((.b (.v 6)), (.prop 7)), ((.b (.v 8)), (.prop 9))])
  (.ret (.w (.a (.int .i64 (.i 0)))) [((.b (.v 0)), (.cells [(.ptr (.v 1) 0), (.int .i64 (.v 3)), (.int .i64 (.v 4)), (.int .i64 (.v 5)), (.map (.v 6)), (.map (.v 8))] 113)), ((.b (.v 1)), (.prop 2)), ((.b (.v 6)), (.prop 7)), ((.b (.v 8)), (.prop 9))]))))
theorem tree_uReach : tree Try.prog { absT := [175, 183], opq := [], hv := [], keep := [103, 104, 73, 74, 95, 70, 71, 20, 38, 40, 106], link := [], ent := [], turn := [(105, [0])], shr := [], vt := [], mkd := [], rlink := [], pty := [] } Try.f70 [(.a (.ptr (.v 0) 0)), (.a (.int .i64 (.v 10))), (.a (.int .i64 (.v 11)))] [((.b (.v 0)), (.cells [(.ptr (.v 1) 0), (.int .i64 (.v 3)), (.int .i64 (.v 4)), (.int .i64 (.v 5)), (.map (.v 6)), (.map (.v 8))] 113)), ((.b (.v 1)), (.prop 2)), ((.b (.v 6)), (.prop 7)), ((.b (.v 8)), (.prop 9))] 12 = t_uReach := by kernel_rfl
-- (*tideline/unit.Unit).last: ρ := [.n u, .n u_d, .p u_dP, .i u_epoch, .i u_low, .i u_top, .n u_cells, .p u_cellsP, .n u_instances, .p u_instancesP, .a ba, .n bl, .n bc, .p bP]
def t_uLast : T :=
(.call 35 [(.a (.ptr (.v 1) 0)), (.a (.sl (.v 10) (.v 11) (.v 12)))] [((.b (.v 1)), (.prop 2)), ((.a 10), (.prop 13))] [.i, .p, .p] (.w (.a (.int .i64 (.v 14)))) [((.b (.v 1)), (.prop 15)), ((.a 10), (.prop 16))]
(.br (.o1 .not (.o2 .eq (.v 14) (.i 0)))
 (.ret (.w (.a (.int .i64 (.v 14)))) [((.b (.v 0)), (.cells [(.ptr (.v 1) 0), (.int .i64 (.v 3)), (.int .i64 (.v 4)), (.int .i64 (.v 5)), (.map (.v 6)), (.map (.v 8))] 113)), ((.b (.v 1)), (.prop 15)), ((.b (.v 6)), (.prop 7)), ((.b (.v 8)), (.prop 9)), ((.a 10), (.prop 16))])
 (.call 58 [(.a (.ptr (.v 1) 0))] [((.b (.v 1)), (.prop 15))] [.p] (.tup []) [((.b (.v 1)), (.prop 17))]
 (.ret (.w (.a (.int .i64 (.i 0)))) [((.b (.v 0)), (.cells [(.ptr (.v 1) 0), (.int .i64 (.v 3)), (.int .i64 (.v 4)), (.int .i64 (.v 5)), (.map (.v 6)), (.map (.v 8))] 113)), ((.b (.v 1)), (.prop 17)), ((.b (.v 6)), (.prop 7)), ((.b (.v 8)), (.prop 9)), ((.a 10), (.prop 16))]))))
theorem tree_uLast : tree Try.prog { absT := [175, 183], opq := [], hv := [], keep := [103, 104, 73, 74, 95, 70, 71, 20, 38, 40, 106], link := [], ent := [], turn := [(105, [0])], shr := [], vt := [], mkd := [], rlink := [], pty := [] } Try.f75 [(.a (.ptr (.v 0) 0)), (.a (.sl (.v 10) (.v 11) (.v 12)))] [((.b (.v 0)), (.cells [(.ptr (.v 1) 0), (.int .i64 (.v 3)), (.int .i64 (.v 4)), (.int .i64 (.v 5)), (.map (.v 6)), (.map (.v 8))] 113)), ((.b (.v 1)), (.prop 2)), ((.b (.v 6)), (.prop 7)), ((.b (.v 8)), (.prop 9)), ((.a 10), (.prop 13))] 14 = t_uLast := by kernel_rfl
-- (*tideline/unit.Unit).put: ρ := [.n u, .n u_d, .p u_dP, .i u_epoch, .i u_low, .i u_top, .n u_cells, .p u_cellsP, .n u_instances, .p u_instancesP, .i at, .i x_What, .a x_Dataa, .n x_Datal, .n x_Datac, .p x_DataP]
def t_uPut : T :=
(.new
(.call 72 [(.a (.sl (.v 12) (.v 13) (.v 14)))] [((.a 12), (.prop 15))] [.a, .n, .n, .p, .p] (.w (.a (.sl (.v 17) (.v 18) (.v 19)))) [((.a 17), (.prop 20)), ((.a 12), (.prop 21))]
(.op (.mapUpdate 88 (.tmp 9) (.tmp 10) (.tmp 16)) 0 [(9, (.w (.a (.map (.v 6))))), (10, (.w (.a (.int .i64 (.v 10))))), (16, (.w (.agg [(.int .i64 (.v 11)), (.sl (.v 17) (.v 18) (.v 19))])))] [((.b (.v 6)), (.prop 7)), ((.a 17), (.prop 20))] [.p] (.tup []) [((.b (.v 6)), (.prop 22)), ((.a 17), (.prop 20))]
(.need (.o1 (.inr .i64) (.o2 .add (.v 10) (.i 1)))
(.ret (.tup []) [((.b (.v 0)), (.cells [(.ptr (.v 1) 0), (.int .i64 (.v 3)), (.int .i64 (.v 4)), (.int .i64 (.o2 .mx (.v 5) (.o2 .add (.v 10) (.i 1)))), (.map (.v 6)), (.map (.v 8))] 113)), ((.b (.v 1)), (.prop 2)), ((.b (.v 6)), (.prop 22)), ((.b (.v 8)), (.prop 9)), ((.a 12), (.prop 21))])))))
theorem tree_uPut : tree Try.prog { absT := [175, 183], opq := [], hv := [], keep := [103, 104, 73, 74, 95, 70, 71, 20, 38, 40, 106], link := [], ent := [], turn := [(105, [0])], shr := [], vt := [], mkd := [], rlink := [], pty := [] } Try.f97 [(.a (.ptr (.v 0) 0)), (.a (.int .i64 (.v 10))), (.agg [(.int .i64 (.v 11)), (.sl (.v 12) (.v 13) (.v 14))])] [((.b (.v 0)), (.cells [(.ptr (.v 1) 0), (.int .i64 (.v 3)), (.int .i64 (.v 4)), (.int .i64 (.v 5)), (.map (.v 6)), (.map (.v 8))] 113)), ((.b (.v 1)), (.prop 2)), ((.b (.v 6)), (.prop 7)), ((.b (.v 8)), (.prop 9)), ((.a 12), (.prop 15))] 16 = t_uPut := by kernel_rfl
-- (*tideline/unit.Unit).cell: ρ := [.n u, .n u_d, .p u_dP, .i u_epoch, .i u_low, .i u_top, .n u_cells, .p u_cellsP, .n u_instances, .p u_instancesP, .i at]
def t_uCell : T :=
(.new
(.read (.lookup 88 (.tmp 12) (.tmp 13) true) 98 [(12, (.w (.a (.map (.v 6))))), (13, (.w (.a (.int .i64 (.v 10)))))] [((.b (.v 6)), (.prop 7))] [.i, .a, .n, .n, .c] (.tup [(.agg [(.int .i64 (.v 12)), (.sl (.v 13) (.v 14) (.v 15))]), (.a (.bool (.v 16)))])
(.new
(.call 72 [(.a (.sl (.v 13) (.v 14) (.v 15)))] [((.b (.v 6)), (.prop 7))] [.a, .n, .n, .p, .p] (.w (.a (.sl (.v 18) (.v 19) (.v 20)))) [((.a 18), (.prop 21)), ((.b (.v 6)), (.prop 22))]
(.ret (.tup [(.agg [(.int .i64 (.v 12)), (.sl (.v 18) (.v 19) (.v 20))]), (.a (.bool (.v 16)))]) [((.b (.v 0)), (.cells [(.ptr (.v 1) 0), (.int .i64 (.v 3)), (.int .i64 (.v 4)), (.int .i64 (.v 5)), (.map (.v 6)), (.map (.v 8))] 113)), ((.b (.v 1)), (.prop 2)), ((.b (.v 6)), (.prop 22)), ((.b (.v 8)), (.prop 9)), ((.a 18), (.prop 21))])))))
theorem tree_uCell : tree Try.prog { absT := [175, 183], opq := [], hv := [], keep := [103, 104, 73, 74, 95, 70, 71, 20, 38, 40, 106], link := [], ent := [], turn := [(105, [0])], shr := [], vt := [], mkd := [], rlink := [], pty := [] } Try.f71 [(.a (.ptr (.v 0) 0)), (.a (.int .i64 (.v 10)))] [((.b (.v 0)), (.cells [(.ptr (.v 1) 0), (.int .i64 (.v 3)), (.int .i64 (.v 4)), (.int .i64 (.v 5)), (.map (.v 6)), (.map (.v 8))] 113)), ((.b (.v 1)), (.prop 2)), ((.b (.v 6)), (.prop 7)), ((.b (.v 8)), (.prop 9))] 11 = t_uCell := by kernel_rfl
-- (*tideline/unit.Unit).promise: ρ := [.n u, .n u_d, .p u_dP, .i u_epoch, .i u_low, .i u_top, .n u_cells, .p u_cellsP, .n u_instances, .p u_instancesP, .i n, .i b_Round, .i b_Who]
def t_uProm : T :=
(.new
(.read (.lookup 111 (.tmp 10) (.tmp 11) false) 133 [(10, (.w (.a (.map (.v 8))))), (11, (.w (.a (.int .i64 (.v 10)))))] [((.b (.v 8)), (.prop 9))] [.i, .i, .i, .i, .a, .n, .n] (.w (.agg [(.int .i64 (.v 14)), (.int .i64 (.v 15)), (.int .i64 (.v 16)), (.int .i64 (.v 17)), (.sl (.v 18) (.v 19) (.v 20))]))
(.new
(.op (.mapUpdate 111 (.tmp 18) (.tmp 19) (.tmp 20)) 0 [(18, (.w (.a (.map (.v 8))))), (19, (.w (.a (.int .i64 (.v 10))))), (20, (.w (.agg [(.int .i64 (.v 11)), (.int .i64 (.v 12)), (.int .i64 (.v 16)), (.int .i64 (.v 17)), (.sl (.v 18) (.v 19) (.v 20))])))] [((.b (.v 8)), (.prop 9))] [.p] (.tup []) [((.b (.v 8)), (.prop 22))]
(.ret (.tup []) [((.b (.v 0)), (.cells [(.ptr (.v 1) 0), (.int .i64 (.v 3)), (.int .i64 (.v 4)), (.int .i64 (.v 5)), (.map (.v 6)), (.map (.v 8))] 113)), ((.b (.v 1)), (.prop 2)), ((.b (.v 6)), (.prop 7)), ((.b (.v 8)), (.prop 22))])))))
theorem tree_uProm : tree Try.prog { absT := [175, 183], opq := [], hv := [], keep := [103, 104, 73, 74, 95, 70, 71, 20, 38, 40, 106], link := [], ent := [], turn := [(105, [0])], shr := [], vt := [], mkd := [], rlink := [], pty := [] } Try.f78 [(.a (.ptr (.v 0) 0)), (.a (.int .i64 (.v 10))), (.agg [(.int .i64 (.v 11)), (.int .i64 (.v 12))])] [((.b (.v 0)), (.cells [(.ptr (.v 1) 0), (.int .i64 (.v 3)), (.int .i64 (.v 4)), (.int .i64 (.v 5)), (.map (.v 6)), (.map (.v 8))] 113)), ((.b (.v 1)), (.prop 2)), ((.b (.v 6)), (.prop 7)), ((.b (.v 8)), (.prop 9))] 13 = t_uProm := by kernel_rfl
-- (*tideline/unit.Unit).accept: ρ := [.n u, .n u_d, .p u_dP, .i u_epoch, .i u_low, .i u_top, .n u_cells, .p u_cellsP, .n u_instances, .p u_instancesP, .i n, .i b_Round, .i b_Who, .a valuea, .n valuel, .n valuec, .p valueP]
def t_uAcc : T :=
(.new
(.call 72 [(.a (.sl (.v 13) (.v 14) (.v 15)))] [((.a 13), (.prop 16))] [.a, .n, .n, .p, .p] (.w (.a (.sl (.v 18) (.v 19) (.v 20)))) [((.a 18), (.prop 21)), ((.a 13), (.prop 22))]
(.op (.mapUpdate 111 (.tmp 11) (.tmp 12) (.tmp 17)) 0 [(11, (.w (.a (.map (.v 8))))), (12, (.w (.a (.int .i64 (.v 10))))), (17, (.w (.agg [(.int .i64 (.v 11)), (.int .i64 (.v 12)), (.int .i64 (.v 11)), (.int .i64 (.v 12)), (.sl (.v 18) (.v 19) (.v 20))])))] [((.b (.v 8)), (.prop 9)), ((.a 18), (.prop 21))] [.p] (.tup []) [((.b (.v 8)), (.prop 23)), ((.a 18), (.prop 21))]
(.ret (.tup []) [((.b (.v 0)), (.cells [(.ptr (.v 1) 0), (.int .i64 (.v 3)), (.int .i64 (.v 4)), (.int .i64 (.v 5)), (.map (.v 6)), (.map (.v 8))] 113)), ((.b (.v 1)), (.prop 2)), ((.b (.v 6)), (.prop 7)), ((.b (.v 8)), (.prop 23)), ((.a 13), (.prop 22))]))))
theorem tree_uAcc : tree Try.prog { absT := [175, 183], opq := [], hv := [], keep := [103, 104, 73, 74, 95, 70, 71, 20, 38, 40, 106], link := [], ent := [], turn := [(105, [0])], shr := [], vt := [], mkd := [], rlink := [], pty := [] } Try.f83 [(.a (.ptr (.v 0) 0)), (.a (.int .i64 (.v 10))), (.agg [(.int .i64 (.v 11)), (.int .i64 (.v 12))]), (.a (.sl (.v 13) (.v 14) (.v 15)))] [((.b (.v 0)), (.cells [(.ptr (.v 1) 0), (.int .i64 (.v 3)), (.int .i64 (.v 4)), (.int .i64 (.v 5)), (.map (.v 6)), (.map (.v 8))] 113)), ((.b (.v 1)), (.prop 2)), ((.b (.v 6)), (.prop 7)), ((.b (.v 8)), (.prop 9)), ((.a 13), (.prop 16))] 17 = t_uAcc := by kernel_rfl
-- (*tideline/unit.Unit).forget$1: ρ := [.i at, .i __What, .a __Dataa, .n __Datal, .n __Datac, .p __DataP, .n u, .n u, .n u_d, .p u_dP, .i u_epoch, .i u_low, .i u_top, .n u_cells, .p u_cellsP, .n u_instances, .p u_instancesP]
def t_uFor1 : T :=
(.new
(.ret (.w (.a (.bool (.o2 .lt (.v 0) (.v 11))))) [((.a 2), (.prop 5)), ((.b (.v 6)), (.cells [(.ptr (.v 7) 0)] 26)), ((.b (.v 7)), (.cells [(.ptr (.v 8) 0), (.int .i64 (.v 10)), (.int .i64 (.v 11)), (.int .i64 (.v 12)), (.map (.v 13)), (.map (.v 15))] 113)), ((.b (.v 8)), (.prop 9)), ((.b (.v 13)), (.prop 14)), ((.b (.v 15)), (.prop 16))]))
theorem tree_uFor1 : tree Try.prog { absT := [175, 183], opq := [], hv := [], keep := [103, 104, 73, 74, 95, 70, 71, 20, 38, 40, 106], link := [], ent := [], turn := [(105, [0])], shr := [], vt := [], mkd := [], rlink := [], pty := [] } Try.f106 [(.a (.int .i64 (.v 0))), (.agg [(.int .i64 (.v 1)), (.sl (.v 2) (.v 3) (.v 4))]), (.a (.ptr (.v 6) 0))] [((.a 2), (.prop 5)), ((.b (.v 6)), (.cells [(.ptr (.v 7) 0)] 26)), ((.b (.v 7)), (.cells [(.ptr (.v 8) 0), (.int .i64 (.v 10)), (.int .i64 (.v 11)), (.int .i64 (.v 12)), (.map (.v 13)), (.map (.v 15))] 113)), ((.b (.v 8)), (.prop 9)), ((.b (.v 13)), (.prop 14)), ((.b (.v 15)), (.prop 16))] 17 = t_uFor1 := by kernel_rfl
-- maps.DeleteFunc[map[int]tideline/api.Cell,int,tideline/api.Cell]
def t_delF : T :=
(.op (.range 88 (.tmp 6)) 0 [(6, (.w (.a (.map (.v 0)))))] [((.b (.v 0)), (.prop 1))] [.n, .p, .p] (.w (.a (.ptr (.v 11) 0))) [((.b (.v 11)), (.prop 12)), ((.b (.v 0)), (.prop 13))]
(.loop [.p, .p] [(.p [((.b (.v 11)), (.prop 12))]), (.p [((.b (.v 0)), (.prop 13))])]
 (.op (.next (.tmp 7) false) 0 [(7, (.w (.a (.ptr (.v 11) 0))))] [((.b (.v 11)), (.prop 14)), ((.b (.v 0)), (.prop 15))] [.c, .v, .v, .p] (.nx 16 17 18) [((.b (.v 11)), (.prop 19)), ((.b (.v 0)), (.prop 15))]
 (.br (.v 16)
  (.read (.entry (.tmp 7)) 0 [(7, (.w (.a (.ptr (.v 11) 0))))] [((.b (.v 11)), (.prop 19)), ((.b (.v 0)), (.prop 15))] [.i, .i, .a, .n, .n] (.tup [(.a (.int .i64 (.v 20))), (.agg [(.int .i64 (.v 21)), (.sl (.v 22) (.v 23) (.v 24))])])
  (.new
  (.call 106 [(.a (.int .i64 (.v 20))), (.agg [(.int .i64 (.v 21)), (.sl (.v 22) (.v 23) (.v 24))]), (.a (.ptr (.v 2) 0))] [((.b (.v 0)), (.prop 15)), ((.b (.v 2)), (.cells [(.ptr (.v 3) 0)] 26)), ((.b (.v 3)), (.cells [(.ptr (.v 4) 0), (.int .i64 (.v 6)), (.int .i64 (.v 7)), (.int .i64 (.v 8)), (.map (.v 0)), (.map (.v 9))] 113)), ((.b (.v 4)), (.prop 5)), ((.b (.v 9)), (.prop 10))] [.c] (.w (.a (.bool (.v 26)))) [((.b (.v 0)), (.prop 15)), ((.b (.v 2)), (.cells [(.ptr (.v 3) 0)] 26)), ((.b (.v 3)), (.cells [(.ptr (.v 4) 0), (.int .i64 (.v 6)), (.int .i64 (.v 7)), (.int .i64 (.v 8)), (.map (.v 0)), (.map (.v 9))] 113)), ((.b (.v 4)), (.prop 5)), ((.b (.v 9)), (.prop 10))]
  (.br (.v 26)
   (.op (.call ⟨.builtin .delete, #[(.tmp 17), (.tmp 18)], #[88, 3]⟩) 0 [(17, (.w (.a (.map (.v 0))))), (18, (.w (.a (.int .i64 (.v 20)))))] [((.b (.v 0)), (.prop 15))] [.p] (.tup []) [((.b (.v 0)), (.prop 27))]
   (.again 0 [(.p [((.b (.v 11)), (.prop 19))]), (.p [((.b (.v 0)), (.prop 27))])]))
   (.again 0 [(.p [((.b (.v 11)), (.prop 19))]), (.p [((.b (.v 0)), (.prop 15))])])))))
  (.ret (.tup []) [((.b (.v 0)), (.prop 15)), ((.b (.v 2)), (.cells [(.ptr (.v 3) 0)] 26)), ((.b (.v 3)), (.cells [(.ptr (.v 4) 0), (.int .i64 (.v 6)), (.int .i64 (.v 7)), (.int .i64 (.v 8)), (.map (.v 0)), (.map (.v 9))] 113)), ((.b (.v 4)), (.prop 5)), ((.b (.v 9)), (.prop 10))])))))
theorem tree_delF : tree Try.prog { absT := [175, 183], opq := [], hv := [(0, [(.b (.v 11)), (.b (.v 0))])], keep := [103, 104, 73, 74, 95, 70, 71, 20, 38, 40, 106], link := [], ent := [(10, [3, 32])], turn := [(105, [0])], shr := [], vt := [], mkd := [], rlink := [], pty := [] } Try.f105 [(.a (.map (.v 0))), (.a (.func 106 [((.v 2), 0)]))] [((.b (.v 0)), (.prop 1)), ((.b (.v 2)), (.cells [(.ptr (.v 3) 0)] 26)), ((.b (.v 3)), (.cells [(.ptr (.v 4) 0), (.int .i64 (.v 6)), (.int .i64 (.v 7)), (.int .i64 (.v 8)), (.map (.v 0)), (.map (.v 9))] 113)), ((.b (.v 4)), (.prop 5)), ((.b (.v 9)), (.prop 10))] 11 = t_delF := by kernel_rfl
-- (*tideline/unit.Unit).forget: ρ := [.n u, .n u_d, .p u_dP, .i u_epoch, .i u_low, .i u_top, .n u_cells, .p u_cellsP, .n u_instances, .p u_instancesP]
def t_uForget : T :=
(.new
(.call 105 [(.a (.map (.v 6))), (.a (.func 106 [((.v 10), 0)]))] [((.b (.v 6)), (.prop 7)), ((.b (.v 10)), (.cells [(.ptr (.v 0) 0)] 26)), ((.b (.v 0)), (.cells [(.ptr (.v 1) 0), (.int .i64 (.v 3)), (.int .i64 (.v 4)), (.int .i64 (.v 5)), (.map (.v 6)), (.map (.v 8))] 113)), ((.b (.v 1)), (.prop 2)), ((.b (.v 8)), (.prop 9))] [.p] (.tup []) [((.b (.v 6)), (.prop 11)), ((.b (.v 10)), (.cells [(.ptr (.v 0) 0)] 26)), ((.b (.v 0)), (.cells [(.ptr (.v 1) 0), (.int .i64 (.v 3)), (.int .i64 (.v 4)), (.int .i64 (.v 5)), (.map (.v 6)), (.map (.v 8))] 113)), ((.b (.v 1)), (.prop 2)), ((.b (.v 8)), (.prop 9))]
(.ret (.tup []) [((.b (.v 0)), (.cells [(.ptr (.v 1) 0), (.int .i64 (.v 3)), (.int .i64 (.v 4)), (.int .i64 (.v 5)), (.map (.v 6)), (.map (.v 8))] 113)), ((.b (.v 1)), (.prop 2)), ((.b (.v 6)), (.prop 11)), ((.b (.v 8)), (.prop 9))])))
theorem tree_uForget : tree Try.prog { absT := [175, 183], opq := [], hv := [], keep := [103, 104, 73, 74, 95, 70, 71, 20, 38, 40, 106], link := [], ent := [], turn := [(105, [0])], shr := [], vt := [], mkd := [], rlink := [], pty := [] } Try.f60 [(.a (.ptr (.v 0) 0))] [((.b (.v 0)), (.cells [(.ptr (.v 1) 0), (.int .i64 (.v 3)), (.int .i64 (.v 4)), (.int .i64 (.v 5)), (.map (.v 6)), (.map (.v 8))] 113)), ((.b (.v 1)), (.prop 2)), ((.b (.v 6)), (.prop 7)), ((.b (.v 8)), (.prop 9))] 10 = t_uForget := by kernel_rfl
-- (*tideline/unit.Unit).follow: ρ := [.n u, .n u_d, .p u_dP, .i u_epoch, .i u_low, .i u_top, .n u_cells, .p u_cellsP, .n u_instances, .p u_instancesP, .a ba, .n bl, .n bc, .p bP]
def t_uFollow : T :=
(.call 98 [(.a (.sl (.v 10) (.v 11) (.v 12)))] [((.a 10), (.prop 13))] [.n, .p, .p] (.w (.a (.ptr (.v 14) 0))) [((.b (.v 14)), (.prop 15)), ((.a 10), (.prop 16))]
(.call 99 [(.a (.ptr (.v 14) 0))] [((.b (.v 14)), (.prop 15))] [.i, .p] (.w (.a (.int .u8 (.v 17)))) [((.b (.v 14)), (.prop 18))]
(.call 100 [(.a (.ptr (.v 14) 0))] [((.b (.v 14)), (.prop 18))] [.i, .p] (.w (.a (.int .i64 (.v 19)))) [((.b (.v 14)), (.prop 20))]
(.br (.o2 .eq (.v 17) (.i 1))
 (.call 101 [(.a (.ptr (.v 14) 0)), (.a (.int .i64 (.i 65536)))] [((.b (.v 14)), (.prop 20))] [.a, .n, .n, .p, .p] (.w (.a (.sl (.v 21) (.v 22) (.v 23)))) [((.a 21), (.prop 24)), ((.b (.v 14)), (.prop 25))]
 (.new
 (.call 102 [(.a (.ptr (.v 14) 0))] [((.b (.v 14)), (.prop 25))] [.i, .p] (.w (.a (.int .i64 (.v 27)))) [((.b (.v 14)), (.prop 28))]
 (.br (.o1 .not (.o2 .eq (.v 27) (.i 0)))
  (.ret (.w (.a (.bool (.c false)))) [((.b (.v 0)), (.cells [(.ptr (.v 1) 0), (.int .i64 (.v 3)), (.int .i64 (.v 4)), (.int .i64 (.v 5)), (.map (.v 6)), (.map (.v 8))] 113)), ((.b (.v 1)), (.prop 2)), ((.b (.v 6)), (.prop 7)), ((.b (.v 8)), (.prop 9)), ((.a 10), (.prop 16))])
  (.call 103 [(.a (.int .i64 (.v 19)))] [] [.c] (.w (.a (.bool (.v 29)))) []
  (.br (.o1 .not (.v 29))
   (.ret (.w (.a (.bool (.c false)))) [((.b (.v 0)), (.cells [(.ptr (.v 1) 0), (.int .i64 (.v 3)), (.int .i64 (.v 4)), (.int .i64 (.v 5)), (.map (.v 6)), (.map (.v 8))] 113)), ((.b (.v 1)), (.prop 2)), ((.b (.v 6)), (.prop 7)), ((.b (.v 8)), (.prop 9)), ((.a 10), (.prop 16))])
   (.call 97 [(.a (.ptr (.v 0) 0)), (.a (.int .i64 (.v 19))), (.agg [(.int .i64 (.i 1)), (.sl (.v 21) (.v 22) (.v 23))])] [((.b (.v 0)), (.cells [(.ptr (.v 1) 0), (.int .i64 (.v 3)), (.int .i64 (.v 4)), (.int .i64 (.v 5)), (.map (.v 6)), (.map (.v 8))] 113)), ((.b (.v 1)), (.prop 2)), ((.b (.v 6)), (.prop 7)), ((.b (.v 8)), (.prop 9)), ((.a 21), (.prop 24))] [.n, .p, .i, .i, .i, .n, .p, .n, .p, .p] (.tup []) [((.b (.v 0)), (.cells [(.ptr (.v 30) 0), (.int .i64 (.v 32)), (.int .i64 (.v 33)), (.int .i64 (.v 34)), (.map (.v 35)), (.map (.v 37))] 113)), ((.b (.v 30)), (.prop 31)), ((.b (.v 35)), (.prop 36)), ((.b (.v 37)), (.prop 38)), ((.a 21), (.prop 39))]
   (.ret (.w (.a (.bool (.c true)))) [((.b (.v 0)), (.cells [(.ptr (.v 30) 0), (.int .i64 (.v 32)), (.int .i64 (.v 33)), (.int .i64 (.v 34)), (.map (.v 35)), (.map (.v 37))] 113)), ((.b (.v 30)), (.prop 31)), ((.b (.v 35)), (.prop 36)), ((.b (.v 37)), (.prop 38)), ((.a 10), (.prop 16))]))))))))
 (.br (.o2 .eq (.v 17) (.i 2))
  (.call 102 [(.a (.ptr (.v 14) 0))] [((.b (.v 14)), (.prop 20))] [.i, .p] (.w (.a (.int .i64 (.v 21)))) [((.b (.v 14)), (.prop 22))]
  (.br (.o1 .not (.o2 .eq (.v 21) (.i 0)))
   (.ret (.w (.a (.bool (.c false)))) [((.b (.v 0)), (.cells [(.ptr (.v 1) 0), (.int .i64 (.v 3)), (.int .i64 (.v 4)), (.int .i64 (.v 5)), (.map (.v 6)), (.map (.v 8))] 113)), ((.b (.v 1)), (.prop 2)), ((.b (.v 6)), (.prop 7)), ((.b (.v 8)), (.prop 9)), ((.a 10), (.prop 16))])
   (.call 103 [(.a (.int .i64 (.v 19)))] [] [.c] (.w (.a (.bool (.v 23)))) []
   (.br (.o1 .not (.v 23))
    (.ret (.w (.a (.bool (.c false)))) [((.b (.v 0)), (.cells [(.ptr (.v 1) 0), (.int .i64 (.v 3)), (.int .i64 (.v 4)), (.int .i64 (.v 5)), (.map (.v 6)), (.map (.v 8))] 113)), ((.b (.v 1)), (.prop 2)), ((.b (.v 6)), (.prop 7)), ((.b (.v 8)), (.prop 9)), ((.a 10), (.prop 16))])
    (.call 97 [(.a (.ptr (.v 0) 0)), (.a (.int .i64 (.v 19))), (.agg [(.int .i64 (.i 2)), (.sl .nil (.n 0) (.n 0))])] [((.b (.v 0)), (.cells [(.ptr (.v 1) 0), (.int .i64 (.v 3)), (.int .i64 (.v 4)), (.int .i64 (.v 5)), (.map (.v 6)), (.map (.v 8))] 113)), ((.b (.v 1)), (.prop 2)), ((.b (.v 6)), (.prop 7)), ((.b (.v 8)), (.prop 9))] [.n, .p, .i, .i, .i, .n, .p, .n, .p] (.tup []) [((.b (.v 0)), (.cells [(.ptr (.v 24) 0), (.int .i64 (.v 26)), (.int .i64 (.v 27)), (.int .i64 (.v 28)), (.map (.v 29)), (.map (.v 31))] 113)), ((.b (.v 24)), (.prop 25)), ((.b (.v 29)), (.prop 30)), ((.b (.v 31)), (.prop 32))]
    (.ret (.w (.a (.bool (.c true)))) [((.b (.v 0)), (.cells [(.ptr (.v 24) 0), (.int .i64 (.v 26)), (.int .i64 (.v 27)), (.int .i64 (.v 28)), (.map (.v 29)), (.map (.v 31))] 113)), ((.b (.v 24)), (.prop 25)), ((.b (.v 29)), (.prop 30)), ((.b (.v 31)), (.prop 32)), ((.a 10), (.prop 16))]))))))
  (.br (.o2 .eq (.v 17) (.i 3))
   (.call 102 [(.a (.ptr (.v 14) 0))] [((.b (.v 14)), (.prop 20))] [.i, .p] (.w (.a (.int .i64 (.v 21)))) [((.b (.v 14)), (.prop 22))]
   (.br (.o1 .not (.o2 .eq (.v 21) (.i 0)))
    (.ret (.w (.a (.bool (.c false)))) [((.b (.v 0)), (.cells [(.ptr (.v 1) 0), (.int .i64 (.v 3)), (.int .i64 (.v 4)), (.int .i64 (.v 5)), (.map (.v 6)), (.map (.v 8))] 113)), ((.b (.v 1)), (.prop 2)), ((.b (.v 6)), (.prop 7)), ((.b (.v 8)), (.prop 9)), ((.a 10), (.prop 16))])
    (.call 103 [(.a (.int .i64 (.v 19)))] [] [.c] (.w (.a (.bool (.v 23)))) []
    (.br (.o1 .not (.v 23))
     (.ret (.w (.a (.bool (.c false)))) [((.b (.v 0)), (.cells [(.ptr (.v 1) 0), (.int .i64 (.v 3)), (.int .i64 (.v 4)), (.int .i64 (.v 5)), (.map (.v 6)), (.map (.v 8))] 113)), ((.b (.v 1)), (.prop 2)), ((.b (.v 6)), (.prop 7)), ((.b (.v 8)), (.prop 9)), ((.a 10), (.prop 16))])
     (.ret (.w (.a (.bool (.c true)))) [((.b (.v 0)), (.cells [(.ptr (.v 1) 0), (.int .i64 (.v 3)), (.int .i64 (.v 19)), (.int .i64 (.v 5)), (.map (.v 6)), (.map (.v 8))] 113)), ((.b (.v 1)), (.prop 2)), ((.b (.v 6)), (.prop 7)), ((.b (.v 8)), (.prop 9)), ((.a 10), (.prop 16))])))))
   (.br (.o2 .eq (.v 17) (.i 4))
    (.call 102 [(.a (.ptr (.v 14) 0))] [((.b (.v 14)), (.prop 20))] [.i, .p] (.w (.a (.int .i64 (.v 21)))) [((.b (.v 14)), (.prop 22))]
    (.br (.o1 .not (.o2 .eq (.v 21) (.i 0)))
     (.ret (.w (.a (.bool (.c false)))) [((.b (.v 0)), (.cells [(.ptr (.v 1) 0), (.int .i64 (.v 3)), (.int .i64 (.v 4)), (.int .i64 (.v 5)), (.map (.v 6)), (.map (.v 8))] 113)), ((.b (.v 1)), (.prop 2)), ((.b (.v 6)), (.prop 7)), ((.b (.v 8)), (.prop 9)), ((.a 10), (.prop 16))])
     (.call 104 [(.a (.int .i64 (.v 19)))] [] [.c] (.w (.a (.bool (.v 23)))) []
     (.br (.o1 .not (.v 23))
      (.ret (.w (.a (.bool (.c false)))) [((.b (.v 0)), (.cells [(.ptr (.v 1) 0), (.int .i64 (.v 3)), (.int .i64 (.v 4)), (.int .i64 (.v 5)), (.map (.v 6)), (.map (.v 8))] 113)), ((.b (.v 1)), (.prop 2)), ((.b (.v 6)), (.prop 7)), ((.b (.v 8)), (.prop 9)), ((.a 10), (.prop 16))])
      (.ret (.w (.a (.bool (.c true)))) [((.b (.v 0)), (.cells [(.ptr (.v 1) 0), (.int .i64 (.v 19)), (.int .i64 (.v 4)), (.int .i64 (.v 5)), (.map (.v 6)), (.map (.v 8))] 113)), ((.b (.v 1)), (.prop 2)), ((.b (.v 6)), (.prop 7)), ((.b (.v 8)), (.prop 9)), ((.a 10), (.prop 16))])))))
    (.br (.o2 .eq (.v 17) (.i 5))
     (.call 100 [(.a (.ptr (.v 14) 0))] [((.b (.v 14)), (.prop 20))] [.i, .p] (.w (.a (.int .i64 (.v 21)))) [((.b (.v 14)), (.prop 22))]
     (.call 100 [(.a (.ptr (.v 14) 0))] [((.b (.v 14)), (.prop 22))] [.i, .p] (.w (.a (.int .i64 (.v 23)))) [((.b (.v 14)), (.prop 24))]
     (.new
     (.call 102 [(.a (.ptr (.v 14) 0))] [((.b (.v 14)), (.prop 24))] [.i, .p] (.w (.a (.int .i64 (.v 26)))) [((.b (.v 14)), (.prop 27))]
     (.br (.o1 .not (.o2 .eq (.v 26) (.i 0)))
      (.ret (.w (.a (.bool (.c false)))) [((.b (.v 0)), (.cells [(.ptr (.v 1) 0), (.int .i64 (.v 3)), (.int .i64 (.v 4)), (.int .i64 (.v 5)), (.map (.v 6)), (.map (.v 8))] 113)), ((.b (.v 1)), (.prop 2)), ((.b (.v 6)), (.prop 7)), ((.b (.v 8)), (.prop 9)), ((.a 10), (.prop 16))])
      (.call 73 [(.a (.int .i64 (.v 19))), (.agg [(.int .i64 (.v 21)), (.int .i64 (.v 23))])] [] [.c] (.w (.a (.bool (.v 28)))) []
      (.br (.o1 .not (.v 28))
       (.ret (.w (.a (.bool (.c false)))) [((.b (.v 0)), (.cells [(.ptr (.v 1) 0), (.int .i64 (.v 3)), (.int .i64 (.v 4)), (.int .i64 (.v 5)), (.map (.v 6)), (.map (.v 8))] 113)), ((.b (.v 1)), (.prop 2)), ((.b (.v 6)), (.prop 7)), ((.b (.v 8)), (.prop 9)), ((.a 10), (.prop 16))])
       (.call 78 [(.a (.ptr (.v 0) 0)), (.a (.int .i64 (.v 19))), (.agg [(.int .i64 (.v 21)), (.int .i64 (.v 23))])] [((.b (.v 0)), (.cells [(.ptr (.v 1) 0), (.int .i64 (.v 3)), (.int .i64 (.v 4)), (.int .i64 (.v 5)), (.map (.v 6)), (.map (.v 8))] 113)), ((.b (.v 1)), (.prop 2)), ((.b (.v 6)), (.prop 7)), ((.b (.v 8)), (.prop 9))] [.n, .p, .i, .i, .i, .n, .p, .n, .p] (.tup []) [((.b (.v 0)), (.cells [(.ptr (.v 29) 0), (.int .i64 (.v 31)), (.int .i64 (.v 32)), (.int .i64 (.v 33)), (.map (.v 34)), (.map (.v 36))] 113)), ((.b (.v 29)), (.prop 30)), ((.b (.v 34)), (.prop 35)), ((.b (.v 36)), (.prop 37))]
       (.ret (.w (.a (.bool (.c true)))) [((.b (.v 0)), (.cells [(.ptr (.v 29) 0), (.int .i64 (.v 31)), (.int .i64 (.v 32)), (.int .i64 (.v 33)), (.map (.v 34)), (.map (.v 36))] 113)), ((.b (.v 29)), (.prop 30)), ((.b (.v 34)), (.prop 35)), ((.b (.v 36)), (.prop 37)), ((.a 10), (.prop 16))])))))))))
     (.br (.o2 .eq (.v 17) (.i 6))
      (.call 100 [(.a (.ptr (.v 14) 0))] [((.b (.v 14)), (.prop 20))] [.i, .p] (.w (.a (.int .i64 (.v 21)))) [((.b (.v 14)), (.prop 22))]
      (.call 100 [(.a (.ptr (.v 14) 0))] [((.b (.v 14)), (.prop 22))] [.i, .p] (.w (.a (.int .i64 (.v 23)))) [((.b (.v 14)), (.prop 24))]
      (.new
      (.call 101 [(.a (.ptr (.v 14) 0)), (.a (.int .i64 (.i 1000)))] [((.b (.v 14)), (.prop 24))] [.a, .n, .n, .p, .p] (.w (.a (.sl (.v 26) (.v 27) (.v 28)))) [((.a 26), (.prop 29)), ((.b (.v 14)), (.prop 30))]
      (.call 102 [(.a (.ptr (.v 14) 0))] [((.b (.v 14)), (.prop 30))] [.i, .p] (.w (.a (.int .i64 (.v 31)))) [((.b (.v 14)), (.prop 32))]
      (.br (.o1 .not (.o2 .eq (.v 31) (.i 0)))
       (.ret (.w (.a (.bool (.c false)))) [((.b (.v 0)), (.cells [(.ptr (.v 1) 0), (.int .i64 (.v 3)), (.int .i64 (.v 4)), (.int .i64 (.v 5)), (.map (.v 6)), (.map (.v 8))] 113)), ((.b (.v 1)), (.prop 2)), ((.b (.v 6)), (.prop 7)), ((.b (.v 8)), (.prop 9)), ((.a 10), (.prop 16))])
       (.call 73 [(.a (.int .i64 (.v 19))), (.agg [(.int .i64 (.v 21)), (.int .i64 (.v 23))])] [] [.c] (.w (.a (.bool (.v 33)))) []
       (.br (.o1 .not (.v 33))
        (.ret (.w (.a (.bool (.c false)))) [((.b (.v 0)), (.cells [(.ptr (.v 1) 0), (.int .i64 (.v 3)), (.int .i64 (.v 4)), (.int .i64 (.v 5)), (.map (.v 6)), (.map (.v 8))] 113)), ((.b (.v 1)), (.prop 2)), ((.b (.v 6)), (.prop 7)), ((.b (.v 8)), (.prop 9)), ((.a 10), (.prop 16))])
        (.call 83 [(.a (.ptr (.v 0) 0)), (.a (.int .i64 (.v 19))), (.agg [(.int .i64 (.v 21)), (.int .i64 (.v 23))]), (.a (.sl (.v 26) (.v 27) (.v 28)))] [((.b (.v 0)), (.cells [(.ptr (.v 1) 0), (.int .i64 (.v 3)), (.int .i64 (.v 4)), (.int .i64 (.v 5)), (.map (.v 6)), (.map (.v 8))] 113)), ((.b (.v 1)), (.prop 2)), ((.b (.v 6)), (.prop 7)), ((.b (.v 8)), (.prop 9)), ((.a 26), (.prop 29))] [.n, .p, .i, .i, .i, .n, .p, .n, .p, .p] (.tup []) [((.b (.v 0)), (.cells [(.ptr (.v 34) 0), (.int .i64 (.v 36)), (.int .i64 (.v 37)), (.int .i64 (.v 38)), (.map (.v 39)), (.map (.v 41))] 113)), ((.b (.v 34)), (.prop 35)), ((.b (.v 39)), (.prop 40)), ((.b (.v 41)), (.prop 42)), ((.a 26), (.prop 43))]
        (.ret (.w (.a (.bool (.c true)))) [((.b (.v 0)), (.cells [(.ptr (.v 34) 0), (.int .i64 (.v 36)), (.int .i64 (.v 37)), (.int .i64 (.v 38)), (.map (.v 39)), (.map (.v 41))] 113)), ((.b (.v 34)), (.prop 35)), ((.b (.v 39)), (.prop 40)), ((.b (.v 41)), (.prop 42)), ((.a 10), (.prop 16))]))))))))))
      (.ret (.w (.a (.bool (.c false)))) [((.b (.v 0)), (.cells [(.ptr (.v 1) 0), (.int .i64 (.v 3)), (.int .i64 (.v 4)), (.int .i64 (.v 5)), (.map (.v 6)), (.map (.v 8))] 113)), ((.b (.v 1)), (.prop 2)), ((.b (.v 6)), (.prop 7)), ((.b (.v 8)), (.prop 9)), ((.a 10), (.prop 16))]))))))))))
theorem tree_uFollow : tree Try.prog { absT := [175, 183], opq := [], hv := [], keep := [103, 104, 73, 74, 95, 70, 71, 20, 38, 40, 106], link := [], ent := [], turn := [(105, [0])], shr := [], vt := [], mkd := [], rlink := [], pty := [] } Try.f59 [(.a (.ptr (.v 0) 0)), (.a (.sl (.v 10) (.v 11) (.v 12)))] [((.b (.v 0)), (.cells [(.ptr (.v 1) 0), (.int .i64 (.v 3)), (.int .i64 (.v 4)), (.int .i64 (.v 5)), (.map (.v 6)), (.map (.v 8))] 113)), ((.b (.v 1)), (.prop 2)), ((.b (.v 6)), (.prop 7)), ((.b (.v 8)), (.prop 9)), ((.a 10), (.prop 13))] 14 = t_uFollow := by kernel_rfl
-- tideline/unit.Open: ρ := [.n d, .p dP]
def t_uOpen : T :=
(.new
(.new
(.new
(.call 34 [(.a (.ptr (.v 0) 0))] [((.b (.v 0)), (.prop 1))] [.a, .n, .n, .p, .p] (.w (.a (.sl (.v 5) (.v 6) (.v 7)))) [((.a 5), (.prop 8)), ((.b (.v 0)), (.prop 9))]
(.loop [.v, .p, .i, .i, .p, .p, .n, .i, .i, .i, .n, .n, .p, .p] [(.v .nilp), (.p []), (.e (.o1 .neg (.o1 .neg (.i 0)))), (.e (.o1 .neg (.o1 .neg (.i 0)))), (.p [((.a 5), (.prop 8))]), (.p [((.b (.v 0)), (.prop 9))]), (.n (.v 0)), (.e (.o1 .neg (.o1 .neg (.i 0)))), (.e (.o1 .neg (.o1 .neg (.i 0)))), (.e (.o1 .neg (.o1 .neg (.i 0)))), (.n (.v 2)), (.n (.v 3)), (.p [((.b (.v 3)), .emap)]), (.p [((.b (.v 2)), .emap)])]
 (.br (.o2 .lt (.v 13) (.o1 .ofNat (.v 6)))
  (.need (.o2 .le (.i 0) (.v 13))
  (.need (.o1 .isSome (.v 5))
  (.read (.load 30 (.tmp 17)) 30 [(17, (.w (.a (.eptr 5 (.v 13) 1 0))))] [((.a 5), (.prop 14))] [.a, .n, .n] (.w (.a (.sl (.v 24) (.v 25) (.v 26))))
  (.call 59 [(.a (.ptr (.v 4) 0)), (.a (.sl (.v 24) (.v 25) (.v 26)))] [((.b (.v 4)), (.cells [(.ptr (.v 16) 0), (.int .i64 (.v 17)), (.int .i64 (.v 18)), (.int .i64 (.v 19)), (.map (.v 20)), (.map (.v 21))] 113)), ((.b (.v 16)), (.prop 15)), ((.b (.v 20)), (.prop 23)), ((.b (.v 21)), (.prop 22)), ((.a 5), (.prop 14))] [.c, .n, .p, .i, .i, .i, .n, .p, .n, .p, .p] (.w (.a (.bool (.v 27)))) [((.b (.v 4)), (.cells [(.ptr (.v 28) 0), (.int .i64 (.v 30)), (.int .i64 (.v 31)), (.int .i64 (.v 32)), (.map (.v 33)), (.map (.v 35))] 113)), ((.b (.v 28)), (.prop 29)), ((.b (.v 33)), (.prop 34)), ((.b (.v 35)), (.prop 36)), ((.a 5), (.prop 37))]
  (.br (.o1 .not (.v 27))
   (.ret (.tup [(.a .nilp), (.a (.int .i64 (.i 3)))]) [])
   (.need (.o1 (.inr .i64) (.o2 .add (.v 13) (.i 1)))
   (.again 0 [(.v (.val 10)), (.p [((.a 10), (.prop 11))]), (.e (.o1 .neg (.o1 .neg (.v 12)))), (.e (.o1 .neg (.o1 .neg (.o2 .add (.v 13) (.i 1))))), (.p [((.a 5), (.prop 37))]), (.p [((.b (.v 28)), (.prop 29))]), (.n (.v 28)), (.e (.o1 .neg (.o1 .neg (.v 30)))), (.e (.o1 .neg (.o1 .neg (.v 31)))), (.e (.o1 .neg (.o1 .neg (.v 32)))), (.n (.v 33)), (.n (.v 35)), (.p [((.b (.v 35)), (.prop 36))]), (.p [((.b (.v 33)), (.prop 34))])])))))))
  (.call 60 [(.a (.ptr (.v 4) 0))] [((.b (.v 4)), (.cells [(.ptr (.v 16) 0), (.int .i64 (.v 17)), (.int .i64 (.v 18)), (.int .i64 (.v 19)), (.map (.v 20)), (.map (.v 21))] 113)), ((.b (.v 16)), (.prop 15)), ((.b (.v 20)), (.prop 23)), ((.b (.v 21)), (.prop 22))] [.n, .p, .i, .i, .i, .n, .p, .n, .p] (.tup []) [((.b (.v 4)), (.cells [(.ptr (.v 24) 0), (.int .i64 (.v 26)), (.int .i64 (.v 27)), (.int .i64 (.v 28)), (.map (.v 29)), (.map (.v 31))] 113)), ((.b (.v 24)), (.prop 25)), ((.b (.v 29)), (.prop 30)), ((.b (.v 31)), (.prop 32))]
  (.ret (.tup [(.a (.ptr (.v 4) 0)), (.a (.int .i64 (.i 0)))]) [((.b (.v 4)), (.cells [(.ptr (.v 24) 0), (.int .i64 (.v 26)), (.int .i64 (.v 27)), (.int .i64 (.v 28)), (.map (.v 29)), (.map (.v 31))] 113)), ((.b (.v 24)), (.prop 25)), ((.b (.v 29)), (.prop 30)), ((.b (.v 31)), (.prop 32))]))))))))
theorem tree_uOpen : tree Try.prog { absT := [175, 183], opq := [], hv := [(0, [(.a 5), (.b (.v 0)), (.b (.v 4)), (.b (.v 3)), (.b (.v 2))])], keep := [103, 104, 73, 74, 95, 70, 71, 20, 38, 40, 106], link := [], ent := [], turn := [(105, [0])], shr := [], vt := [], mkd := [], rlink := [], pty := [] } Try.f17 [(.a (.ptr (.v 0) 0))] [((.b (.v 0)), (.prop 1))] 2 = t_uOpen := by kernel_rfl
-- (*tideline/unit.Unit).Read: ρ := [.n u, .n u_d, .p u_dP, .i u_epoch, .i u_low, .i u_top, .n u_cells, .p u_cellsP, .n u_instances, .p u_instancesP, .i epoch, .i at]
def t_uRead : T :=
(.new
(.call 70 [(.a (.ptr (.v 0) 0)), (.a (.int .i64 (.v 10))), (.a (.int .i64 (.v 11)))] [((.b (.v 0)), (.cells [(.ptr (.v 1) 0), (.int .i64 (.v 3)), (.int .i64 (.v 4)), (.int .i64 (.v 5)), (.map (.v 6)), (.map (.v 8))] 113)), ((.b (.v 1)), (.prop 2)), ((.b (.v 6)), (.prop 7)), ((.b (.v 8)), (.prop 9))] [.i] (.w (.a (.int .i64 (.v 13)))) [((.b (.v 0)), (.cells [(.ptr (.v 1) 0), (.int .i64 (.v 3)), (.int .i64 (.v 4)), (.int .i64 (.v 5)), (.map (.v 6)), (.map (.v 8))] 113)), ((.b (.v 1)), (.prop 2)), ((.b (.v 6)), (.prop 7)), ((.b (.v 8)), (.prop 9))]
(.br (.o1 .not (.o2 .eq (.v 13) (.i 0)))
 (.ret (.tup [(.agg [(.int .i64 (.i 0)), (.sl .nil (.n 0) (.n 0))]), (.a (.int .i64 (.v 13)))]) [((.b (.v 0)), (.cells [(.ptr (.v 1) 0), (.int .i64 (.v 3)), (.int .i64 (.v 4)), (.int .i64 (.v 5)), (.map (.v 6)), (.map (.v 8))] 113)), ((.b (.v 1)), (.prop 2)), ((.b (.v 6)), (.prop 7)), ((.b (.v 8)), (.prop 9))])
 (.br (.o2 .lt (.v 11) (.v 4))
  (.ret (.tup [(.agg [(.int .i64 (.i 0)), (.sl .nil (.n 0) (.n 0))]), (.a (.int .i64 (.i 11)))]) [((.b (.v 0)), (.cells [(.ptr (.v 1) 0), (.int .i64 (.v 3)), (.int .i64 (.v 4)), (.int .i64 (.v 5)), (.map (.v 6)), (.map (.v 8))] 113)), ((.b (.v 1)), (.prop 2)), ((.b (.v 6)), (.prop 7)), ((.b (.v 8)), (.prop 9))])
  (.call 71 [(.a (.ptr (.v 0) 0)), (.a (.int .i64 (.v 11)))] [((.b (.v 0)), (.cells [(.ptr (.v 1) 0), (.int .i64 (.v 3)), (.int .i64 (.v 4)), (.int .i64 (.v 5)), (.map (.v 6)), (.map (.v 8))] 113)), ((.b (.v 1)), (.prop 2)), ((.b (.v 6)), (.prop 7)), ((.b (.v 8)), (.prop 9))] [.i, .a, .n, .n, .p, .c] (.tup [(.agg [(.int .i64 (.v 14)), (.sl (.v 15) (.v 16) (.v 17))]), (.a (.bool (.v 19)))]) [((.a 15), (.prop 18)), ((.b (.v 0)), (.cells [(.ptr (.v 1) 0), (.int .i64 (.v 3)), (.int .i64 (.v 4)), (.int .i64 (.v 5)), (.map (.v 6)), (.map (.v 8))] 113)), ((.b (.v 1)), (.prop 2)), ((.b (.v 6)), (.prop 7)), ((.b (.v 8)), (.prop 9))]
  (.new
  (.br (.o1 .not (.v 19))
   (.ret (.tup [(.agg [(.int .i64 (.i 0)), (.sl .nil (.n 0) (.n 0))]), (.a (.int .i64 (.i 9)))]) [((.b (.v 0)), (.cells [(.ptr (.v 1) 0), (.int .i64 (.v 3)), (.int .i64 (.v 4)), (.int .i64 (.v 5)), (.map (.v 6)), (.map (.v 8))] 113)), ((.b (.v 1)), (.prop 2)), ((.b (.v 6)), (.prop 7)), ((.b (.v 8)), (.prop 9))])
   (.ret (.tup [(.agg [(.int .i64 (.v 14)), (.sl (.v 15) (.v 16) (.v 17))]), (.a (.int .i64 (.i 0)))]) [((.b (.v 0)), (.cells [(.ptr (.v 1) 0), (.int .i64 (.v 3)), (.int .i64 (.v 4)), (.int .i64 (.v 5)), (.map (.v 6)), (.map (.v 8))] 113)), ((.b (.v 1)), (.prop 2)), ((.b (.v 6)), (.prop 7)), ((.b (.v 8)), (.prop 9)), ((.a 15), (.prop 18))]))))))))
theorem tree_uRead : tree Try.prog { absT := [175, 183], opq := [], hv := [], keep := [103, 104, 73, 74, 95, 70, 71, 20, 38, 40, 106], link := [], ent := [], turn := [(105, [0])], shr := [], vt := [], mkd := [], rlink := [], pty := [] } Try.f19 [(.a (.ptr (.v 0) 0)), (.a (.int .i64 (.v 10))), (.a (.int .i64 (.v 11)))] [((.b (.v 0)), (.cells [(.ptr (.v 1) 0), (.int .i64 (.v 3)), (.int .i64 (.v 4)), (.int .i64 (.v 5)), (.map (.v 6)), (.map (.v 8))] 113)), ((.b (.v 1)), (.prop 2)), ((.b (.v 6)), (.prop 7)), ((.b (.v 8)), (.prop 9))] 12 = t_uRead := by kernel_rfl
-- (*tideline/unit.Unit).Write: ρ := [.n u, .n u_d, .p u_dP, .i u_epoch, .i u_low, .i u_top, .n u_cells, .p u_cellsP, .n u_instances, .p u_instancesP, .i epoch, .i at, .i x_What, .a x_Dataa, .n x_Datal, .n x_Datac, .p x_DataP]
def t_uWrite : T :=
(.new
(.new
(.call 70 [(.a (.ptr (.v 0) 0)), (.a (.int .i64 (.v 10))), (.a (.int .i64 (.v 11)))] [((.b (.v 0)), (.cells [(.ptr (.v 1) 0), (.int .i64 (.v 3)), (.int .i64 (.v 4)), (.int .i64 (.v 5)), (.map (.v 6)), (.map (.v 8))] 113)), ((.b (.v 1)), (.prop 2)), ((.b (.v 6)), (.prop 7)), ((.b (.v 8)), (.prop 9))] [.i] (.w (.a (.int .i64 (.v 19)))) [((.b (.v 0)), (.cells [(.ptr (.v 1) 0), (.int .i64 (.v 3)), (.int .i64 (.v 4)), (.int .i64 (.v 5)), (.map (.v 6)), (.map (.v 8))] 113)), ((.b (.v 1)), (.prop 2)), ((.b (.v 6)), (.prop 7)), ((.b (.v 8)), (.prop 9))]
(.br (.o1 .not (.o2 .eq (.v 19) (.i 0)))
 (.ret (.tup [(.agg [(.int .i64 (.i 0)), (.sl .nil (.n 0) (.n 0))]), (.a (.int .i64 (.v 19)))]) [((.b (.v 0)), (.cells [(.ptr (.v 1) 0), (.int .i64 (.v 3)), (.int .i64 (.v 4)), (.int .i64 (.v 5)), (.map (.v 6)), (.map (.v 8))] 113)), ((.b (.v 1)), (.prop 2)), ((.b (.v 6)), (.prop 7)), ((.b (.v 8)), (.prop 9)), ((.a 13), (.prop 16))])
 (.call 95 [(.agg [(.int .i64 (.v 12)), (.sl (.v 13) (.v 14) (.v 15))])] [((.a 13), (.prop 16))] [.c] (.w (.a (.bool (.v 20)))) [((.a 13), (.prop 16))]
 (.br (.o1 .not (.v 20))
  (.ret (.tup [(.agg [(.int .i64 (.i 0)), (.sl .nil (.n 0) (.n 0))]), (.a (.int .i64 (.i 1)))]) [((.b (.v 0)), (.cells [(.ptr (.v 1) 0), (.int .i64 (.v 3)), (.int .i64 (.v 4)), (.int .i64 (.v 5)), (.map (.v 6)), (.map (.v 8))] 113)), ((.b (.v 1)), (.prop 2)), ((.b (.v 6)), (.prop 7)), ((.b (.v 8)), (.prop 9)), ((.a 13), (.prop 16))])
  (.br (.o2 .lt (.v 11) (.v 4))
   (.ret (.tup [(.agg [(.int .i64 (.i 0)), (.sl .nil (.n 0) (.n 0))]), (.a (.int .i64 (.i 11)))]) [((.b (.v 0)), (.cells [(.ptr (.v 1) 0), (.int .i64 (.v 3)), (.int .i64 (.v 4)), (.int .i64 (.v 5)), (.map (.v 6)), (.map (.v 8))] 113)), ((.b (.v 1)), (.prop 2)), ((.b (.v 6)), (.prop 7)), ((.b (.v 8)), (.prop 9)), ((.a 13), (.prop 16))])
   (.call 71 [(.a (.ptr (.v 0) 0)), (.a (.int .i64 (.v 11)))] [((.b (.v 0)), (.cells [(.ptr (.v 1) 0), (.int .i64 (.v 3)), (.int .i64 (.v 4)), (.int .i64 (.v 5)), (.map (.v 6)), (.map (.v 8))] 113)), ((.b (.v 1)), (.prop 2)), ((.b (.v 6)), (.prop 7)), ((.b (.v 8)), (.prop 9))] [.i, .a, .n, .n, .p, .c] (.tup [(.agg [(.int .i64 (.v 21)), (.sl (.v 22) (.v 23) (.v 24))]), (.a (.bool (.v 26)))]) [((.a 22), (.prop 25)), ((.b (.v 0)), (.cells [(.ptr (.v 1) 0), (.int .i64 (.v 3)), (.int .i64 (.v 4)), (.int .i64 (.v 5)), (.map (.v 6)), (.map (.v 8))] 113)), ((.b (.v 1)), (.prop 2)), ((.b (.v 6)), (.prop 7)), ((.b (.v 8)), (.prop 9))]
   (.new
   (.br (.v 26)
    (.ret (.tup [(.agg [(.int .i64 (.v 21)), (.sl (.v 22) (.v 23) (.v 24))]), (.a (.int .i64 (.i 10)))]) [((.b (.v 0)), (.cells [(.ptr (.v 1) 0), (.int .i64 (.v 3)), (.int .i64 (.v 4)), (.int .i64 (.v 5)), (.map (.v 6)), (.map (.v 8))] 113)), ((.b (.v 1)), (.prop 2)), ((.b (.v 6)), (.prop 7)), ((.b (.v 8)), (.prop 9)), ((.a 13), (.prop 16)), ((.a 22), (.prop 25))])
    (.call 96 [(.a (.int .i64 (.v 11))), (.agg [(.int .i64 (.v 12)), (.sl (.v 13) (.v 14) (.v 15))])] [((.a 13), (.prop 16))] [.a, .n, .n, .p, .p] (.w (.a (.sl (.v 28) (.v 29) (.v 30)))) [((.a 28), (.prop 31)), ((.a 13), (.prop 32))]
    (.call 75 [(.a (.ptr (.v 0) 0)), (.a (.sl (.v 28) (.v 29) (.v 30)))] [((.b (.v 0)), (.cells [(.ptr (.v 1) 0), (.int .i64 (.v 3)), (.int .i64 (.v 4)), (.int .i64 (.v 5)), (.map (.v 6)), (.map (.v 8))] 113)), ((.b (.v 1)), (.prop 2)), ((.b (.v 6)), (.prop 7)), ((.b (.v 8)), (.prop 9)), ((.a 28), (.prop 31))] [.i, .n, .p, .i, .i, .i, .n, .p, .n, .p, .p] (.w (.a (.int .i64 (.v 33)))) [((.b (.v 0)), (.cells [(.ptr (.v 34) 0), (.int .i64 (.v 36)), (.int .i64 (.v 37)), (.int .i64 (.v 38)), (.map (.v 39)), (.map (.v 41))] 113)), ((.b (.v 34)), (.prop 35)), ((.b (.v 39)), (.prop 40)), ((.b (.v 41)), (.prop 42)), ((.a 28), (.prop 43))]
    (.br (.o1 .not (.o2 .eq (.v 33) (.i 0)))
     (.ret (.tup [(.agg [(.int .i64 (.i 0)), (.sl .nil (.n 0) (.n 0))]), (.a (.int .i64 (.v 33)))]) [((.b (.v 0)), (.cells [(.ptr (.v 34) 0), (.int .i64 (.v 36)), (.int .i64 (.v 37)), (.int .i64 (.v 38)), (.map (.v 39)), (.map (.v 41))] 113)), ((.b (.v 34)), (.prop 35)), ((.b (.v 39)), (.prop 40)), ((.b (.v 41)), (.prop 42)), ((.a 13), (.prop 32))])
     (.call 97 [(.a (.ptr (.v 0) 0)), (.a (.int .i64 (.v 11))), (.agg [(.int .i64 (.v 12)), (.sl (.v 13) (.v 14) (.v 15))])] [((.b (.v 0)), (.cells [(.ptr (.v 34) 0), (.int .i64 (.v 36)), (.int .i64 (.v 37)), (.int .i64 (.v 38)), (.map (.v 39)), (.map (.v 41))] 113)), ((.b (.v 34)), (.prop 35)), ((.b (.v 39)), (.prop 40)), ((.b (.v 41)), (.prop 42)), ((.a 13), (.prop 32))] [.n, .p, .i, .i, .i, .n, .p, .n, .p, .p] (.tup []) [((.b (.v 0)), (.cells [(.ptr (.v 44) 0), (.int .i64 (.v 46)), (.int .i64 (.v 47)), (.int .i64 (.v 48)), (.map (.v 49)), (.map (.v 51))] 113)), ((.b (.v 44)), (.prop 45)), ((.b (.v 49)), (.prop 50)), ((.b (.v 51)), (.prop 52)), ((.a 13), (.prop 53))]
     (.ret (.tup [(.agg [(.int .i64 (.i 0)), (.sl .nil (.n 0) (.n 0))]), (.a (.int .i64 (.i 0)))]) [((.b (.v 0)), (.cells [(.ptr (.v 44) 0), (.int .i64 (.v 46)), (.int .i64 (.v 47)), (.int .i64 (.v 48)), (.map (.v 49)), (.map (.v 51))] 113)), ((.b (.v 44)), (.prop 45)), ((.b (.v 49)), (.prop 50)), ((.b (.v 51)), (.prop 52)), ((.a 13), (.prop 53))])))))))))))))))
theorem tree_uWrite : tree Try.prog { absT := [175, 183], opq := [], hv := [], keep := [103, 104, 73, 74, 95, 70, 71, 20, 38, 40, 106], link := [], ent := [], turn := [(105, [0])], shr := [], vt := [], mkd := [], rlink := [], pty := [] } Try.f57 [(.a (.ptr (.v 0) 0)), (.a (.int .i64 (.v 10))), (.a (.int .i64 (.v 11))), (.agg [(.int .i64 (.v 12)), (.sl (.v 13) (.v 14) (.v 15))])] [((.b (.v 0)), (.cells [(.ptr (.v 1) 0), (.int .i64 (.v 3)), (.int .i64 (.v 4)), (.int .i64 (.v 5)), (.map (.v 6)), (.map (.v 8))] 113)), ((.b (.v 1)), (.prop 2)), ((.b (.v 6)), (.prop 7)), ((.b (.v 8)), (.prop 9)), ((.a 13), (.prop 16))] 17 = t_uWrite := by kernel_rfl
-- (*tideline/unit.Unit).Trim: ρ := [.n u, .n u_d, .p u_dP, .i u_epoch, .i u_low, .i u_top, .n u_cells, .p u_cellsP, .n u_instances, .p u_instancesP, .i epoch, .i low]
def t_uTrim : T :=
(.call 70 [(.a (.ptr (.v 0) 0)), (.a (.int .i64 (.v 10))), (.a (.int .i64 (.v 11)))] [((.b (.v 0)), (.cells [(.ptr (.v 1) 0), (.int .i64 (.v 3)), (.int .i64 (.v 4)), (.int .i64 (.v 5)), (.map (.v 6)), (.map (.v 8))] 113)), ((.b (.v 1)), (.prop 2)), ((.b (.v 6)), (.prop 7)), ((.b (.v 8)), (.prop 9))] [.i] (.w (.a (.int .i64 (.v 12)))) [((.b (.v 0)), (.cells [(.ptr (.v 1) 0), (.int .i64 (.v 3)), (.int .i64 (.v 4)), (.int .i64 (.v 5)), (.map (.v 6)), (.map (.v 8))] 113)), ((.b (.v 1)), (.prop 2)), ((.b (.v 6)), (.prop 7)), ((.b (.v 8)), (.prop 9))]
(.br (.o1 .not (.o2 .eq (.v 12) (.i 0)))
 (.ret (.w (.a (.int .i64 (.v 12)))) [((.b (.v 0)), (.cells [(.ptr (.v 1) 0), (.int .i64 (.v 3)), (.int .i64 (.v 4)), (.int .i64 (.v 5)), (.map (.v 6)), (.map (.v 8))] 113)), ((.b (.v 1)), (.prop 2)), ((.b (.v 6)), (.prop 7)), ((.b (.v 8)), (.prop 9))])
 (.br (.o2 .le (.v 11) (.v 4))
  (.ret (.w (.a (.int .i64 (.i 0)))) [((.b (.v 0)), (.cells [(.ptr (.v 1) 0), (.int .i64 (.v 3)), (.int .i64 (.v 4)), (.int .i64 (.v 5)), (.map (.v 6)), (.map (.v 8))] 113)), ((.b (.v 1)), (.prop 2)), ((.b (.v 6)), (.prop 7)), ((.b (.v 8)), (.prop 9))])
  (.new
  (.call 76 [(.a (.int .u8 (.i 3))), (.a (.sl (.b (.v 13) 0) (.n 1) (.n 1)))] [((.b (.v 13)), (.cells [(.int .i64 (.v 11))] 3))] [.n, .p, .i] (.w (.a (.ptr (.v 14) 0))) [((.b (.v 14)), (.prop 15)), ((.b (.v 13)), (.cells [(.int .i64 (.v 16))] 3))]
  (.call 77 [(.a (.ptr (.v 14) 0))] [((.b (.v 14)), (.prop 15))] [.a, .n, .n, .p, .p] (.w (.a (.sl (.v 17) (.v 18) (.v 19)))) [((.a 17), (.prop 20)), ((.b (.v 14)), (.prop 21))]
  (.call 75 [(.a (.ptr (.v 0) 0)), (.a (.sl (.v 17) (.v 18) (.v 19)))] [((.b (.v 0)), (.cells [(.ptr (.v 1) 0), (.int .i64 (.v 3)), (.int .i64 (.v 4)), (.int .i64 (.v 5)), (.map (.v 6)), (.map (.v 8))] 113)), ((.b (.v 1)), (.prop 2)), ((.b (.v 6)), (.prop 7)), ((.b (.v 8)), (.prop 9)), ((.a 17), (.prop 20))] [.i, .n, .p, .i, .i, .i, .n, .p, .n, .p, .p] (.w (.a (.int .i64 (.v 22)))) [((.b (.v 0)), (.cells [(.ptr (.v 23) 0), (.int .i64 (.v 25)), (.int .i64 (.v 26)), (.int .i64 (.v 27)), (.map (.v 28)), (.map (.v 30))] 113)), ((.b (.v 23)), (.prop 24)), ((.b (.v 28)), (.prop 29)), ((.b (.v 30)), (.prop 31)), ((.a 17), (.prop 32))]
  (.br (.o1 .not (.o2 .eq (.v 22) (.i 0)))
   (.ret (.w (.a (.int .i64 (.v 22)))) [((.b (.v 0)), (.cells [(.ptr (.v 23) 0), (.int .i64 (.v 25)), (.int .i64 (.v 26)), (.int .i64 (.v 27)), (.map (.v 28)), (.map (.v 30))] 113)), ((.b (.v 23)), (.prop 24)), ((.b (.v 28)), (.prop 29)), ((.b (.v 30)), (.prop 31))])
   (.call 60 [(.a (.ptr (.v 0) 0))] [((.b (.v 0)), (.cells [(.ptr (.v 23) 0), (.int .i64 (.v 25)), (.int .i64 (.v 11)), (.int .i64 (.v 27)), (.map (.v 28)), (.map (.v 30))] 113)), ((.b (.v 23)), (.prop 24)), ((.b (.v 28)), (.prop 29)), ((.b (.v 30)), (.prop 31))] [.n, .p, .i, .i, .i, .n, .p, .n, .p] (.tup []) [((.b (.v 0)), (.cells [(.ptr (.v 33) 0), (.int .i64 (.v 35)), (.int .i64 (.v 36)), (.int .i64 (.v 37)), (.map (.v 38)), (.map (.v 40))] 113)), ((.b (.v 33)), (.prop 34)), ((.b (.v 38)), (.prop 39)), ((.b (.v 40)), (.prop 41))]
   (.ret (.w (.a (.int .i64 (.i 0)))) [((.b (.v 0)), (.cells [(.ptr (.v 33) 0), (.int .i64 (.v 35)), (.int .i64 (.v 36)), (.int .i64 (.v 37)), (.map (.v 38)), (.map (.v 40))] 113)), ((.b (.v 33)), (.prop 34)), ((.b (.v 38)), (.prop 39)), ((.b (.v 40)), (.prop 41))]))))))))))
theorem tree_uTrim : tree Try.prog { absT := [175, 183], opq := [], hv := [], keep := [103, 104, 73, 74, 95, 70, 71, 20, 38, 40, 106], link := [], ent := [], turn := [(105, [0])], shr := [], vt := [], mkd := [], rlink := [], pty := [] } Try.f63 [(.a (.ptr (.v 0) 0)), (.a (.int .i64 (.v 10))), (.a (.int .i64 (.v 11)))] [((.b (.v 0)), (.cells [(.ptr (.v 1) 0), (.int .i64 (.v 3)), (.int .i64 (.v 4)), (.int .i64 (.v 5)), (.map (.v 6)), (.map (.v 8))] 113)), ((.b (.v 1)), (.prop 2)), ((.b (.v 6)), (.prop 7)), ((.b (.v 8)), (.prop 9))] 12 = t_uTrim := by kernel_rfl
-- (*tideline/unit.Unit).Seal: ρ := [.n u, .n u_d, .p u_dP, .i u_epoch, .i u_low, .i u_top, .n u_cells, .p u_cellsP, .n u_instances, .p u_instancesP, .i epoch]
def t_uSeal : T :=
(.br (.o2 .le (.v 10) (.v 3))
 (.ret (.w (.a (.int .i64 (.i 8)))) [((.b (.v 0)), (.cells [(.ptr (.v 1) 0), (.int .i64 (.v 3)), (.int .i64 (.v 4)), (.int .i64 (.v 5)), (.map (.v 6)), (.map (.v 8))] 113)), ((.b (.v 1)), (.prop 2)), ((.b (.v 6)), (.prop 7)), ((.b (.v 8)), (.prop 9))])
 (.br (.o2 .lt (.i 2147483647) (.v 10))
  (.ret (.w (.a (.int .i64 (.i 1)))) [((.b (.v 0)), (.cells [(.ptr (.v 1) 0), (.int .i64 (.v 3)), (.int .i64 (.v 4)), (.int .i64 (.v 5)), (.map (.v 6)), (.map (.v 8))] 113)), ((.b (.v 1)), (.prop 2)), ((.b (.v 6)), (.prop 7)), ((.b (.v 8)), (.prop 9))])
  (.new
  (.call 76 [(.a (.int .u8 (.i 4))), (.a (.sl (.b (.v 11) 0) (.n 1) (.n 1)))] [((.b (.v 11)), (.cells [(.int .i64 (.v 10))] 3))] [.n, .p, .i] (.w (.a (.ptr (.v 12) 0))) [((.b (.v 12)), (.prop 13)), ((.b (.v 11)), (.cells [(.int .i64 (.v 14))] 3))]
  (.call 77 [(.a (.ptr (.v 12) 0))] [((.b (.v 12)), (.prop 13))] [.a, .n, .n, .p, .p] (.w (.a (.sl (.v 15) (.v 16) (.v 17)))) [((.a 15), (.prop 18)), ((.b (.v 12)), (.prop 19))]
  (.call 75 [(.a (.ptr (.v 0) 0)), (.a (.sl (.v 15) (.v 16) (.v 17)))] [((.b (.v 0)), (.cells [(.ptr (.v 1) 0), (.int .i64 (.v 3)), (.int .i64 (.v 4)), (.int .i64 (.v 5)), (.map (.v 6)), (.map (.v 8))] 113)), ((.b (.v 1)), (.prop 2)), ((.b (.v 6)), (.prop 7)), ((.b (.v 8)), (.prop 9)), ((.a 15), (.prop 18))] [.i, .n, .p, .i, .i, .i, .n, .p, .n, .p, .p] (.w (.a (.int .i64 (.v 20)))) [((.b (.v 0)), (.cells [(.ptr (.v 21) 0), (.int .i64 (.v 23)), (.int .i64 (.v 24)), (.int .i64 (.v 25)), (.map (.v 26)), (.map (.v 28))] 113)), ((.b (.v 21)), (.prop 22)), ((.b (.v 26)), (.prop 27)), ((.b (.v 28)), (.prop 29)), ((.a 15), (.prop 30))]
  (.br (.o1 .not (.o2 .eq (.v 20) (.i 0)))
   (.ret (.w (.a (.int .i64 (.v 20)))) [((.b (.v 0)), (.cells [(.ptr (.v 21) 0), (.int .i64 (.v 23)), (.int .i64 (.v 24)), (.int .i64 (.v 25)), (.map (.v 26)), (.map (.v 28))] 113)), ((.b (.v 21)), (.prop 22)), ((.b (.v 26)), (.prop 27)), ((.b (.v 28)), (.prop 29))])
   (.ret (.w (.a (.int .i64 (.i 0)))) [((.b (.v 0)), (.cells [(.ptr (.v 21) 0), (.int .i64 (.v 10)), (.int .i64 (.v 24)), (.int .i64 (.v 25)), (.map (.v 26)), (.map (.v 28))] 113)), ((.b (.v 21)), (.prop 22)), ((.b (.v 26)), (.prop 27)), ((.b (.v 28)), (.prop 29))]))))))))
theorem tree_uSeal : tree Try.prog { absT := [175, 183], opq := [], hv := [], keep := [103, 104, 73, 74, 95, 70, 71, 20, 38, 40, 106], link := [], ent := [], turn := [(105, [0])], shr := [], vt := [], mkd := [], rlink := [], pty := [] } Try.f65 [(.a (.ptr (.v 0) 0)), (.a (.int .i64 (.v 10)))] [((.b (.v 0)), (.cells [(.ptr (.v 1) 0), (.int .i64 (.v 3)), (.int .i64 (.v 4)), (.int .i64 (.v 5)), (.map (.v 6)), (.map (.v 8))] 113)), ((.b (.v 1)), (.prop 2)), ((.b (.v 6)), (.prop 7)), ((.b (.v 8)), (.prop 9))] 11 = t_uSeal := by kernel_rfl
-- (*tideline/unit.Unit).Promise: ρ := [.n u, .n u_d, .p u_dP, .i u_epoch, .i u_low, .i u_top, .n u_cells, .p u_cellsP, .n u_instances, .p u_instancesP, .i n, .i b_Round, .i b_Who]
def t_uPromise : T :=
(.new
(.new
(.call 73 [(.a (.int .i64 (.v 10))), (.agg [(.int .i64 (.v 11)), (.int .i64 (.v 12))])] [] [.c] (.w (.a (.bool (.v 15)))) []
(.br (.o1 .not (.v 15))
 (.ret (.tup [(.agg [(.int .i64 (.i 0)), (.int .i64 (.i 0))]), (.a (.sl .nil (.n 0) (.n 0))), (.a (.int .i64 (.i 1)))]) [((.b (.v 0)), (.cells [(.ptr (.v 1) 0), (.int .i64 (.v 3)), (.int .i64 (.v 4)), (.int .i64 (.v 5)), (.map (.v 6)), (.map (.v 8))] 113)), ((.b (.v 1)), (.prop 2)), ((.b (.v 6)), (.prop 7)), ((.b (.v 8)), (.prop 9))])
 (.op (.lookup 111 (.tmp 19) (.tmp 20) false) 133 [(19, (.w (.a (.map (.v 8))))), (20, (.w (.a (.int .i64 (.v 10)))))] [((.b (.v 8)), (.prop 9))] [.i, .i, .i, .i, .a, .n, .n, .p, .p] (.w (.agg [(.int .i64 (.v 16)), (.int .i64 (.v 17)), (.int .i64 (.v 18)), (.int .i64 (.v 19)), (.sl (.v 20) (.v 21) (.v 22))])) [((.a 20), (.prop 23)), ((.b (.v 8)), (.prop 24))]
 (.new
 (.call 74 [(.agg [(.int .i64 (.v 11)), (.int .i64 (.v 12))]), (.agg [(.int .i64 (.v 16)), (.int .i64 (.v 17))])] [] [.c] (.w (.a (.bool (.v 26)))) []
 (.br (.v 26)
  (.ret (.tup [(.agg [(.int .i64 (.i 0)), (.int .i64 (.i 0))]), (.a (.sl .nil (.n 0) (.n 0))), (.a (.int .i64 (.i 7)))]) [((.b (.v 0)), (.cells [(.ptr (.v 1) 0), (.int .i64 (.v 3)), (.int .i64 (.v 4)), (.int .i64 (.v 5)), (.map (.v 6)), (.map (.v 8))] 113)), ((.b (.v 1)), (.prop 2)), ((.b (.v 6)), (.prop 7)), ((.b (.v 8)), (.prop 24))])
  (.read (.binOp .neq 34 (.tmp 27) (.tmp 29) 34) 4 [(27, (.w (.agg [(.int .i64 (.v 11)), (.int .i64 (.v 12))]))), (29, (.w (.agg [(.int .i64 (.v 16)), (.int .i64 (.v 17))])))] [] [.c] (.w (.a (.bool (.v 27))))
  (.br (.v 27)
   (.new
   (.call 76 [(.a (.int .u8 (.i 5))), (.a (.sl (.b (.v 28) 0) (.n 3) (.n 3)))] [((.b (.v 28)), (.cells [(.int .i64 (.v 10)), (.int .i64 (.v 11)), (.int .i64 (.v 12))] 3))] [.n, .p, .i, .i, .i] (.w (.a (.ptr (.v 29) 0))) [((.b (.v 29)), (.prop 30)), ((.b (.v 28)), (.cells [(.int .i64 (.v 31)), (.int .i64 (.v 32)), (.int .i64 (.v 33))] 3))]
   (.call 77 [(.a (.ptr (.v 29) 0))] [((.b (.v 29)), (.prop 30))] [.a, .n, .n, .p, .p] (.w (.a (.sl (.v 34) (.v 35) (.v 36)))) [((.a 34), (.prop 37)), ((.b (.v 29)), (.prop 38))]
   (.call 75 [(.a (.ptr (.v 0) 0)), (.a (.sl (.v 34) (.v 35) (.v 36)))] [((.b (.v 0)), (.cells [(.ptr (.v 1) 0), (.int .i64 (.v 3)), (.int .i64 (.v 4)), (.int .i64 (.v 5)), (.map (.v 6)), (.map (.v 8))] 113)), ((.b (.v 1)), (.prop 2)), ((.b (.v 6)), (.prop 7)), ((.b (.v 8)), (.prop 24)), ((.a 34), (.prop 37))] [.i, .n, .p, .i, .i, .i, .n, .p, .n, .p, .p] (.w (.a (.int .i64 (.v 39)))) [((.b (.v 0)), (.cells [(.ptr (.v 40) 0), (.int .i64 (.v 42)), (.int .i64 (.v 43)), (.int .i64 (.v 44)), (.map (.v 45)), (.map (.v 47))] 113)), ((.b (.v 40)), (.prop 41)), ((.b (.v 45)), (.prop 46)), ((.b (.v 47)), (.prop 48)), ((.a 34), (.prop 49))]
   (.br (.o1 .not (.o2 .eq (.v 39) (.i 0)))
    (.ret (.tup [(.agg [(.int .i64 (.i 0)), (.int .i64 (.i 0))]), (.a (.sl .nil (.n 0) (.n 0))), (.a (.int .i64 (.v 39)))]) [((.b (.v 0)), (.cells [(.ptr (.v 40) 0), (.int .i64 (.v 42)), (.int .i64 (.v 43)), (.int .i64 (.v 44)), (.map (.v 45)), (.map (.v 47))] 113)), ((.b (.v 40)), (.prop 41)), ((.b (.v 45)), (.prop 46)), ((.b (.v 47)), (.prop 48))])
    (.call 78 [(.a (.ptr (.v 0) 0)), (.a (.int .i64 (.v 10))), (.agg [(.int .i64 (.v 11)), (.int .i64 (.v 12))])] [((.b (.v 0)), (.cells [(.ptr (.v 40) 0), (.int .i64 (.v 42)), (.int .i64 (.v 43)), (.int .i64 (.v 44)), (.map (.v 45)), (.map (.v 47))] 113)), ((.b (.v 40)), (.prop 41)), ((.b (.v 45)), (.prop 46)), ((.b (.v 47)), (.prop 48))] [.n, .p, .i, .i, .i, .n, .p, .n, .p] (.tup []) [((.b (.v 0)), (.cells [(.ptr (.v 50) 0), (.int .i64 (.v 52)), (.int .i64 (.v 53)), (.int .i64 (.v 54)), (.map (.v 55)), (.map (.v 57))] 113)), ((.b (.v 50)), (.prop 51)), ((.b (.v 55)), (.prop 56)), ((.b (.v 57)), (.prop 58))]
    (.call 72 [(.a (.sl (.v 20) (.v 21) (.v 22)))] [((.a 20), (.prop 23))] [.a, .n, .n, .p, .p] (.w (.a (.sl (.v 59) (.v 60) (.v 61)))) [((.a 59), (.prop 62)), ((.a 20), (.prop 63))]
    (.ret (.tup [(.agg [(.int .i64 (.v 18)), (.int .i64 (.v 19))]), (.a (.sl (.v 59) (.v 60) (.v 61))), (.a (.int .i64 (.i 0)))]) [((.b (.v 0)), (.cells [(.ptr (.v 50) 0), (.int .i64 (.v 52)), (.int .i64 (.v 53)), (.int .i64 (.v 54)), (.map (.v 55)), (.map (.v 57))] 113)), ((.b (.v 50)), (.prop 51)), ((.b (.v 55)), (.prop 56)), ((.b (.v 57)), (.prop 58)), ((.a 59), (.prop 62))]))))))))
   (.call 72 [(.a (.sl (.v 20) (.v 21) (.v 22)))] [((.a 20), (.prop 23)), ((.b (.v 8)), (.prop 24))] [.a, .n, .n, .p, .p, .p] (.w (.a (.sl (.v 28) (.v 29) (.v 30)))) [((.a 28), (.prop 31)), ((.a 20), (.prop 32)), ((.b (.v 8)), (.prop 33))]
   (.ret (.tup [(.agg [(.int .i64 (.v 18)), (.int .i64 (.v 19))]), (.a (.sl (.v 28) (.v 29) (.v 30))), (.a (.int .i64 (.i 0)))]) [((.b (.v 0)), (.cells [(.ptr (.v 1) 0), (.int .i64 (.v 3)), (.int .i64 (.v 4)), (.int .i64 (.v 5)), (.map (.v 6)), (.map (.v 8))] 113)), ((.b (.v 1)), (.prop 2)), ((.b (.v 6)), (.prop 7)), ((.b (.v 8)), (.prop 33)), ((.a 28), (.prop 31))]))))))))))))
theorem tree_uPromise : tree Try.prog { absT := [175, 183], opq := [], hv := [], keep := [103, 104, 73, 74, 95, 70, 71, 20, 38, 40, 106], link := [], ent := [], turn := [(105, [0])], shr := [], vt := [], mkd := [21], rlink := [], pty := [] } Try.f26 [(.a (.ptr (.v 0) 0)), (.a (.int .i64 (.v 10))), (.agg [(.int .i64 (.v 11)), (.int .i64 (.v 12))])] [((.b (.v 0)), (.cells [(.ptr (.v 1) 0), (.int .i64 (.v 3)), (.int .i64 (.v 4)), (.int .i64 (.v 5)), (.map (.v 6)), (.map (.v 8))] 113)), ((.b (.v 1)), (.prop 2)), ((.b (.v 6)), (.prop 7)), ((.b (.v 8)), (.prop 9))] 13 = t_uPromise := by kernel_rfl
-- (*tideline/unit.Unit).Accept: ρ := [.n u, .n u_d, .p u_dP, .i u_epoch, .i u_low, .i u_top, .n u_cells, .p u_cellsP, .n u_instances, .p u_instancesP, .i n, .i b_Round, .i b_Who, .a valuea, .n valuel, .n valuec, .p valueP]
def t_uAccept : T :=
(.new
(.call 73 [(.a (.int .i64 (.v 10))), (.agg [(.int .i64 (.v 11)), (.int .i64 (.v 12))])] [] [.c] (.w (.a (.bool (.v 18)))) []
(.br (.o1 .not (.v 18))
 (.ret (.w (.a (.int .i64 (.i 1)))) [((.b (.v 0)), (.cells [(.ptr (.v 1) 0), (.int .i64 (.v 3)), (.int .i64 (.v 4)), (.int .i64 (.v 5)), (.map (.v 6)), (.map (.v 8))] 113)), ((.b (.v 1)), (.prop 2)), ((.b (.v 6)), (.prop 7)), ((.b (.v 8)), (.prop 9)), ((.a 13), (.prop 16))])
 (.br (.o2 .lt (.i 1000) (.o1 .ofNat (.v 14)))
  (.ret (.w (.a (.int .i64 (.i 1)))) [((.b (.v 0)), (.cells [(.ptr (.v 1) 0), (.int .i64 (.v 3)), (.int .i64 (.v 4)), (.int .i64 (.v 5)), (.map (.v 6)), (.map (.v 8))] 113)), ((.b (.v 1)), (.prop 2)), ((.b (.v 6)), (.prop 7)), ((.b (.v 8)), (.prop 9)), ((.a 13), (.prop 16))])
  (.read (.lookup 111 (.tmp 24) (.tmp 25) false) 133 [(24, (.w (.a (.map (.v 8))))), (25, (.w (.a (.int .i64 (.v 10)))))] [((.b (.v 8)), (.prop 9))] [.i, .i, .i, .i, .a, .n, .n] (.w (.agg [(.int .i64 (.v 19)), (.int .i64 (.v 20)), (.int .i64 (.v 21)), (.int .i64 (.v 22)), (.sl (.v 23) (.v 24) (.v 25))]))
  (.call 74 [(.agg [(.int .i64 (.v 11)), (.int .i64 (.v 12))]), (.agg [(.int .i64 (.v 19)), (.int .i64 (.v 20))])] [] [.c] (.w (.a (.bool (.v 26)))) []
  (.br (.v 26)
   (.ret (.w (.a (.int .i64 (.i 7)))) [((.b (.v 0)), (.cells [(.ptr (.v 1) 0), (.int .i64 (.v 3)), (.int .i64 (.v 4)), (.int .i64 (.v 5)), (.map (.v 6)), (.map (.v 8))] 113)), ((.b (.v 1)), (.prop 2)), ((.b (.v 6)), (.prop 7)), ((.b (.v 8)), (.prop 9)), ((.a 13), (.prop 16))])
   (.new
   (.call 76 [(.a (.int .u8 (.i 6))), (.a (.sl (.b (.v 27) 0) (.n 3) (.n 3)))] [((.b (.v 27)), (.cells [(.int .i64 (.v 10)), (.int .i64 (.v 11)), (.int .i64 (.v 12))] 3))] [.n, .p, .i, .i, .i] (.w (.a (.ptr (.v 28) 0))) [((.b (.v 28)), (.prop 29)), ((.b (.v 27)), (.cells [(.int .i64 (.v 30)), (.int .i64 (.v 31)), (.int .i64 (.v 32))] 3))]
   (.call 82 [(.a (.ptr (.v 28) 0)), (.a (.sl (.v 13) (.v 14) (.v 15)))] [((.b (.v 28)), (.prop 29)), ((.a 13), (.prop 16))] [.p, .p] (.tup []) [((.b (.v 28)), (.prop 33)), ((.a 13), (.prop 34))]
   (.call 77 [(.a (.ptr (.v 28) 0))] [((.b (.v 28)), (.prop 33))] [.a, .n, .n, .p, .p] (.w (.a (.sl (.v 35) (.v 36) (.v 37)))) [((.a 35), (.prop 38)), ((.b (.v 28)), (.prop 39))]
   (.call 75 [(.a (.ptr (.v 0) 0)), (.a (.sl (.v 35) (.v 36) (.v 37)))] [((.b (.v 0)), (.cells [(.ptr (.v 1) 0), (.int .i64 (.v 3)), (.int .i64 (.v 4)), (.int .i64 (.v 5)), (.map (.v 6)), (.map (.v 8))] 113)), ((.b (.v 1)), (.prop 2)), ((.b (.v 6)), (.prop 7)), ((.b (.v 8)), (.prop 9)), ((.a 35), (.prop 38))] [.i, .n, .p, .i, .i, .i, .n, .p, .n, .p, .p] (.w (.a (.int .i64 (.v 40)))) [((.b (.v 0)), (.cells [(.ptr (.v 41) 0), (.int .i64 (.v 43)), (.int .i64 (.v 44)), (.int .i64 (.v 45)), (.map (.v 46)), (.map (.v 48))] 113)), ((.b (.v 41)), (.prop 42)), ((.b (.v 46)), (.prop 47)), ((.b (.v 48)), (.prop 49)), ((.a 35), (.prop 50))]
   (.br (.o1 .not (.o2 .eq (.v 40) (.i 0)))
    (.ret (.w (.a (.int .i64 (.v 40)))) [((.b (.v 0)), (.cells [(.ptr (.v 41) 0), (.int .i64 (.v 43)), (.int .i64 (.v 44)), (.int .i64 (.v 45)), (.map (.v 46)), (.map (.v 48))] 113)), ((.b (.v 41)), (.prop 42)), ((.b (.v 46)), (.prop 47)), ((.b (.v 48)), (.prop 49)), ((.a 13), (.prop 34))])
    (.call 83 [(.a (.ptr (.v 0) 0)), (.a (.int .i64 (.v 10))), (.agg [(.int .i64 (.v 11)), (.int .i64 (.v 12))]), (.a (.sl (.v 13) (.v 14) (.v 15)))] [((.b (.v 0)), (.cells [(.ptr (.v 41) 0), (.int .i64 (.v 43)), (.int .i64 (.v 44)), (.int .i64 (.v 45)), (.map (.v 46)), (.map (.v 48))] 113)), ((.b (.v 41)), (.prop 42)), ((.b (.v 46)), (.prop 47)), ((.b (.v 48)), (.prop 49)), ((.a 13), (.prop 34))] [.n, .p, .i, .i, .i, .n, .p, .n, .p, .p] (.tup []) [((.b (.v 0)), (.cells [(.ptr (.v 51) 0), (.int .i64 (.v 53)), (.int .i64 (.v 54)), (.int .i64 (.v 55)), (.map (.v 56)), (.map (.v 58))] 113)), ((.b (.v 51)), (.prop 52)), ((.b (.v 56)), (.prop 57)), ((.b (.v 58)), (.prop 59)), ((.a 13), (.prop 60))]
    (.ret (.w (.a (.int .i64 (.i 0)))) [((.b (.v 0)), (.cells [(.ptr (.v 51) 0), (.int .i64 (.v 53)), (.int .i64 (.v 54)), (.int .i64 (.v 55)), (.map (.v 56)), (.map (.v 58))] 113)), ((.b (.v 51)), (.prop 52)), ((.b (.v 56)), (.prop 57)), ((.b (.v 58)), (.prop 59)), ((.a 13), (.prop 60))])))))))))))))))
theorem tree_uAccept : tree Try.prog { absT := [175, 183], opq := [], hv := [], keep := [103, 104, 73, 74, 95, 70, 71, 20, 38, 40, 106], link := [], ent := [], turn := [(105, [0])], shr := [], vt := [], mkd := [], rlink := [], pty := [] } Try.f29 [(.a (.ptr (.v 0) 0)), (.a (.int .i64 (.v 10))), (.agg [(.int .i64 (.v 11)), (.int .i64 (.v 12))]), (.a (.sl (.v 13) (.v 14) (.v 15)))] [((.b (.v 0)), (.cells [(.ptr (.v 1) 0), (.int .i64 (.v 3)), (.int .i64 (.v 4)), (.int .i64 (.v 5)), (.map (.v 6)), (.map (.v 8))] 113)), ((.b (.v 1)), (.prop 2)), ((.b (.v 6)), (.prop 7)), ((.b (.v 8)), (.prop 9)), ((.a 13), (.prop 16))] 17 = t_uAccept := by kernel_rfl
end Go.Proofs.Ytmibmjehjagmbaa.RX
