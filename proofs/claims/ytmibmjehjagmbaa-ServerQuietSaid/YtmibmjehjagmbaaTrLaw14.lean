/- Trees of functions, printed by rx.lean. No condition. -/
import Derived.Test.YtmibmjehjagmbaaSndL
import Derived.KernelRfl
namespace Go.Proofs.Ytmibmjehjagmbaa.RX
set_option maxRecDepth 100000
-- tideline/tidelineref01.Same: ρ := [.a aa, .n al, .n ac, .p aP, .a ba, .n bl, .n bc, .p bP]
def t_same01 : T :=
(.br (.o1 .not (.o2 .eq (.o1 .ofNat (.v 1)) (.o1 .ofNat (.v 5))))
 (.ret (.w (.a (.bool (.c false)))) [((.a 0), (.prop 3)), ((.a 4), (.prop 7))])
 (.loop [.c, .i] [(.e (.o1 .not (.o1 .not (.c false)))), (.e (.o1 .neg (.o1 .neg (.i 0))))]
  (.br (.o2 .lt (.v 9) (.o1 .ofNat (.v 1)))
   (.need (.o2 .le (.i 0) (.v 9))
   (.need (.o1 .isSome (.v 0))
   (.need (.o2 .lt (.v 9) (.o1 .ofNat (.v 5)))
   (.need (.o1 .isSome (.v 4))
   (.all
    (.read (.load 5 (.tmp 19)) 5 [(19, (.w (.a (.eptr 0 (.v 9) 1 0))))] [((.a 0), (.prop 3))] [.i] (.w (.a (.int .u8 (.v 10))))
    (.read (.load 5 (.tmp 23)) 5 [(23, (.w (.a (.eptr 4 (.v 9) 1 0))))] [((.a 4), (.prop 7))] [.i] (.w (.a (.int .u8 (.v 11))))
    (.br (.o1 .not (.o2 .eq (.v 10) (.v 11)))
     (.ret (.w (.a (.bool (.c false)))) [((.a 0), (.prop 3)), ((.a 4), (.prop 7))])
     (.need (.o1 (.inr .i64) (.o2 .add (.v 9) (.i 1)))
     (.again 0 [(.e (.o1 .not (.o1 .not (.v 8)))), (.e (.o1 .neg (.o1 .neg (.o2 .add (.v 9) (.i 1)))))])))))
    (.read (.load 5 (.tmp 23)) 5 [(23, (.w (.a (.eptr 4 (.v 9) 1 0))))] [((.a 4), (.prop 7))] [.i] (.w (.a (.int .u8 (.v 10))))
    (.read (.load 5 (.tmp 19)) 5 [(19, (.w (.a (.eptr 0 (.v 9) 1 0))))] [((.a 0), (.prop 3))] [.i] (.w (.a (.int .u8 (.v 11))))
    (.br (.o1 .not (.o2 .eq (.v 11) (.v 10)))
     (.ret (.w (.a (.bool (.c false)))) [((.a 0), (.prop 3)), ((.a 4), (.prop 7))])
     (.need (.o1 (.inr .i64) (.o2 .add (.v 9) (.i 1)))
     (.again 0 [(.e (.o1 .not (.o1 .not (.v 8)))), (.e (.o1 .neg (.o1 .neg (.o2 .add (.v 9) (.i 1)))))]))))))))))
   (.ret (.w (.a (.bool (.c true)))) [((.a 0), (.prop 3)), ((.a 4), (.prop 7))]))))
theorem tree_same01 : tree Try.prog { absT := [], opq := [], hv := [], keep := [20, 38, 40, 43, 21, 46, 68, 34], link := [(17, 0)], ent := [], turn := [(45, [0])], shr := [], vt := [], mkd := [], rlink := [(44, 0, 1)], pty := [] } Try.f68 [(.a (.sl (.v 0) (.v 1) (.v 2))), (.a (.sl (.v 4) (.v 5) (.v 6)))] [((.a 0), (.prop 3)), ((.a 4), (.prop 7))] 8 = t_same01 := by kernel_rfl
-- tideline/tidelineref09.SameCell: ρ := [.i a_What, .a a_Dataa, .n a_Datal, .n a_Datac, .p a_DataP, .i b_What, .a b_Dataa, .n b_Datal, .n b_Datac, .p b_DataP]
def t_sameCell : T :=
(.new
(.new
(.br (.o2 .eq (.v 0) (.v 5))
 (.call 68 [(.a (.sl (.v 1) (.v 2) (.v 3))), (.a (.sl (.v 6) (.v 7) (.v 8)))] [((.a 1), (.prop 4)), ((.a 6), (.prop 9))] [.c] (.w (.a (.bool (.v 12)))) [((.a 1), (.prop 4)), ((.a 6), (.prop 9))]
 (.ret (.w (.a (.bool (.v 12)))) [((.a 1), (.prop 4)), ((.a 6), (.prop 9))]))
 (.ret (.w (.a (.bool (.c false)))) [((.a 1), (.prop 4)), ((.a 6), (.prop 9))]))))
theorem tree_sameCell : tree Try.prog { absT := [], opq := [], hv := [], keep := [20, 38, 40, 43, 21, 46, 68, 34], link := [(17, 0)], ent := [], turn := [(45, [0])], shr := [], vt := [], mkd := [], rlink := [(44, 0, 1)], pty := [] } Try.f21 [(.agg [(.int .i64 (.v 0)), (.sl (.v 1) (.v 2) (.v 3))]), (.agg [(.int .i64 (.v 5)), (.sl (.v 6) (.v 7) (.v 8))])] [((.a 1), (.prop 4)), ((.a 6), (.prop 9))] 10 = t_sameCell := by kernel_rfl
-- tideline/tidelineref12.Same: ρ := [.i a_From, .i a_To, .i a_Number, .c a_Reply, .i a_Kind, .i a_Epoch, .i a_At, .i a_Cell_What, .a a_Cell_Dataa, .n a_Cell_Datal, .n a_Cell_Datac, .p a_Cell_DataP, .i a_Ballot_Round, .i a_Ballot_Who, .a a_Valuea, .n a_Valuel, .n a_Valuec, .p a_ValueP, .i a_Err, .i a_Tail, .i a_Low, .i a_Back, .i b_From, .i b_To, .i b_Number, .c b_Reply, .i b_Kind, .i b_Epoch, .i b_At, .i b_Cell_What, .a b_Cell_Dataa, .n b_Cell_Datal, .n b_Cell_Datac, .p b_Cell_DataP, .i b_Ballot_Round, .i b_Ballot_Who, .a b_Valuea, .n b_Valuel, .n b_Valuec, .p b_ValueP, .i b_Err, .i b_Tail, .i b_Low, .i b_Back]
def t_same12 : T :=
(.new
(.new
(.br (.o1 .not (.o2 .eq (.v 0) (.v 22)))
 (.ret (.w (.a (.bool (.c false)))) [((.a 8), (.prop 11)), ((.a 14), (.prop 17)), ((.a 30), (.prop 33)), ((.a 36), (.prop 39))])
 (.br (.o1 .not (.o2 .eq (.v 1) (.v 23)))
  (.ret (.w (.a (.bool (.c false)))) [((.a 8), (.prop 11)), ((.a 14), (.prop 17)), ((.a 30), (.prop 33)), ((.a 36), (.prop 39))])
  (.br (.o1 .not (.o2 .eq (.v 2) (.v 24)))
   (.ret (.w (.a (.bool (.c false)))) [((.a 8), (.prop 11)), ((.a 14), (.prop 17)), ((.a 30), (.prop 33)), ((.a 36), (.prop 39))])
   (.br (.o1 .not (.o2 .beq (.v 3) (.v 25)))
    (.ret (.w (.a (.bool (.c false)))) [((.a 8), (.prop 11)), ((.a 14), (.prop 17)), ((.a 30), (.prop 33)), ((.a 36), (.prop 39))])
    (.br (.o1 .not (.o2 .eq (.v 4) (.v 26)))
     (.ret (.w (.a (.bool (.c false)))) [((.a 8), (.prop 11)), ((.a 14), (.prop 17)), ((.a 30), (.prop 33)), ((.a 36), (.prop 39))])
     (.br (.o1 .not (.o2 .eq (.v 5) (.v 27)))
      (.ret (.w (.a (.bool (.c false)))) [((.a 8), (.prop 11)), ((.a 14), (.prop 17)), ((.a 30), (.prop 33)), ((.a 36), (.prop 39))])
      (.br (.o1 .not (.o2 .eq (.v 6) (.v 28)))
       (.ret (.w (.a (.bool (.c false)))) [((.a 8), (.prop 11)), ((.a 14), (.prop 17)), ((.a 30), (.prop 33)), ((.a 36), (.prop 39))])
       (.call 21 [(.agg [(.int .i64 (.v 7)), (.sl (.v 8) (.v 9) (.v 10))]), (.agg [(.int .i64 (.v 29)), (.sl (.v 30) (.v 31) (.v 32))])] [((.a 8), (.prop 11)), ((.a 30), (.prop 33))] [.c] (.w (.a (.bool (.v 46)))) [((.a 8), (.prop 11)), ((.a 30), (.prop 33))]
       (.br (.v 46)
        (.read (.binOp .eql 34 (.tmp 59) (.tmp 61) 34) 4 [(59, (.w (.agg [(.int .i64 (.v 12)), (.int .i64 (.v 13))]))), (61, (.w (.agg [(.int .i64 (.v 34)), (.int .i64 (.v 35))])))] [] [.c] (.w (.a (.bool (.v 47))))
        (.br (.v 47)
         (.call 68 [(.a (.sl (.v 14) (.v 15) (.v 16))), (.a (.sl (.v 36) (.v 37) (.v 38)))] [((.a 14), (.prop 17)), ((.a 36), (.prop 39))] [.c] (.w (.a (.bool (.v 48)))) [((.a 14), (.prop 17)), ((.a 36), (.prop 39))]
         (.br (.v 48)
          (.br (.o2 .eq (.v 18) (.v 40))
           (.br (.o2 .eq (.v 19) (.v 41))
            (.br (.o2 .eq (.v 20) (.v 42))
             (.ret (.w (.a (.bool (.o2 .eq (.v 21) (.v 43))))) [((.a 8), (.prop 11)), ((.a 14), (.prop 17)), ((.a 30), (.prop 33)), ((.a 36), (.prop 39))])
             (.ret (.w (.a (.bool (.c false)))) [((.a 8), (.prop 11)), ((.a 14), (.prop 17)), ((.a 30), (.prop 33)), ((.a 36), (.prop 39))]))
            (.ret (.w (.a (.bool (.c false)))) [((.a 8), (.prop 11)), ((.a 14), (.prop 17)), ((.a 30), (.prop 33)), ((.a 36), (.prop 39))]))
           (.ret (.w (.a (.bool (.c false)))) [((.a 8), (.prop 11)), ((.a 14), (.prop 17)), ((.a 30), (.prop 33)), ((.a 36), (.prop 39))]))
          (.ret (.w (.a (.bool (.c false)))) [((.a 8), (.prop 11)), ((.a 14), (.prop 17)), ((.a 30), (.prop 33)), ((.a 36), (.prop 39))])))
         (.ret (.w (.a (.bool (.c false)))) [((.a 8), (.prop 11)), ((.a 14), (.prop 17)), ((.a 30), (.prop 33)), ((.a 36), (.prop 39))])))
        (.ret (.w (.a (.bool (.c false)))) [((.a 8), (.prop 11)), ((.a 14), (.prop 17)), ((.a 30), (.prop 33)), ((.a 36), (.prop 39))]))))))))))))
theorem tree_same12 : tree Try.prog { absT := [], opq := [], hv := [], keep := [20, 38, 40, 43, 21, 46, 68, 34], link := [(17, 0)], ent := [], turn := [(45, [0])], shr := [], vt := [], mkd := [], rlink := [(44, 0, 1)], pty := [] } Try.f46 [(.agg [(.int .i64 (.v 0)), (.int .i64 (.v 1)), (.int .i64 (.v 2)), (.bool (.v 3)), (.int .i64 (.v 4)), (.int .i64 (.v 5)), (.int .i64 (.v 6)), (.int .i64 (.v 7)), (.sl (.v 8) (.v 9) (.v 10)), (.int .i64 (.v 12)), (.int .i64 (.v 13)), (.sl (.v 14) (.v 15) (.v 16)), (.int .i64 (.v 18)), (.int .i64 (.v 19)), (.int .i64 (.v 20)), (.int .i64 (.v 21))]), (.agg [(.int .i64 (.v 22)), (.int .i64 (.v 23)), (.int .i64 (.v 24)), (.bool (.v 25)), (.int .i64 (.v 26)), (.int .i64 (.v 27)), (.int .i64 (.v 28)), (.int .i64 (.v 29)), (.sl (.v 30) (.v 31) (.v 32)), (.int .i64 (.v 34)), (.int .i64 (.v 35)), (.sl (.v 36) (.v 37) (.v 38)), (.int .i64 (.v 40)), (.int .i64 (.v 41)), (.int .i64 (.v 42)), (.int .i64 (.v 43))])] [((.a 8), (.prop 11)), ((.a 14), (.prop 17)), ((.a 30), (.prop 33)), ((.a 36), (.prop 39))] 44 = t_same12 := by kernel_rfl
-- tideline/tidelinelaw14.laid: ρ := [.i size]
def t_laid14 : T :=
(.call 23 [(.a (.int .i64 (.v 0)))] [] [.n, .p, .i] (.tup [(.a (.ptr (.v 1) 0)), (.a (.int .i64 (.v 3)))]) [((.b (.v 1)), (.prop 2))]
(.br (.o1 .not (.o2 .eq (.v 3) (.i 0)))
 (.ret (.tup [(.a .nilp), (.a .nilp)]) [])
 (.call 17 [(.a (.ptr (.v 1) 0))] [((.b (.v 1)), (.prop 2))] [.n, .p, .i, .p] (.tup [(.a (.ptr (.v 4) 0)), (.a (.int .i64 (.v 6)))]) [((.b (.v 4)), (.prop 5)), ((.b (.v 1)), (.prop 7))]
 (.br (.o1 .not (.o2 .eq (.v 6) (.i 0)))
  (.ret (.tup [(.a (.ptr (.v 1) 0)), (.a .nilp)]) [((.b (.v 1)), (.prop 7))])
  (.ret (.tup [(.a (.ptr (.v 1) 0)), (.a (.ptr (.v 4) 0))]) [((.b (.v 1)), (.prop 7)), ((.b (.v 4)), (.prop 5))])))))
theorem tree_laid14 : tree Try.prog { absT := [], opq := [], hv := [], keep := [20, 38, 40, 43, 21, 46, 68, 34], link := [(17, 0)], ent := [], turn := [(45, [0])], shr := [], vt := [], mkd := [], rlink := [(44, 0, 1)], pty := [] } Try.f44 [(.a (.int .i64 (.v 0)))] [] 1 = t_laid14 := by kernel_rfl
-- tideline/tidelinelaw14.great: ρ := [.a lista, .n listl, .n listc, .p listP]
def t_great14 : T :=
(.br (.o2 .lt (.i 60) (.o1 .ofNat (.v 1)))
 (.ret (.w (.a (.bool (.c true)))) [((.a 0), (.prop 3))])
 (.loop [.c, .i] [(.e (.o1 .not (.o1 .not (.c false)))), (.e (.o1 .neg (.o1 .neg (.i 0))))]
  (.br (.o2 .lt (.v 5) (.o1 .ofNat (.v 1)))
   (.need (.o2 .le (.i 0) (.v 5))
   (.need (.o1 .isSome (.v 0))
   (.read (.load 80 (.tmp 12)) 80 [(12, (.w (.a (.eptr 0 (.v 5) 16 0))))] [((.a 0), (.prop 3))] [.i, .i, .i, .c, .i, .i, .i, .i, .a, .n, .n, .i, .i, .a, .n, .n, .i, .i, .i, .i] (.w (.agg [(.int .i64 (.v 6)), (.int .i64 (.v 7)), (.int .i64 (.v 8)), (.bool (.v 9)), (.int .i64 (.v 10)), (.int .i64 (.v 11)), (.int .i64 (.v 12)), (.int .i64 (.v 13)), (.sl (.v 14) (.v 15) (.v 16)), (.int .i64 (.v 17)), (.int .i64 (.v 18)), (.sl (.v 19) (.v 20) (.v 21)), (.int .i64 (.v 22)), (.int .i64 (.v 23)), (.int .i64 (.v 24)), (.int .i64 (.v 25))]))
   (.new
   (.br (.o2 .lt (.i 1000) (.o1 .ofNat (.v 15)))
    (.ret (.w (.a (.bool (.c true)))) [((.a 0), (.prop 3))])
    (.br (.o2 .lt (.i 1500) (.o1 .ofNat (.v 20)))
     (.ret (.w (.a (.bool (.c true)))) [((.a 0), (.prop 3))])
     (.need (.o1 (.inr .i64) (.o2 .add (.v 5) (.i 1)))
     (.again 0 [(.e (.o1 .not (.o1 .not (.v 4)))), (.e (.o1 .neg (.o1 .neg (.o2 .add (.v 5) (.i 1)))))]))))))))
   (.ret (.w (.a (.bool (.c false)))) [((.a 0), (.prop 3))]))))
theorem tree_great14 : tree Try.prog { absT := [], opq := [], hv := [], keep := [20, 38, 40, 43, 21, 46, 68, 34], link := [(17, 0)], ent := [], turn := [(45, [0])], shr := [], vt := [], mkd := [], rlink := [(44, 0, 1)], pty := [] } Try.f43 [(.a (.sl (.v 0) (.v 1) (.v 2)))] [((.a 0), (.prop 3))] 4 = t_great14 := by kernel_rfl
-- tideline/tidelinelaw14.speaks: ρ := []
def t_speaks14 : T :=
(.call 44 [(.a (.int .i64 (.i 9)))] [] [.n, .p, .n, .p] (.tup [(.a (.ptr (.v 0) 0)), (.a (.ptr (.v 2) 0))]) [((.b (.v 0)), (.prop 1)), ((.b (.v 2)), (.prop 3))]
(.new
(.call 45 [(.a (.ptr (.v 2) 0)), (.agg [(.int .i64 (.i 1)), (.int .i64 (.i 0)), (.int .i64 (.i 0)), (.bool (.c false)), (.int .i64 (.i 4)), (.int .i64 (.i 3)), (.int .i64 (.i 0)), (.int .i64 (.i 0)), (.sl .nil (.n 0) (.n 0)), (.int .i64 (.i 0)), (.int .i64 (.i 0)), (.sl .nil (.n 0) (.n 0)), (.int .i64 (.i 0)), (.int .i64 (.i 0)), (.int .i64 (.i 0)), (.int .i64 (.i 0))])] [((.b (.v 2)), (.prop 3))] [.i, .i, .i, .c, .i, .i, .i, .i, .a, .n, .n, .p, .i, .i, .a, .n, .n, .p, .i, .i, .i, .i, .c, .p] (.tup [(.agg [(.int .i64 (.v 5)), (.int .i64 (.v 6)), (.int .i64 (.v 7)), (.bool (.v 8)), (.int .i64 (.v 9)), (.int .i64 (.v 10)), (.int .i64 (.v 11)), (.int .i64 (.v 12)), (.sl (.v 13) (.v 14) (.v 15)), (.int .i64 (.v 17)), (.int .i64 (.v 18)), (.sl (.v 19) (.v 20) (.v 21)), (.int .i64 (.v 23)), (.int .i64 (.v 24)), (.int .i64 (.v 25)), (.int .i64 (.v 26))]), (.a (.bool (.v 27)))]) [((.a 13), (.prop 16)), ((.a 19), (.prop 22)), ((.b (.v 2)), (.prop 28))]
(.new
(.call 45 [(.a (.ptr (.v 2) 0)), (.agg [(.int .i64 (.i 1)), (.int .i64 (.i 0)), (.int .i64 (.i 0)), (.bool (.c false)), (.int .i64 (.i 4)), (.int .i64 (.i 3)), (.int .i64 (.i 0)), (.int .i64 (.i 0)), (.sl .nil (.n 0) (.n 0)), (.int .i64 (.i 0)), (.int .i64 (.i 0)), (.sl .nil (.n 0) (.n 0)), (.int .i64 (.i 0)), (.int .i64 (.i 0)), (.int .i64 (.i 0)), (.int .i64 (.i 0))])] [((.b (.v 2)), (.prop 28))] [.i, .i, .i, .c, .i, .i, .i, .i, .a, .n, .n, .p, .i, .i, .a, .n, .n, .p, .i, .i, .i, .i, .c, .p] (.tup [(.agg [(.int .i64 (.v 30)), (.int .i64 (.v 31)), (.int .i64 (.v 32)), (.bool (.v 33)), (.int .i64 (.v 34)), (.int .i64 (.v 35)), (.int .i64 (.v 36)), (.int .i64 (.v 37)), (.sl (.v 38) (.v 39) (.v 40)), (.int .i64 (.v 42)), (.int .i64 (.v 43)), (.sl (.v 44) (.v 45) (.v 46)), (.int .i64 (.v 48)), (.int .i64 (.v 49)), (.int .i64 (.v 50)), (.int .i64 (.v 51))]), (.a (.bool (.v 52)))]) [((.a 38), (.prop 41)), ((.a 44), (.prop 47)), ((.b (.v 2)), (.prop 53))]
(.new
(.br (.v 27)
 (.br (.v 52)
  (.br (.o2 .eq (.v 23) (.i 0))
   (.br (.o2 .eq (.v 48) (.i 0))
    (.br (.o2 .eq (.v 31) (.i 1))
     (.ret (.w (.a (.bool (.o2 .eq (.v 51) (.i 3))))) [])
     (.ret (.w (.a (.bool (.c false)))) []))
    (.ret (.w (.a (.bool (.c false)))) []))
   (.ret (.w (.a (.bool (.c false)))) []))
  (.ret (.w (.a (.bool (.c false)))) []))
 (.ret (.w (.a (.bool (.c false)))) []))))))))
theorem tree_speaks14 : tree Try.prog { absT := [], opq := [], hv := [], keep := [20, 38, 40, 43, 21, 46, 68, 34], link := [(17, 0)], ent := [], turn := [(45, [0])], shr := [], vt := [], mkd := [], rlink := [(44, 0, 1)], pty := [] } Try.f42 [] [] 0 = t_speaks14 := by kernel_rfl
-- tideline/tidelinelaw14.ServerQuiet: ρ := [.a lista, .n listl, .n listc, .p listP]
def t_quiet : T :=
(.call 42 [] [] [.c] (.w (.a (.bool (.v 4)))) []
(.br (.o1 .not (.v 4))
 (.ret (.w (.a (.bool (.c false)))) [((.a 0), (.prop 3))])
 (.call 43 [(.a (.sl (.v 0) (.v 1) (.v 2)))] [((.a 0), (.prop 3))] [.c] (.w (.a (.bool (.v 5)))) [((.a 0), (.prop 3))]
 (.br (.v 5)
  (.ret (.w (.a (.bool (.c true)))) [((.a 0), (.prop 3))])
  (.call 44 [(.a (.int .i64 (.i 200)))] [] [.n, .p, .n, .p] (.tup [(.a (.ptr (.v 6) 0)), (.a (.ptr (.v 8) 0))]) [((.b (.v 6)), (.prop 7)), ((.b (.v 8)), (.prop 9))]
  (.loop [.c, .i, .p] [(.e (.o1 .not (.o1 .not (.c false)))), (.e (.o1 .neg (.o1 .neg (.i 0)))), (.p [((.b (.v 8)), (.prop 9))])]
   (.br (.o2 .lt (.v 11) (.o1 .ofNat (.v 1)))
    (.need (.o2 .le (.i 0) (.v 11))
    (.need (.o1 .isSome (.v 0))
    (.read (.load 80 (.tmp 24)) 80 [(24, (.w (.a (.eptr 0 (.v 11) 16 0))))] [((.a 0), (.prop 3))] [.i, .i, .i, .c, .i, .i, .i, .i, .a, .n, .n, .i, .i, .a, .n, .n, .i, .i, .i, .i] (.w (.agg [(.int .i64 (.v 13)), (.int .i64 (.v 14)), (.int .i64 (.v 15)), (.bool (.v 16)), (.int .i64 (.v 17)), (.int .i64 (.v 18)), (.int .i64 (.v 19)), (.int .i64 (.v 20)), (.sl (.v 21) (.v 22) (.v 23)), (.int .i64 (.v 24)), (.int .i64 (.v 25)), (.sl (.v 26) (.v 27) (.v 28)), (.int .i64 (.v 29)), (.int .i64 (.v 30)), (.int .i64 (.v 31)), (.int .i64 (.v 32))]))
    (.new
    (.call 34 [(.a (.ptr (.v 6) 0))] [((.b (.v 6)), (.prop 7)), ((.b (.v 8)), (.prop 12))] [.a, .n, .n, .p] (.w (.a (.sl (.v 34) (.v 35) (.v 36)))) [((.a 34), (.prop 37)), ((.b (.v 6)), (.prop 7)), ((.b (.v 8)), (.prop 12))]
    (.call 45 [(.a (.ptr (.v 8) 0)), (.agg [(.int .i64 (.v 13)), (.int .i64 (.v 14)), (.int .i64 (.v 15)), (.bool (.v 16)), (.int .i64 (.v 17)), (.int .i64 (.v 18)), (.int .i64 (.v 19)), (.int .i64 (.v 20)), (.sl (.v 21) (.v 22) (.v 23)), (.int .i64 (.v 24)), (.int .i64 (.v 25)), (.sl (.v 26) (.v 27) (.v 28)), (.int .i64 (.v 29)), (.int .i64 (.v 30)), (.int .i64 (.v 31)), (.int .i64 (.v 32))])] [((.b (.v 8)), (.prop 12)), ((.a 0), (.prop 3))] [.i, .i, .i, .c, .i, .i, .i, .i, .a, .n, .n, .p, .i, .i, .a, .n, .n, .p, .i, .i, .i, .i, .c, .p] (.tup [(.agg [(.int .i64 (.v 38)), (.int .i64 (.v 39)), (.int .i64 (.v 40)), (.bool (.v 41)), (.int .i64 (.v 42)), (.int .i64 (.v 43)), (.int .i64 (.v 44)), (.int .i64 (.v 45)), (.sl (.v 46) (.v 47) (.v 48)), (.int .i64 (.v 50)), (.int .i64 (.v 51)), (.sl (.v 52) (.v 53) (.v 54)), (.int .i64 (.v 56)), (.int .i64 (.v 57)), (.int .i64 (.v 58)), (.int .i64 (.v 59))]), (.a (.bool (.v 60)))]) [((.a 46), (.prop 49)), ((.a 52), (.prop 55)), ((.b (.v 8)), (.prop 61)), ((.a 0), (.prop 3))]
    (.new
    (.br (.o1 .not (.v 60))
     (.call 34 [(.a (.ptr (.v 6) 0))] [((.b (.v 6)), (.prop 7)), ((.b (.v 8)), (.prop 61))] [.a, .n, .n, .p] (.w (.a (.sl (.v 63) (.v 64) (.v 65)))) [((.a 63), (.prop 66)), ((.b (.v 6)), (.prop 7)), ((.b (.v 8)), (.prop 61))]
     (.br (.o1 .not (.o2 .eq (.o1 .ofNat (.v 64)) (.o1 .ofNat (.v 35))))
      (.ret (.w (.a (.bool (.c false)))) [((.a 0), (.prop 3))])
      (.call 46 [(.agg [(.int .i64 (.v 38)), (.int .i64 (.v 39)), (.int .i64 (.v 40)), (.bool (.v 41)), (.int .i64 (.v 42)), (.int .i64 (.v 43)), (.int .i64 (.v 44)), (.int .i64 (.v 45)), (.sl (.v 46) (.v 47) (.v 48)), (.int .i64 (.v 50)), (.int .i64 (.v 51)), (.sl (.v 52) (.v 53) (.v 54)), (.int .i64 (.v 56)), (.int .i64 (.v 57)), (.int .i64 (.v 58)), (.int .i64 (.v 59))]), (.agg [(.int .i64 (.i 0)), (.int .i64 (.i 0)), (.int .i64 (.i 0)), (.bool (.c false)), (.int .i64 (.i 0)), (.int .i64 (.i 0)), (.int .i64 (.i 0)), (.int .i64 (.i 0)), (.sl .nil (.n 0) (.n 0)), (.int .i64 (.i 0)), (.int .i64 (.i 0)), (.sl .nil (.n 0) (.n 0)), (.int .i64 (.i 0)), (.int .i64 (.i 0)), (.int .i64 (.i 0)), (.int .i64 (.i 0))])] [((.a 46), (.prop 49)), ((.a 52), (.prop 55))] [.c] (.w (.a (.bool (.v 67)))) [((.a 46), (.prop 49)), ((.a 52), (.prop 55))]
      (.br (.o1 .not (.v 67))
       (.ret (.w (.a (.bool (.c false)))) [((.a 0), (.prop 3))])
       (.need (.o1 (.inr .i64) (.o2 .add (.v 11) (.i 1)))
       (.again 0 [(.e (.o1 .not (.o1 .not (.v 10)))), (.e (.o1 .neg (.o1 .neg (.o2 .add (.v 11) (.i 1))))), (.p [((.b (.v 8)), (.prop 61))])]))))))
     (.br (.o1 .not (.o2 .eq (.v 56) (.i 0)))
      (.call 34 [(.a (.ptr (.v 6) 0))] [((.b (.v 6)), (.prop 7)), ((.b (.v 8)), (.prop 61))] [.a, .n, .n, .p] (.w (.a (.sl (.v 63) (.v 64) (.v 65)))) [((.a 63), (.prop 66)), ((.b (.v 6)), (.prop 7)), ((.b (.v 8)), (.prop 61))]
      (.br (.o1 .not (.o2 .eq (.o1 .ofNat (.v 64)) (.o1 .ofNat (.v 35))))
       (.ret (.w (.a (.bool (.c false)))) [((.a 0), (.prop 3))])
       (.br (.o1 .not (.v 41))
        (.ret (.w (.a (.bool (.c false)))) [((.a 0), (.prop 3))])
        (.br (.o1 .not (.o2 .eq (.v 38) (.v 14)))
         (.ret (.w (.a (.bool (.c false)))) [((.a 0), (.prop 3))])
         (.br (.o1 .not (.o2 .eq (.v 39) (.v 13)))
          (.ret (.w (.a (.bool (.c false)))) [((.a 0), (.prop 3))])
          (.br (.o1 .not (.o2 .eq (.v 40) (.v 15)))
           (.ret (.w (.a (.bool (.c false)))) [((.a 0), (.prop 3))])
           (.br (.o1 .not (.o2 .eq (.v 42) (.v 17)))
            (.ret (.w (.a (.bool (.c false)))) [((.a 0), (.prop 3))])
            (.br (.o1 .not (.o2 .eq (.v 44) (.v 19)))
             (.ret (.w (.a (.bool (.c false)))) [((.a 0), (.prop 3))])
             (.br (.o1 .not (.o2 .eq (.v 43) (.v 18)))
              (.ret (.w (.a (.bool (.c false)))) [((.a 0), (.prop 3))])
              (.call 38 [(.a (.ptr (.v 8) 0))] [((.b (.v 8)), (.prop 61))] [.i] (.w (.a (.int .i64 (.v 67)))) [((.b (.v 8)), (.prop 61))]
              (.br (.o1 .not (.o2 .eq (.v 58) (.v 67)))
               (.ret (.w (.a (.bool (.c false)))) [((.a 0), (.prop 3))])
               (.call 20 [(.a (.ptr (.v 8) 0))] [((.b (.v 8)), (.prop 61))] [.i] (.w (.a (.int .i64 (.v 68)))) [((.b (.v 8)), (.prop 61))]
               (.br (.o1 .not (.o2 .eq (.v 59) (.v 68)))
                (.ret (.w (.a (.bool (.c false)))) [((.a 0), (.prop 3))])
                (.need (.o1 (.inr .i64) (.o2 .add (.v 11) (.i 1)))
                (.again 0 [(.e (.o1 .not (.o1 .not (.v 10)))), (.e (.o1 .neg (.o1 .neg (.o2 .add (.v 11) (.i 1))))), (.p [((.b (.v 8)), (.prop 61))])])))))))))))))))
      (.br (.o1 .not (.v 41))
       (.ret (.w (.a (.bool (.c false)))) [((.a 0), (.prop 3))])
       (.br (.o1 .not (.o2 .eq (.v 38) (.v 14)))
        (.ret (.w (.a (.bool (.c false)))) [((.a 0), (.prop 3))])
        (.br (.o1 .not (.o2 .eq (.v 39) (.v 13)))
         (.ret (.w (.a (.bool (.c false)))) [((.a 0), (.prop 3))])
         (.br (.o1 .not (.o2 .eq (.v 40) (.v 15)))
          (.ret (.w (.a (.bool (.c false)))) [((.a 0), (.prop 3))])
          (.br (.o1 .not (.o2 .eq (.v 42) (.v 17)))
           (.ret (.w (.a (.bool (.c false)))) [((.a 0), (.prop 3))])
           (.br (.o1 .not (.o2 .eq (.v 44) (.v 19)))
            (.ret (.w (.a (.bool (.c false)))) [((.a 0), (.prop 3))])
            (.br (.o1 .not (.o2 .eq (.v 43) (.v 18)))
             (.ret (.w (.a (.bool (.c false)))) [((.a 0), (.prop 3))])
             (.call 38 [(.a (.ptr (.v 8) 0))] [((.b (.v 8)), (.prop 61))] [.i] (.w (.a (.int .i64 (.v 63)))) [((.b (.v 8)), (.prop 61))]
             (.br (.o1 .not (.o2 .eq (.v 58) (.v 63)))
              (.ret (.w (.a (.bool (.c false)))) [((.a 0), (.prop 3))])
              (.call 20 [(.a (.ptr (.v 8) 0))] [((.b (.v 8)), (.prop 61))] [.i] (.w (.a (.int .i64 (.v 64)))) [((.b (.v 8)), (.prop 61))]
              (.br (.o1 .not (.o2 .eq (.v 59) (.v 64)))
               (.ret (.w (.a (.bool (.c false)))) [((.a 0), (.prop 3))])
               (.need (.o1 (.inr .i64) (.o2 .add (.v 11) (.i 1)))
               (.again 0 [(.e (.o1 .not (.o1 .not (.v 10)))), (.e (.o1 .neg (.o1 .neg (.o2 .add (.v 11) (.i 1))))), (.p [((.b (.v 8)), (.prop 61))])]))))))))))))))))))))))
    (.ret (.w (.a (.bool (.c true)))) [((.a 0), (.prop 3))]))))))))
theorem tree_quiet : tree Try.prog { absT := [], opq := [], hv := [(0, [(.b (.v 8))])], keep := [20, 38, 40, 43, 21, 46, 68, 34], link := [(17, 0)], ent := [], turn := [(45, [0])], shr := [], vt := [], mkd := [], rlink := [(44, 0, 1)], pty := [] } Try.f8 [(.a (.sl (.v 0) (.v 1) (.v 2)))] [((.a 0), (.prop 3))] 4 = t_quiet := by kernel_rfl
-- tideline/tidelinelaw14.ServerAgain: ρ := [.a lista, .n listl, .n listc, .p listP]
def t_again : T :=
(.call 42 [] [] [.c] (.w (.a (.bool (.v 4)))) []
(.br (.o1 .not (.v 4))
 (.ret (.w (.a (.bool (.c false)))) [((.a 0), (.prop 3))])
 (.call 43 [(.a (.sl (.v 0) (.v 1) (.v 2)))] [((.a 0), (.prop 3))] [.c] (.w (.a (.bool (.v 5)))) [((.a 0), (.prop 3))]
 (.br (.v 5)
  (.ret (.w (.a (.bool (.c true)))) [((.a 0), (.prop 3))])
  (.call 44 [(.a (.int .i64 (.i 400)))] [] [.n, .p, .n, .p] (.tup [(.a (.ptr (.v 6) 0)), (.a (.ptr (.v 8) 0))]) [((.b (.v 6)), (.prop 7)), ((.b (.v 8)), (.prop 9))]
  (.loop [.c, .i, .p] [(.e (.o1 .not (.o1 .not (.c false)))), (.e (.o1 .neg (.o1 .neg (.i 0)))), (.p [((.b (.v 8)), (.prop 9))])]
   (.br (.o2 .lt (.v 11) (.o1 .ofNat (.v 1)))
    (.need (.o2 .le (.i 0) (.v 11))
    (.need (.o1 .isSome (.v 0))
    (.read (.load 80 (.tmp 25)) 80 [(25, (.w (.a (.eptr 0 (.v 11) 16 0))))] [((.a 0), (.prop 3))] [.i, .i, .i, .c, .i, .i, .i, .i, .a, .n, .n, .i, .i, .a, .n, .n, .i, .i, .i, .i] (.w (.agg [(.int .i64 (.v 13)), (.int .i64 (.v 14)), (.int .i64 (.v 15)), (.bool (.v 16)), (.int .i64 (.v 17)), (.int .i64 (.v 18)), (.int .i64 (.v 19)), (.int .i64 (.v 20)), (.sl (.v 21) (.v 22) (.v 23)), (.int .i64 (.v 24)), (.int .i64 (.v 25)), (.sl (.v 26) (.v 27) (.v 28)), (.int .i64 (.v 29)), (.int .i64 (.v 30)), (.int .i64 (.v 31)), (.int .i64 (.v 32))]))
    (.new
    (.call 45 [(.a (.ptr (.v 8) 0)), (.agg [(.int .i64 (.v 13)), (.int .i64 (.v 14)), (.int .i64 (.v 15)), (.bool (.v 16)), (.int .i64 (.v 17)), (.int .i64 (.v 18)), (.int .i64 (.v 19)), (.int .i64 (.v 20)), (.sl (.v 21) (.v 22) (.v 23)), (.int .i64 (.v 24)), (.int .i64 (.v 25)), (.sl (.v 26) (.v 27) (.v 28)), (.int .i64 (.v 29)), (.int .i64 (.v 30)), (.int .i64 (.v 31)), (.int .i64 (.v 32))])] [((.b (.v 8)), (.prop 12)), ((.a 0), (.prop 3))] [.i, .i, .i, .c, .i, .i, .i, .i, .a, .n, .n, .p, .i, .i, .a, .n, .n, .p, .i, .i, .i, .i, .c, .p] (.tup [(.agg [(.int .i64 (.v 34)), (.int .i64 (.v 35)), (.int .i64 (.v 36)), (.bool (.v 37)), (.int .i64 (.v 38)), (.int .i64 (.v 39)), (.int .i64 (.v 40)), (.int .i64 (.v 41)), (.sl (.v 42) (.v 43) (.v 44)), (.int .i64 (.v 46)), (.int .i64 (.v 47)), (.sl (.v 48) (.v 49) (.v 50)), (.int .i64 (.v 52)), (.int .i64 (.v 53)), (.int .i64 (.v 54)), (.int .i64 (.v 55))]), (.a (.bool (.v 56)))]) [((.a 42), (.prop 45)), ((.a 48), (.prop 51)), ((.b (.v 8)), (.prop 57)), ((.a 0), (.prop 3))]
    (.new
    (.call 45 [(.a (.ptr (.v 8) 0)), (.agg [(.int .i64 (.v 13)), (.int .i64 (.v 14)), (.int .i64 (.v 15)), (.bool (.v 16)), (.int .i64 (.v 17)), (.int .i64 (.v 18)), (.int .i64 (.v 19)), (.int .i64 (.v 20)), (.sl (.v 21) (.v 22) (.v 23)), (.int .i64 (.v 24)), (.int .i64 (.v 25)), (.sl (.v 26) (.v 27) (.v 28)), (.int .i64 (.v 29)), (.int .i64 (.v 30)), (.int .i64 (.v 31)), (.int .i64 (.v 32))])] [((.b (.v 8)), (.prop 57)), ((.a 0), (.prop 3))] [.i, .i, .i, .c, .i, .i, .i, .i, .a, .n, .n, .p, .i, .i, .a, .n, .n, .p, .i, .i, .i, .i, .c, .p] (.tup [(.agg [(.int .i64 (.v 59)), (.int .i64 (.v 60)), (.int .i64 (.v 61)), (.bool (.v 62)), (.int .i64 (.v 63)), (.int .i64 (.v 64)), (.int .i64 (.v 65)), (.int .i64 (.v 66)), (.sl (.v 67) (.v 68) (.v 69)), (.int .i64 (.v 71)), (.int .i64 (.v 72)), (.sl (.v 73) (.v 74) (.v 75)), (.int .i64 (.v 77)), (.int .i64 (.v 78)), (.int .i64 (.v 79)), (.int .i64 (.v 80))]), (.a (.bool (.v 81)))]) [((.a 67), (.prop 70)), ((.a 73), (.prop 76)), ((.b (.v 8)), (.prop 82)), ((.a 0), (.prop 3))]
    (.new
    (.br (.o1 .not (.o2 .beq (.v 56) (.v 81)))
     (.ret (.w (.a (.bool (.c false)))) [((.a 0), (.prop 3))])
     (.br (.o2 .eq (.v 17) (.i 1))
      (.br (.v 56)
       (.br (.o2 .eq (.v 52) (.i 0))
        (.br (.o1 .not (.o2 .eq (.v 77) (.i 10)))
         (.ret (.w (.a (.bool (.c false)))) [((.a 0), (.prop 3))])
         (.call 21 [(.agg [(.int .i64 (.v 66)), (.sl (.v 67) (.v 68) (.v 69))]), (.agg [(.int .i64 (.v 20)), (.sl (.v 21) (.v 22) (.v 23))])] [((.a 67), (.prop 70)), ((.a 0), (.prop 3))] [.c] (.w (.a (.bool (.v 84)))) [((.a 67), (.prop 70)), ((.a 0), (.prop 3))]
         (.br (.o1 .not (.v 84))
          (.ret (.w (.a (.bool (.c false)))) [((.a 0), (.prop 3))])
          (.need (.o1 (.inr .i64) (.o2 .add (.v 11) (.i 1)))
          (.again 0 [(.e (.o1 .not (.o1 .not (.v 10)))), (.e (.o1 .neg (.o1 .neg (.o2 .add (.v 11) (.i 1))))), (.p [((.b (.v 8)), (.prop 82))])])))))
        (.call 46 [(.agg [(.int .i64 (.v 34)), (.int .i64 (.v 35)), (.int .i64 (.v 36)), (.bool (.v 37)), (.int .i64 (.v 38)), (.int .i64 (.v 39)), (.int .i64 (.v 40)), (.int .i64 (.v 41)), (.sl (.v 42) (.v 43) (.v 44)), (.int .i64 (.v 46)), (.int .i64 (.v 47)), (.sl (.v 48) (.v 49) (.v 50)), (.int .i64 (.v 52)), (.int .i64 (.v 53)), (.int .i64 (.v 54)), (.int .i64 (.v 55))]), (.agg [(.int .i64 (.v 59)), (.int .i64 (.v 60)), (.int .i64 (.v 61)), (.bool (.v 62)), (.int .i64 (.v 63)), (.int .i64 (.v 64)), (.int .i64 (.v 65)), (.int .i64 (.v 66)), (.sl (.v 67) (.v 68) (.v 69)), (.int .i64 (.v 71)), (.int .i64 (.v 72)), (.sl (.v 73) (.v 74) (.v 75)), (.int .i64 (.v 77)), (.int .i64 (.v 78)), (.int .i64 (.v 79)), (.int .i64 (.v 80))])] [((.a 42), (.prop 45)), ((.a 48), (.prop 51)), ((.a 67), (.prop 70)), ((.a 73), (.prop 76))] [.c] (.w (.a (.bool (.v 84)))) [((.a 42), (.prop 45)), ((.a 48), (.prop 51)), ((.a 67), (.prop 70)), ((.a 73), (.prop 76))]
        (.br (.o1 .not (.v 84))
         (.ret (.w (.a (.bool (.c false)))) [((.a 0), (.prop 3))])
         (.need (.o1 (.inr .i64) (.o2 .add (.v 11) (.i 1)))
         (.again 0 [(.e (.o1 .not (.o1 .not (.v 10)))), (.e (.o1 .neg (.o1 .neg (.o2 .add (.v 11) (.i 1))))), (.p [((.b (.v 8)), (.prop 82))])])))))
       (.call 46 [(.agg [(.int .i64 (.v 34)), (.int .i64 (.v 35)), (.int .i64 (.v 36)), (.bool (.v 37)), (.int .i64 (.v 38)), (.int .i64 (.v 39)), (.int .i64 (.v 40)), (.int .i64 (.v 41)), (.sl (.v 42) (.v 43) (.v 44)), (.int .i64 (.v 46)), (.int .i64 (.v 47)), (.sl (.v 48) (.v 49) (.v 50)), (.int .i64 (.v 52)), (.int .i64 (.v 53)), (.int .i64 (.v 54)), (.int .i64 (.v 55))]), (.agg [(.int .i64 (.v 59)), (.int .i64 (.v 60)), (.int .i64 (.v 61)), (.bool (.v 62)), (.int .i64 (.v 63)), (.int .i64 (.v 64)), (.int .i64 (.v 65)), (.int .i64 (.v 66)), (.sl (.v 67) (.v 68) (.v 69)), (.int .i64 (.v 71)), (.int .i64 (.v 72)), (.sl (.v 73) (.v 74) (.v 75)), (.int .i64 (.v 77)), (.int .i64 (.v 78)), (.int .i64 (.v 79)), (.int .i64 (.v 80))])] [((.a 42), (.prop 45)), ((.a 48), (.prop 51)), ((.a 67), (.prop 70)), ((.a 73), (.prop 76))] [.c] (.w (.a (.bool (.v 84)))) [((.a 42), (.prop 45)), ((.a 48), (.prop 51)), ((.a 67), (.prop 70)), ((.a 73), (.prop 76))]
       (.br (.o1 .not (.v 84))
        (.ret (.w (.a (.bool (.c false)))) [((.a 0), (.prop 3))])
        (.need (.o1 (.inr .i64) (.o2 .add (.v 11) (.i 1)))
        (.again 0 [(.e (.o1 .not (.o1 .not (.v 10)))), (.e (.o1 .neg (.o1 .neg (.o2 .add (.v 11) (.i 1))))), (.p [((.b (.v 8)), (.prop 82))])])))))
      (.call 46 [(.agg [(.int .i64 (.v 34)), (.int .i64 (.v 35)), (.int .i64 (.v 36)), (.bool (.v 37)), (.int .i64 (.v 38)), (.int .i64 (.v 39)), (.int .i64 (.v 40)), (.int .i64 (.v 41)), (.sl (.v 42) (.v 43) (.v 44)), (.int .i64 (.v 46)), (.int .i64 (.v 47)), (.sl (.v 48) (.v 49) (.v 50)), (.int .i64 (.v 52)), (.int .i64 (.v 53)), (.int .i64 (.v 54)), (.int .i64 (.v 55))]), (.agg [(.int .i64 (.v 59)), (.int .i64 (.v 60)), (.int .i64 (.v 61)), (.bool (.v 62)), (.int .i64 (.v 63)), (.int .i64 (.v 64)), (.int .i64 (.v 65)), (.int .i64 (.v 66)), (.sl (.v 67) (.v 68) (.v 69)), (.int .i64 (.v 71)), (.int .i64 (.v 72)), (.sl (.v 73) (.v 74) (.v 75)), (.int .i64 (.v 77)), (.int .i64 (.v 78)), (.int .i64 (.v 79)), (.int .i64 (.v 80))])] [((.a 42), (.prop 45)), ((.a 48), (.prop 51)), ((.a 67), (.prop 70)), ((.a 73), (.prop 76))] [.c] (.w (.a (.bool (.v 84)))) [((.a 42), (.prop 45)), ((.a 48), (.prop 51)), ((.a 67), (.prop 70)), ((.a 73), (.prop 76))]
      (.br (.o1 .not (.v 84))
       (.ret (.w (.a (.bool (.c false)))) [((.a 0), (.prop 3))])
       (.need (.o1 (.inr .i64) (.o2 .add (.v 11) (.i 1)))
       (.again 0 [(.e (.o1 .not (.o1 .not (.v 10)))), (.e (.o1 .neg (.o1 .neg (.o2 .add (.v 11) (.i 1))))), (.p [((.b (.v 8)), (.prop 82))])]))))))))))))))
    (.ret (.w (.a (.bool (.c true)))) [((.a 0), (.prop 3))]))))))))
theorem tree_again : tree Try.prog { absT := [], opq := [], hv := [(0, [(.b (.v 8))])], keep := [20, 38, 40, 43, 21, 46, 68, 34], link := [(17, 0)], ent := [], turn := [(45, [0])], shr := [], vt := [], mkd := [], rlink := [(44, 0, 1)], pty := [] } Try.f7 [(.a (.sl (.v 0) (.v 1) (.v 2)))] [((.a 0), (.prop 3))] 4 = t_again := by kernel_rfl
end Go.Proofs.Ytmibmjehjagmbaa.RX
