/- Texts of this claim, joined: TrLaw16, Lw16, Lw16F, GrL, ReplayFrontW, ReplayFrontUD, ReplayFrontUA, ReplayFrontUK, ReplayFrontUB. No condition. -/
import Derived.Test.YtdieogcemmnaaaaGreatDoorRFJ1
import Derived.Test.YtdieogcemmnaaaaGreatDoorRFJ2
import Derived.Test.YtdieogcemmnaaaaGreatDoorRFJ4
import Derived.Test.YtdieogcemmnaaaaGreatDoorRFJ6
import Derived.KernelRfl
import Derived.OpenShut
import Derived.ProofKit
import Derived.ShutString
import Derived.ChangeOld
import Derived.Below
import Derived.SizedLaws
import Derived.Lay
import Derived.LaidMore
import Derived.Test.YtdieogcemmnaaaaGreatDoorTie
import Derived.Test.YtdieogcemmnaaaaGreatDoorCards
import Derived.SevenTiedAt
import Derived.Deep.DeepHandedRow
import Derived.JoinedCond
set_option linter.unusedSimpArgs false
set_option linter.unusedVariables false
/- Trees of functions, printed by rx.lean. No condition. -/
namespace Go.Proofs.YtdieogcemmnaaaaGreatDoor.RX
set_option maxRecDepth 100000
-- tideline/tidelinelaw16.speaks: ρ := []
def t_speaks16 : T :=
(.call 34 [] [] [.n, .p] (.w (.a (.ptr (.v 0) 0))) [((.b (.v 0)), (.prop 1))]
(.call 35 [(.a (.ptr (.v 0) 0)), (.agg [(.int .i64 (.i 2)), (.sl .nil (.n 0) (.n 0))])] [((.b (.v 0)), (.prop 1))] [.p] (.tup []) [((.b (.v 0)), (.prop 2))]
(.call 44 [(.a (.ptr (.v 0) 0))] [((.b (.v 0)), (.prop 2))] [.a, .n, .n, .p, .i] (.tup [(.a (.sl (.v 3) (.v 4) (.v 5))), (.a (.int .i64 (.v 7)))]) [((.a 3), (.prop 6)), ((.b (.v 0)), (.prop 2))]
(.call 38 [(.a (.ptr (.v 0) 0))] [((.b (.v 0)), (.prop 2))] [.i] (.w (.a (.int .i64 (.v 8)))) [((.b (.v 0)), (.prop 2))]
(.br (.o2 .eq (.v 8) (.i 1))
 (.call 37 [(.a (.ptr (.v 0) 0))] [((.b (.v 0)), (.prop 2))] [.a, .n, .n, .p] (.w (.a (.sl (.v 9) (.v 10) (.v 11)))) [((.a 9), (.prop 12)), ((.b (.v 0)), (.prop 2))]
 (.br (.o2 .eq (.o1 .ofNat (.v 10)) (.i 1))
  (.br (.o2 .eq (.v 7) (.i 0))
   (.br (.o2 .lt (.i 0) (.o1 .ofNat (.v 4)))
    (.call 92 [(.a (.ptr (.v 0) 0))] [((.b (.v 0)), (.prop 2))] [.c] (.w (.a (.bool (.v 13)))) [((.b (.v 0)), (.prop 2))]
    (.ret (.w (.a (.bool (.o1 .not (.v 13))))) []))
    (.ret (.w (.a (.bool (.c false)))) []))
   (.ret (.w (.a (.bool (.c false)))) []))
  (.ret (.w (.a (.bool (.c false)))) [])))
 (.ret (.w (.a (.bool (.c false)))) []))))))
theorem tree_speaks16 : tree Tryz.prog { absT := [], opq := [], hv := [], keep := [37, 44, 38, 92, 43, 42, 39, 93, 46, 36, 32, 20, 30, 33, 40, 41], link := [], ent := [], turn := [(35, [0])], shr := [], vt := [], mkd := [], rlink := [], pty := [], outl := false, stay := [], snk := [], rdf := true, cut := [101] } Tryz.f31 [] [] 0 = t_speaks16 := by kernel_rfl
-- tideline/tidelinelaw16.Great: ρ := [.a stepsa, .n stepsl, .n stepsc, .p stepsP]
def t_great16 : T :=
(.br (.o2 .lt (.i 60) (.o1 .ofNat (.v 1)))
 (.ret (.w (.a (.bool (.c true)))) [((.a 0), (.prop 3))])
 (.loop [.c, .i] [(.e (.o1 .not (.o1 .not (.c false)))), (.e (.o1 .neg (.o1 .neg (.i 0))))]
  (.br (.o2 .lt (.v 5) (.o1 .ofNat (.v 1)))
   (.need (.o2 .le (.i 0) (.v 5))
   (.need (.o1 .isSome (.v 0))
   (.read (.load 65 (.tmp 12)) 65 [(12, (.w (.a (.eptr 0 (.v 5) 12 0))))] [((.a 0), (.prop 3))] [.i, .i, .i, .i, .i, .i, .s, .s, .i, .i, .a, .n, .n, .a, .n, .n] (.w (.agg [(.int .i64 (.v 6)), (.int .i64 (.v 7)), (.int .i64 (.v 8)), (.int .i64 (.v 9)), (.int .i64 (.v 10)), (.int .i64 (.v 11)), (.str (.v 12)), (.str (.v 13)), (.int .i64 (.v 14)), (.int .i64 (.v 15)), (.sl (.v 16) (.v 17) (.v 18)), (.sl (.v 19) (.v 20) (.v 21))]))
   (.new
   (.call 93 [(.agg [(.int .i64 (.i 1)), (.int .i64 (.v 8)), (.int .i64 (.v 9)), (.int .i64 (.v 10)), (.int .i64 (.i 0)), (.int .i64 (.i 0)), (.sl .nil (.n 0) (.n 0))])] [] [.c] (.w (.a (.bool (.v 23)))) []
   (.br (.v 23)
    (.br (.o2 .lt (.i 300) (.o1 .ofNat (.o1 .size (.v 12))))
     (.ret (.w (.a (.bool (.c true)))) [((.a 0), (.prop 3))])
     (.br (.o2 .lt (.i 300) (.o1 .ofNat (.o1 .size (.v 13))))
      (.ret (.w (.a (.bool (.c true)))) [((.a 0), (.prop 3))])
      (.br (.o2 .lt (.i 600) (.o1 .ofNat (.v 17)))
       (.ret (.w (.a (.bool (.c true)))) [((.a 0), (.prop 3))])
       (.br (.o2 .lt (.i 1000) (.o1 .ofNat (.v 20)))
        (.ret (.w (.a (.bool (.c true)))) [((.a 0), (.prop 3))])
        (.need (.o1 (.inr .i64) (.o2 .add (.v 5) (.i 1)))
        (.again 0 [(.e (.o1 .not (.o1 .not (.v 4)))), (.e (.o1 .neg (.o1 .neg (.o2 .add (.v 5) (.i 1)))))]))))))
    (.need (.o1 (.inr .i64) (.o2 .add (.v 5) (.i 1)))
    (.again 0 [(.e (.o1 .not (.o1 .not (.v 4)))), (.e (.o1 .neg (.o1 .neg (.o2 .add (.v 5) (.i 1)))))]))))))))
   (.ret (.w (.a (.bool (.c false)))) [((.a 0), (.prop 3))]))))
theorem tree_great16 : tree Tryz.prog { absT := [], opq := [], hv := [], keep := [37, 44, 38, 92, 43, 42, 39, 93, 46, 36, 32, 20, 30, 33, 40, 41], link := [], ent := [], turn := [(35, [0])], shr := [], vt := [], mkd := [], rlink := [], pty := [], outl := false, stay := [], snk := [], rdf := true, cut := [101] } Tryz.f32 [(.a (.sl (.v 0) (.v 1) (.v 2)))] [((.a 0), (.prop 3))] 4 = t_great16 := by kernel_rfl
-- tideline/tidelinelaw16.cell: ρ := [.i s_What, .i s_Low, .i s_Id_Client, .i s_Id_Birth, .i s_Id_Number, .i s_Call_Kind, .s s_Call_Path, .s s_Call_Other, .i s_Call_Off, .i s_Call_N, .a s_Call_Dataa, .n s_Call_Datal, .n s_Call_Datac, .p s_Call_DataP, .a s_Rawa, .n s_Rawl, .n s_Rawc, .p s_RawP, .i next, .a nodesa, .n nodesl, .n nodesc, .p nodesP]
def t_cell16 : T :=
(.new
(.new
(.br (.o2 .eq (.v 0) (.i 0))
 (.call 46 [(.agg [(.int .i64 (.v 5)), (.str (.v 6)), (.str (.v 7)), (.int .i64 (.v 8)), (.int .i64 (.v 9)), (.sl (.v 10) (.v 11) (.v 12))])] [((.a 10), (.prop 13))] [.a, .n, .n, .p] (.w (.a (.sl (.v 25) (.v 26) (.v 27)))) [((.a 25), (.prop 28)), ((.a 10), (.prop 13))]
 (.call 39 [(.agg [(.int .i64 (.i 1)), (.int .i64 (.v 2)), (.int .i64 (.v 3)), (.int .i64 (.v 4)), (.int .i64 (.i 0)), (.int .i64 (.i (-1))), (.sl (.v 25) (.v 26) (.v 27))])] [((.a 25), (.prop 28))] [.a, .n, .n, .p] (.w (.a (.sl (.v 29) (.v 30) (.v 31)))) [((.a 29), (.prop 32)), ((.a 25), (.prop 28))]
 (.ret (.w (.agg [(.int .i64 (.i 1)), (.sl (.v 29) (.v 30) (.v 31))])) [((.a 10), (.prop 13)), ((.a 14), (.prop 17)), ((.a 19), (.prop 22)), ((.a 29), (.prop 32))])))
 (.br (.o2 .eq (.v 0) (.i 1))
  (.fail 29)
  (.br (.o2 .eq (.v 0) (.i 2))
   (.fail 29)
   (.br (.o2 .eq (.v 0) (.i 4))
    (.new
    (.op (.call ⟨.builtin .append, #[(.tmp 42), (.tmp 44)], #[28, 28]⟩) 28 [(42, (.w (.a (.sl (.b (.v 25) 0) (.n 0) (.n 0))))), (44, (.w (.a (.sl (.v 14) (.v 15) (.v 16)))))] [((.b (.v 25)), (.cells [] 5)), ((.a 14), (.prop 17))] [.a, .n, .n, .p] (.w (.a (.sl (.v 26) (.v 27) (.v 28)))) [((.a 26), (.prop 29)), ((.a 14), (.prop 17))]
    (.ret (.w (.agg [(.int .i64 (.i 1)), (.sl (.v 26) (.v 27) (.v 28))])) [((.a 10), (.prop 13)), ((.a 14), (.prop 17)), ((.a 19), (.prop 22)), ((.a 26), (.prop 29))])))
    (.ret (.w (.agg [(.int .i64 (.i 2)), (.sl .nil (.n 0) (.n 0))])) [((.a 10), (.prop 13)), ((.a 14), (.prop 17)), ((.a 19), (.prop 22))])))))))
theorem tree_cell16 : tree Tryz.prog { absT := [], opq := [], hv := [], keep := [37, 44, 38, 92, 43, 42, 39, 93, 46, 36, 32, 20, 30, 33, 40, 41], link := [], ent := [], turn := [(35, [0])], shr := [], vt := [], mkd := [], rlink := [], pty := [], outl := false, stay := [], snk := [], rdf := true, cut := [101] } Tryz.f36 [(.agg [(.int .i64 (.v 0)), (.int .i64 (.v 1)), (.int .i64 (.v 2)), (.int .i64 (.v 3)), (.int .i64 (.v 4)), (.int .i64 (.v 5)), (.str (.v 6)), (.str (.v 7)), (.int .i64 (.v 8)), (.int .i64 (.v 9)), (.sl (.v 10) (.v 11) (.v 12)), (.sl (.v 14) (.v 15) (.v 16))]), (.a (.int .i64 (.v 18))), (.a (.sl (.v 19) (.v 20) (.v 21)))] [((.a 10), (.prop 13)), ((.a 14), (.prop 17)), ((.a 19), (.prop 22))] 23 = t_cell16 := by kernel_rfl
-- tideline/tidelinelaw16.ReplayFront: ρ := [.a stepsa, .n stepsl, .n stepsc, .p stepsP, .i cut]
def t_replayFront : T :=
(.call 31 [] [] [.c] (.w (.a (.bool (.v 5)))) []
(.br (.o1 .not (.v 5))
 (.ret (.w (.a (.bool (.c false)))) [((.a 0), (.prop 3))])
 (.call 32 [(.a (.sl (.v 0) (.v 1) (.v 2)))] [((.a 0), (.prop 3))] [.c] (.w (.a (.bool (.v 6)))) [((.a 0), (.prop 3))]
 (.br (.v 6)
  (.ret (.w (.a (.bool (.c true)))) [((.a 0), (.prop 3))])
  (.call 34 [] [] [.n, .p] (.w (.a (.ptr (.v 7) 0))) [((.b (.v 7)), (.prop 8))]
  (.call 34 [] [] [.n, .p] (.w (.a (.ptr (.v 9) 0))) [((.b (.v 9)), (.prop 10))]
  (.new
  (.loop [.a, .n, .n, .i, .p] [(.a (.b (.v 11) 0)), (.e (.o2 .nadd (.n 0) (.n 0))), (.e (.o2 .nadd (.n 0) (.n 0))), (.e (.o1 .neg (.o1 .neg (.i 0)))), (.p [((.b (.v 11)), (.cells [] 68))])]
   (.br (.o2 .lt (.v 15) (.o1 .ofNat (.v 1)))
    (.need (.o2 .le (.i 0) (.v 15))
    (.need (.o1 .isSome (.v 0))
    (.read (.load 65 (.tmp 31)) 65 [(31, (.w (.a (.eptr 0 (.v 15) 12 0))))] [((.a 0), (.prop 3))] [.i, .i, .i, .i, .i, .i, .s, .s, .i, .i, .a, .n, .n, .a, .n, .n] (.w (.agg [(.int .i64 (.v 17)), (.int .i64 (.v 18)), (.int .i64 (.v 19)), (.int .i64 (.v 20)), (.int .i64 (.v 21)), (.int .i64 (.v 22)), (.str (.v 23)), (.str (.v 24)), (.int .i64 (.v 25)), (.int .i64 (.v 26)), (.sl (.v 27) (.v 28) (.v 29)), (.sl (.v 30) (.v 31) (.v 32))]))
    (.new
    (.br (.o2 .le (.i 0) (.v 17))
     (.br (.o2 .le (.v 17) (.i 4))
      (.br (.o1 .not (.o2 .eq (.v 17) (.i 1)))
       (.br (.o1 .not (.o2 .eq (.v 17) (.i 2)))
        (.call 36 [(.agg [(.int .i64 (.v 17)), (.int .i64 (.v 18)), (.int .i64 (.v 19)), (.int .i64 (.v 20)), (.int .i64 (.v 21)), (.int .i64 (.v 22)), (.str (.v 23)), (.str (.v 24)), (.int .i64 (.v 25)), (.int .i64 (.v 26)), (.sl (.v 27) (.v 28) (.v 29)), (.sl (.v 30) (.v 31) (.v 32))]), (.a (.int .i64 (.i 0))), (.a (.sl .nil (.n 0) (.n 0)))] [((.a 0), (.prop 3))] [.i, .a, .n, .n, .p] (.w (.agg [(.int .i64 (.v 34)), (.sl (.v 35) (.v 36) (.v 37))])) [((.a 35), (.prop 38)), ((.a 0), (.prop 3))]
        (.new
        (.op (.call ⟨.builtin .append, #[(.tmp 51), (.tmp 54)], #[79, 79]⟩) 79 [(51, (.w (.a (.sl (.v 12) (.v 13) (.v 14))))), (54, (.w (.a (.sl (.b (.v 39) 0) (.n 1) (.n 1)))))] [((.a 12), (.prop 16)), ((.b (.v 39)), (.cells [(.int .i64 (.v 34)), (.sl (.v 35) (.v 36) (.v 37))] 68)), ((.a 35), (.prop 38))] [.a, .n, .n, .p] (.w (.a (.sl (.v 40) (.v 41) (.v 42)))) [((.a 40), (.prop 43)), ((.b (.v 39)), (.cells [(.int .i64 (.v 34)), (.sl (.v 35) (.v 36) (.v 37))] 68)), ((.a 35), (.prop 38))]
        (.need (.o1 (.inr .i64) (.o2 .add (.v 15) (.i 1)))
        (.again 0 [(.a (.v 40)), (.e (.o2 .nadd (.v 41) (.n 0))), (.e (.o2 .nadd (.v 42) (.n 0))), (.e (.o1 .neg (.o1 .neg (.o2 .add (.v 15) (.i 1))))), (.p [((.a 40), (.prop 43))])])))))
        (.need (.o1 (.inr .i64) (.o2 .add (.v 15) (.i 1)))
        (.again 0 [(.a (.v 12)), (.e (.o2 .nadd (.v 13) (.n 0))), (.e (.o2 .nadd (.v 14) (.n 0))), (.e (.o1 .neg (.o1 .neg (.o2 .add (.v 15) (.i 1))))), (.p [((.a 12), (.prop 16))])])))
       (.need (.o1 (.inr .i64) (.o2 .add (.v 15) (.i 1)))
       (.again 0 [(.a (.v 12)), (.e (.o2 .nadd (.v 13) (.n 0))), (.e (.o2 .nadd (.v 14) (.n 0))), (.e (.o1 .neg (.o1 .neg (.o2 .add (.v 15) (.i 1))))), (.p [((.a 12), (.prop 16))])])))
      (.need (.o1 (.inr .i64) (.o2 .add (.v 15) (.i 1)))
      (.again 0 [(.a (.v 12)), (.e (.o2 .nadd (.v 13) (.n 0))), (.e (.o2 .nadd (.v 14) (.n 0))), (.e (.o1 .neg (.o1 .neg (.o2 .add (.v 15) (.i 1))))), (.p [((.a 12), (.prop 16))])])))
     (.need (.o1 (.inr .i64) (.o2 .add (.v 15) (.i 1)))
     (.again 0 [(.a (.v 12)), (.e (.o2 .nadd (.v 13) (.n 0))), (.e (.o2 .nadd (.v 14) (.n 0))), (.e (.o1 .neg (.o1 .neg (.o2 .add (.v 15) (.i 1))))), (.p [((.a 12), (.prop 16))])])))))))
    (.need (.o1 (.inr .i64) (.o2 .add (.o1 .ofNat (.v 13)) (.i 1)))
    (.need (.o1 .not (.o2 .eq (.o2 .add (.o1 .ofNat (.v 13)) (.i 1)) (.i 0)))
    (.loop [.i, .p, .p] [(.e (.o1 .neg (.o1 .neg (.i 0)))), (.p [((.b (.v 9)), (.prop 10))]), (.p [((.b (.v 7)), (.prop 8))])]
     (.br (.o2 .lt (.v 17) (.o1 .ofNat (.v 13)))
      (.need (.o2 .le (.i 0) (.v 17))
      (.need (.o1 .isSome (.v 12))
      (.read (.load 68 (.tmp 68)) 68 [(68, (.w (.a (.eptr 12 (.v 17) 2 0))))] [((.a 12), (.prop 16))] [.i, .a, .n, .n] (.w (.agg [(.int .i64 (.v 20)), (.sl (.v 21) (.v 22) (.v 23))]))
      (.new
      (.call 35 [(.a (.ptr (.v 7) 0)), (.agg [(.int .i64 (.v 20)), (.sl (.v 21) (.v 22) (.v 23))])] [((.b (.v 7)), (.prop 19)), ((.a 12), (.prop 16))] [.p] (.tup []) [((.b (.v 7)), (.prop 25)), ((.a 12), (.prop 16))]
      (.call 35 [(.a (.ptr (.v 9) 0)), (.agg [(.int .i64 (.v 20)), (.sl (.v 21) (.v 22) (.v 23))])] [((.b (.v 9)), (.prop 18)), ((.a 12), (.prop 16))] [.p] (.tup []) [((.b (.v 9)), (.prop 26)), ((.a 12), (.prop 16))]
      (.br (.o2 .lt (.v 17) (.o2 .rem (.o2 (.bit .and .i64) (.v 4) (.i 65535)) (.o2 .add (.o1 .ofNat (.v 13)) (.i 1))))
       (.call 37 [(.a (.ptr (.v 9) 0))] [((.b (.v 9)), (.prop 26))] [.a, .n, .n, .p] (.w (.a (.sl (.v 27) (.v 28) (.v 29)))) [((.a 27), (.prop 30)), ((.b (.v 9)), (.prop 26))]
       (.call 43 [(.a (.ptr (.v 9) 0)), (.agg [(.int .i64 (.i 0)), (.int .i64 (.i 0)), (.int .i64 (.i 0))])] [((.b (.v 9)), (.prop 26))] [.i, .i, .i, .i, .a, .n, .n, .p, .a, .n, .n, .p, .c] (.tup [(.agg [(.int .i64 (.v 31)), (.int .i64 (.v 32)), (.int .i64 (.v 33)), (.int .i64 (.v 34)), (.sl (.v 35) (.v 36) (.v 37)), (.sl (.v 39) (.v 40) (.v 41))]), (.a (.bool (.v 43)))]) [((.a 35), (.prop 38)), ((.a 39), (.prop 42)), ((.b (.v 9)), (.prop 26))]
       (.call 44 [(.a (.ptr (.v 9) 0))] [((.b (.v 9)), (.prop 26))] [.a, .n, .n, .p, .i] (.tup [(.a (.sl (.v 44) (.v 45) (.v 46))), (.a (.int .i64 (.v 48)))]) [((.a 44), (.prop 47)), ((.b (.v 9)), (.prop 26))]
       (.loop [.i, .p] [(.e (.o1 .neg (.o1 .neg (.i 0)))), (.p [((.a 44), (.prop 47))])]
        (.br (.o2 .lt (.v 49) (.o1 .ofNat (.v 45)))
         (.need (.o2 .le (.i 0) (.v 49))
         (.need (.o1 .isSome (.v 44))
         (.op (.store 5 (.tmp 96) (.const (.int .u8 0))) 0 [(96, (.w (.a (.eptr 44 (.v 49) 1 0))))] [((.a 44), (.prop 50))] [.p] (.tup []) [((.a 44), (.prop 51))]
         (.need (.o1 (.inr .i64) (.o2 .add (.v 49) (.i 1)))
         (.again 0 [(.e (.o1 .neg (.o1 .neg (.o2 .add (.v 49) (.i 1))))), (.p [((.a 44), (.prop 51))])])))))
         (.need (.o1 (.inr .i64) (.o2 .add (.v 17) (.i 1)))
         (.again 1 [(.e (.o1 .neg (.o1 .neg (.o2 .add (.v 17) (.i 1))))), (.p [((.b (.v 9)), (.prop 26))]), (.p [((.b (.v 7)), (.prop 25))])])))))))
       (.need (.o1 (.inr .i64) (.o2 .add (.v 17) (.i 1)))
       (.again 0 [(.e (.o1 .neg (.o1 .neg (.o2 .add (.v 17) (.i 1))))), (.p [((.b (.v 9)), (.prop 26))]), (.p [((.b (.v 7)), (.prop 25))])])))))))))
      (.call 44 [(.a (.ptr (.v 7) 0))] [((.b (.v 7)), (.prop 19))] [.a, .n, .n, .p, .i] (.tup [(.a (.sl (.v 20) (.v 21) (.v 22))), (.a (.int .i64 (.v 24)))]) [((.a 20), (.prop 23)), ((.b (.v 7)), (.prop 19))]
      (.call 44 [(.a (.ptr (.v 9) 0))] [((.b (.v 9)), (.prop 18))] [.a, .n, .n, .p, .i] (.tup [(.a (.sl (.v 25) (.v 26) (.v 27))), (.a (.int .i64 (.v 29)))]) [((.a 25), (.prop 28)), ((.b (.v 9)), (.prop 18))]
      (.br (.o2 .eq (.v 24) (.i 0))
       (.br (.o2 .eq (.v 29) (.i 0))
        (.call 30 [(.a (.sl (.v 20) (.v 21) (.v 22))), (.a (.sl (.v 25) (.v 26) (.v 27)))] [((.a 20), (.prop 23)), ((.a 25), (.prop 28))] [.c] (.w (.a (.bool (.v 30)))) [((.a 20), (.prop 23)), ((.a 25), (.prop 28))]
        (.br (.v 30)
         (.call 38 [(.a (.ptr (.v 7) 0))] [((.b (.v 7)), (.prop 19))] [.i] (.w (.a (.int .i64 (.v 31)))) [((.b (.v 7)), (.prop 19))]
         (.br (.o2 .eq (.v 31) (.o1 .ofNat (.v 13)))
          (.call 37 [(.a (.ptr (.v 7) 0))] [((.b (.v 7)), (.prop 19))] [.a, .n, .n, .p] (.w (.a (.sl (.v 32) (.v 33) (.v 34)))) [((.a 32), (.prop 35)), ((.b (.v 7)), (.prop 19))]
          (.call 37 [(.a (.ptr (.v 9) 0))] [((.b (.v 9)), (.prop 18))] [.a, .n, .n, .p] (.w (.a (.sl (.v 36) (.v 37) (.v 38)))) [((.a 36), (.prop 39)), ((.b (.v 9)), (.prop 18))]
          (.call 20 [(.a (.sl (.v 32) (.v 33) (.v 34))), (.a (.sl (.v 36) (.v 37) (.v 38)))] [((.a 32), (.prop 35)), ((.a 36), (.prop 39))] [.c] (.w (.a (.bool (.v 40)))) [((.a 32), (.prop 35)), ((.a 36), (.prop 39))]
          (.ret (.w (.a (.bool (.v 40)))) [((.a 0), (.prop 3))]))))
          (.ret (.w (.a (.bool (.c false)))) [((.a 0), (.prop 3))])))
         (.ret (.w (.a (.bool (.c false)))) [((.a 0), (.prop 3))])))
        (.ret (.w (.a (.bool (.c false)))) [((.a 0), (.prop 3))]))
       (.ret (.w (.a (.bool (.c false)))) [((.a 0), (.prop 3))])))))))))))))))))
theorem tree_replayFront : tree Tryz.prog { absT := [], opq := [], hv := [(0, [(.b (.v 11))]), (2, [(.b (.v 9)), (.b (.v 7))]), (4, [(.a 44)])], keep := [37, 44, 38, 92, 43, 42, 39, 93, 46, 36, 32, 20, 30, 33, 40, 41], link := [], ent := [], turn := [(35, [0])], shr := [], vt := [], mkd := [], rlink := [], pty := [], outl := false, stay := [], snk := [], rdf := true, cut := [101] } Tryz.f11 [(.a (.sl (.v 0) (.v 1) (.v 2))), (.a (.int .i64 (.v 4)))] [((.a 0), (.prop 3))] 5 = t_replayFront := by kernel_rfl
-- tideline/tidelinelaw16.ReplayJunk: ρ := [.a stepsa, .n stepsl, .n stepsc, .p stepsP, .a rawa, .n rawl, .n rawc, .p rawP]
end Go.Proofs.YtdieogcemmnaaaaGreatDoor.RX


/- Law 16: its example, which steps are looked at, the cells of steps. No condition. -/
namespace Go.Proofs.YtdieogcemmnaaaaGreatDoor
set_option linter.unusedSimpArgs false
set_option linter.unusedVariables false
open Go.Proofs.YtdieogcemmnaaaaGreatDoor RX
set_option maxRecDepth 100000

/-- Take, with the replica as one. -/
theorem rpTakeO {b : Nat} {s : RpS} {B : Nat} (hB : B ≤ 100000) (wf : TWf B s.t.pub) (what : Int) (a : Option Addr) (n c : Nat) (l : List UInt8) (S : HP) (hr : RdL S a n (l.map u8v)) (hl : l.length = n) (hc : n ≤ c) (ha : n ≠ 0 → a.isSome = true) (hnx : -9223372036854775808 ≤ s.nx + 1 ∧ s.nx + 1 ≤ 9223372036854775807) :
    Tri Tryz.prog 35 #[.pointer (some ⟨b, 0, none⟩), .agg #[.int .i64 what, .slice a n c]] (HP.sep (RpRep b s) S) (fun v => HP.ex fun s' : RpS => HP.and (v = .tuple #[] ∧ s'.pub = takeP s.pub what l) (HP.sep (RpRep b s') S)) := by
  refine (rpTake_ok hB wf what a n c l S hr hl hc ha hnx).weak (fun R h H => RpX.of H) ?_
  rintro v R h ⟨s', e, H⟩
  exact ⟨s', e, RpX.to H⟩
/-- .. of a cell without bytes. -/
theorem rpTake0 {b : Nat} {s : RpS} {B : Nat} (hB : B ≤ 100000) (wf : TWf B s.t.pub) (what : Int) (hnx : -9223372036854775808 ≤ s.nx + 1 ∧ s.nx + 1 ≤ 9223372036854775807) :
    Tri Tryz.prog 35 #[.pointer (some ⟨b, 0, none⟩), .agg #[.int .i64 what, .slice none 0 0]] (RpRep b s) (fun v => HP.ex fun s' : RpS => HP.and (v = .tuple #[] ∧ s'.pub = takeP s.pub what []) (RpRep b s')) := by
  refine (rpTakeO (S := HP.tt) hB wf what none 0 0 [] ⟨fun w R h F s a j u hj => by simp at hj, fun _ _ _ _ => rfl⟩ rfl (Nat.le_refl _) (fun h => absurd rfl h) hnx).weak (fun R h H => HP.sep_tt H) ?_
  rintro v R h ⟨s', e, H⟩
  exact ⟨s', e, HP.sep_left H⟩
theorem snapP_same (p : RpP) (a : Int) (l : List UInt8) : (snapP p a l).T = p.T ∧ (snapP p a l).nx = p.nx := by
  unfold snapP
  split
  · exact ⟨rfl, rfl⟩
  · split
    · exact ⟨rfl, rfl⟩
    · split <;> exact ⟨rfl, rfl⟩
theorem takeP_nx (p : RpP) (what : Int) (l : List UInt8) : (takeP p what l).nx = p.nx + 1 := by
  unfold takeP
  split
  · rfl
  · split
    · rfl
    · unfold logP
      split
      · split <;> rfl
      · split
        · exact (snapP_same _ _ _).2
        · rfl
theorem TWf.mono {B B' : Nat} {T : List Nd} (wf : TWf B T) (h : B ≤ B') : TWf B' T :=
  ⟨wf.sorted, wf.root, fun n hn => let g := wf.good n hn; ⟨g.kind, g.data, g.lpos, by have := g.lfew; omega, by have := g.efew; omega, g.sort, g.name, g.num⟩, wf.tgt, wf.cnt⟩
theorem takeP_wf {B : Nat} (hB : 1 ≤ B) {p : RpP} (wf : TWf B p.T) (what : Int) (l : List UInt8) : TWf (B + 1) (takeP p what l).T := by
  unfold takeP
  split
  · exact wf.mono (Nat.le_succ _)
  · split
    · exact wf.mono (Nat.le_succ _)
    · unfold logP
      split
      · split
        · exact wf.mono (Nat.le_succ _)
        · exact wf.do hB _ _ _ _ _ _
      · split
        · rw [(snapP_same _ _ _).1]; exact wf.mono (Nat.le_succ _)
        · exact wf.mono (Nat.le_succ _)
set_option maxHeartbeats 1000000 in
theorem speaks16_ok : Tri Tryz.prog 31 #[] HP.tt (fun v => HP.pure (v = .bool true)) := by
  refine tri_of_tree (ρ := []) mixed Tryz.func31 tree_speaks16 ?_
  unfold t_speaks16
  simp only [T.den, E.prop, E.den, RX.look, F1.app, F2.app, Uni.int_i, Uni.nat_n, Uni.bool_c, Uni.str_s, Uni.adr_a, Uni.val_v, Uni.hp_p, hden, cden, V.den, W.den, A.den, BR.den, SA.den, FV.den, capV, exs, exP, allP, Cur.app, List.map_cons, List.map_nil, List.cons_append, List.nil_append, List.drop_succ_cons, List.drop_zero, List.length_cons, List.length_nil, Nat.zero_add, Nat.reduceAdd, Int.neg_neg, Bool.not_not, List.append_nil, Nat.add_zero, List.getElem?_cons_zero, List.getElem?_cons_succ, Decidable.not_not, semW_eq, semW_load, semW_store, semW_storeC, semW_append, semW_lookup, semW_lookupC, semW_update, semW_updateC, semW_updateK, semW_delete, semW_range, semW_next, semW_entry, semW_nil, ne_eq, Nat.reduceEqDiff, not_false_eq_true]
  refine rpNew_ok.weak (fun _ _ h => h) ?_
  rintro v R h ⟨b, s, ⟨rfl, h1, h2, h3, h4, h5, h6⟩, H⟩
  have wf : TWf 1 s.t.pub := by rw [h5]; exact newT_wf
  refine ⟨b, RpRep b s, rfl, ?_, H⟩
  clear H
  refine (rpTake0 (by omega) wf 2 (by rw [h1]; omega)).weak (fun _ _ h => h) ?_
  rintro v R h ⟨s', ⟨rfl, hs⟩, H⟩
  refine ⟨RpRep b s', rfl, ?_, H⟩
  clear H
  have hp : s'.pub = { s.pub with nx := s.pub.nx + 1 } := by rw [hs]; unfold takeP; rw [if_pos (by decide)]
  have hT : s'.t.pub = newT := by rw [← h5]; exact congrArg RpP.T hp
  have hn : s'.nx = 1 := by have := congrArg RpP.nx hp; have e : s.pub.nx = s.nx := rfl; rw [show s'.pub.nx = s'.nx from rfl] at this; rw [this]; show s.nx + 1 = 1; omega
  have wf' : TWf 1 s'.t.pub := by rw [hT]; exact newT_wf
  refine (rpSnap_ok (by omega) wf').weak (fun _ _ h => h) ?_
  rintro v R h ⟨a, c, rfl, H⟩
  refine ⟨a, _, c, _, 0, rfl, ?_, H⟩
  clear H
  refine rpNext_ok.weak (fun _ _ h => h) ?_
  rintro v R h ⟨rfl, H⟩
  refine ⟨_, rfl, ⟨fun _ => ?_, fun h => absurd hn h⟩, H⟩
  clear H
  refine (rpNodes_ok (by omega) wf').weak (fun _ _ h => h) ?_
  rintro v R h ⟨a2, c2, rfl, H⟩
  refine ⟨a2, _, c2, _, rfl, ⟨fun _ => ⟨fun _ => ⟨fun _ => ?_, fun h => absurd ?_ h⟩, fun h => absurd rfl h⟩, fun h => absurd ?_ h⟩, H⟩
  · clear H
    refine rpLost_ok.weak (fun _ _ h => h) ?_
    rintro v R h ⟨rfl, H⟩
    exact ⟨false, rfl, .of fun R h H => rfl, H⟩
  · have := wrapS_len (beN (linksN s'.nx) 8 ++ nodesB s'.t.pub)
    have e : snapS s'.nx s'.t.pub = wrapS (beN (linksN s'.nx) 8 ++ nodesB s'.t.pub) := rfl
    rw [e]; omega
  · rw [hT]; rfl
theorem st16_raw {a : Option Addr} {n : Nat} {L : List Step16} {x : Step16} (hx : x ∈ L) {R h : PH} (H : (Ls kStep16 a n L).p R h) : (x.call_data.length ≤ 1048576 ∧ x.call_data.length ≤ x.call_datac) ∧ (RoB x.call_dataa x.call_data.length x.call_data).p R h ∧ (x.raw.length ≤ 1048576 ∧ x.raw.length ≤ x.rawc) ∧ (RoB x.rawa x.raw.length x.raw).p R h ∧ x.call_path.length ≤ 1048576 ∧ x.call_other.length ≤ 1048576 := by
  obtain ⟨_, _, _, _, _, _, h7, h8, _, _, ⟨h11, h11'⟩, ⟨h12, h12'⟩⟩ := H.2.2 x hx
  exact ⟨h11, h11', h12, h12', h7, h8⟩
/-- What is told of steps that came in. -/
structure St16 (a : Option Addr) (n : Nat) (L : List Step16) : Prop where
  len : L.length = n
  is : n ≠ 0 → a.isSome = true
  data : ∀ x ∈ L, (x.call_data.length ≤ 1048576 ∧ x.call_data.length ≤ x.call_datac) ∧ (x.raw.length ≤ 1048576 ∧ x.raw.length ≤ x.rawc) ∧ x.call_path.length ≤ 1048576 ∧ x.call_other.length ≤ 1048576
  da : ∀ x ∈ L, x.call_data.length ≠ 0 → x.call_dataa.isSome = true
  ra : ∀ x ∈ L, x.raw.length ≠ 0 → x.rawa.isSome = true
theorem St16.of {a : Option Addr} {n : Nat} {L : List Step16} {R h : PH} (H : (Ls kStep16 a n L).p R h) : St16 a n L :=
  ⟨H.1, fun hn => Ls.some H hn, fun x hx => let ⟨h1, _, h3, _, h5, h6⟩ := st16_raw hx H; ⟨h1, h3, h5, h6⟩, fun x hx hd => let ⟨_, h2, _⟩ := st16_raw hx H; RoC.some h2 (by omega), fun x hx hd => let ⟨_, _, _, h4, _⟩ := st16_raw hx H; RoC.some h4 (by omega)⟩
set_option maxHeartbeats 1000000 in
theorem great16_ok (a : Option Addr) (n c : Nat) (L : List Step16) : Tri Tryz.prog 32 #[.slice a n c] (Ls kStep16 a n L) (fun v => HP.ex fun g : Bool => HP.and (v = .bool g ∧ (g = false → n ≤ 60)) (Ls kStep16 a n L)) := by
  refine Tri.fact (φ := St16 a n L) (fun R h H => St16.of H) fun st => ?_
  have hl := st.len
  refine tri_of_tree (ρ := [.a a, .n n, .n c, .p (Ls kStep16 a n L)]) mixed Tryz.func32 tree_great16 ?_
  unfold t_great16
  simp only [T.den, E.prop, E.den, RX.look, F1.app, F2.app, Uni.int_i, Uni.nat_n, Uni.bool_c, Uni.str_s, Uni.adr_a, Uni.val_v, Uni.hp_p, hden, cden, V.den, W.den, A.den, BR.den, SA.den, FV.den, capV, exs, exP, allP, Cur.app, List.map_cons, List.map_nil, List.cons_append, List.nil_append, List.drop_succ_cons, List.drop_zero, List.length_cons, List.length_nil, Nat.zero_add, Nat.reduceAdd, Int.neg_neg, Bool.not_not, List.append_nil, Nat.add_zero, List.getElem?_cons_zero, List.getElem?_cons_succ, Decidable.not_not, semW_eq, semW_load, semW_store, semW_storeC, semW_append, semW_lookup, semW_lookupC, semW_update, semW_updateC, semW_updateK, semW_delete, semW_range, semW_next, semW_entry, semW_nil, ne_eq, Nat.reduceEqDiff, not_false_eq_true]
  have yes : HP.ent (Ls kStep16 a n L) (HP.ex fun g : Bool => HP.and (Value.bool true = .bool g ∧ (g = false → n ≤ 60)) (Ls kStep16 a n L)) := .of fun R h H => ⟨true, ⟨rfl, fun h => by cases h⟩, H⟩
  refine ⟨fun _ => yes, fun h60 => ?_⟩
  refine ⟨fun _ i => ∃ k : Nat, i = k ∧ k ≤ n, fun _ i => n - i.toNat, ⟨0, rfl, Nat.zero_le _⟩, ?_⟩
  rintro _ _ ⟨k, rfl, hk⟩
  refine ⟨fun hlt => ⟨by omega, fun _ => ⟨st.is (by omega), fun _ => ?_⟩⟩, fun hge => .of fun R h' H => ⟨false, ⟨rfl, fun _ => by omega⟩, H⟩⟩
  obtain ⟨x, hx⟩ : ∃ x, L[k]? = some x := ⟨_, List.getElem?_eq_getElem (by omega)⟩
  refine ⟨x.what, x.low, x.id_cl, x.id_bi, x.id_nu, x.call_kind, x.call_path, x.call_other, x.call_off, x.call_n, x.call_dataa, x.call_data.length, x.call_datac, x.rawa, x.raw.length, x.rawc, Step16.load hx, fun q => ?_⟩
  have nxt : IntKind.i64.min ≤ (k : Int) + 1 ∧ (k : Int) + 1 ≤ IntKind.i64.max := inI64' _ (by omega) (by omega)
  refine (r7Right_ok ⟨1, x.id_cl, x.id_bi, x.id_nu, 0, 0, []⟩ none 0 HP.tt ⟨fun w R h F s a j u hj => by simp at hj, fun _ _ _ _ => rfl⟩ (fun h => absurd rfl h) (by simp)).weak (fun _ _ h => h) ?_
  rintro v R h ⟨rfl, H⟩
  refine ⟨_, rfl, ⟨fun _ => ⟨fun _ => yes, fun _ => ⟨fun _ => yes, fun _ => ⟨fun _ => yes, fun _ => ⟨fun _ => yes, fun _ => ⟨nxt, fun _ => ⟨⟨k + 1, by omega, by omega⟩, by dsimp only; omega⟩⟩⟩⟩⟩⟩, fun _ => ⟨nxt, fun _ => ⟨⟨k + 1, by omega, by omega⟩, by dsimp only; omega⟩⟩⟩, H⟩
/-- What a step lets stand at the next address. -/
def Step16.call (x : Step16) : CallP := ⟨x.call_kind, x.call_path, x.call_other, x.call_off, x.call_n, x.call_data⟩
def Step16.log (x : Step16) : LogM := ⟨1, x.id_cl, x.id_bi, x.id_nu, 0, -1, wrapS (callB x.call)⟩
def cellS (x : Step16) : Int × List UInt8 := if x.what = 0 then (1, wrapS (logB x.log)) else if x.what = 4 then (1, x.raw) else (2, [])
set_option maxHeartbeats 1000000 in
theorem cell16_own (a : Option Addr) (n : Nat) (L : List Step16) {x : Step16} (hx : x ∈ L) (h1 : x.what ≠ 1) (h2 : x.what ≠ 2) (next : Int) :
    Tri Tryz.prog 36 #[.agg x.vals.toArray, .int .i64 next, .slice none 0 0] (Ls kStep16 a n L) (fun v => HP.ex fun a' : Option Addr => HP.ex fun c' : Nat => HP.and (v = .agg #[.int .i64 (cellS x).1, .slice a' (cellS x).2.length c'] ∧ (cellS x).2.length ≤ c' ∧ ((cellS x).2.length ≠ 0 → a'.isSome = true)) (HP.sep (OwB a' (cellS x).2.length c' (cellS x).2) (Ls kStep16 a n L))) := by
  refine Tri.fact (φ := St16 a n L) (fun R h H => St16.of H) fun st => ?_
  obtain ⟨hd1, hd2, hd3, hd4⟩ := st.data x hx
  refine Tri.weak (A := HP.sep (RoB x.call_dataa x.call_data.length x.call_data) (HP.sep (RoB x.rawa x.raw.length x.raw) (Ls kStep16 a n L))) ?_ (fun R h H => let ⟨_, q2, _, q4, _⟩ := st16_raw hx H; RoC.join q2 (RoC.join q4 H)) fun _ _ _ h => h
  refine tri_of_tree (ρ := [.i x.what, .i x.low, .i x.id_cl, .i x.id_bi, .i x.id_nu, .i x.call_kind, .s x.call_path, .s x.call_other, .i x.call_off, .i x.call_n, .a x.call_dataa, .n x.call_data.length, .n x.call_datac, .p (RoB x.call_dataa x.call_data.length x.call_data), .a x.rawa, .n x.raw.length, .n x.rawc, .p (RoB x.rawa x.raw.length x.raw), .i next, .a none, .n 0, .n 0, .p (Ls kStep16 a n L)]) mixed Tryz.func36 tree_cell16 ?_
  unfold t_cell16
  simp only [T.den, E.prop, E.den, RX.look, F1.app, F2.app, Uni.int_i, Uni.nat_n, Uni.bool_c, Uni.str_s, Uni.adr_a, Uni.val_v, Uni.hp_p, hden, cden, V.den, W.den, A.den, BR.den, SA.den, FV.den, capV, exs, exP, allP, Cur.app, List.map_cons, List.map_nil, List.cons_append, List.nil_append, List.drop_succ_cons, List.drop_zero, List.length_cons, List.length_nil, Nat.zero_add, Nat.reduceAdd, Int.neg_neg, Bool.not_not, List.append_nil, Nat.add_zero, List.getElem?_cons_zero, List.getElem?_cons_succ, Decidable.not_not, semW_eq, semW_load, semW_store, semW_storeC, semW_append, semW_lookup, semW_lookupC, semW_update, semW_updateC, semW_updateK, semW_delete, semW_range, semW_next, semW_entry, semW_nil, ne_eq, Nat.reduceEqDiff, not_false_eq_true]
  intro _ _
  refine ⟨fun h0 => ?_, fun h0 => ⟨fun h => absurd h h1, fun _ => ⟨fun h => absurd h h2, fun _ => ⟨fun h4 => ?_, fun h4 => .of fun R h H => ?_⟩⟩⟩⟩
  · refine (r5Encode_ok x.call x.call_dataa x.call_datac _ (RdL.ro _ _ _ _) (st.da x hx) (by show x.call_path.length + x.call_other.length + x.call_data.length ≤ _; omega)).weak (fun _ _ h => h) ?_
    rintro v R h ⟨a1, c1, rfl, H⟩
    have hlen : (wrapS (callB x.call)).length ≤ 10000000 := by
      rw [wrapS_len]; unfold callB Step16.call; simp [lenB'_len, beN_len]; omega
    have hs1 : (wrapS (callB x.call)).length ≠ 0 → a1.isSome = true := fun hn => OwC.some (HP.sep_left H) (Nat.pos_of_ne_zero hn)
    refine ⟨a1, _, c1, _, rfl, ?_, H⟩
    clear H
    refine (r7Bytes_ok x.log a1 c1 _ (RdL.ow _ _ _ _ _ _) hs1 (by show (wrapS (callB x.call)).length ≤ _; omega)).weak (fun _ _ h => h) ?_
    rintro v R h ⟨a2, c2, rfl, H⟩
    have hc2 := OwC.le (HP.sep_left H)
    have hs2 : (wrapS (logB x.log)).length ≠ 0 → a2.isSome = true := fun hn => OwC.some (HP.sep_left H) (Nat.pos_of_ne_zero hn)
    refine ⟨a2, _, c2, _, rfl, .of fun R h H => ⟨a2, c2, ⟨?_, ?_, ?_⟩, ?_⟩, H⟩
    · unfold cellS; rw [if_pos h0]
    · unfold cellS; rw [if_pos h0]; exact hc2
    · unfold cellS; rw [if_pos h0]; exact hs2
    · unfold cellS; rw [if_pos h0]
      exact HP.sep_comm (HP.sep_right (HP.sep_right H))
  · intro y
    refine (append8 (some ⟨y, 0, none⟩) 0 0 [] _ x.rawa x.raw.length x.rawc x.raw (RdL.ro _ _ _ _) rfl (st.ra x hx) (by omega)).weak (fun R h H => HP.sep_mono H (fun z hz => ⟨rfl, .inr ⟨y, #[], rfl, hz, Nat.le_refl _, by unfold maxLen; omega, rfl, rfl⟩⟩) fun _ h => h) ?_
    rintro v R h ⟨a1, c1, rfl, H⟩
    rw [Nat.zero_add, List.nil_append] at H
    have hc1 := OwC.le (HP.sep_left H)
    have hs1 : x.raw.length ≠ 0 → a1.isSome = true := fun hn => OwC.some (HP.sep_left H) (Nat.pos_of_ne_zero hn)
    refine ⟨a1, x.raw.length, c1, OwB a1 x.raw.length c1 x.raw, by rw [Nat.zero_add], .of fun R h H => ⟨a1, c1, ⟨?_, ?_, ?_⟩, ?_⟩, H⟩
    · unfold cellS; rw [if_neg h0, if_pos h4]
    · unfold cellS; rw [if_neg h0, if_pos h4]; exact hc1
    · unfold cellS; rw [if_neg h0, if_pos h4]; exact hs1
    · unfold cellS; rw [if_neg h0, if_pos h4]
      exact HP.sep_comm (HP.sep_right (HP.sep_right H))
  · refine ⟨none, 0, ⟨?_, ?_, ?_⟩, ?_⟩
    · unfold cellS; rw [if_neg h0, if_neg h4]; rfl
    · unfold cellS; rw [if_neg h0, if_neg h4]; exact Nat.le_refl _
    · unfold cellS; rw [if_neg h0, if_neg h4]; exact fun h => absurd rfl h
    · unfold cellS; rw [if_neg h0, if_neg h4]
      have := HP.sep_right (HP.sep_right H)
      exact HP.sep_mono (HP.tt_sep this) (fun z _ => OwC.nil _ _ R z) fun _ h => h
theorem cell16_ok (a : Option Addr) (n : Nat) (L : List Step16) {x : Step16} (hx : x ∈ L) (h1 : x.what ≠ 1) (h2 : x.what ≠ 2) (next : Int) :
    Tri Tryz.prog 36 #[.agg x.vals.toArray, .int .i64 next, .slice none 0 0] (Ls kStep16 a n L) (fun v => HP.ex fun a' : Option Addr => HP.ex fun c' : Nat => HP.and (v = .agg #[.int .i64 (cellS x).1, .slice a' (cellS x).2.length c'] ∧ (cellS x).2.length ≤ c' ∧ ((cellS x).2.length ≠ 0 → a'.isSome = true)) (HP.sep (RoB a' (cellS x).2.length (cellS x).2) (Ls kStep16 a n L))) := by
  refine (cell16_own a n L hx h1 h2 next).post fun v => fun R h d ⟨a', c', e, H⟩ => ?_
  obtain ⟨R1, h1, q1, q2, q3, q4, H1⟩ := (HP.ent.sep (OwC.share _ _ _ _ _ _) (Ls kStep16 a n L)) R h d H
  exact ⟨R1, h1, q1, q2, q3, q4, a', c', e, H1⟩
end Go.Proofs.YtdieogcemmnaaaaGreatDoor


/- Law 16: what a replica is asked for changes nothing of it. No condition. -/
namespace Go.Proofs.YtdieogcemmnaaaaGreatDoor
set_option linter.unusedSimpArgs false
set_option linter.unusedVariables false
open Go.Proofs.YtdieogcemmnaaaaGreatDoor RX
set_option maxRecDepth 100000

/-- A cell, and where its bytes lie. -/
structure CellE where
  what : Int
  data : List UInt8
  da : Option Addr
  dc : Nat
instance : Inhabited CellE := ⟨⟨0, [], none, 0⟩⟩
def cellVs (x : CellE) : List Value := [.int .i64 x.what, .slice x.da x.data.length x.dc]
def cellHp (x : CellE) : HP := HP.and (x.data.length ≤ x.dc ∧ (x.data.length ≠ 0 → x.da.isSome = true)) (RoB x.da x.data.length x.data)
def kCellP : PK CellE where
  e := 68
  n := 2
  pos := by decide
  vals := cellVs
  len _ := rfl
  one x u hu := by
    simp only [cellVs, List.mem_cons, List.not_mem_nil, or_false] at hu
    rcases hu with rfl | rfl <;> rfl
  rep := cellHp
theorem infoCe : (Tryz.prog.info? 68).map (fun i => (i.zero.map (·.cells.size), i.size, i.bytes)) = some (some 2, 2, 32) := by kernel_rfl
theorem undCs : Tryz.prog.underlying 79 = some (.slice 68) := by kernel_rfl
theorem PL.appK {α : Type} {K : PK α} (t ty : TypeId) {i : TypeInfo} {z : Value} (ht : Tryz.prog.underlying t = some (.slice K.e)) (hi : Tryz.prog.info? K.e = some i) (hz : i.zero = some z) (hzs : z.cells.size = i.size) (hs : i.size = K.n) (hby : i.bytes ≤ 1000)
    (a : Option Addr) (n c : Nat) (l : List α) (b : Nat) (x : α) (Q : HP) (hb : n ≤ 1000000000) :
    OTri Tryz.prog (appS t ty (.slice a n c) (.slice (some ⟨b, 0, none⟩) 1 1)) (HP.sep (PL K a n c l) (HP.sep (HP.one b (.cells (K.vals x).toArray K.e (0, 0))) (HP.sep (K.rep x) Q)))
      (fun v => HP.ex fun a' => HP.ex fun c' => HP.and (v = .slice a' (n + 1) c') (HP.sep (PL K a' (n + 1) c' (l ++ [x])) (HP.sep (HP.one b (.cells (K.vals x).toArray K.e (0, 0))) Q))) := by
  have hr := one_rd b (K.vals x).toArray K.e
  have hbn : (n + 1) * i.bytes ≤ 140737488355328 := by
    have := Nat.mul_le_mul (show n + 1 ≤ 1000000001 by omega) hby
    omega
  have := append_ok t ty K.e i z ht hi hz hzs (by rw [hs]; exact K.pos) a n c (l.flatMap K.vals) (HP.one b (.cells (K.vals x).toArray K.e (0, 0))) ⟨b, 0, none⟩ 1 1 (K.vals x) (by simpa using hr) (by rw [K.len, hs, Nat.one_mul]) (K.one x) (by unfold maxLen; omega) hbn
  rw [hs] at this
  refine OTri.fact (φ := l.length = n) (fun R h H => (HP.sep_left H).1) fun hl => ?_
  refine (this.frame (HP.sep (sepN (l.map K.rep)) (HP.sep (K.rep x) Q))).weak (fun R h H => ?_) ?_
  · have H1 := HP.sep_assoc (HP.sep_mono H (fun _ h => h.2) fun _ h => h)
    exact HP.sep_assoc' (HP.pick [_, _, _, _, _] [0, 2, 1, 3, 4] (by decide) rfl H1)
  · rintro v R h ⟨h1, h2, d, l1, l2, ⟨a', c', rfl, H⟩, HU⟩
    refine ⟨a', c', rfl, ?_⟩
    have H1 := HP.sep_assoc ⟨h1, h2, d, l1, l2, H, HU⟩
    have H2 : (HP.sep (OwC K.e K.n a' (n + 1) c' (l.flatMap K.vals ++ K.vals x)) (HP.sep (sepN (l.map K.rep)) (HP.sep (K.rep x) (HP.sep (HP.one b (.cells (K.vals x).toArray K.e (0, 0))) Q)))).p R h := HP.pick [_, _, _, _, _] [0, 2, 3, 1, 4] (by decide) rfl H1
    have e : (l ++ [x]).map K.rep = l.map K.rep ++ [K.rep x] := by simp
    have H3 : (HP.sep (OwC K.e K.n a' (n + 1) c' (l.flatMap K.vals ++ K.vals x)) (HP.sep (sepN ((l ++ [x]).map K.rep)) (HP.sep (HP.one b (.cells (K.vals x).toArray K.e (0, 0))) Q))).p R h := HP.sep_mono H2 (fun _ h => h) fun y hy => by
      have := HP.sep_assoc' hy
      rw [e]
      exact HP.sep_mono this (fun z hz => (sepN_app (l := l.map K.rep) (m := [K.rep x])).2 hz) fun _ h => h
    have H4 := HP.sep_assoc' H3
    refine HP.sep_mono H4 (fun y hy => ⟨by simp [hl], ?_⟩) fun _ h => h
    have e2 : (l ++ [x]).flatMap K.vals = l.flatMap K.vals ++ K.vals x := by simp
    rw [e2]
    exact hy
theorem appCell (a : Option Addr) (n c : Nat) (l : List CellE) (q : Nat) (x : CellE) (Q : HP) (hb : n ≤ 1000000000) :
    OTri Tryz.prog (appS 79 79 (.slice a n c) (.slice (some ⟨q, 0, none⟩) 1 1)) (HP.sep (PL kCellP a n c l) (HP.sep (HP.one q (.cells (cellVs x).toArray 68 (0, 0))) (HP.sep (cellHp x) Q)))
      (fun v => HP.ex fun a' => HP.ex fun c' => HP.and (v = .slice a' (n + 1) c') (HP.sep (PL kCellP a' (n + 1) c' (l ++ [x])) (HP.sep (HP.one q (.cells (cellVs x).toArray 68 (0, 0))) Q))) := by
  obtain ⟨i, z, hi, h1, h2, h3, h4⟩ := info_pz infoCe
  exact PL.appK (K := kCellP) _ _ undCs hi h1 (by rw [h2, h3]) h3 (by rw [h4]; decide) a n c l q x Q hb
theorem aggCe : aggT Tryz.prog 68 = true := by kernel_rfl
theorem szCe : szT Tryz.prog 68 = 2 := by kernel_rfl
theorem undCe : ∃ d, Tryz.prog.underlying 68 = some d := Option.isSome_iff_exists.1 (by kernel_rfl)
theorem ldCellP {a : Option Addr} {n c k : Nat} {es : List CellE} {x : CellE} (hk : es[k]? = some x) : ORead Tryz.prog (loadS 68 (.pointer (a.map fun y => (y.add (k * 2)).add 0))) (PL kCellP a n c es) (.agg #[.int .i64 x.what, .slice x.da x.data.length x.dc]) := by
  obtain ⟨d, hd⟩ := undCe
  refine loadN_ok (vs := cellVs x) hd aggCe (PL.rd (K := kCellP) a n c es) (k := k * 2) (off := 0) szCe (Nat.succ_pos 1) fun j v hj => ?_
  have hlt : j < 2 := (List.getElem?_eq_some_iff.1 hj).1
  rw [Nat.add_zero]
  refine (flat_getL cellVs 2 (fun _ => rfl) es k j x hk hlt).trans ?_
  exact hj
theorem cellAt {a : Option Addr} {n c : Nat} {es : List CellE} {x : CellE} (hx : x ∈ es) {R h : PH} (H : (PL kCellP a n c es).p R h) : (cellHp x).p R h := sepN_mem (List.mem_map.2 ⟨x, hx, rfl⟩) (HP.sep_right H.2)
/-- What a replica comes to by cells. -/
noncomputable def foldP (p : RpP) : List CellE → RpP
  | [] => p
  | x :: r => foldP (takeP p x.what x.data) r
theorem foldP_snoc (p : RpP) (l : List CellE) (x : CellE) : foldP p (l ++ [x]) = takeP (foldP p l) x.what x.data := by
  induction l generalizing p with
  | nil => rfl
  | cons y l ih => exact ih _
theorem foldP_nx (p : RpP) (l : List CellE) : (foldP p l).nx = p.nx + l.length := by
  induction l generalizing p with
  | nil => simp [foldP]
  | cons y l ih => unfold foldP; rw [ih, takeP_nx]; simp; omega
theorem foldP_wf {B : Nat} (hB : 1 ≤ B) {p : RpP} (wf : TWf B p.T) (l : List CellE) : TWf (B + l.length) (foldP p l).T := by
  induction l generalizing p B with
  | nil => exact wf
  | cons y l ih =>
    have := ih (by omega) (takeP_wf hB wf y.what y.data)
    rw [List.length_cons, show B + (l.length + 1) = B + 1 + l.length by omega]
    exact this
set_option maxHeartbeats 4000000 in
theorem replayFront_ok (a : Option Addr) (n c : Nat) (L : List Step16) (cut : Int) : Tri Tryz.prog 11 #[.slice a n c, .int .i64 cut] (Ls kStep16 a n L) (fun v => HP.pure (v = .bool true)) := by
  refine Tri.fact (φ := St16 a n L) (fun R h H => St16.of H) fun st => ?_
  have hl := st.len
  refine tri_of_tree (ρ := [.a a, .n n, .n c, .p (Ls kStep16 a n L), .i cut]) mixed Tryz.func11 tree_replayFront ?_
  unfold t_replayFront
  simp (maxSteps := 3000000) only [T.den, E.prop, E.den, RX.look, F1.app, F2.app, Uni.int_i, Uni.nat_n, Uni.bool_c, Uni.str_s, Uni.adr_a, Uni.val_v, Uni.hp_p, hden, cden, V.den, W.den, A.den, BR.den, SA.den, FV.den, capV, exs, exP, allP, Cur.app, List.map_cons, List.map_nil, List.cons_append, List.nil_append, List.drop_succ_cons, List.drop_zero, List.length_cons, List.length_nil, Nat.zero_add, Nat.reduceAdd, Int.neg_neg, Bool.not_not, List.append_nil, Nat.add_zero, List.getElem?_cons_zero, List.getElem?_cons_succ, Decidable.not_not, semW_eq, semW_load, semW_store, semW_storeC, semW_append, semW_lookup, semW_lookupC, semW_update, semW_updateC, semW_updateK, semW_delete, semW_range, semW_next, semW_entry, semW_nil, ne_eq, Nat.reduceEqDiff, not_false_eq_true]
  refine speaks16_ok.weak (fun _ _ _ => trivial) ?_
  rintro v R h rfl
  refine ⟨true, rfl, ⟨fun h => by simp at h, fun _ => ?_⟩, trivial⟩
  refine (great16_ok a n c L).weak (fun _ _ h => h) ?_
  rintro v R h ⟨g, ⟨rfl, hg⟩, H⟩
  refine ⟨g, rfl, ⟨fun _ => .of fun R h H => trivial, fun hg0 => ?_⟩, H⟩
  clear H
  have h60 := hg (by simpa using hg0)
  refine rpNew_ok.weak (fun _ _ h => h) ?_
  rintro v R h ⟨x, s0, ⟨rfl, p1, p2, p3, p4, p5, p6⟩, H⟩
  refine ⟨x, RpRep x s0, rfl, ?_, H⟩
  clear H
  refine rpNew_ok.weak (fun _ _ h => h) ?_
  rintro v R h ⟨y, t0, ⟨rfl, q1, q2, q3, q4, q5, q6⟩, H⟩
  refine ⟨y, RpRep y t0, rfl, ?_, H⟩
  clear H
  have hst : t0.pub = s0.pub := by unfold RpS.pub; rw [p1, p2, p3, p5, p6, q1, q2, q3, q5, q6]
  have wf0 : TWf 1 s0.pub.T := by show TWf 1 s0.t.pub; rw [p5]; exact newT_wf
  have nx0 : s0.pub.nx = 0 := p1
  intro z
  refine ⟨fun ca cn cc i P => ∃ (k : Nat) (es : List CellE), i = k ∧ k ≤ n ∧ cn = es.length ∧ es.length ≤ k ∧ (es.length ≠ 0 → ca.isSome = true) ∧ (∀ x ∈ es, x.data.length ≤ x.dc ∧ (x.data.length ≠ 0 → x.da.isSome = true)) ∧ HP.ent P (PL kCellP ca es.length cc es), fun _ _ _ i _ => n - i.toNat, ⟨0, [], rfl, Nat.zero_le _, rfl, Nat.le_refl _, fun h => absurd rfl h, fun _ h => (by cases h), .of fun R h H => PL.zero (K := kCellP) z H⟩, ?_⟩
  rintro ca _ cc _ P ⟨k, es, rfl, hk, rfl, hes, hca, hin, hP⟩
  refine ⟨fun hlt => ⟨by omega, fun _ => ⟨st.is (by omega), fun _ => ?_⟩⟩, fun hge => ?_⟩
  · obtain ⟨x1, hx⟩ : ∃ x, L[k]? = some x := ⟨_, List.getElem?_eq_getElem (by omega)⟩
    have hxm := List.mem_of_getElem? hx
    have nxt : IntKind.i64.min ≤ (k : Int) + 1 ∧ (k : Int) + 1 ≤ IntKind.i64.max := inI64' _ (by omega) (by omega)
    refine ⟨x1.what, x1.low, x1.id_cl, x1.id_bi, x1.id_nu, x1.call_kind, x1.call_path, x1.call_other, x1.call_off, x1.call_n, x1.call_dataa, x1.call_data.length, x1.call_datac, x1.rawa, x1.raw.length, x1.rawc, Step16.load hx, fun q => ?_⟩
    refine ⟨fun _ => ⟨fun _ => ⟨fun h1 => ⟨fun h2 => ?_, fun _ => ?_⟩, fun _ => ?_⟩, fun _ => ?_⟩, fun _ => ?_⟩
    · refine (cell16_ok a n L hxm h1 h2 0).weak (fun _ _ h => h) ?_
      rintro v R h ⟨a', c', ⟨rfl, e1, e2⟩, H⟩
      refine ⟨_, a', _, c', RoB a' (cellS x1).2.length (cellS x1).2, rfl, fun q2 => ?_, H⟩
      clear H
      refine OTri.pre3 ((appCell ca es.length cc es q2 ⟨(cellS x1).1, (cellS x1).2, a', c'⟩ (RoB a' (cellS x1).2.length (cellS x1).2) (by omega)).weak (fun _ _ h => h) ?_) ((HP.ent.sep hP _).trans (.of fun R h H => HP.sep_mono H (fun _ h => h) fun z hz => HP.sep_mono hz (fun _ h => h) fun u hu => ?_))
      · rintro v R h ⟨ca', cc', rfl, H⟩
        have hs : ca'.isSome = true := PL.isAt (HP.sep_left H) (Nat.succ_ne_zero _)
        refine ⟨ca', es.length + 1, cc', _, rfl, ⟨nxt, fun _ => ⟨⟨k + 1, es ++ [⟨(cellS x1).1, (cellS x1).2, a', c'⟩], by omega, by omega, by simp, by simp; omega, fun _ => hs, fun y hy => ?_, ?_⟩, by dsimp only; omega⟩⟩, H⟩
        · rcases List.mem_append.1 hy with hy | hy
          · exact hin y hy
          · obtain rfl := List.mem_singleton.1 hy; exact ⟨e1, e2⟩
        · rw [List.length_append]; exact HP.ent.refl _
      · refine HP.sep_mono (A' := cellHp ⟨(cellS x1).1, (cellS x1).2, a', c'⟩) (B' := RoB a' (cellS x1).2.length (cellS x1).2) (RoC.join (B := RoB a' (cellS x1).2.length (cellS x1).2) hu hu) (fun _ h => ?_) fun _ h => h
        exact ⟨⟨e1, e2⟩, h⟩
    all_goals exact ⟨nxt, fun _ => ⟨⟨k + 1, es, by omega, by omega, rfl, by omega, hca, hin, hP⟩, by dsimp only; omega⟩⟩
  obtain rfl : k = n := by omega
  refine ⟨inI64' _ (by omega) (by omega), fun _ => ⟨by omega, fun _ => ?_⟩⟩
  rw [andffff]
  have rdE : ∀ {x : CellE}, x ∈ es → RdL P x.da x.data.length (x.data.map u8v) := fun {x} hx => by
    have r : RdL (PL kCellP ca es.length cc es) x.da x.data.length (x.data.map u8v) := rdImp fun R h H => (cellAt hx H).2
    refine ⟨fun w R h F s H => ?_, fun _ _ _ h0 => ?_⟩
    · obtain ⟨R', h', w1, w2, w3, w4, b⟩ := hP R h s.dRh H
      exact r.rd w R' h' F (s.ent w1 w2 w3 w4) b
    · have := (hin x hx).2
      cases hd : x.data.length with
      | zero => rfl
      | succ m => have := this (by omega); rw [h0] at this; cases this
  refine ⟨fun i Q1 Q2 => ∃ (j : Nat) (s t : RpS), i = j ∧ j ≤ es.length ∧ s.pub = foldP s0.pub (es.take j) ∧ t.pub = foldP s0.pub (es.take j) ∧ Q1 = RpRep y t ∧ Q2 = RpRep x s, fun i _ _ => es.length - i.toNat, ⟨0, s0, t0, rfl, Nat.zero_le _, rfl, hst, rfl, rfl⟩, ?_⟩
  rintro _ _ _ ⟨j, s, t, rfl, hj, hs, ht, rfl, rfl⟩
  have wfF := foldP_wf (Nat.le_refl 1) wf0 (es.take j)
  have hlt' : (es.take j).length = j := by rw [List.length_take]; omega
  rw [hlt'] at wfF
  have wfs : TWf (1 + j) s.t.pub := by have e : s.t.pub = s.pub.T := rfl; rw [e, hs]; exact wfF
  have wft : TWf (1 + j) t.t.pub := by have e : t.t.pub = t.pub.T := rfl; rw [e, ht]; exact wfF
  have nF := foldP_nx s0.pub (es.take j)
  rw [hlt', nx0] at nF
  have nxs : s.nx = j := by have e : s.nx = s.pub.nx := rfl; rw [e, hs, nF]; omega
  have nxt' : t.nx = j := by have e : t.nx = t.pub.nx := rfl; rw [e, ht, nF]; omega
  refine ⟨fun hlt => ⟨by omega, fun _ => ⟨hca (by omega), fun _ => ?_⟩⟩, fun hge => ?_⟩
  · have hj' : j < es.length := by omega
    have hm := List.getElem_mem hj'
    have hg : es[j]? = some es[j] := List.getElem?_eq_getElem hj'
    have hnext : foldP s0.pub (es.take (j + 1)) = takeP (foldP s0.pub (es.take j)) es[j].what es[j].data := by
      rw [List.take_succ_eq_append_getElem hj', foldP_snoc]
    refine ⟨es[j].what, es[j].da, es[j].data.length, es[j].dc, (ldCellP hg).ent hP, fun q => ?_⟩
    refine (rpTakeO (by omega) wfs es[j].what es[j].da es[j].data.length es[j].dc es[j].data P (rdE hm) rfl (hin _ hm).1 (hin _ hm).2 (by rw [nxs]; omega)).weak (fun _ _ h => h) ?_
    rintro v R h ⟨s', ⟨rfl, hs'⟩, H⟩
    rw [hs, ← hnext] at hs'
    refine ⟨RpRep x s', rfl, ?_, H⟩
    clear H
    refine (rpTakeO (by omega) wft es[j].what es[j].da es[j].data.length es[j].dc es[j].data P (rdE hm) rfl (hin _ hm).1 (hin _ hm).2 (by rw [nxt']; omega)).weak (fun _ _ h => h) ?_
    rintro v R h ⟨t', ⟨rfl, ht'⟩, H⟩
    rw [ht, ← hnext] at ht'
    refine ⟨RpRep y t', rfl, ?_, H⟩
    clear H
    have wfF' := foldP_wf (Nat.le_refl 1) wf0 (es.take (j + 1))
    have hlt2 : (es.take (j + 1)).length = j + 1 := by rw [List.length_take]; omega
    rw [hlt2] at wfF'
    have wft' : TWf (1 + (j + 1)) t'.t.pub := by have e : t'.t.pub = t'.pub.T := rfl; rw [e, ht']; exact wfF'
    have done : ∃ (j' : Nat) (s t : RpS), (j : Int) + 1 = j' ∧ j' ≤ es.length ∧ s.pub = foldP s0.pub (es.take j') ∧ t.pub = foldP s0.pub (es.take j') ∧ RpRep y t' = RpRep y t ∧ RpRep x s' = RpRep x s := ⟨j + 1, s', t', by omega, by omega, hs', ht', rfl, rfl⟩
    have nxj : IntKind.i64.min ≤ (j : Int) + 1 ∧ (j : Int) + 1 ≤ IntKind.i64.max := inI64' _ (by omega) (by omega)
    refine ⟨fun _ => ?_, fun _ => ⟨nxj, fun _ => ⟨done, by dsimp only; omega⟩⟩⟩
    refine (rpNodes_ok (by omega) wft').weak (fun _ _ h => h) ?_
    rintro v R h ⟨a2, c2, rfl, H⟩
    refine ⟨a2, _, c2, _, rfl, ?_, H⟩
    clear H
    refine (rpAnswer_ok (b := y) (s := t') (0, 0, 0)).weak (fun _ _ h => h) ?_
    rintro v R h ⟨da, dc, na, nc, rfl, H⟩
    refine ⟨_, _, _, _, da, _, dc, _, na, _, nc, _, _, rfl, ?_, H⟩
    clear H
    refine (rpSnap_ok (by omega) wft').weak (fun _ _ h => h) ?_
    rintro v R h ⟨a3, c3, rfl, H⟩
    have hs3 : (snapS t'.nx t'.t.pub).length ≠ 0 → a3.isSome = true := fun hn => OwC.some (HP.sep_left H) (Nat.pos_of_ne_zero hn)
    have hsm := snapS_small (by omega) wft' t'.nx
    refine ⟨a3, (snapS t'.nx t'.t.pub).length, c3, OwB a3 _ c3 (snapS t'.nx t'.t.pub), 0, rfl, ?_, H⟩
    clear H
    refine ⟨fun i Q => ∃ (m : Nat) (l : List UInt8), i = m ∧ m ≤ (snapS t'.nx t'.t.pub).length ∧ l.length = (snapS t'.nx t'.t.pub).length ∧ HP.ent Q (OwB a3 (snapS t'.nx t'.t.pub).length c3 l), fun i _ => (snapS t'.nx t'.t.pub).length - i.toNat, ⟨0, snapS t'.nx t'.t.pub, rfl, Nat.zero_le _, rfl, HP.ent.refl _⟩, ?_⟩
    rintro _ Q ⟨m, l, rfl, hm1, hl1, hQ⟩
    refine ⟨fun hlt3 => ⟨by omega, fun _ => ⟨hs3 (by omega), fun _ => ?_⟩⟩, fun _ => ⟨nxj, fun _ => ⟨done, by dsimp only; omega⟩⟩⟩
    refine stoByte (0 : UInt8) (by omega : m < (snapS t'.nx t'.t.pub).length) hQ fun R h H => ⟨_, rfl, ⟨inI64' _ (by omega) (by omega), fun _ => ⟨⟨m + 1, l.set m 0, by omega, by omega, by rw [List.length_set]; exact hl1, HP.ent.refl _⟩, by dsimp only; omega⟩⟩, H⟩
  · obtain rfl : j = es.length := by omega
    have hst2 : s.pub = t.pub := by rw [hs, ht]
    have e1 : s.t.pub = t.t.pub := congrArg RpP.T hst2
    refine (rpSnap_ok (by omega) wfs).weak (fun _ _ h => h) ?_
    rintro v R h ⟨a2, c2, rfl, H⟩
    refine ⟨a2, _, c2, OwB a2 _ c2 (snapS s.nx s.t.pub), 0, rfl, ?_, H⟩
    clear H
    refine (rpSnap_ok (by omega) wft).weak (fun _ _ h => h) ?_
    rintro v R h ⟨a3, c3, rfl, H⟩
    refine ⟨a3, _, c3, OwB a3 _ c3 (snapS t.nx t.t.pub), 0, rfl, ⟨fun _ => ⟨fun _ => ?_, fun h => absurd rfl h⟩, fun h => absurd rfl h⟩, H⟩
    clear H
    have hsm := snapS_small (by omega) wfs s.nx
    refine (same01_ok a2 _ c2 (snapS s.nx s.t.pub) a3 _ c3 (snapS t.nx t.t.pub) _ _ (RdL.ow _ _ _ _ _ _) (RdL.ow _ _ _ _ _ _) rfl rfl (by omega)).weak (fun _ _ h => h) ?_
    rintro v R h ⟨rfl, H⟩
    refine ⟨_, rfl, ⟨fun _ => ?_, fun h => absurd (by rw [nxs, nxt', e1]; simp) h⟩, H⟩
    clear H
    refine rpNext_ok.weak (fun _ _ h => h) ?_
    rintro v R h ⟨rfl, H⟩
    refine ⟨_, rfl, ⟨fun _ => ?_, fun h => absurd nxs h⟩, H⟩
    clear H
    have f1 := few_nodes wfs
    refine (rpNodes_ok (by omega) wfs).weak (fun _ _ h => h) ?_
    rintro v' R h ⟨na, nc, rfl, g1, g2, gd, gl1, gl2, ⟨fs, hfs, H1⟩, H2⟩
    refine ⟨na, s.t.pub.length, nc, Ls kNode na s.t.pub.length fs, rfl, ?_, ⟨g1, g2, gd, gl1, gl2, H1, H2⟩⟩
    clear H1 H2
    refine (rpNodes_ok (by omega) wft).weak (fun _ _ h => h) ?_
    rintro v' R h ⟨nb, nd, rfl, g1, g2, gd, gl1, gl2, ⟨gs, hgs, H1⟩, H2⟩
    refine ⟨nb, t.t.pub.length, nd, Ls kNode nb t.t.pub.length gs, rfl, ?_, ⟨g1, g2, gd, gl1, gl2, H1, H2⟩⟩
    clear H1 H2
    refine (sameNodes_ok na s.t.pub.length nc fs nb t.t.pub.length nd gs (esBN (by omega) wfs hfs) (by omega)).weak (fun _ _ h => h) ?_
    rintro v' R h ⟨rfl, H⟩
    refine ⟨_, rfl, .of fun R h H => ?_, H⟩
    show Value.bool _ = _
    rw [hfs, hgs, e1]; simp
end Go.Proofs.YtdieogcemmnaaaaGreatDoor


/- What the row lists of the sums' table is what each world's unchanging part is asked for. No condition. -/
namespace Go.Proofs.YtdieogcemmnaaaaGreatDoor
open Go.Proofs.YtdieogcemmnaaaaGreatDoor RX
open Go.ChangeShapes Go.WideShapes Go.ChangeAt Go.RowKit
set_option maxRecDepth 100000

theorem fours_name : Tryz.prog.globalNamed "tideline/check.fours" = some 0 := by kernel_rfl
theorem fours_type : (Tryz.prog.globals[(0 : Nat)]?).map (·.type) = some 316 := by kernel_rfl
theorem cells32 : Tryz.prog.cellsOf 243 = 1 := by kernel_rfl
theorem gr_of {w : World} {x : String × DataW Unit} {r : List (String × DataW Unit)} {ps : List MemPlace} (h : DataW.LaidVars Tryz.prog w (x :: ("tideline/check.fours", Rows.laid_tideline_check_fours) :: r) ps) : GR (allOf w) := by
  obtain ⟨_, _, _, _, _, q1, _, _, _, _, h2, _⟩ := h
  obtain ⟨g, t, cs, fuel, p, q, hg, ht, hv, htr, _, _⟩ := h2
  rw [fours_name] at hg
  cases hg
  rw [fours_type] at ht
  cases ht
  unfold World.var? at hv
  rw [fours_name] at hv
  simp only [Option.bind_some] at hv
  obtain ⟨ty, fr, hh⟩ : ∃ ty fr, w.heap[(0 : Nat)]? = some (.cells cs ty fr) := by
    split at hv
    · rename_i c ty fr e; cases hv; exact ⟨ty, fr, e⟩
    · cases hv
  refine ⟨cs, ty, fr, hh, fun i v hi => ?_⟩
  obtain ⟨xs, m, _, hx, hl, hn, hel⟩ := DataW.trod_array undF htr
  have hi16 : i < 16 := (List.getElem?_eq_some_iff.1 hi).1
  have hd : xs.map (·.1) = fours.map fun n : Nat => DataW.lit (.int .u32 ((n : Nat) : Int)) := by
    have := congrArg Prod.fst hx
    unfold Rows.laid_tideline_check_fours at this
    injection this with this
    exact this.symm
  have h1 := hel i hi16
  rw [cells32, Nat.mul_one] at h1
  have h3 : (xs.map (·.1))[i]? = some (DataW.lit (.int .u32 (v : Int))) := by rw [hd, List.getElem?_map, hi]; rfl
  rw [List.getElem?_map] at h3
  obtain ⟨y, hy, hy2⟩ := Option.map_eq_some_iff.1 h3
  rw [hy] at h1
  obtain ⟨z, hz, hz2, _⟩ := DataW.trod_int und32 h1
  rw [hz2] at hy2
  have e : z = (v : Int) := by
    injection hy2 with e
    injection e
  subst e
  have h5 : (List.take 1 (cs.toList.drop i))[0]? = some (Value.int .u32 (v : Int)) := by rw [hz]; rfl
  rw [List.getElem?_take, if_pos (by decide), List.getElem?_drop, Nat.add_zero] at h5
  simpa using h5
end Go.Proofs.YtdieogcemmnaaaaGreatDoor


/- What comes into ReplayFront, and its walk. No condition. -/
namespace Go.Proofs.YtdieogcemmnaaaaGreatDoor
open Go.RowKit Go.ChangeShapes Go.WideShapes Go.Deep RX

set_option maxRecDepth 100000 in
theorem replayFront_walk {H : Type} (enc : TypeId × Value → H) (base : Nat) (v0 v1 : Value) (w : World)
    (k0 : Value.okWide Tryz.prog w .any base 54 v0) (h0 : ∃ d p, DataW.Trod enc Tryz.prog w 0 (fun _ => true) true 54 v0 d p ∧ SmallU Tryz.prog 54 d)
    (k1 : Value.okWide Tryz.prog w .any base 3 v1) (h1 : ∃ d p, DataW.Trod enc Tryz.prog w 0 (fun _ => true) true 3 v1 d p ∧ SmallU Tryz.prog 3 d) (hG : GR (allOf w)) :
    Calls Tryz.prog 11 #[v0, v1] w fun e w' => e = .returned (.bool true) ∧ Below w.heap.size w w' := by
  obtain ⟨a0, l0, c0, rfl, b0, z0⟩ := slice_openU kStep16 Tryz.underlying54 (by kernel_rfl) (of_decide_eq_true (by kernel_rfl)) Step16.of_trod k0 h0
  obtain ⟨n1, rfl, r1⟩ := int_openRU k1 h1
  exact Tri.run (replayFront_ok a0 l0.length c0 l0 n1) (z0 _) hG
end Go.Proofs.YtdieogcemmnaaaaGreatDoor


/- ReplayFront holds where what comes in has at most 1048576 values and letters: the law returns true, and each argument reads behind the call as it read before. No condition. -/
namespace Go.Proofs.YtdieogcemmnaaaaGreatDoor.replayFront
open Go.ChangeShapes Go.WideShapes Go.ChangeAt Go.RowKit
set_option linter.unusedVariables false

theorem own : ownKnob Tryz.prog.godebug = none := by kernel_rfl
theorem laidOut : laidOutB Tryz.prog = true := by kernel_rfl

def laidL : List (String × DataW Unit) := [("unicode/utf8.acceptRanges", Rows.laid_unicode_utf8_acceptRanges), ("tideline/check.fours", Rows.laid_tideline_check_fours), ("unicode/utf8.first", Rows.laid_unicode_utf8_first)]
set_option maxRecDepth 100000 in
theorem plainL (w : World) : laidMetH Tryz.prog laidL w = laidMet Tryz.prog laidL w := MakeChecks.laidMetH_plain _ _ _ (by kernel_rfl)
set_option maxRecDepth 100000 in
theorem door_met (os : Os) (args : Array Value) : laidMetH Tryz.prog laidL ((World.laidAll Tryz.prog os laidL).forCall (fun _ _ => 0) ⟨#[], args, []⟩).memory := by
  rw [plainL]
  exact laidMet_laidAll _ (by kernel_rfl) (by kernel_rfl)
end Go.Proofs.YtdieogcemmnaaaaGreatDoor.replayFront



/- ReplayFront holds where what comes in has at most 1048576 values and letters: the law returns true, and each argument reads behind the call as it read before. No condition. -/
namespace Go.Proofs.YtdieogcemmnaaaaGreatDoor.replayFront
open Go.ChangeShapes Go.WideShapes Go.ChangeAt Go.RowKit
set_option linter.unusedVariables false

set_option maxRecDepth 100000 in
theorem witU (os : Os) (H : Type) (enc : TypeId × Value → H) : ∃ x, DataW.whole enc Tryz.prog ((World.laidAll Tryz.prog os laidL).forCall (fun _ _ => 0) ⟨#[], #[.slice none 0 0, .int .i64 0], []⟩).memory Tryz.f11.params.toList Rows.replayFrontSpec.vars false #[.slice none 0 0, .int .i64 0].toList 8 = some x ∧ Rows.uptoSmall H (x.1 ++ x.2.1) = true := by
  have h : (match DataW.whole enc Tryz.prog ((World.laidAll Tryz.prog os laidL).forCall (fun _ _ => 0) ⟨#[], #[.slice none 0 0, .int .i64 0], []⟩).memory Tryz.f11.params.toList Rows.replayFrontSpec.vars false #[.slice none 0 0, .int .i64 0].toList 8 with | some x => Rows.uptoSmall H (x.1 ++ x.2.1) | none => false) = true := by kernel_rfl
  revert h
  cases DataW.whole enc Tryz.prog ((World.laidAll Tryz.prog os laidL).forCall (fun _ _ => 0) ⟨#[], #[.slice none 0 0, .int .i64 0], []⟩).memory Tryz.f11.params.toList Rows.replayFrontSpec.vars false #[.slice none 0 0, .int .i64 0].toList 8 with
  | none => intro h; cases h
  | some x => intro h; exact ⟨x, rfl, h⟩
set_option maxRecDepth 100000 in
theorem okB (os : Os) : Input.okWideB Tryz.prog ((World.laidAll Tryz.prog os laidL).forCall (fun _ _ => 0) ⟨#[], #[.slice none 0 0, .int .i64 0], []⟩) 11 ⟨#[], #[.slice none 0 0, .int .i64 0], []⟩ = true := by kernel_rfl
set_option maxRecDepth 100000 in
theorem lifted (os : Os) (started : os.Started) (H : Type) (enc : TypeId × Value → H) (F : Stop.Interp) :
    ReturnsInHanded {} Tryz.checked os 11 .any ((Rows.OpenSpec.upto Rows.replayFrontSpec).preRow enc Tryz.prog Tryz.f11 Rows.replayFrontUptoRow.domain false Rows.replayFrontUptoRow.laid) (((Rows.OpenSpec.upto Rows.replayFrontSpec).at F).post enc Tryz.prog Tryz.f11 false true false false) := by
  obtain ⟨x, hx, hxk⟩ := witU os H enc
  refine returnsInHanded_of_row (C := Tryz.checked) (s := Rows.OpenSpec.upto Rows.replayFrontSpec) own started (by kernel_rfl) Tryz.func11
    ⟨World.laidAll Tryz.prog os laidL, fun _ _ => 0, ⟨#[], #[.slice none 0 0, .int .i64 0], []⟩, World.laidAll_os _ _ _, World.shaped_of_ZipB (by kernel_rfl) (by kernel_rfl), (Input.okWide_of_okWideB (base := 0) (okB os)).1, (Input.okWide_of_okWideB (okB os)).2,
      OpenSpec.preRow_of_cond 8 hx rfl (fun k hk => by cases hk; exact hxk) (by kernel_rfl) (door_met os _), by
        simp only [Assume.holds]
        exact ⟨by simp, by simp, fun _ => Modest.zero, by simp, by simp⟩⟩ ?_
  intro W base args ds gs before hval0 hW hcnd hk0 hsz0 hX0 _ _
  have hX : laidMetH Tryz.prog laidL W := hX0
  have hk : Rows.uptoSmall H (ds ++ gs) = true := hk0 _ rfl
  suffices key : Calls Tryz.prog 11 args W fun e W' => ∃ v, e = .returned v ∧ Rows.replayFrontSpec.post enc Tryz.prog Tryz.f11 false true false false W args v W' from key
  have hG : GR (allOf W) := by rw [plainL] at hX; obtain ⟨_, hv, _⟩ := hX; exact gr_of hv
  have hval : ∀ (j : Nat) t v, Tryz.f11.params[j]? = some t → args[j]? = some v → Value.okWide Tryz.prog W .any base t v := hval0
  have hW' := hW
  obtain ⟨p, q, hA0, hV, rfl, hfz, hnd⟩ := hW
  have hA : DataW.TrodAll enc Tryz.prog W 0 (fun _ => true) true Tryz.f11.params.toList args.toList ds p := hA0
  have hsz : (DataW.weightsEach Tryz.prog (Tryz.f11.params.toList ++ Rows.replayFrontSpec.plain.varTypes Tryz.prog) (ds ++ gs)).all (· ≤ reachBytes) = true := hsz0
  clear hsz0
  rw [Tryz.params11] at hA hval hsz
  obtain ⟨v0, vs0, d0, ds0, p0, q0, hargs, rfl, rfl, h0, r0⟩ := trodAll_cons hA
  obtain ⟨v1, vs1, d1, ds1, p1, q1, rfl, rfl, rfl, h1, r1⟩ := trodAll_cons r0
  obtain ⟨rfl, rfl, rfl⟩ := trodAll_nil r1
  obtain rfl : args = #[v0, v1] := by cases args; simp_all
  obtain ⟨rfl, rfl⟩ := trodVars_none hV
  have lt0 : ∀ x ∈ p0, x.block < W.heap.size := by obtain ⟨m, hm⟩ := h0; exact DataW.trod_lt m _ _ _ hm
  have lt1 : ∀ x ∈ p1, x.block < W.heap.size := by obtain ⟨m, hm⟩ := h1; exact DataW.trod_lt m _ _ _ hm
  refine (replayFront_walk enc base v0 v1 W (hval 0 54 v0 rfl rfl) ⟨_, _, h0, SmallU.arg hk (j := 0) rfl⟩ (hval 1 3 v1 rfl rfl) ⟨_, _, h1, SmallU.arg hk (j := 1) rfl⟩ hG).mono fun e W' ⟨he, bel⟩ => ?_
  subst he
  exact ⟨_, rfl, _, _, _, [], _, [], hW', trodAll_mk1 (shut_bool Tryz.underlying4 _), (trodAll_cons_mk (Below.trod laidOut (by kernel_rfl) (of_decide_eq_true (by kernel_rfl)) h0 bel lt0) (trodAll_cons_mk (Below.trod laidOut (by kernel_rfl) (of_decide_eq_true (by kernel_rfl)) h1 bel lt1) trodAll_mk0)), rfl, bel.frame _, fun h => by cases h⟩

end Go.Proofs.YtdieogcemmnaaaaGreatDoor.replayFront



/- ReplayFront holds where what comes in has at most 1048576 values and letters: the law returns true, and each argument reads behind the call as it read before. No condition. -/
namespace Go.Proofs.YtdieogcemmnaaaaGreatDoor.replayFront
open Go.ChangeShapes Go.WideShapes Go.ChangeAt Go.RowKit
set_option linter.unusedVariables false

theorem and2 {a b : Bool} (h1 : a = true) (h2 : b = true) : (a && b) = true := by rw [h1, h2]; rfl
theorem c0 : (fun (P : Program) (f : FuncId) (fn : Func) (s : ChangeSpec) (c : OpenClaim) => (c.wf (OpenSpec.ofChange s) : Bool)) Tryz.pinned.checked.prog 11 Tryz.f11 Rows.replayFrontSpec Rows.replayFrontUptoRow = true := by kernel_rfl
theorem c1 : (fun (P : Program) (f : FuncId) (fn : Func) (s : ChangeSpec) (c : OpenClaim) => (laidOutB P : Bool)) Tryz.pinned.checked.prog 11 Tryz.f11 Rows.replayFrontSpec Rows.replayFrontUptoRow = true := by kernel_rfl
theorem c2 : (fun (P : Program) (f : FuncId) (fn : Func) (s : ChangeSpec) (c : OpenClaim) => (mapsRowed P : Bool)) Tryz.pinned.checked.prog 11 Tryz.f11 Rows.replayFrontSpec Rows.replayFrontUptoRow = true := by kernel_rfl
theorem c3 : (fun (P : Program) (f : FuncId) (fn : Func) (s : ChangeSpec) (c : OpenClaim) => (fn.params.all (P.readableRec ·) : Bool)) Tryz.pinned.checked.prog 11 Tryz.f11 Rows.replayFrontSpec Rows.replayFrontUptoRow = true := by kernel_rfl
theorem c4 : (fun (P : Program) (f : FuncId) (fn : Func) (s : ChangeSpec) (c : OpenClaim) => (namedTie P c.named s.vars : Bool)) Tryz.pinned.checked.prog 11 Tryz.f11 Rows.replayFrontSpec Rows.replayFrontUptoRow = true := by kernel_rfl
theorem c5 : (fun (P : Program) (f : FuncId) (fn : Func) (s : ChangeSpec) (c : OpenClaim) => ((c.stops == []) : Bool)) Tryz.pinned.checked.prog 11 Tryz.f11 Rows.replayFrontSpec Rows.replayFrontUptoRow = true := by kernel_rfl
theorem c6 : (fun (P : Program) (f : FuncId) (fn : Func) (s : ChangeSpec) (c : OpenClaim) => ((P.stops == []) : Bool)) Tryz.pinned.checked.prog 11 Tryz.f11 Rows.replayFrontSpec Rows.replayFrontUptoRow = true := by kernel_rfl
theorem c7 : (fun (P : Program) (f : FuncId) (fn : Func) (s : ChangeSpec) (c : OpenClaim) => ((c.knobs == []) : Bool)) Tryz.pinned.checked.prog 11 Tryz.f11 Rows.replayFrontSpec Rows.replayFrontUptoRow = true := by kernel_rfl
theorem c8 : (fun (P : Program) (f : FuncId) (fn : Func) (s : ChangeSpec) (c : OpenClaim) => ((P.stopKnobs == []) : Bool)) Tryz.pinned.checked.prog 11 Tryz.f11 Rows.replayFrontSpec Rows.replayFrontUptoRow = true := by kernel_rfl
theorem c9 : (fun (P : Program) (f : FuncId) (fn : Func) (s : ChangeSpec) (c : OpenClaim) => ((c.inPlace == P.inPlace f) : Bool)) Tryz.pinned.checked.prog 11 Tryz.f11 Rows.replayFrontSpec Rows.replayFrontUptoRow = true := by kernel_rfl
theorem c10 : (fun (P : Program) (f : FuncId) (fn : Func) (s : ChangeSpec) (c : OpenClaim) => ((c.unfollowed == P.unfollowed f) : Bool)) Tryz.pinned.checked.prog 11 Tryz.f11 Rows.replayFrontSpec Rows.replayFrontUptoRow = true := by kernel_rfl
theorem c11 : (fun (P : Program) (f : FuncId) (fn : Func) (s : ChangeSpec) (c : OpenClaim) => ((c.recurses == P.recurses f) : Bool)) Tryz.pinned.checked.prog 11 Tryz.f11 Rows.replayFrontSpec Rows.replayFrontUptoRow = true := by kernel_rfl
theorem c12 : (fun (P : Program) (f : FuncId) (fn : Func) (s : ChangeSpec) (c : OpenClaim) => ((c.named == P.varsNamed f) : Bool)) Tryz.pinned.checked.prog 11 Tryz.f11 Rows.replayFrontSpec Rows.replayFrontUptoRow = true := by kernel_rfl
theorem c13 : (fun (P : Program) (f : FuncId) (fn : Func) (s : ChangeSpec) (c : OpenClaim) => ((c.maps == (fn.params.toList ++ s.plain.varTypes P).any (P.mapsRec ·)) : Bool)) Tryz.pinned.checked.prog 11 Tryz.f11 Rows.replayFrontSpec Rows.replayFrontUptoRow = true := by kernel_rfl
theorem c14 : (fun (P : Program) (f : FuncId) (fn : Func) (s : ChangeSpec) (c : OpenClaim) => ((c.ifaces == (fn.params.toList ++ s.plain.varTypes P).any (P.ifacesRec ·)) : Bool)) Tryz.pinned.checked.prog 11 Tryz.f11 Rows.replayFrontSpec Rows.replayFrontUptoRow = true := by kernel_rfl
theorem c15 : (fun (P : Program) (f : FuncId) (fn : Func) (s : ChangeSpec) (c : OpenClaim) => ((c.mapsOut == P.mapsAmong fn.resultTypes.toList) : Bool)) Tryz.pinned.checked.prog 11 Tryz.f11 Rows.replayFrontSpec Rows.replayFrontUptoRow = true := by kernel_rfl
theorem c16 : (fun (P : Program) (f : FuncId) (fn : Func) (s : ChangeSpec) (c : OpenClaim) => ((c.loops == (fn.params.toList ++ s.plain.varTypes P).any (P.loopsFrom ·)) : Bool)) Tryz.pinned.checked.prog 11 Tryz.f11 Rows.replayFrontSpec Rows.replayFrontUptoRow = true := by kernel_rfl
theorem c17 : (fun (P : Program) (f : FuncId) (fn : Func) (s : ChangeSpec) (c : OpenClaim) => ((c.wideKeys == (fn.params.toList ++ s.plain.varTypes P ++ fn.resultTypes.toList).any (P.wideKeysFrom ·)) : Bool)) Tryz.pinned.checked.prog 11 Tryz.f11 Rows.replayFrontSpec Rows.replayFrontUptoRow = true := by kernel_rfl
theorem c18 : (fun (P : Program) (f : FuncId) (fn : Func) (s : ChangeSpec) (c : OpenClaim) => (s.vars.all (P.varReadable ·) : Bool)) Tryz.pinned.checked.prog 11 Tryz.f11 Rows.replayFrontSpec Rows.replayFrontUptoRow = true := by kernel_rfl
theorem c19 : (fun (P : Program) (f : FuncId) (fn : Func) (s : ChangeSpec) (c : OpenClaim) => (fn.resultTypes.all (fun t => P.readableRec t && decide (t < P.types.size)) : Bool)) Tryz.pinned.checked.prog 11 Tryz.f11 Rows.replayFrontSpec Rows.replayFrontUptoRow = true := by kernel_rfl
theorem c20 : (fun (P : Program) (f : FuncId) (fn : Func) (s : ChangeSpec) (c : OpenClaim) => ((c.ifacesOut == fn.resultTypes.toList.any (P.ifacesRec ·)) : Bool)) Tryz.pinned.checked.prog 11 Tryz.f11 Rows.replayFrontSpec Rows.replayFrontUptoRow = true := by kernel_rfl
theorem c21 : (fun (P : Program) (f : FuncId) (fn : Func) (s : ChangeSpec) (c : OpenClaim) => ((c.loopsOut == fn.resultTypes.toList.any (P.loopsFrom ·)) : Bool)) Tryz.pinned.checked.prog 11 Tryz.f11 Rows.replayFrontSpec Rows.replayFrontUptoRow = true := by kernel_rfl
theorem c22 : (fun (P : Program) (f : FuncId) (fn : Func) (s : ChangeSpec) (c : OpenClaim) => ((c.plainKeys == P.plainKeys) : Bool)) Tryz.pinned.checked.prog 11 Tryz.f11 Rows.replayFrontSpec Rows.replayFrontUptoRow = true := by kernel_rfl
theorem c23 : (fun (P : Program) (f : FuncId) (fn : Func) (s : ChangeSpec) (c : OpenClaim) => (c.shortTexts.isNone : Bool)) Tryz.pinned.checked.prog 11 Tryz.f11 Rows.replayFrontSpec Rows.replayFrontUptoRow = true := by kernel_rfl
theorem c24 : (fun (P : Program) (f : FuncId) (fn : Func) (s : ChangeSpec) (c : OpenClaim) => (P.stopsHeard : Bool)) Tryz.pinned.checked.prog 11 Tryz.f11 Rows.replayFrontSpec Rows.replayFrontUptoRow = true := by kernel_rfl
theorem c25 : (fun (P : Program) (f : FuncId) (fn : Func) (s : ChangeSpec) (c : OpenClaim) => (P.mayEnter : Bool)) Tryz.pinned.checked.prog 11 Tryz.f11 Rows.replayFrontSpec Rows.replayFrontUptoRow = true := by kernel_rfl
theorem c26 : (fun (P : Program) (f : FuncId) (fn : Func) (s : ChangeSpec) (c : OpenClaim) => ((c.lifted == P.liftsFinal) : Bool)) Tryz.pinned.checked.prog 11 Tryz.f11 Rows.replayFrontSpec Rows.replayFrontUptoRow = true := by kernel_rfl
theorem c27 : (fun (P : Program) (f : FuncId) (fn : Func) (s : ChangeSpec) (c : OpenClaim) => ((P.make == some c.make) : Bool)) Tryz.pinned.checked.prog 11 Tryz.f11 Rows.replayFrontSpec Rows.replayFrontUptoRow = true := by kernel_rfl
theorem c28 : (fun (P : Program) (f : FuncId) (fn : Func) (s : ChangeSpec) (c : OpenClaim) => ((c.kinds == (if c.domain.isEmpty then [] else fn.params.toList.map fun t => match P.underlying t with | some (.int k) => some k | _ => none)) : Bool)) Tryz.pinned.checked.prog 11 Tryz.f11 Rows.replayFrontSpec Rows.replayFrontUptoRow = true := by kernel_rfl
theorem c29 : (fun (P : Program) (f : FuncId) (fn : Func) (s : ChangeSpec) (c : OpenClaim) => ((c.pinned == c.pinnedBy) : Bool)) Tryz.pinned.checked.prog 11 Tryz.f11 Rows.replayFrontSpec Rows.replayFrontUptoRow = true := by kernel_rfl
theorem c30 : (fun (P : Program) (f : FuncId) (fn : Func) (s : ChangeSpec) (c : OpenClaim) => ((c.veiled == (fn.params.toList ++ s.plain.varTypes P ++ fn.resultTypes.toList).any (P.veiledRec ·)) : Bool)) Tryz.pinned.checked.prog 11 Tryz.f11 Rows.replayFrontSpec Rows.replayFrontUptoRow = true := by kernel_rfl
theorem c31 : (fun (P : Program) (f : FuncId) (fn : Func) (s : ChangeSpec) (c : OpenClaim) => (c.veiledFits P fn.params.toList (fn.params.toList ++ s.plain.varTypes P ++ fn.resultTypes.toList) : Bool)) Tryz.pinned.checked.prog 11 Tryz.f11 Rows.replayFrontSpec Rows.replayFrontUptoRow = true := by kernel_rfl
theorem inst : Tryz.f11.isInstance Tryz.pinned.checked.prog Rows.replayFrontUptoRow.origin Rows.replayFrontUptoRow.targs := (of_decide_eq_true (by kernel_rfl))
theorem wrap : Tryz.f11.isWrapper Tryz.pinned.checked.prog Rows.replayFrontUptoRow.wrapper Rows.replayFrontUptoRow.mainSum := by unfold Func.isWrapper; first | (rw [if_pos (by decide +kernel)]; kernel_rfl) | (rw [if_neg (by decide +kernel)]; exact ⟨rfl, rfl⟩)
theorem nmd : Tryz.pinned.checked.prog.funcNamed Rows.replayFrontUptoRow.func = some 11 := by kernel_rfl
end Go.Proofs.YtdieogcemmnaaaaGreatDoor.replayFront



/- ReplayFront holds where what comes in has at most 1048576 values and letters: the law returns true, and each argument reads behind the call as it read before. No condition. -/
namespace Go.Proofs.YtdieogcemmnaaaaGreatDoor.replayFront
open Go.ChangeShapes Go.WideShapes Go.ChangeAt Go.RowKit
set_option linter.unusedVariables false

set_option maxRecDepth 100000 in
theorem closed : joinedFacts Tryz.pinned.checked.prog 11 Tryz.f11 Rows.replayFrontSpec Rows.replayFrontUptoRow = true := (and2 (and2 (and2 (and2 (and2 (and2 (and2 (and2 (and2 (and2 (and2 (and2 (and2 (and2 (and2 (and2 (and2 (and2 (and2 (and2 (and2 (and2 (and2 (and2 (and2 (and2 (and2 (and2 (and2 (and2 (and2 c0 c1) c2) c3) c4) c5) c6) c7) c8) c9) c10) c11) c12) c13) c14) c15) c16) c17) c18) c19) c20) c21) c22) c23) c24) c25) c26) c27) c28) c29) c30) c31)
theorem over : Rows.replayFrontUptoRow.holds Tryz.pinned (Rows.OpenSpec.upto Rows.replayFrontSpec) :=
  OpenClaim.holds_of_cond 11 Tryz.f11 rfl rfl rfl rfl rfl rfl rfl ⟨rfl, rfl, rfl, rfl, rfl⟩ rfl rfl rfl rfl rfl nmd Tryz.func11 closed inst wrap (fun os started H enc _ F => by rw [OpenClaim.pre_eq_preRow]; exact lifted os started H enc F)
end Go.Proofs.YtdieogcemmnaaaaGreatDoor.replayFront


