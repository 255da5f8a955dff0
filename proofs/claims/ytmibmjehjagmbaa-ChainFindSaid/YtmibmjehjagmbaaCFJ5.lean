/- Texts of this claim, joined: TrLaw17, ChainF, Sized, In, Ins, Ptrs, ChainG, ChainP, ChainQ, ChainR, ChainS, ChainT, ChainU, ChainW, ChainX, ChainZ, ChainV, TrLawCA, ChainY, ChainOA, ChainFA, In17. No condition. -/
import Derived.Test.YtmibmjehjagmbaaCFJ1
import Derived.Test.YtmibmjehjagmbaaCFJ4
import Derived.KernelRfl
import Derived.SizedLaws
import Derived.ProofKit
import Derived.OpenShut
import Derived.Deep.Slices
import Derived.Lib.SmallJoins
import Derived.Below
set_option linter.unusedSimpArgs false
set_option linter.unusedVariables false
/- Trees of functions, printed by rx.lean. No condition. -/
namespace Go.Proofs.Ytmibmjehjagmbaa.RX
set_option maxRecDepth 100000
-- tideline/tidelinelaw17.laid: ρ := [.i n]
def t_laid17 : T :=
(.new
(.loop [.a, .n, .n, .p, .a, .n, .n, .i, .p] [(.a .nil), (.e (.o2 .nadd (.n 0) (.n 0))), (.e (.o2 .nadd (.n 0) (.n 0))), (.p []), (.a (.b (.v 1) 0)), (.e (.o2 .nadd (.n 0) (.n 0))), (.e (.o2 .nadd (.n 0) (.n 0))), (.e (.o1 .neg (.o1 .neg (.i 0)))), (.p [((.b (.v 1)), (.cells [] 26))])]
 (.br (.o2 .lt (.v 9) (.v 0))
  (.call 23 [(.a (.int .i64 (.i 400)))] [] [.n, .p, .i] (.tup [(.a (.ptr (.v 11) 0)), (.a (.int .i64 (.v 13)))]) [((.b (.v 11)), (.prop 12))]
  (.br (.o1 .not (.o2 .eq (.v 13) (.i 0)))
   (.ret (.w (.a (.sl .nil (.n 0) (.n 0)))) [])
   (.call 17 [(.a (.ptr (.v 11) 0))] [((.b (.v 11)), (.prop 12))] [.n, .p, .i, .p] (.tup [(.a (.ptr (.v 14) 0)), (.a (.int .i64 (.v 16)))]) [((.b (.v 14)), (.prop 15)), ((.b (.v 11)), (.prop 17))]
   (.br (.o1 .not (.o2 .eq (.v 16) (.i 0)))
    (.ret (.w (.a (.sl .nil (.n 0) (.n 0)))) [])
    (.new
    (.op (.call ⟨.builtin .append, #[(.tmp 36), (.tmp 38)], #[52, 52]⟩) 52 [(36, (.w (.a (.sl (.v 6) (.v 7) (.v 8))))), (38, (.w (.a (.sl (.b (.v 18) 0) (.n 1) (.n 1)))))] [((.a 6), (.prop 10)), ((.b (.v 18)), (.cells [(.ptr (.v 14) 0)] 26)), ((.b (.v 14)), (.prop 15)), ((.b (.v 11)), (.prop 17))] [.a, .n, .n, .p] (.w (.a (.sl (.v 19) (.v 20) (.v 21)))) [((.a 19), (.prop 22))]
    (.need (.o1 (.inr .i64) (.o2 .add (.v 9) (.i 1)))
    (.again 0 [(.a (.v 2)), (.e (.o2 .nadd (.v 3) (.n 0))), (.e (.o2 .nadd (.v 4) (.n 0))), (.p [((.a 2), (.prop 5))]), (.a (.v 19)), (.e (.o2 .nadd (.v 20) (.n 0))), (.e (.o2 .nadd (.v 21) (.n 0))), (.e (.o1 .neg (.o1 .neg (.o2 .add (.v 9) (.i 1))))), (.p [((.a 19), (.prop 22))])]))))))))
  (.ret (.w (.a (.sl (.v 6) (.v 7) (.v 8)))) [((.a 6), (.prop 10))]))))
theorem tree_laid17 : tree Try.prog { absT := [], opq := [], hv := [(0, [(.b (.v 1))])], keep := [52, 54, 53, 56, 92, 21, 50, 49], link := [(17, 0)], ent := [], turn := [(45, [0]), (55, [0])], shr := [], vt := [], mkd := [], rlink := [], pty := [], outl := true, stay := [], snk := [] } Try.f48 [(.a (.int .i64 (.v 0)))] [] 1 = t_laid17 := by kernel_rfl
-- tideline/tidelinelaw17.ask: ρ := [.n o, .p oP, .a unitsa, .n unitsl, .n unitsc, .p unitsP]
def t_ask17 : T :=
(.call 92 [(.a (.ptr (.v 0) 0))] [((.b (.v 0)), (.prop 1))] [.i, .i, .i, .a, .n, .n, .p, .c] (.tup [(.a (.int .i64 (.v 6))), (.a (.int .i64 (.v 7))), (.agg [(.int .i64 (.v 8)), (.sl (.v 9) (.v 10) (.v 11))]), (.a (.bool (.v 13)))]) [((.a 9), (.prop 12)), ((.b (.v 0)), (.prop 1))]
(.new
(.br (.o1 .not (.v 13))
 (.ret (.w (.a (.bool (.c false)))) [((.b (.v 0)), (.prop 1)), ((.a 2), (.prop 5))])
 (.br (.o2 .lt (.v 6) (.i 0))
  (.ret (.w (.a (.bool (.c false)))) [((.b (.v 0)), (.prop 1)), ((.a 2), (.prop 5))])
  (.br (.o2 .le (.o1 .ofNat (.v 3)) (.v 6))
   (.ret (.w (.a (.bool (.c false)))) [((.b (.v 0)), (.prop 1)), ((.a 2), (.prop 5))])
   (.need (.o2 .le (.i 0) (.v 6))
   (.need (.o2 .lt (.v 6) (.o1 .ofNat (.v 3)))
   (.need (.o1 .isSome (.v 2))
   (.all
    (.op (.load 26 (.tmp 33)) 26 [(33, (.w (.a (.eptr 2 (.v 6) 1 0))))] [((.a 2), (.prop 5))] [.n, .p, .p] (.w (.a (.ptr (.v 15) 0))) [((.b (.v 15)), (.prop 16)), ((.a 2), (.prop 17))]
    (.all
     (.call 54 [(.a (.ptr (.v 0) 0))] [((.b (.v 0)), (.prop 1))] [.i] (.w (.a (.int .i64 (.v 18)))) [((.b (.v 0)), (.prop 1))]
     (.all
      (.all
       (.call 45 [(.a (.ptr (.v 15) 0)), (.agg [(.int .i64 (.i 0)), (.int .i64 (.i 0)), (.int .i64 (.i 0)), (.bool (.c false)), (.int .i64 (.v 7)), (.int .i64 (.i 0)), (.int .i64 (.v 18)), (.int .i64 (.v 8)), (.sl (.v 9) (.v 10) (.v 11)), (.int .i64 (.i 0)), (.int .i64 (.i 0)), (.sl .nil (.n 0) (.n 0)), (.int .i64 (.i 0)), (.int .i64 (.i 0)), (.int .i64 (.i 0)), (.int .i64 (.i 0))])] [((.b (.v 15)), (.prop 16)), ((.a 9), (.prop 12))] [.i, .i, .i, .c, .i, .i, .i, .i, .a, .n, .n, .p, .i, .i, .a, .n, .n, .p, .i, .i, .i, .i, .c, .p] (.tup [(.agg [(.int .i64 (.v 19)), (.int .i64 (.v 20)), (.int .i64 (.v 21)), (.bool (.v 22)), (.int .i64 (.v 23)), (.int .i64 (.v 24)), (.int .i64 (.v 25)), (.int .i64 (.v 26)), (.sl (.v 27) (.v 28) (.v 29)), (.int .i64 (.v 31)), (.int .i64 (.v 32)), (.sl (.v 33) (.v 34) (.v 35)), (.int .i64 (.v 37)), (.int .i64 (.v 38)), (.int .i64 (.v 39)), (.int .i64 (.v 40))]), (.a (.bool (.v 41)))]) [((.a 27), (.prop 30)), ((.a 33), (.prop 36)), ((.b (.v 15)), (.prop 42)), ((.a 9), (.prop 12))]
       (.new
       (.br (.v 41)
        (.call 55 [(.a (.ptr (.v 0) 0)), (.agg [(.int .i64 (.v 19)), (.int .i64 (.v 20)), (.int .i64 (.v 21)), (.bool (.v 22)), (.int .i64 (.v 23)), (.int .i64 (.v 24)), (.int .i64 (.v 25)), (.int .i64 (.v 26)), (.sl (.v 27) (.v 28) (.v 29)), (.int .i64 (.v 31)), (.int .i64 (.v 32)), (.sl (.v 33) (.v 34) (.v 35)), (.int .i64 (.v 37)), (.int .i64 (.v 38)), (.int .i64 (.v 39)), (.int .i64 (.v 40))])] [((.b (.v 0)), (.prop 1)), ((.a 27), (.prop 30)), ((.a 33), (.prop 36))] [.p] (.tup []) [((.b (.v 0)), (.prop 44)), ((.a 27), (.prop 30)), ((.a 33), (.prop 36))]
        (.ret (.w (.a (.bool (.v 41)))) [((.b (.v 0)), (.prop 44)), ((.a 2), (.prop 17)), ((.b (.v 15)), (.prop 42))]))
        (.ret (.w (.a (.bool (.v 41)))) [((.b (.v 0)), (.prop 1)), ((.a 2), (.prop 17)), ((.b (.v 15)), (.prop 42))]))))
       (.new
       (.call 45 [(.a (.ptr (.v 15) 0)), (.agg [(.int .i64 (.i 0)), (.int .i64 (.i 0)), (.int .i64 (.i 0)), (.bool (.c false)), (.int .i64 (.v 7)), (.int .i64 (.i 0)), (.int .i64 (.v 18)), (.int .i64 (.v 8)), (.sl (.v 9) (.v 10) (.v 11)), (.int .i64 (.i 0)), (.int .i64 (.i 0)), (.sl .nil (.n 0) (.n 0)), (.int .i64 (.i 0)), (.int .i64 (.i 0)), (.int .i64 (.i 0)), (.int .i64 (.i 0))])] [((.b (.v 15)), (.prop 16)), ((.a 9), (.prop 12))] [.i, .i, .i, .c, .i, .i, .i, .i, .a, .n, .n, .p, .i, .i, .a, .n, .n, .p, .i, .i, .i, .i, .c, .p] (.tup [(.agg [(.int .i64 (.v 20)), (.int .i64 (.v 21)), (.int .i64 (.v 22)), (.bool (.v 23)), (.int .i64 (.v 24)), (.int .i64 (.v 25)), (.int .i64 (.v 26)), (.int .i64 (.v 27)), (.sl (.v 28) (.v 29) (.v 30)), (.int .i64 (.v 32)), (.int .i64 (.v 33)), (.sl (.v 34) (.v 35) (.v 36)), (.int .i64 (.v 38)), (.int .i64 (.v 39)), (.int .i64 (.v 40)), (.int .i64 (.v 41))]), (.a (.bool (.v 42)))]) [((.a 28), (.prop 31)), ((.a 34), (.prop 37)), ((.b (.v 15)), (.prop 43)), ((.a 9), (.prop 12))]
       (.br (.v 42)
        (.call 55 [(.a (.ptr (.v 0) 0)), (.agg [(.int .i64 (.v 20)), (.int .i64 (.v 21)), (.int .i64 (.v 22)), (.bool (.v 23)), (.int .i64 (.v 24)), (.int .i64 (.v 25)), (.int .i64 (.v 26)), (.int .i64 (.v 27)), (.sl (.v 28) (.v 29) (.v 30)), (.int .i64 (.v 32)), (.int .i64 (.v 33)), (.sl (.v 34) (.v 35) (.v 36)), (.int .i64 (.v 38)), (.int .i64 (.v 39)), (.int .i64 (.v 40)), (.int .i64 (.v 41))])] [((.b (.v 0)), (.prop 1)), ((.a 28), (.prop 31)), ((.a 34), (.prop 37))] [.p] (.tup []) [((.b (.v 0)), (.prop 44)), ((.a 28), (.prop 31)), ((.a 34), (.prop 37))]
        (.ret (.w (.a (.bool (.v 42)))) [((.b (.v 0)), (.prop 44)), ((.a 2), (.prop 17)), ((.b (.v 15)), (.prop 43))]))
        (.ret (.w (.a (.bool (.v 42)))) [((.b (.v 0)), (.prop 1)), ((.a 2), (.prop 17)), ((.b (.v 15)), (.prop 43))])))))
      (.new
      (.call 45 [(.a (.ptr (.v 15) 0)), (.agg [(.int .i64 (.i 0)), (.int .i64 (.i 0)), (.int .i64 (.i 0)), (.bool (.c false)), (.int .i64 (.v 7)), (.int .i64 (.i 0)), (.int .i64 (.v 18)), (.int .i64 (.v 8)), (.sl (.v 9) (.v 10) (.v 11)), (.int .i64 (.i 0)), (.int .i64 (.i 0)), (.sl .nil (.n 0) (.n 0)), (.int .i64 (.i 0)), (.int .i64 (.i 0)), (.int .i64 (.i 0)), (.int .i64 (.i 0))])] [((.b (.v 15)), (.prop 16)), ((.a 9), (.prop 12))] [.i, .i, .i, .c, .i, .i, .i, .i, .a, .n, .n, .p, .i, .i, .a, .n, .n, .p, .i, .i, .i, .i, .c, .p] (.tup [(.agg [(.int .i64 (.v 20)), (.int .i64 (.v 21)), (.int .i64 (.v 22)), (.bool (.v 23)), (.int .i64 (.v 24)), (.int .i64 (.v 25)), (.int .i64 (.v 26)), (.int .i64 (.v 27)), (.sl (.v 28) (.v 29) (.v 30)), (.int .i64 (.v 32)), (.int .i64 (.v 33)), (.sl (.v 34) (.v 35) (.v 36)), (.int .i64 (.v 38)), (.int .i64 (.v 39)), (.int .i64 (.v 40)), (.int .i64 (.v 41))]), (.a (.bool (.v 42)))]) [((.a 28), (.prop 31)), ((.a 34), (.prop 37)), ((.b (.v 15)), (.prop 43)), ((.a 9), (.prop 12))]
      (.br (.v 42)
       (.call 55 [(.a (.ptr (.v 0) 0)), (.agg [(.int .i64 (.v 20)), (.int .i64 (.v 21)), (.int .i64 (.v 22)), (.bool (.v 23)), (.int .i64 (.v 24)), (.int .i64 (.v 25)), (.int .i64 (.v 26)), (.int .i64 (.v 27)), (.sl (.v 28) (.v 29) (.v 30)), (.int .i64 (.v 32)), (.int .i64 (.v 33)), (.sl (.v 34) (.v 35) (.v 36)), (.int .i64 (.v 38)), (.int .i64 (.v 39)), (.int .i64 (.v 40)), (.int .i64 (.v 41))])] [((.b (.v 0)), (.prop 1)), ((.a 28), (.prop 31)), ((.a 34), (.prop 37))] [.p] (.tup []) [((.b (.v 0)), (.prop 44)), ((.a 28), (.prop 31)), ((.a 34), (.prop 37))]
       (.ret (.w (.a (.bool (.v 42)))) [((.b (.v 0)), (.prop 44)), ((.a 2), (.prop 17)), ((.b (.v 15)), (.prop 43))]))
       (.ret (.w (.a (.bool (.v 42)))) [((.b (.v 0)), (.prop 1)), ((.a 2), (.prop 17)), ((.b (.v 15)), (.prop 43))]))))))
     (.new
     (.call 54 [(.a (.ptr (.v 0) 0))] [((.b (.v 0)), (.prop 1))] [.i] (.w (.a (.int .i64 (.v 19)))) [((.b (.v 0)), (.prop 1))]
     (.call 45 [(.a (.ptr (.v 15) 0)), (.agg [(.int .i64 (.i 0)), (.int .i64 (.i 0)), (.int .i64 (.i 0)), (.bool (.c false)), (.int .i64 (.v 7)), (.int .i64 (.i 0)), (.int .i64 (.v 19)), (.int .i64 (.v 8)), (.sl (.v 9) (.v 10) (.v 11)), (.int .i64 (.i 0)), (.int .i64 (.i 0)), (.sl .nil (.n 0) (.n 0)), (.int .i64 (.i 0)), (.int .i64 (.i 0)), (.int .i64 (.i 0)), (.int .i64 (.i 0))])] [((.b (.v 15)), (.prop 16)), ((.a 9), (.prop 12))] [.i, .i, .i, .c, .i, .i, .i, .i, .a, .n, .n, .p, .i, .i, .a, .n, .n, .p, .i, .i, .i, .i, .c, .p] (.tup [(.agg [(.int .i64 (.v 20)), (.int .i64 (.v 21)), (.int .i64 (.v 22)), (.bool (.v 23)), (.int .i64 (.v 24)), (.int .i64 (.v 25)), (.int .i64 (.v 26)), (.int .i64 (.v 27)), (.sl (.v 28) (.v 29) (.v 30)), (.int .i64 (.v 32)), (.int .i64 (.v 33)), (.sl (.v 34) (.v 35) (.v 36)), (.int .i64 (.v 38)), (.int .i64 (.v 39)), (.int .i64 (.v 40)), (.int .i64 (.v 41))]), (.a (.bool (.v 42)))]) [((.a 28), (.prop 31)), ((.a 34), (.prop 37)), ((.b (.v 15)), (.prop 43)), ((.a 9), (.prop 12))]
     (.br (.v 42)
      (.call 55 [(.a (.ptr (.v 0) 0)), (.agg [(.int .i64 (.v 20)), (.int .i64 (.v 21)), (.int .i64 (.v 22)), (.bool (.v 23)), (.int .i64 (.v 24)), (.int .i64 (.v 25)), (.int .i64 (.v 26)), (.int .i64 (.v 27)), (.sl (.v 28) (.v 29) (.v 30)), (.int .i64 (.v 32)), (.int .i64 (.v 33)), (.sl (.v 34) (.v 35) (.v 36)), (.int .i64 (.v 38)), (.int .i64 (.v 39)), (.int .i64 (.v 40)), (.int .i64 (.v 41))])] [((.b (.v 0)), (.prop 1)), ((.a 28), (.prop 31)), ((.a 34), (.prop 37))] [.p] (.tup []) [((.b (.v 0)), (.prop 44)), ((.a 28), (.prop 31)), ((.a 34), (.prop 37))]
      (.ret (.w (.a (.bool (.v 42)))) [((.b (.v 0)), (.prop 44)), ((.a 2), (.prop 17)), ((.b (.v 15)), (.prop 43))]))
      (.ret (.w (.a (.bool (.v 42)))) [((.b (.v 0)), (.prop 1)), ((.a 2), (.prop 17)), ((.b (.v 15)), (.prop 43))])))))))
    (.all
     (.call 54 [(.a (.ptr (.v 0) 0))] [((.b (.v 0)), (.prop 1))] [.i] (.w (.a (.int .i64 (.v 15)))) [((.b (.v 0)), (.prop 1))]
     (.all
      (.op (.load 26 (.tmp 33)) 26 [(33, (.w (.a (.eptr 2 (.v 6) 1 0))))] [((.a 2), (.prop 5))] [.n, .p, .p] (.w (.a (.ptr (.v 16) 0))) [((.b (.v 16)), (.prop 17)), ((.a 2), (.prop 18))]
      (.all
       (.all
        (.call 45 [(.a (.ptr (.v 16) 0)), (.agg [(.int .i64 (.i 0)), (.int .i64 (.i 0)), (.int .i64 (.i 0)), (.bool (.c false)), (.int .i64 (.v 7)), (.int .i64 (.i 0)), (.int .i64 (.v 15)), (.int .i64 (.v 8)), (.sl (.v 9) (.v 10) (.v 11)), (.int .i64 (.i 0)), (.int .i64 (.i 0)), (.sl .nil (.n 0) (.n 0)), (.int .i64 (.i 0)), (.int .i64 (.i 0)), (.int .i64 (.i 0)), (.int .i64 (.i 0))])] [((.b (.v 16)), (.prop 17)), ((.a 9), (.prop 12))] [.i, .i, .i, .c, .i, .i, .i, .i, .a, .n, .n, .p, .i, .i, .a, .n, .n, .p, .i, .i, .i, .i, .c, .p] (.tup [(.agg [(.int .i64 (.v 19)), (.int .i64 (.v 20)), (.int .i64 (.v 21)), (.bool (.v 22)), (.int .i64 (.v 23)), (.int .i64 (.v 24)), (.int .i64 (.v 25)), (.int .i64 (.v 26)), (.sl (.v 27) (.v 28) (.v 29)), (.int .i64 (.v 31)), (.int .i64 (.v 32)), (.sl (.v 33) (.v 34) (.v 35)), (.int .i64 (.v 37)), (.int .i64 (.v 38)), (.int .i64 (.v 39)), (.int .i64 (.v 40))]), (.a (.bool (.v 41)))]) [((.a 27), (.prop 30)), ((.a 33), (.prop 36)), ((.b (.v 16)), (.prop 42)), ((.a 9), (.prop 12))]
        (.new
        (.br (.v 41)
         (.call 55 [(.a (.ptr (.v 0) 0)), (.agg [(.int .i64 (.v 19)), (.int .i64 (.v 20)), (.int .i64 (.v 21)), (.bool (.v 22)), (.int .i64 (.v 23)), (.int .i64 (.v 24)), (.int .i64 (.v 25)), (.int .i64 (.v 26)), (.sl (.v 27) (.v 28) (.v 29)), (.int .i64 (.v 31)), (.int .i64 (.v 32)), (.sl (.v 33) (.v 34) (.v 35)), (.int .i64 (.v 37)), (.int .i64 (.v 38)), (.int .i64 (.v 39)), (.int .i64 (.v 40))])] [((.b (.v 0)), (.prop 1)), ((.a 27), (.prop 30)), ((.a 33), (.prop 36))] [.p] (.tup []) [((.b (.v 0)), (.prop 44)), ((.a 27), (.prop 30)), ((.a 33), (.prop 36))]
         (.ret (.w (.a (.bool (.v 41)))) [((.b (.v 0)), (.prop 44)), ((.a 2), (.prop 18)), ((.b (.v 16)), (.prop 42))]))
         (.ret (.w (.a (.bool (.v 41)))) [((.b (.v 0)), (.prop 1)), ((.a 2), (.prop 18)), ((.b (.v 16)), (.prop 42))]))))
        (.new
        (.call 45 [(.a (.ptr (.v 16) 0)), (.agg [(.int .i64 (.i 0)), (.int .i64 (.i 0)), (.int .i64 (.i 0)), (.bool (.c false)), (.int .i64 (.v 7)), (.int .i64 (.i 0)), (.int .i64 (.v 15)), (.int .i64 (.v 8)), (.sl (.v 9) (.v 10) (.v 11)), (.int .i64 (.i 0)), (.int .i64 (.i 0)), (.sl .nil (.n 0) (.n 0)), (.int .i64 (.i 0)), (.int .i64 (.i 0)), (.int .i64 (.i 0)), (.int .i64 (.i 0))])] [((.b (.v 16)), (.prop 17)), ((.a 9), (.prop 12))] [.i, .i, .i, .c, .i, .i, .i, .i, .a, .n, .n, .p, .i, .i, .a, .n, .n, .p, .i, .i, .i, .i, .c, .p] (.tup [(.agg [(.int .i64 (.v 20)), (.int .i64 (.v 21)), (.int .i64 (.v 22)), (.bool (.v 23)), (.int .i64 (.v 24)), (.int .i64 (.v 25)), (.int .i64 (.v 26)), (.int .i64 (.v 27)), (.sl (.v 28) (.v 29) (.v 30)), (.int .i64 (.v 32)), (.int .i64 (.v 33)), (.sl (.v 34) (.v 35) (.v 36)), (.int .i64 (.v 38)), (.int .i64 (.v 39)), (.int .i64 (.v 40)), (.int .i64 (.v 41))]), (.a (.bool (.v 42)))]) [((.a 28), (.prop 31)), ((.a 34), (.prop 37)), ((.b (.v 16)), (.prop 43)), ((.a 9), (.prop 12))]
        (.br (.v 42)
         (.call 55 [(.a (.ptr (.v 0) 0)), (.agg [(.int .i64 (.v 20)), (.int .i64 (.v 21)), (.int .i64 (.v 22)), (.bool (.v 23)), (.int .i64 (.v 24)), (.int .i64 (.v 25)), (.int .i64 (.v 26)), (.int .i64 (.v 27)), (.sl (.v 28) (.v 29) (.v 30)), (.int .i64 (.v 32)), (.int .i64 (.v 33)), (.sl (.v 34) (.v 35) (.v 36)), (.int .i64 (.v 38)), (.int .i64 (.v 39)), (.int .i64 (.v 40)), (.int .i64 (.v 41))])] [((.b (.v 0)), (.prop 1)), ((.a 28), (.prop 31)), ((.a 34), (.prop 37))] [.p] (.tup []) [((.b (.v 0)), (.prop 44)), ((.a 28), (.prop 31)), ((.a 34), (.prop 37))]
         (.ret (.w (.a (.bool (.v 42)))) [((.b (.v 0)), (.prop 44)), ((.a 2), (.prop 18)), ((.b (.v 16)), (.prop 43))]))
         (.ret (.w (.a (.bool (.v 42)))) [((.b (.v 0)), (.prop 1)), ((.a 2), (.prop 18)), ((.b (.v 16)), (.prop 43))])))))
       (.new
       (.call 45 [(.a (.ptr (.v 16) 0)), (.agg [(.int .i64 (.i 0)), (.int .i64 (.i 0)), (.int .i64 (.i 0)), (.bool (.c false)), (.int .i64 (.v 7)), (.int .i64 (.i 0)), (.int .i64 (.v 15)), (.int .i64 (.v 8)), (.sl (.v 9) (.v 10) (.v 11)), (.int .i64 (.i 0)), (.int .i64 (.i 0)), (.sl .nil (.n 0) (.n 0)), (.int .i64 (.i 0)), (.int .i64 (.i 0)), (.int .i64 (.i 0)), (.int .i64 (.i 0))])] [((.b (.v 16)), (.prop 17)), ((.a 9), (.prop 12))] [.i, .i, .i, .c, .i, .i, .i, .i, .a, .n, .n, .p, .i, .i, .a, .n, .n, .p, .i, .i, .i, .i, .c, .p] (.tup [(.agg [(.int .i64 (.v 20)), (.int .i64 (.v 21)), (.int .i64 (.v 22)), (.bool (.v 23)), (.int .i64 (.v 24)), (.int .i64 (.v 25)), (.int .i64 (.v 26)), (.int .i64 (.v 27)), (.sl (.v 28) (.v 29) (.v 30)), (.int .i64 (.v 32)), (.int .i64 (.v 33)), (.sl (.v 34) (.v 35) (.v 36)), (.int .i64 (.v 38)), (.int .i64 (.v 39)), (.int .i64 (.v 40)), (.int .i64 (.v 41))]), (.a (.bool (.v 42)))]) [((.a 28), (.prop 31)), ((.a 34), (.prop 37)), ((.b (.v 16)), (.prop 43)), ((.a 9), (.prop 12))]
       (.br (.v 42)
        (.call 55 [(.a (.ptr (.v 0) 0)), (.agg [(.int .i64 (.v 20)), (.int .i64 (.v 21)), (.int .i64 (.v 22)), (.bool (.v 23)), (.int .i64 (.v 24)), (.int .i64 (.v 25)), (.int .i64 (.v 26)), (.int .i64 (.v 27)), (.sl (.v 28) (.v 29) (.v 30)), (.int .i64 (.v 32)), (.int .i64 (.v 33)), (.sl (.v 34) (.v 35) (.v 36)), (.int .i64 (.v 38)), (.int .i64 (.v 39)), (.int .i64 (.v 40)), (.int .i64 (.v 41))])] [((.b (.v 0)), (.prop 1)), ((.a 28), (.prop 31)), ((.a 34), (.prop 37))] [.p] (.tup []) [((.b (.v 0)), (.prop 44)), ((.a 28), (.prop 31)), ((.a 34), (.prop 37))]
        (.ret (.w (.a (.bool (.v 42)))) [((.b (.v 0)), (.prop 44)), ((.a 2), (.prop 18)), ((.b (.v 16)), (.prop 43))]))
        (.ret (.w (.a (.bool (.v 42)))) [((.b (.v 0)), (.prop 1)), ((.a 2), (.prop 18)), ((.b (.v 16)), (.prop 43))]))))))
      (.all
       (.all
        (.op (.load 26 (.tmp 33)) 26 [(33, (.w (.a (.eptr 2 (.v 6) 1 0))))] [((.a 2), (.prop 5))] [.n, .p, .p] (.w (.a (.ptr (.v 16) 0))) [((.b (.v 16)), (.prop 17)), ((.a 2), (.prop 18))]
        (.all
         (.call 45 [(.a (.ptr (.v 16) 0)), (.agg [(.int .i64 (.i 0)), (.int .i64 (.i 0)), (.int .i64 (.i 0)), (.bool (.c false)), (.int .i64 (.v 7)), (.int .i64 (.i 0)), (.int .i64 (.v 15)), (.int .i64 (.v 8)), (.sl (.v 9) (.v 10) (.v 11)), (.int .i64 (.i 0)), (.int .i64 (.i 0)), (.sl .nil (.n 0) (.n 0)), (.int .i64 (.i 0)), (.int .i64 (.i 0)), (.int .i64 (.i 0)), (.int .i64 (.i 0))])] [((.b (.v 16)), (.prop 17)), ((.a 9), (.prop 12))] [.i, .i, .i, .c, .i, .i, .i, .i, .a, .n, .n, .p, .i, .i, .a, .n, .n, .p, .i, .i, .i, .i, .c, .p] (.tup [(.agg [(.int .i64 (.v 19)), (.int .i64 (.v 20)), (.int .i64 (.v 21)), (.bool (.v 22)), (.int .i64 (.v 23)), (.int .i64 (.v 24)), (.int .i64 (.v 25)), (.int .i64 (.v 26)), (.sl (.v 27) (.v 28) (.v 29)), (.int .i64 (.v 31)), (.int .i64 (.v 32)), (.sl (.v 33) (.v 34) (.v 35)), (.int .i64 (.v 37)), (.int .i64 (.v 38)), (.int .i64 (.v 39)), (.int .i64 (.v 40))]), (.a (.bool (.v 41)))]) [((.a 27), (.prop 30)), ((.a 33), (.prop 36)), ((.b (.v 16)), (.prop 42)), ((.a 9), (.prop 12))]
         (.new
         (.br (.v 41)
          (.call 55 [(.a (.ptr (.v 0) 0)), (.agg [(.int .i64 (.v 19)), (.int .i64 (.v 20)), (.int .i64 (.v 21)), (.bool (.v 22)), (.int .i64 (.v 23)), (.int .i64 (.v 24)), (.int .i64 (.v 25)), (.int .i64 (.v 26)), (.sl (.v 27) (.v 28) (.v 29)), (.int .i64 (.v 31)), (.int .i64 (.v 32)), (.sl (.v 33) (.v 34) (.v 35)), (.int .i64 (.v 37)), (.int .i64 (.v 38)), (.int .i64 (.v 39)), (.int .i64 (.v 40))])] [((.b (.v 0)), (.prop 1)), ((.a 27), (.prop 30)), ((.a 33), (.prop 36))] [.p] (.tup []) [((.b (.v 0)), (.prop 44)), ((.a 27), (.prop 30)), ((.a 33), (.prop 36))]
          (.ret (.w (.a (.bool (.v 41)))) [((.b (.v 0)), (.prop 44)), ((.a 2), (.prop 18)), ((.b (.v 16)), (.prop 42))]))
          (.ret (.w (.a (.bool (.v 41)))) [((.b (.v 0)), (.prop 1)), ((.a 2), (.prop 18)), ((.b (.v 16)), (.prop 42))]))))
         (.new
         (.call 45 [(.a (.ptr (.v 16) 0)), (.agg [(.int .i64 (.i 0)), (.int .i64 (.i 0)), (.int .i64 (.i 0)), (.bool (.c false)), (.int .i64 (.v 7)), (.int .i64 (.i 0)), (.int .i64 (.v 15)), (.int .i64 (.v 8)), (.sl (.v 9) (.v 10) (.v 11)), (.int .i64 (.i 0)), (.int .i64 (.i 0)), (.sl .nil (.n 0) (.n 0)), (.int .i64 (.i 0)), (.int .i64 (.i 0)), (.int .i64 (.i 0)), (.int .i64 (.i 0))])] [((.b (.v 16)), (.prop 17)), ((.a 9), (.prop 12))] [.i, .i, .i, .c, .i, .i, .i, .i, .a, .n, .n, .p, .i, .i, .a, .n, .n, .p, .i, .i, .i, .i, .c, .p] (.tup [(.agg [(.int .i64 (.v 20)), (.int .i64 (.v 21)), (.int .i64 (.v 22)), (.bool (.v 23)), (.int .i64 (.v 24)), (.int .i64 (.v 25)), (.int .i64 (.v 26)), (.int .i64 (.v 27)), (.sl (.v 28) (.v 29) (.v 30)), (.int .i64 (.v 32)), (.int .i64 (.v 33)), (.sl (.v 34) (.v 35) (.v 36)), (.int .i64 (.v 38)), (.int .i64 (.v 39)), (.int .i64 (.v 40)), (.int .i64 (.v 41))]), (.a (.bool (.v 42)))]) [((.a 28), (.prop 31)), ((.a 34), (.prop 37)), ((.b (.v 16)), (.prop 43)), ((.a 9), (.prop 12))]
         (.br (.v 42)
          (.call 55 [(.a (.ptr (.v 0) 0)), (.agg [(.int .i64 (.v 20)), (.int .i64 (.v 21)), (.int .i64 (.v 22)), (.bool (.v 23)), (.int .i64 (.v 24)), (.int .i64 (.v 25)), (.int .i64 (.v 26)), (.int .i64 (.v 27)), (.sl (.v 28) (.v 29) (.v 30)), (.int .i64 (.v 32)), (.int .i64 (.v 33)), (.sl (.v 34) (.v 35) (.v 36)), (.int .i64 (.v 38)), (.int .i64 (.v 39)), (.int .i64 (.v 40)), (.int .i64 (.v 41))])] [((.b (.v 0)), (.prop 1)), ((.a 28), (.prop 31)), ((.a 34), (.prop 37))] [.p] (.tup []) [((.b (.v 0)), (.prop 44)), ((.a 28), (.prop 31)), ((.a 34), (.prop 37))]
          (.ret (.w (.a (.bool (.v 42)))) [((.b (.v 0)), (.prop 44)), ((.a 2), (.prop 18)), ((.b (.v 16)), (.prop 43))]))
          (.ret (.w (.a (.bool (.v 42)))) [((.b (.v 0)), (.prop 1)), ((.a 2), (.prop 18)), ((.b (.v 16)), (.prop 43))]))))))
        (.new
        (.op (.load 26 (.tmp 33)) 26 [(33, (.w (.a (.eptr 2 (.v 6) 1 0))))] [((.a 2), (.prop 5))] [.n, .p, .p] (.w (.a (.ptr (.v 17) 0))) [((.b (.v 17)), (.prop 18)), ((.a 2), (.prop 19))]
        (.call 45 [(.a (.ptr (.v 17) 0)), (.agg [(.int .i64 (.i 0)), (.int .i64 (.i 0)), (.int .i64 (.i 0)), (.bool (.c false)), (.int .i64 (.v 7)), (.int .i64 (.i 0)), (.int .i64 (.v 15)), (.int .i64 (.v 8)), (.sl (.v 9) (.v 10) (.v 11)), (.int .i64 (.i 0)), (.int .i64 (.i 0)), (.sl .nil (.n 0) (.n 0)), (.int .i64 (.i 0)), (.int .i64 (.i 0)), (.int .i64 (.i 0)), (.int .i64 (.i 0))])] [((.b (.v 17)), (.prop 18)), ((.a 9), (.prop 12))] [.i, .i, .i, .c, .i, .i, .i, .i, .a, .n, .n, .p, .i, .i, .a, .n, .n, .p, .i, .i, .i, .i, .c, .p] (.tup [(.agg [(.int .i64 (.v 20)), (.int .i64 (.v 21)), (.int .i64 (.v 22)), (.bool (.v 23)), (.int .i64 (.v 24)), (.int .i64 (.v 25)), (.int .i64 (.v 26)), (.int .i64 (.v 27)), (.sl (.v 28) (.v 29) (.v 30)), (.int .i64 (.v 32)), (.int .i64 (.v 33)), (.sl (.v 34) (.v 35) (.v 36)), (.int .i64 (.v 38)), (.int .i64 (.v 39)), (.int .i64 (.v 40)), (.int .i64 (.v 41))]), (.a (.bool (.v 42)))]) [((.a 28), (.prop 31)), ((.a 34), (.prop 37)), ((.b (.v 17)), (.prop 43)), ((.a 9), (.prop 12))]
        (.br (.v 42)
         (.call 55 [(.a (.ptr (.v 0) 0)), (.agg [(.int .i64 (.v 20)), (.int .i64 (.v 21)), (.int .i64 (.v 22)), (.bool (.v 23)), (.int .i64 (.v 24)), (.int .i64 (.v 25)), (.int .i64 (.v 26)), (.int .i64 (.v 27)), (.sl (.v 28) (.v 29) (.v 30)), (.int .i64 (.v 32)), (.int .i64 (.v 33)), (.sl (.v 34) (.v 35) (.v 36)), (.int .i64 (.v 38)), (.int .i64 (.v 39)), (.int .i64 (.v 40)), (.int .i64 (.v 41))])] [((.b (.v 0)), (.prop 1)), ((.a 28), (.prop 31)), ((.a 34), (.prop 37))] [.p] (.tup []) [((.b (.v 0)), (.prop 44)), ((.a 28), (.prop 31)), ((.a 34), (.prop 37))]
         (.ret (.w (.a (.bool (.v 42)))) [((.b (.v 0)), (.prop 44)), ((.a 2), (.prop 19)), ((.b (.v 17)), (.prop 43))]))
         (.ret (.w (.a (.bool (.v 42)))) [((.b (.v 0)), (.prop 1)), ((.a 2), (.prop 19)), ((.b (.v 17)), (.prop 43))]))))))
       (.new
       (.all
        (.op (.load 26 (.tmp 33)) 26 [(33, (.w (.a (.eptr 2 (.v 6) 1 0))))] [((.a 2), (.prop 5))] [.n, .p, .p] (.w (.a (.ptr (.v 17) 0))) [((.b (.v 17)), (.prop 18)), ((.a 2), (.prop 19))]
        (.call 45 [(.a (.ptr (.v 17) 0)), (.agg [(.int .i64 (.i 0)), (.int .i64 (.i 0)), (.int .i64 (.i 0)), (.bool (.c false)), (.int .i64 (.v 7)), (.int .i64 (.i 0)), (.int .i64 (.v 15)), (.int .i64 (.v 8)), (.sl (.v 9) (.v 10) (.v 11)), (.int .i64 (.i 0)), (.int .i64 (.i 0)), (.sl .nil (.n 0) (.n 0)), (.int .i64 (.i 0)), (.int .i64 (.i 0)), (.int .i64 (.i 0)), (.int .i64 (.i 0))])] [((.b (.v 17)), (.prop 18)), ((.a 9), (.prop 12))] [.i, .i, .i, .c, .i, .i, .i, .i, .a, .n, .n, .p, .i, .i, .a, .n, .n, .p, .i, .i, .i, .i, .c, .p] (.tup [(.agg [(.int .i64 (.v 20)), (.int .i64 (.v 21)), (.int .i64 (.v 22)), (.bool (.v 23)), (.int .i64 (.v 24)), (.int .i64 (.v 25)), (.int .i64 (.v 26)), (.int .i64 (.v 27)), (.sl (.v 28) (.v 29) (.v 30)), (.int .i64 (.v 32)), (.int .i64 (.v 33)), (.sl (.v 34) (.v 35) (.v 36)), (.int .i64 (.v 38)), (.int .i64 (.v 39)), (.int .i64 (.v 40)), (.int .i64 (.v 41))]), (.a (.bool (.v 42)))]) [((.a 28), (.prop 31)), ((.a 34), (.prop 37)), ((.b (.v 17)), (.prop 43)), ((.a 9), (.prop 12))]
        (.br (.v 42)
         (.call 55 [(.a (.ptr (.v 0) 0)), (.agg [(.int .i64 (.v 20)), (.int .i64 (.v 21)), (.int .i64 (.v 22)), (.bool (.v 23)), (.int .i64 (.v 24)), (.int .i64 (.v 25)), (.int .i64 (.v 26)), (.int .i64 (.v 27)), (.sl (.v 28) (.v 29) (.v 30)), (.int .i64 (.v 32)), (.int .i64 (.v 33)), (.sl (.v 34) (.v 35) (.v 36)), (.int .i64 (.v 38)), (.int .i64 (.v 39)), (.int .i64 (.v 40)), (.int .i64 (.v 41))])] [((.b (.v 0)), (.prop 1)), ((.a 28), (.prop 31)), ((.a 34), (.prop 37))] [.p] (.tup []) [((.b (.v 0)), (.prop 44)), ((.a 28), (.prop 31)), ((.a 34), (.prop 37))]
         (.ret (.w (.a (.bool (.v 42)))) [((.b (.v 0)), (.prop 44)), ((.a 2), (.prop 19)), ((.b (.v 17)), (.prop 43))]))
         (.ret (.w (.a (.bool (.v 42)))) [((.b (.v 0)), (.prop 1)), ((.a 2), (.prop 19)), ((.b (.v 17)), (.prop 43))]))))
        (.op (.load 26 (.tmp 33)) 26 [(33, (.w (.a (.eptr 2 (.v 6) 1 0))))] [((.a 2), (.prop 5))] [.n, .p, .p] (.w (.a (.ptr (.v 17) 0))) [((.b (.v 17)), (.prop 18)), ((.a 2), (.prop 19))]
        (.call 45 [(.a (.ptr (.v 17) 0)), (.agg [(.int .i64 (.i 0)), (.int .i64 (.i 0)), (.int .i64 (.i 0)), (.bool (.c false)), (.int .i64 (.v 7)), (.int .i64 (.i 0)), (.int .i64 (.v 15)), (.int .i64 (.v 8)), (.sl (.v 9) (.v 10) (.v 11)), (.int .i64 (.i 0)), (.int .i64 (.i 0)), (.sl .nil (.n 0) (.n 0)), (.int .i64 (.i 0)), (.int .i64 (.i 0)), (.int .i64 (.i 0)), (.int .i64 (.i 0))])] [((.b (.v 17)), (.prop 18)), ((.a 9), (.prop 12))] [.i, .i, .i, .c, .i, .i, .i, .i, .a, .n, .n, .p, .i, .i, .a, .n, .n, .p, .i, .i, .i, .i, .c, .p] (.tup [(.agg [(.int .i64 (.v 20)), (.int .i64 (.v 21)), (.int .i64 (.v 22)), (.bool (.v 23)), (.int .i64 (.v 24)), (.int .i64 (.v 25)), (.int .i64 (.v 26)), (.int .i64 (.v 27)), (.sl (.v 28) (.v 29) (.v 30)), (.int .i64 (.v 32)), (.int .i64 (.v 33)), (.sl (.v 34) (.v 35) (.v 36)), (.int .i64 (.v 38)), (.int .i64 (.v 39)), (.int .i64 (.v 40)), (.int .i64 (.v 41))]), (.a (.bool (.v 42)))]) [((.a 28), (.prop 31)), ((.a 34), (.prop 37)), ((.b (.v 17)), (.prop 43)), ((.a 9), (.prop 12))]
        (.br (.v 42)
         (.call 55 [(.a (.ptr (.v 0) 0)), (.agg [(.int .i64 (.v 20)), (.int .i64 (.v 21)), (.int .i64 (.v 22)), (.bool (.v 23)), (.int .i64 (.v 24)), (.int .i64 (.v 25)), (.int .i64 (.v 26)), (.int .i64 (.v 27)), (.sl (.v 28) (.v 29) (.v 30)), (.int .i64 (.v 32)), (.int .i64 (.v 33)), (.sl (.v 34) (.v 35) (.v 36)), (.int .i64 (.v 38)), (.int .i64 (.v 39)), (.int .i64 (.v 40)), (.int .i64 (.v 41))])] [((.b (.v 0)), (.prop 1)), ((.a 28), (.prop 31)), ((.a 34), (.prop 37))] [.p] (.tup []) [((.b (.v 0)), (.prop 44)), ((.a 28), (.prop 31)), ((.a 34), (.prop 37))]
         (.ret (.w (.a (.bool (.v 42)))) [((.b (.v 0)), (.prop 44)), ((.a 2), (.prop 19)), ((.b (.v 17)), (.prop 43))]))
         (.ret (.w (.a (.bool (.v 42)))) [((.b (.v 0)), (.prop 1)), ((.a 2), (.prop 19)), ((.b (.v 17)), (.prop 43))])))))))))
     (.new
     (.all
      (.op (.load 26 (.tmp 33)) 26 [(33, (.w (.a (.eptr 2 (.v 6) 1 0))))] [((.a 2), (.prop 5))] [.n, .p, .p] (.w (.a (.ptr (.v 16) 0))) [((.b (.v 16)), (.prop 17)), ((.a 2), (.prop 18))]
      (.call 54 [(.a (.ptr (.v 0) 0))] [((.b (.v 0)), (.prop 1))] [.i] (.w (.a (.int .i64 (.v 19)))) [((.b (.v 0)), (.prop 1))]
      (.call 45 [(.a (.ptr (.v 16) 0)), (.agg [(.int .i64 (.i 0)), (.int .i64 (.i 0)), (.int .i64 (.i 0)), (.bool (.c false)), (.int .i64 (.v 7)), (.int .i64 (.i 0)), (.int .i64 (.v 19)), (.int .i64 (.v 8)), (.sl (.v 9) (.v 10) (.v 11)), (.int .i64 (.i 0)), (.int .i64 (.i 0)), (.sl .nil (.n 0) (.n 0)), (.int .i64 (.i 0)), (.int .i64 (.i 0)), (.int .i64 (.i 0)), (.int .i64 (.i 0))])] [((.b (.v 16)), (.prop 17)), ((.a 9), (.prop 12))] [.i, .i, .i, .c, .i, .i, .i, .i, .a, .n, .n, .p, .i, .i, .a, .n, .n, .p, .i, .i, .i, .i, .c, .p] (.tup [(.agg [(.int .i64 (.v 20)), (.int .i64 (.v 21)), (.int .i64 (.v 22)), (.bool (.v 23)), (.int .i64 (.v 24)), (.int .i64 (.v 25)), (.int .i64 (.v 26)), (.int .i64 (.v 27)), (.sl (.v 28) (.v 29) (.v 30)), (.int .i64 (.v 32)), (.int .i64 (.v 33)), (.sl (.v 34) (.v 35) (.v 36)), (.int .i64 (.v 38)), (.int .i64 (.v 39)), (.int .i64 (.v 40)), (.int .i64 (.v 41))]), (.a (.bool (.v 42)))]) [((.a 28), (.prop 31)), ((.a 34), (.prop 37)), ((.b (.v 16)), (.prop 43)), ((.a 9), (.prop 12))]
      (.br (.v 42)
       (.call 55 [(.a (.ptr (.v 0) 0)), (.agg [(.int .i64 (.v 20)), (.int .i64 (.v 21)), (.int .i64 (.v 22)), (.bool (.v 23)), (.int .i64 (.v 24)), (.int .i64 (.v 25)), (.int .i64 (.v 26)), (.int .i64 (.v 27)), (.sl (.v 28) (.v 29) (.v 30)), (.int .i64 (.v 32)), (.int .i64 (.v 33)), (.sl (.v 34) (.v 35) (.v 36)), (.int .i64 (.v 38)), (.int .i64 (.v 39)), (.int .i64 (.v 40)), (.int .i64 (.v 41))])] [((.b (.v 0)), (.prop 1)), ((.a 28), (.prop 31)), ((.a 34), (.prop 37))] [.p] (.tup []) [((.b (.v 0)), (.prop 44)), ((.a 28), (.prop 31)), ((.a 34), (.prop 37))]
       (.ret (.w (.a (.bool (.v 42)))) [((.b (.v 0)), (.prop 44)), ((.a 2), (.prop 18)), ((.b (.v 16)), (.prop 43))]))
       (.ret (.w (.a (.bool (.v 42)))) [((.b (.v 0)), (.prop 1)), ((.a 2), (.prop 18)), ((.b (.v 16)), (.prop 43))])))))
      (.call 54 [(.a (.ptr (.v 0) 0))] [((.b (.v 0)), (.prop 1))] [.i] (.w (.a (.int .i64 (.v 16)))) [((.b (.v 0)), (.prop 1))]
      (.all
       (.op (.load 26 (.tmp 33)) 26 [(33, (.w (.a (.eptr 2 (.v 6) 1 0))))] [((.a 2), (.prop 5))] [.n, .p, .p] (.w (.a (.ptr (.v 17) 0))) [((.b (.v 17)), (.prop 18)), ((.a 2), (.prop 19))]
       (.call 45 [(.a (.ptr (.v 17) 0)), (.agg [(.int .i64 (.i 0)), (.int .i64 (.i 0)), (.int .i64 (.i 0)), (.bool (.c false)), (.int .i64 (.v 7)), (.int .i64 (.i 0)), (.int .i64 (.v 16)), (.int .i64 (.v 8)), (.sl (.v 9) (.v 10) (.v 11)), (.int .i64 (.i 0)), (.int .i64 (.i 0)), (.sl .nil (.n 0) (.n 0)), (.int .i64 (.i 0)), (.int .i64 (.i 0)), (.int .i64 (.i 0)), (.int .i64 (.i 0))])] [((.b (.v 17)), (.prop 18)), ((.a 9), (.prop 12))] [.i, .i, .i, .c, .i, .i, .i, .i, .a, .n, .n, .p, .i, .i, .a, .n, .n, .p, .i, .i, .i, .i, .c, .p] (.tup [(.agg [(.int .i64 (.v 20)), (.int .i64 (.v 21)), (.int .i64 (.v 22)), (.bool (.v 23)), (.int .i64 (.v 24)), (.int .i64 (.v 25)), (.int .i64 (.v 26)), (.int .i64 (.v 27)), (.sl (.v 28) (.v 29) (.v 30)), (.int .i64 (.v 32)), (.int .i64 (.v 33)), (.sl (.v 34) (.v 35) (.v 36)), (.int .i64 (.v 38)), (.int .i64 (.v 39)), (.int .i64 (.v 40)), (.int .i64 (.v 41))]), (.a (.bool (.v 42)))]) [((.a 28), (.prop 31)), ((.a 34), (.prop 37)), ((.b (.v 17)), (.prop 43)), ((.a 9), (.prop 12))]
       (.br (.v 42)
        (.call 55 [(.a (.ptr (.v 0) 0)), (.agg [(.int .i64 (.v 20)), (.int .i64 (.v 21)), (.int .i64 (.v 22)), (.bool (.v 23)), (.int .i64 (.v 24)), (.int .i64 (.v 25)), (.int .i64 (.v 26)), (.int .i64 (.v 27)), (.sl (.v 28) (.v 29) (.v 30)), (.int .i64 (.v 32)), (.int .i64 (.v 33)), (.sl (.v 34) (.v 35) (.v 36)), (.int .i64 (.v 38)), (.int .i64 (.v 39)), (.int .i64 (.v 40)), (.int .i64 (.v 41))])] [((.b (.v 0)), (.prop 1)), ((.a 28), (.prop 31)), ((.a 34), (.prop 37))] [.p] (.tup []) [((.b (.v 0)), (.prop 44)), ((.a 28), (.prop 31)), ((.a 34), (.prop 37))]
        (.ret (.w (.a (.bool (.v 42)))) [((.b (.v 0)), (.prop 44)), ((.a 2), (.prop 19)), ((.b (.v 17)), (.prop 43))]))
        (.ret (.w (.a (.bool (.v 42)))) [((.b (.v 0)), (.prop 1)), ((.a 2), (.prop 19)), ((.b (.v 17)), (.prop 43))]))))
       (.op (.load 26 (.tmp 33)) 26 [(33, (.w (.a (.eptr 2 (.v 6) 1 0))))] [((.a 2), (.prop 5))] [.n, .p, .p] (.w (.a (.ptr (.v 17) 0))) [((.b (.v 17)), (.prop 18)), ((.a 2), (.prop 19))]
       (.call 45 [(.a (.ptr (.v 17) 0)), (.agg [(.int .i64 (.i 0)), (.int .i64 (.i 0)), (.int .i64 (.i 0)), (.bool (.c false)), (.int .i64 (.v 7)), (.int .i64 (.i 0)), (.int .i64 (.v 16)), (.int .i64 (.v 8)), (.sl (.v 9) (.v 10) (.v 11)), (.int .i64 (.i 0)), (.int .i64 (.i 0)), (.sl .nil (.n 0) (.n 0)), (.int .i64 (.i 0)), (.int .i64 (.i 0)), (.int .i64 (.i 0)), (.int .i64 (.i 0))])] [((.b (.v 17)), (.prop 18)), ((.a 9), (.prop 12))] [.i, .i, .i, .c, .i, .i, .i, .i, .a, .n, .n, .p, .i, .i, .a, .n, .n, .p, .i, .i, .i, .i, .c, .p] (.tup [(.agg [(.int .i64 (.v 20)), (.int .i64 (.v 21)), (.int .i64 (.v 22)), (.bool (.v 23)), (.int .i64 (.v 24)), (.int .i64 (.v 25)), (.int .i64 (.v 26)), (.int .i64 (.v 27)), (.sl (.v 28) (.v 29) (.v 30)), (.int .i64 (.v 32)), (.int .i64 (.v 33)), (.sl (.v 34) (.v 35) (.v 36)), (.int .i64 (.v 38)), (.int .i64 (.v 39)), (.int .i64 (.v 40)), (.int .i64 (.v 41))]), (.a (.bool (.v 42)))]) [((.a 28), (.prop 31)), ((.a 34), (.prop 37)), ((.b (.v 17)), (.prop 43)), ((.a 9), (.prop 12))]
       (.br (.v 42)
        (.call 55 [(.a (.ptr (.v 0) 0)), (.agg [(.int .i64 (.v 20)), (.int .i64 (.v 21)), (.int .i64 (.v 22)), (.bool (.v 23)), (.int .i64 (.v 24)), (.int .i64 (.v 25)), (.int .i64 (.v 26)), (.int .i64 (.v 27)), (.sl (.v 28) (.v 29) (.v 30)), (.int .i64 (.v 32)), (.int .i64 (.v 33)), (.sl (.v 34) (.v 35) (.v 36)), (.int .i64 (.v 38)), (.int .i64 (.v 39)), (.int .i64 (.v 40)), (.int .i64 (.v 41))])] [((.b (.v 0)), (.prop 1)), ((.a 28), (.prop 31)), ((.a 34), (.prop 37))] [.p] (.tup []) [((.b (.v 0)), (.prop 44)), ((.a 28), (.prop 31)), ((.a 34), (.prop 37))]
        (.ret (.w (.a (.bool (.v 42)))) [((.b (.v 0)), (.prop 44)), ((.a 2), (.prop 19)), ((.b (.v 17)), (.prop 43))]))
        (.ret (.w (.a (.bool (.v 42)))) [((.b (.v 0)), (.prop 1)), ((.a 2), (.prop 19)), ((.b (.v 17)), (.prop 43))]))))))))))))))))))
theorem tree_ask17 : tree Try.prog { absT := [], opq := [], hv := [], keep := [52, 54, 53, 56, 92, 21, 50, 49], link := [(17, 0)], ent := [], turn := [(45, [0]), (55, [0])], shr := [], vt := [], mkd := [], rlink := [], pty := [], outl := true, stay := [], snk := [] } Try.f51 [(.a (.ptr (.v 0) 0)), (.a (.sl (.v 2) (.v 3) (.v 4)))] [((.b (.v 0)), (.prop 1)), ((.a 2), (.prop 5))] 6 = t_ask17 := by kernel_rfl
-- tideline/tidelinelaw17.speaks: ρ := []
def t_speaks17 : T :=
(.call 48 [(.a (.int .i64 (.i 2)))] [] [.a, .n, .n, .p] (.w (.a (.sl (.v 0) (.v 1) (.v 2)))) [((.a 0), (.prop 3))]
(.new
(.call 49 [(.a (.int .i64 (.i 3))), (.a (.sl (.b (.v 4) 0) (.n 2) (.n 2)))] [((.b (.v 4)), (.cells [(.int .i64 (.i 0)), (.int .i64 (.i 1))] 3))] [.n, .p] (.w (.a (.ptr (.v 5) 0))) [((.b (.v 5)), (.prop 6)), ((.b (.v 4)), (.cells [(.int .i64 (.i 0)), (.int .i64 (.i 1))] 3))]
(.loop [.i, .p, .p] [(.e (.o1 .neg (.o1 .neg (.i 0)))), (.p [((.b (.v 5)), (.prop 6))]), (.p [((.a 0), (.prop 3))])]
 (.br (.o2 .lt (.v 7) (.i 9))
  (.call 51 [(.a (.ptr (.v 5) 0)), (.a (.sl (.v 0) (.v 1) (.v 2)))] [((.b (.v 5)), (.prop 8)), ((.a 0), (.prop 9))] [.c, .p, .p] (.w (.a (.bool (.v 10)))) [((.b (.v 5)), (.prop 11)), ((.a 0), (.prop 12))]
  (.br (.v 10)
   (.need (.o1 (.inr .i64) (.o2 .add (.v 7) (.i 1)))
   (.again 0 [(.e (.o1 .neg (.o1 .neg (.o2 .add (.v 7) (.i 1))))), (.p [((.b (.v 5)), (.prop 11))]), (.p [((.a 0), (.prop 12))])]))
   (.br (.o2 .eq (.v 7) (.i 4))
    (.call 52 [(.a (.ptr (.v 5) 0))] [((.b (.v 5)), (.prop 11))] [.i] (.w (.a (.int .i64 (.v 13)))) [((.b (.v 5)), (.prop 11))]
    (.br (.o2 .eq (.v 13) (.i 2))
     (.call 53 [(.a (.ptr (.v 5) 0))] [((.b (.v 5)), (.prop 11))] [.i, .a, .n, .n, .p] (.w (.agg [(.int .i64 (.v 14)), (.sl (.v 15) (.v 16) (.v 17))])) [((.a 15), (.prop 18)), ((.b (.v 5)), (.prop 11))]
     (.br (.o2 .eq (.v 14) (.i 2))
      (.call 54 [(.a (.ptr (.v 5) 0))] [((.b (.v 5)), (.prop 11))] [.i] (.w (.a (.int .i64 (.v 19)))) [((.b (.v 5)), (.prop 11))]
      (.ret (.w (.a (.bool (.o2 .eq (.v 19) (.i 3))))) []))
      (.ret (.w (.a (.bool (.c false)))) [])))
     (.ret (.w (.a (.bool (.c false)))) [])))
    (.ret (.w (.a (.bool (.c false)))) []))))
  (.br (.o2 .eq (.v 7) (.i 4))
   (.call 52 [(.a (.ptr (.v 5) 0))] [((.b (.v 5)), (.prop 8))] [.i] (.w (.a (.int .i64 (.v 10)))) [((.b (.v 5)), (.prop 8))]
   (.br (.o2 .eq (.v 10) (.i 2))
    (.call 53 [(.a (.ptr (.v 5) 0))] [((.b (.v 5)), (.prop 8))] [.i, .a, .n, .n, .p] (.w (.agg [(.int .i64 (.v 11)), (.sl (.v 12) (.v 13) (.v 14))])) [((.a 12), (.prop 15)), ((.b (.v 5)), (.prop 8))]
    (.br (.o2 .eq (.v 11) (.i 2))
     (.call 54 [(.a (.ptr (.v 5) 0))] [((.b (.v 5)), (.prop 8))] [.i] (.w (.a (.int .i64 (.v 16)))) [((.b (.v 5)), (.prop 8))]
     (.ret (.w (.a (.bool (.o2 .eq (.v 16) (.i 3))))) []))
     (.ret (.w (.a (.bool (.c false)))) [])))
    (.ret (.w (.a (.bool (.c false)))) [])))
   (.ret (.w (.a (.bool (.c false)))) [])))))))
theorem tree_speaks17 : tree Try.prog { absT := [], opq := [], hv := [(0, [(.b (.v 5)), (.a 0)])], keep := [52, 54, 53, 56, 92, 21, 50, 49], link := [(17, 0)], ent := [], turn := [(45, [0]), (55, [0])], shr := [], vt := [], mkd := [], rlink := [], pty := [], outl := true, stay := [], snk := [] } Try.f47 [] [] 0 = t_speaks17 := by kernel_rfl
end Go.Proofs.Ytmibmjehjagmbaa.RX

/- Units in a list; new ones. No condition. -/
namespace Go.Proofs.Ytmibmjehjagmbaa
set_option linter.unusedSimpArgs false
set_option linter.unusedVariables false
open Go.Proofs.Ytmibmjehjagmbaa RX

theorem perm_focus {α : Type} : ∀ (l : List α) (k : Nat) (x : α), l[k]? = some x → (x :: l.eraseIdx k).Perm l
  | y :: l, 0, x, h => by simp at h; subst h; exact List.Perm.refl _
  | y :: l, k + 1, x, h => by
    have := perm_focus l k x (by simpa using h)
    exact (List.Perm.swap y x _).trans (this.cons y)
  | [], _, _, h => by simp at h
theorem sepN_focus {l : List HP} {k : Nat} {x : HP} (hk : l[k]? = some x) {R h : PH} (H : (sepN l).p R h) : (HP.sep x (sepN (l.eraseIdx k))).p R h :=
  sepN_cons.1 (sepN_perm (perm_focus l k x hk).symm H)
theorem sepN_unfocus {l : List HP} {k : Nat} {x : HP} (hk : k < l.length) {R h : PH} (H : (HP.sep x (sepN (l.eraseIdx k))).p R h) : (sepN (l.set k x)).p R h := by
  have := perm_focus (l.set k x) k x (by simp [hk])
  rw [List.eraseIdx_set_eq] at this
  exact sepN_perm this (sepN_cons.2 H)
/-- A unit on its device. -/
structure UR where
  ub : Nat
  bd : Nat
  s : USt
  ps : List Pg
abbrev UR.hp (u : UR) : HP := UD u.ub u.bd 400 u.s u.ps
abbrev UR.ptr (u : UR) : Value := .pointer (some ⟨u.ub, 0, none⟩)
abbrev OwU (a : Option Addr) (n c : Nat) (l : List UR) : HP := OwC 26 1 a n c (l.map UR.ptr)
def UnL (a : Option Addr) (n c : Nat) (l : List UR) : HP := HP.and (l.length = n) (HP.sep (OwU a n c l) (sepN (l.map UR.hp)))
theorem infoU : (Try.prog.info? 26).map (fun i => (i.zero, i.size, i.bytes)) = some (some (.pointer none), 1, 8) := by kernel_rfl
theorem undUs : Try.prog.underlying 52 = some (.slice 26) := by kernel_rfl
theorem undU : Try.prog.underlying 26 = some (.pointer 113) := by kernel_rfl
theorem aggU : aggT Try.prog 26 = false := by kernel_rfl
theorem szU : szT Try.prog 26 = 1 := by kernel_rfl
theorem appendU (a : Option Addr) (n c : Nat) (l : List UR) (b : Nat) (u : UR) (K : HP) (hb : n ≤ 1000000000) :
    OTri Try.prog (appS 52 52 (.slice a n c) (.slice (some ⟨b, 0, none⟩) 1 1)) (HP.sep (UnL a n c l) (HP.sep (HP.one b (.cells #[u.ptr] 26 (0, 0))) (HP.sep u.hp K)))
      (fun v => HP.ex fun a' => HP.ex fun c' => HP.and (v = .slice a' (n + 1) c') (UnL a' (n + 1) c' (l ++ [u]))) := by
  obtain ⟨i, hi, h1, h2, h3⟩ := info_parts infoU
  have := append_ok 52 52 26 i (.pointer none) undUs hi h1 (by rw [h2]; rfl) (by omega) a n c (l.map UR.ptr) (HP.one b (.cells #[u.ptr] 26 (0, 0))) ⟨b, 0, none⟩ 1 1 [u.ptr] (one_rd b _ _) (by simp [h2]) (fun v hv => by simp at hv; subst hv; rfl) (by unfold maxLen; omega) (by rw [h3]; omega)
  rw [h2] at this
  refine OTri.fact (φ := l.length = n) (fun R h H => (HP.sep_left H).1) fun hl => ?_
  refine (this.frame (HP.sep (sepN (l.map UR.hp)) u.hp)).weak (fun R h H => ?_) ?_
  · have H1 := HP.sep_assoc (HP.sep_mono H (fun _ h => h.2) fun _ h => h)
    exact HP.sep_assoc' (HP.pick [_, _, _, _, _] [0, 2, 1, 3] (by decide) rfl H1)
  · rintro v R h ⟨h1, h2, d, l1, l2, ⟨a', c', rfl, H⟩, HU⟩
    refine ⟨a', c', rfl, by simp [hl], ?_⟩
    have H1 := HP.sep_assoc ⟨h1, h2, d, l1, l2, H, HU⟩
    have H2 := HP.sep_mono H1 (fun _ h => h) fun y hy => HP.sep_right hy
    have e : (l ++ [u]).map UR.hp = l.map UR.hp ++ [u.hp] := by simp
    rw [e]
    exact HP.sep_mono H2 (fun y hy => by unfold OwU; rw [List.map_append]; exact hy) fun y hy => (sepN_app (l := l.map UR.hp) (m := [u.hp])).2 hy
/-- A new one. -/
def newU (ub bd : Nat) : UR := ⟨ub, bd, s0, []⟩
set_option maxRecDepth 100000 in
theorem laid17_ok (n : Nat) (hn : n ≤ 1000) : Tri Try.prog 48 #[.int .i64 n] HP.tt
    (fun v => HP.ex fun a => HP.ex fun c => HP.ex fun l => HP.and (v = .slice a n c ∧ ∀ u ∈ l, u.s = s0 ∧ u.ps = []) (UnL a n c l)) := by
  refine tri_of_tree (ρ := [.i n]) mixed Try.func48 tree_laid17 ?_
  unfold t_laid17
  simp only [T.den, E.prop, E.den, RX.look, F1.app, F2.app, Uni.int_i, Uni.nat_n, Uni.bool_c, Uni.str_s, Uni.adr_a, Uni.val_v, Uni.hp_p, hden, cden, V.den, W.den, A.den, BR.den, SA.den, FV.den, capV, exs, exP, allP, Cur.app, List.map_cons, List.map_nil, List.cons_append, List.nil_append, List.drop_succ_cons, List.drop_zero, List.length_cons, List.length_nil, Nat.zero_add, Nat.reduceAdd, Int.neg_neg, Bool.not_not, List.append_nil, Nat.add_zero, List.getElem?_cons_zero, List.getElem?_cons_succ, Decidable.not_not]
  intro x
  refine ⟨fun _ _ _ _ a len cap i P => ∃ (k : Nat) (l : List UR), i = k ∧ k ≤ n ∧ len = k ∧ (∀ u ∈ l, u.s = s0 ∧ u.ps = []) ∧ HP.ent P (UnL a k cap l), fun _ _ _ _ _ _ _ i _ => n - i.toNat,
    ⟨0, [], rfl, Nat.zero_le _, rfl, (fun u hu => by cases hu), .of fun R h H => ⟨rfl, HP.sep_tt ⟨rfl, .inr ⟨x, #[], rfl, H, Nat.le_refl _, by unfold maxLen; omega, rfl, rfl⟩⟩⟩⟩, ?_⟩
  rintro _ _ _ _ a k cap _ P ⟨_, l, rfl, hk, rfl, hl, hP⟩
  refine ⟨fun hlt => ?_, fun hge => ?_⟩
  · refine (dNew_ok 400 (by decide) (by decide)).weak (fun _ _ h => h) ?_
    rintro v R h ⟨bd, rfl, H⟩
    refine ⟨bd, DRep bd 400 [] 0, 0, rfl, ⟨fun h => absurd rfl h, fun _ => ?_⟩, H⟩
    clear H
    refine (uOpen_ok bd 400 [] 0 s0 rfl).weak (fun _ _ h => h) ?_
    rintro v R h ⟨ub, rfl, H⟩
    rw [forg0] at H
    refine ⟨ub, UD ub bd 400 s0 [], 0, HP.tt, rfl, ⟨fun h => absurd rfl h, fun _ y => ?_⟩, HP.sep_tt H⟩
    clear H
    rw [semOf_append (by decide)]
    simp only [T.den, E.prop, E.den, RX.look, F1.app, F2.app, Uni.int_i, Uni.nat_n, Uni.bool_c, Uni.str_s, Uni.adr_a, Uni.val_v, Uni.hp_p, hden, cden, V.den, W.den, A.den, BR.den, SA.den, FV.den, capV, exs, exP, allP, Cur.app, List.map_cons, List.map_nil, List.cons_append, List.nil_append, List.drop_succ_cons, List.drop_zero, List.length_cons, List.length_nil, Nat.zero_add, Nat.reduceAdd, Int.neg_neg, Bool.not_not, List.append_nil, Nat.add_zero, List.getElem?_cons_zero, List.getElem?_cons_succ, Decidable.not_not]
    refine (appendU a k cap l y (newU ub bd) HP.tt (by omega)).conseq (K := HP.tt) ((hP.sep _).trans (.of fun R h H => HP.sep_tt H)) fun v => .of fun R h H => ?_
    obtain ⟨a', c', rfl, H2⟩ := HP.sep_left H
    refine ⟨a', k + 1, c', UnL a' (k + 1) c' (l ++ [newU ub bd]), rfl, ⟨inI64 _ (by omega) (by omega), fun _ => ⟨⟨k + 1, l ++ [newU ub bd], by omega, by omega, rfl, fun u hu => ?_, .refl _⟩, by omega⟩⟩, H2⟩
    rcases List.mem_append.1 hu with h | h
    · exact hl u h
    · simp at h; subst h; exact ⟨rfl, rfl⟩
  · obtain rfl : k = n := by omega
    exact hP.trans (.of fun R h H => ⟨a, cap, l, ⟨rfl, hl⟩, H⟩)
end Go.Proofs.Ytmibmjehjagmbaa

/- What the form's own reach says of a part of what came in. No condition. -/
namespace Go.Proofs.Ytmibmjehjagmbaa

theorem weights_mem_all {H : Type} {P : Program} {e : TypeId} : ∀ {l : List (DataW H)} {d : DataW H}, d ∈ l → ∀ n ∈ d.weights P e, n ∈ DataW.weightsAll P e l
  | x :: l, d, h, n, hn => by
    unfold DataW.weightsAll
    rcases List.mem_cons.1 h with h | h
    · subst h; exact List.mem_append.2 (.inl hn)
    · exact List.mem_append.2 (.inr (weights_mem_all h n hn))

/-- All that this datum holds is within the reach. -/
def Small {H : Type} (P : Program) (t : TypeId) (d : DataW H) : Prop := ∀ n ∈ d.weights P t, n ≤ reachBytes

section
variable {H : Type} {P : Program} {t e : TypeId}
theorem Small.arg {ts : List TypeId} {ds : List (DataW H)} (h : (DataW.weightsEach P ts ds).all (· ≤ reachBytes) = true) {j : Nat} {d : DataW H} (ht : ts[j]? = some t) (hd : ds[j]? = some d) : Small P t d := fun n hn => by
  have := List.all_eq_true.1 h n (DataW.weights_mem_each ht hd n hn)
  simpa using this
theorem Small.elem {elems spare : List (DataW H)} (h : Small P t (.slice elems spare)) (hu : P.underlying t = some (.slice e)) {d : DataW H} (hd : d ∈ elems) : Small P e d := fun n hn => by
  refine h n ?_
  simp only [DataW.weights, hu]
  exact List.mem_cons_of_mem _ (List.mem_append.2 (.inl (weights_mem_all hd n hn)))
theorem Small.part {fs : Array Field} {parts : List (DataW H)} (h : Small P t (.agg parts)) (hu : P.underlying t = some (.struct fs)) {i : Nat} {f : Field} {d : DataW H} (hf : fs[i]? = some f) (hd : parts[i]? = some d) : Small P f.type d := fun n hn => by
  refine h n ?_
  simp only [DataW.weights, hu]
  exact DataW.weights_mem_each (by rw [List.getElem?_map, Array.getElem?_toList, hf]; rfl) hd n hn
theorem Small.len {elems spare : List (DataW H)} (h : Small P t (.slice elems spare)) (hu : P.underlying t = some (.slice e)) : (elems.length + spare.length) * P.bytesOf e ≤ reachBytes := by
  refine h _ ?_
  simp [DataW.weights, hu]
end
end Go.Proofs.Ytmibmjehjagmbaa

/- What came in, as assertions: bytes, ints; a contract, run. No condition. -/
namespace Go.Proofs.Ytmibmjehjagmbaa
open Go.RowKit Go.ChangeShapes Go.WideShapes Go.Deep

/-- All of a world. -/
def allOf (w : World) : PH := fun k => w.heap[k]?
theorem allOf_sat (w : World) : Sat w (allOf w) PH.none' PH.none' := ⟨PH.dj_none _, PH.dj_none _, PH.dj_none _, fun _ _ e => e, fun _ _ e => (by cases e), fun _ _ e => (by cases e)⟩
/-- A contract over what only is read, run on a world. -/
theorem Tri.run {P : Program} {f : FuncId} {args : Array Value} {A : HP} {u : Value} (t : Tri P f args A (fun v => HP.pure (v = u))) {w : World} (hA : A.p (allOf w) PH.none') : Calls P f args w fun e w' => e = .returned u ∧ Below w.heap.size w w' := by
  refine (t w (allOf w) PH.none' PH.none' (allOf_sat w) hA).mono fun e w' ⟨v, he, sm, R', h', lR, s, hv⟩ => ?_
  have hv' : v = u := hv
  refine ⟨by rw [he, hv'], sm.os, sm.tape, sm.output, sm.size, fun k hk => ?_⟩
  obtain ⟨o, ho⟩ : ∃ o, w.heap[k]? = some o := ⟨w.heap[k], by simp [hk]⟩
  rw [ho]
  exact s.oR _ _ (lR _ _ ho)
section
variable {H : Type} {enc : TypeId × Value → H} {P : Program} {w : World} {base : Nat} {spare : Nat → Bool} {held : Bool}
theorem addr_plain {w : World} {a : Addr} {i : Nat} {v : Value} (h : w.cell? (a.add i) = some v) : a.add i = ⟨a.block, a.off + i, none⟩ ∧ w.cell? ⟨a.block, a.off + i, none⟩ = some v ∧ a.block < w.heap.size := by
  have key : a.add i = ⟨a.block, a.off + i, none⟩ := by
    unfold Addr.add
    split
    · rename_i e; subst e
      rw [Addr.add_zero'] at h
      obtain ⟨b, o, s⟩ := a
      cases s with
      | none => rfl
      | some s => simp [World.cell?] at h; split at h <;> simp_all
    · rfl
  rw [key] at h
  exact ⟨key, h, block_lt_of_cell (a := ⟨a.block, a.off + i, none⟩) h⟩
theorem spot_none {a : Addr} {v : Value} (h : w.cell? a = some v) : a.spot = none := by
  unfold World.cell? at h
  split at h
  · split at h
    · cases h
    · rename_i hh; simpa using hh
  · cases h
theorem take1 {cs : List Value} {i : Nat} {v : Value} (h : (cs.drop i).take 1 = [v]) : cs[i]? = some v := by
  have := congrArg List.head? h
  rw [List.head?_take, if_neg (by decide), List.head?_drop] at this
  simpa using this
theorem take1' {cs : List Value} {i : Nat} {v : Value} (h : cs[i]? = some v) : (cs.drop i).take 1 = [v] := by
  have hi : i < cs.length := (List.getElem?_eq_some_iff.1 h).1
  rw [List.drop_eq_getElem_cons hi, List.take_succ_cons, List.take_zero]
  rw [List.getElem?_eq_getElem hi] at h
  injection h with h
  rw [h]
theorem field_int {t : TypeId} {k : IntKind} {cs : List Value} {n i c : Nat} {xs : List (DataW H × List MemPlace)} {j : Nat} (hu : P.underlying t = some (.int k)) (hj : j < xs.length) (hc : c = 1)
    (h : DataW.trod enc P w base spare held n t ((cs.drop i).take c) = xs[j]?) : ∃ x, cs[i]? = some (.int k x) ∧ (Lit.int k x).wf = true := by
  subst hc
  rw [List.getElem?_eq_getElem hj] at h
  obtain ⟨x, h1, _, h2⟩ := DataW.trod_int hu h
  exact ⟨x, take1 h1, h2⟩
theorem field_bool {t : TypeId} {cs : List Value} {n i c : Nat} {xs : List (DataW H × List MemPlace)} {j : Nat} (hu : P.underlying t = some .bool) (hj : j < xs.length) (hc : c = 1)
    (h : DataW.trod enc P w base spare held n t ((cs.drop i).take c) = xs[j]?) : ∃ x, cs[i]? = some (.bool x) := by
  subst hc
  rw [List.getElem?_eq_getElem hj] at h
  obtain ⟨x, h1, _⟩ := DataW.trod_bool hu h
  exact ⟨x, take1 h1⟩
theorem field_slice {t e : TypeId} {cs : List Value} {n i c : Nat} {xs : List (DataW H × List MemPlace)} {j : Nat} (hu : P.underlying t = some (.slice e)) (hj : j < xs.length) (hc : c = 1)
    (h : DataW.trod enc P w base spare held n t ((cs.drop i).take c) = xs[j]?) : ∃ a l k, cs[i]? = some (.slice a l k) := by
  subst hc
  rw [List.getElem?_eq_getElem hj] at h
  obtain ⟨a, l, k, h1⟩ := Go.Joins.slice_form hu h
  exact ⟨a, l, k, take1 h1⟩
/-- Cells that lie side by side, as a slice that never turns. -/
theorem roC_of {size : Nat} {g off : Nat} {len : Nat} {xs : List Value} (hs : 0 < size) (hl : xs.length = len * size) (hx : ∀ i v, xs[i]? = some v → w.cell? ⟨g, off + i, none⟩ = some v) {h : PH} : (RoC size (some ⟨g, off, none⟩) len xs).p (allOf w) h := by
  refine ⟨hl, fun hn => ?_⟩
  have hpos : 0 < xs.length := by rw [hl]; exact Nat.mul_pos (by omega) hs
  have h0 := hx 0 xs[0] (List.getElem?_eq_getElem hpos)
  have hobj : ∃ cur ty fr, w.heap[g]? = some (.cells cur ty fr) := by
    unfold World.cell? at h0
    cases hg : w.heap[g]? with
    | none => simp [hg] at h0
    | some o => cases o <;> simp [hg] at h0 ⊢
  obtain ⟨cur, ty, fr, hg⟩ := hobj
  refine ⟨g, off, cur, ty, fr, rfl, hg, List.ext_getElem? fun i => ?_⟩
  rw [List.getElem?_take]
  split
  · rename_i hi
    have hxi := hx i xs[i] (List.getElem?_eq_getElem hi)
    rw [cell_at hg] at hxi
    rw [List.getElem?_drop, List.getElem?_eq_getElem hi]
    simpa using hxi
  · rename_i hi
    rw [List.getElem?_eq_none (by omega)]
/-- The bytes of a slice that came in. -/
theorem bytes_of_trod {fuel : Nat} {v : Value} {x : DataW H × List MemPlace} (h : DataW.trod enc Try.prog w 0 (fun _ => true) true fuel 30 [v] = some x) (hs : Small Try.prog 30 x.1) :
    ∃ (a : Option Addr) (l : List UInt8) (c : Nat), v = .slice a l.length c ∧ l.length ≤ 140737488355328 ∧ ∀ h, (RoB a l.length l).p (allOf w) h := by
  rcases open_slice1 Try.underlying30 (by kernel_rfl) h with ⟨hcs, hx⟩ | ⟨a, len, cap, m, n, V, D, Pl, hcs, _, hl, _, hm, hx0, hx⟩
  · simp at hcs
    subst hcs
    exact ⟨none, [], 0, rfl, by simp, fun h => RoC.nil _ _ _ _⟩
  · simp at hcs
    subst hcs
    have hlm : len ≤ m := by rw [hm]; simp only [if_true]; exact hl
    have hx' : ∀ i, i < len → ∃ q : UInt8, w.cell? (a.add i) = some (u8v q) := fun i hi => by
      obtain ⟨h1, h2⟩ := hx i (by omega)
      obtain ⟨q, hq, _, hw⟩ := DataW.trod_int Try.underlying5 h2
      simp at hq
      simp only [Lit.wf, Bool.and_eq_true, decide_eq_true_eq] at hw
      have h0 : (0 : Int) ≤ q := hw.1
      have h255 : q ≤ 255 := hw.2
      refine ⟨UInt8.ofNat q.toNat, ?_⟩
      rw [h1, hq]
      have e : ((UInt8.ofNat q.toNat).toNat : Int) = q := by
        rw [UInt8.toNat_ofNat']
        omega
      unfold u8v
      rw [e]
    obtain ⟨z, hz⟩ := choose_lt (p := fun i q => w.cell? (a.add i) = some (u8v q)) hx'
    have hb : len ≤ 140737488355328 := by
      rw [hx0] at hs
      have := hs.len Try.underlying30
      have hb : Try.prog.bytesOf 5 = 1 := by kernel_rfl
      rw [hb] at this
      unfold reachBytes at this
      simp at this
      omega
    have hlen : ((List.range len).map z).length = len := by simp
    refine ⟨some a, (List.range len).map z, cap, by rw [hlen], by rw [hlen]; exact hb, fun h => ?_⟩
    rw [hlen]
    by_cases h0 : len = 0
    · subst h0; exact RoC.nil _ _ _ _
    · have hsp : a.spot = none := by
        have := hz 0 (by omega)
        rw [Addr.add_zero'] at this
        exact spot_none this
      obtain ⟨g, off, sp⟩ := a
      simp only at hsp
      subst hsp
      refine roC_of (by decide) (by simp) fun i v hv => ?_
      have hi : i < len := by have := (List.getElem?_eq_some_iff.1 hv).1; simpa using this
      have := (addr_plain (hz i hi)).2.1
      rw [this]
      simp [hi] at hv
      rw [← hv]
set_option maxRecDepth 100000 in
theorem int_open {H : Type} (_enc : TypeId × Value → H) (base : Nat) (v : Value) (w : World) (hv : Value.okWide Try.prog w .any base 3 v) : ∃ n, v = .int .i64 n := by
  simp only [Value.okWide, Try.underlying3, Cell.okWide] at hv
  unfold Cell.ok at hv
  rw [Try.underlying3] at hv
  cases v <;> first | exact hv.elim | exact ⟨_, by rw [hv.1]⟩
end
end Go.Proofs.Ytmibmjehjagmbaa

/- Slices of anything that came in, as assertions that never turn. No condition. -/
namespace Go.Proofs.Ytmibmjehjagmbaa
open Go.RowKit Go.ChangeShapes Go.WideShapes Go.Deep RX
set_option maxRecDepth 100000

def okI (x : Int) : Prop := -9223372036854775808 ≤ x ∧ x ≤ 9223372036854775807
def HP.both (A B : HP) : HP := ⟨fun R h => A.p R h ∧ B.p R h, fun l l' ⟨a, b⟩ => ⟨A.mono l l' a, B.mono l l' b⟩⟩
/-- How a value of some type lies in cells, and what it reaches. -/
structure Kind (α : Type) where
  n : Nat
  pos : 0 < n
  vals : α → List Value
  len : ∀ x, (vals x).length = n
  hp : α → HP
  pers : ∀ x R h h', (hp x).p R h → (hp x).p R h'
theorem Rd.impR {S T : HP} {a : Option Addr} {xs : List Value} (r : Rd T a xs) (h : ∀ R x, S.p R x → T.p R x) : Rd S a xs := fun w R x F s p => r w R x F s (h R x p)
section
variable {α : Type}
def Ls (K : Kind α) (a : Option Addr) (n : Nat) (l : List α) : HP :=
  ⟨fun R h => l.length = n ∧ (RoC K.n a n (l.flatMap K.vals)).p R h ∧ ∀ x ∈ l, (K.hp x).p R h,
   fun lR lh ⟨h0, h1, h2⟩ => ⟨h0, (RoC _ _ _ _).mono lR lh h1, fun x hx => (K.hp x).mono lR lh (h2 x hx)⟩⟩
theorem Ls.pers {K : Kind α} {a : Option Addr} {n : Nat} {l : List α} {R h : PH} (h' : PH) (H : (Ls K a n l).p R h) : (Ls K a n l).p R h' := ⟨H.1, H.2.1, fun x hx => K.pers x _ _ _ (H.2.2 x hx)⟩
theorem Ls.rd {K : Kind α} {a : Option Addr} {n : Nat} {l : List α} : Rd (Ls K a n l) a (l.flatMap K.vals) := Rd.impR (RoC.rd K.n a n (l.flatMap K.vals)) fun _ _ H => H.2.1
theorem flat_getL (f : α → List Value) (w : Nat) (hw : ∀ x, (f x).length = w) : ∀ (l : List α) (k j : Nat) (x : α), l[k]? = some x → j < w → (l.flatMap f)[k * w + j]? = (f x)[j]?
  | [], k, j, x, h, _ => by simp at h
  | y :: r, 0, j, x, h, hj => by
    simp at h; subst h
    rw [List.flatMap_cons, Nat.zero_mul, Nat.zero_add, List.getElem?_append_left (by rw [hw]; exact hj)]
  | y :: r, k + 1, j, x, h, hj => by
    rw [List.flatMap_cons, List.getElem?_append_right (by rw [hw, Nat.succ_mul]; omega), hw, show (k + 1) * w + j - w = k * w + j by rw [Nat.succ_mul]; omega]
    exact flat_getL f w hw r k j x (by simpa using h) hj
theorem flat_lenL (f : α → List Value) (w : Nat) (hw : ∀ x, (f x).length = w) : ∀ l : List α, (l.flatMap f).length = l.length * w
  | [] => by simp
  | x :: l => by rw [List.flatMap_cons, List.length_append, hw, flat_lenL f w hw l, List.length_cons, Nat.succ_mul, Nat.add_comm]
/-- The load of an element that is a struct. -/
theorem Ls.load {K : Kind α} {t : TypeId} {d : TypeDesc} (hd : Try.prog.underlying t = some d) (ha : aggT Try.prog t = true) (hz : szT Try.prog t = K.n) {a : Option Addr} {n : Nat} {l : List α} {k : Nat} {x : α} (hk : l[k]? = some x) :
    ORead Try.prog (loadS t (.pointer (a.map fun y => (y.add (k * K.n)).add 0))) (Ls K a n l) (.agg (K.vals x).toArray) := by
  refine loadN_ok (vs := K.vals x) hd ha (Ls.rd (K := K)) (k := k * K.n) (off := 0) (by rw [K.len]; exact hz) (by rw [K.len]; exact K.pos) fun j v hj => ?_
  have hlt : j < K.n := by
    have := (List.getElem?_eq_some_iff.1 hj).1
    rw [K.len] at this; exact this
  rw [Nat.add_zero, flat_getL K.vals K.n K.len l k j x hk hlt]
  exact hj
/-- .. of a part of it, of one cell. -/
theorem Ls.load1 {K : Kind α} {t : TypeId} {d : TypeDesc} (hd : Try.prog.underlying t = some d) (ha : aggT Try.prog t = false) (hz : szT Try.prog t = 1) {a : Option Addr} {n : Nat} {l : List α} {k off : Nat} {x : α} {v : Value} (hk : l[k]? = some x) (hv : (K.vals x)[off]? = some v) :
    ORead Try.prog (loadS t (.pointer (a.map fun y => (y.add (k * K.n)).add off))) (Ls K a n l) v := by
  refine load1_ok hd ha hz (Ls.rd (K := K)) (k := k * K.n) (off := off) ?_
  have hlt : off < K.n := by
    have := (List.getElem?_eq_some_iff.1 hv).1
    rw [K.len] at this; exact this
  rw [flat_getL K.vals K.n K.len l k off x hk hlt]
  exact hv
end
section
variable {H : Type} {enc : TypeId × Value → H} {w : World} {α : Type}
theorem slice_of_trod [Inhabited α] (K : Kind α) {t e : TypeId} (hu : Try.prog.underlying t = some (.slice e)) (hn : Try.prog.cellsOf e = K.n) (hb : 1 ≤ Try.prog.bytesOf e)
    (el : ∀ {cs : List Value} {n : Nat} {x : DataW H × List MemPlace}, DataW.trod enc Try.prog w 0 (fun _ => true) true n e cs = some x → Small Try.prog e x.1 → ∃ m : α, cs = K.vals m ∧ ∀ h, (K.hp m).p (allOf w) h)
    {fuel : Nat} {v : Value} {x : DataW H × List MemPlace} (h : DataW.trod enc Try.prog w 0 (fun _ => true) true fuel t [v] = some x) (hs : Small Try.prog t x.1) :
    ∃ (a : Option Addr) (l : List α) (c : Nat), v = .slice a l.length c ∧ l.length ≤ 140737488355328 ∧ ∀ h, (Ls K a l.length l).p (allOf w) h := by
  rcases open_slice hu h with ⟨hcs, _⟩ | ⟨a, len, cap, m, n, D, Pl, hcs, _, hl, hmax, hm, hxx, hx⟩
  · simp at hcs
    subst hcs
    exact ⟨none, [], 0, rfl, by simp, fun h => ⟨rfl, RoC.nil _ _ _ _, fun x hx => by cases hx⟩⟩
  · simp at hcs
    subst hcs
    rw [hn] at hx
    have hlm : len ≤ m := by rw [hm]; simp only [if_true]; exact hl
    rw [hxx] at hs
    have hbl : len ≤ 140737488355328 := by
      have := hs.len hu
      unfold reachBytes at this
      simp at this
      have h2 : (len + (m - len)) * 1 ≤ (len + (m - len)) * Try.prog.bytesOf e := Nat.mul_le_mul_left _ hb
      omega
    have hx' : ∀ i, i < len → ∃ q : α, (∀ j, j < K.n → w.cell? (a.add (i * K.n + j)) = (K.vals q)[j]?) ∧ ∀ h, (K.hp q).p (allOf w) h := fun i hi => by
      obtain ⟨cs', h1, h2⟩ := hx i (by omega)
      obtain ⟨q, rfl, hr⟩ := el h2 (hs.elem hu (List.mem_map.2 ⟨i, List.mem_range.2 hi, rfl⟩))
      obtain ⟨_, _, hc⟩ := World.cells?_some h1
      refine ⟨q, fun j hj => ?_, hr⟩
      rw [← add_add, hc j hj]
    obtain ⟨ra, hra⟩ := choose_lt (p := fun i (q : α) => (∀ j, j < K.n → w.cell? (a.add (i * K.n + j)) = (K.vals q)[j]?) ∧ ∀ h, (K.hp q).p (allOf w) h) hx'
    have hlen : ((List.range len).map ra).length = len := by simp
    refine ⟨some a, (List.range len).map ra, cap, by rw [hlen], by rw [hlen]; exact hbl, fun h => ⟨rfl, ?_, fun x hx => ?_⟩⟩
    · rw [hlen]
      by_cases h0 : len = 0
      · subst h0; exact RoC.nil _ _ _ _
      · have hsp : a.spot = none := by
          have h1 := (hra 0 (by omega)).1 0 K.pos
          rw [Nat.zero_mul, Nat.add_zero, Addr.add_zero', List.getElem?_eq_getElem (by rw [K.len]; exact K.pos)] at h1
          exact spot_none h1
        obtain ⟨g, off, sp⟩ := a
        simp only at hsp
        subst hsp
        have hlen2 : (((List.range len).map ra).flatMap K.vals).length = len * K.n := by rw [flat_lenL K.vals K.n K.len, hlen]
        refine roC_of K.pos hlen2 fun i v hv => ?_
        have hi : i < len * K.n := by have := (List.getElem?_eq_some_iff.1 hv).1; rw [hlen2] at this; exact this
        have hk : i / K.n < len := Nat.div_lt_of_lt_mul (by rw [Nat.mul_comm]; exact hi)
        have hj : i % K.n < K.n := Nat.mod_lt _ K.pos
        have e : i = (i / K.n) * K.n + i % K.n := by rw [Nat.mul_comm]; exact (Nat.div_add_mod i K.n).symm
        have hg : ((List.range len).map ra)[i / K.n]? = some (ra (i / K.n)) := by simp [hk]
        have h1 := flat_getL K.vals K.n K.len _ (i / K.n) (i % K.n) _ hg hj
        rw [← e] at h1
        have h2 := (hra (i / K.n) hk).1 (i % K.n) hj
        rw [← e] at h2
        rw [h1] at hv
        rw [hv] at h2
        exact (addr_plain h2).2.1
    · obtain ⟨i, hi, rfl⟩ := List.mem_map.1 hx
      exact (hra i (List.mem_range.1 hi)).2 h
/-- A parameter that is a slice. -/
theorem slice_open [Inhabited α] (K : Kind α) {t e : TypeId} (hu : Try.prog.underlying t = some (.slice e)) (hn : Try.prog.cellsOf e = K.n) (hb : 1 ≤ Try.prog.bytesOf e)
    (el : ∀ {cs : List Value} {n : Nat} {x : DataW H × List MemPlace}, DataW.trod enc Try.prog w 0 (fun _ => true) true n e cs = some x → Small Try.prog e x.1 → ∃ m : α, cs = K.vals m ∧ ∀ h, (K.hp m).p (allOf w) h)
    {base : Nat} {v : Value} (hv : Value.okWide Try.prog w .any base t v) (h : ∃ d p, DataW.Trod enc Try.prog w 0 (fun _ => true) true t v d p ∧ Small Try.prog t d) :
    ∃ (a : Option Addr) (l : List α) (c : Nat), v = .slice a l.length c ∧ l.length ≤ 140737488355328 ∧ ∀ h, (Ls K a l.length l).p (allOf w) h := by
  obtain ⟨b, len, cap, rfl⟩ := okWide_slice hu hv
  obtain ⟨d, p, ⟨fuel, hf⟩, hsm⟩ := h
  exact slice_of_trod K hu hn hb el hf hsm
/-- A parameter that is a struct. -/
theorem struct_open (K : Kind α) {t : TypeId} {fs : Array Field} (hu : Try.prog.underlying t = some (.struct fs))
    (el : ∀ {cs : List Value} {n : Nat} {x : DataW H × List MemPlace}, DataW.trod enc Try.prog w 0 (fun _ => true) true n t cs = some x → Small Try.prog t x.1 → ∃ m : α, cs = K.vals m ∧ ∀ h, (K.hp m).p (allOf w) h)
    {base : Nat} {v : Value} (hv : Value.okWide Try.prog w .any base t v) (h : ∃ d p, DataW.Trod enc Try.prog w 0 (fun _ => true) true t v d p ∧ Small Try.prog t d) :
    ∃ m : α, v = .agg (K.vals m).toArray ∧ ∀ h, (K.hp m).p (allOf w) h := by
  obtain ⟨d, p, ⟨fuel, hf⟩, hsm⟩ := h
  unfold Value.okWide at hv
  rw [hu] at hv
  obtain ⟨cs, rfl, _, _⟩ := hv
  obtain ⟨m, h1, h2⟩ := el hf hsm
  refine ⟨m, ?_, h2⟩
  have e : cs.toList = K.vals m := h1
  rw [← e]
theorem field_str {t : TypeId} {cs : List Value} {n i c : Nat} {xs : List (DataW H × List MemPlace)} {j : Nat} (hu : Try.prog.underlying t = some .string) (hj : j < xs.length) (hc : c = 1)
    (h : DataW.trod enc Try.prog w 0 (fun _ => true) true n t ((cs.drop i).take c) = xs[j]?) : ∃ x : List UInt8, cs[i]? = some (.string ⟨x.toArray⟩) ∧ x.length ≤ 9223372036854775807 := by
  subst hc
  rw [List.getElem?_eq_getElem hj] at h
  obtain ⟨s, h1, _, h2⟩ := DataW.trod_string hu h
  refine ⟨s.data.toList, by rw [take1 h1], ?_⟩
  exact Nat.le_trans (Nat.le_of_eq (Array.length_toList)) h2
theorem int_wf {x : Int} (h : (Lit.int IntKind.i64 x).wf = true) : okI x := by
  have h2 : (decide (IntKind.i64.min ≤ x) && decide (x ≤ IntKind.i64.max)) = true := h
  rw [Bool.and_eq_true] at h2
  exact ⟨of_decide_eq_true h2.1, of_decide_eq_true h2.2⟩
/-- A parameter that is an int. -/
theorem int_openR {base : Nat} {v : Value} (hv : Value.okWide Try.prog w .any base 3 v) (h : ∃ d p, DataW.Trod enc Try.prog w 0 (fun _ => true) true 3 v d p ∧ Small Try.prog 3 d) : ∃ n, v = .int .i64 n ∧ okI n := by
  obtain ⟨n, rfl⟩ := int_open enc base v w hv
  obtain ⟨d, p, ⟨fuel, hf⟩, _⟩ := h
  obtain ⟨x, hx, _, hw⟩ := DataW.trod_int Try.underlying3 hf
  simp [Value.cells] at hx
  subst hx
  exact ⟨n, rfl, int_wf hw⟩
/-- A parameter that is bytes. -/
theorem bytes_openR {base : Nat} {v : Value} (hv : Value.okWide Try.prog w .any base 30 v) (h : ∃ d p, DataW.Trod enc Try.prog w 0 (fun _ => true) true 30 v d p ∧ Small Try.prog 30 d) :
    ∃ (a : Option Addr) (l : List UInt8) (c : Nat), v = .slice a l.length c ∧ l.length ≤ 140737488355328 ∧ ∀ h, (RoB a l.length l).p (allOf w) h := by
  obtain ⟨b, len, cap, rfl⟩ := okWide_slice Try.underlying30 hv
  obtain ⟨d, p, ⟨fuel, hf⟩, hsm⟩ := h
  exact bytes_of_trod hf hsm
end
def kInt : Kind Int where
  n := 1
  pos := by decide
  vals x := [.int .i64 x]
  len _ := rfl
  hp x := HP.pure (okI x)
  pers _ _ _ _ h := h
theorem kInt_trod {H : Type} {enc : TypeId × Value → H} {w : World} {cs : List Value} {n : Nat} {x : DataW H × List MemPlace} (h : DataW.trod enc Try.prog w 0 (fun _ => true) true n 3 cs = some x) (_ : Small Try.prog 3 x.1) : ∃ m : Int, cs = kInt.vals m ∧ ∀ h, (kInt.hp m).p (allOf w) h := by
  obtain ⟨x, hx, _, hw⟩ := DataW.trod_int Try.underlying3 h
  exact ⟨x, hx, fun _ => int_wf hw⟩
end Go.Proofs.Ytmibmjehjagmbaa

/- Slices whose elements hold pointers to what they own: appended to, one taken out, and put back. No condition. -/
namespace Go.Proofs.Ytmibmjehjagmbaa
open Go.Proofs.Ytmibmjehjagmbaa RX

/-- How an element lies in cells, and what it owns. -/
structure PK (α : Type) where
  e : TypeId
  n : Nat
  pos : 0 < n
  vals : α → List Value
  len : ∀ x, (vals x).length = n
  one : ∀ x, ∀ u ∈ vals x, u.oneCell' = true
  rep : α → HP
section
variable {α : Type} (K : PK α)
def PL (a : Option Addr) (n c : Nat) (l : List α) : HP := HP.and (l.length = n) (HP.sep (OwC K.e K.n a n c (l.flatMap K.vals)) (sepN (l.map K.rep)))
def PRest (a : Option Addr) (n c : Nat) (l : List α) (k : Nat) : HP := HP.and (l.length = n) (HP.sep (OwC K.e K.n a n c (l.flatMap K.vals)) (sepN ((l.map K.rep).eraseIdx k)))
variable {K}
theorem PL.isAt {a : Option Addr} {n c : Nat} {l : List α} {R h : PH} (H : (PL K a n c l).p R h) (hn : n ≠ 0) : a.isSome = true := OwC.some (HP.sep_left H.2) (by omega)
theorem PL.len {a : Option Addr} {n c : Nat} {l : List α} {R h : PH} (H : (PL K a n c l).p R h) : l.length = n := H.1
theorem PL.zero (x : Nat) {R h : PH} (H : (HP.one x (.cells #[] K.e (0, 0))).p R h) : (PL K (some ⟨x, 0, none⟩) 0 0 []).p R h :=
  ⟨rfl, HP.sep_tt ⟨by simp, .inr ⟨x, #[], rfl, H, Nat.le_refl _, by unfold maxLen; omega, by simp, by simp⟩⟩⟩
/-- A new slice, laid with elements. -/
theorem PL.lit (x : Nat) (l : List α) (hb : l.length ≤ 1000) {R h : PH} (H : (HP.sep (HP.one x (.cells (l.flatMap K.vals).toArray K.e (0, 0))) (sepN (l.map K.rep))).p R h) : (PL K (some ⟨x, 0, none⟩) l.length l.length l).p R h := by
  refine ⟨rfl, HP.sep_mono H (fun y hy => ⟨flat_lenL K.vals K.n K.len l, .inr ⟨x, _, rfl, hy, Nat.le_refl _, by unfold maxLen; omega, ?_, ?_⟩⟩) fun _ h => h⟩
  · rw [List.size_toArray]; exact flat_lenL K.vals K.n K.len l
  · show (l.flatMap K.vals).take _ = _
    rw [← flat_lenL K.vals K.n K.len l, List.take_length]
theorem PL.app (t ty : TypeId) {i : TypeInfo} {z : Value} (ht : Try.prog.underlying t = some (.slice K.e)) (hi : Try.prog.info? K.e = some i) (hz : i.zero = some z) (hzs : z.cells.size = i.size) (hs : i.size = K.n) (hby : i.bytes ≤ 1000)
    (a : Option Addr) (n c : Nat) (l : List α) (b : Nat) (x : α) (Q : HP) (hb : n ≤ 1000000000) :
    OTri Try.prog (appS t ty (.slice a n c) (.slice (some ⟨b, 0, none⟩) 1 1)) (HP.sep (PL K a n c l) (HP.sep (HP.one b (.cells (K.vals x).toArray K.e (0, 0))) (HP.sep (K.rep x) Q)))
      (fun v => HP.ex fun a' => HP.ex fun c' => HP.and (v = .slice a' (n + 1) c') (HP.sep (PL K a' (n + 1) c' (l ++ [x])) Q)) := by
  have hr := one_rd b (K.vals x).toArray K.e
  have hbn : (n + 1) * i.bytes ≤ 140737488355328 := by
    have := Nat.mul_le_mul (show n + 1 ≤ 1000000001 by omega) hby
    omega
  have := append_ok t ty K.e i z ht hi hz hzs (by rw [hs]; exact K.pos) a n c (l.flatMap K.vals) (HP.one b (.cells (K.vals x).toArray K.e (0, 0))) ⟨b, 0, none⟩ 1 1 (K.vals x) (by simpa using hr) (by rw [K.len, hs, Nat.one_mul]) (K.one x) (by unfold maxLen; omega) hbn
  rw [hs] at this
  refine OTri.fact (φ := l.length = n) (fun R h H => (HP.sep_left H).1) fun hl => ?_
  refine (this.frame (HP.sep (sepN (l.map K.rep)) (HP.sep (K.rep x) Q))).weak (fun R h H => ?_) ?_
  · have H1 := HP.sep_assoc (HP.sep_mono H (fun _ h => h.2) fun _ h => h)
    exact HP.sep_assoc' (HP.pick [_, _, _, _, _] [0, 2, 1, 3, 4] (by decide) rfl H1)
  · rintro v R h ⟨h1, h2, d, l1, l2, ⟨a', c', rfl, H⟩, HU⟩
    refine ⟨a', c', rfl, ?_⟩
    have H1 := HP.sep_assoc ⟨h1, h2, d, l1, l2, H, HU⟩
    have H2 : (HP.sep (OwC K.e K.n a' (n + 1) c' (l.flatMap K.vals ++ K.vals x)) (HP.sep (sepN (l.map K.rep)) (HP.sep (K.rep x) Q))).p R h := HP.sep_mono H1 (fun _ h => h) fun y hy => HP.sep_right hy
    have e : (l ++ [x]).map K.rep = l.map K.rep ++ [K.rep x] := by simp
    have H3 : (HP.sep (OwC K.e K.n a' (n + 1) c' (l.flatMap K.vals ++ K.vals x)) (HP.sep (sepN ((l ++ [x]).map K.rep)) Q)).p R h := HP.sep_mono H2 (fun _ h => h) fun y hy => by
      have := HP.sep_assoc' hy
      rw [e]
      exact HP.sep_mono this (fun z hz => (sepN_app (l := l.map K.rep) (m := [K.rep x])).2 hz) fun _ h => h
    have H4 := HP.sep_assoc' H3
    refine HP.sep_mono H4 (fun y hy => ⟨by simp [hl], ?_⟩) fun _ h => h
    have e2 : (l ++ [x]).flatMap K.vals = l.flatMap K.vals ++ K.vals x := by simp
    rw [e2]
    exact hy
theorem PL.rd (a : Option Addr) (n c : Nat) (l : List α) : Rd (PL K a n c l) a (l.flatMap K.vals) := Rd.impR (Rd.left (B := sepN (l.map K.rep)) (OwC.rd K.e K.n a n c (l.flatMap K.vals))) fun R h H => H.2
theorem PL.focus {a : Option Addr} {n c : Nat} {l : List α} {k : Nat} {x : α} (hk : l[k]? = some x) {R h : PH} (H : (PL K a n c l).p R h) : (HP.sep (K.rep x) (PRest K a n c l k)).p R h := by
  have H1 := HP.sep_mono H.2 (fun _ h => h) fun y hy => sepN_focus (k := k) (x := K.rep x) (by simp [hk]) hy
  exact HP.sep_mono (HP.swap H1) (fun _ h => h) fun y hy => ⟨H.1, hy⟩
theorem PL.load {d : TypeDesc} (hd : Try.prog.underlying K.e = some d) (ha : aggT Try.prog K.e = true) (hz : szT Try.prog K.e = K.n) {a : Option Addr} {n c : Nat} {l : List α} {k : Nat} {x : α} (hk : l[k]? = some x) :
    OTri Try.prog (loadS K.e (.pointer (a.map fun y => (y.add (k * K.n)).add 0))) (PL K a n c l) (fun v => HP.and (v = .agg (K.vals x).toArray) (HP.sep (K.rep x) (PRest K a n c l k))) := by
  refine OTri.ofRead (loadN_ok (vs := K.vals x) hd ha (PL.rd a n c l) (k := k * K.n) (off := 0) (by rw [K.len]; exact hz) (by rw [K.len]; exact K.pos) fun j v hj => ?_) fun R h H => ⟨rfl, PL.focus hk H⟩
  have hlt : j < K.n := by
    have := (List.getElem?_eq_some_iff.1 hj).1
    rw [K.len] at this; exact this
  rw [Nat.add_zero, flat_getL K.vals K.n K.len l k j x hk hlt]
  exact hj
theorem PL.load1 {d : TypeDesc} (hd : Try.prog.underlying K.e = some d) (ha : aggT Try.prog K.e = false) (hz : szT Try.prog K.e = 1) (hn : K.n = 1) {a : Option Addr} {n c : Nat} {l : List α} {k : Nat} {x : α} {v0 : Value} (hv : K.vals x = [v0]) (hk : l[k]? = some x) :
    OTri Try.prog (loadS K.e (.pointer (a.map fun y => (y.add (k * 1)).add 0))) (PL K a n c l) (fun v => HP.and (v = v0) (HP.sep (K.rep x) (PRest K a n c l k))) := by
  refine OTri.ofRead (load1_ok hd ha hz (PL.rd a n c l) (k := k * 1) (off := 0) (v := v0) ?_) fun R h H => ⟨rfl, PL.focus hk H⟩
  have := flat_getL K.vals K.n K.len l k 0 x hk (by omega)
  rw [hn, hv] at this
  exact this
theorem flat_set {f : α → List Value} {l : List α} {k : Nat} {x y : α} (hk : l[k]? = some x) (e : f y = f x) : (l.set k y).flatMap f = l.flatMap f := by
  have hlt : k < l.length := (List.getElem?_eq_some_iff.1 hk).1
  have : (l.set k y).map f = l.map f := by
    rw [List.map_set, e]
    refine List.ext_getElem? fun j => ?_
    rw [List.getElem?_set]
    split
    · rename_i hj; subst hj; rw [if_pos (by simpa using hlt), List.getElem?_map, hk]; rfl
    · rfl
  rw [List.flatMap_def, List.flatMap_def, this]
theorem PL.join {a : Option Addr} {n c : Nat} {l : List α} {k : Nat} {x y : α} (hk : l[k]? = some x) (e : K.vals y = K.vals x) {R h : PH} (H : (HP.sep (PRest K a n c l k) (K.rep y)).p R h) : (PL K a n c (l.set k y)).p R h := by
  have hlt : k < l.length := (List.getElem?_eq_some_iff.1 hk).1
  obtain ⟨h1, h2, d, l1, l2, ⟨hn, H⟩, HU⟩ := H
  refine ⟨by simp [hn], ?_⟩
  have H1 := HP.sep_assoc ⟨h1, h2, d, l1, l2, H, HU⟩
  refine HP.sep_mono H1 (fun z hz => by rw [flat_set hk e]; exact hz) fun z hz => ?_
  rw [List.map_set]
  exact sepN_unfocus (by simpa using hlt) (HP.sep_comm hz)
end
end Go.Proofs.Ytmibmjehjagmbaa

/- An Op asks a unit of a list. No condition. -/
namespace Go.Proofs.Ytmibmjehjagmbaa
set_option linter.unusedSimpArgs false
set_option linter.unusedVariables false
open Go.Proofs.Ytmibmjehjagmbaa RX

def UnRest (a : Option Addr) (n c : Nat) (l : List UR) (k : Nat) : HP := HP.and (l.length = n) (HP.sep (OwU a n c l) (sepN ((l.map UR.hp).eraseIdx k)))
theorem loadU_ok {a : Option Addr} {n c : Nat} {l : List UR} {k : Nat} {u : UR} (hk : l[k]? = some u) :
    OTri Try.prog (loadS 26 (.pointer (a.map fun x => (x.add (k * 1)).add 0))) (UnL a n c l) (fun v => HP.and (v = u.ptr) (HP.sep u.hp (UnRest a n c l k))) := by
  have r : Rd (UnL a n c l) a (l.map UR.ptr) := Rd.imp (Rd.left (B := sepN (l.map UR.hp)) (OwC.rd 26 1 a n c (l.map UR.ptr))) fun R h H => H.2
  refine OTri.ofRead (load1_ok undU aggU szU r (k := k * 1) (off := 0) (v := u.ptr) (by simp [hk])) fun R h ⟨hn, H⟩ => ⟨rfl, ?_⟩
  have H1 := HP.sep_mono H (fun _ h => h) fun y hy => sepN_focus (k := k) (x := u.hp) (by simp [hk]) hy
  exact HP.sep_mono (HP.swap H1) (fun _ h => h) fun y hy => ⟨hn, hy⟩
theorem UnL.join {a : Option Addr} {n c : Nat} {l : List UR} {k : Nat} {u u' : UR} (hk : l[k]? = some u) (hu : u'.ub = u.ub) {R h : PH} (H : (HP.sep (UnRest a n c l k) u'.hp).p R h) : (UnL a n c (l.set k u')).p R h := by
  have hlt : k < l.length := (List.getElem?_eq_some_iff.1 hk).1
  obtain ⟨h1, h2, d, l1, l2, ⟨hn, H⟩, HU⟩ := H
  refine ⟨by simp [hn], ?_⟩
  have e : (l.set k u').map UR.ptr = l.map UR.ptr := by
    rw [List.map_set]
    have : u'.ptr = u.ptr := by simp [UR.ptr, hu]
    rw [this]
    refine List.ext_getElem? fun j => ?_
    rw [List.getElem?_set]
    split
    · rename_i hj; subst hj; rw [if_pos (by simpa using hlt), List.getElem?_map, hk]; rfl
    · rfl
  have H1 : (HP.sep (OwU a n c l) (HP.sep (sepN ((l.map UR.hp).eraseIdx k)) u'.hp)).p R h := HP.sep_assoc ⟨h1, h2, d, l1, l2, H, HU⟩
  refine HP.sep_mono H1 (fun y hy => by unfold OwU; rw [e]; exact hy) fun y hy => ?_
  rw [List.map_set]
  exact sepN_unfocus (by simpa using hlt) (HP.sep_comm hy)
theorem UnL.bnd {a : Option Addr} {n c : Nat} {l : List UR} {R h : PH} (H : (UnL a n c l).p R h) : ∀ (k : Nat) (u : UR), l[k]? = some u → Bnd u.s := fun k u hk => UD.bnd (HP.sep_left (sepN_focus (k := k) (x := u.hp) (by simp [hk]) (HP.sep_right H.2)))
theorem answerA_ok (ub bd : Nat) (room : Int) (s : USt) (ps : List Pg) (m : MS) (ca : Option Addr) (cc : Nat) (h2 : m.val = []) :
    Tri Try.prog 45 #[.pointer (some ⟨ub, 0, none⟩), .agg (m.raw ca cc none 0).vals] (HP.sep (UD ub bd room s ps) (m.Dro ca))
    (fun v => HP.ex fun rca => HP.ex fun rcc => HP.ex fun rva => HP.ex fun rvc => HP.and (v = .tuple #[.agg ((answerS room s ps m).2.1.raw rca rcc rva rvc).vals, .bool (answerS room s ps m).1])
      (HP.sep ((answerS room s ps m).2.1.Dro rca) (HP.sep ((answerS room s ps m).2.1.Vro rva) (HP.sep (UD ub bd room (answerS room s ps m).2.2.1 (answerS room s ps m).2.2.2) (m.Dro ca))))) := by
  refine (answer_ok ub bd room s ps m ca cc none 0).weak (fun R h H => ?_) fun v R h ⟨rca, rcc, rva, rvc, e, H⟩ => ⟨rca, rcc, rva, rvc, e, HP.pick [_, _, _, _, _] [3, 4, 0, 1] (by decide) rfl H⟩
  refine HP.sep_mono H (fun _ h => h) fun y hy => ?_
  have e : (m.Vro none).p R y := by unfold MS.Vro; rw [h2]; exact RoB0 none
  exact RoC.joinR e hy
/-- What an Op asks with. -/
def askM (o : OpS) : MS := ⟨0, 0, 0, false, kindC o, 0, o.at', askX o, 0, 0, [], 0, 0, 0, 0⟩
def askU (o : OpS) : Int := (o.us[o.place.toNat]?).getD 0
/-- An Op asks, and is told. -/
def askS (o : OpS) (l : List UR) : Bool × OpS × List UR :=
  if o.state = 1 then
    if 0 ≤ askU o then
      match l[(askU o).toNat]? with
      | some x => ((answerS 400 x.s x.ps (askM o)).1, if (answerS 400 x.s x.ps (askM o)).1 = true then toldC o (answerS 400 x.s x.ps (askM o)).2.1 else o,
          l.set (askU o).toNat ⟨x.ub, x.bd, (answerS 400 x.s x.ps (askM o)).2.2.1, (answerS 400 x.s x.ps (askM o)).2.2.2⟩)
      | none => (false, o, l)
    else (false, o, l)
  else (false, o, l)
set_option maxRecDepth 100000 in
set_option maxHeartbeats 2000000 in
theorem ask17_ok (ob : Nat) (o : OpS) (a : Option Addr) (n c : Nat) (l : List UR) (hp : o.state = 1 → 0 ≤ o.place ∧ o.place < o.us.length) (hus : o.us.length ≤ 1000) :
    Tri Try.prog 51 #[.pointer (some ⟨ob, 0, none⟩), .slice a n c] (HP.sep (ORep ob o) (UnL a n c l))
    (fun v => HP.and (v = .bool (askS o l).1) (HP.sep (ORep ob (askS o l).2.1) (UnL a n c (askS o l).2.2))) := by
  refine Tri.fact (φ := (n ≠ 0 → a.isSome = true) ∧ l.length = n ∧ ∀ (k : Nat) (u : UR), l[k]? = some u → Bnd u.s) (fun R h H => ⟨fun hn => OwC.some (HP.sep_left (HP.sep_right H).2) (by omega), (HP.sep_right H).1, UnL.bnd (HP.sep_right H)⟩) fun ⟨ha, hl, hbn⟩ => ?_
  refine tri_of_tree (ρ := [.n ob, .p (ORep ob o), .a a, .n n, .n c, .p (UnL a n c l)]) mixed Try.func51 tree_ask17 ?_
  unfold t_ask17
  simp (maxSteps := 3000000) only [T.den, E.prop, E.den, RX.look, F1.app, F2.app, Uni.int_i, Uni.nat_n, Uni.bool_c, Uni.str_s, Uni.adr_a, Uni.val_v, Uni.hp_p, hden, cden, V.den, W.den, A.den, BR.den, SA.den, FV.den, capV, exs, exP, allP, Cur.app, List.map_cons, List.map_nil, List.cons_append, List.nil_append, List.drop_succ_cons, List.drop_zero, List.length_cons, List.length_nil, Nat.zero_add, Nat.reduceAdd, Int.neg_neg, Bool.not_not, List.append_nil, Nat.add_zero, List.getElem?_cons_zero, List.getElem?_cons_succ, Decidable.not_not]
  refine (cAsk_ok ob o hp).weak (fun _ _ h => h) ?_
  rintro v R h ⟨a', c', rfl, H⟩
  refine ⟨_, _, _, a', _, c', RoB a' (askX o).data.length (askX o).data, _, rfl, ?_, H⟩
  clear H
  intro x0
  refine ⟨fun h1 => .of fun R y H => ?_, fun h1 => ?_⟩
  · have e : askS o l = (false, o, l) := by unfold askS; rw [if_neg (by simpa using h1)]
    rw [e]
    exact ⟨rfl, H⟩
  have h1' : o.state = 1 := by simpa using h1
  rw [if_pos h1', if_pos h1']
  have hq' : askU o = (o.us[o.place.toNat]?).getD 0 := rfl
  generalize hq : (o.us[o.place.toNat]?).getD 0 = q at *
  refine ⟨fun h2 => .of fun R y H => ?_, fun h2 => ⟨fun h3 => .of fun R y H => ?_, fun h3 => ?_⟩⟩
  · have e : askS o l = (false, o, l) := by
      unfold askS
      rw [if_pos h1', hq', if_neg (by omega)]
    rw [e]
    exact ⟨rfl, H⟩
  · have e : askS o l = (false, o, l) := by
      unfold askS
      rw [if_pos h1', hq', if_pos (by omega), List.getElem?_eq_none (by omega)]
    rw [e]
    exact ⟨rfl, H⟩
  have hk : q.toNat < l.length := by omega
  have hg : l[q.toNat]? = some l[q.toNat] := List.getElem?_eq_getElem hk
  generalize l[q.toNat] = u at hg
  have eS : askS o l = ((answerS 400 u.s u.ps (askM o)).1, if (answerS 400 u.s u.ps (askM o)).1 = true then toldC o (answerS 400 u.s u.ps (askM o)).2.1 else o, l.set q.toNat ⟨u.ub, u.bd, (answerS 400 u.s u.ps (askM o)).2.2.1, (answerS 400 u.s u.ps (askM o)).2.2.2⟩) := by
    unfold askS
    rw [if_pos h1', hq', if_pos (by omega), hg]
  have ans := answerA_ok u.ub u.bd 400 u.s u.ps (askM o) a' c' rfl
  have bb := answerS_bnd (room := 400) (ps := u.ps) (m := askM o) (hbn _ _ hg)
  generalize hA : answerS 400 u.s u.ps (askM o) = A at ans bb eS
  have pl := hp h1'
  have told := fun rca rcc rva rvc => cTold_ok ob o A.2.1 rca rcc rva rvc (by omega) bb.1
  have fin : ∀ (o' : OpS), (if A.1 = true then toldC o A.2.1 else o) = o' → ∀ R y, (HP.sep (ORep ob o') (HP.sep (UnRest a n c l q.toNat) (UD u.ub u.bd 400 A.2.2.1 A.2.2.2))).p R y → (HP.and (Value.bool A.1 = .bool (askS o l).1) (HP.sep (ORep ob (askS o l).2.1) (UnL a n c (askS o l).2.2))).p R y := fun o' ho R y H => by
    rw [eS]
    refine ⟨rfl, ?_⟩
    simp only [ho]
    exact HP.sep_mono H (fun _ h => h) fun z hz => UnL.join (u' := ⟨u.ub, u.bd, A.2.2.1, A.2.2.2⟩) hg rfl hz
  have h0q : 0 ≤ q := by omega
  have hqn : q < n := by omega
  have has : a.isSome = true := ha (by omega)
  repeat' (first
    | refine ⟨h0q, fun _ => ?_⟩
    | refine ⟨hqn, fun _ => ?_⟩
    | refine ⟨has, fun _ => ?_⟩
    | (refine (cAt_ok ob o).weak (fun _ _ h => h) ?_
       rintro v R h ⟨rfl, H⟩
       refine ⟨_, rfl, ?_, H⟩
       clear H)
    | (refine (loadU_ok hg).weak (fun _ _ h => h) ?_
       rintro v R h ⟨rfl, H⟩
       refine ⟨u.ub, u.hp, UnRest a n c l q.toNat, rfl, ?_, H⟩
       clear H)
    | (refine ans.weak (fun _ _ h => h) ?_
       rintro v R h ⟨rca, rcc, rva, rvc, rfl, H⟩
       refine ⟨_, _, _, _, _, _, _, _, rca, _, rcc, A.2.1.Dro rca, _, _, rva, _, rvc, A.2.1.Vro rva, _, _, _, _, A.1, UD u.ub u.bd 400 A.2.2.1 A.2.2.2, rfl, ?_, H⟩
       clear H)
    | (refine ⟨fun hy => (told rca rcc rva rvc).weak (fun _ _ h => h) ?_, fun hy => .of fun R y H => fin o (if_neg hy) R y H⟩
       rintro v R h ⟨rfl, H⟩
       exact ⟨ORep ob (toldC o A.2.1), rfl, .of fun R y H => fin _ (if_pos hy) R y H, H⟩)
    | intro (x : Nat)
    | refine ⟨?_, ?_⟩
    | fail)
end Go.Proofs.Ytmibmjehjagmbaa

/- What an Op comes to by one ask, told by what stands at the unit: no program in sight. No condition. -/
namespace Go.Proofs.Ytmibmjehjagmbaa
open Go.Proofs.Ytmibmjehjagmbaa RX

/-- A unit that nobody has sealed or trimmed. -/
def Fresh0 (s : USt) : Prop := s.epoch = 0 ∧ s.low = 0
theorem reach_fresh {s : USt} (h : Fresh0 s) {at' : Int} (ha : addrOk at' = true) : reachE s 0 at' = 0 := by
  unfold reachE
  rw [if_pos h.1.symm, if_pos ha]
theorem low_fresh {s : USt} (h : Fresh0 s) {at' : Int} (ha : addrOk at' = true) : ¬ at' < s.low := by
  simp only [addrOk, Bool.and_eq_true, decide_eq_true_eq] at ha
  rw [h.2]; omega
theorem ans_some {s : USt} {ps : List Pg} {o : OpS} {y : CellS} (h : Fresh0 s) (ha : addrOk o.at' = true) (hb : kindC o = 1 → standB (askX o).what (askX o).data.length = true) (hy : s.cells o.at' = some y) :
    (answerS 400 s ps (askM o)).1 = true ∧ (answerS 400 s ps (askM o)).2.1.kind = kindC o ∧ (answerS 400 s ps (askM o)).2.1.err = (if kindC o = 1 then 10 else 0) ∧ (answerS 400 s ps (askM o)).2.1.cell = y ∧ (answerS 400 s ps (askM o)).2.2 = (s, ps) := by
  have r0 := reach_fresh h ha
  have l0 := low_fresh h ha
  have hk : kindC o = 1 ∨ kindC o = 2 := by unfold kindC; split <;> simp
  rcases hk with hk | hk
  · have hw : writeS 400 s ps 0 o.at' (askX o) = (y, 10, s, ps) := by
      unfold writeS
      rw [if_neg (by simp [r0]), if_neg (by simp [hb hk]), if_neg l0, hy]
    simp [answerS, askM, deedS, hk, hw, finS, repS]
  · have hr : readS s 0 o.at' = (y, 0) := by
      unfold readS
      rw [if_neg (by simp [r0]), if_neg l0, hy]
    simp [answerS, askM, deedS, hk, hr, finS, repS]
theorem ans_none {s : USt} {ps : List Pg} {o : OpS} (h : Fresh0 s) (ha : addrOk o.at' = true) (hb : kindC o = 1 → standB (askX o).what (askX o).data.length = true) (hp : ps.length < 400) (hy : s.cells o.at' = none) :
    (answerS 400 s ps (askM o)).1 = true ∧ (answerS 400 s ps (askM o)).2.1.kind = kindC o ∧ (answerS 400 s ps (askM o)).2.1.err = (if kindC o = 1 then 0 else 9) ∧
      (answerS 400 s ps (askM o)).2.2 = (if kindC o = 1 then (putS s o.at' (askX o), ps ++ [pgW (cellL o.at' (askX o))]) else (s, ps)) := by
  have r0 := reach_fresh h ha
  have l0 := low_fresh h ha
  have hk : kindC o = 1 ∨ kindC o = 2 := by unfold kindC; split <;> simp
  rcases hk with hk | hk
  · have hw : writeS 400 s ps 0 o.at' (askX o) = (zC, 0, putS s o.at' (askX o), ps ++ [pgW (cellL o.at' (askX o))]) := by
      unfold writeS
      rw [if_neg (by simp [r0]), if_neg (by simp [hb hk]), if_neg l0, hy]
      simp only [lastS]
      rw [if_neg (by omega)]
      rfl
    simp [answerS, askM, deedS, hk, hw, finS, repS]
  · have hr : readS s 0 o.at' = (⟨0, []⟩, 9) := by
      unfold readS
      rw [if_neg (by simp [r0]), if_neg l0, hy]
    simp [answerS, askM, deedS, hk, hr, finS, repS]
/-- What an Op comes to, if a cell stands at the unit. -/
def seenC (o : OpS) (y : CellS) : OpS :=
  if o.step = 0 then (if y.what = o.cell.what ∧ y.data = o.cell.data then writeC o (o.place + 1) o.cell else { o with state := 3 })
  else if o.step = 1 then { o with cell := y, state := 2 } else writeC o 1 y
/-- .. none. -/
def blankC (o : OpS) : OpS :=
  if o.step = 0 then writeC o (o.place + 1) o.cell
  else if o.step = 1 then { o with step := if o.us.length = 1 then 3 else 2, place := 0 }
  else if o.step = 2 then { o with step := 3 } else writeC o 1 ⟨2, []⟩
theorem told_some {o : OpS} {m : MS} {y : CellS} (h1 : o.state = 1) (hs : o.step = 0 ∨ o.step = 1 ∨ o.step = 2 ∨ o.step = 3) (hk : m.kind = kindC o) (he : m.err = if kindC o = 1 then 10 else 0) (hc : m.cell = y) : toldC o m = seenC o y := by
  subst hc
  rcases hs with hs | hs | hs | hs
  · have hk1 : kindC o = 1 := by simp [kindC, hs]
    rw [hk1] at hk he
    rw [if_pos rfl] at he
    simp [toldC, h1, hk, hk1, he, goOnC, hs, seenC]
  · have hk1 : kindC o = 2 := by simp [kindC, hs]
    rw [hk1] at hk he
    simp at he
    simp [toldC, h1, hk, hk1, he, goOnC, hs, seenC]
  · have hk1 : kindC o = 2 := by simp [kindC, hs]
    rw [hk1] at hk he
    simp at he
    simp [toldC, h1, hk, hk1, he, goOnC, hs, seenC]
  · have hk1 : kindC o = 1 := by simp [kindC, hs]
    rw [hk1] at hk he
    rw [if_pos rfl] at he
    simp [toldC, h1, hk, hk1, he, goOnC, hs, seenC]
theorem told_none {o : OpS} {m : MS} (h1 : o.state = 1) (hs : o.step = 0 ∨ o.step = 1 ∨ o.step = 2 ∨ o.step = 3) (hk : m.kind = kindC o) (he : m.err = if kindC o = 1 then 0 else 9) : toldC o m = blankC o := by
  rcases hs with hs | hs | hs | hs
  · have hk1 : kindC o = 1 := by simp [kindC, hs]
    rw [hk1] at hk he
    rw [if_pos rfl] at he
    simp [toldC, h1, hk, hk1, he, goOnC, hs, blankC]
  · have hk1 : kindC o = 2 := by simp [kindC, hs]
    rw [hk1] at hk he
    simp at he
    simp [toldC, h1, hk, hk1, he, goOnC, hs, blankC]
  · have hk1 : kindC o = 2 := by simp [kindC, hs]
    rw [hk1] at hk he
    simp at he
    simp [toldC, h1, hk, hk1, he, goOnC, hs, blankC]
  · have hk1 : kindC o = 1 := by simp [kindC, hs]
    rw [hk1] at hk he
    rw [if_pos rfl] at he
    simp [toldC, h1, hk, hk1, he, goOnC, hs, blankC]
end Go.Proofs.Ytmibmjehjagmbaa

/- A chain's units and Ops keep what they are to be, by any ask: no program in sight. No condition. -/
namespace Go.Proofs.Ytmibmjehjagmbaa
open Go.Proofs.Ytmibmjehjagmbaa RX

theorem set_same {α : Type} {l : List α} {k : Nat} {u : α} (hg : l[k]? = some u) : l.set k u = l := by
  refine List.ext_getElem? fun j => ?_
  rw [List.getElem?_set]
  split
  · rename_i hj; subst hj; rw [hg]; split
    · rfl
    · rename_i hlt; rw [List.getElem?_eq_none (by omega)] at hg; cases hg
  · rfl
/-- A unit behind a write. -/
def wroteU (u : UR) (at' : Int) (x : CellS) : UR := ⟨u.ub, u.bd, putS u.s at' x, u.ps ++ [pgW (cellL at' x)]⟩
theorem ask_eq {o : OpS} {l : List UR} {k : Nat} {u : UR} (h1 : o.state = 1) (hu : askU o = k) (hg : l[k]? = some u) (hf : Fresh0 u.s) (ha : addrOk o.at' = true) (hb : kindC o = 1 → standB (askX o).what (askX o).data.length = true)
    (hs : o.step = 0 ∨ o.step = 1 ∨ o.step = 2 ∨ o.step = 3) (hp : u.ps.length < 400) :
    (∃ y, u.s.cells o.at' = some y ∧ askS o l = (true, seenC o y, l)) ∨ (u.s.cells o.at' = none ∧ askS o l = (true, blankC o, if kindC o = 1 then l.set k (wroteU u o.at' (askX o)) else l)) := by
  have e0 : askS o l = ((answerS 400 u.s u.ps (askM o)).1, if (answerS 400 u.s u.ps (askM o)).1 = true then toldC o (answerS 400 u.s u.ps (askM o)).2.1 else o, l.set k ⟨u.ub, u.bd, (answerS 400 u.s u.ps (askM o)).2.2.1, (answerS 400 u.s u.ps (askM o)).2.2.2⟩) := by
    unfold askS
    rw [if_pos h1, hu, if_pos (by omega), Int.toNat_natCast, hg]
  cases hy : u.s.cells o.at' with
  | some y =>
    obtain ⟨a1, a2, a3, a4, a5⟩ := ans_some (ps := u.ps) hf ha hb hy
    refine .inl ⟨y, rfl, ?_⟩
    rw [e0, if_pos a1, a1, told_some h1 hs a2 a3 a4, a5]
    exact congrArg _ (congrArg _ (set_same hg))
  | none =>
    obtain ⟨a1, a2, a3, a4⟩ := ans_none (ps := u.ps) hf ha hb hp hy
    refine .inr ⟨rfl, ?_⟩
    rw [e0, if_pos a1, a1, told_none h1 hs a2 a3, a4]
    split
    · rfl
    · exact congrArg _ (congrArg _ (set_same hg))
/-- What units of a chain are: fresh, with few pages, and what stands at one stands at the one ahead of it. -/
structure UnitsOk (l : List UR) (used : Nat) : Prop where
  fresh : ∀ (k : Nat) (u : UR), l[k]? = some u → Fresh0 u.s ∧ u.ps.length ≤ used
  valid : ∀ (k : Nat) (u : UR) (a : Int) (y : CellS), l[k]? = some u → u.s.cells a = some y → standB y.what y.data.length = true
  chain : ∀ (k : Nat) (u v : UR) (a : Int) (y : CellS), l[k]? = some u → l[k + 1]? = some v → v.s.cells a = some y → u.s.cells a = some y
/-- What stands at the unit of a place. -/
def stands (l : List UR) (k : Nat) (a : Int) (y : CellS) : Prop := ∃ u, l[k]? = some u ∧ u.s.cells a = some y
/-- What an Op of a chain is. -/
structure OpOk (n : Nat) (l : List UR) (o : OpS) : Prop where
  us : o.us = (List.range n).map fun i : Nat => (i : Int)
  adr : addrOk o.at' = true
  low : o.low = 0
  state : o.state = 1 ∨ o.state = 2 ∨ o.state = 3
  going : o.state = 1 → (o.step = 0 ∧ 0 ≤ o.place ∧ o.place < n ∧ standB o.cell.what o.cell.data.length = true ∧ (o.place = 0 ∨ stands l (o.place - 1).toNat o.at' o.cell)) ∨
    (o.step = 1 ∧ o.place = (n : Int) - 1) ∨ (o.step = 2 ∧ o.place = 0 ∧ 2 ≤ n) ∨ (o.step = 3 ∧ o.place = 0)
  done : o.state = 2 → stands l (n - 1) o.at' o.cell
theorem stands.all {l : List UR} {used : Nat} (hU : UnitsOk l used) {a : Int} {y : CellS} : ∀ (k j : Nat), j ≤ k → stands l k a y → stands l j a y
  | 0, 0, _, h => h
  | k + 1, j, hj, h => by
    by_cases e : j = k + 1
    · subst e; exact h
    · obtain ⟨v, hv, hc⟩ := h
      have hk : k < l.length := by have := (List.getElem?_eq_some_iff.1 hv).1; omega
      exact stands.all hU k j (by omega) ⟨l[k], List.getElem?_eq_getElem hk, hU.chain k _ v a y (List.getElem?_eq_getElem hk) hv hc⟩
theorem stands.one {l : List UR} {k : Nat} {a : Int} {y z : CellS} (h : stands l k a y) (g : stands l k a z) : y = z := by
  obtain ⟨u, h1, h2⟩ := h
  obtain ⟨v, g1, g2⟩ := g
  rw [h1] at g1
  cases g1
  rw [h2] at g2
  exact Option.some.inj g2
/-- More units' cells than before. -/
def Grows (l l' : List UR) : Prop := l'.length = l.length ∧ ∀ k a y, stands l k a y → stands l' k a y
theorem Grows.refl (l : List UR) : Grows l l := ⟨rfl, fun _ _ _ h => h⟩
theorem OpOk.grows {n : Nat} {l l' : List UR} {o : OpS} (h : OpOk n l o) (g : Grows l l') : OpOk n l' o :=
  ⟨h.us, h.adr, h.low, h.state, fun e => (h.going e).imp (fun ⟨a, b, c, d, e⟩ => ⟨a, b, c, d, e.imp id (g.2 _ _ _)⟩) id, fun e => g.2 _ _ _ (h.done e)⟩
end Go.Proofs.Ytmibmjehjagmbaa

/- An ask of a chain's Op keeps the invariant: no program in sight. No condition. -/
namespace Go.Proofs.Ytmibmjehjagmbaa
open Go.Proofs.Ytmibmjehjagmbaa RX

theorem get_set {l : List UR} {k j : Nat} {v w : UR} (hk : k < l.length) (h : (l.set k v)[j]? = some w) : (j = k ∧ w = v) ∨ (j ≠ k ∧ l[j]? = some w) := by
  rw [List.getElem?_set] at h
  split at h
  · rename_i e; subst e; exact .inl ⟨rfl, by first | exact (Option.some.inj h).symm | simpa [hk] using h.symm⟩
  · rename_i e; exact .inr ⟨fun e' => e e'.symm, h⟩
theorem set_get {l : List UR} {k : Nat} {v : UR} (hk : k < l.length) : (l.set k v)[k]? = some v := by simp [hk]
theorem set_other {l : List UR} {k j : Nat} {v : UR} (h : j ≠ k) : (l.set k v)[j]? = l[j]? := by
  rw [List.getElem?_set, if_neg (fun e => h e.symm)]
theorem wrote_cells (u : UR) (at' : Int) (x : CellS) (a : Int) : (wroteU u at' x).s.cells a = if a = at' then some x else u.s.cells a := by
  simp [wroteU, putS, fput]
theorem put_keeps {l : List UR} {used k : Nat} {u : UR} {at' : Int} {x : CellS} (hU : UnitsOk l used) (hg : l[k]? = some u) (hn : u.s.cells at' = none) (hv : standB x.what x.data.length = true) (hprev : k = 0 ∨ stands l (k - 1) at' x) :
    Grows l (l.set k (wroteU u at' x)) ∧ UnitsOk (l.set k (wroteU u at' x)) (used + 1) ∧ stands (l.set k (wroteU u at' x)) k at' x := by
  have hk : k < l.length := (List.getElem?_eq_some_iff.1 hg).1
  refine ⟨⟨by simp, fun j a y ⟨w, hw, hc⟩ => ?_⟩, ⟨fun j w hw => ?_, fun j w a y hw hc => ?_, fun j w v a y hw hv' hc => ?_⟩, ⟨_, set_get hk, by rw [wrote_cells, if_pos rfl]⟩⟩
  · by_cases e : j = k
    · subst e
      rw [hg] at hw; cases hw
      refine ⟨_, set_get hk, ?_⟩
      rw [wrote_cells, if_neg (fun e => by subst e; rw [hn] at hc; cases hc)]
      exact hc
    · exact ⟨w, by rw [set_other e]; exact hw, hc⟩
  · rcases get_set hk hw with ⟨rfl, rfl⟩ | ⟨_, hw⟩
    · obtain ⟨f1, f2⟩ := hU.fresh j u hg
      exact ⟨⟨f1.1, f1.2⟩, by simp [wroteU]; omega⟩
    · obtain ⟨f1, f2⟩ := hU.fresh j w hw
      exact ⟨f1, by omega⟩
  · rcases get_set hk hw with ⟨rfl, rfl⟩ | ⟨_, hw⟩
    · rw [wrote_cells] at hc
      split at hc
      · cases hc; exact hv
      · exact hU.valid j u a y hg hc
    · exact hU.valid j w a y hw hc
  · rcases get_set hk hv' with ⟨e1, rfl⟩ | ⟨e1, hv2⟩
    · rcases get_set hk hw with ⟨e2, _⟩ | ⟨_, hw2⟩
      · omega
      · rw [wrote_cells] at hc
        split at hc
        · rename_i ea
          subst ea
          cases hc
          rcases hprev with h0 | ⟨w', hw', hc'⟩
          · omega
          · rw [show k - 1 = j by omega, hw2] at hw'
            cases hw'
            exact hc'
        · exact hU.chain j w u a y hw2 (by rw [e1]; exact hg) hc
    · rcases get_set hk hw with ⟨rfl, rfl⟩ | ⟨_, hw2⟩
      · have := hU.chain j u v a y hg hv2 hc
        rw [wrote_cells, if_neg (fun e => by subst e; rw [hn] at this; cases this)]
        exact this
      · exact hU.chain j w v a y hw2 hv2 hc
theorem UnitsOk.more {l : List UR} {used : Nat} (h : UnitsOk l used) : UnitsOk l (used + 1) := ⟨fun k u hk => ⟨(h.fresh k u hk).1, by have := (h.fresh k u hk).2; omega⟩, h.valid, h.chain⟩
theorem askU_range {n : Nat} {o : OpS} (hus : o.us = (List.range n).map fun i : Nat => (i : Int)) (h0 : 0 ≤ o.place) (h1 : o.place < n) : askU o = (o.place.toNat : Nat) := by
  unfold askU
  rw [hus]
  have : o.place.toNat < n := by omega
  simp [this]
theorem write_okC {n : Nat} {l : List UR} {o : OpS} (hO : OpOk n l o) (h1 : o.state = 1) (k : Nat) (y : CellS) (hk : k < n) (hv : standB y.what y.data.length = true) (hst : stands l k o.at' y) : OpOk n l (writeC o ((k : Int) + 1) y) := by
  have hlen : o.us.length = n := by rw [hO.us]; simp
  refine ⟨hO.us, hO.adr, hO.low, ?_, fun e => .inl ⟨rfl, ?_, ?_, hv, .inr ?_⟩, fun e => ?_⟩
  · unfold writeC; simp only; split
    · exact .inr (.inl rfl)
    · exact .inl h1
  · show 0 ≤ (k : Int) + 1; omega
  · show (k : Int) + 1 < n
    by_cases h : (o.us.length : Int) ≤ (k : Int) + 1
    · have : (writeC o ((k : Int) + 1) y).state = 2 := by unfold writeC; simp only; rw [if_pos h]
      rw [this] at e; cases e
    · omega
  · show stands l (((k : Int) + 1) - 1).toNat o.at' y
    rw [show (((k : Int) + 1) - 1).toNat = k by omega]
    exact hst
  · show stands l (n - 1) o.at' y
    by_cases h : (o.us.length : Int) ≤ (k : Int) + 1
    · rw [show n - 1 = k by omega]; exact hst
    · have : (writeC o ((k : Int) + 1) y).state = 1 := by unfold writeC; simp only; rw [if_neg h]; exact h1
      rw [this] at e; cases e
end Go.Proofs.Ytmibmjehjagmbaa

/- An ask of a chain's Op that goes on keeps the invariant: no program in sight. No condition. -/
namespace Go.Proofs.Ytmibmjehjagmbaa
open Go.Proofs.Ytmibmjehjagmbaa RX

theorem lost_ok {n : Nat} {l : List UR} {o : OpS} (hO : OpOk n l o) : OpOk n l { o with state := 3 } :=
  ⟨hO.us, hO.adr, hO.low, .inr (.inr rfl), fun e => absurd (show (3 : Int) = 1 from e) (by decide), fun e => absurd (show (3 : Int) = 2 from e) (by decide)⟩
theorem OpOk.place {n : Nat} {l : List UR} {o : OpS} (h0 : 1 ≤ n) (hO : OpOk n l o) (h1 : o.state = 1) : 0 ≤ o.place ∧ o.place < n := by
  rcases hO.going h1 with ⟨_, a, b, _⟩ | ⟨_, a⟩ | ⟨_, a, _⟩ | ⟨_, a⟩ <;> omega
theorem ask_keeps {n used : Nat} {l : List UR} {o : OpS} (hn : l.length = n) (h0 : 1 ≤ n) (hU : UnitsOk l used) (hused : used < 400) (hO : OpOk n l o) (h1 : o.state = 1) :
    ∃ o' l', askS o l = (true, o', l') ∧ Grows l l' ∧ UnitsOk l' (used + 1) ∧ OpOk n l' o' ∧ o'.at' = o.at' := by
  obtain ⟨p0, p1⟩ := hO.place h0 h1
  have hk : o.place.toNat < l.length := by omega
  have hg : l[o.place.toNat]? = some l[o.place.toNat] := List.getElem?_eq_getElem hk
  generalize l[o.place.toNat] = u at hg
  have hlen : o.us.length = n := by rw [hO.us]; simp
  have hs : o.step = 0 ∨ o.step = 1 ∨ o.step = 2 ∨ o.step = 3 := by
    rcases hO.going h1 with ⟨a, _⟩ | ⟨a, _⟩ | ⟨a, _⟩ | ⟨a, _⟩
    · exact .inl a
    · exact .inr (.inl a)
    · exact .inr (.inr (.inl a))
    · exact .inr (.inr (.inr a))
  have hb : kindC o = 1 → standB (askX o).what (askX o).data.length = true := fun hk1 => by
    rcases hO.going h1 with ⟨a, _, _, b, _⟩ | ⟨a, _⟩ | ⟨a, _⟩ | ⟨a, _⟩
    · simpa [askX, h1, a] using b
    · simp [kindC, a] at hk1
    · simp [kindC, a] at hk1
    · simp [askX, h1, a, standB]
  have hf := (hU.fresh _ _ hg).1
  have hps := (hU.fresh _ _ hg).2
  rcases ask_eq h1 (askU_range hO.us p0 p1) hg hf hO.adr hb hs (by omega) with ⟨y, hy, e⟩ | ⟨hy, e⟩
  · have hst : stands l o.place.toNat o.at' y := ⟨u, hg, hy⟩
    have hv := hU.valid _ _ _ _ hg hy
    refine ⟨_, l, e, Grows.refl l, hU.more, ?_⟩
    rcases hO.going h1 with ⟨a, _, _, b, c⟩ | ⟨a, b⟩ | ⟨a, b, c⟩ | ⟨a, b⟩
    · unfold seenC
      rw [if_pos a]
      split
      · rename_i hc
        have ey : y = o.cell := by cases y; cases hco : o.cell; simp_all
        rw [ey] at hst
        have := write_okC hO h1 o.place.toNat o.cell (by omega) b hst
        rw [Int.toNat_of_nonneg p0] at this
        exact ⟨this, rfl⟩
      · exact ⟨lost_ok hO, rfl⟩
    · unfold seenC
      rw [if_neg (by omega), if_pos a]
      refine ⟨⟨hO.us, hO.adr, hO.low, .inr (.inl rfl), fun e => absurd (show (2 : Int) = 1 from e) (by decide), fun _ => ?_⟩, rfl⟩
      rw [show o.place.toNat = n - 1 by omega] at hst
      exact hst
    · unfold seenC
      rw [if_neg (by omega), if_neg (by omega)]
      rw [show o.place.toNat = 0 by omega] at hst
      exact ⟨write_okC hO h1 0 y (by omega) hv hst, rfl⟩
    · unfold seenC
      rw [if_neg (by omega), if_neg (by omega)]
      rw [show o.place.toNat = 0 by omega] at hst
      exact ⟨write_okC hO h1 0 y (by omega) hv hst, rfl⟩
  · rcases hO.going h1 with ⟨a, _, _, b, c⟩ | ⟨a, b⟩ | ⟨a, b, c⟩ | ⟨a, b⟩
    · have k1 : kindC o = 1 := by simp [kindC, a]
      have x1 : askX o = o.cell := by simp [askX, h1, a]
      rw [if_pos k1, x1] at e
      obtain ⟨g1, g2, g3⟩ := put_keeps hU hg hy b (c.imp (fun h => by omega) fun h => by rw [show o.place.toNat - 1 = (o.place - 1).toNat by omega]; exact h)
      refine ⟨_, _, e, g1, g2, ?_⟩
      unfold blankC
      rw [if_pos a]
      have := write_okC (hO.grows g1) h1 o.place.toNat o.cell (by omega) b g3
      rw [Int.toNat_of_nonneg p0] at this
      exact ⟨this, rfl⟩
    · have k1 : ¬ kindC o = 1 := by simp [kindC, a]
      rw [if_neg k1] at e
      refine ⟨_, _, e, Grows.refl l, hU.more, ?_⟩
      unfold blankC
      rw [if_neg (by omega), if_pos a]
      refine ⟨⟨hO.us, hO.adr, hO.low, hO.state, fun _ => ?_, fun e2 => absurd (h1.symm.trans e2) (by decide)⟩, rfl⟩
      by_cases hn1 : n = 1
      · refine .inr (.inr (.inr ⟨?_, rfl⟩))
        show (if o.us.length = 1 then 3 else 2) = (3 : Int)
        rw [if_pos (by omega)]
      · refine .inr (.inr (.inl ⟨?_, rfl, by omega⟩))
        show (if o.us.length = 1 then 3 else 2) = (2 : Int)
        rw [if_neg (by omega)]
    · have k1 : ¬ kindC o = 1 := by simp [kindC, a]
      rw [if_neg k1] at e
      refine ⟨_, _, e, Grows.refl l, hU.more, ?_⟩
      unfold blankC
      rw [if_neg (by omega), if_neg (by omega), if_pos a]
      exact ⟨⟨hO.us, hO.adr, hO.low, hO.state, fun _ => .inr (.inr (.inr ⟨rfl, b⟩)), fun e2 => absurd (h1.symm.trans e2) (by decide)⟩, rfl⟩
    · have k1 : kindC o = 1 := by simp [kindC, a]
      have x1 : askX o = ⟨2, []⟩ := by simp [askX, h1, a]
      rw [if_pos k1, x1] at e
      have kz : o.place.toNat = 0 := by omega
      obtain ⟨g1, g2, g3⟩ := put_keeps (x := ⟨2, []⟩) hU hg hy (by simp [standB]) (.inl kz)
      refine ⟨_, _, e, g1, g2, ?_⟩
      unfold blankC
      rw [if_neg (by omega), if_neg (by omega), if_neg (by omega)]
      rw [kz] at g1 g3
      rw [kz]
      exact ⟨write_okC (hO.grows g1) h1 0 ⟨2, []⟩ (by omega) (by simp [standB]) g3, rfl⟩
end Go.Proofs.Ytmibmjehjagmbaa

/- A chain at its beginning; an ask of any Op: no program in sight. No condition. -/
namespace Go.Proofs.Ytmibmjehjagmbaa
open Go.Proofs.Ytmibmjehjagmbaa RX

theorem new_ok {l : List UR} (h : ∀ u ∈ l, u.s = s0 ∧ u.ps = []) : UnitsOk l 0 := by
  have hs : ∀ (k : Nat) (u : UR), l[k]? = some u → u.s = s0 ∧ u.ps = [] := fun k u hk => h u (List.mem_of_getElem? hk)
  refine ⟨fun k u hk => ?_, fun k u a y hk hc => ?_, fun k u v a y _ hv hc => ?_⟩
  · rw [(hs k u hk).1, (hs k u hk).2]; exact ⟨⟨rfl, rfl⟩, Nat.le_refl _⟩
  · rw [(hs k u hk).1] at hc; cases hc
  · rw [(hs _ v hv).1] at hc; cases hc
theorem appendC_ok {n : Nat} {l : List UR} (h0 : 1 ≤ n) {at' : Int} (ha : addrOk at' = true) {x : CellS} (hx : standB x.what x.data.length = true) {us : List Int} (hus : us = (List.range n).map fun i : Nat => (i : Int)) : OpOk n l { beginC at' us with cell := x } := by
  have e : (beginC at' us).state = 1 := by unfold beginC; simp only; rw [if_neg (by rw [hus]; simp; omega)]
  exact ⟨hus, ha, rfl, .inl e, fun _ => .inl ⟨rfl, Int.le_refl 0, by show (0 : Int) < n; omega, hx, .inl rfl⟩, fun e2 => absurd (e.symm.trans e2) (by decide)⟩
theorem resolveC_ok {n : Nat} {l : List UR} (h0 : 1 ≤ n) {at' : Int} (ha : addrOk at' = true) {us : List Int} (hus : us = (List.range n).map fun i : Nat => (i : Int)) : OpOk n l { beginC at' us with step := 1, place := (us.length : Int) - 1 } := by
  have e : (beginC at' us).state = 1 := by unfold beginC; simp only; rw [if_neg (by rw [hus]; simp; omega)]
  have hl : us.length = n := by rw [hus]; simp
  exact ⟨hus, ha, rfl, .inl e, fun _ => .inr (.inl ⟨rfl, by show (us.length : Int) - 1 = _; omega⟩), fun e2 => absurd (e.symm.trans e2) (by decide)⟩
/-- An ask, whatever has become of the Op. -/
theorem ask_any {n used : Nat} {l : List UR} {o : OpS} (hn : l.length = n) (h0 : 1 ≤ n) (hU : UnitsOk l used) (hused : used < 400) (hO : OpOk n l o) :
    Grows l (askS o l).2.2 ∧ UnitsOk (askS o l).2.2 (used + 1) ∧ OpOk n (askS o l).2.2 (askS o l).2.1 ∧ (askS o l).2.1.at' = o.at' ∧ ((askS o l).1 = true ↔ o.state = 1) ∧ (o.state ≠ 1 → askS o l = (false, o, l)) := by
  by_cases h1 : o.state = 1
  · obtain ⟨o', l', e, g, u, p, q⟩ := ask_keeps hn h0 hU hused hO h1
    rw [e]
    exact ⟨g, u, p, q, ⟨fun _ => h1, fun _ => rfl⟩, fun h => absurd h1 h⟩
  · have e : askS o l = (false, o, l) := by unfold askS; rw [if_neg h1]
    rw [e]
    exact ⟨Grows.refl l, hU.more, hO, rfl, ⟨(fun h => by cases h), fun h => absurd h h1⟩, fun _ => rfl⟩
/-- What two Ops come to at one address is one. -/
theorem done_one {n : Nat} {l : List UR} {o p : OpS} (hO : OpOk n l o) (hP : OpOk n l p) (e1 : o.state = 2) (e2 : p.state = 2) (ha : o.at' = p.at') : o.cell = p.cell := by
  have h1 := hO.done e1
  have h2 := hP.done e2
  rw [← ha] at h2
  exact h1.one h2
/-- An Append that is done has its own cell. -/
def OwnC (x : CellS) (o : OpS) : Prop := (o.state = 1 ∨ o.state = 2) → o.cell = x ∧ (o.state = 1 → o.step = 0)
theorem own_seen {x y : CellS} {o : OpS} (h : OwnC x o) (h1 : o.state = 1) : OwnC x (seenC o y) := by
  obtain ⟨a, b⟩ := h (.inl h1)
  have hs := b h1
  unfold seenC
  rw [if_pos hs]
  split
  · exact fun _ => ⟨a, fun _ => rfl⟩
  · exact fun e => absurd e (by show ¬ ((3 : Int) = 1 ∨ (3 : Int) = 2); decide)
theorem own_blank {x : CellS} {o : OpS} (h : OwnC x o) (h1 : o.state = 1) : OwnC x (blankC o) := by
  obtain ⟨a, b⟩ := h (.inl h1)
  unfold blankC
  rw [if_pos (b h1)]
  exact fun _ => ⟨a, fun _ => rfl⟩
end Go.Proofs.Ytmibmjehjagmbaa

/- So many asks of one Op, one behind the other: no program in sight. No condition. -/
namespace Go.Proofs.Ytmibmjehjagmbaa
open Go.Proofs.Ytmibmjehjagmbaa RX

/-- An Op and units behind so many asks. -/
def itC (o : OpS) (l : List UR) : Nat → OpS × List UR
  | 0 => (o, l)
  | k + 1 => (askS (itC o l k).1 (itC o l k).2).2
theorem itC_ok {n used : Nat} {l : List UR} {o : OpS} (hn : l.length = n) (h0 : 1 ≤ n) (hU : UnitsOk l used) (hO : OpOk n l o) : ∀ k, used + k ≤ 400 → (itC o l k).2.length = n ∧ UnitsOk (itC o l k).2 (used + k) ∧ OpOk n (itC o l k).2 (itC o l k).1 ∧ Grows l (itC o l k).2
  | 0, _ => ⟨hn, hU, hO, Grows.refl l⟩
  | k + 1, hk => by
    obtain ⟨a, b, c, d⟩ := itC_ok hn h0 hU hO k (by omega)
    obtain ⟨g, u, p, _⟩ := ask_any a h0 b (by omega) c
    exact ⟨g.1.trans a, u, p, ⟨g.1.trans d.1, fun j x y h => g.2 _ _ _ (d.2 _ _ _ h)⟩⟩
end Go.Proofs.Ytmibmjehjagmbaa

/- An Op that goes on asks at most two more times than there are units: no program in sight. No condition. -/
namespace Go.Proofs.Ytmibmjehjagmbaa
open Go.Proofs.Ytmibmjehjagmbaa RX

/-- How many asks are left at most. -/
def leftC (n : Nat) (o : OpS) : Nat := if o.state ≠ 1 then 0 else if o.step = 0 then n - o.place.toNat else if o.step = 1 then n + 2 else if o.step = 2 then n + 1 else n
theorem left_seen {n : Nat} {l : List UR} {o : OpS} {y : CellS} (h0 : 1 ≤ n) (hO : OpOk n l o) (h1 : o.state = 1) : leftC n (seenC o y) < leftC n o := by
  have hlen : o.us.length = n := by rw [hO.us]; simp
  rcases hO.going h1 with ⟨a, a1, a2, _⟩ | ⟨a, _⟩ | ⟨a, _, _⟩ | ⟨a, _⟩ <;> simp only [leftC, seenC, writeC, a, h1] <;> (repeat' split) <;> simp_all <;> omega
theorem left_blank {n : Nat} {l : List UR} {o : OpS} (h0 : 1 ≤ n) (hO : OpOk n l o) (h1 : o.state = 1) : leftC n (blankC o) < leftC n o := by
  have hlen : o.us.length = n := by rw [hO.us]; simp
  rcases hO.going h1 with ⟨a, a1, a2, _⟩ | ⟨a, _⟩ | ⟨a, _, _⟩ | ⟨a, _⟩ <;> simp only [leftC, blankC, writeC, a, h1] <;> (repeat' split) <;> simp_all <;> omega
end Go.Proofs.Ytmibmjehjagmbaa

/- An Append, or a Resolve, of a chain on which nothing else stands at its address ends, with that cell: no program in sight. No condition. -/
namespace Go.Proofs.Ytmibmjehjagmbaa
open Go.Proofs.Ytmibmjehjagmbaa RX

/-- Nothing stands there but one cell. -/
def OnlyC (l : List UR) (a : Int) (x : CellS) : Prop := ∀ k y, stands l k a y → y = x
theorem itC_cons {o o' : OpS} {l l' : List UR} (h : (askS o l).2 = (o', l')) : ∀ k, itC o l (k + 1) = itC o' l' k
  | 0 => h
  | k + 1 => by
    have := itC_cons h k
    show (askS (itC o l (k + 1)).1 (itC o l (k + 1)).2).2 = (askS (itC o' l' k).1 (itC o' l' k).2).2
    rw [this]
/-- So many asks end an Op with a cell. -/
def EndsC (o : OpS) (l : List UR) (x : CellS) (m : Nat) : Prop := (∀ k, k < m → (itC o l k).1.state = 1) ∧ (itC o l m).1.state = 2 ∧ (itC o l m).1.cell = x ∧ OnlyC (itC o l m).2 o.at' x ∧ 0 ≤ (itC o l m).1.place ∧ (itC o l m).1.place ≤ o.us.length
theorem app_step {n used : Nat} {l : List UR} {o : OpS} {x : CellS} (hn : l.length = n) (h0 : 1 ≤ n) (hU : UnitsOk l used) (hused : used < 400) (hO : OpOk n l o) (h1 : o.state = 1) (hs : o.step = 0) (hx : o.cell = x) (hy : OnlyC l o.at' x) :
    ∃ l', askS o l = (true, writeC o (o.place + 1) x, l') ∧ OnlyC l' o.at' x := by
  obtain ⟨p0, p1⟩ := hO.place h0 h1
  have hk : o.place.toNat < l.length := by omega
  have hg : l[o.place.toNat]? = some l[o.place.toNat] := List.getElem?_eq_getElem hk
  generalize l[o.place.toNat] = u at hg
  have hb : kindC o = 1 → standB (askX o).what (askX o).data.length = true := fun _ => by
    rcases hO.going h1 with ⟨_, _, _, b, _⟩ | ⟨a, _⟩ | ⟨a, _⟩ | ⟨a, _⟩
    · simpa [askX, h1, hs] using b
    · omega
    · omega
    · omega
  have hf := (hU.fresh _ _ hg).1
  have hps := (hU.fresh _ _ hg).2
  rcases ask_eq h1 (askU_range hO.us p0 p1) hg hf hO.adr hb (.inl hs) (by omega) with ⟨y, hc, e⟩ | ⟨hc, e⟩
  · have ey := hy _ _ ⟨u, hg, hc⟩
    refine ⟨l, ?_, hy⟩
    rw [e]
    unfold seenC
    rw [if_pos hs, if_pos (by rw [ey, hx]; exact ⟨rfl, rfl⟩), hx]
  · have k1 : kindC o = 1 := by simp [kindC, hs]
    have x1 : askX o = o.cell := by simp [askX, h1, hs]
    rw [if_pos k1, x1] at e
    refine ⟨l.set o.place.toNat (wroteU u o.at' o.cell), ?_, ?_⟩
    · rw [e]
      unfold blankC
      rw [if_pos hs, hx]
    · rintro k y ⟨w, hw, hc'⟩
      rcases get_set hk hw with ⟨rfl, rfl⟩ | ⟨_, hw⟩
      · rw [wrote_cells, if_pos rfl] at hc'
        rw [← Option.some.inj hc', hx]
      · exact hy _ _ ⟨w, hw, hc'⟩
theorem append_ends {n : Nat} (h0 : 1 ≤ n) {x : CellS} : ∀ (j used : Nat) (l : List UR) (o : OpS), l.length = n → UnitsOk l used → used + j ≤ 400 → OpOk n l o → o.state = 1 → o.step = 0 → o.cell = x → OnlyC l o.at' x → o.place + j = n → EndsC o l x j
  | 0, used, l, o, hn, hU, hused, hO, h1, hs, hx, hy, hp => by
    have := hO.place h0 h1
    omega
  | j + 1, used, l, o, hn, hU, hused, hO, h1, hs, hx, hy, hp => by
    obtain ⟨l', e, hy'⟩ := app_step hn h0 hU (by omega) hO h1 hs hx hy
    obtain ⟨g, u, p, _⟩ := ask_any hn h0 hU (by omega) hO
    rw [e] at g u p
    have e2 : (askS o l).2 = (writeC o (o.place + 1) x, l') := by rw [e]
    have hlen : o.us.length = n := by rw [hO.us]; simp
    rcases Nat.eq_zero_or_pos j with hj | hj
    · subst hj
      have e1 : itC o l 1 = (writeC o (o.place + 1) x, l') := e2
      refine ⟨fun k hk => ?_, ?_, ?_, ?_⟩
      · obtain rfl : k = 0 := by omega
        exact h1
      · show (itC o l 1).1.state = 2
        rw [e1]
        unfold writeC
        simp only
        rw [if_pos (by omega)]
      · show (itC o l 1).1.cell = x
        rw [e1]; rfl
      · show OnlyC (itC o l 1).2 o.at' x ∧ 0 ≤ (itC o l 1).1.place ∧ (itC o l 1).1.place ≤ o.us.length
        have := hO.place h0 h1
        rw [e1]; exact ⟨hy', by show 0 ≤ o.place + 1; omega, by show o.place + 1 ≤ _; omega⟩
    · have s1 : (writeC o (o.place + 1) x).state = 1 := by
        unfold writeC
        simp only
        rw [if_neg (by omega)]
        exact h1
      obtain ⟨a, b, c, d⟩ := append_ends h0 j (used + 1) l' (writeC o (o.place + 1) x) (g.1.trans hn) u (by omega) p s1 rfl rfl hy' (by show o.place + 1 + (j : Int) = n; omega)
      refine ⟨fun k hk => ?_, ?_, ?_, ?_⟩
      · cases k with
        | zero => exact h1
        | succ k =>
          rw [itC_cons e2]
          exact a k (by omega)
      · rw [itC_cons e2]; exact b
      · rw [itC_cons e2]; exact c
      · rw [itC_cons e2]; exact d
theorem resolve_ends {n used : Nat} {l : List UR} {o : OpS} {x : CellS} (hn : l.length = n) (h0 : 1 ≤ n) (hU : UnitsOk l used) (hused : used < 400) (hO : OpOk n l o) (h1 : o.state = 1) (hs : o.step = 1) (hp : o.place = (n : Int) - 1) (hst : stands l (n - 1) o.at' x) (hy : OnlyC l o.at' x) : EndsC o l x 1 := by
  obtain ⟨p0, p1⟩ := hO.place h0 h1
  have hlen : o.us.length = n := by rw [hO.us]; simp
  obtain ⟨u, hg, hc⟩ := hst
  have hk : o.place.toNat = n - 1 := by omega
  rw [← hk] at hg
  have hb : kindC o = 1 → standB (askX o).what (askX o).data.length = true := fun k1 => by simp [kindC, hs] at k1
  rcases ask_eq h1 (askU_range hO.us p0 p1) hg (hU.fresh _ _ hg).1 hO.adr hb (.inr (.inl hs)) (by have := (hU.fresh _ _ hg).2; omega) with ⟨y, hc', e⟩ | ⟨hc', _⟩
  · rw [hc] at hc'
    cases hc'
    have e1 : itC o l 1 = ({ o with cell := x, state := 2 }, l) := by
      show (askS o l).2 = _
      rw [e]
      unfold seenC
      rw [if_neg (by omega), if_pos hs]
    refine ⟨fun k hk => ?_, ?_, ?_, ?_⟩
    · obtain rfl : k = 0 := by omega
      exact h1
    · rw [e1]
    · rw [e1]
    · rw [e1]; exact ⟨hy, p0, by show o.place ≤ _; omega⟩
  · rw [hc] at hc'; cases hc'
end Go.Proofs.Ytmibmjehjagmbaa

/- What an ask of an Append, or of a Resolve, leaves: no program in sight. No condition. -/
namespace Go.Proofs.Ytmibmjehjagmbaa
open Go.Proofs.Ytmibmjehjagmbaa RX

theorem ask_case {n used : Nat} {l : List UR} {o : OpS} (hn : l.length = n) (h0 : 1 ≤ n) (hU : UnitsOk l used) (hused : used < 400) (hO : OpOk n l o) (h1 : o.state = 1) :
    ∃ u, l[o.place.toNat]? = some u ∧ ((∃ y, u.s.cells o.at' = some y ∧ askS o l = (true, seenC o y, l)) ∨ (u.s.cells o.at' = none ∧ askS o l = (true, blankC o, if kindC o = 1 then l.set o.place.toNat (wroteU u o.at' (askX o)) else l))) := by
  obtain ⟨p0, p1⟩ := hO.place h0 h1
  have hk : o.place.toNat < l.length := by omega
  have hg : l[o.place.toNat]? = some l[o.place.toNat] := List.getElem?_eq_getElem hk
  generalize l[o.place.toNat] = u at hg
  have hs : o.step = 0 ∨ o.step = 1 ∨ o.step = 2 ∨ o.step = 3 := by
    rcases hO.going h1 with ⟨a, _⟩ | ⟨a, _⟩ | ⟨a, _⟩ | ⟨a, _⟩
    · exact .inl a
    · exact .inr (.inl a)
    · exact .inr (.inr (.inl a))
    · exact .inr (.inr (.inr a))
  have hb : kindC o = 1 → standB (askX o).what (askX o).data.length = true := fun hk1 => by
    rcases hO.going h1 with ⟨a, _, _, b, _⟩ | ⟨a, _⟩ | ⟨a, _⟩ | ⟨a, _⟩
    · simpa [askX, h1, a] using b
    · simp [kindC, a] at hk1
    · simp [kindC, a] at hk1
    · simp [askX, h1, a, standB]
  exact ⟨u, hg, ask_eq h1 (askU_range hO.us p0 p1) hg (hU.fresh _ _ hg).1 hO.adr hb hs (by have := (hU.fresh _ _ hg).2; omega)⟩
theorem ask_left {n used : Nat} {l : List UR} {o : OpS} (hn : l.length = n) (h0 : 1 ≤ n) (hU : UnitsOk l used) (hused : used < 400) (hO : OpOk n l o) (h1 : o.state = 1) : leftC n (askS o l).2.1 < leftC n o := by
  obtain ⟨u, _, ⟨y, _, e⟩ | ⟨_, e⟩⟩ := ask_case hn h0 hU hused hO h1
  · rw [e]; exact left_seen h0 hO h1
  · rw [e]; exact left_blank h0 hO h1
theorem left_zero {n : Nat} {l : List UR} {o : OpS} (h0 : 1 ≤ n) (hO : OpOk n l o) (h : leftC n o = 0) : o.state ≠ 1 := fun h1 => by
  have := hO.place h0 h1
  unfold leftC at h
  rw [if_neg (by simpa using h1)] at h
  repeat' split at h
  all_goals omega
theorem left_le {n : Nat} {l : List UR} {o : OpS} (_ : OpOk n l o) : leftC n o ≤ n + 2 := by
  unfold leftC
  repeat' split
  all_goals omega
/-- An Append of a cell: its own is done, or another one stands there. -/
def AppC (x : CellS) (l : List UR) (o : OpS) : Prop := OwnC x o ∧ (o.state = 3 → ∃ y, y ≠ x ∧ stands l 0 o.at' y)
theorem AppC.grows {x : CellS} {l l' : List UR} {o : OpS} (h : AppC x l o) (g : Grows l l') : AppC x l' o := ⟨h.1, fun e => let ⟨y, a, b⟩ := h.2 e; ⟨y, a, g.2 _ _ _ b⟩⟩
theorem ask_app {n used : Nat} {l : List UR} {o : OpS} {x : CellS} (hn : l.length = n) (h0 : 1 ≤ n) (hU : UnitsOk l used) (hused : used < 400) (hO : OpOk n l o) (hA : AppC x l o) : AppC x (askS o l).2.2 (askS o l).2.1 := by
  by_cases h1 : o.state = 1
  · have hg := (ask_any hn h0 hU hused hO).1
    obtain ⟨a, b⟩ := hA.1 (.inl h1)
    have hs := b h1
    obtain ⟨u, hu, ⟨y, hy, e⟩ | ⟨hy, e⟩⟩ := ask_case hn h0 hU hused hO h1
    · rw [e]
      refine ⟨own_seen hA.1 h1, fun h3 => ?_⟩
      by_cases hc : y.what = o.cell.what ∧ y.data = o.cell.data
      · have e2 : seenC o y = writeC o (o.place + 1) o.cell := by unfold seenC; rw [if_pos hs, if_pos hc]
        rw [e2] at h3
        unfold writeC at h3
        simp only at h3
        split at h3
        · exact absurd h3 (by decide)
        · rw [h1] at h3; exact absurd h3 (by decide)
      · have e2 : seenC o y = { o with state := 3 } := by unfold seenC; rw [if_pos hs, if_neg hc]
        rw [e2]
        refine ⟨y, fun ey => hc (by rw [ey, a]; exact ⟨rfl, rfl⟩), ?_⟩
        exact stands.all hU _ 0 (Nat.zero_le _) ⟨u, hu, hy⟩
    · rw [e] at hg ⊢
      refine ⟨own_blank hA.1 h1, fun h3 => ?_⟩
      have e2 : blankC o = writeC o (o.place + 1) o.cell := by unfold blankC; rw [if_pos hs]
      rw [e2] at h3
      unfold writeC at h3
      simp only at h3
      split at h3
      · exact absurd h3 (by decide)
      · rw [h1] at h3; exact absurd h3 (by decide)
  · rw [(ask_any hn h0 hU hused hO).2.2.2.2.2 h1]
    exact hA
/-- A Resolve: never lost. -/
def ResC (o : OpS) : Prop := o.state ≠ 3 ∧ (o.state = 1 → o.step = 0 → 1 ≤ o.place)
theorem ask_res {n used : Nat} {l : List UR} {o : OpS} (hn : l.length = n) (h0 : 1 ≤ n) (hU : UnitsOk l used) (hused : used < 400) (hO : OpOk n l o) (hR : ResC o) : ResC (askS o l).2.1 := by
  by_cases h1 : o.state = 1
  · have wr : ∀ (p : Int) (x : CellS), 1 ≤ p → ResC (writeC o p x) := fun p x hp => by
      refine ⟨fun h3 => ?_, fun _ _ => hp⟩
      unfold writeC at h3
      simp only at h3
      split at h3
      · exact absurd h3 (by decide)
      · rw [h1] at h3; exact absurd h3 (by decide)
    obtain ⟨p0, p1⟩ := hO.place h0 h1
    obtain ⟨u, hu, ⟨y, hy, e⟩ | ⟨hy, e⟩⟩ := ask_case hn h0 hU hused hO h1
    · rw [e]
      show ResC (seenC o y)
      unfold seenC
      split
      · rename_i hs
        have hp := hR.2 h1 hs
        have hc : y.what = o.cell.what ∧ y.data = o.cell.data := by
          rcases hO.going h1 with ⟨_, _, _, _, b | b⟩ | ⟨a, _⟩ | ⟨a, _⟩ | ⟨a, _⟩
          · omega
          · have h2 := stands.all hU _ (o.place - 1).toNat (by omega) ⟨u, hu, hy⟩
            rw [h2.one b]; exact ⟨rfl, rfl⟩
          · omega
          · omega
          · omega
        rw [if_pos hc]
        exact wr _ _ (by omega)
      · split
        · exact ⟨by show (2 : Int) ≠ 3; decide, fun h => absurd (show (2 : Int) = 1 from h) (by decide)⟩
        · exact wr _ _ (by omega)
    · rw [e]
      show ResC (blankC o)
      unfold blankC
      split
      · exact wr _ _ (by omega)
      · split
        · refine ⟨by show o.state ≠ 3; omega, fun _ hs => ?_⟩
          have hs' : (if o.us.length = 1 then (3 : Int) else 2) = 0 := hs
          split at hs' <;> exact absurd hs' (by decide)
        · split
          · exact ⟨by show o.state ≠ 3; omega, fun _ hs => absurd (show (3 : Int) = 0 from hs) (by decide)⟩
          · exact wr _ _ (by omega)
  · rw [(ask_any hn h0 hU hused hO).2.2.2.2.2 h1]
    exact hR
/-- All cells that are there at an address, or to be, are of one sort. -/
def SortC (M : CellS → Prop) (a : Int) (l : List UR) (o : OpS) : Prop := (∀ k y, stands l k a y → M y) ∧ o.at' = a ∧ ((o.state = 1 ∧ o.step = 0) ∨ o.state = 2 → M o.cell)
theorem ask_sort {n used : Nat} {l : List UR} {o : OpS} {M : CellS → Prop} {a : Int} (hj : M ⟨2, []⟩) (hn : l.length = n) (h0 : 1 ≤ n) (hU : UnitsOk l used) (hused : used < 400) (hO : OpOk n l o) (hM : SortC M a l o) : SortC M a (askS o l).2.2 (askS o l).2.1 := by
  by_cases h1 : o.state = 1
  · obtain ⟨m1, rfl, m3⟩ := hM
    obtain ⟨u, hu, ⟨y, hy, e⟩ | ⟨hy, e⟩⟩ := ask_case hn h0 hU hused hO h1
    · have my := m1 _ _ ⟨u, hu, hy⟩
      rw [e]
      refine ⟨m1, ?_, ?_⟩
      · show (seenC o y).at' = _
        unfold seenC writeC
        repeat' split
        all_goals rfl
      · show _ → M (seenC o y).cell
        unfold seenC writeC
        split
        · rename_i hs
          split
          · exact fun _ => m3 (.inl ⟨h1, hs⟩)
          · exact fun _ => m3 (.inl ⟨h1, hs⟩)
        · split
          · exact fun _ => my
          · exact fun _ => my
    · have hkl : o.place.toNat < l.length := (List.getElem?_eq_some_iff.1 hu).1
      have mx : kindC o = 1 → M (askX o) := fun hk1 => by
        rcases hO.going h1 with ⟨a, _⟩ | ⟨a, _⟩ | ⟨a, _⟩ | ⟨a, _⟩
        · rw [show askX o = o.cell by simp [askX, h1, a]]; exact m3 (.inl ⟨h1, a⟩)
        · simp [kindC, a] at hk1
        · simp [kindC, a] at hk1
        · rw [show askX o = ⟨2, []⟩ by simp [askX, h1, a]]; exact hj
      rw [e]
      refine ⟨?_, ?_, ?_⟩
      · show ∀ k y, stands (if kindC o = 1 then l.set o.place.toNat (wroteU u o.at' (askX o)) else l) k o.at' y → M y
        split
        · rename_i hk1
          rintro k y ⟨w, hw, hc⟩
          rcases get_set hkl hw with ⟨rfl, rfl⟩ | ⟨_, hw⟩
          · rw [wrote_cells, if_pos rfl] at hc
            rw [← Option.some.inj hc]
            exact mx hk1
          · exact m1 _ _ ⟨w, hw, hc⟩
        · exact m1
      · show (blankC o).at' = _
        unfold blankC writeC
        repeat' split
        all_goals rfl
      · show _ → M (blankC o).cell
        unfold blankC writeC
        split
        · rename_i hs
          exact fun _ => m3 (.inl ⟨h1, hs⟩)
        · split
          · rintro (⟨_, h⟩ | h)
            · have h' : (if o.us.length = 1 then (3 : Int) else 2) = 0 := h
              split at h' <;> exact absurd h' (by decide)
            · have h' : o.state = 2 := h
              omega
          · split
            · rintro (⟨_, h⟩ | h)
              · exact absurd (show (3 : Int) = 0 from h) (by decide)
              · have h' : o.state = 2 := h
                omega
            · exact fun _ => hj
  · rw [(ask_any hn h0 hU hused hO).2.2.2.2.2 h1]
    exact hM
end Go.Proofs.Ytmibmjehjagmbaa

/- Law 17's example answers true. No condition. -/
namespace Go.Proofs.Ytmibmjehjagmbaa
set_option linter.unusedSimpArgs false
set_option linter.unusedVariables false
open Go.Proofs.Ytmibmjehjagmbaa RX

def l2 (a b c d : Nat) : List UR := [newU a b, newU c d]
def o2 : OpS := { beginC 3 [0, 1] with step := 1, place := 1 }
theorem go2 (a b c d : Nat) : (askS (itC o2 (l2 a b c d) 0).1 (itC o2 (l2 a b c d) 0).2).1 = true ∧ (askS (itC o2 (l2 a b c d) 1).1 (itC o2 (l2 a b c d) 1).2).1 = true ∧ (askS (itC o2 (l2 a b c d) 2).1 (itC o2 (l2 a b c d) 2).2).1 = true ∧ (askS (itC o2 (l2 a b c d) 3).1 (itC o2 (l2 a b c d) 3).2).1 = true ∧
    (askS (itC o2 (l2 a b c d) 4).1 (itC o2 (l2 a b c d) 4).2).1 = false ∧ (itC o2 (l2 a b c d) 4).1.state = 2 ∧ (itC o2 (l2 a b c d) 4).1.cell.what = 2 ∧ (itC o2 (l2 a b c d) 4).1.at' = 3 := by
  refine ⟨?_, ?_, ?_, ?_, ?_, ?_, ?_, ?_⟩ <;> kernel_rfl
set_option maxRecDepth 100000 in
theorem speaks17_ok : Tri Try.prog 47 #[] HP.tt (fun v => HP.pure (v = .bool true)) := by
  refine tri_of_tree (ρ := []) mixed Try.func47 tree_speaks17 ?_
  unfold t_speaks17
  simp only [T.den, E.prop, E.den, RX.look, F1.app, F2.app, Uni.int_i, Uni.nat_n, Uni.bool_c, Uni.str_s, Uni.adr_a, Uni.val_v, Uni.hp_p, hden, cden, V.den, W.den, A.den, BR.den, SA.den, FV.den, capV, exs, exP, allP, Cur.app, List.map_cons, List.map_nil, List.cons_append, List.nil_append, List.drop_succ_cons, List.drop_zero, List.length_cons, List.length_nil, Nat.zero_add, Nat.reduceAdd, Int.neg_neg, Bool.not_not, List.append_nil, Nat.add_zero, List.getElem?_cons_zero, List.getElem?_cons_succ, Decidable.not_not]
  refine (laid17_ok 2 (by decide)).weak (fun _ _ h => h) ?_
  rintro v R h ⟨a, c, l, ⟨rfl, hl⟩, H⟩
  refine ⟨a, 2, c, UnL a 2 c l, rfl, fun x => ?_, H⟩
  have hn : l.length = 2 := H.1
  clear H
  refine (cResolve_ok 3 (some ⟨x, 0, none⟩) 2 2 [0, 1] (HP.one x (.cells #[.int .i64 0, .int .i64 1] 3 (0, 0))) ⟨one_rd x _ _, fun R h H e => by cases e⟩ rfl (by decide)).weak (fun _ _ h => h) ?_
  rintro v R h ⟨b, rfl, H⟩
  refine ⟨b, ORep b o2, rfl, ?_, HP.sep_comm H⟩
  clear H
  obtain ⟨ub, bd, ub', bd', rfl⟩ : ∃ ub bd ub' bd', l = l2 ub bd ub' bd' := by
    match l, hn with
    | [u, v], _ =>
      obtain ⟨u1, u2⟩ := hl u (by simp)
      obtain ⟨v1, v2⟩ := hl v (by simp)
      refine ⟨u.ub, u.bd, v.ub, v.bd, ?_⟩
      cases u; cases v
      simp only at u1 u2 v1 v2
      subst u1 u2 v1 v2
      rfl
  have hO2 : OpOk 2 (l2 ub bd ub' bd') o2 := resolveC_ok (n := 2) (at' := 3) (us := [0, 1]) (by decide) (by decide) rfl
  have hok := fun k hk => itC_ok (k := k) (used := 0) hn (by decide) (new_ok hl) hO2 hk
  obtain ⟨g0, g1, g2, g3, g4, g5, g6, hat⟩ := go2 ub bd ub' bd'
  generalize l2 ub bd ub' bd' = l at *
  refine ⟨fun i P Q => ∃ k : Nat, i = k ∧ k ≤ 4 ∧ P = ORep b (itC o2 l k).1 ∧ Q = UnL a 2 c (itC o2 l k).2, fun i _ _ => 9 - i.toNat, ⟨0, rfl, by omega, rfl, rfl⟩, ?_⟩
  rintro _ _ _ ⟨k, rfl, hk, rfl, rfl⟩
  have hO := (hok k (by omega)).2.2.1
  refine ⟨fun _ => ?_, fun h => absurd h (by omega)⟩
  refine (ask17_ok b (itC o2 l k).1 a 2 c (itC o2 l k).2 (fun h1 => by have := hO.place (by decide) h1; rw [hO.us]; simpa using this) (by rw [hO.us]; simp)).weak (fun _ _ h => h) ?_
  rintro v R h ⟨rfl, H⟩
  refine ⟨_, ORep b (itC o2 l (k + 1)).1, UnL a 2 c (itC o2 l (k + 1)).2, rfl, ⟨fun hy => ⟨inI64 _ (by omega) (by omega), fun _ => ⟨⟨k + 1, by omega, ?_, rfl, rfl⟩, by dsimp only; omega⟩⟩, fun hno => ?_⟩, H⟩
  · rcases Nat.lt_or_ge k 4 with h | h
    · omega
    · obtain rfl : k = 4 := by omega
      rw [g4] at hy; cases hy
  · obtain rfl : k = 4 := by
      rcases (show k = 0 ∨ k = 1 ∨ k = 2 ∨ k = 3 ∨ k = 4 by omega) with rfl | rfl | rfl | rfl | rfl
      · exact absurd g0 hno
      · exact absurd g1 hno
      · exact absurd g2 hno
      · exact absurd g3 hno
      · rfl
    obtain ⟨_, c2, c3, _⟩ := hok 4 (by omega)
    have e5 : itC o2 l (4 + 1) = itC o2 l 4 := by
      have := (ask_any (hok 4 (by omega)).1 (by decide) c2 (by omega) c3).2.2.2.2.2 (by omega)
      show (askS (itC o2 l 4).1 (itC o2 l 4).2).2 = _
      rw [this]
    rw [e5]
    refine ⟨fun _ => ?_, fun h => absurd rfl h⟩
    refine (cState_ok b (itC o2 l 4).1).weak (fun _ _ h => h) ?_
    rintro v R h ⟨rfl, H⟩
    refine ⟨_, rfl, ⟨fun _ => ?_, fun h => absurd g5 h⟩, H⟩
    clear H
    have ed : doneC (itC o2 l 4).1 = (itC o2 l 4).1.cell := by unfold doneC; rw [if_pos g5]
    refine (cCell_ok b (itC o2 l 4).1).weak (fun _ _ h => h) ?_
    rintro v R h ⟨da, dc, rfl, H⟩
    rw [ed] at H ⊢
    refine ⟨_, da, _, dc, RoB da _ _, rfl, ⟨fun _ => ?_, fun h => absurd g6 h⟩, H⟩
    clear H
    refine (cAt_ok b (itC o2 l 4).1).weak (fun _ _ h => h) ?_
    rintro v R h ⟨rfl, H⟩
    exact ⟨_, rfl, .of fun R y H => (by rw [hat]; rfl), H⟩
end Go.Proofs.Ytmibmjehjagmbaa

/- Trees of functions, printed by rx.lean. No condition. -/
namespace Go.Proofs.Ytmibmjehjagmbaa.RX
set_option maxRecDepth 100000
-- tideline/tidelinelaw17.ChainAgain: ρ := [.i size, .a dataa, .n datal, .n datac, .p dataP, .i at, .i late_From, .i late_To, .i late_Number, .c late_Reply, .i late_Kind, .i late_Epoch, .i late_At, .i late_Cell_What, .a late_Cell_Dataa, .n late_Cell_Datal, .n late_Cell_Datac, .p late_Cell_DataP, .i late_Ballot_Round, .i late_Ballot_Who, .a late_Valuea, .n late_Valuel, .n late_Valuec, .p late_ValueP, .i late_Err, .i late_Tail, .i late_Low, .i late_Back]
def t_chainAgain : T :=
(.new
(.call 47 [] [] [.c] (.w (.a (.bool (.v 29)))) []
(.br (.o1 .not (.v 29))
 (.ret (.w (.a (.bool (.c false)))) [((.a 1), (.prop 4)), ((.a 14), (.prop 17)), ((.a 20), (.prop 23))])
 (.br (.o2 .lt (.i 300) (.o1 .ofNat (.v 2)))
  (.ret (.w (.a (.bool (.c true)))) [((.a 1), (.prop 4)), ((.a 14), (.prop 17)), ((.a 20), (.prop 23))])
  (.br (.o2 .lt (.i 300) (.o1 .ofNat (.v 15)))
   (.ret (.w (.a (.bool (.c true)))) [((.a 1), (.prop 4)), ((.a 14), (.prop 17)), ((.a 20), (.prop 23))])
   (.br (.o2 .lt (.v 5) (.i 0))
    (.ret (.w (.a (.bool (.c true)))) [((.a 1), (.prop 4)), ((.a 14), (.prop 17)), ((.a 20), (.prop 23))])
    (.br (.o2 .lt (.i 4294967296) (.v 5))
     (.ret (.w (.a (.bool (.c true)))) [((.a 1), (.prop 4)), ((.a 14), (.prop 17)), ((.a 20), (.prop 23))])
     (.need (.o1 (.inr .i64) (.o2 .add (.o2 (.bit .and .i64) (.v 0) (.i 3)) (.i 1)))
     (.call 48 [(.a (.int .i64 (.o2 .add (.o2 (.bit .and .i64) (.v 0) (.i 3)) (.i 1))))] [] [.a, .n, .n, .p] (.w (.a (.sl (.v 30) (.v 31) (.v 32)))) [((.a 30), (.prop 33))]
     (.br (.o1 .not (.o1 .isSome (.v 30)))
      (.ret (.w (.a (.bool (.c false)))) [((.a 1), (.prop 4)), ((.a 14), (.prop 17)), ((.a 20), (.prop 23))])
      (.new
      (.loop [.a, .n, .n, .i, .p] [(.a (.b (.v 34) 0)), (.e (.o2 .nadd (.n 0) (.n 0))), (.e (.o2 .nadd (.n 0) (.n 0))), (.e (.o1 .neg (.o1 .neg (.i 0)))), (.p [((.b (.v 34)), (.cells [] 3))])]
       (.br (.o2 .lt (.v 38) (.o2 .add (.o2 (.bit .and .i64) (.v 0) (.i 3)) (.i 1)))
        (.new
        (.op (.call ⟨.builtin .append, #[(.tmp 50), (.tmp 52)], #[86, 86]⟩) 86 [(50, (.w (.a (.sl (.v 35) (.v 36) (.v 37))))), (52, (.w (.a (.sl (.b (.v 40) 0) (.n 1) (.n 1)))))] [((.a 35), (.prop 39)), ((.b (.v 40)), (.cells [(.int .i64 (.v 38))] 3))] [.a, .n, .n, .p] (.w (.a (.sl (.v 41) (.v 42) (.v 43)))) [((.a 41), (.prop 44)), ((.b (.v 40)), (.cells [(.int .i64 (.v 38))] 3))]
        (.need (.o1 (.inr .i64) (.o2 .add (.v 38) (.i 1)))
        (.again 0 [(.a (.v 41)), (.e (.o2 .nadd (.v 42) (.n 0))), (.e (.o2 .nadd (.v 43) (.n 0))), (.e (.o1 .neg (.o1 .neg (.o2 .add (.v 38) (.i 1))))), (.p [((.a 41), (.prop 44))])]))))
        (.new
        (.loop [.c, .i, .p] [(.e (.o1 .not (.o1 .not (.c false)))), (.e (.o1 .neg (.o1 .neg (.i 0)))), (.p [((.a 30), (.prop 33))])]
         (.br (.o2 .lt (.v 42) (.i 3))
          (.call 50 [(.a (.int .i64 (.v 5))), (.a (.sl (.v 35) (.v 36) (.v 37))), (.agg [(.int .i64 (.i 1)), (.sl (.v 1) (.v 2) (.v 3))])] [((.a 35), (.prop 39)), ((.a 1), (.prop 4))] [.n, .p] (.w (.a (.ptr (.v 44) 0))) [((.b (.v 44)), (.prop 45)), ((.a 35), (.prop 39)), ((.a 1), (.prop 4))]
          (.br (.o2 .eq (.v 42) (.i 2))
           (.call 49 [(.a (.int .i64 (.v 5))), (.a (.sl (.v 35) (.v 36) (.v 37)))] [((.a 35), (.prop 39))] [.n, .p] (.w (.a (.ptr (.v 46) 0))) [((.b (.v 46)), (.prop 47)), ((.a 35), (.prop 39))]
           (.loop [.i, .p, .p, .p] [(.e (.o1 .neg (.o1 .neg (.i 0)))), (.p [((.b (.v 46)), (.prop 47))]), (.p [((.b (.v 44)), (.prop 45))]), (.p [((.a 30), (.prop 43))])]
            (.need (.o1 (.inr .i64) (.o2 .add (.o2 .add (.o2 (.bit .and .i64) (.v 0) (.i 3)) (.i 1)) (.i 2)))
            (.br (.o2 .lt (.v 48) (.o2 .add (.o2 .add (.o2 (.bit .and .i64) (.v 0) (.i 3)) (.i 1)) (.i 2)))
             (.call 51 [(.a (.ptr (.v 46) 0)), (.a (.sl (.v 30) (.v 31) (.v 32)))] [((.b (.v 46)), (.prop 49)), ((.a 30), (.prop 51))] [.c, .p, .p] (.w (.a (.bool (.v 52)))) [((.b (.v 46)), (.prop 53)), ((.a 30), (.prop 54))]
             (.br (.v 52)
              (.need (.o1 (.inr .i64) (.o2 .add (.v 48) (.i 1)))
              (.again 0 [(.e (.o1 .neg (.o1 .neg (.o2 .add (.v 48) (.i 1))))), (.p [((.b (.v 46)), (.prop 53))]), (.p [((.b (.v 44)), (.prop 50))]), (.p [((.a 30), (.prop 54))])]))
              (.call 52 [(.a (.ptr (.v 46) 0))] [((.b (.v 46)), (.prop 53))] [.i] (.w (.a (.int .i64 (.v 55)))) [((.b (.v 46)), (.prop 53))]
              (.br (.o1 .not (.o2 .eq (.v 55) (.i 2)))
               (.ret (.w (.a (.bool (.c false)))) [((.a 1), (.prop 4)), ((.a 14), (.prop 17)), ((.a 20), (.prop 23))])
               (.call 53 [(.a (.ptr (.v 46) 0))] [((.b (.v 46)), (.prop 53))] [.i, .a, .n, .n, .p] (.w (.agg [(.int .i64 (.v 56)), (.sl (.v 57) (.v 58) (.v 59))])) [((.a 57), (.prop 60)), ((.b (.v 46)), (.prop 53))]
               (.call 21 [(.agg [(.int .i64 (.v 56)), (.sl (.v 57) (.v 58) (.v 59))]), (.agg [(.int .i64 (.i 1)), (.sl (.v 1) (.v 2) (.v 3))])] [((.a 57), (.prop 60)), ((.a 1), (.prop 4))] [.c] (.w (.a (.bool (.v 61)))) [((.a 57), (.prop 60)), ((.a 1), (.prop 4))]
               (.br (.o1 .not (.v 61))
                (.ret (.w (.a (.bool (.c false)))) [((.a 1), (.prop 4)), ((.a 14), (.prop 17)), ((.a 20), (.prop 23))])
                (.call 55 [(.a (.ptr (.v 46) 0)), (.agg [(.int .i64 (.v 6)), (.int .i64 (.v 7)), (.int .i64 (.v 8)), (.bool (.v 9)), (.int .i64 (.v 10)), (.int .i64 (.v 11)), (.int .i64 (.v 12)), (.int .i64 (.v 13)), (.sl (.v 14) (.v 15) (.v 16)), (.int .i64 (.v 18)), (.int .i64 (.v 19)), (.sl (.v 20) (.v 21) (.v 22)), (.int .i64 (.v 24)), (.int .i64 (.v 25)), (.int .i64 (.v 26)), (.int .i64 (.v 27))])] [((.b (.v 46)), (.prop 53)), ((.a 14), (.prop 17)), ((.a 20), (.prop 23))] [.p] (.tup []) [((.b (.v 46)), (.prop 62)), ((.a 14), (.prop 17)), ((.a 20), (.prop 23))]
                (.call 52 [(.a (.ptr (.v 46) 0))] [((.b (.v 46)), (.prop 62))] [.i] (.w (.a (.int .i64 (.v 63)))) [((.b (.v 46)), (.prop 62))]
                (.br (.o1 .not (.o2 .eq (.v 63) (.i 2)))
                 (.ret (.w (.a (.bool (.c false)))) [((.a 1), (.prop 4)), ((.a 14), (.prop 17)), ((.a 20), (.prop 23))])
                 (.call 53 [(.a (.ptr (.v 46) 0))] [((.b (.v 46)), (.prop 62))] [.i, .a, .n, .n, .p] (.w (.agg [(.int .i64 (.v 64)), (.sl (.v 65) (.v 66) (.v 67))])) [((.a 65), (.prop 68)), ((.b (.v 46)), (.prop 62))]
                 (.call 21 [(.agg [(.int .i64 (.v 64)), (.sl (.v 65) (.v 66) (.v 67))]), (.agg [(.int .i64 (.i 1)), (.sl (.v 1) (.v 2) (.v 3))])] [((.a 65), (.prop 68)), ((.a 1), (.prop 4))] [.c] (.w (.a (.bool (.v 69)))) [((.a 65), (.prop 68)), ((.a 1), (.prop 4))]
                 (.br (.o1 .not (.v 69))
                  (.ret (.w (.a (.bool (.c false)))) [((.a 1), (.prop 4)), ((.a 14), (.prop 17)), ((.a 20), (.prop 23))])
                  (.call 56 [(.a (.ptr (.v 46) 0))] [((.b (.v 46)), (.prop 62))] [.i] (.w (.a (.int .i64 (.v 70)))) [((.b (.v 46)), (.prop 62))]
                  (.br (.o1 .not (.o2 .eq (.v 70) (.i 0)))
                   (.ret (.w (.a (.bool (.c false)))) [((.a 1), (.prop 4)), ((.a 14), (.prop 17)), ((.a 20), (.prop 23))])
                   (.need (.o1 (.inr .i64) (.o2 .add (.v 42) (.i 1)))
                   (.again 1 [(.e (.o1 .not (.o1 .not (.v 41)))), (.e (.o1 .neg (.o1 .neg (.o2 .add (.v 42) (.i 1))))), (.p [((.a 30), (.prop 54))])])))))))))))))))))
             (.call 52 [(.a (.ptr (.v 46) 0))] [((.b (.v 46)), (.prop 49))] [.i] (.w (.a (.int .i64 (.v 52)))) [((.b (.v 46)), (.prop 49))]
             (.br (.o1 .not (.o2 .eq (.v 52) (.i 2)))
              (.ret (.w (.a (.bool (.c false)))) [((.a 1), (.prop 4)), ((.a 14), (.prop 17)), ((.a 20), (.prop 23))])
              (.call 53 [(.a (.ptr (.v 46) 0))] [((.b (.v 46)), (.prop 49))] [.i, .a, .n, .n, .p] (.w (.agg [(.int .i64 (.v 53)), (.sl (.v 54) (.v 55) (.v 56))])) [((.a 54), (.prop 57)), ((.b (.v 46)), (.prop 49))]
              (.call 21 [(.agg [(.int .i64 (.v 53)), (.sl (.v 54) (.v 55) (.v 56))]), (.agg [(.int .i64 (.i 1)), (.sl (.v 1) (.v 2) (.v 3))])] [((.a 54), (.prop 57)), ((.a 1), (.prop 4))] [.c] (.w (.a (.bool (.v 58)))) [((.a 54), (.prop 57)), ((.a 1), (.prop 4))]
              (.br (.o1 .not (.v 58))
               (.ret (.w (.a (.bool (.c false)))) [((.a 1), (.prop 4)), ((.a 14), (.prop 17)), ((.a 20), (.prop 23))])
               (.call 55 [(.a (.ptr (.v 46) 0)), (.agg [(.int .i64 (.v 6)), (.int .i64 (.v 7)), (.int .i64 (.v 8)), (.bool (.v 9)), (.int .i64 (.v 10)), (.int .i64 (.v 11)), (.int .i64 (.v 12)), (.int .i64 (.v 13)), (.sl (.v 14) (.v 15) (.v 16)), (.int .i64 (.v 18)), (.int .i64 (.v 19)), (.sl (.v 20) (.v 21) (.v 22)), (.int .i64 (.v 24)), (.int .i64 (.v 25)), (.int .i64 (.v 26)), (.int .i64 (.v 27))])] [((.b (.v 46)), (.prop 49)), ((.a 14), (.prop 17)), ((.a 20), (.prop 23))] [.p] (.tup []) [((.b (.v 46)), (.prop 59)), ((.a 14), (.prop 17)), ((.a 20), (.prop 23))]
               (.call 52 [(.a (.ptr (.v 46) 0))] [((.b (.v 46)), (.prop 59))] [.i] (.w (.a (.int .i64 (.v 60)))) [((.b (.v 46)), (.prop 59))]
               (.br (.o1 .not (.o2 .eq (.v 60) (.i 2)))
                (.ret (.w (.a (.bool (.c false)))) [((.a 1), (.prop 4)), ((.a 14), (.prop 17)), ((.a 20), (.prop 23))])
                (.call 53 [(.a (.ptr (.v 46) 0))] [((.b (.v 46)), (.prop 59))] [.i, .a, .n, .n, .p] (.w (.agg [(.int .i64 (.v 61)), (.sl (.v 62) (.v 63) (.v 64))])) [((.a 62), (.prop 65)), ((.b (.v 46)), (.prop 59))]
                (.call 21 [(.agg [(.int .i64 (.v 61)), (.sl (.v 62) (.v 63) (.v 64))]), (.agg [(.int .i64 (.i 1)), (.sl (.v 1) (.v 2) (.v 3))])] [((.a 62), (.prop 65)), ((.a 1), (.prop 4))] [.c] (.w (.a (.bool (.v 66)))) [((.a 62), (.prop 65)), ((.a 1), (.prop 4))]
                (.br (.o1 .not (.v 66))
                 (.ret (.w (.a (.bool (.c false)))) [((.a 1), (.prop 4)), ((.a 14), (.prop 17)), ((.a 20), (.prop 23))])
                 (.call 56 [(.a (.ptr (.v 46) 0))] [((.b (.v 46)), (.prop 59))] [.i] (.w (.a (.int .i64 (.v 67)))) [((.b (.v 46)), (.prop 59))]
                 (.br (.o1 .not (.o2 .eq (.v 67) (.i 0)))
                  (.ret (.w (.a (.bool (.c false)))) [((.a 1), (.prop 4)), ((.a 14), (.prop 17)), ((.a 20), (.prop 23))])
                  (.need (.o1 (.inr .i64) (.o2 .add (.v 42) (.i 1)))
                  (.again 1 [(.e (.o1 .not (.o1 .not (.v 41)))), (.e (.o1 .neg (.o1 .neg (.o2 .add (.v 42) (.i 1))))), (.p [((.a 30), (.prop 51))])])))))))))))))))))))
           (.loop [.i, .p, .p] [(.e (.o1 .neg (.o1 .neg (.i 0)))), (.p [((.b (.v 44)), (.prop 45))]), (.p [((.a 30), (.prop 43))])]
            (.need (.o1 (.inr .i64) (.o2 .add (.o2 .add (.o2 (.bit .and .i64) (.v 0) (.i 3)) (.i 1)) (.i 2)))
            (.br (.o2 .lt (.v 46) (.o2 .add (.o2 .add (.o2 (.bit .and .i64) (.v 0) (.i 3)) (.i 1)) (.i 2)))
             (.call 51 [(.a (.ptr (.v 44) 0)), (.a (.sl (.v 30) (.v 31) (.v 32)))] [((.b (.v 44)), (.prop 47)), ((.a 30), (.prop 48))] [.c, .p, .p] (.w (.a (.bool (.v 49)))) [((.b (.v 44)), (.prop 50)), ((.a 30), (.prop 51))]
             (.br (.v 49)
              (.need (.o1 (.inr .i64) (.o2 .add (.v 46) (.i 1)))
              (.again 0 [(.e (.o1 .neg (.o1 .neg (.o2 .add (.v 46) (.i 1))))), (.p [((.b (.v 44)), (.prop 50))]), (.p [((.a 30), (.prop 51))])]))
              (.call 52 [(.a (.ptr (.v 44) 0))] [((.b (.v 44)), (.prop 50))] [.i] (.w (.a (.int .i64 (.v 52)))) [((.b (.v 44)), (.prop 50))]
              (.br (.o1 .not (.o2 .eq (.v 52) (.i 2)))
               (.ret (.w (.a (.bool (.c false)))) [((.a 1), (.prop 4)), ((.a 14), (.prop 17)), ((.a 20), (.prop 23))])
               (.call 53 [(.a (.ptr (.v 44) 0))] [((.b (.v 44)), (.prop 50))] [.i, .a, .n, .n, .p] (.w (.agg [(.int .i64 (.v 53)), (.sl (.v 54) (.v 55) (.v 56))])) [((.a 54), (.prop 57)), ((.b (.v 44)), (.prop 50))]
               (.call 21 [(.agg [(.int .i64 (.v 53)), (.sl (.v 54) (.v 55) (.v 56))]), (.agg [(.int .i64 (.i 1)), (.sl (.v 1) (.v 2) (.v 3))])] [((.a 54), (.prop 57)), ((.a 1), (.prop 4))] [.c] (.w (.a (.bool (.v 58)))) [((.a 54), (.prop 57)), ((.a 1), (.prop 4))]
               (.br (.o1 .not (.v 58))
                (.ret (.w (.a (.bool (.c false)))) [((.a 1), (.prop 4)), ((.a 14), (.prop 17)), ((.a 20), (.prop 23))])
                (.call 55 [(.a (.ptr (.v 44) 0)), (.agg [(.int .i64 (.v 6)), (.int .i64 (.v 7)), (.int .i64 (.v 8)), (.bool (.v 9)), (.int .i64 (.v 10)), (.int .i64 (.v 11)), (.int .i64 (.v 12)), (.int .i64 (.v 13)), (.sl (.v 14) (.v 15) (.v 16)), (.int .i64 (.v 18)), (.int .i64 (.v 19)), (.sl (.v 20) (.v 21) (.v 22)), (.int .i64 (.v 24)), (.int .i64 (.v 25)), (.int .i64 (.v 26)), (.int .i64 (.v 27))])] [((.b (.v 44)), (.prop 50)), ((.a 14), (.prop 17)), ((.a 20), (.prop 23))] [.p] (.tup []) [((.b (.v 44)), (.prop 59)), ((.a 14), (.prop 17)), ((.a 20), (.prop 23))]
                (.call 52 [(.a (.ptr (.v 44) 0))] [((.b (.v 44)), (.prop 59))] [.i] (.w (.a (.int .i64 (.v 60)))) [((.b (.v 44)), (.prop 59))]
                (.br (.o1 .not (.o2 .eq (.v 60) (.i 2)))
                 (.ret (.w (.a (.bool (.c false)))) [((.a 1), (.prop 4)), ((.a 14), (.prop 17)), ((.a 20), (.prop 23))])
                 (.call 53 [(.a (.ptr (.v 44) 0))] [((.b (.v 44)), (.prop 59))] [.i, .a, .n, .n, .p] (.w (.agg [(.int .i64 (.v 61)), (.sl (.v 62) (.v 63) (.v 64))])) [((.a 62), (.prop 65)), ((.b (.v 44)), (.prop 59))]
                 (.call 21 [(.agg [(.int .i64 (.v 61)), (.sl (.v 62) (.v 63) (.v 64))]), (.agg [(.int .i64 (.i 1)), (.sl (.v 1) (.v 2) (.v 3))])] [((.a 62), (.prop 65)), ((.a 1), (.prop 4))] [.c] (.w (.a (.bool (.v 66)))) [((.a 62), (.prop 65)), ((.a 1), (.prop 4))]
                 (.br (.o1 .not (.v 66))
                  (.ret (.w (.a (.bool (.c false)))) [((.a 1), (.prop 4)), ((.a 14), (.prop 17)), ((.a 20), (.prop 23))])
                  (.call 56 [(.a (.ptr (.v 44) 0))] [((.b (.v 44)), (.prop 59))] [.i] (.w (.a (.int .i64 (.v 67)))) [((.b (.v 44)), (.prop 59))]
                  (.br (.o1 .not (.o2 .eq (.v 67) (.i 0)))
                   (.ret (.w (.a (.bool (.c false)))) [((.a 1), (.prop 4)), ((.a 14), (.prop 17)), ((.a 20), (.prop 23))])
                   (.need (.o1 (.inr .i64) (.o2 .add (.v 42) (.i 1)))
                   (.again 1 [(.e (.o1 .not (.o1 .not (.v 41)))), (.e (.o1 .neg (.o1 .neg (.o2 .add (.v 42) (.i 1))))), (.p [((.a 30), (.prop 51))])])))))))))))))))))
             (.call 52 [(.a (.ptr (.v 44) 0))] [((.b (.v 44)), (.prop 47))] [.i] (.w (.a (.int .i64 (.v 49)))) [((.b (.v 44)), (.prop 47))]
             (.br (.o1 .not (.o2 .eq (.v 49) (.i 2)))
              (.ret (.w (.a (.bool (.c false)))) [((.a 1), (.prop 4)), ((.a 14), (.prop 17)), ((.a 20), (.prop 23))])
              (.call 53 [(.a (.ptr (.v 44) 0))] [((.b (.v 44)), (.prop 47))] [.i, .a, .n, .n, .p] (.w (.agg [(.int .i64 (.v 50)), (.sl (.v 51) (.v 52) (.v 53))])) [((.a 51), (.prop 54)), ((.b (.v 44)), (.prop 47))]
              (.call 21 [(.agg [(.int .i64 (.v 50)), (.sl (.v 51) (.v 52) (.v 53))]), (.agg [(.int .i64 (.i 1)), (.sl (.v 1) (.v 2) (.v 3))])] [((.a 51), (.prop 54)), ((.a 1), (.prop 4))] [.c] (.w (.a (.bool (.v 55)))) [((.a 51), (.prop 54)), ((.a 1), (.prop 4))]
              (.br (.o1 .not (.v 55))
               (.ret (.w (.a (.bool (.c false)))) [((.a 1), (.prop 4)), ((.a 14), (.prop 17)), ((.a 20), (.prop 23))])
               (.call 55 [(.a (.ptr (.v 44) 0)), (.agg [(.int .i64 (.v 6)), (.int .i64 (.v 7)), (.int .i64 (.v 8)), (.bool (.v 9)), (.int .i64 (.v 10)), (.int .i64 (.v 11)), (.int .i64 (.v 12)), (.int .i64 (.v 13)), (.sl (.v 14) (.v 15) (.v 16)), (.int .i64 (.v 18)), (.int .i64 (.v 19)), (.sl (.v 20) (.v 21) (.v 22)), (.int .i64 (.v 24)), (.int .i64 (.v 25)), (.int .i64 (.v 26)), (.int .i64 (.v 27))])] [((.b (.v 44)), (.prop 47)), ((.a 14), (.prop 17)), ((.a 20), (.prop 23))] [.p] (.tup []) [((.b (.v 44)), (.prop 56)), ((.a 14), (.prop 17)), ((.a 20), (.prop 23))]
               (.call 52 [(.a (.ptr (.v 44) 0))] [((.b (.v 44)), (.prop 56))] [.i] (.w (.a (.int .i64 (.v 57)))) [((.b (.v 44)), (.prop 56))]
               (.br (.o1 .not (.o2 .eq (.v 57) (.i 2)))
                (.ret (.w (.a (.bool (.c false)))) [((.a 1), (.prop 4)), ((.a 14), (.prop 17)), ((.a 20), (.prop 23))])
                (.call 53 [(.a (.ptr (.v 44) 0))] [((.b (.v 44)), (.prop 56))] [.i, .a, .n, .n, .p] (.w (.agg [(.int .i64 (.v 58)), (.sl (.v 59) (.v 60) (.v 61))])) [((.a 59), (.prop 62)), ((.b (.v 44)), (.prop 56))]
                (.call 21 [(.agg [(.int .i64 (.v 58)), (.sl (.v 59) (.v 60) (.v 61))]), (.agg [(.int .i64 (.i 1)), (.sl (.v 1) (.v 2) (.v 3))])] [((.a 59), (.prop 62)), ((.a 1), (.prop 4))] [.c] (.w (.a (.bool (.v 63)))) [((.a 59), (.prop 62)), ((.a 1), (.prop 4))]
                (.br (.o1 .not (.v 63))
                 (.ret (.w (.a (.bool (.c false)))) [((.a 1), (.prop 4)), ((.a 14), (.prop 17)), ((.a 20), (.prop 23))])
                 (.call 56 [(.a (.ptr (.v 44) 0))] [((.b (.v 44)), (.prop 56))] [.i] (.w (.a (.int .i64 (.v 64)))) [((.b (.v 44)), (.prop 56))]
                 (.br (.o1 .not (.o2 .eq (.v 64) (.i 0)))
                  (.ret (.w (.a (.bool (.c false)))) [((.a 1), (.prop 4)), ((.a 14), (.prop 17)), ((.a 20), (.prop 23))])
                  (.need (.o1 (.inr .i64) (.o2 .add (.v 42) (.i 1)))
                  (.again 1 [(.e (.o1 .not (.o1 .not (.v 41)))), (.e (.o1 .neg (.o1 .neg (.o2 .add (.v 42) (.i 1))))), (.p [((.a 30), (.prop 48))])]))))))))))))))))))))
          (.ret (.w (.a (.bool (.c true)))) [((.a 1), (.prop 4)), ((.a 14), (.prop 17)), ((.a 20), (.prop 23))])))))))))))))))))
theorem tree_chainAgain : tree Try.prog { absT := [], opq := [], hv := [(0, [(.b (.v 34))]), (2, [(.a 30)]), (4, [(.b (.v 46)), (.a 30), (.b (.v 44))])], keep := [52, 54, 53, 56, 92, 21, 50, 49], link := [(17, 0)], ent := [], turn := [(45, [0]), (55, [0])], shr := [], vt := [], mkd := [], rlink := [], pty := [], outl := true, stay := [], snk := [] } Try.f12 [(.a (.int .i64 (.v 0))), (.a (.sl (.v 1) (.v 2) (.v 3))), (.a (.int .i64 (.v 5))), (.agg [(.int .i64 (.v 6)), (.int .i64 (.v 7)), (.int .i64 (.v 8)), (.bool (.v 9)), (.int .i64 (.v 10)), (.int .i64 (.v 11)), (.int .i64 (.v 12)), (.int .i64 (.v 13)), (.sl (.v 14) (.v 15) (.v 16)), (.int .i64 (.v 18)), (.int .i64 (.v 19)), (.sl (.v 20) (.v 21) (.v 22)), (.int .i64 (.v 24)), (.int .i64 (.v 25)), (.int .i64 (.v 26)), (.int .i64 (.v 27))])] [((.a 1), (.prop 4)), ((.a 14), (.prop 17)), ((.a 20), (.prop 23))] 28 = t_chainAgain := by kernel_rfl
end Go.Proofs.Ytmibmjehjagmbaa.RX

/- ChainAgain, over what came in as assertions. No condition. -/
namespace Go.Proofs.Ytmibmjehjagmbaa
set_option linter.unusedSimpArgs false
set_option linter.unusedVariables false
open Go.Proofs.Ytmibmjehjagmbaa RX

theorem Rd.ent {A B : HP} {a : Option Addr} {xs : List Value} (e : HP.ent A B) (r : Rd B a xs) : Rd A a xs := fun w R h F s H => by
  obtain ⟨R', h', q1, q2, q3, q4, b⟩ := e R h s.dRh H
  exact r w R' h' F (s.ent q2 q3 q4) b
/-- The first numbers. -/
def upI (n : Nat) : List Int := (List.range n).map fun i : Nat => (i : Int)
theorem upI_len (n : Nat) : (upI n).length = n := by simp [upI]
theorem upI_succ (n : Nat) : upI n ++ [(n : Int)] = upI (n + 1) := by simp [upI, List.range_succ]
/-- What holds the numbers of a chain's units. -/
structure ChI (P : HP) (a : Option Addr) (n c : Nat) : Prop where
  ent : HP.ent P (OwI a n c (upI n))
theorem ChI.rd {P : HP} {a : Option Addr} {n c : Nat} (h : ChI P a n c) (hn : n ≠ 0) (ha : a.isSome = true) : RdL P a n ((upI n).map i64v) :=
  ⟨Rd.ent h.ent (OwC.rd _ _ _ _ _ _), fun R x _ e => absurd (by rw [e] at ha; cases ha) id⟩
theorem ChI.zero (x : Nat) : ChI (HP.one x (.cells #[] 3 (0, 0))) (some ⟨x, 0, none⟩) 0 0 :=
  ⟨.of fun R h H => ⟨rfl, .inr ⟨x, #[], rfl, H, Nat.le_refl _, by unfold maxLen; omega, rfl, rfl⟩⟩⟩
theorem ChI.own (a : Option Addr) (n c : Nat) : ChI (OwI a n c (upI n)) a n c := ⟨.refl _⟩
theorem ChI.app {P : HP} {a : Option Addr} {n c y : Nat} (h : ChI P a n c) (hn : n ≤ 1000) :
    OTri Try.prog (appS 86 86 (.slice a n c) (.slice (some ⟨y, 0, none⟩) 1 1)) (HP.sep P (HP.one y (.cells #[.int .i64 n] 3 (0, 0))))
      (fun v => HP.ex fun a' => HP.ex fun c' => HP.and (v = .slice a' (n + 1) c' ∧ a'.isSome = true) (HP.sep (OwI a' (n + 1) c' (upI (n + 1))) (HP.one y (.cells #[.int .i64 n] 3 (0, 0))))) := by
  refine (appendI a n c (upI n) (HP.one y (.cells #[.int .i64 n] 3 (0, 0))) ⟨y, 0, none⟩ 1 1 [(n : Int)] (one_rd y _ _) rfl (by omega)).conseq (K := HP.tt) ((h.ent.sep _).trans (.of fun R h H => HP.sep_tt H)) fun v => .of fun R h H => ?_
  obtain ⟨a', c', rfl, H2⟩ := HP.sep_left H
  rw [upI_succ] at H2
  exact ⟨a', c', ⟨rfl, OwC.some (HP.sep_left H2) (by omega)⟩, H2⟩
set_option maxRecDepth 100000 in
set_option maxHeartbeats 2000000 in
theorem chainAgain_ok (size : Int) (da : Option Addr) (dc : Nat) (data : List UInt8) (at' : Int) (m : MS) (ca : Option Addr) (cc : Nat) (va : Option Addr) (vc : Nat) :
    Tri Try.prog 12 #[.int .i64 size, .slice da data.length dc, .int .i64 at', .agg (m.raw ca cc va vc).vals] (HP.sep (RoB da data.length data) (HP.sep (m.Dro ca) (m.Vro va))) (fun v => HP.pure (v = .bool true)) := by
  refine tri_of_tree (ρ := [.i size, .a da, .n data.length, .n dc, .p (RoB da data.length data), .i at'] ++ mRho m ca cc va vc) mixed Try.func12 tree_chainAgain ?_
  unfold t_chainAgain mRho
  simp only [T.den, E.prop, E.den, RX.look, F1.app, F2.app, Uni.int_i, Uni.nat_n, Uni.bool_c, Uni.str_s, Uni.adr_a, Uni.val_v, Uni.hp_p, hden, cden, V.den, W.den, A.den, BR.den, SA.den, FV.den, capV, exs, exP, allP, Cur.app, List.map_cons, List.map_nil, List.cons_append, List.nil_append, List.drop_succ_cons, List.drop_zero, List.length_cons, List.length_nil, Nat.zero_add, Nat.reduceAdd, Int.neg_neg, Bool.not_not, List.append_nil, Nat.add_zero, List.getElem?_cons_zero, List.getElem?_cons_succ, Decidable.not_not, and3]
  intro _
  refine speaks17_ok.weak (fun _ _ _ => trivial) ?_
  rintro v R h rfl
  refine ⟨true, rfl, ⟨fun h => absurd rfl h, fun _ => ⟨fun _ => .of fun R h H => trivial, fun hd => ⟨fun _ => .of fun R h H => trivial, fun hm => ⟨fun _ => .of fun R h H => trivial, fun hat0 => ⟨fun _ => .of fun R h H => trivial, fun hat1 => ?_⟩⟩⟩⟩⟩, trivial⟩
  obtain ⟨n, hn⟩ : ∃ n : Nat, size % 4 + 1 = n := ⟨_, (Int.toNat_of_nonneg (by omega)).symm⟩
  have hn1 : 1 ≤ n := by omega
  have hn4 : n ≤ 4 := by omega
  simp only [hn]
  refine ⟨inI64 _ (by omega) (by omega), fun _ => ?_⟩
  refine (laid17_ok n (by omega)).weak (fun _ _ _ => trivial) ?_
  rintro v R h ⟨a, c, l0, ⟨rfl, hl0⟩, H⟩
  have hlen0 : l0.length = n := H.1
  have hasome : a.isSome = true := OwC.some (HP.sep_left H.2) (by omega)
  refine ⟨a, n, c, UnL a n c l0, rfl, ⟨fun h => absurd hasome h, fun _ y => ?_⟩, H⟩
  clear H
  refine ⟨fun ia len cap i P => ∃ k : Nat, i = k ∧ k ≤ n ∧ len = k ∧ ia.isSome = true ∧ ChI P ia k cap, fun _ _ _ i _ => n - i.toNat, ⟨0, rfl, Nat.zero_le _, rfl, rfl, ChI.zero y⟩, ?_⟩
  rintro ia k cap _ P ⟨_, rfl, hk, rfl, hia, hP⟩
  refine ⟨fun hlt z => ?_, fun hge z => ?_⟩
  · rw [semOf_append (by decide)]
    simp only [T.den, E.prop, E.den, RX.look, F1.app, F2.app, Uni.int_i, Uni.nat_n, Uni.bool_c, Uni.str_s, Uni.adr_a, Uni.val_v, Uni.hp_p, hden, cden, V.den, W.den, A.den, BR.den, SA.den, FV.den, capV, exs, exP, allP, Cur.app, List.map_cons, List.map_nil, List.cons_append, List.nil_append, List.drop_succ_cons, List.drop_zero, List.length_cons, List.length_nil, Nat.zero_add, Nat.reduceAdd, Int.neg_neg, Bool.not_not, List.append_nil, Nat.add_zero, List.getElem?_cons_zero, List.getElem?_cons_succ, Decidable.not_not]
    refine (hP.app (by omega)).weak (fun _ _ h => h) ?_
    rintro v R h ⟨a', c', ⟨rfl, ha'⟩, H⟩
    exact ⟨a', k + 1, c', OwI a' (k + 1) c' (upI (k + 1)), rfl, ⟨inI64 _ (by omega) (by omega), fun _ => ⟨⟨k + 1, by omega, by omega, rfl, ha', ChI.own _ _ _⟩, by omega⟩⟩, H⟩
  obtain rfl : k = n := by omega
  have rI := hP.rd (by omega) hia
  have addr : addrOk at' = true := by simp [addrOk]; omega
  let x : CellS := ⟨1, data⟩
  have hsx : standB x.what x.data.length = true := by simp [standB, x]; omega
  refine ⟨fun _ i Q => ∃ (j : Nat) (l : List UR), i = j ∧ j ≤ 3 ∧ Q = UnL a k c l ∧ l.length = k ∧ UnitsOk l (5 * j) ∧ OnlyC l at' x ∧ (j ≠ 0 → stands l (k - 1) at' x), fun _ i _ => 3 - i.toNat,
    ⟨0, l0, rfl, by omega, rfl, hlen0, new_ok hl0, fun q y ⟨u, hu, hc⟩ => ?_, fun h => absurd rfl h⟩, ?_⟩
  · have := (hl0 u (List.mem_of_getElem? hu)).1
    rw [this] at hc; cases hc
  rintro _ _ _ ⟨j, l, rfl, hj, rfl, hlen, hU, hOnly, hSt⟩
  refine ⟨fun hj3 => ?_, fun _ => .of fun R h H => trivial⟩
  have again : ∀ (l' : List UR), l'.length = k → UnitsOk l' (5 * j + 5) → OnlyC l' at' x → stands l' (k - 1) at' x → ∃ (j' : Nat) (l'' : List UR), (j : Int) + 1 = j' ∧ j' ≤ 3 ∧ UnL a k c l' = UnL a k c l'' ∧ l''.length = k ∧ UnitsOk l'' (5 * j') ∧ OnlyC l'' at' x ∧ (j' ≠ 0 → stands l'' (k - 1) at' x) :=
    fun l' h1 h2 h3 h4 => ⟨j + 1, l', by omega, by omega, rfl, h1, by rw [show 5 * (j + 1) = 5 * j + 5 by omega]; exact h2, h3, fun _ => h4⟩
  have meas : 3 - ((j : Int) + 1).toNat < 3 - (j : Int).toNat := by omega
  have inJ : IntKind.i64.min ≤ (j : Int) + 1 ∧ (j : Int) + 1 ≤ IntKind.i64.max := inI64 _ (by omega) (by omega)
  -- so many asks of an Op
  have asks : ∀ (o : OpS) (mm : Nat), OpOk k l o → mm ≤ k → EndsC o l x mm → o.at' = at' → ∀ (q : Nat), q ≤ mm → (q < mm → (askS (itC o l q).1 (itC o l q).2).1 = true) ∧ (q = mm → (askS (itC o l q).1 (itC o l q).2) = (false, itC o l q)) := fun o mm hO hmm hE _ q hq => by
    obtain ⟨b1, b2, b3, b4⟩ := itC_ok hlen hn1 hU hO q (by omega)
    obtain ⟨_, _, _, _, b5, b6⟩ := ask_any b1 hn1 b2 (by omega) b3
    refine ⟨fun h => b5.2 (hE.1 q h), fun h => ?_⟩
    subst h
    exact b6 (by rw [hE.2.1]; decide)
  have place : ∀ (o : OpS), OpOk k l o → ∀ q, q ≤ 5 → (itC o l q).1.state = 1 → 0 ≤ (itC o l q).1.place ∧ (itC o l q).1.place < (itC o l q).1.us.length := fun o hO q hq h1 => by
    obtain ⟨b1, b2, b3, b4⟩ := itC_ok hlen hn1 hU hO q (by omega)
    have := b3.place hn1 h1
    rw [b3.us]; simpa using this
  have uslen : ∀ (o : OpS), OpOk k l o → ∀ q, q ≤ 5 → (itC o l q).1.us.length ≤ 1000 := fun o hO q hq => by
    obtain ⟨b1, b2, b3, b4⟩ := itC_ok hlen hn1 hU hO q (by omega)
    rw [b3.us]; simp; omega
  -- what an Op that has ended is
  have ended : ∀ (o : OpS) (mm : Nat), OpOk k l o → mm ≤ k → EndsC o l x mm → o.at' = at' → ∃ (o2 : OpS) (l2 : List UR), itC o l mm = (o2, l2) ∧ o2.state = 2 ∧ doneC o2 = x ∧ o2.low = 0 ∧ toldC o2 m = o2 ∧ (0 ≤ o2.place ∧ o2.place ≤ 1000000000) ∧ l2.length = k ∧ UnitsOk l2 (5 * j + 5) ∧ OnlyC l2 at' x ∧ stands l2 (k - 1) at' x := fun o mm hO hmm hE ha => by
    obtain ⟨b1, b2, b3, b4⟩ := itC_ok hlen hn1 hU hO mm (by omega)
    obtain ⟨c1, c2, c3, c4, c5, c6⟩ := hE
    have hol : o.us.length = k := by rw [hO.us]; simp
    have hat : ∀ q, q ≤ 5 → (itC o l q).1.at' = o.at' := fun q => by
      induction q with
      | zero => exact fun _ => rfl
      | succ q ih =>
        intro hq
        obtain ⟨d1, d2, d3, d4⟩ := itC_ok hlen hn1 hU hO q (by omega)
        exact (ask_any d1 hn1 d2 (by omega) d3).2.2.2.1.trans (ih (by omega))
    have more : ∀ d, UnitsOk (itC o l mm).2 (5 * j + mm + d) := fun d => by
      induction d with
      | zero => exact b2
      | succ d ih => exact ih.more
    refine ⟨_, _, rfl, c2, by unfold doneC; rw [if_pos c2]; exact c3, b3.low, by unfold toldC; rw [if_pos (by rw [c2]; decide)], ⟨c5, by omega⟩, b1, ?_, by rw [← ha]; exact c4, ?_⟩
    · have := more (5 - mm)
      rw [show 5 * j + mm + (5 - mm) = 5 * j + 5 by omega] at this
      exact this
    · have := b3.done c2
      rw [hat mm (by omega), ha, c3] at this
      exact this
  refine (cAppend_ok at' ia k cap (upI k) P rI (upI_len k) (by omega) 1 da _ dc data (RoB da data.length data) (RdL.ro _ _ _ _) rfl (by omega)).weak (fun _ _ h => h) ?_
  rintro v R h ⟨b, rfl, H⟩
  have hOA : OpOk k l { beginC at' (upI k) with cell := x } := appendC_ok hn1 addr hsx rfl
  generalize hoA : ({ beginC at' (upI k) with cell := ⟨1, data⟩ } : OpS) = oA at *
  have hoA' : oA = { beginC at' (upI k) with cell := x } := hoA.symm
  have atA : oA.at' = at' := by rw [hoA']; rfl
  have sA : oA.state = 1 := by rw [hoA']; show (if (upI k).length = 0 then (3 : Int) else 1) = 1; rw [upI_len, if_neg (by omega)]
  have eA : EndsC oA l x k := append_ends hn1 k (5 * j) l oA hlen hU (by omega) hOA sA (by rw [hoA']; rfl) (by rw [hoA']) (by rw [atA]; exact hOnly) (by rw [hoA']; show (0 : Int) + k = k; omega)
  refine ⟨b, ORep b oA, rfl, ⟨fun hj2 => ?_, fun hj2 => ?_⟩, HP.pick [_, _, _] [2, 0, 1] (by decide) rfl H⟩
  · clear H
    refine (cResolve_ok at' ia k cap (upI k) P rI (upI_len k) (by omega)).weak (fun _ _ h => h) ?_
    rintro v R h ⟨b', rfl, H⟩
    have hOR : OpOk k l { beginC at' (upI k) with step := 1, place := ((upI k).length : Int) - 1 } := resolveC_ok hn1 addr rfl
    rw [upI_len] at hOR
    generalize hoR : ({ beginC at' (upI k) with step := 1, place := (k : Int) - 1 } : OpS) = oR at *
    have atR : oR.at' = at' := by rw [← hoR]; rfl
    have sR : oR.state = 1 := by rw [← hoR]; show (if (upI k).length = 0 then (3 : Int) else 1) = 1; rw [upI_len, if_neg (by omega)]
    have eR : EndsC oR l x 1 := resolve_ends hlen hn1 hU (by omega) hOR sR (by rw [← hoR]) (by rw [← hoR]) (by rw [atR]; exact hSt (by omega)) (by rw [atR]; exact hOnly)
    refine ⟨b', ORep b' oR, rfl, ?_, HP.sep_comm H⟩
    clear H
    obtain ⟨o2, l2, ei, z1, z2, z3, z4, z5, z6, z7, z8, z9⟩ := ended oR 1 hOR hn1 eR atR
    refine ⟨fun i A _ B => ∃ q : Nat, i = q ∧ q ≤ 1 ∧ A = ORep b' (itC oR l q).1 ∧ B = UnL a k c (itC oR l q).2, fun i _ _ _ => 9 - i.toNat, ⟨0, rfl, by omega, rfl, rfl⟩, ?_⟩
    rintro _ _ _ _ ⟨q, rfl, hq, rfl, rfl⟩
    obtain ⟨w1, w2⟩ := asks oR 1 hOR hn1 eR atR q hq
    refine ⟨inI64 _ (by omega) (by omega), fun _ => ⟨fun hqn => ?_, fun h => absurd h (by omega)⟩⟩
    refine (ask17_ok b' _ a k c _ (place oR hOR q (by omega)) (uslen oR hOR q (by omega))).weak (fun _ _ h => h) ?_
    rintro v R h ⟨rfl, H⟩
    refine ⟨_, ORep b' (itC oR l (q + 1)).1, UnL a k c (itC oR l (q + 1)).2, rfl, ⟨fun hy => ?_, fun hno => ?_⟩, H⟩
    · clear H
      have hq1 : q ≠ 1 := fun e => by rw [w2 e] at hy; cases hy
      exact ⟨inI64 _ (by omega) (by omega), fun _ => ⟨⟨q + 1, by omega, by omega, rfl, rfl⟩, by dsimp only; omega⟩⟩
    · clear H
      have hq1 : q = 1 := by
        rcases Nat.lt_or_ge q 1 with h | h
        · exact absurd (w1 h) hno
        · omega
      have e2 : itC oR l (q + 1) = (o2, l2) := by
        show (askS (itC oR l q).1 (itC oR l q).2).2 = _
        rw [w2 hq1, hq1]
        exact ei
      simp only [e2]
      repeat' (first
        | (refine (cState_ok b' o2).weak (fun _ _ h => h) ?_
           rintro v R h ⟨rfl, H⟩
           refine ⟨_, rfl, ⟨fun h => absurd z1 h, fun _ => ?_⟩, H⟩
           clear H)
        | (refine (cCell_ok b' o2).weak (fun _ _ h => h) ?_
           rintro v R h ⟨ea, ec, rfl, H⟩
           rw [z2] at H ⊢
           refine ⟨_, ea, _, ec, RoB ea _ _, rfl, ?_, H⟩
           clear H)
        | (refine (sameCell_ok 1 ea _ ec data 1 da _ dc data (RoB ea data.length data) (RoB da data.length data) (RdL.ro _ _ _ _) (RdL.ro _ _ _ _) rfl rfl (by omega)).weak (fun _ _ h => h) ?_
           rintro v R h ⟨rfl, H⟩
           refine ⟨true, by simp, ⟨fun h => absurd rfl h, fun _ => ?_⟩, H⟩
           clear H)
        | (refine (cTold_ok b' o2 m ca cc va vc z5 (by omega)).weak (fun _ _ h => h) ?_
           rintro v R h ⟨rfl, H⟩
           rw [z4] at H
           refine ⟨ORep b' o2, rfl, ?_, H⟩
           clear H)
        | (refine (cLow_ok b' o2).weak (fun _ _ h => h) ?_
           rintro v R h ⟨rfl, H⟩
           refine ⟨_, rfl, ⟨fun h => absurd z3 h, fun _ => ⟨inJ, fun _ => ⟨again l2 z6 z7 z8 z9, meas⟩⟩⟩, H⟩)
        | fail)
  · clear H
    obtain ⟨o2, l2, ei, z1, z2, z3, z4, z5, z6, z7, z8, z9⟩ := ended oA k hOA (Nat.le_refl _) eA atA
    refine ⟨fun i A B => ∃ q : Nat, i = q ∧ q ≤ k ∧ A = ORep b (itC oA l q).1 ∧ B = UnL a k c (itC oA l q).2, fun i _ _ => 9 - i.toNat, ⟨0, rfl, by omega, rfl, rfl⟩, ?_⟩
    rintro _ _ _ ⟨q, rfl, hq, rfl, rfl⟩
    obtain ⟨w1, w2⟩ := asks oA k hOA (Nat.le_refl _) eA atA q hq
    refine ⟨inI64 _ (by omega) (by omega), fun _ => ⟨fun hqn => ?_, fun h => absurd h (by omega)⟩⟩
    refine (ask17_ok b _ a k c _ (place oA hOA q (by omega)) (uslen oA hOA q (by omega))).weak (fun _ _ h => h) ?_
    rintro v R h ⟨rfl, H⟩
    refine ⟨_, ORep b (itC oA l (q + 1)).1, UnL a k c (itC oA l (q + 1)).2, rfl, ⟨fun hy => ?_, fun hno => ?_⟩, H⟩
    · clear H
      have hq1 : q ≠ k := fun e => by rw [w2 e] at hy; cases hy
      exact ⟨inI64 _ (by omega) (by omega), fun _ => ⟨⟨q + 1, by omega, by omega, rfl, rfl⟩, by dsimp only; omega⟩⟩
    · clear H
      have hq1 : q = k := by
        rcases Nat.lt_or_ge q k with h | h
        · exact absurd (w1 h) hno
        · omega
      have e2 : itC oA l (q + 1) = (o2, l2) := by
        show (askS (itC oA l q).1 (itC oA l q).2).2 = _
        rw [w2 hq1, hq1]
        exact ei
      simp only [e2]
      repeat' (first
        | (refine (cState_ok b o2).weak (fun _ _ h => h) ?_
           rintro v R h ⟨rfl, H⟩
           refine ⟨_, rfl, ⟨fun h => absurd z1 h, fun _ => ?_⟩, H⟩
           clear H)
        | (refine (cCell_ok b o2).weak (fun _ _ h => h) ?_
           rintro v R h ⟨ea, ec, rfl, H⟩
           rw [z2] at H ⊢
           refine ⟨_, ea, _, ec, RoB ea _ _, rfl, ?_, H⟩
           clear H)
        | (refine (sameCell_ok 1 ea _ ec data 1 da _ dc data (RoB ea data.length data) (RoB da data.length data) (RdL.ro _ _ _ _) (RdL.ro _ _ _ _) rfl rfl (by omega)).weak (fun _ _ h => h) ?_
           rintro v R h ⟨rfl, H⟩
           refine ⟨true, by simp, ⟨fun h => absurd rfl h, fun _ => ?_⟩, H⟩
           clear H)
        | (refine (cTold_ok b o2 m ca cc va vc z5 (by omega)).weak (fun _ _ h => h) ?_
           rintro v R h ⟨rfl, H⟩
           rw [z4] at H
           refine ⟨ORep b o2, rfl, ?_, H⟩
           clear H)
        | (refine (cLow_ok b o2).weak (fun _ _ h => h) ?_
           rintro v R h ⟨rfl, H⟩
           refine ⟨_, rfl, ⟨fun h => absurd z3 h, fun _ => ⟨inJ, fun _ => ⟨again l2 z6 z7 z8 z9, meas⟩⟩⟩, H⟩)
        | fail)
end Go.Proofs.Ytmibmjehjagmbaa

/- What ChainOne keeps: Ops with their cells, and what is done. No condition. -/
namespace Go.Proofs.Ytmibmjehjagmbaa
open Go.Proofs.Ytmibmjehjagmbaa RX

/-- An Op of ChainOne, with the cell that it is to write, if it is an Append. -/
structure OpE where
  ob : Nat
  o : OpS
  cl : Option (Nat × Option Addr × Nat × CellS)
def OpE.cptr (e : OpE) : Option Addr := e.cl.map fun x => ⟨x.1, 0, none⟩
def OpE.cellHp (e : OpE) : HP := match e.cl with
  | some (cb, xa, xc, x) => HP.sep (HP.one cb (.cells #[.int .i64 x.what, .slice xa x.data.length xc] 32 (0, 0))) (HP.and (x.data.length ≤ 1000) (RoB xa x.data.length x.data))
  | none => HP.tt
def kOp : PK OpE := ⟨94, 2, by decide, fun e => [.pointer (some ⟨e.ob, 0, none⟩), .pointer e.cptr], fun _ => rfl, fun e u hu => by simp at hu; rcases hu with rfl | rfl <;> rfl, fun e => HP.sep (ORep e.ob e.o) e.cellHp⟩
def OpE.own (e : OpE) : Prop := ∀ x, e.cl = some x → OwnC x.2.2.2 e.o
theorem undOps : Try.prog.underlying 87 = some (.slice 94) := by kernel_rfl
theorem infoOps : (Try.prog.info? 94).map (fun i => (i.zero, i.size, i.bytes)) = some (some (.agg #[.pointer none, .pointer none]), 2, 16) := by kernel_rfl
theorem appendE (a : Option Addr) (n c : Nat) (l : List OpE) (b : Nat) (x : OpE) (Q : HP) (hb : n ≤ 1000000000) :
    OTri Try.prog (appS 87 87 (.slice a n c) (.slice (some ⟨b, 0, none⟩) 1 1)) (HP.sep (PL kOp a n c l) (HP.sep (HP.one b (.cells #[.pointer (some ⟨x.ob, 0, none⟩), .pointer x.cptr] 94 (0, 0))) (HP.sep (kOp.rep x) Q)))
      (fun v => HP.ex fun a' => HP.ex fun c' => HP.and (v = .slice a' (n + 1) c') (HP.sep (PL kOp a' (n + 1) c' (l ++ [x])) Q)) := by
  obtain ⟨i, hi, h1, h2, h3⟩ := info_parts infoOps
  exact PL.app (K := kOp) _ _ undOps hi h1 (by rw [h2]; rfl) h2 (by rw [h3]; decide) a n c l b x Q hb
theorem loadE {a : Option Addr} {n c : Nat} {l : List OpE} {k : Nat} {x : OpE} (hk : l[k]? = some x) :
    OTri Try.prog (loadS 94 (.pointer (a.map fun y => (y.add (k * 2)).add 0))) (PL kOp a n c l) (fun v => HP.and (v = .agg #[.pointer (some ⟨x.ob, 0, none⟩), .pointer x.cptr]) (HP.sep (HP.sep (ORep x.ob x.o) x.cellHp) (PRest kOp a n c l k))) := by
  obtain ⟨d, hd⟩ : ∃ d, Try.prog.underlying 94 = some d := Option.isSome_iff_exists.1 (by kernel_rfl)
  exact PL.load (K := kOp) hd (by kernel_rfl) (by kernel_rfl) hk
/-- What the map of what is done holds, told by its entries alone. -/
def DoneF (lm : AL Int) (f : Int → Option CellS) : Prop := (∀ k x, f k = some x → ∃ a c, alFind k lm = some (.agg #[.int .i64 x.what, .slice a x.data.length c]) ∧ (a = none → x.data.length = 0)) ∧ ∀ k, f k = none → alFind k lm = none
theorem DoneF.of {r : Nat} {lm : AL Int} {cm : Nat} {f : Int → Option CellS} {R h : PH} (H : (MapH CellV iE r f lm cm).p R h) : DoneF lm f := by
  refine ⟨fun k x e => ?_, fun k e => MapH.no H e⟩
  obtain ⟨v, hv, a, c, ⟨rfl, _⟩, hr⟩ := MapH.yes H cellV_pers e h
  refine ⟨a, c, hv, fun ha => ?_⟩
  subst ha
  rcases Nat.eq_zero_or_pos x.data.length with h0 | h0
  · exact h0
  · exact absurd (RoC.some hr h0) (by simp)
theorem doneRd {r : Nat} {lm : AL Int} {cm : Nat} {f : Int → Option CellS} {k : Int} {x : CellS} {a : Option Addr} {c : Nat} (e : f k = some x) (hv : alFind k lm = some (.agg #[.int .i64 x.what, .slice a x.data.length c])) : RdL (MapH CellV iE r f lm cm) a x.data.length (x.data.map u8v) := RdL.imp fun R h H => by
  obtain ⟨v, hv', a', c', ⟨rfl, _⟩, hr⟩ := MapH.yes H cellV_pers e h
  rw [hv] at hv'
  simp at hv'
  rw [hv'.1]
  exact hr
theorem RdL.ent {A B : HP} {a : Option Addr} {n : Nat} {xs : List Value} (e : HP.ent A B) (r : RdL B a n xs) (hn : a = Option.none → n = 0) : RdL A a n xs := ⟨Rd.ent e r.rd, fun _ _ _ h => hn h⟩
theorem OTri.pre {P : Program} {o : Sem Next} {A A' : HP} {B : Value → HP} (t : OTri P o A B) (e : HP.ent A' A) : OTri P o A' B := t.conseq (K := HP.tt) (e.trans (.of fun _ _ H => HP.sep_tt H)) fun _ => .of fun _ _ H => HP.sep_left H
theorem Tri.preE {P : Program} {f : FuncId} {args : Array Value} {A A' : HP} {B : Value → HP} (t : Tri P f args A B) (e : HP.ent A' A) : Tri P f args A' B := t.conseq (K := HP.tt) (e.trans (.of fun _ _ H => HP.sep_tt H)) fun _ => .of fun _ _ H => HP.sep_left H
end Go.Proofs.Ytmibmjehjagmbaa

/- What ChainFind keeps. No condition. -/
namespace Go.Proofs.Ytmibmjehjagmbaa
open Go.Proofs.Ytmibmjehjagmbaa RX

structure OpF where
  ob : Nat
  o : OpS
abbrev OpF.ptr (e : OpF) : Value := .pointer (some ⟨e.ob, 0, none⟩)
def kOf : PK OpF := ⟨91, 1, by decide, fun e => [e.ptr], fun _ => rfl, fun e u hu => by simp at hu; subst hu; rfl, fun e => ORep e.ob e.o⟩
theorem undFs : Try.prog.underlying 101 = some (.slice 91) := by kernel_rfl
theorem undF : Try.prog.underlying 91 = some (.pointer 156) := by kernel_rfl
theorem aggF : aggT Try.prog 91 = false := by kernel_rfl
theorem szF : szT Try.prog 91 = 1 := by kernel_rfl
theorem infoOf : (Try.prog.info? 91).map (fun i => (i.zero, i.size, i.bytes)) = some (some (.pointer none), 1, 8) := by kernel_rfl
theorem appendF (a : Option Addr) (n c : Nat) (l : List OpF) (b : Nat) (x : OpF) (Q : HP) (hb : n ≤ 1000000000) :
    OTri Try.prog (appS 101 101 (.slice a n c) (.slice (some ⟨b, 0, none⟩) 1 1)) (HP.sep (PL kOf a n c l) (HP.sep (HP.one b (.cells #[x.ptr] 91 (0, 0))) (HP.sep (ORep x.ob x.o) Q)))
      (fun v => HP.ex fun a' => HP.ex fun c' => HP.and (v = .slice a' (n + 1) c') (HP.sep (PL kOf a' (n + 1) c' (l ++ [x])) Q)) := by
  obtain ⟨i, hi, h1, h2, h3⟩ := info_parts infoOf
  exact PL.app (K := kOf) _ _ undFs hi h1 (by rw [h2]; rfl) h2 (by rw [h3]; decide) a n c l b x Q hb
theorem loadF {a : Option Addr} {n c : Nat} {l : List OpF} {k : Nat} {x : OpF} (hk : l[k]? = some x) :
    OTri Try.prog (loadS 91 (.pointer (a.map fun y => (y.add (k * 1)).add 0))) (PL kOf a n c l) (fun v => HP.and (v = x.ptr) (HP.sep (ORep x.ob x.o) (PRest kOf a n c l k))) :=
  PL.load1 (K := kOf) undF aggF szF rfl (v0 := x.ptr) rfl hk
/-- The first two are taken out. -/
def FX (a : Option Addr) (n c : Nat) (x y : OpF) (l : List OpF) : HP := HP.sep (OwC 91 1 a n c (x.ptr :: y.ptr :: l.map OpF.ptr)) (sepN (l.map fun e => ORep e.ob e.o))
theorem flatF : ∀ l : List OpF, l.flatMap kOf.vals = l.map OpF.ptr
  | [] => rfl
  | x :: l => by rw [List.flatMap_cons, flatF l]; rfl
theorem PL.two {a : Option Addr} {n c : Nat} {x y : OpF} {l : List OpF} {R h : PH} (H : (PL kOf a n c (x :: y :: l)).p R h) : (HP.sep (FX a n c x y l) (HP.sep (ORep x.ob x.o) (ORep y.ob y.o))).p R h := by
  have H1 : (HP.sep (OwC 91 1 a n c ((x :: y :: l).flatMap kOf.vals)) (HP.sep (ORep x.ob x.o) (HP.sep (ORep y.ob y.o) (sepN (l.map fun e => ORep e.ob e.o))))).p R h :=
    HP.sep_mono H.2 (fun _ h => h) fun z hz => HP.sep_mono (sepN_cons.1 hz) (fun _ h => h) fun w hw => sepN_cons.1 hw
  rw [flatF] at H1
  exact HP.sep_assoc' (HP.pick [_, _, _, _] [0, 3, 1, 2] (by decide) rfl H1)
theorem FX.rd (a : Option Addr) (n c : Nat) (x y : OpF) (l : List OpF) : Rd (FX a n c x y l) a (x.ptr :: y.ptr :: l.map OpF.ptr) := Rd.left (OwC.rd _ _ _ _ _ _)
theorem loadG {S : HP} {a : Option Addr} {vals : List Value} (rd : Rd S a vals) {k : Nat} {v : Value} (hv : vals[k]? = some v) {B : Value → HP} (post : ∀ R h, S.p R h → (B v).p R h) :
    OTri Try.prog (loadS 91 (.pointer (a.map fun y => (y.add (k * 1)).add 0))) S B := OTri.ofRead (load1_ok undF aggF szF rd (k := k * 1) (off := 0) (by simpa using hv)) post
/-- What may stand there. -/
def MayC (lm : AL (List UInt8)) (y : CellS) : Prop := y = ⟨2, []⟩ ∨ (y.what = 1 ∧ alFind y.data lm = some (.bool true))
structure FindI (n : Nat) (l : List UR) (es : List OpF) (lm : AL (List UInt8)) (used : Nat) : Prop where
  len : l.length = n
  units : UnitsOk l used
  two : 2 ≤ es.length
  ops : ∀ e ∈ es, OpOk n l e.o ∧ SortC (MayC lm) 5 l e.o
  res : ∀ i e, i < 2 → es[i]? = some e → ResC e.o
theorem SortC.more {lm : AL (List UInt8)} {a : Int} {l : List UR} {o : OpS} (h : SortC (MayC lm) a l o) (d : List UInt8) (c : Nat) : SortC (MayC (alPut d (.bool true) c lm)) a l o := by
  have m : ∀ y, MayC lm y → MayC (alPut d (.bool true) c lm) y := fun y hy => hy.imp id fun ⟨a, b⟩ => ⟨a, alFind_put_true _ _ _ _ b⟩
  exact ⟨fun k y hy => m y (h.1 k y hy), h.2.1, fun hs => m _ (h.2.2 hs)⟩
theorem FindI.more {n used : Nat} {l : List UR} {es : List OpF} {lm : AL (List UInt8)} (h : FindI n l es lm used) : FindI n l es lm (used + 1) := ⟨h.len, h.units.more, h.two, h.ops, h.res⟩
theorem FindI.add {n used : Nat} {l : List UR} {es : List OpF} {lm : AL (List UInt8)} (h : FindI n l es lm used) {e : OpF} {d : List UInt8} {c : Nat} (hO : OpOk n l e.o) (ha : e.o.at' = 5) (hc : e.o.cell = ⟨1, d⟩) : FindI n l (es ++ [e]) (alPut d (.bool true) c lm) used := by
  refine ⟨h.len, h.units, by have := h.two; simp; omega, fun e' h' => ?_, fun i e' hi h' => ?_⟩
  · rcases List.mem_append.1 h' with h' | h'
    · exact ⟨(h.ops e' h').1, (h.ops e' h').2.more d c⟩
    · simp at h'
      subst h'
      have hpos : 0 < es.length := by have := h.two; omega
      have h0 : es[0]? = some es[0] := List.getElem?_eq_getElem hpos
      refine ⟨hO, fun k y hy => ((h.ops _ (List.mem_of_getElem? h0)).2.more d c).1 k y hy, ha, fun _ => ?_⟩
      rw [hc]
      exact .inr ⟨rfl, alFind_put_self _ _ _ _⟩
  · have := h.two
    rw [List.getElem?_append_left (by omega)] at h'
    exact h.res i e' hi h'
theorem FindI.ask {n used k : Nat} {l : List UR} {es : List OpF} {lm : AL (List UInt8)} (h : FindI n l es lm used) (h0 : 1 ≤ n) (hused : used < 400) {e : OpF} (hk : es[k]? = some e) :
    FindI n (askS e.o l).2.2 (es.set k { e with o := (askS e.o l).2.1 }) lm (used + 1) := by
  obtain ⟨ho, hm⟩ := h.ops e (List.mem_of_getElem? hk)
  have hlt : k < es.length := (List.getElem?_eq_some_iff.1 hk).1
  obtain ⟨g, u, p, _⟩ := ask_any h.len h0 h.units hused ho
  have hm' := ask_sort (.inl rfl) h.len h0 h.units hused ho hm
  refine ⟨g.1.trans h.len, u, by simpa using h.two, fun e' h' => ?_, fun i e' hi h' => ?_⟩
  · rcases List.mem_or_eq_of_mem_set h' with h' | h'
    · obtain ⟨q1, q2⟩ := h.ops e' h'
      exact ⟨q1.grows g, hm'.1, q2.2.1, q2.2.2⟩
    · subst h'
      exact ⟨p, hm'⟩
  · rw [List.getElem?_set] at h'
    split at h'
    · rename_i hki
      subst hki
      simp [hlt] at h'
      subst h'
      exact ask_res h.len h0 h.units hused ho (h.res _ _ hi hk)
    · exact h.res i e' hi h'
end Go.Proofs.Ytmibmjehjagmbaa

/- What comes into law 17. No condition. -/
namespace Go.Proofs.Ytmibmjehjagmbaa
open Go.RowKit Go.ChangeShapes Go.WideShapes Go.Deep RX
set_option maxRecDepth 100000
set_option linter.unusedVariables false
set_option linter.unusedSimpArgs false

structure Step17 where
  new : Bool
  junk : Bool
  p : Int
  at_ : Int
  data : List UInt8
  dataa : Option Addr
  datac : Nat
abbrev Step17.vals (x : Step17) : List Value := [.bool x.new, .bool x.junk, .int .i64 x.p, .int .i64 x.at_, .slice x.dataa x.data.length x.datac]
def Step17.hp (x : Step17) : HP := HP.both (HP.pure (okI x.p)) (HP.both (HP.pure (okI x.at_)) (HP.and (x.data.length ≤ 140737488355328) (RoB x.dataa x.data.length x.data)))
theorem Step17.pers (x : Step17) (R h h' : PH) (H : (x.hp).p R h) : (x.hp).p R h' := ⟨H.1, ⟨H.2.1, H.2.2⟩⟩
instance : Inhabited Step17 := ⟨⟨false, false, 0, 0, [], none, 0⟩⟩
def kStep17 : Kind Step17 := ⟨5, by decide, Step17.vals, fun _ => rfl, Step17.hp, Step17.pers⟩
theorem Step17.of_trod {H : Type} {enc : TypeId × Value → H} {w : World} {cs : List Value} {n : Nat} {x : DataW H × List MemPlace} (h : DataW.trod enc Try.prog w 0 (fun _ => true) true n 90 cs = some x) (hs : Small Try.prog 90 x.1) : ∃ m : Step17, cs = kStep17.vals m ∧ ∀ h, (kStep17.hp m).p (allOf w) h := by
  obtain ⟨xs0, n0, _, hx0, hl0, hxl0, hf0⟩ := DataW.trod_struct Try.underlying90 h
  replace hxl0 : xs0.length = 5 := hxl0
  have hs0 : Small Try.prog 90 (.agg (xs0.map (·.1))) := by
    have e := hx0
    first | (subst e; exact hs) | (rw [e] at hs; exact hs) | (have e2 := congrArg Prod.fst e; rw [← e2]; exact hs) | (rw [← e]; exact hs)
  obtain ⟨c0, e0⟩ := field_bool Try.underlying4 (show 0 < xs0.length by omega) (by kernel_rfl) (hf0 0 _ rfl)
  obtain ⟨c1, e1⟩ := field_bool Try.underlying4 (show 1 < xs0.length by omega) (by kernel_rfl) (hf0 1 _ rfl)
  obtain ⟨c2, e2, w2⟩ := field_int Try.underlying3 (show 2 < xs0.length by omega) (by kernel_rfl) (hf0 2 _ rfl)
  obtain ⟨c3, e3, w3⟩ := field_int Try.underlying3 (show 3 < xs0.length by omega) (by kernel_rfl) (hf0 3 _ rfl)
  obtain ⟨a4, l4, k4, e4⟩ := field_slice Try.underlying30 (show 4 < xs0.length by omega) (by kernel_rfl) (hf0 4 _ rfl)
  have q4 := hf0 4 _ rfl
  rw [List.getElem?_eq_getElem (show 4 < xs0.length by omega)] at q4
  have g4 : DataW.trod enc Try.prog w 0 (fun _ => true) true n0 30 [.slice a4 l4 k4] = some xs0[4] := by
    rw [← take1' e4]
    exact q4
  have s4 : Small Try.prog 30 xs0[4].1 := Small.part (i := 4) hs0 Try.underlying90 rfl (by rw [List.getElem?_map, List.getElem?_eq_getElem (show 4 < xs0.length by omega)]; rfl)
  obtain ⟨b4, d4, m4, r4, y4, z4⟩ := bytes_of_trod g4 s4
  simp only [Value.slice.injEq] at r4
  obtain ⟨rfl, rfl, rfl⟩ := r4
  have hlen : cs.length = 5 := hl0.trans (by kernel_rfl)
  refine ⟨⟨c0, c1, c2, c3, d4, a4, k4⟩, ?_, fun hh => ⟨int_wf w2, ⟨int_wf w3, ⟨y4, z4 hh⟩⟩⟩⟩
  clear h hl0 hf0 q4 g4 s4
  revert e0 e1 e2 e3 e4
  match cs, hlen with
  | [u0, u1, u2, u3, u4], _ =>
    intro e0
    obtain rfl : u0 = .bool c0 := Option.some.inj e0
    intro e1
    obtain rfl : u1 = .bool c1 := Option.some.inj e1
    intro e2
    obtain rfl : u2 = .int _ c2 := Option.some.inj e2
    intro e3
    obtain rfl : u3 = .int _ c3 := Option.some.inj e3
    intro e4
    obtain rfl : u4 = .slice a4 d4.length k4 := Option.some.inj e4
    rfl
theorem Step17.load {a : Option Addr} {n : Nat} {l : List Step17} {k : Nat} {x : Step17} (hk : l[k]? = some x) : ORead Try.prog (loadS 90 (.pointer (a.map fun y => (y.add ((k : Int).toNat * 5)).add 0))) (Ls kStep17 a n l) (.agg x.vals.toArray) := by
  obtain ⟨d, hd⟩ : ∃ d, Try.prog.underlying 90 = some d := Option.isSome_iff_exists.1 (by kernel_rfl)
  exact Ls.load (K := kStep17) hd (by kernel_rfl) (by kernel_rfl) hk

structure MsgI where
  fr : Int
  to : Int
  num : Int
  rep : Bool
  kind : Int
  ep : Int
  at_ : Int
  cell_what : Int
  cell_data : List UInt8
  cell_dataa : Option Addr
  cell_datac : Nat
  br_r : Int
  br_w : Int
  val : List UInt8
  vala : Option Addr
  valc : Nat
  err : Int
  tail : Int
  low : Int
  back : Int
abbrev MsgI.vals (x : MsgI) : List Value := [.int .i64 x.fr, .int .i64 x.to, .int .i64 x.num, .bool x.rep, .int .i64 x.kind, .int .i64 x.ep, .int .i64 x.at_, .int .i64 x.cell_what, .slice x.cell_dataa x.cell_data.length x.cell_datac, .int .i64 x.br_r, .int .i64 x.br_w, .slice x.vala x.val.length x.valc, .int .i64 x.err, .int .i64 x.tail, .int .i64 x.low, .int .i64 x.back]
def MsgI.hp (x : MsgI) : HP := HP.both (HP.pure (okI x.fr)) (HP.both (HP.pure (okI x.to)) (HP.both (HP.pure (okI x.num)) (HP.both (HP.pure (okI x.kind)) (HP.both (HP.pure (okI x.ep)) (HP.both (HP.pure (okI x.at_)) (HP.both (HP.pure (okI x.cell_what)) (HP.both (HP.and (x.cell_data.length ≤ 140737488355328) (RoB x.cell_dataa x.cell_data.length x.cell_data)) (HP.both (HP.pure (okI x.br_r)) (HP.both (HP.pure (okI x.br_w)) (HP.both (HP.and (x.val.length ≤ 140737488355328) (RoB x.vala x.val.length x.val)) (HP.both (HP.pure (okI x.err)) (HP.both (HP.pure (okI x.tail)) (HP.both (HP.pure (okI x.low)) (HP.pure (okI x.back)))))))))))))))
theorem MsgI.pers (x : MsgI) (R h h' : PH) (H : (x.hp).p R h) : (x.hp).p R h' := ⟨H.1, ⟨H.2.1, ⟨H.2.2.1, ⟨H.2.2.2.1, ⟨H.2.2.2.2.1, ⟨H.2.2.2.2.2.1, ⟨H.2.2.2.2.2.2.1, ⟨H.2.2.2.2.2.2.2.1, ⟨H.2.2.2.2.2.2.2.2.1, ⟨H.2.2.2.2.2.2.2.2.2.1, ⟨H.2.2.2.2.2.2.2.2.2.2.1, ⟨H.2.2.2.2.2.2.2.2.2.2.2.1, ⟨H.2.2.2.2.2.2.2.2.2.2.2.2.1, ⟨H.2.2.2.2.2.2.2.2.2.2.2.2.2.1, H.2.2.2.2.2.2.2.2.2.2.2.2.2.2⟩⟩⟩⟩⟩⟩⟩⟩⟩⟩⟩⟩⟩⟩
instance : Inhabited MsgI := ⟨⟨0, 0, 0, false, 0, 0, 0, 0, [], none, 0, 0, 0, [], none, 0, 0, 0, 0, 0⟩⟩
def kMsgI : Kind MsgI := ⟨16, by decide, MsgI.vals, fun _ => rfl, MsgI.hp, MsgI.pers⟩
theorem MsgI.of_trod {H : Type} {enc : TypeId × Value → H} {w : World} {cs : List Value} {n : Nat} {x : DataW H × List MemPlace} (h : DataW.trod enc Try.prog w 0 (fun _ => true) true n 80 cs = some x) (hs : Small Try.prog 80 x.1) : ∃ m : MsgI, cs = kMsgI.vals m ∧ ∀ h, (kMsgI.hp m).p (allOf w) h := by
  obtain ⟨xs0, n0, _, hx0, hl0, hxl0, hf0⟩ := DataW.trod_struct Try.underlying80 h
  replace hxl0 : xs0.length = 14 := hxl0
  have hs0 : Small Try.prog 80 (.agg (xs0.map (·.1))) := by
    have e := hx0
    first | (subst e; exact hs) | (rw [e] at hs; exact hs) | (have e2 := congrArg Prod.fst e; rw [← e2]; exact hs) | (rw [← e]; exact hs)
  obtain ⟨c0, e0, w0⟩ := field_int Try.underlying3 (show 0 < xs0.length by omega) (by kernel_rfl) (hf0 0 _ rfl)
  obtain ⟨c1, e1, w1⟩ := field_int Try.underlying3 (show 1 < xs0.length by omega) (by kernel_rfl) (hf0 1 _ rfl)
  obtain ⟨c2, e2, w2⟩ := field_int Try.underlying3 (show 2 < xs0.length by omega) (by kernel_rfl) (hf0 2 _ rfl)
  obtain ⟨c3, e3⟩ := field_bool Try.underlying4 (show 3 < xs0.length by omega) (by kernel_rfl) (hf0 3 _ rfl)
  obtain ⟨c4, e4, w4⟩ := field_int Try.underlying3 (show 4 < xs0.length by omega) (by kernel_rfl) (hf0 4 _ rfl)
  obtain ⟨c5, e5, w5⟩ := field_int Try.underlying3 (show 5 < xs0.length by omega) (by kernel_rfl) (hf0 5 _ rfl)
  obtain ⟨c6, e6, w6⟩ := field_int Try.underlying3 (show 6 < xs0.length by omega) (by kernel_rfl) (hf0 6 _ rfl)
  have g0_7 := hf0 7 _ rfl
  rw [List.getElem?_eq_getElem (show 7 < xs0.length by omega)] at g0_7
  have hp0_7 : Small Try.prog 32 xs0[7].1 := Small.part (i := 7) hs0 Try.underlying80 rfl (by rw [List.getElem?_map, List.getElem?_eq_getElem (show 7 < xs0.length by omega)]; rfl)
  obtain ⟨xs1, n1, _, hx1, hl1, hxl1, hf1⟩ := DataW.trod_struct Try.underlying32 g0_7
  replace hxl1 : xs1.length = 2 := hxl1
  have hs1 : Small Try.prog 32 (.agg (xs1.map (·.1))) := by
    have e := hx1
    first | (subst e; exact hp0_7) | (rw [e] at hp0_7; exact hp0_7) | (have e2 := congrArg Prod.fst e; rw [← e2]; exact hp0_7) | (rw [← e]; exact hp0_7)
  obtain ⟨c7, e7, w7⟩ := field_int Try.underlying3 (show 0 < xs1.length by omega) (by kernel_rfl) (hf1 0 _ rfl)
  rw [List.getElem?_take_of_lt (of_decide_eq_true (by kernel_rfl)), List.getElem?_drop] at e7
  obtain ⟨a8, l8, k8, e8⟩ := field_slice Try.underlying30 (show 1 < xs1.length by omega) (by kernel_rfl) (hf1 1 _ rfl)
  have q8 := hf1 1 _ rfl
  rw [List.getElem?_eq_getElem (show 1 < xs1.length by omega)] at q8
  have g8 : DataW.trod enc Try.prog w 0 (fun _ => true) true n1 30 [.slice a8 l8 k8] = some xs1[1] := by
    rw [← take1' e8]
    exact q8
  have s8 : Small Try.prog 30 xs1[1].1 := Small.part (i := 1) hs1 Try.underlying32 rfl (by rw [List.getElem?_map, List.getElem?_eq_getElem (show 1 < xs1.length by omega)]; rfl)
  obtain ⟨b8, d8, m8, r8, y8, z8⟩ := bytes_of_trod g8 s8
  simp only [Value.slice.injEq] at r8
  obtain ⟨rfl, rfl, rfl⟩ := r8
  rw [List.getElem?_take_of_lt (of_decide_eq_true (by kernel_rfl)), List.getElem?_drop] at e8
  have g0_8 := hf0 8 _ rfl
  rw [List.getElem?_eq_getElem (show 8 < xs0.length by omega)] at g0_8
  have hp0_8 : Small Try.prog 34 xs0[8].1 := Small.part (i := 8) hs0 Try.underlying80 rfl (by rw [List.getElem?_map, List.getElem?_eq_getElem (show 8 < xs0.length by omega)]; rfl)
  obtain ⟨xs2, n2, _, hx2, hl2, hxl2, hf2⟩ := DataW.trod_struct Try.underlying34 g0_8
  replace hxl2 : xs2.length = 2 := hxl2
  have hs2 : Small Try.prog 34 (.agg (xs2.map (·.1))) := by
    have e := hx2
    first | (subst e; exact hp0_8) | (rw [e] at hp0_8; exact hp0_8) | (have e2 := congrArg Prod.fst e; rw [← e2]; exact hp0_8) | (rw [← e]; exact hp0_8)
  obtain ⟨c9, e9, w9⟩ := field_int Try.underlying3 (show 0 < xs2.length by omega) (by kernel_rfl) (hf2 0 _ rfl)
  rw [List.getElem?_take_of_lt (of_decide_eq_true (by kernel_rfl)), List.getElem?_drop] at e9
  obtain ⟨c10, e10, w10⟩ := field_int Try.underlying3 (show 1 < xs2.length by omega) (by kernel_rfl) (hf2 1 _ rfl)
  rw [List.getElem?_take_of_lt (of_decide_eq_true (by kernel_rfl)), List.getElem?_drop] at e10
  obtain ⟨a11, l11, k11, e11⟩ := field_slice Try.underlying30 (show 9 < xs0.length by omega) (by kernel_rfl) (hf0 9 _ rfl)
  have q11 := hf0 9 _ rfl
  rw [List.getElem?_eq_getElem (show 9 < xs0.length by omega)] at q11
  have g11 : DataW.trod enc Try.prog w 0 (fun _ => true) true n0 30 [.slice a11 l11 k11] = some xs0[9] := by
    rw [← take1' e11]
    exact q11
  have s11 : Small Try.prog 30 xs0[9].1 := Small.part (i := 9) hs0 Try.underlying80 rfl (by rw [List.getElem?_map, List.getElem?_eq_getElem (show 9 < xs0.length by omega)]; rfl)
  obtain ⟨b11, d11, m11, r11, y11, z11⟩ := bytes_of_trod g11 s11
  simp only [Value.slice.injEq] at r11
  obtain ⟨rfl, rfl, rfl⟩ := r11
  obtain ⟨c12, e12, w12⟩ := field_int Try.underlying38 (show 10 < xs0.length by omega) (by kernel_rfl) (hf0 10 _ rfl)
  obtain ⟨c13, e13, w13⟩ := field_int Try.underlying3 (show 11 < xs0.length by omega) (by kernel_rfl) (hf0 11 _ rfl)
  obtain ⟨c14, e14, w14⟩ := field_int Try.underlying3 (show 12 < xs0.length by omega) (by kernel_rfl) (hf0 12 _ rfl)
  obtain ⟨c15, e15, w15⟩ := field_int Try.underlying3 (show 13 < xs0.length by omega) (by kernel_rfl) (hf0 13 _ rfl)
  have hlen : cs.length = 16 := hl0.trans (by kernel_rfl)
  refine ⟨⟨c0, c1, c2, c3, c4, c5, c6, c7, d8, a8, k8, c9, c10, d11, a11, k11, c12, c13, c14, c15⟩, ?_, fun hh => ⟨int_wf w0, ⟨int_wf w1, ⟨int_wf w2, ⟨int_wf w4, ⟨int_wf w5, ⟨int_wf w6, ⟨int_wf w7, ⟨⟨y8, z8 hh⟩, ⟨int_wf w9, ⟨int_wf w10, ⟨⟨y11, z11 hh⟩, ⟨int_wf w12, ⟨int_wf w13, ⟨int_wf w14, int_wf w15⟩⟩⟩⟩⟩⟩⟩⟩⟩⟩⟩⟩⟩⟩⟩
  clear h hl0 hf0 hl1 hf1 hl2 hf2 g0_7 q8 g8 s8 g0_8 q11 g11 s11
  revert e0 e1 e2 e3 e4 e5 e6 e7 e8 e9 e10 e11 e12 e13 e14 e15
  match cs, hlen with
  | [u0, u1, u2, u3, u4, u5, u6, u7, u8, u9, u10, u11, u12, u13, u14, u15], _ =>
    intro e0
    obtain rfl : u0 = .int _ c0 := Option.some.inj e0
    intro e1
    obtain rfl : u1 = .int _ c1 := Option.some.inj e1
    intro e2
    obtain rfl : u2 = .int _ c2 := Option.some.inj e2
    intro e3
    obtain rfl : u3 = .bool c3 := Option.some.inj e3
    intro e4
    obtain rfl : u4 = .int _ c4 := Option.some.inj e4
    intro e5
    obtain rfl : u5 = .int _ c5 := Option.some.inj e5
    intro e6
    obtain rfl : u6 = .int _ c6 := Option.some.inj e6
    intro e7
    obtain rfl : u7 = .int _ c7 := Option.some.inj e7
    intro e8
    obtain rfl : u8 = .slice a8 d8.length k8 := Option.some.inj e8
    intro e9
    obtain rfl : u9 = .int _ c9 := Option.some.inj e9
    intro e10
    obtain rfl : u10 = .int _ c10 := Option.some.inj e10
    intro e11
    obtain rfl : u11 = .slice a11 d11.length k11 := Option.some.inj e11
    intro e12
    obtain rfl : u12 = .int _ c12 := Option.some.inj e12
    intro e13
    obtain rfl : u13 = .int _ c13 := Option.some.inj e13
    intro e14
    obtain rfl : u14 = .int _ c14 := Option.some.inj e14
    intro e15
    obtain rfl : u15 = .int _ c15 := Option.some.inj e15
    rfl
theorem MsgI.load {a : Option Addr} {n : Nat} {l : List MsgI} {k : Nat} {x : MsgI} (hk : l[k]? = some x) : ORead Try.prog (loadS 80 (.pointer (a.map fun y => (y.add ((k : Int).toNat * 16)).add 0))) (Ls kMsgI a n l) (.agg x.vals.toArray) := by
  obtain ⟨d, hd⟩ : ∃ d, Try.prog.underlying 80 = some d := Option.isSome_iff_exists.1 (by kernel_rfl)
  exact Ls.load (K := kMsgI) hd (by kernel_rfl) (by kernel_rfl) hk

end Go.Proofs.Ytmibmjehjagmbaa
