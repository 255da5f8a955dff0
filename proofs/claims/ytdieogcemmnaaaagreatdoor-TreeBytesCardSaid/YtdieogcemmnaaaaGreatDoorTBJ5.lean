/- Texts of this claim, joined: TrLaw04, In04, Lw4A, Lw4D, TrLaw04B. No condition. -/
import Derived.Test.YtdieogcemmnaaaaGreatDoorTBJ1
import Derived.Test.YtdieogcemmnaaaaGreatDoorTBJ4
import Derived.KernelRfl
set_option linter.unusedSimpArgs false
set_option linter.unusedVariables false
/- Trees of functions, printed by rx.lean. No condition. -/
namespace Go.Proofs.YtdieogcemmnaaaaGreatDoor.RX
set_option maxRecDepth 100000
-- tideline/tidelinelaw04.speaks: ρ := []
def t_speaks04 : T :=
(.call 17 [] [] [.n, .p] (.w (.a (.ptr (.v 0) 0))) [((.b (.v 0)), (.prop 1))]
(.call 18 [(.a (.ptr (.v 0) 0)), (.agg [(.int .i64 (.i 1)), (.str (.s [47, 97])), (.str (.s [])), (.int .i64 (.i 0)), (.int .i64 (.i 0)), (.sl .nil (.n 0) (.n 0))])] [((.b (.v 0)), (.prop 1))] [.i, .i, .i, .i, .a, .n, .n, .p, .a, .n, .n, .p, .p] (.w (.agg [(.int .i64 (.v 2)), (.int .i64 (.v 3)), (.int .i64 (.v 4)), (.int .i64 (.v 5)), (.sl (.v 6) (.v 7) (.v 8)), (.sl (.v 10) (.v 11) (.v 12))])) [((.a 6), (.prop 9)), ((.a 10), (.prop 13)), ((.b (.v 0)), (.prop 14))]
(.new
(.call 18 [(.a (.ptr (.v 0) 0)), (.agg [(.int .i64 (.i 3)), (.str (.s [47, 97, 47, 98])), (.str (.s [])), (.int .i64 (.i 0)), (.int .i64 (.i 0)), (.sl .nil (.n 0) (.n 0))])] [((.b (.v 0)), (.prop 14))] [.i, .i, .i, .i, .a, .n, .n, .p, .a, .n, .n, .p, .p] (.w (.agg [(.int .i64 (.v 16)), (.int .i64 (.v 17)), (.int .i64 (.v 18)), (.int .i64 (.v 19)), (.sl (.v 20) (.v 21) (.v 22)), (.sl (.v 24) (.v 25) (.v 26))])) [((.a 20), (.prop 23)), ((.a 24), (.prop 27)), ((.b (.v 0)), (.prop 28))]
(.new
(.call 18 [(.a (.ptr (.v 0) 0)), (.agg [(.int .i64 (.i 6)), (.str (.s [47, 97])), (.str (.s [47, 97, 47, 99])), (.int .i64 (.i 0)), (.int .i64 (.i 0)), (.sl .nil (.n 0) (.n 0))])] [((.b (.v 0)), (.prop 28))] [.i, .i, .i, .i, .a, .n, .n, .p, .a, .n, .n, .p, .p] (.w (.agg [(.int .i64 (.v 30)), (.int .i64 (.v 31)), (.int .i64 (.v 32)), (.int .i64 (.v 33)), (.sl (.v 34) (.v 35) (.v 36)), (.sl (.v 38) (.v 39) (.v 40))])) [((.a 34), (.prop 37)), ((.a 38), (.prop 41)), ((.b (.v 0)), (.prop 42))]
(.new
(.br (.o2 .eq (.v 2) (.i 0))
 (.br (.o2 .eq (.v 16) (.i 0))
  (.br (.o2 .eq (.v 30) (.i 26))
   (.call 19 [(.a (.ptr (.v 0) 0))] [((.b (.v 0)), (.prop 42))] [.a, .n, .n, .p] (.w (.a (.sl (.v 44) (.v 45) (.v 46)))) [((.a 44), (.prop 47)), ((.b (.v 0)), (.prop 42))]
   (.ret (.w (.a (.bool (.o2 .eq (.o1 .ofNat (.v 45)) (.i 3))))) []))
   (.ret (.w (.a (.bool (.c false)))) []))
  (.ret (.w (.a (.bool (.c false)))) []))
 (.ret (.w (.a (.bool (.c false)))) [])))))))))
theorem tree_speaks04 : tree Tryz.prog { absT := [], opq := [], hv := [], keep := [19, 25, 21, 20, 26, 16], link := [], ent := [], turn := [(18, [0])], shr := [], vt := [], mkd := [], rlink := [], pty := [], outl := false, stay := [], snk := [], rdf := true } Tryz.f15 [] [] 0 = t_speaks04 := by kernel_rfl
-- tideline/tidelinelaw04.Great: ρ := [.a callsa, .n callsl, .n callsc, .p callsP]
def t_great04 : T :=
(.br (.o2 .lt (.i 120) (.o1 .ofNat (.v 1)))
 (.ret (.w (.a (.bool (.c true)))) [((.a 0), (.prop 3))])
 (.loop [.c, .i] [(.e (.o1 .not (.o1 .not (.c false)))), (.e (.o1 .neg (.o1 .neg (.i 0))))]
  (.br (.o2 .lt (.v 5) (.o1 .ofNat (.v 1)))
   (.need (.o2 .le (.i 0) (.v 5))
   (.need (.o1 .isSome (.v 0))
   (.read (.load 34 (.tmp 12)) 34 [(12, (.w (.a (.eptr 0 (.v 5) 6 0))))] [((.a 0), (.prop 3))] [.i, .s, .s, .i, .i, .a, .n, .n] (.w (.agg [(.int .i64 (.v 6)), (.str (.v 7)), (.str (.v 8)), (.int .i64 (.v 9)), (.int .i64 (.v 10)), (.sl (.v 11) (.v 12) (.v 13))]))
   (.new
   (.br (.o2 .lt (.i 300) (.o1 .ofNat (.o1 .size (.v 7))))
    (.ret (.w (.a (.bool (.c true)))) [((.a 0), (.prop 3))])
    (.br (.o2 .lt (.i 300) (.o1 .ofNat (.o1 .size (.v 8))))
     (.ret (.w (.a (.bool (.c true)))) [((.a 0), (.prop 3))])
     (.br (.o2 .lt (.i 600) (.o1 .ofNat (.v 12)))
      (.ret (.w (.a (.bool (.c true)))) [((.a 0), (.prop 3))])
      (.need (.o1 (.inr .i64) (.o2 .add (.v 5) (.i 1)))
      (.again 0 [(.e (.o1 .not (.o1 .not (.v 4)))), (.e (.o1 .neg (.o1 .neg (.o2 .add (.v 5) (.i 1)))))])))))))))
   (.ret (.w (.a (.bool (.c false)))) [((.a 0), (.prop 3))]))))
theorem tree_great04 : tree Tryz.prog { absT := [], opq := [], hv := [], keep := [19, 25, 21, 20, 26, 16], link := [], ent := [], turn := [(18, [0])], shr := [], vt := [], mkd := [], rlink := [], pty := [], outl := false, stay := [], snk := [], rdf := true } Tryz.f16 [(.a (.sl (.v 0) (.v 1) (.v 2)))] [((.a 0), (.prop 3))] 4 = t_great04 := by kernel_rfl
-- tideline/tidelinelaw04.TreeCounts: ρ := [.a callsa, .n callsl, .n callsc, .p callsP]
def t_treeCounts : T :=
(.call 15 [] [] [.c] (.w (.a (.bool (.v 4)))) []
(.br (.o1 .not (.v 4))
 (.ret (.w (.a (.bool (.c false)))) [((.a 0), (.prop 3))])
 (.call 16 [(.a (.sl (.v 0) (.v 1) (.v 2)))] [((.a 0), (.prop 3))] [.c] (.w (.a (.bool (.v 5)))) [((.a 0), (.prop 3))]
 (.br (.v 5)
  (.ret (.w (.a (.bool (.c true)))) [((.a 0), (.prop 3))])
  (.call 17 [] [] [.n, .p] (.w (.a (.ptr (.v 6) 0))) [((.b (.v 6)), (.prop 7))]
  (.loop [.c, .i, .p] [(.e (.o1 .not (.o1 .not (.c false)))), (.e (.o1 .neg (.o1 .neg (.i 0)))), (.p [((.b (.v 6)), (.prop 7))])]
   (.br (.o2 .lt (.v 9) (.o1 .ofNat (.v 1)))
    (.need (.o2 .le (.i 0) (.v 9))
    (.need (.o1 .isSome (.v 0))
    (.read (.load 34 (.tmp 22)) 34 [(22, (.w (.a (.eptr 0 (.v 9) 6 0))))] [((.a 0), (.prop 3))] [.i, .s, .s, .i, .i, .a, .n, .n] (.w (.agg [(.int .i64 (.v 11)), (.str (.v 12)), (.str (.v 13)), (.int .i64 (.v 14)), (.int .i64 (.v 15)), (.sl (.v 16) (.v 17) (.v 18))]))
    (.new
    (.call 18 [(.a (.ptr (.v 6) 0)), (.agg [(.int .i64 (.v 11)), (.str (.v 12)), (.str (.v 13)), (.int .i64 (.v 14)), (.int .i64 (.v 15)), (.sl (.v 16) (.v 17) (.v 18))])] [((.b (.v 6)), (.prop 10)), ((.a 0), (.prop 3))] [.i, .i, .i, .i, .a, .n, .n, .p, .a, .n, .n, .p, .p] (.w (.agg [(.int .i64 (.v 20)), (.int .i64 (.v 21)), (.int .i64 (.v 22)), (.int .i64 (.v 23)), (.sl (.v 24) (.v 25) (.v 26)), (.sl (.v 28) (.v 29) (.v 30))])) [((.a 24), (.prop 27)), ((.a 28), (.prop 31)), ((.b (.v 6)), (.prop 32)), ((.a 0), (.prop 3))]
    (.join [.n, .n, .i, .i, .i, .i, .a, .n, .n, .a, .n, .n, .i, .i, .i, .i, .a, .n, .n, .a, .n, .n, .p, .p, .p, .p, .p]
     (.all
      (.all
       (.call 18 [(.a (.ptr (.v 6) 0)), (.agg [(.int .i64 (.i 10)), (.str (.v 12)), (.str (.s [])), (.int .i64 (.i 0)), (.int .i64 (.i 0)), (.sl .nil (.n 0) (.n 0))])] [((.b (.v 6)), (.prop 32))] [.i, .i, .i, .i, .a, .n, .n, .p, .a, .n, .n, .p, .p] (.w (.agg [(.int .i64 (.v 33)), (.int .i64 (.v 34)), (.int .i64 (.v 35)), (.int .i64 (.v 36)), (.sl (.v 37) (.v 38) (.v 39)), (.sl (.v 41) (.v 42) (.v 43))])) [((.a 37), (.prop 40)), ((.a 41), (.prop 44)), ((.b (.v 6)), (.prop 45))]
       (.all
        (.all
         (.call 18 [(.a (.ptr (.v 6) 0)), (.agg [(.int .i64 (.i 11)), (.str (.v 12)), (.str (.s [])), (.int .i64 (.i 0)), (.int .i64 (.i 0)), (.sl .nil (.n 0) (.n 0))])] [((.b (.v 6)), (.prop 45))] [.i, .i, .i, .i, .a, .n, .n, .p, .a, .n, .n, .p, .p] (.w (.agg [(.int .i64 (.v 46)), (.int .i64 (.v 47)), (.int .i64 (.v 48)), (.int .i64 (.v 49)), (.sl (.v 50) (.v 51) (.v 52)), (.sl (.v 54) (.v 55) (.v 56))])) [((.a 50), (.prop 53)), ((.a 54), (.prop 57)), ((.b (.v 6)), (.prop 58))]
         (.all
          (.new
          (.new
          (.again 0 [(.n (.v 59)), (.n (.v 60)), (.e (.o1 .neg (.o1 .neg (.v 46)))), (.e (.o1 .neg (.o1 .neg (.v 47)))), (.e (.o1 .neg (.o1 .neg (.v 48)))), (.e (.o1 .neg (.o1 .neg (.v 49)))), (.a (.v 50)), (.e (.o2 .nadd (.v 51) (.n 0))), (.e (.o2 .nadd (.v 52) (.n 0))), (.a (.v 54)), (.e (.o2 .nadd (.v 55) (.n 0))), (.e (.o2 .nadd (.v 56) (.n 0))), (.e (.o1 .neg (.o1 .neg (.v 33)))), (.e (.o1 .neg (.o1 .neg (.v 34)))), (.e (.o1 .neg (.o1 .neg (.v 35)))), (.e (.o1 .neg (.o1 .neg (.v 36)))), (.a (.v 37)), (.e (.o2 .nadd (.v 38) (.n 0))), (.e (.o2 .nadd (.v 39) (.n 0))), (.a (.v 41)), (.e (.o2 .nadd (.v 42) (.n 0))), (.e (.o2 .nadd (.v 43) (.n 0))), (.p [((.a 50), (.prop 53))]), (.p [((.a 54), (.prop 57))]), (.p [((.b (.v 6)), (.prop 58))]), (.p [((.a 37), (.prop 40))]), (.p [((.a 41), (.prop 44))])])))
          (.new
          (.new
          (.again 0 [(.n (.v 60)), (.n (.v 59)), (.e (.o1 .neg (.o1 .neg (.v 46)))), (.e (.o1 .neg (.o1 .neg (.v 47)))), (.e (.o1 .neg (.o1 .neg (.v 48)))), (.e (.o1 .neg (.o1 .neg (.v 49)))), (.a (.v 50)), (.e (.o2 .nadd (.v 51) (.n 0))), (.e (.o2 .nadd (.v 52) (.n 0))), (.a (.v 54)), (.e (.o2 .nadd (.v 55) (.n 0))), (.e (.o2 .nadd (.v 56) (.n 0))), (.e (.o1 .neg (.o1 .neg (.v 33)))), (.e (.o1 .neg (.o1 .neg (.v 34)))), (.e (.o1 .neg (.o1 .neg (.v 35)))), (.e (.o1 .neg (.o1 .neg (.v 36)))), (.a (.v 37)), (.e (.o2 .nadd (.v 38) (.n 0))), (.e (.o2 .nadd (.v 39) (.n 0))), (.a (.v 41)), (.e (.o2 .nadd (.v 42) (.n 0))), (.e (.o2 .nadd (.v 43) (.n 0))), (.p [((.a 50), (.prop 53))]), (.p [((.a 54), (.prop 57))]), (.p [((.b (.v 6)), (.prop 58))]), (.p [((.a 37), (.prop 40))]), (.p [((.a 41), (.prop 44))])])))))
         (.all
          (.new
          (.all
           (.call 18 [(.a (.ptr (.v 6) 0)), (.agg [(.int .i64 (.i 11)), (.str (.v 12)), (.str (.s [])), (.int .i64 (.i 0)), (.int .i64 (.i 0)), (.sl .nil (.n 0) (.n 0))])] [((.b (.v 6)), (.prop 45))] [.i, .i, .i, .i, .a, .n, .n, .p, .a, .n, .n, .p, .p] (.w (.agg [(.int .i64 (.v 47)), (.int .i64 (.v 48)), (.int .i64 (.v 49)), (.int .i64 (.v 50)), (.sl (.v 51) (.v 52) (.v 53)), (.sl (.v 55) (.v 56) (.v 57))])) [((.a 51), (.prop 54)), ((.a 55), (.prop 58)), ((.b (.v 6)), (.prop 59))]
           (.new
           (.again 0 [(.n (.v 46)), (.n (.v 60)), (.e (.o1 .neg (.o1 .neg (.v 47)))), (.e (.o1 .neg (.o1 .neg (.v 48)))), (.e (.o1 .neg (.o1 .neg (.v 49)))), (.e (.o1 .neg (.o1 .neg (.v 50)))), (.a (.v 51)), (.e (.o2 .nadd (.v 52) (.n 0))), (.e (.o2 .nadd (.v 53) (.n 0))), (.a (.v 55)), (.e (.o2 .nadd (.v 56) (.n 0))), (.e (.o2 .nadd (.v 57) (.n 0))), (.e (.o1 .neg (.o1 .neg (.v 33)))), (.e (.o1 .neg (.o1 .neg (.v 34)))), (.e (.o1 .neg (.o1 .neg (.v 35)))), (.e (.o1 .neg (.o1 .neg (.v 36)))), (.a (.v 37)), (.e (.o2 .nadd (.v 38) (.n 0))), (.e (.o2 .nadd (.v 39) (.n 0))), (.a (.v 41)), (.e (.o2 .nadd (.v 42) (.n 0))), (.e (.o2 .nadd (.v 43) (.n 0))), (.p [((.a 51), (.prop 54))]), (.p [((.a 55), (.prop 58))]), (.p [((.b (.v 6)), (.prop 59))]), (.p [((.a 37), (.prop 40))]), (.p [((.a 41), (.prop 44))])])))
           (.new
           (.call 18 [(.a (.ptr (.v 6) 0)), (.agg [(.int .i64 (.i 11)), (.str (.v 12)), (.str (.s [])), (.int .i64 (.i 0)), (.int .i64 (.i 0)), (.sl .nil (.n 0) (.n 0))])] [((.b (.v 6)), (.prop 45))] [.i, .i, .i, .i, .a, .n, .n, .p, .a, .n, .n, .p, .p] (.w (.agg [(.int .i64 (.v 48)), (.int .i64 (.v 49)), (.int .i64 (.v 50)), (.int .i64 (.v 51)), (.sl (.v 52) (.v 53) (.v 54)), (.sl (.v 56) (.v 57) (.v 58))])) [((.a 52), (.prop 55)), ((.a 56), (.prop 59)), ((.b (.v 6)), (.prop 60))]
           (.again 0 [(.n (.v 46)), (.n (.v 47)), (.e (.o1 .neg (.o1 .neg (.v 48)))), (.e (.o1 .neg (.o1 .neg (.v 49)))), (.e (.o1 .neg (.o1 .neg (.v 50)))), (.e (.o1 .neg (.o1 .neg (.v 51)))), (.a (.v 52)), (.e (.o2 .nadd (.v 53) (.n 0))), (.e (.o2 .nadd (.v 54) (.n 0))), (.a (.v 56)), (.e (.o2 .nadd (.v 57) (.n 0))), (.e (.o2 .nadd (.v 58) (.n 0))), (.e (.o1 .neg (.o1 .neg (.v 33)))), (.e (.o1 .neg (.o1 .neg (.v 34)))), (.e (.o1 .neg (.o1 .neg (.v 35)))), (.e (.o1 .neg (.o1 .neg (.v 36)))), (.a (.v 37)), (.e (.o2 .nadd (.v 38) (.n 0))), (.e (.o2 .nadd (.v 39) (.n 0))), (.a (.v 41)), (.e (.o2 .nadd (.v 42) (.n 0))), (.e (.o2 .nadd (.v 43) (.n 0))), (.p [((.a 52), (.prop 55))]), (.p [((.a 56), (.prop 59))]), (.p [((.b (.v 6)), (.prop 60))]), (.p [((.a 37), (.prop 40))]), (.p [((.a 41), (.prop 44))])])))))
          (.new
          (.all
           (.call 18 [(.a (.ptr (.v 6) 0)), (.agg [(.int .i64 (.i 11)), (.str (.v 12)), (.str (.s [])), (.int .i64 (.i 0)), (.int .i64 (.i 0)), (.sl .nil (.n 0) (.n 0))])] [((.b (.v 6)), (.prop 45))] [.i, .i, .i, .i, .a, .n, .n, .p, .a, .n, .n, .p, .p] (.w (.agg [(.int .i64 (.v 47)), (.int .i64 (.v 48)), (.int .i64 (.v 49)), (.int .i64 (.v 50)), (.sl (.v 51) (.v 52) (.v 53)), (.sl (.v 55) (.v 56) (.v 57))])) [((.a 51), (.prop 54)), ((.a 55), (.prop 58)), ((.b (.v 6)), (.prop 59))]
           (.new
           (.again 0 [(.n (.v 60)), (.n (.v 46)), (.e (.o1 .neg (.o1 .neg (.v 47)))), (.e (.o1 .neg (.o1 .neg (.v 48)))), (.e (.o1 .neg (.o1 .neg (.v 49)))), (.e (.o1 .neg (.o1 .neg (.v 50)))), (.a (.v 51)), (.e (.o2 .nadd (.v 52) (.n 0))), (.e (.o2 .nadd (.v 53) (.n 0))), (.a (.v 55)), (.e (.o2 .nadd (.v 56) (.n 0))), (.e (.o2 .nadd (.v 57) (.n 0))), (.e (.o1 .neg (.o1 .neg (.v 33)))), (.e (.o1 .neg (.o1 .neg (.v 34)))), (.e (.o1 .neg (.o1 .neg (.v 35)))), (.e (.o1 .neg (.o1 .neg (.v 36)))), (.a (.v 37)), (.e (.o2 .nadd (.v 38) (.n 0))), (.e (.o2 .nadd (.v 39) (.n 0))), (.a (.v 41)), (.e (.o2 .nadd (.v 42) (.n 0))), (.e (.o2 .nadd (.v 43) (.n 0))), (.p [((.a 51), (.prop 54))]), (.p [((.a 55), (.prop 58))]), (.p [((.b (.v 6)), (.prop 59))]), (.p [((.a 37), (.prop 40))]), (.p [((.a 41), (.prop 44))])])))
           (.new
           (.call 18 [(.a (.ptr (.v 6) 0)), (.agg [(.int .i64 (.i 11)), (.str (.v 12)), (.str (.s [])), (.int .i64 (.i 0)), (.int .i64 (.i 0)), (.sl .nil (.n 0) (.n 0))])] [((.b (.v 6)), (.prop 45))] [.i, .i, .i, .i, .a, .n, .n, .p, .a, .n, .n, .p, .p] (.w (.agg [(.int .i64 (.v 48)), (.int .i64 (.v 49)), (.int .i64 (.v 50)), (.int .i64 (.v 51)), (.sl (.v 52) (.v 53) (.v 54)), (.sl (.v 56) (.v 57) (.v 58))])) [((.a 52), (.prop 55)), ((.a 56), (.prop 59)), ((.b (.v 6)), (.prop 60))]
           (.again 0 [(.n (.v 47)), (.n (.v 46)), (.e (.o1 .neg (.o1 .neg (.v 48)))), (.e (.o1 .neg (.o1 .neg (.v 49)))), (.e (.o1 .neg (.o1 .neg (.v 50)))), (.e (.o1 .neg (.o1 .neg (.v 51)))), (.a (.v 52)), (.e (.o2 .nadd (.v 53) (.n 0))), (.e (.o2 .nadd (.v 54) (.n 0))), (.a (.v 56)), (.e (.o2 .nadd (.v 57) (.n 0))), (.e (.o2 .nadd (.v 58) (.n 0))), (.e (.o1 .neg (.o1 .neg (.v 33)))), (.e (.o1 .neg (.o1 .neg (.v 34)))), (.e (.o1 .neg (.o1 .neg (.v 35)))), (.e (.o1 .neg (.o1 .neg (.v 36)))), (.a (.v 37)), (.e (.o2 .nadd (.v 38) (.n 0))), (.e (.o2 .nadd (.v 39) (.n 0))), (.a (.v 41)), (.e (.o2 .nadd (.v 42) (.n 0))), (.e (.o2 .nadd (.v 43) (.n 0))), (.p [((.a 52), (.prop 55))]), (.p [((.a 56), (.prop 59))]), (.p [((.b (.v 6)), (.prop 60))]), (.p [((.a 37), (.prop 40))]), (.p [((.a 41), (.prop 44))])])))))))
        (.all
         (.new
         (.all
          (.all
           (.call 18 [(.a (.ptr (.v 6) 0)), (.agg [(.int .i64 (.i 11)), (.str (.v 12)), (.str (.s [])), (.int .i64 (.i 0)), (.int .i64 (.i 0)), (.sl .nil (.n 0) (.n 0))])] [((.b (.v 6)), (.prop 45))] [.i, .i, .i, .i, .a, .n, .n, .p, .a, .n, .n, .p, .p] (.w (.agg [(.int .i64 (.v 47)), (.int .i64 (.v 48)), (.int .i64 (.v 49)), (.int .i64 (.v 50)), (.sl (.v 51) (.v 52) (.v 53)), (.sl (.v 55) (.v 56) (.v 57))])) [((.a 51), (.prop 54)), ((.a 55), (.prop 58)), ((.b (.v 6)), (.prop 59))]
           (.new
           (.again 0 [(.n (.v 46)), (.n (.v 60)), (.e (.o1 .neg (.o1 .neg (.v 47)))), (.e (.o1 .neg (.o1 .neg (.v 48)))), (.e (.o1 .neg (.o1 .neg (.v 49)))), (.e (.o1 .neg (.o1 .neg (.v 50)))), (.a (.v 51)), (.e (.o2 .nadd (.v 52) (.n 0))), (.e (.o2 .nadd (.v 53) (.n 0))), (.a (.v 55)), (.e (.o2 .nadd (.v 56) (.n 0))), (.e (.o2 .nadd (.v 57) (.n 0))), (.e (.o1 .neg (.o1 .neg (.v 33)))), (.e (.o1 .neg (.o1 .neg (.v 34)))), (.e (.o1 .neg (.o1 .neg (.v 35)))), (.e (.o1 .neg (.o1 .neg (.v 36)))), (.a (.v 37)), (.e (.o2 .nadd (.v 38) (.n 0))), (.e (.o2 .nadd (.v 39) (.n 0))), (.a (.v 41)), (.e (.o2 .nadd (.v 42) (.n 0))), (.e (.o2 .nadd (.v 43) (.n 0))), (.p [((.a 51), (.prop 54))]), (.p [((.a 55), (.prop 58))]), (.p [((.b (.v 6)), (.prop 59))]), (.p [((.a 37), (.prop 40))]), (.p [((.a 41), (.prop 44))])])))
           (.new
           (.call 18 [(.a (.ptr (.v 6) 0)), (.agg [(.int .i64 (.i 11)), (.str (.v 12)), (.str (.s [])), (.int .i64 (.i 0)), (.int .i64 (.i 0)), (.sl .nil (.n 0) (.n 0))])] [((.b (.v 6)), (.prop 45))] [.i, .i, .i, .i, .a, .n, .n, .p, .a, .n, .n, .p, .p] (.w (.agg [(.int .i64 (.v 48)), (.int .i64 (.v 49)), (.int .i64 (.v 50)), (.int .i64 (.v 51)), (.sl (.v 52) (.v 53) (.v 54)), (.sl (.v 56) (.v 57) (.v 58))])) [((.a 52), (.prop 55)), ((.a 56), (.prop 59)), ((.b (.v 6)), (.prop 60))]
           (.again 0 [(.n (.v 46)), (.n (.v 47)), (.e (.o1 .neg (.o1 .neg (.v 48)))), (.e (.o1 .neg (.o1 .neg (.v 49)))), (.e (.o1 .neg (.o1 .neg (.v 50)))), (.e (.o1 .neg (.o1 .neg (.v 51)))), (.a (.v 52)), (.e (.o2 .nadd (.v 53) (.n 0))), (.e (.o2 .nadd (.v 54) (.n 0))), (.a (.v 56)), (.e (.o2 .nadd (.v 57) (.n 0))), (.e (.o2 .nadd (.v 58) (.n 0))), (.e (.o1 .neg (.o1 .neg (.v 33)))), (.e (.o1 .neg (.o1 .neg (.v 34)))), (.e (.o1 .neg (.o1 .neg (.v 35)))), (.e (.o1 .neg (.o1 .neg (.v 36)))), (.a (.v 37)), (.e (.o2 .nadd (.v 38) (.n 0))), (.e (.o2 .nadd (.v 39) (.n 0))), (.a (.v 41)), (.e (.o2 .nadd (.v 42) (.n 0))), (.e (.o2 .nadd (.v 43) (.n 0))), (.p [((.a 52), (.prop 55))]), (.p [((.a 56), (.prop 59))]), (.p [((.b (.v 6)), (.prop 60))]), (.p [((.a 37), (.prop 40))]), (.p [((.a 41), (.prop 44))])]))))
          (.new
          (.call 18 [(.a (.ptr (.v 6) 0)), (.agg [(.int .i64 (.i 11)), (.str (.v 12)), (.str (.s [])), (.int .i64 (.i 0)), (.int .i64 (.i 0)), (.sl .nil (.n 0) (.n 0))])] [((.b (.v 6)), (.prop 45))] [.i, .i, .i, .i, .a, .n, .n, .p, .a, .n, .n, .p, .p] (.w (.agg [(.int .i64 (.v 48)), (.int .i64 (.v 49)), (.int .i64 (.v 50)), (.int .i64 (.v 51)), (.sl (.v 52) (.v 53) (.v 54)), (.sl (.v 56) (.v 57) (.v 58))])) [((.a 52), (.prop 55)), ((.a 56), (.prop 59)), ((.b (.v 6)), (.prop 60))]
          (.again 0 [(.n (.v 46)), (.n (.v 47)), (.e (.o1 .neg (.o1 .neg (.v 48)))), (.e (.o1 .neg (.o1 .neg (.v 49)))), (.e (.o1 .neg (.o1 .neg (.v 50)))), (.e (.o1 .neg (.o1 .neg (.v 51)))), (.a (.v 52)), (.e (.o2 .nadd (.v 53) (.n 0))), (.e (.o2 .nadd (.v 54) (.n 0))), (.a (.v 56)), (.e (.o2 .nadd (.v 57) (.n 0))), (.e (.o2 .nadd (.v 58) (.n 0))), (.e (.o1 .neg (.o1 .neg (.v 33)))), (.e (.o1 .neg (.o1 .neg (.v 34)))), (.e (.o1 .neg (.o1 .neg (.v 35)))), (.e (.o1 .neg (.o1 .neg (.v 36)))), (.a (.v 37)), (.e (.o2 .nadd (.v 38) (.n 0))), (.e (.o2 .nadd (.v 39) (.n 0))), (.a (.v 41)), (.e (.o2 .nadd (.v 42) (.n 0))), (.e (.o2 .nadd (.v 43) (.n 0))), (.p [((.a 52), (.prop 55))]), (.p [((.a 56), (.prop 59))]), (.p [((.b (.v 6)), (.prop 60))]), (.p [((.a 37), (.prop 40))]), (.p [((.a 41), (.prop 44))])])))))
         (.new
         (.all
          (.all
           (.call 18 [(.a (.ptr (.v 6) 0)), (.agg [(.int .i64 (.i 11)), (.str (.v 12)), (.str (.s [])), (.int .i64 (.i 0)), (.int .i64 (.i 0)), (.sl .nil (.n 0) (.n 0))])] [((.b (.v 6)), (.prop 45))] [.i, .i, .i, .i, .a, .n, .n, .p, .a, .n, .n, .p, .p] (.w (.agg [(.int .i64 (.v 47)), (.int .i64 (.v 48)), (.int .i64 (.v 49)), (.int .i64 (.v 50)), (.sl (.v 51) (.v 52) (.v 53)), (.sl (.v 55) (.v 56) (.v 57))])) [((.a 51), (.prop 54)), ((.a 55), (.prop 58)), ((.b (.v 6)), (.prop 59))]
           (.new
           (.again 0 [(.n (.v 60)), (.n (.v 46)), (.e (.o1 .neg (.o1 .neg (.v 47)))), (.e (.o1 .neg (.o1 .neg (.v 48)))), (.e (.o1 .neg (.o1 .neg (.v 49)))), (.e (.o1 .neg (.o1 .neg (.v 50)))), (.a (.v 51)), (.e (.o2 .nadd (.v 52) (.n 0))), (.e (.o2 .nadd (.v 53) (.n 0))), (.a (.v 55)), (.e (.o2 .nadd (.v 56) (.n 0))), (.e (.o2 .nadd (.v 57) (.n 0))), (.e (.o1 .neg (.o1 .neg (.v 33)))), (.e (.o1 .neg (.o1 .neg (.v 34)))), (.e (.o1 .neg (.o1 .neg (.v 35)))), (.e (.o1 .neg (.o1 .neg (.v 36)))), (.a (.v 37)), (.e (.o2 .nadd (.v 38) (.n 0))), (.e (.o2 .nadd (.v 39) (.n 0))), (.a (.v 41)), (.e (.o2 .nadd (.v 42) (.n 0))), (.e (.o2 .nadd (.v 43) (.n 0))), (.p [((.a 51), (.prop 54))]), (.p [((.a 55), (.prop 58))]), (.p [((.b (.v 6)), (.prop 59))]), (.p [((.a 37), (.prop 40))]), (.p [((.a 41), (.prop 44))])])))
           (.new
           (.call 18 [(.a (.ptr (.v 6) 0)), (.agg [(.int .i64 (.i 11)), (.str (.v 12)), (.str (.s [])), (.int .i64 (.i 0)), (.int .i64 (.i 0)), (.sl .nil (.n 0) (.n 0))])] [((.b (.v 6)), (.prop 45))] [.i, .i, .i, .i, .a, .n, .n, .p, .a, .n, .n, .p, .p] (.w (.agg [(.int .i64 (.v 48)), (.int .i64 (.v 49)), (.int .i64 (.v 50)), (.int .i64 (.v 51)), (.sl (.v 52) (.v 53) (.v 54)), (.sl (.v 56) (.v 57) (.v 58))])) [((.a 52), (.prop 55)), ((.a 56), (.prop 59)), ((.b (.v 6)), (.prop 60))]
           (.again 0 [(.n (.v 47)), (.n (.v 46)), (.e (.o1 .neg (.o1 .neg (.v 48)))), (.e (.o1 .neg (.o1 .neg (.v 49)))), (.e (.o1 .neg (.o1 .neg (.v 50)))), (.e (.o1 .neg (.o1 .neg (.v 51)))), (.a (.v 52)), (.e (.o2 .nadd (.v 53) (.n 0))), (.e (.o2 .nadd (.v 54) (.n 0))), (.a (.v 56)), (.e (.o2 .nadd (.v 57) (.n 0))), (.e (.o2 .nadd (.v 58) (.n 0))), (.e (.o1 .neg (.o1 .neg (.v 33)))), (.e (.o1 .neg (.o1 .neg (.v 34)))), (.e (.o1 .neg (.o1 .neg (.v 35)))), (.e (.o1 .neg (.o1 .neg (.v 36)))), (.a (.v 37)), (.e (.o2 .nadd (.v 38) (.n 0))), (.e (.o2 .nadd (.v 39) (.n 0))), (.a (.v 41)), (.e (.o2 .nadd (.v 42) (.n 0))), (.e (.o2 .nadd (.v 43) (.n 0))), (.p [((.a 52), (.prop 55))]), (.p [((.a 56), (.prop 59))]), (.p [((.b (.v 6)), (.prop 60))]), (.p [((.a 37), (.prop 40))]), (.p [((.a 41), (.prop 44))])]))))
          (.new
          (.call 18 [(.a (.ptr (.v 6) 0)), (.agg [(.int .i64 (.i 11)), (.str (.v 12)), (.str (.s [])), (.int .i64 (.i 0)), (.int .i64 (.i 0)), (.sl .nil (.n 0) (.n 0))])] [((.b (.v 6)), (.prop 45))] [.i, .i, .i, .i, .a, .n, .n, .p, .a, .n, .n, .p, .p] (.w (.agg [(.int .i64 (.v 48)), (.int .i64 (.v 49)), (.int .i64 (.v 50)), (.int .i64 (.v 51)), (.sl (.v 52) (.v 53) (.v 54)), (.sl (.v 56) (.v 57) (.v 58))])) [((.a 52), (.prop 55)), ((.a 56), (.prop 59)), ((.b (.v 6)), (.prop 60))]
          (.again 0 [(.n (.v 47)), (.n (.v 46)), (.e (.o1 .neg (.o1 .neg (.v 48)))), (.e (.o1 .neg (.o1 .neg (.v 49)))), (.e (.o1 .neg (.o1 .neg (.v 50)))), (.e (.o1 .neg (.o1 .neg (.v 51)))), (.a (.v 52)), (.e (.o2 .nadd (.v 53) (.n 0))), (.e (.o2 .nadd (.v 54) (.n 0))), (.a (.v 56)), (.e (.o2 .nadd (.v 57) (.n 0))), (.e (.o2 .nadd (.v 58) (.n 0))), (.e (.o1 .neg (.o1 .neg (.v 33)))), (.e (.o1 .neg (.o1 .neg (.v 34)))), (.e (.o1 .neg (.o1 .neg (.v 35)))), (.e (.o1 .neg (.o1 .neg (.v 36)))), (.a (.v 37)), (.e (.o2 .nadd (.v 38) (.n 0))), (.e (.o2 .nadd (.v 39) (.n 0))), (.a (.v 41)), (.e (.o2 .nadd (.v 42) (.n 0))), (.e (.o2 .nadd (.v 43) (.n 0))), (.p [((.a 52), (.prop 55))]), (.p [((.a 56), (.prop 59))]), (.p [((.b (.v 6)), (.prop 60))]), (.p [((.a 37), (.prop 40))]), (.p [((.a 41), (.prop 44))])]))))))))
       (.all
        (.all
         (.call 18 [(.a (.ptr (.v 6) 0)), (.agg [(.int .i64 (.i 10)), (.str (.v 12)), (.str (.s [])), (.int .i64 (.i 0)), (.int .i64 (.i 0)), (.sl .nil (.n 0) (.n 0))])] [((.b (.v 6)), (.prop 32))] [.i, .i, .i, .i, .a, .n, .n, .p, .a, .n, .n, .p, .p] (.w (.agg [(.int .i64 (.v 33)), (.int .i64 (.v 34)), (.int .i64 (.v 35)), (.int .i64 (.v 36)), (.sl (.v 37) (.v 38) (.v 39)), (.sl (.v 41) (.v 42) (.v 43))])) [((.a 37), (.prop 40)), ((.a 41), (.prop 44)), ((.b (.v 6)), (.prop 45))]
         (.all
          (.call 18 [(.a (.ptr (.v 6) 0)), (.agg [(.int .i64 (.i 11)), (.str (.v 12)), (.str (.s [])), (.int .i64 (.i 0)), (.int .i64 (.i 0)), (.sl .nil (.n 0) (.n 0))])] [((.b (.v 6)), (.prop 45))] [.i, .i, .i, .i, .a, .n, .n, .p, .a, .n, .n, .p, .p] (.w (.agg [(.int .i64 (.v 46)), (.int .i64 (.v 47)), (.int .i64 (.v 48)), (.int .i64 (.v 49)), (.sl (.v 50) (.v 51) (.v 52)), (.sl (.v 54) (.v 55) (.v 56))])) [((.a 50), (.prop 53)), ((.a 54), (.prop 57)), ((.b (.v 6)), (.prop 58))]
          (.all
           (.new
           (.new
           (.again 0 [(.n (.v 59)), (.n (.v 60)), (.e (.o1 .neg (.o1 .neg (.v 46)))), (.e (.o1 .neg (.o1 .neg (.v 47)))), (.e (.o1 .neg (.o1 .neg (.v 48)))), (.e (.o1 .neg (.o1 .neg (.v 49)))), (.a (.v 50)), (.e (.o2 .nadd (.v 51) (.n 0))), (.e (.o2 .nadd (.v 52) (.n 0))), (.a (.v 54)), (.e (.o2 .nadd (.v 55) (.n 0))), (.e (.o2 .nadd (.v 56) (.n 0))), (.e (.o1 .neg (.o1 .neg (.v 33)))), (.e (.o1 .neg (.o1 .neg (.v 34)))), (.e (.o1 .neg (.o1 .neg (.v 35)))), (.e (.o1 .neg (.o1 .neg (.v 36)))), (.a (.v 37)), (.e (.o2 .nadd (.v 38) (.n 0))), (.e (.o2 .nadd (.v 39) (.n 0))), (.a (.v 41)), (.e (.o2 .nadd (.v 42) (.n 0))), (.e (.o2 .nadd (.v 43) (.n 0))), (.p [((.a 50), (.prop 53))]), (.p [((.a 54), (.prop 57))]), (.p [((.b (.v 6)), (.prop 58))]), (.p [((.a 37), (.prop 40))]), (.p [((.a 41), (.prop 44))])])))
           (.new
           (.new
           (.again 0 [(.n (.v 60)), (.n (.v 59)), (.e (.o1 .neg (.o1 .neg (.v 46)))), (.e (.o1 .neg (.o1 .neg (.v 47)))), (.e (.o1 .neg (.o1 .neg (.v 48)))), (.e (.o1 .neg (.o1 .neg (.v 49)))), (.a (.v 50)), (.e (.o2 .nadd (.v 51) (.n 0))), (.e (.o2 .nadd (.v 52) (.n 0))), (.a (.v 54)), (.e (.o2 .nadd (.v 55) (.n 0))), (.e (.o2 .nadd (.v 56) (.n 0))), (.e (.o1 .neg (.o1 .neg (.v 33)))), (.e (.o1 .neg (.o1 .neg (.v 34)))), (.e (.o1 .neg (.o1 .neg (.v 35)))), (.e (.o1 .neg (.o1 .neg (.v 36)))), (.a (.v 37)), (.e (.o2 .nadd (.v 38) (.n 0))), (.e (.o2 .nadd (.v 39) (.n 0))), (.a (.v 41)), (.e (.o2 .nadd (.v 42) (.n 0))), (.e (.o2 .nadd (.v 43) (.n 0))), (.p [((.a 50), (.prop 53))]), (.p [((.a 54), (.prop 57))]), (.p [((.b (.v 6)), (.prop 58))]), (.p [((.a 37), (.prop 40))]), (.p [((.a 41), (.prop 44))])])))))
          (.all
           (.new
           (.all
            (.call 18 [(.a (.ptr (.v 6) 0)), (.agg [(.int .i64 (.i 11)), (.str (.v 12)), (.str (.s [])), (.int .i64 (.i 0)), (.int .i64 (.i 0)), (.sl .nil (.n 0) (.n 0))])] [((.b (.v 6)), (.prop 45))] [.i, .i, .i, .i, .a, .n, .n, .p, .a, .n, .n, .p, .p] (.w (.agg [(.int .i64 (.v 47)), (.int .i64 (.v 48)), (.int .i64 (.v 49)), (.int .i64 (.v 50)), (.sl (.v 51) (.v 52) (.v 53)), (.sl (.v 55) (.v 56) (.v 57))])) [((.a 51), (.prop 54)), ((.a 55), (.prop 58)), ((.b (.v 6)), (.prop 59))]
            (.new
            (.again 0 [(.n (.v 46)), (.n (.v 60)), (.e (.o1 .neg (.o1 .neg (.v 47)))), (.e (.o1 .neg (.o1 .neg (.v 48)))), (.e (.o1 .neg (.o1 .neg (.v 49)))), (.e (.o1 .neg (.o1 .neg (.v 50)))), (.a (.v 51)), (.e (.o2 .nadd (.v 52) (.n 0))), (.e (.o2 .nadd (.v 53) (.n 0))), (.a (.v 55)), (.e (.o2 .nadd (.v 56) (.n 0))), (.e (.o2 .nadd (.v 57) (.n 0))), (.e (.o1 .neg (.o1 .neg (.v 33)))), (.e (.o1 .neg (.o1 .neg (.v 34)))), (.e (.o1 .neg (.o1 .neg (.v 35)))), (.e (.o1 .neg (.o1 .neg (.v 36)))), (.a (.v 37)), (.e (.o2 .nadd (.v 38) (.n 0))), (.e (.o2 .nadd (.v 39) (.n 0))), (.a (.v 41)), (.e (.o2 .nadd (.v 42) (.n 0))), (.e (.o2 .nadd (.v 43) (.n 0))), (.p [((.a 51), (.prop 54))]), (.p [((.a 55), (.prop 58))]), (.p [((.b (.v 6)), (.prop 59))]), (.p [((.a 37), (.prop 40))]), (.p [((.a 41), (.prop 44))])])))
            (.new
            (.call 18 [(.a (.ptr (.v 6) 0)), (.agg [(.int .i64 (.i 11)), (.str (.v 12)), (.str (.s [])), (.int .i64 (.i 0)), (.int .i64 (.i 0)), (.sl .nil (.n 0) (.n 0))])] [((.b (.v 6)), (.prop 45))] [.i, .i, .i, .i, .a, .n, .n, .p, .a, .n, .n, .p, .p] (.w (.agg [(.int .i64 (.v 48)), (.int .i64 (.v 49)), (.int .i64 (.v 50)), (.int .i64 (.v 51)), (.sl (.v 52) (.v 53) (.v 54)), (.sl (.v 56) (.v 57) (.v 58))])) [((.a 52), (.prop 55)), ((.a 56), (.prop 59)), ((.b (.v 6)), (.prop 60))]
            (.again 0 [(.n (.v 46)), (.n (.v 47)), (.e (.o1 .neg (.o1 .neg (.v 48)))), (.e (.o1 .neg (.o1 .neg (.v 49)))), (.e (.o1 .neg (.o1 .neg (.v 50)))), (.e (.o1 .neg (.o1 .neg (.v 51)))), (.a (.v 52)), (.e (.o2 .nadd (.v 53) (.n 0))), (.e (.o2 .nadd (.v 54) (.n 0))), (.a (.v 56)), (.e (.o2 .nadd (.v 57) (.n 0))), (.e (.o2 .nadd (.v 58) (.n 0))), (.e (.o1 .neg (.o1 .neg (.v 33)))), (.e (.o1 .neg (.o1 .neg (.v 34)))), (.e (.o1 .neg (.o1 .neg (.v 35)))), (.e (.o1 .neg (.o1 .neg (.v 36)))), (.a (.v 37)), (.e (.o2 .nadd (.v 38) (.n 0))), (.e (.o2 .nadd (.v 39) (.n 0))), (.a (.v 41)), (.e (.o2 .nadd (.v 42) (.n 0))), (.e (.o2 .nadd (.v 43) (.n 0))), (.p [((.a 52), (.prop 55))]), (.p [((.a 56), (.prop 59))]), (.p [((.b (.v 6)), (.prop 60))]), (.p [((.a 37), (.prop 40))]), (.p [((.a 41), (.prop 44))])])))))
           (.new
           (.all
            (.call 18 [(.a (.ptr (.v 6) 0)), (.agg [(.int .i64 (.i 11)), (.str (.v 12)), (.str (.s [])), (.int .i64 (.i 0)), (.int .i64 (.i 0)), (.sl .nil (.n 0) (.n 0))])] [((.b (.v 6)), (.prop 45))] [.i, .i, .i, .i, .a, .n, .n, .p, .a, .n, .n, .p, .p] (.w (.agg [(.int .i64 (.v 47)), (.int .i64 (.v 48)), (.int .i64 (.v 49)), (.int .i64 (.v 50)), (.sl (.v 51) (.v 52) (.v 53)), (.sl (.v 55) (.v 56) (.v 57))])) [((.a 51), (.prop 54)), ((.a 55), (.prop 58)), ((.b (.v 6)), (.prop 59))]
            (.new
            (.again 0 [(.n (.v 60)), (.n (.v 46)), (.e (.o1 .neg (.o1 .neg (.v 47)))), (.e (.o1 .neg (.o1 .neg (.v 48)))), (.e (.o1 .neg (.o1 .neg (.v 49)))), (.e (.o1 .neg (.o1 .neg (.v 50)))), (.a (.v 51)), (.e (.o2 .nadd (.v 52) (.n 0))), (.e (.o2 .nadd (.v 53) (.n 0))), (.a (.v 55)), (.e (.o2 .nadd (.v 56) (.n 0))), (.e (.o2 .nadd (.v 57) (.n 0))), (.e (.o1 .neg (.o1 .neg (.v 33)))), (.e (.o1 .neg (.o1 .neg (.v 34)))), (.e (.o1 .neg (.o1 .neg (.v 35)))), (.e (.o1 .neg (.o1 .neg (.v 36)))), (.a (.v 37)), (.e (.o2 .nadd (.v 38) (.n 0))), (.e (.o2 .nadd (.v 39) (.n 0))), (.a (.v 41)), (.e (.o2 .nadd (.v 42) (.n 0))), (.e (.o2 .nadd (.v 43) (.n 0))), (.p [((.a 51), (.prop 54))]), (.p [((.a 55), (.prop 58))]), (.p [((.b (.v 6)), (.prop 59))]), (.p [((.a 37), (.prop 40))]), (.p [((.a 41), (.prop 44))])])))
            (.new
            (.call 18 [(.a (.ptr (.v 6) 0)), (.agg [(.int .i64 (.i 11)), (.str (.v 12)), (.str (.s [])), (.int .i64 (.i 0)), (.int .i64 (.i 0)), (.sl .nil (.n 0) (.n 0))])] [((.b (.v 6)), (.prop 45))] [.i, .i, .i, .i, .a, .n, .n, .p, .a, .n, .n, .p, .p] (.w (.agg [(.int .i64 (.v 48)), (.int .i64 (.v 49)), (.int .i64 (.v 50)), (.int .i64 (.v 51)), (.sl (.v 52) (.v 53) (.v 54)), (.sl (.v 56) (.v 57) (.v 58))])) [((.a 52), (.prop 55)), ((.a 56), (.prop 59)), ((.b (.v 6)), (.prop 60))]
            (.again 0 [(.n (.v 47)), (.n (.v 46)), (.e (.o1 .neg (.o1 .neg (.v 48)))), (.e (.o1 .neg (.o1 .neg (.v 49)))), (.e (.o1 .neg (.o1 .neg (.v 50)))), (.e (.o1 .neg (.o1 .neg (.v 51)))), (.a (.v 52)), (.e (.o2 .nadd (.v 53) (.n 0))), (.e (.o2 .nadd (.v 54) (.n 0))), (.a (.v 56)), (.e (.o2 .nadd (.v 57) (.n 0))), (.e (.o2 .nadd (.v 58) (.n 0))), (.e (.o1 .neg (.o1 .neg (.v 33)))), (.e (.o1 .neg (.o1 .neg (.v 34)))), (.e (.o1 .neg (.o1 .neg (.v 35)))), (.e (.o1 .neg (.o1 .neg (.v 36)))), (.a (.v 37)), (.e (.o2 .nadd (.v 38) (.n 0))), (.e (.o2 .nadd (.v 39) (.n 0))), (.a (.v 41)), (.e (.o2 .nadd (.v 42) (.n 0))), (.e (.o2 .nadd (.v 43) (.n 0))), (.p [((.a 52), (.prop 55))]), (.p [((.a 56), (.prop 59))]), (.p [((.b (.v 6)), (.prop 60))]), (.p [((.a 37), (.prop 40))]), (.p [((.a 41), (.prop 44))])]))))))))
         (.all
          (.new
          (.all
           (.call 18 [(.a (.ptr (.v 6) 0)), (.agg [(.int .i64 (.i 10)), (.str (.v 12)), (.str (.s [])), (.int .i64 (.i 0)), (.int .i64 (.i 0)), (.sl .nil (.n 0) (.n 0))])] [((.b (.v 6)), (.prop 32))] [.i, .i, .i, .i, .a, .n, .n, .p, .a, .n, .n, .p, .p] (.w (.agg [(.int .i64 (.v 34)), (.int .i64 (.v 35)), (.int .i64 (.v 36)), (.int .i64 (.v 37)), (.sl (.v 38) (.v 39) (.v 40)), (.sl (.v 42) (.v 43) (.v 44))])) [((.a 38), (.prop 41)), ((.a 42), (.prop 45)), ((.b (.v 6)), (.prop 46))]
           (.all
            (.call 18 [(.a (.ptr (.v 6) 0)), (.agg [(.int .i64 (.i 11)), (.str (.v 12)), (.str (.s [])), (.int .i64 (.i 0)), (.int .i64 (.i 0)), (.sl .nil (.n 0) (.n 0))])] [((.b (.v 6)), (.prop 46))] [.i, .i, .i, .i, .a, .n, .n, .p, .a, .n, .n, .p, .p] (.w (.agg [(.int .i64 (.v 47)), (.int .i64 (.v 48)), (.int .i64 (.v 49)), (.int .i64 (.v 50)), (.sl (.v 51) (.v 52) (.v 53)), (.sl (.v 55) (.v 56) (.v 57))])) [((.a 51), (.prop 54)), ((.a 55), (.prop 58)), ((.b (.v 6)), (.prop 59))]
            (.new
            (.again 0 [(.n (.v 33)), (.n (.v 60)), (.e (.o1 .neg (.o1 .neg (.v 47)))), (.e (.o1 .neg (.o1 .neg (.v 48)))), (.e (.o1 .neg (.o1 .neg (.v 49)))), (.e (.o1 .neg (.o1 .neg (.v 50)))), (.a (.v 51)), (.e (.o2 .nadd (.v 52) (.n 0))), (.e (.o2 .nadd (.v 53) (.n 0))), (.a (.v 55)), (.e (.o2 .nadd (.v 56) (.n 0))), (.e (.o2 .nadd (.v 57) (.n 0))), (.e (.o1 .neg (.o1 .neg (.v 34)))), (.e (.o1 .neg (.o1 .neg (.v 35)))), (.e (.o1 .neg (.o1 .neg (.v 36)))), (.e (.o1 .neg (.o1 .neg (.v 37)))), (.a (.v 38)), (.e (.o2 .nadd (.v 39) (.n 0))), (.e (.o2 .nadd (.v 40) (.n 0))), (.a (.v 42)), (.e (.o2 .nadd (.v 43) (.n 0))), (.e (.o2 .nadd (.v 44) (.n 0))), (.p [((.a 51), (.prop 54))]), (.p [((.a 55), (.prop 58))]), (.p [((.b (.v 6)), (.prop 59))]), (.p [((.a 38), (.prop 41))]), (.p [((.a 42), (.prop 45))])])))
            (.new
            (.call 18 [(.a (.ptr (.v 6) 0)), (.agg [(.int .i64 (.i 11)), (.str (.v 12)), (.str (.s [])), (.int .i64 (.i 0)), (.int .i64 (.i 0)), (.sl .nil (.n 0) (.n 0))])] [((.b (.v 6)), (.prop 46))] [.i, .i, .i, .i, .a, .n, .n, .p, .a, .n, .n, .p, .p] (.w (.agg [(.int .i64 (.v 48)), (.int .i64 (.v 49)), (.int .i64 (.v 50)), (.int .i64 (.v 51)), (.sl (.v 52) (.v 53) (.v 54)), (.sl (.v 56) (.v 57) (.v 58))])) [((.a 52), (.prop 55)), ((.a 56), (.prop 59)), ((.b (.v 6)), (.prop 60))]
            (.again 0 [(.n (.v 33)), (.n (.v 47)), (.e (.o1 .neg (.o1 .neg (.v 48)))), (.e (.o1 .neg (.o1 .neg (.v 49)))), (.e (.o1 .neg (.o1 .neg (.v 50)))), (.e (.o1 .neg (.o1 .neg (.v 51)))), (.a (.v 52)), (.e (.o2 .nadd (.v 53) (.n 0))), (.e (.o2 .nadd (.v 54) (.n 0))), (.a (.v 56)), (.e (.o2 .nadd (.v 57) (.n 0))), (.e (.o2 .nadd (.v 58) (.n 0))), (.e (.o1 .neg (.o1 .neg (.v 34)))), (.e (.o1 .neg (.o1 .neg (.v 35)))), (.e (.o1 .neg (.o1 .neg (.v 36)))), (.e (.o1 .neg (.o1 .neg (.v 37)))), (.a (.v 38)), (.e (.o2 .nadd (.v 39) (.n 0))), (.e (.o2 .nadd (.v 40) (.n 0))), (.a (.v 42)), (.e (.o2 .nadd (.v 43) (.n 0))), (.e (.o2 .nadd (.v 44) (.n 0))), (.p [((.a 52), (.prop 55))]), (.p [((.a 56), (.prop 59))]), (.p [((.b (.v 6)), (.prop 60))]), (.p [((.a 38), (.prop 41))]), (.p [((.a 42), (.prop 45))])])))))
           (.new
           (.call 18 [(.a (.ptr (.v 6) 0)), (.agg [(.int .i64 (.i 10)), (.str (.v 12)), (.str (.s [])), (.int .i64 (.i 0)), (.int .i64 (.i 0)), (.sl .nil (.n 0) (.n 0))])] [((.b (.v 6)), (.prop 32))] [.i, .i, .i, .i, .a, .n, .n, .p, .a, .n, .n, .p, .p] (.w (.agg [(.int .i64 (.v 35)), (.int .i64 (.v 36)), (.int .i64 (.v 37)), (.int .i64 (.v 38)), (.sl (.v 39) (.v 40) (.v 41)), (.sl (.v 43) (.v 44) (.v 45))])) [((.a 39), (.prop 42)), ((.a 43), (.prop 46)), ((.b (.v 6)), (.prop 47))]
           (.call 18 [(.a (.ptr (.v 6) 0)), (.agg [(.int .i64 (.i 11)), (.str (.v 12)), (.str (.s [])), (.int .i64 (.i 0)), (.int .i64 (.i 0)), (.sl .nil (.n 0) (.n 0))])] [((.b (.v 6)), (.prop 47))] [.i, .i, .i, .i, .a, .n, .n, .p, .a, .n, .n, .p, .p] (.w (.agg [(.int .i64 (.v 48)), (.int .i64 (.v 49)), (.int .i64 (.v 50)), (.int .i64 (.v 51)), (.sl (.v 52) (.v 53) (.v 54)), (.sl (.v 56) (.v 57) (.v 58))])) [((.a 52), (.prop 55)), ((.a 56), (.prop 59)), ((.b (.v 6)), (.prop 60))]
           (.again 0 [(.n (.v 33)), (.n (.v 34)), (.e (.o1 .neg (.o1 .neg (.v 48)))), (.e (.o1 .neg (.o1 .neg (.v 49)))), (.e (.o1 .neg (.o1 .neg (.v 50)))), (.e (.o1 .neg (.o1 .neg (.v 51)))), (.a (.v 52)), (.e (.o2 .nadd (.v 53) (.n 0))), (.e (.o2 .nadd (.v 54) (.n 0))), (.a (.v 56)), (.e (.o2 .nadd (.v 57) (.n 0))), (.e (.o2 .nadd (.v 58) (.n 0))), (.e (.o1 .neg (.o1 .neg (.v 35)))), (.e (.o1 .neg (.o1 .neg (.v 36)))), (.e (.o1 .neg (.o1 .neg (.v 37)))), (.e (.o1 .neg (.o1 .neg (.v 38)))), (.a (.v 39)), (.e (.o2 .nadd (.v 40) (.n 0))), (.e (.o2 .nadd (.v 41) (.n 0))), (.a (.v 43)), (.e (.o2 .nadd (.v 44) (.n 0))), (.e (.o2 .nadd (.v 45) (.n 0))), (.p [((.a 52), (.prop 55))]), (.p [((.a 56), (.prop 59))]), (.p [((.b (.v 6)), (.prop 60))]), (.p [((.a 39), (.prop 42))]), (.p [((.a 43), (.prop 46))])]))))))
          (.new
          (.all
           (.call 18 [(.a (.ptr (.v 6) 0)), (.agg [(.int .i64 (.i 10)), (.str (.v 12)), (.str (.s [])), (.int .i64 (.i 0)), (.int .i64 (.i 0)), (.sl .nil (.n 0) (.n 0))])] [((.b (.v 6)), (.prop 32))] [.i, .i, .i, .i, .a, .n, .n, .p, .a, .n, .n, .p, .p] (.w (.agg [(.int .i64 (.v 34)), (.int .i64 (.v 35)), (.int .i64 (.v 36)), (.int .i64 (.v 37)), (.sl (.v 38) (.v 39) (.v 40)), (.sl (.v 42) (.v 43) (.v 44))])) [((.a 38), (.prop 41)), ((.a 42), (.prop 45)), ((.b (.v 6)), (.prop 46))]
           (.all
            (.call 18 [(.a (.ptr (.v 6) 0)), (.agg [(.int .i64 (.i 11)), (.str (.v 12)), (.str (.s [])), (.int .i64 (.i 0)), (.int .i64 (.i 0)), (.sl .nil (.n 0) (.n 0))])] [((.b (.v 6)), (.prop 46))] [.i, .i, .i, .i, .a, .n, .n, .p, .a, .n, .n, .p, .p] (.w (.agg [(.int .i64 (.v 47)), (.int .i64 (.v 48)), (.int .i64 (.v 49)), (.int .i64 (.v 50)), (.sl (.v 51) (.v 52) (.v 53)), (.sl (.v 55) (.v 56) (.v 57))])) [((.a 51), (.prop 54)), ((.a 55), (.prop 58)), ((.b (.v 6)), (.prop 59))]
            (.new
            (.again 0 [(.n (.v 60)), (.n (.v 33)), (.e (.o1 .neg (.o1 .neg (.v 47)))), (.e (.o1 .neg (.o1 .neg (.v 48)))), (.e (.o1 .neg (.o1 .neg (.v 49)))), (.e (.o1 .neg (.o1 .neg (.v 50)))), (.a (.v 51)), (.e (.o2 .nadd (.v 52) (.n 0))), (.e (.o2 .nadd (.v 53) (.n 0))), (.a (.v 55)), (.e (.o2 .nadd (.v 56) (.n 0))), (.e (.o2 .nadd (.v 57) (.n 0))), (.e (.o1 .neg (.o1 .neg (.v 34)))), (.e (.o1 .neg (.o1 .neg (.v 35)))), (.e (.o1 .neg (.o1 .neg (.v 36)))), (.e (.o1 .neg (.o1 .neg (.v 37)))), (.a (.v 38)), (.e (.o2 .nadd (.v 39) (.n 0))), (.e (.o2 .nadd (.v 40) (.n 0))), (.a (.v 42)), (.e (.o2 .nadd (.v 43) (.n 0))), (.e (.o2 .nadd (.v 44) (.n 0))), (.p [((.a 51), (.prop 54))]), (.p [((.a 55), (.prop 58))]), (.p [((.b (.v 6)), (.prop 59))]), (.p [((.a 38), (.prop 41))]), (.p [((.a 42), (.prop 45))])])))
            (.new
            (.call 18 [(.a (.ptr (.v 6) 0)), (.agg [(.int .i64 (.i 11)), (.str (.v 12)), (.str (.s [])), (.int .i64 (.i 0)), (.int .i64 (.i 0)), (.sl .nil (.n 0) (.n 0))])] [((.b (.v 6)), (.prop 46))] [.i, .i, .i, .i, .a, .n, .n, .p, .a, .n, .n, .p, .p] (.w (.agg [(.int .i64 (.v 48)), (.int .i64 (.v 49)), (.int .i64 (.v 50)), (.int .i64 (.v 51)), (.sl (.v 52) (.v 53) (.v 54)), (.sl (.v 56) (.v 57) (.v 58))])) [((.a 52), (.prop 55)), ((.a 56), (.prop 59)), ((.b (.v 6)), (.prop 60))]
            (.again 0 [(.n (.v 47)), (.n (.v 33)), (.e (.o1 .neg (.o1 .neg (.v 48)))), (.e (.o1 .neg (.o1 .neg (.v 49)))), (.e (.o1 .neg (.o1 .neg (.v 50)))), (.e (.o1 .neg (.o1 .neg (.v 51)))), (.a (.v 52)), (.e (.o2 .nadd (.v 53) (.n 0))), (.e (.o2 .nadd (.v 54) (.n 0))), (.a (.v 56)), (.e (.o2 .nadd (.v 57) (.n 0))), (.e (.o2 .nadd (.v 58) (.n 0))), (.e (.o1 .neg (.o1 .neg (.v 34)))), (.e (.o1 .neg (.o1 .neg (.v 35)))), (.e (.o1 .neg (.o1 .neg (.v 36)))), (.e (.o1 .neg (.o1 .neg (.v 37)))), (.a (.v 38)), (.e (.o2 .nadd (.v 39) (.n 0))), (.e (.o2 .nadd (.v 40) (.n 0))), (.a (.v 42)), (.e (.o2 .nadd (.v 43) (.n 0))), (.e (.o2 .nadd (.v 44) (.n 0))), (.p [((.a 52), (.prop 55))]), (.p [((.a 56), (.prop 59))]), (.p [((.b (.v 6)), (.prop 60))]), (.p [((.a 38), (.prop 41))]), (.p [((.a 42), (.prop 45))])])))))
           (.new
           (.call 18 [(.a (.ptr (.v 6) 0)), (.agg [(.int .i64 (.i 10)), (.str (.v 12)), (.str (.s [])), (.int .i64 (.i 0)), (.int .i64 (.i 0)), (.sl .nil (.n 0) (.n 0))])] [((.b (.v 6)), (.prop 32))] [.i, .i, .i, .i, .a, .n, .n, .p, .a, .n, .n, .p, .p] (.w (.agg [(.int .i64 (.v 35)), (.int .i64 (.v 36)), (.int .i64 (.v 37)), (.int .i64 (.v 38)), (.sl (.v 39) (.v 40) (.v 41)), (.sl (.v 43) (.v 44) (.v 45))])) [((.a 39), (.prop 42)), ((.a 43), (.prop 46)), ((.b (.v 6)), (.prop 47))]
           (.call 18 [(.a (.ptr (.v 6) 0)), (.agg [(.int .i64 (.i 11)), (.str (.v 12)), (.str (.s [])), (.int .i64 (.i 0)), (.int .i64 (.i 0)), (.sl .nil (.n 0) (.n 0))])] [((.b (.v 6)), (.prop 47))] [.i, .i, .i, .i, .a, .n, .n, .p, .a, .n, .n, .p, .p] (.w (.agg [(.int .i64 (.v 48)), (.int .i64 (.v 49)), (.int .i64 (.v 50)), (.int .i64 (.v 51)), (.sl (.v 52) (.v 53) (.v 54)), (.sl (.v 56) (.v 57) (.v 58))])) [((.a 52), (.prop 55)), ((.a 56), (.prop 59)), ((.b (.v 6)), (.prop 60))]
           (.again 0 [(.n (.v 34)), (.n (.v 33)), (.e (.o1 .neg (.o1 .neg (.v 48)))), (.e (.o1 .neg (.o1 .neg (.v 49)))), (.e (.o1 .neg (.o1 .neg (.v 50)))), (.e (.o1 .neg (.o1 .neg (.v 51)))), (.a (.v 52)), (.e (.o2 .nadd (.v 53) (.n 0))), (.e (.o2 .nadd (.v 54) (.n 0))), (.a (.v 56)), (.e (.o2 .nadd (.v 57) (.n 0))), (.e (.o2 .nadd (.v 58) (.n 0))), (.e (.o1 .neg (.o1 .neg (.v 35)))), (.e (.o1 .neg (.o1 .neg (.v 36)))), (.e (.o1 .neg (.o1 .neg (.v 37)))), (.e (.o1 .neg (.o1 .neg (.v 38)))), (.a (.v 39)), (.e (.o2 .nadd (.v 40) (.n 0))), (.e (.o2 .nadd (.v 41) (.n 0))), (.a (.v 43)), (.e (.o2 .nadd (.v 44) (.n 0))), (.e (.o2 .nadd (.v 45) (.n 0))), (.p [((.a 52), (.prop 55))]), (.p [((.a 56), (.prop 59))]), (.p [((.b (.v 6)), (.prop 60))]), (.p [((.a 39), (.prop 42))]), (.p [((.a 43), (.prop 46))])]))))))))
        (.all
         (.new
         (.all
          (.call 18 [(.a (.ptr (.v 6) 0)), (.agg [(.int .i64 (.i 10)), (.str (.v 12)), (.str (.s [])), (.int .i64 (.i 0)), (.int .i64 (.i 0)), (.sl .nil (.n 0) (.n 0))])] [((.b (.v 6)), (.prop 32))] [.i, .i, .i, .i, .a, .n, .n, .p, .a, .n, .n, .p, .p] (.w (.agg [(.int .i64 (.v 34)), (.int .i64 (.v 35)), (.int .i64 (.v 36)), (.int .i64 (.v 37)), (.sl (.v 38) (.v 39) (.v 40)), (.sl (.v 42) (.v 43) (.v 44))])) [((.a 38), (.prop 41)), ((.a 42), (.prop 45)), ((.b (.v 6)), (.prop 46))]
          (.all
           (.all
            (.call 18 [(.a (.ptr (.v 6) 0)), (.agg [(.int .i64 (.i 11)), (.str (.v 12)), (.str (.s [])), (.int .i64 (.i 0)), (.int .i64 (.i 0)), (.sl .nil (.n 0) (.n 0))])] [((.b (.v 6)), (.prop 46))] [.i, .i, .i, .i, .a, .n, .n, .p, .a, .n, .n, .p, .p] (.w (.agg [(.int .i64 (.v 47)), (.int .i64 (.v 48)), (.int .i64 (.v 49)), (.int .i64 (.v 50)), (.sl (.v 51) (.v 52) (.v 53)), (.sl (.v 55) (.v 56) (.v 57))])) [((.a 51), (.prop 54)), ((.a 55), (.prop 58)), ((.b (.v 6)), (.prop 59))]
            (.new
            (.again 0 [(.n (.v 33)), (.n (.v 60)), (.e (.o1 .neg (.o1 .neg (.v 47)))), (.e (.o1 .neg (.o1 .neg (.v 48)))), (.e (.o1 .neg (.o1 .neg (.v 49)))), (.e (.o1 .neg (.o1 .neg (.v 50)))), (.a (.v 51)), (.e (.o2 .nadd (.v 52) (.n 0))), (.e (.o2 .nadd (.v 53) (.n 0))), (.a (.v 55)), (.e (.o2 .nadd (.v 56) (.n 0))), (.e (.o2 .nadd (.v 57) (.n 0))), (.e (.o1 .neg (.o1 .neg (.v 34)))), (.e (.o1 .neg (.o1 .neg (.v 35)))), (.e (.o1 .neg (.o1 .neg (.v 36)))), (.e (.o1 .neg (.o1 .neg (.v 37)))), (.a (.v 38)), (.e (.o2 .nadd (.v 39) (.n 0))), (.e (.o2 .nadd (.v 40) (.n 0))), (.a (.v 42)), (.e (.o2 .nadd (.v 43) (.n 0))), (.e (.o2 .nadd (.v 44) (.n 0))), (.p [((.a 51), (.prop 54))]), (.p [((.a 55), (.prop 58))]), (.p [((.b (.v 6)), (.prop 59))]), (.p [((.a 38), (.prop 41))]), (.p [((.a 42), (.prop 45))])])))
            (.new
            (.call 18 [(.a (.ptr (.v 6) 0)), (.agg [(.int .i64 (.i 11)), (.str (.v 12)), (.str (.s [])), (.int .i64 (.i 0)), (.int .i64 (.i 0)), (.sl .nil (.n 0) (.n 0))])] [((.b (.v 6)), (.prop 46))] [.i, .i, .i, .i, .a, .n, .n, .p, .a, .n, .n, .p, .p] (.w (.agg [(.int .i64 (.v 48)), (.int .i64 (.v 49)), (.int .i64 (.v 50)), (.int .i64 (.v 51)), (.sl (.v 52) (.v 53) (.v 54)), (.sl (.v 56) (.v 57) (.v 58))])) [((.a 52), (.prop 55)), ((.a 56), (.prop 59)), ((.b (.v 6)), (.prop 60))]
            (.again 0 [(.n (.v 33)), (.n (.v 47)), (.e (.o1 .neg (.o1 .neg (.v 48)))), (.e (.o1 .neg (.o1 .neg (.v 49)))), (.e (.o1 .neg (.o1 .neg (.v 50)))), (.e (.o1 .neg (.o1 .neg (.v 51)))), (.a (.v 52)), (.e (.o2 .nadd (.v 53) (.n 0))), (.e (.o2 .nadd (.v 54) (.n 0))), (.a (.v 56)), (.e (.o2 .nadd (.v 57) (.n 0))), (.e (.o2 .nadd (.v 58) (.n 0))), (.e (.o1 .neg (.o1 .neg (.v 34)))), (.e (.o1 .neg (.o1 .neg (.v 35)))), (.e (.o1 .neg (.o1 .neg (.v 36)))), (.e (.o1 .neg (.o1 .neg (.v 37)))), (.a (.v 38)), (.e (.o2 .nadd (.v 39) (.n 0))), (.e (.o2 .nadd (.v 40) (.n 0))), (.a (.v 42)), (.e (.o2 .nadd (.v 43) (.n 0))), (.e (.o2 .nadd (.v 44) (.n 0))), (.p [((.a 52), (.prop 55))]), (.p [((.a 56), (.prop 59))]), (.p [((.b (.v 6)), (.prop 60))]), (.p [((.a 38), (.prop 41))]), (.p [((.a 42), (.prop 45))])]))))
           (.new
           (.call 18 [(.a (.ptr (.v 6) 0)), (.agg [(.int .i64 (.i 11)), (.str (.v 12)), (.str (.s [])), (.int .i64 (.i 0)), (.int .i64 (.i 0)), (.sl .nil (.n 0) (.n 0))])] [((.b (.v 6)), (.prop 46))] [.i, .i, .i, .i, .a, .n, .n, .p, .a, .n, .n, .p, .p] (.w (.agg [(.int .i64 (.v 48)), (.int .i64 (.v 49)), (.int .i64 (.v 50)), (.int .i64 (.v 51)), (.sl (.v 52) (.v 53) (.v 54)), (.sl (.v 56) (.v 57) (.v 58))])) [((.a 52), (.prop 55)), ((.a 56), (.prop 59)), ((.b (.v 6)), (.prop 60))]
           (.again 0 [(.n (.v 33)), (.n (.v 47)), (.e (.o1 .neg (.o1 .neg (.v 48)))), (.e (.o1 .neg (.o1 .neg (.v 49)))), (.e (.o1 .neg (.o1 .neg (.v 50)))), (.e (.o1 .neg (.o1 .neg (.v 51)))), (.a (.v 52)), (.e (.o2 .nadd (.v 53) (.n 0))), (.e (.o2 .nadd (.v 54) (.n 0))), (.a (.v 56)), (.e (.o2 .nadd (.v 57) (.n 0))), (.e (.o2 .nadd (.v 58) (.n 0))), (.e (.o1 .neg (.o1 .neg (.v 34)))), (.e (.o1 .neg (.o1 .neg (.v 35)))), (.e (.o1 .neg (.o1 .neg (.v 36)))), (.e (.o1 .neg (.o1 .neg (.v 37)))), (.a (.v 38)), (.e (.o2 .nadd (.v 39) (.n 0))), (.e (.o2 .nadd (.v 40) (.n 0))), (.a (.v 42)), (.e (.o2 .nadd (.v 43) (.n 0))), (.e (.o2 .nadd (.v 44) (.n 0))), (.p [((.a 52), (.prop 55))]), (.p [((.a 56), (.prop 59))]), (.p [((.b (.v 6)), (.prop 60))]), (.p [((.a 38), (.prop 41))]), (.p [((.a 42), (.prop 45))])])))))
          (.all
           (.all
            (.call 18 [(.a (.ptr (.v 6) 0)), (.agg [(.int .i64 (.i 10)), (.str (.v 12)), (.str (.s [])), (.int .i64 (.i 0)), (.int .i64 (.i 0)), (.sl .nil (.n 0) (.n 0))])] [((.b (.v 6)), (.prop 32))] [.i, .i, .i, .i, .a, .n, .n, .p, .a, .n, .n, .p, .p] (.w (.agg [(.int .i64 (.v 34)), (.int .i64 (.v 35)), (.int .i64 (.v 36)), (.int .i64 (.v 37)), (.sl (.v 38) (.v 39) (.v 40)), (.sl (.v 42) (.v 43) (.v 44))])) [((.a 38), (.prop 41)), ((.a 42), (.prop 45)), ((.b (.v 6)), (.prop 46))]
            (.all
             (.call 18 [(.a (.ptr (.v 6) 0)), (.agg [(.int .i64 (.i 11)), (.str (.v 12)), (.str (.s [])), (.int .i64 (.i 0)), (.int .i64 (.i 0)), (.sl .nil (.n 0) (.n 0))])] [((.b (.v 6)), (.prop 46))] [.i, .i, .i, .i, .a, .n, .n, .p, .a, .n, .n, .p, .p] (.w (.agg [(.int .i64 (.v 47)), (.int .i64 (.v 48)), (.int .i64 (.v 49)), (.int .i64 (.v 50)), (.sl (.v 51) (.v 52) (.v 53)), (.sl (.v 55) (.v 56) (.v 57))])) [((.a 51), (.prop 54)), ((.a 55), (.prop 58)), ((.b (.v 6)), (.prop 59))]
             (.new
             (.again 0 [(.n (.v 33)), (.n (.v 60)), (.e (.o1 .neg (.o1 .neg (.v 47)))), (.e (.o1 .neg (.o1 .neg (.v 48)))), (.e (.o1 .neg (.o1 .neg (.v 49)))), (.e (.o1 .neg (.o1 .neg (.v 50)))), (.a (.v 51)), (.e (.o2 .nadd (.v 52) (.n 0))), (.e (.o2 .nadd (.v 53) (.n 0))), (.a (.v 55)), (.e (.o2 .nadd (.v 56) (.n 0))), (.e (.o2 .nadd (.v 57) (.n 0))), (.e (.o1 .neg (.o1 .neg (.v 34)))), (.e (.o1 .neg (.o1 .neg (.v 35)))), (.e (.o1 .neg (.o1 .neg (.v 36)))), (.e (.o1 .neg (.o1 .neg (.v 37)))), (.a (.v 38)), (.e (.o2 .nadd (.v 39) (.n 0))), (.e (.o2 .nadd (.v 40) (.n 0))), (.a (.v 42)), (.e (.o2 .nadd (.v 43) (.n 0))), (.e (.o2 .nadd (.v 44) (.n 0))), (.p [((.a 51), (.prop 54))]), (.p [((.a 55), (.prop 58))]), (.p [((.b (.v 6)), (.prop 59))]), (.p [((.a 38), (.prop 41))]), (.p [((.a 42), (.prop 45))])])))
             (.new
             (.call 18 [(.a (.ptr (.v 6) 0)), (.agg [(.int .i64 (.i 11)), (.str (.v 12)), (.str (.s [])), (.int .i64 (.i 0)), (.int .i64 (.i 0)), (.sl .nil (.n 0) (.n 0))])] [((.b (.v 6)), (.prop 46))] [.i, .i, .i, .i, .a, .n, .n, .p, .a, .n, .n, .p, .p] (.w (.agg [(.int .i64 (.v 48)), (.int .i64 (.v 49)), (.int .i64 (.v 50)), (.int .i64 (.v 51)), (.sl (.v 52) (.v 53) (.v 54)), (.sl (.v 56) (.v 57) (.v 58))])) [((.a 52), (.prop 55)), ((.a 56), (.prop 59)), ((.b (.v 6)), (.prop 60))]
             (.again 0 [(.n (.v 33)), (.n (.v 47)), (.e (.o1 .neg (.o1 .neg (.v 48)))), (.e (.o1 .neg (.o1 .neg (.v 49)))), (.e (.o1 .neg (.o1 .neg (.v 50)))), (.e (.o1 .neg (.o1 .neg (.v 51)))), (.a (.v 52)), (.e (.o2 .nadd (.v 53) (.n 0))), (.e (.o2 .nadd (.v 54) (.n 0))), (.a (.v 56)), (.e (.o2 .nadd (.v 57) (.n 0))), (.e (.o2 .nadd (.v 58) (.n 0))), (.e (.o1 .neg (.o1 .neg (.v 34)))), (.e (.o1 .neg (.o1 .neg (.v 35)))), (.e (.o1 .neg (.o1 .neg (.v 36)))), (.e (.o1 .neg (.o1 .neg (.v 37)))), (.a (.v 38)), (.e (.o2 .nadd (.v 39) (.n 0))), (.e (.o2 .nadd (.v 40) (.n 0))), (.a (.v 42)), (.e (.o2 .nadd (.v 43) (.n 0))), (.e (.o2 .nadd (.v 44) (.n 0))), (.p [((.a 52), (.prop 55))]), (.p [((.a 56), (.prop 59))]), (.p [((.b (.v 6)), (.prop 60))]), (.p [((.a 38), (.prop 41))]), (.p [((.a 42), (.prop 45))])])))))
            (.new
            (.call 18 [(.a (.ptr (.v 6) 0)), (.agg [(.int .i64 (.i 10)), (.str (.v 12)), (.str (.s [])), (.int .i64 (.i 0)), (.int .i64 (.i 0)), (.sl .nil (.n 0) (.n 0))])] [((.b (.v 6)), (.prop 32))] [.i, .i, .i, .i, .a, .n, .n, .p, .a, .n, .n, .p, .p] (.w (.agg [(.int .i64 (.v 35)), (.int .i64 (.v 36)), (.int .i64 (.v 37)), (.int .i64 (.v 38)), (.sl (.v 39) (.v 40) (.v 41)), (.sl (.v 43) (.v 44) (.v 45))])) [((.a 39), (.prop 42)), ((.a 43), (.prop 46)), ((.b (.v 6)), (.prop 47))]
            (.call 18 [(.a (.ptr (.v 6) 0)), (.agg [(.int .i64 (.i 11)), (.str (.v 12)), (.str (.s [])), (.int .i64 (.i 0)), (.int .i64 (.i 0)), (.sl .nil (.n 0) (.n 0))])] [((.b (.v 6)), (.prop 47))] [.i, .i, .i, .i, .a, .n, .n, .p, .a, .n, .n, .p, .p] (.w (.agg [(.int .i64 (.v 48)), (.int .i64 (.v 49)), (.int .i64 (.v 50)), (.int .i64 (.v 51)), (.sl (.v 52) (.v 53) (.v 54)), (.sl (.v 56) (.v 57) (.v 58))])) [((.a 52), (.prop 55)), ((.a 56), (.prop 59)), ((.b (.v 6)), (.prop 60))]
            (.again 0 [(.n (.v 33)), (.n (.v 34)), (.e (.o1 .neg (.o1 .neg (.v 48)))), (.e (.o1 .neg (.o1 .neg (.v 49)))), (.e (.o1 .neg (.o1 .neg (.v 50)))), (.e (.o1 .neg (.o1 .neg (.v 51)))), (.a (.v 52)), (.e (.o2 .nadd (.v 53) (.n 0))), (.e (.o2 .nadd (.v 54) (.n 0))), (.a (.v 56)), (.e (.o2 .nadd (.v 57) (.n 0))), (.e (.o2 .nadd (.v 58) (.n 0))), (.e (.o1 .neg (.o1 .neg (.v 35)))), (.e (.o1 .neg (.o1 .neg (.v 36)))), (.e (.o1 .neg (.o1 .neg (.v 37)))), (.e (.o1 .neg (.o1 .neg (.v 38)))), (.a (.v 39)), (.e (.o2 .nadd (.v 40) (.n 0))), (.e (.o2 .nadd (.v 41) (.n 0))), (.a (.v 43)), (.e (.o2 .nadd (.v 44) (.n 0))), (.e (.o2 .nadd (.v 45) (.n 0))), (.p [((.a 52), (.prop 55))]), (.p [((.a 56), (.prop 59))]), (.p [((.b (.v 6)), (.prop 60))]), (.p [((.a 39), (.prop 42))]), (.p [((.a 43), (.prop 46))])])))))
           (.new
           (.all
            (.call 18 [(.a (.ptr (.v 6) 0)), (.agg [(.int .i64 (.i 10)), (.str (.v 12)), (.str (.s [])), (.int .i64 (.i 0)), (.int .i64 (.i 0)), (.sl .nil (.n 0) (.n 0))])] [((.b (.v 6)), (.prop 32))] [.i, .i, .i, .i, .a, .n, .n, .p, .a, .n, .n, .p, .p] (.w (.agg [(.int .i64 (.v 35)), (.int .i64 (.v 36)), (.int .i64 (.v 37)), (.int .i64 (.v 38)), (.sl (.v 39) (.v 40) (.v 41)), (.sl (.v 43) (.v 44) (.v 45))])) [((.a 39), (.prop 42)), ((.a 43), (.prop 46)), ((.b (.v 6)), (.prop 47))]
            (.call 18 [(.a (.ptr (.v 6) 0)), (.agg [(.int .i64 (.i 11)), (.str (.v 12)), (.str (.s [])), (.int .i64 (.i 0)), (.int .i64 (.i 0)), (.sl .nil (.n 0) (.n 0))])] [((.b (.v 6)), (.prop 47))] [.i, .i, .i, .i, .a, .n, .n, .p, .a, .n, .n, .p, .p] (.w (.agg [(.int .i64 (.v 48)), (.int .i64 (.v 49)), (.int .i64 (.v 50)), (.int .i64 (.v 51)), (.sl (.v 52) (.v 53) (.v 54)), (.sl (.v 56) (.v 57) (.v 58))])) [((.a 52), (.prop 55)), ((.a 56), (.prop 59)), ((.b (.v 6)), (.prop 60))]
            (.again 0 [(.n (.v 33)), (.n (.v 34)), (.e (.o1 .neg (.o1 .neg (.v 48)))), (.e (.o1 .neg (.o1 .neg (.v 49)))), (.e (.o1 .neg (.o1 .neg (.v 50)))), (.e (.o1 .neg (.o1 .neg (.v 51)))), (.a (.v 52)), (.e (.o2 .nadd (.v 53) (.n 0))), (.e (.o2 .nadd (.v 54) (.n 0))), (.a (.v 56)), (.e (.o2 .nadd (.v 57) (.n 0))), (.e (.o2 .nadd (.v 58) (.n 0))), (.e (.o1 .neg (.o1 .neg (.v 35)))), (.e (.o1 .neg (.o1 .neg (.v 36)))), (.e (.o1 .neg (.o1 .neg (.v 37)))), (.e (.o1 .neg (.o1 .neg (.v 38)))), (.a (.v 39)), (.e (.o2 .nadd (.v 40) (.n 0))), (.e (.o2 .nadd (.v 41) (.n 0))), (.a (.v 43)), (.e (.o2 .nadd (.v 44) (.n 0))), (.e (.o2 .nadd (.v 45) (.n 0))), (.p [((.a 52), (.prop 55))]), (.p [((.a 56), (.prop 59))]), (.p [((.b (.v 6)), (.prop 60))]), (.p [((.a 39), (.prop 42))]), (.p [((.a 43), (.prop 46))])])))
            (.call 18 [(.a (.ptr (.v 6) 0)), (.agg [(.int .i64 (.i 10)), (.str (.v 12)), (.str (.s [])), (.int .i64 (.i 0)), (.int .i64 (.i 0)), (.sl .nil (.n 0) (.n 0))])] [((.b (.v 6)), (.prop 32))] [.i, .i, .i, .i, .a, .n, .n, .p, .a, .n, .n, .p, .p] (.w (.agg [(.int .i64 (.v 35)), (.int .i64 (.v 36)), (.int .i64 (.v 37)), (.int .i64 (.v 38)), (.sl (.v 39) (.v 40) (.v 41)), (.sl (.v 43) (.v 44) (.v 45))])) [((.a 39), (.prop 42)), ((.a 43), (.prop 46)), ((.b (.v 6)), (.prop 47))]
            (.call 18 [(.a (.ptr (.v 6) 0)), (.agg [(.int .i64 (.i 11)), (.str (.v 12)), (.str (.s [])), (.int .i64 (.i 0)), (.int .i64 (.i 0)), (.sl .nil (.n 0) (.n 0))])] [((.b (.v 6)), (.prop 47))] [.i, .i, .i, .i, .a, .n, .n, .p, .a, .n, .n, .p, .p] (.w (.agg [(.int .i64 (.v 48)), (.int .i64 (.v 49)), (.int .i64 (.v 50)), (.int .i64 (.v 51)), (.sl (.v 52) (.v 53) (.v 54)), (.sl (.v 56) (.v 57) (.v 58))])) [((.a 52), (.prop 55)), ((.a 56), (.prop 59)), ((.b (.v 6)), (.prop 60))]
            (.again 0 [(.n (.v 33)), (.n (.v 34)), (.e (.o1 .neg (.o1 .neg (.v 48)))), (.e (.o1 .neg (.o1 .neg (.v 49)))), (.e (.o1 .neg (.o1 .neg (.v 50)))), (.e (.o1 .neg (.o1 .neg (.v 51)))), (.a (.v 52)), (.e (.o2 .nadd (.v 53) (.n 0))), (.e (.o2 .nadd (.v 54) (.n 0))), (.a (.v 56)), (.e (.o2 .nadd (.v 57) (.n 0))), (.e (.o2 .nadd (.v 58) (.n 0))), (.e (.o1 .neg (.o1 .neg (.v 35)))), (.e (.o1 .neg (.o1 .neg (.v 36)))), (.e (.o1 .neg (.o1 .neg (.v 37)))), (.e (.o1 .neg (.o1 .neg (.v 38)))), (.a (.v 39)), (.e (.o2 .nadd (.v 40) (.n 0))), (.e (.o2 .nadd (.v 41) (.n 0))), (.a (.v 43)), (.e (.o2 .nadd (.v 44) (.n 0))), (.e (.o2 .nadd (.v 45) (.n 0))), (.p [((.a 52), (.prop 55))]), (.p [((.a 56), (.prop 59))]), (.p [((.b (.v 6)), (.prop 60))]), (.p [((.a 39), (.prop 42))]), (.p [((.a 43), (.prop 46))])]))))))))
         (.new
         (.all
          (.call 18 [(.a (.ptr (.v 6) 0)), (.agg [(.int .i64 (.i 10)), (.str (.v 12)), (.str (.s [])), (.int .i64 (.i 0)), (.int .i64 (.i 0)), (.sl .nil (.n 0) (.n 0))])] [((.b (.v 6)), (.prop 32))] [.i, .i, .i, .i, .a, .n, .n, .p, .a, .n, .n, .p, .p] (.w (.agg [(.int .i64 (.v 34)), (.int .i64 (.v 35)), (.int .i64 (.v 36)), (.int .i64 (.v 37)), (.sl (.v 38) (.v 39) (.v 40)), (.sl (.v 42) (.v 43) (.v 44))])) [((.a 38), (.prop 41)), ((.a 42), (.prop 45)), ((.b (.v 6)), (.prop 46))]
          (.all
           (.all
            (.call 18 [(.a (.ptr (.v 6) 0)), (.agg [(.int .i64 (.i 11)), (.str (.v 12)), (.str (.s [])), (.int .i64 (.i 0)), (.int .i64 (.i 0)), (.sl .nil (.n 0) (.n 0))])] [((.b (.v 6)), (.prop 46))] [.i, .i, .i, .i, .a, .n, .n, .p, .a, .n, .n, .p, .p] (.w (.agg [(.int .i64 (.v 47)), (.int .i64 (.v 48)), (.int .i64 (.v 49)), (.int .i64 (.v 50)), (.sl (.v 51) (.v 52) (.v 53)), (.sl (.v 55) (.v 56) (.v 57))])) [((.a 51), (.prop 54)), ((.a 55), (.prop 58)), ((.b (.v 6)), (.prop 59))]
            (.new
            (.again 0 [(.n (.v 60)), (.n (.v 33)), (.e (.o1 .neg (.o1 .neg (.v 47)))), (.e (.o1 .neg (.o1 .neg (.v 48)))), (.e (.o1 .neg (.o1 .neg (.v 49)))), (.e (.o1 .neg (.o1 .neg (.v 50)))), (.a (.v 51)), (.e (.o2 .nadd (.v 52) (.n 0))), (.e (.o2 .nadd (.v 53) (.n 0))), (.a (.v 55)), (.e (.o2 .nadd (.v 56) (.n 0))), (.e (.o2 .nadd (.v 57) (.n 0))), (.e (.o1 .neg (.o1 .neg (.v 34)))), (.e (.o1 .neg (.o1 .neg (.v 35)))), (.e (.o1 .neg (.o1 .neg (.v 36)))), (.e (.o1 .neg (.o1 .neg (.v 37)))), (.a (.v 38)), (.e (.o2 .nadd (.v 39) (.n 0))), (.e (.o2 .nadd (.v 40) (.n 0))), (.a (.v 42)), (.e (.o2 .nadd (.v 43) (.n 0))), (.e (.o2 .nadd (.v 44) (.n 0))), (.p [((.a 51), (.prop 54))]), (.p [((.a 55), (.prop 58))]), (.p [((.b (.v 6)), (.prop 59))]), (.p [((.a 38), (.prop 41))]), (.p [((.a 42), (.prop 45))])])))
            (.new
            (.call 18 [(.a (.ptr (.v 6) 0)), (.agg [(.int .i64 (.i 11)), (.str (.v 12)), (.str (.s [])), (.int .i64 (.i 0)), (.int .i64 (.i 0)), (.sl .nil (.n 0) (.n 0))])] [((.b (.v 6)), (.prop 46))] [.i, .i, .i, .i, .a, .n, .n, .p, .a, .n, .n, .p, .p] (.w (.agg [(.int .i64 (.v 48)), (.int .i64 (.v 49)), (.int .i64 (.v 50)), (.int .i64 (.v 51)), (.sl (.v 52) (.v 53) (.v 54)), (.sl (.v 56) (.v 57) (.v 58))])) [((.a 52), (.prop 55)), ((.a 56), (.prop 59)), ((.b (.v 6)), (.prop 60))]
            (.again 0 [(.n (.v 47)), (.n (.v 33)), (.e (.o1 .neg (.o1 .neg (.v 48)))), (.e (.o1 .neg (.o1 .neg (.v 49)))), (.e (.o1 .neg (.o1 .neg (.v 50)))), (.e (.o1 .neg (.o1 .neg (.v 51)))), (.a (.v 52)), (.e (.o2 .nadd (.v 53) (.n 0))), (.e (.o2 .nadd (.v 54) (.n 0))), (.a (.v 56)), (.e (.o2 .nadd (.v 57) (.n 0))), (.e (.o2 .nadd (.v 58) (.n 0))), (.e (.o1 .neg (.o1 .neg (.v 34)))), (.e (.o1 .neg (.o1 .neg (.v 35)))), (.e (.o1 .neg (.o1 .neg (.v 36)))), (.e (.o1 .neg (.o1 .neg (.v 37)))), (.a (.v 38)), (.e (.o2 .nadd (.v 39) (.n 0))), (.e (.o2 .nadd (.v 40) (.n 0))), (.a (.v 42)), (.e (.o2 .nadd (.v 43) (.n 0))), (.e (.o2 .nadd (.v 44) (.n 0))), (.p [((.a 52), (.prop 55))]), (.p [((.a 56), (.prop 59))]), (.p [((.b (.v 6)), (.prop 60))]), (.p [((.a 38), (.prop 41))]), (.p [((.a 42), (.prop 45))])]))))
           (.new
           (.call 18 [(.a (.ptr (.v 6) 0)), (.agg [(.int .i64 (.i 11)), (.str (.v 12)), (.str (.s [])), (.int .i64 (.i 0)), (.int .i64 (.i 0)), (.sl .nil (.n 0) (.n 0))])] [((.b (.v 6)), (.prop 46))] [.i, .i, .i, .i, .a, .n, .n, .p, .a, .n, .n, .p, .p] (.w (.agg [(.int .i64 (.v 48)), (.int .i64 (.v 49)), (.int .i64 (.v 50)), (.int .i64 (.v 51)), (.sl (.v 52) (.v 53) (.v 54)), (.sl (.v 56) (.v 57) (.v 58))])) [((.a 52), (.prop 55)), ((.a 56), (.prop 59)), ((.b (.v 6)), (.prop 60))]
           (.again 0 [(.n (.v 47)), (.n (.v 33)), (.e (.o1 .neg (.o1 .neg (.v 48)))), (.e (.o1 .neg (.o1 .neg (.v 49)))), (.e (.o1 .neg (.o1 .neg (.v 50)))), (.e (.o1 .neg (.o1 .neg (.v 51)))), (.a (.v 52)), (.e (.o2 .nadd (.v 53) (.n 0))), (.e (.o2 .nadd (.v 54) (.n 0))), (.a (.v 56)), (.e (.o2 .nadd (.v 57) (.n 0))), (.e (.o2 .nadd (.v 58) (.n 0))), (.e (.o1 .neg (.o1 .neg (.v 34)))), (.e (.o1 .neg (.o1 .neg (.v 35)))), (.e (.o1 .neg (.o1 .neg (.v 36)))), (.e (.o1 .neg (.o1 .neg (.v 37)))), (.a (.v 38)), (.e (.o2 .nadd (.v 39) (.n 0))), (.e (.o2 .nadd (.v 40) (.n 0))), (.a (.v 42)), (.e (.o2 .nadd (.v 43) (.n 0))), (.e (.o2 .nadd (.v 44) (.n 0))), (.p [((.a 52), (.prop 55))]), (.p [((.a 56), (.prop 59))]), (.p [((.b (.v 6)), (.prop 60))]), (.p [((.a 38), (.prop 41))]), (.p [((.a 42), (.prop 45))])])))))
          (.all
           (.all
            (.call 18 [(.a (.ptr (.v 6) 0)), (.agg [(.int .i64 (.i 10)), (.str (.v 12)), (.str (.s [])), (.int .i64 (.i 0)), (.int .i64 (.i 0)), (.sl .nil (.n 0) (.n 0))])] [((.b (.v 6)), (.prop 32))] [.i, .i, .i, .i, .a, .n, .n, .p, .a, .n, .n, .p, .p] (.w (.agg [(.int .i64 (.v 34)), (.int .i64 (.v 35)), (.int .i64 (.v 36)), (.int .i64 (.v 37)), (.sl (.v 38) (.v 39) (.v 40)), (.sl (.v 42) (.v 43) (.v 44))])) [((.a 38), (.prop 41)), ((.a 42), (.prop 45)), ((.b (.v 6)), (.prop 46))]
            (.all
             (.call 18 [(.a (.ptr (.v 6) 0)), (.agg [(.int .i64 (.i 11)), (.str (.v 12)), (.str (.s [])), (.int .i64 (.i 0)), (.int .i64 (.i 0)), (.sl .nil (.n 0) (.n 0))])] [((.b (.v 6)), (.prop 46))] [.i, .i, .i, .i, .a, .n, .n, .p, .a, .n, .n, .p, .p] (.w (.agg [(.int .i64 (.v 47)), (.int .i64 (.v 48)), (.int .i64 (.v 49)), (.int .i64 (.v 50)), (.sl (.v 51) (.v 52) (.v 53)), (.sl (.v 55) (.v 56) (.v 57))])) [((.a 51), (.prop 54)), ((.a 55), (.prop 58)), ((.b (.v 6)), (.prop 59))]
             (.new
             (.again 0 [(.n (.v 60)), (.n (.v 33)), (.e (.o1 .neg (.o1 .neg (.v 47)))), (.e (.o1 .neg (.o1 .neg (.v 48)))), (.e (.o1 .neg (.o1 .neg (.v 49)))), (.e (.o1 .neg (.o1 .neg (.v 50)))), (.a (.v 51)), (.e (.o2 .nadd (.v 52) (.n 0))), (.e (.o2 .nadd (.v 53) (.n 0))), (.a (.v 55)), (.e (.o2 .nadd (.v 56) (.n 0))), (.e (.o2 .nadd (.v 57) (.n 0))), (.e (.o1 .neg (.o1 .neg (.v 34)))), (.e (.o1 .neg (.o1 .neg (.v 35)))), (.e (.o1 .neg (.o1 .neg (.v 36)))), (.e (.o1 .neg (.o1 .neg (.v 37)))), (.a (.v 38)), (.e (.o2 .nadd (.v 39) (.n 0))), (.e (.o2 .nadd (.v 40) (.n 0))), (.a (.v 42)), (.e (.o2 .nadd (.v 43) (.n 0))), (.e (.o2 .nadd (.v 44) (.n 0))), (.p [((.a 51), (.prop 54))]), (.p [((.a 55), (.prop 58))]), (.p [((.b (.v 6)), (.prop 59))]), (.p [((.a 38), (.prop 41))]), (.p [((.a 42), (.prop 45))])])))
             (.new
             (.call 18 [(.a (.ptr (.v 6) 0)), (.agg [(.int .i64 (.i 11)), (.str (.v 12)), (.str (.s [])), (.int .i64 (.i 0)), (.int .i64 (.i 0)), (.sl .nil (.n 0) (.n 0))])] [((.b (.v 6)), (.prop 46))] [.i, .i, .i, .i, .a, .n, .n, .p, .a, .n, .n, .p, .p] (.w (.agg [(.int .i64 (.v 48)), (.int .i64 (.v 49)), (.int .i64 (.v 50)), (.int .i64 (.v 51)), (.sl (.v 52) (.v 53) (.v 54)), (.sl (.v 56) (.v 57) (.v 58))])) [((.a 52), (.prop 55)), ((.a 56), (.prop 59)), ((.b (.v 6)), (.prop 60))]
             (.again 0 [(.n (.v 47)), (.n (.v 33)), (.e (.o1 .neg (.o1 .neg (.v 48)))), (.e (.o1 .neg (.o1 .neg (.v 49)))), (.e (.o1 .neg (.o1 .neg (.v 50)))), (.e (.o1 .neg (.o1 .neg (.v 51)))), (.a (.v 52)), (.e (.o2 .nadd (.v 53) (.n 0))), (.e (.o2 .nadd (.v 54) (.n 0))), (.a (.v 56)), (.e (.o2 .nadd (.v 57) (.n 0))), (.e (.o2 .nadd (.v 58) (.n 0))), (.e (.o1 .neg (.o1 .neg (.v 34)))), (.e (.o1 .neg (.o1 .neg (.v 35)))), (.e (.o1 .neg (.o1 .neg (.v 36)))), (.e (.o1 .neg (.o1 .neg (.v 37)))), (.a (.v 38)), (.e (.o2 .nadd (.v 39) (.n 0))), (.e (.o2 .nadd (.v 40) (.n 0))), (.a (.v 42)), (.e (.o2 .nadd (.v 43) (.n 0))), (.e (.o2 .nadd (.v 44) (.n 0))), (.p [((.a 52), (.prop 55))]), (.p [((.a 56), (.prop 59))]), (.p [((.b (.v 6)), (.prop 60))]), (.p [((.a 38), (.prop 41))]), (.p [((.a 42), (.prop 45))])])))))
            (.new
            (.call 18 [(.a (.ptr (.v 6) 0)), (.agg [(.int .i64 (.i 10)), (.str (.v 12)), (.str (.s [])), (.int .i64 (.i 0)), (.int .i64 (.i 0)), (.sl .nil (.n 0) (.n 0))])] [((.b (.v 6)), (.prop 32))] [.i, .i, .i, .i, .a, .n, .n, .p, .a, .n, .n, .p, .p] (.w (.agg [(.int .i64 (.v 35)), (.int .i64 (.v 36)), (.int .i64 (.v 37)), (.int .i64 (.v 38)), (.sl (.v 39) (.v 40) (.v 41)), (.sl (.v 43) (.v 44) (.v 45))])) [((.a 39), (.prop 42)), ((.a 43), (.prop 46)), ((.b (.v 6)), (.prop 47))]
            (.call 18 [(.a (.ptr (.v 6) 0)), (.agg [(.int .i64 (.i 11)), (.str (.v 12)), (.str (.s [])), (.int .i64 (.i 0)), (.int .i64 (.i 0)), (.sl .nil (.n 0) (.n 0))])] [((.b (.v 6)), (.prop 47))] [.i, .i, .i, .i, .a, .n, .n, .p, .a, .n, .n, .p, .p] (.w (.agg [(.int .i64 (.v 48)), (.int .i64 (.v 49)), (.int .i64 (.v 50)), (.int .i64 (.v 51)), (.sl (.v 52) (.v 53) (.v 54)), (.sl (.v 56) (.v 57) (.v 58))])) [((.a 52), (.prop 55)), ((.a 56), (.prop 59)), ((.b (.v 6)), (.prop 60))]
            (.again 0 [(.n (.v 34)), (.n (.v 33)), (.e (.o1 .neg (.o1 .neg (.v 48)))), (.e (.o1 .neg (.o1 .neg (.v 49)))), (.e (.o1 .neg (.o1 .neg (.v 50)))), (.e (.o1 .neg (.o1 .neg (.v 51)))), (.a (.v 52)), (.e (.o2 .nadd (.v 53) (.n 0))), (.e (.o2 .nadd (.v 54) (.n 0))), (.a (.v 56)), (.e (.o2 .nadd (.v 57) (.n 0))), (.e (.o2 .nadd (.v 58) (.n 0))), (.e (.o1 .neg (.o1 .neg (.v 35)))), (.e (.o1 .neg (.o1 .neg (.v 36)))), (.e (.o1 .neg (.o1 .neg (.v 37)))), (.e (.o1 .neg (.o1 .neg (.v 38)))), (.a (.v 39)), (.e (.o2 .nadd (.v 40) (.n 0))), (.e (.o2 .nadd (.v 41) (.n 0))), (.a (.v 43)), (.e (.o2 .nadd (.v 44) (.n 0))), (.e (.o2 .nadd (.v 45) (.n 0))), (.p [((.a 52), (.prop 55))]), (.p [((.a 56), (.prop 59))]), (.p [((.b (.v 6)), (.prop 60))]), (.p [((.a 39), (.prop 42))]), (.p [((.a 43), (.prop 46))])])))))
           (.new
           (.all
            (.call 18 [(.a (.ptr (.v 6) 0)), (.agg [(.int .i64 (.i 10)), (.str (.v 12)), (.str (.s [])), (.int .i64 (.i 0)), (.int .i64 (.i 0)), (.sl .nil (.n 0) (.n 0))])] [((.b (.v 6)), (.prop 32))] [.i, .i, .i, .i, .a, .n, .n, .p, .a, .n, .n, .p, .p] (.w (.agg [(.int .i64 (.v 35)), (.int .i64 (.v 36)), (.int .i64 (.v 37)), (.int .i64 (.v 38)), (.sl (.v 39) (.v 40) (.v 41)), (.sl (.v 43) (.v 44) (.v 45))])) [((.a 39), (.prop 42)), ((.a 43), (.prop 46)), ((.b (.v 6)), (.prop 47))]
            (.call 18 [(.a (.ptr (.v 6) 0)), (.agg [(.int .i64 (.i 11)), (.str (.v 12)), (.str (.s [])), (.int .i64 (.i 0)), (.int .i64 (.i 0)), (.sl .nil (.n 0) (.n 0))])] [((.b (.v 6)), (.prop 47))] [.i, .i, .i, .i, .a, .n, .n, .p, .a, .n, .n, .p, .p] (.w (.agg [(.int .i64 (.v 48)), (.int .i64 (.v 49)), (.int .i64 (.v 50)), (.int .i64 (.v 51)), (.sl (.v 52) (.v 53) (.v 54)), (.sl (.v 56) (.v 57) (.v 58))])) [((.a 52), (.prop 55)), ((.a 56), (.prop 59)), ((.b (.v 6)), (.prop 60))]
            (.again 0 [(.n (.v 34)), (.n (.v 33)), (.e (.o1 .neg (.o1 .neg (.v 48)))), (.e (.o1 .neg (.o1 .neg (.v 49)))), (.e (.o1 .neg (.o1 .neg (.v 50)))), (.e (.o1 .neg (.o1 .neg (.v 51)))), (.a (.v 52)), (.e (.o2 .nadd (.v 53) (.n 0))), (.e (.o2 .nadd (.v 54) (.n 0))), (.a (.v 56)), (.e (.o2 .nadd (.v 57) (.n 0))), (.e (.o2 .nadd (.v 58) (.n 0))), (.e (.o1 .neg (.o1 .neg (.v 35)))), (.e (.o1 .neg (.o1 .neg (.v 36)))), (.e (.o1 .neg (.o1 .neg (.v 37)))), (.e (.o1 .neg (.o1 .neg (.v 38)))), (.a (.v 39)), (.e (.o2 .nadd (.v 40) (.n 0))), (.e (.o2 .nadd (.v 41) (.n 0))), (.a (.v 43)), (.e (.o2 .nadd (.v 44) (.n 0))), (.e (.o2 .nadd (.v 45) (.n 0))), (.p [((.a 52), (.prop 55))]), (.p [((.a 56), (.prop 59))]), (.p [((.b (.v 6)), (.prop 60))]), (.p [((.a 39), (.prop 42))]), (.p [((.a 43), (.prop 46))])])))
            (.call 18 [(.a (.ptr (.v 6) 0)), (.agg [(.int .i64 (.i 10)), (.str (.v 12)), (.str (.s [])), (.int .i64 (.i 0)), (.int .i64 (.i 0)), (.sl .nil (.n 0) (.n 0))])] [((.b (.v 6)), (.prop 32))] [.i, .i, .i, .i, .a, .n, .n, .p, .a, .n, .n, .p, .p] (.w (.agg [(.int .i64 (.v 35)), (.int .i64 (.v 36)), (.int .i64 (.v 37)), (.int .i64 (.v 38)), (.sl (.v 39) (.v 40) (.v 41)), (.sl (.v 43) (.v 44) (.v 45))])) [((.a 39), (.prop 42)), ((.a 43), (.prop 46)), ((.b (.v 6)), (.prop 47))]
            (.call 18 [(.a (.ptr (.v 6) 0)), (.agg [(.int .i64 (.i 11)), (.str (.v 12)), (.str (.s [])), (.int .i64 (.i 0)), (.int .i64 (.i 0)), (.sl .nil (.n 0) (.n 0))])] [((.b (.v 6)), (.prop 47))] [.i, .i, .i, .i, .a, .n, .n, .p, .a, .n, .n, .p, .p] (.w (.agg [(.int .i64 (.v 48)), (.int .i64 (.v 49)), (.int .i64 (.v 50)), (.int .i64 (.v 51)), (.sl (.v 52) (.v 53) (.v 54)), (.sl (.v 56) (.v 57) (.v 58))])) [((.a 52), (.prop 55)), ((.a 56), (.prop 59)), ((.b (.v 6)), (.prop 60))]
            (.again 0 [(.n (.v 34)), (.n (.v 33)), (.e (.o1 .neg (.o1 .neg (.v 48)))), (.e (.o1 .neg (.o1 .neg (.v 49)))), (.e (.o1 .neg (.o1 .neg (.v 50)))), (.e (.o1 .neg (.o1 .neg (.v 51)))), (.a (.v 52)), (.e (.o2 .nadd (.v 53) (.n 0))), (.e (.o2 .nadd (.v 54) (.n 0))), (.a (.v 56)), (.e (.o2 .nadd (.v 57) (.n 0))), (.e (.o2 .nadd (.v 58) (.n 0))), (.e (.o1 .neg (.o1 .neg (.v 35)))), (.e (.o1 .neg (.o1 .neg (.v 36)))), (.e (.o1 .neg (.o1 .neg (.v 37)))), (.e (.o1 .neg (.o1 .neg (.v 38)))), (.a (.v 39)), (.e (.o2 .nadd (.v 40) (.n 0))), (.e (.o2 .nadd (.v 41) (.n 0))), (.a (.v 43)), (.e (.o2 .nadd (.v 44) (.n 0))), (.e (.o2 .nadd (.v 45) (.n 0))), (.p [((.a 52), (.prop 55))]), (.p [((.a 56), (.prop 59))]), (.p [((.b (.v 6)), (.prop 60))]), (.p [((.a 39), (.prop 42))]), (.p [((.a 43), (.prop 46))])])))))))))))
      (.all
       (.all
        (.all
         (.call 18 [(.a (.ptr (.v 6) 0)), (.agg [(.int .i64 (.i 10)), (.str (.v 12)), (.str (.s [])), (.int .i64 (.i 0)), (.int .i64 (.i 0)), (.sl .nil (.n 0) (.n 0))])] [((.b (.v 6)), (.prop 32))] [.i, .i, .i, .i, .a, .n, .n, .p, .a, .n, .n, .p, .p] (.w (.agg [(.int .i64 (.v 33)), (.int .i64 (.v 34)), (.int .i64 (.v 35)), (.int .i64 (.v 36)), (.sl (.v 37) (.v 38) (.v 39)), (.sl (.v 41) (.v 42) (.v 43))])) [((.a 37), (.prop 40)), ((.a 41), (.prop 44)), ((.b (.v 6)), (.prop 45))]
         (.all
          (.call 18 [(.a (.ptr (.v 6) 0)), (.agg [(.int .i64 (.i 11)), (.str (.v 12)), (.str (.s [])), (.int .i64 (.i 0)), (.int .i64 (.i 0)), (.sl .nil (.n 0) (.n 0))])] [((.b (.v 6)), (.prop 45))] [.i, .i, .i, .i, .a, .n, .n, .p, .a, .n, .n, .p, .p] (.w (.agg [(.int .i64 (.v 46)), (.int .i64 (.v 47)), (.int .i64 (.v 48)), (.int .i64 (.v 49)), (.sl (.v 50) (.v 51) (.v 52)), (.sl (.v 54) (.v 55) (.v 56))])) [((.a 50), (.prop 53)), ((.a 54), (.prop 57)), ((.b (.v 6)), (.prop 58))]
          (.all
           (.new
           (.new
           (.again 0 [(.n (.v 59)), (.n (.v 60)), (.e (.o1 .neg (.o1 .neg (.v 46)))), (.e (.o1 .neg (.o1 .neg (.v 47)))), (.e (.o1 .neg (.o1 .neg (.v 48)))), (.e (.o1 .neg (.o1 .neg (.v 49)))), (.a (.v 50)), (.e (.o2 .nadd (.v 51) (.n 0))), (.e (.o2 .nadd (.v 52) (.n 0))), (.a (.v 54)), (.e (.o2 .nadd (.v 55) (.n 0))), (.e (.o2 .nadd (.v 56) (.n 0))), (.e (.o1 .neg (.o1 .neg (.v 33)))), (.e (.o1 .neg (.o1 .neg (.v 34)))), (.e (.o1 .neg (.o1 .neg (.v 35)))), (.e (.o1 .neg (.o1 .neg (.v 36)))), (.a (.v 37)), (.e (.o2 .nadd (.v 38) (.n 0))), (.e (.o2 .nadd (.v 39) (.n 0))), (.a (.v 41)), (.e (.o2 .nadd (.v 42) (.n 0))), (.e (.o2 .nadd (.v 43) (.n 0))), (.p [((.a 50), (.prop 53))]), (.p [((.a 54), (.prop 57))]), (.p [((.b (.v 6)), (.prop 58))]), (.p [((.a 37), (.prop 40))]), (.p [((.a 41), (.prop 44))])])))
           (.new
           (.new
           (.again 0 [(.n (.v 60)), (.n (.v 59)), (.e (.o1 .neg (.o1 .neg (.v 46)))), (.e (.o1 .neg (.o1 .neg (.v 47)))), (.e (.o1 .neg (.o1 .neg (.v 48)))), (.e (.o1 .neg (.o1 .neg (.v 49)))), (.a (.v 50)), (.e (.o2 .nadd (.v 51) (.n 0))), (.e (.o2 .nadd (.v 52) (.n 0))), (.a (.v 54)), (.e (.o2 .nadd (.v 55) (.n 0))), (.e (.o2 .nadd (.v 56) (.n 0))), (.e (.o1 .neg (.o1 .neg (.v 33)))), (.e (.o1 .neg (.o1 .neg (.v 34)))), (.e (.o1 .neg (.o1 .neg (.v 35)))), (.e (.o1 .neg (.o1 .neg (.v 36)))), (.a (.v 37)), (.e (.o2 .nadd (.v 38) (.n 0))), (.e (.o2 .nadd (.v 39) (.n 0))), (.a (.v 41)), (.e (.o2 .nadd (.v 42) (.n 0))), (.e (.o2 .nadd (.v 43) (.n 0))), (.p [((.a 50), (.prop 53))]), (.p [((.a 54), (.prop 57))]), (.p [((.b (.v 6)), (.prop 58))]), (.p [((.a 37), (.prop 40))]), (.p [((.a 41), (.prop 44))])])))))
          (.all
           (.new
           (.all
            (.call 18 [(.a (.ptr (.v 6) 0)), (.agg [(.int .i64 (.i 11)), (.str (.v 12)), (.str (.s [])), (.int .i64 (.i 0)), (.int .i64 (.i 0)), (.sl .nil (.n 0) (.n 0))])] [((.b (.v 6)), (.prop 45))] [.i, .i, .i, .i, .a, .n, .n, .p, .a, .n, .n, .p, .p] (.w (.agg [(.int .i64 (.v 47)), (.int .i64 (.v 48)), (.int .i64 (.v 49)), (.int .i64 (.v 50)), (.sl (.v 51) (.v 52) (.v 53)), (.sl (.v 55) (.v 56) (.v 57))])) [((.a 51), (.prop 54)), ((.a 55), (.prop 58)), ((.b (.v 6)), (.prop 59))]
            (.new
            (.again 0 [(.n (.v 46)), (.n (.v 60)), (.e (.o1 .neg (.o1 .neg (.v 47)))), (.e (.o1 .neg (.o1 .neg (.v 48)))), (.e (.o1 .neg (.o1 .neg (.v 49)))), (.e (.o1 .neg (.o1 .neg (.v 50)))), (.a (.v 51)), (.e (.o2 .nadd (.v 52) (.n 0))), (.e (.o2 .nadd (.v 53) (.n 0))), (.a (.v 55)), (.e (.o2 .nadd (.v 56) (.n 0))), (.e (.o2 .nadd (.v 57) (.n 0))), (.e (.o1 .neg (.o1 .neg (.v 33)))), (.e (.o1 .neg (.o1 .neg (.v 34)))), (.e (.o1 .neg (.o1 .neg (.v 35)))), (.e (.o1 .neg (.o1 .neg (.v 36)))), (.a (.v 37)), (.e (.o2 .nadd (.v 38) (.n 0))), (.e (.o2 .nadd (.v 39) (.n 0))), (.a (.v 41)), (.e (.o2 .nadd (.v 42) (.n 0))), (.e (.o2 .nadd (.v 43) (.n 0))), (.p [((.a 51), (.prop 54))]), (.p [((.a 55), (.prop 58))]), (.p [((.b (.v 6)), (.prop 59))]), (.p [((.a 37), (.prop 40))]), (.p [((.a 41), (.prop 44))])])))
            (.new
            (.call 18 [(.a (.ptr (.v 6) 0)), (.agg [(.int .i64 (.i 11)), (.str (.v 12)), (.str (.s [])), (.int .i64 (.i 0)), (.int .i64 (.i 0)), (.sl .nil (.n 0) (.n 0))])] [((.b (.v 6)), (.prop 45))] [.i, .i, .i, .i, .a, .n, .n, .p, .a, .n, .n, .p, .p] (.w (.agg [(.int .i64 (.v 48)), (.int .i64 (.v 49)), (.int .i64 (.v 50)), (.int .i64 (.v 51)), (.sl (.v 52) (.v 53) (.v 54)), (.sl (.v 56) (.v 57) (.v 58))])) [((.a 52), (.prop 55)), ((.a 56), (.prop 59)), ((.b (.v 6)), (.prop 60))]
            (.again 0 [(.n (.v 46)), (.n (.v 47)), (.e (.o1 .neg (.o1 .neg (.v 48)))), (.e (.o1 .neg (.o1 .neg (.v 49)))), (.e (.o1 .neg (.o1 .neg (.v 50)))), (.e (.o1 .neg (.o1 .neg (.v 51)))), (.a (.v 52)), (.e (.o2 .nadd (.v 53) (.n 0))), (.e (.o2 .nadd (.v 54) (.n 0))), (.a (.v 56)), (.e (.o2 .nadd (.v 57) (.n 0))), (.e (.o2 .nadd (.v 58) (.n 0))), (.e (.o1 .neg (.o1 .neg (.v 33)))), (.e (.o1 .neg (.o1 .neg (.v 34)))), (.e (.o1 .neg (.o1 .neg (.v 35)))), (.e (.o1 .neg (.o1 .neg (.v 36)))), (.a (.v 37)), (.e (.o2 .nadd (.v 38) (.n 0))), (.e (.o2 .nadd (.v 39) (.n 0))), (.a (.v 41)), (.e (.o2 .nadd (.v 42) (.n 0))), (.e (.o2 .nadd (.v 43) (.n 0))), (.p [((.a 52), (.prop 55))]), (.p [((.a 56), (.prop 59))]), (.p [((.b (.v 6)), (.prop 60))]), (.p [((.a 37), (.prop 40))]), (.p [((.a 41), (.prop 44))])])))))
           (.new
           (.all
            (.call 18 [(.a (.ptr (.v 6) 0)), (.agg [(.int .i64 (.i 11)), (.str (.v 12)), (.str (.s [])), (.int .i64 (.i 0)), (.int .i64 (.i 0)), (.sl .nil (.n 0) (.n 0))])] [((.b (.v 6)), (.prop 45))] [.i, .i, .i, .i, .a, .n, .n, .p, .a, .n, .n, .p, .p] (.w (.agg [(.int .i64 (.v 47)), (.int .i64 (.v 48)), (.int .i64 (.v 49)), (.int .i64 (.v 50)), (.sl (.v 51) (.v 52) (.v 53)), (.sl (.v 55) (.v 56) (.v 57))])) [((.a 51), (.prop 54)), ((.a 55), (.prop 58)), ((.b (.v 6)), (.prop 59))]
            (.new
            (.again 0 [(.n (.v 60)), (.n (.v 46)), (.e (.o1 .neg (.o1 .neg (.v 47)))), (.e (.o1 .neg (.o1 .neg (.v 48)))), (.e (.o1 .neg (.o1 .neg (.v 49)))), (.e (.o1 .neg (.o1 .neg (.v 50)))), (.a (.v 51)), (.e (.o2 .nadd (.v 52) (.n 0))), (.e (.o2 .nadd (.v 53) (.n 0))), (.a (.v 55)), (.e (.o2 .nadd (.v 56) (.n 0))), (.e (.o2 .nadd (.v 57) (.n 0))), (.e (.o1 .neg (.o1 .neg (.v 33)))), (.e (.o1 .neg (.o1 .neg (.v 34)))), (.e (.o1 .neg (.o1 .neg (.v 35)))), (.e (.o1 .neg (.o1 .neg (.v 36)))), (.a (.v 37)), (.e (.o2 .nadd (.v 38) (.n 0))), (.e (.o2 .nadd (.v 39) (.n 0))), (.a (.v 41)), (.e (.o2 .nadd (.v 42) (.n 0))), (.e (.o2 .nadd (.v 43) (.n 0))), (.p [((.a 51), (.prop 54))]), (.p [((.a 55), (.prop 58))]), (.p [((.b (.v 6)), (.prop 59))]), (.p [((.a 37), (.prop 40))]), (.p [((.a 41), (.prop 44))])])))
            (.new
            (.call 18 [(.a (.ptr (.v 6) 0)), (.agg [(.int .i64 (.i 11)), (.str (.v 12)), (.str (.s [])), (.int .i64 (.i 0)), (.int .i64 (.i 0)), (.sl .nil (.n 0) (.n 0))])] [((.b (.v 6)), (.prop 45))] [.i, .i, .i, .i, .a, .n, .n, .p, .a, .n, .n, .p, .p] (.w (.agg [(.int .i64 (.v 48)), (.int .i64 (.v 49)), (.int .i64 (.v 50)), (.int .i64 (.v 51)), (.sl (.v 52) (.v 53) (.v 54)), (.sl (.v 56) (.v 57) (.v 58))])) [((.a 52), (.prop 55)), ((.a 56), (.prop 59)), ((.b (.v 6)), (.prop 60))]
            (.again 0 [(.n (.v 47)), (.n (.v 46)), (.e (.o1 .neg (.o1 .neg (.v 48)))), (.e (.o1 .neg (.o1 .neg (.v 49)))), (.e (.o1 .neg (.o1 .neg (.v 50)))), (.e (.o1 .neg (.o1 .neg (.v 51)))), (.a (.v 52)), (.e (.o2 .nadd (.v 53) (.n 0))), (.e (.o2 .nadd (.v 54) (.n 0))), (.a (.v 56)), (.e (.o2 .nadd (.v 57) (.n 0))), (.e (.o2 .nadd (.v 58) (.n 0))), (.e (.o1 .neg (.o1 .neg (.v 33)))), (.e (.o1 .neg (.o1 .neg (.v 34)))), (.e (.o1 .neg (.o1 .neg (.v 35)))), (.e (.o1 .neg (.o1 .neg (.v 36)))), (.a (.v 37)), (.e (.o2 .nadd (.v 38) (.n 0))), (.e (.o2 .nadd (.v 39) (.n 0))), (.a (.v 41)), (.e (.o2 .nadd (.v 42) (.n 0))), (.e (.o2 .nadd (.v 43) (.n 0))), (.p [((.a 52), (.prop 55))]), (.p [((.a 56), (.prop 59))]), (.p [((.b (.v 6)), (.prop 60))]), (.p [((.a 37), (.prop 40))]), (.p [((.a 41), (.prop 44))])]))))))))
         (.all
          (.new
          (.all
           (.call 18 [(.a (.ptr (.v 6) 0)), (.agg [(.int .i64 (.i 10)), (.str (.v 12)), (.str (.s [])), (.int .i64 (.i 0)), (.int .i64 (.i 0)), (.sl .nil (.n 0) (.n 0))])] [((.b (.v 6)), (.prop 32))] [.i, .i, .i, .i, .a, .n, .n, .p, .a, .n, .n, .p, .p] (.w (.agg [(.int .i64 (.v 34)), (.int .i64 (.v 35)), (.int .i64 (.v 36)), (.int .i64 (.v 37)), (.sl (.v 38) (.v 39) (.v 40)), (.sl (.v 42) (.v 43) (.v 44))])) [((.a 38), (.prop 41)), ((.a 42), (.prop 45)), ((.b (.v 6)), (.prop 46))]
           (.all
            (.call 18 [(.a (.ptr (.v 6) 0)), (.agg [(.int .i64 (.i 11)), (.str (.v 12)), (.str (.s [])), (.int .i64 (.i 0)), (.int .i64 (.i 0)), (.sl .nil (.n 0) (.n 0))])] [((.b (.v 6)), (.prop 46))] [.i, .i, .i, .i, .a, .n, .n, .p, .a, .n, .n, .p, .p] (.w (.agg [(.int .i64 (.v 47)), (.int .i64 (.v 48)), (.int .i64 (.v 49)), (.int .i64 (.v 50)), (.sl (.v 51) (.v 52) (.v 53)), (.sl (.v 55) (.v 56) (.v 57))])) [((.a 51), (.prop 54)), ((.a 55), (.prop 58)), ((.b (.v 6)), (.prop 59))]
            (.new
            (.again 0 [(.n (.v 33)), (.n (.v 60)), (.e (.o1 .neg (.o1 .neg (.v 47)))), (.e (.o1 .neg (.o1 .neg (.v 48)))), (.e (.o1 .neg (.o1 .neg (.v 49)))), (.e (.o1 .neg (.o1 .neg (.v 50)))), (.a (.v 51)), (.e (.o2 .nadd (.v 52) (.n 0))), (.e (.o2 .nadd (.v 53) (.n 0))), (.a (.v 55)), (.e (.o2 .nadd (.v 56) (.n 0))), (.e (.o2 .nadd (.v 57) (.n 0))), (.e (.o1 .neg (.o1 .neg (.v 34)))), (.e (.o1 .neg (.o1 .neg (.v 35)))), (.e (.o1 .neg (.o1 .neg (.v 36)))), (.e (.o1 .neg (.o1 .neg (.v 37)))), (.a (.v 38)), (.e (.o2 .nadd (.v 39) (.n 0))), (.e (.o2 .nadd (.v 40) (.n 0))), (.a (.v 42)), (.e (.o2 .nadd (.v 43) (.n 0))), (.e (.o2 .nadd (.v 44) (.n 0))), (.p [((.a 51), (.prop 54))]), (.p [((.a 55), (.prop 58))]), (.p [((.b (.v 6)), (.prop 59))]), (.p [((.a 38), (.prop 41))]), (.p [((.a 42), (.prop 45))])])))
            (.new
            (.call 18 [(.a (.ptr (.v 6) 0)), (.agg [(.int .i64 (.i 11)), (.str (.v 12)), (.str (.s [])), (.int .i64 (.i 0)), (.int .i64 (.i 0)), (.sl .nil (.n 0) (.n 0))])] [((.b (.v 6)), (.prop 46))] [.i, .i, .i, .i, .a, .n, .n, .p, .a, .n, .n, .p, .p] (.w (.agg [(.int .i64 (.v 48)), (.int .i64 (.v 49)), (.int .i64 (.v 50)), (.int .i64 (.v 51)), (.sl (.v 52) (.v 53) (.v 54)), (.sl (.v 56) (.v 57) (.v 58))])) [((.a 52), (.prop 55)), ((.a 56), (.prop 59)), ((.b (.v 6)), (.prop 60))]
            (.again 0 [(.n (.v 33)), (.n (.v 47)), (.e (.o1 .neg (.o1 .neg (.v 48)))), (.e (.o1 .neg (.o1 .neg (.v 49)))), (.e (.o1 .neg (.o1 .neg (.v 50)))), (.e (.o1 .neg (.o1 .neg (.v 51)))), (.a (.v 52)), (.e (.o2 .nadd (.v 53) (.n 0))), (.e (.o2 .nadd (.v 54) (.n 0))), (.a (.v 56)), (.e (.o2 .nadd (.v 57) (.n 0))), (.e (.o2 .nadd (.v 58) (.n 0))), (.e (.o1 .neg (.o1 .neg (.v 34)))), (.e (.o1 .neg (.o1 .neg (.v 35)))), (.e (.o1 .neg (.o1 .neg (.v 36)))), (.e (.o1 .neg (.o1 .neg (.v 37)))), (.a (.v 38)), (.e (.o2 .nadd (.v 39) (.n 0))), (.e (.o2 .nadd (.v 40) (.n 0))), (.a (.v 42)), (.e (.o2 .nadd (.v 43) (.n 0))), (.e (.o2 .nadd (.v 44) (.n 0))), (.p [((.a 52), (.prop 55))]), (.p [((.a 56), (.prop 59))]), (.p [((.b (.v 6)), (.prop 60))]), (.p [((.a 38), (.prop 41))]), (.p [((.a 42), (.prop 45))])])))))
           (.new
           (.call 18 [(.a (.ptr (.v 6) 0)), (.agg [(.int .i64 (.i 10)), (.str (.v 12)), (.str (.s [])), (.int .i64 (.i 0)), (.int .i64 (.i 0)), (.sl .nil (.n 0) (.n 0))])] [((.b (.v 6)), (.prop 32))] [.i, .i, .i, .i, .a, .n, .n, .p, .a, .n, .n, .p, .p] (.w (.agg [(.int .i64 (.v 35)), (.int .i64 (.v 36)), (.int .i64 (.v 37)), (.int .i64 (.v 38)), (.sl (.v 39) (.v 40) (.v 41)), (.sl (.v 43) (.v 44) (.v 45))])) [((.a 39), (.prop 42)), ((.a 43), (.prop 46)), ((.b (.v 6)), (.prop 47))]
           (.call 18 [(.a (.ptr (.v 6) 0)), (.agg [(.int .i64 (.i 11)), (.str (.v 12)), (.str (.s [])), (.int .i64 (.i 0)), (.int .i64 (.i 0)), (.sl .nil (.n 0) (.n 0))])] [((.b (.v 6)), (.prop 47))] [.i, .i, .i, .i, .a, .n, .n, .p, .a, .n, .n, .p, .p] (.w (.agg [(.int .i64 (.v 48)), (.int .i64 (.v 49)), (.int .i64 (.v 50)), (.int .i64 (.v 51)), (.sl (.v 52) (.v 53) (.v 54)), (.sl (.v 56) (.v 57) (.v 58))])) [((.a 52), (.prop 55)), ((.a 56), (.prop 59)), ((.b (.v 6)), (.prop 60))]
           (.again 0 [(.n (.v 33)), (.n (.v 34)), (.e (.o1 .neg (.o1 .neg (.v 48)))), (.e (.o1 .neg (.o1 .neg (.v 49)))), (.e (.o1 .neg (.o1 .neg (.v 50)))), (.e (.o1 .neg (.o1 .neg (.v 51)))), (.a (.v 52)), (.e (.o2 .nadd (.v 53) (.n 0))), (.e (.o2 .nadd (.v 54) (.n 0))), (.a (.v 56)), (.e (.o2 .nadd (.v 57) (.n 0))), (.e (.o2 .nadd (.v 58) (.n 0))), (.e (.o1 .neg (.o1 .neg (.v 35)))), (.e (.o1 .neg (.o1 .neg (.v 36)))), (.e (.o1 .neg (.o1 .neg (.v 37)))), (.e (.o1 .neg (.o1 .neg (.v 38)))), (.a (.v 39)), (.e (.o2 .nadd (.v 40) (.n 0))), (.e (.o2 .nadd (.v 41) (.n 0))), (.a (.v 43)), (.e (.o2 .nadd (.v 44) (.n 0))), (.e (.o2 .nadd (.v 45) (.n 0))), (.p [((.a 52), (.prop 55))]), (.p [((.a 56), (.prop 59))]), (.p [((.b (.v 6)), (.prop 60))]), (.p [((.a 39), (.prop 42))]), (.p [((.a 43), (.prop 46))])]))))))
          (.new
          (.all
           (.call 18 [(.a (.ptr (.v 6) 0)), (.agg [(.int .i64 (.i 10)), (.str (.v 12)), (.str (.s [])), (.int .i64 (.i 0)), (.int .i64 (.i 0)), (.sl .nil (.n 0) (.n 0))])] [((.b (.v 6)), (.prop 32))] [.i, .i, .i, .i, .a, .n, .n, .p, .a, .n, .n, .p, .p] (.w (.agg [(.int .i64 (.v 34)), (.int .i64 (.v 35)), (.int .i64 (.v 36)), (.int .i64 (.v 37)), (.sl (.v 38) (.v 39) (.v 40)), (.sl (.v 42) (.v 43) (.v 44))])) [((.a 38), (.prop 41)), ((.a 42), (.prop 45)), ((.b (.v 6)), (.prop 46))]
           (.all
            (.call 18 [(.a (.ptr (.v 6) 0)), (.agg [(.int .i64 (.i 11)), (.str (.v 12)), (.str (.s [])), (.int .i64 (.i 0)), (.int .i64 (.i 0)), (.sl .nil (.n 0) (.n 0))])] [((.b (.v 6)), (.prop 46))] [.i, .i, .i, .i, .a, .n, .n, .p, .a, .n, .n, .p, .p] (.w (.agg [(.int .i64 (.v 47)), (.int .i64 (.v 48)), (.int .i64 (.v 49)), (.int .i64 (.v 50)), (.sl (.v 51) (.v 52) (.v 53)), (.sl (.v 55) (.v 56) (.v 57))])) [((.a 51), (.prop 54)), ((.a 55), (.prop 58)), ((.b (.v 6)), (.prop 59))]
            (.new
            (.again 0 [(.n (.v 60)), (.n (.v 33)), (.e (.o1 .neg (.o1 .neg (.v 47)))), (.e (.o1 .neg (.o1 .neg (.v 48)))), (.e (.o1 .neg (.o1 .neg (.v 49)))), (.e (.o1 .neg (.o1 .neg (.v 50)))), (.a (.v 51)), (.e (.o2 .nadd (.v 52) (.n 0))), (.e (.o2 .nadd (.v 53) (.n 0))), (.a (.v 55)), (.e (.o2 .nadd (.v 56) (.n 0))), (.e (.o2 .nadd (.v 57) (.n 0))), (.e (.o1 .neg (.o1 .neg (.v 34)))), (.e (.o1 .neg (.o1 .neg (.v 35)))), (.e (.o1 .neg (.o1 .neg (.v 36)))), (.e (.o1 .neg (.o1 .neg (.v 37)))), (.a (.v 38)), (.e (.o2 .nadd (.v 39) (.n 0))), (.e (.o2 .nadd (.v 40) (.n 0))), (.a (.v 42)), (.e (.o2 .nadd (.v 43) (.n 0))), (.e (.o2 .nadd (.v 44) (.n 0))), (.p [((.a 51), (.prop 54))]), (.p [((.a 55), (.prop 58))]), (.p [((.b (.v 6)), (.prop 59))]), (.p [((.a 38), (.prop 41))]), (.p [((.a 42), (.prop 45))])])))
            (.new
            (.call 18 [(.a (.ptr (.v 6) 0)), (.agg [(.int .i64 (.i 11)), (.str (.v 12)), (.str (.s [])), (.int .i64 (.i 0)), (.int .i64 (.i 0)), (.sl .nil (.n 0) (.n 0))])] [((.b (.v 6)), (.prop 46))] [.i, .i, .i, .i, .a, .n, .n, .p, .a, .n, .n, .p, .p] (.w (.agg [(.int .i64 (.v 48)), (.int .i64 (.v 49)), (.int .i64 (.v 50)), (.int .i64 (.v 51)), (.sl (.v 52) (.v 53) (.v 54)), (.sl (.v 56) (.v 57) (.v 58))])) [((.a 52), (.prop 55)), ((.a 56), (.prop 59)), ((.b (.v 6)), (.prop 60))]
            (.again 0 [(.n (.v 47)), (.n (.v 33)), (.e (.o1 .neg (.o1 .neg (.v 48)))), (.e (.o1 .neg (.o1 .neg (.v 49)))), (.e (.o1 .neg (.o1 .neg (.v 50)))), (.e (.o1 .neg (.o1 .neg (.v 51)))), (.a (.v 52)), (.e (.o2 .nadd (.v 53) (.n 0))), (.e (.o2 .nadd (.v 54) (.n 0))), (.a (.v 56)), (.e (.o2 .nadd (.v 57) (.n 0))), (.e (.o2 .nadd (.v 58) (.n 0))), (.e (.o1 .neg (.o1 .neg (.v 34)))), (.e (.o1 .neg (.o1 .neg (.v 35)))), (.e (.o1 .neg (.o1 .neg (.v 36)))), (.e (.o1 .neg (.o1 .neg (.v 37)))), (.a (.v 38)), (.e (.o2 .nadd (.v 39) (.n 0))), (.e (.o2 .nadd (.v 40) (.n 0))), (.a (.v 42)), (.e (.o2 .nadd (.v 43) (.n 0))), (.e (.o2 .nadd (.v 44) (.n 0))), (.p [((.a 52), (.prop 55))]), (.p [((.a 56), (.prop 59))]), (.p [((.b (.v 6)), (.prop 60))]), (.p [((.a 38), (.prop 41))]), (.p [((.a 42), (.prop 45))])])))))
           (.new
           (.call 18 [(.a (.ptr (.v 6) 0)), (.agg [(.int .i64 (.i 10)), (.str (.v 12)), (.str (.s [])), (.int .i64 (.i 0)), (.int .i64 (.i 0)), (.sl .nil (.n 0) (.n 0))])] [((.b (.v 6)), (.prop 32))] [.i, .i, .i, .i, .a, .n, .n, .p, .a, .n, .n, .p, .p] (.w (.agg [(.int .i64 (.v 35)), (.int .i64 (.v 36)), (.int .i64 (.v 37)), (.int .i64 (.v 38)), (.sl (.v 39) (.v 40) (.v 41)), (.sl (.v 43) (.v 44) (.v 45))])) [((.a 39), (.prop 42)), ((.a 43), (.prop 46)), ((.b (.v 6)), (.prop 47))]
           (.call 18 [(.a (.ptr (.v 6) 0)), (.agg [(.int .i64 (.i 11)), (.str (.v 12)), (.str (.s [])), (.int .i64 (.i 0)), (.int .i64 (.i 0)), (.sl .nil (.n 0) (.n 0))])] [((.b (.v 6)), (.prop 47))] [.i, .i, .i, .i, .a, .n, .n, .p, .a, .n, .n, .p, .p] (.w (.agg [(.int .i64 (.v 48)), (.int .i64 (.v 49)), (.int .i64 (.v 50)), (.int .i64 (.v 51)), (.sl (.v 52) (.v 53) (.v 54)), (.sl (.v 56) (.v 57) (.v 58))])) [((.a 52), (.prop 55)), ((.a 56), (.prop 59)), ((.b (.v 6)), (.prop 60))]
           (.again 0 [(.n (.v 34)), (.n (.v 33)), (.e (.o1 .neg (.o1 .neg (.v 48)))), (.e (.o1 .neg (.o1 .neg (.v 49)))), (.e (.o1 .neg (.o1 .neg (.v 50)))), (.e (.o1 .neg (.o1 .neg (.v 51)))), (.a (.v 52)), (.e (.o2 .nadd (.v 53) (.n 0))), (.e (.o2 .nadd (.v 54) (.n 0))), (.a (.v 56)), (.e (.o2 .nadd (.v 57) (.n 0))), (.e (.o2 .nadd (.v 58) (.n 0))), (.e (.o1 .neg (.o1 .neg (.v 35)))), (.e (.o1 .neg (.o1 .neg (.v 36)))), (.e (.o1 .neg (.o1 .neg (.v 37)))), (.e (.o1 .neg (.o1 .neg (.v 38)))), (.a (.v 39)), (.e (.o2 .nadd (.v 40) (.n 0))), (.e (.o2 .nadd (.v 41) (.n 0))), (.a (.v 43)), (.e (.o2 .nadd (.v 44) (.n 0))), (.e (.o2 .nadd (.v 45) (.n 0))), (.p [((.a 52), (.prop 55))]), (.p [((.a 56), (.prop 59))]), (.p [((.b (.v 6)), (.prop 60))]), (.p [((.a 39), (.prop 42))]), (.p [((.a 43), (.prop 46))])]))))))))
        (.all
         (.new
         (.all
          (.all
           (.call 18 [(.a (.ptr (.v 6) 0)), (.agg [(.int .i64 (.i 10)), (.str (.v 12)), (.str (.s [])), (.int .i64 (.i 0)), (.int .i64 (.i 0)), (.sl .nil (.n 0) (.n 0))])] [((.b (.v 6)), (.prop 32))] [.i, .i, .i, .i, .a, .n, .n, .p, .a, .n, .n, .p, .p] (.w (.agg [(.int .i64 (.v 34)), (.int .i64 (.v 35)), (.int .i64 (.v 36)), (.int .i64 (.v 37)), (.sl (.v 38) (.v 39) (.v 40)), (.sl (.v 42) (.v 43) (.v 44))])) [((.a 38), (.prop 41)), ((.a 42), (.prop 45)), ((.b (.v 6)), (.prop 46))]
           (.all
            (.call 18 [(.a (.ptr (.v 6) 0)), (.agg [(.int .i64 (.i 11)), (.str (.v 12)), (.str (.s [])), (.int .i64 (.i 0)), (.int .i64 (.i 0)), (.sl .nil (.n 0) (.n 0))])] [((.b (.v 6)), (.prop 46))] [.i, .i, .i, .i, .a, .n, .n, .p, .a, .n, .n, .p, .p] (.w (.agg [(.int .i64 (.v 47)), (.int .i64 (.v 48)), (.int .i64 (.v 49)), (.int .i64 (.v 50)), (.sl (.v 51) (.v 52) (.v 53)), (.sl (.v 55) (.v 56) (.v 57))])) [((.a 51), (.prop 54)), ((.a 55), (.prop 58)), ((.b (.v 6)), (.prop 59))]
            (.new
            (.again 0 [(.n (.v 33)), (.n (.v 60)), (.e (.o1 .neg (.o1 .neg (.v 47)))), (.e (.o1 .neg (.o1 .neg (.v 48)))), (.e (.o1 .neg (.o1 .neg (.v 49)))), (.e (.o1 .neg (.o1 .neg (.v 50)))), (.a (.v 51)), (.e (.o2 .nadd (.v 52) (.n 0))), (.e (.o2 .nadd (.v 53) (.n 0))), (.a (.v 55)), (.e (.o2 .nadd (.v 56) (.n 0))), (.e (.o2 .nadd (.v 57) (.n 0))), (.e (.o1 .neg (.o1 .neg (.v 34)))), (.e (.o1 .neg (.o1 .neg (.v 35)))), (.e (.o1 .neg (.o1 .neg (.v 36)))), (.e (.o1 .neg (.o1 .neg (.v 37)))), (.a (.v 38)), (.e (.o2 .nadd (.v 39) (.n 0))), (.e (.o2 .nadd (.v 40) (.n 0))), (.a (.v 42)), (.e (.o2 .nadd (.v 43) (.n 0))), (.e (.o2 .nadd (.v 44) (.n 0))), (.p [((.a 51), (.prop 54))]), (.p [((.a 55), (.prop 58))]), (.p [((.b (.v 6)), (.prop 59))]), (.p [((.a 38), (.prop 41))]), (.p [((.a 42), (.prop 45))])])))
            (.new
            (.call 18 [(.a (.ptr (.v 6) 0)), (.agg [(.int .i64 (.i 11)), (.str (.v 12)), (.str (.s [])), (.int .i64 (.i 0)), (.int .i64 (.i 0)), (.sl .nil (.n 0) (.n 0))])] [((.b (.v 6)), (.prop 46))] [.i, .i, .i, .i, .a, .n, .n, .p, .a, .n, .n, .p, .p] (.w (.agg [(.int .i64 (.v 48)), (.int .i64 (.v 49)), (.int .i64 (.v 50)), (.int .i64 (.v 51)), (.sl (.v 52) (.v 53) (.v 54)), (.sl (.v 56) (.v 57) (.v 58))])) [((.a 52), (.prop 55)), ((.a 56), (.prop 59)), ((.b (.v 6)), (.prop 60))]
            (.again 0 [(.n (.v 33)), (.n (.v 47)), (.e (.o1 .neg (.o1 .neg (.v 48)))), (.e (.o1 .neg (.o1 .neg (.v 49)))), (.e (.o1 .neg (.o1 .neg (.v 50)))), (.e (.o1 .neg (.o1 .neg (.v 51)))), (.a (.v 52)), (.e (.o2 .nadd (.v 53) (.n 0))), (.e (.o2 .nadd (.v 54) (.n 0))), (.a (.v 56)), (.e (.o2 .nadd (.v 57) (.n 0))), (.e (.o2 .nadd (.v 58) (.n 0))), (.e (.o1 .neg (.o1 .neg (.v 34)))), (.e (.o1 .neg (.o1 .neg (.v 35)))), (.e (.o1 .neg (.o1 .neg (.v 36)))), (.e (.o1 .neg (.o1 .neg (.v 37)))), (.a (.v 38)), (.e (.o2 .nadd (.v 39) (.n 0))), (.e (.o2 .nadd (.v 40) (.n 0))), (.a (.v 42)), (.e (.o2 .nadd (.v 43) (.n 0))), (.e (.o2 .nadd (.v 44) (.n 0))), (.p [((.a 52), (.prop 55))]), (.p [((.a 56), (.prop 59))]), (.p [((.b (.v 6)), (.prop 60))]), (.p [((.a 38), (.prop 41))]), (.p [((.a 42), (.prop 45))])])))))
           (.new
           (.call 18 [(.a (.ptr (.v 6) 0)), (.agg [(.int .i64 (.i 10)), (.str (.v 12)), (.str (.s [])), (.int .i64 (.i 0)), (.int .i64 (.i 0)), (.sl .nil (.n 0) (.n 0))])] [((.b (.v 6)), (.prop 32))] [.i, .i, .i, .i, .a, .n, .n, .p, .a, .n, .n, .p, .p] (.w (.agg [(.int .i64 (.v 35)), (.int .i64 (.v 36)), (.int .i64 (.v 37)), (.int .i64 (.v 38)), (.sl (.v 39) (.v 40) (.v 41)), (.sl (.v 43) (.v 44) (.v 45))])) [((.a 39), (.prop 42)), ((.a 43), (.prop 46)), ((.b (.v 6)), (.prop 47))]
           (.call 18 [(.a (.ptr (.v 6) 0)), (.agg [(.int .i64 (.i 11)), (.str (.v 12)), (.str (.s [])), (.int .i64 (.i 0)), (.int .i64 (.i 0)), (.sl .nil (.n 0) (.n 0))])] [((.b (.v 6)), (.prop 47))] [.i, .i, .i, .i, .a, .n, .n, .p, .a, .n, .n, .p, .p] (.w (.agg [(.int .i64 (.v 48)), (.int .i64 (.v 49)), (.int .i64 (.v 50)), (.int .i64 (.v 51)), (.sl (.v 52) (.v 53) (.v 54)), (.sl (.v 56) (.v 57) (.v 58))])) [((.a 52), (.prop 55)), ((.a 56), (.prop 59)), ((.b (.v 6)), (.prop 60))]
           (.again 0 [(.n (.v 33)), (.n (.v 34)), (.e (.o1 .neg (.o1 .neg (.v 48)))), (.e (.o1 .neg (.o1 .neg (.v 49)))), (.e (.o1 .neg (.o1 .neg (.v 50)))), (.e (.o1 .neg (.o1 .neg (.v 51)))), (.a (.v 52)), (.e (.o2 .nadd (.v 53) (.n 0))), (.e (.o2 .nadd (.v 54) (.n 0))), (.a (.v 56)), (.e (.o2 .nadd (.v 57) (.n 0))), (.e (.o2 .nadd (.v 58) (.n 0))), (.e (.o1 .neg (.o1 .neg (.v 35)))), (.e (.o1 .neg (.o1 .neg (.v 36)))), (.e (.o1 .neg (.o1 .neg (.v 37)))), (.e (.o1 .neg (.o1 .neg (.v 38)))), (.a (.v 39)), (.e (.o2 .nadd (.v 40) (.n 0))), (.e (.o2 .nadd (.v 41) (.n 0))), (.a (.v 43)), (.e (.o2 .nadd (.v 44) (.n 0))), (.e (.o2 .nadd (.v 45) (.n 0))), (.p [((.a 52), (.prop 55))]), (.p [((.a 56), (.prop 59))]), (.p [((.b (.v 6)), (.prop 60))]), (.p [((.a 39), (.prop 42))]), (.p [((.a 43), (.prop 46))])])))))
          (.new
          (.call 18 [(.a (.ptr (.v 6) 0)), (.agg [(.int .i64 (.i 10)), (.str (.v 12)), (.str (.s [])), (.int .i64 (.i 0)), (.int .i64 (.i 0)), (.sl .nil (.n 0) (.n 0))])] [((.b (.v 6)), (.prop 32))] [.i, .i, .i, .i, .a, .n, .n, .p, .a, .n, .n, .p, .p] (.w (.agg [(.int .i64 (.v 35)), (.int .i64 (.v 36)), (.int .i64 (.v 37)), (.int .i64 (.v 38)), (.sl (.v 39) (.v 40) (.v 41)), (.sl (.v 43) (.v 44) (.v 45))])) [((.a 39), (.prop 42)), ((.a 43), (.prop 46)), ((.b (.v 6)), (.prop 47))]
          (.call 18 [(.a (.ptr (.v 6) 0)), (.agg [(.int .i64 (.i 11)), (.str (.v 12)), (.str (.s [])), (.int .i64 (.i 0)), (.int .i64 (.i 0)), (.sl .nil (.n 0) (.n 0))])] [((.b (.v 6)), (.prop 47))] [.i, .i, .i, .i, .a, .n, .n, .p, .a, .n, .n, .p, .p] (.w (.agg [(.int .i64 (.v 48)), (.int .i64 (.v 49)), (.int .i64 (.v 50)), (.int .i64 (.v 51)), (.sl (.v 52) (.v 53) (.v 54)), (.sl (.v 56) (.v 57) (.v 58))])) [((.a 52), (.prop 55)), ((.a 56), (.prop 59)), ((.b (.v 6)), (.prop 60))]
          (.again 0 [(.n (.v 33)), (.n (.v 34)), (.e (.o1 .neg (.o1 .neg (.v 48)))), (.e (.o1 .neg (.o1 .neg (.v 49)))), (.e (.o1 .neg (.o1 .neg (.v 50)))), (.e (.o1 .neg (.o1 .neg (.v 51)))), (.a (.v 52)), (.e (.o2 .nadd (.v 53) (.n 0))), (.e (.o2 .nadd (.v 54) (.n 0))), (.a (.v 56)), (.e (.o2 .nadd (.v 57) (.n 0))), (.e (.o2 .nadd (.v 58) (.n 0))), (.e (.o1 .neg (.o1 .neg (.v 35)))), (.e (.o1 .neg (.o1 .neg (.v 36)))), (.e (.o1 .neg (.o1 .neg (.v 37)))), (.e (.o1 .neg (.o1 .neg (.v 38)))), (.a (.v 39)), (.e (.o2 .nadd (.v 40) (.n 0))), (.e (.o2 .nadd (.v 41) (.n 0))), (.a (.v 43)), (.e (.o2 .nadd (.v 44) (.n 0))), (.e (.o2 .nadd (.v 45) (.n 0))), (.p [((.a 52), (.prop 55))]), (.p [((.a 56), (.prop 59))]), (.p [((.b (.v 6)), (.prop 60))]), (.p [((.a 39), (.prop 42))]), (.p [((.a 43), (.prop 46))])]))))))
         (.new
         (.all
          (.all
           (.call 18 [(.a (.ptr (.v 6) 0)), (.agg [(.int .i64 (.i 10)), (.str (.v 12)), (.str (.s [])), (.int .i64 (.i 0)), (.int .i64 (.i 0)), (.sl .nil (.n 0) (.n 0))])] [((.b (.v 6)), (.prop 32))] [.i, .i, .i, .i, .a, .n, .n, .p, .a, .n, .n, .p, .p] (.w (.agg [(.int .i64 (.v 34)), (.int .i64 (.v 35)), (.int .i64 (.v 36)), (.int .i64 (.v 37)), (.sl (.v 38) (.v 39) (.v 40)), (.sl (.v 42) (.v 43) (.v 44))])) [((.a 38), (.prop 41)), ((.a 42), (.prop 45)), ((.b (.v 6)), (.prop 46))]
           (.all
            (.call 18 [(.a (.ptr (.v 6) 0)), (.agg [(.int .i64 (.i 11)), (.str (.v 12)), (.str (.s [])), (.int .i64 (.i 0)), (.int .i64 (.i 0)), (.sl .nil (.n 0) (.n 0))])] [((.b (.v 6)), (.prop 46))] [.i, .i, .i, .i, .a, .n, .n, .p, .a, .n, .n, .p, .p] (.w (.agg [(.int .i64 (.v 47)), (.int .i64 (.v 48)), (.int .i64 (.v 49)), (.int .i64 (.v 50)), (.sl (.v 51) (.v 52) (.v 53)), (.sl (.v 55) (.v 56) (.v 57))])) [((.a 51), (.prop 54)), ((.a 55), (.prop 58)), ((.b (.v 6)), (.prop 59))]
            (.new
            (.again 0 [(.n (.v 60)), (.n (.v 33)), (.e (.o1 .neg (.o1 .neg (.v 47)))), (.e (.o1 .neg (.o1 .neg (.v 48)))), (.e (.o1 .neg (.o1 .neg (.v 49)))), (.e (.o1 .neg (.o1 .neg (.v 50)))), (.a (.v 51)), (.e (.o2 .nadd (.v 52) (.n 0))), (.e (.o2 .nadd (.v 53) (.n 0))), (.a (.v 55)), (.e (.o2 .nadd (.v 56) (.n 0))), (.e (.o2 .nadd (.v 57) (.n 0))), (.e (.o1 .neg (.o1 .neg (.v 34)))), (.e (.o1 .neg (.o1 .neg (.v 35)))), (.e (.o1 .neg (.o1 .neg (.v 36)))), (.e (.o1 .neg (.o1 .neg (.v 37)))), (.a (.v 38)), (.e (.o2 .nadd (.v 39) (.n 0))), (.e (.o2 .nadd (.v 40) (.n 0))), (.a (.v 42)), (.e (.o2 .nadd (.v 43) (.n 0))), (.e (.o2 .nadd (.v 44) (.n 0))), (.p [((.a 51), (.prop 54))]), (.p [((.a 55), (.prop 58))]), (.p [((.b (.v 6)), (.prop 59))]), (.p [((.a 38), (.prop 41))]), (.p [((.a 42), (.prop 45))])])))
            (.new
            (.call 18 [(.a (.ptr (.v 6) 0)), (.agg [(.int .i64 (.i 11)), (.str (.v 12)), (.str (.s [])), (.int .i64 (.i 0)), (.int .i64 (.i 0)), (.sl .nil (.n 0) (.n 0))])] [((.b (.v 6)), (.prop 46))] [.i, .i, .i, .i, .a, .n, .n, .p, .a, .n, .n, .p, .p] (.w (.agg [(.int .i64 (.v 48)), (.int .i64 (.v 49)), (.int .i64 (.v 50)), (.int .i64 (.v 51)), (.sl (.v 52) (.v 53) (.v 54)), (.sl (.v 56) (.v 57) (.v 58))])) [((.a 52), (.prop 55)), ((.a 56), (.prop 59)), ((.b (.v 6)), (.prop 60))]
            (.again 0 [(.n (.v 47)), (.n (.v 33)), (.e (.o1 .neg (.o1 .neg (.v 48)))), (.e (.o1 .neg (.o1 .neg (.v 49)))), (.e (.o1 .neg (.o1 .neg (.v 50)))), (.e (.o1 .neg (.o1 .neg (.v 51)))), (.a (.v 52)), (.e (.o2 .nadd (.v 53) (.n 0))), (.e (.o2 .nadd (.v 54) (.n 0))), (.a (.v 56)), (.e (.o2 .nadd (.v 57) (.n 0))), (.e (.o2 .nadd (.v 58) (.n 0))), (.e (.o1 .neg (.o1 .neg (.v 34)))), (.e (.o1 .neg (.o1 .neg (.v 35)))), (.e (.o1 .neg (.o1 .neg (.v 36)))), (.e (.o1 .neg (.o1 .neg (.v 37)))), (.a (.v 38)), (.e (.o2 .nadd (.v 39) (.n 0))), (.e (.o2 .nadd (.v 40) (.n 0))), (.a (.v 42)), (.e (.o2 .nadd (.v 43) (.n 0))), (.e (.o2 .nadd (.v 44) (.n 0))), (.p [((.a 52), (.prop 55))]), (.p [((.a 56), (.prop 59))]), (.p [((.b (.v 6)), (.prop 60))]), (.p [((.a 38), (.prop 41))]), (.p [((.a 42), (.prop 45))])])))))
           (.new
           (.call 18 [(.a (.ptr (.v 6) 0)), (.agg [(.int .i64 (.i 10)), (.str (.v 12)), (.str (.s [])), (.int .i64 (.i 0)), (.int .i64 (.i 0)), (.sl .nil (.n 0) (.n 0))])] [((.b (.v 6)), (.prop 32))] [.i, .i, .i, .i, .a, .n, .n, .p, .a, .n, .n, .p, .p] (.w (.agg [(.int .i64 (.v 35)), (.int .i64 (.v 36)), (.int .i64 (.v 37)), (.int .i64 (.v 38)), (.sl (.v 39) (.v 40) (.v 41)), (.sl (.v 43) (.v 44) (.v 45))])) [((.a 39), (.prop 42)), ((.a 43), (.prop 46)), ((.b (.v 6)), (.prop 47))]
           (.call 18 [(.a (.ptr (.v 6) 0)), (.agg [(.int .i64 (.i 11)), (.str (.v 12)), (.str (.s [])), (.int .i64 (.i 0)), (.int .i64 (.i 0)), (.sl .nil (.n 0) (.n 0))])] [((.b (.v 6)), (.prop 47))] [.i, .i, .i, .i, .a, .n, .n, .p, .a, .n, .n, .p, .p] (.w (.agg [(.int .i64 (.v 48)), (.int .i64 (.v 49)), (.int .i64 (.v 50)), (.int .i64 (.v 51)), (.sl (.v 52) (.v 53) (.v 54)), (.sl (.v 56) (.v 57) (.v 58))])) [((.a 52), (.prop 55)), ((.a 56), (.prop 59)), ((.b (.v 6)), (.prop 60))]
           (.again 0 [(.n (.v 34)), (.n (.v 33)), (.e (.o1 .neg (.o1 .neg (.v 48)))), (.e (.o1 .neg (.o1 .neg (.v 49)))), (.e (.o1 .neg (.o1 .neg (.v 50)))), (.e (.o1 .neg (.o1 .neg (.v 51)))), (.a (.v 52)), (.e (.o2 .nadd (.v 53) (.n 0))), (.e (.o2 .nadd (.v 54) (.n 0))), (.a (.v 56)), (.e (.o2 .nadd (.v 57) (.n 0))), (.e (.o2 .nadd (.v 58) (.n 0))), (.e (.o1 .neg (.o1 .neg (.v 35)))), (.e (.o1 .neg (.o1 .neg (.v 36)))), (.e (.o1 .neg (.o1 .neg (.v 37)))), (.e (.o1 .neg (.o1 .neg (.v 38)))), (.a (.v 39)), (.e (.o2 .nadd (.v 40) (.n 0))), (.e (.o2 .nadd (.v 41) (.n 0))), (.a (.v 43)), (.e (.o2 .nadd (.v 44) (.n 0))), (.e (.o2 .nadd (.v 45) (.n 0))), (.p [((.a 52), (.prop 55))]), (.p [((.a 56), (.prop 59))]), (.p [((.b (.v 6)), (.prop 60))]), (.p [((.a 39), (.prop 42))]), (.p [((.a 43), (.prop 46))])])))))
          (.new
          (.call 18 [(.a (.ptr (.v 6) 0)), (.agg [(.int .i64 (.i 10)), (.str (.v 12)), (.str (.s [])), (.int .i64 (.i 0)), (.int .i64 (.i 0)), (.sl .nil (.n 0) (.n 0))])] [((.b (.v 6)), (.prop 32))] [.i, .i, .i, .i, .a, .n, .n, .p, .a, .n, .n, .p, .p] (.w (.agg [(.int .i64 (.v 35)), (.int .i64 (.v 36)), (.int .i64 (.v 37)), (.int .i64 (.v 38)), (.sl (.v 39) (.v 40) (.v 41)), (.sl (.v 43) (.v 44) (.v 45))])) [((.a 39), (.prop 42)), ((.a 43), (.prop 46)), ((.b (.v 6)), (.prop 47))]
          (.call 18 [(.a (.ptr (.v 6) 0)), (.agg [(.int .i64 (.i 11)), (.str (.v 12)), (.str (.s [])), (.int .i64 (.i 0)), (.int .i64 (.i 0)), (.sl .nil (.n 0) (.n 0))])] [((.b (.v 6)), (.prop 47))] [.i, .i, .i, .i, .a, .n, .n, .p, .a, .n, .n, .p, .p] (.w (.agg [(.int .i64 (.v 48)), (.int .i64 (.v 49)), (.int .i64 (.v 50)), (.int .i64 (.v 51)), (.sl (.v 52) (.v 53) (.v 54)), (.sl (.v 56) (.v 57) (.v 58))])) [((.a 52), (.prop 55)), ((.a 56), (.prop 59)), ((.b (.v 6)), (.prop 60))]
          (.again 0 [(.n (.v 34)), (.n (.v 33)), (.e (.o1 .neg (.o1 .neg (.v 48)))), (.e (.o1 .neg (.o1 .neg (.v 49)))), (.e (.o1 .neg (.o1 .neg (.v 50)))), (.e (.o1 .neg (.o1 .neg (.v 51)))), (.a (.v 52)), (.e (.o2 .nadd (.v 53) (.n 0))), (.e (.o2 .nadd (.v 54) (.n 0))), (.a (.v 56)), (.e (.o2 .nadd (.v 57) (.n 0))), (.e (.o2 .nadd (.v 58) (.n 0))), (.e (.o1 .neg (.o1 .neg (.v 35)))), (.e (.o1 .neg (.o1 .neg (.v 36)))), (.e (.o1 .neg (.o1 .neg (.v 37)))), (.e (.o1 .neg (.o1 .neg (.v 38)))), (.a (.v 39)), (.e (.o2 .nadd (.v 40) (.n 0))), (.e (.o2 .nadd (.v 41) (.n 0))), (.a (.v 43)), (.e (.o2 .nadd (.v 44) (.n 0))), (.e (.o2 .nadd (.v 45) (.n 0))), (.p [((.a 52), (.prop 55))]), (.p [((.a 56), (.prop 59))]), (.p [((.b (.v 6)), (.prop 60))]), (.p [((.a 39), (.prop 42))]), (.p [((.a 43), (.prop 46))])]))))))))
       (.all
        (.new
        (.all
         (.all
          (.call 18 [(.a (.ptr (.v 6) 0)), (.agg [(.int .i64 (.i 10)), (.str (.v 12)), (.str (.s [])), (.int .i64 (.i 0)), (.int .i64 (.i 0)), (.sl .nil (.n 0) (.n 0))])] [((.b (.v 6)), (.prop 32))] [.i, .i, .i, .i, .a, .n, .n, .p, .a, .n, .n, .p, .p] (.w (.agg [(.int .i64 (.v 34)), (.int .i64 (.v 35)), (.int .i64 (.v 36)), (.int .i64 (.v 37)), (.sl (.v 38) (.v 39) (.v 40)), (.sl (.v 42) (.v 43) (.v 44))])) [((.a 38), (.prop 41)), ((.a 42), (.prop 45)), ((.b (.v 6)), (.prop 46))]
          (.all
           (.all
            (.call 18 [(.a (.ptr (.v 6) 0)), (.agg [(.int .i64 (.i 11)), (.str (.v 12)), (.str (.s [])), (.int .i64 (.i 0)), (.int .i64 (.i 0)), (.sl .nil (.n 0) (.n 0))])] [((.b (.v 6)), (.prop 46))] [.i, .i, .i, .i, .a, .n, .n, .p, .a, .n, .n, .p, .p] (.w (.agg [(.int .i64 (.v 47)), (.int .i64 (.v 48)), (.int .i64 (.v 49)), (.int .i64 (.v 50)), (.sl (.v 51) (.v 52) (.v 53)), (.sl (.v 55) (.v 56) (.v 57))])) [((.a 51), (.prop 54)), ((.a 55), (.prop 58)), ((.b (.v 6)), (.prop 59))]
            (.new
            (.again 0 [(.n (.v 33)), (.n (.v 60)), (.e (.o1 .neg (.o1 .neg (.v 47)))), (.e (.o1 .neg (.o1 .neg (.v 48)))), (.e (.o1 .neg (.o1 .neg (.v 49)))), (.e (.o1 .neg (.o1 .neg (.v 50)))), (.a (.v 51)), (.e (.o2 .nadd (.v 52) (.n 0))), (.e (.o2 .nadd (.v 53) (.n 0))), (.a (.v 55)), (.e (.o2 .nadd (.v 56) (.n 0))), (.e (.o2 .nadd (.v 57) (.n 0))), (.e (.o1 .neg (.o1 .neg (.v 34)))), (.e (.o1 .neg (.o1 .neg (.v 35)))), (.e (.o1 .neg (.o1 .neg (.v 36)))), (.e (.o1 .neg (.o1 .neg (.v 37)))), (.a (.v 38)), (.e (.o2 .nadd (.v 39) (.n 0))), (.e (.o2 .nadd (.v 40) (.n 0))), (.a (.v 42)), (.e (.o2 .nadd (.v 43) (.n 0))), (.e (.o2 .nadd (.v 44) (.n 0))), (.p [((.a 51), (.prop 54))]), (.p [((.a 55), (.prop 58))]), (.p [((.b (.v 6)), (.prop 59))]), (.p [((.a 38), (.prop 41))]), (.p [((.a 42), (.prop 45))])])))
            (.new
            (.call 18 [(.a (.ptr (.v 6) 0)), (.agg [(.int .i64 (.i 11)), (.str (.v 12)), (.str (.s [])), (.int .i64 (.i 0)), (.int .i64 (.i 0)), (.sl .nil (.n 0) (.n 0))])] [((.b (.v 6)), (.prop 46))] [.i, .i, .i, .i, .a, .n, .n, .p, .a, .n, .n, .p, .p] (.w (.agg [(.int .i64 (.v 48)), (.int .i64 (.v 49)), (.int .i64 (.v 50)), (.int .i64 (.v 51)), (.sl (.v 52) (.v 53) (.v 54)), (.sl (.v 56) (.v 57) (.v 58))])) [((.a 52), (.prop 55)), ((.a 56), (.prop 59)), ((.b (.v 6)), (.prop 60))]
            (.again 0 [(.n (.v 33)), (.n (.v 47)), (.e (.o1 .neg (.o1 .neg (.v 48)))), (.e (.o1 .neg (.o1 .neg (.v 49)))), (.e (.o1 .neg (.o1 .neg (.v 50)))), (.e (.o1 .neg (.o1 .neg (.v 51)))), (.a (.v 52)), (.e (.o2 .nadd (.v 53) (.n 0))), (.e (.o2 .nadd (.v 54) (.n 0))), (.a (.v 56)), (.e (.o2 .nadd (.v 57) (.n 0))), (.e (.o2 .nadd (.v 58) (.n 0))), (.e (.o1 .neg (.o1 .neg (.v 34)))), (.e (.o1 .neg (.o1 .neg (.v 35)))), (.e (.o1 .neg (.o1 .neg (.v 36)))), (.e (.o1 .neg (.o1 .neg (.v 37)))), (.a (.v 38)), (.e (.o2 .nadd (.v 39) (.n 0))), (.e (.o2 .nadd (.v 40) (.n 0))), (.a (.v 42)), (.e (.o2 .nadd (.v 43) (.n 0))), (.e (.o2 .nadd (.v 44) (.n 0))), (.p [((.a 52), (.prop 55))]), (.p [((.a 56), (.prop 59))]), (.p [((.b (.v 6)), (.prop 60))]), (.p [((.a 38), (.prop 41))]), (.p [((.a 42), (.prop 45))])]))))
           (.new
           (.call 18 [(.a (.ptr (.v 6) 0)), (.agg [(.int .i64 (.i 11)), (.str (.v 12)), (.str (.s [])), (.int .i64 (.i 0)), (.int .i64 (.i 0)), (.sl .nil (.n 0) (.n 0))])] [((.b (.v 6)), (.prop 46))] [.i, .i, .i, .i, .a, .n, .n, .p, .a, .n, .n, .p, .p] (.w (.agg [(.int .i64 (.v 48)), (.int .i64 (.v 49)), (.int .i64 (.v 50)), (.int .i64 (.v 51)), (.sl (.v 52) (.v 53) (.v 54)), (.sl (.v 56) (.v 57) (.v 58))])) [((.a 52), (.prop 55)), ((.a 56), (.prop 59)), ((.b (.v 6)), (.prop 60))]
           (.again 0 [(.n (.v 33)), (.n (.v 47)), (.e (.o1 .neg (.o1 .neg (.v 48)))), (.e (.o1 .neg (.o1 .neg (.v 49)))), (.e (.o1 .neg (.o1 .neg (.v 50)))), (.e (.o1 .neg (.o1 .neg (.v 51)))), (.a (.v 52)), (.e (.o2 .nadd (.v 53) (.n 0))), (.e (.o2 .nadd (.v 54) (.n 0))), (.a (.v 56)), (.e (.o2 .nadd (.v 57) (.n 0))), (.e (.o2 .nadd (.v 58) (.n 0))), (.e (.o1 .neg (.o1 .neg (.v 34)))), (.e (.o1 .neg (.o1 .neg (.v 35)))), (.e (.o1 .neg (.o1 .neg (.v 36)))), (.e (.o1 .neg (.o1 .neg (.v 37)))), (.a (.v 38)), (.e (.o2 .nadd (.v 39) (.n 0))), (.e (.o2 .nadd (.v 40) (.n 0))), (.a (.v 42)), (.e (.o2 .nadd (.v 43) (.n 0))), (.e (.o2 .nadd (.v 44) (.n 0))), (.p [((.a 52), (.prop 55))]), (.p [((.a 56), (.prop 59))]), (.p [((.b (.v 6)), (.prop 60))]), (.p [((.a 38), (.prop 41))]), (.p [((.a 42), (.prop 45))])])))))
          (.all
           (.all
            (.call 18 [(.a (.ptr (.v 6) 0)), (.agg [(.int .i64 (.i 10)), (.str (.v 12)), (.str (.s [])), (.int .i64 (.i 0)), (.int .i64 (.i 0)), (.sl .nil (.n 0) (.n 0))])] [((.b (.v 6)), (.prop 32))] [.i, .i, .i, .i, .a, .n, .n, .p, .a, .n, .n, .p, .p] (.w (.agg [(.int .i64 (.v 34)), (.int .i64 (.v 35)), (.int .i64 (.v 36)), (.int .i64 (.v 37)), (.sl (.v 38) (.v 39) (.v 40)), (.sl (.v 42) (.v 43) (.v 44))])) [((.a 38), (.prop 41)), ((.a 42), (.prop 45)), ((.b (.v 6)), (.prop 46))]
            (.all
             (.call 18 [(.a (.ptr (.v 6) 0)), (.agg [(.int .i64 (.i 11)), (.str (.v 12)), (.str (.s [])), (.int .i64 (.i 0)), (.int .i64 (.i 0)), (.sl .nil (.n 0) (.n 0))])] [((.b (.v 6)), (.prop 46))] [.i, .i, .i, .i, .a, .n, .n, .p, .a, .n, .n, .p, .p] (.w (.agg [(.int .i64 (.v 47)), (.int .i64 (.v 48)), (.int .i64 (.v 49)), (.int .i64 (.v 50)), (.sl (.v 51) (.v 52) (.v 53)), (.sl (.v 55) (.v 56) (.v 57))])) [((.a 51), (.prop 54)), ((.a 55), (.prop 58)), ((.b (.v 6)), (.prop 59))]
             (.new
             (.again 0 [(.n (.v 33)), (.n (.v 60)), (.e (.o1 .neg (.o1 .neg (.v 47)))), (.e (.o1 .neg (.o1 .neg (.v 48)))), (.e (.o1 .neg (.o1 .neg (.v 49)))), (.e (.o1 .neg (.o1 .neg (.v 50)))), (.a (.v 51)), (.e (.o2 .nadd (.v 52) (.n 0))), (.e (.o2 .nadd (.v 53) (.n 0))), (.a (.v 55)), (.e (.o2 .nadd (.v 56) (.n 0))), (.e (.o2 .nadd (.v 57) (.n 0))), (.e (.o1 .neg (.o1 .neg (.v 34)))), (.e (.o1 .neg (.o1 .neg (.v 35)))), (.e (.o1 .neg (.o1 .neg (.v 36)))), (.e (.o1 .neg (.o1 .neg (.v 37)))), (.a (.v 38)), (.e (.o2 .nadd (.v 39) (.n 0))), (.e (.o2 .nadd (.v 40) (.n 0))), (.a (.v 42)), (.e (.o2 .nadd (.v 43) (.n 0))), (.e (.o2 .nadd (.v 44) (.n 0))), (.p [((.a 51), (.prop 54))]), (.p [((.a 55), (.prop 58))]), (.p [((.b (.v 6)), (.prop 59))]), (.p [((.a 38), (.prop 41))]), (.p [((.a 42), (.prop 45))])])))
             (.new
             (.call 18 [(.a (.ptr (.v 6) 0)), (.agg [(.int .i64 (.i 11)), (.str (.v 12)), (.str (.s [])), (.int .i64 (.i 0)), (.int .i64 (.i 0)), (.sl .nil (.n 0) (.n 0))])] [((.b (.v 6)), (.prop 46))] [.i, .i, .i, .i, .a, .n, .n, .p, .a, .n, .n, .p, .p] (.w (.agg [(.int .i64 (.v 48)), (.int .i64 (.v 49)), (.int .i64 (.v 50)), (.int .i64 (.v 51)), (.sl (.v 52) (.v 53) (.v 54)), (.sl (.v 56) (.v 57) (.v 58))])) [((.a 52), (.prop 55)), ((.a 56), (.prop 59)), ((.b (.v 6)), (.prop 60))]
             (.again 0 [(.n (.v 33)), (.n (.v 47)), (.e (.o1 .neg (.o1 .neg (.v 48)))), (.e (.o1 .neg (.o1 .neg (.v 49)))), (.e (.o1 .neg (.o1 .neg (.v 50)))), (.e (.o1 .neg (.o1 .neg (.v 51)))), (.a (.v 52)), (.e (.o2 .nadd (.v 53) (.n 0))), (.e (.o2 .nadd (.v 54) (.n 0))), (.a (.v 56)), (.e (.o2 .nadd (.v 57) (.n 0))), (.e (.o2 .nadd (.v 58) (.n 0))), (.e (.o1 .neg (.o1 .neg (.v 34)))), (.e (.o1 .neg (.o1 .neg (.v 35)))), (.e (.o1 .neg (.o1 .neg (.v 36)))), (.e (.o1 .neg (.o1 .neg (.v 37)))), (.a (.v 38)), (.e (.o2 .nadd (.v 39) (.n 0))), (.e (.o2 .nadd (.v 40) (.n 0))), (.a (.v 42)), (.e (.o2 .nadd (.v 43) (.n 0))), (.e (.o2 .nadd (.v 44) (.n 0))), (.p [((.a 52), (.prop 55))]), (.p [((.a 56), (.prop 59))]), (.p [((.b (.v 6)), (.prop 60))]), (.p [((.a 38), (.prop 41))]), (.p [((.a 42), (.prop 45))])])))))
            (.new
            (.call 18 [(.a (.ptr (.v 6) 0)), (.agg [(.int .i64 (.i 10)), (.str (.v 12)), (.str (.s [])), (.int .i64 (.i 0)), (.int .i64 (.i 0)), (.sl .nil (.n 0) (.n 0))])] [((.b (.v 6)), (.prop 32))] [.i, .i, .i, .i, .a, .n, .n, .p, .a, .n, .n, .p, .p] (.w (.agg [(.int .i64 (.v 35)), (.int .i64 (.v 36)), (.int .i64 (.v 37)), (.int .i64 (.v 38)), (.sl (.v 39) (.v 40) (.v 41)), (.sl (.v 43) (.v 44) (.v 45))])) [((.a 39), (.prop 42)), ((.a 43), (.prop 46)), ((.b (.v 6)), (.prop 47))]
            (.call 18 [(.a (.ptr (.v 6) 0)), (.agg [(.int .i64 (.i 11)), (.str (.v 12)), (.str (.s [])), (.int .i64 (.i 0)), (.int .i64 (.i 0)), (.sl .nil (.n 0) (.n 0))])] [((.b (.v 6)), (.prop 47))] [.i, .i, .i, .i, .a, .n, .n, .p, .a, .n, .n, .p, .p] (.w (.agg [(.int .i64 (.v 48)), (.int .i64 (.v 49)), (.int .i64 (.v 50)), (.int .i64 (.v 51)), (.sl (.v 52) (.v 53) (.v 54)), (.sl (.v 56) (.v 57) (.v 58))])) [((.a 52), (.prop 55)), ((.a 56), (.prop 59)), ((.b (.v 6)), (.prop 60))]
            (.again 0 [(.n (.v 33)), (.n (.v 34)), (.e (.o1 .neg (.o1 .neg (.v 48)))), (.e (.o1 .neg (.o1 .neg (.v 49)))), (.e (.o1 .neg (.o1 .neg (.v 50)))), (.e (.o1 .neg (.o1 .neg (.v 51)))), (.a (.v 52)), (.e (.o2 .nadd (.v 53) (.n 0))), (.e (.o2 .nadd (.v 54) (.n 0))), (.a (.v 56)), (.e (.o2 .nadd (.v 57) (.n 0))), (.e (.o2 .nadd (.v 58) (.n 0))), (.e (.o1 .neg (.o1 .neg (.v 35)))), (.e (.o1 .neg (.o1 .neg (.v 36)))), (.e (.o1 .neg (.o1 .neg (.v 37)))), (.e (.o1 .neg (.o1 .neg (.v 38)))), (.a (.v 39)), (.e (.o2 .nadd (.v 40) (.n 0))), (.e (.o2 .nadd (.v 41) (.n 0))), (.a (.v 43)), (.e (.o2 .nadd (.v 44) (.n 0))), (.e (.o2 .nadd (.v 45) (.n 0))), (.p [((.a 52), (.prop 55))]), (.p [((.a 56), (.prop 59))]), (.p [((.b (.v 6)), (.prop 60))]), (.p [((.a 39), (.prop 42))]), (.p [((.a 43), (.prop 46))])])))))
           (.new
           (.all
            (.call 18 [(.a (.ptr (.v 6) 0)), (.agg [(.int .i64 (.i 10)), (.str (.v 12)), (.str (.s [])), (.int .i64 (.i 0)), (.int .i64 (.i 0)), (.sl .nil (.n 0) (.n 0))])] [((.b (.v 6)), (.prop 32))] [.i, .i, .i, .i, .a, .n, .n, .p, .a, .n, .n, .p, .p] (.w (.agg [(.int .i64 (.v 35)), (.int .i64 (.v 36)), (.int .i64 (.v 37)), (.int .i64 (.v 38)), (.sl (.v 39) (.v 40) (.v 41)), (.sl (.v 43) (.v 44) (.v 45))])) [((.a 39), (.prop 42)), ((.a 43), (.prop 46)), ((.b (.v 6)), (.prop 47))]
            (.call 18 [(.a (.ptr (.v 6) 0)), (.agg [(.int .i64 (.i 11)), (.str (.v 12)), (.str (.s [])), (.int .i64 (.i 0)), (.int .i64 (.i 0)), (.sl .nil (.n 0) (.n 0))])] [((.b (.v 6)), (.prop 47))] [.i, .i, .i, .i, .a, .n, .n, .p, .a, .n, .n, .p, .p] (.w (.agg [(.int .i64 (.v 48)), (.int .i64 (.v 49)), (.int .i64 (.v 50)), (.int .i64 (.v 51)), (.sl (.v 52) (.v 53) (.v 54)), (.sl (.v 56) (.v 57) (.v 58))])) [((.a 52), (.prop 55)), ((.a 56), (.prop 59)), ((.b (.v 6)), (.prop 60))]
            (.again 0 [(.n (.v 33)), (.n (.v 34)), (.e (.o1 .neg (.o1 .neg (.v 48)))), (.e (.o1 .neg (.o1 .neg (.v 49)))), (.e (.o1 .neg (.o1 .neg (.v 50)))), (.e (.o1 .neg (.o1 .neg (.v 51)))), (.a (.v 52)), (.e (.o2 .nadd (.v 53) (.n 0))), (.e (.o2 .nadd (.v 54) (.n 0))), (.a (.v 56)), (.e (.o2 .nadd (.v 57) (.n 0))), (.e (.o2 .nadd (.v 58) (.n 0))), (.e (.o1 .neg (.o1 .neg (.v 35)))), (.e (.o1 .neg (.o1 .neg (.v 36)))), (.e (.o1 .neg (.o1 .neg (.v 37)))), (.e (.o1 .neg (.o1 .neg (.v 38)))), (.a (.v 39)), (.e (.o2 .nadd (.v 40) (.n 0))), (.e (.o2 .nadd (.v 41) (.n 0))), (.a (.v 43)), (.e (.o2 .nadd (.v 44) (.n 0))), (.e (.o2 .nadd (.v 45) (.n 0))), (.p [((.a 52), (.prop 55))]), (.p [((.a 56), (.prop 59))]), (.p [((.b (.v 6)), (.prop 60))]), (.p [((.a 39), (.prop 42))]), (.p [((.a 43), (.prop 46))])])))
            (.call 18 [(.a (.ptr (.v 6) 0)), (.agg [(.int .i64 (.i 10)), (.str (.v 12)), (.str (.s [])), (.int .i64 (.i 0)), (.int .i64 (.i 0)), (.sl .nil (.n 0) (.n 0))])] [((.b (.v 6)), (.prop 32))] [.i, .i, .i, .i, .a, .n, .n, .p, .a, .n, .n, .p, .p] (.w (.agg [(.int .i64 (.v 35)), (.int .i64 (.v 36)), (.int .i64 (.v 37)), (.int .i64 (.v 38)), (.sl (.v 39) (.v 40) (.v 41)), (.sl (.v 43) (.v 44) (.v 45))])) [((.a 39), (.prop 42)), ((.a 43), (.prop 46)), ((.b (.v 6)), (.prop 47))]
            (.call 18 [(.a (.ptr (.v 6) 0)), (.agg [(.int .i64 (.i 11)), (.str (.v 12)), (.str (.s [])), (.int .i64 (.i 0)), (.int .i64 (.i 0)), (.sl .nil (.n 0) (.n 0))])] [((.b (.v 6)), (.prop 47))] [.i, .i, .i, .i, .a, .n, .n, .p, .a, .n, .n, .p, .p] (.w (.agg [(.int .i64 (.v 48)), (.int .i64 (.v 49)), (.int .i64 (.v 50)), (.int .i64 (.v 51)), (.sl (.v 52) (.v 53) (.v 54)), (.sl (.v 56) (.v 57) (.v 58))])) [((.a 52), (.prop 55)), ((.a 56), (.prop 59)), ((.b (.v 6)), (.prop 60))]
            (.again 0 [(.n (.v 33)), (.n (.v 34)), (.e (.o1 .neg (.o1 .neg (.v 48)))), (.e (.o1 .neg (.o1 .neg (.v 49)))), (.e (.o1 .neg (.o1 .neg (.v 50)))), (.e (.o1 .neg (.o1 .neg (.v 51)))), (.a (.v 52)), (.e (.o2 .nadd (.v 53) (.n 0))), (.e (.o2 .nadd (.v 54) (.n 0))), (.a (.v 56)), (.e (.o2 .nadd (.v 57) (.n 0))), (.e (.o2 .nadd (.v 58) (.n 0))), (.e (.o1 .neg (.o1 .neg (.v 35)))), (.e (.o1 .neg (.o1 .neg (.v 36)))), (.e (.o1 .neg (.o1 .neg (.v 37)))), (.e (.o1 .neg (.o1 .neg (.v 38)))), (.a (.v 39)), (.e (.o2 .nadd (.v 40) (.n 0))), (.e (.o2 .nadd (.v 41) (.n 0))), (.a (.v 43)), (.e (.o2 .nadd (.v 44) (.n 0))), (.e (.o2 .nadd (.v 45) (.n 0))), (.p [((.a 52), (.prop 55))]), (.p [((.a 56), (.prop 59))]), (.p [((.b (.v 6)), (.prop 60))]), (.p [((.a 39), (.prop 42))]), (.p [((.a 43), (.prop 46))])])))))))
         (.all
          (.all
           (.all
            (.call 18 [(.a (.ptr (.v 6) 0)), (.agg [(.int .i64 (.i 10)), (.str (.v 12)), (.str (.s [])), (.int .i64 (.i 0)), (.int .i64 (.i 0)), (.sl .nil (.n 0) (.n 0))])] [((.b (.v 6)), (.prop 32))] [.i, .i, .i, .i, .a, .n, .n, .p, .a, .n, .n, .p, .p] (.w (.agg [(.int .i64 (.v 34)), (.int .i64 (.v 35)), (.int .i64 (.v 36)), (.int .i64 (.v 37)), (.sl (.v 38) (.v 39) (.v 40)), (.sl (.v 42) (.v 43) (.v 44))])) [((.a 38), (.prop 41)), ((.a 42), (.prop 45)), ((.b (.v 6)), (.prop 46))]
            (.all
             (.call 18 [(.a (.ptr (.v 6) 0)), (.agg [(.int .i64 (.i 11)), (.str (.v 12)), (.str (.s [])), (.int .i64 (.i 0)), (.int .i64 (.i 0)), (.sl .nil (.n 0) (.n 0))])] [((.b (.v 6)), (.prop 46))] [.i, .i, .i, .i, .a, .n, .n, .p, .a, .n, .n, .p, .p] (.w (.agg [(.int .i64 (.v 47)), (.int .i64 (.v 48)), (.int .i64 (.v 49)), (.int .i64 (.v 50)), (.sl (.v 51) (.v 52) (.v 53)), (.sl (.v 55) (.v 56) (.v 57))])) [((.a 51), (.prop 54)), ((.a 55), (.prop 58)), ((.b (.v 6)), (.prop 59))]
             (.new
             (.again 0 [(.n (.v 33)), (.n (.v 60)), (.e (.o1 .neg (.o1 .neg (.v 47)))), (.e (.o1 .neg (.o1 .neg (.v 48)))), (.e (.o1 .neg (.o1 .neg (.v 49)))), (.e (.o1 .neg (.o1 .neg (.v 50)))), (.a (.v 51)), (.e (.o2 .nadd (.v 52) (.n 0))), (.e (.o2 .nadd (.v 53) (.n 0))), (.a (.v 55)), (.e (.o2 .nadd (.v 56) (.n 0))), (.e (.o2 .nadd (.v 57) (.n 0))), (.e (.o1 .neg (.o1 .neg (.v 34)))), (.e (.o1 .neg (.o1 .neg (.v 35)))), (.e (.o1 .neg (.o1 .neg (.v 36)))), (.e (.o1 .neg (.o1 .neg (.v 37)))), (.a (.v 38)), (.e (.o2 .nadd (.v 39) (.n 0))), (.e (.o2 .nadd (.v 40) (.n 0))), (.a (.v 42)), (.e (.o2 .nadd (.v 43) (.n 0))), (.e (.o2 .nadd (.v 44) (.n 0))), (.p [((.a 51), (.prop 54))]), (.p [((.a 55), (.prop 58))]), (.p [((.b (.v 6)), (.prop 59))]), (.p [((.a 38), (.prop 41))]), (.p [((.a 42), (.prop 45))])])))
             (.new
             (.call 18 [(.a (.ptr (.v 6) 0)), (.agg [(.int .i64 (.i 11)), (.str (.v 12)), (.str (.s [])), (.int .i64 (.i 0)), (.int .i64 (.i 0)), (.sl .nil (.n 0) (.n 0))])] [((.b (.v 6)), (.prop 46))] [.i, .i, .i, .i, .a, .n, .n, .p, .a, .n, .n, .p, .p] (.w (.agg [(.int .i64 (.v 48)), (.int .i64 (.v 49)), (.int .i64 (.v 50)), (.int .i64 (.v 51)), (.sl (.v 52) (.v 53) (.v 54)), (.sl (.v 56) (.v 57) (.v 58))])) [((.a 52), (.prop 55)), ((.a 56), (.prop 59)), ((.b (.v 6)), (.prop 60))]
             (.again 0 [(.n (.v 33)), (.n (.v 47)), (.e (.o1 .neg (.o1 .neg (.v 48)))), (.e (.o1 .neg (.o1 .neg (.v 49)))), (.e (.o1 .neg (.o1 .neg (.v 50)))), (.e (.o1 .neg (.o1 .neg (.v 51)))), (.a (.v 52)), (.e (.o2 .nadd (.v 53) (.n 0))), (.e (.o2 .nadd (.v 54) (.n 0))), (.a (.v 56)), (.e (.o2 .nadd (.v 57) (.n 0))), (.e (.o2 .nadd (.v 58) (.n 0))), (.e (.o1 .neg (.o1 .neg (.v 34)))), (.e (.o1 .neg (.o1 .neg (.v 35)))), (.e (.o1 .neg (.o1 .neg (.v 36)))), (.e (.o1 .neg (.o1 .neg (.v 37)))), (.a (.v 38)), (.e (.o2 .nadd (.v 39) (.n 0))), (.e (.o2 .nadd (.v 40) (.n 0))), (.a (.v 42)), (.e (.o2 .nadd (.v 43) (.n 0))), (.e (.o2 .nadd (.v 44) (.n 0))), (.p [((.a 52), (.prop 55))]), (.p [((.a 56), (.prop 59))]), (.p [((.b (.v 6)), (.prop 60))]), (.p [((.a 38), (.prop 41))]), (.p [((.a 42), (.prop 45))])])))))
            (.new
            (.call 18 [(.a (.ptr (.v 6) 0)), (.agg [(.int .i64 (.i 10)), (.str (.v 12)), (.str (.s [])), (.int .i64 (.i 0)), (.int .i64 (.i 0)), (.sl .nil (.n 0) (.n 0))])] [((.b (.v 6)), (.prop 32))] [.i, .i, .i, .i, .a, .n, .n, .p, .a, .n, .n, .p, .p] (.w (.agg [(.int .i64 (.v 35)), (.int .i64 (.v 36)), (.int .i64 (.v 37)), (.int .i64 (.v 38)), (.sl (.v 39) (.v 40) (.v 41)), (.sl (.v 43) (.v 44) (.v 45))])) [((.a 39), (.prop 42)), ((.a 43), (.prop 46)), ((.b (.v 6)), (.prop 47))]
            (.call 18 [(.a (.ptr (.v 6) 0)), (.agg [(.int .i64 (.i 11)), (.str (.v 12)), (.str (.s [])), (.int .i64 (.i 0)), (.int .i64 (.i 0)), (.sl .nil (.n 0) (.n 0))])] [((.b (.v 6)), (.prop 47))] [.i, .i, .i, .i, .a, .n, .n, .p, .a, .n, .n, .p, .p] (.w (.agg [(.int .i64 (.v 48)), (.int .i64 (.v 49)), (.int .i64 (.v 50)), (.int .i64 (.v 51)), (.sl (.v 52) (.v 53) (.v 54)), (.sl (.v 56) (.v 57) (.v 58))])) [((.a 52), (.prop 55)), ((.a 56), (.prop 59)), ((.b (.v 6)), (.prop 60))]
            (.again 0 [(.n (.v 33)), (.n (.v 34)), (.e (.o1 .neg (.o1 .neg (.v 48)))), (.e (.o1 .neg (.o1 .neg (.v 49)))), (.e (.o1 .neg (.o1 .neg (.v 50)))), (.e (.o1 .neg (.o1 .neg (.v 51)))), (.a (.v 52)), (.e (.o2 .nadd (.v 53) (.n 0))), (.e (.o2 .nadd (.v 54) (.n 0))), (.a (.v 56)), (.e (.o2 .nadd (.v 57) (.n 0))), (.e (.o2 .nadd (.v 58) (.n 0))), (.e (.o1 .neg (.o1 .neg (.v 35)))), (.e (.o1 .neg (.o1 .neg (.v 36)))), (.e (.o1 .neg (.o1 .neg (.v 37)))), (.e (.o1 .neg (.o1 .neg (.v 38)))), (.a (.v 39)), (.e (.o2 .nadd (.v 40) (.n 0))), (.e (.o2 .nadd (.v 41) (.n 0))), (.a (.v 43)), (.e (.o2 .nadd (.v 44) (.n 0))), (.e (.o2 .nadd (.v 45) (.n 0))), (.p [((.a 52), (.prop 55))]), (.p [((.a 56), (.prop 59))]), (.p [((.b (.v 6)), (.prop 60))]), (.p [((.a 39), (.prop 42))]), (.p [((.a 43), (.prop 46))])])))))
           (.new
           (.call 18 [(.a (.ptr (.v 6) 0)), (.agg [(.int .i64 (.i 10)), (.str (.v 12)), (.str (.s [])), (.int .i64 (.i 0)), (.int .i64 (.i 0)), (.sl .nil (.n 0) (.n 0))])] [((.b (.v 6)), (.prop 32))] [.i, .i, .i, .i, .a, .n, .n, .p, .a, .n, .n, .p, .p] (.w (.agg [(.int .i64 (.v 35)), (.int .i64 (.v 36)), (.int .i64 (.v 37)), (.int .i64 (.v 38)), (.sl (.v 39) (.v 40) (.v 41)), (.sl (.v 43) (.v 44) (.v 45))])) [((.a 39), (.prop 42)), ((.a 43), (.prop 46)), ((.b (.v 6)), (.prop 47))]
           (.call 18 [(.a (.ptr (.v 6) 0)), (.agg [(.int .i64 (.i 11)), (.str (.v 12)), (.str (.s [])), (.int .i64 (.i 0)), (.int .i64 (.i 0)), (.sl .nil (.n 0) (.n 0))])] [((.b (.v 6)), (.prop 47))] [.i, .i, .i, .i, .a, .n, .n, .p, .a, .n, .n, .p, .p] (.w (.agg [(.int .i64 (.v 48)), (.int .i64 (.v 49)), (.int .i64 (.v 50)), (.int .i64 (.v 51)), (.sl (.v 52) (.v 53) (.v 54)), (.sl (.v 56) (.v 57) (.v 58))])) [((.a 52), (.prop 55)), ((.a 56), (.prop 59)), ((.b (.v 6)), (.prop 60))]
           (.again 0 [(.n (.v 33)), (.n (.v 34)), (.e (.o1 .neg (.o1 .neg (.v 48)))), (.e (.o1 .neg (.o1 .neg (.v 49)))), (.e (.o1 .neg (.o1 .neg (.v 50)))), (.e (.o1 .neg (.o1 .neg (.v 51)))), (.a (.v 52)), (.e (.o2 .nadd (.v 53) (.n 0))), (.e (.o2 .nadd (.v 54) (.n 0))), (.a (.v 56)), (.e (.o2 .nadd (.v 57) (.n 0))), (.e (.o2 .nadd (.v 58) (.n 0))), (.e (.o1 .neg (.o1 .neg (.v 35)))), (.e (.o1 .neg (.o1 .neg (.v 36)))), (.e (.o1 .neg (.o1 .neg (.v 37)))), (.e (.o1 .neg (.o1 .neg (.v 38)))), (.a (.v 39)), (.e (.o2 .nadd (.v 40) (.n 0))), (.e (.o2 .nadd (.v 41) (.n 0))), (.a (.v 43)), (.e (.o2 .nadd (.v 44) (.n 0))), (.e (.o2 .nadd (.v 45) (.n 0))), (.p [((.a 52), (.prop 55))]), (.p [((.a 56), (.prop 59))]), (.p [((.b (.v 6)), (.prop 60))]), (.p [((.a 39), (.prop 42))]), (.p [((.a 43), (.prop 46))])])))))
          (.new
          (.all
           (.all
            (.call 18 [(.a (.ptr (.v 6) 0)), (.agg [(.int .i64 (.i 10)), (.str (.v 12)), (.str (.s [])), (.int .i64 (.i 0)), (.int .i64 (.i 0)), (.sl .nil (.n 0) (.n 0))])] [((.b (.v 6)), (.prop 32))] [.i, .i, .i, .i, .a, .n, .n, .p, .a, .n, .n, .p, .p] (.w (.agg [(.int .i64 (.v 35)), (.int .i64 (.v 36)), (.int .i64 (.v 37)), (.int .i64 (.v 38)), (.sl (.v 39) (.v 40) (.v 41)), (.sl (.v 43) (.v 44) (.v 45))])) [((.a 39), (.prop 42)), ((.a 43), (.prop 46)), ((.b (.v 6)), (.prop 47))]
            (.call 18 [(.a (.ptr (.v 6) 0)), (.agg [(.int .i64 (.i 11)), (.str (.v 12)), (.str (.s [])), (.int .i64 (.i 0)), (.int .i64 (.i 0)), (.sl .nil (.n 0) (.n 0))])] [((.b (.v 6)), (.prop 47))] [.i, .i, .i, .i, .a, .n, .n, .p, .a, .n, .n, .p, .p] (.w (.agg [(.int .i64 (.v 48)), (.int .i64 (.v 49)), (.int .i64 (.v 50)), (.int .i64 (.v 51)), (.sl (.v 52) (.v 53) (.v 54)), (.sl (.v 56) (.v 57) (.v 58))])) [((.a 52), (.prop 55)), ((.a 56), (.prop 59)), ((.b (.v 6)), (.prop 60))]
            (.again 0 [(.n (.v 33)), (.n (.v 34)), (.e (.o1 .neg (.o1 .neg (.v 48)))), (.e (.o1 .neg (.o1 .neg (.v 49)))), (.e (.o1 .neg (.o1 .neg (.v 50)))), (.e (.o1 .neg (.o1 .neg (.v 51)))), (.a (.v 52)), (.e (.o2 .nadd (.v 53) (.n 0))), (.e (.o2 .nadd (.v 54) (.n 0))), (.a (.v 56)), (.e (.o2 .nadd (.v 57) (.n 0))), (.e (.o2 .nadd (.v 58) (.n 0))), (.e (.o1 .neg (.o1 .neg (.v 35)))), (.e (.o1 .neg (.o1 .neg (.v 36)))), (.e (.o1 .neg (.o1 .neg (.v 37)))), (.e (.o1 .neg (.o1 .neg (.v 38)))), (.a (.v 39)), (.e (.o2 .nadd (.v 40) (.n 0))), (.e (.o2 .nadd (.v 41) (.n 0))), (.a (.v 43)), (.e (.o2 .nadd (.v 44) (.n 0))), (.e (.o2 .nadd (.v 45) (.n 0))), (.p [((.a 52), (.prop 55))]), (.p [((.a 56), (.prop 59))]), (.p [((.b (.v 6)), (.prop 60))]), (.p [((.a 39), (.prop 42))]), (.p [((.a 43), (.prop 46))])])))
            (.call 18 [(.a (.ptr (.v 6) 0)), (.agg [(.int .i64 (.i 10)), (.str (.v 12)), (.str (.s [])), (.int .i64 (.i 0)), (.int .i64 (.i 0)), (.sl .nil (.n 0) (.n 0))])] [((.b (.v 6)), (.prop 32))] [.i, .i, .i, .i, .a, .n, .n, .p, .a, .n, .n, .p, .p] (.w (.agg [(.int .i64 (.v 35)), (.int .i64 (.v 36)), (.int .i64 (.v 37)), (.int .i64 (.v 38)), (.sl (.v 39) (.v 40) (.v 41)), (.sl (.v 43) (.v 44) (.v 45))])) [((.a 39), (.prop 42)), ((.a 43), (.prop 46)), ((.b (.v 6)), (.prop 47))]
            (.call 18 [(.a (.ptr (.v 6) 0)), (.agg [(.int .i64 (.i 11)), (.str (.v 12)), (.str (.s [])), (.int .i64 (.i 0)), (.int .i64 (.i 0)), (.sl .nil (.n 0) (.n 0))])] [((.b (.v 6)), (.prop 47))] [.i, .i, .i, .i, .a, .n, .n, .p, .a, .n, .n, .p, .p] (.w (.agg [(.int .i64 (.v 48)), (.int .i64 (.v 49)), (.int .i64 (.v 50)), (.int .i64 (.v 51)), (.sl (.v 52) (.v 53) (.v 54)), (.sl (.v 56) (.v 57) (.v 58))])) [((.a 52), (.prop 55)), ((.a 56), (.prop 59)), ((.b (.v 6)), (.prop 60))]
            (.again 0 [(.n (.v 33)), (.n (.v 34)), (.e (.o1 .neg (.o1 .neg (.v 48)))), (.e (.o1 .neg (.o1 .neg (.v 49)))), (.e (.o1 .neg (.o1 .neg (.v 50)))), (.e (.o1 .neg (.o1 .neg (.v 51)))), (.a (.v 52)), (.e (.o2 .nadd (.v 53) (.n 0))), (.e (.o2 .nadd (.v 54) (.n 0))), (.a (.v 56)), (.e (.o2 .nadd (.v 57) (.n 0))), (.e (.o2 .nadd (.v 58) (.n 0))), (.e (.o1 .neg (.o1 .neg (.v 35)))), (.e (.o1 .neg (.o1 .neg (.v 36)))), (.e (.o1 .neg (.o1 .neg (.v 37)))), (.e (.o1 .neg (.o1 .neg (.v 38)))), (.a (.v 39)), (.e (.o2 .nadd (.v 40) (.n 0))), (.e (.o2 .nadd (.v 41) (.n 0))), (.a (.v 43)), (.e (.o2 .nadd (.v 44) (.n 0))), (.e (.o2 .nadd (.v 45) (.n 0))), (.p [((.a 52), (.prop 55))]), (.p [((.a 56), (.prop 59))]), (.p [((.b (.v 6)), (.prop 60))]), (.p [((.a 39), (.prop 42))]), (.p [((.a 43), (.prop 46))])]))))
           (.call 18 [(.a (.ptr (.v 6) 0)), (.agg [(.int .i64 (.i 10)), (.str (.v 12)), (.str (.s [])), (.int .i64 (.i 0)), (.int .i64 (.i 0)), (.sl .nil (.n 0) (.n 0))])] [((.b (.v 6)), (.prop 32))] [.i, .i, .i, .i, .a, .n, .n, .p, .a, .n, .n, .p, .p] (.w (.agg [(.int .i64 (.v 35)), (.int .i64 (.v 36)), (.int .i64 (.v 37)), (.int .i64 (.v 38)), (.sl (.v 39) (.v 40) (.v 41)), (.sl (.v 43) (.v 44) (.v 45))])) [((.a 39), (.prop 42)), ((.a 43), (.prop 46)), ((.b (.v 6)), (.prop 47))]
           (.call 18 [(.a (.ptr (.v 6) 0)), (.agg [(.int .i64 (.i 11)), (.str (.v 12)), (.str (.s [])), (.int .i64 (.i 0)), (.int .i64 (.i 0)), (.sl .nil (.n 0) (.n 0))])] [((.b (.v 6)), (.prop 47))] [.i, .i, .i, .i, .a, .n, .n, .p, .a, .n, .n, .p, .p] (.w (.agg [(.int .i64 (.v 48)), (.int .i64 (.v 49)), (.int .i64 (.v 50)), (.int .i64 (.v 51)), (.sl (.v 52) (.v 53) (.v 54)), (.sl (.v 56) (.v 57) (.v 58))])) [((.a 52), (.prop 55)), ((.a 56), (.prop 59)), ((.b (.v 6)), (.prop 60))]
           (.again 0 [(.n (.v 33)), (.n (.v 34)), (.e (.o1 .neg (.o1 .neg (.v 48)))), (.e (.o1 .neg (.o1 .neg (.v 49)))), (.e (.o1 .neg (.o1 .neg (.v 50)))), (.e (.o1 .neg (.o1 .neg (.v 51)))), (.a (.v 52)), (.e (.o2 .nadd (.v 53) (.n 0))), (.e (.o2 .nadd (.v 54) (.n 0))), (.a (.v 56)), (.e (.o2 .nadd (.v 57) (.n 0))), (.e (.o2 .nadd (.v 58) (.n 0))), (.e (.o1 .neg (.o1 .neg (.v 35)))), (.e (.o1 .neg (.o1 .neg (.v 36)))), (.e (.o1 .neg (.o1 .neg (.v 37)))), (.e (.o1 .neg (.o1 .neg (.v 38)))), (.a (.v 39)), (.e (.o2 .nadd (.v 40) (.n 0))), (.e (.o2 .nadd (.v 41) (.n 0))), (.a (.v 43)), (.e (.o2 .nadd (.v 44) (.n 0))), (.e (.o2 .nadd (.v 45) (.n 0))), (.p [((.a 52), (.prop 55))]), (.p [((.a 56), (.prop 59))]), (.p [((.b (.v 6)), (.prop 60))]), (.p [((.a 39), (.prop 42))]), (.p [((.a 43), (.prop 46))])]))))))))
        (.new
        (.all
         (.all
          (.call 18 [(.a (.ptr (.v 6) 0)), (.agg [(.int .i64 (.i 10)), (.str (.v 12)), (.str (.s [])), (.int .i64 (.i 0)), (.int .i64 (.i 0)), (.sl .nil (.n 0) (.n 0))])] [((.b (.v 6)), (.prop 32))] [.i, .i, .i, .i, .a, .n, .n, .p, .a, .n, .n, .p, .p] (.w (.agg [(.int .i64 (.v 34)), (.int .i64 (.v 35)), (.int .i64 (.v 36)), (.int .i64 (.v 37)), (.sl (.v 38) (.v 39) (.v 40)), (.sl (.v 42) (.v 43) (.v 44))])) [((.a 38), (.prop 41)), ((.a 42), (.prop 45)), ((.b (.v 6)), (.prop 46))]
          (.all
           (.all
            (.call 18 [(.a (.ptr (.v 6) 0)), (.agg [(.int .i64 (.i 11)), (.str (.v 12)), (.str (.s [])), (.int .i64 (.i 0)), (.int .i64 (.i 0)), (.sl .nil (.n 0) (.n 0))])] [((.b (.v 6)), (.prop 46))] [.i, .i, .i, .i, .a, .n, .n, .p, .a, .n, .n, .p, .p] (.w (.agg [(.int .i64 (.v 47)), (.int .i64 (.v 48)), (.int .i64 (.v 49)), (.int .i64 (.v 50)), (.sl (.v 51) (.v 52) (.v 53)), (.sl (.v 55) (.v 56) (.v 57))])) [((.a 51), (.prop 54)), ((.a 55), (.prop 58)), ((.b (.v 6)), (.prop 59))]
            (.new
            (.again 0 [(.n (.v 60)), (.n (.v 33)), (.e (.o1 .neg (.o1 .neg (.v 47)))), (.e (.o1 .neg (.o1 .neg (.v 48)))), (.e (.o1 .neg (.o1 .neg (.v 49)))), (.e (.o1 .neg (.o1 .neg (.v 50)))), (.a (.v 51)), (.e (.o2 .nadd (.v 52) (.n 0))), (.e (.o2 .nadd (.v 53) (.n 0))), (.a (.v 55)), (.e (.o2 .nadd (.v 56) (.n 0))), (.e (.o2 .nadd (.v 57) (.n 0))), (.e (.o1 .neg (.o1 .neg (.v 34)))), (.e (.o1 .neg (.o1 .neg (.v 35)))), (.e (.o1 .neg (.o1 .neg (.v 36)))), (.e (.o1 .neg (.o1 .neg (.v 37)))), (.a (.v 38)), (.e (.o2 .nadd (.v 39) (.n 0))), (.e (.o2 .nadd (.v 40) (.n 0))), (.a (.v 42)), (.e (.o2 .nadd (.v 43) (.n 0))), (.e (.o2 .nadd (.v 44) (.n 0))), (.p [((.a 51), (.prop 54))]), (.p [((.a 55), (.prop 58))]), (.p [((.b (.v 6)), (.prop 59))]), (.p [((.a 38), (.prop 41))]), (.p [((.a 42), (.prop 45))])])))
            (.new
            (.call 18 [(.a (.ptr (.v 6) 0)), (.agg [(.int .i64 (.i 11)), (.str (.v 12)), (.str (.s [])), (.int .i64 (.i 0)), (.int .i64 (.i 0)), (.sl .nil (.n 0) (.n 0))])] [((.b (.v 6)), (.prop 46))] [.i, .i, .i, .i, .a, .n, .n, .p, .a, .n, .n, .p, .p] (.w (.agg [(.int .i64 (.v 48)), (.int .i64 (.v 49)), (.int .i64 (.v 50)), (.int .i64 (.v 51)), (.sl (.v 52) (.v 53) (.v 54)), (.sl (.v 56) (.v 57) (.v 58))])) [((.a 52), (.prop 55)), ((.a 56), (.prop 59)), ((.b (.v 6)), (.prop 60))]
            (.again 0 [(.n (.v 47)), (.n (.v 33)), (.e (.o1 .neg (.o1 .neg (.v 48)))), (.e (.o1 .neg (.o1 .neg (.v 49)))), (.e (.o1 .neg (.o1 .neg (.v 50)))), (.e (.o1 .neg (.o1 .neg (.v 51)))), (.a (.v 52)), (.e (.o2 .nadd (.v 53) (.n 0))), (.e (.o2 .nadd (.v 54) (.n 0))), (.a (.v 56)), (.e (.o2 .nadd (.v 57) (.n 0))), (.e (.o2 .nadd (.v 58) (.n 0))), (.e (.o1 .neg (.o1 .neg (.v 34)))), (.e (.o1 .neg (.o1 .neg (.v 35)))), (.e (.o1 .neg (.o1 .neg (.v 36)))), (.e (.o1 .neg (.o1 .neg (.v 37)))), (.a (.v 38)), (.e (.o2 .nadd (.v 39) (.n 0))), (.e (.o2 .nadd (.v 40) (.n 0))), (.a (.v 42)), (.e (.o2 .nadd (.v 43) (.n 0))), (.e (.o2 .nadd (.v 44) (.n 0))), (.p [((.a 52), (.prop 55))]), (.p [((.a 56), (.prop 59))]), (.p [((.b (.v 6)), (.prop 60))]), (.p [((.a 38), (.prop 41))]), (.p [((.a 42), (.prop 45))])]))))
           (.new
           (.call 18 [(.a (.ptr (.v 6) 0)), (.agg [(.int .i64 (.i 11)), (.str (.v 12)), (.str (.s [])), (.int .i64 (.i 0)), (.int .i64 (.i 0)), (.sl .nil (.n 0) (.n 0))])] [((.b (.v 6)), (.prop 46))] [.i, .i, .i, .i, .a, .n, .n, .p, .a, .n, .n, .p, .p] (.w (.agg [(.int .i64 (.v 48)), (.int .i64 (.v 49)), (.int .i64 (.v 50)), (.int .i64 (.v 51)), (.sl (.v 52) (.v 53) (.v 54)), (.sl (.v 56) (.v 57) (.v 58))])) [((.a 52), (.prop 55)), ((.a 56), (.prop 59)), ((.b (.v 6)), (.prop 60))]
           (.again 0 [(.n (.v 47)), (.n (.v 33)), (.e (.o1 .neg (.o1 .neg (.v 48)))), (.e (.o1 .neg (.o1 .neg (.v 49)))), (.e (.o1 .neg (.o1 .neg (.v 50)))), (.e (.o1 .neg (.o1 .neg (.v 51)))), (.a (.v 52)), (.e (.o2 .nadd (.v 53) (.n 0))), (.e (.o2 .nadd (.v 54) (.n 0))), (.a (.v 56)), (.e (.o2 .nadd (.v 57) (.n 0))), (.e (.o2 .nadd (.v 58) (.n 0))), (.e (.o1 .neg (.o1 .neg (.v 34)))), (.e (.o1 .neg (.o1 .neg (.v 35)))), (.e (.o1 .neg (.o1 .neg (.v 36)))), (.e (.o1 .neg (.o1 .neg (.v 37)))), (.a (.v 38)), (.e (.o2 .nadd (.v 39) (.n 0))), (.e (.o2 .nadd (.v 40) (.n 0))), (.a (.v 42)), (.e (.o2 .nadd (.v 43) (.n 0))), (.e (.o2 .nadd (.v 44) (.n 0))), (.p [((.a 52), (.prop 55))]), (.p [((.a 56), (.prop 59))]), (.p [((.b (.v 6)), (.prop 60))]), (.p [((.a 38), (.prop 41))]), (.p [((.a 42), (.prop 45))])])))))
          (.all
           (.all
            (.call 18 [(.a (.ptr (.v 6) 0)), (.agg [(.int .i64 (.i 10)), (.str (.v 12)), (.str (.s [])), (.int .i64 (.i 0)), (.int .i64 (.i 0)), (.sl .nil (.n 0) (.n 0))])] [((.b (.v 6)), (.prop 32))] [.i, .i, .i, .i, .a, .n, .n, .p, .a, .n, .n, .p, .p] (.w (.agg [(.int .i64 (.v 34)), (.int .i64 (.v 35)), (.int .i64 (.v 36)), (.int .i64 (.v 37)), (.sl (.v 38) (.v 39) (.v 40)), (.sl (.v 42) (.v 43) (.v 44))])) [((.a 38), (.prop 41)), ((.a 42), (.prop 45)), ((.b (.v 6)), (.prop 46))]
            (.all
             (.call 18 [(.a (.ptr (.v 6) 0)), (.agg [(.int .i64 (.i 11)), (.str (.v 12)), (.str (.s [])), (.int .i64 (.i 0)), (.int .i64 (.i 0)), (.sl .nil (.n 0) (.n 0))])] [((.b (.v 6)), (.prop 46))] [.i, .i, .i, .i, .a, .n, .n, .p, .a, .n, .n, .p, .p] (.w (.agg [(.int .i64 (.v 47)), (.int .i64 (.v 48)), (.int .i64 (.v 49)), (.int .i64 (.v 50)), (.sl (.v 51) (.v 52) (.v 53)), (.sl (.v 55) (.v 56) (.v 57))])) [((.a 51), (.prop 54)), ((.a 55), (.prop 58)), ((.b (.v 6)), (.prop 59))]
             (.new
             (.again 0 [(.n (.v 60)), (.n (.v 33)), (.e (.o1 .neg (.o1 .neg (.v 47)))), (.e (.o1 .neg (.o1 .neg (.v 48)))), (.e (.o1 .neg (.o1 .neg (.v 49)))), (.e (.o1 .neg (.o1 .neg (.v 50)))), (.a (.v 51)), (.e (.o2 .nadd (.v 52) (.n 0))), (.e (.o2 .nadd (.v 53) (.n 0))), (.a (.v 55)), (.e (.o2 .nadd (.v 56) (.n 0))), (.e (.o2 .nadd (.v 57) (.n 0))), (.e (.o1 .neg (.o1 .neg (.v 34)))), (.e (.o1 .neg (.o1 .neg (.v 35)))), (.e (.o1 .neg (.o1 .neg (.v 36)))), (.e (.o1 .neg (.o1 .neg (.v 37)))), (.a (.v 38)), (.e (.o2 .nadd (.v 39) (.n 0))), (.e (.o2 .nadd (.v 40) (.n 0))), (.a (.v 42)), (.e (.o2 .nadd (.v 43) (.n 0))), (.e (.o2 .nadd (.v 44) (.n 0))), (.p [((.a 51), (.prop 54))]), (.p [((.a 55), (.prop 58))]), (.p [((.b (.v 6)), (.prop 59))]), (.p [((.a 38), (.prop 41))]), (.p [((.a 42), (.prop 45))])])))
             (.new
             (.call 18 [(.a (.ptr (.v 6) 0)), (.agg [(.int .i64 (.i 11)), (.str (.v 12)), (.str (.s [])), (.int .i64 (.i 0)), (.int .i64 (.i 0)), (.sl .nil (.n 0) (.n 0))])] [((.b (.v 6)), (.prop 46))] [.i, .i, .i, .i, .a, .n, .n, .p, .a, .n, .n, .p, .p] (.w (.agg [(.int .i64 (.v 48)), (.int .i64 (.v 49)), (.int .i64 (.v 50)), (.int .i64 (.v 51)), (.sl (.v 52) (.v 53) (.v 54)), (.sl (.v 56) (.v 57) (.v 58))])) [((.a 52), (.prop 55)), ((.a 56), (.prop 59)), ((.b (.v 6)), (.prop 60))]
             (.again 0 [(.n (.v 47)), (.n (.v 33)), (.e (.o1 .neg (.o1 .neg (.v 48)))), (.e (.o1 .neg (.o1 .neg (.v 49)))), (.e (.o1 .neg (.o1 .neg (.v 50)))), (.e (.o1 .neg (.o1 .neg (.v 51)))), (.a (.v 52)), (.e (.o2 .nadd (.v 53) (.n 0))), (.e (.o2 .nadd (.v 54) (.n 0))), (.a (.v 56)), (.e (.o2 .nadd (.v 57) (.n 0))), (.e (.o2 .nadd (.v 58) (.n 0))), (.e (.o1 .neg (.o1 .neg (.v 34)))), (.e (.o1 .neg (.o1 .neg (.v 35)))), (.e (.o1 .neg (.o1 .neg (.v 36)))), (.e (.o1 .neg (.o1 .neg (.v 37)))), (.a (.v 38)), (.e (.o2 .nadd (.v 39) (.n 0))), (.e (.o2 .nadd (.v 40) (.n 0))), (.a (.v 42)), (.e (.o2 .nadd (.v 43) (.n 0))), (.e (.o2 .nadd (.v 44) (.n 0))), (.p [((.a 52), (.prop 55))]), (.p [((.a 56), (.prop 59))]), (.p [((.b (.v 6)), (.prop 60))]), (.p [((.a 38), (.prop 41))]), (.p [((.a 42), (.prop 45))])])))))
            (.new
            (.call 18 [(.a (.ptr (.v 6) 0)), (.agg [(.int .i64 (.i 10)), (.str (.v 12)), (.str (.s [])), (.int .i64 (.i 0)), (.int .i64 (.i 0)), (.sl .nil (.n 0) (.n 0))])] [((.b (.v 6)), (.prop 32))] [.i, .i, .i, .i, .a, .n, .n, .p, .a, .n, .n, .p, .p] (.w (.agg [(.int .i64 (.v 35)), (.int .i64 (.v 36)), (.int .i64 (.v 37)), (.int .i64 (.v 38)), (.sl (.v 39) (.v 40) (.v 41)), (.sl (.v 43) (.v 44) (.v 45))])) [((.a 39), (.prop 42)), ((.a 43), (.prop 46)), ((.b (.v 6)), (.prop 47))]
            (.call 18 [(.a (.ptr (.v 6) 0)), (.agg [(.int .i64 (.i 11)), (.str (.v 12)), (.str (.s [])), (.int .i64 (.i 0)), (.int .i64 (.i 0)), (.sl .nil (.n 0) (.n 0))])] [((.b (.v 6)), (.prop 47))] [.i, .i, .i, .i, .a, .n, .n, .p, .a, .n, .n, .p, .p] (.w (.agg [(.int .i64 (.v 48)), (.int .i64 (.v 49)), (.int .i64 (.v 50)), (.int .i64 (.v 51)), (.sl (.v 52) (.v 53) (.v 54)), (.sl (.v 56) (.v 57) (.v 58))])) [((.a 52), (.prop 55)), ((.a 56), (.prop 59)), ((.b (.v 6)), (.prop 60))]
            (.again 0 [(.n (.v 34)), (.n (.v 33)), (.e (.o1 .neg (.o1 .neg (.v 48)))), (.e (.o1 .neg (.o1 .neg (.v 49)))), (.e (.o1 .neg (.o1 .neg (.v 50)))), (.e (.o1 .neg (.o1 .neg (.v 51)))), (.a (.v 52)), (.e (.o2 .nadd (.v 53) (.n 0))), (.e (.o2 .nadd (.v 54) (.n 0))), (.a (.v 56)), (.e (.o2 .nadd (.v 57) (.n 0))), (.e (.o2 .nadd (.v 58) (.n 0))), (.e (.o1 .neg (.o1 .neg (.v 35)))), (.e (.o1 .neg (.o1 .neg (.v 36)))), (.e (.o1 .neg (.o1 .neg (.v 37)))), (.e (.o1 .neg (.o1 .neg (.v 38)))), (.a (.v 39)), (.e (.o2 .nadd (.v 40) (.n 0))), (.e (.o2 .nadd (.v 41) (.n 0))), (.a (.v 43)), (.e (.o2 .nadd (.v 44) (.n 0))), (.e (.o2 .nadd (.v 45) (.n 0))), (.p [((.a 52), (.prop 55))]), (.p [((.a 56), (.prop 59))]), (.p [((.b (.v 6)), (.prop 60))]), (.p [((.a 39), (.prop 42))]), (.p [((.a 43), (.prop 46))])])))))
           (.new
           (.all
            (.call 18 [(.a (.ptr (.v 6) 0)), (.agg [(.int .i64 (.i 10)), (.str (.v 12)), (.str (.s [])), (.int .i64 (.i 0)), (.int .i64 (.i 0)), (.sl .nil (.n 0) (.n 0))])] [((.b (.v 6)), (.prop 32))] [.i, .i, .i, .i, .a, .n, .n, .p, .a, .n, .n, .p, .p] (.w (.agg [(.int .i64 (.v 35)), (.int .i64 (.v 36)), (.int .i64 (.v 37)), (.int .i64 (.v 38)), (.sl (.v 39) (.v 40) (.v 41)), (.sl (.v 43) (.v 44) (.v 45))])) [((.a 39), (.prop 42)), ((.a 43), (.prop 46)), ((.b (.v 6)), (.prop 47))]
            (.call 18 [(.a (.ptr (.v 6) 0)), (.agg [(.int .i64 (.i 11)), (.str (.v 12)), (.str (.s [])), (.int .i64 (.i 0)), (.int .i64 (.i 0)), (.sl .nil (.n 0) (.n 0))])] [((.b (.v 6)), (.prop 47))] [.i, .i, .i, .i, .a, .n, .n, .p, .a, .n, .n, .p, .p] (.w (.agg [(.int .i64 (.v 48)), (.int .i64 (.v 49)), (.int .i64 (.v 50)), (.int .i64 (.v 51)), (.sl (.v 52) (.v 53) (.v 54)), (.sl (.v 56) (.v 57) (.v 58))])) [((.a 52), (.prop 55)), ((.a 56), (.prop 59)), ((.b (.v 6)), (.prop 60))]
            (.again 0 [(.n (.v 34)), (.n (.v 33)), (.e (.o1 .neg (.o1 .neg (.v 48)))), (.e (.o1 .neg (.o1 .neg (.v 49)))), (.e (.o1 .neg (.o1 .neg (.v 50)))), (.e (.o1 .neg (.o1 .neg (.v 51)))), (.a (.v 52)), (.e (.o2 .nadd (.v 53) (.n 0))), (.e (.o2 .nadd (.v 54) (.n 0))), (.a (.v 56)), (.e (.o2 .nadd (.v 57) (.n 0))), (.e (.o2 .nadd (.v 58) (.n 0))), (.e (.o1 .neg (.o1 .neg (.v 35)))), (.e (.o1 .neg (.o1 .neg (.v 36)))), (.e (.o1 .neg (.o1 .neg (.v 37)))), (.e (.o1 .neg (.o1 .neg (.v 38)))), (.a (.v 39)), (.e (.o2 .nadd (.v 40) (.n 0))), (.e (.o2 .nadd (.v 41) (.n 0))), (.a (.v 43)), (.e (.o2 .nadd (.v 44) (.n 0))), (.e (.o2 .nadd (.v 45) (.n 0))), (.p [((.a 52), (.prop 55))]), (.p [((.a 56), (.prop 59))]), (.p [((.b (.v 6)), (.prop 60))]), (.p [((.a 39), (.prop 42))]), (.p [((.a 43), (.prop 46))])])))
            (.call 18 [(.a (.ptr (.v 6) 0)), (.agg [(.int .i64 (.i 10)), (.str (.v 12)), (.str (.s [])), (.int .i64 (.i 0)), (.int .i64 (.i 0)), (.sl .nil (.n 0) (.n 0))])] [((.b (.v 6)), (.prop 32))] [.i, .i, .i, .i, .a, .n, .n, .p, .a, .n, .n, .p, .p] (.w (.agg [(.int .i64 (.v 35)), (.int .i64 (.v 36)), (.int .i64 (.v 37)), (.int .i64 (.v 38)), (.sl (.v 39) (.v 40) (.v 41)), (.sl (.v 43) (.v 44) (.v 45))])) [((.a 39), (.prop 42)), ((.a 43), (.prop 46)), ((.b (.v 6)), (.prop 47))]
            (.call 18 [(.a (.ptr (.v 6) 0)), (.agg [(.int .i64 (.i 11)), (.str (.v 12)), (.str (.s [])), (.int .i64 (.i 0)), (.int .i64 (.i 0)), (.sl .nil (.n 0) (.n 0))])] [((.b (.v 6)), (.prop 47))] [.i, .i, .i, .i, .a, .n, .n, .p, .a, .n, .n, .p, .p] (.w (.agg [(.int .i64 (.v 48)), (.int .i64 (.v 49)), (.int .i64 (.v 50)), (.int .i64 (.v 51)), (.sl (.v 52) (.v 53) (.v 54)), (.sl (.v 56) (.v 57) (.v 58))])) [((.a 52), (.prop 55)), ((.a 56), (.prop 59)), ((.b (.v 6)), (.prop 60))]
            (.again 0 [(.n (.v 34)), (.n (.v 33)), (.e (.o1 .neg (.o1 .neg (.v 48)))), (.e (.o1 .neg (.o1 .neg (.v 49)))), (.e (.o1 .neg (.o1 .neg (.v 50)))), (.e (.o1 .neg (.o1 .neg (.v 51)))), (.a (.v 52)), (.e (.o2 .nadd (.v 53) (.n 0))), (.e (.o2 .nadd (.v 54) (.n 0))), (.a (.v 56)), (.e (.o2 .nadd (.v 57) (.n 0))), (.e (.o2 .nadd (.v 58) (.n 0))), (.e (.o1 .neg (.o1 .neg (.v 35)))), (.e (.o1 .neg (.o1 .neg (.v 36)))), (.e (.o1 .neg (.o1 .neg (.v 37)))), (.e (.o1 .neg (.o1 .neg (.v 38)))), (.a (.v 39)), (.e (.o2 .nadd (.v 40) (.n 0))), (.e (.o2 .nadd (.v 41) (.n 0))), (.a (.v 43)), (.e (.o2 .nadd (.v 44) (.n 0))), (.e (.o2 .nadd (.v 45) (.n 0))), (.p [((.a 52), (.prop 55))]), (.p [((.a 56), (.prop 59))]), (.p [((.b (.v 6)), (.prop 60))]), (.p [((.a 39), (.prop 42))]), (.p [((.a 43), (.prop 46))])])))))))
         (.all
          (.all
           (.all
            (.call 18 [(.a (.ptr (.v 6) 0)), (.agg [(.int .i64 (.i 10)), (.str (.v 12)), (.str (.s [])), (.int .i64 (.i 0)), (.int .i64 (.i 0)), (.sl .nil (.n 0) (.n 0))])] [((.b (.v 6)), (.prop 32))] [.i, .i, .i, .i, .a, .n, .n, .p, .a, .n, .n, .p, .p] (.w (.agg [(.int .i64 (.v 34)), (.int .i64 (.v 35)), (.int .i64 (.v 36)), (.int .i64 (.v 37)), (.sl (.v 38) (.v 39) (.v 40)), (.sl (.v 42) (.v 43) (.v 44))])) [((.a 38), (.prop 41)), ((.a 42), (.prop 45)), ((.b (.v 6)), (.prop 46))]
            (.all
             (.call 18 [(.a (.ptr (.v 6) 0)), (.agg [(.int .i64 (.i 11)), (.str (.v 12)), (.str (.s [])), (.int .i64 (.i 0)), (.int .i64 (.i 0)), (.sl .nil (.n 0) (.n 0))])] [((.b (.v 6)), (.prop 46))] [.i, .i, .i, .i, .a, .n, .n, .p, .a, .n, .n, .p, .p] (.w (.agg [(.int .i64 (.v 47)), (.int .i64 (.v 48)), (.int .i64 (.v 49)), (.int .i64 (.v 50)), (.sl (.v 51) (.v 52) (.v 53)), (.sl (.v 55) (.v 56) (.v 57))])) [((.a 51), (.prop 54)), ((.a 55), (.prop 58)), ((.b (.v 6)), (.prop 59))]
             (.new
             (.again 0 [(.n (.v 60)), (.n (.v 33)), (.e (.o1 .neg (.o1 .neg (.v 47)))), (.e (.o1 .neg (.o1 .neg (.v 48)))), (.e (.o1 .neg (.o1 .neg (.v 49)))), (.e (.o1 .neg (.o1 .neg (.v 50)))), (.a (.v 51)), (.e (.o2 .nadd (.v 52) (.n 0))), (.e (.o2 .nadd (.v 53) (.n 0))), (.a (.v 55)), (.e (.o2 .nadd (.v 56) (.n 0))), (.e (.o2 .nadd (.v 57) (.n 0))), (.e (.o1 .neg (.o1 .neg (.v 34)))), (.e (.o1 .neg (.o1 .neg (.v 35)))), (.e (.o1 .neg (.o1 .neg (.v 36)))), (.e (.o1 .neg (.o1 .neg (.v 37)))), (.a (.v 38)), (.e (.o2 .nadd (.v 39) (.n 0))), (.e (.o2 .nadd (.v 40) (.n 0))), (.a (.v 42)), (.e (.o2 .nadd (.v 43) (.n 0))), (.e (.o2 .nadd (.v 44) (.n 0))), (.p [((.a 51), (.prop 54))]), (.p [((.a 55), (.prop 58))]), (.p [((.b (.v 6)), (.prop 59))]), (.p [((.a 38), (.prop 41))]), (.p [((.a 42), (.prop 45))])])))
             (.new
             (.call 18 [(.a (.ptr (.v 6) 0)), (.agg [(.int .i64 (.i 11)), (.str (.v 12)), (.str (.s [])), (.int .i64 (.i 0)), (.int .i64 (.i 0)), (.sl .nil (.n 0) (.n 0))])] [((.b (.v 6)), (.prop 46))] [.i, .i, .i, .i, .a, .n, .n, .p, .a, .n, .n, .p, .p] (.w (.agg [(.int .i64 (.v 48)), (.int .i64 (.v 49)), (.int .i64 (.v 50)), (.int .i64 (.v 51)), (.sl (.v 52) (.v 53) (.v 54)), (.sl (.v 56) (.v 57) (.v 58))])) [((.a 52), (.prop 55)), ((.a 56), (.prop 59)), ((.b (.v 6)), (.prop 60))]
             (.again 0 [(.n (.v 47)), (.n (.v 33)), (.e (.o1 .neg (.o1 .neg (.v 48)))), (.e (.o1 .neg (.o1 .neg (.v 49)))), (.e (.o1 .neg (.o1 .neg (.v 50)))), (.e (.o1 .neg (.o1 .neg (.v 51)))), (.a (.v 52)), (.e (.o2 .nadd (.v 53) (.n 0))), (.e (.o2 .nadd (.v 54) (.n 0))), (.a (.v 56)), (.e (.o2 .nadd (.v 57) (.n 0))), (.e (.o2 .nadd (.v 58) (.n 0))), (.e (.o1 .neg (.o1 .neg (.v 34)))), (.e (.o1 .neg (.o1 .neg (.v 35)))), (.e (.o1 .neg (.o1 .neg (.v 36)))), (.e (.o1 .neg (.o1 .neg (.v 37)))), (.a (.v 38)), (.e (.o2 .nadd (.v 39) (.n 0))), (.e (.o2 .nadd (.v 40) (.n 0))), (.a (.v 42)), (.e (.o2 .nadd (.v 43) (.n 0))), (.e (.o2 .nadd (.v 44) (.n 0))), (.p [((.a 52), (.prop 55))]), (.p [((.a 56), (.prop 59))]), (.p [((.b (.v 6)), (.prop 60))]), (.p [((.a 38), (.prop 41))]), (.p [((.a 42), (.prop 45))])])))))
            (.new
            (.call 18 [(.a (.ptr (.v 6) 0)), (.agg [(.int .i64 (.i 10)), (.str (.v 12)), (.str (.s [])), (.int .i64 (.i 0)), (.int .i64 (.i 0)), (.sl .nil (.n 0) (.n 0))])] [((.b (.v 6)), (.prop 32))] [.i, .i, .i, .i, .a, .n, .n, .p, .a, .n, .n, .p, .p] (.w (.agg [(.int .i64 (.v 35)), (.int .i64 (.v 36)), (.int .i64 (.v 37)), (.int .i64 (.v 38)), (.sl (.v 39) (.v 40) (.v 41)), (.sl (.v 43) (.v 44) (.v 45))])) [((.a 39), (.prop 42)), ((.a 43), (.prop 46)), ((.b (.v 6)), (.prop 47))]
            (.call 18 [(.a (.ptr (.v 6) 0)), (.agg [(.int .i64 (.i 11)), (.str (.v 12)), (.str (.s [])), (.int .i64 (.i 0)), (.int .i64 (.i 0)), (.sl .nil (.n 0) (.n 0))])] [((.b (.v 6)), (.prop 47))] [.i, .i, .i, .i, .a, .n, .n, .p, .a, .n, .n, .p, .p] (.w (.agg [(.int .i64 (.v 48)), (.int .i64 (.v 49)), (.int .i64 (.v 50)), (.int .i64 (.v 51)), (.sl (.v 52) (.v 53) (.v 54)), (.sl (.v 56) (.v 57) (.v 58))])) [((.a 52), (.prop 55)), ((.a 56), (.prop 59)), ((.b (.v 6)), (.prop 60))]
            (.again 0 [(.n (.v 34)), (.n (.v 33)), (.e (.o1 .neg (.o1 .neg (.v 48)))), (.e (.o1 .neg (.o1 .neg (.v 49)))), (.e (.o1 .neg (.o1 .neg (.v 50)))), (.e (.o1 .neg (.o1 .neg (.v 51)))), (.a (.v 52)), (.e (.o2 .nadd (.v 53) (.n 0))), (.e (.o2 .nadd (.v 54) (.n 0))), (.a (.v 56)), (.e (.o2 .nadd (.v 57) (.n 0))), (.e (.o2 .nadd (.v 58) (.n 0))), (.e (.o1 .neg (.o1 .neg (.v 35)))), (.e (.o1 .neg (.o1 .neg (.v 36)))), (.e (.o1 .neg (.o1 .neg (.v 37)))), (.e (.o1 .neg (.o1 .neg (.v 38)))), (.a (.v 39)), (.e (.o2 .nadd (.v 40) (.n 0))), (.e (.o2 .nadd (.v 41) (.n 0))), (.a (.v 43)), (.e (.o2 .nadd (.v 44) (.n 0))), (.e (.o2 .nadd (.v 45) (.n 0))), (.p [((.a 52), (.prop 55))]), (.p [((.a 56), (.prop 59))]), (.p [((.b (.v 6)), (.prop 60))]), (.p [((.a 39), (.prop 42))]), (.p [((.a 43), (.prop 46))])])))))
           (.new
           (.call 18 [(.a (.ptr (.v 6) 0)), (.agg [(.int .i64 (.i 10)), (.str (.v 12)), (.str (.s [])), (.int .i64 (.i 0)), (.int .i64 (.i 0)), (.sl .nil (.n 0) (.n 0))])] [((.b (.v 6)), (.prop 32))] [.i, .i, .i, .i, .a, .n, .n, .p, .a, .n, .n, .p, .p] (.w (.agg [(.int .i64 (.v 35)), (.int .i64 (.v 36)), (.int .i64 (.v 37)), (.int .i64 (.v 38)), (.sl (.v 39) (.v 40) (.v 41)), (.sl (.v 43) (.v 44) (.v 45))])) [((.a 39), (.prop 42)), ((.a 43), (.prop 46)), ((.b (.v 6)), (.prop 47))]
           (.call 18 [(.a (.ptr (.v 6) 0)), (.agg [(.int .i64 (.i 11)), (.str (.v 12)), (.str (.s [])), (.int .i64 (.i 0)), (.int .i64 (.i 0)), (.sl .nil (.n 0) (.n 0))])] [((.b (.v 6)), (.prop 47))] [.i, .i, .i, .i, .a, .n, .n, .p, .a, .n, .n, .p, .p] (.w (.agg [(.int .i64 (.v 48)), (.int .i64 (.v 49)), (.int .i64 (.v 50)), (.int .i64 (.v 51)), (.sl (.v 52) (.v 53) (.v 54)), (.sl (.v 56) (.v 57) (.v 58))])) [((.a 52), (.prop 55)), ((.a 56), (.prop 59)), ((.b (.v 6)), (.prop 60))]
           (.again 0 [(.n (.v 34)), (.n (.v 33)), (.e (.o1 .neg (.o1 .neg (.v 48)))), (.e (.o1 .neg (.o1 .neg (.v 49)))), (.e (.o1 .neg (.o1 .neg (.v 50)))), (.e (.o1 .neg (.o1 .neg (.v 51)))), (.a (.v 52)), (.e (.o2 .nadd (.v 53) (.n 0))), (.e (.o2 .nadd (.v 54) (.n 0))), (.a (.v 56)), (.e (.o2 .nadd (.v 57) (.n 0))), (.e (.o2 .nadd (.v 58) (.n 0))), (.e (.o1 .neg (.o1 .neg (.v 35)))), (.e (.o1 .neg (.o1 .neg (.v 36)))), (.e (.o1 .neg (.o1 .neg (.v 37)))), (.e (.o1 .neg (.o1 .neg (.v 38)))), (.a (.v 39)), (.e (.o2 .nadd (.v 40) (.n 0))), (.e (.o2 .nadd (.v 41) (.n 0))), (.a (.v 43)), (.e (.o2 .nadd (.v 44) (.n 0))), (.e (.o2 .nadd (.v 45) (.n 0))), (.p [((.a 52), (.prop 55))]), (.p [((.a 56), (.prop 59))]), (.p [((.b (.v 6)), (.prop 60))]), (.p [((.a 39), (.prop 42))]), (.p [((.a 43), (.prop 46))])])))))
          (.new
          (.all
           (.all
            (.call 18 [(.a (.ptr (.v 6) 0)), (.agg [(.int .i64 (.i 10)), (.str (.v 12)), (.str (.s [])), (.int .i64 (.i 0)), (.int .i64 (.i 0)), (.sl .nil (.n 0) (.n 0))])] [((.b (.v 6)), (.prop 32))] [.i, .i, .i, .i, .a, .n, .n, .p, .a, .n, .n, .p, .p] (.w (.agg [(.int .i64 (.v 35)), (.int .i64 (.v 36)), (.int .i64 (.v 37)), (.int .i64 (.v 38)), (.sl (.v 39) (.v 40) (.v 41)), (.sl (.v 43) (.v 44) (.v 45))])) [((.a 39), (.prop 42)), ((.a 43), (.prop 46)), ((.b (.v 6)), (.prop 47))]
            (.call 18 [(.a (.ptr (.v 6) 0)), (.agg [(.int .i64 (.i 11)), (.str (.v 12)), (.str (.s [])), (.int .i64 (.i 0)), (.int .i64 (.i 0)), (.sl .nil (.n 0) (.n 0))])] [((.b (.v 6)), (.prop 47))] [.i, .i, .i, .i, .a, .n, .n, .p, .a, .n, .n, .p, .p] (.w (.agg [(.int .i64 (.v 48)), (.int .i64 (.v 49)), (.int .i64 (.v 50)), (.int .i64 (.v 51)), (.sl (.v 52) (.v 53) (.v 54)), (.sl (.v 56) (.v 57) (.v 58))])) [((.a 52), (.prop 55)), ((.a 56), (.prop 59)), ((.b (.v 6)), (.prop 60))]
            (.again 0 [(.n (.v 34)), (.n (.v 33)), (.e (.o1 .neg (.o1 .neg (.v 48)))), (.e (.o1 .neg (.o1 .neg (.v 49)))), (.e (.o1 .neg (.o1 .neg (.v 50)))), (.e (.o1 .neg (.o1 .neg (.v 51)))), (.a (.v 52)), (.e (.o2 .nadd (.v 53) (.n 0))), (.e (.o2 .nadd (.v 54) (.n 0))), (.a (.v 56)), (.e (.o2 .nadd (.v 57) (.n 0))), (.e (.o2 .nadd (.v 58) (.n 0))), (.e (.o1 .neg (.o1 .neg (.v 35)))), (.e (.o1 .neg (.o1 .neg (.v 36)))), (.e (.o1 .neg (.o1 .neg (.v 37)))), (.e (.o1 .neg (.o1 .neg (.v 38)))), (.a (.v 39)), (.e (.o2 .nadd (.v 40) (.n 0))), (.e (.o2 .nadd (.v 41) (.n 0))), (.a (.v 43)), (.e (.o2 .nadd (.v 44) (.n 0))), (.e (.o2 .nadd (.v 45) (.n 0))), (.p [((.a 52), (.prop 55))]), (.p [((.a 56), (.prop 59))]), (.p [((.b (.v 6)), (.prop 60))]), (.p [((.a 39), (.prop 42))]), (.p [((.a 43), (.prop 46))])])))
            (.call 18 [(.a (.ptr (.v 6) 0)), (.agg [(.int .i64 (.i 10)), (.str (.v 12)), (.str (.s [])), (.int .i64 (.i 0)), (.int .i64 (.i 0)), (.sl .nil (.n 0) (.n 0))])] [((.b (.v 6)), (.prop 32))] [.i, .i, .i, .i, .a, .n, .n, .p, .a, .n, .n, .p, .p] (.w (.agg [(.int .i64 (.v 35)), (.int .i64 (.v 36)), (.int .i64 (.v 37)), (.int .i64 (.v 38)), (.sl (.v 39) (.v 40) (.v 41)), (.sl (.v 43) (.v 44) (.v 45))])) [((.a 39), (.prop 42)), ((.a 43), (.prop 46)), ((.b (.v 6)), (.prop 47))]
            (.call 18 [(.a (.ptr (.v 6) 0)), (.agg [(.int .i64 (.i 11)), (.str (.v 12)), (.str (.s [])), (.int .i64 (.i 0)), (.int .i64 (.i 0)), (.sl .nil (.n 0) (.n 0))])] [((.b (.v 6)), (.prop 47))] [.i, .i, .i, .i, .a, .n, .n, .p, .a, .n, .n, .p, .p] (.w (.agg [(.int .i64 (.v 48)), (.int .i64 (.v 49)), (.int .i64 (.v 50)), (.int .i64 (.v 51)), (.sl (.v 52) (.v 53) (.v 54)), (.sl (.v 56) (.v 57) (.v 58))])) [((.a 52), (.prop 55)), ((.a 56), (.prop 59)), ((.b (.v 6)), (.prop 60))]
            (.again 0 [(.n (.v 34)), (.n (.v 33)), (.e (.o1 .neg (.o1 .neg (.v 48)))), (.e (.o1 .neg (.o1 .neg (.v 49)))), (.e (.o1 .neg (.o1 .neg (.v 50)))), (.e (.o1 .neg (.o1 .neg (.v 51)))), (.a (.v 52)), (.e (.o2 .nadd (.v 53) (.n 0))), (.e (.o2 .nadd (.v 54) (.n 0))), (.a (.v 56)), (.e (.o2 .nadd (.v 57) (.n 0))), (.e (.o2 .nadd (.v 58) (.n 0))), (.e (.o1 .neg (.o1 .neg (.v 35)))), (.e (.o1 .neg (.o1 .neg (.v 36)))), (.e (.o1 .neg (.o1 .neg (.v 37)))), (.e (.o1 .neg (.o1 .neg (.v 38)))), (.a (.v 39)), (.e (.o2 .nadd (.v 40) (.n 0))), (.e (.o2 .nadd (.v 41) (.n 0))), (.a (.v 43)), (.e (.o2 .nadd (.v 44) (.n 0))), (.e (.o2 .nadd (.v 45) (.n 0))), (.p [((.a 52), (.prop 55))]), (.p [((.a 56), (.prop 59))]), (.p [((.b (.v 6)), (.prop 60))]), (.p [((.a 39), (.prop 42))]), (.p [((.a 43), (.prop 46))])]))))
           (.call 18 [(.a (.ptr (.v 6) 0)), (.agg [(.int .i64 (.i 10)), (.str (.v 12)), (.str (.s [])), (.int .i64 (.i 0)), (.int .i64 (.i 0)), (.sl .nil (.n 0) (.n 0))])] [((.b (.v 6)), (.prop 32))] [.i, .i, .i, .i, .a, .n, .n, .p, .a, .n, .n, .p, .p] (.w (.agg [(.int .i64 (.v 35)), (.int .i64 (.v 36)), (.int .i64 (.v 37)), (.int .i64 (.v 38)), (.sl (.v 39) (.v 40) (.v 41)), (.sl (.v 43) (.v 44) (.v 45))])) [((.a 39), (.prop 42)), ((.a 43), (.prop 46)), ((.b (.v 6)), (.prop 47))]
           (.call 18 [(.a (.ptr (.v 6) 0)), (.agg [(.int .i64 (.i 11)), (.str (.v 12)), (.str (.s [])), (.int .i64 (.i 0)), (.int .i64 (.i 0)), (.sl .nil (.n 0) (.n 0))])] [((.b (.v 6)), (.prop 47))] [.i, .i, .i, .i, .a, .n, .n, .p, .a, .n, .n, .p, .p] (.w (.agg [(.int .i64 (.v 48)), (.int .i64 (.v 49)), (.int .i64 (.v 50)), (.int .i64 (.v 51)), (.sl (.v 52) (.v 53) (.v 54)), (.sl (.v 56) (.v 57) (.v 58))])) [((.a 52), (.prop 55)), ((.a 56), (.prop 59)), ((.b (.v 6)), (.prop 60))]
           (.again 0 [(.n (.v 34)), (.n (.v 33)), (.e (.o1 .neg (.o1 .neg (.v 48)))), (.e (.o1 .neg (.o1 .neg (.v 49)))), (.e (.o1 .neg (.o1 .neg (.v 50)))), (.e (.o1 .neg (.o1 .neg (.v 51)))), (.a (.v 52)), (.e (.o2 .nadd (.v 53) (.n 0))), (.e (.o2 .nadd (.v 54) (.n 0))), (.a (.v 56)), (.e (.o2 .nadd (.v 57) (.n 0))), (.e (.o2 .nadd (.v 58) (.n 0))), (.e (.o1 .neg (.o1 .neg (.v 35)))), (.e (.o1 .neg (.o1 .neg (.v 36)))), (.e (.o1 .neg (.o1 .neg (.v 37)))), (.e (.o1 .neg (.o1 .neg (.v 38)))), (.a (.v 39)), (.e (.o2 .nadd (.v 40) (.n 0))), (.e (.o2 .nadd (.v 41) (.n 0))), (.a (.v 43)), (.e (.o2 .nadd (.v 44) (.n 0))), (.e (.o2 .nadd (.v 45) (.n 0))), (.p [((.a 52), (.prop 55))]), (.p [((.a 56), (.prop 59))]), (.p [((.b (.v 6)), (.prop 60))]), (.p [((.a 39), (.prop 42))]), (.p [((.a 43), (.prop 46))])])))))))))))
    (.br (.o2 .eq (.v 45) (.i 0))
     (.br (.o2 .eq (.v 46) (.i 1))
      (.br (.o1 .not (.o2 .eq (.v 35) (.i 0)))
       (.ret (.w (.a (.bool (.c false)))) [((.a 0), (.prop 3))])
       (.br (.o1 .not (.o2 .eq (.o1 .ofNat (.v 43)) (.v 47)))
        (.ret (.w (.a (.bool (.c false)))) [((.a 0), (.prop 3))])
        (.br (.o2 .eq (.v 46) (.i 2))
         (.br (.o1 .not (.o2 .eq (.v 35) (.i 23)))
          (.ret (.w (.a (.bool (.c false)))) [((.a 0), (.prop 3))])
          (.need (.o1 (.inr .i64) (.o2 .add (.v 9) (.i 1)))
          (.again 0 [(.e (.o1 .not (.o1 .not (.v 8)))), (.e (.o1 .neg (.o1 .neg (.o2 .add (.v 9) (.i 1))))), (.p [((.b (.v 6)), (.prop 57))])])))
         (.need (.o1 (.inr .i64) (.o2 .add (.v 9) (.i 1)))
         (.again 0 [(.e (.o1 .not (.o1 .not (.v 8)))), (.e (.o1 .neg (.o1 .neg (.o2 .add (.v 9) (.i 1))))), (.p [((.b (.v 6)), (.prop 57))])])))))
      (.br (.o2 .eq (.v 46) (.i 2))
       (.br (.o1 .not (.o2 .eq (.v 35) (.i 23)))
        (.ret (.w (.a (.bool (.c false)))) [((.a 0), (.prop 3))])
        (.need (.o1 (.inr .i64) (.o2 .add (.v 9) (.i 1)))
        (.again 0 [(.e (.o1 .not (.o1 .not (.v 8)))), (.e (.o1 .neg (.o1 .neg (.o2 .add (.v 9) (.i 1))))), (.p [((.b (.v 6)), (.prop 57))])])))
       (.need (.o1 (.inr .i64) (.o2 .add (.v 9) (.i 1)))
       (.again 0 [(.e (.o1 .not (.o1 .not (.v 8)))), (.e (.o1 .neg (.o1 .neg (.o2 .add (.v 9) (.i 1))))), (.p [((.b (.v 6)), (.prop 57))])]))))
     (.br (.o1 .not (.o2 .eq (.v 35) (.v 45)))
      (.ret (.w (.a (.bool (.c false)))) [((.a 0), (.prop 3))])
      (.need (.o1 (.inr .i64) (.o2 .add (.v 9) (.i 1)))
      (.again 0 [(.e (.o1 .not (.o1 .not (.v 8)))), (.e (.o1 .neg (.o1 .neg (.o2 .add (.v 9) (.i 1))))), (.p [((.b (.v 6)), (.prop 57))])]))))))))))
    (.call 19 [(.a (.ptr (.v 6) 0))] [((.b (.v 6)), (.prop 10))] [.a, .n, .n, .p] (.w (.a (.sl (.v 11) (.v 12) (.v 13)))) [((.a 11), (.prop 14)), ((.b (.v 6)), (.prop 10))]
    (.loop [.i, .i, .c, .i] [(.e (.o1 .neg (.o1 .neg (.i 0)))), (.e (.o1 .neg (.o1 .neg (.i 0)))), (.e (.o1 .not (.o1 .not (.v 8)))), (.e (.o1 .neg (.o1 .neg (.i 0))))]
     (.br (.o2 .lt (.v 18) (.o1 .ofNat (.v 12)))
      (.need (.o2 .le (.i 0) (.v 18))
      (.need (.o1 .isSome (.v 11))
      (.read (.load 43 (.tmp 92)) 43 [(92, (.w (.a (.eptr 11 (.v 18) 5 0))))] [((.a 11), (.prop 14))] [.i, .i, .i, .a, .n, .n, .a, .n, .n] (.w (.agg [(.int .i64 (.v 19)), (.int .i64 (.v 20)), (.int .i64 (.v 21)), (.sl (.v 22) (.v 23) (.v 24)), (.sl (.v 25) (.v 26) (.v 27))]))
      (.new
      (.need (.o1 (.inr .i64) (.o2 .add (.v 15) (.v 21)))
      (.need (.o1 (.inr .i64) (.o2 .add (.v 16) (.o1 .ofNat (.v 26))))
      (.br (.o2 .lt (.i 512) (.o1 .ofNat (.v 23)))
       (.ret (.w (.a (.bool (.c false)))) [((.a 0), (.prop 3))])
       (.need (.o1 (.inr .i64) (.o2 .add (.v 18) (.i 1)))
       (.again 0 [(.e (.o1 .neg (.o1 .neg (.o2 .add (.v 15) (.v 21))))), (.e (.o1 .neg (.o1 .neg (.o2 .add (.v 16) (.o1 .ofNat (.v 26)))))), (.e (.o1 .not (.o1 .not (.v 17)))), (.e (.o1 .neg (.o1 .neg (.o2 .add (.v 18) (.i 1)))))])))))))))
      (.br (.o2 .le (.o1 .ofNat (.v 12)) (.i 64))
       (.need (.o1 (.inr .i64) (.o2 .add (.v 16) (.i 1)))
       (.ret (.w (.a (.bool (.o2 .eq (.v 15) (.o2 .add (.v 16) (.i 1)))))) [((.a 0), (.prop 3))]))
       (.ret (.w (.a (.bool (.c false)))) [((.a 0), (.prop 3))]))))))))))))
theorem tree_treeCounts : tree Tryz.prog { absT := [], opq := [], hv := [(0, [(.b (.v 6))])], keep := [19, 25, 21, 20, 26, 16], link := [], ent := [], turn := [(18, [0])], shr := [], vt := [], mkd := [], rlink := [], pty := [], outl := false, stay := [], snk := [], rdf := true, jn := [((27, 33), some { ss := [.n, .n, .i, .i, .i, .i, .a, .n, .n, .a, .n, .n, .i, .i, .i, .i, .a, .n, .n, .a, .n, .n, .p, .p, .p, .p, .p], n := 60, tv := [(27, none), (28, none), (29, none), (30, none), (31, none), (32, none), (33, none), (34, none), (35, none), (36, none), (6, some (.w (.a (.ptr (.v 33) 0)))), (7, some (.w (.a (.ptr (.v 34) 0))))], h := [((.b (.v 34)), (.cells [(.int .i64 (.v 35)), (.int .i64 (.v 36)), (.int .i64 (.v 37)), (.int .i64 (.v 38)), (.sl (.v 39) (.v 40) (.v 41)), (.sl (.v 42) (.v 43) (.v 44))] 31)), ((.b (.v 33)), (.cells [(.int .i64 (.v 45)), (.int .i64 (.v 46)), (.int .i64 (.v 47)), (.int .i64 (.v 48)), (.sl (.v 49) (.v 50) (.v 51)), (.sl (.v 52) (.v 53) (.v 54))] 31)), ((.a 39), (.prop 55)), ((.a 42), (.prop 56)), ((.b (.v 6)), (.prop 57)), ((.a 49), (.prop 58)), ((.a 52), (.prop 59)), ((.a 24), (.prop 27)), ((.a 28), (.prop 31)), ((.a 0), (.prop 3)), ((.b (.v 19)), (.cells [(.int .i64 (.v 11)), (.str (.v 12)), (.str (.v 13)), (.int .i64 (.v 14)), (.int .i64 (.v 15)), (.sl (.v 16) (.v 17) (.v 18))] 34))], lk := [] })] } Tryz.f5 [(.a (.sl (.v 0) (.v 1) (.v 2)))] [((.a 0), (.prop 3))] 4 = t_treeCounts := by kernel_rfl
end Go.Proofs.YtdieogcemmnaaaaGreatDoor.RX

/- Types that came in. No condition. -/
namespace Go.Proofs.YtdieogcemmnaaaaGreatDoor
open Go.RowKit Go.ChangeShapes Go.WideShapes Go.Deep RX
set_option maxRecDepth 100000
set_option linter.unusedVariables false
set_option linter.unusedSimpArgs false

structure CallE where
  kind : Int
  path : List UInt8
  other : List UInt8
  off : Int
  n : Int
  data : List UInt8
  da : Option Addr
  dc : Nat
abbrev CallE.vals (x : CallE) : List Value := [.int .i64 x.kind, .string ⟨x.path.toArray⟩, .string ⟨x.other.toArray⟩, .int .i64 x.off, .int .i64 x.n, .slice x.da x.data.length x.dc]
def CallE.hp (x : CallE) : HP := HP.both (HP.pure (okI x.kind)) (HP.both (HP.pure (x.path.length ≤ 9223372036854775807)) (HP.both (HP.pure (x.other.length ≤ 9223372036854775807)) (HP.both (HP.pure (okI x.off)) (HP.both (HP.pure (okI x.n)) (HP.and (x.data.length ≤ 140737488355328) (RoB x.da x.data.length x.data))))))
theorem CallE.pers (x : CallE) (R h h' : PH) (H : (x.hp).p R h) : (x.hp).p R h' := ⟨H.1, ⟨H.2.1, ⟨H.2.2.1, ⟨H.2.2.2.1, ⟨H.2.2.2.2.1, H.2.2.2.2.2⟩⟩⟩⟩⟩
instance : Inhabited CallE := ⟨⟨0, [], [], 0, 0, [], none, 0⟩⟩
def kCallE : Kind CallE := ⟨6, by decide, CallE.vals, fun _ => rfl, CallE.hp, CallE.pers⟩
theorem CallE.of_trod {H : Type} {enc : TypeId × Value → H} {w : World} {cs : List Value} {n : Nat} {x : DataW H × List MemPlace} (h : DataW.trod enc Tryz.prog w 0 (fun _ => true) true n 34 cs = some x) (hs : Small Tryz.prog 34 x.1) : ∃ m : CallE, cs = kCallE.vals m ∧ ∀ h, (kCallE.hp m).p (allOf w) h := by
  obtain ⟨xs0, n0, _, hx0, hl0, hxl0, hf0⟩ := DataW.trod_struct Tryz.underlying34 h
  replace hxl0 : xs0.length = 6 := hxl0
  have hs0 : Small Tryz.prog 34 (.agg (xs0.map (·.1))) := by
    have e := hx0
    first | (subst e; exact hs) | (rw [e] at hs; exact hs) | (have e2 := congrArg Prod.fst e; rw [← e2]; exact hs) | (rw [← e]; exact hs)
  obtain ⟨c0, e0, w0⟩ := field_int Tryz.underlying3 (show 0 < xs0.length by omega) (by kernel_rfl) (hf0 0 _ rfl)
  obtain ⟨c1, e1, w1⟩ := field_str Tryz.underlying9 (show 1 < xs0.length by omega) (by kernel_rfl) (hf0 1 _ rfl)
  obtain ⟨c2, e2, w2⟩ := field_str Tryz.underlying9 (show 2 < xs0.length by omega) (by kernel_rfl) (hf0 2 _ rfl)
  obtain ⟨c3, e3, w3⟩ := field_int Tryz.underlying3 (show 3 < xs0.length by omega) (by kernel_rfl) (hf0 3 _ rfl)
  obtain ⟨c4, e4, w4⟩ := field_int Tryz.underlying3 (show 4 < xs0.length by omega) (by kernel_rfl) (hf0 4 _ rfl)
  obtain ⟨a5, l5, k5, e5⟩ := field_slice Tryz.underlying28 (show 5 < xs0.length by omega) (by kernel_rfl) (hf0 5 _ rfl)
  have q5 := hf0 5 _ rfl
  rw [List.getElem?_eq_getElem (show 5 < xs0.length by omega)] at q5
  have g5 : DataW.trod enc Tryz.prog w 0 (fun _ => true) true n0 28 [.slice a5 l5 k5] = some xs0[5] := by
    rw [← take1' e5]
    exact q5
  have s5 : Small Tryz.prog 28 xs0[5].1 := Small.part (i := 5) hs0 Tryz.underlying34 rfl (by rw [List.getElem?_map, List.getElem?_eq_getElem (show 5 < xs0.length by omega)]; rfl)
  obtain ⟨b5, d5, m5, r5, y5, z5⟩ := bytes_of_trod g5 s5
  simp only [Value.slice.injEq] at r5
  obtain ⟨rfl, rfl, rfl⟩ := r5
  have hlen : cs.length = 6 := hl0.trans (by kernel_rfl)
  refine ⟨⟨c0, c1, c2, c3, c4, d5, a5, k5⟩, ?_, fun hh => ⟨int_wf w0, ⟨w1, ⟨w2, ⟨int_wf w3, ⟨int_wf w4, ⟨y5, z5 hh⟩⟩⟩⟩⟩⟩⟩
  clear h hl0 hf0 q5 g5 s5
  revert e0 e1 e2 e3 e4 e5
  match cs, hlen with
  | [u0, u1, u2, u3, u4, u5], _ =>
    intro e0
    obtain rfl : u0 = .int _ c0 := Option.some.inj e0
    intro e1
    obtain rfl : u1 = .string ⟨c1.toArray⟩ := Option.some.inj e1
    intro e2
    obtain rfl : u2 = .string ⟨c2.toArray⟩ := Option.some.inj e2
    intro e3
    obtain rfl : u3 = .int _ c3 := Option.some.inj e3
    intro e4
    obtain rfl : u4 = .int _ c4 := Option.some.inj e4
    intro e5
    obtain rfl : u5 = .slice a5 d5.length k5 := Option.some.inj e5
    rfl
theorem CallE.load {a : Option Addr} {n : Nat} {l : List CallE} {k : Nat} {x : CallE} (hk : l[k]? = some x) : ORead Tryz.prog (loadS 34 (.pointer (a.map fun y => (y.add ((k : Int).toNat * 6)).add 0))) (Ls kCallE a n l) (.agg x.vals.toArray) := by
  obtain ⟨d, hd⟩ : ∃ d, Tryz.prog.underlying 34 = some d := Option.isSome_iff_exists.1 (by kernel_rfl)
  exact Ls.load (K := kCallE) hd (by kernel_rfl) (by kernel_rfl) hk

end Go.Proofs.YtdieogcemmnaaaaGreatDoor

/- Law 4: calls as they come in; Do as laws call it; speaks, Great. No condition. -/
namespace Go.Proofs.YtdieogcemmnaaaaGreatDoor
set_option linter.unusedSimpArgs false
set_option linter.unusedVariables false
open Go.Proofs.YtdieogcemmnaaaaGreatDoor RX
set_option maxRecDepth 100000

abbrev kCall : Kind CallE := kCallE
abbrev callVs (x : CallE) : List Value := x.vals
def CallE.m (x : CallE) : CallM := ⟨x.kind, x.path, x.other, x.off, x.n, x.da, x.data.length, x.dc⟩
def dataAt (L : List CallE) : Prop := ∀ x ∈ L, x.data.length ≠ 0 → x.da.isSome = true
theorem dataAt_of {a : Option Addr} {n : Nat} {L : List CallE} {R h : PH} (H : (Ls kCall a n L).p R h) : dataAt L := fun x hx hd => RoC.some (H.2.2 x hx).2.2.2.2.2.2 (by omega)
theorem callD_of {a : Option Addr} {n : Nat} {L : List CallE} (hL : dataAt L) {x : CallE} (hx : x ∈ L) : CallD x.m (Ls kCall a n L) x.data where
  rd := ⟨Rd.impR (RdL.ro 1 x.da x.data.length (x.data.map u8v)).rd fun R h H => (H.2.2 x hx).2.2.2.2.2.2, fun R h H e => (RdL.ro 1 x.da x.data.length (x.data.map u8v)).none R h (H.2.2 x hx).2.2.2.2.2.2 e⟩
  len := rfl
  some' := hL x hx
variable {b : Nat} {t : TS}
def doC (T : List Nd) (c : CallM) (d : List UInt8) : List Nd × AnsM := doS T c.kind c.path c.other c.off c.n d
theorem doL {B : Nat} (hB : B ≤ 100000) (wf : TWf B t.pub) (c : CallM) (S : HP) (d : List UInt8) (hd : CallD c S d) {K : Int → Int → Int → Int → Option Addr → Nat → Nat → HP → Option Addr → Nat → Nat → HP → HP → Prop}
    (hK : ∀ t' da dc na nc, t'.pub = (doC t.pub c d).1 → K (doC t.pub c d).2.err (doC t.pub c d).2.kind (doC t.pub c d).2.size (doC t.pub c d).2.links da (doC t.pub c d).2.data.length dc (OwB da (doC t.pub c d).2.data.length dc (doC t.pub c d).2.data) na (doC t.pub c d).2.names.length nc (OwS na (doC t.pub c d).2.names.length nc (doC t.pub c d).2.names) (TRep b t')) :
    Tri Tryz.prog 18 #[.pointer (some ⟨b, 0, none⟩), c.val] (HP.sep (TRep b t) S) (fun v => HP.ex fun e : Int => HP.ex fun k : Int => HP.ex fun s : Int => HP.ex fun l : Int => HP.ex fun da : Option Addr => HP.ex fun dl : Nat => HP.ex fun dc : Nat => HP.ex fun dP : HP => HP.ex fun na : Option Addr => HP.ex fun nl : Nat => HP.ex fun nc : Nat => HP.ex fun nP : HP => HP.ex fun tP : HP =>
      HP.and (v = .agg #[.int .i64 e, .int .i64 k, .int .i64 s, .int .i64 l, .slice da dl dc, .slice na nl nc]) (HP.and (K e k s l da dl dc dP na nl nc nP tP) (HP.sep dP (HP.sep nP (HP.sep tP S))))) := by
  refine (tDo_ok hB wf c S d hd).weak (fun _ _ h => h) ?_
  rintro v R h ⟨t', ht, da, dc, na, nc, rfl, H⟩
  exact ⟨_, _, _, _, da, _, dc, _, na, _, nc, _, _, rfl, hK t' da dc na nc ht, H⟩
theorem doL0 {B : Nat} (hB : B ≤ 100000) (wf : TWf B t.pub) (kind : Int) (path other : Nm) (off n : Int) {K : Int → Int → Int → Int → Option Addr → Nat → Nat → HP → Option Addr → Nat → Nat → HP → HP → Prop}
    (hK : ∀ t' da dc na nc, t'.pub = (doS t.pub kind path other off n []).1 → K (doS t.pub kind path other off n []).2.err (doS t.pub kind path other off n []).2.kind (doS t.pub kind path other off n []).2.size (doS t.pub kind path other off n []).2.links da (doS t.pub kind path other off n []).2.data.length dc (OwB da (doS t.pub kind path other off n []).2.data.length dc (doS t.pub kind path other off n []).2.data) na (doS t.pub kind path other off n []).2.names.length nc (OwS na (doS t.pub kind path other off n []).2.names.length nc (doS t.pub kind path other off n []).2.names) (TRep b t')) :
    Tri Tryz.prog 18 #[.pointer (some ⟨b, 0, none⟩), .agg #[.int .i64 kind, sE path, sE other, .int .i64 off, .int .i64 n, .slice none 0 0]] (TRep b t) (fun v => HP.ex fun e : Int => HP.ex fun k : Int => HP.ex fun s : Int => HP.ex fun l : Int => HP.ex fun da : Option Addr => HP.ex fun dl : Nat => HP.ex fun dc : Nat => HP.ex fun dP : HP => HP.ex fun na : Option Addr => HP.ex fun nl : Nat => HP.ex fun nc : Nat => HP.ex fun nP : HP => HP.ex fun tP : HP =>
      HP.and (v = .agg #[.int .i64 e, .int .i64 k, .int .i64 s, .int .i64 l, .slice da dl dc, .slice na nl nc]) (HP.and (K e k s l da dl dc dP na nl nc nP tP) (HP.sep dP (HP.sep nP tP)))) := by
  have hd : CallD ⟨kind, path, other, off, n, none, 0, 0⟩ HP.tt [] := ⟨⟨fun w R h F s a j u hj => by simp at hj, fun _ _ _ _ => rfl⟩, rfl, fun h => absurd rfl h⟩
  refine (doL hB wf ⟨kind, path, other, off, n, none, 0, 0⟩ HP.tt [] hd (K := K) hK).weak (fun _ _ H => HP.sep_tt H) ?_
  rintro v R h ⟨e, k, s, l, da, dl, dc, dP, na, nl, nc, nP, tP, e1, hk, H⟩
  exact ⟨e, k, s, l, da, dl, dc, dP, na, nl, nc, nP, tP, e1, hk, HP.sep_mono H (fun _ h => h) fun z hz => HP.sep_mono hz (fun _ h => h) fun u hu => HP.sep_left hu⟩
set_option maxHeartbeats 1000000 in
theorem speaks04_ok : Tri Tryz.prog 15 #[] HP.tt (fun v => HP.pure (v = .bool true)) := by
  refine tri_of_tree (ρ := []) mixed Tryz.func15 tree_speaks04 ?_
  unfold t_speaks04
  simp only [T.den, E.prop, E.den, RX.look, F1.app, F2.app, Uni.int_i, Uni.nat_n, Uni.bool_c, Uni.str_s, Uni.adr_a, Uni.val_v, Uni.hp_p, hden, cden, V.den, W.den, A.den, BR.den, SA.den, FV.den, capV, exs, exP, allP, Cur.app, List.map_cons, List.map_nil, List.cons_append, List.nil_append, List.drop_succ_cons, List.drop_zero, List.length_cons, List.length_nil, Nat.zero_add, Nat.reduceAdd, Int.neg_neg, Bool.not_not, List.append_nil, Nat.add_zero, List.getElem?_cons_zero, List.getElem?_cons_succ, Decidable.not_not, semW_eq, semW_load, semW_store, semW_storeC, semW_append, semW_lookup, semW_lookupC, semW_update, semW_updateC, semW_updateK, semW_delete, semW_range, semW_next, semW_entry, semW_nil, ne_eq, Nat.reduceEqDiff, not_false_eq_true]
  refine tNew_ok.weak (fun _ _ h => h) ?_
  rintro v R h ⟨q, t0, ⟨rfl, h0⟩, H⟩
  refine ⟨q, TRep q t0, rfl, ?_, H⟩
  clear H
  have wf0 : TWf 1 t0.pub := by rw [h0]; exact newT_wf
  refine doL0 (by decide) wf0 1 [47, 97] [] 0 0 fun t1 da dc na nc h1 => ?_
  have wf1 : TWf 2 t1.pub := by rw [h1]; exact wf0.do (by decide) _ _ _ _ _ _
  intro x1
  refine doL0 (by decide) wf1 3 [47, 97, 47, 98] [] 0 0 fun t2 da dc na nc h2 => ?_
  have wf2 : TWf 3 t2.pub := by rw [h2]; exact wf1.do (by decide) _ _ _ _ _ _
  intro x2
  refine doL0 (by decide) wf2 6 [47, 97] [47, 97, 47, 99] 0 0 fun t3 da dc na nc h3 => ?_
  have wf3 : TWf 4 t3.pub := by rw [h3]; exact wf2.do (by decide) _ _ _ _ _ _
  intro x3
  rw [h0] at h1
  rw [h1] at h2
  rw [h2] at h3
  rw [h2, h1, h0]
  have e1 : (doS newT 1 [47, 97] [] 0 0 []).2.err = 0 := by decide +kernel
  have e2 : (doS (doS newT 1 [47, 97] [] 0 0 []).1 3 [47, 97, 47, 98] [] 0 0 []).2.err = 0 := by decide +kernel
  have e3 : (doS (doS (doS newT 1 [47, 97] [] 0 0 []).1 3 [47, 97, 47, 98] [] 0 0 []).1 6 [47, 97] [47, 97, 47, 99] 0 0 []).2.err = 26 := by decide +kernel
  have e4 : (doS (doS (doS newT 1 [47, 97] [] 0 0 []).1 3 [47, 97, 47, 98] [] 0 0 []).1 6 [47, 97] [47, 97, 47, 99] 0 0 []).1.length = 3 := by decide +kernel
  refine ⟨fun _ => ⟨fun _ => ⟨fun _ => ?_, fun h => absurd e3 h⟩, fun h => absurd e2 h⟩, fun h => absurd e1 h⟩
  refine (tNodes_ok (by decide) wf3).weak (fun _ _ h => h) ?_
  rintro v R h ⟨a, c, rfl, H⟩
  refine ⟨a, t3.pub.length, c, _, rfl, .of fun R h H => ?_, H⟩
  rw [h3, e4]
  rfl
/-- A field of a call that came in. -/
theorem undCall : ∃ d, Tryz.prog.underlying 34 = some d := Option.isSome_iff_exists.1 (by kernel_rfl)
theorem undNode : ∃ d, Tryz.prog.underlying 43 = some d := Option.isSome_iff_exists.1 (by kernel_rfl)
theorem aggNode : aggT Tryz.prog 43 = true := by kernel_rfl
theorem szNode : szT Tryz.prog 43 = 5 := by kernel_rfl
theorem aggCall : aggT Tryz.prog 34 = true := by kernel_rfl
theorem szCall : szT Tryz.prog 34 = 6 := by kernel_rfl
theorem Ls.some {α : Type} {K : Kind α} {a : Option Addr} {n : Nat} {l : List α} {R h : PH} (H : (Ls K a n l).p R h) (hn : n ≠ 0) : a.isSome = true := by
  exact RoC.some H.2.1 (Nat.pos_of_ne_zero hn)
theorem loadCall {a : Option Addr} {n : Nat} {l : List CallE} {k : Nat} {x : CallE} (hk : l[k]? = some x) : ORead Tryz.prog (loadS 34 (.pointer (a.map fun y => (y.add (k * 6)).add 0))) (Ls kCall a n l) (.agg (callVs x).toArray) := by
  obtain ⟨d, hd⟩ := undCall
  exact Ls.load (K := kCall) hd aggCall szCall hk
theorem loadNode {a : Option Addr} {n : Nat} {l : List NodeE} {k : Nat} {x : NodeE} (hk : l[k]? = some x) : ORead Tryz.prog (loadS 43 (.pointer (a.map fun y => (y.add (k * 5)).add 0))) (Ls kNode a n l) (.agg (nodeVs x).toArray) := by
  obtain ⟨d, hd⟩ := undNode
  exact Ls.load (K := kNode) hd aggNode szNode hk
def greatB (L : List CallE) : Bool := decide (120 < L.length) || L.any fun x => decide (300 < x.path.length) || decide (300 < x.other.length) || decide (600 < x.data.length)
set_option maxHeartbeats 1000000 in
theorem great04_ok (a : Option Addr) (n c : Nat) (L : List CallE) : Tri Tryz.prog 16 #[.slice a n c] (Ls kCall a n L) (fun v => HP.and (v = .bool (greatB L)) (Ls kCall a n L)) := by
  refine Tri.fact (φ := L.length = n ∧ (n ≠ 0 → a.isSome = true)) (fun R h H => ⟨H.1, fun hn => Ls.some H hn⟩) fun ⟨hl, ha⟩ => ?_
  refine tri_of_tree (ρ := [.a a, .n n, .n c, .p (Ls kCall a n L)]) mixed Tryz.func16 tree_great04 ?_
  unfold t_great04
  simp only [T.den, E.prop, E.den, RX.look, F1.app, F2.app, Uni.int_i, Uni.nat_n, Uni.bool_c, Uni.str_s, Uni.adr_a, Uni.val_v, Uni.hp_p, hden, cden, V.den, W.den, A.den, BR.den, SA.den, FV.den, capV, exs, exP, allP, Cur.app, List.map_cons, List.map_nil, List.cons_append, List.nil_append, List.drop_succ_cons, List.drop_zero, List.length_cons, List.length_nil, Nat.zero_add, Nat.reduceAdd, Int.neg_neg, Bool.not_not, List.append_nil, Nat.add_zero, List.getElem?_cons_zero, List.getElem?_cons_succ, Decidable.not_not, semW_eq, semW_load, semW_store, semW_storeC, semW_append, semW_lookup, semW_lookupC, semW_update, semW_updateC, semW_updateK, semW_delete, semW_range, semW_next, semW_entry, semW_nil, ne_eq, Nat.reduceEqDiff, not_false_eq_true]
  refine ⟨fun h => .of fun R h' H => ⟨?_, H⟩, fun h => ?_⟩
  · have : 120 < L.length := by omega
    simp [greatB, this]
  refine ⟨fun _ i => ∃ k : Nat, i = k ∧ k ≤ n ∧ ∀ j x, j < k → L[j]? = some x → x.path.length ≤ 300 ∧ x.other.length ≤ 300 ∧ x.data.length ≤ 600, fun _ i => n - i.toNat, ⟨0, rfl, Nat.zero_le _, fun j x hj => absurd hj (by omega)⟩, ?_⟩
  rintro _ _ ⟨k, rfl, hk, hb⟩
  refine ⟨fun hlt => ⟨by omega, fun _ => ⟨ha (by omega), fun _ => ?_⟩⟩, fun hge => .of fun R h' H => ⟨?_, H⟩⟩
  · obtain ⟨x, hx⟩ : ∃ x, L[k]? = some x := ⟨_, List.getElem?_eq_getElem (by omega)⟩
    have hxm := List.mem_of_getElem? hx
    refine ⟨x.kind, x.path, x.other, x.off, x.n, x.da, x.data.length, x.dc, loadCall hx, fun q => ?_⟩
    have key : 300 < x.path.length ∨ 300 < x.other.length ∨ 600 < x.data.length → greatB L = true := fun h => by
      unfold greatB
      rw [Bool.or_eq_true, List.any_eq_true]
      refine .inr ⟨x, hxm, ?_⟩
      simp only [Bool.or_eq_true, decide_eq_true_eq]
      omega
    have sz : ∀ l : List UInt8, (⟨l.toArray⟩ : ByteArray).size = l.length := fun l => by simp [ByteArray.size]
    refine ⟨fun h => .of fun R h' H => ⟨?_, H⟩, fun h1 => ⟨fun h => .of fun R h' H => ⟨?_, H⟩, fun h2 => ⟨fun h => .of fun R h' H => ⟨?_, H⟩, fun h3 => ⟨inI64' _ (by omega) (by omega), fun _ => ⟨⟨k + 1, by omega, by omega, fun j y hj hy => ?_⟩, by dsimp only; omega⟩⟩⟩⟩⟩
    · rw [key (by omega)]
    · rw [key (by omega)]
    · rw [key (by omega)]
    · rcases Nat.lt_or_eq_of_le (Nat.le_of_lt_succ hj) with h | h
      · exact hb j y h hy
      · subst h; rw [hx] at hy; cases hy; omega
  · have : greatB L = false := by
      unfold greatB
      rw [Bool.or_eq_false_iff]
      refine ⟨by simp; omega, ?_⟩
      rw [List.any_eq_false]
      intro x hx
      obtain ⟨j, hj⟩ := List.mem_iff_getElem?.1 hx
      have hjl := (List.getElem?_eq_some_iff.1 hj).1
      have := hb j x (by omega) hj
      simp; omega
    rw [this]
theorem great_len {L : List CallE} (h : ¬ greatB L = true) : L.length ≤ 120 := by
  unfold greatB at h
  simp at h
  omega
end Go.Proofs.YtdieogcemmnaaaaGreatDoor

/- Law 4: TreeBytes, plain: a tree with one file. No condition. -/
namespace Go.Proofs.YtdieogcemmnaaaaGreatDoor
open Go.Proofs.YtdieogcemmnaaaaGreatDoor RX
set_option maxRecDepth 100000

/-- The root, and one file beneath it, named f. -/
def Tf (l : List UInt8) : List Nd := [⟨0, 1, 1, [], [([102], 1)]⟩, ⟨1, 2, 1, l, []⟩]
theorem made_f : doS newT 3 [47, 102] [] 0 0 [] = (Tf [], {}) := by rfl
theorem find_f (l : List UInt8) : findS (Tf l) [47, 102] = (1, 0) := by
  have h : splitP [47, 102] = some [[102]] := by decide +kernel
  rw [findS_split h]
  rfl
theorem file_f (l : List UInt8) : fileS (Tf l) [47, 102] = (1, 0) := by
  unfold fileS
  rw [find_f]; rfl
theorem node_f (l : List UInt8) : nodeAt (Tf l) 1 = some ⟨1, 2, 1, l, []⟩ := rfl
theorem set_f (l : List UInt8) (g : List UInt8 → List UInt8) : setP (Tf l) 1 (fD g) = Tf (g l) := rfl
theorem write_f (l : List UInt8) (other : Nm) (off n : Int) (d : List UInt8) : doS (Tf l) 7 [47, 102] other off n d =
    if off < 0 ∨ 256 < d.length then (Tf l, { err := 1 }) else if 512 < off + d.length then (Tf l, { err := 27 }) else if d = [] then (Tf l, {}) else (Tf (wrote off.toNat d l), {}) := by
  have e : doS (Tf l) 7 [47, 102] other off n d = ((writeS (Tf l) [47, 102] off d).1, { err := (writeS (Tf l) [47, 102] off d).2 }) := by simp [doS]
  rw [e]
  unfold writeS
  rw [file_f]
  simp only [ne_eq, not_true_eq_false, if_false]
  split
  · rfl
  split
  · rfl
  split
  · rfl
  · rw [set_f]
theorem read_f (l : List UInt8) (off n : Nat) (hn : n ≤ 256) : doS (Tf l) 8 [47, 102] [] off n [] = (Tf l, { data := (l.drop off).take n }) := by
  have e : doS (Tf l) 8 [47, 102] [] off n [] = (Tf l, readS' (Tf l) [47, 102] off n) := by simp [doS]
  rw [e]
  unfold readS' readS
  rw [file_f]
  simp only [ne_eq, not_true_eq_false, if_false]
  rw [if_neg (by omega), node_f]
  simp
theorem cut_f (l : List UInt8) (n : Nat) (hn : n ≤ 512) : doS (Tf l) 9 [47, 102] [] 0 n [] = (Tf (sizeD l n), {}) := by
  have e : doS (Tf l) 9 [47, 102] [] 0 n [] = ((cutS (Tf l) [47, 102] n).1, { err := (cutS (Tf l) [47, 102] n).2 }) := by simp [doS]
  rw [e]
  unfold cutS
  rw [file_f]
  simp only [ne_eq, not_true_eq_false, if_false]
  rw [if_neg (by omega), if_neg (by omega), set_f]
  simp
theorem stat_f (l : List UInt8) : doS (Tf l) 10 [47, 102] [] 0 0 [] = (Tf l, { kind := 2, size := l.length, links := 1 }) := by
  have e : doS (Tf l) 10 [47, 102] [] 0 0 [] = (Tf l, statS (Tf l) [47, 102]) := by simp [doS]
  rw [e]
  unfold statS
  rw [find_f]
  simp only [ne_eq, not_true_eq_false, if_false]
  rw [node_f]
  rfl
/-! what stands behind a write, byte by byte -/
def wroteK (off : Nat) (d l : List UInt8) : List UInt8 := if d = [] then l else wrote off d l
def padTo (l : List UInt8) (n : Nat) : List UInt8 := l ++ List.replicate (n - l.length) 0
theorem sizeD_get (l : List UInt8) (n i : Nat) : (sizeD l n)[i]? = if i < n then some (l.getD i 0) else none := by
  unfold sizeD
  rw [List.getElem?_append]
  simp only [List.length_take, List.getElem?_take, List.getElem?_replicate, List.getD_eq_getElem?_getD]
  by_cases h1 : i < n
  · by_cases h2 : i < l.length
    · rw [if_pos (by omega), if_pos h1, if_pos h1, List.getElem?_eq_getElem h2]; rfl
    · rw [if_neg (by omega), if_pos (by omega), if_pos h1, List.getElem?_eq_none (by omega)]; rfl
  · rw [if_neg (by omega), if_neg (by omega), if_neg h1]
theorem padTo_get (l : List UInt8) (n i : Nat) : (padTo l n)[i]? = if i < max l.length n then some (l.getD i 0) else none := by
  unfold padTo
  rw [List.getElem?_append]
  simp only [List.getElem?_replicate, List.getD_eq_getElem?_getD]
  by_cases h2 : i < l.length
  · rw [if_pos h2, if_pos (by omega), List.getElem?_eq_getElem h2]; rfl
  · rw [if_neg h2, List.getElem?_eq_none (by omega)]
    by_cases h1 : i < n
    · rw [if_pos (by omega), if_pos (by omega)]; rfl
    · rw [if_neg (by omega), if_neg (by omega)]
theorem wrote_get (off : Nat) (d l : List UInt8) (i : Nat) : (wrote off d l)[i]? = if i < max l.length (off + d.length) then some (if off ≤ i ∧ i < off + d.length then d.getD (i - off) 0 else l.getD i 0) else none := by
  unfold wrote
  have hl : ((sizeD l (max l.length (off + d.length))).take off).length = off := by rw [List.length_take, sizeD_len]; omega
  rw [List.append_assoc, List.getElem?_append, hl]
  by_cases h1 : i < off
  · rw [if_pos h1, List.getElem?_take, if_pos h1, sizeD_get]
    rw [if_neg (by omega : ¬ (off ≤ i ∧ i < off + d.length))]
  · rw [if_neg h1, List.getElem?_append]
    by_cases h2 : i - off < d.length
    · rw [if_pos h2, if_pos (by omega), if_pos (by omega), List.getD_eq_getElem?_getD, List.getElem?_eq_getElem h2]; rfl
    · rw [if_neg h2, List.getElem?_drop, sizeD_get, show off + d.length + (i - off - d.length) = i by omega]
      rw [if_neg (by omega : ¬ (off ≤ i ∧ i < off + d.length))]
theorem wroteK_get (off : Nat) (d l : List UInt8) (i : Nat) : (wroteK off d l)[i]? = if i < (if d = [] then l.length else max l.length (off + d.length)) then some (if off ≤ i ∧ i < off + d.length then d.getD (i - off) 0 else l.getD i 0) else none := by
  unfold wroteK
  split
  · rename_i h; subst h
    rw [if_neg (show ¬ (off ≤ i ∧ i < off + ([] : List UInt8).length) by simp)]
    split
    · rename_i h; rw [List.getD_eq_getElem?_getD, List.getElem?_eq_getElem h]; rfl
    · rename_i h; rw [List.getElem?_eq_none (by omega)]
  · exact wrote_get off d l i
theorem wroteK_len (off : Nat) (d l : List UInt8) : (wroteK off d l).length = if d = [] then l.length else max l.length (off + d.length) := by
  unfold wroteK
  split
  · rfl
  · exact wrote_len off d l
/-- One byte more. -/
theorem wroteK_step (off : Nat) (d l : List UInt8) (k : Nat) (x : UInt8) (hx : d[k]? = some x) : (padTo (wroteK off (d.take k) l) (off + k + 1)).set (off + k) x = wroteK off (d.take (k + 1)) l := by
  have hk : k < d.length := (List.getElem?_eq_some_iff.1 hx).1
  have hl : (d.take k).length = k := by rw [List.length_take]; omega
  have hl1 : (d.take (k + 1)).length = k + 1 := by rw [List.length_take]; omega
  have hne : d.take (k + 1) ≠ [] := fun e => by rw [e] at hl1; simp at hl1
  have hw : (wroteK off (d.take k) l).length = if d.take k = [] then l.length else max l.length (off + k) := by rw [wroteK_len, hl]
  refine List.ext_getElem? fun i => ?_
  rw [List.getElem?_set, padTo_get, wroteK_get, if_neg hne, hl1]
  have hpl : (padTo (wroteK off (d.take k) l) (off + k + 1)).length = max (wroteK off (d.take k) l).length (off + k + 1) := by
    unfold padTo; rw [List.length_append, List.length_replicate]; omega
  rw [hpl]
  have hwl : (wroteK off (d.take k) l).length ≤ max l.length (off + k + 1) ∧ l.length ≤ (wroteK off (d.take k) l).length := by
    rw [hw]; split <;> omega
  by_cases h1 : off + k = i
  · subst h1
    rw [if_pos rfl, if_pos (by omega), if_pos (by omega), if_pos (by omega)]
    rw [List.getD_eq_getElem?_getD, show off + k - off = k by omega, List.getElem?_take, if_pos (by omega), hx]; rfl
  · rw [if_neg h1]
    by_cases h2 : i < max l.length (off + (k + 1))
    · rw [if_pos (by omega), if_pos h2]
      congr 1
      rw [List.getD_eq_getElem?_getD, wroteK_get, hl]
      by_cases h3 : off ≤ i ∧ i < off + k
      · have hd0 : d.take k ≠ [] := fun e => by rw [e] at hl; simp at hl; omega
        rw [if_neg hd0, if_pos (show i < max l.length (off + k) by omega), if_pos h3, if_pos (show off ≤ i ∧ i < off + (k + 1) by omega)]
        simp only [Option.getD_some, List.getD_eq_getElem?_getD, List.getElem?_take]
        rw [if_pos (by omega), if_pos (by omega)]
      · rw [if_neg h3, if_neg (show ¬ (off ≤ i ∧ i < off + (k + 1)) by omega)]
        have gen : ∀ m, l.length ≤ m → (if i < m then some (l.getD i 0) else none).getD 0 = l.getD i 0 := fun m hm => by
          split
          · rfl
          · rw [List.getD_eq_getElem?_getD, List.getElem?_eq_none (by omega)]
        exact gen _ (by split <;> omega)
    · rw [if_neg (by omega), if_neg h2]
theorem wroteK_all (off : Nat) (d l : List UInt8) : wroteK off (d.take d.length) l = if d = [] then l else wrote off d l := by rw [List.take_length]; rfl
theorem wroteK_zero (off : Nat) (d l : List UInt8) : wroteK off (d.take 0) l = l := by simp [wroteK]
/-- Four reads join to all. -/
theorem four (l : List UInt8) (k : Nat) : l.take (256 * k) ++ (l.drop (256 * k)).take 256 = l.take (256 * (k + 1)) := by
  rw [Nat.mul_add, Nat.mul_one, List.take_add]
/-- What the cuts leave. -/
theorem cuts_get (l : List UInt8) (k i : Nat) (hi : i < 512) : (sizeD (sizeD l k) 512)[i]? = some (if i < k ∧ i < l.length then l.getD i 0 else 0) := by
  rw [sizeD_get, if_pos hi, List.getD_eq_getElem?_getD, sizeD_get]
  by_cases h1 : i < k
  · rw [if_pos h1]
    by_cases h2 : i < l.length
    · rw [if_pos ⟨h1, h2⟩]; rfl
    · rw [if_neg (by omega), List.getD_eq_getElem?_getD, List.getElem?_eq_none (by omega)]; rfl
  · rw [if_neg h1, if_neg (by omega)]; rfl
theorem padTo_len (l : List UInt8) (n : Nat) : (padTo l n).length = max l.length n := by
  unfold padTo; rw [List.length_append, List.length_replicate]; omega
theorem padTo_one (l : List UInt8) {n : Nat} (h : l.length ≤ n) : padTo l n ++ [0] = padTo l (n + 1) := by
  unfold padTo
  rw [List.append_assoc, show n + 1 - l.length = (n - l.length) + 1 by omega, List.replicate_succ']
theorem padTo_le (l : List UInt8) {e n : Nat} (h1 : e ≤ n) (h2 : n ≤ (padTo l e).length) : padTo l e = padTo l n := by
  rw [padTo_len] at h2
  rcases Nat.lt_or_ge l.length n with h | h
  · have : e = n := by omega
    rw [this]
  · unfold padTo
    rw [show e - l.length = 0 by omega, show n - l.length = 0 by omega]
theorem storeByte {a : Option Addr} {n c : Nat} {l : List UInt8} {k : Nat} (x : UInt8) (hk : k < n) {P : HP} (hP : HP.ent P (OwB a n c l)) {B : Value → HP} (post : ∀ R h, (OwB a n c (l.set k x)).p R h → (B (.tuple #[])).p R h) :
    OTri Tryz.prog (storeS 5 (.pointer (a.map fun y => (y.add (k * 1)).add 0)) (.int .u8 x.toNat)) P B := by
  obtain ⟨i, hi, h1, h2, h3⟩ := info_parts info8
  have := store_ok (t := 5) hi 5 1 a n c (l.map u8v) (k * 1) 0 (u8v x) [u8v x] rfl (by rw [h2]; rfl) (by simp) (by simp [u8v, Value.oneCell']) (by simp; omega)
  refine (OTri.fact (φ := l.length = n) (fun R h H => by have := H.1; simpa using this) fun hl => ?_ : OTri _ _ (OwB a n c l) B).conseq (K := HP.tt) (hP.trans (.of fun R h H => HP.sep_tt H)) fun v => .of fun R h H => HP.sep_left H
  refine this.weak (fun _ _ h => h) ?_
  rintro v R h ⟨rfl, H⟩
  refine post R h ?_
  have e : (l.map u8v).take (k * 1 + 0) ++ [u8v x] ++ (l.map u8v).drop (k * 1 + 0 + [u8v x].length) = (l.set k x).map u8v := by
    rw [List.map_set, List.set_eq_take_append_cons_drop, if_pos (by simp; omega)]
    simp
  rw [e] at H
  exact H
end Go.Proofs.YtdieogcemmnaaaaGreatDoor

/- Trees of functions, printed by rx.lean. No condition. -/
namespace Go.Proofs.YtdieogcemmnaaaaGreatDoor.RX
set_option maxRecDepth 100000
-- tideline/tidelinelaw04.TreeBytes: ρ := [.a writesa, .n writesl, .n writesc, .p writesP, .i n]
def t_treeBytes : T :=
(.call 15 [] [] [.c] (.w (.a (.bool (.v 5)))) []
(.br (.o1 .not (.v 5))
 (.ret (.w (.a (.bool (.c false)))) [((.a 0), (.prop 3))])
 (.call 16 [(.a (.sl (.v 0) (.v 1) (.v 2)))] [((.a 0), (.prop 3))] [.c] (.w (.a (.bool (.v 6)))) [((.a 0), (.prop 3))]
 (.br (.v 6)
  (.ret (.w (.a (.bool (.c true)))) [((.a 0), (.prop 3))])
  (.call 17 [] [] [.n, .p] (.w (.a (.ptr (.v 7) 0))) [((.b (.v 7)), (.prop 8))]
  (.call 18 [(.a (.ptr (.v 7) 0)), (.agg [(.int .i64 (.i 3)), (.str (.s [47, 102])), (.str (.s [])), (.int .i64 (.i 0)), (.int .i64 (.i 0)), (.sl .nil (.n 0) (.n 0))])] [((.b (.v 7)), (.prop 8))] [.i, .i, .i, .i, .a, .n, .n, .p, .a, .n, .n, .p, .p] (.w (.agg [(.int .i64 (.v 9)), (.int .i64 (.v 10)), (.int .i64 (.v 11)), (.int .i64 (.v 12)), (.sl (.v 13) (.v 14) (.v 15)), (.sl (.v 17) (.v 18) (.v 19))])) [((.a 13), (.prop 16)), ((.a 17), (.prop 20)), ((.b (.v 7)), (.prop 21))]
  (.new
  (.loop [.a, .n, .n, .i, .p, .p] [(.a (.b (.v 22) 0)), (.e (.o2 .nadd (.n 0) (.n 0))), (.e (.o2 .nadd (.n 0) (.n 0))), (.e (.o1 .neg (.o1 .neg (.i 0)))), (.p [((.b (.v 22)), (.cells [] 5))]), (.p [((.b (.v 7)), (.prop 21))])]
   (.br (.o2 .lt (.v 26) (.o1 .ofNat (.v 1)))
    (.need (.o2 .le (.i 0) (.v 26))
    (.need (.o1 .isSome (.v 0))
    (.read (.load 34 (.tmp 30)) 34 [(30, (.w (.a (.eptr 0 (.v 26) 6 0))))] [((.a 0), (.prop 3))] [.i, .s, .s, .i, .i, .a, .n, .n] (.w (.agg [(.int .i64 (.v 29)), (.str (.v 30)), (.str (.v 31)), (.int .i64 (.v 32)), (.int .i64 (.v 33)), (.sl (.v 34) (.v 35) (.v 36))]))
    (.new
    (.call 18 [(.a (.ptr (.v 7) 0)), (.agg [(.int .i64 (.i 7)), (.str (.s [47, 102])), (.str (.v 31)), (.int .i64 (.v 32)), (.int .i64 (.v 33)), (.sl (.v 34) (.v 35) (.v 36))])] [((.b (.v 7)), (.prop 28)), ((.a 0), (.prop 3))] [.i, .i, .i, .i, .a, .n, .n, .p, .a, .n, .n, .p, .p] (.w (.agg [(.int .i64 (.v 38)), (.int .i64 (.v 39)), (.int .i64 (.v 40)), (.int .i64 (.v 41)), (.sl (.v 42) (.v 43) (.v 44)), (.sl (.v 46) (.v 47) (.v 48))])) [((.a 42), (.prop 45)), ((.a 46), (.prop 49)), ((.b (.v 7)), (.prop 50)), ((.a 0), (.prop 3))]
    (.br (.o1 .not (.o2 .eq (.v 38) (.i 0)))
     (.need (.o1 (.inr .i64) (.o2 .add (.v 26) (.i 1)))
     (.again 0 [(.a (.v 23)), (.e (.o2 .nadd (.v 24) (.n 0))), (.e (.o2 .nadd (.v 25) (.n 0))), (.e (.o1 .neg (.o1 .neg (.o2 .add (.v 26) (.i 1))))), (.p [((.a 23), (.prop 27))]), (.p [((.b (.v 7)), (.prop 50))])]))
     (.loop [.a, .n, .n, .i, .p] [(.a (.v 23)), (.e (.o2 .nadd (.v 24) (.n 0))), (.e (.o2 .nadd (.v 25) (.n 0))), (.e (.o1 .neg (.o1 .neg (.i 0)))), (.p [((.a 23), (.prop 27))])]
      (.br (.o2 .lt (.v 54) (.o1 .ofNat (.v 35)))
       (.need (.o2 .le (.i 0) (.v 54))
       (.need (.o1 .isSome (.v 34))
       (.read (.load 5 (.tmp 45)) 5 [(45, (.w (.a (.eptr 34 (.v 54) 1 0))))] [((.a 0), (.prop 3))] [.i] (.w (.a (.int .u8 (.v 56))))
       (.loop [.a, .n, .n, .p] [(.a (.v 51)), (.e (.o2 .nadd (.v 52) (.n 0))), (.e (.o2 .nadd (.v 53) (.n 0))), (.p [((.a 51), (.prop 55))])]
        (.need (.o1 (.inr .i64) (.o2 .add (.v 32) (.v 54)))
        (.br (.o2 .le (.o1 .ofNat (.v 58)) (.o2 .add (.v 32) (.v 54)))
         (.new
         (.op (.call ⟨.builtin .append, #[(.tmp 54), (.tmp 55)], #[28, 28]⟩) 28 [(54, (.w (.a (.sl (.v 57) (.v 58) (.v 59))))), (55, (.w (.a (.sl (.b (.v 61) 0) (.n 1) (.n 1)))))] [((.a 57), (.prop 60)), ((.b (.v 61)), (.cells [(.int .u8 (.i 0))] 5))] [.a, .n, .n, .p] (.w (.a (.sl (.v 62) (.v 63) (.v 64)))) [((.a 62), (.prop 65)), ((.b (.v 61)), (.cells [(.int .u8 (.i 0))] 5))]
         (.again 0 [(.a (.v 62)), (.e (.o2 .nadd (.v 63) (.n 0))), (.e (.o2 .nadd (.v 64) (.n 0))), (.p [((.a 62), (.prop 65))])])))
         (.need (.o2 .le (.i 0) (.o2 .add (.v 32) (.v 54)))
         (.need (.o2 .lt (.o2 .add (.v 32) (.v 54)) (.o1 .ofNat (.v 58)))
         (.need (.o1 .isSome (.v 57))
         (.op (.store 5 (.tmp 63) (.tmp 62)) 0 [(63, (.w (.a (.eptr 57 (.o2 .add (.v 32) (.v 54)) 1 0)))), (62, (.w (.a (.int .u8 (.v 56)))))] [((.a 57), (.prop 60))] [.p] (.tup []) [((.a 57), (.prop 61))]
         (.need (.o1 (.inr .i64) (.o2 .add (.v 54) (.i 1)))
         (.again 1 [(.a (.v 57)), (.e (.o2 .nadd (.v 58) (.n 0))), (.e (.o2 .nadd (.v 59) (.n 0))), (.e (.o1 .neg (.o1 .neg (.o2 .add (.v 54) (.i 1))))), (.p [((.a 57), (.prop 61))])]))))))))))))
       (.need (.o1 (.inr .i64) (.o2 .add (.v 26) (.i 1)))
       (.again 1 [(.a (.v 51)), (.e (.o2 .nadd (.v 52) (.n 0))), (.e (.o2 .nadd (.v 53) (.n 0))), (.e (.o1 .neg (.o1 .neg (.o2 .add (.v 26) (.i 1))))), (.p [((.a 51), (.prop 55))]), (.p [((.b (.v 7)), (.prop 50))])]))))))))))
    (.new
    (.loop [.a, .n, .n, .i, .p, .p] [(.a (.b (.v 29) 0)), (.e (.o2 .nadd (.n 0) (.n 0))), (.e (.o2 .nadd (.n 0) (.n 0))), (.e (.o1 .neg (.o1 .neg (.i 0)))), (.p [((.b (.v 29)), (.cells [] 5))]), (.p [((.b (.v 7)), (.prop 28))])]
     (.br (.o2 .lt (.v 33) (.i 1024))
      (.call 18 [(.a (.ptr (.v 7) 0)), (.agg [(.int .i64 (.i 8)), (.str (.s [47, 102])), (.str (.s [])), (.int .i64 (.v 33)), (.int .i64 (.i 256)), (.sl .nil (.n 0) (.n 0))])] [((.b (.v 7)), (.prop 35))] [.i, .i, .i, .i, .a, .n, .n, .p, .a, .n, .n, .p, .p] (.w (.agg [(.int .i64 (.v 36)), (.int .i64 (.v 37)), (.int .i64 (.v 38)), (.int .i64 (.v 39)), (.sl (.v 40) (.v 41) (.v 42)), (.sl (.v 44) (.v 45) (.v 46))])) [((.a 40), (.prop 43)), ((.a 44), (.prop 47)), ((.b (.v 7)), (.prop 48))]
      (.op (.call ⟨.builtin .append, #[(.tmp 73), (.tmp 78)], #[28, 28]⟩) 28 [(73, (.w (.a (.sl (.v 30) (.v 31) (.v 32))))), (78, (.w (.a (.sl (.v 40) (.v 41) (.v 42)))))] [((.a 30), (.prop 34)), ((.a 40), (.prop 43))] [.a, .n, .n, .p] (.w (.a (.sl (.v 49) (.v 50) (.v 51)))) [((.a 49), (.prop 52)), ((.a 40), (.prop 43))]
      (.need (.o1 (.inr .i64) (.o2 .add (.v 33) (.i 256)))
      (.again 0 [(.a (.v 49)), (.e (.o2 .nadd (.v 50) (.n 0))), (.e (.o2 .nadd (.v 51) (.n 0))), (.e (.o1 .neg (.o1 .neg (.o2 .add (.v 33) (.i 256))))), (.p [((.a 49), (.prop 52))]), (.p [((.b (.v 7)), (.prop 48))])]))))
      (.read (.convert 28 9 (.tmp 80)) 9 [(80, (.w (.a (.sl (.v 30) (.v 31) (.v 32)))))] [((.a 30), (.prop 34))] [.s] (.w (.a (.str (.v 36))))
      (.read (.convert 28 9 (.tmp 82)) 9 [(82, (.w (.a (.sl (.v 23) (.v 24) (.v 25)))))] [((.a 23), (.prop 27))] [.s] (.w (.a (.str (.v 37))))
      (.br (.o1 .not (.o2 .seq (.v 36) (.v 37)))
       (.ret (.w (.a (.bool (.c false)))) [((.a 0), (.prop 3))])
       (.call 18 [(.a (.ptr (.v 7) 0)), (.agg [(.int .i64 (.i 10)), (.str (.s [47, 102])), (.str (.s [])), (.int .i64 (.i 0)), (.int .i64 (.i 0)), (.sl .nil (.n 0) (.n 0))])] [((.b (.v 7)), (.prop 35))] [.i, .i, .i, .i, .a, .n, .n, .p, .a, .n, .n, .p, .p] (.w (.agg [(.int .i64 (.v 38)), (.int .i64 (.v 39)), (.int .i64 (.v 40)), (.int .i64 (.v 41)), (.sl (.v 42) (.v 43) (.v 44)), (.sl (.v 46) (.v 47) (.v 48))])) [((.a 42), (.prop 45)), ((.a 46), (.prop 49)), ((.b (.v 7)), (.prop 50))]
       (.br (.o1 .not (.o2 .eq (.v 40) (.o1 .ofNat (.v 24))))
        (.ret (.w (.a (.bool (.c false)))) [((.a 0), (.prop 3))])
        (.call 18 [(.a (.ptr (.v 7) 0)), (.agg [(.int .i64 (.i 9)), (.str (.s [47, 102])), (.str (.s [])), (.int .i64 (.i 0)), (.int .i64 (.o2 (.bit .and .i64) (.v 4) (.i 511))), (.sl .nil (.n 0) (.n 0))])] [((.b (.v 7)), (.prop 50))] [.i, .i, .i, .i, .a, .n, .n, .p, .a, .n, .n, .p, .p] (.w (.agg [(.int .i64 (.v 51)), (.int .i64 (.v 52)), (.int .i64 (.v 53)), (.int .i64 (.v 54)), (.sl (.v 55) (.v 56) (.v 57)), (.sl (.v 59) (.v 60) (.v 61))])) [((.a 55), (.prop 58)), ((.a 59), (.prop 62)), ((.b (.v 7)), (.prop 63))]
        (.call 18 [(.a (.ptr (.v 7) 0)), (.agg [(.int .i64 (.i 9)), (.str (.s [47, 102])), (.str (.s [])), (.int .i64 (.i 0)), (.int .i64 (.i 512)), (.sl .nil (.n 0) (.n 0))])] [((.b (.v 7)), (.prop 63))] [.i, .i, .i, .i, .a, .n, .n, .p, .a, .n, .n, .p, .p] (.w (.agg [(.int .i64 (.v 64)), (.int .i64 (.v 65)), (.int .i64 (.v 66)), (.int .i64 (.v 67)), (.sl (.v 68) (.v 69) (.v 70)), (.sl (.v 72) (.v 73) (.v 74))])) [((.a 68), (.prop 71)), ((.a 72), (.prop 75)), ((.b (.v 7)), (.prop 76))]
        (.loop [.c, .i, .p] [(.e (.o1 .not (.o1 .not (.c false)))), (.e (.o1 .neg (.o1 .neg (.i 0)))), (.p [((.b (.v 7)), (.prop 76))])]
         (.br (.o2 .lt (.v 78) (.i 512))
          (.br (.o2 .lt (.v 78) (.o2 (.bit .and .i64) (.v 4) (.i 511)))
           (.br (.o2 .lt (.v 78) (.o1 .ofNat (.v 24)))
            (.need (.o2 .le (.i 0) (.v 78))
            (.need (.o1 .isSome (.v 23))
            (.read (.load 5 (.tmp 116)) 5 [(116, (.w (.a (.eptr 23 (.v 78) 1 0))))] [((.a 23), (.prop 27))] [.i] (.w (.a (.int .u8 (.v 80))))
            (.call 18 [(.a (.ptr (.v 7) 0)), (.agg [(.int .i64 (.i 8)), (.str (.s [47, 102])), (.str (.s [])), (.int .i64 (.v 78)), (.int .i64 (.i 1)), (.sl .nil (.n 0) (.n 0))])] [((.b (.v 7)), (.prop 79))] [.i, .i, .i, .i, .a, .n, .n, .p, .a, .n, .n, .p, .p] (.w (.agg [(.int .i64 (.v 81)), (.int .i64 (.v 82)), (.int .i64 (.v 83)), (.int .i64 (.v 84)), (.sl (.v 85) (.v 86) (.v 87)), (.sl (.v 89) (.v 90) (.v 91))])) [((.a 85), (.prop 88)), ((.a 89), (.prop 92)), ((.b (.v 7)), (.prop 93))]
            (.br (.o1 .not (.o2 .eq (.o1 .ofNat (.v 86)) (.i 1)))
             (.ret (.w (.a (.bool (.c false)))) [((.a 0), (.prop 3))])
             (.need (.o2 .lt (.i 0) (.o1 .ofNat (.v 86)))
             (.need (.o1 .isSome (.v 85))
             (.read (.load 5 (.tmp 128)) 5 [(128, (.w (.a (.eptr 85 (.i 0) 1 0))))] [((.a 85), (.prop 88))] [.i] (.w (.a (.int .u8 (.v 94))))
             (.br (.o1 .not (.o2 .eq (.v 94) (.v 80)))
              (.ret (.w (.a (.bool (.c false)))) [((.a 0), (.prop 3))])
              (.need (.o1 (.inr .i64) (.o2 .add (.v 78) (.i 1)))
              (.again 0 [(.e (.o1 .not (.o1 .not (.v 77)))), (.e (.o1 .neg (.o1 .neg (.o2 .add (.v 78) (.i 1))))), (.p [((.b (.v 7)), (.prop 93))])])))))))))))
            (.call 18 [(.a (.ptr (.v 7) 0)), (.agg [(.int .i64 (.i 8)), (.str (.s [47, 102])), (.str (.s [])), (.int .i64 (.v 78)), (.int .i64 (.i 1)), (.sl .nil (.n 0) (.n 0))])] [((.b (.v 7)), (.prop 79))] [.i, .i, .i, .i, .a, .n, .n, .p, .a, .n, .n, .p, .p] (.w (.agg [(.int .i64 (.v 80)), (.int .i64 (.v 81)), (.int .i64 (.v 82)), (.int .i64 (.v 83)), (.sl (.v 84) (.v 85) (.v 86)), (.sl (.v 88) (.v 89) (.v 90))])) [((.a 84), (.prop 87)), ((.a 88), (.prop 91)), ((.b (.v 7)), (.prop 92))]
            (.br (.o1 .not (.o2 .eq (.o1 .ofNat (.v 85)) (.i 1)))
             (.ret (.w (.a (.bool (.c false)))) [((.a 0), (.prop 3))])
             (.need (.o2 .lt (.i 0) (.o1 .ofNat (.v 85)))
             (.need (.o1 .isSome (.v 84))
             (.read (.load 5 (.tmp 128)) 5 [(128, (.w (.a (.eptr 84 (.i 0) 1 0))))] [((.a 84), (.prop 87))] [.i] (.w (.a (.int .u8 (.v 93))))
             (.br (.o1 .not (.o2 .eq (.v 93) (.i 0)))
              (.ret (.w (.a (.bool (.c false)))) [((.a 0), (.prop 3))])
              (.need (.o1 (.inr .i64) (.o2 .add (.v 78) (.i 1)))
              (.again 0 [(.e (.o1 .not (.o1 .not (.v 77)))), (.e (.o1 .neg (.o1 .neg (.o2 .add (.v 78) (.i 1))))), (.p [((.b (.v 7)), (.prop 92))])])))))))))
           (.call 18 [(.a (.ptr (.v 7) 0)), (.agg [(.int .i64 (.i 8)), (.str (.s [47, 102])), (.str (.s [])), (.int .i64 (.v 78)), (.int .i64 (.i 1)), (.sl .nil (.n 0) (.n 0))])] [((.b (.v 7)), (.prop 79))] [.i, .i, .i, .i, .a, .n, .n, .p, .a, .n, .n, .p, .p] (.w (.agg [(.int .i64 (.v 80)), (.int .i64 (.v 81)), (.int .i64 (.v 82)), (.int .i64 (.v 83)), (.sl (.v 84) (.v 85) (.v 86)), (.sl (.v 88) (.v 89) (.v 90))])) [((.a 84), (.prop 87)), ((.a 88), (.prop 91)), ((.b (.v 7)), (.prop 92))]
           (.br (.o1 .not (.o2 .eq (.o1 .ofNat (.v 85)) (.i 1)))
            (.ret (.w (.a (.bool (.c false)))) [((.a 0), (.prop 3))])
            (.need (.o2 .lt (.i 0) (.o1 .ofNat (.v 85)))
            (.need (.o1 .isSome (.v 84))
            (.read (.load 5 (.tmp 128)) 5 [(128, (.w (.a (.eptr 84 (.i 0) 1 0))))] [((.a 84), (.prop 87))] [.i] (.w (.a (.int .u8 (.v 93))))
            (.br (.o1 .not (.o2 .eq (.v 93) (.i 0)))
             (.ret (.w (.a (.bool (.c false)))) [((.a 0), (.prop 3))])
             (.need (.o1 (.inr .i64) (.o2 .add (.v 78) (.i 1)))
             (.again 0 [(.e (.o1 .not (.o1 .not (.v 77)))), (.e (.o1 .neg (.o1 .neg (.o2 .add (.v 78) (.i 1))))), (.p [((.b (.v 7)), (.prop 92))])])))))))))
          (.ret (.w (.a (.bool (.c true)))) [((.a 0), (.prop 3))]))))))))))))))))))))))
theorem tree_treeBytes : tree Tryz.prog { absT := [], opq := [], hv := [(0, [(.b (.v 22)), (.b (.v 7))]), (6, [(.b (.v 29)), (.b (.v 7))]), (1, [(.a 23), (.a 51)]), (2, [(.a 23), (.a 51)]), (3, [(.a 23), (.a 51)]), (4, [(.a 23), (.a 51)]), (5, [(.a 23), (.a 51)]), (7, [(.a 23), (.a 51)]), (8, [(.b (.v 7))]), (9, [(.a 23), (.a 51)]), (10, [(.a 23), (.a 51)]), (11, [(.a 23), (.a 51)]), (12, [(.a 23), (.a 51)]), (13, [(.a 23), (.a 51)]), (14, [(.a 23), (.a 51)]), (15, [(.a 23), (.a 51)]), (16, [(.a 23), (.a 51)])], keep := [19, 25, 21, 20, 26, 16], link := [], ent := [], turn := [(18, [0])], shr := [], vt := [], mkd := [], rlink := [], pty := [], outl := false, stay := [], snk := [], rdf := true } Tryz.f3 [(.a (.sl (.v 0) (.v 1) (.v 2))), (.a (.int .i64 (.v 4)))] [((.a 0), (.prop 3))] 5 = t_treeBytes := by kernel_rfl
end Go.Proofs.YtdieogcemmnaaaaGreatDoor.RX
