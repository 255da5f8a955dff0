/- Texts of this claim, joined: TrLaw04, In04, Lw4A, Lw4B, Lw4C. No condition. -/
import Derived.Test.YtdieogcemmnaaaaGreatDoorTEJ1
import Derived.Test.YtdieogcemmnaaaaGreatDoorTEJ4
import Derived.KernelRfl
set_option linter.unusedSimpArgs false
set_option linter.unusedVariables false
/- Trees of functions, printed by rx.lean. No condition. -/
namespace Go.Proofs.YtdieogcemmnaaaaGreatDoor.RX
set_option maxRecDepth 100000
-- tideline/tidelinelaw04.speaks: ρ := []
def t_speaks04 : T :=
(.call 17 [] [] [.n, .p] (.w (.a (.ptr (.v 0) 0))) [((.b (.v 0)), (.prop 1))]
(.call 18 [(.a (.ptr (.v 0) 0)), (.agg [(.int .i64 (.i 1)), (.str (.s [47, 97])), (.str (.s [])), (.int .i64 (.i 0)), (.int .i64 (.i 0)), (.sl .nil (.n 0) (.n 0))])] [((.b (.v 0)), (.prop 1))] [.i, .i, .i, .i, .a, .n, .n, .p, .a, .n, .n, .p, .p] (.w (.agg [(.int .i64 (.v 2)), (.int .i64 (.v 3)), (.int .i64 (.v 4)), (.int .i64 (.v 5)), (.sl (.v 6) (.v 7) (.v 8)), (.sl (.v 10) (.v 11) (.v 12))])) [((.a 6), (.prop 9)), ((.a 10), (.prop 13)), ((.b (.v 0)), (.prop 14))]
(.new
(.call 18 [(.a (.ptr (.v 0) 0)), (.agg [(.int .i64 (.i 3)), (.str (.s [47, 97, 47, 98])), (.str (.s [])), (.int .i64 (.i 0)), (.int .i64 (.i 0)), (.sl .nil (.n 0) (.n 0))])] [((.b (.v 0)), (.prop 14))] [.i, .i, .i, .i, .a, .n, .n, .p, .a, .n, .n, .p, .p] (.w (.agg [(.int .i64 (.v 16)), (.int .i64 (.v 17)), (.int .i64 (.v 18)), (.int .i64 (.v 19)), (.sl (.v 20) (.v 21) (.v 22)), (.sl (.v 24) (.v 25) (.v 26))])) [((.a 20), (.prop 23)), ((.a 24), (.prop 27)), ((.b (.v 0)), (.prop 28))]
(.new
(.call 18 [(.a (.ptr (.v 0) 0)), (.agg [(.int .i64 (.i 6)), (.str (.s [47, 97])), (.str (.s [47, 97, 47, 99])), (.int .i64 (.i 0)), (.int .i64 (.i 0)), (.sl .nil (.n 0) (.n 0))])] [((.b (.v 0)), (.prop 28))] [.i, .i, .i, .i, .a, .n, .n, .p, .a, .n, .n, .p, .p] (.w (.agg [(.int .i64 (.v 30)), (.int .i64 (.v 31)), (.int .i64 (.v 32)), (.int .i64 (.v 33)), (.sl (.v 34) (.v 35) (.v 36)), (.sl (.v 38) (.v 39) (.v 40))])) [((.a 34), (.prop 37)), ((.a 38), (.prop 41)), ((.b (.v 0)), (.prop 42))]
(.new
(.br (.o2 .eq (.v 2) (.i 0))
 (.br (.o2 .eq (.v 16) (.i 0))
  (.br (.o2 .eq (.v 30) (.i 26))
   (.call 19 [(.a (.ptr (.v 0) 0))] [((.b (.v 0)), (.prop 42))] [.a, .n, .n, .p] (.w (.a (.sl (.v 44) (.v 45) (.v 46)))) [((.a 44), (.prop 47)), ((.b (.v 0)), (.prop 42))]
   (.ret (.w (.a (.bool (.o2 .eq (.o1 .ofNat (.v 45)) (.i 3))))) []))
   (.ret (.w (.a (.bool (.c false)))) []))
  (.ret (.w (.a (.bool (.c false)))) []))
 (.ret (.w (.a (.bool (.c false)))) [])))))))))
theorem tree_speaks04 : tree Tryz.prog { absT := [], opq := [], hv := [], keep := [19, 25, 21, 20, 26, 16], link := [], ent := [], turn := [(18, [0])], shr := [], vt := [], mkd := [], rlink := [], pty := [], outl := false, stay := [], snk := [], rdf := true } Tryz.f15 [] [] 0 = t_speaks04 := by kernel_rfl
-- tideline/tidelinelaw04.Great: ρ := [.a callsa, .n callsl, .n callsc, .p callsP]
def t_great04 : T :=
(.br (.o2 .lt (.i 120) (.o1 .ofNat (.v 1)))
 (.ret (.w (.a (.bool (.c true)))) [((.a 0), (.prop 3))])
 (.loop [.c, .i] [(.e (.o1 .not (.o1 .not (.c false)))), (.e (.o1 .neg (.o1 .neg (.i 0))))]
  (.br (.o2 .lt (.v 5) (.o1 .ofNat (.v 1)))
   (.need (.o2 .le (.i 0) (.v 5))
   (.need (.o1 .isSome (.v 0))
   (.read (.load 34 (.tmp 12)) 34 [(12, (.w (.a (.eptr 0 (.v 5) 6 0))))] [((.a 0), (.prop 3))] [.i, .s, .s, .i, .i, .a, .n, .n] (.w (.agg [(.int .i64 (.v 6)), (.str (.v 7)), (.str (.v 8)), (.int .i64 (.v 9)), (.int .i64 (.v 10)), (.sl (.v 11) (.v 12) (.v 13))]))
   (.new
   (.br (.o2 .lt (.i 300) (.o1 .ofNat (.o1 .size (.v 7))))
    (.ret (.w (.a (.bool (.c true)))) [((.a 0), (.prop 3))])
    (.br (.o2 .lt (.i 300) (.o1 .ofNat (.o1 .size (.v 8))))
     (.ret (.w (.a (.bool (.c true)))) [((.a 0), (.prop 3))])
     (.br (.o2 .lt (.i 600) (.o1 .ofNat (.v 12)))
      (.ret (.w (.a (.bool (.c true)))) [((.a 0), (.prop 3))])
      (.need (.o1 (.inr .i64) (.o2 .add (.v 5) (.i 1)))
      (.again 0 [(.e (.o1 .not (.o1 .not (.v 4)))), (.e (.o1 .neg (.o1 .neg (.o2 .add (.v 5) (.i 1)))))])))))))))
   (.ret (.w (.a (.bool (.c false)))) [((.a 0), (.prop 3))]))))
theorem tree_great04 : tree Tryz.prog { absT := [], opq := [], hv := [], keep := [19, 25, 21, 20, 26, 16], link := [], ent := [], turn := [(18, [0])], shr := [], vt := [], mkd := [], rlink := [], pty := [], outl := false, stay := [], snk := [], rdf := true } Tryz.f16 [(.a (.sl (.v 0) (.v 1) (.v 2)))] [((.a 0), (.prop 3))] 4 = t_great04 := by kernel_rfl
-- tideline/tidelinelaw04.TreeCounts: ρ := [.a callsa, .n callsl, .n callsc, .p callsP]
def t_treeCounts : T :=
(.call 15 [] [] [.c] (.w (.a (.bool (.v 4)))) []
(.br (.o1 .not (.v 4))
 (.ret (.w (.a (.bool (.c false)))) [((.a 0), (.prop 3))])
 (.call 16 [(.a (.sl (.v 0) (.v 1) (.v 2)))] [((.a 0), (.prop 3))] [.c] (.w (.a (.bool (.v 5)))) [((.a 0), (.prop 3))]
 (.br (.v 5)
  (.ret (.w (.a (.bool (.c true)))) [((.a 0), (.prop 3))])
  (.call 17 [] [] [.n, .p] (.w (.a (.ptr (.v 6) 0))) [((.b (.v 6)), (.prop 7))]
  (.loop [.c, .i, .p] [(.e (.o1 .not (.o1 .not (.c false)))), (.e (.o1 .neg (.o1 .neg (.i 0)))), (.p [((.b (.v 6)), (.prop 7))])]
   (.br (.o2 .lt (.v 9) (.o1 .ofNat (.v 1)))
    (.need (.o2 .le (.i 0) (.v 9))
    (.need (.o1 .isSome (.v 0))
    (.read (.load 34 (.tmp 22)) 34 [(22, (.w (.a (.eptr 0 (.v 9) 6 0))))] [((.a 0), (.prop 3))] [.i, .s, .s, .i, .i, .a, .n, .n] (.w (.agg [(.int .i64 (.v 11)), (.str (.v 12)), (.str (.v 13)), (.int .i64 (.v 14)), (.int .i64 (.v 15)), (.sl (.v 16) (.v 17) (.v 18))]))
    (.new
    (.call 18 [(.a (.ptr (.v 6) 0)), (.agg [(.int .i64 (.v 11)), (.str (.v 12)), (.str (.v 13)), (.int .i64 (.v 14)), (.int .i64 (.v 15)), (.sl (.v 16) (.v 17) (.v 18))])] [((.b (.v 6)), (.prop 10)), ((.a 0), (.prop 3))] [.i, .i, .i, .i, .a, .n, .n, .p, .a, .n, .n, .p, .p] (.w (.agg [(.int .i64 (.v 20)), (.int .i64 (.v 21)), (.int .i64 (.v 22)), (.int .i64 (.v 23)), (.sl (.v 24) (.v 25) (.v 26)), (.sl (.v 28) (.v 29) (.v 30))])) [((.a 24), (.prop 27)), ((.a 28), (.prop 31)), ((.b (.v 6)), (.prop 32)), ((.a 0), (.prop 3))]
    (.join [.n, .n, .i, .i, .i, .i, .a, .n, .n, .a, .n, .n, .i, .i, .i, .i, .a, .n, .n, .a, .n, .n, .p, .p, .p, .p, .p]
     (.all
      (.all
       (.call 18 [(.a (.ptr (.v 6) 0)), (.agg [(.int .i64 (.i 10)), (.str (.v 12)), (.str (.s [])), (.int .i64 (.i 0)), (.int .i64 (.i 0)), (.sl .nil (.n 0) (.n 0))])] [((.b (.v 6)), (.prop 32))] [.i, .i, .i, .i, .a, .n, .n, .p, .a, .n, .n, .p, .p] (.w (.agg [(.int .i64 (.v 33)), (.int .i64 (.v 34)), (.int .i64 (.v 35)), (.int .i64 (.v 36)), (.sl (.v 37) (.v 38) (.v 39)), (.sl (.v 41) (.v 42) (.v 43))])) [((.a 37), (.prop 40)), ((.a 41), (.prop 44)), ((.b (.v 6)), (.prop 45))]
       (.all
        (.all
         (.call 18 [(.a (.ptr (.v 6) 0)), (.agg [(.int .i64 (.i 11)), (.str (.v 12)), (.str (.s [])), (.int .i64 (.i 0)), (.int .i64 (.i 0)), (.sl .nil (.n 0) (.n 0))])] [((.b (.v 6)), (.prop 45))] [.i, .i, .i, .i, .a, .n, .n, .p, .a, .n, .n, .p, .p] (.w (.agg [(.int .i64 (.v 46)), (.int .i64 (.v 47)), (.int .i64 (.v 48)), (.int .i64 (.v 49)), (.sl (.v 50) (.v 51) (.v 52)), (.sl (.v 54) (.v 55) (.v 56))])) [((.a 50), (.prop 53)), ((.a 54), (.prop 57)), ((.b (.v 6)), (.prop 58))]
         (.all
          (.new
          (.new
          (.again 0 [(.n (.v 59)), (.n (.v 60)), (.e (.o1 .neg (.o1 .neg (.v 46)))), (.e (.o1 .neg (.o1 .neg (.v 47)))), (.e (.o1 .neg (.o1 .neg (.v 48)))), (.e (.o1 .neg (.o1 .neg (.v 49)))), (.a (.v 50)), (.e (.o2 .nadd (.v 51) (.n 0))), (.e (.o2 .nadd (.v 52) (.n 0))), (.a (.v 54)), (.e (.o2 .nadd (.v 55) (.n 0))), (.e (.o2 .nadd (.v 56) (.n 0))), (.e (.o1 .neg (.o1 .neg (.v 33)))), (.e (.o1 .neg (.o1 .neg (.v 34)))), (.e (.o1 .neg (.o1 .neg (.v 35)))), (.e (.o1 .neg (.o1 .neg (.v 36)))), (.a (.v 37)), (.e (.o2 .nadd (.v 38) (.n 0))), (.e (.o2 .nadd (.v 39) (.n 0))), (.a (.v 41)), (.e (.o2 .nadd (.v 42) (.n 0))), (.e (.o2 .nadd (.v 43) (.n 0))), (.p [((.a 50), (.prop 53))]), (.p [((.a 54), (.prop 57))]), (.p [((.b (.v 6)), (.prop 58))]), (.p [((.a 37), (.prop 40))]), (.p [((.a 41), (.prop 44))])])))
          (.new
          (.new
          (.again 0 [(.n (.v 60)), (.n (.v 59)), (.e (.o1 .neg (.o1 .neg (.v 46)))), (.e (.o1 .neg (.o1 .neg (.v 47)))), (.e (.o1 .neg (.o1 .neg (.v 48)))), (.e (.o1 .neg (.o1 .neg (.v 49)))), (.a (.v 50)), (.e (.o2 .nadd (.v 51) (.n 0))), (.e (.o2 .nadd (.v 52) (.n 0))), (.a (.v 54)), (.e (.o2 .nadd (.v 55) (.n 0))), (.e (.o2 .nadd (.v 56) (.n 0))), (.e (.o1 .neg (.o1 .neg (.v 33)))), (.e (.o1 .neg (.o1 .neg (.v 34)))), (.e (.o1 .neg (.o1 .neg (.v 35)))), (.e (.o1 .neg (.o1 .neg (.v 36)))), (.a (.v 37)), (.e (.o2 .nadd (.v 38) (.n 0))), (.e (.o2 .nadd (.v 39) (.n 0))), (.a (.v 41)), (.e (.o2 .nadd (.v 42) (.n 0))), (.e (.o2 .nadd (.v 43) (.n 0))), (.p [((.a 50), (.prop 53))]), (.p [((.a 54), (.prop 57))]), (.p [((.b (.v 6)), (.prop 58))]), (.p [((.a 37), (.prop 40))]), (.p [((.a 41), (.prop 44))])])))))
         (.all
          (.new
          (.all
           (.call 18 [(.a (.ptr (.v 6) 0)), (.agg [(.int .i64 (.i 11)), (.str (.v 12)), (.str (.s [])), (.int .i64 (.i 0)), (.int .i64 (.i 0)), (.sl .nil (.n 0) (.n 0))])] [((.b (.v 6)), (.prop 45))] [.i, .i, .i, .i, .a, .n, .n, .p, .a, .n, .n, .p, .p] (.w (.agg [(.int .i64 (.v 47)), (.int .i64 (.v 48)), (.int .i64 (.v 49)), (.int .i64 (.v 50)), (.sl (.v 51) (.v 52) (.v 53)), (.sl (.v 55) (.v 56) (.v 57))])) [((.a 51), (.prop 54)), ((.a 55), (.prop 58)), ((.b (.v 6)), (.prop 59))]
           (.new
           (.again 0 [(.n (.v 46)), (.n (.v 60)), (.e (.o1 .neg (.o1 .neg (.v 47)))), (.e (.o1 .neg (.o1 .neg (.v 48)))), (.e (.o1 .neg (.o1 .neg (.v 49)))), (.e (.o1 .neg (.o1 .neg (.v 50)))), (.a (.v 51)), (.e (.o2 .nadd (.v 52) (.n 0))), (.e (.o2 .nadd (.v 53) (.n 0))), (.a (.v 55)), (.e (.o2 .nadd (.v 56) (.n 0))), (.e (.o2 .nadd (.v 57) (.n 0))), (.e (.o1 .neg (.o1 .neg (.v 33)))), (.e (.o1 .neg (.o1 .neg (.v 34)))), (.e (.o1 .neg (.o1 .neg (.v 35)))), (.e (.o1 .neg (.o1 .neg (.v 36)))), (.a (.v 37)), (.e (.o2 .nadd (.v 38) (.n 0))), (.e (.o2 .nadd (.v 39) (.n 0))), (.a (.v 41)), (.e (.o2 .nadd (.v 42) (.n 0))), (.e (.o2 .nadd (.v 43) (.n 0))), (.p [((.a 51), (.prop 54))]), (.p [((.a 55), (.prop 58))]), (.p [((.b (.v 6)), (.prop 59))]), (.p [((.a 37), (.prop 40))]), (.p [((.a 41), (.prop 44))])])))
           (.new
           (.call 18 [(.a (.ptr (.v 6) 0)), (.agg [(.int .i64 (.i 11)), (.str (.v 12)), (.str (.s [])), (.int .i64 (.i 0)), (.int .i64 (.i 0)), (.sl .nil (.n 0) (.n 0))])] [((.b (.v 6)), (.prop 45))] [.i, .i, .i, .i, .a, .n, .n, .p, .a, .n, .n, .p, .p] (.w (.agg [(.int .i64 (.v 48)), (.int .i64 (.v 49)), (.int .i64 (.v 50)), (.int .i64 (.v 51)), (.sl (.v 52) (.v 53) (.v 54)), (.sl (.v 56) (.v 57) (.v 58))])) [((.a 52), (.prop 55)), ((.a 56), (.prop 59)), ((.b (.v 6)), (.prop 60))]
           (.again 0 [(.n (.v 46)), (.n (.v 47)), (.e (.o1 .neg (.o1 .neg (.v 48)))), (.e (.o1 .neg (.o1 .neg (.v 49)))), (.e (.o1 .neg (.o1 .neg (.v 50)))), (.e (.o1 .neg (.o1 .neg (.v 51)))), (.a (.v 52)), (.e (.o2 .nadd (.v 53) (.n 0))), (.e (.o2 .nadd (.v 54) (.n 0))), (.a (.v 56)), (.e (.o2 .nadd (.v 57) (.n 0))), (.e (.o2 .nadd (.v 58) (.n 0))), (.e (.o1 .neg (.o1 .neg (.v 33)))), (.e (.o1 .neg (.o1 .neg (.v 34)))), (.e (.o1 .neg (.o1 .neg (.v 35)))), (.e (.o1 .neg (.o1 .neg (.v 36)))), (.a (.v 37)), (.e (.o2 .nadd (.v 38) (.n 0))), (.e (.o2 .nadd (.v 39) (.n 0))), (.a (.v 41)), (.e (.o2 .nadd (.v 42) (.n 0))), (.e (.o2 .nadd (.v 43) (.n 0))), (.p [((.a 52), (.prop 55))]), (.p [((.a 56), (.prop 59))]), (.p [((.b (.v 6)), (.prop 60))]), (.p [((.a 37), (.prop 40))]), (.p [((.a 41), (.prop 44))])])))))
          (.new
          (.all
           (.call 18 [(.a (.ptr (.v 6) 0)), (.agg [(.int .i64 (.i 11)), (.str (.v 12)), (.str (.s [])), (.int .i64 (.i 0)), (.int .i64 (.i 0)), (.sl .nil (.n 0) (.n 0))])] [((.b (.v 6)), (.prop 45))] [.i, .i, .i, .i, .a, .n, .n, .p, .a, .n, .n, .p, .p] (.w (.agg [(.int .i64 (.v 47)), (.int .i64 (.v 48)), (.int .i64 (.v 49)), (.int .i64 (.v 50)), (.sl (.v 51) (.v 52) (.v 53)), (.sl (.v 55) (.v 56) (.v 57))])) [((.a 51), (.prop 54)), ((.a 55), (.prop 58)), ((.b (.v 6)), (.prop 59))]
           (.new
           (.again 0 [(.n (.v 60)), (.n (.v 46)), (.e (.o1 .neg (.o1 .neg (.v 47)))), (.e (.o1 .neg (.o1 .neg (.v 48)))), (.e (.o1 .neg (.o1 .neg (.v 49)))), (.e (.o1 .neg (.o1 .neg (.v 50)))), (.a (.v 51)), (.e (.o2 .nadd (.v 52) (.n 0))), (.e (.o2 .nadd (.v 53) (.n 0))), (.a (.v 55)), (.e (.o2 .nadd (.v 56) (.n 0))), (.e (.o2 .nadd (.v 57) (.n 0))), (.e (.o1 .neg (.o1 .neg (.v 33)))), (.e (.o1 .neg (.o1 .neg (.v 34)))), (.e (.o1 .neg (.o1 .neg (.v 35)))), (.e (.o1 .neg (.o1 .neg (.v 36)))), (.a (.v 37)), (.e (.o2 .nadd (.v 38) (.n 0))), (.e (.o2 .nadd (.v 39) (.n 0))), (.a (.v 41)), (.e (.o2 .nadd (.v 42) (.n 0))), (.e (.o2 .nadd (.v 43) (.n 0))), (.p [((.a 51), (.prop 54))]), (.p [((.a 55), (.prop 58))]), (.p [((.b (.v 6)), (.prop 59))]), (.p [((.a 37), (.prop 40))]), (.p [((.a 41), (.prop 44))])])))
           (.new
           (.call 18 [(.a (.ptr (.v 6) 0)), (.agg [(.int .i64 (.i 11)), (.str (.v 12)), (.str (.s [])), (.int .i64 (.i 0)), (.int .i64 (.i 0)), (.sl .nil (.n 0) (.n 0))])] [((.b (.v 6)), (.prop 45))] [.i, .i, .i, .i, .a, .n, .n, .p, .a, .n, .n, .p, .p] (.w (.agg [(.int .i64 (.v 48)), (.int .i64 (.v 49)), (.int .i64 (.v 50)), (.int .i64 (.v 51)), (.sl (.v 52) (.v 53) (.v 54)), (.sl (.v 56) (.v 57) (.v 58))])) [((.a 52), (.prop 55)), ((.a 56), (.prop 59)), ((.b (.v 6)), (.prop 60))]
           (.again 0 [(.n (.v 47)), (.n (.v 46)), (.e (.o1 .neg (.o1 .neg (.v 48)))), (.e (.o1 .neg (.o1 .neg (.v 49)))), (.e (.o1 .neg (.o1 .neg (.v 50)))), (.e (.o1 .neg (.o1 .neg (.v 51)))), (.a (.v 52)), (.e (.o2 .nadd (.v 53) (.n 0))), (.e (.o2 .nadd (.v 54) (.n 0))), (.a (.v 56)), (.e (.o2 .nadd (.v 57) (.n 0))), (.e (.o2 .nadd (.v 58) (.n 0))), (.e (.o1 .neg (.o1 .neg (.v 33)))), (.e (.o1 .neg (.o1 .neg (.v 34)))), (.e (.o1 .neg (.o1 .neg (.v 35)))), (.e (.o1 .neg (.o1 .neg (.v 36)))), (.a (.v 37)), (.e (.o2 .nadd (.v 38) (.n 0))), (.e (.o2 .nadd (.v 39) (.n 0))), (.a (.v 41)), (.e (.o2 .nadd (.v 42) (.n 0))), (.e (.o2 .nadd (.v 43) (.n 0))), (.p [((.a 52), (.prop 55))]), (.p [((.a 56), (.prop 59))]), (.p [((.b (.v 6)), (.prop 60))]), (.p [((.a 37), (.prop 40))]), (.p [((.a 41), (.prop 44))])])))))))
        (.all
         (.new
         (.all
          (.all
           (.call 18 [(.a (.ptr (.v 6) 0)), (.agg [(.int .i64 (.i 11)), (.str (.v 12)), (.str (.s [])), (.int .i64 (.i 0)), (.int .i64 (.i 0)), (.sl .nil (.n 0) (.n 0))])] [((.b (.v 6)), (.prop 45))] [.i, .i, .i, .i, .a, .n, .n, .p, .a, .n, .n, .p, .p] (.w (.agg [(.int .i64 (.v 47)), (.int .i64 (.v 48)), (.int .i64 (.v 49)), (.int .i64 (.v 50)), (.sl (.v 51) (.v 52) (.v 53)), (.sl (.v 55) (.v 56) (.v 57))])) [((.a 51), (.prop 54)), ((.a 55), (.prop 58)), ((.b (.v 6)), (.prop 59))]
           (.new
           (.again 0 [(.n (.v 46)), (.n (.v 60)), (.e (.o1 .neg (.o1 .neg (.v 47)))), (.e (.o1 .neg (.o1 .neg (.v 48)))), (.e (.o1 .neg (.o1 .neg (.v 49)))), (.e (.o1 .neg (.o1 .neg (.v 50)))), (.a (.v 51)), (.e (.o2 .nadd (.v 52) (.n 0))), (.e (.o2 .nadd (.v 53) (.n 0))), (.a (.v 55)), (.e (.o2 .nadd (.v 56) (.n 0))), (.e (.o2 .nadd (.v 57) (.n 0))), (.e (.o1 .neg (.o1 .neg (.v 33)))), (.e (.o1 .neg (.o1 .neg (.v 34)))), (.e (.o1 .neg (.o1 .neg (.v 35)))), (.e (.o1 .neg (.o1 .neg (.v 36)))), (.a (.v 37)), (.e (.o2 .nadd (.v 38) (.n 0))), (.e (.o2 .nadd (.v 39) (.n 0))), (.a (.v 41)), (.e (.o2 .nadd (.v 42) (.n 0))), (.e (.o2 .nadd (.v 43) (.n 0))), (.p [((.a 51), (.prop 54))]), (.p [((.a 55), (.prop 58))]), (.p [((.b (.v 6)), (.prop 59))]), (.p [((.a 37), (.prop 40))]), (.p [((.a 41), (.prop 44))])])))
           (.new
           (.call 18 [(.a (.ptr (.v 6) 0)), (.agg [(.int .i64 (.i 11)), (.str (.v 12)), (.str (.s [])), (.int .i64 (.i 0)), (.int .i64 (.i 0)), (.sl .nil (.n 0) (.n 0))])] [((.b (.v 6)), (.prop 45))] [.i, .i, .i, .i, .a, .n, .n, .p, .a, .n, .n, .p, .p] (.w (.agg [(.int .i64 (.v 48)), (.int .i64 (.v 49)), (.int .i64 (.v 50)), (.int .i64 (.v 51)), (.sl (.v 52) (.v 53) (.v 54)), (.sl (.v 56) (.v 57) (.v 58))])) [((.a 52), (.prop 55)), ((.a 56), (.prop 59)), ((.b (.v 6)), (.prop 60))]
           (.again 0 [(.n (.v 46)), (.n (.v 47)), (.e (.o1 .neg (.o1 .neg (.v 48)))), (.e (.o1 .neg (.o1 .neg (.v 49)))), (.e (.o1 .neg (.o1 .neg (.v 50)))), (.e (.o1 .neg (.o1 .neg (.v 51)))), (.a (.v 52)), (.e (.o2 .nadd (.v 53) (.n 0))), (.e (.o2 .nadd (.v 54) (.n 0))), (.a (.v 56)), (.e (.o2 .nadd (.v 57) (.n 0))), (.e (.o2 .nadd (.v 58) (.n 0))), (.e (.o1 .neg (.o1 .neg (.v 33)))), (.e (.o1 .neg (.o1 .neg (.v 34)))), (.e (.o1 .neg (.o1 .neg (.v 35)))), (.e (.o1 .neg (.o1 .neg (.v 36)))), (.a (.v 37)), (.e (.o2 .nadd (.v 38) (.n 0))), (.e (.o2 .nadd (.v 39) (.n 0))), (.a (.v 41)), (.e (.o2 .nadd (.v 42) (.n 0))), (.e (.o2 .nadd (.v 43) (.n 0))), (.p [((.a 52), (.prop 55))]), (.p [((.a 56), (.prop 59))]), (.p [((.b (.v 6)), (.prop 60))]), (.p [((.a 37), (.prop 40))]), (.p [((.a 41), (.prop 44))])]))))
          (.new
          (.call 18 [(.a (.ptr (.v 6) 0)), (.agg [(.int .i64 (.i 11)), (.str (.v 12)), (.str (.s [])), (.int .i64 (.i 0)), (.int .i64 (.i 0)), (.sl .nil (.n 0) (.n 0))])] [((.b (.v 6)), (.prop 45))] [.i, .i, .i, .i, .a, .n, .n, .p, .a, .n, .n, .p, .p] (.w (.agg [(.int .i64 (.v 48)), (.int .i64 (.v 49)), (.int .i64 (.v 50)), (.int .i64 (.v 51)), (.sl (.v 52) (.v 53) (.v 54)), (.sl (.v 56) (.v 57) (.v 58))])) [((.a 52), (.prop 55)), ((.a 56), (.prop 59)), ((.b (.v 6)), (.prop 60))]
          (.again 0 [(.n (.v 46)), (.n (.v 47)), (.e (.o1 .neg (.o1 .neg (.v 48)))), (.e (.o1 .neg (.o1 .neg (.v 49)))), (.e (.o1 .neg (.o1 .neg (.v 50)))), (.e (.o1 .neg (.o1 .neg (.v 51)))), (.a (.v 52)), (.e (.o2 .nadd (.v 53) (.n 0))), (.e (.o2 .nadd (.v 54) (.n 0))), (.a (.v 56)), (.e (.o2 .nadd (.v 57) (.n 0))), (.e (.o2 .nadd (.v 58) (.n 0))), (.e (.o1 .neg (.o1 .neg (.v 33)))), (.e (.o1 .neg (.o1 .neg (.v 34)))), (.e (.o1 .neg (.o1 .neg (.v 35)))), (.e (.o1 .neg (.o1 .neg (.v 36)))), (.a (.v 37)), (.e (.o2 .nadd (.v 38) (.n 0))), (.e (.o2 .nadd (.v 39) (.n 0))), (.a (.v 41)), (.e (.o2 .nadd (.v 42) (.n 0))), (.e (.o2 .nadd (.v 43) (.n 0))), (.p [((.a 52), (.prop 55))]), (.p [((.a 56), (.prop 59))]), (.p [((.b (.v 6)), (.prop 60))]), (.p [((.a 37), (.prop 40))]), (.p [((.a 41), (.prop 44))])])))))
         (.new
         (.all
          (.all
           (.call 18 [(.a (.ptr (.v 6) 0)), (.agg [(.int .i64 (.i 11)), (.str (.v 12)), (.str (.s [])), (.int .i64 (.i 0)), (.int .i64 (.i 0)), (.sl .nil (.n 0) (.n 0))])] [((.b (.v 6)), (.prop 45))] [.i, .i, .i, .i, .a, .n, .n, .p, .a, .n, .n, .p, .p] (.w (.agg [(.int .i64 (.v 47)), (.int .i64 (.v 48)), (.int .i64 (.v 49)), (.int .i64 (.v 50)), (.sl (.v 51) (.v 52) (.v 53)), (.sl (.v 55) (.v 56) (.v 57))])) [((.a 51), (.prop 54)), ((.a 55), (.prop 58)), ((.b (.v 6)), (.prop 59))]
           (.new
           (.again 0 [(.n (.v 60)), (.n (.v 46)), (.e (.o1 .neg (.o1 .neg (.v 47)))), (.e (.o1 .neg (.o1 .neg (.v 48)))), (.e (.o1 .neg (.o1 .neg (.v 49)))), (.e (.o1 .neg (.o1 .neg (.v 50)))), (.a (.v 51)), (.e (.o2 .nadd (.v 52) (.n 0))), (.e (.o2 .nadd (.v 53) (.n 0))), (.a (.v 55)), (.e (.o2 .nadd (.v 56) (.n 0))), (.e (.o2 .nadd (.v 57) (.n 0))), (.e (.o1 .neg (.o1 .neg (.v 33)))), (.e (.o1 .neg (.o1 .neg (.v 34)))), (.e (.o1 .neg (.o1 .neg (.v 35)))), (.e (.o1 .neg (.o1 .neg (.v 36)))), (.a (.v 37)), (.e (.o2 .nadd (.v 38) (.n 0))), (.e (.o2 .nadd (.v 39) (.n 0))), (.a (.v 41)), (.e (.o2 .nadd (.v 42) (.n 0))), (.e (.o2 .nadd (.v 43) (.n 0))), (.p [((.a 51), (.prop 54))]), (.p [((.a 55), (.prop 58))]), (.p [((.b (.v 6)), (.prop 59))]), (.p [((.a 37), (.prop 40))]), (.p [((.a 41), (.prop 44))])])))
           (.new
           (.call 18 [(.a (.ptr (.v 6) 0)), (.agg [(.int .i64 (.i 11)), (.str (.v 12)), (.str (.s [])), (.int .i64 (.i 0)), (.int .i64 (.i 0)), (.sl .nil (.n 0) (.n 0))])] [((.b (.v 6)), (.prop 45))] [.i, .i, .i, .i, .a, .n, .n, .p, .a, .n, .n, .p, .p] (.w (.agg [(.int .i64 (.v 48)), (.int .i64 (.v 49)), (.int .i64 (.v 50)), (.int .i64 (.v 51)), (.sl (.v 52) (.v 53) (.v 54)), (.sl (.v 56) (.v 57) (.v 58))])) [((.a 52), (.prop 55)), ((.a 56), (.prop 59)), ((.b (.v 6)), (.prop 60))]
           (.again 0 [(.n (.v 47)), (.n (.v 46)), (.e (.o1 .neg (.o1 .neg (.v 48)))), (.e (.o1 .neg (.o1 .neg (.v 49)))), (.e (.o1 .neg (.o1 .neg (.v 50)))), (.e (.o1 .neg (.o1 .neg (.v 51)))), (.a (.v 52)), (.e (.o2 .nadd (.v 53) (.n 0))), (.e (.o2 .nadd (.v 54) (.n 0))), (.a (.v 56)), (.e (.o2 .nadd (.v 57) (.n 0))), (.e (.o2 .nadd (.v 58) (.n 0))), (.e (.o1 .neg (.o1 .neg (.v 33)))), (.e (.o1 .neg (.o1 .neg (.v 34)))), (.e (.o1 .neg (.o1 .neg (.v 35)))), (.e (.o1 .neg (.o1 .neg (.v 36)))), (.a (.v 37)), (.e (.o2 .nadd (.v 38) (.n 0))), (.e (.o2 .nadd (.v 39) (.n 0))), (.a (.v 41)), (.e (.o2 .nadd (.v 42) (.n 0))), (.e (.o2 .nadd (.v 43) (.n 0))), (.p [((.a 52), (.prop 55))]), (.p [((.a 56), (.prop 59))]), (.p [((.b (.v 6)), (.prop 60))]), (.p [((.a 37), (.prop 40))]), (.p [((.a 41), (.prop 44))])]))))
          (.new
          (.call 18 [(.a (.ptr (.v 6) 0)), (.agg [(.int .i64 (.i 11)), (.str (.v 12)), (.str (.s [])), (.int .i64 (.i 0)), (.int .i64 (.i 0)), (.sl .nil (.n 0) (.n 0))])] [((.b (.v 6)), (.prop 45))] [.i, .i, .i, .i, .a, .n, .n, .p, .a, .n, .n, .p, .p] (.w (.agg [(.int .i64 (.v 48)), (.int .i64 (.v 49)), (.int .i64 (.v 50)), (.int .i64 (.v 51)), (.sl (.v 52) (.v 53) (.v 54)), (.sl (.v 56) (.v 57) (.v 58))])) [((.a 52), (.prop 55)), ((.a 56), (.prop 59)), ((.b (.v 6)), (.prop 60))]
          (.again 0 [(.n (.v 47)), (.n (.v 46)), (.e (.o1 .neg (.o1 .neg (.v 48)))), (.e (.o1 .neg (.o1 .neg (.v 49)))), (.e (.o1 .neg (.o1 .neg (.v 50)))), (.e (.o1 .neg (.o1 .neg (.v 51)))), (.a (.v 52)), (.e (.o2 .nadd (.v 53) (.n 0))), (.e (.o2 .nadd (.v 54) (.n 0))), (.a (.v 56)), (.e (.o2 .nadd (.v 57) (.n 0))), (.e (.o2 .nadd (.v 58) (.n 0))), (.e (.o1 .neg (.o1 .neg (.v 33)))), (.e (.o1 .neg (.o1 .neg (.v 34)))), (.e (.o1 .neg (.o1 .neg (.v 35)))), (.e (.o1 .neg (.o1 .neg (.v 36)))), (.a (.v 37)), (.e (.o2 .nadd (.v 38) (.n 0))), (.e (.o2 .nadd (.v 39) (.n 0))), (.a (.v 41)), (.e (.o2 .nadd (.v 42) (.n 0))), (.e (.o2 .nadd (.v 43) (.n 0))), (.p [((.a 52), (.prop 55))]), (.p [((.a 56), (.prop 59))]), (.p [((.b (.v 6)), (.prop 60))]), (.p [((.a 37), (.prop 40))]), (.p [((.a 41), (.prop 44))])]))))))))
       (.all
        (.all
         (.call 18 [(.a (.ptr (.v 6) 0)), (.agg [(.int .i64 (.i 10)), (.str (.v 12)), (.str (.s [])), (.int .i64 (.i 0)), (.int .i64 (.i 0)), (.sl .nil (.n 0) (.n 0))])] [((.b (.v 6)), (.prop 32))] [.i, .i, .i, .i, .a, .n, .n, .p, .a, .n, .n, .p, .p] (.w (.agg [(.int .i64 (.v 33)), (.int .i64 (.v 34)), (.int .i64 (.v 35)), (.int .i64 (.v 36)), (.sl (.v 37) (.v 38) (.v 39)), (.sl (.v 41) (.v 42) (.v 43))])) [((.a 37), (.prop 40)), ((.a 41), (.prop 44)), ((.b (.v 6)), (.prop 45))]
         (.all
          (.call 18 [(.a (.ptr (.v 6) 0)), (.agg [(.int .i64 (.i 11)), (.str (.v 12)), (.str (.s [])), (.int .i64 (.i 0)), (.int .i64 (.i 0)), (.sl .nil (.n 0) (.n 0))])] [((.b (.v 6)), (.prop 45))] [.i, .i, .i, .i, .a, .n, .n, .p, .a, .n, .n, .p, .p] (.w (.agg [(.int .i64 (.v 46)), (.int .i64 (.v 47)), (.int .i64 (.v 48)), (.int .i64 (.v 49)), (.sl (.v 50) (.v 51) (.v 52)), (.sl (.v 54) (.v 55) (.v 56))])) [((.a 50), (.prop 53)), ((.a 54), (.prop 57)), ((.b (.v 6)), (.prop 58))]
          (.all
           (.new
           (.new
           (.again 0 [(.n (.v 59)), (.n (.v 60)), (.e (.o1 .neg (.o1 .neg (.v 46)))), (.e (.o1 .neg (.o1 .neg (.v 47)))), (.e (.o1 .neg (.o1 .neg (.v 48)))), (.e (.o1 .neg (.o1 .neg (.v 49)))), (.a (.v 50)), (.e (.o2 .nadd (.v 51) (.n 0))), (.e (.o2 .nadd (.v 52) (.n 0))), (.a (.v 54)), (.e (.o2 .nadd (.v 55) (.n 0))), (.e (.o2 .nadd (.v 56) (.n 0))), (.e (.o1 .neg (.o1 .neg (.v 33)))), (.e (.o1 .neg (.o1 .neg (.v 34)))), (.e (.o1 .neg (.o1 .neg (.v 35)))), (.e (.o1 .neg (.o1 .neg (.v 36)))), (.a (.v 37)), (.e (.o2 .nadd (.v 38) (.n 0))), (.e (.o2 .nadd (.v 39) (.n 0))), (.a (.v 41)), (.e (.o2 .nadd (.v 42) (.n 0))), (.e (.o2 .nadd (.v 43) (.n 0))), (.p [((.a 50), (.prop 53))]), (.p [((.a 54), (.prop 57))]), (.p [((.b (.v 6)), (.prop 58))]), (.p [((.a 37), (.prop 40))]), (.p [((.a 41), (.prop 44))])])))
           (.new
           (.new
           (.again 0 [(.n (.v 60)), (.n (.v 59)), (.e (.o1 .neg (.o1 .neg (.v 46)))), (.e (.o1 .neg (.o1 .neg (.v 47)))), (.e (.o1 .neg (.o1 .neg (.v 48)))), (.e (.o1 .neg (.o1 .neg (.v 49)))), (.a (.v 50)), (.e (.o2 .nadd (.v 51) (.n 0))), (.e (.o2 .nadd (.v 52) (.n 0))), (.a (.v 54)), (.e (.o2 .nadd (.v 55) (.n 0))), (.e (.o2 .nadd (.v 56) (.n 0))), (.e (.o1 .neg (.o1 .neg (.v 33)))), (.e (.o1 .neg (.o1 .neg (.v 34)))), (.e (.o1 .neg (.o1 .neg (.v 35)))), (.e (.o1 .neg (.o1 .neg (.v 36)))), (.a (.v 37)), (.e (.o2 .nadd (.v 38) (.n 0))), (.e (.o2 .nadd (.v 39) (.n 0))), (.a (.v 41)), (.e (.o2 .nadd (.v 42) (.n 0))), (.e (.o2 .nadd (.v 43) (.n 0))), (.p [((.a 50), (.prop 53))]), (.p [((.a 54), (.prop 57))]), (.p [((.b (.v 6)), (.prop 58))]), (.p [((.a 37), (.prop 40))]), (.p [((.a 41), (.prop 44))])])))))
          (.all
           (.new
           (.all
            (.call 18 [(.a (.ptr (.v 6) 0)), (.agg [(.int .i64 (.i 11)), (.str (.v 12)), (.str (.s [])), (.int .i64 (.i 0)), (.int .i64 (.i 0)), (.sl .nil (.n 0) (.n 0))])] [((.b (.v 6)), (.prop 45))] [.i, .i, .i, .i, .a, .n, .n, .p, .a, .n, .n, .p, .p] (.w (.agg [(.int .i64 (.v 47)), (.int .i64 (.v 48)), (.int .i64 (.v 49)), (.int .i64 (.v 50)), (.sl (.v 51) (.v 52) (.v 53)), (.sl (.v 55) (.v 56) (.v 57))])) [((.a 51), (.prop 54)), ((.a 55), (.prop 58)), ((.b (.v 6)), (.prop 59))]
            (.new
            (.again 0 [(.n (.v 46)), (.n (.v 60)), (.e (.o1 .neg (.o1 .neg (.v 47)))), (.e (.o1 .neg (.o1 .neg (.v 48)))), (.e (.o1 .neg (.o1 .neg (.v 49)))), (.e (.o1 .neg (.o1 .neg (.v 50)))), (.a (.v 51)), (.e (.o2 .nadd (.v 52) (.n 0))), (.e (.o2 .nadd (.v 53) (.n 0))), (.a (.v 55)), (.e (.o2 .nadd (.v 56) (.n 0))), (.e (.o2 .nadd (.v 57) (.n 0))), (.e (.o1 .neg (.o1 .neg (.v 33)))), (.e (.o1 .neg (.o1 .neg (.v 34)))), (.e (.o1 .neg (.o1 .neg (.v 35)))), (.e (.o1 .neg (.o1 .neg (.v 36)))), (.a (.v 37)), (.e (.o2 .nadd (.v 38) (.n 0))), (.e (.o2 .nadd (.v 39) (.n 0))), (.a (.v 41)), (.e (.o2 .nadd (.v 42) (.n 0))), (.e (.o2 .nadd (.v 43) (.n 0))), (.p [((.a 51), (.prop 54))]), (.p [((.a 55), (.prop 58))]), (.p [((.b (.v 6)), (.prop 59))]), (.p [((.a 37), (.prop 40))]), (.p [((.a 41), (.prop 44))])])))
            (.new
            (.call 18 [(.a (.ptr (.v 6) 0)), (.agg [(.int .i64 (.i 11)), (.str (.v 12)), (.str (.s [])), (.int .i64 (.i 0)), (.int .i64 (.i 0)), (.sl .nil (.n 0) (.n 0))])] [((.b (.v 6)), (.prop 45))] [.i, .i, .i, .i, .a, .n, .n, .p, .a, .n, .n, .p, .p] (.w (.agg [(.int .i64 (.v 48)), (.int .i64 (.v 49)), (.int .i64 (.v 50)), (.int .i64 (.v 51)), (.sl (.v 52) (.v 53) (.v 54)), (.sl (.v 56) (.v 57) (.v 58))])) [((.a 52), (.prop 55)), ((.a 56), (.prop 59)), ((.b (.v 6)), (.prop 60))]
            (.again 0 [(.n (.v 46)), (.n (.v 47)), (.e (.o1 .neg (.o1 .neg (.v 48)))), (.e (.o1 .neg (.o1 .neg (.v 49)))), (.e (.o1 .neg (.o1 .neg (.v 50)))), (.e (.o1 .neg (.o1 .neg (.v 51)))), (.a (.v 52)), (.e (.o2 .nadd (.v 53) (.n 0))), (.e (.o2 .nadd (.v 54) (.n 0))), (.a (.v 56)), (.e (.o2 .nadd (.v 57) (.n 0))), (.e (.o2 .nadd (.v 58) (.n 0))), (.e (.o1 .neg (.o1 .neg (.v 33)))), (.e (.o1 .neg (.o1 .neg (.v 34)))), (.e (.o1 .neg (.o1 .neg (.v 35)))), (.e (.o1 .neg (.o1 .neg (.v 36)))), (.a (.v 37)), (.e (.o2 .nadd (.v 38) (.n 0))), (.e (.o2 .nadd (.v 39) (.n 0))), (.a (.v 41)), (.e (.o2 .nadd (.v 42) (.n 0))), (.e (.o2 .nadd (.v 43) (.n 0))), (.p [((.a 52), (.prop 55))]), (.p [((.a 56), (.prop 59))]), (.p [((.b (.v 6)), (.prop 60))]), (.p [((.a 37), (.prop 40))]), (.p [((.a 41), (.prop 44))])])))))
           (.new
           (.all
            (.call 18 [(.a (.ptr (.v 6) 0)), (.agg [(.int .i64 (.i 11)), (.str (.v 12)), (.str (.s [])), (.int .i64 (.i 0)), (.int .i64 (.i 0)), (.sl .nil (.n 0) (.n 0))])] [((.b (.v 6)), (.prop 45))] [.i, .i, .i, .i, .a, .n, .n, .p, .a, .n, .n, .p, .p] (.w (.agg [(.int .i64 (.v 47)), (.int .i64 (.v 48)), (.int .i64 (.v 49)), (.int .i64 (.v 50)), (.sl (.v 51) (.v 52) (.v 53)), (.sl (.v 55) (.v 56) (.v 57))])) [((.a 51), (.prop 54)), ((.a 55), (.prop 58)), ((.b (.v 6)), (.prop 59))]
            (.new
            (.again 0 [(.n (.v 60)), (.n (.v 46)), (.e (.o1 .neg (.o1 .neg (.v 47)))), (.e (.o1 .neg (.o1 .neg (.v 48)))), (.e (.o1 .neg (.o1 .neg (.v 49)))), (.e (.o1 .neg (.o1 .neg (.v 50)))), (.a (.v 51)), (.e (.o2 .nadd (.v 52) (.n 0))), (.e (.o2 .nadd (.v 53) (.n 0))), (.a (.v 55)), (.e (.o2 .nadd (.v 56) (.n 0))), (.e (.o2 .nadd (.v 57) (.n 0))), (.e (.o1 .neg (.o1 .neg (.v 33)))), (.e (.o1 .neg (.o1 .neg (.v 34)))), (.e (.o1 .neg (.o1 .neg (.v 35)))), (.e (.o1 .neg (.o1 .neg (.v 36)))), (.a (.v 37)), (.e (.o2 .nadd (.v 38) (.n 0))), (.e (.o2 .nadd (.v 39) (.n 0))), (.a (.v 41)), (.e (.o2 .nadd (.v 42) (.n 0))), (.e (.o2 .nadd (.v 43) (.n 0))), (.p [((.a 51), (.prop 54))]), (.p [((.a 55), (.prop 58))]), (.p [((.b (.v 6)), (.prop 59))]), (.p [((.a 37), (.prop 40))]), (.p [((.a 41), (.prop 44))])])))
            (.new
            (.call 18 [(.a (.ptr (.v 6) 0)), (.agg [(.int .i64 (.i 11)), (.str (.v 12)), (.str (.s [])), (.int .i64 (.i 0)), (.int .i64 (.i 0)), (.sl .nil (.n 0) (.n 0))])] [((.b (.v 6)), (.prop 45))] [.i, .i, .i, .i, .a, .n, .n, .p, .a, .n, .n, .p, .p] (.w (.agg [(.int .i64 (.v 48)), (.int .i64 (.v 49)), (.int .i64 (.v 50)), (.int .i64 (.v 51)), (.sl (.v 52) (.v 53) (.v 54)), (.sl (.v 56) (.v 57) (.v 58))])) [((.a 52), (.prop 55)), ((.a 56), (.prop 59)), ((.b (.v 6)), (.prop 60))]
            (.again 0 [(.n (.v 47)), (.n (.v 46)), (.e (.o1 .neg (.o1 .neg (.v 48)))), (.e (.o1 .neg (.o1 .neg (.v 49)))), (.e (.o1 .neg (.o1 .neg (.v 50)))), (.e (.o1 .neg (.o1 .neg (.v 51)))), (.a (.v 52)), (.e (.o2 .nadd (.v 53) (.n 0))), (.e (.o2 .nadd (.v 54) (.n 0))), (.a (.v 56)), (.e (.o2 .nadd (.v 57) (.n 0))), (.e (.o2 .nadd (.v 58) (.n 0))), (.e (.o1 .neg (.o1 .neg (.v 33)))), (.e (.o1 .neg (.o1 .neg (.v 34)))), (.e (.o1 .neg (.o1 .neg (.v 35)))), (.e (.o1 .neg (.o1 .neg (.v 36)))), (.a (.v 37)), (.e (.o2 .nadd (.v 38) (.n 0))), (.e (.o2 .nadd (.v 39) (.n 0))), (.a (.v 41)), (.e (.o2 .nadd (.v 42) (.n 0))), (.e (.o2 .nadd (.v 43) (.n 0))), (.p [((.a 52), (.prop 55))]), (.p [((.a 56), (.prop 59))]), (.p [((.b (.v 6)), (.prop 60))]), (.p [((.a 37), (.prop 40))]), (.p [((.a 41), (.prop 44))])]))))))))
         (.all
          (.new
          (.all
           (.call 18 [(.a (.ptr (.v 6) 0)), (.agg [(.int .i64 (.i 10)), (.str (.v 12)), (.str (.s [])), (.int .i64 (.i 0)), (.int .i64 (.i 0)), (.sl .nil (.n 0) (.n 0))])] [((.b (.v 6)), (.prop 32))] [.i, .i, .i, .i, .a, .n, .n, .p, .a, .n, .n, .p, .p] (.w (.agg [(.int .i64 (.v 34)), (.int .i64 (.v 35)), (.int .i64 (.v 36)), (.int .i64 (.v 37)), (.sl (.v 38) (.v 39) (.v 40)), (.sl (.v 42) (.v 43) (.v 44))])) [((.a 38), (.prop 41)), ((.a 42), (.prop 45)), ((.b (.v 6)), (.prop 46))]
           (.all
            (.call 18 [(.a (.ptr (.v 6) 0)), (.agg [(.int .i64 (.i 11)), (.str (.v 12)), (.str (.s [])), (.int .i64 (.i 0)), (.int .i64 (.i 0)), (.sl .nil (.n 0) (.n 0))])] [((.b (.v 6)), (.prop 46))] [.i, .i, .i, .i, .a, .n, .n, .p, .a, .n, .n, .p, .p] (.w (.agg [(.int .i64 (.v 47)), (.int .i64 (.v 48)), (.int .i64 (.v 49)), (.int .i64 (.v 50)), (.sl (.v 51) (.v 52) (.v 53)), (.sl (.v 55) (.v 56) (.v 57))])) [((.a 51), (.prop 54)), ((.a 55), (.prop 58)), ((.b (.v 6)), (.prop 59))]
            (.new
            (.again 0 [(.n (.v 33)), (.n (.v 60)), (.e (.o1 .neg (.o1 .neg (.v 47)))), (.e (.o1 .neg (.o1 .neg (.v 48)))), (.e (.o1 .neg (.o1 .neg (.v 49)))), (.e (.o1 .neg (.o1 .neg (.v 50)))), (.a (.v 51)), (.e (.o2 .nadd (.v 52) (.n 0))), (.e (.o2 .nadd (.v 53) (.n 0))), (.a (.v 55)), (.e (.o2 .nadd (.v 56) (.n 0))), (.e (.o2 .nadd (.v 57) (.n 0))), (.e (.o1 .neg (.o1 .neg (.v 34)))), (.e (.o1 .neg (.o1 .neg (.v 35)))), (.e (.o1 .neg (.o1 .neg (.v 36)))), (.e (.o1 .neg (.o1 .neg (.v 37)))), (.a (.v 38)), (.e (.o2 .nadd (.v 39) (.n 0))), (.e (.o2 .nadd (.v 40) (.n 0))), (.a (.v 42)), (.e (.o2 .nadd (.v 43) (.n 0))), (.e (.o2 .nadd (.v 44) (.n 0))), (.p [((.a 51), (.prop 54))]), (.p [((.a 55), (.prop 58))]), (.p [((.b (.v 6)), (.prop 59))]), (.p [((.a 38), (.prop 41))]), (.p [((.a 42), (.prop 45))])])))
            (.new
            (.call 18 [(.a (.ptr (.v 6) 0)), (.agg [(.int .i64 (.i 11)), (.str (.v 12)), (.str (.s [])), (.int .i64 (.i 0)), (.int .i64 (.i 0)), (.sl .nil (.n 0) (.n 0))])] [((.b (.v 6)), (.prop 46))] [.i, .i, .i, .i, .a, .n, .n, .p, .a, .n, .n, .p, .p] (.w (.agg [(.int .i64 (.v 48)), (.int .i64 (.v 49)), (.int .i64 (.v 50)), (.int .i64 (.v 51)), (.sl (.v 52) (.v 53) (.v 54)), (.sl (.v 56) (.v 57) (.v 58))])) [((.a 52), (.prop 55)), ((.a 56), (.prop 59)), ((.b (.v 6)), (.prop 60))]
            (.again 0 [(.n (.v 33)), (.n (.v 47)), (.e (.o1 .neg (.o1 .neg (.v 48)))), (.e (.o1 .neg (.o1 .neg (.v 49)))), (.e (.o1 .neg (.o1 .neg (.v 50)))), (.e (.o1 .neg (.o1 .neg (.v 51)))), (.a (.v 52)), (.e (.o2 .nadd (.v 53) (.n 0))), (.e (.o2 .nadd (.v 54) (.n 0))), (.a (.v 56)), (.e (.o2 .nadd (.v 57) (.n 0))), (.e (.o2 .nadd (.v 58) (.n 0))), (.e (.o1 .neg (.o1 .neg (.v 34)))), (.e (.o1 .neg (.o1 .neg (.v 35)))), (.e (.o1 .neg (.o1 .neg (.v 36)))), (.e (.o1 .neg (.o1 .neg (.v 37)))), (.a (.v 38)), (.e (.o2 .nadd (.v 39) (.n 0))), (.e (.o2 .nadd (.v 40) (.n 0))), (.a (.v 42)), (.e (.o2 .nadd (.v 43) (.n 0))), (.e (.o2 .nadd (.v 44) (.n 0))), (.p [((.a 52), (.prop 55))]), (.p [((.a 56), (.prop 59))]), (.p [((.b (.v 6)), (.prop 60))]), (.p [((.a 38), (.prop 41))]), (.p [((.a 42), (.prop 45))])])))))
           (.new
           (.call 18 [(.a (.ptr (.v 6) 0)), (.agg [(.int .i64 (.i 10)), (.str (.v 12)), (.str (.s [])), (.int .i64 (.i 0)), (.int .i64 (.i 0)), (.sl .nil (.n 0) (.n 0))])] [((.b (.v 6)), (.prop 32))] [.i, .i, .i, .i, .a, .n, .n, .p, .a, .n, .n, .p, .p] (.w (.agg [(.int .i64 (.v 35)), (.int .i64 (.v 36)), (.int .i64 (.v 37)), (.int .i64 (.v 38)), (.sl (.v 39) (.v 40) (.v 41)), (.sl (.v 43) (.v 44) (.v 45))])) [((.a 39), (.prop 42)), ((.a 43), (.prop 46)), ((.b (.v 6)), (.prop 47))]
           (.call 18 [(.a (.ptr (.v 6) 0)), (.agg [(.int .i64 (.i 11)), (.str (.v 12)), (.str (.s [])), (.int .i64 (.i 0)), (.int .i64 (.i 0)), (.sl .nil (.n 0) (.n 0))])] [((.b (.v 6)), (.prop 47))] [.i, .i, .i, .i, .a, .n, .n, .p, .a, .n, .n, .p, .p] (.w (.agg [(.int .i64 (.v 48)), (.int .i64 (.v 49)), (.int .i64 (.v 50)), (.int .i64 (.v 51)), (.sl (.v 52) (.v 53) (.v 54)), (.sl (.v 56) (.v 57) (.v 58))])) [((.a 52), (.prop 55)), ((.a 56), (.prop 59)), ((.b (.v 6)), (.prop 60))]
           (.again 0 [(.n (.v 33)), (.n (.v 34)), (.e (.o1 .neg (.o1 .neg (.v 48)))), (.e (.o1 .neg (.o1 .neg (.v 49)))), (.e (.o1 .neg (.o1 .neg (.v 50)))), (.e (.o1 .neg (.o1 .neg (.v 51)))), (.a (.v 52)), (.e (.o2 .nadd (.v 53) (.n 0))), (.e (.o2 .nadd (.v 54) (.n 0))), (.a (.v 56)), (.e (.o2 .nadd (.v 57) (.n 0))), (.e (.o2 .nadd (.v 58) (.n 0))), (.e (.o1 .neg (.o1 .neg (.v 35)))), (.e (.o1 .neg (.o1 .neg (.v 36)))), (.e (.o1 .neg (.o1 .neg (.v 37)))), (.e (.o1 .neg (.o1 .neg (.v 38)))), (.a (.v 39)), (.e (.o2 .nadd (.v 40) (.n 0))), (.e (.o2 .nadd (.v 41) (.n 0))), (.a (.v 43)), (.e (.o2 .nadd (.v 44) (.n 0))), (.e (.o2 .nadd (.v 45) (.n 0))), (.p [((.a 52), (.prop 55))]), (.p [((.a 56), (.prop 59))]), (.p [((.b (.v 6)), (.prop 60))]), (.p [((.a 39), (.prop 42))]), (.p [((.a 43), (.prop 46))])]))))))
          (.new
          (.all
           (.call 18 [(.a (.ptr (.v 6) 0)), (.agg [(.int .i64 (.i 10)), (.str (.v 12)), (.str (.s [])), (.int .i64 (.i 0)), (.int .i64 (.i 0)), (.sl .nil (.n 0) (.n 0))])] [((.b (.v 6)), (.prop 32))] [.i, .i, .i, .i, .a, .n, .n, .p, .a, .n, .n, .p, .p] (.w (.agg [(.int .i64 (.v 34)), (.int .i64 (.v 35)), (.int .i64 (.v 36)), (.int .i64 (.v 37)), (.sl (.v 38) (.v 39) (.v 40)), (.sl (.v 42) (.v 43) (.v 44))])) [((.a 38), (.prop 41)), ((.a 42), (.prop 45)), ((.b (.v 6)), (.prop 46))]
           (.all
            (.call 18 [(.a (.ptr (.v 6) 0)), (.agg [(.int .i64 (.i 11)), (.str (.v 12)), (.str (.s [])), (.int .i64 (.i 0)), (.int .i64 (.i 0)), (.sl .nil (.n 0) (.n 0))])] [((.b (.v 6)), (.prop 46))] [.i, .i, .i, .i, .a, .n, .n, .p, .a, .n, .n, .p, .p] (.w (.agg [(.int .i64 (.v 47)), (.int .i64 (.v 48)), (.int .i64 (.v 49)), (.int .i64 (.v 50)), (.sl (.v 51) (.v 52) (.v 53)), (.sl (.v 55) (.v 56) (.v 57))])) [((.a 51), (.prop 54)), ((.a 55), (.prop 58)), ((.b (.v 6)), (.prop 59))]
            (.new
            (.again 0 [(.n (.v 60)), (.n (.v 33)), (.e (.o1 .neg (.o1 .neg (.v 47)))), (.e (.o1 .neg (.o1 .neg (.v 48)))), (.e (.o1 .neg (.o1 .neg (.v 49)))), (.e (.o1 .neg (.o1 .neg (.v 50)))), (.a (.v 51)), (.e (.o2 .nadd (.v 52) (.n 0))), (.e (.o2 .nadd (.v 53) (.n 0))), (.a (.v 55)), (.e (.o2 .nadd (.v 56) (.n 0))), (.e (.o2 .nadd (.v 57) (.n 0))), (.e (.o1 .neg (.o1 .neg (.v 34)))), (.e (.o1 .neg (.o1 .neg (.v 35)))), (.e (.o1 .neg (.o1 .neg (.v 36)))), (.e (.o1 .neg (.o1 .neg (.v 37)))), (.a (.v 38)), (.e (.o2 .nadd (.v 39) (.n 0))), (.e (.o2 .nadd (.v 40) (.n 0))), (.a (.v 42)), (.e (.o2 .nadd (.v 43) (.n 0))), (.e (.o2 .nadd (.v 44) (.n 0))), (.p [((.a 51), (.prop 54))]), (.p [((.a 55), (.prop 58))]), (.p [((.b (.v 6)), (.prop 59))]), (.p [((.a 38), (.prop 41))]), (.p [((.a 42), (.prop 45))])])))
            (.new
            (.call 18 [(.a (.ptr (.v 6) 0)), (.agg [(.int .i64 (.i 11)), (.str (.v 12)), (.str (.s [])), (.int .i64 (.i 0)), (.int .i64 (.i 0)), (.sl .nil (.n 0) (.n 0))])] [((.b (.v 6)), (.prop 46))] [.i, .i, .i, .i, .a, .n, .n, .p, .a, .n, .n, .p, .p] (.w (.agg [(.int .i64 (.v 48)), (.int .i64 (.v 49)), (.int .i64 (.v 50)), (.int .i64 (.v 51)), (.sl (.v 52) (.v 53) (.v 54)), (.sl (.v 56) (.v 57) (.v 58))])) [((.a 52), (.prop 55)), ((.a 56), (.prop 59)), ((.b (.v 6)), (.prop 60))]
            (.again 0 [(.n (.v 47)), (.n (.v 33)), (.e (.o1 .neg (.o1 .neg (.v 48)))), (.e (.o1 .neg (.o1 .neg (.v 49)))), (.e (.o1 .neg (.o1 .neg (.v 50)))), (.e (.o1 .neg (.o1 .neg (.v 51)))), (.a (.v 52)), (.e (.o2 .nadd (.v 53) (.n 0))), (.e (.o2 .nadd (.v 54) (.n 0))), (.a (.v 56)), (.e (.o2 .nadd (.v 57) (.n 0))), (.e (.o2 .nadd (.v 58) (.n 0))), (.e (.o1 .neg (.o1 .neg (.v 34)))), (.e (.o1 .neg (.o1 .neg (.v 35)))), (.e (.o1 .neg (.o1 .neg (.v 36)))), (.e (.o1 .neg (.o1 .neg (.v 37)))), (.a (.v 38)), (.e (.o2 .nadd (.v 39) (.n 0))), (.e (.o2 .nadd (.v 40) (.n 0))), (.a (.v 42)), (.e (.o2 .nadd (.v 43) (.n 0))), (.e (.o2 .nadd (.v 44) (.n 0))), (.p [((.a 52), (.prop 55))]), (.p [((.a 56), (.prop 59))]), (.p [((.b (.v 6)), (.prop 60))]), (.p [((.a 38), (.prop 41))]), (.p [((.a 42), (.prop 45))])])))))
           (.new
           (.call 18 [(.a (.ptr (.v 6) 0)), (.agg [(.int .i64 (.i 10)), (.str (.v 12)), (.str (.s [])), (.int .i64 (.i 0)), (.int .i64 (.i 0)), (.sl .nil (.n 0) (.n 0))])] [((.b (.v 6)), (.prop 32))] [.i, .i, .i, .i, .a, .n, .n, .p, .a, .n, .n, .p, .p] (.w (.agg [(.int .i64 (.v 35)), (.int .i64 (.v 36)), (.int .i64 (.v 37)), (.int .i64 (.v 38)), (.sl (.v 39) (.v 40) (.v 41)), (.sl (.v 43) (.v 44) (.v 45))])) [((.a 39), (.prop 42)), ((.a 43), (.prop 46)), ((.b (.v 6)), (.prop 47))]
           (.call 18 [(.a (.ptr (.v 6) 0)), (.agg [(.int .i64 (.i 11)), (.str (.v 12)), (.str (.s [])), (.int .i64 (.i 0)), (.int .i64 (.i 0)), (.sl .nil (.n 0) (.n 0))])] [((.b (.v 6)), (.prop 47))] [.i, .i, .i, .i, .a, .n, .n, .p, .a, .n, .n, .p, .p] (.w (.agg [(.int .i64 (.v 48)), (.int .i64 (.v 49)), (.int .i64 (.v 50)), (.int .i64 (.v 51)), (.sl (.v 52) (.v 53) (.v 54)), (.sl (.v 56) (.v 57) (.v 58))])) [((.a 52), (.prop 55)), ((.a 56), (.prop 59)), ((.b (.v 6)), (.prop 60))]
           (.again 0 [(.n (.v 34)), (.n (.v 33)), (.e (.o1 .neg (.o1 .neg (.v 48)))), (.e (.o1 .neg (.o1 .neg (.v 49)))), (.e (.o1 .neg (.o1 .neg (.v 50)))), (.e (.o1 .neg (.o1 .neg (.v 51)))), (.a (.v 52)), (.e (.o2 .nadd (.v 53) (.n 0))), (.e (.o2 .nadd (.v 54) (.n 0))), (.a (.v 56)), (.e (.o2 .nadd (.v 57) (.n 0))), (.e (.o2 .nadd (.v 58) (.n 0))), (.e (.o1 .neg (.o1 .neg (.v 35)))), (.e (.o1 .neg (.o1 .neg (.v 36)))), (.e (.o1 .neg (.o1 .neg (.v 37)))), (.e (.o1 .neg (.o1 .neg (.v 38)))), (.a (.v 39)), (.e (.o2 .nadd (.v 40) (.n 0))), (.e (.o2 .nadd (.v 41) (.n 0))), (.a (.v 43)), (.e (.o2 .nadd (.v 44) (.n 0))), (.e (.o2 .nadd (.v 45) (.n 0))), (.p [((.a 52), (.prop 55))]), (.p [((.a 56), (.prop 59))]), (.p [((.b (.v 6)), (.prop 60))]), (.p [((.a 39), (.prop 42))]), (.p [((.a 43), (.prop 46))])]))))))))
        (.all
         (.new
         (.all
          (.call 18 [(.a (.ptr (.v 6) 0)), (.agg [(.int .i64 (.i 10)), (.str (.v 12)), (.str (.s [])), (.int .i64 (.i 0)), (.int .i64 (.i 0)), (.sl .nil (.n 0) (.n 0))])] [((.b (.v 6)), (.prop 32))] [.i, .i, .i, .i, .a, .n, .n, .p, .a, .n, .n, .p, .p] (.w (.agg [(.int .i64 (.v 34)), (.int .i64 (.v 35)), (.int .i64 (.v 36)), (.int .i64 (.v 37)), (.sl (.v 38) (.v 39) (.v 40)), (.sl (.v 42) (.v 43) (.v 44))])) [((.a 38), (.prop 41)), ((.a 42), (.prop 45)), ((.b (.v 6)), (.prop 46))]
          (.all
           (.all
            (.call 18 [(.a (.ptr (.v 6) 0)), (.agg [(.int .i64 (.i 11)), (.str (.v 12)), (.str (.s [])), (.int .i64 (.i 0)), (.int .i64 (.i 0)), (.sl .nil (.n 0) (.n 0))])] [((.b (.v 6)), (.prop 46))] [.i, .i, .i, .i, .a, .n, .n, .p, .a, .n, .n, .p, .p] (.w (.agg [(.int .i64 (.v 47)), (.int .i64 (.v 48)), (.int .i64 (.v 49)), (.int .i64 (.v 50)), (.sl (.v 51) (.v 52) (.v 53)), (.sl (.v 55) (.v 56) (.v 57))])) [((.a 51), (.prop 54)), ((.a 55), (.prop 58)), ((.b (.v 6)), (.prop 59))]
            (.new
            (.again 0 [(.n (.v 33)), (.n (.v 60)), (.e (.o1 .neg (.o1 .neg (.v 47)))), (.e (.o1 .neg (.o1 .neg (.v 48)))), (.e (.o1 .neg (.o1 .neg (.v 49)))), (.e (.o1 .neg (.o1 .neg (.v 50)))), (.a (.v 51)), (.e (.o2 .nadd (.v 52) (.n 0))), (.e (.o2 .nadd (.v 53) (.n 0))), (.a (.v 55)), (.e (.o2 .nadd (.v 56) (.n 0))), (.e (.o2 .nadd (.v 57) (.n 0))), (.e (.o1 .neg (.o1 .neg (.v 34)))), (.e (.o1 .neg (.o1 .neg (.v 35)))), (.e (.o1 .neg (.o1 .neg (.v 36)))), (.e (.o1 .neg (.o1 .neg (.v 37)))), (.a (.v 38)), (.e (.o2 .nadd (.v 39) (.n 0))), (.e (.o2 .nadd (.v 40) (.n 0))), (.a (.v 42)), (.e (.o2 .nadd (.v 43) (.n 0))), (.e (.o2 .nadd (.v 44) (.n 0))), (.p [((.a 51), (.prop 54))]), (.p [((.a 55), (.prop 58))]), (.p [((.b (.v 6)), (.prop 59))]), (.p [((.a 38), (.prop 41))]), (.p [((.a 42), (.prop 45))])])))
            (.new
            (.call 18 [(.a (.ptr (.v 6) 0)), (.agg [(.int .i64 (.i 11)), (.str (.v 12)), (.str (.s [])), (.int .i64 (.i 0)), (.int .i64 (.i 0)), (.sl .nil (.n 0) (.n 0))])] [((.b (.v 6)), (.prop 46))] [.i, .i, .i, .i, .a, .n, .n, .p, .a, .n, .n, .p, .p] (.w (.agg [(.int .i64 (.v 48)), (.int .i64 (.v 49)), (.int .i64 (.v 50)), (.int .i64 (.v 51)), (.sl (.v 52) (.v 53) (.v 54)), (.sl (.v 56) (.v 57) (.v 58))])) [((.a 52), (.prop 55)), ((.a 56), (.prop 59)), ((.b (.v 6)), (.prop 60))]
            (.again 0 [(.n (.v 33)), (.n (.v 47)), (.e (.o1 .neg (.o1 .neg (.v 48)))), (.e (.o1 .neg (.o1 .neg (.v 49)))), (.e (.o1 .neg (.o1 .neg (.v 50)))), (.e (.o1 .neg (.o1 .neg (.v 51)))), (.a (.v 52)), (.e (.o2 .nadd (.v 53) (.n 0))), (.e (.o2 .nadd (.v 54) (.n 0))), (.a (.v 56)), (.e (.o2 .nadd (.v 57) (.n 0))), (.e (.o2 .nadd (.v 58) (.n 0))), (.e (.o1 .neg (.o1 .neg (.v 34)))), (.e (.o1 .neg (.o1 .neg (.v 35)))), (.e (.o1 .neg (.o1 .neg (.v 36)))), (.e (.o1 .neg (.o1 .neg (.v 37)))), (.a (.v 38)), (.e (.o2 .nadd (.v 39) (.n 0))), (.e (.o2 .nadd (.v 40) (.n 0))), (.a (.v 42)), (.e (.o2 .nadd (.v 43) (.n 0))), (.e (.o2 .nadd (.v 44) (.n 0))), (.p [((.a 52), (.prop 55))]), (.p [((.a 56), (.prop 59))]), (.p [((.b (.v 6)), (.prop 60))]), (.p [((.a 38), (.prop 41))]), (.p [((.a 42), (.prop 45))])]))))
           (.new
           (.call 18 [(.a (.ptr (.v 6) 0)), (.agg [(.int .i64 (.i 11)), (.str (.v 12)), (.str (.s [])), (.int .i64 (.i 0)), (.int .i64 (.i 0)), (.sl .nil (.n 0) (.n 0))])] [((.b (.v 6)), (.prop 46))] [.i, .i, .i, .i, .a, .n, .n, .p, .a, .n, .n, .p, .p] (.w (.agg [(.int .i64 (.v 48)), (.int .i64 (.v 49)), (.int .i64 (.v 50)), (.int .i64 (.v 51)), (.sl (.v 52) (.v 53) (.v 54)), (.sl (.v 56) (.v 57) (.v 58))])) [((.a 52), (.prop 55)), ((.a 56), (.prop 59)), ((.b (.v 6)), (.prop 60))]
           (.again 0 [(.n (.v 33)), (.n (.v 47)), (.e (.o1 .neg (.o1 .neg (.v 48)))), (.e (.o1 .neg (.o1 .neg (.v 49)))), (.e (.o1 .neg (.o1 .neg (.v 50)))), (.e (.o1 .neg (.o1 .neg (.v 51)))), (.a (.v 52)), (.e (.o2 .nadd (.v 53) (.n 0))), (.e (.o2 .nadd (.v 54) (.n 0))), (.a (.v 56)), (.e (.o2 .nadd (.v 57) (.n 0))), (.e (.o2 .nadd (.v 58) (.n 0))), (.e (.o1 .neg (.o1 .neg (.v 34)))), (.e (.o1 .neg (.o1 .neg (.v 35)))), (.e (.o1 .neg (.o1 .neg (.v 36)))), (.e (.o1 .neg (.o1 .neg (.v 37)))), (.a (.v 38)), (.e (.o2 .nadd (.v 39) (.n 0))), (.e (.o2 .nadd (.v 40) (.n 0))), (.a (.v 42)), (.e (.o2 .nadd (.v 43) (.n 0))), (.e (.o2 .nadd (.v 44) (.n 0))), (.p [((.a 52), (.prop 55))]), (.p [((.a 56), (.prop 59))]), (.p [((.b (.v 6)), (.prop 60))]), (.p [((.a 38), (.prop 41))]), (.p [((.a 42), (.prop 45))])])))))
          (.all
           (.all
            (.call 18 [(.a (.ptr (.v 6) 0)), (.agg [(.int .i64 (.i 10)), (.str (.v 12)), (.str (.s [])), (.int .i64 (.i 0)), (.int .i64 (.i 0)), (.sl .nil (.n 0) (.n 0))])] [((.b (.v 6)), (.prop 32))] [.i, .i, .i, .i, .a, .n, .n, .p, .a, .n, .n, .p, .p] (.w (.agg [(.int .i64 (.v 34)), (.int .i64 (.v 35)), (.int .i64 (.v 36)), (.int .i64 (.v 37)), (.sl (.v 38) (.v 39) (.v 40)), (.sl (.v 42) (.v 43) (.v 44))])) [((.a 38), (.prop 41)), ((.a 42), (.prop 45)), ((.b (.v 6)), (.prop 46))]
            (.all
             (.call 18 [(.a (.ptr (.v 6) 0)), (.agg [(.int .i64 (.i 11)), (.str (.v 12)), (.str (.s [])), (.int .i64 (.i 0)), (.int .i64 (.i 0)), (.sl .nil (.n 0) (.n 0))])] [((.b (.v 6)), (.prop 46))] [.i, .i, .i, .i, .a, .n, .n, .p, .a, .n, .n, .p, .p] (.w (.agg [(.int .i64 (.v 47)), (.int .i64 (.v 48)), (.int .i64 (.v 49)), (.int .i64 (.v 50)), (.sl (.v 51) (.v 52) (.v 53)), (.sl (.v 55) (.v 56) (.v 57))])) [((.a 51), (.prop 54)), ((.a 55), (.prop 58)), ((.b (.v 6)), (.prop 59))]
             (.new
             (.again 0 [(.n (.v 33)), (.n (.v 60)), (.e (.o1 .neg (.o1 .neg (.v 47)))), (.e (.o1 .neg (.o1 .neg (.v 48)))), (.e (.o1 .neg (.o1 .neg (.v 49)))), (.e (.o1 .neg (.o1 .neg (.v 50)))), (.a (.v 51)), (.e (.o2 .nadd (.v 52) (.n 0))), (.e (.o2 .nadd (.v 53) (.n 0))), (.a (.v 55)), (.e (.o2 .nadd (.v 56) (.n 0))), (.e (.o2 .nadd (.v 57) (.n 0))), (.e (.o1 .neg (.o1 .neg (.v 34)))), (.e (.o1 .neg (.o1 .neg (.v 35)))), (.e (.o1 .neg (.o1 .neg (.v 36)))), (.e (.o1 .neg (.o1 .neg (.v 37)))), (.a (.v 38)), (.e (.o2 .nadd (.v 39) (.n 0))), (.e (.o2 .nadd (.v 40) (.n 0))), (.a (.v 42)), (.e (.o2 .nadd (.v 43) (.n 0))), (.e (.o2 .nadd (.v 44) (.n 0))), (.p [((.a 51), (.prop 54))]), (.p [((.a 55), (.prop 58))]), (.p [((.b (.v 6)), (.prop 59))]), (.p [((.a 38), (.prop 41))]), (.p [((.a 42), (.prop 45))])])))
             (.new
             (.call 18 [(.a (.ptr (.v 6) 0)), (.agg [(.int .i64 (.i 11)), (.str (.v 12)), (.str (.s [])), (.int .i64 (.i 0)), (.int .i64 (.i 0)), (.sl .nil (.n 0) (.n 0))])] [((.b (.v 6)), (.prop 46))] [.i, .i, .i, .i, .a, .n, .n, .p, .a, .n, .n, .p, .p] (.w (.agg [(.int .i64 (.v 48)), (.int .i64 (.v 49)), (.int .i64 (.v 50)), (.int .i64 (.v 51)), (.sl (.v 52) (.v 53) (.v 54)), (.sl (.v 56) (.v 57) (.v 58))])) [((.a 52), (.prop 55)), ((.a 56), (.prop 59)), ((.b (.v 6)), (.prop 60))]
             (.again 0 [(.n (.v 33)), (.n (.v 47)), (.e (.o1 .neg (.o1 .neg (.v 48)))), (.e (.o1 .neg (.o1 .neg (.v 49)))), (.e (.o1 .neg (.o1 .neg (.v 50)))), (.e (.o1 .neg (.o1 .neg (.v 51)))), (.a (.v 52)), (.e (.o2 .nadd (.v 53) (.n 0))), (.e (.o2 .nadd (.v 54) (.n 0))), (.a (.v 56)), (.e (.o2 .nadd (.v 57) (.n 0))), (.e (.o2 .nadd (.v 58) (.n 0))), (.e (.o1 .neg (.o1 .neg (.v 34)))), (.e (.o1 .neg (.o1 .neg (.v 35)))), (.e (.o1 .neg (.o1 .neg (.v 36)))), (.e (.o1 .neg (.o1 .neg (.v 37)))), (.a (.v 38)), (.e (.o2 .nadd (.v 39) (.n 0))), (.e (.o2 .nadd (.v 40) (.n 0))), (.a (.v 42)), (.e (.o2 .nadd (.v 43) (.n 0))), (.e (.o2 .nadd (.v 44) (.n 0))), (.p [((.a 52), (.prop 55))]), (.p [((.a 56), (.prop 59))]), (.p [((.b (.v 6)), (.prop 60))]), (.p [((.a 38), (.prop 41))]), (.p [((.a 42), (.prop 45))])])))))
            (.new
            (.call 18 [(.a (.ptr (.v 6) 0)), (.agg [(.int .i64 (.i 10)), (.str (.v 12)), (.str (.s [])), (.int .i64 (.i 0)), (.int .i64 (.i 0)), (.sl .nil (.n 0) (.n 0))])] [((.b (.v 6)), (.prop 32))] [.i, .i, .i, .i, .a, .n, .n, .p, .a, .n, .n, .p, .p] (.w (.agg [(.int .i64 (.v 35)), (.int .i64 (.v 36)), (.int .i64 (.v 37)), (.int .i64 (.v 38)), (.sl (.v 39) (.v 40) (.v 41)), (.sl (.v 43) (.v 44) (.v 45))])) [((.a 39), (.prop 42)), ((.a 43), (.prop 46)), ((.b (.v 6)), (.prop 47))]
            (.call 18 [(.a (.ptr (.v 6) 0)), (.agg [(.int .i64 (.i 11)), (.str (.v 12)), (.str (.s [])), (.int .i64 (.i 0)), (.int .i64 (.i 0)), (.sl .nil (.n 0) (.n 0))])] [((.b (.v 6)), (.prop 47))] [.i, .i, .i, .i, .a, .n, .n, .p, .a, .n, .n, .p, .p] (.w (.agg [(.int .i64 (.v 48)), (.int .i64 (.v 49)), (.int .i64 (.v 50)), (.int .i64 (.v 51)), (.sl (.v 52) (.v 53) (.v 54)), (.sl (.v 56) (.v 57) (.v 58))])) [((.a 52), (.prop 55)), ((.a 56), (.prop 59)), ((.b (.v 6)), (.prop 60))]
            (.again 0 [(.n (.v 33)), (.n (.v 34)), (.e (.o1 .neg (.o1 .neg (.v 48)))), (.e (.o1 .neg (.o1 .neg (.v 49)))), (.e (.o1 .neg (.o1 .neg (.v 50)))), (.e (.o1 .neg (.o1 .neg (.v 51)))), (.a (.v 52)), (.e (.o2 .nadd (.v 53) (.n 0))), (.e (.o2 .nadd (.v 54) (.n 0))), (.a (.v 56)), (.e (.o2 .nadd (.v 57) (.n 0))), (.e (.o2 .nadd (.v 58) (.n 0))), (.e (.o1 .neg (.o1 .neg (.v 35)))), (.e (.o1 .neg (.o1 .neg (.v 36)))), (.e (.o1 .neg (.o1 .neg (.v 37)))), (.e (.o1 .neg (.o1 .neg (.v 38)))), (.a (.v 39)), (.e (.o2 .nadd (.v 40) (.n 0))), (.e (.o2 .nadd (.v 41) (.n 0))), (.a (.v 43)), (.e (.o2 .nadd (.v 44) (.n 0))), (.e (.o2 .nadd (.v 45) (.n 0))), (.p [((.a 52), (.prop 55))]), (.p [((.a 56), (.prop 59))]), (.p [((.b (.v 6)), (.prop 60))]), (.p [((.a 39), (.prop 42))]), (.p [((.a 43), (.prop 46))])])))))
           (.new
           (.all
            (.call 18 [(.a (.ptr (.v 6) 0)), (.agg [(.int .i64 (.i 10)), (.str (.v 12)), (.str (.s [])), (.int .i64 (.i 0)), (.int .i64 (.i 0)), (.sl .nil (.n 0) (.n 0))])] [((.b (.v 6)), (.prop 32))] [.i, .i, .i, .i, .a, .n, .n, .p, .a, .n, .n, .p, .p] (.w (.agg [(.int .i64 (.v 35)), (.int .i64 (.v 36)), (.int .i64 (.v 37)), (.int .i64 (.v 38)), (.sl (.v 39) (.v 40) (.v 41)), (.sl (.v 43) (.v 44) (.v 45))])) [((.a 39), (.prop 42)), ((.a 43), (.prop 46)), ((.b (.v 6)), (.prop 47))]
            (.call 18 [(.a (.ptr (.v 6) 0)), (.agg [(.int .i64 (.i 11)), (.str (.v 12)), (.str (.s [])), (.int .i64 (.i 0)), (.int .i64 (.i 0)), (.sl .nil (.n 0) (.n 0))])] [((.b (.v 6)), (.prop 47))] [.i, .i, .i, .i, .a, .n, .n, .p, .a, .n, .n, .p, .p] (.w (.agg [(.int .i64 (.v 48)), (.int .i64 (.v 49)), (.int .i64 (.v 50)), (.int .i64 (.v 51)), (.sl (.v 52) (.v 53) (.v 54)), (.sl (.v 56) (.v 57) (.v 58))])) [((.a 52), (.prop 55)), ((.a 56), (.prop 59)), ((.b (.v 6)), (.prop 60))]
            (.again 0 [(.n (.v 33)), (.n (.v 34)), (.e (.o1 .neg (.o1 .neg (.v 48)))), (.e (.o1 .neg (.o1 .neg (.v 49)))), (.e (.o1 .neg (.o1 .neg (.v 50)))), (.e (.o1 .neg (.o1 .neg (.v 51)))), (.a (.v 52)), (.e (.o2 .nadd (.v 53) (.n 0))), (.e (.o2 .nadd (.v 54) (.n 0))), (.a (.v 56)), (.e (.o2 .nadd (.v 57) (.n 0))), (.e (.o2 .nadd (.v 58) (.n 0))), (.e (.o1 .neg (.o1 .neg (.v 35)))), (.e (.o1 .neg (.o1 .neg (.v 36)))), (.e (.o1 .neg (.o1 .neg (.v 37)))), (.e (.o1 .neg (.o1 .neg (.v 38)))), (.a (.v 39)), (.e (.o2 .nadd (.v 40) (.n 0))), (.e (.o2 .nadd (.v 41) (.n 0))), (.a (.v 43)), (.e (.o2 .nadd (.v 44) (.n 0))), (.e (.o2 .nadd (.v 45) (.n 0))), (.p [((.a 52), (.prop 55))]), (.p [((.a 56), (.prop 59))]), (.p [((.b (.v 6)), (.prop 60))]), (.p [((.a 39), (.prop 42))]), (.p [((.a 43), (.prop 46))])])))
            (.call 18 [(.a (.ptr (.v 6) 0)), (.agg [(.int .i64 (.i 10)), (.str (.v 12)), (.str (.s [])), (.int .i64 (.i 0)), (.int .i64 (.i 0)), (.sl .nil (.n 0) (.n 0))])] [((.b (.v 6)), (.prop 32))] [.i, .i, .i, .i, .a, .n, .n, .p, .a, .n, .n, .p, .p] (.w (.agg [(.int .i64 (.v 35)), (.int .i64 (.v 36)), (.int .i64 (.v 37)), (.int .i64 (.v 38)), (.sl (.v 39) (.v 40) (.v 41)), (.sl (.v 43) (.v 44) (.v 45))])) [((.a 39), (.prop 42)), ((.a 43), (.prop 46)), ((.b (.v 6)), (.prop 47))]
            (.call 18 [(.a (.ptr (.v 6) 0)), (.agg [(.int .i64 (.i 11)), (.str (.v 12)), (.str (.s [])), (.int .i64 (.i 0)), (.int .i64 (.i 0)), (.sl .nil (.n 0) (.n 0))])] [((.b (.v 6)), (.prop 47))] [.i, .i, .i, .i, .a, .n, .n, .p, .a, .n, .n, .p, .p] (.w (.agg [(.int .i64 (.v 48)), (.int .i64 (.v 49)), (.int .i64 (.v 50)), (.int .i64 (.v 51)), (.sl (.v 52) (.v 53) (.v 54)), (.sl (.v 56) (.v 57) (.v 58))])) [((.a 52), (.prop 55)), ((.a 56), (.prop 59)), ((.b (.v 6)), (.prop 60))]
            (.again 0 [(.n (.v 33)), (.n (.v 34)), (.e (.o1 .neg (.o1 .neg (.v 48)))), (.e (.o1 .neg (.o1 .neg (.v 49)))), (.e (.o1 .neg (.o1 .neg (.v 50)))), (.e (.o1 .neg (.o1 .neg (.v 51)))), (.a (.v 52)), (.e (.o2 .nadd (.v 53) (.n 0))), (.e (.o2 .nadd (.v 54) (.n 0))), (.a (.v 56)), (.e (.o2 .nadd (.v 57) (.n 0))), (.e (.o2 .nadd (.v 58) (.n 0))), (.e (.o1 .neg (.o1 .neg (.v 35)))), (.e (.o1 .neg (.o1 .neg (.v 36)))), (.e (.o1 .neg (.o1 .neg (.v 37)))), (.e (.o1 .neg (.o1 .neg (.v 38)))), (.a (.v 39)), (.e (.o2 .nadd (.v 40) (.n 0))), (.e (.o2 .nadd (.v 41) (.n 0))), (.a (.v 43)), (.e (.o2 .nadd (.v 44) (.n 0))), (.e (.o2 .nadd (.v 45) (.n 0))), (.p [((.a 52), (.prop 55))]), (.p [((.a 56), (.prop 59))]), (.p [((.b (.v 6)), (.prop 60))]), (.p [((.a 39), (.prop 42))]), (.p [((.a 43), (.prop 46))])]))))))))
         (.new
         (.all
          (.call 18 [(.a (.ptr (.v 6) 0)), (.agg [(.int .i64 (.i 10)), (.str (.v 12)), (.str (.s [])), (.int .i64 (.i 0)), (.int .i64 (.i 0)), (.sl .nil (.n 0) (.n 0))])] [((.b (.v 6)), (.prop 32))] [.i, .i, .i, .i, .a, .n, .n, .p, .a, .n, .n, .p, .p] (.w (.agg [(.int .i64 (.v 34)), (.int .i64 (.v 35)), (.int .i64 (.v 36)), (.int .i64 (.v 37)), (.sl (.v 38) (.v 39) (.v 40)), (.sl (.v 42) (.v 43) (.v 44))])) [((.a 38), (.prop 41)), ((.a 42), (.prop 45)), ((.b (.v 6)), (.prop 46))]
          (.all
           (.all
            (.call 18 [(.a (.ptr (.v 6) 0)), (.agg [(.int .i64 (.i 11)), (.str (.v 12)), (.str (.s [])), (.int .i64 (.i 0)), (.int .i64 (.i 0)), (.sl .nil (.n 0) (.n 0))])] [((.b (.v 6)), (.prop 46))] [.i, .i, .i, .i, .a, .n, .n, .p, .a, .n, .n, .p, .p] (.w (.agg [(.int .i64 (.v 47)), (.int .i64 (.v 48)), (.int .i64 (.v 49)), (.int .i64 (.v 50)), (.sl (.v 51) (.v 52) (.v 53)), (.sl (.v 55) (.v 56) (.v 57))])) [((.a 51), (.prop 54)), ((.a 55), (.prop 58)), ((.b (.v 6)), (.prop 59))]
            (.new
            (.again 0 [(.n (.v 60)), (.n (.v 33)), (.e (.o1 .neg (.o1 .neg (.v 47)))), (.e (.o1 .neg (.o1 .neg (.v 48)))), (.e (.o1 .neg (.o1 .neg (.v 49)))), (.e (.o1 .neg (.o1 .neg (.v 50)))), (.a (.v 51)), (.e (.o2 .nadd (.v 52) (.n 0))), (.e (.o2 .nadd (.v 53) (.n 0))), (.a (.v 55)), (.e (.o2 .nadd (.v 56) (.n 0))), (.e (.o2 .nadd (.v 57) (.n 0))), (.e (.o1 .neg (.o1 .neg (.v 34)))), (.e (.o1 .neg (.o1 .neg (.v 35)))), (.e (.o1 .neg (.o1 .neg (.v 36)))), (.e (.o1 .neg (.o1 .neg (.v 37)))), (.a (.v 38)), (.e (.o2 .nadd (.v 39) (.n 0))), (.e (.o2 .nadd (.v 40) (.n 0))), (.a (.v 42)), (.e (.o2 .nadd (.v 43) (.n 0))), (.e (.o2 .nadd (.v 44) (.n 0))), (.p [((.a 51), (.prop 54))]), (.p [((.a 55), (.prop 58))]), (.p [((.b (.v 6)), (.prop 59))]), (.p [((.a 38), (.prop 41))]), (.p [((.a 42), (.prop 45))])])))
            (.new
            (.call 18 [(.a (.ptr (.v 6) 0)), (.agg [(.int .i64 (.i 11)), (.str (.v 12)), (.str (.s [])), (.int .i64 (.i 0)), (.int .i64 (.i 0)), (.sl .nil (.n 0) (.n 0))])] [((.b (.v 6)), (.prop 46))] [.i, .i, .i, .i, .a, .n, .n, .p, .a, .n, .n, .p, .p] (.w (.agg [(.int .i64 (.v 48)), (.int .i64 (.v 49)), (.int .i64 (.v 50)), (.int .i64 (.v 51)), (.sl (.v 52) (.v 53) (.v 54)), (.sl (.v 56) (.v 57) (.v 58))])) [((.a 52), (.prop 55)), ((.a 56), (.prop 59)), ((.b (.v 6)), (.prop 60))]
            (.again 0 [(.n (.v 47)), (.n (.v 33)), (.e (.o1 .neg (.o1 .neg (.v 48)))), (.e (.o1 .neg (.o1 .neg (.v 49)))), (.e (.o1 .neg (.o1 .neg (.v 50)))), (.e (.o1 .neg (.o1 .neg (.v 51)))), (.a (.v 52)), (.e (.o2 .nadd (.v 53) (.n 0))), (.e (.o2 .nadd (.v 54) (.n 0))), (.a (.v 56)), (.e (.o2 .nadd (.v 57) (.n 0))), (.e (.o2 .nadd (.v 58) (.n 0))), (.e (.o1 .neg (.o1 .neg (.v 34)))), (.e (.o1 .neg (.o1 .neg (.v 35)))), (.e (.o1 .neg (.o1 .neg (.v 36)))), (.e (.o1 .neg (.o1 .neg (.v 37)))), (.a (.v 38)), (.e (.o2 .nadd (.v 39) (.n 0))), (.e (.o2 .nadd (.v 40) (.n 0))), (.a (.v 42)), (.e (.o2 .nadd (.v 43) (.n 0))), (.e (.o2 .nadd (.v 44) (.n 0))), (.p [((.a 52), (.prop 55))]), (.p [((.a 56), (.prop 59))]), (.p [((.b (.v 6)), (.prop 60))]), (.p [((.a 38), (.prop 41))]), (.p [((.a 42), (.prop 45))])]))))
           (.new
           (.call 18 [(.a (.ptr (.v 6) 0)), (.agg [(.int .i64 (.i 11)), (.str (.v 12)), (.str (.s [])), (.int .i64 (.i 0)), (.int .i64 (.i 0)), (.sl .nil (.n 0) (.n 0))])] [((.b (.v 6)), (.prop 46))] [.i, .i, .i, .i, .a, .n, .n, .p, .a, .n, .n, .p, .p] (.w (.agg [(.int .i64 (.v 48)), (.int .i64 (.v 49)), (.int .i64 (.v 50)), (.int .i64 (.v 51)), (.sl (.v 52) (.v 53) (.v 54)), (.sl (.v 56) (.v 57) (.v 58))])) [((.a 52), (.prop 55)), ((.a 56), (.prop 59)), ((.b (.v 6)), (.prop 60))]
           (.again 0 [(.n (.v 47)), (.n (.v 33)), (.e (.o1 .neg (.o1 .neg (.v 48)))), (.e (.o1 .neg (.o1 .neg (.v 49)))), (.e (.o1 .neg (.o1 .neg (.v 50)))), (.e (.o1 .neg (.o1 .neg (.v 51)))), (.a (.v 52)), (.e (.o2 .nadd (.v 53) (.n 0))), (.e (.o2 .nadd (.v 54) (.n 0))), (.a (.v 56)), (.e (.o2 .nadd (.v 57) (.n 0))), (.e (.o2 .nadd (.v 58) (.n 0))), (.e (.o1 .neg (.o1 .neg (.v 34)))), (.e (.o1 .neg (.o1 .neg (.v 35)))), (.e (.o1 .neg (.o1 .neg (.v 36)))), (.e (.o1 .neg (.o1 .neg (.v 37)))), (.a (.v 38)), (.e (.o2 .nadd (.v 39) (.n 0))), (.e (.o2 .nadd (.v 40) (.n 0))), (.a (.v 42)), (.e (.o2 .nadd (.v 43) (.n 0))), (.e (.o2 .nadd (.v 44) (.n 0))), (.p [((.a 52), (.prop 55))]), (.p [((.a 56), (.prop 59))]), (.p [((.b (.v 6)), (.prop 60))]), (.p [((.a 38), (.prop 41))]), (.p [((.a 42), (.prop 45))])])))))
          (.all
           (.all
            (.call 18 [(.a (.ptr (.v 6) 0)), (.agg [(.int .i64 (.i 10)), (.str (.v 12)), (.str (.s [])), (.int .i64 (.i 0)), (.int .i64 (.i 0)), (.sl .nil (.n 0) (.n 0))])] [((.b (.v 6)), (.prop 32))] [.i, .i, .i, .i, .a, .n, .n, .p, .a, .n, .n, .p, .p] (.w (.agg [(.int .i64 (.v 34)), (.int .i64 (.v 35)), (.int .i64 (.v 36)), (.int .i64 (.v 37)), (.sl (.v 38) (.v 39) (.v 40)), (.sl (.v 42) (.v 43) (.v 44))])) [((.a 38), (.prop 41)), ((.a 42), (.prop 45)), ((.b (.v 6)), (.prop 46))]
            (.all
             (.call 18 [(.a (.ptr (.v 6) 0)), (.agg [(.int .i64 (.i 11)), (.str (.v 12)), (.str (.s [])), (.int .i64 (.i 0)), (.int .i64 (.i 0)), (.sl .nil (.n 0) (.n 0))])] [((.b (.v 6)), (.prop 46))] [.i, .i, .i, .i, .a, .n, .n, .p, .a, .n, .n, .p, .p] (.w (.agg [(.int .i64 (.v 47)), (.int .i64 (.v 48)), (.int .i64 (.v 49)), (.int .i64 (.v 50)), (.sl (.v 51) (.v 52) (.v 53)), (.sl (.v 55) (.v 56) (.v 57))])) [((.a 51), (.prop 54)), ((.a 55), (.prop 58)), ((.b (.v 6)), (.prop 59))]
             (.new
             (.again 0 [(.n (.v 60)), (.n (.v 33)), (.e (.o1 .neg (.o1 .neg (.v 47)))), (.e (.o1 .neg (.o1 .neg (.v 48)))), (.e (.o1 .neg (.o1 .neg (.v 49)))), (.e (.o1 .neg (.o1 .neg (.v 50)))), (.a (.v 51)), (.e (.o2 .nadd (.v 52) (.n 0))), (.e (.o2 .nadd (.v 53) (.n 0))), (.a (.v 55)), (.e (.o2 .nadd (.v 56) (.n 0))), (.e (.o2 .nadd (.v 57) (.n 0))), (.e (.o1 .neg (.o1 .neg (.v 34)))), (.e (.o1 .neg (.o1 .neg (.v 35)))), (.e (.o1 .neg (.o1 .neg (.v 36)))), (.e (.o1 .neg (.o1 .neg (.v 37)))), (.a (.v 38)), (.e (.o2 .nadd (.v 39) (.n 0))), (.e (.o2 .nadd (.v 40) (.n 0))), (.a (.v 42)), (.e (.o2 .nadd (.v 43) (.n 0))), (.e (.o2 .nadd (.v 44) (.n 0))), (.p [((.a 51), (.prop 54))]), (.p [((.a 55), (.prop 58))]), (.p [((.b (.v 6)), (.prop 59))]), (.p [((.a 38), (.prop 41))]), (.p [((.a 42), (.prop 45))])])))
             (.new
             (.call 18 [(.a (.ptr (.v 6) 0)), (.agg [(.int .i64 (.i 11)), (.str (.v 12)), (.str (.s [])), (.int .i64 (.i 0)), (.int .i64 (.i 0)), (.sl .nil (.n 0) (.n 0))])] [((.b (.v 6)), (.prop 46))] [.i, .i, .i, .i, .a, .n, .n, .p, .a, .n, .n, .p, .p] (.w (.agg [(.int .i64 (.v 48)), (.int .i64 (.v 49)), (.int .i64 (.v 50)), (.int .i64 (.v 51)), (.sl (.v 52) (.v 53) (.v 54)), (.sl (.v 56) (.v 57) (.v 58))])) [((.a 52), (.prop 55)), ((.a 56), (.prop 59)), ((.b (.v 6)), (.prop 60))]
             (.again 0 [(.n (.v 47)), (.n (.v 33)), (.e (.o1 .neg (.o1 .neg (.v 48)))), (.e (.o1 .neg (.o1 .neg (.v 49)))), (.e (.o1 .neg (.o1 .neg (.v 50)))), (.e (.o1 .neg (.o1 .neg (.v 51)))), (.a (.v 52)), (.e (.o2 .nadd (.v 53) (.n 0))), (.e (.o2 .nadd (.v 54) (.n 0))), (.a (.v 56)), (.e (.o2 .nadd (.v 57) (.n 0))), (.e (.o2 .nadd (.v 58) (.n 0))), (.e (.o1 .neg (.o1 .neg (.v 34)))), (.e (.o1 .neg (.o1 .neg (.v 35)))), (.e (.o1 .neg (.o1 .neg (.v 36)))), (.e (.o1 .neg (.o1 .neg (.v 37)))), (.a (.v 38)), (.e (.o2 .nadd (.v 39) (.n 0))), (.e (.o2 .nadd (.v 40) (.n 0))), (.a (.v 42)), (.e (.o2 .nadd (.v 43) (.n 0))), (.e (.o2 .nadd (.v 44) (.n 0))), (.p [((.a 52), (.prop 55))]), (.p [((.a 56), (.prop 59))]), (.p [((.b (.v 6)), (.prop 60))]), (.p [((.a 38), (.prop 41))]), (.p [((.a 42), (.prop 45))])])))))
            (.new
            (.call 18 [(.a (.ptr (.v 6) 0)), (.agg [(.int .i64 (.i 10)), (.str (.v 12)), (.str (.s [])), (.int .i64 (.i 0)), (.int .i64 (.i 0)), (.sl .nil (.n 0) (.n 0))])] [((.b (.v 6)), (.prop 32))] [.i, .i, .i, .i, .a, .n, .n, .p, .a, .n, .n, .p, .p] (.w (.agg [(.int .i64 (.v 35)), (.int .i64 (.v 36)), (.int .i64 (.v 37)), (.int .i64 (.v 38)), (.sl (.v 39) (.v 40) (.v 41)), (.sl (.v 43) (.v 44) (.v 45))])) [((.a 39), (.prop 42)), ((.a 43), (.prop 46)), ((.b (.v 6)), (.prop 47))]
            (.call 18 [(.a (.ptr (.v 6) 0)), (.agg [(.int .i64 (.i 11)), (.str (.v 12)), (.str (.s [])), (.int .i64 (.i 0)), (.int .i64 (.i 0)), (.sl .nil (.n 0) (.n 0))])] [((.b (.v 6)), (.prop 47))] [.i, .i, .i, .i, .a, .n, .n, .p, .a, .n, .n, .p, .p] (.w (.agg [(.int .i64 (.v 48)), (.int .i64 (.v 49)), (.int .i64 (.v 50)), (.int .i64 (.v 51)), (.sl (.v 52) (.v 53) (.v 54)), (.sl (.v 56) (.v 57) (.v 58))])) [((.a 52), (.prop 55)), ((.a 56), (.prop 59)), ((.b (.v 6)), (.prop 60))]
            (.again 0 [(.n (.v 34)), (.n (.v 33)), (.e (.o1 .neg (.o1 .neg (.v 48)))), (.e (.o1 .neg (.o1 .neg (.v 49)))), (.e (.o1 .neg (.o1 .neg (.v 50)))), (.e (.o1 .neg (.o1 .neg (.v 51)))), (.a (.v 52)), (.e (.o2 .nadd (.v 53) (.n 0))), (.e (.o2 .nadd (.v 54) (.n 0))), (.a (.v 56)), (.e (.o2 .nadd (.v 57) (.n 0))), (.e (.o2 .nadd (.v 58) (.n 0))), (.e (.o1 .neg (.o1 .neg (.v 35)))), (.e (.o1 .neg (.o1 .neg (.v 36)))), (.e (.o1 .neg (.o1 .neg (.v 37)))), (.e (.o1 .neg (.o1 .neg (.v 38)))), (.a (.v 39)), (.e (.o2 .nadd (.v 40) (.n 0))), (.e (.o2 .nadd (.v 41) (.n 0))), (.a (.v 43)), (.e (.o2 .nadd (.v 44) (.n 0))), (.e (.o2 .nadd (.v 45) (.n 0))), (.p [((.a 52), (.prop 55))]), (.p [((.a 56), (.prop 59))]), (.p [((.b (.v 6)), (.prop 60))]), (.p [((.a 39), (.prop 42))]), (.p [((.a 43), (.prop 46))])])))))
           (.new
           (.all
            (.call 18 [(.a (.ptr (.v 6) 0)), (.agg [(.int .i64 (.i 10)), (.str (.v 12)), (.str (.s [])), (.int .i64 (.i 0)), (.int .i64 (.i 0)), (.sl .nil (.n 0) (.n 0))])] [((.b (.v 6)), (.prop 32))] [.i, .i, .i, .i, .a, .n, .n, .p, .a, .n, .n, .p, .p] (.w (.agg [(.int .i64 (.v 35)), (.int .i64 (.v 36)), (.int .i64 (.v 37)), (.int .i64 (.v 38)), (.sl (.v 39) (.v 40) (.v 41)), (.sl (.v 43) (.v 44) (.v 45))])) [((.a 39), (.prop 42)), ((.a 43), (.prop 46)), ((.b (.v 6)), (.prop 47))]
            (.call 18 [(.a (.ptr (.v 6) 0)), (.agg [(.int .i64 (.i 11)), (.str (.v 12)), (.str (.s [])), (.int .i64 (.i 0)), (.int .i64 (.i 0)), (.sl .nil (.n 0) (.n 0))])] [((.b (.v 6)), (.prop 47))] [.i, .i, .i, .i, .a, .n, .n, .p, .a, .n, .n, .p, .p] (.w (.agg [(.int .i64 (.v 48)), (.int .i64 (.v 49)), (.int .i64 (.v 50)), (.int .i64 (.v 51)), (.sl (.v 52) (.v 53) (.v 54)), (.sl (.v 56) (.v 57) (.v 58))])) [((.a 52), (.prop 55)), ((.a 56), (.prop 59)), ((.b (.v 6)), (.prop 60))]
            (.again 0 [(.n (.v 34)), (.n (.v 33)), (.e (.o1 .neg (.o1 .neg (.v 48)))), (.e (.o1 .neg (.o1 .neg (.v 49)))), (.e (.o1 .neg (.o1 .neg (.v 50)))), (.e (.o1 .neg (.o1 .neg (.v 51)))), (.a (.v 52)), (.e (.o2 .nadd (.v 53) (.n 0))), (.e (.o2 .nadd (.v 54) (.n 0))), (.a (.v 56)), (.e (.o2 .nadd (.v 57) (.n 0))), (.e (.o2 .nadd (.v 58) (.n 0))), (.e (.o1 .neg (.o1 .neg (.v 35)))), (.e (.o1 .neg (.o1 .neg (.v 36)))), (.e (.o1 .neg (.o1 .neg (.v 37)))), (.e (.o1 .neg (.o1 .neg (.v 38)))), (.a (.v 39)), (.e (.o2 .nadd (.v 40) (.n 0))), (.e (.o2 .nadd (.v 41) (.n 0))), (.a (.v 43)), (.e (.o2 .nadd (.v 44) (.n 0))), (.e (.o2 .nadd (.v 45) (.n 0))), (.p [((.a 52), (.prop 55))]), (.p [((.a 56), (.prop 59))]), (.p [((.b (.v 6)), (.prop 60))]), (.p [((.a 39), (.prop 42))]), (.p [((.a 43), (.prop 46))])])))
            (.call 18 [(.a (.ptr (.v 6) 0)), (.agg [(.int .i64 (.i 10)), (.str (.v 12)), (.str (.s [])), (.int .i64 (.i 0)), (.int .i64 (.i 0)), (.sl .nil (.n 0) (.n 0))])] [((.b (.v 6)), (.prop 32))] [.i, .i, .i, .i, .a, .n, .n, .p, .a, .n, .n, .p, .p] (.w (.agg [(.int .i64 (.v 35)), (.int .i64 (.v 36)), (.int .i64 (.v 37)), (.int .i64 (.v 38)), (.sl (.v 39) (.v 40) (.v 41)), (.sl (.v 43) (.v 44) (.v 45))])) [((.a 39), (.prop 42)), ((.a 43), (.prop 46)), ((.b (.v 6)), (.prop 47))]
            (.call 18 [(.a (.ptr (.v 6) 0)), (.agg [(.int .i64 (.i 11)), (.str (.v 12)), (.str (.s [])), (.int .i64 (.i 0)), (.int .i64 (.i 0)), (.sl .nil (.n 0) (.n 0))])] [((.b (.v 6)), (.prop 47))] [.i, .i, .i, .i, .a, .n, .n, .p, .a, .n, .n, .p, .p] (.w (.agg [(.int .i64 (.v 48)), (.int .i64 (.v 49)), (.int .i64 (.v 50)), (.int .i64 (.v 51)), (.sl (.v 52) (.v 53) (.v 54)), (.sl (.v 56) (.v 57) (.v 58))])) [((.a 52), (.prop 55)), ((.a 56), (.prop 59)), ((.b (.v 6)), (.prop 60))]
            (.again 0 [(.n (.v 34)), (.n (.v 33)), (.e (.o1 .neg (.o1 .neg (.v 48)))), (.e (.o1 .neg (.o1 .neg (.v 49)))), (.e (.o1 .neg (.o1 .neg (.v 50)))), (.e (.o1 .neg (.o1 .neg (.v 51)))), (.a (.v 52)), (.e (.o2 .nadd (.v 53) (.n 0))), (.e (.o2 .nadd (.v 54) (.n 0))), (.a (.v 56)), (.e (.o2 .nadd (.v 57) (.n 0))), (.e (.o2 .nadd (.v 58) (.n 0))), (.e (.o1 .neg (.o1 .neg (.v 35)))), (.e (.o1 .neg (.o1 .neg (.v 36)))), (.e (.o1 .neg (.o1 .neg (.v 37)))), (.e (.o1 .neg (.o1 .neg (.v 38)))), (.a (.v 39)), (.e (.o2 .nadd (.v 40) (.n 0))), (.e (.o2 .nadd (.v 41) (.n 0))), (.a (.v 43)), (.e (.o2 .nadd (.v 44) (.n 0))), (.e (.o2 .nadd (.v 45) (.n 0))), (.p [((.a 52), (.prop 55))]), (.p [((.a 56), (.prop 59))]), (.p [((.b (.v 6)), (.prop 60))]), (.p [((.a 39), (.prop 42))]), (.p [((.a 43), (.prop 46))])])))))))))))
      (.all
       (.all
        (.all
         (.call 18 [(.a (.ptr (.v 6) 0)), (.agg [(.int .i64 (.i 10)), (.str (.v 12)), (.str (.s [])), (.int .i64 (.i 0)), (.int .i64 (.i 0)), (.sl .nil (.n 0) (.n 0))])] [((.b (.v 6)), (.prop 32))] [.i, .i, .i, .i, .a, .n, .n, .p, .a, .n, .n, .p, .p] (.w (.agg [(.int .i64 (.v 33)), (.int .i64 (.v 34)), (.int .i64 (.v 35)), (.int .i64 (.v 36)), (.sl (.v 37) (.v 38) (.v 39)), (.sl (.v 41) (.v 42) (.v 43))])) [((.a 37), (.prop 40)), ((.a 41), (.prop 44)), ((.b (.v 6)), (.prop 45))]
         (.all
          (.call 18 [(.a (.ptr (.v 6) 0)), (.agg [(.int .i64 (.i 11)), (.str (.v 12)), (.str (.s [])), (.int .i64 (.i 0)), (.int .i64 (.i 0)), (.sl .nil (.n 0) (.n 0))])] [((.b (.v 6)), (.prop 45))] [.i, .i, .i, .i, .a, .n, .n, .p, .a, .n, .n, .p, .p] (.w (.agg [(.int .i64 (.v 46)), (.int .i64 (.v 47)), (.int .i64 (.v 48)), (.int .i64 (.v 49)), (.sl (.v 50) (.v 51) (.v 52)), (.sl (.v 54) (.v 55) (.v 56))])) [((.a 50), (.prop 53)), ((.a 54), (.prop 57)), ((.b (.v 6)), (.prop 58))]
          (.all
           (.new
           (.new
           (.again 0 [(.n (.v 59)), (.n (.v 60)), (.e (.o1 .neg (.o1 .neg (.v 46)))), (.e (.o1 .neg (.o1 .neg (.v 47)))), (.e (.o1 .neg (.o1 .neg (.v 48)))), (.e (.o1 .neg (.o1 .neg (.v 49)))), (.a (.v 50)), (.e (.o2 .nadd (.v 51) (.n 0))), (.e (.o2 .nadd (.v 52) (.n 0))), (.a (.v 54)), (.e (.o2 .nadd (.v 55) (.n 0))), (.e (.o2 .nadd (.v 56) (.n 0))), (.e (.o1 .neg (.o1 .neg (.v 33)))), (.e (.o1 .neg (.o1 .neg (.v 34)))), (.e (.o1 .neg (.o1 .neg (.v 35)))), (.e (.o1 .neg (.o1 .neg (.v 36)))), (.a (.v 37)), (.e (.o2 .nadd (.v 38) (.n 0))), (.e (.o2 .nadd (.v 39) (.n 0))), (.a (.v 41)), (.e (.o2 .nadd (.v 42) (.n 0))), (.e (.o2 .nadd (.v 43) (.n 0))), (.p [((.a 50), (.prop 53))]), (.p [((.a 54), (.prop 57))]), (.p [((.b (.v 6)), (.prop 58))]), (.p [((.a 37), (.prop 40))]), (.p [((.a 41), (.prop 44))])])))
           (.new
           (.new
           (.again 0 [(.n (.v 60)), (.n (.v 59)), (.e (.o1 .neg (.o1 .neg (.v 46)))), (.e (.o1 .neg (.o1 .neg (.v 47)))), (.e (.o1 .neg (.o1 .neg (.v 48)))), (.e (.o1 .neg (.o1 .neg (.v 49)))), (.a (.v 50)), (.e (.o2 .nadd (.v 51) (.n 0))), (.e (.o2 .nadd (.v 52) (.n 0))), (.a (.v 54)), (.e (.o2 .nadd (.v 55) (.n 0))), (.e (.o2 .nadd (.v 56) (.n 0))), (.e (.o1 .neg (.o1 .neg (.v 33)))), (.e (.o1 .neg (.o1 .neg (.v 34)))), (.e (.o1 .neg (.o1 .neg (.v 35)))), (.e (.o1 .neg (.o1 .neg (.v 36)))), (.a (.v 37)), (.e (.o2 .nadd (.v 38) (.n 0))), (.e (.o2 .nadd (.v 39) (.n 0))), (.a (.v 41)), (.e (.o2 .nadd (.v 42) (.n 0))), (.e (.o2 .nadd (.v 43) (.n 0))), (.p [((.a 50), (.prop 53))]), (.p [((.a 54), (.prop 57))]), (.p [((.b (.v 6)), (.prop 58))]), (.p [((.a 37), (.prop 40))]), (.p [((.a 41), (.prop 44))])])))))
          (.all
           (.new
           (.all
            (.call 18 [(.a (.ptr (.v 6) 0)), (.agg [(.int .i64 (.i 11)), (.str (.v 12)), (.str (.s [])), (.int .i64 (.i 0)), (.int .i64 (.i 0)), (.sl .nil (.n 0) (.n 0))])] [((.b (.v 6)), (.prop 45))] [.i, .i, .i, .i, .a, .n, .n, .p, .a, .n, .n, .p, .p] (.w (.agg [(.int .i64 (.v 47)), (.int .i64 (.v 48)), (.int .i64 (.v 49)), (.int .i64 (.v 50)), (.sl (.v 51) (.v 52) (.v 53)), (.sl (.v 55) (.v 56) (.v 57))])) [((.a 51), (.prop 54)), ((.a 55), (.prop 58)), ((.b (.v 6)), (.prop 59))]
            (.new
            (.again 0 [(.n (.v 46)), (.n (.v 60)), (.e (.o1 .neg (.o1 .neg (.v 47)))), (.e (.o1 .neg (.o1 .neg (.v 48)))), (.e (.o1 .neg (.o1 .neg (.v 49)))), (.e (.o1 .neg (.o1 .neg (.v 50)))), (.a (.v 51)), (.e (.o2 .nadd (.v 52) (.n 0))), (.e (.o2 .nadd (.v 53) (.n 0))), (.a (.v 55)), (.e (.o2 .nadd (.v 56) (.n 0))), (.e (.o2 .nadd (.v 57) (.n 0))), (.e (.o1 .neg (.o1 .neg (.v 33)))), (.e (.o1 .neg (.o1 .neg (.v 34)))), (.e (.o1 .neg (.o1 .neg (.v 35)))), (.e (.o1 .neg (.o1 .neg (.v 36)))), (.a (.v 37)), (.e (.o2 .nadd (.v 38) (.n 0))), (.e (.o2 .nadd (.v 39) (.n 0))), (.a (.v 41)), (.e (.o2 .nadd (.v 42) (.n 0))), (.e (.o2 .nadd (.v 43) (.n 0))), (.p [((.a 51), (.prop 54))]), (.p [((.a 55), (.prop 58))]), (.p [((.b (.v 6)), (.prop 59))]), (.p [((.a 37), (.prop 40))]), (.p [((.a 41), (.prop 44))])])))
            (.new
            (.call 18 [(.a (.ptr (.v 6) 0)), (.agg [(.int .i64 (.i 11)), (.str (.v 12)), (.str (.s [])), (.int .i64 (.i 0)), (.int .i64 (.i 0)), (.sl .nil (.n 0) (.n 0))])] [((.b (.v 6)), (.prop 45))] [.i, .i, .i, .i, .a, .n, .n, .p, .a, .n, .n, .p, .p] (.w (.agg [(.int .i64 (.v 48)), (.int .i64 (.v 49)), (.int .i64 (.v 50)), (.int .i64 (.v 51)), (.sl (.v 52) (.v 53) (.v 54)), (.sl (.v 56) (.v 57) (.v 58))])) [((.a 52), (.prop 55)), ((.a 56), (.prop 59)), ((.b (.v 6)), (.prop 60))]
            (.again 0 [(.n (.v 46)), (.n (.v 47)), (.e (.o1 .neg (.o1 .neg (.v 48)))), (.e (.o1 .neg (.o1 .neg (.v 49)))), (.e (.o1 .neg (.o1 .neg (.v 50)))), (.e (.o1 .neg (.o1 .neg (.v 51)))), (.a (.v 52)), (.e (.o2 .nadd (.v 53) (.n 0))), (.e (.o2 .nadd (.v 54) (.n 0))), (.a (.v 56)), (.e (.o2 .nadd (.v 57) (.n 0))), (.e (.o2 .nadd (.v 58) (.n 0))), (.e (.o1 .neg (.o1 .neg (.v 33)))), (.e (.o1 .neg (.o1 .neg (.v 34)))), (.e (.o1 .neg (.o1 .neg (.v 35)))), (.e (.o1 .neg (.o1 .neg (.v 36)))), (.a (.v 37)), (.e (.o2 .nadd (.v 38) (.n 0))), (.e (.o2 .nadd (.v 39) (.n 0))), (.a (.v 41)), (.e (.o2 .nadd (.v 42) (.n 0))), (.e (.o2 .nadd (.v 43) (.n 0))), (.p [((.a 52), (.prop 55))]), (.p [((.a 56), (.prop 59))]), (.p [((.b (.v 6)), (.prop 60))]), (.p [((.a 37), (.prop 40))]), (.p [((.a 41), (.prop 44))])])))))
           (.new
           (.all
            (.call 18 [(.a (.ptr (.v 6) 0)), (.agg [(.int .i64 (.i 11)), (.str (.v 12)), (.str (.s [])), (.int .i64 (.i 0)), (.int .i64 (.i 0)), (.sl .nil (.n 0) (.n 0))])] [((.b (.v 6)), (.prop 45))] [.i, .i, .i, .i, .a, .n, .n, .p, .a, .n, .n, .p, .p] (.w (.agg [(.int .i64 (.v 47)), (.int .i64 (.v 48)), (.int .i64 (.v 49)), (.int .i64 (.v 50)), (.sl (.v 51) (.v 52) (.v 53)), (.sl (.v 55) (.v 56) (.v 57))])) [((.a 51), (.prop 54)), ((.a 55), (.prop 58)), ((.b (.v 6)), (.prop 59))]
            (.new
            (.again 0 [(.n (.v 60)), (.n (.v 46)), (.e (.o1 .neg (.o1 .neg (.v 47)))), (.e (.o1 .neg (.o1 .neg (.v 48)))), (.e (.o1 .neg (.o1 .neg (.v 49)))), (.e (.o1 .neg (.o1 .neg (.v 50)))), (.a (.v 51)), (.e (.o2 .nadd (.v 52) (.n 0))), (.e (.o2 .nadd (.v 53) (.n 0))), (.a (.v 55)), (.e (.o2 .nadd (.v 56) (.n 0))), (.e (.o2 .nadd (.v 57) (.n 0))), (.e (.o1 .neg (.o1 .neg (.v 33)))), (.e (.o1 .neg (.o1 .neg (.v 34)))), (.e (.o1 .neg (.o1 .neg (.v 35)))), (.e (.o1 .neg (.o1 .neg (.v 36)))), (.a (.v 37)), (.e (.o2 .nadd (.v 38) (.n 0))), (.e (.o2 .nadd (.v 39) (.n 0))), (.a (.v 41)), (.e (.o2 .nadd (.v 42) (.n 0))), (.e (.o2 .nadd (.v 43) (.n 0))), (.p [((.a 51), (.prop 54))]), (.p [((.a 55), (.prop 58))]), (.p [((.b (.v 6)), (.prop 59))]), (.p [((.a 37), (.prop 40))]), (.p [((.a 41), (.prop 44))])])))
            (.new
            (.call 18 [(.a (.ptr (.v 6) 0)), (.agg [(.int .i64 (.i 11)), (.str (.v 12)), (.str (.s [])), (.int .i64 (.i 0)), (.int .i64 (.i 0)), (.sl .nil (.n 0) (.n 0))])] [((.b (.v 6)), (.prop 45))] [.i, .i, .i, .i, .a, .n, .n, .p, .a, .n, .n, .p, .p] (.w (.agg [(.int .i64 (.v 48)), (.int .i64 (.v 49)), (.int .i64 (.v 50)), (.int .i64 (.v 51)), (.sl (.v 52) (.v 53) (.v 54)), (.sl (.v 56) (.v 57) (.v 58))])) [((.a 52), (.prop 55)), ((.a 56), (.prop 59)), ((.b (.v 6)), (.prop 60))]
            (.again 0 [(.n (.v 47)), (.n (.v 46)), (.e (.o1 .neg (.o1 .neg (.v 48)))), (.e (.o1 .neg (.o1 .neg (.v 49)))), (.e (.o1 .neg (.o1 .neg (.v 50)))), (.e (.o1 .neg (.o1 .neg (.v 51)))), (.a (.v 52)), (.e (.o2 .nadd (.v 53) (.n 0))), (.e (.o2 .nadd (.v 54) (.n 0))), (.a (.v 56)), (.e (.o2 .nadd (.v 57) (.n 0))), (.e (.o2 .nadd (.v 58) (.n 0))), (.e (.o1 .neg (.o1 .neg (.v 33)))), (.e (.o1 .neg (.o1 .neg (.v 34)))), (.e (.o1 .neg (.o1 .neg (.v 35)))), (.e (.o1 .neg (.o1 .neg (.v 36)))), (.a (.v 37)), (.e (.o2 .nadd (.v 38) (.n 0))), (.e (.o2 .nadd (.v 39) (.n 0))), (.a (.v 41)), (.e (.o2 .nadd (.v 42) (.n 0))), (.e (.o2 .nadd (.v 43) (.n 0))), (.p [((.a 52), (.prop 55))]), (.p [((.a 56), (.prop 59))]), (.p [((.b (.v 6)), (.prop 60))]), (.p [((.a 37), (.prop 40))]), (.p [((.a 41), (.prop 44))])]))))))))
         (.all
          (.new
          (.all
           (.call 18 [(.a (.ptr (.v 6) 0)), (.agg [(.int .i64 (.i 10)), (.str (.v 12)), (.str (.s [])), (.int .i64 (.i 0)), (.int .i64 (.i 0)), (.sl .nil (.n 0) (.n 0))])] [((.b (.v 6)), (.prop 32))] [.i, .i, .i, .i, .a, .n, .n, .p, .a, .n, .n, .p, .p] (.w (.agg [(.int .i64 (.v 34)), (.int .i64 (.v 35)), (.int .i64 (.v 36)), (.int .i64 (.v 37)), (.sl (.v 38) (.v 39) (.v 40)), (.sl (.v 42) (.v 43) (.v 44))])) [((.a 38), (.prop 41)), ((.a 42), (.prop 45)), ((.b (.v 6)), (.prop 46))]
           (.all
            (.call 18 [(.a (.ptr (.v 6) 0)), (.agg [(.int .i64 (.i 11)), (.str (.v 12)), (.str (.s [])), (.int .i64 (.i 0)), (.int .i64 (.i 0)), (.sl .nil (.n 0) (.n 0))])] [((.b (.v 6)), (.prop 46))] [.i, .i, .i, .i, .a, .n, .n, .p, .a, .n, .n, .p, .p] (.w (.agg [(.int .i64 (.v 47)), (.int .i64 (.v 48)), (.int .i64 (.v 49)), (.int .i64 (.v 50)), (.sl (.v 51) (.v 52) (.v 53)), (.sl (.v 55) (.v 56) (.v 57))])) [((.a 51), (.prop 54)), ((.a 55), (.prop 58)), ((.b (.v 6)), (.prop 59))]
            (.new
            (.again 0 [(.n (.v 33)), (.n (.v 60)), (.e (.o1 .neg (.o1 .neg (.v 47)))), (.e (.o1 .neg (.o1 .neg (.v 48)))), (.e (.o1 .neg (.o1 .neg (.v 49)))), (.e (.o1 .neg (.o1 .neg (.v 50)))), (.a (.v 51)), (.e (.o2 .nadd (.v 52) (.n 0))), (.e (.o2 .nadd (.v 53) (.n 0))), (.a (.v 55)), (.e (.o2 .nadd (.v 56) (.n 0))), (.e (.o2 .nadd (.v 57) (.n 0))), (.e (.o1 .neg (.o1 .neg (.v 34)))), (.e (.o1 .neg (.o1 .neg (.v 35)))), (.e (.o1 .neg (.o1 .neg (.v 36)))), (.e (.o1 .neg (.o1 .neg (.v 37)))), (.a (.v 38)), (.e (.o2 .nadd (.v 39) (.n 0))), (.e (.o2 .nadd (.v 40) (.n 0))), (.a (.v 42)), (.e (.o2 .nadd (.v 43) (.n 0))), (.e (.o2 .nadd (.v 44) (.n 0))), (.p [((.a 51), (.prop 54))]), (.p [((.a 55), (.prop 58))]), (.p [((.b (.v 6)), (.prop 59))]), (.p [((.a 38), (.prop 41))]), (.p [((.a 42), (.prop 45))])])))
            (.new
            (.call 18 [(.a (.ptr (.v 6) 0)), (.agg [(.int .i64 (.i 11)), (.str (.v 12)), (.str (.s [])), (.int .i64 (.i 0)), (.int .i64 (.i 0)), (.sl .nil (.n 0) (.n 0))])] [((.b (.v 6)), (.prop 46))] [.i, .i, .i, .i, .a, .n, .n, .p, .a, .n, .n, .p, .p] (.w (.agg [(.int .i64 (.v 48)), (.int .i64 (.v 49)), (.int .i64 (.v 50)), (.int .i64 (.v 51)), (.sl (.v 52) (.v 53) (.v 54)), (.sl (.v 56) (.v 57) (.v 58))])) [((.a 52), (.prop 55)), ((.a 56), (.prop 59)), ((.b (.v 6)), (.prop 60))]
            (.again 0 [(.n (.v 33)), (.n (.v 47)), (.e (.o1 .neg (.o1 .neg (.v 48)))), (.e (.o1 .neg (.o1 .neg (.v 49)))), (.e (.o1 .neg (.o1 .neg (.v 50)))), (.e (.o1 .neg (.o1 .neg (.v 51)))), (.a (.v 52)), (.e (.o2 .nadd (.v 53) (.n 0))), (.e (.o2 .nadd (.v 54) (.n 0))), (.a (.v 56)), (.e (.o2 .nadd (.v 57) (.n 0))), (.e (.o2 .nadd (.v 58) (.n 0))), (.e (.o1 .neg (.o1 .neg (.v 34)))), (.e (.o1 .neg (.o1 .neg (.v 35)))), (.e (.o1 .neg (.o1 .neg (.v 36)))), (.e (.o1 .neg (.o1 .neg (.v 37)))), (.a (.v 38)), (.e (.o2 .nadd (.v 39) (.n 0))), (.e (.o2 .nadd (.v 40) (.n 0))), (.a (.v 42)), (.e (.o2 .nadd (.v 43) (.n 0))), (.e (.o2 .nadd (.v 44) (.n 0))), (.p [((.a 52), (.prop 55))]), (.p [((.a 56), (.prop 59))]), (.p [((.b (.v 6)), (.prop 60))]), (.p [((.a 38), (.prop 41))]), (.p [((.a 42), (.prop 45))])])))))
           (.new
           (.call 18 [(.a (.ptr (.v 6) 0)), (.agg [(.int .i64 (.i 10)), (.str (.v 12)), (.str (.s [])), (.int .i64 (.i 0)), (.int .i64 (.i 0)), (.sl .nil (.n 0) (.n 0))])] [((.b (.v 6)), (.prop 32))] [.i, .i, .i, .i, .a, .n, .n, .p, .a, .n, .n, .p, .p] (.w (.agg [(.int .i64 (.v 35)), (.int .i64 (.v 36)), (.int .i64 (.v 37)), (.int .i64 (.v 38)), (.sl (.v 39) (.v 40) (.v 41)), (.sl (.v 43) (.v 44) (.v 45))])) [((.a 39), (.prop 42)), ((.a 43), (.prop 46)), ((.b (.v 6)), (.prop 47))]
           (.call 18 [(.a (.ptr (.v 6) 0)), (.agg [(.int .i64 (.i 11)), (.str (.v 12)), (.str (.s [])), (.int .i64 (.i 0)), (.int .i64 (.i 0)), (.sl .nil (.n 0) (.n 0))])] [((.b (.v 6)), (.prop 47))] [.i, .i, .i, .i, .a, .n, .n, .p, .a, .n, .n, .p, .p] (.w (.agg [(.int .i64 (.v 48)), (.int .i64 (.v 49)), (.int .i64 (.v 50)), (.int .i64 (.v 51)), (.sl (.v 52) (.v 53) (.v 54)), (.sl (.v 56) (.v 57) (.v 58))])) [((.a 52), (.prop 55)), ((.a 56), (.prop 59)), ((.b (.v 6)), (.prop 60))]
           (.again 0 [(.n (.v 33)), (.n (.v 34)), (.e (.o1 .neg (.o1 .neg (.v 48)))), (.e (.o1 .neg (.o1 .neg (.v 49)))), (.e (.o1 .neg (.o1 .neg (.v 50)))), (.e (.o1 .neg (.o1 .neg (.v 51)))), (.a (.v 52)), (.e (.o2 .nadd (.v 53) (.n 0))), (.e (.o2 .nadd (.v 54) (.n 0))), (.a (.v 56)), (.e (.o2 .nadd (.v 57) (.n 0))), (.e (.o2 .nadd (.v 58) (.n 0))), (.e (.o1 .neg (.o1 .neg (.v 35)))), (.e (.o1 .neg (.o1 .neg (.v 36)))), (.e (.o1 .neg (.o1 .neg (.v 37)))), (.e (.o1 .neg (.o1 .neg (.v 38)))), (.a (.v 39)), (.e (.o2 .nadd (.v 40) (.n 0))), (.e (.o2 .nadd (.v 41) (.n 0))), (.a (.v 43)), (.e (.o2 .nadd (.v 44) (.n 0))), (.e (.o2 .nadd (.v 45) (.n 0))), (.p [((.a 52), (.prop 55))]), (.p [((.a 56), (.prop 59))]), (.p [((.b (.v 6)), (.prop 60))]), (.p [((.a 39), (.prop 42))]), (.p [((.a 43), (.prop 46))])]))))))
          (.new
          (.all
           (.call 18 [(.a (.ptr (.v 6) 0)), (.agg [(.int .i64 (.i 10)), (.str (.v 12)), (.str (.s [])), (.int .i64 (.i 0)), (.int .i64 (.i 0)), (.sl .nil (.n 0) (.n 0))])] [((.b (.v 6)), (.prop 32))] [.i, .i, .i, .i, .a, .n, .n, .p, .a, .n, .n, .p, .p] (.w (.agg [(.int .i64 (.v 34)), (.int .i64 (.v 35)), (.int .i64 (.v 36)), (.int .i64 (.v 37)), (.sl (.v 38) (.v 39) (.v 40)), (.sl (.v 42) (.v 43) (.v 44))])) [((.a 38), (.prop 41)), ((.a 42), (.prop 45)), ((.b (.v 6)), (.prop 46))]
           (.all
            (.call 18 [(.a (.ptr (.v 6) 0)), (.agg [(.int .i64 (.i 11)), (.str (.v 12)), (.str (.s [])), (.int .i64 (.i 0)), (.int .i64 (.i 0)), (.sl .nil (.n 0) (.n 0))])] [((.b (.v 6)), (.prop 46))] [.i, .i, .i, .i, .a, .n, .n, .p, .a, .n, .n, .p, .p] (.w (.agg [(.int .i64 (.v 47)), (.int .i64 (.v 48)), (.int .i64 (.v 49)), (.int .i64 (.v 50)), (.sl (.v 51) (.v 52) (.v 53)), (.sl (.v 55) (.v 56) (.v 57))])) [((.a 51), (.prop 54)), ((.a 55), (.prop 58)), ((.b (.v 6)), (.prop 59))]
            (.new
            (.again 0 [(.n (.v 60)), (.n (.v 33)), (.e (.o1 .neg (.o1 .neg (.v 47)))), (.e (.o1 .neg (.o1 .neg (.v 48)))), (.e (.o1 .neg (.o1 .neg (.v 49)))), (.e (.o1 .neg (.o1 .neg (.v 50)))), (.a (.v 51)), (.e (.o2 .nadd (.v 52) (.n 0))), (.e (.o2 .nadd (.v 53) (.n 0))), (.a (.v 55)), (.e (.o2 .nadd (.v 56) (.n 0))), (.e (.o2 .nadd (.v 57) (.n 0))), (.e (.o1 .neg (.o1 .neg (.v 34)))), (.e (.o1 .neg (.o1 .neg (.v 35)))), (.e (.o1 .neg (.o1 .neg (.v 36)))), (.e (.o1 .neg (.o1 .neg (.v 37)))), (.a (.v 38)), (.e (.o2 .nadd (.v 39) (.n 0))), (.e (.o2 .nadd (.v 40) (.n 0))), (.a (.v 42)), (.e (.o2 .nadd (.v 43) (.n 0))), (.e (.o2 .nadd (.v 44) (.n 0))), (.p [((.a 51), (.prop 54))]), (.p [((.a 55), (.prop 58))]), (.p [((.b (.v 6)), (.prop 59))]), (.p [((.a 38), (.prop 41))]), (.p [((.a 42), (.prop 45))])])))
            (.new
            (.call 18 [(.a (.ptr (.v 6) 0)), (.agg [(.int .i64 (.i 11)), (.str (.v 12)), (.str (.s [])), (.int .i64 (.i 0)), (.int .i64 (.i 0)), (.sl .nil (.n 0) (.n 0))])] [((.b (.v 6)), (.prop 46))] [.i, .i, .i, .i, .a, .n, .n, .p, .a, .n, .n, .p, .p] (.w (.agg [(.int .i64 (.v 48)), (.int .i64 (.v 49)), (.int .i64 (.v 50)), (.int .i64 (.v 51)), (.sl (.v 52) (.v 53) (.v 54)), (.sl (.v 56) (.v 57) (.v 58))])) [((.a 52), (.prop 55)), ((.a 56), (.prop 59)), ((.b (.v 6)), (.prop 60))]
            (.again 0 [(.n (.v 47)), (.n (.v 33)), (.e (.o1 .neg (.o1 .neg (.v 48)))), (.e (.o1 .neg (.o1 .neg (.v 49)))), (.e (.o1 .neg (.o1 .neg (.v 50)))), (.e (.o1 .neg (.o1 .neg (.v 51)))), (.a (.v 52)), (.e (.o2 .nadd (.v 53) (.n 0))), (.e (.o2 .nadd (.v 54) (.n 0))), (.a (.v 56)), (.e (.o2 .nadd (.v 57) (.n 0))), (.e (.o2 .nadd (.v 58) (.n 0))), (.e (.o1 .neg (.o1 .neg (.v 34)))), (.e (.o1 .neg (.o1 .neg (.v 35)))), (.e (.o1 .neg (.o1 .neg (.v 36)))), (.e (.o1 .neg (.o1 .neg (.v 37)))), (.a (.v 38)), (.e (.o2 .nadd (.v 39) (.n 0))), (.e (.o2 .nadd (.v 40) (.n 0))), (.a (.v 42)), (.e (.o2 .nadd (.v 43) (.n 0))), (.e (.o2 .nadd (.v 44) (.n 0))), (.p [((.a 52), (.prop 55))]), (.p [((.a 56), (.prop 59))]), (.p [((.b (.v 6)), (.prop 60))]), (.p [((.a 38), (.prop 41))]), (.p [((.a 42), (.prop 45))])])))))
           (.new
           (.call 18 [(.a (.ptr (.v 6) 0)), (.agg [(.int .i64 (.i 10)), (.str (.v 12)), (.str (.s [])), (.int .i64 (.i 0)), (.int .i64 (.i 0)), (.sl .nil (.n 0) (.n 0))])] [((.b (.v 6)), (.prop 32))] [.i, .i, .i, .i, .a, .n, .n, .p, .a, .n, .n, .p, .p] (.w (.agg [(.int .i64 (.v 35)), (.int .i64 (.v 36)), (.int .i64 (.v 37)), (.int .i64 (.v 38)), (.sl (.v 39) (.v 40) (.v 41)), (.sl (.v 43) (.v 44) (.v 45))])) [((.a 39), (.prop 42)), ((.a 43), (.prop 46)), ((.b (.v 6)), (.prop 47))]
           (.call 18 [(.a (.ptr (.v 6) 0)), (.agg [(.int .i64 (.i 11)), (.str (.v 12)), (.str (.s [])), (.int .i64 (.i 0)), (.int .i64 (.i 0)), (.sl .nil (.n 0) (.n 0))])] [((.b (.v 6)), (.prop 47))] [.i, .i, .i, .i, .a, .n, .n, .p, .a, .n, .n, .p, .p] (.w (.agg [(.int .i64 (.v 48)), (.int .i64 (.v 49)), (.int .i64 (.v 50)), (.int .i64 (.v 51)), (.sl (.v 52) (.v 53) (.v 54)), (.sl (.v 56) (.v 57) (.v 58))])) [((.a 52), (.prop 55)), ((.a 56), (.prop 59)), ((.b (.v 6)), (.prop 60))]
           (.again 0 [(.n (.v 34)), (.n (.v 33)), (.e (.o1 .neg (.o1 .neg (.v 48)))), (.e (.o1 .neg (.o1 .neg (.v 49)))), (.e (.o1 .neg (.o1 .neg (.v 50)))), (.e (.o1 .neg (.o1 .neg (.v 51)))), (.a (.v 52)), (.e (.o2 .nadd (.v 53) (.n 0))), (.e (.o2 .nadd (.v 54) (.n 0))), (.a (.v 56)), (.e (.o2 .nadd (.v 57) (.n 0))), (.e (.o2 .nadd (.v 58) (.n 0))), (.e (.o1 .neg (.o1 .neg (.v 35)))), (.e (.o1 .neg (.o1 .neg (.v 36)))), (.e (.o1 .neg (.o1 .neg (.v 37)))), (.e (.o1 .neg (.o1 .neg (.v 38)))), (.a (.v 39)), (.e (.o2 .nadd (.v 40) (.n 0))), (.e (.o2 .nadd (.v 41) (.n 0))), (.a (.v 43)), (.e (.o2 .nadd (.v 44) (.n 0))), (.e (.o2 .nadd (.v 45) (.n 0))), (.p [((.a 52), (.prop 55))]), (.p [((.a 56), (.prop 59))]), (.p [((.b (.v 6)), (.prop 60))]), (.p [((.a 39), (.prop 42))]), (.p [((.a 43), (.prop 46))])]))))))))
        (.all
         (.new
         (.all
          (.all
           (.call 18 [(.a (.ptr (.v 6) 0)), (.agg [(.int .i64 (.i 10)), (.str (.v 12)), (.str (.s [])), (.int .i64 (.i 0)), (.int .i64 (.i 0)), (.sl .nil (.n 0) (.n 0))])] [((.b (.v 6)), (.prop 32))] [.i, .i, .i, .i, .a, .n, .n, .p, .a, .n, .n, .p, .p] (.w (.agg [(.int .i64 (.v 34)), (.int .i64 (.v 35)), (.int .i64 (.v 36)), (.int .i64 (.v 37)), (.sl (.v 38) (.v 39) (.v 40)), (.sl (.v 42) (.v 43) (.v 44))])) [((.a 38), (.prop 41)), ((.a 42), (.prop 45)), ((.b (.v 6)), (.prop 46))]
           (.all
            (.call 18 [(.a (.ptr (.v 6) 0)), (.agg [(.int .i64 (.i 11)), (.str (.v 12)), (.str (.s [])), (.int .i64 (.i 0)), (.int .i64 (.i 0)), (.sl .nil (.n 0) (.n 0))])] [((.b (.v 6)), (.prop 46))] [.i, .i, .i, .i, .a, .n, .n, .p, .a, .n, .n, .p, .p] (.w (.agg [(.int .i64 (.v 47)), (.int .i64 (.v 48)), (.int .i64 (.v 49)), (.int .i64 (.v 50)), (.sl (.v 51) (.v 52) (.v 53)), (.sl (.v 55) (.v 56) (.v 57))])) [((.a 51), (.prop 54)), ((.a 55), (.prop 58)), ((.b (.v 6)), (.prop 59))]
            (.new
            (.again 0 [(.n (.v 33)), (.n (.v 60)), (.e (.o1 .neg (.o1 .neg (.v 47)))), (.e (.o1 .neg (.o1 .neg (.v 48)))), (.e (.o1 .neg (.o1 .neg (.v 49)))), (.e (.o1 .neg (.o1 .neg (.v 50)))), (.a (.v 51)), (.e (.o2 .nadd (.v 52) (.n 0))), (.e (.o2 .nadd (.v 53) (.n 0))), (.a (.v 55)), (.e (.o2 .nadd (.v 56) (.n 0))), (.e (.o2 .nadd (.v 57) (.n 0))), (.e (.o1 .neg (.o1 .neg (.v 34)))), (.e (.o1 .neg (.o1 .neg (.v 35)))), (.e (.o1 .neg (.o1 .neg (.v 36)))), (.e (.o1 .neg (.o1 .neg (.v 37)))), (.a (.v 38)), (.e (.o2 .nadd (.v 39) (.n 0))), (.e (.o2 .nadd (.v 40) (.n 0))), (.a (.v 42)), (.e (.o2 .nadd (.v 43) (.n 0))), (.e (.o2 .nadd (.v 44) (.n 0))), (.p [((.a 51), (.prop 54))]), (.p [((.a 55), (.prop 58))]), (.p [((.b (.v 6)), (.prop 59))]), (.p [((.a 38), (.prop 41))]), (.p [((.a 42), (.prop 45))])])))
            (.new
            (.call 18 [(.a (.ptr (.v 6) 0)), (.agg [(.int .i64 (.i 11)), (.str (.v 12)), (.str (.s [])), (.int .i64 (.i 0)), (.int .i64 (.i 0)), (.sl .nil (.n 0) (.n 0))])] [((.b (.v 6)), (.prop 46))] [.i, .i, .i, .i, .a, .n, .n, .p, .a, .n, .n, .p, .p] (.w (.agg [(.int .i64 (.v 48)), (.int .i64 (.v 49)), (.int .i64 (.v 50)), (.int .i64 (.v 51)), (.sl (.v 52) (.v 53) (.v 54)), (.sl (.v 56) (.v 57) (.v 58))])) [((.a 52), (.prop 55)), ((.a 56), (.prop 59)), ((.b (.v 6)), (.prop 60))]
            (.again 0 [(.n (.v 33)), (.n (.v 47)), (.e (.o1 .neg (.o1 .neg (.v 48)))), (.e (.o1 .neg (.o1 .neg (.v 49)))), (.e (.o1 .neg (.o1 .neg (.v 50)))), (.e (.o1 .neg (.o1 .neg (.v 51)))), (.a (.v 52)), (.e (.o2 .nadd (.v 53) (.n 0))), (.e (.o2 .nadd (.v 54) (.n 0))), (.a (.v 56)), (.e (.o2 .nadd (.v 57) (.n 0))), (.e (.o2 .nadd (.v 58) (.n 0))), (.e (.o1 .neg (.o1 .neg (.v 34)))), (.e (.o1 .neg (.o1 .neg (.v 35)))), (.e (.o1 .neg (.o1 .neg (.v 36)))), (.e (.o1 .neg (.o1 .neg (.v 37)))), (.a (.v 38)), (.e (.o2 .nadd (.v 39) (.n 0))), (.e (.o2 .nadd (.v 40) (.n 0))), (.a (.v 42)), (.e (.o2 .nadd (.v 43) (.n 0))), (.e (.o2 .nadd (.v 44) (.n 0))), (.p [((.a 52), (.prop 55))]), (.p [((.a 56), (.prop 59))]), (.p [((.b (.v 6)), (.prop 60))]), (.p [((.a 38), (.prop 41))]), (.p [((.a 42), (.prop 45))])])))))
           (.new
           (.call 18 [(.a (.ptr (.v 6) 0)), (.agg [(.int .i64 (.i 10)), (.str (.v 12)), (.str (.s [])), (.int .i64 (.i 0)), (.int .i64 (.i 0)), (.sl .nil (.n 0) (.n 0))])] [((.b (.v 6)), (.prop 32))] [.i, .i, .i, .i, .a, .n, .n, .p, .a, .n, .n, .p, .p] (.w (.agg [(.int .i64 (.v 35)), (.int .i64 (.v 36)), (.int .i64 (.v 37)), (.int .i64 (.v 38)), (.sl (.v 39) (.v 40) (.v 41)), (.sl (.v 43) (.v 44) (.v 45))])) [((.a 39), (.prop 42)), ((.a 43), (.prop 46)), ((.b (.v 6)), (.prop 47))]
           (.call 18 [(.a (.ptr (.v 6) 0)), (.agg [(.int .i64 (.i 11)), (.str (.v 12)), (.str (.s [])), (.int .i64 (.i 0)), (.int .i64 (.i 0)), (.sl .nil (.n 0) (.n 0))])] [((.b (.v 6)), (.prop 47))] [.i, .i, .i, .i, .a, .n, .n, .p, .a, .n, .n, .p, .p] (.w (.agg [(.int .i64 (.v 48)), (.int .i64 (.v 49)), (.int .i64 (.v 50)), (.int .i64 (.v 51)), (.sl (.v 52) (.v 53) (.v 54)), (.sl (.v 56) (.v 57) (.v 58))])) [((.a 52), (.prop 55)), ((.a 56), (.prop 59)), ((.b (.v 6)), (.prop 60))]
           (.again 0 [(.n (.v 33)), (.n (.v 34)), (.e (.o1 .neg (.o1 .neg (.v 48)))), (.e (.o1 .neg (.o1 .neg (.v 49)))), (.e (.o1 .neg (.o1 .neg (.v 50)))), (.e (.o1 .neg (.o1 .neg (.v 51)))), (.a (.v 52)), (.e (.o2 .nadd (.v 53) (.n 0))), (.e (.o2 .nadd (.v 54) (.n 0))), (.a (.v 56)), (.e (.o2 .nadd (.v 57) (.n 0))), (.e (.o2 .nadd (.v 58) (.n 0))), (.e (.o1 .neg (.o1 .neg (.v 35)))), (.e (.o1 .neg (.o1 .neg (.v 36)))), (.e (.o1 .neg (.o1 .neg (.v 37)))), (.e (.o1 .neg (.o1 .neg (.v 38)))), (.a (.v 39)), (.e (.o2 .nadd (.v 40) (.n 0))), (.e (.o2 .nadd (.v 41) (.n 0))), (.a (.v 43)), (.e (.o2 .nadd (.v 44) (.n 0))), (.e (.o2 .nadd (.v 45) (.n 0))), (.p [((.a 52), (.prop 55))]), (.p [((.a 56), (.prop 59))]), (.p [((.b (.v 6)), (.prop 60))]), (.p [((.a 39), (.prop 42))]), (.p [((.a 43), (.prop 46))])])))))
          (.new
          (.call 18 [(.a (.ptr (.v 6) 0)), (.agg [(.int .i64 (.i 10)), (.str (.v 12)), (.str (.s [])), (.int .i64 (.i 0)), (.int .i64 (.i 0)), (.sl .nil (.n 0) (.n 0))])] [((.b (.v 6)), (.prop 32))] [.i, .i, .i, .i, .a, .n, .n, .p, .a, .n, .n, .p, .p] (.w (.agg [(.int .i64 (.v 35)), (.int .i64 (.v 36)), (.int .i64 (.v 37)), (.int .i64 (.v 38)), (.sl (.v 39) (.v 40) (.v 41)), (.sl (.v 43) (.v 44) (.v 45))])) [((.a 39), (.prop 42)), ((.a 43), (.prop 46)), ((.b (.v 6)), (.prop 47))]
          (.call 18 [(.a (.ptr (.v 6) 0)), (.agg [(.int .i64 (.i 11)), (.str (.v 12)), (.str (.s [])), (.int .i64 (.i 0)), (.int .i64 (.i 0)), (.sl .nil (.n 0) (.n 0))])] [((.b (.v 6)), (.prop 47))] [.i, .i, .i, .i, .a, .n, .n, .p, .a, .n, .n, .p, .p] (.w (.agg [(.int .i64 (.v 48)), (.int .i64 (.v 49)), (.int .i64 (.v 50)), (.int .i64 (.v 51)), (.sl (.v 52) (.v 53) (.v 54)), (.sl (.v 56) (.v 57) (.v 58))])) [((.a 52), (.prop 55)), ((.a 56), (.prop 59)), ((.b (.v 6)), (.prop 60))]
          (.again 0 [(.n (.v 33)), (.n (.v 34)), (.e (.o1 .neg (.o1 .neg (.v 48)))), (.e (.o1 .neg (.o1 .neg (.v 49)))), (.e (.o1 .neg (.o1 .neg (.v 50)))), (.e (.o1 .neg (.o1 .neg (.v 51)))), (.a (.v 52)), (.e (.o2 .nadd (.v 53) (.n 0))), (.e (.o2 .nadd (.v 54) (.n 0))), (.a (.v 56)), (.e (.o2 .nadd (.v 57) (.n 0))), (.e (.o2 .nadd (.v 58) (.n 0))), (.e (.o1 .neg (.o1 .neg (.v 35)))), (.e (.o1 .neg (.o1 .neg (.v 36)))), (.e (.o1 .neg (.o1 .neg (.v 37)))), (.e (.o1 .neg (.o1 .neg (.v 38)))), (.a (.v 39)), (.e (.o2 .nadd (.v 40) (.n 0))), (.e (.o2 .nadd (.v 41) (.n 0))), (.a (.v 43)), (.e (.o2 .nadd (.v 44) (.n 0))), (.e (.o2 .nadd (.v 45) (.n 0))), (.p [((.a 52), (.prop 55))]), (.p [((.a 56), (.prop 59))]), (.p [((.b (.v 6)), (.prop 60))]), (.p [((.a 39), (.prop 42))]), (.p [((.a 43), (.prop 46))])]))))))
         (.new
         (.all
          (.all
           (.call 18 [(.a (.ptr (.v 6) 0)), (.agg [(.int .i64 (.i 10)), (.str (.v 12)), (.str (.s [])), (.int .i64 (.i 0)), (.int .i64 (.i 0)), (.sl .nil (.n 0) (.n 0))])] [((.b (.v 6)), (.prop 32))] [.i, .i, .i, .i, .a, .n, .n, .p, .a, .n, .n, .p, .p] (.w (.agg [(.int .i64 (.v 34)), (.int .i64 (.v 35)), (.int .i64 (.v 36)), (.int .i64 (.v 37)), (.sl (.v 38) (.v 39) (.v 40)), (.sl (.v 42) (.v 43) (.v 44))])) [((.a 38), (.prop 41)), ((.a 42), (.prop 45)), ((.b (.v 6)), (.prop 46))]
           (.all
            (.call 18 [(.a (.ptr (.v 6) 0)), (.agg [(.int .i64 (.i 11)), (.str (.v 12)), (.str (.s [])), (.int .i64 (.i 0)), (.int .i64 (.i 0)), (.sl .nil (.n 0) (.n 0))])] [((.b (.v 6)), (.prop 46))] [.i, .i, .i, .i, .a, .n, .n, .p, .a, .n, .n, .p, .p] (.w (.agg [(.int .i64 (.v 47)), (.int .i64 (.v 48)), (.int .i64 (.v 49)), (.int .i64 (.v 50)), (.sl (.v 51) (.v 52) (.v 53)), (.sl (.v 55) (.v 56) (.v 57))])) [((.a 51), (.prop 54)), ((.a 55), (.prop 58)), ((.b (.v 6)), (.prop 59))]
            (.new
            (.again 0 [(.n (.v 60)), (.n (.v 33)), (.e (.o1 .neg (.o1 .neg (.v 47)))), (.e (.o1 .neg (.o1 .neg (.v 48)))), (.e (.o1 .neg (.o1 .neg (.v 49)))), (.e (.o1 .neg (.o1 .neg (.v 50)))), (.a (.v 51)), (.e (.o2 .nadd (.v 52) (.n 0))), (.e (.o2 .nadd (.v 53) (.n 0))), (.a (.v 55)), (.e (.o2 .nadd (.v 56) (.n 0))), (.e (.o2 .nadd (.v 57) (.n 0))), (.e (.o1 .neg (.o1 .neg (.v 34)))), (.e (.o1 .neg (.o1 .neg (.v 35)))), (.e (.o1 .neg (.o1 .neg (.v 36)))), (.e (.o1 .neg (.o1 .neg (.v 37)))), (.a (.v 38)), (.e (.o2 .nadd (.v 39) (.n 0))), (.e (.o2 .nadd (.v 40) (.n 0))), (.a (.v 42)), (.e (.o2 .nadd (.v 43) (.n 0))), (.e (.o2 .nadd (.v 44) (.n 0))), (.p [((.a 51), (.prop 54))]), (.p [((.a 55), (.prop 58))]), (.p [((.b (.v 6)), (.prop 59))]), (.p [((.a 38), (.prop 41))]), (.p [((.a 42), (.prop 45))])])))
            (.new
            (.call 18 [(.a (.ptr (.v 6) 0)), (.agg [(.int .i64 (.i 11)), (.str (.v 12)), (.str (.s [])), (.int .i64 (.i 0)), (.int .i64 (.i 0)), (.sl .nil (.n 0) (.n 0))])] [((.b (.v 6)), (.prop 46))] [.i, .i, .i, .i, .a, .n, .n, .p, .a, .n, .n, .p, .p] (.w (.agg [(.int .i64 (.v 48)), (.int .i64 (.v 49)), (.int .i64 (.v 50)), (.int .i64 (.v 51)), (.sl (.v 52) (.v 53) (.v 54)), (.sl (.v 56) (.v 57) (.v 58))])) [((.a 52), (.prop 55)), ((.a 56), (.prop 59)), ((.b (.v 6)), (.prop 60))]
            (.again 0 [(.n (.v 47)), (.n (.v 33)), (.e (.o1 .neg (.o1 .neg (.v 48)))), (.e (.o1 .neg (.o1 .neg (.v 49)))), (.e (.o1 .neg (.o1 .neg (.v 50)))), (.e (.o1 .neg (.o1 .neg (.v 51)))), (.a (.v 52)), (.e (.o2 .nadd (.v 53) (.n 0))), (.e (.o2 .nadd (.v 54) (.n 0))), (.a (.v 56)), (.e (.o2 .nadd (.v 57) (.n 0))), (.e (.o2 .nadd (.v 58) (.n 0))), (.e (.o1 .neg (.o1 .neg (.v 34)))), (.e (.o1 .neg (.o1 .neg (.v 35)))), (.e (.o1 .neg (.o1 .neg (.v 36)))), (.e (.o1 .neg (.o1 .neg (.v 37)))), (.a (.v 38)), (.e (.o2 .nadd (.v 39) (.n 0))), (.e (.o2 .nadd (.v 40) (.n 0))), (.a (.v 42)), (.e (.o2 .nadd (.v 43) (.n 0))), (.e (.o2 .nadd (.v 44) (.n 0))), (.p [((.a 52), (.prop 55))]), (.p [((.a 56), (.prop 59))]), (.p [((.b (.v 6)), (.prop 60))]), (.p [((.a 38), (.prop 41))]), (.p [((.a 42), (.prop 45))])])))))
           (.new
           (.call 18 [(.a (.ptr (.v 6) 0)), (.agg [(.int .i64 (.i 10)), (.str (.v 12)), (.str (.s [])), (.int .i64 (.i 0)), (.int .i64 (.i 0)), (.sl .nil (.n 0) (.n 0))])] [((.b (.v 6)), (.prop 32))] [.i, .i, .i, .i, .a, .n, .n, .p, .a, .n, .n, .p, .p] (.w (.agg [(.int .i64 (.v 35)), (.int .i64 (.v 36)), (.int .i64 (.v 37)), (.int .i64 (.v 38)), (.sl (.v 39) (.v 40) (.v 41)), (.sl (.v 43) (.v 44) (.v 45))])) [((.a 39), (.prop 42)), ((.a 43), (.prop 46)), ((.b (.v 6)), (.prop 47))]
           (.call 18 [(.a (.ptr (.v 6) 0)), (.agg [(.int .i64 (.i 11)), (.str (.v 12)), (.str (.s [])), (.int .i64 (.i 0)), (.int .i64 (.i 0)), (.sl .nil (.n 0) (.n 0))])] [((.b (.v 6)), (.prop 47))] [.i, .i, .i, .i, .a, .n, .n, .p, .a, .n, .n, .p, .p] (.w (.agg [(.int .i64 (.v 48)), (.int .i64 (.v 49)), (.int .i64 (.v 50)), (.int .i64 (.v 51)), (.sl (.v 52) (.v 53) (.v 54)), (.sl (.v 56) (.v 57) (.v 58))])) [((.a 52), (.prop 55)), ((.a 56), (.prop 59)), ((.b (.v 6)), (.prop 60))]
           (.again 0 [(.n (.v 34)), (.n (.v 33)), (.e (.o1 .neg (.o1 .neg (.v 48)))), (.e (.o1 .neg (.o1 .neg (.v 49)))), (.e (.o1 .neg (.o1 .neg (.v 50)))), (.e (.o1 .neg (.o1 .neg (.v 51)))), (.a (.v 52)), (.e (.o2 .nadd (.v 53) (.n 0))), (.e (.o2 .nadd (.v 54) (.n 0))), (.a (.v 56)), (.e (.o2 .nadd (.v 57) (.n 0))), (.e (.o2 .nadd (.v 58) (.n 0))), (.e (.o1 .neg (.o1 .neg (.v 35)))), (.e (.o1 .neg (.o1 .neg (.v 36)))), (.e (.o1 .neg (.o1 .neg (.v 37)))), (.e (.o1 .neg (.o1 .neg (.v 38)))), (.a (.v 39)), (.e (.o2 .nadd (.v 40) (.n 0))), (.e (.o2 .nadd (.v 41) (.n 0))), (.a (.v 43)), (.e (.o2 .nadd (.v 44) (.n 0))), (.e (.o2 .nadd (.v 45) (.n 0))), (.p [((.a 52), (.prop 55))]), (.p [((.a 56), (.prop 59))]), (.p [((.b (.v 6)), (.prop 60))]), (.p [((.a 39), (.prop 42))]), (.p [((.a 43), (.prop 46))])])))))
          (.new
          (.call 18 [(.a (.ptr (.v 6) 0)), (.agg [(.int .i64 (.i 10)), (.str (.v 12)), (.str (.s [])), (.int .i64 (.i 0)), (.int .i64 (.i 0)), (.sl .nil (.n 0) (.n 0))])] [((.b (.v 6)), (.prop 32))] [.i, .i, .i, .i, .a, .n, .n, .p, .a, .n, .n, .p, .p] (.w (.agg [(.int .i64 (.v 35)), (.int .i64 (.v 36)), (.int .i64 (.v 37)), (.int .i64 (.v 38)), (.sl (.v 39) (.v 40) (.v 41)), (.sl (.v 43) (.v 44) (.v 45))])) [((.a 39), (.prop 42)), ((.a 43), (.prop 46)), ((.b (.v 6)), (.prop 47))]
          (.call 18 [(.a (.ptr (.v 6) 0)), (.agg [(.int .i64 (.i 11)), (.str (.v 12)), (.str (.s [])), (.int .i64 (.i 0)), (.int .i64 (.i 0)), (.sl .nil (.n 0) (.n 0))])] [((.b (.v 6)), (.prop 47))] [.i, .i, .i, .i, .a, .n, .n, .p, .a, .n, .n, .p, .p] (.w (.agg [(.int .i64 (.v 48)), (.int .i64 (.v 49)), (.int .i64 (.v 50)), (.int .i64 (.v 51)), (.sl (.v 52) (.v 53) (.v 54)), (.sl (.v 56) (.v 57) (.v 58))])) [((.a 52), (.prop 55)), ((.a 56), (.prop 59)), ((.b (.v 6)), (.prop 60))]
          (.again 0 [(.n (.v 34)), (.n (.v 33)), (.e (.o1 .neg (.o1 .neg (.v 48)))), (.e (.o1 .neg (.o1 .neg (.v 49)))), (.e (.o1 .neg (.o1 .neg (.v 50)))), (.e (.o1 .neg (.o1 .neg (.v 51)))), (.a (.v 52)), (.e (.o2 .nadd (.v 53) (.n 0))), (.e (.o2 .nadd (.v 54) (.n 0))), (.a (.v 56)), (.e (.o2 .nadd (.v 57) (.n 0))), (.e (.o2 .nadd (.v 58) (.n 0))), (.e (.o1 .neg (.o1 .neg (.v 35)))), (.e (.o1 .neg (.o1 .neg (.v 36)))), (.e (.o1 .neg (.o1 .neg (.v 37)))), (.e (.o1 .neg (.o1 .neg (.v 38)))), (.a (.v 39)), (.e (.o2 .nadd (.v 40) (.n 0))), (.e (.o2 .nadd (.v 41) (.n 0))), (.a (.v 43)), (.e (.o2 .nadd (.v 44) (.n 0))), (.e (.o2 .nadd (.v 45) (.n 0))), (.p [((.a 52), (.prop 55))]), (.p [((.a 56), (.prop 59))]), (.p [((.b (.v 6)), (.prop 60))]), (.p [((.a 39), (.prop 42))]), (.p [((.a 43), (.prop 46))])]))))))))
       (.all
        (.new
        (.all
         (.all
          (.call 18 [(.a (.ptr (.v 6) 0)), (.agg [(.int .i64 (.i 10)), (.str (.v 12)), (.str (.s [])), (.int .i64 (.i 0)), (.int .i64 (.i 0)), (.sl .nil (.n 0) (.n 0))])] [((.b (.v 6)), (.prop 32))] [.i, .i, .i, .i, .a, .n, .n, .p, .a, .n, .n, .p, .p] (.w (.agg [(.int .i64 (.v 34)), (.int .i64 (.v 35)), (.int .i64 (.v 36)), (.int .i64 (.v 37)), (.sl (.v 38) (.v 39) (.v 40)), (.sl (.v 42) (.v 43) (.v 44))])) [((.a 38), (.prop 41)), ((.a 42), (.prop 45)), ((.b (.v 6)), (.prop 46))]
          (.all
           (.all
            (.call 18 [(.a (.ptr (.v 6) 0)), (.agg [(.int .i64 (.i 11)), (.str (.v 12)), (.str (.s [])), (.int .i64 (.i 0)), (.int .i64 (.i 0)), (.sl .nil (.n 0) (.n 0))])] [((.b (.v 6)), (.prop 46))] [.i, .i, .i, .i, .a, .n, .n, .p, .a, .n, .n, .p, .p] (.w (.agg [(.int .i64 (.v 47)), (.int .i64 (.v 48)), (.int .i64 (.v 49)), (.int .i64 (.v 50)), (.sl (.v 51) (.v 52) (.v 53)), (.sl (.v 55) (.v 56) (.v 57))])) [((.a 51), (.prop 54)), ((.a 55), (.prop 58)), ((.b (.v 6)), (.prop 59))]
            (.new
            (.again 0 [(.n (.v 33)), (.n (.v 60)), (.e (.o1 .neg (.o1 .neg (.v 47)))), (.e (.o1 .neg (.o1 .neg (.v 48)))), (.e (.o1 .neg (.o1 .neg (.v 49)))), (.e (.o1 .neg (.o1 .neg (.v 50)))), (.a (.v 51)), (.e (.o2 .nadd (.v 52) (.n 0))), (.e (.o2 .nadd (.v 53) (.n 0))), (.a (.v 55)), (.e (.o2 .nadd (.v 56) (.n 0))), (.e (.o2 .nadd (.v 57) (.n 0))), (.e (.o1 .neg (.o1 .neg (.v 34)))), (.e (.o1 .neg (.o1 .neg (.v 35)))), (.e (.o1 .neg (.o1 .neg (.v 36)))), (.e (.o1 .neg (.o1 .neg (.v 37)))), (.a (.v 38)), (.e (.o2 .nadd (.v 39) (.n 0))), (.e (.o2 .nadd (.v 40) (.n 0))), (.a (.v 42)), (.e (.o2 .nadd (.v 43) (.n 0))), (.e (.o2 .nadd (.v 44) (.n 0))), (.p [((.a 51), (.prop 54))]), (.p [((.a 55), (.prop 58))]), (.p [((.b (.v 6)), (.prop 59))]), (.p [((.a 38), (.prop 41))]), (.p [((.a 42), (.prop 45))])])))
            (.new
            (.call 18 [(.a (.ptr (.v 6) 0)), (.agg [(.int .i64 (.i 11)), (.str (.v 12)), (.str (.s [])), (.int .i64 (.i 0)), (.int .i64 (.i 0)), (.sl .nil (.n 0) (.n 0))])] [((.b (.v 6)), (.prop 46))] [.i, .i, .i, .i, .a, .n, .n, .p, .a, .n, .n, .p, .p] (.w (.agg [(.int .i64 (.v 48)), (.int .i64 (.v 49)), (.int .i64 (.v 50)), (.int .i64 (.v 51)), (.sl (.v 52) (.v 53) (.v 54)), (.sl (.v 56) (.v 57) (.v 58))])) [((.a 52), (.prop 55)), ((.a 56), (.prop 59)), ((.b (.v 6)), (.prop 60))]
            (.again 0 [(.n (.v 33)), (.n (.v 47)), (.e (.o1 .neg (.o1 .neg (.v 48)))), (.e (.o1 .neg (.o1 .neg (.v 49)))), (.e (.o1 .neg (.o1 .neg (.v 50)))), (.e (.o1 .neg (.o1 .neg (.v 51)))), (.a (.v 52)), (.e (.o2 .nadd (.v 53) (.n 0))), (.e (.o2 .nadd (.v 54) (.n 0))), (.a (.v 56)), (.e (.o2 .nadd (.v 57) (.n 0))), (.e (.o2 .nadd (.v 58) (.n 0))), (.e (.o1 .neg (.o1 .neg (.v 34)))), (.e (.o1 .neg (.o1 .neg (.v 35)))), (.e (.o1 .neg (.o1 .neg (.v 36)))), (.e (.o1 .neg (.o1 .neg (.v 37)))), (.a (.v 38)), (.e (.o2 .nadd (.v 39) (.n 0))), (.e (.o2 .nadd (.v 40) (.n 0))), (.a (.v 42)), (.e (.o2 .nadd (.v 43) (.n 0))), (.e (.o2 .nadd (.v 44) (.n 0))), (.p [((.a 52), (.prop 55))]), (.p [((.a 56), (.prop 59))]), (.p [((.b (.v 6)), (.prop 60))]), (.p [((.a 38), (.prop 41))]), (.p [((.a 42), (.prop 45))])]))))
           (.new
           (.call 18 [(.a (.ptr (.v 6) 0)), (.agg [(.int .i64 (.i 11)), (.str (.v 12)), (.str (.s [])), (.int .i64 (.i 0)), (.int .i64 (.i 0)), (.sl .nil (.n 0) (.n 0))])] [((.b (.v 6)), (.prop 46))] [.i, .i, .i, .i, .a, .n, .n, .p, .a, .n, .n, .p, .p] (.w (.agg [(.int .i64 (.v 48)), (.int .i64 (.v 49)), (.int .i64 (.v 50)), (.int .i64 (.v 51)), (.sl (.v 52) (.v 53) (.v 54)), (.sl (.v 56) (.v 57) (.v 58))])) [((.a 52), (.prop 55)), ((.a 56), (.prop 59)), ((.b (.v 6)), (.prop 60))]
           (.again 0 [(.n (.v 33)), (.n (.v 47)), (.e (.o1 .neg (.o1 .neg (.v 48)))), (.e (.o1 .neg (.o1 .neg (.v 49)))), (.e (.o1 .neg (.o1 .neg (.v 50)))), (.e (.o1 .neg (.o1 .neg (.v 51)))), (.a (.v 52)), (.e (.o2 .nadd (.v 53) (.n 0))), (.e (.o2 .nadd (.v 54) (.n 0))), (.a (.v 56)), (.e (.o2 .nadd (.v 57) (.n 0))), (.e (.o2 .nadd (.v 58) (.n 0))), (.e (.o1 .neg (.o1 .neg (.v 34)))), (.e (.o1 .neg (.o1 .neg (.v 35)))), (.e (.o1 .neg (.o1 .neg (.v 36)))), (.e (.o1 .neg (.o1 .neg (.v 37)))), (.a (.v 38)), (.e (.o2 .nadd (.v 39) (.n 0))), (.e (.o2 .nadd (.v 40) (.n 0))), (.a (.v 42)), (.e (.o2 .nadd (.v 43) (.n 0))), (.e (.o2 .nadd (.v 44) (.n 0))), (.p [((.a 52), (.prop 55))]), (.p [((.a 56), (.prop 59))]), (.p [((.b (.v 6)), (.prop 60))]), (.p [((.a 38), (.prop 41))]), (.p [((.a 42), (.prop 45))])])))))
          (.all
           (.all
            (.call 18 [(.a (.ptr (.v 6) 0)), (.agg [(.int .i64 (.i 10)), (.str (.v 12)), (.str (.s [])), (.int .i64 (.i 0)), (.int .i64 (.i 0)), (.sl .nil (.n 0) (.n 0))])] [((.b (.v 6)), (.prop 32))] [.i, .i, .i, .i, .a, .n, .n, .p, .a, .n, .n, .p, .p] (.w (.agg [(.int .i64 (.v 34)), (.int .i64 (.v 35)), (.int .i64 (.v 36)), (.int .i64 (.v 37)), (.sl (.v 38) (.v 39) (.v 40)), (.sl (.v 42) (.v 43) (.v 44))])) [((.a 38), (.prop 41)), ((.a 42), (.prop 45)), ((.b (.v 6)), (.prop 46))]
            (.all
             (.call 18 [(.a (.ptr (.v 6) 0)), (.agg [(.int .i64 (.i 11)), (.str (.v 12)), (.str (.s [])), (.int .i64 (.i 0)), (.int .i64 (.i 0)), (.sl .nil (.n 0) (.n 0))])] [((.b (.v 6)), (.prop 46))] [.i, .i, .i, .i, .a, .n, .n, .p, .a, .n, .n, .p, .p] (.w (.agg [(.int .i64 (.v 47)), (.int .i64 (.v 48)), (.int .i64 (.v 49)), (.int .i64 (.v 50)), (.sl (.v 51) (.v 52) (.v 53)), (.sl (.v 55) (.v 56) (.v 57))])) [((.a 51), (.prop 54)), ((.a 55), (.prop 58)), ((.b (.v 6)), (.prop 59))]
             (.new
             (.again 0 [(.n (.v 33)), (.n (.v 60)), (.e (.o1 .neg (.o1 .neg (.v 47)))), (.e (.o1 .neg (.o1 .neg (.v 48)))), (.e (.o1 .neg (.o1 .neg (.v 49)))), (.e (.o1 .neg (.o1 .neg (.v 50)))), (.a (.v 51)), (.e (.o2 .nadd (.v 52) (.n 0))), (.e (.o2 .nadd (.v 53) (.n 0))), (.a (.v 55)), (.e (.o2 .nadd (.v 56) (.n 0))), (.e (.o2 .nadd (.v 57) (.n 0))), (.e (.o1 .neg (.o1 .neg (.v 34)))), (.e (.o1 .neg (.o1 .neg (.v 35)))), (.e (.o1 .neg (.o1 .neg (.v 36)))), (.e (.o1 .neg (.o1 .neg (.v 37)))), (.a (.v 38)), (.e (.o2 .nadd (.v 39) (.n 0))), (.e (.o2 .nadd (.v 40) (.n 0))), (.a (.v 42)), (.e (.o2 .nadd (.v 43) (.n 0))), (.e (.o2 .nadd (.v 44) (.n 0))), (.p [((.a 51), (.prop 54))]), (.p [((.a 55), (.prop 58))]), (.p [((.b (.v 6)), (.prop 59))]), (.p [((.a 38), (.prop 41))]), (.p [((.a 42), (.prop 45))])])))
             (.new
             (.call 18 [(.a (.ptr (.v 6) 0)), (.agg [(.int .i64 (.i 11)), (.str (.v 12)), (.str (.s [])), (.int .i64 (.i 0)), (.int .i64 (.i 0)), (.sl .nil (.n 0) (.n 0))])] [((.b (.v 6)), (.prop 46))] [.i, .i, .i, .i, .a, .n, .n, .p, .a, .n, .n, .p, .p] (.w (.agg [(.int .i64 (.v 48)), (.int .i64 (.v 49)), (.int .i64 (.v 50)), (.int .i64 (.v 51)), (.sl (.v 52) (.v 53) (.v 54)), (.sl (.v 56) (.v 57) (.v 58))])) [((.a 52), (.prop 55)), ((.a 56), (.prop 59)), ((.b (.v 6)), (.prop 60))]
             (.again 0 [(.n (.v 33)), (.n (.v 47)), (.e (.o1 .neg (.o1 .neg (.v 48)))), (.e (.o1 .neg (.o1 .neg (.v 49)))), (.e (.o1 .neg (.o1 .neg (.v 50)))), (.e (.o1 .neg (.o1 .neg (.v 51)))), (.a (.v 52)), (.e (.o2 .nadd (.v 53) (.n 0))), (.e (.o2 .nadd (.v 54) (.n 0))), (.a (.v 56)), (.e (.o2 .nadd (.v 57) (.n 0))), (.e (.o2 .nadd (.v 58) (.n 0))), (.e (.o1 .neg (.o1 .neg (.v 34)))), (.e (.o1 .neg (.o1 .neg (.v 35)))), (.e (.o1 .neg (.o1 .neg (.v 36)))), (.e (.o1 .neg (.o1 .neg (.v 37)))), (.a (.v 38)), (.e (.o2 .nadd (.v 39) (.n 0))), (.e (.o2 .nadd (.v 40) (.n 0))), (.a (.v 42)), (.e (.o2 .nadd (.v 43) (.n 0))), (.e (.o2 .nadd (.v 44) (.n 0))), (.p [((.a 52), (.prop 55))]), (.p [((.a 56), (.prop 59))]), (.p [((.b (.v 6)), (.prop 60))]), (.p [((.a 38), (.prop 41))]), (.p [((.a 42), (.prop 45))])])))))
            (.new
            (.call 18 [(.a (.ptr (.v 6) 0)), (.agg [(.int .i64 (.i 10)), (.str (.v 12)), (.str (.s [])), (.int .i64 (.i 0)), (.int .i64 (.i 0)), (.sl .nil (.n 0) (.n 0))])] [((.b (.v 6)), (.prop 32))] [.i, .i, .i, .i, .a, .n, .n, .p, .a, .n, .n, .p, .p] (.w (.agg [(.int .i64 (.v 35)), (.int .i64 (.v 36)), (.int .i64 (.v 37)), (.int .i64 (.v 38)), (.sl (.v 39) (.v 40) (.v 41)), (.sl (.v 43) (.v 44) (.v 45))])) [((.a 39), (.prop 42)), ((.a 43), (.prop 46)), ((.b (.v 6)), (.prop 47))]
            (.call 18 [(.a (.ptr (.v 6) 0)), (.agg [(.int .i64 (.i 11)), (.str (.v 12)), (.str (.s [])), (.int .i64 (.i 0)), (.int .i64 (.i 0)), (.sl .nil (.n 0) (.n 0))])] [((.b (.v 6)), (.prop 47))] [.i, .i, .i, .i, .a, .n, .n, .p, .a, .n, .n, .p, .p] (.w (.agg [(.int .i64 (.v 48)), (.int .i64 (.v 49)), (.int .i64 (.v 50)), (.int .i64 (.v 51)), (.sl (.v 52) (.v 53) (.v 54)), (.sl (.v 56) (.v 57) (.v 58))])) [((.a 52), (.prop 55)), ((.a 56), (.prop 59)), ((.b (.v 6)), (.prop 60))]
            (.again 0 [(.n (.v 33)), (.n (.v 34)), (.e (.o1 .neg (.o1 .neg (.v 48)))), (.e (.o1 .neg (.o1 .neg (.v 49)))), (.e (.o1 .neg (.o1 .neg (.v 50)))), (.e (.o1 .neg (.o1 .neg (.v 51)))), (.a (.v 52)), (.e (.o2 .nadd (.v 53) (.n 0))), (.e (.o2 .nadd (.v 54) (.n 0))), (.a (.v 56)), (.e (.o2 .nadd (.v 57) (.n 0))), (.e (.o2 .nadd (.v 58) (.n 0))), (.e (.o1 .neg (.o1 .neg (.v 35)))), (.e (.o1 .neg (.o1 .neg (.v 36)))), (.e (.o1 .neg (.o1 .neg (.v 37)))), (.e (.o1 .neg (.o1 .neg (.v 38)))), (.a (.v 39)), (.e (.o2 .nadd (.v 40) (.n 0))), (.e (.o2 .nadd (.v 41) (.n 0))), (.a (.v 43)), (.e (.o2 .nadd (.v 44) (.n 0))), (.e (.o2 .nadd (.v 45) (.n 0))), (.p [((.a 52), (.prop 55))]), (.p [((.a 56), (.prop 59))]), (.p [((.b (.v 6)), (.prop 60))]), (.p [((.a 39), (.prop 42))]), (.p [((.a 43), (.prop 46))])])))))
           (.new
           (.all
            (.call 18 [(.a (.ptr (.v 6) 0)), (.agg [(.int .i64 (.i 10)), (.str (.v 12)), (.str (.s [])), (.int .i64 (.i 0)), (.int .i64 (.i 0)), (.sl .nil (.n 0) (.n 0))])] [((.b (.v 6)), (.prop 32))] [.i, .i, .i, .i, .a, .n, .n, .p, .a, .n, .n, .p, .p] (.w (.agg [(.int .i64 (.v 35)), (.int .i64 (.v 36)), (.int .i64 (.v 37)), (.int .i64 (.v 38)), (.sl (.v 39) (.v 40) (.v 41)), (.sl (.v 43) (.v 44) (.v 45))])) [((.a 39), (.prop 42)), ((.a 43), (.prop 46)), ((.b (.v 6)), (.prop 47))]
            (.call 18 [(.a (.ptr (.v 6) 0)), (.agg [(.int .i64 (.i 11)), (.str (.v 12)), (.str (.s [])), (.int .i64 (.i 0)), (.int .i64 (.i 0)), (.sl .nil (.n 0) (.n 0))])] [((.b (.v 6)), (.prop 47))] [.i, .i, .i, .i, .a, .n, .n, .p, .a, .n, .n, .p, .p] (.w (.agg [(.int .i64 (.v 48)), (.int .i64 (.v 49)), (.int .i64 (.v 50)), (.int .i64 (.v 51)), (.sl (.v 52) (.v 53) (.v 54)), (.sl (.v 56) (.v 57) (.v 58))])) [((.a 52), (.prop 55)), ((.a 56), (.prop 59)), ((.b (.v 6)), (.prop 60))]
            (.again 0 [(.n (.v 33)), (.n (.v 34)), (.e (.o1 .neg (.o1 .neg (.v 48)))), (.e (.o1 .neg (.o1 .neg (.v 49)))), (.e (.o1 .neg (.o1 .neg (.v 50)))), (.e (.o1 .neg (.o1 .neg (.v 51)))), (.a (.v 52)), (.e (.o2 .nadd (.v 53) (.n 0))), (.e (.o2 .nadd (.v 54) (.n 0))), (.a (.v 56)), (.e (.o2 .nadd (.v 57) (.n 0))), (.e (.o2 .nadd (.v 58) (.n 0))), (.e (.o1 .neg (.o1 .neg (.v 35)))), (.e (.o1 .neg (.o1 .neg (.v 36)))), (.e (.o1 .neg (.o1 .neg (.v 37)))), (.e (.o1 .neg (.o1 .neg (.v 38)))), (.a (.v 39)), (.e (.o2 .nadd (.v 40) (.n 0))), (.e (.o2 .nadd (.v 41) (.n 0))), (.a (.v 43)), (.e (.o2 .nadd (.v 44) (.n 0))), (.e (.o2 .nadd (.v 45) (.n 0))), (.p [((.a 52), (.prop 55))]), (.p [((.a 56), (.prop 59))]), (.p [((.b (.v 6)), (.prop 60))]), (.p [((.a 39), (.prop 42))]), (.p [((.a 43), (.prop 46))])])))
            (.call 18 [(.a (.ptr (.v 6) 0)), (.agg [(.int .i64 (.i 10)), (.str (.v 12)), (.str (.s [])), (.int .i64 (.i 0)), (.int .i64 (.i 0)), (.sl .nil (.n 0) (.n 0))])] [((.b (.v 6)), (.prop 32))] [.i, .i, .i, .i, .a, .n, .n, .p, .a, .n, .n, .p, .p] (.w (.agg [(.int .i64 (.v 35)), (.int .i64 (.v 36)), (.int .i64 (.v 37)), (.int .i64 (.v 38)), (.sl (.v 39) (.v 40) (.v 41)), (.sl (.v 43) (.v 44) (.v 45))])) [((.a 39), (.prop 42)), ((.a 43), (.prop 46)), ((.b (.v 6)), (.prop 47))]
            (.call 18 [(.a (.ptr (.v 6) 0)), (.agg [(.int .i64 (.i 11)), (.str (.v 12)), (.str (.s [])), (.int .i64 (.i 0)), (.int .i64 (.i 0)), (.sl .nil (.n 0) (.n 0))])] [((.b (.v 6)), (.prop 47))] [.i, .i, .i, .i, .a, .n, .n, .p, .a, .n, .n, .p, .p] (.w (.agg [(.int .i64 (.v 48)), (.int .i64 (.v 49)), (.int .i64 (.v 50)), (.int .i64 (.v 51)), (.sl (.v 52) (.v 53) (.v 54)), (.sl (.v 56) (.v 57) (.v 58))])) [((.a 52), (.prop 55)), ((.a 56), (.prop 59)), ((.b (.v 6)), (.prop 60))]
            (.again 0 [(.n (.v 33)), (.n (.v 34)), (.e (.o1 .neg (.o1 .neg (.v 48)))), (.e (.o1 .neg (.o1 .neg (.v 49)))), (.e (.o1 .neg (.o1 .neg (.v 50)))), (.e (.o1 .neg (.o1 .neg (.v 51)))), (.a (.v 52)), (.e (.o2 .nadd (.v 53) (.n 0))), (.e (.o2 .nadd (.v 54) (.n 0))), (.a (.v 56)), (.e (.o2 .nadd (.v 57) (.n 0))), (.e (.o2 .nadd (.v 58) (.n 0))), (.e (.o1 .neg (.o1 .neg (.v 35)))), (.e (.o1 .neg (.o1 .neg (.v 36)))), (.e (.o1 .neg (.o1 .neg (.v 37)))), (.e (.o1 .neg (.o1 .neg (.v 38)))), (.a (.v 39)), (.e (.o2 .nadd (.v 40) (.n 0))), (.e (.o2 .nadd (.v 41) (.n 0))), (.a (.v 43)), (.e (.o2 .nadd (.v 44) (.n 0))), (.e (.o2 .nadd (.v 45) (.n 0))), (.p [((.a 52), (.prop 55))]), (.p [((.a 56), (.prop 59))]), (.p [((.b (.v 6)), (.prop 60))]), (.p [((.a 39), (.prop 42))]), (.p [((.a 43), (.prop 46))])])))))))
         (.all
          (.all
           (.all
            (.call 18 [(.a (.ptr (.v 6) 0)), (.agg [(.int .i64 (.i 10)), (.str (.v 12)), (.str (.s [])), (.int .i64 (.i 0)), (.int .i64 (.i 0)), (.sl .nil (.n 0) (.n 0))])] [((.b (.v 6)), (.prop 32))] [.i, .i, .i, .i, .a, .n, .n, .p, .a, .n, .n, .p, .p] (.w (.agg [(.int .i64 (.v 34)), (.int .i64 (.v 35)), (.int .i64 (.v 36)), (.int .i64 (.v 37)), (.sl (.v 38) (.v 39) (.v 40)), (.sl (.v 42) (.v 43) (.v 44))])) [((.a 38), (.prop 41)), ((.a 42), (.prop 45)), ((.b (.v 6)), (.prop 46))]
            (.all
             (.call 18 [(.a (.ptr (.v 6) 0)), (.agg [(.int .i64 (.i 11)), (.str (.v 12)), (.str (.s [])), (.int .i64 (.i 0)), (.int .i64 (.i 0)), (.sl .nil (.n 0) (.n 0))])] [((.b (.v 6)), (.prop 46))] [.i, .i, .i, .i, .a, .n, .n, .p, .a, .n, .n, .p, .p] (.w (.agg [(.int .i64 (.v 47)), (.int .i64 (.v 48)), (.int .i64 (.v 49)), (.int .i64 (.v 50)), (.sl (.v 51) (.v 52) (.v 53)), (.sl (.v 55) (.v 56) (.v 57))])) [((.a 51), (.prop 54)), ((.a 55), (.prop 58)), ((.b (.v 6)), (.prop 59))]
             (.new
             (.again 0 [(.n (.v 33)), (.n (.v 60)), (.e (.o1 .neg (.o1 .neg (.v 47)))), (.e (.o1 .neg (.o1 .neg (.v 48)))), (.e (.o1 .neg (.o1 .neg (.v 49)))), (.e (.o1 .neg (.o1 .neg (.v 50)))), (.a (.v 51)), (.e (.o2 .nadd (.v 52) (.n 0))), (.e (.o2 .nadd (.v 53) (.n 0))), (.a (.v 55)), (.e (.o2 .nadd (.v 56) (.n 0))), (.e (.o2 .nadd (.v 57) (.n 0))), (.e (.o1 .neg (.o1 .neg (.v 34)))), (.e (.o1 .neg (.o1 .neg (.v 35)))), (.e (.o1 .neg (.o1 .neg (.v 36)))), (.e (.o1 .neg (.o1 .neg (.v 37)))), (.a (.v 38)), (.e (.o2 .nadd (.v 39) (.n 0))), (.e (.o2 .nadd (.v 40) (.n 0))), (.a (.v 42)), (.e (.o2 .nadd (.v 43) (.n 0))), (.e (.o2 .nadd (.v 44) (.n 0))), (.p [((.a 51), (.prop 54))]), (.p [((.a 55), (.prop 58))]), (.p [((.b (.v 6)), (.prop 59))]), (.p [((.a 38), (.prop 41))]), (.p [((.a 42), (.prop 45))])])))
             (.new
             (.call 18 [(.a (.ptr (.v 6) 0)), (.agg [(.int .i64 (.i 11)), (.str (.v 12)), (.str (.s [])), (.int .i64 (.i 0)), (.int .i64 (.i 0)), (.sl .nil (.n 0) (.n 0))])] [((.b (.v 6)), (.prop 46))] [.i, .i, .i, .i, .a, .n, .n, .p, .a, .n, .n, .p, .p] (.w (.agg [(.int .i64 (.v 48)), (.int .i64 (.v 49)), (.int .i64 (.v 50)), (.int .i64 (.v 51)), (.sl (.v 52) (.v 53) (.v 54)), (.sl (.v 56) (.v 57) (.v 58))])) [((.a 52), (.prop 55)), ((.a 56), (.prop 59)), ((.b (.v 6)), (.prop 60))]
             (.again 0 [(.n (.v 33)), (.n (.v 47)), (.e (.o1 .neg (.o1 .neg (.v 48)))), (.e (.o1 .neg (.o1 .neg (.v 49)))), (.e (.o1 .neg (.o1 .neg (.v 50)))), (.e (.o1 .neg (.o1 .neg (.v 51)))), (.a (.v 52)), (.e (.o2 .nadd (.v 53) (.n 0))), (.e (.o2 .nadd (.v 54) (.n 0))), (.a (.v 56)), (.e (.o2 .nadd (.v 57) (.n 0))), (.e (.o2 .nadd (.v 58) (.n 0))), (.e (.o1 .neg (.o1 .neg (.v 34)))), (.e (.o1 .neg (.o1 .neg (.v 35)))), (.e (.o1 .neg (.o1 .neg (.v 36)))), (.e (.o1 .neg (.o1 .neg (.v 37)))), (.a (.v 38)), (.e (.o2 .nadd (.v 39) (.n 0))), (.e (.o2 .nadd (.v 40) (.n 0))), (.a (.v 42)), (.e (.o2 .nadd (.v 43) (.n 0))), (.e (.o2 .nadd (.v 44) (.n 0))), (.p [((.a 52), (.prop 55))]), (.p [((.a 56), (.prop 59))]), (.p [((.b (.v 6)), (.prop 60))]), (.p [((.a 38), (.prop 41))]), (.p [((.a 42), (.prop 45))])])))))
            (.new
            (.call 18 [(.a (.ptr (.v 6) 0)), (.agg [(.int .i64 (.i 10)), (.str (.v 12)), (.str (.s [])), (.int .i64 (.i 0)), (.int .i64 (.i 0)), (.sl .nil (.n 0) (.n 0))])] [((.b (.v 6)), (.prop 32))] [.i, .i, .i, .i, .a, .n, .n, .p, .a, .n, .n, .p, .p] (.w (.agg [(.int .i64 (.v 35)), (.int .i64 (.v 36)), (.int .i64 (.v 37)), (.int .i64 (.v 38)), (.sl (.v 39) (.v 40) (.v 41)), (.sl (.v 43) (.v 44) (.v 45))])) [((.a 39), (.prop 42)), ((.a 43), (.prop 46)), ((.b (.v 6)), (.prop 47))]
            (.call 18 [(.a (.ptr (.v 6) 0)), (.agg [(.int .i64 (.i 11)), (.str (.v 12)), (.str (.s [])), (.int .i64 (.i 0)), (.int .i64 (.i 0)), (.sl .nil (.n 0) (.n 0))])] [((.b (.v 6)), (.prop 47))] [.i, .i, .i, .i, .a, .n, .n, .p, .a, .n, .n, .p, .p] (.w (.agg [(.int .i64 (.v 48)), (.int .i64 (.v 49)), (.int .i64 (.v 50)), (.int .i64 (.v 51)), (.sl (.v 52) (.v 53) (.v 54)), (.sl (.v 56) (.v 57) (.v 58))])) [((.a 52), (.prop 55)), ((.a 56), (.prop 59)), ((.b (.v 6)), (.prop 60))]
            (.again 0 [(.n (.v 33)), (.n (.v 34)), (.e (.o1 .neg (.o1 .neg (.v 48)))), (.e (.o1 .neg (.o1 .neg (.v 49)))), (.e (.o1 .neg (.o1 .neg (.v 50)))), (.e (.o1 .neg (.o1 .neg (.v 51)))), (.a (.v 52)), (.e (.o2 .nadd (.v 53) (.n 0))), (.e (.o2 .nadd (.v 54) (.n 0))), (.a (.v 56)), (.e (.o2 .nadd (.v 57) (.n 0))), (.e (.o2 .nadd (.v 58) (.n 0))), (.e (.o1 .neg (.o1 .neg (.v 35)))), (.e (.o1 .neg (.o1 .neg (.v 36)))), (.e (.o1 .neg (.o1 .neg (.v 37)))), (.e (.o1 .neg (.o1 .neg (.v 38)))), (.a (.v 39)), (.e (.o2 .nadd (.v 40) (.n 0))), (.e (.o2 .nadd (.v 41) (.n 0))), (.a (.v 43)), (.e (.o2 .nadd (.v 44) (.n 0))), (.e (.o2 .nadd (.v 45) (.n 0))), (.p [((.a 52), (.prop 55))]), (.p [((.a 56), (.prop 59))]), (.p [((.b (.v 6)), (.prop 60))]), (.p [((.a 39), (.prop 42))]), (.p [((.a 43), (.prop 46))])])))))
           (.new
           (.call 18 [(.a (.ptr (.v 6) 0)), (.agg [(.int .i64 (.i 10)), (.str (.v 12)), (.str (.s [])), (.int .i64 (.i 0)), (.int .i64 (.i 0)), (.sl .nil (.n 0) (.n 0))])] [((.b (.v 6)), (.prop 32))] [.i, .i, .i, .i, .a, .n, .n, .p, .a, .n, .n, .p, .p] (.w (.agg [(.int .i64 (.v 35)), (.int .i64 (.v 36)), (.int .i64 (.v 37)), (.int .i64 (.v 38)), (.sl (.v 39) (.v 40) (.v 41)), (.sl (.v 43) (.v 44) (.v 45))])) [((.a 39), (.prop 42)), ((.a 43), (.prop 46)), ((.b (.v 6)), (.prop 47))]
           (.call 18 [(.a (.ptr (.v 6) 0)), (.agg [(.int .i64 (.i 11)), (.str (.v 12)), (.str (.s [])), (.int .i64 (.i 0)), (.int .i64 (.i 0)), (.sl .nil (.n 0) (.n 0))])] [((.b (.v 6)), (.prop 47))] [.i, .i, .i, .i, .a, .n, .n, .p, .a, .n, .n, .p, .p] (.w (.agg [(.int .i64 (.v 48)), (.int .i64 (.v 49)), (.int .i64 (.v 50)), (.int .i64 (.v 51)), (.sl (.v 52) (.v 53) (.v 54)), (.sl (.v 56) (.v 57) (.v 58))])) [((.a 52), (.prop 55)), ((.a 56), (.prop 59)), ((.b (.v 6)), (.prop 60))]
           (.again 0 [(.n (.v 33)), (.n (.v 34)), (.e (.o1 .neg (.o1 .neg (.v 48)))), (.e (.o1 .neg (.o1 .neg (.v 49)))), (.e (.o1 .neg (.o1 .neg (.v 50)))), (.e (.o1 .neg (.o1 .neg (.v 51)))), (.a (.v 52)), (.e (.o2 .nadd (.v 53) (.n 0))), (.e (.o2 .nadd (.v 54) (.n 0))), (.a (.v 56)), (.e (.o2 .nadd (.v 57) (.n 0))), (.e (.o2 .nadd (.v 58) (.n 0))), (.e (.o1 .neg (.o1 .neg (.v 35)))), (.e (.o1 .neg (.o1 .neg (.v 36)))), (.e (.o1 .neg (.o1 .neg (.v 37)))), (.e (.o1 .neg (.o1 .neg (.v 38)))), (.a (.v 39)), (.e (.o2 .nadd (.v 40) (.n 0))), (.e (.o2 .nadd (.v 41) (.n 0))), (.a (.v 43)), (.e (.o2 .nadd (.v 44) (.n 0))), (.e (.o2 .nadd (.v 45) (.n 0))), (.p [((.a 52), (.prop 55))]), (.p [((.a 56), (.prop 59))]), (.p [((.b (.v 6)), (.prop 60))]), (.p [((.a 39), (.prop 42))]), (.p [((.a 43), (.prop 46))])])))))
          (.new
          (.all
           (.all
            (.call 18 [(.a (.ptr (.v 6) 0)), (.agg [(.int .i64 (.i 10)), (.str (.v 12)), (.str (.s [])), (.int .i64 (.i 0)), (.int .i64 (.i 0)), (.sl .nil (.n 0) (.n 0))])] [((.b (.v 6)), (.prop 32))] [.i, .i, .i, .i, .a, .n, .n, .p, .a, .n, .n, .p, .p] (.w (.agg [(.int .i64 (.v 35)), (.int .i64 (.v 36)), (.int .i64 (.v 37)), (.int .i64 (.v 38)), (.sl (.v 39) (.v 40) (.v 41)), (.sl (.v 43) (.v 44) (.v 45))])) [((.a 39), (.prop 42)), ((.a 43), (.prop 46)), ((.b (.v 6)), (.prop 47))]
            (.call 18 [(.a (.ptr (.v 6) 0)), (.agg [(.int .i64 (.i 11)), (.str (.v 12)), (.str (.s [])), (.int .i64 (.i 0)), (.int .i64 (.i 0)), (.sl .nil (.n 0) (.n 0))])] [((.b (.v 6)), (.prop 47))] [.i, .i, .i, .i, .a, .n, .n, .p, .a, .n, .n, .p, .p] (.w (.agg [(.int .i64 (.v 48)), (.int .i64 (.v 49)), (.int .i64 (.v 50)), (.int .i64 (.v 51)), (.sl (.v 52) (.v 53) (.v 54)), (.sl (.v 56) (.v 57) (.v 58))])) [((.a 52), (.prop 55)), ((.a 56), (.prop 59)), ((.b (.v 6)), (.prop 60))]
            (.again 0 [(.n (.v 33)), (.n (.v 34)), (.e (.o1 .neg (.o1 .neg (.v 48)))), (.e (.o1 .neg (.o1 .neg (.v 49)))), (.e (.o1 .neg (.o1 .neg (.v 50)))), (.e (.o1 .neg (.o1 .neg (.v 51)))), (.a (.v 52)), (.e (.o2 .nadd (.v 53) (.n 0))), (.e (.o2 .nadd (.v 54) (.n 0))), (.a (.v 56)), (.e (.o2 .nadd (.v 57) (.n 0))), (.e (.o2 .nadd (.v 58) (.n 0))), (.e (.o1 .neg (.o1 .neg (.v 35)))), (.e (.o1 .neg (.o1 .neg (.v 36)))), (.e (.o1 .neg (.o1 .neg (.v 37)))), (.e (.o1 .neg (.o1 .neg (.v 38)))), (.a (.v 39)), (.e (.o2 .nadd (.v 40) (.n 0))), (.e (.o2 .nadd (.v 41) (.n 0))), (.a (.v 43)), (.e (.o2 .nadd (.v 44) (.n 0))), (.e (.o2 .nadd (.v 45) (.n 0))), (.p [((.a 52), (.prop 55))]), (.p [((.a 56), (.prop 59))]), (.p [((.b (.v 6)), (.prop 60))]), (.p [((.a 39), (.prop 42))]), (.p [((.a 43), (.prop 46))])])))
            (.call 18 [(.a (.ptr (.v 6) 0)), (.agg [(.int .i64 (.i 10)), (.str (.v 12)), (.str (.s [])), (.int .i64 (.i 0)), (.int .i64 (.i 0)), (.sl .nil (.n 0) (.n 0))])] [((.b (.v 6)), (.prop 32))] [.i, .i, .i, .i, .a, .n, .n, .p, .a, .n, .n, .p, .p] (.w (.agg [(.int .i64 (.v 35)), (.int .i64 (.v 36)), (.int .i64 (.v 37)), (.int .i64 (.v 38)), (.sl (.v 39) (.v 40) (.v 41)), (.sl (.v 43) (.v 44) (.v 45))])) [((.a 39), (.prop 42)), ((.a 43), (.prop 46)), ((.b (.v 6)), (.prop 47))]
            (.call 18 [(.a (.ptr (.v 6) 0)), (.agg [(.int .i64 (.i 11)), (.str (.v 12)), (.str (.s [])), (.int .i64 (.i 0)), (.int .i64 (.i 0)), (.sl .nil (.n 0) (.n 0))])] [((.b (.v 6)), (.prop 47))] [.i, .i, .i, .i, .a, .n, .n, .p, .a, .n, .n, .p, .p] (.w (.agg [(.int .i64 (.v 48)), (.int .i64 (.v 49)), (.int .i64 (.v 50)), (.int .i64 (.v 51)), (.sl (.v 52) (.v 53) (.v 54)), (.sl (.v 56) (.v 57) (.v 58))])) [((.a 52), (.prop 55)), ((.a 56), (.prop 59)), ((.b (.v 6)), (.prop 60))]
            (.again 0 [(.n (.v 33)), (.n (.v 34)), (.e (.o1 .neg (.o1 .neg (.v 48)))), (.e (.o1 .neg (.o1 .neg (.v 49)))), (.e (.o1 .neg (.o1 .neg (.v 50)))), (.e (.o1 .neg (.o1 .neg (.v 51)))), (.a (.v 52)), (.e (.o2 .nadd (.v 53) (.n 0))), (.e (.o2 .nadd (.v 54) (.n 0))), (.a (.v 56)), (.e (.o2 .nadd (.v 57) (.n 0))), (.e (.o2 .nadd (.v 58) (.n 0))), (.e (.o1 .neg (.o1 .neg (.v 35)))), (.e (.o1 .neg (.o1 .neg (.v 36)))), (.e (.o1 .neg (.o1 .neg (.v 37)))), (.e (.o1 .neg (.o1 .neg (.v 38)))), (.a (.v 39)), (.e (.o2 .nadd (.v 40) (.n 0))), (.e (.o2 .nadd (.v 41) (.n 0))), (.a (.v 43)), (.e (.o2 .nadd (.v 44) (.n 0))), (.e (.o2 .nadd (.v 45) (.n 0))), (.p [((.a 52), (.prop 55))]), (.p [((.a 56), (.prop 59))]), (.p [((.b (.v 6)), (.prop 60))]), (.p [((.a 39), (.prop 42))]), (.p [((.a 43), (.prop 46))])]))))
           (.call 18 [(.a (.ptr (.v 6) 0)), (.agg [(.int .i64 (.i 10)), (.str (.v 12)), (.str (.s [])), (.int .i64 (.i 0)), (.int .i64 (.i 0)), (.sl .nil (.n 0) (.n 0))])] [((.b (.v 6)), (.prop 32))] [.i, .i, .i, .i, .a, .n, .n, .p, .a, .n, .n, .p, .p] (.w (.agg [(.int .i64 (.v 35)), (.int .i64 (.v 36)), (.int .i64 (.v 37)), (.int .i64 (.v 38)), (.sl (.v 39) (.v 40) (.v 41)), (.sl (.v 43) (.v 44) (.v 45))])) [((.a 39), (.prop 42)), ((.a 43), (.prop 46)), ((.b (.v 6)), (.prop 47))]
           (.call 18 [(.a (.ptr (.v 6) 0)), (.agg [(.int .i64 (.i 11)), (.str (.v 12)), (.str (.s [])), (.int .i64 (.i 0)), (.int .i64 (.i 0)), (.sl .nil (.n 0) (.n 0))])] [((.b (.v 6)), (.prop 47))] [.i, .i, .i, .i, .a, .n, .n, .p, .a, .n, .n, .p, .p] (.w (.agg [(.int .i64 (.v 48)), (.int .i64 (.v 49)), (.int .i64 (.v 50)), (.int .i64 (.v 51)), (.sl (.v 52) (.v 53) (.v 54)), (.sl (.v 56) (.v 57) (.v 58))])) [((.a 52), (.prop 55)), ((.a 56), (.prop 59)), ((.b (.v 6)), (.prop 60))]
           (.again 0 [(.n (.v 33)), (.n (.v 34)), (.e (.o1 .neg (.o1 .neg (.v 48)))), (.e (.o1 .neg (.o1 .neg (.v 49)))), (.e (.o1 .neg (.o1 .neg (.v 50)))), (.e (.o1 .neg (.o1 .neg (.v 51)))), (.a (.v 52)), (.e (.o2 .nadd (.v 53) (.n 0))), (.e (.o2 .nadd (.v 54) (.n 0))), (.a (.v 56)), (.e (.o2 .nadd (.v 57) (.n 0))), (.e (.o2 .nadd (.v 58) (.n 0))), (.e (.o1 .neg (.o1 .neg (.v 35)))), (.e (.o1 .neg (.o1 .neg (.v 36)))), (.e (.o1 .neg (.o1 .neg (.v 37)))), (.e (.o1 .neg (.o1 .neg (.v 38)))), (.a (.v 39)), (.e (.o2 .nadd (.v 40) (.n 0))), (.e (.o2 .nadd (.v 41) (.n 0))), (.a (.v 43)), (.e (.o2 .nadd (.v 44) (.n 0))), (.e (.o2 .nadd (.v 45) (.n 0))), (.p [((.a 52), (.prop 55))]), (.p [((.a 56), (.prop 59))]), (.p [((.b (.v 6)), (.prop 60))]), (.p [((.a 39), (.prop 42))]), (.p [((.a 43), (.prop 46))])]))))))))
        (.new
        (.all
         (.all
          (.call 18 [(.a (.ptr (.v 6) 0)), (.agg [(.int .i64 (.i 10)), (.str (.v 12)), (.str (.s [])), (.int .i64 (.i 0)), (.int .i64 (.i 0)), (.sl .nil (.n 0) (.n 0))])] [((.b (.v 6)), (.prop 32))] [.i, .i, .i, .i, .a, .n, .n, .p, .a, .n, .n, .p, .p] (.w (.agg [(.int .i64 (.v 34)), (.int .i64 (.v 35)), (.int .i64 (.v 36)), (.int .i64 (.v 37)), (.sl (.v 38) (.v 39) (.v 40)), (.sl (.v 42) (.v 43) (.v 44))])) [((.a 38), (.prop 41)), ((.a 42), (.prop 45)), ((.b (.v 6)), (.prop 46))]
          (.all
           (.all
            (.call 18 [(.a (.ptr (.v 6) 0)), (.agg [(.int .i64 (.i 11)), (.str (.v 12)), (.str (.s [])), (.int .i64 (.i 0)), (.int .i64 (.i 0)), (.sl .nil (.n 0) (.n 0))])] [((.b (.v 6)), (.prop 46))] [.i, .i, .i, .i, .a, .n, .n, .p, .a, .n, .n, .p, .p] (.w (.agg [(.int .i64 (.v 47)), (.int .i64 (.v 48)), (.int .i64 (.v 49)), (.int .i64 (.v 50)), (.sl (.v 51) (.v 52) (.v 53)), (.sl (.v 55) (.v 56) (.v 57))])) [((.a 51), (.prop 54)), ((.a 55), (.prop 58)), ((.b (.v 6)), (.prop 59))]
            (.new
            (.again 0 [(.n (.v 60)), (.n (.v 33)), (.e (.o1 .neg (.o1 .neg (.v 47)))), (.e (.o1 .neg (.o1 .neg (.v 48)))), (.e (.o1 .neg (.o1 .neg (.v 49)))), (.e (.o1 .neg (.o1 .neg (.v 50)))), (.a (.v 51)), (.e (.o2 .nadd (.v 52) (.n 0))), (.e (.o2 .nadd (.v 53) (.n 0))), (.a (.v 55)), (.e (.o2 .nadd (.v 56) (.n 0))), (.e (.o2 .nadd (.v 57) (.n 0))), (.e (.o1 .neg (.o1 .neg (.v 34)))), (.e (.o1 .neg (.o1 .neg (.v 35)))), (.e (.o1 .neg (.o1 .neg (.v 36)))), (.e (.o1 .neg (.o1 .neg (.v 37)))), (.a (.v 38)), (.e (.o2 .nadd (.v 39) (.n 0))), (.e (.o2 .nadd (.v 40) (.n 0))), (.a (.v 42)), (.e (.o2 .nadd (.v 43) (.n 0))), (.e (.o2 .nadd (.v 44) (.n 0))), (.p [((.a 51), (.prop 54))]), (.p [((.a 55), (.prop 58))]), (.p [((.b (.v 6)), (.prop 59))]), (.p [((.a 38), (.prop 41))]), (.p [((.a 42), (.prop 45))])])))
            (.new
            (.call 18 [(.a (.ptr (.v 6) 0)), (.agg [(.int .i64 (.i 11)), (.str (.v 12)), (.str (.s [])), (.int .i64 (.i 0)), (.int .i64 (.i 0)), (.sl .nil (.n 0) (.n 0))])] [((.b (.v 6)), (.prop 46))] [.i, .i, .i, .i, .a, .n, .n, .p, .a, .n, .n, .p, .p] (.w (.agg [(.int .i64 (.v 48)), (.int .i64 (.v 49)), (.int .i64 (.v 50)), (.int .i64 (.v 51)), (.sl (.v 52) (.v 53) (.v 54)), (.sl (.v 56) (.v 57) (.v 58))])) [((.a 52), (.prop 55)), ((.a 56), (.prop 59)), ((.b (.v 6)), (.prop 60))]
            (.again 0 [(.n (.v 47)), (.n (.v 33)), (.e (.o1 .neg (.o1 .neg (.v 48)))), (.e (.o1 .neg (.o1 .neg (.v 49)))), (.e (.o1 .neg (.o1 .neg (.v 50)))), (.e (.o1 .neg (.o1 .neg (.v 51)))), (.a (.v 52)), (.e (.o2 .nadd (.v 53) (.n 0))), (.e (.o2 .nadd (.v 54) (.n 0))), (.a (.v 56)), (.e (.o2 .nadd (.v 57) (.n 0))), (.e (.o2 .nadd (.v 58) (.n 0))), (.e (.o1 .neg (.o1 .neg (.v 34)))), (.e (.o1 .neg (.o1 .neg (.v 35)))), (.e (.o1 .neg (.o1 .neg (.v 36)))), (.e (.o1 .neg (.o1 .neg (.v 37)))), (.a (.v 38)), (.e (.o2 .nadd (.v 39) (.n 0))), (.e (.o2 .nadd (.v 40) (.n 0))), (.a (.v 42)), (.e (.o2 .nadd (.v 43) (.n 0))), (.e (.o2 .nadd (.v 44) (.n 0))), (.p [((.a 52), (.prop 55))]), (.p [((.a 56), (.prop 59))]), (.p [((.b (.v 6)), (.prop 60))]), (.p [((.a 38), (.prop 41))]), (.p [((.a 42), (.prop 45))])]))))
           (.new
           (.call 18 [(.a (.ptr (.v 6) 0)), (.agg [(.int .i64 (.i 11)), (.str (.v 12)), (.str (.s [])), (.int .i64 (.i 0)), (.int .i64 (.i 0)), (.sl .nil (.n 0) (.n 0))])] [((.b (.v 6)), (.prop 46))] [.i, .i, .i, .i, .a, .n, .n, .p, .a, .n, .n, .p, .p] (.w (.agg [(.int .i64 (.v 48)), (.int .i64 (.v 49)), (.int .i64 (.v 50)), (.int .i64 (.v 51)), (.sl (.v 52) (.v 53) (.v 54)), (.sl (.v 56) (.v 57) (.v 58))])) [((.a 52), (.prop 55)), ((.a 56), (.prop 59)), ((.b (.v 6)), (.prop 60))]
           (.again 0 [(.n (.v 47)), (.n (.v 33)), (.e (.o1 .neg (.o1 .neg (.v 48)))), (.e (.o1 .neg (.o1 .neg (.v 49)))), (.e (.o1 .neg (.o1 .neg (.v 50)))), (.e (.o1 .neg (.o1 .neg (.v 51)))), (.a (.v 52)), (.e (.o2 .nadd (.v 53) (.n 0))), (.e (.o2 .nadd (.v 54) (.n 0))), (.a (.v 56)), (.e (.o2 .nadd (.v 57) (.n 0))), (.e (.o2 .nadd (.v 58) (.n 0))), (.e (.o1 .neg (.o1 .neg (.v 34)))), (.e (.o1 .neg (.o1 .neg (.v 35)))), (.e (.o1 .neg (.o1 .neg (.v 36)))), (.e (.o1 .neg (.o1 .neg (.v 37)))), (.a (.v 38)), (.e (.o2 .nadd (.v 39) (.n 0))), (.e (.o2 .nadd (.v 40) (.n 0))), (.a (.v 42)), (.e (.o2 .nadd (.v 43) (.n 0))), (.e (.o2 .nadd (.v 44) (.n 0))), (.p [((.a 52), (.prop 55))]), (.p [((.a 56), (.prop 59))]), (.p [((.b (.v 6)), (.prop 60))]), (.p [((.a 38), (.prop 41))]), (.p [((.a 42), (.prop 45))])])))))
          (.all
           (.all
            (.call 18 [(.a (.ptr (.v 6) 0)), (.agg [(.int .i64 (.i 10)), (.str (.v 12)), (.str (.s [])), (.int .i64 (.i 0)), (.int .i64 (.i 0)), (.sl .nil (.n 0) (.n 0))])] [((.b (.v 6)), (.prop 32))] [.i, .i, .i, .i, .a, .n, .n, .p, .a, .n, .n, .p, .p] (.w (.agg [(.int .i64 (.v 34)), (.int .i64 (.v 35)), (.int .i64 (.v 36)), (.int .i64 (.v 37)), (.sl (.v 38) (.v 39) (.v 40)), (.sl (.v 42) (.v 43) (.v 44))])) [((.a 38), (.prop 41)), ((.a 42), (.prop 45)), ((.b (.v 6)), (.prop 46))]
            (.all
             (.call 18 [(.a (.ptr (.v 6) 0)), (.agg [(.int .i64 (.i 11)), (.str (.v 12)), (.str (.s [])), (.int .i64 (.i 0)), (.int .i64 (.i 0)), (.sl .nil (.n 0) (.n 0))])] [((.b (.v 6)), (.prop 46))] [.i, .i, .i, .i, .a, .n, .n, .p, .a, .n, .n, .p, .p] (.w (.agg [(.int .i64 (.v 47)), (.int .i64 (.v 48)), (.int .i64 (.v 49)), (.int .i64 (.v 50)), (.sl (.v 51) (.v 52) (.v 53)), (.sl (.v 55) (.v 56) (.v 57))])) [((.a 51), (.prop 54)), ((.a 55), (.prop 58)), ((.b (.v 6)), (.prop 59))]
             (.new
             (.again 0 [(.n (.v 60)), (.n (.v 33)), (.e (.o1 .neg (.o1 .neg (.v 47)))), (.e (.o1 .neg (.o1 .neg (.v 48)))), (.e (.o1 .neg (.o1 .neg (.v 49)))), (.e (.o1 .neg (.o1 .neg (.v 50)))), (.a (.v 51)), (.e (.o2 .nadd (.v 52) (.n 0))), (.e (.o2 .nadd (.v 53) (.n 0))), (.a (.v 55)), (.e (.o2 .nadd (.v 56) (.n 0))), (.e (.o2 .nadd (.v 57) (.n 0))), (.e (.o1 .neg (.o1 .neg (.v 34)))), (.e (.o1 .neg (.o1 .neg (.v 35)))), (.e (.o1 .neg (.o1 .neg (.v 36)))), (.e (.o1 .neg (.o1 .neg (.v 37)))), (.a (.v 38)), (.e (.o2 .nadd (.v 39) (.n 0))), (.e (.o2 .nadd (.v 40) (.n 0))), (.a (.v 42)), (.e (.o2 .nadd (.v 43) (.n 0))), (.e (.o2 .nadd (.v 44) (.n 0))), (.p [((.a 51), (.prop 54))]), (.p [((.a 55), (.prop 58))]), (.p [((.b (.v 6)), (.prop 59))]), (.p [((.a 38), (.prop 41))]), (.p [((.a 42), (.prop 45))])])))
             (.new
             (.call 18 [(.a (.ptr (.v 6) 0)), (.agg [(.int .i64 (.i 11)), (.str (.v 12)), (.str (.s [])), (.int .i64 (.i 0)), (.int .i64 (.i 0)), (.sl .nil (.n 0) (.n 0))])] [((.b (.v 6)), (.prop 46))] [.i, .i, .i, .i, .a, .n, .n, .p, .a, .n, .n, .p, .p] (.w (.agg [(.int .i64 (.v 48)), (.int .i64 (.v 49)), (.int .i64 (.v 50)), (.int .i64 (.v 51)), (.sl (.v 52) (.v 53) (.v 54)), (.sl (.v 56) (.v 57) (.v 58))])) [((.a 52), (.prop 55)), ((.a 56), (.prop 59)), ((.b (.v 6)), (.prop 60))]
             (.again 0 [(.n (.v 47)), (.n (.v 33)), (.e (.o1 .neg (.o1 .neg (.v 48)))), (.e (.o1 .neg (.o1 .neg (.v 49)))), (.e (.o1 .neg (.o1 .neg (.v 50)))), (.e (.o1 .neg (.o1 .neg (.v 51)))), (.a (.v 52)), (.e (.o2 .nadd (.v 53) (.n 0))), (.e (.o2 .nadd (.v 54) (.n 0))), (.a (.v 56)), (.e (.o2 .nadd (.v 57) (.n 0))), (.e (.o2 .nadd (.v 58) (.n 0))), (.e (.o1 .neg (.o1 .neg (.v 34)))), (.e (.o1 .neg (.o1 .neg (.v 35)))), (.e (.o1 .neg (.o1 .neg (.v 36)))), (.e (.o1 .neg (.o1 .neg (.v 37)))), (.a (.v 38)), (.e (.o2 .nadd (.v 39) (.n 0))), (.e (.o2 .nadd (.v 40) (.n 0))), (.a (.v 42)), (.e (.o2 .nadd (.v 43) (.n 0))), (.e (.o2 .nadd (.v 44) (.n 0))), (.p [((.a 52), (.prop 55))]), (.p [((.a 56), (.prop 59))]), (.p [((.b (.v 6)), (.prop 60))]), (.p [((.a 38), (.prop 41))]), (.p [((.a 42), (.prop 45))])])))))
            (.new
            (.call 18 [(.a (.ptr (.v 6) 0)), (.agg [(.int .i64 (.i 10)), (.str (.v 12)), (.str (.s [])), (.int .i64 (.i 0)), (.int .i64 (.i 0)), (.sl .nil (.n 0) (.n 0))])] [((.b (.v 6)), (.prop 32))] [.i, .i, .i, .i, .a, .n, .n, .p, .a, .n, .n, .p, .p] (.w (.agg [(.int .i64 (.v 35)), (.int .i64 (.v 36)), (.int .i64 (.v 37)), (.int .i64 (.v 38)), (.sl (.v 39) (.v 40) (.v 41)), (.sl (.v 43) (.v 44) (.v 45))])) [((.a 39), (.prop 42)), ((.a 43), (.prop 46)), ((.b (.v 6)), (.prop 47))]
            (.call 18 [(.a (.ptr (.v 6) 0)), (.agg [(.int .i64 (.i 11)), (.str (.v 12)), (.str (.s [])), (.int .i64 (.i 0)), (.int .i64 (.i 0)), (.sl .nil (.n 0) (.n 0))])] [((.b (.v 6)), (.prop 47))] [.i, .i, .i, .i, .a, .n, .n, .p, .a, .n, .n, .p, .p] (.w (.agg [(.int .i64 (.v 48)), (.int .i64 (.v 49)), (.int .i64 (.v 50)), (.int .i64 (.v 51)), (.sl (.v 52) (.v 53) (.v 54)), (.sl (.v 56) (.v 57) (.v 58))])) [((.a 52), (.prop 55)), ((.a 56), (.prop 59)), ((.b (.v 6)), (.prop 60))]
            (.again 0 [(.n (.v 34)), (.n (.v 33)), (.e (.o1 .neg (.o1 .neg (.v 48)))), (.e (.o1 .neg (.o1 .neg (.v 49)))), (.e (.o1 .neg (.o1 .neg (.v 50)))), (.e (.o1 .neg (.o1 .neg (.v 51)))), (.a (.v 52)), (.e (.o2 .nadd (.v 53) (.n 0))), (.e (.o2 .nadd (.v 54) (.n 0))), (.a (.v 56)), (.e (.o2 .nadd (.v 57) (.n 0))), (.e (.o2 .nadd (.v 58) (.n 0))), (.e (.o1 .neg (.o1 .neg (.v 35)))), (.e (.o1 .neg (.o1 .neg (.v 36)))), (.e (.o1 .neg (.o1 .neg (.v 37)))), (.e (.o1 .neg (.o1 .neg (.v 38)))), (.a (.v 39)), (.e (.o2 .nadd (.v 40) (.n 0))), (.e (.o2 .nadd (.v 41) (.n 0))), (.a (.v 43)), (.e (.o2 .nadd (.v 44) (.n 0))), (.e (.o2 .nadd (.v 45) (.n 0))), (.p [((.a 52), (.prop 55))]), (.p [((.a 56), (.prop 59))]), (.p [((.b (.v 6)), (.prop 60))]), (.p [((.a 39), (.prop 42))]), (.p [((.a 43), (.prop 46))])])))))
           (.new
           (.all
            (.call 18 [(.a (.ptr (.v 6) 0)), (.agg [(.int .i64 (.i 10)), (.str (.v 12)), (.str (.s [])), (.int .i64 (.i 0)), (.int .i64 (.i 0)), (.sl .nil (.n 0) (.n 0))])] [((.b (.v 6)), (.prop 32))] [.i, .i, .i, .i, .a, .n, .n, .p, .a, .n, .n, .p, .p] (.w (.agg [(.int .i64 (.v 35)), (.int .i64 (.v 36)), (.int .i64 (.v 37)), (.int .i64 (.v 38)), (.sl (.v 39) (.v 40) (.v 41)), (.sl (.v 43) (.v 44) (.v 45))])) [((.a 39), (.prop 42)), ((.a 43), (.prop 46)), ((.b (.v 6)), (.prop 47))]
            (.call 18 [(.a (.ptr (.v 6) 0)), (.agg [(.int .i64 (.i 11)), (.str (.v 12)), (.str (.s [])), (.int .i64 (.i 0)), (.int .i64 (.i 0)), (.sl .nil (.n 0) (.n 0))])] [((.b (.v 6)), (.prop 47))] [.i, .i, .i, .i, .a, .n, .n, .p, .a, .n, .n, .p, .p] (.w (.agg [(.int .i64 (.v 48)), (.int .i64 (.v 49)), (.int .i64 (.v 50)), (.int .i64 (.v 51)), (.sl (.v 52) (.v 53) (.v 54)), (.sl (.v 56) (.v 57) (.v 58))])) [((.a 52), (.prop 55)), ((.a 56), (.prop 59)), ((.b (.v 6)), (.prop 60))]
            (.again 0 [(.n (.v 34)), (.n (.v 33)), (.e (.o1 .neg (.o1 .neg (.v 48)))), (.e (.o1 .neg (.o1 .neg (.v 49)))), (.e (.o1 .neg (.o1 .neg (.v 50)))), (.e (.o1 .neg (.o1 .neg (.v 51)))), (.a (.v 52)), (.e (.o2 .nadd (.v 53) (.n 0))), (.e (.o2 .nadd (.v 54) (.n 0))), (.a (.v 56)), (.e (.o2 .nadd (.v 57) (.n 0))), (.e (.o2 .nadd (.v 58) (.n 0))), (.e (.o1 .neg (.o1 .neg (.v 35)))), (.e (.o1 .neg (.o1 .neg (.v 36)))), (.e (.o1 .neg (.o1 .neg (.v 37)))), (.e (.o1 .neg (.o1 .neg (.v 38)))), (.a (.v 39)), (.e (.o2 .nadd (.v 40) (.n 0))), (.e (.o2 .nadd (.v 41) (.n 0))), (.a (.v 43)), (.e (.o2 .nadd (.v 44) (.n 0))), (.e (.o2 .nadd (.v 45) (.n 0))), (.p [((.a 52), (.prop 55))]), (.p [((.a 56), (.prop 59))]), (.p [((.b (.v 6)), (.prop 60))]), (.p [((.a 39), (.prop 42))]), (.p [((.a 43), (.prop 46))])])))
            (.call 18 [(.a (.ptr (.v 6) 0)), (.agg [(.int .i64 (.i 10)), (.str (.v 12)), (.str (.s [])), (.int .i64 (.i 0)), (.int .i64 (.i 0)), (.sl .nil (.n 0) (.n 0))])] [((.b (.v 6)), (.prop 32))] [.i, .i, .i, .i, .a, .n, .n, .p, .a, .n, .n, .p, .p] (.w (.agg [(.int .i64 (.v 35)), (.int .i64 (.v 36)), (.int .i64 (.v 37)), (.int .i64 (.v 38)), (.sl (.v 39) (.v 40) (.v 41)), (.sl (.v 43) (.v 44) (.v 45))])) [((.a 39), (.prop 42)), ((.a 43), (.prop 46)), ((.b (.v 6)), (.prop 47))]
            (.call 18 [(.a (.ptr (.v 6) 0)), (.agg [(.int .i64 (.i 11)), (.str (.v 12)), (.str (.s [])), (.int .i64 (.i 0)), (.int .i64 (.i 0)), (.sl .nil (.n 0) (.n 0))])] [((.b (.v 6)), (.prop 47))] [.i, .i, .i, .i, .a, .n, .n, .p, .a, .n, .n, .p, .p] (.w (.agg [(.int .i64 (.v 48)), (.int .i64 (.v 49)), (.int .i64 (.v 50)), (.int .i64 (.v 51)), (.sl (.v 52) (.v 53) (.v 54)), (.sl (.v 56) (.v 57) (.v 58))])) [((.a 52), (.prop 55)), ((.a 56), (.prop 59)), ((.b (.v 6)), (.prop 60))]
            (.again 0 [(.n (.v 34)), (.n (.v 33)), (.e (.o1 .neg (.o1 .neg (.v 48)))), (.e (.o1 .neg (.o1 .neg (.v 49)))), (.e (.o1 .neg (.o1 .neg (.v 50)))), (.e (.o1 .neg (.o1 .neg (.v 51)))), (.a (.v 52)), (.e (.o2 .nadd (.v 53) (.n 0))), (.e (.o2 .nadd (.v 54) (.n 0))), (.a (.v 56)), (.e (.o2 .nadd (.v 57) (.n 0))), (.e (.o2 .nadd (.v 58) (.n 0))), (.e (.o1 .neg (.o1 .neg (.v 35)))), (.e (.o1 .neg (.o1 .neg (.v 36)))), (.e (.o1 .neg (.o1 .neg (.v 37)))), (.e (.o1 .neg (.o1 .neg (.v 38)))), (.a (.v 39)), (.e (.o2 .nadd (.v 40) (.n 0))), (.e (.o2 .nadd (.v 41) (.n 0))), (.a (.v 43)), (.e (.o2 .nadd (.v 44) (.n 0))), (.e (.o2 .nadd (.v 45) (.n 0))), (.p [((.a 52), (.prop 55))]), (.p [((.a 56), (.prop 59))]), (.p [((.b (.v 6)), (.prop 60))]), (.p [((.a 39), (.prop 42))]), (.p [((.a 43), (.prop 46))])])))))))
         (.all
          (.all
           (.all
            (.call 18 [(.a (.ptr (.v 6) 0)), (.agg [(.int .i64 (.i 10)), (.str (.v 12)), (.str (.s [])), (.int .i64 (.i 0)), (.int .i64 (.i 0)), (.sl .nil (.n 0) (.n 0))])] [((.b (.v 6)), (.prop 32))] [.i, .i, .i, .i, .a, .n, .n, .p, .a, .n, .n, .p, .p] (.w (.agg [(.int .i64 (.v 34)), (.int .i64 (.v 35)), (.int .i64 (.v 36)), (.int .i64 (.v 37)), (.sl (.v 38) (.v 39) (.v 40)), (.sl (.v 42) (.v 43) (.v 44))])) [((.a 38), (.prop 41)), ((.a 42), (.prop 45)), ((.b (.v 6)), (.prop 46))]
            (.all
             (.call 18 [(.a (.ptr (.v 6) 0)), (.agg [(.int .i64 (.i 11)), (.str (.v 12)), (.str (.s [])), (.int .i64 (.i 0)), (.int .i64 (.i 0)), (.sl .nil (.n 0) (.n 0))])] [((.b (.v 6)), (.prop 46))] [.i, .i, .i, .i, .a, .n, .n, .p, .a, .n, .n, .p, .p] (.w (.agg [(.int .i64 (.v 47)), (.int .i64 (.v 48)), (.int .i64 (.v 49)), (.int .i64 (.v 50)), (.sl (.v 51) (.v 52) (.v 53)), (.sl (.v 55) (.v 56) (.v 57))])) [((.a 51), (.prop 54)), ((.a 55), (.prop 58)), ((.b (.v 6)), (.prop 59))]
             (.new
             (.again 0 [(.n (.v 60)), (.n (.v 33)), (.e (.o1 .neg (.o1 .neg (.v 47)))), (.e (.o1 .neg (.o1 .neg (.v 48)))), (.e (.o1 .neg (.o1 .neg (.v 49)))), (.e (.o1 .neg (.o1 .neg (.v 50)))), (.a (.v 51)), (.e (.o2 .nadd (.v 52) (.n 0))), (.e (.o2 .nadd (.v 53) (.n 0))), (.a (.v 55)), (.e (.o2 .nadd (.v 56) (.n 0))), (.e (.o2 .nadd (.v 57) (.n 0))), (.e (.o1 .neg (.o1 .neg (.v 34)))), (.e (.o1 .neg (.o1 .neg (.v 35)))), (.e (.o1 .neg (.o1 .neg (.v 36)))), (.e (.o1 .neg (.o1 .neg (.v 37)))), (.a (.v 38)), (.e (.o2 .nadd (.v 39) (.n 0))), (.e (.o2 .nadd (.v 40) (.n 0))), (.a (.v 42)), (.e (.o2 .nadd (.v 43) (.n 0))), (.e (.o2 .nadd (.v 44) (.n 0))), (.p [((.a 51), (.prop 54))]), (.p [((.a 55), (.prop 58))]), (.p [((.b (.v 6)), (.prop 59))]), (.p [((.a 38), (.prop 41))]), (.p [((.a 42), (.prop 45))])])))
             (.new
             (.call 18 [(.a (.ptr (.v 6) 0)), (.agg [(.int .i64 (.i 11)), (.str (.v 12)), (.str (.s [])), (.int .i64 (.i 0)), (.int .i64 (.i 0)), (.sl .nil (.n 0) (.n 0))])] [((.b (.v 6)), (.prop 46))] [.i, .i, .i, .i, .a, .n, .n, .p, .a, .n, .n, .p, .p] (.w (.agg [(.int .i64 (.v 48)), (.int .i64 (.v 49)), (.int .i64 (.v 50)), (.int .i64 (.v 51)), (.sl (.v 52) (.v 53) (.v 54)), (.sl (.v 56) (.v 57) (.v 58))])) [((.a 52), (.prop 55)), ((.a 56), (.prop 59)), ((.b (.v 6)), (.prop 60))]
             (.again 0 [(.n (.v 47)), (.n (.v 33)), (.e (.o1 .neg (.o1 .neg (.v 48)))), (.e (.o1 .neg (.o1 .neg (.v 49)))), (.e (.o1 .neg (.o1 .neg (.v 50)))), (.e (.o1 .neg (.o1 .neg (.v 51)))), (.a (.v 52)), (.e (.o2 .nadd (.v 53) (.n 0))), (.e (.o2 .nadd (.v 54) (.n 0))), (.a (.v 56)), (.e (.o2 .nadd (.v 57) (.n 0))), (.e (.o2 .nadd (.v 58) (.n 0))), (.e (.o1 .neg (.o1 .neg (.v 34)))), (.e (.o1 .neg (.o1 .neg (.v 35)))), (.e (.o1 .neg (.o1 .neg (.v 36)))), (.e (.o1 .neg (.o1 .neg (.v 37)))), (.a (.v 38)), (.e (.o2 .nadd (.v 39) (.n 0))), (.e (.o2 .nadd (.v 40) (.n 0))), (.a (.v 42)), (.e (.o2 .nadd (.v 43) (.n 0))), (.e (.o2 .nadd (.v 44) (.n 0))), (.p [((.a 52), (.prop 55))]), (.p [((.a 56), (.prop 59))]), (.p [((.b (.v 6)), (.prop 60))]), (.p [((.a 38), (.prop 41))]), (.p [((.a 42), (.prop 45))])])))))
            (.new
            (.call 18 [(.a (.ptr (.v 6) 0)), (.agg [(.int .i64 (.i 10)), (.str (.v 12)), (.str (.s [])), (.int .i64 (.i 0)), (.int .i64 (.i 0)), (.sl .nil (.n 0) (.n 0))])] [((.b (.v 6)), (.prop 32))] [.i, .i, .i, .i, .a, .n, .n, .p, .a, .n, .n, .p, .p] (.w (.agg [(.int .i64 (.v 35)), (.int .i64 (.v 36)), (.int .i64 (.v 37)), (.int .i64 (.v 38)), (.sl (.v 39) (.v 40) (.v 41)), (.sl (.v 43) (.v 44) (.v 45))])) [((.a 39), (.prop 42)), ((.a 43), (.prop 46)), ((.b (.v 6)), (.prop 47))]
            (.call 18 [(.a (.ptr (.v 6) 0)), (.agg [(.int .i64 (.i 11)), (.str (.v 12)), (.str (.s [])), (.int .i64 (.i 0)), (.int .i64 (.i 0)), (.sl .nil (.n 0) (.n 0))])] [((.b (.v 6)), (.prop 47))] [.i, .i, .i, .i, .a, .n, .n, .p, .a, .n, .n, .p, .p] (.w (.agg [(.int .i64 (.v 48)), (.int .i64 (.v 49)), (.int .i64 (.v 50)), (.int .i64 (.v 51)), (.sl (.v 52) (.v 53) (.v 54)), (.sl (.v 56) (.v 57) (.v 58))])) [((.a 52), (.prop 55)), ((.a 56), (.prop 59)), ((.b (.v 6)), (.prop 60))]
            (.again 0 [(.n (.v 34)), (.n (.v 33)), (.e (.o1 .neg (.o1 .neg (.v 48)))), (.e (.o1 .neg (.o1 .neg (.v 49)))), (.e (.o1 .neg (.o1 .neg (.v 50)))), (.e (.o1 .neg (.o1 .neg (.v 51)))), (.a (.v 52)), (.e (.o2 .nadd (.v 53) (.n 0))), (.e (.o2 .nadd (.v 54) (.n 0))), (.a (.v 56)), (.e (.o2 .nadd (.v 57) (.n 0))), (.e (.o2 .nadd (.v 58) (.n 0))), (.e (.o1 .neg (.o1 .neg (.v 35)))), (.e (.o1 .neg (.o1 .neg (.v 36)))), (.e (.o1 .neg (.o1 .neg (.v 37)))), (.e (.o1 .neg (.o1 .neg (.v 38)))), (.a (.v 39)), (.e (.o2 .nadd (.v 40) (.n 0))), (.e (.o2 .nadd (.v 41) (.n 0))), (.a (.v 43)), (.e (.o2 .nadd (.v 44) (.n 0))), (.e (.o2 .nadd (.v 45) (.n 0))), (.p [((.a 52), (.prop 55))]), (.p [((.a 56), (.prop 59))]), (.p [((.b (.v 6)), (.prop 60))]), (.p [((.a 39), (.prop 42))]), (.p [((.a 43), (.prop 46))])])))))
           (.new
           (.call 18 [(.a (.ptr (.v 6) 0)), (.agg [(.int .i64 (.i 10)), (.str (.v 12)), (.str (.s [])), (.int .i64 (.i 0)), (.int .i64 (.i 0)), (.sl .nil (.n 0) (.n 0))])] [((.b (.v 6)), (.prop 32))] [.i, .i, .i, .i, .a, .n, .n, .p, .a, .n, .n, .p, .p] (.w (.agg [(.int .i64 (.v 35)), (.int .i64 (.v 36)), (.int .i64 (.v 37)), (.int .i64 (.v 38)), (.sl (.v 39) (.v 40) (.v 41)), (.sl (.v 43) (.v 44) (.v 45))])) [((.a 39), (.prop 42)), ((.a 43), (.prop 46)), ((.b (.v 6)), (.prop 47))]
           (.call 18 [(.a (.ptr (.v 6) 0)), (.agg [(.int .i64 (.i 11)), (.str (.v 12)), (.str (.s [])), (.int .i64 (.i 0)), (.int .i64 (.i 0)), (.sl .nil (.n 0) (.n 0))])] [((.b (.v 6)), (.prop 47))] [.i, .i, .i, .i, .a, .n, .n, .p, .a, .n, .n, .p, .p] (.w (.agg [(.int .i64 (.v 48)), (.int .i64 (.v 49)), (.int .i64 (.v 50)), (.int .i64 (.v 51)), (.sl (.v 52) (.v 53) (.v 54)), (.sl (.v 56) (.v 57) (.v 58))])) [((.a 52), (.prop 55)), ((.a 56), (.prop 59)), ((.b (.v 6)), (.prop 60))]
           (.again 0 [(.n (.v 34)), (.n (.v 33)), (.e (.o1 .neg (.o1 .neg (.v 48)))), (.e (.o1 .neg (.o1 .neg (.v 49)))), (.e (.o1 .neg (.o1 .neg (.v 50)))), (.e (.o1 .neg (.o1 .neg (.v 51)))), (.a (.v 52)), (.e (.o2 .nadd (.v 53) (.n 0))), (.e (.o2 .nadd (.v 54) (.n 0))), (.a (.v 56)), (.e (.o2 .nadd (.v 57) (.n 0))), (.e (.o2 .nadd (.v 58) (.n 0))), (.e (.o1 .neg (.o1 .neg (.v 35)))), (.e (.o1 .neg (.o1 .neg (.v 36)))), (.e (.o1 .neg (.o1 .neg (.v 37)))), (.e (.o1 .neg (.o1 .neg (.v 38)))), (.a (.v 39)), (.e (.o2 .nadd (.v 40) (.n 0))), (.e (.o2 .nadd (.v 41) (.n 0))), (.a (.v 43)), (.e (.o2 .nadd (.v 44) (.n 0))), (.e (.o2 .nadd (.v 45) (.n 0))), (.p [((.a 52), (.prop 55))]), (.p [((.a 56), (.prop 59))]), (.p [((.b (.v 6)), (.prop 60))]), (.p [((.a 39), (.prop 42))]), (.p [((.a 43), (.prop 46))])])))))
          (.new
          (.all
           (.all
            (.call 18 [(.a (.ptr (.v 6) 0)), (.agg [(.int .i64 (.i 10)), (.str (.v 12)), (.str (.s [])), (.int .i64 (.i 0)), (.int .i64 (.i 0)), (.sl .nil (.n 0) (.n 0))])] [((.b (.v 6)), (.prop 32))] [.i, .i, .i, .i, .a, .n, .n, .p, .a, .n, .n, .p, .p] (.w (.agg [(.int .i64 (.v 35)), (.int .i64 (.v 36)), (.int .i64 (.v 37)), (.int .i64 (.v 38)), (.sl (.v 39) (.v 40) (.v 41)), (.sl (.v 43) (.v 44) (.v 45))])) [((.a 39), (.prop 42)), ((.a 43), (.prop 46)), ((.b (.v 6)), (.prop 47))]
            (.call 18 [(.a (.ptr (.v 6) 0)), (.agg [(.int .i64 (.i 11)), (.str (.v 12)), (.str (.s [])), (.int .i64 (.i 0)), (.int .i64 (.i 0)), (.sl .nil (.n 0) (.n 0))])] [((.b (.v 6)), (.prop 47))] [.i, .i, .i, .i, .a, .n, .n, .p, .a, .n, .n, .p, .p] (.w (.agg [(.int .i64 (.v 48)), (.int .i64 (.v 49)), (.int .i64 (.v 50)), (.int .i64 (.v 51)), (.sl (.v 52) (.v 53) (.v 54)), (.sl (.v 56) (.v 57) (.v 58))])) [((.a 52), (.prop 55)), ((.a 56), (.prop 59)), ((.b (.v 6)), (.prop 60))]
            (.again 0 [(.n (.v 34)), (.n (.v 33)), (.e (.o1 .neg (.o1 .neg (.v 48)))), (.e (.o1 .neg (.o1 .neg (.v 49)))), (.e (.o1 .neg (.o1 .neg (.v 50)))), (.e (.o1 .neg (.o1 .neg (.v 51)))), (.a (.v 52)), (.e (.o2 .nadd (.v 53) (.n 0))), (.e (.o2 .nadd (.v 54) (.n 0))), (.a (.v 56)), (.e (.o2 .nadd (.v 57) (.n 0))), (.e (.o2 .nadd (.v 58) (.n 0))), (.e (.o1 .neg (.o1 .neg (.v 35)))), (.e (.o1 .neg (.o1 .neg (.v 36)))), (.e (.o1 .neg (.o1 .neg (.v 37)))), (.e (.o1 .neg (.o1 .neg (.v 38)))), (.a (.v 39)), (.e (.o2 .nadd (.v 40) (.n 0))), (.e (.o2 .nadd (.v 41) (.n 0))), (.a (.v 43)), (.e (.o2 .nadd (.v 44) (.n 0))), (.e (.o2 .nadd (.v 45) (.n 0))), (.p [((.a 52), (.prop 55))]), (.p [((.a 56), (.prop 59))]), (.p [((.b (.v 6)), (.prop 60))]), (.p [((.a 39), (.prop 42))]), (.p [((.a 43), (.prop 46))])])))
            (.call 18 [(.a (.ptr (.v 6) 0)), (.agg [(.int .i64 (.i 10)), (.str (.v 12)), (.str (.s [])), (.int .i64 (.i 0)), (.int .i64 (.i 0)), (.sl .nil (.n 0) (.n 0))])] [((.b (.v 6)), (.prop 32))] [.i, .i, .i, .i, .a, .n, .n, .p, .a, .n, .n, .p, .p] (.w (.agg [(.int .i64 (.v 35)), (.int .i64 (.v 36)), (.int .i64 (.v 37)), (.int .i64 (.v 38)), (.sl (.v 39) (.v 40) (.v 41)), (.sl (.v 43) (.v 44) (.v 45))])) [((.a 39), (.prop 42)), ((.a 43), (.prop 46)), ((.b (.v 6)), (.prop 47))]
            (.call 18 [(.a (.ptr (.v 6) 0)), (.agg [(.int .i64 (.i 11)), (.str (.v 12)), (.str (.s [])), (.int .i64 (.i 0)), (.int .i64 (.i 0)), (.sl .nil (.n 0) (.n 0))])] [((.b (.v 6)), (.prop 47))] [.i, .i, .i, .i, .a, .n, .n, .p, .a, .n, .n, .p, .p] (.w (.agg [(.int .i64 (.v 48)), (.int .i64 (.v 49)), (.int .i64 (.v 50)), (.int .i64 (.v 51)), (.sl (.v 52) (.v 53) (.v 54)), (.sl (.v 56) (.v 57) (.v 58))])) [((.a 52), (.prop 55)), ((.a 56), (.prop 59)), ((.b (.v 6)), (.prop 60))]
            (.again 0 [(.n (.v 34)), (.n (.v 33)), (.e (.o1 .neg (.o1 .neg (.v 48)))), (.e (.o1 .neg (.o1 .neg (.v 49)))), (.e (.o1 .neg (.o1 .neg (.v 50)))), (.e (.o1 .neg (.o1 .neg (.v 51)))), (.a (.v 52)), (.e (.o2 .nadd (.v 53) (.n 0))), (.e (.o2 .nadd (.v 54) (.n 0))), (.a (.v 56)), (.e (.o2 .nadd (.v 57) (.n 0))), (.e (.o2 .nadd (.v 58) (.n 0))), (.e (.o1 .neg (.o1 .neg (.v 35)))), (.e (.o1 .neg (.o1 .neg (.v 36)))), (.e (.o1 .neg (.o1 .neg (.v 37)))), (.e (.o1 .neg (.o1 .neg (.v 38)))), (.a (.v 39)), (.e (.o2 .nadd (.v 40) (.n 0))), (.e (.o2 .nadd (.v 41) (.n 0))), (.a (.v 43)), (.e (.o2 .nadd (.v 44) (.n 0))), (.e (.o2 .nadd (.v 45) (.n 0))), (.p [((.a 52), (.prop 55))]), (.p [((.a 56), (.prop 59))]), (.p [((.b (.v 6)), (.prop 60))]), (.p [((.a 39), (.prop 42))]), (.p [((.a 43), (.prop 46))])]))))
           (.call 18 [(.a (.ptr (.v 6) 0)), (.agg [(.int .i64 (.i 10)), (.str (.v 12)), (.str (.s [])), (.int .i64 (.i 0)), (.int .i64 (.i 0)), (.sl .nil (.n 0) (.n 0))])] [((.b (.v 6)), (.prop 32))] [.i, .i, .i, .i, .a, .n, .n, .p, .a, .n, .n, .p, .p] (.w (.agg [(.int .i64 (.v 35)), (.int .i64 (.v 36)), (.int .i64 (.v 37)), (.int .i64 (.v 38)), (.sl (.v 39) (.v 40) (.v 41)), (.sl (.v 43) (.v 44) (.v 45))])) [((.a 39), (.prop 42)), ((.a 43), (.prop 46)), ((.b (.v 6)), (.prop 47))]
           (.call 18 [(.a (.ptr (.v 6) 0)), (.agg [(.int .i64 (.i 11)), (.str (.v 12)), (.str (.s [])), (.int .i64 (.i 0)), (.int .i64 (.i 0)), (.sl .nil (.n 0) (.n 0))])] [((.b (.v 6)), (.prop 47))] [.i, .i, .i, .i, .a, .n, .n, .p, .a, .n, .n, .p, .p] (.w (.agg [(.int .i64 (.v 48)), (.int .i64 (.v 49)), (.int .i64 (.v 50)), (.int .i64 (.v 51)), (.sl (.v 52) (.v 53) (.v 54)), (.sl (.v 56) (.v 57) (.v 58))])) [((.a 52), (.prop 55)), ((.a 56), (.prop 59)), ((.b (.v 6)), (.prop 60))]
           (.again 0 [(.n (.v 34)), (.n (.v 33)), (.e (.o1 .neg (.o1 .neg (.v 48)))), (.e (.o1 .neg (.o1 .neg (.v 49)))), (.e (.o1 .neg (.o1 .neg (.v 50)))), (.e (.o1 .neg (.o1 .neg (.v 51)))), (.a (.v 52)), (.e (.o2 .nadd (.v 53) (.n 0))), (.e (.o2 .nadd (.v 54) (.n 0))), (.a (.v 56)), (.e (.o2 .nadd (.v 57) (.n 0))), (.e (.o2 .nadd (.v 58) (.n 0))), (.e (.o1 .neg (.o1 .neg (.v 35)))), (.e (.o1 .neg (.o1 .neg (.v 36)))), (.e (.o1 .neg (.o1 .neg (.v 37)))), (.e (.o1 .neg (.o1 .neg (.v 38)))), (.a (.v 39)), (.e (.o2 .nadd (.v 40) (.n 0))), (.e (.o2 .nadd (.v 41) (.n 0))), (.a (.v 43)), (.e (.o2 .nadd (.v 44) (.n 0))), (.e (.o2 .nadd (.v 45) (.n 0))), (.p [((.a 52), (.prop 55))]), (.p [((.a 56), (.prop 59))]), (.p [((.b (.v 6)), (.prop 60))]), (.p [((.a 39), (.prop 42))]), (.p [((.a 43), (.prop 46))])])))))))))))
    (.br (.o2 .eq (.v 45) (.i 0))
     (.br (.o2 .eq (.v 46) (.i 1))
      (.br (.o1 .not (.o2 .eq (.v 35) (.i 0)))
       (.ret (.w (.a (.bool (.c false)))) [((.a 0), (.prop 3))])
       (.br (.o1 .not (.o2 .eq (.o1 .ofNat (.v 43)) (.v 47)))
        (.ret (.w (.a (.bool (.c false)))) [((.a 0), (.prop 3))])
        (.br (.o2 .eq (.v 46) (.i 2))
         (.br (.o1 .not (.o2 .eq (.v 35) (.i 23)))
          (.ret (.w (.a (.bool (.c false)))) [((.a 0), (.prop 3))])
          (.need (.o1 (.inr .i64) (.o2 .add (.v 9) (.i 1)))
          (.again 0 [(.e (.o1 .not (.o1 .not (.v 8)))), (.e (.o1 .neg (.o1 .neg (.o2 .add (.v 9) (.i 1))))), (.p [((.b (.v 6)), (.prop 57))])])))
         (.need (.o1 (.inr .i64) (.o2 .add (.v 9) (.i 1)))
         (.again 0 [(.e (.o1 .not (.o1 .not (.v 8)))), (.e (.o1 .neg (.o1 .neg (.o2 .add (.v 9) (.i 1))))), (.p [((.b (.v 6)), (.prop 57))])])))))
      (.br (.o2 .eq (.v 46) (.i 2))
       (.br (.o1 .not (.o2 .eq (.v 35) (.i 23)))
        (.ret (.w (.a (.bool (.c false)))) [((.a 0), (.prop 3))])
        (.need (.o1 (.inr .i64) (.o2 .add (.v 9) (.i 1)))
        (.again 0 [(.e (.o1 .not (.o1 .not (.v 8)))), (.e (.o1 .neg (.o1 .neg (.o2 .add (.v 9) (.i 1))))), (.p [((.b (.v 6)), (.prop 57))])])))
       (.need (.o1 (.inr .i64) (.o2 .add (.v 9) (.i 1)))
       (.again 0 [(.e (.o1 .not (.o1 .not (.v 8)))), (.e (.o1 .neg (.o1 .neg (.o2 .add (.v 9) (.i 1))))), (.p [((.b (.v 6)), (.prop 57))])]))))
     (.br (.o1 .not (.o2 .eq (.v 35) (.v 45)))
      (.ret (.w (.a (.bool (.c false)))) [((.a 0), (.prop 3))])
      (.need (.o1 (.inr .i64) (.o2 .add (.v 9) (.i 1)))
      (.again 0 [(.e (.o1 .not (.o1 .not (.v 8)))), (.e (.o1 .neg (.o1 .neg (.o2 .add (.v 9) (.i 1))))), (.p [((.b (.v 6)), (.prop 57))])]))))))))))
    (.call 19 [(.a (.ptr (.v 6) 0))] [((.b (.v 6)), (.prop 10))] [.a, .n, .n, .p] (.w (.a (.sl (.v 11) (.v 12) (.v 13)))) [((.a 11), (.prop 14)), ((.b (.v 6)), (.prop 10))]
    (.loop [.i, .i, .c, .i] [(.e (.o1 .neg (.o1 .neg (.i 0)))), (.e (.o1 .neg (.o1 .neg (.i 0)))), (.e (.o1 .not (.o1 .not (.v 8)))), (.e (.o1 .neg (.o1 .neg (.i 0))))]
     (.br (.o2 .lt (.v 18) (.o1 .ofNat (.v 12)))
      (.need (.o2 .le (.i 0) (.v 18))
      (.need (.o1 .isSome (.v 11))
      (.read (.load 43 (.tmp 92)) 43 [(92, (.w (.a (.eptr 11 (.v 18) 5 0))))] [((.a 11), (.prop 14))] [.i, .i, .i, .a, .n, .n, .a, .n, .n] (.w (.agg [(.int .i64 (.v 19)), (.int .i64 (.v 20)), (.int .i64 (.v 21)), (.sl (.v 22) (.v 23) (.v 24)), (.sl (.v 25) (.v 26) (.v 27))]))
      (.new
      (.need (.o1 (.inr .i64) (.o2 .add (.v 15) (.v 21)))
      (.need (.o1 (.inr .i64) (.o2 .add (.v 16) (.o1 .ofNat (.v 26))))
      (.br (.o2 .lt (.i 512) (.o1 .ofNat (.v 23)))
       (.ret (.w (.a (.bool (.c false)))) [((.a 0), (.prop 3))])
       (.need (.o1 (.inr .i64) (.o2 .add (.v 18) (.i 1)))
       (.again 0 [(.e (.o1 .neg (.o1 .neg (.o2 .add (.v 15) (.v 21))))), (.e (.o1 .neg (.o1 .neg (.o2 .add (.v 16) (.o1 .ofNat (.v 26)))))), (.e (.o1 .not (.o1 .not (.v 17)))), (.e (.o1 .neg (.o1 .neg (.o2 .add (.v 18) (.i 1)))))])))))))))
      (.br (.o2 .le (.o1 .ofNat (.v 12)) (.i 64))
       (.need (.o1 (.inr .i64) (.o2 .add (.v 16) (.i 1)))
       (.ret (.w (.a (.bool (.o2 .eq (.v 15) (.o2 .add (.v 16) (.i 1)))))) [((.a 0), (.prop 3))]))
       (.ret (.w (.a (.bool (.c false)))) [((.a 0), (.prop 3))]))))))))))))
theorem tree_treeCounts : tree Tryz.prog { absT := [], opq := [], hv := [(0, [(.b (.v 6))])], keep := [19, 25, 21, 20, 26, 16], link := [], ent := [], turn := [(18, [0])], shr := [], vt := [], mkd := [], rlink := [], pty := [], outl := false, stay := [], snk := [], rdf := true, jn := [((27, 33), some { ss := [.n, .n, .i, .i, .i, .i, .a, .n, .n, .a, .n, .n, .i, .i, .i, .i, .a, .n, .n, .a, .n, .n, .p, .p, .p, .p, .p], n := 60, tv := [(27, none), (28, none), (29, none), (30, none), (31, none), (32, none), (33, none), (34, none), (35, none), (36, none), (6, some (.w (.a (.ptr (.v 33) 0)))), (7, some (.w (.a (.ptr (.v 34) 0))))], h := [((.b (.v 34)), (.cells [(.int .i64 (.v 35)), (.int .i64 (.v 36)), (.int .i64 (.v 37)), (.int .i64 (.v 38)), (.sl (.v 39) (.v 40) (.v 41)), (.sl (.v 42) (.v 43) (.v 44))] 31)), ((.b (.v 33)), (.cells [(.int .i64 (.v 45)), (.int .i64 (.v 46)), (.int .i64 (.v 47)), (.int .i64 (.v 48)), (.sl (.v 49) (.v 50) (.v 51)), (.sl (.v 52) (.v 53) (.v 54))] 31)), ((.a 39), (.prop 55)), ((.a 42), (.prop 56)), ((.b (.v 6)), (.prop 57)), ((.a 49), (.prop 58)), ((.a 52), (.prop 59)), ((.a 24), (.prop 27)), ((.a 28), (.prop 31)), ((.a 0), (.prop 3)), ((.b (.v 19)), (.cells [(.int .i64 (.v 11)), (.str (.v 12)), (.str (.v 13)), (.int .i64 (.v 14)), (.int .i64 (.v 15)), (.sl (.v 16) (.v 17) (.v 18))] 34))], lk := [] })] } Tryz.f5 [(.a (.sl (.v 0) (.v 1) (.v 2)))] [((.a 0), (.prop 3))] 4 = t_treeCounts := by kernel_rfl
end Go.Proofs.YtdieogcemmnaaaaGreatDoor.RX

/- Types that came in. No condition. -/
namespace Go.Proofs.YtdieogcemmnaaaaGreatDoor
open Go.RowKit Go.ChangeShapes Go.WideShapes Go.Deep RX
set_option maxRecDepth 100000
set_option linter.unusedVariables false
set_option linter.unusedSimpArgs false

structure CallE where
  kind : Int
  path : List UInt8
  other : List UInt8
  off : Int
  n : Int
  data : List UInt8
  da : Option Addr
  dc : Nat
abbrev CallE.vals (x : CallE) : List Value := [.int .i64 x.kind, .string ⟨x.path.toArray⟩, .string ⟨x.other.toArray⟩, .int .i64 x.off, .int .i64 x.n, .slice x.da x.data.length x.dc]
def CallE.hp (x : CallE) : HP := HP.both (HP.pure (okI x.kind)) (HP.both (HP.pure (x.path.length ≤ 9223372036854775807)) (HP.both (HP.pure (x.other.length ≤ 9223372036854775807)) (HP.both (HP.pure (okI x.off)) (HP.both (HP.pure (okI x.n)) (HP.and (x.data.length ≤ 140737488355328) (RoB x.da x.data.length x.data))))))
theorem CallE.pers (x : CallE) (R h h' : PH) (H : (x.hp).p R h) : (x.hp).p R h' := ⟨H.1, ⟨H.2.1, ⟨H.2.2.1, ⟨H.2.2.2.1, ⟨H.2.2.2.2.1, H.2.2.2.2.2⟩⟩⟩⟩⟩
instance : Inhabited CallE := ⟨⟨0, [], [], 0, 0, [], none, 0⟩⟩
def kCallE : Kind CallE := ⟨6, by decide, CallE.vals, fun _ => rfl, CallE.hp, CallE.pers⟩
theorem CallE.of_trod {H : Type} {enc : TypeId × Value → H} {w : World} {cs : List Value} {n : Nat} {x : DataW H × List MemPlace} (h : DataW.trod enc Tryz.prog w 0 (fun _ => true) true n 34 cs = some x) (hs : Small Tryz.prog 34 x.1) : ∃ m : CallE, cs = kCallE.vals m ∧ ∀ h, (kCallE.hp m).p (allOf w) h := by
  obtain ⟨xs0, n0, _, hx0, hl0, hxl0, hf0⟩ := DataW.trod_struct Tryz.underlying34 h
  replace hxl0 : xs0.length = 6 := hxl0
  have hs0 : Small Tryz.prog 34 (.agg (xs0.map (·.1))) := by
    have e := hx0
    first | (subst e; exact hs) | (rw [e] at hs; exact hs) | (have e2 := congrArg Prod.fst e; rw [← e2]; exact hs) | (rw [← e]; exact hs)
  obtain ⟨c0, e0, w0⟩ := field_int Tryz.underlying3 (show 0 < xs0.length by omega) (by kernel_rfl) (hf0 0 _ rfl)
  obtain ⟨c1, e1, w1⟩ := field_str Tryz.underlying9 (show 1 < xs0.length by omega) (by kernel_rfl) (hf0 1 _ rfl)
  obtain ⟨c2, e2, w2⟩ := field_str Tryz.underlying9 (show 2 < xs0.length by omega) (by kernel_rfl) (hf0 2 _ rfl)
  obtain ⟨c3, e3, w3⟩ := field_int Tryz.underlying3 (show 3 < xs0.length by omega) (by kernel_rfl) (hf0 3 _ rfl)
  obtain ⟨c4, e4, w4⟩ := field_int Tryz.underlying3 (show 4 < xs0.length by omega) (by kernel_rfl) (hf0 4 _ rfl)
  obtain ⟨a5, l5, k5, e5⟩ := field_slice Tryz.underlying28 (show 5 < xs0.length by omega) (by kernel_rfl) (hf0 5 _ rfl)
  have q5 := hf0 5 _ rfl
  rw [List.getElem?_eq_getElem (show 5 < xs0.length by omega)] at q5
  have g5 : DataW.trod enc Tryz.prog w 0 (fun _ => true) true n0 28 [.slice a5 l5 k5] = some xs0[5] := by
    rw [← take1' e5]
    exact q5
  have s5 : Small Tryz.prog 28 xs0[5].1 := Small.part (i := 5) hs0 Tryz.underlying34 rfl (by rw [List.getElem?_map, List.getElem?_eq_getElem (show 5 < xs0.length by omega)]; rfl)
  obtain ⟨b5, d5, m5, r5, y5, z5⟩ := bytes_of_trod g5 s5
  simp only [Value.slice.injEq] at r5
  obtain ⟨rfl, rfl, rfl⟩ := r5
  have hlen : cs.length = 6 := hl0.trans (by kernel_rfl)
  refine ⟨⟨c0, c1, c2, c3, c4, d5, a5, k5⟩, ?_, fun hh => ⟨int_wf w0, ⟨w1, ⟨w2, ⟨int_wf w3, ⟨int_wf w4, ⟨y5, z5 hh⟩⟩⟩⟩⟩⟩⟩
  clear h hl0 hf0 q5 g5 s5
  revert e0 e1 e2 e3 e4 e5
  match cs, hlen with
  | [u0, u1, u2, u3, u4, u5], _ =>
    intro e0
    obtain rfl : u0 = .int _ c0 := Option.some.inj e0
    intro e1
    obtain rfl : u1 = .string ⟨c1.toArray⟩ := Option.some.inj e1
    intro e2
    obtain rfl : u2 = .string ⟨c2.toArray⟩ := Option.some.inj e2
    intro e3
    obtain rfl : u3 = .int _ c3 := Option.some.inj e3
    intro e4
    obtain rfl : u4 = .int _ c4 := Option.some.inj e4
    intro e5
    obtain rfl : u5 = .slice a5 d5.length k5 := Option.some.inj e5
    rfl
theorem CallE.load {a : Option Addr} {n : Nat} {l : List CallE} {k : Nat} {x : CallE} (hk : l[k]? = some x) : ORead Tryz.prog (loadS 34 (.pointer (a.map fun y => (y.add ((k : Int).toNat * 6)).add 0))) (Ls kCallE a n l) (.agg x.vals.toArray) := by
  obtain ⟨d, hd⟩ : ∃ d, Tryz.prog.underlying 34 = some d := Option.isSome_iff_exists.1 (by kernel_rfl)
  exact Ls.load (K := kCallE) hd (by kernel_rfl) (by kernel_rfl) hk

end Go.Proofs.YtdieogcemmnaaaaGreatDoor

/- Law 4: calls as they come in; Do as laws call it; speaks, Great. No condition. -/
namespace Go.Proofs.YtdieogcemmnaaaaGreatDoor
set_option linter.unusedSimpArgs false
set_option linter.unusedVariables false
open Go.Proofs.YtdieogcemmnaaaaGreatDoor RX
set_option maxRecDepth 100000

abbrev kCall : Kind CallE := kCallE
abbrev callVs (x : CallE) : List Value := x.vals
def CallE.m (x : CallE) : CallM := ⟨x.kind, x.path, x.other, x.off, x.n, x.da, x.data.length, x.dc⟩
def dataAt (L : List CallE) : Prop := ∀ x ∈ L, x.data.length ≠ 0 → x.da.isSome = true
theorem dataAt_of {a : Option Addr} {n : Nat} {L : List CallE} {R h : PH} (H : (Ls kCall a n L).p R h) : dataAt L := fun x hx hd => RoC.some (H.2.2 x hx).2.2.2.2.2.2 (by omega)
theorem callD_of {a : Option Addr} {n : Nat} {L : List CallE} (hL : dataAt L) {x : CallE} (hx : x ∈ L) : CallD x.m (Ls kCall a n L) x.data where
  rd := ⟨Rd.impR (RdL.ro 1 x.da x.data.length (x.data.map u8v)).rd fun R h H => (H.2.2 x hx).2.2.2.2.2.2, fun R h H e => (RdL.ro 1 x.da x.data.length (x.data.map u8v)).none R h (H.2.2 x hx).2.2.2.2.2.2 e⟩
  len := rfl
  some' := hL x hx
variable {b : Nat} {t : TS}
def doC (T : List Nd) (c : CallM) (d : List UInt8) : List Nd × AnsM := doS T c.kind c.path c.other c.off c.n d
theorem doL {B : Nat} (hB : B ≤ 100000) (wf : TWf B t.pub) (c : CallM) (S : HP) (d : List UInt8) (hd : CallD c S d) {K : Int → Int → Int → Int → Option Addr → Nat → Nat → HP → Option Addr → Nat → Nat → HP → HP → Prop}
    (hK : ∀ t' da dc na nc, t'.pub = (doC t.pub c d).1 → K (doC t.pub c d).2.err (doC t.pub c d).2.kind (doC t.pub c d).2.size (doC t.pub c d).2.links da (doC t.pub c d).2.data.length dc (OwB da (doC t.pub c d).2.data.length dc (doC t.pub c d).2.data) na (doC t.pub c d).2.names.length nc (OwS na (doC t.pub c d).2.names.length nc (doC t.pub c d).2.names) (TRep b t')) :
    Tri Tryz.prog 18 #[.pointer (some ⟨b, 0, none⟩), c.val] (HP.sep (TRep b t) S) (fun v => HP.ex fun e : Int => HP.ex fun k : Int => HP.ex fun s : Int => HP.ex fun l : Int => HP.ex fun da : Option Addr => HP.ex fun dl : Nat => HP.ex fun dc : Nat => HP.ex fun dP : HP => HP.ex fun na : Option Addr => HP.ex fun nl : Nat => HP.ex fun nc : Nat => HP.ex fun nP : HP => HP.ex fun tP : HP =>
      HP.and (v = .agg #[.int .i64 e, .int .i64 k, .int .i64 s, .int .i64 l, .slice da dl dc, .slice na nl nc]) (HP.and (K e k s l da dl dc dP na nl nc nP tP) (HP.sep dP (HP.sep nP (HP.sep tP S))))) := by
  refine (tDo_ok hB wf c S d hd).weak (fun _ _ h => h) ?_
  rintro v R h ⟨t', ht, da, dc, na, nc, rfl, H⟩
  exact ⟨_, _, _, _, da, _, dc, _, na, _, nc, _, _, rfl, hK t' da dc na nc ht, H⟩
theorem doL0 {B : Nat} (hB : B ≤ 100000) (wf : TWf B t.pub) (kind : Int) (path other : Nm) (off n : Int) {K : Int → Int → Int → Int → Option Addr → Nat → Nat → HP → Option Addr → Nat → Nat → HP → HP → Prop}
    (hK : ∀ t' da dc na nc, t'.pub = (doS t.pub kind path other off n []).1 → K (doS t.pub kind path other off n []).2.err (doS t.pub kind path other off n []).2.kind (doS t.pub kind path other off n []).2.size (doS t.pub kind path other off n []).2.links da (doS t.pub kind path other off n []).2.data.length dc (OwB da (doS t.pub kind path other off n []).2.data.length dc (doS t.pub kind path other off n []).2.data) na (doS t.pub kind path other off n []).2.names.length nc (OwS na (doS t.pub kind path other off n []).2.names.length nc (doS t.pub kind path other off n []).2.names) (TRep b t')) :
    Tri Tryz.prog 18 #[.pointer (some ⟨b, 0, none⟩), .agg #[.int .i64 kind, sE path, sE other, .int .i64 off, .int .i64 n, .slice none 0 0]] (TRep b t) (fun v => HP.ex fun e : Int => HP.ex fun k : Int => HP.ex fun s : Int => HP.ex fun l : Int => HP.ex fun da : Option Addr => HP.ex fun dl : Nat => HP.ex fun dc : Nat => HP.ex fun dP : HP => HP.ex fun na : Option Addr => HP.ex fun nl : Nat => HP.ex fun nc : Nat => HP.ex fun nP : HP => HP.ex fun tP : HP =>
      HP.and (v = .agg #[.int .i64 e, .int .i64 k, .int .i64 s, .int .i64 l, .slice da dl dc, .slice na nl nc]) (HP.and (K e k s l da dl dc dP na nl nc nP tP) (HP.sep dP (HP.sep nP tP)))) := by
  have hd : CallD ⟨kind, path, other, off, n, none, 0, 0⟩ HP.tt [] := ⟨⟨fun w R h F s a j u hj => by simp at hj, fun _ _ _ _ => rfl⟩, rfl, fun h => absurd rfl h⟩
  refine (doL hB wf ⟨kind, path, other, off, n, none, 0, 0⟩ HP.tt [] hd (K := K) hK).weak (fun _ _ H => HP.sep_tt H) ?_
  rintro v R h ⟨e, k, s, l, da, dl, dc, dP, na, nl, nc, nP, tP, e1, hk, H⟩
  exact ⟨e, k, s, l, da, dl, dc, dP, na, nl, nc, nP, tP, e1, hk, HP.sep_mono H (fun _ h => h) fun z hz => HP.sep_mono hz (fun _ h => h) fun u hu => HP.sep_left hu⟩
set_option maxHeartbeats 1000000 in
theorem speaks04_ok : Tri Tryz.prog 15 #[] HP.tt (fun v => HP.pure (v = .bool true)) := by
  refine tri_of_tree (ρ := []) mixed Tryz.func15 tree_speaks04 ?_
  unfold t_speaks04
  simp only [T.den, E.prop, E.den, RX.look, F1.app, F2.app, Uni.int_i, Uni.nat_n, Uni.bool_c, Uni.str_s, Uni.adr_a, Uni.val_v, Uni.hp_p, hden, cden, V.den, W.den, A.den, BR.den, SA.den, FV.den, capV, exs, exP, allP, Cur.app, List.map_cons, List.map_nil, List.cons_append, List.nil_append, List.drop_succ_cons, List.drop_zero, List.length_cons, List.length_nil, Nat.zero_add, Nat.reduceAdd, Int.neg_neg, Bool.not_not, List.append_nil, Nat.add_zero, List.getElem?_cons_zero, List.getElem?_cons_succ, Decidable.not_not, semW_eq, semW_load, semW_store, semW_storeC, semW_append, semW_lookup, semW_lookupC, semW_update, semW_updateC, semW_updateK, semW_delete, semW_range, semW_next, semW_entry, semW_nil, ne_eq, Nat.reduceEqDiff, not_false_eq_true]
  refine tNew_ok.weak (fun _ _ h => h) ?_
  rintro v R h ⟨q, t0, ⟨rfl, h0⟩, H⟩
  refine ⟨q, TRep q t0, rfl, ?_, H⟩
  clear H
  have wf0 : TWf 1 t0.pub := by rw [h0]; exact newT_wf
  refine doL0 (by decide) wf0 1 [47, 97] [] 0 0 fun t1 da dc na nc h1 => ?_
  have wf1 : TWf 2 t1.pub := by rw [h1]; exact wf0.do (by decide) _ _ _ _ _ _
  intro x1
  refine doL0 (by decide) wf1 3 [47, 97, 47, 98] [] 0 0 fun t2 da dc na nc h2 => ?_
  have wf2 : TWf 3 t2.pub := by rw [h2]; exact wf1.do (by decide) _ _ _ _ _ _
  intro x2
  refine doL0 (by decide) wf2 6 [47, 97] [47, 97, 47, 99] 0 0 fun t3 da dc na nc h3 => ?_
  have wf3 : TWf 4 t3.pub := by rw [h3]; exact wf2.do (by decide) _ _ _ _ _ _
  intro x3
  rw [h0] at h1
  rw [h1] at h2
  rw [h2] at h3
  rw [h2, h1, h0]
  have e1 : (doS newT 1 [47, 97] [] 0 0 []).2.err = 0 := by decide +kernel
  have e2 : (doS (doS newT 1 [47, 97] [] 0 0 []).1 3 [47, 97, 47, 98] [] 0 0 []).2.err = 0 := by decide +kernel
  have e3 : (doS (doS (doS newT 1 [47, 97] [] 0 0 []).1 3 [47, 97, 47, 98] [] 0 0 []).1 6 [47, 97] [47, 97, 47, 99] 0 0 []).2.err = 26 := by decide +kernel
  have e4 : (doS (doS (doS newT 1 [47, 97] [] 0 0 []).1 3 [47, 97, 47, 98] [] 0 0 []).1 6 [47, 97] [47, 97, 47, 99] 0 0 []).1.length = 3 := by decide +kernel
  refine ⟨fun _ => ⟨fun _ => ⟨fun _ => ?_, fun h => absurd e3 h⟩, fun h => absurd e2 h⟩, fun h => absurd e1 h⟩
  refine (tNodes_ok (by decide) wf3).weak (fun _ _ h => h) ?_
  rintro v R h ⟨a, c, rfl, H⟩
  refine ⟨a, t3.pub.length, c, _, rfl, .of fun R h H => ?_, H⟩
  rw [h3, e4]
  rfl
/-- A field of a call that came in. -/
theorem undCall : ∃ d, Tryz.prog.underlying 34 = some d := Option.isSome_iff_exists.1 (by kernel_rfl)
theorem undNode : ∃ d, Tryz.prog.underlying 43 = some d := Option.isSome_iff_exists.1 (by kernel_rfl)
theorem aggNode : aggT Tryz.prog 43 = true := by kernel_rfl
theorem szNode : szT Tryz.prog 43 = 5 := by kernel_rfl
theorem aggCall : aggT Tryz.prog 34 = true := by kernel_rfl
theorem szCall : szT Tryz.prog 34 = 6 := by kernel_rfl
theorem Ls.some {α : Type} {K : Kind α} {a : Option Addr} {n : Nat} {l : List α} {R h : PH} (H : (Ls K a n l).p R h) (hn : n ≠ 0) : a.isSome = true := by
  exact RoC.some H.2.1 (Nat.pos_of_ne_zero hn)
theorem loadCall {a : Option Addr} {n : Nat} {l : List CallE} {k : Nat} {x : CallE} (hk : l[k]? = some x) : ORead Tryz.prog (loadS 34 (.pointer (a.map fun y => (y.add (k * 6)).add 0))) (Ls kCall a n l) (.agg (callVs x).toArray) := by
  obtain ⟨d, hd⟩ := undCall
  exact Ls.load (K := kCall) hd aggCall szCall hk
theorem loadNode {a : Option Addr} {n : Nat} {l : List NodeE} {k : Nat} {x : NodeE} (hk : l[k]? = some x) : ORead Tryz.prog (loadS 43 (.pointer (a.map fun y => (y.add (k * 5)).add 0))) (Ls kNode a n l) (.agg (nodeVs x).toArray) := by
  obtain ⟨d, hd⟩ := undNode
  exact Ls.load (K := kNode) hd aggNode szNode hk
def greatB (L : List CallE) : Bool := decide (120 < L.length) || L.any fun x => decide (300 < x.path.length) || decide (300 < x.other.length) || decide (600 < x.data.length)
set_option maxHeartbeats 1000000 in
theorem great04_ok (a : Option Addr) (n c : Nat) (L : List CallE) : Tri Tryz.prog 16 #[.slice a n c] (Ls kCall a n L) (fun v => HP.and (v = .bool (greatB L)) (Ls kCall a n L)) := by
  refine Tri.fact (φ := L.length = n ∧ (n ≠ 0 → a.isSome = true)) (fun R h H => ⟨H.1, fun hn => Ls.some H hn⟩) fun ⟨hl, ha⟩ => ?_
  refine tri_of_tree (ρ := [.a a, .n n, .n c, .p (Ls kCall a n L)]) mixed Tryz.func16 tree_great04 ?_
  unfold t_great04
  simp only [T.den, E.prop, E.den, RX.look, F1.app, F2.app, Uni.int_i, Uni.nat_n, Uni.bool_c, Uni.str_s, Uni.adr_a, Uni.val_v, Uni.hp_p, hden, cden, V.den, W.den, A.den, BR.den, SA.den, FV.den, capV, exs, exP, allP, Cur.app, List.map_cons, List.map_nil, List.cons_append, List.nil_append, List.drop_succ_cons, List.drop_zero, List.length_cons, List.length_nil, Nat.zero_add, Nat.reduceAdd, Int.neg_neg, Bool.not_not, List.append_nil, Nat.add_zero, List.getElem?_cons_zero, List.getElem?_cons_succ, Decidable.not_not, semW_eq, semW_load, semW_store, semW_storeC, semW_append, semW_lookup, semW_lookupC, semW_update, semW_updateC, semW_updateK, semW_delete, semW_range, semW_next, semW_entry, semW_nil, ne_eq, Nat.reduceEqDiff, not_false_eq_true]
  refine ⟨fun h => .of fun R h' H => ⟨?_, H⟩, fun h => ?_⟩
  · have : 120 < L.length := by omega
    simp [greatB, this]
  refine ⟨fun _ i => ∃ k : Nat, i = k ∧ k ≤ n ∧ ∀ j x, j < k → L[j]? = some x → x.path.length ≤ 300 ∧ x.other.length ≤ 300 ∧ x.data.length ≤ 600, fun _ i => n - i.toNat, ⟨0, rfl, Nat.zero_le _, fun j x hj => absurd hj (by omega)⟩, ?_⟩
  rintro _ _ ⟨k, rfl, hk, hb⟩
  refine ⟨fun hlt => ⟨by omega, fun _ => ⟨ha (by omega), fun _ => ?_⟩⟩, fun hge => .of fun R h' H => ⟨?_, H⟩⟩
  · obtain ⟨x, hx⟩ : ∃ x, L[k]? = some x := ⟨_, List.getElem?_eq_getElem (by omega)⟩
    have hxm := List.mem_of_getElem? hx
    refine ⟨x.kind, x.path, x.other, x.off, x.n, x.da, x.data.length, x.dc, loadCall hx, fun q => ?_⟩
    have key : 300 < x.path.length ∨ 300 < x.other.length ∨ 600 < x.data.length → greatB L = true := fun h => by
      unfold greatB
      rw [Bool.or_eq_true, List.any_eq_true]
      refine .inr ⟨x, hxm, ?_⟩
      simp only [Bool.or_eq_true, decide_eq_true_eq]
      omega
    have sz : ∀ l : List UInt8, (⟨l.toArray⟩ : ByteArray).size = l.length := fun l => by simp [ByteArray.size]
    refine ⟨fun h => .of fun R h' H => ⟨?_, H⟩, fun h1 => ⟨fun h => .of fun R h' H => ⟨?_, H⟩, fun h2 => ⟨fun h => .of fun R h' H => ⟨?_, H⟩, fun h3 => ⟨inI64' _ (by omega) (by omega), fun _ => ⟨⟨k + 1, by omega, by omega, fun j y hj hy => ?_⟩, by dsimp only; omega⟩⟩⟩⟩⟩
    · rw [key (by omega)]
    · rw [key (by omega)]
    · rw [key (by omega)]
    · rcases Nat.lt_or_eq_of_le (Nat.le_of_lt_succ hj) with h | h
      · exact hb j y h hy
      · subst h; rw [hx] at hy; cases hy; omega
  · have : greatB L = false := by
      unfold greatB
      rw [Bool.or_eq_false_iff]
      refine ⟨by simp; omega, ?_⟩
      rw [List.any_eq_false]
      intro x hx
      obtain ⟨j, hj⟩ := List.mem_iff_getElem?.1 hx
      have hjl := (List.getElem?_eq_some_iff.1 hj).1
      have := hb j x (by omega) hj
      simp; omega
    rw [this]
theorem great_len {L : List CallE} (h : ¬ greatB L = true) : L.length ≤ 120 := by
  unfold greatB at h
  simp at h
  omega
end Go.Proofs.YtdieogcemmnaaaaGreatDoor

/- Law 4: TreeCounts. No condition. -/
namespace Go.Proofs.YtdieogcemmnaaaaGreatDoor
open Go.Proofs.YtdieogcemmnaaaaGreatDoor RX
set_option maxRecDepth 100000

/-! links are entries, and one -/
theorem sum_zero : ∀ {l : List Nat}, (∀ x ∈ l, x = 0) → l.sum = 0
  | [], _ => rfl
  | a :: r, h => by
    rw [List.sum_cons, h a (List.mem_cons_self ..), sum_zero fun x hx => h x (List.mem_cons_of_mem _ hx)]
theorem sum_swap {α β : Type} (f : α → β → Nat) (l : List α) : ∀ m : List β, (l.map fun a => (m.map fun b => f a b).sum).sum = (m.map fun b => (l.map fun a => f a b).sum).sum
  | [] => by
    simp only [List.map_nil, List.sum_nil]
    exact sum_zero fun x hx => by obtain ⟨a, _, rfl⟩ := List.mem_map.1 hx; rfl
  | b :: r => by
    have ih := sum_swap f l r
    simp only [List.map_cons, List.sum_cons]
    rw [← ih]
    clear ih
    induction l with
    | nil => rfl
    | cons a l ih => simp only [List.map_cons, List.sum_cons, ih]; omega
theorem sum_one {T : List Nd} (hn : (T.map (·.num)).Nodup) {k : Nat} (hk : (nodeAt T k).isSome = true) : (T.map fun n => if k = n.num then 1 else 0).sum = 1 := by
  induction T with
  | nil => cases hk
  | cons z r ih =>
    rw [List.map_cons, List.nodup_cons] at hn
    simp only [List.map_cons, List.sum_cons]
    by_cases e : k = z.num
    · rw [if_pos e]
      have : (r.map fun n => if k = n.num then 1 else 0).sum = 0 := by
        refine sum_zero fun x hx => ?_
        obtain ⟨n, hm, rfl⟩ := List.mem_map.1 hx
        rw [if_neg]
        intro q
        exact hn.1 (List.mem_map.2 ⟨n, hm, by rw [← q, e]⟩)
      omega
    · rw [if_neg e, ih hn.2]
      unfold nodeAt at hk ⊢
      rw [List.find?_cons] at hk
      simpa [Ne.symm e] using hk
theorem sum_cnt {T : List Nd} (hn : (T.map (·.num)).Nodup) : ∀ {l : List (Nm × Nat)}, (∀ e ∈ l, (nodeAt T e.2).isSome = true) → (T.map fun n => cntE l n.num).sum = l.length
  | [], _ => by
    refine sum_zero fun x hx => ?_
    obtain ⟨n, hm, rfl⟩ := List.mem_map.1 hx
    rfl
  | e :: r, h => by
    have ih := sum_cnt hn (l := r) fun e he => h e (List.mem_cons_of_mem _ he)
    have h1 := sum_one hn (h e (List.mem_cons_self ..))
    have : ∀ T' : List Nd, (T'.map fun n => cntE (e :: r) n.num).sum = (T'.map fun n => cntE r n.num).sum + (T'.map fun n => if e.2 = n.num then 1 else 0).sum := fun T' => by
      induction T' with
      | nil => rfl
      | cons z q ih2 =>
        simp only [List.map_cons, List.sum_cons, ih2]
        have : cntE (e :: r) z.num = cntE r z.num + if e.2 = z.num then 1 else 0 := by unfold cntE; rw [List.countP_cons]; simp
        omega
    rw [this, ih, h1, List.length_cons]
def linksOf (T : List Nd) : Int := (T.map fun n => n.links).sum
def entsOf (T : List Nd) : Nat := (T.map fun n => n.ents.length).sum
theorem refs_sum {B : Nat} {T : List Nd} (wf : TWf B T) : (T.map fun n => refs T n.num).sum = entsOf T := by
  unfold refs entsOf
  rw [sum_swap (fun n m : Nd => cntE m.ents n.num) T T]
  congr 1
  refine List.map_congr_left fun m hm => sum_cnt wf.nd fun e he => wf.tgt m hm e he
theorem links_sum {B : Nat} {T : List Nd} (wf : TWf B T) : linksOf T = entsOf T + 1 := by
  obtain ⟨r, hr, hrk⟩ := wf.root
  have h0 : refs T 0 = 0 := refs_zero fun n hn e he => ((wf.good n hn).name e he).2
  have hrl : r.links = 1 := by
    rcases (wf.at' hr).1.kind with ⟨_, _, h⟩ | ⟨h, _⟩
    · exact h
    · omega
  have key : ∀ n ∈ T, n.links = ((refs T n.num + if 0 = n.num then 1 else 0 : Nat) : Int) := fun n hn => by
    by_cases e : 0 = n.num
    · have : nodeAt T 0 = some n := by rw [e]; exact mem_nodeAt wf.nd hn
      rw [hr] at this; cases this
      rw [if_pos e, ← e, h0, hrl]; rfl
    · rw [if_neg e, Nat.add_zero]
      exact (wf.cnt n hn (Ne.symm e)).symm
  have s1 := refs_sum wf
  have s2 := sum_one wf.nd (k := 0) (by rw [hr]; rfl)
  unfold linksOf
  rw [List.map_congr_left key]
  have gen : ∀ T' : List Nd, (T'.map fun n => ((refs T n.num + if 0 = n.num then 1 else 0 : Nat) : Int)).sum = (((T'.map fun n => refs T n.num).sum + (T'.map fun n => if 0 = n.num then 1 else 0).sum : Nat) : Int) := fun T' => by
    induction T' with
    | nil => rfl
    | cons z q ih => simp only [List.map_cons, List.sum_cons, ih]; omega
  rw [gen, s1, s2]; rfl
theorem take_sum (f : Nd → Int) {T : List Nd} {k : Nat} {x : Nd} (h : T[k]? = some x) : ((T.take (k + 1)).map f).sum = ((T.take k).map f).sum + f x := by
  rw [List.take_add_one, h]; simp
theorem sum_le (f : Nd → Int) (M : Int) (h0 : 0 ≤ M) : ∀ {T : List Nd}, (∀ n ∈ T, 0 ≤ f n ∧ f n ≤ M) → 0 ≤ (T.map f).sum ∧ (T.map f).sum ≤ M * T.length
  | [], _ => by simp
  | z :: r, h => by
    have := sum_le f M h0 (T := r) fun n hn => h n (List.mem_cons_of_mem _ hn)
    have h1 := h z (List.mem_cons_self ..)
    simp only [List.map_cons, List.sum_cons, List.length_cons]
    have e : M * ((r.length + 1 : Nat) : Int) = M * r.length + M := by
      rw [show ((r.length + 1 : Nat) : Int) = (r.length : Int) + 1 from rfl, Int.mul_add, Int.mul_one]
    omega

/-! what is asked after each call -/
theorem ask_right {T : List Nd} {B : Nat} (wf : TWf B T) (path : Nm) :
    ((statS T path).err = 0 → (statS T path).kind = 1 → (listS T path).err = 0 ∧ ((listS T path).names.length : Int) = (statS T path).size) ∧
    ((statS T path).err = 0 → (statS T path).kind = 2 → (listS T path).err = 23) ∧ ((statS T path).err ≠ 0 → (listS T path).err = (statS T path).err) := by
  unfold statS listS
  by_cases hc : (findS T path).2 = 0
  · rw [if_neg (by simp [hc]), if_neg (by simp [hc])]
    obtain ⟨x, hx⟩ := Option.isSome_iff_exists.1 (findS_some wf path)
    rw [hx]
    simp only
    by_cases hk : x.kind = 1
    · rw [if_neg (by simp [hk])]
      simp [hk]
    · rw [if_pos hk]
      refine ⟨fun _ h => absurd h hk, fun _ _ => rfl, fun h => absurd rfl h⟩
  · rw [if_pos hc, if_pos hc]
    exact ⟨fun h => absurd h hc, fun h => absurd h hc, fun _ => rfl⟩
end Go.Proofs.YtdieogcemmnaaaaGreatDoor

/- Law 4: TreeCounts answers true. No condition. -/
namespace Go.Proofs.YtdieogcemmnaaaaGreatDoor
set_option linter.unusedSimpArgs false
set_option linter.unusedVariables false
open Go.Proofs.YtdieogcemmnaaaaGreatDoor RX
set_option maxRecDepth 100000

theorem statL {b : Nat} {t : TS} {B : Nat} {T1 : List Nd} (wf : TWf B T1) (hB : B ≤ 100000) (hT : t.pub = T1) (path : Nm) {K : Int → Int → Int → Int → Option Addr → Nat → Nat → HP → Option Addr → Nat → Nat → HP → HP → Prop}
    (hK : ∀ t' da dc na nc, t'.pub = T1 → K (statS T1 path).err (statS T1 path).kind (statS T1 path).size (statS T1 path).links da (statS T1 path).data.length dc (OwB da (statS T1 path).data.length dc (statS T1 path).data) na (statS T1 path).names.length nc (OwS na (statS T1 path).names.length nc (statS T1 path).names) (TRep b t')) :
    Tri Tryz.prog 18 #[.pointer (some ⟨b, 0, none⟩), .agg #[.int .i64 10, .string ⟨path.toArray⟩, .string ⟨#[]⟩, .int .i64 0, .int .i64 0, .slice none 0 0]] (TRep b t) (fun v => HP.ex fun e : Int => HP.ex fun k : Int => HP.ex fun s : Int => HP.ex fun l : Int => HP.ex fun da : Option Addr => HP.ex fun dl : Nat => HP.ex fun dc : Nat => HP.ex fun dP : HP => HP.ex fun na : Option Addr => HP.ex fun nl : Nat => HP.ex fun nc : Nat => HP.ex fun nP : HP => HP.ex fun tP : HP =>
      HP.and (v = .agg #[.int .i64 e, .int .i64 k, .int .i64 s, .int .i64 l, .slice da dl dc, .slice na nl nc]) (HP.and (K e k s l da dl dc dP na nl nc nP tP) (HP.sep dP (HP.sep nP tP)))) := by
  have e : doS t.pub 10 path [] 0 0 [] = (T1, statS T1 path) := by rw [hT]; simp [doS]
  refine doL0 hB (by rw [hT]; exact wf) 10 path [] 0 0 fun t' da dc na nc h => ?_
  rw [e] at h ⊢
  exact hK t' da dc na nc h
theorem listL {b : Nat} {t : TS} {B : Nat} {T1 : List Nd} (wf : TWf B T1) (hB : B ≤ 100000) (hT : t.pub = T1) (path : Nm) {K : Int → Int → Int → Int → Option Addr → Nat → Nat → HP → Option Addr → Nat → Nat → HP → HP → Prop}
    (hK : ∀ t' da dc na nc, t'.pub = T1 → K (listS T1 path).err (listS T1 path).kind (listS T1 path).size (listS T1 path).links da (listS T1 path).data.length dc (OwB da (listS T1 path).data.length dc (listS T1 path).data) na (listS T1 path).names.length nc (OwS na (listS T1 path).names.length nc (listS T1 path).names) (TRep b t')) :
    Tri Tryz.prog 18 #[.pointer (some ⟨b, 0, none⟩), .agg #[.int .i64 11, .string ⟨path.toArray⟩, .string ⟨#[]⟩, .int .i64 0, .int .i64 0, .slice none 0 0]] (TRep b t) (fun v => HP.ex fun e : Int => HP.ex fun k : Int => HP.ex fun s : Int => HP.ex fun l : Int => HP.ex fun da : Option Addr => HP.ex fun dl : Nat => HP.ex fun dc : Nat => HP.ex fun dP : HP => HP.ex fun na : Option Addr => HP.ex fun nl : Nat => HP.ex fun nc : Nat => HP.ex fun nP : HP => HP.ex fun tP : HP =>
      HP.and (v = .agg #[.int .i64 e, .int .i64 k, .int .i64 s, .int .i64 l, .slice da dl dc, .slice na nl nc]) (HP.and (K e k s l da dl dc dP na nl nc nP tP) (HP.sep dP (HP.sep nP tP)))) := by
  have e : doS t.pub 11 path [] 0 0 [] = (T1, listS T1 path) := by rw [hT]; simp [doS]
  refine doL0 hB (by rw [hT]; exact wf) 11 path [] 0 0 fun t' da dc na nc h => ?_
  rw [e] at h ⊢
  exact hK t' da dc na nc h
theorem Tri.preE' {P : Program} {f : FuncId} {args : Array Value} {A A' : HP} {B : Value → HP} (t : Tri P f args A B) (e : HP.ent A' A) : Tri P f args A' B := t.conseq (K := HP.tt) (e.trans (.of fun _ _ H => HP.sep_tt H)) fun _ => .of fun _ _ H => HP.sep_left H
set_option maxHeartbeats 4000000 in
theorem treeCounts_ok (a : Option Addr) (n c : Nat) (L : List CallE) : Tri Tryz.prog 5 #[.slice a n c] (Ls kCall a n L) (fun v => HP.pure (v = .bool true)) := by
  refine Tri.fact (φ := L.length = n ∧ (n ≠ 0 → a.isSome = true) ∧ dataAt L) (fun R h H => ⟨H.1, fun hn => Ls.some H hn, dataAt_of H⟩) fun ⟨hl, ha, hL⟩ => ?_
  refine tri_of_tree (ρ := [.a a, .n n, .n c, .p (Ls kCall a n L)]) mixed Tryz.func5 tree_treeCounts ?_
  unfold t_treeCounts
  simp (maxSteps := 10000000) only [T.den, E.prop, E.den, RX.look, F1.app, F2.app, Uni.int_i, Uni.nat_n, Uni.bool_c, Uni.str_s, Uni.adr_a, Uni.val_v, Uni.hp_p, hden, cden, V.den, W.den, A.den, BR.den, SA.den, FV.den, capV, exs, exP, allP, Cur.app, List.map_cons, List.map_nil, List.cons_append, List.nil_append, List.drop_succ_cons, List.drop_zero, List.length_cons, List.length_nil, Nat.zero_add, Nat.reduceAdd, Int.neg_neg, Bool.not_not, List.append_nil, Nat.add_zero, List.getElem?_cons_zero, List.getElem?_cons_succ, Decidable.not_not, semW_eq, semW_load, semW_store, semW_storeC, semW_append, semW_lookup, semW_lookupC, semW_update, semW_updateC, semW_updateK, semW_delete, semW_range, semW_next, semW_entry, semW_nil, ne_eq, Nat.reduceEqDiff, not_false_eq_true]
  refine speaks04_ok.weak (fun _ _ _ => trivial) ?_
  rintro v R h rfl
  refine ⟨true, rfl, ⟨fun h => by simp at h, fun _ => ?_⟩, trivial⟩
  refine (great04_ok a n c L).weak (fun _ _ h => h) ?_
  rintro v R h ⟨rfl, H⟩
  refine ⟨greatB L, rfl, ⟨fun _ => .of fun R h H => trivial, fun hg => ?_⟩, H⟩
  clear H
  have hL120 := great_len hg
  refine tNew_ok.weak (fun _ _ h => h) ?_
  rintro v R h ⟨b, t0, ⟨rfl, h0⟩, H⟩
  refine ⟨b, TRep b t0, rfl, ?_, H⟩
  clear H
  refine ⟨fun _ i P => ∃ k : Nat, i = k ∧ k ≤ n ∧ ∃ t : TS, TWf (k + 1) t.pub ∧ P = TRep b t, fun _ i _ => n - i.toNat, ⟨0, rfl, Nat.zero_le _, t0, by rw [h0]; exact newT_wf, rfl⟩, ?_⟩
  rintro _ _ _ ⟨k, rfl, hk, t, wf, rfl⟩
  refine ⟨fun hlt => ⟨by omega, fun _ => ⟨ha (by omega), fun _ => ?_⟩⟩, fun hge => ?_⟩
  · obtain ⟨x, hx⟩ : ∃ x, L[k]? = some x := ⟨_, List.getElem?_eq_getElem (by omega)⟩
    have hxm := List.mem_of_getElem? hx
    refine ⟨x.kind, x.path, x.other, x.off, x.n, x.da, x.data.length, x.dc, loadCall hx, fun q => ?_⟩
    refine doL (by omega) wf x.m (Ls kCall a n L) x.data (callD_of hL hxm) fun t1 da dc na nc h1 => ?_
    have wf1 : TWf (k + 2) t1.pub := by rw [h1]; exact wf.do (by omega) _ _ _ _ _ _
    clear h1
    refine ⟨fun _ _ be bk bs bl bda bdl bdc bna bnl bnc ae ak asz al ada adl adc ana anl anc PB1 PB2 PT PA1 PA2 => be = (listS t1.pub x.path).err ∧ bnl = (listS t1.pub x.path).names.length ∧ ae = (statS t1.pub x.path).err ∧ ak = (statS t1.pub x.path).kind ∧ asz = (statS t1.pub x.path).size ∧ ∃ t2 : TS, t2.pub = t1.pub ∧ PT = TRep b t2, ?_, ?_⟩
    · have h1 : t1.pub = t1.pub := rfl
      repeat' (first
        | with_reducible refine And.intro ?_ ?_
        | with_reducible refine statL wf1 (by omega) (by assumption) x.path fun _ _ _ _ _ _ => ?_
        | with_reducible refine listL wf1 (by omega) (by assumption) x.path fun _ _ _ _ _ _ => ?_
        | with_reducible intro _
        | exact ⟨rfl, rfl, rfl, rfl, rfl, _, by assumption, rfl⟩)
    · rintro _ _ be bk bs bl bda bdl bdc bna bnl bnc ae ak asz al ada adl adc ana anl anc PB1 PB2 PT PA1 PA2 ⟨rfl, rfl, rfl, rfl, rfl, t2, h2, rfl⟩
      obtain ⟨r1, r2, r3⟩ := ask_right wf1 x.path
      have wf2 : TWf (k + 2) t2.pub := by rw [h2]; exact wf1
      have go : (IntKind.i64.min ≤ (k : Int) + 1 ∧ (k : Int) + 1 ≤ IntKind.i64.max) ∧ ((IntKind.i64.min ≤ (k : Int) + 1 ∧ (k : Int) + 1 ≤ IntKind.i64.max) → (∃ k' : Nat, (k : Int) + 1 = k' ∧ k' ≤ n ∧ ∃ t : TS, TWf (k' + 1) t.pub ∧ TRep b t2 = TRep b t) ∧ n - ((k : Int) + 1).toNat < n - (k : Int).toNat) :=
        ⟨inI64' _ (by omega) (by omega), fun _ => ⟨⟨k + 1, by omega, by omega, t2, wf2, rfl⟩, by omega⟩⟩
      refine ⟨fun e0 => ⟨fun k1 => ⟨fun h => absurd (r1 e0 k1).1 h, fun _ => ⟨fun h => absurd (r1 e0 k1).2 h, fun _ => ⟨fun k2 => absurd (k1.symm.trans k2) (by decide), fun _ => go⟩⟩⟩, fun k1 => ⟨fun k2 => ⟨fun h => absurd (r2 e0 k2) h, fun _ => go⟩, fun k2 => go⟩⟩, fun e0 => ⟨fun h => absurd (r3 e0) h, fun _ => go⟩⟩
  · refine (tNodes_ok (by omega) wf).weak (fun _ _ h => h) ?_
    rintro v R h ⟨na, nc, rfl, g1, g2, gd, gl1, gl2, ⟨es, hes, H1⟩, H2⟩
    have hna : t.pub.length ≠ 0 → na.isSome = true := fun hn => Ls.some H1 hn
    refine ⟨na, t.pub.length, nc, Ls kNode na t.pub.length es, rfl, ?_, ⟨g1, g2, gd, gl1, gl2, H1, H2⟩⟩
    clear H1 H2
    have h64 : t.pub.length ≤ 64 := by have := wf.few; unfold TS.pub; rw [List.length_map]; exact this
    have bl : ∀ n' ∈ t.pub, (0 ≤ n'.links ∧ n'.links ≤ 1000) ∧ (0 ≤ (n'.ents.length : Int) ∧ (n'.ents.length : Int) ≤ 1000) := fun n' hn' => by
      have g := wf.good n' hn'
      have := g.lpos
      have := g.lfew
      have := g.efew
      omega
    have bs : ∀ j, (0 ≤ ((t.pub.take j).map fun n => n.links).sum ∧ ((t.pub.take j).map fun n => n.links).sum ≤ 100000) ∧ (0 ≤ ((t.pub.take j).map fun n => (n.ents.length : Int)).sum ∧ ((t.pub.take j).map fun n => (n.ents.length : Int)).sum ≤ 100000) := fun j => by
      have l1 := sum_le (fun n : Nd => n.links) 1000 (by decide) (T := t.pub.take j) fun n' hn' => (bl n' (List.mem_of_mem_take hn')).1
      have l2 := sum_le (fun n : Nd => (n.ents.length : Int)) 1000 (by decide) (T := t.pub.take j) fun n' hn' => (bl n' (List.mem_of_mem_take hn')).2
      have l3 : (t.pub.take j).length ≤ 64 := by rw [List.length_take]; omega
      omega
    refine ⟨fun x y _ i => ∃ j : Nat, i = j ∧ j ≤ t.pub.length ∧ x = ((t.pub.take j).map fun n => n.links).sum ∧ y = ((t.pub.take j).map fun n => (n.ents.length : Int)).sum, fun _ _ _ i => t.pub.length - i.toNat, ⟨0, rfl, Nat.zero_le _, by simp, by simp⟩, ?_⟩
    rintro _ _ _ _ ⟨j, rfl, hj, rfl, rfl⟩
    refine ⟨fun hlt => ⟨by omega, fun _ => ⟨hna (by omega), fun _ => ?_⟩⟩, fun hge => ⟨fun _ => ⟨inI64' _ (by have := bs j; omega) (by have := bs j; omega), fun _ => ?_⟩, fun h => absurd (by omega) h⟩⟩
    · have hjl : j < es.length := by
        have : es.length = t.pub.length := by rw [← hes, List.length_map]
        omega
      obtain ⟨x, hx⟩ : ∃ x, es[j]? = some x := ⟨_, List.getElem?_eq_getElem hjl⟩
      have hxp : t.pub[j]? = some x.nd := by rw [← hes, List.getElem?_map, hx]; rfl
      have hxm := List.mem_of_getElem? hxp
      have s1 := take_sum (fun n => n.links) hxp
      have s2 := take_sum (fun n => (n.ents.length : Int)) hxp
      have b1 := bs (j + 1)
      rw [s1, s2] at b1
      have hdl := (wf.good _ hxm).data
      refine ⟨x.nd.num, x.nd.kind, x.nd.links, x.da, x.nd.data.length, x.dc, x.ea, x.nd.ents.length, x.ec, loadNode hx, fun q => ⟨inI64' _ (by omega) (by omega), fun _ => ⟨inI64' _ (by omega) (by omega), fun _ => ⟨fun h => absurd h (by omega), fun _ => ⟨inI64' _ (by omega) (by omega), fun _ => ⟨⟨j + 1, by omega, by omega, s1.symm, s2.symm⟩, by dsimp only; omega⟩⟩⟩⟩⟩⟩
    · obtain rfl : j = t.pub.length := by omega
      rw [List.take_length]
      have h1 := links_sum wf
      unfold linksOf entsOf at h1
      have h2 : (t.pub.map fun n => (n.ents.length : Int)).sum = ((t.pub.map fun n => n.ents.length).sum : Nat) := by
        generalize t.pub = T'
        induction T' with
        | nil => rfl
        | cons z q ih => simp only [List.map_cons, List.sum_cons, ih]; omega
      rw [h1, h2]
      exact .of fun R h H => by simp; trivial
end Go.Proofs.YtdieogcemmnaaaaGreatDoor
