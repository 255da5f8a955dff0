/- Texts of this claim, joined: TrLawCF, ChainFC, ChainFW. No condition. -/
import Derived.Test.YtmibmjehjagmbaaCFJ1
import Derived.Test.YtmibmjehjagmbaaCFJ5
import Derived.KernelRfl
set_option linter.unusedSimpArgs false
set_option linter.unusedVariables false
/- Trees of functions, printed by rx.lean. No condition. -/
namespace Go.Proofs.Ytmibmjehjagmbaa.RX
set_option maxRecDepth 100000
-- tideline/tidelinelaw17.ChainFind: ρ := [.i size, .a stepsa, .n stepsl, .n stepsc, .p stepsP, .a turnsa, .n turnsl, .n turnsc, .p turnsP]
def t_chainFind : T :=
(.call 47 [] [] [.c] (.w (.a (.bool (.v 9)))) []
(.br (.o1 .not (.v 9))
 (.ret (.w (.a (.bool (.c false)))) [((.a 1), (.prop 4)), ((.a 5), (.prop 8))])
 (.br (.o2 .lt (.i 20) (.o1 .ofNat (.v 2)))
  (.ret (.w (.a (.bool (.c true)))) [((.a 1), (.prop 4)), ((.a 5), (.prop 8))])
  (.br (.o2 .lt (.i 60) (.o1 .ofNat (.v 6)))
   (.ret (.w (.a (.bool (.c true)))) [((.a 1), (.prop 4)), ((.a 5), (.prop 8))])
   (.need (.o1 (.inr .i64) (.o2 .add (.o2 (.bit .and .i64) (.v 0) (.i 3)) (.i 1)))
   (.call 48 [(.a (.int .i64 (.o2 .add (.o2 (.bit .and .i64) (.v 0) (.i 3)) (.i 1))))] [] [.a, .n, .n, .p] (.w (.a (.sl (.v 10) (.v 11) (.v 12)))) [((.a 10), (.prop 13))]
   (.br (.o1 .not (.o1 .isSome (.v 10)))
    (.ret (.w (.a (.bool (.c false)))) [((.a 1), (.prop 4)), ((.a 5), (.prop 8))])
    (.new
    (.loop [.a, .n, .n, .i, .p] [(.a (.b (.v 14) 0)), (.e (.o2 .nadd (.n 0) (.n 0))), (.e (.o2 .nadd (.n 0) (.n 0))), (.e (.o1 .neg (.o1 .neg (.i 0)))), (.p [((.b (.v 14)), (.cells [] 3))])]
     (.br (.o2 .lt (.v 18) (.o2 .add (.o2 (.bit .and .i64) (.v 0) (.i 3)) (.i 1)))
      (.new
      (.op (.call ⟨.builtin .append, #[(.tmp 44), (.tmp 46)], #[86, 86]⟩) 86 [(44, (.w (.a (.sl (.v 15) (.v 16) (.v 17))))), (46, (.w (.a (.sl (.b (.v 20) 0) (.n 1) (.n 1)))))] [((.a 15), (.prop 19)), ((.b (.v 20)), (.cells [(.int .i64 (.v 18))] 3))] [.a, .n, .n, .p] (.w (.a (.sl (.v 21) (.v 22) (.v 23)))) [((.a 21), (.prop 24)), ((.b (.v 20)), (.cells [(.int .i64 (.v 18))] 3))]
      (.need (.o1 (.inr .i64) (.o2 .add (.v 18) (.i 1)))
      (.again 0 [(.a (.v 21)), (.e (.o2 .nadd (.v 22) (.n 0))), (.e (.o2 .nadd (.v 23) (.n 0))), (.e (.o1 .neg (.o1 .neg (.o2 .add (.v 18) (.i 1))))), (.p [((.a 21), (.prop 24))])]))))
      (.call 49 [(.a (.int .i64 (.i 5))), (.a (.sl (.v 15) (.v 16) (.v 17)))] [((.a 15), (.prop 19))] [.n, .p] (.w (.a (.ptr (.v 20) 0))) [((.b (.v 20)), (.prop 21)), ((.a 15), (.prop 19))]
      (.call 49 [(.a (.int .i64 (.i 5))), (.a (.sl (.v 15) (.v 16) (.v 17)))] [((.a 15), (.prop 19))] [.n, .p] (.w (.a (.ptr (.v 22) 0))) [((.b (.v 22)), (.prop 23)), ((.a 15), (.prop 19))]
      (.new
      (.new
      (.loop [.c, .a, .n, .n, .i, .p, .p] [(.e (.o1 .not (.o1 .not (.c false)))), (.a (.b (.v 24) 0)), (.e (.o2 .nadd (.n 2) (.n 0))), (.e (.o2 .nadd (.n 2) (.n 0))), (.e (.o1 .neg (.o1 .neg (.i 0)))), (.p [((.b (.v 25)), .emap)]), (.p [((.b (.v 24)), (.cells [(.ptr (.v 20) 0), (.ptr (.v 22) 0)] 91)), ((.b (.v 20)), (.prop 21)), ((.b (.v 22)), (.prop 23))])]
       (.br (.o2 .lt (.v 30) (.o1 .ofNat (.v 2)))
        (.need (.o2 .le (.i 0) (.v 30))
        (.need (.o1 .isSome (.v 1))
        (.read (.load 90 (.tmp 58)) 90 [(58, (.w (.a (.eptr 1 (.v 30) 5 0))))] [((.a 1), (.prop 4))] [.c, .c, .i, .i, .a, .n, .n] (.w (.agg [(.bool (.v 33)), (.bool (.v 34)), (.int .i64 (.v 35)), (.int .i64 (.v 36)), (.sl (.v 37) (.v 38) (.v 39))]))
        (.new
        (.br (.o2 .lt (.i 100) (.o1 .ofNat (.v 38)))
         (.ret (.w (.a (.bool (.c true)))) [((.a 1), (.prop 4)), ((.a 5), (.prop 8))])
         (.call 50 [(.a (.int .i64 (.i 5))), (.a (.sl (.v 15) (.v 16) (.v 17))), (.agg [(.int .i64 (.i 1)), (.sl (.v 37) (.v 38) (.v 39))])] [((.a 15), (.prop 19)), ((.a 1), (.prop 4))] [.n, .p] (.w (.a (.ptr (.v 41) 0))) [((.b (.v 41)), (.prop 42)), ((.a 15), (.prop 19)), ((.a 1), (.prop 4))]
         (.new
         (.op (.call ⟨.builtin .append, #[(.tmp 64), (.tmp 70)], #[101, 101]⟩) 101 [(64, (.w (.a (.sl (.v 27) (.v 28) (.v 29))))), (70, (.w (.a (.sl (.b (.v 43) 0) (.n 1) (.n 1)))))] [((.a 27), (.prop 32)), ((.b (.v 43)), (.cells [(.ptr (.v 41) 0)] 91)), ((.b (.v 41)), (.prop 42))] [.a, .n, .n, .p] (.w (.a (.sl (.v 44) (.v 45) (.v 46)))) [((.a 44), (.prop 47))]
         (.read (.convert 30 9 (.tmp 74)) 9 [(74, (.w (.a (.sl (.v 37) (.v 38) (.v 39)))))] [((.a 1), (.prop 4))] [.s] (.w (.a (.str (.v 48))))
         (.op (.mapUpdate 56 (.tmp 72) (.tmp 75) (.const (.bool true))) 0 [(72, (.w (.a (.map (.v 25))))), (75, (.w (.a (.str (.v 48)))))] [((.b (.v 25)), (.prop 31))] [.p] (.tup []) [((.b (.v 25)), (.prop 49))]
         (.need (.o1 (.inr .i64) (.o2 .add (.v 30) (.i 1)))
         (.again 0 [(.e (.o1 .not (.o1 .not (.v 26)))), (.a (.v 44)), (.e (.o2 .nadd (.v 45) (.n 0))), (.e (.o2 .nadd (.v 46) (.n 0))), (.e (.o1 .neg (.o1 .neg (.o2 .add (.v 30) (.i 1))))), (.p [((.b (.v 25)), (.prop 49))]), (.p [((.a 44), (.prop 47))])]))))))))))))
        (.loop [.i, .p, .p] [(.e (.o1 .neg (.o1 .neg (.i 0)))), (.p [((.a 27), (.prop 32))]), (.p [((.a 10), (.prop 13))])]
         (.br (.o2 .lt (.v 33) (.o1 .ofNat (.v 6)))
          (.need (.o2 .le (.i 0) (.v 33))
          (.need (.o1 .isSome (.v 5))
          (.read (.load 3 (.tmp 81)) 3 [(81, (.w (.a (.eptr 5 (.v 33) 1 0))))] [((.a 5), (.prop 8))] [.i] (.w (.a (.int .i64 (.v 36))))
          (.need (.o1 .not (.o2 .eq (.o1 .ofNat (.v 28)) (.i 0)))
          (.need (.o2 .le (.i 0) (.o2 .rem (.o2 (.bit .and .i64) (.v 36) (.i 65535)) (.o1 .ofNat (.v 28))))
          (.need (.o2 .lt (.o2 .rem (.o2 (.bit .and .i64) (.v 36) (.i 65535)) (.o1 .ofNat (.v 28))) (.o1 .ofNat (.v 28)))
          (.need (.o1 .isSome (.v 27))
          (.op (.load 91 (.tmp 89)) 91 [(89, (.w (.a (.eptr 27 (.o2 .rem (.o2 (.bit .and .i64) (.v 36) (.i 65535)) (.o1 .ofNat (.v 28))) 1 0))))] [((.a 27), (.prop 34))] [.n, .p, .p] (.w (.a (.ptr (.v 37) 0))) [((.b (.v 37)), (.prop 38)), ((.a 27), (.prop 39))]
          (.call 51 [(.a (.ptr (.v 37) 0)), (.a (.sl (.v 10) (.v 11) (.v 12)))] [((.b (.v 37)), (.prop 38)), ((.a 10), (.prop 35))] [.c, .p, .p] (.w (.a (.bool (.v 40)))) [((.b (.v 37)), (.prop 41)), ((.a 10), (.prop 42))]
          (.need (.o1 (.inr .i64) (.o2 .add (.v 33) (.i 1)))
          (.again 0 [(.e (.o1 .neg (.o1 .neg (.o2 .add (.v 33) (.i 1))))), (.p [((.a 27), (.prop 39)), ((.b (.v 37)), (.prop 41))]), (.p [((.a 10), (.prop 42))])])))))))))))
          (.loop [.i, .p, .p] [(.e (.o1 .neg (.o1 .neg (.i 0)))), (.p [((.a 27), (.prop 34))]), (.p [((.a 10), (.prop 35))])]
           (.br (.o2 .lt (.v 36) (.i 2))
            (.loop [.i, .p, .p] [(.e (.o1 .neg (.o1 .neg (.i 0)))), (.p [((.a 27), (.prop 37))]), (.p [((.a 10), (.prop 38))])]
             (.need (.o1 (.inr .i64) (.o2 .add (.o2 .add (.o2 (.bit .and .i64) (.v 0) (.i 3)) (.i 1)) (.i 2)))
             (.br (.o2 .lt (.v 39) (.o2 .add (.o2 .add (.o2 (.bit .and .i64) (.v 0) (.i 3)) (.i 1)) (.i 2)))
              (.need (.o2 .le (.i 0) (.v 36))
              (.need (.o2 .lt (.v 36) (.o1 .ofNat (.v 28)))
              (.need (.o1 .isSome (.v 27))
              (.op (.load 91 (.tmp 105)) 91 [(105, (.w (.a (.eptr 27 (.v 36) 1 0))))] [((.a 27), (.prop 40))] [.n, .p, .p] (.w (.a (.ptr (.v 42) 0))) [((.b (.v 42)), (.prop 43)), ((.a 27), (.prop 44))]
              (.call 51 [(.a (.ptr (.v 42) 0)), (.a (.sl (.v 10) (.v 11) (.v 12)))] [((.b (.v 42)), (.prop 43)), ((.a 10), (.prop 41))] [.c, .p, .p] (.w (.a (.bool (.v 45)))) [((.b (.v 42)), (.prop 46)), ((.a 10), (.prop 47))]
              (.br (.v 45)
               (.need (.o1 (.inr .i64) (.o2 .add (.v 39) (.i 1)))
               (.again 0 [(.e (.o1 .neg (.o1 .neg (.o2 .add (.v 39) (.i 1))))), (.p [((.a 27), (.prop 44)), ((.b (.v 42)), (.prop 46))]), (.p [((.a 10), (.prop 47))])]))
               (.need (.o1 (.inr .i64) (.o2 .add (.v 36) (.i 1)))
               (.again 1 [(.e (.o1 .neg (.o1 .neg (.o2 .add (.v 36) (.i 1))))), (.p [((.a 27), (.prop 44)), ((.b (.v 42)), (.prop 46))]), (.p [((.a 10), (.prop 47))])]))))))))
              (.need (.o1 (.inr .i64) (.o2 .add (.v 36) (.i 1)))
              (.again 1 [(.e (.o1 .neg (.o1 .neg (.o2 .add (.v 36) (.i 1))))), (.p [((.a 27), (.prop 40))]), (.p [((.a 10), (.prop 41))])])))))
            (.join [.n, .n, .i, .a, .n, .n, .i, .a, .n, .n, .p, .p, .p]
             (.need (.o2 .lt (.i 0) (.o1 .ofNat (.v 28)))
             (.need (.o1 .isSome (.v 27))
             (.need (.o2 .lt (.i 1) (.o1 .ofNat (.v 28)))
             (.all
              (.op (.load 91 (.tmp 113)) 91 [(113, (.w (.a (.eptr 27 (.i 0) 1 0))))] [((.a 27), (.prop 37))] [.n, .p, .p] (.w (.a (.ptr (.v 39) 0))) [((.b (.v 39)), (.prop 40)), ((.a 27), (.prop 41))]
              (.all
               (.call 53 [(.a (.ptr (.v 39) 0))] [((.b (.v 39)), (.prop 40))] [.i, .a, .n, .n, .p] (.w (.agg [(.int .i64 (.v 42)), (.sl (.v 43) (.v 44) (.v 45))])) [((.a 43), (.prop 46)), ((.b (.v 39)), (.prop 40))]
               (.all
                (.op (.load 91 (.tmp 117)) 91 [(117, (.w (.a (.eptr 27 (.i 1) 1 0))))] [((.a 27), (.prop 41)), ((.b (.v 39)), (.prop 40))] [.n, .p, .p, .p] (.w (.a (.ptr (.v 47) 0))) [((.b (.v 47)), (.prop 48)), ((.a 27), (.prop 49)), ((.b (.v 39)), (.prop 50))]
                (.all
                 (.call 53 [(.a (.ptr (.v 47) 0))] [((.b (.v 47)), (.prop 48))] [.i, .a, .n, .n, .p] (.w (.agg [(.int .i64 (.v 51)), (.sl (.v 52) (.v 53) (.v 54))])) [((.a 52), (.prop 55)), ((.b (.v 47)), (.prop 48))]
                 (.all
                  (.new
                  (.new
                  (.again 0 [(.n (.v 56)), (.n (.v 57)), (.e (.o1 .neg (.o1 .neg (.v 51)))), (.a (.v 52)), (.e (.o2 .nadd (.v 53) (.n 0))), (.e (.o2 .nadd (.v 54) (.n 0))), (.e (.o1 .neg (.o1 .neg (.v 42)))), (.a (.v 43)), (.e (.o2 .nadd (.v 44) (.n 0))), (.e (.o2 .nadd (.v 45) (.n 0))), (.p [((.a 52), (.prop 55))]), (.p [((.a 27), (.prop 49)), ((.b (.v 47)), (.prop 48)), ((.b (.v 39)), (.prop 50))]), (.p [((.a 43), (.prop 46))])])))
                  (.new
                  (.new
                  (.again 0 [(.n (.v 57)), (.n (.v 56)), (.e (.o1 .neg (.o1 .neg (.v 51)))), (.a (.v 52)), (.e (.o2 .nadd (.v 53) (.n 0))), (.e (.o2 .nadd (.v 54) (.n 0))), (.e (.o1 .neg (.o1 .neg (.v 42)))), (.a (.v 43)), (.e (.o2 .nadd (.v 44) (.n 0))), (.e (.o2 .nadd (.v 45) (.n 0))), (.p [((.a 52), (.prop 55))]), (.p [((.a 27), (.prop 49)), ((.b (.v 47)), (.prop 48)), ((.b (.v 39)), (.prop 50))]), (.p [((.a 43), (.prop 46))])])))))
                 (.all
                  (.new
                  (.all
                   (.call 53 [(.a (.ptr (.v 47) 0))] [((.b (.v 47)), (.prop 48))] [.i, .a, .n, .n, .p] (.w (.agg [(.int .i64 (.v 52)), (.sl (.v 53) (.v 54) (.v 55))])) [((.a 53), (.prop 56)), ((.b (.v 47)), (.prop 48))]
                   (.new
                   (.again 0 [(.n (.v 51)), (.n (.v 57)), (.e (.o1 .neg (.o1 .neg (.v 52)))), (.a (.v 53)), (.e (.o2 .nadd (.v 54) (.n 0))), (.e (.o2 .nadd (.v 55) (.n 0))), (.e (.o1 .neg (.o1 .neg (.v 42)))), (.a (.v 43)), (.e (.o2 .nadd (.v 44) (.n 0))), (.e (.o2 .nadd (.v 45) (.n 0))), (.p [((.a 53), (.prop 56))]), (.p [((.a 27), (.prop 49)), ((.b (.v 47)), (.prop 48)), ((.b (.v 39)), (.prop 50))]), (.p [((.a 43), (.prop 46))])])))
                   (.new
                   (.call 53 [(.a (.ptr (.v 47) 0))] [((.b (.v 47)), (.prop 48))] [.i, .a, .n, .n, .p] (.w (.agg [(.int .i64 (.v 53)), (.sl (.v 54) (.v 55) (.v 56))])) [((.a 54), (.prop 57)), ((.b (.v 47)), (.prop 48))]
                   (.again 0 [(.n (.v 51)), (.n (.v 52)), (.e (.o1 .neg (.o1 .neg (.v 53)))), (.a (.v 54)), (.e (.o2 .nadd (.v 55) (.n 0))), (.e (.o2 .nadd (.v 56) (.n 0))), (.e (.o1 .neg (.o1 .neg (.v 42)))), (.a (.v 43)), (.e (.o2 .nadd (.v 44) (.n 0))), (.e (.o2 .nadd (.v 45) (.n 0))), (.p [((.a 54), (.prop 57))]), (.p [((.a 27), (.prop 49)), ((.b (.v 47)), (.prop 48)), ((.b (.v 39)), (.prop 50))]), (.p [((.a 43), (.prop 46))])])))))
                  (.new
                  (.all
                   (.call 53 [(.a (.ptr (.v 47) 0))] [((.b (.v 47)), (.prop 48))] [.i, .a, .n, .n, .p] (.w (.agg [(.int .i64 (.v 52)), (.sl (.v 53) (.v 54) (.v 55))])) [((.a 53), (.prop 56)), ((.b (.v 47)), (.prop 48))]
                   (.new
                   (.again 0 [(.n (.v 57)), (.n (.v 51)), (.e (.o1 .neg (.o1 .neg (.v 52)))), (.a (.v 53)), (.e (.o2 .nadd (.v 54) (.n 0))), (.e (.o2 .nadd (.v 55) (.n 0))), (.e (.o1 .neg (.o1 .neg (.v 42)))), (.a (.v 43)), (.e (.o2 .nadd (.v 44) (.n 0))), (.e (.o2 .nadd (.v 45) (.n 0))), (.p [((.a 53), (.prop 56))]), (.p [((.a 27), (.prop 49)), ((.b (.v 47)), (.prop 48)), ((.b (.v 39)), (.prop 50))]), (.p [((.a 43), (.prop 46))])])))
                   (.new
                   (.call 53 [(.a (.ptr (.v 47) 0))] [((.b (.v 47)), (.prop 48))] [.i, .a, .n, .n, .p] (.w (.agg [(.int .i64 (.v 53)), (.sl (.v 54) (.v 55) (.v 56))])) [((.a 54), (.prop 57)), ((.b (.v 47)), (.prop 48))]
                   (.again 0 [(.n (.v 52)), (.n (.v 51)), (.e (.o1 .neg (.o1 .neg (.v 53)))), (.a (.v 54)), (.e (.o2 .nadd (.v 55) (.n 0))), (.e (.o2 .nadd (.v 56) (.n 0))), (.e (.o1 .neg (.o1 .neg (.v 42)))), (.a (.v 43)), (.e (.o2 .nadd (.v 44) (.n 0))), (.e (.o2 .nadd (.v 45) (.n 0))), (.p [((.a 54), (.prop 57))]), (.p [((.a 27), (.prop 49)), ((.b (.v 47)), (.prop 48)), ((.b (.v 39)), (.prop 50))]), (.p [((.a 43), (.prop 46))])]))))))))
                (.all
                 (.new
                 (.all
                  (.op (.load 91 (.tmp 117)) 91 [(117, (.w (.a (.eptr 27 (.i 1) 1 0))))] [((.a 27), (.prop 41)), ((.b (.v 39)), (.prop 40))] [.n, .p, .p, .p] (.w (.a (.ptr (.v 48) 0))) [((.b (.v 48)), (.prop 49)), ((.a 27), (.prop 50)), ((.b (.v 39)), (.prop 51))]
                  (.all
                   (.call 53 [(.a (.ptr (.v 48) 0))] [((.b (.v 48)), (.prop 49))] [.i, .a, .n, .n, .p] (.w (.agg [(.int .i64 (.v 52)), (.sl (.v 53) (.v 54) (.v 55))])) [((.a 53), (.prop 56)), ((.b (.v 48)), (.prop 49))]
                   (.new
                   (.again 0 [(.n (.v 47)), (.n (.v 57)), (.e (.o1 .neg (.o1 .neg (.v 52)))), (.a (.v 53)), (.e (.o2 .nadd (.v 54) (.n 0))), (.e (.o2 .nadd (.v 55) (.n 0))), (.e (.o1 .neg (.o1 .neg (.v 42)))), (.a (.v 43)), (.e (.o2 .nadd (.v 44) (.n 0))), (.e (.o2 .nadd (.v 45) (.n 0))), (.p [((.a 53), (.prop 56))]), (.p [((.a 27), (.prop 50)), ((.b (.v 48)), (.prop 49)), ((.b (.v 39)), (.prop 51))]), (.p [((.a 43), (.prop 46))])])))
                   (.new
                   (.call 53 [(.a (.ptr (.v 48) 0))] [((.b (.v 48)), (.prop 49))] [.i, .a, .n, .n, .p] (.w (.agg [(.int .i64 (.v 53)), (.sl (.v 54) (.v 55) (.v 56))])) [((.a 54), (.prop 57)), ((.b (.v 48)), (.prop 49))]
                   (.again 0 [(.n (.v 47)), (.n (.v 52)), (.e (.o1 .neg (.o1 .neg (.v 53)))), (.a (.v 54)), (.e (.o2 .nadd (.v 55) (.n 0))), (.e (.o2 .nadd (.v 56) (.n 0))), (.e (.o1 .neg (.o1 .neg (.v 42)))), (.a (.v 43)), (.e (.o2 .nadd (.v 44) (.n 0))), (.e (.o2 .nadd (.v 45) (.n 0))), (.p [((.a 54), (.prop 57))]), (.p [((.a 27), (.prop 50)), ((.b (.v 48)), (.prop 49)), ((.b (.v 39)), (.prop 51))]), (.p [((.a 43), (.prop 46))])])))))
                  (.new
                  (.op (.load 91 (.tmp 117)) 91 [(117, (.w (.a (.eptr 27 (.i 1) 1 0))))] [((.a 27), (.prop 41)), ((.b (.v 39)), (.prop 40))] [.n, .p, .p, .p] (.w (.a (.ptr (.v 49) 0))) [((.b (.v 49)), (.prop 50)), ((.a 27), (.prop 51)), ((.b (.v 39)), (.prop 52))]
                  (.call 53 [(.a (.ptr (.v 49) 0))] [((.b (.v 49)), (.prop 50))] [.i, .a, .n, .n, .p] (.w (.agg [(.int .i64 (.v 53)), (.sl (.v 54) (.v 55) (.v 56))])) [((.a 54), (.prop 57)), ((.b (.v 49)), (.prop 50))]
                  (.again 0 [(.n (.v 47)), (.n (.v 48)), (.e (.o1 .neg (.o1 .neg (.v 53)))), (.a (.v 54)), (.e (.o2 .nadd (.v 55) (.n 0))), (.e (.o2 .nadd (.v 56) (.n 0))), (.e (.o1 .neg (.o1 .neg (.v 42)))), (.a (.v 43)), (.e (.o2 .nadd (.v 44) (.n 0))), (.e (.o2 .nadd (.v 45) (.n 0))), (.p [((.a 54), (.prop 57))]), (.p [((.a 27), (.prop 51)), ((.b (.v 49)), (.prop 50)), ((.b (.v 39)), (.prop 52))]), (.p [((.a 43), (.prop 46))])]))))))
                 (.new
                 (.all
                  (.op (.load 91 (.tmp 117)) 91 [(117, (.w (.a (.eptr 27 (.i 1) 1 0))))] [((.a 27), (.prop 41)), ((.b (.v 39)), (.prop 40))] [.n, .p, .p, .p] (.w (.a (.ptr (.v 48) 0))) [((.b (.v 48)), (.prop 49)), ((.a 27), (.prop 50)), ((.b (.v 39)), (.prop 51))]
                  (.all
                   (.call 53 [(.a (.ptr (.v 48) 0))] [((.b (.v 48)), (.prop 49))] [.i, .a, .n, .n, .p] (.w (.agg [(.int .i64 (.v 52)), (.sl (.v 53) (.v 54) (.v 55))])) [((.a 53), (.prop 56)), ((.b (.v 48)), (.prop 49))]
                   (.new
                   (.again 0 [(.n (.v 57)), (.n (.v 47)), (.e (.o1 .neg (.o1 .neg (.v 52)))), (.a (.v 53)), (.e (.o2 .nadd (.v 54) (.n 0))), (.e (.o2 .nadd (.v 55) (.n 0))), (.e (.o1 .neg (.o1 .neg (.v 42)))), (.a (.v 43)), (.e (.o2 .nadd (.v 44) (.n 0))), (.e (.o2 .nadd (.v 45) (.n 0))), (.p [((.a 53), (.prop 56))]), (.p [((.a 27), (.prop 50)), ((.b (.v 48)), (.prop 49)), ((.b (.v 39)), (.prop 51))]), (.p [((.a 43), (.prop 46))])])))
                   (.new
                   (.call 53 [(.a (.ptr (.v 48) 0))] [((.b (.v 48)), (.prop 49))] [.i, .a, .n, .n, .p] (.w (.agg [(.int .i64 (.v 53)), (.sl (.v 54) (.v 55) (.v 56))])) [((.a 54), (.prop 57)), ((.b (.v 48)), (.prop 49))]
                   (.again 0 [(.n (.v 52)), (.n (.v 47)), (.e (.o1 .neg (.o1 .neg (.v 53)))), (.a (.v 54)), (.e (.o2 .nadd (.v 55) (.n 0))), (.e (.o2 .nadd (.v 56) (.n 0))), (.e (.o1 .neg (.o1 .neg (.v 42)))), (.a (.v 43)), (.e (.o2 .nadd (.v 44) (.n 0))), (.e (.o2 .nadd (.v 45) (.n 0))), (.p [((.a 54), (.prop 57))]), (.p [((.a 27), (.prop 50)), ((.b (.v 48)), (.prop 49)), ((.b (.v 39)), (.prop 51))]), (.p [((.a 43), (.prop 46))])])))))
                  (.new
                  (.op (.load 91 (.tmp 117)) 91 [(117, (.w (.a (.eptr 27 (.i 1) 1 0))))] [((.a 27), (.prop 41)), ((.b (.v 39)), (.prop 40))] [.n, .p, .p, .p] (.w (.a (.ptr (.v 49) 0))) [((.b (.v 49)), (.prop 50)), ((.a 27), (.prop 51)), ((.b (.v 39)), (.prop 52))]
                  (.call 53 [(.a (.ptr (.v 49) 0))] [((.b (.v 49)), (.prop 50))] [.i, .a, .n, .n, .p] (.w (.agg [(.int .i64 (.v 53)), (.sl (.v 54) (.v 55) (.v 56))])) [((.a 54), (.prop 57)), ((.b (.v 49)), (.prop 50))]
                  (.again 0 [(.n (.v 48)), (.n (.v 47)), (.e (.o1 .neg (.o1 .neg (.v 53)))), (.a (.v 54)), (.e (.o2 .nadd (.v 55) (.n 0))), (.e (.o2 .nadd (.v 56) (.n 0))), (.e (.o1 .neg (.o1 .neg (.v 42)))), (.a (.v 43)), (.e (.o2 .nadd (.v 44) (.n 0))), (.e (.o2 .nadd (.v 45) (.n 0))), (.p [((.a 54), (.prop 57))]), (.p [((.a 27), (.prop 51)), ((.b (.v 49)), (.prop 50)), ((.b (.v 39)), (.prop 52))]), (.p [((.a 43), (.prop 46))])])))))))))
               (.all
                (.op (.load 91 (.tmp 117)) 91 [(117, (.w (.a (.eptr 27 (.i 1) 1 0))))] [((.a 27), (.prop 41)), ((.b (.v 39)), (.prop 40))] [.n, .p, .p, .p] (.w (.a (.ptr (.v 42) 0))) [((.b (.v 42)), (.prop 43)), ((.a 27), (.prop 44)), ((.b (.v 39)), (.prop 45))]
                (.all
                 (.call 53 [(.a (.ptr (.v 39) 0))] [((.b (.v 39)), (.prop 45))] [.i, .a, .n, .n, .p] (.w (.agg [(.int .i64 (.v 46)), (.sl (.v 47) (.v 48) (.v 49))])) [((.a 47), (.prop 50)), ((.b (.v 39)), (.prop 45))]
                 (.all
                  (.call 53 [(.a (.ptr (.v 42) 0))] [((.b (.v 42)), (.prop 43))] [.i, .a, .n, .n, .p] (.w (.agg [(.int .i64 (.v 51)), (.sl (.v 52) (.v 53) (.v 54))])) [((.a 52), (.prop 55)), ((.b (.v 42)), (.prop 43))]
                  (.all
                   (.new
                   (.new
                   (.again 0 [(.n (.v 56)), (.n (.v 57)), (.e (.o1 .neg (.o1 .neg (.v 51)))), (.a (.v 52)), (.e (.o2 .nadd (.v 53) (.n 0))), (.e (.o2 .nadd (.v 54) (.n 0))), (.e (.o1 .neg (.o1 .neg (.v 46)))), (.a (.v 47)), (.e (.o2 .nadd (.v 48) (.n 0))), (.e (.o2 .nadd (.v 49) (.n 0))), (.p [((.a 52), (.prop 55))]), (.p [((.a 27), (.prop 44)), ((.b (.v 42)), (.prop 43)), ((.b (.v 39)), (.prop 45))]), (.p [((.a 47), (.prop 50))])])))
                   (.new
                   (.new
                   (.again 0 [(.n (.v 57)), (.n (.v 56)), (.e (.o1 .neg (.o1 .neg (.v 51)))), (.a (.v 52)), (.e (.o2 .nadd (.v 53) (.n 0))), (.e (.o2 .nadd (.v 54) (.n 0))), (.e (.o1 .neg (.o1 .neg (.v 46)))), (.a (.v 47)), (.e (.o2 .nadd (.v 48) (.n 0))), (.e (.o2 .nadd (.v 49) (.n 0))), (.p [((.a 52), (.prop 55))]), (.p [((.a 27), (.prop 44)), ((.b (.v 42)), (.prop 43)), ((.b (.v 39)), (.prop 45))]), (.p [((.a 47), (.prop 50))])])))))
                  (.all
                   (.new
                   (.all
                    (.call 53 [(.a (.ptr (.v 42) 0))] [((.b (.v 42)), (.prop 43))] [.i, .a, .n, .n, .p] (.w (.agg [(.int .i64 (.v 52)), (.sl (.v 53) (.v 54) (.v 55))])) [((.a 53), (.prop 56)), ((.b (.v 42)), (.prop 43))]
                    (.new
                    (.again 0 [(.n (.v 51)), (.n (.v 57)), (.e (.o1 .neg (.o1 .neg (.v 52)))), (.a (.v 53)), (.e (.o2 .nadd (.v 54) (.n 0))), (.e (.o2 .nadd (.v 55) (.n 0))), (.e (.o1 .neg (.o1 .neg (.v 46)))), (.a (.v 47)), (.e (.o2 .nadd (.v 48) (.n 0))), (.e (.o2 .nadd (.v 49) (.n 0))), (.p [((.a 53), (.prop 56))]), (.p [((.a 27), (.prop 44)), ((.b (.v 42)), (.prop 43)), ((.b (.v 39)), (.prop 45))]), (.p [((.a 47), (.prop 50))])])))
                    (.new
                    (.call 53 [(.a (.ptr (.v 42) 0))] [((.b (.v 42)), (.prop 43))] [.i, .a, .n, .n, .p] (.w (.agg [(.int .i64 (.v 53)), (.sl (.v 54) (.v 55) (.v 56))])) [((.a 54), (.prop 57)), ((.b (.v 42)), (.prop 43))]
                    (.again 0 [(.n (.v 51)), (.n (.v 52)), (.e (.o1 .neg (.o1 .neg (.v 53)))), (.a (.v 54)), (.e (.o2 .nadd (.v 55) (.n 0))), (.e (.o2 .nadd (.v 56) (.n 0))), (.e (.o1 .neg (.o1 .neg (.v 46)))), (.a (.v 47)), (.e (.o2 .nadd (.v 48) (.n 0))), (.e (.o2 .nadd (.v 49) (.n 0))), (.p [((.a 54), (.prop 57))]), (.p [((.a 27), (.prop 44)), ((.b (.v 42)), (.prop 43)), ((.b (.v 39)), (.prop 45))]), (.p [((.a 47), (.prop 50))])])))))
                   (.new
                   (.all
                    (.call 53 [(.a (.ptr (.v 42) 0))] [((.b (.v 42)), (.prop 43))] [.i, .a, .n, .n, .p] (.w (.agg [(.int .i64 (.v 52)), (.sl (.v 53) (.v 54) (.v 55))])) [((.a 53), (.prop 56)), ((.b (.v 42)), (.prop 43))]
                    (.new
                    (.again 0 [(.n (.v 57)), (.n (.v 51)), (.e (.o1 .neg (.o1 .neg (.v 52)))), (.a (.v 53)), (.e (.o2 .nadd (.v 54) (.n 0))), (.e (.o2 .nadd (.v 55) (.n 0))), (.e (.o1 .neg (.o1 .neg (.v 46)))), (.a (.v 47)), (.e (.o2 .nadd (.v 48) (.n 0))), (.e (.o2 .nadd (.v 49) (.n 0))), (.p [((.a 53), (.prop 56))]), (.p [((.a 27), (.prop 44)), ((.b (.v 42)), (.prop 43)), ((.b (.v 39)), (.prop 45))]), (.p [((.a 47), (.prop 50))])])))
                    (.new
                    (.call 53 [(.a (.ptr (.v 42) 0))] [((.b (.v 42)), (.prop 43))] [.i, .a, .n, .n, .p] (.w (.agg [(.int .i64 (.v 53)), (.sl (.v 54) (.v 55) (.v 56))])) [((.a 54), (.prop 57)), ((.b (.v 42)), (.prop 43))]
                    (.again 0 [(.n (.v 52)), (.n (.v 51)), (.e (.o1 .neg (.o1 .neg (.v 53)))), (.a (.v 54)), (.e (.o2 .nadd (.v 55) (.n 0))), (.e (.o2 .nadd (.v 56) (.n 0))), (.e (.o1 .neg (.o1 .neg (.v 46)))), (.a (.v 47)), (.e (.o2 .nadd (.v 48) (.n 0))), (.e (.o2 .nadd (.v 49) (.n 0))), (.p [((.a 54), (.prop 57))]), (.p [((.a 27), (.prop 44)), ((.b (.v 42)), (.prop 43)), ((.b (.v 39)), (.prop 45))]), (.p [((.a 47), (.prop 50))])]))))))))
                 (.all
                  (.new
                  (.all
                   (.call 53 [(.a (.ptr (.v 39) 0))] [((.b (.v 39)), (.prop 45))] [.i, .a, .n, .n, .p] (.w (.agg [(.int .i64 (.v 47)), (.sl (.v 48) (.v 49) (.v 50))])) [((.a 48), (.prop 51)), ((.b (.v 39)), (.prop 45))]
                   (.all
                    (.call 53 [(.a (.ptr (.v 42) 0))] [((.b (.v 42)), (.prop 43))] [.i, .a, .n, .n, .p] (.w (.agg [(.int .i64 (.v 52)), (.sl (.v 53) (.v 54) (.v 55))])) [((.a 53), (.prop 56)), ((.b (.v 42)), (.prop 43))]
                    (.new
                    (.again 0 [(.n (.v 46)), (.n (.v 57)), (.e (.o1 .neg (.o1 .neg (.v 52)))), (.a (.v 53)), (.e (.o2 .nadd (.v 54) (.n 0))), (.e (.o2 .nadd (.v 55) (.n 0))), (.e (.o1 .neg (.o1 .neg (.v 47)))), (.a (.v 48)), (.e (.o2 .nadd (.v 49) (.n 0))), (.e (.o2 .nadd (.v 50) (.n 0))), (.p [((.a 53), (.prop 56))]), (.p [((.a 27), (.prop 44)), ((.b (.v 42)), (.prop 43)), ((.b (.v 39)), (.prop 45))]), (.p [((.a 48), (.prop 51))])])))
                    (.new
                    (.call 53 [(.a (.ptr (.v 42) 0))] [((.b (.v 42)), (.prop 43))] [.i, .a, .n, .n, .p] (.w (.agg [(.int .i64 (.v 53)), (.sl (.v 54) (.v 55) (.v 56))])) [((.a 54), (.prop 57)), ((.b (.v 42)), (.prop 43))]
                    (.again 0 [(.n (.v 46)), (.n (.v 52)), (.e (.o1 .neg (.o1 .neg (.v 53)))), (.a (.v 54)), (.e (.o2 .nadd (.v 55) (.n 0))), (.e (.o2 .nadd (.v 56) (.n 0))), (.e (.o1 .neg (.o1 .neg (.v 47)))), (.a (.v 48)), (.e (.o2 .nadd (.v 49) (.n 0))), (.e (.o2 .nadd (.v 50) (.n 0))), (.p [((.a 54), (.prop 57))]), (.p [((.a 27), (.prop 44)), ((.b (.v 42)), (.prop 43)), ((.b (.v 39)), (.prop 45))]), (.p [((.a 48), (.prop 51))])])))))
                   (.new
                   (.call 53 [(.a (.ptr (.v 39) 0))] [((.b (.v 39)), (.prop 45))] [.i, .a, .n, .n, .p] (.w (.agg [(.int .i64 (.v 48)), (.sl (.v 49) (.v 50) (.v 51))])) [((.a 49), (.prop 52)), ((.b (.v 39)), (.prop 45))]
                   (.call 53 [(.a (.ptr (.v 42) 0))] [((.b (.v 42)), (.prop 43))] [.i, .a, .n, .n, .p] (.w (.agg [(.int .i64 (.v 53)), (.sl (.v 54) (.v 55) (.v 56))])) [((.a 54), (.prop 57)), ((.b (.v 42)), (.prop 43))]
                   (.again 0 [(.n (.v 46)), (.n (.v 47)), (.e (.o1 .neg (.o1 .neg (.v 53)))), (.a (.v 54)), (.e (.o2 .nadd (.v 55) (.n 0))), (.e (.o2 .nadd (.v 56) (.n 0))), (.e (.o1 .neg (.o1 .neg (.v 48)))), (.a (.v 49)), (.e (.o2 .nadd (.v 50) (.n 0))), (.e (.o2 .nadd (.v 51) (.n 0))), (.p [((.a 54), (.prop 57))]), (.p [((.a 27), (.prop 44)), ((.b (.v 42)), (.prop 43)), ((.b (.v 39)), (.prop 45))]), (.p [((.a 49), (.prop 52))])]))))))
                  (.new
                  (.all
                   (.call 53 [(.a (.ptr (.v 39) 0))] [((.b (.v 39)), (.prop 45))] [.i, .a, .n, .n, .p] (.w (.agg [(.int .i64 (.v 47)), (.sl (.v 48) (.v 49) (.v 50))])) [((.a 48), (.prop 51)), ((.b (.v 39)), (.prop 45))]
                   (.all
                    (.call 53 [(.a (.ptr (.v 42) 0))] [((.b (.v 42)), (.prop 43))] [.i, .a, .n, .n, .p] (.w (.agg [(.int .i64 (.v 52)), (.sl (.v 53) (.v 54) (.v 55))])) [((.a 53), (.prop 56)), ((.b (.v 42)), (.prop 43))]
                    (.new
                    (.again 0 [(.n (.v 57)), (.n (.v 46)), (.e (.o1 .neg (.o1 .neg (.v 52)))), (.a (.v 53)), (.e (.o2 .nadd (.v 54) (.n 0))), (.e (.o2 .nadd (.v 55) (.n 0))), (.e (.o1 .neg (.o1 .neg (.v 47)))), (.a (.v 48)), (.e (.o2 .nadd (.v 49) (.n 0))), (.e (.o2 .nadd (.v 50) (.n 0))), (.p [((.a 53), (.prop 56))]), (.p [((.a 27), (.prop 44)), ((.b (.v 42)), (.prop 43)), ((.b (.v 39)), (.prop 45))]), (.p [((.a 48), (.prop 51))])])))
                    (.new
                    (.call 53 [(.a (.ptr (.v 42) 0))] [((.b (.v 42)), (.prop 43))] [.i, .a, .n, .n, .p] (.w (.agg [(.int .i64 (.v 53)), (.sl (.v 54) (.v 55) (.v 56))])) [((.a 54), (.prop 57)), ((.b (.v 42)), (.prop 43))]
                    (.again 0 [(.n (.v 52)), (.n (.v 46)), (.e (.o1 .neg (.o1 .neg (.v 53)))), (.a (.v 54)), (.e (.o2 .nadd (.v 55) (.n 0))), (.e (.o2 .nadd (.v 56) (.n 0))), (.e (.o1 .neg (.o1 .neg (.v 47)))), (.a (.v 48)), (.e (.o2 .nadd (.v 49) (.n 0))), (.e (.o2 .nadd (.v 50) (.n 0))), (.p [((.a 54), (.prop 57))]), (.p [((.a 27), (.prop 44)), ((.b (.v 42)), (.prop 43)), ((.b (.v 39)), (.prop 45))]), (.p [((.a 48), (.prop 51))])])))))
                   (.new
                   (.call 53 [(.a (.ptr (.v 39) 0))] [((.b (.v 39)), (.prop 45))] [.i, .a, .n, .n, .p] (.w (.agg [(.int .i64 (.v 48)), (.sl (.v 49) (.v 50) (.v 51))])) [((.a 49), (.prop 52)), ((.b (.v 39)), (.prop 45))]
                   (.call 53 [(.a (.ptr (.v 42) 0))] [((.b (.v 42)), (.prop 43))] [.i, .a, .n, .n, .p] (.w (.agg [(.int .i64 (.v 53)), (.sl (.v 54) (.v 55) (.v 56))])) [((.a 54), (.prop 57)), ((.b (.v 42)), (.prop 43))]
                   (.again 0 [(.n (.v 47)), (.n (.v 46)), (.e (.o1 .neg (.o1 .neg (.v 53)))), (.a (.v 54)), (.e (.o2 .nadd (.v 55) (.n 0))), (.e (.o2 .nadd (.v 56) (.n 0))), (.e (.o1 .neg (.o1 .neg (.v 48)))), (.a (.v 49)), (.e (.o2 .nadd (.v 50) (.n 0))), (.e (.o2 .nadd (.v 51) (.n 0))), (.p [((.a 54), (.prop 57))]), (.p [((.a 27), (.prop 44)), ((.b (.v 42)), (.prop 43)), ((.b (.v 39)), (.prop 45))]), (.p [((.a 49), (.prop 52))])])))))))))
                (.all
                 (.new
                 (.all
                  (.call 53 [(.a (.ptr (.v 39) 0))] [((.b (.v 39)), (.prop 40))] [.i, .a, .n, .n, .p] (.w (.agg [(.int .i64 (.v 43)), (.sl (.v 44) (.v 45) (.v 46))])) [((.a 44), (.prop 47)), ((.b (.v 39)), (.prop 40))]
                  (.all
                   (.op (.load 91 (.tmp 117)) 91 [(117, (.w (.a (.eptr 27 (.i 1) 1 0))))] [((.a 27), (.prop 41)), ((.b (.v 39)), (.prop 40))] [.n, .p, .p, .p] (.w (.a (.ptr (.v 48) 0))) [((.b (.v 48)), (.prop 49)), ((.a 27), (.prop 50)), ((.b (.v 39)), (.prop 51))]
                   (.all
                    (.call 53 [(.a (.ptr (.v 48) 0))] [((.b (.v 48)), (.prop 49))] [.i, .a, .n, .n, .p] (.w (.agg [(.int .i64 (.v 52)), (.sl (.v 53) (.v 54) (.v 55))])) [((.a 53), (.prop 56)), ((.b (.v 48)), (.prop 49))]
                    (.new
                    (.again 0 [(.n (.v 42)), (.n (.v 57)), (.e (.o1 .neg (.o1 .neg (.v 52)))), (.a (.v 53)), (.e (.o2 .nadd (.v 54) (.n 0))), (.e (.o2 .nadd (.v 55) (.n 0))), (.e (.o1 .neg (.o1 .neg (.v 43)))), (.a (.v 44)), (.e (.o2 .nadd (.v 45) (.n 0))), (.e (.o2 .nadd (.v 46) (.n 0))), (.p [((.a 53), (.prop 56))]), (.p [((.a 27), (.prop 50)), ((.b (.v 48)), (.prop 49)), ((.b (.v 39)), (.prop 51))]), (.p [((.a 44), (.prop 47))])])))
                    (.new
                    (.call 53 [(.a (.ptr (.v 48) 0))] [((.b (.v 48)), (.prop 49))] [.i, .a, .n, .n, .p] (.w (.agg [(.int .i64 (.v 53)), (.sl (.v 54) (.v 55) (.v 56))])) [((.a 54), (.prop 57)), ((.b (.v 48)), (.prop 49))]
                    (.again 0 [(.n (.v 42)), (.n (.v 52)), (.e (.o1 .neg (.o1 .neg (.v 53)))), (.a (.v 54)), (.e (.o2 .nadd (.v 55) (.n 0))), (.e (.o2 .nadd (.v 56) (.n 0))), (.e (.o1 .neg (.o1 .neg (.v 43)))), (.a (.v 44)), (.e (.o2 .nadd (.v 45) (.n 0))), (.e (.o2 .nadd (.v 46) (.n 0))), (.p [((.a 54), (.prop 57))]), (.p [((.a 27), (.prop 50)), ((.b (.v 48)), (.prop 49)), ((.b (.v 39)), (.prop 51))]), (.p [((.a 44), (.prop 47))])])))))
                   (.new
                   (.op (.load 91 (.tmp 117)) 91 [(117, (.w (.a (.eptr 27 (.i 1) 1 0))))] [((.a 27), (.prop 41)), ((.b (.v 39)), (.prop 40))] [.n, .p, .p, .p] (.w (.a (.ptr (.v 49) 0))) [((.b (.v 49)), (.prop 50)), ((.a 27), (.prop 51)), ((.b (.v 39)), (.prop 52))]
                   (.call 53 [(.a (.ptr (.v 49) 0))] [((.b (.v 49)), (.prop 50))] [.i, .a, .n, .n, .p] (.w (.agg [(.int .i64 (.v 53)), (.sl (.v 54) (.v 55) (.v 56))])) [((.a 54), (.prop 57)), ((.b (.v 49)), (.prop 50))]
                   (.again 0 [(.n (.v 42)), (.n (.v 48)), (.e (.o1 .neg (.o1 .neg (.v 53)))), (.a (.v 54)), (.e (.o2 .nadd (.v 55) (.n 0))), (.e (.o2 .nadd (.v 56) (.n 0))), (.e (.o1 .neg (.o1 .neg (.v 43)))), (.a (.v 44)), (.e (.o2 .nadd (.v 45) (.n 0))), (.e (.o2 .nadd (.v 46) (.n 0))), (.p [((.a 54), (.prop 57))]), (.p [((.a 27), (.prop 51)), ((.b (.v 49)), (.prop 50)), ((.b (.v 39)), (.prop 52))]), (.p [((.a 44), (.prop 47))])]))))))
                  (.all
                   (.op (.load 91 (.tmp 117)) 91 [(117, (.w (.a (.eptr 27 (.i 1) 1 0))))] [((.a 27), (.prop 41)), ((.b (.v 39)), (.prop 40))] [.n, .p, .p, .p] (.w (.a (.ptr (.v 43) 0))) [((.b (.v 43)), (.prop 44)), ((.a 27), (.prop 45)), ((.b (.v 39)), (.prop 46))]
                   (.all
                    (.call 53 [(.a (.ptr (.v 39) 0))] [((.b (.v 39)), (.prop 46))] [.i, .a, .n, .n, .p] (.w (.agg [(.int .i64 (.v 47)), (.sl (.v 48) (.v 49) (.v 50))])) [((.a 48), (.prop 51)), ((.b (.v 39)), (.prop 46))]
                    (.all
                     (.call 53 [(.a (.ptr (.v 43) 0))] [((.b (.v 43)), (.prop 44))] [.i, .a, .n, .n, .p] (.w (.agg [(.int .i64 (.v 52)), (.sl (.v 53) (.v 54) (.v 55))])) [((.a 53), (.prop 56)), ((.b (.v 43)), (.prop 44))]
                     (.new
                     (.again 0 [(.n (.v 42)), (.n (.v 57)), (.e (.o1 .neg (.o1 .neg (.v 52)))), (.a (.v 53)), (.e (.o2 .nadd (.v 54) (.n 0))), (.e (.o2 .nadd (.v 55) (.n 0))), (.e (.o1 .neg (.o1 .neg (.v 47)))), (.a (.v 48)), (.e (.o2 .nadd (.v 49) (.n 0))), (.e (.o2 .nadd (.v 50) (.n 0))), (.p [((.a 53), (.prop 56))]), (.p [((.a 27), (.prop 45)), ((.b (.v 43)), (.prop 44)), ((.b (.v 39)), (.prop 46))]), (.p [((.a 48), (.prop 51))])])))
                     (.new
                     (.call 53 [(.a (.ptr (.v 43) 0))] [((.b (.v 43)), (.prop 44))] [.i, .a, .n, .n, .p] (.w (.agg [(.int .i64 (.v 53)), (.sl (.v 54) (.v 55) (.v 56))])) [((.a 54), (.prop 57)), ((.b (.v 43)), (.prop 44))]
                     (.again 0 [(.n (.v 42)), (.n (.v 52)), (.e (.o1 .neg (.o1 .neg (.v 53)))), (.a (.v 54)), (.e (.o2 .nadd (.v 55) (.n 0))), (.e (.o2 .nadd (.v 56) (.n 0))), (.e (.o1 .neg (.o1 .neg (.v 47)))), (.a (.v 48)), (.e (.o2 .nadd (.v 49) (.n 0))), (.e (.o2 .nadd (.v 50) (.n 0))), (.p [((.a 54), (.prop 57))]), (.p [((.a 27), (.prop 45)), ((.b (.v 43)), (.prop 44)), ((.b (.v 39)), (.prop 46))]), (.p [((.a 48), (.prop 51))])])))))
                    (.new
                    (.call 53 [(.a (.ptr (.v 39) 0))] [((.b (.v 39)), (.prop 46))] [.i, .a, .n, .n, .p] (.w (.agg [(.int .i64 (.v 48)), (.sl (.v 49) (.v 50) (.v 51))])) [((.a 49), (.prop 52)), ((.b (.v 39)), (.prop 46))]
                    (.call 53 [(.a (.ptr (.v 43) 0))] [((.b (.v 43)), (.prop 44))] [.i, .a, .n, .n, .p] (.w (.agg [(.int .i64 (.v 53)), (.sl (.v 54) (.v 55) (.v 56))])) [((.a 54), (.prop 57)), ((.b (.v 43)), (.prop 44))]
                    (.again 0 [(.n (.v 42)), (.n (.v 47)), (.e (.o1 .neg (.o1 .neg (.v 53)))), (.a (.v 54)), (.e (.o2 .nadd (.v 55) (.n 0))), (.e (.o2 .nadd (.v 56) (.n 0))), (.e (.o1 .neg (.o1 .neg (.v 48)))), (.a (.v 49)), (.e (.o2 .nadd (.v 50) (.n 0))), (.e (.o2 .nadd (.v 51) (.n 0))), (.p [((.a 54), (.prop 57))]), (.p [((.a 27), (.prop 45)), ((.b (.v 43)), (.prop 44)), ((.b (.v 39)), (.prop 46))]), (.p [((.a 49), (.prop 52))])]))))))
                   (.new
                   (.all
                    (.call 53 [(.a (.ptr (.v 39) 0))] [((.b (.v 39)), (.prop 40))] [.i, .a, .n, .n, .p] (.w (.agg [(.int .i64 (.v 44)), (.sl (.v 45) (.v 46) (.v 47))])) [((.a 45), (.prop 48)), ((.b (.v 39)), (.prop 40))]
                    (.op (.load 91 (.tmp 117)) 91 [(117, (.w (.a (.eptr 27 (.i 1) 1 0))))] [((.a 27), (.prop 41)), ((.b (.v 39)), (.prop 40))] [.n, .p, .p, .p] (.w (.a (.ptr (.v 49) 0))) [((.b (.v 49)), (.prop 50)), ((.a 27), (.prop 51)), ((.b (.v 39)), (.prop 52))]
                    (.call 53 [(.a (.ptr (.v 49) 0))] [((.b (.v 49)), (.prop 50))] [.i, .a, .n, .n, .p] (.w (.agg [(.int .i64 (.v 53)), (.sl (.v 54) (.v 55) (.v 56))])) [((.a 54), (.prop 57)), ((.b (.v 49)), (.prop 50))]
                    (.again 0 [(.n (.v 42)), (.n (.v 43)), (.e (.o1 .neg (.o1 .neg (.v 53)))), (.a (.v 54)), (.e (.o2 .nadd (.v 55) (.n 0))), (.e (.o2 .nadd (.v 56) (.n 0))), (.e (.o1 .neg (.o1 .neg (.v 44)))), (.a (.v 45)), (.e (.o2 .nadd (.v 46) (.n 0))), (.e (.o2 .nadd (.v 47) (.n 0))), (.p [((.a 54), (.prop 57))]), (.p [((.a 27), (.prop 51)), ((.b (.v 49)), (.prop 50)), ((.b (.v 39)), (.prop 52))]), (.p [((.a 45), (.prop 48))])]))))
                    (.op (.load 91 (.tmp 117)) 91 [(117, (.w (.a (.eptr 27 (.i 1) 1 0))))] [((.a 27), (.prop 41)), ((.b (.v 39)), (.prop 40))] [.n, .p, .p, .p] (.w (.a (.ptr (.v 44) 0))) [((.b (.v 44)), (.prop 45)), ((.a 27), (.prop 46)), ((.b (.v 39)), (.prop 47))]
                    (.call 53 [(.a (.ptr (.v 39) 0))] [((.b (.v 39)), (.prop 47))] [.i, .a, .n, .n, .p] (.w (.agg [(.int .i64 (.v 48)), (.sl (.v 49) (.v 50) (.v 51))])) [((.a 49), (.prop 52)), ((.b (.v 39)), (.prop 47))]
                    (.call 53 [(.a (.ptr (.v 44) 0))] [((.b (.v 44)), (.prop 45))] [.i, .a, .n, .n, .p] (.w (.agg [(.int .i64 (.v 53)), (.sl (.v 54) (.v 55) (.v 56))])) [((.a 54), (.prop 57)), ((.b (.v 44)), (.prop 45))]
                    (.again 0 [(.n (.v 42)), (.n (.v 43)), (.e (.o1 .neg (.o1 .neg (.v 53)))), (.a (.v 54)), (.e (.o2 .nadd (.v 55) (.n 0))), (.e (.o2 .nadd (.v 56) (.n 0))), (.e (.o1 .neg (.o1 .neg (.v 48)))), (.a (.v 49)), (.e (.o2 .nadd (.v 50) (.n 0))), (.e (.o2 .nadd (.v 51) (.n 0))), (.p [((.a 54), (.prop 57))]), (.p [((.a 27), (.prop 46)), ((.b (.v 44)), (.prop 45)), ((.b (.v 39)), (.prop 47))]), (.p [((.a 49), (.prop 52))])])))))))))
                 (.new
                 (.all
                  (.call 53 [(.a (.ptr (.v 39) 0))] [((.b (.v 39)), (.prop 40))] [.i, .a, .n, .n, .p] (.w (.agg [(.int .i64 (.v 43)), (.sl (.v 44) (.v 45) (.v 46))])) [((.a 44), (.prop 47)), ((.b (.v 39)), (.prop 40))]
                  (.all
                   (.op (.load 91 (.tmp 117)) 91 [(117, (.w (.a (.eptr 27 (.i 1) 1 0))))] [((.a 27), (.prop 41)), ((.b (.v 39)), (.prop 40))] [.n, .p, .p, .p] (.w (.a (.ptr (.v 48) 0))) [((.b (.v 48)), (.prop 49)), ((.a 27), (.prop 50)), ((.b (.v 39)), (.prop 51))]
                   (.all
                    (.call 53 [(.a (.ptr (.v 48) 0))] [((.b (.v 48)), (.prop 49))] [.i, .a, .n, .n, .p] (.w (.agg [(.int .i64 (.v 52)), (.sl (.v 53) (.v 54) (.v 55))])) [((.a 53), (.prop 56)), ((.b (.v 48)), (.prop 49))]
                    (.new
                    (.again 0 [(.n (.v 57)), (.n (.v 42)), (.e (.o1 .neg (.o1 .neg (.v 52)))), (.a (.v 53)), (.e (.o2 .nadd (.v 54) (.n 0))), (.e (.o2 .nadd (.v 55) (.n 0))), (.e (.o1 .neg (.o1 .neg (.v 43)))), (.a (.v 44)), (.e (.o2 .nadd (.v 45) (.n 0))), (.e (.o2 .nadd (.v 46) (.n 0))), (.p [((.a 53), (.prop 56))]), (.p [((.a 27), (.prop 50)), ((.b (.v 48)), (.prop 49)), ((.b (.v 39)), (.prop 51))]), (.p [((.a 44), (.prop 47))])])))
                    (.new
                    (.call 53 [(.a (.ptr (.v 48) 0))] [((.b (.v 48)), (.prop 49))] [.i, .a, .n, .n, .p] (.w (.agg [(.int .i64 (.v 53)), (.sl (.v 54) (.v 55) (.v 56))])) [((.a 54), (.prop 57)), ((.b (.v 48)), (.prop 49))]
                    (.again 0 [(.n (.v 52)), (.n (.v 42)), (.e (.o1 .neg (.o1 .neg (.v 53)))), (.a (.v 54)), (.e (.o2 .nadd (.v 55) (.n 0))), (.e (.o2 .nadd (.v 56) (.n 0))), (.e (.o1 .neg (.o1 .neg (.v 43)))), (.a (.v 44)), (.e (.o2 .nadd (.v 45) (.n 0))), (.e (.o2 .nadd (.v 46) (.n 0))), (.p [((.a 54), (.prop 57))]), (.p [((.a 27), (.prop 50)), ((.b (.v 48)), (.prop 49)), ((.b (.v 39)), (.prop 51))]), (.p [((.a 44), (.prop 47))])])))))
                   (.new
                   (.op (.load 91 (.tmp 117)) 91 [(117, (.w (.a (.eptr 27 (.i 1) 1 0))))] [((.a 27), (.prop 41)), ((.b (.v 39)), (.prop 40))] [.n, .p, .p, .p] (.w (.a (.ptr (.v 49) 0))) [((.b (.v 49)), (.prop 50)), ((.a 27), (.prop 51)), ((.b (.v 39)), (.prop 52))]
                   (.call 53 [(.a (.ptr (.v 49) 0))] [((.b (.v 49)), (.prop 50))] [.i, .a, .n, .n, .p] (.w (.agg [(.int .i64 (.v 53)), (.sl (.v 54) (.v 55) (.v 56))])) [((.a 54), (.prop 57)), ((.b (.v 49)), (.prop 50))]
                   (.again 0 [(.n (.v 48)), (.n (.v 42)), (.e (.o1 .neg (.o1 .neg (.v 53)))), (.a (.v 54)), (.e (.o2 .nadd (.v 55) (.n 0))), (.e (.o2 .nadd (.v 56) (.n 0))), (.e (.o1 .neg (.o1 .neg (.v 43)))), (.a (.v 44)), (.e (.o2 .nadd (.v 45) (.n 0))), (.e (.o2 .nadd (.v 46) (.n 0))), (.p [((.a 54), (.prop 57))]), (.p [((.a 27), (.prop 51)), ((.b (.v 49)), (.prop 50)), ((.b (.v 39)), (.prop 52))]), (.p [((.a 44), (.prop 47))])]))))))
                  (.all
                   (.op (.load 91 (.tmp 117)) 91 [(117, (.w (.a (.eptr 27 (.i 1) 1 0))))] [((.a 27), (.prop 41)), ((.b (.v 39)), (.prop 40))] [.n, .p, .p, .p] (.w (.a (.ptr (.v 43) 0))) [((.b (.v 43)), (.prop 44)), ((.a 27), (.prop 45)), ((.b (.v 39)), (.prop 46))]
                   (.all
                    (.call 53 [(.a (.ptr (.v 39) 0))] [((.b (.v 39)), (.prop 46))] [.i, .a, .n, .n, .p] (.w (.agg [(.int .i64 (.v 47)), (.sl (.v 48) (.v 49) (.v 50))])) [((.a 48), (.prop 51)), ((.b (.v 39)), (.prop 46))]
                    (.all
                     (.call 53 [(.a (.ptr (.v 43) 0))] [((.b (.v 43)), (.prop 44))] [.i, .a, .n, .n, .p] (.w (.agg [(.int .i64 (.v 52)), (.sl (.v 53) (.v 54) (.v 55))])) [((.a 53), (.prop 56)), ((.b (.v 43)), (.prop 44))]
                     (.new
                     (.again 0 [(.n (.v 57)), (.n (.v 42)), (.e (.o1 .neg (.o1 .neg (.v 52)))), (.a (.v 53)), (.e (.o2 .nadd (.v 54) (.n 0))), (.e (.o2 .nadd (.v 55) (.n 0))), (.e (.o1 .neg (.o1 .neg (.v 47)))), (.a (.v 48)), (.e (.o2 .nadd (.v 49) (.n 0))), (.e (.o2 .nadd (.v 50) (.n 0))), (.p [((.a 53), (.prop 56))]), (.p [((.a 27), (.prop 45)), ((.b (.v 43)), (.prop 44)), ((.b (.v 39)), (.prop 46))]), (.p [((.a 48), (.prop 51))])])))
                     (.new
                     (.call 53 [(.a (.ptr (.v 43) 0))] [((.b (.v 43)), (.prop 44))] [.i, .a, .n, .n, .p] (.w (.agg [(.int .i64 (.v 53)), (.sl (.v 54) (.v 55) (.v 56))])) [((.a 54), (.prop 57)), ((.b (.v 43)), (.prop 44))]
                     (.again 0 [(.n (.v 52)), (.n (.v 42)), (.e (.o1 .neg (.o1 .neg (.v 53)))), (.a (.v 54)), (.e (.o2 .nadd (.v 55) (.n 0))), (.e (.o2 .nadd (.v 56) (.n 0))), (.e (.o1 .neg (.o1 .neg (.v 47)))), (.a (.v 48)), (.e (.o2 .nadd (.v 49) (.n 0))), (.e (.o2 .nadd (.v 50) (.n 0))), (.p [((.a 54), (.prop 57))]), (.p [((.a 27), (.prop 45)), ((.b (.v 43)), (.prop 44)), ((.b (.v 39)), (.prop 46))]), (.p [((.a 48), (.prop 51))])])))))
                    (.new
                    (.call 53 [(.a (.ptr (.v 39) 0))] [((.b (.v 39)), (.prop 46))] [.i, .a, .n, .n, .p] (.w (.agg [(.int .i64 (.v 48)), (.sl (.v 49) (.v 50) (.v 51))])) [((.a 49), (.prop 52)), ((.b (.v 39)), (.prop 46))]
                    (.call 53 [(.a (.ptr (.v 43) 0))] [((.b (.v 43)), (.prop 44))] [.i, .a, .n, .n, .p] (.w (.agg [(.int .i64 (.v 53)), (.sl (.v 54) (.v 55) (.v 56))])) [((.a 54), (.prop 57)), ((.b (.v 43)), (.prop 44))]
                    (.again 0 [(.n (.v 47)), (.n (.v 42)), (.e (.o1 .neg (.o1 .neg (.v 53)))), (.a (.v 54)), (.e (.o2 .nadd (.v 55) (.n 0))), (.e (.o2 .nadd (.v 56) (.n 0))), (.e (.o1 .neg (.o1 .neg (.v 48)))), (.a (.v 49)), (.e (.o2 .nadd (.v 50) (.n 0))), (.e (.o2 .nadd (.v 51) (.n 0))), (.p [((.a 54), (.prop 57))]), (.p [((.a 27), (.prop 45)), ((.b (.v 43)), (.prop 44)), ((.b (.v 39)), (.prop 46))]), (.p [((.a 49), (.prop 52))])]))))))
                   (.new
                   (.all
                    (.call 53 [(.a (.ptr (.v 39) 0))] [((.b (.v 39)), (.prop 40))] [.i, .a, .n, .n, .p] (.w (.agg [(.int .i64 (.v 44)), (.sl (.v 45) (.v 46) (.v 47))])) [((.a 45), (.prop 48)), ((.b (.v 39)), (.prop 40))]
                    (.op (.load 91 (.tmp 117)) 91 [(117, (.w (.a (.eptr 27 (.i 1) 1 0))))] [((.a 27), (.prop 41)), ((.b (.v 39)), (.prop 40))] [.n, .p, .p, .p] (.w (.a (.ptr (.v 49) 0))) [((.b (.v 49)), (.prop 50)), ((.a 27), (.prop 51)), ((.b (.v 39)), (.prop 52))]
                    (.call 53 [(.a (.ptr (.v 49) 0))] [((.b (.v 49)), (.prop 50))] [.i, .a, .n, .n, .p] (.w (.agg [(.int .i64 (.v 53)), (.sl (.v 54) (.v 55) (.v 56))])) [((.a 54), (.prop 57)), ((.b (.v 49)), (.prop 50))]
                    (.again 0 [(.n (.v 43)), (.n (.v 42)), (.e (.o1 .neg (.o1 .neg (.v 53)))), (.a (.v 54)), (.e (.o2 .nadd (.v 55) (.n 0))), (.e (.o2 .nadd (.v 56) (.n 0))), (.e (.o1 .neg (.o1 .neg (.v 44)))), (.a (.v 45)), (.e (.o2 .nadd (.v 46) (.n 0))), (.e (.o2 .nadd (.v 47) (.n 0))), (.p [((.a 54), (.prop 57))]), (.p [((.a 27), (.prop 51)), ((.b (.v 49)), (.prop 50)), ((.b (.v 39)), (.prop 52))]), (.p [((.a 45), (.prop 48))])]))))
                    (.op (.load 91 (.tmp 117)) 91 [(117, (.w (.a (.eptr 27 (.i 1) 1 0))))] [((.a 27), (.prop 41)), ((.b (.v 39)), (.prop 40))] [.n, .p, .p, .p] (.w (.a (.ptr (.v 44) 0))) [((.b (.v 44)), (.prop 45)), ((.a 27), (.prop 46)), ((.b (.v 39)), (.prop 47))]
                    (.call 53 [(.a (.ptr (.v 39) 0))] [((.b (.v 39)), (.prop 47))] [.i, .a, .n, .n, .p] (.w (.agg [(.int .i64 (.v 48)), (.sl (.v 49) (.v 50) (.v 51))])) [((.a 49), (.prop 52)), ((.b (.v 39)), (.prop 47))]
                    (.call 53 [(.a (.ptr (.v 44) 0))] [((.b (.v 44)), (.prop 45))] [.i, .a, .n, .n, .p] (.w (.agg [(.int .i64 (.v 53)), (.sl (.v 54) (.v 55) (.v 56))])) [((.a 54), (.prop 57)), ((.b (.v 44)), (.prop 45))]
                    (.again 0 [(.n (.v 43)), (.n (.v 42)), (.e (.o1 .neg (.o1 .neg (.v 53)))), (.a (.v 54)), (.e (.o2 .nadd (.v 55) (.n 0))), (.e (.o2 .nadd (.v 56) (.n 0))), (.e (.o1 .neg (.o1 .neg (.v 48)))), (.a (.v 49)), (.e (.o2 .nadd (.v 50) (.n 0))), (.e (.o2 .nadd (.v 51) (.n 0))), (.p [((.a 54), (.prop 57))]), (.p [((.a 27), (.prop 46)), ((.b (.v 44)), (.prop 45)), ((.b (.v 39)), (.prop 47))]), (.p [((.a 49), (.prop 52))])])))))))))))))
              (.all
               (.op (.load 91 (.tmp 117)) 91 [(117, (.w (.a (.eptr 27 (.i 1) 1 0))))] [((.a 27), (.prop 37))] [.n, .p, .p] (.w (.a (.ptr (.v 39) 0))) [((.b (.v 39)), (.prop 40)), ((.a 27), (.prop 41))]
               (.all
                (.op (.load 91 (.tmp 113)) 91 [(113, (.w (.a (.eptr 27 (.i 0) 1 0))))] [((.a 27), (.prop 41)), ((.b (.v 39)), (.prop 40))] [.n, .p, .p, .p] (.w (.a (.ptr (.v 42) 0))) [((.b (.v 42)), (.prop 43)), ((.a 27), (.prop 44)), ((.b (.v 39)), (.prop 45))]
                (.all
                 (.call 53 [(.a (.ptr (.v 42) 0))] [((.b (.v 42)), (.prop 43))] [.i, .a, .n, .n, .p] (.w (.agg [(.int .i64 (.v 46)), (.sl (.v 47) (.v 48) (.v 49))])) [((.a 47), (.prop 50)), ((.b (.v 42)), (.prop 43))]
                 (.all
                  (.call 53 [(.a (.ptr (.v 39) 0))] [((.b (.v 39)), (.prop 45))] [.i, .a, .n, .n, .p] (.w (.agg [(.int .i64 (.v 51)), (.sl (.v 52) (.v 53) (.v 54))])) [((.a 52), (.prop 55)), ((.b (.v 39)), (.prop 45))]
                  (.all
                   (.new
                   (.new
                   (.again 0 [(.n (.v 56)), (.n (.v 57)), (.e (.o1 .neg (.o1 .neg (.v 51)))), (.a (.v 52)), (.e (.o2 .nadd (.v 53) (.n 0))), (.e (.o2 .nadd (.v 54) (.n 0))), (.e (.o1 .neg (.o1 .neg (.v 46)))), (.a (.v 47)), (.e (.o2 .nadd (.v 48) (.n 0))), (.e (.o2 .nadd (.v 49) (.n 0))), (.p [((.a 52), (.prop 55))]), (.p [((.a 27), (.prop 44)), ((.b (.v 42)), (.prop 43)), ((.b (.v 39)), (.prop 45))]), (.p [((.a 47), (.prop 50))])])))
                   (.new
                   (.new
                   (.again 0 [(.n (.v 57)), (.n (.v 56)), (.e (.o1 .neg (.o1 .neg (.v 51)))), (.a (.v 52)), (.e (.o2 .nadd (.v 53) (.n 0))), (.e (.o2 .nadd (.v 54) (.n 0))), (.e (.o1 .neg (.o1 .neg (.v 46)))), (.a (.v 47)), (.e (.o2 .nadd (.v 48) (.n 0))), (.e (.o2 .nadd (.v 49) (.n 0))), (.p [((.a 52), (.prop 55))]), (.p [((.a 27), (.prop 44)), ((.b (.v 42)), (.prop 43)), ((.b (.v 39)), (.prop 45))]), (.p [((.a 47), (.prop 50))])])))))
                  (.all
                   (.new
                   (.all
                    (.call 53 [(.a (.ptr (.v 39) 0))] [((.b (.v 39)), (.prop 45))] [.i, .a, .n, .n, .p] (.w (.agg [(.int .i64 (.v 52)), (.sl (.v 53) (.v 54) (.v 55))])) [((.a 53), (.prop 56)), ((.b (.v 39)), (.prop 45))]
                    (.new
                    (.again 0 [(.n (.v 51)), (.n (.v 57)), (.e (.o1 .neg (.o1 .neg (.v 52)))), (.a (.v 53)), (.e (.o2 .nadd (.v 54) (.n 0))), (.e (.o2 .nadd (.v 55) (.n 0))), (.e (.o1 .neg (.o1 .neg (.v 46)))), (.a (.v 47)), (.e (.o2 .nadd (.v 48) (.n 0))), (.e (.o2 .nadd (.v 49) (.n 0))), (.p [((.a 53), (.prop 56))]), (.p [((.a 27), (.prop 44)), ((.b (.v 42)), (.prop 43)), ((.b (.v 39)), (.prop 45))]), (.p [((.a 47), (.prop 50))])])))
                    (.new
                    (.call 53 [(.a (.ptr (.v 39) 0))] [((.b (.v 39)), (.prop 45))] [.i, .a, .n, .n, .p] (.w (.agg [(.int .i64 (.v 53)), (.sl (.v 54) (.v 55) (.v 56))])) [((.a 54), (.prop 57)), ((.b (.v 39)), (.prop 45))]
                    (.again 0 [(.n (.v 51)), (.n (.v 52)), (.e (.o1 .neg (.o1 .neg (.v 53)))), (.a (.v 54)), (.e (.o2 .nadd (.v 55) (.n 0))), (.e (.o2 .nadd (.v 56) (.n 0))), (.e (.o1 .neg (.o1 .neg (.v 46)))), (.a (.v 47)), (.e (.o2 .nadd (.v 48) (.n 0))), (.e (.o2 .nadd (.v 49) (.n 0))), (.p [((.a 54), (.prop 57))]), (.p [((.a 27), (.prop 44)), ((.b (.v 42)), (.prop 43)), ((.b (.v 39)), (.prop 45))]), (.p [((.a 47), (.prop 50))])])))))
                   (.new
                   (.all
                    (.call 53 [(.a (.ptr (.v 39) 0))] [((.b (.v 39)), (.prop 45))] [.i, .a, .n, .n, .p] (.w (.agg [(.int .i64 (.v 52)), (.sl (.v 53) (.v 54) (.v 55))])) [((.a 53), (.prop 56)), ((.b (.v 39)), (.prop 45))]
                    (.new
                    (.again 0 [(.n (.v 57)), (.n (.v 51)), (.e (.o1 .neg (.o1 .neg (.v 52)))), (.a (.v 53)), (.e (.o2 .nadd (.v 54) (.n 0))), (.e (.o2 .nadd (.v 55) (.n 0))), (.e (.o1 .neg (.o1 .neg (.v 46)))), (.a (.v 47)), (.e (.o2 .nadd (.v 48) (.n 0))), (.e (.o2 .nadd (.v 49) (.n 0))), (.p [((.a 53), (.prop 56))]), (.p [((.a 27), (.prop 44)), ((.b (.v 42)), (.prop 43)), ((.b (.v 39)), (.prop 45))]), (.p [((.a 47), (.prop 50))])])))
                    (.new
                    (.call 53 [(.a (.ptr (.v 39) 0))] [((.b (.v 39)), (.prop 45))] [.i, .a, .n, .n, .p] (.w (.agg [(.int .i64 (.v 53)), (.sl (.v 54) (.v 55) (.v 56))])) [((.a 54), (.prop 57)), ((.b (.v 39)), (.prop 45))]
                    (.again 0 [(.n (.v 52)), (.n (.v 51)), (.e (.o1 .neg (.o1 .neg (.v 53)))), (.a (.v 54)), (.e (.o2 .nadd (.v 55) (.n 0))), (.e (.o2 .nadd (.v 56) (.n 0))), (.e (.o1 .neg (.o1 .neg (.v 46)))), (.a (.v 47)), (.e (.o2 .nadd (.v 48) (.n 0))), (.e (.o2 .nadd (.v 49) (.n 0))), (.p [((.a 54), (.prop 57))]), (.p [((.a 27), (.prop 44)), ((.b (.v 42)), (.prop 43)), ((.b (.v 39)), (.prop 45))]), (.p [((.a 47), (.prop 50))])]))))))))
                 (.all
                  (.new
                  (.all
                   (.call 53 [(.a (.ptr (.v 42) 0))] [((.b (.v 42)), (.prop 43))] [.i, .a, .n, .n, .p] (.w (.agg [(.int .i64 (.v 47)), (.sl (.v 48) (.v 49) (.v 50))])) [((.a 48), (.prop 51)), ((.b (.v 42)), (.prop 43))]
                   (.all
                    (.call 53 [(.a (.ptr (.v 39) 0))] [((.b (.v 39)), (.prop 45))] [.i, .a, .n, .n, .p] (.w (.agg [(.int .i64 (.v 52)), (.sl (.v 53) (.v 54) (.v 55))])) [((.a 53), (.prop 56)), ((.b (.v 39)), (.prop 45))]
                    (.new
                    (.again 0 [(.n (.v 46)), (.n (.v 57)), (.e (.o1 .neg (.o1 .neg (.v 52)))), (.a (.v 53)), (.e (.o2 .nadd (.v 54) (.n 0))), (.e (.o2 .nadd (.v 55) (.n 0))), (.e (.o1 .neg (.o1 .neg (.v 47)))), (.a (.v 48)), (.e (.o2 .nadd (.v 49) (.n 0))), (.e (.o2 .nadd (.v 50) (.n 0))), (.p [((.a 53), (.prop 56))]), (.p [((.a 27), (.prop 44)), ((.b (.v 42)), (.prop 43)), ((.b (.v 39)), (.prop 45))]), (.p [((.a 48), (.prop 51))])])))
                    (.new
                    (.call 53 [(.a (.ptr (.v 39) 0))] [((.b (.v 39)), (.prop 45))] [.i, .a, .n, .n, .p] (.w (.agg [(.int .i64 (.v 53)), (.sl (.v 54) (.v 55) (.v 56))])) [((.a 54), (.prop 57)), ((.b (.v 39)), (.prop 45))]
                    (.again 0 [(.n (.v 46)), (.n (.v 52)), (.e (.o1 .neg (.o1 .neg (.v 53)))), (.a (.v 54)), (.e (.o2 .nadd (.v 55) (.n 0))), (.e (.o2 .nadd (.v 56) (.n 0))), (.e (.o1 .neg (.o1 .neg (.v 47)))), (.a (.v 48)), (.e (.o2 .nadd (.v 49) (.n 0))), (.e (.o2 .nadd (.v 50) (.n 0))), (.p [((.a 54), (.prop 57))]), (.p [((.a 27), (.prop 44)), ((.b (.v 42)), (.prop 43)), ((.b (.v 39)), (.prop 45))]), (.p [((.a 48), (.prop 51))])])))))
                   (.new
                   (.call 53 [(.a (.ptr (.v 42) 0))] [((.b (.v 42)), (.prop 43))] [.i, .a, .n, .n, .p] (.w (.agg [(.int .i64 (.v 48)), (.sl (.v 49) (.v 50) (.v 51))])) [((.a 49), (.prop 52)), ((.b (.v 42)), (.prop 43))]
                   (.call 53 [(.a (.ptr (.v 39) 0))] [((.b (.v 39)), (.prop 45))] [.i, .a, .n, .n, .p] (.w (.agg [(.int .i64 (.v 53)), (.sl (.v 54) (.v 55) (.v 56))])) [((.a 54), (.prop 57)), ((.b (.v 39)), (.prop 45))]
                   (.again 0 [(.n (.v 46)), (.n (.v 47)), (.e (.o1 .neg (.o1 .neg (.v 53)))), (.a (.v 54)), (.e (.o2 .nadd (.v 55) (.n 0))), (.e (.o2 .nadd (.v 56) (.n 0))), (.e (.o1 .neg (.o1 .neg (.v 48)))), (.a (.v 49)), (.e (.o2 .nadd (.v 50) (.n 0))), (.e (.o2 .nadd (.v 51) (.n 0))), (.p [((.a 54), (.prop 57))]), (.p [((.a 27), (.prop 44)), ((.b (.v 42)), (.prop 43)), ((.b (.v 39)), (.prop 45))]), (.p [((.a 49), (.prop 52))])]))))))
                  (.new
                  (.all
                   (.call 53 [(.a (.ptr (.v 42) 0))] [((.b (.v 42)), (.prop 43))] [.i, .a, .n, .n, .p] (.w (.agg [(.int .i64 (.v 47)), (.sl (.v 48) (.v 49) (.v 50))])) [((.a 48), (.prop 51)), ((.b (.v 42)), (.prop 43))]
                   (.all
                    (.call 53 [(.a (.ptr (.v 39) 0))] [((.b (.v 39)), (.prop 45))] [.i, .a, .n, .n, .p] (.w (.agg [(.int .i64 (.v 52)), (.sl (.v 53) (.v 54) (.v 55))])) [((.a 53), (.prop 56)), ((.b (.v 39)), (.prop 45))]
                    (.new
                    (.again 0 [(.n (.v 57)), (.n (.v 46)), (.e (.o1 .neg (.o1 .neg (.v 52)))), (.a (.v 53)), (.e (.o2 .nadd (.v 54) (.n 0))), (.e (.o2 .nadd (.v 55) (.n 0))), (.e (.o1 .neg (.o1 .neg (.v 47)))), (.a (.v 48)), (.e (.o2 .nadd (.v 49) (.n 0))), (.e (.o2 .nadd (.v 50) (.n 0))), (.p [((.a 53), (.prop 56))]), (.p [((.a 27), (.prop 44)), ((.b (.v 42)), (.prop 43)), ((.b (.v 39)), (.prop 45))]), (.p [((.a 48), (.prop 51))])])))
                    (.new
                    (.call 53 [(.a (.ptr (.v 39) 0))] [((.b (.v 39)), (.prop 45))] [.i, .a, .n, .n, .p] (.w (.agg [(.int .i64 (.v 53)), (.sl (.v 54) (.v 55) (.v 56))])) [((.a 54), (.prop 57)), ((.b (.v 39)), (.prop 45))]
                    (.again 0 [(.n (.v 52)), (.n (.v 46)), (.e (.o1 .neg (.o1 .neg (.v 53)))), (.a (.v 54)), (.e (.o2 .nadd (.v 55) (.n 0))), (.e (.o2 .nadd (.v 56) (.n 0))), (.e (.o1 .neg (.o1 .neg (.v 47)))), (.a (.v 48)), (.e (.o2 .nadd (.v 49) (.n 0))), (.e (.o2 .nadd (.v 50) (.n 0))), (.p [((.a 54), (.prop 57))]), (.p [((.a 27), (.prop 44)), ((.b (.v 42)), (.prop 43)), ((.b (.v 39)), (.prop 45))]), (.p [((.a 48), (.prop 51))])])))))
                   (.new
                   (.call 53 [(.a (.ptr (.v 42) 0))] [((.b (.v 42)), (.prop 43))] [.i, .a, .n, .n, .p] (.w (.agg [(.int .i64 (.v 48)), (.sl (.v 49) (.v 50) (.v 51))])) [((.a 49), (.prop 52)), ((.b (.v 42)), (.prop 43))]
                   (.call 53 [(.a (.ptr (.v 39) 0))] [((.b (.v 39)), (.prop 45))] [.i, .a, .n, .n, .p] (.w (.agg [(.int .i64 (.v 53)), (.sl (.v 54) (.v 55) (.v 56))])) [((.a 54), (.prop 57)), ((.b (.v 39)), (.prop 45))]
                   (.again 0 [(.n (.v 47)), (.n (.v 46)), (.e (.o1 .neg (.o1 .neg (.v 53)))), (.a (.v 54)), (.e (.o2 .nadd (.v 55) (.n 0))), (.e (.o2 .nadd (.v 56) (.n 0))), (.e (.o1 .neg (.o1 .neg (.v 48)))), (.a (.v 49)), (.e (.o2 .nadd (.v 50) (.n 0))), (.e (.o2 .nadd (.v 51) (.n 0))), (.p [((.a 54), (.prop 57))]), (.p [((.a 27), (.prop 44)), ((.b (.v 42)), (.prop 43)), ((.b (.v 39)), (.prop 45))]), (.p [((.a 49), (.prop 52))])])))))))))
                (.all
                 (.new
                 (.all
                  (.op (.load 91 (.tmp 113)) 91 [(113, (.w (.a (.eptr 27 (.i 0) 1 0))))] [((.a 27), (.prop 41)), ((.b (.v 39)), (.prop 40))] [.n, .p, .p, .p] (.w (.a (.ptr (.v 43) 0))) [((.b (.v 43)), (.prop 44)), ((.a 27), (.prop 45)), ((.b (.v 39)), (.prop 46))]
                  (.all
                   (.call 53 [(.a (.ptr (.v 43) 0))] [((.b (.v 43)), (.prop 44))] [.i, .a, .n, .n, .p] (.w (.agg [(.int .i64 (.v 47)), (.sl (.v 48) (.v 49) (.v 50))])) [((.a 48), (.prop 51)), ((.b (.v 43)), (.prop 44))]
                   (.all
                    (.call 53 [(.a (.ptr (.v 39) 0))] [((.b (.v 39)), (.prop 46))] [.i, .a, .n, .n, .p] (.w (.agg [(.int .i64 (.v 52)), (.sl (.v 53) (.v 54) (.v 55))])) [((.a 53), (.prop 56)), ((.b (.v 39)), (.prop 46))]
                    (.new
                    (.again 0 [(.n (.v 42)), (.n (.v 57)), (.e (.o1 .neg (.o1 .neg (.v 52)))), (.a (.v 53)), (.e (.o2 .nadd (.v 54) (.n 0))), (.e (.o2 .nadd (.v 55) (.n 0))), (.e (.o1 .neg (.o1 .neg (.v 47)))), (.a (.v 48)), (.e (.o2 .nadd (.v 49) (.n 0))), (.e (.o2 .nadd (.v 50) (.n 0))), (.p [((.a 53), (.prop 56))]), (.p [((.a 27), (.prop 45)), ((.b (.v 43)), (.prop 44)), ((.b (.v 39)), (.prop 46))]), (.p [((.a 48), (.prop 51))])])))
                    (.new
                    (.call 53 [(.a (.ptr (.v 39) 0))] [((.b (.v 39)), (.prop 46))] [.i, .a, .n, .n, .p] (.w (.agg [(.int .i64 (.v 53)), (.sl (.v 54) (.v 55) (.v 56))])) [((.a 54), (.prop 57)), ((.b (.v 39)), (.prop 46))]
                    (.again 0 [(.n (.v 42)), (.n (.v 52)), (.e (.o1 .neg (.o1 .neg (.v 53)))), (.a (.v 54)), (.e (.o2 .nadd (.v 55) (.n 0))), (.e (.o2 .nadd (.v 56) (.n 0))), (.e (.o1 .neg (.o1 .neg (.v 47)))), (.a (.v 48)), (.e (.o2 .nadd (.v 49) (.n 0))), (.e (.o2 .nadd (.v 50) (.n 0))), (.p [((.a 54), (.prop 57))]), (.p [((.a 27), (.prop 45)), ((.b (.v 43)), (.prop 44)), ((.b (.v 39)), (.prop 46))]), (.p [((.a 48), (.prop 51))])])))))
                   (.new
                   (.call 53 [(.a (.ptr (.v 43) 0))] [((.b (.v 43)), (.prop 44))] [.i, .a, .n, .n, .p] (.w (.agg [(.int .i64 (.v 48)), (.sl (.v 49) (.v 50) (.v 51))])) [((.a 49), (.prop 52)), ((.b (.v 43)), (.prop 44))]
                   (.call 53 [(.a (.ptr (.v 39) 0))] [((.b (.v 39)), (.prop 46))] [.i, .a, .n, .n, .p] (.w (.agg [(.int .i64 (.v 53)), (.sl (.v 54) (.v 55) (.v 56))])) [((.a 54), (.prop 57)), ((.b (.v 39)), (.prop 46))]
                   (.again 0 [(.n (.v 42)), (.n (.v 47)), (.e (.o1 .neg (.o1 .neg (.v 53)))), (.a (.v 54)), (.e (.o2 .nadd (.v 55) (.n 0))), (.e (.o2 .nadd (.v 56) (.n 0))), (.e (.o1 .neg (.o1 .neg (.v 48)))), (.a (.v 49)), (.e (.o2 .nadd (.v 50) (.n 0))), (.e (.o2 .nadd (.v 51) (.n 0))), (.p [((.a 54), (.prop 57))]), (.p [((.a 27), (.prop 45)), ((.b (.v 43)), (.prop 44)), ((.b (.v 39)), (.prop 46))]), (.p [((.a 49), (.prop 52))])]))))))
                  (.new
                  (.op (.load 91 (.tmp 113)) 91 [(113, (.w (.a (.eptr 27 (.i 0) 1 0))))] [((.a 27), (.prop 41)), ((.b (.v 39)), (.prop 40))] [.n, .p, .p, .p] (.w (.a (.ptr (.v 44) 0))) [((.b (.v 44)), (.prop 45)), ((.a 27), (.prop 46)), ((.b (.v 39)), (.prop 47))]
                  (.call 53 [(.a (.ptr (.v 44) 0))] [((.b (.v 44)), (.prop 45))] [.i, .a, .n, .n, .p] (.w (.agg [(.int .i64 (.v 48)), (.sl (.v 49) (.v 50) (.v 51))])) [((.a 49), (.prop 52)), ((.b (.v 44)), (.prop 45))]
                  (.call 53 [(.a (.ptr (.v 39) 0))] [((.b (.v 39)), (.prop 47))] [.i, .a, .n, .n, .p] (.w (.agg [(.int .i64 (.v 53)), (.sl (.v 54) (.v 55) (.v 56))])) [((.a 54), (.prop 57)), ((.b (.v 39)), (.prop 47))]
                  (.again 0 [(.n (.v 42)), (.n (.v 43)), (.e (.o1 .neg (.o1 .neg (.v 53)))), (.a (.v 54)), (.e (.o2 .nadd (.v 55) (.n 0))), (.e (.o2 .nadd (.v 56) (.n 0))), (.e (.o1 .neg (.o1 .neg (.v 48)))), (.a (.v 49)), (.e (.o2 .nadd (.v 50) (.n 0))), (.e (.o2 .nadd (.v 51) (.n 0))), (.p [((.a 54), (.prop 57))]), (.p [((.a 27), (.prop 46)), ((.b (.v 44)), (.prop 45)), ((.b (.v 39)), (.prop 47))]), (.p [((.a 49), (.prop 52))])])))))))
                 (.new
                 (.all
                  (.op (.load 91 (.tmp 113)) 91 [(113, (.w (.a (.eptr 27 (.i 0) 1 0))))] [((.a 27), (.prop 41)), ((.b (.v 39)), (.prop 40))] [.n, .p, .p, .p] (.w (.a (.ptr (.v 43) 0))) [((.b (.v 43)), (.prop 44)), ((.a 27), (.prop 45)), ((.b (.v 39)), (.prop 46))]
                  (.all
                   (.call 53 [(.a (.ptr (.v 43) 0))] [((.b (.v 43)), (.prop 44))] [.i, .a, .n, .n, .p] (.w (.agg [(.int .i64 (.v 47)), (.sl (.v 48) (.v 49) (.v 50))])) [((.a 48), (.prop 51)), ((.b (.v 43)), (.prop 44))]
                   (.all
                    (.call 53 [(.a (.ptr (.v 39) 0))] [((.b (.v 39)), (.prop 46))] [.i, .a, .n, .n, .p] (.w (.agg [(.int .i64 (.v 52)), (.sl (.v 53) (.v 54) (.v 55))])) [((.a 53), (.prop 56)), ((.b (.v 39)), (.prop 46))]
                    (.new
                    (.again 0 [(.n (.v 57)), (.n (.v 42)), (.e (.o1 .neg (.o1 .neg (.v 52)))), (.a (.v 53)), (.e (.o2 .nadd (.v 54) (.n 0))), (.e (.o2 .nadd (.v 55) (.n 0))), (.e (.o1 .neg (.o1 .neg (.v 47)))), (.a (.v 48)), (.e (.o2 .nadd (.v 49) (.n 0))), (.e (.o2 .nadd (.v 50) (.n 0))), (.p [((.a 53), (.prop 56))]), (.p [((.a 27), (.prop 45)), ((.b (.v 43)), (.prop 44)), ((.b (.v 39)), (.prop 46))]), (.p [((.a 48), (.prop 51))])])))
                    (.new
                    (.call 53 [(.a (.ptr (.v 39) 0))] [((.b (.v 39)), (.prop 46))] [.i, .a, .n, .n, .p] (.w (.agg [(.int .i64 (.v 53)), (.sl (.v 54) (.v 55) (.v 56))])) [((.a 54), (.prop 57)), ((.b (.v 39)), (.prop 46))]
                    (.again 0 [(.n (.v 52)), (.n (.v 42)), (.e (.o1 .neg (.o1 .neg (.v 53)))), (.a (.v 54)), (.e (.o2 .nadd (.v 55) (.n 0))), (.e (.o2 .nadd (.v 56) (.n 0))), (.e (.o1 .neg (.o1 .neg (.v 47)))), (.a (.v 48)), (.e (.o2 .nadd (.v 49) (.n 0))), (.e (.o2 .nadd (.v 50) (.n 0))), (.p [((.a 54), (.prop 57))]), (.p [((.a 27), (.prop 45)), ((.b (.v 43)), (.prop 44)), ((.b (.v 39)), (.prop 46))]), (.p [((.a 48), (.prop 51))])])))))
                   (.new
                   (.call 53 [(.a (.ptr (.v 43) 0))] [((.b (.v 43)), (.prop 44))] [.i, .a, .n, .n, .p] (.w (.agg [(.int .i64 (.v 48)), (.sl (.v 49) (.v 50) (.v 51))])) [((.a 49), (.prop 52)), ((.b (.v 43)), (.prop 44))]
                   (.call 53 [(.a (.ptr (.v 39) 0))] [((.b (.v 39)), (.prop 46))] [.i, .a, .n, .n, .p] (.w (.agg [(.int .i64 (.v 53)), (.sl (.v 54) (.v 55) (.v 56))])) [((.a 54), (.prop 57)), ((.b (.v 39)), (.prop 46))]
                   (.again 0 [(.n (.v 47)), (.n (.v 42)), (.e (.o1 .neg (.o1 .neg (.v 53)))), (.a (.v 54)), (.e (.o2 .nadd (.v 55) (.n 0))), (.e (.o2 .nadd (.v 56) (.n 0))), (.e (.o1 .neg (.o1 .neg (.v 48)))), (.a (.v 49)), (.e (.o2 .nadd (.v 50) (.n 0))), (.e (.o2 .nadd (.v 51) (.n 0))), (.p [((.a 54), (.prop 57))]), (.p [((.a 27), (.prop 45)), ((.b (.v 43)), (.prop 44)), ((.b (.v 39)), (.prop 46))]), (.p [((.a 49), (.prop 52))])]))))))
                  (.new
                  (.op (.load 91 (.tmp 113)) 91 [(113, (.w (.a (.eptr 27 (.i 0) 1 0))))] [((.a 27), (.prop 41)), ((.b (.v 39)), (.prop 40))] [.n, .p, .p, .p] (.w (.a (.ptr (.v 44) 0))) [((.b (.v 44)), (.prop 45)), ((.a 27), (.prop 46)), ((.b (.v 39)), (.prop 47))]
                  (.call 53 [(.a (.ptr (.v 44) 0))] [((.b (.v 44)), (.prop 45))] [.i, .a, .n, .n, .p] (.w (.agg [(.int .i64 (.v 48)), (.sl (.v 49) (.v 50) (.v 51))])) [((.a 49), (.prop 52)), ((.b (.v 44)), (.prop 45))]
                  (.call 53 [(.a (.ptr (.v 39) 0))] [((.b (.v 39)), (.prop 47))] [.i, .a, .n, .n, .p] (.w (.agg [(.int .i64 (.v 53)), (.sl (.v 54) (.v 55) (.v 56))])) [((.a 54), (.prop 57)), ((.b (.v 39)), (.prop 47))]
                  (.again 0 [(.n (.v 43)), (.n (.v 42)), (.e (.o1 .neg (.o1 .neg (.v 53)))), (.a (.v 54)), (.e (.o2 .nadd (.v 55) (.n 0))), (.e (.o2 .nadd (.v 56) (.n 0))), (.e (.o1 .neg (.o1 .neg (.v 48)))), (.a (.v 49)), (.e (.o2 .nadd (.v 50) (.n 0))), (.e (.o2 .nadd (.v 51) (.n 0))), (.p [((.a 54), (.prop 57))]), (.p [((.a 27), (.prop 46)), ((.b (.v 44)), (.prop 45)), ((.b (.v 39)), (.prop 47))]), (.p [((.a 49), (.prop 52))])]))))))))))
               (.all
                (.new
                (.all
                 (.op (.load 91 (.tmp 113)) 91 [(113, (.w (.a (.eptr 27 (.i 0) 1 0))))] [((.a 27), (.prop 37))] [.n, .p, .p] (.w (.a (.ptr (.v 40) 0))) [((.b (.v 40)), (.prop 41)), ((.a 27), (.prop 42))]
                 (.all
                  (.call 53 [(.a (.ptr (.v 40) 0))] [((.b (.v 40)), (.prop 41))] [.i, .a, .n, .n, .p] (.w (.agg [(.int .i64 (.v 43)), (.sl (.v 44) (.v 45) (.v 46))])) [((.a 44), (.prop 47)), ((.b (.v 40)), (.prop 41))]
                  (.all
                   (.op (.load 91 (.tmp 117)) 91 [(117, (.w (.a (.eptr 27 (.i 1) 1 0))))] [((.a 27), (.prop 42)), ((.b (.v 40)), (.prop 41))] [.n, .p, .p, .p] (.w (.a (.ptr (.v 48) 0))) [((.b (.v 48)), (.prop 49)), ((.a 27), (.prop 50)), ((.b (.v 40)), (.prop 51))]
                   (.all
                    (.call 53 [(.a (.ptr (.v 48) 0))] [((.b (.v 48)), (.prop 49))] [.i, .a, .n, .n, .p] (.w (.agg [(.int .i64 (.v 52)), (.sl (.v 53) (.v 54) (.v 55))])) [((.a 53), (.prop 56)), ((.b (.v 48)), (.prop 49))]
                    (.new
                    (.again 0 [(.n (.v 39)), (.n (.v 57)), (.e (.o1 .neg (.o1 .neg (.v 52)))), (.a (.v 53)), (.e (.o2 .nadd (.v 54) (.n 0))), (.e (.o2 .nadd (.v 55) (.n 0))), (.e (.o1 .neg (.o1 .neg (.v 43)))), (.a (.v 44)), (.e (.o2 .nadd (.v 45) (.n 0))), (.e (.o2 .nadd (.v 46) (.n 0))), (.p [((.a 53), (.prop 56))]), (.p [((.a 27), (.prop 50)), ((.b (.v 48)), (.prop 49)), ((.b (.v 40)), (.prop 51))]), (.p [((.a 44), (.prop 47))])])))
                    (.new
                    (.call 53 [(.a (.ptr (.v 48) 0))] [((.b (.v 48)), (.prop 49))] [.i, .a, .n, .n, .p] (.w (.agg [(.int .i64 (.v 53)), (.sl (.v 54) (.v 55) (.v 56))])) [((.a 54), (.prop 57)), ((.b (.v 48)), (.prop 49))]
                    (.again 0 [(.n (.v 39)), (.n (.v 52)), (.e (.o1 .neg (.o1 .neg (.v 53)))), (.a (.v 54)), (.e (.o2 .nadd (.v 55) (.n 0))), (.e (.o2 .nadd (.v 56) (.n 0))), (.e (.o1 .neg (.o1 .neg (.v 43)))), (.a (.v 44)), (.e (.o2 .nadd (.v 45) (.n 0))), (.e (.o2 .nadd (.v 46) (.n 0))), (.p [((.a 54), (.prop 57))]), (.p [((.a 27), (.prop 50)), ((.b (.v 48)), (.prop 49)), ((.b (.v 40)), (.prop 51))]), (.p [((.a 44), (.prop 47))])])))))
                   (.new
                   (.op (.load 91 (.tmp 117)) 91 [(117, (.w (.a (.eptr 27 (.i 1) 1 0))))] [((.a 27), (.prop 42)), ((.b (.v 40)), (.prop 41))] [.n, .p, .p, .p] (.w (.a (.ptr (.v 49) 0))) [((.b (.v 49)), (.prop 50)), ((.a 27), (.prop 51)), ((.b (.v 40)), (.prop 52))]
                   (.call 53 [(.a (.ptr (.v 49) 0))] [((.b (.v 49)), (.prop 50))] [.i, .a, .n, .n, .p] (.w (.agg [(.int .i64 (.v 53)), (.sl (.v 54) (.v 55) (.v 56))])) [((.a 54), (.prop 57)), ((.b (.v 49)), (.prop 50))]
                   (.again 0 [(.n (.v 39)), (.n (.v 48)), (.e (.o1 .neg (.o1 .neg (.v 53)))), (.a (.v 54)), (.e (.o2 .nadd (.v 55) (.n 0))), (.e (.o2 .nadd (.v 56) (.n 0))), (.e (.o1 .neg (.o1 .neg (.v 43)))), (.a (.v 44)), (.e (.o2 .nadd (.v 45) (.n 0))), (.e (.o2 .nadd (.v 46) (.n 0))), (.p [((.a 54), (.prop 57))]), (.p [((.a 27), (.prop 51)), ((.b (.v 49)), (.prop 50)), ((.b (.v 40)), (.prop 52))]), (.p [((.a 44), (.prop 47))])]))))))
                  (.all
                   (.op (.load 91 (.tmp 117)) 91 [(117, (.w (.a (.eptr 27 (.i 1) 1 0))))] [((.a 27), (.prop 42)), ((.b (.v 40)), (.prop 41))] [.n, .p, .p, .p] (.w (.a (.ptr (.v 43) 0))) [((.b (.v 43)), (.prop 44)), ((.a 27), (.prop 45)), ((.b (.v 40)), (.prop 46))]
                   (.all
                    (.call 53 [(.a (.ptr (.v 40) 0))] [((.b (.v 40)), (.prop 46))] [.i, .a, .n, .n, .p] (.w (.agg [(.int .i64 (.v 47)), (.sl (.v 48) (.v 49) (.v 50))])) [((.a 48), (.prop 51)), ((.b (.v 40)), (.prop 46))]
                    (.all
                     (.call 53 [(.a (.ptr (.v 43) 0))] [((.b (.v 43)), (.prop 44))] [.i, .a, .n, .n, .p] (.w (.agg [(.int .i64 (.v 52)), (.sl (.v 53) (.v 54) (.v 55))])) [((.a 53), (.prop 56)), ((.b (.v 43)), (.prop 44))]
                     (.new
                     (.again 0 [(.n (.v 39)), (.n (.v 57)), (.e (.o1 .neg (.o1 .neg (.v 52)))), (.a (.v 53)), (.e (.o2 .nadd (.v 54) (.n 0))), (.e (.o2 .nadd (.v 55) (.n 0))), (.e (.o1 .neg (.o1 .neg (.v 47)))), (.a (.v 48)), (.e (.o2 .nadd (.v 49) (.n 0))), (.e (.o2 .nadd (.v 50) (.n 0))), (.p [((.a 53), (.prop 56))]), (.p [((.a 27), (.prop 45)), ((.b (.v 43)), (.prop 44)), ((.b (.v 40)), (.prop 46))]), (.p [((.a 48), (.prop 51))])])))
                     (.new
                     (.call 53 [(.a (.ptr (.v 43) 0))] [((.b (.v 43)), (.prop 44))] [.i, .a, .n, .n, .p] (.w (.agg [(.int .i64 (.v 53)), (.sl (.v 54) (.v 55) (.v 56))])) [((.a 54), (.prop 57)), ((.b (.v 43)), (.prop 44))]
                     (.again 0 [(.n (.v 39)), (.n (.v 52)), (.e (.o1 .neg (.o1 .neg (.v 53)))), (.a (.v 54)), (.e (.o2 .nadd (.v 55) (.n 0))), (.e (.o2 .nadd (.v 56) (.n 0))), (.e (.o1 .neg (.o1 .neg (.v 47)))), (.a (.v 48)), (.e (.o2 .nadd (.v 49) (.n 0))), (.e (.o2 .nadd (.v 50) (.n 0))), (.p [((.a 54), (.prop 57))]), (.p [((.a 27), (.prop 45)), ((.b (.v 43)), (.prop 44)), ((.b (.v 40)), (.prop 46))]), (.p [((.a 48), (.prop 51))])])))))
                    (.new
                    (.call 53 [(.a (.ptr (.v 40) 0))] [((.b (.v 40)), (.prop 46))] [.i, .a, .n, .n, .p] (.w (.agg [(.int .i64 (.v 48)), (.sl (.v 49) (.v 50) (.v 51))])) [((.a 49), (.prop 52)), ((.b (.v 40)), (.prop 46))]
                    (.call 53 [(.a (.ptr (.v 43) 0))] [((.b (.v 43)), (.prop 44))] [.i, .a, .n, .n, .p] (.w (.agg [(.int .i64 (.v 53)), (.sl (.v 54) (.v 55) (.v 56))])) [((.a 54), (.prop 57)), ((.b (.v 43)), (.prop 44))]
                    (.again 0 [(.n (.v 39)), (.n (.v 47)), (.e (.o1 .neg (.o1 .neg (.v 53)))), (.a (.v 54)), (.e (.o2 .nadd (.v 55) (.n 0))), (.e (.o2 .nadd (.v 56) (.n 0))), (.e (.o1 .neg (.o1 .neg (.v 48)))), (.a (.v 49)), (.e (.o2 .nadd (.v 50) (.n 0))), (.e (.o2 .nadd (.v 51) (.n 0))), (.p [((.a 54), (.prop 57))]), (.p [((.a 27), (.prop 45)), ((.b (.v 43)), (.prop 44)), ((.b (.v 40)), (.prop 46))]), (.p [((.a 49), (.prop 52))])]))))))
                   (.new
                   (.all
                    (.call 53 [(.a (.ptr (.v 40) 0))] [((.b (.v 40)), (.prop 41))] [.i, .a, .n, .n, .p] (.w (.agg [(.int .i64 (.v 44)), (.sl (.v 45) (.v 46) (.v 47))])) [((.a 45), (.prop 48)), ((.b (.v 40)), (.prop 41))]
                    (.op (.load 91 (.tmp 117)) 91 [(117, (.w (.a (.eptr 27 (.i 1) 1 0))))] [((.a 27), (.prop 42)), ((.b (.v 40)), (.prop 41))] [.n, .p, .p, .p] (.w (.a (.ptr (.v 49) 0))) [((.b (.v 49)), (.prop 50)), ((.a 27), (.prop 51)), ((.b (.v 40)), (.prop 52))]
                    (.call 53 [(.a (.ptr (.v 49) 0))] [((.b (.v 49)), (.prop 50))] [.i, .a, .n, .n, .p] (.w (.agg [(.int .i64 (.v 53)), (.sl (.v 54) (.v 55) (.v 56))])) [((.a 54), (.prop 57)), ((.b (.v 49)), (.prop 50))]
                    (.again 0 [(.n (.v 39)), (.n (.v 43)), (.e (.o1 .neg (.o1 .neg (.v 53)))), (.a (.v 54)), (.e (.o2 .nadd (.v 55) (.n 0))), (.e (.o2 .nadd (.v 56) (.n 0))), (.e (.o1 .neg (.o1 .neg (.v 44)))), (.a (.v 45)), (.e (.o2 .nadd (.v 46) (.n 0))), (.e (.o2 .nadd (.v 47) (.n 0))), (.p [((.a 54), (.prop 57))]), (.p [((.a 27), (.prop 51)), ((.b (.v 49)), (.prop 50)), ((.b (.v 40)), (.prop 52))]), (.p [((.a 45), (.prop 48))])]))))
                    (.op (.load 91 (.tmp 117)) 91 [(117, (.w (.a (.eptr 27 (.i 1) 1 0))))] [((.a 27), (.prop 42)), ((.b (.v 40)), (.prop 41))] [.n, .p, .p, .p] (.w (.a (.ptr (.v 44) 0))) [((.b (.v 44)), (.prop 45)), ((.a 27), (.prop 46)), ((.b (.v 40)), (.prop 47))]
                    (.call 53 [(.a (.ptr (.v 40) 0))] [((.b (.v 40)), (.prop 47))] [.i, .a, .n, .n, .p] (.w (.agg [(.int .i64 (.v 48)), (.sl (.v 49) (.v 50) (.v 51))])) [((.a 49), (.prop 52)), ((.b (.v 40)), (.prop 47))]
                    (.call 53 [(.a (.ptr (.v 44) 0))] [((.b (.v 44)), (.prop 45))] [.i, .a, .n, .n, .p] (.w (.agg [(.int .i64 (.v 53)), (.sl (.v 54) (.v 55) (.v 56))])) [((.a 54), (.prop 57)), ((.b (.v 44)), (.prop 45))]
                    (.again 0 [(.n (.v 39)), (.n (.v 43)), (.e (.o1 .neg (.o1 .neg (.v 53)))), (.a (.v 54)), (.e (.o2 .nadd (.v 55) (.n 0))), (.e (.o2 .nadd (.v 56) (.n 0))), (.e (.o1 .neg (.o1 .neg (.v 48)))), (.a (.v 49)), (.e (.o2 .nadd (.v 50) (.n 0))), (.e (.o2 .nadd (.v 51) (.n 0))), (.p [((.a 54), (.prop 57))]), (.p [((.a 27), (.prop 46)), ((.b (.v 44)), (.prop 45)), ((.b (.v 40)), (.prop 47))]), (.p [((.a 49), (.prop 52))])])))))))))
                 (.all
                  (.op (.load 91 (.tmp 117)) 91 [(117, (.w (.a (.eptr 27 (.i 1) 1 0))))] [((.a 27), (.prop 37))] [.n, .p, .p] (.w (.a (.ptr (.v 40) 0))) [((.b (.v 40)), (.prop 41)), ((.a 27), (.prop 42))]
                  (.all
                   (.op (.load 91 (.tmp 113)) 91 [(113, (.w (.a (.eptr 27 (.i 0) 1 0))))] [((.a 27), (.prop 42)), ((.b (.v 40)), (.prop 41))] [.n, .p, .p, .p] (.w (.a (.ptr (.v 43) 0))) [((.b (.v 43)), (.prop 44)), ((.a 27), (.prop 45)), ((.b (.v 40)), (.prop 46))]
                   (.all
                    (.call 53 [(.a (.ptr (.v 43) 0))] [((.b (.v 43)), (.prop 44))] [.i, .a, .n, .n, .p] (.w (.agg [(.int .i64 (.v 47)), (.sl (.v 48) (.v 49) (.v 50))])) [((.a 48), (.prop 51)), ((.b (.v 43)), (.prop 44))]
                    (.all
                     (.call 53 [(.a (.ptr (.v 40) 0))] [((.b (.v 40)), (.prop 46))] [.i, .a, .n, .n, .p] (.w (.agg [(.int .i64 (.v 52)), (.sl (.v 53) (.v 54) (.v 55))])) [((.a 53), (.prop 56)), ((.b (.v 40)), (.prop 46))]
                     (.new
                     (.again 0 [(.n (.v 39)), (.n (.v 57)), (.e (.o1 .neg (.o1 .neg (.v 52)))), (.a (.v 53)), (.e (.o2 .nadd (.v 54) (.n 0))), (.e (.o2 .nadd (.v 55) (.n 0))), (.e (.o1 .neg (.o1 .neg (.v 47)))), (.a (.v 48)), (.e (.o2 .nadd (.v 49) (.n 0))), (.e (.o2 .nadd (.v 50) (.n 0))), (.p [((.a 53), (.prop 56))]), (.p [((.a 27), (.prop 45)), ((.b (.v 43)), (.prop 44)), ((.b (.v 40)), (.prop 46))]), (.p [((.a 48), (.prop 51))])])))
                     (.new
                     (.call 53 [(.a (.ptr (.v 40) 0))] [((.b (.v 40)), (.prop 46))] [.i, .a, .n, .n, .p] (.w (.agg [(.int .i64 (.v 53)), (.sl (.v 54) (.v 55) (.v 56))])) [((.a 54), (.prop 57)), ((.b (.v 40)), (.prop 46))]
                     (.again 0 [(.n (.v 39)), (.n (.v 52)), (.e (.o1 .neg (.o1 .neg (.v 53)))), (.a (.v 54)), (.e (.o2 .nadd (.v 55) (.n 0))), (.e (.o2 .nadd (.v 56) (.n 0))), (.e (.o1 .neg (.o1 .neg (.v 47)))), (.a (.v 48)), (.e (.o2 .nadd (.v 49) (.n 0))), (.e (.o2 .nadd (.v 50) (.n 0))), (.p [((.a 54), (.prop 57))]), (.p [((.a 27), (.prop 45)), ((.b (.v 43)), (.prop 44)), ((.b (.v 40)), (.prop 46))]), (.p [((.a 48), (.prop 51))])])))))
                    (.new
                    (.call 53 [(.a (.ptr (.v 43) 0))] [((.b (.v 43)), (.prop 44))] [.i, .a, .n, .n, .p] (.w (.agg [(.int .i64 (.v 48)), (.sl (.v 49) (.v 50) (.v 51))])) [((.a 49), (.prop 52)), ((.b (.v 43)), (.prop 44))]
                    (.call 53 [(.a (.ptr (.v 40) 0))] [((.b (.v 40)), (.prop 46))] [.i, .a, .n, .n, .p] (.w (.agg [(.int .i64 (.v 53)), (.sl (.v 54) (.v 55) (.v 56))])) [((.a 54), (.prop 57)), ((.b (.v 40)), (.prop 46))]
                    (.again 0 [(.n (.v 39)), (.n (.v 47)), (.e (.o1 .neg (.o1 .neg (.v 53)))), (.a (.v 54)), (.e (.o2 .nadd (.v 55) (.n 0))), (.e (.o2 .nadd (.v 56) (.n 0))), (.e (.o1 .neg (.o1 .neg (.v 48)))), (.a (.v 49)), (.e (.o2 .nadd (.v 50) (.n 0))), (.e (.o2 .nadd (.v 51) (.n 0))), (.p [((.a 54), (.prop 57))]), (.p [((.a 27), (.prop 45)), ((.b (.v 43)), (.prop 44)), ((.b (.v 40)), (.prop 46))]), (.p [((.a 49), (.prop 52))])]))))))
                   (.new
                   (.op (.load 91 (.tmp 113)) 91 [(113, (.w (.a (.eptr 27 (.i 0) 1 0))))] [((.a 27), (.prop 42)), ((.b (.v 40)), (.prop 41))] [.n, .p, .p, .p] (.w (.a (.ptr (.v 44) 0))) [((.b (.v 44)), (.prop 45)), ((.a 27), (.prop 46)), ((.b (.v 40)), (.prop 47))]
                   (.call 53 [(.a (.ptr (.v 44) 0))] [((.b (.v 44)), (.prop 45))] [.i, .a, .n, .n, .p] (.w (.agg [(.int .i64 (.v 48)), (.sl (.v 49) (.v 50) (.v 51))])) [((.a 49), (.prop 52)), ((.b (.v 44)), (.prop 45))]
                   (.call 53 [(.a (.ptr (.v 40) 0))] [((.b (.v 40)), (.prop 47))] [.i, .a, .n, .n, .p] (.w (.agg [(.int .i64 (.v 53)), (.sl (.v 54) (.v 55) (.v 56))])) [((.a 54), (.prop 57)), ((.b (.v 40)), (.prop 47))]
                   (.again 0 [(.n (.v 39)), (.n (.v 43)), (.e (.o1 .neg (.o1 .neg (.v 53)))), (.a (.v 54)), (.e (.o2 .nadd (.v 55) (.n 0))), (.e (.o2 .nadd (.v 56) (.n 0))), (.e (.o1 .neg (.o1 .neg (.v 48)))), (.a (.v 49)), (.e (.o2 .nadd (.v 50) (.n 0))), (.e (.o2 .nadd (.v 51) (.n 0))), (.p [((.a 54), (.prop 57))]), (.p [((.a 27), (.prop 46)), ((.b (.v 44)), (.prop 45)), ((.b (.v 40)), (.prop 47))]), (.p [((.a 49), (.prop 52))])])))))))
                  (.new
                  (.all
                   (.op (.load 91 (.tmp 113)) 91 [(113, (.w (.a (.eptr 27 (.i 0) 1 0))))] [((.a 27), (.prop 37))] [.n, .p, .p] (.w (.a (.ptr (.v 41) 0))) [((.b (.v 41)), (.prop 42)), ((.a 27), (.prop 43))]
                   (.all
                    (.call 53 [(.a (.ptr (.v 41) 0))] [((.b (.v 41)), (.prop 42))] [.i, .a, .n, .n, .p] (.w (.agg [(.int .i64 (.v 44)), (.sl (.v 45) (.v 46) (.v 47))])) [((.a 45), (.prop 48)), ((.b (.v 41)), (.prop 42))]
                    (.op (.load 91 (.tmp 117)) 91 [(117, (.w (.a (.eptr 27 (.i 1) 1 0))))] [((.a 27), (.prop 43)), ((.b (.v 41)), (.prop 42))] [.n, .p, .p, .p] (.w (.a (.ptr (.v 49) 0))) [((.b (.v 49)), (.prop 50)), ((.a 27), (.prop 51)), ((.b (.v 41)), (.prop 52))]
                    (.call 53 [(.a (.ptr (.v 49) 0))] [((.b (.v 49)), (.prop 50))] [.i, .a, .n, .n, .p] (.w (.agg [(.int .i64 (.v 53)), (.sl (.v 54) (.v 55) (.v 56))])) [((.a 54), (.prop 57)), ((.b (.v 49)), (.prop 50))]
                    (.again 0 [(.n (.v 39)), (.n (.v 40)), (.e (.o1 .neg (.o1 .neg (.v 53)))), (.a (.v 54)), (.e (.o2 .nadd (.v 55) (.n 0))), (.e (.o2 .nadd (.v 56) (.n 0))), (.e (.o1 .neg (.o1 .neg (.v 44)))), (.a (.v 45)), (.e (.o2 .nadd (.v 46) (.n 0))), (.e (.o2 .nadd (.v 47) (.n 0))), (.p [((.a 54), (.prop 57))]), (.p [((.a 27), (.prop 51)), ((.b (.v 49)), (.prop 50)), ((.b (.v 41)), (.prop 52))]), (.p [((.a 45), (.prop 48))])]))))
                    (.op (.load 91 (.tmp 117)) 91 [(117, (.w (.a (.eptr 27 (.i 1) 1 0))))] [((.a 27), (.prop 43)), ((.b (.v 41)), (.prop 42))] [.n, .p, .p, .p] (.w (.a (.ptr (.v 44) 0))) [((.b (.v 44)), (.prop 45)), ((.a 27), (.prop 46)), ((.b (.v 41)), (.prop 47))]
                    (.call 53 [(.a (.ptr (.v 41) 0))] [((.b (.v 41)), (.prop 47))] [.i, .a, .n, .n, .p] (.w (.agg [(.int .i64 (.v 48)), (.sl (.v 49) (.v 50) (.v 51))])) [((.a 49), (.prop 52)), ((.b (.v 41)), (.prop 47))]
                    (.call 53 [(.a (.ptr (.v 44) 0))] [((.b (.v 44)), (.prop 45))] [.i, .a, .n, .n, .p] (.w (.agg [(.int .i64 (.v 53)), (.sl (.v 54) (.v 55) (.v 56))])) [((.a 54), (.prop 57)), ((.b (.v 44)), (.prop 45))]
                    (.again 0 [(.n (.v 39)), (.n (.v 40)), (.e (.o1 .neg (.o1 .neg (.v 53)))), (.a (.v 54)), (.e (.o2 .nadd (.v 55) (.n 0))), (.e (.o2 .nadd (.v 56) (.n 0))), (.e (.o1 .neg (.o1 .neg (.v 48)))), (.a (.v 49)), (.e (.o2 .nadd (.v 50) (.n 0))), (.e (.o2 .nadd (.v 51) (.n 0))), (.p [((.a 54), (.prop 57))]), (.p [((.a 27), (.prop 46)), ((.b (.v 44)), (.prop 45)), ((.b (.v 41)), (.prop 47))]), (.p [((.a 49), (.prop 52))])]))))))
                   (.op (.load 91 (.tmp 117)) 91 [(117, (.w (.a (.eptr 27 (.i 1) 1 0))))] [((.a 27), (.prop 37))] [.n, .p, .p] (.w (.a (.ptr (.v 41) 0))) [((.b (.v 41)), (.prop 42)), ((.a 27), (.prop 43))]
                   (.op (.load 91 (.tmp 113)) 91 [(113, (.w (.a (.eptr 27 (.i 0) 1 0))))] [((.a 27), (.prop 43)), ((.b (.v 41)), (.prop 42))] [.n, .p, .p, .p] (.w (.a (.ptr (.v 44) 0))) [((.b (.v 44)), (.prop 45)), ((.a 27), (.prop 46)), ((.b (.v 41)), (.prop 47))]
                   (.call 53 [(.a (.ptr (.v 44) 0))] [((.b (.v 44)), (.prop 45))] [.i, .a, .n, .n, .p] (.w (.agg [(.int .i64 (.v 48)), (.sl (.v 49) (.v 50) (.v 51))])) [((.a 49), (.prop 52)), ((.b (.v 44)), (.prop 45))]
                   (.call 53 [(.a (.ptr (.v 41) 0))] [((.b (.v 41)), (.prop 47))] [.i, .a, .n, .n, .p] (.w (.agg [(.int .i64 (.v 53)), (.sl (.v 54) (.v 55) (.v 56))])) [((.a 54), (.prop 57)), ((.b (.v 41)), (.prop 47))]
                   (.again 0 [(.n (.v 39)), (.n (.v 40)), (.e (.o1 .neg (.o1 .neg (.v 53)))), (.a (.v 54)), (.e (.o2 .nadd (.v 55) (.n 0))), (.e (.o2 .nadd (.v 56) (.n 0))), (.e (.o1 .neg (.o1 .neg (.v 48)))), (.a (.v 49)), (.e (.o2 .nadd (.v 50) (.n 0))), (.e (.o2 .nadd (.v 51) (.n 0))), (.p [((.a 54), (.prop 57))]), (.p [((.a 27), (.prop 46)), ((.b (.v 44)), (.prop 45)), ((.b (.v 41)), (.prop 47))]), (.p [((.a 49), (.prop 52))])]))))))))))
                (.new
                (.all
                 (.op (.load 91 (.tmp 113)) 91 [(113, (.w (.a (.eptr 27 (.i 0) 1 0))))] [((.a 27), (.prop 37))] [.n, .p, .p] (.w (.a (.ptr (.v 40) 0))) [((.b (.v 40)), (.prop 41)), ((.a 27), (.prop 42))]
                 (.all
                  (.call 53 [(.a (.ptr (.v 40) 0))] [((.b (.v 40)), (.prop 41))] [.i, .a, .n, .n, .p] (.w (.agg [(.int .i64 (.v 43)), (.sl (.v 44) (.v 45) (.v 46))])) [((.a 44), (.prop 47)), ((.b (.v 40)), (.prop 41))]
                  (.all
                   (.op (.load 91 (.tmp 117)) 91 [(117, (.w (.a (.eptr 27 (.i 1) 1 0))))] [((.a 27), (.prop 42)), ((.b (.v 40)), (.prop 41))] [.n, .p, .p, .p] (.w (.a (.ptr (.v 48) 0))) [((.b (.v 48)), (.prop 49)), ((.a 27), (.prop 50)), ((.b (.v 40)), (.prop 51))]
                   (.all
                    (.call 53 [(.a (.ptr (.v 48) 0))] [((.b (.v 48)), (.prop 49))] [.i, .a, .n, .n, .p] (.w (.agg [(.int .i64 (.v 52)), (.sl (.v 53) (.v 54) (.v 55))])) [((.a 53), (.prop 56)), ((.b (.v 48)), (.prop 49))]
                    (.new
                    (.again 0 [(.n (.v 57)), (.n (.v 39)), (.e (.o1 .neg (.o1 .neg (.v 52)))), (.a (.v 53)), (.e (.o2 .nadd (.v 54) (.n 0))), (.e (.o2 .nadd (.v 55) (.n 0))), (.e (.o1 .neg (.o1 .neg (.v 43)))), (.a (.v 44)), (.e (.o2 .nadd (.v 45) (.n 0))), (.e (.o2 .nadd (.v 46) (.n 0))), (.p [((.a 53), (.prop 56))]), (.p [((.a 27), (.prop 50)), ((.b (.v 48)), (.prop 49)), ((.b (.v 40)), (.prop 51))]), (.p [((.a 44), (.prop 47))])])))
                    (.new
                    (.call 53 [(.a (.ptr (.v 48) 0))] [((.b (.v 48)), (.prop 49))] [.i, .a, .n, .n, .p] (.w (.agg [(.int .i64 (.v 53)), (.sl (.v 54) (.v 55) (.v 56))])) [((.a 54), (.prop 57)), ((.b (.v 48)), (.prop 49))]
                    (.again 0 [(.n (.v 52)), (.n (.v 39)), (.e (.o1 .neg (.o1 .neg (.v 53)))), (.a (.v 54)), (.e (.o2 .nadd (.v 55) (.n 0))), (.e (.o2 .nadd (.v 56) (.n 0))), (.e (.o1 .neg (.o1 .neg (.v 43)))), (.a (.v 44)), (.e (.o2 .nadd (.v 45) (.n 0))), (.e (.o2 .nadd (.v 46) (.n 0))), (.p [((.a 54), (.prop 57))]), (.p [((.a 27), (.prop 50)), ((.b (.v 48)), (.prop 49)), ((.b (.v 40)), (.prop 51))]), (.p [((.a 44), (.prop 47))])])))))
                   (.new
                   (.op (.load 91 (.tmp 117)) 91 [(117, (.w (.a (.eptr 27 (.i 1) 1 0))))] [((.a 27), (.prop 42)), ((.b (.v 40)), (.prop 41))] [.n, .p, .p, .p] (.w (.a (.ptr (.v 49) 0))) [((.b (.v 49)), (.prop 50)), ((.a 27), (.prop 51)), ((.b (.v 40)), (.prop 52))]
                   (.call 53 [(.a (.ptr (.v 49) 0))] [((.b (.v 49)), (.prop 50))] [.i, .a, .n, .n, .p] (.w (.agg [(.int .i64 (.v 53)), (.sl (.v 54) (.v 55) (.v 56))])) [((.a 54), (.prop 57)), ((.b (.v 49)), (.prop 50))]
                   (.again 0 [(.n (.v 48)), (.n (.v 39)), (.e (.o1 .neg (.o1 .neg (.v 53)))), (.a (.v 54)), (.e (.o2 .nadd (.v 55) (.n 0))), (.e (.o2 .nadd (.v 56) (.n 0))), (.e (.o1 .neg (.o1 .neg (.v 43)))), (.a (.v 44)), (.e (.o2 .nadd (.v 45) (.n 0))), (.e (.o2 .nadd (.v 46) (.n 0))), (.p [((.a 54), (.prop 57))]), (.p [((.a 27), (.prop 51)), ((.b (.v 49)), (.prop 50)), ((.b (.v 40)), (.prop 52))]), (.p [((.a 44), (.prop 47))])]))))))
                  (.all
                   (.op (.load 91 (.tmp 117)) 91 [(117, (.w (.a (.eptr 27 (.i 1) 1 0))))] [((.a 27), (.prop 42)), ((.b (.v 40)), (.prop 41))] [.n, .p, .p, .p] (.w (.a (.ptr (.v 43) 0))) [((.b (.v 43)), (.prop 44)), ((.a 27), (.prop 45)), ((.b (.v 40)), (.prop 46))]
                   (.all
                    (.call 53 [(.a (.ptr (.v 40) 0))] [((.b (.v 40)), (.prop 46))] [.i, .a, .n, .n, .p] (.w (.agg [(.int .i64 (.v 47)), (.sl (.v 48) (.v 49) (.v 50))])) [((.a 48), (.prop 51)), ((.b (.v 40)), (.prop 46))]
                    (.all
                     (.call 53 [(.a (.ptr (.v 43) 0))] [((.b (.v 43)), (.prop 44))] [.i, .a, .n, .n, .p] (.w (.agg [(.int .i64 (.v 52)), (.sl (.v 53) (.v 54) (.v 55))])) [((.a 53), (.prop 56)), ((.b (.v 43)), (.prop 44))]
                     (.new
                     (.again 0 [(.n (.v 57)), (.n (.v 39)), (.e (.o1 .neg (.o1 .neg (.v 52)))), (.a (.v 53)), (.e (.o2 .nadd (.v 54) (.n 0))), (.e (.o2 .nadd (.v 55) (.n 0))), (.e (.o1 .neg (.o1 .neg (.v 47)))), (.a (.v 48)), (.e (.o2 .nadd (.v 49) (.n 0))), (.e (.o2 .nadd (.v 50) (.n 0))), (.p [((.a 53), (.prop 56))]), (.p [((.a 27), (.prop 45)), ((.b (.v 43)), (.prop 44)), ((.b (.v 40)), (.prop 46))]), (.p [((.a 48), (.prop 51))])])))
                     (.new
                     (.call 53 [(.a (.ptr (.v 43) 0))] [((.b (.v 43)), (.prop 44))] [.i, .a, .n, .n, .p] (.w (.agg [(.int .i64 (.v 53)), (.sl (.v 54) (.v 55) (.v 56))])) [((.a 54), (.prop 57)), ((.b (.v 43)), (.prop 44))]
                     (.again 0 [(.n (.v 52)), (.n (.v 39)), (.e (.o1 .neg (.o1 .neg (.v 53)))), (.a (.v 54)), (.e (.o2 .nadd (.v 55) (.n 0))), (.e (.o2 .nadd (.v 56) (.n 0))), (.e (.o1 .neg (.o1 .neg (.v 47)))), (.a (.v 48)), (.e (.o2 .nadd (.v 49) (.n 0))), (.e (.o2 .nadd (.v 50) (.n 0))), (.p [((.a 54), (.prop 57))]), (.p [((.a 27), (.prop 45)), ((.b (.v 43)), (.prop 44)), ((.b (.v 40)), (.prop 46))]), (.p [((.a 48), (.prop 51))])])))))
                    (.new
                    (.call 53 [(.a (.ptr (.v 40) 0))] [((.b (.v 40)), (.prop 46))] [.i, .a, .n, .n, .p] (.w (.agg [(.int .i64 (.v 48)), (.sl (.v 49) (.v 50) (.v 51))])) [((.a 49), (.prop 52)), ((.b (.v 40)), (.prop 46))]
                    (.call 53 [(.a (.ptr (.v 43) 0))] [((.b (.v 43)), (.prop 44))] [.i, .a, .n, .n, .p] (.w (.agg [(.int .i64 (.v 53)), (.sl (.v 54) (.v 55) (.v 56))])) [((.a 54), (.prop 57)), ((.b (.v 43)), (.prop 44))]
                    (.again 0 [(.n (.v 47)), (.n (.v 39)), (.e (.o1 .neg (.o1 .neg (.v 53)))), (.a (.v 54)), (.e (.o2 .nadd (.v 55) (.n 0))), (.e (.o2 .nadd (.v 56) (.n 0))), (.e (.o1 .neg (.o1 .neg (.v 48)))), (.a (.v 49)), (.e (.o2 .nadd (.v 50) (.n 0))), (.e (.o2 .nadd (.v 51) (.n 0))), (.p [((.a 54), (.prop 57))]), (.p [((.a 27), (.prop 45)), ((.b (.v 43)), (.prop 44)), ((.b (.v 40)), (.prop 46))]), (.p [((.a 49), (.prop 52))])]))))))
                   (.new
                   (.all
                    (.call 53 [(.a (.ptr (.v 40) 0))] [((.b (.v 40)), (.prop 41))] [.i, .a, .n, .n, .p] (.w (.agg [(.int .i64 (.v 44)), (.sl (.v 45) (.v 46) (.v 47))])) [((.a 45), (.prop 48)), ((.b (.v 40)), (.prop 41))]
                    (.op (.load 91 (.tmp 117)) 91 [(117, (.w (.a (.eptr 27 (.i 1) 1 0))))] [((.a 27), (.prop 42)), ((.b (.v 40)), (.prop 41))] [.n, .p, .p, .p] (.w (.a (.ptr (.v 49) 0))) [((.b (.v 49)), (.prop 50)), ((.a 27), (.prop 51)), ((.b (.v 40)), (.prop 52))]
                    (.call 53 [(.a (.ptr (.v 49) 0))] [((.b (.v 49)), (.prop 50))] [.i, .a, .n, .n, .p] (.w (.agg [(.int .i64 (.v 53)), (.sl (.v 54) (.v 55) (.v 56))])) [((.a 54), (.prop 57)), ((.b (.v 49)), (.prop 50))]
                    (.again 0 [(.n (.v 43)), (.n (.v 39)), (.e (.o1 .neg (.o1 .neg (.v 53)))), (.a (.v 54)), (.e (.o2 .nadd (.v 55) (.n 0))), (.e (.o2 .nadd (.v 56) (.n 0))), (.e (.o1 .neg (.o1 .neg (.v 44)))), (.a (.v 45)), (.e (.o2 .nadd (.v 46) (.n 0))), (.e (.o2 .nadd (.v 47) (.n 0))), (.p [((.a 54), (.prop 57))]), (.p [((.a 27), (.prop 51)), ((.b (.v 49)), (.prop 50)), ((.b (.v 40)), (.prop 52))]), (.p [((.a 45), (.prop 48))])]))))
                    (.op (.load 91 (.tmp 117)) 91 [(117, (.w (.a (.eptr 27 (.i 1) 1 0))))] [((.a 27), (.prop 42)), ((.b (.v 40)), (.prop 41))] [.n, .p, .p, .p] (.w (.a (.ptr (.v 44) 0))) [((.b (.v 44)), (.prop 45)), ((.a 27), (.prop 46)), ((.b (.v 40)), (.prop 47))]
                    (.call 53 [(.a (.ptr (.v 40) 0))] [((.b (.v 40)), (.prop 47))] [.i, .a, .n, .n, .p] (.w (.agg [(.int .i64 (.v 48)), (.sl (.v 49) (.v 50) (.v 51))])) [((.a 49), (.prop 52)), ((.b (.v 40)), (.prop 47))]
                    (.call 53 [(.a (.ptr (.v 44) 0))] [((.b (.v 44)), (.prop 45))] [.i, .a, .n, .n, .p] (.w (.agg [(.int .i64 (.v 53)), (.sl (.v 54) (.v 55) (.v 56))])) [((.a 54), (.prop 57)), ((.b (.v 44)), (.prop 45))]
                    (.again 0 [(.n (.v 43)), (.n (.v 39)), (.e (.o1 .neg (.o1 .neg (.v 53)))), (.a (.v 54)), (.e (.o2 .nadd (.v 55) (.n 0))), (.e (.o2 .nadd (.v 56) (.n 0))), (.e (.o1 .neg (.o1 .neg (.v 48)))), (.a (.v 49)), (.e (.o2 .nadd (.v 50) (.n 0))), (.e (.o2 .nadd (.v 51) (.n 0))), (.p [((.a 54), (.prop 57))]), (.p [((.a 27), (.prop 46)), ((.b (.v 44)), (.prop 45)), ((.b (.v 40)), (.prop 47))]), (.p [((.a 49), (.prop 52))])])))))))))
                 (.all
                  (.op (.load 91 (.tmp 117)) 91 [(117, (.w (.a (.eptr 27 (.i 1) 1 0))))] [((.a 27), (.prop 37))] [.n, .p, .p] (.w (.a (.ptr (.v 40) 0))) [((.b (.v 40)), (.prop 41)), ((.a 27), (.prop 42))]
                  (.all
                   (.op (.load 91 (.tmp 113)) 91 [(113, (.w (.a (.eptr 27 (.i 0) 1 0))))] [((.a 27), (.prop 42)), ((.b (.v 40)), (.prop 41))] [.n, .p, .p, .p] (.w (.a (.ptr (.v 43) 0))) [((.b (.v 43)), (.prop 44)), ((.a 27), (.prop 45)), ((.b (.v 40)), (.prop 46))]
                   (.all
                    (.call 53 [(.a (.ptr (.v 43) 0))] [((.b (.v 43)), (.prop 44))] [.i, .a, .n, .n, .p] (.w (.agg [(.int .i64 (.v 47)), (.sl (.v 48) (.v 49) (.v 50))])) [((.a 48), (.prop 51)), ((.b (.v 43)), (.prop 44))]
                    (.all
                     (.call 53 [(.a (.ptr (.v 40) 0))] [((.b (.v 40)), (.prop 46))] [.i, .a, .n, .n, .p] (.w (.agg [(.int .i64 (.v 52)), (.sl (.v 53) (.v 54) (.v 55))])) [((.a 53), (.prop 56)), ((.b (.v 40)), (.prop 46))]
                     (.new
                     (.again 0 [(.n (.v 57)), (.n (.v 39)), (.e (.o1 .neg (.o1 .neg (.v 52)))), (.a (.v 53)), (.e (.o2 .nadd (.v 54) (.n 0))), (.e (.o2 .nadd (.v 55) (.n 0))), (.e (.o1 .neg (.o1 .neg (.v 47)))), (.a (.v 48)), (.e (.o2 .nadd (.v 49) (.n 0))), (.e (.o2 .nadd (.v 50) (.n 0))), (.p [((.a 53), (.prop 56))]), (.p [((.a 27), (.prop 45)), ((.b (.v 43)), (.prop 44)), ((.b (.v 40)), (.prop 46))]), (.p [((.a 48), (.prop 51))])])))
                     (.new
                     (.call 53 [(.a (.ptr (.v 40) 0))] [((.b (.v 40)), (.prop 46))] [.i, .a, .n, .n, .p] (.w (.agg [(.int .i64 (.v 53)), (.sl (.v 54) (.v 55) (.v 56))])) [((.a 54), (.prop 57)), ((.b (.v 40)), (.prop 46))]
                     (.again 0 [(.n (.v 52)), (.n (.v 39)), (.e (.o1 .neg (.o1 .neg (.v 53)))), (.a (.v 54)), (.e (.o2 .nadd (.v 55) (.n 0))), (.e (.o2 .nadd (.v 56) (.n 0))), (.e (.o1 .neg (.o1 .neg (.v 47)))), (.a (.v 48)), (.e (.o2 .nadd (.v 49) (.n 0))), (.e (.o2 .nadd (.v 50) (.n 0))), (.p [((.a 54), (.prop 57))]), (.p [((.a 27), (.prop 45)), ((.b (.v 43)), (.prop 44)), ((.b (.v 40)), (.prop 46))]), (.p [((.a 48), (.prop 51))])])))))
                    (.new
                    (.call 53 [(.a (.ptr (.v 43) 0))] [((.b (.v 43)), (.prop 44))] [.i, .a, .n, .n, .p] (.w (.agg [(.int .i64 (.v 48)), (.sl (.v 49) (.v 50) (.v 51))])) [((.a 49), (.prop 52)), ((.b (.v 43)), (.prop 44))]
                    (.call 53 [(.a (.ptr (.v 40) 0))] [((.b (.v 40)), (.prop 46))] [.i, .a, .n, .n, .p] (.w (.agg [(.int .i64 (.v 53)), (.sl (.v 54) (.v 55) (.v 56))])) [((.a 54), (.prop 57)), ((.b (.v 40)), (.prop 46))]
                    (.again 0 [(.n (.v 47)), (.n (.v 39)), (.e (.o1 .neg (.o1 .neg (.v 53)))), (.a (.v 54)), (.e (.o2 .nadd (.v 55) (.n 0))), (.e (.o2 .nadd (.v 56) (.n 0))), (.e (.o1 .neg (.o1 .neg (.v 48)))), (.a (.v 49)), (.e (.o2 .nadd (.v 50) (.n 0))), (.e (.o2 .nadd (.v 51) (.n 0))), (.p [((.a 54), (.prop 57))]), (.p [((.a 27), (.prop 45)), ((.b (.v 43)), (.prop 44)), ((.b (.v 40)), (.prop 46))]), (.p [((.a 49), (.prop 52))])]))))))
                   (.new
                   (.op (.load 91 (.tmp 113)) 91 [(113, (.w (.a (.eptr 27 (.i 0) 1 0))))] [((.a 27), (.prop 42)), ((.b (.v 40)), (.prop 41))] [.n, .p, .p, .p] (.w (.a (.ptr (.v 44) 0))) [((.b (.v 44)), (.prop 45)), ((.a 27), (.prop 46)), ((.b (.v 40)), (.prop 47))]
                   (.call 53 [(.a (.ptr (.v 44) 0))] [((.b (.v 44)), (.prop 45))] [.i, .a, .n, .n, .p] (.w (.agg [(.int .i64 (.v 48)), (.sl (.v 49) (.v 50) (.v 51))])) [((.a 49), (.prop 52)), ((.b (.v 44)), (.prop 45))]
                   (.call 53 [(.a (.ptr (.v 40) 0))] [((.b (.v 40)), (.prop 47))] [.i, .a, .n, .n, .p] (.w (.agg [(.int .i64 (.v 53)), (.sl (.v 54) (.v 55) (.v 56))])) [((.a 54), (.prop 57)), ((.b (.v 40)), (.prop 47))]
                   (.again 0 [(.n (.v 43)), (.n (.v 39)), (.e (.o1 .neg (.o1 .neg (.v 53)))), (.a (.v 54)), (.e (.o2 .nadd (.v 55) (.n 0))), (.e (.o2 .nadd (.v 56) (.n 0))), (.e (.o1 .neg (.o1 .neg (.v 48)))), (.a (.v 49)), (.e (.o2 .nadd (.v 50) (.n 0))), (.e (.o2 .nadd (.v 51) (.n 0))), (.p [((.a 54), (.prop 57))]), (.p [((.a 27), (.prop 46)), ((.b (.v 44)), (.prop 45)), ((.b (.v 40)), (.prop 47))]), (.p [((.a 49), (.prop 52))])])))))))
                  (.new
                  (.all
                   (.op (.load 91 (.tmp 113)) 91 [(113, (.w (.a (.eptr 27 (.i 0) 1 0))))] [((.a 27), (.prop 37))] [.n, .p, .p] (.w (.a (.ptr (.v 41) 0))) [((.b (.v 41)), (.prop 42)), ((.a 27), (.prop 43))]
                   (.all
                    (.call 53 [(.a (.ptr (.v 41) 0))] [((.b (.v 41)), (.prop 42))] [.i, .a, .n, .n, .p] (.w (.agg [(.int .i64 (.v 44)), (.sl (.v 45) (.v 46) (.v 47))])) [((.a 45), (.prop 48)), ((.b (.v 41)), (.prop 42))]
                    (.op (.load 91 (.tmp 117)) 91 [(117, (.w (.a (.eptr 27 (.i 1) 1 0))))] [((.a 27), (.prop 43)), ((.b (.v 41)), (.prop 42))] [.n, .p, .p, .p] (.w (.a (.ptr (.v 49) 0))) [((.b (.v 49)), (.prop 50)), ((.a 27), (.prop 51)), ((.b (.v 41)), (.prop 52))]
                    (.call 53 [(.a (.ptr (.v 49) 0))] [((.b (.v 49)), (.prop 50))] [.i, .a, .n, .n, .p] (.w (.agg [(.int .i64 (.v 53)), (.sl (.v 54) (.v 55) (.v 56))])) [((.a 54), (.prop 57)), ((.b (.v 49)), (.prop 50))]
                    (.again 0 [(.n (.v 40)), (.n (.v 39)), (.e (.o1 .neg (.o1 .neg (.v 53)))), (.a (.v 54)), (.e (.o2 .nadd (.v 55) (.n 0))), (.e (.o2 .nadd (.v 56) (.n 0))), (.e (.o1 .neg (.o1 .neg (.v 44)))), (.a (.v 45)), (.e (.o2 .nadd (.v 46) (.n 0))), (.e (.o2 .nadd (.v 47) (.n 0))), (.p [((.a 54), (.prop 57))]), (.p [((.a 27), (.prop 51)), ((.b (.v 49)), (.prop 50)), ((.b (.v 41)), (.prop 52))]), (.p [((.a 45), (.prop 48))])]))))
                    (.op (.load 91 (.tmp 117)) 91 [(117, (.w (.a (.eptr 27 (.i 1) 1 0))))] [((.a 27), (.prop 43)), ((.b (.v 41)), (.prop 42))] [.n, .p, .p, .p] (.w (.a (.ptr (.v 44) 0))) [((.b (.v 44)), (.prop 45)), ((.a 27), (.prop 46)), ((.b (.v 41)), (.prop 47))]
                    (.call 53 [(.a (.ptr (.v 41) 0))] [((.b (.v 41)), (.prop 47))] [.i, .a, .n, .n, .p] (.w (.agg [(.int .i64 (.v 48)), (.sl (.v 49) (.v 50) (.v 51))])) [((.a 49), (.prop 52)), ((.b (.v 41)), (.prop 47))]
                    (.call 53 [(.a (.ptr (.v 44) 0))] [((.b (.v 44)), (.prop 45))] [.i, .a, .n, .n, .p] (.w (.agg [(.int .i64 (.v 53)), (.sl (.v 54) (.v 55) (.v 56))])) [((.a 54), (.prop 57)), ((.b (.v 44)), (.prop 45))]
                    (.again 0 [(.n (.v 40)), (.n (.v 39)), (.e (.o1 .neg (.o1 .neg (.v 53)))), (.a (.v 54)), (.e (.o2 .nadd (.v 55) (.n 0))), (.e (.o2 .nadd (.v 56) (.n 0))), (.e (.o1 .neg (.o1 .neg (.v 48)))), (.a (.v 49)), (.e (.o2 .nadd (.v 50) (.n 0))), (.e (.o2 .nadd (.v 51) (.n 0))), (.p [((.a 54), (.prop 57))]), (.p [((.a 27), (.prop 46)), ((.b (.v 44)), (.prop 45)), ((.b (.v 41)), (.prop 47))]), (.p [((.a 49), (.prop 52))])]))))))
                   (.op (.load 91 (.tmp 117)) 91 [(117, (.w (.a (.eptr 27 (.i 1) 1 0))))] [((.a 27), (.prop 37))] [.n, .p, .p] (.w (.a (.ptr (.v 41) 0))) [((.b (.v 41)), (.prop 42)), ((.a 27), (.prop 43))]
                   (.op (.load 91 (.tmp 113)) 91 [(113, (.w (.a (.eptr 27 (.i 0) 1 0))))] [((.a 27), (.prop 43)), ((.b (.v 41)), (.prop 42))] [.n, .p, .p, .p] (.w (.a (.ptr (.v 44) 0))) [((.b (.v 44)), (.prop 45)), ((.a 27), (.prop 46)), ((.b (.v 41)), (.prop 47))]
                   (.call 53 [(.a (.ptr (.v 44) 0))] [((.b (.v 44)), (.prop 45))] [.i, .a, .n, .n, .p] (.w (.agg [(.int .i64 (.v 48)), (.sl (.v 49) (.v 50) (.v 51))])) [((.a 49), (.prop 52)), ((.b (.v 44)), (.prop 45))]
                   (.call 53 [(.a (.ptr (.v 41) 0))] [((.b (.v 41)), (.prop 47))] [.i, .a, .n, .n, .p] (.w (.agg [(.int .i64 (.v 53)), (.sl (.v 54) (.v 55) (.v 56))])) [((.a 54), (.prop 57)), ((.b (.v 41)), (.prop 47))]
                   (.again 0 [(.n (.v 40)), (.n (.v 39)), (.e (.o1 .neg (.o1 .neg (.v 53)))), (.a (.v 54)), (.e (.o2 .nadd (.v 55) (.n 0))), (.e (.o2 .nadd (.v 56) (.n 0))), (.e (.o1 .neg (.o1 .neg (.v 48)))), (.a (.v 49)), (.e (.o2 .nadd (.v 50) (.n 0))), (.e (.o2 .nadd (.v 51) (.n 0))), (.p [((.a 54), (.prop 57))]), (.p [((.a 27), (.prop 46)), ((.b (.v 44)), (.prop 45)), ((.b (.v 41)), (.prop 47))]), (.p [((.a 49), (.prop 52))])]))))))))))))))))
            (.need (.o2 .lt (.i 0) (.o1 .ofNat (.v 28)))
            (.need (.o1 .isSome (.v 27))
            (.op (.load 91 (.tmp 121)) 91 [(121, (.w (.a (.eptr 27 (.i 0) 1 0))))] [((.a 27), (.prop 50))] [.n, .p, .p] (.w (.a (.ptr (.v 52) 0))) [((.b (.v 52)), (.prop 53)), ((.a 27), (.prop 54))]
            (.call 52 [(.a (.ptr (.v 52) 0))] [((.b (.v 52)), (.prop 53))] [.i] (.w (.a (.int .i64 (.v 55)))) [((.b (.v 52)), (.prop 53))]
            (.br (.o1 .not (.o2 .eq (.v 55) (.i 2)))
             (.ret (.w (.a (.bool (.c false)))) [((.a 1), (.prop 4)), ((.a 5), (.prop 8))])
             (.need (.o2 .lt (.i 1) (.o1 .ofNat (.v 28)))
             (.op (.load 91 (.tmp 127)) 91 [(127, (.w (.a (.eptr 27 (.i 1) 1 0))))] [((.a 27), (.prop 54)), ((.b (.v 52)), (.prop 53))] [.n, .p, .p, .p] (.w (.a (.ptr (.v 56) 0))) [((.b (.v 56)), (.prop 57)), ((.a 27), (.prop 58)), ((.b (.v 52)), (.prop 59))]
             (.call 52 [(.a (.ptr (.v 56) 0))] [((.b (.v 56)), (.prop 57))] [.i] (.w (.a (.int .i64 (.v 60)))) [((.b (.v 56)), (.prop 57))]
             (.br (.o1 .not (.o2 .eq (.v 60) (.i 2)))
              (.ret (.w (.a (.bool (.c false)))) [((.a 1), (.prop 4)), ((.a 5), (.prop 8))])
              (.call 21 [(.agg [(.int .i64 (.v 45)), (.sl (.v 46) (.v 47) (.v 48))]), (.agg [(.int .i64 (.v 41)), (.sl (.v 42) (.v 43) (.v 44))])] [((.a 46), (.prop 51)), ((.a 42), (.prop 49))] [.c] (.w (.a (.bool (.v 61)))) [((.a 46), (.prop 51)), ((.a 42), (.prop 49))]
              (.br (.o1 .not (.v 61))
               (.ret (.w (.a (.bool (.c false)))) [((.a 1), (.prop 4)), ((.a 5), (.prop 8))])
               (.br (.o2 .eq (.v 45) (.i 2))
                (.ret (.w (.a (.bool (.c true)))) [((.a 1), (.prop 4)), ((.a 5), (.prop 8))])
                (.br (.o2 .eq (.v 45) (.i 1))
                 (.read (.convert 30 9 (.tmp 148)) 9 [(148, (.w (.a (.sl (.v 46) (.v 47) (.v 48)))))] [((.a 46), (.prop 51))] [.s] (.w (.a (.str (.v 62))))
                 (.read (.lookup 56 (.tmp 146) (.tmp 149) false) 4 [(146, (.w (.a (.map (.v 25))))), (149, (.w (.a (.str (.v 62)))))] [((.b (.v 25)), (.prop 31))] [.c] (.w (.a (.bool (.v 63))))
                 (.ret (.w (.a (.bool (.v 63)))) [((.a 1), (.prop 4)), ((.a 5), (.prop 8))])))
                 (.ret (.w (.a (.bool (.c false)))) [((.a 1), (.prop 4)), ((.a 5), (.prop 8))])))))))))))))))))))))))))))))))))))
theorem tree_chainFind : tree Try.prog { absT := [], opq := [], hv := [(0, [(.b (.v 14))]), (2, [(.b (.v 24)), (.b (.v 25))]), (4, [(.a 27), (.a 10)]), (6, [(.a 27), (.a 10)]), (8, [(.a 27), (.a 10)])], keep := [52, 54, 53, 56, 92, 21, 50, 49, 19], link := [(17, 0)], ent := [], turn := [(45, [0]), (55, [0])], shr := [], vt := [], mkd := [], rlink := [], pty := [], outl := true, stay := [], snk := [(2, [(.b (.v 20)), (.b (.v 22))])], jn := [((112, 39), some { ss := [.n, .n, .i, .a, .n, .n, .i, .a, .n, .n, .p, .p, .p], n := 52, tv := [(112, none), (113, none), (114, none), (115, none), (116, none), (117, none), (118, none), (119, none), (19, some (.w (.a (.ptr (.v 39) 0)))), (20, some (.w (.a (.ptr (.v 40) 0))))], h := [((.b (.v 40)), (.cells [(.int .i64 (.v 41)), (.sl (.v 42) (.v 43) (.v 44))] 32)), ((.b (.v 39)), (.cells [(.int .i64 (.v 45)), (.sl (.v 46) (.v 47) (.v 48))] 32)), ((.a 42), (.prop 49)), ((.a 27), (.prop 50)), ((.a 46), (.prop 51)), ((.b (.v 25)), (.prop 31)), ((.a 15), (.prop 19)), ((.a 10), (.prop 38)), ((.a 1), (.prop 4)), ((.a 5), (.prop 8))], lk := [] })] } Try.f11 [(.a (.int .i64 (.v 0))), (.a (.sl (.v 1) (.v 2) (.v 3))), (.a (.sl (.v 5) (.v 6) (.v 7)))] [((.a 1), (.prop 4)), ((.a 5), (.prop 8))] 9 = t_chainFind := by kernel_rfl
end Go.Proofs.Ytmibmjehjagmbaa.RX

/- ChainFind, over what came in as assertions. No condition. -/
namespace Go.Proofs.Ytmibmjehjagmbaa
set_option linter.unusedSimpArgs false
set_option linter.unusedVariables false
open Go.Proofs.Ytmibmjehjagmbaa RX

theorem pickIx2 (p : Int) {n : Nat} (h : n ≠ 0) : ∃ k : Nat, k < n ∧ (p % 65536).tmod (n : Int) = k := by
  refine ⟨(p % 65536).toNat % n, Nat.mod_lt _ (by omega), ?_⟩
  have : (p % 65536) = ((p % 65536).toNat : Int) := (Int.toNat_of_nonneg (by omega)).symm
  rw [this]
  rw [Int.toNat_natCast]
  exact Int.ofNat_tmod _ _
theorem undMs : Try.prog.underlying 56 = some (.map 9 4) := by kernel_rfl
theorem infoBo : (Try.prog.info? 4).map (fun i => (i.zero, i.size, i.bytes)) = some (some (.bool false), 1, 1) := by kernel_rfl
theorem sK : KeyEnc Try.prog 9 sE := str_enc (by kernel_rfl)
theorem convW {i : Nat} {S : HP} {a : Option Addr} {n c : Nat} {l : List UInt8} (hr : RdL S a n (l.map u8v)) (hl : l.length = n) : ORead Try.prog (semW (.convert 30 9 (.tmp i)) 9 [(i, .slice a n c)]) S (sE l) := by
  have := conv_ok (ρ := [.v (.slice a n c)]) (i := i) (x := .w (.a (.val 0))) (S := S) (a := a) (n := n) (c := c) (l := l) rfl hr hl
  rw [semW_eq] at this
  exact this
set_option maxRecDepth 100000 in
set_option maxHeartbeats 8000000 in
theorem chainFind_ok (size : Int) (sa : Option Addr) (sc : Nat) (steps : List Step17) (ta : Option Addr) (tc : Nat) (turns : List Int) :
    Tri Try.prog 11 #[.int .i64 size, .slice sa steps.length sc, .slice ta turns.length tc] (HP.sep (Ls kStep17 sa steps.length steps) (Ls kInt ta turns.length turns)) (fun v => HP.pure (v = .bool true)) := by
  refine Tri.fact (φ := (steps.length ≠ 0 → sa.isSome = true) ∧ (turns.length ≠ 0 → ta.isSome = true)) (fun R h H => ⟨fun hn => RoC.some (HP.sep_left H).2.1 (by omega), fun hn => RoC.some (HP.sep_right H).2.1 (by omega)⟩) fun ⟨hsa, hta⟩ => ?_
  refine tri_of_tree (ρ := [.i size, .a sa, .n steps.length, .n sc, .p (Ls kStep17 sa steps.length steps), .a ta, .n turns.length, .n tc, .p (Ls kInt ta turns.length turns)]) mixed Try.func11 tree_chainFind ?_
  unfold t_chainFind
  simp (maxSteps := 10000000) only [T.den, E.prop, E.den, RX.look, F1.app, F2.app, Uni.int_i, Uni.nat_n, Uni.bool_c, Uni.str_s, Uni.adr_a, Uni.val_v, Uni.hp_p, hden, cden, V.den, W.den, A.den, BR.den, SA.den, FV.den, capV, exs, exP, allP, Cur.app, List.map_cons, List.map_nil, List.cons_append, List.nil_append, List.drop_succ_cons, List.drop_zero, List.length_cons, List.length_nil, Nat.zero_add, Nat.reduceAdd, Int.neg_neg, Bool.not_not, List.append_nil, Nat.add_zero, List.getElem?_cons_zero, List.getElem?_cons_succ, Decidable.not_not, semW_eq, semW_load, semW_store, semW_storeC, semW_append, semW_lookup, semW_lookupC, semW_update, semW_updateC, semW_updateK, semW_delete, semW_range, semW_next, semW_entry, semW_nil, ne_eq, Nat.reduceEqDiff, not_false_eq_true, and3, andffff]
  refine speaks17_ok.weak (fun _ _ _ => trivial) ?_
  rintro v R h rfl
  refine ⟨true, rfl, ⟨fun h => absurd rfl h, fun _ => ⟨fun _ => .of fun R h H => trivial, fun h20 => ⟨fun _ => .of fun R h H => trivial, fun h60 => ?_⟩⟩⟩, trivial⟩
  obtain ⟨n, hn⟩ : ∃ n : Nat, size % 4 + 1 = n := ⟨_, (Int.toNat_of_nonneg (by omega)).symm⟩
  have hn1 : 1 ≤ n := by omega
  have hn4 : n ≤ 4 := by omega
  simp (maxSteps := 10000000) only [hn]
  refine ⟨inI64 _ (by omega) (by omega), fun _ => ?_⟩
  refine (laid17_ok n (by omega)).weak (fun _ _ _ => trivial) ?_
  rintro v R h ⟨a, c, l0, ⟨rfl, hl0⟩, H⟩
  have hlen0 : l0.length = n := H.1
  have hasome : a.isSome = true := OwC.some (HP.sep_left H.2) (by omega)
  refine ⟨a, n, c, UnL a n c l0, rfl, ⟨fun h => absurd hasome h, fun _ y => ?_⟩, H⟩
  clear H
  refine ⟨fun ia len cap i P => ∃ k : Nat, i = k ∧ k ≤ n ∧ len = k ∧ ia.isSome = true ∧ ChI P ia k cap, fun _ _ _ i _ => n - i.toNat, ⟨0, rfl, Nat.zero_le _, rfl, rfl, ChI.zero y⟩, ?_⟩
  rintro ia k cap _ P ⟨_, rfl, hk, rfl, hia, hP⟩
  refine ⟨fun hlt z => ?_, fun hge => ?_⟩
  · refine (hP.app (by omega)).weak (fun _ _ h => h) ?_
    rintro v R h ⟨a', c', ⟨rfl, ha'⟩, H⟩
    exact ⟨a', k + 1, c', OwI a' (k + 1) c' (upI (k + 1)), rfl, ⟨inI64 _ (by omega) (by omega), fun _ => ⟨⟨k + 1, by omega, by omega, rfl, ha', ChI.own _ _ _⟩, by first | omega | (dsimp only; omega)⟩⟩, H⟩
  obtain rfl : k = n := by omega
  have rI := hP.rd (by omega) hia
  have h5 : addrOk 5 = true := by decide
  have hnone : ∀ q y, ¬ stands l0 q 5 y := fun q y ⟨u, hu, hc⟩ => by
    rw [(hl0 u (List.mem_of_getElem? hu)).1] at hc; cases hc
  have mkR : OpOk k l0 { beginC 5 (upI k) with step := 1, place := (k : Int) - 1 } ∧ SortC (MayC []) 5 l0 { beginC 5 (upI k) with step := 1, place := (k : Int) - 1 } ∧ ResC { beginC 5 (upI k) with step := 1, place := (k : Int) - 1 } := by
    have h1 : OpOk k l0 { beginC 5 (upI k) with step := 1, place := ((upI k).length : Int) - 1 } := resolveC_ok hn1 h5 rfl
    rw [upI_len] at h1
    have hst : ({ beginC 5 (upI k) with step := 1, place := (k : Int) - 1 } : OpS).state = 1 := by
      show (if (upI k).length = 0 then (3 : Int) else 1) = 1
      rw [upI_len, if_neg (by omega)]
    refine ⟨h1, ⟨fun q y hy => absurd hy (hnone q y), rfl, ?_⟩, by rw [hst]; decide, fun _ h => absurd (show (1 : Int) = 0 from h) (by decide)⟩
    rintro (⟨_, h⟩ | h)
    · exact absurd (show (1 : Int) = 0 from h) (by decide)
    · rw [hst] at h; exact absurd h (by decide)
  refine (cResolve_ok 5 ia k cap (upI k) P rI (upI_len k) (by omega)).weak (fun _ _ h => h) ?_
  rintro v R h ⟨b0, rfl, H⟩
  refine ⟨b0, ORep b0 { beginC 5 (upI k) with step := 1, place := (k : Int) - 1 }, rfl, ?_, HP.sep_comm H⟩
  clear H
  refine (cResolve_ok 5 ia k cap (upI k) P rI (upI_len k) (by omega)).weak (fun _ _ h => h) ?_
  rintro v R h ⟨b1, rfl, H⟩
  refine ⟨b1, ORep b1 { beginC 5 (upI k) with step := 1, place := (k : Int) - 1 }, rfl, fun xb mb => ?_, HP.sep_comm H⟩
  clear H
  obtain ⟨r1, r2, r3⟩ := mkR
  generalize ({ beginC 5 (upI k) with step := 1, place := (k : Int) - 1 } : OpS) = oR at *
  refine ⟨fun _ ea en ec i M Q => ∃ (j : Nat) (es : List OpF) (lm : AL (List UInt8)) (cm : Nat), i = j ∧ j ≤ steps.length ∧ en = es.length ∧ ea.isSome = true ∧ es.length ≤ j + 2 ∧ M = HP.one mb (mapObj sE lm cm) ∧ HP.ent Q (PL kOf ea en ec es) ∧ FindI k l0 es lm 0,
    fun _ _ _ _ i _ _ => steps.length - i.toNat,
    ⟨0, [⟨b0, oR⟩, ⟨b1, oR⟩], [], 0, rfl, Nat.zero_le _, rfl, rfl, Nat.le_refl _, rfl, .of fun R h H => PL.lit (K := kOf) xb [⟨b0, oR⟩, ⟨b1, oR⟩] (by simp) H,
      hlen0, new_ok hl0, Nat.le_refl _, fun e he => ?_, fun i e hi he => ?_⟩, ?_⟩
  · simp at he
    rcases he with rfl | rfl <;> exact ⟨r1, r2⟩
  · have : i = 0 ∨ i = 1 := by omega
    rcases this with rfl | rfl <;> (simp at he; subst he; exact r3)
  rintro _ ea _ ec _ _ Q ⟨j, es, lm, cm, rfl, hj, rfl, hea, hesj, rfl, hQ, hI⟩
  refine ⟨fun hlt => ⟨by omega, fun _ => ⟨hsa (by omega), fun _ => ?_⟩⟩, fun hge => ?_⟩
  · have hjl : j < steps.length := by omega
    have hgj : steps[j]? = some steps[j] := List.getElem?_eq_getElem hjl
    generalize steps[j] = s at hgj
    have rS : RdL (Ls kStep17 sa steps.length steps) s.dataa s.data.length (s.data.map u8v) := RdL.imp fun R y H => (H.2.2 s (List.mem_of_getElem? hgj)).2.2.2
    refine ⟨_, _, _, _, _, _, _, Step17.load (a := sa) (n := steps.length) hgj, fun _ => ⟨fun _ => .of fun R h H => trivial, fun hs100 => ?_⟩⟩
    refine (cAppend_ok 5 ia k cap (upI k) P rI (upI_len k) (by omega) 1 s.dataa _ s.datac s.data (Ls kStep17 sa steps.length steps) rS rfl (by omega)).weak (fun _ _ h => h) ?_
    rintro v R h ⟨b, rfl, H⟩
    have hO : OpOk k l0 { beginC 5 (upI k) with cell := ⟨1, s.data⟩ } := appendC_ok hn1 h5 (by simp [standB]; omega) rfl
    have hI2 := fun c' => hI.add (e := ⟨b, { beginC 5 (upI k) with cell := ⟨1, s.data⟩ }⟩) (d := s.data) (c := c') hO rfl rfl
    generalize ({ beginC 5 (upI k) with cell := ⟨1, s.data⟩ } : OpS) = o at *
    refine ⟨b, ORep b o, rfl, fun z => ?_, HP.pick [_, _, _] [2, 0, 1] (by decide) rfl H⟩
    clear H
    refine ((appendF ea es.length ec es z ⟨b, o⟩ HP.tt (by omega)).pre ((hQ.sep _).trans (.of fun R h H => HP.sep_mono H (fun _ h => h) fun y hy => HP.sep_mono hy (fun _ h => h) fun w hw => HP.sep_tt hw))).weak (fun _ _ h => h) ?_
    rintro v R h ⟨a', c', rfl, H2⟩
    have hs' := PL.isAt (HP.sep_left H2) (by omega)
    refine ⟨a', es.length + 1, c', PL kOf a' (es.length + 1) c' (es ++ [⟨b, o⟩]), rfl, ⟨s.data, convW rS rfl, ?_⟩, HP.sep_left H2⟩
    clear H2
    refine (upd_ok (r := mb) (l := lm) (c := cm) sK undMs s.data (.bool true)).weak (fun _ _ h => h) ?_
    rintro v R h ⟨rfl, H⟩
    exact ⟨_, rfl, ⟨inI64 _ (by omega) (by omega), fun _ => ⟨⟨j + 1, es ++ [⟨b, o⟩], _, _, by omega, by omega, by simp, hs', by simp; omega, rfl, .refl _, hI2 cm⟩, by first | omega | (dsimp only; omega)⟩⟩, H⟩
  -- turns
  have hjd : j = steps.length := by omega
  have place : ∀ {l : List UR} {o : OpS}, OpOk k l o → o.state = 1 → 0 ≤ o.place ∧ o.place < o.us.length := fun {l o} hO h1 => by
    have := hO.place hn1 h1
    rw [hO.us]; simpa using this
  have uslen : ∀ {l : List UR} {o : OpS}, OpOk k l o → o.us.length ≤ 1000 := fun {l o} hO => by
    rw [hO.us]; simp; omega
  -- an Op of the list asks
  have hjoin : ∀ (es : List OpF) (q : Nat) (e : OpF) (o' : OpS), es[q]? = some e → ∀ R h, (HP.sep (PRest kOf ea es.length ec es q) (ORep e.ob o')).p R h → (PL kOf ea (es.set q { e with o := o' }).length ec (es.set q { e with o := o' })).p R h := fun es q e o' hq R h H => by
    have := PL.join (K := kOf) (y := { e with o := o' }) hq rfl H
    rw [List.length_set]
    exact this
  have hlenE : es.length = es.length := rfl
  generalize hN : es.length = N at *
  refine ⟨fun i Q U => ∃ (t : Nat) (l : List UR) (es : List OpF), i = t ∧ t ≤ turns.length ∧ es.length = N ∧ HP.ent Q (PL kOf ea N ec es) ∧ U = UnL a k c l ∧ FindI k l es lm t, fun i _ _ => turns.length - i.toNat,
    ⟨0, l0, es, rfl, Nat.zero_le _, hN, hQ, rfl, hI⟩, ?_⟩
  rintro _ Q _ ⟨t, l, es, rfl, ht, hesN, hQ, rfl, hI⟩
  have hN2 : 2 ≤ N := by rw [← hesN]; exact hI.two
  refine ⟨fun hlt => ⟨by omega, fun _ => ⟨hta (by omega), fun _ => ?_⟩⟩, fun hge => ?_⟩
  · have htl : t < turns.length := by omega
    have hgt : turns[t]? = some turns[t] := List.getElem?_eq_getElem htl
    generalize turns[t] = p at hgt
    have hrt : ORead Try.prog (loadS 3 (.pointer (ta.map fun y => (y.add ((t : Int).toNat * 1)).add 0))) (Ls kInt ta turns.length turns) (.int .i64 p) := Ls.load1 (K := kInt) undIb aggI szI (off := 0) hgt rfl
    obtain ⟨q, hq, hqe⟩ := pickIx2 p (n := N) (by omega)
    refine ⟨p, hrt, ?_⟩
    simp only [hqe, Int.toNat_natCast]
    have hgq : es[q]? = some es[q] := List.getElem?_eq_getElem (by omega)
    generalize es[q] = e at hgq
    have hOe := (hI.ops e (List.mem_of_getElem? hgq)).1
    refine ⟨by omega, fun _ => ⟨by omega, fun _ => ⟨by omega, fun _ => ⟨hea, fun _ => ?_⟩⟩⟩⟩
    refine ((loadF (k := q) hgq).pre hQ).weak (fun _ _ h => h) ?_
    rintro v R h ⟨rfl, H⟩
    refine ⟨e.ob, ORep e.ob e.o, PRest kOf ea N ec es q, rfl, ?_, H⟩
    clear H
    refine (ask17_ok e.ob e.o a k c l (place hOe) (uslen hOe)).weak (fun _ _ h => h) ?_
    rintro v R h ⟨rfl, H⟩
    refine ⟨_, ORep e.ob (askS e.o l).2.1, UnL a k c (askS e.o l).2.2, rfl, ⟨inI64 _ (by omega) (by omega), fun _ => ⟨⟨t + 1, _, _, by omega, by omega, by simpa using hesN, .of fun R h H => ?_, rfl, hI.ask hn1 (by omega) hgq⟩, by first | omega | (dsimp only; omega)⟩⟩, H⟩
    have := hjoin es q e (askS e.o l).2.1 hgq R h (by rw [hesN]; exact H)
    rw [List.length_set, hesN] at this
    exact this
  -- the two are asked on
  refine ⟨fun i Q U => ∃ (i' : Nat) (l : List UR) (es : List OpF), i = i' ∧ i' ≤ 2 ∧ es.length = N ∧ HP.ent Q (PL kOf ea N ec es) ∧ U = UnL a k c l ∧ FindI k l es lm (60 + 10 * i') ∧ ∀ d e, d < i' → es[d]? = some e → e.o.state = 2, fun i _ _ => 2 - i.toNat,
    ⟨0, l, es, rfl, by omega, hesN, hQ, rfl, ?_, fun d e hd => by omega⟩, ?_⟩
  · have more : ∀ d, FindI k l es lm (t + d) := fun d => by
      induction d with
      | zero => exact hI
      | succ d ih => exact ih.more
    have := more (60 - t)
    rw [show t + (60 - t) = 60 + 10 * 0 by omega] at this
    exact this
  clear hQ hI hesN
  rintro _ Q _ ⟨i, l, es, rfl, hi2, hesN, hQ, rfl, hI, hdone⟩
  refine ⟨fun hlt => ?_, fun hge => ?_⟩
  · refine ⟨fun q Q U => ∃ (q' : Nat) (l : List UR) (es : List OpF), q = q' ∧ q' ≤ k + 2 ∧ es.length = N ∧ HP.ent Q (PL kOf ea N ec es) ∧ U = UnL a k c l ∧ FindI k l es lm (60 + 10 * i + q') ∧ (∀ d e, d < i → es[d]? = some e → e.o.state = 2) ∧ ∀ e, es[i]? = some e → q' + leftC k e.o ≤ k + 2, fun q _ _ => 9 - q.toNat,
      ⟨0, l, es, rfl, by omega, hesN, hQ, rfl, hI, hdone, fun e he => by have := left_le (hI.ops e (List.mem_of_getElem? he)).1; omega⟩, ?_⟩
    clear hQ hI hesN hdone
    rintro _ Q _ ⟨q, l, es, rfl, hq, hesN, hQ, rfl, hI, hdone, hleft⟩
    have hgi : es[i]? = some es[i] := List.getElem?_eq_getElem (by omega)
    generalize es[i] = e at hgi
    have hOe := (hI.ops e (List.mem_of_getElem? hgi)).1
    have hRe := hI.res i e (by omega) hgi
    have fin : ∀ (l' : List UR) (es' : List OpF) (Q' : HP) (u : Nat), u ≤ 10 → es'.length = N → HP.ent Q' (PL kOf ea N ec es') → FindI k l' es' lm (60 + 10 * i + u) → (∀ d e, d < i → es'[d]? = some e → e.o.state = 2) → (∀ e, es'[i]? = some e → e.o.state = 2) → ∃ (i' : Nat) (l : List UR) (es : List OpF), (i : Int) + 1 = i' ∧ i' ≤ 2 ∧ es.length = N ∧ HP.ent Q' (PL kOf ea N ec es) ∧ UnL a k c l' = UnL a k c l ∧ FindI k l es lm (60 + 10 * i') ∧ ∀ d e, d < i' → es[d]? = some e → e.o.state = 2 := fun l' es' Q' u hu h1 h2 h3 h4 h5 => by
      have more : ∀ d, FindI k l' es' lm (60 + 10 * i + u + d) := fun d => by
        induction d with
        | zero => exact h3
        | succ d ih => exact ih.more
      have := more (10 - u)
      rw [show 60 + 10 * i + u + (10 - u) = 60 + 10 * (i + 1) by omega] at this
      refine ⟨i + 1, l', es', by omega, by omega, h1, h2, rfl, this, fun d e hd he => ?_⟩
      rcases Nat.lt_or_ge d i with h | h
      · exact h4 d e h he
      · obtain rfl : d = i := by omega
        exact h5 e he
    have st2 : ∀ (l : List UR) (o : OpS), OpOk k l o → ResC o → o.state ≠ 1 → o.state = 2 := fun l o hO hR h1 => by
      rcases hO.state with h | h | h
      · exact absurd h h1
      · exact h
      · exact absurd h hR.1
    refine ⟨inI64 _ (by omega) (by omega), fun _ => ⟨fun hqk => ⟨by omega, fun _ => ⟨by omega, fun _ => ⟨hea, fun _ => ?_⟩⟩⟩, fun hqk => ⟨inI64 _ (by omega) (by omega), fun _ => ⟨fin l es Q q (by omega) hesN hQ hI hdone fun e' he' => ?_, by first | omega | (dsimp only; omega)⟩⟩⟩⟩
    · refine ((loadF (k := i) hgi).pre hQ).weak (fun _ _ h => h) ?_
      rintro v R h ⟨rfl, H⟩
      refine ⟨e.ob, ORep e.ob e.o, PRest kOf ea N ec es i, rfl, ?_, H⟩
      clear H
      refine (ask17_ok e.ob e.o a k c l (place hOe) (uslen hOe)).weak (fun _ _ h => h) ?_
      rintro v R h ⟨rfl, H⟩
      have hI' := hI.ask hn1 (by omega) hgi
      have hQ' : HP.ent (HP.sep (PRest kOf ea N ec es i) (ORep e.ob (askS e.o l).2.1)) (PL kOf ea N ec (es.set i { e with o := (askS e.o l).2.1 })) := .of fun R h H => by
        have := hjoin es i e (askS e.o l).2.1 hgi R h (by rw [hesN]; exact H)
        rw [List.length_set, hesN] at this
        exact this
      have hdone' : ∀ d e', d < i → (es.set i { e with o := (askS e.o l).2.1 })[d]? = some e' → e'.o.state = 2 := fun d e' hd he' => by
        rw [List.getElem?_set, if_neg (by omega)] at he'
        exact hdone d e' hd he'
      have hself : ∀ e', (es.set i { e with o := (askS e.o l).2.1 })[i]? = some e' → e'.o = (askS e.o l).2.1 := fun e' he' => by
        rw [List.getElem?_set, if_pos rfl, if_pos (by omega)] at he'
        cases he'; rfl
      obtain ⟨_, _, _, _, c4, c5⟩ := ask_any hI.len hn1 hI.units (by omega) hOe
      refine ⟨_, ORep e.ob (askS e.o l).2.1, UnL a k c (askS e.o l).2.2, rfl, ⟨fun hy => ?_, fun hno => ?_⟩, H⟩
      · have hd := ask_left hI.len hn1 hI.units (by omega) hOe (c4.1 hy)
        have hl0 := hleft e hgi
        exact ⟨inI64 _ (by omega) (by omega), fun _ => ⟨⟨q + 1, _, _, by omega, by omega, by simpa using hesN, hQ', rfl, hI', hdone', fun e' he' => by rw [hself e' he']; omega⟩, by first | omega | (dsimp only; omega)⟩⟩
      · have h1 : e.o.state ≠ 1 := fun h => hno (c4.2 h)
        refine ⟨inI64 _ (by omega) (by omega), fun _ => ⟨fin _ _ _ (q + 1) (by omega) (by simpa using hesN) hQ' hI' hdone' fun e' he' => ?_, by first | omega | (dsimp only; omega)⟩⟩
        rw [hself e' he', c5 h1]
        exact st2 l e.o hOe hRe h1
    · rw [hgi] at he'
      cases he'
      have := hleft e hgi
      exact st2 l e.o hOe hRe (left_zero hn1 hOe (by omega))
  -- what both have found
  obtain ⟨x, y, r, rfl⟩ : ∃ x y r, es = x :: y :: r := by
    match es, hI.two with
    | x :: y :: r, _ => exact ⟨x, y, r, rfl⟩
  have hx2 := hdone 0 x (by omega) rfl
  have hy2 := hdone 1 y (by omega) rfl
  obtain ⟨hOx, hMx⟩ := hI.ops x (by simp)
  obtain ⟨hOy, hMy⟩ := hI.ops y (by simp)
  have hxy : x.o.cell = y.o.cell := done_one hOx hOy hx2 hy2 (hMx.2.1.trans hMy.2.1.symm)
  have hdx : doneC x.o = x.o.cell := by unfold doneC; rw [if_pos hx2]
  have hdy : doneC y.o = x.o.cell := by unfold doneC; rw [if_pos hy2, hxy]
  have hmz := hMx.2.2 (.inr hx2)
  have hbz : x.o.cell.data.length ≤ 140737488355328 := by
    obtain ⟨u, hu, hc⟩ := hOx.done hx2
    have := hI.units.valid _ _ _ _ hu hc
    unfold standB at this
    split at this
    · have := of_decide_eq_true this; omega
    · split at this
      · have := of_decide_eq_true this; omega
      · cases this
  have hQ2 : HP.ent Q (HP.sep (FX ea N ec x y r) (HP.sep (ORep x.ob x.o) (ORep y.ob y.o))) := hQ.trans (.of fun R h H => PL.two H)
  generalize hz : x.o.cell = z at *
  have hsame : ∀ (ra : Option Addr) (rc : Nat) (ya : Option Addr) (yc : Nat) (B : Value → HP),
      (∀ R h, (HP.sep (RoB ra z.data.length z.data) (RoB ya z.data.length z.data)).p R h → (B (.bool true)).p R h) →
      Tri Try.prog 21 #[.agg #[.int .i64 z.what, .slice ra z.data.length rc], .agg #[.int .i64 z.what, .slice ya z.data.length yc]] (HP.sep (RoB ra z.data.length z.data) (RoB ya z.data.length z.data)) B := fun ra rc ya yc B hB => by
    refine (sameCell_ok z.what ra _ rc z.data z.what ya _ yc z.data (RoB ra z.data.length z.data) (RoB ya z.data.length z.data) (RdL.ro _ _ _ _) (RdL.ro _ _ _ _) rfl rfl hbz).weak (fun _ _ h => h) ?_
    rintro v R h ⟨rfl, H⟩
    rw [decide_eq_true ⟨rfl, rfl⟩]
    exact hB R h H
  have hlook : z.what ≠ 2 → z.what = 1 ∧ ORead Try.prog (lookS 56 (.map (some mb)) (sE z.data) false) (HP.one mb (mapObj sE lm cm)) (.bool true) := fun h => by
    rcases hmz with e | ⟨e1, e2⟩
    · rw [e] at h; exact absurd rfl h
    · obtain ⟨iz, hiz, hz1, _, _⟩ := info_parts infoBo
      have := look_ok (c := cm) sK undMs hiz hz1 z.data false (r := mb) (l := lm) (A := HP.one mb (mapObj sE lm cm)) fun R h H => H
      rw [e2] at this
      exact ⟨e1, this⟩
  have rd := FX.rd ea N ec x y r
  have hv0 : (x.ptr :: y.ptr :: r.map OpF.ptr)[0]? = some x.ptr := rfl
  have hv1 : (x.ptr :: y.ptr :: r.map OpF.ptr)[1]? = some y.ptr := rfl
  generalize hFX : FX ea N ec x y r = X at *
  have cx := cCell_ok x.ob x.o
  have cy := cCell_ok y.ob y.o
  have sx := cState_ok x.ob x.o
  have sy := cState_ok y.ob y.o
  rw [hdx] at cx
  rw [hdy] at cy
  rw [hx2] at sx
  rw [hy2] at sy
  generalize hAx : ORep x.ob x.o = Ax at *
  generalize hAy : ORep y.ob y.o = Ay at *
  refine ⟨fun _ _ wy ya yn _ wx xa xn _ P1 P2 P3 => wy = z.what ∧ yn = z.data.length ∧ wx = z.what ∧ xn = z.data.length ∧ P1 = RoB ya z.data.length z.data ∧ HP.ent P2 (HP.sep X (HP.sep Ax Ay)) ∧ P3 = RoB xa z.data.length z.data, ?_, ?_⟩
  · simp only [RX.look, List.drop_succ_cons, List.drop_zero, Uni.nat_n, Uni.int_i, Uni.adr_a, Uni.hp_p, List.getElem?_cons_zero, show Int.toNat 0 = 0 from rfl, show Int.toNat 1 = 1 from rfl]
    refine ⟨by omega, fun _ => ⟨hea, fun _ => ⟨by omega, fun _ => ?_⟩⟩⟩
    repeat' (first
      | with_reducible intro (_ : Nat)
      | exact ⟨rfl, rfl, rfl, rfl, rfl, .of fun R h H => HP.pick [_, _, _] [0, 1, 2] (by decide) rfl H, rfl⟩
      | exact ⟨rfl, rfl, rfl, rfl, rfl, .of fun R h H => HP.pick [_, _, _] [0, 2, 1] (by decide) rfl H, rfl⟩
      | with_reducible refine And.intro ?_ ?_
      | (with_reducible refine cx.weak (fun _ _ h => h) ?_
         rintro v R h ⟨xa, xc, rfl, H⟩
         refine ⟨_, xa, _, xc, RoB xa _ _, rfl, ?_, H⟩
         clear H)
      | (with_reducible refine cy.weak (fun _ _ h => h) ?_
         rintro v R h ⟨ya, yc, rfl, H⟩
         refine ⟨_, ya, _, yc, RoB ya _ _, rfl, ?_, H⟩
         clear H)
      | (with_reducible refine OTri.pre (A := HP.sep X (HP.sep Ax Ay)) ?_ hQ2
         refine loadG (S := HP.sep X (HP.sep Ax Ay)) (k := 0) (Rd.left rd) rfl fun R h H => ⟨x.ob, Ax, HP.sep X Ay, rfl, ?_, HP.pick [_, _, _] [1, 0, 2] (by decide) rfl H⟩
         clear H)
      | (with_reducible refine OTri.pre (A := HP.sep X (HP.sep Ax Ay)) ?_ hQ2
         refine loadG (S := HP.sep X (HP.sep Ax Ay)) (k := 1) (Rd.left rd) rfl fun R h H => ⟨y.ob, Ay, HP.sep X Ax, rfl, ?_, HP.pick [_, _, _] [2, 0, 1] (by decide) rfl H⟩
         clear H)
      | (with_reducible refine OTri.pre (A' := HP.sep (HP.sep X Ay) Ax) (A := HP.sep (HP.sep X Ay) Ax) ?_ (HP.ent.refl _)
         refine loadG (S := HP.sep (HP.sep X Ay) Ax) (k := 1) (Rd.left (Rd.left rd)) hv1 fun R h H => ⟨y.ob, Ay, X, Ax, rfl, ?_, HP.pick [_, _, _] [1, 0, 2] (by decide) rfl (HP.sep_assoc H)⟩
         clear H)
      | (with_reducible refine OTri.pre (A' := HP.sep (HP.sep X Ax) Ay) (A := HP.sep (HP.sep X Ax) Ay) ?_ (HP.ent.refl _)
         refine loadG (S := HP.sep (HP.sep X Ax) Ay) (k := 0) (Rd.left (Rd.left rd)) hv0 fun R h H => ⟨x.ob, Ax, X, Ay, rfl, ?_, HP.pick [_, _, _] [1, 0, 2] (by decide) rfl (HP.sep_assoc H)⟩
         clear H)
      | fail)
  · rintro _ _ _ ya _ yc _ xa _ xc P1 P2 P3 ⟨rfl, rfl, rfl, rfl, rfl, h2, rfl⟩
    refine ⟨by omega, fun _ => ⟨hea, fun _ => ?_⟩⟩
    refine OTri.pre (A := HP.sep X (HP.sep Ax Ay)) ?_ h2
    refine loadG (S := HP.sep X (HP.sep Ax Ay)) (k := 0) (Rd.left rd) rfl fun R h H => ⟨x.ob, Ax, HP.sep X Ay, rfl, ?_, HP.pick [_, _, _] [1, 0, 2] (by decide) rfl H⟩
    clear H
    refine sx.weak (fun _ _ h => h) ?_
    rintro v R h ⟨rfl, H⟩
    refine ⟨2, rfl, ⟨fun h => absurd rfl h, fun _ => ⟨by omega, fun _ => ?_⟩⟩, H⟩
    clear H
    refine loadG (S := HP.sep (HP.sep X Ay) Ax) (k := 1) (Rd.left (Rd.left rd)) hv1 fun R h H => ⟨y.ob, Ay, X, Ax, rfl, ?_, HP.pick [_, _, _] [1, 0, 2] (by decide) rfl (HP.sep_assoc H)⟩
    clear H
    refine sy.weak (fun _ _ h => h) ?_
    rintro v R h ⟨rfl, H⟩
    refine ⟨2, rfl, ⟨fun h => absurd rfl h, fun _ => ?_⟩, H⟩
    clear H
    refine hsame xa xc ya yc _ fun R h H => ?_
    refine ⟨true, rfl, ⟨fun h => absurd rfl h, fun _ => ⟨fun _ => .of fun R h H => trivial, fun h2 => ?_⟩⟩, H⟩
    clear H
    obtain ⟨e1, hl⟩ := hlook h2
    exact ⟨fun _ => ⟨z.data, convW (RdL.ro _ _ _ _) rfl, true, hl, .of fun R h H => rfl⟩, fun h => absurd e1 h⟩
end Go.Proofs.Ytmibmjehjagmbaa

/- What comes into ChainFind, and its walk. No condition. -/
namespace Go.Proofs.Ytmibmjehjagmbaa
open Go.RowKit Go.ChangeShapes Go.WideShapes Go.Deep RX

set_option maxRecDepth 100000 in
theorem chainFind_walk {H : Type} (enc : TypeId × Value → H) (base : Nat) (v0 v1 v2 : Value) (w : World)
    (k0 : Value.okWide Try.prog w .any base 3 v0) (h0 : ∃ d p, DataW.Trod enc Try.prog w 0 (fun _ => true) true 3 v0 d p ∧ Small Try.prog 3 d)
    (k1 : Value.okWide Try.prog w .any base 84 v1) (h1 : ∃ d p, DataW.Trod enc Try.prog w 0 (fun _ => true) true 84 v1 d p ∧ Small Try.prog 84 d)
    (k2 : Value.okWide Try.prog w .any base 86 v2) (h2 : ∃ d p, DataW.Trod enc Try.prog w 0 (fun _ => true) true 86 v2 d p ∧ Small Try.prog 86 d) :
    Calls Try.prog 11 #[v0, v1, v2] w fun e w' => e = .returned (.bool true) ∧ Below w.heap.size w w' := by
  obtain ⟨n0, rfl, r0⟩ := int_openR k0 h0
  obtain ⟨a1, l1, c1, rfl, b1, z1⟩ := slice_open kStep17 Try.underlying84 (by kernel_rfl) (of_decide_eq_true (by kernel_rfl)) Step17.of_trod k1 h1
  obtain ⟨a2, l2, c2, rfl, b2, z2⟩ := slice_open kInt Try.underlying86 (by kernel_rfl) (of_decide_eq_true (by kernel_rfl)) kInt_trod k2 h2
  exact Tri.run (chainFind_ok n0 a1 c1 l1 a2 c2 l2) ⟨PH.none', PH.none', PH.dj_none _, PH.le.refl _, PH.le.refl _, z1 _, z2 _⟩
end Go.Proofs.Ytmibmjehjagmbaa
