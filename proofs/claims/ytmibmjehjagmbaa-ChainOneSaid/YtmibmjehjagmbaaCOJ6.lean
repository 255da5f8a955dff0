/- Texts of this claim, joined: TrLawCO, ChainOC, ChainOW. No condition. -/
import Derived.Test.YtmibmjehjagmbaaCOJ1
import Derived.Test.YtmibmjehjagmbaaCOJ5
import Derived.KernelRfl
set_option linter.unusedSimpArgs false
set_option linter.unusedVariables false
/- Trees of functions, printed by rx.lean. No condition. -/
namespace Go.Proofs.Ytmibmjehjagmbaa.RX
set_option maxRecDepth 100000
-- tideline/tidelinelaw17.ChainOne: ρ := [.i size, .a stepsa, .n stepsl, .n stepsc, .p stepsP]
def t_chainOne : T :=
(.call 47 [] [] [.c] (.w (.a (.bool (.v 5)))) []
(.br (.o1 .not (.v 5))
 (.ret (.w (.a (.bool (.c false)))) [((.a 1), (.prop 4))])
 (.br (.o2 .lt (.i 120) (.o1 .ofNat (.v 2)))
  (.ret (.w (.a (.bool (.c true)))) [((.a 1), (.prop 4))])
  (.need (.o1 (.inr .i64) (.o2 .add (.o2 (.bit .and .i64) (.v 0) (.i 3)) (.i 1)))
  (.call 48 [(.a (.int .i64 (.o2 .add (.o2 (.bit .and .i64) (.v 0) (.i 3)) (.i 1))))] [] [.a, .n, .n, .p] (.w (.a (.sl (.v 6) (.v 7) (.v 8)))) [((.a 6), (.prop 9))]
  (.br (.o1 .not (.o1 .isSome (.v 6)))
   (.ret (.w (.a (.bool (.c false)))) [((.a 1), (.prop 4))])
   (.new
   (.loop [.a, .n, .n, .i, .p] [(.a (.b (.v 10) 0)), (.e (.o2 .nadd (.n 0) (.n 0))), (.e (.o2 .nadd (.n 0) (.n 0))), (.e (.o1 .neg (.o1 .neg (.i 0)))), (.p [((.b (.v 10)), (.cells [] 3))])]
    (.br (.o2 .lt (.v 14) (.o2 .add (.o2 (.bit .and .i64) (.v 0) (.i 3)) (.i 1)))
     (.new
     (.op (.call ⟨.builtin .append, #[(.tmp 42), (.tmp 44)], #[86, 86]⟩) 86 [(42, (.w (.a (.sl (.v 11) (.v 12) (.v 13))))), (44, (.w (.a (.sl (.b (.v 16) 0) (.n 1) (.n 1)))))] [((.a 11), (.prop 15)), ((.b (.v 16)), (.cells [(.int .i64 (.v 14))] 3))] [.a, .n, .n, .p] (.w (.a (.sl (.v 17) (.v 18) (.v 19)))) [((.a 17), (.prop 20)), ((.b (.v 16)), (.cells [(.int .i64 (.v 14))] 3))]
     (.need (.o1 (.inr .i64) (.o2 .add (.v 14) (.i 1)))
     (.again 0 [(.a (.v 17)), (.e (.o2 .nadd (.v 18) (.n 0))), (.e (.o2 .nadd (.v 19) (.n 0))), (.e (.o1 .neg (.o1 .neg (.o2 .add (.v 14) (.i 1))))), (.p [((.a 17), (.prop 20))])]))))
     (.new
     (.new
     (.loop [.c, .a, .n, .n, .i, .p, .p, .p] [(.e (.o1 .not (.o1 .not (.c false)))), (.a (.b (.v 16) 0)), (.e (.o2 .nadd (.n 0) (.n 0))), (.e (.o2 .nadd (.n 0) (.n 0))), (.e (.o1 .neg (.o1 .neg (.i 0)))), (.p [((.b (.v 17)), .emap)]), (.p [((.b (.v 16)), (.cells [] 94))]), (.p [((.a 6), (.prop 9))])]
      (.br (.o2 .lt (.v 22) (.o1 .ofNat (.v 2)))
       (.need (.o2 .le (.i 0) (.v 22))
       (.need (.o1 .isSome (.v 1))
       (.read (.load 90 (.tmp 52)) 90 [(52, (.w (.a (.eptr 1 (.v 22) 5 0))))] [((.a 1), (.prop 4))] [.c, .c, .i, .i, .a, .n, .n] (.w (.agg [(.bool (.v 26)), (.bool (.v 27)), (.int .i64 (.v 28)), (.int .i64 (.v 29)), (.sl (.v 30) (.v 31) (.v 32))]))
       (.new
       (.br (.o2 .lt (.i 100) (.o1 .ofNat (.v 31)))
        (.ret (.w (.a (.bool (.c true)))) [((.a 1), (.prop 4))])
        (.br (.v 26)
         (.new
         (.br (.v 27)
          (.call 49 [(.a (.int .i64 (.o2 (.bit .and .i64) (.v 29) (.i 3)))), (.a (.sl (.v 11) (.v 12) (.v 13)))] [((.a 11), (.prop 15))] [.n, .p] (.w (.a (.ptr (.v 35) 0))) [((.b (.v 35)), (.prop 36)), ((.a 11), (.prop 15))]
          (.new
          (.op (.call ⟨.builtin .append, #[(.tmp 68), (.tmp 73)], #[87, 87]⟩) 87 [(68, (.w (.a (.sl (.v 19) (.v 20) (.v 21))))), (73, (.w (.a (.sl (.b (.v 37) 0) (.n 1) (.n 1)))))] [((.a 19), (.prop 24)), ((.b (.v 37)), (.cells [(.ptr (.v 35) 0), .nilp] 94)), ((.b (.v 35)), (.prop 36))] [.a, .n, .n, .p] (.w (.a (.sl (.v 38) (.v 39) (.v 40)))) [((.a 38), (.prop 41))]
          (.need (.o1 (.inr .i64) (.o2 .add (.v 22) (.i 1)))
          (.again 0 [(.e (.o1 .not (.o1 .not (.v 18)))), (.a (.v 38)), (.e (.o2 .nadd (.v 39) (.n 0))), (.e (.o2 .nadd (.v 40) (.n 0))), (.e (.o1 .neg (.o1 .neg (.o2 .add (.v 22) (.i 1))))), (.p [((.b (.v 17)), (.prop 23))]), (.p [((.a 38), (.prop 41))]), (.p [((.a 6), (.prop 25))])])))))
          (.call 50 [(.a (.int .i64 (.o2 (.bit .and .i64) (.v 29) (.i 3)))), (.a (.sl (.v 11) (.v 12) (.v 13))), (.agg [(.int .i64 (.i 1)), (.sl (.v 30) (.v 31) (.v 32))])] [((.a 11), (.prop 15)), ((.a 1), (.prop 4))] [.n, .p] (.w (.a (.ptr (.v 35) 0))) [((.b (.v 35)), (.prop 36)), ((.a 11), (.prop 15)), ((.a 1), (.prop 4))]
          (.new
          (.op (.call ⟨.builtin .append, #[(.tmp 75), (.tmp 81)], #[87, 87]⟩) 87 [(75, (.w (.a (.sl (.v 19) (.v 20) (.v 21))))), (81, (.w (.a (.sl (.b (.v 37) 0) (.n 1) (.n 1)))))] [((.a 19), (.prop 24)), ((.b (.v 37)), (.cells [(.ptr (.v 35) 0), (.ptr (.v 34) 0)] 94)), ((.b (.v 35)), (.prop 36)), ((.b (.v 34)), (.cells [(.int .i64 (.i 1)), (.sl (.v 30) (.v 31) (.v 32))] 32)), ((.a 1), (.prop 4))] [.a, .n, .n, .p] (.w (.a (.sl (.v 38) (.v 39) (.v 40)))) [((.a 38), (.prop 41)), ((.a 1), (.prop 4))]
          (.need (.o1 (.inr .i64) (.o2 .add (.v 22) (.i 1)))
          (.again 0 [(.e (.o1 .not (.o1 .not (.v 18)))), (.a (.v 38)), (.e (.o2 .nadd (.v 39) (.n 0))), (.e (.o2 .nadd (.v 40) (.n 0))), (.e (.o1 .neg (.o1 .neg (.o2 .add (.v 22) (.i 1))))), (.p [((.b (.v 17)), (.prop 23))]), (.p [((.a 38), (.prop 41))]), (.p [((.a 6), (.prop 25))])])))))))
         (.br (.o2 .eq (.o1 .ofNat (.v 20)) (.i 0))
          (.need (.o1 (.inr .i64) (.o2 .add (.v 22) (.i 1)))
          (.again 0 [(.e (.o1 .not (.o1 .not (.v 18)))), (.a (.v 19)), (.e (.o2 .nadd (.v 20) (.n 0))), (.e (.o2 .nadd (.v 21) (.n 0))), (.e (.o1 .neg (.o1 .neg (.o2 .add (.v 22) (.i 1))))), (.p [((.b (.v 17)), (.prop 23))]), (.p [((.a 19), (.prop 24))]), (.p [((.a 6), (.prop 25))])]))
          (.need (.o2 .le (.i 0) (.o2 .rem (.o2 (.bit .and .i64) (.v 28) (.i 65535)) (.o1 .ofNat (.v 20))))
          (.need (.o2 .lt (.o2 .rem (.o2 (.bit .and .i64) (.v 28) (.i 65535)) (.o1 .ofNat (.v 20))) (.o1 .ofNat (.v 20)))
          (.need (.o1 .isSome (.v 19))
          (.op (.load 94 (.tmp 93)) 94 [(93, (.w (.a (.eptr 19 (.o2 .rem (.o2 (.bit .and .i64) (.v 28) (.i 65535)) (.o1 .ofNat (.v 20))) 2 0))))] [((.a 19), (.prop 24))] [.n, .p, .v, .p, .p] (.w (.agg [(.ptr (.v 34) 0), (.val 36)])) [((.b (.v 34)), (.prop 35)), ((.a 36), (.prop 37)), ((.a 19), (.prop 38))]
          (.new
          (.call 51 [(.a (.ptr (.v 34) 0)), (.a (.sl (.v 6) (.v 7) (.v 8)))] [((.b (.v 34)), (.prop 35)), ((.a 6), (.prop 25))] [.c, .p, .p] (.w (.a (.bool (.v 40)))) [((.b (.v 34)), (.prop 41)), ((.a 6), (.prop 42))]
          (.call 52 [(.a (.ptr (.v 34) 0))] [((.b (.v 34)), (.prop 41))] [.i] (.w (.a (.int .i64 (.v 43)))) [((.b (.v 34)), (.prop 41))]
          (.br (.o1 .not (.o2 .eq (.v 43) (.i 2)))
           (.need (.o1 (.inr .i64) (.o2 .add (.v 22) (.i 1)))
           (.again 0 [(.e (.o1 .not (.o1 .not (.v 18)))), (.a (.v 19)), (.e (.o2 .nadd (.v 20) (.n 0))), (.e (.o2 .nadd (.v 21) (.n 0))), (.e (.o1 .neg (.o1 .neg (.o2 .add (.v 22) (.i 1))))), (.p [((.b (.v 17)), (.prop 23))]), (.p [((.a 19), (.prop 38)), ((.b (.v 34)), (.prop 41)), ((.a 36), (.prop 37))]), (.p [((.a 6), (.prop 42))])]))
           (.all
            (.call 53 [(.a (.ptr (.v 34) 0))] [((.b (.v 34)), (.prop 41))] [.i, .a, .n, .n, .p] (.w (.agg [(.int .i64 (.v 44)), (.sl (.v 45) (.v 46) (.v 47))])) [((.a 45), (.prop 48)), ((.b (.v 34)), (.prop 41))]
            (.all
             (.call 54 [(.a (.ptr (.v 34) 0))] [((.b (.v 34)), (.prop 41))] [.i] (.w (.a (.int .i64 (.v 49)))) [((.b (.v 34)), (.prop 41))]
             (.new
             (.read (.binOp .neq 29 (.tmp 110) (.const (.pointer none)) 29) 4 [(110, (.w (.a (.val 36))))] [((.a 36), (.prop 37))] [.c] (.w (.a (.bool (.v 51))))
             (.br (.v 51)
              (.read (.nilCheck (.tmp 115)) 0 [(115, (.w (.a (.val 36))))] [((.a 36), (.prop 37))] [] (.w (.a (.val 36)))
              (.read (.load 32 (.tmp 116)) 32 [(116, (.w (.a (.val 36))))] [((.a 36), (.prop 37))] [.i, .a, .n, .n] (.w (.agg [(.int .i64 (.v 52)), (.sl (.v 53) (.v 54) (.v 55))]))
              (.call 21 [(.agg [(.int .i64 (.v 44)), (.sl (.v 45) (.v 46) (.v 47))]), (.agg [(.int .i64 (.v 52)), (.sl (.v 53) (.v 54) (.v 55))])] [((.a 45), (.prop 48)), ((.a 36), (.prop 37))] [.c] (.w (.a (.bool (.v 56)))) [((.a 45), (.prop 48)), ((.a 36), (.prop 37))]
              (.br (.o1 .not (.v 56))
               (.ret (.w (.a (.bool (.c false)))) [((.a 1), (.prop 4))])
               (.read (.lookup 88 (.tmp 122) (.tmp 123) true) 98 [(122, (.w (.a (.map (.v 17))))), (123, (.w (.a (.int .i64 (.v 49)))))] [((.b (.v 17)), (.prop 23))] [.i, .a, .n, .n, .c] (.tup [(.agg [(.int .i64 (.v 57)), (.sl (.v 58) (.v 59) (.v 60))]), (.a (.bool (.v 61)))])
               (.new
               (.br (.v 61)
                (.call 21 [(.agg [(.int .i64 (.v 44)), (.sl (.v 45) (.v 46) (.v 47))]), (.agg [(.int .i64 (.v 57)), (.sl (.v 58) (.v 59) (.v 60))])] [((.a 45), (.prop 48)), ((.b (.v 17)), (.prop 23))] [.c] (.w (.a (.bool (.v 63)))) [((.a 45), (.prop 48)), ((.b (.v 17)), (.prop 23))]
                (.br (.o1 .not (.v 63))
                 (.ret (.w (.a (.bool (.c false)))) [((.a 1), (.prop 4))])
                 (.op (.mapUpdate 88 (.tmp 134) (.tmp 135) (.tmp 136)) 0 [(134, (.w (.a (.map (.v 17))))), (135, (.w (.a (.int .i64 (.v 49))))), (136, (.w (.agg [(.int .i64 (.v 44)), (.sl (.v 45) (.v 46) (.v 47))])))] [((.b (.v 17)), (.prop 23)), ((.a 45), (.prop 48))] [.p] (.tup []) [((.b (.v 17)), (.prop 64)), ((.a 45), (.prop 48))]
                 (.loop [.c, .i, .p] [(.e (.o1 .not (.o1 .not (.v 18)))), (.e (.o1 .neg (.o1 .neg (.i 0)))), (.p [((.a 6), (.prop 42))])]
                  (.br (.o2 .lt (.v 66) (.o1 .ofNat (.v 7)))
                   (.need (.o2 .le (.i 0) (.v 66))
                   (.op (.load 26 (.tmp 141)) 26 [(141, (.w (.a (.eptr 6 (.v 66) 1 0))))] [((.a 6), (.prop 67))] [.n, .p, .p] (.w (.a (.ptr (.v 68) 0))) [((.b (.v 68)), (.prop 69)), ((.a 6), (.prop 70))]
                   (.call 19 [(.a (.ptr (.v 68) 0)), (.a (.int .i64 (.i 0))), (.a (.int .i64 (.v 49)))] [((.b (.v 68)), (.prop 69))] [.i, .a, .n, .n, .p, .i] (.tup [(.agg [(.int .i64 (.v 71)), (.sl (.v 72) (.v 73) (.v 74))]), (.a (.int .i64 (.v 76)))]) [((.a 72), (.prop 75)), ((.b (.v 68)), (.prop 69))]
                   (.new
                   (.br (.o1 .not (.o2 .eq (.v 76) (.i 0)))
                    (.ret (.w (.a (.bool (.c false)))) [((.a 1), (.prop 4))])
                    (.call 21 [(.agg [(.int .i64 (.v 71)), (.sl (.v 72) (.v 73) (.v 74))]), (.agg [(.int .i64 (.v 44)), (.sl (.v 45) (.v 46) (.v 47))])] [((.a 72), (.prop 75)), ((.a 45), (.prop 48))] [.c] (.w (.a (.bool (.v 78)))) [((.a 72), (.prop 75)), ((.a 45), (.prop 48))]
                    (.br (.o1 .not (.v 78))
                     (.ret (.w (.a (.bool (.c false)))) [((.a 1), (.prop 4))])
                     (.need (.o1 (.inr .i64) (.o2 .add (.v 66) (.i 1)))
                     (.again 0 [(.e (.o1 .not (.o1 .not (.v 65)))), (.e (.o1 .neg (.o1 .neg (.o2 .add (.v 66) (.i 1))))), (.p [((.a 6), (.prop 70)), ((.b (.v 68)), (.prop 69))])])))))))))
                   (.need (.o1 (.inr .i64) (.o2 .add (.v 22) (.i 1)))
                   (.again 1 [(.e (.o1 .not (.o1 .not (.v 65)))), (.a (.v 19)), (.e (.o2 .nadd (.v 20) (.n 0))), (.e (.o2 .nadd (.v 21) (.n 0))), (.e (.o1 .neg (.o1 .neg (.o2 .add (.v 22) (.i 1))))), (.p [((.b (.v 17)), (.prop 64))]), (.p [((.a 19), (.prop 38)), ((.b (.v 34)), (.prop 41)), ((.a 36), (.prop 37))]), (.p [((.a 6), (.prop 67))])])))))))
                (.op (.mapUpdate 88 (.tmp 134) (.tmp 135) (.tmp 136)) 0 [(134, (.w (.a (.map (.v 17))))), (135, (.w (.a (.int .i64 (.v 49))))), (136, (.w (.agg [(.int .i64 (.v 44)), (.sl (.v 45) (.v 46) (.v 47))])))] [((.b (.v 17)), (.prop 23)), ((.a 45), (.prop 48))] [.p] (.tup []) [((.b (.v 17)), (.prop 63)), ((.a 45), (.prop 48))]
                (.loop [.c, .i, .p] [(.e (.o1 .not (.o1 .not (.v 18)))), (.e (.o1 .neg (.o1 .neg (.i 0)))), (.p [((.a 6), (.prop 42))])]
                 (.br (.o2 .lt (.v 65) (.o1 .ofNat (.v 7)))
                  (.need (.o2 .le (.i 0) (.v 65))
                  (.op (.load 26 (.tmp 141)) 26 [(141, (.w (.a (.eptr 6 (.v 65) 1 0))))] [((.a 6), (.prop 66))] [.n, .p, .p] (.w (.a (.ptr (.v 67) 0))) [((.b (.v 67)), (.prop 68)), ((.a 6), (.prop 69))]
                  (.call 19 [(.a (.ptr (.v 67) 0)), (.a (.int .i64 (.i 0))), (.a (.int .i64 (.v 49)))] [((.b (.v 67)), (.prop 68))] [.i, .a, .n, .n, .p, .i] (.tup [(.agg [(.int .i64 (.v 70)), (.sl (.v 71) (.v 72) (.v 73))]), (.a (.int .i64 (.v 75)))]) [((.a 71), (.prop 74)), ((.b (.v 67)), (.prop 68))]
                  (.new
                  (.br (.o1 .not (.o2 .eq (.v 75) (.i 0)))
                   (.ret (.w (.a (.bool (.c false)))) [((.a 1), (.prop 4))])
                   (.call 21 [(.agg [(.int .i64 (.v 70)), (.sl (.v 71) (.v 72) (.v 73))]), (.agg [(.int .i64 (.v 44)), (.sl (.v 45) (.v 46) (.v 47))])] [((.a 71), (.prop 74)), ((.a 45), (.prop 48))] [.c] (.w (.a (.bool (.v 77)))) [((.a 71), (.prop 74)), ((.a 45), (.prop 48))]
                   (.br (.o1 .not (.v 77))
                    (.ret (.w (.a (.bool (.c false)))) [((.a 1), (.prop 4))])
                    (.need (.o1 (.inr .i64) (.o2 .add (.v 65) (.i 1)))
                    (.again 0 [(.e (.o1 .not (.o1 .not (.v 64)))), (.e (.o1 .neg (.o1 .neg (.o2 .add (.v 65) (.i 1))))), (.p [((.a 6), (.prop 69)), ((.b (.v 67)), (.prop 68))])])))))))))
                  (.need (.o1 (.inr .i64) (.o2 .add (.v 22) (.i 1)))
                  (.again 1 [(.e (.o1 .not (.o1 .not (.v 64)))), (.a (.v 19)), (.e (.o2 .nadd (.v 20) (.n 0))), (.e (.o2 .nadd (.v 21) (.n 0))), (.e (.o1 .neg (.o1 .neg (.o2 .add (.v 22) (.i 1))))), (.p [((.b (.v 17)), (.prop 63))]), (.p [((.a 19), (.prop 38)), ((.b (.v 34)), (.prop 41)), ((.a 36), (.prop 37))]), (.p [((.a 6), (.prop 66))])]))))))))))))
              (.read (.lookup 88 (.tmp 122) (.tmp 123) true) 98 [(122, (.w (.a (.map (.v 17))))), (123, (.w (.a (.int .i64 (.v 49)))))] [((.b (.v 17)), (.prop 23))] [.i, .a, .n, .n, .c] (.tup [(.agg [(.int .i64 (.v 52)), (.sl (.v 53) (.v 54) (.v 55))]), (.a (.bool (.v 56)))])
              (.new
              (.br (.v 56)
               (.call 21 [(.agg [(.int .i64 (.v 44)), (.sl (.v 45) (.v 46) (.v 47))]), (.agg [(.int .i64 (.v 52)), (.sl (.v 53) (.v 54) (.v 55))])] [((.a 45), (.prop 48)), ((.b (.v 17)), (.prop 23))] [.c] (.w (.a (.bool (.v 58)))) [((.a 45), (.prop 48)), ((.b (.v 17)), (.prop 23))]
               (.br (.o1 .not (.v 58))
                (.ret (.w (.a (.bool (.c false)))) [((.a 1), (.prop 4))])
                (.op (.mapUpdate 88 (.tmp 134) (.tmp 135) (.tmp 136)) 0 [(134, (.w (.a (.map (.v 17))))), (135, (.w (.a (.int .i64 (.v 49))))), (136, (.w (.agg [(.int .i64 (.v 44)), (.sl (.v 45) (.v 46) (.v 47))])))] [((.b (.v 17)), (.prop 23)), ((.a 45), (.prop 48))] [.p] (.tup []) [((.b (.v 17)), (.prop 59)), ((.a 45), (.prop 48))]
                (.loop [.c, .i, .p] [(.e (.o1 .not (.o1 .not (.v 18)))), (.e (.o1 .neg (.o1 .neg (.i 0)))), (.p [((.a 6), (.prop 42))])]
                 (.br (.o2 .lt (.v 61) (.o1 .ofNat (.v 7)))
                  (.need (.o2 .le (.i 0) (.v 61))
                  (.op (.load 26 (.tmp 141)) 26 [(141, (.w (.a (.eptr 6 (.v 61) 1 0))))] [((.a 6), (.prop 62))] [.n, .p, .p] (.w (.a (.ptr (.v 63) 0))) [((.b (.v 63)), (.prop 64)), ((.a 6), (.prop 65))]
                  (.call 19 [(.a (.ptr (.v 63) 0)), (.a (.int .i64 (.i 0))), (.a (.int .i64 (.v 49)))] [((.b (.v 63)), (.prop 64))] [.i, .a, .n, .n, .p, .i] (.tup [(.agg [(.int .i64 (.v 66)), (.sl (.v 67) (.v 68) (.v 69))]), (.a (.int .i64 (.v 71)))]) [((.a 67), (.prop 70)), ((.b (.v 63)), (.prop 64))]
                  (.new
                  (.br (.o1 .not (.o2 .eq (.v 71) (.i 0)))
                   (.ret (.w (.a (.bool (.c false)))) [((.a 1), (.prop 4))])
                   (.call 21 [(.agg [(.int .i64 (.v 66)), (.sl (.v 67) (.v 68) (.v 69))]), (.agg [(.int .i64 (.v 44)), (.sl (.v 45) (.v 46) (.v 47))])] [((.a 67), (.prop 70)), ((.a 45), (.prop 48))] [.c] (.w (.a (.bool (.v 73)))) [((.a 67), (.prop 70)), ((.a 45), (.prop 48))]
                   (.br (.o1 .not (.v 73))
                    (.ret (.w (.a (.bool (.c false)))) [((.a 1), (.prop 4))])
                    (.need (.o1 (.inr .i64) (.o2 .add (.v 61) (.i 1)))
                    (.again 0 [(.e (.o1 .not (.o1 .not (.v 60)))), (.e (.o1 .neg (.o1 .neg (.o2 .add (.v 61) (.i 1))))), (.p [((.a 6), (.prop 65)), ((.b (.v 63)), (.prop 64))])])))))))))
                  (.need (.o1 (.inr .i64) (.o2 .add (.v 22) (.i 1)))
                  (.again 1 [(.e (.o1 .not (.o1 .not (.v 60)))), (.a (.v 19)), (.e (.o2 .nadd (.v 20) (.n 0))), (.e (.o2 .nadd (.v 21) (.n 0))), (.e (.o1 .neg (.o1 .neg (.o2 .add (.v 22) (.i 1))))), (.p [((.b (.v 17)), (.prop 59))]), (.p [((.a 19), (.prop 38)), ((.b (.v 34)), (.prop 41)), ((.a 36), (.prop 37))]), (.p [((.a 6), (.prop 62))])])))))))
               (.op (.mapUpdate 88 (.tmp 134) (.tmp 135) (.tmp 136)) 0 [(134, (.w (.a (.map (.v 17))))), (135, (.w (.a (.int .i64 (.v 49))))), (136, (.w (.agg [(.int .i64 (.v 44)), (.sl (.v 45) (.v 46) (.v 47))])))] [((.b (.v 17)), (.prop 23)), ((.a 45), (.prop 48))] [.p] (.tup []) [((.b (.v 17)), (.prop 58)), ((.a 45), (.prop 48))]
               (.loop [.c, .i, .p] [(.e (.o1 .not (.o1 .not (.v 18)))), (.e (.o1 .neg (.o1 .neg (.i 0)))), (.p [((.a 6), (.prop 42))])]
                (.br (.o2 .lt (.v 60) (.o1 .ofNat (.v 7)))
                 (.need (.o2 .le (.i 0) (.v 60))
                 (.op (.load 26 (.tmp 141)) 26 [(141, (.w (.a (.eptr 6 (.v 60) 1 0))))] [((.a 6), (.prop 61))] [.n, .p, .p] (.w (.a (.ptr (.v 62) 0))) [((.b (.v 62)), (.prop 63)), ((.a 6), (.prop 64))]
                 (.call 19 [(.a (.ptr (.v 62) 0)), (.a (.int .i64 (.i 0))), (.a (.int .i64 (.v 49)))] [((.b (.v 62)), (.prop 63))] [.i, .a, .n, .n, .p, .i] (.tup [(.agg [(.int .i64 (.v 65)), (.sl (.v 66) (.v 67) (.v 68))]), (.a (.int .i64 (.v 70)))]) [((.a 66), (.prop 69)), ((.b (.v 62)), (.prop 63))]
                 (.new
                 (.br (.o1 .not (.o2 .eq (.v 70) (.i 0)))
                  (.ret (.w (.a (.bool (.c false)))) [((.a 1), (.prop 4))])
                  (.call 21 [(.agg [(.int .i64 (.v 65)), (.sl (.v 66) (.v 67) (.v 68))]), (.agg [(.int .i64 (.v 44)), (.sl (.v 45) (.v 46) (.v 47))])] [((.a 66), (.prop 69)), ((.a 45), (.prop 48))] [.c] (.w (.a (.bool (.v 72)))) [((.a 66), (.prop 69)), ((.a 45), (.prop 48))]
                  (.br (.o1 .not (.v 72))
                   (.ret (.w (.a (.bool (.c false)))) [((.a 1), (.prop 4))])
                   (.need (.o1 (.inr .i64) (.o2 .add (.v 60) (.i 1)))
                   (.again 0 [(.e (.o1 .not (.o1 .not (.v 59)))), (.e (.o1 .neg (.o1 .neg (.o2 .add (.v 60) (.i 1))))), (.p [((.a 6), (.prop 64)), ((.b (.v 62)), (.prop 63))])])))))))))
                 (.need (.o1 (.inr .i64) (.o2 .add (.v 22) (.i 1)))
                 (.again 1 [(.e (.o1 .not (.o1 .not (.v 59)))), (.a (.v 19)), (.e (.o2 .nadd (.v 20) (.n 0))), (.e (.o2 .nadd (.v 21) (.n 0))), (.e (.o1 .neg (.o1 .neg (.o2 .add (.v 22) (.i 1))))), (.p [((.b (.v 17)), (.prop 58))]), (.p [((.a 19), (.prop 38)), ((.b (.v 34)), (.prop 41)), ((.a 36), (.prop 37))]), (.p [((.a 6), (.prop 61))])]))))))))))))
             (.new
             (.call 54 [(.a (.ptr (.v 34) 0))] [((.b (.v 34)), (.prop 41))] [.i] (.w (.a (.int .i64 (.v 50)))) [((.b (.v 34)), (.prop 41))]
             (.read (.binOp .neq 29 (.tmp 110) (.const (.pointer none)) 29) 4 [(110, (.w (.a (.val 36))))] [((.a 36), (.prop 37))] [.c] (.w (.a (.bool (.v 51))))
             (.br (.v 51)
              (.read (.nilCheck (.tmp 115)) 0 [(115, (.w (.a (.val 36))))] [((.a 36), (.prop 37))] [] (.w (.a (.val 36)))
              (.read (.load 32 (.tmp 116)) 32 [(116, (.w (.a (.val 36))))] [((.a 36), (.prop 37))] [.i, .a, .n, .n] (.w (.agg [(.int .i64 (.v 52)), (.sl (.v 53) (.v 54) (.v 55))]))
              (.call 21 [(.agg [(.int .i64 (.v 44)), (.sl (.v 45) (.v 46) (.v 47))]), (.agg [(.int .i64 (.v 52)), (.sl (.v 53) (.v 54) (.v 55))])] [((.a 45), (.prop 48)), ((.a 36), (.prop 37))] [.c] (.w (.a (.bool (.v 56)))) [((.a 45), (.prop 48)), ((.a 36), (.prop 37))]
              (.br (.o1 .not (.v 56))
               (.ret (.w (.a (.bool (.c false)))) [((.a 1), (.prop 4))])
               (.read (.lookup 88 (.tmp 122) (.tmp 123) true) 98 [(122, (.w (.a (.map (.v 17))))), (123, (.w (.a (.int .i64 (.v 50)))))] [((.b (.v 17)), (.prop 23))] [.i, .a, .n, .n, .c] (.tup [(.agg [(.int .i64 (.v 57)), (.sl (.v 58) (.v 59) (.v 60))]), (.a (.bool (.v 61)))])
               (.new
               (.br (.v 61)
                (.call 21 [(.agg [(.int .i64 (.v 44)), (.sl (.v 45) (.v 46) (.v 47))]), (.agg [(.int .i64 (.v 57)), (.sl (.v 58) (.v 59) (.v 60))])] [((.a 45), (.prop 48)), ((.b (.v 17)), (.prop 23))] [.c] (.w (.a (.bool (.v 63)))) [((.a 45), (.prop 48)), ((.b (.v 17)), (.prop 23))]
                (.br (.o1 .not (.v 63))
                 (.ret (.w (.a (.bool (.c false)))) [((.a 1), (.prop 4))])
                 (.op (.mapUpdate 88 (.tmp 134) (.tmp 135) (.tmp 136)) 0 [(134, (.w (.a (.map (.v 17))))), (135, (.w (.a (.int .i64 (.v 50))))), (136, (.w (.agg [(.int .i64 (.v 44)), (.sl (.v 45) (.v 46) (.v 47))])))] [((.b (.v 17)), (.prop 23)), ((.a 45), (.prop 48))] [.p] (.tup []) [((.b (.v 17)), (.prop 64)), ((.a 45), (.prop 48))]
                 (.loop [.c, .i, .p] [(.e (.o1 .not (.o1 .not (.v 18)))), (.e (.o1 .neg (.o1 .neg (.i 0)))), (.p [((.a 6), (.prop 42))])]
                  (.br (.o2 .lt (.v 66) (.o1 .ofNat (.v 7)))
                   (.need (.o2 .le (.i 0) (.v 66))
                   (.op (.load 26 (.tmp 141)) 26 [(141, (.w (.a (.eptr 6 (.v 66) 1 0))))] [((.a 6), (.prop 67))] [.n, .p, .p] (.w (.a (.ptr (.v 68) 0))) [((.b (.v 68)), (.prop 69)), ((.a 6), (.prop 70))]
                   (.call 19 [(.a (.ptr (.v 68) 0)), (.a (.int .i64 (.i 0))), (.a (.int .i64 (.v 50)))] [((.b (.v 68)), (.prop 69))] [.i, .a, .n, .n, .p, .i] (.tup [(.agg [(.int .i64 (.v 71)), (.sl (.v 72) (.v 73) (.v 74))]), (.a (.int .i64 (.v 76)))]) [((.a 72), (.prop 75)), ((.b (.v 68)), (.prop 69))]
                   (.new
                   (.br (.o1 .not (.o2 .eq (.v 76) (.i 0)))
                    (.ret (.w (.a (.bool (.c false)))) [((.a 1), (.prop 4))])
                    (.call 21 [(.agg [(.int .i64 (.v 71)), (.sl (.v 72) (.v 73) (.v 74))]), (.agg [(.int .i64 (.v 44)), (.sl (.v 45) (.v 46) (.v 47))])] [((.a 72), (.prop 75)), ((.a 45), (.prop 48))] [.c] (.w (.a (.bool (.v 78)))) [((.a 72), (.prop 75)), ((.a 45), (.prop 48))]
                    (.br (.o1 .not (.v 78))
                     (.ret (.w (.a (.bool (.c false)))) [((.a 1), (.prop 4))])
                     (.need (.o1 (.inr .i64) (.o2 .add (.v 66) (.i 1)))
                     (.again 0 [(.e (.o1 .not (.o1 .not (.v 65)))), (.e (.o1 .neg (.o1 .neg (.o2 .add (.v 66) (.i 1))))), (.p [((.a 6), (.prop 70)), ((.b (.v 68)), (.prop 69))])])))))))))
                   (.need (.o1 (.inr .i64) (.o2 .add (.v 22) (.i 1)))
                   (.again 1 [(.e (.o1 .not (.o1 .not (.v 65)))), (.a (.v 19)), (.e (.o2 .nadd (.v 20) (.n 0))), (.e (.o2 .nadd (.v 21) (.n 0))), (.e (.o1 .neg (.o1 .neg (.o2 .add (.v 22) (.i 1))))), (.p [((.b (.v 17)), (.prop 64))]), (.p [((.a 19), (.prop 38)), ((.b (.v 34)), (.prop 41)), ((.a 36), (.prop 37))]), (.p [((.a 6), (.prop 67))])])))))))
                (.op (.mapUpdate 88 (.tmp 134) (.tmp 135) (.tmp 136)) 0 [(134, (.w (.a (.map (.v 17))))), (135, (.w (.a (.int .i64 (.v 50))))), (136, (.w (.agg [(.int .i64 (.v 44)), (.sl (.v 45) (.v 46) (.v 47))])))] [((.b (.v 17)), (.prop 23)), ((.a 45), (.prop 48))] [.p] (.tup []) [((.b (.v 17)), (.prop 63)), ((.a 45), (.prop 48))]
                (.loop [.c, .i, .p] [(.e (.o1 .not (.o1 .not (.v 18)))), (.e (.o1 .neg (.o1 .neg (.i 0)))), (.p [((.a 6), (.prop 42))])]
                 (.br (.o2 .lt (.v 65) (.o1 .ofNat (.v 7)))
                  (.need (.o2 .le (.i 0) (.v 65))
                  (.op (.load 26 (.tmp 141)) 26 [(141, (.w (.a (.eptr 6 (.v 65) 1 0))))] [((.a 6), (.prop 66))] [.n, .p, .p] (.w (.a (.ptr (.v 67) 0))) [((.b (.v 67)), (.prop 68)), ((.a 6), (.prop 69))]
                  (.call 19 [(.a (.ptr (.v 67) 0)), (.a (.int .i64 (.i 0))), (.a (.int .i64 (.v 50)))] [((.b (.v 67)), (.prop 68))] [.i, .a, .n, .n, .p, .i] (.tup [(.agg [(.int .i64 (.v 70)), (.sl (.v 71) (.v 72) (.v 73))]), (.a (.int .i64 (.v 75)))]) [((.a 71), (.prop 74)), ((.b (.v 67)), (.prop 68))]
                  (.new
                  (.br (.o1 .not (.o2 .eq (.v 75) (.i 0)))
                   (.ret (.w (.a (.bool (.c false)))) [((.a 1), (.prop 4))])
                   (.call 21 [(.agg [(.int .i64 (.v 70)), (.sl (.v 71) (.v 72) (.v 73))]), (.agg [(.int .i64 (.v 44)), (.sl (.v 45) (.v 46) (.v 47))])] [((.a 71), (.prop 74)), ((.a 45), (.prop 48))] [.c] (.w (.a (.bool (.v 77)))) [((.a 71), (.prop 74)), ((.a 45), (.prop 48))]
                   (.br (.o1 .not (.v 77))
                    (.ret (.w (.a (.bool (.c false)))) [((.a 1), (.prop 4))])
                    (.need (.o1 (.inr .i64) (.o2 .add (.v 65) (.i 1)))
                    (.again 0 [(.e (.o1 .not (.o1 .not (.v 64)))), (.e (.o1 .neg (.o1 .neg (.o2 .add (.v 65) (.i 1))))), (.p [((.a 6), (.prop 69)), ((.b (.v 67)), (.prop 68))])])))))))))
                  (.need (.o1 (.inr .i64) (.o2 .add (.v 22) (.i 1)))
                  (.again 1 [(.e (.o1 .not (.o1 .not (.v 64)))), (.a (.v 19)), (.e (.o2 .nadd (.v 20) (.n 0))), (.e (.o2 .nadd (.v 21) (.n 0))), (.e (.o1 .neg (.o1 .neg (.o2 .add (.v 22) (.i 1))))), (.p [((.b (.v 17)), (.prop 63))]), (.p [((.a 19), (.prop 38)), ((.b (.v 34)), (.prop 41)), ((.a 36), (.prop 37))]), (.p [((.a 6), (.prop 66))])]))))))))))))
              (.read (.lookup 88 (.tmp 122) (.tmp 123) true) 98 [(122, (.w (.a (.map (.v 17))))), (123, (.w (.a (.int .i64 (.v 50)))))] [((.b (.v 17)), (.prop 23))] [.i, .a, .n, .n, .c] (.tup [(.agg [(.int .i64 (.v 52)), (.sl (.v 53) (.v 54) (.v 55))]), (.a (.bool (.v 56)))])
              (.new
              (.br (.v 56)
               (.call 21 [(.agg [(.int .i64 (.v 44)), (.sl (.v 45) (.v 46) (.v 47))]), (.agg [(.int .i64 (.v 52)), (.sl (.v 53) (.v 54) (.v 55))])] [((.a 45), (.prop 48)), ((.b (.v 17)), (.prop 23))] [.c] (.w (.a (.bool (.v 58)))) [((.a 45), (.prop 48)), ((.b (.v 17)), (.prop 23))]
               (.br (.o1 .not (.v 58))
                (.ret (.w (.a (.bool (.c false)))) [((.a 1), (.prop 4))])
                (.op (.mapUpdate 88 (.tmp 134) (.tmp 135) (.tmp 136)) 0 [(134, (.w (.a (.map (.v 17))))), (135, (.w (.a (.int .i64 (.v 50))))), (136, (.w (.agg [(.int .i64 (.v 44)), (.sl (.v 45) (.v 46) (.v 47))])))] [((.b (.v 17)), (.prop 23)), ((.a 45), (.prop 48))] [.p] (.tup []) [((.b (.v 17)), (.prop 59)), ((.a 45), (.prop 48))]
                (.loop [.c, .i, .p] [(.e (.o1 .not (.o1 .not (.v 18)))), (.e (.o1 .neg (.o1 .neg (.i 0)))), (.p [((.a 6), (.prop 42))])]
                 (.br (.o2 .lt (.v 61) (.o1 .ofNat (.v 7)))
                  (.need (.o2 .le (.i 0) (.v 61))
                  (.op (.load 26 (.tmp 141)) 26 [(141, (.w (.a (.eptr 6 (.v 61) 1 0))))] [((.a 6), (.prop 62))] [.n, .p, .p] (.w (.a (.ptr (.v 63) 0))) [((.b (.v 63)), (.prop 64)), ((.a 6), (.prop 65))]
                  (.call 19 [(.a (.ptr (.v 63) 0)), (.a (.int .i64 (.i 0))), (.a (.int .i64 (.v 50)))] [((.b (.v 63)), (.prop 64))] [.i, .a, .n, .n, .p, .i] (.tup [(.agg [(.int .i64 (.v 66)), (.sl (.v 67) (.v 68) (.v 69))]), (.a (.int .i64 (.v 71)))]) [((.a 67), (.prop 70)), ((.b (.v 63)), (.prop 64))]
                  (.new
                  (.br (.o1 .not (.o2 .eq (.v 71) (.i 0)))
                   (.ret (.w (.a (.bool (.c false)))) [((.a 1), (.prop 4))])
                   (.call 21 [(.agg [(.int .i64 (.v 66)), (.sl (.v 67) (.v 68) (.v 69))]), (.agg [(.int .i64 (.v 44)), (.sl (.v 45) (.v 46) (.v 47))])] [((.a 67), (.prop 70)), ((.a 45), (.prop 48))] [.c] (.w (.a (.bool (.v 73)))) [((.a 67), (.prop 70)), ((.a 45), (.prop 48))]
                   (.br (.o1 .not (.v 73))
                    (.ret (.w (.a (.bool (.c false)))) [((.a 1), (.prop 4))])
                    (.need (.o1 (.inr .i64) (.o2 .add (.v 61) (.i 1)))
                    (.again 0 [(.e (.o1 .not (.o1 .not (.v 60)))), (.e (.o1 .neg (.o1 .neg (.o2 .add (.v 61) (.i 1))))), (.p [((.a 6), (.prop 65)), ((.b (.v 63)), (.prop 64))])])))))))))
                  (.need (.o1 (.inr .i64) (.o2 .add (.v 22) (.i 1)))
                  (.again 1 [(.e (.o1 .not (.o1 .not (.v 60)))), (.a (.v 19)), (.e (.o2 .nadd (.v 20) (.n 0))), (.e (.o2 .nadd (.v 21) (.n 0))), (.e (.o1 .neg (.o1 .neg (.o2 .add (.v 22) (.i 1))))), (.p [((.b (.v 17)), (.prop 59))]), (.p [((.a 19), (.prop 38)), ((.b (.v 34)), (.prop 41)), ((.a 36), (.prop 37))]), (.p [((.a 6), (.prop 62))])])))))))
               (.op (.mapUpdate 88 (.tmp 134) (.tmp 135) (.tmp 136)) 0 [(134, (.w (.a (.map (.v 17))))), (135, (.w (.a (.int .i64 (.v 50))))), (136, (.w (.agg [(.int .i64 (.v 44)), (.sl (.v 45) (.v 46) (.v 47))])))] [((.b (.v 17)), (.prop 23)), ((.a 45), (.prop 48))] [.p] (.tup []) [((.b (.v 17)), (.prop 58)), ((.a 45), (.prop 48))]
               (.loop [.c, .i, .p] [(.e (.o1 .not (.o1 .not (.v 18)))), (.e (.o1 .neg (.o1 .neg (.i 0)))), (.p [((.a 6), (.prop 42))])]
                (.br (.o2 .lt (.v 60) (.o1 .ofNat (.v 7)))
                 (.need (.o2 .le (.i 0) (.v 60))
                 (.op (.load 26 (.tmp 141)) 26 [(141, (.w (.a (.eptr 6 (.v 60) 1 0))))] [((.a 6), (.prop 61))] [.n, .p, .p] (.w (.a (.ptr (.v 62) 0))) [((.b (.v 62)), (.prop 63)), ((.a 6), (.prop 64))]
                 (.call 19 [(.a (.ptr (.v 62) 0)), (.a (.int .i64 (.i 0))), (.a (.int .i64 (.v 50)))] [((.b (.v 62)), (.prop 63))] [.i, .a, .n, .n, .p, .i] (.tup [(.agg [(.int .i64 (.v 65)), (.sl (.v 66) (.v 67) (.v 68))]), (.a (.int .i64 (.v 70)))]) [((.a 66), (.prop 69)), ((.b (.v 62)), (.prop 63))]
                 (.new
                 (.br (.o1 .not (.o2 .eq (.v 70) (.i 0)))
                  (.ret (.w (.a (.bool (.c false)))) [((.a 1), (.prop 4))])
                  (.call 21 [(.agg [(.int .i64 (.v 65)), (.sl (.v 66) (.v 67) (.v 68))]), (.agg [(.int .i64 (.v 44)), (.sl (.v 45) (.v 46) (.v 47))])] [((.a 66), (.prop 69)), ((.a 45), (.prop 48))] [.c] (.w (.a (.bool (.v 72)))) [((.a 66), (.prop 69)), ((.a 45), (.prop 48))]
                  (.br (.o1 .not (.v 72))
                   (.ret (.w (.a (.bool (.c false)))) [((.a 1), (.prop 4))])
                   (.need (.o1 (.inr .i64) (.o2 .add (.v 60) (.i 1)))
                   (.again 0 [(.e (.o1 .not (.o1 .not (.v 59)))), (.e (.o1 .neg (.o1 .neg (.o2 .add (.v 60) (.i 1))))), (.p [((.a 6), (.prop 64)), ((.b (.v 62)), (.prop 63))])])))))))))
                 (.need (.o1 (.inr .i64) (.o2 .add (.v 22) (.i 1)))
                 (.again 1 [(.e (.o1 .not (.o1 .not (.v 59)))), (.a (.v 19)), (.e (.o2 .nadd (.v 20) (.n 0))), (.e (.o2 .nadd (.v 21) (.n 0))), (.e (.o1 .neg (.o1 .neg (.o2 .add (.v 22) (.i 1))))), (.p [((.b (.v 17)), (.prop 58))]), (.p [((.a 19), (.prop 38)), ((.b (.v 34)), (.prop 41)), ((.a 36), (.prop 37))]), (.p [((.a 6), (.prop 61))])]))))))))))))))
            (.new
            (.call 53 [(.a (.ptr (.v 34) 0))] [((.b (.v 34)), (.prop 41))] [.i, .a, .n, .n, .p] (.w (.agg [(.int .i64 (.v 45)), (.sl (.v 46) (.v 47) (.v 48))])) [((.a 46), (.prop 49)), ((.b (.v 34)), (.prop 41))]
            (.call 54 [(.a (.ptr (.v 34) 0))] [((.b (.v 34)), (.prop 41))] [.i] (.w (.a (.int .i64 (.v 50)))) [((.b (.v 34)), (.prop 41))]
            (.read (.binOp .neq 29 (.tmp 110) (.const (.pointer none)) 29) 4 [(110, (.w (.a (.val 36))))] [((.a 36), (.prop 37))] [.c] (.w (.a (.bool (.v 51))))
            (.br (.v 51)
             (.read (.nilCheck (.tmp 115)) 0 [(115, (.w (.a (.val 36))))] [((.a 36), (.prop 37))] [] (.w (.a (.val 36)))
             (.read (.load 32 (.tmp 116)) 32 [(116, (.w (.a (.val 36))))] [((.a 36), (.prop 37))] [.i, .a, .n, .n] (.w (.agg [(.int .i64 (.v 52)), (.sl (.v 53) (.v 54) (.v 55))]))
             (.call 21 [(.agg [(.int .i64 (.v 45)), (.sl (.v 46) (.v 47) (.v 48))]), (.agg [(.int .i64 (.v 52)), (.sl (.v 53) (.v 54) (.v 55))])] [((.a 46), (.prop 49)), ((.a 36), (.prop 37))] [.c] (.w (.a (.bool (.v 56)))) [((.a 46), (.prop 49)), ((.a 36), (.prop 37))]
             (.br (.o1 .not (.v 56))
              (.ret (.w (.a (.bool (.c false)))) [((.a 1), (.prop 4))])
              (.read (.lookup 88 (.tmp 122) (.tmp 123) true) 98 [(122, (.w (.a (.map (.v 17))))), (123, (.w (.a (.int .i64 (.v 50)))))] [((.b (.v 17)), (.prop 23))] [.i, .a, .n, .n, .c] (.tup [(.agg [(.int .i64 (.v 57)), (.sl (.v 58) (.v 59) (.v 60))]), (.a (.bool (.v 61)))])
              (.new
              (.br (.v 61)
               (.call 21 [(.agg [(.int .i64 (.v 45)), (.sl (.v 46) (.v 47) (.v 48))]), (.agg [(.int .i64 (.v 57)), (.sl (.v 58) (.v 59) (.v 60))])] [((.a 46), (.prop 49)), ((.b (.v 17)), (.prop 23))] [.c] (.w (.a (.bool (.v 63)))) [((.a 46), (.prop 49)), ((.b (.v 17)), (.prop 23))]
               (.br (.o1 .not (.v 63))
                (.ret (.w (.a (.bool (.c false)))) [((.a 1), (.prop 4))])
                (.op (.mapUpdate 88 (.tmp 134) (.tmp 135) (.tmp 136)) 0 [(134, (.w (.a (.map (.v 17))))), (135, (.w (.a (.int .i64 (.v 50))))), (136, (.w (.agg [(.int .i64 (.v 45)), (.sl (.v 46) (.v 47) (.v 48))])))] [((.b (.v 17)), (.prop 23)), ((.a 46), (.prop 49))] [.p] (.tup []) [((.b (.v 17)), (.prop 64)), ((.a 46), (.prop 49))]
                (.loop [.c, .i, .p] [(.e (.o1 .not (.o1 .not (.v 18)))), (.e (.o1 .neg (.o1 .neg (.i 0)))), (.p [((.a 6), (.prop 42))])]
                 (.br (.o2 .lt (.v 66) (.o1 .ofNat (.v 7)))
                  (.need (.o2 .le (.i 0) (.v 66))
                  (.op (.load 26 (.tmp 141)) 26 [(141, (.w (.a (.eptr 6 (.v 66) 1 0))))] [((.a 6), (.prop 67))] [.n, .p, .p] (.w (.a (.ptr (.v 68) 0))) [((.b (.v 68)), (.prop 69)), ((.a 6), (.prop 70))]
                  (.call 19 [(.a (.ptr (.v 68) 0)), (.a (.int .i64 (.i 0))), (.a (.int .i64 (.v 50)))] [((.b (.v 68)), (.prop 69))] [.i, .a, .n, .n, .p, .i] (.tup [(.agg [(.int .i64 (.v 71)), (.sl (.v 72) (.v 73) (.v 74))]), (.a (.int .i64 (.v 76)))]) [((.a 72), (.prop 75)), ((.b (.v 68)), (.prop 69))]
                  (.new
                  (.br (.o1 .not (.o2 .eq (.v 76) (.i 0)))
                   (.ret (.w (.a (.bool (.c false)))) [((.a 1), (.prop 4))])
                   (.call 21 [(.agg [(.int .i64 (.v 71)), (.sl (.v 72) (.v 73) (.v 74))]), (.agg [(.int .i64 (.v 45)), (.sl (.v 46) (.v 47) (.v 48))])] [((.a 72), (.prop 75)), ((.a 46), (.prop 49))] [.c] (.w (.a (.bool (.v 78)))) [((.a 72), (.prop 75)), ((.a 46), (.prop 49))]
                   (.br (.o1 .not (.v 78))
                    (.ret (.w (.a (.bool (.c false)))) [((.a 1), (.prop 4))])
                    (.need (.o1 (.inr .i64) (.o2 .add (.v 66) (.i 1)))
                    (.again 0 [(.e (.o1 .not (.o1 .not (.v 65)))), (.e (.o1 .neg (.o1 .neg (.o2 .add (.v 66) (.i 1))))), (.p [((.a 6), (.prop 70)), ((.b (.v 68)), (.prop 69))])])))))))))
                  (.need (.o1 (.inr .i64) (.o2 .add (.v 22) (.i 1)))
                  (.again 1 [(.e (.o1 .not (.o1 .not (.v 65)))), (.a (.v 19)), (.e (.o2 .nadd (.v 20) (.n 0))), (.e (.o2 .nadd (.v 21) (.n 0))), (.e (.o1 .neg (.o1 .neg (.o2 .add (.v 22) (.i 1))))), (.p [((.b (.v 17)), (.prop 64))]), (.p [((.a 19), (.prop 38)), ((.b (.v 34)), (.prop 41)), ((.a 36), (.prop 37))]), (.p [((.a 6), (.prop 67))])])))))))
               (.op (.mapUpdate 88 (.tmp 134) (.tmp 135) (.tmp 136)) 0 [(134, (.w (.a (.map (.v 17))))), (135, (.w (.a (.int .i64 (.v 50))))), (136, (.w (.agg [(.int .i64 (.v 45)), (.sl (.v 46) (.v 47) (.v 48))])))] [((.b (.v 17)), (.prop 23)), ((.a 46), (.prop 49))] [.p] (.tup []) [((.b (.v 17)), (.prop 63)), ((.a 46), (.prop 49))]
               (.loop [.c, .i, .p] [(.e (.o1 .not (.o1 .not (.v 18)))), (.e (.o1 .neg (.o1 .neg (.i 0)))), (.p [((.a 6), (.prop 42))])]
                (.br (.o2 .lt (.v 65) (.o1 .ofNat (.v 7)))
                 (.need (.o2 .le (.i 0) (.v 65))
                 (.op (.load 26 (.tmp 141)) 26 [(141, (.w (.a (.eptr 6 (.v 65) 1 0))))] [((.a 6), (.prop 66))] [.n, .p, .p] (.w (.a (.ptr (.v 67) 0))) [((.b (.v 67)), (.prop 68)), ((.a 6), (.prop 69))]
                 (.call 19 [(.a (.ptr (.v 67) 0)), (.a (.int .i64 (.i 0))), (.a (.int .i64 (.v 50)))] [((.b (.v 67)), (.prop 68))] [.i, .a, .n, .n, .p, .i] (.tup [(.agg [(.int .i64 (.v 70)), (.sl (.v 71) (.v 72) (.v 73))]), (.a (.int .i64 (.v 75)))]) [((.a 71), (.prop 74)), ((.b (.v 67)), (.prop 68))]
                 (.new
                 (.br (.o1 .not (.o2 .eq (.v 75) (.i 0)))
                  (.ret (.w (.a (.bool (.c false)))) [((.a 1), (.prop 4))])
                  (.call 21 [(.agg [(.int .i64 (.v 70)), (.sl (.v 71) (.v 72) (.v 73))]), (.agg [(.int .i64 (.v 45)), (.sl (.v 46) (.v 47) (.v 48))])] [((.a 71), (.prop 74)), ((.a 46), (.prop 49))] [.c] (.w (.a (.bool (.v 77)))) [((.a 71), (.prop 74)), ((.a 46), (.prop 49))]
                  (.br (.o1 .not (.v 77))
                   (.ret (.w (.a (.bool (.c false)))) [((.a 1), (.prop 4))])
                   (.need (.o1 (.inr .i64) (.o2 .add (.v 65) (.i 1)))
                   (.again 0 [(.e (.o1 .not (.o1 .not (.v 64)))), (.e (.o1 .neg (.o1 .neg (.o2 .add (.v 65) (.i 1))))), (.p [((.a 6), (.prop 69)), ((.b (.v 67)), (.prop 68))])])))))))))
                 (.need (.o1 (.inr .i64) (.o2 .add (.v 22) (.i 1)))
                 (.again 1 [(.e (.o1 .not (.o1 .not (.v 64)))), (.a (.v 19)), (.e (.o2 .nadd (.v 20) (.n 0))), (.e (.o2 .nadd (.v 21) (.n 0))), (.e (.o1 .neg (.o1 .neg (.o2 .add (.v 22) (.i 1))))), (.p [((.b (.v 17)), (.prop 63))]), (.p [((.a 19), (.prop 38)), ((.b (.v 34)), (.prop 41)), ((.a 36), (.prop 37))]), (.p [((.a 6), (.prop 66))])]))))))))))))
             (.read (.lookup 88 (.tmp 122) (.tmp 123) true) 98 [(122, (.w (.a (.map (.v 17))))), (123, (.w (.a (.int .i64 (.v 50)))))] [((.b (.v 17)), (.prop 23))] [.i, .a, .n, .n, .c] (.tup [(.agg [(.int .i64 (.v 52)), (.sl (.v 53) (.v 54) (.v 55))]), (.a (.bool (.v 56)))])
             (.new
             (.br (.v 56)
              (.call 21 [(.agg [(.int .i64 (.v 45)), (.sl (.v 46) (.v 47) (.v 48))]), (.agg [(.int .i64 (.v 52)), (.sl (.v 53) (.v 54) (.v 55))])] [((.a 46), (.prop 49)), ((.b (.v 17)), (.prop 23))] [.c] (.w (.a (.bool (.v 58)))) [((.a 46), (.prop 49)), ((.b (.v 17)), (.prop 23))]
              (.br (.o1 .not (.v 58))
               (.ret (.w (.a (.bool (.c false)))) [((.a 1), (.prop 4))])
               (.op (.mapUpdate 88 (.tmp 134) (.tmp 135) (.tmp 136)) 0 [(134, (.w (.a (.map (.v 17))))), (135, (.w (.a (.int .i64 (.v 50))))), (136, (.w (.agg [(.int .i64 (.v 45)), (.sl (.v 46) (.v 47) (.v 48))])))] [((.b (.v 17)), (.prop 23)), ((.a 46), (.prop 49))] [.p] (.tup []) [((.b (.v 17)), (.prop 59)), ((.a 46), (.prop 49))]
               (.loop [.c, .i, .p] [(.e (.o1 .not (.o1 .not (.v 18)))), (.e (.o1 .neg (.o1 .neg (.i 0)))), (.p [((.a 6), (.prop 42))])]
                (.br (.o2 .lt (.v 61) (.o1 .ofNat (.v 7)))
                 (.need (.o2 .le (.i 0) (.v 61))
                 (.op (.load 26 (.tmp 141)) 26 [(141, (.w (.a (.eptr 6 (.v 61) 1 0))))] [((.a 6), (.prop 62))] [.n, .p, .p] (.w (.a (.ptr (.v 63) 0))) [((.b (.v 63)), (.prop 64)), ((.a 6), (.prop 65))]
                 (.call 19 [(.a (.ptr (.v 63) 0)), (.a (.int .i64 (.i 0))), (.a (.int .i64 (.v 50)))] [((.b (.v 63)), (.prop 64))] [.i, .a, .n, .n, .p, .i] (.tup [(.agg [(.int .i64 (.v 66)), (.sl (.v 67) (.v 68) (.v 69))]), (.a (.int .i64 (.v 71)))]) [((.a 67), (.prop 70)), ((.b (.v 63)), (.prop 64))]
                 (.new
                 (.br (.o1 .not (.o2 .eq (.v 71) (.i 0)))
                  (.ret (.w (.a (.bool (.c false)))) [((.a 1), (.prop 4))])
                  (.call 21 [(.agg [(.int .i64 (.v 66)), (.sl (.v 67) (.v 68) (.v 69))]), (.agg [(.int .i64 (.v 45)), (.sl (.v 46) (.v 47) (.v 48))])] [((.a 67), (.prop 70)), ((.a 46), (.prop 49))] [.c] (.w (.a (.bool (.v 73)))) [((.a 67), (.prop 70)), ((.a 46), (.prop 49))]
                  (.br (.o1 .not (.v 73))
                   (.ret (.w (.a (.bool (.c false)))) [((.a 1), (.prop 4))])
                   (.need (.o1 (.inr .i64) (.o2 .add (.v 61) (.i 1)))
                   (.again 0 [(.e (.o1 .not (.o1 .not (.v 60)))), (.e (.o1 .neg (.o1 .neg (.o2 .add (.v 61) (.i 1))))), (.p [((.a 6), (.prop 65)), ((.b (.v 63)), (.prop 64))])])))))))))
                 (.need (.o1 (.inr .i64) (.o2 .add (.v 22) (.i 1)))
                 (.again 1 [(.e (.o1 .not (.o1 .not (.v 60)))), (.a (.v 19)), (.e (.o2 .nadd (.v 20) (.n 0))), (.e (.o2 .nadd (.v 21) (.n 0))), (.e (.o1 .neg (.o1 .neg (.o2 .add (.v 22) (.i 1))))), (.p [((.b (.v 17)), (.prop 59))]), (.p [((.a 19), (.prop 38)), ((.b (.v 34)), (.prop 41)), ((.a 36), (.prop 37))]), (.p [((.a 6), (.prop 62))])])))))))
              (.op (.mapUpdate 88 (.tmp 134) (.tmp 135) (.tmp 136)) 0 [(134, (.w (.a (.map (.v 17))))), (135, (.w (.a (.int .i64 (.v 50))))), (136, (.w (.agg [(.int .i64 (.v 45)), (.sl (.v 46) (.v 47) (.v 48))])))] [((.b (.v 17)), (.prop 23)), ((.a 46), (.prop 49))] [.p] (.tup []) [((.b (.v 17)), (.prop 58)), ((.a 46), (.prop 49))]
              (.loop [.c, .i, .p] [(.e (.o1 .not (.o1 .not (.v 18)))), (.e (.o1 .neg (.o1 .neg (.i 0)))), (.p [((.a 6), (.prop 42))])]
               (.br (.o2 .lt (.v 60) (.o1 .ofNat (.v 7)))
                (.need (.o2 .le (.i 0) (.v 60))
                (.op (.load 26 (.tmp 141)) 26 [(141, (.w (.a (.eptr 6 (.v 60) 1 0))))] [((.a 6), (.prop 61))] [.n, .p, .p] (.w (.a (.ptr (.v 62) 0))) [((.b (.v 62)), (.prop 63)), ((.a 6), (.prop 64))]
                (.call 19 [(.a (.ptr (.v 62) 0)), (.a (.int .i64 (.i 0))), (.a (.int .i64 (.v 50)))] [((.b (.v 62)), (.prop 63))] [.i, .a, .n, .n, .p, .i] (.tup [(.agg [(.int .i64 (.v 65)), (.sl (.v 66) (.v 67) (.v 68))]), (.a (.int .i64 (.v 70)))]) [((.a 66), (.prop 69)), ((.b (.v 62)), (.prop 63))]
                (.new
                (.br (.o1 .not (.o2 .eq (.v 70) (.i 0)))
                 (.ret (.w (.a (.bool (.c false)))) [((.a 1), (.prop 4))])
                 (.call 21 [(.agg [(.int .i64 (.v 65)), (.sl (.v 66) (.v 67) (.v 68))]), (.agg [(.int .i64 (.v 45)), (.sl (.v 46) (.v 47) (.v 48))])] [((.a 66), (.prop 69)), ((.a 46), (.prop 49))] [.c] (.w (.a (.bool (.v 72)))) [((.a 66), (.prop 69)), ((.a 46), (.prop 49))]
                 (.br (.o1 .not (.v 72))
                  (.ret (.w (.a (.bool (.c false)))) [((.a 1), (.prop 4))])
                  (.need (.o1 (.inr .i64) (.o2 .add (.v 60) (.i 1)))
                  (.again 0 [(.e (.o1 .not (.o1 .not (.v 59)))), (.e (.o1 .neg (.o1 .neg (.o2 .add (.v 60) (.i 1))))), (.p [((.a 6), (.prop 64)), ((.b (.v 62)), (.prop 63))])])))))))))
                (.need (.o1 (.inr .i64) (.o2 .add (.v 22) (.i 1)))
                (.again 1 [(.e (.o1 .not (.o1 .not (.v 59)))), (.a (.v 19)), (.e (.o2 .nadd (.v 20) (.n 0))), (.e (.o2 .nadd (.v 21) (.n 0))), (.e (.o1 .neg (.o1 .neg (.o2 .add (.v 22) (.i 1))))), (.p [((.b (.v 17)), (.prop 58))]), (.p [((.a 19), (.prop 38)), ((.b (.v 34)), (.prop 41)), ((.a 36), (.prop 37))]), (.p [((.a 6), (.prop 61))])])))))))))))))))))))))))))))))
       (.ret (.w (.a (.bool (.c true)))) [((.a 1), (.prop 4))]))))))))))))))
theorem tree_chainOne : tree Try.prog { absT := [], opq := [29], hv := [(0, [(.b (.v 10))]), (2, [(.b (.v 16)), (.a 6), (.b (.v 17))]), (4, [(.a 6)])], keep := [52, 54, 53, 56, 92, 21, 50, 49, 19], link := [(17, 0)], ent := [], turn := [(45, [0]), (55, [0])], shr := [], vt := [], mkd := [94], rlink := [], pty := [], outl := true, stay := [(.a 1)] } Try.f9 [(.a (.int .i64 (.v 0))), (.a (.sl (.v 1) (.v 2) (.v 3)))] [((.a 1), (.prop 4))] 5 = t_chainOne := by kernel_rfl
end Go.Proofs.Ytmibmjehjagmbaa.RX

/- ChainOne, over what came in as assertions. No condition. -/
namespace Go.Proofs.Ytmibmjehjagmbaa
set_option linter.unusedSimpArgs false
set_option linter.unusedVariables false
open Go.Proofs.Ytmibmjehjagmbaa RX

theorem read_any {l : List UR} {used k : Nat} {u : UR} {a : Int} {y : CellS} (hU : UnitsOk l used) (ha : addrOk a = true) (hu : l[k]? = some u) (hy : stands l k a y) : readS u.s 0 a = (y, 0) := by
  obtain ⟨v, hv, hc⟩ := hy
  rw [hu] at hv
  cases hv
  have hf := (hU.fresh _ _ hu).1
  unfold readS
  rw [if_neg (by simp [reach_fresh hf ha]), if_neg (low_fresh hf ha), hc]
theorem pickIx (p : Int) {n : Nat} (h : n ≠ 0) : ∃ k : Nat, k < n ∧ (p % 65536).tmod (n : Int) = k := by
  refine ⟨(p % 65536).toNat % n, Nat.mod_lt _ (by omega), ?_⟩
  have : (p % 65536) = ((p % 65536).toNat : Int) := (Int.toNat_of_nonneg (by omega)).symm
  rw [this]
  rw [Int.toNat_natCast]
  exact Int.ofNat_tmod _ _
/-- What ChainOne knows between two steps. -/
structure OneI (n : Nat) (l : List UR) (es : List OpE) (f : Int → Option CellS) (used : Nat) : Prop where
  len : l.length = n
  units : UnitsOk l used
  ops : ∀ e ∈ es, OpOk n l e.o ∧ e.own ∧ ∀ x, e.cl = some x → x.2.2.2.data.length ≤ 1000
  done : ∀ a x, f a = some x → stands l (n - 1) a x
theorem own_ask {n used : Nat} {l : List UR} {o : OpS} {x : CellS} (hn : l.length = n) (h0 : 1 ≤ n) (hU : UnitsOk l used) (hused : used < 400) (hO : OpOk n l o) (hA : OwnC x o) : OwnC x (askS o l).2.1 := by
  by_cases h1 : o.state = 1
  · obtain ⟨u, hu, ⟨y, hy, e⟩ | ⟨hy, e⟩⟩ := ask_case hn h0 hU hused hO h1
    · rw [e]; exact own_seen hA h1
    · rw [e]; exact own_blank hA h1
  · rw [(ask_any hn h0 hU hused hO).2.2.2.2.2 h1]; exact hA
theorem OneI.add {n used : Nat} {l : List UR} {es : List OpE} {f : Int → Option CellS} (h : OneI n l es f used) {e : OpE} (hO : OpOk n l e.o) (he : e.own) (hb : ∀ x, e.cl = some x → x.2.2.2.data.length ≤ 1000) : OneI n l (es ++ [e]) f (used + 1) :=
  ⟨h.len, h.units.more, fun e' h' => by
    rcases List.mem_append.1 h' with h' | h'
    · exact h.ops e' h'
    · simp at h'; subst h'; exact ⟨hO, he, hb⟩, h.done⟩
theorem OneI.more {n used : Nat} {l : List UR} {es : List OpE} {f : Int → Option CellS} (h : OneI n l es f used) : OneI n l es f (used + 1) := ⟨h.len, h.units.more, h.ops, h.done⟩
theorem OneI.ask {n used k : Nat} {l : List UR} {es : List OpE} {f : Int → Option CellS} (h : OneI n l es f used) (h0 : 1 ≤ n) (hused : used < 400) {e : OpE} (hk : es[k]? = some e) :
    OneI n (askS e.o l).2.2 (es.set k { e with o := (askS e.o l).2.1 }) f (used + 1) := by
  obtain ⟨ho, hown, hbb⟩ := h.ops e (List.mem_of_getElem? hk)
  obtain ⟨g, u, p, _⟩ := ask_any h.len h0 h.units hused ho
  refine ⟨g.1.trans h.len, u, fun e' h' => ?_, fun a x hx => g.2 _ _ _ (h.done a x hx)⟩
  rcases List.mem_or_eq_of_mem_set h' with h' | h'
  · obtain ⟨q1, q2, q3⟩ := h.ops e' h'
    exact ⟨q1.grows g, q2, q3⟩
  · subst h'
    exact ⟨p, fun x hx => own_ask h.len h0 h.units hused ho (hown x hx), hbb⟩
theorem OneI.put {n used : Nat} {l : List UR} {es : List OpE} {f : Int → Option CellS} (h : OneI n l es f used) {a : Int} {x : CellS} (hx : stands l (n - 1) a x) : OneI n l es (fput f a (some x)) used :=
  ⟨h.len, h.units, h.ops, fun a' x' h' => by
    unfold fput at h'
    split at h'
    · rename_i e; subst e; cases h'; exact hx
    · exact h.done _ _ h'⟩
set_option maxRecDepth 100000 in
set_option maxHeartbeats 8000000 in
theorem chainOne_ok (size : Int) (sa : Option Addr) (sc : Nat) (steps : List Step17) :
    Tri Try.prog 9 #[.int .i64 size, .slice sa steps.length sc] (Ls kStep17 sa steps.length steps) (fun v => HP.pure (v = .bool true)) := by
  refine Tri.fact (φ := steps.length ≠ 0 → sa.isSome = true) (fun R h H hn => RoC.some H.2.1 (by omega)) fun hsa => ?_
  refine tri_of_tree (ρ := [.i size, .a sa, .n steps.length, .n sc, .p (Ls kStep17 sa steps.length steps)]) mixed Try.func9 tree_chainOne ?_
  unfold t_chainOne
  simp (maxSteps := 3000000) only [T.den, E.prop, E.den, RX.look, F1.app, F2.app, Uni.int_i, Uni.nat_n, Uni.bool_c, Uni.str_s, Uni.adr_a, Uni.val_v, Uni.hp_p, hden, cden, V.den, W.den, A.den, BR.den, SA.den, FV.den, capV, exs, exP, allP, Cur.app, List.map_cons, List.map_nil, List.cons_append, List.nil_append, List.drop_succ_cons, List.drop_zero, List.length_cons, List.length_nil, Nat.zero_add, Nat.reduceAdd, Int.neg_neg, Bool.not_not, List.append_nil, Nat.add_zero, List.getElem?_cons_zero, List.getElem?_cons_succ, Decidable.not_not, semW_eq, semW_load, semW_store, semW_storeC, semW_append, semW_lookup, semW_lookupC, semW_update, semW_updateC, semW_updateK, semW_delete, semW_range, semW_next, semW_entry, semW_nil, ne_eq, Nat.reduceEqDiff, not_false_eq_true, and3, andffff]
  refine speaks17_ok.weak (fun _ _ _ => trivial) ?_
  rintro v R h rfl
  refine ⟨true, rfl, ⟨fun h => absurd rfl h, fun _ => ⟨fun _ => .of fun R h H => trivial, fun h120 => ?_⟩⟩, trivial⟩
  obtain ⟨n, hn⟩ : ∃ n : Nat, size % 4 + 1 = n := ⟨_, (Int.toNat_of_nonneg (by omega)).symm⟩
  have hn1 : 1 ≤ n := by omega
  have hn4 : n ≤ 4 := by omega
  simp only [hn]
  refine ⟨inI64 _ (by omega) (by omega), fun _ => ?_⟩
  refine (laid17_ok n (by omega)).weak (fun _ _ _ => trivial) ?_
  rintro v R h ⟨a, c, l0, ⟨rfl, hl0⟩, H⟩
  have hlen0 : l0.length = n := H.1
  have hasome : a.isSome = true := OwC.some (HP.sep_left H.2) (by omega)
  refine ⟨a, n, c, UnL a n c l0, rfl, ⟨fun h => absurd hasome h, fun _ y => ?_⟩, H⟩
  clear H
  refine ⟨fun ia len cap i P => ∃ k : Nat, i = k ∧ k ≤ n ∧ len = k ∧ ia.isSome = true ∧ ChI P ia k cap, fun _ _ _ i _ => n - i.toNat, ⟨0, rfl, Nat.zero_le _, rfl, rfl, ChI.zero y⟩, ?_⟩
  rintro ia k cap _ P ⟨_, rfl, hk, rfl, hia, hP⟩
  refine ⟨fun hlt z => ?_, fun hge xb mb => ?_⟩
  · refine (hP.app (by omega)).weak (fun _ _ h => h) ?_
    rintro v R h ⟨a', c', ⟨rfl, ha'⟩, H⟩
    exact ⟨a', k + 1, c', OwI a' (k + 1) c' (upI (k + 1)), rfl, ⟨inI64 _ (by omega) (by omega), fun _ => ⟨⟨k + 1, by omega, by omega, rfl, ha', ChI.own _ _ _⟩, by dsimp only; omega⟩⟩, H⟩
  obtain rfl : k = n := by omega
  have rI := hP.rd (by omega) hia
  refine ⟨fun _ ea en ec i M Q U => ∃ (j : Nat) (l : List UR) (es : List OpE) (f : Int → Option CellS) (lm : AL Int) (cm : Nat), i = j ∧ j ≤ steps.length ∧ en = es.length ∧ (en ≠ 0 → ea.isSome = true) ∧ es.length ≤ j ∧ HP.ent M (MapH CellV iE mb f lm cm) ∧ DoneF lm f ∧ HP.ent Q (PL kOp ea en ec es) ∧ HP.ent U (UnL a k c l) ∧ OneI k l es f j,
    fun _ _ _ _ i _ _ _ => steps.length - i.toNat,
    ⟨0, l0, [], fun _ => none, [], 0, rfl, Nat.zero_le _, rfl, fun h => absurd rfl h, Nat.le_refl _, .of fun R h H => ⟨MapI.nil 0, HP.sep_mono (HP.sep_tt H) (fun _ h => h) fun _ _ => Vals.nil⟩, ⟨(fun k x e => by cases e), fun k _ => rfl⟩, .of fun R h H => PL.zero (K := kOp) xb H, .refl _, hlen0, new_ok hl0, (fun e he => by cases he), fun a x hx => by cases hx⟩, ?_⟩
  rintro _ ea _ ec _ M Q U ⟨j, l, es, f, lm, cm, rfl, hj, rfl, hea, hesj, hM, hF, hQ, hUn, hI⟩
  refine ⟨fun hlt => ⟨by omega, fun _ => ⟨hsa (by omega), fun _ => ?_⟩⟩, fun _ => .of fun R h H => trivial⟩
  have hjl : j < steps.length := by omega
  have hgj : steps[j]? = some steps[j] := List.getElem?_eq_getElem hjl
  generalize steps[j] = s at hgj
  have inJ : IntKind.i64.min ≤ (j : Int) + 1 ∧ (j : Int) + 1 ≤ IntKind.i64.max := inI64 _ (by omega) (by omega)
  have meas : steps.length - ((j : Int) + 1).toNat < steps.length - (j : Int).toNat := by omega
  have rS : RdL (Ls kStep17 sa steps.length steps) s.dataa s.data.length (s.data.map u8v) := RdL.imp fun R y H => (H.2.2 s (List.mem_of_getElem? hgj)).2.2.2
  refine ⟨_, _, _, _, _, _, _, Step17.load (a := sa) (n := steps.length) hgj, fun _ => ⟨fun _ => .of fun R h H => trivial, fun hs100 => ⟨fun hnew cb => ⟨fun hjunk => ?_, fun hjunk => ?_⟩, fun hnew => ⟨fun hemp => ?_, fun hemp => ?_⟩⟩⟩⟩
  -- a Resolve begins
  · refine (cResolve_ok (s.at_ % 4) ia k cap (upI k) P rI (upI_len k) (by omega)).weak (fun _ _ h => h) ?_
    rintro v R h ⟨b, rfl, H⟩
    have hO : OpOk k l { beginC (s.at_ % 4) (upI k) with step := 1, place := ((upI k).length : Int) - 1 } := resolveC_ok hn1 (by simp [addrOk]; omega) rfl
    rw [upI_len] at hO
    generalize ({ beginC (s.at_ % 4) (upI k) with step := 1, place := (k : Int) - 1 } : OpS) = o at *
    refine ⟨b, ORep b o, rfl, fun z => ?_, HP.sep_comm H⟩
    clear H
    refine (appendE ea es.length ec es z ⟨b, o, none⟩ HP.tt (by omega)).conseq (K := HP.tt) ((hQ.sep _).trans (.of fun R h H => HP.sep_tt (HP.sep_mono H (fun _ h => h) fun y hy => HP.sep_mono hy (fun _ h => h) fun w hw => HP.sep_tt (HP.sep_tt hw)))) fun v => .of fun R h H => ?_
    obtain ⟨a', c', rfl, H2⟩ := HP.sep_left H
    have hs' := PL.isAt (HP.sep_left H2) (by omega)
    exact ⟨a', es.length + 1, c', PL kOp a' (es.length + 1) c' (es ++ [⟨b, o, none⟩]), rfl, ⟨inJ, fun _ => ⟨⟨j + 1, l, es ++ [⟨b, o, none⟩], f, lm, cm, by omega, by omega, by simp, fun _ => hs', by simp; omega, hM, hF, .refl _, hUn, hI.add hO (fun x hx => by cases hx) (fun x hx => by cases hx)⟩, meas⟩⟩, HP.sep_left H2⟩
  -- an Append begins
  · refine (cAppend_ok (s.at_ % 4) ia k cap (upI k) P rI (upI_len k) (by omega) 1 s.dataa _ s.datac s.data (Ls kStep17 sa steps.length steps) rS rfl (by omega)).weak (fun _ _ h => h) ?_
    rintro v R h ⟨b, rfl, H⟩
    have hO : OpOk k l { beginC (s.at_ % 4) (upI k) with cell := ⟨1, s.data⟩ } := appendC_ok hn1 (by simp [addrOk]; omega) (by simp [standB]; omega) rfl
    have hown : OwnC ⟨1, s.data⟩ { beginC (s.at_ % 4) (upI k) with cell := ⟨1, s.data⟩ } := fun _ => ⟨rfl, fun _ => rfl⟩
    generalize ({ beginC (s.at_ % 4) (upI k) with cell := ⟨1, s.data⟩ } : OpS) = o at *
    refine ⟨b, ORep b o, rfl, fun z => ?_, HP.pick [_, _, _] [2, 0, 1] (by decide) rfl H⟩
    clear H
    let e : OpE := ⟨b, o, some (cb, s.dataa, s.datac, ⟨1, s.data⟩)⟩
    refine (appendE ea es.length ec es z e (Ls kStep17 sa steps.length steps) (by omega)).conseq (K := HP.tt) ((hQ.sep _).trans (.of fun R h H => HP.sep_tt (HP.sep_mono H (fun _ h => h) fun y hy => HP.sep_mono hy (fun _ h => h) fun w hw => ?_))) fun v => .of fun R h H => ?_
    · have hro : (RoB s.dataa s.data.length s.data).p R w := ((HP.sep_right (HP.sep_right hw)).2.2 s (List.mem_of_getElem? hgj)).2.2.2
      refine HP.sep_assoc' (HP.sep_mono hw (fun _ h => h) fun q hq => HP.sep_mono hq (fun q1 hq1 => ?_) fun _ h => h)
      exact HP.sep_mono (RoC.joinR (B := HP.one cb (.cells #[.int .i64 1, .slice s.dataa s.data.length s.datac] 32 (0, 0))) hro hq1) (fun _ h => h) fun z hz => (⟨by show s.data.length ≤ 1000; omega, hz⟩ : (HP.and (s.data.length ≤ 1000) (RoB s.dataa s.data.length s.data)).p _ z)
    obtain ⟨a', c', rfl, H2⟩ := HP.sep_left H
    have hs' := PL.isAt (HP.sep_left H2) (by omega)
    exact ⟨a', es.length + 1, c', PL kOp a' (es.length + 1) c' (es ++ [e]), rfl, ⟨inJ, fun _ => ⟨⟨j + 1, l, es ++ [e], f, lm, cm, by omega, by omega, by simp, fun _ => hs', by simp; omega, hM, hF, .refl _, hUn, hI.add hO (fun x hx => by cases hx; exact hown) (fun x hx => by cases hx; show s.data.length ≤ 1000; omega)⟩, meas⟩⟩, H2⟩
  -- nothing has begun
  · exact ⟨inJ, fun _ => ⟨⟨j + 1, l, es, f, lm, cm, by omega, by omega, rfl, hea, by omega, hM, hF, hQ, hUn, hI.more⟩, meas⟩⟩
  -- an Op asks
  have hne : es.length ≠ 0 := by omega
  obtain ⟨q, hq, hqe⟩ := pickIx s.p hne
  have hgq : es[q]? = some es[q] := List.getElem?_eq_getElem hq
  generalize es[q] = e at hgq
  obtain ⟨hOe, howne, hbe⟩ := hI.ops e (List.mem_of_getElem? hgq)
  refine ⟨by rw [hqe]; omega, fun _ => ⟨by rw [hqe]; omega, fun _ => ⟨hea hne, fun _ => ?_⟩⟩⟩
  simp only [hqe, Int.toNat_natCast]
  refine ((loadE (k := q) hgq).pre hQ).weak (fun _ _ h => h) ?_
  rintro v R h ⟨rfl, H2⟩
  refine ⟨e.ob, ORep e.ob e.o, .pointer e.cptr, e.cellHp, PRest kOp ea es.length ec es q, rfl, fun _ => ?_, HP.sep_assoc H2⟩
  clear H2
  have hpl : e.o.state = 1 → 0 ≤ e.o.place ∧ e.o.place < e.o.us.length := fun h1 => by
    have := hOe.place hn1 h1
    rw [hOe.us]; simpa using this
  have hused : j < 400 := by omega
  refine ((ask17_ok e.ob e.o a k c l hpl (by rw [hOe.us]; simp; omega)).preE ((HP.ent.refl _).sep2 hUn)).weak (fun _ _ h => h) ?_
  rintro v R h ⟨rfl, H⟩
  have hI' := hI.ask hn1 hused hgq
  have hown' : ∀ x, e.cl = some x → OwnC x.2.2.2 (askS e.o l).2.1 := fun x hx => own_ask hI.len hn1 hI.units hused hOe (howne x hx)
  have hO' := (ask_any hI.len hn1 hI.units hused hOe).2.2.1
  have hlen' := hI'.len
  have hU' := hI'.units
  refine ⟨_, ORep e.ob (askS e.o l).2.1, UnL a k c (askS e.o l).2.2, rfl, ?_, H⟩
  clear H
  generalize hE : ({ e with o := (askS e.o l).2.1 } : OpE) = e2 at hI'
  have hjoin : ∀ R h, (HP.sep (PRest kOp ea es.length ec es q) (HP.sep (ORep e.ob (askS e.o l).2.1) e.cellHp)).p R h → (PL kOp ea es.length ec (es.set q e2)).p R h := fun R h H => by
    subst hE
    exact PL.join (K := kOp) (y := { e with o := (askS e.o l).2.1 }) hgq rfl H
  generalize (askS e.o l).2.1 = o' at *
  generalize (askS e.o l).2.2 = l' at *
  refine (cState_ok e.ob o').weak (fun _ _ h => h) ?_
  rintro v R h ⟨rfl, H⟩
  refine ⟨_, rfl, ?_, H⟩
  clear H
  have hsl : (es.set q e2).length = es.length := by simp
  refine ⟨fun hno => ⟨inJ, fun _ => ⟨⟨j + 1, l', es.set q e2, f, lm, cm, by omega, by omega, hsl.symm, hea, by omega, hM, hF, .of hjoin, .refl _, hI'⟩, meas⟩⟩, fun h2 => ?_⟩
  have hst := hO'.done h2
  have had := hO'.adr
  have hdC : doneC o' = o'.cell := by unfold doneC; rw [if_pos h2]
  -- what the checks, the map and the units answer
  have hcl : (e.cl = none ∧ e.cptr = none ∧ e.cellHp = HP.tt) ∨ ∃ cb xa xc x, e.cptr = some ⟨cb, 0, none⟩ ∧ e.cellHp = HP.sep (HP.one cb (.cells #[.int .i64 x.what, .slice xa x.data.length xc] 32 (0, 0))) (HP.and (x.data.length ≤ 1000) (RoB xa x.data.length x.data)) ∧ o'.cell = x := by
    cases hc : e.cl with
    | none => exact .inl ⟨rfl, by simp [OpE.cptr, hc], by simp [OpE.cellHp, hc]⟩
    | some y => exact .inr ⟨y.1, y.2.1, y.2.2.1, y.2.2.2, by simp [OpE.cptr, hc], by simp [OpE.cellHp, hc], (hown' y hc (.inr h2)).1⟩
  have hsame : ∀ (y : CellS) (ra : Option Addr) (rc : Nat) (ya : Option Addr) (yc : Nat) (Sy : HP) (B : Value → HP), y = o'.cell → o'.cell.data.length ≤ 140737488355328 → RdL Sy ya y.data.length (y.data.map u8v) →
      (∀ R h, (HP.sep (RoB ra o'.cell.data.length o'.cell.data) Sy).p R h → (B (.bool true)).p R h) →
      Tri Try.prog 21 #[.agg #[.int .i64 o'.cell.what, .slice ra o'.cell.data.length rc], .agg #[.int .i64 y.what, .slice ya y.data.length yc]] (HP.sep (RoB ra o'.cell.data.length o'.cell.data) Sy) B := fun y ra rc ya yc Sy B hy hb hr hB => by
    refine (sameCell_ok o'.cell.what ra _ rc o'.cell.data y.what ya _ yc y.data (RoB ra o'.cell.data.length o'.cell.data) Sy (RdL.ro _ _ _ _) hr rfl rfl hb).weak (fun _ _ h => h) ?_
    rintro v R h ⟨rfl, H⟩
    rw [decide_eq_true (by rw [hy]; exact ⟨rfl, rfl⟩)]
    exact hB R h H
  have hsame2 : ∀ (ra : Option Addr) (rc : Nat) (ya : Option Addr) (yc : Nat) (B : Value → HP), o'.cell.data.length ≤ 140737488355328 →
      (∀ R h, (HP.sep (RoB ya o'.cell.data.length o'.cell.data) (RoB ra o'.cell.data.length o'.cell.data)).p R h → (B (.bool true)).p R h) →
      Tri Try.prog 21 #[.agg #[.int .i64 o'.cell.what, .slice ya o'.cell.data.length yc], .agg #[.int .i64 o'.cell.what, .slice ra o'.cell.data.length rc]] (HP.sep (RoB ya o'.cell.data.length o'.cell.data) (RoB ra o'.cell.data.length o'.cell.data)) B := fun ra rc ya yc B hb hB => by
    refine (sameCell_ok o'.cell.what ya _ yc o'.cell.data o'.cell.what ra _ rc o'.cell.data (RoB ya o'.cell.data.length o'.cell.data) (RoB ra o'.cell.data.length o'.cell.data) (RdL.ro _ _ _ _) (RdL.ro _ _ _ _) rfl rfl hb).weak (fun _ _ h => h) ?_
    rintro v R h ⟨rfl, H⟩
    rw [decide_eq_true ⟨rfl, rfl⟩]
    exact hB R h H
  have hb : o'.cell.data.length ≤ 140737488355328 := by
    obtain ⟨u, hu, hc⟩ := hst
    have := hU'.valid _ _ _ _ hu hc
    unfold standB at this
    split at this
    · have := of_decide_eq_true this; omega
    · split at this
      · have := of_decide_eq_true this; omega
      · cases this
  obtain ⟨iz, hiz, hz1, _, _⟩ := info_parts infoC
  have hlook : (f o'.at' = none ∧ ORead Try.prog (lookS 88 (.map (some mb)) (.int .i64 o'.at') true) M (.tuple #[.agg #[.int .i64 0, .slice none 0 0], .bool false])) ∨
      ∃ ya yc, ORead Try.prog (lookS 88 (.map (some mb)) (.int .i64 o'.at') true) M (.tuple #[.agg #[.int .i64 o'.cell.what, .slice ya o'.cell.data.length yc], .bool true]) ∧ RdL M ya o'.cell.data.length (o'.cell.data.map u8v) := by
    have hl := look_ok (c := cm) iK undMc hiz hz1 o'.at' true (r := mb) (l := lm) (A := MapH CellV iE mb f lm cm) fun R h H => MapH.at H
    cases hf : f o'.at' with
    | none =>
      rw [hF.2 _ hf] at hl
      exact .inl ⟨rfl, hl.ent hM⟩
    | some y =>
      have hy : y = o'.cell := (hI'.done _ _ hf).one hst
      subst hy
      obtain ⟨ya, yc, hv, hn0⟩ := hF.1 _ _ hf
      rw [hv] at hl
      exact .inr ⟨ya, yc, hl.ent hM, RdL.ent hM (doneRd hf hv) hn0⟩
  have hupd : ∀ (ra : Option Addr) (rc : Nat), OTri Try.prog (updS 88 (.map (some mb)) (.int .i64 o'.at') (.agg #[.int .i64 o'.cell.what, .slice ra o'.cell.data.length rc])) (HP.sep M (RoB ra o'.cell.data.length o'.cell.data))
      (fun v => HP.and (v = .tuple #[]) (HP.ex fun lm' => HP.ex fun cm' => HP.and (DoneF lm' (fput f o'.at' (some o'.cell))) (HP.sep (MapH CellV iE mb (fput f o'.at' (some o'.cell)) lm' cm') (RoB ra o'.cell.data.length o'.cell.data)))) := fun ra rc => by
    refine ((MapH.put (c := cm) iK undMc cellV_pers o'.at' (.agg #[.int .i64 o'.cell.what, .slice ra o'.cell.data.length rc]) o'.cell (A := RoB ra o'.cell.data.length o'.cell.data) fun R h H => ⟨ra, rc, ⟨rfl, hb⟩, H⟩).pre (hM.sep _)).weak (fun _ _ h => h) ?_
    rintro v R h ⟨rfl, h1, h2, d, l1, l2, ⟨lm', cm', HM⟩, HA⟩
    exact ⟨rfl, lm', cm', DoneF.of HM, h1, h2, d, l1, l2, HM, HA⟩
  have hlast : ∀ (lm' : AL Int) (cm' : Nat) (U' : HP), DoneF lm' (fput f o'.at' (some o'.cell)) → HP.ent U' (UnL a k c l') → ∃ (j_1 : Nat) (l : List UR) (es' : List OpE) (f' : Int → Option CellS) (lm : AL Int) (cm : Nat), (j : Int) + 1 = j_1 ∧ j_1 ≤ steps.length ∧ es.length = es'.length ∧ (es.length ≠ 0 → ea.isSome = true) ∧ es'.length ≤ j_1 ∧ HP.ent (MapH CellV iE mb (fput f o'.at' (some o'.cell)) lm' cm') (MapH CellV iE mb f' lm cm) ∧ DoneF lm f' ∧ HP.ent (HP.sep (PRest kOp ea es.length ec es q) (HP.sep (ORep e.ob o') e.cellHp)) (PL kOp ea es.length ec es') ∧ HP.ent U' (UnL a k c l) ∧ OneI k l es' f' j_1 := fun lm' cm' U' hD hUU =>
    ⟨j + 1, l', es.set q e2, fput f o'.at' (some o'.cell), lm', cm', by omega, by omega, hsl.symm, hea, by omega, .refl _, hD, .of hjoin, hUU, hI'.put hst⟩
  have hrd : ∀ (i : Nat) (u : UR), l'[i]? = some u → readS u.s 0 o'.at' = (o'.cell, 0) := fun i u hu => read_any hU' had hu (stands.all hU' _ i (by have := (List.getElem?_eq_some_iff.1 hu).1; omega) hst)
  rcases hcl with ⟨_, hcp, hch⟩ | ⟨cb, xa, xc, x, hcp, hch, hcx⟩
  all_goals rw [hch] at hlast ⊢
  all_goals rw [hcp]
  all_goals rcases hlook with ⟨hf, hl⟩ | ⟨ya, yc, hl, hr⟩
  all_goals repeat' (first
    | intro (_ : Nat)
    | refine And.intro ?_ ?_
    | (refine (cCell_ok e.ob o').weak (fun _ _ h => h) ?_
       rintro v R h ⟨ra, rc, rfl, H⟩
       rw [hdC] at H ⊢
       refine ⟨_, ra, _, rc, RoB ra _ _, rfl, ?_, H⟩
       clear H)
    | (refine (cAt_ok e.ob o').weak (fun _ _ h => h) ?_
       rintro v R h ⟨rfl, H⟩
       refine ⟨_, rfl, ?_, H⟩
       clear H)
    | refine ⟨false, neqNil (p := none), fun hc => absurd hc (by decide), fun _ => ?_⟩
    | refine ⟨true, neqNil (p := some ⟨cb, 0, none⟩), fun _ => ⟨nilChk (p := ⟨cb, 0, none⟩), _, _, _, _, loadCell (b := cb) rfl, hsame x ra rc xa xc _ _ hcx.symm hb (RdL.imp fun R h H => (HP.sep_right H).2) fun R h H => ⟨true, rfl, ⟨fun h => absurd rfl h, fun _ => ?_⟩, H⟩⟩, fun hc => absurd rfl hc⟩
    | refine ⟨0, none, 0, 0, false, hl, fun _ => ⟨fun hc => absurd hc (by decide), fun _ => ?_⟩⟩
    | refine ⟨o'.cell.what, ya, o'.cell.data.length, yc, true, hl, fun _ => ⟨fun _ => hsame o'.cell ra rc ya yc M _ rfl hb hr fun R h H => ⟨true, rfl, ⟨fun h => absurd rfl h, fun _ => ?_⟩, H⟩, fun hc => absurd rfl hc⟩⟩
    | fail)
  all_goals
    refine (hupd ra rc).weak (fun _ _ h => h) ?_
    rintro v R h ⟨rfl, lm', cm', hD, H⟩
    refine ⟨MapH CellV iE mb (fput f o'.at' (some o'.cell)) lm' cm', rfl, ?_, H⟩
    clear H
    refine ⟨fun _ i U' => ∃ i' : Nat, i = i' ∧ i' ≤ k ∧ HP.ent U' (UnL a k c l'), fun _ i _ => k - i.toNat, ⟨0, rfl, Nat.zero_le _, .refl _⟩, ?_⟩
    rintro _ _ U' ⟨i, rfl, hik, hUU⟩
    refine ⟨fun hik2 => ⟨by omega, ?_⟩, fun _ => ⟨inJ, fun _ => ⟨hlast lm' cm' U' hD hUU, meas⟩⟩⟩
    intro _
    have hil : i < l'.length := by omega
    have hgi : l'[i]? = some l'[i] := List.getElem?_eq_getElem hil
    generalize l'[i] = u at hgi
    refine ((loadU_ok (k := i) hgi).pre hUU).weak (fun _ _ h => h) ?_
    rintro v R h ⟨rfl, H⟩
    refine ⟨u.ub, u.hp, UnRest a k c l' i, rfl, ?_, H⟩
    clear H
    refine (uRead_ok u.ub u.bd (DRep u.bd 400 u.ps u.ps.length) u.s 0 o'.at').weak (fun _ _ h => h) ?_
    rw [hrd i u hgi]
    dsimp only
    rintro v R h ⟨za, zc, rfl, H⟩
    refine ⟨_, za, _, zc, RoB za o'.cell.data.length o'.cell.data, 0, rfl, fun _ => ⟨fun h => absurd rfl h, fun _ => ?_⟩, HP.sep_comm H⟩
    clear H
    refine hsame2 ra rc za zc _ hb fun R h H => ?_
    refine ⟨true, rfl, ⟨fun h => absurd rfl h, fun _ => ⟨inI64 _ (by omega) (by omega), fun _ => ⟨⟨i + 1, by omega, by omega, .of fun R h H => ?_⟩, by first | omega | (dsimp only; omega)⟩⟩⟩, H⟩
    have := UnL.join hgi rfl H
    rw [set_same hgi] at this
    exact this
end Go.Proofs.Ytmibmjehjagmbaa

/- What comes into ChainOne, and its walk. No condition. -/
namespace Go.Proofs.Ytmibmjehjagmbaa
open Go.RowKit Go.ChangeShapes Go.WideShapes Go.Deep RX

set_option maxRecDepth 100000 in
theorem chainOne_walk {H : Type} (enc : TypeId × Value → H) (base : Nat) (v0 v1 : Value) (w : World)
    (k0 : Value.okWide Try.prog w .any base 3 v0) (h0 : ∃ d p, DataW.Trod enc Try.prog w 0 (fun _ => true) true 3 v0 d p ∧ Small Try.prog 3 d)
    (k1 : Value.okWide Try.prog w .any base 84 v1) (h1 : ∃ d p, DataW.Trod enc Try.prog w 0 (fun _ => true) true 84 v1 d p ∧ Small Try.prog 84 d) :
    Calls Try.prog 9 #[v0, v1] w fun e w' => e = .returned (.bool true) ∧ Below w.heap.size w w' := by
  obtain ⟨n0, rfl, r0⟩ := int_openR k0 h0
  obtain ⟨a1, l1, c1, rfl, b1, z1⟩ := slice_open kStep17 Try.underlying84 (by kernel_rfl) (of_decide_eq_true (by kernel_rfl)) Step17.of_trod k1 h1
  exact Tri.run (chainOne_ok n0 a1 c1 l1) (z1 _)
end Go.Proofs.Ytmibmjehjagmbaa
