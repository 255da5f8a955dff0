/- Texts of this claim, joined: TrLawCE, ChainEC, ChainEW. No condition. -/
import Derived.Test.YtmibmjehjagmbaaCEJ1
import Derived.Test.YtmibmjehjagmbaaCEJ5
import Derived.KernelRfl
set_option linter.unusedSimpArgs false
set_option linter.unusedVariables false
/- Trees of functions, printed by rx.lean. No condition. -/
namespace Go.Proofs.Ytmibmjehjagmbaa.RX
set_option maxRecDepth 100000
-- tideline/tidelinelaw17.ChainEnds: ρ := [.i size, .a stepsa, .n stepsl, .n stepsc, .p stepsP, .c last_New, .c last_Junk, .i last_P, .i last_At, .a last_Dataa, .n last_Datal, .n last_Datac, .p last_DataP]
def t_chainEnds : T :=
(.new
(.call 47 [] [] [.c] (.w (.a (.bool (.v 14)))) []
(.br (.o1 .not (.v 14))
 (.ret (.w (.a (.bool (.c false)))) [((.a 1), (.prop 4)), ((.a 9), (.prop 12))])
 (.br (.o2 .lt (.i 60) (.o1 .ofNat (.v 2)))
  (.ret (.w (.a (.bool (.c true)))) [((.a 1), (.prop 4)), ((.a 9), (.prop 12))])
  (.br (.o2 .lt (.i 100) (.o1 .ofNat (.v 10)))
   (.ret (.w (.a (.bool (.c true)))) [((.a 1), (.prop 4)), ((.a 9), (.prop 12))])
   (.need (.o1 (.inr .i64) (.o2 .add (.o2 (.bit .and .i64) (.v 0) (.i 3)) (.i 1)))
   (.call 48 [(.a (.int .i64 (.o2 .add (.o2 (.bit .and .i64) (.v 0) (.i 3)) (.i 1))))] [] [.a, .n, .n, .p] (.w (.a (.sl (.v 15) (.v 16) (.v 17)))) [((.a 15), (.prop 18))]
   (.br (.o1 .not (.o1 .isSome (.v 15)))
    (.ret (.w (.a (.bool (.c false)))) [((.a 1), (.prop 4)), ((.a 9), (.prop 12))])
    (.new
    (.loop [.a, .n, .n, .i, .p] [(.a (.b (.v 19) 0)), (.e (.o2 .nadd (.n 0) (.n 0))), (.e (.o2 .nadd (.n 0) (.n 0))), (.e (.o1 .neg (.o1 .neg (.i 0)))), (.p [((.b (.v 19)), (.cells [] 3))])]
     (.br (.o2 .lt (.v 23) (.o2 .add (.o2 (.bit .and .i64) (.v 0) (.i 3)) (.i 1)))
      (.new
      (.op (.call ⟨.builtin .append, #[(.tmp 44), (.tmp 46)], #[86, 86]⟩) 86 [(44, (.w (.a (.sl (.v 20) (.v 21) (.v 22))))), (46, (.w (.a (.sl (.b (.v 25) 0) (.n 1) (.n 1)))))] [((.a 20), (.prop 24)), ((.b (.v 25)), (.cells [(.int .i64 (.v 23))] 3))] [.a, .n, .n, .p] (.w (.a (.sl (.v 26) (.v 27) (.v 28)))) [((.a 26), (.prop 29)), ((.b (.v 25)), (.cells [(.int .i64 (.v 23))] 3))]
      (.need (.o1 (.inr .i64) (.o2 .add (.v 23) (.i 1)))
      (.again 0 [(.a (.v 26)), (.e (.o2 .nadd (.v 27) (.n 0))), (.e (.o2 .nadd (.v 28) (.n 0))), (.e (.o1 .neg (.o1 .neg (.o2 .add (.v 23) (.i 1))))), (.p [((.a 26), (.prop 29))])]))))
      (.loop [.c, .i, .p] [(.e (.o1 .not (.o1 .not (.c false)))), (.e (.o1 .neg (.o1 .neg (.i 0)))), (.p [((.a 15), (.prop 18))])]
       (.br (.o2 .lt (.v 26) (.o1 .ofNat (.v 2)))
        (.need (.o2 .le (.i 0) (.v 26))
        (.need (.o1 .isSome (.v 1))
        (.read (.load 90 (.tmp 52)) 90 [(52, (.w (.a (.eptr 1 (.v 26) 5 0))))] [((.a 1), (.prop 4))] [.c, .c, .i, .i, .a, .n, .n] (.w (.agg [(.bool (.v 28)), (.bool (.v 29)), (.int .i64 (.v 30)), (.int .i64 (.v 31)), (.sl (.v 32) (.v 33) (.v 34))]))
        (.new
        (.br (.o2 .lt (.i 100) (.o1 .ofNat (.v 33)))
         (.ret (.w (.a (.bool (.c true)))) [((.a 1), (.prop 4)), ((.a 9), (.prop 12))])
         (.call 50 [(.a (.int .i64 (.o2 (.bit .and .i64) (.v 31) (.i 3)))), (.a (.sl (.v 20) (.v 21) (.v 22))), (.agg [(.int .i64 (.i 1)), (.sl (.v 32) (.v 33) (.v 34))])] [((.a 20), (.prop 24)), ((.a 1), (.prop 4))] [.n, .p] (.w (.a (.ptr (.v 36) 0))) [((.b (.v 36)), (.prop 37)), ((.a 20), (.prop 24)), ((.a 1), (.prop 4))]
         (.loop [.i, .p, .p] [(.e (.o1 .neg (.o1 .neg (.i 0)))), (.p [((.b (.v 36)), (.prop 37))]), (.p [((.a 15), (.prop 27))])]
          (.br (.o2 .lt (.v 38) (.o2 (.bit .and .i64) (.v 30) (.i 3)))
           (.call 51 [(.a (.ptr (.v 36) 0)), (.a (.sl (.v 15) (.v 16) (.v 17)))] [((.b (.v 36)), (.prop 39)), ((.a 15), (.prop 40))] [.c, .p, .p] (.w (.a (.bool (.v 41)))) [((.b (.v 36)), (.prop 42)), ((.a 15), (.prop 43))]
           (.need (.o1 (.inr .i64) (.o2 .add (.v 38) (.i 1)))
           (.again 0 [(.e (.o1 .neg (.o1 .neg (.o2 .add (.v 38) (.i 1))))), (.p [((.b (.v 36)), (.prop 42))]), (.p [((.a 15), (.prop 43))])])))
           (.need (.o1 (.inr .i64) (.o2 .add (.v 26) (.i 1)))
           (.again 1 [(.e (.o1 .not (.o1 .not (.v 25)))), (.e (.o1 .neg (.o1 .neg (.o2 .add (.v 26) (.i 1))))), (.p [((.a 15), (.prop 40))])]))))))))))
        (.new
        (.call 50 [(.a (.int .i64 (.o2 (.bit .and .i64) (.v 8) (.i 3)))), (.a (.sl (.v 20) (.v 21) (.v 22))), (.agg [(.int .i64 (.i 1)), (.sl (.v 9) (.v 10) (.v 11))])] [((.a 20), (.prop 24)), ((.a 9), (.prop 12))] [.n, .p] (.w (.a (.ptr (.v 29) 0))) [((.b (.v 29)), (.prop 30)), ((.a 20), (.prop 24)), ((.a 9), (.prop 12))]
        (.br (.v 6)
         (.call 49 [(.a (.int .i64 (.o2 (.bit .and .i64) (.v 8) (.i 3)))), (.a (.sl (.v 20) (.v 21) (.v 22)))] [((.a 20), (.prop 24))] [.n, .p] (.w (.a (.ptr (.v 31) 0))) [((.b (.v 31)), (.prop 32)), ((.a 20), (.prop 24))]
         (.loop [.i, .c, .p, .p, .p] [(.e (.o1 .neg (.o1 .neg (.i 0)))), (.e (.o1 .not (.o1 .not (.v 25)))), (.p [((.b (.v 31)), (.prop 32))]), (.p [((.b (.v 29)), (.prop 30))]), (.p [((.a 15), (.prop 27))])]
          (.call 51 [(.a (.ptr (.v 31) 0)), (.a (.sl (.v 15) (.v 16) (.v 17)))] [((.b (.v 31)), (.prop 35)), ((.a 15), (.prop 37))] [.c, .p, .p] (.w (.a (.bool (.v 38)))) [((.b (.v 31)), (.prop 39)), ((.a 15), (.prop 40))]
          (.br (.v 38)
           (.need (.o1 (.inr .i64) (.o2 .add (.v 33) (.i 1)))
           (.need (.o1 (.inr .i64) (.o2 .add (.o2 .add (.o2 (.bit .and .i64) (.v 0) (.i 3)) (.i 1)) (.i 2)))
           (.br (.o2 .lt (.o2 .add (.o2 .add (.o2 (.bit .and .i64) (.v 0) (.i 3)) (.i 1)) (.i 2)) (.o2 .add (.v 33) (.i 1)))
            (.ret (.w (.a (.bool (.c false)))) [((.a 1), (.prop 4)), ((.a 9), (.prop 12))])
            (.again 0 [(.e (.o1 .neg (.o1 .neg (.o2 .add (.v 33) (.i 1))))), (.e (.o1 .not (.o1 .not (.v 34)))), (.p [((.b (.v 31)), (.prop 39))]), (.p [((.b (.v 29)), (.prop 36))]), (.p [((.a 15), (.prop 40))])]))))
           (.call 52 [(.a (.ptr (.v 31) 0))] [((.b (.v 31)), (.prop 39))] [.i] (.w (.a (.int .i64 (.v 41)))) [((.b (.v 31)), (.prop 39))]
           (.ret (.w (.a (.bool (.o2 .eq (.v 41) (.i 2))))) [((.a 1), (.prop 4)), ((.a 9), (.prop 12))]))))))
         (.loop [.i, .c, .p, .p] [(.e (.o1 .neg (.o1 .neg (.i 0)))), (.e (.o1 .not (.o1 .not (.v 25)))), (.p [((.b (.v 29)), (.prop 30))]), (.p [((.a 15), (.prop 27))])]
          (.call 51 [(.a (.ptr (.v 29) 0)), (.a (.sl (.v 15) (.v 16) (.v 17)))] [((.b (.v 29)), (.prop 33)), ((.a 15), (.prop 34))] [.c, .p, .p] (.w (.a (.bool (.v 35)))) [((.b (.v 29)), (.prop 36)), ((.a 15), (.prop 37))]
          (.br (.v 35)
           (.need (.o1 (.inr .i64) (.o2 .add (.v 31) (.i 1)))
           (.need (.o1 (.inr .i64) (.o2 .add (.o2 .add (.o2 (.bit .and .i64) (.v 0) (.i 3)) (.i 1)) (.i 2)))
           (.br (.o2 .lt (.o2 .add (.o2 .add (.o2 (.bit .and .i64) (.v 0) (.i 3)) (.i 1)) (.i 2)) (.o2 .add (.v 31) (.i 1)))
            (.ret (.w (.a (.bool (.c false)))) [((.a 1), (.prop 4)), ((.a 9), (.prop 12))])
            (.again 0 [(.e (.o1 .neg (.o1 .neg (.o2 .add (.v 31) (.i 1))))), (.e (.o1 .not (.o1 .not (.v 32)))), (.p [((.b (.v 29)), (.prop 36))]), (.p [((.a 15), (.prop 37))])]))))
           (.need (.o2 .lt (.i 0) (.o1 .ofNat (.v 16)))
           (.all
            (.op (.load 26 (.tmp 109)) 26 [(109, (.w (.a (.eptr 15 (.i 0) 1 0))))] [((.a 15), (.prop 37))] [.n, .p, .p] (.w (.a (.ptr (.v 38) 0))) [((.b (.v 38)), (.prop 39)), ((.a 15), (.prop 40))]
            (.all
             (.call 19 [(.a (.ptr (.v 38) 0)), (.a (.int .i64 (.i 0))), (.a (.int .i64 (.o2 (.bit .and .i64) (.v 8) (.i 3))))] [((.b (.v 38)), (.prop 39))] [.i, .a, .n, .n, .p, .i] (.tup [(.agg [(.int .i64 (.v 41)), (.sl (.v 42) (.v 43) (.v 44))]), (.a (.int .i64 (.v 46)))]) [((.a 42), (.prop 45)), ((.b (.v 38)), (.prop 39))]
             (.new
             (.call 52 [(.a (.ptr (.v 29) 0))] [((.b (.v 29)), (.prop 36))] [.i] (.w (.a (.int .i64 (.v 48)))) [((.b (.v 29)), (.prop 36))]
             (.br (.o2 .eq (.v 48) (.i 3))
              (.br (.o2 .eq (.v 46) (.i 0))
               (.call 21 [(.agg [(.int .i64 (.i 1)), (.sl (.v 9) (.v 10) (.v 11))]), (.agg [(.int .i64 (.v 41)), (.sl (.v 42) (.v 43) (.v 44))])] [((.a 9), (.prop 12)), ((.a 42), (.prop 45))] [.c] (.w (.a (.bool (.v 49)))) [((.a 9), (.prop 12)), ((.a 42), (.prop 45))]
               (.ret (.w (.a (.bool (.o1 .not (.v 49))))) [((.a 1), (.prop 4)), ((.a 9), (.prop 12))]))
               (.ret (.w (.a (.bool (.c false)))) [((.a 1), (.prop 4)), ((.a 9), (.prop 12))]))
              (.call 52 [(.a (.ptr (.v 29) 0))] [((.b (.v 29)), (.prop 36))] [.i] (.w (.a (.int .i64 (.v 49)))) [((.b (.v 29)), (.prop 36))]
              (.br (.o2 .eq (.v 49) (.i 2))
               (.br (.o2 .eq (.v 46) (.i 0))
                (.call 21 [(.agg [(.int .i64 (.i 1)), (.sl (.v 9) (.v 10) (.v 11))]), (.agg [(.int .i64 (.v 41)), (.sl (.v 42) (.v 43) (.v 44))])] [((.a 9), (.prop 12)), ((.a 42), (.prop 45))] [.c] (.w (.a (.bool (.v 50)))) [((.a 9), (.prop 12)), ((.a 42), (.prop 45))]
                (.ret (.w (.a (.bool (.v 50)))) [((.a 1), (.prop 4)), ((.a 9), (.prop 12))]))
                (.ret (.w (.a (.bool (.c false)))) [((.a 1), (.prop 4)), ((.a 9), (.prop 12))]))
               (.ret (.w (.a (.bool (.c false)))) [((.a 1), (.prop 4)), ((.a 9), (.prop 12))])))))))
             (.new
             (.call 19 [(.a (.ptr (.v 38) 0)), (.a (.int .i64 (.i 0))), (.a (.int .i64 (.o2 (.bit .and .i64) (.v 8) (.i 3))))] [((.b (.v 38)), (.prop 39))] [.i, .a, .n, .n, .p, .i] (.tup [(.agg [(.int .i64 (.v 42)), (.sl (.v 43) (.v 44) (.v 45))]), (.a (.int .i64 (.v 47)))]) [((.a 43), (.prop 46)), ((.b (.v 38)), (.prop 39))]
             (.call 52 [(.a (.ptr (.v 29) 0))] [((.b (.v 29)), (.prop 36))] [.i] (.w (.a (.int .i64 (.v 48)))) [((.b (.v 29)), (.prop 36))]
             (.br (.o2 .eq (.v 48) (.i 3))
              (.br (.o2 .eq (.v 47) (.i 0))
               (.call 21 [(.agg [(.int .i64 (.i 1)), (.sl (.v 9) (.v 10) (.v 11))]), (.agg [(.int .i64 (.v 42)), (.sl (.v 43) (.v 44) (.v 45))])] [((.a 9), (.prop 12)), ((.a 43), (.prop 46))] [.c] (.w (.a (.bool (.v 49)))) [((.a 9), (.prop 12)), ((.a 43), (.prop 46))]
               (.ret (.w (.a (.bool (.o1 .not (.v 49))))) [((.a 1), (.prop 4)), ((.a 9), (.prop 12))]))
               (.ret (.w (.a (.bool (.c false)))) [((.a 1), (.prop 4)), ((.a 9), (.prop 12))]))
              (.call 52 [(.a (.ptr (.v 29) 0))] [((.b (.v 29)), (.prop 36))] [.i] (.w (.a (.int .i64 (.v 49)))) [((.b (.v 29)), (.prop 36))]
              (.br (.o2 .eq (.v 49) (.i 2))
               (.br (.o2 .eq (.v 47) (.i 0))
                (.call 21 [(.agg [(.int .i64 (.i 1)), (.sl (.v 9) (.v 10) (.v 11))]), (.agg [(.int .i64 (.v 42)), (.sl (.v 43) (.v 44) (.v 45))])] [((.a 9), (.prop 12)), ((.a 43), (.prop 46))] [.c] (.w (.a (.bool (.v 50)))) [((.a 9), (.prop 12)), ((.a 43), (.prop 46))]
                (.ret (.w (.a (.bool (.v 50)))) [((.a 1), (.prop 4)), ((.a 9), (.prop 12))]))
                (.ret (.w (.a (.bool (.c false)))) [((.a 1), (.prop 4)), ((.a 9), (.prop 12))]))
               (.ret (.w (.a (.bool (.c false)))) [((.a 1), (.prop 4)), ((.a 9), (.prop 12))])))))))))
            (.new
            (.op (.load 26 (.tmp 109)) 26 [(109, (.w (.a (.eptr 15 (.i 0) 1 0))))] [((.a 15), (.prop 37))] [.n, .p, .p] (.w (.a (.ptr (.v 39) 0))) [((.b (.v 39)), (.prop 40)), ((.a 15), (.prop 41))]
            (.call 19 [(.a (.ptr (.v 39) 0)), (.a (.int .i64 (.i 0))), (.a (.int .i64 (.o2 (.bit .and .i64) (.v 8) (.i 3))))] [((.b (.v 39)), (.prop 40))] [.i, .a, .n, .n, .p, .i] (.tup [(.agg [(.int .i64 (.v 42)), (.sl (.v 43) (.v 44) (.v 45))]), (.a (.int .i64 (.v 47)))]) [((.a 43), (.prop 46)), ((.b (.v 39)), (.prop 40))]
            (.call 52 [(.a (.ptr (.v 29) 0))] [((.b (.v 29)), (.prop 36))] [.i] (.w (.a (.int .i64 (.v 48)))) [((.b (.v 29)), (.prop 36))]
            (.br (.o2 .eq (.v 48) (.i 3))
             (.br (.o2 .eq (.v 47) (.i 0))
              (.call 21 [(.agg [(.int .i64 (.i 1)), (.sl (.v 9) (.v 10) (.v 11))]), (.agg [(.int .i64 (.v 42)), (.sl (.v 43) (.v 44) (.v 45))])] [((.a 9), (.prop 12)), ((.a 43), (.prop 46))] [.c] (.w (.a (.bool (.v 49)))) [((.a 9), (.prop 12)), ((.a 43), (.prop 46))]
              (.ret (.w (.a (.bool (.o1 .not (.v 49))))) [((.a 1), (.prop 4)), ((.a 9), (.prop 12))]))
              (.ret (.w (.a (.bool (.c false)))) [((.a 1), (.prop 4)), ((.a 9), (.prop 12))]))
             (.call 52 [(.a (.ptr (.v 29) 0))] [((.b (.v 29)), (.prop 36))] [.i] (.w (.a (.int .i64 (.v 49)))) [((.b (.v 29)), (.prop 36))]
             (.br (.o2 .eq (.v 49) (.i 2))
              (.br (.o2 .eq (.v 47) (.i 0))
               (.call 21 [(.agg [(.int .i64 (.i 1)), (.sl (.v 9) (.v 10) (.v 11))]), (.agg [(.int .i64 (.v 42)), (.sl (.v 43) (.v 44) (.v 45))])] [((.a 9), (.prop 12)), ((.a 43), (.prop 46))] [.c] (.w (.a (.bool (.v 50)))) [((.a 9), (.prop 12)), ((.a 43), (.prop 46))]
               (.ret (.w (.a (.bool (.v 50)))) [((.a 1), (.prop 4)), ((.a 9), (.prop 12))]))
               (.ret (.w (.a (.bool (.c false)))) [((.a 1), (.prop 4)), ((.a 9), (.prop 12))]))
              (.ret (.w (.a (.bool (.c false)))) [((.a 1), (.prop 4)), ((.a 9), (.prop 12))])))))))))))))))))))))))))))))
theorem tree_chainEnds : tree Try.prog { absT := [], opq := [], hv := [(0, [(.b (.v 19))]), (2, [(.a 15)]), (4, [(.b (.v 36)), (.a 15)]), (6, [(.b (.v 31)), (.a 15), (.b (.v 29))])], keep := [52, 54, 53, 56, 92, 21, 50, 49, 19], link := [(17, 0)], ent := [], turn := [(45, [0]), (55, [0])], shr := [], vt := [], mkd := [], rlink := [], pty := [], outl := true } Try.f10 [(.a (.int .i64 (.v 0))), (.a (.sl (.v 1) (.v 2) (.v 3))), (.agg [(.bool (.v 5)), (.bool (.v 6)), (.int .i64 (.v 7)), (.int .i64 (.v 8)), (.sl (.v 9) (.v 10) (.v 11))])] [((.a 1), (.prop 4)), ((.a 9), (.prop 12))] 13 = t_chainEnds := by kernel_rfl
end Go.Proofs.Ytmibmjehjagmbaa.RX

/- ChainEnds, over what came in as assertions. No condition. -/
namespace Go.Proofs.Ytmibmjehjagmbaa
set_option linter.unusedSimpArgs false
set_option linter.unusedVariables false
open Go.Proofs.Ytmibmjehjagmbaa RX

theorem read_at {l : List UR} {used : Nat} {u : UR} {a : Int} {y : CellS} (hU : UnitsOk l used) (ha : addrOk a = true) (hu : l[0]? = some u) (hy : stands l 0 a y) : readS u.s 0 a = (y, 0) := by
  obtain ⟨v, hv, hc⟩ := hy
  rw [hu] at hv
  cases hv
  have hf := (hU.fresh _ _ hu).1
  unfold readS
  rw [if_neg (by simp [reach_fresh hf ha]), if_neg (low_fresh hf ha), hc]
theorem addr3 (x : Int) : addrOk (x % 4) = true := by simp [addrOk]; omega
theorem beginC_going (at' : Int) {n : Nat} (h : 1 ≤ n) : (beginC at' (upI n)).state = 1 := by
  show (if (upI n).length = 0 then (3 : Int) else 1) = 1
  rw [upI_len, if_neg (by omega)]
set_option maxRecDepth 100000 in
set_option maxHeartbeats 2000000 in
theorem chainEnds_ok (size : Int) (sa : Option Addr) (sc : Nat) (steps : List Step17) (x : Step17) (hst : ∀ s ∈ steps, s.data.length ≤ 140737488355328) :
    Tri Try.prog 10 #[.int .i64 size, .slice sa steps.length sc, .agg x.vals.toArray] (HP.sep (Ls kStep17 sa steps.length steps) (RoB x.dataa x.data.length x.data)) (fun v => HP.pure (v = .bool true)) := by
  refine Tri.fact (φ := steps.length ≠ 0 → sa.isSome = true) (fun R h H hn => RoC.some (HP.sep_left H).2.1 (by omega)) fun hsa => ?_
  refine tri_of_tree (ρ := [.i size, .a sa, .n steps.length, .n sc, .p (Ls kStep17 sa steps.length steps), .c x.new, .c x.junk, .i x.p, .i x.at_, .a x.dataa, .n x.data.length, .n x.datac, .p (RoB x.dataa x.data.length x.data)]) mixed Try.func10 tree_chainEnds ?_
  unfold t_chainEnds
  simp only [T.den, E.prop, E.den, RX.look, F1.app, F2.app, Uni.int_i, Uni.nat_n, Uni.bool_c, Uni.str_s, Uni.adr_a, Uni.val_v, Uni.hp_p, hden, cden, V.den, W.den, A.den, BR.den, SA.den, FV.den, capV, exs, exP, allP, Cur.app, List.map_cons, List.map_nil, List.cons_append, List.nil_append, List.drop_succ_cons, List.drop_zero, List.length_cons, List.length_nil, Nat.zero_add, Nat.reduceAdd, Int.neg_neg, Bool.not_not, List.append_nil, Nat.add_zero, List.getElem?_cons_zero, List.getElem?_cons_succ, Decidable.not_not, and3]
  intro _
  refine speaks17_ok.weak (fun _ _ _ => trivial) ?_
  rintro v R h rfl
  refine ⟨true, rfl, ⟨fun h => absurd rfl h, fun _ => ⟨fun _ => .of fun R h H => trivial, fun h60 => ⟨fun _ => .of fun R h H => trivial, fun h100 => ?_⟩⟩⟩, trivial⟩
  obtain ⟨n, hn⟩ : ∃ n : Nat, size % 4 + 1 = n := ⟨_, (Int.toNat_of_nonneg (by omega)).symm⟩
  have hn1 : 1 ≤ n := by omega
  have hn4 : n ≤ 4 := by omega
  simp only [hn]
  refine ⟨inI64 _ (by omega) (by omega), fun _ => ?_⟩
  refine (laid17_ok n (by omega)).weak (fun _ _ _ => trivial) ?_
  rintro v R h ⟨a, c, l0, ⟨rfl, hl0⟩, H⟩
  have hlen0 : l0.length = n := H.1
  have hasome : a.isSome = true := OwC.some (HP.sep_left H.2) (by omega)
  refine ⟨a, n, c, UnL a n c l0, rfl, ⟨fun h => absurd hasome h, fun _ y => ?_⟩, H⟩
  clear H
  refine ⟨fun ia len cap i P => ∃ k : Nat, i = k ∧ k ≤ n ∧ len = k ∧ ia.isSome = true ∧ ChI P ia k cap, fun _ _ _ i _ => n - i.toNat, ⟨0, rfl, Nat.zero_le _, rfl, rfl, ChI.zero y⟩, ?_⟩
  rintro ia k cap _ P ⟨_, rfl, hk, rfl, hia, hP⟩
  refine ⟨fun hlt z => ?_, fun hge => ?_⟩
  · rw [semOf_append (by decide)]
    simp only [T.den, E.prop, E.den, RX.look, F1.app, F2.app, Uni.int_i, Uni.nat_n, Uni.bool_c, Uni.str_s, Uni.adr_a, Uni.val_v, Uni.hp_p, hden, cden, V.den, W.den, A.den, BR.den, SA.den, FV.den, capV, exs, exP, allP, Cur.app, List.map_cons, List.map_nil, List.cons_append, List.nil_append, List.drop_succ_cons, List.drop_zero, List.length_cons, List.length_nil, Nat.zero_add, Nat.reduceAdd, Int.neg_neg, Bool.not_not, List.append_nil, Nat.add_zero, List.getElem?_cons_zero, List.getElem?_cons_succ, Decidable.not_not]
    refine (hP.app (by omega)).weak (fun _ _ h => h) ?_
    rintro v R h ⟨a', c', ⟨rfl, ha'⟩, H⟩
    exact ⟨a', k + 1, c', OwI a' (k + 1) c' (upI (k + 1)), rfl, ⟨inI64 _ (by omega) (by omega), fun _ => ⟨⟨k + 1, by omega, by omega, rfl, ha', ChI.own _ _ _⟩, by omega⟩⟩, H⟩
  obtain rfl : k = n := by omega
  have rI := hP.rd (by omega) hia
  -- an ask of any Op
  have place : ∀ {l : List UR} {o : OpS}, OpOk k l o → o.state = 1 → 0 ≤ o.place ∧ o.place < o.us.length := fun {l o} hO h1 => by
    have := hO.place hn1 h1
    rw [hO.us]; simpa using this
  have uslen : ∀ {l : List UR} {o : OpS}, OpOk k l o → o.us.length ≤ 1000 := fun {l o} hO => by
    rw [hO.us]; simp; omega
  refine ⟨fun _ i Q => ∃ (j : Nat) (l : List UR), i = j ∧ j ≤ steps.length ∧ Q = UnL a k c l ∧ l.length = k ∧ UnitsOk l (3 * j), fun _ i _ => steps.length - i.toNat, ⟨0, l0, rfl, Nat.zero_le _, rfl, hlen0, new_ok hl0⟩, ?_⟩
  rintro _ _ _ ⟨j, l, rfl, hj, rfl, hlen, hU⟩
  refine ⟨fun hlt => ⟨by omega, fun _ => ⟨hsa (by omega), fun _ => ?_⟩⟩, fun hge _ => ?_⟩
  · have hjl : j < steps.length := by omega
    have hgj : steps[j]? = some steps[j] := List.getElem?_eq_getElem hjl
    have hsd := hst _ (List.getElem_mem hjl)
    generalize steps[j] = s at hgj hsd
    refine ⟨_, _, _, _, _, _, _, Step17.load (a := sa) (n := steps.length) hgj, fun _ => ⟨fun _ => .of fun R h H => trivial, fun hs100 => ?_⟩⟩
    refine (cAppend_ok (s.at_ % 4) ia k cap (upI k) P rI (upI_len k) (by omega) 1 s.dataa _ s.datac s.data (Ls kStep17 sa steps.length steps) ?_ rfl (by omega)).weak (fun _ _ h => h) ?_
    · exact RdL.imp fun R y H => ((H.2.2 s (List.mem_of_getElem? hgj)).2.2.2 : _)
    rintro v R h ⟨b, rfl, H⟩
    have hO : OpOk k l { beginC (s.at_ % 4) (upI k) with cell := ⟨1, s.data⟩ } := appendC_ok hn1 (addr3 _) (by simp [standB]; omega) rfl
    generalize ({ beginC (s.at_ % 4) (upI k) with cell := ⟨1, s.data⟩ } : OpS) = o at *
    refine ⟨b, ORep b o, rfl, ?_, HP.pick [_, _, _] [2, 0, 1] (by decide) rfl H⟩
    clear H
    refine ⟨fun i A B => ∃ q : Nat, i = q ∧ q ≤ 3 ∧ A = ORep b (itC o l q).1 ∧ B = UnL a k c (itC o l q).2, fun i _ _ => 9 - i.toNat, ⟨0, rfl, by omega, rfl, rfl⟩, ?_⟩
    rintro _ _ _ ⟨q, rfl, hq, rfl, rfl⟩
    obtain ⟨b1, b2, b3, b4⟩ := itC_ok hlen hn1 hU hO q (by omega)
    refine ⟨fun hqn => ?_, fun _ => ?_⟩
    · refine (ask17_ok b _ a k c _ (place b3) (uslen b3)).weak (fun _ _ h => h) ?_
      rintro v R h ⟨rfl, H⟩
      exact ⟨_, ORep b (itC o l (q + 1)).1, UnL a k c (itC o l (q + 1)).2, rfl, ⟨inI64 _ (by omega) (by omega), fun _ => ⟨⟨q + 1, by omega, by omega, rfl, rfl⟩, by dsimp only; omega⟩⟩, H⟩
    · have more : ∀ d, UnitsOk (itC o l q).2 (3 * j + q + d) := fun d => by
        induction d with
        | zero => exact b2
        | succ d ih => exact ih.more
      have := more (3 - q)
      exact ⟨inI64 _ (by omega) (by omega), fun _ => ⟨⟨j + 1, (itC o l q).2, by omega, by omega, rfl, b1, by rw [show 3 * (j + 1) = 3 * j + q + (3 - q) by omega]; exact this⟩, by dsimp only; omega⟩⟩
  have hju : 3 * j ≤ 180 := by omega
  refine (cAppend_ok (x.at_ % 4) ia k cap (upI k) P rI (upI_len k) (by omega) 1 x.dataa _ x.datac x.data (RoB x.dataa x.data.length x.data) (RdL.ro _ _ _ _) rfl (by omega)).weak (fun _ _ h => h) ?_
  rintro v R h ⟨b, rfl, H⟩
  have hO : OpOk k l { beginC (x.at_ % 4) (upI k) with cell := ⟨1, x.data⟩ } := appendC_ok hn1 (addr3 _) (by simp [standB]; omega) rfl
  have hA : AppC ⟨1, x.data⟩ l { beginC (x.at_ % 4) (upI k) with cell := ⟨1, x.data⟩ } := ⟨fun _ => ⟨rfl, fun _ => rfl⟩, fun h3 => absurd ((beginC_going (x.at_ % 4) hn1).symm.trans h3) (by decide)⟩
  have hat : ({ beginC (x.at_ % 4) (upI k) with cell := ⟨1, x.data⟩ } : OpS).at' = x.at_ % 4 := rfl
  generalize ({ beginC (x.at_ % 4) (upI k) with cell := ⟨1, x.data⟩ } : OpS) = o at *
  refine ⟨b, ORep b o, rfl, ⟨fun hjunk => ?_, fun hjunk => ?_⟩, HP.pick [_, _, _] [2, 0, 1] (by decide) rfl H⟩
  · clear H hO hA hat
    refine (cResolve_ok (x.at_ % 4) ia k cap (upI k) P rI (upI_len k) (by omega)).weak (fun _ _ h => h) ?_
    rintro v R h ⟨b', rfl, H⟩
    have hO : OpOk k l { beginC (x.at_ % 4) (upI k) with step := 1, place := ((upI k).length : Int) - 1 } := resolveC_ok hn1 (addr3 _) rfl
    rw [upI_len] at hO
    have hR : ResC { beginC (x.at_ % 4) (upI k) with step := 1, place := (k : Int) - 1 } := ⟨fun h3 => absurd ((beginC_going (x.at_ % 4) hn1).symm.trans h3) (by decide), fun _ h => absurd (show (1 : Int) = 0 from h) (by decide)⟩
    generalize ({ beginC (x.at_ % 4) (upI k) with step := 1, place := (k : Int) - 1 } : OpS) = o2 at *
    refine ⟨b', ORep b' o2, rfl, ?_, HP.sep_comm H⟩
    clear H
    refine ⟨fun i _ A _ B => ∃ (q : Nat) (o' : OpS) (l' : List UR), i = q ∧ A = ORep b' o' ∧ B = UnL a k c l' ∧ q + leftC k o' ≤ k + 2 ∧ l'.length = k ∧ UnitsOk l' (180 + q) ∧ OpOk k l' o' ∧ ResC o', fun i _ _ _ _ => 9 - i.toNat,
      ⟨0, o2, l, rfl, rfl, rfl, by have := left_le hO; omega, hlen, ?_, hO, hR⟩, ?_⟩
    · have more : ∀ d, UnitsOk l (3 * j + d) := fun d => by
        induction d with
        | zero => exact hU
        | succ d ih => exact ih.more
      have := more (180 - 3 * j)
      rw [show 3 * j + (180 - 3 * j) = 180 + 0 by omega] at this
      exact this
    rintro _ _ _ _ _ ⟨q, o', l', rfl, rfl, rfl, hleft, hlen', hU', hO', hR'⟩
    refine (ask17_ok b' o' a k c l' (place hO') (uslen hO')).weak (fun _ _ h => h) ?_
    rintro v R h ⟨rfl, H⟩
    obtain ⟨c1, c2, c3, _, c4, c5⟩ := ask_any hlen' hn1 hU' (by omega) hO'
    have c6 := ask_res hlen' hn1 hU' (by omega) hO' hR'
    refine ⟨_, ORep b' (askS o' l').2.1, UnL a k c (askS o' l').2.2, rfl, ⟨fun hy => ?_, fun hno => ?_⟩, H⟩
    · have h1 := c4.1 hy
      have hd := ask_left hlen' hn1 hU' (by omega) hO' h1
      refine ⟨inI64 _ (by omega) (by omega), fun _ => ⟨inI64 _ (by omega) (by omega), fun _ => ⟨fun h => absurd h (by omega), fun _ => ⟨⟨q + 1, (askS o' l').2.1, (askS o' l').2.2, by omega, rfl, rfl, by omega, c1.1.trans hlen', c2, c3, c6⟩, by dsimp only; omega⟩⟩⟩⟩
    · have h1 : o'.state ≠ 1 := fun h => hno (c4.2 h)
      rw [c5 h1]
      refine (cState_ok b' o').weak (fun _ _ h => h) ?_
      rintro v R h ⟨rfl, H⟩
      have h2 : o'.state = 2 := by
        rcases hO'.state with h | h | h
        · exact absurd h h1
        · exact h
        · exact absurd h hR'.1
      exact ⟨_, rfl, .of fun R h H => by rw [h2]; rfl, H⟩
  · clear H
    refine ⟨fun i _ A B => ∃ (q : Nat) (o' : OpS) (l' : List UR), i = q ∧ A = ORep b o' ∧ B = UnL a k c l' ∧ q + leftC k o' ≤ k + 2 ∧ l'.length = k ∧ UnitsOk l' (180 + q) ∧ OpOk k l' o' ∧ AppC ⟨1, x.data⟩ l' o' ∧ o'.at' = x.at_ % 4, fun i _ _ _ => 9 - i.toNat,
      ⟨0, o, l, rfl, rfl, rfl, by have := left_le hO; omega, hlen, ?_, hO, hA, hat⟩, ?_⟩
    · have more : ∀ d, UnitsOk l (3 * j + d) := fun d => by
        induction d with
        | zero => exact hU
        | succ d ih => exact ih.more
      have := more (180 - 3 * j)
      rw [show 3 * j + (180 - 3 * j) = 180 + 0 by omega] at this
      exact this
    rintro _ _ _ _ ⟨q, o', l', rfl, rfl, rfl, hleft, hlen', hU', hO', hA', hat'⟩
    refine (ask17_ok b o' a k c l' (place hO') (uslen hO')).weak (fun _ _ h => h) ?_
    rintro v R h ⟨rfl, H⟩
    obtain ⟨c1, c2, c3, c3', c4, c5⟩ := ask_any hlen' hn1 hU' (by omega) hO'
    have c6 := ask_app hlen' hn1 hU' (by omega) hO' hA'
    refine ⟨_, ORep b (askS o' l').2.1, UnL a k c (askS o' l').2.2, rfl, ⟨fun hy => ?_, fun hno => ?_⟩, H⟩
    · have h1 := c4.1 hy
      have hd := ask_left hlen' hn1 hU' (by omega) hO' h1
      refine ⟨inI64 _ (by omega) (by omega), fun _ => ⟨inI64 _ (by omega) (by omega), fun _ => ⟨fun h => absurd h (by omega), fun _ => ⟨⟨q + 1, (askS o' l').2.1, (askS o' l').2.2, by omega, rfl, rfl, by omega, c1.1.trans hlen', c2, c3, c6, c3'.trans hat'⟩, by dsimp only; omega⟩⟩⟩⟩
    · clear H
      have h1 : o'.state ≠ 1 := fun h => hno (c4.2 h)
      rw [c5 h1]
      dsimp only
      have h23 : o'.state = 2 ∨ o'.state = 3 := by
        rcases hO'.state with h | h | h
        · exact absurd h h1
        · exact .inl h
        · exact .inr h
      obtain ⟨y, hy0, hy2, hy3⟩ : ∃ y, stands l' 0 (x.at_ % 4) y ∧ (o'.state = 2 → y = ⟨1, x.data⟩) ∧ (o'.state = 3 → y ≠ ⟨1, x.data⟩) := by
        rcases h23 with h | h
        · refine ⟨o'.cell, ?_, fun _ => (hA'.1 (.inr h)).1, fun h' => by omega⟩
          have := stands.all hU' _ 0 (Nat.zero_le _) (hO'.done h)
          rw [hat'] at this; exact this
        · obtain ⟨y, e1, e2⟩ := hA'.2 h
          exact ⟨y, by rw [hat'] at e2; exact e2, fun h' => by omega, fun _ => e1⟩
      have hk0 : 0 < l'.length := by omega
      have hg0 : l'[0]? = some l'[0] := List.getElem?_eq_getElem hk0
      generalize l'[0] = u at hg0
      have hrd := read_at hU' (addr3 x.at_) hg0 hy0
      have hpos : (0 : Int) < k := by omega
      have hcmp : ∀ (ra : Option Addr) (rc : Nat) (B : Value → HP), (∀ R h, (HP.sep (RoB x.dataa x.data.length x.data) (RoB ra y.data.length y.data)).p R h → (B (.bool (decide (o'.state = 2)))).p R h) → Tri Try.prog 21 #[.agg #[.int .i64 1, .slice x.dataa x.data.length x.datac], .agg #[.int .i64 y.what, .slice ra y.data.length rc]] (HP.sep (RoB x.dataa x.data.length x.data) (RoB ra y.data.length y.data)) B := fun ra rc B hB => by
        refine (sameCell_ok 1 x.dataa _ x.datac x.data y.what ra _ rc y.data (RoB x.dataa x.data.length x.data) (RoB ra y.data.length y.data) (RdL.ro _ _ _ _) (RdL.ro _ _ _ _) rfl rfl (by omega)).weak (fun _ _ h => h) ?_
        rintro v R h ⟨rfl, H⟩
        have e : decide (1 = y.what ∧ x.data = y.data) = decide (o'.state = 2) := by
          refine decide_eq_decide.2 ⟨fun e => ?_, fun e => ?_⟩
          · rcases h23 with h | h
            · exact h
            · exact absurd (show y = ⟨1, x.data⟩ by cases y; simp_all) (hy3 h)
          · rw [hy2 e]; exact ⟨rfl, rfl⟩
        rw [e]
        exact hB R h H
      repeat' (first
        | refine ⟨hpos, fun _ => ?_⟩
        | (refine (loadU_ok (k := 0) hg0).weak (fun _ _ h => h) ?_
           rintro v R h ⟨rfl, H⟩
           refine ⟨u.ub, u.hp, UnRest a k c l' 0, rfl, ?_, H⟩
           clear H)
        | (refine (cState_ok b o').weak (fun _ _ h => h) ?_
           rintro v R h ⟨rfl, H⟩
           refine ⟨_, rfl, ⟨fun hs => ?_, fun hs => ?_⟩, H⟩
           all_goals clear H)
        | (refine (uRead_ok u.ub u.bd (DRep u.bd 400 u.ps u.ps.length) u.s 0 (x.at_ % 4)).weak (fun _ _ h => h) ?_
           rw [hrd]
           dsimp only
           rintro v R h ⟨ra, rc, rfl, H⟩
           refine ⟨_, ra, _, rc, RoB ra y.data.length y.data, 0, rfl, ?_, HP.sep_comm H⟩
           clear H)
        | refine ⟨fun _ => ?_, fun h => absurd rfl h⟩
        | (refine hcmp _ _ _ fun R h H => ?_
           exact ⟨_, rfl, .of fun R h H => by first | (simp [hs]; trivial) | trivial, H⟩)
        | (exfalso; omega)
        | intro (_ : Nat)
        | refine ⟨?_, ?_⟩
        | fail)
end Go.Proofs.Ytmibmjehjagmbaa

/- What comes into ChainEnds, and its walk. No condition. -/
namespace Go.Proofs.Ytmibmjehjagmbaa
open Go.RowKit Go.ChangeShapes Go.WideShapes Go.Deep RX

set_option maxRecDepth 100000 in
theorem chainEnds_walk {H : Type} (enc : TypeId × Value → H) (base : Nat) (v0 v1 v2 : Value) (w : World)
    (k0 : Value.okWide Try.prog w .any base 3 v0) (h0 : ∃ d p, DataW.Trod enc Try.prog w 0 (fun _ => true) true 3 v0 d p ∧ Small Try.prog 3 d)
    (k1 : Value.okWide Try.prog w .any base 84 v1) (h1 : ∃ d p, DataW.Trod enc Try.prog w 0 (fun _ => true) true 84 v1 d p ∧ Small Try.prog 84 d)
    (k2 : Value.okWide Try.prog w .any base 90 v2) (h2 : ∃ d p, DataW.Trod enc Try.prog w 0 (fun _ => true) true 90 v2 d p ∧ Small Try.prog 90 d) :
    Calls Try.prog 10 #[v0, v1, v2] w fun e w' => e = .returned (.bool true) ∧ Below w.heap.size w w' := by
  obtain ⟨n0, rfl, r0⟩ := int_openR k0 h0
  obtain ⟨a1, l1, c1, rfl, b1, z1⟩ := slice_open kStep17 Try.underlying84 (by kernel_rfl) (of_decide_eq_true (by kernel_rfl)) Step17.of_trod k1 h1
  obtain ⟨m2, rfl, z2⟩ := struct_open kStep17 Try.underlying90 Step17.of_trod k2 h2
  exact Tri.run (chainEnds_ok n0 a1 c1 l1 m2 fun s hs => ((z1 PH.none').2.2 s hs).2.2.1) ⟨PH.none', PH.none', PH.dj_none _, PH.le.refl _, PH.le.refl _, z1 _, (z2 _).2.2.2⟩
end Go.Proofs.Ytmibmjehjagmbaa
