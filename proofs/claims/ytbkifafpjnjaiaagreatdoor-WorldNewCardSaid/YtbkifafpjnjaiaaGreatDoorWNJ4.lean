/- Texts of this claim, joined. No condition. -/
import Derived.Test.YtbkifafpjnjaiaaGreatDoorWNJ1
import Derived.Test.YtbkifafpjnjaiaaGreatDoorWNJ2
import Derived.Test.YtbkifafpjnjaiaaGreatDoorWNJ3
import Derived.KernelRfl
import Derived.Lib.BufferRead
set_option linter.unusedSimpArgs false
set_option linter.unusedVariables false
namespace Go.Proofs.YtbkifafpjnjaiaaGreatDoor
set_option maxRecDepth 100000
namespace RX
def dk:=(({aB:=[61,63,64,221,216,215,217,120,119,166,68]}:gA).aB)
def FL:T:=
(.br (.le (.i 0) 0)
(.ret (.bool (.le 0 (.i 2147483647))) [])
(.ret (.bool (.c false)) []))
theorem FM:tree Tryz.prog {fX:=[168,177],aB:=dk,aY:=[(67,[0])]} Tryz.f63 [0] [] 1=FL:=by kernel_rfl
def wU:T:=
(.new
(.br (.le (.i 1) 0)
(.br (.le 0 (.i 2147483647))
(.call 63 [1] [] [.c] (.bool 4) []
(.br 4
(.call 63 [2] [] [.c] (.bool 5) []
(.ret (.bool 5) []))
(.ret (.bool (.c false)) [])))
(.ret (.bool (.c false)) []))
(.ret (.bool (.c false)) [])))
theorem ym:tree Tryz.prog {fX:=[168,177],aB:=dk,aY:=[(67,[0])]} Tryz.f64 [0,.agg [1,2]] [] 3=wU:=by kernel_rfl
def T3:T:=
(.new
(.new
(.br (.lt 0 2)
(.ret (.bool (.c true)) [])
(.br (.eq 0 2)
(.ret (.bool (.lt 1 3)) [])
(.ret (.bool (.c false)) [])))))
theorem Pq:tree Tryz.prog {fX:=[168,177],aB:=dk,aY:=[(67,[0])]} Tryz.f221 [.agg [0,1],.agg [2,3]] [] 4=T3:=by kernel_rfl
def zM:T:=
(.br (.le (.i 0) 0)
(.ret (.bool (.le 0 (.i 4294967296))) [])
(.ret (.bool (.c false)) []))
theorem B0:tree Tryz.prog {fX:=[168,177],aB:=dk,aY:=[(67,[0])]} Tryz.f61 [0] [] 1=zM:=by kernel_rfl
def wV:T:=
(.new
(.br (.eq 0 (.i 1))
(.ret (.bool (.le (.of 2) (.i 65536))) [(1,4)])
(.br (.eq 0 (.i 2))
(.ret (.bool (.eq (.of 2) (.i 0))) [(1,4)])
(.ret (.bool (.c false)) [(1,4)]))))
theorem yo:tree Tryz.prog {fX:=[168,177],aB:=dk,aY:=[(67,[0])]} Tryz.f216 [.agg [0,.s 1]] [(1,4)] 5=wV:=by kernel_rfl
def T4:T:=
(.new
(.call 87 [.ptr 5 0,.a (.int .u8 0)] [(.b 5,.cells [.z] 168)] [.p] (.au []) [(.b 5,6)]
(.loop [.i,.p] [.z (.i 0),.p [(.b 5,6)]]
(.br (.lt 7 (.of 2))
(.need (.le (.i 0) 7)
(.need (.is 1)
  (.ld 3 17 (.aW 1 7 1 0) [(1,4)] [.i] 9
(.call 129 [.ptr 5 0,.a (.int .u64 (.o1 (.wrap .u64) 9)),.k 8] [(.b 5,8)] [.p] (.au []) [(.b 5,10)]
  (.rg (.add 7 (.i 1))
(.again 0 [.z (.add 7 (.i 1)),.p [(.b 5,10)]]))))))
(.ret (.ptr 5 0) [(1,4),(.b 5,8)])))))
theorem Ps:tree Tryz.prog {fX:=[168,177],hv:=[(0,[.b 5])],aB:=dk,aY:=[(67,[0])]} Tryz.f220 [.a (.int .u8 0),.s 1] [(1,4)] 5=T4:=by kernel_rfl
def wW:T:=
(.new
(.br (.eq 1 (.i 2))
(.new
(.call 220 [.a (.int .u8 (.i 2)),.sl (.b 7 0) (.n 1) (.n 1)] [(.b 7,.cells [0] 3)] [.n,.p,.i] (.ptr 8 0) [(.b 8,9),(.b 7,.cells [10] 3)]
(.call 92 [.ptr 8 0] [(.b 8,9)] [.a,.n,.n,.p,.p] (.s 11) [(11,14),(.b 8,15)]
(.ret (.s 11) [(2,5),(11,14)]))))
(.new
(.call 220 [.a (.int .u8 (.i 1)),.sl (.b 7 0) (.n 1) (.n 1)] [(.b 7,.cells [0] 3)] [.n,.p,.i] (.ptr 8 0) [(.b 8,9),(.b 7,.cells [10] 3)]
(.call 90 [.ptr 8 0,.s 2] [(.b 8,9),(2,5)] [.p,.p] (.au []) [(.b 8,11),(2,12)]
(.call 92 [.ptr 8 0] [(.b 8,11)] [.a,.n,.n,.p,.p] (.s 13) [(13,16),(.b 8,17)]
(.ret (.s 13) [(2,12),(13,16)])))))))
theorem yp:tree Tryz.prog {fX:=[168,177],aB:=dk,aY:=[(67,[0])]} Tryz.f219 [0,.agg [1,.s 2]] [(2,5)] 6=wW:=by kernel_rfl
def FN:T:=
(.ret 3 [(.b 0,.cells [.ptr 1 0,3,4,5,.map 6,.map 8] 104),(.b 1,2),(.b 6,7),(.b 8,9)])
theorem FO:tree Tryz.prog {fX:=[168,177],aB:=dk,aY:=[(67,[0])]} Tryz.f120 [.ptr 0 0] [(.b 0,.cells [.ptr 1 0,3,4,5,.map 6,.map 8] 104),(.b 1,2),(.b 6,7),(.b 8,9)] 10=FN:=by kernel_rfl
def T5:T:=
(.ret 4 [(.b 0,.cells [.ptr 1 0,3,4,5,.map 6,.map 8] 104),(.b 1,2),(.b 6,7),(.b 8,9)])
theorem Pt:tree Tryz.prog {fX:=[168,177],aB:=dk,aY:=[(67,[0])]} Tryz.f119 [.ptr 0 0] [(.b 0,.cells [.ptr 1 0,3,4,5,.map 6,.map 8] 104),(.b 1,2),(.b 6,7),(.b 8,9)] 10=T5:=by kernel_rfl
def MY:T:=
(.ret (.w (.a (.int .i64 (.o2 .mx 5 4)))) [(.b 0,.cells [.ptr 1 0,3,4,5,.map 6,.map 8] 104),(.b 1,2),(.b 6,7),(.b 8,9)])
theorem JW:tree Tryz.prog {fX:=[168,177],aB:=dk,aY:=[(67,[0])]} Tryz.f166 [.ptr 0 0] [(.b 0,.cells [.ptr 1 0,3,4,5,.map 6,.map 8] 104),(.b 1,2),(.b 6,7),(.b 8,9)] 10=MY:=by kernel_rfl
def FP:T:=
(.br (.not (.eq 10 3))
(.ret (.k 8) [(.b 0,.cells [.ptr 1 0,3,4,5,.map 6,.map 8] 104),(.b 1,2),(.b 6,7),(.b 8,9)])
(.call 61 [11] [] [.c] (.bool 12) []
(.br (.not 12)
(.ret (.k 2) [(.b 0,.cells [.ptr 1 0,3,4,5,.map 6,.map 8] 104),(.b 1,2),(.b 6,7),(.b 8,9)])
(.ret (.k 0) [(.b 0,.cells [.ptr 1 0,3,4,5,.map 6,.map 8] 104),(.b 1,2),(.b 6,7),(.b 8,9)]))))
theorem FQ:tree Tryz.prog {fX:=[168,177],aB:=dk,aY:=[(67,[0])]} Tryz.f215 [.ptr 0 0,10,11] [(.b 0,.cells [.ptr 1 0,3,4,5,.map 6,.map 8] 104),(.b 1,2),(.b 6,7),(.b 8,9)] 12=FP:=by kernel_rfl
def MZ:T:=
(.call 282 [.ptr 1 0,.s 10] [(.b 1,2),(10,13)] [.i,.p,.p] 14 [(.b 1,15),(10,16)]
(.br (.not (.eq 14 (.i 0)))
(.ret 14 [(.b 0,.cells [.ptr 1 0,3,4,5,.map 6,.map 8] 104),(.b 1,15),(.b 6,7),(.b 8,9),(10,16)])
(.call 128 [.ptr 1 0] [(.b 1,15)] [.p] (.au []) [(.b 1,17)]
(.ret (.k 0) [(.b 0,.cells [.ptr 1 0,3,4,5,.map 6,.map 8] 104),(.b 1,17),(.b 6,7),(.b 8,9),(10,16)]))))
theorem JX:tree Tryz.prog {fX:=[168,177],aB:=dk,aY:=[(67,[0])]} Tryz.f218 [.ptr 0 0,.s 10] [(.b 0,.cells [.ptr 1 0,3,4,5,.map 6,.map 8] 104),(.b 1,2),(.b 6,7),(.b 8,9),(10,13)] 14=MZ:=by kernel_rfl
def T6:T:=
(.new
(.call 55 [.s 12] [(12,15)] [.a,.n,.n,.p,.p] (.s 17) [(17,20),(12,21)]
(.op (.mapUpdate 101 (.tmp 9) (.tmp 10) (.tmp 16)) 0 [(9,.map 6),(10,10),(16,.agg [11,.s 17])] [(.b 6,7),(17,20)] [.p] (.au []) [(.b 6,22),(17,20)]
(.rg (.add 10 (.i 1))
(.ret (.au []) [(.b 0,.cells [.ptr 1 0,3,4,.int .i64 (.o2 .mx 5 (.add 10 (.i 1))),.map 6,.map 8] 104),(.b 1,2),(.b 6,22),(.b 8,9),(12,21)])))))
theorem Pv:tree Tryz.prog {fX:=[168,177],aB:=dk,aY:=[(67,[0])]} Tryz.f62 [.ptr 0 0,10,.agg [11,.s 12]] [(.b 0,.cells [.ptr 1 0,3,4,5,.map 6,.map 8] 104),(.b 1,2),(.b 6,7),(.b 8,9),(12,15)] 16=T6:=by kernel_rfl
def M0:T:=
(.new
(.read (.lookup 101 (.tmp 12) (.tmp 13) true) 282 [(12,.map 6),(13,10)] [(.b 6,7)] [.i,.a,.n,.n,.c] (.au [.agg [12,.s 13],.bool 16])
(.new
(.call 55 [.s 13] [(.b 6,7)] [.a,.n,.n,.p,.p] (.s 18) [(18,21),(.b 6,22)]
(.ret (.au [.agg [12,.s 18],.bool 16]) [(.b 0,.cells [.ptr 1 0,3,4,5,.map 6,.map 8] 104),(.b 1,2),(.b 6,22),(.b 8,9),(18,21)])))))
theorem JY:tree Tryz.prog {fX:=[168,177],aB:=dk,aY:=[(67,[0])]} Tryz.f217 [.ptr 0 0,10] [(.b 0,.cells [.ptr 1 0,3,4,5,.map 6,.map 8] 104),(.b 1,2),(.b 6,7),(.b 8,9)] 11=M0:=by kernel_rfl
def M1:T:=
(.new
(.read (.lookup 102 (.tmp 10) (.tmp 11) false) 181 [(10,.map 8),(11,10)] [(.b 8,9)] [.i,.i,.i,.i,.a,.n,.n] (.agg [14,15,16,17,.s 18])
(.new
(.op (.mapUpdate 102 (.tmp 18) (.tmp 19) (.tmp 20)) 0 [(18,.map 8),(19,10),(20,.agg [11,12,16,17,.s 18])] [(.b 8,9)] [.p] (.au []) [(.b 8,22)]
(.ret (.au []) [(.b 0,.cells [.ptr 1 0,3,4,5,.map 6,.map 8] 104),(.b 1,2),(.b 6,7),(.b 8,22)])))))
theorem JZ:tree Tryz.prog {fX:=[168,177],aB:=dk,aY:=[(67,[0])]} Tryz.f65 [.ptr 0 0,10,.agg [11,12]] [(.b 0,.cells [.ptr 1 0,3,4,5,.map 6,.map 8] 104),(.b 1,2),(.b 6,7),(.b 8,9)] 13=M1:=by kernel_rfl
def T7:T:=
(.new
(.call 55 [.s 13] [(13,16)] [.a,.n,.n,.p,.p] (.s 18) [(18,21),(13,22)]
(.op (.mapUpdate 102 (.tmp 11) (.tmp 12) (.tmp 17)) 0 [(11,.map 8),(12,10),(17,.agg [11,12,11,12,.s 18])] [(.b 8,9),(18,21)] [.p] (.au []) [(.b 8,23),(18,21)]
(.ret (.au []) [(.b 0,.cells [.ptr 1 0,3,4,5,.map 6,.map 8] 104),(.b 1,2),(.b 6,7),(.b 8,23),(13,22)]))))
theorem Pw:tree Tryz.prog {fX:=[168,177],aB:=dk,aY:=[(67,[0])]} Tryz.f66 [.ptr 0 0,10,.agg [11,12],.s 13] [(.b 0,.cells [.ptr 1 0,3,4,5,.map 6,.map 8] 104),(.b 1,2),(.b 6,7),(.b 8,9),(13,16)] 17=T7:=by kernel_rfl
def M2:T:=
(.new
(.ret (.bool (.lt 0 11)) [(2,5),(.b 6,.cells [.ptr 7 0] 39),(.b 7,.cells [.ptr 8 0,10,11,12,.map 13,.map 15] 104),(.b 8,9),(.b 13,14),(.b 15,16)]))
theorem J0:tree Tryz.prog {fX:=[168,177],aB:=dk,aY:=[(67,[0])]} Tryz.f68 [0,.agg [1,.s 2],.ptr 6 0] [(2,5),(.b 6,.cells [.ptr 7 0] 39),(.b 7,.cells [.ptr 8 0,10,11,12,.map 13,.map 15] 104),(.b 8,9),(.b 13,14),(.b 15,16)] 17=M2:=by kernel_rfl
def T8:T:=
(.op (.range 101 (.tmp 6)) 0 [(6,.map 0)] [(.b 0,1)] [.n,.p,.p] (.ptr 11 0) [(.b 11,12),(.b 0,13)]
(.loop [.p,.p] [.p [(.b 11,12)],.p [(.b 0,13)]]
(.op (.next (.tmp 7) false) 0 [(7,.ptr 11 0)] [(.b 11,14),(.b 0,15)] [.c,.v,.v,.p] (.nx 16 17 18) [(.b 11,19),(.b 0,15)]
(.br 16
(.read (.entry (.tmp 7)) 0 [(7,.ptr 11 0)] [(.b 11,19),(.b 0,15)] [.i,.i,.a,.n,.n] (.au [20,.agg [21,.s 22]])
(.new
(.call 68 [20,.agg [21,.s 22],.ptr 2 0] [(.b 0,15),(.b 2,.cells [.ptr 3 0] 39),(.b 3,.cells [.ptr 4 0,6,7,8,.map 0,.map 9] 104),(.b 4,5),(.b 9,10)] [.c] (.bool 26) [(.b 0,15),(.b 2,.cells [.ptr 3 0] 39),(.b 3,.cells [.ptr 4 0,6,7,8,.map 0,.map 9] 104),(.b 4,5),(.b 9,10)]
(.br 26
(.op (.call ⟨.builtin .delete,#[.tmp 17,.tmp 18],#[101,3]⟩) 0 [(17,.map 0),(18,20)] [(.b 0,15)] [.p] (.au []) [(.b 0,27)]
(.again 0 [.p [(.b 11,19)],.p [(.b 0,27)]]))
(.again 0 [.p [(.b 11,19)],.p [(.b 0,15)]])))))
(.ret (.au []) [(.b 0,15),(.b 2,.cells [.ptr 3 0] 39),(.b 3,.cells [.ptr 4 0,6,7,8,.map 0,.map 9] 104),(.b 4,5),(.b 9,10)])))))
theorem Px:tree Tryz.prog {fX:=[168,177],hv:=[(0,[.b 11,.b 0])],aB:=dk,aV:=[(10,[3,44])],aY:=[(67,[0])]} Tryz.f67 [.map 0,.a (.func 68 [(2,0)])] [(.b 0,1),(.b 2,.cells [.ptr 3 0] 39),(.b 3,.cells [.ptr 4 0,6,7,8,.map 0,.map 9] 104),(.b 4,5),(.b 9,10)] 11=T8:=by kernel_rfl
def zN:T:=
(.new
(.call 67 [.map 6,.a (.func 68 [(10,0)])] [(.b 6,7),(.b 10,.cells [.ptr 0 0] 39),(.b 0,.cells [.ptr 1 0,3,4,5,.map 6,.map 8] 104),(.b 1,2),(.b 8,9)] [.p] (.au []) [(.b 6,11),(.b 10,.cells [.ptr 0 0] 39),(.b 0,.cells [.ptr 1 0,3,4,5,.map 6,.map 8] 104),(.b 1,2),(.b 8,9)]
(.ret (.au []) [(.b 0,.cells [.ptr 1 0,3,4,5,.map 6,.map 8] 104),(.b 1,2),(.b 6,11),(.b 8,9)])))
theorem B1:tree Tryz.prog {fX:=[168,177],aB:=dk,aY:=[(67,[0])]} Tryz.f39 [.ptr 0 0] [(.b 0,.cells [.ptr 1 0,3,4,5,.map 6,.map 8] 104),(.b 1,2),(.b 6,7),(.b 8,9)] 10=zN:=by kernel_rfl
def zO:T:=
(.call 56 [.s 10] [(10,13)] [.n,.p,.p] (.ptr 14 0) [(.b 14,15),(10,16)]
(.call 57 [.ptr 14 0] [(.b 14,15)] [.i,.p] (.w (.a (.int .u8 17))) [(.b 14,18)]
(.call 58 [.ptr 14 0] [(.b 14,18)] [.i,.p] 19 [(.b 14,20)]
(.br (.eq 17 (.i 1))
(.call 59 [.ptr 14 0,.k 65536] [(.b 14,20)] [.a,.n,.n,.p,.p] (.s 21) [(21,24),(.b 14,25)]
(.new
(.call 60 [.ptr 14 0] [(.b 14,25)] [.i,.p] 27 [(.b 14,28)]
(.br (.not (.eq 27 (.i 0)))
(.ret (.bool (.c false)) [(.b 0,.cells [.ptr 1 0,3,4,5,.map 6,.map 8] 104),(.b 1,2),(.b 6,7),(.b 8,9),(10,16)])
(.call 61 [19] [] [.c] (.bool 29) []
(.br (.not 29)
(.ret (.bool (.c false)) [(.b 0,.cells [.ptr 1 0,3,4,5,.map 6,.map 8] 104),(.b 1,2),(.b 6,7),(.b 8,9),(10,16)])
(.call 62 [.ptr 0 0,19,.agg [.k 1,.s 21]] [(.b 0,.cells [.ptr 1 0,3,4,5,.map 6,.map 8] 104),(.b 1,2),(.b 6,7),(.b 8,9),(21,24)] [.n,.p,.i,.i,.i,.n,.p,.n,.p,.p] (.au []) [(.b 0,.cells [.ptr 30 0,32,33,34,.map 35,.map 37] 104),(.b 30,31),(.b 35,36),(.b 37,38),(21,39)]
(.ret (.bool (.c true)) [(.b 0,.cells [.ptr 30 0,32,33,34,.map 35,.map 37] 104),(.b 30,31),(.b 35,36),(.b 37,38),(10,16)]))))))))
(.br (.eq 17 (.i 2))
(.call 60 [.ptr 14 0] [(.b 14,20)] [.i,.p] 21 [(.b 14,22)]
(.br (.not (.eq 21 (.i 0)))
(.ret (.bool (.c false)) [(.b 0,.cells [.ptr 1 0,3,4,5,.map 6,.map 8] 104),(.b 1,2),(.b 6,7),(.b 8,9),(10,16)])
(.call 61 [19] [] [.c] (.bool 23) []
(.br (.not 23)
(.ret (.bool (.c false)) [(.b 0,.cells [.ptr 1 0,3,4,5,.map 6,.map 8] 104),(.b 1,2),(.b 6,7),(.b 8,9),(10,16)])
(.call 62 [.ptr 0 0,19,.agg [.k 2,.z]] [(.b 0,.cells [.ptr 1 0,3,4,5,.map 6,.map 8] 104),(.b 1,2),(.b 6,7),(.b 8,9)] [.n,.p,.i,.i,.i,.n,.p,.n,.p] (.au []) [(.b 0,.cells [.ptr 24 0,26,27,28,.map 29,.map 31] 104),(.b 24,25),(.b 29,30),(.b 31,32)]
(.ret (.bool (.c true)) [(.b 0,.cells [.ptr 24 0,26,27,28,.map 29,.map 31] 104),(.b 24,25),(.b 29,30),(.b 31,32),(10,16)]))))))
(.br (.eq 17 (.i 3))
(.call 60 [.ptr 14 0] [(.b 14,20)] [.i,.p] 21 [(.b 14,22)]
(.br (.not (.eq 21 (.i 0)))
(.ret (.bool (.c false)) [(.b 0,.cells [.ptr 1 0,3,4,5,.map 6,.map 8] 104),(.b 1,2),(.b 6,7),(.b 8,9),(10,16)])
(.call 61 [19] [] [.c] (.bool 23) []
(.br (.not 23)
(.ret (.bool (.c false)) [(.b 0,.cells [.ptr 1 0,3,4,5,.map 6,.map 8] 104),(.b 1,2),(.b 6,7),(.b 8,9),(10,16)])
(.ret (.bool (.c true)) [(.b 0,.cells [.ptr 1 0,3,19,5,.map 6,.map 8] 104),(.b 1,2),(.b 6,7),(.b 8,9),(10,16)])))))
(.br (.eq 17 (.i 4))
(.call 60 [.ptr 14 0] [(.b 14,20)] [.i,.p] 21 [(.b 14,22)]
(.br (.not (.eq 21 (.i 0)))
(.ret (.bool (.c false)) [(.b 0,.cells [.ptr 1 0,3,4,5,.map 6,.map 8] 104),(.b 1,2),(.b 6,7),(.b 8,9),(10,16)])
(.call 63 [19] [] [.c] (.bool 23) []
(.br (.not 23)
(.ret (.bool (.c false)) [(.b 0,.cells [.ptr 1 0,3,4,5,.map 6,.map 8] 104),(.b 1,2),(.b 6,7),(.b 8,9),(10,16)])
(.ret (.bool (.c true)) [(.b 0,.cells [.ptr 1 0,19,4,5,.map 6,.map 8] 104),(.b 1,2),(.b 6,7),(.b 8,9),(10,16)])))))
(.br (.eq 17 (.i 5))
(.call 58 [.ptr 14 0] [(.b 14,20)] [.i,.p] 21 [(.b 14,22)]
(.call 58 [.ptr 14 0] [(.b 14,22)] [.i,.p] 23 [(.b 14,24)]
(.new
(.call 60 [.ptr 14 0] [(.b 14,24)] [.i,.p] 26 [(.b 14,27)]
(.br (.not (.eq 26 (.i 0)))
(.ret (.bool (.c false)) [(.b 0,.cells [.ptr 1 0,3,4,5,.map 6,.map 8] 104),(.b 1,2),(.b 6,7),(.b 8,9),(10,16)])
(.call 64 [19,.agg [21,23]] [] [.c] (.bool 28) []
(.br (.not 28)
(.ret (.bool (.c false)) [(.b 0,.cells [.ptr 1 0,3,4,5,.map 6,.map 8] 104),(.b 1,2),(.b 6,7),(.b 8,9),(10,16)])
(.call 65 [.ptr 0 0,19,.agg [21,23]] [(.b 0,.cells [.ptr 1 0,3,4,5,.map 6,.map 8] 104),(.b 1,2),(.b 6,7),(.b 8,9)] [.n,.p,.i,.i,.i,.n,.p,.n,.p] (.au []) [(.b 0,.cells [.ptr 29 0,31,32,33,.map 34,.map 36] 104),(.b 29,30),(.b 34,35),(.b 36,37)]
(.ret (.bool (.c true)) [(.b 0,.cells [.ptr 29 0,31,32,33,.map 34,.map 36] 104),(.b 29,30),(.b 34,35),(.b 36,37),(10,16)])))))))))
(.br (.eq 17 (.i 6))
(.call 58 [.ptr 14 0] [(.b 14,20)] [.i,.p] 21 [(.b 14,22)]
(.call 58 [.ptr 14 0] [(.b 14,22)] [.i,.p] 23 [(.b 14,24)]
(.new
(.call 59 [.ptr 14 0,.k 1000] [(.b 14,24)] [.a,.n,.n,.p,.p] (.s 26) [(26,29),(.b 14,30)]
(.call 60 [.ptr 14 0] [(.b 14,30)] [.i,.p] 31 [(.b 14,32)]
(.br (.not (.eq 31 (.i 0)))
(.ret (.bool (.c false)) [(.b 0,.cells [.ptr 1 0,3,4,5,.map 6,.map 8] 104),(.b 1,2),(.b 6,7),(.b 8,9),(10,16)])
(.call 64 [19,.agg [21,23]] [] [.c] (.bool 33) []
(.br (.not 33)
(.ret (.bool (.c false)) [(.b 0,.cells [.ptr 1 0,3,4,5,.map 6,.map 8] 104),(.b 1,2),(.b 6,7),(.b 8,9),(10,16)])
(.call 66 [.ptr 0 0,19,.agg [21,23],.s 26] [(.b 0,.cells [.ptr 1 0,3,4,5,.map 6,.map 8] 104),(.b 1,2),(.b 6,7),(.b 8,9),(26,29)] [.n,.p,.i,.i,.i,.n,.p,.n,.p,.p] (.au []) [(.b 0,.cells [.ptr 34 0,36,37,38,.map 39,.map 41] 104),(.b 34,35),(.b 39,40),(.b 41,42),(26,43)]
(.ret (.bool (.c true)) [(.b 0,.cells [.ptr 34 0,36,37,38,.map 39,.map 41] 104),(.b 34,35),(.b 39,40),(.b 41,42),(10,16)]))))))))))
(.ret (.bool (.c false)) [(.b 0,.cells [.ptr 1 0,3,4,5,.map 6,.map 8] 104),(.b 1,2),(.b 6,7),(.b 8,9),(10,16)]))))))))))
theorem B2:tree Tryz.prog {fX:=[168,177],aB:=dk,aY:=[(67,[0])]} Tryz.f38 [.ptr 0 0,.s 10] [(.b 0,.cells [.ptr 1 0,3,4,5,.map 6,.map 8] 104),(.b 1,2),(.b 6,7),(.b 8,9),(10,13)] 14=zO:=by kernel_rfl
def M3:T:=
(.new
(.new
(.new
(.call 37 [.ptr 0 0] [(.b 0,1)] [.a,.n,.n,.p,.p] (.s 5) [(5,8),(.b 0,9)]
(.loop [.v,.p,.i,.i,.p,.p,.n,.i,.i,.i,.n,.n,.p,.p] [.v .fZ,.p [],.z (.i 0),.z (.i 0),.p [(5,8)],.p [(.b 0,9)],.n 0,.z (.i 0),.z (.i 0),.z (.i 0),.n 2,.n 3,.p [(.b 3,.kD)],.p [(.b 2,.kD)]]
(.br (.lt 13 (.of 6))
(.need (.le (.i 0) 13)
(.need (.is 5)
  (.ld 42 17 (.aW 5 13 1 0) [(5,14)] [.a,.n,.n] (.s 24)
(.call 38 [.ptr 4 0,.s 24] [(.b 4,.cells [.ptr 16 0,17,18,19,.map 20,.map 21] 104),(.b 16,15),(.b 20,23),(.b 21,22),(5,14)] [.c,.n,.p,.i,.i,.i,.n,.p,.n,.p,.p] (.bool 27) [(.b 4,.cells [.ptr 28 0,30,31,32,.map 33,.map 35] 104),(.b 28,29),(.b 33,34),(.b 35,36),(5,37)]
(.br (.not 27)
(.ret (.au [.a .fZ,.k 3]) [])
  (.rg (.add 13 (.i 1))
(.again 0 [.v (.val 10),.p [(10,11)],.z 12,.z (.add 13 (.i 1)),.p [(5,37)],.p [(.b 28,29)],.n 28,.z 30,.z 31,.z 32,.n 33,.n 35,.p [(.b 35,36)],.p [(.b 33,34)]])))))))
(.call 39 [.ptr 4 0] [(.b 4,.cells [.ptr 16 0,17,18,19,.map 20,.map 21] 104),(.b 16,15),(.b 20,23),(.b 21,22)] [.n,.p,.i,.i,.i,.n,.p,.n,.p] (.au []) [(.b 4,.cells [.ptr 24 0,26,27,28,.map 29,.map 31] 104),(.b 24,25),(.b 29,30),(.b 31,32)]
(.ret (.au [.ptr 4 0,.k 0]) [(.b 4,.cells [.ptr 24 0,26,27,28,.map 29,.map 31] 104),(.b 24,25),(.b 29,30),(.b 31,32)]))))))))
theorem J1:tree Tryz.prog {fX:=[168,177],hv:=[(0,[.a 5,.b 0,.b 4,.b 3,.b 2])],aB:=dk,aY:=[(67,[0])]} Tryz.f19 [.ptr 0 0] [(.b 0,1)] 2=M3:=by kernel_rfl
def M4:T:=
(.new
(.call 215 [.ptr 0 0,10,11] [(.b 0,.cells [.ptr 1 0,3,4,5,.map 6,.map 8] 104),(.b 1,2),(.b 6,7),(.b 8,9)] [.i] 13 [(.b 0,.cells [.ptr 1 0,3,4,5,.map 6,.map 8] 104),(.b 1,2),(.b 6,7),(.b 8,9)]
(.br (.not (.eq 13 (.i 0)))
(.ret (.au [.agg [.k 0,.z],13]) [(.b 0,.cells [.ptr 1 0,3,4,5,.map 6,.map 8] 104),(.b 1,2),(.b 6,7),(.b 8,9)])
(.br (.lt 11 4)
(.ret (.au [.agg [.k 0,.z],.k 11]) [(.b 0,.cells [.ptr 1 0,3,4,5,.map 6,.map 8] 104),(.b 1,2),(.b 6,7),(.b 8,9)])
(.call 217 [.ptr 0 0,11] [(.b 0,.cells [.ptr 1 0,3,4,5,.map 6,.map 8] 104),(.b 1,2),(.b 6,7),(.b 8,9)] [.i,.a,.n,.n,.p,.c] (.au [.agg [14,.s 15],.bool 19]) [(15,18),(.b 0,.cells [.ptr 1 0,3,4,5,.map 6,.map 8] 104),(.b 1,2),(.b 6,7),(.b 8,9)]
(.new
(.br (.not 19)
(.ret (.au [.agg [.k 0,.z],.k 9]) [(.b 0,.cells [.ptr 1 0,3,4,5,.map 6,.map 8] 104),(.b 1,2),(.b 6,7),(.b 8,9)])
(.ret (.au [.agg [14,.s 15],.k 0]) [(.b 0,.cells [.ptr 1 0,3,4,5,.map 6,.map 8] 104),(.b 1,2),(.b 6,7),(.b 8,9),(15,18)]))))))))
theorem J3:tree Tryz.prog {fX:=[168,177],aB:=dk,aY:=[(67,[0])]} Tryz.f161 [.ptr 0 0,10,11] [(.b 0,.cells [.ptr 1 0,3,4,5,.map 6,.map 8] 104),(.b 1,2),(.b 6,7),(.b 8,9)] 12=M4:=by kernel_rfl
def FR:T:=
(.new
(.new
(.call 215 [.ptr 0 0,10,11] [(.b 0,.cells [.ptr 1 0,3,4,5,.map 6,.map 8] 104),(.b 1,2),(.b 6,7),(.b 8,9)] [.i] 19 [(.b 0,.cells [.ptr 1 0,3,4,5,.map 6,.map 8] 104),(.b 1,2),(.b 6,7),(.b 8,9)]
(.br (.not (.eq 19 (.i 0)))
(.ret (.au [.agg [.k 0,.z],19]) [(.b 0,.cells [.ptr 1 0,3,4,5,.map 6,.map 8] 104),(.b 1,2),(.b 6,7),(.b 8,9),(13,16)])
(.call 216 [.agg [12,.s 13]] [(13,16)] [.c] (.bool 20) [(13,16)]
(.br (.not 20)
(.ret (.au [.agg [.k 0,.z],.k 1]) [(.b 0,.cells [.ptr 1 0,3,4,5,.map 6,.map 8] 104),(.b 1,2),(.b 6,7),(.b 8,9),(13,16)])
(.br (.lt 11 4)
(.ret (.au [.agg [.k 0,.z],.k 11]) [(.b 0,.cells [.ptr 1 0,3,4,5,.map 6,.map 8] 104),(.b 1,2),(.b 6,7),(.b 8,9),(13,16)])
(.call 217 [.ptr 0 0,11] [(.b 0,.cells [.ptr 1 0,3,4,5,.map 6,.map 8] 104),(.b 1,2),(.b 6,7),(.b 8,9)] [.i,.a,.n,.n,.p,.c] (.au [.agg [21,.s 22],.bool 26]) [(22,25),(.b 0,.cells [.ptr 1 0,3,4,5,.map 6,.map 8] 104),(.b 1,2),(.b 6,7),(.b 8,9)]
(.new
(.br 26
(.ret (.au [.agg [21,.s 22],.k 10]) [(.b 0,.cells [.ptr 1 0,3,4,5,.map 6,.map 8] 104),(.b 1,2),(.b 6,7),(.b 8,9),(13,16),(22,25)])
(.call 219 [11,.agg [12,.s 13]] [(13,16)] [.a,.n,.n,.p,.p] (.s 28) [(28,31),(13,32)]
(.call 218 [.ptr 0 0,.s 28] [(.b 0,.cells [.ptr 1 0,3,4,5,.map 6,.map 8] 104),(.b 1,2),(.b 6,7),(.b 8,9),(28,31)] [.i,.n,.p,.i,.i,.i,.n,.p,.n,.p,.p] 33 [(.b 0,.cells [.ptr 34 0,36,37,38,.map 39,.map 41] 104),(.b 34,35),(.b 39,40),(.b 41,42),(28,43)]
(.br (.not (.eq 33 (.i 0)))
(.ret (.au [.agg [.k 0,.z],33]) [(.b 0,.cells [.ptr 34 0,36,37,38,.map 39,.map 41] 104),(.b 34,35),(.b 39,40),(.b 41,42),(13,32)])
(.call 62 [.ptr 0 0,11,.agg [12,.s 13]] [(.b 0,.cells [.ptr 34 0,36,37,38,.map 39,.map 41] 104),(.b 34,35),(.b 39,40),(.b 41,42),(13,32)] [.n,.p,.i,.i,.i,.n,.p,.n,.p,.p] (.au []) [(.b 0,.cells [.ptr 44 0,46,47,48,.map 49,.map 51] 104),(.b 44,45),(.b 49,50),(.b 51,52),(13,53)]
(.ret (.au [.agg [.k 0,.z],.k 0]) [(.b 0,.cells [.ptr 44 0,46,47,48,.map 49,.map 51] 104),(.b 44,45),(.b 49,50),(.b 51,52),(13,53)])))))))))))))))
theorem qFS:tree Tryz.prog {fX:=[168,177],aB:=dk,aY:=[(67,[0])]} Tryz.f159 [.ptr 0 0,10,11,.agg [12,.s 13]] [(.b 0,.cells [.ptr 1 0,3,4,5,.map 6,.map 8] 104),(.b 1,2),(.b 6,7),(.b 8,9),(13,16)] 17=FR:=by kernel_rfl
def M5:T:=
(.call 215 [.ptr 0 0,10,11] [(.b 0,.cells [.ptr 1 0,3,4,5,.map 6,.map 8] 104),(.b 1,2),(.b 6,7),(.b 8,9)] [.i] 12 [(.b 0,.cells [.ptr 1 0,3,4,5,.map 6,.map 8] 104),(.b 1,2),(.b 6,7),(.b 8,9)]
(.br (.not (.eq 12 (.i 0)))
(.ret 12 [(.b 0,.cells [.ptr 1 0,3,4,5,.map 6,.map 8] 104),(.b 1,2),(.b 6,7),(.b 8,9)])
(.br (.le 11 4)
(.ret (.k 0) [(.b 0,.cells [.ptr 1 0,3,4,5,.map 6,.map 8] 104),(.b 1,2),(.b 6,7),(.b 8,9)])
(.new
(.call 220 [.a (.int .u8 (.i 3)),.sl (.b 13 0) (.n 1) (.n 1)] [(.b 13,.cells [11] 3)] [.n,.p,.i] (.ptr 14 0) [(.b 14,15),(.b 13,.cells [16] 3)]
(.call 92 [.ptr 14 0] [(.b 14,15)] [.a,.n,.n,.p,.p] (.s 17) [(17,20),(.b 14,21)]
(.call 218 [.ptr 0 0,.s 17] [(.b 0,.cells [.ptr 1 0,3,4,5,.map 6,.map 8] 104),(.b 1,2),(.b 6,7),(.b 8,9),(17,20)] [.i,.n,.p,.i,.i,.i,.n,.p,.n,.p,.p] 22 [(.b 0,.cells [.ptr 23 0,25,26,27,.map 28,.map 30] 104),(.b 23,24),(.b 28,29),(.b 30,31),(17,32)]
(.br (.not (.eq 22 (.i 0)))
(.ret 22 [(.b 0,.cells [.ptr 23 0,25,26,27,.map 28,.map 30] 104),(.b 23,24),(.b 28,29),(.b 30,31)])
(.call 39 [.ptr 0 0] [(.b 0,.cells [.ptr 23 0,25,11,27,.map 28,.map 30] 104),(.b 23,24),(.b 28,29),(.b 30,31)] [.n,.p,.i,.i,.i,.n,.p,.n,.p] (.au []) [(.b 0,.cells [.ptr 33 0,35,36,37,.map 38,.map 40] 104),(.b 33,34),(.b 38,39),(.b 40,41)]
(.ret (.k 0) [(.b 0,.cells [.ptr 33 0,35,36,37,.map 38,.map 40] 104),(.b 33,34),(.b 38,39),(.b 40,41)]))))))))))
theorem J4:tree Tryz.prog {fX:=[168,177],aB:=dk,aY:=[(67,[0])]} Tryz.f163 [.ptr 0 0,10,11] [(.b 0,.cells [.ptr 1 0,3,4,5,.map 6,.map 8] 104),(.b 1,2),(.b 6,7),(.b 8,9)] 12=M5:=by kernel_rfl
def M6:T:=
(.br (.le 10 3)
(.ret (.k 8) [(.b 0,.cells [.ptr 1 0,3,4,5,.map 6,.map 8] 104),(.b 1,2),(.b 6,7),(.b 8,9)])
(.br (.lt (.i 2147483647) 10)
(.ret (.k 1) [(.b 0,.cells [.ptr 1 0,3,4,5,.map 6,.map 8] 104),(.b 1,2),(.b 6,7),(.b 8,9)])
(.new
(.call 220 [.a (.int .u8 (.i 4)),.sl (.b 11 0) (.n 1) (.n 1)] [(.b 11,.cells [10] 3)] [.n,.p,.i] (.ptr 12 0) [(.b 12,13),(.b 11,.cells [14] 3)]
(.call 92 [.ptr 12 0] [(.b 12,13)] [.a,.n,.n,.p,.p] (.s 15) [(15,18),(.b 12,19)]
(.call 218 [.ptr 0 0,.s 15] [(.b 0,.cells [.ptr 1 0,3,4,5,.map 6,.map 8] 104),(.b 1,2),(.b 6,7),(.b 8,9),(15,18)] [.i,.n,.p,.i,.i,.i,.n,.p,.n,.p,.p] 20 [(.b 0,.cells [.ptr 21 0,23,24,25,.map 26,.map 28] 104),(.b 21,22),(.b 26,27),(.b 28,29),(15,30)]
(.br (.not (.eq 20 (.i 0)))
(.ret 20 [(.b 0,.cells [.ptr 21 0,23,24,25,.map 26,.map 28] 104),(.b 21,22),(.b 26,27),(.b 28,29)])
(.ret (.k 0) [(.b 0,.cells [.ptr 21 0,10,24,25,.map 26,.map 28] 104),(.b 21,22),(.b 26,27),(.b 28,29)]))))))))
theorem J5:tree Tryz.prog {fX:=[168,177],aB:=dk,aY:=[(67,[0])]} Tryz.f165 [.ptr 0 0,10] [(.b 0,.cells [.ptr 1 0,3,4,5,.map 6,.map 8] 104),(.b 1,2),(.b 6,7),(.b 8,9)] 11=M6:=by kernel_rfl
def wX:T:=
(.new
(.new
(.call 64 [10,.agg [11,12]] [] [.c] (.bool 15) []
(.br (.not 15)
(.ret (.au [.agg [.k 0,.k 0],.z,.k 1]) [(.b 0,.cells [.ptr 1 0,3,4,5,.map 6,.map 8] 104),(.b 1,2),(.b 6,7),(.b 8,9)])
(.op (.lookup 102 (.tmp 19) (.tmp 20) false) 181 [(19,.map 8),(20,10)] [(.b 8,9)] [.i,.i,.i,.i,.a,.n,.n,.p,.p] (.agg [16,17,18,19,.s 20]) [(20,23),(.b 8,24)]
(.new
(.call 221 [.agg [11,12],.agg [16,17]] [] [.c] (.bool 26) []
(.br 26
(.ret (.au [.agg [.k 0,.k 0],.z,.k 7]) [(.b 0,.cells [.ptr 1 0,3,4,5,.map 6,.map 8] 104),(.b 1,2),(.b 6,7),(.b 8,24)])
(.read (.binOp .neq 46 (.tmp 27) (.tmp 29) 46) 4 [(27,.agg [11,12]),(29,.agg [16,17])] [] [.c] (.bool 27)
(.br 27
(.new
(.call 220 [.a (.int .u8 (.i 5)),.sl (.b 28 0) (.n 3) (.n 3)] [(.b 28,.cells [10,11,12] 3)] [.n,.p,.i,.i,.i] (.ptr 29 0) [(.b 29,30),(.b 28,.cells [31,32,33] 3)]
(.call 92 [.ptr 29 0] [(.b 29,30)] [.a,.n,.n,.p,.p] (.s 34) [(34,37),(.b 29,38)]
(.call 218 [.ptr 0 0,.s 34] [(.b 0,.cells [.ptr 1 0,3,4,5,.map 6,.map 8] 104),(.b 1,2),(.b 6,7),(.b 8,24),(34,37)] [.i,.n,.p,.i,.i,.i,.n,.p,.n,.p,.p] 39 [(.b 0,.cells [.ptr 40 0,42,43,44,.map 45,.map 47] 104),(.b 40,41),(.b 45,46),(.b 47,48),(34,49)]
(.br (.not (.eq 39 (.i 0)))
(.ret (.au [.agg [.k 0,.k 0],.z,39]) [(.b 0,.cells [.ptr 40 0,42,43,44,.map 45,.map 47] 104),(.b 40,41),(.b 45,46),(.b 47,48)])
(.call 65 [.ptr 0 0,10,.agg [11,12]] [(.b 0,.cells [.ptr 40 0,42,43,44,.map 45,.map 47] 104),(.b 40,41),(.b 45,46),(.b 47,48)] [.n,.p,.i,.i,.i,.n,.p,.n,.p] (.au []) [(.b 0,.cells [.ptr 50 0,52,53,54,.map 55,.map 57] 104),(.b 50,51),(.b 55,56),(.b 57,58)]
(.call 55 [.s 20] [(20,23)] [.a,.n,.n,.p,.p] (.s 59) [(59,62),(20,63)]
(.ret (.au [.agg [18,19],.s 59,.k 0]) [(.b 0,.cells [.ptr 50 0,52,53,54,.map 55,.map 57] 104),(.b 50,51),(.b 55,56),(.b 57,58),(59,62)]))))))))
(.call 55 [.s 20] [(20,23),(.b 8,24)] [.a,.n,.n,.p,.p,.p] (.s 28) [(28,31),(20,32),(.b 8,33)]
(.ret (.au [.agg [18,19],.s 28,.k 0]) [(.b 0,.cells [.ptr 1 0,3,4,5,.map 6,.map 8] 104),(.b 1,2),(.b 6,7),(.b 8,33),(28,31)]))))))))))))
theorem yq:tree Tryz.prog {fX:=[168,177],aB:=dk,aY:=[(67,[0])],mkd:=[21]} Tryz.f169 [.ptr 0 0,10,.agg [11,12]] [(.b 0,.cells [.ptr 1 0,3,4,5,.map 6,.map 8] 104),(.b 1,2),(.b 6,7),(.b 8,9)] 13=wX:=by kernel_rfl
def zP:T:=
(.new
(.call 64 [10,.agg [11,12]] [] [.c] (.bool 18) []
(.br (.not 18)
(.ret (.k 1) [(.b 0,.cells [.ptr 1 0,3,4,5,.map 6,.map 8] 104),(.b 1,2),(.b 6,7),(.b 8,9),(13,16)])
(.br (.lt (.i 1000) (.of 14))
(.ret (.k 1) [(.b 0,.cells [.ptr 1 0,3,4,5,.map 6,.map 8] 104),(.b 1,2),(.b 6,7),(.b 8,9),(13,16)])
(.read (.lookup 102 (.tmp 24) (.tmp 25) false) 181 [(24,.map 8),(25,10)] [(.b 8,9)] [.i,.i,.i,.i,.a,.n,.n] (.agg [19,20,21,22,.s 23])
(.call 221 [.agg [11,12],.agg [19,20]] [] [.c] (.bool 26) []
(.br 26
(.ret (.k 7) [(.b 0,.cells [.ptr 1 0,3,4,5,.map 6,.map 8] 104),(.b 1,2),(.b 6,7),(.b 8,9),(13,16)])
(.new
(.call 220 [.a (.int .u8 (.i 6)),.sl (.b 27 0) (.n 3) (.n 3)] [(.b 27,.cells [10,11,12] 3)] [.n,.p,.i,.i,.i] (.ptr 28 0) [(.b 28,29),(.b 27,.cells [30,31,32] 3)]
(.call 90 [.ptr 28 0,.s 13] [(.b 28,29),(13,16)] [.p,.p] (.au []) [(.b 28,33),(13,34)]
(.call 92 [.ptr 28 0] [(.b 28,33)] [.a,.n,.n,.p,.p] (.s 35) [(35,38),(.b 28,39)]
(.call 218 [.ptr 0 0,.s 35] [(.b 0,.cells [.ptr 1 0,3,4,5,.map 6,.map 8] 104),(.b 1,2),(.b 6,7),(.b 8,9),(35,38)] [.i,.n,.p,.i,.i,.i,.n,.p,.n,.p,.p] 40 [(.b 0,.cells [.ptr 41 0,43,44,45,.map 46,.map 48] 104),(.b 41,42),(.b 46,47),(.b 48,49),(35,50)]
(.br (.not (.eq 40 (.i 0)))
(.ret 40 [(.b 0,.cells [.ptr 41 0,43,44,45,.map 46,.map 48] 104),(.b 41,42),(.b 46,47),(.b 48,49),(13,34)])
(.call 66 [.ptr 0 0,10,.agg [11,12],.s 13] [(.b 0,.cells [.ptr 41 0,43,44,45,.map 46,.map 48] 104),(.b 41,42),(.b 46,47),(.b 48,49),(13,34)] [.n,.p,.i,.i,.i,.n,.p,.n,.p,.p] (.au []) [(.b 0,.cells [.ptr 51 0,53,54,55,.map 56,.map 58] 104),(.b 51,52),(.b 56,57),(.b 58,59),(13,60)]
(.ret (.k 0) [(.b 0,.cells [.ptr 51 0,53,54,55,.map 56,.map 58] 104),(.b 51,52),(.b 56,57),(.b 58,59),(13,60)])))))))))))))))
theorem B3:tree Tryz.prog {fX:=[168,177],aB:=dk,aY:=[(67,[0])]} Tryz.f171 [.ptr 0 0,10,.agg [11,12],.s 13] [(.b 0,.cells [.ptr 1 0,3,4,5,.map 6,.map 8] 104),(.b 1,2),(.b 6,7),(.b 8,9),(13,16)] 17=zP:=by kernel_rfl
end RX
section
open RX
def zQ(n:Int):Bool:=decide (0<=n)&&decide (n<=2147483647)
def mX(n r w:Int):Bool:=decide (1<=n)&&decide (n<=2147483647)&&zQ r&&zQ w
def zR(r w r' w':Int):Bool:=decide (r<r')||(decide (r=r')&&decide (w<w'))
def lI(n:Int):Bool:=decide (0<=n)&&decide (n<=4294967296)
theorem B4(n:Int):ax Tryz.prog 63 #[.int .i64 n] HP.tt (λv=>HP.and (v=.bool (zQ n)) HP.tt):=by
 refine ah (ρ:=[.i n]) mixed Tryz.func63 FM ?_
 unfold FL
 refine cY ?_
 refine⟨λh=>.of λR h' _=>⟨?_,trivial⟩,λh=>.of λR h' _=>⟨?_,trivial⟩⟩
 ·simp[zQ,h];congr
 ·simp[zQ,h]
theorem rE(n r w:Int):ax Tryz.prog 64 #[.int .i64 n,.agg #[.int .i64 r,.int .i64 w]] HP.tt (λv=>HP.and (v=.bool (mX n r w)) HP.tt):=by
 refine ah (ρ:=[.i n,.i r,.i w]) mixed Tryz.func64 ym ?_
 unfold wU
 refine cY ?_
 refine λx=>⟨λh1=>⟨λh2=>?_,λh2=>.of λR h' _=>⟨?_,trivial⟩⟩,λh1=>.of λR h' _=>⟨?_,trivial⟩⟩
 ·refine(B4 r).ak (λ_ _ h=>h) ?_
  rintro v R h ⟨rfl,H⟩
  refine⟨_,rfl,⟨λh3=>?_,λh3=>.of λR h' _=>⟨?_,trivial⟩⟩,H⟩
  ·refine(B4 w).ak (λ_ _ h=>h) ?_
   rintro v R h ⟨rfl,H⟩
   refine⟨_,rfl,.of λR h' _=>⟨?_,trivial⟩,H⟩
   simp[mX,h1,h2,h3]
  ·simp only[Bool.not_eq_true]at h3;simp[mX,h3]
 ·simp[mX,h2]
 ·simp[mX,h1]
theorem FT(r w r' w':Int):ax Tryz.prog 221 #[.agg #[.int .i64 r,.int .i64 w],.agg #[.int .i64 r',.int .i64 w']] HP.tt (λv=>HP.and (v=.bool (zR r w r' w')) HP.tt):=by
 refine ah (ρ:=[.i r,.i w,.i r',.i w']) mixed Tryz.func221 Pq ?_
 unfold T3
 refine cY ?_
 refine λx y=>⟨λh1=>.of λR h' _=>⟨?_,trivial⟩,λh1=>⟨λh2=>.of λR h' _=>⟨?_,trivial⟩,λh2=>.of λR h' _=>⟨?_,trivial⟩⟩⟩
 ·simp[zR,h1]
 ·simp[zR,h1,h2]
 ·simp[zR,h1,h2]
theorem rF(n:Int):ax Tryz.prog 61 #[.int .i64 n] HP.tt (λv=>HP.and (v=.bool (lI n)) HP.tt):=by
 refine ah (ρ:=[.i n]) mixed Tryz.func61 B0 ?_
 unfold zM
 refine cY ?_
 refine⟨λh=>.of λR h' _=>⟨?_,trivial⟩,λh=>.of λR h' _=>⟨?_,trivial⟩⟩
 ·simp[lI,h];congr
 ·simp[lI,h]
def s6(what:Int)(n:Nat):Bool:=if what=1 then decide ((n:Int)<=65536)else if what=2 then decide ((n:Int)=0)else false
theorem Py(what:Int)(a:Option Addr)(n c:Nat)(S:HP):ax Tryz.prog 216 #[.agg #[.int .i64 what,.slice a n c]] S (λv=>HP.and (v=.bool (s6 what n)) S):=by
 refine ah (ρ:=[.i what,.a a,.n n,.n c,.p S]) mixed Tryz.func216 yo ?_
 unfold wV
 refine cY ?_
 refine λx=>⟨λh1=>.of λR h' H=>⟨?_,H⟩,λh1=>⟨λh2=>.of λR h' H=>⟨?_,H⟩,λh2=>.of λR h' H=>⟨?_,H⟩⟩⟩
 ·simp[s6,h1]
 ·simp[s6,h2]
 ·simp[s6,h1,h2]
theorem T9(x:Int):0<=IntKind.u64.wrap x:=by
 show(0:Int)<=x%(2^64)
 exact Int.emod_nonneg _ (by decide)
theorem ax.pre{P:Program}{f:FuncId}{args:Array Value}{A A':HP}{B:Value->HP}(t:ax P f args A B)(e:HP.aV A' A):ax P f args A' B:=
 t.be (K:=HP.tt) (e.trans (.of λ_ _=>HP.az)) λ_=>.of λ_ _=>HP.aj
def aR(k:UInt8)(ns:List Int):List UInt8:=k::ns.flatMap λn=>gw (IntKind.u64.wrap n).toNat 8
theorem dm(k:UInt8)(ns:List Int):(aR k ns).length=1+8*ns.length:=by
 unfold aR
 rw[List.length_cons]
 induction ns with
 |nil=>rfl
 |cons x r ih=>rw[List.flatMap_cons,List.length_append,bZ,List.length_cons];omega
theorem mj(k:UInt8)(a:Option Addr)(n c:Nat)(ns:List Int)(S:HP)(hr:Rd S a (ns.map λx=>.int .i64 x))(hl:ns.length=n)(ha:n≠0->a.isSome=true)(hn:n<=1000):
 ax Tryz.prog 220 #[fH k,.slice a n c] S (λv=>HP.ex λb=>HP.and (v=.pointer (some ⟨b,0,none⟩)) (HP.an S (cA b (aR k ns)))):=by
 refine ah (ρ:=[.i k.toNat,.a a,.n n,.n c,.p S]) mixed Tryz.func220 Ps ?_
 unfold T4
 refine cY ?_
 intro b
 refine(km b [] k (by simp)).ak (λR h H=>⟨none,0,HP.ae (HP.az H) (λ_ h=>h) λy _=>cp.nil _ _ R y⟩) ?_
 rintro v R h ⟨rfl,H⟩
 refine⟨cA b [k],rfl,⟨λx P=>∃j:Nat,x=j/\j<=n/\HP.aV P (cA b (aR k (ns.take j))),λx _=>n - x.toNat,⟨0,rfl,Nat.zero_le _,.refl _⟩,?_⟩,H⟩
 rintro _ P ⟨j,rfl,hj,hP⟩
 refine⟨λhlt=>⟨by omega,λ_=>⟨ha (by omega),λ_=>?_⟩⟩,λlN=>?_⟩
 ·have hg:ns[j]? =some (ns[j]'(by omega)):=List.getElem?_eq_getElem (by omega)
  refine⟨ns[j]'(by omega),?_,?_⟩
  ·have:=b7 (t:=3) (d:=.int .i64) (by kernel_rfl) (by kernel_rfl) (by kernel_rfl) hr (k:=j) (off:=0) (v:=.int .i64 (ns[j]'(by omega))) (by rw[Nat.add_zero,List.getElem?_map,hg];rfl)
   rw[qe]
   refine cY ?_
   rw[Int.toNat_natCast,Nat.mul_one]
   exact this
  ·have hw:IntKind.u64.wrap (ns[j]'(by omega))=((IntKind.u64.wrap (ns[j]'(by omega))).toNat:Int):=(Int.toNat_of_nonneg (T9 _)).symm
   rw[hw]
   refine((gb b (aR k (ns.take j)) (IntKind.u64.wrap (ns[j]'(by omega))).toNat 8 (Nat.le_refl _) (by rw[dm,List.length_take];omega)).pre hP).ak (λ_ _ h=>h) ?_
   rintro v R h ⟨rfl,H⟩
   refine⟨_,rfl,⟨aK _ (by omega) (by omega),λ_=>⟨⟨j+1,by omega,by omega,.refl _⟩,by dsimp only;omega⟩⟩,?_⟩
   have e:aR k (ns.take (j+1))=aR k (ns.take j)++gw (IntKind.u64.wrap (ns[j]'(by omega))).toNat 8:=by
    have:ns.take (j+1)=ns.take j++[ns[j]'(by omega)]:=by rw[List.take_add_one,hg];rfl
    rw[this]
    simp only[aR,List.flatMap_append,List.flatMap_cons,List.flatMap_nil,List.append_nil,List.cons_append]
   rw[e]
   exact H
 ·have:j=n:=by omega
  subst this
  rw[List.take_of_length_le (by omega)]at hP
  exact((HP.aV.refl _).gZ hP).trans (.of λR h H=>⟨b,rfl,H⟩)
def iO(at':Int)(x:eS):List UInt8:=if x.what=2 then aR 2 [at']else aR 1 [at']++gw x.data.length 4++x.data
theorem B5(at' what:Int)(a:Option Addr)(n c:Nat)(d:List UInt8)(S:HP)(hr:bR S a n (d.map fH))(hl:d.length=n)(hn:n<=100000000)(ha:n≠0->a.isSome=true):
 ax Tryz.prog 219 #[.int .i64 at',.agg #[.int .i64 what,.slice a n c]] S (λv=>HP.ex λa'=>HP.ex λc'=>HP.and (v=.slice a' (iO at' ⟨what,d⟩).length c') (HP.an S (du a' (iO at' ⟨what,d⟩).length c' (iO at' ⟨what,d⟩)))):=by
 refine ah (ρ:=[.i at',.i what,.a a,.n n,.n c,.p S]) mixed Tryz.func219 yp ?_
 unfold wW
 refine cY ?_
 have rd1:∀y,Rd (HP.one y (.cells #[.int .i64 at'] 3)) (some ⟨y,0,none⟩) ([at'].map λx=>.int .i64 x):=λy=>dW y #[.int .i64 at'] _
 refine λx=>⟨λhw y=>?_,λhw y=>?_⟩
 ·refine(mj 2 (some ⟨y,0,none⟩) 1 1 [at'] _ (rd1 y) rfl (λ_=>rfl) (by omega)).ak (λ_ _ h=>h) ?_
  rintro v R h ⟨b,rfl,H⟩
  refine⟨b,cA b (aR 2 [at']),at',rfl,?_,HP.ao H⟩
  refine(iF b (aR 2 [at']) (by rw[dm];simp)).ak (λ_ _ h=>h) ?_
  rintro v R h ⟨a',c',rfl,H⟩
  have e:iO at' ⟨what,d⟩=aR 2 [at']:=if_pos hw
  rw[e]
  exact⟨a',_,c',du a' (aR 2 [at']).length c' (aR 2 [at']),_,rfl,.of λR h H=>⟨a',c',rfl,H⟩,HP.ao H⟩
 ·refine(mj 1 (some ⟨y,0,none⟩) 1 1 [at'] _ (rd1 y) rfl (λ_=>rfl) (by omega)).ak (λ_ _ h=>h) ?_
  rintro v R h ⟨b,rfl,H⟩
  refine⟨b,cA b (aR 1 [at']),at',rfl,?_,HP.ao H⟩
  refine(o3 b (aR 1 [at']) a n c d S hr hl ha (by rw[dm];simp only[List.length_cons,List.length_nil];omega)).ak (λ_ _ h=>h) ?_
  rintro v R h ⟨rfl,H⟩
  refine⟨_,S,rfl,?_,H⟩
  refine(iF b _ (by rw[List.length_append,List.length_append,dm,bZ];simp only[List.length_cons,List.length_nil];omega)).ak (λ_ _ h=>h) ?_
  rintro v R h ⟨a',c',rfl,H⟩
  have e:iO at' ⟨what,d⟩=aR 1 [at']++gw n 4++d:=by simp only[iO];rw[if_neg hw,hl]
  rw[e]
  exact⟨a',_,c',du a' _ c' _,_,rfl,.of λR h H=>⟨a',c',rfl,H⟩,HP.ao H⟩
structure M7 where
 pr:Int
 pw:Int
 ar:Int
 aw:Int
 val:List UInt8
def aS(v:Value)(x:eS):HP:=HP.ex λa=>HP.ex λc=>HP.and (v=.agg #[.int .i64 x.what,.slice a x.data.length c]/\x.data.length<=140737488355328) (aO a x.data.length x.data)
def aZ(v:Value)(x:M7):HP:=HP.ex λa=>HP.ex λc=>HP.and (v=.agg #[.int .i64 x.pr,.int .i64 x.pw,.int .i64 x.ar,.int .i64 x.aw,.slice a x.val.length c]/\x.val.length<=140737488355328) (aO a x.val.length x.val)
theorem kw:DQ aS:=λ_ _ _ _ _ ⟨a,c,e,H⟩=>⟨a,c,e,H⟩
theorem mY:DQ aZ:=λ_ _ _ _ _ ⟨a,c,e,H⟩=>⟨a,c,e,H⟩
theorem M8:Tryz.prog.underlying 101=some (.map 3 44):=by kernel_rfl
theorem FU:Tryz.prog.underlying 102=some (.map 3 181):=by kernel_rfl
theorem adW:(Tryz.prog.info? 44).map (λi=>(i.zero,i.size,i.bytes))=some (some (.agg #[.int .i64 0,.slice none 0 0]),2,32):=by kernel_rfl
theorem Ua:(Tryz.prog.info? 181).map (λi=>(i.zero,i.size,i.bytes))=some (some (.agg #[.int .i64 0,.int .i64 0,.int .i64 0,.int .i64 0,.slice none 0 0]),5,56):=by kernel_rfl
structure eW where
 aE:Int
 low:Int
 iV:Int
 cells:Int->Option eS
 inst:Int->Option M7
def eO(ub bd mc mi:Nat)(s:eW):HP:=HP.one ub (.cells #[.pointer (some ⟨bd,0,none⟩),.int .i64 s.aE,.int .i64 s.low,.int .i64 s.iV,.map (some mc),.map (some mi)] 104)
def dV(ub bd:Nat)(D:HP)(s:eW):HP:=HP.ex λmc=>HP.ex λmi=>HP.an (eO ub bd mc mi s) (HP.an D (HP.an (eJ aS iE mc s.cells) (eJ aZ iE mi s.inst)))
theorem dV.kF{f:FuncId}{args:Array Value}{ub bd:Nat}{D:HP}{s:eW}{B:Value->HP}
 (t:∀mc mi lc cc li ci,ax Tryz.prog f args (HP.an (eO ub bd mc mi s) (HP.an D (HP.an (aC aS iE mc s.cells lc cc) (aC aZ iE mi s.inst li ci)))) B):ax Tryz.prog f args (dV ub bd D s) B:=by
 refine ax.ex λmc=>ax.ex λmi=>?_
 refine(ax.ex (A:=λlc=>HP.ex λcc=>HP.ex λli=>HP.ex λci=>HP.an (eO ub bd mc mi s) (HP.an D (HP.an (aC aS iE mc s.cells lc cc) (aC aZ iE mi s.inst li ci)))) λlc=>ax.ex λcc=>ax.ex λli=>ax.ex λci=>t mc mi lc cc li ci).ak ?_ λ_ _ _ h=>h
 rintro R h ⟨h1,h2,d,l1,l2,H1,h3,h4,d2,l3,l4,H2,h5,h6,d3,l5,l6,⟨lc,cc,H3⟩,⟨li,ci,H4⟩⟩
 exact⟨lc,cc,li,ci,h1,h2,d,l1,l2,H1,h3,h4,d2,l3,l4,H2,h5,h6,d3,l5,l6,H3,H4⟩
theorem dV.adX{f:FuncId}{args:Array Value}{ub bd:Nat}{D S:HP}{s:eW}{B:Value->HP}
 (t:∀mc mi lc cc li ci,ax Tryz.prog f args (HP.an (eO ub bd mc mi s) (HP.an D (HP.an (aC aS iE mc s.cells lc cc) (HP.an (aC aZ iE mi s.inst li ci) S)))) B):ax Tryz.prog f args (HP.an (dV ub bd D s) S) B:=by
 refine(ax.ex (A:=λmc=>HP.ex λmi=>HP.ex λlc=>HP.ex λcc=>HP.ex λli=>HP.ex λci=>HP.an (eO ub bd mc mi s) (HP.an D (HP.an (aC aS iE mc s.cells lc cc) (HP.an (aC aZ iE mi s.inst li ci) S)))) λmc=>ax.ex λmi=>ax.ex λlc=>ax.ex λcc=>ax.ex λli=>ax.ex λci=>t mc mi lc cc li ci).ak ?_ λ_ _ _ h=>h
 rintro R h ⟨h1,h2,d,l1,l2,⟨mc,mi,H⟩,HS⟩
 refine⟨mc,mi,?_⟩
 obtain⟨k1,k2,e,m1,m2,H1,H2⟩:=HP.aq ⟨h1,h2,d,l1,l2,H,HS⟩
 obtain⟨k3,k4,e2,m3,m4,H3,H4⟩:=HP.aq H2
 obtain⟨k5,k6,e3,m5,m6,⟨lc,cc,H5⟩,k7,k8,e4,m7,m8,⟨li,ci,H6⟩,H7⟩:=HP.aq H4
 exact⟨lc,cc,li,ci,k1,k2,e,m1,m2,H1,k3,k4,e2,m3,m4,H3,k5,k6,e3,m5,m6,H5,k7,k8,e4,m7,m8,H6,H7⟩
theorem dV.of{ub bd mc mi:Nat}{D:HP}{s:eW}{R h:PH}(H:(HP.an (eO ub bd mc mi s) (HP.an D (HP.an (eJ aS iE mc s.cells) (eJ aZ iE mi s.inst)))).p R h):(dV ub bd D s).p R h:=⟨mc,mi,H⟩
theorem dV.B6{ub bd mc mi:Nat}{D:HP}{s:eW}{lc:AL Int}{cc:Nat}{li:AL Int}{ci:Nat}{R h:PH}(H:(HP.an (eO ub bd mc mi s) (HP.an D (HP.an (aC aS iE mc s.cells lc cc) (aC aZ iE mi s.inst li ci)))).p R h):(dV ub bd D s).p R h:=by
 obtain⟨h1,h2,d,l1,l2,H1,h3,h4,d2,l3,l4,H2,h5,h6,d3,l5,l6,H3,H4⟩:=H
 exact⟨mc,mi,h1,h2,d,l1,l2,H1,h3,h4,d2,l3,l4,H2,h5,h6,d3,l5,l6,⟨_,_,H3⟩,⟨_,_,H4⟩⟩
theorem dV.J6{ub bd mc mi:Nat}{D S:HP}{s:eW}{R h:PH}(H:(HP.an (eO ub bd mc mi s) (HP.an D (HP.an (eJ aS iE mc s.cells) (HP.an (eJ aZ iE mi s.inst) S)))).p R h):(HP.an (dV ub bd D s) S).p R h:=by
 have H2:=HP.ay (HP.ae H (λ_ h=>h) λy hy=>HP.ay (HP.ae hy (λ_ h=>h) λz hz=>HP.ay hz))
 exact HP.ae H2 (λy hy=>⟨mc,mi,hy⟩) λ_ h=>h
theorem ml(ub bd:Nat)(D:HP)(s:eW):ax Tryz.prog 120 #[.pointer (some ⟨ub,0,none⟩)] (dV ub bd D s) (λv=>HP.and (v=.int .i64 s.aE) (dV ub bd D s)):=by
 refine dV.kF λmc mi lc cc li ci=>?_
 refine ah (ρ:=[.n ub,.n bd,.p D,.i s.aE,.i s.low,.i s.iV,.n mc,.p (aC aS iE mc s.cells lc cc),.n mi,.p (aC aZ iE mi s.inst li ci)]) mixed Tryz.func120 FO ?_
 unfold FN
 refine cY ?_
 exact .of λR h H=>⟨trivial,dV.B6 H⟩
theorem B7(ub bd:Nat)(D:HP)(s:eW):ax Tryz.prog 119 #[.pointer (some ⟨ub,0,none⟩)] (dV ub bd D s) (λv=>HP.and (v=.int .i64 s.low) (dV ub bd D s)):=by
 refine dV.kF λmc mi lc cc li ci=>?_
 refine ah (ρ:=[.n ub,.n bd,.p D,.i s.aE,.i s.low,.i s.iV,.n mc,.p (aC aS iE mc s.cells lc cc),.n mi,.p (aC aZ iE mi s.inst li ci)]) mixed Tryz.func119 Pt ?_
 unfold T5
 refine cY ?_
 exact .of λR h H=>⟨trivial,dV.B6 H⟩
theorem wY(ub bd:Nat)(D:HP)(s:eW):ax Tryz.prog 166 #[.pointer (some ⟨ub,0,none⟩)] (dV ub bd D s) (λv=>HP.and (v=.int .i64 (max s.iV s.low)) (dV ub bd D s)):=by
 refine dV.kF λmc mi lc cc li ci=>?_
 refine ah (ρ:=[.n ub,.n bd,.p D,.i s.aE,.i s.low,.i s.iV,.n mc,.p (aC aS iE mc s.cells lc cc),.n mi,.p (aC aZ iE mi s.inst li ci)]) mixed Tryz.func166 JW ?_
 unfold MY
 refine cY ?_
 exact .of λR h H=>⟨trivial,dV.B6 H⟩
def g8(s:eW)(aE at':Int):Int:=if aE=s.aE then(if lI at' then 0 else 2)else 8
theorem mZ(ub bd mc mi:Nat)(D C I:HP)(s:eW)(aE at':Int):ax Tryz.prog 215 #[.pointer (some ⟨ub,0,none⟩),.int .i64 aE,.int .i64 at'] (HP.an (eO ub bd mc mi s) (HP.an D (HP.an C I)))
 (λv=>HP.and (v=.int .i64 (g8 s aE at')) (HP.an (eO ub bd mc mi s) (HP.an D (HP.an C I)))):=by
 refine ah (ρ:=[.n ub,.n bd,.p D,.i s.aE,.i s.low,.i s.iV,.n mc,.p C,.n mi,.p I,.i aE,.i at']) mixed Tryz.func215 FQ ?_
 unfold FP
 refine cY ?_
 refine⟨λh=>.of λR y H=>⟨by rw[g8,if_neg h],H⟩,λh=>(rF at').ak (λ_ _ h=>h) ?_⟩
 rintro v R y ⟨rfl,H⟩
 refine⟨_,rfl,⟨λh2=>.of λR y H=>⟨by rw[g8,if_pos h,if_neg h2],H⟩,λh2=>.of λR y H=>⟨by rw[g8,if_pos h,if_pos h2],H⟩⟩,H⟩
theorem FW(ub bd mc mi:Nat)(room:Int)(ps:List Pg)(bD:Nat)(C I:HP)(s:eW)(a:Option Addr)(n c:Nat)(l:List UInt8)(S:HP)(hr:bR S a n (l.map fH))(hl:l.length=n)(hb:n<=140737488355328):
 ax Tryz.prog 218 #[.pointer (some ⟨ub,0,none⟩),.slice a n c] (HP.an (eO ub bd mc mi s) (HP.an (dh bd room ps bD) (HP.an C (HP.an I S))))
 (λv=>HP.and (v=.int .i64 (jS room ps ⟨1,l⟩).1) (HP.an (eO ub bd mc mi s) (HP.an (dh bd room (jS room ps ⟨1,l⟩).2 (if(jS room ps ⟨1,l⟩).1=0 then(jS room ps ⟨1,l⟩).2.length else bD)) (HP.an C (HP.an I S))))):=by
 refine ah (ρ:=[.n ub,.n bd,.p (dh bd room ps bD),.i s.aE,.i s.low,.i s.iV,.n mc,.p C,.n mi,.p I,.a a,.n n,.n c,.p S]) mixed Tryz.func218 JX ?_
 unfold MZ
 refine cY ?_
 refine(JR bd room ps bD a n c l S hr hl hb).ak (λ_ _ h=>h) ?_
 rintro v R h ⟨rfl,H⟩
 refine⟨_,_,S,rfl,⟨λh0=>.of λR y H=>⟨rfl,by rw[if_neg h0];exact H⟩,λh0=>?_⟩,H⟩
 refine(TY bd room _ bD).ak (λ_ _ h=>h) ?_
 rintro v R y ⟨rfl,H⟩
 exact⟨_,rfl,.of λR z H=>⟨by rw[h0],by rw[if_pos h0];exact H⟩,H⟩
theorem B8(ub bd mc mi:Nat)(D I:HP)(s:eW)(lc:AL Int)(cc:Nat)(at' what:Int)(a:Option Addr)(n c:Nat)(d:List UInt8)(S:HP)(hr:bR S a n (d.map fH))(hl:d.length=n)(hb:n<=140737488355328)(QX:lI at'=true):
 ax Tryz.prog 62 #[.pointer (some ⟨ub,0,none⟩),.int .i64 at',.agg #[.int .i64 what,.slice a n c]] (HP.an (eO ub bd mc mi s) (HP.an D (HP.an (aC aS iE mc s.cells lc cc) (HP.an I S))))
 (λv=>HP.and (v=.tuple #[]) (HP.an (eO ub bd mc mi {s with iV:=max s.iV (at'+1)}) (HP.an D (HP.an (eJ aS iE mc (gU s.cells at' (some ⟨what,d⟩))) (HP.an I S))))):=by
 refine ah (ρ:=[.n ub,.n bd,.p D,.i s.aE,.i s.low,.i s.iV,.n mc,.p (aC aS iE mc s.cells lc cc),.n mi,.p I,.i at',.i what,.a a,.n n,.n c,.p S]) mixed Tryz.func62 Pv ?_
 unfold T6
 refine cY ?_
 intro x
 refine(ei S a n c d hr hl hb).ak (λ_ _ h=>h) ?_
 rintro v R h ⟨a',c',rfl,H⟩
 refine⟨a',n,c',aO a' n d,S,rfl,?_,H⟩
 rw[mM (by decide) (by decide) (by decide)]
 refine cY ?_
 refine(aC.put iK M8 kw at' _ ⟨what,d⟩ (λR h H=>?_)).ak (λ_ _ h=>h) ?_
 ·subst hl
  exact⟨a',c',⟨rfl,hb⟩,H⟩
 ·rintro v R h ⟨rfl,H⟩
  simp only[lI,Bool.and_eq_true,decide_eq_true_eq]at QX
  exact⟨_,rfl,⟨aK _ (by omega) (by omega),λ_=>.of λR h H=>⟨trivial,H⟩⟩,H⟩
theorem Rd.imp{S T:HP}{a:Option Addr}{xs:List Value}(r:Rd T a xs)(h:∀R x,S.p R x->T.p R x):Rd S a xs:=λw R x F s p=>r w R x F s (h R x p)
theorem bR.imp{S:HP}{a:Option Addr}{n:Nat}{l:List UInt8}(h:∀R x,S.p R x->(aO a n l).p R x):bR S a n (l.map fH):=
 ⟨Rd.imp (bR.ro 1 a n (l.map fH)).rd h,λR x p=>(bR.ro 1 a n (l.map fH)).none R x (h R x p)⟩
theorem FX(ub bd mc mi:Nat)(D I:HP)(s:eW)(lc:AL Int)(cc:Nat)(at':Int):
 ax Tryz.prog 217 #[.pointer (some ⟨ub,0,none⟩),.int .i64 at'] (HP.an (eO ub bd mc mi s) (HP.an D (HP.an (aC aS iE mc s.cells lc cc) I)))
 (λv=>HP.ex λa=>HP.ex λc=>HP.and (v=.tuple #[.agg #[.int .i64 ((s.cells at').getD ⟨0,[]⟩).what,.slice a ((s.cells at').getD ⟨0,[]⟩).data.length c],.bool (s.cells at').isSome]) (HP.an (aO a ((s.cells at').getD ⟨0,[]⟩).data.length ((s.cells at').getD ⟨0,[]⟩).data) (HP.an (eO ub bd mc mi s) (HP.an D (HP.an (aC aS iE mc s.cells lc cc) I))))):=by
 refine ax.bV (φ:=∃a c,(aG at' lc).getD (.agg #[.int .i64 0,.slice none 0 0])=.agg #[.int .i64 ((s.cells at').getD ⟨0,[]⟩).what,.slice a ((s.cells at').getD ⟨0,[]⟩).data.length c]/\(aG at' lc).isSome=(s.cells at').isSome/\((s.cells at').getD ⟨0,[]⟩).data.length<=140737488355328/\
  ∀R h,(aC aS iE mc s.cells lc cc).p R h->(aO a ((s.cells at').getD ⟨0,[]⟩).data.length ((s.cells at').getD ⟨0,[]⟩).data).p R h) (λR h H=>?_) ?_
 ·have HM:=HP.aj (HP.ai (HP.ai H))
  cases hc:s.cells at' with
  |none=>
   rw[aC.no HM hc]
   exact⟨none,0,rfl,rfl,by simp,λ_ _ _=>bb.nil _ _ _ _⟩
  |some x=>
   obtain⟨v,hv,a,c,⟨e,hb⟩,_⟩:=aC.Bo HM kw hc PH.cz
   rw[hv]
   refine⟨a,c,e,rfl,hb,λR2 h2 H2=>?_⟩
   obtain⟨v2,hv2,a2,c2,⟨e2,_⟩,hr⟩:=aC.Bo H2 kw hc h2
   rw[hv]at hv2
   cases hv2
   rw[e]at e2
   cases e2
   exact hr
 rintro⟨a,c,qs,oq,hb,hro⟩
 refine ah (ρ:=[.n ub,.n bd,.p D,.i s.aE,.i s.low,.i s.iV,.n mc,.p (aC aS iE mc s.cells lc cc),.n mi,.p I,.i at']) mixed Tryz.func217 JY ?_
 unfold M0
 refine cY ?_
 intro x
 obtain⟨i,hi,z1,_⟩:=info_parts adW
 have fR:=gX (r:=mc) (l:=lc) (c:=cc) iK M8 hi z1 at' true (A:=aC aS iE mc s.cells lc cc) (λR h H=>aC.at H)
 rw[if_pos rfl,qs,oq]at fR
 refine⟨_,_,_,_,_,fR,λy=>?_⟩
 refine(ei (aC aS iE mc s.cells lc cc) a _ c ((s.cells at').getD ⟨0,[]⟩).data (bR.imp hro) rfl hb).ak (λ_ _ h=>h) ?_
 rintro v R h ⟨a',c',rfl,H⟩
 refine⟨a',_,c',aO a' ((s.cells at').getD ⟨0,[]⟩).data.length ((s.cells at').getD ⟨0,[]⟩).data,aC aS iE mc s.cells lc cc,rfl,.of λR h H=>⟨a',c',rfl,?_⟩,H⟩
 refine bb.join (HP.ai (HP.ai (HP.ai (HP.ai H)))) ?_
 exact HP.ae H (λ_ h=>h) λy hy=>HP.ae hy (λ_ h=>h) λz hz=>HP.ae hz (λ_ h=>h) λq hq=>HP.aj hq
theorem aC.ahm{κ α:Type}[DecidableEq κ]{enc:κ->Value}{r c:Nat}{l:AL κ}{V:Value->α->HP}{f:κ->Option α}{kt et t:TypeId}(K:gH Tryz.prog kt enc)(ht:Tryz.prog.underlying t=some (.map kt et))(hV:DQ V)(k:κ)(v:Value)(x:α)(hv:∀R h,(aC V enc r f l c).p R h->(V v x).p R h):
 aI Tryz.prog (jL t (.map (some r)) (enc k) v) (aC V enc r f l c) (λz=>HP.and (z=.tuple #[]) (eJ V enc r (gU f k (some x)))):=
 (aC.put (r:=r) (l:=l) (c:=c) (f:=f) K ht hV k v x (A:=V v x) (λ_ _ h=>h)).ak (λR h H=>⟨h,PH.cz,PH.gq h,PH.le.refl _,PH.cT _,H,hV _ _ _ _ _ (hv R h H)⟩) (λz R h ⟨e,H⟩=>⟨e,HP.aj H⟩)
def zI:M7:=⟨0,0,0,0,[]⟩
def aT(s:eW)(n:Int):M7:=(s.inst n).getD zI
theorem s7(mi:Nat)(s:eW)(li:AL Int)(ci:Nat)(n:Int){R h:PH}(HM:(aC aZ iE mi s.inst li ci).p R h):
 ∃a c,(aG n li).getD (.agg #[.int .i64 0,.int .i64 0,.int .i64 0,.int .i64 0,.slice none 0 0])=.agg #[.int .i64 (aT s n).pr,.int .i64 (aT s n).pw,.int .i64 (aT s n).ar,.int .i64 (aT s n).aw,.slice a (aT s n).val.length c]/\(aT s n).val.length<=140737488355328/\
  ∀R h,(aC aZ iE mi s.inst li ci).p R h->(aO a (aT s n).val.length (aT s n).val).p R h:=by
 unfold aT
 cases hc:s.inst n with
 |none=>
  rw[aC.no HM hc]
  exact⟨none,0,rfl,by simp[zI],λ_ _ _=>bb.nil _ _ _ _⟩
 |some x=>
  obtain⟨v,hv,a,c,⟨e,hb⟩,_⟩:=aC.Bo HM mY hc PH.cz
  rw[hv]
  refine⟨a,c,e,hb,λR2 h2 H2=>?_⟩
  obtain⟨v2,hv2,a2,c2,⟨e2,_⟩,hr⟩:=aC.Bo H2 mY hc h2
  rw[hv]at hv2
  cases hv2
  rw[e]at e2
  cases e2
  exact hr
def wZ(s:eW)(n r w:Int):eW:={s with inst:=gU s.inst n (some {aT s n with pr:=r,pw:=w})}
theorem FY(ub bd mc mi:Nat)(D C:HP)(s:eW)(li:AL Int)(ci:Nat)(n r w:Int):
 ax Tryz.prog 65 #[.pointer (some ⟨ub,0,none⟩),.int .i64 n,.agg #[.int .i64 r,.int .i64 w]] (HP.an (eO ub bd mc mi s) (HP.an D (HP.an C (aC aZ iE mi s.inst li ci))))
 (λv=>HP.and (v=.tuple #[]) (HP.an (eO ub bd mc mi s) (HP.an D (HP.an C (eJ aZ iE mi (wZ s n r w).inst))))):=by
 refine ax.bV (λR h H=>s7 mi s li ci n (HP.ai (HP.ai (HP.ai H)))) ?_
 rintro⟨a,c,qs,hb,hro⟩
 refine ah (ρ:=[.n ub,.n bd,.p D,.i s.aE,.i s.low,.i s.iV,.n mc,.p C,.n mi,.p (aC aZ iE mi s.inst li ci),.i n,.i r,.i w]) mixed Tryz.func65 JZ ?_
 unfold M1
 refine cY ?_
 intro x
 obtain⟨i,hi,z1,_⟩:=info_parts Ua
 have fR:=gX (r:=mi) (l:=li) (c:=ci) iK FU hi z1 n false (A:=aC aZ iE mi s.inst li ci) (λR h H=>aC.at H)
 rw[if_neg (by decide),qs]at fR
 refine⟨_,_,_,_,_,_,_,fR,λy=>?_⟩
 rw[mM (by decide) (by decide) (by decide)]
 refine cY ?_
 refine(aC.ahm iK FU mY n _ {aT s n with pr:=r,pw:=w} (λR h H=>⟨a,c,⟨rfl,hb⟩,hro R h H⟩)).ak (λ_ _ h=>h) ?_
 rintro v R h ⟨rfl,H⟩
 exact⟨_,rfl,.of λR h H=>⟨trivial,H⟩,H⟩
def J7(s:eW)(n r w:Int)(l:List UInt8):eW:={s with inst:=gU s.inst n (some ⟨r,w,r,w,l⟩)}
theorem M9(ub bd mc mi:Nat)(D C:HP)(s:eW)(li:AL Int)(ci:Nat)(n r w:Int)(a:Option Addr)(k c:Nat)(l:List UInt8)(S:HP)(hr:bR S a k (l.map fH))(hl:l.length=k)(hb:k<=140737488355328):
 ax Tryz.prog 66 #[.pointer (some ⟨ub,0,none⟩),.int .i64 n,.agg #[.int .i64 r,.int .i64 w],.slice a k c] (HP.an (eO ub bd mc mi s) (HP.an D (HP.an C (HP.an (aC aZ iE mi s.inst li ci) S))))
 (λv=>HP.and (v=.tuple #[]) (HP.an (eO ub bd mc mi s) (HP.an D (HP.an C (HP.an (eJ aZ iE mi (J7 s n r w l).inst) S))))):=by
 refine ah (ρ:=[.n ub,.n bd,.p D,.i s.aE,.i s.low,.i s.iV,.n mc,.p C,.n mi,.p (aC aZ iE mi s.inst li ci),.i n,.i r,.i w,.a a,.n k,.n c,.p S]) mixed Tryz.func66 Pw ?_
 unfold T7
 refine cY ?_
 intro x
 refine(ei S a k c l hr hl hb).ak (λ_ _ h=>h) ?_
 rintro v R h ⟨a',c',rfl,H⟩
 refine⟨a',k,c',aO a' k l,S,rfl,?_,H⟩
 rw[mM (by decide) (by decide) (by decide)]
 refine cY ?_
 refine(aC.put iK FU mY n _ ⟨r,w,r,w,l⟩ (λR h H=>?_)).ak (λ_ _ h=>h) ?_
 ·subst hl
  exact⟨a',c',⟨rfl,hb⟩,H⟩
 ·rintro v R h ⟨rfl,H⟩
  exact⟨_,rfl,.of λR h H=>⟨trivial,H⟩,H⟩
def Box(bx ub:Nat):HP:=HP.one bx (.cells #[.pointer (some ⟨ub,0,none⟩)] 39)
theorem Ub(bx ub bd mc mi:Nat)(D C I:HP)(s:eW)(k what:Int)(a:Option Addr)(n c:Nat):
 ax Tryz.prog 68 #[.int .i64 k,.agg #[.int .i64 what,.slice a n c],.pointer (some ⟨bx,0,none⟩)] (HP.an (Box bx ub) (HP.an (eO ub bd mc mi s) (HP.an D (HP.an C I))))
 (λv=>HP.and (v=.bool (decide (k<s.low))) (HP.an (Box bx ub) (HP.an (eO ub bd mc mi s) (HP.an D (HP.an C I))))):=by
 refine ax.ak (A:=HP.an HP.tt (HP.an (Box bx ub) (HP.an (eO ub bd mc mi s) (HP.an D (HP.an C I))))) ?_ (λ_ _ h=>HP.aM h) (λ_ _ _ h=>h)
 refine ah (ρ:=[.i k,.i what,.a a,.n n,.n c,.p HP.tt,.n bx,.n ub,.n bd,.p D,.i s.aE,.i s.low,.i s.iV,.n mc,.p C,.n mi,.p I]) mixed Tryz.func68 J0 ?_
 unfold M2
 refine cY ?_
 exact λx=>.of λR h H=>⟨trivial,HP.ai H⟩
theorem Pz(bx ub bd mc mi:Nat)(D C I:HP)(s:eW)(k what:Int)(a:Option Addr)(n c:Nat):
 ax Tryz.prog 68 #[.int .i64 k,.agg #[.int .i64 what,.slice a n c],.pointer (some ⟨bx,0,none⟩)] (HP.an C (HP.an (Box bx ub) (HP.an (eO ub bd mc mi s) (HP.an D I))))
 (λv=>HP.and (v=.bool (decide (k<s.low))) (HP.an C (HP.an (Box bx ub) (HP.an (eO ub bd mc mi s) (HP.an D I))))):=
 (Ub bx ub bd mc mi D C I s k what a n c).ak
   (λR h H=>HP.ae (HP.swap H) (λ_ h=>h) λy hy=>HP.ae (HP.swap hy) (λ_ h=>h) λz hz=>HP.swap hz)
   (λv R h ⟨e,H⟩=>⟨e,HP.swap (HP.ae H (λ_ h=>h) λy hy=>HP.swap (HP.ae hy (λ_ h=>h) λz hz=>HP.swap hz))⟩)
theorem Xb(bx ub bd mc mi:Nat)(D I:HP)(s:eW)(lc:AL Int)(cc:Nat):
 ax Tryz.prog 67 #[.map (some mc),.func (.func 68) #[] #[.pointer (some ⟨bx,0,none⟩)]] (HP.an (aC aS iE mc s.cells lc cc) (HP.an (Box bx ub) (HP.an (eO ub bd mc mi s) (HP.an D I))))
 (λv=>HP.and (v=.tuple #[]) (HP.an (eJ aS iE mc (λk=>if k<s.low then none else s.cells k)) (HP.an (Box bx ub) (HP.an (eO ub bd mc mi s) (HP.an D I))))):=by
 refine ax.bV (φ:=iJ lc cc) (λR h H=>(HP.aj H).1) λYn=>?_
 refine ah (ρ:=[.n mc,.p (aC aS iE mc s.cells lc cc),.n bx,.n ub,.n bd,.p D,.i s.aE,.i s.low,.i s.iV,.n mi,.p I]) mixed Tryz.func67 Px ?_
 unfold T8
 refine cY ?_
 rw[Dt]
 refine cY ?_
 refine((nT (m:=mc) (l:=lc) (c:=cc) (enc:=iE) M8).frame (lG aS lc s.cells)).ak (λR h H=>H.2) ?_
 rintro v R h ⟨h1,h2,d,l1,l2,⟨it,rfl,H⟩,HV⟩
 have Hst:(HP.an (HP.one it (.mapIter (some mc) cc #[] cc)) (aC aS iE mc s.cells lc cc)).p R h:=HP.ae (HP.aq ⟨h1,h2,d,l1,l2,H,HV⟩) (λ_ h=>h) λy hy=>⟨Yn,hy⟩
 clear H HV d l1 l2
 let J:HP->HP->Nat->Prop:=λPi Pm N=>∃(l:AL Int) (S:Array Nat) (f:Int->Option eS),Pi=HP.one it (.mapIter (some mc) cc S cc)/\Pm=aC aS iE mc f l cc/\iJ l cc/\(∀k,f k=s.cells k\/(k<s.low/\f k=none))/\(∀x∈l,x.2.2∈S->¬x.1<s.low)/\lZ l S=N
 refine⟨it,_,_,rfl,⟨λPi Pm=>∃N,J Pi Pm N,λPi Pm=>eK (J Pi Pm),⟨_,lc,#[],s.cells,rfl,rfl,Yn,λk=>.inl rfl,λx _ hx=>absurd hx (by simp),rfl⟩,?_⟩,Hst⟩
 intro Pi Pm hJ
 have S8:=kX hJ
 generalize VN:eK (J Pi Pm)=N at S8
 obtain⟨l,S,f,rfl,rfl,hI,hf,hS,hN⟩:=S8
 rw[II]
 refine cY ?_
 refine(wg hI.2).ak (λ_ _ h=>h) ?_
 rintro v R h ⟨e,he,H⟩
 rcases e with _|x
 ·refine⟨false,.tuple #[],.tuple #[],_,he.1,⟨λh=>(by cases h),λ_=>HP.aV.of λR h H=>⟨trivial,?_⟩⟩,H⟩
  refine HP.ae H (λy hy=>?_) λ_ h=>h
  have e:f=λk=>if k<s.low then none else s.cells k:=funext λk=>by
   by_cases hk:k<s.low
   ·rw[if_pos hk]
    cases VO:f k with
    |none=>rfl
    |some z=>
     obtain⟨v,hv,_⟩:=aC.Bo hy kw VO y
     obtain⟨b,hb⟩:=jK k l v hv
     exact absurd hk (hS _ hb (he.2 _ hb))
   ·rw[if_neg hk]
    exact(hf k).resolve_right λh=>hk h.1
  rw[<-e]
  exact⟨l,cc,hy⟩
 ·obtain⟨rfl,hx,hxS⟩:=he
  have Hm:=HP.ai H
  have mf:aG x.1 l=some x.2.1:=mL x.1 x.2.1 x.2.2 l hI.1 hx
  obtain⟨z,a,c,hz,_⟩:∃z a c,x.2.1=.agg #[.int .i64 (eS.what z),.slice a z.data.length c]/\f x.1=some z:=by
   cases VO:f x.1 with
   |none=>rw[aC.no Hm VO]at mf;cases mf
   |some z=>
    obtain⟨v,hv,a,c,⟨e,_⟩,_⟩:=aC.Bo Hm kw VO h
    rw[mf]at hv
    cases hv
    exact⟨z,a,c,e,rfl⟩
  refine⟨true,iE x.1,x.2.1,_,rfl,⟨λ_=>?_,λh=>by simp at h⟩,H⟩
  have x5:=vX (enc:=iE) (it:=it) (m:=mc) (c:=cc) (S:=S) (x:=x) hI.2 hx (A:=HP.an (HP.one it (.mapIter (some mc) cc (kr S (some x)) cc)) (aC aS iE mc f l cc)) (λR h H=>HP.aj H) (λR h H=>aC.at (HP.ai H))
  rw[hz]at x5
  refine⟨x.1,_,_,_,_,x5,λy=>?_⟩
  refine(Pz bx ub bd mc mi D (aC aS iE mc f l cc) I s x.1 _ _ _ _).ak (λ_ _ h=>h) ?_
  rintro v R h ⟨rfl,H⟩
  refine⟨_,rfl,⟨λaaG=>?_,λaaG=>?_⟩,H⟩
  ·rw[Bb (by decide)]
   refine cY ?_
   refine(aC.YE (r:=mc) (l:=l) (c:=cc) (f:=f) (V:=aS) iK M8 x.1 #[101,3] 0 rfl).ak (λ_ _ h=>h) ?_
   rintro v R h ⟨rfl,H⟩
   have Et:J (HP.one it (.mapIter (some mc) cc (kr S (some x)) cc)) (aC aS iE mc (gU f x.1 none) (ff x.1 l) cc) (lZ (ff x.1 l) (S.push x.2.2)):=by
    refine⟨ff x.1 l,S.push x.2.2,gU f x.1 none,rfl,rfl,hI.YE x.1,λk=>?_,λy hy Wm=>?_,rfl⟩
    ·unfold gU
     by_cases e:k=x.1
     ·subst e;exact .inr ⟨by simpa using aaG,if_pos rfl⟩
     ·rw[if_neg e];exact hf k
    ·have Z8:=(il x.1 l).subset hy
     rcases g6 hI.2 hx Z8 Wm with rfl|h
     ·have:=(gS y.1 (ff y.1 l)).2 (List.mem_map.2 ⟨y,hy,rfl⟩)
      rw[mO _ _ _ hI.1,if_pos rfl]at this
      cases this
     ·exact hS y Z8 h
   refine⟨_,rfl,⟨⟨_,Et⟩,Nat.lt_of_le_of_lt (j7 Et) ?_⟩,H⟩
   rw[VN,<-hN]
   exact Nat.lt_of_le_of_lt (((il x.1 l).filter _).length_le) (kq hx hxS)
  ·have Et:J (HP.one it (.mapIter (some mc) cc (kr S (some x)) cc)) (aC aS iE mc f l cc) (lZ l (S.push x.2.2)):=by
    refine⟨l,S.push x.2.2,f,rfl,rfl,hI,hf,λy hy Wm=>?_,rfl⟩
    rcases g6 hI.2 hx hy Wm with rfl|h
    ·simpa using aaG
    ·exact hS y hy h
   refine⟨⟨_,Et⟩,Nat.lt_of_le_of_lt (j7 Et) ?_⟩
   rw[VN,<-hN]
   exact kq hx hxS
def pP(s:eW):eW:={s with cells:=λk=>if k<s.low then none else s.cells k}
theorem w4(ub bd mc mi:Nat)(D I:HP)(s:eW)(lc:AL Int)(cc:Nat):
 ax Tryz.prog 39 #[.pointer (some ⟨ub,0,none⟩)] (HP.an (eO ub bd mc mi s) (HP.an D (HP.an (aC aS iE mc s.cells lc cc) I)))
 (λv=>HP.and (v=.tuple #[]) (HP.an (eO ub bd mc mi s) (HP.an D (HP.an (eJ aS iE mc (pP s).cells) I)))):=by
 refine ah (ρ:=[.n ub,.n bd,.p D,.i s.aE,.i s.low,.i s.iV,.n mc,.p (aC aS iE mc s.cells lc cc),.n mi,.p I]) mixed Tryz.func39 B1 ?_
 unfold zN
 refine cY ?_
 intro bx
 refine(Xb bx ub bd mc mi D I s lc cc).ak (λ_ _ h=>h) ?_
 rintro v R h ⟨rfl,H⟩
 exact⟨_,rfl,.of λR h H=>⟨trivial,H⟩,H⟩
def lJ(r:List UInt8×Bool):Bool:= !(r.2|| !r.1.isEmpty)
theorem kg{r:List UInt8×Bool}(h:¬(if r.2=true\/r.1≠[]then(3:Int)else 0)=0):lJ r=false:=by
 obtain⟨l,w⟩:=r
 cases w<;>cases l<;>simp_all [lJ]
theorem jl{r:List UInt8×Bool}(h:(if r.2=true\/r.1≠[]then(3:Int)else 0)=0):lJ r=true:=by
 obtain⟨l,w⟩:=r
 cases w<;>cases l<;>simp_all [lJ]
theorem w6(s:List UInt8×Bool)(bO:Int):(eI s bO).1.length<=140737488355328:=by
 have h1:=o8 (bW s bO).2 (bW s bO).1
 have h2:(bW s bO).1<=4294967296:=by
  have:=jX s 4
  unfold bW
  split
  ·exact Nat.zero_le _
  ·split
   ·exact Nat.zero_le _
   ·simp only;omega
 unfold eI
 omega
def bv(s:eW)(b:List UInt8):Option eW:=
 let k:=bq (b,false) 1
 let n:=cD (bq k.2 8).1
 let r:=(bq k.2 8).2
 match k.1 with
 |1=>let d:=eI r 65536
  if lJ d.2&&lI n then some {s with cells:=gU s.cells n (some ⟨1,d.1⟩),iV:=max s.iV (n+1)}else none
 |2=>if lJ r&&lI n then some {s with cells:=gU s.cells n (some ⟨2,[]⟩),iV:=max s.iV (n+1)}else none
 |3=>if lJ r&&lI n then some {s with low:=n}else none
 |4=>if lJ r&&zQ n then some {s with aE:=n}else none
 |5=>let a:=bq r 8
  let c:=bq a.2 8
  if lJ c.2&&mX n (cD a.1) (cD c.1)then some (wZ s n (cD a.1) (cD c.1))else none
 |6=>let a:=bq r 8
  let c:=bq a.2 8
  let d:=eI c.2 1000
  if lJ d.2&&mX n (cD a.1) (cD c.1)then some (J7 s n (cD a.1) (cD c.1) d.1)else none
 |_=>none
theorem J8(ub bd mc mi:Nat)(D:HP)(s:eW)(lc:AL Int)(cc:Nat)(li:AL Int)(ci:Nat)(a:Option Addr)(n c:Nat)(l:List UInt8)(S:HP)(hr:bR S a n (l.map fH))(hl:l.length=n)(hb:n<=140737488355328):
 ax Tryz.prog 38 #[.pointer (some ⟨ub,0,none⟩),.slice a n c] (HP.an (eO ub bd mc mi s) (HP.an D (HP.an (aC aS iE mc s.cells lc cc) (HP.an (aC aZ iE mi s.inst li ci) S))))
 (λv=>HP.and (v=.bool (bv s l).isSome) (HP.an (eO ub bd mc mi ((bv s l).getD s)) (HP.an D (HP.an (eJ aS iE mc ((bv s l).getD s).cells) (HP.an (eJ aZ iE mi ((bv s l).getD s).inst) S))))):=by
 refine ah (ρ:=[.n ub,.n bd,.p D,.i s.aE,.i s.low,.i s.iV,.n mc,.p (aC aS iE mc s.cells lc cc),.n mi,.p (aC aZ iE mi s.inst li ci),.a a,.n n,.n c,.p S]) mixed Tryz.func38 B2 ?_
 unfold zO
 refine cY ?_
 refine(nZ a n c l S hr hl hb).ak (λ_ _ h=>h) ?_
 rintro v R h ⟨rb,rfl,H⟩
 refine⟨rb,_,S,rfl,?_,HP.ao H⟩
 refine(nY rb (l,false)).ak (λ_ _ h=>h) ?_
 rintro v R h ⟨rfl,H⟩
 refine⟨_,_,rfl,?_,H⟩
 refine(kV rb _).ak (λ_ _ h=>h) ?_
 rintro v R h ⟨rfl,H⟩
 refine⟨_,_,rfl,?_,H⟩
 clear H
 have hk:(bq (l,false) 1).1<256:=by simpa using jX (l,false) 1
 have fail:bv s l=none->HP.aV (HP.an (eO ub bd mc mi s) (HP.an D (HP.an (aC aS iE mc s.cells lc cc) (HP.an (aC aZ iE mi s.inst li ci) S)))) (HP.and (Value.bool false=Value.bool (bv s l).isSome) (HP.an (eO ub bd mc mi ((bv s l).getD s)) (HP.an D (HP.an (eJ aS iE mc ((bv s l).getD s).cells) (HP.an (eJ aZ iE mi ((bv s l).getD s).inst) S))))):=λe=>by
  rw[e]
  exact .of λR h H=>⟨rfl,HP.ae H (λ_ h=>h) λy hy=>HP.ae hy (λ_ h=>h) λz hz=>HP.ae hz (λq hq=>⟨_,_,hq⟩) λu hu=>HP.ae hu (λq hq=>⟨_,_,hq⟩) λ_ h=>h⟩
 generalize qJ:(bq (l,false) 1).1=k at hk
 have ahn:k%256=k:=Nat.mod_eq_of_lt hk
 rw[ahn]
 refine⟨λh1=>?_,λh1=>⟨λh2=>?_,λh2=>⟨λh3=>?_,λh3=>⟨λh4=>?_,λh4=>⟨λh5=>?_,λh5=>⟨λh6=>?_,λh6=>?_⟩⟩⟩⟩⟩⟩
 ·have Na:k=1:=by omega
  subst Na
  refine(j6 rb _ 65536).ak (λ_ _ h=>h) ?_
  rintro v R h ⟨da,dc,rfl,H⟩
  refine⟨da,_,dc,du da _ dc _,_,rfl,λy=>?_,HP.ao H⟩
  refine(jY rb _).ak (λ_ _ h=>h) ?_
  rintro v R h ⟨rfl,H⟩
  refine⟨_,_,rfl,⟨λhe=>fail ?_,λhe=>?_⟩,H⟩
  ·simp only[bv,qJ,kg he];rfl
  ·refine(rF _).ak (λ_ _ h=>h) ?_
   rintro v R h ⟨rfl,H⟩
   refine⟨_,rfl,⟨λha=>fail ?_,λha=>?_⟩,H⟩
   ·simp only[bv,qJ];rw[if_neg (by simp[ha])]
   ·have e:bv s l=some {s with cells:=gU s.cells (cD (bq (bq (l,false) 1).2 8).1) (some ⟨1,(eI (bq (bq (l,false) 1).2 8).2 65536).1⟩),iV:=max s.iV (cD (bq (bq (l,false) 1).2 8).1+1)}:=by
     simp only[bv,qJ];rw[if_pos (by rw[jl he,ha];rfl)]
    rw[e]
    refine(B8 ub bd mc mi D (aC aZ iE mi s.inst li ci) s lc cc _ 1 da _ dc (eI (bq (bq (l,false) 1).2 8).2 65536).1 _ (bR.ow _ 1 _ _ _ _) rfl (w6 _ _) ha).ak (λ_ _ h=>h) ?_
    rintro v R h ⟨rfl,H⟩
    refine⟨bd,D,s.aE,s.low,_,mc,_,mi,aC aZ iE mi s.inst li ci,_,rfl,.of λR h H=>⟨rfl,?_⟩,H⟩
    exact HP.ae H (λ_ h=>h) λy hy=>HP.ae hy (λ_ h=>h) λz hz=>HP.ae hz (λ_ h=>h) λu hu=>HP.ae hu (λq hq=>⟨_,_,hq⟩) λ_ h=>h
 ·have VP:k=2:=by omega
  subst VP
  refine(jY rb _).ak (λ_ _ h=>h) ?_
  rintro v R h ⟨rfl,H⟩
  refine⟨_,_,rfl,⟨λhe=>fail ?_,λhe=>?_⟩,H⟩
  ·simp only[bv,qJ,kg he];rfl
  ·refine(rF _).ak (λ_ _ h=>h) ?_
   rintro v R h ⟨rfl,H⟩
   refine⟨_,rfl,⟨λha=>fail ?_,λha=>?_⟩,H⟩
   ·simp only[bv,qJ];rw[if_neg (by simp[ha])]
   ·have e:bv s l=some {s with cells:=gU s.cells (cD (bq (bq (l,false) 1).2 8).1) (some ⟨2,[]⟩),iV:=max s.iV (cD (bq (bq (l,false) 1).2 8).1+1)}:=by
     simp only[bv,qJ];rw[if_pos (by rw[jl he,ha];rfl)]
    rw[e]
    refine(B8 ub bd mc mi D (aC aZ iE mi s.inst li ci) s lc cc _ 2 none 0 0 [] HP.tt ⟨λ_ _ _ _ _ _ _ _ hj=>by simp at hj,λ_ _ _ _=>rfl⟩ rfl (by omega) ha).ak (λR h H=>HP.ae H (λ_ h=>h) λy hy=>HP.ae hy (λ_ h=>h) λz hz=>HP.ae hz (λ_ h=>h) λq hq=>HP.az hq) ?_
    rintro v R h ⟨rfl,H⟩
    refine⟨bd,D,s.aE,s.low,_,mc,_,mi,aC aZ iE mi s.inst li ci,rfl,.of λR h H=>⟨rfl,?_⟩,HP.ae H (λ_ h=>h) λy hy=>HP.ae hy (λ_ h=>h) λz hz=>HP.ae hz (λ_ h=>h) λq hq=>HP.aj hq⟩
    exact HP.ae H (λ_ h=>h) λy hy=>HP.ae hy (λ_ h=>h) λz hz=>HP.ae hz (λ_ h=>h) λu hu=>HP.ae hu (λq hq=>⟨_,_,hq⟩) λ_ h=>h
 ·have hk3:k=3:=by omega
  subst hk3
  refine(jY rb _).ak (λ_ _ h=>h) ?_
  rintro v R h ⟨rfl,H⟩
  refine⟨_,_,rfl,⟨λhe=>fail ?_,λhe=>?_⟩,H⟩
  ·simp only[bv,qJ,kg he];rfl
  ·refine(rF _).ak (λ_ _ h=>h) ?_
   rintro v R h ⟨rfl,H⟩
   refine⟨_,rfl,⟨λha=>fail ?_,λha=>?_⟩,H⟩
   ·simp only[bv,qJ];rw[if_neg (by simp[ha])]
   ·have e:bv s l=some {s with low:=cD (bq (bq (l,false) 1).2 8).1}:=by
     simp only[bv,qJ];rw[if_pos (by rw[jl he,ha];rfl)]
    rw[e]
    exact .of λR h H=>⟨rfl,HP.ae H (λ_ h=>h) λy hy=>HP.ae hy (λ_ h=>h) λz hz=>HP.ae hz (λq hq=>⟨_,_,hq⟩) λu hu=>HP.ae hu (λq hq=>⟨_,_,hq⟩) λ_ h=>h⟩
 ·have hk3:k=4:=by omega
  subst hk3
  refine(jY rb _).ak (λ_ _ h=>h) ?_
  rintro v R h ⟨rfl,H⟩
  refine⟨_,_,rfl,⟨λhe=>fail ?_,λhe=>?_⟩,H⟩
  ·simp only[bv,qJ,kg he];rfl
  ·refine(B4 _).ak (λ_ _ h=>h) ?_
   rintro v R h ⟨rfl,H⟩
   refine⟨_,rfl,⟨λha=>fail ?_,λha=>?_⟩,H⟩
   ·simp only[bv,qJ];rw[if_neg (by simp[ha])]
   ·have e:bv s l=some {s with aE:=cD (bq (bq (l,false) 1).2 8).1}:=by
     simp only[bv,qJ];rw[if_pos (by rw[jl he,ha];rfl)]
    rw[e]
    exact .of λR h H=>⟨rfl,HP.ae H (λ_ h=>h) λy hy=>HP.ae hy (λ_ h=>h) λz hz=>HP.ae hz (λq hq=>⟨_,_,hq⟩) λu hu=>HP.ae hu (λq hq=>⟨_,_,hq⟩) λ_ h=>h⟩
 ·have hk5:k=5:=by omega
  subst hk5
  refine(kV rb _).ak (λ_ _ h=>h) ?_
  rintro v R h ⟨rfl,H⟩
  refine⟨_,_,rfl,?_,H⟩
  refine(kV rb _).ak (λ_ _ h=>h) ?_
  rintro v R h ⟨rfl,H⟩
  refine⟨_,_,rfl,λy=>?_,H⟩
  refine(jY rb _).ak (λ_ _ h=>h) ?_
  rintro v R h ⟨rfl,H⟩
  refine⟨_,_,rfl,⟨λhe=>fail ?_,λhe=>?_⟩,H⟩
  ·simp only[bv,qJ,kg he];rfl
  ·refine(rE _ _ _).ak (λ_ _ h=>h) ?_
   rintro v R h ⟨rfl,H⟩
   refine⟨_,rfl,⟨λha=>fail ?_,λha=>?_⟩,H⟩
   ·simp only[bv,qJ];rw[if_neg (by simp[ha])]
   ·have e:bv s l=some (wZ s (cD (bq (bq (l,false) 1).2 8).1) (cD (bq (bq (bq (l,false) 1).2 8).2 8).1) (cD (bq (bq (bq (bq (l,false) 1).2 8).2 8).2 8).1)):=by
     simp only[bv,qJ];rw[if_pos (by rw[jl he,ha];rfl)]
    rw[e]
    refine(FY ub bd mc mi D (aC aS iE mc s.cells lc cc) s li ci _ _ _).ak (λ_ _ h=>h) ?_
    rintro v R h ⟨rfl,H⟩
    refine⟨bd,D,s.aE,s.low,s.iV,mc,aC aS iE mc s.cells lc cc,mi,_,rfl,.of λR h H=>⟨rfl,?_⟩,H⟩
    exact HP.ae H (λ_ h=>h) λy hy=>HP.ae hy (λ_ h=>h) λz hz=>HP.ae hz (λq hq=>⟨_,_,hq⟩) λ_ h=>h
 ·have hk6:k=6:=by omega
  subst hk6
  refine(kV rb _).ak (λ_ _ h=>h) ?_
  rintro v R h ⟨rfl,H⟩
  refine⟨_,_,rfl,?_,H⟩
  refine(kV rb _).ak (λ_ _ h=>h) ?_
  rintro v R h ⟨rfl,H⟩
  refine⟨_,_,rfl,λy=>?_,H⟩
  refine(j6 rb _ 1000).ak (λ_ _ h=>h) ?_
  rintro v R h ⟨da,dc,rfl,H⟩
  refine⟨da,_,dc,du da _ dc _,_,rfl,?_,HP.ao H⟩
  refine(jY rb _).ak (λ_ _ h=>h) ?_
  rintro v R h ⟨rfl,H⟩
  refine⟨_,_,rfl,⟨λhe=>fail ?_,λhe=>?_⟩,H⟩
  ·simp only[bv,qJ,kg he];rfl
  ·refine(rE _ _ _).ak (λ_ _ h=>h) ?_
   rintro v R h ⟨rfl,H⟩
   refine⟨_,rfl,⟨λha=>fail ?_,λha=>?_⟩,H⟩
   ·simp only[bv,qJ];rw[if_neg (by simp[ha])]
   ·have e:bv s l=some (J7 s (cD (bq (bq (l,false) 1).2 8).1) (cD (bq (bq (bq (l,false) 1).2 8).2 8).1) (cD (bq (bq (bq (bq (l,false) 1).2 8).2 8).2 8).1) (eI (bq (bq (bq (bq (l,false) 1).2 8).2 8).2 8).2 1000).1):=by
     simp only[bv,qJ];rw[if_pos (by rw[jl he,ha];rfl)]
    rw[e]
    refine(M9 ub bd mc mi D (aC aS iE mc s.cells lc cc) s li ci _ _ _ da _ dc _ _ (bR.ow _ 1 _ _ _ _) rfl (w6 _ _)).ak (λ_ _ h=>h) ?_
    rintro v R h ⟨rfl,H⟩
    refine⟨bd,D,s.aE,s.low,s.iV,mc,aC aS iE mc s.cells lc cc,mi,_,_,rfl,.of λR h H=>⟨rfl,?_⟩,H⟩
    exact HP.ae H (λ_ h=>h) λy hy=>HP.ae hy (λ_ h=>h) λz hz=>HP.ae hz (λq hq=>⟨_,_,hq⟩) λ_ h=>h
 ·refine fail ?_
  simp only[bv,qJ]
  split<;>first|rfl|omega
def fM(s:eW)(aE at':Int):eS×Int:=
 if g8 s aE at'≠0 then(⟨0,[]⟩,g8 s aE at')
 else if at'<s.low then(⟨0,[]⟩,11)
 else match s.cells at' with
  |some x=>(x,0)
  |none=>(⟨0,[]⟩,9)
theorem Ud(ub bd:Nat)(D:HP)(s:eW)(aE at':Int):
 ax Tryz.prog 161 #[.pointer (some ⟨ub,0,none⟩),.int .i64 aE,.int .i64 at'] (dV ub bd D s)
 (λv=>HP.ex λa=>HP.ex λc=>HP.and (v=.tuple #[.agg #[.int .i64 (fM s aE at').1.what,.slice a (fM s aE at').1.data.length c],.int .i64 (fM s aE at').2]) (HP.an (dV ub bd D s) (aO a (fM s aE at').1.data.length (fM s aE at').1.data))):=by
 refine dV.kF λmc mi lc cc li ci=>?_
 refine ah (ρ:=[.n ub,.n bd,.p D,.i s.aE,.i s.low,.i s.iV,.n mc,.p (aC aS iE mc s.cells lc cc),.n mi,.p (aC aZ iE mi s.inst li ci),.i aE,.i at']) mixed Tryz.func161 J3 ?_
 unfold M4
 refine cY ?_
 intro x
 refine(mZ ub bd mc mi D _ _ s aE at').ak (λ_ _ h=>h) ?_
 rintro v R h ⟨rfl,H⟩
 refine⟨_,rfl,⟨λh1=>.of λR h H=>?_,λh1=>⟨λh2=>.of λR h H=>?_,λh2=>?_⟩⟩,H⟩
 ·have e:fM s aE at'=(⟨0,[]⟩,g8 s aE at'):=if_pos h1
  rw[e]
  exact⟨none,0,rfl,bb.gR (bb.nil _ _ R h) (dV.B6 H)⟩
 ·have e:fM s aE at'=(⟨0,[]⟩,11):=by unfold fM;rw[if_neg (by simpa using h1),if_pos h2]
  rw[e]
  exact⟨none,0,rfl,bb.gR (bb.nil _ _ R h) (dV.B6 H)⟩
 ·refine(FX ub bd mc mi D (aC aZ iE mi s.inst li ci) s lc cc at').ak (λ_ _ h=>h) ?_
  rintro v R h ⟨a,c,rfl,H⟩
  have hu:(dV ub bd D s).p R h->True:=λ_=>trivial
  refine⟨_,a,_,c,aO a ((s.cells at').getD ⟨0,[]⟩).data.length ((s.cells at').getD ⟨0,[]⟩).data,_,rfl,λy=>⟨λhno=>.of λR h H=>?_,λJK=>.of λR h H=>?_⟩,H⟩
  ·have hc:s.cells at'=none:=by simpa using hno
   have e:fM s aE at'=(⟨0,[]⟩,9):=by unfold fM;rw[if_neg (by simpa using h1),if_neg h2,hc]
   rw[e]
   exact⟨none,0,rfl,bb.gR (bb.nil _ _ R h) (dV.B6 H)⟩
  ·obtain⟨z,hz⟩:=Option.isSome_iff_exists.1 JK
   have e:fM s aE at'=(z,0):=by unfold fM;rw[if_neg (by simpa using h1),if_neg h2,hz]
   rw[e]
   rw[hz]at H⊢
   refine⟨a,c,rfl,bb.gR (HP.ai (HP.ai (HP.ai (HP.ai H)))) (dV.B6 (HP.ae H (λ_ h=>h) λy hy=>HP.ae hy (λ_ h=>h) λu hu=>HP.ae hu (λ_ h=>h) λq hq=>HP.aj hq))⟩
def UD(ub bd:Nat)(room:Int)(s:eW)(ps:List Pg):HP:=dV ub bd (dh bd room ps ps.length) s
def nA(room:Int)(s:eW)(ps:List Pg)(l:List UInt8)(s':eW):Int×eW×List Pg:=if room=ps.length then(4,s,ps)else(0,s',ps++[⟨1,l⟩])
def nB(room:Int)(s:eW)(ps:List Pg)(aE low:Int):Int×eW×List Pg:=
 if g8 s aE low≠0 then(g8 s aE low,s,ps)
 else if low<=s.low then(0,s,ps)
 else nA room s ps (aR 3 [low]) (pP {s with low:=low})
theorem w7(room:Int)(ps:List Pg)(l:List UInt8):(if(jS room ps ⟨1,l⟩).1=0 then(jS room ps ⟨1,l⟩).2.length else ps.length)=(jS room ps ⟨1,l⟩).2.length:=by
 unfold jS
 split<;>simp
theorem Ue(ub bd:Nat)(room:Int)(s:eW)(ps:List Pg)(aE low:Int):
 ax Tryz.prog 163 #[.pointer (some ⟨ub,0,none⟩),.int .i64 aE,.int .i64 low] (UD ub bd room s ps)
 (λv=>HP.and (v=.int .i64 (nB room s ps aE low).1) (UD ub bd room (nB room s ps aE low).2.1 (nB room s ps aE low).2.2)):=by
 refine dV.kF λmc mi lc cc li ci=>?_
 refine ah (ρ:=[.n ub,.n bd,.p (dh bd room ps ps.length),.i s.aE,.i s.low,.i s.iV,.n mc,.p (aC aS iE mc s.cells lc cc),.n mi,.p (aC aZ iE mi s.inst li ci),.i aE,.i low]) mixed Tryz.func163 J4 ?_
 unfold M5
 refine cY ?_
 refine(mZ ub bd mc mi _ _ _ s aE low).ak (λ_ _ h=>h) ?_
 rintro v R h ⟨rfl,H⟩
 refine⟨_,rfl,⟨λh1=>.of λR h H=>?_,λh1=>⟨λh2=>.of λR h H=>?_,λh2 y=>?_⟩⟩,H⟩
 ·have e:nB room s ps aE low=(g8 s aE low,s,ps):=if_pos h1
  rw[e]
  exact⟨rfl,dV.B6 H⟩
 ·have e:nB room s ps aE low=(0,s,ps):=by unfold nB;rw[if_neg (by simpa using h1),if_pos h2]
  rw[e]
  exact⟨rfl,dV.B6 H⟩
 ·have e:nB room s ps aE low=nA room s ps (aR 3 [low]) (pP {s with low:=low}):=by unfold nB;rw[if_neg (by simpa using h1),if_neg h2]
  rw[e]
  refine(mj 3 (some ⟨y,0,none⟩) 1 1 [low] _ (dW y #[.int .i64 low] _) rfl (λ_=>rfl) (by omega)).ak (λ_ _ h=>h) ?_
  rintro v R h ⟨b,rfl,H⟩
  refine⟨b,cA b (aR 3 [low]),low,rfl,?_,HP.ao H⟩
  refine(iF b (aR 3 [low]) (by rw[dm];simp)).ak (λ_ _ h=>h) ?_
  rintro v R h ⟨a',c',rfl,H⟩
  refine⟨a',_,c',du a' (aR 3 [low]).length c' (aR 3 [low]),_,rfl,?_,HP.ao H⟩
  refine(FW ub bd mc mi room ps ps.length _ _ s a' _ c' (aR 3 [low]) _ (bR.ow _ 1 _ _ _ _) rfl (by rw[dm];simp)).ak (λ_ _ h=>h) ?_
  rintro v R h ⟨rfl,H⟩
  rw[w7]at H
  by_cases hf:room=ps.length
  ·have e1:jS room ps ⟨1,aR 3 [low]⟩=(4,ps):=if_pos hf
   have e2:∀s',nA room s ps (aR 3 [low]) s'=(4,s,ps):=λ_=>if_pos hf
   rw[e1]at H⊢
   rw[e2]
   exact⟨4,bd,dh bd room ps ps.length,s.aE,s.low,s.iV,mc,aC aS iE mc s.cells lc cc,mi,aC aZ iE mi s.inst li ci,_,rfl,⟨λ_=>.of λR h H=>⟨rfl,dV.B6 H⟩,λh=>absurd h (by decide)⟩,H⟩
  ·have e1:jS room ps ⟨1,aR 3 [low]⟩=(0,ps++[(⟨1,aR 3 [low]⟩:Pg)]):=if_neg hf
   have e2:∀s',nA room s ps (aR 3 [low]) s'=(0,s',ps++[(⟨1,aR 3 [low]⟩:Pg)]):=λ_=>if_neg hf
   rw[e1]at H⊢
   rw[e2]
   dsimp only at H⊢
   refine⟨0,bd,dh bd room (ps++[(⟨1,aR 3 [low]⟩:Pg)]) (ps++[(⟨1,aR 3 [low]⟩:Pg)]).length,s.aE,s.low,s.iV,mc,aC aS iE mc s.cells lc cc,mi,aC aZ iE mi s.inst li ci,du a' (aR 3 [low]).length c' (aR 3 [low]),?_⟩
   refine And.intro rfl (And.intro ?_ H)
   refine⟨λh=>(h rfl).elim,λ_=>?_⟩
   refine(w4 ub bd mc mi _ (aC aZ iE mi s.inst li ci) {s with low:=low} lc cc).ak (λ_ _ h=>h) ?_
   rintro v R h ⟨rfl,H⟩
   refine⟨bd,dh bd room (ps++[(⟨1,aR 3 [low]⟩:Pg)]) (ps++[(⟨1,aR 3 [low]⟩:Pg)]).length,s.aE,low,s.iV,mc,eJ aS iE mc (pP {s with low:=low}).cells,mi,aC aZ iE mi s.inst li ci,rfl,.of λR h H=>⟨rfl,?_⟩,H⟩
   show(dV ub bd (dh bd room (ps++[(⟨1,aR 3 [low]⟩:Pg)]) (ps++[(⟨1,aR 3 [low]⟩:Pg)]).length) (pP {s with low:=low})).p R h
   refine dV.of (mc:=mc) (mi:=mi) (HP.ae H (λ_ h=>h) λy hy=>HP.ae hy (λ_ h=>h) λz hz=>HP.ae hz (λ_ h=>h) λq hq=>?_)
   exact⟨li,ci,hq⟩
def zS(l:List UInt8):Pg:=⟨1,l⟩
theorem qx{room:Int}{s:eW}{ps:List Pg}{l:List UInt8}(h:room=ps.length)(s':eW):nA room s ps l s'=(4,s,ps):=if_pos h
theorem qy{room:Int}{s:eW}{ps:List Pg}{l:List UInt8}(h:¬room=ps.length)(s':eW):nA room s ps l s'=(0,s',ps++[zS l]):=if_neg h
theorem pk(ub bd mc mi:Nat)(room:Int)(ps:List Pg)(C I:HP)(s:eW)(a:Option Addr)(n c:Nat)(l:List UInt8)(S:HP)(hr:bR S a n (l.map fH))(hl:l.length=n)(hb:n<=140737488355328):
 ax Tryz.prog 218 #[.pointer (some ⟨ub,0,none⟩),.slice a n c] (HP.an (eO ub bd mc mi s) (HP.an (dh bd room ps ps.length) (HP.an C (HP.an I S))))
 (λv=>HP.ex λb:Bool=>HP.and (v=.int .i64 (if b then 4 else 0)/\(b=true↔room=ps.length)) (HP.an (eO ub bd mc mi s) (HP.an (dh bd room (if b then ps else ps++[zS l]) (if b then ps else ps++[zS l]).length) (HP.an C (HP.an I S))))):=by
 refine(FW ub bd mc mi room ps ps.length C I s a n c l S hr hl hb).ak (λ_ _ h=>h) ?_
 rintro v R h ⟨rfl,H⟩
 rw[w7]at H
 by_cases hf:room=ps.length
 ·have e1:jS room ps ⟨1,l⟩=(4,ps):=if_pos hf
  rw[e1]at H⊢
  exact⟨true,⟨rfl,λ_=>hf,λ_=>rfl⟩,H⟩
 ·have e1:jS room ps ⟨1,l⟩=(0,ps++[zS l]):=if_neg hf
  rw[e1]at H⊢
  exact⟨false,⟨rfl,λh=>(by cases h),λh=>absurd h hf⟩,H⟩
theorem UD.B6{ub bd mc mi:Nat}{room:Int}{s:eW}{ps:List Pg}{lc:AL Int}{cc:Nat}{li:AL Int}{ci:Nat}{R h:PH}(H:(HP.an (eO ub bd mc mi s) (HP.an (dh bd room ps ps.length) (HP.an (aC aS iE mc s.cells lc cc) (aC aZ iE mi s.inst li ci)))).p R h):(UD ub bd room s ps).p R h:=dV.B6 H
def gV(room:Int)(s:eW)(ps:List Pg)(aE:Int):Int×eW×List Pg:=
 if aE<=s.aE then(8,s,ps)else if 2147483647<aE then(1,s,ps)else nA room s ps (aR 4 [aE]) {s with aE:=aE}
theorem Uf(ub bd:Nat)(room:Int)(s:eW)(ps:List Pg)(aE:Int):
 ax Tryz.prog 165 #[.pointer (some ⟨ub,0,none⟩),.int .i64 aE] (UD ub bd room s ps)
 (λv=>HP.and (v=.int .i64 (gV room s ps aE).1) (UD ub bd room (gV room s ps aE).2.1 (gV room s ps aE).2.2)):=by
 refine dV.kF λmc mi lc cc li ci=>?_
 refine ah (ρ:=[.n ub,.n bd,.p (dh bd room ps ps.length),.i s.aE,.i s.low,.i s.iV,.n mc,.p (aC aS iE mc s.cells lc cc),.n mi,.p (aC aZ iE mi s.inst li ci),.i aE]) mixed Tryz.func165 J5 ?_
 unfold M6
 refine cY ?_
 refine⟨λh1=>.of λR h H=>?_,λh1=>⟨λh2=>.of λR h H=>?_,λh2 y=>?_⟩⟩
 ·have e:gV room s ps aE=(8,s,ps):=if_pos h1
  rw[e];exact⟨rfl,UD.B6 H⟩
 ·have e:gV room s ps aE=(1,s,ps):=by unfold gV;rw[if_neg h1,if_pos h2]
  rw[e];exact⟨rfl,UD.B6 H⟩
 ·have e:gV room s ps aE=nA room s ps (aR 4 [aE]) {s with aE:=aE}:=by unfold gV;rw[if_neg h1,if_neg h2]
  rw[e]
  refine(mj 4 (some ⟨y,0,none⟩) 1 1 [aE] _ (dW y #[.int .i64 aE] _) rfl (λ_=>rfl) (by omega)).ak (λ_ _ h=>h) ?_
  rintro v R h ⟨b,rfl,H⟩
  refine⟨b,cA b (aR 4 [aE]),aE,rfl,?_,HP.ao H⟩
  refine(iF b (aR 4 [aE]) (by rw[dm];simp)).ak (λ_ _ h=>h) ?_
  rintro v R h ⟨a',c',rfl,H⟩
  refine⟨a',_,c',du a' (aR 4 [aE]).length c' (aR 4 [aE]),_,rfl,?_,HP.ao H⟩
  refine(pk ub bd mc mi room ps _ _ s a' _ c' (aR 4 [aE]) _ (bR.ow _ 1 _ _ _ _) rfl (by rw[dm];simp)).ak (λ_ _ h=>h) ?_
  rintro v R h ⟨J9,⟨rfl,hf⟩,H⟩
  cases J9 with
  |true=>
   rw[qx (hf.1 rfl)]
   exact⟨4,bd,dh bd room ps ps.length,s.aE,s.low,s.iV,mc,aC aS iE mc s.cells lc cc,mi,aC aZ iE mi s.inst li ci,_,rfl,⟨λ_=>.of λR h H=>⟨rfl,UD.B6 H⟩,λh=>absurd h (by decide)⟩,H⟩
  |false=>
   rw[qy (λh=>by have:=hf.2 h;cases this)]
   refine⟨0,bd,dh bd room (ps++[zS (aR 4 [aE])]) (ps++[zS (aR 4 [aE])]).length,s.aE,s.low,s.iV,mc,aC aS iE mc s.cells lc cc,mi,aC aZ iE mi s.inst li ci,du a' (aR 4 [aE]).length c' (aR 4 [aE]),rfl,⟨λh=>absurd rfl h,λ_=>.of λR h H=>⟨rfl,?_⟩⟩,H⟩
   exact UD.B6 (s:={s with aE:=aE}) H
def aaH(s:eW)(at':Int)(x:eS):eW:={s with cells:=gU s.cells at' (some x),iV:=max s.iV (at'+1)}
def cM(room:Int)(s:eW)(ps:List Pg)(aE at':Int)(x:eS):eS×Int×eW×List Pg:=
 if g8 s aE at'≠0 then(zC,g8 s aE at',s,ps)
 else if s6 x.what x.data.length=false then(zC,1,s,ps)
 else if at'<s.low then(zC,11,s,ps)
 else match s.cells at' with
  |some y=>(y,10,s,ps)
  |none=>(zC,nA room s ps (iO at' x) (aaH s at' x))
theorem aaI{s:eW}{aE at':Int}(h:g8 s aE at'=0):aE=s.aE/\lI at'=true:=by
 unfold g8 at h
 split at h
 ·rename_i he
  split at h
  ·rename_i ha;exact⟨he,ha⟩
  ·cases h
 ·cases h
theorem UD.J6{ub bd mc mi:Nat}{room:Int}{s:eW}{ps:List Pg}{lc:AL Int}{cc:Nat}{li:AL Int}{ci:Nat}{S:HP}{R h:PH}(H:(HP.an (eO ub bd mc mi s) (HP.an (dh bd room ps ps.length) (HP.an (aC aS iE mc s.cells lc cc) (HP.an (aC aZ iE mi s.inst li ci) S)))).p R h):(HP.an (UD ub bd room s ps) S).p R h:=
 dV.J6 (HP.ae H (λ_ h=>h) λy hy=>HP.ae hy (λ_ h=>h) λz hz=>HP.ae hz (λq hq=>⟨_,_,hq⟩) λu hu=>HP.ae hu (λq hq=>⟨_,_,hq⟩) λ_ h=>h)
theorem PA(ub bd:Nat)(room:Int)(s:eW)(ps:List Pg)(aE at' what:Int)(a:Option Addr)(n c:Nat)(d:List UInt8)(S:HP)(hr:bR S a n (d.map fH))(hl:d.length=n)(ha:n≠0->a.isSome=true):
 ax Tryz.prog 159 #[.pointer (some ⟨ub,0,none⟩),.int .i64 aE,.int .i64 at',.agg #[.int .i64 what,.slice a n c]] (HP.an (UD ub bd room s ps) S)
 (λv=>HP.ex λa'=>HP.ex λc'=>HP.and (v=.tuple #[.agg #[.int .i64 (cM room s ps aE at' ⟨what,d⟩).1.what,.slice a' (cM room s ps aE at' ⟨what,d⟩).1.data.length c'],.int .i64 (cM room s ps aE at' ⟨what,d⟩).2.1])
   (HP.an (aO a' (cM room s ps aE at' ⟨what,d⟩).1.data.length (cM room s ps aE at' ⟨what,d⟩).1.data) (HP.an (UD ub bd room (cM room s ps aE at' ⟨what,d⟩).2.2.1 (cM room s ps aE at' ⟨what,d⟩).2.2.2) S))):=by
 refine dV.adX λmc mi lc cc li ci=>?_
 refine ah (ρ:=[.n ub,.n bd,.p (dh bd room ps ps.length),.i s.aE,.i s.low,.i s.iV,.n mc,.p (aC aS iE mc s.cells lc cc),.n mi,.p (aC aZ iE mi s.inst li ci),.i aE,.i at',.i what,.a a,.n n,.n c,.p S]) mixed Tryz.func159 qFS ?_
 unfold FR
 refine cY ?_
 intro x y
 refine(mZ ub bd mc mi _ _ _ s aE at').ak (λ_ _ h=>h) ?_
 rintro v R h ⟨rfl,H⟩
 refine⟨_,rfl,⟨λh1=>.of λR h H=>?_,λh1=>?_⟩,H⟩
 ·have e:cM room s ps aE at' ⟨what,d⟩=(zC,g8 s aE at',s,ps):=if_pos h1
  rw[e];exact⟨none,0,rfl,bb.join (bb.nil _ _ R h) (UD.J6 H)⟩
 have QX:=(aaI h1).2
 refine(Py what a n c S).ak (λ_ _ h=>h) ?_
 rintro v R h ⟨rfl,H⟩
 refine⟨_,rfl,⟨λh2=>.of λR h H=>?_,λh2=>⟨λh3=>.of λR h H=>?_,λh3=>?_⟩⟩,H⟩
 ·have e:cM room s ps aE at' ⟨what,d⟩=(zC,1,s,ps):=by unfold cM;rw[if_neg (by simpa using h1),if_pos (by simp only[hl];simpa using h2)]
  rw[e];exact⟨none,0,rfl,bb.join (bb.nil _ _ R h) (UD.J6 H)⟩
 ·have e:cM room s ps aE at' ⟨what,d⟩=(zC,11,s,ps):=by unfold cM;rw[if_neg (by simpa using h1),if_neg (by simp only[hl];simpa using h2),if_pos h3]
  rw[e];exact⟨none,0,rfl,bb.join (bb.nil _ _ R h) (UD.J6 H)⟩
 have hn:n<=65536:=by
  simp only[s6]at h2
  split at h2
  ·simp at h2;omega
  ·split at h2
   ·simp at h2;omega
   ·simp at h2
 clear H
 refine(FX ub bd mc mi _ (aC aZ iE mi s.inst li ci) s lc cc at').ak (λ_ _ h=>h) ?_
 rintro v R h ⟨a',c',rfl,H⟩
 refine⟨_,a',_,c',aO a' ((s.cells at').getD ⟨0,[]⟩).data.length ((s.cells at').getD ⟨0,[]⟩).data,_,rfl,λz=>⟨λJK=>.of λR h H=>?_,λhno=>?_⟩,H⟩
 ·obtain⟨u,hu⟩:=Option.isSome_iff_exists.1 JK
  have e:cM room s ps aE at' ⟨what,d⟩=(u,10,s,ps):=by unfold cM;rw[if_neg (by simpa using h1),if_neg (by simp only[hl];simpa using h2),if_neg h3,hu]
  rw[e]
  rw[hu]at H⊢
  have hro:=HP.ai (HP.ai (HP.ai (HP.ai (HP.ai H))))
  exact⟨a',c',rfl,bb.join hro (UD.J6 (HP.ae H (λ_ h=>h) λy hy=>HP.ae hy (λ_ h=>h) λz hz=>HP.ae hz (λ_ h=>h) λu hu=>HP.ae hu (λ_ h=>h) λq hq=>HP.aj hq))⟩
 ·have hc:s.cells at'=none:=by simpa using hno
  have e:cM room s ps aE at' ⟨what,d⟩=(zC,nA room s ps (iO at' ⟨what,d⟩) (aaH s at' ⟨what,d⟩)):=by unfold cM;rw[if_neg (by simpa using h1),if_neg (by simp only[hl];simpa using h2),if_neg h3,hc]
  rw[e]
  clear H
  refine(B5 at' what a n c d S hr hl (by omega) ha).ak (λ_ _ h=>h) ?_
  rintro v R h ⟨pa,pc,rfl,H⟩
  refine⟨pa,_,pc,du pa (iO at' ⟨what,d⟩).length pc (iO at' ⟨what,d⟩),S,rfl,?_,HP.ao H⟩
  have R8:(iO at' ⟨what,d⟩).length<=140737488355328:=by
   unfold iO;split
   ·rw[dm];simp
   ·rw[List.length_append,List.length_append,dm,bZ];simp;omega
  refine(pk ub bd mc mi room ps _ _ s pa _ pc (iO at' ⟨what,d⟩) _ (bR.ow _ 1 _ _ _ _) rfl R8).ak (λ_ _ h=>h) ?_
  rintro v R h ⟨J9,⟨rfl,hf⟩,H⟩
  cases J9 with
  |true=>
   rw[qx (hf.1 rfl)]
   exact⟨4,bd,dh bd room ps ps.length,s.aE,s.low,s.iV,mc,aC aS iE mc s.cells lc cc,mi,aC aZ iE mi s.inst li ci,_,rfl,⟨λ_=>.of λR h H=>⟨none,0,rfl,bb.join (bb.nil _ _ R h) (UD.J6 H)⟩,λh=>absurd h (by decide)⟩,H⟩
  |false=>
   rw[qy (λh=>by have:=hf.2 h;cases this)]
   refine⟨0,bd,dh bd room (ps++[zS (iO at' ⟨what,d⟩)]) (ps++[zS (iO at' ⟨what,d⟩)]).length,s.aE,s.low,s.iV,mc,aC aS iE mc s.cells lc cc,mi,aC aZ iE mi s.inst li ci,du pa (iO at' ⟨what,d⟩).length pc (iO at' ⟨what,d⟩),rfl,⟨λh=>absurd rfl h,λ_=>?_⟩,H⟩
   refine(B8 ub bd mc mi _ (aC aZ iE mi s.inst li ci) s lc cc at' what a n c d S hr hl (by omega) QX).ak (λ_ _ h=>h) ?_
   rintro v R h ⟨rfl,H⟩
   refine⟨bd,dh bd room (ps++[zS (iO at' ⟨what,d⟩)]) (ps++[zS (iO at' ⟨what,d⟩)]).length,s.aE,s.low,max s.iV (at'+1),mc,eJ aS iE mc (gU s.cells at' (some ⟨what,d⟩)),mi,aC aZ iE mi s.inst li ci,S,rfl,.of λR h H=>⟨none,0,rfl,bb.join (bb.nil _ _ R h) ?_⟩,H⟩
   exact dV.J6 (s:=aaH s at' ⟨what,d⟩) (mc:=mc) (mi:=mi) (HP.ae H (λ_ h=>h) λy hy=>HP.ae hy (λ_ h=>h) λz hz=>HP.ae hz (λ_ h=>h) λu hu=>HP.ae hu (λq hq=>⟨_,_,hq⟩) λ_ h=>h)
def fS(room:Int)(s:eW)(ps:List Pg)(n r w:Int)(l:List UInt8):Int×eW×List Pg:=
 if mX n r w=false then(1,s,ps)
 else if 1000<l.length then(1,s,ps)
 else if zR r w (aT s n).pr (aT s n).pw=true then(7,s,ps)
 else nA room s ps (aR 6 [n,r,w]++gw l.length 4++l) (J7 s n r w l)
set_option maxRecDepth 100000 in
theorem Ka(ub bd:Nat)(room:Int)(s:eW)(ps:List Pg)(n r w:Int)(a:Option Addr)(k c:Nat)(l:List UInt8)(S:HP)(hr:bR S a k (l.map fH))(hl:l.length=k)(ha:k≠0->a.isSome=true):
 ax Tryz.prog 171 #[.pointer (some ⟨ub,0,none⟩),.int .i64 n,.agg #[.int .i64 r,.int .i64 w],.slice a k c] (HP.an (UD ub bd room s ps) S)
 (λv=>HP.and (v=.int .i64 (fS room s ps n r w l).1) (HP.an (UD ub bd room (fS room s ps n r w l).2.1 (fS room s ps n r w l).2.2) S)):=by
 refine dV.adX λmc mi lc cc li ci=>?_
 refine ax.bV (λR h H=>s7 mi s li ci n (HP.aj (HP.ai (HP.ai (HP.ai H))))) ?_
 rintro⟨va,vc,qs,hb,hro⟩
 refine ah (ρ:=[.n ub,.n bd,.p (dh bd room ps ps.length),.i s.aE,.i s.low,.i s.iV,.n mc,.p (aC aS iE mc s.cells lc cc),.n mi,.p (aC aZ iE mi s.inst li ci),.i n,.i r,.i w,.a a,.n k,.n c,.p S]) mixed Tryz.func171 B3 ?_
 unfold zP
 refine cY ?_
 intro x
 refine(rE n r w).ak (λ_ _ h=>h) ?_
 rintro v R h ⟨rfl,H⟩
 refine⟨_,rfl,⟨λh1=>.of λR h H=>?_,λh1=>⟨λh2=>.of λR h H=>?_,λh2=>?_⟩⟩,H⟩
 ·have e:fS room s ps n r w l=(1,s,ps):=if_pos (by simpa using h1)
  rw[e];exact⟨rfl,UD.J6 H⟩
 ·have e:fS room s ps n r w l=(1,s,ps):=by unfold fS;rw[if_neg (by simpa using h1),if_pos (by omega)]
  rw[e];exact⟨rfl,UD.J6 H⟩
 obtain⟨i,hi,z1,_⟩:=info_parts Ua
 have fR:=gX (r:=mi) (l:=li) (c:=ci) iK FU hi z1 n false (A:=aC aZ iE mi s.inst li ci) (λR h H=>aC.at H)
 rw[if_neg (by decide),qs]at fR
 refine⟨_,_,_,_,_,_,_,fR,?_⟩
 refine(FT r w (aT s n).pr (aT s n).pw).ak (λ_ _ h=>h) ?_
 rintro v R h ⟨rfl,H⟩
 refine⟨_,rfl,⟨λh3=>.of λR h H=>?_,λh3 y=>?_⟩,H⟩
 ·have e:fS room s ps n r w l=(7,s,ps):=by unfold fS;rw[if_neg (by simpa using h1),if_neg (by omega),if_pos h3]
  rw[e];exact⟨rfl,UD.J6 H⟩
 have e:fS room s ps n r w l=nA room s ps (aR 6 [n,r,w]++gw l.length 4++l) (J7 s n r w l):=by unfold fS;rw[if_neg (by simpa using h1),if_neg (by omega),if_neg h3]
 rw[e]
 clear H
 refine(mj 6 (some ⟨y,0,none⟩) 3 3 [n,r,w] _ (dW y #[.int .i64 n,.int .i64 r,.int .i64 w] _) rfl (λ_=>rfl) (by omega)).ak (λ_ _ h=>h) ?_
 rintro v R h ⟨b,rfl,H⟩
 refine⟨b,cA b (aR 6 [n,r,w]),n,r,w,rfl,?_,HP.ao H⟩
 refine(o3 b (aR 6 [n,r,w]) a k c l S hr hl ha (by rw[dm];simp only[List.length_cons,List.length_nil];omega)).ak (λ_ _ h=>h) ?_
 rintro v R h ⟨rfl,H⟩
 refine⟨cA b (aR 6 [n,r,w]++gw k 4++l),S,rfl,?_,H⟩
 have hlen:(aR 6 [n,r,w]++gw k 4++l).length<=140737488355328:=by
  rw[List.length_append,List.length_append,dm,bZ];simp;omega
 refine(iF b _ (by rw[List.length_append,List.length_append,dm,bZ];simp only[List.length_cons,List.length_nil];omega)).ak (λ_ _ h=>h) ?_
 rintro v R h ⟨pa,pc,rfl,H⟩
 refine⟨pa,_,pc,du pa (aR 6 [n,r,w]++gw k 4++l).length pc (aR 6 [n,r,w]++gw k 4++l),_,rfl,?_,HP.ao H⟩
 rw[hl]
 refine(pk ub bd mc mi room ps _ _ s pa _ pc (aR 6 [n,r,w]++gw k 4++l) _ (bR.ow _ 1 _ _ _ _) rfl hlen).ak (λ_ _ h=>h) ?_
 rintro v R h ⟨J9,⟨rfl,hf⟩,H⟩
 cases J9 with
 |true=>
  rw[qx (hf.1 rfl)]
  exact⟨4,bd,dh bd room ps ps.length,s.aE,s.low,s.iV,mc,aC aS iE mc s.cells lc cc,mi,aC aZ iE mi s.inst li ci,_,rfl,⟨λ_=>.of λR h H=>⟨rfl,UD.J6 H⟩,λh=>absurd h (by decide)⟩,H⟩
 |false=>
  rw[qy (λh=>by have:=hf.2 h;cases this)]
  refine⟨0,bd,dh bd room (ps++[zS (aR 6 [n,r,w]++gw k 4++l)]) (ps++[zS (aR 6 [n,r,w]++gw k 4++l)]).length,s.aE,s.low,s.iV,mc,aC aS iE mc s.cells lc cc,mi,aC aZ iE mi s.inst li ci,du pa (aR 6 [n,r,w]++gw k 4++l).length pc (aR 6 [n,r,w]++gw k 4++l),rfl,⟨λh=>absurd rfl h,λ_=>?_⟩,H⟩
  refine(M9 ub bd mc mi _ (aC aS iE mc s.cells lc cc) s li ci n r w a k c l S hr hl (by omega)).ak (λ_ _ h=>h) ?_
  rintro v R h ⟨rfl,H⟩
  refine⟨bd,dh bd room (ps++[zS (aR 6 [n,r,w]++gw k 4++l)]) (ps++[zS (aR 6 [n,r,w]++gw k 4++l)]).length,s.aE,s.low,s.iV,mc,aC aS iE mc s.cells lc cc,mi,eJ aZ iE mi (J7 s n r w l).inst,S,rfl,.of λR h H=>⟨rfl,?_⟩,H⟩
  exact dV.J6 (s:=J7 s n r w l) (mc:=mc) (mi:=mi) (HP.ae H (λ_ h=>h) λy hy=>HP.ae hy (λ_ h=>h) λz hz=>HP.ae hz (λq hq=>⟨_,_,hq⟩) λ_ h=>h)
def bJ(room:Int)(s:eW)(ps:List Pg)(n r w:Int):Int×Int×List UInt8×Int×eW×List Pg:=
 if mX n r w=false then(0,0,[],1,s,ps)
 else if zR r w (aT s n).pr (aT s n).pw=true then(0,0,[],7,s,ps)
 else if r=(aT s n).pr/\w=(aT s n).pw then((aT s n).ar,(aT s n).aw,(aT s n).val,0,s,ps)
 else if room=ps.length then(0,0,[],4,s,ps)
 else((aT s n).ar,(aT s n).aw,(aT s n).val,0,wZ s n r w,ps++[zS (aR 5 [n,r,w])])
set_option maxRecDepth 100000 in
theorem FZ(ub bd:Nat)(room:Int)(s:eW)(ps:List Pg)(n r w:Int):
 ax Tryz.prog 169 #[.pointer (some ⟨ub,0,none⟩),.int .i64 n,.agg #[.int .i64 r,.int .i64 w]] (UD ub bd room s ps)
 (λv=>HP.ex λa=>HP.ex λc=>HP.and (v=.tuple #[.agg #[.int .i64 (bJ room s ps n r w).1,.int .i64 (bJ room s ps n r w).2.1],.slice a (bJ room s ps n r w).2.2.1.length c,.int .i64 (bJ room s ps n r w).2.2.2.1])
   (HP.an (UD ub bd room (bJ room s ps n r w).2.2.2.2.1 (bJ room s ps n r w).2.2.2.2.2) (aO a (bJ room s ps n r w).2.2.1.length (bJ room s ps n r w).2.2.1))):=by
 refine dV.kF λmc mi lc cc li ci=>?_
 refine ax.bV (λR h H=>s7 mi s li ci n (HP.ai (HP.ai (HP.ai H)))) ?_
 rintro⟨va,vc,qs,hb,hro⟩
 refine ah (ρ:=[.n ub,.n bd,.p (dh bd room ps ps.length),.i s.aE,.i s.low,.i s.iV,.n mc,.p (aC aS iE mc s.cells lc cc),.n mi,.p (aC aZ iE mi s.inst li ci),.i n,.i r,.i w]) mixed Tryz.func169 yq ?_
 unfold wX
 refine cY ?_
 intro x y
 refine(rE n r w).ak (λ_ _ h=>h) ?_
 rintro v R h ⟨rfl,H⟩
 refine⟨_,rfl,⟨λh1=>.of λR h H=>?_,λh1=>?_⟩,H⟩
 ·have e:bJ room s ps n r w=(0,0,[],1,s,ps):=if_pos (by simpa using h1)
  rw[e];exact⟨none,0,rfl,bb.gR (bb.nil _ _ R h) (UD.B6 H)⟩
 obtain⟨i,hi,z1,_⟩:=info_parts Ua
 have fR:=gX (r:=mi) (l:=li) (c:=ci) iK FU hi z1 n false (A:=aC aZ iE mi s.inst li ci) (λR h H=>aC.at H)
 rw[if_neg (by decide),qs]at fR
 rw[Ba (by decide)]
 refine cY ?_
 refine aI.IF fR λR h H=>⟨(aT s n).pr,(aT s n).pw,(aT s n).ar,(aT s n).aw,va,(aT s n).val.length,vc,aO va (aT s n).val.length (aT s n).val,aC aZ iE mi s.inst li ci,rfl,λz=>?_,bb.join (hro R h H) H⟩
 clear H
 refine(FT r w (aT s n).pr (aT s n).pw).ak (λ_ _ h=>h) ?_
 rintro v R h ⟨rfl,H⟩
 refine⟨_,rfl,⟨λh3=>.of λR h H=>?_,λh3=>?_⟩,H⟩
 ·have e:bJ room s ps n r w=(0,0,[],7,s,ps):=by unfold bJ;rw[if_neg (by simpa using h1),if_pos h3]
  rw[e];exact⟨none,0,rfl,bb.gR (bb.nil _ _ R h) (UD.B6 H)⟩
 clear H
 refine⟨_,wh (r:=r) (q:=w) (r':=(aT s n).pr) (q':=(aT s n).pw) (by decide) rfl rfl,λhne=>λy2=>?_,λheq=>?_⟩
 ·have adZ:¬(r=(aT s n).pr/\w=(aT s n).pw):=by
   simp only[Bool.not_eq_true',Bool.and_eq_false_iff,decide_eq_false_iff_not]at hne
   rintro⟨h1,h2⟩
   rcases hne with h|h
   ·exact h h1
   ·exact h h2
  refine(mj 5 (some ⟨y2,0,none⟩) 3 3 [n,r,w] _ (dW y2 #[.int .i64 n,.int .i64 r,.int .i64 w] _) rfl (λ_=>rfl) (by omega)).ak (λ_ _ h=>h) ?_
  rintro v R h ⟨b,rfl,H⟩
  refine⟨b,cA b (aR 5 [n,r,w]),n,r,w,rfl,?_,HP.ao H⟩
  refine(iF b (aR 5 [n,r,w]) (by rw[dm];simp)).ak (λ_ _ h=>h) ?_
  rintro v R h ⟨pa,pc,rfl,H⟩
  refine⟨pa,_,pc,du pa (aR 5 [n,r,w]).length pc (aR 5 [n,r,w]),_,rfl,?_,HP.ao H⟩
  refine(pk ub bd mc mi room ps _ _ s pa _ pc (aR 5 [n,r,w]) _ (bR.ow _ 1 _ _ _ _) rfl (by rw[dm];simp)).ak (λ_ _ h=>h) ?_
  rintro v R h ⟨J9,⟨rfl,hf⟩,H⟩
  cases J9 with
  |true=>
   have e:bJ room s ps n r w=(0,0,[],4,s,ps):=by unfold bJ;rw[if_neg (by simpa using h1),if_neg h3,if_neg adZ,if_pos (hf.1 rfl)]
   rw[e]
   exact⟨4,bd,dh bd room ps ps.length,s.aE,s.low,s.iV,mc,aC aS iE mc s.cells lc cc,mi,aC aZ iE mi s.inst li ci,_,rfl,⟨λ_=>.of λR h H=>⟨none,0,rfl,bb.gR (bb.nil _ _ R h) (UD.B6 H)⟩,λh=>absurd h (by decide)⟩,H⟩
  |false=>
   have e:bJ room s ps n r w=((aT s n).ar,(aT s n).aw,(aT s n).val,0,wZ s n r w,ps++[zS (aR 5 [n,r,w])]):=by unfold bJ;rw[if_neg (by simpa using h1),if_neg h3,if_neg adZ,if_neg (λh=>by have:=hf.2 h;cases this)]
   rw[e]
   refine⟨0,bd,dh bd room (ps++[zS (aR 5 [n,r,w])]) (ps++[zS (aR 5 [n,r,w])]).length,s.aE,s.low,s.iV,mc,aC aS iE mc s.cells lc cc,mi,aC aZ iE mi s.inst li ci,du pa (aR 5 [n,r,w]).length pc (aR 5 [n,r,w]),rfl,⟨λh=>absurd rfl h,λ_=>?_⟩,H⟩
   refine(FY ub bd mc mi _ (aC aS iE mc s.cells lc cc) s li ci n r w).ak (λ_ _ h=>h) ?_
   rintro v R h ⟨rfl,H⟩
   refine⟨bd,dh bd room (ps++[zS (aR 5 [n,r,w])]) (ps++[zS (aR 5 [n,r,w])]).length,s.aE,s.low,s.iV,mc,aC aS iE mc s.cells lc cc,mi,eJ aZ iE mi (wZ s n r w).inst,rfl,?_,H⟩
   refine(ei (aO va (aT s n).val.length (aT s n).val) va _ vc (aT s n).val (bR.ro _ _ _ _) rfl hb).ak (λ_ _ h=>h) ?_
   rintro v R h ⟨ca,xS,rfl,H⟩
   refine⟨ca,_,xS,aO ca (aT s n).val.length (aT s n).val,_,rfl,.of λR h H=>⟨ca,xS,rfl,?_⟩,H⟩
   exact dV.J6 (s:=wZ s n r w) (mc:=mc) (mi:=mi) (HP.ae H (λ_ h=>h) λy hy=>HP.ae hy (λ_ h=>h) λz hz=>HP.ae hz (λq hq=>⟨_,_,hq⟩) λ_ h=>h)
 ·have ahp:r=(aT s n).pr/\w=(aT s n).pw:=by simpa using heq
  have e:bJ room s ps n r w=((aT s n).ar,(aT s n).aw,(aT s n).val,0,s,ps):=by unfold bJ;rw[if_neg (by simpa using h1),if_neg h3,if_pos ahp]
  rw[e]
  refine(ei (HP.an (aO va (aT s n).val.length (aT s n).val) (aC aZ iE mi s.inst li ci)) va _ vc (aT s n).val ⟨(bR.ro 1 va _ _).rd.left,λR h H=>(bR.ro 1 va _ _).none R h (HP.aj H)⟩ rfl hb).ak (λ_ _ h=>h) ?_
  rintro v R h ⟨ca,xS,rfl,H⟩
  refine⟨ca,_,xS,aO ca (aT s n).val.length (aT s n).val,aO va (aT s n).val.length (aT s n).val,aC aZ iE mi s.inst li ci,rfl,.of λR h H=>⟨ca,xS,rfl,UD.J6 H⟩,H⟩
def s0:eW:=⟨0,0,0,λ_=>none,λ_=>none⟩
def mo(s:eW):List (List UInt8)->Option eW
 |[]=>some s
 |b::r=>match bv s b with
  |some s'=>mo s' r
  |none=>none
theorem s8(s:eW):∀(l m:List (List UInt8)),mo s (l++m)=(mo s l).bind λs'=>mo s' m
 |[],m=>rfl
 |b::r,m=>by
  simp only[List.cons_append,mo]
  cases bv s b with
  |none=>rfl
  |some s'=>exact s8 s' r m
theorem Kb{s s1:eW}{l:List (List UInt8)}(h:mo s l=some s1)(k:Nat)(b:List UInt8)(hk:l[k]? =some b):∃s2 s3,mo s (l.take k)=some s2/\bv s2 b=some s3/\mo s (l.take (k+1))=some s3:=by
 obtain⟨hlt,rfl⟩:=List.getElem?_eq_some_iff.1 hk
 have e:l=l.take (k+1)++l.drop (k+1):=(List.take_append_drop _ _).symm
 rw[e,s8]at h
 cases h1:mo s (l.take (k+1))with
 |none=>rw[h1]at h;cases h
 |some s3=>
  have lC:=h1
  rw[List.take_succ_eq_append_getElem hlt,s8]at lC
  cases h2:mo s (l.take k)with
  |none=>rw[h2]at lC;cases lC
  |some s2=>
   rw[h2]at lC
   simp only[Option.bind_some,mo]at lC
   split at lC
   ·rename_i s' hs;cases lC;exact⟨s2,s3,rfl,hs,rfl⟩
   ·cases lC
theorem ahq{f:FuncId}{args:Array Value}{ub bd mc mi:Nat}{D S:HP}{s:eW}{B:Value->HP}
 (t:∀lc cc li ci,ax Tryz.prog f args (HP.an (eO ub bd mc mi s) (HP.an D (HP.an (aC aS iE mc s.cells lc cc) (HP.an (aC aZ iE mi s.inst li ci) S)))) B):ax Tryz.prog f args (HP.an (eO ub bd mc mi s) (HP.an D (HP.an (eJ aS iE mc s.cells) (HP.an (eJ aZ iE mi s.inst) S)))) B:=by
 refine(ax.ex (A:=λlc=>HP.ex λcc=>HP.ex λli=>HP.ex λci=>HP.an (eO ub bd mc mi s) (HP.an D (HP.an (aC aS iE mc s.cells lc cc) (HP.an (aC aZ iE mi s.inst li ci) S)))) λlc=>ax.ex λcc=>ax.ex λli=>ax.ex λci=>t lc cc li ci).ak ?_ λ_ _ _ h=>h
 rintro R h ⟨h1,h2,d,l1,l2,H1,h3,h4,d2,l3,l4,H2,h5,h6,d3,l5,l6,⟨lc,cc,H3⟩,h7,h8,d4,l7,l8,⟨li,ci,H4⟩,H5⟩
 exact⟨lc,cc,li,ci,h1,h2,d,l1,l2,H1,h3,h4,d2,l3,l4,H2,h5,h6,d3,l5,l6,H3,h7,h8,d4,l7,l8,H4,H5⟩
theorem Ug(bd:Nat)(room:Int)(ps:List Pg)(bD:Nat)(s1:eW)(hs:mo s0 (bS ps)=some s1):
 ax Tryz.prog 19 #[.pointer (some ⟨bd,0,none⟩)] (dh bd room ps bD)
 (λv=>HP.ex λub=>HP.and (v=.tuple #[.pointer (some ⟨ub,0,none⟩),.int .i64 0]) (dV ub bd (dh bd room ps bD) (pP s1))):=by
 refine ah (ρ:=[.n bd,.p (dh bd room ps bD)]) mixed Tryz.func19 J1 ?_
 unfold M3
 refine cY ?_
 intro mc mi ub
 refine(Pp bd room ps bD).ak (λ_ _ h=>h) ?_
 rintro v R h ⟨a,c,⟨rfl,hD⟩,h1,h2,dj,l1,l2,HD,xs,⟨hx1,S4⟩,HL⟩
 have hall:∀(k:Nat) (p:List UInt8),(bS ps)[k]? =some p->∃x,xs[k]? =some x/\x.2.1=p.length/\p.length<=140737488355328:=λk p hp=>by
  obtain⟨x,q1,q2,q3,_⟩:=jk.get k (HP.ai HL) hp
  exact⟨x,q1,q2,q3⟩
 have oq:(bS ps).length≠0->a.isSome=true:=λhn=>cp.some (HP.aj HL) (by omega)
 have hlen:(bS ps).length<=65536:=by
  have h1:(bS ps).length<=ps.length:=List.length_filterMap_le _ _
  have:=hD.2.1
  have:=hD.2.2.1
  omega
 generalize hls:bS ps=ls at*
 refine⟨a,ls.length,c,HP.an (cp 42 1 a ls.length c (xs.map JS)) (jk xs ls),dh bd room ps bD,rfl,?_,h2,h1,dj.symm,l2,l1,HL,HD⟩
 clear HL HD dj l1 l2
 let J:Value->HP->Int->Int->HP->HP->Nat->Int->Int->Int->Nat->Nat->HP->HP->Prop:=λ_ _ _ i Pl D d ep lo tp m1 m2 PI PC=>∃(k:Nat) (s:eW),i=k/\k<=ls.length/\mo s0 (ls.take k)=some s/\ep=s.aE/\lo=s.low/\tp=s.iV/\m1=mc/\m2=mi/\d=bd/\
  HP.aV Pl (HP.an (cp 42 1 a ls.length c (xs.map JS)) (jk xs ls))/\HP.aV D (dh bd room ps bD)/\HP.aV PI (eJ aZ iE mi s.inst)/\HP.aV PC (eJ aS iE mc s.cells)
 refine⟨J,λ_ _ _ i _ _ _ _ _ _ _ _ _ _=>ls.length - i.toNat,⟨0,s0,rfl,Nat.zero_le _,rfl,rfl,rfl,rfl,rfl,rfl,rfl,HP.aV.refl _,HP.aV.refl _,.of λR h H=>eJ.new _ _ _ H,.of λR h H=>eJ.new _ _ _ H⟩,?_⟩
 rintro u0 p0 e0 i Pl D d ep lo tp m1 m2 PI PC ⟨k,s,rfl,hk,hf,rfl,rfl,rfl,rfl,rfl,rfl,hPl,hDD,hPI,hPC⟩
 refine⟨λhlt=>⟨by omega,λ_=>⟨oq (by omega),λ_=>?_⟩⟩,λlN=>?_⟩
 ·have qX:k<ls.length:=by omega
  have hg:ls[k]? =some ls[k]:=List.getElem?_eq_getElem qX
  obtain⟨x,hx,x1,x2⟩:=hall k _ hg
  obtain⟨s2,s3,g1,g2,g3⟩:=Kb hs k _ hg
  rw[hf]at g1
  cases g1
  refine⟨x.1,x.2.1,x.2.2,?_,?_⟩
  ·rw[qe]
   refine cY ?_
   rw[Int.toNat_natCast]
   exact aH.aV hPl (b7 lY (by kernel_rfl) (by kernel_rfl) ((cp.rd 42 1 a ls.length c (xs.map JS)).left (B:=jk xs ls)) (k:=k*1) (off:=0) (v:=JS x) (by simp[hx]))
  ·refine ax.pre (A:=HP.an (eO ub d m1 m2 s) (HP.an (dh d room ps bD) (HP.an (eJ aS iE m1 s.cells) (HP.an (eJ aZ iE m2 s.inst) (HP.an (cp 42 1 a ls.length c (xs.map JS)) (jk xs ls)))))) ?_ ((HP.aV.refl _).gZ (hDD.gZ (hPC.gZ (hPI.gZ hPl))))
   refine ahq λlc cc li ci=>?_
   refine(J8 ub d m1 m2 (dh d room ps bD) s lc cc li ci x.1 x.2.1 x.2.2 ls[k] (HP.an (cp 42 1 a ls.length c (xs.map JS)) (jk xs ls)) (by
    rw[x1]
    exact bR.imp λR h H=>by
     obtain⟨y,q1,q2,q3,q4⟩:=jk.get k (HP.ai H) hg
     rw[hx]at q1
     cases q1
     rw[x1]at q4
     exact q4) x1.symm (by omega)).ak (λ_ _ h=>h) ?_
   rintro v R h ⟨rfl,H⟩
   rw[g2]at H
   simp only[Option.getD_some]at H
   refine⟨true,d,dh d room ps bD,s3.aE,s3.low,s3.iV,m1,eJ aS iE m1 s3.cells,m2,eJ aZ iE m2 s3.inst,HP.an (cp 42 1 a ls.length c (xs.map JS)) (jk xs ls),by rw[g2];rfl,⟨λh=>absurd rfl h,λ_=>⟨aK _ (by omega) (by omega),λ_=>⟨⟨k+1,s3,by omega,by omega,g3,rfl,rfl,rfl,rfl,rfl,rfl,HP.aV.refl _,HP.aV.refl _,HP.aV.refl _,HP.aV.refl _⟩,by dsimp only;omega⟩⟩⟩,H⟩
 ·have hke:k=ls.length:=by omega
  subst hke
  rw[List.take_length,hs]at hf
  cases hf
  refine ax.pre (A:=HP.an (eO ub d m1 m2 s1) (HP.an (dh d room ps bD) (HP.an (eJ aS iE m1 s1.cells) (eJ aZ iE m2 s1.inst)))) ?_ ((HP.aV.refl _).gZ (hDD.gZ (hPC.gZ hPI)))
  refine(ax.ex (A:=λlc=>HP.ex λcc=>HP.an (eO ub d m1 m2 s1) (HP.an (dh d room ps bD) (HP.an (aC aS iE m1 s1.cells lc cc) (eJ aZ iE m2 s1.inst)))) λlc=>ax.ex λcc=>?_).ak (λR h ⟨h1,h2,d,l1,l2,H1,h3,h4,d2,l3,l4,H2,h5,h6,d3,l5,l6,⟨lc,cc,H3⟩,H4⟩=>⟨lc,cc,h1,h2,d,l1,l2,H1,h3,h4,d2,l3,l4,H2,h5,h6,d3,l5,l6,H3,H4⟩) λ_ _ _ h=>h
  refine(w4 ub d m1 m2 _ (eJ aZ iE m2 s1.inst) s1 lc cc).ak (λ_ _ h=>h) ?_
  rintro v R h ⟨rfl,H⟩
  refine⟨d,dh d room ps bD,s1.aE,s1.low,s1.iV,m1,eJ aS iE m1 (pP s1).cells,m2,eJ aZ iE m2 s1.inst,rfl,.of λR h H=>⟨ub,rfl,?_⟩,H⟩
  exact dV.of (s:=pP s1) (mc:=m1) (mi:=m2) H
end
namespace RX
-- eC/rpc.ajb:ρ:=[.i ahr,.i ak2,.i ad0,.c afh,.i ahs,.i afi,.i ak3,.i YV,.a Xc,.n Xd,.n Xe,.p Xf,.i Uh,.i Xg,.a ad1,.n ad2,.n ad3,.p ad4,.i ajc,.i aht,.i ajd,.i ahu,.i e]
def Nb:T:=
(.new
(.new
(.ret (.agg [1,0,2,.bool (.c true),4,5,6,.k 0,.z,.k 0,.k 0,.z,22,.k 0,.k 0,.k 0]) [(8,11),(14,17)])))
theorem Kc:tree Tryz.prog {aB:=[120,119,166,117]} Tryz.f117 [.agg [0,1,2,.bool 3,4,5,6,7,.s 8,12,13,.s 14,18,19,20,21],22] [(8,11),(14,17)] 23=Nb:=by kernel_rfl
def Nc:T:=
(.new
(.new
(.new
(.new
(.op (.insert 203 (.tmp 7) (.const (.int .i64 1)) (.tmp 8)) 0 [(7,.map 29),(8,.w (.a (.func 158 [(26,0),(27,0),(28,0)])))] [(.b 29,.kD),(.b 26,.cells [.ptr 0 0] 39),(.b 0,1),(.b 27,.cells [2,3,4,.bool 5,6,7,8,9,.s 10,14,15,.s 16,20,21,22,23] 48),(10,13),(16,19),(.b 28,.cells [.ptr 24 0] 205),(.b 24,25)] [.p] (.au []) [(.b 29,30)]
(.op (.insert 203 (.tmp 7) (.const (.int .i64 2)) (.tmp 9)) 0 [(7,.map 29),(9,.w (.a (.func 160 [(26,0),(27,0),(28,0)])))] [(.b 29,30)] [.p] (.au []) [(.b 29,31)]
(.op (.insert 203 (.tmp 7) (.const (.int .i64 3)) (.tmp 10)) 0 [(7,.map 29),(10,.w (.a (.func 162 [(26,0),(27,0)])))] [(.b 29,31)] [.p] (.au []) [(.b 29,32)]
(.op (.insert 203 (.tmp 7) (.const (.int .i64 4)) (.tmp 11)) 0 [(7,.map 29),(11,.w (.a (.func 164 [(26,0),(27,0),(28,0)])))] [(.b 29,32)] [.p] (.au []) [(.b 29,33)]
(.op (.insert 203 (.tmp 7) (.const (.int .i64 5)) (.tmp 12)) 0 [(7,.map 29),(12,.w (.a (.func 167 [(26,0),(27,0),(28,0)])))] [(.b 29,33)] [.p] (.au []) [(.b 29,34)]
(.op (.insert 203 (.tmp 7) (.const (.int .i64 6)) (.tmp 13)) 0 [(7,.map 29),(13,.w (.a (.func 168 [(26,0),(27,0),(28,0)])))] [(.b 29,34)] [.p] (.au []) [(.b 29,35)]
(.op (.insert 203 (.tmp 7) (.const (.int .i64 7)) (.tmp 14)) 0 [(7,.map 29),(14,.w (.a (.func 170 [(26,0),(27,0)])))] [(.b 29,35)] [.p] (.au []) [(.b 29,36)]
(.ret (.map 29) [(.b 29,36)]))))))))))))
theorem Kd:tree Tryz.prog {aB:=[120,119,166,117]} Tryz.f118 [.ptr 0 0,.agg [2,3,4,.bool 5,6,7,8,9,.s 10,14,15,.s 16,20,21,22,23],.ptr 24 0] [(.b 0,1),(10,13),(16,19),(.b 24,25)] 26=Nc:=by kernel_rfl
def Nf:T:=
(.call 159 [.ptr 1 0,9,10,.agg [11,.s 12]] [(.b 1,2),(12,15)] [.i,.a,.n,.n,.p,.i,.p,.p] (.au [.agg [50,.s 51],55]) [(51,54),(.b 1,56),(12,57)]
(.ret 55 [(.b 0,.cells [.ptr 1 0] 39),(.b 1,56),(.b 3,.cells [4,5,6,.bool 7,8,9,10,11,.s 12,16,17,.s 18,22,23,24,25] 48),(12,57),(18,21),(.b 26,.cells [.ptr 27 0] 205),(.b 27,.cells [28,29,30,.bool 31,32,33,34,50,.s 51,40,41,.s 42,46,47,48,49] 48),(51,54),(42,45),(36,39)]))
theorem Ke:tree Tryz.prog {aB:=[120,119,166,117]} Tryz.f158 [.ptr 0 0,.ptr 3 0,.ptr 26 0] [(.b 0,.cells [.ptr 1 0] 39),(.b 1,2),(.b 3,.cells [4,5,6,.bool 7,8,9,10,11,.s 12,16,17,.s 18,22,23,24,25] 48),(12,15),(18,21),(.b 26,.cells [.ptr 27 0] 205),(.b 27,.cells [28,29,30,.bool 31,32,33,34,35,.s 36,40,41,.s 42,46,47,48,49] 48),(36,39),(42,45)] 50=Nf:=by kernel_rfl
def Ng:T:=
(.call 161 [.ptr 1 0,9,10] [(.b 1,2)] [.i,.a,.n,.n,.p,.i,.p] (.au [.agg [50,.s 51],55]) [(51,54),(.b 1,56)]
(.ret 55 [(.b 0,.cells [.ptr 1 0] 39),(.b 1,56),(.b 3,.cells [4,5,6,.bool 7,8,9,10,11,.s 12,16,17,.s 18,22,23,24,25] 48),(12,15),(18,21),(.b 26,.cells [.ptr 27 0] 205),(.b 27,.cells [28,29,30,.bool 31,32,33,34,50,.s 51,40,41,.s 42,46,47,48,49] 48),(51,54),(42,45),(36,39)]))
theorem Kf:tree Tryz.prog {aB:=[120,119,166,117]} Tryz.f160 [.ptr 0 0,.ptr 3 0,.ptr 26 0] [(.b 0,.cells [.ptr 1 0] 39),(.b 1,2),(.b 3,.cells [4,5,6,.bool 7,8,9,10,11,.s 12,16,17,.s 18,22,23,24,25] 48),(12,15),(18,21),(.b 26,.cells [.ptr 27 0] 205),(.b 27,.cells [28,29,30,.bool 31,32,33,34,35,.s 36,40,41,.s 42,46,47,48,49] 48),(36,39),(42,45)] 50=Ng:=by kernel_rfl
def Nh:T:=
(.call 163 [.ptr 1 0,9,10] [(.b 1,2)] [.i,.p] 26 [(.b 1,27)]
(.ret 26 [(.b 0,.cells [.ptr 1 0] 39),(.b 1,27),(.b 3,.cells [4,5,6,.bool 7,8,9,10,11,.s 12,16,17,.s 18,22,23,24,25] 48),(12,15),(18,21)]))
theorem Kg:tree Tryz.prog {aB:=[120,119,166,117]} Tryz.f162 [.ptr 0 0,.ptr 3 0] [(.b 0,.cells [.ptr 1 0] 39),(.b 1,2),(.b 3,.cells [4,5,6,.bool 7,8,9,10,11,.s 12,16,17,.s 18,22,23,24,25] 48),(12,15),(18,21)] 26=Nh:=by kernel_rfl
def Ni:T:=
(.call 120 [.ptr 1 0] [(.b 1,2)] [.i] 50 [(.b 1,2)]
(.br (.not (.eq 50 9))
(.call 165 [.ptr 1 0,9] [(.b 1,2)] [.i,.p] 51 [(.b 1,52)]
(.br (.not (.eq 51 (.i 0)))
(.ret 51 [(.b 0,.cells [.ptr 1 0] 39),(.b 1,52),(.b 3,.cells [4,5,6,.bool 7,8,9,10,11,.s 12,16,17,.s 18,22,23,24,25] 48),(12,15),(18,21),(.b 26,.cells [.ptr 27 0] 205),(.b 27,.cells [28,29,30,.bool 31,32,33,34,35,.s 36,40,41,.s 42,46,47,48,49] 48),(36,39),(42,45)])
(.call 166 [.ptr 1 0] [(.b 1,52)] [.i] 53 [(.b 1,52)]
(.ret (.k 0) [(.b 0,.cells [.ptr 1 0] 39),(.b 1,52),(.b 3,.cells [4,5,6,.bool 7,8,9,10,11,.s 12,16,17,.s 18,22,23,24,25] 48),(12,15),(18,21),(.b 26,.cells [.ptr 27 0] 205),(.b 27,.cells [28,29,30,.bool 31,32,33,34,35,.s 36,40,41,.s 42,46,53,48,49] 48),(36,39),(42,45)]))))
(.call 166 [.ptr 1 0] [(.b 1,2)] [.i] 51 [(.b 1,2)]
(.ret (.k 0) [(.b 0,.cells [.ptr 1 0] 39),(.b 1,2),(.b 3,.cells [4,5,6,.bool 7,8,9,10,11,.s 12,16,17,.s 18,22,23,24,25] 48),(12,15),(18,21),(.b 26,.cells [.ptr 27 0] 205),(.b 27,.cells [28,29,30,.bool 31,32,33,34,35,.s 36,40,41,.s 42,46,51,48,49] 48),(36,39),(42,45)]))))
theorem Kh:tree Tryz.prog {aB:=[120,119,166,117]} Tryz.f164 [.ptr 0 0,.ptr 3 0,.ptr 26 0] [(.b 0,.cells [.ptr 1 0] 39),(.b 1,2),(.b 3,.cells [4,5,6,.bool 7,8,9,10,11,.s 12,16,17,.s 18,22,23,24,25] 48),(12,15),(18,21),(.b 26,.cells [.ptr 27 0] 205),(.b 27,.cells [28,29,30,.bool 31,32,33,34,35,.s 36,40,41,.s 42,46,47,48,49] 48),(36,39),(42,45)] 50=Ni:=by kernel_rfl
def Nj:T:=
(.call 120 [.ptr 1 0] [(.b 1,2)] [.i] 50 [(.b 1,2)]
(.br (.not (.eq 50 9))
(.ret (.k 8) [(.b 0,.cells [.ptr 1 0] 39),(.b 1,2),(.b 3,.cells [4,5,6,.bool 7,8,9,10,11,.s 12,16,17,.s 18,22,23,24,25] 48),(12,15),(18,21),(.b 26,.cells [.ptr 27 0] 205),(.b 27,.cells [28,29,30,.bool 31,32,33,34,35,.s 36,40,41,.s 42,46,47,48,49] 48),(36,39),(42,45)])
(.call 166 [.ptr 1 0] [(.b 1,2)] [.i] 51 [(.b 1,2)]
(.ret (.k 0) [(.b 0,.cells [.ptr 1 0] 39),(.b 1,2),(.b 3,.cells [4,5,6,.bool 7,8,9,10,11,.s 12,16,17,.s 18,22,23,24,25] 48),(12,15),(18,21),(.b 26,.cells [.ptr 27 0] 205),(.b 27,.cells [28,29,30,.bool 31,32,33,34,35,.s 36,40,41,.s 42,46,51,48,49] 48),(36,39),(42,45)]))))
theorem Ki:tree Tryz.prog {aB:=[120,119,166,117]} Tryz.f167 [.ptr 0 0,.ptr 3 0,.ptr 26 0] [(.b 0,.cells [.ptr 1 0] 39),(.b 1,2),(.b 3,.cells [4,5,6,.bool 7,8,9,10,11,.s 12,16,17,.s 18,22,23,24,25] 48),(12,15),(18,21),(.b 26,.cells [.ptr 27 0] 205),(.b 27,.cells [28,29,30,.bool 31,32,33,34,35,.s 36,40,41,.s 42,46,47,48,49] 48),(36,39),(42,45)] 50=Nj:=by kernel_rfl
def Nk:T:=
(.call 169 [.ptr 1 0,10,.agg [16,17]] [(.b 1,2)] [.i,.i,.a,.n,.n,.p,.i,.p] (.au [.agg [50,51],.s 52,56]) [(52,55),(.b 1,57)]
(.ret 56 [(.b 0,.cells [.ptr 1 0] 39),(.b 1,57),(.b 3,.cells [4,5,6,.bool 7,8,9,10,11,.s 12,16,17,.s 18,22,23,24,25] 48),(12,15),(18,21),(.b 26,.cells [.ptr 27 0] 205),(.b 27,.cells [28,29,30,.bool 31,32,33,34,35,.s 36,50,51,.s 52,46,47,48,49] 48),(36,39),(52,55),(42,45)]))
theorem Kj:tree Tryz.prog {aB:=[120,119,166,117]} Tryz.f168 [.ptr 0 0,.ptr 3 0,.ptr 26 0] [(.b 0,.cells [.ptr 1 0] 39),(.b 1,2),(.b 3,.cells [4,5,6,.bool 7,8,9,10,11,.s 12,16,17,.s 18,22,23,24,25] 48),(12,15),(18,21),(.b 26,.cells [.ptr 27 0] 205),(.b 27,.cells [28,29,30,.bool 31,32,33,34,35,.s 36,40,41,.s 42,46,47,48,49] 48),(36,39),(42,45)] 50=Nk:=by kernel_rfl
def Nl:T:=
(.call 171 [.ptr 1 0,10,.agg [16,17],.s 18] [(.b 1,2),(18,21)] [.i,.p,.p] 26 [(.b 1,27),(18,28)]
(.ret 26 [(.b 0,.cells [.ptr 1 0] 39),(.b 1,27),(.b 3,.cells [4,5,6,.bool 7,8,9,10,11,.s 12,16,17,.s 18,22,23,24,25] 48),(12,15),(18,28)]))
theorem Kk:tree Tryz.prog {aB:=[120,119,166,117]} Tryz.f170 [.ptr 0 0,.ptr 3 0] [(.b 0,.cells [.ptr 1 0] 39),(.b 1,2),(.b 3,.cells [4,5,6,.bool 7,8,9,10,11,.s 12,16,17,.s 18,22,23,24,25] 48),(12,15),(18,21)] 26=Nl:=by kernel_rfl
def F0:T:=
(.new
(.new
(.call 117 [.agg [2,3,4,.bool 5,6,7,8,9,.s 10,14,15,.s 16,20,21,22,23],.k 0] [(10,13),(16,19)] [.i,.i,.i,.c,.i,.i,.i,.i,.a,.n,.n,.p,.i,.i,.a,.n,.n,.p,.i,.i,.i,.i] (.agg [26,27,28,.bool 29,30,31,32,33,.s 34,38,39,.s 40,44,45,46,47]) [(34,37),(40,43),(10,13),(16,19)]
(.new
(.call 118 [.ptr 0 0,.agg [2,3,4,.bool 5,6,7,8,9,.s 10,14,15,.s 16,20,21,22,23],.ptr 48 0] [(.b 0,1),(10,13),(16,19),(.b 48,.cells [26,27,28,.bool 29,30,31,32,33,.s 34,38,39,.s 40,44,45,46,47] 48),(34,37),(40,43)] [.n,.p,.p,.p,.p,.i,.i,.i,.c,.i,.i,.i,.i,.a,.n,.n,.p,.i,.i,.a,.n,.n,.p,.i,.i,.i,.i] (.map 49) [(.b 49,50),(.b 0,51),(10,52),(16,53),(.b 48,.cells [54,55,56,.bool 57,58,59,60,61,.s 62,66,67,.s 68,72,73,74,75] 48),(62,65),(68,71)]
(.read (.lookup 203 (.tmp 14) (.tmp 16) true) 202 [(14,.map 49),(16,6)] [(.b 49,50)] [.v,.c] (.au [.val 76,.bool 77])
(.br 5
(.ret (.au [.agg [.k 0,.k 0,.k 0,.bool (.c false),.k 0,.k 0,.k 0,.k 0,.z,.k 0,.k 0,.z,.k 0,.k 0,.k 0,.k 0],.bool (.c false)]) [(.b 0,51),(10,52),(16,53)])
(.br (.not 77)
(.ret (.au [.agg [.k 0,.k 0,.k 0,.bool (.c false),.k 0,.k 0,.k 0,.k 0,.z,.k 0,.k 0,.z,.k 0,.k 0,.k 0,.k 0],.bool (.c false)]) [(.b 0,51),(10,52),(16,53)])
  (.jw 76 [] [(.b 49,50),(.b 0,51),(.b 48,.cells [54,55,56,.bool 57,58,59,60,61,.s 62,66,67,.s 68,72,73,74,75] 48),(62,65),(68,71)] [.i,.p,.i,.i,.i,.c,.i,.i,.i,.i,.a,.n,.n,.p,.i,.i,.a,.n,.n,.p,.i,.i,.i,.i] 78 [(.b 0,79),(.b 48,.cells [80,81,82,.bool 83,84,85,86,87,.s 88,92,93,.s 94,98,99,100,101] 48),(88,91),(94,97),(.b 49,50),(62,65),(68,71)]
(.br (.not (.eq 78 (.i 0)))
(.br (.not (.eq 78 (.i 10)))
(.call 119 [.ptr 0 0] [(.b 0,79)] [.i] 102 [(.b 0,79)]
(.call 120 [.ptr 0 0] [(.b 0,79)] [.i] 103 [(.b 0,79)]
(.ret (.au [.agg [80,81,82,.bool 83,84,85,86,.k 0,.z,.k 0,.k 0,.z,78,.k 0,102,103],.bool (.c true)]) [(.b 0,79),(10,52),(16,53)])))
(.call 119 [.ptr 0 0] [(.b 0,79)] [.i] 102 [(.b 0,79)]
(.call 120 [.ptr 0 0] [(.b 0,79)] [.i] 103 [(.b 0,79)]
(.ret (.au [.agg [80,81,82,.bool 83,84,85,86,87,.s 88,.k 0,.k 0,.z,78,.k 0,102,103],.bool (.c true)]) [(.b 0,79),(10,52),(16,53),(88,91)]))))
(.call 119 [.ptr 0 0] [(.b 0,79)] [.i] 102 [(.b 0,79)]
(.call 120 [.ptr 0 0] [(.b 0,79)] [.i] 103 [(.b 0,79)]
(.ret (.au [.agg [80,81,82,.bool 83,84,85,86,87,.s 88,92,93,.s 94,78,99,102,103],.bool (.c true)]) [(.b 0,79),(10,52),(16,53),(88,91),(94,97)])))))))))))))
theorem F3:tree Tryz.prog {aB:=[120,119,166,117],vt:=[.b 0,.b 48]} Tryz.f80 [.ptr 0 0,.agg [2,3,4,.bool 5,6,7,8,9,.s 10,14,15,.s 16,20,21,22,23]] [(.b 0,1),(10,13),(16,19)] 24=F0:=by kernel_rfl
end RX
section
open RX
def w8(m:MR)(e:Int):MR:=⟨m.to,m.fr,m.num,true,m.kind,m.ep,m.at',0,none,0,0,0,0,none,0,0,e,0,0,0⟩
theorem F4(m:MR)(e:Int)(Dm Vm:HP):ax Tryz.prog 117 #[.agg m.aA,.int .i64 e] (HP.an Dm Vm) (λv=>HP.and (v=.agg (w8 m e).aA) (HP.an Dm Vm)):=by
 refine ah (ρ:=[.i m.fr,.i m.to,.i m.num,.c m.bf,.i m.kind,.i m.ep,.i m.at',.i m.what,.a m.ca,.n m.cn,.n m.cc,.p Dm,.i m.br,.i m.bw,.a m.va,.n m.vn,.n m.vc,.p Vm,.i m.bM,.i m.tail,.i m.low,.i m.back,.i e]) mixed Tryz.func117 Kc ?_
 unfold Nb
 refine cY ?_
 exact λx y=>.of λR h H=>⟨rfl,H⟩
theorem dy{ρ:bp}{i j:Nat}{t ty:TypeId}{u v:V}{k:Value}(h:i≠j):dM ρ (.insert t (.tmp i) (.const k) (.tmp j)) ty [(i,u),(j,v)]=jL t (u.den ρ) k (v.den ρ):=by
 have h':(i==j)=false:=by simpa using h
 simp[dM,execOp,fl,h',jL]
theorem YW:Tryz.prog.underlying 203=some (.map 3 144):=by kernel_rfl
def Ia(f:FuncId)(bu bm br:Nat):Value:=.func (.func f) #[] #[.pointer (some ⟨bu,0,none⟩),.pointer (some ⟨bm,0,none⟩),.pointer (some ⟨br,0,none⟩)]
def fv2(f:FuncId)(bu bm:Nat):Value:=.func (.func f) #[] #[.pointer (some ⟨bu,0,none⟩),.pointer (some ⟨bm,0,none⟩)]
def eD(bu bm br:Nat):AL Int:=[(1,Ia 158 bu bm br,0),(2,Ia 160 bu bm br,1),(3,fv2 162 bu bm,2),(4,Ia 164 bu bm br,3),(5,Ia 167 bu bm br,4),(6,Ia 168 bu bm br,5),(7,fv2 170 bu bm,6)]
abbrev qz(bu ub:Nat):HP:=HP.one bu (.cells #[.pointer (some ⟨ub,0,none⟩)] 39)
abbrev iP(br rb:Nat):HP:=HP.one br (.cells #[.pointer (some ⟨rb,0,none⟩)] 205)
theorem qA{mp:Nat}{l:AL Int}{c:Nat}(k:Int)(v:Value)(K:HP):aI Tryz.prog (jL 203 (.map (some mp)) (.int .i64 k) v) (HP.an (HP.one mp (aJ iE l c)) K) (λx=>HP.and (x=.tuple #[]) (HP.an (HP.one mp (aJ iE (fy k v c l) (jW k l c))) K)):=
 ((qj (r:=mp) (l:=l) (c:=c) iK YW k v).frame K).ak (λ_ _ h=>h) (λx R h ⟨h1,h2,d,l1,l2,⟨e,H⟩,HK⟩=>⟨e,h1,h2,d,l1,l2,H,HK⟩)
theorem Ui(ub:Nat)(U:HP)(m:MR)(Dm Vm:HP)(rb:Nat)(Rc:HP):
 ax Tryz.prog 118 #[.pointer (some ⟨ub,0,none⟩),.agg m.aA,.pointer (some ⟨rb,0,none⟩)] (HP.an U (HP.an Dm (HP.an Vm Rc)))
 (λv=>HP.ex λmp=>HP.ex λbu=>HP.ex λbm=>HP.ex λbr=>HP.and (v=.map (some mp)) (HP.an (HP.one mp (aJ iE (eD bu bm br) 7)) (HP.an (qz bu ub) (HP.an U (HP.an (cU bm m) (HP.an Dm (HP.an Vm (HP.an (iP br rb) Rc)))))))):=by
 refine ah (ρ:=[.n ub,.p U,.i m.fr,.i m.to,.i m.num,.c m.bf,.i m.kind,.i m.ep,.i m.at',.i m.what,.a m.ca,.n m.cn,.n m.cc,.p Dm,.i m.br,.i m.bw,.a m.va,.n m.vn,.n m.vc,.p Vm,.i m.bM,.i m.tail,.i m.low,.i m.back,.n rb,.p Rc]) mixed Tryz.func118 Kd ?_
 unfold Nc
 refine cY ?_
 intro bu bm br mp
 let K:HP:=HP.an (qz bu ub) (HP.an U (HP.an (cU bm m) (HP.an Dm (HP.an Vm (HP.an (iP br rb) Rc)))))
 rw[dy (by decide)]
 refine cY ?_
 refine(qA (mp:=mp) (l:=[]) (c:=0) 1 _ K).ak (λ_ _ h=>h) ?_
 rintro v R h ⟨rfl,H⟩
 refine⟨_,rfl,?_,H⟩
 clear H
 rw[dy (by decide)]
 refine cY ?_
 refine(qA 2 _ K).ak (λ_ _ h=>h) ?_
 rintro v R h ⟨rfl,H⟩
 refine⟨_,rfl,?_,H⟩
 clear H
 rw[dy (by decide)]
 refine cY ?_
 refine(qA 3 _ K).ak (λ_ _ h=>h) ?_
 rintro v R h ⟨rfl,H⟩
 refine⟨_,rfl,?_,H⟩
 clear H
 rw[dy (by decide)]
 refine cY ?_
 refine(qA 4 _ K).ak (λ_ _ h=>h) ?_
 rintro v R h ⟨rfl,H⟩
 refine⟨_,rfl,?_,H⟩
 clear H
 rw[dy (by decide)]
 refine cY ?_
 refine(qA 5 _ K).ak (λ_ _ h=>h) ?_
 rintro v R h ⟨rfl,H⟩
 refine⟨_,rfl,?_,H⟩
 clear H
 rw[dy (by decide)]
 refine cY ?_
 refine(qA 6 _ K).ak (λ_ _ h=>h) ?_
 rintro v R h ⟨rfl,H⟩
 refine⟨_,rfl,?_,H⟩
 clear H
 rw[dy (by decide)]
 refine cY ?_
 refine(qA 7 _ K).ak (λ_ _ h=>h) ?_
 rintro v R h ⟨rfl,H⟩
 refine⟨_,rfl,.of λR h H=>⟨mp,bu,bm,br,rfl,?_⟩,H⟩
 exact H
def cL(room:Int)(s:eW)(ps:List Pg)(m r:MS):Int×MS×eW×List Pg:=
 if m.kind=1 then((cM room s ps m.ep m.at' m.cell).2.1,{r with cell:=(cM room s ps m.ep m.at' m.cell).1},(cM room s ps m.ep m.at' m.cell).2.2)
 else if m.kind=2 then((fM s m.ep m.at').2,{r with cell:=(fM s m.ep m.at').1},s,ps)
 else if m.kind=3 then((nB room s ps m.ep m.at').1,r,(nB room s ps m.ep m.at').2)
 else if m.kind=4 then
  if s.aE=m.ep then(0,{r with tail:=max s.iV s.low},s,ps)
  else if(gV room s ps m.ep).1=0 then(0,{r with tail:=max (gV room s ps m.ep).2.1.iV (gV room s ps m.ep).2.1.low},(gV room s ps m.ep).2)
  else((gV room s ps m.ep).1,r,(gV room s ps m.ep).2)
 else if m.kind=5 then if s.aE=m.ep then(0,{r with tail:=max s.iV s.low},s,ps)else(8,r,s,ps)
 else if m.kind=6 then((bJ room s ps m.at' m.br m.bw).2.2.2.1,{r with br:=(bJ room s ps m.at' m.br m.bw).1,bw:=(bJ room s ps m.at' m.br m.bw).2.1,val:=(bJ room s ps m.at' m.br m.bw).2.2.1},(bJ room s ps m.at' m.br m.bw).2.2.2.2)
 else((fS room s ps m.at' m.br m.bw m.val).1,r,(fS room s ps m.at' m.br m.bw m.val).2)
section
variable (ub bd bu bm br rb:Nat)(room:Int)(s:eW)(ps:List Pg)(m r:MS)(ca:Option Addr)(cc:Nat)(va:Option Addr)(vc:Nat)(jH:Option Addr)(ou:Nat)(jI:Option Addr)(ox:Nat)
abbrev F5:HP:=HP.an (qz bu ub) (HP.an (UD ub bd room s ps) (HP.an (cU bm (m.cF ca cc va vc)) (HP.an (m.bB ca) (HP.an (m.bj va) (HP.an (iP br rb) (HP.an (cU rb (r.cF jH ou jI ox)) (HP.an (r.bB jH) (r.bj jI))))))))
abbrev w9(x:Int×MS×eW×List Pg)(v:Value):HP:=HP.ex λjH=>HP.ex λou=>HP.ex λjI=>HP.ex λox=>HP.and (v=.int .i64 x.1) (F5 ub bd bu bm br rb room x.2.2.1 x.2.2.2 m x.2.1 ca cc va vc jH ou jI ox)
abbrev zT:HP:=HP.an (qz bu ub) (HP.an (UD ub bd room s ps) (HP.an (cU bm (m.cF ca cc va vc)) (HP.an (m.bB ca) (m.bj va))))
theorem Uj(hk:m.kind=1):ax Tryz.prog 158 #[.pointer (some ⟨bu,0,none⟩),.pointer (some ⟨bm,0,none⟩),.pointer (some ⟨br,0,none⟩)] (F5 ub bd bu bm br rb room s ps m r ca cc va vc jH ou jI ox)
 (w9 ub bd bu bm br rb room m ca cc va vc (cL room s ps m r)):=by
 have e:cL room s ps m r=((cM room s ps m.ep m.at' m.cell).2.1,{r with cell:=(cM room s ps m.ep m.at' m.cell).1},(cM room s ps m.ep m.at' m.cell).2.2):=if_pos hk
 rw[e]
 refine ax.bV (φ:=m.cell.data.length≠0->ca.isSome=true) (λR h H hn=>bb.some (HP.aj (HP.ai (HP.ai (HP.ai H)))) (by omega)) λhca=>?_
 refine ah (ρ:=[.n bu,.n ub,.p (UD ub bd room s ps),.n bm,.i m.fr,.i m.to,.i m.num,.c m.bf,.i m.kind,.i m.ep,.i m.at',.i m.cell.what,.a ca,.n m.cell.data.length,.n cc,.p (m.bB ca),.i m.br,.i m.bw,.a va,.n m.val.length,.n vc,.p (m.bj va),.i m.bM,.i m.tail,.i m.low,.i m.back,.n br,.n rb,
  .i r.fr,.i r.to,.i r.num,.c r.bf,.i r.kind,.i r.ep,.i r.at',.i r.cell.what,.a jH,.n r.cell.data.length,.n ou,.p (r.bB jH),.i r.br,.i r.bw,.a jI,.n r.val.length,.n ox,.p (r.bj jI),.i r.bM,.i r.tail,.i r.low,.i r.back]) mixed Tryz.func158 Ke ?_
 unfold Nf
 refine cY ?_
 refine(PA ub bd room s ps m.ep m.at' m.cell.what ca m.cell.data.length cc m.cell.data (m.bB ca) (bR.ro _ _ _ _) rfl hca).ak (λ_ _ h=>h) ?_
 rintro v R h ⟨a',c',rfl,H⟩
 refine⟨_,a',_,c',aO a' (cM room s ps m.ep m.at' m.cell).1.data.length (cM room s ps m.ep m.at' m.cell).1.data,_,_,m.bB ca,rfl,.of λR h H=>⟨a',c',jI,ox,rfl,?_⟩,H⟩
 exact HP.ae H (λ_ h=>h) λy1 H=>HP.ae H (λ_ h=>h) λy2 H=>HP.ae H (λ_ h=>h) λy3 H=>HP.ae H (λ_ h=>h) λy4 H=>HP.ae H (λ_ h=>h) λy5 H=>HP.ae H (λ_ h=>h) λy6 H=>HP.ae H (λ_ h=>h) λy7 H=>HP.ae H (λ_ h=>h) λy8 H=>HP.aj H
theorem Uk(hk:m.kind=2):ax Tryz.prog 160 #[.pointer (some ⟨bu,0,none⟩),.pointer (some ⟨bm,0,none⟩),.pointer (some ⟨br,0,none⟩)] (F5 ub bd bu bm br rb room s ps m r ca cc va vc jH ou jI ox)
 (w9 ub bd bu bm br rb room m ca cc va vc (cL room s ps m r)):=by
 have e:cL room s ps m r=((fM s m.ep m.at').2,{r with cell:=(fM s m.ep m.at').1},s,ps):=by unfold cL;rw[if_neg (by omega),if_pos hk]
 rw[e]
 refine ah (ρ:=[.n bu,.n ub,.p (UD ub bd room s ps),.n bm,.i m.fr,.i m.to,.i m.num,.c m.bf,.i m.kind,.i m.ep,.i m.at',.i m.cell.what,.a ca,.n m.cell.data.length,.n cc,.p (m.bB ca),.i m.br,.i m.bw,.a va,.n m.val.length,.n vc,.p (m.bj va),.i m.bM,.i m.tail,.i m.low,.i m.back,.n br,.n rb,
  .i r.fr,.i r.to,.i r.num,.c r.bf,.i r.kind,.i r.ep,.i r.at',.i r.cell.what,.a jH,.n r.cell.data.length,.n ou,.p (r.bB jH),.i r.br,.i r.bw,.a jI,.n r.val.length,.n ox,.p (r.bj jI),.i r.bM,.i r.tail,.i r.low,.i r.back]) mixed Tryz.func160 Kf ?_
 unfold Ng
 refine cY ?_
 refine(Ud ub bd _ s m.ep m.at').ak (λ_ _ h=>h) ?_
 rintro v R h ⟨a',c',rfl,H⟩
 refine⟨_,a',_,c',aO a' (fM s m.ep m.at').1.data.length (fM s m.ep m.at').1.data,_,UD ub bd room s ps,rfl,.of λR h H=>⟨a',c',jI,ox,rfl,?_⟩,HP.ao H⟩
 exact HP.ae H (λ_ h=>h) λy1 H=>HP.ae H (λ_ h=>h) λy2 H=>HP.ae H (λ_ h=>h) λy3 H=>HP.ae H (λ_ h=>h) λy4 H=>HP.ae H (λ_ h=>h) λy5 H=>HP.ae H (λ_ h=>h) λy6 H=>HP.ae H (λ_ h=>h) λy7 H=>HP.ae H (λ_ h=>h) λy8 H=>HP.aj H
theorem Ul(hk:m.kind=3):ax Tryz.prog 162 #[.pointer (some ⟨bu,0,none⟩),.pointer (some ⟨bm,0,none⟩)] (zT ub bd bu bm room s ps m ca cc va vc)
 (λv=>HP.and (v=.int .i64 (cL room s ps m r).1/\(cL room s ps m r).2.1=r) (zT ub bd bu bm room (cL room s ps m r).2.2.1 (cL room s ps m r).2.2.2 m ca cc va vc)):=by
 have e:cL room s ps m r=((nB room s ps m.ep m.at').1,r,(nB room s ps m.ep m.at').2):=by unfold cL;rw[if_neg (by omega),if_neg (by omega),if_pos hk]
 rw[e]
 refine ah (ρ:=[.n bu,.n ub,.p (UD ub bd room s ps),.n bm,.i m.fr,.i m.to,.i m.num,.c m.bf,.i m.kind,.i m.ep,.i m.at',.i m.cell.what,.a ca,.n m.cell.data.length,.n cc,.p (m.bB ca),.i m.br,.i m.bw,.a va,.n m.val.length,.n vc,.p (m.bj va),.i m.bM,.i m.tail,.i m.low,.i m.back]) mixed Tryz.func162 Kg ?_
 unfold Nh
 refine cY ?_
 refine(Ue ub bd room s ps m.ep m.at').ak (λ_ _ h=>h) ?_
 rintro v R h ⟨rfl,H⟩
 exact⟨_,_,rfl,.of λR h H=>⟨⟨rfl,trivial⟩,H⟩,H⟩
theorem Um(hk:m.kind=4):ax Tryz.prog 164 #[.pointer (some ⟨bu,0,none⟩),.pointer (some ⟨bm,0,none⟩),.pointer (some ⟨br,0,none⟩)] (F5 ub bd bu bm br rb room s ps m r ca cc va vc jH ou jI ox)
 (w9 ub bd bu bm br rb room m ca cc va vc (cL room s ps m r)):=by
 have e:cL room s ps m r=if s.aE=m.ep then(0,{r with tail:=max s.iV s.low},s,ps)
  else if(gV room s ps m.ep).1=0 then(0,{r with tail:=max (gV room s ps m.ep).2.1.iV (gV room s ps m.ep).2.1.low},(gV room s ps m.ep).2)
  else((gV room s ps m.ep).1,r,(gV room s ps m.ep).2):=by unfold cL;rw[if_neg (by omega),if_neg (by omega),if_neg (by omega),if_pos hk]
 rw[e]
 refine ah (ρ:=[.n bu,.n ub,.p (UD ub bd room s ps),.n bm,.i m.fr,.i m.to,.i m.num,.c m.bf,.i m.kind,.i m.ep,.i m.at',.i m.cell.what,.a ca,.n m.cell.data.length,.n cc,.p (m.bB ca),.i m.br,.i m.bw,.a va,.n m.val.length,.n vc,.p (m.bj va),.i m.bM,.i m.tail,.i m.low,.i m.back,.n br,.n rb,
  .i r.fr,.i r.to,.i r.num,.c r.bf,.i r.kind,.i r.ep,.i r.at',.i r.cell.what,.a jH,.n r.cell.data.length,.n ou,.p (r.bB jH),.i r.br,.i r.bw,.a jI,.n r.val.length,.n ox,.p (r.bj jI),.i r.bM,.i r.tail,.i r.low,.i r.back]) mixed Tryz.func164 Kh ?_
 unfold Ni
 refine cY ?_
 refine(ml ub bd _ s).ak (λ_ _ h=>h) ?_
 rintro v R h ⟨rfl,H⟩
 refine⟨_,rfl,⟨λh1=>?_,λh1=>?_⟩,H⟩
 ·rw[if_neg h1]
  refine(Uf ub bd room s ps m.ep).ak (λ_ _ h=>h) ?_
  rintro v R h ⟨rfl,H⟩
  refine⟨_,_,rfl,⟨λh2=>?_,λh2=>?_⟩,H⟩
  ·rw[if_neg h2]
   exact .of λR h H=>⟨jH,ou,jI,ox,rfl,H⟩
  ·rw[if_pos h2]
   refine(wY ub bd _ (gV room s ps m.ep).2.1).ak (λ_ _ h=>h) ?_
   rintro v R h ⟨rfl,H⟩
   exact⟨_,rfl,.of λR h H=>⟨jH,ou,jI,ox,rfl,H⟩,H⟩
 ·rw[if_pos h1]
  refine(wY ub bd _ s).ak (λ_ _ h=>h) ?_
  rintro v R h ⟨rfl,H⟩
  exact⟨_,rfl,.of λR h H=>⟨jH,ou,jI,ox,rfl,H⟩,H⟩
theorem Un(hk:m.kind=5):ax Tryz.prog 167 #[.pointer (some ⟨bu,0,none⟩),.pointer (some ⟨bm,0,none⟩),.pointer (some ⟨br,0,none⟩)] (F5 ub bd bu bm br rb room s ps m r ca cc va vc jH ou jI ox)
 (w9 ub bd bu bm br rb room m ca cc va vc (cL room s ps m r)):=by
 have e:cL room s ps m r=if s.aE=m.ep then(0,{r with tail:=max s.iV s.low},s,ps)else(8,r,s,ps):=by unfold cL;rw[if_neg (by omega),if_neg (by omega),if_neg (by omega),if_neg (by omega),if_pos hk]
 rw[e]
 refine ah (ρ:=[.n bu,.n ub,.p (UD ub bd room s ps),.n bm,.i m.fr,.i m.to,.i m.num,.c m.bf,.i m.kind,.i m.ep,.i m.at',.i m.cell.what,.a ca,.n m.cell.data.length,.n cc,.p (m.bB ca),.i m.br,.i m.bw,.a va,.n m.val.length,.n vc,.p (m.bj va),.i m.bM,.i m.tail,.i m.low,.i m.back,.n br,.n rb,
  .i r.fr,.i r.to,.i r.num,.c r.bf,.i r.kind,.i r.ep,.i r.at',.i r.cell.what,.a jH,.n r.cell.data.length,.n ou,.p (r.bB jH),.i r.br,.i r.bw,.a jI,.n r.val.length,.n ox,.p (r.bj jI),.i r.bM,.i r.tail,.i r.low,.i r.back]) mixed Tryz.func167 Ki ?_
 unfold Nj
 refine cY ?_
 refine(ml ub bd _ s).ak (λ_ _ h=>h) ?_
 rintro v R h ⟨rfl,H⟩
 refine⟨_,rfl,⟨λh1=>?_,λh1=>?_⟩,H⟩
 ·rw[if_neg h1]
  exact .of λR h H=>⟨jH,ou,jI,ox,rfl,H⟩
 ·rw[if_pos h1]
  refine(wY ub bd _ s).ak (λ_ _ h=>h) ?_
  rintro v R h ⟨rfl,H⟩
  exact⟨_,rfl,.of λR h H=>⟨jH,ou,jI,ox,rfl,H⟩,H⟩
theorem Uo(hk:m.kind=6):ax Tryz.prog 168 #[.pointer (some ⟨bu,0,none⟩),.pointer (some ⟨bm,0,none⟩),.pointer (some ⟨br,0,none⟩)] (F5 ub bd bu bm br rb room s ps m r ca cc va vc jH ou jI ox)
 (w9 ub bd bu bm br rb room m ca cc va vc (cL room s ps m r)):=by
 have e:cL room s ps m r=((bJ room s ps m.at' m.br m.bw).2.2.2.1,{r with br:=(bJ room s ps m.at' m.br m.bw).1,bw:=(bJ room s ps m.at' m.br m.bw).2.1,val:=(bJ room s ps m.at' m.br m.bw).2.2.1},(bJ room s ps m.at' m.br m.bw).2.2.2.2):=by
  unfold cL;rw[if_neg (by omega),if_neg (by omega),if_neg (by omega),if_neg (by omega),if_neg (by omega),if_pos hk]
 rw[e]
 refine ah (ρ:=[.n bu,.n ub,.p (UD ub bd room s ps),.n bm,.i m.fr,.i m.to,.i m.num,.c m.bf,.i m.kind,.i m.ep,.i m.at',.i m.cell.what,.a ca,.n m.cell.data.length,.n cc,.p (m.bB ca),.i m.br,.i m.bw,.a va,.n m.val.length,.n vc,.p (m.bj va),.i m.bM,.i m.tail,.i m.low,.i m.back,.n br,.n rb,
  .i r.fr,.i r.to,.i r.num,.c r.bf,.i r.kind,.i r.ep,.i r.at',.i r.cell.what,.a jH,.n r.cell.data.length,.n ou,.p (r.bB jH),.i r.br,.i r.bw,.a jI,.n r.val.length,.n ox,.p (r.bj jI),.i r.bM,.i r.tail,.i r.low,.i r.back]) mixed Tryz.func168 Kj ?_
 unfold Nk
 refine cY ?_
 refine(FZ ub bd room s ps m.at' m.br m.bw).ak (λ_ _ h=>h) ?_
 rintro v R h ⟨a',c',rfl,H⟩
 refine⟨_,_,a',_,c',aO a' (bJ room s ps m.at' m.br m.bw).2.2.1.length (bJ room s ps m.at' m.br m.bw).2.2.1,_,_,rfl,.of λR h H=>⟨jH,ou,a',c',rfl,?_⟩,HP.ao H⟩
 exact HP.ae H (λ_ h=>h) λy1 H=>HP.ae H (λ_ h=>h) λy2 H=>HP.ae H (λ_ h=>h) λy3 H=>HP.ae H (λ_ h=>h) λy4 H=>HP.ae H (λ_ h=>h) λy5 H=>HP.ae H (λ_ h=>h) λy6 H=>HP.ae H (λ_ h=>h) λy7 H=>HP.ae H (λ_ h=>h) λy8 H=>HP.aj H
theorem Up(hk:m.kind=7):ax Tryz.prog 170 #[.pointer (some ⟨bu,0,none⟩),.pointer (some ⟨bm,0,none⟩)] (zT ub bd bu bm room s ps m ca cc va vc)
 (λv=>HP.and (v=.int .i64 (cL room s ps m r).1/\(cL room s ps m r).2.1=r) (zT ub bd bu bm room (cL room s ps m r).2.2.1 (cL room s ps m r).2.2.2 m ca cc va vc)):=by
 have e:cL room s ps m r=((fS room s ps m.at' m.br m.bw m.val).1,r,(fS room s ps m.at' m.br m.bw m.val).2):=by
  unfold cL;rw[if_neg (by omega),if_neg (by omega),if_neg (by omega),if_neg (by omega),if_neg (by omega),if_neg (by omega)]
 rw[e]
 refine ax.bV (φ:=m.val.length≠0->va.isSome=true) (λR h H hn=>bb.some (HP.ai (HP.ai (HP.ai (HP.ai H)))) (by omega)) λhva=>?_
 refine ah (ρ:=[.n bu,.n ub,.p (UD ub bd room s ps),.n bm,.i m.fr,.i m.to,.i m.num,.c m.bf,.i m.kind,.i m.ep,.i m.at',.i m.cell.what,.a ca,.n m.cell.data.length,.n cc,.p (m.bB ca),.i m.br,.i m.bw,.a va,.n m.val.length,.n vc,.p (m.bj va),.i m.bM,.i m.tail,.i m.low,.i m.back]) mixed Tryz.func170 Kk ?_
 unfold Nl
 refine cY ?_
 refine(Ka ub bd room s ps m.at' m.br m.bw va m.val.length vc m.val (m.bj va) (bR.ro _ _ _ _) rfl hva).ak (λ_ _ h=>h) ?_
 rintro v R h ⟨rfl,H⟩
 exact⟨_,_,m.bj va,rfl,.of λR h H=>⟨⟨rfl,trivial⟩,H⟩,H⟩
end
def F6(e:Int)(r:MS)(s:eW):MS:=
 if e=0 then{r with bM:=e,low:=s.low,back:=s.aE}
 else{r with bM:=e,br:=0,bw:=0,val:=[],tail:=0,cell:=if e=10 then r.cell else zC,low:=s.low,back:=s.aE}
def cN(room:Int)(s:eW)(ps:List Pg)(m:MS):Bool×MS×eW×List Pg:=
 if m.bf=true\/¬(1<=m.kind/\m.kind<=7)then(false,mC,s,ps)
 else(true,F6 (cL room s ps m (dL m)).1 (cL room s ps m (dL m)).2.1 (cL room s ps m (dL m)).2.2.1,(cL room s ps m (dL m)).2.2)
theorem ad6:(Tryz.prog.info? 144).map (λi=>(i.zero,i.size,i.bytes))=some (some .nilFunc,1,8):=by kernel_rfl
theorem ahv:tD Tryz.prog 158:=⟨_,Tryz.func158,by kernel_rfl,by kernel_rfl⟩
theorem ahw:tD Tryz.prog 160:=⟨_,Tryz.func160,by kernel_rfl,by kernel_rfl⟩
theorem ahx:tD Tryz.prog 162:=⟨_,Tryz.func162,by kernel_rfl,by kernel_rfl⟩
theorem ahy:tD Tryz.prog 164:=⟨_,Tryz.func164,by kernel_rfl,by kernel_rfl⟩
theorem ahz:tD Tryz.prog 167:=⟨_,Tryz.func167,by kernel_rfl,by kernel_rfl⟩
theorem ahA:tD Tryz.prog 168:=⟨_,Tryz.func168,by kernel_rfl,by kernel_rfl⟩
theorem ahB:tD Tryz.prog 170:=⟨_,Tryz.func170,by kernel_rfl,by kernel_rfl⟩
section
variable (ub bd bu bm br rb:Nat)(room:Int)(s:eW)(ps:List Pg)(m:MS)(ca:Option Addr)(cc:Nat)(va:Option Addr)(vc:Nat)
theorem PB(hk:1<=m.kind/\m.kind<=7):∃f,(aG m.kind (eD bu bm br))=some f/\dZ f=f/\
 iu Tryz.prog f #[] (F5 ub bd bu bm br rb room s ps m (dL m) ca cc va vc none 0 none 0) (w9 ub bd bu bm br rb room m ca cc va vc (cL room s ps m (dL m))):=by
 have small:∀ {f:FuncId},tD Tryz.prog f->ax Tryz.prog f #[.pointer (some ⟨bu,0,none⟩),.pointer (some ⟨bm,0,none⟩)] (zT ub bd bu bm room s ps m ca cc va vc)
  (λv=>HP.and (v=.int .i64 (cL room s ps m (dL m)).1/\(cL room s ps m (dL m)).2.1=dL m) (zT ub bd bu bm room (cL room s ps m (dL m)).2.2.1 (cL room s ps m (dL m)).2.2.2 m ca cc va vc))->
  iu Tryz.prog (fv2 f bu bm) #[] (F5 ub bd bu bm br rb room s ps m (dL m) ca cc va vc none 0 none 0) (w9 ub bd bu bm br rb room m ca cc va vc (cL room s ps m (dL m))):=λg t=>
  .inl ⟨_,_,rfl,g,t.be (K:=HP.an (iP br rb) (HP.an (cU rb ((dL m).cF none 0 none 0)) (HP.an ((dL m).bB none) ((dL m).bj none))))
   (.of λR h H=>HP.ay (HP.ae H (λ_ h=>h) λy H=>HP.ay (HP.ae H (λ_ h=>h) λy H=>HP.ay (HP.ae H (λ_ h=>h) λy H=>HP.ay H))))
   λv=>.of λR h ⟨h1,h2,d,l1,l2,⟨⟨e1,e2⟩,H⟩,HK⟩=>⟨none,0,none,0,e1,by
    rw[e2]
    exact HP.ae (HP.aq ⟨h1,h2,d,l1,l2,H,HK⟩) (λ_ h=>h) λy H=>HP.ae (HP.aq H) (λ_ h=>h) λy H=>HP.ae (HP.aq H) (λ_ h=>h) λy H=>HP.aq H⟩⟩
 have hc:m.kind=1\/m.kind=2\/m.kind=3\/m.kind=4\/m.kind=5\/m.kind=6\/m.kind=7:=by omega
 rcases hc with hk|hk|hk|hk|hk|hk|hk
 ·exact⟨Ia 158 bu bm br,by rw[hk];rfl,rfl,.inl ⟨_,_,rfl,ahv,Uj ub bd bu bm br rb room s ps m (dL m) ca cc va vc none 0 none 0 hk⟩⟩
 ·exact⟨Ia 160 bu bm br,by rw[hk];rfl,rfl,.inl ⟨_,_,rfl,ahw,Uk ub bd bu bm br rb room s ps m (dL m) ca cc va vc none 0 none 0 hk⟩⟩
 ·exact⟨fv2 162 bu bm,by rw[hk];rfl,rfl,small ahx (Ul ub bd bu bm room s ps m (dL m) ca cc va vc hk)⟩
 ·exact⟨Ia 164 bu bm br,by rw[hk];rfl,rfl,.inl ⟨_,_,rfl,ahy,Um ub bd bu bm br rb room s ps m (dL m) ca cc va vc none 0 none 0 hk⟩⟩
 ·exact⟨Ia 167 bu bm br,by rw[hk];rfl,rfl,.inl ⟨_,_,rfl,ahz,Un ub bd bu bm br rb room s ps m (dL m) ca cc va vc none 0 none 0 hk⟩⟩
 ·exact⟨Ia 168 bu bm br,by rw[hk];rfl,rfl,.inl ⟨_,_,rfl,ahA,Uo ub bd bu bm br rb room s ps m (dL m) ca cc va vc none 0 none 0 hk⟩⟩
 ·exact⟨fv2 170 bu bm,by rw[hk];rfl,rfl,small ahB (Up ub bd bu bm room s ps m (dL m) ca cc va vc hk)⟩
theorem PD(hk:¬(1<=m.kind/\m.kind<=7)):aG m.kind (eD bu bm br)=none:=by
 simp only[eD,aG]
 repeat rw[if_neg (by omega)]
end
set_option maxRecDepth 100000 in
theorem PE(ub bd:Nat)(room:Int)(s:eW)(ps:List Pg)(m:MS)(ca:Option Addr)(cc:Nat)(va:Option Addr)(vc:Nat):
 ax Tryz.prog 80 #[.pointer (some ⟨ub,0,none⟩),.agg (m.cF ca cc va vc).aA] (HP.an (UD ub bd room s ps) (HP.an (m.bB ca) (m.bj va)))
 (λv=>HP.ex λjH=>HP.ex λou=>HP.ex λjI=>HP.ex λox=>HP.and (v=.tuple #[.agg ((cN room s ps m).2.1.cF jH ou jI ox).aA,.bool (cN room s ps m).1])
   (HP.an (UD ub bd room (cN room s ps m).2.2.1 (cN room s ps m).2.2.2) (HP.an (m.bB ca) (HP.an (m.bj va) (HP.an ((cN room s ps m).2.1.bB jH) ((cN room s ps m).2.1.bj jI)))))):=by
 refine ah (ρ:=[.n ub,.p (UD ub bd room s ps),.i m.fr,.i m.to,.i m.num,.c m.bf,.i m.kind,.i m.ep,.i m.at',.i m.cell.what,.a ca,.n m.cell.data.length,.n cc,.p (m.bB ca),.i m.br,.i m.bw,.a va,.n m.val.length,.n vc,.p (m.bj va),.i m.bM,.i m.tail,.i m.low,.i m.back]) mixed Tryz.func80 F3 ?_
 unfold F0
 refine cY ?_
 intro x y
 refine(F4 (m.cF ca cc va vc) 0 (m.bB ca) (m.bj va)).ak (λ_ _ h=>h) ?_
 rintro v R h ⟨rfl,H⟩
 refine⟨m.to,m.fr,m.num,true,m.kind,m.ep,m.at',0,none,0,0,HP.tt,0,0,none,0,0,HP.tt,0,0,0,0,rfl,λrb=>?_,HP.aM (HP.aM H)⟩
 clear H
 refine(Ui ub (UD ub bd room s ps) (m.cF ca cc va vc) (m.bB ca) (m.bj va) rb _).ak (λ_ _ h=>h) ?_
 rintro v R h ⟨mp,bu,bm,br,rfl,H⟩
 have hD:=HP.aj (HP.ai (HP.ai (HP.ai (HP.ai H))))
 have hV:=HP.aj (HP.ai (HP.ai (HP.ai (HP.ai (HP.ai H)))))
 let P0:HP:=aX [HP.one mp (aJ iE (eD bu bm br) 7),qz bu ub,cU bm (m.cF ca cc va vc),m.bB ca,m.bj va,iP br rb]
 have hP0:∀y,(aX [HP.one mp (aJ iE (eD bu bm br) 7),qz bu ub,cU bm (m.cF ca cc va vc),iP br rb]).p R y->P0.p R y:=λy hy=>
  HP.pick [m.bB ca,m.bj va,HP.one mp (aJ iE (eD bu bm br) 7),qz bu ub,cU bm (m.cF ca cc va vc),iP br rb] [2,3,4,0,1,5] (by decide) rfl (bb.join hD (bb.join hV hy))
 have H2:=HP.pick [HP.one mp (aJ iE (eD bu bm br) 7),qz bu ub,UD ub bd room s ps,cU bm (m.cF ca cc va vc),m.bB ca,m.bj va,iP br rb,cU rb (w8 (m.cF ca cc va vc) 0),HP.tt,HP.tt] [0,1,3,6,2,4,5,7,8,9] (by decide) rfl H
 have H3:=HP.ae (eB (l:=[HP.one mp (aJ iE (eD bu bm br) 7),qz bu ub,cU bm (m.cF ca cc va vc),iP br rb]) (m:=[UD ub bd room s ps,m.bB ca,m.bj va,cU rb (w8 (m.cF ca cc va vc) 0),HP.tt,HP.tt]).1 H2) hP0 λ_ h=>h
 refine⟨mp,P0,UD ub bd room s ps,m.bB ca,m.bj va,m.to,m.fr,m.num,true,m.kind,m.ep,m.at',0,none,0,0,HP.tt,0,0,none,0,0,HP.tt,0,0,0,0,rfl,?_,H3⟩
 clear H H2 H3 hP0 hD hV
 obtain⟨i,hi,z1,_⟩:=info_parts ad6
 have fR:=gX (r:=mp) (l:=eD bu bm br) (c:=7) iK YW hi z1 m.kind true (A:=P0) (λR h H=>HP.aj H)
 rw[if_pos rfl]at fR
 have B9:(m.bf=true\/¬(1<=m.kind/\m.kind<=7))->HP.aV (HP.an (UD ub bd room s ps) (HP.an (m.bB ca) (m.bj va))) (HP.ex λjH=>HP.ex λou=>HP.ex λjI=>HP.ex λox=>HP.and (Value.tuple #[.agg #[.int .i64 0,.int .i64 0,.int .i64 0,.bool false,.int .i64 0,.int .i64 0,.int .i64 0,.int .i64 0,.slice none 0 0,.int .i64 0,.int .i64 0,.slice none 0 0,.int .i64 0,.int .i64 0,.int .i64 0,.int .i64 0],.bool false]=.tuple #[.agg ((cN room s ps m).2.1.cF jH ou jI ox).aA,.bool (cN room s ps m).1])
  (HP.an (UD ub bd room (cN room s ps m).2.2.1 (cN room s ps m).2.2.2) (HP.an (m.bB ca) (HP.an (m.bj va) (HP.an ((cN room s ps m).2.1.bB jH) ((cN room s ps m).2.1.bj jI)))))):=λhn=>by
  have e:cN room s ps m=(false,mC,s,ps):=if_pos hn
  rw[e]
  exact .of λR h H=>⟨none,0,none,0,rfl,HP.ae H (λ_ h=>h) λy H=>HP.ae H (λ_ h=>h) λz H=>HP.aq (bb.gR (bb.nil 1 none R z) (bb.gR (bb.nil 1 none R z) H))⟩
 by_cases hk:1<=m.kind/\m.kind<=7
 ·obtain⟨f,hf,hf1,hv⟩:=PB ub bd bu bm br rb room s ps m ca cc va vc hk
  rw[hf]at fR
  simp only[Option.getD_some,Option.isSome_some]at fR
  refine⟨f,true,by rw[hf1];exact fR,λhr=>B9 (.inl hr),λhr=>⟨λh=>absurd rfl h,λ_=>?_⟩⟩
  have ea:cN room s ps m=(true,F6 (cL room s ps m (dL m)).1 (cL room s ps m (dL m)).2.1 (cL room s ps m (dL m)).2.2.1,(cL room s ps m (dL m)).2.2):=if_neg (λh=>h.elim hr λh=>h hk)
  rw[ea]
  generalize hd:cL room s ps m (dL m)=d at hv
  obtain⟨e,r',s',PF⟩:=d
  refine hv.be (K:=HP.one mp (aJ iE (eD bu bm br) 7)) (.of λR h H=>?_) λv=>.of λR h H=>?_
  ·have H1:=(eB (l:=[HP.one mp (aJ iE (eD bu bm br) 7),qz bu ub,cU bm (m.cF ca cc va vc),m.bB ca,m.bj va,iP br rb]) (m:=[UD ub bd room s ps,cU rb (w8 (m.cF ca cc va vc) 0),HP.tt,HP.tt])).2 H
   have H2:=bb.join (bb.nil 1 none R h:((dL m).bB none).p R h) (bb.join (bb.nil 1 none R h:((dL m).bj none).p R h) H1)
   have H3:=HP.pick [(dL m).bB none,(dL m).bj none,HP.one mp (aJ iE (eD bu bm br) 7),qz bu ub,cU bm (m.cF ca cc va vc),m.bB ca,m.bj va,iP br rb,UD ub bd room s ps,cU rb (w8 (m.cF ca cc va vc) 0),HP.tt,HP.tt] [3,8,4,5,6,7,9,0,1,2] (by decide) rfl H2
   exact(eB (l:=[qz bu ub,UD ub bd room s ps,cU bm (m.cF ca cc va vc),m.bB ca,m.bj va,iP br rb,cU rb (w8 (m.cF ca cc va vc) 0),(dL m).bB none,(dL m).bj none]) (m:=[HP.one mp (aJ iE (eD bu bm br) 7)])).1 H3
  ·obtain⟨h1,h2,dj,l1,l2,⟨jH,ou,jI,ox,rfl,HP1⟩,HM⟩:=H
   have H1:=(eB (l:=[qz bu ub,UD ub bd room s' PF,cU bm (m.cF ca cc va vc),m.bB ca,m.bj va,iP br rb,cU rb (r'.cF jH ou jI ox),r'.bB jH,r'.bj jI]) (m:=[HP.one mp (aJ iE (eD bu bm br) 7)])).2 ⟨h1,h2,dj,l1,l2,HP1,HM⟩
   have H2:=HP.pick [qz bu ub,UD ub bd room s' PF,cU bm (m.cF ca cc va vc),m.bB ca,m.bj va,iP br rb,cU rb (r'.cF jH ou jI ox),r'.bB jH,r'.bj jI,HP.one mp (aJ iE (eD bu bm br) 7)] [1,6,7,8,9,0,2,3,4,5] (by decide) rfl H1
   have H3:=(eB (l:=[UD ub bd room s' PF,cU rb (r'.cF jH ou jI ox),r'.bB jH,r'.bj jI]) (m:=[P0,HP.tt,HP.tt])).2 (HP.ae ((eB (l:=[UD ub bd room s' PF,cU rb (r'.cF jH ou jI ox),r'.bB jH,r'.bj jI]) (m:=[HP.one mp (aJ iE (eD bu bm br) 7),qz bu ub,cU bm (m.cF ca cc va vc),m.bB ca,m.bj va,iP br rb])).1 H2) (λ_ h=>h) λ_ h=>HP.az (HP.ao (HP.aM h)|>HP.aj)|>λh=>HP.ae h (λ_ h=>h) λ_ _=>HP.az trivial)
   refine⟨e,UD ub bd room s' PF,r'.fr,r'.to,r'.num,r'.bf,r'.kind,r'.ep,r'.at',r'.cell.what,jH,r'.cell.data.length,ou,r'.bB jH,r'.br,r'.bw,jI,r'.val.length,ox,r'.bj jI,r'.bM,r'.tail,r'.low,r'.back,rfl,?_,H3⟩
   clear H1 H2 H3 HP1 HM dj l1 l2
   refine⟨λh0=>⟨λQU=>?_,λQU=>?_⟩,λh0=>?_⟩
   ·refine(B7 ub bd _ s').ak (λ_ _ h=>h) ?_
    rintro v R h ⟨rfl,H⟩
    refine⟨_,rfl,?_,H⟩
    refine(ml ub bd _ s').ak (λ_ _ h=>h) ?_
    rintro v R h ⟨rfl,H⟩
    refine⟨_,rfl,.of λR h H=>⟨none,0,none,0,?_,?_⟩,H⟩
    ·simp only[F6,if_neg h0,if_neg QU];rfl
    ·simp only[F6,if_neg h0,if_neg QU]
     exact HP.ae H (λ_ h=>h) λy H=>HP.ae H (λ_ h=>h) λz H=>HP.aq (bb.gR (bb.nil 1 none R z) (bb.gR (bb.nil 1 none R z) H))
   ·refine(B7 ub bd _ s').ak (λ_ _ h=>h) ?_
    rintro v R h ⟨rfl,H⟩
    refine⟨_,rfl,?_,H⟩
    refine(ml ub bd _ s').ak (λ_ _ h=>h) ?_
    rintro v R h ⟨rfl,H⟩
    refine⟨_,rfl,.of λR h H=>⟨jH,ou,none,0,?_,?_⟩,H⟩
    ·simp only[F6,if_neg h0,if_pos QU];rfl
    ·simp only[F6,if_neg h0,if_pos QU]
     exact HP.ae H (λ_ h=>h) λy H=>HP.ae H (λ_ h=>h) λz H=>HP.ae H (λ_ h=>h) λu H=>bb.gR (bb.nil 1 none R u) H
   ·refine(B7 ub bd _ s').ak (λ_ _ h=>h) ?_
    rintro v R h ⟨rfl,H⟩
    refine⟨_,rfl,?_,H⟩
    refine(ml ub bd _ s').ak (λ_ _ h=>h) ?_
    rintro v R h ⟨rfl,H⟩
    refine⟨_,rfl,.of λR h H=>⟨jH,ou,jI,ox,?_,?_⟩,H⟩
    ·simp only[F6,if_pos h0]
    ·simp only[F6,if_pos h0];exact H
 ·rw[PD bu bm br m hk]at fR
  refine⟨.nilFunc,false,fR,λhr=>B9 (.inl hr),λhr=>⟨λ_=>B9 (.inr hk),λh=>by cases h⟩⟩
end
namespace RX
def eE:=(({aB:=[234,201,269,207,208,184,268,135,24,70,55,236,267,26]}:gA).aB)
def eF:=(({aY:=[(185,[0]),(235,[0])]}:gA).aY)
def F7:T:=
(.br (.not (.is 0))
(.ret .z [(0,3)])
(.new
(.op (.call ⟨.builtin .append,#[.tmp 5,.tmp 6],#[71,71]⟩) 71 [(5,.sl (.b 4 0) (.n 0) (.n 0)),(6,.s 0)] [(.b 4,.cells [] 3),(0,3)] [.a,.n,.n,.p] (.s 5) [(5,8),(0,3)]
(.ret (.s 5) [(0,3),(5,8)]))))
theorem F8:tree Tryz.prog {aB:=eE,aY:=eF} Tryz.f70 [.s 0] [(0,3)] 4=F7:=by kernel_rfl
def F9:T:=
(.br (.not (.is 0))
(.ret .z [(0,3)])
(.new
(.op (.call ⟨.builtin .append,#[.tmp 5,.tmp 6],#[42,42]⟩) 42 [(5,.sl (.b 4 0) (.n 0) (.n 0)),(6,.s 0)] [(.b 4,.cells [] 5),(0,3)] [.a,.n,.n,.p] (.s 5) [(5,8),(0,3)]
(.ret (.s 5) [(0,3),(5,8)]))))
theorem Ga:tree Tryz.prog {aB:=eE,aY:=eF} Tryz.f24 [.s 0] [(0,3)] 4=F9:=by kernel_rfl
def Gb:T:=
(.read (.convert 42 9 (.tmp 5)) 9 [(5,.s 0)] [(0,3)] [.s] (.str 8)
(.read (.convert 42 9 (.tmp 7)) 9 [(7,.s 4)] [(4,7)] [.s] (.str 9)
(.ret (.bool (.o2 .seq 8 9)) [(0,3),(4,7)])))
theorem Gc:tree Tryz.prog {aB:=eE,aY:=eF} Tryz.f135 [.s 0,.s 4] [(0,3),(4,7)] 8=Gb:=by kernel_rfl
def Nn:T:=
(.call 70 [.s 1] [(1,4)] [.a,.n,.n,.p] (.s 5) [(5,8),(1,4)]
(.new
(.br (.eq (.of 2) (.i 0))
(.ret (.ptr 9 0) [(1,4),(.b 9,.cells [0,.k 3,.k 0,.s 5,.k 0,.k 0,.k 0,.z] 251),(5,8)])
(.ret (.ptr 9 0) [(1,4),(.b 9,.cells [0,.k 1,.k 0,.s 5,.k 0,.k 0,.k 0,.z] 251),(5,8)]))))
theorem Kl:tree Tryz.prog {aB:=eE,aY:=eF} Tryz.f267 [0,.s 1] [(1,4)] 5=Nn:=by kernel_rfl
def Km:T:=
(.new
(.new
(.call 24 [.s 1] [(1,4)] [.a,.n,.n,.p] (.s 7) [(7,10),(1,4)]
(.ret (.agg [0,.s 7]) [(1,4),(7,10)]))))
theorem zU:tree Tryz.prog {aB:=eE,aY:=eF} Tryz.f236 [.agg [0,.s 1]] [(1,4)] 5=Km:=by kernel_rfl
def Gd:T:=
(.new
(.new
(.br (.eq 0 5)
(.call 135 [.s 1,.s 6] [(1,4),(6,9)] [.c] (.bool 12) [(1,4),(6,9)]
(.ret (.bool 12) [(1,4),(6,9)]))
(.ret (.bool (.c false)) [(1,4),(6,9)]))))
theorem Ge:tree Tryz.prog {aB:=eE,aY:=eF} Tryz.f234 [.agg [0,.s 1],.agg [5,.s 6]] [(1,4),(6,9)] 10=Gd:=by kernel_rfl
def zV:T:=
(.new
(.call 267 [0,.s 1] [(1,4)] [.n,.p] (.ptr 11 0) [(.b 11,12),(1,4)]
(.call 236 [.agg [5,.s 6]] [(6,9)] [.i,.a,.n,.n,.p] (.agg [13,.s 14]) [(14,17),(6,9)]
(.op (.store 3 (.tmp 16) (.const (.int .i64 0))) 0 [(16,.ptr 11 4)] [(.b 11,12)] [.p] (.au []) [(.b 11,18)]
(.op (.store 44 (.tmp 18) (.tmp 14)) 0 [(18,.ptr 11 6),(14,.agg [13,.s 14])] [(.b 11,18),(14,17)] [.p] (.au []) [(.b 11,19),(14,17)]
(.ret (.ptr 11 0) [(1,4),(6,9),(.b 11,19)]))))))
theorem Ca:tree Tryz.prog {aB:=eE,aY:=eF} Tryz.f199 [0,.s 1,.agg [5,.s 6]] [(1,4),(6,9)] 10=zV:=by kernel_rfl
def xb:T:=
(.call 267 [0,.s 1] [(1,4)] [.n,.p] (.ptr 5 0) [(.b 5,6),(1,4)]
(.rg (.sub (.of 2) (.i 1))
(.op (.store 3 (.tmp 15) (.const (.int .i64 1))) 0 [(15,.ptr 5 4)] [(.b 5,6)] [.p] (.au []) [(.b 5,7)]
(.op (.store 3 (.tmp 17) (.tmp 13)) 0 [(17,.ptr 5 5),(13,.w (.a (.int .i64 (.sub (.of 2) (.i 1)))))] [(.b 5,7)] [.p] (.au []) [(.b 5,8)]
(.ret (.ptr 5 0) [(1,4),(.b 5,8)])))))
theorem yr:tree Tryz.prog {aB:=eE,aY:=eF} Tryz.f206 [0,.s 1] [(1,4)] 5=xb:=by kernel_rfl
def Gf:T:=
(.ret 2 [(.b 0,.cells [1,2,3,.s 4,8,9,10,.s 11] 251),(4,7),(11,14)])
theorem Gg:tree Tryz.prog {aB:=eE,aY:=eF} Tryz.f201 [.ptr 0 0] [(.b 0,.cells [1,2,3,.s 4,8,9,10,.s 11] 251),(4,7),(11,14)] 15=Gf:=by kernel_rfl
def YX:T:=
(.ret 1 [(.b 0,.cells [1,2,3,.s 4,8,9,10,.s 11] 251),(4,7),(11,14)])
theorem Uq:tree Tryz.prog {aB:=eE,aY:=eF} Tryz.f269 [.ptr 0 0] [(.b 0,.cells [1,2,3,.s 4,8,9,10,.s 11] 251),(4,7),(11,14)] 15=YX:=by kernel_rfl
def Ur:T:=
(.ret 3 [(.b 0,.cells [1,2,3,.s 4,8,9,10,.s 11] 251),(4,7),(11,14)])
theorem PG:tree Tryz.prog {aB:=eE,aY:=eF} Tryz.f208 [.ptr 0 0] [(.b 0,.cells [1,2,3,.s 4,8,9,10,.s 11] 251),(4,7),(11,14)] 15=Ur:=by kernel_rfl
def No:T:=
(.new
(.br (.not (.eq 2 (.i 2)))
(.ret (.agg [.k 0,.z]) [(.b 0,.cells [1,2,3,.s 4,8,9,10,.s 11] 251),(4,7),(11,14)])
(.call 236 [.agg [10,.s 11]] [(11,14)] [.i,.a,.n,.n,.p] (.agg [16,.s 17]) [(17,20),(11,14)]
(.ret (.agg [16,.s 17]) [(.b 0,.cells [1,2,3,.s 4,8,9,10,.s 11] 251),(4,7),(11,14),(17,20)]))))
theorem Kn:tree Tryz.prog {aB:=eE,aY:=eF} Tryz.f207 [.ptr 0 0] [(.b 0,.cells [1,2,3,.s 4,8,9,10,.s 11] 251),(4,7),(11,14)] 15=No:=by kernel_rfl
def Np:T:=
(.br (.eq 8 (.i 1))
(.ret (.k 2) [(.b 0,.cells [1,2,3,.s 4,8,9,10,.s 11] 251),(4,7),(11,14)])
(.br (.eq 8 (.i 2))
(.ret (.k 2) [(.b 0,.cells [1,2,3,.s 4,8,9,10,.s 11] 251),(4,7),(11,14)])
(.ret (.k 1) [(.b 0,.cells [1,2,3,.s 4,8,9,10,.s 11] 251),(4,7),(11,14)])))
theorem Ko:tree Tryz.prog {aB:=eE,aY:=eF} Tryz.f184 [.ptr 0 0] [(.b 0,.cells [1,2,3,.s 4,8,9,10,.s 11] 251),(4,7),(11,14)] 15=Np:=by kernel_rfl
def Us:T:=
(.new
(.br (.not (.eq 2 (.i 1)))
(.ret (.au [.k 0,.k 0,.agg [.k 0,.z],.bool (.c false)]) [(.b 0,.cells [1,2,3,.s 4,8,9,10,.s 11] 251),(4,7),(11,14)])
(.br (.eq 8 (.i 0))
(.call 236 [.agg [10,.s 11]] [(11,14)] [.i,.a,.n,.n,.p] (.agg [16,.s 17]) [(17,20),(11,14)]
  (.all
   (.all
(.need (.le (.i 0) 9)
(.need (.lt 9 (.of 5))
(.need (.is 4)
  (.all
   (.ld 3 34 (.aW 4 9 1 0) [(4,7)] [.i] 21
(.call 184 [.ptr 0 0] [(.b 0,.cells [1,2,3,.s 4,8,9,10,.s 11] 251),(4,7),(11,14)] [.i] 22 [(.b 0,.cells [1,2,3,.s 4,8,9,10,.s 11] 251),(4,7),(11,14)]
(.ret (.au [21,22,.agg [16,.s 17],.bool (.c true)]) [(.b 0,.cells [1,2,3,.s 4,8,9,10,.s 11] 251),(4,7),(11,14),(17,20)])))
(.call 184 [.ptr 0 0] [(.b 0,.cells [1,2,3,.s 4,8,9,10,.s 11] 251),(4,7),(11,14)] [.i] 21 [(.b 0,.cells [1,2,3,.s 4,8,9,10,.s 11] 251),(4,7),(11,14)]
  (.ld 3 34 (.aW 4 9 1 0) [(4,7)] [.i] 22
(.ret (.au [22,21,.agg [16,.s 17],.bool (.c true)]) [(.b 0,.cells [1,2,3,.s 4,8,9,10,.s 11] 251),(4,7),(11,14),(17,20)])))))))
(.call 184 [.ptr 0 0] [(.b 0,.cells [1,2,3,.s 4,8,9,10,.s 11] 251),(4,7),(11,14)] [.i] 21 [(.b 0,.cells [1,2,3,.s 4,8,9,10,.s 11] 251),(4,7),(11,14)]
(.need (.le (.i 0) 9)
(.need (.lt 9 (.of 5))
(.need (.is 4)
  (.ld 3 34 (.aW 4 9 1 0) [(4,7)] [.i] 22
(.ret (.au [22,21,.agg [16,.s 17],.bool (.c true)]) [(.b 0,.cells [1,2,3,.s 4,8,9,10,.s 11] 251),(4,7),(11,14),(17,20)])))))))
  (.all
   (.all
(.need (.le (.i 0) 9)
(.need (.lt 9 (.of 5))
(.need (.is 4)
  (.all
   (.ld 3 34 (.aW 4 9 1 0) [(4,7)] [.i] 21
(.call 184 [.ptr 0 0] [(.b 0,.cells [1,2,3,.s 4,8,9,10,.s 11] 251),(4,7),(11,14)] [.i] 22 [(.b 0,.cells [1,2,3,.s 4,8,9,10,.s 11] 251),(4,7),(11,14)]
(.ret (.au [21,22,.agg [16,.s 17],.bool (.c true)]) [(.b 0,.cells [1,2,3,.s 4,8,9,10,.s 11] 251),(4,7),(11,14),(17,20)])))
(.call 184 [.ptr 0 0] [(.b 0,.cells [1,2,3,.s 4,8,9,10,.s 11] 251),(4,7),(11,14)] [.i] 21 [(.b 0,.cells [1,2,3,.s 4,8,9,10,.s 11] 251),(4,7),(11,14)]
  (.ld 3 34 (.aW 4 9 1 0) [(4,7)] [.i] 22
(.ret (.au [22,21,.agg [16,.s 17],.bool (.c true)]) [(.b 0,.cells [1,2,3,.s 4,8,9,10,.s 11] 251),(4,7),(11,14),(17,20)])))))))
(.call 184 [.ptr 0 0] [(.b 0,.cells [1,2,3,.s 4,8,9,10,.s 11] 251),(4,7),(11,14)] [.i] 21 [(.b 0,.cells [1,2,3,.s 4,8,9,10,.s 11] 251),(4,7),(11,14)]
(.need (.le (.i 0) 9)
(.need (.lt 9 (.of 5))
(.need (.is 4)
  (.ld 3 34 (.aW 4 9 1 0) [(4,7)] [.i] 22
(.ret (.au [22,21,.agg [16,.s 17],.bool (.c true)]) [(.b 0,.cells [1,2,3,.s 4,8,9,10,.s 11] 251),(4,7),(11,14),(17,20)])))))))
(.call 184 [.ptr 0 0] [(.b 0,.cells [1,2,3,.s 4,8,9,10,.s 11] 251),(4,7),(11,14)] [.i] 21 [(.b 0,.cells [1,2,3,.s 4,8,9,10,.s 11] 251),(4,7),(11,14)]
  (.all
(.need (.le (.i 0) 9)
(.need (.lt 9 (.of 5))
(.need (.is 4)
  (.ld 3 34 (.aW 4 9 1 0) [(4,7)] [.i] 22
(.ret (.au [22,21,.agg [16,.s 17],.bool (.c true)]) [(.b 0,.cells [1,2,3,.s 4,8,9,10,.s 11] 251),(4,7),(11,14),(17,20)])))))
(.need (.le (.i 0) 9)
(.need (.lt 9 (.of 5))
(.need (.is 4)
  (.ld 3 34 (.aW 4 9 1 0) [(4,7)] [.i] 22
(.ret (.au [22,21,.agg [16,.s 17],.bool (.c true)]) [(.b 0,.cells [1,2,3,.s 4,8,9,10,.s 11] 251),(4,7),(11,14),(17,20)]))))))))))
(.br (.eq 8 (.i 3))
  (.all
   (.all
(.need (.le (.i 0) 9)
(.need (.lt 9 (.of 5))
(.need (.is 4)
  (.all
   (.ld 3 34 (.aW 4 9 1 0) [(4,7)] [.i] 16
(.call 184 [.ptr 0 0] [(.b 0,.cells [1,2,3,.s 4,8,9,10,.s 11] 251),(4,7),(11,14)] [.i] 17 [(.b 0,.cells [1,2,3,.s 4,8,9,10,.s 11] 251),(4,7),(11,14)]
(.ret (.au [16,17,.agg [.k 2,.z],.bool (.c true)]) [(.b 0,.cells [1,2,3,.s 4,8,9,10,.s 11] 251),(4,7),(11,14)])))
(.call 184 [.ptr 0 0] [(.b 0,.cells [1,2,3,.s 4,8,9,10,.s 11] 251),(4,7),(11,14)] [.i] 16 [(.b 0,.cells [1,2,3,.s 4,8,9,10,.s 11] 251),(4,7),(11,14)]
  (.ld 3 34 (.aW 4 9 1 0) [(4,7)] [.i] 17
(.ret (.au [17,16,.agg [.k 2,.z],.bool (.c true)]) [(.b 0,.cells [1,2,3,.s 4,8,9,10,.s 11] 251),(4,7),(11,14)])))))))
(.call 184 [.ptr 0 0] [(.b 0,.cells [1,2,3,.s 4,8,9,10,.s 11] 251),(4,7),(11,14)] [.i] 16 [(.b 0,.cells [1,2,3,.s 4,8,9,10,.s 11] 251),(4,7),(11,14)]
(.need (.le (.i 0) 9)
(.need (.lt 9 (.of 5))
(.need (.is 4)
  (.ld 3 34 (.aW 4 9 1 0) [(4,7)] [.i] 17
(.ret (.au [17,16,.agg [.k 2,.z],.bool (.c true)]) [(.b 0,.cells [1,2,3,.s 4,8,9,10,.s 11] 251),(4,7),(11,14)])))))))
  (.all
   (.all
(.need (.le (.i 0) 9)
(.need (.lt 9 (.of 5))
(.need (.is 4)
  (.all
   (.ld 3 34 (.aW 4 9 1 0) [(4,7)] [.i] 16
(.call 184 [.ptr 0 0] [(.b 0,.cells [1,2,3,.s 4,8,9,10,.s 11] 251),(4,7),(11,14)] [.i] 17 [(.b 0,.cells [1,2,3,.s 4,8,9,10,.s 11] 251),(4,7),(11,14)]
(.ret (.au [16,17,.agg [.k 2,.z],.bool (.c true)]) [(.b 0,.cells [1,2,3,.s 4,8,9,10,.s 11] 251),(4,7),(11,14)])))
(.call 184 [.ptr 0 0] [(.b 0,.cells [1,2,3,.s 4,8,9,10,.s 11] 251),(4,7),(11,14)] [.i] 16 [(.b 0,.cells [1,2,3,.s 4,8,9,10,.s 11] 251),(4,7),(11,14)]
  (.ld 3 34 (.aW 4 9 1 0) [(4,7)] [.i] 17
(.ret (.au [17,16,.agg [.k 2,.z],.bool (.c true)]) [(.b 0,.cells [1,2,3,.s 4,8,9,10,.s 11] 251),(4,7),(11,14)])))))))
(.call 184 [.ptr 0 0] [(.b 0,.cells [1,2,3,.s 4,8,9,10,.s 11] 251),(4,7),(11,14)] [.i] 16 [(.b 0,.cells [1,2,3,.s 4,8,9,10,.s 11] 251),(4,7),(11,14)]
(.need (.le (.i 0) 9)
(.need (.lt 9 (.of 5))
(.need (.is 4)
  (.ld 3 34 (.aW 4 9 1 0) [(4,7)] [.i] 17
(.ret (.au [17,16,.agg [.k 2,.z],.bool (.c true)]) [(.b 0,.cells [1,2,3,.s 4,8,9,10,.s 11] 251),(4,7),(11,14)])))))))
(.call 184 [.ptr 0 0] [(.b 0,.cells [1,2,3,.s 4,8,9,10,.s 11] 251),(4,7),(11,14)] [.i] 16 [(.b 0,.cells [1,2,3,.s 4,8,9,10,.s 11] 251),(4,7),(11,14)]
  (.all
(.need (.le (.i 0) 9)
(.need (.lt 9 (.of 5))
(.need (.is 4)
  (.ld 3 34 (.aW 4 9 1 0) [(4,7)] [.i] 17
(.ret (.au [17,16,.agg [.k 2,.z],.bool (.c true)]) [(.b 0,.cells [1,2,3,.s 4,8,9,10,.s 11] 251),(4,7),(11,14)])))))
(.need (.le (.i 0) 9)
(.need (.lt 9 (.of 5))
(.need (.is 4)
  (.ld 3 34 (.aW 4 9 1 0) [(4,7)] [.i] 17
(.ret (.au [17,16,.agg [.k 2,.z],.bool (.c true)]) [(.b 0,.cells [1,2,3,.s 4,8,9,10,.s 11] 251),(4,7),(11,14)])))))))))
  (.all
   (.all
(.need (.le (.i 0) 9)
(.need (.lt 9 (.of 5))
(.need (.is 4)
  (.all
   (.ld 3 34 (.aW 4 9 1 0) [(4,7)] [.i] 16
(.call 184 [.ptr 0 0] [(.b 0,.cells [1,2,3,.s 4,8,9,10,.s 11] 251),(4,7),(11,14)] [.i] 17 [(.b 0,.cells [1,2,3,.s 4,8,9,10,.s 11] 251),(4,7),(11,14)]
(.ret (.au [16,17,.agg [.k 0,.z],.bool (.c true)]) [(.b 0,.cells [1,2,3,.s 4,8,9,10,.s 11] 251),(4,7),(11,14)])))
(.call 184 [.ptr 0 0] [(.b 0,.cells [1,2,3,.s 4,8,9,10,.s 11] 251),(4,7),(11,14)] [.i] 16 [(.b 0,.cells [1,2,3,.s 4,8,9,10,.s 11] 251),(4,7),(11,14)]
  (.ld 3 34 (.aW 4 9 1 0) [(4,7)] [.i] 17
(.ret (.au [17,16,.agg [.k 0,.z],.bool (.c true)]) [(.b 0,.cells [1,2,3,.s 4,8,9,10,.s 11] 251),(4,7),(11,14)])))))))
(.call 184 [.ptr 0 0] [(.b 0,.cells [1,2,3,.s 4,8,9,10,.s 11] 251),(4,7),(11,14)] [.i] 16 [(.b 0,.cells [1,2,3,.s 4,8,9,10,.s 11] 251),(4,7),(11,14)]
(.need (.le (.i 0) 9)
(.need (.lt 9 (.of 5))
(.need (.is 4)
  (.ld 3 34 (.aW 4 9 1 0) [(4,7)] [.i] 17
(.ret (.au [17,16,.agg [.k 0,.z],.bool (.c true)]) [(.b 0,.cells [1,2,3,.s 4,8,9,10,.s 11] 251),(4,7),(11,14)])))))))
  (.all
   (.all
(.need (.le (.i 0) 9)
(.need (.lt 9 (.of 5))
(.need (.is 4)
  (.all
   (.ld 3 34 (.aW 4 9 1 0) [(4,7)] [.i] 16
(.call 184 [.ptr 0 0] [(.b 0,.cells [1,2,3,.s 4,8,9,10,.s 11] 251),(4,7),(11,14)] [.i] 17 [(.b 0,.cells [1,2,3,.s 4,8,9,10,.s 11] 251),(4,7),(11,14)]
(.ret (.au [16,17,.agg [.k 0,.z],.bool (.c true)]) [(.b 0,.cells [1,2,3,.s 4,8,9,10,.s 11] 251),(4,7),(11,14)])))
(.call 184 [.ptr 0 0] [(.b 0,.cells [1,2,3,.s 4,8,9,10,.s 11] 251),(4,7),(11,14)] [.i] 16 [(.b 0,.cells [1,2,3,.s 4,8,9,10,.s 11] 251),(4,7),(11,14)]
  (.ld 3 34 (.aW 4 9 1 0) [(4,7)] [.i] 17
(.ret (.au [17,16,.agg [.k 0,.z],.bool (.c true)]) [(.b 0,.cells [1,2,3,.s 4,8,9,10,.s 11] 251),(4,7),(11,14)])))))))
(.call 184 [.ptr 0 0] [(.b 0,.cells [1,2,3,.s 4,8,9,10,.s 11] 251),(4,7),(11,14)] [.i] 16 [(.b 0,.cells [1,2,3,.s 4,8,9,10,.s 11] 251),(4,7),(11,14)]
(.need (.le (.i 0) 9)
(.need (.lt 9 (.of 5))
(.need (.is 4)
  (.ld 3 34 (.aW 4 9 1 0) [(4,7)] [.i] 17
(.ret (.au [17,16,.agg [.k 0,.z],.bool (.c true)]) [(.b 0,.cells [1,2,3,.s 4,8,9,10,.s 11] 251),(4,7),(11,14)])))))))
(.call 184 [.ptr 0 0] [(.b 0,.cells [1,2,3,.s 4,8,9,10,.s 11] 251),(4,7),(11,14)] [.i] 16 [(.b 0,.cells [1,2,3,.s 4,8,9,10,.s 11] 251),(4,7),(11,14)]
  (.all
(.need (.le (.i 0) 9)
(.need (.lt 9 (.of 5))
(.need (.is 4)
  (.ld 3 34 (.aW 4 9 1 0) [(4,7)] [.i] 17
(.ret (.au [17,16,.agg [.k 0,.z],.bool (.c true)]) [(.b 0,.cells [1,2,3,.s 4,8,9,10,.s 11] 251),(4,7),(11,14)])))))
(.need (.le (.i 0) 9)
(.need (.lt 9 (.of 5))
(.need (.is 4)
  (.ld 3 34 (.aW 4 9 1 0) [(4,7)] [.i] 17
(.ret (.au [17,16,.agg [.k 0,.z],.bool (.c true)]) [(.b 0,.cells [1,2,3,.s 4,8,9,10,.s 11] 251),(4,7),(11,14)])))))))))))))
theorem PJ:tree Tryz.prog {aB:=eE,aY:=eF} Tryz.f268 [.ptr 0 0] [(.b 0,.cells [1,2,3,.s 4,8,9,10,.s 11] 251),(4,7),(11,14)] 15=Us:=by kernel_rfl
def Gh:T:=
(.new
(.call 236 [.agg [16,.s 17]] [(17,20)] [.i,.a,.n,.n,.p] (.agg [22,.s 23]) [(23,26),(17,20)]
(.br (.le (.of 5) 15)
(.ret (.au []) [(.b 0,.cells [1,.k 2,3,.s 4,.k 0,15,22,.s 23] 251),(4,7),(23,26),(11,14),(17,20)])
(.ret (.au []) [(.b 0,.cells [1,2,3,.s 4,.k 0,15,22,.s 23] 251),(4,7),(23,26),(11,14),(17,20)]))))
theorem Gi:tree Tryz.prog {aB:=eE,aY:=eF} Tryz.f235 [.ptr 0 0,15,.agg [16,.s 17]] [(.b 0,.cells [1,2,3,.s 4,8,9,10,.s 11] 251),(4,7),(11,14),(17,20)] 21=Gh:=by kernel_rfl
def Nq:T:=
(.new
(.br (.eq 8 (.i 0))
(.br (.eq 33 (.i 0))
  (.rg (.add 9 (.i 1))
(.call 235 [.ptr 0 0,.a (.int .i64 (.add 9 (.i 1))),.agg [10,.s 11]] [(.b 0,.cells [1,2,3,.s 4,8,9,10,.s 11] 251),(4,7),(11,14)] [.i,.i,.i,.a,.n,.n,.p,.i,.i,.i,.a,.n,.n,.p] (.au []) [(.b 0,.cells [38,39,40,.s 41,45,46,47,.s 48] 251),(41,44),(48,51),(4,7),(11,14)]
(.ret (.au []) [(.b 0,.cells [38,39,40,.s 41,45,46,47,.s 48] 251),(41,44),(48,51),(4,7),(11,14),(23,26),(29,32)])))
(.br (.eq 33 (.i 10))
(.call 234 [.agg [22,.s 23],.agg [10,.s 11]] [(23,26),(11,14)] [.c] (.bool 38) [(23,26),(11,14)]
(.br 38
  (.rg (.add 9 (.i 1))
(.call 235 [.ptr 0 0,.a (.int .i64 (.add 9 (.i 1))),.agg [10,.s 11]] [(.b 0,.cells [1,2,3,.s 4,8,9,10,.s 11] 251),(4,7),(11,14)] [.i,.i,.i,.a,.n,.n,.p,.i,.i,.i,.a,.n,.n,.p] (.au []) [(.b 0,.cells [39,40,41,.s 42,46,47,48,.s 49] 251),(42,45),(49,52),(4,7),(11,14)]
(.ret (.au []) [(.b 0,.cells [39,40,41,.s 42,46,47,48,.s 49] 251),(42,45),(49,52),(4,7),(11,14),(23,26),(29,32)])))
(.br (.eq 8 (.i 1))
(.br (.eq 33 (.i 9))
(.br (.eq (.of 5) (.i 1))
(.ret (.au []) [(.b 0,.cells [1,2,3,.s 4,.k 3,.k 0,10,.s 11] 251),(4,7),(11,14),(23,26),(29,32)])
(.ret (.au []) [(.b 0,.cells [1,2,3,.s 4,.k 2,.k 0,10,.s 11] 251),(4,7),(11,14),(23,26),(29,32)]))
(.br (.eq 8 (.i 2))
(.br (.eq 8 (.i 3))
(.call 235 [.ptr 0 0,.k 1,.agg [22,.s 23]] [(.b 0,.cells [1,2,3,.s 4,8,9,10,.s 11] 251),(4,7),(11,14),(23,26)] [.i,.i,.i,.a,.n,.n,.p,.i,.i,.i,.a,.n,.n,.p] (.au []) [(.b 0,.cells [39,40,41,.s 42,46,47,48,.s 49] 251),(42,45),(49,52),(4,7),(11,14),(23,26)]
(.ret (.au []) [(.b 0,.cells [39,40,41,.s 42,46,47,48,.s 49] 251),(42,45),(49,52),(4,7),(11,14),(23,26),(29,32)]))
(.ret (.au []) [(.b 0,.cells [1,.k 3,3,.s 4,8,9,10,.s 11] 251),(4,7),(11,14),(23,26),(29,32)]))
(.br (.eq 8 (.i 3))
(.call 235 [.ptr 0 0,.k 1,.agg [22,.s 23]] [(.b 0,.cells [1,2,3,.s 4,8,9,10,.s 11] 251),(4,7),(11,14),(23,26)] [.i,.i,.i,.a,.n,.n,.p,.i,.i,.i,.a,.n,.n,.p] (.au []) [(.b 0,.cells [39,40,41,.s 42,46,47,48,.s 49] 251),(42,45),(49,52),(4,7),(11,14),(23,26)]
(.ret (.au []) [(.b 0,.cells [39,40,41,.s 42,46,47,48,.s 49] 251),(42,45),(49,52),(4,7),(11,14),(23,26),(29,32)]))
(.ret (.au []) [(.b 0,.cells [1,.k 3,3,.s 4,8,9,10,.s 11] 251),(4,7),(11,14),(23,26),(29,32)]))))
(.br (.eq 8 (.i 2))
(.br (.eq 33 (.i 9))
(.ret (.au []) [(.b 0,.cells [1,2,3,.s 4,.k 3,9,10,.s 11] 251),(4,7),(11,14),(23,26),(29,32)])
(.br (.eq 8 (.i 3))
(.call 235 [.ptr 0 0,.k 1,.agg [22,.s 23]] [(.b 0,.cells [1,2,3,.s 4,8,9,10,.s 11] 251),(4,7),(11,14),(23,26)] [.i,.i,.i,.a,.n,.n,.p,.i,.i,.i,.a,.n,.n,.p] (.au []) [(.b 0,.cells [39,40,41,.s 42,46,47,48,.s 49] 251),(42,45),(49,52),(4,7),(11,14),(23,26)]
(.ret (.au []) [(.b 0,.cells [39,40,41,.s 42,46,47,48,.s 49] 251),(42,45),(49,52),(4,7),(11,14),(23,26),(29,32)]))
(.ret (.au []) [(.b 0,.cells [1,.k 3,3,.s 4,8,9,10,.s 11] 251),(4,7),(11,14),(23,26),(29,32)])))
(.br (.eq 8 (.i 3))
(.call 235 [.ptr 0 0,.k 1,.agg [22,.s 23]] [(.b 0,.cells [1,2,3,.s 4,8,9,10,.s 11] 251),(4,7),(11,14),(23,26)] [.i,.i,.i,.a,.n,.n,.p,.i,.i,.i,.a,.n,.n,.p] (.au []) [(.b 0,.cells [39,40,41,.s 42,46,47,48,.s 49] 251),(42,45),(49,52),(4,7),(11,14),(23,26)]
(.ret (.au []) [(.b 0,.cells [39,40,41,.s 42,46,47,48,.s 49] 251),(42,45),(49,52),(4,7),(11,14),(23,26),(29,32)]))
(.ret (.au []) [(.b 0,.cells [1,.k 3,3,.s 4,8,9,10,.s 11] 251),(4,7),(11,14),(23,26),(29,32)]))))))
(.br (.eq 8 (.i 1))
(.br (.eq 33 (.i 9))
(.br (.eq (.of 5) (.i 1))
(.ret (.au []) [(.b 0,.cells [1,2,3,.s 4,.k 3,.k 0,10,.s 11] 251),(4,7),(11,14),(23,26),(29,32)])
(.ret (.au []) [(.b 0,.cells [1,2,3,.s 4,.k 2,.k 0,10,.s 11] 251),(4,7),(11,14),(23,26),(29,32)]))
(.br (.eq 8 (.i 2))
(.br (.eq 8 (.i 3))
(.ret (.au []) [(.b 0,.cells [1,.k 3,3,.s 4,8,9,10,.s 11] 251),(4,7),(11,14),(23,26),(29,32)])
(.ret (.au []) [(.b 0,.cells [1,.k 3,3,.s 4,8,9,10,.s 11] 251),(4,7),(11,14),(23,26),(29,32)]))
(.br (.eq 8 (.i 3))
(.ret (.au []) [(.b 0,.cells [1,.k 3,3,.s 4,8,9,10,.s 11] 251),(4,7),(11,14),(23,26),(29,32)])
(.ret (.au []) [(.b 0,.cells [1,.k 3,3,.s 4,8,9,10,.s 11] 251),(4,7),(11,14),(23,26),(29,32)]))))
(.br (.eq 8 (.i 2))
(.br (.eq 33 (.i 9))
(.ret (.au []) [(.b 0,.cells [1,2,3,.s 4,.k 3,9,10,.s 11] 251),(4,7),(11,14),(23,26),(29,32)])
(.br (.eq 8 (.i 3))
(.ret (.au []) [(.b 0,.cells [1,.k 3,3,.s 4,8,9,10,.s 11] 251),(4,7),(11,14),(23,26),(29,32)])
(.ret (.au []) [(.b 0,.cells [1,.k 3,3,.s 4,8,9,10,.s 11] 251),(4,7),(11,14),(23,26),(29,32)])))
(.br (.eq 8 (.i 3))
(.ret (.au []) [(.b 0,.cells [1,.k 3,3,.s 4,8,9,10,.s 11] 251),(4,7),(11,14),(23,26),(29,32)])
(.ret (.au []) [(.b 0,.cells [1,.k 3,3,.s 4,8,9,10,.s 11] 251),(4,7),(11,14),(23,26),(29,32)]))))))
(.br (.eq 8 (.i 1))
(.br (.eq 33 (.i 0))
(.call 236 [.agg [22,.s 23]] [(23,26)] [.i,.a,.n,.n,.p] (.agg [38,.s 39]) [(39,42),(23,26)]
(.ret (.au []) [(.b 0,.cells [1,.k 2,3,.s 4,8,9,38,.s 39] 251),(4,7),(39,42),(11,14),(23,26),(29,32)]))
(.br (.eq 33 (.i 9))
(.br (.eq (.of 5) (.i 1))
(.ret (.au []) [(.b 0,.cells [1,2,3,.s 4,.k 3,.k 0,10,.s 11] 251),(4,7),(11,14),(23,26),(29,32)])
(.ret (.au []) [(.b 0,.cells [1,2,3,.s 4,.k 2,.k 0,10,.s 11] 251),(4,7),(11,14),(23,26),(29,32)]))
(.br (.eq 8 (.i 2))
(.br (.eq 8 (.i 3))
(.br (.eq 33 (.i 10))
(.call 235 [.ptr 0 0,.k 1,.agg [22,.s 23]] [(.b 0,.cells [1,2,3,.s 4,8,9,10,.s 11] 251),(4,7),(11,14),(23,26)] [.i,.i,.i,.a,.n,.n,.p,.i,.i,.i,.a,.n,.n,.p] (.au []) [(.b 0,.cells [38,39,40,.s 41,45,46,47,.s 48] 251),(41,44),(48,51),(4,7),(11,14),(23,26)]
(.ret (.au []) [(.b 0,.cells [38,39,40,.s 41,45,46,47,.s 48] 251),(41,44),(48,51),(4,7),(11,14),(23,26),(29,32)]))
(.ret (.au []) [(.b 0,.cells [1,.k 3,3,.s 4,8,9,10,.s 11] 251),(4,7),(11,14),(23,26),(29,32)]))
(.ret (.au []) [(.b 0,.cells [1,.k 3,3,.s 4,8,9,10,.s 11] 251),(4,7),(11,14),(23,26),(29,32)]))
(.br (.eq 8 (.i 3))
(.br (.eq 33 (.i 10))
(.call 235 [.ptr 0 0,.k 1,.agg [22,.s 23]] [(.b 0,.cells [1,2,3,.s 4,8,9,10,.s 11] 251),(4,7),(11,14),(23,26)] [.i,.i,.i,.a,.n,.n,.p,.i,.i,.i,.a,.n,.n,.p] (.au []) [(.b 0,.cells [38,39,40,.s 41,45,46,47,.s 48] 251),(41,44),(48,51),(4,7),(11,14),(23,26)]
(.ret (.au []) [(.b 0,.cells [38,39,40,.s 41,45,46,47,.s 48] 251),(41,44),(48,51),(4,7),(11,14),(23,26),(29,32)]))
(.ret (.au []) [(.b 0,.cells [1,.k 3,3,.s 4,8,9,10,.s 11] 251),(4,7),(11,14),(23,26),(29,32)]))
(.ret (.au []) [(.b 0,.cells [1,.k 3,3,.s 4,8,9,10,.s 11] 251),(4,7),(11,14),(23,26),(29,32)])))))
(.br (.eq 8 (.i 2))
(.br (.eq 33 (.i 0))
(.call 235 [.ptr 0 0,.k 1,.agg [22,.s 23]] [(.b 0,.cells [1,2,3,.s 4,8,9,10,.s 11] 251),(4,7),(11,14),(23,26)] [.i,.i,.i,.a,.n,.n,.p,.i,.i,.i,.a,.n,.n,.p] (.au []) [(.b 0,.cells [38,39,40,.s 41,45,46,47,.s 48] 251),(41,44),(48,51),(4,7),(11,14),(23,26)]
(.ret (.au []) [(.b 0,.cells [38,39,40,.s 41,45,46,47,.s 48] 251),(41,44),(48,51),(4,7),(11,14),(23,26),(29,32)]))
(.br (.eq 33 (.i 9))
(.ret (.au []) [(.b 0,.cells [1,2,3,.s 4,.k 3,9,10,.s 11] 251),(4,7),(11,14),(23,26),(29,32)])
(.br (.eq 8 (.i 3))
(.br (.eq 33 (.i 10))
(.call 235 [.ptr 0 0,.k 1,.agg [22,.s 23]] [(.b 0,.cells [1,2,3,.s 4,8,9,10,.s 11] 251),(4,7),(11,14),(23,26)] [.i,.i,.i,.a,.n,.n,.p,.i,.i,.i,.a,.n,.n,.p] (.au []) [(.b 0,.cells [38,39,40,.s 41,45,46,47,.s 48] 251),(41,44),(48,51),(4,7),(11,14),(23,26)]
(.ret (.au []) [(.b 0,.cells [38,39,40,.s 41,45,46,47,.s 48] 251),(41,44),(48,51),(4,7),(11,14),(23,26),(29,32)]))
(.ret (.au []) [(.b 0,.cells [1,.k 3,3,.s 4,8,9,10,.s 11] 251),(4,7),(11,14),(23,26),(29,32)]))
(.ret (.au []) [(.b 0,.cells [1,.k 3,3,.s 4,8,9,10,.s 11] 251),(4,7),(11,14),(23,26),(29,32)]))))
(.br (.eq 8 (.i 3))
(.br (.eq 33 (.i 0))
(.call 235 [.ptr 0 0,.k 1,.agg [.k 2,.z]] [(.b 0,.cells [1,2,3,.s 4,8,9,10,.s 11] 251),(4,7),(11,14)] [.i,.i,.i,.a,.n,.n,.p,.i,.i,.i,.a,.n,.n,.p] (.au []) [(.b 0,.cells [38,39,40,.s 41,45,46,47,.s 48] 251),(41,44),(48,51),(4,7),(11,14)]
(.ret (.au []) [(.b 0,.cells [38,39,40,.s 41,45,46,47,.s 48] 251),(41,44),(48,51),(4,7),(11,14),(23,26),(29,32)]))
(.br (.eq 33 (.i 10))
(.call 235 [.ptr 0 0,.k 1,.agg [22,.s 23]] [(.b 0,.cells [1,2,3,.s 4,8,9,10,.s 11] 251),(4,7),(11,14),(23,26)] [.i,.i,.i,.a,.n,.n,.p,.i,.i,.i,.a,.n,.n,.p] (.au []) [(.b 0,.cells [38,39,40,.s 41,45,46,47,.s 48] 251),(41,44),(48,51),(4,7),(11,14),(23,26)]
(.ret (.au []) [(.b 0,.cells [38,39,40,.s 41,45,46,47,.s 48] 251),(41,44),(48,51),(4,7),(11,14),(23,26),(29,32)]))
(.ret (.au []) [(.b 0,.cells [1,.k 3,3,.s 4,8,9,10,.s 11] 251),(4,7),(11,14),(23,26),(29,32)])))
(.ret (.au []) [(.b 0,.cells [1,.k 3,3,.s 4,8,9,10,.s 11] 251),(4,7),(11,14),(23,26),(29,32)]))))))
theorem Kp:tree Tryz.prog {aB:=eE,aY:=eF} Tryz.f185 [.ptr 0 0,.agg [15,16,17,.bool 18,19,20,21,22,.s 23,27,28,.s 29,33,34,35,36]] [(.b 0,.cells [1,2,3,.s 4,8,9,10,.s 11] 251),(4,7),(11,14),(23,26),(29,32)] 37=Nq:=by kernel_rfl
def Nr:T:=
(.new
(.br (.not (.eq 2 (.i 1)))
(.ret (.au []) [(.b 0,.cells [1,2,3,.s 4,8,9,10,.s 11] 251),(4,7),(11,14),(23,26),(29,32)])
(.call 184 [.ptr 0 0] [(.b 0,.cells [1,2,3,.s 4,8,9,10,.s 11] 251),(4,7),(11,14)] [.i] 38 [(.b 0,.cells [1,2,3,.s 4,8,9,10,.s 11] 251),(4,7),(11,14)]
(.br (.not (.eq 19 38))
(.ret (.au []) [(.b 0,.cells [1,2,3,.s 4,8,9,10,.s 11] 251),(4,7),(11,14),(23,26),(29,32)])
(.br (.eq 33 (.i 0))
(.call 185 [.ptr 0 0,.agg [15,16,17,.bool 18,19,20,21,22,.s 23,27,28,.s 29,33,34,35,36]] [(.b 0,.cells [1,2,3,.s 4,8,9,10,.s 11] 251),(4,7),(11,14),(23,26),(29,32)] [.i,.i,.i,.a,.n,.n,.p,.i,.i,.i,.a,.n,.n,.p] (.au []) [(.b 0,.cells [39,40,41,.s 42,46,47,48,.s 49] 251),(42,45),(49,52),(4,7),(11,14),(23,26),(29,32)]
(.ret (.au []) [(.b 0,.cells [39,40,41,.s 42,46,47,48,.s 49] 251),(42,45),(49,52),(4,7),(11,14),(23,26),(29,32)]))
(.br (.eq 33 (.i 10))
(.call 185 [.ptr 0 0,.agg [15,16,17,.bool 18,19,20,21,22,.s 23,27,28,.s 29,33,34,35,36]] [(.b 0,.cells [1,2,3,.s 4,8,9,10,.s 11] 251),(4,7),(11,14),(23,26),(29,32)] [.i,.i,.i,.a,.n,.n,.p,.i,.i,.i,.a,.n,.n,.p] (.au []) [(.b 0,.cells [39,40,41,.s 42,46,47,48,.s 49] 251),(42,45),(49,52),(4,7),(11,14),(23,26),(29,32)]
(.ret (.au []) [(.b 0,.cells [39,40,41,.s 42,46,47,48,.s 49] 251),(42,45),(49,52),(4,7),(11,14),(23,26),(29,32)]))
(.br (.eq 33 (.i 9))
(.call 185 [.ptr 0 0,.agg [15,16,17,.bool 18,19,20,21,22,.s 23,27,28,.s 29,33,34,35,36]] [(.b 0,.cells [1,2,3,.s 4,8,9,10,.s 11] 251),(4,7),(11,14),(23,26),(29,32)] [.i,.i,.i,.a,.n,.n,.p,.i,.i,.i,.a,.n,.n,.p] (.au []) [(.b 0,.cells [39,40,41,.s 42,46,47,48,.s 49] 251),(42,45),(49,52),(4,7),(11,14),(23,26),(29,32)]
(.ret (.au []) [(.b 0,.cells [39,40,41,.s 42,46,47,48,.s 49] 251),(42,45),(49,52),(4,7),(11,14),(23,26),(29,32)]))
(.br (.eq 33 (.i 11))
(.ret (.au []) [(.b 0,.cells [1,.k 4,35,.s 4,8,9,10,.s 11] 251),(4,7),(11,14),(23,26),(29,32)])
(.br (.eq 33 (.i 8))
(.ret (.au []) [(.b 0,.cells [1,.k 5,3,.s 4,8,9,10,.s 11] 251),(4,7),(11,14),(23,26),(29,32)])
(.br (.eq 33 (.i 4))
(.ret (.au []) [(.b 0,.cells [1,.k 6,3,.s 4,8,9,10,.s 11] 251),(4,7),(11,14),(23,26),(29,32)])
(.ret (.au []) [(.b 0,.cells [1,.k 3,3,.s 4,8,9,10,.s 11] 251),(4,7),(11,14),(23,26),(29,32)])))))))))))
theorem Kq:tree Tryz.prog {aB:=eE,aY:=eF} Tryz.f127 [.ptr 0 0,.agg [15,16,17,.bool 18,19,20,21,22,.s 23,27,28,.s 29,33,34,35,36]] [(.b 0,.cells [1,2,3,.s 4,8,9,10,.s 11] 251),(4,7),(11,14),(23,26),(29,32)] 37=Nr:=by kernel_rfl
end RX
section
open RX
theorem PM(S:HP)(a:Option Addr)(n c:Nat)(l:List Int)(hr:bR S a n (l.map dN))(hl:l.length=n)(hb:n<=1000000000):
 ax Tryz.prog 70 #[.slice a n c] S (λv=>HP.ex λa'=>HP.ex λc'=>HP.and (v=.slice a' n c') (HP.an (pp a' n l) S)):=by
 have own:ax Tryz.prog 70 #[.slice a n c] S (λv=>HP.ex λa'=>HP.ex λc'=>HP.and (v=.slice a' n c') (HP.an (o5 a' n c' l) S)):=by
  refine ah (ρ:=[.a a,.n n,.n c,.p S]) mixed Tryz.func70 F8 ?_
  unfold F7
  refine cY ?_
  refine⟨λha=>.of λR h H=>?_,λha x=>?_⟩
  ·have hn:n=0:=hr.none R h H (by simpa using ha)
   subst hn
   obtain rfl:l=[]:=List.eq_nil_of_length_eq_zero hl
   exact⟨none,0,rfl,HP.aM H|>λH=>HP.ae H (λx _=>cp.nil _ _ R x) λ_ h=>h⟩
  ·rw[fm (by decide)]
   refine cY ?_
   cases a with
   |none=>simp at ha
   |some ad=>
    have:=o6 (some ⟨x,0,none⟩) 0 0 [] S ad n c l hr.rd hl (by omega)
    refine this.ak (λR h H=>HP.ae H (λy hy=>⟨rfl,.inr ⟨x,#[],rfl,hy,Nat.le_refl _,by unfold maxLen;omega,rfl,rfl⟩⟩) λ_ h=>h) ?_
    rintro v R h ⟨a',c',rfl,H⟩
    rw[Nat.zero_add,List.nil_append]at H
    exact⟨a',n,c',o5 a' n c' l,by rw[Nat.zero_add],.of λR' h' H'=>⟨a',c',rfl,HP.ao H'⟩,H⟩
 exact own.post λv=>λR h d ⟨a',c',e,H⟩=>by
  obtain⟨R1,h1,q1,q2,q3,q4,H1⟩:=(HP.aV.an (cp.ez _ _ _ _ _ _) S) R h d H
  exact⟨R1,h1,q1,q2,q3,q4,a',c',e,H1⟩
theorem jm(S:HP)(a:Option Addr)(n c:Nat)(l:List UInt8)(hr:bR S a n (l.map fH))(hl:l.length=n)(hb:n<=140737488355328):
 ax Tryz.prog 24 #[.slice a n c] S (λv=>HP.ex λa'=>HP.ex λc'=>HP.and (v=.slice a' n c') (HP.an (aO a' n l) S)):=by
 have own:ax Tryz.prog 24 #[.slice a n c] S (λv=>HP.ex λa'=>HP.ex λc'=>HP.and (v=.slice a' n c') (HP.an (du a' n c' l) S)):=by
  refine ah (ρ:=[.a a,.n n,.n c,.p S]) mixed Tryz.func24 Ga ?_
  unfold F9
  refine cY ?_
  refine⟨λha=>.of λR h H=>?_,λha x=>?_⟩
  ·have hn:n=0:=hr.none R h H (by simpa using ha)
   subst hn
   obtain rfl:l=[]:=List.eq_nil_of_length_eq_zero hl
   exact⟨none,0,rfl,HP.aM H|>λH=>HP.ae H (λx _=>cp.nil _ _ R x) λ_ h=>h⟩
  ·rw[fm (by decide)]
   refine cY ?_
   have:=kS (some ⟨x,0,none⟩) 0 0 [] S a n c l hr hl (λ_=>by simpa[Option.isSome_iff_ne_none]using ha) (by omega)
   refine this.ak (λR h H=>HP.ae H (λy hy=>⟨rfl,.inr ⟨x,#[],rfl,hy,Nat.le_refl _,by unfold maxLen;omega,rfl,rfl⟩⟩) λ_ h=>h) ?_
   rintro v R h ⟨a',c',rfl,H⟩
   rw[Nat.zero_add,List.nil_append]at H
   exact⟨a',n,c',du a' n c' l,by rw[Nat.zero_add],.of λR' h' H'=>⟨a',c',rfl,HP.ao H'⟩,H⟩
 exact own.post λv=>λR h d ⟨a',c',e,H⟩=>by
  obtain⟨R1,h1,q1,q2,q3,q4,H1⟩:=(HP.aV.an (cp.ez _ _ _ _ _ _) S) R h d H
  exact⟨R1,h1,q1,q2,q3,q4,a',c',e,H1⟩
set_option maxRecDepth 100000 in
theorem zW(a:Option Addr)(n c:Nat)(la:List UInt8)(b:Option Addr)(m d:Nat)(lb:List UInt8)(Sa Sb:HP)(hA:bR Sa a n (la.map fH))(hB:bR Sb b m (lb.map fH))(hla:la.length=n)(hlb:lb.length=m):
 ax Tryz.prog 135 #[.slice a n c,.slice b m d] (HP.an Sa Sb) (λv=>HP.and (v=.bool (decide (la=lb))) (HP.an Sa Sb)):=by
 refine ah (ρ:=[.a a,.n n,.n c,.p Sa,.a b,.n m,.n d,.p Sb]) mixed Tryz.func135 Gc ?_
 unfold Gb
 refine cY ?_
 refine⟨_,A8 rfl hA hla,_,A8 rfl hB hlb,.of λR h H=>⟨?_,H⟩⟩
 rfl
theorem nC{P:Program}{o:Sem Next}{A Q:HP}{K:HP->Prop}(t:aI P o A λv=>HP.and (v=.tuple #[]) Q)(k:K Q):aI P o A λv=>HP.ex λQ'=>HP.and (v=.tuple #[]) (HP.and (K Q') Q'):=
 t.ak (λ_ _ h=>h) λ_ _ _ ⟨e,H⟩=>⟨Q,e,k,H⟩
theorem cG{P:Program}{f:FuncId}{args:Array Value}{A Q:HP}{K:HP->Prop}(t:ax P f args A λv=>HP.and (v=.tuple #[]) Q)(k:K Q):ax P f args A λv=>HP.ex λQ'=>HP.and (v=.tuple #[]) (HP.and (K Q') Q'):=
 t.ak (λ_ _ h=>h) λ_ _ _ ⟨e,H⟩=>⟨Q,e,k,H⟩
theorem gC{P:Program}{f:FuncId}{args:Array Value}{A:HP}{α:Type}{K:α->Prop}{g:α->Value}(x:α)(t:ax P f args A λv=>HP.and (v=g x) A)(k:K x):ax P f args A λv=>HP.ex λy=>HP.and (v=g y) (HP.and (K y) A):=
 t.ak (λ_ _ h=>h) λ_ _ _ ⟨e,H⟩=>⟨x,e,k,H⟩
section
variable (m:MS)(ca:Option Addr)(cc:Nat)(va:Option Addr)(vc:Nat)
abbrev MS.env:bp:=[.i m.fr,.i m.to,.i m.num,.c m.bf,.i m.kind,.i m.ep,.i m.at',.i m.cell.what,.a ca,.n m.cell.data.length,.n cc,.p (m.bB ca),.i m.br,.i m.bw,.a va,.n m.val.length,.n vc,.p (m.bj va),.i m.bM,.i m.tail,.i m.low,.i m.back]
def MS.small(m:MS):Prop:=m.cell.data.length<=1000000/\m.val.length<=1000000
def zX(S:HP)(v:Value):HP:=HP.ex λyt=>HP.ex λxS=>HP.ex λpK=>HP.ex λuC=>HP.and (v=.agg (m.cF yt xS pK uC).aA) (HP.an (m.bB yt) (HP.an (m.bj pK) S))
theorem Gj(hm:m.small):ax Tryz.prog 49 #[.agg (m.cF ca cc va vc).aA] (HP.an (m.bB ca) (m.bj va)) (zX m (HP.an (m.bB ca) (m.bj va))):=by
 refine ah (ρ:=m.env ca cc va vc) mixed Tryz.func49 Jp ?_
 unfold MB MS.env
 refine cg ?_
 intro _ _
 refine(jm (m.bB ca) ca m.cell.data.length cc m.cell.data (bR.ro _ _ _ _) rfl (by have:=hm.1;omega)).ak (λ_ _ h=>h) ?_
 rintro v R h ⟨a',c',rfl,H⟩
 refine⟨a',_,c',aO a' m.cell.data.length m.cell.data,rfl,?_,H⟩
 clear H
 refine(jm (m.bj va) va m.val.length vc m.val (bR.ro _ _ _ _) rfl (by have:=hm.2;omega)).ak (λ_ _ h=>h) ?_
 rintro v R h ⟨a2,c2,rfl,H⟩
 refine⟨a2,_,c2,aO a2 m.val.length m.val,rfl,.of λR h H=>⟨a',c',a2,c2,rfl,?_⟩,H⟩
 exact HP.pick [_,_,_,_] [2,3,0,1] (by decide) rfl H
theorem YY{f:FuncId}(t:∀m ca cc va vc,MS.small m->ax Tryz.prog f #[.agg (m.cF ca cc va vc).aA] (HP.an (m.bB ca) (m.bj va)) (zX m (HP.an (m.bB ca) (m.bj va))))(hm:m.small)(S:HP)(hS:∀R h,S.p R h->(m.bB ca).p R h/\(m.bj va).p R h):
 ax Tryz.prog f #[.agg (m.cF ca cc va vc).aA] S (zX m S):=
 (t m ca cc va vc hm).be (K:=S) (.of λR h H=>HP.ay (bb.join (hS R h H).1 (bb.join (hS R h H).2 H))) λv=>.of λR h ⟨h1,h2,d,l1,l2,⟨a,b,c,d',e,H⟩,HS⟩=>by
   refine⟨a,b,c,d',e,?_⟩
   have H1:=HP.aq ⟨h1,h2,d,l1,l2,H,HS⟩
   exact HP.ae H1 (λ_ h=>h) λx hx=>HP.ae (HP.aq hx) (λ_ h=>h) λ_ h=>HP.ai h
theorem Ut(hm:m.small)(S:HP)(hS:∀R h,S.p R h->(m.bB ca).p R h/\(m.bj va).p R h):ax Tryz.prog 49 #[.agg (m.cF ca cc va vc).aA] S (zX m S):=YY m ca cc va vc (λm ca cc va vc h=>Gj m ca cc va vc h) hm S hS
def fN:Bool:=decide (-128<=m.fr)&&(decide (m.fr<=127)&&(decide (-128<=m.to)&&(decide (m.to<=127)&&(decide (1<=m.kind)&&(decide (m.kind<=9)&&(decide (0<=m.cell.what)&&(decide (m.cell.what<=3)&&(decide ((m.cell.data.length:Int)<=65536)&&decide ((m.val.length:Int)<=1000)))))))))
theorem j3{m:MS}(h:fN m=true):m.small:=by
 unfold fN at h
 simp only[Bool.and_eq_true,decide_eq_true_eq]at h
 exact⟨by omega,by omega⟩
theorem PN:ax Tryz.prog 86 #[.agg (m.cF ca cc va vc).aA] (HP.an (m.bB ca) (m.bj va)) (λv=>HP.and (v=.bool (fN m)) (HP.an (m.bB ca) (m.bj va))):=by
 refine ah (ρ:=m.env ca cc va vc) mixed Tryz.func86 EX ?_
 unfold EW MS.env fN
 refine cg ?_
 intro _
 repeat' (first
  |exact .of λR h H=>⟨rfl,H⟩
  |(refine .of λR h H=>⟨?_,H⟩;simp only[*,decide_true,Bool.true_and];done)
  |(refine .of λR h H=>⟨?_,H⟩;simp[*];done)
  |refine⟨λ_=>?_,λ_=>?_⟩
  |fail)
theorem Uu(b:Nat)(l:List UInt8)(x:Bool)(hb:l.length<140737488355328):ax Tryz.prog 89 #[.pointer (some ⟨b,0,none⟩),.bool x] (cA b l) (λv=>HP.and (v=.tuple #[]) (cA b (l++[if x then 1 else 0]))):=by
 refine ah (ρ:=[.n b,.p (cA b l),.c x]) mixed Tryz.func89 Js ?_
 unfold ME
 refine cg ?_
 cases x with
 |true=>exact⟨λ_=>(cG (km b l 1 hb) (.of λR h H=>⟨trivial,H⟩)),λh=>absurd rfl h⟩
 |false=>exact⟨λh=>(by cases h),λ_=>cG (km b l 0 hb) (.of λR h H=>⟨trivial,H⟩)⟩
theorem m0{P:Program}{f:FuncId}{args:Array Value}{A Q Q2:HP}{K:HP->HP->Prop}(t:ax P f args A λv=>HP.and (v=.tuple #[]) (HP.an Q Q2))(k:K Q Q2):ax P f args A λv=>HP.ex λQ'=>HP.ex λQ2'=>HP.and (v=.tuple #[]) (HP.and (K Q' Q2') (HP.an Q' Q2')):=
 t.ak (λ_ _ h=>h) λ_ _ _ ⟨e,H⟩=>⟨Q,Q2,e,k,H⟩
def zY(b:Nat)(k:Nat):HP:=HP.ex λl=>HP.and (l.length<=k) (cA b l)
theorem zY.kF{f:FuncId}{args:Array Value}{b k d:Nat}{S:HP}(t:∀l:List UInt8,l.length<=k->ax Tryz.prog f args (HP.an (cA b l) S) (λv=>HP.and (v=.tuple #[]) (HP.ex λl':List UInt8=>HP.and (l'.length<=k+d) (HP.an (cA b l') S)))):
 ax Tryz.prog f args (HP.an (zY b k) S) (λv=>HP.and (v=.tuple #[]) (HP.an (zY b (k+d)) S)):=
 (ax.ex (A:=λl:List UInt8=>HP.and (l.length<=k) (HP.an (cA b l) S)) (B:=λv=>HP.and (v=.tuple #[]) (HP.an (zY b (k+d)) S)) λl=>ax.pure λhl=>(t l hl).ak (λ_ _ h=>h) λv R h ⟨e,l',vS,H⟩=>⟨e,HP.ae H (λx hx=>⟨l',vS,hx⟩) λ_ h=>h⟩).ak (λR h ⟨h1,h2,d',l1,l2,⟨l,hl,H⟩,HS⟩=>⟨l,hl,h1,h2,d',l1,l2,H,HS⟩) λ_ _ _ h=>h
theorem zY.kx{f:FuncId}{args:Array Value}{b k d:Nat}(t:∀l:List UInt8,l.length<=k->∃q:List UInt8,q.length<=d/\ax Tryz.prog f args (cA b l) (λv=>HP.and (v=.tuple #[]) (cA b (l++q)))):
 ax Tryz.prog f args (zY b k) (λv=>HP.and (v=.tuple #[]) (zY b (k+d))):=
 (ax.ex (A:=λl:List UInt8=>HP.and (l.length<=k) (cA b l)) (B:=λv=>HP.and (v=.tuple #[]) (zY b (k+d))) λl=>ax.pure λhl=>by
   obtain⟨q,hq,t⟩:=t l hl
   exact t.ak (λ_ _ h=>h) λv R h ⟨e,H⟩=>⟨e,l++q,by rw[List.length_append];omega,H⟩).ak (λ_ _ h=>h) λ_ _ _ h=>h
theorem Cb{b k:Nat}(v:Int)(hk:k<=10000000):ax Tryz.prog 87 #[.pointer (some ⟨b,0,none⟩),.int .u8 (IntKind.u8.wrap v)] (zY b k) (λv=>HP.and (v=.tuple #[]) (zY b (k+1))):=
 zY.kx λl hl=>⟨[nz v],Nat.le_refl _,by rw[<-zH];exact km b l _ (by omega)⟩
theorem rG{b k:Nat}(v:Int)(hk:k<=10000000):ax Tryz.prog 88 #[.pointer (some ⟨b,0,none⟩),.int .i64 v] (zY b k) (λv=>HP.and (v=.tuple #[]) (zY b (k+8))):=
 zY.kx λl hl=>⟨gw (dO v) 8,by rw[bZ];exact Nat.le_refl _,MV b l v (by omega)⟩
theorem aaJ{b k:Nat}(x:Bool)(hk:k<=10000000):ax Tryz.prog 89 #[.pointer (some ⟨b,0,none⟩),.bool x] (zY b k) (λv=>HP.and (v=.tuple #[]) (zY b (k+1))):=
 zY.kx λl hl=>⟨[if x then 1 else 0],Nat.le_refl _,Uu b l x (by omega)⟩
theorem Ns{b k:Nat}(a:Option Addr)(c:Nat)(q:List UInt8)(hq:q.length<=1000000)(ha:q.length≠0->a.isSome=true)(hk:k<=10000000):ax Tryz.prog 90 #[.pointer (some ⟨b,0,none⟩),.slice a q.length c] (HP.an (zY b k) (aO a q.length q)) (λv=>HP.and (v=.tuple #[]) (HP.an (zY b (k+(q.length+4))) (aO a q.length q))):=
 zY.kF λl hl=>(o3 b l a q.length c q _ (bR.ro _ _ _ _) rfl ha (by omega)).ak (λ_ _ h=>h) λv R h ⟨e,H⟩=>⟨e,_,by simp[bZ];omega,H⟩
def Cc(m:MS):Int:=if fN m=true then 0 else 1
set_option maxHeartbeats 1000000 in
theorem Xh(m:MS)(ca:Option Addr)(cc:Nat)(va:Option Addr)(vc:Nat):ax Tryz.prog 48 #[.agg (m.cF ca cc va vc).aA] (HP.an (m.bB ca) (m.bj va)) (λv=>HP.ex λa=>HP.ex λn=>HP.ex λc=>HP.and (v=.tuple #[.slice a n c,.int .i64 (Cc m)]) (HP.an (m.bB ca) (m.bj va))):=by
 refine ax.bV (φ:=(m.cell.data.length≠0->ca.isSome=true)/\(m.val.length≠0->va.isSome=true)) (λR h H=>⟨λhn=>bb.some (HP.aj H) (by omega),λhn=>bb.some (HP.ai H) (by omega)⟩) λ⟨h1,h2⟩=>?_
 refine ah (ρ:=m.env ca cc va vc) mixed Tryz.func48 BJ ?_
 unfold zz MS.env Cc
 refine cg ?_
 intro _
 refine gC (g:=.bool) (fN m) (PN m ca cc va vc) ⟨λhr=>?_,λhr x=>?_⟩
 ·rw[if_neg hr]
  exact .of λR h H=>⟨none,0,0,rfl,H⟩
 rw[if_pos hr]
 have hs:=j3 hr
 unfold MS.small at hs
 refine cG ((Cb (k:=0) m.fr (by omega)).ak (λR h H=>⟨[],Nat.le_refl _,none,0,HP.az H|>λH=>HP.ae H (λ_ h=>h) λy _=>cp.nil _ _ R y⟩) λ_ _ _ h=>h) ?_
 refine cG (Cb m.to (by omega)) (cG (rG m.num (by omega)) (cG (aaJ m.bf (by omega)) (cG (Cb m.kind (by omega)) (cG (rG m.ep (by omega)) (cG (rG m.at' (by omega)) (cG (Cb m.cell.what (by omega)) ?_))))))
 refine m0 (Ns ca cc m.cell.data (by omega) h1 (by omega)) (cG (rG m.br (by omega)) (cG (rG m.bw (by omega)) (m0 (Ns va vc m.val (by omega) h2 (by omega)) ?_)))
 refine cG (rG m.bM (by omega)) (cG (rG m.tail (by omega)) (cG (rG m.low (by omega)) (cG (rG m.back (by omega)) ?_)))
 refine(ax.ex (A:=λl:List UInt8=>HP.and (l.length<=10000000) (cA x l)) λl=>ax.pure λhl=>(iF x l (by omega)).ak (λ_ _ h=>h) ?_).ak (λR h ⟨l,hl,H⟩=>⟨l,by omega,H⟩) λ_ _ _ h=>h
 rintro v R h ⟨a,c,rfl,H⟩
 refine⟨a,l.length,c,du a l.length c l,cA x l,rfl,?_,HP.ao H⟩
 refine ax.bV (φ:=l.length≠0->a.isSome=true) (λR h H hn=>cp.some H (by omega)) λha=>(Bn a l.length c l _ (bR.ow _ _ _ _ _ _) rfl ha (by omega)).ak (λ_ _ h=>h) ?_
 rintro v R h ⟨a',c',rfl,H⟩
 exact⟨a',_,c',_,_,rfl,.of λR h H=>⟨a',_,c',rfl,HP.pick [_,_,_] [0,1] (by decide) rfl H⟩,H⟩
end
def Kr(b:Nat)(a:Option Addr)(n c:Nat):HP:=HP.one b (.cells #[.slice a n c] 97 (0,0))
def jo(b:Nat)(a:Option Addr)(c:Nat)(es:List js):HP:=HP.an (Kr b a es.length c) (PL dE a es.length c es)
def mq(l:List MS):Prop:=l.length<=4096/\∀m∈l,fN m=true
def fY(b:Nat)(l:List MS):HP:=HP.ex λa=>HP.ex λc=>HP.ex λes:List js=>HP.and (es.map (·.m)=l/\mq l) (jo b a c es)
theorem fY.kF{f:FuncId}{args:Array Value}{b:Nat}{l:List MS}{S:HP}{B:Value->HP}(t:∀a c es,es.map (·.m)=l->mq l->ax Tryz.prog f args (HP.an (jo b a c es) S) B):ax Tryz.prog f args (HP.an (fY b l) S) B:=
 (ax.ex (A:=λa=>HP.ex λc=>HP.ex λes:List js=>HP.and (es.map (·.m)=l/\mq l) (HP.an (jo b a c es) S)) λa=>ax.ex λc=>ax.ex λes=>ax.pure λh=>t a c es h.1 h.2).ak (λR h ⟨h1,h2,d,l1,l2,⟨a,c,es,e,H⟩,HS⟩=>⟨a,c,es,e,h1,h2,d,l1,l2,H,HS⟩) λ_ _ _ h=>h
theorem fY.kx{f:FuncId}{args:Array Value}{b:Nat}{l:List MS}{B:Value->HP}(t:∀a c es,es.map (·.m)=l->mq l->ax Tryz.prog f args (jo b a c es) B):ax Tryz.prog f args (fY b l) B:=
 ax.ex λa=>ax.ex λc=>ax.ex λes=>ax.pure λh=>t a c es h.1 h.2
theorem fY.of{b:Nat}{a:Option Addr}{c:Nat}{es:List js}(hk:mq (es.map (·.m))){R h:PH}(H:(jo b a c es).p R h):(fY b (es.map (·.m))).p R h:=⟨a,c,es,⟨rfl,hk⟩,H⟩
theorem aaK(a:Option Addr)(n c:Nat)(es:List js)(b:Nat)(x:js)(S Q:HP)(hS:∀R h,S.p R h->(HP.an Q (PL dE a n c es)).p R h)(hb:n<=1000000000):
 aI Tryz.prog (kj 33 33 (.slice a n c) (.slice (some ⟨b,0,none⟩) 1 1)) (HP.an S (HP.an (HP.one b (.cells x.aA 48 (0,0))) (HP.an (x.m.bB x.ca) (x.m.bj x.va))))
  (λv=>HP.ex λa'=>HP.ex λc'=>HP.and (v=.slice a' (n+1) c') (HP.an (PL dE a' (n+1) c' (es++[x])) (HP.an Q (HP.an (HP.one b (.cells x.aA 48 (0,0))) (HP.an (x.m.bB x.ca) (x.m.bj x.va)))))):=by
 obtain⟨i,z,hi,h1,h2,h3,h4⟩:=BI
 refine(PL.Sp (K:=dE) 33 33 lH hi h1 h2 h3 (by rw[h4];decide) a n c es b x (HP.an Q (HP.an (x.m.bB x.ca) (x.m.bj x.va))) hb).ak (λR h H=>?_) λv R h ⟨a',c',e,H⟩=>⟨a',c',e,HP.pick [_,_,_,_,_] [0,2,1,3,4] (by decide) rfl H⟩
 have H1:=HP.aq (HP.ae H (λy hy=>hS R y hy) λ_ h=>h)
 have hD:=HP.aj (HP.ai (HP.ai (HP.ai H1)))
 have hV:=HP.ai (HP.ai (HP.ai (HP.ai H1)))
 have H2:=HP.pick [Q,PL dE a n c es,_,x.m.bB x.ca,x.m.bj x.va] [1,2,0,3,4] (by decide) rfl H1
 exact HP.ae H2 (λ_ h=>h) λy hy=>HP.ae hy (λ_ h=>h) λz hz=>⟨PH.cz,z,PH.dY _,PH.cT _,PH.le.refl _,⟨hD,hV⟩,hz⟩
section
variable {b:Nat}{a:Option Addr}{c:Nat}{es:List js}
theorem YZ:aH Tryz.prog (bG 33 (.pointer (some ⟨b,0,none⟩))) (jo b a c es) (.slice a es.length c):=Sq lH (by kernel_rfl) (by kernel_rfl) rfl
theorem nSt{a':Option Addr}{c' n:Nat}{b9:List js}(hn:n=b9.length):aI Tryz.prog (bH 33 (.pointer (some ⟨b,0,none⟩)) (.slice a' n c')) (HP.an (Kr b a es.length c) (PL dE a' n c' b9)) (λv=>HP.and (v=.tuple #[]) (jo b a' c' b9)):=by
 subst hn
 obtain⟨i,hi,z1,z2,z3⟩:=info_parts (show(Tryz.prog.info? 33).map (λi=>(i.zero,i.size,i.bytes))=some (some (.slice none 0 0),1,24) by kernel_rfl)
 exact Sr (cs':= #[.slice a' b9.length c']) (e:=97) hi z2 (k:=0) (cs:= #[.slice a es.length c]) rfl rfl (by simp) rfl _
theorem Xi:ax Tryz.prog 17 #[] HP.tt (λv=>HP.ex λb=>HP.and (v=.pointer (some ⟨b,0,none⟩)) (fY b [])):=by
 refine ah (ρ:=[]) mixed Tryz.func17 OX ?_
 unfold Tg
 refine cg ?_
 exact λb=>.of λR h H=>⟨b,rfl,none,0,[],⟨rfl,Nat.zero_le _,λm hm=>by cases hm⟩,HP.ae (HP.az H) (λ_ h=>h) λy _=>PL.nX dE R y⟩
theorem Xj(l:List MS):ax Tryz.prog 35 #[.pointer (some ⟨b,0,none⟩)] (fY b l) (λv=>HP.and (v=.int .i64 l.length) (fY b l)):=by
 refine fY.kx λa c es he hk=>?_
 subst he
 refine ah (ρ:=[.n b,.p (jo b a c es)]) mixed Tryz.func35 OZ ?_
 unfold Ti
 refine cg ?_
 exact⟨a,es.length,c,YZ,.of λR h H=>⟨by rw[List.length_map],fY.of hk H⟩⟩
def oy(n:Nat)(k:Int):Nat:=(if k.tmod n<0 then k.tmod n+n else k.tmod n).toNat
theorem Xk{n:Nat}(k:Int)(h:n≠0):oy n k<n:=by
 unfold oy
 have h1:=Int.emod_lt_of_pos k (show(0:Int)<n by omega)
 have h2: -(n:Int)<k.tmod n:=Int.lt_tmod_of_pos k (by omega)
 have h3:k.tmod n<(n:Int):=Int.tmod_lt_of_pos k (by omega)
 split<;>omega
theorem PO(k:Int)(h0:es≠[])(hl:es.length<=1000000):ax Tryz.prog 78 #[.pointer (some ⟨b,0,none⟩),.int .i64 k] (jo b a c es) (λv=>HP.and (v=.int .i64 (oy es.length k)) (jo b a c es)):=by
 refine ah (ρ:=[.n b,.p (jo b a c es),.i k]) mixed Tryz.func78 ET ?_
 unfold ES
 refine cg ?_
 have hn:es.length≠0:=λh=>h0 (List.eq_nil_of_length_eq_zero h)
 have h2: -(es.length:Int)<k.tmod es.length:=Int.lt_tmod_of_pos k (by omega)
 have h3:k.tmod es.length<(es.length:Int):=Int.tmod_lt_of_pos k (by omega)
 refine⟨a,es.length,c,YZ,by omega,λ_=>⟨λh=>⟨aK _ (by omega) (by omega),λ_=>.of λR _ H=>⟨?_,H⟩⟩,λh=>.of λR _ H=>⟨?_,H⟩⟩⟩
 ·unfold oy;rw[if_pos h];congr 1;omega
 ·unfold oy;rw[if_neg h];congr 1;omega
def oz(l:List MS)(m:MS):List MS×Int:=if fN m=false then(l,1)else if 4096<=l.length then(l,4)else(l++[m],0)
theorem Xl{l:List MS}{m:MS}(h:mq l):mq (oz l m).1:=by
 unfold oz
 split
 ·exact h
 ·split
  ·exact h
  ·refine⟨by rw[List.length_append,List.length_singleton];omega,λx hx=>?_⟩
   rcases List.mem_append.1 hx with hx|hx
   ·exact h.2 x hx
   ·obtain rfl:=List.mem_singleton.1 hx
    simpa using ‹¬fN x=false›
set_option maxHeartbeats 1000000 in
theorem Xm(l:List MS)(m:MS)(ca:Option Addr)(cc:Nat)(va:Option Addr)(vc:Nat):ax Tryz.prog 30 #[.pointer (some ⟨b,0,none⟩),.agg (m.cF ca cc va vc).aA] (HP.an (fY b l) (HP.an (m.bB ca) (m.bj va)))
 (λv=>HP.and (v=.int .i64 (oz l m).2) (HP.an (fY b (oz l m).1) (HP.an (m.bB ca) (m.bj va)))):=by
 refine fY.kF λa c es he hk=>?_
 subst he
 have VP:=Xl (m:=m) hk
 have hl:es.length<=4096:=by have:=hk.1;rwa [List.length_map]at this
 refine ah (ρ:=[.n b,.p (jo b a c es)]++m.env ca cc va vc) mixed Tryz.func30 OY ?_
 unfold Th MS.env
 refine cg ?_
 intro _
 refine(Xh m ca cc va vc).ak (λ_ _ h=>h) ?_
 rintro v R h ⟨a1,n1,c1,rfl,H⟩
 refine⟨a1,n1,c1,HP.tt,Cc m,rfl,⟨λh1=>?_,λh1=>?_⟩,HP.aM H⟩
 ·have hr:fN m=false:=by
   cases h:fN m with
   |false=>rfl
   |true=>exact absurd (show Cc m=0 by unfold Cc;rw[if_pos h]) h1
  have e:oz (es.map (·.m)) m=(es.map (·.m),1):=by unfold oz;rw[if_pos hr]
  have e2:Cc m=1:=by unfold Cc;rw[hr];rfl
  rw[e,e2]
  exact .of λR h H=>⟨rfl,HP.ae H (λ_ h=>fY.of hk h) λ_ h=>h⟩
 have hr:fN m=true:=by
  cases h:fN m with
  |true=>rfl
  |false=>exact absurd (show Cc m=0 from h1) (by unfold Cc;rw[h];decide)
 have hrf:¬fN m=false:=by rw[hr];decide
 refine⟨a,es.length,c,YZ,⟨λh2=>?_,λh2=>?_⟩⟩
 ·have e:oz (es.map (·.m)) m=(es.map (·.m),4):=by unfold oz;rw[if_neg hrf,if_pos (by rw[List.length_map];omega)]
  rw[e]
  exact .of λR h H=>⟨rfl,HP.ae H (λ_ h=>fY.of hk h) λ_ h=>h⟩
 have e:oz (es.map (·.m)) m=(es.map (·.m)++[m],0):=by unfold oz;rw[if_neg hrf,if_neg (by rw[List.length_map];omega)]
 rw[e]at VP⊢
 refine⟨a,es.length,c,YZ,?_⟩
 refine(Gj m ca cc va vc (j3 hr)).ak (λ_ _ h=>h) ?_
 rintro v R h ⟨yt,xS,pK,uC,rfl,H⟩
 refine⟨_,_,_,_,_,_,_,_,_,_,_,m.bB yt,_,_,_,_,_,m.bj pK,_,_,_,_,rfl,λx=>?_,H⟩
 clear H
 refine(aaK a es.length c es x ⟨m,yt,xS,pK,uC⟩ (jo b a c es) (Kr b a es.length c) (λ_ _ h=>h) (by omega)).ak (λ_ _ h=>h) ?_
 rintro v R h ⟨a2,c2,rfl,H⟩
 refine⟨a2,_,c2,PL dE a2 (es.length+1) c2 (es++[⟨m,yt,xS,pK,uC⟩]),Kr b a es.length c,rfl,?_,H⟩
 clear H
 refine nC ((nSt (b9:=es++[⟨m,yt,xS,pK,uC⟩]) (by simp)).ak (λ_ _ h=>h) λ_ _ _ h=>h) (.of λR h H=>⟨rfl,HP.ae H (λx hx=>?_) λ_ h=>h⟩)
 have:=fY.of (es:=es++[⟨m,yt,xS,pK,uC⟩]) (by simpa using VP) hx
 simpa using this
def takeN(l:List MS)(k:Int)(pQ:Bool):List MS:=if pQ=true then l else l.take (oy l.length k)++l.drop (oy l.length k+1)
theorem mq.sub{l l':List MS}(h:mq l)(hs:l'.Sublist l):mq l':=⟨Nat.le_trans hs.length_le h.1,λm hm=>h.2 m (hs.subset hm)⟩
theorem Xn{α:Type}(l:List α)(i:Nat):(l.take i++l.drop (i+1)).Sublist l:=by
 conv=>rhs;rw[<-List.take_append_drop i l]
 exact(List.Sublist.refl _).append (by rw[<-List.drop_drop];exact List.drop_sublist _ _)
theorem Uv{l:List MS}(k:Int)(s:Bool)(h:mq l):mq (takeN l k s):=by
 unfold takeN
 split
 ·exact h
 ·exact h.sub (Xn _ _)
theorem nMs{k:Nat}{x:js}(hk:es[k]? =some x):aH Tryz.prog (bG 48 (.pointer (a.map λy=>(y.add (k*16)).add 0))) (jo b a c es) (.agg x.aA):=by
 obtain⟨d,hd⟩:∃d,Tryz.prog.underlying 48=some d:=Option.isSome_iff_exists.1 (by kernel_rfl)
 have h:=kk (vs:=sO.aA x) hd Td (Rd.nU (PL.rd (K:=dE) a es.length c es) λR h (H:(jo b a c es).p R h)=>HP.ai H) (k:=k*16) (off:=0) WQ (by rw[sO.len];decide) λj v hj=>by
  have hlt:j<16:=(List.getElem?_eq_some_iff.1 hj).1
  exact(cZ sO.aA 16 sO.len es k j x hk hlt).trans hj
 exact h
theorem ad8{k:Nat}{x:js}(hk:es[k]? =some x){R h:PH}(H:(jo b a c es).p R h):(x.m.bB x.ca).p R h/\(x.m.bj x.va).p R h:=
 gT (HP.ai (HP.ai H).2) (sO.hp x) (List.mem_map.2 ⟨x,List.mem_of_getElem? hk,rfl⟩)
theorem Xo(es:List js)(i:Nat):(es.take i++es.drop (i+1)).map (·.m)=(es.map (·.m)).take i++(es.map (·.m)).drop (i+1):=by rw[List.map_append,List.map_take,List.map_drop]
theorem ahE{i:Nat}(hi:i<es.length)(hl:es.length<=1000000):ax Tryz.prog 79 #[.slice a es.length c,.int .i64 (i:Int),.int .i64 ((i:Int)+1)] (jo b a c es)
 (λv=>HP.and (v=.slice a (es.take i++es.drop (i+1)).length c) (HP.an (PL dE a (es.take i++es.drop (i+1)).length c (es.take i++es.drop (i+1))) (Kr b a es.length c))):=by
 have h:=WR a es.length c es i (i+1) (by omega) (by omega) (by omega)
 have e:i+(es.length - (i+1))=(es.take i++es.drop (i+1)).length:=by simp;omega
 rw[e]at h
 exact(h.frame (Kr b a es.length c)).ak (λR h H=>HP.ao H) λv R h ⟨h1,h2,d,l1,l2,⟨e,H⟩,HU⟩=>⟨e,h1,h2,d,l1,l2,H,HU⟩
set_option maxHeartbeats 1000000 in
theorem Uw(l:List MS)(k:Int)(s:Bool):ax Tryz.prog 44 #[.pointer (some ⟨b,0,none⟩),.int .i64 k,.bool s] (fY b l)
 (λv=>match l[oy l.length k]? with
   |none=>HP.and (v=.tuple #[.agg (mC.cF none 0 none 0).aA,.int .i64 5]/\l=[]) (fY b l)
   |some m=>HP.ex λca=>HP.ex λcc=>HP.ex λva=>HP.ex λvc=>HP.and (v=.tuple #[.agg (m.cF ca cc va vc).aA,.int .i64 0]/\fN m=true) (HP.an (fY b (takeN l k s)) (HP.an (m.bB ca) (m.bj va)))):=by
 refine fY.kx λa c es he hk=>?_
 subst he
 have hl:es.length<=4096:=by have:=hk.1;rwa [List.length_map]at this
 refine ax.bV (φ:=es.length≠0->a.isSome=true) (λR h H hn=>PL.nG (HP.ai H) hn) λha=>?_
 refine ah (ρ:=[.n b,.p (jo b a c es),.i k,.c s]) mixed Tryz.func44 Jq ?_
 unfold MC
 refine cg ?_
 intro _
 refine⟨a,es.length,c,YZ,λh0=>?_,λh0=>?_⟩
 ·obtain rfl:es=[]:=List.eq_nil_of_length_eq_zero (by omega)
  exact .of λR h H=>⟨⟨rfl,rfl⟩,fY.of hk H⟩
 have hne:es≠[]:=λe=>h0 (by rw[e];rfl)
 have hp:=Xk k (show es.length≠0 by omega)
 refine gC (g:=λx=>.int .i64 x) ((oy es.length k:Nat):Int) (PO k hne (by omega)) ?_
 obtain⟨x,hx⟩:∃x,es[oy es.length k]? =some x:=⟨_,List.getElem?_eq_getElem hp⟩
 have hm:(es.map (·.m))[oy (es.map (·.m)).length k]? =some x.m:=by rw[List.length_map,List.getElem?_map,hx];rfl
 have hr:=hk.2 x.m (List.mem_of_getElem? hm)
 rw[hm]
 refine⟨a,es.length,c,YZ,by omega,λ_=>⟨by omega,λ_=>?_⟩⟩
 refine⟨ha (by omega),λ_=>⟨_,_,_,_,_,_,_,_,_,_,_,_,_,_,_,_,_,_,_,_,nMs hx,?_⟩⟩
 refine(Ut x.m x.ca x.cc x.va x.vc (j3 hr) _ λR h H=>ad8 hx H).ak (λ_ _ h=>h) ?_
 rintro v R h ⟨yt,xS,pK,uC,rfl,H⟩
 refine⟨_,_,_,_,_,_,_,_,_,_,_,x.m.bB yt,_,_,_,_,_,x.m.bj pK,_,_,_,_,rfl,λq=>⟨λhs=>?_,λhs=>?_⟩,H⟩
 ·refine⟨a,es.length,c,YZ,aK _ (by omega) (by omega),λ_=>?_⟩
  refine(ahE hp (by omega)).ak (λ_ _ h=>h) ?_
  rintro v R h ⟨rfl,H⟩
  refine⟨a,_,c,_,Kr b a es.length c,rfl,?_,H⟩
  refine nC (nSt rfl) (.of λR h H=>⟨yt,xS,pK,uC,⟨rfl,hr⟩,HP.ae H (λy hy=>?_) λ_ h=>h⟩)
  have e:takeN (es.map (·.m)) k s=(es.take (oy es.length k)++es.drop (oy es.length k+1)).map (·.m):=by unfold takeN;rw[if_neg hs,List.length_map,Xo]
  rw[e]
  refine fY.of ?_ hy
  rw[<-e]
  exact Uv k s hk
 ·have e:takeN (es.map (·.m)) k s=es.map (·.m):=by unfold takeN;rw[if_pos hs]
  rw[e]
  exact .of λR h H=>⟨yt,xS,pK,uC,⟨rfl,hr⟩,HP.ae H (λy hy=>fY.of hk hy) λ_ h=>h⟩
def Ux(x b:Nat):HP:=HP.one x (.cells #[.pointer (some ⟨b,0,none⟩)] 66 (0,0))
def ad9(l:List MS)(k:Nat)(args:Array Value)(k':Nat):Prop:=∃m ca cc va vc,l[k]? =some m/\args= #[.agg (MR.aA (MS.cF m ca cc va vc))]/\k'=k+1
def prN(l:List MS)(k:Nat)(args:Array Value):HP:=HP.ex λm:MS=>HP.ex λca=>HP.ex λcc=>HP.ex λva=>HP.ex λvc=>HP.and (l[k]? =some m/\args= #[.agg (m.cF ca cc va vc).aA]) (HP.both (m.bB ca) (m.bj va))
theorem aea:tD Tryz.prog 72:=⟨_,Tryz.func72,by kernel_rfl,by kernel_rfl⟩
set_option maxHeartbeats 1000000 in
theorem Uy(hk:mq (es.map (·.m)))(ha:es.length≠0->a.isSome=true)(x:Nat):vf Tryz.prog (.func (.func 72) #[] #[.pointer (some ⟨x,0,none⟩)]) (HP.an (Ux x b) (jo b a c es)) (λ_:Nat=>HP.tt) (prN (es.map (·.m))) (ad9 (es.map (·.m))) (λk=>k=es.length) 0:=by
 refine⟨_,_,rfl,aea,λlp K Jx hr=>?_⟩
 have hl:es.length<=4096:=by have:=hk.1;rwa [List.length_map]at this
 refine(ah (ρ:=[.v (.func (.yield lp) #[] #[]),.p (K 0),.n x,.n b,.p (jo b a c es)]) mixed Tryz.func72 EV ?_).ak (λR h H=>?_) λ_ _ _ h=>h
 rotate_left
 ·exact HP.pick [Ux x b,jo b a c es,HP.tt,K 0] [3,0,1] (by decide) rfl (HP.aq H)
 unfold EU
 refine cg ?_
 have iW:∀J:HP,HP.aV J (iy (λ_:Nat=>HP.tt) K Jx (λk=>k=es.length))->HP.aV (HP.an J (HP.an (HP.one x (.cells #[.pointer (some ⟨b,0,none⟩)] 66 (0,0))) (jo b a c es))) (HP.an (HP.an (Ux x b) (jo b a c es)) (iy (λ_:Nat=>HP.tt) K Jx (λk=>k=es.length))):=λJ hJ=>
  (HP.aV.of λR h H=>HP.ao H).trans (HP.aV.gZ (.refl _) hJ)
 refine⟨a,es.length,c,YZ,λi p=>∃k:Nat,i=k/\k<=es.length/\p=K k,λi _=>es.length - i.toNat,⟨0,rfl,Nat.zero_le _,rfl⟩,?_⟩
 rintro _ _ ⟨k,rfl,kW,rfl⟩
 refine⟨λhlt=>⟨by omega,λ_=>⟨ha (by omega),λ_=>?_⟩⟩,λlN=>?_⟩
 ·have hlt:k<es.length:=by omega
  obtain⟨y,hy⟩:∃y,es[k]? =some y:=⟨_,List.getElem?_eq_getElem hlt⟩
  have hm:(es.map (·.m))[k]? =some y.m:=by rw[List.getElem?_map,hy];rfl
  have hrt:=hk.2 y.m (List.mem_of_getElem? hm)
  refine⟨_,_,_,_,_,_,_,_,_,_,_,_,_,_,_,_,_,_,_,_,nMs hy,λ_=>?_⟩
  refine(Ut y.m y.ca y.cc y.va y.vc (j3 hrt) _ λR h H=>ad8 hy H).ak (λ_ _ h=>h) ?_
  rintro v R h ⟨yt,xS,pK,uC,rfl,H⟩
  refine⟨_,_,_,_,_,_,_,_,_,_,_,y.m.bB yt,_,_,_,_,_,y.m.bj pK,_,_,_,_,rfl,?_,H⟩
  clear H
  refine(hr k #[.agg (y.m.cF yt xS pK uC).aA] ⟨k+1,y.m,yt,xS,pK,uC,hm,rfl,rfl⟩).be (K:=HP.an (y.m.bB yt) (y.m.bj pK)) (.of λR h H=>?_) λv=>.of λR h H=>?_
  ·have hD:=HP.aj (HP.ai H)
   have hV:=HP.ai (HP.ai H)
   exact HP.ae H (λz hz=>⟨PH.cz,z,PH.dY _,PH.cT _,PH.le.refl _,⟨y.m,yt,xS,pK,uC,⟨hm,rfl⟩,hD,hV⟩,HP.aM hz⟩) λ_ h=>h
  ·obtain⟨h1,h2,dd,l1,l2,⟨b',rfl,hb⟩,HV⟩:=H
   cases b' with
   |true=>
    obtain⟨g',⟨_,_,_,_,_,_,_,rfl⟩,H2⟩:=hb
    exact⟨true,_,rfl,⟨λh=>absurd rfl h,λ_=>⟨aK _ (by omega) (by omega),λ_=>⟨⟨k+1,by omega,by omega,rfl⟩,by dsimp only;omega⟩⟩⟩,h1,h2,dd,l1,l2,HP.ai H2,HV⟩
   |false=>exact⟨false,Jx,rfl,⟨λ_=>iW _ (.of λR h H=>⟨none,H⟩),λh=>(by cases h)⟩,h1,h2,dd,l1,l2,hb,HV⟩
 ·obtain rfl:k=es.length:=by omega
  exact iW _ (.of λR h H=>⟨some _,rfl,HP.aM H⟩)
theorem Uz:ax Tryz.prog 42 #[.pointer (some ⟨b,0,none⟩)] (jo b a c es) (λv=>HP.ex λx=>HP.and (v=.func (.func 72) #[] #[.pointer (some ⟨x,0,none⟩)]) (HP.an (Ux x b) (jo b a c es))):=by
 refine ah (ρ:=[.n b,.p (jo b a c es)]) mixed Tryz.func42 Jr ?_
 unfold MD
 refine cg ?_
 exact λx=>.of λR h H=>⟨x,rfl,HP.ao H⟩
set_option maxHeartbeats 1000000 in
theorem Xp(l:List MS):ax Tryz.prog 21 #[.pointer (some ⟨b,0,none⟩)] (fY b l) (λv=>HP.ex λa=>HP.ex λc=>HP.ex λes:List js=>HP.and (v=.slice a es.length c/\es.map (·.m)=l) (HP.an (PL dE a es.length c es) (fY b l))):=by
 refine fY.kx λa c es he hk=>?_
 subst he
 refine ax.bV (φ:=es.length≠0->a.isSome=true) (λR h H hn=>PL.nG (HP.ai H) hn) λha=>?_
 have hl:es.length<=4096:=by have:=hk.1;rwa [List.length_map]at this
 refine ah (ρ:=[.n b,.p (jo b a c es)]) mixed Tryz.func21 O0 ?_
 unfold Tj
 refine cg ?_
 intro _
 refine Uz.ak (λ_ _ h=>h) ?_
 rintro v R h ⟨x,rfl,H⟩
 refine⟨.func (.func 72) #[] #[.pointer (some ⟨x,0,none⟩)],Ux x b,rfl,λ_=>?_,H⟩
 clear H
 refine⟨Nat,λ_=>HP.tt,prN (es.map js.m),ad9 (es.map js.m),λk=>k=es.length,0,λk a n c q=>∃xs:List js,n=xs.length/\xs.map js.m=(es.map js.m).take k/\k<=es.length/\HP.aV q (PL dE a n c xs),Uy hk ha x,?_,?_,?_,?_⟩
 ·exact⟨[],rfl,rfl,Nat.zero_le _,.of λR h _=>PL.nX _ R h⟩
 ·intros;rfl
 ·rintro k args ⟨k',m,ca,cc,va,vc,hm,rfl,rfl⟩ a' n' c' q ⟨xs,rfl,he,kW,hq⟩
  have Xq:k<(es.map (·.m)).length:=(List.getElem?_eq_some_iff.1 hm).1
  have nq:xs.length=k:=by
   have:=congrArg List.length he
   simp at this;omega
  rw[List.length_map]at Xq
  refine⟨m.fr,m.to,m.num,m.bf,m.kind,m.ep,m.at',m.cell.what,ca,m.cell.data.length,cc,m.bB ca,m.br,m.bw,va,m.val.length,vc,m.bj va,m.bM,m.tail,m.low,m.back,rfl,.of λR h H=>?_,λ_ y=>?_⟩
  ·obtain⟨m',yt,xS,pK,uC,⟨YL,e⟩,H⟩:=H
   rw[hm]at YL;cases YL
   simp[MR.aA]at e
   obtain⟨⟨rfl,rfl⟩,rfl,rfl⟩:=e
   exact bb.join H.1 H.2
  ·refine((aaK a' xs.length c' xs y ⟨m,ca,cc,va,vc⟩ _ HP.tt (λR h H=>HP.aM H) (by omega)).be (K:=HP.tt) ((hq.an _).trans (.of λR h H=>HP.az H)) λv=>.of λR h H=>HP.aj H).ak (λ_ _ h=>h) ?_
   rintro v R h ⟨a2,c2,rfl,H⟩
   refine⟨a2,_,c2,PL dE a2 (xs.length+1) c2 (xs++[⟨m,ca,cc,va,vc⟩]),rfl,⟨k+1,⟨m,ca,cc,va,vc,hm,rfl,rfl⟩,xs++[⟨m,ca,cc,va,vc⟩],by simp,?_,Xq,.refl _⟩,?_⟩
   ·rw[List.take_succ_eq_append_getElem (by rw[List.length_map];exact Xq),List.map_append,he]
    rw[List.getElem?_eq_getElem (by rw[List.length_map];exact Xq)]at hm
    rw[Option.some.inj hm];rfl
   ·exact HP.pick [_,_,_,_,_] [0,2,3,4] (by decide) rfl H
 ·rintro k rfl a' n' c' q ⟨xs,rfl,he,kW,hq⟩
  rw[show es.length=(es.map (·.m)).length by rw[List.length_map],List.take_length]at he
  refine((HP.aV.refl _).gZ hq).trans (.of λR h H=>⟨a',c',xs,⟨rfl,he⟩,?_⟩)
  exact HP.ae (HP.ao H) (λ_ h=>h) λy hy=>fY.of hk hy
end
end
end Go.Proofs.YtbkifafpjnjaiaaGreatDoor
