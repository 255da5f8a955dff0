/- Texts of this claim, joined. No condition. -/
import Derived.Test.YtbkifafpjnjaiaaGreatDoorWNJ1
import Derived.KernelRfl
set_option linter.unusedSimpArgs false
set_option linter.unusedVariables false
namespace Go.Proofs.YtbkifafpjnjaiaaGreatDoor
set_option maxRecDepth 100000
namespace RX
def gj:=(({aB:=[261,308,70,259,196,99999,99999]}:gA).aB)
def DR:T:=
(.br (.not (.is 0))
(.ret .z [(0,3)])
(.new
(.op (.call ⟨.builtin .append,#[.tmp 5,.tmp 6],#[71,71]⟩) 71 [(5,.sl (.b 4 0) (.n 0) (.n 0)),(6,.s 0)] [(.b 4,.cells [] 3),(0,3)] [.a,.n,.n,.p] (.s 5) [(5,8),(0,3)]
(.ret (.s 5) [(0,3),(5,8)]))))
theorem DS:tree Tryz.prog {aB:=gj,cx:=true} Tryz.f70 [.s 0] [(0,3)] 4=DR:=by kernel_rfl
def DT:T:=
(.br (.not (.is 0))
(.ret .z [(0,3)])
(.new
(.op (.call ⟨.builtin .append,#[.tmp 5,.tmp 6],#[27,27]⟩) 27 [(5,.sl (.b 4 0) (.n 0) (.n 0)),(6,.s 0)] [(.b 4,.cells [] 71),(0,3)] [.a,.n,.n,.p] (.s 5) [(5,8),(0,3)]
(.ret (.s 5) [(0,3),(5,8)]))))
theorem DU:tree Tryz.prog {aB:=gj,cx:=true} Tryz.f69 [.s 0] [(0,3)] 4=DT:=by kernel_rfl
def DW:T:=
(.loop [.i,.i] [.z (.i 0),.z (.i 0)]
(.br (.lt 6 (.of 1))
(.need (.le (.i 0) 6)
(.need (.is 0)
  (.ld 3 14 (.aW 0 6 1 0) [(0,3)] [.i] 7
(.br (.eq 4 7)
(.ret 6 [(0,3)])
  (.rg (.add 6 (.i 1))
(.again 0 [.z 5,.z (.add 6 (.i 1))]))))))
(.ret (.k (-1)) [(0,3)])))
theorem DX:tree Tryz.prog {aB:=gj,cx:=true} Tryz.f308 [.s 0,4] [(0,3)] 5=DW:=by kernel_rfl
def tM:T:=
(.call 308 [.s 0,4] [(0,3)] [.i] 5 [(0,3)]
(.ret (.bool (.le (.i 0) 5)) [(0,3)]))
theorem wi:tree Tryz.prog {aB:=gj,cx:=true} Tryz.f261 [.s 0,4] [(0,3)] 5=tM:=by kernel_rfl
def sH:T:=
(.loop [.i,.i,.p] [.z (.i 0),.z (.i 0),.p [(4,5)]]
(.br (.lt 7 (.of 1))
(.need (.le (.i 0) 7)
(.need (.is 0)
  (.ld 3 14 (.aW 0 7 1 0) [(0,3)] [.i] 9
  (.jw 4 [9] [(4,8)] [.c,.p] (.bool 10) [(4,11)]
(.br 10
(.ret 7 [(0,3),(4,11)])
  (.rg (.add 7 (.i 1))
(.again 0 [.z 6,.z (.add 7 (.i 1)),.p [(4,11)]])))))))
(.ret (.k (-1)) [(0,3),(4,8)])))
theorem Bp:tree Tryz.prog {hv:=[(0,[.a 4])],aB:=gj,cx:=true} Tryz.f50 [.s 0,.val 4] [(0,3),(4,5)] 6=sH:=by kernel_rfl
def sI:T:=
(.loop [.i,.i,.p] [.z (.i 0),.z (.i 0),.p [(4,5)]]
(.br (.lt 7 (.of 1))
(.need (.le (.i 0) 7)
(.need (.is 0)
  (.ld 71 14 (.aW 0 7 1 0) [(0,3)] [.a,.n,.n] (.s 9)
  (.jw 4 [.s 9] [(4,8),(0,3)] [.c,.p] (.bool 12) [(4,13),(0,3)]
(.br 12
(.ret 7 [(0,3),(4,13)])
  (.rg (.add 7 (.i 1))
(.again 0 [.z 6,.z (.add 7 (.i 1)),.p [(4,13)]])))))))
(.ret (.k (-1)) [(0,3),(4,8)])))
theorem Bq:tree Tryz.prog {hv:=[(0,[.a 4])],aB:=gj,cx:=true} Tryz.f365 [.s 0,.val 4] [(0,3),(4,5)] 6=sI:=by kernel_rfl
def mQ:T:=
(.call 365 [.s 0,.val 4] [(0,3),(4,5)] [.i,.p,.p] 6 [(0,7),(4,8)]
(.ret (.bool (.le (.i 0) 6)) [(0,7),(4,8)]))
theorem uA:tree Tryz.prog {aB:=gj,cx:=true} Tryz.f333 [.s 0,.val 4] [(0,3),(4,5)] 6=mQ:=by kernel_rfl
def sJ:T:=
(.loop [.i,.i,.p] [.z (.i 0),.z (.i 0),.p [(4,5)]]
(.br (.lt 7 (.of 1))
(.need (.le (.i 0) 7)
(.need (.is 0)
  (.ld 48 14 (.aW 0 7 16 0) [(0,3)] [.i,.i,.i,.c,.i,.i,.i,.i,.a,.n,.n,.i,.i,.a,.n,.n,.i,.i,.i,.i] (.agg [9,10,11,.bool 12,13,14,15,16,.s 17,20,21,.s 22,25,26,27,28])
  (.jw 4 [.agg [9,10,11,.bool 12,13,14,15,16,.s 17,20,21,.s 22,25,26,27,28]] [(4,8),(0,3)] [.c,.p] (.bool 29) [(4,30),(0,3)]
(.br 29
(.ret 7 [(0,3),(4,30)])
  (.rg (.add 7 (.i 1))
(.again 0 [.z 6,.z (.add 7 (.i 1)),.p [(4,30)]])))))))
(.ret (.k (-1)) [(0,3),(4,8)])))
theorem Br:tree Tryz.prog {hv:=[(0,[.a 4])],aB:=gj,cx:=true} Tryz.f214 [.s 0,.val 4] [(0,3),(4,5)] 6=sJ:=by kernel_rfl
def mR:T:=
(.call 214 [.s 0,.val 4] [(0,3),(4,5)] [.i,.p,.p] 6 [(0,7),(4,8)]
(.ret (.bool (.le (.i 0) 6)) [(0,7),(4,8)]))
theorem uB:tree Tryz.prog {aB:=gj,cx:=true} Tryz.f156 [.s 0,.val 4] [(0,3),(4,5)] 6=mR:=by kernel_rfl
def sK:T:=
(.call 50 [.s 0,.val 4] [(0,3),(4,5)] [.i,.p,.p] 6 [(0,7),(4,8)]
(.br (.eq 6 (.i (-1)))
(.ret (.s 0) [(0,7),(4,8)])
 (.rg (.add 6 (.i 1))
(.loop [.i,.i,.p,.p] [.z 6,.z (.add 6 (.i 1)),.p [(0,7)],.p [(4,8)]]
(.br (.lt 10 (.of 1))
(.need (.le (.i 0) 10)
(.need (.is 0)
  (.ld 3 24 (.aW 0 10 1 0) [(0,11)] [.i] 13
  (.jw 4 [13] [(4,12)] [.c,.p] (.bool 14) [(4,15)]
(.br (.not 14)
(.need (.le (.i 0) 9)
(.need (.lt 9 (.of 1))
(.op (.store 3 (.tmp 33) (.tmp 32)) 0 [(33,.aW 0 9 1 0),(32,13)] [(0,11)] [.p] (.au []) [(0,16)]
  (.rg (.add 9 (.i 1))
  (.rg (.add 10 (.i 1))
(.again 0 [.z (.add 9 (.i 1)),.z (.add 10 (.i 1)),.p [(0,16)],.p [(4,15)]]))))))
  (.rg (.add 10 (.i 1))
(.again 0 [.z 9,.z (.add 10 (.i 1)),.p [(0,11)],.p [(4,15)]])))))))
(.read (.slice 71 (.tmp 36) (some (.tmp 37)) none none) 71 [(36,.s 0),(37,9)] [(0,11)] [.a,.n,.n] (.s 13)
(.op (.call ⟨.builtin .clear,#[.tmp 38],#[71]⟩) 0 [(38,.s 13)] [(0,11)] [.p] (.au []) [(0,16)]
(.read (.slice 71 (.tmp 39) none (some (.tmp 40)) none) 71 [(39,.s 0),(40,9)] [(0,16)] [.a,.n,.n] (.s 17)
(.ret (.s 17) [(0,16),(4,12)])))))))))
theorem Bs:tree Tryz.prog {hv:=[(0,[.a 0,.a 4])],aB:=gj,cx:=true} Tryz.f84 [.s 0,.val 4] [(0,3),(4,5)] 6=sK:=by kernel_rfl
def zj:T:=
(.new
(.br (.lt 0 (.i 0))
(.ret (.bool (.c false)) [(1,4)])
(.br (.lt (.i 2147483647) 0)
(.ret (.bool (.c false)) [(1,4)])
(.br (.lt (.of 2) (.i 1))
(.ret (.bool (.c false)) [(1,4)])
(.br (.lt (.i 7) (.of 2))
(.ret (.bool (.c false)) [(1,4)])
(.new
(.loop [.c,.i,.p] [.e (.not (.not (.c false))),.z (.i 0),.p [(.b 6,.cells [.bool (.c false),.bool (.c false),.bool (.c false),.bool (.c false),.bool (.c false),.bool (.c false),.bool (.c false)] 224)]]
(.br (.lt 8 (.of 2))
(.need (.le (.i 0) 8)
(.need (.is 1)
  (.ld 71 31 (.aW 1 8 1 0) [(1,4)] [.a,.n,.n] (.s 10)
(.br (.eq (.of 11) (.i 0))
(.ret (.bool (.c false)) [(1,4)])
(.loop [.c,.i,.p] [.e (.not (.not 7)),.z (.i 0),.p [(.b 6,9)]]
(.br (.lt 14 (.of 11))
(.need (.le (.i 0) 14)
(.need (.is 10)
         (.ld 3 40 (.aW 10 14 1 0) [(1,4)] [.i] 16
(.br (.lt 16 (.i 0))
(.ret (.bool (.c false)) [(1,4)])
(.br (.le (.i 7) 16)
(.ret (.bool (.c false)) [(1,4)])
(.read (.indexAddr 224 (.tmp 3) (.tmp 49)) 0 [(3,.ptr 6 0),(49,16)] [(.b 6,15)] [.v] (.val 17)
         (.ld 4 50 (.val 17) [(.b 6,15)] [.c] (.bool 18)
(.br 18
(.ret (.bool (.c false)) [(1,4)])
(.read (.indexAddr 224 (.tmp 3) (.tmp 53)) 0 [(3,.ptr 6 0),(53,16)] [(.b 6,15)] [.v] (.val 19)
(.op (.store 4 (.tmp 54) (.const (.bool true))) 0 [(54,.val 19)] [(.b 6,15)] [.p] (.au []) [(.b 6,20)]
       (.rg (.add 14 (.i 1))
(.again 0 [.e (.not (.not 13)),.z (.add 14 (.i 1)),.p [(.b 6,20)]]))))))))))))
  (.rg (.add 8 (.i 1))
(.again 1 [.e (.not (.not 13)),.z (.add 8 (.i 1)),.p [(.b 6,15)]]))))))))
(.ret (.bool (.c true)) [(1,4)])))))))))
theorem Bt:tree Tryz.prog {fX:=[224],hv:=[(0,[.b 6]),(2,[.b 6])],aB:=gj,bz:=true,cx:=true} Tryz.f259 [.agg [0,.s 1]] [(1,4)] 5=zj:=by kernel_rfl
def zk:T:=
(.new
(.br (.lt 0 (.i 1))
(.ret (.au [.agg [.k 0,.z],.k 1]) [])
(.br (.lt (.i 7) 0)
(.ret (.au [.agg [.k 0,.z],.k 1]) [])
(.br (.lt 1 (.i 1))
(.ret (.au [.agg [.k 0,.z],.k 1]) [])
(.br (.lt 0 1)
(.ret (.au [.agg [.k 0,.z],.k 1]) [])
(.op (.makeSlice 27 (.tmp 24) (.tmp 24)) 27 [(24,1),(24,1)] [] [.a,.n,.n,.p] (.s 3) [(3,6)]
(.new
(.loop [.i,.p] [.z (.i 0),.p [(3,6)]]
(.br (.lt 8 0)
(.need (.not (.eq 1 (.i 0)))
(.need (.le (.i 0) (.o2 .rem 8 1))
(.need (.lt (.o2 .rem 8 1) (.of 4))
(.need (.is 3)
  (.ld 71 41 (.aW 3 (.o2 .rem 8 1) 1 0) [(3,9)] [.a,.n,.n] (.s 10)
(.new
(.op (.call ⟨.builtin .append,#[.tmp 42,.tmp 44],#[71,71]⟩) 71 [(42,.s 10),(44,.sl (.b 13 0) (.n 1) (.n 1))] [(3,9),(.b 13,.cells [8] 3)] [.a,.n,.n,.p,.p] (.s 14) [(14,17),(3,18),(.b 13,.cells [8] 3)]
(.op (.store 71 (.tmp 46) (.tmp 45)) 0 [(46,.aW 3 (.o2 .rem 8 1) 1 0),(45,.s 14)] [(3,18),(14,17)] [.p] (.au []) [(3,19)]
      (.rg (.add 8 (.i 1))
(.again 0 [.z (.add 8 (.i 1)),.p [(3,19)]]))))))))))
(.ret (.au [.agg [.k 0,.s 3],.k 0]) [(3,9)]))))))))))
theorem Bu:tree Tryz.prog {fX:=[224],hv:=[(0,[.a 3])],aB:=gj,bz:=true,cx:=true} Tryz.f15 [0,1] [] 2=zk:=by kernel_rfl
def DY:T:=
(.call 261 [.s 2,0] [(2,5)] [.c] (.bool 6) [(2,5)]
(.ret (.bool (.not 6)) [(.b 1,.cells [.s 2] 71),(2,5)]))
theorem DZ:tree Tryz.prog {aB:=gj,cx:=true} Tryz.f260 [0,.ptr 1 0] [(.b 1,.cells [.s 2] 71),(2,5)] 6=DY:=by kernel_rfl
def D0:T:=
(.new
(.new
(.new
(.call 259 [.agg [0,.s 1]] [(1,4)] [.c] (.bool 12) [(1,4)]
(.br (.not 12)
(.ret (.au [.agg [.k 0,.z],.k 1]) [(1,4),(5,8)])
(.br (.eq 0 (.i 2147483647))
(.ret (.au [.agg [.k 0,.z],.k 1]) [(1,4),(5,8)])
  (.rg (.add 0 (.i 1))
(.new
(.loop [.i,.i,.i,.a,.n,.n,.p] [.z (.i 0),.z (.i 0),.z (.add 0 (.i 1)),.a .nil,.e (.cQ (.n 0) (.n 0)),.e (.cQ (.n 0) (.n 0)),.p []]
(.br (.lt 15 (.of 2))
(.need (.le (.i 0) 15)
(.need (.is 1)
  (.ld 71 30 (.aW 1 15 1 0) [(1,4)] [.a,.n,.n] (.s 21)
(.call 70 [.s 21] [(1,4)] [.a,.n,.n,.p] (.s 24) [(24,27),(1,4)]
(.call 84 [.s 24,.a (.func 260 [(10,0)])] [(24,27),(.b 10,.cells [.s 5] 71),(5,8)] [.a,.n,.n,.p,.p] (.s 28) [(28,31),(24,32),(.b 10,.cells [.s 5] 71),(5,8)]
(.br (.eq (.of 29) (.i 0))
(.ret (.au [.agg [.k 0,.z],.k 5]) [(1,4),(5,8)])
(.new
(.op (.call ⟨.builtin .append,#[.tmp 41,.tmp 43],#[27,27]⟩) 27 [(41,.s 17),(43,.sl (.b 33 0) (.n 1) (.n 1))] [(17,20),(.b 33,.cells [.s 28] 71),(28,31)] [.a,.n,.n,.p] (.s 34) [(34,37),(.b 33,.cells [.s 28] 71),(28,31)]
  (.rg (.add 15 (.i 1))
(.again 0 [.z 14,.z (.add 15 (.i 1)),.z 16,.a 34,.e (.cQ 35 (.n 0)),.e (.cQ 36 (.n 0)),.p [(34,37)]]))))))))))
(.ret (.au [.agg [16,.s 17],.k 0]) [(1,4),(5,8),(17,20)])))))))))))
theorem D1:tree Tryz.prog {hv:=[(0,[.b 13])],aB:=gj,aY:=[(84,[0])],cx:=true} Tryz.f195 [.agg [0,.s 1],.s 5] [(1,4),(5,8)] 9=D0:=by kernel_rfl
def D2:T:=
(.call 87 [.ptr 0 0,.a (.int .u8 (.o1 (.wrap .u8) 2))] [(.b 0,1)] [.p] (.au []) [(.b 0,3)]
(.ret (.au []) [(.b 0,3)]))
theorem D3:tree Tryz.prog {aB:=gj,cx:=true} Tryz.f265 [.ptr 0 0,2] [(.b 0,1)] 3=D2:=by kernel_rfl
def D4:T:=
(.call 264 [.ptr 0 0,.s 2,.a (.func 265 [])] [(.b 0,1),(2,5)] [.p,.p] (.au []) [(.b 0,6),(2,7)]
(.ret (.au []) [(.b 0,6),(2,7)]))
theorem D5:tree Tryz.prog {aB:=gj,cx:=true} Tryz.f263 [.ptr 0 0,.s 2] [(.b 0,1),(2,5)] 6=D4:=by kernel_rfl
def Mn:T:=
(.new
(.new
(.call 129 [.ptr 6 0,.a (.int .u64 (.o1 (.wrap .u64) 0)),.k 4] [(.b 6,.cells [.z] 168)] [.a,.n,.n,.p] (.au []) [(.b 6,.cells [.s 7] 168),(7,10)]
(.call 262 [.ptr 6 0,.s 1,.a (.func 263 [])] [(.b 6,.cells [.s 7] 168),(7,10),(1,4)] [.a,.n,.n,.p,.p] (.au []) [(.b 6,.cells [.s 11] 168),(11,14),(1,15)]
(.call 92 [.ptr 6 0] [(.b 6,.cells [.s 11] 168),(11,14)] [.a,.n,.n,.p,.a,.n,.n,.p] (.s 16) [(16,19),(.b 6,.cells [.s 20] 168),(20,23)]
(.call 91 [.s 16] [(16,19)] [.a,.n,.n,.p,.p] (.s 24) [(24,27),(16,28)]
(.ret (.s 24) [(1,15),(24,27)])))))))
theorem IY:tree Tryz.prog {aB:=gj,cx:=true} Tryz.f196 [.agg [0,.s 1]] [(1,4)] 5=Mn:=by kernel_rfl
def SR:T:=
(.call 129 [.ptr 0 0,.a (.int .u64 (.o1 (.wrap .u64) (.of 3))),.k 4] [(.b 0,1)] [.p] (.au []) [(.b 0,8)]
(.read (.binOp .eql 328 (.tmp 13) (.const .nilFunc) 328) 4 [(13,.val 6)] [(6,7)] [.c] (.bool 9)
(.br 9
(.ret (.au []) [(.b 0,8),(2,5),(6,7)])
(.loop [.i,.p,.p] [.z (.i 0),.p [(.b 0,8)],.p [(6,7)]]
(.br (.lt 10 (.of 3))
(.need (.le (.i 0) 10)
(.need (.is 2)
  (.ld 3 19 (.aW 2 10 1 0) [(2,5)] [.i] 13
  (.jw 6 [.ptr 0 0,13] [(6,12),(.b 0,11)] [.p,.p] (.au []) [(6,14),(.b 0,15)]
  (.rg (.add 10 (.i 1))
(.again 0 [.z (.add 10 (.i 1)),.p [(.b 0,15)],.p [(6,14)]]))))))
(.ret (.au []) [(.b 0,11),(2,5),(6,12)]))))))
theorem OA:tree Tryz.prog {hv:=[(0,[.b 0,.a 6])],vt:=[.b 0]} Tryz.f264 [.ptr 0 0,.s 2,.val 6] [(.b 0,1),(2,5),(6,7)] 8=SR:=by kernel_rfl
def SS:T:=
(.call 129 [.ptr 0 0,.a (.int .u64 (.o1 (.wrap .u64) (.of 3))),.k 4] [(.b 0,1)] [.p] (.au []) [(.b 0,8)]
(.read (.binOp .eql 329 (.tmp 13) (.const .nilFunc) 329) 4 [(13,.val 6)] [(6,7)] [.c] (.bool 9)
(.br 9
(.ret (.au []) [(.b 0,8),(2,5),(6,7)])
(.loop [.i,.p,.p] [.z (.i 0),.p [(.b 0,8)],.p [(6,7)]]
(.br (.lt 10 (.of 3))
(.need (.le (.i 0) 10)
(.need (.is 2)
  (.ld 71 19 (.aW 2 10 1 0) [(2,5)] [.a,.n,.n] (.s 13)
  (.jw 6 [.ptr 0 0,.s 13] [(6,12),(.b 0,11),(2,5)] [.p,.p] (.au []) [(6,16),(.b 0,17),(2,5)]
  (.rg (.add 10 (.i 1))
(.again 0 [.z (.add 10 (.i 1)),.p [(.b 0,17)],.p [(6,16)]]))))))
(.ret (.au []) [(.b 0,11),(2,5),(6,12)]))))))
theorem OB:tree Tryz.prog {hv:=[(0,[.b 0,.a 6])],vt:=[.b 0]} Tryz.f262 [.ptr 0 0,.s 2,.val 6] [(.b 0,1),(2,5),(6,7)] 8=SS:=by kernel_rfl
def Mo:T:=
(.new
(.new
(.call 97 [.ptr 0 0,2] [(.b 0,1)] [.i,.p] 7 [(.b 0,8)]
(.new
(.call 318 [.ptr 0 0,7] [(.b 0,8)] [.v,.p] (.val 10) [(10,11),(.b 0,8)]
(.new
(.mF (.val 10) [(10,11)] [(.b 0,13)] [.p,.a,.n,.n,.p] [.p [(.b 0,8)],.a .nil,.e (.cQ (.n 0) (.n 0)),.e (.cQ (.n 0) (.n 0)),.p []] [.i] [18] []
(.call 292 [.ptr 0 0] [(.b 0,13)] [.i,.p] 19 [(.b 0,20)]
(.new
(.op (.call ⟨.builtin .append,#[.tmp 18,.tmp 22],#[71,71]⟩) 71 [(18,.s 14),(22,.sl (.b 21 0) (.n 1) (.n 1))] [(14,17),(.b 21,.cells [19] 3)] [.a,.n,.n,.p] (.s 22) [(22,25),(.b 21,.cells [19] 3)]
(.again 0 [.p [(.b 0,20)],.a 22,.e (.cQ 23 (.n 0)),.e (.cQ 24 (.n 0)),.p [(22,25)]]))))
 (.ld 4 26 (.ptr 0 1) [(.b 0,13)] [.c] (.bool 18)
(.br 18
(.ret .z [(.b 0,13)])
(.ret (.s 14) [(.b 0,13),(14,17)]))))))))))
theorem IZ:tree Tryz.prog {hv:=[(0,[.b 0,.b 9])],aB:=[318],iB:=[(318,0)],shr:=[(0,[.b 0])],Zj:=[(0,[3])]} Tryz.f291 [.ptr 0 0,2,.a (.func 292 [])] [(.b 0,1)] 5=Mo:=by kernel_rfl
def Mp:T:=
(.new
(.new
(.call 97 [.ptr 0 0,2] [(.b 0,1)] [.i,.p] 7 [(.b 0,8)]
(.new
(.call 318 [.ptr 0 0,7] [(.b 0,8)] [.v,.p] (.val 10) [(10,11),(.b 0,8)]
(.new
(.mF (.val 10) [(10,11)] [(.b 0,13)] [.p,.a,.n,.n,.p] [.p [(.b 0,8)],.a .nil,.e (.cQ (.n 0) (.n 0)),.e (.cQ (.n 0) (.n 0)),.p []] [.i] [18] []
(.call 290 [.ptr 0 0] [(.b 0,13)] [.a,.n,.n,.p,.p] (.s 19) [(19,22),(.b 0,23)]
(.new
(.op (.call ⟨.builtin .append,#[.tmp 18,.tmp 22],#[27,27]⟩) 27 [(18,.s 14),(22,.sl (.b 24 0) (.n 1) (.n 1))] [(14,17),(.b 24,.cells [.s 19] 71),(19,22)] [.a,.n,.n,.p] (.s 25) [(25,28),(.b 24,.cells [.s 19] 71),(19,22)]
(.again 0 [.p [(.b 0,23)],.a 25,.e (.cQ 26 (.n 0)),.e (.cQ 27 (.n 0)),.p [(25,28)]]))))
 (.ld 4 26 (.ptr 0 1) [(.b 0,13)] [.c] (.bool 18)
(.br 18
(.ret .z [(.b 0,13)])
(.ret (.s 14) [(.b 0,13),(14,17)]))))))))))
theorem I0:tree Tryz.prog {hv:=[(0,[.b 0,.b 9])],aB:=[318],iB:=[(318,0)],shr:=[(0,[.b 0])],Zj:=[(0,[3])]} Tryz.f289 [.ptr 0 0,2,.a (.func 290 [])] [(.b 0,1)] 5=Mp:=by kernel_rfl
def D6:T:=
(.call 57 [.ptr 0 0] [(.b 0,1)] [.i,.p] (.w (.a (.int .u8 2))) [(.b 0,3)]
(.rg 2
(.ret 2 [(.b 0,3)])))
theorem D7:tree Tryz.prog {} Tryz.f292 [.ptr 0 0] [(.b 0,1)] 2=D6:=by kernel_rfl
def D8:T:=
(.call 291 [.ptr 0 0,.k 7,.a (.func 292 [])] [(.b 0,1)] [.a,.n,.n,.p,.p] (.s 2) [(2,5),(.b 0,6)]
(.ret (.s 2) [(.b 0,6),(2,5)]))
theorem D9:tree Tryz.prog {} Tryz.f290 [.ptr 0 0] [(.b 0,1)] 2=D8:=by kernel_rfl
def Mq:T:=
(.new
(.call 134 [.s 0] [(0,3)] [.a,.n,.n,.p,.i,.p] (.au [.s 5,9]) [(5,8),(0,10)]
(.br (.not (.eq 9 (.i 0)))
(.ret (.au [.agg [.k 0,.z],.k 3]) [(0,10)])
(.call 56 [.s 5] [(5,8)] [.n,.p,.p] (.ptr 11 0) [(.b 11,12),(5,13)]
(.call 95 [.ptr 11 0,.k 4] [(.b 11,12)] [.i,.p] (.w (.a (.int .u64 14))) [(.b 11,15)]
(.new
(.call 289 [.ptr 11 0,.k 7,.a (.func 290 [])] [(.b 11,15)] [.a,.n,.n,.p,.p] (.s 17) [(17,20),(.b 11,21)]
(.call 60 [.ptr 11 0] [(.b 11,21)] [.i,.p] 22 [(.b 11,23)]
(.br (.not (.eq 22 (.i 0)))
(.ret (.au [.agg [.k 0,.z],.k 3]) [(0,10)])
(.call 259 [.agg [.int .i64 (.o1 (.wrap .i64) 14),.s 17]] [(17,20)] [.c,.p] (.bool 24) [(17,25)]
(.br (.not 24)
(.ret (.au [.agg [.k 0,.z],.k 3]) [(0,10)])
(.ret (.au [.agg [.int .i64 (.o1 (.wrap .i64) 14),.s 17],.k 0]) [(0,10),(17,25)]))))))))))))
theorem I1:tree Tryz.prog {} Tryz.f229 [.s 0] [(0,3)] 4=Mq:=by kernel_rfl
end RX
section
open RX
structure iZ where
 a:Option Addr
 c:Nat
 l:List Int
def fu:qg iZ:=⟨1,by decide,λx=>[.slice x.a x.l.length x.c],λ_=>rfl,λx=>pp x.a x.l.length x.l,λ_ _ _ _ H=>H⟩
theorem o9:∀x,∀u∈fu.aA x,u.oneCell'=true:=λx u hu=>by
 obtain rfl:=List.mem_singleton.1 hu;rfl
abbrev wj:PK iZ:=sC fu 71 o9
theorem ql:(Tryz.prog.info? 71).map (λi=>(i.zero,i.size,i.bytes))=some (some (.slice none 0 0),1,24):=by kernel_rfl
theorem zl:Tryz.prog.underlying 27=some (.slice 71):=by kernel_rfl
theorem pI:gF Tryz.prog 71=false:=by kernel_rfl
theorem yf:gr Tryz.prog 71=1:=by kernel_rfl
theorem ldC{S:HP}{a:Option Addr}{n:Nat}{es:List iZ}(hS:∀R h,S.p R h->(Ls fu a n es).p R h){k:Nat}{x:iZ}(hk:es[k]? =some x):
 aH Tryz.prog (bG 71 (.pointer (a.map λy=>(y.add ((k:Int).toNat*1)).add 0))) S (.slice x.a x.l.length x.c):=
 aH.aV (.of hS) (Ls.acM (K:=fu) (off:=0) kE pI yf hk rfl)
theorem ldI{S:HP}{a:Option Addr}{l:List Int}{k:Nat}{x:Int}(r:Rd S a (l.map dN))(hk:l[k]? =some x):
 aH Tryz.prog (bG 3 (.pointer (a.map λy=>(y.add ((k:Int).toNat*1)).add 0))) S (.int .i64 x):=
 b7 pE A7 L7 r (k:=(k:Int).toNat*1) (off:=0) (by simp[hk,dN])
theorem Ls.mem{α:Type}{K:qg α}{a:Option Addr}{n:Nat}{l:List α}{R h:PH}(H:(Ls K a n l).p R h){x:α}(hx:x∈l):(K.hp x).p R h:=H.2.2 x hx
theorem ST(a:Option Addr)(n c:Nat)(l:List Int)(S:HP)(b:Option Addr)(m c2:Nat)(q:List Int)(hr:bR S b m (q.map dN))(hm:q.length=m)(Yk:b.isSome=true)(hb:n+m<=1000000000):
 aI Tryz.prog (kj 71 71 (.slice a n c) (.slice b m c2)) (HP.an (o5 a n c l) S)
  (λv=>HP.ex λa'=>HP.ex λc'=>HP.and (v=.slice a' (n+m) c') (HP.an (o5 a' (n+m) c' (l++q)) S)):=by
 cases b with
 |some ad=>exact o6 a n c l S ad m c2 q hr.rd hm hb
 |none=>cases Yk
theorem zm(S:HP)(a:Option Addr)(n c:Nat)(l:List Int)(hr:bR S a n (l.map dN))(hl:l.length=n)(hb:n<=1000000000):
 ax Tryz.prog 70 #[.slice a n c] S (λv=>HP.ex λa'=>HP.ex λc'=>HP.and (v=.slice a' n c') (HP.an (o5 a' n c' l) S)):=by
 refine ah (ρ:=[.a a,.n n,.n c,.p S]) mixed Tryz.func70 DS ?_
 unfold DR
 refine cg ?_
 refine⟨λha=>.of λR h H=>?_,λha x=>?_⟩
 ·have hn:n=0:=hr.none R h H (by simpa using ha)
  subst hn
  obtain rfl:l=[]:=List.eq_nil_of_length_eq_zero hl
  exact⟨none,0,rfl,HP.aM H|>λH=>HP.ae H (λx _=>cp.nil _ _ R x) λ_ h=>h⟩
 ·refine(ST (some ⟨x,0,none⟩) 0 0 [] S a n c l hr hl (by simpa[Option.isSome_iff_ne_none]using ha) (by omega)).ak (λR h H=>HP.ae H (λy hy=>⟨rfl,.inr ⟨x,#[],rfl,hy,Nat.le_refl _,by unfold maxLen;omega,rfl,rfl⟩⟩) λ_ h=>h) ?_
  rintro v R h ⟨a',c',rfl,H⟩
  rw[Nat.zero_add,List.nil_append]at H
  exact⟨a',n,c',o5 a' n c' l,by rw[Nat.zero_add],.of λR' h' H'=>⟨a',c',rfl,HP.ao H'⟩,H⟩
theorem qm(S:HP)(a:Option Addr)(n c:Nat)(l:List Int)(hr:bR S a n (l.map dN))(hl:l.length=n)(hb:n<=1000000000):
 ax Tryz.prog 70 #[.slice a n c] S (λv=>HP.ex λa'=>HP.ex λc'=>HP.and (v=.slice a' n c') (HP.an (pp a' n l) S)):=
 (zm S a n c l hr hl hb).post λv=>λR h d ⟨a',c',e,H⟩=>by
   obtain⟨R1,h1,q1,q2,q3,q4,H1⟩:=(HP.aV.an (cp.ez _ _ _ _ _ _) S) R h d H
   exact⟨R1,h1,q1,q2,q3,q4,a',c',e,H1⟩
theorem OC{α:Type}{K:qg α}{l:List α}{R:PH}(H:∀x∈l,∀h,(K.hp x).p R h)(h:PH):(aX (l.map K.hp)).p R h:=by
 induction l generalizing h with
 |nil=>trivial
 |cons x r ih=>exact bE.2 ⟨PH.cz,h,PH.dY _,PH.cT _,PH.le.refl _,H x (by simp) _,ih (λy hy=>H y (by simp[hy])) h⟩
theorem zn(S:HP)(a:Option Addr)(n c:Nat)(es:List iZ)(hS:∀R h,S.p R h->(Ls fu a n es).p R h)(hb:n<=1000000000):
 ax Tryz.prog 69 #[.slice a n c] S (λv=>HP.ex λa'=>HP.ex λc'=>HP.and (v=.slice a' n c') (HP.an (PL wj a' n c' es) S)):=by
 refine ax.bV (φ:=es.length=n/\(n≠0->a.isSome=true)) (λR h H=>⟨(hS R h H).1,λhn=>bb.some (hS R h H).2.1 (by omega)⟩) λ⟨hl,hs⟩=>?_
 refine ah (ρ:=[.a a,.n n,.n c,.p S]) mixed Tryz.func69 DU ?_
 unfold DT
 refine cg ?_
 refine⟨λha=>.of λR h H=>?_,λha x=>?_⟩
 ·have hn:n=0:=Classical.byContradiction λhn=>ha (hs hn)
  subst hn
  obtain rfl:es=[]:=List.eq_nil_of_length_eq_zero hl
  exact⟨none,0,rfl,HP.aM H|>λH=>HP.ae H (λx _=>PL.nX _ R x) λ_ h=>h⟩
 ·cases a with
  |none=>simp at ha
  |some ad=>
   obtain⟨i,hi,h1,h2,h3⟩:=info_parts ql
   have:=fG 27 27 71 i (.slice none 0 0) zl hi h1 (by rw[h2];rfl) (by omega) (some ⟨x,0,none⟩) 0 0 [] S ad n c (es.flatMap fu.aA) (Rd.nU (Ls.rd (K:=fu)) hS) (by rw[en fu.aA 1 fu.len,hl,h2]) (λu hu=>by
    obtain⟨y,_,hy⟩:=List.mem_flatMap.1 hu;exact o9 y u hy) (by unfold maxLen;omega) (by rw[h3];omega)
   rw[h2]at this
   refine this.ak (λR h H=>HP.ae H (λy hy=>⟨by simp,.inr ⟨x,#[],rfl,hy,Nat.le_refl _,by unfold maxLen;omega,rfl,rfl⟩⟩) λ_ h=>h) ?_
   rintro v R h ⟨a',c',rfl,H⟩
   rw[Nat.zero_add,List.nil_append]at H
   have hro:=hS R _ (HP.ai H)
   refine⟨a',n,c',PL wj a' n c' es,by rw[Nat.zero_add],.of λR' h' H'=>⟨a',c',rfl,HP.ao H'⟩,HP.ae H (λy hy=>⟨hl,HP.ao ⟨PH.cz,y,PH.dY _,PH.cT _,PH.le.refl _,OC (K:=fu) (λz hz _=>hro.2.2 z hz) _,hy⟩⟩) λ_ h=>h⟩
set_option maxHeartbeats 1000000 in
theorem OE(S:HP)(a:Option Addr)(n c:Nat)(l:List Int)(hr:bR S a n (l.map dN))(hl:l.length=n)(hn:n<=1000000000)(x:Int):
 ax Tryz.prog 308 #[.slice a n c,.int .i64 x] S (λv=>HP.ex λr:Int=>HP.and (v=.int .i64 r/\(0<=r↔x∈l)) S):=by
 refine ax.bV (φ:=a=none->n=0) (λR h H=>hr.none R _ H) λsx=>?_
 refine ah (ρ:=[.a a,.n n,.n c,.p S,.i x]) mixed Tryz.func308 DX ?_
 unfold DW
 refine cg ?_
 refine⟨λ_ i=>∃k:Nat,i=k/\k<=n/\x∉l.take k,λ_ i=>n - i.toNat,⟨0,rfl,Nat.zero_le _,by simp⟩,?_⟩
 rintro _ _ ⟨k,rfl,hk,hall⟩
 refine⟨λhlt=>⟨by omega,λ_=>⟨?_,λ_=>?_⟩⟩,λlN=>.of λR h H=>⟨-1,⟨rfl,?_⟩,H⟩⟩
 ·cases a with
  |none=>have:=sx rfl;omega
  |some _=>rfl
 ·have kW:k<l.length:=by omega
  refine⟨l[k],ldI hr.rd (List.getElem?_eq_getElem kW),λhe=>.of λR h H=>⟨k,⟨rfl,⟨λ_=>by rw[he];exact List.getElem_mem kW,λ_=>by omega⟩⟩,H⟩,λhe=>⟨aK _ (by omega) (by omega),λ_=>⟨⟨k+1,by omega,by omega,?_⟩,by dsimp only;omega⟩⟩⟩
  rw[List.take_succ_eq_append_getElem kW]
  simp only[List.mem_append,List.mem_singleton,not_or]
  exact⟨hall,he⟩
 ·have:k=l.length:=by omega
  rw[this,List.take_length]at hall
  exact⟨λh=>by omega,λh=>absurd h hall⟩
theorem rc(S:HP)(a:Option Addr)(n c:Nat)(l:List Int)(hr:bR S a n (l.map dN))(hl:l.length=n)(hn:n<=1000000000)(x:Int):
 ax Tryz.prog 261 #[.slice a n c,.int .i64 x] S (λv=>HP.and (v=.bool (decide (x∈l))) S):=by
 refine ah (ρ:=[.a a,.n n,.n c,.p S,.i x]) mixed Tryz.func261 wi ?_
 unfold tM
 refine cg ?_
 refine(OE S a n c l hr hl hn x).ak (λ_ _ h=>h) ?_
 rintro v R h ⟨r,⟨rfl,tL⟩,H⟩
 exact⟨r,rfl,.of λR h H=>⟨by simp[tL],H⟩,H⟩
set_option maxHeartbeats 1000000 in
theorem wl(S Q:HP)(a:Option Addr)(n c:Nat)(l:List Int)(hr:bR S a n (l.map dN))(hlen:l.length=n)(hn:n<=1000000000)(fv:Value)(h1:dZ fv=fv)(p:Int->Bool)
 (hf:∀x∈l,iu Tryz.prog fv #[.int .i64 x] Q λv=>HP.and (v=.bool (p x)) Q):
 ax Tryz.prog 50 #[.slice a n c,fv] (HP.an S Q) (λv=>HP.ex λr:Int=>HP.and (v=.int .i64 r/\((r= -1/\∀x∈l,p x=false)\/∃k:Nat,r=k/\(∀(j:Nat) (x:Int),j<k->l[j]? =some x->p x=false)/\∃x,l[k]? =some x/\p x=true)) (HP.an S Q)):=by
 refine ax.bV (φ:=l.length=n/\(n≠0->a.isSome=true)) (λR h H=>⟨hlen,λhn=>Option.isSome_iff_ne_none.2 λe=>hn (hr.none R _ (HP.aj H) e)⟩) λ⟨hl,hs⟩=>?_
 have:=ah (ρ:=[.a a,.n n,.n c,.p S,.v fv,.p Q]) mixed Tryz.func50 (t:=sH) (post:=λv=>HP.ex λr:Int=>HP.and (v=.int .i64 r/\((r= -1/\∀x∈l,p x=false)\/∃k:Nat,r=k/\(∀(j:Nat) (x:Int),j<k->l[j]? =some x->p x=false)/\∃x,l[k]? =some x/\p x=true)) (HP.an S Q)) Bp ?_
 ·simpa[W.den,RX.A.den,SA.den,E.den,RX.look,h1,bg,dB]using this
 unfold sH
 simp only[T.den,E.prop,E.den,RX.look,F1.app,F2.app,aP.dH,aP.dP,aP.cr,aP.eQ,aP.e9,aP.fw,aP.ju,bg,dB,V.den,W.den,A.den,BR.den,SA.den,FV.den,iX,nF,nK,fj,g5.app,List.map_cons,List.map_nil,List.cons_append,List.nil_append,List.drop_succ_cons,List.drop_zero,List.length_cons,List.length_nil,Nat.zero_add,Nat.reduceAdd,Int.neg_neg,Bool.not_not,List.append_nil,Nat.add_zero,List.getElem?_cons_zero,List.getElem?_cons_succ,Decidable.not_not,cu,ne_eq,Nat.reduceEqDiff,not_false_eq_true,h1]
 refine⟨λ_ i P=>∃k:Nat,i=k/\k<=n/\Q=P/\∀(j:Nat) (x:Int),j<k->l[j]? =some x->p x=false,λ_ i _=>n - i.toNat,⟨0,rfl,Nat.zero_le _,rfl,λq x h=>by omega⟩,?_⟩
 rintro _ _ _ ⟨k,rfl,hk,rfl,hall⟩
 refine⟨λhlt=>⟨by omega,λ_=>⟨hs (by omega),λ_=>?_⟩⟩,λlN=>.of λR h H=>⟨-1,⟨rfl,.inl ⟨rfl,λx hx=>?_⟩⟩,H⟩⟩
 ·have kW:k<l.length:=by omega
  obtain⟨x,hx⟩:∃x,l[k]? =some x:=⟨l[k],List.getElem?_eq_getElem kW⟩
  refine⟨x,ldI hr.rd hx,?_⟩
  refine(hf x (List.mem_of_getElem? hx)).ak (λ_ _ h=>h) ?_
  rintro v R h ⟨rfl,H⟩
  refine⟨p x,Q,rfl,⟨λhp=>.of λR h H=>⟨k,⟨rfl,.inr ⟨k,rfl,hall,x,hx,hp⟩⟩,H⟩,λhp=>⟨aK _ (by omega) (by omega),λ_=>⟨⟨k+1,by omega,by omega,rfl,λq y hq hy=>?_⟩,by dsimp only;omega⟩⟩⟩,H⟩
  rcases Nat.lt_or_ge q k with h|h
  ·exact hall q y h hy
  ·obtain rfl:q=k:=by omega
   rw[hx]at hy;cases hy
   simpa using hp
 ·obtain⟨q,hq,rfl⟩:=List.mem_iff_getElem.1 hx
  exact hall q l[q] (by omega) (List.getElem?_eq_getElem hq)
set_option maxHeartbeats 1000000 in
theorem I2(S Q:HP)(a:Option Addr)(n c:Nat)(l:List iZ)(hS:∀R h,S.p R h->(Ls fu a n l).p R h)(hn:n<=1000000000)(fv:Value)(h1:dZ fv=fv)(p:iZ->Bool)
 (hf:∀x∈l,iu Tryz.prog fv #[.slice x.a x.l.length x.c] (HP.an Q S) λv=>HP.and (v=.bool (p x)) (HP.an Q S)):
 ax Tryz.prog 365 #[.slice a n c,fv] (HP.an S Q) (λv=>HP.ex λr:Int=>HP.and (v=.int .i64 r/\((r= -1/\∀x∈l,p x=false)\/∃k:Nat,r=k/\(∀(j:Nat) (x:iZ),j<k->l[j]? =some x->p x=false)/\∃x,l[k]? =some x/\p x=true)) (HP.an S Q)):=by
 refine ax.bV (φ:=l.length=n/\(n≠0->a.isSome=true)) (λR h H=>⟨(hS R _ (HP.aj H)).1,λhn=>bb.some (hS R _ (HP.aj H)).2.1 (by omega)⟩) λ⟨hl,hs⟩=>?_
 have:=ah (ρ:=[.a a,.n n,.n c,.p S,.v fv,.p Q]) mixed Tryz.func365 (t:=sI) (post:=λv=>HP.ex λr:Int=>HP.and (v=.int .i64 r/\((r= -1/\∀x∈l,p x=false)\/∃k:Nat,r=k/\(∀(j:Nat) (x:iZ),j<k->l[j]? =some x->p x=false)/\∃x,l[k]? =some x/\p x=true)) (HP.an S Q)) Bq ?_
 ·simpa[W.den,RX.A.den,SA.den,E.den,RX.look,h1,bg,dB]using this
 unfold sI
 simp only[T.den,E.prop,E.den,RX.look,F1.app,F2.app,aP.dH,aP.dP,aP.cr,aP.eQ,aP.e9,aP.fw,aP.ju,bg,dB,V.den,W.den,A.den,BR.den,SA.den,FV.den,iX,nF,nK,fj,g5.app,List.map_cons,List.map_nil,List.cons_append,List.nil_append,List.drop_succ_cons,List.drop_zero,List.length_cons,List.length_nil,Nat.zero_add,Nat.reduceAdd,Int.neg_neg,Bool.not_not,List.append_nil,Nat.add_zero,List.getElem?_cons_zero,List.getElem?_cons_succ,Decidable.not_not,cu,ne_eq,Nat.reduceEqDiff,not_false_eq_true,h1]
 refine⟨λ_ i P=>∃k:Nat,i=k/\k<=n/\Q=P/\∀(j:Nat) (x:iZ),j<k->l[j]? =some x->p x=false,λ_ i _=>n - i.toNat,⟨0,rfl,Nat.zero_le _,rfl,λq x h=>by omega⟩,?_⟩
 rintro _ _ _ ⟨k,rfl,hk,rfl,hall⟩
 refine⟨λhlt=>⟨by omega,λ_=>⟨hs (by omega),λ_=>?_⟩⟩,λlN=>.of λR h H=>⟨-1,⟨rfl,.inl ⟨rfl,λx hx=>?_⟩⟩,H⟩⟩
 ·have kW:k<l.length:=by omega
  obtain⟨x,hx⟩:∃x,l[k]? =some x:=⟨l[k],List.getElem?_eq_getElem kW⟩
  refine⟨x.a,x.l.length,x.c,ldC hS hx,?_⟩
  refine(hf x (List.mem_of_getElem? hx)).ak (λ_ _ h=>h) ?_
  rintro v R h ⟨rfl,H⟩
  refine⟨p x,Q,rfl,⟨λhp=>.of λR h H=>⟨k,⟨rfl,.inr ⟨k,rfl,hall,x,hx,hp⟩⟩,H⟩,λhp=>⟨aK _ (by omega) (by omega),λ_=>⟨⟨k+1,by omega,by omega,rfl,λq y hq hy=>?_⟩,by dsimp only;omega⟩⟩⟩,H⟩
  rcases Nat.lt_or_ge q k with h|h
  ·exact hall q y h hy
  ·obtain rfl:q=k:=by omega
   rw[hx]at hy;cases hy
   simpa using hp
 ·obtain⟨q,hq,rfl⟩:=List.mem_iff_getElem.1 hx
  exact hall q l[q] (by omega) (List.getElem?_eq_getElem hq)
theorem yg(S Q:HP)(a:Option Addr)(n c:Nat)(l:List iZ)(hS:∀R h,S.p R h->(Ls fu a n l).p R h)(hn:n<=1000000000)(fv:Value)(h1:dZ fv=fv)(p:iZ->Bool)
 (hf:∀x∈l,iu Tryz.prog fv #[.slice x.a x.l.length x.c] (HP.an Q S) λv=>HP.and (v=.bool (p x)) (HP.an Q S)):
 ax Tryz.prog 333 #[.slice a n c,fv] (HP.an S Q) (λv=>HP.and (v=.bool (l.any p)) (HP.an S Q)):=by
 have:=ah (ρ:=[.a a,.n n,.n c,.p S,.v fv,.p Q]) mixed Tryz.func333 (t:=mQ) (post:=λv=>HP.and (v=.bool (l.any p)) (HP.an S Q)) uA ?_
 ·simpa[W.den,RX.A.den,SA.den,E.den,RX.look,h1,bg,dB]using this
 unfold mQ
 simp only[T.den,E.prop,E.den,RX.look,F1.app,F2.app,aP.dH,aP.dP,aP.cr,aP.eQ,aP.e9,aP.fw,aP.ju,bg,dB,V.den,W.den,A.den,BR.den,SA.den,FV.den,iX,nF,nK,fj,g5.app,List.map_cons,List.map_nil,List.cons_append,List.nil_append,List.drop_succ_cons,List.drop_zero,List.length_cons,List.length_nil,Nat.zero_add,Nat.reduceAdd,Int.neg_neg,Bool.not_not,List.append_nil,Nat.add_zero,List.getElem?_cons_zero,List.getElem?_cons_succ,Decidable.not_not,cu,ne_eq,Nat.reduceEqDiff,not_false_eq_true,h1]
 refine(I2 S Q a n c l hS hn fv h1 p hf).ak (λ_ _ h=>h) ?_
 rintro v R h ⟨r,⟨rfl,tL⟩,H⟩
 refine⟨r,S,Q,rfl,.of λR h H=>⟨?_,H⟩,H⟩
 congr 1
 rcases tL with⟨rfl,hall⟩|⟨k,rfl,_,x,hx,hp⟩
 ·have:l.any p=false:=by rw[List.any_eq_false];exact λx hx=>by rw[hall x hx];decide
  rw[this];rfl
 ·have:l.any p=true:=List.any_eq_true.2 ⟨x,List.mem_of_getElem? hx,hp⟩
  rw[this];simp
def OF(f:Nat->Bool):List Value:=(List.range 7).map λk=>.bool (f k)
theorem mS(f:Nat->Bool){k:Nat}(h:k<7):(OF f)[k]? =some (.bool (f k)):=by
 unfold OF
 rw[List.getElem?_map,List.getElem?_range h];rfl
theorem dw(f:Nat->Bool):(OF f).length=7:=by simp[OF]
def eT(f:Nat->Bool)(k:Nat)(b:Bool)(j:Nat):Bool:=if j=k then b else f j
theorem Bv(f:Nat->Bool){k:Nat}(h:k<7)(b:Bool):(OF f).set k (.bool b)=OF (eT f k b):=by
 refine List.ext_getElem? λj=>?_
 rw[List.getElem?_set,dw]
 by_cases hj:j<7
 ·rw[mS _ hj,mS _ hj]
  unfold eT
  by_cases e:k=j
  ·subst e;rw[if_pos rfl,if_pos h,if_pos rfl]
  ·rw[if_neg e,if_neg (Ne.symm e)]
 ·rw[List.getElem?_eq_none (by rw[dw];omega)]
  by_cases e:k=j
  ·omega
  ·rw[if_neg e,List.getElem?_eq_none (by rw[dw];omega)]
theorem pJ:Tryz.prog.underlying 224=some (.array 7 4):=by kernel_rfl
theorem tN:(Tryz.prog.info? 4).isSome=true:=by kernel_rfl
theorem I3:(Tryz.prog.info? 4).map (λi=>(i.zero,i.size,i.bytes))=some (some (.bool false),1,1):=by kernel_rfl
structure rf where
 ep:Int
 ch:List (List Int)
 deriving DecidableEq
def cH(p:rf):Bool:=decide (0<=p.ep/\p.ep<=2147483647/\1<=p.ch.length/\p.ch.length<=7/\(∀c∈p.ch,c≠[])/\(∀u∈p.ch.flatten,0<=u/\u<7)/\p.ch.flatten.Nodup)
def Pl7(b:Nat)(f:Nat->Bool):HP:=HP.one b (.cells (OF f).toArray 224 (0,0))
theorem Z4{b:Nat}{f:Nat->Bool}{P:HP}(hP:HP.aV P (Pl7 b f)){k:Nat}(hk:k<7):aH Tryz.prog (bG 4 (.pointer (some ⟨b,0+k,none⟩))) P (.bool (f k)):=by
 rw[Nat.zero_add]
 exact aH.aV (hP.trans (.of λR h H=>HP.az H)) (Sq (Q:=HP.tt) DE DF uz (by simpa using mS f hk))
theorem Z5{b:Nat}{f:Nat->Bool}{P:HP}(hP:HP.aV P (Pl7 b f)){k:Nat}(hk:k<7):aI Tryz.prog (bH 4 (.pointer (some ⟨b,0+k,none⟩)) (.bool true)) P (λv=>HP.and (v=.tuple #[]) (Pl7 b (eT f k true))):=by
 obtain⟨i,hi,h1,h2,h3⟩:=info_parts I3
 rw[Nat.zero_add]
 refine(Sr (cs':=(OF (eT f k true)).toArray) hi h2 rfl rfl (by simp[dw];exact hk) (by rw[<-Bv f hk];simp) HP.tt).be (K:=HP.tt) (hP.trans (.of λR h H=>HP.az (HP.az H))) λv=>.of λR h H=>?_
 obtain⟨e,H⟩:=HP.aj H
 exact⟨e,HP.aj H⟩
def tO(l:List Int)(k:Nat):Bool:=decide ((k:Int)∈l)
theorem rh(es:List iZ)(k:Nat)(h:k<es.length):((es.take (k+1)).map (·.l)).flatten=((es.take k).map (·.l)).flatten++es[k].l:=by
 rw[List.take_succ_eq_append_getElem h,List.map_append,List.flatten_append,List.map_cons,List.map_nil,List.flatten_cons,List.flatten_nil,List.append_nil]
theorem ri(S:HP)(ep:Int)(a:Option Addr)(n c:Nat)(es:List iZ)(hS:∀R h,S.p R h->(Ls fu a n es).p R h)(hb:∀x∈es,x.l.length<=1000000000):
 ax Tryz.prog 259 #[.agg #[.int .i64 ep,.slice a n c]] S (λv=>HP.and (v=.bool (cH ⟨ep,es.map (·.l)⟩)) S):=by
 refine ax.bV (φ:=es.length=n/\(n≠0->a.isSome=true)/\∀x∈es,x.l.length≠0->x.a.isSome=true) (λR h H=>⟨(hS R h H).1,λhn=>bb.some (hS R h H).2.1 (by omega),λx hx hn=>bb.some ((hS R h H).2.2 x hx) (by omega)⟩) λ⟨hl,hs,hse⟩=>?_
 refine ah (ρ:=[.i ep,.a a,.n n,.n c,.p S]) mixed Tryz.func259 Bt ?_
 unfold zj
 simp only[T.den,E.prop,E.den,RX.look,F1.app,F2.app,aP.dH,aP.dP,aP.cr,aP.eQ,aP.e9,aP.fw,aP.ju,bg,dB,V.den,W.den,A.den,BR.den,SA.den,FV.den,iX,nF,nK,fj,g5.app,List.map_cons,List.map_nil,List.cons_append,List.nil_append,List.drop_succ_cons,List.drop_zero,List.length_cons,List.length_nil,Nat.zero_add,Nat.reduceAdd,Int.neg_neg,Bool.not_not,List.append_nil,Nat.add_zero,List.getElem?_cons_zero,List.getElem?_cons_succ,Decidable.not_not,cu,dg,cJ,ne_eq,Nat.reduceEqDiff,not_false_eq_true,l9]
 intro _
 have no:∀ {K:HP},¬(0<=ep/\ep<=2147483647/\1<=(es.map (·.l)).length/\(es.map (·.l)).length<=7/\(∀c∈es.map (·.l),c≠[])/\(∀u∈(es.map (·.l)).flatten,0<=u/\u<7)/\(es.map (·.l)).flatten.Nodup)->HP.aV K S->HP.aV K (HP.and (Value.bool false=.bool (cH ⟨ep,es.map (·.l)⟩)) S):=λh hk=>hk.trans (.of λR h' H=>⟨by unfold cH;rw[decide_eq_false h],H⟩)
 refine⟨λh1=>no (λh=>by omega) (.refl _),λh1=>⟨λh2=>no (λh=>by omega) (.refl _),λh2=>⟨λh3=>no (λh=>by simp at h;omega) (.refl _),λh3=>⟨λh4=>no (λh=>by simp at h;omega) (.refl _),λh4=>?_⟩⟩⟩⟩
 intro b
 refine⟨λ_ i P=>∃k:Nat,i=k/\k<=n/\(∀x∈es.take k,x.l≠[])/\(∀u∈((es.take k).map (·.l)).flatten,0<=u/\u<7)/\((es.take k).map (·.l)).flatten.Nodup/\HP.aV P (Pl7 b (tO ((es.take k).map (·.l)).flatten)),λ_ i _=>n - i.toNat,
  ⟨0,rfl,Nat.zero_le _,by simp,by simp,by simp,.of λR h H=>H⟩,?_⟩
 rintro _ _ P ⟨k,rfl,hk,hne,Z6,po,hP⟩
 refine⟨λhlt=>⟨by omega,λ_=>⟨hs (by omega),λ_=>?_⟩⟩,λlN=>?_⟩
 ·have kW:k<es.length:=by omega
  have hx:es[k]? =some es[k]:=List.getElem?_eq_getElem kW
  have uX:=List.mem_of_getElem? hx
  have hpre:(es.take k).map (·.l)<+:es.map (·.l):=(List.take_prefix k es).map _
  have CJ:((es.take (k+1)).map (·.l)).flatten=((es.take k).map (·.l)).flatten++es[k].l:=rh es k kW
  have p7:∀u,u∈((es.take (k+1)).map (·.l)).flatten->u∈(es.map (·.l)).flatten:=λu hu=>by
   obtain⟨c,hc,hu⟩:=List.mem_flatten.1 hu
   exact List.mem_flatten.2 ⟨c,(((List.take_prefix (k+1) es).map _).subset hc),hu⟩
  have agK:(es.map (·.l)).flatten.Nodup->(((es.take k).map (·.l)).flatten++es[k].l).Nodup:=λh=>by
   rw[<-CJ]
   have e:es.map (·.l)=(es.take (k+1)).map (·.l)++(es.drop (k+1)).map (·.l):=by rw[<-List.map_append,List.take_append_drop]
   rw[e,List.flatten_append]at h
   exact(List.nodup_append.1 h).1
  generalize es[k]=x at*
  refine⟨x.a,x.l.length,x.c,ldC hS hx,λh0=>no (λh=>h.2.2.2.2.1 x.l (List.mem_map.2 ⟨x,uX,rfl⟩) (List.eq_nil_of_length_eq_zero (by omega))) (.refl _),λh0=>?_⟩
  have nq:=hb x uX
  refine⟨λ_ i P=>∃j:Nat,i=j/\j<=x.l.length/\(∀u∈((es.take k).map (·.l)).flatten++x.l.take j,0<=u/\u<7)/\(((es.take k).map (·.l)).flatten++x.l.take j).Nodup/\HP.aV P (Pl7 b (tO (((es.take k).map (·.l)).flatten++x.l.take j))),λ_ i _=>x.l.length - i.toNat,
   ⟨0,rfl,Nat.zero_le _,by simpa using Z6,by simpa using po,by simpa using hP⟩,?_⟩
  rintro _ _ P ⟨j,rfl,hj,Z6,po,hP⟩
  refine⟨λhlt=>⟨by omega,λ_=>⟨hse x uX (by omega),λ_=>?_⟩⟩,λlN=>?_⟩
  ·have Ww:j<x.l.length:=by omega
   have hu:x.l[j]? =some x.l[j]:=List.getElem?_eq_getElem Ww
   have hum:x.l[j]∈(es.map (·.l)).flatten:=p7 _ (by rw[CJ];exact List.mem_append_right _ (List.getElem_mem Ww))
   have Dg:x.l.take (j+1)=x.l.take j++[x.l[j]]:=List.take_succ_eq_append_getElem Ww
   generalize x.l[j]=u at*
   refine⟨u,ldI (Rd.nU (bb.rd 1 x.a x.l.length (x.l.map dN)) λR h H=>(hS R h H).2.2 x uX) hu,λh5=>no (λh=>by have:=h.2.2.2.2.2.1 u hum;omega) (.refl _),λh5=>⟨λh6=>no (λh=>by have:=h.2.2.2.2.2.1 u hum;omega) (.refl _),λh6=>?_⟩⟩
   obtain⟨m,rfl⟩:∃m:Nat,u=m:=⟨u.toNat,by omega⟩
   have hm:m<7:=by omega
   refine⟨.pointer (some ⟨b,0+m,none⟩),vY pJ tN uz rfl hm,tO (((es.take k).map (·.l)).flatten++x.l.take j) m,Z4 hP hm,λh7=>?_,λh7=>?_⟩
   ·refine no (λh=>?_) (.refl _)
    have h8:=agK h.2.2.2.2.2.2
    have h9:(m:Int)∈((es.take k).map (·.l)).flatten++x.l.take j:=by simpa[tO]using h7
    have:x.l=(x.l.take j++[(m:Int)])++x.l.drop (j+1):=by rw[<-Dg,List.take_append_drop]
    rw[this,<-List.append_assoc,<-List.append_assoc]at h8
    have QU:=(List.nodup_append.1 h8).1
    exact(List.nodup_append.1 QU).2.2 _ h9 _ (by simp) rfl
   ·have h7':(m:Int)∉((es.take k).map (·.l)).flatten++x.l.take j:=by simpa[tO]using h7
    refine⟨.pointer (some ⟨b,0+m,none⟩),vY pJ tN uz rfl hm,?_⟩
    refine(Z5 hP hm).ak (λ_ _ h=>h) ?_
    rintro v R h ⟨rfl,H⟩
    refine⟨_,rfl,⟨aK _ (by omega) (by omega),λ_=>⟨⟨j+1,by omega,by omega,?_,?_,.of λR h H=>?_⟩,by dsimp only;omega⟩⟩,H⟩
    ·rw[Dg,<-List.append_assoc]
     intro u hu
     rcases List.mem_append.1 hu with hu|hu
     ·exact Z6 u hu
     ·obtain rfl:=List.mem_singleton.1 hu;omega
    ·rw[Dg,<-List.append_assoc,List.nodup_append]
     exact⟨po,by simp,λa ha b hb e=>by obtain rfl:=List.mem_singleton.1 hb;exact h7' (e▸ha)⟩
    ·have e:eT (tO (((es.take k).map (·.l)).flatten++x.l.take j)) m true=tO (((es.take k).map (·.l)).flatten++x.l.take (j+1)):=by
      funext q
      unfold eT tO
      rw[Dg,<-List.append_assoc]
      by_cases e:q=m
      ·subst e;simp
      ·rw[if_neg e]
       have:(q:Int)≠m:=by omega
       simp[this]
     rw[<-e];exact H
  ·obtain rfl:j=x.l.length:=by omega
   rw[List.take_length]at Z6 po hP
   refine⟨aK _ (by omega) (by omega),λ_=>⟨⟨k+1,by omega,by omega,?_,by rw[CJ];exact Z6,by rw[CJ];exact po,by rw[CJ];exact hP⟩,by dsimp only;omega⟩⟩
   intro y hy
   rw[List.take_add_one,hx]at hy
   rcases List.mem_append.1 hy with hy|hy
   ·exact hne y hy
   ·simp at hy;subst hy;intro e;rw[e]at h0;exact h0 rfl
 ·have:k=es.length:=by omega
  rw[this,List.take_length]at hne Z6 po
  refine .of λR h H=>⟨?_,H⟩
  unfold cH
  rw[decide_eq_true]
  exact⟨show 0<=ep by omega,show ep<=2147483647 by omega,by simp;omega,by simp;omega,λc hc=>by obtain⟨x,hx,rfl⟩:=List.mem_map.1 hc;exact hne x hx,Z6,po⟩
theorem cp.agL{e:TypeId}{size:Nat}{a:Option Addr}{n c:Nat}{xs:List Value}{R h:PH}(H:(cp e size a n c xs).p R h)(k:Nat)(hk:k=0):a.map (·.add k)=a:=by
 subst hk
 rcases H.2 with⟨rfl,h0,_⟩|⟨g,_,rfl,_⟩<;>rfl
theorem stI(a:Option Addr)(n c:Nat)(l:List Int)(hl:l.length=n)(k:Nat)(hk:k<n)(x:Int):
 aI Tryz.prog (bH 3 (.pointer (a.map λy=>(y.add ((k:Int).toNat*1)).add 0)) (.int .i64 x)) (o5 a n c l) (λv=>HP.and (v=.tuple #[]) (o5 a n c (l.set k x))):=by
 obtain⟨i,hi,h1,h2,h3⟩:=info_parts iG
 have:=lX hi 3 1 a n c (l.map dN) (k*1) 0 (.int .i64 x) [dN x] rfl h2 (by simp) (λv hv=>by obtain rfl:=List.mem_singleton.1 hv;rfl) (by simp;omega)
 refine this.ak (λ_ _ h=>h) λv R h ⟨e,H⟩=>⟨e,?_⟩
 have e2:(l.set k x).map dN=(l.map dN).take (k*1+0)++[dN x]++(l.map dN).drop (k*1+0+[dN x].length):=by
  rw[List.map_set,List.set_eq_take_append_cons_drop,if_pos (by simp;omega)]
  simp
 unfold o5
 rw[e2];exact H
set_option maxHeartbeats 2000000 in
theorem I4(Q:HP)(a:Option Addr)(n c:Nat)(zs:List Int)(hn:n<=1000000)(fv:Value)(h1:dZ fv=fv)(p:Int->Bool)(hf:∀x,iu Tryz.prog fv #[.int .i64 x] Q λv=>HP.and (v=.bool (p x)) Q):
 ax Tryz.prog 84 #[.slice a n c,fv] (HP.an (o5 a n c zs) Q)
  (λv=>HP.ex λc'=>HP.and (v=.slice a (zs.filter λx=> !p x).length c') (HP.an (o5 a (zs.filter λx=> !p x).length c' (zs.filter λx=> !p x)) Q)):=by
 refine ax.bV (φ:=zs.length=n/\(n≠0->a.isSome=true)/\(a.map (·.add 0)=a)/\n<=c) (λR h H=>⟨by simpa using cp.len (HP.aj H),λhn=>cp.some (HP.aj H) (Nat.pos_of_ne_zero hn),cp.agL (HP.aj H) 0 rfl,cp.le (HP.aj H)⟩) λ⟨hl,ha,ha0,hc⟩=>?_
 have tr:=ah (ρ:=[.a a,.n n,.n c,.p (o5 a n c zs),.v fv,.p Q]) mixed Tryz.func84 (t:=sK) (post:=(λv=>HP.ex λc'=>HP.and (v=.slice a (zs.filter λx=> !p x).length c') (HP.an (o5 a (zs.filter λx=> !p x).length c' (zs.filter λx=> !p x)) Q))) Bs ?_
 ·simpa[W.den,RX.A.den,SA.den,E.den,RX.look,h1,bg,dB]using tr
 unfold sK
 simp only[T.den,E.prop,E.den,RX.look,F1.app,F2.app,aP.dH,aP.dP,aP.cr,aP.eQ,aP.e9,aP.fw,aP.ju,bg,dB,V.den,W.den,A.den,BR.den,SA.den,FV.den,iX,nF,nK,fj,g5.app,List.map_cons,List.map_nil,List.cons_append,List.nil_append,List.drop_succ_cons,List.drop_zero,List.length_cons,List.length_nil,Nat.zero_add,Nat.reduceAdd,Int.neg_neg,Bool.not_not,List.append_nil,Nat.add_zero,List.getElem?_cons_zero,List.getElem?_cons_succ,Decidable.not_not,cu,dg,cJ,ne_eq,Nat.reduceEqDiff,not_false_eq_true,h1]
 refine(wl (o5 a n c zs) Q a n c zs (bR.ow _ _ _ _ _ _) hl (by omega) fv h1 p λx _=>hf x).ak (λ_ _ h=>h) ?_
 rintro v R h ⟨k0,⟨rfl,hk0⟩,H⟩
 refine⟨k0,o5 a n c zs,Q,rfl,⟨λh=>.of λR h' H=>?_,λh=>?_⟩,H⟩
 ·rcases hk0 with⟨_,hall⟩|⟨j,hj,_⟩
  ·have:(zs.filter λx=> !p x)=zs:=List.filter_eq_self.2 λx hx=>by rw[hall x hx];rfl
   rw[this,hl]
   exact⟨c,rfl,H⟩
  ·omega
 clear H
 obtain⟨j0,rfl,hb,x0,hx0,hj⟩:=hk0.resolve_left (λe=>h e.1)
 have hj0:j0<n:=by have:=(List.getElem?_eq_some_iff.1 hx0).1;omega
 refine⟨aK _ (by omega) (by omega),λ_=>?_⟩
 have f0:(zs.take j0).filter (λx=> !p x)=zs.take j0:=List.filter_eq_self.2 λx hx=>by
  obtain⟨i,hi⟩:=List.mem_iff_getElem?.1 hx
  rw[List.getElem?_take]at hi
  split at hi
  ·rw[hb i x (by assumption) hi];rfl
  ·cases hi
 have SU:∀(j:Nat) (x:Int),zs[j]? =some x->(zs.take (j+1)).filter (λx=> !p x)=(zs.take j).filter (λx=> !p x)++if p x then[]else[x]:=λj x hx=>by
  have hlt:=(List.getElem?_eq_some_iff.1 hx).1
  rw[List.take_succ_eq_append_getElem hlt,List.filter_append]
  rw[List.getElem?_eq_getElem hlt]at hx
  rw[Option.some.inj hx]
  congr 1
  by_cases e:p x=true<;>simp[e]
 refine⟨λi j P Q'=>∃(i' j':Nat) (es:List Int),i=i'/\j=j'/\i'<j'/\j'<=n/\es.length=n/\es.take i'=(zs.take j').filter (λx=> !p x)/\es.drop j'=zs.drop j'/\P=o5 a n c es/\Q=Q',λ_ j _ _=>n - j.toNat,⟨j0,j0+1,zs,rfl,by omega,by omega,by omega,hl,?_,rfl,rfl,rfl⟩,?_⟩
 ·rw[SU j0 x0 hx0,f0,hj];simp
 rintro _ _ _ _ ⟨i,j,es,rfl,rfl,uy,hjn,HQ,ht,hd,rfl,rfl⟩
 refine⟨λhlt=>⟨by omega,λ_=>⟨ha (by omega),λ_=>?_⟩⟩,λlN=>?_⟩
 ·obtain⟨x,hx⟩:∃x,zs[j]? =some x:=⟨_,List.getElem?_eq_getElem (by omega)⟩
  have hex:es[j]? =some x:=by
   have:(es.drop j)[0]? =(zs.drop j)[0]? :=by rw[hd]
   simpa[hx]using this
  have Df:es.drop (j+1)=zs.drop (j+1):=by
   have:=congrArg (List.drop 1) hd
   rwa [List.drop_drop,List.drop_drop]at this
  refine⟨x,ldI (cp.rd _ _ _ _ _ _) hex,?_⟩
  refine(hf x).ak (λ_ _ h=>h) ?_
  rintro v R h ⟨rfl,H⟩
  refine⟨p x,Q,rfl,⟨λh1=>⟨by omega,λ_=>⟨by omega,λ_=>?_⟩⟩,λh1=>⟨aK _ (by omega) (by omega),λ_=>⟨⟨i,j+1,es,rfl,by omega,by omega,by omega,HQ,?_,Df,rfl,rfl⟩,by dsimp only;omega⟩⟩⟩,H⟩
  ·have hok:p x=false:=by simpa using h1
   refine(stI a n c es HQ i (by omega) x).ak (λ_ _ h=>h) ?_
   rintro v R h ⟨rfl,H⟩
   refine⟨o5 a n c (es.set i x),rfl,⟨aK _ (by omega) (by omega),λ_=>⟨aK _ (by omega) (by omega),λ_=>⟨⟨i+1,j+1,es.set i x,by omega,by omega,by omega,by omega,by rw[List.length_set];exact HQ,?_,?_,rfl,rfl⟩,by dsimp only;omega⟩⟩⟩,H⟩
   ·rw[SU j x hx,hok,<-ht]
    rw[List.take_succ_eq_append_getElem (by rw[List.length_set];omega),List.take_set_of_le (Nat.le_refl _)]
    simp
   ·rw[List.drop_set_of_lt (by omega),Df]
  ·have hok:p x=true:=by simpa using h1
   rw[SU j x hx,hok,ht];simp
 ·obtain rfl:j=n:=by omega
  have CJ:(zs.filter λx=> !p x).length=i:=by
   have:=congrArg List.length ht
   rw[List.take_of_length_le (by omega:zs.length<=j),List.length_take]at this
   omega
  have hft:(zs.filter λx=> !p x)=es.take i:=by rw[ht,List.take_of_length_le (by omega:zs.length<=j)]
  obtain⟨i2,hi2,QT,YA,QV⟩:=info_parts iG
  have Ix:∀ys:List Value,ys.take (i*1)=(es.map dN).take (i*1)->∀R h,(cp 3 1 a j c ys).p R h->(o5 a i c (zs.filter λx=> !p x)).p R h:=λys R0 R h H=>by
   have e1:(zs.filter λx=> !p x).map dN=ys.take (i*1):=by
    rw[R0,hft,List.map_take,Nat.mul_one]
   obtain⟨h1,h2⟩:=H
   refine⟨by rw[List.length_map,CJ,Nat.mul_one],?_⟩
   rcases h2 with⟨q1,q2,q3⟩|⟨g,cur,q1,q2,q3,q4,q5,q6⟩
   ·exact .inl ⟨q1,by omega,q3⟩
   ·refine .inr ⟨g,cur,q1,q2,by omega,q4,q5,?_⟩
    rw[e1,<-q6,List.take_take,Nat.min_eq_left (by omega)]
  have rest:∀(ys:List Value),ys.take (i*1)=(es.map dN).take (i*1)->∃(a':Option Addr) (n' c':Nat),aH Tryz.prog (je 71 (.slice a j c) none (some (.int .i64 (i:Int))) none) (cp 3 1 a j c ys) (.slice a' n' c')/\
   HP.aV (HP.an (cp 3 1 a j c ys) Q) (HP.ex λc3=>HP.and (Value.slice a' n' c'=.slice a (zs.filter λx=> !p x).length c3) (HP.an (o5 a (zs.filter λx=> !p x).length c3 (zs.filter λx=> !p x)) Q)):=λys R0=>by
   refine⟨_,_,_,dC kE hi2 _ a j c none (some i) none (Nat.zero_le _) (by simp;omega) (Nat.le_refl _) (λh=>by simp at h),.of λR h H=>⟨c,?_,HP.ae H (λy hy=>?_) λ_ h=>h⟩⟩
   ·simp[CJ,ha0]
   ·rw[CJ];exact Ix ys R0 R _ hy
  have sl1:=dC kE hi2 (o5 a j c es) a j c (some i) none none (by simp;omega) (by simp;omega) (Nat.le_refl _) (λh=>by simp at h)
  have hci:c≠i:=by omega
  have sl2:aH Tryz.prog (je 71 (.slice a j c) (some (.int .i64 (i:Int))) none none) (o5 a j c es) (.slice (a.map (·.add (i*1))) (j - i) (c - i)):=by
   have e:(if(none:Option Nat).getD c=(some i).getD 0 then a else a.map (·.add ((some i).getD 0*gr Tryz.prog 3)))=a.map (·.add (i*1)):=by
    rw[L7,if_neg (by simpa using hci)];rfl
   rw[e]at sl1
   exact sl1
  refine⟨_,_,_,by rw[eH];exact sl2,?_⟩
  rw[mN]
  refine(sD kE hi2 QT (z:=.int .i64 0) (size:=1) rfl (λv hv=>by obtain rfl:=Array.mem_singleton.1 hv;rfl) _ a j c (es.map dN) i (j - i) (c - i) (by omega)).ak (λ_ _ h=>h) ?_
  rintro v R h ⟨ys,⟨rfl,R0⟩,H⟩
  obtain⟨a',n',c',h1,h2⟩:=rest ys R0
  refine⟨_,rfl,⟨a',n',c',by rw[eH];exact h1,?_⟩,H⟩
  exact h2
theorem ac6:tD Tryz.prog 260:=⟨_,Tryz.func260,by kernel_rfl,by kernel_rfl⟩
theorem Z7(bx:Nat)(ta:Option Addr)(tn tc:Nat)(tl:List Int)(D:HP)(hT:bR D ta tn (tl.map dN))(hl:tl.length=tn)(hn:tn<=1000000)(x:Int):
 iu Tryz.prog (.func (.func 260) #[] #[.pointer (some ⟨bx,0,none⟩)]) #[.int .i64 x] (HP.an (HP.one bx (.cells #[.slice ta tn tc] 71 (0,0))) D)
  (λv=>HP.and (v=.bool (!decide (x∈tl))) (HP.an (HP.one bx (.cells #[.slice ta tn tc] 71 (0,0))) D)):=by
 refine .inl ⟨_,_,rfl,ac6,?_⟩
 refine ah (ρ:=[.i x,.n bx,.a ta,.n tn,.n tc,.p D]) mixed Tryz.func260 DZ ?_
 unfold DY
 refine cg ?_
 refine(rc D ta tn tc tl hT hl (by omega) x).ak (λ_ _ h=>h) ?_
 rintro v R h ⟨rfl,H⟩
 refine⟨_,rfl,.of λR h H=>⟨by simp,H⟩,H⟩
theorem Ea(Q:HP)(a:Option Addr)(n c:Nat)(zs:List Int)(hn:n<=1000000)(fv:Value)(h1:dZ fv=fv)(p:Int->Bool)(hf:∀x,iu Tryz.prog fv #[.int .i64 x] Q λv=>HP.and (v=.bool (p x)) Q):
 ax Tryz.prog 84 #[.slice a n c,fv] (HP.an (o5 a n c zs) Q)
  (λv=>HP.ex λc'=>HP.and (v=.slice a (zs.filter λx=> !p x).length c') (HP.an (pp a (zs.filter λx=> !p x).length (zs.filter λx=> !p x)) Q)):=
 (I4 Q a n c zs hn fv h1 p hf).post λv=>λR h d ⟨c',e,H⟩=>by
   obtain⟨R1,h1,q1,q2,q3,q4,H1⟩:=(HP.aV.an (cp.ez _ _ _ _ _ _) Q) R h d H
   exact⟨R1,h1,q1,q2,q3,q4,c',e,H1⟩
def eU(tl c:List Int):List Int:=c.filter λx=>decide (x∈tl)
def gD(p:rf)(tl:List Int):rf×Int:=
 if cH p=false\/p.ep=2147483647 then(⟨0,[]⟩,1)
 else if(p.ch.map (eU tl)).any (λc=>decide (c=[]))then(⟨0,[]⟩,5)
 else(⟨p.ep+1,p.ch.map (eU tl)⟩,0)
theorem OG{p:rf}(h:cH p=true):0<=p.ep/\p.ep<=2147483647:=by
 unfold cH at h
 have:=of_decide_eq_true h
 exact⟨this.1,this.2.1⟩
theorem Wx{l:List iZ}(hx:∀x∈l,x.l.length<=1000000):∀x∈l,x.l.length<=1000000000:=λx h=>by have:=hx x h;omega
set_option maxHeartbeats 1000000 in
theorem OH(S D:HP)(ep:Int)(a:Option Addr)(n c:Nat)(es:List iZ)(hS:∀R h,S.p R h->(Ls fu a n es).p R h)(hb:∀x∈es,x.l.length<=1000000)
 (ta:Option Addr) (tn tc:Nat) (tl:List Int) (hT:bR D ta tn (tl.map dN)) (htl:tl.length=tn) (htn:tn<=1000000):
 ax Tryz.prog 195 #[.agg #[.int .i64 ep,.slice a n c],.slice ta tn tc] (HP.an S D)
  (λv=>HP.ex λa'=>HP.ex λc'=>HP.ex λb9:List iZ=>HP.and (v=.tuple #[.agg #[.int .i64 (gD ⟨ep,es.map (·.l)⟩ tl).1.ep,.slice a' b9.length c'],.int .i64 (gD ⟨ep,es.map (·.l)⟩ tl).2]/\b9.map (·.l)=(gD ⟨ep,es.map (·.l)⟩ tl).1.ch/\∀x∈b9,x.l.length<=1000000)
    (HP.an (Ls fu a' b9.length b9) (HP.an S D))):=by
 refine ax.bV (φ:=es.length=n/\(n≠0->a.isSome=true)) (λR h H=>⟨(hS R _ (HP.aj H)).1,λhn=>bb.some (hS R _ (HP.aj H)).2.1 (by omega)⟩) λ⟨hl,hs⟩=>?_
 refine ah (ρ:=[.i ep,.a a,.n n,.n c,.p S,.a ta,.n tn,.n tc,.p D]) mixed Tryz.func195 D1 ?_
 unfold D0
 refine cg ?_
 have bad:∀ {e:Int} {K:HP},gD ⟨ep,es.map (·.l)⟩ tl=(⟨0,[]⟩,e)->HP.aV K (HP.an S D)->HP.aV K (HP.ex λa'=>HP.ex λc'=>HP.ex λb9:List iZ=>HP.and (Value.tuple #[.agg #[.int .i64 0,.slice none 0 0],.int .i64 e]=.tuple #[.agg #[.int .i64 (gD ⟨ep,es.map (·.l)⟩ tl).1.ep,.slice a' b9.length c'],.int .i64 (gD ⟨ep,es.map (·.l)⟩ tl).2]/\b9.map (·.l)=(gD ⟨ep,es.map (·.l)⟩ tl).1.ch/\∀x∈b9,x.l.length<=1000000)
  (HP.an (Ls fu a' b9.length b9) (HP.an S D))):=λhe hk=>hk.trans (.of λR h H=>⟨none,0,[],⟨by rw[he];rfl,by rw[he];rfl,λx hx=>by cases hx⟩,HP.ao (HP.ae (HP.az H) (λ_ h=>h) λy _=>⟨rfl,bb.nil _ _ _ _,λx hx=>by cases hx⟩)⟩)
 intro _ bx _
 refine(ri S ep a n c es hS (Wx hb)).ak (λ_ _ h=>h) ?_
 rintro v R h ⟨rfl,H⟩
 refine⟨_,rfl,⟨λh1=>bad (if_pos (.inl (by simpa using h1))) (.refl _),λh1=>?_⟩,H⟩
 have lC:cH ⟨ep,es.map (·.l)⟩=true:=by simpa using h1
 have hep:=OG lC
 refine⟨λh2=>bad (if_pos (.inr h2)) (.refl _),λh2=>⟨aK _ (by simp at hep;omega) (by simp at hep;omega),λ_ _=>?_⟩⟩
 clear H
 have hgo:¬(cH ⟨ep,es.map (·.l)⟩=false\/ep=2147483647):=by rw[lC];simp;exact h2
 have hn7:n<=7:=by
  have h7:=(of_decide_eq_true lC).2.2.2.1
  simp at h7;omega
 refine⟨λ_ i e na nn nc P=>∃(k:Nat) (b9:List iZ),i=k/\k<=n/\e=ep+1/\nn=b9.length/\b9.map (·.l)=((es.take k).map (·.l)).map (eU tl)/\(∀x∈b9,x.l≠[]/\x.l.length<=1000000)/\HP.aV P (PL wj na nn nc b9),λ_ i _ _ _ _ _=>n - i.toNat,
  ⟨0,[],rfl,Nat.zero_le _,rfl,rfl,by simp,(λx hx=>by cases hx),.of λR h _=>PL.nX _ R h⟩,?_⟩
 rintro _ _ _ na _ nc P ⟨k,b9,rfl,hk,rfl,rfl,hm,hne,hP⟩
 refine⟨λhlt=>⟨by omega,λ_=>⟨hs (by omega),λ_=>?_⟩⟩,λlN=>?_⟩
 ·have kW:k<es.length:=by omega
  have hx:es[k]? =some es[k]:=List.getElem?_eq_getElem kW
  have uX:=List.mem_of_getElem? hx
  have Dg:((es.take (k+1)).map (·.l)).map (eU tl)=((es.take k).map (·.l)).map (eU tl)++[eU tl es[k].l]:=by
   rw[List.take_succ_eq_append_getElem kW,List.map_append,List.map_append];rfl
  generalize es[k]=x at*
  have nq:=hb x uX
  refine⟨x.a,x.l.length,x.c,ldC hS hx,?_⟩
  refine(zm S x.a x.l.length x.c x.l ⟨Rd.nU (bb.rd 1 x.a x.l.length (x.l.map dN)) λR h H=>(hS R h H).2.2 x uX,λR h H e=>(bR.ro 1 x.a x.l.length (x.l.map dN)).none R h ((hS R h H).2.2 x uX) e⟩ rfl (by omega)).ak (λ_ _ h=>h) ?_
  rintro v R h ⟨a1,c1,rfl,H⟩
  refine⟨a1,_,c1,_,rfl,?_,H⟩
  clear H
  refine(Ea (HP.an (HP.one bx (.cells #[.slice ta tn tc] 71 (0,0))) D) a1 x.l.length c1 x.l nq _ rfl (λy=> !decide (y∈tl)) (Z7 bx ta tn tc tl D hT htl htn)).ak (λ_ _ h=>h) ?_
  rintro v R h ⟨c2,rfl,H⟩
  have hst:(x.l.filter λy=> !!decide (y∈tl))=eU tl x.l:=by unfold eU;congr 1;funext y;simp
  rw[hst]at H⊢
  refine⟨a1,(eU tl x.l).length,c2,pp a1 (eU tl x.l).length (eU tl x.l),HP.tt,rfl,⟨λh0=>?_,λh0 y=>?_⟩,HP.ae H (λ_ h=>h) λ_ h=>HP.aM h⟩
  ·refine bad ?_ (.refl _)
   unfold gD
   rw[if_neg hgo,if_pos]
   rw[List.any_eq_true]
   exact⟨eU tl x.l,List.mem_map.2 ⟨x.l,List.mem_map.2 ⟨x,uX,rfl⟩,rfl⟩,decide_eq_true (List.eq_nil_of_length_eq_zero (by omega))⟩
  ·obtain⟨i,hi,z1,z2,z3⟩:=info_parts ql
   have akE:(eU tl x.l).length<=x.l.length:=List.length_filter_le _ _
   have akF:b9.length<=n:=by
    have:=congrArg List.length hm
    simp at this;omega
   refine(PL.Sp (K:=wj) 27 27 zl hi z1 (by rw[z2];rfl) z2 (by rw[z3];decide) na b9.length nc b9 y ⟨a1,c2,eU tl x.l⟩ (pp a1 (eU tl x.l).length (eU tl x.l)) (by omega)).be (K:=HP.tt) ?_ λv=>.of λR h H=>?_
   ·exact(hP.an _).trans (.of λR h H=>HP.az (HP.ae H (λ_ h=>h) λz hz=>HP.ae hz (λ_ h=>h) λ_ h=>bb.join h h))
   ·obtain⟨a',c',rfl,H2⟩:=HP.aj H
    refine⟨a',b9.length+1,c',PL wj a' (b9.length+1) c' (b9++[⟨a1,c2,eU tl x.l⟩]),rfl,⟨aK _ (by omega) (by omega),λ_=>⟨⟨k+1,b9++[⟨a1,c2,eU tl x.l⟩],by omega,by omega,rfl,by simp,by rw[Dg,List.map_append,hm];rfl,λz hz=>?_,.refl _⟩,by dsimp only;omega⟩⟩,?_⟩
    ·rcases List.mem_append.1 hz with hz|hz
     ·exact hne z hz
     ·obtain rfl:=List.mem_singleton.1 hz
      exact⟨λ(e:eU tl x.l=[])=>by rw[e]at h0;exact h0 rfl,by show(eU tl x.l).length<=1000000;omega⟩
    ·exact H2
 ·have hke:k=es.length:=by omega
  rw[hke,List.take_length]at hm
  have e:gD ⟨ep,es.map (·.l)⟩ tl=(⟨ep+1,(es.map (·.l)).map (eU tl)⟩,0):=by
   unfold gD
   rw[if_neg hgo,if_neg]
   rw[List.any_eq_true]
   rintro⟨c,hc,h0⟩
   rw[<-hm]at hc
   obtain⟨z,hz,rfl⟩:=List.mem_map.1 hc
   exact(hne z hz).1 (of_decide_eq_true h0)
  refine(HP.aV.gZ (.refl _) (HP.aV.gZ (.refl _) (hP.trans (PL.ez _ _ _ _)))).trans (.of λR h H=>⟨na,nc,b9,⟨by rw[e],by rw[e];exact hm,λx hx=>(hne x hx).2⟩,HP.pick [_,_,_] [2,0,1] (by decide) rfl H⟩)
def qn:PK iZ:=⟨71,1,by decide,fu.aA,fu.len,o9,λx=>o5 x.a x.l.length x.c x.l⟩
theorem PL.Wy(a:Option Addr)(n c:Nat)(l:List iZ):HP.aV (PL qn a n c l) (Ls fu a n l):=by
 have key:∀l:List iZ,HP.aV (aX (l.map qn.bf)) (aX (l.map fu.hp)):=λl=>by
  induction l with
  |nil=>exact .refl _
  |cons x r ih=>exact(HP.aV.of λR h H=>bE.1 H).trans (((cp.ez _ _ _ _ _ _).gZ ih).trans (.of λR h H=>bE.2 H))
 refine HP.aV.trans (λR h d H=>?_) (PL.ez (K:=fu) (e:=71) (one:=o9) a n c l)
 obtain⟨R1,h1,q1,q2,q3,q4,H1⟩:=(HP.aV.gZ (.refl (cp 71 1 a n c (l.flatMap fu.aA))) (key l)) R h d H.2
 exact⟨R1,h1,q1,q2,q3,q4,H.1,H1⟩
def gJ(u c:Nat):List (List Int):=(List.range c).map λi=>((List.range u).filter λn=>decide (n%c=i)).map λ(n:Nat)=>(n:Int)
def bT(u c:Int):rf×Int:=if 1<=u/\u<=7/\1<=c/\c<=u then(⟨0,gJ u.toNat c.toNat⟩,0)else(⟨0,[]⟩,1)
theorem Wz(x n:Nat){R h:PH}(H:(cp 71 1 (some ⟨x,0,none⟩) n n (List.replicate n (.slice none 0 0))).p R h):(PL qn (some ⟨x,0,none⟩) n n (List.replicate n ⟨none,0,[]⟩)).p R h:=by
 have e:(List.replicate n (⟨none,0,[]⟩:iZ)).flatMap fu.aA=List.replicate n (.slice none 0 0):=by
  induction n with
  |zero=>rfl
  |succ n ih=>simp only[List.replicate_succ,List.flatMap_cons]at ih⊢;rw[show List.flatMap fu.aA (List.replicate n ⟨none,0,[]⟩)=List.replicate n (.slice none 0 0)from by
    clear ih H
    induction n with
    |zero=>rfl
    |succ n ih=>rw[List.replicate_succ,List.flatMap_cons,ih,List.replicate_succ];rfl];rfl
 have key:∀n (h:PH),(aX ((List.replicate n (⟨none,0,[]⟩:iZ)).map qn.bf)).p R h:=λn=>by
  induction n with
  |zero=>exact λ_=>trivial
  |succ n ih=>exact λh=>bE.2 ⟨PH.cz,h,PH.dY _,PH.cT _,PH.le.refl _,cp.nil _ _ _ _,ih h⟩
 refine⟨by simp,HP.ao ⟨PH.cz,h,PH.dY _,PH.cT _,PH.le.refl _,key n _,?_⟩⟩
 show(cp _ _ _ _ _ _).p R h
 unfold qn
 dsimp only
 rw[e];exact H
theorem mT(u c:Nat):(gJ u c).length=c:=by simp[gJ]
theorem Eb(c:Nat):gJ 0 c=List.replicate c []:=by
 refine List.ext_getElem (by simp[gJ]) λi h1 h2=>?_
 simp[gJ]
theorem Ec(u c:Nat)(hc:0<c):gJ (u+1) c=(gJ u c).set (u%c) (((gJ u c).getD (u%c) [])++[(u:Int)]):=by
 refine List.ext_getElem? λi=>?_
 rw[List.getElem?_set]
 have hu:=Nat.mod_lt u hc
 by_cases hi:i<c
 ·have g:∀v,(gJ v c)[i]? =some (((List.range v).filter λn=>decide (n%c=i)).map λ(n:Nat)=>(n:Int)):=λv=>by
   unfold gJ;rw[List.getElem?_map,List.getElem?_range hi];rfl
  rw[g,List.range_succ,List.filter_append,List.map_append]
  by_cases e:u%c=i
  ·subst e
   rw[if_pos rfl,if_pos (by rw[mT];exact hu)]
   simp only[List.getD_eq_getElem?_getD,g u,Option.getD_some]
   simp
  ·rw[if_neg e,g]
   simp[e]
 ·rw[List.getElem?_eq_none (by rw[mT];omega)]
  by_cases e:u%c=i
  ·omega
  ·rw[if_neg e,List.getElem?_eq_none (by rw[mT];omega)]
set_option maxHeartbeats 1000000 in
theorem SV(u c:Int):ax Tryz.prog 15 #[.int .i64 u,.int .i64 c] HP.tt
 (λv=>HP.ex λa'=>HP.ex λc'=>HP.ex λb9:List iZ=>HP.and (v=.tuple #[.agg #[.int .i64 (bT u c).1.ep,.slice a' b9.length c'],.int .i64 (bT u c).2]/\b9.map (·.l)=(bT u c).1.ch/\∀x∈b9,x.l.length<=1000000) (Ls fu a' b9.length b9)):=by
 refine ah (ρ:=[.i u,.i c]) mixed Tryz.func15 Bu ?_
 unfold zk
 simp only[T.den,E.prop,E.den,RX.look,F1.app,F2.app,aP.dH,aP.dP,aP.cr,aP.eQ,aP.e9,aP.fw,aP.ju,bg,dB,V.den,W.den,A.den,BR.den,SA.den,FV.den,iX,nF,nK,fj,g5.app,List.map_cons,List.map_nil,List.cons_append,List.nil_append,List.drop_succ_cons,List.drop_zero,List.length_cons,List.length_nil,Nat.zero_add,Nat.reduceAdd,Int.neg_neg,Bool.not_not,List.append_nil,Nat.add_zero,List.getElem?_cons_zero,List.getElem?_cons_succ,Decidable.not_not,cu,dg,cJ,gh,ne_eq,Nat.reduceEqDiff,not_false_eq_true,Bf]
 have bad:∀ {K:HP},¬(1<=u/\u<=7/\1<=c/\c<=u)->HP.aV K (HP.ex λa'=>HP.ex λc'=>HP.ex λb9:List iZ=>HP.and (Value.tuple #[.agg #[.int .i64 0,.slice none 0 0],.int .i64 1]=.tuple #[.agg #[.int .i64 (bT u c).1.ep,.slice a' b9.length c'],.int .i64 (bT u c).2]/\b9.map (·.l)=(bT u c).1.ch/\∀x∈b9,x.l.length<=1000000) (Ls fu a' b9.length b9)):=λh=>.of λR h' H=>⟨none,0,[],⟨by rw[show bT u c=_ from if_neg h];rfl,by rw[show bT u c=_ from if_neg h];rfl,λx hx=>by cases hx⟩,rfl,bb.nil _ _ _ _,λx hx=>by cases hx⟩
 intro _
 refine⟨λh=>bad (by omega),λh1=>⟨λh=>bad (by omega),λh2=>⟨λh=>bad (by omega),λh3=>⟨λh=>bad (by omega),λh4=>?_⟩⟩⟩⟩
 obtain⟨m,rfl⟩:∃m:Nat,c=m:=⟨c.toNat,by omega⟩
 obtain⟨q,rfl⟩:∃q:Nat,u=q:=⟨u.toNat,by omega⟩
 have hm:0<m:=by omega
 obtain⟨i,hi,z1,z2,z3⟩:=info_parts ql
 refine(St zl hi z1 rfl z2 m (by rw[z3];omega) (by unfold maxLen;omega) HP.tt).ak (λ_ _ h=>h) ?_
 rintro v R h ⟨x,rfl,H⟩
 refine⟨some ⟨x,0,none⟩,m,m,PL qn (some ⟨x,0,none⟩) m m (List.replicate m ⟨none,0,[]⟩),rfl,λ_=>?_,Wz x m (HP.aj H)⟩
 refine⟨λi P=>∃(k:Nat) (es:List iZ),i=k/\k<=q/\es.map (·.l)=gJ k m/\HP.aV P (PL qn (some ⟨x,0,none⟩) m m es),λi _=>q - i.toNat,⟨0,_,rfl,Nat.zero_le _,by rw[Eb];simp,.refl _⟩,?_⟩
 rintro _ P ⟨k,es,rfl,hk,he,hP⟩
 have HQ:es.length=m:=by
  have:=congrArg List.length he
  rw[mT]at this;simpa using this
 have QW:∀y∈es,y.l.length<=7:=λy hy=>by
  have:y.l∈gJ k m:=by rw[<-he];exact List.mem_map.2 ⟨y,hy,rfl⟩
  obtain⟨j,_,e⟩:=List.mem_map.1 this
  rw[<-e,List.length_map]
  have:=List.length_filter_le (λn=>decide (n%m=j)) (List.range k)
  rw[List.length_range]at this
  omega
 refine⟨λhlt=>⟨by omega,λ_=>?_⟩,λlN=>?_⟩
 ·have htm:((k:Int).tmod (m:Int))=((k%m:Nat):Int):=Int.ofNat_tmod _ _
  have hkm:=Nat.mod_lt k hm
  rw[htm]
  have hy:es[k%m]? =some es[k%m]:=List.getElem?_eq_getElem (by omega)
  generalize hye:es[k%m]=y at hy
  have Z8:=QW y (List.mem_of_getElem? hy)
  refine⟨by omega,λ_=>⟨by omega,λ_=>⟨rfl,λ_=>?_⟩⟩⟩
  refine⟨y.a,y.l.length,y.c,aH.aV hP ?_,λb=>?_⟩
  ·refine b7 kE pI yf (PL.rd (K:=qn) _ m m es) (k:=((k%m:Nat):Int).toNat*1) (off:=0) ?_
   have:=cZ fu.aA 1 fu.len es (k%m) 0 y hy (by decide)
   rw[Int.toNat_natCast,Nat.add_zero]
   exact this
  ·refine(o6 y.a y.l.length y.c y.l (HP.one b (.cells #[.int .i64 (k:Int)] 3 (0,0))) ⟨b,0,none⟩ 1 1 [(k:Int)] (dW b #[.int .i64 (k:Int)] 3) rfl (by omega)).be (K:=nV qn (some ⟨x,0,none⟩) m m es (k%m)) ((hP.an _).trans (.of λR h H=>?_)) λv=>.of λR h H=>?_
   ·have H1:=HP.aq (HP.ae H (λz hz=>PL.kT (K:=qn) hy hz) λ_ h=>h)
    exact HP.ay (HP.ae H1 (λ_ h=>h) λz hz=>HP.ao hz)
   ·obtain⟨h1,h2,dd,l1,l2,⟨a',c',rfl,H1⟩,H2⟩:=H
    have H3:=HP.pick [o5 a' (y.l.length+1) c' (y.l++[(k:Int)]),HP.one b (.cells #[.int .i64 (k:Int)] 3 (0,0)),nV qn (some ⟨x,0,none⟩) m m es (k%m)] [0,2,1] (by decide) rfl (HP.aq ⟨h1,h2,dd,l1,l2,H1,H2⟩)
    refine⟨a',y.l.length+1,c',o5 a' (y.l.length+1) c' (y.l++[(k:Int)]),nV qn (some ⟨x,0,none⟩) m m es (k%m),rfl,?_,H3⟩
    refine(nV.set (K:=qn) hi z2 (k:=k%m) (by omega) ⟨a',c',y.l++[(k:Int)]⟩ (v:=.slice a' (y.l.length+1) c') (by simp[Value.cells,qn,fu]) HP.tt).be (K:=HP.tt) (.of λR h H=>HP.az (HP.ae H (λ_ h=>h) λz hz=>HP.az (by simpa[qn]using hz))) λv=>.of λR h H=>?_
    obtain⟨rfl,H9⟩:=HP.aj H
    refine⟨_,rfl,⟨aK _ (by omega) (by omega),λ_=>⟨⟨k+1,es.set (k%m) ⟨a',c',y.l++[(k:Int)]⟩,by omega,by omega,?_,.refl _⟩,by dsimp only;omega⟩⟩,HP.aj H9⟩
    rw[Ec k m hm,<-he,List.map_set]
    congr 1
    rw[List.getD_eq_getElem?_getD,List.getElem?_map,hy];rfl
 ·have hkq:k=q:=by omega
  subst hkq
  have e:bT (k:Int) (m:Int)=(⟨0,gJ k m⟩,0):=by
   unfold bT
   rw[if_pos (by omega)];simp
  refine(hP.trans (PL.Wy _ _ _ _)).trans (.of λR h H=>⟨_,m,es,⟨by rw[e,HQ],by rw[e];exact he,λy hy=>by have:=QW y hy;omega⟩,by rw[HQ];exact H⟩)
theorem bR.of{S:HP}{a:Option Addr}{n:Nat}{l:List Int}(h:∀R x,S.p R x->(pp a n l).p R x):bR S a n (l.map dN):=
 ⟨Rd.nU (bb.rd 1 a n (l.map dN)) h,λR x H e=>(bR.ro 1 a n (l.map dN)).none R x (h R x H) e⟩
theorem YG{t ty:TypeId}{i:Nat}{f:FuncId}{iw:Array Value}{A:HP}{ps rs:Array TypeId}{vd:Bool}(ht:Tryz.prog.underlying t=some (.func ps rs vd))(hg:Tryz.prog.eqGuardType Tryz.prog.depth t=false):aH Tryz.prog (bI (.binOp .eql t (.tmp i) (.const .nilFunc) t) ty [(i,.func (.func f) #[] iw)]) A (.bool false):=λw R h F s _=>by
 have e0:∀n,(Op.equalIn (n+1) t (.func (.func f) #[] iw) .nilFunc).run Tryz.prog w=.ok false w:=λn=>by
  simp only[Op.equalIn,Sem.run_bind,RX.run_underlying ht,Result.andThen_ok,Sem.run_pure]
 have e:(Op.equal t (.func (.func f) #[] iw) .nilFunc).run Tryz.prog w=.ok false w:=e0 9999
 have:=(jA (P:=Tryz.prog) (w:=w) (.inr (.inr (.inr (.inr ⟨_,_,_,rfl⟩)))) e).1
 simp only[bI,execOp,jR,List.find?_cons,beq_self_eq_true,Option.map_some,Option.getD_some]
 simp[eqGuard,hg,program,Sem.run_bind,this]
def Z9(k:Int):UInt8:=UInt8.ofNat (IntKind.u8.wrap k).toNat
theorem WA(k:Int):((Z9 k).toNat:Int)=IntKind.u8.wrap k:=by
 have h1:0<=IntKind.u8.wrap k/\IntKind.u8.wrap k<256:=by
  simp only[IntKind.wrap,IntKind.bits,IntKind.signed,Bool.false_and,Bool.false_eq_true,if_false];omega
 unfold Z9
 rw[UInt8.toNat_ofNat']
 omega
def HX(c:List Int):List UInt8:=gw c.length 4++c.map Z9
def YH(p:rf):List UInt8:=gw p.ep.toNat 4++(gw p.ch.length 4++p.ch.flatMap HX)
def plS(p:rf):List UInt8:=nr (YH p)
theorem ac8:tD Tryz.prog 265:=⟨_,Tryz.func265,by kernel_rfl,by kernel_rfl⟩
theorem ac9:tD Tryz.prog 263:=⟨_,Tryz.func263,by kernel_rfl,by kernel_rfl⟩
theorem WB(b:Nat)(l:List UInt8)(x:Int)(hb:l.length<140737488355328):ax Tryz.prog 265 #[.pointer (some ⟨b,0,none⟩),.int .i64 x] (cA b l) (λv=>HP.and (v=.tuple #[]) (cA b (l++[Z9 x]))):=by
 refine ah (ρ:=[.n b,.p (cA b l),.i x]) mixed Tryz.func265 D3 ?_
 unfold D2
 refine cg ?_
 rw[<-WA]
 refine(km b l (Z9 x) hb).ak (λ_ _ h=>h) ?_
 rintro v R h ⟨rfl,H⟩
 exact⟨_,rfl,.of λR h H=>⟨trivial,H⟩,H⟩
theorem SW{n:Nat}(h:n<=1000000000000):IntKind.u64.wrap (n:Int)=n:=gu ⟨by simp[IntKind.min,IntKind.signed],by simp[IntKind.max,IntKind.signed,IntKind.bits];omega⟩
set_option maxHeartbeats 1000000 in
theorem WC(b:Nat)(l:List UInt8)(S:HP)(a:Option Addr)(n c:Nat)(q:List Int)(hr:bR S a n (q.map dN))(hl:q.length=n)(hn:n<=1000000)(hb:l.length<=100000000000):
 ax Tryz.prog 264 #[.pointer (some ⟨b,0,none⟩),.slice a n c,.func (.func 265) #[] #[]] (HP.an (cA b l) S)
  (λv=>HP.and (v=.tuple #[]) (HP.an (cA b (l++HX q)) S)):=by
 refine ax.bV (φ:=a=none->n=0) (λR h H=>hr.none R _ (HP.ai H)) λha=>?_
 refine(ah (ρ:=[.n b,.p (cA b l),.a a,.n n,.n c,.p S,.v (.func (.func 265) #[] #[]),.p HP.tt]) mixed Tryz.func264 OA ?_).ak
  (λR h H=>HP.aq (HP.az H)) λ_ _ _ h=>h
 unfold SR
 refine cg ?_
 rw[SW (by omega)]
 refine(gb b l n 4 (by omega) (by omega)).ak (λ_ _ h=>h) ?_
 rintro v R h ⟨rfl,H⟩
 refine⟨_,rfl,⟨false,YG Tryz.underlying328 (by kernel_rfl),λh=>(by cases h),λ_=>?_⟩,H⟩
 refine⟨λk p q'=>∃j:Nat,k=j/\j<=n/\HP.aV p (cA b (l++gw n 4++(q.take j).map Z9))/\q'=HP.tt,λk _ _=>n - k.toNat,⟨0,rfl,Nat.zero_le _,by simpa using HP.aV.refl _,rfl⟩,?_⟩
 rintro k p _ ⟨j,rfl,hj,hp,rfl⟩
 refine⟨λhlt=>⟨by omega,λ_=>⟨Option.isSome_iff_ne_none.2 λe=>(by have:=ha e;omega),λ_=>?_⟩⟩,λlN=>?_⟩
 ·have Ww:j<q.length:=by omega
  have hx:q[j]? =some q[j]:=List.getElem?_eq_getElem Ww
  refine⟨q[j],ldI hr.rd hx,?_⟩
  refine .inl ⟨_,#[],rfl,ac8,?_⟩
  refine(WB b _ q[j] (by simp[bZ];omega)).be ((HP.aV.of λR h H=>HP.ao H).trans ((HP.aV.an hp HP.tt))) λv=>.of λR h H=>?_
  obtain⟨rfl,H1⟩:=HP.aj H
  refine⟨HP.tt,_,rfl,⟨aK _ (by omega) (by omega),λ_=>⟨⟨j+1,by omega,by omega,?_,rfl⟩,by dsimp only;omega⟩⟩,HP.aM H1⟩
  rw[List.take_succ_eq_append_getElem Ww,List.map_append,<-List.append_assoc]
  exact .refl _
 ·have e:j=q.length:=by omega
  rw[e,List.take_length]at hp
  refine(HP.aV.gZ hp (HP.aV.refl _)).trans (.of λR h H=>⟨trivial,?_⟩)
  have e2:l++HX q=l++gw n 4++q.map Z9:=by unfold HX;rw[hl,List.append_assoc]
  rw[e2]
  exact HP.ae H (λ_ h=>h) λ_ h=>HP.aj h
theorem WD(b:Nat)(l:List UInt8)(S:HP)(a:Option Addr)(n c:Nat)(q:List Int)(hr:bR S a n (q.map dN))(hl:q.length=n)(hn:n<=1000000)(hb:l.length<=100000000000):
 ax Tryz.prog 263 #[.pointer (some ⟨b,0,none⟩),.slice a n c] (HP.an (cA b l) S) (λv=>HP.and (v=.tuple #[]) (HP.an (cA b (l++HX q)) S)):=by
 refine ah (ρ:=[.n b,.p (cA b l),.a a,.n n,.n c,.p S]) mixed Tryz.func263 D5 ?_
 unfold D4
 refine cg ?_
 refine(WC b l S a n c q hr hl hn hb).ak (λ_ _ h=>h) ?_
 rintro v R h ⟨rfl,H⟩
 exact⟨_,_,rfl,.of λR h H=>⟨trivial,H⟩,H⟩
theorem WE(c:List Int):(HX c).length=4+c.length:=by simp[HX,bZ]
theorem wm(q:List (List Int))(m:Nat)(h:∀c∈q,c.length<=m):(q.flatMap HX).length<=q.length*(4+m):=by
 induction q with
 |nil=>simp
 |cons c r ih=>
  have h1:=h c (by simp)
  have h2:=ih λd hd=>h d (by simp[hd])
  rw[List.flatMap_cons,List.length_append,WE,List.length_cons,Nat.succ_mul]
  omega
set_option maxHeartbeats 1000000 in
theorem WG(b:Nat)(l:List UInt8)(S:HP)(a:Option Addr)(n c:Nat)(es:List iZ)(hS:∀R h,S.p R h->(Ls fu a n es).p R h)(hn:n<=1000)(xX:∀x∈es,x.l.length<=1000000)(hb:l.length<=1000):
 ax Tryz.prog 262 #[.pointer (some ⟨b,0,none⟩),.slice a n c,.func (.func 263) #[] #[]] (HP.an (cA b l) S)
  (λv=>HP.and (v=.tuple #[]) (HP.an (cA b (l++(gw es.length 4++(es.map (·.l)).flatMap HX))) S)):=by
 refine ax.bV (φ:=es.length=n/\(n≠0->a.isSome=true)) (λR h H=>⟨(hS R _ (HP.ai H)).1,λhn=>bb.some (hS R _ (HP.ai H)).2.1 (by omega)⟩) λ⟨hl,hs⟩=>?_
 refine(ah (ρ:=[.n b,.p (cA b l),.a a,.n n,.n c,.p S,.v (.func (.func 263) #[] #[]),.p HP.tt]) mixed Tryz.func262 OB ?_).ak
  (λR h H=>HP.aq (HP.az H)) λ_ _ _ h=>h
 unfold SS
 refine cg ?_
 rw[SW (by omega)]
 refine(gb b l n 4 (by omega) (by omega)).ak (λ_ _ h=>h) ?_
 rintro v R h ⟨rfl,H⟩
 refine⟨_,rfl,⟨false,YG Tryz.underlying329 (by kernel_rfl),λh=>(by cases h),λ_=>?_⟩,H⟩
 refine⟨λk p q'=>∃j:Nat,k=j/\j<=n/\HP.aV p (cA b (l++gw n 4++((es.take j).map (·.l)).flatMap HX))/\q'=HP.tt,λk _ _=>n - k.toNat,⟨0,rfl,Nat.zero_le _,by simpa using HP.aV.refl _,rfl⟩,?_⟩
 rintro k p _ ⟨j,rfl,hj,hp,rfl⟩
 refine⟨λhlt=>⟨by omega,λ_=>⟨hs (by omega),λ_=>?_⟩⟩,λlN=>?_⟩
 ·have Ww:j<es.length:=by omega
  have hx:es[j]? =some es[j]:=List.getElem?_eq_getElem Ww
  have Dg:((es.take (j+1)).map (·.l)).flatMap HX=((es.take j).map (·.l)).flatMap HX++HX es[j].l:=by
   rw[List.take_succ_eq_append_getElem Ww,List.map_append,List.flatMap_append];simp
  have uX:=List.mem_of_getElem? hx
  generalize es[j]=x at*
  have agS:=wm ((es.take j).map (·.l)) 1000000 λc hc=>by
   obtain⟨y,hy,rfl⟩:=List.mem_map.1 hc
   exact xX y (List.mem_of_mem_take hy)
  have ada:((es.take j).map (·.l)).length*(4+1000000)<=1000*(4+1000000):=Nat.mul_le_mul_right _ (by simp;omega)
  refine⟨x.a,x.l.length,x.c,ldC hS hx,?_⟩
  refine .inl ⟨_,#[],rfl,ac9,?_⟩
  refine(WD b _ S x.a x.l.length x.c x.l (.of λR h H=>(hS R h H).2.2 x uX) rfl (xX x uX) (by simp only[List.length_append,bZ];omega)).be (K:=HP.tt) ((HP.aV.of λR h H=>HP.pick [HP.tt,p,S] [1,2] (by decide) rfl H).trans ((HP.aV.an hp S).trans (.of λR h H=>HP.az H))) λv=>.of λR h H=>?_
  obtain⟨rfl,H1⟩:=HP.aj H
  refine⟨HP.tt,_,rfl,⟨aK _ (by omega) (by omega),λ_=>⟨⟨j+1,by omega,by omega,?_,rfl⟩,by dsimp only;omega⟩⟩,HP.aM H1⟩
  rw[Dg,<-List.append_assoc]
  exact .refl _
 ·have e:j=es.length:=by omega
  rw[e,List.take_length]at hp
  refine(HP.aV.gZ hp (HP.aV.refl _)).trans (.of λR h H=>⟨trivial,?_⟩)
  have e2:l++(gw es.length 4++(es.map (·.l)).flatMap HX)=l++gw n 4++(es.map (·.l)).flatMap HX:=by rw[hl,List.append_assoc]
  rw[e2]
  exact HP.ae H (λ_ h=>h) λ_ h=>HP.aj h
set_option maxHeartbeats 1000000 in
theorem SX(ep:Int)(S:HP)(a:Option Addr)(n c:Nat)(es:List iZ)(hS:∀R h,S.p R h->(Ls fu a n es).p R h)(h0:0<=ep)(h1:ep<=2147483648)(hn:n<=1000)(xX:∀x∈es,x.l.length<=1000000):
 ax Tryz.prog 196 #[.agg #[.int .i64 ep,.slice a n c]] S (λv=>HP.ex λa'=>HP.ex λc'=>HP.and (v=.slice a' (plS ⟨ep,es.map (·.l)⟩).length c') (HP.an S (du a' (plS ⟨ep,es.map (·.l)⟩).length c' (plS ⟨ep,es.map (·.l)⟩)))):=by
 refine ah (ρ:=[.i ep,.a a,.n n,.n c,.p S]) mixed Tryz.func196 IY ?_
 unfold Mn
 refine cg ?_
 intro _ x
 refine ax.bV (φ:=True) (λ_ _ _=>trivial) λ_=>?_
 have hw:IntKind.u64.wrap ep=(ep.toNat:Int):=by
  have:ep=(ep.toNat:Int):=by omega
  conv=>lhs;rw[this]
  exact SW (by omega)
 rw[hw]
 refine(gb x [] ep.toNat 4 (by omega) (by simp)).ak (λR h H=>⟨none,0,HP.ao (HP.ae (HP.aM H) (λy _=>cp.nil _ _ R y) λ_ h=>h)⟩) ?_
 rintro v R h ⟨rfl,xa,xc,H⟩
 refine⟨xa,_,xc,du xa _ xc _,rfl,?_,H⟩
 clear H
 have QW:es.length<=1000\/True:=.inr trivial
 have agT:[]++gw ep.toNat 4++(gw es.length 4++(es.map (·.l)).flatMap HX)=YH ⟨ep,es.map (·.l)⟩:=by unfold YH;simp
 refine ax.bV (φ:=es.length=n) (λR h H=>(hS R _ (HP.ai (HP.ai H))).1) λhl=>?_
 have agS:=wm (es.map (·.l)) 1000000 λc hc=>by
  obtain⟨y,hy,rfl⟩:=List.mem_map.1 hc
  exact xX y hy
 have ada:(es.map (·.l)).length*(4+1000000)<=1000*(4+1000000):=Nat.mul_le_mul_right _ (by simp;omega)
 have akH:(YH ⟨ep,es.map (·.l)⟩).length<=100000000000:=by
  unfold YH
  simp only[List.length_append,bZ]
  omega
 refine(WG x ([]++gw ep.toNat 4) S a n c es hS hn xX (by simp[bZ])).ak (λR h H=>HP.ae (HP.ay H) (λ_ h=>⟨xa,xc,h⟩) λ_ h=>h) ?_
 rw[agT]
 rintro v R h ⟨rfl,h1,h2,d,q1,q2,⟨ya,yc,HW⟩,HN⟩
 refine⟨ya,_,yc,du ya _ yc _,S,rfl,?_,HP.aq ⟨h1,h2,d,q1,q2,HW,HN⟩⟩
 refine(iF x (YH ⟨ep,es.map (·.l)⟩) (by omega)).ak (λR h H=>⟨ya,yc,H⟩) ?_
 rintro v R h ⟨a',c',rfl,h1,h2,d,q1,q2,⟨za,zc,HW⟩,HO⟩
 have Oc:(YH ⟨ep,es.map (·.l)⟩).length≠0->a'.isSome=true:=λh=>cp.some HO (by omega)
 refine⟨a',_,c',du a' _ c' _,za,_,zc,du za _ zc _,rfl,?_,h2,h1,d.symm,q2,q1,HO,HW⟩
 refine(Bn a' _ c' _ _ (bR.ow _ _ _ _ _ _) rfl Oc (by omega)).ak (λ_ _ h=>h) ?_
 rintro v R h ⟨b',d',rfl,H⟩
 exact⟨b',_,d',du b' _ d' _,_,rfl,.of λR h H=>⟨b',d',rfl,H⟩,HP.ao H⟩
def xR(s:RS):Int×RS:=((((bq s 1).1%256:Nat):Int),(bq s 1).2)
def sg(s:RS):List Int×RS:=fz xR 7 s
theorem Ed:Bj xR:=λs h=>by have:=(v6 (s:=s) (n:=1) h).2;show(bq s 1).2.1.length+1<=_;omega
theorem SY(s:RS):(xR s).2.1.length<=s.1.length:=Mg s 1
theorem Ee:Bj sg:=λs h=>by
 unfold sg at h⊢
 rw[zg]at h⊢
 have h1:=DK (DM h)
 have h2:=v7 (f:=xR) SY (bW s 7).1 (bW s 7).2
 omega
theorem aab(s:RS):(sg s).2.1.length<=s.1.length:=SE (f:=xR) SY 7 s
theorem WH(b:Nat)(s:RS):ax Tryz.prog 292 #[.pointer (some ⟨b,0,none⟩)] (cX b s) (λv=>HP.and (v=.int .i64 (xR s).1) (cX b (xR s).2)):=by
 refine ah (ρ:=[.n b,.p (cX b s)]) mixed Tryz.func292 D7 ?_
 unfold D6
 refine cg ?_
 refine(nY b s).ak (λ_ _ h=>h) ?_
 rintro v R h ⟨rfl,H⟩
 exact⟨_,_,rfl,⟨aK _ (by omega) (by omega),λ_=>.of λR h H=>⟨rfl,H⟩⟩,H⟩
set_option maxHeartbeats 1000000 in
theorem SZ(b:Nat)(s:RS)(bO:Int)(hL:s.1.length<=100000000):ax Tryz.prog 291 #[.pointer (some ⟨b,0,none⟩),.int .i64 bO,.func (.func 292) #[] #[]] (cX b s)
 (λv=>HP.ex λa=>HP.ex λc=>HP.and (v=.slice a (fz xR bO s).1.length c) (HP.an (o5 a (fz xR bO s).1.length c (fz xR bO s).1) (cX b (fz xR bO s).2))):=by
 refine ah (ρ:=[.n b,.p (cX b s),.i bO,.v (.func (.func 292) #[] #[]),.p HP.tt]) mixed Tryz.func291 IZ ?_
 unfold Mo
 refine cg ?_
 intro x y
 refine(vZ b s bO).ak (λ_ _ h=>h) ?_
 rintro v R h ⟨rfl,H⟩
 refine⟨_,_,rfl,λz=>?_,H⟩
 refine(DH b _ (cX b (bW s bO).2)).ak (λ_ _ h=>h) ?_
 rintro v R h ⟨nb,rb,rfl,H⟩
 refine⟨.func (.func 336) #[] #[.pointer (some ⟨nb,0,none⟩),.pointer (some ⟨rb,0,none⟩)],SD nb rb b _,rfl,λu=>?_,H⟩
 have hn:=DI s bO
 have hL1:(bW s bO).2.1.length<=100000000:=Nat.le_trans (sF s bO) hL
 have wn:fz xR bO s=if(d8 xR (bW s bO).1 (bW s bO).2).2.2 then([],(d8 xR (bW s bO).1 (bW s bO).2).2)else d8 xR (bW s bO).1 (bW s bO).2:=rfl
 generalize hN:(bW s bO).1=N at*
 generalize hS1:(bW s bO).2=s1 at*
 refine⟨Nat×RS,λg=>cX b g.2,λ_ _=>HP.tt,ZY N,DG N,(0,s1),λg p a n c q=>p=cX b g.2/\∃ll,n=ll.length/\HP.aV q (o5 a n c ll)/\n4 xR N s1 g ll,ze nb rb b N (by omega) s1,?_,?_,?_,?_⟩
 ·exact⟨rfl,[],rfl,.of λR h _=>cp.nil _ _ R h,n4.init _ _ _⟩
 ·rintro g p a n c q ⟨rfl,_⟩;rfl
 ·rintro g args ⟨g',rfl,hi,hw,_⟩ p a n c q ⟨rfl,ll,rfl,hq,hs⟩
  refine⟨(g.1:Int),rfl,.of λ_ _ _=>trivial,?_⟩
  refine(WH b g.2).ak (λ_ _ h=>h) ?_
  rintro v R h ⟨rfl,H⟩
  refine⟨_,_,rfl,λe=>?_,H⟩
  have hll:ll.length<=100000000:=by have:=hs.2.1 hw;omega
  refine(o6 a ll.length c ll (HP.one e (.cells #[.int .i64 (xR g.2).1] 3 (0,0))) ⟨e,0,none⟩ 1 1 [(xR g.2).1] (dW e #[.int .i64 (xR g.2).1] 3) rfl (by omega)).be (K:=HP.tt) ((hq.an _).trans (.of λ_ _=>HP.az)) λv=>.of λR h H=>?_
  obtain⟨a',c',rfl,H'⟩:=HP.aj H
  exact⟨a',_,c',_,rfl,⟨(g.1+1,(xR g.2).2),⟨rfl,hi,hw,rfl⟩,rfl,ll++[(xR g.2).1],by simp,HP.aV.refl _,hs.next Ed hi hw⟩,H'⟩
 ·rintro g hf p a n c q ⟨rfl,ll,rfl,hq,hs⟩
  have Ix:=hs.iW hf
  rw[Ix]at wn
  refine⟨g.2.2,Bi b g.2,λhw=>.of λR h H=>?_,λhw=>((HP.aV.refl _).gZ hq).trans (.of λR h H=>?_)⟩
  ·rw[wn,if_pos hw]
   exact⟨none,0,rfl,HP.ao (HP.ae (HP.az H) (λ_ h=>h) λy _=>cp.nil _ _ R y)⟩
  ·rw[wn,if_neg hw]
   exact⟨a,c,rfl,HP.ao H⟩
theorem WI(b:Nat)(s:RS)(hL:s.1.length<=100000000):ax Tryz.prog 290 #[.pointer (some ⟨b,0,none⟩)] (cX b s)
 (λv=>HP.ex λa=>HP.ex λc=>HP.and (v=.slice a (sg s).1.length c) (HP.an (pp a (sg s).1.length (sg s).1) (cX b (sg s).2))):=by
 refine ah (ρ:=[.n b,.p (cX b s)]) mixed Tryz.func290 D9 ?_
 unfold D8
 refine cg ?_
 refine(SZ b s 7 hL).ak (λ_ _ h=>h) ?_
 rintro v R h ⟨a,c,rfl,H⟩
 refine⟨a,_,c,_,_,rfl,?_,H⟩
 exact((HP.aV.of λR h H=>HP.ao H).trans (HP.aV.an (cp.ez _ _ _ _ _ _) _)).trans (.of λR h H=>⟨a,c,rfl,H⟩)
set_option maxHeartbeats 1000000 in
theorem S0(b:Nat)(s:RS)(bO:Int)(hL:s.1.length<=100000000):ax Tryz.prog 289 #[.pointer (some ⟨b,0,none⟩),.int .i64 bO,.func (.func 290) #[] #[]] (cX b s)
 (λv=>HP.ex λa=>HP.ex λc=>HP.ex λes:List iZ=>HP.and (v=.slice a es.length c/\es.map (·.l)=(fz sg bO s).1) (HP.an (PL wj a es.length c es) (cX b (fz sg bO s).2))):=by
 refine ah (ρ:=[.n b,.p (cX b s),.i bO,.v (.func (.func 290) #[] #[]),.p HP.tt]) mixed Tryz.func289 I0 ?_
 unfold Mp
 refine cg ?_
 intro x y
 refine(vZ b s bO).ak (λ_ _ h=>h) ?_
 rintro v R h ⟨rfl,H⟩
 refine⟨_,_,rfl,λz=>?_,H⟩
 refine(DH b _ (cX b (bW s bO).2)).ak (λ_ _ h=>h) ?_
 rintro v R h ⟨nb,rb,rfl,H⟩
 refine⟨.func (.func 336) #[] #[.pointer (some ⟨nb,0,none⟩),.pointer (some ⟨rb,0,none⟩)],SD nb rb b _,rfl,λu=>?_,H⟩
 have hn:=DI s bO
 have hL1:(bW s bO).2.1.length<=100000000:=Nat.le_trans (sF s bO) hL
 have wn:fz sg bO s=if(d8 sg (bW s bO).1 (bW s bO).2).2.2 then([],(d8 sg (bW s bO).1 (bW s bO).2).2)else d8 sg (bW s bO).1 (bW s bO).2:=rfl
 generalize hN:(bW s bO).1=N at*
 generalize hS1:(bW s bO).2=s1 at*
 obtain⟨i,LR,z1,z2,z3⟩:=info_parts ql
 refine⟨Nat×RS,λg=>cX b g.2,λ_ _=>HP.tt,ZY N,DG N,(0,s1),λg p a n c q=>p=cX b g.2/\g.2.1.length<=100000000/\∃es:List iZ,n=es.length/\HP.aV q (PL wj a n c es)/\n4 sg N s1 g (es.map (·.l)),ze nb rb b N (by omega) s1,?_,?_,?_,?_⟩
 ·exact⟨rfl,hL1,[],rfl,.of λR h _=>PL.nX _ R h,n4.init _ _ _⟩
 ·rintro g p a n c q ⟨rfl,_⟩;rfl
 ·rintro g args ⟨g',rfl,hi,hw,_⟩ p a n c q ⟨rfl,hg,es,rfl,hq,hs⟩
  refine⟨(g.1:Int),rfl,.of λ_ _ _=>trivial,?_⟩
  refine(WI b g.2 hg).ak (λ_ _ h=>h) ?_
  rintro v R h ⟨a1,c1,rfl,H⟩
  refine⟨a1,_,c1,_,_,rfl,λe=>?_,H⟩
  have hll:es.length<=100000000:=by
   have:=hs.2.1 hw
   simp only[List.length_map]at this;omega
  refine(PL.Sp (K:=wj) 27 27 zl LR z1 (by rw[z2];rfl) z2 (by rw[z3];decide) a es.length c es e ⟨a1,c1,(sg g.2).1⟩ (pp a1 (sg g.2).1.length (sg g.2).1) (by omega)).be (K:=HP.tt) ((hq.an _).trans (.of λR h H=>HP.az (HP.ae H (λ_ h=>h) λz hz=>HP.ae hz (λ_ h=>h) λ_ h=>bb.join h h))) λv=>.of λR h H=>?_
  obtain⟨a',c',rfl,H'⟩:=HP.aj H
  have hnx:=hs.next Ee hi hw
  refine⟨a',_,c',_,rfl,⟨(g.1+1,(sg g.2).2),⟨rfl,hi,hw,rfl⟩,rfl,Nat.le_trans (aab _) hg,es++[⟨a1,c1,(sg g.2).1⟩],by simp,HP.aV.refl _,by rw[List.map_append];exact hnx⟩,H'⟩
 ·rintro g hf p a n c q ⟨rfl,hg,es,rfl,hq,hs⟩
  have Ix:=hs.iW hf
  rw[Ix]at wn
  refine⟨g.2.2,Bi b g.2,λhw=>.of λR h H=>?_,λhw=>((HP.aV.refl _).gZ hq).trans (.of λR h H=>?_)⟩
  ·rw[wn,if_pos hw]
   exact⟨none,0,[],⟨rfl,rfl⟩,HP.ao (HP.ae (HP.az H) (λ_ h=>h) λy _=>PL.nX _ R y)⟩
  ·rw[wn,if_neg hw]
   exact⟨a,c,es,⟨rfl,rfl⟩,HP.ao H⟩
theorem OI(b:Nat)(s:RS)(bO:Int)(hL:s.1.length<=100000000):ax Tryz.prog 289 #[.pointer (some ⟨b,0,none⟩),.int .i64 bO,.func (.func 290) #[] #[]] (cX b s)
 (λv=>HP.ex λa=>HP.ex λc=>HP.ex λes:List iZ=>HP.and (v=.slice a es.length c/\es.map (·.l)=(fz sg bO s).1) (HP.an (Ls fu a es.length es) (cX b (fz sg bO s).2))):=
 (S0 b s bO hL).post λv=>λR h d ⟨a,c,es,e,H⟩=>by
   obtain⟨R1,h1,q1,q2,q3,q4,H1⟩:=(HP.aV.an (PL.ez _ _ _ _) _) R h d H
   exact⟨R1,h1,q1,q2,q3,q4,a,c,es,e,H1⟩
theorem zo{α:Type}(f:RS->α×RS):∀(n:Nat) (s:RS) (x:α),x∈(d8 f n s).1->∃s',x=(f s').1
 |0,s,x,h=>by cases h
 |n+1,s,x,h=>by
  unfold d8 at h
  split at h
  ·cases h
  ·rcases List.mem_cons.1 h with e|e
   ·exact⟨s,e⟩
   ·exact zo f n _ x e
theorem zp{α:Type}(f:RS->α×RS):∀(n:Nat) (s:RS),(d8 f n s).1.length<=n
 |0,s=>by simp[d8]
 |n+1,s=>by
  unfold d8
  split
  ·simp
  ·have:=zp f n (f s).2
   simp only[List.length_cons];omega
theorem I5(s:RS)(m:Nat):(bW s m).1<=m:=by
 unfold bW
 split
 ·simp
 ·split
  ·simp
  ·show(bq s 4).1<=m;omega
theorem OJ{α:Type}(f:RS->α×RS)(m:Nat)(s:RS):(fz f m s).1.length<=m:=by
 unfold fz
 split
 ·simp
 ·exact Nat.le_trans (zp f _ _) (I5 s m)
theorem OK{α:Type}(f:RS->α×RS)(m:Int)(s:RS)(x:α)(h:x∈(fz f m s).1):∃s',x=(f s').1:=by
 unfold fz at h
 split at h
 ·cases h
 ·exact zo f _ _ x h
def wo(l:List UInt8):rf×RS:=(⟨(bq (l,false) 4).1,(fz sg 7 (bq (l,false) 4).2).1⟩,(fz sg 7 (bq (l,false) 4).2).2)
def dD(l:List UInt8):rf×Int:=match cm l with
 |none=>(⟨0,[]⟩,3)
 |some i=>if(wo i).2.2=true\/(wo i).2.1≠[]\/cH (wo i).1=false then(⟨0,[]⟩,3)else((wo i).1,0)
theorem I6{l i:List UInt8}(h:cm l=some i):i.length<=l.length:=by
 unfold cm at h
 split at h
 ·cases h
 ·split at h
  ·cases h;simp
  ·cases h
set_option maxHeartbeats 1000000 in
theorem Ef(a:Option Addr)(n c:Nat)(l:List UInt8)(S:HP)(hr:bR S a n (l.map fH))(hl:l.length=n)(hc:n<=c)(hL:n<=100000000):
 ax Tryz.prog 229 #[.slice a n c] S (λv=>HP.ex λa'=>HP.ex λc'=>HP.ex λes:List iZ=>HP.and (v=.tuple #[.agg #[.int .i64 (dD l).1.ep,.slice a' es.length c'],.int .i64 (dD l).2]/\es.map (·.l)=(dD l).1.ch) (HP.an (Ls fu a' es.length es) S)):=by
 refine ax.bV (φ:=a=none->n=0) (λR h H=>hr.none R _ H) λha=>?_
 refine ah (ρ:=[.a a,.n n,.n c,.p S]) mixed Tryz.func229 I1 ?_
 unfold Mq
 refine cg ?_
 have bad:∀ {K:HP},dD l=(⟨0,[]⟩,3)->HP.aV K S->HP.aV K (HP.ex λa'=>HP.ex λc'=>HP.ex λes:List iZ=>HP.and (Value.tuple #[.agg #[.int .i64 0,.slice none 0 0],.int .i64 3]=.tuple #[.agg #[.int .i64 (dD l).1.ep,.slice a' es.length c'],.int .i64 (dD l).2]/\es.map (·.l)=(dD l).1.ch) (HP.an (Ls fu a' es.length es) S)):=λhe hk=>hk.trans (.of λR h H=>⟨none,0,[],⟨by rw[he];rfl,by rw[he];rfl⟩,HP.ao (HP.ae (HP.az H) (λ_ h=>h) λy _=>⟨rfl,bb.nil _ _ _ _,λx hx=>by cases hx⟩)⟩)
 intro _
 refine(sG a n c l S hr hl hc (λh=>Option.isSome_iff_ne_none.2 λe=>h (ha e)) (by omega)).ak (λ_ _ h=>h) ?_
 rintro v R h ⟨a1,c1,rfl,H⟩
 refine⟨a1,_,c1,du a1 ((cm l).getD []).length c1 ((cm l).getD []),_,S,rfl,⟨λh1=>bad ?_ (.refl _),λh1=>?_⟩,HP.ao H⟩
 ·cases hu:cm l with
  |none=>unfold dD;rw[hu]
  |some i=>rw[hu]at h1;simp at h1
 clear H
 obtain⟨i,hu⟩:∃i,cm l=some i:=by
  cases hu:cm l with
  |none=>rw[hu]at h1;simp at h1
  |some i=>exact⟨i,rfl⟩
 have hil:=I6 hu
 have WJ:dD l=if(wo i).2.2=true\/(wo i).2.1≠[]\/cH (wo i).1=false then(⟨0,[]⟩,3)else((wo i).1,0):=by unfold dD;rw[hu]
 rw[hu]
 simp only[Option.getD_some]
 refine(nZ a1 i.length c1 i (du a1 i.length c1 i) (bR.ow _ _ _ _ _ _) rfl (by omega)).ak (λ_ _ h=>h) ?_
 rintro v R h ⟨b,rfl,H⟩
 refine⟨b,cX b (i,false),_,rfl,?_,HP.ao H⟩
 clear H
 refine(gi b (i,false) 4 (by omega)).ak (λ_ _ h=>h) ?_
 rintro v R h ⟨rfl,H⟩
 have hlt:=jX (i,false) 4
 have hwr:IntKind.i64.wrap (((bq (i,false) 4).1:Nat):Int)=((bq (i,false) 4).1:Nat):=gu (aK _ (by omega) (by omega))
 refine⟨_,cX b (bq (i,false) 4).2,rfl,λ_=>?_,H⟩
 clear H
 rw[hwr]
 have hlen:(bq (i,false) 4).2.1.length<=100000000:=Nat.le_trans (Mg _ _) (by show i.length<=_;omega)
 refine(OI b (bq (i,false) 4).2 7 hlen).ak (λ_ _ h=>h) ?_
 rintro v R h ⟨a2,c2,es,⟨rfl,xX⟩,H⟩
 refine⟨a2,es.length,c2,Ls fu a2 es.length es,cX b (fz sg 7 (bq (i,false) 4).2).2,rfl,?_,H⟩
 clear H
 have agU:wo i=(⟨(bq (i,false) 4).1,es.map (·.l)⟩,(fz sg 7 (bq (i,false) 4).2).2):=by unfold wo;rw[xX]
 rw[agU]at WJ
 refine(jY b _).ak (λ_ _ h=>h) ?_
 rintro v R h ⟨rfl,H⟩
 refine⟨_,_,rfl,⟨λh2=>bad ?_ (.of λR h H=>?_),λh2=>?_⟩,H⟩
 ·rw[WJ,if_pos]
  split at h2
  ·rename_i h3;exact h3.elim .inl λh=>.inr (.inl h)
  ·exact absurd rfl h2
 ·first|exact H|exact HP.aj H|exact HP.ai H
 ·have hno:¬((fz sg 7 (bq (i,false) 4).2).2.2=true\/(fz sg 7 (bq (i,false) 4).2).2.1≠[]):=λh=>by rw[if_pos h]at h2;exact absurd h2 (by decide)
  have h7:∀x∈es,x.l.length<=7:=λx hx=>by
   have:x.l∈(fz sg 7 (bq (i,false) 4).2).1:=by rw[<-xX];exact List.mem_map.2 ⟨x,hx,rfl⟩
   obtain⟨s',e⟩:=OK _ _ _ _ this
   rw[e];exact OJ xR 7 s'
  refine(ri (Ls fu a2 es.length es) _ a2 es.length c2 es (λ_ _ h=>h) (λx hx=>by have:=h7 x hx;omega)).ak (λ_ _ h=>h) ?_
  rintro v R h ⟨rfl,H⟩
  refine⟨_,Ls fu a2 es.length es,rfl,⟨λh3=>bad ?_ (.of λR h H=>?_),λh3=>.of λR h H=>⟨a2,c2,es,?_,?_⟩⟩,H⟩
  ·rw[WJ,if_pos];exact .inr (.inr (by simpa using h3))
  ·first|exact H|exact HP.aj H|exact HP.ai H
  ·have e:dD l=(⟨(bq (i,false) 4).1,es.map (·.l)⟩,0):=by
    rw[WJ,if_neg]
    rintro(h|h|h)
    ·exact hno (.inl h)
    ·exact hno (.inr h)
    ·rw[h]at h3;cases h3
   rw[e];exact⟨rfl,rfl⟩
  ·exact HP.ao H
theorem aac{l:List Int}(hd:l.Nodup)(h:∀x∈l,0<=x/\x<7):l.length<=7:=by
 have h3:(l.map Int.toNat).Nodup:=by
  induction l with
  |nil=>exact List.nodup_nil
  |cons x M ih=>
   rw[List.nodup_cons]at hd
   rw[List.map_cons,List.nodup_cons]
   refine⟨λhm=>?_,ih hd.2 (λy hy=>h y (List.mem_cons_of_mem _ hy))⟩
   obtain⟨y,hy,e⟩:=List.mem_map.1 hm
   have:=h x (List.mem_cons_self ..)
   have:=h y (List.mem_cons_of_mem _ hy)
   have:y=x:=by omega
   exact hd.1 (this▸hy)
 have key:∀(n:Nat) (l:List Nat),l.Nodup->(∀a∈l,a<n)->l.length<=n:=by
  intro n
  induction n with
  |zero=>
    intro l _ h
    match l,h with
    |[],_=>simp
    |a::l,h=>exact absurd (h a (by simp)) (by omega)
  |succ n ih=>
    intro l hd h
    have h1:(l.erase n).Nodup:=hd.erase n
    have h2:=ih (l.erase n) h1 λa ha=>by
     have h3:=h a (List.mem_of_mem_erase ha)
     have h4:a≠n:=λe=>by subst e;exact(List.Nodup.mem_erase_iff hd).1 ha |>.1 rfl
     omega
    have:=List.length_erase (a:=n) (l:=l)
    split at this<;>omega
 have:=key 7 _ h3 λa ha=>by
  obtain⟨y,hy,rfl⟩:=List.mem_map.1 ha
  have:=h y hy
  omega
 rwa [List.length_map]at this
structure Bw(p:rf):Prop where
 ep0:0<=p.ep
 ep1:p.ep<=2147483647
 adb:1<=p.ch.length
 S1:p.ch.length<=7
 ne:∀c∈p.ch,c≠[]
 rg:∀u∈p.ch.flatten,0<=u/\u<7
 nd:p.ch.flatten.Nodup
theorem qo{p:rf}(h:cH p=true):Bw p:=by
 obtain⟨a,b,c,d,e,f,g⟩:=of_decide_eq_true h
 exact⟨a,b,c,d,e,f,g⟩
theorem Bw.chain{p:rf}(h:Bw p){c:List Int}(hc:c∈p.ch):c.Nodup/\(∀u∈c,0<=u/\u<7)/\c.length<=7:=by
 have h1:∀u∈c,0<=u/\u<7:=λu hu=>h.rg u (List.mem_flatten.2 ⟨c,hc,hu⟩)
 have h2:c.Nodup:=by
  exact h.nd.sublist (List.sublist_flatten_of_mem hc)
 exact⟨h2,h1,aac h2 h1⟩
theorem WK{p:rf}(h:Bw p):(plS p).length<=200:=by
 have:=wm p.ch 7 λc hc=>(h.chain hc).2.2
 have h2:p.ch.length*(4+7)<=7*11:=Nat.mul_le_mul h.S1 (by omega)
 unfold plS
 rw[me]
 unfold YH
 simp only[List.length_append,bZ]
 omega
theorem S3{p:Nat->Prop}(h:∃n,p n):∃m,p m/\∀n,p n->m<=n:=by
 obtain⟨n,hn⟩:=h
 induction n using Nat.strongRecOn with
 |_ n ih=>
  by_cases hx:∃m,m<n/\p m
  ·obtain⟨m,hm,hp⟩:=hx;exact ih m hm hp
  ·exact⟨n,hn,λm hp=>Nat.le_of_not_lt λhlt=>hx ⟨m,hlt,hp⟩⟩
open Classical in
noncomputable def eK(p:Nat->Prop):Nat:=if h:∃n,p n then Classical.choose (S3 h)else 0
theorem kX{p:Nat->Prop}(h:∃n,p n):p (eK p):=by
 unfold eK;rw[dif_pos h];exact(Classical.choose_spec (S3 h)).1
theorem j7{p:Nat->Prop}{n:Nat}(h:p n):eK p<=n:=by
 unfold eK;rw[dif_pos ⟨n,h⟩];exact(Classical.choose_spec (S3 ⟨n,h⟩)).2 n h
theorem map_inj{α β:Type}(g:α->β):∀ {l:List α},(l.map g).Nodup->∀ {x y:α},x∈l->y∈l->g x=g y->x=y
 |[],_,_,_,hx,_,_=>by cases hx
 |z::l,h,x,y,hx,hy,e=>by
  simp only[List.map_cons,List.nodup_cons]at h
  rcases List.mem_cons.1 hx with rfl|S4<;>rcases List.mem_cons.1 hy with rfl|hy2
  ·rfl
  ·exact(h.1 (List.mem_map.2 ⟨y,hy2,e.symm⟩)).elim
  ·exact(h.1 (List.mem_map.2 ⟨x,S4,e⟩)).elim
  ·exact map_inj g h.2 S4 hy2 e
theorem g6{κ:Type}{l:AL κ}{c:Nat}(hs:gI l c){x y:κ×Value×Nat}{S:Array Nat}(hx:x∈l)(hy:y∈l)(h:y.2.2∈S.push x.2.2):y=x\/y.2.2∈S:=by
 rcases Array.mem_push.1 h with h|h
 ·exact .inr h
 ·exact .inl (map_inj (λz:κ×Value×Nat=>z.2.2) hs.nodup hy hx h)
end
namespace RX
def kY:=(({aB:=[226,228,230,316,286,55,317,112,335,152]}:gA).aB)
def Eg:T:=
(.ret (.bool (.not (.eq 0 0))) [])
theorem Eh:tree Tryz.prog {aB:=kY} Tryz.f152 [0] [] 1=Eg:=by kernel_rfl
def wq:T:=
(.call 152 [0] [] [.c] (.bool 2) []
(.call 152 [1] [] [.c] (.bool 3) []
(.br 2
(.br 3
(.ret (.k 0) [])
(.ret (.k (-1)) []))
(.br 3
(.ret (.k 1) [])
(.br (.lt 0 1)
(.ret (.k (-1)) [])
(.br (.lt 1 0)
(.ret (.k 1) [])
(.ret (.k 0) [])))))))
theorem yh:tree Tryz.prog {aB:=kY} Tryz.f112 [0,1] [] 2=wq:=by kernel_rfl
def YI:T:=
(.loop [.i,.i] [.z (.i 0),.z (.i 0)]
(.br (.lt 5 (.of 1))
(.need (.le (.i 0) 5)
(.need (.is 0)
  (.ld 3 10 (.aW 0 5 1 0) [(0,3)] [.i] 6
(.br (.not (.eq 6 (.i 0)))
(.ret 6 [(0,3)])
  (.rg (.add 5 (.i 1))
(.again 0 [.z 4,.z (.add 5 (.i 1))]))))))
(.ret (.k 0) [(0,3)])))
theorem S5:tree Tryz.prog {aB:=kY} Tryz.f335 [.s 0] [(0,3)] 4=YI:=by kernel_rfl
def Ei:T:=
(.new
(.new
(.read (.binOp .eql 46 (.tmp 7) (.tmp 9) 46) 4 [(7,.agg [2,3]),(9,.agg [10,11])] [] [.c] (.bool 18)
(.br 18
(.ret (.bool (.lt 0 8)) [(4,7),(12,15)])
(.call 112 [2,10] [] [.i] 19 []
(.call 112 [3,11] [] [.i] 20 []
(.new
(.call 335 [.sl (.b 21 0) (.n 2) (.n 2)] [(.b 21,.cells [19,20] 3)] [.i] 22 [(.b 21,.cells [19,20] 3)]
(.ret (.bool (.lt (.i 0) 22)) [(4,7),(12,15)])))))))))
theorem Ej:tree Tryz.prog {aB:=kY} Tryz.f317 [.agg [0,.bool 1,2,3,.s 4],.agg [8,.bool 9,10,11,.s 12]] [(4,7),(12,15)] 16=Ei:=by kernel_rfl
def Ek:T:=
(.new
(.all
(.call 55 [.s 3] [(3,6)] [.a,.n,.n,.p] (.s 8) [(8,11),(3,6)]
(.new
(.new
(.ret (.ptr 13 0) [(3,6),(.b 13,.cells [.int .i64 (.o2 .mx 0 (.i 1)),1,2,.s 8,.k 1,.map 12,.k 0] 332),(8,11),(.b 12,.kD)]))))
(.new
(.call 55 [.s 3] [(3,6)] [.a,.n,.n,.p] (.s 9) [(9,12),(3,6)]
(.new
(.ret (.ptr 13 0) [(3,6),(.b 13,.cells [.int .i64 (.o2 .mx 0 (.i 1)),1,2,.s 9,.k 1,.map 8,.k 0] 332),(9,12),(.b 8,.kD)]))))))
theorem El:tree Tryz.prog {aB:=kY} Tryz.f197 [0,.agg [1,2],.s 3] [(3,6)] 7=Ek:=by kernel_rfl
def Em:T:=
(.ret 8 [(.b 0,.cells [1,2,3,.s 4,8,.map 9,11] 332),(4,7),(.b 9,10)])
theorem En:tree Tryz.prog {aB:=kY} Tryz.f226 [.ptr 0 0] [(.b 0,.cells [1,2,3,.s 4,8,.map 9,11] 332),(4,7),(.b 9,10)] 12=Em:=by kernel_rfl
def zq:T:=
(.new
(.ret (.agg [2,3]) [(.b 0,.cells [1,2,3,.s 4,8,.map 9,11] 332),(4,7),(.b 9,10)]))
theorem Bx:tree Tryz.prog {aB:=kY} Tryz.f228 [.ptr 0 0] [(.b 0,.cells [1,2,3,.s 4,8,.map 9,11] 332),(4,7),(.b 9,10)] 12=zq:=by kernel_rfl
def wu:T:=
(.call 55 [.s 4] [(4,7)] [.a,.n,.n,.p] (.s 12) [(12,15),(4,7)]
(.ret (.s 12) [(.b 0,.cells [1,2,3,.s 4,8,.map 9,11] 332),(4,7),(.b 9,10),(12,15)]))
theorem tQ:tree Tryz.prog {aB:=kY} Tryz.f230 [.ptr 0 0] [(.b 0,.cells [1,2,3,.s 4,8,.map 9,11] 332),(4,7),(.b 9,10)] 12=wu:=by kernel_rfl
def Mr:T:=
(.rg (.o2 .quo 1 (.i 2))
(.ret (.bool (.lt (.o2 .quo 1 (.i 2)) 12)) [(.b 0,.cells [1,2,3,.s 4,8,.map 9,11] 332),(4,7),(.b 9,10)]))
theorem I7:tree Tryz.prog {aB:=kY} Tryz.f316 [.ptr 0 0,12] [(.b 0,.cells [1,2,3,.s 4,8,.map 9,11] 332),(4,7),(.b 9,10)] 13=Mr:=by kernel_rfl
def Eo:T:=
(.br (.not (.eq 8 (.i 1)))
(.br (.not (.eq 8 (.i 2)))
(.ret (.bool (.c false)) [(.b 0,.cells [1,2,3,.s 4,8,.map 9,11] 332),(4,7),(.b 9,10)])
(.br (.lt 12 (.i 0))
(.ret (.bool (.c false)) [(.b 0,.cells [1,2,3,.s 4,8,.map 9,11] 332),(4,7),(.b 9,10)])
(.br (.le 1 12)
(.ret (.bool (.c false)) [(.b 0,.cells [1,2,3,.s 4,8,.map 9,11] 332),(4,7),(.b 9,10)])
(.read (.lookup 330 (.tmp 33) (.tmp 34) true) 371 [(33,.map 9),(34,12)] [(.b 9,10)] [.i,.c,.i,.i,.a,.n,.n,.c] (.au [.agg [13,.bool 14,15,16,.s 17],.bool 20])
(.new
(.ret (.bool (.not 20)) [(.b 0,.cells [1,2,3,.s 4,8,.map 9,11] 332),(4,7),(.b 9,10)]))))))
(.br (.lt 12 (.i 0))
(.ret (.bool (.c false)) [(.b 0,.cells [1,2,3,.s 4,8,.map 9,11] 332),(4,7),(.b 9,10)])
(.br (.le 1 12)
(.ret (.bool (.c false)) [(.b 0,.cells [1,2,3,.s 4,8,.map 9,11] 332),(4,7),(.b 9,10)])
(.read (.lookup 330 (.tmp 33) (.tmp 34) true) 371 [(33,.map 9),(34,12)] [(.b 9,10)] [.i,.c,.i,.i,.a,.n,.n,.c] (.au [.agg [13,.bool 14,15,16,.s 17],.bool 20])
(.new
(.ret (.bool (.not 20)) [(.b 0,.cells [1,2,3,.s 4,8,.map 9,11] 332),(4,7),(.b 9,10)]))))))
theorem Ep:tree Tryz.prog {aB:=kY} Tryz.f286 [.ptr 0 0,12] [(.b 0,.cells [1,2,3,.s 4,8,.map 9,11] 332),(4,7),(.b 9,10)] 13=Eo:=by kernel_rfl
def Ms:T:=
(.new
(.read (.call ⟨.builtin .len,#[.tmp 11],#[330]⟩) 3 [(11,.map 9)] [(.b 9,10)] [.i] 22
(.op (.mapUpdate 330 (.tmp 17) (.tmp 18) (.tmp 19)) 0 [(17,.map 9),(18,12),(19,.agg [22,.bool 14,15,16,.s 17])] [(.b 9,10),(17,20)] [.p] (.au []) [(.b 9,23),(17,20)]
(.br 14
 (.rg (.add 11 (.i 1))
(.call 316 [.ptr 0 0,.a (.int .i64 (.add 11 (.i 1)))] [(.b 0,.cells [1,2,3,.s 4,8,.map 9,.int .i64 (.add 11 (.i 1))] 332),(4,7),(.b 9,23)] [.c] (.bool 24) [(.b 0,.cells [1,2,3,.s 4,8,.map 9,.int .i64 (.add 11 (.i 1))] 332),(4,7),(.b 9,23)]
(.ret (.bool 24) [(.b 0,.cells [1,2,3,.s 4,8,.map 9,.int .i64 (.add 11 (.i 1))] 332),(4,7),(.b 9,23),(17,20)])))
(.read (.call ⟨.builtin .len,#[.tmp 38],#[330]⟩) 3 [(38,.map 9)] [(.b 9,23)] [.i] 24
 (.rg (.sub 24 11)
 (.rg (.sub 1 (.sub 24 11))
(.call 316 [.ptr 0 0,.a (.int .i64 (.sub 1 (.sub 24 11)))] [(.b 0,.cells [1,2,3,.s 4,8,.map 9,11] 332),(4,7),(.b 9,23)] [.c] (.bool 25) [(.b 0,.cells [1,2,3,.s 4,8,.map 9,11] 332),(4,7),(.b 9,23)]
(.br (.not 25)
(.ret (.bool (.c false)) [(.b 0,.cells [1,2,3,.s 4,.k 4,.map 9,11] 332),(4,7),(.b 9,23),(17,20)])
(.ret (.bool (.c false)) [(.b 0,.cells [1,2,3,.s 4,8,.map 9,11] 332),(4,7),(.b 9,23),(17,20)]))))))))))
theorem I8:tree Tryz.prog {aB:=kY} Tryz.f287 [.ptr 0 0,12,.agg [13,.bool 14,15,16,.s 17]] [(.b 0,.cells [1,2,3,.s 4,8,.map 9,11] 332),(4,7),(.b 9,10),(17,20)] 21=Ms:=by kernel_rfl
def tR:T:=
(.br (.not (.eq 8 (.i 2)))
(.ret (.au []) [(.b 0,.cells [1,2,3,.s 4,8,.map 9,11] 332),(4,7),(.b 9,10)])
(.call 286 [.ptr 0 0,12] [(.b 0,.cells [1,2,3,.s 4,8,.map 9,11] 332),(4,7),(.b 9,10)] [.c] (.bool 14) [(.b 0,.cells [1,2,3,.s 4,8,.map 9,11] 332),(4,7),(.b 9,10)]
(.br (.not 14)
(.ret (.au []) [(.b 0,.cells [1,2,3,.s 4,8,.map 9,11] 332),(4,7),(.b 9,10)])
(.call 287 [.ptr 0 0,12,.agg [.k 0,.bool (.eq 13 (.i 0)),.k 0,.k 0,.z]] [(.b 0,.cells [1,2,3,.s 4,8,.map 9,11] 332),(4,7),(.b 9,10)] [.c,.i,.i,.i,.a,.n,.n,.p,.i,.n,.p,.i] (.bool 15) [(.b 0,.cells [16,17,18,.s 19,23,.map 24,26] 332),(19,22),(.b 24,25)]
(.br 15
(.ret (.au []) [(.b 0,.cells [16,17,18,.s 19,.k 3,.map 24,26] 332),(19,22),(.b 24,25)])
(.ret (.au []) [(.b 0,.cells [16,17,18,.s 19,23,.map 24,26] 332),(19,22),(.b 24,25)]))))))
theorem wv:tree Tryz.prog {aB:=kY} Tryz.f225 [.ptr 0 0,12,13] [(.b 0,.cells [1,2,3,.s 4,8,.map 9,11] 332),(4,7),(.b 9,10)] 14=tR:=by kernel_rfl
def tS:T:=
(.new
(.br (.not (.eq 8 (.i 1)))
(.ret (.au []) [(.b 0,.cells [1,2,3,.s 4,8,.map 9,11] 332),(4,7),(.b 9,10),(15,18)])
(.call 286 [.ptr 0 0,12] [(.b 0,.cells [1,2,3,.s 4,8,.map 9,11] 332),(4,7),(.b 9,10)] [.c] (.bool 21) [(.b 0,.cells [1,2,3,.s 4,8,.map 9,11] 332),(4,7),(.b 9,10)]
(.br (.not 21)
(.ret (.au []) [(.b 0,.cells [1,2,3,.s 4,8,.map 9,11] 332),(4,7),(.b 9,10),(15,18)])
(.new
(.br (.eq 19 (.i 0))
(.call 55 [.s 15] [(15,18)] [.a,.n,.n,.p] (.s 23) [(23,26),(15,18)]
(.call 287 [.ptr 0 0,12,.agg [.k 0,.bool (.eq 19 (.i 0)),13,14,.s 23]] [(.b 0,.cells [1,2,3,.s 4,8,.map 9,11] 332),(4,7),(.b 9,10),(23,26)] [.c,.i,.i,.i,.a,.n,.n,.p,.i,.n,.p,.i,.p] (.bool 27) [(.b 0,.cells [28,29,30,.s 31,35,.map 36,38] 332),(31,34),(.b 36,37),(23,39)]
(.br 27
(.call 288 [.ptr 0 0] [(.b 0,.cells [28,29,30,.s 31,35,.map 36,38] 332),(31,34),(.b 36,37)] [.i,.i,.i,.a,.n,.n,.p,.i,.n,.p,.i] (.au []) [(.b 0,.cells [40,41,42,.s 43,47,.map 48,50] 332),(43,46),(.b 48,49)]
(.new
(.ret (.au []) [(.b 0,.cells [40,41,42,.s 43,.k 2,.map 51,.k 0] 332),(43,46),(.b 51,.kD),(15,18)])))
(.ret (.au []) [(.b 0,.cells [28,29,30,.s 31,35,.map 36,38] 332),(31,34),(.b 36,37),(15,18)]))))
(.call 287 [.ptr 0 0,12,.agg [.k 0,.bool (.eq 19 (.i 0)),.k 0,.k 0,.z]] [(.b 0,.cells [1,2,3,.s 4,8,.map 9,11] 332),(4,7),(.b 9,10)] [.c,.i,.i,.i,.a,.n,.n,.p,.i,.n,.p,.i] (.bool 23) [(.b 0,.cells [24,25,26,.s 27,31,.map 32,34] 332),(27,30),(.b 32,33)]
(.br 23
(.call 288 [.ptr 0 0] [(.b 0,.cells [24,25,26,.s 27,31,.map 32,34] 332),(27,30),(.b 32,33)] [.i,.i,.i,.a,.n,.n,.p,.i,.n,.p,.i] (.au []) [(.b 0,.cells [35,36,37,.s 38,42,.map 43,45] 332),(38,41),(.b 43,44)]
(.new
(.ret (.au []) [(.b 0,.cells [35,36,37,.s 38,.k 2,.map 46,.k 0] 332),(38,41),(.b 46,.kD),(15,18)])))
(.ret (.au []) [(.b 0,.cells [24,25,26,.s 27,31,.map 32,34] 332),(27,30),(.b 32,33),(15,18)])))))))))
theorem ww:tree Tryz.prog {aB:=kY} Tryz.f224 [.ptr 0 0,12,.agg [13,14],.s 15,19] [(.b 0,.cells [1,2,3,.s 4,8,.map 9,11] 332),(4,7),(.b 9,10),(15,18)] 20=tS:=by kernel_rfl
def zr:T:=
(.new
(.op (.range 330 (.tmp 8)) 0 [(8,.map 9)] [(.b 9,10)] [.n,.p,.p] (.ptr 13 0) [(.b 13,14),(.b 9,15)]
(.loop [.p,.p,.i,.c,.i,.i,.a,.n,.n,.p] [.p [(.b 13,14)],.p [(.b 9,15)],.z (.i 0),.e (.not (.not (.c false))),.z (.i 0),.z (.i 0),.a .nil,.e (.cQ (.n 0) (.n 0)),.e (.cQ (.n 0) (.n 0)),.p []]
(.op (.next (.tmp 9) false) 0 [(9,.ptr 13 0)] [(.b 13,16),(.b 9,17)] [.c,.v,.v,.p] (.nx 26 27 28) [(.b 13,29),(.b 9,17)]
(.br 26
(.op (.entry (.tmp 9)) 0 [(9,.ptr 13 0)] [(.b 13,29),(.b 9,17)] [.i,.i,.c,.i,.i,.a,.n,.n,.p,.p,.p] (.au [30,.agg [31,.bool 32,33,34,.s 35]]) [(35,38),(.b 13,39),(.b 9,40)]
(.new
(.br (.not 32)
(.again 0 [.p [(.b 13,39)],.p [(.b 9,40)],.z 18,.e (.not (.not 19)),.z 20,.z 21,.a 22,.e (.cQ 23 (.n 0)),.e (.cQ 24 (.n 0)),.p [(22,25)]])
(.read (.binOp .eql 46 (.tmp 19) (.tmp 20) 46) 4 [(19,.agg [33,34]),(20,.agg [.k 0,.k 0])] [] [.c] (.bool 42)
(.br 42
(.again 0 [.p [(.b 13,39)],.p [(.b 9,40)],.z 18,.e (.not (.not 19)),.z 20,.z 21,.a 22,.e (.cQ 23 (.n 0)),.e (.cQ 24 (.n 0)),.p [(22,25)]])
(.read (.binOp .eql 46 (.tmp 24) (.tmp 25) 46) 4 [(24,.agg [20,21]),(25,.agg [.k 0,.k 0])] [] [.c] (.bool 43)
(.br 43
(.again 0 [.p [(.b 13,39)],.p [(.b 9,40)],.z 31,.e (.not (.not 32)),.z 33,.z 34,.a 35,.e (.cQ 36 (.n 0)),.e (.cQ 37 (.n 0)),.p [(35,38)]])
(.call 317 [.agg [31,.bool 32,33,34,.s 35],.agg [18,.bool 19,20,21,.s 22]] [(35,38),(.b 9,40),(22,25)] [.c] (.bool 44) [(35,38),(.b 9,40),(22,25)]
(.br 44
(.again 0 [.p [(.b 13,39)],.p [(.b 9,40)],.z 31,.e (.not (.not 32)),.z 33,.z 34,.a 35,.e (.cQ 36 (.n 0)),.e (.cQ 37 (.n 0)),.p [(35,38)]])
(.again 0 [.p [(.b 13,39)],.p [(.b 9,40)],.z 18,.e (.not (.not 19)),.z 20,.z 21,.a 22,.e (.cQ 23 (.n 0)),.e (.cQ 24 (.n 0)),.p [(22,25)]]))))))))))
(.read (.binOp .neq 46 (.tmp 34) (.tmp 35) 46) 4 [(34,.agg [20,21]),(35,.agg [.k 0,.k 0])] [] [.c] (.bool 30)
(.br 30
(.ret (.au []) [(.b 0,.cells [1,2,3,.s 22,8,.map 9,11] 332),(22,25),(.b 9,17),(4,7)])
(.ret (.au []) [(.b 0,.cells [1,2,3,.s 4,8,.map 9,11] 332),(4,7),(.b 9,17)]))))))))
theorem By:tree Tryz.prog {hv:=[(0,[.b 13,.b 9,.b 12])],aB:=kY,aV:=[(12,[3,347])],mkd:=[12]} Tryz.f288 [.ptr 0 0] [(.b 0,.cells [1,2,3,.s 4,8,.map 9,11] 332),(4,7),(.b 9,10)] 12=zr:=by kernel_rfl
end RX
section
open RX
theorem zt(x:Int):ax Tryz.prog 152 #[.int .i64 x] HP.tt (λv=>HP.pure (v=.bool false)):=by
 refine ah (ρ:=[.i x]) mixed Tryz.func152 Eh ?_
 unfold Eg
 refine cg ?_
 exact .of λR h H=>by simp[HP.pure]
def S6(x y:Int):Int:=if x<y then -1 else if y<x then 1 else 0
theorem tT(x y:Int):ax Tryz.prog 112 #[.int .i64 x,.int .i64 y] HP.tt (λv=>HP.pure (v=.int .i64 (S6 x y))):=by
 refine ah (ρ:=[.i x,.i y]) mixed Tryz.func112 yh ?_
 unfold wq
 refine cg ?_
 refine(zt x).ak (λ_ _ _=>trivial) ?_
 rintro v R h rfl
 refine⟨_,rfl,?_,trivial⟩
 refine(zt y).ak (λ_ _ _=>trivial) ?_
 rintro v R h rfl
 refine⟨_,rfl,⟨λe=>absurd e (by decide),λ_=>⟨λe=>absurd e (by decide),λ_=>⟨λh1=>.of λR h H=>?_,λh1=>⟨λh2=>.of λR h H=>?_,λh2=>.of λR h H=>?_⟩⟩⟩⟩,trivial⟩
 ·show _=_;rw[S6,if_pos h1]
 ·show _=_;rw[S6,if_neg h1,if_pos h2]
 ·show _=_;rw[S6,if_neg h1,if_neg h2]
theorem aad(b:Nat)(x y:Int):ax Tryz.prog 335 #[.slice (some ⟨b,0,none⟩) 2 2] (HP.one b (.cells #[.int .i64 x,.int .i64 y] 3 (0,0)))
 (λv=>HP.and (v=.int .i64 (if x=0 then y else x)) (HP.one b (.cells #[.int .i64 x,.int .i64 y] 3 (0,0)))):=by
 refine ah (ρ:=[.a (some ⟨b,0,none⟩),.n 2,.n 2,.p (HP.one b (.cells #[.int .i64 x,.int .i64 y] 3 (0,0)))]) mixed Tryz.func335 S5 ?_
 unfold YI
 refine cg ?_
 have ld:∀(k:Nat) (u:Int),[Value.int .i64 x,.int .i64 y][k]? =some (.int .i64 u)->aH Tryz.prog (bG 3 (.pointer ((some ⟨b,0,none⟩:Option Addr).map λq=>(q.add (k*1)).add 0))) (HP.one b (.cells #[.int .i64 x,.int .i64 y] 3 (0,0))) (.int .i64 u):=λk u hk=>by
  obtain⟨d,hd⟩:∃d,Tryz.prog.underlying 3=some d:=Option.isSome_iff_exists.1 (by kernel_rfl)
  exact b7 hd (by kernel_rfl) (by kernel_rfl) (dW b #[.int .i64 x,.int .i64 y] 3) (k:=k*1) (off:=0) (by rw[Nat.mul_one,Nat.add_zero];exact hk)
 refine⟨λ_ i=>i=0\/(i=1/\x=0)\/(i=2/\x=0/\y=0),λ_ i=>2 - i.toNat,.inl rfl,?_⟩
 rintro _ _ (rfl|⟨rfl,hx⟩|⟨rfl,hx,hy⟩)
 ·refine⟨λ_=>⟨by omega,λ_=>⟨rfl,λ_=>⟨_,ld 0 x rfl,λh0=>.of λR h H=>⟨by rw[if_neg h0],H⟩,λh0=>⟨aK _ (by omega) (by omega),λ_=>⟨.inr (.inl ⟨rfl,by simpa using h0⟩),by show 2 - ((0:Int)+1).toNat<2 - (0:Int).toNat;decide⟩⟩⟩⟩⟩,λh=>absurd (by decide) h⟩
 ·refine⟨λ_=>⟨by omega,λ_=>⟨rfl,λ_=>⟨_,ld 1 y rfl,λh0=>.of λR h H=>⟨by rw[if_pos hx],H⟩,λh0=>⟨aK _ (by omega) (by omega),λ_=>⟨.inr (.inr ⟨rfl,hx,by simpa using h0⟩),by show 2 - ((1:Int)+1).toNat<2 - (1:Int).toNat;decide⟩⟩⟩⟩⟩,λh=>absurd (by decide) h⟩
 ·exact⟨λh=>absurd h (by decide),λ_=>.of λR h H=>⟨by rw[if_pos hx,hy],H⟩⟩
structure qp where
 aY:Int
 ok:Bool
 r:Int
 w:Int
 val:List UInt8
def qq(a b:qp):Bool:=if a.r=b.r/\a.w=b.w then decide (a.aY<b.aY)else decide (b.r<a.r\/(a.r=b.r/\b.w<a.w))
abbrev qp.aA(x:qp)(a:Option Addr)(c:Nat):Array Value:= #[.int .i64 x.aY,.bool x.ok,.int .i64 x.r,.int .i64 x.w,.slice a x.val.length c]
theorem OL(P Q:HP)(x y:qp)(a b:Option Addr)(c d:Nat):ax Tryz.prog 317 #[.agg (x.aA a c),.agg (y.aA b d)] (HP.an P Q) (λv=>HP.and (v=.bool (qq x y)) (HP.an P Q)):=by
 refine ah (ρ:=[.i x.aY,.c x.ok,.i x.r,.i x.w,.a a,.n x.val.length,.n c,.p P,.i y.aY,.c y.ok,.i y.r,.i y.w,.a b,.n y.val.length,.n d,.p Q]) mixed Tryz.func317 Ej ?_
 unfold Ei
 refine cg ?_
 intro _ _
 refine⟨_,Wv (by decide),λh=>.of λR h' H=>⟨?_,H⟩,λh=>?_⟩
 ·unfold qq
  rw[if_pos (by simpa using h)]
 ·have hne:¬(x.r=y.r/\x.w=y.w):=by simpa using h
  refine(tT x.r y.r).ak (λ_ _ _=>trivial) ?_
  rintro v R h rfl
  refine⟨_,rfl,?_,trivial⟩
  refine(tT x.w y.w).ak (λ_ _ _=>trivial) ?_
  rintro v R h rfl
  refine⟨_,rfl,λb'=>?_,trivial⟩
  refine(aad b' _ _).ak (λ_ _ h=>h) ?_
  rintro v R h ⟨rfl,H⟩
  refine⟨_,rfl,.of λR h H=>⟨?_,H⟩,H⟩
  unfold qq
  rw[if_neg hne]
  congr 1
  rw[decide_eq_decide]
  unfold S6
  by_cases h1:x.r<y.r
  ·rw[if_pos h1,if_neg (by decide)];omega
  ·by_cases h2:y.r<x.r
   ·rw[if_neg h1,if_pos h2,if_neg (by decide)];omega
   ·rw[if_neg h1,if_neg h2,if_pos rfl]
    by_cases h3:x.w<y.w
    ·rw[if_pos h3];omega
    ·by_cases h4:y.w<x.w
     ·rw[if_neg h3,if_pos h4];omega
     ·rw[if_neg h3,if_neg h4];omega
structure BA where
 ok:Bool
 r:Int
 w:Int
 val:List UInt8
structure j8 where
 acc:Int
 iA:Int
 dQ:Int
 val:List UInt8
 bX:Int
 aQ:List (Int×BA)
 cj:Int
abbrev BA.at_(x:BA)(i:Int):qp:=⟨i,x.ok,x.r,x.w,x.val⟩
def nt(v:Value)(x:qp):HP:=HP.ex λa=>HP.ex λc=>HP.and (v=.agg (x.aA a c)/\x.val.length<=140737488355328) (aO a x.val.length x.val)
theorem nt.gf:DQ nt:=λ_ _ _ _ _ ⟨a,c,e,H⟩=>⟨a,c,e,HP.aj (bb.join (B:=HP.tt) H trivial)⟩
def cK:List (Int×BA)->Int->Int->Option qp
 |[],_,_=>none
 |x::L,i,k=>if k=x.1 then some (x.2.at_ i)else cK L (i+1) k
theorem j9{k:Int}:∀ {L:List (Int×BA)} {i:Int},cK L i k=none↔k∉L.map (·.1)
 |[],_=>by simp[cK]
 |x::L,i=>by
  simp only[cK,List.map_cons,List.mem_cons,not_or]
  by_cases h:k=x.1
  ·simp[h]
  ·rw[if_neg h,j9];simp[h]
theorem Er(x:BA)(f:Int):∀(L:List (Int×BA)) (i:Int),f∉L.map (·.1)->∀k,cK (L++[(f,x)]) i k=if k=f then some (x.at_ (i+L.length))else cK L i k
 |[],i,_,k=>by simp[cK]
 |y::L,i,h,k=>by
  simp only[List.map_cons,List.mem_cons,not_or]at h
  simp only[List.cons_append,cK]
  rw[Er x f L (i+1) h.2 k]
  by_cases e:k=y.1
  ·rw[if_pos e,if_neg (λe2=>h.1 (e2.symm.trans e)),if_pos e]
  ·rw[if_neg e,if_neg e]
   have:i+1+(L.length:Int)=i+((y::L).length:Nat):=by simp;omega
   rw[this]
def gK(mp:Nat)(L:List (Int×BA)):HP:=HP.ex λl=>HP.ex λc=>HP.and (l.map (·.1)=L.map (·.1)) (aC nt iE mp (cK L 0) l c)
theorem aae:(Tryz.prog.info? 347).map (λi=>(i.zero,i.size,i.bytes))=some (some (.agg #[.int .i64 0,.bool false,.int .i64 0,.int .i64 0,.slice none 0 0]),5,56):=by kernel_rfl
theorem Bz:Tryz.prog.underlying 330=some (.map 3 347):=by kernel_rfl
theorem Mt{i r c:Nat}{ty:TypeId}{l:AL Int}{A:HP}(hA:∀R h,A.p R h->h r=some (aJ iE l c)):
 aH Tryz.prog (bI (.call ⟨.builtin .len,#[.tmp i],#[330]⟩) ty [(i,.map (some r))]) A (.int .i64 l.length):=λw R h F s a=>by
 have hg:w.heap[r]? =some (.map (l.map (qY iE)).toArray c):=s.oh _ _ (hA R h a)
 have e:(Builtin.len_ #[330] ty #[.map (some r)]).run Tryz.prog w=.ok (.int .i64 l.length) w:=by
  simp only[Builtin.len_,List.getElem?_toArray,List.getElem?_cons_zero,Sem.run_bind,RX.run_underlying Bz,Result.andThen_ok,run_getObj_map hg,Sem.run_pure,goInt,List.size_toArray,List.length_map]
 have e2:bI (.call ⟨.builtin .len,#[.tmp i],#[330]⟩) ty [(i,.map (some r))]=(do pure (.value (<-Builtin.len_ #[330] ty #[.map (some r)]))):=by simp[bI,execOp,resolve,jR,invoke,builtin]
 rw[e2,Sem.run_bind,e]
 rfl
abbrev g7(b:Nat)(g:j8)(va:Option Addr)(vc mp:Nat):HP:=HP.one b (.cells #[.int .i64 g.acc,.int .i64 g.iA,.int .i64 g.dQ,.slice va g.val.length vc,.int .i64 g.bX,.map (some mp),.int .i64 g.cj] 332 (0,0))
def BOk(g:j8):Prop:=1<=g.acc/\g.acc<=10000/\0<=g.cj/\g.cj<=g.aQ.length/\g.val.length<=140737488355328
def dG(b:Nat)(g:j8):HP:=HP.ex λva=>HP.ex λvc=>HP.ex λmp=>HP.and (BOk g) (HP.an (g7 b g va vc mp) (HP.an (aO va g.val.length g.val) (gK mp g.aQ)))
section
variable (b:Nat)(g:j8)(va:Option Addr)(vc mp:Nat)(P Q:HP)
theorem OM:ax Tryz.prog 226 #[.pointer (some ⟨b,0,none⟩)] (HP.an (g7 b g va vc mp) (HP.an P Q)) (λv=>HP.and (v=.int .i64 g.bX) (HP.an (g7 b g va vc mp) (HP.an P Q))):=by
 refine ah (ρ:=[.n b,.i g.acc,.i g.iA,.i g.dQ,.a va,.n g.val.length,.n vc,.p P,.i g.bX,.n mp,.p Q,.i g.cj]) mixed Tryz.func226 En ?_
 unfold Em
 refine cg ?_
 exact .of λR h H=>⟨trivial,H⟩
theorem I9:ax Tryz.prog 228 #[.pointer (some ⟨b,0,none⟩)] (HP.an (g7 b g va vc mp) (HP.an P Q)) (λv=>HP.and (v=.agg #[.int .i64 g.iA,.int .i64 g.dQ]) (HP.an (g7 b g va vc mp) (HP.an P Q))):=by
 refine ah (ρ:=[.n b,.i g.acc,.i g.iA,.i g.dQ,.a va,.n g.val.length,.n vc,.p P,.i g.bX,.n mp,.p Q,.i g.cj]) mixed Tryz.func228 Bx ?_
 unfold zq
 refine cg ?_
 exact λ_=>.of λR h H=>⟨trivial,H⟩
def zu(acc n:Int):Bool:=decide (acc.tdiv 2<n)
theorem Es(n:Int)(hr:0<=g.acc/\g.acc<=1000000):ax Tryz.prog 316 #[.pointer (some ⟨b,0,none⟩),.int .i64 n] (HP.an (g7 b g va vc mp) (HP.an P Q)) (λv=>HP.and (v=.bool (zu g.acc n)) (HP.an (g7 b g va vc mp) (HP.an P Q))):=by
 refine ah (ρ:=[.n b,.i g.acc,.i g.iA,.i g.dQ,.a va,.n g.val.length,.n vc,.p P,.i g.bX,.n mp,.p Q,.i g.cj,.i n]) mixed Tryz.func316 I7 ?_
 unfold Mr
 refine cg ?_
 have hq:g.acc.tdiv 2=g.acc / 2:=Int.tdiv_eq_ediv_of_nonneg hr.1
 refine⟨aK _ (by rw[hq];omega) (by rw[hq];omega),λ_=>.of λR h H=>⟨rfl,H⟩⟩
theorem ON(hb:g.val.length<=140737488355328):ax Tryz.prog 230 #[.pointer (some ⟨b,0,none⟩)] (HP.an (g7 b g va vc mp) (HP.an (aO va g.val.length g.val) Q))
 (λv=>HP.ex λa=>HP.ex λc=>HP.and (v=.slice a g.val.length c) (HP.an (aO a g.val.length g.val) (HP.an (g7 b g va vc mp) (HP.an (aO va g.val.length g.val) Q)))):=by
 refine ah (ρ:=[.n b,.i g.acc,.i g.iA,.i g.dQ,.a va,.n g.val.length,.n vc,.p (aO va g.val.length g.val),.i g.bX,.n mp,.p Q,.i g.cj]) mixed Tryz.func230 tQ ?_
 unfold wu
 refine cg ?_
 refine(ei (aO va g.val.length g.val) va g.val.length vc g.val (bR.ro _ _ _ _) rfl hb).ak (λ_ _ h=>h) ?_
 rintro v R h ⟨a,c,rfl,H⟩
 refine⟨a,_,c,aO a g.val.length g.val,rfl,.of λR h H=>⟨a,c,rfl,?_⟩,H⟩
 exact HP.pick [_,_,_,_] [3,0,1,2] (by decide) rfl H
def hasB(L:List (Int×BA))(f:Int):Bool:=decide (f∈L.map (·.1))
def jf(g:j8)(f:Int):Bool:=decide ((g.bX=1\/g.bX=2)/\0<=f/\f<g.acc)&& !hasB g.aQ f
theorem aC.shape{mp c:Nat}{L:List (Int×BA)}{l:AL Int}{R h:PH}(H:(aC nt iE mp (cK L 0) l c).p R h):∀k v,aG k l=some v->∃(x:qp) (a:Option Addr) (d:Nat),v=.agg (x.aA a d):=λk v hk=>by
 have:=HP.ai H.2 k
 rw[hk]at this
 revert this
 cases cK L 0 k with
 |none=>exact λh=>h.elim
 |some x=>exact λ⟨a,d,e,_⟩=>⟨x,a,d,e.1⟩
theorem aC.S7{mp c:Nat}{L:List (Int×BA)}{l:AL Int}{R h:PH}(H:(aC nt iE mp (cK L 0) l c).p R h)(k:Int):(aG k l).isSome=hasB L k:=by
 have:=HP.ai H.2 k
 unfold hasB
 cases hf:cK L 0 k with
 |none=>
  rw[hf]at this
  rw[decide_eq_false (j9.1 hf)]
  revert this
  cases aG k l with
  |none=>exact λ_=>rfl
  |some v=>exact λh=>h.elim
 |some x=>
  rw[hf]at this
  have hm:k∈L.map (·.1):=Classical.byContradiction λhn=>by rw[j9.2 hn]at hf;cases hf
  rw[decide_eq_true hm]
  revert this
  cases aG k l with
  |none=>exact λh=>h.elim
  |some v=>exact λ_=>rfl
theorem OO(f:Int)(l:AL Int)(cl:Nat):ax Tryz.prog 286 #[.pointer (some ⟨b,0,none⟩),.int .i64 f] (HP.an (g7 b g va vc mp) (HP.an P (aC nt iE mp (cK g.aQ 0) l cl)))
 (λv=>HP.and (v=.bool (jf g f)) (HP.an (g7 b g va vc mp) (HP.an P (aC nt iE mp (cK g.aQ 0) l cl)))):=by
 refine ax.bV (φ:=(∀k v,aG k l=some v->∃(x:qp) (a:Option Addr) (d:Nat),v=.agg (x.aA a d))/\(aG f l).isSome=hasB g.aQ f) (λR h H=>⟨aC.shape (HP.ai (HP.ai H)),aC.S7 (HP.ai (HP.ai H)) f⟩) λ⟨hsh,hs⟩=>?_
 refine ah (ρ:=[.n b,.i g.acc,.i g.iA,.i g.dQ,.a va,.n g.val.length,.n vc,.p P,.i g.bX,.n mp,.p (aC nt iE mp (cK g.aQ 0) l cl),.i g.cj,.i f]) mixed Tryz.func286 Ep ?_
 unfold Eo
 refine cg ?_
 obtain⟨i,hi,z1,z2,z3⟩:=info_parts aae
 have np:=gX (r:=mp) (l:=l) (c:=cl) iK Bz hi z1 f true (A:=aC nt iE mp (cK g.aQ 0) l cl) λR h H=>aC.at H
 have fR:∃(x:qp) (a:Option Addr) (d:Nat),aH Tryz.prog (kU 330 (.map (some mp)) (.int .i64 f) true) (aC nt iE mp (cK g.aQ 0) l cl) (.tuple #[.agg (x.aA a d),.bool (hasB g.aQ f)]):=by
  rw[hs]at np
  cases hf:aG f l with
  |none=>rw[hf]at np;exact⟨⟨0,false,0,0,[]⟩,none,0,np⟩
  |some v=>obtain⟨x,a,d,rfl⟩:=hsh f v hf;rw[hf]at np;exact⟨x,a,d,np⟩
 obtain⟨x,a,d,hl⟩:=fR
 unfold jf
 have no:¬((g.bX=1\/g.bX=2)/\0<=f/\f<g.acc)->HP.aV (HP.an (g7 b g va vc mp) (HP.an P (aC nt iE mp (cK g.aQ 0) l cl))) (HP.and (Value.bool false=Value.bool (decide ((g.bX=1\/g.bX=2)/\0<=f/\f<g.acc)&& !hasB g.aQ f)) (HP.an (g7 b g va vc mp) (HP.an P (aC nt iE mp (cK g.aQ 0) l cl)))):=λhn=>.of λR h H=>⟨by rw[decide_eq_false hn];rfl,H⟩
 have Bo:((g.bX=1\/g.bX=2)/\0<=f/\f<g.acc)->HP.aV (HP.an (g7 b g va vc mp) (HP.an P (aC nt iE mp (cK g.aQ 0) l cl))) (HP.and (Value.bool (!hasB g.aQ f)=Value.bool (decide ((g.bX=1\/g.bX=2)/\0<=f/\f<g.acc)&& !hasB g.aQ f)) (HP.an (g7 b g va vc mp) (HP.an P (aC nt iE mp (cK g.aQ 0) l cl)))):=λhn=>.of λR h H=>⟨by rw[decide_eq_true hn];simp,H⟩
 have ade:((g.bX=1\/g.bX=2)/\0<=f/\f<g.acc)->HP.aV (HP.an (g7 b g va vc mp) (HP.an P (aC nt iE mp (cK g.aQ 0) l cl))) (HP.and (Value.bool (decide (¬hasB g.aQ f=true))=Value.bool (decide ((g.bX=1\/g.bX=2)/\0<=f/\f<g.acc)&& !hasB g.aQ f)) (HP.an (g7 b g va vc mp) (HP.an P (aC nt iE mp (cK g.aQ 0) l cl)))):=λhn=>.of λR h H=>⟨by rw[decide_eq_true hn];simp,H⟩
 refine⟨λh1=>⟨λh2=>no (by omega),λh2=>⟨λh3=>no (by omega),λh3=>⟨λh4=>no (by omega),λh4=>⟨_,_,_,_,_,_,_,_,hl,λ_=>?_⟩⟩⟩⟩,λh1=>⟨λh3=>no (by omega),λh3=>⟨λh4=>no (by omega),λh4=>⟨_,_,_,_,_,_,_,_,hl,λ_=>?_⟩⟩⟩⟩
 ·first|exact Bo (by omega)|exact ade (by omega)
 ·first|exact Bo (by omega)|exact ade (by omega)
theorem gK.put{l:AL Int}{cl:Nat}{L:List (Int×BA)}(hk:l.map (·.1)=L.map (·.1)){f:Int}(hf:f∉L.map (·.1))(x:BA)(a:Option Addr)(d:Nat)(hx:x.val.length<=140737488355328):
 aI Tryz.prog (jL 330 (.map (some mp)) (.int .i64 f) (.agg ((x.at_ L.length).aA a d))) (HP.an (aC nt iE mp (cK L 0) l cl) (aO a x.val.length x.val)) (λz=>HP.and (z=.tuple #[]) (HP.an (gK mp (L++[(f,x)])) (aO a x.val.length x.val))):=by
 refine aI.bV (φ:=iJ l cl/\aG f l=none) (λR h H=>⟨(HP.aj H).1,aC.no (HP.aj H) (j9.2 hf)⟩) λ⟨hI,hn⟩=>?_
 refine((qj (r:=mp) (l:=l) (c:=cl) iK Bz f (.agg ((x.at_ L.length).aA a d))).frame (HP.an (lG nt l (cK L 0)) (aO a x.val.length x.val))).ak (λR h ⟨h1,h2,d,l1,l2,⟨_,H⟩,hA⟩=>HP.aq ⟨h1,h2,d,l1,l2,H,hA⟩) ?_
 rintro z R h ⟨h1,h2,dd,l1,l2,⟨rfl,vQ⟩,kh⟩
 have hro:=HP.ai kh
 have hv:∀q,(nt (.agg ((x.at_ L.length).aA a d)) (x.at_ L.length)).p R q:=λq=>nt.gf _ _ _ _ _ ⟨a,d,⟨rfl,hx⟩,hro⟩
 have hF:gU (cK L 0) f (some (x.at_ L.length))=cK (L++[(f,x)]) 0:=by
  funext k
  rw[Er x f L 0 hf k,gU,Int.zero_add]
 refine⟨rfl,HP.ae (HP.ay ⟨h1,h2,dd,l1,l2,vQ,kh⟩) (λy hy=>⟨_,_,?_,hI.put f _,HP.ae hy (λ_ h=>h) λq hq=>?_⟩) λ_ h=>h⟩
 ·rw[qk _ _ _ _ hn,List.map_append,List.map_append,hk];rfl
 ·rw[<-hF]
  exact lG.put hq f _ cl _ (hv q)
theorem WL{i mp:Nat}{ty:TypeId}{L:List (Int×BA)}:aH Tryz.prog (bI (.call ⟨.builtin .len,#[.tmp i],#[330]⟩) ty [(i,.map (some mp))]) (gK mp L) (.int .i64 L.length):=λw R h F s ⟨l,c,hk,H⟩=>by
 have e:l.length=L.length:=by simpa using congrArg List.length hk
 rw[<-e]
 exact Mt (A:=aC nt iE mp (cK L 0) l c) (λR h H=>aC.at H) w R h F s H
def cB(g:j8)(f:Int)(x:BA):j8×Bool:=
 if x.ok=true then({g with aQ:=g.aQ++[(f,x)],cj:=g.cj+1},zu g.acc (g.cj+1))
 else if zu g.acc (g.acc - (g.aQ.length+1 - g.cj))=true then({g with aQ:=g.aQ++[(f,x)]},false)
 else({g with aQ:=g.aQ++[(f,x)],bX:=4},false)
theorem wz(f:Int)(x:BA)(t0:Int)(a:Option Addr)(d:Nat)(hx:x.val.length<=140737488355328)(hf:hasB g.aQ f=false)(hlen:g.aQ.length<=100000)(hB:BOk g):
 ax Tryz.prog 287 #[.pointer (some ⟨b,0,none⟩),.int .i64 f,.agg ((x.at_ t0).aA a d)] (HP.an (g7 b g va vc mp) (HP.an P (HP.an (gK mp g.aQ) (aO a x.val.length x.val))))
  (λv=>HP.and (v=.bool (cB g f x).2) (HP.an (g7 b (cB g f x).1 va vc mp) (HP.an P (HP.an (gK mp (cB g f x).1.aQ) (aO a x.val.length x.val))))):=by
 obtain⟨b1,b2,b3,b4,b5⟩:=hB
 have YJ:f∉g.aQ.map (·.1):=by unfold hasB at hf;simpa using hf
 refine(ax.ex (A:=λl=>HP.ex λcl=>HP.and (l.map (·.1)=g.aQ.map (·.1)) (HP.an (g7 b g va vc mp) (HP.an P (HP.an (aC nt iE mp (cK g.aQ 0) l cl) (aO a x.val.length x.val))))) λl=>ax.ex λcl=>ax.pure λhk=>?_).ak (λR h H=>?_) λ_ _ _ h=>h
 ·refine ah (ρ:=[.n b,.i g.acc,.i g.iA,.i g.dQ,.a va,.n g.val.length,.n vc,.p P,.i g.bX,.n mp,.p (aC nt iE mp (cK g.aQ 0) l cl),.i g.cj,.i f,.i t0,.c x.ok,.i x.r,.i x.w,.a a,.n x.val.length,.n d,.p (aO a x.val.length x.val)]) mixed Tryz.func287 I8 ?_
  unfold Ms
  refine cg ?_
  intro _
  have hln:l.length=g.aQ.length:=by simpa using congrArg List.length hk
  refine⟨g.aQ.length,by rw[<-hln];exact Mt λR h H=>aC.at H,?_⟩
  refine(gK.put mp hk YJ x a d hx).ak (λ_ _ h=>h) ?_
  rintro v R h ⟨rfl,H⟩
  refine⟨gK mp (g.aQ++[(f,x)]),rfl,⟨λh1=>⟨aK _ (by omega) (by omega),λ_=>?_⟩,λh1=>⟨_,WL,?_⟩⟩,H⟩
  ·refine(Es b {g with aQ:=g.aQ++[(f,x)],cj:=g.cj+1} va vc mp P (gK mp (g.aQ++[(f,x)])) (g.cj+1) ⟨by show 0<=g.acc;omega,by show g.acc<=1000000;omega⟩).ak (λ_ _ h=>h) ?_
   rintro v R h ⟨rfl,H⟩
   refine⟨_,rfl,.of λR h H=>?_,H⟩
   have e:cB g f x=({g with aQ:=g.aQ++[(f,x)],cj:=g.cj+1},zu g.acc (g.cj+1)):=if_pos h1
   rw[e]
   exact⟨rfl,H⟩
  ·have el:((g.aQ++[(f,x)]).length:Int)=g.aQ.length+1:=by simp
   rw[el]
   refine⟨aK _ (by omega) (by omega),λ_=>⟨aK _ (by omega) (by omega),λ_=>?_⟩⟩
   refine(Es b {g with aQ:=g.aQ++[(f,x)]} va vc mp P (gK mp (g.aQ++[(f,x)])) _ ⟨by show 0<=g.acc;omega,by show g.acc<=1000000;omega⟩).ak (λ_ _ h=>h) ?_
   rintro v R h ⟨rfl,H⟩
   refine⟨_,rfl,⟨λh2=>.of λR h H=>?_,λh2=>.of λR h H=>?_⟩,H⟩
   ·have e:cB g f x=({g with aQ:=g.aQ++[(f,x)],bX:=4},false):=by unfold cB;rw[if_neg h1];exact if_neg h2
    rw[e]
    exact⟨rfl,H⟩
   ·have e:cB g f x=({g with aQ:=g.aQ++[(f,x)]},false):=by unfold cB;rw[if_neg h1];exact if_pos h2
    rw[e]
    exact⟨rfl,H⟩
 ·obtain⟨h1,h2,e1,l1,l2,HO,h3,h4,e2,l3,l4,HP',h5,h6,e3,l5,l6,⟨l,cl,hk,HM⟩,HR⟩:=H
  exact⟨l,cl,hk,h1,h2,e1,l1,l2,HO,h3,h4,e2,l3,l4,HP',h5,h6,e3,l5,l6,HM,HR⟩
end
def kZ(x:qp):Prop:=x.ok=true/\¬(x.r=0/\x.w=0)
def nv(x y:qp):Prop:=x.r<y.r\/(x.r=y.r/\x.w<y.w)
def tU(F:Int->Option qp)(l:AL Int)(S:Array Nat)(x:qp):Prop:=
 (x.r=0/\x.w=0/\∀z∈l,z.2.2∈S->∀y,F z.1=some y->¬kZ y)\/
 (kZ x/\(∃k,F k=some x)/\∀z∈l,z.2.2∈S->∀y,F z.1=some y->kZ y->¬nv x y)
def n7(F:Int->Option qp)(v0 v:List UInt8):Prop:=
 ((∀k y,F k=some y->¬kZ y)/\v=v0)\/∃k x,F k=some x/\kZ x/\v=x.val/\∀k' y,F k'=some y->kZ y->¬nv x y
theorem tU.skip{F:Int->Option qp}{l:AL Int}{c:Nat}(hs:gI l c){S:Array Nat}{x y:qp}{z:Int×Value×Nat}(hz:z∈l)(hy:F z.1=some y)(h:tU F l S x)(hn:kZ y->kZ x/\¬nv x y):tU F l (S.push z.2.2) x:=by
 rcases h with⟨r0,w0,hno⟩|⟨hc,hex,Ja⟩
 ·refine .inl ⟨r0,w0,λq hq HY y' Mu yd=>?_⟩
  rcases g6 hs hz hq HY with rfl|HY
  ·rw[hy]at Mu;cases Mu
   exact(hn yd).1.2 ⟨r0,w0⟩
  ·exact hno q hq HY y' Mu yd
 ·refine .inr ⟨hc,hex,λq hq HY y' Mu yd=>?_⟩
  rcases g6 hs hz hq HY with rfl|HY
  ·rw[hy]at Mu;cases Mu
   exact(hn yd).2
  ·exact Ja q hq HY y' Mu yd
theorem tU.take{F:Int->Option qp}{l:AL Int}{c:Nat}(hs:gI l c){S:Array Nat}{x y:qp}{z:Int×Value×Nat}(hz:z∈l)(hy:F z.1=some y)(h:tU F l S x)(hc:kZ y)(hn:(x.r=0/\x.w=0)\/¬nv y x):tU F l (S.push z.2.2) y:=by
 refine .inr ⟨hc,⟨z.1,hy⟩,λq hq HY y' Mu yd=>?_⟩
 rcases g6 hs hz hq HY with rfl|HY
 ·rw[hy]at Mu;cases Mu
  unfold nv;omega
 ·rcases h with⟨r0,w0,hno⟩|⟨hcx,_,Ja⟩
  ·exact absurd yd (hno q hq HY y' Mu)
  ·have h1:=Ja q hq HY y' Mu yd
   have h2:=hn.resolve_left hcx.2
   unfold nv at*
   omega
theorem Jb{y x:qp}(h:qq y x=true):¬nv y x:=by
 unfold qq at h
 unfold nv
 split at h
 ·omega
 ·have:=of_decide_eq_true h;omega
theorem OP{y x:qp}(h:¬qq y x=true):¬nv x y:=by
 unfold qq at h
 unfold nv
 split at h
 ·omega
 ·have h2:¬(x.r<y.r\/(y.r=x.r/\x.w<y.w)):=λe=>h (decide_eq_true e)
  omega
set_option maxHeartbeats 2000000 in
theorem Jc(b:Nat)(g:j8)(va:Option Addr)(vc mp:Nat)(hB:BOk g):
 ax Tryz.prog 288 #[.pointer (some ⟨b,0,none⟩)] (HP.an (g7 b g va vc mp) (HP.an (aO va g.val.length g.val) (gK mp g.aQ)))
  (λv=>HP.ex λval=>HP.ex λpK=>HP.ex λuC=>HP.and (v=.tuple #[]/\n7 (cK g.aQ 0) g.val val) (HP.an (g7 b {g with val:=val} pK uC mp) (HP.an (aO pK val.length val) (gK mp g.aQ)))):=by
 refine(ax.ex (A:=λl=>HP.ex λcl=>HP.and (l.map (·.1)=g.aQ.map (·.1)) (HP.an (g7 b g va vc mp) (HP.an (aO va g.val.length g.val) (aC nt iE mp (cK g.aQ 0) l cl)))) λl=>ax.ex λcl=>ax.pure λhk=>?_).ak (λR h H=>?_) λ_ _ _ h=>h
 ·refine ax.bV (φ:=iJ l cl) (λR h H=>(HP.ai (HP.ai H)).1) λhI=>?_
  refine ah (ρ:=[.n b,.i g.acc,.i g.iA,.i g.dQ,.a va,.n g.val.length,.n vc,.p (aO va g.val.length g.val),.i g.bX,.n mp,.p (aC nt iE mp (cK g.aQ 0) l cl),.i g.cj]) mixed Tryz.func288 By ?_
  unfold zr
  refine cg ?_
  intro _
  refine((nT (m:=mp) (l:=l) (c:=cl) (enc:=iE) Bz).frame (lG nt l (cK g.aQ 0))).ak (λR h H=>H.2) ?_
  rintro v R h ⟨h1,h2,d,l1,l2,⟨it,rfl,H⟩,HV⟩
  have Hst:(HP.an (HP.one it (.mapIter (some mp) cl #[] cl)) (aC nt iE mp (cK g.aQ 0) l cl)).p R h:=HP.ae (HP.aq ⟨h1,h2,d,l1,l2,H,HV⟩) (λ_ h=>h) λy hy=>⟨hI,hy⟩
  clear H HV d l1 l2
  let J:HP->HP->Int->Bool->Int->Int->Option Addr->Nat->Nat->HP->Nat->Prop:=λPi Pm t ok r w ba bn _ Pb N=>∃(S:Array Nat) (x:qp),Pi=HP.one it (.mapIter (some mp) cl S cl)/\Pm=aC nt iE mp (cK g.aQ 0) l cl/\t=x.aY/\ok=x.ok/\r=x.r/\w=x.w/\bn=x.val.length/\(∀R h,Pb.p R h->(aO ba x.val.length x.val).p R h)/\tU (cK g.aQ 0) l S x/\lZ l S=N
  refine⟨it,_,_,rfl,⟨λPi Pm t ok r w ba bn bc Pb=>∃N,J Pi Pm t ok r w ba bn bc Pb N,λPi Pm t ok r w ba bn bc Pb=>eK (J Pi Pm t ok r w ba bn bc Pb),⟨_,#[],⟨0,false,0,0,[]⟩,rfl,rfl,rfl,rfl,rfl,rfl,rfl,λR h _=>n6 none,.inl ⟨rfl,rfl,λz _ hz=>absurd hz (by simp)⟩,rfl⟩,?_⟩,Hst⟩
  intro Pi Pm t ok r w ba bn bc Pb hJ
  have S8:=kX hJ
  generalize VN:eK (J Pi Pm t ok r w ba bn bc Pb)=N at S8
  obtain⟨S,x,rfl,rfl,rfl,rfl,rfl,rfl,rfl,hPb,tV,hN⟩:=S8
  clear hJ
  refine(wg hI.2).ak (λ_ _ h=>h) ?_
  rintro v R h ⟨e,he,H⟩
  rcases e with _|z
  ·refine⟨false,.tuple #[],.tuple #[],_,he.1,⟨λh=>(by cases h),λ_=>?_⟩,H⟩
   clear H
   have seen:∀k y,cK g.aQ 0 k=some y->∃q∈l,q.1=k/\q.2.2∈S:=λk y hy=>by
    have hm:k∈g.aQ.map (·.1):=Classical.byContradiction λhn=>by rw[j9.2 hn]at hy;cases hy
    rw[<-hk]at hm
    obtain⟨q,hq,rfl⟩:=List.mem_map.1 hm
    exact⟨q,hq,rfl,he.2 q hq⟩
   have adg:(!(decide (x.r=0)&&decide (x.w=0)))=true↔¬(x.r=0/\x.w=0):=by
    by_cases e1:x.r=0<;>by_cases e2:x.w=0<;>simp[e1,e2]
   refine⟨_,ac1 (by decide),λh1=>.of λR h H=>?_,λh1=>.of λR h H=>?_⟩
   ·rcases tV with⟨r0,w0,_⟩|⟨hc,⟨k0,hk0⟩,Ja⟩
    ·exact absurd ⟨r0,w0⟩ (adg.1 h1)
    ·refine⟨x.val,ba,bc,⟨trivial,.inr ⟨k0,x,hk0,hc,rfl,λk' y hy hcy=>?_⟩⟩,HP.ae H (λ_ h=>h) λz hz=>HP.ae hz (λu hu=>hPb R u hu) λu hu=>⟨l,cl,hk,HP.aj hu⟩⟩
     obtain⟨q,hq,rfl,HY⟩:=seen k' y hy
     exact Ja q hq HY y hy hcy
   ·rcases tV with⟨r0,w0,hno⟩|⟨hc,_,_⟩
    ·refine⟨g.val,va,vc,⟨trivial,.inl ⟨λk' y hy=>?_,rfl⟩⟩,HP.ae H (λ_ h=>h) λz hz=>HP.ae hz (λ_ h=>h) λu hu=>⟨l,cl,hk,hu⟩⟩
     obtain⟨q,hq,rfl,HY⟩:=seen k' y hy
     exact hno q hq HY y hy
    ·exact absurd (adg.2 hc.2) h1
  ·obtain⟨rfl,hz,hzS⟩:=he
   have mf:aG z.1 l=some z.2.1:=mL z.1 z.2.1 z.2.2 l hI.1 hz
   obtain⟨y,hy,a,c,hv⟩:∃y,cK g.aQ 0 z.1=some y/\∃a c,z.2.1=.agg (y.aA a c):=by
    have Hm:=HP.ai H
    cases VO:cK g.aQ 0 z.1 with
    |none=>rw[aC.no Hm VO]at mf;cases mf
    |some y=>
     obtain⟨v,hv,a,c,⟨e,_⟩,_⟩:=aC.Bo Hm nt.gf VO h
     rw[mf]at hv;cases hv
     exact⟨y,rfl,a,c,e⟩
   refine⟨true,iE z.1,z.2.1,_,rfl,⟨λ_=>?_,λh=>by simp at h⟩,H⟩
   clear H
   have x5:=vX (enc:=iE) (it:=it) (m:=mp) (c:=cl) (S:=S) (x:=z) hI.2 hz (A:=HP.an (HP.one it (.mapIter (some mp) cl (kr S (some z)) cl)) (aC nt iE mp (cK g.aQ 0) l cl)) (λR h H=>HP.aj H) (λR h H=>aC.at (HP.ai H))
   rw[hv]at x5
   have iW:∀(x':qp) (ba':Option Addr) (bc':Nat) (Pb':HP),(∀R h,Pb'.p R h->(aO ba' x'.val.length x'.val).p R h)->tU (cK g.aQ 0) l (S.push z.2.2) x'->
    (∃N,J (HP.one it (.mapIter (some mp) cl (kr S (some z)) cl)) (aC nt iE mp (cK g.aQ 0) l cl) x'.aY x'.ok x'.r x'.w ba' x'.val.length bc' Pb' N)/\eK (J (HP.one it (.mapIter (some mp) cl (kr S (some z)) cl)) (aC nt iE mp (cK g.aQ 0) l cl) x'.aY x'.ok x'.r x'.w ba' x'.val.length bc' Pb')<eK (J (HP.one it (.mapIter (some mp) cl S cl)) (aC nt iE mp (cK g.aQ 0) l cl) x.aY x.ok x.r x.w ba x.val.length bc Pb):=λx' ba' bc' Pb' h1 h2=>by
    have Et:J (HP.one it (.mapIter (some mp) cl (kr S (some z)) cl)) (aC nt iE mp (cK g.aQ 0) l cl) x'.aY x'.ok x'.r x'.w ba' x'.val.length bc' Pb' (lZ l (S.push z.2.2)):=⟨S.push z.2.2,x',rfl,rfl,rfl,rfl,rfl,rfl,rfl,h1,h2,rfl⟩
    exact⟨⟨_,Et⟩,Nat.lt_of_le_of_lt (j7 Et) (by rw[VN,<-hN];exact kq hz hzS)⟩
   refine aI.IF x5 λR' h' H'=>⟨z.1,y.aY,y.ok,y.r,y.w,a,y.val.length,c,aO a y.val.length y.val,HP.one it (.mapIter (some mp) cl (kr S (some z)) cl),aC nt iE mp (cK g.aQ 0) l cl,rfl,λnb=>?_,?_⟩
   ·refine⟨λh1=>iW x ba bc Pb hPb (tV.skip hI.2 hz hy λhc=>absurd hc.1 h1),λh1=>⟨_,Wv (by decide),λh2=>?_,λh2=>⟨_,Wv (by decide),λh3=>?_,λh3=>?_⟩⟩⟩
    ·exact iW x ba bc Pb hPb (tV.skip hI.2 hz hy λhc=>absurd (by simpa using h2) hc.2)
    ·exact iW y a c _ (λ_ _ h=>h) (tV.take hI.2 hz hy ⟨h1,by simpa using h2⟩ (.inl (by simpa using h3)))
    ·have hcx:kZ x:=by
      rcases tV with⟨r0,w0,_⟩|⟨hc,_⟩
      ·exact absurd (by simp[r0,w0]) h3
      ·exact hc
     have hcy:kZ y:=⟨h1,by simpa using h2⟩
     refine(OL (aO a y.val.length y.val) (HP.an (aC nt iE mp (cK g.aQ 0) l cl) Pb) y x a ba c bc).ak (λ_ _ h=>h) ?_
     rintro v R h ⟨rfl,H⟩
     exact⟨_,rfl,⟨λh4=>iW y a c _ (λ_ _ h=>h) (tV.take hI.2 hz hy hcy (.inr (Jb h4))),λh4=>iW x ba bc Pb hPb (tV.skip hI.2 hz hy λ_=>⟨hcx,OP h4⟩)⟩,H⟩
   ·obtain⟨v,HJ,a',c',⟨e,_⟩,hro⟩:=aC.Bo (HP.ai H') nt.gf hy h'
    rw[mf,hv]at HJ
    cases HJ
    simp only[Value.agg.injEq,Array.mk.injEq,List.cons.injEq,Value.slice.injEq,and_true,true_and]at e
    obtain⟨rfl,rfl⟩:=e
    exact bb.join hro H'
 ·obtain⟨h1,h2,e1,l1,l2,HO,h3,h4,e2,l3,l4,HP',⟨l,cl,hk,HM⟩⟩:=H
  exact⟨l,cl,hk,h1,h2,e1,l1,l2,HO,h3,h4,e2,l3,l4,HP',HM⟩
theorem dG.kF{f:FuncId}{args:Array Value}{b:Nat}{g:j8}{K:HP}{B:Value->HP}
 (t:∀va vc mp,BOk g->ax Tryz.prog f args (HP.an (g7 b g va vc mp) (HP.an (aO va g.val.length g.val) (HP.an (gK mp g.aQ) K))) B):ax Tryz.prog f args (HP.an (dG b g) K) B:=by
 refine(ax.ex (A:=λva=>HP.ex λvc=>HP.ex λmp=>HP.and (BOk g) (HP.an (g7 b g va vc mp) (HP.an (aO va g.val.length g.val) (HP.an (gK mp g.aQ) K)))) λva=>ax.ex λvc=>ax.ex λmp=>ax.pure λh=>t va vc mp h).ak (λR h H=>?_) λ_ _ _ h=>h
 obtain⟨h1,h2,d,l1,l2,⟨va,vc,mp,hB,H⟩,HK⟩:=H
 exact⟨va,vc,mp,hB,HP.ae (HP.aq ⟨h1,h2,d,l1,l2,H,HK⟩) (λ_ h=>h) λy hy=>HP.aq hy⟩
theorem qr(b:Nat)(g:j8)(va:Option Addr)(vc mp:Nat)(P:HP)(f:Int):ax Tryz.prog 286 #[.pointer (some ⟨b,0,none⟩),.int .i64 f] (HP.an (g7 b g va vc mp) (HP.an P (gK mp g.aQ)))
 (λv=>HP.and (v=.bool (jf g f)) (HP.an (g7 b g va vc mp) (HP.an P (gK mp g.aQ)))):=by
 refine(ax.ex (A:=λl=>HP.ex λcl=>HP.and (l.map (·.1)=g.aQ.map (·.1)) (HP.an (g7 b g va vc mp) (HP.an P (aC nt iE mp (cK g.aQ 0) l cl)))) λl=>ax.ex λcl=>ax.pure λhk=>?_).ak (λR h H=>?_) λ_ _ _ h=>h
 ·exact(OO b g va vc mp P f l cl).ak (λ_ _ h=>h) λv R h ⟨e,H⟩=>⟨e,HP.ae H (λ_ h=>h) λy hy=>HP.ae hy (λ_ h=>h) λz hz=>⟨l,cl,hk,hz⟩⟩
 ·obtain⟨h1,h2,e1,l1,l2,HO,h3,h4,e2,l3,l4,HP',⟨l,cl,hk,HM⟩⟩:=H
  exact⟨l,cl,hk,h1,h2,e1,l1,l2,HO,h3,h4,e2,l3,l4,HP',HM⟩
def Eu(g:j8)(f e:Int):j8:=
 if g.bX=2/\jf g f=true then(if(cB g f ⟨decide (e=0),0,0,[]⟩).2=true then{(cB g f ⟨decide (e=0),0,0,[]⟩).1 with bX:=3}else(cB g f ⟨decide (e=0),0,0,[]⟩).1)else g
theorem sL{g:j8}{f:Int}(h:jf g f=true):hasB g.aQ f=false:=by
 unfold jf at h
 rw[Bool.and_eq_true]at h
 simpa using h.2
theorem pe(g:j8)(f:Int)(x:BA):(cB g f x).1.val=g.val:=by unfold cB;split<;>(try split)<;>rfl
theorem wA{g:j8}(f:Int)(x:BA)(h:BOk g):BOk (cB g f x).1:=by
 obtain⟨h1,h2,h3,h4,h5⟩:=h
 unfold cB
 split
 ·exact⟨h1,h2,by show 0<=g.cj+1;omega,by show g.cj+1<=((g.aQ++[(f,x)]).length:Int);simp;omega,h5⟩
 ·split<;>exact⟨h1,h2,h3,by show g.cj<=((g.aQ++[(f,x)]).length:Int);simp;omega,h5⟩
theorem BB(b:Nat)(g:j8)(f e:Int)(hlen:g.aQ.length<=100000):ax Tryz.prog 225 #[.pointer (some ⟨b,0,none⟩),.int .i64 f,.int .i64 e] (dG b g) (λv=>HP.and (v=.tuple #[]) (dG b (Eu g f e))):=by
 refine(dG.kF (K:=HP.tt) λva vc mp hB=>?_).ak (λR h H=>HP.az H) λ_ _ _ h=>h
 refine ax.ak (A:=HP.an (g7 b g va vc mp) (HP.an (aO va g.val.length g.val) (gK mp g.aQ))) ?_ (λR h H=>HP.ae H (λ_ h=>h) λy hy=>HP.ae hy (λ_ h=>h) λz hz=>HP.aj hz) λ_ _ _ h=>h
 refine ah (ρ:=[.n b,.i g.acc,.i g.iA,.i g.dQ,.a va,.n g.val.length,.n vc,.p (aO va g.val.length g.val),.i g.bX,.n mp,.p (gK mp g.aQ),.i g.cj,.i f,.i e]) mixed Tryz.func225 wv ?_
 unfold tR
 refine cg ?_
 have same:Eu g f e=g->HP.aV (HP.an (g7 b g va vc mp) (HP.an (aO va g.val.length g.val) (gK mp g.aQ))) (HP.and True (dG b (Eu g f e))):=λh=>.of λR y H=>⟨trivial,by rw[h];exact⟨va,vc,mp,hB,H⟩⟩
 refine⟨λh1=>same (if_neg λh=>h1 h.1),λh1=>?_⟩
 refine(qr b g va vc mp (aO va g.val.length g.val) f).ak (λ_ _ h=>h) ?_
 rintro v R h ⟨rfl,H⟩
 refine⟨_,rfl,⟨λh2=>same (if_neg λh=>h2 h.2),λh2=>?_⟩,H⟩
 clear H
 have hT:=wA f ⟨decide (e=0),0,0,[]⟩ hB
 have hv:=pe g f ⟨decide (e=0),0,0,[]⟩
 have adj:Eu g f e=if(cB g f ⟨decide (e=0),0,0,[]⟩).2=true then{(cB g f ⟨decide (e=0),0,0,[]⟩).1 with bX:=3}else(cB g f ⟨decide (e=0),0,0,[]⟩).1:=if_pos ⟨h1,h2⟩
 refine(wz b g va vc mp (aO va g.val.length g.val) f ⟨decide (e=0),0,0,[]⟩ 0 none 0 (by simp) (sL h2) hlen hB).ak (λR h H=>HP.ae H (λ_ h=>h) λy hy=>HP.ae hy (λ_ h=>h) λz hz=>bb.gR (n6 none:(aO none 0 []).p R z) hz) ?_
 rw[adj]
 clear adj same
 revert hT hv
 generalize cB g f ⟨decide (e=0),0,0,[]⟩=T
 intro hT hv
 rintro v R h ⟨rfl,H⟩
 rw[<-hv]at H
 refine⟨T.2,T.1.acc,T.1.iA,T.1.dQ,va,T.1.val.length,vc,aO va T.1.val.length T.1.val,T.1.bX,mp,gK mp T.1.aQ,T.1.cj,rfl,⟨λh=>.of λR y H=>⟨trivial,?_⟩,λh=>.of λR y H=>⟨trivial,?_⟩⟩,HP.ae H (λ_ h=>h) λy hy=>HP.ae hy (λ_ h=>h) λz hz=>HP.aj hz⟩
 ·rw[if_pos h];exact⟨va,vc,mp,hT,H⟩
 ·rw[if_neg h];exact⟨va,vc,mp,hT,H⟩
def mg(r w:Int)(l:List UInt8)(e:Int):BA:=if e=0 then⟨true,r,w,l⟩else⟨false,0,0,[]⟩
def nw(g:j8)(f r w:Int)(l:List UInt8)(e:Int)(g':j8):Prop:=
 if g.bX=1/\jf g f=true then
  (if(cB g f (mg r w l e)).2=true then ∃val,n7 (cK (cB g f (mg r w l e)).1.aQ 0) g.val val/\g'={(cB g f (mg r w l e)).1 with val:=val,bX:=2,aQ:=[],cj:=0}else g'=(cB g f (mg r w l e)).1)
 else g'=g
theorem n7.le{L:List (Int×BA)}{v0 v:List UInt8}(h:n7 (cK L 0) v0 v)(h0:v0.length<=140737488355328)(hL:∀x∈L,x.2.val.length<=140737488355328):v.length<=140737488355328:=by
 have aux:∀(L:List (Int×BA)) (i k:Int) (x:qp),cK L i k=some x->∃y∈L,y.2.val=x.val:=λL=>by
  induction L with
  |nil=>intro i k x h;cases h
  |cons y L ih=>
   intro i k x h
   simp only[cK]at h
   split at h
   ·cases h;exact⟨y,by simp,rfl⟩
   ·obtain⟨z,hz,e⟩:=ih (i+1) k x h;exact⟨z,List.mem_cons_of_mem _ hz,e⟩
 rcases h with⟨_,rfl⟩|⟨k,x,hx,_,rfl,_⟩
 ·exact h0
 ·obtain⟨y,hy,e⟩:=aux L 0 k x hx
  rw[<-e];exact hL y hy
theorem gK.new(mp:Nat){R h:PH}(H:(HP.one mp (.map #[] 0)).p R h):(gK mp []).p R h:=
 ⟨[],0,rfl,iJ.nil 0,HP.ae (HP.az H) (λ_ h=>h) λ_ _ _=>trivial⟩
theorem BD(b:Nat)(g:j8)(f r w e:Int)(a:Option Addr)(c:Nat)(l:List UInt8)(hl:l.length<=140737488355328)(hL:∀x∈g.aQ,x.2.val.length<=140737488355328)(hlen:g.aQ.length<=100000):
 ax Tryz.prog 224 #[.pointer (some ⟨b,0,none⟩),.int .i64 f,.agg #[.int .i64 r,.int .i64 w],.slice a l.length c,.int .i64 e] (HP.an (dG b g) (aO a l.length l)) (λv=>HP.ex λg'=>HP.and (v=.tuple #[]/\nw g f r w l e g') (dG b g')):=by
 refine dG.kF λva vc mp hB=>?_
 refine ah (ρ:=[.n b,.i g.acc,.i g.iA,.i g.dQ,.a va,.n g.val.length,.n vc,.p (aO va g.val.length g.val),.i g.bX,.n mp,.p (gK mp g.aQ),.i g.cj,.i f,.i r,.i w,.a a,.n l.length,.n c,.p (aO a l.length l),.i e]) mixed Tryz.func224 ww ?_
 unfold tS
 refine cg ?_
 intro _
 have same:¬(g.bX=1/\jf g f=true)->HP.aV (HP.an (g7 b g va vc mp) (HP.an (aO va g.val.length g.val) (HP.an (gK mp g.aQ) (aO a l.length l)))) (HP.ex λg'=>HP.and (True/\nw g f r w l e g') (dG b g')):=λh=>.of λR y H=>⟨g,⟨trivial,by unfold nw;rw[if_neg h]⟩,va,vc,mp,hB,HP.ae H (λ_ h=>h) λy hy=>HP.ae hy (λ_ h=>h) λz hz=>HP.aj hz⟩
 refine⟨λh1=>same (λh=>h1 h.1),λh1=>?_⟩
 refine(qr b g va vc mp (aO va g.val.length g.val) f).ak (λ_ _ h=>h) ?_
 rintro v R h ⟨rfl,H⟩
 refine⟨_,rfl,⟨λh2=>same (λh=>h2 h.2),λh2 _=>⟨λh3=>?_,λh3=>?_⟩⟩,H⟩
 ·clear H
  refine(ei (aO a l.length l) a l.length c l (bR.ro _ _ _ _) rfl hl).ak (λ_ _ h=>h) ?_
  rintro v R h ⟨a2,c2,rfl,H⟩
  refine⟨a2,_,c2,aO a2 l.length l,rfl,?_,H⟩
  clear H same
  subst h3
  have hx:mg r w l 0=⟨true,r,w,l⟩:=if_pos rfl
  have hP:∀g',(if(cB g f ⟨true,r,w,l⟩).2=true then ∃val,n7 (cK (cB g f ⟨true,r,w,l⟩).1.aQ 0) g.val val/\g'={(cB g f ⟨true,r,w,l⟩).1 with val:=val,bX:=2,aQ:=[],cj:=0}else g'=(cB g f ⟨true,r,w,l⟩).1)->nw g f r w l 0 g':=λg' h=>by unfold nw;rw[if_pos ⟨h1,h2⟩,hx];exact h
  have hT:=wA f ⟨true,r,w,l⟩ hB
  have hv:=pe g f ⟨true,r,w,l⟩
  refine(wz b g va vc mp (aO va g.val.length g.val) f ⟨true,r,w,l⟩ 0 a2 c2 hl (sL h2) hlen hB).ak (λ_ _ h=>h) ?_
  have aag:∀x∈(cB g f ⟨true,r,w,l⟩).1.aQ,x.2.val.length<=140737488355328:=λx hx=>by
   have:(cB g f ⟨true,r,w,l⟩).1.aQ=g.aQ++[(f,⟨true,r,w,l⟩)]:=by unfold cB;split<;>(try split)<;>rfl
   rw[this]at hx
   rcases List.mem_append.1 hx with hx|hx
   ·exact hL x hx
   ·obtain rfl:=List.mem_singleton.1 hx;exact hl
  revert hT hv hP aag
  generalize cB g f ⟨true,r,w,l⟩=T
  intro hP hT hv aag
  rintro v R h ⟨rfl,H⟩
  rw[<-hv]at H
  refine⟨T.2,T.1.acc,T.1.iA,T.1.dQ,va,T.1.val.length,vc,aO va T.1.val.length T.1.val,T.1.bX,mp,gK mp T.1.aQ,T.1.cj,aO a2 l.length l,rfl,⟨λh=>?_,λh=>.of λR y H=>⟨T.1,⟨trivial,hP _ (by rw[if_neg h])⟩,va,vc,mp,hT,HP.ae H (λ_ h=>h) λy hy=>HP.ae hy (λ_ h=>h) λz hz=>HP.aj hz⟩⟩,H⟩
  clear H
  refine(Jc b T.1 va vc mp hT).ak (λ_ _ h=>h) ?_
  rintro v R y ⟨val,pK,uC,⟨rfl,Wl⟩,H⟩
  refine⟨T.1.acc,T.1.iA,T.1.dQ,pK,val.length,uC,aO pK val.length val,T.1.bX,mp,gK mp T.1.aQ,T.1.cj,rfl,λnb=>.of λR y H=>?_,H⟩
  rw[hv]at Wl
  have h0:g.val.length<=140737488355328:=hB.2.2.2.2
  have qs:=Wl.le h0 aag
  refine⟨{T.1 with val:=val,bX:=2,aQ:=[],cj:=0},⟨trivial,hP _ (by rw[if_pos h];exact⟨val,Wl,rfl⟩)⟩,pK,uC,nb,⟨hT.1,hT.2.1,Int.le_refl _,Int.le_refl _,qs⟩,HP.ae H (λ_ h=>h) λy hy=>HP.ae hy (λ_ h=>h) λz hz=>?_⟩
  exact gK.new nb (HP.aj hz)
 ·clear H same
  have hx:mg r w l e=⟨decide (e=0),0,0,[]⟩:=by unfold mg;rw[if_neg h3,decide_eq_false h3]
  have hno:(cB g f ⟨decide (e=0),0,0,[]⟩).2=false:=by
   unfold cB
   rw[if_neg (show ¬decide (e=0)=true by rw[decide_eq_false h3];decide)]
   split<;>rfl
  have hP:∀g',g'=(cB g f ⟨decide (e=0),0,0,[]⟩).1->nw g f r w l e g':=λg' h=>by unfold nw;rw[if_pos ⟨h1,h2⟩,hx,if_neg (by rw[hno];decide)];exact h
  have hT:=wA f ⟨decide (e=0),0,0,[]⟩ hB
  have hv:=pe g f ⟨decide (e=0),0,0,[]⟩
  refine(wz b g va vc mp (aO va g.val.length g.val) f ⟨decide (e=0),0,0,[]⟩ 0 none 0 (by simp) (sL h2) hlen hB).ak (λR h H=>HP.ae H (λ_ h=>h) λy hy=>HP.ae hy (λ_ h=>h) λz hz=>bb.gR (n6 none:(aO none 0 []).p R h) hz) ?_
  clear hx
  revert hno hP hT hv
  generalize cB g f ⟨decide (e=0),0,0,[]⟩=T
  intro hno hP hT hv
  rintro v R h ⟨rfl,H⟩
  rw[<-hv]at H
  exact⟨T.2,T.1.acc,T.1.iA,T.1.dQ,va,T.1.val.length,vc,aO va T.1.val.length T.1.val,T.1.bX,mp,gK mp T.1.aQ,T.1.cj,rfl,⟨λh=>absurd h (by rw[hno];decide),λh=>.of λR y H=>⟨T.1,⟨trivial,hP _ rfl⟩,va,vc,mp,hT,HP.ae H (λ_ h=>h) λy hy=>HP.ae hy (λ_ h=>h) λz hz=>HP.aj hz⟩⟩,HP.ae H (λ_ h=>h) λy hy=>HP.ae hy (λ_ h=>h) λz hz=>HP.aj hz⟩
def n8(acc iA dQ:Int)(l:List UInt8):j8:=⟨max acc 1,iA,dQ,l,1,[],0⟩
theorem pf(acc iA dQ:Int)(ha:acc<=10000)(S:HP)(a:Option Addr)(n c:Nat)(l:List UInt8)(hr:bR S a n (l.map fH))(hl:l.length=n)(hb:n<=140737488355328):
 ax Tryz.prog 197 #[.int .i64 acc,.agg #[.int .i64 iA,.int .i64 dQ],.slice a n c] S (λv=>HP.ex λb=>HP.and (v=.pointer (some ⟨b,0,none⟩)) (HP.an S (dG b (n8 acc iA dQ l)))):=by
 refine ah (ρ:=[.i acc,.i iA,.i dQ,.a a,.n n,.n c,.p S]) mixed Tryz.func197 El ?_
 unfold Ek
 refine cg ?_
 have iW:∀(a':Option Addr) (c' mp b:Nat),HP.aV (HP.an S (HP.an (HP.one b (.cells #[.int .i64 (max acc 1),.int .i64 iA,.int .i64 dQ,.slice a' n c',.int .i64 1,.map (some mp),.int .i64 0] 332 (0,0))) (HP.an (aO a' n l) (HP.one mp (.map #[] 0)))))
  (HP.ex λb'=>HP.and (Value.pointer (some ⟨b,0,none⟩)=Value.pointer (some ⟨b',0,none⟩)) (HP.an S (dG b' (n8 acc iA dQ l)))):=λa' c' mp b=>.of λR y H=>⟨b,rfl,HP.ae H (λ_ h=>h) λz hz=>⟨a',c',mp,⟨by show 1<=max acc 1;omega,by show max acc 1<=10000;omega,Int.le_refl _,Int.le_refl _,by show l.length<=_;omega⟩,by
  subst hl
  exact HP.ae hz (λ_ h=>h) λu hu=>HP.ae hu (λ_ h=>h) λq hq=>gK.new mp hq⟩⟩
 intro _
 refine⟨?_,λmp=>?_⟩
 ·refine(ei S a n c l hr hl hb).ak (λ_ _ h=>h) ?_
  rintro v R h ⟨a',c',rfl,H⟩
  exact⟨a',n,c',aO a' n l,rfl,λmp b=>iW a' c' mp b,H⟩
 ·refine(ei S a n c l hr hl hb).ak (λ_ _ h=>h) ?_
  rintro v R h ⟨a',c',rfl,H⟩
  exact⟨a',n,c',aO a' n l,rfl,λb=>iW a' c' mp b,H⟩
theorem Jd(b:Nat)(g:j8):ax Tryz.prog 226 #[.pointer (some ⟨b,0,none⟩)] (dG b g) (λv=>HP.and (v=.int .i64 g.bX) (dG b g)):=
 (dG.kF (K:=HP.tt) λva vc mp hB=>(OM b g va vc mp (aO va g.val.length g.val) (HP.an (gK mp g.aQ) HP.tt)).ak (λ_ _ h=>h) (B':=λv=>HP.and (v=.int .i64 g.bX) (dG b g)) λv R h ⟨e,H⟩=>
   ⟨e,va,vc,mp,hB,HP.ae H (λ_ h=>h) λy hy=>HP.ae hy (λ_ h=>h) λz hz=>HP.aj hz⟩).ak (λR h H=>HP.az H) λ_ _ _ h=>h
theorem Ev(b:Nat)(g:j8):ax Tryz.prog 228 #[.pointer (some ⟨b,0,none⟩)] (dG b g) (λv=>HP.and (v=.agg #[.int .i64 g.iA,.int .i64 g.dQ]) (dG b g)):=
 (dG.kF (K:=HP.tt) λva vc mp hB=>(I9 b g va vc mp (aO va g.val.length g.val) (HP.an (gK mp g.aQ) HP.tt)).ak (λ_ _ h=>h) (B':=λv=>HP.and (v=.agg #[.int .i64 g.iA,.int .i64 g.dQ]) (dG b g)) λv R h ⟨e,H⟩=>
   ⟨e,va,vc,mp,hB,HP.ae H (λ_ h=>h) λy hy=>HP.ae hy (λ_ h=>h) λz hz=>HP.aj hz⟩).ak (λR h H=>HP.az H) λ_ _ _ h=>h
theorem Je(b:Nat)(g:j8):ax Tryz.prog 230 #[.pointer (some ⟨b,0,none⟩)] (dG b g) (λv=>HP.ex λa=>HP.ex λc=>HP.and (v=.slice a g.val.length c) (HP.an (aO a g.val.length g.val) (dG b g))):=
 (dG.kF (K:=HP.tt) λva vc mp hB=>(ON b g va vc mp (HP.an (gK mp g.aQ) HP.tt) hB.2.2.2.2).ak (λ_ _ h=>h) (B':=λv=>HP.ex λa=>HP.ex λc=>HP.and (v=.slice a g.val.length c) (HP.an (aO a g.val.length g.val) (dG b g))) λv R h ⟨a,c,e,H⟩=>
   ⟨a,c,e,HP.ae H (λ_ h=>h) λy hy=>⟨va,vc,mp,hB,HP.ae hy (λ_ h=>h) λz hz=>HP.ae hz (λ_ h=>h) λq hq=>HP.aj hq⟩⟩).ak (λR h H=>HP.az H) λ_ _ _ h=>h
theorem Jf(b:Nat)(g:j8)(f:Int):ax Tryz.prog 286 #[.pointer (some ⟨b,0,none⟩),.int .i64 f] (dG b g) (λv=>HP.and (v=.bool (jf g f)) (dG b g)):=
 (dG.kF (K:=HP.tt) λva vc mp hB=>((qr b g va vc mp (aO va g.val.length g.val) f).frame HP.tt).ak (λR h H=>HP.ay (HP.ae H (λ_ h=>h) λy hy=>HP.ay hy)) (B':=λv=>HP.and (v=.bool (jf g f)) (dG b g)) λv R h H=>by
   obtain⟨e,H⟩:=HP.aj H
   exact⟨e,va,vc,mp,hB,H⟩).ak (λR h H=>HP.az H) λ_ _ _ h=>h
end
namespace RX
def io:=(({aB:=[108,198,99999,231,284,315,285,222,176,223,226,228,230,286,261,259,333,143,156]}:gA).aB)
def Ew:T:=
(.new
(.new
(.rg (.add 0 (.i 1))
(.ret (.agg [.int .i64 (.add 0 (.i 1)),2]) []))))
theorem Ey:tree Tryz.prog {fx:=[225],aB:=io,bz:=true,cx:=true,cf:=[225]} Tryz.f227 [.agg [0,1],2] [] 3=Ew:=by kernel_rfl
def Mv:T:=
(.new
(.new
(.call 69 [.s 1] [(1,4)] [.a,.n,.n,.p,.p] (.s 7) [(7,10),(1,11)]
(.loop [.i,.p] [.z (.i 0),.p [(7,10)]]
(.br (.lt 12 (.of 8))
(.need (.le (.i 0) 12)
(.need (.is 7)
  (.ld 71 17 (.aW 7 12 1 0) [(7,13)] [.a,.n,.n] (.s 14)
(.call 70 [.s 14] [(7,13)] [.a,.n,.n,.p,.p] (.s 17) [(17,20),(7,21)]
(.op (.store 71 (.tmp 20) (.tmp 19)) 0 [(20,.aW 7 12 1 0),(19,.s 17)] [(7,21),(17,20)] [.p] (.au []) [(7,22)]
  (.rg (.add 12 (.i 1))
(.again 0 [.z (.add 12 (.i 1)),.p [(7,22)]])))))))
(.ret (.agg [0,.s 7]) [(1,11),(7,13)]))))))
theorem Jg:tree Tryz.prog {fx:=[225],hv:=[(0,[.a 7])],aB:=io,bz:=true,cx:=true,cf:=[225]} Tryz.f266 [.agg [0,.s 1]] [(1,4)] 5=Mv:=by kernel_rfl
def Ez:T:=
(.new
(.call 259 [.agg [0,.s 1]] [(1,4)] [.c] (.bool 8) [(1,4)]
(.br (.not 8)
(.new
(.ret (.ptr 9 0) [(1,4),(.b 9,.cells [.k 0,.z,.k 0,.k 0,.k 6,.bool (.c false),.bool (.c false),.bool (.c false),.bool (.c false),.bool (.c false),.bool (.c false),.bool (.c false),.bool (.c false),.bool (.c false),.bool (.c false),.bool (.c false),.bool (.c false),.bool (.c false),.bool (.c false),.z,.fZ,.k 0,.z,.k 0] 227)]))
(.br (.eq 0 (.i 2147483647))
(.new
(.ret (.ptr 9 0) [(1,4),(.b 9,.cells [.k 0,.z,.k 0,.k 0,.k 6,.bool (.c false),.bool (.c false),.bool (.c false),.bool (.c false),.bool (.c false),.bool (.c false),.bool (.c false),.bool (.c false),.bool (.c false),.bool (.c false),.bool (.c false),.bool (.c false),.bool (.c false),.bool (.c false),.z,.fZ,.k 0,.z,.k 0] 227)]))
(.br (.lt 5 (.i 1))
(.new
(.ret (.ptr 9 0) [(1,4),(.b 9,.cells [.k 0,.z,.k 0,.k 0,.k 6,.bool (.c false),.bool (.c false),.bool (.c false),.bool (.c false),.bool (.c false),.bool (.c false),.bool (.c false),.bool (.c false),.bool (.c false),.bool (.c false),.bool (.c false),.bool (.c false),.bool (.c false),.bool (.c false),.z,.fZ,.k 0,.z,.k 0] 227)]))
(.br (.lt (.i 7) 5)
(.new
(.ret (.ptr 9 0) [(1,4),(.b 9,.cells [.k 0,.z,.k 0,.k 0,.k 6,.bool (.c false),.bool (.c false),.bool (.c false),.bool (.c false),.bool (.c false),.bool (.c false),.bool (.c false),.bool (.c false),.bool (.c false),.bool (.c false),.bool (.c false),.bool (.c false),.bool (.c false),.bool (.c false),.z,.fZ,.k 0,.z,.k 0] 227)]))
(.br (.lt 6 (.i 0))
(.new
(.ret (.ptr 9 0) [(1,4),(.b 9,.cells [.k 0,.z,.k 0,.k 0,.k 6,.bool (.c false),.bool (.c false),.bool (.c false),.bool (.c false),.bool (.c false),.bool (.c false),.bool (.c false),.bool (.c false),.bool (.c false),.bool (.c false),.bool (.c false),.bool (.c false),.bool (.c false),.bool (.c false),.z,.fZ,.k 0,.z,.k 0] 227)]))
(.br (.lt (.i 2147483647) 6)
(.new
(.ret (.ptr 9 0) [(1,4),(.b 9,.cells [.k 0,.z,.k 0,.k 0,.k 6,.bool (.c false),.bool (.c false),.bool (.c false),.bool (.c false),.bool (.c false),.bool (.c false),.bool (.c false),.bool (.c false),.bool (.c false),.bool (.c false),.bool (.c false),.bool (.c false),.bool (.c false),.bool (.c false),.z,.fZ,.k 0,.z,.k 0] 227)]))
(.call 266 [.agg [0,.s 1]] [(1,4)] [.i,.a,.n,.n,.p,.p] (.agg [9,.s 10]) [(10,13),(1,14)]
(.new
(.ret (.ptr 15 0) [(1,14),(.b 15,.cells [9,.s 10,5,6,.k 1,.bool (.c false),.bool (.c false),.bool (.c false),.bool (.c false),.bool (.c false),.bool (.c false),.bool (.c false),.bool (.c false),.bool (.c false),.bool (.c false),.bool (.c false),.bool (.c false),.bool (.c false),.bool (.c false),.z,.fZ,.k 0,.z,.k 0] 227),(10,13)])))))))))))
theorem EA:tree Tryz.prog {fx:=[225],aB:=io,bz:=true,cx:=true,cf:=[225]} Tryz.f232 [.agg [0,.s 1],5,6] [(1,4)] 7=Ez:=by kernel_rfl
def EB:T:=
(.ld 3 5 (.ptr 0 4) [(.b 0,1)] [.i] 2
(.ret 2 [(.b 0,1)]))
theorem EC:tree Tryz.prog {fx:=[225],aB:=io,bz:=true,cx:=true,cf:=[225]} Tryz.f108 [.ptr 0 0] [(.b 0,1)] 2=EB:=by kernel_rfl
def Mw:T:=
(.new
(.ld 29 5 (.ptr 0 21) [(.b 0,1)] [.i,.a,.n,.n] (.agg [3,.s 4])
(.call 266 [.agg [3,.s 4]] [(.b 0,1)] [.i,.a,.n,.n,.p,.p] (.agg [7,.s 8]) [(8,11),(.b 0,12)]
(.ret (.agg [7,.s 8]) [(.b 0,12),(8,11)]))))
theorem Jh:tree Tryz.prog {fx:=[225],aB:=io,bz:=true,cx:=true,cf:=[225]} Tryz.f198 [.ptr 0 0] [(.b 0,1)] 2=Mw:=by kernel_rfl
def ED:T:=
(.ld 3 6 (.ptr 0 0) [(.b 0,1)] [.i] 2
(.rg (.add 2 (.i 1))
(.ret (.w (.a (.int .i64 (.add 2 (.i 1))))) [(.b 0,1)])))
theorem EE:tree Tryz.prog {fx:=[225],aB:=io,bz:=true,cx:=true,cf:=[225]} Tryz.f231 [.ptr 0 0] [(.b 0,1)] 2=ED:=by kernel_rfl
def EF:T:=
(.ld 3 7 (.ptr 0 4) [(.b 0,1)] [.i] 3
(.br (.eq 3 (.i 1))
 (.ld 3 14 (.ptr 0 2) [(.b 0,1)] [.i] 4
(.br (.lt 2 4)
(.read (.indexAddr 224 (.tmp 21) (.tmp 19)) 0 [(21,.ptr 0 5),(19,2)] [(.b 0,1)] [.v] (.val 5)
  (.ld 4 22 (.val 5) [(.b 0,1)] [.c] (.bool 6)
(.ret (.bool (.not 6)) [(.b 0,1)])))
(.ret (.bool (.c false)) [(.b 0,1)])))
(.br (.eq 3 (.i 2))
  (.ld 225 30 (.ptr 0 20) [(.b 0,1)] [.v] (.val 4)
(.call 286 [.val 4,2] [(.b 0,1)] [.c] (.bool 5) [(.b 0,1)]
(.ret (.bool 5) [(.b 0,1)])))
(.br (.eq 3 (.i 3))
(.read (.indexAddr 224 (.tmp 39) (.tmp 37)) 0 [(39,.ptr 0 5),(37,2)] [(.b 0,1)] [.v] (.val 4)
  (.ld 4 40 (.val 4) [(.b 0,1)] [.c] (.bool 5)
(.br (.not 5)
(.call 315 [.ptr 0 0,2] [(.b 0,1)] [.c] (.bool 6) [(.b 0,1)]
(.ret (.bool 6) [(.b 0,1)]))
(.ret (.bool (.c false)) [(.b 0,1)]))))
(.ret (.bool (.c false)) [(.b 0,1)])))))
theorem EG:tree Tryz.prog {fx:=[225],aB:=io,bz:=true,cx:=true,cf:=[225]} Tryz.f284 [.ptr 0 0,2] [(.b 0,1)] 3=EF:=by kernel_rfl
def tW:T:=
(.call 261 [.s 0,5] [(0,3)] [.c] (.bool 6) [(0,3)]
(.ret (.bool 6) [(0,3),(.b 4,.cells [5] 3)]))
theorem wC:tree Tryz.prog {fx:=[225],aB:=io,bz:=true,cx:=true,cf:=[225]} Tryz.f334 [.s 0,.ptr 4 0] [(0,3),(.b 4,.cells [5] 3)] 6=tW:=by kernel_rfl
def wD:T:=
(.new
(.ld 27 8 (.ptr 0 22) [(.b 0,1)] [.a,.n,.n] (.s 4)
(.call 333 [.s 4,.a (.func 334 [(3,0)])] [(.b 0,1),(.b 3,.cells [2] 3)] [.c] (.bool 7) [(.b 0,1),(.b 3,.cells [2] 3)]
(.ret (.bool 7) [(.b 0,1)]))))
theorem yi:tree Tryz.prog {fx:=[225],aB:=io,bz:=true,cx:=true,cf:=[225]} Tryz.f315 [.ptr 0 0,2] [(.b 0,1)] 3=wD:=by kernel_rfl
def S9:T:=
(.new
(.call 231 [.ptr 0 0] [(.b 0,1)] [.i] 4 [(.b 0,1)]
(.new
(.ld 3 12 (.ptr 0 4) [(.b 0,1)] [.i] 6
(.br (.eq 6 (.i 2))
 (.ld 225 19 (.ptr 0 20) [(.b 0,1)] [.v] (.val 7)
(.call 231 [.ptr 0 0] [(.b 0,1)] [.i] 8 [(.b 0,1)]
(.call 228 [.val 7] [(.b 0,1)] [.i,.i] (.agg [9,10]) [(.b 0,1)]
 (.ld 225 27 (.ptr 0 20) [(.b 0,1)] [.v] (.val 11)
(.call 226 [.val 11] [(.b 0,1)] [.i] 12 [(.b 0,1)]
(.br (.eq 12 (.i 2))
  (.ld 225 33 (.ptr 0 20) [(.b 0,1)] [.v] (.val 13)
(.call 230 [.val 13] [(.b 0,1)] [.a,.n,.n,.p] (.s 14) [(14,17),(.b 0,1)]
(.call 55 [.s 14] [(14,17)] [.a,.n,.n,.p,.p] (.s 18) [(18,21),(14,22)]
(.ret (.agg [.k 0,2,.k 0,.bool (.c false),.k 7,4,8,.k 0,.z,9,10,.s 18,.k 0,.k 0,.k 0,.k 0]) [(.b 0,1),(18,21)]))))
(.ret (.agg [.k 0,2,.k 0,.bool (.c false),.k 6,4,8,.k 0,.z,9,10,.z,.k 0,.k 0,.k 0,.k 0]) [(.b 0,1)])))))))
(.ret (.agg [.k 0,2,.k 0,.bool (.c false),.k 4,4,.k 0,.k 0,.z,.k 0,.k 0,.z,.k 0,.k 0,.k 0,.k 0]) [(.b 0,1)]))))))
theorem OQ:tree Tryz.prog {fx:=[225],aB:=io,bz:=true,cx:=true,cf:=[225]} Tryz.f285 [.ptr 0 0,2] [(.b 0,1)] 3=S9:=by kernel_rfl
def EH:T:=
(.ld 3 6 (.ptr 3 4) [(.b 3,4)] [.i] 5
(.br (.eq 5 (.i 4))
 (.ld 3 14 (.ptr 3 23) [(.b 3,4)] [.i] 6
(.call 231 [.ptr 3 0] [(.b 3,4)] [.i] 7 [(.b 3,4)]
 (.jw 0 [.agg [.k 0,.k 7,.k 0,.bool (.c false),.k 9,7,6,.k 0,.z,.k 0,.k 0,.z,.k 0,.k 0,.k 0,.k 0]] [(0,1)] [.c,.p] (.bool 8) [(0,9)]
(.ret (.au []) [(0,9),(.b 2,.cells [.ptr 3 0] 116),(.b 3,4)]))))
(.loop [.i,.p] [.z (.i 0),.p [(0,1)]]
(.br (.lt 6 (.i 7))
(.call 284 [.ptr 3 0,6] [(.b 3,4)] [.c] (.bool 8) [(.b 3,4)]
(.br 8
(.call 285 [.ptr 3 0,6] [(.b 3,4)] [.i,.i,.i,.c,.i,.i,.i,.i,.a,.n,.n,.p,.i,.i,.a,.n,.n,.p,.i,.i,.i,.i] (.agg [9,10,11,.bool 12,13,14,15,16,.s 17,21,22,.s 23,27,28,29,30]) [(17,20),(23,26),(.b 3,4)]
  (.jw 0 [.agg [9,10,11,.bool 12,13,14,15,16,.s 17,21,22,.s 23,27,28,29,30]] [(0,7),(17,20),(23,26)] [.c,.p] (.bool 31) [(0,32),(17,20),(23,26)]
(.br (.not 31)
(.ret (.au []) [(0,32),(.b 2,.cells [.ptr 3 0] 116),(.b 3,4)])
  (.rg (.add 6 (.i 1))
(.again 0 [.z (.add 6 (.i 1)),.p [(0,32)]])))))
  (.rg (.add 6 (.i 1))
(.again 0 [.z (.add 6 (.i 1)),.p [(0,7)]]))))
(.ret (.au []) [(0,7),(.b 2,.cells [.ptr 3 0] 116),(.b 3,4)])))))
theorem EI:tree Tryz.prog {fx:=[225],hv:=[(0,[.a 0])],aB:=io,bz:=true,cx:=true,cf:=[225]} Tryz.f283 [.val 0,.ptr 2 0] [(0,1),(.b 2,.cells [.ptr 3 0] 116),(.b 3,4)] 5=EH:=by kernel_rfl
def Mx:T:=
(.new
(.ret (.w (.a (.func 283 [(2,0)]))) [(.b 0,1),(.b 2,.cells [.ptr 0 0] 116)]))
theorem Ji:tree Tryz.prog {fx:=[225],aB:=io,bz:=true,cx:=true,cf:=[225]} Tryz.f222 [.ptr 0 0] [(.b 0,1)] 2=Mx:=by kernel_rfl
def EJ:T:=
(.new
(.call 222 [.ptr 0 0] [(.b 0,1)] [.v,.p] (.val 3) [(3,4),(.b 0,1)]
(.new
(.mF (.val 3) [(3,4),(.b 0,1)] [] [.a,.n,.n,.p] [.a .nil,.e (.cQ (.n 0) (.n 0)),.e (.cQ (.n 0) (.n 0)),.p []] [.i,.i,.i,.c,.i,.i,.i,.i,.a,.n,.n,.p,.i,.i,.a,.n,.n,.p,.i,.i,.i,.i] [.agg [10,11,12,.bool 13,14,15,16,17,.s 18,22,23,.s 24,28,29,30,31]] [(18,21),(24,27)]
(.new
(.new
(.op (.call ⟨.builtin .append,#[.tmp 8,.tmp 10],#[33,33]⟩) 33 [(8,.s 6),(10,.sl (.b 33 0) (.n 1) (.n 1))] [(6,9),(.b 33,.cells [10,11,12,.bool 13,14,15,16,17,.s 18,22,23,.s 24,28,29,30,31] 48),(18,21),(24,27)] [.a,.n,.n,.p] (.s 34) [(34,37),(.b 33,.cells [10,11,12,.bool 13,14,15,16,17,.s 18,22,23,.s 24,28,29,30,31] 48),(18,21),(24,27)]
(.again 0 [.a 34,.e (.cQ 35 (.n 0)),.e (.cQ 36 (.n 0)),.p [(34,37)]]))))
(.ret (.s 6) [(.b 0,1),(6,9)])))))
theorem EK:tree Tryz.prog {fx:=[225],hv:=[(0,[.b 2])],aB:=io,iB:=[(222,0)],Zj:=[(0,[48])],bz:=true,cx:=true,cf:=[225]} Tryz.f176 [.ptr 0 0] [(.b 0,1)] 2=EJ:=by kernel_rfl
def My:T:=
(.new
(.call 222 [.ptr 0 0] [(.b 0,1)] [.v,.p] (.val 3) [(3,4),(.b 0,1)]
(.new
(.mF (.val 3) [(3,4),(.b 0,1)] [] [] [] [.i,.i,.i,.c,.i,.i,.i,.i,.a,.n,.n,.p,.i,.i,.a,.n,.n,.p,.i,.i,.i,.i] [.agg [6,7,8,.bool 9,10,11,12,13,.s 14,18,19,.s 20,24,25,26,27]] [(14,17),(20,23)]
(.ret (.bool (.c false)) [(.b 0,1)])
(.ret (.bool (.c true)) [(.b 0,1)])))))
theorem Jj:tree Tryz.prog {fx:=[225],aB:=io,iB:=[(222,0)],Zj:=[(0,[48])],bz:=true,cx:=true,cf:=[225]} Tryz.f223 [.ptr 0 0] [(.b 0,1)] 2=My:=by kernel_rfl
def EL:T:=
(.new
(.br (.eq 1 23)
(.br (.eq 4 27)
(.br (.eq 5 28)
(.ret (.bool (.eq 6 29)) [(8,11),(14,17),(.b 22,.cells [23,24,25,.bool 26,27,28,29,30,.s 31,35,36,.s 37,41,42,43,44] 48),(31,34),(37,40)])
(.ret (.bool (.c false)) [(8,11),(14,17),(.b 22,.cells [23,24,25,.bool 26,27,28,29,30,.s 31,35,36,.s 37,41,42,43,44] 48),(31,34),(37,40)]))
(.ret (.bool (.c false)) [(8,11),(14,17),(.b 22,.cells [23,24,25,.bool 26,27,28,29,30,.s 31,35,36,.s 37,41,42,43,44] 48),(31,34),(37,40)]))
(.ret (.bool (.c false)) [(8,11),(14,17),(.b 22,.cells [23,24,25,.bool 26,27,28,29,30,.s 31,35,36,.s 37,41,42,43,44] 48),(31,34),(37,40)])))
theorem EM:tree Tryz.prog {fx:=[225],aB:=io,bz:=true,cx:=true,cf:=[225]} Tryz.f177 [.agg [0,1,2,.bool 3,4,5,6,7,.s 8,12,13,.s 14,18,19,20,21],.ptr 22 0] [(8,11),(14,17),(.b 22,.cells [23,24,25,.bool 26,27,28,29,30,.s 31,35,36,.s 37,41,42,43,44] 48),(31,34),(37,40)] 45=EL:=by kernel_rfl
def Mz:T:=
(.new
(.call 176 [.ptr 0 0] [(.b 0,1)] [.a,.n,.n,.p] (.s 25) [(25,28),(.b 0,1)]
(.call 156 [.s 25,.a (.func 177 [(24,0)])] [(25,28),(.b 24,.cells [2,3,4,.bool 5,6,7,8,9,.s 10,14,15,.s 16,20,21,22,23] 48),(10,13),(16,19)] [.c] (.bool 29) [(25,28),(.b 24,.cells [2,3,4,.bool 5,6,7,8,9,.s 10,14,15,.s 16,20,21,22,23] 48),(10,13),(16,19)]
(.br (.not 5)
(.ret (.au []) [(.b 0,1),(10,13),(16,19)])
(.br (.not 29)
(.ret (.au []) [(.b 0,1),(10,13),(16,19)])
  (.ld 3 18 (.ptr 0 4) [(.b 0,1)] [.i] 30
(.br (.eq 30 (.i 1))
(.call 178 [.ptr 0 0,.agg [2,3,4,.bool 5,6,7,8,9,.s 10,14,15,.s 16,20,21,22,23]] [(.b 0,1),(10,13),(16,19)] [.p,.p,.p] (.au []) [(.b 0,31),(10,32),(16,33)]
(.ret (.au []) [(.b 0,31),(10,32),(16,33)]))
(.br (.eq 30 (.i 2))
(.call 179 [.ptr 0 0,.agg [2,3,4,.bool 5,6,7,8,9,.s 10,14,15,.s 16,20,21,22,23]] [(.b 0,1),(10,13),(16,19)] [.p,.p,.p] (.au []) [(.b 0,31),(10,32),(16,33)]
(.ret (.au []) [(.b 0,31),(10,32),(16,33)]))
(.br (.eq 30 (.i 3))
(.call 180 [.ptr 0 0,.agg [2,3,4,.bool 5,6,7,8,9,.s 10,14,15,.s 16,20,21,22,23]] [(.b 0,1),(10,13),(16,19)] [.p,.p,.p] (.au []) [(.b 0,31),(10,32),(16,33)]
(.ret (.au []) [(.b 0,31),(10,32),(16,33)]))
(.br (.eq 30 (.i 4))
(.op (.store 3 (.tmp 39) (.const (.int .i64 6))) 0 [(39,.ptr 0 4)] [(.b 0,1)] [.p] (.au []) [(.b 0,31)]
(.br (.eq 20 (.i 0))
(.op (.store 3 (.tmp 50) (.const (.int .i64 5))) 0 [(50,.ptr 0 4)] [(.b 0,31)] [.p] (.au []) [(.b 0,32)]
(.ret (.au []) [(.b 0,32),(10,13),(16,19)]))
(.br (.eq 20 (.i 8))
(.op (.store 3 (.tmp 50) (.const (.int .i64 5))) 0 [(50,.ptr 0 4)] [(.b 0,31)] [.p] (.au []) [(.b 0,32)]
(.ret (.au []) [(.b 0,32),(10,13),(16,19)]))
(.ret (.au []) [(.b 0,31),(10,13),(16,19)]))))
(.ret (.au []) [(.b 0,1),(10,13),(16,19)])))))))))))
theorem Jk:tree Tryz.prog {fx:=[225],aB:=io,bz:=true,cx:=true,cf:=[225]} Tryz.f124 [.ptr 0 0,.agg [2,3,4,.bool 5,6,7,8,9,.s 10,14,15,.s 16,20,21,22,23]] [(.b 0,1),(10,13),(16,19)] 24=Mz:=by kernel_rfl
def zv:T:=
(.new
(.read (.indexAddr 224 (.tmp 8) (.tmp 6)) 0 [(8,.ptr 0 5),(6,2)] [(.b 0,1)] [.v] (.val 25)
(.op (.store 4 (.tmp 9) (.const (.bool true))) 0 [(9,.val 25)] [(.b 0,1)] [.p] (.au []) [(.b 0,26)]
(.read (.indexAddr 224 (.tmp 17) (.tmp 12)) 0 [(17,.ptr 0 12),(12,2)] [(.b 0,26)] [.v] (.val 27)
(.op (.store 4 (.tmp 18) (.tmp 15)) 0 [(18,.val 27),(15,.bool (.eq 20 (.i 0)))] [(.b 0,26)] [.p] (.au []) [(.b 0,28)]
(.call 223 [.ptr 0 0] [(.b 0,28)] [.c] (.bool 29) [(.b 0,28)]
(.br 29
(.call 145 [.ptr 0 0] [(.b 0,28)] [.p] (.au []) [(.b 0,30)]
(.ret (.au []) [(.b 0,30),(10,13),(16,19)]))
(.ret (.au []) [(.b 0,28),(10,13),(16,19)]))))))))
theorem BE:tree Tryz.prog {fx:=[225],aB:=io,bz:=true,cx:=true,cf:=[225]} Tryz.f178 [.ptr 0 0,.agg [2,3,4,.bool 5,6,7,8,9,.s 10,14,15,.s 16,20,21,22,23]] [(.b 0,1),(10,13),(16,19)] 24=zv:=by kernel_rfl
def zw:T:=
(.ld 224 9 (.ptr 0 12) [(.b 0,1)] [.c,.c,.c,.c,.c,.c,.c] (.agg [.bool 2,.bool 3,.bool 4,.bool 5,.bool 6,.bool 7,.bool 8])
(.loop [.a,.n,.n,.p,.i] [.a .nil,.e (.cQ (.n 0) (.n 0)),.e (.cQ (.n 0) (.n 0)),.p [],.z (.i 0)]
(.br (.lt 13 (.i 7))
(.read (.index 224 (.tmp 10) (.tmp 11)) 4 [(10,.agg [.bool 2,.bool 3,.bool 4,.bool 5,.bool 6,.bool 7,.bool 8]),(11,13)] [] [.c] (.bool 14)
(.br 14
(.new
(.op (.call ⟨.builtin .append,#[.tmp 16,.tmp 18],#[71,71]⟩) 71 [(16,.s 9),(18,.sl (.b 15 0) (.n 1) (.n 1))] [(9,12),(.b 15,.cells [13] 3)] [.a,.n,.n,.p] (.s 16) [(16,19),(.b 15,.cells [13] 3)]
  (.rg (.add 13 (.i 1))
(.again 0 [.a 16,.e (.cQ 17 (.n 0)),.e (.cQ 18 (.n 0)),.p [(16,19)],.z (.add 13 (.i 1))]))))
  (.rg (.add 13 (.i 1))
(.again 0 [.a 9,.e (.cQ 10 (.n 0)),.e (.cQ 11 (.n 0)),.p [(9,12)],.z (.add 13 (.i 1))]))))
(.op (.store 42 (.tmp 23) (.const (.slice none 0 0))) 0 [(23,.ptr 0 19)] [(.b 0,1)] [.p] (.au []) [(.b 0,14)]
  (.ld 29 27 (.ptr 0 0) [(.b 0,14)] [.i,.a,.n,.n] (.agg [15,.s 16])
(.call 195 [.agg [15,.s 16],.s 9] [(.b 0,14),(9,12)] [.i,.a,.n,.n,.p,.i,.p,.p] (.au [.agg [19,.s 20],24]) [(20,23),(.b 0,25),(9,26)]
(.new
(.br (.eq 24 (.i 0))
(.call 196 [.agg [19,.s 20]] [(20,23)] [.a,.n,.n,.p,.p] (.s 28) [(28,31),(20,32)]
(.op (.store 42 (.tmp 39) (.tmp 37)) 0 [(39,.ptr 0 19),(37,.s 28)] [(.b 0,25),(28,31)] [.p] (.au []) [(.b 0,33)]
(.op (.store 3 (.tmp 42) (.const (.int .i64 2))) 0 [(42,.ptr 0 4)] [(.b 0,33)] [.p] (.au []) [(.b 0,34)]
  (.ld 3 46 (.ptr 0 2) [(.b 0,34)] [.i] 35
  (.ld 3 50 (.ptr 0 3) [(.b 0,34)] [.i] 36
  (.ld 42 55 (.ptr 0 19) [(.b 0,34)] [.a,.n,.n] (.s 37)
(.call 197 [35,.agg [.k 1,36],.s 37] [(.b 0,34)] [.v,.p,.p] (.val 40) [(40,41),(.b 0,42)]
(.op (.store 225 (.tmp 59) (.tmp 57)) 0 [(59,.ptr 0 20),(57,.val 40)] [(.b 0,42),(40,41)] [.p] (.au []) [(.b 0,43)]
(.ret (.au []) [(.b 0,43)])))))))))
(.op (.store 3 (.tmp 42) (.const (.int .i64 2))) 0 [(42,.ptr 0 4)] [(.b 0,25)] [.p] (.au []) [(.b 0,28)]
  (.ld 3 46 (.ptr 0 2) [(.b 0,28)] [.i] 29
  (.ld 3 50 (.ptr 0 3) [(.b 0,28)] [.i] 30
  (.ld 42 55 (.ptr 0 19) [(.b 0,28)] [.a,.n,.n] (.s 31)
(.call 197 [29,.agg [.k 1,30],.s 31] [(.b 0,28)] [.v,.p,.p] (.val 34) [(34,35),(.b 0,36)]
(.op (.store 225 (.tmp 59) (.tmp 57)) 0 [(59,.ptr 0 20),(57,.val 34)] [(.b 0,36),(34,35)] [.p] (.au []) [(.b 0,37)]
(.ret (.au []) [(.b 0,37)])))))))))))))))
theorem BF:tree Tryz.prog {fx:=[225],aB:=io,bz:=true,cx:=true,cf:=[225]} Tryz.f145 [.ptr 0 0] [(.b 0,1)] 2=zw:=by kernel_rfl
def EN:T:=
(.new
(.br (.eq 6 (.i 6))
 (.ld 225 11 (.ptr 0 20) [(.b 0,1)] [.v] (.val 25)
(.call 224 [.val 25,2,.agg [14,15],.s 16,20] [(.b 0,1),(16,19)] [.p,.p] (.au []) [(.b 0,26),(16,27)]
 (.ld 225 33 (.ptr 0 20) [(.b 0,26)] [.v] (.val 28)
(.call 226 [.val 28] [(.b 0,26)] [.i] 29 [(.b 0,26)]
(.br (.eq 29 (.i 4))
  (.ld 3 41 (.ptr 0 2) [(.b 0,26)] [.i] 30
  (.ld 225 45 (.ptr 0 20) [(.b 0,26)] [.v] (.val 31)
  (.ld 3 50 (.ptr 0 3) [(.b 0,26)] [.i] 32
  (.ld 42 55 (.ptr 0 19) [(.b 0,26)] [.a,.n,.n] (.s 33)
(.call 228 [.val 31] [(.b 0,26)] [.i,.i] (.agg [36,37]) [(.b 0,26)]
(.call 227 [.agg [36,37],32] [] [.i,.i] (.agg [38,39]) []
(.call 197 [30,.agg [38,39],.s 33] [(.b 0,26)] [.v,.p,.p] (.val 40) [(40,41),(.b 0,42)]
(.op (.store 225 (.tmp 59) (.tmp 57)) 0 [(59,.ptr 0 20),(57,.val 40)] [(.b 0,42),(40,41)] [.p] (.au []) [(.b 0,43)]
(.ret (.au []) [(.b 0,43),(10,13),(16,27)])))))))))
(.br (.eq 29 (.i 3))
  (.ld 225 65 (.ptr 0 20) [(.b 0,26)] [.v] (.val 30)
(.call 230 [.val 30] [(.b 0,26)] [.a,.n,.n,.p] (.s 31) [(31,34),(.b 0,26)]
(.call 229 [.s 31] [(31,34)] [.i,.a,.n,.n,.p,.i,.p] (.au [.agg [35,.s 36],40]) [(36,39),(31,41)]
(.new
(.join [.c]
(.br (.not (.eq 40 (.i 0)))
(.again 0 [.e (.not (.not (.c true)))])
(.call 231 [.ptr 0 0] [(.b 0,26)] [.i] 43 [(.b 0,26)]
(.again 0 [.e (.not (.not (.not (.eq 35 43))))])))
(.br 43
(.op (.store 3 (.tmp 82) (.const (.int .i64 6))) 0 [(82,.ptr 0 4)] [(.b 0,26)] [.p] (.au []) [(.b 0,44)]
(.ret (.au []) [(.b 0,44),(10,13),(16,27)]))
(.op (.store 29 (.tmp 87) (.tmp 85)) 0 [(87,.ptr 0 21),(85,.agg [35,.s 36])] [(.b 0,26),(36,39)] [.p] (.au []) [(.b 0,44),(36,39)]
(.op (.store 3 (.tmp 89) (.const (.int .i64 3))) 0 [(89,.ptr 0 4)] [(.b 0,44)] [.p] (.au []) [(.b 0,45)]
(.op (.store 224 (.tmp 93) (.tmp 91)) 0 [(93,.ptr 0 5),(91,.agg [.bool (.c false),.bool (.c false),.bool (.c false),.bool (.c false),.bool (.c false),.bool (.c false),.bool (.c false)])] [(.b 0,45)] [.p] (.au []) [(.b 0,46)]
(.ret (.au []) [(.b 0,46),(10,13),(16,27)]))))))))))
(.ret (.au []) [(.b 0,26),(10,13),(16,27)])))))))
 (.ld 225 24 (.ptr 0 20) [(.b 0,1)] [.v] (.val 25)
(.call 225 [.val 25,2,20] [(.b 0,1)] [.p] (.au []) [(.b 0,26)]
 (.ld 225 33 (.ptr 0 20) [(.b 0,26)] [.v] (.val 27)
(.call 226 [.val 27] [(.b 0,26)] [.i] 28 [(.b 0,26)]
(.br (.eq 28 (.i 4))
  (.ld 3 41 (.ptr 0 2) [(.b 0,26)] [.i] 29
  (.ld 225 45 (.ptr 0 20) [(.b 0,26)] [.v] (.val 30)
  (.ld 3 50 (.ptr 0 3) [(.b 0,26)] [.i] 31
  (.ld 42 55 (.ptr 0 19) [(.b 0,26)] [.a,.n,.n] (.s 32)
(.call 228 [.val 30] [(.b 0,26)] [.i,.i] (.agg [35,36]) [(.b 0,26)]
(.call 227 [.agg [35,36],31] [] [.i,.i] (.agg [37,38]) []
(.call 197 [29,.agg [37,38],.s 32] [(.b 0,26)] [.v,.p,.p] (.val 39) [(39,40),(.b 0,41)]
(.op (.store 225 (.tmp 59) (.tmp 57)) 0 [(59,.ptr 0 20),(57,.val 39)] [(.b 0,41),(39,40)] [.p] (.au []) [(.b 0,42)]
(.ret (.au []) [(.b 0,42),(10,13),(16,19)])))))))))
(.br (.eq 28 (.i 3))
  (.ld 225 65 (.ptr 0 20) [(.b 0,26)] [.v] (.val 29)
(.call 230 [.val 29] [(.b 0,26)] [.a,.n,.n,.p] (.s 30) [(30,33),(.b 0,26)]
(.call 229 [.s 30] [(30,33)] [.i,.a,.n,.n,.p,.i,.p] (.au [.agg [34,.s 35],39]) [(35,38),(30,40)]
(.new
(.join [.c]
(.br (.not (.eq 39 (.i 0)))
(.again 0 [.e (.not (.not (.c true)))])
(.call 231 [.ptr 0 0] [(.b 0,26)] [.i] 42 [(.b 0,26)]
(.again 0 [.e (.not (.not (.not (.eq 34 42))))])))
(.br 42
(.op (.store 3 (.tmp 82) (.const (.int .i64 6))) 0 [(82,.ptr 0 4)] [(.b 0,26)] [.p] (.au []) [(.b 0,43)]
(.ret (.au []) [(.b 0,43),(10,13),(16,19)]))
(.op (.store 29 (.tmp 87) (.tmp 85)) 0 [(87,.ptr 0 21),(85,.agg [34,.s 35])] [(.b 0,26),(35,38)] [.p] (.au []) [(.b 0,43),(35,38)]
(.op (.store 3 (.tmp 89) (.const (.int .i64 3))) 0 [(89,.ptr 0 4)] [(.b 0,43)] [.p] (.au []) [(.b 0,44)]
(.op (.store 224 (.tmp 93) (.tmp 91)) 0 [(93,.ptr 0 5),(91,.agg [.bool (.c false),.bool (.c false),.bool (.c false),.bool (.c false),.bool (.c false),.bool (.c false),.bool (.c false)])] [(.b 0,44)] [.p] (.au []) [(.b 0,45)]
(.ret (.au []) [(.b 0,45),(10,13),(16,19)]))))))))))
(.ret (.au []) [(.b 0,26),(10,13),(16,19)])))))))))
theorem EO:tree Tryz.prog {fx:=[225],aB:=io,bz:=true,cx:=true,cf:=[225],jn:=[((71,43),some {ss:=[.c],n:=44,tv:=[(71,none),(72,none),(73,none),(74,none),(75,none),(76,none),(77,none),(78,none),(79,some (.bool 43))],h:=[(.b 42,.cells [35,.s 36] 29),(36,39),(31,41),(.b 0,26),(16,27),(.b 24,.cells [2,3,4,.bool 5,6,7,8,9,.s 10,14,15,.s 16,20,21,22,23] 48),(10,13)],lk:=[]}),((71,42),some {ss:=[.c],n:=43,tv:=[(71,none),(72,none),(73,none),(74,none),(75,none),(76,none),(77,none),(78,none),(79,some (.bool 42))],h:=[(.b 41,.cells [34,.s 35] 29),(35,38),(30,40),(.b 0,26),(.b 24,.cells [2,3,4,.bool 5,6,7,8,9,.s 10,14,15,.s 16,20,21,22,23] 48),(10,13),(16,19)],lk:=[]})]} Tryz.f179 [.ptr 0 0,.agg [2,3,4,.bool 5,6,7,8,9,.s 10,14,15,.s 16,20,21,22,23]] [(.b 0,1),(10,13),(16,19)] 24=EN:=by kernel_rfl
def MA:T:=
(.new
(.br (.eq 20 (.i 0))
 (.ld 3 11 (.ptr 0 23) [(.b 0,1)] [.i] 25
(.read (.call ⟨.builtin .max,#[.tmp 12,.tmp 14,.tmp 16],#[3,3,3]⟩) 3 [(12,25),(14,21),(16,22)] [] [.i] 26
(.op (.store 3 (.tmp 19) (.tmp 17)) 0 [(19,.ptr 0 23),(17,26)] [(.b 0,1)] [.p] (.au []) [(.b 0,27)]
(.read (.indexAddr 224 (.tmp 38) (.tmp 36)) 0 [(38,.ptr 0 5),(36,2)] [(.b 0,27)] [.v] (.val 28)
(.op (.store 4 (.tmp 39) (.const (.bool true))) 0 [(39,.val 28)] [(.b 0,27)] [.p] (.au []) [(.b 0,29)]
(.call 223 [.ptr 0 0] [(.b 0,29)] [.c] (.bool 30) [(.b 0,29)]
(.br 30
(.op (.store 3 (.tmp 44) (.const (.int .i64 4))) 0 [(44,.ptr 0 4)] [(.b 0,29)] [.p] (.au []) [(.b 0,31)]
(.ret (.au []) [(.b 0,31),(10,13),(16,19)]))
(.ret (.au []) [(.b 0,29),(10,13),(16,19)]))))))))
(.join [.c]
(.br (.not (.eq 20 (.i 8)))
(.again 0 [.e (.not (.not (.c true)))])
(.call 231 [.ptr 0 0] [(.b 0,1)] [.i] 25 [(.b 0,1)]
(.again 0 [.e (.not (.not (.le 23 25)))])))
(.br 25
(.op (.store 3 (.tmp 33) (.const (.int .i64 6))) 0 [(33,.ptr 0 4)] [(.b 0,1)] [.p] (.au []) [(.b 0,26)]
(.ret (.au []) [(.b 0,26),(10,13),(16,19)]))
(.read (.indexAddr 224 (.tmp 38) (.tmp 36)) 0 [(38,.ptr 0 5),(36,2)] [(.b 0,1)] [.v] (.val 26)
(.op (.store 4 (.tmp 39) (.const (.bool true))) 0 [(39,.val 26)] [(.b 0,1)] [.p] (.au []) [(.b 0,27)]
(.call 223 [.ptr 0 0] [(.b 0,27)] [.c] (.bool 28) [(.b 0,27)]
(.br 28
(.op (.store 3 (.tmp 44) (.const (.int .i64 4))) 0 [(44,.ptr 0 4)] [(.b 0,27)] [.p] (.au []) [(.b 0,29)]
(.ret (.au []) [(.b 0,29),(10,13),(16,19)]))
(.ret (.au []) [(.b 0,27),(10,13),(16,19)])))))))))
theorem Jl:tree Tryz.prog {fx:=[225],aB:=io,bz:=true,cx:=true,cf:=[225],jn:=[((21,25),some {ss:=[.c],n:=26,tv:=[(21,none),(22,none),(23,none),(24,none),(25,none),(26,none),(27,none),(28,none),(29,none),(30,none),(20,some (.bool 25))],h:=[(.b 24,.cells [2,3,4,.bool 5,6,7,8,9,.s 10,14,15,.s 16,20,21,22,23] 48),(.b 0,1),(10,13),(16,19)],lk:=[]})]} Tryz.f180 [.ptr 0 0,.agg [2,3,4,.bool 5,6,7,8,9,.s 10,14,15,.s 16,20,21,22,23]] [(.b 0,1),(10,13),(16,19)] 24=MA:=by kernel_rfl
end RX
section
open RX
structure bY where
 old:rf
 cv:Int
 dQ:Int
 st:Int
 bf:Nat->Bool
 there:Nat->Bool
 own:List UInt8
 prop:Option j8
 bt:rf
 tail:Int
structure BG where
 oa:Option Addr
 oc:Nat
 kG:List iZ
 wa:Option Addr
 wc:Nat
 pv:Option Addr
 pa:Option Addr
 pc:Nat
 kC:List iZ
def gL(g:bY)(r:BG):List Value:=[.int .i64 g.old.ep,.slice r.oa r.kG.length r.oc,.int .i64 g.cv,.int .i64 g.dQ,.int .i64 g.st]++(OF g.bf++(OF g.there++[.slice r.wa g.own.length r.wc,.pointer r.pv,.int .i64 g.bt.ep,.slice r.pa r.kC.length r.pc,.int .i64 g.tail]))
theorem wE(g:bY)(r:BG):(gL g r).length=24:=by simp[gL,dw]
theorem Ta(g:bY)(r:BG){k:Nat}(h:k<7):(gL g r)[5+k]? =some (.bool (g.bf k)):=by
 unfold gL
 rw[List.getElem?_append_right (by simp),List.getElem?_append_left (by rw[dw];simp;omega)]
 rw[<-mS g.bf h];congr 1;simp
theorem Jm(g:bY)(r:BG){k:Nat}(h:k<7):(gL g r)[12+k]? =some (.bool (g.there k)):=by
 unfold gL
 rw[List.getElem?_append_right (by simp;omega),List.getElem?_append_right (by rw[dw];simp;omega),List.getElem?_append_left (by rw[dw,dw];simp;omega)]
 rw[<-mS g.there h];congr 1;rw[dw];simp;omega
theorem BH(g:bY)(r:BG){k:Nat}(h:k<7)(b:Bool):(gL g r).set (5+k) (.bool b)=gL {g with bf:=eT g.bf k b} r:=by
 unfold gL
 rw[List.set_append_right _ _ (by simp),List.set_append_left _ _ (by rw[dw];simp;omega)]
 simp only[List.length_cons,List.length_nil,Nat.zero_add,Nat.add_sub_cancel_left]
 rw[Bv _ h]
theorem wF(g:bY)(r:BG){k:Nat}(h:k<7)(b:Bool):(gL g r).set (12+k) (.bool b)=gL {g with there:=eT g.there k b} r:=by
 unfold gL
 rw[List.set_append_right _ _ (by simp;omega),List.set_append_right _ _ (by rw[dw];simp;omega),List.set_append_left _ _ (by rw[dw,dw];simp;omega)]
 rw[dw]
 simp only[List.length_cons,List.length_nil]
 rw[show 12+k - (0+1+1+1+1+1) - 7=k by omega,Bv _ h]
def pM(pv:Option Addr):Option j8->HP
 |none=>HP.pure (pv=none)
 |some s=>HP.ex λpb=>HP.and (pv=some ⟨pb,0,none⟩) (dG pb s)
def rj(g:bY)(r:BG):HP:=HP.both (Ls fu r.oa r.kG.length r.kG) (HP.both (aO r.wa g.own.length g.own) (Ls fu r.pa r.kC.length r.kC))
structure HZ(g:bY)(r:BG):Prop where
 o:r.kG.map (·.l)=g.old.ch
 p:r.kC.map (·.l)=g.bt.ch
 ob:r.kG.length<=1000/\∀x∈r.kG,x.l.length<=1000000
 pb:r.kC.length<=1000/\∀x∈r.kC,x.l.length<=1000000
 wb:g.own.length<=1000000
def uD(b:Nat)(g:bY)(r:BG):HP:=HP.one b (.cells (gL g r).toArray 227 (0,0))
def aF(b:Nat)(g:bY)(r:BG):HP:=HP.and (HZ g r) (HP.an (uD b g r) (HP.an (pM r.pv g.prop) (rj g r)))
def gM(b:Nat)(g:bY):HP:=HP.ex λr=>aF b g r
theorem rj.gf{g:bY}{r:BG}{R h:PH}(h':PH)(H:(rj g r).p R h):(rj g r).p R h':=⟨Ls.gf h' H.1,H.2.1,Ls.gf h' H.2.2⟩
section
variable {b:Nat}{g:bY}{r:BG}
theorem aF.ro{R h:PH}(H:(aF b g r).p R h):(rj g r).p R h:=HP.ai (HP.ai H.2)
theorem Tb{t:TypeId}{d:TypeDesc}(hd:Tryz.prog.underlying t=some d)(ha:gF Tryz.prog t=false)(hz:gr Tryz.prog t=1){k:Nat}{v:Value}(hk:(gL g r)[k]? =some v):
 aH Tryz.prog (bG t (.pointer (some ⟨b,k,none⟩))) (aF b g r) v:=
 aH.aV (.of λR h H=>H.2) (Sq (Q:=HP.an (pM r.pv g.prop) (rj g r)) hd ha hz (by simpa using hk))
theorem n9{k:Nat}{x:Int}(hk:(gL g r)[k]? =some (.int .i64 x)):aH Tryz.prog (bG 3 (.pointer (some ⟨b,k,none⟩))) (aF b g r) (.int .i64 x):=Tb pE A7 L7 hk
theorem YK{k:Nat}{x y:Value}(hk:(gL g r)[k]? =some x)(VP:(gL g r)[k+1]? =some y):aH Tryz.prog (bG 29 (.pointer (some ⟨b,k,none⟩))) (aF b g r) (.agg #[x,y]):=by
 obtain⟨d,hd⟩:∃d,Tryz.prog.underlying 29=some d:=Option.isSome_iff_exists.1 (by kernel_rfl)
 refine aH.aV (.of λR h H=>H.2) (ZV (Q:=HP.an (pM r.pv g.prop) (rj g r)) (vs:=[x,y]) hd (by kernel_rfl) (by kernel_rfl) (by simp) λj v hj=>?_)
 match j with
 |0=>simp at hj;subst hj;simpa using hk
 |1=>simp at hj;subst hj;simpa using VP
 |j+2=>simp at hj
theorem adk:Tryz.prog.underlying 225=some (.pointer 332):=by kernel_rfl
theorem adl:gF Tryz.prog 225=false:=by kernel_rfl
theorem agZ:gr Tryz.prog 225=1:=by kernel_rfl
theorem uE:aH Tryz.prog (bG 225 (.pointer (some ⟨b,20,none⟩))) (aF b g r) (dZ (.pointer r.pv)):=Tb adk adl agZ rfl
theorem WM:aH Tryz.prog (bG 42 (.pointer (some ⟨b,19,none⟩))) (aF b g r) (.slice r.wa g.own.length r.wc):=Tb lY DP SQ rfl
theorem ag0{k:Nat}{v:Value}(hk:(gL g r)[k]? =some v):aH Tryz.prog (bG 27 (.pointer (some ⟨b,k,none⟩))) (aF b g r) v:=Tb zl (by kernel_rfl) (by kernel_rfl) hk
theorem Tc{k:Nat}(h:k<7):aH Tryz.prog (bG 4 (.pointer (some ⟨b,5+k,none⟩))) (aF b g r) (.bool (g.bf k)):=Tb DE DF uz (Ta g r h)
theorem aSt{t:TypeId}{i:TypeInfo}(hi:Tryz.prog.info? t=some i)(hz:i.size=1){k:Nat}(hk:k<24){x:Value}(hx:x.cells= #[x])(h1:x.oneCell'=true){g':bY}{r':BG}(sB:(gL g r).set k x=gL g' r')(hok:HZ g r->HZ g' r')(Q:HP)
 (kh:∀R h,HZ g r->(HP.an (HP.an (pM r.pv g.prop) (rj g r)) Q).p R h->(HP.an (pM r'.pv g'.prop) (rj g' r')).p R h):
 aI Tryz.prog (bH t (.pointer (some ⟨b,k,none⟩)) x) (HP.an (aF b g r) Q) (λv=>HP.and (v=.tuple #[]) (aF b g' r')):=by
 refine aI.bV (φ:=HZ g r) (λR h H=>(HP.aj H).1) λhro=>?_
 refine(Sr (cs':=(gL g' r').toArray) (e:=227) hi hz (k:=k) (cs:=(gL g r).toArray) hx h1 (by simp[wE];exact hk) (by rw[<-sB];simp) (HP.an (HP.an (pM r.pv g.prop) (rj g r)) Q)).ak (λR h H=>HP.aq (HP.ae H (λ_ h=>h.2) λ_ h=>h)) ?_
 rintro v R h ⟨e,H⟩
 exact⟨e,hok hro,HP.ae H (λ_ h=>h) λy hy=>kh R y hro hy⟩
theorem adm{t:TypeId}{i:TypeInfo}(hi:Tryz.prog.info? t=some i)(hz:i.size=1){k:Nat}(hk:k<24){x:Value}(hx:x.cells= #[x])(h1:x.oneCell'=true){g':bY}(sB:(gL g r).set k x=gL g' r)(hok:HZ g r->HZ g' r)(hp:g'.prop=g.prop)(hw:g'.own=g.own):
 aI Tryz.prog (bH t (.pointer (some ⟨b,k,none⟩)) x) (aF b g r) (λv=>HP.and (v=.tuple #[]) (aF b g' r)):=
 (aSt (Q:=HP.tt) hi hz hk hx h1 sB hok (λR h _ H=>by
   have:=HP.aj H
   unfold rj at*
   rw[hp,hw];exact this)).ak (λR h H=>HP.az H) λ_ _ _ h=>h
theorem WN{k:Nat}(hk:k<24){x:Int}{g':bY}(sB:(gL g r).set k (.int .i64 x)=gL g' r)(ho:g'.old=g.old)(RW:g'.bt.ch=g.bt.ch)(hp:g'.prop=g.prop)(hw:g'.own=g.own):
 aI Tryz.prog (bH 3 (.pointer (some ⟨b,k,none⟩)) (.int .i64 x)) (aF b g r) (λv=>HP.and (v=.tuple #[]) (aF b g' r)):=by
 obtain⟨i,hi,z1,z2,z3⟩:=info_parts iG
 exact adm hi z2 hk rfl rfl sB (λh=>⟨by rw[ho];exact h.o,by rw[RW];exact h.p,h.ob,h.pb,by rw[hw];exact h.wb⟩) hp hw
theorem adn{k:Nat}(hk:k<24){x:Bool}{g':bY}(sB:(gL g r).set k (.bool x)=gL g' r)(ho:g'.old=g.old)(RW:g'.bt=g.bt)(hp:g'.prop=g.prop)(hw:g'.own=g.own):
 aI Tryz.prog (bH 4 (.pointer (some ⟨b,k,none⟩)) (.bool x)) (aF b g r) (λv=>HP.and (v=.tuple #[]) (aF b g' r)):=by
 obtain⟨i,hi,z1,z2,z3⟩:=info_parts I3
 exact adm hi z2 hk rfl rfl sB (λh=>⟨by rw[ho];exact h.o,by rw[RW];exact h.p,h.ob,h.pb,by rw[hw];exact h.wb⟩) hp hw
theorem wG{f:FuncId}{args:Value->Array Value}{s:j8}{B:Value->HP}{K:HP}(hp:g.prop=some s)(t:∀pb,ax Tryz.prog f (args (.pointer (some ⟨pb,0,none⟩))) (HP.an (dG pb s) K) (λv=>HP.an (B v) (dG pb s))):
 ax Tryz.prog f (args (dZ (.pointer r.pv))) (HP.an (aF b g r) K) (λv=>HP.an (B v) (aF b g r)):=by
 refine(ax.ex (A:=λpb=>HP.and (r.pv=some ⟨pb,0,none⟩/\HZ g r) (HP.an (HP.an (dG pb s) K) (HP.an (uD b g r) (rj g r)))) λpb=>ax.pure λ⟨e,hok⟩=>?_).ak (λR h H=>?_) λ_ _ _ h=>h
 ·rw[e]
  refine((t pb).frame (HP.an (uD b g r) (rj g r))).ak (λ_ _ h=>h) λv R h H=>?_
  have H1:=HP.aq H
  refine HP.ae H1 (λ_ h=>h) λy hy=>⟨hok,?_⟩
  have H2:=HP.pick [dG pb s,uD b g r,rj g r] [1,0,2] (by decide) rfl hy
  refine HP.ae H2 (λ_ h=>h) λz hz=>HP.ae hz (λw hw=>?_) λ_ h=>h
  rw[hp,e]
  exact⟨pb,rfl,hw⟩
 ·obtain⟨h1,h2,d,l1,l2,⟨hok,H⟩,HK⟩:=H
  rw[hp]at H
  obtain⟨h3,h4,d2,l3,l4,HO,h5,h6,d3,l5,l6,⟨pb,e,HB⟩,HR⟩:=H
  refine⟨pb,⟨e,hok⟩,?_⟩
  have H9:(HP.an (HP.an (uD b g r) (HP.an (dG pb s) (rj g r))) K).p R h:=⟨h1,h2,d,l1,l2,⟨h3,h4,d2,l3,l4,HO,h5,h6,d3,l5,l6,HB,HR⟩,HK⟩
  have H10:=HP.ae (HP.aq H9) (λ_ h=>h) λy hy=>HP.aq hy
  exact HP.ay (HP.pick [uD b g r,dG pb s,rj g r,K] [1,3,0,2] (by decide) rfl H10)
theorem sM{f:FuncId}{args:Value->Array Value}{s:j8}{φ:Value->Prop}(hp:g.prop=some s)(t:∀pb,ax Tryz.prog f (args (.pointer (some ⟨pb,0,none⟩))) (dG pb s) (λv=>HP.and (φ v) (dG pb s))):
 ax Tryz.prog f (args (dZ (.pointer r.pv))) (aF b g r) (λv=>HP.and (φ v) (aF b g r)):=
 (wG (B:=λv=>HP.pure (φ v)) (K:=HP.tt) hp λpb=>(t pb).ak (λR h H=>HP.aj H) λv R h ⟨e,H⟩=>HP.Q5 H e).ak (λR h H=>HP.az H) λv R h H=>⟨HP.aj H,HP.ai H⟩
theorem sN{s:j8}(hp:g.prop=some s):ax Tryz.prog 226 #[dZ (.pointer r.pv)] (aF b g r) (λv=>HP.and (v=.int .i64 s.bX) (aF b g r)):=sM (args:=λp=> #[p]) hp λpb=>Jd pb s
theorem qt{s:j8}(hp:g.prop=some s):ax Tryz.prog 228 #[dZ (.pointer r.pv)] (aF b g r) (λv=>HP.and (v=.agg #[.int .i64 s.iA,.int .i64 s.dQ]) (aF b g r)):=sM (args:=λp=> #[p]) hp λpb=>Ev pb s
theorem Jn{s:j8}(hp:g.prop=some s)(u:Int):ax Tryz.prog 286 #[dZ (.pointer r.pv),.int .i64 u] (aF b g r) (λv=>HP.and (v=.bool (jf s u)) (aF b g r)):=sM (args:=λp=> #[p,.int .i64 u]) hp λpb=>Jf pb s u
theorem OR{s:j8}(hp:g.prop=some s):ax Tryz.prog 230 #[dZ (.pointer r.pv)] (aF b g r) (λv=>HP.ex λa=>HP.ex λc=>HP.and (v=.slice a s.val.length c) (HP.an (aO a s.val.length s.val) (aF b g r))):=
 (wG (args:=λp=> #[p]) (B:=λv=>HP.ex λa=>HP.ex λc=>HP.and (v=.slice a s.val.length c) (aO a s.val.length s.val)) (K:=HP.tt) hp λpb=>(Je pb s).ak (λR h H=>HP.aj H) λv R h ⟨a,c,e,H⟩=>HP.ae H (λ_ h=>⟨a,c,e,h⟩) λ_ h=>h).ak (λR h H=>HP.az H) λv R h ⟨h1,h2,d,l1,l2,⟨a,c,e,H1⟩,H2⟩=>⟨a,c,e,h1,h2,d,l1,l2,H1,H2⟩
theorem OS:ax Tryz.prog 108 #[.pointer (some ⟨b,0,none⟩)] (aF b g r) (λv=>HP.and (v=.int .i64 g.st) (aF b g r)):=by
 refine ah (ρ:=[.n b,.p (aF b g r)]) mixed Tryz.func108 EC ?_
 unfold EB
 refine cg ?_
 exact⟨g.st,n9 rfl,.of λR h H=>⟨rfl,H⟩⟩
theorem ke(h0:0<=g.old.ep)(h1:g.old.ep<=2147483647):ax Tryz.prog 231 #[.pointer (some ⟨b,0,none⟩)] (aF b g r) (λv=>HP.and (v=.int .i64 (g.old.ep+1)) (aF b g r)):=by
 refine ah (ρ:=[.n b,.p (aF b g r)]) mixed Tryz.func231 EE ?_
 unfold ED
 refine cg ?_
 exact⟨g.old.ep,n9 rfl,aK _ (by omega) (by omega),λ_=>.of λR h H=>⟨rfl,H⟩⟩
theorem ado:tD Tryz.prog 334:=⟨_,Tryz.func334,by kernel_rfl,by kernel_rfl⟩
def wH(p:rf)(u:Int):Bool:=p.ch.any λc=>decide (u∈c)
theorem EP(u:Int):ax Tryz.prog 315 #[.pointer (some ⟨b,0,none⟩),.int .i64 u] (aF b g r) (λv=>HP.and (v=.bool (wH g.bt u)) (aF b g r)):=by
 refine ax.bV (φ:=HZ g r) (λR h H=>H.1) λhok=>?_
 refine ah (ρ:=[.n b,.p (aF b g r),.i u]) mixed Tryz.func315 yi ?_
 unfold wD
 refine cg ?_
 intro x
 refine⟨r.pa,r.kC.length,r.pc,ag0 rfl,?_⟩
 refine(yg (aF b g r) (HP.one x (.cells #[.int .i64 u] 3 (0,0))) r.pa r.kC.length r.pc r.kC (λR h H=>(aF.ro H).2.2) (by have:=hok.pb.1;omega) (.func (.func 334) #[] #[.pointer (some ⟨x,0,none⟩)]) rfl (λy=>decide (u∈y.l)) λy hy=>?_).ak (λ_ _ h=>h) ?_
 ·refine .inl ⟨_,_,rfl,ado,?_⟩
  refine(ah (ρ:=[.a y.a,.n y.l.length,.n y.c,.p (aF b g r),.n x,.i u]) (post:=λv=>HP.and (v=.bool (decide (u∈y.l))) (HP.an (aF b g r) (HP.one x (.cells #[.int .i64 u] 3 (0,0))))) mixed Tryz.func334 wC ?_).ak (λR h H=>HP.ao H) λv R h ⟨e,H⟩=>⟨e,HP.ao H⟩
  unfold tW
  refine cg ?_
  refine(rc (aF b g r) y.a y.l.length y.c y.l (.of λR h H=>(aF.ro H).2.2.2.2 y hy) rfl (by have:=hok.pb.2 y hy;omega) u).ak (λ_ _ h=>h) ?_
  rintro v R h ⟨rfl,H⟩
  exact⟨_,rfl,.of λR h H=>⟨rfl,H⟩,H⟩
 ·rintro v R h ⟨rfl,H⟩
  refine⟨_,rfl,.of λR h H=>⟨?_,?_⟩,H⟩
  ·congr 1
   unfold wH
   rw[<-hok.p,List.any_map];rfl
  ·first|exact H|exact HP.aj H
def jg(g:bY)(u:Nat):Bool:=
 if g.st=1 then decide ((u:Int)<g.cv)&& !g.bf u
 else if g.st=2 then(match g.prop with|some s=>jf s u|none=>false)
 else if g.st=3 then !g.bf u&&wH g.bt u
 else false
theorem OT(u:Nat)(hu:u<7)(hp:g.st=2->g.prop.isSome=true):ax Tryz.prog 284 #[.pointer (some ⟨b,0,none⟩),.int .i64 u] (aF b g r) (λv=>HP.and (v=.bool (jg g u)) (aF b g r)):=by
 refine ah (ρ:=[.n b,.p (aF b g r),.i u]) mixed Tryz.func284 EG ?_
 unfold EF
 simp only[T.den,E.prop,E.den,RX.look,F1.app,F2.app,aP.dH,aP.dP,aP.cr,aP.eQ,aP.e9,aP.fw,aP.ju,bg,dB,V.den,W.den,A.den,BR.den,SA.den,FV.den,iX,nF,nK,fj,g5.app,List.map_cons,List.map_nil,List.cons_append,List.nil_append,List.drop_succ_cons,List.drop_zero,List.length_cons,List.length_nil,Nat.zero_add,Nat.reduceAdd,Int.neg_neg,Bool.not_not,List.append_nil,Nat.add_zero,List.getElem?_cons_zero,List.getElem?_cons_succ,Decidable.not_not,cu,ne_eq,Nat.reduceEqDiff,not_false_eq_true,l9]
 refine⟨g.st,n9 rfl,λh1=>⟨g.cv,n9 rfl,λh2=>?_,λh2=>?_⟩,λh1=>⟨λh2=>?_,λh2=>⟨λh3=>?_,λh3=>?_⟩⟩⟩
 ·refine⟨.pointer (some ⟨b,5+u,none⟩),vY pJ tN uz rfl hu,g.bf u,Tc hu,.of λR h H=>⟨?_,H⟩⟩
  simp only[jg,if_pos h1,decide_eq_true h2,Bool.true_and]
 ·refine .of λR h H=>⟨?_,H⟩
  simp only[jg,if_pos h1,decide_eq_false h2,Bool.false_and]
 ·obtain⟨s,hs⟩:=Option.isSome_iff_exists.1 (hp h2)
  refine⟨.pointer r.pv,uE,?_⟩
  refine(Jn hs u).ak (λ_ _ h=>h) ?_
  rintro v R h ⟨rfl,H⟩
  refine⟨_,rfl,.of λR h H=>⟨?_,H⟩,H⟩
  simp only[jg,if_neg h1,if_pos h2,hs]
 ·refine⟨.pointer (some ⟨b,5+u,none⟩),vY pJ tN uz rfl hu,g.bf u,Tc hu,λh4=>?_,λh4=>?_⟩
  ·refine(EP u).ak (λ_ _ h=>h) ?_
   rintro v R h ⟨rfl,H⟩
   refine⟨_,rfl,.of λR h H=>⟨?_,H⟩,H⟩
   simp only[jg,if_neg h1,if_neg h2,if_pos h3]
   have:g.bf u=false:=by simpa using h4
   rw[this];rfl
  ·refine .of λR h H=>⟨?_,H⟩
   simp only[jg,if_neg h1,if_neg h2,if_pos h3]
   have:g.bf u=true:=by simpa using h4
   rw[this];rfl
 ·refine .of λR h H=>⟨?_,H⟩
  simp only[jg,if_neg h1,if_neg h2,if_neg h3]
def gm(g:bY)(u:Nat):MS:=
 if g.st=2 then(match g.prop with
  |some s=>⟨0,u,0,false,if s.bX=2 then 7 else 6,g.old.ep+1,g.old.ep+1,zC,s.iA,s.dQ,if s.bX=2 then s.val else[],0,0,0,0⟩
  |none=>⟨0,u,0,false,4,g.old.ep+1,0,zC,0,0,[],0,0,0,0⟩)
 else⟨0,u,0,false,4,g.old.ep+1,0,zC,0,0,[],0,0,0,0⟩
theorem WO(u:Nat)(h0:0<=g.old.ep)(h1:g.old.ep<=2147483647)(hp:g.st=2->g.prop.isSome=true)(hs:∀s,g.prop=some s->s.val.length<=140737488355328):
 ax Tryz.prog 285 #[.pointer (some ⟨b,0,none⟩),.int .i64 u] (aF b g r) (λv=>HP.ex λva=>HP.ex λvc=>HP.and (v=.agg ((gm g u).cF none 0 va vc).aA) (HP.an ((gm g u).bj va) (aF b g r))):=by
 refine ah (ρ:=[.n b,.p (aF b g r),.i u]) mixed Tryz.func285 OQ ?_
 unfold S9
 refine cg ?_
 intro _
 refine(ke h0 h1).ak (λ_ _ h=>h) ?_
 rintro v R h ⟨rfl,H⟩
 refine⟨_,rfl,λ_=>⟨g.st,n9 rfl,λh2=>⟨.pointer r.pv,uE,?_⟩,λh2=>.of λR h H=>⟨none,0,?_,?_⟩⟩,H⟩
 ·obtain⟨s,hsp⟩:=Option.isSome_iff_exists.1 (hp h2)
  have ea:gm g u=⟨0,u,0,false,if s.bX=2 then 7 else 6,g.old.ep+1,g.old.ep+1,zC,s.iA,s.dQ,if s.bX=2 then s.val else[],0,0,0,0⟩:=by
   unfold gm;rw[if_pos h2,hsp]
  clear H
  refine(ke h0 h1).ak (λ_ _ h=>h) ?_
  rintro v R h ⟨rfl,H⟩
  refine⟨_,rfl,?_,H⟩
  refine(qt hsp).ak (λ_ _ h=>h) ?_
  rintro v R h ⟨rfl,H⟩
  refine⟨_,_,rfl,⟨.pointer r.pv,uE,?_⟩,H⟩
  refine(sN hsp).ak (λ_ _ h=>h) ?_
  rintro v R h ⟨rfl,H⟩
  refine⟨_,rfl,⟨λh3=>⟨.pointer r.pv,uE,?_⟩,λh3=>.of λR h H=>⟨none,0,?_,?_⟩⟩,H⟩
  ·clear H
   refine(OR hsp).ak (λ_ _ h=>h) ?_
   rintro v R h ⟨a1,c1,rfl,H⟩
   refine⟨a1,_,c1,aO a1 s.val.length s.val,rfl,?_,H⟩
   clear H
   refine(ei (aO a1 s.val.length s.val) a1 s.val.length c1 s.val (bR.ro _ _ _ _) rfl (hs s hsp)).ak (λ_ _ h=>h) ?_
   rintro v R h ⟨a2,c2,rfl,H⟩
   refine⟨a2,_,c2,aO a2 s.val.length s.val,_,rfl,.of λR h H=>⟨a2,c2,?_,?_⟩,H⟩
   ·rw[ea];simp only[if_pos h3];rfl
   ·rw[ea];simp only[if_pos h3]
    exact HP.ao H
  ·rw[ea];simp only[if_neg h3];rfl
  ·rw[ea];simp only[if_neg h3]
   exact bb.join (n6 none:(aO none 0 []).p R h) H
 ·unfold gm;rw[if_neg h2];rfl
 ·unfold gm;rw[if_neg h2]
  exact bb.join (n6 none:(aO none 0 []).p R h) H
end
structure js where
 m:MS
 ca:Option Addr
 cc:Nat
 va:Option Addr
 vc:Nat
abbrev js.aA(x:js):Array Value:=(x.m.cF x.ca x.cc x.va x.vc).aA
def sO:qg js:=⟨16,by decide,λx=>x.aA.toList,λ_=>rfl,λx=>HP.both (x.m.bB x.ca) (x.m.bj x.va),λ_ _ _ _ H=>H⟩
theorem uY:∀x,∀u∈sO.aA x,u.oneCell'=true:=λx u hu=>by
 simp only[sO,js.aA,MR.aA,List.mem_cons,List.not_mem_nil,or_false]at hu
 rcases hu with h|h|h|h|h|h|h|h|h|h|h|h|h|h|h|h<;>(subst h;rfl)
abbrev dE:PK js:=sC sO 48 uY
theorem aah:(Tryz.prog.info? 48).map (λi=>(i.zero.map (λz=>z.cells.size),i.zero.isSome,i.size,i.bytes))=some (some 16,true,16,160):=by kernel_rfl
theorem BI:∃i z,Tryz.prog.info? 48=some i/\i.zero=some z/\z.cells.size=i.size/\i.size=16/\i.bytes=160:=by
 obtain⟨AZ,hi,hz⟩:=Option.map_eq_some_iff.1 aah
 simp only[Prod.mk.injEq,Option.map_eq_some_iff]at hz
 obtain⟨⟨z,ZX,QT⟩,_,QV,WP⟩:=hz
 exact⟨AZ,z,hi,ZX,by rw[QT,QV],QV,WP⟩
theorem lH:Tryz.prog.underlying 33=some (.slice 48):=by kernel_rfl
theorem Td:gF Tryz.prog 48=true:=by kernel_rfl
theorem WQ:gr Tryz.prog 48=16:=by kernel_rfl
theorem adp{S:HP}{a:Option Addr}{n:Nat}{l:List js}(hS:∀R h,S.p R h->(Ls sO a n l).p R h){k:Nat}{x:js}(hk:l[k]? =some x):
 aH Tryz.prog (bG 48 (.pointer (a.map λy=>(y.add ((k:Int).toNat*16)).add 0))) S (.agg x.aA):=by
 obtain⟨d,hd⟩:∃d,Tryz.prog.underlying 48=some d:=Option.isSome_iff_exists.1 (by kernel_rfl)
 have:=aH.aV (.of hS) (Ls.load (K:=sO) hd Td WQ hk)
 simpa[sO]using this
set_option maxHeartbeats 1000000 in
theorem Jo(S Q:HP)(a:Option Addr)(n c:Nat)(l:List js)(hS:∀R h,S.p R h->(Ls sO a n l).p R h)(hn:n<=1000000000)(fv:Value)(h1:dZ fv=fv)(p:js->Bool)
 (hf:∀x∈l,iu Tryz.prog fv #[.agg x.aA] (HP.an Q S) λv=>HP.and (v=.bool (p x)) (HP.an Q S)):
 ax Tryz.prog 214 #[.slice a n c,fv] (HP.an S Q) (λv=>HP.ex λr:Int=>HP.and (v=.int .i64 r/\(0<=r↔l.any p=true)) (HP.an S Q)):=by
 refine ax.bV (φ:=l.length=n/\(n≠0->a.isSome=true)) (λR h H=>⟨(hS R _ (HP.aj H)).1,λhn=>bb.some (hS R _ (HP.aj H)).2.1 (by omega)⟩) λ⟨hl,hs⟩=>?_
 have:=ah (ρ:=[.a a,.n n,.n c,.p S,.v fv,.p Q]) mixed Tryz.func214 (t:=sJ) (post:=λv=>HP.ex λr:Int=>HP.and (v=.int .i64 r/\(0<=r↔l.any p=true)) (HP.an S Q)) Br ?_
 ·simpa[W.den,RX.A.den,SA.den,E.den,RX.look,h1,bg,dB]using this
 unfold sJ
 simp only[T.den,E.prop,E.den,RX.look,F1.app,F2.app,aP.dH,aP.dP,aP.cr,aP.eQ,aP.e9,aP.fw,aP.ju,bg,dB,V.den,W.den,A.den,BR.den,SA.den,FV.den,iX,nF,nK,fj,g5.app,List.map_cons,List.map_nil,List.cons_append,List.nil_append,List.drop_succ_cons,List.drop_zero,List.length_cons,List.length_nil,Nat.zero_add,Nat.reduceAdd,Int.neg_neg,Bool.not_not,List.append_nil,Nat.add_zero,List.getElem?_cons_zero,List.getElem?_cons_succ,Decidable.not_not,cu,ne_eq,Nat.reduceEqDiff,not_false_eq_true,h1]
 refine⟨λ_ i P=>∃k:Nat,i=k/\k<=n/\Q=P/\∀(j:Nat) (x:js),j<k->l[j]? =some x->p x=false,λ_ i _=>n - i.toNat,⟨0,rfl,Nat.zero_le _,rfl,λq x h=>by omega⟩,?_⟩
 rintro _ _ _ ⟨k,rfl,hk,rfl,hall⟩
 refine⟨λhlt=>⟨by omega,λ_=>⟨hs (by omega),λ_=>?_⟩⟩,λlN=>.of λR h H=>⟨-1,⟨rfl,?_⟩,H⟩⟩
 ·have kW:k<l.length:=by omega
  obtain⟨x,hx⟩:∃x,l[k]? =some x:=⟨l[k],List.getElem?_eq_getElem kW⟩
  refine⟨x.m.fr,x.m.to,x.m.num,x.m.bf,x.m.kind,x.m.ep,x.m.at',x.m.cell.what,x.ca,x.m.cell.data.length,x.cc,x.m.br,x.m.bw,x.va,x.m.val.length,x.vc,x.m.bM,x.m.tail,x.m.low,x.m.back,adp hS hx,?_⟩
  refine(hf x (List.mem_of_getElem? hx)).ak (λ_ _ h=>h) ?_
  rintro v R h ⟨rfl,H⟩
  refine⟨p x,Q,rfl,⟨λhp=>.of λR h H=>⟨k,⟨rfl,⟨λ_=>List.any_eq_true.2 ⟨x,List.mem_of_getElem? hx,hp⟩,λ_=>by omega⟩⟩,H⟩,λhp=>⟨aK _ (by omega) (by omega),λ_=>⟨⟨k+1,by omega,by omega,rfl,λq y hq hy=>?_⟩,by dsimp only;omega⟩⟩⟩,H⟩
  rcases Nat.lt_or_ge q k with h|h
  ·exact hall q y h hy
  ·obtain rfl:q=k:=by omega
   rw[hx]at hy;cases hy
   simpa using hp
 ·refine⟨λh=>by omega,λh=>?_⟩
  obtain⟨x,hx,hp⟩:=List.any_eq_true.1 h
  obtain⟨q,hq,rfl⟩:=List.mem_iff_getElem.1 hx
  have:=hall q l[q] (by omega) (List.getElem?_eq_getElem hq)
  rw[hp]at this;cases this
theorem pN(S Q:HP)(a:Option Addr)(n c:Nat)(l:List js)(hS:∀R h,S.p R h->(Ls sO a n l).p R h)(hn:n<=1000000000)(fv:Value)(h1:dZ fv=fv)(p:js->Bool)
 (hf:∀x∈l,iu Tryz.prog fv #[.agg x.aA] (HP.an Q S) λv=>HP.and (v=.bool (p x)) (HP.an Q S)):
 ax Tryz.prog 156 #[.slice a n c,fv] (HP.an S Q) (λv=>HP.and (v=.bool (l.any p)) (HP.an S Q)):=by
 have:=ah (ρ:=[.a a,.n n,.n c,.p S,.v fv,.p Q]) mixed Tryz.func156 (t:=mR) (post:=λv=>HP.and (v=.bool (l.any p)) (HP.an S Q)) uB ?_
 ·simpa[W.den,RX.A.den,SA.den,E.den,RX.look,h1,bg,dB]using this
 unfold mR
 simp only[T.den,E.prop,E.den,RX.look,F1.app,F2.app,aP.dH,aP.dP,aP.cr,aP.eQ,aP.e9,aP.fw,aP.ju,bg,dB,V.den,W.den,A.den,BR.den,SA.den,FV.den,iX,nF,nK,fj,g5.app,List.map_cons,List.map_nil,List.cons_append,List.nil_append,List.drop_succ_cons,List.drop_zero,List.length_cons,List.length_nil,Nat.zero_add,Nat.reduceAdd,Int.neg_neg,Bool.not_not,List.append_nil,Nat.add_zero,List.getElem?_cons_zero,List.getElem?_cons_succ,Decidable.not_not,cu,ne_eq,Nat.reduceEqDiff,not_false_eq_true,h1]
 refine(Jo S Q a n c l hS hn fv h1 p hf).ak (λ_ _ h=>h) ?_
 rintro v R h ⟨r,⟨rfl,tL⟩,H⟩
 refine⟨r,S,Q,rfl,.of λR h H=>⟨?_,H⟩,H⟩
 congr 1
 rw[Bool.eq_iff_iff,decide_eq_true_eq]
 exact tL
def sQ(g:bY):MS:=⟨0,7,0,false,9,g.old.ep+1,g.tail,zC,0,0,[],0,0,0,0⟩
def dI(g:bY):List MS:=if g.st=4 then[sQ g]else((List.range 7).filter (jg g)).map (gm g)
theorem Te(p:Nat->Bool){u m:Nat}(hu:u<m)(h:p u=true):((List.range m).filter p)[((List.range u).filter p).length]? =some u:=by
 have e:List.range m=List.range u++u::(List.range' (u+1) (m - u - 1)):=by
  rw[List.range_eq_range',List.range_eq_range',show u::List.range' (u+1) (m - u - 1)=List.range' u (m - u)from by
   rw[show m - u=(m - u - 1)+1 by omega,List.range'_succ];simp]
  rw[show List.range' u (m - u)=List.range' (0+1*u) (m - u) by simp,List.range'_append]
  congr 1;omega
 rw[e,List.filter_append,List.getElem?_append_right (Nat.le_refl _),Nat.sub_self,List.filter_cons,if_pos h];rfl
theorem pg(p:Nat->Bool)(u:Nat):((List.range (u+1)).filter p).length=((List.range u).filter p).length+if p u=true then 1 else 0:=by
 rw[List.range_succ,List.filter_append,List.length_append]
 congr 1
 by_cases h:p u=true<;>simp[h]
section
variable {b:Nat}{g:bY}{r:BG}
def OV(x b:Nat):HP:=HP.one x (.cells #[.pointer (some ⟨b,0,none⟩)] 116 (0,0))
def aai(g:bY)(k:Nat)(args:Array Value)(k':Nat):Prop:=∃m va vc,(dI g)[k]? =some m/\args= #[.agg (m.cF none 0 va vc).aA]/\k'=k+1
def prA(g:bY)(k:Nat)(args:Array Value):HP:=HP.ex λm:MS=>HP.ex λva=>HP.ex λvc=>HP.and ((dI g)[k]? =some m/\args= #[.agg (m.cF none 0 va vc).aA]) (m.bj va)
theorem adq:tD Tryz.prog 283:=⟨_,Tryz.func283,by kernel_rfl,by kernel_rfl⟩
structure ny(g:bY):Prop where
 e0:0<=g.old.ep
 e1:g.old.ep<=2147483647
 p2:g.st=2->g.prop.isSome=true
 vl:∀s,g.prop=some s->s.val.length<=100000000
theorem EQ(hs:ny g)(x:Nat):vf Tryz.prog (.func (.func 283) #[] #[.pointer (some ⟨x,0,none⟩)]) (HP.an (OV x b) (aF b g r)) (λ_:Nat=>HP.tt) (prA g) (aai g) (λk=>k=(dI g).length) 0:=by
 refine⟨_,_,rfl,adq,λl K Jx hr=>?_⟩
 refine(ah (ρ:=[.v (.func (.yield l) #[] #[]),.p (K 0),.n x,.n b,.p (aF b g r)]) mixed Tryz.func283 EI ?_).ak (λR h H=>?_) λ_ _ _ h=>h
 rotate_left
 ·exact HP.pick [OV x b,aF b g r,HP.tt,K 0] [3,0,1] (by decide) rfl (HP.aq H)
 unfold EH
 refine cg ?_
 have iW:∀J:HP,HP.aV J (iy (λ_:Nat=>HP.tt) K Jx (λk=>k=(dI g).length))->HP.aV (HP.an J (HP.an (HP.one x (.cells #[.pointer (some ⟨b,0,none⟩)] 116 (0,0))) (aF b g r))) (HP.an (HP.an (OV x b) (aF b g r)) (iy (λ_:Nat=>HP.tt) K Jx (λk=>k=(dI g).length))):=λJ hJ=>
  (HP.aV.of λR h H=>HP.ao H).trans (HP.aV.gZ (.refl _) hJ)
 have done:∀k,k=(dI g).length->HP.aV (K k) (iy (λ_:Nat=>HP.tt) K Jx (λk=>k=(dI g).length)):=λk hk=>.of λR h H=>⟨some k,hk,HP.aM H⟩
 refine⟨g.st,n9 rfl,λh4=>?_,λh4=>?_⟩
 ·have hL:dI g=[sQ g]:=if_pos h4
  refine⟨g.tail,n9 rfl,?_⟩
  refine(ke hs.e0 hs.e1).ak (λ_ _ h=>h) ?_
  rintro v R h ⟨rfl,H⟩
  refine⟨_,rfl,?_,H⟩
  clear H
  have hm:(dI g)[0]? =some (sQ g):=by rw[hL];rfl
  refine(hr 0 #[.agg ((sQ g).cF none 0 none 0).aA] ⟨1,sQ g,none,0,hm,rfl,rfl⟩).be (K:=HP.tt) (.of λR h H=>HP.az ?_) λv=>.of λR h H=>?_
  ·refine⟨PH.cz,h,PH.dY _,PH.cT _,PH.le.refl _,⟨sQ g,none,0,⟨hm,rfl⟩,bb.nil _ _ _ _⟩,HP.aM H⟩
  ·obtain⟨b',rfl,hb⟩:=HP.aj H
   cases b' with
   |true=>
    obtain⟨g',⟨_,_,_,_,_,rfl⟩,H2⟩:=hb
    exact⟨true,K 1,rfl,iW _ (done 1 (by rw[hL];rfl)),HP.ai H2⟩
   |false=>exact⟨false,Jx,rfl,iW _ (.of λR h H=>⟨none,H⟩),hb⟩
 ·have hL:dI g=((List.range 7).filter (jg g)).map (gm g):=if_neg h4
  refine⟨λi p=>∃u:Nat,i=u/\u<=7/\p=K ((List.range u).filter (jg g)).length,λi _=>7 - i.toNat,⟨0,rfl,Nat.zero_le _,rfl⟩,?_⟩
  rintro _ _ ⟨u,rfl,hu,rfl⟩
  refine⟨λhlt=>?_,λlN=>?_⟩
  ·have hu7:u<7:=by omega
   refine(OT u hu7 hs.p2).ak (λ_ _ h=>h) ?_
   rintro v R h ⟨rfl,H⟩
   refine⟨_,rfl,⟨λha=>?_,λha=>⟨aK _ (by omega) (by omega),λ_=>⟨⟨u+1,by omega,by omega,?_⟩,by dsimp only;omega⟩⟩⟩,H⟩
   ·clear H
    have hm:(dI g)[((List.range u).filter (jg g)).length]? =some (gm g u):=by rw[hL,List.getElem?_map,Te _ hu7 ha];rfl
    refine(WO u hs.e0 hs.e1 hs.p2 λs h=>by have:=hs.vl s h;omega).ak (λ_ _ h=>h) ?_
    rintro v R h ⟨va,vc,rfl,H⟩
    refine⟨(gm g u).fr,(gm g u).to,(gm g u).num,(gm g u).bf,(gm g u).kind,(gm g u).ep,(gm g u).at',(gm g u).cell.what,none,(gm g u).cell.data.length,0,HP.tt,(gm g u).br,(gm g u).bw,va,(gm g u).val.length,vc,(gm g u).bj va,(gm g u).bM,(gm g u).tail,(gm g u).low,(gm g u).back,rfl,?_,HP.aM H⟩
    clear H
    refine(hr _ #[.agg ((gm g u).cF none 0 va vc).aA] ⟨_,gm g u,va,vc,hm,rfl,rfl⟩).be (K:=HP.an HP.tt ((gm g u).bj va)) (.of λR h H=>?_) λv=>.of λR h H=>?_
    ·have hv0:((gm g u).bj va).p R h:=HP.ai (HP.ai H)
     have hv:∀h',((gm g u).bj va).p R h':=λ_=>hv0
     exact HP.ae H (λy hy=>⟨PH.cz,y,PH.dY _,PH.cT _,PH.le.refl _,⟨gm g u,va,vc,⟨hm,rfl⟩,hv _⟩,HP.aM hy⟩) λ_ h=>h
    ·obtain⟨h1,h2,dd,l1,l2,⟨b',rfl,hb⟩,HV⟩:=H
     cases b' with
     |true=>
      obtain⟨g',⟨_,_,_,_,_,rfl⟩,H2⟩:=hb
      refine⟨true,_,rfl,⟨λh=>absurd rfl h,λ_=>⟨aK _ (by omega) (by omega),λ_=>⟨⟨u+1,by omega,by omega,?_⟩,by dsimp only;omega⟩⟩⟩,h1,h2,dd,l1,l2,HP.ai H2,HV⟩
      rw[pg,if_pos ha]
     |false=>exact⟨false,Jx,rfl,⟨λ_=>iW _ (.of λR h H=>⟨none,H⟩),λh=>by cases h⟩,h1,h2,dd,l1,l2,hb,HV⟩
   ·rw[pg,if_neg ha];rfl
  ·obtain rfl:u=7:=by omega
   exact iW _ (done _ (by rw[hL,List.length_map]))
theorem ER:ax Tryz.prog 222 #[.pointer (some ⟨b,0,none⟩)] (aF b g r) (λv=>HP.ex λx=>HP.and (v=.func (.func 283) #[] #[.pointer (some ⟨x,0,none⟩)]) (HP.an (OV x b) (aF b g r))):=by
 refine ah (ρ:=[.n b,.p (aF b g r)]) mixed Tryz.func222 Ji ?_
 unfold Mx
 refine cg ?_
 exact λx=>.of λR h H=>⟨x,rfl,HP.ao H⟩
theorem aaj{m:MS}{va pK:Option Addr}{vc uC:Nat}(h:(#[.agg (m.cF none 0 va vc).aA]:Array Value)= #[.agg (m.cF none 0 pK uC).aA]):va=pK/\vc=uC:=by
 simp[MR.aA]at h
 exact h
theorem zx(g:bY):(dI g).length<=7:=by
 unfold dI
 split
 ·simp
 ·rw[List.length_map]
  have:=List.length_filter_le (jg g) (List.range 7)
  rwa [List.length_range]at this
set_option maxHeartbeats 1000000 in
theorem zy(hs:ny g):ax Tryz.prog 176 #[.pointer (some ⟨b,0,none⟩)] (aF b g r) (λv=>HP.ex λa=>HP.ex λc=>HP.ex λes:List js=>HP.and (v=.slice a es.length c/\es.map (·.m)=dI g) (HP.an (PL dE a es.length c es) (aF b g r))):=by
 refine ah (ρ:=[.n b,.p (aF b g r)]) mixed Tryz.func176 EK ?_
 unfold EJ
 refine cg ?_
 intro _
 refine ER.ak (λ_ _ h=>h) ?_
 rintro v R h ⟨x,rfl,H⟩
 refine⟨.func (.func 283) #[] #[.pointer (some ⟨x,0,none⟩)],OV x b,rfl,λ_=>?_,H⟩
 clear H
 obtain⟨i,z,hi,h1,h2,h3,h4⟩:=BI
 refine⟨Nat,λ_=>HP.tt,prA g,aai g,λk=>k=(dI g).length,0,λk a n c q=>∃es:List js,n=es.length/\es.map (·.m)=(dI g).take k/\k<=(dI g).length/\HP.aV q (PL dE a n c es),EQ hs x,?_,?_,?_,?_⟩
 ·exact⟨[],rfl,rfl,Nat.zero_le _,.of λR h _=>PL.nX _ R h⟩
 ·intros;rfl
 ·rintro k args ⟨k',m,va,vc,hm,rfl,rfl⟩ a n c q ⟨es,rfl,he,hk,hq⟩
  have kW:k<(dI g).length:=(List.getElem?_eq_some_iff.1 hm).1
  have h7:=zx g
  have HQ:es.length=k:=by
   have:=congrArg List.length he
   simp at this;omega
  refine⟨m.fr,m.to,m.num,m.bf,m.kind,m.ep,m.at',m.cell.what,none,m.cell.data.length,0,aO none 0 [],m.br,m.bw,va,m.val.length,vc,m.bj va,m.bM,m.tail,m.low,m.back,rfl,.of λR h H=>?_,λ_ e=>?_⟩
  ·obtain⟨m',pK,uC,⟨YL,ha⟩,H⟩:=H
   rw[hm]at YL;cases YL
   obtain⟨rfl,rfl⟩:=aaj ha
   exact bb.join (n6 none:(aO none 0 []).p R h) H
  ·have ag5:m.cell=zC:=by
    have:m∈dI g:=List.mem_of_getElem? hm
    unfold dI at this
    split at this
    ·obtain rfl:=List.mem_singleton.1 this;rfl
    ·obtain⟨u,_,rfl⟩:=List.mem_map.1 this
     unfold gm
     split
     ·split<;>rfl
     ·rfl
   have sf:m.cell.data=[]:=by rw[ag5];rfl
   refine(PL.Sp (K:=dE) 33 33 lH hi h1 h2 h3 (by rw[h4];decide) a es.length c es e ⟨m,none,0,va,vc⟩ (HP.an (aO none 0 []) (m.bj va)) (by omega)).be (K:=HP.tt) ((hq.an _).trans (.of λR h H=>HP.az (HP.ae H (λ_ h=>h) λy hy=>HP.ae hy (λ_ h=>h) λz hz=>?_))) λv=>.of λR h H=>?_
   ·exact⟨PH.cz,z,PH.dY _,PH.cT _,PH.le.refl _,⟨by rw[show(⟨m,none,0,va,vc⟩:js).m.bB (⟨m,none,0,va,vc⟩:js).ca=aO none m.cell.data.length m.cell.data from rfl,sf];exact n6 none,(HP.ai hz:(m.bj va).p R _)⟩,hz⟩
   ·obtain⟨a',c',rfl,H2⟩:=HP.aj H
    refine⟨a',es.length+1,c',PL dE a' (es.length+1) c' (es++[⟨m,none,0,va,vc⟩]),rfl,⟨k+1,⟨m,va,vc,hm,rfl,rfl⟩,es++[⟨m,none,0,va,vc⟩],by simp,?_,kW,.refl _⟩,H2⟩
    rw[List.take_succ_eq_append_getElem kW,List.map_append,he]
    rw[List.getElem?_eq_getElem kW]at hm
    rw[Option.some.inj hm];rfl
 ·rintro k rfl a n c q ⟨es,rfl,he,hk,hq⟩
  rw[List.take_length]at he
  exact((HP.aV.refl _).gZ hq).trans (.of λR h H=>⟨a,c,es,⟨rfl,he⟩,HP.ao H⟩)
theorem wJ(hs:ny g):ax Tryz.prog 223 #[.pointer (some ⟨b,0,none⟩)] (aF b g r) (λv=>HP.and (v=.bool (decide (dI g=[]))) (aF b g r)):=by
 refine ah (ρ:=[.n b,.p (aF b g r)]) mixed Tryz.func223 Jj ?_
 unfold My
 refine cg ?_
 intro _
 refine ER.ak (λ_ _ h=>h) ?_
 rintro v R h ⟨x,rfl,H⟩
 refine⟨.func (.func 283) #[] #[.pointer (some ⟨x,0,none⟩)],OV x b,rfl,λ_=>?_,H⟩
 clear H
 refine⟨Nat,λ_=>HP.tt,prA g,aai g,λk=>k=(dI g).length,0,λk=>k=0,EQ hs x,rfl,λ_ _=>rfl,?_,?_⟩
 ·rintro k args ⟨k',m,va,vc,hm,rfl,rfl⟩ rfl
  refine⟨m.fr,m.to,m.num,m.bf,m.kind,m.ep,m.at',m.cell.what,none,m.cell.data.length,0,aO none 0 [],m.br,m.bw,va,m.val.length,vc,HP.tt,m.bM,m.tail,m.low,m.back,rfl,.of λR h H=>?_,.of λR h H=>⟨?_,?_⟩⟩
  ·exact HP.az (n6 none)
  ·rw[decide_eq_false]
   intro e;rw[e]at hm;cases hm
  ·first|exact H|exact HP.aj H
 ·intro k hk h0
  refine .of λR h H=>⟨?_,?_⟩
  ·rw[decide_eq_true]
   exact List.eq_nil_of_length_eq_zero (by rw[<-hk];exact h0)
  ·first|exact H|exact HP.aj H
end
end
end Go.Proofs.YtbkifafpjnjaiaaGreatDoor
