/- Texts of this claim, joined. No condition. -/
import Derived.Test.YtbkifafpjnjaiaaGreatDoorWNJ1
import Derived.Test.YtbkifafpjnjaiaaGreatDoorWNJ2
import Derived.KernelRfl
import Derived.Shelf.Strings.Builder1
import Derived.Shelf.Small.Bits
import Derived.Shelf.Small.Strs
import Derived.Shelf.Strconv.Itoa0
import Derived.Shelf.Strings.Search1
import Derived.Shelf.Strings.Search2
import Derived.Shelf.Strings.Search3
import Derived.Shelf.Strings.Count
import Derived.Shelf.LaysM
import Derived.Shelf.Strings.Shaped
import Derived.Shelf.Sort.Plain
import Derived.Shelf.Strings.Prefix
import Derived.Ground.Names2Prog
import Derived.Shelf.Slices.Clone
import Derived.Shelf.Slices.CompactI
import Derived.Shelf.Slices.SearchI
import Derived.Shelf.Slices.Delete
import Derived.Shelf.Slices.Cells
import Derived.Shelf.Slices.In.SortNone
import Derived.Shelf.Slices.Empties
import Derived.Ground.SlgnProg
import Derived.Shelf.SlicesE.Clone
import Derived.Test.YtbkifafpjnjaiaaGreatDoorProg
import Derived.Laws.CopyRow
import Derived.Lib.IndexLaws
import Derived.Lib.Builder
import Derived.Lib.UnsafeStr
import Derived.Laws.Externs
import Derived.Lib.AppendStr
import Derived.Sort.Row
import Derived.Sort.Grow
import Derived.Laws.IdiomStrings
set_option linter.unusedSimpArgs false
set_option linter.unusedVariables false
namespace Go.Proofs.YtbkifafpjnjaiaaGreatDoor
set_option maxRecDepth 100000
namespace RX
def k9:=(({aB:=[86,48,49,135,24,35,78,42,70]}:gA).aB)
def Tf:T:=
(.read (.slice 33 (.tmp 8) (some (.tmp 9)) (some (.tmp 10)) (some (.tmp 12))) 33 [(8,.s 0),(9,4),(10,5),(12,.w (.a (.int .i64 (.of 1))))] [(0,3)] [.a,.n,.n] (.s 6)
(.br (.eq 4 5)
(.ret (.s 0) [(0,3)])
(.read (.slice 33 (.tmp 20) none (some (.tmp 21)) none) 33 [(20,.s 0),(21,4)] [(0,3)] [.a,.n,.n] (.s 9)
(.read (.slice 33 (.tmp 23) (some (.tmp 24)) none none) 33 [(23,.s 0),(24,5)] [(0,3)] [.a,.n,.n] (.s 12)
(.op (.call ⟨.builtin .append,#[.tmp 22,.tmp 25],#[33,33]⟩) 33 [(22,.s 9),(25,.s 12)] [(0,3)] [.a,.n,.n,.p,.p] (.s 15) [(15,18),(0,19)]
(.read (.slice 33 (.tmp 27) (some (.tmp 29)) (some (.tmp 30)) none) 33 [(27,.s 15),(29,.w (.a (.int .i64 (.of 16)))),(30,.w (.a (.int .i64 (.of 1))))] [(15,18)] [.a,.n,.n] (.s 20)
(.op (.call ⟨.builtin .clear,#[.tmp 31],#[33]⟩) 0 [(31,.s 20)] [(15,18)] [.p] (.au []) [(15,23)]
(.ret (.s 15) [(0,19),(15,23)]))))))))
theorem OW:tree Tryz.prog {aB:=k9,bz:=true,cx:=true} Tryz.f79 [.s 0,4,5] [(0,3)] 6=Tf:=by kernel_rfl
def MB:T:=
(.new
(.new
(.call 24 [.s 8] [(8,11)] [.a,.n,.n,.p] (.s 24) [(24,27),(8,11)]
(.call 24 [.s 14] [(14,17)] [.a,.n,.n,.p] (.s 28) [(28,31),(14,17)]
(.ret (.agg [0,1,2,.bool 3,4,5,6,7,.s 24,12,13,.s 28,18,19,20,21]) [(8,11),(14,17),(24,27),(28,31)])))))
theorem Jp:tree Tryz.prog {aB:=k9,bz:=true,cx:=true} Tryz.f49 [.agg [0,1,2,.bool 3,4,5,6,7,.s 8,12,13,.s 14,18,19,20,21]] [(8,11),(14,17)] 22=MB:=by kernel_rfl
def Tg:T:=
(.new
(.ret (.ptr 0 0) [(.b 0,.cells [.z] 97)]))
theorem OX:tree Tryz.prog {aB:=k9,bz:=true,cx:=true} Tryz.f17 [] [] 0=Tg:=by kernel_rfl
def Th:T:=
(.new
(.call 48 [.agg [2,3,4,.bool 5,6,7,8,9,.s 10,14,15,.s 16,20,21,22,23]] [(10,13),(16,19)] [.a,.n,.n,.p,.i] (.au [.s 25,29]) [(25,28),(10,13),(16,19)]
(.br (.not (.eq 29 (.i 0)))
(.ret 29 [(.b 0,1),(10,13),(16,19)])
 (.ld 33 17 (.ptr 0 0) [(.b 0,1)] [.a,.n,.n] (.s 30)
(.br (.le (.i 4096) (.of 31))
(.ret (.k 4) [(.b 0,1),(10,13),(16,19)])
  (.ld 33 24 (.ptr 0 0) [(.b 0,1)] [.a,.n,.n] (.s 33)
(.call 49 [.agg [2,3,4,.bool 5,6,7,8,9,.s 10,14,15,.s 16,20,21,22,23]] [(10,13),(16,19)] [.i,.i,.i,.c,.i,.i,.i,.i,.a,.n,.n,.p,.i,.i,.a,.n,.n,.p,.i,.i,.i,.i] (.agg [36,37,38,.bool 39,40,41,42,43,.s 44,48,49,.s 50,54,55,56,57]) [(44,47),(50,53),(10,13),(16,19)]
(.new
(.op (.call ⟨.builtin .append,#[.tmp 25,.tmp 28],#[33,33]⟩) 33 [(25,.s 33),(28,.sl (.b 58 0) (.n 1) (.n 1))] [(.b 0,1),(.b 58,.cells [36,37,38,.bool 39,40,41,42,43,.s 44,48,49,.s 50,54,55,56,57] 48),(44,47),(50,53)] [.a,.n,.n,.p,.p] (.s 59) [(59,62),(.b 0,63),(.b 58,.cells [36,37,38,.bool 39,40,41,42,43,.s 44,48,49,.s 50,54,55,56,57] 48),(44,47),(50,53)]
(.op (.store 33 (.tmp 31) (.tmp 29)) 0 [(31,.ptr 0 0),(29,.s 59)] [(.b 0,63),(59,62)] [.p] (.au []) [(.b 0,64)]
(.ret (.k 0) [(.b 0,64),(10,13),(16,19)])))))))))))
theorem OY:tree Tryz.prog {aB:=k9,bz:=true,cx:=true} Tryz.f30 [.ptr 0 0,.agg [2,3,4,.bool 5,6,7,8,9,.s 10,14,15,.s 16,20,21,22,23]] [(.b 0,1),(10,13),(16,19)] 24=Th:=by kernel_rfl
def Ti:T:=
(.ld 33 5 (.ptr 0 0) [(.b 0,1)] [.a,.n,.n] (.s 2)
(.ret (.w (.a (.int .i64 (.of 3)))) [(.b 0,1)]))
theorem OZ:tree Tryz.prog {aB:=k9,bz:=true,cx:=true} Tryz.f35 [.ptr 0 0] [(.b 0,1)] 2=Ti:=by kernel_rfl
def ES:T:=
(.ld 33 8 (.ptr 0 0) [(.b 0,1)] [.a,.n,.n] (.s 3)
(.need (.not (.eq (.of 4) (.i 0)))
(.br (.lt (.o2 .rem 2 (.of 4)) (.i 0))
 (.rg (.add (.o2 .rem 2 (.of 4)) (.of 4))
(.ret (.w (.a (.int .i64 (.add (.o2 .rem 2 (.of 4)) (.of 4))))) [(.b 0,1)]))
(.ret (.w (.a (.int .i64 (.o2 .rem 2 (.of 4))))) [(.b 0,1)]))))
theorem ET:tree Tryz.prog {aB:=k9,bz:=true,cx:=true} Tryz.f78 [.ptr 0 0,2] [(.b 0,1)] 3=ES:=by kernel_rfl
def MC:T:=
(.new
(.ld 33 11 (.ptr 0 0) [(.b 0,1)] [.a,.n,.n] (.s 5)
(.br (.eq (.of 6) (.i 0))
(.ret (.au [.agg [.k 0,.k 0,.k 0,.bool (.c false),.k 0,.k 0,.k 0,.k 0,.z,.k 0,.k 0,.z,.k 0,.k 0,.k 0,.k 0],.k 5]) [(.b 0,1)])
(.call 78 [.ptr 0 0,2] [(.b 0,1)] [.i] 8 [(.b 0,1)]
 (.ld 33 21 (.ptr 0 0) [(.b 0,1)] [.a,.n,.n] (.s 9)
(.need (.le (.i 0) 8)
(.need (.lt 8 (.of 10))
(.need (.is 9)
 (.ld 48 24 (.aW 9 8 16 0) [(.b 0,1)] [.i,.i,.i,.c,.i,.i,.i,.i,.a,.n,.n,.i,.i,.a,.n,.n,.i,.i,.i,.i] (.agg [12,13,14,.bool 15,16,17,18,19,.s 20,23,24,.s 25,28,29,30,31])
(.call 49 [.agg [12,13,14,.bool 15,16,17,18,19,.s 20,23,24,.s 25,28,29,30,31]] [(.b 0,1)] [.i,.i,.i,.c,.i,.i,.i,.i,.a,.n,.n,.p,.i,.i,.a,.n,.n,.p,.i,.i,.i,.i] (.agg [32,33,34,.bool 35,36,37,38,39,.s 40,44,45,.s 46,50,51,52,53]) [(40,43),(46,49),(.b 0,1)]
(.new
(.br (.not 3)
  (.ld 33 32 (.ptr 0 0) [(.b 0,1)] [.a,.n,.n] (.s 55)
  (.rg (.add 8 (.i 1))
(.call 79 [.s 55,8,.a (.int .i64 (.add 8 (.i 1)))] [(.b 0,1)] [.a,.n,.n,.p,.p] (.s 58) [(58,61),(.b 0,62)]
(.op (.store 33 (.tmp 39) (.tmp 37)) 0 [(39,.ptr 0 0),(37,.s 58)] [(.b 0,62),(58,61)] [.p] (.au []) [(.b 0,63)]
(.ret (.au [.agg [32,33,34,.bool 35,36,37,38,39,.s 40,44,45,.s 46,50,51,52,53],.k 0]) [(.b 0,63),(40,43),(46,49)])))))
(.ret (.au [.agg [32,33,34,.bool 35,36,37,38,39,.s 40,44,45,.s 46,50,51,52,53],.k 0]) [(.b 0,1),(40,43),(46,49)])))))))))))))
theorem Jq:tree Tryz.prog {aB:=k9,bz:=true,cx:=true} Tryz.f44 [.ptr 0 0,2,.bool 3] [(.b 0,1)] 4=MC:=by kernel_rfl
def MD:T:=
(.new
(.ret (.w (.a (.func 72 [(2,0)]))) [(.b 0,1),(.b 2,.cells [.ptr 0 0] 66)]))
theorem Jr:tree Tryz.prog {aB:=k9,bz:=true,cx:=true} Tryz.f42 [.ptr 0 0] [(.b 0,1)] 2=MD:=by kernel_rfl
def EU:T:=
(.ld 33 7 (.ptr 3 0) [(.b 3,4)] [.a,.n,.n] (.s 5)
(.loop [.i,.p] [.z (.i 0),.p [(0,1)]]
(.br (.lt 8 (.of 6))
(.need (.le (.i 0) 8)
(.need (.is 5)
  (.ld 48 12 (.aW 5 8 16 0) [(.b 3,4)] [.i,.i,.i,.c,.i,.i,.i,.i,.a,.n,.n,.i,.i,.a,.n,.n,.i,.i,.i,.i] (.agg [10,11,12,.bool 13,14,15,16,17,.s 18,21,22,.s 23,26,27,28,29])
(.new
(.call 49 [.agg [10,11,12,.bool 13,14,15,16,17,.s 18,21,22,.s 23,26,27,28,29]] [(.b 3,4)] [.i,.i,.i,.c,.i,.i,.i,.i,.a,.n,.n,.p,.i,.i,.a,.n,.n,.p,.i,.i,.i,.i] (.agg [31,32,33,.bool 34,35,36,37,38,.s 39,43,44,.s 45,49,50,51,52]) [(39,42),(45,48),(.b 3,4)]
  (.jw 0 [.agg [31,32,33,.bool 34,35,36,37,38,.s 39,43,44,.s 45,49,50,51,52]] [(0,9),(39,42),(45,48)] [.c,.p] (.bool 53) [(0,54),(39,42),(45,48)]
(.br (.not 53)
(.ret (.au []) [(0,54),(.b 2,.cells [.ptr 3 0] 66),(.b 3,4)])
  (.rg (.add 8 (.i 1))
(.again 0 [.z (.add 8 (.i 1)),.p [(0,54)]])))))))))
(.ret (.au []) [(0,9),(.b 2,.cells [.ptr 3 0] 66),(.b 3,4)]))))
theorem EV:tree Tryz.prog {hv:=[(0,[.a 0])],aB:=k9,bz:=true,cx:=true} Tryz.f72 [.val 0,.ptr 2 0] [(0,1),(.b 2,.cells [.ptr 3 0] 66),(.b 3,4)] 5=EU:=by kernel_rfl
def Tj:T:=
(.new
(.call 42 [.ptr 0 0] [(.b 0,1)] [.v,.p] (.val 3) [(3,4),(.b 0,1)]
(.new
(.mF (.val 3) [(3,4),(.b 0,1)] [] [.a,.n,.n,.p] [.a .nil,.e (.cQ (.n 0) (.n 0)),.e (.cQ (.n 0) (.n 0)),.p []] [.i,.i,.i,.c,.i,.i,.i,.i,.a,.n,.n,.p,.i,.i,.a,.n,.n,.p,.i,.i,.i,.i] [.agg [10,11,12,.bool 13,14,15,16,17,.s 18,22,23,.s 24,28,29,30,31]] [(18,21),(24,27)]
(.new
(.new
(.op (.call ⟨.builtin .append,#[.tmp 8,.tmp 10],#[33,33]⟩) 33 [(8,.s 6),(10,.sl (.b 33 0) (.n 1) (.n 1))] [(6,9),(.b 33,.cells [10,11,12,.bool 13,14,15,16,17,.s 18,22,23,.s 24,28,29,30,31] 48),(18,21),(24,27)] [.a,.n,.n,.p] (.s 34) [(34,37),(.b 33,.cells [10,11,12,.bool 13,14,15,16,17,.s 18,22,23,.s 24,28,29,30,31] 48),(18,21),(24,27)]
(.again 0 [.a 34,.e (.cQ 35 (.n 0)),.e (.cQ 36 (.n 0)),.p [(34,37)]]))))
(.ret (.s 6) [(.b 0,1),(6,9)])))))
theorem O0:tree Tryz.prog {hv:=[(0,[.b 2])],aB:=k9,iB:=[(42,0)],Zj:=[(0,[48])],bz:=true,cx:=true} Tryz.f21 [.ptr 0 0] [(.b 0,1)] 2=Tj:=by kernel_rfl
def EW:T:=
(.new
(.br (.le (.i (-128)) 0)
(.br (.le 0 (.i 127))
(.br (.le (.i (-128)) 1)
(.br (.le 1 (.i 127))
(.br (.le (.i 1) 4)
(.br (.le 4 (.i 9))
(.br (.le (.i 0) 7)
(.br (.le 7 (.i 3))
(.br (.le (.of 9) (.i 65536))
(.ret (.bool (.le (.of 15) (.i 1000))) [(8,11),(14,17)])
(.ret (.bool (.c false)) [(8,11),(14,17)]))
(.ret (.bool (.c false)) [(8,11),(14,17)]))
(.ret (.bool (.c false)) [(8,11),(14,17)]))
(.ret (.bool (.c false)) [(8,11),(14,17)]))
(.ret (.bool (.c false)) [(8,11),(14,17)]))
(.ret (.bool (.c false)) [(8,11),(14,17)]))
(.ret (.bool (.c false)) [(8,11),(14,17)]))
(.ret (.bool (.c false)) [(8,11),(14,17)]))
(.ret (.bool (.c false)) [(8,11),(14,17)])))
theorem EX:tree Tryz.prog {aB:=k9,bz:=true,cx:=true} Tryz.f86 [.agg [0,1,2,.bool 3,4,5,6,7,.s 8,12,13,.s 14,18,19,20,21]] [(8,11),(14,17)] 22=EW:=by kernel_rfl
def zz:T:=
(.new
(.call 86 [.agg [0,1,2,.bool 3,4,5,6,7,.s 8,12,13,.s 14,18,19,20,21]] [(8,11),(14,17)] [.c] (.bool 23) [(8,11),(14,17)]
(.br (.not 23)
(.ret (.au [.z,.k 1]) [(8,11),(14,17)])
(.new
(.call 87 [.ptr 24 0,.a (.int .u8 (.o1 (.wrap .u8) 0))] [(.b 24,.cells [.z] 168)] [.p] (.au []) [(.b 24,25)]
(.call 87 [.ptr 24 0,.a (.int .u8 (.o1 (.wrap .u8) 1))] [(.b 24,25)] [.p] (.au []) [(.b 24,26)]
(.call 88 [.ptr 24 0,2] [(.b 24,26)] [.p] (.au []) [(.b 24,27)]
(.call 89 [.ptr 24 0,.bool 3] [(.b 24,27)] [.p] (.au []) [(.b 24,28)]
(.call 87 [.ptr 24 0,.a (.int .u8 (.o1 (.wrap .u8) 4))] [(.b 24,28)] [.p] (.au []) [(.b 24,29)]
(.call 88 [.ptr 24 0,5] [(.b 24,29)] [.p] (.au []) [(.b 24,30)]
(.call 88 [.ptr 24 0,6] [(.b 24,30)] [.p] (.au []) [(.b 24,31)]
(.call 87 [.ptr 24 0,.a (.int .u8 (.o1 (.wrap .u8) 7))] [(.b 24,31)] [.p] (.au []) [(.b 24,32)]
(.call 90 [.ptr 24 0,.s 8] [(.b 24,32),(8,11)] [.p,.p] (.au []) [(.b 24,33),(8,34)]
(.call 88 [.ptr 24 0,12] [(.b 24,33)] [.p] (.au []) [(.b 24,35)]
(.call 88 [.ptr 24 0,13] [(.b 24,35)] [.p] (.au []) [(.b 24,36)]
(.call 90 [.ptr 24 0,.s 14] [(.b 24,36),(14,17)] [.p,.p] (.au []) [(.b 24,37),(14,38)]
(.call 88 [.ptr 24 0,18] [(.b 24,37)] [.p] (.au []) [(.b 24,39)]
(.call 88 [.ptr 24 0,19] [(.b 24,39)] [.p] (.au []) [(.b 24,40)]
(.call 88 [.ptr 24 0,20] [(.b 24,40)] [.p] (.au []) [(.b 24,41)]
(.call 88 [.ptr 24 0,21] [(.b 24,41)] [.p] (.au []) [(.b 24,42)]
(.call 92 [.ptr 24 0] [(.b 24,42)] [.a,.n,.n,.p,.p] (.s 43) [(43,46),(.b 24,47)]
(.call 91 [.s 43] [(43,46)] [.a,.n,.n,.p,.p] (.s 48) [(48,51),(43,52)]
(.ret (.au [.s 48,.k 0]) [(8,34),(14,38),(48,51)])))))))))))))))))))))))
theorem BJ:tree Tryz.prog {fX:=[168],aB:=k9,bz:=true,cx:=true} Tryz.f48 [.agg [0,1,2,.bool 3,4,5,6,7,.s 8,12,13,.s 14,18,19,20,21]] [(8,11),(14,17)] 22=zz:=by kernel_rfl
def ME:T:=
(.br 2
(.call 87 [.ptr 0 0,.a (.int .u8 (.i 1))] [(.b 0,1)] [.p] (.au []) [(.b 0,3)]
(.ret (.au []) [(.b 0,3)]))
(.call 87 [.ptr 0 0,.a (.int .u8 (.i 0))] [(.b 0,1)] [.p] (.au []) [(.b 0,3)]
(.ret (.au []) [(.b 0,3)])))
theorem Js:tree Tryz.prog {aB:=k9,bz:=true,cx:=true} Tryz.f89 [.ptr 0 0,.bool 2] [(.b 0,1)] 3=ME:=by kernel_rfl
def wK:T:=
(.new
(.new
(.br (.not 3)
(.ret (.bool (.c false)) [(8,11),(14,17),(30,33),(36,39)])
(.br 25
(.ret (.bool (.c false)) [(8,11),(14,17),(30,33),(36,39)])
(.new
(.new
(.read (.binOp .eql 245 (.tmp 40) (.tmp 41) 245) 4 [(40,.agg [1,0,2,4,5,6]),(41,.agg [22,23,24,26,27,28])] [] [.c] (.bool 48)
(.ret (.bool 48) [(8,11),(14,17),(30,33),(36,39)]))))))))
theorem yj:tree Tryz.prog {aB:=k9,bz:=true,cx:=true} Tryz.f123 [.agg [0,1,2,.bool 3,4,5,6,7,.s 8,12,13,.s 14,18,19,20,21],.agg [22,23,24,.bool 25,26,27,28,29,.s 30,34,35,.s 36,40,41,42,43]] [(8,11),(14,17),(30,33),(36,39)] 44=wK:=by kernel_rfl
end RX
section
open RX
theorem EY(t ty e:TypeId)(i:TypeInfo)(ht:Tryz.prog.underlying t=some (.slice e))(hi:Tryz.prog.info? e=some i)(a:Option Addr)(n c:Nat)(xs:List Value)(k j m c2:Nat)(A:Option Addr)(hA:A=if c=j then a else a.map (·.add (j*i.size)))(hjm:j+m=n)(hkj:k<=j)(h0:0<n)(h1:∀u∈xs,u.oneCell'=true):
 aI Tryz.prog (kj t ty (.slice a k c) (.slice A m c2)) (cp e i.size a n c xs) (λv=>HP.ex λys:List Value=>HP.and (v=.slice a (k+m) c/\ys.take ((k+m)*i.size)=xs.take (k*i.size)++xs.drop (j*i.size)/\∀u∈ys,u∈xs) (cp e i.size a n c ys)):=by
 rintro w R h F s ⟨hl,hh⟩
 rcases hh with⟨_,h0',_⟩|⟨g,cur,rfl,hg,q1,q2,q3,q4⟩
 ·omega
 have hw:=s.oh _ _ hg
 have hln:=Array.length_toList (xs:=cur)
 have hsz:n*i.size<=cur.size:=by rw[q3];exact Nat.mul_le_mul_right _ q1
 have hjn:j*i.size+m*i.size=n*i.size:=by rw[<-hjm,Nat.add_mul]
 have akO:k*i.size<=j*i.size:=Nat.mul_le_mul_right _ hkj
 have hnl:(xs.drop (j*i.size)).length=m*i.size:=by rw[List.length_drop,hl];omega
 obtain⟨g2,off,rfl,hsrc⟩:∃g2 off,A=some ⟨g2,off,none⟩/\∀p u,(xs.drop (j*i.size))[p]? =some u->w.cell? (Addr.add ⟨g2,off,none⟩ p)=some u:=by
  rw[hA]
  split
  ·rename_i hc
   refine⟨g,0,rfl,λp u hu=>?_⟩
   have:m=0:=by omega
   have e:xs.drop (j*i.size)=[]:=List.eq_nil_of_length_eq_zero (by rw[hnl,this,Nat.zero_mul])
   rw[e]at hu
   simp at hu
  ·refine⟨g,j*i.size,by simp[addr_add],λp u hu=>?_⟩
   rw[addr_add,mJ hw,<-Array.getElem?_toList]
   rw[List.getElem?_drop,<-q4,List.getElem?_take]at hu
   split at hu
   ·exact hu
   ·cases hu
 have e7:=run_append_room (P:=Tryz.prog) w t ty e i ht hi g k c cur hw ⟨g2,off,none⟩ m c2 (xs.drop (j*i.size)) hnl hsrc (λu hu=>h1 u (List.mem_of_mem_drop hu)) (by omega) (by rw[hnl];omega)
 have hpre:(cur.toList.take (k*i.size)++xs.drop (j*i.size)).length=(k+m)*i.size:=by rw[List.length_append,List.length_take,hnl,hln,Nat.add_mul];omega
 have hkm:(k+m)*i.size<=n*i.size:=Nat.mul_le_mul_right _ (by omega)
 have ads:cur.toList.take (k*i.size)=xs.take (k*i.size):=by rw[<-q4,List.take_take,Nat.min_eq_left (by omega)]
 have hall:(cur.toList.take (k*i.size)++xs.drop (j*i.size)++cur.toList.drop (k*i.size+(xs.drop (j*i.size)).length)).length=cur.size:=by
  rw[List.length_append,hpre,List.length_drop,hnl,hln,<-Nat.add_mul];omega
 have adt:(kj t ty (.slice (some ⟨g,0,none⟩) k c) (.slice (some ⟨g2,off,none⟩) m c2)).run Tryz.prog w=.ok (.value (.slice (some ⟨g,0,none⟩) (k+m) c)) (w.setRow g (cur.toList.take (k*i.size)++xs.drop (j*i.size)++cur.toList.drop (k*i.size+(xs.drop (j*i.size)).length)).toArray):=by
  unfold kj;rw[Sem.run_bind,e7];rfl
 refine⟨.value _,_,_,adt,rfl,⟨rfl,rfl,rfl,by simp⟩,R,_,PH.le.refl _,s.aY (y:=.cells (cur.toList.take (k*i.size)++xs.drop (j*i.size)++cur.toList.drop (k*i.size+(xs.drop (j*i.size)).length)).toArray e (0,0)) hg (λj hj=>setRow_other w g j _ hj) (setRow_heap w g cur _ e (0,0) hw),
  (cur.toList.take (k*i.size)++xs.drop (j*i.size)++cur.toList.drop (k*i.size+(xs.drop (j*i.size)).length)).take (n*i.size),⟨rfl,?_,?_⟩,?_,.inr ⟨g,_,rfl,if_pos rfl,q1,q2,?_,rfl⟩⟩
 ·rw[List.take_take,Nat.min_eq_left hkm,List.take_append_of_le_length (by rw[hpre];exact Nat.le_refl _),<-hpre,List.take_length,ads]
 ·intro u hu
  rw[List.take_append]at hu
  rcases List.mem_append.1 hu with hu|hu
  ·have hu:=List.mem_of_mem_take hu
   rw[ads]at hu
   exact(List.mem_append.1 hu).elim List.mem_of_mem_take List.mem_of_mem_drop
  ·rw[hpre,hnl,<-Nat.add_mul,List.take_drop,Nat.add_sub_cancel' hkm,q4]at hu
   exact List.mem_of_mem_drop hu
 ·rw[List.length_take,hall,Nat.min_eq_left hsz]
 ·rw[List.size_toArray,hall,q3]
theorem Jt{l m:List HP}(hs:m.Sublist l):∀ {R h:PH},(aX l).p R h->(aX m).p R h:=by
 induction hs with
 |slnil=>exact λH=>H
 |cons x _ ih=>exact λH=>ih (HP.ai (bE.1 H))
 |cons_cons x _ ih=>exact λH=>bE.2 (HP.ae (bE.1 H) (λ_ h=>h) λ_ h=>ih h)
theorem O1{α:Type}(K:PK α)(l:List α)(k:Nat)(hk:k<=l.length):(l.take k).flatMap K.aA=(l.flatMap K.aA).take (k*K.n):=by
 conv=>rhs;rw[<-List.take_append_drop k l,List.flatMap_append]
 rw[List.take_left' (by rw[en K.aA K.n K.len,List.length_take,Nat.min_eq_left hk])]
theorem O2{α:Type}(K:PK α)(l:List α)(k:Nat)(hk:k<=l.length):(l.drop k).flatMap K.aA=(l.flatMap K.aA).drop (k*K.n):=by
 conv=>rhs;rw[<-List.take_append_drop k l,List.flatMap_append]
 rw[List.drop_left' (by rw[en K.aA K.n K.len,List.length_take,Nat.min_eq_left hk])]
theorem PL.cut{α:Type}{K:PK α}{a:Option Addr}{n c:Nat}{l:List α}{i j:Nat}(uy:i<=j)(hj:j<=n)(hl:l.length=n){ys:List Value}(hy:ys.take ((i+(n - j))*K.n)=(l.flatMap K.aA).take (i*K.n)++(l.flatMap K.aA).drop (j*K.n)){R h:PH}
 (H:(HP.an (cp K.e K.n a n c ys) (aX (l.map K.bf))).p R h):(PL K a (i+(n - j)) c (l.take i++l.drop j)).p R h:=by
 refine⟨by simp;omega,HP.ae H (λx hx=>?_) λx hx=>Jt ?_ hx⟩
 ·rw[List.flatMap_append,O1 K l i (by omega),O2 K l j (by omega),<-hy]
  obtain⟨h1,h2⟩:=hx
  have hle:(i+(n - j))*K.n<=n*K.n:=Nat.mul_le_mul_right _ (by omega)
  refine⟨by rw[List.length_take,h1,Nat.min_eq_left hle],?_⟩
  rcases h2 with⟨q1,q2,q3⟩|⟨g,cur,q1,q2,q3,q4,q5,q6⟩
  ·exact .inl ⟨q1,by omega,q3⟩
  ·exact .inr ⟨g,cur,q1,q2,by omega,q4,q5,by rw[<-q6,List.take_take,Nat.min_eq_left hle]⟩
 ·refine List.Sublist.map _ ?_
  conv=>rhs;rw[<-List.take_append_drop i l]
  refine(List.Sublist.refl _).append ?_
  rw[show l.drop j=(l.drop i).drop (j - i) by rw[List.drop_drop];congr 1;omega]
  exact List.drop_sublist _ _
theorem EZ{t ty:TypeId}{i j:Nat}{u v:Value}(h:i≠j):bI (.slice t (.tmp i) (some (.tmp j)) none none) ty [(i,u),(j,v)]=je t u (some v) none none:=by
 have h':(i==j)=false:=by simpa using h
 simp[eH,jR,h']
theorem E0{t ty:TypeId}{i j:Nat}{u v:Value}(h:i≠j):bI (.slice t (.tmp i) none (some (.tmp j)) none) ty [(i,u),(j,v)]=je t u none (some v) none:=by
 have h':(i==j)=false:=by simpa using h
 simp[eH,jR,h']
theorem E1{t ty:TypeId}{i j k:Nat}{u v x:Value}(h:i≠j)(h2:i≠k)(h3:j≠k):bI (.slice t (.tmp i) (some (.tmp j)) (some (.tmp k)) none) ty [(i,u),(j,v),(k,x)]=je t u (some v) (some x) none:=by
 have h':(i==j)=false:=by simpa using h
 have Wn:(i==k)=false:=by simpa using h2
 have Wa:(j==k)=false:=by simpa using h3
 simp[eH,jR,h',Wn,Wa]
theorem E2{t ty:TypeId}{i j k l:Nat}{u v x y:Value}(h:i≠j)(h2:i≠k)(h3:j≠k)(h4:i≠l)(h5:j≠l)(h6:k≠l):bI (.slice t (.tmp i) (some (.tmp j)) (some (.tmp k)) (some (.tmp l))) ty [(i,u),(j,v),(k,x),(l,y)]=je t u (some v) (some x) (some y):=by
 have h':(i==j)=false:=by simpa using h
 have Wn:(i==k)=false:=by simpa using h2
 have Wa:(j==k)=false:=by simpa using h3
 have h4':(i==l)=false:=by simpa using h4
 have h5':(j==l)=false:=by simpa using h5
 have h6':(k==l)=false:=by simpa using h6
 simp[eH,jR,h',Wn,Wa,h4',h5',h6']
theorem Ju:(Tryz.prog.info? 48).bind (·.zero)=some (.agg (mC.cF none 0 none 0).aA):=by kernel_rfl
set_option maxHeartbeats 1000000 in
theorem WR(a:Option Addr)(n c:Nat)(l:List js)(i j:Nat)(uy:i<=j)(hj:j<=n)(hn:n<=1000000000):
 ax Tryz.prog 79 #[.slice a n c,.int .i64 i,.int .i64 j] (PL dE a n c l) (λv=>HP.and (v=.slice a (i+(n - j)) c) (PL dE a (i+(n - j)) c (l.take i++l.drop j))):=by
 refine ax.bV (φ:=l.length=n/\n<=c/\(n≠0->a.isSome=true)) (λR h H=>⟨H.1,cp.le (HP.aj H.2),λh0=>PL.nG H h0⟩) λ⟨hl,hnc,ha⟩=>?_
 obtain⟨AZ,z,hi,h1,h2,h3,h4⟩:=BI
 have hs3:gr Tryz.prog 48=16:=WQ
 refine ah (ρ:=[.a a,.n n,.n c,.p (PL dE a n c l),.i i,.i j]) mixed Tryz.func79 OW ?_
 unfold Tf
 simp only[T.den,E.prop,E.den,RX.look,F1.app,F2.app,aP.dH,aP.dP,aP.cr,aP.eQ,aP.e9,aP.fw,aP.ju,bg,dB,V.den,W.den,A.den,BR.den,SA.den,FV.den,iX,nF,nK,fj,g5.app,List.map_cons,List.map_nil,List.cons_append,List.nil_append,List.drop_succ_cons,List.drop_zero,List.length_cons,List.length_nil,Nat.zero_add,Nat.reduceAdd,Int.neg_neg,Bool.not_not,List.append_nil,Nat.add_zero,List.getElem?_cons_zero,List.getElem?_cons_succ,Decidable.not_not,cu,gh,ne_eq,Nat.reduceEqDiff,not_false_eq_true,EZ (show(23:Nat)≠24 by decide),E0 (show(20:Nat)≠21 by decide),E1 (show(27:Nat)≠29 by decide) (show(27:Nat)≠30 by decide) (show(29:Nat)≠30 by decide),E2 (show(8:Nat)≠9 by decide) (show(8:Nat)≠10 by decide) (show(9:Nat)≠10 by decide) (show(8:Nat)≠12 by decide) (show(9:Nat)≠12 by decide) (show(10:Nat)≠12 by decide),mN]
 refine⟨_,_,_,dC lH hi _ a n c (some i) (some j) (some n) uy hj hnc (λ_=>rfl),λhe=>.of λR h H=>?_,λhne=>?_⟩
 ·obtain rfl:i=j:=by omega
  have e1:i+(n - i)=n:=by omega
  rw[e1,List.take_append_drop]
  exact⟨rfl,H⟩
 have h0:0<n:=by omega
 have ag7:i<j:=by omega
 refine⟨_,_,_,dC lH hi _ a n c none (some i) none (Nat.zero_le _) (by simp;omega) (Nat.le_refl _) (λh=>by simp at h),_,_,_,dC lH hi _ a n c (some j) none none (by simp;omega) (by simp;omega) (Nat.le_refl _) (λh=>by simp at h),?_⟩
 have hs:AZ.size=16:=h3
 have hA:(if c=0 then a else a.map (·.add (0*gr Tryz.prog 48)))=a:=by
  split
  ·rfl
  ·rw[Nat.zero_mul];cases a<;>rfl
 have hB:=EY 33 33 48 AZ lH hi a n c (l.flatMap sO.aA) i j (n - j) (c - j) (if c=j then a else a.map (·.add (j*AZ.size))) rfl (by omega) uy h0 (λu hu=>by
  obtain⟨x,_,hx⟩:=List.mem_flatMap.1 hu
  exact uY x u hx)
 simp only[Option.getD_some,Option.getD_none,Nat.sub_zero,hs3,hs,Nat.zero_mul]at hA hB⊢
 rw[hA]
 refine(hB.frame (aX (l.map dE.bf))).ak (λR h H=>H.2) ?_
 rintro v R h ⟨g1,g2,d,l1,l2,⟨ys,⟨rfl,hy,hin⟩,H⟩,HU⟩
 refine⟨a,i+(n - j),c,HP.an (cp 48 16 a n c ys) (aX (l.map dE.bf)),HP.tt,rfl,?_,HP.az ⟨g1,g2,d,l1,l2,H,HU⟩⟩
 clear H HU d l1 l2
 have hci:c≠i+(n - j):=by omega
 refine⟨_,_,_,dC lH hi _ a (i+(n - j)) c (some (i+(n - j))) (some n) none (by simp;omega) (by simp;omega) (Nat.le_refl _) (λh=>by simp at h),?_⟩
 simp only[Option.getD_some,Option.getD_none,hs3,if_neg hci]
 refine((sD lH hi h1 (size:=16) (by rw[h2,hs]) (λv hv=>?_) _ a n c ys (i+(n - j)) (n - (i+(n - j))) (c - (i+(n - j))) (by omega)).frame (aX (l.map dE.bf))).ak (λ_ _ h=>h) ?_
 ·have hz:=Ju
  rw[hi]at hz
  simp only[Option.bind_some,h1,Option.some.injEq]at hz
  subst hz
  simp only[Value.cells,MR.aA,List.mem_toArray,List.mem_cons,List.not_mem_nil,or_false]at hv
  rcases hv with rfl|rfl|rfl|rfl|rfl|rfl|rfl|rfl|rfl|rfl|rfl|rfl|rfl|rfl|rfl|rfl<;>rfl
 rintro v R h ⟨g1,g2,d,l1,l2,⟨zs,⟨rfl,hz⟩,H⟩,HU⟩
 refine⟨_,rfl,.of λR h H=>⟨trivial,HP.ai H⟩,?_⟩
 exact PL.cut (K:=dE) (ys:=zs) uy hj hl (by rw[show dE.n=16 from rfl,hz];exact hy) ⟨g1,g2,d,l1,l2,H,HU⟩
def sE(l:List UInt8):Value:=.string ⟨l.toArray⟩
theorem bytes_beq(a b:List UInt8):((⟨a.toArray⟩:ByteArray)==⟨b.toArray⟩)=decide (a=b):=by
 have:((⟨a.toArray⟩:ByteArray)==⟨b.toArray⟩)=(a.toArray==b.toArray):=rfl
 rw[this]
 by_cases h:a=b
 ·subst h;simp
 ·simp[h]
theorem WS{P:Program}{kt:TypeId}(h:P.underlying kt=some .string):gH P kt sE where
 check em k w:=by
  unfold Instr.checkKey
  simp[run_underlying h,sE]
 find k l w:=by
  unfold Instr.findKey
  have hn:∀(l:AL (List UInt8)) (i:Nat),Instr.findNow .string (sE k) (l.map (qY sE)) i=some (iI k l i):=by
   intro l
   induction l with
   |nil=>intro i;rfl
   |cons x l ih=>
    intro i
    simp only[List.map_cons,Instr.findNow,qY,sE,Instr.sameNow,iI,bytes_beq]
    by_cases e:k=x.1
    ·simp[e]
    ·simp only[decide_eq_false e,if_neg e]
     exact ih (i+1)
  simp only[Sem.run_bind,run_underlying h,Result.andThen,hn,Sem.run_pure]
 bits k:=by simp[Instr.sameBits,sE,bytes_beq]
end
end Go.Proofs.YtbkifafpjnjaiaaGreatDoor
namespace Go.Proofs
open Go.Shelf
def Tryz.E3:Go.Shelf.Ren:=⟨λ|137=>296|217=>322|266=>341|n=>n,λ|9=>9|5=>5|3=>3|n=>n,λ|n=>n⟩
theorem Tryz.WT:Go.Proofs.Lays.n137 Tryz.prog Tryz.E3:={
 mixed:=by kernel_rfl
 f137:=Tryz.func296.trans (congrArg some (by kernel_rfl))
 f217:=Tryz.func322.trans (congrArg some (by kernel_rfl))
 f266:=Tryz.func341.trans (congrArg some (by kernel_rfl))
 t3:=Tryz.underlying3
 a3:=Tryz.isAgg3
 z3:=Tryz.sizeOf3
 v3:=Tryz.zeroValue3
 t5:=Tryz.underlying5
 a5:=Tryz.isAgg5
 z5:=Tryz.sizeOf5
 v5:=Tryz.zeroValue5
 t9:=Tryz.underlying9
 a9:=Tryz.isAgg9
 z9:=Tryz.sizeOf9
 v9:=Tryz.zeroValue9}
open Go.RowKit in
theorem Tryz.strings_IndexByte(s:ByteArray)(c:Int)(w:World):
 Calls Tryz.prog 296 #[.string s,.int .u8 c] w λe w'=>e=.returned (.int .i64 (Lib.indexByte s.data.toList c.toNat.toUInt8))/\w'=w:=Any.strings_IndexByte Tryz.WT s c w
def Tryz.E4:Go.Shelf.Ren:=⟨λ|143=>321|219=>340|217=>322|225=>367|224=>368|267=>369|266=>341|314=>380|n=>n,λ|9=>9|3=>3|4=>4|5=>5|46=>111|146=>420|51=>211|n=>n,λ|1=>1|n=>n⟩
theorem Tryz.WU:Go.Proofs.Lays.n143 Tryz.prog Tryz.E4:={
 mixed:=by kernel_rfl
 f143:=Tryz.func321.trans (congrArg some (by kernel_rfl))
 f217:=Tryz.func322.trans (congrArg some (by kernel_rfl))
 f219:=Tryz.func340.trans (congrArg some (by kernel_rfl))
 f224:=Tryz.func368.trans (congrArg some (by kernel_rfl))
 f225:=Tryz.func367.trans (congrArg some (by kernel_rfl))
 f266:=Tryz.func341.trans (congrArg some (by kernel_rfl))
 f267:=Tryz.func369.trans (congrArg some (by kernel_rfl))
 f314:=Tryz.func380.trans (congrArg some (by kernel_rfl))
 t3:=Tryz.underlying3
 a3:=Tryz.isAgg3
 z3:=Tryz.sizeOf3
 v3:=Tryz.zeroValue3
 t4:=Tryz.underlying4
 a4:=Tryz.isAgg4
 z4:=Tryz.sizeOf4
 v4:=Tryz.zeroValue4
 t5:=Tryz.underlying5
 a5:=Tryz.isAgg5
 z5:=Tryz.sizeOf5
 v5:=Tryz.zeroValue5
 t9:=Tryz.underlying9
 a9:=Tryz.isAgg9
 z9:=Tryz.sizeOf9
 v9:=Tryz.zeroValue9
 t46:=Tryz.underlying111
 a46:=Tryz.isAgg111
 z46:=Tryz.sizeOf111
 v46:=Tryz.zeroValue111
 t51:=Tryz.underlying211
 a51:=Tryz.isAgg211
 z51:=Tryz.sizeOf211
 v51:=Tryz.zeroValue211
 t146:=Tryz.underlying420
 a146:=Tryz.isAgg420
 z146:=Tryz.sizeOf420
 v146:=Tryz.zeroValue420
 g1:=by kernel_rfl}
open Go.RowKit Go.Lib in
theorem Tryz.strings_Index_one(s:ByteArray)(c:UInt8)(w:World):
 Calls Tryz.prog 321 #[.string s,.string ⟨#[c]⟩] w λe w'=>e=.returned (.int .i64 (Lib.indexByte s.data.toList c))/\w'=w:=Any.strings_Index_one Tryz.WU s c w
def Tryz.E5:Go.Shelf.Ren:=⟨λ|138=>320|195=>337|218=>339|143=>321|219=>340|217=>322|225=>367|224=>368|267=>369|266=>341|314=>380|n=>n,λ|9=>9|3=>3|4=>4|5=>5|0=>0|46=>111|146=>420|51=>211|n=>n,λ|1=>1|n=>n⟩
theorem Tryz.WV:Go.Proofs.Lays.n138 Tryz.prog Tryz.E5:={
 mixed:=by kernel_rfl
 f138:=Tryz.func320.trans (congrArg some (by kernel_rfl))
 f143:=Tryz.func321.trans (congrArg some (by kernel_rfl))
 f195:=Tryz.func337.trans (congrArg some (by kernel_rfl))
 f217:=Tryz.func322.trans (congrArg some (by kernel_rfl))
 f218:=Tryz.func339.trans (congrArg some (by kernel_rfl))
 f219:=Tryz.func340.trans (congrArg some (by kernel_rfl))
 f224:=Tryz.func368.trans (congrArg some (by kernel_rfl))
 f225:=Tryz.func367.trans (congrArg some (by kernel_rfl))
 f266:=Tryz.func341.trans (congrArg some (by kernel_rfl))
 f267:=Tryz.func369.trans (congrArg some (by kernel_rfl))
 f314:=Tryz.func380.trans (congrArg some (by kernel_rfl))
 t0:=Tryz.underlying0
 a0:=Tryz.isAgg0
 z0:=Tryz.sizeOf0
 v0:=Tryz.zeroValue0
 t3:=Tryz.underlying3
 a3:=Tryz.isAgg3
 z3:=Tryz.sizeOf3
 v3:=Tryz.zeroValue3
 t4:=Tryz.underlying4
 a4:=Tryz.isAgg4
 z4:=Tryz.sizeOf4
 v4:=Tryz.zeroValue4
 t5:=Tryz.underlying5
 a5:=Tryz.isAgg5
 z5:=Tryz.sizeOf5
 v5:=Tryz.zeroValue5
 t9:=Tryz.underlying9
 a9:=Tryz.isAgg9
 z9:=Tryz.sizeOf9
 v9:=Tryz.zeroValue9
 t46:=Tryz.underlying111
 a46:=Tryz.isAgg111
 z46:=Tryz.sizeOf111
 v46:=Tryz.zeroValue111
 t51:=Tryz.underlying211
 a51:=Tryz.isAgg211
 z51:=Tryz.sizeOf211
 v51:=Tryz.zeroValue211
 t146:=Tryz.underlying420
 a146:=Tryz.isAgg420
 z146:=Tryz.sizeOf420
 v146:=Tryz.zeroValue420
 g1:=by kernel_rfl}
open Go.RowKit Go.Lib in
theorem Tryz.strings_Count_one(s:ByteArray)(c:UInt8)(w:World):
 Calls Tryz.prog 320 #[.string s,.string ⟨#[c]⟩] w λe w'=>e=.returned (.int .i64 (Lib.countByte s.data.toList c))/\w'=w:=Any.strings_Count_one Tryz.WV s c w
def Tryz.Jv:Go.Shelf.Ren:=⟨λ|99=>237|206=>294|n=>n,λ|9=>9|4=>4|3=>3|n=>n,λ|n=>n⟩
theorem Tryz.aal:Go.Proofs.Lays.n99 Tryz.prog Tryz.Jv:={
 mixed:=by kernel_rfl
 f99:=Tryz.func237.trans (congrArg some (by kernel_rfl))
 f206:=Tryz.func294.trans (congrArg some (by kernel_rfl))
 t3:=Tryz.underlying3
 a3:=Tryz.isAgg3
 z3:=Tryz.sizeOf3
 v3:=Tryz.zeroValue3
 t4:=Tryz.underlying4
 a4:=Tryz.isAgg4
 z4:=Tryz.sizeOf4
 v4:=Tryz.zeroValue4
 t9:=Tryz.underlying9
 a9:=Tryz.isAgg9
 z9:=Tryz.sizeOf9
 v9:=Tryz.zeroValue9}
open Go.RowKit Go.Lib in
theorem Tryz.strings_HasPrefix(s p:ByteArray)(w:World):
 Calls Tryz.prog 237 #[.string s,.string p] w λe w'=>e=.returned (.bool (Lib.hasPrefix s.data.toList p.data.toList))/\w'=w:=Any.strings_HasPrefix Tryz.aal s p w
end Go.Proofs
namespace Go.Proofs.YtbkifafpjnjaiaaGreatDoor
set_option maxRecDepth 100000
section
open RX
theorem ax.uZ{P:Program}{f:FuncId}{args:Array Value}{v:Value}(A:HP)(h:∀w,Calls P f args w λe w'=>e=.returned v/\w'=w):ax P f args A (λu=>HP.and (u=v) A):=λw R x F s a=>
 (h w).mono λ_ _ ⟨he,hw⟩=>⟨v,he,by rw[hw];exact Same.refl _,R,x,PH.le.refl _,by rw[hw];exact s,rfl,a⟩
theorem BK(s p:List UInt8)(A:HP):ax Tryz.prog 237 #[sE s,sE p] A (λv=>HP.and (v=.bool (p.isPrefixOf s)) A):=
 ax.uZ A λw=>by
  have:=Tryz.strings_HasPrefix ⟨s.toArray⟩ ⟨p.toArray⟩ w
  exact this
theorem rl(s:List UInt8)(c:Int)(A:HP):ax Tryz.prog 296 #[sE s,.int .u8 c] A (λv=>HP.and (v=.int .i64 (Lib.indexByte s c.toNat.toUInt8)) A):=
 ax.uZ A λw=>by
  have:=Tryz.strings_IndexByte ⟨s.toArray⟩ c w
  exact this
theorem O3(s:List UInt8)(c:UInt8)(A:HP):ax Tryz.prog 320 #[sE s,sE [c]] A (λv=>HP.and (v=.int .i64 (s.count c)) A):=
 ax.uZ A λw=>by
  have:=Tryz.strings_Count_one ⟨s.toArray⟩ c w
  exact this
theorem O4(s:List UInt8)(c:UInt8)(A:HP):ax Tryz.prog 321 #[sE s,sE [c]] A (λv=>HP.and (v=.int .i64 (Lib.indexByte s c)) A):=
 ax.uZ A λw=>by
  have:=Tryz.strings_Index_one ⟨s.toArray⟩ c w
  exact this
def bC(c:UInt8):List UInt8->List (List UInt8)
 |[]=>[[]]
 |b::r=>if b=c then[]::bC c r else match bC c r with
  |x::q=>(b::x)::q
  |[]=>[[b]]
theorem wL(c:UInt8):∀s,(bC c s).length=s.count c+1
 |[]=>rfl
 |b::r=>by
  have ih:=wL c r
  unfold bC
  by_cases h:b=c
  ·subst h;rw[if_pos rfl];simp[ih]
  ·rw[if_neg h]
   cases hq:bC c r with
   |nil=>rw[hq]at ih;simp at ih
   |cons x q=>rw[hq]at ih;simp at ih⊢;rw[List.count_cons_of_ne h];omega
theorem od{c:UInt8}:∀ {s:List UInt8},s.count c=0->bC c s=[s]
 |[],_=>rfl
 |b::r,h=>by
  have hb:b≠c:=λe=>by subst e;simp at h
  rw[List.count_cons_of_ne hb]at h
  unfold bC
  rw[if_neg hb,od h]
theorem MF{s:List UInt8}{c:UInt8}(h:Lib.indexByte s c<0):s.count c=0:=by
 have h1:Lib.indexByte s c= -1:=by have:=Lib.indexByte_ge s c;omega
 rw[List.count_eq_zero]
 intro hm
 obtain⟨k,hk,e⟩:=List.mem_iff_getElem.1 hm
 exact Lib.indexByte_none h1 k (by rw[List.getElem?_eq_getElem hk,e])
theorem oe{s:List UInt8}{c:UInt8}:Lib.indexByte s c<0↔c∉s:=by
 constructor
 ·intro h;exact List.count_eq_zero.1 (MF h)
 ·intro h
  rcases Int.lt_or_le (Lib.indexByte s c) 0 with h1|h1
  ·exact h1
  ·obtain⟨o,ho⟩:∃o:Nat,Lib.indexByte s c=o:=⟨_,(Int.toNat_of_nonneg h1).symm⟩
   exact absurd (List.mem_of_getElem? (Lib.indexByte_some ho).1) h
theorem zA{c:UInt8}:∀ {s:List UInt8} {o:Nat},Lib.indexByte s c=o->bC c s=s.take o::bC c (s.drop (o+1))/\o<s.length/\s.count c=(s.drop (o+1)).count c+1
 |[],o,h=>by unfold Lib.indexByte at h;omega
 |b::r,o,h=>by
  unfold Lib.indexByte at h
  rw[show bC c (b::r)=if b=c then[]::bC c r else match bC c r with
   |x::q=>(b::x)::q
   |[]=>[[b]]from rfl]
  by_cases hb:b=c
  ·subst hb
   rw[if_pos (by simp)]at h
   obtain rfl:o=0:=by omega
   rw[if_pos rfl]
   simp
  ·rw[if_neg (by simpa using hb)]at h
   split at h
   ·omega
   ·rename_i hq
    have h0:Lib.indexByte r c≠ -1:=by simpa using hq
    have h00:=Lib.indexByte_ge r c
    obtain⟨p,rfl⟩:∃p,o=p+1:=⟨o - 1,by omega⟩
    obtain⟨h1,h2,h3⟩:=zA (c:=c) (s:=r) (o:=p) (by omega)
    rw[if_neg hb,h1,List.count_cons_of_ne hb]
    simp only[List.take_succ_cons,List.drop_succ_cons,List.length_cons]
    exact⟨trivial,by omega,h3⟩
theorem aam(l:List (List UInt8)):∀u∈l.map sE,u.oneCell'=true:=λu hu=>by
 obtain⟨b,_,rfl⟩:=List.mem_map.1 hu;rfl
abbrev tX(a:Option Addr)(n c:Nat)(l:List (List UInt8)):HP:=cp 9 1 a n c (l.map sE)
abbrev tY(a:Option Addr)(n:Nat)(l:List (List UInt8)):HP:=bb 1 a n (l.map sE)
theorem u3:(Tryz.prog.info? 9).map (λi=>(i.zero,i.size,i.bytes))=some (some (.string .empty),1,16):=by kernel_rfl
theorem E6:Tryz.prog.underlying 57=some (.slice 9):=by kernel_rfl
theorem om:Tryz.prog.underlying 9=some .string:=by kernel_rfl
theorem aan:gF Tryz.prog 9=false:=by kernel_rfl
theorem adx:gr Tryz.prog 9=1:=by kernel_rfl
end
namespace RX
def jh:=(({aB:=[240,188,382,377,384,239,241,297,383,238,296,237]}:gA).aB)
def MG:T:=
(.br (.lt (.of (.o1 .size 0)) (.i 1))
(.ret (.bool (.c false)) [])
(.br (.lt (.i 16) (.of (.o1 .size 0)))
(.ret (.bool (.c false)) [])
(.br (.o2 .seq 0 (.s [46]))
(.ret (.bool (.c false)) [])
(.br (.o2 .seq 0 (.s [46,46]))
(.ret (.bool (.c false)) [])
(.call 296 [.str 0,.a (.int .u8 (.i 47))] [] [.i] 1 []
(.br (.lt 1 (.i 0))
(.call 296 [.str 0,.a (.int .u8 (.i 0))] [] [.i] 2 []
(.ret (.bool (.lt 2 (.i 0))) []))
(.ret (.bool (.c false)) [])))))))
theorem Jw:tree Tryz.prog {aB:=jh,bz:=true,cx:=true} Tryz.f240 [.str 0] [] 1=MG:=by kernel_rfl
def E7:T:=
(.br (.o2 .seq 0 (.s [47]))
(.ret (.au [.z,.k 0]) [])
(.br (.lt (.i 136) (.of (.o1 .size 0)))
(.ret (.au [.z,.k 20]) [])
(.call 237 [.str 0,.str (.s [47])] [] [.c] (.bool 1) []
(.br (.not 1)
(.ret (.au [.z,.k 20]) [])
(.read (.slice 9 (.tmp 16) (some (.const (.int .i64 1))) none none) 9 [(16,.str 0)] [] [.s] (.str 2)
(.call 238 [.str 2,.str (.s [47])] [] [.a,.n,.n,.p] (.s 3) [(3,6)]
(.br (.lt (.i 8) (.of 4))
(.ret (.au [.z,.k 20]) [])
(.call 241 [.s 3,.a (.func 239 [])] [(3,6)] [.c] (.bool 7) [(3,6)]
(.br 7
(.ret (.au [.z,.k 20]) [])
(.ret (.au [.s 3,.k 0]) [(3,6)]))))))))))
theorem E8:tree Tryz.prog {aB:=jh,bz:=true,cx:=true} Tryz.f188 [.str 0] [] 1=E7:=by kernel_rfl
def zB:T:=
(.call 240 [.str 0] [] [.c] (.bool 1) []
(.ret (.bool (.not 1)) []))
theorem BL:tree Tryz.prog {aB:=jh,bz:=true,cx:=true} Tryz.f239 [.str 0] [] 1=zB:=by kernel_rfl
def mU:T:=
(.call 297 [.s 0,.val 4] [(0,3),(4,5)] [.i] 6 [(0,3),(4,5)]
(.ret (.bool (.le (.i 0) 6)) [(0,3),(4,5)]))
theorem uF:tree Tryz.prog {aB:=jh,bz:=true,cx:=true} Tryz.f241 [.s 0,.val 4] [(0,3),(4,5)] 6=mU:=by kernel_rfl
def sR:T:=
(.loop [.i,.i,.p] [.z (.i 0),.z (.i 0),.p [(4,5)]]
(.br (.lt 7 (.of 1))
(.need (.le (.i 0) 7)
(.need (.is 0)
  (.ld 9 14 (.aW 0 7 1 0) [(0,3)] [.s] (.str 9)
  (.jw 4 [.str 9] [(4,8)] [.c,.p] (.bool 10) [(4,11)]
(.br 10
(.ret 7 [(0,3),(4,11)])
  (.rg (.add 7 (.i 1))
(.again 0 [.z 6,.z (.add 7 (.i 1)),.p [(4,11)]])))))))
(.ret (.k (-1)) [(0,3),(4,8)])))
theorem BM:tree Tryz.prog {hv:=[(0,[.a 4])],aB:=jh,bz:=true,cx:=true} Tryz.f297 [.s 0,.val 4] [(0,3),(4,5)] 6=sR:=by kernel_rfl
def MH:T:=
(.br (.eq (.of 1) (.i 0))
(.ret (.str (.s [47])) [(0,3)])
(.new
(.loop [.i,.p] [.z (.i 0),.p [(.b 4,.cells [.fZ,.z] 429)]]
(.br (.lt 5 (.of 1))
(.need (.le (.i 0) 5)
(.need (.is 0)
  (.ld 9 13 (.aW 0 5 1 0) [(0,3)] [.s] (.str 7)
(.call 385 [.ptr 4 0,.a (.int .u8 (.i 47))] [(.b 4,6)] [.v,.p,.p] (.val 8) [(8,9),(.b 4,10)]
(.call 386 [.ptr 4 0,.str 7] [(.b 4,10)] [.i,.v,.p,.p] (.au [11,.val 12]) [(12,13),(.b 4,14)]
  (.rg (.add 5 (.i 1))
(.again 0 [.z (.add 5 (.i 1)),.p [(.b 4,14)]])))))))
(.call 387 [.ptr 4 0] [(.b 4,6)] [.s,.p] (.str 7) [(.b 4,8)]
(.ret (.str 7) [(0,3)]))))))
theorem Jy:tree Tryz.prog {fX:=[429],hv:=[(0,[.b 4])],aB:=jh,bz:=true,cx:=true} Tryz.f384 [.s 0] [(0,3)] 4=MH:=by kernel_rfl
def zD:T:=
(.call 188 [.str 0] [] [.a,.n,.n,.p,.i] (.au [.s 1,5]) [(1,4)]
(.br (.not (.eq 5 (.i 0)))
(.ret (.au [.str (.s []),.str (.s []),.k 20]) [])
(.br (.eq (.of 2) (.i 0))
(.ret (.au [.str (.s []),.str (.s []),.k 20]) [])
  (.rg (.sub (.of 2) (.i 1))
(.read (.slice 57 (.tmp 22) none (some (.tmp 23)) none) 57 [(22,.s 1),(23,.w (.a (.int .i64 (.sub (.of 2) (.i 1)))))] [(1,4)] [.a,.n,.n] (.s 6)
(.need (.le (.i 0) (.sub (.of 2) (.i 1)))
(.need (.lt (.sub (.of 2) (.i 1)) (.of 2))
(.need (.is 1)
(.read (.load 9 (.tmp 28)) 9 [(28,.aW 1 (.sub (.of 2) (.i 1)) 1 0)] [(1,4)] [.s] (.str 9)
(.call 384 [.s 6] [(1,4)] [.s] (.str 10) [(1,4)]
(.ret (.au [.str 10,.str 9,.k 0]) [])))))))))))
theorem BN:tree Tryz.prog {aB:=jh,bz:=true,cx:=true} Tryz.f382 [.str 0] [] 1=zD:=by kernel_rfl
def E9:T:=
(.call 295 [.str 0,.str 1,.k 0,.k (-1)] [] [.a,.n,.n,.p] (.s 2) [(2,5)]
(.ret (.s 2) [(2,5)]))
theorem Fa:tree Tryz.prog {aB:=jh,bz:=true,cx:=true} Tryz.f238 [.str 0,.str 1] [] 2=E9:=by kernel_rfl
def tZ:T:=
(.br (.eq 3 (.i 0))
(.ret .z [])
(.br (.o2 .seq 1 (.s []))
(.call 319 [.str 0,3] [] [.a,.n,.n,.p] (.s 4) [(4,7)]
(.ret (.s 4) [(4,7)]))
(.br (.lt 3 (.i 0))
(.call 320 [.str 0,.str 1] [] [.i] 4 []
  (.rg (.add 4 (.i 1))
  (.rg (.add (.of (.o1 .size 0)) (.i 1))
(.op (.makeSlice 57 (.tmp 30) (.tmp 30)) 57 [(30,.w (.a (.int .i64 (.o2 .mn (.add 4 (.i 1)) (.add (.of (.o1 .size 0)) (.i 1)))))),(30,.w (.a (.int .i64 (.o2 .mn (.add 4 (.i 1)) (.add (.of (.o1 .size 0)) (.i 1))))))] [] [.a,.n,.n,.p] (.s 5) [(5,8)]
  (.rg (.sub (.o2 .mn (.add 4 (.i 1)) (.add (.of (.o1 .size 0)) (.i 1))) (.i 1))
(.loop [.s,.i,.p] [.e (.o2 .Q6 0 (.s [])),.z (.i 0),.p [(5,8)]]
(.br (.lt 10 (.sub (.o2 .mn (.add 4 (.i 1)) (.add (.of (.o1 .size 0)) (.i 1))) (.i 1)))
(.call 321 [.str 9,.str 1] [] [.i] 12 []
(.br (.lt 12 (.i 0))
(.need (.le (.i 0) 10)
(.need (.lt 10 (.of 6))
(.need (.is 5)
(.op (.store 9 (.tmp 61) (.tmp 60)) 0 [(61,.aW 5 10 1 0),(60,.str 9)] [(5,11)] [.p] (.au []) [(5,13)]
      (.rg (.add 10 (.i 1))
(.read (.slice 57 (.tmp 62) none (some (.tmp 64)) none) 57 [(62,.s 5),(64,.w (.a (.int .i64 (.add 10 (.i 1)))))] [(5,13)] [.a,.n,.n] (.s 14)
(.ret (.s 14) [(5,13)])))))))
  (.rg (.add 12 2)
(.read (.slice 9 (.tmp 44) none (some (.tmp 47)) none) 9 [(44,.str 9),(47,.w (.a (.int .i64 (.add 12 2))))] [] [.s] (.str 13)
(.need (.le (.i 0) 10)
(.need (.lt 10 (.of 6))
(.need (.is 5)
(.op (.store 9 (.tmp 49) (.tmp 48)) 0 [(49,.aW 5 10 1 0),(48,.str 13)] [(5,11)] [.p] (.au []) [(5,14)]
      (.rg (.add 12 (.of (.o1 .size 1)))
(.read (.slice 9 (.tmp 50) (some (.tmp 54)) none none) 9 [(50,.str 9),(54,.w (.a (.int .i64 (.add 12 (.of (.o1 .size 1))))))] [] [.s] (.str 15)
  (.rg (.add 10 (.i 1))
(.again 0 [.e (.o2 .Q6 15 (.s [])),.z (.add 10 (.i 1)),.p [(5,14)]]))))))))))))
(.need (.le (.i 0) 10)
(.need (.lt 10 (.of 6))
(.need (.is 5)
(.op (.store 9 (.tmp 61) (.tmp 60)) 0 [(61,.aW 5 10 1 0),(60,.str 9)] [(5,11)] [.p] (.au []) [(5,12)]
  (.rg (.add 10 (.i 1))
(.read (.slice 57 (.tmp 62) none (some (.tmp 64)) none) 57 [(62,.s 5),(64,.w (.a (.int .i64 (.add 10 (.i 1)))))] [(5,12)] [.a,.n,.n] (.s 13)
(.ret (.s 13) [(5,12)]))))))))))))))
  (.rg (.add (.of (.o1 .size 0)) (.i 1))
(.op (.makeSlice 57 (.tmp 30) (.tmp 30)) 57 [(30,.w (.a (.int .i64 (.o2 .mn 3 (.add (.of (.o1 .size 0)) (.i 1)))))),(30,.w (.a (.int .i64 (.o2 .mn 3 (.add (.of (.o1 .size 0)) (.i 1))))))] [] [.a,.n,.n,.p] (.s 4) [(4,7)]
  (.rg (.sub (.o2 .mn 3 (.add (.of (.o1 .size 0)) (.i 1))) (.i 1))
(.loop [.s,.i,.p] [.e (.o2 .Q6 0 (.s [])),.z (.i 0),.p [(4,7)]]
(.br (.lt 9 (.sub (.o2 .mn 3 (.add (.of (.o1 .size 0)) (.i 1))) (.i 1)))
(.call 321 [.str 8,.str 1] [] [.i] 11 []
(.br (.lt 11 (.i 0))
(.need (.le (.i 0) 9)
(.need (.lt 9 (.of 5))
(.need (.is 4)
(.op (.store 9 (.tmp 61) (.tmp 60)) 0 [(61,.aW 4 9 1 0),(60,.str 8)] [(4,10)] [.p] (.au []) [(4,12)]
      (.rg (.add 9 (.i 1))
(.read (.slice 57 (.tmp 62) none (some (.tmp 64)) none) 57 [(62,.s 4),(64,.w (.a (.int .i64 (.add 9 (.i 1)))))] [(4,12)] [.a,.n,.n] (.s 13)
(.ret (.s 13) [(4,12)])))))))
  (.rg (.add 11 2)
(.read (.slice 9 (.tmp 44) none (some (.tmp 47)) none) 9 [(44,.str 8),(47,.w (.a (.int .i64 (.add 11 2))))] [] [.s] (.str 12)
(.need (.le (.i 0) 9)
(.need (.lt 9 (.of 5))
(.need (.is 4)
(.op (.store 9 (.tmp 49) (.tmp 48)) 0 [(49,.aW 4 9 1 0),(48,.str 12)] [(4,10)] [.p] (.au []) [(4,13)]
      (.rg (.add 11 (.of (.o1 .size 1)))
(.read (.slice 9 (.tmp 50) (some (.tmp 54)) none none) 9 [(50,.str 8),(54,.w (.a (.int .i64 (.add 11 (.of (.o1 .size 1))))))] [] [.s] (.str 14)
  (.rg (.add 9 (.i 1))
(.again 0 [.e (.o2 .Q6 14 (.s [])),.z (.add 9 (.i 1)),.p [(4,13)]]))))))))))))
(.need (.le (.i 0) 9)
(.need (.lt 9 (.of 5))
(.need (.is 4)
(.op (.store 9 (.tmp 61) (.tmp 60)) 0 [(61,.aW 4 9 1 0),(60,.str 8)] [(4,10)] [.p] (.au []) [(4,11)]
  (.rg (.add 9 (.i 1))
(.read (.slice 57 (.tmp 62) none (some (.tmp 64)) none) 57 [(62,.s 4),(64,.w (.a (.int .i64 (.add 9 (.i 1)))))] [(4,11)] [.a,.n,.n] (.s 12)
(.ret (.s 12) [(4,11)])))))))))))))))
theorem wM:tree Tryz.prog {hv:=[(0,[.a 5,.a 4])],aB:=jh,bz:=true,cx:=true} Tryz.f295 [.str 0,.str 1,2,3] [] 4=tZ:=by kernel_rfl
def rm:T:=
(.call 388 [.val 0] [(0,1)] [.p] (.au []) [(0,3)]
(.read (.nilCheck (.tmp 8)) 0 [(8,.val 0)] [(0,3)] [.n] (.ptr 4 0)
(.ld 42 10 (.ptr 4 1) [(0,3)] [.a,.n,.n] (.s 5)
(.new
(.op (.call ⟨.builtin .append,#[.tmp 11,.tmp 13],#[42,42]⟩) 42 [(11,.s 5),(13,.sl (.b 8 0) (.n 1) (.n 1))] [(0,3),(.b 8,.cells [.int .u8 2] 5)] [.a,.n,.n,.p,.p] (.s 9) [(9,12),(0,13),(.b 8,.cells [.int .u8 2] 5)]
(.read (.nilCheck (.tmp 7)) 0 [(7,.val 0)] [(0,13)] [.n] (.ptr 14 0)
(.op (.store 42 (.tmp 16) (.tmp 14)) 0 [(16,.ptr 14 1),(14,.s 9)] [(0,13),(9,12)] [.p] (.au []) [(0,15)]
(.ret (.w (.a .Q8)) [(0,15)]))))))))
theorem uG:tree Tryz.prog {fx:=[427],aB:=jh,bz:=true,cx:=true} Tryz.f385 [.val 0,.a (.int .u8 2)] [(0,1)] 3=rm:=by kernel_rfl
def oo:T:=
(.call 388 [.val 0] [(0,1)] [.p] (.au []) [(0,3)]
(.read (.nilCheck (.tmp 9)) 0 [(9,.val 0)] [(0,3)] [.n] (.ptr 4 0)
(.ld 42 11 (.ptr 4 1) [(0,3)] [.a,.n,.n] (.s 5)
(.op (.call ⟨.builtin .append,#[.tmp 12,.tmp 13],#[42,9]⟩) 42 [(12,.s 5),(13,.str 2)] [(0,3)] [.a,.n,.n,.p,.p] (.s 8) [(8,11),(0,12)]
(.read (.nilCheck (.tmp 8)) 0 [(8,.val 0)] [(0,12)] [.n] (.ptr 13 0)
(.op (.store 42 (.tmp 16) (.tmp 14)) 0 [(16,.ptr 13 1),(14,.s 8)] [(0,12),(8,11)] [.p] (.au []) [(0,14)]
(.ret (.au [.a (.int .i64 (.of (.o1 .size 2))),.a .Q8]) [(0,14)])))))))
theorem rq:tree Tryz.prog {fx:=[427],aB:=jh,bz:=true,cx:=true} Tryz.f386 [.val 0,.str 2] [(0,1)] 3=oo:=by kernel_rfl
def zE:T:=
(.join [.s,.p]
 (.ld 42 5 (.ptr 0 1) [(.b 0,1)] [.a,.n,.n] (.s 2)
 (.all
(.op (.call ⟨.builtin .unsafeSliceData,#[.tmp 6],#[42]⟩) 436 [(6,.s 2)] [(.b 0,1)] [.n,.p,.p] (.ptr 5 0) [(.b 5,6),(.b 0,7)]
  (.ld 42 10 (.ptr 0 1) [(.b 0,7)] [.a,.n,.n] (.s 8)
(.op (.call ⟨.builtin .unsafeString,#[.tmp 7,.tmp 12],#[436,3]⟩) 9 [(7,.ptr 5 0),(12,.w (.a (.int .i64 (.of 9))))] [(.b 5,6)] [.s,.p] (.str 11) [(.b 5,12)]
(.again 0 [.e (.o2 .Q6 11 (.s [])),.p [(.b 0,7)]]))))
  (.ld 42 10 (.ptr 0 1) [(.b 0,1)] [.a,.n,.n] (.s 5)
(.op (.call ⟨.builtin .unsafeSliceData,#[.tmp 6],#[42]⟩) 436 [(6,.s 2)] [(.b 0,1)] [.n,.p,.p] (.ptr 8 0) [(.b 8,9),(.b 0,10)]
(.op (.call ⟨.builtin .unsafeString,#[.tmp 7,.tmp 12],#[436,3]⟩) 9 [(7,.ptr 8 0),(12,.w (.a (.int .i64 (.of 6))))] [(.b 8,9)] [.s,.p] (.str 11) [(.b 8,12)]
(.again 0 [.e (.o2 .Q6 11 (.s [])),.p [(.b 0,10)]]))))))
(.ret (.str 2) [(.b 0,3)]))
theorem BO:tree Tryz.prog {aB:=jh,bz:=true,cx:=true,jn:=[((3,2),some {ss:=[.s,.p],n:=4,tv:=[(3,none),(4,none),(5,none),(6,none),(7,none),(8,none),(9,none),(10,none),(11,none),(12,none),(13,none),(2,some (.str 2))],h:=[(.b 0,3)],lk:=[]})]} Tryz.f387 [.ptr 0 0] [(.b 0,1)] 2=zE:=by kernel_rfl
def ru:T:=
(.read (.nilCheck (.tmp 2)) 0 [(2,.val 0)] [(0,1)] [.n] (.ptr 2 0)
(.ld 427 4 (.ptr 2 0) [(0,1)] [.v] (.val 3)
(.read (.binOp .eql 427 (.tmp 5) (.const (.pointer none)) 427) 4 [(5,.val 3)] [(0,1)] [.c] (.bool 4)
(.br 4
(.read (.convert 427 437 (.tmp 8)) 437 [(8,.val 0)] [(0,1)] [.v] (.val 5)
(.op (.call ⟨.value (.func 389),#[.tmp 9],#[437]⟩) 437 [(9,.val 5)] [(0,1)] [.v,.p,.p] (.val 6) [(6,7),(0,8)]
(.read (.convert 437 427 (.tmp 10)) 427 [(10,.val 6)] [(6,7),(0,8)] [.v] (.val 9)
(.read (.nilCheck (.tmp 7)) 0 [(7,.val 0)] [(0,8)] [.n] (.ptr 10 0)
(.op (.store 427 (.tmp 13) (.tmp 11)) 0 [(13,.ptr 10 0),(11,.val 9)] [(0,8),(6,7)] [.p] (.au []) [(0,11)]
(.ret (.au []) [(0,11)]))))))
(.read (.nilCheck (.tmp 14)) 0 [(14,.val 0)] [(0,1)] [.n] (.ptr 5 0)
 (.ld 427 16 (.ptr 5 0) [(0,1)] [.v] (.val 6)
(.read (.binOp .neq 427 (.tmp 17) (.tmp 18) 427) 4 [(17,.val 6),(18,.val 0)] [(0,1)] [.c] (.bool 7)
(.br 7
(.fail 90)
(.ret (.au []) [(0,1)])))))))))
theorem uH:tree Tryz.prog {fx:=[427],aB:=jh,bz:=true,cx:=true,cf:=[427]} Tryz.f388 [.val 0] [(0,1)] 2=ru:=by kernel_rfl
end RX
section
open Go.Lib RX
theorem _root_.Go.Proofs.YtbkifafpjnjaiaaGreatDoor.aH.imp{P:Program}{s:Sem Next}{A A':HP}{v:Value}(r:aH P s A v)(f:∀R h,A'.p R h->A.p R h):aH P s A' v:=λw R h F st a=>r w R h F st (f R h a)
theorem jM{i:Nat}{ty u t e:TypeId}(hg:Tryz.prog.eqGuardType Tryz.prog.depth t=false)(hu:Tryz.prog.underlying t=some (.pointer e)){p:Option Addr}{A:HP}:aH Tryz.prog (bI (.binOp .eql t (.tmp i) (.const (.pointer none)) u) ty [(i,.pointer p)]) A (.bool (!p.isSome)):=λw R hh F s _=>by
 have he:(Op.equal t (.pointer p) (.pointer none)).run Tryz.prog w=.ok (!p.isSome) w:=RX.eR λn=>by cases p<;>simp[Op.equalIn,RX.run_underlying hu]
 simp only[bI,execOp,jR,List.find?_cons,beq_self_eq_true]
 simp[eqGuard,binOp,hg,program,Sem.run_bind,Result.andThen,he]
theorem lf{i:Nat}{ty u t e:TypeId}(hg:Tryz.prog.eqGuardType Tryz.prog.depth t=false)(hu:Tryz.prog.underlying t=some (.pointer e)){p:Option Addr}{A:HP}:aH Tryz.prog (bI (.binOp .neq t (.tmp i) (.const (.pointer none)) u) ty [(i,.pointer p)]) A (.bool p.isSome):=λw R hh F s _=>by
 have he:(Op.equal t (.pointer p) (.pointer none)).run Tryz.prog w=.ok (!p.isSome) w:=RX.eR λn=>by cases p<;>simp[Op.equalIn,RX.run_underlying hu]
 simp only[bI,execOp,jR,List.find?_cons,beq_self_eq_true]
 simp[eqGuard,binOp,hg,program,Sem.run_bind,Result.andThen,he]
theorem gY{p:Addr}{A:HP}:aH Tryz.prog (Sn (.pointer (some p))) A (.pointer (some p)):=λw R hh F s _=>by
 simp[Sn,bI,execOp,jR]
theorem Tk:Tryz.prog.eqGuardType Tryz.prog.depth 427=false:=by kernel_rfl
theorem Fb:Tryz.prog.underlying 427=some (.pointer 429):=by kernel_rfl
theorem YM:Tryz.prog.underlying 437=some .unsafePointer:=by kernel_rfl
theorem ady:Tryz.prog.underlying 42=some (.slice 5):=by kernel_rfl
def BC(b:Nat)(p:Option Addr)(a:Option Addr)(n c:Nat):HP:=HP.one b (.cells #[.pointer p,.slice a n c] 429 (0,0))
def iL(b:Nat)(l:List UInt8):HP:=HP.ex λp=>HP.ex λa=>HP.ex λc=>HP.and (p=none\/p=some ⟨b,0,none⟩) (HP.an (BC b p a l.length c) (du a l.length c l))
theorem iL.new(b:Nat){R h:PH}(H:(HP.one b (.cells #[.pointer none,.slice none 0 0] 429 (0,0))).p R h):(iL b []).p R h:=
 ⟨none,none,0,.inl rfl,HP.ao (HP.ae (HP.aM H) (λ_ _=>cp.nil _ _ _ _) λ_ h=>h)⟩
theorem YN{b:Nat}{p a:Option Addr}{n c:Nat}{K:HP}:aH Tryz.prog (bG 427 (.pointer (some ⟨b,0,none⟩))) (HP.an (BC b p a n c) K) (.pointer p):=by
 have:=b7 (t:=427) Fb (by kernel_rfl) (by kernel_rfl) (Rd.left (B:=K) (dW b #[.pointer p,.slice a n c] 429)) (k:=0) (off:=0) (v:=.pointer p) rfl
 simpa[BC,Addr.add_zero']using this
theorem BP{b:Nat}{p a:Option Addr}{n c:Nat}{K:HP}:aH Tryz.prog (bG 42 (.pointer (some ⟨b,1,none⟩))) (HP.an (BC b p a n c) K) (.slice a n c):=by
 have:=b7 (t:=42) ady (by kernel_rfl) (by kernel_rfl) (Rd.left (B:=K) (dW b #[.pointer p,.slice a n c] 429)) (k:=1) (off:=0) (v:=.slice a n c) rfl
 simpa[BC,RX.addr_add]using this
theorem BQ:(Tryz.prog.info? 429).map (·.size)=some 2:=by kernel_rfl
theorem WX:liesAt Tryz.prog Tryz.prog.depth 429 (2 / Tryz.prog.cellsOf 429) 0 429 1=true:=by kernel_rfl
def sU(s d:TypeId)(u:Value):Sem Next:=do pure (.value (<-convert s d u))
theorem t6{s d ty:TypeId}{i:Nat}{u:Value}:bI (.convert s d (.tmp i)) ty [(i,u)]=sU s d u:=by simp[bI,execOp,jR,sU]
theorem BC.shape{b:Nat}{p a:Option Addr}{n c:Nat}{w:World}{R h F:PH}(s:Sat w R h F)(H:(BC b p a n c).p R h):w.shape? b=some (429,2):=by
 have:=s.oh _ _ H
 simp[World.shape?,this]
theorem Tl{b:Nat}{p a:Option Addr}{n c:Nat}{K:HP}:aH Tryz.prog (sU 427 437 (.pointer (some ⟨b,0,none⟩))) (HP.an (BC b p a n c) K) (.pointer (some ⟨b,0,none⟩)):=λw R h F s H=>by
 obtain⟨j,hj,hjs⟩:=Option.map_eq_some_iff.1 BQ
 have:=Lib.run_to_unsafe (P:=Tryz.prog) (w:=w) ⟨b,0,none⟩ Fb YM hj (by rw[hjs];decide) (BC.shape s (HP.aj H)) (by decide:(0:Nat)<2)
 unfold sU;rw[Sem.run_bind,this];rfl
theorem Jz{b:Nat}{p a:Option Addr}{n c:Nat}{K:HP}:aH Tryz.prog (sU 437 427 (.pointer (some ⟨b,0,none⟩))) (HP.an (BC b p a n c) K) (.pointer (some ⟨b,0,none⟩)):=λw R h F s H=>by
 obtain⟨j,hj,hjs⟩:=Option.map_eq_some_iff.1 BQ
 have:=Lib.run_from_unsafe (P:=Tryz.prog) (w:=w) ⟨b,0,none⟩ YM Fb hj (BC.shape s (HP.aj H)) WX
 unfold sU;rw[Sem.run_bind,this];rfl
theorem adz{i:Nat}{x:Value}(A:HP):aI Tryz.prog (bI (.call ⟨.value (.func 389),#[.tmp i],#[437]⟩) 437 [(i,x)]) A (λv=>HP.and (v=x) A):=λw R h F s a=>by
 have hr:(callFunc 389 #[x]).run Tryz.prog w=.ok (.value x) w:=by
  rw[run_callFunc_extern Tryz.func389 (by kernel_rfl) (by kernel_rfl) (by kernel_rfl) (e:=Extern.AbiNoEscape.same) (by kernel_rfl)]
  rw[Lib.run_noEscape];rfl
 refine⟨.value x,x,w,?_,rfl,Same.refl w,R,h,PH.le.refl _,s,rfl,a⟩
 rw[<-hr]
 simp[bI,execOp,resolve,jR,invoke,Deferred.ofValue]
theorem aao{b:Nat}{p a:Option Addr}{n c:Nat}(q:Option Addr):aI Tryz.prog (bH 427 (.pointer (some ⟨b,0,none⟩)) (.pointer q)) (BC b p a n c) (λv=>HP.and (v=.tuple #[]) (BC b q a n c)):=by
 obtain⟨i,hi⟩:∃i,Tryz.prog.info? 427=some i:=Option.isSome_iff_exists.1 (by kernel_rfl)
 have hz:i.size=1:=by
  have:(Tryz.prog.info? 427).map (·.size)=some 1:=by kernel_rfl
  rw[hi]at this;simpa using this
 exact ij hi 429 b #[.pointer p,.slice a n c] 0 (.pointer q) [.pointer q] rfl hz (by simp) (by simp[Value.oneCell']) (by simp) (by unfold maxLen;simp)
theorem Tn{b:Nat}{p a:Option Addr}{n c:Nat}(a':Option Addr)(n' c':Nat):aI Tryz.prog (bH 42 (.pointer (some ⟨b,1,none⟩)) (.slice a' n' c')) (BC b p a n c) (λv=>HP.and (v=.tuple #[]) (BC b p a' n' c')):=by
 obtain⟨i,hi⟩:∃i,Tryz.prog.info? 42=some i:=Option.isSome_iff_exists.1 (by kernel_rfl)
 have hz:i.size=1:=by
  have:(Tryz.prog.info? 42).map (·.size)=some 1:=by kernel_rfl
  rw[hi]at this;simpa using this
 exact ij hi 429 b #[.pointer p,.slice a n c] 1 (.slice a' n' c') [.slice a' n' c'] rfl hz (by simp) (by simp[Value.oneCell']) (by simp) (by unfold maxLen;simp)
theorem rv(b:Nat)(l:List UInt8):ax Tryz.prog 388 #[.pointer (some ⟨b,0,none⟩)] (iL b l) (λv=>HP.and (v=.tuple #[]) (iL b l)):=by
 refine ax.ex λp=>ax.ex λa=>ax.ex λc=>?_
 refine ax.bV (φ:=p=none\/p=some ⟨b,0,none⟩) (λR h H=>H.1) λhp=>?_
 refine ax.ak (A:=HP.an (BC b p a l.length c) (du a l.length c l)) ?_ (λ_ _ h=>h.2) λ_ _ _ h=>h
 refine ah (ρ:=[.v (.pointer (some ⟨b,0,none⟩)),.p (HP.an (BC b p a l.length c) (du a l.length c l))]) mixed Tryz.func388 uH ?_
 unfold ru
 simp only[T.den,E.prop,E.den,RX.look,F1.app,F2.app,aP.dH,aP.dP,aP.cr,aP.eQ,aP.e9,aP.fw,aP.ju,bg,dB,V.den,W.den,A.den,BR.den,SA.den,FV.den,iX,nF,nK,fj,g5.app,List.map_cons,List.map_nil,List.cons_append,List.nil_append,List.drop_succ_cons,List.drop_zero,List.length_cons,List.length_nil,Nat.zero_add,Nat.reduceAdd,Int.neg_neg,Bool.not_not,List.append_nil,Nat.add_zero,List.getElem?_cons_zero,List.getElem?_cons_succ,Decidable.not_not,cu,dg,cJ,q9,ne_eq,Nat.reduceEqDiff,not_false_eq_true,dZ]
 refine⟨b,gY,.pointer p,YN,!p.isSome,jM Tk Fb,λh=>?_,λh=>?_⟩
 ·refine⟨.pointer (some ⟨b,0,none⟩),by rw[t6];exact Tl,?_⟩
  refine(adz (HP.an (BC b p a l.length c) (du a l.length c l))).ak (λ_ _ h=>h) ?_
  rintro v R hh ⟨rfl,H⟩
  refine⟨.pointer (some ⟨b,0,none⟩),HP.tt,HP.an (BC b p a l.length c) (du a l.length c l),rfl,⟨.pointer (some ⟨b,0,none⟩),?_,b,gY,?_⟩,HP.aM H⟩
  ·rw[t6];exact Jz.imp λ_ _ H=>HP.ai H
  ·refine((aao (some ⟨b,0,none⟩)).frame (du a l.length c l)).ak (λ_ _ H=>HP.aj H) ?_
   rintro v R hh ⟨h1,h2,d,l1,l2,⟨rfl,hc⟩,ho⟩
   refine⟨iL b l,rfl,.of λR h H=>⟨trivial,H⟩,some ⟨b,0,none⟩,a,c,.inr rfl,h1,h2,d,l1,l2,hc,ho⟩
 ·have hp':p=some ⟨b,0,none⟩:=by
   rcases hp with rfl|rfl
   ·simp at h
   ·rfl
  subst hp'
  refine⟨b,gY,.pointer (some ⟨b,0,none⟩),YN,false,?_,λh=>by simp at h,λ_=>.of λR h H=>⟨trivial,_,_,_,.inr rfl,H⟩⟩
  intro w R h F s H
  obtain⟨j,hj,_⟩:=Option.map_eq_some_iff.1 BQ
  have:=Lib.run_neq_ptr_same (P:=Tryz.prog) (w:=w) ⟨b,0,none⟩ Fb hj
  simp only[bI,execOp,jR,List.find?_cons,beq_self_eq_true]
  simp[eqGuard,Tk,program,Sem.run_bind,Result.andThen,this]
def wO(t u ty:TypeId)(x y:Value):Sem Next:=do pure (.value (<-Builtin.append_ #[t,u] ty #[x,y]))
theorem Fc{t u ty:TypeId}{i j:Nat}{x y:Value}(h:i≠j):bI (.call ⟨.builtin .append,#[.tmp i,.tmp j],#[t,u]⟩) ty [(i,x),(j,y)]=wO t u ty x y:=by
 have h':(i==j)=false:=by simpa using h
 simp[bI,execOp,resolve,jR,invoke,builtin,h',wO]
theorem strCells_eq(l:List UInt8):strCells ⟨l.toArray⟩=l.map fH:=by simp[strCells,fH]
theorem JA{w:World}(ty:TypeId)(v:Value)(n:Nat)(xs:List Value)(hown:w.ownsRow 0 5 1 v n xs)(s:ByteArray)(hb:n+s.size<=140737488355328):
 ∃v' w',(Builtin.append_ #[42,9] ty #[v,.string s]).run Tryz.prog w=.ok v' w'/\w'.ownsRow 0 5 1 v' (n+s.size) (xs++strCells s)/\w.grownBy w' v.ownBlock/\
  (v'=.slice none 0 0↔v=.slice none 0 0/\s.size=0)/\(v'.ownBlock=v.ownBlock\/v'.ownBlock=some w.heap.size):=by
 obtain⟨i,hi,h1,h2,h3⟩:=info_parts L6
 have h63:n+s.size<=maxLen:=by unfold maxLen;omega
 have nq:xs.length=n:=by simpa using hown.1
 obtain⟨v',w',hr,ho,hg,hn⟩:=run_append_own_string (P:=Tryz.prog) w 0 42 9 ty 5 i lY om hi h1 h2 h3 v n xs hown s h63 hb (Nat.zero_le _)
 refine⟨v',w',hr,ho,hg,hn,?_⟩
 rcases hown.2 with⟨rfl,rfl⟩|⟨g,cap,cur,rfl,_,hgg,hnc,hcm,hcs,aiY⟩
 ·by_cases hm:s.size=0
  ·have:=hn.2 ⟨rfl,hm⟩
   subst this
   exact .inl rfl
  ·have tL:=run_append_nil_string (P:=Tryz.prog) w 42 9 ty 5 i (.int .u8 0) lY om hi h1 s (by omega) (by omega) (by rw[h3];omega)
   rw[hr]at tL
   cases tL
   exact .inr rfl
 ·by_cases hroom:n+s.size<=cap
  ·have tL:=run_append_room_string (P:=Tryz.prog) w 42 9 ty 5 i lY om hi h2 g n cap cur hgg s hroom (by omega)
   rw[hr]at tL
   cases tL
   exact .inl rfl
  ·have holds:∀j u,xs[j]? =some u->w.cell? ((⟨g,0,none⟩:Addr).add j)=some u:=hown.cells (g:=g) rfl
   have tL:=run_append_grow_string (P:=Tryz.prog) w 42 9 ty 5 i (.int .u8 0) lY om hi h1 ⟨g,0,none⟩ n cap xs (by rw[h2];simpa using nq) holds s (by omega) (by omega) (by rw[h3];exact growslice_fits (by omega) (by omega))
   rw[hr]at tL
   cases tL
   exact .inr rfl
theorem BS(ty:TypeId)(a:Option Addr)(n c:Nat)(l q:List UInt8)(S:HP)(hb:n+q.length<=140737488355328):
 aI Tryz.prog (wO 42 9 ty (.slice a n c) (sE q)) (HP.an (du a n c l) S)
  (λv=>HP.ex λa'=>HP.ex λc'=>HP.and (v=.slice a' (n+q.length) c') (HP.an (du a' (n+q.length) c' (l++q)) S)):=by
 rintro w R h F s ⟨x1,x2,d,l1,l2,⟨nq,hx⟩,hS⟩
 have hown:w.ownsRow 0 5 1 (.slice a n c) n (l.map fH):=by
  refine⟨nq,?_⟩
  rcases hx with⟨rfl,rfl,rfl⟩|⟨g,cur,rfl,hg,q⟩
  ·exact .inl ⟨rfl,rfl⟩
  ·exact .inr ⟨g,c,cur,rfl,Nat.zero_le _,s.oh _ _ (l1 _ _ hg),q⟩
 obtain⟨v',w',e7,ZQ,hg,sx,hblk⟩:=JA ty (.slice a n c) n (l.map fH) hown ⟨q.toArray⟩ hb
 rw[strCells_eq,<-List.map_append]at ZQ
 have hsz:(⟨q.toArray⟩:ByteArray).size=q.length:=rfl
 rw[hsz]at ZQ sx
 obtain⟨vS,hsh⟩:=ZQ
 have ZF:Same w w':=⟨hg.os,hg.tape,hg.output,hg.size⟩
 have s1:=s.cut d l1 l2
 have hdF:x2.dj F:=s.sn.le l2 (PH.le.refl _)
 rcases hsh with⟨rfl,h0⟩|⟨g',cap,cur,rfl,_,hcell,q1,q2,q3,q4⟩
 ·have hn0:n=0:=by omega
  have hm0:q.length=0:=by omega
  have e1:=sx.1 rfl
  cases e1.1
  have vT:∀k,k<w.heap.size->w'.heap[k]? =w.heap[k]? :=λk hk=>hg.block k hk (by simp[Value.ownBlock])
  have IC:∀g:PH,g.own w->g.own w':=λg og k y e=>by rw[vT k (og.lt e)];exact og k y e
  refine⟨_,_,w',by unfold wO sE;rw[Sem.run_bind,e7];rfl,rfl,ZF,R,x1.un x2,PH.le.refl _,⟨(PH.kK (s.qL.le (PH.le.refl _) l1).symm (s.qL.le (PH.le.refl _) l2).symm).symm,s.CL,PH.kK (s.sn.le l1 (PH.le.refl _)) hdF,IC _ s.oR,IC _ (s.oh.le (PH.Lv l1 l2)),IC _ s.oF,s.gl⟩,none,0,?_,x1,x2,d,PH.cC _ _,PH.ck d,?_,hS⟩
  ·rw[hn0,hm0]
  ·exact⟨vS,.inl ⟨rfl,by omega,rfl⟩⟩
 ·have s2:=Sat.grown s1 (row:=(Value.slice a n c).ownBlock) (λg hgr=>by
   rcases hx with⟨rfl,_⟩|⟨g0,agC,rfl,hg0,_⟩
   ·cases hgr
   ·cases hgr;rw[hg0];simp) hg hcell (by
    rcases hblk with e|e
    ·exact .inl e.symm
    ·cases e;exact .inr (Nat.le_refl _))
  obtain⟨s3,d3⟩:=s2.join hdF
  exact⟨_,_,w',by unfold wO sE;rw[Sem.run_bind,e7];rfl,rfl,ZF,R,_,PH.le.refl _,s3,some ⟨g',0,none⟩,cap,rfl,PH.one g' (.cells cur 5 (0,0)),x2,d3,PH.cC _ _,PH.ck d3,⟨vS,.inr ⟨g',cur,rfl,PH.cW _ _,q1,q2,q3,q4⟩⟩,hS⟩
theorem To{b:Nat}{p a a':Option Addr}{n c n' c':Nat}{l:List UInt8}{B:Value->HP}(hp:p=none\/p=some ⟨b,0,none⟩)(hn:n'=l.length)(post:∀R h,(iL b l).p R h->(B (.tuple #[])).p R h):
 aI Tryz.prog (bH 42 (.pointer (some ⟨b,1,none⟩)) (.slice a' n' c')) (HP.an (BC b p a n c) (du a' n' c' l)) B:=by
 subst hn
 refine((Tn (p:=p) (a:=a) (n:=n) (c:=c) a' l.length c').frame (du a' l.length c' l)).ak (λ_ _ h=>h) ?_
 rintro v R hh ⟨h1,h2,d,l1,l2,⟨rfl,hc⟩,ho⟩
 exact post _ _ ⟨p,a',c',hp,h1,h2,d,l1,l2,hc,ho⟩
theorem O5(b:Nat)(l:List UInt8)(x:UInt8)(hb:l.length<=100000):ax Tryz.prog 385 #[.pointer (some ⟨b,0,none⟩),.int .u8 x.toNat] (iL b l) (λv=>HP.and (v=.nilIface) (iL b (l++[x]))):=by
 refine ah (ρ:=[.v (.pointer (some ⟨b,0,none⟩)),.p (iL b l),.i x.toNat]) mixed Tryz.func385 uG ?_
 unfold rm
 simp only[T.den,E.prop,E.den,RX.look,F1.app,F2.app,aP.dH,aP.dP,aP.cr,aP.eQ,aP.e9,aP.fw,aP.ju,bg,dB,V.den,W.den,A.den,BR.den,SA.den,FV.den,iX,nF,nK,fj,g5.app,List.map_cons,List.map_nil,List.cons_append,List.nil_append,List.drop_succ_cons,List.drop_zero,List.length_cons,List.length_nil,Nat.zero_add,Nat.reduceAdd,Int.neg_neg,Bool.not_not,List.append_nil,Nat.add_zero,List.getElem?_cons_zero,List.getElem?_cons_succ,Decidable.not_not,cu,dg,cJ,gh,q9,ne_eq,Nat.reduceEqDiff,not_false_eq_true,dZ]
 refine(rv b l).ak (λ_ _ h=>h) ?_
 rintro v R h ⟨rfl,p,a,c,hp,H⟩
 refine⟨HP.an (BC b p a l.length c) (du a l.length c l),rfl,⟨b,gY,a,l.length,c,BP,λy=>?_⟩,H⟩
 clear H
 have ap:=kS a l.length c l (HP.one y (.cells #[.int .u8 x.toNat] 5 (0,0))) (some ⟨y,0,none⟩) 1 1 [x] ⟨dW y #[.int .u8 x.toNat] 5,λR h H hq=>by cases hq⟩ rfl (λ_=>rfl) (by omega)
 refine(ap.frame (BC b p a l.length c)).ak (λR h H=>?_) ?_
 ·exact HP.ao (HP.aq H)
 ·rintro v R h ⟨h1,h2,d,l1,l2,⟨a',c',rfl,H⟩,hBC⟩
  refine⟨a',l.length+1,c',du a' (l.length+1) c' (l++[x]),BC b p a l.length c,rfl,⟨b,gY,?_⟩,HP.pick [_,_,_] [0,2,1] (by decide) rfl (HP.aq ⟨h1,h2,d,l1,l2,H,hBC⟩)⟩
  exact To hp (by simp) λR h H=>⟨iL b (l++[x]),rfl,.of λR h H=>⟨trivial,H⟩,H⟩
theorem Fd(b:Nat)(l q:List UInt8)(hb:l.length+q.length<=100000):ax Tryz.prog 386 #[.pointer (some ⟨b,0,none⟩),sE q] (iL b l) (λv=>HP.and (v=.tuple #[.int .i64 q.length,.nilIface]) (iL b (l++q))):=by
 refine ah (ρ:=[.v (.pointer (some ⟨b,0,none⟩)),.p (iL b l),.s q]) mixed Tryz.func386 rq ?_
 unfold oo
 simp only[T.den,E.prop,E.den,RX.look,F1.app,F2.app,aP.dH,aP.dP,aP.cr,aP.eQ,aP.e9,aP.fw,aP.ju,bg,dB,V.den,W.den,A.den,BR.den,SA.den,FV.den,iX,nF,nK,fj,g5.app,List.map_cons,List.map_nil,List.cons_append,List.nil_append,List.drop_succ_cons,List.drop_zero,List.length_cons,List.length_nil,Nat.zero_add,Nat.reduceAdd,Int.neg_neg,Bool.not_not,List.append_nil,Nat.add_zero,List.getElem?_cons_zero,List.getElem?_cons_succ,Decidable.not_not,cu,dg,cJ,gh,q9,ne_eq,Nat.reduceEqDiff,not_false_eq_true,dZ]
 refine(rv b l).ak (λ_ _ h=>h) ?_
 rintro v R h ⟨rfl,p,a,c,hp,H⟩
 refine⟨HP.an (BC b p a l.length c) (du a l.length c l),rfl,⟨b,gY,a,l.length,c,BP,?_⟩,H⟩
 clear H
 rw[Fc (by decide)]
 refine(BS 42 a l.length c l q (BC b p a l.length c) (by omega)).ak (λ_ _ H=>HP.ao H) ?_
 rintro v R h ⟨a',c',rfl,H⟩
 refine⟨a',l.length+q.length,c',du a' (l.length+q.length) c' (l++q),BC b p a l.length c,rfl,⟨b,gY,?_⟩,H⟩
 exact To hp (by simp) λR h H=>⟨iL b (l++q),rfl,.of λR h H=>⟨trivial,H⟩,H⟩
def WY(ts:Array TypeId)(ty:TypeId)(x:Value):Sem Next:=do pure (.value (<-Builtin.unsafeSliceData_ ts ty #[x]))
theorem Fe{ts:Array TypeId}{ty:TypeId}{i:Nat}{x:Value}:bI (.call ⟨.builtin .unsafeSliceData,#[.tmp i],ts⟩) ty [(i,x)]=WY ts ty x:=by
 simp[bI,execOp,resolve,jR,invoke,builtin,WY]
def WZ(ts:Array TypeId)(ty:TypeId)(x y:Value):Sem Next:=do pure (.value (<-Builtin.unsafeString_ ts ty #[x,y]))
theorem Ff{ts:Array TypeId}{ty:TypeId}{i j:Nat}{x y:Value}(h:i≠j):bI (.call ⟨.builtin .unsafeString,#[.tmp i,.tmp j],ts⟩) ty [(i,x),(j,y)]=WZ ts ty x y:=by
 have h':(i==j)=false:=by simpa using h
 simp[bI,execOp,resolve,jR,invoke,builtin,h',WZ]
theorem Tp(ts:Array TypeId)(ty:TypeId)(g n c:Nat)(hc:c≠0)(A:HP):aI Tryz.prog (WY ts ty (.slice (some ⟨g,0,none⟩) n c)) A (λv=>HP.and (v=.pointer (some ⟨g,0,none⟩)) A):=
 aI.IF (v:=.pointer (some ⟨g,0,none⟩)) (λw R h F s a=>by
  unfold WY
  rw[Sem.run_bind,run_unsafeSliceData_row w ts ty ⟨g,0,none⟩ n c hc];rfl) λR h H=>⟨rfl,H⟩
theorem adA:Tryz.prog.underlying 436=some (.pointer 5):=by kernel_rfl
theorem aap:Tryz.prog.cellsOf 5=1:=by kernel_rfl
theorem rx{w:World}{g k n:Nat}(hk:k≠g):(w.freeze ⟨g,0,none⟩ n).heap[k]? =w.heap[k]? :=by
 unfold World.freeze
 split
 ·rfl
 ·simp only[Array.getElem?_modify]
  rw[if_neg (Ne.symm hk)]
theorem Fg(w:World)(g n:Nat):Same w (w.freeze ⟨g,0,none⟩ n):=by
 unfold World.freeze
 split
 ·exact Same.refl w
 ·exact⟨rfl,rfl,rfl,by simp⟩
theorem Tq(it ty:TypeId)(g c:Nat)(l:List UInt8)(h0:l≠[]):aI Tryz.prog (WZ #[436,it] ty (.pointer (some ⟨g,0,none⟩)) (.int .i64 l.length)) (du (some ⟨g,0,none⟩) l.length c l) (λv=>HP.and (v=sE l) HP.tt):=by
 rintro w R h F s ⟨hl,hx⟩
 rcases hx with⟨h1,_⟩|⟨g',cur,e,hg,q1,q2,q3,q4⟩
 ·cases h1
 cases e
 have hw:=s.oh _ _ hg
 have e7:=run_unsafeString_row (P:=Tryz.prog) w 436 it ty 5 adA aap g cur.size (by simp[World.shape?,hw]) l h0 (by omega) (by unfold maxLen at q2;omega) (λj x hj=>by
  rw[RX.addr_add,mJ hw]
  have:(cur.toList.take (l.length*1))[0+j]? =some (fH x):=by rw[q4];simp[hj]
  rw[List.getElem?_take]at this
  split at this
  ·simpa[fH]using this
  ·cases this)
 refine⟨.value (sE l),sE l,w.freeze ⟨g,0,none⟩ l.length,by unfold WZ;rw[Sem.run_bind,e7];rfl,rfl,Fg w g _,R,PH.cz,PH.le.refl _,⟨PH.gq _,s.CL,PH.dY _,?_,(by intro k o e;cases e),?_,s.gl⟩,rfl,trivial⟩
 ·intro k o hk
  have:k≠g:=λe=>by subst e;rcases s.qL k with h1|h1<;>simp_all
  rw[rx this];exact s.oR k o hk
 ·intro k o hk
  have:k≠g:=λe=>by subst e;rcases s.sn k with h1|h1<;>simp_all
  rw[rx this];exact s.oF k o hk
set_option maxHeartbeats 1000000 in
theorem JB(b:Nat)(l:List UInt8)(h0:l≠[]):ax Tryz.prog 387 #[.pointer (some ⟨b,0,none⟩)] (iL b l) (λv=>HP.and (v=sE l) HP.tt):=by
 refine ax.ex λp=>ax.ex λa=>ax.ex λc=>?_
 refine ax.ak (A:=HP.an (BC b p a l.length c) (du a l.length c l)) ?_ (λ_ _ h=>h.2) λ_ _ _ h=>h
 have hl:l.length≠0:=by simpa using h0
 refine ax.bV (φ:=(∃g,a=some ⟨g,0,none⟩)/\c≠0) (λR h H=>?_) ?_
 ·rcases(HP.ai H).2 with⟨_,h1,_⟩|⟨g,cur,rfl,_,h1,_⟩
  ·exact absurd h1 hl
  ·exact⟨⟨g,rfl⟩,by omega⟩
 rintro⟨⟨g,rfl⟩,hc⟩
 refine ah (ρ:=[.n b,.p (HP.an (BC b p (some ⟨g,0,none⟩) l.length c) (du (some ⟨g,0,none⟩) l.length c l))]) mixed Tryz.func387 BO ?_
 unfold zE
 refine cg ?_
 have ld:∀K:HP,aH Tryz.prog (bG 42 (.pointer (some ⟨b,1,none⟩))) (HP.an (BC b p (some ⟨g,0,none⟩) l.length c) K) (.slice (some ⟨g,0,none⟩) l.length c):=λK=>BP
 have YD:aH Tryz.prog (bG 42 (.pointer (some ⟨b,1,none⟩))) (BC b p (some ⟨g,0,none⟩) l.length c) (.slice (some ⟨g,0,none⟩) l.length c):=(ld HP.tt).imp λ_ _ H=>HP.az H
 refine⟨λs P=>s=l,⟨some ⟨g,0,none⟩,l.length,c,ld _,?_,some ⟨g,0,none⟩,l.length,c,ld _,?_⟩,?_⟩
 ·rw[Fe]
  refine(Tp _ _ g l.length c hc (HP.an (BC b p (some ⟨g,0,none⟩) l.length c) (du (some ⟨g,0,none⟩) l.length c l))).ak (λ_ _ h=>h) ?_
  rintro v R h ⟨rfl,H⟩
  refine⟨g,du (some ⟨g,0,none⟩) l.length c l,BC b p (some ⟨g,0,none⟩) l.length c,rfl,⟨some ⟨g,0,none⟩,l.length,c,YD,?_⟩,HP.ao H⟩
  rw[Ff (by decide)]
  refine(Tq _ _ g c l h0).ak (λ_ _ h=>h) ?_
  rintro v R h ⟨rfl,H⟩
  exact⟨l,HP.tt,rfl,by simp[RX.look],H⟩
 ·rw[Fe]
  refine(Tp _ _ g l.length c hc (HP.an (BC b p (some ⟨g,0,none⟩) l.length c) (du (some ⟨g,0,none⟩) l.length c l))).ak (λ_ _ h=>h) ?_
  rintro v R h ⟨rfl,H⟩
  refine⟨g,du (some ⟨g,0,none⟩) l.length c l,BC b p (some ⟨g,0,none⟩) l.length c,rfl,?_,HP.ao H⟩
  rw[Ff (by decide)]
  refine(Tq _ _ g c l h0).ak (λ_ _ h=>h) ?_
  rintro v R h ⟨rfl,H⟩
  exact⟨l,HP.tt,rfl,by simp[RX.look],H⟩
 ·rintro s P rfl
  exact .of λR h H=>⟨rfl,trivial⟩
end
section
open RX
def cV(s:List UInt8):Bool:=decide (1<=s.length)&&decide (s.length<=16)&&decide (s≠[46])&&decide (s≠[46,46])&&decide ((47:UInt8)∉s)&&decide ((0:UInt8)∉s)
def bN(s:List UInt8):Option (List (List UInt8)):=
 if s=[47]then some []else match s with
 |b::r=>if b=47 then(let l:=bC 47 r;if l.length<=8/\l.all cV=true then some l else none)else none
 |[]=>none
def fA(l:List (List UInt8)):List UInt8:=l.flatMap λx=>47::x
def t7(l:List (List UInt8)):List UInt8:=if l=[]then[47]else fA l
theorem t8(c:UInt8):∀s:List UInt8,(bC c s).flatMap (λx=>c::x)=c::s
 |[]=>rfl
 |b::r=>by
  have ih:=t8 c r
  unfold bC
  by_cases h:b=c
  ·subst h;rw[if_pos rfl];simp[ih]
  ·rw[if_neg h]
   cases hq:bC c r with
   |nil=>rw[hq]at ih;simp at ih
   |cons x q=>rw[hq]at ih;simp at ih⊢;exact ih
theorem Tr(s:List UInt8)(Q:HP):ax Tryz.prog 240 #[sE s] Q (λv=>HP.and (v=.bool (cV s)) Q):=by
 refine(show ax Tryz.prog 240 #[sE s] HP.tt (λv=>HP.and (v=.bool (cV s)) HP.tt)from ?_).be (K:=Q) (.of λR h H=>HP.aM H) λv=>.of λR h ⟨h1,h2,d,l1,l2,⟨e,_⟩,H⟩=>⟨e,Q.mono (PH.le.refl _) l2 H⟩
 refine ah (ρ:=[.s s]) mixed Tryz.func240 Jw ?_
 unfold MG
 refine cg ?_
 refine⟨λh=>.of λR h' H=>⟨?_,trivial⟩,λh1=>⟨λh=>.of λR h' H=>⟨?_,trivial⟩,λh2=>⟨λh=>.of λR h' H=>⟨?_,trivial⟩,λh3=>⟨λh=>.of λR h' H=>⟨?_,trivial⟩,λh4=>?_⟩⟩⟩⟩
 ·have:¬(1<=s.length):=by omega
  simp[cV,this]
 ·have:¬(s.length<=16):=by omega
  simp[cV,this]
 ·simp[cV,h]
 ·simp[cV,h]
 refine(rl s 47 HP.tt).ak (λ_ _ h=>h) ?_
 rintro v R h ⟨rfl,H⟩
 refine⟨Lib.indexByte s 47,rfl,⟨λhlt=>?_,λlN=>.of λR h H=>⟨?_,trivial⟩⟩,H⟩
 ·refine(rl s 0 HP.tt).ak (λ_ _ h=>h) ?_
  rintro v R h ⟨rfl,H⟩
  refine⟨Lib.indexByte s 0,rfl,.of λR h H=>⟨?_,trivial⟩,H⟩
  have e1:(47:UInt8)∉s:=oe.1 hlt
  have q1:1<=s.length:=by omega
  have q2:s.length<=16:=by omega
  simp only[cV,q1,q2,h3,h4,e1,ne_eq,not_false_eq_true,decide_true,Bool.and_self,Bool.true_and,Value.bool.injEq]
  rw[decide_eq_decide]
  exact oe
 ·have e1:(47:UInt8)∈s:=Classical.byContradiction λh=>lN (oe.2 h)
  simp[cV,e1]
theorem wP(s:List UInt8)(lo hi:Option Nat)(h1:lo.getD 0<=hi.getD s.length)(h2:hi.getD s.length<=s.length)(Q:HP):
 aH Tryz.prog (je 9 (sE s) (iv lo) (iv hi) none) Q (sE ((s.take (hi.getD s.length)).drop (lo.getD 0))):=λw R h F st a=>by
 have e:(⟨s.toArray⟩:ByteArray).extract (lo.getD 0) (hi.getD s.length)=⟨((s.take (hi.getD s.length)).drop (lo.getD 0)).toArray⟩:=by
  have:((⟨s.toArray⟩:ByteArray).extract (lo.getD 0) (hi.getD s.length)).data=(((s.take (hi.getD s.length)).drop (lo.getD 0)).toArray):=by
   rw[ByteArray.data_extract]
   apply Array.ext'
   simp[List.drop_take]
  cases hq:(⟨s.toArray⟩:ByteArray).extract (lo.getD 0) (hi.getD s.length)
  rw[hq]at this
  simp only at this
  rw[this]
 have hs:(⟨s.toArray⟩:ByteArray).size=s.length:=rfl
 unfold je Instr.sliceAt Instr.slice sE
 cases lo<;>cases hi<;>simp only[Option.getD_some,Option.getD_none]at h1 h2 e⊢ <;>simp[iv,RX.run_underlying om,Instr.sliceBounds,hs,lW,h1,h2,e]
theorem MI{α:Type}{l:List α}{k:Nat}(h:l.length=k)(x y:α)(r:List α):(l++y::r).set k x=l++x::r:=by
 subst h;simp[List.set_append]
theorem MJ{t e:TypeId}{i:TypeInfo}(ht:Tryz.prog.underlying t=some (.slice e))(hi:Tryz.prog.info? e=some i)(S:HP)(a:Option Addr)(n c k:Nat)(hk:k<=n)(hn:n<=c):
 aH Tryz.prog (je t (.slice a n c) none (some (.int .i64 k)) none) S (.slice a k c):=by
 have:=dC ht hi S a n c none (some k) none (Nat.zero_le _) (by simp;omega) (Nat.le_refl _) (λh=>by cases h)
 have e1:(a.map λx=>x.add 0)=a:=by cases a<;>simp[Addr.add_zero']
 simpa[iv,e1]using this
theorem jN(x:Int)(h1: -9223372036854775808<=x)(h2:x<=9223372036854775807):IntKind.i64.min<=x/\x<=IntKind.i64.max:=⟨h1,h2⟩
theorem Fh{a:Option Addr}{n c:Nat}{l:List (List UInt8)}{k:Nat}(x:List UInt8)(hk:k<n){P:HP}(hP:HP.aV P (tX a n c l)){B:Value->HP}(post:∀R h,(tX a n c (l.set k x)).p R h->(B (.tuple #[])).p R h):
 aI Tryz.prog (bH 9 (.pointer (a.map λy=>(y.add (k*1)).add 0)) (sE x)) P B:=by
 obtain⟨i,hi,h1,h2,h3⟩:=info_parts u3
 have:=lX (t:=9) hi 9 1 a n c (l.map sE) (k*1) 0 (sE x) [sE x] rfl (by rw[h2];rfl) (by simp) (by simp[sE,Value.oneCell']) (by simp;omega)
 refine(aI.bV (φ:=l.length=n) (λR h H=>by have:=H.1;simpa using this) λhl=>?_:aI _ _ (tX a n c l) B).be (K:=HP.tt) (hP.trans (.of λR h H=>HP.az H)) λv=>.of λR h H=>HP.aj H
 refine this.ak (λ_ _ h=>h) ?_
 rintro v R h ⟨rfl,H⟩
 refine post R h ?_
 have e:(l.map sE).take (k*1+0)++[sE x]++(l.map sE).drop (k*1+0+[sE x].length)=(l.set k x).map sE:=by
  rw[List.map_set,List.set_eq_take_append_cons_drop,if_pos (by simp;omega)]
  simp
 rw[e]at H
 exact H
set_option maxHeartbeats 1000000 in
theorem Fi(s:List UInt8)(hs:s.length<=1000):ax Tryz.prog 295 #[sE s,sE [47],.int .i64 0,.int .i64 (-1)] HP.tt (λv=>HP.ex λa=>HP.ex λc=>HP.and (v=.slice a (bC 47 s).length c) (tX a (bC 47 s).length c (bC 47 s))):=by
 refine ah (ρ:=[.s s,.s [47],.i 0,.i (-1)]) mixed Tryz.func295 wM ?_
 unfold tZ
 refine cg ?_
 have hlen:=wL 47 s
 have R8:s.count 47<=s.length:=List.count_le_length
 refine⟨λh=>absurd h (by decide),λ_=>⟨λh=>absurd h (by decide),λ_=>⟨λ_=>?_,λh=>absurd h (by decide)⟩⟩⟩
 refine(O3 s 47 HP.tt).ak (λ_ _ h=>h) ?_
 rintro v R h ⟨rfl,H⟩
 refine⟨s.count 47,rfl,⟨jN _ (by omega) (by omega),λ_=>⟨jN _ (by omega) (by omega),λ_=>?_⟩⟩,H⟩
 clear H
 rw[Bf]
 generalize hN:s.count 47=N at*
 have ag8:min ((N:Int)+1) ((s.length:Int)+1)=((N+1:Nat):Int):=by omega
 simp only[ag8]
 obtain⟨i0,hi0,z1,z2,z3⟩:=info_parts u3
 refine(St E6 hi0 z1 rfl z2 (N+1) (by rw[z3];omega) (by unfold maxLen;omega) HP.tt).ak (λ_ _ h=>h) ?_
 rintro v R h ⟨x,rfl,H⟩
 refine⟨some ⟨x,0,none⟩,N+1,N+1,tX (some ⟨x,0,none⟩) (N+1) (N+1) (List.replicate (N+1) []),rfl,⟨jN _ (by omega) (by omega),λ_=>?_⟩,?_⟩
 ·clear H
  refine⟨λs' i P=>∃(k:Nat) (done:List (List UInt8)),i=k/\k<=N/\done.length=k/\bC 47 s=done++bC 47 s'/\s'.count 47=N - k/\s'.length<=1000/\HP.aV P (tX (some ⟨x,0,none⟩) (N+1) (N+1) (done++List.replicate (N+1 - k) [])),
   λ_ i _=>N - i.toNat,⟨0,[],rfl,Nat.zero_le _,rfl,rfl,by omega,hs,.refl _⟩,?_⟩
  rintro s' _ P ⟨k,done,rfl,hk,hd,hsp,hc,qK,hP⟩
  refine⟨λhlt=>?_,λlN=>?_⟩
  ·refine(O4 s' 47 HP.tt).ak (λ_ _ h=>h) ?_
   rintro v R h ⟨rfl,H⟩
   refine⟨Lib.indexByte s' 47,rfl,⟨λag9=>?_,λhnn=>?_⟩,H⟩
   ·have:=MF ag9;omega
   ·clear H
    obtain⟨o,ho⟩:∃o:Nat,Lib.indexByte s' 47=o:=⟨_,(Int.toNat_of_nonneg (by omega)).symm⟩
    rw[ho]
    obtain⟨q1,q2,q3⟩:=zA ho
    simp only[Int.add_zero,Int.toNat_natCast]
    refine⟨jN _ (by omega) (by omega),λ_=>⟨s'.take o,wP s' none (some o) (Nat.zero_le _) (by simp;omega) HP.tt,by omega,λ_=>⟨by omega,λ_=>⟨rfl,λ_=>?_⟩⟩⟩⟩
    refine Fh (k:=k) (s'.take o) (by omega) hP λR h H=>?_
    refine⟨_,rfl,⟨jN _ (by simp;omega) (by simp;omega),λ_=>⟨s'.drop (o+1),?_,jN _ (by omega) (by omega),λ_=>?_⟩⟩,H⟩
    ·have:=wP s' (some (o+1)) none (by simp;omega) (by simp) HP.tt
     simp only[Option.getD_none,List.take_length]at this
     exact this
    ·refine⟨⟨k+1,done++[s'.take o],by omega,by omega,by simp[hd],by rw[hsp,q1];simp,by omega,by simp;omega,.of λR h H=>?_⟩,by first|omega|(dsimp only;omega)⟩
     have e:(done++List.replicate (N+1 - k) []).set k (s'.take o)=done++[s'.take o]++List.replicate (N+1 - (k+1)) []:=by
      obtain⟨m,hm⟩:∃m,N+1 - k=m+1:=⟨N - k,by omega⟩
      rw[hm,show N+1 - (k+1)=m by omega,List.replicate_succ,MI hd]
      simp
     rw[<-e];exact H
  ·obtain rfl:k=N:=by omega
   have h0:s'.count 47=0:=by omega
   rw[od h0]at hsp
   simp only[Int.toNat_natCast]
   refine⟨by omega,λ_=>⟨by omega,λ_=>⟨rfl,λ_=>?_⟩⟩⟩
   refine Fh (k:=k) s' (by omega) hP λR h H=>?_
   refine⟨_,rfl,⟨jN _ (by omega) (by omega),λ_=>⟨some ⟨x,0,none⟩,k+1,k+1,?_,.of λR h H=>?_⟩⟩,H⟩
   ·exact MJ E6 hi0 _ _ _ _ (k+1) (Nat.le_refl _) (Nat.le_refl _)
   ·have e:(done++List.replicate (k+1 - k) []).set k s'=bC 47 s:=by
     rw[hsp,show k+1 - k=1 by omega];exact MI hd s' [] []
    rw[e]at H
    exact⟨some ⟨x,0,none⟩,k+1,by rw[hlen],by rw[hlen];exact H⟩
 ·have e:(List.replicate (N+1) (Value.string ByteArray.empty))=(List.replicate (N+1) ([]:List UInt8)).map sE:=by
   rw[List.map_replicate];rfl
  rw[e]at H
  exact HP.aj H
theorem O6(s:List UInt8)(hs:s.length<=1000):ax Tryz.prog 238 #[sE s,sE [47]] HP.tt (λv=>HP.ex λa=>HP.ex λc=>HP.and (v=.slice a (bC 47 s).length c) (tX a (bC 47 s).length c (bC 47 s))):=by
 refine ah (ρ:=[.s s,.s [47]]) mixed Tryz.func238 Fa ?_
 unfold E9
 refine cg ?_
 refine(Fi s hs).ak (λ_ _ _=>trivial) ?_
 rintro v R h ⟨a,c,rfl,H⟩
 exact⟨a,_,c,tX a (bC 47 s).length c (bC 47 s),rfl,.of λR h H=>⟨a,c,rfl,H⟩,H⟩
theorem ry{S:HP}{a:Option Addr}{l:List (List UInt8)}{k:Nat}{x:List UInt8}(r:Rd S a (l.map sE))(hk:l[k]? =some x):
 aH Tryz.prog (bG 9 (.pointer (a.map λy=>(y.add (k*1)).add 0))) S (sE x):=
 b7 om aan adx r (k:=k*1) (off:=0) (by simp[hk])
set_option maxHeartbeats 1000000 in
theorem JC(S:HP)(a:Option Addr)(n c:Nat)(l:List (List UInt8))(hr:bR S a n (l.map sE))(hl:l.length=n)(hn:n<=100000)(fv:Value)(h1:dZ fv=fv)(p:List UInt8->Bool)
 (hf:∀x,iu Tryz.prog fv #[sE x] HP.tt λv=>HP.and (v=.bool (p x)) HP.tt):
 ax Tryz.prog 297 #[.slice a n c,fv] S (λv=>HP.ex λr:Int=>HP.and (v=.int .i64 r/\(0<=r↔l.any p=true)) S):=by
 refine ax.be (K:=HP.tt) (A:=HP.an S HP.tt) (B:=λv=>HP.ex λr:Int=>HP.and (v=.int .i64 r/\(0<=r↔l.any p=true)) (HP.an S HP.tt)) ?_ (.of λR h H=>HP.az (HP.az H)) λv=>.of λR h H=>by
  obtain⟨r,e,H⟩:=HP.aj H
  exact⟨r,e,HP.aj H⟩
 refine ax.bV (φ:=a=none->n=0) (λR h H=>hr.none R _ (HP.aj H)) λsx=>?_
 have:=ah (ρ:=[.a a,.n n,.n c,.p S,.v fv,.p HP.tt]) mixed Tryz.func297 (t:=sR) (post:=λv=>HP.ex λr:Int=>HP.and (v=.int .i64 r/\(0<=r↔l.any p=true)) (HP.an S HP.tt)) BM ?_
 ·simpa[W.den,RX.A.den,SA.den,E.den,RX.look,h1,bg,dB]using this
 unfold sR
 refine cg ?_
 refine⟨λ_ i P=>∃k:Nat,i=k/\k<=n/\P=HP.tt/\∀q x,q<k->l[q]? =some x->p x=false,λ_ i _=>n - i.toNat,⟨0,rfl,Nat.zero_le _,rfl,λq x h=>by omega⟩,?_⟩
 rintro _ _ _ ⟨k,rfl,hk,rfl,hall⟩
 refine⟨λhlt=>⟨by omega,λ_=>⟨?_,λ_=>?_⟩⟩,λlN=>.of λR h H=>⟨-1,⟨rfl,?_⟩,H⟩⟩
 ·cases a with
  |none=>have:=sx rfl;omega
  |some _=>rfl
 ·have kW:k<l.length:=by omega
  refine⟨l[k],ry hr.rd (List.getElem?_eq_getElem kW),?_⟩
  refine(hf l[k]).ak (λ_ _ _=>trivial) ?_
  rintro v R h ⟨rfl,H⟩
  refine⟨p l[k],HP.tt,rfl,⟨λhp=>.of λR h H=>⟨k,⟨rfl,?_⟩,H⟩,λhp=>⟨jN _ (by omega) (by omega),λ_=>⟨⟨k+1,by omega,by omega,rfl,λq x hq hx=>?_⟩,by first|omega|(dsimp only;omega)⟩⟩⟩,H⟩
  ·refine⟨λ_=>List.any_eq_true.2 ⟨l[k],List.getElem_mem kW,hp⟩,λ_=>by omega⟩
  ·rcases Nat.lt_or_ge q k with h|h
   ·exact hall q x h hx
   ·obtain rfl:q=k:=by omega
    rw[List.getElem?_eq_getElem kW]at hx
    cases hx
    simpa using hp
 ·refine⟨λh=>by omega,λh=>?_⟩
  obtain⟨x,hx,hp⟩:=List.any_eq_true.1 h
  obtain⟨q,hq,rfl⟩:=List.mem_iff_getElem.1 hx
  have:=hall q l[q] (by omega) (List.getElem?_eq_getElem hq)
  rw[hp]at this;cases this
theorem yl(S:HP)(a:Option Addr)(n c:Nat)(l:List (List UInt8))(hr:bR S a n (l.map sE))(hl:l.length=n)(hn:n<=100000)(fv:Value)(h1:dZ fv=fv)(p:List UInt8->Bool)
 (hf:∀x,iu Tryz.prog fv #[sE x] HP.tt λv=>HP.and (v=.bool (p x)) HP.tt):
 ax Tryz.prog 241 #[.slice a n c,fv] S (λv=>HP.and (v=.bool (l.any p)) S):=by
 refine ax.be (K:=HP.tt) (A:=HP.an S HP.tt) (B:=λv=>HP.and (v=.bool (l.any p)) (HP.an S HP.tt)) ?_ (.of λR h H=>HP.az (HP.az H)) λv=>.of λR h H=>by
  obtain⟨e,H⟩:=HP.aj H
  exact⟨e,HP.aj H⟩
 have:=ah (ρ:=[.a a,.n n,.n c,.p S,.v fv,.p HP.tt]) mixed Tryz.func241 (t:=mU) (post:=λv=>HP.and (v=.bool (l.any p)) (HP.an S HP.tt)) uF ?_
 ·simpa[W.den,RX.A.den,SA.den,E.den,RX.look,h1,bg,dB]using this
 unfold mU
 simp only[T.den,E.prop,E.den,RX.look,F1.app,F2.app,aP.dH,aP.dP,aP.cr,aP.eQ,aP.e9,aP.fw,aP.ju,bg,dB,V.den,W.den,A.den,BR.den,SA.den,FV.den,iX,nF,nK,fj,g5.app,List.map_cons,List.map_nil,List.cons_append,List.nil_append,List.drop_succ_cons,List.drop_zero,List.length_cons,List.length_nil,Nat.zero_add,Nat.reduceAdd,Int.neg_neg,Bool.not_not,List.append_nil,Nat.add_zero,List.getElem?_cons_zero,List.getElem?_cons_succ,Decidable.not_not,cu,ne_eq,Nat.reduceEqDiff,not_false_eq_true,h1]
 refine((JC S a n c l hr hl hn fv h1 p hf).frame HP.tt).ak (λ_ _ h=>h) ?_
 rintro v R h ⟨x1,x2,d,l1,l2,⟨r,⟨rfl,tL⟩,H⟩,H2⟩
 refine⟨r,rfl,.of λR h H=>⟨?_,H⟩,x1,x2,d,l1,l2,H,H2⟩
 congr 1
 cases hq:l.any p
 ·rw[hq]at tL;simp at tL⊢;omega
 ·rw[hq]at tL;simp at tL⊢;omega
theorem aaq(x:List UInt8):iu Tryz.prog (.func (.func 239) #[] #[]) #[sE x] HP.tt λv=>HP.and (v=.bool (!cV x)) HP.tt:=by
 refine .inl ⟨239,#[],rfl,⟨_,Tryz.func239,by kernel_rfl,by kernel_rfl⟩,?_⟩
 refine ah (ρ:=[.s x]) mixed Tryz.func239 BL ?_
 unfold zB
 refine cg ?_
 refine(Tr x HP.tt).ak (λ_ _ h=>h) ?_
 rintro v R h ⟨rfl,H⟩
 exact⟨cV x,rfl,.of λR h H=>⟨rfl,H⟩,H⟩
theorem jj{s:List UInt8}{l:List (List UInt8)}(h:bN s=some l):l.length<=8/\∀x∈l,cV x=true:=by
 unfold bN at h
 split at h
 ·cases h;simp
 ·split at h
  ·split at h
   ·simp only at h
    split at h
    ·rename_i hq
     cases h
     exact⟨hq.1,λx hx=>List.all_eq_true.1 hq.2 x hx⟩
    ·cases h
   ·cases h
  ·cases h
theorem wQ{x:List UInt8}(h:cV x=true):1<=x.length/\x.length<=16:=by
 simp only[cV,Bool.and_eq_true,decide_eq_true_eq]at h
 exact⟨h.1.1.1.1.1,h.1.1.1.1.2⟩
theorem sV:∀ {l:List (List UInt8)},(∀x∈l,cV x=true)->(fA l).length<=17*l.length
 |[],_=>by simp[fA]
 |x::r,h=>by
  have h1:=wQ (h x (by simp))
  have ih:=sV (l:=r) λy hy=>h y (by simp[hy])
  simp only[fA,List.flatMap_cons,List.length_append,List.length_cons]at ih⊢
  omega
set_option maxHeartbeats 1000000 in
theorem sW(s:List UInt8):ax Tryz.prog 188 #[sE s] HP.tt (λv=>HP.ex λa=>HP.ex λc=>HP.and (v=.tuple #[.slice a ((bN s).getD []).length c,.int .i64 (if(bN s).isSome then 0 else 20)]) (tX a ((bN s).getD []).length c ((bN s).getD []))):=by
 refine ah (ρ:=[.s s]) mixed Tryz.func188 E8 ?_
 unfold E7
 refine cg ?_
 have bad:∀R h,bN s=none->(HP.ex λa=>HP.ex λc=>HP.and ((Value.tuple #[.slice none 0 0,.int .i64 20])=.tuple #[.slice a ((bN s).getD []).length c,.int .i64 (if(bN s).isSome then 0 else 20)]) (tX a ((bN s).getD []).length c ((bN s).getD []))).p R h:=λR h e=>by
  rw[e];exact⟨none,0,rfl,cp.nil _ _ R h⟩
 refine⟨λh=>.of λR h' H=>?_,λh1=>⟨λh=>.of λR h' H=>bad R h' ?_,λh2=>?_⟩⟩
 ·have e:bN s=some []:=by unfold bN;rw[if_pos h]
  rw[e];exact⟨none,0,rfl,cp.nil _ _ R h'⟩
 ·cases e:bN s with
  |none=>rfl
  |some l=>
   exfalso
   obtain⟨q1,q2⟩:=jj e
   have q3:=sV q2
   unfold bN at e
   rw[if_neg h1]at e
   split at e
   ·split at e
    ·rename_i b r hb
     simp only at e
     split at e
     ·cases e
      have:=t8 47 r
      unfold fA at q3
      rw[this]at q3
      simp at h q3 q1
      omega
     ·cases e
    ·cases e
   ·cases e
 refine(BK s [47] HP.tt).ak (λ_ _ h=>h) ?_
 rintro v R h ⟨rfl,H⟩
 refine⟨([47]:List UInt8).isPrefixOf s,rfl,⟨λhp=>.of λR h H=>bad R h ?_,λhp=>?_⟩,H⟩
 ·unfold bN
  rw[if_neg h1]
  cases s with
  |nil=>rfl
  |cons b r=>
   have:¬b=47:=λe=>by subst e;simp at hp
   simp only[this,if_false]
 ·clear H
  obtain⟨r,rfl⟩:∃r,s=47::r:=by
   cases s with
   |nil=>simp at hp
   |cons b r=>
    have:b=47:=by
     simp[List.isPrefixOf]at hp;exact hp.symm
    exact⟨r,by rw[this]⟩
  have hl:r.length<=1000:=by simp at h2;omega
  have hsl:=wP (47::r) (some 1) none (by simp) (by simp) HP.tt
  simp only[Option.getD_some,Option.getD_none,List.take_length,List.drop_succ_cons,List.drop_zero]at hsl
  refine⟨r,hsl,?_⟩
  refine(O6 r hl).ak (λ_ _ h=>h) ?_
  rintro v R h ⟨a,c,rfl,H⟩
  have es:bN (47::r)=if(bC 47 r).length<=8/\(bC 47 r).all cV=true then some (bC 47 r)else none:=by
   unfold bN;rw[if_neg h1];simp
  refine⟨a,_,c,tX a (bC 47 r).length c (bC 47 r),rfl,⟨λh8=>.of λR h H=>bad R h ?_,λh8=>?_⟩,H⟩
  ·rw[es,if_neg (λq=>by omega)]
  clear H
  refine ax.bV (φ:=a=none->(bC 47 r).length=0) (λR h H=>(bR.ow _ _ _ _ _ _).none R h H) λsx=>?_
  refine(yl (tX a (bC 47 r).length c (bC 47 r)) a _ c (bC 47 r) (bR.ow _ _ _ _ _ _) rfl (by omega) (.func (.func 239) #[] #[]) rfl (λx=> !cV x) aaq).ak (λ_ _ h=>h) ?_
  rintro v R h ⟨rfl,H⟩
  refine⟨(bC 47 r).any λx=> !cV x,rfl,⟨λhb=>.of λR h H=>bad R h ?_,λhb=>.of λR h H=>?_⟩,H⟩
  ·rw[es,if_neg]
   rintro⟨_,q⟩
   obtain⟨x,hx,S4⟩:=List.any_eq_true.1 hb
   rw[List.all_eq_true.1 q x hx]at S4
   cases S4
  ·have e:bN (47::r)=some (bC 47 r):=by
    have hall:(bC 47 r).all cV=true:=List.all_eq_true.2 λx hx=>by
     cases hq:cV x with
     |true=>rfl
     |false=>exact absurd (List.any_eq_true.2 ⟨x,hx,by simp[hq]⟩) hb
    rw[es,if_pos ⟨by omega,hall⟩]
   rw[e]
   exact⟨a,c,rfl,H⟩
theorem O7(l:List (List UInt8))(x:List UInt8):fA (l++[x])=fA l++[47]++x:=by simp[fA]
set_option maxHeartbeats 1000000 in
theorem Ts(S:HP)(a:Option Addr)(n c:Nat)(l:List (List UInt8))(hr:bR S a n (l.map sE))(hl:l.length=n)(hn:n<=8)(hok:∀x∈l,cV x=true):
 ax Tryz.prog 384 #[.slice a n c] S (λv=>HP.and (v=sE (t7 l)) S):=by
 refine ax.bV (φ:=a=none->n=0) (λR h H=>hr.none R _ H) λsx=>?_
 refine ah (ρ:=[.a a,.n n,.n c,.p S]) mixed Tryz.func384 Jy ?_
 unfold MH
 refine cg ?_
 refine⟨λh=>.of λR h' H=>⟨?_,H⟩,λh0 b=>?_⟩
 ·have:l=[]:=List.eq_nil_of_length_eq_zero (by omega)
  rw[this];rfl
 have hne:l≠[]:=λe=>by subst e;simp at hl;omega
 have adB:∀k,k<=n->(fA (l.take k)).length<=17*k:=λk hk=>by
  have:=sV (l:=l.take k) λx hx=>hok x (List.mem_of_mem_take hx)
  rw[List.length_take]at this;omega
 refine⟨λi P=>∃k:Nat,i=k/\k<=n/\HP.aV P (iL b (fA (l.take k))),λi _=>n - i.toNat,⟨0,rfl,Nat.zero_le _,.of λR h H=>iL.new b H⟩,?_⟩
 rintro _ P ⟨k,rfl,hk,hP⟩
 refine⟨λhlt=>⟨by omega,λ_=>⟨?_,λ_=>?_⟩⟩,λlN=>?_⟩
 ·cases a with
  |none=>have:=sx rfl;omega
  |some _=>rfl
 ·have kW:k<l.length:=by omega
  have hx:=wQ (hok l[k] (List.getElem_mem kW))
  have hb:=adB k hk
  refine⟨l[k],ry hr.rd (List.getElem?_eq_getElem kW),?_⟩
  refine(O5 b (fA (l.take k)) 47 (by omega)).be (K:=HP.tt) (hP.trans (.of λR h H=>HP.az H)) λv=>.of λR h H=>?_
  obtain⟨rfl,H1⟩:=HP.aj H
  refine⟨.nilIface,HP.tt,iL b (fA (l.take k)++[47]),rfl,?_,HP.aM H1⟩
  clear H H1
  refine(Fd b (fA (l.take k)++[47]) l[k] (by simp;omega)).ak (λ_ _ h=>h) ?_
  rintro v R h ⟨rfl,H⟩
  refine⟨l[k].length,.nilIface,HP.tt,iL b (fA (l.take k)++[47]++l[k]),rfl,⟨jN _ (by omega) (by omega),λ_=>⟨⟨k+1,by omega,by omega,.of λR h H=>?_⟩,by first|omega|(dsimp only;omega)⟩⟩,HP.aM H⟩
  rw[List.take_succ_eq_append_getElem kW,O7]
  exact H
 ·obtain rfl:k=n:=by omega
  rw[List.take_of_length_le (by omega)]at hP
  have hj:fA l≠[]:=by
   cases l with
   |nil=>exact absurd rfl hne
   |cons x r=>simp[fA]
  refine(JB b (fA l) hj).be (K:=HP.tt) (hP.trans (.of λR h H=>HP.az H)) λv=>.of λR h H=>?_
  obtain⟨rfl,H1⟩:=HP.aj H
  refine⟨fA l,HP.tt,rfl,.of λR h H=>⟨?_,H⟩,H1⟩
  simp[t7,hne,sE]
theorem bR.cut{S:HP}{a:Option Addr}{n k:Nat}{xs:List Value}(r:bR S a n xs)(hk:k<=n):bR S a k (xs.take k):=
 ⟨λw R h F s H j u hj=>r.rd w R h F s H j u (by
   rw[List.getElem?_take]at hj
   split at hj
   ·exact hj
   ·cases hj),λR h H e=>by have:=r.none R h H e;omega⟩
set_option maxHeartbeats 1000000 in
theorem JD(s:List UInt8):ax Tryz.prog 382 #[sE s] HP.tt (λv=>HP.pure (v=match bN s with
 |some (x::r)=>.tuple #[sE (t7 (x::r).dropLast),sE ((x::r).getLast (by simp)),.int .i64 0]
 |_=>.tuple #[sE [],sE [],.int .i64 20])):=by
 refine ah (ρ:=[.s s]) mixed Tryz.func382 BN ?_
 unfold zD
 refine cg ?_
 refine(sW s).ak (λ_ _ h=>h) ?_
 rintro v R h ⟨a,c,rfl,H⟩
 have oq:((bN s).getD []).length≠0->a.isSome=true:=λhn=>cp.some H (by omega)
 have hle:((bN s).getD []).length<=c:=cp.le H
 refine⟨a,_,c,tX a ((bN s).getD []).length c ((bN s).getD []),_,rfl,?_,H⟩
 clear H
 cases hs:bN s with
 |none=>exact⟨λ_=>.of λR h H=>rfl,λh=>by simp at h⟩
 |some l=>
  refine⟨λh=>absurd (by rfl) h,λ_=>⟨λh=>.of λR h' H=>?_,λh0=>?_⟩⟩
  ·simp at h
   subst h;rfl
  rw[hs]at oq hle
  simp only[Option.getD_some]at h0 oq hle⊢
  obtain⟨hl8,hok⟩:=jj hs
  have hlen:0<l.length:=by omega
  obtain⟨i,hi,_⟩:=info_parts u3
  obtain⟨m,hm⟩:∃m:Nat,l.length=m+1:=⟨l.length - 1,by omega⟩
  have e1:(l.length:Int) - 1=(m:Nat):=by omega
  have rd:bR (tX a l.length c l) a l.length (l.map sE):=bR.ow _ _ _ _ _ _
  have hg:l[m]? =some (l.getLast (by intro e;subst e;simp at hlen)):=by
   rw[List.getLast_eq_getElem,List.getElem?_eq_getElem (by omega)]
   congr 1
   simp[hm]
  have hdl:l.dropLast=l.take m:=by rw[List.dropLast_eq_take,hm];rfl
  refine⟨jN _ (by omega) (by omega),λ_=>⟨a,m,c,?_,by omega,λ_=>⟨by omega,λ_=>⟨oq (by omega),λ_=>⟨l.getLast (by intro e;subst e;simp at hlen),?_,?_⟩⟩⟩⟩⟩
  ·rw[e1]
   exact MJ E6 hi _ a l.length c m (by omega) hle
  ·rw[e1]
   exact ry rd.rd hg
  ·have rd2:bR (tX a l.length c l) a m ((l.take m).map sE):=by
    have:=rd.cut (k:=m) (by omega)
    rwa [<-List.map_take]at this
   refine(Ts (tX a l.length c l) a m c (l.take m) rd2 (by simp;omega) (by omega) λx hx=>hok x (List.mem_of_mem_take hx)).ak (λ_ _ h=>h) ?_
   rintro v R h ⟨rfl,H⟩
   refine⟨t7 (l.take m),rfl,.of λR h H=>?_,H⟩
   cases l with
   |nil=>simp at hlen
   |cons x r=>
    show _=_
    simp only[hdl]
    rfl
def W0(s o:List UInt8):Bool:=match bN s,bN o with
 |some l,some q=>decide (q.length<l.length)&&decide (q=l.take q.length)
 |_,_=>false
section
variable {κ:Type}[DecidableEq κ]{enc:κ->Value}{m c:Nat}{l:AL κ}{Q:HP}
end
section
variable {κ:Type}{c:Nat}{l:AL κ}
end
end
namespace RX
-- maps.akT[map[string]int,string,int]:ρ:=[.v m,.p mP]
end RX
section
open RX
end
namespace RX
def sX:=(({aB:=[379,374,375,376,359,360,357,190,55,245,243,242,244]}:gA).aB)
def sY:=(({iB:=[(374,0),(375,0),(376,0),(245,0),(243,0)]}:gA).iB)
def Tt:T:=
(.new
(.new
(.ret (.ptr 1 0) [(.b 1,.cells [.k 1,.k 1,.z,.map 0] 216),(.b 0,.kD)])))
theorem O8:tree Tryz.prog {fx:=[182],aB:=sX,iB:=sY,bz:=true,cx:=true,cf:=[182]} Tryz.f98 [] [] 0=Tt:=by kernel_rfl
def Tu:T:=
(.new
(.call 98 [] [] [.v,.p] (.val 1) [(1,2)]
(.op (.insert 184 (.tmp 1) (.const (.int .i64 0)) (.tmp 2)) 0 [(1,.map 0),(2,.val 1)] [(.b 0,.kD),(1,2)] [.p] (.au []) [(.b 0,3)]
(.new
(.ret (.ptr 4 0) [(.b 4,.cells [.map 0] 186),(.b 0,3)])))))
theorem O9:tree Tryz.prog {fx:=[182],aB:=sX,iB:=sY,bz:=true,cx:=true,cf:=[182]} Tryz.f71 [] [] 0=Tu:=by kernel_rfl
def MK:T:=
(.call 188 [.str 2] [] [.a,.n,.n,.p,.i] (.au [.s 3,7]) [(3,6)]
(.br (.not (.eq 7 (.i 0)))
(.ret (.au [.k 0,7]) [(.b 0,1)])
(.loop [.i,.i,.i,.i] [.z (.i 0),.z (.i 0),.z (.i 0),.z (.i 0)]
(.br (.lt 11 (.of 4))
(.need (.le (.i 0) 11)
(.need (.is 3)
  (.ld 9 26 (.aW 3 11 1 0) [(3,6)] [.s] (.str 12)
  (.ld 184 30 (.ptr 0 0) [(.b 0,1)] [.n] (.map 13)
(.read (.lookup 184 (.tmp 31) (.tmp 32) false) 182 [(31,.map 13),(32,10)] [(.b 0,1)] [.v] (.val 14)
(.read (.nilCheck (.tmp 34)) 0 [(34,.val 14)] [(.b 0,1)] [.n] (.ptr 15 0)
  (.ld 3 36 (.ptr 15 0) [(.b 0,1)] [.i] 16
(.br (.not (.eq 16 (.i 1)))
(.ret (.au [.k 0,.k 23]) [(.b 0,1)])
(.read (.nilCheck (.tmp 40)) 0 [(40,.val 14)] [(.b 0,1)] [.n] (.ptr 17 0)
  (.ld 214 42 (.ptr 17 3) [(.b 0,1)] [.n] (.map 18)
(.read (.lookup 214 (.tmp 43) (.tmp 44) true) 320 [(43,.map 18),(44,.str 12)] [(.b 0,1)] [.i,.c] (.au [19,.bool 20])
(.br (.not 20)
(.ret (.au [.k 0,.k 21]) [(.b 0,1)])
  (.rg (.add 11 (.i 1))
(.again 0 [.z 8,.z 9,.z 19,.z (.add 11 (.i 1))]))))))))))))))
(.ret (.au [10,.k 0]) [(.b 0,1)])))))
theorem JE:tree Tryz.prog {fx:=[182],aB:=sX,iB:=sY,bz:=true,cx:=true,cf:=[182]} Tryz.f379 [.ptr 0 0,.str 2] [(.b 0,1)] 3=MK:=by kernel_rfl
def Fj:T:=
(.call 382 [.str 2] [] [.s,.s,.i] (.au [.str 3,.str 4,5]) []
(.br (.not (.eq 5 (.i 0)))
(.ret (.au [.a .fZ,.str (.s []),5]) [(.b 0,1)])
(.call 379 [.ptr 0 0,.str 3] [(.b 0,1)] [.i,.i] (.au [6,7]) [(.b 0,1)]
(.br (.not (.eq 7 (.i 0)))
(.ret (.au [.a .fZ,.str (.s []),7]) [(.b 0,1)])
  (.ld 184 34 (.ptr 0 0) [(.b 0,1)] [.n] (.map 8)
(.read (.lookup 184 (.tmp 35) (.tmp 36) false) 182 [(35,.map 8),(36,6)] [(.b 0,1)] [.v] (.val 9)
(.read (.nilCheck (.tmp 38)) 0 [(38,.val 9)] [(.b 0,1)] [.n] (.ptr 10 0)
  (.ld 3 40 (.ptr 10 0) [(.b 0,1)] [.i] 11
(.br (.not (.eq 11 (.i 1)))
(.ret (.au [.a .fZ,.str (.s []),.k 23]) [(.b 0,1)])
(.read (.nilCheck (.tmp 44)) 0 [(44,.val 9)] [(.b 0,1)] [.n] (.ptr 12 0)
  (.ld 214 46 (.ptr 12 3) [(.b 0,1)] [.n] (.map 13)
(.read (.lookup 214 (.tmp 47) (.tmp 48) true) 320 [(47,.map 13),(48,.str 4)] [(.b 0,1)] [.i,.c] (.au [14,.bool 15])
(.br 15
(.ret (.au [.a .fZ,.str (.s []),.k 22]) [(.b 0,1)])
(.ret (.au [.val 9,.str 4,.k 0]) [(.b 0,1)]))))))))))))))
theorem Fk:tree Tryz.prog {fx:=[182],aB:=sX,iB:=sY,bz:=true,cx:=true,cf:=[182]} Tryz.f374 [.ptr 0 0,.str 2] [(.b 0,1)] 3=Fj:=by kernel_rfl
def ML:T:=
(.new
(.call 374 [.ptr 0 0,.str 3] [(.b 0,1)] [.v,.p,.s,.i] (.au [.val 12,.str 14,15]) [(12,13),(.b 0,1)]
(.br (.not (.eq 15 (.i 0)))
(.ret 15 [(.b 0,1),(7,10)])
 (.ld 184 22 (.ptr 0 0) [(.b 0,1)] [.n] (.map 16)
(.read (.call ⟨.builtin .len,#[.tmp 23],#[184]⟩) 3 [(23,.map 16)] [(.b 0,1)] [.i] 17
(.br (.le (.i 64) 17)
(.ret (.k 27) [(.b 0,1),(7,10)])
(.loop [.i] [.z (.i 1)]
  (.ld 184 28 (.ptr 0 0) [(.b 0,1)] [.n] (.map 19)
(.read (.lookup 184 (.tmp 29) (.tmp 30) false) 182 [(29,.map 19),(30,18)] [(.b 0,1)] [.v] (.val 20)
(.read (.binOp .neq 182 (.tmp 31) (.const (.pointer none)) 182) 4 [(31,.val 20)] [(.b 0,1)] [.c] (.bool 21)
(.br 21
  (.rg (.add 18 (.i 1))
(.again 0 [.z (.add 18 (.i 1))]))
(.br (.eq 2 (.i 1))
  (.ld 184 40 (.ptr 0 0) [(.b 0,1)] [.n] (.map 22)
(.call 98 [] [] [.v,.p] (.val 23) [(23,24)]
(.op (.mapUpdate 184 (.tmp 41) (.tmp 42) (.tmp 43)) 0 [(41,.map 22),(42,18),(43,.val 23)] [(.b 0,1),(23,24)] [.p] (.au []) [(.b 0,25)]
(.read (.nilCheck (.tmp 51)) 0 [(51,.val 12)] [(12,13),(.b 0,25)] [.n] (.ptr 26 0)
  (.ld 214 53 (.ptr 26 3) [(12,13),(.b 0,25)] [.n] (.map 27)
(.op (.mapUpdate 214 (.tmp 54) (.tmp 55) (.tmp 56)) 0 [(54,.map 27),(55,.str 14),(56,18)] [(12,13),(.b 0,25)] [.p,.p] (.au []) [(12,28),(.b 0,29)]
(.ret (.k 0) [(.b 0,29),(7,10)])))))))
  (.ld 184 46 (.ptr 0 0) [(.b 0,1)] [.n] (.map 22)
(.new
(.op (.mapUpdate 184 (.tmp 47) (.tmp 48) (.tmp 50)) 0 [(47,.map 22),(48,18),(50,.ptr 23 0)] [(.b 0,1),(.b 23,.cells [.k 2,.k 1,.z,.Ic] 216)] [.p] (.au []) [(.b 0,24)]
(.read (.nilCheck (.tmp 51)) 0 [(51,.val 12)] [(12,13),(.b 0,24)] [.n] (.ptr 25 0)
  (.ld 214 53 (.ptr 25 3) [(12,13),(.b 0,24)] [.n] (.map 26)
(.op (.mapUpdate 214 (.tmp 54) (.tmp 55) (.tmp 56)) 0 [(54,.map 26),(55,.str 14),(56,18)] [(12,13),(.b 0,24)] [.p,.p] (.au []) [(12,27),(.b 0,28)]
(.ret (.k 0) [(.b 0,28),(7,10)])))))))))))))))))))
theorem JF:tree Tryz.prog {fx:=[182],aB:=sX,iB:=sY,bz:=true,cx:=true,cf:=[182]} Tryz.f351 [.ptr 0 0,.agg [2,.str 3,.str 4,5,6,.s 7]] [(.b 0,1),(7,10)] 11=ML:=by kernel_rfl
def YO:T:=
(.new
(.new
(.br (.eq 2 (.i 1))
(.call 351 [.ptr 0 0,.agg [2,.str 3,.str 4,5,6,.s 7]] [(.b 0,1),(7,10)] [.i,.p,.p] 13 [(.b 0,14),(7,15)]
(.ret (.agg [13,.k 0,.k 0,.k 0,.z,.z]) [(.b 0,14),(7,15)]))
(.br (.eq 2 (.i 3))
(.call 351 [.ptr 0 0,.agg [2,.str 3,.str 4,5,6,.s 7]] [(.b 0,1),(7,10)] [.i,.p,.p] 13 [(.b 0,14),(7,15)]
(.ret (.agg [13,.k 0,.k 0,.k 0,.z,.z]) [(.b 0,14),(7,15)]))
(.br (.eq 2 (.i 2))
(.call 352 [.ptr 0 0,.agg [2,.str 3,.str 4,5,6,.s 7]] [(.b 0,1),(7,10)] [.i,.p,.p] 13 [(.b 0,14),(7,15)]
(.ret (.agg [13,.k 0,.k 0,.k 0,.z,.z]) [(.b 0,14),(7,15)]))
(.br (.eq 2 (.i 4))
(.call 353 [.ptr 0 0,.agg [2,.str 3,.str 4,5,6,.s 7]] [(.b 0,1),(7,10)] [.i,.p,.p] 13 [(.b 0,14),(7,15)]
(.ret (.agg [13,.k 0,.k 0,.k 0,.z,.z]) [(.b 0,14),(7,15)]))
(.br (.eq 2 (.i 5))
(.call 354 [.ptr 0 0,.agg [2,.str 3,.str 4,5,6,.s 7]] [(.b 0,1),(7,10)] [.i,.p,.p] 13 [(.b 0,14),(7,15)]
(.ret (.agg [13,.k 0,.k 0,.k 0,.z,.z]) [(.b 0,14),(7,15)]))
(.br (.eq 2 (.i 6))
(.call 355 [.ptr 0 0,.agg [2,.str 3,.str 4,5,6,.s 7]] [(.b 0,1),(7,10)] [.i,.p,.p] 13 [(.b 0,14),(7,15)]
(.ret (.agg [13,.k 0,.k 0,.k 0,.z,.z]) [(.b 0,14),(7,15)]))
(.br (.eq 2 (.i 7))
(.call 356 [.ptr 0 0,.agg [2,.str 3,.str 4,5,6,.s 7]] [(.b 0,1),(7,10)] [.i,.p,.p] 13 [(.b 0,14),(7,15)]
(.ret (.agg [13,.k 0,.k 0,.k 0,.z,.z]) [(.b 0,14),(7,15)]))
(.br (.eq 2 (.i 8))
(.call 357 [.ptr 0 0,.agg [2,.str 3,.str 4,5,6,.s 7]] [(.b 0,1),(7,10)] [.i,.i,.i,.i,.a,.n,.n,.p,.a,.n,.n,.p] (.agg [13,14,15,16,.s 17,.s 21]) [(17,20),(21,24),(.b 0,1),(7,10)]
(.ret (.agg [13,14,15,16,.s 17,.s 21]) [(.b 0,1),(7,10),(17,20),(21,24)]))
(.br (.eq 2 (.i 9))
(.call 358 [.ptr 0 0,.agg [2,.str 3,.str 4,5,6,.s 7]] [(.b 0,1),(7,10)] [.i,.p,.p] 13 [(.b 0,14),(7,15)]
(.ret (.agg [13,.k 0,.k 0,.k 0,.z,.z]) [(.b 0,14),(7,15)]))
(.br (.eq 2 (.i 10))
(.call 359 [.ptr 0 0,.agg [2,.str 3,.str 4,5,6,.s 7]] [(.b 0,1),(7,10)] [.i,.i,.i,.i,.a,.n,.n,.p,.a,.n,.n,.p] (.agg [13,14,15,16,.s 17,.s 21]) [(17,20),(21,24),(.b 0,1),(7,10)]
(.ret (.agg [13,14,15,16,.s 17,.s 21]) [(.b 0,1),(7,10),(17,20),(21,24)]))
(.br (.eq 2 (.i 11))
(.call 360 [.ptr 0 0,.agg [2,.str 3,.str 4,5,6,.s 7]] [(.b 0,1),(7,10)] [.i,.i,.i,.i,.a,.n,.n,.p,.a,.n,.n,.p] (.agg [13,14,15,16,.s 17,.s 21]) [(17,20),(21,24),(.b 0,1),(7,10)]
(.ret (.agg [13,14,15,16,.s 17,.s 21]) [(.b 0,1),(7,10),(17,20),(21,24)]))
(.br (.eq 2 (.i 12))
(.ret (.agg [.k 0,.k 0,.k 0,.k 0,.z,.z]) [(.b 0,1),(7,10)])
(.ret (.agg [.k 1,.k 0,.k 0,.k 0,.z,.z]) [(.b 0,1),(7,10)])))))))))))))))
theorem Tv:tree Tryz.prog {fx:=[182],aB:=sX,iB:=sY,bz:=true,cx:=true,cf:=[182]} Tryz.f327 [.ptr 0 0,.agg [2,.str 3,.str 4,5,6,.s 7]] [(.b 0,1),(7,10)] 11=YO:=by kernel_rfl
end RX
section
open RX
abbrev Nm:=List UInt8
structure Nd where
 num:Nat
 kind:Int
 d9:Int
 data:List UInt8
 cO:List (Nm×Nat)
structure HN where
 p:Nd
 nb:Nat
 mb:Nat
 da:Option Addr
 dc:Nat
structure TS where
 mb:Nat
 ns:List HN
def TS.cS(t:TS):List Nd:=t.ns.map (·.p)
def lk:List (Nm×Nat)->Nm->Option Nat
 |[],_=>none
 |x::r,k=>if k=x.1 then some x.2 else lk r k
def nodeAt(T:List Nd)(k:Nat):Option Nd:=T.find? λn=>decide (n.num=k)
def uI(ns:List HN)(k:Nat):Option HN:=ns.find? λx=>decide (x.p.num=k)
theorem qu(t:TS)(k:Nat):nodeAt t.cS k=(uI t.ns k).map (·.p):=by
 unfold nodeAt uI TS.cS
 rw[List.find?_map];rfl
theorem Fl{ns:List HN}{k:Nat}{x:HN}(h:uI ns k=some x):x∈ns/\x.p.num=k:=by
 unfold uI at h
 exact⟨List.mem_of_find?_eq_some h,by simpa using List.find?_some h⟩
def qv(mb:Nat)(cO:List (Nm×Nat)):HP:=HP.ex λl:AL Nm=>HP.ex λc:Nat=>HP.and (iJ l c/\∀k,aG k l=(lk cO k).map λn=>Value.int .i64 n) (HP.one mb (aJ sE l c))
def HN.BT(x:HN):Option Nat:=if x.p.kind=1 then some x.mb else none
def NC(x:HN):HP:=HP.one x.nb (.cells #[.int .i64 x.p.kind,.int .i64 x.p.d9,.slice x.da x.p.data.length x.dc,.map x.BT] 216 (0,0))
def Pa(x:HN):HP:=if x.p.kind=1 then qv x.mb x.p.cO else HP.pure (x.p.cO=[])
def eL(x:HN):HP:=HP.an (NC x) (HP.an (du x.da x.p.data.length x.dc x.p.data) (Pa x))
def jC(ns:List HN)(k:Int):Option Value:=(ns.find? λx=>decide ((x.p.num:Int)=k)).map λx=>.pointer (some ⟨x.nb,0,none⟩)
def TC(b:Nat)(t:TS):HP:=HP.one b (.cells #[.map (some t.mb)] 186 (0,0))
def Fm(t:TS):HP:=HP.ex λl:AL Int=>HP.ex λc:Nat=>HP.and (iJ l c/\∀k,aG k l=jC t.ns k) (HP.one t.mb (aJ dN l c))
def b8(b:Nat)(t:TS):HP:=HP.an (TC b t) (HP.an (Fm t) (aX (t.ns.map eL)))
theorem Tw(ns:List HN)(k:Nat):jC ns k=(uI ns k).map λx=>.pointer (some ⟨x.nb,0,none⟩):=by
 unfold jC uI
 congr 2
 funext x
 rw[decide_eq_decide];omega
theorem Tx{l:List HP}{x:HP}(hx:x∈l){R h:PH}(H:(aX l).p R h):x.p R h:=by
 obtain⟨k,hk,rfl⟩:=List.mem_iff_getElem.1 hx
 exact HP.aj (ko (List.getElem?_eq_getElem hk) H)
theorem aha{S:HP}{b:Nat}{cs:Array Value}{ty:TypeId}(hS:∀R h,S.p R h->h b=some (.cells cs ty (0,0))):Rd S (some ⟨b,0,none⟩) cs.toList:=λw R h F s a j u hj=>by
 have hw:=s.oh _ _ (hS R h a)
 refine⟨b,0,rfl,?_⟩
 rw[Nat.zero_add,mJ hw]
 simpa using hj
theorem YD{S:HP}{b:Nat}{cs:Array Value}{ty t:TypeId}{d:TypeDesc}(hS:∀R h,S.p R h->h b=some (.cells cs ty (0,0)))(hd:Tryz.prog.underlying t=some d)(ha:gF Tryz.prog t=false)(hz:gr Tryz.prog t=1){k:Nat}{v:Value}(hv:cs.toList[k]? =some v):
 aH Tryz.prog (bG t (.pointer (some ⟨b,k,none⟩))) S v:=by
 have:=b7 hd ha hz (aha hS) (k:=k) (off:=0) (v:=v) hv
 simpa[RX.addr_add]using this
variable {b:Nat}{t:TS}{x:HN}
theorem b8.tc{R h:PH}(H:(b8 b t).p R h):h b=some (.cells #[.map (some t.mb)] 186 (0,0)):=HP.aj H
theorem b8.node{R h:PH}(H:(b8 b t).p R h)(hx:x∈t.ns):(eL x).p R h:=Tx (List.mem_map.2 ⟨x,hx,rfl⟩) (HP.ai (HP.ai H))
theorem eL.cells{R h:PH}(H:(eL x).p R h):h x.nb=some (.cells #[.int .i64 x.p.kind,.int .i64 x.p.d9,.slice x.da x.p.data.length x.dc,.map x.BT] 216 (0,0)):=HP.aj H
theorem Fo:Tryz.prog.underlying 184=some (.map 3 182):=by kernel_rfl
theorem Ty:Tryz.prog.underlying 214=some (.map 9 3):=by kernel_rfl
theorem Tz:gH Tryz.prog 3 dN:=L8 pE
theorem YP:gH Tryz.prog 9 sE:=WS om
theorem aas:(Tryz.prog.info? 182).map (λi=>(i.zero,i.size,i.bytes))=some (some (.pointer none),1,8):=by kernel_rfl
theorem pi:aH Tryz.prog (bG 184 (.pointer (some ⟨b,0,none⟩))) (b8 b t) (.map (some t.mb)):=YD (λR h H=>b8.tc H) Fo (by kernel_rfl) (by kernel_rfl) rfl
theorem b8.adC{R h:PH}(H:(b8 b t).p R h):∃l c,iJ l c/\(∀k,aG k l=jC t.ns k)/\h t.mb=some (aJ dN l c):=by
 obtain⟨l,c,⟨h1,h2⟩,h3⟩:=HP.aj (HP.ai H)
 exact⟨l,c,h1,h2,h3⟩
theorem JG(k:Nat):aH Tryz.prog (kU 184 (.map (some t.mb)) (.int .i64 k) false) (b8 b t) (.pointer ((uI t.ns k).map λx=>⟨x.nb,0,none⟩)):=λw R h F s H=>by
 obtain⟨l,c,hI,hk,hh⟩:=b8.adC H
 obtain⟨i,hi,z1,_,_⟩:=info_parts aas
 have hr:=gX (c:=c) (l:=l) Tz Fo hi z1 (k:Int) false (r:=t.mb) (A:=HP.one t.mb (aJ dN l c)) (λR h H=>H)
 have:=hr w R (PH.one t.mb (aJ dN l c)) PH.cz ⟨s.qL.le (PH.le.refl _) (PH.sj hh),PH.gq _,PH.gq _,s.oR,s.oh.le (PH.sj hh),λ_ _ e=>(by cases e),s.gl⟩ (PH.cW _ _)
 refine Eq.trans this ?_
 rw[hk,Tw]
 cases uI t.ns k<;>rfl
theorem TA(hx:x∈t.ns):aH Tryz.prog (bG 3 (.pointer (some ⟨x.nb,0,none⟩))) (b8 b t) (.int .i64 x.p.kind):=YD (λR h H=>eL.cells (b8.node H hx)) pE A7 L7 rfl
theorem JI(hx:x∈t.ns):aH Tryz.prog (bG 214 (.pointer (some ⟨x.nb,3,none⟩))) (b8 b t) (.map x.BT):=YD (λR h H=>eL.cells (b8.node H hx)) Ty (by kernel_rfl) (by kernel_rfl) rfl
theorem eL.kD{R h:PH}(H:(eL x).p R h)(hd:x.p.kind=1):∃l c,iJ l c/\(∀k,aG k l=(lk x.p.cO k).map λn=>Value.int .i64 n)/\h x.mb=some (aJ sE l c):=by
 have H1:=HP.ai (HP.ai H)
 unfold Pa at H1
 rw[if_pos hd]at H1
 obtain⟨l,c,⟨h1,h2⟩,h3⟩:=H1
 exact⟨l,c,h1,h2,h3⟩
theorem TB(hx:x∈t.ns)(hd:x.p.kind=1)(nm:Nm):aH Tryz.prog (kU 214 (.map (some x.mb)) (sE nm) true) (b8 b t) (.tuple #[.int .i64 ((lk x.p.cO nm).getD 0:Nat),.bool (lk x.p.cO nm).isSome]):=λw R h F s H=>by
 obtain⟨l,c,hI,hk,hh⟩:=eL.kD (b8.node H hx) hd
 obtain⟨i,hi,z1,_,_⟩:=info_parts iG
 have hr:=gX (c:=c) (l:=l) YP Ty hi z1 nm true (r:=x.mb) (A:=HP.one x.mb (aJ sE l c)) (λR h H=>H)
 have:=hr w R (PH.one x.mb (aJ sE l c)) PH.cz ⟨s.qL.le (PH.le.refl _) (PH.sj hh),PH.gq _,PH.gq _,s.oR,s.oh.le (PH.sj hh),λ_ _ e=>(by cases e),s.gl⟩ (PH.cW _ _)
 refine Eq.trans this ?_
 rw[hk]
 cases lk x.p.cO nm<;>rfl
def TD(t ty:TypeId)(x:Value):Sem Next:=do pure (.value (<-Builtin.len_ #[t] ty #[x]))
theorem TE{t ty:TypeId}{i:Nat}{x:Value}:bI (.call ⟨.builtin .len,#[.tmp i],#[t]⟩) ty [(i,x)]=TD t ty x:=by
 simp[bI,execOp,resolve,jR,invoke,builtin,TD]
theorem aat{κ:Type}{enc:κ->Value}{t k e ty:TypeId}(ht:Tryz.prog.underlying t=some (.map k e)){m c:Nat}{l:AL κ}{w:World}(hh:w.heap[m]? =some (aJ enc l c)):(TD t ty (.map (some m))).run Tryz.prog w=.ok (.value (.int .i64 l.length)) w:=by
 unfold aJ at hh
 unfold TD Builtin.len_
 simp[RX.run_underlying ht,getObj,Sem.run,hh,goInt]
theorem W1{κ α:Type}[DecidableEq κ]{l:AL κ}{ks:List κ}(hn:(l.map (·.1)).Nodup)(hk:ks.Nodup)(f:κ->Option α)(h:∀k,(aG k l).isSome=(f k).isSome)(hf:∀k,(f k).isSome=true↔k∈ks):(l.map (·.1)).Perm ks:=
 (List.perm_ext_iff_of_nodup hn hk).2 λk=>by rw[<-gS,h,hf]
theorem TF{l:AL Int}{c:Nat}{ns:List HN}(hI:iJ l c)(hk:∀k,aG k l=jC ns k)(hn:(ns.map (·.p.num)).Nodup):l.length=ns.length:=by
 have:=(W1 (ks:=ns.map λx=>(x.p.num:Int)) hI.1 ?_ (jC ns) (λk=>by rw[hk]) λk=>?_).length_eq
 ·simpa using this
 ·have:(ns.map λx=>(x.p.num:Int))=(ns.map (·.p.num)).map (λn:Nat=>(n:Int)):=by simp
  rw[this]
  exact List.Pairwise.map _ (λa b h e=>h (by exact_mod_cast e)) hn
 ·unfold jC
  rw[Option.isSome_map,List.find?_isSome]
  simp[List.mem_map]
theorem TG{ty:TypeId}(hn:(t.ns.map (·.p.num)).Nodup):aH Tryz.prog (TD 184 ty (.map (some t.mb))) (b8 b t) (.int .i64 t.ns.length):=λw R h F s H=>by
 obtain⟨l,c,hI,hk,hh⟩:=b8.adC H
 rw[aat Fo (s.oh _ _ hh),TF hI hk hn]
end
section
open RX
structure pO(B:Nat)(n:Nd):Prop where
 kind:n.kind=1/\n.data=[]/\n.d9=1\/n.kind=2/\n.cO=[]
 data:n.data.length<=512
 adD:0<n.d9
 W2:n.d9<=B
 W3:n.cO.length<=B
 adE:(n.cO.map (·.1)).Pairwise (· < ·)
 name:∀e∈n.cO,cV e.1=true/\e.2≠0
 num:n.num<64
def ku(l:List (Nm×Nat))(k:Nat):Nat:=l.countP λe=>decide (e.2=k)
def refs(T:List Nd)(k:Nat):Nat:=(T.map λn=>ku n.cO k).sum
structure qw(B:Nat)(T:List Nd):Prop where
 sorted:(T.map (·.num)).Pairwise (· < ·)
 root:∃r,nodeAt T 0=some r/\r.kind=1
 Fp:∀n∈T,pO B n
 YQ:∀n∈T,∀e∈n.cO,(nodeAt T e.2).isSome=true
 cnt:∀n∈T,n.num≠0->(refs T n.num:Int)=n.d9
def dR(T:List Nd):Nat->List Nm->Nat×Int
 |at',[]=>(at',0)
 |at',nm::r=>match nodeAt T at' with
  |none=>(0,21)
  |some n=>if n.kind≠1 then(0,23)else match lk n.cO nm with
   |none=>(0,21)
   |some k=>dR T k r
def dS(T:List Nd)(s:Nm):Nat×Int:=match bN s with
 |none=>(0,20)
 |some l=>dR T 0 l
theorem mV:∀ {cO:List (Nm×Nat)} {k:Nm} {n:Nat},lk cO k=some n->(k,n)∈cO
 |[],_,_,h=>by cases h
 |y::r,k,n,h=>by
  unfold lk at h
  split at h
  ·rename_i e;cases h;subst e;simp
  ·exact List.mem_cons_of_mem _ (mV h)
theorem eM{T:List Nd}{k:Nat}{n:Nd}(h:nodeAt T k=some n):n∈T/\n.num=k:=by
 unfold nodeAt at h
 exact⟨List.mem_of_find?_eq_some h,by simpa using List.find?_some h⟩
theorem wR{B:Nat}{T:List Nd}(wf:qw B T):∀(l:List Nm) (a:Nat),(nodeAt T a).isSome=true->(nodeAt T (dR T a l).1).isSome=true
 |[],a,h=>h
 |nm::r,a,h=>by
  obtain⟨n,hn⟩:=Option.isSome_iff_exists.1 h
  have h0:(nodeAt T 0).isSome=true:=by obtain⟨q,hq,_⟩:=wf.root;rw[hq];rfl
  unfold dR
  rw[hn]
  simp only
  split
  ·exact h0
  ·split
   ·exact h0
   ·rename_i k hk
    exact wR wf r k (wf.YQ n (eM hn).1 _ (mV hk))
theorem JJ{B:Nat}{T:List Nd}(wf:qw B T)(s:Nm):(nodeAt T (dS T s).1).isSome=true:=by
 have h0:(nodeAt T 0).isSome=true:=by obtain⟨q,hq,_⟩:=wf.root;rw[hq];rfl
 unfold dS
 split
 ·exact h0
 ·exact wR wf _ 0 h0
theorem TH{t:TS}{k:Nat}(h:(nodeAt t.cS k).isSome=true):∃x,uI t.ns k=some x/\nodeAt t.cS k=some x.p/\x∈t.ns:=by
 rw[qu]at h⊢
 rw[Option.isSome_map]at h
 obtain⟨x,hx⟩:=Option.isSome_iff_exists.1 h
 exact⟨x,hx,by rw[hx];rfl,(Fl hx).1⟩
variable {b:Nat}{t:TS}
set_option maxHeartbeats 1000000 in
theorem TI{B:Nat}(wf:qw B t.cS)(s:Nm):ax Tryz.prog 379 #[.pointer (some ⟨b,0,none⟩),sE s] (b8 b t) (λv=>HP.and (v=.tuple #[.int .i64 (dS t.cS s).1,.int .i64 (dS t.cS s).2]) (b8 b t)):=by
 refine ah (ρ:=[.n b,.p (b8 b t),.s s]) mixed Tryz.func379 JE ?_
 unfold MK
 refine cg ?_
 refine(sW s).ak (λ_ _ _=>trivial) ?_
 rintro v R h ⟨a,c,rfl,H⟩
 have oq:((bN s).getD []).length≠0->a.isSome=true:=λhn=>cp.some H (by omega)
 refine⟨a,_,c,tX a ((bN s).getD []).length c ((bN s).getD []),_,rfl,?_,H⟩
 clear H
 unfold dS
 cases hs:bN s with
 |none=>exact⟨λ_=>.of λR h H=>⟨rfl,H⟩,λh=>by simp at h⟩
 |some l=>
  refine⟨λh=>absurd (by rfl) h,λ_=>?_⟩
  rw[hs]at oq
  simp only[Option.getD_some]at oq⊢
  obtain⟨hl8,_⟩:=jj hs
  obtain⟨res,Sd⟩:∃r,dR t.cS 0 l=r:=⟨_,rfl⟩
  rw[Sd]
  refine⟨λ_ _ at' i=>∃k a':Nat,i=k/\k<=l.length/\at'=a'/\dR t.cS a' (l.drop k)=res/\(nodeAt t.cS a').isSome=true,λ_ _ _ i=>l.length - i.toNat,
   ⟨0,0,rfl,Nat.zero_le _,rfl,Sd,by obtain⟨q,hq,_⟩:=wf.root;rw[hq];rfl⟩,?_⟩
  rintro _ _ _ _ ⟨k,a',rfl,hk,rfl,hw,QX⟩
  refine⟨λhlt=>⟨by omega,λ_=>⟨oq (by omega),λ_=>?_⟩⟩,λlN=>.of λR h H=>⟨?_,H⟩⟩
  ·have kW:k<l.length:=by omega
   obtain⟨x,hx,VQ,uX⟩:=TH QX
   have rd:bR (tX a l.length c l) a l.length (l.map sE):=bR.ow _ _ _ _ _ _
   have np:=JG (b:=b) (t:=t) a'
   rw[hx]at np
   rw[List.drop_eq_getElem_cons kW]at hw
   unfold dR at hw
   rw[VQ]at hw
   simp only at hw
   refine⟨l[k],ry rd.rd (List.getElem?_eq_getElem kW),t.mb,pi,.pointer (some ⟨x.nb,0,none⟩),np,x.nb,gY,x.p.kind,TA uX,⟨λW4=>.of λR h H=>⟨?_,H⟩,λW4=>?_⟩⟩
   ·rw[if_pos W4]at hw
    rw[<-hw];rfl
   ·have Fq:x.p.kind=1:=by simpa using W4
    rw[if_neg (by simp[Fq])]at hw
    have he:=JI (b:=b) uX
    have hmo:x.BT=some x.mb:=by unfold HN.BT;rw[if_pos Fq]
    rw[hmo]at he
    refine⟨x.nb,gY,x.mb,he,((lk x.p.cO l[k]).getD 0:Nat),(lk x.p.cO l[k]).isSome,TB uX Fq l[k],⟨λhno=>.of λR h H=>⟨?_,H⟩,λJK=>?_⟩⟩
    ·have:lk x.p.cO l[k]=none:=by simpa using hno
     rw[this]at hw
     rw[<-hw];rfl
    ·obtain⟨n,hn⟩:=Option.isSome_iff_exists.1 (show(lk x.p.cO l[k]).isSome=true by simpa using JK)
     rw[hn]at hw⊢
     exact⟨jN _ (by omega) (by omega),λ_=>⟨⟨k+1,n,by omega,by omega,rfl,hw,wf.YQ x.p (by rw[TS.cS];exact List.mem_map.2 ⟨x,uX,rfl⟩) _ (mV hn)⟩,by first|omega|(dsimp only;omega)⟩⟩
  ·obtain rfl:k=l.length:=by omega
   rw[List.drop_length]at hw
   rw[<-hw];rfl
def jt(s:Nm):Option (Nm×Nm):=match bN s with
 |some (x::r)=>some (t7 (x::r).dropLast,(x::r).getLast (by simp))
 |_=>none
theorem TJ(s:Nm):ax Tryz.prog 382 #[sE s] HP.tt (λv=>HP.pure (v=.tuple #[sE ((jt s).getD ([],[])).1,sE ((jt s).getD ([],[])).2,.int .i64 (if(jt s).isSome then 0 else 20)])):=by
 refine(JD s).ak (λ_ _ h=>h) ?_
 intro v R h e
 have e':v=_:=e
 show v=_
 rw[e']
 unfold jt
 cases hs:bN s with
 |none=>rfl
 |some l=>cases l with
  |nil=>rfl
  |cons x r=>rfl
def bU(T:List Nd)(s:Nm):Nat×Nm×Int:=match jt s with
 |none=>(0,[],20)
 |some (ab,nm)=>if(dS T ab).2≠0 then(0,[],(dS T ab).2)else match nodeAt T (dS T ab).1 with
  |none=>(0,[],1)
  |some n=>if n.kind≠1 then(0,[],23)else if(lk n.cO nm).isSome=true then(0,[],22)else((dS T ab).1,nm,0)
def MM(ns:List HN)(k:Nat):Value:=.pointer ((uI ns k).map λx=>⟨x.nb,0,none⟩)
set_option maxHeartbeats 1000000 in
theorem Pe{B:Nat}(wf:qw B t.cS)(s:Nm):ax Tryz.prog 374 #[.pointer (some ⟨b,0,none⟩),sE s] (b8 b t)
 (λv=>HP.and (v=.tuple #[if(bU t.cS s).2.2=0 then MM t.ns (bU t.cS s).1 else .pointer none,sE (bU t.cS s).2.1,.int .i64 (bU t.cS s).2.2]) (b8 b t)):=by
 refine ah (ρ:=[.n b,.p (b8 b t),.s s]) mixed Tryz.func374 Fk ?_
 unfold Fj
 refine cg ?_
 refine(TJ s).ak (λ_ _ _=>trivial) ?_
 rintro v R h rfl
 refine⟨_,_,_,rfl,?_,trivial⟩
 cases hs:jt s with
 |none=>
  have e:bU t.cS s=(0,[],20):=by simp[bU,hs]
  exact⟨λ_=>.of λR h H=>⟨by rw[e];rfl,H⟩,λh=>by simp at h⟩
 |some q=>
  obtain⟨ab,nm⟩:=q
  refine⟨λh=>absurd (by rfl) h,λ_=>?_⟩
  simp only[Option.getD_some]
  refine(TI wf ab).ak (λ_ _ h=>h) ?_
  rintro v R h ⟨rfl,H⟩
  refine⟨_,_,rfl,?_,H⟩
  clear H
  refine⟨λhc=>.of λR h H=>⟨?_,H⟩,λhc=>?_⟩
  ·have yd:(dS t.cS ab).2≠0:=hc
   have e:bU t.cS s=(0,[],(dS t.cS ab).2):=by simp[bU,hs,yd]
   rw[e];simp[yd,sE]
  have yd:(dS t.cS ab).2=0:=by simpa using hc
  obtain⟨x,hx,VQ,uX⟩:=TH (JJ wf ab)
  have np:=JG (b:=b) (t:=t) (dS t.cS ab).1
  rw[hx]at np
  refine⟨t.mb,pi,.pointer (some ⟨x.nb,0,none⟩),np,x.nb,gY,x.p.kind,TA uX,⟨λW4=>.of λR h H=>⟨?_,H⟩,λW4=>?_⟩⟩
  ·have e:bU t.cS s=(0,[],23):=by simp[bU,hs,yd,VQ,W4]
   rw[e];rfl
  have Fq:x.p.kind=1:=by simpa using W4
  have he:=JI (b:=b) uX
  have hmo:x.BT=some x.mb:=by unfold HN.BT;rw[if_pos Fq]
  rw[hmo]at he
  refine⟨x.nb,gY,x.mb,he,_,_,TB uX Fq nm,⟨λJK=>.of λR h H=>⟨?_,H⟩,λhno=>.of λR h H=>⟨?_,H⟩⟩⟩
  ·have e:bU t.cS s=(0,[],22):=by
    unfold bU;rw[hs];simp only;rw[if_neg (by simp[yd]),VQ];simp only;rw[if_neg (by simp[Fq]),if_pos JK]
   rw[e];rfl
  ·have e:bU t.cS s=((dS t.cS ab).1,nm,0):=by
    unfold bU;rw[hs];simp only;rw[if_neg (by simp[yd]),VQ];simp only;rw[if_neg (by simp[Fq]),if_neg hno]
   rw[e]
   simp only[if_true,MM,hx]
   rfl
def eN(T:List Nd)(s:Nm):Nat×Nm×Nat×Int:=match jt s with
 |none=>(0,[],0,20)
 |some (ab,nm)=>if(dS T s).2≠0 then(0,[],0,(dS T s).2)else if(dS T ab).2≠0 then(0,[],0,(dS T ab).2)else((dS T ab).1,nm,(dS T s).1,0)
def mh(T:List Nd)(s:Nm):Nat×Int:=if(dS T s).2≠0 then(0,(dS T s).2)else match nodeAt T (dS T s).1 with
 |none=>(0,1)
 |some n=>if n.kind=1 then(0,24)else((dS T s).1,0)
end
section
open RX
def iq(nm:Nm)(k:Nat):List (Nm×Nat)->List (Nm×Nat)
 |[]=>[(nm,k)]
 |y::r=>if y.1<nm then y::iq nm k r else(nm,k)::y::r
def MN(nm:Nm)(l:List (Nm×Nat)):List (Nm×Nat):=l.filter λy=>decide (y.1≠nm)
theorem TK(nm:Nm)(k:Nat)(q:Nm):∀l,lk (iq nm k l) q=if q=nm then some k else lk l q
 |[]=>by simp[iq,lk]
 |y::r=>by
  unfold iq
  split
  ·rename_i h
   have hne:y.1≠nm:=λe=>by rw[e]at h;exact List.lt_irrefl _ h
   simp only[lk]
   rw[TK nm k q r]
   by_cases e:q=y.1
   ·have:q≠nm:=λe2=>hne (e.symm.trans e2)
    simp[e,hne]
   ·simp[e]
  ·simp only[lk]
theorem qv.put{mb:Nat}{cO:List (Nm×Nat)}(nm:Nm)(k:Nat):aI Tryz.prog (jL 214 (.map (some mb)) (sE nm) (.int .i64 k)) (qv mb cO) (λv=>HP.and (v=.tuple #[]) (qv mb (iq nm k cO))):=by
 refine aI.exI λl=>aI.exI λc=>aI.Sk λ⟨hI,hk⟩=>?_
 refine(qj (r:=mb) (l:=l) (c:=c) YP Ty nm (.int .i64 k)).ak (λ_ _ h=>h) ?_
 rintro v R h ⟨rfl,H⟩
 refine⟨rfl,_,_,⟨hI.put nm (.int .i64 k),λq=>?_⟩,H⟩
 rw[kp,TK,hk]
 split<;>rfl
variable {b:Nat}{t:TS}{x y:HN}{i:Nat}
def TS.Fs(t:TS)(i:Nat)(y:HN):TS:={t with ns:=t.ns.set i y}
def TL(b:Nat)(t:TS)(i:Nat):HP:=HP.an (TC b t) (HP.an (Fm t) (aX ((t.ns.map eL).eraseIdx i)))
theorem b8.kT(hi:t.ns[i]? =some x){R h:PH}(H:(b8 b t).p R h):(HP.an (eL x) (TL b t i)).p R h:=by
 have H1:(HP.an (TC b t) (HP.an (Fm t) (HP.an (eL x) (aX ((t.ns.map eL).eraseIdx i))))).p R h:=HP.ae H (λ_ h=>h) λy hy=>HP.ae hy (λ_ h=>h) λz hz=>ko (by simp[hi]) hz
 exact HP.pick [_,_,_,_] [2,0,1,3] (by decide) rfl H1
theorem Pf(hi:t.ns[i]? =some x)(hn:y.p.num=x.p.num)(hb:y.nb=x.nb)(k:Int):jC (t.ns.set i y) k=jC t.ns k:=by
 have gen:∀ns:List HN,jC ns k=((ns.map λx=>(x.p.num,x.nb)).find? λz=>decide ((z.1:Int)=k)).map λz=>.pointer (some ⟨z.2,0,none⟩):=λns=>by
  unfold jC
  rw[List.find?_map,Option.map_map];rfl
 rw[gen,gen,List.map_set]
 congr 2
 rw[hn,hb]
 refine List.ext_getElem? λj=>?_
 rw[List.getElem?_set]
 split
 ·rename_i e;subst e
  rw[List.getElem?_map,hi]
  split
  ·rfl
  ·rename_i h;simp only[List.length_map]at h;exact absurd (List.getElem?_eq_some_iff.1 hi).1 h
 ·rfl
theorem b8.jZ(hi:t.ns[i]? =some x)(hn:y.p.num=x.p.num)(hb:y.nb=x.nb){R h:PH}(H:(HP.an (eL y) (TL b t i)).p R h):(b8 b (t.Fs i y)).p R h:=by
 have hlt:i<(t.ns.map eL).length:=by rw[List.length_map];exact(List.getElem?_eq_some_iff.1 hi).1
 have H1:(HP.an (TC b t) (HP.an (Fm t) (HP.an (eL y) (aX ((t.ns.map eL).eraseIdx i))))).p R h:=HP.pick [_,_,_,_] [1,2,0,3] (by decide) rfl H
 refine HP.ae H1 (λ_ h=>h) λz hz=>HP.ae hz ?_ λq hq=>?_
 ·rintro q ⟨l,c,⟨h1,h2⟩,h3⟩
  exact⟨l,c,⟨h1,λk=>by rw[h2];exact(Pf hi hn hb k).symm⟩,h3⟩
 ·have:=iH hlt hq
  show(aX ((t.ns.set i y).map eL)).p R q
  rw[List.map_set];exact this
theorem b8.upd{s:Sem Next}{X:HP}{v0:Value}(hi:t.ns[i]? =some x)(hn:y.p.num=x.p.num)(hb:y.nb=x.nb)(o:aI Tryz.prog s (HP.an (eL x) X) (λv=>HP.and (v=v0) (eL y))):
 aI Tryz.prog s (HP.an (b8 b t) X) (λv=>HP.and (v=v0) (b8 b (t.Fs i y))):=by
 refine(o.frame (TL b t i)).ak (λR h H=>?_) ?_
 ·have H1:=HP.aq (HP.ae H (λ_ h=>b8.kT hi h) λ_ h=>h)
  exact HP.ay (HP.pick [_,_,_] [0,2,1] (by decide) rfl H1)
 ·rintro v R h ⟨h1,h2,d,l1,l2,⟨e,H⟩,HR⟩
  exact⟨e,b8.jZ hi hn hb ⟨h1,h2,d,l1,l2,H,HR⟩⟩
theorem b8.ahb{s:Sem Next}{v0:Value}(hi:t.ns[i]? =some x)(hn:y.p.num=x.p.num)(hb:y.nb=x.nb)(o:aI Tryz.prog s (eL x) (λv=>HP.and (v=v0) (eL y))):
 aI Tryz.prog s (b8 b t) (λv=>HP.and (v=v0) (b8 b (t.Fs i y))):=
 (b8.upd (X:=HP.tt) hi hn hb (o.ak (λ_ _ H=>HP.aj H) λ_ _ _ h=>h)).ak (λ_ _ H=>HP.az H) λ_ _ _ h=>h
def HN.TM(x:HN)(l:List (Nm×Nat)):HN:={x with p:={x.p with cO:=l}}
theorem eL.cO{l:List (Nm×Nat)}(hd:x.p.kind=1){s:Sem Next}{v0:Value}(o:aI Tryz.prog s (qv x.mb x.p.cO) (λv=>HP.and (v=v0) (qv x.mb l))):
 aI Tryz.prog s (eL x) (λv=>HP.and (v=v0) (eL (x.TM l))):=by
 refine(o.frame (HP.an (NC x) (du x.da x.p.data.length x.dc x.p.data))).ak (λR h H=>?_) ?_
 ·have e:Pa x=qv x.mb x.p.cO:=by unfold Pa;rw[if_pos hd]
  have H1:(HP.an (NC x) (HP.an (du x.da x.p.data.length x.dc x.p.data) (qv x.mb x.p.cO))).p R h:=by rw[<-e];exact H
  exact HP.pick [_,_,_] [2,0,1] (by decide) rfl H1
 ·rintro v R h ⟨h1,h2,d,l1,l2,⟨e,H⟩,HR⟩
  refine⟨e,?_⟩
  have H1:(HP.an (NC x) (HP.an (du x.da x.p.data.length x.dc x.p.data) (qv x.mb l))).p R h:=HP.pick [_,_,_] [1,2,0] (by decide) rfl ⟨h1,h2,d,l1,l2,H,HR⟩
  have e:Pa (x.TM l)=qv x.mb l:=by unfold Pa;rw[if_pos (by exact hd)];rfl
  unfold eL
  rw[e]
  exact H1
theorem aau(hi:t.ns[i]? =some x)(hd:x.p.kind=1)(nm:Nm)(k:Nat):aI Tryz.prog (jL 214 (.map (some x.mb)) (sE nm) (.int .i64 k)) (b8 b t) (λv=>HP.and (v=.tuple #[]) (b8 b (t.Fs i (x.TM (iq nm k x.p.cO))))):=
 b8.ahb hi rfl rfl (eL.cO hd (qv.put nm k))
end
section
open RX
variable {b:Nat}{t:TS}{x y:HN}{i:Nat}
def BU(y:HN):List HN->List HN
 |[]=>[y]
 |z::r=>if z.p.num<y.p.num then z::BU y r else y::z::r
def TS.BV(t:TS)(y:HN):TS:={t with ns:=BU y t.ns}
theorem pj(y:HN):∀ns,(BU y ns).Perm (y::ns)
 |[]=>List.Perm.refl _
 |z::r=>by
  unfold BU
  split
  ·exact((pj y r).cons z).trans (List.Perm.swap y z r)
  ·exact List.Perm.refl _
theorem zF(y:HN)(q:Int):∀ns,jC (BU y ns) q=if q=y.p.num then some (.pointer (some ⟨y.nb,0,none⟩))else jC ns q
 |[]=>by
  unfold BU jC
  by_cases h:q=y.p.num
  ·subst h;simp
  ·simp[h,Ne.symm h]
 |z::r=>by
  have ih:=zF y q r
  unfold BU
  split
  ·rename_i h
   unfold jC at ih⊢
   rw[List.find?_cons,List.find?_cons]
   by_cases e:(z.p.num:Int)=q
   ·have:¬q=y.p.num:=by omega
    simp[e,this]
   ·simp only[e,decide_false]
    exact ih
  ·unfold jC
   rw[List.find?_cons]
   by_cases e:q=y.p.num
   ·subst e;simp
   ·have:¬(y.p.num:Int)=q:=λh=>e h.symm
    simp[e,this]
theorem MO(y:HN):aI Tryz.prog (jL 184 (.map (some t.mb)) (.int .i64 y.p.num) (.pointer (some ⟨y.nb,0,none⟩))) (HP.an (b8 b t) (eL y)) (λv=>HP.and (v=.tuple #[]) (b8 b (t.BV y))):=by
 have o:aI Tryz.prog (jL 184 (.map (some t.mb)) (.int .i64 y.p.num) (.pointer (some ⟨y.nb,0,none⟩))) (Fm t) (λv=>HP.and (v=.tuple #[]) (Fm (t.BV y))):=by
  refine aI.exI λl=>aI.exI λc=>aI.Sk λ⟨hI,hk⟩=>?_
  refine(qj (r:=t.mb) (l:=l) (c:=c) Tz Fo (y.p.num:Int) (.pointer (some ⟨y.nb,0,none⟩))).ak (λ_ _ h=>h) ?_
  rintro v R h ⟨rfl,H⟩
  refine⟨rfl,_,_,⟨hI.put (y.p.num:Int) _,λq=>?_⟩,H⟩
  rw[kp,hk]
  exact(zF y q t.ns).symm
 refine(o.frame (HP.an (TC b t) (HP.an (aX (t.ns.map eL)) (eL y)))).ak (λR h H=>?_) ?_
 ·have H1:=HP.aq (HP.ae H (λ_ h=>h) λ_ h=>h)
  have H2:(HP.an (TC b t) (HP.an (Fm t) (HP.an (aX (t.ns.map eL)) (eL y)))).p R h:=HP.ae H1 (λ_ h=>h) λz hz=>HP.aq hz
  exact HP.pick [_,_,_,_] [1,0,2,3] (by decide) rfl H2
 ·rintro v R h ⟨h1,h2,d,l1,l2,⟨e,H⟩,HR⟩
  refine⟨e,?_⟩
  have H1:(HP.an (TC b t) (HP.an (Fm (t.BV y)) (HP.an (aX (t.ns.map eL)) (eL y)))).p R h:=HP.pick [_,_,_,_] [1,0,2,3] (by decide) rfl ⟨h1,h2,d,l1,l2,H,HR⟩
  refine HP.ae H1 (λ_ h=>h) λz hz=>HP.ae hz (λ_ h=>h) λq hq=>?_
  exact o4 ((pj y t.ns).symm.map eL) (bE.2 (HP.ao hq))
def TN(l:List UInt8)(n:Nat):List UInt8:=l.take n++List.replicate (n - l.length) 0
end
section
open RX
theorem JL{x:List UInt8}(h:(47:UInt8)∉x)(r:List UInt8):bC 47 (x++47::r)=x::bC 47 r:=by
 induction x with
 |nil=>simp[bC]
 |cons b q ih=>
  simp only[List.mem_cons,not_or]at h
  rw[List.cons_append]
  conv=>lhs;unfold bC
  rw[if_neg (Ne.symm h.1),ih h.2]
theorem JM{x:List UInt8}(h:(47:UInt8)∉x):bC 47 x=[x]:=od (List.count_eq_zero.2 h)
theorem rz:∀(l:List (List UInt8)) (x:List UInt8),(47:UInt8)∉x->(∀y∈l,(47:UInt8)∉y)->bC 47 (x++fA l)=x::l
 |[],x,h,_=>by simp[fA,JM h]
 |y::r,x,h,hl=>by
  have:fA (y::r)=47::(y++fA r):=by simp[fA]
  rw[this,JL h,rz r y (hl y (by simp)) (λz hz=>hl z (by simp[hz]))]
theorem rA{x:List UInt8}(h:cV x=true):(47:UInt8)∉x/\x≠[]:=by
 unfold cV at h
 simp only[Bool.and_eq_true,decide_eq_true_eq]at h
 refine⟨h.1.2,λe=>?_⟩
 subst e;simp at h
theorem Ft{l:List (List UInt8)}(h:∀x∈l,cV x=true)(h8:l.length<=8):bN (t7 l)=some l:=by
 cases l with
 |nil=>rfl
 |cons x r=>
  have e:t7 (x::r)=47::(x++fA r):=by simp[t7,fA]
  have hx:=rA (h x (by simp))
  rw[e]
  unfold bN
  rw[if_neg (by
   intro q
   injection q with _ q
   exact hx.2 (List.append_eq_nil_iff.1 q).1)]
  simp only[if_true]
  rw[rz r x hx.1 (λy hy=>(rA (h y (by simp[hy]))).1)]
  rw[if_pos ⟨h8,by rw[List.all_eq_true];exact h⟩]
theorem BW{s ab nm:Nm}(h:jt s=some (ab,nm)):∃l,bN s=some (l++[nm])/\bN ab=some l:=by
 unfold jt at h
 split at h
 ·rename_i x r hs
  obtain⟨h8,hok⟩:=jj hs
  simp only[Option.some.injEq,Prod.mk.injEq]at h
  refine⟨(x::r).dropLast,?_,?_⟩
  ·rw[hs,<-h.2,List.dropLast_concat_getLast]
  ·rw[<-h.1]
   exact Ft (λy hy=>hok y (List.dropLast_subset _ hy)) (by rw[List.length_dropLast];omega)
 ·cases h
theorem zG(T:List Nd)(a:Nat)(nm:Nm)(r:List Nm):dR T a (nm::r)=match nodeAt T a with
 |none=>(0,21)
 |some n=>if n.kind≠1 then(0,23)else match lk n.cO nm with
  |none=>(0,21)
  |some k=>dR T k r:=rfl
theorem sZ{T:List Nd}:∀(l m:List Nm) (a:Nat),dR T a (l++m)=if(dR T a l).2=0 then dR T (dR T a l).1 m else dR T a l
 |[],m,a=>by simp[dR]
 |nm::r,m,a=>by
  rw[List.cons_append,zG,zG T a nm r]
  cases nodeAt T a with
  |none=>simp
  |some n=>
   simp only
   split
   ·simp
   ·cases lk n.cO nm with
    |none=>simp
    |some k=>exact sZ r m k
theorem Fu{T:List Nd}{a k:Nat}{nm:Nm}(h:dR T a [nm]=(k,0)):∃n,nodeAt T a=some n/\n.kind=1/\lk n.cO nm=some k:=by
 unfold dR at h
 split at h
 ·simp at h
 ·rename_i n hn
  split at h
  ·simp at h
  ·rename_i hk
   split at h
   ·simp at h
   ·rename_i j hj
    simp only[dR,Prod.mk.injEq,and_true]at h
    subst h
    exact⟨n,hn,by simpa using hk,hj⟩
def jD(T:List Nd)(k:Nat)(f:Nd->Nd):List Nd:=T.map λn=>if n.num=k then f n else n
def adG(T:List Nd)(k:Nat):List Nd:=T.filter λn=>decide (n.num≠k)
def kH(y:Nd):List Nd->List Nd
 |[]=>[y]
 |z::r=>if z.num<y.num then z::kH y r else y::z::r
def fE(g:List (Nm×Nat)->List (Nm×Nat))(n:Nd):Nd:={n with cO:=g n.cO}
def fL(d:Int)(n:Nd):Nd:={n with d9:=n.d9+d}
def fD(g:List UInt8->List UInt8)(n:Nd):Nd:={n with data:=g n.data}
theorem iM{l:List Nat}(h:l.Pairwise (· < ·)):l.Nodup:=h.imp λh=>by omega
theorem Ph{T:List Nd}{k:Nat}{f:Nd->Nd}(hf:∀n,(f n).num=n.num):(jD T k f).map (·.num)=T.map (·.num):=by
 unfold jD
 rw[List.map_map]
 refine List.map_congr_left λn _=>?_
 simp only[Function.comp]
 split
 ·exact hf n
 ·rfl
theorem JN{T:List Nd}{k:Nat}{f:Nd->Nd}(hf:∀n,(f n).num=n.num)(j:Nat):nodeAt (jD T k f) j=if j=k then(nodeAt T k).map f else nodeAt T j:=by
 unfold nodeAt jD
 rw[List.find?_map]
 have e:((λn:Nd=>decide (n.num=j))∘λn:Nd=>if n.num=k then f n else n)=λn:Nd=>decide (n.num=j):=by
  funext n
  simp only[Function.comp]
  split
  ·rw[hf]
  ·rfl
 rw[e]
 cases hq:T.find? λn=>decide (n.num=j)with
 |none=>
  split
  ·rename_i h;subst h;rw[hq];rfl
  ·rfl
 |some n=>
  have hn:n.num=j:=by simpa using List.find?_some hq
  split
  ·rename_i h;subst h;rw[hq];simp[hn]
  ·rename_i h;simp[hn,h]
theorem mW{y:Nd}(j:Nat):∀T:List Nd,nodeAt (kH y T) j=if j=y.num then some y else nodeAt T j
 |[]=>by
  unfold kH nodeAt
  by_cases h:j=y.num
  ·subst h;simp
  ·simp[h,Ne.symm h]
 |z::r=>by
  have ih:=mW (y:=y) j r
  unfold kH
  split
  ·rename_i h
   unfold nodeAt at ih⊢
   rw[List.find?_cons,List.find?_cons]
   by_cases e:z.num=j
   ·have:¬j=y.num:=by omega
    simp[e,this]
   ·simp only[e,decide_false]
    exact ih
  ·unfold nodeAt
   rw[List.find?_cons]
   by_cases e:j=y.num
   ·subst e;simp
   ·simp[e,Ne.symm e]
theorem Fv{y n:Nd}:∀ {T:List Nd},n∈kH y T↔n=y\/n∈T
 |[]=>by simp[kH]
 |z::r=>by
  unfold kH
  split
  ·rw[List.mem_cons,Fv,List.mem_cons]
   constructor
   ·rintro(h|h|h)<;>simp[h]
   ·rintro(h|h|h)<;>simp[h]
  ·simp
theorem ot{y:Nd}:∀ {T:List Nd},(T.map (·.num)).Pairwise (· < ·)->(∀n∈T,n.num≠y.num)->((kH y T).map (·.num)).Pairwise (· < ·)
 |[],_,_=>by simp[kH]
 |z::r,h,hn=>by
  rw[List.map_cons,List.pairwise_cons]at h
  unfold kH
  split
  ·rename_i hl
   rw[List.map_cons,List.pairwise_cons]
   refine⟨λa ha=>?_,ot h.2 λn hm=>hn n (by simp[hm])⟩
   obtain⟨n,hm,rfl⟩:=List.mem_map.1 ha
   rcases Fv.1 hm with rfl|hm
   ·exact hl
   ·exact h.1 _ (List.mem_map.2 ⟨n,hm,rfl⟩)
  ·rename_i hl
   have:=hn z (by simp)
   rw[List.map_cons,List.pairwise_cons]
   refine⟨λa ha=>?_,by rw[List.map_cons,List.pairwise_cons];exact h⟩
   rw[List.map_cons,List.mem_cons]at ha
   rcases ha with rfl|ha
   ·omega
   ·have:=h.1 a ha;omega
theorem kv{T:List Nd}(h:(T.map (·.num)).Nodup){n:Nd}(hn:n∈T):nodeAt T n.num=some n:=by
 have h1:(nodeAt T n.num).isSome=true:=by unfold nodeAt;rw[List.find?_isSome];exact⟨n,hn,by simp⟩
 obtain⟨m,hm⟩:=Option.isSome_iff_exists.1 h1
 obtain⟨h2,h3⟩:=eM hm
 rw[hm,map_inj (λn:Nd=>n.num) h h2 hn h3]
theorem ip(n:Nd)(r:List Nd)(k:Nat):refs (n::r) k=ku n.cO k+refs r k:=by simp[refs]
theorem Pj{T:List Nd}{a:Nat}{f:Nd->Nd}(h:∀n∈T,n.num≠a):jD T a f=T:=by
 unfold jD
 conv=>rhs;rw[<-List.map_id T]
 refine List.map_congr_left λn hn=>?_
 rw[if_neg (h n hn)];rfl
theorem Fw{f:Nd->Nd}{a:Nat}{x:Nd}(k:Nat):∀ {T:List Nd},(T.map (·.num)).Nodup->nodeAt T a=some x->refs (jD T a f) k+ku x.cO k=refs T k+ku (f x).cO k
 |[],_,h=>by cases h
 |n::r,hn,h=>by
  rw[List.map_cons,List.nodup_cons]at hn
  have hr:jD (n::r) a f=(if n.num=a then f n else n)::jD r a f:=rfl
  unfold nodeAt at h
  rw[List.find?_cons]at h
  rw[hr,ip,ip]
  by_cases e:n.num=a
  ·simp only[e,decide_true,Option.some.injEq]at h
   subst h
   rw[if_pos e,Pj λm hm q=>hn.1 (List.mem_map.2 ⟨m,hm,q.trans e.symm⟩)]
   omega
  ·simp only[e,decide_false]at h
   rw[if_neg e]
   have:=Fw (f:=f) k hn.2 h
   omega
theorem Fx(y:Nd)(k:Nat):∀T:List Nd,refs (kH y T) k=refs T k+ku y.cO k
 |[]=>by simp[kH,refs]
 |z::r=>by
  unfold kH
  split
  ·rw[ip,ip,Fx y k r];omega
  ·rw[ip,ip];omega
theorem Fy(nm:Nm)(j k:Nat):∀l,ku (iq nm j l) k=ku l k+if j=k then 1 else 0
 |[]=>by simp[iq,ku,List.countP_cons]
 |y::r=>by
  have ih:=Fy nm j k r
  unfold iq
  unfold ku at ih⊢
  split
  ·rw[List.countP_cons,List.countP_cons,ih];omega
  ·rw[List.countP_cons,List.countP_cons];simp
theorem rB{nm:Nm}{k:Nat}{e:Nm×Nat}:∀ {l},e∈iq nm k l↔e=(nm,k)\/e∈l
 |[]=>by simp[iq]
 |z::r=>by
  unfold iq
  split
  ·rw[List.mem_cons,rB,List.mem_cons]
   constructor
   ·rintro(h|h|h)<;>simp[h]
   ·rintro(h|h|h)<;>simp[h]
  ·simp
theorem Fz(nm:Nm)(k:Nat):∀l,(iq nm k l).length=l.length+1
 |[]=>rfl
 |z::r=>by
  unfold iq
  split
  ·simp[Fz nm k r]
  ·rfl
theorem adH{a b:Nm}(h:¬a<b)(hn:a≠b):b<a:=by
 exact Classical.byContradiction λh2=>hn (List.le_antisymm (List.not_lt.1 h2) (List.not_lt.1 h))
theorem ud{nm:Nm}{k:Nat}:∀ {l:List (Nm×Nat)},(l.map (·.1)).Pairwise (· < ·)->lk l nm=none->((iq nm k l).map (·.1)).Pairwise (· < ·)
 |[],_,_=>by simp[iq]
 |z::r,h,hn=>by
  rw[List.map_cons,List.pairwise_cons]at h
  unfold lk at hn
  split at hn
  ·cases hn
  ·rename_i hne
   unfold iq
   split
   ·rename_i hl
    rw[List.map_cons,List.pairwise_cons]
    refine⟨λa ha=>?_,ud h.2 hn⟩
    obtain⟨e,he,rfl⟩:=List.mem_map.1 ha
    rcases rB.1 he with rfl|he
    ·exact hl
    ·exact h.1 _ (List.mem_map.2 ⟨e,he,rfl⟩)
   ·rename_i hl
    have hz:=adH hl (Ne.symm hne)
    rw[List.map_cons,List.pairwise_cons]
    refine⟨λa ha=>?_,by rw[List.map_cons,List.pairwise_cons];exact h⟩
    rw[List.map_cons,List.mem_cons]at ha
    rcases ha with rfl|ha
    ·exact hz
    ·exact List.lt_trans hz (h.1 a ha)
theorem TO(g:List (Nm×Nat)->List (Nm×Nat)):∀n,(fE g n).num=n.num:=λ_=>rfl
def cy(k:Nat)(kind:Int):Nd:=⟨k,if kind=1 then 1 else 2,1,[],[]⟩
def rC(T:List Nd):Nat:=((List.range 64).find? λk=>(nodeAt T k).isNone).getD 0
def ue(T:List Nd)(kind:Int)(path:Nm):List Nd×Int:=
 if(bU T path).2.2≠0 then(T,(bU T path).2.2)else if 64<=T.length then(T,27)else
  (jD (kH (cy (rC T) kind) T) (bU T path).1 (fE (iq (bU T path).2.1 (rC T))),0)
def TP(T:List Nd)(path:Nm):List Nd×Int:=
 if(eN T path).2.2.2≠0 then(T,(eN T path).2.2.2)else match nodeAt T (eN T path).2.2.1 with
  |none=>(T,1)
  |some n=>if n.kind≠1 then(T,23)else if n.cO≠[]then(T,25)else(adG (jD T (eN T path).1 (fE (MN (eN T path).2.1))) (eN T path).2.2.1,0)
def MP(T:List Nd)(path:Nm):List Nd×Int:=
 if(eN T path).2.2.2≠0 then(T,(eN T path).2.2.2)else match nodeAt T (eN T path).2.2.1 with
  |none=>(T,1)
  |some n=>if n.kind=1 then(T,24)else if n.d9=1
   then(adG (jD (jD T (eN T path).1 (fE (MN (eN T path).2.1))) (eN T path).2.2.1 (fL (-1))) (eN T path).2.2.1,0)
   else(jD (jD T (eN T path).1 (fE (MN (eN T path).2.1))) (eN T path).2.2.1 (fL (-1)),0)
def YR(T:List Nd)(path bh:Nm):List Nd×Int:=
 if(mh T path).2≠0 then(T,(mh T path).2)else if(bU T bh).2.2≠0 then(T,(bU T bh).2.2)else
  (jD (jD T (bU T bh).1 (fE (iq (bU T bh).2.1 (mh T path).1))) (mh T path).1 (fL 1),0)
def MQ(T:List Nd)(path bh:Nm):List Nd×Int:=
 if(eN T path).2.2.2≠0 then(T,(eN T path).2.2.2)else if bh=path then(T,0)else if W0 bh path=true then(T,26)else
  if(bU T bh).2.2≠0 then(T,(bU T bh).2.2)else
  (jD (jD T (eN T path).1 (fE (MN (eN T path).2.1))) (bU T bh).1 (fE (iq (bU T bh).2.1 (eN T path).2.2.1)),0)
def adI(off:Nat)(d l:List UInt8):List UInt8:=(TN l (max l.length (off+d.length))).take off++d++(TN l (max l.length (off+d.length))).drop (off+d.length)
def TQ(T:List Nd)(path:Nm)(off:Int)(d:List UInt8):List Nd×Int:=
 if(mh T path).2≠0 then(T,(mh T path).2)else if off<0\/256<d.length then(T,1)else if 512<off+d.length then(T,27)else if d=[]then(T,0)else
  (jD T (mh T path).1 (fD (adI off.toNat d)),0)
def adJ(T:List Nd)(path:Nm)(n:Int):List Nd×Int:=
 if(mh T path).2≠0 then(T,(mh T path).2)else if n<0 then(T,1)else if 512<n then(T,27)else
  (jD T (mh T path).1 (fD λl=>TN l n.toNat),0)
theorem FA{T:List Nd}{s:Nm}(h:(bU T s).2.2=0):∃x,nodeAt T (bU T s).1=some x/\x.kind=1/\lk x.cO (bU T s).2.1=none/\cV (bU T s).2.1=true:=by
 unfold bU at h⊢
 cases hs:jt s with
 |none=>rw[hs]at h;simp at h
 |some q=>
  obtain⟨ab,nm⟩:=q
  rw[hs]at h
  simp only at h⊢
  by_cases hc:(dS T ab).2≠0
  ·rw[if_pos hc]at h;exact absurd h hc
  ·rw[if_neg hc]at h⊢
   cases hx:nodeAt T (dS T ab).1 with
   |none=>rw[hx]at h;simp at h
   |some x=>
    rw[hx]at h
    simp only at h⊢
    by_cases hk:x.kind≠1
    ·rw[if_pos hk]at h;simp at h
    ·rw[if_neg hk]at h⊢
     by_cases hl:(lk x.cO nm).isSome=true
     ·rw[if_pos hl]at h;simp at h
     ·rw[if_neg hl]
      refine⟨x,hx,by simpa using hk,by simpa using hl,?_⟩
      obtain⟨l,h1,_⟩:=BW hs
      exact(jj h1).2 nm (by simp)
theorem pO.le{B B':Nat}{n:Nd}(h:pO B n)(hb:B<=B'):pO B' n:={h with W2:=by have:=h.W2;omega,W3:=by have:=h.W3;omega}
theorem qw.le{B B':Nat}{T:List Nd}(h:qw B T)(hb:B<=B'):qw B' T:={h with Fp:=λn hn=>(h.Fp n hn).le hb}
theorem qw.at'{B:Nat}{T:List Nd}(h:qw B T){k:Nat}{n:Nd}(hn:nodeAt T k=some n):pO B n/\n.num=k/\n∈T:=⟨h.Fp n (eM hn).1,(eM hn).2,(eM hn).1⟩
theorem qw.mk'{B:Nat}{T:List Nd}(sorted:(T.map (·.num)).Pairwise (· < ·))(root:∃r,nodeAt T 0=some r/\r.kind=1)(Fp:∀k n,nodeAt T k=some n->pO B n)
 (YQ:∀k n,nodeAt T k=some n->∀e∈n.cO,(nodeAt T e.2).isSome=true) (cnt:∀k n,nodeAt T k=some n->k≠0->(refs T k:Int)=n.d9):qw B T where
 sorted:=sorted
 root:=root
 Fp n hn:=Fp n.num n (kv (iM sorted) hn)
 YQ n hn:=YQ n.num n (kv (iM sorted) hn)
 cnt n hn:=cnt n.num n (kv (iM sorted) hn)
theorem Pk{T:List Nd}{k:Nat}(h:∀n∈T,∀e∈n.cO,e.2≠k):refs T k=0:=by
 unfold refs
 induction T with
 |nil=>rfl
 |cons n r ih=>
  rw[List.map_cons,List.sum_cons,ih λm hm=>h m (by simp[hm])]
  have:ku n.cO k=0:=by unfold ku;rw[List.countP_eq_zero];intro e he;simpa using h n (by simp) e he
  omega
theorem free_spec{T:List Nd}(hs:(T.map (·.num)).Pairwise (· < ·))(hl:T.length<64):nodeAt T (rC T)=none/\rC T<64/\∀j<rC T,(nodeAt T j).isSome=true:=by
 have h:((List.range 64).find? λk=>(nodeAt T k).isNone).isSome=true:=by
  rw[List.find?_isSome]
  refine Classical.byContradiction λhno=>?_
  have hall:∀k<64,(nodeAt T k).isSome=true:=λk hk=>by
   cases hq:nodeAt T k with
   |none=>exact absurd ⟨k,List.mem_range.2 hk,by rw[hq];rfl⟩ hno
   |some _=>rfl
  have hp:(((T.map (·.num)).filter λk=>decide (k<64))).Perm (List.range 64):=by
   refine(List.perm_ext_iff_of_nodup ((iM hs).sublist List.filter_sublist) List.nodup_range).2 λk=>?_
   rw[List.mem_filter,List.mem_range]
   constructor
   ·intro h;simpa using h.2
   ·intro hk
    obtain⟨n,hn⟩:=Option.isSome_iff_exists.1 (hall k hk)
    obtain⟨h1,h2⟩:=eM hn
    exact⟨List.mem_map.2 ⟨n,h1,h2⟩,by simpa using hk⟩
  have h1:=hp.length_eq
  have h2:=List.length_filter_le (λk=>decide (k<64)) (T.map (·.num))
  rw[List.length_range]at h1
  rw[List.length_map]at h2
  omega
 obtain⟨k,hk⟩:=Option.isSome_iff_exists.1 h
 have e:rC T=k:=by unfold rC;rw[hk];rfl
 rw[e]
 have h1:=List.find?_some hk
 have h2:=List.mem_range.1 (List.mem_of_find?_eq_some hk)
 refine⟨by simpa using h1,h2,λj hj=>?_⟩
 obtain⟨_,pre,post,h3,h4⟩:=List.find?_eq_some_iff_append.1 hk
 have:j∈pre:=by
  have hj1:j∈List.range 64:=List.mem_range.2 (by omega)
  have hp:(pre++k::post).Pairwise (· < ·):=by rw[<-h3];exact List.pairwise_lt_range
  rw[h3,List.mem_append]at hj1
  rcases hj1 with h|h
  ·exact h
  ·rw[List.pairwise_append]at hp
   rcases List.mem_cons.1 h with rfl|h
   ·omega
   ·have:=(List.pairwise_cons.1 hp.2.1).1 j h;omega
 have:=h4 j this
 cases hq:nodeAt T j with
 |none=>rw[hq]at this;simp at this
 |some _=>rfl
theorem pO.put{B:Nat}{n:Nd}(h:pO B n)(hk:n.kind=1){nm:Nm}{k:Nat}(hn:lk n.cO nm=none)(ho:cV nm=true)(h0:k≠0):pO (B+1) (fE (iq nm k) n) where
 kind:=by
  rcases h.kind with⟨h1,h2,h3⟩|⟨h1,_⟩
  ·exact .inl ⟨h1,h2,h3⟩
  ·omega
 data:=h.data
 adD:=h.adD
 W2:=by have:=h.W2;simp only[fE];omega
 W3:=by have:=h.W3;simp only[fE,Fz];omega
 adE:=ud h.adE hn
 name e he:=by
  rcases rB.1 he with rfl|he
  ·exact⟨ho,h0⟩
  ·exact h.name e he
 num:=h.num
theorem qw.aav{B:Nat}{T:List Nd}(wf:qw B T){k:Nat}{n:Nd}(hn:nodeAt T k=some n)(h0:k≠0):(refs T k:Int)=n.d9:=by
 have:=wf.cnt n (wf.at' hn).2.2 (by rw[(wf.at' hn).2.1];exact h0)
 rw[(wf.at' hn).2.1]at this
 exact this
theorem qw.make{B:Nat}{T:List Nd}(wf:qw B T)(kind:Int)(hB:1<=B)(path:Nm):qw (B+1) (ue T kind path).1:=by
 unfold ue
 split
 ·exact wf.le (by omega)
 rename_i hc
 have hc:(bU T path).2.2=0:=by simpa using hc
 split
 ·exact wf.le (by omega)
 rename_i hl
 obtain⟨hf,aaw,hfj⟩:=free_spec wf.sorted (by omega)
 obtain⟨x,hx,Z3,nq,hxn⟩:=FA hc
 obtain⟨f,Yl⟩:∃f,rC T=f:=⟨_,rfl⟩
 rw[Yl]at hf aaw hfj⊢
 generalize (bU T path).1=up at*
 generalize (bU T path).2.1=nm at*
 have hf0:f≠0:=λe=>by obtain⟨r,hr,_⟩:=wf.root;rw[<-e,hf]at hr;cases hr
 have hne:up≠f:=λe=>by rw[e,hf]at hx;cases hx
 have ahd:∀n∈T,n.num≠f:=λn hn e=>by
  have:=kv (iM wf.sorted) hn
  rw[e,hf]at this;cases this
 have hs1:((kH (cy f kind) T).map (·.num)).Pairwise (· < ·):=ot wf.sorted ahd
 have QX:∀j,nodeAt (jD (kH (cy f kind) T) up (fE (iq nm f))) j=if j=up then some (fE (iq nm f) x)else if j=f then some (cy f kind)else nodeAt T j:=λj=>by
  rw[JN (TO _)]
  split
  ·rw[mW,if_neg (by exact hne),hx];rfl
  ·rw[mW];rfl
 have hx1:nodeAt (kH (cy f kind) T) up=some x:=by rw[mW,if_neg (by exact hne),hx]
 have ahe:pO (B+1) (cy f kind):=by
  refine⟨?_,by simp[cy],by simp[cy],by simp only[cy];omega,by simp[cy],by simp[cy],by simp[cy],aaw⟩
  by_cases hk:kind=1
  ·exact .inl ⟨by simp[cy,hk],rfl,rfl⟩
  ·exact .inr ⟨by simp[cy,hk],rfl⟩
 have YS:∀j,(nodeAt T j).isSome=true->(nodeAt (jD (kH (cy f kind) T) up (fE (iq nm f))) j).isSome=true:=λj hj=>by
  rw[QX];split
  ·rfl
  ·split
   ·rfl
   ·exact hj
 refine qw.mk' (by rw[Ph (TO _)];exact hs1) ?_ ?_ ?_ ?_
 ·obtain⟨r,h1,h2⟩:=wf.root
  rw[QX]
  split
  ·exact⟨_,rfl,Z3⟩
  ·rw[if_neg (Ne.symm hf0)];exact⟨r,h1,h2⟩
 ·intro k n hn
  rw[QX]at hn
  split at hn
  ·cases hn;exact(wf.at' hx).1.put Z3 nq hxn hf0
  ·split at hn
   ·cases hn;exact ahe
   ·exact(wf.at' hn).1.le (by omega)
 ·intro k n hn e he
  rw[QX k]at hn
  split at hn
  ·cases hn
   rcases rB.1 he with rfl|he
   ·rw[QX,if_neg (Ne.symm hne),if_pos rfl];rfl
   ·exact YS _ (wf.YQ x (wf.at' hx).2.2 e he)
  ·split at hn
   ·cases hn;simp[cy]at he
   ·exact YS _ (wf.YQ n (wf.at' hn).2.2 e he)
 ·intro k n hn h0
  have hr:=Fw (f:=fE (iq nm f)) k (iM hs1) hx1
  have h2:ku (fE (iq nm f) x).cO k=ku x.cO k+if f=k then 1 else 0:=Fy nm f k x.cO
  have h3:=Fx (cy f kind) k T
  have h4:ku (cy f kind).cO k=0:=rfl
  have hr':refs (jD (kH (cy f kind) T) up (fE (iq nm f))) k=refs T k+if f=k then 1 else 0:=by omega
  rw[hr']
  rw[QX k]at hn
  by_cases e:k=f
  ·subst e
   rw[if_neg (Ne.symm hne),if_pos rfl]at hn
   cases hn
   rw[Pk λm hm e he q=>?_]
   ·simp[cy]
   ·have:=wf.YQ m hm e he
    rw[q,hf]at this;cases this
  ·rw[if_neg (Ne.symm e),Nat.add_zero]
   split at hn
   ·rename_i e2;subst e2;cases hn
    have:=wf.aav hx h0
    exact this
   ·exact wf.aav hn h0
structure uf where
 kind:Int
 path:Nm
 bh:Nm
 off:Int
 n:Int
 da:Option Addr
 dl:Nat
 dc:Nat
def uf.val(c:uf):Value:=.agg #[.int .i64 c.kind,sE c.path,sE c.bh,.int .i64 c.off,.int .i64 c.n,.slice c.da c.dl c.dc]
variable {b:Nat}{t:TS}
theorem MT:ax Tryz.prog 98 #[] HP.tt (λv=>HP.ex λnb=>HP.ex λmb=>HP.and (v=.pointer (some ⟨nb,0,none⟩)) (HP.an (HP.one nb (.cells #[.int .i64 1,.int .i64 1,.slice none 0 0,.map (some mb)] 216 (0,0))) (qv mb []))):=by
 refine ah (ρ:=[]) mixed Tryz.func98 O8 ?_
 unfold Tt
 refine cg ?_
 intro mb nb
 exact .of λR h H=>⟨nb,mb,rfl,HP.ae H (λ_ h=>h) λz hz=>⟨[],0,⟨iJ.nil 0,λ_=>rfl⟩,hz⟩⟩
theorem aay{i:Nat}{x y:HN}{k:Nat}{f:Nd->Nd}(hn:(t.cS.map (·.num)).Nodup)(hi:t.ns[i]? =some x)(hk:x.p.num=k)(hy:y.p=f x.p):(t.Fs i y).cS=jD t.cS k f:=by
 unfold TS.cS TS.Fs jD
 have po:(t.ns.map (·.p.num)).Nodup:=by unfold TS.cS at hn;rw[List.map_map]at hn;exact hn
 refine List.ext_getElem? λj=>?_
 rw[List.getElem?_map,List.getElem?_set,List.map_map,List.getElem?_map]
 split
 ·rename_i e;subst e
  split
  ·rw[hi];simp[hy,hk]
  ·rename_i h;exact absurd (List.getElem?_eq_some_iff.1 hi).1 h
 ·rename_i e
  cases hj:t.ns[j]? with
  |none=>rfl
  |some z=>
   have:¬z.p.num=k:=λq=>by
    have h1:(t.ns.map (·.p.num))[i]? =some k:=by rw[List.getElem?_map,hi];simp[hk]
    have h2:(t.ns.map (·.p.num))[j]? =some k:=by rw[List.getElem?_map,hj];simp[q]
    obtain⟨l1,e1⟩:=List.getElem?_eq_some_iff.1 h1
    obtain⟨l2,e2⟩:=List.getElem?_eq_some_iff.1 h2
    rcases Nat.lt_or_gt_of_ne e with q|q
    ·exact List.pairwise_iff_getElem.1 po _ _ l1 l2 q (e1.trans e2.symm)
    ·exact List.pairwise_iff_getElem.1 po _ _ l2 l1 q (e2.trans e1.symm)
   simp[this]
theorem TR(y:HN):(t.BV y).cS=kH y.p t.cS:=by
 unfold TS.cS TS.BV
 induction t.ns with
 |nil=>rfl
 |cons z r ih=>
  show(BU y (z::r)).map (·.p)=kH y.p (z.p::r.map (·.p))
  unfold BU kH
  split
  ·rw[List.map_cons];congr 1
  ·rfl
theorem TT{t:TS}{x:HN}(h:x∈t.ns):∃i:Nat,t.ns[i]? =some x:=List.mem_iff_getElem?.1 h
theorem adK:Tryz.prog.underlying 182=some (.pointer 216):=by kernel_rfl
theorem rdU{s:Sem Next}{S U:HP}{v:Value}(r:aH Tryz.prog s S v):aH Tryz.prog s (HP.an U S) v:=r.imp λ_ _ H=>HP.ai H
theorem MU{t1:TS}{x:HN}{i:Nat}(hi:t1.ns[i]? =some x)(hk:x.p.kind=1)(nm:Nm)(k:Nat){U:HP}{K:HP->HP->Prop}(hK:K HP.tt (b8 b (t1.Fs i (x.TM (iq nm k x.p.cO))))):
 ∃q:Nat,aH Tryz.prog (Sn (.pointer (some ⟨x.nb,0,none⟩))) (HP.an U (b8 b t1)) (.pointer (some ⟨q,0,none⟩))/\∃m:Nat,aH Tryz.prog (bG 214 (.pointer (some ⟨q,3,none⟩))) (HP.an U (b8 b t1)) (.map (some m))/\
  aI Tryz.prog (jL 214 (.map (some m)) (sE nm) (.int .i64 k)) (HP.an U (b8 b t1)) λv=>HP.ex λa=>HP.ex λc=>HP.and (v=.tuple #[]) (HP.and (K a c) (HP.an a c)):=by
 have hm:=List.mem_of_getElem? hi
 have he:=JI (b:=b) hm
 have hmo:x.BT=some x.mb:=by unfold HN.BT;rw[if_pos hk]
 rw[hmo]at he
 refine⟨x.nb,gY,x.mb,rdU he,?_⟩
 refine(aau hi hk nm k).ak (λ_ _ H=>HP.ai H) ?_
 rintro v R h ⟨rfl,H⟩
 exact⟨_,_,rfl,hK,HP.aM H⟩
theorem eL.adL{k:Nat}{kind:Int}(hk:kind=1){nb mb:Nat}{R h:PH}(H:(HP.an (HP.one nb (.cells #[.int .i64 1,.int .i64 1,.slice none 0 0,.map (some mb)] 216 (0,0))) (qv mb [])).p R h):(eL ⟨cy k kind,nb,mb,none,0⟩).p R h:=by
 subst hk
 exact HP.ae H (λ_ h=>h) λz hz=>HP.ae (HP.aM hz) (λz _=>cp.nil _ _ _ _) λ_ h=>h
theorem eL.ahf{k:Nat}{kind:Int}(hk:¬kind=1){nb:Nat}{R h:PH}(H:(HP.one nb (.cells #[.int .i64 2,.int .i64 1,.slice none 0 0,.map none] 216 (0,0))).p R h):(eL ⟨cy k kind,nb,0,none,0⟩).p R h:=by
 have e:cy k kind=⟨k,2,1,[],[]⟩:=by unfold cy;rw[if_neg hk]
 rw[e]
 exact HP.ae (HP.az H) (λ_ h=>h) λz hz=>HP.ae (HP.az hz) (λz _=>cp.nil _ _ _ _) λz _=>rfl
set_option maxHeartbeats 1000000 in
theorem TU{B:Nat}(wf:qw B t.cS)(c:uf)(S:HP):ax Tryz.prog 351 #[.pointer (some ⟨b,0,none⟩),c.val] (HP.an (b8 b t) S)
 (λv=>HP.ex λt':TS=>HP.and (v=.int .i64 (ue t.cS c.kind c.path).2/\t'.cS=(ue t.cS c.kind c.path).1) (HP.an (b8 b t') S)):=by
 refine ah (ρ:=[.n b,.p (b8 b t),.i c.kind,.s c.path,.s c.bh,.i c.off,.i c.n,.a c.da,.n c.dl,.n c.dc,.p S]) mixed Tryz.func351 JF ?_
 unfold ML
 refine cg ?_
 intro x0
 refine(Pe wf c.path).ak (λ_ _ h=>h) ?_
 rintro v R h ⟨rfl,H⟩
 obtain⟨T1,H8⟩:∃q,ue t.cS c.kind c.path=q:=⟨_,rfl⟩
 rw[H8]
 unfold ue at H8
 by_cases hc:(bU t.cS c.path).2.2=0
 ·rw[if_neg (by simp[hc])]at H8
  rw[if_pos hc]
  obtain⟨xu,hxu,Z3,-⟩:=FA hc
  obtain⟨x,hx,VQ,uX⟩:=TH (by rw[hxu];rfl)
  have YT:MM t.ns (bU t.cS c.path).1=.pointer (some ⟨x.nb,0,none⟩):=by unfold MM;rw[hx];rfl
  rw[YT]
  refine⟨.pointer (some ⟨x.nb,0,none⟩),HP.tt,_,_,rfl,⟨λh=>absurd hc h,λ_=>⟨t.mb,pi,t.ns.length,by rw[TE];exact TG (by have:=iM wf.sorted;unfold TS.cS at this;rw[List.map_map]at this;exact this),?_⟩⟩,HP.aM H⟩
  have hlen:t.cS.length=t.ns.length:=by unfold TS.cS;rw[List.length_map]
  rw[hlen]at H8
  refine⟨λhl=>.of λR h H=>⟨t,⟨?_,?_⟩,H⟩,λhl=>?_⟩
  ·rw[if_pos (by omega)]at H8;rw[<-H8]
  ·rw[if_pos (by omega)]at H8;rw[<-H8]
  rw[if_neg (by omega)]at H8
  obtain⟨hf,aaw,hfj⟩:=free_spec wf.sorted (by omega)
  generalize Yl:rC t.cS=f at*
  refine⟨λi=>∃k:Nat,i=k/\k<=f,λi=>f - i.toNat,⟨1,rfl,?_⟩,?_⟩
  ·refine Nat.pos_of_ne_zero λe=>?_
   obtain⟨r,hr,_⟩:=wf.root
   rw[e,hr]at hf;cases hf
  rintro _ ⟨k,rfl,hk⟩
  refine⟨t.mb,pi,.pointer ((uI t.ns k).map λx=>⟨x.nb,0,none⟩),JG k,_,lf (by kernel_rfl) adK,⟨λh1=>?_,λh1=>?_⟩⟩
  ·have hkf:k≠f:=λe=>by
    have:nodeAt t.cS k=none:=by rw[e];exact hf
    rw[qu]at this
    rw[Option.isSome_map]at h1
    cases hq:uI t.ns k with
    |none=>rw[hq]at h1;cases h1
    |some _=>rw[hq]at this;cases this
   exact⟨jN _ (by omega) (by omega),λ_=>⟨⟨k+1,by omega,by omega⟩,by dsimp only;omega⟩⟩
  ·have hkf:k=f:=by
    rcases Nat.lt_or_eq_of_le hk with h|h
    ·have:=hfj k h
     rw[qu,Option.isSome_map]at this
     rw[Option.isSome_map]at h1
     exact absurd this h1
    ·exact h
   subst hkf
   have iW:∀(y:HN) (i:Nat),y.p=cy k c.kind->(t.BV y).ns[i]? =some x->((t.BV y).Fs i (x.TM (iq (bU t.cS c.path).2.1 k x.p.cO))).cS=T1.1:=λy i hy hi=>by
    rw[<-H8]
    rw[aay ?_ hi (Fl hx).2 (f:=fE (iq (bU t.cS c.path).2.1 k)) rfl,TR,hy]
    rw[TR,hy]
    refine iM (ot wf.sorted λn hn e=>?_)
    have:=kv (iM wf.sorted) hn
    rw[e]at this
    exact absurd (hf.symm.trans this) (by simp)
   refine⟨λTV=>⟨t.mb,pi,?_⟩,λTV=>⟨t.mb,pi,λnb=>?_⟩⟩
   ·refine MT.ak (λ_ _ h=>h) ?_
    rintro v R h ⟨nb,mb,rfl,H⟩
    refine⟨.pointer (some ⟨nb,0,none⟩),eL ⟨cy k c.kind,nb,mb,none,0⟩,rfl,?_,?_⟩
    ·refine(MO (b:=b) (t:=t) ⟨cy k c.kind,nb,mb,none,0⟩).ak (λ_ _ h=>h) ?_
     rintro v R h ⟨rfl,H⟩
     obtain⟨i,hi⟩:=TT (t:=t.BV ⟨cy k c.kind,nb,mb,none,0⟩) (x:=x) ((pj _ _).mem_iff.2 (by simp[uX]))
     exact⟨_,rfl,MU hi (by rw[hxu]at VQ;cases VQ;exact Z3) _ k (.of λR h H=>⟨_,⟨by rw[<-H8],iW _ i rfl hi⟩,H⟩),H⟩
    ·exact eL.adL TV H
   ·refine(MO (b:=b) (t:=t) ⟨cy k c.kind,nb,0,none,0⟩).ak (λ_ _ H=>HP.ae H (λ_ h=>h) λz hz=>eL.ahf TV hz) ?_
    rintro v R h ⟨rfl,H⟩
    obtain⟨i,hi⟩:=TT (t:=t.BV ⟨cy k c.kind,nb,0,none,0⟩) (x:=x) ((pj _ _).mem_iff.2 (by simp[uX]))
    exact⟨_,rfl,MU hi (by rw[hxu]at VQ;cases VQ;exact Z3) _ k (.of λR h H=>⟨_,⟨by rw[<-H8],iW _ i rfl hi⟩,H⟩),H⟩
 ·refine⟨.pointer none,HP.tt,(bU t.cS c.path).2.1,(bU t.cS c.path).2.2,?_,⟨λ_=>.of λR h H=>⟨t,⟨?_,?_⟩,H⟩,λh=>absurd h hc⟩,HP.aM H⟩
  ·rw[if_neg hc];rfl
  ·rw[if_pos hc]at H8;rw[<-H8]
  ·rw[if_pos hc]at H8;rw[<-H8]
end
section
open RX
variable {b:Nat}{t:TS}
end
section
open RX
variable {b:Nat}{t:TS}
def YU(T:List Nd)(path:Nm)(off n:Int):Int×List UInt8:=
 if(mh T path).2≠0 then((mh T path).2,[])else if off<0\/n<0\/256<n then(1,[])else match nodeAt T (mh T path).1 with
  |none=>(0,[])
  |some x=>(0,(x.data.drop off.toNat).take n.toNat)
structure eV where
 bM:Int:=0
 kind:Int:=0
 size:Int:=0
 d9:Int:=0
 data:List UInt8:=[]
 aL:List Nm:=[]
def eV.at(a:eV)(da:Option Addr)(dc:Nat)(na:Option Addr)(nc:Nat):Value:=
 .agg #[.int .i64 a.bM,.int .i64 a.kind,.int .i64 a.size,.int .i64 a.d9,.slice da a.data.length dc,.slice na a.aL.length nc]
def adM(da:Option Addr)(dc:Nat)(na:Option Addr)(nc:Nat)(a:eV):HP:=HP.an (du da a.data.length dc a.data) (tX na a.aL.length nc a.aL)
theorem adM.nil{a:eV}(hd:a.data=[])(hn:a.aL=[]){A:HP}{R h:PH}(H:A.p R h):(HP.an (du none a.data.length 0 a.data) (HP.an (tX none a.aL.length 0 a.aL) A)).p R h:=by
 rw[hd,hn]
 exact HP.ae (HP.aM H) (λ_ _=>cp.nil _ _ _ _) λz hz=>HP.ae (HP.aM hz) (λ_ _=>cp.nil _ _ _ _) λ_ h=>h
def ahh(b:Nat)(t:TS)(S:HP)(a:eV)(v:Value):HP:=HP.ex λda=>HP.ex λdc=>HP.ex λna=>HP.ex λnc=>HP.and (v=a.at da dc na nc) (HP.an (du da a.data.length dc a.data) (HP.an (tX na a.aL.length nc a.aL) (HP.an (b8 b t) S)))
def aaz(T:List Nd)(path:Nm)(off n:Int):eV:={bM:=(YU T path off n).1,data:=(YU T path off n).2}
def adN(T:List Nd)(path:Nm):eV:=
 if(dS T path).2≠0 then{bM:=(dS T path).2}else match nodeAt T (dS T path).1 with
  |none=>{}
  |some x=>{kind:=x.kind,size:=if x.kind=1 then x.cO.length else x.data.length,d9:=x.d9}
def adO(T:List Nd)(path:Nm):eV:=
 if(dS T path).2≠0 then{bM:=(dS T path).2}else match nodeAt T (dS T path).1 with
  |none=>{}
  |some x=>if x.kind≠1 then{bM:=23}else{aL:=x.cO.map (·.1)}
end
section
open RX
variable {b:Nat}{t:TS}
def W5(T:List Nd)(kind:Int)(path bh:Nm)(off n:Int)(d:List UInt8):List Nd×eV:=
 if kind=1\/kind=3 then((ue T kind path).1,{bM:=(ue T kind path).2})
 else if kind=2 then((TP T path).1,{bM:=(TP T path).2})
 else if kind=4 then((MP T path).1,{bM:=(MP T path).2})
 else if kind=5 then((YR T path bh).1,{bM:=(YR T path bh).2})
 else if kind=6 then((MQ T path bh).1,{bM:=(MQ T path bh).2})
 else if kind=7 then((TQ T path off d).1,{bM:=(TQ T path off d).2})
 else if kind=8 then(T,aaz T path off n)
 else if kind=9 then((adJ T path n).1,{bM:=(adJ T path n).2})
 else if kind=10 then(T,adN T path)
 else if kind=11 then(T,adO T path)
 else if kind=12 then(T,{})
 else(T,{bM:=1})
def wS(b:Nat)(r:List Nd×eV)(S:HP)(v:Value):HP:=HP.ex λt':TS=>HP.and (t'.cS=r.1) (ahh b t' S r.2 v)
theorem wS.bM{r:List Nd×eV}{t':TS}{S:HP}{v:Value}{e:Int}(hp:t'.cS=r.1)(hr:r.2={bM:=e})(hv:v=eV.at {bM:=e} none 0 none 0):HP.aV (HP.an (b8 b t') S) (wS b r S v):=by
 refine .of λR h H=>⟨t',hp,?_⟩
 rw[hr]
 exact⟨none,0,none,0,hv,adM.nil rfl rfl H⟩
theorem adP{f:FuncId}{args:Array Value}{S:HP}{X:List Nd×Int}{r:List Nd×eV}(tr:ax Tryz.prog f args (HP.an (b8 b t) S) (λv=>HP.ex λt':TS=>HP.and (v=.int .i64 X.2/\t'.cS=X.1) (HP.an (b8 b t') S)))(hr:(X.1,({bM:=X.2}:eV))=r):
 ax Tryz.prog f args (HP.an (b8 b t) S) (λv=>HP.ex λx:Int=>HP.ex λx1:HP=>HP.ex λx2:HP=>HP.and (v=.int .i64 x) (HP.and ((HP.an x1 x2).aV (wS b r S (.agg #[.int .i64 x,.int .i64 0,.int .i64 0,.int .i64 0,.slice none 0 0,.slice none 0 0]))) (HP.an x1 x2))):=by
 refine tr.ak (λ_ _ h=>h) ?_
 rintro v R h ⟨t',⟨rfl,hp⟩,H⟩
 exact⟨X.2,b8 b t',S,rfl,wS.bM (e:=X.2) (by rw[<-hr];exact hp) (by rw[<-hr]) rfl,H⟩
theorem FB{i j:Nat}{t ty:TypeId}{u v k:Value}(h:i≠j):bI (.insert t (.tmp i) (.const k) (.tmp j)) ty [(i,u),(j,v)]=jL t u k v:=by
 have hb:(i==j)=false:=by simpa using h
 simp[bI,execOp,jR,jL,List.find?,hb]
def FC:List Nd:=[cy 0 1]
theorem W6:qw 1 FC:=by
 refine qw.mk' (by simp[FC]) ⟨_,rfl,rfl⟩ (λk n h=>?_) (λk n h=>?_) (λk n h h0=>?_)
 ·obtain⟨h1,h2⟩:=eM h
  obtain rfl:n=cy 0 1:=by simpa[FC]using h1
  exact⟨.inl ⟨rfl,rfl,rfl⟩,by simp[cy],by simp[cy],by simp[cy],by simp[cy],by simp[cy],by simp[cy],by simp[cy]⟩
 ·obtain⟨h1,h2⟩:=eM h
  obtain rfl:n=cy 0 1:=by simpa[FC]using h1
  intro e he;simp[cy]at he
 ·obtain⟨h1,h2⟩:=eM h
  obtain rfl:n=cy 0 1:=by simpa[FC]using h1
  exact absurd h2.symm h0
theorem W7:ax Tryz.prog 71 #[] HP.tt (λv=>HP.ex λb:Nat=>HP.ex λt:TS=>HP.and (v=.pointer (some ⟨b,0,none⟩)/\t.cS=FC) (b8 b t)):=by
 refine ah (ρ:=[]) mixed Tryz.func71 O9 ?_
 unfold Tu
 refine cg ?_
 intro mb
 refine MT.ak (λ_ _ h=>h) ?_
 rintro v R h ⟨nb,em,rfl,H⟩
 refine⟨.pointer (some ⟨nb,0,none⟩),_,rfl,?_,H⟩
 clear H
 rw[FB (by decide)]
 have u:=(qj (r:=mb) (l:=[]) (c:=0) Tz Fo 0 (.pointer (some ⟨nb,0,none⟩))).frame (HP.an (HP.one nb (.cells #[.int .i64 1,.int .i64 1,.slice none 0 0,.map (some em)] 216 (0,0))) (qv em []))
 refine u.ak (λ_ _ h=>h) ?_
 rintro v R h ⟨h1,h2,d,l1,l2,⟨rfl,H1⟩,H2⟩
 refine⟨HP.an (HP.one mb (aJ dN (fy 0 (.pointer (some ⟨nb,0,none⟩)) 0 []) (jW 0 [] 0))) (HP.an (HP.one nb (.cells #[.int .i64 1,.int .i64 1,.slice none 0 0,.map (some em)] 216 (0,0))) (qv em [])),rfl,λb=>.of λR h H=>⟨b,⟨mb,[⟨cy 0 1,nb,em,none,0⟩]⟩,⟨rfl,rfl⟩,?_⟩,⟨h1,h2,d,l1,l2,H1,H2⟩⟩
 refine HP.ae H (λ_ h=>h) λz hz=>HP.ae hz (λy hy=>?_) λy hy=>?_
 ·refine⟨_,_,⟨(iJ.nil 0).put 0 _,λq=>?_⟩,hy⟩
  rw[kp]
  unfold jC
  simp only[cy,List.find?_cons,List.find?_nil]
  by_cases e:q=0
  ·subst e;rfl
  ·rw[if_neg e];simp[Ne.symm e];rfl
 ·exact bE.2 (HP.az (eL.adL rfl hy))
def nH(T:List Nd)(c:uf)(d:List UInt8):List Nd×eV:=W5 T c.kind c.path c.bh c.off c.n d
end
section
open RX
variable {b:Nat}{t:TS}
structure adQ where
 nd:Nd
 da:Option Addr
 dc:Nat
 ea:Option Addr
 ec:Nat
instance:Inhabited adQ:=⟨⟨⟨0,0,0,[],[]⟩,none,0,none,0⟩⟩
end
section
open RX
def TW(s d:TypeId)(u:Value):Sem Next:=do pure (.value (<-convert s d u))
theorem FD{s d ty:TypeId}{i:Nat}{u:Value}:bI (.convert s d (.tmp i)) ty [(i,u)]=TW s d u:=by simp[bI,execOp,jR,TW]
theorem adR(l:List UInt8)(A:HP):aI Tryz.prog (TW 9 42 (sE l)) A (λv=>HP.ex λx=>HP.ex λc=>HP.ex λC:Array Value=>HP.and (v=.slice (some ⟨x,0,none⟩) l.length c/\l.length<=c/\C.toList.take l.length=l.map fH)
 (HP.an (HP.one x (.cells C 5 (C.size,C.size+1))) A)):=λw R h F s a=>by
 have hr:=run_bytes_of_string (P:=Tryz.prog) w 9 42 5 ⟨l.toArray⟩ om lY SC
 have hz:(⟨l.toArray⟩:ByteArray).size=l.length:=by simp[ByteArray.size]
 rw[hz]at hr
 have s0:Sat w.drew R h F:=s.drew _
 obtain⟨s1,d1⟩:=s0.alloc (.cells (bytesRow ⟨l.toArray⟩ (grownCap w l.length 0 5)) 5 ((bytesRow ⟨l.toArray⟩ (grownCap w l.length 0 5)).size,(bytesRow ⟨l.toArray⟩ (grownCap w l.length 0 5)).size+1))
 have Oy:=grownCap_ge w l.length 0 5
 have vT:Same w (w.drew.alloc (.cells (bytesRow ⟨l.toArray⟩ (grownCap w l.length 0 5)) 5 ((bytesRow ⟨l.toArray⟩ (grownCap w l.length 0 5)).size,(bytesRow ⟨l.toArray⟩ (grownCap w l.length 0 5)).size+1))):=Same.trans (b:=w.drew) ⟨rfl,rfl,rfl,Nat.le_refl _⟩ (Same.alloc w.drew _)
 refine⟨_,_,_,by unfold TW sE;rw[Sem.run_bind,hr];rfl,rfl,vT,R,_,PH.le.refl _,s1,w.heap.size,_,bytesRow ⟨l.toArray⟩ (grownCap w l.length 0 5),⟨rfl,Oy,?_⟩,_,_,d1,PH.cC _ _,PH.ck d1,PH.cW _ _,a⟩
 simp[bytesRow,fH]
theorem rD(l:List UInt8)(A:HP):aI Tryz.prog (TW 9 42 (sE l)) A (λv=>HP.ex λx=>HP.ex λc=>HP.and (v=.slice (some ⟨x,0,none⟩) l.length c/\l.length<=c) (HP.an (aO (some ⟨x,0,none⟩) l.length l) A)):=
 (adR l A).post λv R h d ⟨x,c,C,⟨e,hc,ht⟩,H⟩=>by
   obtain⟨R1,h1,q1,q2,q3,q4,H1⟩:=(HP.aV.an (HP.aV.ez _ _) A) R h d H
   refine⟨R1,h1,q1,q2,q3,q4,x,c,⟨e,hc⟩,HP.ae H1 (λy hy=>⟨by simp,λ_=>⟨x,0,C,_,_,rfl,hy,?_⟩⟩) λ_ h=>h⟩
   rw[List.drop_zero,List.length_map];exact ht
def nz(k:Int):UInt8:=UInt8.ofNat (IntKind.u8.wrap k).toNat
theorem zH(k:Int):((nz k).toNat:Int)=IntKind.u8.wrap k:=by
 have h1:0<=IntKind.u8.wrap k/\IntKind.u8.wrap k<256:=by
  simp only[IntKind.wrap,IntKind.bits,IntKind.signed,Bool.false_and,Bool.false_eq_true,if_false];omega
 unfold nz
 rw[UInt8.toNat_ofNat']
 omega
def dO(k:Int):Nat:=(IntKind.u64.wrap k).toNat
theorem wT(k:Int):((dO k:Nat):Int)=IntKind.u64.wrap k:=by
 have h1:0<=IntKind.u64.wrap k:=by
  simp only[IntKind.wrap,IntKind.bits,IntKind.signed,Bool.false_and,Bool.false_eq_true,if_false];omega
 unfold dO;omega
theorem Ls.isSome{α:Type}{K:qg α}{a:Option Addr}{n:Nat}{l:List α}{R h:PH}(H:(Ls K a n l).p R h)(hn:n≠0):a.isSome=true:=bb.some H.2.1 (by omega)
theorem MV(b:Nat)(l:List UInt8)(v:Int)(hb:l.length+8<140737488355328):
 ax Tryz.prog 88 #[.pointer (some ⟨b,0,none⟩),.int .i64 v] (cA b l) (λr=>HP.and (r=.tuple #[]) (cA b (l++gw (dO v) 8))):=by
 refine ah (ρ:=[.n b,.p (cA b l),.i v]) mixed Tryz.func88 Ow ?_
 unfold SG
 refine cg ?_
 rw[<-wT v]
 refine(gb b l (dO v) 8 (by omega) hb).ak (λ_ _ h=>h) ?_
 rintro v R h ⟨rfl,H⟩
 exact⟨_,rfl,.of λR h H=>⟨trivial,H⟩,H⟩
end
namespace RX
-- eC/ahi.New:ρ:=[.i adS]
def JO:T:=
(.br (.lt 0 (.i 1))
(.ret (.au [.a .fZ,.k 2]) [])
(.br (.lt (.i 65536) 0)
(.ret (.au [.a .fZ,.k 2]) [])
(.new
(.ret (.au [.ptr 1 0,.k 0]) [(.b 1,.cells [0,.z,.k 0] 100)]))))
theorem zJ:tree Tryz.prog {} Tryz.f18 [0] [] 1=JO:=by kernel_rfl
def MW:T:=
(.rg (.sub 1 (.of 3))
(.ret (.w (.a (.int .i64 (.sub 1 (.of 3))))) [(.b 0,.cells [1,.s 2,6] 100),(2,5)]))
theorem JP:tree Tryz.prog {} Tryz.f314 [.ptr 0 0] [(.b 0,.cells [1,.s 2,6] 100),(2,5)] 7=MW:=by kernel_rfl
def zK:T:=
(.call 314 [.ptr 0 0] [(.b 0,.cells [1,.s 2,6] 100),(2,5)] [.i] 11 [(.b 0,.cells [1,.s 2,6] 100),(2,5)]
(.br (.eq 11 (.i 0))
(.ret (.k 4) [(.b 0,.cells [1,.s 2,6] 100),(2,5),(7,10)])
(.call 55 [.s 7] [(7,10)] [.a,.n,.n,.p,.p] (.s 12) [(12,15),(7,16)]
(.new
(.op (.call ⟨.builtin .append,#[.tmp 12,.tmp 16],#[98,98]⟩) 98 [(12,.s 2),(16,.sl (.b 17 0) (.n 1) (.n 1))] [(2,5),(.b 17,.cells [.k 1,.s 12] 175),(12,15)] [.a,.n,.n,.p] (.s 18) [(18,21),(.b 17,.cells [.k 1,.s 12] 175),(12,15)]
(.ret (.k 0) [(.b 0,.cells [1,.s 18,6] 100),(18,21),(7,16)]))))))
theorem BX:tree Tryz.prog {aB:=[314]} Tryz.f282 [.ptr 0 0,.s 7] [(.b 0,.cells [1,.s 2,6] 100),(2,5),(7,10)] 11=zK:=by kernel_rfl
def MX:T:=
(.ret (.au []) [(.b 0,.cells [1,.s 2,.int .i64 (.of 3)] 100),(2,5)])
theorem JQ:tree Tryz.prog {} Tryz.f128 [.ptr 0 0] [(.b 0,.cells [1,.s 2,6] 100),(2,5)] 7=MX:=by kernel_rfl
def FE:T:=
(.new
(.ret (.w (.a (.func 94 [(2,0)]))) [(.b 0,1),(.b 2,.cells [.ptr 0 0] 74)]))
theorem FF:tree Tryz.prog {} Tryz.f54 [.ptr 0 0] [(.b 0,1)] 2=FE:=by kernel_rfl
def zL:T:=
(.loop [.i,.p] [.z (.i 0),.p [(0,1)]]
(.br (.lt 10 (.of 6))
(.need (.le (.i 0) 10)
(.need (.is 5)
  (.ld 175 12 (.aW 5 10 2 0) [(5,8)] [.i,.a,.n,.n] (.agg [12,.s 13])
(.new
(.br (.eq 12 (.i 1))
  (.jw 0 [.s 13] [(0,11),(5,8)] [.c,.p] (.bool 17) [(0,18),(5,8)]
(.br (.not 17)
(.ret (.au []) [(0,18),(.b 2,.cells [.ptr 3 0] 74),(.b 3,.cells [4,.s 5,9] 100),(5,8)])
  (.rg (.add 10 (.i 1))
(.again 0 [.z (.add 10 (.i 1)),.p [(0,18)]]))))
  (.rg (.add 10 (.i 1))
(.again 0 [.z (.add 10 (.i 1)),.p [(0,11)]])))))))
(.ret (.au []) [(0,11),(.b 2,.cells [.ptr 3 0] 74),(.b 3,.cells [4,.s 5,9] 100),(5,8)])))
theorem BY:tree Tryz.prog {hv:=[(0,[.a 0])]} Tryz.f94 [.val 0,.ptr 2 0] [(0,1),(.b 2,.cells [.ptr 3 0] 74),(.b 3,.cells [4,.s 5,9] 100),(5,8)] 10=zL:=by kernel_rfl
def FG:T:=
(.new
(.call 54 [.ptr 0 0] [(.b 0,1)] [.v,.p] (.val 3) [(3,4),(.b 0,1)]
(.new
(.mF (.val 3) [(3,4),(.b 0,1)] [] [.a,.n,.n,.p] [.a .nil,.e (.cQ (.n 0) (.n 0)),.e (.cQ (.n 0) (.n 0)),.p []] [.a,.n,.n,.p] [.s 10] [(10,13)]
(.call 55 [.s 10] [(10,13)] [.a,.n,.n,.p,.p] (.s 14) [(14,17),(10,18)]
(.new
(.op (.call ⟨.builtin .append,#[.tmp 8,.tmp 11],#[105,105]⟩) 105 [(8,.s 6),(11,.sl (.b 19 0) (.n 1) (.n 1))] [(6,9),(.b 19,.cells [.s 14] 42),(14,17)] [.a,.n,.n,.p] (.s 20) [(20,23),(.b 19,.cells [.s 14] 42),(14,17)]
(.again 0 [.a 20,.e (.cQ 21 (.n 0)),.e (.cQ 22 (.n 0)),.p [(20,23)]]))))
(.ret (.s 6) [(.b 0,1),(6,9)])))))
theorem FH:tree Tryz.prog {hv:=[(0,[.b 2])],aB:=[54],iB:=[(54,0)],Zj:=[(0,[42])]} Tryz.f37 [.ptr 0 0] [(.b 0,1)] 2=FG:=by kernel_rfl
end RX
section
open RX
structure Pg where
 is:Int
 data:List UInt8
structure iN where
 is:Int
 a:Option Addr
 n:Nat
 c:Nat
def iN.aA(x:iN):List Value:=[.int .i64 x.is,.slice x.a x.n x.c]
def dJ(xs:List iN):List Value:=xs.flatMap iN.aA
def ir:List iN->List Pg->HP
 |[],[]=>HP.tt
 |x::xs,p::ps=>HP.and (x.is=p.is/\x.n=p.data.length/\p.data.length<=140737488355328) (HP.an (aO x.a x.n p.data) (ir xs ps))
 |_,_=>HP.pure False
theorem ir.any{R:PH}:∀ {xs:List iN} {ps:List Pg} {h h':PH},(ir xs ps).p R h->(ir xs ps).p R h'
 |[],[],_,_,_=>trivial
 |_::_,_::_,_,h',⟨q,H⟩=>⟨q,bb.join (HP.aj H) (ir.any (h':=h') (HP.ai H))⟩
 |[],_::_,_,_,H=>H
 |_::_,[],_,_,H=>H
theorem ir.IG{R h:PH}{x:iN}{p:Pg}(hx:x.is=p.is/\x.n=p.data.length/\p.data.length<=140737488355328)(hr:(aO x.a x.n p.data).p R h):∀ {xs:List iN} {ps:List Pg},(ir xs ps).p R h->(ir (xs++[x]) (ps++[p])).p R h
 |[],[],_=>⟨hx,bb.join hr (trivial:HP.tt.p R h)⟩
 |_::_,_::_,⟨q,H⟩=>⟨q,bb.join (HP.aj H) (ir.IG hx hr (HP.ai H)|>ir.any (h':=h))⟩
 |[],_::_,H=>H.elim
 |_::_,[],H=>H.elim
def Pn(room:Int)(ps:List Pg)(bD:Nat):Prop:=0<=room/\room<=65536/\(ps.length:Int)<=room/\bD<=ps.length
def dh(b:Nat)(room:Int)(ps:List Pg)(bD:Nat):HP:=HP.ex λa=>HP.ex λc=>HP.ex λxs=>HP.and (Pn room ps bD/\xs.length=ps.length) (HP.an (HP.one b (.cells #[.int .i64 room,.slice a ps.length c,.int .i64 bD] 100)) (HP.an (cp 175 2 a ps.length c (dJ xs)) (ir xs ps)))
theorem dh.kF{f:FuncId}{args:Array Value}{b:Nat}{room:Int}{ps:List Pg}{bD:Nat}{B:Value->HP}
 (t:∀a c xs,Pn room ps bD->xs.length=ps.length->ax Tryz.prog f args (HP.an (HP.one b (.cells #[.int .i64 room,.slice a ps.length c,.int .i64 bD] 100)) (HP.an (cp 175 2 a ps.length c (dJ xs)) (ir xs ps))) B):
 ax Tryz.prog f args (dh b room ps bD) B:=ax.ex λa=>ax.ex λc=>ax.ex λxs=>ax.pure λh=>t a c xs h.1 h.2
theorem TX(b:Nat)(room:Int)(a:Option Addr)(n c:Nat)(S:HP)(bD:Int)(h1: -100000<=room - n)(h2:room - n<=100000):
 ax Tryz.prog 314 #[.pointer (some ⟨b,0,none⟩)] (HP.an (HP.one b (.cells #[.int .i64 room,.slice a n c,.int .i64 bD] 100)) S)
  (λv=>HP.and (v=.int .i64 (room - n)) (HP.an (HP.one b (.cells #[.int .i64 room,.slice a n c,.int .i64 bD] 100)) S)):=by
 refine ah (ρ:=[.n b,.i room,.a a,.n n,.n c,.p S,.i bD]) mixed Tryz.func314 JP ?_
 unfold MW
 refine cY ?_
 exact⟨aK _ (by omega) (by omega),λ_=>.of λ_ _ H=>⟨trivial,H⟩⟩
theorem W8(n:Int)(h1:1<=n)(h2:n<=65536):ax Tryz.prog 18 #[.int .i64 n] HP.tt (λv=>HP.ex λb=>HP.and (v=.tuple #[.pointer (some ⟨b,0,none⟩),.int .i64 0]) (dh b n [] 0)):=by
 refine ah (ρ:=[.i n]) mixed Tryz.func18 zJ ?_
 unfold JO
 refine cY ?_
 refine⟨λh=>absurd h (by omega),λ_=>⟨λh=>absurd h (by omega),λ_ x=>.of λR h H=>?_⟩⟩
 exact⟨x,rfl,none,0,[],⟨⟨by omega,by omega,by simp;omega,by simp⟩,rfl⟩,HP.ae (HP.az H) (λ_ h=>h) λy _=>HP.az (cp.nil _ _ R y)⟩
theorem FI(b:Nat)(room:Int)(a:Option Addr)(n c:Nat)(bD:Int)(S:HP):ax Tryz.prog 128 #[.pointer (some ⟨b,0,none⟩)] (HP.an (HP.one b (.cells #[.int .i64 room,.slice a n c,.int .i64 bD] 100)) S)
 (λv=>HP.and (v=.tuple #[]) (HP.an (HP.one b (.cells #[.int .i64 room,.slice a n c,.int .i64 n] 100)) S)):=by
 refine ah (ρ:=[.n b,.i room,.a a,.n n,.n c,.p S,.i bD]) mixed Tryz.func128 JQ ?_
 unfold MX
 refine cY ?_
 exact .of λR h H=>⟨trivial,H⟩
theorem TY(b:Nat)(room:Int)(ps:List Pg)(bD:Nat):ax Tryz.prog 128 #[.pointer (some ⟨b,0,none⟩)] (dh b room ps bD) (λv=>HP.and (v=.tuple #[]) (dh b room ps ps.length)):=
 dh.kF λa c xs hI hx=>(FI b room a ps.length c bD _).ak (λ_ _ h=>h) λv R h ⟨e,H⟩=>⟨e,a,c,xs,⟨⟨hI.1,hI.2.1,hI.2.2.1,Nat.le_refl _⟩,hx⟩,H⟩
theorem adT:(Tryz.prog.info? 175).map (λi=>(i.zero,i.size,i.bytes))=some (some (.agg #[.int .i64 0,.slice none 0 0]),2,32):=by kernel_rfl
theorem ahj:Tryz.prog.underlying 98=some (.slice 175):=by kernel_rfl
theorem FJ(xs:List iN):∀u∈dJ xs,u.oneCell'=true:=λu hu=>by
 obtain⟨x,_,hx⟩:=List.mem_flatMap.1 hu
 simp only[iN.aA,List.mem_cons,List.not_mem_nil,or_false]at hx
 rcases hx with rfl|rfl<;>rfl
def jS(room:Int)(ps:List Pg)(p:Pg):Int×List Pg:=if room=ps.length then(4,ps)else(0,ps++[p])
theorem JR(b:Nat)(room:Int)(ps:List Pg)(bD:Nat)(a:Option Addr)(n c:Nat)(l:List UInt8)(S:HP)(hr:bR S a n (l.map fH))(hl:l.length=n)(hb:n<=140737488355328):
 ax Tryz.prog 282 #[.pointer (some ⟨b,0,none⟩),.slice a n c] (HP.an (dh b room ps bD) S) (λv=>HP.and (v=.int .i64 (jS room ps ⟨1,l⟩).1) (HP.an (dh b room (jS room ps ⟨1,l⟩).2 bD) S)):=by
 refine(ax.ex (A:=λda=>HP.ex λdc=>HP.ex λxs=>HP.and (Pn room ps bD/\xs.length=ps.length) (HP.an (HP.one b (.cells #[.int .i64 room,.slice da ps.length dc,.int .i64 bD] 100)) (HP.an (HP.an (cp 175 2 da ps.length dc (dJ xs)) (ir xs ps)) S)))
  λda=>ax.ex λdc=>ax.ex λxs=>ax.pure λhI=>?_).ak (λR h ⟨h1,h2,d,l1,l2,⟨da,dc,xs,hI,H⟩,hS⟩=>⟨da,dc,xs,hI,HP.aq ⟨h1,h2,d,l1,l2,H,hS⟩⟩) λ_ _ _ h=>h
 obtain⟨⟨i1,i2,i3,i4⟩,nq⟩:=hI
 refine ah (ρ:=[.n b,.i room,.a da,.n ps.length,.n dc,.p (HP.an (cp 175 2 da ps.length dc (dJ xs)) (ir xs ps)),.i bD,.a a,.n n,.n c,.p S]) mixed Tryz.func282 BX ?_
 unfold zK
 refine cY ?_
 refine(TX b room da ps.length dc _ bD (by omega) (by omega)).ak (λ_ _ h=>h) ?_
 rintro v R h ⟨rfl,H⟩
 refine⟨_,rfl,⟨λhz=>.of λR h H=>?_,λhz=>?_⟩,H⟩
 ·have e:jS room ps ⟨1,l⟩=(4,ps):=if_pos (by omega)
  rw[e]
  exact⟨rfl,HP.ae (HP.ay H) (λy hy=>⟨da,dc,xs,⟨⟨i1,i2,i3,i4⟩,nq⟩,hy⟩) λ_ h=>h⟩
 ·have e:jS room ps ⟨1,l⟩=(0,ps++[⟨1,l⟩]):=if_neg (by omega)
  rw[e]
  refine(ei S a n c l hr hl hb).ak (λ_ _ h=>h) ?_
  rintro v R h ⟨a',c',rfl,H⟩
  refine⟨a',n,c',aO a' n l,S,rfl,λy=>?_,H⟩
  rw[fm (by decide)]
  refine cY ?_
  obtain⟨i,hi,z1,z2,z3⟩:=info_parts adT
  have TZ:=fG 98 98 175 i _ ahj hi z1 (by rw[z2];rfl) (by omega) da ps.length dc (dJ xs) (HP.an (ir xs ps) (HP.an (HP.one y (.cells #[.int .i64 1,.slice a' n c'] 175)) (aO a' n l))) ⟨y,0,none⟩ 1 1 (iN.aA ⟨1,a',n,c'⟩) ((dW y _ _).left.right) (by rw[z2];rfl) (λu hu=>FJ [⟨1,a',n,c'⟩] u (by simpa[dJ]using hu)) (by unfold maxLen;omega) (by rw[z3];omega)
  rw[z2]at TZ
  refine TZ.ak (λR h H=>HP.aq H) ?_
  rintro v R h ⟨a2,c2,rfl,H⟩
  have aaA:dJ xs++iN.aA ⟨1,a',n,c'⟩=dJ (xs++[⟨1,a',n,c'⟩]):=by simp[dJ]
  rw[aaA]at H
  refine⟨a2,_,c2,HP.an (cp 175 2 a2 (ps.length+1) c2 (dJ (xs++[⟨1,a',n,c'⟩]))) (ir (xs++[⟨1,a',n,c'⟩]) (ps++[⟨1,l⟩])),rfl,.of λR h H=>⟨trivial,?_⟩,?_⟩
  ·have hlen:ps.length+1=(ps++[(⟨1,l⟩:Pg)]).length:=by simp
   rw[hlen]at H
   refine HP.ae (HP.ay H) (λy hy=>⟨a2,c2,_,⟨⟨i1,i2,by simp;omega,by simp;omega⟩,by simp[nq]⟩,hy⟩) λ_ h=>h
  ·have hall:=HP.aj (HP.ai H)
   have hro:=HP.ai (HP.ai (HP.ai H))
   have ahk:∀z,(ir (xs++[⟨1,a',n,c'⟩]) (ps++[⟨1,l⟩])).p R z:=λz=>ir.any (ir.IG (x:=⟨1,a',n,c'⟩) (p:=⟨1,l⟩) ⟨rfl,hl.symm,by simp only;omega⟩ hro hall)
   refine HP.ae H (λz hz=>HP.ae (HP.az hz) (λ_ h=>h) λz _=>ahk z) λz hz=>HP.ai hz
theorem FK(xs:List iN):∀(j:Nat) (x:iN),xs[j]? =some x->(dJ xs)[j*2]? =some (.int .i64 x.is)/\(dJ xs)[j*2+1]? =some (.slice x.a x.n x.c):=by
 induction xs with
 |nil=>intro j x h;simp at h
 |cons y r ih=>
  intro j x h
  cases j with
  |zero=>simp at h;subst h;simp[dJ,iN.aA]
  |succ j=>
   obtain⟨h1,h2⟩:=ih j x (by simpa using h)
   simp only[dJ,List.flatMap_cons]at h1 h2⊢
   have e1:(j+1)*2=j*2+2:=by omega
   rw[e1]
   exact⟨by simpa[iN.aA]using h1,by simpa[iN.aA]using h2⟩
theorem ir.aaB{R h:PH}:∀ {xs:List iN} {ps:List Pg} (i:Nat) {p:Pg},(ir xs ps).p R h->ps[i]? =some p->∃x,xs[i]? =some x/\x.is=p.is/\x.n=p.data.length/\p.data.length<=140737488355328/\(aO x.a x.n p.data).p R h
 |[],[],i,p,_,hp=>by simp at hp
 |x::xs,q::ps,0,p,⟨h1,H⟩,hp=>by simp at hp;subst hp;exact⟨x,rfl,h1.1,h1.2.1,h1.2.2,HP.aj H⟩
 |x::xs,q::ps,i+1,p,⟨h1,H⟩,hp=>by
  obtain⟨y,q1,q2,q3,q4⟩:=ir.aaB (h:=h) i (ir.any (HP.ai H)) (by simpa using hp)
  exact⟨y,by simpa using q1,q2,q3,q4⟩
 |[],_::_,_,_,H,_=>H.elim
 |_::_,[],_,_,H,_=>H.elim
abbrev BZ:=Option Addr×Nat×Nat
def JS(x:BZ):Value:=.slice x.1 x.2.1 x.2.2
def jk:List BZ->List (List UInt8)->HP
 |[],[]=>HP.tt
 |x::xs,l::ls=>HP.and (x.2.1=l.length/\l.length<=140737488355328) (HP.an (aO x.1 x.2.1 l) (jk xs ls))
 |_,_=>HP.pure False
theorem jk.any{R:PH}:∀ {xs:List BZ} {ps:List (List UInt8)} {h h':PH},(jk xs ps).p R h->(jk xs ps).p R h'
 |[],[],_,_,_=>trivial
 |_::_,_::_,_,h',⟨q,H⟩=>⟨q,bb.join (HP.aj H) (jk.any (h':=h') (HP.ai H))⟩
 |[],_::_,_,_,H=>H
 |_::_,[],_,_,H=>H
theorem jk.IG{R h:PH}{x:BZ}{p:List UInt8}(hx:x.2.1=p.length/\p.length<=140737488355328)(hr:(aO x.1 x.2.1 p).p R h):∀ {xs:List BZ} {ps:List (List UInt8)},(jk xs ps).p R h->(jk (xs++[x]) (ps++[p])).p R h
 |[],[],_=>⟨hx,bb.join hr (trivial:HP.tt.p R h)⟩
 |_::_,_::_,⟨q,H⟩=>⟨q,bb.join (HP.aj H) (jk.IG hx hr (HP.ai H)|>jk.any (h':=h))⟩
 |[],_::_,H=>H.elim
 |_::_,[],H=>H.elim
theorem jk.get{R h:PH}:∀ {xs:List BZ} {ps:List (List UInt8)} (i:Nat) {p:List UInt8},(jk xs ps).p R h->ps[i]? =some p->∃x,xs[i]? =some x/\x.2.1=p.length/\p.length<=140737488355328/\(aO x.1 x.2.1 p).p R h
 |[],[],i,p,_,hp=>by simp at hp
 |x::xs,q::ps,0,p,⟨h1,H⟩,hp=>by simp at hp;subst hp;exact⟨x,rfl,h1.1,h1.2,HP.aj H⟩
 |x::xs,q::ps,i+1,p,⟨h1,H⟩,hp=>by
  obtain⟨y,q1,q2,q3,q4⟩:=jk.get (h:=h) i (jk.any (HP.ai H)) (by simpa using hp)
  exact⟨y,by simpa using q1,q2,q3,q4⟩
 |[],_::_,_,_,H,_=>H.elim
 |_::_,[],_,_,H,_=>H.elim
def LL(a:Option Addr)(n c:Nat)(ls:List (List UInt8)):HP:=HP.ex λxs=>HP.and (xs.length=ls.length/\n=ls.length) (HP.an (cp 42 1 a n c (xs.map JS)) (jk xs ls))
theorem aaC:(Tryz.prog.info? 42).map (λi=>(i.zero,i.size,i.bytes))=some (some (.slice none 0 0),1,24):=by kernel_rfl
theorem adU:Tryz.prog.underlying 105=some (.slice 42):=by kernel_rfl
theorem W9(xs:List BZ):∀u∈xs.map JS,u.oneCell'=true:=λu hu=>by
 obtain⟨x,_,rfl⟩:=List.mem_map.1 hu;rfl
def bS(ps:List Pg):List (List UInt8):=ps.filterMap λp=>if p.is=1 then some p.data else none
theorem ug(ps:List Pg)(k:Nat)(p:Pg)(h:ps[k]? =some p):bS (ps.take (k+1))=bS (ps.take k)++(if p.is=1 then[p.data]else[]):=by
 obtain⟨hk,rfl⟩:=List.getElem?_eq_some_iff.1 h
 rw[List.take_succ_eq_append_getElem hk,bS,List.filterMap_append]
 congr 1
 simp only[List.filterMap_cons,List.filterMap_nil]
 by_cases e:ps[k].is=1<;>simp[e]
theorem JT(ps:List Pg)(k:Nat):bS (ps.take k)<+:bS ps:=by
 have:bS ps=bS (ps.take k)++bS (ps.drop k):=by
  rw[bS,bS,bS,<-List.filterMap_append,List.take_append_drop]
 rw[this];exact List.prefix_append _ _
def T0(bx b:Nat):HP:=HP.one bx (.cells #[.pointer (some ⟨b,0,none⟩)] 74)
theorem Po(b:Nat)(D:HP):ax Tryz.prog 54 #[.pointer (some ⟨b,0,none⟩)] D
 (λv=>HP.ex λbx=>HP.and (v=.func (.func 94) #[] #[.pointer (some ⟨bx,0,none⟩)]) (HP.an (T0 bx b) D)):=by
 refine ah (ρ:=[.n b,.p D]) mixed Tryz.func54 FF ?_
 unfold FE
 refine cY ?_
 exact λx=>.of λR h H=>⟨x,rfl,HP.ao H⟩
def aaD(ps:List Pg)(ys:List (List UInt8))(args:Array Value)(ys':List (List UInt8)):Prop:=∃a n c l,args= #[.slice a n c]/\ys'=ys++[l]/\ys'<+:bS ps
def prW(ps:List Pg)(ys:List (List UInt8))(args:Array Value):HP:=HP.ex λz:BZ×List UInt8=>HP.and (args= #[JS z.1]/\z.2.length=z.1.2.1/\z.1.2.1<=140737488355328/\ys++[z.2]<+:bS ps) (aO z.1.1 z.1.2.1 z.2)
theorem JU:tD Tryz.prog 94:=⟨_,Tryz.func94,by kernel_rfl,by kernel_rfl⟩
theorem Xa{α:Type}{ys W:List α}{x y:α}(h:ys++[x]<+:W)(h':ys++[y]<+:W):x=y:=by
 obtain⟨t,ht⟩:=h
 obtain⟨t',ht'⟩:=h'
 rw[<-ht,List.append_assoc,List.append_assoc]at ht'
 have:=List.append_cancel_left ht'
 simpa using(List.cons.inj this).1.symm
theorem JV(bx b:Nat)(room:Int)(ps:List Pg)(bD:Nat):vf Tryz.prog (.func (.func 94) #[] #[.pointer (some ⟨bx,0,none⟩)]) (HP.an (T0 bx b) (dh b room ps bD)) (λ_=>HP.tt) (prW ps) (aaD ps) (λys=>ys=bS ps) []:=by
 refine⟨_,_,rfl,JU,λl K Jx hr=>?_⟩
 refine(ax.ex (A:=λda=>HP.ex λdc=>HP.ex λxs=>HP.and (Pn room ps bD/\xs.length=ps.length) (HP.an (HP.an HP.tt (K [])) (HP.an (T0 bx b) (HP.an (HP.one b (.cells #[.int .i64 room,.slice da ps.length dc,.int .i64 bD] 100)) (HP.an (cp 175 2 da ps.length dc (dJ xs)) (ir xs ps))))))
  λda=>ax.ex λdc=>ax.ex λxs=>ax.pure λhI=>?_).ak (λR h H=>?_) λ_ _ _ h=>h
 rotate_left
 ·obtain⟨h1,h2,d,l1,l2,hK,h3,h4,d2,l3,l4,hB,da,dc,xs,hI,H⟩:=HP.ao H
  exact⟨da,dc,xs,hI,h1,h2,d,l1,l2,hK,h3,h4,d2,l3,l4,hB,H⟩
 obtain⟨hD,nq⟩:=hI
 refine ax.bV (φ:=(ps.length≠0->da.isSome=true)/\∀(k:Nat) (p:Pg),ps[k]? =some p->∃x:iN,xs[k]? =some x/\x.is=p.is/\x.n=p.data.length/\p.data.length<=140737488355328) (λR h H=>⟨λhn=>cp.some (HP.aj (HP.ai (HP.ai (HP.ai H)))) (by omega),λk p hp=>by
  obtain⟨x,q1,q2,q3,q4,_⟩:=ir.aaB k (HP.ai (HP.ai (HP.ai (HP.ai H)))) hp
  exact⟨x,q1,q2,q3,q4⟩⟩) λ⟨hda,hall⟩=>?_
 obtain⟨pd,hpd⟩:∃d,Tryz.prog.underlying 175=some d:=Option.isSome_iff_exists.1 (by kernel_rfl)
 refine ah (ρ:=[.v (.func (.yield l) #[] #[]),.p (HP.an HP.tt (K [])),.n bx,.n b,.i room,.a da,.n ps.length,.n dc,.p (HP.an (cp 175 2 da ps.length dc (dJ xs)) (ir xs ps)),.i bD]) mixed Tryz.func94 BY ?_
 unfold zL
 refine cY ?_
 have iW:∀J:HP,HP.aV J (iy (λ_=>HP.tt) K Jx (λys=>ys=bS ps))->HP.aV (HP.an J (HP.an (HP.one bx (.cells #[.pointer (some ⟨b,0,none⟩)] 74)) (HP.an (HP.one b (.cells #[.int .i64 room,.slice da ps.length dc,.int .i64 bD] 100)) (HP.an (cp 175 2 da ps.length dc (dJ xs)) (ir xs ps)))))
  (HP.an (HP.an (T0 bx b) (dh b room ps bD)) (iy (λ_=>HP.tt) K Jx (λys=>ys=bS ps))):=λJ hJ=>
  (hJ.an _).trans (.of λR h H=>HP.ao (HP.ae H (λ_ h=>h) λy hy=>HP.ae hy (λ_ h=>h) λz hz=>⟨da,dc,xs,⟨hD,nq⟩,hz⟩))
 refine⟨λi P=>∃k:Nat,i=k/\k<=ps.length/\HP.aV P (HP.an HP.tt (K (bS (ps.take k)))),λi P=>ps.length - i.toNat,⟨0,rfl,Nat.zero_le _,HP.aV.refl _⟩,?_⟩
 rintro _ P ⟨k,rfl,hk,hP⟩
 refine⟨λhlt=>⟨by omega,λ_=>⟨hda (by omega),λ_=>?_⟩⟩,λlN=>?_⟩
 ·have qX:k<ps.length:=by omega
  have hg:ps[k]? =some ps[k]:=List.getElem?_eq_getElem qX
  have adV:IntKind.i64.min<=(k:Int)+1/\(k:Int)+1<=IntKind.i64.max:=aK _ (by omega) (by have:=hD.2.1;have:=hD.2.2.1;omega)
  obtain⟨x,hx,x1,x2,x3⟩:=hall k _ hg
  have vP:ps[k].is≠1->bS (ps.take (k+1))=bS (ps.take k):=λh=>by rw[ug ps k _ hg,if_neg h,List.append_nil]
  have T2:ps[k].is=1->bS (ps.take (k+1))=bS (ps.take k)++[ps[k].data]:=λh=>by rw[ug ps k _ hg,if_pos h]
  refine⟨x.is,x.a,x.n,x.c,?_,λy=>?_⟩
  ·rw[qe]
   refine cY ?_
   rw[Int.toNat_natCast]
   obtain⟨g1,g2⟩:=FK xs k _ hx
   refine kk (vs:=[.int .i64 x.is,.slice x.a x.n x.c]) hpd (by kernel_rfl) ((cp.rd 175 2 da ps.length dc (dJ xs)).left (B:=ir xs ps)) (by kernel_rfl) (by simp) λj v hj=>?_
   match j with
   |0=>simp at hj;subst hj;simpa using g1
   |1=>simp at hj;subst hj;simpa using g2
   |j+2=>simp at hj
  ·rw[x1]
   refine⟨λh1=>?_,λh1=>⟨adV,λ_=>⟨⟨k+1,by omega,by omega,by rw[vP h1];exact hP⟩,by dsimp only;omega⟩⟩⟩
   have hpre:bS (ps.take k)++[ps[k].data]<+:bS ps:=by rw[<-T2 h1];exact JT ps _
   refine(hr (bS (ps.take k)) #[.slice x.a x.n x.c] ⟨_,x.a,x.n,x.c,ps[k].data,rfl,rfl,hpre⟩).be (K:=HP.an (cp 175 2 da ps.length dc (dJ xs)) (ir xs ps)) ?_ ?_
   ·refine(hP.an _).trans (.of λR h H=>?_)
    have hA:=HP.ai (HP.ai H)
    obtain⟨x',q1,_,_,_,q5⟩:=ir.aaB k hA hg
    rw[hx]at q1
    cases q1
    refine HP.ae H (λy hy=>?_) λ_ h=>h
    exact HP.ae (bb.join (B:=HP.an HP.tt (K (bS (ps.take k)))) q5 hy) (λz hz=>⟨((x.a,x.n,x.c),ps[k].data),⟨rfl,x2.symm,by dsimp only;omega,hpre⟩,hz⟩) λ_ h=>h
   ·refine λv=>.of λR h ⟨lC,h2,dj,l1,l2,⟨b',hv,hb⟩,hC⟩=>?_
    cases b' with
    |true=>
     refine⟨true,HP.ex λg'=>HP.and (aaD ps (bS (ps.take k)) #[.slice x.a x.n x.c] g') (HP.an HP.tt (K g')),hv,⟨λh=>absurd rfl h,λ_=>⟨adV,λ_=>⟨⟨k+1,by omega,by omega,?_⟩,by dsimp only;omega⟩⟩⟩,lC,h2,dj,l1,l2,hb,hC⟩
     refine .of λR h ⟨g',⟨_,_,_,l',_,hg1,hg2⟩,H⟩=>?_
     subst hg1
     rw[T2 h1,Xa hpre hg2]
     exact H
    |false=>
     exact⟨false,Jx,hv,⟨λ_=>iW Jx (.of λR h H=>⟨none,H⟩),λh=>absurd h (by simp)⟩,lC,h2,dj,l1,l2,hb,hC⟩
 ·have hke:k=ps.length:=by omega
  subst hke
  rw[List.take_length]at hP
  exact iW P (hP.trans (.of λR h H=>⟨some (bS ps),rfl,H⟩))
theorem Pp(b:Nat)(room:Int)(ps:List Pg)(bD:Nat):ax Tryz.prog 37 #[.pointer (some ⟨b,0,none⟩)] (dh b room ps bD)
 (λv=>HP.ex λa=>HP.ex λc=>HP.and (v=.slice a (bS ps).length c/\Pn room ps bD) (HP.an (dh b room ps bD) (LL a (bS ps).length c (bS ps)))):=by
 refine ax.bV (φ:=Pn room ps bD) (λR h ⟨_,_,_,hI,_⟩=>hI.1) λhD=>?_
 refine ah (ρ:=[.n b,.p (dh b room ps bD)]) mixed Tryz.func37 FH ?_
 unfold FG
 refine cY ?_
 intro ob
 refine(Po b (dh b room ps bD)).ak (λ_ _ h=>h) ?_
 rintro v R h ⟨bx,rfl,H⟩
 refine⟨.func (.func 94) #[] #[.pointer (some ⟨bx,0,none⟩)],T0 bx b,rfl,λdb=>?_,H⟩
 have hw:(bS ps).length<=65536:=by
  have h1:(bS ps).length<=ps.length:=List.length_filterMap_le _ _
  have:=hD.2.1
  have:=hD.2.2.1
  omega
 refine⟨List (List UInt8),λ_=>HP.tt,prW ps,aaD ps,λys=>ys=bS ps,[],λys a n c P=>n=ys.length/\ys<+:bS ps/\HP.aV P (LL a n c ys),JV bx b room ps bD,?_,?_,?_,?_⟩
 ·exact⟨rfl,List.nil_prefix,.of λR h _=>⟨[],⟨rfl,rfl⟩,cp.nil _ _ R h|>HP.az⟩⟩
 ·intro ys a n c P _;rfl
 ·rintro ys args ⟨g',a0,n0,c0,l0,rfl,rfl,hpre⟩ a n c P ⟨rfl,R0,hP⟩
  refine⟨a0,n0,c0,prW ps ys #[.slice a0 n0 c0],rfl,HP.aV.refl _,?_⟩
  refine ax.ex (A:=λz:BZ×List UInt8=>HP.and (#[Value.slice a0 n0 c0]= #[JS z.1]/\z.2.length=z.1.2.1/\z.1.2.1<=140737488355328/\ys++[z.2]<+:bS ps) (aO z.1.1 z.1.2.1 z.2)) λz=>ax.pure λhz=>?_
  obtain⟨⟨a1,n1,c1⟩,d1⟩:=z
  obtain⟨QT,YA,QV,WP⟩:=hz
  simp only[JS,Array.mk.injEq,List.cons.injEq,Value.slice.injEq,and_true]at QT
  obtain⟨rfl,rfl,rfl⟩:=QT
  simp only at YA QV WP
  refine(ei (aO a0 n0 d1) a0 n0 c0 d1 (bR.ro _ _ _ _) YA QV).ak (λ_ _ h=>h) ?_
  rintro v R h ⟨a',c',rfl,H⟩
  refine⟨a',n0,c',aO a' n0 d1,aO a0 n0 d1,rfl,λeb=>?_,H⟩
  clear H
  rw[fm (by decide)]
  refine cY ?_
  obtain⟨i,hi,z1,z2,z3⟩:=info_parts aaC
  have Z8:ys.length+1<=65536:=by
   have:=WP.length_le
   simp at this
   omega
  refine(aI.be (A:=HP.ex λxs=>HP.and (xs.length=ys.length) (HP.an (cp 42 1 a ys.length c (xs.map JS)) (HP.an (jk xs ys) (HP.an (HP.one eb (.cells #[.slice a' n0 c'] 42)) (aO a' n0 d1))))) (K:=HP.tt) (aI.exI λxs=>aI.Sk λhx=>?_) ((hP.an _).trans (.of λR h ⟨h1,h2,d,l1,l2,⟨xs,hx,H⟩,H2⟩=>HP.az ⟨xs,hx.1,HP.aq ⟨h1,h2,d,l1,l2,H,H2⟩⟩)) λv=>.of λ_ _ H=>HP.aj H)
  have TZ:=fG 105 105 42 i _ adU hi z1 (by rw[z2];rfl) (by omega) a ys.length c (xs.map JS) (HP.an (jk xs ys) (HP.an (HP.one eb (.cells #[.slice a' n0 c'] 42)) (aO a' n0 d1))) ⟨eb,0,none⟩ 1 1 [JS (a',n0,c')] ((dW eb _ _).left.right) (by rw[z2];rfl) (λu hu=>W9 [(a',n0,c')] u (by simpa using hu)) (by unfold maxLen;omega) (by rw[z3];omega)
  rw[z2]at TZ
  refine TZ.ak (λ_ _ h=>h) ?_
  rintro v R h ⟨a2,c2,rfl,H⟩
  have hro:=HP.ai (HP.ai (HP.ai H))
  have hall:=HP.aj (HP.ai H)
  refine⟨a2,ys.length+1,c2,LL a2 (ys.length+1) c2 (ys++[d1]),rfl,⟨ys++[d1],⟨a0,n0,c0,d1,rfl,rfl,WP⟩,by simp,WP,HP.aV.refl _⟩,?_⟩
  refine HP.ae H (λy hy=>⟨xs++[(a',n0,c')],⟨by simp[hx],by simp⟩,?_⟩) λy hy=>HP.ai hy
  refine HP.ao (HP.ae (HP.aM hy) (λq _=>jk.any (jk.IG (x:=(a',n0,c')) (p:=d1) ⟨YA.symm,by omega⟩ hro hall)) λq hq=>?_)
  rw[List.map_append];exact hq
 ·rintro _ rfl a n c P ⟨rfl,_,hP⟩
  refine((HP.aV.refl (dh b room ps bD)).gZ hP).trans (.of λR h H=>⟨a,c,⟨rfl,hD⟩,H⟩)
end
end Go.Proofs.YtbkifafpjnjaiaaGreatDoor
