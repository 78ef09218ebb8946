/- The code of the functions that the law runs, as the abstract machine reads it. -/
import Derived.Test.YtenihfdlckgmmaaGreatAmSepP
import Derived.Test.YtenihfdlckgmmaaGreatAmSepK
import Derived.Test.YtenihfdlckgmmaaGreatAmSepB
import Derived.Test.YtenihfdlckgmmaaGreatAmSepT
import Derived.Test.YtenihfdlckgmmaaGreatAmSepZ
import Derived.Test.YtenihfdlckgmmaaGreatAmSort
import Derived.Test.YtenihfdlckgmmaaGreatAmSortI
import Derived.Test.YtenihfdlckgmmaaGreatAmSortX
import Derived.Test.YtenihfdlckgmmaaGreatAmSortE
namespace Go.AM.G.Pre
end Go.AM.G.Pre
namespace Go.AM.G.Set
end Go.AM.G.Set
namespace Go.AMS
open Go.AM hiding Kt At WP WL Runs RunsY
open C
set_option maxRecDepth 100000
set_option linter.unusedVariables false
def zH:Nat:=3
def zl:Nat:=9
def za:Nat:=10
def zk:Nat:=11
def zv:Nat:=12
def zt:Nat:=13
def zq:Nat:=14
def zg:Nat:=32
def zb:Nat:=33
def zx:Nat:=34
def zy:Nat:=35
def zu:Nat:=36
def zau:Nat:=41
def zc:Nat:=69
def zaI:Nat:=84
namespace C
abbrev m (d x:Nat):AI:=o d (.mv (t x))
abbrev l (d x:Nat):AI:=o d (.load1 (t x))
abbrev f (d k x:Nat):AI:=o d (.faddr k (t x))
abbrev i (d k x y:Nat):AI:=o d (.iaddr k (t x) (t y))
abbrev n (d k x:Nat):AI:=o d (.len k (t x))
abbrev L (d k x:Nat):AI:=o d (.loadN k (t x))
abbrev B (d:Nat) (q:BinOp) (x y:Nat):AI:=o d (.bin q (t x) (t y))
abbrev X (d k x:Nat):AI:=o d (.extract k (t x))
abbrev z:Value:=.int .i64 0
abbrev O (l:List AI):ACode:=.ops false l
abbrev Q (a b:ACode):ACode:=.seq a b
abbrev K (l:List Nat):ACode:=.keep l
end C
/-- coroner/coronerref13.SameEdges -/
def zB:AFn:=⟨2,[.tmp 4],
 (Q (O [o 4 (.mv (.const (.bool false)))])
 (Q (Q (O [m 6 0,n 7 1 6,m 8 1,n 9 1 8,B 10 .neq 7 9])
 (.cond (t 10)
 (Q (O [o 4 (.mv (.const (.bool false)))])
 .ret)
 .skip))
 (Q (Q (O [o 5 (.mv (ci 0))])
 (Q (K [0,1,5]) (.block 0 (.loop (Q (Q (Q (O [m 11 5,m 12 0,n 13 1 12,B 14 .lss 11 13])
 (.cond (t 14)
 .skip
 (.exit 0)))
 (Q (.block 1 (Q (.ops true [m 17 0,m 18 5,i 19 6 17 18,L 20 6 19,m 21 1,m 22 5,i 23 6 21 22,L 24 6 23,b 25 (.eqA [1,1,1,1,1,1] true (t 20) (t 24))])
 (Q (K [0,1,5,25])
 (.cond (t 25)
 (Q (O [o 4 (.mv (.const (.bool false)))])
 .ret)
 .skip))))
 (Q (K [0,1,5])
 (O [m 15 5,o 16 (.bin .add (t 15) (ci 1)),m 5 16])))) (K [0,1,5]))))))
 (Q (K [])
 (Q (O [o 4 (.mv (.const (.bool true)))])
 .ret)))))⟩
/-- cmp.Or[int] -/
def zi:AFn:=⟨1,[.tmp 2],
 (Q (O [o 2 (.mv (ci 0))])
 (Q (O [o 3 (.mv (ci 0))])
 (Q (Q (O [m 6 0,n 7 1 6,o 8 (.mv (ci 0))])
 (Q (K [3,6,7,8]) (.block 0 (.loop (Q (Q (O [B 9 .lss 8 7])
 (Q (.cond (t 9)
 .skip
 (.exit 0))
 (Q (.block 1 (Q (O [i 10 1 6 8,l 11 10,m 5 11])
 (Q (O [m 12 5,m 13 3,B 14 .neq 12 13])
 (.cond (t 14)
 (Q (O [m 15 5,m 2 15])
 .ret)
 .skip))))
 (Q (K [3,6,7,8])
 (O [o 16 (.bin .add (t 8) (ci 1)),m 8 16]))))) (K [3,6,7,8]))))))
 (Q (K [3])
 (Q (O [m 17 3,m 2 17])
 .ret)))))⟩
/-- slices.Compact[[]coroner/api.Edge,coroner/api.Edge] -/
def zD:AFn:=⟨1,[.tmp 2],
 (Q (O [o 2 (.mv (.const (.slice none 0 0)))])
 (Q (Q (O [m 6 0,n 7 1 6,o 8 (.bin .lss (t 7) (ci 2))])
 (.cond (t 8)
 (Q (O [m 9 0,m 2 9])
 .ret)
 .skip))
 (Q (Q (O [o 3 (.mv (ci 1))])
 (Q (K [0,3]) (.block 0 (.loop (Q (Q (Q (O [m 10 3,m 11 0,n 12 1 11,B 13 .lss 10 12])
 (.cond (t 13)
 .skip
 (.exit 0)))
 (Q (.block 1 (Q (.ops true [m 16 0,m 17 3,i 18 6 16 17,L 19 6 18,m 20 0,m 21 3,o 22 (.bin .sub (t 21) (ci 1)),i 23 6 20 22,L 24 6 23,b 25 (.eqA [1,1,1,1,1,1] false (t 19) (t 24))])
 (Q (K [0,3,25])
 (.cond (t 25)
 (Q (O [m 26 0,m 27 3,o 28 (.slc 6 (t 26) (some (t 27)) none),m 4 28])
 (Q (Q (O [o 5 (.mv (ci 1))])
 (Q (K [0,3,4,5]) (.block 2 (.loop (Q (Q (Q (O [m 29 5,m 30 4,n 31 1 30,B 32 .lss 29 31])
 (.cond (t 32)
 .skip
 (.exit 2)))
 (Q (.block 3 (Q (.ops true [m 35 4,m 36 5,i 37 6 35 36,L 38 6 37,m 39 4,m 40 5,o 41 (.bin .sub (t 40) (ci 1)),i 42 6 39 41,L 43 6 42,b 44 (.eqA [1,1,1,1,1,1] true (t 38) (t 43))])
 (Q (K [0,3,4,5,44])
 (.cond (t 44)
 (Q (O [m 45 0,m 46 3,m 47 4,m 48 5,i 49 6 47 48,L 50 6 49,i 51 6 45 46,s (.store 6 (t 51) (t 50))])
 (Q (K [0,3,4,5])
 (O [m 52 3,o 53 (.bin .add (t 52) (ci 1)),m 3 53])))
 .skip))))
 (Q (K [0,3,4,5])
 (O [m 33 5,o 34 (.bin .add (t 33) (ci 1)),m 5 34])))) (K [0,3,4,5]))))))
 (Q (K [0,3])
 (Q (O [m 54 0,m 55 3,o 56 (.slc 6 (t 54) (some (t 55)) none),s (.clear [z,z,z,z,z,z] (t 56))])
 (Q (O [m 57 0,m 58 3,o 59 (.slc 6 (t 57) none (some (t 58))),m 2 59])
 .ret)))))
 .skip))))
 (Q (K [0,3])
 (O [m 14 3,o 15 (.bin .add (t 14) (ci 1)),m 3 15])))) (K [0,3]))))))
 (Q (K [0])
 (Q (O [m 60 0,m 2 60])
 .ret)))))⟩
/-- coroner/edges.Sort -/
def zE:AFn:=⟨1,[.tmp 2],
 (Q (O [o 2 (.mv (.const (.slice none 0 0)))])
 (Q (O [m 4 0,o 5 (.call (.func zx) [(t 4)]),m 3 5])
 (Q (O [m 6 3,o 7 (.call (.func zy) [(t 6),(.func za)])])
 (Q (O [m 8 3,o 9 (.call (.func zu) [(t 8)]),m 2 9])
 .ret))))⟩
/-- cmp.Compare[int] -/
def zh:AFn:=⟨2,[.tmp 4],
 (Q (O [o 4 (.mv (ci 0))])
 (Q (O [m 7 0,o 8 (.call (.func zc) [(t 7)]),m 5 8])
 (Q (O [m 9 1,o 10 (.call (.func zc) [(t 9)]),m 6 10])
 (Q (Q (O [m 11 5])
 (.cond (t 11)
 (Q (Q (O [m 12 6])
 (.cond (t 12)
 (Q (O [o 4 (.mv (ci 0))])
 .ret)
 .skip))
 (Q (O [o 4 (.mv (ci (-1)))])
 .ret))
 .skip))
 (Q (Q (O [m 13 6])
 (.cond (t 13)
 (Q (O [o 4 (.mv (ci 1))])
 .ret)
 .skip))
 (Q (Q (O [m 14 0,m 15 1,B 16 .lss 14 15])
 (.cond (t 16)
 (Q (O [o 4 (.mv (ci (-1)))])
 .ret)
 .skip))
 (Q (Q (O [m 17 0,m 18 1,B 19 .gtr 17 18])
 (.cond (t 19)
 (Q (O [o 4 (.mv (ci 1))])
 .ret)
 .skip))
 (Q (O [o 4 (.mv (ci 0))])
 .ret))))))))⟩
/-- cmp.isNaN[int] -/
def ze:AFn:=⟨1,[.tmp 2],
 (Q (O [o 2 (.mv (.const (.bool false)))])
 (Q (O [m 3 0,m 4 0,B 5 .neq 3 4,m 2 5])
 .ret))⟩
/-- coroner/edges.Compare -/
def zn:AFn:=⟨2,[.tmp 4],
 (Q (O [o 2 (.box (t 0)),o 3 (.box (t 1)),o 4 (.mv (ci 0))])
 (Q (.ops true (f 5 0 2::l 6 5::f 7 0 3::l 8 7::o 9 (.call (.func zb) [(t 6),(t 8)])::f 10 1 2::l 11 10::f 12 1 3::l 13 12::o 14 (.call (.func zb) [(t 11),(t 13)])::f 15 2 2::l 16 15::f 17 2 3::l 18 17::o 19 (.call (.func zb) [(t 16),(t 18)])::f 20 3 2::l 21 20::f 22 3 3::l 23 22::o 24 (.call (.func zb) [(t 21),(t 23)])::f 25 4 2::l 26 25::f 27 4 3::l 28 27::o 29 (.call (.func zb) [(t 26),(t 28)])::f 30 5 2::l 31 30::f 32 5 3::l 33 32::b 34 (.call (.func zb) [(t 31),(t 33)])::b 35 (.bslice 1 6 [z,z,z,z,z,z] [(0,(1,(t 9))),(1,(1,(t 14))),(2,(1,(t 19))),(3,(1,(t 24))),(4,(1,(t 29))),(5,(1,(t 34)))])::b 36 (.call (.func zg) [(t 35)])::b 4 (.mv (t 36))::[]))
 (Q (K [4])
 .ret)))⟩
/-- coroner/coronerref17.Sort -/
def zI:AFn:=⟨1,[.tmp 2],
 (Q (O [o 2 (.mv (.const (.slice none 0 0)))])
 (Q (O [o 3 (.mv (.const (.slice none 0 0)))])
 (Q (Q (O [o 4 (.mv (ci 0))])
 (Q (K [0,3,4]) (.block 0 (.loop (Q (Q (Q (O [m 8 4,m 9 0,n 10 1 9,B 11 .leq 8 10])
 (.cond (t 11)
 .skip
 (.exit 0)))
 (Q (.block 1 (Q (O [o 5 (.alloc [z,z,z,z,z,z])])
 (Q (O [o 6 (.mv (.const (.bool false)))])
 (Q (Q (O [o 7 (.mv (ci 0))])
 (Q (K [0,3,4,5,6,7]) (.block 2 (.loop (Q (Q (Q (O [m 14 7,m 15 0,n 16 1 15,B 17 .lss 14 16])
 (.cond (t 17)
 .skip
 (.exit 2)))
 (Q (.block 3 (Q (Q (.ops true [b 20 (.mv (t 3)),b 21 (.len 1 (t 20)),b 22 (.bin .gtr (t 21) (ci 0)),b 23 (.mv (t 22)),⟨(some 24),.mv (t 0),some (23,true),false⟩,⟨(some 25),.mv (t 7),some (23,true),false⟩,⟨(some 26),.iaddr 6 (t 24) (t 25),some (23,true),false⟩,⟨(some 27),.loadN 6 (t 26),some (23,true),false⟩,⟨(some 28),.mv (t 3),some (23,true),false⟩,⟨(some 29),.mv (t 3),some (23,true),false⟩,⟨(some 30),.len 1 (t 29),some (23,true),false⟩,⟨(some 31),.bin .sub (t 30) (ci 1),some (23,true),false⟩,⟨(some 32),.iaddr 6 (t 28) (t 31),some (23,true),false⟩,⟨(some 33),.loadN 6 (t 32),some (23,true),false⟩,⟨(some 34),.call (.func zk) [(t 27),(t 33)],some (23,true),true⟩,⟨(some 35),.bin .leq (t 34) (ci 0),some (23,true),true⟩,b 36 (.pick (t 23) (t 35) (.const (.bool false)))])
 (Q (K [0,3,4,5,6,7,36])
 (.cond (t 36)
 (.exit 3)
 .skip)))
 (Q (K [0,3,4,5,6,7])
 (Q (.ops true [b 37 (.mv (t 6)),b 38 (.un .not (t 37)),b 39 (.mv (t 38)),⟨(some 40),.mv (t 0),some (39,false),false⟩,⟨(some 41),.mv (t 7),some (39,false),false⟩,⟨(some 42),.iaddr 6 (t 40) (t 41),some (39,false),false⟩,⟨(some 43),.loadN 6 (t 42),some (39,false),false⟩,⟨(some 44),.loadN 6 (t 5),some (39,false),false⟩,⟨(some 45),.call (.func zk) [(t 43),(t 44)],some (39,false),true⟩,⟨(some 46),.bin .lss (t 45) (ci 0),some (39,false),true⟩,b 47 (.pick (t 39) (.const (.bool true)) (t 46))])
 (Q (K [0,3,4,5,6,7,47])
 (.cond (t 47)
 (O [m 48 0,m 49 7,i 50 6 48 49,L 51 6 50,s (.store 6 (t 5) (t 51)),o 6 (.mv (.const (.bool true)))])
 .skip))))))
 (Q (K [0,3,4,5,6,7])
 (O [m 18 7,o 19 (.bin .add (t 18) (ci 1)),m 7 19])))) (K [0,3,4,5,6,7]))))))
 (Q (K [0,3,4,5,6])
 (Q (Q (O [m 52 6,o 53 (.un .not (t 52))])
 (.cond (t 53)
 (Q (O [m 54 3,m 2 54])
 .ret)
 .skip))
 (O [m 55 3,L 56 6 5,o 57 (.bslice 6 1 [z,z,z,z,z,z] [(0,(6,(t 56)))]),o 58 (.append 6 48 (t 55) (t 57)),m 3 58])))))))
 (Q (K [0,3,4])
 (O [m 12 4,o 13 (.bin .add (t 12) (ci 1)),m 4 13])))) (K [0,3,4]))))))
 (Q (K [3])
 (Q (O [m 59 3,m 2 59])
 .ret)))))⟩
/-- slices.Clone[[]coroner/api.Edge,coroner/api.Edge] -/
def zz:AFn:=⟨1,[.tmp 2],
 (Q (O [o 2 (.mv (.const (.slice none 0 0)))])
 (Q (Q (O [m 3 0,o 4 (.eqv 2 false (t 3) (.const (.slice none 0 0)))])
 (.cond (t 4)
 (Q (O [o 2 (.mv (.const (.slice none 0 0)))])
 .ret)
 .skip))
 (Q (O [o 5 (.bslice 6 0 [] []),m 6 0,o 7 (.append 6 48 (t 5) (t 6)),m 2 7])
 .ret)))⟩
/-- coroner/coronerlaw17.EdgesSorts -/
def zC:AFn:=⟨3,[.tmp 6],
 (Q (O [o 4 (.box (t 1)),o 5 (.box (t 2)),o 6 (.mv (.const (.bool false)))])
 (Q (Q (O [m 7 0,n 8 1 7,o 9 (.bin .gtr (t 8) (ci 60))])
 (.cond (t 9)
 (Q (O [o 10 (.call (.func zl) []),m 6 10])
 .ret)
 .skip))
 (Q (.ops true [L 11 6 4,L 12 6 5,o 13 (.call (.func za) [(t 11),(t 12)]),L 14 6 4,L 15 6 5,b 16 (.call (.func zk) [(t 14),(t 15)]),b 17 (.bin .eql (t 13) (t 16)),b 18 (.mv (t 17)),⟨(some 19),.mv (t 0),some (18,true),false⟩,⟨(some 20),.call (.func zt) [(t 19)],some (18,true),false⟩,⟨(some 21),.mv (t 0),some (18,true),false⟩,⟨(some 22),.call (.func zq) [(t 21)],some (18,true),true⟩,⟨(some 23),.call (.func zv) [(t 20),(t 22)],some (18,true),true⟩,b 24 (.pick (t 18) (t 23) (.const (.bool false))),b 25 (.mv (t 24)),⟨(some 26),.call (.func zl) [],some (25,true),true⟩,b 27 (.pick (t 25) (t 26) (.const (.bool false))),b 6 (.mv (t 27))])
 (Q (K [6])
 .ret))))⟩
/-- coroner/coronerref17.Compare -/
def zJ:AFn:=⟨2,[.tmp 4],
 (Q (O [o 2 (.box (t 0)),o 3 (.box (t 1)),o 4 (.mv (ci 0))])
 (Q (O [f 8 0 2,l 9 8,f 10 1 2,l 11 10,f 12 2 2,l 13 12,f 14 3 2,l 15 14,f 16 4 2,l 17 16,f 18 5 2,l 19 18,o 20 (.bslice 1 6 [z,z,z,z,z,z] [(0,(1,(t 9))),(1,(1,(t 11))),(2,(1,(t 13))),(3,(1,(t 15))),(4,(1,(t 17))),(5,(1,(t 19)))]),m 5 20])
 (Q (K [3,5])
 (Q (O [f 21 0 3,l 22 21,f 23 1 3,l 24 23,f 25 2 3,l 26 25,f 27 3 3,l 28 27,f 29 4 3,l 30 29,f 31 5 3,l 32 31,o 33 (.bslice 1 6 [z,z,z,z,z,z] [(0,(1,(t 22))),(1,(1,(t 24))),(2,(1,(t 26))),(3,(1,(t 28))),(4,(1,(t 30))),(5,(1,(t 32)))]),m 6 33])
 (Q (K [5,6])
 (Q (Q (O [o 7 (.mv (ci 0))])
 (Q (K [5,6,7]) (.block 0 (.loop (Q (Q (Q (O [m 34 7,m 35 5,n 36 1 35,B 37 .lss 34 36])
 (.cond (t 37)
 .skip
 (.exit 0)))
 (Q (.block 1 (Q (Q (.ops true [m 40 5,m 41 7,i 42 1 40 41,l 43 42,m 44 6,m 45 7,i 46 1 44 45,l 47 46,b 48 (.bin .lss (t 43) (t 47))])
 (Q (K [5,6,7,48])
 (.cond (t 48)
 (Q (O [o 4 (.mv (ci (-1)))])
 .ret)
 .skip)))
 (Q (K [5,6,7])
 (Q (.ops true [m 49 5,m 50 7,i 51 1 49 50,l 52 51,m 53 6,m 54 7,i 55 1 53 54,l 56 55,b 57 (.bin .gtr (t 52) (t 56))])
 (Q (K [5,6,7,57])
 (.cond (t 57)
 (Q (O [o 4 (.mv (ci 1))])
 .ret)
 .skip))))))
 (Q (K [5,6,7])
 (O [m 38 7,o 39 (.bin .add (t 38) (ci 1)),m 7 39])))) (K [5,6,7]))))))
 (Q (K [])
 (Q (O [o 4 (.mv (ci 0))])
 .ret))))))))⟩
def tab1:List (Nat × ADef):=[(zv,.code zB),
 (zg,.code zi),
 (zu,.code zD),
 (zt,.code zE),
 (zb,.code zh),
 (zc,.code ze),
 (za,.code zn),
 (zq,.code zI),
 (zx,.code zz),
 (zH,.code zC),
 (zk,.code zJ),
 (zy,.oracle (sortEO za)),
 (zl,.oracle (closedO (.bool true)))]
def prog1:AProg:=tabP tab1
theorem zaW:prog1 zv=some (.code zB):=by kernel_rfl
theorem zj:prog1 zg=some (.code zi):=by kernel_rfl
theorem zap:prog1 zu=some (.code zD):=by kernel_rfl
theorem zaP:prog1 zt=some (.code zE):=by kernel_rfl
theorem zm:prog1 zb=some (.code zh):=by kernel_rfl
theorem zd:prog1 zc=some (.code ze):=by kernel_rfl
theorem zr:prog1 za=some (.code zn):=by kernel_rfl
theorem za3:prog1 zq=some (.code zI):=by kernel_rfl
theorem zaY:prog1 zx=some (.code zz):=by kernel_rfl
theorem zan:prog1 zH=some (.code zC):=by kernel_rfl
theorem zao:prog1 zk=some (.code zJ):=by kernel_rfl
theorem z3:prog1 zy=some (.oracle (sortEO za)):=by kernel_rfl
theorem zaD:prog1 zl=some (.oracle (closedO (.bool true))):=by kernel_rfl
theorem gO:type_of% @g_op:=@g_op
theorem eZ:type_of% @Evs.nil:=@Evs.nil
theorem eS:type_of% @Evs.cons:=@Evs.cons
theorem qD {c:Prop} (h:c:=by ((repeat' apply And.intro) <;> first|omega|trivial|assumption|(simp;done)|(simp;omega))):c:=h
end Go.AMS
