/- The code of the functions that the law runs, as the abstract machine reads it. -/
import Derived.Test.YtenihfdlckgmmaaGreatAmSepP
import Derived.Test.YtenihfdlckgmmaaGreatAmSepK
import Derived.Test.YtenihfdlckgmmaaGreatAmSepB
import Derived.Test.YtenihfdlckgmmaaGreatAmSepT
import Derived.Test.YtenihfdlckgmmaaGreatAmSepZ
import Derived.Test.YtenihfdlckgmmaaGreatAmSort
import Derived.Test.YtenihfdlckgmmaaGreatAmSortI
import Derived.Test.YtenihfdlckgmmaaGreatAmSortX
import Derived.Test.YtenihfdlckgmmaaGreatAmSortE
namespace Go.AM.G.Pre
end Go.AM.G.Pre
namespace Go.AM.G.Set
end Go.AM.G.Set
namespace Go.AMS
open Go.AM hiding Kt At WP WL Runs RunsY
open C
set_option maxRecDepth 100000
set_option linter.unusedVariables false
def zch:Nat:=5
def zJ:Nat:=9
def zc:Nat:=10
def zaO:Nat:=13
def za2:Nat:=15
def za1:Nat:=16
def zae:Nat:=17
def zad:Nat:=20
def zg:Nat:=21
def zR:Nat:=22
def zj:Nat:=32
def zb:Nat:=33
def zbf:Nat:=34
def zai:Nat:=35
def zau:Nat:=36
def za9:Nat:=37
def zaf:Nat:=38
def zaC:Nat:=39
def zaK:Nat:=40
def zaX:Nat:=41
def zI:Nat:=42
def zaH:Nat:=43
def zan:Nat:=44
def zQ:Nat:=45
def zay:Nat:=46
def zaU:Nat:=47
def zaq:Nat:=48
def zT:Nat:=49
def zap:Nat:=50
def zt:Nat:=52
def zZ:Nat:=53
def zav:Nat:=54
def zd:Nat:=69
def zaj:Nat:=72
def zr:Nat:=73
def zbc:Nat:=74
def za4:Nat:=75
def zbe:Nat:=76
def zag:Nat:=77
def zaE:Nat:=78
def zar:Nat:=79
def zaA:Nat:=80
def zac:Nat:=82
def ze:Nat:=83
def zaG:Nat:=84
def zah:Nat:=85
def zK:Nat:=86
def zao:Nat:=87
def zat:Nat:=88
def zN:Nat:=89
def zD:Nat:=90
def zh:Nat:=91
def zW:Nat:=92
def zaQ:Nat:=93
def zak:Nat:=94
def zab:Nat:=95
def z9:Nat:=96
def za0:Nat:=103
def zU:Nat:=104
def za8:Nat:=105
def zaN:Nat:=106
def zal:Nat:=107
def zba:Nat:=117
def zaP:Nat:=122
def zo:Nat:=149
def zv:Nat:=150
def zaB:Nat:=151
def zaz:Nat:=152
def zaT:Nat:=162
def zn:Nat:=163
def zM:Nat:=164
def zaR:Nat:=165
def z8:Nat:=166
def zX:Nat:=167
def zaI:Nat:=168
def zaw:Nat:=169
def zaZ:Nat:=170
def zaD:Nat:=172
def zC:Nat:=180
def zaW:Nat:=189
def zaF:Nat:=198
def zu:Nat:=199
def zF:Nat:=200
def zaa:Nat:=212
def zL:Nat:=213
def zA:Nat:=214
def zaJ:Nat:=215
def za7:Nat:=216
def zas:Nat:=224
def zbd:Nat:=229
def zaY:Nat:=230
def zaV:Nat:=232
def za6:Nat:=233
namespace C
abbrev m (d x:Nat):AI:=o d (.mv (t x))
abbrev l (d x:Nat):AI:=o d (.load1 (t x))
abbrev f (d k x:Nat):AI:=o d (.faddr k (t x))
abbrev i (d k x y:Nat):AI:=o d (.iaddr k (t x) (t y))
abbrev n (d k x:Nat):AI:=o d (.len k (t x))
abbrev L (d k x:Nat):AI:=o d (.loadN k (t x))
abbrev B (d:Nat) (q:BinOp) (x y:Nat):AI:=o d (.bin q (t x) (t y))
abbrev X (d k x:Nat):AI:=o d (.extract k (t x))
abbrev z:Value:=.int .i64 0
abbrev O (l:List AI):ACode:=.ops false l
abbrev Q (a b:ACode):ACode:=.seq a b
abbrev K (l:List Nat):ACode:=.keep l
end C
/-- coroner/table.New -/
def zbN:AFn:=⟨1,[.tmp 2,.tmp 3],
 (Q (O [o 1 (.box (t 0)),o 2 (.mv (.const (.pointer none))),o 3 (.mv (ci 0))])
 (Q (Q (O [L 11 1 1,o 12 (.call (.func zaC) [(t 11)]),m 4 12])
 (Q (O [m 13 4,o 14 (.bin .neq (t 13) (ci 0))])
 (.cond (t 14)
 (Q (O [m 15 4,o 2 (.mv (.const (.pointer none))),m 3 15])
 .ret)
 .skip)))
 (Q (K [1,2,3])
 (Q (O [o 16 (.mkmap),o 17 (.mkmap),o 18 (.mkmap),o 19 (.mkmap),o 20 (.build [(.bool false),(.slice none 0 0),(.slice none 0 0),(.map none),(.map none),(.map none),(.map none)] [(0,(1,(.const (.bool true)))),(3,(1,(t 16))),(4,(1,(t 17))),(5,(1,(t 18))),(6,(1,(t 19)))]),o 21 (.box (t 20)),o 5 (.alloc [(.pointer none)]),s (.store 1 (t 5) (t 21))])
 (Q (K [1,2,3,5])
 (Q (O [f 22 0 1,l 23 22,o 24 (.call (.func zaK) [(t 23)]),m 6 24])
 (Q (O [m 25 6,o 26 (.call (.func zaX) [(t 25),(.func zI)])])
 (Q (Q (O [m 27 6,n 28 1 27,o 29 (.mv (ci 0))])
 (Q (K [2,3,5,6,27,28,29]) (.block 0 (.loop (Q (Q (O [B 30 .lss 29 28])
 (Q (.cond (t 30)
 .skip
 (.exit 0))
 (Q (.block 1 (Q (O [i 31 3 27 29,L 32 3 31,o 8 (.alloc [z,(.bool false),(.slice none 0 0)]),s (.store 3 (t 8) (t 32))])
 (Q (O [f 33 1 8,l 34 33,o 35 (.un .not (t 34))])
 (.cond (t 35)
 (.opsK [(8,5)] [] [l 36 5,l 37 5,o 38 (.nilc (t 37)),f 39 1 38,l 40 39,f 41 0 8,l 42 41,o 43 (.bslice 1 1 [z] [(0,(1,(t 42)))]),b 44 (.append 1 8 (t 40) (t 43)),o 45 (.nilc (t 36)),f 46 1 45,sb (.store 1 (t 46) (t 44))])
 .skip))))
 (Q (K [2,3,5,6,27,28,29])
 (O [o 47 (.bin .add (t 29) (ci 1)),m 29 47]))))) (K [2,3,5,6,27,28,29]))))))
 (Q (K [2,3,5,6])
 (Q (Q (O [m 48 6,o 49 (.call (.func zaH) [(t 48)])])
 (.block 2 (.rfun (t 49) [50,51]
 (Q (O [o 9 (.alloc [z,(.bool false),(.slice none 0 0)]),s (.store 3 (t 9) (t 50))])
 (O [m 10 51]))
 (.block 3 (Q (.opsK [(12,5)] [] [l 52 5,l 53 5,o 54 (.nilc (t 53)),f 55 2 54,l 56 55,f 57 2 9,l 58 57,m 59 10,i 60 4 58 59,f 61 1 60,l 62 61,o 63 (.bslice 1 1 [z] [(0,(1,(t 62)))]),b 64 (.append 1 8 (t 56) (t 63)),o 65 (.nilc (t 52)),f 66 2 65,sb (.store 1 (t 66) (t 64))])
 (Q (K [5,9,10])
 (.ops true [l 67 5,L 68 3 9,m 69 10,f 70 2 9,l 71 70,m 72 10,i 73 4 71 72,L 74 4 73,b 75 (.call (.func zan) [(t 67),(t 68),(t 69),(t 74)])])))))))
 (Q (K [5])
 (Q (.ops true [l 76 5,l 77 5,o 78 (.nilc (t 77)),f 79 2 78,l 80 79,o 81 (.call (.func zQ) [(t 80)]),o 82 (.call (.func zay) [(t 81)]),b 83 (.nilc (t 76)),b 84 (.faddr 2 (t 83)),sb (.store 1 (t 84) (t 82))])
 (Q (K [5])
 (Q (O [l 85 5,m 2 85,o 3 (.mv (ci 0))])
 .ret))))))))))))))⟩
/-- (*coroner/table.Table).Rank -/
def zb6:AFn:=⟨2,[.tmp 4,.tmp 5],
 (Q (O [o 4 (.mv (ci 0)),o 5 (.mv (.const (.bool false)))])
 (Q (Q (O [m 8 0,o 9 (.call (.func zt) [(t 8)]),o 10 (.un .not (t 9))])
 (.cond (t 10)
 (Q (O [o 4 (.mv (ci 0)),o 5 (.mv (.const (.bool false)))])
 .ret)
 .skip))
 (Q (O [m 12 0,o 13 (.nilc (t 12)),f 14 1 13,l 15 14,m 16 1,o 17 (.call (.func zZ) [(t 15),(t 16)]),m 11 17,X 18 0 11,X 19 1 11,m 6 18,m 7 19])
 (Q (K [6,7])
 (Q (Q (O [m 20 7,o 21 (.un .not (t 20))])
 (.cond (t 21)
 (Q (O [o 4 (.mv (ci 0)),o 5 (.mv (.const (.bool false)))])
 .ret)
 .skip))
 (Q (O [m 22 6,m 4 22,o 5 (.mv (.const (.bool true)))])
 .ret))))))⟩
/-- cmp.Or[int] -/
def zp:AFn:=⟨1,[.tmp 2],
 (Q (O [o 2 (.mv (ci 0))])
 (Q (O [o 3 (.mv (ci 0))])
 (Q (Q (O [m 6 0,n 7 1 6,o 8 (.mv (ci 0))])
 (Q (K [3,6,7,8]) (.block 0 (.loop (Q (Q (O [B 9 .lss 8 7])
 (Q (.cond (t 9)
 .skip
 (.exit 0))
 (Q (.block 1 (Q (O [i 10 1 6 8,l 11 10,m 5 11])
 (Q (O [m 12 5,m 13 3,B 14 .neq 12 13])
 (.cond (t 14)
 (Q (O [m 15 5,m 2 15])
 .ret)
 .skip))))
 (Q (K [3,6,7,8])
 (O [o 16 (.bin .add (t 8) (ci 1)),m 8 16]))))) (K [3,6,7,8]))))))
 (Q (K [3])
 (Q (O [m 17 3,m 2 17])
 .ret)))))⟩
/-- slices.Compact[[]coroner/api.Edge,coroner/api.Edge] -/
def zb7:AFn:=⟨1,[.tmp 2],
 (Q (O [o 2 (.mv (.const (.slice none 0 0)))])
 (Q (Q (O [m 6 0,n 7 1 6,o 8 (.bin .lss (t 7) (ci 2))])
 (.cond (t 8)
 (Q (O [m 9 0,m 2 9])
 .ret)
 .skip))
 (Q (Q (O [o 3 (.mv (ci 1))])
 (Q (K [0,3]) (.block 0 (.loop (Q (Q (Q (O [m 10 3,m 11 0,n 12 1 11,B 13 .lss 10 12])
 (.cond (t 13)
 .skip
 (.exit 0)))
 (Q (.block 1 (Q (.ops true [m 16 0,m 17 3,i 18 6 16 17,L 19 6 18,m 20 0,m 21 3,o 22 (.bin .sub (t 21) (ci 1)),i 23 6 20 22,L 24 6 23,b 25 (.eqA [1,1,1,1,1,1] false (t 19) (t 24))])
 (Q (K [0,3,25])
 (.cond (t 25)
 (Q (O [m 26 0,m 27 3,o 28 (.slc 6 (t 26) (some (t 27)) none),m 4 28])
 (Q (Q (O [o 5 (.mv (ci 1))])
 (Q (K [0,3,4,5]) (.block 2 (.loop (Q (Q (Q (O [m 29 5,m 30 4,n 31 1 30,B 32 .lss 29 31])
 (.cond (t 32)
 .skip
 (.exit 2)))
 (Q (.block 3 (Q (.ops true [m 35 4,m 36 5,i 37 6 35 36,L 38 6 37,m 39 4,m 40 5,o 41 (.bin .sub (t 40) (ci 1)),i 42 6 39 41,L 43 6 42,b 44 (.eqA [1,1,1,1,1,1] true (t 38) (t 43))])
 (Q (K [0,3,4,5,44])
 (.cond (t 44)
 (Q (O [m 45 0,m 46 3,m 47 4,m 48 5,i 49 6 47 48,L 50 6 49,i 51 6 45 46,s (.store 6 (t 51) (t 50))])
 (Q (K [0,3,4,5])
 (O [m 52 3,o 53 (.bin .add (t 52) (ci 1)),m 3 53])))
 .skip))))
 (Q (K [0,3,4,5])
 (O [m 33 5,o 34 (.bin .add (t 33) (ci 1)),m 5 34])))) (K [0,3,4,5]))))))
 (Q (K [0,3])
 (Q (O [m 54 0,m 55 3,o 56 (.slc 6 (t 54) (some (t 55)) none),s (.clear [z,z,z,z,z,z] (t 56))])
 (Q (O [m 57 0,m 58 3,o 59 (.slc 6 (t 57) none (some (t 58))),m 2 59])
 .ret)))))
 .skip))))
 (Q (K [0,3])
 (O [m 14 3,o 15 (.bin .add (t 14) (ci 1)),m 3 15])))) (K [0,3]))))))
 (Q (K [0])
 (Q (O [m 60 0,m 2 60])
 .ret)))))⟩
/-- slices.Clone[[]coroner/api.Txn,coroner/api.Txn] -/
def zcP:AFn:=⟨1,[.tmp 2],
 (Q (O [o 2 (.mv (.const (.slice none 0 0)))])
 (Q (Q (O [m 3 0,o 4 (.eqv 2 false (t 3) (.const (.slice none 0 0)))])
 (.cond (t 4)
 (Q (O [o 2 (.mv (.const (.slice none 0 0)))])
 .ret)
 .skip))
 (Q (O [o 5 (.bslice 3 0 [] []),m 6 0,o 7 (.append 3 40 (t 5) (t 6)),m 2 7])
 .ret)))⟩
/-- (*coroner/table.Table).put -/
def zbH:AFn:=⟨4,[],
 (Q (O [o 5 (.box (t 1)),o 7 (.box (t 3))])
 (Q (O [f 10 0 5,l 11 10,f 12 1 7,l 13 12,o 14 (.build [z,z] [(0,(1,(t 11))),(1,(1,(t 13)))]),o 8 (.alloc [z,z]),s (.store 2 (t 8) (t 14))])
 (Q (K [0,2,5,7,8])
 (Q (Q (O [f 15 0 7,l 16 15])
 (.cond (t 16)
 (Q (Q (O [f 17 1 5,l 18 17,o 19 (.un .not (t 18))])
 (.cond (t 19)
 (.opsK [(29,22),(29,24)] [] (m 20 0::o 21 (.nilc (t 20))::f 22 5 21::l 23 22::f 24 1 7::l 25 24::m 26 0::o 27 (.nilc (t 26))::f 28 5 27::l 29 28::f 30 1 7::l 31 30::o 32 (.lookup (.one 1) (.slice none 0 0) false (t 29) (t 31))::f 33 0 5::l 34 33::m 35 2::f 36 1 7::l 37 36::f 38 3 7::l 39 38::m 40 0::o 41 (.nilc (t 40))::f 42 4 41::l 43 42::L 44 2 8::o 45 (.lookup (.many [1,1]) (.slice none 0 0) false (t 43) (t 44))::o 46 (.call (.func ze) [(t 45)])::o 47 (.build [z,z,z,(.slice none 0 0),(.slice none 0 0)] [(0,(1,(t 34))),(1,(1,(t 35))),(2,(1,(t 37))),(3,(1,(t 39))),(4,(1,(t 46)))])::o 48 (.bslice 5 1 [z,z,z,(.slice none 0 0),(.slice none 0 0)] [(0,(5,(t 47)))])::b 49 (.append 5 72 (t 32) (t 48))::sb (.mapupd (.one 1) (t 23) (t 25) (t 49))::[]))
 .skip))
 (Q (K [])
 .ret))
 .skip))
 (Q (K [0,2,5,7,8])
 (Q (O [f 50 0 5,l 51 50,m 52 2,f 53 1 7,l 54 53,f 55 2 7,l 56 55,f 57 1 5,l 58 57,o 59 (.build [z,z,z,z,(.bool false)] [(0,(1,(t 51))),(1,(1,(t 52))),(2,(1,(t 54))),(3,(1,(t 56))),(4,(1,(t 58)))]),o 9 (.alloc [z,z,z,z,(.bool false)]),s (.store 5 (t 9) (t 59))])
 (Q (K [0,5,7,8,9])
 (Q (.ops true [m 60 0,o 61 (.nilc (t 60)),f 62 3 61,l 63 62,f 64 1 7,l 65 64,f 66 2 7,l 67 66,o 68 (.build [z,z] [(0,(1,(t 65))),(1,(1,(t 67)))]),L 69 5 9,sb (.mapupd (.many [1,1]) (t 63) (t 68) (t 69))])
 (Q (K [0,5,7,8,9])
 (Q (.opsK [] [] [m 70 0,o 71 (.nilc (t 70)),f 72 4 71,l 73 72,L 74 2 8,f 76 2 7,l 77 76,o 78 (.bslice 1 1 [z] [(0,(1,(t 77)))]),b 79 (.mapent (.many [1,1]) (.slice none 0 0) (t 73) (t 74)),X 75 0 79,b 80 (.append 1 8 (t 75) (t 78)),X 81 1 79,sb (.entst (t 73) (t 81) (t 80))])
 (Q (K [0,5,7,9])
 (Q (O [f 82 1 5,l 83 82,o 84 (.un .not (t 83))])
 (.cond (t 84)
 (.opsK [(15,87),(15,89)] [] [m 85 0,o 86 (.nilc (t 85)),f 87 6 86,l 88 87,f 89 1 7,l 90 89,m 91 0,o 92 (.nilc (t 91)),f 93 6 92,l 94 93,f 95 1 7,l 96 95,o 97 (.lookup (.one 1) (.slice none 0 0) false (t 94) (t 96)),L 98 5 9,o 99 (.bslice 5 1 [z,z,z,z,(.bool false)] [(0,(5,(t 98)))]),b 100 (.append 5 40 (t 97) (t 99)),sb (.mapupd (.one 1) (t 88) (t 90) (t 100))])
 .skip)))))))))))))⟩
/-- (*coroner/edges.maker).writes -/
def zbi:AFn:=⟨1,[],
 (Q (O [m 6 0,o 7 (.nilc (t 6)),f 8 1 7,f 9 1 8,l 10 9,n 11 1 10,o 12 (.mv (ci 0))])
 (Q (K [0,10,11,12])
 (Q (K [0,10,11,12]) (.block 0 (.loop (Q (Q (O [B 13 .lss 12 11])
 (Q (.cond (t 13)
 .skip
 (.exit 0))
 (Q (.block 1 (Q (O [m 14 12,i 15 1 10 12,l 16 15,m 2 14,m 3 16])
 (Q (O [m 17 0,o 18 (.nilc (t 17)),f 19 1 18,L 20 14 19,m 21 2,o 22 (.bin .add (t 21) (ci 1)),o 23 (.call (.func zN) [(t 20),(t 22)]),n 24 1 23,o 25 (.mv (ci 0))])
 (Q (K [0,3,10,11,12,23,24,25])
 (Q (K [0,3,10,11,12,23,24,25]) (.block 2 (.loop (Q (Q (O [B 26 .lss 25 24])
 (Q (.cond (t 26)
 .skip
 (.exit 2))
 (Q (.block 3 (Q (O [i 27 1 23 25,l 28 27,m 5 28])
 (O [m 29 0,m 30 0,m 31 3,o 32 (.call (.func zh) [(t 30),(t 31)]),m 33 0,m 34 5,o 35 (.call (.func zh) [(t 33),(t 34)]),m 36 3,m 37 5,o 38 (.call (.func zD) [(t 29),(t 32),(t 35),(ci 1),(t 36),(t 37)])])))
 (Q (K [0,3,10,11,12,23,24,25])
 (O [o 39 (.bin .add (t 25) (ci 1)),m 25 39]))))) (K [0,3,10,11,12,23,24,25])))))))))
 (Q (K [0,10,11,12])
 (O [o 40 (.bin .add (t 12) (ci 1)),m 12 40]))))) (K [0,10,11,12])))))))⟩
/-- (*coroner/table.Table).is -/
def zbv:AFn:=⟨1,[.tmp 2],
 (Q (O [o 2 (.mv (.const (.bool false)))])
 (Q (O [m 3 0,o 4 (.eqv 1 true (t 3) (.const (.pointer none))),m 5 4,⟨(some 6),.mv (t 0),some (5,true),false⟩,⟨(some 7),.nilc (t 6),some (5,true),false⟩,⟨(some 8),.faddr 0 (t 7),some (5,true),false⟩,⟨(some 9),.load1 (t 8),some (5,true),false⟩,o 10 (.pick (t 5) (t 9) (.const (.bool false))),m 2 10])
 (Q (K [2])
 .ret)))⟩
/-- coroner/coronerref03.Ops -/
def zcb:AFn:=⟨1,[.tmp 2],
 (Q (O [o 1 (.box (t 0)),o 2 (.mv (ci 0))])
 (Q (O [o 3 (.mv (ci 0))])
 (Q (Q (O [o 4 (.mv (ci 0))])
 (Q (K [1,3,4]) (.block 0 (.loop (Q (Q (Q (O [m 5 4,f 6 0 1,l 7 6,n 8 1 7,B 9 .lss 5 8])
 (.cond (t 9)
 .skip
 (.exit 0)))
 (Q (.block 1 (O [m 12 3,f 13 0 1,l 14 13,m 15 4,i 16 3 14 15,f 17 2 16,l 18 17,n 19 1 18,B 20 .add 12 19,m 3 20]))
 (Q (K [1,3,4])
 (O [m 10 4,o 11 (.bin .add (t 10) (ci 1)),m 4 11])))) (K [1,3,4]))))))
 (Q (K [3])
 (Q (O [m 21 3,m 2 21])
 .ret)))))⟩
/-- coroner/coronerref04.earlier -/
def zcN:AFn:=⟨3,[.cellN 6 1],
 (Q (O [o 3 (.box (t 0)),o 6 (.alloc [(.slice none 0 0)])])
 (Q (O [o 9 (.bslice 3 0 [] []),f 10 0 3,l 11 10,m 12 1,o 13 (.slc 3 (t 11) none (some (t 12))),o 14 (.append 3 40 (t 9) (t 13)),m 7 14])
 (Q (K [1,2,3,6,7])
 (Q (O [f 15 0 3,l 16 15,m 17 1,i 18 3 16 17,L 19 3 18,o 8 (.alloc [z,(.bool false),(.slice none 0 0)]),s (.store 3 (t 8) (t 19))])
 (Q (K [2,6,7,8])
 (Q (O [f 20 2 8,l 21 20,m 22 2,o 23 (.slc 4 (t 21) none (some (t 22))),f 24 2 8,s (.store 1 (t 24) (t 23))])
 (Q (O [m 25 7,L 26 3 8,o 27 (.bslice 3 1 [z,(.bool false),(.slice none 0 0)] [(0,(3,(t 26)))]),o 28 (.append 3 40 (t 25) (t 27)),o 29 (.build [(.slice none 0 0)] [(0,(1,(t 28)))]),s (.store 1 (t 6) (t 29))])
 .ret)))))))⟩
/-- coroner/encode.text -/
def zcS:AFn:=⟨1,[.tmp 2],
 (Q (O [o 1 (.box (t 0)),o 2 (.mv (.const (.slice none 0 0)))])
 (Q (O [o 3 (.mv (.const (.slice none 0 0)))])
 (Q (Q (O [f 6 0 1,l 7 6,n 8 1 7,o 9 (.mv (ci 0))])
 (Q (K [3,7,8,9]) (.block 0 (.loop (Q (Q (O [B 10 .lss 9 8])
 (Q (.cond (t 10)
 .skip
 (.exit 0))
 (Q (.block 1 (Q (O [i 11 3 7 9,L 12 3 11,o 5 (.alloc [z,(.bool false),(.slice none 0 0)]),s (.store 3 (t 5) (t 12))])
 (O [m 13 3,L 14 3 5,o 15 (.call (.func zaz) [(t 14)]),o 16 (.append 1 1 (t 13) (t 15)),m 3 16])))
 (Q (K [3,7,8,9])
 (O [o 17 (.bin .add (t 9) (ci 1)),m 9 17]))))) (K [3,7,8,9]))))))
 (Q (K [3])
 (Q (O [m 18 3,m 2 18])
 .ret)))))⟩
/-- (*coroner/table.Table).Writes -/
def zci:AFn:=⟨2,[.tmp 4],
 (Q (O [o 4 (.mv (.const .nilFunc))])
 (Q (Q (O [m 5 0,o 6 (.call (.func zt) [(t 5)]),o 7 (.un .not (t 6))])
 (.cond (t 7)
 (Q (O [o 8 (.call (.func z8) [(.const (.slice none 0 0))]),m 4 8])
 .ret)
 .skip))
 (Q (O [m 9 0,o 10 (.nilc (t 9)),f 11 6 10,l 12 11,m 13 1,o 14 (.lookup (.one 1) (.slice none 0 0) false (t 12) (t 13)),o 15 (.call (.func z8) [(t 14)]),m 4 15])
 (Q (K [4])
 .ret))))⟩
/-- coroner/reads.Sound$1 -/
def zcR:AFn:=⟨3,[],
 (Q (O [o 3 (.box (t 0))])
 (Q (O [l 7 1,l 8 2,o 9 (.call (.func zaQ) [(t 7),(t 8)])])
 (.block 0 (.rfun (t 9) [10]
 (O [o 4 (.alloc [z,z,z,(.slice none 0 0),(.slice none 0 0)]),s (.store 5 (t 4) (t 10))])
 (.block 1 (Q (O [l 12 1,L 13 5 4,o 14 (.call (.func zak) [(t 12),(t 13)]),m 11 14,X 15 0 11,X 16 1 11,m 5 15,m 6 16])
 (Q (K [3,4,5])
 (Q (O [m 17 5,o 18 (.bin .eql (t 17) (ci 0)),m 19 18,⟨(some 20),.load1 (t 3),some (19,true),false⟩,⟨(some 21),.loadN 5 (t 4),some (19,true),false⟩,⟨(some 22),.call (t 20) [(t 21)],some (19,true),false⟩,⟨(some 23),.un .not (t 22),some (19,true),false⟩,o 24 (.pick (t 19) (t 23) (.const (.bool false)))])
 (Q (K [24])
 (.cond (t 24)
 .ret
 .skip))))))))))⟩
/-- coroner/edges.last -/
def zcq:AFn:=⟨1,[.tmp 2],
 (Q (O [o 2 (.mv (ci 0))])
 (Q (Q (O [m 3 0,n 4 1 3,o 5 (.bin .eql (t 4) (ci 0))])
 (.cond (t 5)
 (Q (O [o 2 (.mv (ci (-1)))])
 .ret)
 .skip))
 (Q (O [m 6 0,m 7 0,n 8 1 7,o 9 (.bin .sub (t 8) (ci 1)),i 10 1 6 9,l 11 10,m 2 11])
 (Q (K [2])
 .ret))))⟩
/-- slices.isNaN[int] -/
def zcu:AFn:=⟨1,[.tmp 2],
 (Q (O [o 2 (.mv (.const (.bool false)))])
 (Q (O [m 3 0,m 4 0,B 5 .neq 3 4,m 2 5])
 .ret))⟩
/-- coroner/encode.txn -/
def zbR:AFn:=⟨1,[.tmp 2],
 (Q (O [o 1 (.box (t 0)),o 2 (.mv (.const (.slice none 0 0)))])
 (Q (O [o 3 (.mv (.const (.string ⟨#[32,99,10]⟩)))])
 (Q (Q (O [f 7 1 1,l 8 7])
 (.cond (t 8)
 (O [o 3 (.mv (.const (.string ⟨#[32,97,10]⟩)))])
 .skip))
 (Q (O [m 9 3,f 10 0 1,l 11 10,o 12 (.bslice 1 1 [z] [(0,(1,(t 11)))]),o 13 (.call (.func zF) [(.const (.string ⟨#[116]⟩)),(t 9),(t 12)]),m 4 13])
 (Q (Q (O [f 14 2 1,l 15 14,n 16 1 15,o 17 (.mv (ci 0))])
 (Q (K [4,15,16,17]) (.block 0 (.loop (Q (Q (O [B 18 .lss 17 16])
 (Q (.cond (t 18)
 .skip
 (.exit 0))
 (Q (.block 1 (Q (O [i 19 4 15 17,L 20 4 19,o 6 (.alloc [(.bool false),z,z,(.slice none 0 0)]),s (.store 4 (t 6) (t 20))])
 (Q (O [f 21 0 6,l 22 21])
 (.cond (t 22)
 (O [m 23 4,f 24 1 6,l 25 24,o 26 (.bslice 1 1 [z] [(0,(1,(t 25)))]),f 27 3 6,l 28 27,o 29 (.append 1 8 (t 26) (t 28)),o 30 (.call (.func zF) [(.const (.string ⟨#[114]⟩)),(.const (.string ⟨#[10]⟩)),(t 29)]),o 31 (.append 1 1 (t 23) (t 30)),m 4 31])
 (O [m 32 4,f 33 1 6,l 34 33,f 35 2 6,l 36 35,o 37 (.bslice 1 2 [z,z] [(0,(1,(t 34))),(1,(1,(t 36)))]),o 38 (.call (.func zF) [(.const (.string ⟨#[97]⟩)),(.const (.string ⟨#[10]⟩)),(t 37)]),o 39 (.append 1 1 (t 32) (t 38)),m 4 39])))))
 (Q (K [4,15,16,17])
 (O [o 40 (.bin .add (t 17) (ci 1)),m 17 40]))))) (K [4,15,16,17]))))))
 (Q (K [4])
 (Q (O [m 41 4,m 2 41])
 .ret)))))))⟩
/-- coroner/prefix.Fit[int] -/
def zbW:AFn:=⟨2,[.tmp 4],
 (Q (O [o 4 (.mv (.const (.bool false)))])
 (Q (O [m 5 0,m 6 1,o 7 (.call (.func zaa) [(t 5),(t 6)]),m 8 7,⟨(some 9),.mv (t 1),some (8,false),false⟩,⟨(some 10),.mv (t 0),some (8,false),false⟩,⟨(some 11),.call (.func zaa) [(t 9),(t 10)],some (8,false),false⟩,o 12 (.pick (t 8) (.const (.bool true)) (t 11)),m 4 12])
 (Q (K [4])
 .ret)))⟩
/-- coroner/reads.twice -/
def zbO:AFn:=⟨1,[.tmp 2,.tmp 3],
 (Q (O [o 2 (.mv (ci 0)),o 3 (.mv (.const (.bool false)))])
 (Q (O [o 4 (.alloc [(.slice none 0 0)])])
 (Q (Q (O [m 7 0,n 8 1 7,o 9 (.mv (ci 0))])
 (Q (K [4,7,8,9]) (.block 0 (.loop (Q (Q (O [B 10 .lss 9 8])
 (Q (.cond (t 10)
 .skip
 (.exit 0))
 (Q (.block 1 (Q (O [i 11 1 7 9,l 12 11,m 6 12])
 (Q (Q (O [L 13 1 4,m 14 6,o 15 (.call (.func zaJ) [(t 13),(t 14)])])
 (.cond (t 15)
 (Q (O [m 16 6,m 2 16,o 3 (.mv (.const (.bool true)))])
 .ret)
 .skip))
 (O [L 17 1 4,m 18 6,o 19 (.bslice 1 1 [z] [(0,(1,(t 18)))]),o 20 (.call (.func za7) [(t 17),(t 19)]),s (.store 1 (t 4) (t 20))]))))
 (Q (K [4,7,8,9])
 (O [o 21 (.bin .add (t 9) (ci 1)),m 9 21]))))) (K [4,7,8,9]))))))
 (Q (K [])
 (Q (O [o 2 (.mv (ci 0)),o 3 (.mv (.const (.bool false)))])
 .ret)))))⟩
/-- coroner/coronerref05.Has -/
def zbo:AFn:=⟨2,[.tmp 4],
 (Q (O [o 4 (.mv (.const (.bool false)))])
 (Q (Q (O [o 5 (.mv (ci 0))])
 (Q (K [0,1,5]) (.block 0 (.loop (Q (Q (Q (O [m 6 5,m 7 0,n 8 1 7,B 9 .lss 6 8])
 (.cond (t 9)
 .skip
 (.exit 0)))
 (Q (.block 1 (Q (O [m 12 0,m 13 5,i 14 1 12 13,l 15 14,m 16 1,B 17 .eql 15 16])
 (.cond (t 17)
 (Q (O [o 4 (.mv (.const (.bool true)))])
 .ret)
 .skip)))
 (Q (K [0,1,5])
 (O [m 10 5,o 11 (.bin .add (t 10) (ci 1)),m 5 11])))) (K [0,1,5]))))))
 (Q (K [])
 (Q (O [o 4 (.mv (.const (.bool false)))])
 .ret))))⟩
/-- slices.IndexFunc[[]int,int] -/
def zam:AFn:=⟨2,[.tmp 4],
 (Q (O [o 4 (.mv (ci 0))])
 (Q (Q (O [m 6 0,n 7 1 6,o 8 (.mv (ci 0))])
 (Q (K [0,1,7,8]) (.block 0 (.loop (Q (Q (O [B 9 .lss 8 7])
 (Q (.cond (t 9)
 .skip
 (.exit 0))
 (Q (.block 1 (Q (O [m 10 8,m 5 10])
 (Q (O [m 11 1,m 12 0,m 13 5,i 14 1 12 13,l 15 14,o 16 (.call (t 11) [(t 15)])])
 (.cond (t 16)
 (Q (O [m 17 5,m 4 17])
 .ret)
 .skip))))
 (Q (K [0,1,7,8])
 (O [o 18 (.bin .add (t 8) (ci 1)),m 8 18]))))) (K [0,1,7,8]))))))
 (Q (K [])
 (Q (O [o 4 (.mv (ci (-1)))])
 .ret))))⟩
/-- coroner/encode.line -/
def zbp:AFn:=⟨3,[.tmp 6],
 (Q (O [o 6 (.mv (.const (.slice none 0 0)))])
 (Q (O [m 12 0,o 13 (.convSB (t 12)),m 7 13])
 (Q (Q (O [m 14 2,n 15 1 14,o 16 (.mv (ci 0))])
 (Q (K [1,7,14,15,16]) (.block 0 (.loop (Q (Q (O [B 17 .lss 16 15])
 (Q (.cond (t 17)
 .skip
 (.exit 0))
 (Q (.block 1 (Q (O [i 18 1 14 16,l 19 18,m 9 19])
 (Q (O [m 21 9,o 22 (.call (.func zas) [(t 21)]),m 20 22,X 23 0 20,X 24 1 20,m 10 23,m 11 24])
 (Q (K [1,7,10,14,15,16])
 (O [m 25 7,m 26 10,o 27 (.bin .add (.const (.string ⟨#[32]⟩)) (t 26)),o 28 (.appS 1 (t 25) (t 27)),m 7 28])))))
 (Q (K [1,7,14,15,16])
 (O [o 29 (.bin .add (t 16) (ci 1)),m 16 29]))))) (K [1,7,14,15,16]))))))
 (Q (K [1,7])
 (Q (O [m 30 7,m 31 1,o 32 (.appS 1 (t 30) (t 31)),m 6 32])
 .ret)))))⟩
/-- coroner/prefix.Is[int] -/
def zbr:AFn:=⟨2,[.tmp 4],
 (Q (O [o 4 (.mv (.const (.bool false)))])
 (Q (O [m 5 0,m 6 1,o 7 (.call (.func zaW) [(t 5),(t 6)]),m 8 0,n 9 1 8,B 10 .eql 7 9,m 4 10])
 (Q (K [4])
 .ret)))⟩
/-- (coroner/sorted.Set[int]).With -/
def zbL:AFn:=⟨2,[.cellN 4 1],
 (Q (O [o 2 (.box (t 0)),o 4 (.alloc [(.slice none 0 0)])])
 (Q (.ops true [L 5 1 2,m 6 1,o 7 (.call (.func zQ) [(t 6)]),b 8 (.call (.func zaY) [(t 5),(t 7)]),sb (.store 1 (t 4) (t 8))])
 .ret))⟩
/-- coroner/digits.Print -/
def zcf:AFn:=⟨1,[.tmp 2,.tmp 3],
 (Q (O [o 2 (.mv (.const (.string ⟨#[]⟩))),o 3 (.mv (ci 0))])
 (Q (Q (O [m 6 0,o 7 (.call (.func zaV) [(t 6)]),o 8 (.un .not (t 7))])
 (.cond (t 8)
 (Q (O [o 2 (.mv (.const (.string ⟨#[]⟩))),o 3 (.mv (ci 2))])
 .ret)
 .skip))
 (Q (O [m 10 0,o 11 (.call (.func za6) [(t 10)]),m 9 11,X 12 0 9,X 13 1 9,o 4 (.alloc [(.int .u8 0),(.int .u8 0),(.int .u8 0),(.int .u8 0),(.int .u8 0),(.int .u8 0),(.int .u8 0),(.int .u8 0),(.int .u8 0),(.int .u8 0)]),s (.store 10 (t 4) (t 12)),m 5 13])
 (Q (K [4,5])
 (Q (O [m 14 5,o 15 (.bin .sub (ci 10) (t 14)),o 16 (.slcV 10 1 (t 4) (some (t 15)) none),o 17 (.convBS (t 16)),m 2 17,o 3 (.mv (ci 0))])
 .ret)))))⟩
/-- coroner/digits.may -/
def zbl:AFn:=⟨1,[.tmp 2],
 (Q (O [o 2 (.mv (.const (.bool false)))])
 (Q (O [m 3 0,o 4 (.bin .geq (t 3) (ci 0)),m 5 4,⟨(some 6),.mv (t 0),some (5,true),false⟩,⟨(some 7),.bin .leq (t 6) (ci 2147483647),some (5,true),false⟩,o 8 (.pick (t 5) (t 7) (.const (.bool false))),m 2 8])
 (Q (K [2])
 .ret)))⟩
/-- coroner/coronerlaw17.EdgesNamed -/
def zbm:AFn:=⟨2,[.tmp 4],
 (Q (O [o 2 (.box (t 0)),o 4 (.mv (.const (.bool false)))])
 (Q (Q (O [L 18 1 2,o 19 (.call (.func za2) [(t 18)]),o 20 (.un .not (t 19))])
 (.cond (t 20)
 (Q (O [o 21 (.call (.func zJ) []),m 4 21])
 .ret)
 .skip))
 (Q (O [L 23 1 2,o 24 (.call (.func za1) [(t 23)]),m 22 24,X 25 0 22,X 26 1 22,m 5 25,m 6 26])
 (Q (K [1,2,5,6])
 (Q (Q (O [m 27 6,o 28 (.bin .neq (t 27) (ci 0)),m 29 28,⟨(some 30),.mv (t 5),some (29,false),false⟩,⟨(some 31),.eqv 1 false (t 30) (.const (.pointer none)),some (29,false),false⟩,o 32 (.pick (t 29) (.const (.bool true)) (t 31))])
 (.cond (t 32)
 (Q (O [o 4 (.mv (.const (.bool false)))])
 .ret)
 .skip))
 (Q (K [1,2,5])
 (Q (O [m 33 5,m 34 1,o 35 (.call (.func zae) [(t 33),(t 34)]),m 7 35])
 (Q (Q (O [o 8 (.mv (ci 0))])
 (Q (K [1,2,5,7,8]) (.block 0 (.loop (Q (Q (Q (O [m 36 8,m 37 7,n 38 1 37,B 39 .lss 36 38])
 (.cond (t 39)
 .skip
 (.exit 0)))
 (Q (.block 1 (Q (O [m 42 7,m 43 8,i 44 6 42 43,L 45 6 44,o 9 (.alloc [z,z,z,z,z,z]),s (.store 6 (t 9) (t 45))])
 (Q (O [m 47 5,f 48 0 9,l 49 48,o 50 (.call (.func zad) [(t 47),(t 49)]),m 46 50,X 51 0 46,X 52 1 46,m 10 51,m 11 52])
 (Q (K [1,2,5,7,8,9,11])
 (Q (O [m 54 5,f 55 1 9,l 56 55,o 57 (.call (.func zad) [(t 54),(t 56)]),m 53 57,X 58 0 53,X 59 1 53,m 12 58,m 13 59])
 (Q (K [1,2,5,7,8,9,11,13])
 (Q (O [m 61 5,m 62 1,f 63 4 9,l 64 63,o 65 (.call (.func zg) [(t 61),(t 62),(t 64)]),m 60 65,X 66 0 60,X 67 1 60,o 14 (.alloc [z,z,z,z,(.bool false)]),s (.store 5 (t 14) (t 66)),m 15 67])
 (Q (K [1,2,5,7,8,9,11,13,14,15])
 (Q (O [m 69 5,m 70 1,f 71 5 9,l 72 71,o 73 (.call (.func zg) [(t 69),(t 70),(t 72)]),m 68 73,X 74 0 68,X 75 1 68,o 16 (.alloc [z,z,z,z,(.bool false)]),s (.store 5 (t 16) (t 74)),m 17 75])
 (Q (K [1,2,5,7,8,9,11,13,14,15,16,17])
 (Q (Q (O (m 76 11::o 77 (.un .not (t 76))::m 78 77::⟨(some 79),.mv (t 13),some (78,false),false⟩::⟨(some 80),.un .not (t 79),some (78,false),false⟩::o 81 (.pick (t 78) (.const (.bool true)) (t 80))::m 82 81::⟨(some 83),.faddr 0 (t 9),some (82,false),false⟩::⟨(some 84),.load1 (t 83),some (82,false),false⟩::⟨(some 85),.faddr 1 (t 9),some (82,false),false⟩::⟨(some 86),.load1 (t 85),some (82,false),false⟩::⟨(some 87),.bin .eql (t 84) (t 86),some (82,false),false⟩::o 88 (.pick (t 82) (.const (.bool true)) (t 87))::m 89 88::⟨(some 90),.faddr 3 (t 9),some (89,false),false⟩::⟨(some 91),.load1 (t 90),some (89,false),false⟩::⟨(some 92),.mv (t 1),some (89,false),false⟩::⟨(some 93),.bin .neq (t 91) (t 92),some (89,false),false⟩::o 94 (.pick (t 89) (.const (.bool true)) (t 93))::m 95 94::⟨(some 96),.faddr 2 (t 9),some (95,false),false⟩::⟨(some 97),.load1 (t 96),some (95,false),false⟩::⟨(some 98),.bin .neq (t 97) (ci 1),some (95,false),false⟩::⟨(some 99),.mv (t 98),some (95,false),false⟩::⟨(some 100),.faddr 2 (t 9),some (99,true),false⟩::⟨(some 101),.load1 (t 100),some (99,true),false⟩::⟨(some 102),.bin .neq (t 101) (ci 2),some (99,true),false⟩::⟨(some 103),.pick (t 99) (t 102) (.const (.bool false)),some (95,false),false⟩::⟨(some 104),.mv (t 103),some (95,false),false⟩::⟨(some 105),.faddr 2 (t 9),some (104,true),false⟩::⟨(some 106),.load1 (t 105),some (104,true),false⟩::⟨(some 107),.bin .neq (t 106) (ci 4),some (104,true),false⟩::⟨(some 108),.pick (t 104) (t 107) (.const (.bool false)),some (95,false),false⟩::o 109 (.pick (t 95) (.const (.bool true)) (t 108))::[]))
 (Q (K [1,2,5,7,8,9,14,15,16,17,109])
 (.cond (t 109)
 (Q (O [o 4 (.mv (.const (.bool false)))])
 .ret)
 .skip)))
 (Q (K [1,2,5,7,8,9,14,15,16,17])
 (Q (Q (O (f 110 2 9::l 111 110::o 112 (.bin .neq (t 111) (ci 4))::m 113 112::⟨(some 114),.mv (t 15),some (113,true),false⟩::⟨(some 115),.un .not (t 114),some (113,true),false⟩::⟨(some 116),.mv (t 115),some (113,true),false⟩::⟨(some 117),.faddr 0 (t 14),some (116,false),false⟩::⟨(some 118),.load1 (t 117),some (116,false),false⟩::⟨(some 119),.faddr 0 (t 9),some (116,false),false⟩::⟨(some 120),.load1 (t 119),some (116,false),false⟩::⟨(some 121),.bin .neq (t 118) (t 120),some (116,false),false⟩::⟨(some 122),.pick (t 116) (.const (.bool true)) (t 121),some (113,true),false⟩::o 123 (.pick (t 113) (t 122) (.const (.bool false)))::m 124 123::⟨(some 125),.faddr 2 (t 9),some (124,false),false⟩::⟨(some 126),.load1 (t 125),some (124,false),false⟩::⟨(some 127),.bin .neq (t 126) (ci 2),some (124,false),false⟩::⟨(some 128),.mv (t 127),some (124,false),false⟩::⟨(some 129),.mv (t 17),some (128,true),false⟩::⟨(some 130),.un .not (t 129),some (128,true),false⟩::⟨(some 131),.mv (t 130),some (128,true),false⟩::⟨(some 132),.faddr 0 (t 16),some (131,false),false⟩::⟨(some 133),.load1 (t 132),some (131,false),false⟩::⟨(some 134),.faddr 1 (t 9),some (131,false),false⟩::⟨(some 135),.load1 (t 134),some (131,false),false⟩::⟨(some 136),.bin .neq (t 133) (t 135),some (131,false),false⟩::⟨(some 137),.pick (t 131) (.const (.bool true)) (t 136),some (128,true),false⟩::⟨(some 138),.pick (t 128) (t 137) (.const (.bool false)),some (124,false),false⟩::o 139 (.pick (t 124) (.const (.bool true)) (t 138))::m 140 139::⟨(some 141),.faddr 2 (t 9),some (140,false),false⟩::⟨(some 142),.load1 (t 141),some (140,false),false⟩::⟨(some 143),.bin .eql (t 142) (ci 2),some (140,false),false⟩::⟨(some 144),.mv (t 143),some (140,false),false⟩::⟨(some 145),.faddr 5 (t 9),some (144,true),false⟩::⟨(some 146),.load1 (t 145),some (144,true),false⟩::⟨(some 147),.bin .neq (t 146) (ci (-1)),some (144,true),false⟩::⟨(some 148),.pick (t 144) (t 147) (.const (.bool false)),some (140,false),false⟩::o 149 (.pick (t 140) (.const (.bool true)) (t 148))::[]))
 (Q (K [1,2,5,7,8,9,149])
 (.cond (t 149)
 (Q (O [o 4 (.mv (.const (.bool false)))])
 .ret)
 .skip)))
 (Q (K [1,2,5,7,8,9])
 (Q (O [f 150 2 9,l 151 150,o 152 (.bin .eql (t 151) (ci 4)),m 153 152,⟨(some 154),.loadN 1 (t 2),some (153,true),false⟩,⟨(some 155),.mv (t 1),some (153,true),false⟩,⟨(some 156),.faddr 0 (t 9),some (153,true),false⟩,⟨(some 157),.load1 (t 156),some (153,true),false⟩,⟨(some 158),.call (.func zR) [(t 154),(t 155),(t 157)],some (153,true),false⟩,⟨(some 159),.un .not (t 158),some (153,true),false⟩,o 160 (.pick (t 153) (t 159) (.const (.bool false))),m 161 160,⟨(some 162),.faddr 2 (t 9),some (161,false),false⟩,⟨(some 163),.load1 (t 162),some (161,false),false⟩,⟨(some 164),.bin .eql (t 163) (ci 2),some (161,false),false⟩,⟨(some 165),.mv (t 164),some (161,false),false⟩,⟨(some 166),.loadN 1 (t 2),some (165,true),false⟩,⟨(some 167),.mv (t 1),some (165,true),false⟩,⟨(some 168),.faddr 1 (t 9),some (165,true),false⟩,⟨(some 169),.load1 (t 168),some (165,true),false⟩,⟨(some 170),.call (.func zR) [(t 166),(t 167),(t 169)],some (165,true),false⟩,⟨(some 171),.un .not (t 170),some (165,true),false⟩,⟨(some 172),.pick (t 165) (t 171) (.const (.bool false)),some (161,false),false⟩,o 173 (.pick (t 161) (.const (.bool true)) (t 172))])
 (Q (K [1,2,5,7,8,173])
 (.cond (t 173)
 (Q (O [o 4 (.mv (.const (.bool false)))])
 .ret)
 .skip)))))))))))))))))
 (Q (K [1,2,5,7,8])
 (O [m 40 8,o 41 (.bin .add (t 40) (ci 1)),m 8 41])))) (K [1,2,5,7,8]))))))
 (Q (K [])
 (Q (O [o 174 (.call (.func zJ) []),m 4 174])
 .ret))))))))))⟩
/-- coroner/edges.Sort -/
def zbx:AFn:=⟨1,[.tmp 2],
 (Q (O [o 2 (.mv (.const (.slice none 0 0)))])
 (Q (O [m 4 0,o 5 (.call (.func zbf) [(t 4)]),m 3 5])
 (Q (O [m 6 3,o 7 (.call (.func zai) [(t 6),(.func zc)])])
 (Q (O [m 8 3,o 9 (.call (.func zau) [(t 8)]),m 2 9])
 .ret))))⟩
/-- coroner/edges.Of -/
def zcy:AFn:=⟨2,[.tmp 4],
 (Q (O [o 4 (.mv (.const (.slice none 0 0)))])
 (Q (O [m 7 0,m 8 0,m 9 1,o 10 (.call (.func zaU) [(t 8),(t 9)]),o 11 (.build [(.pointer none),z,(.slice none 0 0),(.slice none 0 0),(.bool false),z,z,z,(.slice none 0 0),(.slice none 0 0),z,z,z,(.slice none 0 0),(.slice none 0 0),(.slice none 0 0)] [(0,(1,(t 7))),(1,(14,(t 10)))]),o 12 (.box (t 11)),o 5 (.alloc [(.pointer none)]),s (.store 1 (t 5) (t 12))])
 (Q (K [0,1,4,5])
 (Q (Q (O [l 13 5,o 14 (.nilc (t 13)),f 15 1 14,f 16 3 15,l 17 16])
 (.cond (t 17)
 (Q (O [o 4 (.mv (.const (.slice none 0 0)))])
 .ret)
 .skip))
 (Q (O [l 18 5,o 19 (.call (.func zaq) [(t 18)])])
 (Q (Q (O [m 20 0,m 21 1,o 22 (.call (.func zT) [(t 20),(t 21)])])
 (.block 0 (.rfun (t 22) [23]
 (O [o 6 (.alloc [z,z,z,(.slice none 0 0),(.slice none 0 0)]),s (.store 5 (t 6) (t 23))])
 (.block 1 (O [l 24 5,L 25 5 6,o 26 (.call (.func zap) [(t 24),(t 25)])])))))
 (Q (K [5])
 (Q (O [l 27 5,o 28 (.nilc (t 27)),f 29 15 28,l 30 29,o 31 (.call (.func zaO) [(t 30)]),m 4 31])
 .ret))))))))⟩
/-- (*coroner/table.Table).Writer -/
def zbk:AFn:=⟨3,[.cellN 6 5,.tmp 7],
 (Q (O [o 6 (.alloc [z,z,z,z,(.bool false)]),o 7 (.mv (.const (.bool false)))])
 (Q (Q (O [m 10 0,o 11 (.call (.func zt) [(t 10)]),o 12 (.un .not (t 11))])
 (.cond (t 12)
 (Q (O [o 13 (.build [z,z,z,z,(.bool false)] []),s (.store 5 (t 6) (t 13)),o 7 (.mv (.const (.bool false)))])
 .ret)
 .skip))
 (Q (O [m 15 0,o 16 (.nilc (t 15)),f 17 3 16,l 18 17,m 19 1,m 20 2,o 21 (.build [z,z] [(0,(1,(t 19))),(1,(1,(t 20)))]),o 22 (.lookup (.many [1,1]) (.agg #[z,z,z,z,(.bool false)]) true (t 18) (t 21)),m 14 22,X 23 0 14,X 24 1 14,o 8 (.alloc [z,z,z,z,(.bool false)]),s (.store 5 (t 8) (t 23)),m 9 24])
 (Q (K [6,8,9])
 (Q (O [L 25 5 8,m 26 9,s (.store 5 (t 6) (t 25)),m 7 26])
 .ret)))))⟩
/-- cmp.Compare[int] -/
def zm:AFn:=⟨2,[.tmp 4],
 (Q (O [o 4 (.mv (ci 0))])
 (Q (O [m 7 0,o 8 (.call (.func zd) [(t 7)]),m 5 8])
 (Q (O [m 9 1,o 10 (.call (.func zd) [(t 9)]),m 6 10])
 (Q (Q (O [m 11 5])
 (.cond (t 11)
 (Q (Q (O [m 12 6])
 (.cond (t 12)
 (Q (O [o 4 (.mv (ci 0))])
 .ret)
 .skip))
 (Q (O [o 4 (.mv (ci (-1)))])
 .ret))
 .skip))
 (Q (Q (O [m 13 6])
 (.cond (t 13)
 (Q (O [o 4 (.mv (ci 1))])
 .ret)
 .skip))
 (Q (Q (O [m 14 0,m 15 1,B 16 .lss 14 15])
 (.cond (t 16)
 (Q (O [o 4 (.mv (ci (-1)))])
 .ret)
 .skip))
 (Q (Q (O [m 17 0,m 18 1,B 19 .gtr 17 18])
 (.cond (t 19)
 (Q (O [o 4 (.mv (ci 1))])
 .ret)
 .skip))
 (Q (O [o 4 (.mv (ci 0))])
 .ret))))))))⟩
/-- coroner/coronerref03.Few -/
def zcp:AFn:=⟨3,[.tmp 6],
 (Q (O [o 3 (.box (t 0)),o 6 (.mv (.const (.bool false)))])
 (Q (Q (O [f 10 0 3,l 11 10,n 12 1 11,m 13 1,B 14 .gtr 12 13])
 (.cond (t 14)
 (Q (O [o 6 (.mv (.const (.bool false)))])
 .ret)
 .skip))
 (Q (O [o 7 (.mv (ci 0))])
 (Q (Q (O [o 8 (.mv (ci 0))])
 (Q (K [2,3,7,8]) (.block 0 (.loop (Q (Q (Q (O [m 15 8,f 16 0 3,l 17 16,n 18 1 17,B 19 .lss 15 18])
 (.cond (t 19)
 .skip
 (.exit 0)))
 (Q (.block 1 (Q (Q (O [f 22 0 3,l 23 22,m 24 8,i 25 3 23 24,f 26 2 25,l 27 26,n 28 1 27,m 29 2,m 30 7,B 31 .sub 29 30,B 32 .gtr 28 31])
 (Q (K [2,3,7,8,32])
 (.cond (t 32)
 (Q (O [o 6 (.mv (.const (.bool false)))])
 .ret)
 .skip)))
 (Q (K [2,3,7,8])
 (Q (O [m 33 7,f 34 0 3,l 35 34,m 36 8,i 37 3 35 36,f 38 2 37,l 39 38,n 40 1 39,B 41 .add 33 40,m 7 41])
 (Q (K [2,3,7,8])
 (Q (O [o 9 (.mv (ci 0))])
 (Q (K [2,3,7,8,9]) (.block 2 (.loop (Q (Q (Q (O [m 42 9,f 43 0 3,l 44 43,m 45 8,i 46 3 44 45,f 47 2 46,l 48 47,n 49 1 48,B 50 .lss 42 49])
 (Q (K [2,3,7,8,9,50])
 (.cond (t 50)
 .skip
 (.exit 2))))
 (Q (K [2,3,7,8,9])
 (Q (.block 3 (Q (O [f 53 0 3,l 54 53,m 55 8,i 56 3 54 55,f 57 2 56,l 58 57,m 59 9,i 60 4 58 59,f 61 3 60,l 62 61,n 63 1 62,o 64 (.bin .gtr (t 63) (ci 100))])
 (Q (K [2,3,7,8,9,64])
 (.cond (t 64)
 (Q (O [o 6 (.mv (.const (.bool false)))])
 .ret)
 .skip))))
 (Q (K [2,3,7,8,9])
 (O [m 51 9,o 52 (.bin .add (t 51) (ci 1)),m 9 52]))))) (K [2,3,7,8,9])))))))))))
 (Q (K [2,3,7,8])
 (O [m 20 8,o 21 (.bin .add (t 20) (ci 1)),m 8 21])))) (K [2,3,7,8]))))))
 (Q (K [])
 (Q (O [o 6 (.mv (.const (.bool true)))])
 .ret))))))⟩
/-- coroner/sorted.Of[int] -/
def zbn:AFn:=⟨1,[.cellN 2 1],
 (Q (O [o 2 (.alloc [(.slice none 0 0)])])
 (Q (O [m 4 0,o 5 (.call (.func ze) [(t 4)]),m 3 5])
 (Q (O [m 6 3,o 7 (.call (.func zaG) [(t 6)])])
 (Q (O [m 8 3,o 9 (.call (.func zah) [(t 8)]),o 10 (.build [(.slice none 0 0)] [(0,(1,(t 9)))]),s (.store 1 (t 2) (t 10))])
 .ret))))⟩
/-- coroner/reads.Sound -/
def zcs:AFn:=⟨2,[.tmp 4],
 (Q (O [o 2 (.box (t 0)),o 3 (.box (t 1)),o 4 (.mv (.const .nilFunc))])
 (Q (O [o 5 (.mkf zW [] [(t 2),(t 3)]),m 4 5])
 .ret))⟩
/-- slices.BinarySearch[[]int,int] -/
def zby:AFn:=⟨2,[.tmp 4,.tmp 5],
 (Q (O [o 4 (.mv (ci 0)),o 5 (.mv (.const (.bool false)))])
 (Q (O [m 10 0,n 11 1 10,m 6 11])
 (Q (O [m 12 6,o 7 (.mv (ci 0)),m 8 12])
 (Q (Q (K [0,1,6,7,8]) (.block 0 (.loop (Q (Q (Q (O [m 13 7,m 14 8,B 15 .lss 13 14])
 (.cond (t 15)
 .skip
 (.exit 0)))
 (.block 1 (Q (O [m 16 7,m 17 8,B 18 .add 16 17,o 19 (.conv .u64 (t 18)),o 20 (.bin .shr (t 19) (.const (.int .u64 1))),o 21 (.conv .i64 (t 20)),m 9 21])
 (Q (K [0,1,6,7,8,9])
 (Q (O [m 22 0,m 23 9,i 24 1 22 23,l 25 24,m 26 1,o 27 (.call (.func za0) [(t 25),(t 26)])])
 (.cond (t 27)
 (O [m 28 9,o 29 (.bin .add (t 28) (ci 1)),m 7 29])
 (O [m 30 9,m 8 30]))))))) (K [0,1,6,7,8])))))
 (Q (K [0,1,6,7])
 (Q (O (m 31 7::m 32 7::m 33 6::B 34 .lss 32 33::m 35 34::⟨(some 36),.mv (t 0),some (35,true),false⟩::⟨(some 37),.mv (t 7),some (35,true),false⟩::⟨(some 38),.iaddr 1 (t 36) (t 37),some (35,true),false⟩::⟨(some 39),.load1 (t 38),some (35,true),false⟩::⟨(some 40),.mv (t 1),some (35,true),false⟩::⟨(some 41),.bin .eql (t 39) (t 40),some (35,true),false⟩::⟨(some 42),.mv (t 41),some (35,true),false⟩::⟨(some 43),.mv (t 0),some (42,false),false⟩::⟨(some 44),.mv (t 7),some (42,false),false⟩::⟨(some 45),.iaddr 1 (t 43) (t 44),some (42,false),false⟩::⟨(some 46),.load1 (t 45),some (42,false),false⟩::⟨(some 47),.call (.func zU) [(t 46)],some (42,false),false⟩::⟨(some 48),.mv (t 47),some (42,false),false⟩::⟨(some 49),.mv (t 1),some (48,true),false⟩::⟨(some 50),.call (.func zU) [(t 49)],some (48,true),false⟩::⟨(some 51),.pick (t 48) (t 50) (.const (.bool false)),some (42,false),false⟩::⟨(some 52),.pick (t 42) (.const (.bool true)) (t 51),some (35,true),false⟩::o 53 (.pick (t 35) (t 52) (.const (.bool false)))::m 4 31::m 5 53::[]))
 (Q (K [4,5])
 .ret)))))))⟩
/-- cmp.isNaN[int] -/
def zf:AFn:=⟨1,[.tmp 2],
 (Q (O [o 2 (.mv (.const (.bool false)))])
 (Q (O [m 3 0,m 4 0,B 5 .neq 3 4,m 2 5])
 .ret))⟩
/-- coroner/coronerref04.may -/
def zbJ:AFn:=⟨1,[.tmp 2],
 (Q (O [o 2 (.mv (.const (.bool false)))])
 (Q (O [m 3 0,o 4 (.bin .geq (t 3) (ci 0)),m 5 4,⟨(some 6),.mv (t 0),some (5,true),false⟩,⟨(some 7),.bin .leq (t 6) (ci 2147483647),some (5,true),false⟩,o 8 (.pick (t 5) (t 7) (.const (.bool false))),m 2 8])
 (Q (K [2])
 .ret)))⟩
/-- coroner/coronerref04.Text -/
def zb1:AFn:=⟨1,[.tmp 2],
 (Q (O [o 1 (.box (t 0)),o 2 (.mv (.const (.string ⟨#[]⟩)))])
 (Q (O [o 3 (.mv (.const (.string ⟨#[]⟩)))])
 (Q (Q (O [o 4 (.mv (ci 0))])
 (Q (K [1,3,4]) (.block 0 (.loop (Q (Q (Q (O [m 10 4,f 11 0 1,l 12 11,n 13 1 12,B 14 .lss 10 13])
 (.cond (t 14)
 .skip
 (.exit 0)))
 (Q (.block 1 (Q (O [f 17 0 1,l 18 17,m 19 4,i 20 3 18 19,L 21 3 20,o 5 (.alloc [z,(.bool false),(.slice none 0 0)]),s (.store 3 (t 5) (t 21))])
 (Q (K [1,3,4,5])
 (Q (O [f 22 0 5,l 23 22,o 24 (.call (.func zo) [(t 23)]),o 25 (.bin .add (.const (.string ⟨#[116,32]⟩)) (t 24)),m 6 25])
 (Q (Q (O [f 26 1 5,l 27 26])
 (.cond (t 27)
 (O [m 28 6,o 29 (.bin .add (t 28) (.const (.string ⟨#[32,97,10]⟩))),m 6 29])
 (O [m 30 6,o 31 (.bin .add (t 30) (.const (.string ⟨#[32,99,10]⟩))),m 6 31])))
 (Q (Q (O [o 7 (.mv (ci 0))])
 (Q (K [1,3,4,5,6,7]) (.block 2 (.loop (Q (Q (Q (O [m 32 7,f 33 2 5,l 34 33,n 35 1 34,B 36 .lss 32 35])
 (.cond (t 36)
 .skip
 (.exit 2)))
 (Q (.block 3 (Q (O [f 39 2 5,l 40 39,m 41 7,i 42 4 40 41,L 43 4 42,o 8 (.alloc [(.bool false),z,z,(.slice none 0 0)]),s (.store 4 (t 8) (t 43))])
 (Q (K [1,3,4,5,6,7,8])
 (Q (Q (O [f 44 0 8,l 45 44])
 (.cond (t 45)
 (Q (O [m 46 6,o 47 (.bin .add (t 46) (.const (.string ⟨#[114,32]⟩))),f 48 1 8,l 49 48,o 50 (.call (.func zo) [(t 49)]),B 51 .add 47 50,m 6 51])
 (Q (K [1,3,4,5,6,7,8])
 (Q (O [o 9 (.mv (ci 0))])
 (Q (K [1,3,4,5,6,7,8,9]) (.block 4 (.loop (Q (Q (Q (O [m 52 9,f 53 3 8,l 54 53,n 55 1 54,B 56 .lss 52 55])
 (.cond (t 56)
 .skip
 (.exit 4)))
 (Q (.block 5 (O [m 59 6,o 60 (.bin .add (t 59) (.const (.string ⟨#[32]⟩))),f 61 3 8,l 62 61,m 63 9,i 64 1 62 63,l 65 64,o 66 (.call (.func zo) [(t 65)]),B 67 .add 60 66,m 6 67]))
 (Q (K [1,3,4,5,6,7,8,9])
 (O [m 57 9,o 58 (.bin .add (t 57) (ci 1)),m 9 58])))) (K [1,3,4,5,6,7,8,9]))))))))
 (.ops true [m 68 6,o 69 (.bin .add (t 68) (.const (.string ⟨#[97,32]⟩))),f 70 1 8,l 71 70,o 72 (.call (.func zo) [(t 71)]),B 73 .add 69 72,o 74 (.bin .add (t 73) (.const (.string ⟨#[32]⟩))),f 75 2 8,l 76 75,o 77 (.call (.func zo) [(t 76)]),b 78 (.bin .add (t 74) (t 77)),b 6 (.mv (t 78))])))
 (Q (K [1,3,4,5,6,7])
 (O [m 79 6,o 80 (.bin .add (t 79) (.const (.string ⟨#[10]⟩))),m 6 80]))))))
 (Q (K [1,3,4,5,6,7])
 (O [m 37 7,o 38 (.bin .add (t 37) (ci 1)),m 7 38])))) (K [1,3,4,5,6,7]))))))
 (Q (K [1,3,4,6])
 (O [m 81 3,m 82 6,B 83 .add 81 82,m 3 83]))))))))
 (Q (K [1,3,4])
 (O [m 15 4,o 16 (.bin .add (t 15) (ci 1)),m 4 16])))) (K [1,3,4]))))))
 (Q (K [3])
 (Q (O [m 84 3,m 2 84])
 .ret)))))⟩
/-- slices.Compact[[]int,int] -/
def zcz:AFn:=⟨1,[.tmp 2],
 (Q (O [o 2 (.mv (.const (.slice none 0 0)))])
 (Q (Q (O [m 6 0,n 7 1 6,o 8 (.bin .lss (t 7) (ci 2))])
 (.cond (t 8)
 (Q (O [m 9 0,m 2 9])
 .ret)
 .skip))
 (Q (Q (O [o 3 (.mv (ci 1))])
 (Q (K [0,3]) (.block 0 (.loop (Q (Q (Q (O [m 10 3,m 11 0,n 12 1 11,B 13 .lss 10 12])
 (.cond (t 13)
 .skip
 (.exit 0)))
 (Q (.block 1 (Q (.ops true [m 16 0,m 17 3,i 18 1 16 17,l 19 18,m 20 0,m 21 3,o 22 (.bin .sub (t 21) (ci 1)),i 23 1 20 22,l 24 23,b 25 (.bin .eql (t 19) (t 24))])
 (Q (K [0,3,25])
 (.cond (t 25)
 (Q (O [m 26 0,m 27 3,o 28 (.slc 1 (t 26) (some (t 27)) none),m 4 28])
 (Q (Q (O [o 5 (.mv (ci 1))])
 (Q (K [0,3,4,5]) (.block 2 (.loop (Q (Q (Q (O [m 29 5,m 30 4,n 31 1 30,B 32 .lss 29 31])
 (.cond (t 32)
 .skip
 (.exit 2)))
 (Q (.block 3 (Q (.ops true [m 35 4,m 36 5,i 37 1 35 36,l 38 37,m 39 4,m 40 5,o 41 (.bin .sub (t 40) (ci 1)),i 42 1 39 41,l 43 42,b 44 (.bin .neq (t 38) (t 43))])
 (Q (K [0,3,4,5,44])
 (.cond (t 44)
 (Q (O [m 45 0,m 46 3,m 47 4,m 48 5,i 49 1 47 48,l 50 49,i 51 1 45 46,s (.store 1 (t 51) (t 50))])
 (Q (K [0,3,4,5])
 (O [m 52 3,o 53 (.bin .add (t 52) (ci 1)),m 3 53])))
 .skip))))
 (Q (K [0,3,4,5])
 (O [m 33 5,o 34 (.bin .add (t 33) (ci 1)),m 5 34])))) (K [0,3,4,5]))))))
 (Q (K [0,3])
 (Q (O [m 54 0,m 55 3,o 56 (.slc 1 (t 54) (some (t 55)) none),s (.clear [z] (t 56))])
 (Q (O [m 57 0,m 58 3,o 59 (.slc 1 (t 57) none (some (t 58))),m 2 59])
 .ret)))))
 .skip))))
 (Q (K [0,3])
 (O [m 14 3,o 15 (.bin .add (t 14) (ci 1)),m 3 15])))) (K [0,3]))))))
 (Q (K [0])
 (Q (O [m 60 0,m 2 60])
 .ret)))))⟩
/-- coroner/order.Next -/
def zcM:AFn:=⟨2,[.tmp 4],
 (Q (O [o 2 (.box (t 0)),o 4 (.mv (.const (.slice none 0 0)))])
 (Q (.block 0 (Q (O [m 6 1,f 7 1 2,l 8 7,n 9 1 8,B 10 .eql 6 9,m 5 10])
 (.cond (t 5)
 (Q (O [f 11 2 2,l 12 11,o 13 (.call (.func ze) [(t 12)]),m 4 13])
 .ret)
 (Q (O [m 15 1,o 16 (.bin .geq (t 15) (ci 0)),m 17 16,⟨(some 18),.mv (t 1),some (17,true),false⟩,⟨(some 19),.faddr 1 (t 2),some (17,true),false⟩,⟨(some 20),.load1 (t 19),some (17,true),false⟩,⟨(some 21),.len 1 (t 20),some (17,true),false⟩,⟨(some 22),.bin .lss (t 18) (t 21),some (17,true),false⟩,o 23 (.pick (t 17) (t 22) (.const (.bool false))),m 14 23])
 (Q (K [1,2,14])
 (.cond (t 14)
 (Q (O [f 24 1 2,l 25 24,m 26 1,i 27 1 25 26,l 28 27,o 29 (.bslice 1 1 [z] [(0,(1,(t 28)))]),m 4 29])
 (Q (K [4])
 .ret))
 .skip))))))
 (Q (K [])
 (Q (O [o 4 (.mv (.const (.slice none 0 0)))])
 .ret))))⟩
/-- (*coroner/table.Table).Reads -/
def zcD:AFn:=⟨2,[.tmp 4],
 (Q (O [o 4 (.mv (.const .nilFunc))])
 (Q (Q (O [m 5 0,o 6 (.call (.func zt) [(t 5)]),o 7 (.un .not (t 6))])
 (.cond (t 7)
 (Q (O [o 8 (.call (.func zX) [(.const (.slice none 0 0))]),m 4 8])
 .ret)
 .skip))
 (Q (O [m 9 0,o 10 (.nilc (t 9)),f 11 5 10,l 12 11,m 13 1,o 14 (.lookup (.one 1) (.slice none 0 0) false (t 12) (t 13)),o 15 (.call (.func zX) [(t 14)]),m 4 15])
 (Q (K [4])
 .ret))))⟩
/-- coroner/coronerref12.IDs -/
def zcn:AFn:=⟨1,[.tmp 2],
 (Q (O [o 1 (.box (t 0)),o 2 (.mv (.const (.slice none 0 0)))])
 (Q (O [o 3 (.mv (.const (.slice none 0 0)))])
 (Q (Q (O [o 4 (.mv (ci 0))])
 (Q (K [1,3,4]) (.block 0 (.loop (Q (Q (Q (O [m 5 4,f 6 0 1,l 7 6,n 8 1 7,B 9 .lss 5 8])
 (.cond (t 9)
 .skip
 (.exit 0)))
 (Q (.block 1 (Q (O [f 12 0 1,l 13 12,m 14 4,i 15 3 13 14,f 16 1 15,l 17 16,o 18 (.un .not (t 17))])
 (Q (K [1,3,4,18])
 (.cond (t 18)
 (O [m 19 3,f 20 0 1,l 21 20,m 22 4,i 23 3 21 22,f 24 0 23,l 25 24,o 26 (.bslice 1 1 [z] [(0,(1,(t 25)))]),o 27 (.append 1 8 (t 19) (t 26)),m 3 27])
 .skip))))
 (Q (K [1,3,4])
 (O [m 10 4,o 11 (.bin .add (t 10) (ci 1)),m 4 11])))) (K [1,3,4]))))))
 (Q (K [3])
 (Q (O [m 28 3,o 29 (.call (.func zba) [(t 28)]),m 2 29])
 .ret)))))⟩
/-- coroner/coronerref05.Of -/
def zbV:AFn:=⟨1,[.tmp 2],
 (Q (O [o 2 (.mv (.const (.slice none 0 0)))])
 (Q (O [o 3 (.mv (.const (.slice none 0 0)))])
 (Q (Q (O [o 4 (.mv (ci 0))])
 (Q (K [0,3,4]) (.block 0 (.loop (Q (Q (Q (O [m 8 4,m 9 0,n 10 1 9,B 11 .leq 8 10])
 (.cond (t 11)
 .skip
 (.exit 0)))
 (Q (.block 1 (Q (O [o 5 (.mv (ci 0)),o 6 (.mv (.const (.bool false)))])
 (Q (Q (O [o 7 (.mv (ci 0))])
 (Q (K [0,3,4,5,6,7]) (.block 2 (.loop (Q (Q (Q (O [m 14 7,m 15 0,n 16 1 15,B 17 .lss 14 16])
 (.cond (t 17)
 .skip
 (.exit 2)))
 (Q (.block 3 (Q (O [m 20 3,m 21 0,m 22 7,i 23 1 21 22,l 24 23,o 25 (.call (.func zaD) [(t 20),(t 24)]),o 26 (.un .not (t 25)),m 27 26,⟨(some 28),.mv (t 6),some (27,true),false⟩,⟨(some 29),.un .not (t 28),some (27,true),false⟩,⟨(some 30),.mv (t 29),some (27,true),false⟩,⟨(some 31),.mv (t 0),some (30,false),false⟩,⟨(some 32),.mv (t 7),some (30,false),false⟩,⟨(some 33),.iaddr 1 (t 31) (t 32),some (30,false),false⟩,⟨(some 34),.load1 (t 33),some (30,false),false⟩,⟨(some 35),.mv (t 5),some (30,false),false⟩,⟨(some 36),.bin .lss (t 34) (t 35),some (30,false),false⟩,⟨(some 37),.pick (t 30) (.const (.bool true)) (t 36),some (27,true),false⟩,o 38 (.pick (t 27) (t 37) (.const (.bool false)))])
 (Q (K [0,3,4,5,6,7,38])
 (.cond (t 38)
 (O [m 39 0,m 40 7,i 41 1 39 40,l 42 41,m 5 42,o 6 (.mv (.const (.bool true)))])
 .skip))))
 (Q (K [0,3,4,5,6,7])
 (O [m 18 7,o 19 (.bin .add (t 18) (ci 1)),m 7 19])))) (K [0,3,4,5,6,7]))))))
 (Q (K [0,3,4,5,6])
 (Q (Q (O [m 43 6,o 44 (.un .not (t 43))])
 (.cond (t 44)
 (Q (O [m 45 3,m 2 45])
 .ret)
 .skip))
 (O [m 46 3,m 47 5,o 48 (.bslice 1 1 [z] [(0,(1,(t 47)))]),o 49 (.append 1 8 (t 46) (t 48)),m 3 49]))))))
 (Q (K [0,3,4])
 (O [m 12 4,o 13 (.bin .add (t 12) (ci 1)),m 4 13])))) (K [0,3,4]))))))
 (Q (K [3])
 (Q (O [m 50 3,m 2 50])
 .ret)))))⟩
/-- coroner/coronerref04.number -/
def zbC:AFn:=⟨1,[.tmp 2],
 (Q (O [o 2 (.mv (.const (.string ⟨#[]⟩)))])
 (Q (O [m 6 0,o 7 (.call (.func zaF) [(t 6)]),m 5 7,X 8 0 5,X 9 1 5,m 3 8,m 4 9])
 (Q (K [3])
 (Q (O [m 10 3,m 2 10])
 .ret))))⟩
/-- coroner/prefix.apart[int] -/
def zb3:AFn:=⟨2,[.tmp 4,.tmp 5],
 (Q (O [o 4 (.mv (ci 0)),o 5 (.mv (.const (.bool false)))])
 (Q (Q (O [m 7 1,o 8 (.bin .add (t 7) (ci 1)),m 6 8])
 (Q (K [0,1,6]) (.block 0 (.loop (Q (Q (Q (O [m 9 6,m 10 0,n 11 1 10,B 12 .lss 9 11])
 (.cond (t 12)
 .skip
 (.exit 0)))
 (Q (.block 1 (Q (.ops true [m 15 0,m 16 1,i 17 1 15 16,l 18 17,m 19 0,m 20 6,i 21 1 19 20,l 22 21,b 23 (.call (.func zM) [(t 18),(t 22)]),b 24 (.un .not (t 23))])
 (Q (K [0,1,6,24])
 (.cond (t 24)
 (Q (O [m 25 6,m 4 25,o 5 (.mv (.const (.bool true)))])
 .ret)
 .skip))))
 (Q (K [0,1,6])
 (O [m 13 6,o 14 (.bin .add (t 13) (ci 1)),m 6 14])))) (K [0,1,6]))))))
 (Q (K [])
 (Q (O [o 4 (.mv (ci 0)),o 5 (.mv (.const (.bool false)))])
 .ret))))⟩
/-- coroner/reads.unborn -/
def zcO:AFn:=⟨2,[.tmp 4,.tmp 5],
 (Q (O [o 3 (.box (t 1)),o 4 (.mv (ci 0)),o 5 (.mv (.const (.bool false)))])
 (Q (Q (O [f 10 3 3,l 11 10,n 12 1 11,o 13 (.mv (ci 0))])
 (Q (K [0,3,11,12,13]) (.block 0 (.loop (Q (Q (O [B 14 .lss 13 12])
 (Q (.cond (t 14)
 .skip
 (.exit 0))
 (Q (.block 1 (Q (O [i 15 1 11 13,l 16 15,m 7 16])
 (Q (O [m 18 0,f 19 2 3,l 20 19,m 21 7,o 22 (.call (.func zg) [(t 18),(t 20),(t 21)]),m 17 22,X 23 0 17,X 24 1 17,o 8 (.alloc [z,z,z,z,(.bool false)]),s (.store 5 (t 8) (t 23)),m 9 24])
 (Q (K [0,3,7,9,11,12,13])
 (Q (O [m 25 9,o 26 (.un .not (t 25))])
 (.cond (t 26)
 (Q (O [m 27 7,m 4 27,o 5 (.mv (.const (.bool true)))])
 .ret)
 .skip))))))
 (Q (K [0,3,11,12,13])
 (O [o 28 (.bin .add (t 13) (ci 1)),m 13 28]))))) (K [0,3,11,12,13]))))))
 (Q (K [])
 (Q (O [o 4 (.mv (ci 0)),o 5 (.mv (.const (.bool false)))])
 .ret))))⟩
/-- coroner/prefix.Common[int] -/
def zcG:AFn:=⟨2,[.tmp 4],
 (Q (O [o 4 (.mv (ci 0))])
 (Q (O [o 5 (.mv (ci 0))])
 (Q (Q (K [0,1,5]) (.block 0 (.loop (Q (Q (Q (.ops true [m 6 5,m 7 0,n 8 1 7,b 9 (.bin .lss (t 6) (t 8)),b 10 (.mv (t 9)),⟨(some 11),.mv (t 5),some (10,true),false⟩,⟨(some 12),.mv (t 1),some (10,true),false⟩,⟨(some 13),.len 1 (t 12),some (10,true),false⟩,⟨(some 14),.bin .lss (t 11) (t 13),some (10,true),true⟩,b 15 (.pick (t 10) (t 14) (.const (.bool false))),b 16 (.mv (t 15)),⟨(some 17),.mv (t 0),some (16,true),false⟩,⟨(some 18),.mv (t 5),some (16,true),false⟩,⟨(some 19),.iaddr 1 (t 17) (t 18),some (16,true),false⟩,⟨(some 20),.load1 (t 19),some (16,true),false⟩,⟨(some 21),.mv (t 1),some (16,true),false⟩,⟨(some 22),.mv (t 5),some (16,true),false⟩,⟨(some 23),.iaddr 1 (t 21) (t 22),some (16,true),false⟩,⟨(some 24),.load1 (t 23),some (16,true),false⟩,⟨(some 25),.bin .eql (t 20) (t 24),some (16,true),true⟩,b 26 (.pick (t 16) (t 25) (.const (.bool false)))])
 (Q (K [0,1,5,26])
 (.cond (t 26)
 .skip
 (.exit 0))))
 (Q (K [0,1,5])
 (.block 1 (O [m 27 5,o 28 (.bin .add (t 27) (ci 1)),m 5 28])))) (K [0,1,5])))))
 (Q (K [5])
 (Q (O [m 29 5,m 4 29])
 .ret)))))⟩
/-- coroner/table.goes[coroner/table.Write]$1 -/
def zbU:AFn:=⟨2,[],
 (Q (O [l 5 1,n 6 1 5,o 7 (.mv (ci 0))])
 (Q (K [0,5,6,7]) (.block 0 (.loop (Q (Q (O [B 8 .lss 7 6])
 (Q (.cond (t 8)
 .skip
 (.exit 0))
 (Q (.block 1 (Q (O [i 9 5 5 7,L 10 5 9,o 4 (.alloc [z,z,z,z,(.bool false)]),s (.store 5 (t 4) (t 10))])
 (Q (O [m 11 0,L 12 5 4,o 13 (.call (t 11) [(t 12)]),o 14 (.un .not (t 13))])
 (.cond (t 14)
 .ret
 .skip))))
 (Q (K [0,5,6,7])
 (O [o 15 (.bin .add (t 7) (ci 1)),m 7 15]))))) (K [0,5,6,7]))))))⟩
/-- (coroner/sorted.Set[int]).place -/
def zbw:AFn:=⟨2,[.tmp 4,.tmp 5],
 (Q (O [o 2 (.box (t 0)),o 4 (.mv (ci 0)),o 5 (.mv (.const (.bool false)))])
 (Q (O [f 6 0 2,l 7 6,m 8 1,o 9 (.call (.func zZ) [(t 7),(t 8)]),X 10 0 9,X 11 1 9,m 4 10,m 5 11])
 (Q (K [4,5])
 .ret)))⟩
/-- coroner/digits.text -/
def zbu:AFn:=⟨1,[.cellN 2 10,.tmp 3],
 (Q (O [o 2 (.alloc [(.int .u8 0),(.int .u8 0),(.int .u8 0),(.int .u8 0),(.int .u8 0),(.int .u8 0),(.int .u8 0),(.int .u8 0),(.int .u8 0),(.int .u8 0)]),o 3 (.mv (ci 0))])
 (Q (O [o 4 (.alloc [(.int .u8 0),(.int .u8 0),(.int .u8 0),(.int .u8 0),(.int .u8 0),(.int .u8 0),(.int .u8 0),(.int .u8 0),(.int .u8 0),(.int .u8 0)])])
 (Q (O [o 5 (.mv (ci 0))])
 (Q (Q (K [0,2,4,5]) (.block 0 (.loop (Q (Q (Q (O [m 6 5,o 7 (.bin .eql (t 6) (ci 0)),m 8 7,⟨(some 9),.mv (t 0),some (8,false),false⟩,⟨(some 10),.bin .gtr (t 9) (ci 0),some (8,false),false⟩,o 11 (.pick (t 8) (.const (.bool true)) (t 10))])
 (.cond (t 11)
 .skip
 (.exit 0)))
 (.block 1 (Q (O [m 12 5,o 13 (.bin .add (t 12) (ci 1)),m 5 13])
 (Q (O [m 14 5,o 15 (.bin .sub (ci 10) (t 14)),m 16 0,o 17 (.bin .rem (t 16) (ci 10)),o 18 (.bin .add (ci 48) (t 17)),o 19 (.conv .u8 (t 18)),o 20 (.iaddrA 10 1 (t 4) (t 15)),s (.store 1 (t 20) (t 19))])
 (Q (K [0,2,4,5])
 (O [m 21 0,o 22 (.bin .quo (t 21) (ci 10)),m 0 22])))))) (K [0,2,4,5])))))
 (Q (K [2,4,5])
 (Q (O [L 23 10 4,m 24 5,s (.store 10 (t 2) (t 23)),m 3 24])
 .ret))))))⟩
/-- coroner/edges.Compare -/
def zG:AFn:=⟨2,[.tmp 4],
 (Q (O [o 2 (.box (t 0)),o 3 (.box (t 1)),o 4 (.mv (ci 0))])
 (Q (.ops true (f 5 0 2::l 6 5::f 7 0 3::l 8 7::o 9 (.call (.func zb) [(t 6),(t 8)])::f 10 1 2::l 11 10::f 12 1 3::l 13 12::o 14 (.call (.func zb) [(t 11),(t 13)])::f 15 2 2::l 16 15::f 17 2 3::l 18 17::o 19 (.call (.func zb) [(t 16),(t 18)])::f 20 3 2::l 21 20::f 22 3 3::l 23 22::o 24 (.call (.func zb) [(t 21),(t 23)])::f 25 4 2::l 26 25::f 27 4 3::l 28 27::o 29 (.call (.func zb) [(t 26),(t 28)])::f 30 5 2::l 31 30::f 32 5 3::l 33 32::b 34 (.call (.func zb) [(t 31),(t 33)])::b 35 (.bslice 1 6 [z,z,z,z,z,z] [(0,(1,(t 9))),(1,(1,(t 14))),(2,(1,(t 19))),(3,(1,(t 24))),(4,(1,(t 29))),(5,(1,(t 34)))])::b 36 (.call (.func zj) [(t 35)])::b 4 (.mv (t 36))::[]))
 (Q (K [4])
 .ret)))⟩
/-- coroner/coronerlaw17.reads -/
def zce:AFn:=⟨3,[.tmp 6],
 (Q (O [o 3 (.box (t 0)),o 6 (.mv (.const (.bool false)))])
 (Q (O [L 9 1 3,m 10 1,o 11 (.call (.func zav) [(t 9),(t 10)]),m 7 11])
 (Q (Q (O [o 8 (.mv (ci 0))])
 (Q (K [2,7,8]) (.block 0 (.loop (Q (Q (Q (O [m 12 8,m 13 7,n 14 1 13,B 15 .lss 12 14])
 (.cond (t 15)
 .skip
 (.exit 0)))
 (Q (.block 1 (Q (O [m 18 7,m 19 8,i 20 5 18 19,f 21 0 20,l 22 21,m 23 2,B 24 .eql 22 23])
 (Q (K [2,7,8,24])
 (.cond (t 24)
 (Q (O [o 6 (.mv (.const (.bool true)))])
 .ret)
 .skip))))
 (Q (K [2,7,8])
 (O [m 16 8,o 17 (.bin .add (t 16) (ci 1)),m 8 17])))) (K [2,7,8]))))))
 (Q (K [])
 (Q (O [o 6 (.mv (.const (.bool false)))])
 .ret)))))⟩
/-- slices.Clone[[]coroner/api.Edge,coroner/api.Edge] -/
def zcB:AFn:=⟨1,[.tmp 2],
 (Q (O [o 2 (.mv (.const (.slice none 0 0)))])
 (Q (Q (O [m 3 0,o 4 (.eqv 2 false (t 3) (.const (.slice none 0 0)))])
 (.cond (t 4)
 (Q (O [o 2 (.mv (.const (.slice none 0 0)))])
 .ret)
 .skip))
 (Q (O [o 5 (.bslice 6 0 [] []),m 6 0,o 7 (.append 6 48 (t 5) (t 6)),m 2 7])
 .ret)))⟩
/-- coroner/coronerref04.Check -/
def zcj:AFn:=⟨1,[.tmp 2],
 (Q (O [o 1 (.box (t 0)),o 2 (.mv (ci 0))])
 (Q (Q (O [f 7 0 1,l 8 7,n 9 1 8,o 10 (.bin .gtr (t 9) (ci 1024)),m 11 10,⟨(some 12),.loadN 1 (t 1),some (11,false),false⟩,⟨(some 13),.call (.func zaj) [(t 12)],some (11,false),false⟩,⟨(some 14),.bin .gtr (t 13) (ci 4096),some (11,false),false⟩,o 15 (.pick (t 11) (.const (.bool true)) (t 14))])
 (Q (K [1,15])
 (.cond (t 15)
 (Q (O [o 2 (.mv (ci 3))])
 .ret)
 .skip)))
 (Q (K [1])
 (Q (Q (O [o 3 (.mv (ci 0))])
 (Q (K [1,3]) (.block 0 (.loop (Q (Q (Q (O [m 16 3,f 17 0 1,l 18 17,n 19 1 18,B 20 .lss 16 19])
 (.cond (t 20)
 .skip
 (.exit 0)))
 (Q (.block 1 (Q (O [f 23 0 1,l 24 23,m 25 3,i 26 3 24 25,L 27 3 26,o 4 (.alloc [z,(.bool false),(.slice none 0 0)]),s (.store 3 (t 4) (t 27))])
 (Q (K [1,3,4])
 (Q (Q (O [f 28 0 4,l 29 28,o 30 (.call (.func zr) [(t 29)]),o 31 (.un .not (t 30))])
 (.cond (t 31)
 (Q (O [o 2 (.mv (ci 2))])
 .ret)
 .skip))
 (Q (Q (O [o 5 (.mv (ci 0))])
 (Q (K [1,3,4,5]) (.block 2 (.loop (Q (Q (Q (O [m 32 5,m 33 3,B 34 .lss 32 33])
 (.cond (t 34)
 .skip
 (.exit 2)))
 (Q (.block 3 (Q (.ops true [f 37 0 1,l 38 37,m 39 5,i 40 3 38 39,f 41 0 40,l 42 41,f 43 0 4,l 44 43,b 45 (.bin .eql (t 42) (t 44))])
 (Q (K [1,3,4,5,45])
 (.cond (t 45)
 (Q (O [o 2 (.mv (ci 5))])
 .ret)
 .skip))))
 (Q (K [1,3,4,5])
 (O [m 35 5,o 36 (.bin .add (t 35) (ci 1)),m 5 36])))) (K [1,3,4,5]))))))
 (Q (K [1,3,4])
 (Q (O [o 6 (.mv (ci 0))])
 (Q (K [1,3,4,6]) (.block 4 (.loop (Q (Q (Q (O [m 46 6,f 47 2 4,l 48 47,n 49 1 48,B 50 .lss 46 49])
 (.cond (t 50)
 .skip
 (.exit 4)))
 (Q (.block 5 (Q (Q (O [f 53 2 4,l 54 53,m 55 6,i 56 4 54 55,L 57 4 56,o 58 (.call (.func zbc) [(t 57)]),o 59 (.un .not (t 58))])
 (Q (K [1,3,4,6,59])
 (.cond (t 59)
 (Q (O [o 2 (.mv (ci 2))])
 .ret)
 .skip)))
 (Q (K [1,3,4,6])
 (Q (.ops true (f 60 2 4::l 61 60::m 62 6::b 63 (.iaddr 4 (t 61) (t 62))::b 64 (.faddr 0 (t 63))::b 65 (.load1 (t 64))::b 66 (.un .not (t 65))::b 67 (.mv (t 66))::⟨(some 68),.loadN 1 (t 1),some (67,true),false⟩::⟨(some 69),.mv (t 3),some (67,true),false⟩::⟨(some 70),.mv (t 6),some (67,true),false⟩::⟨(some 71),.call (.func zbe) [(t 68),(t 69),(t 70)],some (67,true),false⟩::⟨(some 72),.faddr 2 (t 4),some (67,true),false⟩::⟨(some 73),.load1 (t 72),some (67,true),false⟩::⟨(some 74),.mv (t 6),some (67,true),false⟩::⟨(some 75),.iaddr 4 (t 73) (t 74),some (67,true),false⟩::⟨(some 76),.faddr 1 (t 75),some (67,true),false⟩::⟨(some 77),.load1 (t 76),some (67,true),false⟩::⟨(some 78),.faddr 2 (t 4),some (67,true),false⟩::⟨(some 79),.load1 (t 78),some (67,true),false⟩::⟨(some 80),.mv (t 6),some (67,true),false⟩::⟨(some 81),.iaddr 4 (t 79) (t 80),some (67,true),false⟩::⟨(some 82),.faddr 2 (t 81),some (67,true),false⟩::⟨(some 83),.load1 (t 82),some (67,true),false⟩::⟨(some 84),.call (.func za4) [(t 71),(t 77),(t 83)],some (67,true),true⟩::b 85 (.pick (t 67) (t 84) (.const (.bool false)))::[]))
 (Q (K [1,3,4,6,85])
 (.cond (t 85)
 (Q (O [o 2 (.mv (ci 6))])
 .ret)
 .skip))))))
 (Q (K [1,3,4,6])
 (O [m 51 6,o 52 (.bin .add (t 51) (ci 1)),m 6 52])))) (K [1,3,4,6]))))))))))))
 (Q (K [1,3])
 (O [m 21 3,o 22 (.bin .add (t 21) (ci 1)),m 3 22])))) (K [1,3]))))))
 (Q (K [1])
 (Q (Q (O [L 86 1 1,o 87 (.call (.func zag) [(t 86)]),n 88 0 87,o 89 (.bin .gtr (t 88) (ci 262144))])
 (.cond (t 89)
 (Q (O [o 2 (.mv (ci 3))])
 .ret)
 .skip))
 (Q (O [o 2 (.mv (ci 0))])
 .ret)))))))⟩
/-- (coroner/sorted.Set[int]).List -/
def zbA:AFn:=⟨1,[.tmp 2],
 (Q (O [o 1 (.box (t 0)),o 2 (.mv (.const (.slice none 0 0)))])
 (Q (O [f 3 0 1,l 4 3,o 5 (.call (.func ze) [(t 4)]),m 2 5])
 .ret))⟩
/-- (*coroner/edges.maker).read -/
def zbh:AFn:=⟨2,[],
 (Q (O [o 3 (.box (t 1))])
 (Q (.ops true [m 9 0,o 10 (.nilc (t 9)),f 11 0 10,l 12 11,L 13 5 3,b 14 (.call (.func zK) [(t 12),(t 13)]),b 4 (.mv (t 14))])
 (Q (K [0,3,4])
 (Q (.ops true [m 15 0,o 16 (.nilc (t 15)),f 17 0 16,l 18 17,f 19 2 3,l 20 19,L 21 5 3,o 22 (.call (.func zab) [(t 21)]),o 23 (.build [z,z,z,(.slice none 0 0),(.slice none 0 0)] [(2,(1,(t 20))),(3,(1,(t 22)))]),b 24 (.call (.func zK) [(t 18),(t 23)]),b 5 (.mv (t 24))])
 (Q (K [0,3,4,5])
 (Q (Q (O [m 25 5,o 26 (.call (.func z9) [(t 25)]),m 6 26])
 (Q (O [m 27 6,o 28 (.bin .neq (t 27) (ci (-1)))])
 (.cond (t 28)
 (.ops true [m 29 0,m 30 0,m 31 6,o 32 (.call (.func zh) [(t 30),(t 31)]),f 33 0 3,l 34 33,m 35 6,b 36 (.call (.func zD) [(t 29),(t 32),(t 34),(ci 2),(t 35),(ci (-1))])])
 .skip)))
 (Q (K [0,3,4])
 (Q (O [m 37 0,o 38 (.nilc (t 37)),f 39 1 38,L 40 14 39,m 41 4,n 42 1 41,o 43 (.call (.func zN) [(t 40),(t 42)]),n 44 1 43,o 45 (.mv (ci 0))])
 (Q (K [0,3,4,43,44,45])
 (Q (K [0,3,4,43,44,45]) (.block 0 (.loop (Q (Q (O [B 46 .lss 45 44])
 (Q (.cond (t 46)
 .skip
 (.exit 0))
 (Q (.block 1 (Q (O [i 47 1 43 45,l 48 47,m 8 48])
 (.ops true [m 49 0,f 50 0 3,l 51 50,m 52 0,m 53 8,o 54 (.call (.func zh) [(t 52),(t 53)]),m 55 4,o 56 (.call (.func z9) [(t 55)]),m 57 8,b 58 (.call (.func zD) [(t 49),(t 51),(t 54),(ci 4),(t 56),(t 57)])])))
 (Q (K [0,3,4,43,44,45])
 (O [o 59 (.bin .add (t 45) (ci 1)),m 45 59]))))) (K [0,3,4,43,44,45]))))))))))))))⟩
/-- coroner/coronerref12.Reads -/
def zb2:AFn:=⟨2,[.tmp 4],
 (Q (O [o 2 (.box (t 0)),o 4 (.mv (.const (.slice none 0 0)))])
 (Q (O [o 5 (.mv (.const (.slice none 0 0)))])
 (Q (O [L 10 1 2,o 11 (.call (.func za8) [(t 10)]),m 6 11])
 (Q (Q (O [o 7 (.mv (ci 0))])
 (Q (K [1,2,5,6,7]) (.block 0 (.loop (Q (Q (Q (O [m 12 7,m 13 6,n 14 1 13,B 15 .lss 12 14])
 (.cond (t 15)
 .skip
 (.exit 0)))
 (Q (.block 1 (Q (.ops true [L 18 1 2,m 19 6,m 20 7,i 21 1 19 20,l 22 21,o 23 (.call (.func zaN) [(t 18),(t 22)]),o 8 (.alloc [z,(.bool false),(.slice none 0 0)]),sb (.store 3 (t 8) (t 23))])
 (Q (K [1,2,5,6,7,8])
 (Q (O [o 9 (.mv (ci 0))])
 (Q (K [1,2,5,6,7,8,9]) (.block 2 (.loop (Q (Q (Q (O [m 24 9,f 25 2 8,l 26 25,n 27 1 26,B 28 .lss 24 27])
 (.cond (t 28)
 .skip
 (.exit 2)))
 (Q (.block 3 (Q (O [f 31 2 8,l 32 31,m 33 9,i 34 4 32 33,f 35 0 34,l 36 35,m 37 36,⟨(some 38),.faddr 2 (t 8),some (37,true),false⟩,⟨(some 39),.load1 (t 38),some (37,true),false⟩,⟨(some 40),.mv (t 9),some (37,true),false⟩,⟨(some 41),.iaddr 4 (t 39) (t 40),some (37,true),false⟩,⟨(some 42),.faddr 1 (t 41),some (37,true),false⟩,⟨(some 43),.load1 (t 42),some (37,true),false⟩,⟨(some 44),.mv (t 1),some (37,true),false⟩,⟨(some 45),.bin .eql (t 43) (t 44),some (37,true),false⟩,o 46 (.pick (t 37) (t 45) (.const (.bool false)))])
 (Q (K [1,2,5,6,7,8,9,46])
 (.cond (t 46)
 (.ops true [m 47 5,f 48 0 8,l 49 48,m 50 9,m 51 1,f 52 2 8,l 53 52,m 54 9,i 55 4 53 54,f 56 3 55,l 57 56,L 58 3 8,m 59 1,m 60 9,o 61 (.call (.func zal) [(t 58),(t 59),(t 60)]),o 62 (.build [z,z,z,(.slice none 0 0),(.slice none 0 0)] [(0,(1,(t 49))),(1,(1,(t 50))),(2,(1,(t 51))),(3,(1,(t 57))),(4,(1,(t 61)))]),o 63 (.bslice 5 1 [z,z,z,(.slice none 0 0),(.slice none 0 0)] [(0,(5,(t 62)))]),b 64 (.append 5 72 (t 47) (t 63)),b 5 (.mv (t 64))])
 .skip))))
 (Q (K [1,2,5,6,7,8,9])
 (O [m 29 9,o 30 (.bin .add (t 29) (ci 1)),m 9 30])))) (K [1,2,5,6,7,8,9])))))))))
 (Q (K [1,2,5,6,7])
 (O [m 16 7,o 17 (.bin .add (t 16) (ci 1)),m 7 17])))) (K [1,2,5,6,7]))))))
 (Q (K [5])
 (Q (O [m 65 5,m 4 65])
 .ret))))))⟩
/-- coroner/coronerref04.mayOp -/
def zbZ:AFn:=⟨1,[.tmp 2],
 (Q (O [o 1 (.box (t 0)),o 2 (.mv (.const (.bool false)))])
 (Q (Q (O [f 4 1 1,l 5 4,o 6 (.call (.func zr) [(t 5)]),o 7 (.un .not (t 6))])
 (.cond (t 7)
 (Q (O [o 2 (.mv (.const (.bool false)))])
 .ret)
 .skip))
 (Q (Q (O [f 8 0 1,l 9 8,o 10 (.un .not (t 9))])
 (.cond (t 10)
 (Q (O [f 11 2 1,l 12 11,o 13 (.call (.func zr) [(t 12)]),m 14 13,⟨(some 15),.faddr 3 (t 1),some (14,true),false⟩,⟨(some 16),.load1 (t 15),some (14,true),false⟩,⟨(some 17),.len 1 (t 16),some (14,true),false⟩,⟨(some 18),.bin .eql (t 17) (ci 0),some (14,true),false⟩,o 19 (.pick (t 14) (t 18) (.const (.bool false))),m 2 19])
 (Q (K [2])
 .ret))
 .skip))
 (Q (K [1])
 (Q (Q (O [o 3 (.mv (ci 0))])
 (Q (K [1,3]) (.block 0 (.loop (Q (Q (Q (O [m 20 3,f 21 3 1,l 22 21,n 23 1 22,B 24 .lss 20 23])
 (.cond (t 24)
 .skip
 (.exit 0)))
 (Q (.block 1 (Q (O [f 27 3 1,l 28 27,m 29 3,i 30 1 28 29,l 31 30,o 32 (.call (.func zr) [(t 31)]),o 33 (.un .not (t 32))])
 (Q (K [1,3,33])
 (.cond (t 33)
 (Q (O [o 2 (.mv (.const (.bool false)))])
 .ret)
 .skip))))
 (Q (K [1,3])
 (O [m 25 3,o 26 (.bin .add (t 25) (ci 1)),m 3 26])))) (K [1,3]))))))
 (Q (K [1])
 (Q (O [f 34 2 1,l 35 34,o 36 (.bin .eql (t 35) (ci 0)),m 2 36])
 .ret)))))))⟩
/-- coroner/history.Ops -/
def zb4:AFn:=⟨1,[.tmp 2],
 (Q (O [o 1 (.box (t 0)),o 2 (.mv (ci 0))])
 (Q (O [o 3 (.mv (ci 0))])
 (Q (Q (O [f 6 0 1,l 7 6,n 8 1 7,o 9 (.mv (ci 0))])
 (Q (K [3,7,8,9]) (.block 0 (.loop (Q (Q (O [B 10 .lss 9 8])
 (Q (.cond (t 10)
 .skip
 (.exit 0))
 (Q (.block 1 (Q (O [i 11 3 7 9,L 12 3 11,o 5 (.alloc [z,(.bool false),(.slice none 0 0)]),s (.store 3 (t 5) (t 12))])
 (O [m 13 3,f 14 2 5,l 15 14,n 16 1 15,B 17 .add 13 16,m 3 17])))
 (Q (K [3,7,8,9])
 (O [o 18 (.bin .add (t 9) (ci 1)),m 9 18]))))) (K [3,7,8,9]))))))
 (Q (K [3])
 (Q (O [m 19 3,m 2 19])
 .ret)))))⟩
/-- coroner/table.steps$1 -/
def zbQ:AFn:=⟨2,[],
 (Q (O [l 6 1,n 7 1 6,o 8 (.mv (ci 0))])
 (Q (K [0,6,7,8]) (.block 0 (.loop (Q (Q (O [B 9 .lss 8 7])
 (Q (.cond (t 9)
 .skip
 (.exit 0))
 (Q (.block 1 (Q (O [i 10 3 6 8,L 11 3 10,o 4 (.alloc [z,(.bool false),(.slice none 0 0)]),s (.store 3 (t 4) (t 11))])
 (Q (O [f 12 2 4,l 13 12,n 14 1 13,o 15 (.mv (ci 0))])
 (Q (K [0,4,6,7,8,14,15]) (.block 2 (.loop (Q (Q (O [B 16 .lss 15 14])
 (Q (.cond (t 16)
 .skip
 (.exit 2))
 (Q (.block 3 (Q (O [m 17 15,m 5 17])
 (Q (O [m 18 0,L 19 3 4,m 20 5,o 21 (.call (t 18) [(t 19),(t 20)]),o 22 (.un .not (t 21))])
 (.cond (t 22)
 .ret
 .skip))))
 (Q (K [0,4,6,7,8,14,15])
 (O [o 23 (.bin .add (t 15) (ci 1)),m 15 23]))))) (K [0,4,6,7,8,14,15]))))))))
 (Q (K [0,6,7,8])
 (O [o 24 (.bin .add (t 8) (ci 1)),m 8 24]))))) (K [0,6,7,8]))))))⟩
/-- coroner/order.Clean -/
def zcl:AFn:=⟨2,[.tmp 4],
 (Q (O [o 2 (.box (t 0)),o 3 (.box (t 1)),o 4 (.mv (.const (.slice none 0 0)))])
 (Q (O [f 5 3 3,l 6 5,o 7 (.call (.func ze) [(t 6)]),o 8 (.mkf zn [] [(t 2),(t 3)]),o 9 (.call (.func zaT) [(t 7),(t 8)]),m 4 9])
 .ret))⟩
/-- (*coroner/edges.maker).put -/
def zbs:AFn:=⟨6,[],
 (Q (O [m 12 1,m 13 2,B 14 .neq 12 13])
 (.cond (t 14)
 (.opsK [] [] [m 15 0,m 16 0,o 17 (.nilc (t 16)),f 18 15 17,l 19 18,m 20 1,m 21 2,m 22 3,m 23 0,o 24 (.nilc (t 23)),f 25 1 24,f 26 0 25,l 27 26,m 28 4,m 29 5,o 30 (.build [z,z,z,z,z,z] [(0,(1,(t 20))),(1,(1,(t 21))),(2,(1,(t 22))),(3,(1,(t 27))),(4,(1,(t 28))),(5,(1,(t 29)))]),o 31 (.bslice 6 1 [z,z,z,z,z,z] [(0,(6,(t 30)))]),b 32 (.append 6 48 (t 19) (t 31)),o 33 (.nilc (t 15)),f 34 15 33,sb (.store 1 (t 34) (t 32))])
 .skip))⟩
/-- coroner/reads.Kind -/
def zbt:AFn:=⟨2,[.tmp 4,.tmp 5],
 (Q (O [o 3 (.box (t 1)),o 4 (.mv (ci 0)),o 5 (.mv (ci 0))])
 (Q (Q (O [f 13 3 3,l 14 13,o 15 (.call (.func zaI) [(t 14)]),m 12 15,X 16 0 12,X 17 1 12,m 6 16,m 7 17])
 (Q (K [0,3,6,7])
 (Q (O [m 18 7])
 (.cond (t 18)
 (Q (O [m 19 6,o 4 (.mv (ci 1)),m 5 19])
 .ret)
 .skip))))
 (Q (K [0,3])
 (Q (Q (O [m 21 0,L 22 5 3,o 23 (.call (.func zaw) [(t 21),(t 22)]),m 20 23,X 24 0 20,X 25 1 20,m 8 24,m 9 25])
 (Q (K [0,3,8,9])
 (Q (O [m 26 9])
 (.cond (t 26)
 (Q (O [m 27 8,o 4 (.mv (ci 2)),m 5 27])
 .ret)
 .skip))))
 (Q (K [0,3])
 (Q (Q (O [m 29 0,L 30 5 3,o 31 (.call (.func zaZ) [(t 29),(t 30)]),m 28 31,X 32 0 28,X 33 1 28,m 10 32,m 11 33])
 (Q (K [10,11])
 (Q (O [m 34 11])
 (.cond (t 34)
 (Q (O [m 35 10,o 4 (.mv (ci 3)),m 5 35])
 .ret)
 .skip))))
 (Q (K [])
 (Q (O [o 4 (.mv (ci 0)),o 5 (.mv (ci 0))])
 .ret))))))))⟩
/-- coroner/coronerref12.txn -/
def zbj:AFn:=⟨2,[.cellN 4 3],
 (Q (O [o 2 (.box (t 0)),o 4 (.alloc [z,(.bool false),(.slice none 0 0)])])
 (Q (Q (O [o 5 (.mv (ci 0))])
 (Q (K [1,2,4,5]) (.block 0 (.loop (Q (Q (Q (O [m 6 5,f 7 0 2,l 8 7,n 9 1 8,B 10 .lss 6 9])
 (.cond (t 10)
 .skip
 (.exit 0)))
 (Q (.block 1 (Q (O [f 13 0 2,l 14 13,m 15 5,i 16 3 14 15,f 17 0 16,l 18 17,m 19 1,B 20 .eql 18 19])
 (Q (K [1,2,4,5,20])
 (.cond (t 20)
 (Q (O [f 21 0 2,l 22 21,m 23 5,i 24 3 22 23,L 25 3 24,s (.store 3 (t 4) (t 25))])
 .ret)
 .skip))))
 (Q (K [1,2,4,5])
 (O [m 11 5,o 12 (.bin .add (t 11) (ci 1)),m 5 12])))) (K [1,2,4,5]))))))
 (Q (K [1,4])
 (Q (O [m 26 1,o 27 (.build [z,(.bool false),(.slice none 0 0)] [(0,(1,(t 26)))]),s (.store 3 (t 4) (t 27))])
 .ret))))⟩
/-- slices.ContainsFunc[[]int,int] -/
def zbg:AFn:=⟨2,[.tmp 4],
 (Q (O [o 4 (.mv (.const (.bool false)))])
 (Q (O [m 5 0,m 6 1,o 7 (.call (.func zC) [(t 5),(t 6)]),o 8 (.bin .geq (t 7) (ci 0)),m 4 8])
 .ret))⟩
/-- coroner/encode.may -/
def zbq:AFn:=⟨1,[.tmp 2],
 (Q (O [o 2 (.mv (.const (.bool false)))])
 (Q (O [m 3 0,o 4 (.call (.func zaP) [(t 3),(.func zu)]),o 5 (.un .not (t 4)),m 2 5])
 .ret))⟩
/-- slices.DeleteFunc[[]int,int] -/
def zbS:AFn:=⟨2,[.tmp 4],
 (Q (O [o 4 (.mv (.const (.slice none 0 0)))])
 (Q (O [m 8 0,m 9 1,o 10 (.call (.func zC) [(t 8),(t 9)]),m 5 10])
 (Q (Q (O [m 11 5,o 12 (.bin .eql (t 11) (ci (-1)))])
 (.cond (t 12)
 (Q (O [m 13 0,m 4 13])
 .ret)
 .skip))
 (Q (Q (O [m 14 5,o 15 (.bin .add (t 14) (ci 1)),m 6 15])
 (Q (K [0,1,5,6]) (.block 0 (.loop (Q (Q (Q (O [m 16 6,m 17 0,n 18 1 17,B 19 .lss 16 18])
 (.cond (t 19)
 .skip
 (.exit 0)))
 (Q (.block 1 (Q (O [m 22 0,m 23 6,i 24 1 22 23,l 25 24,m 7 25])
 (Q (O [m 26 1,m 27 7,o 28 (.call (t 26) [(t 27)]),o 29 (.un .not (t 28))])
 (.cond (t 29)
 (Q (O [m 30 0,m 31 5,m 32 7,i 33 1 30 31,s (.store 1 (t 33) (t 32))])
 (O [m 34 5,o 35 (.bin .add (t 34) (ci 1)),m 5 35]))
 .skip))))
 (Q (K [0,1,5,6])
 (O [m 20 6,o 21 (.bin .add (t 20) (ci 1)),m 6 21])))) (K [0,1,5,6]))))))
 (Q (K [0,5])
 (Q (O [m 36 0,m 37 5,o 38 (.slc 1 (t 36) (some (t 37)) none),s (.clear [z] (t 38))])
 (Q (O [m 39 0,m 40 5,o 41 (.slc 1 (t 39) none (some (t 40))),m 4 41])
 .ret)))))))⟩
/-- coroner/table.goes[coroner/table.Write] -/
def zcL:AFn:=⟨1,[.tmp 2],
 (Q (O [o 1 (.box (t 0)),o 2 (.mv (.const .nilFunc))])
 (Q (O [o 3 (.mkf zL [] [(t 1)]),m 2 3])
 .ret))⟩
/-- coroner/reads.inner -/
def zcF:AFn:=⟨2,[.tmp 4,.tmp 5],
 (Q (O [o 3 (.box (t 1)),o 4 (.mv (ci 0)),o 5 (.mv (.const (.bool false)))])
 (Q (O [f 13 3 3,l 14 13,n 15 1 14,f 16 4 3,l 17 16,n 18 1 17,B 19 .sub 15 18,m 6 19])
 (Q (K [0,3,6])
 (Q (Q (O [f 20 4 3,l 21 20,n 22 1 21,o 23 (.mv (ci 0))])
 (Q (K [0,3,6,21,22,23]) (.block 0 (.loop (Q (Q (O [B 24 .lss 23 22])
 (Q (.cond (t 24)
 .skip
 (.exit 0))
 (Q (.block 1 (Q (O [m 25 23,i 26 1 21 23,l 27 26,m 7 25,m 8 27])
 (Q (O [m 28 6,m 29 7,B 30 .add 28 29,o 31 (.bin .lss (t 30) (ci 0)),m 32 31,⟨(some 33),.faddr 3 (t 3),some (32,false),false⟩,⟨(some 34),.load1 (t 33),some (32,false),false⟩,⟨(some 35),.mv (t 6),some (32,false),false⟩,⟨(some 36),.mv (t 7),some (32,false),false⟩,⟨(some 37),.bin .add (t 35) (t 36),some (32,false),false⟩,⟨(some 38),.iaddr 1 (t 34) (t 37),some (32,false),false⟩,⟨(some 39),.load1 (t 38),some (32,false),false⟩,⟨(some 40),.mv (t 8),some (32,false),false⟩,⟨(some 41),.bin .neq (t 39) (t 40),some (32,false),false⟩,o 42 (.pick (t 32) (.const (.bool true)) (t 41))])
 (Q (K [0,3,6,8,21,22,23,42])
 (.cond (t 42)
 (Q (O [m 43 8,m 4 43,o 5 (.mv (.const (.bool true)))])
 .ret)
 .skip)))))
 (Q (K [0,3,6,21,22,23])
 (O [o 44 (.bin .add (t 23) (ci 1)),m 23 44]))))) (K [0,3,6,21,22,23]))))))
 (Q (K [0,3])
 (Q (Q (O [L 45 5 3,o 46 (.call (.func zab) [(t 45)]),n 47 1 46,o 48 (.mv (ci 0))])
 (Q (K [0,3,46,47,48]) (.block 2 (.loop (Q (Q (O [B 49 .lss 48 47])
 (Q (.cond (t 49)
 .skip
 (.exit 2))
 (Q (.block 3 (Q (O [i 50 1 46 48,l 51 50,m 10 51])
 (Q (O [m 53 0,f 54 2 3,l 55 54,m 56 10,o 57 (.call (.func zg) [(t 53),(t 55),(t 56)]),m 52 57,X 58 0 52,X 59 1 52,o 11 (.alloc [z,z,z,z,(.bool false)]),s (.store 5 (t 11) (t 58)),m 12 59])
 (Q (K [0,3,10,11,46,47,48])
 (Q (O [f 60 0 11,l 61 60,f 62 0 3,l 63 62,B 64 .eql 61 63])
 (.cond (t 64)
 (Q (O [m 65 10,m 4 65,o 5 (.mv (.const (.bool true)))])
 .ret)
 .skip))))))
 (Q (K [0,3,46,47,48])
 (O [o 66 (.bin .add (t 48) (ci 1)),m 48 66]))))) (K [0,3,46,47,48]))))))
 (Q (K [])
 (Q (O [o 4 (.mv (ci 0)),o 5 (.mv (.const (.bool false)))])
 .ret))))))))⟩
/-- coroner/coronerref01.Print -/
def zbM:AFn:=⟨1,[.tmp 2,.tmp 3],
 (Q (O [o 2 (.mv (.const (.string ⟨#[]⟩))),o 3 (.mv (ci 0))])
 (Q (Q (O [m 5 0,o 6 (.bin .lss (t 5) (ci 0)),m 7 6,⟨(some 8),.mv (t 0),some (7,false),false⟩,⟨(some 9),.bin .gtr (t 8) (ci 2147483647),some (7,false),false⟩,o 10 (.pick (t 7) (.const (.bool true)) (t 9))])
 (.cond (t 10)
 (Q (O [o 2 (.mv (.const (.string ⟨#[]⟩))),o 3 (.mv (ci 2))])
 .ret)
 .skip))
 (Q (K [0])
 (Q (O [o 4 (.mv (.const (.string ⟨#[]⟩)))])
 (Q (Q (K [0,4]) (.block 0 (.loop (Q (Q (Q (O [m 11 0,o 12 (.bin .gtr (t 11) (ci 9))])
 (.cond (t 12)
 .skip
 (.exit 0)))
 (.block 1 (Q (O [m 13 0,o 14 (.bin .rem (t 13) (ci 10)),m 15 0,o 16 (.bin .rem (t 15) (ci 10)),o 17 (.bin .add (t 16) (ci 1)),o 18 (.slcS (.const (.string ⟨#[48,49,50,51,52,53,54,55,56,57]⟩)) (some (t 14)) (some (t 17))),m 19 4,B 20 .add 18 19,m 4 20])
 (Q (K [0,4])
 (O [m 21 0,o 22 (.bin .quo (t 21) (ci 10)),m 0 22]))))) (K [0,4])))))
 (Q (K [0,4])
 (Q (O [m 23 0,m 24 0,o 25 (.bin .add (t 24) (ci 1)),o 26 (.slcS (.const (.string ⟨#[48,49,50,51,52,53,54,55,56,57]⟩)) (some (t 23)) (some (t 25))),m 27 4,B 28 .add 26 27,m 2 28,o 3 (.mv (ci 0))])
 (Q (K [2,3])
 .ret))))))))⟩
/-- coroner/table.goes[coroner/table.Read]$1 -/
def zbT:AFn:=⟨2,[],
 (Q (O [l 5 1,n 6 1 5,o 7 (.mv (ci 0))])
 (Q (K [0,5,6,7]) (.block 0 (.loop (Q (Q (O [B 8 .lss 7 6])
 (Q (.cond (t 8)
 .skip
 (.exit 0))
 (Q (.block 1 (Q (O [i 9 5 5 7,L 10 5 9,o 4 (.alloc [z,z,z,(.slice none 0 0),(.slice none 0 0)]),s (.store 5 (t 4) (t 10))])
 (Q (O [m 11 0,L 12 5 4,o 13 (.call (t 11) [(t 12)]),o 14 (.un .not (t 13))])
 (.cond (t 14)
 .ret
 .skip))))
 (Q (K [0,5,6,7])
 (O [o 15 (.bin .add (t 7) (ci 1)),m 7 15]))))) (K [0,5,6,7]))))))⟩
/-- (coroner/sorted.Set[int]).Or -/
def zcv:AFn:=⟨2,[.cellN 4 1],
 (Q (O [o 2 (.box (t 0)),o 3 (.box (t 1)),o 4 (.alloc [(.slice none 0 0)])])
 (Q (O [f 9 0 2,l 10 9,n 11 1 10,f 12 0 3,l 13 12,n 14 1 13,B 15 .add 11 14,o 16 (.mkslice 1 8 [z] (ci 0) (t 15)),m 5 16])
 (Q (K [2,3,4,5])
 (Q (O [o 6 (.mv (ci 0)),o 7 (.mv (ci 0))])
 (Q (Q (K [2,3,4,5,6,7]) (.block 0 (.loop (Q (Q (Q (O [m 17 6,f 18 0 2,l 19 18,n 20 1 19,B 21 .lss 17 20,m 22 21,⟨(some 23),.mv (t 7),some (22,true),false⟩,⟨(some 24),.faddr 0 (t 3),some (22,true),false⟩,⟨(some 25),.load1 (t 24),some (22,true),false⟩,⟨(some 26),.len 1 (t 25),some (22,true),false⟩,⟨(some 27),.bin .lss (t 23) (t 26),some (22,true),false⟩,o 28 (.pick (t 22) (t 27) (.const (.bool false)))])
 (Q (K [2,3,4,5,6,7,28])
 (.cond (t 28)
 .skip
 (.exit 0))))
 (Q (K [2,3,4,5,6,7])
 (.block 1 (Q (.ops true [f 29 0 2,l 30 29,m 31 6,i 32 1 30 31,l 33 32,f 34 0 3,l 35 34,m 36 7,i 37 1 35 36,l 38 37,b 39 (.call (.func zb) [(t 33),(t 38)]),b 8 (.mv (t 39))])
 (Q (K [2,3,4,5,6,7,8])
 (Q (Q (O [m 40 8,o 41 (.bin .leq (t 40) (ci 0))])
 (.cond (t 41)
 (Q (O [m 42 5,f 43 0 2,l 44 43,m 45 6,i 46 1 44 45,l 47 46,o 48 (.bslice 1 1 [z] [(0,(1,(t 47)))]),o 49 (.append 1 8 (t 42) (t 48)),m 5 49])
 (Q (K [2,3,4,5,6,7,8])
 (O [m 50 6,o 51 (.bin .add (t 50) (ci 1)),m 6 51])))
 (O [m 52 5,f 53 0 3,l 54 53,m 55 7,i 56 1 54 55,l 57 56,o 58 (.bslice 1 1 [z] [(0,(1,(t 57)))]),o 59 (.append 1 8 (t 52) (t 58)),m 5 59])))
 (Q (K [2,3,4,5,6,7,8])
 (Q (O [m 60 8,o 61 (.bin .geq (t 60) (ci 0))])
 (.cond (t 61)
 (O [m 62 7,o 63 (.bin .add (t 62) (ci 1)),m 7 63])
 .skip))))))))) (K [2,3,4,5,6,7])))))
 (Q (K [2,3,4,5,6,7])
 (Q (.opsK [(5,70)] [(70,64)] [m 64 5,f 65 0 2,l 66 65,m 67 6,o 68 (.slc 1 (t 66) (some (t 67)) none),b 69 (.append 1 8 (t 64) (t 68)),f 70 0 3,l 71 70,m 72 7,o 73 (.slc 1 (t 71) (some (t 72)) none),b 74 (.append 1 8 (t 69) (t 73)),o 75 (.build [(.slice none 0 0)] [(0,(1,(t 74)))]),sb (.store 1 (t 4) (t 75))])
 (Q (K [4])
 .ret))))))))⟩
/-- coroner/coronerlaw17.few -/
def zcI:AFn:=⟨1,[.tmp 2],
 (Q (O [o 1 (.box (t 0)),o 2 (.mv (.const (.bool false)))])
 (Q (O [L 3 1 1,o 4 (.call (.func za9) [(t 3),(ci 20),(ci 60)]),m 5 4,⟨(some 6),.loadN 1 (t 1),some (5,true),false⟩,⟨(some 7),.call (.func zaf) [(t 6)],some (5,true),false⟩,⟨(some 8),.bin .eql (t 7) (ci 0),some (5,true),false⟩,o 9 (.pick (t 5) (t 8) (.const (.bool false))),m 2 9])
 (Q (K [2])
 .ret)))⟩
/-- coroner/encode.Check -/
def zcd:AFn:=⟨1,[.tmp 2],
 (Q (O [o 1 (.box (t 0)),o 2 (.mv (ci 0))])
 (Q (Q (O [f 4 0 1,l 5 4,n 6 1 5,o 7 (.bin .gtr (t 6) (ci 1024)),m 8 7,⟨(some 9),.loadN 1 (t 1),some (8,false),false⟩,⟨(some 10),.call (.func zaE) [(t 9)],some (8,false),false⟩,⟨(some 11),.bin .gtr (t 10) (ci 4096),some (8,false),false⟩,o 12 (.pick (t 8) (.const (.bool true)) (t 11))])
 (Q (K [1,12])
 (.cond (t 12)
 (Q (O [o 2 (.mv (ci 3))])
 .ret)
 .skip)))
 (Q (K [1])
 (Q (Q (O [L 13 1 1,o 14 (.call (.func zar) [(t 13)]),m 3 14])
 (Q (O [m 15 3,o 16 (.bin .neq (t 15) (ci 0))])
 (.cond (t 16)
 (Q (O [m 17 3,m 2 17])
 .ret)
 .skip)))
 (Q (K [1])
 (Q (Q (O [L 18 1 1,o 19 (.call (.func zaA) [(t 18)]),n 20 1 19,o 21 (.bin .gtr (t 20) (ci 262144))])
 (.cond (t 21)
 (Q (O [o 2 (.mv (ci 3))])
 .ret)
 .skip))
 (Q (O [o 2 (.mv (ci 0))])
 .ret)))))))⟩
/-- coroner/table.steps -/
def zcQ:AFn:=⟨1,[.tmp 2],
 (Q (O [o 1 (.box (t 0)),o 2 (.mv (.const .nilFunc))])
 (Q (O [o 3 (.mkf zac [] [(t 1)]),m 2 3])
 .ret))⟩
/-- coroner/order.Of -/
def zcA:AFn:=⟨2,[.cellN 4 14],
 (Q (O [o 2 (.box (t 0)),o 4 (.alloc [z,(.slice none 0 0),(.slice none 0 0),(.bool false),z,z,z,(.slice none 0 0),(.slice none 0 0),z,z,z,(.slice none 0 0),(.slice none 0 0)])])
 (Q (O [o 5 (.alloc [(.slice none 0 0)])])
 (Q (O [o 6 (.alloc [(.slice none 0 0)])])
 (Q (Q (O [l 17 2,m 18 1,o 19 (.call (.func zT) [(t 17),(t 18)])])
 (.block 0 (.rfun (t 19) [20]
 (O [o 7 (.alloc [z,z,z,(.slice none 0 0),(.slice none 0 0)]),s (.store 5 (t 7) (t 20))])
 (.block 1 (Q (O [l 21 5,L 22 5 7,o 23 (.bslice 5 1 [z,z,z,(.slice none 0 0),(.slice none 0 0)] [(0,(5,(t 22)))]),o 24 (.append 5 72 (t 21) (t 23)),s (.store 1 (t 5) (t 24))])
 (.ops true [l 25 6,l 26 2,L 27 5 7,o 28 (.call (.func zK) [(t 26),(t 27)]),o 29 (.bslice 1 1 [(.slice none 0 0)] [(0,(1,(t 28)))]),b 30 (.append 1 24 (t 25) (t 29)),sb (.store 1 (t 6) (t 30))]))))))
 (Q (K [1,2,4,5,6])
 (Q (O [l 32 6,o 33 (.call (.func zao) [(t 32)]),m 31 33,X 34 0 31,X 35 1 31,X 36 2 31,X 37 3 31,m 8 34,m 9 35,m 10 36,m 11 37])
 (Q (K [1,2,4,5,8,9,10,11])
 (Q (Q (O [m 38 11,o 39 (.un .not (t 38))])
 (.cond (t 39)
 (Q (.ops true [m 40 1,l 41 5,m 42 9,i 43 5 41 42,L 44 5 43,l 45 5,m 46 10,i 47 5 45 46,L 48 5 47,b 49 (.build [z,(.slice none 0 0),(.slice none 0 0),(.bool false),z,z,z,(.slice none 0 0),(.slice none 0 0),z,z,z,(.slice none 0 0),(.slice none 0 0)] [(0,(1,(t 40))),(3,(1,(.const (.bool true)))),(4,(5,(t 44))),(9,(5,(t 48)))]),sb (.store 14 (t 4) (t 49))])
 (Q (K [4])
 .ret))
 .skip))
 (Q (K [1,2,4,8])
 (Q (O [m 50 1,m 51 8,o 52 (.build [z,(.slice none 0 0),(.slice none 0 0),(.bool false),z,z,z,(.slice none 0 0),(.slice none 0 0),z,z,z,(.slice none 0 0),(.slice none 0 0)] [(0,(1,(t 50))),(1,(1,(t 51)))]),o 12 (.alloc [z,(.slice none 0 0),(.slice none 0 0),(.bool false),z,z,z,(.slice none 0 0),(.slice none 0 0),z,z,z,(.slice none 0 0),(.slice none 0 0)]),s (.store 14 (t 12) (t 52))])
 (Q (O [o 53 (.mkmap),o 13 (.alloc [(.map none)]),s (.store 1 (t 13) (t 53))])
 (Q (Q (O [m 54 8,n 55 1 54,o 56 (.mv (ci 0))])
 (Q (K [1,2,4,12,13,54,55,56]) (.block 2 (.loop (Q (Q (O [B 57 .lss 56 55])
 (Q (.cond (t 57)
 .skip
 (.exit 2))
 (Q (.block 3 (Q (O [m 58 56,i 59 1 54 56,l 60 59,m 14 58,m 15 60])
 (O [l 61 13,m 62 15,m 63 14,o 64 (.bin .add (t 63) (ci 1)),s (.mapupd (.one 1) (t 61) (t 62) (t 64))])))
 (Q (K [1,2,4,12,13,54,55,56])
 (O [o 65 (.bin .add (t 56) (ci 1)),m 56 65]))))) (K [1,2,4,12,13,54,55,56]))))))
 (Q (K [1,2,4,12,13])
 (Q (Q (O [l 66 2,m 67 1,o 68 (.call (.func zat) [(t 66),(t 67)])])
 (.block 4 (.rfun (t 68) [69]
 (O [o 16 (.alloc [z,z,z,z,(.bool false)]),s (.store 5 (t 16) (t 69))])
 (.block 5 (Q (O [l 70 13,f 71 3 16,l 72 71,o 73 (.lookup (.one 1) z false (t 70) (t 72)),o 74 (.bin .eql (t 73) (ci 0))])
 (.cond (t 74)
 (O [f 75 2 12,l 76 75,f 77 3 16,l 78 77,o 79 (.bslice 1 1 [z] [(0,(1,(t 78)))]),o 80 (.append 1 8 (t 76) (t 79)),f 81 2 12,s (.store 1 (t 81) (t 80))])
 .skip))))))
 (Q (K [4,12])
 (Q (O [L 82 14 12,s (.store 14 (t 4) (t 82))])
 .ret))))))))))))))))⟩
/-- coroner/coronerref03.Appended -/
def zbz:AFn:=⟨3,[.tmp 6],
 (Q (O [o 3 (.box (t 0)),o 6 (.mv (.const (.bool false)))])
 (Q (Q (O [o 7 (.mv (ci 0))])
 (Q (K [1,2,3,7]) (.block 0 (.loop (Q (Q (Q (O [m 10 7,f 11 0 3,l 12 11,n 13 1 12,B 14 .lss 10 13])
 (.cond (t 14)
 .skip
 (.exit 0)))
 (Q (.block 1 (Q (O [o 8 (.mv (ci 0))])
 (Q (K [1,2,3,7,8]) (.block 2 (.loop (Q (Q (Q (O [m 17 8,f 18 0 3,l 19 18,m 20 7,i 21 3 19 20,f 22 2 21,l 23 22,n 24 1 23,B 25 .lss 17 24])
 (Q (K [1,2,3,7,8,25])
 (.cond (t 25)
 .skip
 (.exit 2))))
 (Q (K [1,2,3,7,8])
 (Q (.block 3 (Q (O [f 28 0 3,l 29 28,m 30 7,i 31 3 29 30,f 32 2 31,l 33 32,m 34 8,i 35 4 33 34,L 36 4 35,o 9 (.alloc [(.bool false),z,z,(.slice none 0 0)]),s (.store 4 (t 9) (t 36))])
 (Q (K [1,2,3,7,8,9])
 (Q (O [f 37 0 9,l 38 37,o 39 (.un .not (t 38)),m 40 39,⟨(some 41),.faddr 1 (t 9),some (40,true),false⟩,⟨(some 42),.load1 (t 41),some (40,true),false⟩,⟨(some 43),.mv (t 1),some (40,true),false⟩,⟨(some 44),.bin .eql (t 42) (t 43),some (40,true),false⟩,o 45 (.pick (t 40) (t 44) (.const (.bool false))),m 46 45,⟨(some 47),.faddr 2 (t 9),some (46,true),false⟩,⟨(some 48),.load1 (t 47),some (46,true),false⟩,⟨(some 49),.mv (t 2),some (46,true),false⟩,⟨(some 50),.bin .eql (t 48) (t 49),some (46,true),false⟩,o 51 (.pick (t 46) (t 50) (.const (.bool false)))])
 (Q (K [1,2,3,7,8,51])
 (.cond (t 51)
 (Q (O [o 6 (.mv (.const (.bool true)))])
 .ret)
 .skip))))))
 (Q (K [1,2,3,7,8])
 (O [m 26 8,o 27 (.bin .add (t 26) (ci 1)),m 8 27]))))) (K [1,2,3,7,8])))))))
 (Q (K [1,2,3,7])
 (O [m 15 7,o 16 (.bin .add (t 15) (ci 1)),m 7 16])))) (K [1,2,3,7]))))))
 (Q (K [])
 (Q (O [o 6 (.mv (.const (.bool false)))])
 .ret))))⟩
/-- coroner/encode.parts -/
def zct:AFn:=⟨1,[.tmp 2],
 (Q (O [o 1 (.box (t 0)),o 2 (.mv (ci 0))])
 (Q (O [o 14 (.mkmap),o 15 (.mkmap),m 3 14,m 4 15])
 (Q (Q (O [f 16 0 1,l 17 16,n 18 1 17,o 19 (.mv (ci 0))])
 (Q (K [3,4,17,18,19]) (.block 0 (.loop (Q (Q (O [B 20 .lss 19 18])
 (Q (.cond (t 20)
 .skip
 (.exit 0))
 (Q (.block 1 (Q (O [m 21 19,i 22 3 17 19,L 23 3 22,o 6 (.alloc [z,(.bool false),(.slice none 0 0)]),m 5 21,s (.store 3 (t 6) (t 23))])
 (Q (Q (O [f 24 0 6,l 25 24,o 26 (.bslice 1 1 [z] [(0,(1,(t 25)))]),o 27 (.call (.func zv) [(t 26)]),o 28 (.un .not (t 27))])
 (.cond (t 28)
 (Q (O [o 2 (.mv (ci 2))])
 .ret)
 .skip))
 (Q (Q (O [m 30 3,f 31 0 6,l 32 31,o 33 (.lookup (.one 1) z true (t 30) (t 32)),m 29 33,X 34 0 29,X 35 1 29,m 7 34,m 8 35])
 (Q (K [3,4,5,6,8,17,18,19])
 (Q (O [m 36 8])
 (.cond (t 36)
 (Q (O [o 2 (.mv (ci 5))])
 .ret)
 .skip))))
 (Q (K [3,4,5,6,17,18,19])
 (Q (O [m 37 3,f 38 0 6,l 39 38,m 40 5,s (.mapupd (.one 1) (t 37) (t 39) (t 40))])
 (Q (O [f 41 2 6,l 42 41,n 43 1 42,o 44 (.mv (ci 0))])
 (Q (K [3,4,5,17,18,19,42,43,44]) (.block 2 (.loop (Q (Q (O [B 45 .lss 44 43])
 (Q (.cond (t 45)
 .skip
 (.exit 2))
 (Q (.block 3 (Q (O [i 46 4 42 44,L 47 4 46,o 10 (.alloc [(.bool false),z,z,(.slice none 0 0)]),s (.store 4 (t 10) (t 47))])
 (Q (Q (O [L 48 4 10,o 49 (.call (.func zaB) [(t 48)]),o 50 (.un .not (t 49))])
 (.cond (t 50)
 (Q (O [o 2 (.mv (ci 2))])
 .ret)
 .skip))
 (Q (Q (O [f 51 0 10,l 52 51])
 (.cond (t 52)
 (.exit 3)
 .skip))
 (Q (O [f 53 1 10,l 54 53,f 55 2 10,l 56 55,o 57 (.build [z,z] [(0,(1,(t 54))),(1,(1,(t 56)))]),o 11 (.alloc [z,z]),s (.store 2 (t 11) (t 57))])
 (Q (K [3,4,5,11,17,18,19,42,43,44])
 (Q (Q (O [m 59 4,L 60 2 11,o 61 (.lookup (.many [1,1]) z true (t 59) (t 60)),m 58 61,X 62 0 58,X 63 1 58,m 12 62,m 13 63])
 (Q (K [3,4,5,11,13,17,18,19,42,43,44])
 (Q (O [m 64 13])
 (.cond (t 64)
 (Q (O [o 2 (.mv (ci 6))])
 .ret)
 .skip))))
 (Q (K [3,4,5,11,17,18,19,42,43,44])
 (O [m 65 4,L 66 2 11,m 67 5,s (.mapupd (.many [1,1]) (t 65) (t 66) (t 67))])))))))))
 (Q (K [3,4,5,17,18,19,42,43,44])
 (O [o 68 (.bin .add (t 44) (ci 1)),m 44 68]))))) (K [3,4,5,17,18,19,42,43,44]))))))))))))
 (Q (K [3,4,17,18,19])
 (O [o 69 (.bin .add (t 19) (ci 1)),m 19 69]))))) (K [3,4,17,18,19]))))))
 (Q (K [])
 (Q (O [o 2 (.mv (ci 0))])
 .ret)))))⟩
/-- slices.Clone[[]int,int] -/
def zcw:AFn:=⟨1,[.tmp 2],
 (Q (O [o 2 (.mv (.const (.slice none 0 0)))])
 (Q (Q (O [m 3 0,o 4 (.eqv 2 false (t 3) (.const (.slice none 0 0)))])
 (.cond (t 4)
 (Q (O [o 2 (.mv (.const (.slice none 0 0)))])
 .ret)
 .skip))
 (Q (O [o 5 (.bslice 1 0 [] []),m 6 0,o 7 (.append 1 8 (t 5) (t 6)),m 2 7])
 .ret)))⟩
/-- coroner/prefix.Longest[int] -/
def zcr:AFn:=⟨1,[.tmp 2,.tmp 3,.tmp 4,.tmp 5],
 (Q (O [o 2 (.mv (.const (.slice none 0 0))),o 3 (.mv (ci 0)),o 4 (.mv (ci 0)),o 5 (.mv (.const (.bool false)))])
 (Q (O [o 6 (.mv (.const (.slice none 0 0)))])
 (Q (O [o 7 (.mv (.const (.bool true)))])
 (Q (Q (O [m 13 0,n 14 1 13,o 15 (.mv (ci 0))])
 (Q (K [0,6,7,13,14,15]) (.block 0 (.loop (Q (Q (O [B 16 .lss 15 14])
 (Q (.cond (t 16)
 .skip
 (.exit 0))
 (Q (.block 1 (Q (O [i 17 1 13 15,l 18 17,m 9 18])
 (Q (O [m 19 7,m 20 19,⟨(some 21),.mv (t 9),some (20,true),false⟩,⟨(some 22),.mv (t 6),some (20,true),false⟩,⟨(some 23),.call (.func zM) [(t 21),(t 22)],some (20,true),false⟩,o 24 (.pick (t 20) (t 23) (.const (.bool false))),m 7 24])
 (Q (K [0,6,7,9,13,14,15])
 (Q (O [m 25 9,n 26 1 25,m 27 6,n 28 1 27,B 29 .gtr 26 28])
 (.cond (t 29)
 (O [m 30 9,m 6 30])
 .skip))))))
 (Q (K [0,6,7,13,14,15])
 (O [o 31 (.bin .add (t 15) (ci 1)),m 15 31]))))) (K [0,6,7,13,14,15]))))))
 (Q (K [0,6,7])
 (Q (Q (O [m 32 7])
 (.cond (t 32)
 (Q (O [m 33 6,o 34 (.call (.func ze) [(t 33)]),m 2 34,o 3 (.mv (ci 0)),o 4 (.mv (ci 0)),o 5 (.mv (.const (.bool true)))])
 .ret)
 .skip))
 (Q (K [0])
 (Q (Q (O [m 35 0,n 36 1 35,o 37 (.mv (ci 0))])
 (Q (K [0,36,37]) (.block 2 (.loop (Q (Q (O [B 38 .lss 37 36])
 (Q (.cond (t 38)
 .skip
 (.exit 2))
 (Q (.block 3 (Q (O [m 39 37,m 10 39])
 (Q (O [m 41 0,m 42 10,o 43 (.call (.func zaR) [(t 41),(t 42)]),m 40 43,X 44 0 40,X 45 1 40,m 11 44,m 12 45])
 (Q (K [0,10,11,12,36,37])
 (Q (O [m 46 12])
 (.cond (t 46)
 (Q (O [m 47 10,m 48 11,o 2 (.mv (.const (.slice none 0 0))),m 3 47,m 4 48,o 5 (.mv (.const (.bool false)))])
 .ret)
 .skip))))))
 (Q (K [0,36,37])
 (O [o 49 (.bin .add (t 37) (ci 1)),m 37 49]))))) (K [0,36,37]))))))
 (Q (K [])
 (Q (O [o 2 (.mv (.const (.slice none 0 0))),o 3 (.mv (ci 0)),o 4 (.mv (ci 0)),o 5 (.mv (.const (.bool false)))])
 .ret))))))))))⟩
/-- (*coroner/edges.maker).owner -/
def zco:AFn:=⟨2,[.tmp 4],
 (Q (O [o 4 (.mv (ci 0))])
 (Q (.opsA [] [m 8 0,o 9 (.nilc (t 8)),f 10 0 9,l 11 10,m 12 0,o 13 (.nilc (t 12)),f 14 1 13,f 15 0 14,l 16 15,m 17 1,o 18 (.call (.func zg) [(t 11),(t 16),(t 17)]),m 7 18,X 19 0 7,X 20 1 7,o 5 (.alloc [z,z,z,z,(.bool false)]),sb (.store 5 (t 5) (t 19)),m 6 20])
 (Q (K [5])
 (Q (O [f 21 0 5,l 22 21,m 4 22])
 .ret))))⟩
/-- coroner/reads.Front -/
def zbB:AFn:=⟨1,[.tmp 2],
 (Q (O [o 1 (.box (t 0)),o 2 (.mv (.const (.slice none 0 0)))])
 (Q (O [f 3 3 1,l 4 3,f 5 3 1,l 6 5,n 7 1 6,f 8 4 1,l 9 8,n 10 1 9,B 11 .sub 7 10,o 12 (.max [(ci 0),(t 11)]),o 13 (.slc 1 (t 4) none (some (t 12))),o 14 (.call (.func ze) [(t 13)]),m 2 14])
 (Q (K [2])
 .ret)))⟩
/-- cmp.Less[int] -/
def zb9:AFn:=⟨2,[.tmp 4],
 (Q (O [o 4 (.mv (.const (.bool false)))])
 (Q (O [m 5 0,o 6 (.call (.func zd) [(t 5)]),m 7 6,⟨(some 8),.mv (t 1),some (7,true),false⟩,⟨(some 9),.call (.func zd) [(t 8)],some (7,true),false⟩,⟨(some 10),.un .not (t 9),some (7,true),false⟩,o 11 (.pick (t 7) (t 10) (.const (.bool false))),m 12 11,⟨(some 13),.mv (t 0),some (12,false),false⟩,⟨(some 14),.mv (t 1),some (12,false),false⟩,⟨(some 15),.bin .lss (t 13) (t 14),some (12,false),false⟩,o 16 (.pick (t 12) (.const (.bool true)) (t 15)),m 4 16])
 (Q (K [4])
 .ret)))⟩
/-- coroner/coronerref12.ahead -/
def zcH:AFn:=⟨3,[.tmp 6],
 (Q (O [o 3 (.box (t 0)),o 6 (.mv (.const (.slice none 0 0)))])
 (Q (O [o 7 (.mv (.const (.slice none 0 0)))])
 (Q (Q (O [o 8 (.mv (ci 0))])
 (Q (K [1,2,3,7,8]) (.block 0 (.loop (Q (Q (Q (O [m 9 8,m 10 2,B 11 .lss 9 10])
 (.cond (t 11)
 .skip
 (.exit 0)))
 (Q (.block 1 (Q (O [f 14 2 3,l 15 14,m 16 8,i 17 4 15 16,f 18 0 17,l 19 18,o 20 (.un .not (t 19)),m 21 20,⟨(some 22),.faddr 2 (t 3),some (21,true),false⟩,⟨(some 23),.load1 (t 22),some (21,true),false⟩,⟨(some 24),.mv (t 8),some (21,true),false⟩,⟨(some 25),.iaddr 4 (t 23) (t 24),some (21,true),false⟩,⟨(some 26),.faddr 1 (t 25),some (21,true),false⟩,⟨(some 27),.load1 (t 26),some (21,true),false⟩,⟨(some 28),.mv (t 1),some (21,true),false⟩,⟨(some 29),.bin .eql (t 27) (t 28),some (21,true),false⟩,o 30 (.pick (t 21) (t 29) (.const (.bool false)))])
 (Q (K [1,2,3,7,8,30])
 (.cond (t 30)
 (O [m 31 7,f 32 2 3,l 33 32,m 34 8,i 35 4 33 34,f 36 2 35,l 37 36,o 38 (.bslice 1 1 [z] [(0,(1,(t 37)))]),o 39 (.append 1 8 (t 31) (t 38)),m 7 39])
 .skip))))
 (Q (K [1,2,3,7,8])
 (O [m 12 8,o 13 (.bin .add (t 12) (ci 1)),m 8 13])))) (K [1,2,3,7,8]))))))
 (Q (K [7])
 (Q (O [m 40 7,m 6 40])
 .ret)))))⟩
/-- coroner/encode.mayOp -/
def zcK:AFn:=⟨1,[.tmp 2],
 (Q (O [o 1 (.box (t 0)),o 2 (.mv (.const (.bool false)))])
 (Q (Q (O [f 3 0 1,l 4 3])
 (.cond (t 4)
 (Q (O [f 5 1 1,l 6 5,o 7 (.bslice 1 1 [z] [(0,(1,(t 6)))]),o 8 (.call (.func zv) [(t 7)]),m 9 8,⟨(some 10),.faddr 2 (t 1),some (9,true),false⟩,⟨(some 11),.load1 (t 10),some (9,true),false⟩,⟨(some 12),.bin .eql (t 11) (ci 0),some (9,true),false⟩,o 13 (.pick (t 9) (t 12) (.const (.bool false))),m 14 13,⟨(some 15),.faddr 3 (t 1),some (14,true),false⟩,⟨(some 16),.load1 (t 15),some (14,true),false⟩,⟨(some 17),.call (.func zv) [(t 16)],some (14,true),false⟩,o 18 (.pick (t 14) (t 17) (.const (.bool false))),m 2 18])
 (Q (K [2])
 .ret))
 .skip))
 (Q (K [1])
 (Q (O [f 19 1 1,l 20 19,f 21 2 1,l 22 21,o 23 (.bslice 1 2 [z,z] [(0,(1,(t 20))),(1,(1,(t 22)))]),o 24 (.call (.func zv) [(t 23)]),m 25 24,⟨(some 26),.faddr 3 (t 1),some (25,true),false⟩,⟨(some 27),.load1 (t 26),some (25,true),false⟩,⟨(some 28),.len 1 (t 27),some (25,true),false⟩,⟨(some 29),.bin .eql (t 28) (ci 0),some (25,true),false⟩,o 30 (.pick (t 25) (t 29) (.const (.bool false))),m 2 30])
 (Q (K [2])
 .ret)))))⟩
/-- coroner/order.Clean$1 -/
def zbG:AFn:=⟨3,[.tmp 4],
 (Q (O [o 4 (.mv (.const (.bool false)))])
 (Q (O [l 8 1,f 9 2 2,l 10 9,m 11 0,o 12 (.call (.func zg) [(t 8),(t 10),(t 11)]),m 7 12,X 13 0 7,X 14 1 7,o 5 (.alloc [z,z,z,z,(.bool false)]),s (.store 5 (t 5) (t 13)),m 6 14])
 (Q (K [5])
 (Q (O [f 15 4 5,l 16 15,m 4 16])
 .ret))))⟩
/-- coroner/table.goes[coroner/table.Read] -/
def zcE:AFn:=⟨1,[.tmp 2],
 (Q (O [o 1 (.box (t 0)),o 2 (.mv (.const .nilFunc))])
 (Q (O [o 3 (.mkf zA [] [(t 1)]),m 2 3])
 .ret))⟩
/-- coroner/encode.may$1 -/
def zck:AFn:=⟨1,[.tmp 2],
 (Q (O [o 2 (.mv (.const (.bool false)))])
 (Q (O [m 3 0,o 4 (.bin .lss (t 3) (ci 0)),m 5 4,⟨(some 6),.mv (t 0),some (5,false),false⟩,⟨(some 7),.bin .gtr (t 6) (ci 2147483647),some (5,false),false⟩,o 8 (.pick (t 5) (.const (.bool true)) (t 7)),m 2 8])
 (Q (K [2])
 .ret)))⟩
/-- (coroner/sorted.Set[int]).Has -/
def zcJ:AFn:=⟨2,[.tmp 4],
 (Q (O [o 2 (.box (t 0)),o 4 (.mv (.const (.bool false)))])
 (Q (O [L 8 1 2,m 9 1,o 10 (.call (.func zbd) [(t 8),(t 9)]),m 7 10,X 11 0 7,X 12 1 7,m 5 11,m 6 12])
 (Q (K [6])
 (Q (O [m 13 6,m 4 13])
 .ret))))⟩
def tab1:List (Nat × ADef):=[(za1,.code zbN),
 (zad,.code zb6),
 (zj,.code zp),
 (zau,.code zb7),
 (zaK,.code zcP),
 (zan,.code zbH),
 (zaq,.code zbi),
 (zt,.code zbv),
 (zaj,.code zcb),
 (zbe,.code zcN),
 (zaA,.code zcS),
 (zat,.code zci),
 (zW,.code zcR),
 (z9,.code zcq),
 (zU,.code zcu),
 (zaz,.code zbR),
 (zM,.code zbW),
 (zaI,.code zbO),
 (zaD,.code zbo),
 (zC,.code zam),
 (zF,.code zbp),
 (zaa,.code zbr),
 (za7,.code zbL),
 (zas,.code zcf),
 (zaV,.code zbl),
 (zch,.code zbm),
 (zaO,.code zbx),
 (zae,.code zcy),
 (zg,.code zbk),
 (zb,.code zm),
 (za9,.code zcp),
 (zQ,.code zbn),
 (zT,.code zcs),
 (zZ,.code zby),
 (zd,.code zf),
 (zr,.code zbJ),
 (zag,.code zb1),
 (zah,.code zcz),
 (zN,.code zcM),
 (zaQ,.code zcD),
 (za8,.code zcn),
 (zba,.code zbV),
 (zo,.code zbC),
 (zaR,.code zb3),
 (zaw,.code zcO),
 (zaW,.code zcG),
 (zL,.code zbU),
 (zbd,.code zbw),
 (za6,.code zbu),
 (zc,.code zG),
 (zR,.code zce),
 (zbf,.code zcB),
 (zaf,.code zcj),
 (zay,.code zbA),
 (zap,.code zbh),
 (zav,.code zb2),
 (zbc,.code zbZ),
 (zaE,.code zb4),
 (zac,.code zbQ),
 (zK,.code zcl),
 (zD,.code zbs),
 (zak,.code zbt),
 (zaN,.code zbj),
 (zaP,.code zbg),
 (zv,.code zbq),
 (zaT,.code zbS),
 (z8,.code zcL),
 (zaZ,.code zcF),
 (zaF,.code zbM),
 (zA,.code zbT),
 (zaY,.code zcv),
 (za2,.code zcI),
 (zaC,.code zcd),
 (zaH,.code zcQ),
 (zaU,.code zcA),
 (za4,.code zbz),
 (zar,.code zct),
 (ze,.code zcw),
 (zao,.code zcr),
 (zh,.code zco),
 (zab,.code zbB),
 (za0,.code zb9),
 (zal,.code zcH),
 (zaB,.code zcK),
 (zn,.code zbG),
 (zX,.code zcE),
 (zu,.code zck),
 (zaJ,.code zcJ),
 (zaG,.oracle sortO),
 (zaX,.oracle (sortXO zI)),
 (zai,.oracle (sortEO zc)),
 (zJ,.oracle (closedO (.bool true)))]
def prog1:AProg:=tabP tab1
theorem zhh:prog1 za1=some (.code zbN):=by kernel_rfl
theorem zgY:prog1 zad=some (.code zb6):=by kernel_rfl
theorem zO:prog1 zj=some (.code zp):=by kernel_rfl
theorem ziB:prog1 zau=some (.code zb7):=by kernel_rfl
theorem zi4:prog1 zaK=some (.code zcP):=by kernel_rfl
theorem zhd:prog1 zan=some (.code zbH):=by kernel_rfl
theorem zhJ:prog1 zaq=some (.code zbi):=by kernel_rfl
theorem zir:prog1 zt=some (.code zbv):=by kernel_rfl
theorem zhQ:prog1 zaj=some (.code zcb):=by kernel_rfl
theorem ziT:prog1 zbe=some (.code zcN):=by kernel_rfl
theorem zkr:prog1 zaA=some (.code zcS):=by kernel_rfl
theorem zfI:prog1 zat=some (.code zci):=by kernel_rfl
theorem zi6:prog1 zW=some (.code zcR):=by kernel_rfl
theorem zf9:prog1 z9=some (.code zcq):=by kernel_rfl
theorem zku:prog1 zU=some (.code zcu):=by kernel_rfl
theorem ziZ:prog1 zaz=some (.code zbR):=by kernel_rfl
theorem zh8:prog1 zM=some (.code zbW):=by kernel_rfl
theorem zgT:prog1 zaI=some (.code zbO):=by kernel_rfl
theorem zfr:prog1 zaD=some (.code zbo):=by kernel_rfl
theorem zel:prog1 zC=some (.code zam):=by kernel_rfl
theorem zjF:prog1 zF=some (.code zbp):=by kernel_rfl
theorem zgA:prog1 zaa=some (.code zbr):=by kernel_rfl
theorem ziM:prog1 za7=some (.code zbL):=by kernel_rfl
theorem zj6:prog1 zas=some (.code zcf):=by kernel_rfl
theorem zgZ:prog1 zaV=some (.code zbl):=by kernel_rfl
theorem zja:prog1 zch=some (.code zbm):=by kernel_rfl
theorem zjJ:prog1 zaO=some (.code zbx):=by kernel_rfl
theorem zgo:prog1 zae=some (.code zcy):=by kernel_rfl
theorem zgv:prog1 zg=some (.code zbk):=by kernel_rfl
theorem zy:prog1 zb=some (.code zm):=by kernel_rfl
theorem zfO:prog1 za9=some (.code zcp):=by kernel_rfl
theorem zjO:prog1 zQ=some (.code zbn):=by kernel_rfl
theorem zfY:prog1 zT=some (.code zcs):=by kernel_rfl
theorem zkj:prog1 zZ=some (.code zby):=by kernel_rfl
theorem zi:prog1 zd=some (.code zf):=by kernel_rfl
theorem zkt:prog1 zr=some (.code zbJ):=by kernel_rfl
theorem zj4:prog1 zag=some (.code zb1):=by kernel_rfl
theorem zio:prog1 zah=some (.code zcz):=by kernel_rfl
theorem zib:prog1 zN=some (.code zcM):=by kernel_rfl
theorem zhu:prog1 zaQ=some (.code zcD):=by kernel_rfl
theorem zgw:prog1 za8=some (.code zcn):=by kernel_rfl
theorem zgf:prog1 zba=some (.code zbV):=by kernel_rfl
theorem zhg:prog1 zo=some (.code zbC):=by kernel_rfl
theorem zj1:prog1 zaR=some (.code zb3):=by kernel_rfl
theorem zhP:prog1 zaw=some (.code zcO):=by kernel_rfl
theorem zgJ:prog1 zaW=some (.code zcG):=by kernel_rfl
theorem zj0:prog1 zL=some (.code zbU):=by kernel_rfl
theorem zkd:prog1 zbd=some (.code zbw):=by kernel_rfl
theorem zht:prog1 za6=some (.code zbu):=by kernel_rfl
theorem zcC:prog1 zc=some (.code zG):=by kernel_rfl
theorem zkp:prog1 zR=some (.code zce):=by kernel_rfl
theorem zfs:prog1 zbf=some (.code zcB):=by kernel_rfl
theorem zhE:prog1 zaf=some (.code zcj):=by kernel_rfl
theorem zi0:prog1 zay=some (.code zbA):=by kernel_rfl
theorem zfe:prog1 zap=some (.code zbh):=by kernel_rfl
theorem zgG:prog1 zav=some (.code zb2):=by kernel_rfl
theorem zjW:prog1 zbc=some (.code zbZ):=by kernel_rfl
theorem zju:prog1 zaE=some (.code zb4):=by kernel_rfl
theorem zke:prog1 zac=some (.code zbQ):=by kernel_rfl
theorem zjt:prog1 zK=some (.code zcl):=by kernel_rfl
theorem ziY:prog1 zD=some (.code zbs):=by kernel_rfl
theorem zim:prog1 zak=some (.code zbt):=by kernel_rfl
theorem zga:prog1 zaN=some (.code zbj):=by kernel_rfl
theorem zjG:prog1 zaP=some (.code zbg):=by kernel_rfl
theorem zf8:prog1 zv=some (.code zbq):=by kernel_rfl
theorem zjl:prog1 zaT=some (.code zbS):=by kernel_rfl
theorem ziz:prog1 z8=some (.code zcL):=by kernel_rfl
theorem zg2:prog1 zaZ=some (.code zcF):=by kernel_rfl
theorem zg3:prog1 zaF=some (.code zbM):=by kernel_rfl
theorem zij:prog1 zA=some (.code zbT):=by kernel_rfl
theorem zka:prog1 zaY=some (.code zcv):=by kernel_rfl
theorem zfy:prog1 za2=some (.code zcI):=by kernel_rfl
theorem zgM:prog1 zaC=some (.code zcd):=by kernel_rfl
theorem zhF:prog1 zaH=some (.code zcQ):=by kernel_rfl
theorem zkB:prog1 zaU=some (.code zcA):=by kernel_rfl
theorem zjo:prog1 za4=some (.code zbz):=by kernel_rfl
theorem zgm:prog1 zar=some (.code zct):=by kernel_rfl
theorem ziC:prog1 ze=some (.code zcw):=by kernel_rfl
theorem zfQ:prog1 zao=some (.code zcr):=by kernel_rfl
theorem zfT:prog1 zh=some (.code zco):=by kernel_rfl
theorem zgl:prog1 zab=some (.code zbB):=by kernel_rfl
theorem zff:prog1 za0=some (.code zb9):=by kernel_rfl
theorem zfC:prog1 zal=some (.code zcH):=by kernel_rfl
theorem zfa:prog1 zaB=some (.code zcK):=by kernel_rfl
theorem zkb:prog1 zn=some (.code zbG):=by kernel_rfl
theorem zjq:prog1 zX=some (.code zcE):=by kernel_rfl
theorem zkq:prog1 zu=some (.code zck):=by kernel_rfl
theorem zkA:prog1 zaJ=some (.code zcJ):=by kernel_rfl
theorem zeQ:prog1 zaG=some (.oracle sortO):=by kernel_rfl
theorem zdX:prog1 zaX=some (.oracle (sortXO zI)):=by kernel_rfl
theorem zdK:prog1 zai=some (.oracle (sortEO zc)):=by kernel_rfl
theorem zj9:prog1 zJ=some (.oracle (closedO (.bool true))):=by kernel_rfl
theorem gO:type_of% @g_op:=@g_op
theorem eZ:type_of% @Evs.nil:=@Evs.nil
theorem eS:type_of% @Evs.cons:=@Evs.cons
theorem qD {c:Prop} (h:c:=by ((repeat' apply And.intro) <;> first|omega|trivial|assumption|(simp;done)|(simp;omega))):c:=h
end Go.AMS
