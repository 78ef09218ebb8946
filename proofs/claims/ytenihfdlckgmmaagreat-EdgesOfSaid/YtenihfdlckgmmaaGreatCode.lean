/- The code of the functions that the law runs, as the abstract machine reads it. -/
import Derived.Test.YtenihfdlckgmmaaGreatAmSepP
import Derived.Test.YtenihfdlckgmmaaGreatAmSepK
import Derived.Test.YtenihfdlckgmmaaGreatAmSepB
import Derived.Test.YtenihfdlckgmmaaGreatAmSepT
import Derived.Test.YtenihfdlckgmmaaGreatAmSepZ
import Derived.Test.YtenihfdlckgmmaaGreatAmSort
import Derived.Test.YtenihfdlckgmmaaGreatAmSortI
import Derived.Test.YtenihfdlckgmmaaGreatAmSortX
import Derived.Test.YtenihfdlckgmmaaGreatAmSortE
namespace Go.AM.G.Pre
end Go.AM.G.Pre
namespace Go.AM.G.Set
end Go.AM.G.Set
namespace Go.AMS
open Go.AM hiding Kt At WP WL Runs RunsY
open C
set_option maxRecDepth 100000
set_option linter.unusedVariables false
def zcW:Nat:=4
def zI:Nat:=9
def zc:Nat:=10
def z8:Nat:=11
def zS:Nat:=12
def z9:Nat:=13
def zbD:Nat:=14
def zaY:Nat:=15
def zaU:Nat:=16
def zac:Nat:=17
def zT:Nat:=18
def zbv:Nat:=19
def zA:Nat:=21
def zl:Nat:=32
def zb:Nat:=33
def zaD:Nat:=34
def zaS:Nat:=35
def zaz:Nat:=36
def zaR:Nat:=37
def zbf:Nat:=38
def zbd:Nat:=39
def za4:Nat:=40
def zav:Nat:=41
def zN:Nat:=42
def zaF:Nat:=43
def zbi:Nat:=44
def zad:Nat:=45
def zbb:Nat:=46
def zaJ:Nat:=47
def zba:Nat:=48
def zW:Nat:=49
def zaA:Nat:=50
def zbo:Nat:=51
def zP:Nat:=52
def zbp:Nat:=53
def zan:Nat:=54
def zd:Nat:=69
def zbB:Nat:=72
def zB:Nat:=73
def zaV:Nat:=74
def zay:Nat:=75
def zaX:Nat:=76
def zbx:Nat:=77
def zaN:Nat:=78
def za9:Nat:=79
def zaM:Nat:=80
def zar:Nat:=82
def zf:Nat:=83
def zbg:Nat:=84
def zax:Nat:=85
def zM:Nat:=86
def zby:Nat:=87
def za3:Nat:=88
def zaq:Nat:=89
def zG:Nat:=90
def zj:Nat:=91
def zab:Nat:=92
def zaE:Nat:=93
def zbn:Nat:=94
def zaa:Nat:=95
def zR:Nat:=96
def zbe:Nat:=97
def zg:Nat:=98
def zam:Nat:=99
def zC:Nat:=100
def zal:Nat:=101
def za0:Nat:=102
def zaL:Nat:=103
def zU:Nat:=104
def zas:Nat:=105
def zQ:Nat:=106
def zbz:Nat:=107
def zbh:Nat:=117
def za6:Nat:=122
def za2:Nat:=133
def zbk:Nat:=137
def zq:Nat:=149
def zx:Nat:=150
def zbj:Nat:=151
def zbl:Nat:=152
def zbw:Nat:=162
def zp:Nat:=163
def zX:Nat:=164
def zbm:Nat:=165
def zaf:Nat:=166
def zag:Nat:=167
def zaW:Nat:=168
def zbq:Nat:=169
def zaI:Nat:=170
def zaB:Nat:=171
def zY:Nat:=172
def ze:Nat:=173
def zF:Nat:=180
def zaw:Nat:=189
def zae:Nat:=192
def zbc:Nat:=198
def zw:Nat:=199
def zH:Nat:=200
def zao:Nat:=212
def zE:Nat:=213
def zD:Nat:=214
def zaO:Nat:=215
def za8:Nat:=216
def zaP:Nat:=222
def zbs:Nat:=224
def zbA:Nat:=229
def zbE:Nat:=230
def zau:Nat:=232
def zaG:Nat:=233
namespace C
abbrev m (d x:Nat):AI:=o d (.mv (t x))
abbrev l (d x:Nat):AI:=o d (.load1 (t x))
abbrev f (d k x:Nat):AI:=o d (.faddr k (t x))
abbrev i (d k x y:Nat):AI:=o d (.iaddr k (t x) (t y))
abbrev n (d k x:Nat):AI:=o d (.len k (t x))
abbrev L (d k x:Nat):AI:=o d (.loadN k (t x))
abbrev B (d:Nat) (q:BinOp) (x y:Nat):AI:=o d (.bin q (t x) (t y))
abbrev X (d k x:Nat):AI:=o d (.extract k (t x))
abbrev z:Value:=.int .i64 0
abbrev O (l:List AI):ACode:=.ops false l
abbrev Q (a b:ACode):ACode:=.seq a b
abbrev K (l:List Nat):ACode:=.keep l
end C
/-- coroner/coronerlaw17.EdgesOf -/
def zcC:AFn:=⟨2,[.tmp 4],
 (Q (O [o 2 (.box (t 0)),o 4 (.mv (.const (.bool false)))])
 (Q (Q (O [L 8 1 2,o 9 (.call (.func zaY) [(t 8)]),o 10 (.un .not (t 9)),m 11 10,⟨(some 12),.mv (t 1),some (11,false),false⟩,⟨(some 13),.len 1 (t 12),some (11,false),false⟩,⟨(some 14),.bin .gtr (t 13) (ci 20),some (11,false),false⟩,o 15 (.pick (t 11) (.const (.bool true)) (t 14))])
 (Q (K [1,2,15])
 (.cond (t 15)
 (Q (O [o 16 (.call (.func zI) []),m 4 16])
 .ret)
 .skip)))
 (Q (K [1,2])
 (Q (O [L 18 1 2,o 19 (.call (.func zaU) [(t 18)]),m 17 19,X 20 0 17,X 21 1 17,m 5 20,m 6 21])
 (Q (K [1,2,5,6])
 (Q (Q (O [m 22 6,o 23 (.bin .neq (t 22) (ci 0)),m 24 23,⟨(some 25),.mv (t 5),some (24,false),false⟩,⟨(some 26),.eqv 1 false (t 25) (.const (.pointer none)),some (24,false),false⟩,o 27 (.pick (t 24) (.const (.bool true)) (t 26))])
 (.cond (t 27)
 (Q (O [o 4 (.mv (.const (.bool false)))])
 .ret)
 .skip))
 (Q (K [1,2,5])
 (Q (Q (O [o 7 (.mv (ci 0))])
 (Q (K [1,2,5,7]) (.block 0 (.loop (Q (Q (Q (O [m 28 7,m 29 1,n 30 1 29,B 31 .lss 28 30])
 (.cond (t 31)
 .skip
 (.exit 0)))
 (Q (.block 1 (Q (.ops true [m 34 5,m 35 1,m 36 7,i 37 1 35 36,l 38 37,o 39 (.call (.func zac) [(t 34),(t 38)]),L 40 1 2,m 41 1,m 42 7,m 43 7,o 44 (.bin .add (t 43) (ci 1)),o 45 (.slc 1 (t 41) (some (t 42)) (some (t 44))),b 46 (.call (.func zT) [(t 40),(t 45)]),b 47 (.call (.func zS) [(t 39),(t 46)]),b 48 (.un .not (t 47))])
 (Q (K [1,2,5,7,48])
 (.cond (t 48)
 (Q (O [o 4 (.mv (.const (.bool false)))])
 .ret)
 .skip))))
 (Q (K [1,2,5,7])
 (O [m 32 7,o 33 (.bin .add (t 32) (ci 1)),m 7 33])))) (K [1,2,5,7]))))))
 (Q (K [1,2,5])
 (Q (.ops true [m 49 5,m 50 1,o 51 (.call (.func zbv) [(t 49),(t 50)]),L 52 1 2,m 53 1,b 54 (.call (.func zT) [(t 52),(t 53)]),b 55 (.call (.func zS) [(t 51),(t 54)]),b 56 (.mv (t 55)),⟨(some 57),.call (.func zI) [],some (56,true),true⟩,b 58 (.pick (t 56) (t 57) (.const (.bool false))),b 4 (.mv (t 58))])
 (Q (K [4])
 .ret)))))))))))⟩
/-- coroner/coronerref13.SameEdges -/
def zdl:AFn:=⟨2,[.tmp 4],
 (Q (O [o 4 (.mv (.const (.bool false)))])
 (Q (Q (O [m 6 0,n 7 1 6,m 8 1,n 9 1 8,B 10 .neq 7 9])
 (.cond (t 10)
 (Q (O [o 4 (.mv (.const (.bool false)))])
 .ret)
 .skip))
 (Q (Q (O [o 5 (.mv (ci 0))])
 (Q (K [0,1,5]) (.block 0 (.loop (Q (Q (Q (O [m 11 5,m 12 0,n 13 1 12,B 14 .lss 11 13])
 (.cond (t 14)
 .skip
 (.exit 0)))
 (Q (.block 1 (Q (.ops true [m 17 0,m 18 5,i 19 6 17 18,L 20 6 19,m 21 1,m 22 5,i 23 6 21 22,L 24 6 23,b 25 (.eqA [1,1,1,1,1,1] true (t 20) (t 24))])
 (Q (K [0,1,5,25])
 (.cond (t 25)
 (Q (O [o 4 (.mv (.const (.bool false)))])
 .ret)
 .skip))))
 (Q (K [0,1,5])
 (O [m 15 5,o 16 (.bin .add (t 15) (ci 1)),m 5 16])))) (K [0,1,5]))))))
 (Q (K [])
 (Q (O [o 4 (.mv (.const (.bool true)))])
 .ret)))))⟩
/-- coroner/table.New -/
def zcg:AFn:=⟨1,[.tmp 2,.tmp 3],
 (Q (O [o 1 (.box (t 0)),o 2 (.mv (.const (.pointer none))),o 3 (.mv (ci 0))])
 (Q (Q (O [L 11 1 1,o 12 (.call (.func zbd) [(t 11)]),m 4 12])
 (Q (O [m 13 4,o 14 (.bin .neq (t 13) (ci 0))])
 (.cond (t 14)
 (Q (O [m 15 4,o 2 (.mv (.const (.pointer none))),m 3 15])
 .ret)
 .skip)))
 (Q (K [1,2,3])
 (Q (O [o 16 (.mkmap),o 17 (.mkmap),o 18 (.mkmap),o 19 (.mkmap),o 20 (.build [(.bool false),(.slice none 0 0),(.slice none 0 0),(.map none),(.map none),(.map none),(.map none)] [(0,(1,(.const (.bool true)))),(3,(1,(t 16))),(4,(1,(t 17))),(5,(1,(t 18))),(6,(1,(t 19)))]),o 21 (.box (t 20)),o 5 (.alloc [(.pointer none)]),s (.store 1 (t 5) (t 21))])
 (Q (K [1,2,3,5])
 (Q (O [f 22 0 1,l 23 22,o 24 (.call (.func za4) [(t 23)]),m 6 24])
 (Q (O [m 25 6,o 26 (.call (.func zav) [(t 25),(.func zN)])])
 (Q (Q (O [m 27 6,n 28 1 27,o 29 (.mv (ci 0))])
 (Q (K [2,3,5,6,27,28,29]) (.block 0 (.loop (Q (Q (O [B 30 .lss 29 28])
 (Q (.cond (t 30)
 .skip
 (.exit 0))
 (Q (.block 1 (Q (O [i 31 3 27 29,L 32 3 31,o 8 (.alloc [z,(.bool false),(.slice none 0 0)]),s (.store 3 (t 8) (t 32))])
 (Q (O [f 33 1 8,l 34 33,o 35 (.un .not (t 34))])
 (.cond (t 35)
 (.opsK [(8,5)] [] [l 36 5,l 37 5,o 38 (.nilc (t 37)),f 39 1 38,l 40 39,f 41 0 8,l 42 41,o 43 (.bslice 1 1 [z] [(0,(1,(t 42)))]),b 44 (.append 1 8 (t 40) (t 43)),o 45 (.nilc (t 36)),f 46 1 45,sb (.store 1 (t 46) (t 44))])
 .skip))))
 (Q (K [2,3,5,6,27,28,29])
 (O [o 47 (.bin .add (t 29) (ci 1)),m 29 47]))))) (K [2,3,5,6,27,28,29]))))))
 (Q (K [2,3,5,6])
 (Q (Q (O [m 48 6,o 49 (.call (.func zaF) [(t 48)])])
 (.block 2 (.rfun (t 49) [50,51]
 (Q (O [o 9 (.alloc [z,(.bool false),(.slice none 0 0)]),s (.store 3 (t 9) (t 50))])
 (O [m 10 51]))
 (.block 3 (Q (.opsK [(12,5)] [] [l 52 5,l 53 5,o 54 (.nilc (t 53)),f 55 2 54,l 56 55,f 57 2 9,l 58 57,m 59 10,i 60 4 58 59,f 61 1 60,l 62 61,o 63 (.bslice 1 1 [z] [(0,(1,(t 62)))]),b 64 (.append 1 8 (t 56) (t 63)),o 65 (.nilc (t 52)),f 66 2 65,sb (.store 1 (t 66) (t 64))])
 (Q (K [5,9,10])
 (.ops true [l 67 5,L 68 3 9,m 69 10,f 70 2 9,l 71 70,m 72 10,i 73 4 71 72,L 74 4 73,b 75 (.call (.func zbi) [(t 67),(t 68),(t 69),(t 74)])])))))))
 (Q (K [5])
 (Q (.ops true [l 76 5,l 77 5,o 78 (.nilc (t 77)),f 79 2 78,l 80 79,o 81 (.call (.func zad) [(t 80)]),o 82 (.call (.func zbb) [(t 81)]),b 83 (.nilc (t 76)),b 84 (.faddr 2 (t 83)),sb (.store 1 (t 84) (t 82))])
 (Q (K [5])
 (Q (O [l 85 5,m 2 85,o 3 (.mv (ci 0))])
 .ret))))))))))))))⟩
/-- cmp.Or[int] -/
def zy:AFn:=⟨1,[.tmp 2],
 (Q (O [o 2 (.mv (ci 0))])
 (Q (O [o 3 (.mv (ci 0))])
 (Q (Q (O [m 6 0,n 7 1 6,o 8 (.mv (ci 0))])
 (Q (K [3,6,7,8]) (.block 0 (.loop (Q (Q (O [B 9 .lss 8 7])
 (Q (.cond (t 9)
 .skip
 (.exit 0))
 (Q (.block 1 (Q (O [i 10 1 6 8,l 11 10,m 5 11])
 (Q (O [m 12 5,m 13 3,B 14 .neq 12 13])
 (.cond (t 14)
 (Q (O [m 15 5,m 2 15])
 .ret)
 .skip))))
 (Q (K [3,6,7,8])
 (O [o 16 (.bin .add (t 8) (ci 1)),m 8 16]))))) (K [3,6,7,8]))))))
 (Q (K [3])
 (Q (O [m 17 3,m 2 17])
 .ret)))))⟩
/-- slices.Compact[[]coroner/api.Edge,coroner/api.Edge] -/
def zcX:AFn:=⟨1,[.tmp 2],
 (Q (O [o 2 (.mv (.const (.slice none 0 0)))])
 (Q (Q (O [m 6 0,n 7 1 6,o 8 (.bin .lss (t 7) (ci 2))])
 (.cond (t 8)
 (Q (O [m 9 0,m 2 9])
 .ret)
 .skip))
 (Q (Q (O [o 3 (.mv (ci 1))])
 (Q (K [0,3]) (.block 0 (.loop (Q (Q (Q (O [m 10 3,m 11 0,n 12 1 11,B 13 .lss 10 12])
 (.cond (t 13)
 .skip
 (.exit 0)))
 (Q (.block 1 (Q (.ops true [m 16 0,m 17 3,i 18 6 16 17,L 19 6 18,m 20 0,m 21 3,o 22 (.bin .sub (t 21) (ci 1)),i 23 6 20 22,L 24 6 23,b 25 (.eqA [1,1,1,1,1,1] false (t 19) (t 24))])
 (Q (K [0,3,25])
 (.cond (t 25)
 (Q (O [m 26 0,m 27 3,o 28 (.slc 6 (t 26) (some (t 27)) none),m 4 28])
 (Q (Q (O [o 5 (.mv (ci 1))])
 (Q (K [0,3,4,5]) (.block 2 (.loop (Q (Q (Q (O [m 29 5,m 30 4,n 31 1 30,B 32 .lss 29 31])
 (.cond (t 32)
 .skip
 (.exit 2)))
 (Q (.block 3 (Q (.ops true [m 35 4,m 36 5,i 37 6 35 36,L 38 6 37,m 39 4,m 40 5,o 41 (.bin .sub (t 40) (ci 1)),i 42 6 39 41,L 43 6 42,b 44 (.eqA [1,1,1,1,1,1] true (t 38) (t 43))])
 (Q (K [0,3,4,5,44])
 (.cond (t 44)
 (Q (O [m 45 0,m 46 3,m 47 4,m 48 5,i 49 6 47 48,L 50 6 49,i 51 6 45 46,s (.store 6 (t 51) (t 50))])
 (Q (K [0,3,4,5])
 (O [m 52 3,o 53 (.bin .add (t 52) (ci 1)),m 3 53])))
 .skip))))
 (Q (K [0,3,4,5])
 (O [m 33 5,o 34 (.bin .add (t 33) (ci 1)),m 5 34])))) (K [0,3,4,5]))))))
 (Q (K [0,3])
 (Q (O [m 54 0,m 55 3,o 56 (.slc 6 (t 54) (some (t 55)) none),s (.clear [z,z,z,z,z,z] (t 56))])
 (Q (O [m 57 0,m 58 3,o 59 (.slc 6 (t 57) none (some (t 58))),m 2 59])
 .ret)))))
 .skip))))
 (Q (K [0,3])
 (O [m 14 3,o 15 (.bin .add (t 14) (ci 1)),m 3 15])))) (K [0,3]))))))
 (Q (K [0])
 (Q (O [m 60 0,m 2 60])
 .ret)))))⟩
/-- slices.Clone[[]coroner/api.Txn,coroner/api.Txn] -/
def zco:AFn:=⟨1,[.tmp 2],
 (Q (O [o 2 (.mv (.const (.slice none 0 0)))])
 (Q (Q (O [m 3 0,o 4 (.eqv 2 false (t 3) (.const (.slice none 0 0)))])
 (.cond (t 4)
 (Q (O [o 2 (.mv (.const (.slice none 0 0)))])
 .ret)
 .skip))
 (Q (O [o 5 (.bslice 3 0 [] []),m 6 0,o 7 (.append 3 40 (t 5) (t 6)),m 2 7])
 .ret)))⟩
/-- (*coroner/table.Table).put -/
def zb2:AFn:=⟨4,[],
 (Q (O [o 5 (.box (t 1)),o 7 (.box (t 3))])
 (Q (O [f 10 0 5,l 11 10,f 12 1 7,l 13 12,o 14 (.build [z,z] [(0,(1,(t 11))),(1,(1,(t 13)))]),o 8 (.alloc [z,z]),s (.store 2 (t 8) (t 14))])
 (Q (K [0,2,5,7,8])
 (Q (Q (O [f 15 0 7,l 16 15])
 (.cond (t 16)
 (Q (Q (O [f 17 1 5,l 18 17,o 19 (.un .not (t 18))])
 (.cond (t 19)
 (.opsK [(29,22),(29,24)] [] (m 20 0::o 21 (.nilc (t 20))::f 22 5 21::l 23 22::f 24 1 7::l 25 24::m 26 0::o 27 (.nilc (t 26))::f 28 5 27::l 29 28::f 30 1 7::l 31 30::o 32 (.lookup (.one 1) (.slice none 0 0) false (t 29) (t 31))::f 33 0 5::l 34 33::m 35 2::f 36 1 7::l 37 36::f 38 3 7::l 39 38::m 40 0::o 41 (.nilc (t 40))::f 42 4 41::l 43 42::L 44 2 8::o 45 (.lookup (.many [1,1]) (.slice none 0 0) false (t 43) (t 44))::o 46 (.call (.func zf) [(t 45)])::o 47 (.build [z,z,z,(.slice none 0 0),(.slice none 0 0)] [(0,(1,(t 34))),(1,(1,(t 35))),(2,(1,(t 37))),(3,(1,(t 39))),(4,(1,(t 46)))])::o 48 (.bslice 5 1 [z,z,z,(.slice none 0 0),(.slice none 0 0)] [(0,(5,(t 47)))])::b 49 (.append 5 72 (t 32) (t 48))::sb (.mapupd (.one 1) (t 23) (t 25) (t 49))::[]))
 .skip))
 (Q (K [])
 .ret))
 .skip))
 (Q (K [0,2,5,7,8])
 (Q (O [f 50 0 5,l 51 50,m 52 2,f 53 1 7,l 54 53,f 55 2 7,l 56 55,f 57 1 5,l 58 57,o 59 (.build [z,z,z,z,(.bool false)] [(0,(1,(t 51))),(1,(1,(t 52))),(2,(1,(t 54))),(3,(1,(t 56))),(4,(1,(t 58)))]),o 9 (.alloc [z,z,z,z,(.bool false)]),s (.store 5 (t 9) (t 59))])
 (Q (K [0,5,7,8,9])
 (Q (.ops true [m 60 0,o 61 (.nilc (t 60)),f 62 3 61,l 63 62,f 64 1 7,l 65 64,f 66 2 7,l 67 66,o 68 (.build [z,z] [(0,(1,(t 65))),(1,(1,(t 67)))]),L 69 5 9,sb (.mapupd (.many [1,1]) (t 63) (t 68) (t 69))])
 (Q (K [0,5,7,8,9])
 (Q (.opsK [] [] [m 70 0,o 71 (.nilc (t 70)),f 72 4 71,l 73 72,L 74 2 8,f 76 2 7,l 77 76,o 78 (.bslice 1 1 [z] [(0,(1,(t 77)))]),b 79 (.mapent (.many [1,1]) (.slice none 0 0) (t 73) (t 74)),X 75 0 79,b 80 (.append 1 8 (t 75) (t 78)),X 81 1 79,sb (.entst (t 73) (t 81) (t 80))])
 (Q (K [0,5,7,9])
 (Q (O [f 82 1 5,l 83 82,o 84 (.un .not (t 83))])
 (.cond (t 84)
 (.opsK [(15,87),(15,89)] [] [m 85 0,o 86 (.nilc (t 85)),f 87 6 86,l 88 87,f 89 1 7,l 90 89,m 91 0,o 92 (.nilc (t 91)),f 93 6 92,l 94 93,f 95 1 7,l 96 95,o 97 (.lookup (.one 1) (.slice none 0 0) false (t 94) (t 96)),L 98 5 9,o 99 (.bslice 5 1 [z,z,z,z,(.bool false)] [(0,(5,(t 98)))]),b 100 (.append 5 40 (t 97) (t 99)),sb (.mapupd (.one 1) (t 88) (t 90) (t 100))])
 .skip)))))))))))))⟩
/-- (*coroner/edges.maker).writes -/
def zcA:AFn:=⟨1,[],
 (Q (O [m 6 0,o 7 (.nilc (t 6)),f 8 1 7,f 9 1 8,l 10 9,n 11 1 10,o 12 (.mv (ci 0))])
 (Q (K [0,10,11,12])
 (Q (K [0,10,11,12]) (.block 0 (.loop (Q (Q (O [B 13 .lss 12 11])
 (Q (.cond (t 13)
 .skip
 (.exit 0))
 (Q (.block 1 (Q (O [m 14 12,i 15 1 10 12,l 16 15,m 2 14,m 3 16])
 (Q (O [m 17 0,o 18 (.nilc (t 17)),f 19 1 18,L 20 14 19,m 21 2,o 22 (.bin .add (t 21) (ci 1)),o 23 (.call (.func zaq) [(t 20),(t 22)]),n 24 1 23,o 25 (.mv (ci 0))])
 (Q (K [0,3,10,11,12,23,24,25])
 (Q (K [0,3,10,11,12,23,24,25]) (.block 2 (.loop (Q (Q (O [B 26 .lss 25 24])
 (Q (.cond (t 26)
 .skip
 (.exit 2))
 (Q (.block 3 (Q (O [i 27 1 23 25,l 28 27,m 5 28])
 (O [m 29 0,m 30 0,m 31 3,o 32 (.call (.func zj) [(t 30),(t 31)]),m 33 0,m 34 5,o 35 (.call (.func zj) [(t 33),(t 34)]),m 36 3,m 37 5,o 38 (.call (.func zG) [(t 29),(t 32),(t 35),(ci 1),(t 36),(t 37)])])))
 (Q (K [0,3,10,11,12,23,24,25])
 (O [o 39 (.bin .add (t 25) (ci 1)),m 25 39]))))) (K [0,3,10,11,12,23,24,25])))))))))
 (Q (K [0,10,11,12])
 (O [o 40 (.bin .add (t 12) (ci 1)),m 12 40]))))) (K [0,10,11,12])))))))⟩
/-- (*coroner/table.Table).is -/
def zbP:AFn:=⟨1,[.tmp 2],
 (Q (O [o 2 (.mv (.const (.bool false)))])
 (Q (O [m 3 0,o 4 (.eqv 1 true (t 3) (.const (.pointer none))),m 5 4,⟨(some 6),.mv (t 0),some (5,true),false⟩,⟨(some 7),.nilc (t 6),some (5,true),false⟩,⟨(some 8),.faddr 0 (t 7),some (5,true),false⟩,⟨(some 9),.load1 (t 8),some (5,true),false⟩,o 10 (.pick (t 5) (t 9) (.const (.bool false))),m 2 10])
 (Q (K [2])
 .ret)))⟩
/-- coroner/coronerref03.Ops -/
def zb6:AFn:=⟨1,[.tmp 2],
 (Q (O [o 1 (.box (t 0)),o 2 (.mv (ci 0))])
 (Q (O [o 3 (.mv (ci 0))])
 (Q (Q (O [o 4 (.mv (ci 0))])
 (Q (K [1,3,4]) (.block 0 (.loop (Q (Q (Q (O [m 5 4,f 6 0 1,l 7 6,n 8 1 7,B 9 .lss 5 8])
 (.cond (t 9)
 .skip
 (.exit 0)))
 (Q (.block 1 (O [m 12 3,f 13 0 1,l 14 13,m 15 4,i 16 3 14 15,f 17 2 16,l 18 17,n 19 1 18,B 20 .add 12 19,m 3 20]))
 (Q (K [1,3,4])
 (O [m 10 4,o 11 (.bin .add (t 10) (ci 1)),m 4 11])))) (K [1,3,4]))))))
 (Q (K [3])
 (Q (O [m 21 3,m 2 21])
 .ret)))))⟩
/-- coroner/coronerref04.earlier -/
def zcr:AFn:=⟨3,[.cellN 6 1],
 (Q (O [o 3 (.box (t 0)),o 6 (.alloc [(.slice none 0 0)])])
 (Q (O [o 9 (.bslice 3 0 [] []),f 10 0 3,l 11 10,m 12 1,o 13 (.slc 3 (t 11) none (some (t 12))),o 14 (.append 3 40 (t 9) (t 13)),m 7 14])
 (Q (K [1,2,3,6,7])
 (Q (O [f 15 0 3,l 16 15,m 17 1,i 18 3 16 17,L 19 3 18,o 8 (.alloc [z,(.bool false),(.slice none 0 0)]),s (.store 3 (t 8) (t 19))])
 (Q (K [2,6,7,8])
 (Q (O [f 20 2 8,l 21 20,m 22 2,o 23 (.slc 4 (t 21) none (some (t 22))),f 24 2 8,s (.store 1 (t 24) (t 23))])
 (Q (O [m 25 7,L 26 3 8,o 27 (.bslice 3 1 [z,(.bool false),(.slice none 0 0)] [(0,(3,(t 26)))]),o 28 (.append 3 40 (t 25) (t 27)),o 29 (.build [(.slice none 0 0)] [(0,(1,(t 28)))]),s (.store 1 (t 6) (t 29))])
 .ret)))))))⟩
/-- coroner/encode.text -/
def zdt:AFn:=⟨1,[.tmp 2],
 (Q (O [o 1 (.box (t 0)),o 2 (.mv (.const (.slice none 0 0)))])
 (Q (O [o 3 (.mv (.const (.slice none 0 0)))])
 (Q (Q (O [f 6 0 1,l 7 6,n 8 1 7,o 9 (.mv (ci 0))])
 (Q (K [3,7,8,9]) (.block 0 (.loop (Q (Q (O [B 10 .lss 9 8])
 (Q (.cond (t 10)
 .skip
 (.exit 0))
 (Q (.block 1 (Q (O [i 11 3 7 9,L 12 3 11,o 5 (.alloc [z,(.bool false),(.slice none 0 0)]),s (.store 3 (t 5) (t 12))])
 (O [m 13 3,L 14 3 5,o 15 (.call (.func zbl) [(t 14)]),o 16 (.append 1 1 (t 13) (t 15)),m 3 16])))
 (Q (K [3,7,8,9])
 (O [o 17 (.bin .add (t 9) (ci 1)),m 9 17]))))) (K [3,7,8,9]))))))
 (Q (K [3])
 (Q (O [m 18 3,m 2 18])
 .ret)))))⟩
/-- (*coroner/table.Table).Writes -/
def zcS:AFn:=⟨2,[.tmp 4],
 (Q (O [o 4 (.mv (.const .nilFunc))])
 (Q (Q (O [m 5 0,o 6 (.call (.func zP) [(t 5)]),o 7 (.un .not (t 6))])
 (.cond (t 7)
 (Q (O [o 8 (.call (.func zaf) [(.const (.slice none 0 0))]),m 4 8])
 .ret)
 .skip))
 (Q (O [m 9 0,o 10 (.nilc (t 9)),f 11 6 10,l 12 11,m 13 1,o 14 (.lookup (.one 1) (.slice none 0 0) false (t 12) (t 13)),o 15 (.call (.func zaf) [(t 14)]),m 4 15])
 (Q (K [4])
 .ret))))⟩
/-- coroner/reads.Sound$1 -/
def zbL:AFn:=⟨3,[],
 (Q (O [o 3 (.box (t 0))])
 (Q (O [l 7 1,l 8 2,o 9 (.call (.func zaE) [(t 7),(t 8)])])
 (.block 0 (.rfun (t 9) [10]
 (O [o 4 (.alloc [z,z,z,(.slice none 0 0),(.slice none 0 0)]),s (.store 5 (t 4) (t 10))])
 (.block 1 (Q (O [l 12 1,L 13 5 4,o 14 (.call (.func zbn) [(t 12),(t 13)]),m 11 14,X 15 0 11,X 16 1 11,m 5 15,m 6 16])
 (Q (K [3,4,5])
 (Q (O [m 17 5,o 18 (.bin .eql (t 17) (ci 0)),m 19 18,⟨(some 20),.load1 (t 3),some (19,true),false⟩,⟨(some 21),.loadN 5 (t 4),some (19,true),false⟩,⟨(some 22),.call (t 20) [(t 21)],some (19,true),false⟩,⟨(some 23),.un .not (t 22),some (19,true),false⟩,o 24 (.pick (t 19) (t 23) (.const (.bool false)))])
 (Q (K [24])
 (.cond (t 24)
 .ret
 .skip))))))))))⟩
/-- coroner/edges.last -/
def zdy:AFn:=⟨1,[.tmp 2],
 (Q (O [o 2 (.mv (ci 0))])
 (Q (Q (O [m 3 0,n 4 1 3,o 5 (.bin .eql (t 4) (ci 0))])
 (.cond (t 5)
 (Q (O [o 2 (.mv (ci (-1)))])
 .ret)
 .skip))
 (Q (O [m 6 0,m 7 0,n 8 1 7,o 9 (.bin .sub (t 8) (ci 1)),i 10 1 6 9,l 11 10,m 2 11])
 (Q (K [2])
 .ret))))⟩
/-- coroner/coronerref16.Clean -/
def zc7:AFn:=⟨2,[.tmp 4],
 (Q (O [o 2 (.box (t 0)),o 3 (.box (t 1)),o 4 (.mv (.const (.slice none 0 0)))])
 (Q (O [o 5 (.mv (.const (.slice none 0 0)))])
 (Q (Q (O [o 6 (.mv (ci 0))])
 (Q (K [2,3,5,6]) (.block 0 (.loop (Q (Q (Q (O [m 9 6,f 10 3 3,l 11 10,n 12 1 11,B 13 .lss 9 12])
 (.cond (t 13)
 .skip
 (.exit 0)))
 (Q (.block 1 (Q (.opsA [] [L 17 1 2,f 18 2 3,l 19 18,f 20 3 3,l 21 20,m 22 6,i 23 1 21 22,l 24 23,o 25 (.call (.func ze) [(t 17),(t 19),(t 24)]),m 16 25,X 26 0 16,X 27 1 16,o 7 (.alloc [z,z,z,z,(.bool false)]),sb (.store 5 (t 7) (t 26)),m 8 27])
 (Q (K [2,3,5,6,7,8])
 (Q (O [m 28 8,o 29 (.un .not (t 28)),m 30 29,⟨(some 31),.faddr 4 (t 7),some (30,false),false⟩,⟨(some 32),.load1 (t 31),some (30,false),false⟩,⟨(some 33),.un .not (t 32),some (30,false),false⟩,o 34 (.pick (t 30) (.const (.bool true)) (t 33))])
 (Q (K [2,3,5,6,34])
 (.cond (t 34)
 (O [m 35 5,f 36 3 3,l 37 36,m 38 6,i 39 1 37 38,l 40 39,o 41 (.bslice 1 1 [z] [(0,(1,(t 40)))]),o 42 (.append 1 8 (t 35) (t 41)),m 5 42])
 .skip))))))
 (Q (K [2,3,5,6])
 (O [m 14 6,o 15 (.bin .add (t 14) (ci 1)),m 6 15])))) (K [2,3,5,6]))))))
 (Q (K [5])
 (Q (O [m 43 5,m 4 43])
 .ret)))))⟩
/-- slices.isNaN[int] -/
def zc9:AFn:=⟨1,[.tmp 2],
 (Q (O [o 2 (.mv (.const (.bool false)))])
 (Q (O [m 3 0,m 4 0,B 5 .neq 3 4,m 2 5])
 .ret))⟩
/-- coroner/encode.txn -/
def zdh:AFn:=⟨1,[.tmp 2],
 (Q (O [o 1 (.box (t 0)),o 2 (.mv (.const (.slice none 0 0)))])
 (Q (O [o 3 (.mv (.const (.string ⟨#[32,99,10]⟩)))])
 (Q (Q (O [f 7 1 1,l 8 7])
 (.cond (t 8)
 (O [o 3 (.mv (.const (.string ⟨#[32,97,10]⟩)))])
 .skip))
 (Q (O [m 9 3,f 10 0 1,l 11 10,o 12 (.bslice 1 1 [z] [(0,(1,(t 11)))]),o 13 (.call (.func zH) [(.const (.string ⟨#[116]⟩)),(t 9),(t 12)]),m 4 13])
 (Q (Q (O [f 14 2 1,l 15 14,n 16 1 15,o 17 (.mv (ci 0))])
 (Q (K [4,15,16,17]) (.block 0 (.loop (Q (Q (O [B 18 .lss 17 16])
 (Q (.cond (t 18)
 .skip
 (.exit 0))
 (Q (.block 1 (Q (O [i 19 4 15 17,L 20 4 19,o 6 (.alloc [(.bool false),z,z,(.slice none 0 0)]),s (.store 4 (t 6) (t 20))])
 (Q (O [f 21 0 6,l 22 21])
 (.cond (t 22)
 (O [m 23 4,f 24 1 6,l 25 24,o 26 (.bslice 1 1 [z] [(0,(1,(t 25)))]),f 27 3 6,l 28 27,o 29 (.append 1 8 (t 26) (t 28)),o 30 (.call (.func zH) [(.const (.string ⟨#[114]⟩)),(.const (.string ⟨#[10]⟩)),(t 29)]),o 31 (.append 1 1 (t 23) (t 30)),m 4 31])
 (O [m 32 4,f 33 1 6,l 34 33,f 35 2 6,l 36 35,o 37 (.bslice 1 2 [z,z] [(0,(1,(t 34))),(1,(1,(t 36)))]),o 38 (.call (.func zH) [(.const (.string ⟨#[97]⟩)),(.const (.string ⟨#[10]⟩)),(t 37)]),o 39 (.append 1 1 (t 32) (t 38)),m 4 39])))))
 (Q (K [4,15,16,17])
 (O [o 40 (.bin .add (t 17) (ci 1)),m 17 40]))))) (K [4,15,16,17]))))))
 (Q (K [4])
 (Q (O [m 41 4,m 2 41])
 .ret)))))))⟩
/-- coroner/prefix.Fit[int] -/
def zcE:AFn:=⟨2,[.tmp 4],
 (Q (O [o 4 (.mv (.const (.bool false)))])
 (Q (O [m 5 0,m 6 1,o 7 (.call (.func zao) [(t 5),(t 6)]),m 8 7,⟨(some 9),.mv (t 1),some (8,false),false⟩,⟨(some 10),.mv (t 0),some (8,false),false⟩,⟨(some 11),.call (.func zao) [(t 9),(t 10)],some (8,false),false⟩,o 12 (.pick (t 8) (.const (.bool true)) (t 11)),m 4 12])
 (Q (K [4])
 .ret)))⟩
/-- coroner/reads.twice -/
def zcM:AFn:=⟨1,[.tmp 2,.tmp 3],
 (Q (O [o 2 (.mv (ci 0)),o 3 (.mv (.const (.bool false)))])
 (Q (O [o 4 (.alloc [(.slice none 0 0)])])
 (Q (Q (O [m 7 0,n 8 1 7,o 9 (.mv (ci 0))])
 (Q (K [4,7,8,9]) (.block 0 (.loop (Q (Q (O [B 10 .lss 9 8])
 (Q (.cond (t 10)
 .skip
 (.exit 0))
 (Q (.block 1 (Q (O [i 11 1 7 9,l 12 11,m 6 12])
 (Q (Q (O [L 13 1 4,m 14 6,o 15 (.call (.func zaO) [(t 13),(t 14)])])
 (.cond (t 15)
 (Q (O [m 16 6,m 2 16,o 3 (.mv (.const (.bool true)))])
 .ret)
 .skip))
 (O [L 17 1 4,m 18 6,o 19 (.bslice 1 1 [z] [(0,(1,(t 18)))]),o 20 (.call (.func za8) [(t 17),(t 19)]),s (.store 1 (t 4) (t 20))]))))
 (Q (K [4,7,8,9])
 (O [o 21 (.bin .add (t 9) (ci 1)),m 9 21]))))) (K [4,7,8,9]))))))
 (Q (K [])
 (Q (O [o 2 (.mv (ci 0)),o 3 (.mv (.const (.bool false)))])
 .ret)))))⟩
/-- coroner/coronerref05.Has -/
def zdi:AFn:=⟨2,[.tmp 4],
 (Q (O [o 4 (.mv (.const (.bool false)))])
 (Q (Q (O [o 5 (.mv (ci 0))])
 (Q (K [0,1,5]) (.block 0 (.loop (Q (Q (Q (O [m 6 5,m 7 0,n 8 1 7,B 9 .lss 6 8])
 (.cond (t 9)
 .skip
 (.exit 0)))
 (Q (.block 1 (Q (O [m 12 0,m 13 5,i 14 1 12 13,l 15 14,m 16 1,B 17 .eql 15 16])
 (.cond (t 17)
 (Q (O [o 4 (.mv (.const (.bool true)))])
 .ret)
 .skip)))
 (Q (K [0,1,5])
 (O [m 10 5,o 11 (.bin .add (t 10) (ci 1)),m 5 11])))) (K [0,1,5]))))))
 (Q (K [])
 (Q (O [o 4 (.mv (.const (.bool false)))])
 .ret))))⟩
/-- slices.IndexFunc[[]int,int] -/
def zaZ:AFn:=⟨2,[.tmp 4],
 (Q (O [o 4 (.mv (ci 0))])
 (Q (Q (O [m 6 0,n 7 1 6,o 8 (.mv (ci 0))])
 (Q (K [0,1,7,8]) (.block 0 (.loop (Q (Q (O [B 9 .lss 8 7])
 (Q (.cond (t 9)
 .skip
 (.exit 0))
 (Q (.block 1 (Q (O [m 10 8,m 5 10])
 (Q (O [m 11 1,m 12 0,m 13 5,i 14 1 12 13,l 15 14,o 16 (.call (t 11) [(t 15)])])
 (.cond (t 16)
 (Q (O [m 17 5,m 4 17])
 .ret)
 .skip))))
 (Q (K [0,1,7,8])
 (O [o 18 (.bin .add (t 8) (ci 1)),m 8 18]))))) (K [0,1,7,8]))))))
 (Q (K [])
 (Q (O [o 4 (.mv (ci (-1)))])
 .ret))))⟩
/-- coroner/coronerref15.Is -/
def zbJ:AFn:=⟨2,[.tmp 4],
 (Q (O [o 4 (.mv (.const (.bool false)))])
 (Q (O [m 5 0,n 6 1 5,m 7 1,n 8 1 7,B 9 .leq 6 8,m 10 9,⟨(some 11),.mv (t 0),some (10,true),false⟩,⟨(some 12),.mv (t 1),some (10,true),false⟩,⟨(some 13),.mv (t 0),some (10,true),false⟩,⟨(some 14),.len 1 (t 13),some (10,true),false⟩,⟨(some 15),.slc 1 (t 12) none (some (t 14)),some (10,true),false⟩,⟨(some 16),.call (.func zaP) [(t 11),(t 15)],some (10,true),false⟩,o 17 (.pick (t 10) (t 16) (.const (.bool false))),m 4 17])
 (Q (K [4])
 .ret)))⟩
/-- coroner/encode.line -/
def zc6:AFn:=⟨3,[.tmp 6],
 (Q (O [o 6 (.mv (.const (.slice none 0 0)))])
 (Q (O [m 12 0,o 13 (.convSB (t 12)),m 7 13])
 (Q (Q (O [m 14 2,n 15 1 14,o 16 (.mv (ci 0))])
 (Q (K [1,7,14,15,16]) (.block 0 (.loop (Q (Q (O [B 17 .lss 16 15])
 (Q (.cond (t 17)
 .skip
 (.exit 0))
 (Q (.block 1 (Q (O [i 18 1 14 16,l 19 18,m 9 19])
 (Q (O [m 21 9,o 22 (.call (.func zbs) [(t 21)]),m 20 22,X 23 0 20,X 24 1 20,m 10 23,m 11 24])
 (Q (K [1,7,10,14,15,16])
 (O [m 25 7,m 26 10,o 27 (.bin .add (.const (.string ⟨#[32]⟩)) (t 26)),o 28 (.appS 1 (t 25) (t 27)),m 7 28])))))
 (Q (K [1,7,14,15,16])
 (O [o 29 (.bin .add (t 16) (ci 1)),m 16 29]))))) (K [1,7,14,15,16]))))))
 (Q (K [1,7])
 (Q (O [m 30 7,m 31 1,o 32 (.appS 1 (t 30) (t 31)),m 6 32])
 .ret)))))⟩
/-- coroner/prefix.Is[int] -/
def zdc:AFn:=⟨2,[.tmp 4],
 (Q (O [o 4 (.mv (.const (.bool false)))])
 (Q (O [m 5 0,m 6 1,o 7 (.call (.func zaw) [(t 5),(t 6)]),m 8 0,n 9 1 8,B 10 .eql 7 9,m 4 10])
 (Q (K [4])
 .ret)))⟩
/-- (coroner/sorted.Set[int]).With -/
def zcV:AFn:=⟨2,[.cellN 4 1],
 (Q (O [o 2 (.box (t 0)),o 4 (.alloc [(.slice none 0 0)])])
 (Q (.ops true [L 5 1 2,m 6 1,o 7 (.call (.func zad) [(t 6)]),b 8 (.call (.func zbE) [(t 5),(t 7)]),sb (.store 1 (t 4) (t 8))])
 .ret))⟩
/-- coroner/digits.Print -/
def zbQ:AFn:=⟨1,[.tmp 2,.tmp 3],
 (Q (O [o 2 (.mv (.const (.string ⟨#[]⟩))),o 3 (.mv (ci 0))])
 (Q (Q (O [m 6 0,o 7 (.call (.func zau) [(t 6)]),o 8 (.un .not (t 7))])
 (.cond (t 8)
 (Q (O [o 2 (.mv (.const (.string ⟨#[]⟩))),o 3 (.mv (ci 2))])
 .ret)
 .skip))
 (Q (O [m 10 0,o 11 (.call (.func zaG) [(t 10)]),m 9 11,X 12 0 9,X 13 1 9,o 4 (.alloc [(.int .u8 0),(.int .u8 0),(.int .u8 0),(.int .u8 0),(.int .u8 0),(.int .u8 0),(.int .u8 0),(.int .u8 0),(.int .u8 0),(.int .u8 0)]),s (.store 10 (t 4) (t 12)),m 5 13])
 (Q (K [4,5])
 (Q (O [m 14 5,o 15 (.bin .sub (ci 10) (t 14)),o 16 (.slcV 10 1 (t 4) (some (t 15)) none),o 17 (.convBS (t 16)),m 2 17,o 3 (.mv (ci 0))])
 .ret)))))⟩
/-- coroner/digits.may -/
def zcH:AFn:=⟨1,[.tmp 2],
 (Q (O [o 2 (.mv (.const (.bool false)))])
 (Q (O [m 3 0,o 4 (.bin .geq (t 3) (ci 0)),m 5 4,⟨(some 6),.mv (t 0),some (5,true),false⟩,⟨(some 7),.bin .leq (t 6) (ci 2147483647),some (5,true),false⟩,o 8 (.pick (t 5) (t 7) (.const (.bool false))),m 2 8])
 (Q (K [2])
 .ret)))⟩
/-- coroner/edges.Sort -/
def zcB:AFn:=⟨1,[.tmp 2],
 (Q (O [o 2 (.mv (.const (.slice none 0 0)))])
 (Q (O [m 4 0,o 5 (.call (.func zaD) [(t 4)]),m 3 5])
 (Q (O [m 6 3,o 7 (.call (.func zaS) [(t 6),(.func zc)])])
 (Q (O [m 8 3,o 9 (.call (.func zaz) [(t 8)]),m 2 9])
 .ret))))⟩
/-- coroner/edges.Of -/
def zdu:AFn:=⟨2,[.tmp 4],
 (Q (O [o 4 (.mv (.const (.slice none 0 0)))])
 (Q (O [m 7 0,m 8 0,m 9 1,o 10 (.call (.func zaJ) [(t 8),(t 9)]),o 11 (.build [(.pointer none),z,(.slice none 0 0),(.slice none 0 0),(.bool false),z,z,z,(.slice none 0 0),(.slice none 0 0),z,z,z,(.slice none 0 0),(.slice none 0 0),(.slice none 0 0)] [(0,(1,(t 7))),(1,(14,(t 10)))]),o 12 (.box (t 11)),o 5 (.alloc [(.pointer none)]),s (.store 1 (t 5) (t 12))])
 (Q (K [0,1,4,5])
 (Q (Q (O [l 13 5,o 14 (.nilc (t 13)),f 15 1 14,f 16 3 15,l 17 16])
 (.cond (t 17)
 (Q (O [o 4 (.mv (.const (.slice none 0 0)))])
 .ret)
 .skip))
 (Q (O [l 18 5,o 19 (.call (.func zba) [(t 18)])])
 (Q (Q (O [m 20 0,m 21 1,o 22 (.call (.func zW) [(t 20),(t 21)])])
 (.block 0 (.rfun (t 22) [23]
 (O [o 6 (.alloc [z,z,z,(.slice none 0 0),(.slice none 0 0)]),s (.store 5 (t 6) (t 23))])
 (.block 1 (O [l 24 5,L 25 5 6,o 26 (.call (.func zaA) [(t 24),(t 25)])])))))
 (Q (K [5])
 (Q (O [l 27 5,o 28 (.nilc (t 27)),f 29 15 28,l 30 29,o 31 (.call (.func z9) [(t 30)]),m 4 31])
 .ret))))))))⟩
/-- (*coroner/table.Table).Writer -/
def zc5:AFn:=⟨3,[.cellN 6 5,.tmp 7],
 (Q (O [o 6 (.alloc [z,z,z,z,(.bool false)]),o 7 (.mv (.const (.bool false)))])
 (Q (Q (O [m 10 0,o 11 (.call (.func zP) [(t 10)]),o 12 (.un .not (t 11))])
 (.cond (t 12)
 (Q (O [o 13 (.build [z,z,z,z,(.bool false)] []),s (.store 5 (t 6) (t 13)),o 7 (.mv (.const (.bool false)))])
 .ret)
 .skip))
 (Q (O [m 15 0,o 16 (.nilc (t 15)),f 17 3 16,l 18 17,m 19 1,m 20 2,o 21 (.build [z,z] [(0,(1,(t 19))),(1,(1,(t 20)))]),o 22 (.lookup (.many [1,1]) (.agg #[z,z,z,z,(.bool false)]) true (t 18) (t 21)),m 14 22,X 23 0 14,X 24 1 14,o 8 (.alloc [z,z,z,z,(.bool false)]),s (.store 5 (t 8) (t 23)),m 9 24])
 (Q (K [6,8,9])
 (Q (O [L 25 5 8,m 26 9,s (.store 5 (t 6) (t 25)),m 7 26])
 .ret)))))⟩
/-- cmp.Compare[int] -/
def zn:AFn:=⟨2,[.tmp 4],
 (Q (O [o 4 (.mv (ci 0))])
 (Q (O [m 7 0,o 8 (.call (.func zd) [(t 7)]),m 5 8])
 (Q (O [m 9 1,o 10 (.call (.func zd) [(t 9)]),m 6 10])
 (Q (Q (O [m 11 5])
 (.cond (t 11)
 (Q (Q (O [m 12 6])
 (.cond (t 12)
 (Q (O [o 4 (.mv (ci 0))])
 .ret)
 .skip))
 (Q (O [o 4 (.mv (ci (-1)))])
 .ret))
 .skip))
 (Q (Q (O [m 13 6])
 (.cond (t 13)
 (Q (O [o 4 (.mv (ci 1))])
 .ret)
 .skip))
 (Q (Q (O [m 14 0,m 15 1,B 16 .lss 14 15])
 (.cond (t 16)
 (Q (O [o 4 (.mv (ci (-1)))])
 .ret)
 .skip))
 (Q (Q (O [m 17 0,m 18 1,B 19 .gtr 17 18])
 (.cond (t 19)
 (Q (O [o 4 (.mv (ci 1))])
 .ret)
 .skip))
 (Q (O [o 4 (.mv (ci 0))])
 .ret))))))))⟩
/-- coroner/coronerref03.Few -/
def zbI:AFn:=⟨3,[.tmp 6],
 (Q (O [o 3 (.box (t 0)),o 6 (.mv (.const (.bool false)))])
 (Q (Q (O [f 10 0 3,l 11 10,n 12 1 11,m 13 1,B 14 .gtr 12 13])
 (.cond (t 14)
 (Q (O [o 6 (.mv (.const (.bool false)))])
 .ret)
 .skip))
 (Q (O [o 7 (.mv (ci 0))])
 (Q (Q (O [o 8 (.mv (ci 0))])
 (Q (K [2,3,7,8]) (.block 0 (.loop (Q (Q (Q (O [m 15 8,f 16 0 3,l 17 16,n 18 1 17,B 19 .lss 15 18])
 (.cond (t 19)
 .skip
 (.exit 0)))
 (Q (.block 1 (Q (Q (O [f 22 0 3,l 23 22,m 24 8,i 25 3 23 24,f 26 2 25,l 27 26,n 28 1 27,m 29 2,m 30 7,B 31 .sub 29 30,B 32 .gtr 28 31])
 (Q (K [2,3,7,8,32])
 (.cond (t 32)
 (Q (O [o 6 (.mv (.const (.bool false)))])
 .ret)
 .skip)))
 (Q (K [2,3,7,8])
 (Q (O [m 33 7,f 34 0 3,l 35 34,m 36 8,i 37 3 35 36,f 38 2 37,l 39 38,n 40 1 39,B 41 .add 33 40,m 7 41])
 (Q (K [2,3,7,8])
 (Q (O [o 9 (.mv (ci 0))])
 (Q (K [2,3,7,8,9]) (.block 2 (.loop (Q (Q (Q (O [m 42 9,f 43 0 3,l 44 43,m 45 8,i 46 3 44 45,f 47 2 46,l 48 47,n 49 1 48,B 50 .lss 42 49])
 (Q (K [2,3,7,8,9,50])
 (.cond (t 50)
 .skip
 (.exit 2))))
 (Q (K [2,3,7,8,9])
 (Q (.block 3 (Q (O [f 53 0 3,l 54 53,m 55 8,i 56 3 54 55,f 57 2 56,l 58 57,m 59 9,i 60 4 58 59,f 61 3 60,l 62 61,n 63 1 62,o 64 (.bin .gtr (t 63) (ci 100))])
 (Q (K [2,3,7,8,9,64])
 (.cond (t 64)
 (Q (O [o 6 (.mv (.const (.bool false)))])
 .ret)
 .skip))))
 (Q (K [2,3,7,8,9])
 (O [m 51 9,o 52 (.bin .add (t 51) (ci 1)),m 9 52]))))) (K [2,3,7,8,9])))))))))))
 (Q (K [2,3,7,8])
 (O [m 20 8,o 21 (.bin .add (t 20) (ci 1)),m 8 21])))) (K [2,3,7,8]))))))
 (Q (K [])
 (Q (O [o 6 (.mv (.const (.bool true)))])
 .ret))))))⟩
/-- coroner/sorted.Of[int] -/
def zcZ:AFn:=⟨1,[.cellN 2 1],
 (Q (O [o 2 (.alloc [(.slice none 0 0)])])
 (Q (O [m 4 0,o 5 (.call (.func zf) [(t 4)]),m 3 5])
 (Q (O [m 6 3,o 7 (.call (.func zbg) [(t 6)])])
 (Q (O [m 8 3,o 9 (.call (.func zax) [(t 8)]),o 10 (.build [(.slice none 0 0)] [(0,(1,(t 9)))]),s (.store 1 (t 2) (t 10))])
 .ret))))⟩
/-- coroner/reads.Sound -/
def zbT:AFn:=⟨2,[.tmp 4],
 (Q (O [o 2 (.box (t 0)),o 3 (.box (t 1)),o 4 (.mv (.const .nilFunc))])
 (Q (O [o 5 (.mkf zab [] [(t 2),(t 3)]),m 4 5])
 .ret))⟩
/-- slices.BinarySearch[[]int,int] -/
def zce:AFn:=⟨2,[.tmp 4,.tmp 5],
 (Q (O [o 4 (.mv (ci 0)),o 5 (.mv (.const (.bool false)))])
 (Q (O [m 10 0,n 11 1 10,m 6 11])
 (Q (O [m 12 6,o 7 (.mv (ci 0)),m 8 12])
 (Q (Q (K [0,1,6,7,8]) (.block 0 (.loop (Q (Q (Q (O [m 13 7,m 14 8,B 15 .lss 13 14])
 (.cond (t 15)
 .skip
 (.exit 0)))
 (.block 1 (Q (O [m 16 7,m 17 8,B 18 .add 16 17,o 19 (.conv .u64 (t 18)),o 20 (.bin .shr (t 19) (.const (.int .u64 1))),o 21 (.conv .i64 (t 20)),m 9 21])
 (Q (K [0,1,6,7,8,9])
 (Q (O [m 22 0,m 23 9,i 24 1 22 23,l 25 24,m 26 1,o 27 (.call (.func zaL) [(t 25),(t 26)])])
 (.cond (t 27)
 (O [m 28 9,o 29 (.bin .add (t 28) (ci 1)),m 7 29])
 (O [m 30 9,m 8 30]))))))) (K [0,1,6,7,8])))))
 (Q (K [0,1,6,7])
 (Q (O (m 31 7::m 32 7::m 33 6::B 34 .lss 32 33::m 35 34::⟨(some 36),.mv (t 0),some (35,true),false⟩::⟨(some 37),.mv (t 7),some (35,true),false⟩::⟨(some 38),.iaddr 1 (t 36) (t 37),some (35,true),false⟩::⟨(some 39),.load1 (t 38),some (35,true),false⟩::⟨(some 40),.mv (t 1),some (35,true),false⟩::⟨(some 41),.bin .eql (t 39) (t 40),some (35,true),false⟩::⟨(some 42),.mv (t 41),some (35,true),false⟩::⟨(some 43),.mv (t 0),some (42,false),false⟩::⟨(some 44),.mv (t 7),some (42,false),false⟩::⟨(some 45),.iaddr 1 (t 43) (t 44),some (42,false),false⟩::⟨(some 46),.load1 (t 45),some (42,false),false⟩::⟨(some 47),.call (.func zU) [(t 46)],some (42,false),false⟩::⟨(some 48),.mv (t 47),some (42,false),false⟩::⟨(some 49),.mv (t 1),some (48,true),false⟩::⟨(some 50),.call (.func zU) [(t 49)],some (48,true),false⟩::⟨(some 51),.pick (t 48) (t 50) (.const (.bool false)),some (42,false),false⟩::⟨(some 52),.pick (t 42) (.const (.bool true)) (t 51),some (35,true),false⟩::o 53 (.pick (t 35) (t 52) (.const (.bool false)))::m 4 31::m 5 53::[]))
 (Q (K [4,5])
 .ret)))))))⟩
/-- cmp.isNaN[int] -/
def zi:AFn:=⟨1,[.tmp 2],
 (Q (O [o 2 (.mv (.const (.bool false)))])
 (Q (O [m 3 0,m 4 0,B 5 .neq 3 4,m 2 5])
 .ret))⟩
/-- coroner/coronerref04.may -/
def zcs:AFn:=⟨1,[.tmp 2],
 (Q (O [o 2 (.mv (.const (.bool false)))])
 (Q (O [m 3 0,o 4 (.bin .geq (t 3) (ci 0)),m 5 4,⟨(some 6),.mv (t 0),some (5,true),false⟩,⟨(some 7),.bin .leq (t 6) (ci 2147483647),some (5,true),false⟩,o 8 (.pick (t 5) (t 7) (.const (.bool false))),m 2 8])
 (Q (K [2])
 .ret)))⟩
/-- coroner/coronerref04.Text -/
def zc8:AFn:=⟨1,[.tmp 2],
 (Q (O [o 1 (.box (t 0)),o 2 (.mv (.const (.string ⟨#[]⟩)))])
 (Q (O [o 3 (.mv (.const (.string ⟨#[]⟩)))])
 (Q (Q (O [o 4 (.mv (ci 0))])
 (Q (K [1,3,4]) (.block 0 (.loop (Q (Q (Q (O [m 10 4,f 11 0 1,l 12 11,n 13 1 12,B 14 .lss 10 13])
 (.cond (t 14)
 .skip
 (.exit 0)))
 (Q (.block 1 (Q (O [f 17 0 1,l 18 17,m 19 4,i 20 3 18 19,L 21 3 20,o 5 (.alloc [z,(.bool false),(.slice none 0 0)]),s (.store 3 (t 5) (t 21))])
 (Q (K [1,3,4,5])
 (Q (O [f 22 0 5,l 23 22,o 24 (.call (.func zq) [(t 23)]),o 25 (.bin .add (.const (.string ⟨#[116,32]⟩)) (t 24)),m 6 25])
 (Q (Q (O [f 26 1 5,l 27 26])
 (.cond (t 27)
 (O [m 28 6,o 29 (.bin .add (t 28) (.const (.string ⟨#[32,97,10]⟩))),m 6 29])
 (O [m 30 6,o 31 (.bin .add (t 30) (.const (.string ⟨#[32,99,10]⟩))),m 6 31])))
 (Q (Q (O [o 7 (.mv (ci 0))])
 (Q (K [1,3,4,5,6,7]) (.block 2 (.loop (Q (Q (Q (O [m 32 7,f 33 2 5,l 34 33,n 35 1 34,B 36 .lss 32 35])
 (.cond (t 36)
 .skip
 (.exit 2)))
 (Q (.block 3 (Q (O [f 39 2 5,l 40 39,m 41 7,i 42 4 40 41,L 43 4 42,o 8 (.alloc [(.bool false),z,z,(.slice none 0 0)]),s (.store 4 (t 8) (t 43))])
 (Q (K [1,3,4,5,6,7,8])
 (Q (Q (O [f 44 0 8,l 45 44])
 (.cond (t 45)
 (Q (O [m 46 6,o 47 (.bin .add (t 46) (.const (.string ⟨#[114,32]⟩))),f 48 1 8,l 49 48,o 50 (.call (.func zq) [(t 49)]),B 51 .add 47 50,m 6 51])
 (Q (K [1,3,4,5,6,7,8])
 (Q (O [o 9 (.mv (ci 0))])
 (Q (K [1,3,4,5,6,7,8,9]) (.block 4 (.loop (Q (Q (Q (O [m 52 9,f 53 3 8,l 54 53,n 55 1 54,B 56 .lss 52 55])
 (.cond (t 56)
 .skip
 (.exit 4)))
 (Q (.block 5 (O [m 59 6,o 60 (.bin .add (t 59) (.const (.string ⟨#[32]⟩))),f 61 3 8,l 62 61,m 63 9,i 64 1 62 63,l 65 64,o 66 (.call (.func zq) [(t 65)]),B 67 .add 60 66,m 6 67]))
 (Q (K [1,3,4,5,6,7,8,9])
 (O [m 57 9,o 58 (.bin .add (t 57) (ci 1)),m 9 58])))) (K [1,3,4,5,6,7,8,9]))))))))
 (.ops true [m 68 6,o 69 (.bin .add (t 68) (.const (.string ⟨#[97,32]⟩))),f 70 1 8,l 71 70,o 72 (.call (.func zq) [(t 71)]),B 73 .add 69 72,o 74 (.bin .add (t 73) (.const (.string ⟨#[32]⟩))),f 75 2 8,l 76 75,o 77 (.call (.func zq) [(t 76)]),b 78 (.bin .add (t 74) (t 77)),b 6 (.mv (t 78))])))
 (Q (K [1,3,4,5,6,7])
 (O [m 79 6,o 80 (.bin .add (t 79) (.const (.string ⟨#[10]⟩))),m 6 80]))))))
 (Q (K [1,3,4,5,6,7])
 (O [m 37 7,o 38 (.bin .add (t 37) (ci 1)),m 7 38])))) (K [1,3,4,5,6,7]))))))
 (Q (K [1,3,4,6])
 (O [m 81 3,m 82 6,B 83 .add 81 82,m 3 83]))))))))
 (Q (K [1,3,4])
 (O [m 15 4,o 16 (.bin .add (t 15) (ci 1)),m 4 16])))) (K [1,3,4]))))))
 (Q (K [3])
 (Q (O [m 84 3,m 2 84])
 .ret)))))⟩
/-- slices.Compact[[]int,int] -/
def zcT:AFn:=⟨1,[.tmp 2],
 (Q (O [o 2 (.mv (.const (.slice none 0 0)))])
 (Q (Q (O [m 6 0,n 7 1 6,o 8 (.bin .lss (t 7) (ci 2))])
 (.cond (t 8)
 (Q (O [m 9 0,m 2 9])
 .ret)
 .skip))
 (Q (Q (O [o 3 (.mv (ci 1))])
 (Q (K [0,3]) (.block 0 (.loop (Q (Q (Q (O [m 10 3,m 11 0,n 12 1 11,B 13 .lss 10 12])
 (.cond (t 13)
 .skip
 (.exit 0)))
 (Q (.block 1 (Q (.ops true [m 16 0,m 17 3,i 18 1 16 17,l 19 18,m 20 0,m 21 3,o 22 (.bin .sub (t 21) (ci 1)),i 23 1 20 22,l 24 23,b 25 (.bin .eql (t 19) (t 24))])
 (Q (K [0,3,25])
 (.cond (t 25)
 (Q (O [m 26 0,m 27 3,o 28 (.slc 1 (t 26) (some (t 27)) none),m 4 28])
 (Q (Q (O [o 5 (.mv (ci 1))])
 (Q (K [0,3,4,5]) (.block 2 (.loop (Q (Q (Q (O [m 29 5,m 30 4,n 31 1 30,B 32 .lss 29 31])
 (.cond (t 32)
 .skip
 (.exit 2)))
 (Q (.block 3 (Q (.ops true [m 35 4,m 36 5,i 37 1 35 36,l 38 37,m 39 4,m 40 5,o 41 (.bin .sub (t 40) (ci 1)),i 42 1 39 41,l 43 42,b 44 (.bin .neq (t 38) (t 43))])
 (Q (K [0,3,4,5,44])
 (.cond (t 44)
 (Q (O [m 45 0,m 46 3,m 47 4,m 48 5,i 49 1 47 48,l 50 49,i 51 1 45 46,s (.store 1 (t 51) (t 50))])
 (Q (K [0,3,4,5])
 (O [m 52 3,o 53 (.bin .add (t 52) (ci 1)),m 3 53])))
 .skip))))
 (Q (K [0,3,4,5])
 (O [m 33 5,o 34 (.bin .add (t 33) (ci 1)),m 5 34])))) (K [0,3,4,5]))))))
 (Q (K [0,3])
 (Q (O [m 54 0,m 55 3,o 56 (.slc 1 (t 54) (some (t 55)) none),s (.clear [z] (t 56))])
 (Q (O [m 57 0,m 58 3,o 59 (.slc 1 (t 57) none (some (t 58))),m 2 59])
 .ret)))))
 .skip))))
 (Q (K [0,3])
 (O [m 14 3,o 15 (.bin .add (t 14) (ci 1)),m 3 15])))) (K [0,3]))))))
 (Q (K [0])
 (Q (O [m 60 0,m 2 60])
 .ret)))))⟩
/-- coroner/order.Next -/
def zbM:AFn:=⟨2,[.tmp 4],
 (Q (O [o 2 (.box (t 0)),o 4 (.mv (.const (.slice none 0 0)))])
 (Q (.block 0 (Q (O [m 6 1,f 7 1 2,l 8 7,n 9 1 8,B 10 .eql 6 9,m 5 10])
 (.cond (t 5)
 (Q (O [f 11 2 2,l 12 11,o 13 (.call (.func zf) [(t 12)]),m 4 13])
 .ret)
 (Q (O [m 15 1,o 16 (.bin .geq (t 15) (ci 0)),m 17 16,⟨(some 18),.mv (t 1),some (17,true),false⟩,⟨(some 19),.faddr 1 (t 2),some (17,true),false⟩,⟨(some 20),.load1 (t 19),some (17,true),false⟩,⟨(some 21),.len 1 (t 20),some (17,true),false⟩,⟨(some 22),.bin .lss (t 18) (t 21),some (17,true),false⟩,o 23 (.pick (t 17) (t 22) (.const (.bool false))),m 14 23])
 (Q (K [1,2,14])
 (.cond (t 14)
 (Q (O [f 24 1 2,l 25 24,m 26 1,i 27 1 25 26,l 28 27,o 29 (.bslice 1 1 [z] [(0,(1,(t 28)))]),m 4 29])
 (Q (K [4])
 .ret))
 .skip))))))
 (Q (K [])
 (Q (O [o 4 (.mv (.const (.slice none 0 0)))])
 .ret))))⟩
/-- (*coroner/table.Table).Reads -/
def zc1:AFn:=⟨2,[.tmp 4],
 (Q (O [o 4 (.mv (.const .nilFunc))])
 (Q (Q (O [m 5 0,o 6 (.call (.func zP) [(t 5)]),o 7 (.un .not (t 6))])
 (.cond (t 7)
 (Q (O [o 8 (.call (.func zag) [(.const (.slice none 0 0))]),m 4 8])
 .ret)
 .skip))
 (Q (O [m 9 0,o 10 (.nilc (t 9)),f 11 5 10,l 12 11,m 13 1,o 14 (.lookup (.one 1) (.slice none 0 0) false (t 12) (t 13)),o 15 (.call (.func zag) [(t 14)]),m 4 15])
 (Q (K [4])
 .ret))))⟩
/-- coroner/coronerref16.Of -/
def zcb:AFn:=⟨2,[.cellN 4 14],
 (Q (O [o 2 (.box (t 0)),o 4 (.alloc [z,(.slice none 0 0),(.slice none 0 0),(.bool false),z,z,z,(.slice none 0 0),(.slice none 0 0),z,z,z,(.slice none 0 0),(.slice none 0 0)])])
 (Q (O [L 12 1 2,m 13 1,o 14 (.call (.func zam) [(t 12),(t 13)]),m 5 14])
 (Q (O [m 15 1,o 16 (.build [z,(.slice none 0 0),(.slice none 0 0),(.bool false),z,z,z,(.slice none 0 0),(.slice none 0 0),z,z,z,(.slice none 0 0),(.slice none 0 0)] [(0,(1,(t 15)))]),o 6 (.alloc [z,(.slice none 0 0),(.slice none 0 0),(.bool false),z,z,z,(.slice none 0 0),(.slice none 0 0),z,z,z,(.slice none 0 0),(.slice none 0 0)]),s (.store 14 (t 6) (t 16))])
 (Q (Q (O [o 7 (.mv (ci 0))])
 (Q (K [1,2,4,5,6,7]) (.block 0 (.loop (Q (Q (Q (O [m 17 7,m 18 5,n 19 1 18,B 20 .lss 17 19])
 (.cond (t 20)
 .skip
 (.exit 0)))
 (Q (.block 1 (Q (.ops true [L 23 1 2,m 24 5,m 25 7,i 26 5 24 25,L 27 5 26,b 28 (.call (.func zC) [(t 23),(t 27)]),b 8 (.mv (t 28))])
 (Q (K [1,2,4,5,6,7,8])
 (Q (Q (O [m 29 7,o 30 (.bin .add (t 29) (ci 1)),m 9 30])
 (Q (K [1,2,4,5,6,7,8,9]) (.block 2 (.loop (Q (Q (Q (O [m 31 9,m 32 5,n 33 1 32,B 34 .lss 31 33])
 (.cond (t 34)
 .skip
 (.exit 2)))
 (Q (.block 3 (Q (.ops true [m 37 8,L 38 1 2,m 39 5,m 40 9,i 41 5 39 40,L 42 5 41,o 43 (.call (.func zC) [(t 38),(t 42)]),b 44 (.call (.func zbk) [(t 37),(t 43)]),b 45 (.un .not (t 44))])
 (Q (K [1,2,4,5,6,7,8,9,45])
 (.cond (t 45)
 (Q (.ops true [m 46 1,m 47 5,m 48 7,i 49 5 47 48,L 50 5 49,m 51 5,m 52 9,i 53 5 51 52,L 54 5 53,b 55 (.build [z,(.slice none 0 0),(.slice none 0 0),(.bool false),z,z,z,(.slice none 0 0),(.slice none 0 0),z,z,z,(.slice none 0 0),(.slice none 0 0)] [(0,(1,(t 46))),(3,(1,(.const (.bool true)))),(4,(5,(t 50))),(9,(5,(t 54)))]),sb (.store 14 (t 4) (t 55))])
 (Q (K [4])
 .ret))
 .skip))))
 (Q (K [1,2,4,5,6,7,8,9])
 (O [m 35 9,o 36 (.bin .add (t 35) (ci 1)),m 9 36])))) (K [1,2,4,5,6,7,8,9]))))))
 (Q (K [1,2,4,5,6,7,8])
 (Q (O [m 56 8,n 57 1 56,f 58 1 6,l 59 58,n 60 1 59,B 61 .gtr 57 60])
 (.cond (t 61)
 (O [m 62 8,f 63 1 6,s (.store 1 (t 63) (t 62))])
 .skip)))))))
 (Q (K [1,2,4,5,6,7])
 (O [m 21 7,o 22 (.bin .add (t 21) (ci 1)),m 7 22])))) (K [1,2,4,5,6,7]))))))
 (Q (K [1,2,4,6])
 (Q (O [L 64 1 2,m 65 1,o 66 (.call (.func zaB) [(t 64),(t 65)]),m 10 66])
 (Q (Q (O [o 11 (.mv (ci 0))])
 (Q (K [4,6,10,11]) (.block 4 (.loop (Q (Q (Q (O [m 67 11,m 68 10,n 69 1 68,B 70 .lss 67 69])
 (.cond (t 70)
 .skip
 (.exit 4)))
 (Q (.block 5 (Q (.ops true [f 73 1 6,l 74 73,m 75 10,m 76 11,i 77 5 75 76,f 78 3 77,l 79 78,b 80 (.call (.func zY) [(t 74),(t 79)]),b 81 (.un .not (t 80))])
 (Q (K [4,6,10,11,81])
 (.cond (t 81)
 (.ops true [f 82 2 6,l 83 82,m 84 10,m 85 11,i 86 5 84 85,f 87 3 86,l 88 87,o 89 (.bslice 1 1 [z] [(0,(1,(t 88)))]),b 90 (.append 1 8 (t 83) (t 89)),b 91 (.faddr 2 (t 6)),sb (.store 1 (t 91) (t 90))])
 .skip))))
 (Q (K [4,6,10,11])
 (O [m 71 11,o 72 (.bin .add (t 71) (ci 1)),m 11 72])))) (K [4,6,10,11]))))))
 (Q (K [4,6])
 (Q (O [L 92 14 6,s (.store 14 (t 4) (t 92))])
 .ret)))))))))⟩
/-- coroner/coronerref13.Front -/
def zb8:AFn:=⟨1,[.tmp 2],
 (Q (O [o 1 (.box (t 0)),o 2 (.mv (.const (.slice none 0 0)))])
 (Q (O [f 4 3 1,l 5 4,n 6 1 5,f 7 4 1,l 8 7,n 9 1 8,B 10 .sub 6 9,m 3 10])
 (Q (K [1,3])
 (Q (Q (O [m 11 3,o 12 (.bin .leq (t 11) (ci 0))])
 (.cond (t 12)
 (Q (O [o 2 (.mv (.const (.slice none 0 0)))])
 .ret)
 .skip))
 (Q (O [o 13 (.bslice 1 0 [] []),f 14 3 1,l 15 14,m 16 3,o 17 (.slc 1 (t 15) none (some (t 16))),o 18 (.append 1 8 (t 13) (t 17)),m 2 18])
 (Q (K [2])
 .ret))))))⟩
/-- coroner/coronerref12.IDs -/
def zb7:AFn:=⟨1,[.tmp 2],
 (Q (O [o 1 (.box (t 0)),o 2 (.mv (.const (.slice none 0 0)))])
 (Q (O [o 3 (.mv (.const (.slice none 0 0)))])
 (Q (Q (O [o 4 (.mv (ci 0))])
 (Q (K [1,3,4]) (.block 0 (.loop (Q (Q (Q (O [m 5 4,f 6 0 1,l 7 6,n 8 1 7,B 9 .lss 5 8])
 (.cond (t 9)
 .skip
 (.exit 0)))
 (Q (.block 1 (Q (O [f 12 0 1,l 13 12,m 14 4,i 15 3 13 14,f 16 1 15,l 17 16,o 18 (.un .not (t 17))])
 (Q (K [1,3,4,18])
 (.cond (t 18)
 (O [m 19 3,f 20 0 1,l 21 20,m 22 4,i 23 3 21 22,f 24 0 23,l 25 24,o 26 (.bslice 1 1 [z] [(0,(1,(t 25)))]),o 27 (.append 1 8 (t 19) (t 26)),m 3 27])
 .skip))))
 (Q (K [1,3,4])
 (O [m 10 4,o 11 (.bin .add (t 10) (ci 1)),m 4 11])))) (K [1,3,4]))))))
 (Q (K [3])
 (Q (O [m 28 3,o 29 (.call (.func zbh) [(t 28)]),m 2 29])
 .ret)))))⟩
/-- coroner/coronerref05.Of -/
def zdp:AFn:=⟨1,[.tmp 2],
 (Q (O [o 2 (.mv (.const (.slice none 0 0)))])
 (Q (O [o 3 (.mv (.const (.slice none 0 0)))])
 (Q (Q (O [o 4 (.mv (ci 0))])
 (Q (K [0,3,4]) (.block 0 (.loop (Q (Q (Q (O [m 8 4,m 9 0,n 10 1 9,B 11 .leq 8 10])
 (.cond (t 11)
 .skip
 (.exit 0)))
 (Q (.block 1 (Q (O [o 5 (.mv (ci 0)),o 6 (.mv (.const (.bool false)))])
 (Q (Q (O [o 7 (.mv (ci 0))])
 (Q (K [0,3,4,5,6,7]) (.block 2 (.loop (Q (Q (Q (O [m 14 7,m 15 0,n 16 1 15,B 17 .lss 14 16])
 (.cond (t 17)
 .skip
 (.exit 2)))
 (Q (.block 3 (Q (O [m 20 3,m 21 0,m 22 7,i 23 1 21 22,l 24 23,o 25 (.call (.func zY) [(t 20),(t 24)]),o 26 (.un .not (t 25)),m 27 26,⟨(some 28),.mv (t 6),some (27,true),false⟩,⟨(some 29),.un .not (t 28),some (27,true),false⟩,⟨(some 30),.mv (t 29),some (27,true),false⟩,⟨(some 31),.mv (t 0),some (30,false),false⟩,⟨(some 32),.mv (t 7),some (30,false),false⟩,⟨(some 33),.iaddr 1 (t 31) (t 32),some (30,false),false⟩,⟨(some 34),.load1 (t 33),some (30,false),false⟩,⟨(some 35),.mv (t 5),some (30,false),false⟩,⟨(some 36),.bin .lss (t 34) (t 35),some (30,false),false⟩,⟨(some 37),.pick (t 30) (.const (.bool true)) (t 36),some (27,true),false⟩,o 38 (.pick (t 27) (t 37) (.const (.bool false)))])
 (Q (K [0,3,4,5,6,7,38])
 (.cond (t 38)
 (O [m 39 0,m 40 7,i 41 1 39 40,l 42 41,m 5 42,o 6 (.mv (.const (.bool true)))])
 .skip))))
 (Q (K [0,3,4,5,6,7])
 (O [m 18 7,o 19 (.bin .add (t 18) (ci 1)),m 7 19])))) (K [0,3,4,5,6,7]))))))
 (Q (K [0,3,4,5,6])
 (Q (Q (O [m 43 6,o 44 (.un .not (t 43))])
 (.cond (t 44)
 (Q (O [m 45 3,m 2 45])
 .ret)
 .skip))
 (O [m 46 3,m 47 5,o 48 (.bslice 1 1 [z] [(0,(1,(t 47)))]),o 49 (.append 1 8 (t 46) (t 48)),m 3 49]))))))
 (Q (K [0,3,4])
 (O [m 12 4,o 13 (.bin .add (t 12) (ci 1)),m 4 13])))) (K [0,3,4]))))))
 (Q (K [3])
 (Q (O [m 50 3,m 2 50])
 .ret)))))⟩
/-- coroner/coronerref13.Kind -/
def zbZ:AFn:=⟨2,[.tmp 4,.tmp 5],
 (Q (O [o 2 (.box (t 0)),o 3 (.box (t 1)),o 4 (.mv (ci 0)),o 5 (.mv (ci 0))])
 (Q (Q (O [o 6 (.mv (ci 0))])
 (Q (K [2,3,6]) (.block 0 (.loop (Q (Q (Q (O [m 17 6,f 18 3 3,l 19 18,n 20 1 19,B 21 .lss 17 20])
 (.cond (t 21)
 .skip
 (.exit 0)))
 (Q (.block 1 (Q (O [o 7 (.mv (ci 0))])
 (Q (K [2,3,6,7]) (.block 2 (.loop (Q (Q (Q (O [m 24 7,m 25 6,B 26 .lss 24 25])
 (.cond (t 26)
 .skip
 (.exit 2)))
 (Q (.block 3 (Q (.ops true [f 29 3 3,l 30 29,m 31 7,i 32 1 30 31,l 33 32,f 34 3 3,l 35 34,m 36 6,i 37 1 35 36,l 38 37,b 39 (.bin .eql (t 33) (t 38))])
 (Q (K [2,3,6,7,39])
 (.cond (t 39)
 (Q (.ops true [f 40 3 3,l 41 40,m 42 6,i 43 1 41 42,l 44 43,o 4 (.mv (ci 1)),b 5 (.mv (t 44))])
 (Q (K [4,5])
 .ret))
 .skip))))
 (Q (K [2,3,6,7])
 (O [m 27 7,o 28 (.bin .add (t 27) (ci 1)),m 7 28])))) (K [2,3,6,7])))))))
 (Q (K [2,3,6])
 (O [m 22 6,o 23 (.bin .add (t 22) (ci 1)),m 6 23])))) (K [2,3,6]))))))
 (Q (K [2,3])
 (Q (Q (O [o 8 (.mv (ci 0))])
 (Q (K [2,3,8]) (.block 4 (.loop (Q (Q (Q (O [m 45 8,f 46 3 3,l 47 46,n 48 1 47,B 49 .lss 45 48])
 (.cond (t 49)
 .skip
 (.exit 4)))
 (Q (.block 5 (Q (.opsA [] [L 53 1 2,f 54 2 3,l 55 54,f 56 3 3,l 57 56,m 58 8,i 59 1 57 58,l 60 59,o 61 (.call (.func ze) [(t 53),(t 55),(t 60)]),m 52 61,X 62 0 52,X 63 1 52,o 9 (.alloc [z,z,z,z,(.bool false)]),sb (.store 5 (t 9) (t 62)),m 10 63])
 (Q (K [2,3,8,10])
 (Q (O [m 64 10,o 65 (.un .not (t 64))])
 (.cond (t 65)
 (Q (.ops true [f 66 3 3,l 67 66,m 68 8,i 69 1 67 68,l 70 69,o 4 (.mv (ci 2)),b 5 (.mv (t 70))])
 (Q (K [4,5])
 .ret))
 .skip)))))
 (Q (K [2,3,8])
 (O [m 50 8,o 51 (.bin .add (t 50) (ci 1)),m 8 51])))) (K [2,3,8]))))))
 (Q (K [2,3])
 (Q (O [f 71 3 3,l 72 71,n 73 1 72,f 74 4 3,l 75 74,n 76 1 75,B 77 .sub 73 76,m 11 77])
 (Q (K [2,3,11])
 (Q (Q (O [o 12 (.mv (ci 0))])
 (Q (K [2,3,11,12]) (.block 6 (.loop (Q (Q (Q (O [m 78 12,f 79 4 3,l 80 79,n 81 1 80,B 82 .lss 78 81])
 (.cond (t 82)
 .skip
 (.exit 6)))
 (Q (.block 7 (Q (.ops true [m 85 11,m 86 12,b 87 (.bin .add (t 85) (t 86)),b 88 (.bin .lss (t 87) (ci 0)),b 89 (.mv (t 88)),⟨(some 90),.faddr 3 (t 3),some (89,false),false⟩,⟨(some 91),.load1 (t 90),some (89,false),false⟩,⟨(some 92),.mv (t 11),some (89,false),false⟩,⟨(some 93),.mv (t 12),some (89,false),false⟩,⟨(some 94),.bin .add (t 92) (t 93),some (89,false),false⟩,⟨(some 95),.iaddr 1 (t 91) (t 94),some (89,false),false⟩,⟨(some 96),.load1 (t 95),some (89,false),false⟩,⟨(some 97),.faddr 4 (t 3),some (89,false),false⟩,⟨(some 98),.load1 (t 97),some (89,false),false⟩,⟨(some 99),.mv (t 12),some (89,false),false⟩,⟨(some 100),.iaddr 1 (t 98) (t 99),some (89,false),false⟩,⟨(some 101),.load1 (t 100),some (89,false),false⟩,⟨(some 102),.bin .neq (t 96) (t 101),some (89,false),true⟩,b 103 (.pick (t 89) (.const (.bool true)) (t 102))])
 (Q (K [2,3,11,12,103])
 (.cond (t 103)
 (Q (.ops true [f 104 4 3,l 105 104,m 106 12,i 107 1 105 106,l 108 107,o 4 (.mv (ci 3)),b 5 (.mv (t 108))])
 (Q (K [4,5])
 .ret))
 .skip))))
 (Q (K [2,3,11,12])
 (O [m 83 12,o 84 (.bin .add (t 83) (ci 1)),m 12 84])))) (K [2,3,11,12]))))))
 (Q (K [2,3])
 (Q (O [L 109 5 3,o 110 (.call (.func zal) [(t 109)]),m 13 110])
 (Q (Q (O [o 14 (.mv (ci 0))])
 (Q (K [2,3,13,14]) (.block 8 (.loop (Q (Q (Q (O [m 111 14,m 112 13,n 113 1 112,B 114 .lss 111 113])
 (.cond (t 114)
 .skip
 (.exit 8)))
 (Q (.block 9 (Q (.opsA [] [L 118 1 2,f 119 2 3,l 120 119,m 121 13,m 122 14,i 123 1 121 122,l 124 123,o 125 (.call (.func ze) [(t 118),(t 120),(t 124)]),m 117 125,X 126 0 117,X 127 1 117,o 15 (.alloc [z,z,z,z,(.bool false)]),sb (.store 5 (t 15) (t 126)),m 16 127])
 (Q (K [2,3,13,14,15])
 (Q (O [f 128 0 15,l 129 128,f 130 0 3,l 131 130,B 132 .eql 129 131])
 (.cond (t 132)
 (Q (.ops true [m 133 13,m 134 14,i 135 1 133 134,l 136 135,o 4 (.mv (ci 3)),b 5 (.mv (t 136))])
 .ret)
 .skip)))))
 (Q (K [2,3,13,14])
 (O [m 115 14,o 116 (.bin .add (t 115) (ci 1)),m 14 116])))) (K [2,3,13,14]))))))
 (Q (K [])
 (Q (O [o 4 (.mv (ci 0)),o 5 (.mv (ci 0))])
 .ret)))))))))))))⟩
/-- coroner/coronerref15.Fit -/
def zdd:AFn:=⟨2,[.tmp 4],
 (Q (O [o 4 (.mv (.const (.bool false)))])
 (Q (O [m 5 0,m 6 1,o 7 (.call (.func zae) [(t 5),(t 6)]),m 8 7,⟨(some 9),.mv (t 1),some (8,false),false⟩,⟨(some 10),.mv (t 0),some (8,false),false⟩,⟨(some 11),.call (.func zae) [(t 9),(t 10)],some (8,false),false⟩,o 12 (.pick (t 8) (.const (.bool true)) (t 11)),m 4 12])
 (Q (K [4])
 .ret)))⟩
/-- coroner/coronerref04.number -/
def zcj:AFn:=⟨1,[.tmp 2],
 (Q (O [o 2 (.mv (.const (.string ⟨#[]⟩)))])
 (Q (O [m 6 0,o 7 (.call (.func zbc) [(t 6)]),m 5 7,X 8 0 5,X 9 1 5,m 3 8,m 4 9])
 (Q (K [3])
 (Q (O [m 10 3,m 2 10])
 .ret))))⟩
/-- coroner/prefix.apart[int] -/
def zcl:AFn:=⟨2,[.tmp 4,.tmp 5],
 (Q (O [o 4 (.mv (ci 0)),o 5 (.mv (.const (.bool false)))])
 (Q (Q (O [m 7 1,o 8 (.bin .add (t 7) (ci 1)),m 6 8])
 (Q (K [0,1,6]) (.block 0 (.loop (Q (Q (Q (O [m 9 6,m 10 0,n 11 1 10,B 12 .lss 9 11])
 (.cond (t 12)
 .skip
 (.exit 0)))
 (Q (.block 1 (Q (.ops true [m 15 0,m 16 1,i 17 1 15 16,l 18 17,m 19 0,m 20 6,i 21 1 19 20,l 22 21,b 23 (.call (.func zX) [(t 18),(t 22)]),b 24 (.un .not (t 23))])
 (Q (K [0,1,6,24])
 (.cond (t 24)
 (Q (O [m 25 6,m 4 25,o 5 (.mv (.const (.bool true)))])
 .ret)
 .skip))))
 (Q (K [0,1,6])
 (O [m 13 6,o 14 (.bin .add (t 13) (ci 1)),m 6 14])))) (K [0,1,6]))))))
 (Q (K [])
 (Q (O [o 4 (.mv (ci 0)),o 5 (.mv (.const (.bool false)))])
 .ret))))⟩
/-- coroner/reads.unborn -/
def zda:AFn:=⟨2,[.tmp 4,.tmp 5],
 (Q (O [o 3 (.box (t 1)),o 4 (.mv (ci 0)),o 5 (.mv (.const (.bool false)))])
 (Q (Q (O [f 10 3 3,l 11 10,n 12 1 11,o 13 (.mv (ci 0))])
 (Q (K [0,3,11,12,13]) (.block 0 (.loop (Q (Q (O [B 14 .lss 13 12])
 (Q (.cond (t 14)
 .skip
 (.exit 0))
 (Q (.block 1 (Q (O [i 15 1 11 13,l 16 15,m 7 16])
 (Q (O [m 18 0,f 19 2 3,l 20 19,m 21 7,o 22 (.call (.func zA) [(t 18),(t 20),(t 21)]),m 17 22,X 23 0 17,X 24 1 17,o 8 (.alloc [z,z,z,z,(.bool false)]),s (.store 5 (t 8) (t 23)),m 9 24])
 (Q (K [0,3,7,9,11,12,13])
 (Q (O [m 25 9,o 26 (.un .not (t 25))])
 (.cond (t 26)
 (Q (O [m 27 7,m 4 27,o 5 (.mv (.const (.bool true)))])
 .ret)
 .skip))))))
 (Q (K [0,3,11,12,13])
 (O [o 28 (.bin .add (t 13) (ci 1)),m 13 28]))))) (K [0,3,11,12,13]))))))
 (Q (K [])
 (Q (O [o 4 (.mv (ci 0)),o 5 (.mv (.const (.bool false)))])
 .ret))))⟩
/-- coroner/coronerref12.Writer -/
def zdk:AFn:=⟨3,[.cellN 6 5,.tmp 7],
 (Q (O [o 3 (.box (t 0)),o 6 (.alloc [z,z,z,z,(.bool false)]),o 7 (.mv (.const (.bool false)))])
 (Q (Q (O [o 8 (.mv (ci 0))])
 (Q (K [1,2,3,6,8]) (.block 0 (.loop (Q (Q (Q (O [m 11 8,f 12 0 3,l 13 12,n 14 1 13,B 15 .lss 11 14])
 (.cond (t 15)
 .skip
 (.exit 0)))
 (Q (.block 1 (Q (O [f 18 0 3,l 19 18,m 20 8,i 21 3 19 20,L 22 3 21,o 9 (.alloc [z,(.bool false),(.slice none 0 0)]),s (.store 3 (t 9) (t 22))])
 (Q (K [1,2,3,6,8,9])
 (Q (O [o 10 (.mv (ci 0))])
 (Q (K [1,2,3,6,8,9,10]) (.block 2 (.loop (Q (Q (Q (O [m 23 10,f 24 2 9,l 25 24,n 26 1 25,B 27 .lss 23 26])
 (.cond (t 27)
 .skip
 (.exit 2)))
 (Q (.block 3 (Q (O (f 30 2 9::l 31 30::m 32 10::i 33 4 31 32::f 34 0 33::l 35 34::o 36 (.un .not (t 35))::m 37 36::⟨(some 38),.faddr 2 (t 9),some (37,true),false⟩::⟨(some 39),.load1 (t 38),some (37,true),false⟩::⟨(some 40),.mv (t 10),some (37,true),false⟩::⟨(some 41),.iaddr 4 (t 39) (t 40),some (37,true),false⟩::⟨(some 42),.faddr 1 (t 41),some (37,true),false⟩::⟨(some 43),.load1 (t 42),some (37,true),false⟩::⟨(some 44),.mv (t 1),some (37,true),false⟩::⟨(some 45),.bin .eql (t 43) (t 44),some (37,true),false⟩::o 46 (.pick (t 37) (t 45) (.const (.bool false)))::m 47 46::⟨(some 48),.faddr 2 (t 9),some (47,true),false⟩::⟨(some 49),.load1 (t 48),some (47,true),false⟩::⟨(some 50),.mv (t 10),some (47,true),false⟩::⟨(some 51),.iaddr 4 (t 49) (t 50),some (47,true),false⟩::⟨(some 52),.faddr 2 (t 51),some (47,true),false⟩::⟨(some 53),.load1 (t 52),some (47,true),false⟩::⟨(some 54),.mv (t 2),some (47,true),false⟩::⟨(some 55),.bin .eql (t 53) (t 54),some (47,true),false⟩::o 56 (.pick (t 47) (t 55) (.const (.bool false)))::[]))
 (Q (K [1,2,3,6,8,9,10,56])
 (.cond (t 56)
 (Q (O [f 57 0 9,l 58 57,m 59 10,m 60 1,m 61 2,f 62 1 9,l 63 62,o 64 (.build [z,z,z,z,(.bool false)] [(0,(1,(t 58))),(1,(1,(t 59))),(2,(1,(t 60))),(3,(1,(t 61))),(4,(1,(t 63)))]),s (.store 5 (t 6) (t 64)),o 7 (.mv (.const (.bool true)))])
 (Q (K [6,7])
 .ret))
 .skip))))
 (Q (K [1,2,3,6,8,9,10])
 (O [m 28 10,o 29 (.bin .add (t 28) (ci 1)),m 10 29])))) (K [1,2,3,6,8,9,10])))))))))
 (Q (K [1,2,3,6,8])
 (O [m 16 8,o 17 (.bin .add (t 16) (ci 1)),m 8 17])))) (K [1,2,3,6,8]))))))
 (Q (K [6])
 (Q (O [o 65 (.build [z,z,z,z,(.bool false)] []),s (.store 5 (t 6) (t 65)),o 7 (.mv (.const (.bool false)))])
 .ret))))⟩
/-- coroner/prefix.Common[int] -/
def zcd:AFn:=⟨2,[.tmp 4],
 (Q (O [o 4 (.mv (ci 0))])
 (Q (O [o 5 (.mv (ci 0))])
 (Q (Q (K [0,1,5]) (.block 0 (.loop (Q (Q (Q (.ops true [m 6 5,m 7 0,n 8 1 7,b 9 (.bin .lss (t 6) (t 8)),b 10 (.mv (t 9)),⟨(some 11),.mv (t 5),some (10,true),false⟩,⟨(some 12),.mv (t 1),some (10,true),false⟩,⟨(some 13),.len 1 (t 12),some (10,true),false⟩,⟨(some 14),.bin .lss (t 11) (t 13),some (10,true),true⟩,b 15 (.pick (t 10) (t 14) (.const (.bool false))),b 16 (.mv (t 15)),⟨(some 17),.mv (t 0),some (16,true),false⟩,⟨(some 18),.mv (t 5),some (16,true),false⟩,⟨(some 19),.iaddr 1 (t 17) (t 18),some (16,true),false⟩,⟨(some 20),.load1 (t 19),some (16,true),false⟩,⟨(some 21),.mv (t 1),some (16,true),false⟩,⟨(some 22),.mv (t 5),some (16,true),false⟩,⟨(some 23),.iaddr 1 (t 21) (t 22),some (16,true),false⟩,⟨(some 24),.load1 (t 23),some (16,true),false⟩,⟨(some 25),.bin .eql (t 20) (t 24),some (16,true),true⟩,b 26 (.pick (t 16) (t 25) (.const (.bool false)))])
 (Q (K [0,1,5,26])
 (.cond (t 26)
 .skip
 (.exit 0))))
 (Q (K [0,1,5])
 (.block 1 (O [m 27 5,o 28 (.bin .add (t 27) (ci 1)),m 5 28])))) (K [0,1,5])))))
 (Q (K [5])
 (Q (O [m 29 5,m 4 29])
 .ret)))))⟩
/-- coroner/table.goes[coroner/table.Write]$1 -/
def zdf:AFn:=⟨2,[],
 (Q (O [l 5 1,n 6 1 5,o 7 (.mv (ci 0))])
 (Q (K [0,5,6,7]) (.block 0 (.loop (Q (Q (O [B 8 .lss 7 6])
 (Q (.cond (t 8)
 .skip
 (.exit 0))
 (Q (.block 1 (Q (O [i 9 5 5 7,L 10 5 9,o 4 (.alloc [z,z,z,z,(.bool false)]),s (.store 5 (t 4) (t 10))])
 (Q (O [m 11 0,L 12 5 4,o 13 (.call (t 11) [(t 12)]),o 14 (.un .not (t 13))])
 (.cond (t 14)
 .ret
 .skip))))
 (Q (K [0,5,6,7])
 (O [o 15 (.bin .add (t 7) (ci 1)),m 7 15]))))) (K [0,5,6,7]))))))⟩
/-- (coroner/sorted.Set[int]).place -/
def zci:AFn:=⟨2,[.tmp 4,.tmp 5],
 (Q (O [o 2 (.box (t 0)),o 4 (.mv (ci 0)),o 5 (.mv (.const (.bool false)))])
 (Q (O [f 6 0 2,l 7 6,m 8 1,o 9 (.call (.func zbp) [(t 7),(t 8)]),X 10 0 9,X 11 1 9,m 4 10,m 5 11])
 (Q (K [4,5])
 .ret)))⟩
/-- coroner/digits.text -/
def zcw:AFn:=⟨1,[.cellN 2 10,.tmp 3],
 (Q (O [o 2 (.alloc [(.int .u8 0),(.int .u8 0),(.int .u8 0),(.int .u8 0),(.int .u8 0),(.int .u8 0),(.int .u8 0),(.int .u8 0),(.int .u8 0),(.int .u8 0)]),o 3 (.mv (ci 0))])
 (Q (O [o 4 (.alloc [(.int .u8 0),(.int .u8 0),(.int .u8 0),(.int .u8 0),(.int .u8 0),(.int .u8 0),(.int .u8 0),(.int .u8 0),(.int .u8 0),(.int .u8 0)])])
 (Q (O [o 5 (.mv (ci 0))])
 (Q (Q (K [0,2,4,5]) (.block 0 (.loop (Q (Q (Q (O [m 6 5,o 7 (.bin .eql (t 6) (ci 0)),m 8 7,⟨(some 9),.mv (t 0),some (8,false),false⟩,⟨(some 10),.bin .gtr (t 9) (ci 0),some (8,false),false⟩,o 11 (.pick (t 8) (.const (.bool true)) (t 10))])
 (.cond (t 11)
 .skip
 (.exit 0)))
 (.block 1 (Q (O [m 12 5,o 13 (.bin .add (t 12) (ci 1)),m 5 13])
 (Q (O [m 14 5,o 15 (.bin .sub (ci 10) (t 14)),m 16 0,o 17 (.bin .rem (t 16) (ci 10)),o 18 (.bin .add (ci 48) (t 17)),o 19 (.conv .u8 (t 18)),o 20 (.iaddrA 10 1 (t 4) (t 15)),s (.store 1 (t 20) (t 19))])
 (Q (K [0,2,4,5])
 (O [m 21 0,o 22 (.bin .quo (t 21) (ci 10)),m 0 22])))))) (K [0,2,4,5])))))
 (Q (K [2,4,5])
 (Q (O [L 23 10 4,m 24 5,s (.store 10 (t 2) (t 23)),m 3 24])
 .ret))))))⟩
/-- coroner/edges.Compare -/
def zO:AFn:=⟨2,[.tmp 4],
 (Q (O [o 2 (.box (t 0)),o 3 (.box (t 1)),o 4 (.mv (ci 0))])
 (Q (.ops true (f 5 0 2::l 6 5::f 7 0 3::l 8 7::o 9 (.call (.func zb) [(t 6),(t 8)])::f 10 1 2::l 11 10::f 12 1 3::l 13 12::o 14 (.call (.func zb) [(t 11),(t 13)])::f 15 2 2::l 16 15::f 17 2 3::l 18 17::o 19 (.call (.func zb) [(t 16),(t 18)])::f 20 3 2::l 21 20::f 22 3 3::l 23 22::o 24 (.call (.func zb) [(t 21),(t 23)])::f 25 4 2::l 26 25::f 27 4 3::l 28 27::o 29 (.call (.func zb) [(t 26),(t 28)])::f 30 5 2::l 31 30::f 32 5 3::l 33 32::b 34 (.call (.func zb) [(t 31),(t 33)])::b 35 (.bslice 1 6 [z,z,z,z,z,z] [(0,(1,(t 9))),(1,(1,(t 14))),(2,(1,(t 19))),(3,(1,(t 24))),(4,(1,(t 29))),(5,(1,(t 34)))])::b 36 (.call (.func zl) [(t 35)])::b 4 (.mv (t 36))::[]))
 (Q (K [4])
 .ret)))⟩
/-- coroner/coronerref17.Sort -/
def zcp:AFn:=⟨1,[.tmp 2],
 (Q (O [o 2 (.mv (.const (.slice none 0 0)))])
 (Q (O [o 3 (.mv (.const (.slice none 0 0)))])
 (Q (Q (O [o 4 (.mv (ci 0))])
 (Q (K [0,3,4]) (.block 0 (.loop (Q (Q (Q (O [m 8 4,m 9 0,n 10 1 9,B 11 .leq 8 10])
 (.cond (t 11)
 .skip
 (.exit 0)))
 (Q (.block 1 (Q (O [o 5 (.alloc [z,z,z,z,z,z])])
 (Q (O [o 6 (.mv (.const (.bool false)))])
 (Q (Q (O [o 7 (.mv (ci 0))])
 (Q (K [0,3,4,5,6,7]) (.block 2 (.loop (Q (Q (Q (O [m 14 7,m 15 0,n 16 1 15,B 17 .lss 14 16])
 (.cond (t 17)
 .skip
 (.exit 2)))
 (Q (.block 3 (Q (Q (.ops true [b 20 (.mv (t 3)),b 21 (.len 1 (t 20)),b 22 (.bin .gtr (t 21) (ci 0)),b 23 (.mv (t 22)),⟨(some 24),.mv (t 0),some (23,true),false⟩,⟨(some 25),.mv (t 7),some (23,true),false⟩,⟨(some 26),.iaddr 6 (t 24) (t 25),some (23,true),false⟩,⟨(some 27),.loadN 6 (t 26),some (23,true),false⟩,⟨(some 28),.mv (t 3),some (23,true),false⟩,⟨(some 29),.mv (t 3),some (23,true),false⟩,⟨(some 30),.len 1 (t 29),some (23,true),false⟩,⟨(some 31),.bin .sub (t 30) (ci 1),some (23,true),false⟩,⟨(some 32),.iaddr 6 (t 28) (t 31),some (23,true),false⟩,⟨(some 33),.loadN 6 (t 32),some (23,true),false⟩,⟨(some 34),.call (.func z8) [(t 27),(t 33)],some (23,true),true⟩,⟨(some 35),.bin .leq (t 34) (ci 0),some (23,true),true⟩,b 36 (.pick (t 23) (t 35) (.const (.bool false)))])
 (Q (K [0,3,4,5,6,7,36])
 (.cond (t 36)
 (.exit 3)
 .skip)))
 (Q (K [0,3,4,5,6,7])
 (Q (.ops true [b 37 (.mv (t 6)),b 38 (.un .not (t 37)),b 39 (.mv (t 38)),⟨(some 40),.mv (t 0),some (39,false),false⟩,⟨(some 41),.mv (t 7),some (39,false),false⟩,⟨(some 42),.iaddr 6 (t 40) (t 41),some (39,false),false⟩,⟨(some 43),.loadN 6 (t 42),some (39,false),false⟩,⟨(some 44),.loadN 6 (t 5),some (39,false),false⟩,⟨(some 45),.call (.func z8) [(t 43),(t 44)],some (39,false),true⟩,⟨(some 46),.bin .lss (t 45) (ci 0),some (39,false),true⟩,b 47 (.pick (t 39) (.const (.bool true)) (t 46))])
 (Q (K [0,3,4,5,6,7,47])
 (.cond (t 47)
 (O [m 48 0,m 49 7,i 50 6 48 49,L 51 6 50,s (.store 6 (t 5) (t 51)),o 6 (.mv (.const (.bool true)))])
 .skip))))))
 (Q (K [0,3,4,5,6,7])
 (O [m 18 7,o 19 (.bin .add (t 18) (ci 1)),m 7 19])))) (K [0,3,4,5,6,7]))))))
 (Q (K [0,3,4,5,6])
 (Q (Q (O [m 52 6,o 53 (.un .not (t 52))])
 (.cond (t 53)
 (Q (O [m 54 3,m 2 54])
 .ret)
 .skip))
 (O [m 55 3,L 56 6 5,o 57 (.bslice 6 1 [z,z,z,z,z,z] [(0,(6,(t 56)))]),o 58 (.append 6 48 (t 55) (t 57)),m 3 58])))))))
 (Q (K [0,3,4])
 (O [m 12 4,o 13 (.bin .add (t 12) (ci 1)),m 4 13])))) (K [0,3,4]))))))
 (Q (K [3])
 (Q (O [m 59 3,m 2 59])
 .ret)))))⟩
/-- coroner/coronerref17.All -/
def zbK:AFn:=⟨2,[.tmp 4],
 (Q (O [o 2 (.box (t 0)),o 4 (.mv (.const (.slice none 0 0)))])
 (Q (O [o 5 (.mv (.const (.slice none 0 0)))])
 (Q (Q (O [o 6 (.mv (ci 0))])
 (Q (K [1,2,5,6]) (.block 0 (.loop (Q (Q (Q (O [m 9 6,m 10 1,n 11 1 10,B 12 .lss 9 11])
 (.cond (t 12)
 .skip
 (.exit 0)))
 (Q (.block 1 (Q (.ops true [L 15 1 2,m 16 1,m 17 6,i 18 1 16 17,l 19 18,b 20 (.call (.func zbo) [(t 15),(t 19)]),b 7 (.mv (t 20))])
 (Q (K [1,2,5,6,7])
 (Q (O [o 8 (.mv (ci 0))])
 (Q (K [1,2,5,6,7,8]) (.block 2 (.loop (Q (Q (Q (O [m 21 8,m 22 7,n 23 1 22,B 24 .lss 21 23])
 (.cond (t 24)
 .skip
 (.exit 2)))
 (Q (.block 3 (Q (.ops true [m 27 7,m 28 8,i 29 6 27 28,f 30 0 29,l 31 30,m 32 7,m 33 8,i 34 6 32 33,f 35 1 34,l 36 35,b 37 (.bin .neq (t 31) (t 36))])
 (Q (K [1,2,5,6,7,8,37])
 (.cond (t 37)
 (O [m 38 5,m 39 7,m 40 8,i 41 6 39 40,L 42 6 41,o 43 (.bslice 6 1 [z,z,z,z,z,z] [(0,(6,(t 42)))]),o 44 (.append 6 48 (t 38) (t 43)),m 5 44])
 .skip))))
 (Q (K [1,2,5,6,7,8])
 (O [m 25 8,o 26 (.bin .add (t 25) (ci 1)),m 8 26])))) (K [1,2,5,6,7,8])))))))))
 (Q (K [1,2,5,6])
 (O [m 13 6,o 14 (.bin .add (t 13) (ci 1)),m 6 14])))) (K [1,2,5,6]))))))
 (Q (K [5])
 (Q (O [m 45 5,o 46 (.call (.func zbD) [(t 45)]),m 4 46])
 .ret)))))⟩
/-- slices.Clone[[]coroner/api.Edge,coroner/api.Edge] -/
def zbW:AFn:=⟨1,[.tmp 2],
 (Q (O [o 2 (.mv (.const (.slice none 0 0)))])
 (Q (Q (O [m 3 0,o 4 (.eqv 2 false (t 3) (.const (.slice none 0 0)))])
 (.cond (t 4)
 (Q (O [o 2 (.mv (.const (.slice none 0 0)))])
 .ret)
 .skip))
 (Q (O [o 5 (.bslice 6 0 [] []),m 6 0,o 7 (.append 6 48 (t 5) (t 6)),m 2 7])
 .ret)))⟩
/-- coroner/coronerref04.Check -/
def zcu:AFn:=⟨1,[.tmp 2],
 (Q (O [o 1 (.box (t 0)),o 2 (.mv (ci 0))])
 (Q (Q (O [f 7 0 1,l 8 7,n 9 1 8,o 10 (.bin .gtr (t 9) (ci 1024)),m 11 10,⟨(some 12),.loadN 1 (t 1),some (11,false),false⟩,⟨(some 13),.call (.func zbB) [(t 12)],some (11,false),false⟩,⟨(some 14),.bin .gtr (t 13) (ci 4096),some (11,false),false⟩,o 15 (.pick (t 11) (.const (.bool true)) (t 14))])
 (Q (K [1,15])
 (.cond (t 15)
 (Q (O [o 2 (.mv (ci 3))])
 .ret)
 .skip)))
 (Q (K [1])
 (Q (Q (O [o 3 (.mv (ci 0))])
 (Q (K [1,3]) (.block 0 (.loop (Q (Q (Q (O [m 16 3,f 17 0 1,l 18 17,n 19 1 18,B 20 .lss 16 19])
 (.cond (t 20)
 .skip
 (.exit 0)))
 (Q (.block 1 (Q (O [f 23 0 1,l 24 23,m 25 3,i 26 3 24 25,L 27 3 26,o 4 (.alloc [z,(.bool false),(.slice none 0 0)]),s (.store 3 (t 4) (t 27))])
 (Q (K [1,3,4])
 (Q (Q (O [f 28 0 4,l 29 28,o 30 (.call (.func zB) [(t 29)]),o 31 (.un .not (t 30))])
 (.cond (t 31)
 (Q (O [o 2 (.mv (ci 2))])
 .ret)
 .skip))
 (Q (Q (O [o 5 (.mv (ci 0))])
 (Q (K [1,3,4,5]) (.block 2 (.loop (Q (Q (Q (O [m 32 5,m 33 3,B 34 .lss 32 33])
 (.cond (t 34)
 .skip
 (.exit 2)))
 (Q (.block 3 (Q (.ops true [f 37 0 1,l 38 37,m 39 5,i 40 3 38 39,f 41 0 40,l 42 41,f 43 0 4,l 44 43,b 45 (.bin .eql (t 42) (t 44))])
 (Q (K [1,3,4,5,45])
 (.cond (t 45)
 (Q (O [o 2 (.mv (ci 5))])
 .ret)
 .skip))))
 (Q (K [1,3,4,5])
 (O [m 35 5,o 36 (.bin .add (t 35) (ci 1)),m 5 36])))) (K [1,3,4,5]))))))
 (Q (K [1,3,4])
 (Q (O [o 6 (.mv (ci 0))])
 (Q (K [1,3,4,6]) (.block 4 (.loop (Q (Q (Q (O [m 46 6,f 47 2 4,l 48 47,n 49 1 48,B 50 .lss 46 49])
 (.cond (t 50)
 .skip
 (.exit 4)))
 (Q (.block 5 (Q (Q (O [f 53 2 4,l 54 53,m 55 6,i 56 4 54 55,L 57 4 56,o 58 (.call (.func zaV) [(t 57)]),o 59 (.un .not (t 58))])
 (Q (K [1,3,4,6,59])
 (.cond (t 59)
 (Q (O [o 2 (.mv (ci 2))])
 .ret)
 .skip)))
 (Q (K [1,3,4,6])
 (Q (.ops true (f 60 2 4::l 61 60::m 62 6::b 63 (.iaddr 4 (t 61) (t 62))::b 64 (.faddr 0 (t 63))::b 65 (.load1 (t 64))::b 66 (.un .not (t 65))::b 67 (.mv (t 66))::⟨(some 68),.loadN 1 (t 1),some (67,true),false⟩::⟨(some 69),.mv (t 3),some (67,true),false⟩::⟨(some 70),.mv (t 6),some (67,true),false⟩::⟨(some 71),.call (.func zaX) [(t 68),(t 69),(t 70)],some (67,true),false⟩::⟨(some 72),.faddr 2 (t 4),some (67,true),false⟩::⟨(some 73),.load1 (t 72),some (67,true),false⟩::⟨(some 74),.mv (t 6),some (67,true),false⟩::⟨(some 75),.iaddr 4 (t 73) (t 74),some (67,true),false⟩::⟨(some 76),.faddr 1 (t 75),some (67,true),false⟩::⟨(some 77),.load1 (t 76),some (67,true),false⟩::⟨(some 78),.faddr 2 (t 4),some (67,true),false⟩::⟨(some 79),.load1 (t 78),some (67,true),false⟩::⟨(some 80),.mv (t 6),some (67,true),false⟩::⟨(some 81),.iaddr 4 (t 79) (t 80),some (67,true),false⟩::⟨(some 82),.faddr 2 (t 81),some (67,true),false⟩::⟨(some 83),.load1 (t 82),some (67,true),false⟩::⟨(some 84),.call (.func zay) [(t 71),(t 77),(t 83)],some (67,true),true⟩::b 85 (.pick (t 67) (t 84) (.const (.bool false)))::[]))
 (Q (K [1,3,4,6,85])
 (.cond (t 85)
 (Q (O [o 2 (.mv (ci 6))])
 .ret)
 .skip))))))
 (Q (K [1,3,4,6])
 (O [m 51 6,o 52 (.bin .add (t 51) (ci 1)),m 6 52])))) (K [1,3,4,6]))))))))))))
 (Q (K [1,3])
 (O [m 21 3,o 22 (.bin .add (t 21) (ci 1)),m 3 22])))) (K [1,3]))))))
 (Q (K [1])
 (Q (Q (O [L 86 1 1,o 87 (.call (.func zbx) [(t 86)]),n 88 0 87,o 89 (.bin .gtr (t 88) (ci 262144))])
 (.cond (t 89)
 (Q (O [o 2 (.mv (ci 3))])
 .ret)
 .skip))
 (Q (O [o 2 (.mv (ci 0))])
 .ret)))))))⟩
/-- (coroner/sorted.Set[int]).List -/
def zbV:AFn:=⟨1,[.tmp 2],
 (Q (O [o 1 (.box (t 0)),o 2 (.mv (.const (.slice none 0 0)))])
 (Q (O [f 3 0 1,l 4 3,o 5 (.call (.func zf) [(t 4)]),m 2 5])
 .ret))⟩
/-- (*coroner/edges.maker).read -/
def zdj:AFn:=⟨2,[],
 (Q (O [o 3 (.box (t 1))])
 (Q (.ops true [m 9 0,o 10 (.nilc (t 9)),f 11 0 10,l 12 11,L 13 5 3,b 14 (.call (.func zM) [(t 12),(t 13)]),b 4 (.mv (t 14))])
 (Q (K [0,3,4])
 (Q (.ops true [m 15 0,o 16 (.nilc (t 15)),f 17 0 16,l 18 17,f 19 2 3,l 20 19,L 21 5 3,o 22 (.call (.func zaa) [(t 21)]),o 23 (.build [z,z,z,(.slice none 0 0),(.slice none 0 0)] [(2,(1,(t 20))),(3,(1,(t 22)))]),b 24 (.call (.func zM) [(t 18),(t 23)]),b 5 (.mv (t 24))])
 (Q (K [0,3,4,5])
 (Q (Q (O [m 25 5,o 26 (.call (.func zR) [(t 25)]),m 6 26])
 (Q (O [m 27 6,o 28 (.bin .neq (t 27) (ci (-1)))])
 (.cond (t 28)
 (.ops true [m 29 0,m 30 0,m 31 6,o 32 (.call (.func zj) [(t 30),(t 31)]),f 33 0 3,l 34 33,m 35 6,b 36 (.call (.func zG) [(t 29),(t 32),(t 34),(ci 2),(t 35),(ci (-1))])])
 .skip)))
 (Q (K [0,3,4])
 (Q (O [m 37 0,o 38 (.nilc (t 37)),f 39 1 38,L 40 14 39,m 41 4,n 42 1 41,o 43 (.call (.func zaq) [(t 40),(t 42)]),n 44 1 43,o 45 (.mv (ci 0))])
 (Q (K [0,3,4,43,44,45])
 (Q (K [0,3,4,43,44,45]) (.block 0 (.loop (Q (Q (O [B 46 .lss 45 44])
 (Q (.cond (t 46)
 .skip
 (.exit 0))
 (Q (.block 1 (Q (O [i 47 1 43 45,l 48 47,m 8 48])
 (.ops true [m 49 0,f 50 0 3,l 51 50,m 52 0,m 53 8,o 54 (.call (.func zj) [(t 52),(t 53)]),m 55 4,o 56 (.call (.func zR) [(t 55)]),m 57 8,b 58 (.call (.func zG) [(t 49),(t 51),(t 54),(ci 4),(t 56),(t 57)])])))
 (Q (K [0,3,4,43,44,45])
 (O [o 59 (.bin .add (t 45) (ci 1)),m 45 59]))))) (K [0,3,4,43,44,45]))))))))))))))⟩
/-- coroner/coronerref12.Reads -/
def zbG:AFn:=⟨2,[.tmp 4],
 (Q (O [o 2 (.box (t 0)),o 4 (.mv (.const (.slice none 0 0)))])
 (Q (O [o 5 (.mv (.const (.slice none 0 0)))])
 (Q (O [L 10 1 2,o 11 (.call (.func zas) [(t 10)]),m 6 11])
 (Q (Q (O [o 7 (.mv (ci 0))])
 (Q (K [1,2,5,6,7]) (.block 0 (.loop (Q (Q (Q (O [m 12 7,m 13 6,n 14 1 13,B 15 .lss 12 14])
 (.cond (t 15)
 .skip
 (.exit 0)))
 (Q (.block 1 (Q (.ops true [L 18 1 2,m 19 6,m 20 7,i 21 1 19 20,l 22 21,o 23 (.call (.func zQ) [(t 18),(t 22)]),o 8 (.alloc [z,(.bool false),(.slice none 0 0)]),sb (.store 3 (t 8) (t 23))])
 (Q (K [1,2,5,6,7,8])
 (Q (O [o 9 (.mv (ci 0))])
 (Q (K [1,2,5,6,7,8,9]) (.block 2 (.loop (Q (Q (Q (O [m 24 9,f 25 2 8,l 26 25,n 27 1 26,B 28 .lss 24 27])
 (.cond (t 28)
 .skip
 (.exit 2)))
 (Q (.block 3 (Q (O [f 31 2 8,l 32 31,m 33 9,i 34 4 32 33,f 35 0 34,l 36 35,m 37 36,⟨(some 38),.faddr 2 (t 8),some (37,true),false⟩,⟨(some 39),.load1 (t 38),some (37,true),false⟩,⟨(some 40),.mv (t 9),some (37,true),false⟩,⟨(some 41),.iaddr 4 (t 39) (t 40),some (37,true),false⟩,⟨(some 42),.faddr 1 (t 41),some (37,true),false⟩,⟨(some 43),.load1 (t 42),some (37,true),false⟩,⟨(some 44),.mv (t 1),some (37,true),false⟩,⟨(some 45),.bin .eql (t 43) (t 44),some (37,true),false⟩,o 46 (.pick (t 37) (t 45) (.const (.bool false)))])
 (Q (K [1,2,5,6,7,8,9,46])
 (.cond (t 46)
 (.ops true [m 47 5,f 48 0 8,l 49 48,m 50 9,m 51 1,f 52 2 8,l 53 52,m 54 9,i 55 4 53 54,f 56 3 55,l 57 56,L 58 3 8,m 59 1,m 60 9,o 61 (.call (.func zbz) [(t 58),(t 59),(t 60)]),o 62 (.build [z,z,z,(.slice none 0 0),(.slice none 0 0)] [(0,(1,(t 49))),(1,(1,(t 50))),(2,(1,(t 51))),(3,(1,(t 57))),(4,(1,(t 61)))]),o 63 (.bslice 5 1 [z,z,z,(.slice none 0 0),(.slice none 0 0)] [(0,(5,(t 62)))]),b 64 (.append 5 72 (t 47) (t 63)),b 5 (.mv (t 64))])
 .skip))))
 (Q (K [1,2,5,6,7,8,9])
 (O [m 29 9,o 30 (.bin .add (t 29) (ci 1)),m 9 30])))) (K [1,2,5,6,7,8,9])))))))))
 (Q (K [1,2,5,6,7])
 (O [m 16 7,o 17 (.bin .add (t 16) (ci 1)),m 7 17])))) (K [1,2,5,6,7]))))))
 (Q (K [5])
 (Q (O [m 65 5,m 4 65])
 .ret))))))⟩
/-- coroner/coronerref04.mayOp -/
def zcm:AFn:=⟨1,[.tmp 2],
 (Q (O [o 1 (.box (t 0)),o 2 (.mv (.const (.bool false)))])
 (Q (Q (O [f 4 1 1,l 5 4,o 6 (.call (.func zB) [(t 5)]),o 7 (.un .not (t 6))])
 (.cond (t 7)
 (Q (O [o 2 (.mv (.const (.bool false)))])
 .ret)
 .skip))
 (Q (Q (O [f 8 0 1,l 9 8,o 10 (.un .not (t 9))])
 (.cond (t 10)
 (Q (O [f 11 2 1,l 12 11,o 13 (.call (.func zB) [(t 12)]),m 14 13,⟨(some 15),.faddr 3 (t 1),some (14,true),false⟩,⟨(some 16),.load1 (t 15),some (14,true),false⟩,⟨(some 17),.len 1 (t 16),some (14,true),false⟩,⟨(some 18),.bin .eql (t 17) (ci 0),some (14,true),false⟩,o 19 (.pick (t 14) (t 18) (.const (.bool false))),m 2 19])
 (Q (K [2])
 .ret))
 .skip))
 (Q (K [1])
 (Q (Q (O [o 3 (.mv (ci 0))])
 (Q (K [1,3]) (.block 0 (.loop (Q (Q (Q (O [m 20 3,f 21 3 1,l 22 21,n 23 1 22,B 24 .lss 20 23])
 (.cond (t 24)
 .skip
 (.exit 0)))
 (Q (.block 1 (Q (O [f 27 3 1,l 28 27,m 29 3,i 30 1 28 29,l 31 30,o 32 (.call (.func zB) [(t 31)]),o 33 (.un .not (t 32))])
 (Q (K [1,3,33])
 (.cond (t 33)
 (Q (O [o 2 (.mv (.const (.bool false)))])
 .ret)
 .skip))))
 (Q (K [1,3])
 (O [m 25 3,o 26 (.bin .add (t 25) (ci 1)),m 3 26])))) (K [1,3]))))))
 (Q (K [1])
 (Q (O [f 34 2 1,l 35 34,o 36 (.bin .eql (t 35) (ci 0)),m 2 36])
 .ret)))))))⟩
/-- coroner/history.Ops -/
def zck:AFn:=⟨1,[.tmp 2],
 (Q (O [o 1 (.box (t 0)),o 2 (.mv (ci 0))])
 (Q (O [o 3 (.mv (ci 0))])
 (Q (Q (O [f 6 0 1,l 7 6,n 8 1 7,o 9 (.mv (ci 0))])
 (Q (K [3,7,8,9]) (.block 0 (.loop (Q (Q (O [B 10 .lss 9 8])
 (Q (.cond (t 10)
 .skip
 (.exit 0))
 (Q (.block 1 (Q (O [i 11 3 7 9,L 12 3 11,o 5 (.alloc [z,(.bool false),(.slice none 0 0)]),s (.store 3 (t 5) (t 12))])
 (O [m 13 3,f 14 2 5,l 15 14,n 16 1 15,B 17 .add 13 16,m 3 17])))
 (Q (K [3,7,8,9])
 (O [o 18 (.bin .add (t 9) (ci 1)),m 9 18]))))) (K [3,7,8,9]))))))
 (Q (K [3])
 (Q (O [m 19 3,m 2 19])
 .ret)))))⟩
/-- coroner/table.steps$1 -/
def zbR:AFn:=⟨2,[],
 (Q (O [l 6 1,n 7 1 6,o 8 (.mv (ci 0))])
 (Q (K [0,6,7,8]) (.block 0 (.loop (Q (Q (O [B 9 .lss 8 7])
 (Q (.cond (t 9)
 .skip
 (.exit 0))
 (Q (.block 1 (Q (O [i 10 3 6 8,L 11 3 10,o 4 (.alloc [z,(.bool false),(.slice none 0 0)]),s (.store 3 (t 4) (t 11))])
 (Q (O [f 12 2 4,l 13 12,n 14 1 13,o 15 (.mv (ci 0))])
 (Q (K [0,4,6,7,8,14,15]) (.block 2 (.loop (Q (Q (O [B 16 .lss 15 14])
 (Q (.cond (t 16)
 .skip
 (.exit 2))
 (Q (.block 3 (Q (O [m 17 15,m 5 17])
 (Q (O [m 18 0,L 19 3 4,m 20 5,o 21 (.call (t 18) [(t 19),(t 20)]),o 22 (.un .not (t 21))])
 (.cond (t 22)
 .ret
 .skip))))
 (Q (K [0,4,6,7,8,14,15])
 (O [o 23 (.bin .add (t 15) (ci 1)),m 15 23]))))) (K [0,4,6,7,8,14,15]))))))))
 (Q (K [0,6,7,8])
 (O [o 24 (.bin .add (t 8) (ci 1)),m 8 24]))))) (K [0,6,7,8]))))))⟩
/-- coroner/order.Clean -/
def zcP:AFn:=⟨2,[.tmp 4],
 (Q (O [o 2 (.box (t 0)),o 3 (.box (t 1)),o 4 (.mv (.const (.slice none 0 0)))])
 (Q (O [f 5 3 3,l 6 5,o 7 (.call (.func zf) [(t 6)]),o 8 (.mkf zp [] [(t 2),(t 3)]),o 9 (.call (.func zbw) [(t 7),(t 8)]),m 4 9])
 .ret))⟩
/-- (*coroner/edges.maker).put -/
def zc3:AFn:=⟨6,[],
 (Q (O [m 12 1,m 13 2,B 14 .neq 12 13])
 (.cond (t 14)
 (.opsK [] [] [m 15 0,m 16 0,o 17 (.nilc (t 16)),f 18 15 17,l 19 18,m 20 1,m 21 2,m 22 3,m 23 0,o 24 (.nilc (t 23)),f 25 1 24,f 26 0 25,l 27 26,m 28 4,m 29 5,o 30 (.build [z,z,z,z,z,z] [(0,(1,(t 20))),(1,(1,(t 21))),(2,(1,(t 22))),(3,(1,(t 27))),(4,(1,(t 28))),(5,(1,(t 29)))]),o 31 (.bslice 6 1 [z,z,z,z,z,z] [(0,(6,(t 30)))]),b 32 (.append 6 48 (t 19) (t 31)),o 33 (.nilc (t 15)),f 34 15 33,sb (.store 1 (t 34) (t 32))])
 .skip))⟩
/-- coroner/reads.Kind -/
def zcG:AFn:=⟨2,[.tmp 4,.tmp 5],
 (Q (O [o 3 (.box (t 1)),o 4 (.mv (ci 0)),o 5 (.mv (ci 0))])
 (Q (Q (O [f 13 3 3,l 14 13,o 15 (.call (.func zaW) [(t 14)]),m 12 15,X 16 0 12,X 17 1 12,m 6 16,m 7 17])
 (Q (K [0,3,6,7])
 (Q (O [m 18 7])
 (.cond (t 18)
 (Q (O [m 19 6,o 4 (.mv (ci 1)),m 5 19])
 .ret)
 .skip))))
 (Q (K [0,3])
 (Q (Q (O [m 21 0,L 22 5 3,o 23 (.call (.func zbq) [(t 21),(t 22)]),m 20 23,X 24 0 20,X 25 1 20,m 8 24,m 9 25])
 (Q (K [0,3,8,9])
 (Q (O [m 26 9])
 (.cond (t 26)
 (Q (O [m 27 8,o 4 (.mv (ci 2)),m 5 27])
 .ret)
 .skip))))
 (Q (K [0,3])
 (Q (Q (O [m 29 0,L 30 5 3,o 31 (.call (.func zaI) [(t 29),(t 30)]),m 28 31,X 32 0 28,X 33 1 28,m 10 32,m 11 33])
 (Q (K [10,11])
 (Q (O [m 34 11])
 (.cond (t 34)
 (Q (O [m 35 10,o 4 (.mv (ci 3)),m 5 35])
 .ret)
 .skip))))
 (Q (K [])
 (Q (O [o 4 (.mv (ci 0)),o 5 (.mv (ci 0))])
 .ret))))))))⟩
/-- coroner/coronerref17.owner -/
def zc0:AFn:=⟨3,[.tmp 6],
 (Q (O [o 3 (.box (t 0)),o 6 (.mv (ci 0))])
 (Q (O [L 10 1 3,m 11 1,m 12 2,o 13 (.call (.func ze) [(t 10),(t 11),(t 12)]),m 9 13,X 14 0 9,X 15 1 9,o 7 (.alloc [z,z,z,z,(.bool false)]),s (.store 5 (t 7) (t 14)),m 8 15])
 (Q (K [7])
 (Q (O [f 16 0 7,l 17 16,m 6 17])
 .ret))))⟩
/-- coroner/coronerref16.Next -/
def zde:AFn:=⟨2,[.tmp 4],
 (Q (O [o 2 (.box (t 0)),o 4 (.mv (.const (.slice none 0 0)))])
 (Q (Q (O [m 5 1,o 6 (.bin .lss (t 5) (ci 0)),m 7 6,⟨(some 8),.mv (t 1),some (7,false),false⟩,⟨(some 9),.faddr 1 (t 2),some (7,false),false⟩,⟨(some 10),.load1 (t 9),some (7,false),false⟩,⟨(some 11),.len 1 (t 10),some (7,false),false⟩,⟨(some 12),.bin .gtr (t 8) (t 11),some (7,false),false⟩,o 13 (.pick (t 7) (.const (.bool true)) (t 12))])
 (Q (K [1,2,13])
 (.cond (t 13)
 (Q (O [o 4 (.mv (.const (.slice none 0 0)))])
 .ret)
 .skip)))
 (Q (K [1,2])
 (Q (Q (O [m 14 1,f 15 1 2,l 16 15,n 17 1 16,B 18 .eql 14 17])
 (.cond (t 18)
 (Q (O [f 19 2 2,l 20 19,m 4 20])
 .ret)
 .skip))
 (Q (K [1,2])
 (Q (O [f 21 1 2,l 22 21,m 23 1,m 24 1,o 25 (.bin .add (t 24) (ci 1)),o 26 (.slc 1 (t 22) (some (t 23)) (some (t 25))),m 4 26])
 (Q (K [4])
 .ret)))))))⟩
/-- coroner/coronerref12.txn -/
def zcL:AFn:=⟨2,[.cellN 4 3],
 (Q (O [o 2 (.box (t 0)),o 4 (.alloc [z,(.bool false),(.slice none 0 0)])])
 (Q (Q (O [o 5 (.mv (ci 0))])
 (Q (K [1,2,4,5]) (.block 0 (.loop (Q (Q (Q (O [m 6 5,f 7 0 2,l 8 7,n 9 1 8,B 10 .lss 6 9])
 (.cond (t 10)
 .skip
 (.exit 0)))
 (Q (.block 1 (Q (O [f 13 0 2,l 14 13,m 15 5,i 16 3 14 15,f 17 0 16,l 18 17,m 19 1,B 20 .eql 18 19])
 (Q (K [1,2,4,5,20])
 (.cond (t 20)
 (Q (O [f 21 0 2,l 22 21,m 23 5,i 24 3 22 23,L 25 3 24,s (.store 3 (t 4) (t 25))])
 .ret)
 .skip))))
 (Q (K [1,2,4,5])
 (O [m 11 5,o 12 (.bin .add (t 11) (ci 1)),m 5 12])))) (K [1,2,4,5]))))))
 (Q (K [1,4])
 (Q (O [m 26 1,o 27 (.build [z,(.bool false),(.slice none 0 0)] [(0,(1,(t 26)))]),s (.store 3 (t 4) (t 27))])
 .ret))))⟩
/-- slices.ContainsFunc[[]int,int] -/
def zdA:AFn:=⟨2,[.tmp 4],
 (Q (O [o 4 (.mv (.const (.bool false)))])
 (Q (O [m 5 0,m 6 1,o 7 (.call (.func zF) [(t 5),(t 6)]),o 8 (.bin .geq (t 7) (ci 0)),m 4 8])
 .ret))⟩
/-- coroner/encode.may -/
def zcc:AFn:=⟨1,[.tmp 2],
 (Q (O [o 2 (.mv (.const (.bool false)))])
 (Q (O [m 3 0,o 4 (.call (.func za6) [(t 3),(.func zw)]),o 5 (.un .not (t 4)),m 2 5])
 .ret))⟩
/-- slices.DeleteFunc[[]int,int] -/
def zcF:AFn:=⟨2,[.tmp 4],
 (Q (O [o 4 (.mv (.const (.slice none 0 0)))])
 (Q (O [m 8 0,m 9 1,o 10 (.call (.func zF) [(t 8),(t 9)]),m 5 10])
 (Q (Q (O [m 11 5,o 12 (.bin .eql (t 11) (ci (-1)))])
 (.cond (t 12)
 (Q (O [m 13 0,m 4 13])
 .ret)
 .skip))
 (Q (Q (O [m 14 5,o 15 (.bin .add (t 14) (ci 1)),m 6 15])
 (Q (K [0,1,5,6]) (.block 0 (.loop (Q (Q (Q (O [m 16 6,m 17 0,n 18 1 17,B 19 .lss 16 18])
 (.cond (t 19)
 .skip
 (.exit 0)))
 (Q (.block 1 (Q (O [m 22 0,m 23 6,i 24 1 22 23,l 25 24,m 7 25])
 (Q (O [m 26 1,m 27 7,o 28 (.call (t 26) [(t 27)]),o 29 (.un .not (t 28))])
 (.cond (t 29)
 (Q (O [m 30 0,m 31 5,m 32 7,i 33 1 30 31,s (.store 1 (t 33) (t 32))])
 (O [m 34 5,o 35 (.bin .add (t 34) (ci 1)),m 5 35]))
 .skip))))
 (Q (K [0,1,5,6])
 (O [m 20 6,o 21 (.bin .add (t 20) (ci 1)),m 6 21])))) (K [0,1,5,6]))))))
 (Q (K [0,5])
 (Q (O [m 36 0,m 37 5,o 38 (.slc 1 (t 36) (some (t 37)) none),s (.clear [z] (t 38))])
 (Q (O [m 39 0,m 40 5,o 41 (.slc 1 (t 39) none (some (t 40))),m 4 41])
 .ret)))))))⟩
/-- coroner/table.goes[coroner/table.Write] -/
def zcJ:AFn:=⟨1,[.tmp 2],
 (Q (O [o 1 (.box (t 0)),o 2 (.mv (.const .nilFunc))])
 (Q (O [o 3 (.mkf zE [] [(t 1)]),m 2 3])
 .ret))⟩
/-- coroner/reads.inner -/
def zcf:AFn:=⟨2,[.tmp 4,.tmp 5],
 (Q (O [o 3 (.box (t 1)),o 4 (.mv (ci 0)),o 5 (.mv (.const (.bool false)))])
 (Q (O [f 13 3 3,l 14 13,n 15 1 14,f 16 4 3,l 17 16,n 18 1 17,B 19 .sub 15 18,m 6 19])
 (Q (K [0,3,6])
 (Q (Q (O [f 20 4 3,l 21 20,n 22 1 21,o 23 (.mv (ci 0))])
 (Q (K [0,3,6,21,22,23]) (.block 0 (.loop (Q (Q (O [B 24 .lss 23 22])
 (Q (.cond (t 24)
 .skip
 (.exit 0))
 (Q (.block 1 (Q (O [m 25 23,i 26 1 21 23,l 27 26,m 7 25,m 8 27])
 (Q (O [m 28 6,m 29 7,B 30 .add 28 29,o 31 (.bin .lss (t 30) (ci 0)),m 32 31,⟨(some 33),.faddr 3 (t 3),some (32,false),false⟩,⟨(some 34),.load1 (t 33),some (32,false),false⟩,⟨(some 35),.mv (t 6),some (32,false),false⟩,⟨(some 36),.mv (t 7),some (32,false),false⟩,⟨(some 37),.bin .add (t 35) (t 36),some (32,false),false⟩,⟨(some 38),.iaddr 1 (t 34) (t 37),some (32,false),false⟩,⟨(some 39),.load1 (t 38),some (32,false),false⟩,⟨(some 40),.mv (t 8),some (32,false),false⟩,⟨(some 41),.bin .neq (t 39) (t 40),some (32,false),false⟩,o 42 (.pick (t 32) (.const (.bool true)) (t 41))])
 (Q (K [0,3,6,8,21,22,23,42])
 (.cond (t 42)
 (Q (O [m 43 8,m 4 43,o 5 (.mv (.const (.bool true)))])
 .ret)
 .skip)))))
 (Q (K [0,3,6,21,22,23])
 (O [o 44 (.bin .add (t 23) (ci 1)),m 23 44]))))) (K [0,3,6,21,22,23]))))))
 (Q (K [0,3])
 (Q (Q (O [L 45 5 3,o 46 (.call (.func zaa) [(t 45)]),n 47 1 46,o 48 (.mv (ci 0))])
 (Q (K [0,3,46,47,48]) (.block 2 (.loop (Q (Q (O [B 49 .lss 48 47])
 (Q (.cond (t 49)
 .skip
 (.exit 2))
 (Q (.block 3 (Q (O [i 50 1 46 48,l 51 50,m 10 51])
 (Q (O [m 53 0,f 54 2 3,l 55 54,m 56 10,o 57 (.call (.func zA) [(t 53),(t 55),(t 56)]),m 52 57,X 58 0 52,X 59 1 52,o 11 (.alloc [z,z,z,z,(.bool false)]),s (.store 5 (t 11) (t 58)),m 12 59])
 (Q (K [0,3,10,11,46,47,48])
 (Q (O [f 60 0 11,l 61 60,f 62 0 3,l 63 62,B 64 .eql 61 63])
 (.cond (t 64)
 (Q (O [m 65 10,m 4 65,o 5 (.mv (.const (.bool true)))])
 .ret)
 .skip))))))
 (Q (K [0,3,46,47,48])
 (O [o 66 (.bin .add (t 48) (ci 1)),m 48 66]))))) (K [0,3,46,47,48]))))))
 (Q (K [])
 (Q (O [o 4 (.mv (ci 0)),o 5 (.mv (.const (.bool false)))])
 .ret))))))))⟩
/-- coroner/coronerref01.Print -/
def zcD:AFn:=⟨1,[.tmp 2,.tmp 3],
 (Q (O [o 2 (.mv (.const (.string ⟨#[]⟩))),o 3 (.mv (ci 0))])
 (Q (Q (O [m 5 0,o 6 (.bin .lss (t 5) (ci 0)),m 7 6,⟨(some 8),.mv (t 0),some (7,false),false⟩,⟨(some 9),.bin .gtr (t 8) (ci 2147483647),some (7,false),false⟩,o 10 (.pick (t 7) (.const (.bool true)) (t 9))])
 (.cond (t 10)
 (Q (O [o 2 (.mv (.const (.string ⟨#[]⟩))),o 3 (.mv (ci 2))])
 .ret)
 .skip))
 (Q (K [0])
 (Q (O [o 4 (.mv (.const (.string ⟨#[]⟩)))])
 (Q (Q (K [0,4]) (.block 0 (.loop (Q (Q (Q (O [m 11 0,o 12 (.bin .gtr (t 11) (ci 9))])
 (.cond (t 12)
 .skip
 (.exit 0)))
 (.block 1 (Q (O [m 13 0,o 14 (.bin .rem (t 13) (ci 10)),m 15 0,o 16 (.bin .rem (t 15) (ci 10)),o 17 (.bin .add (t 16) (ci 1)),o 18 (.slcS (.const (.string ⟨#[48,49,50,51,52,53,54,55,56,57]⟩)) (some (t 14)) (some (t 17))),m 19 4,B 20 .add 18 19,m 4 20])
 (Q (K [0,4])
 (O [m 21 0,o 22 (.bin .quo (t 21) (ci 10)),m 0 22]))))) (K [0,4])))))
 (Q (K [0,4])
 (Q (O [m 23 0,m 24 0,o 25 (.bin .add (t 24) (ci 1)),o 26 (.slcS (.const (.string ⟨#[48,49,50,51,52,53,54,55,56,57]⟩)) (some (t 23)) (some (t 25))),m 27 4,B 28 .add 26 27,m 2 28,o 3 (.mv (ci 0))])
 (Q (K [2,3])
 .ret))))))))⟩
/-- coroner/table.goes[coroner/table.Read]$1 -/
def zb4:AFn:=⟨2,[],
 (Q (O [l 5 1,n 6 1 5,o 7 (.mv (ci 0))])
 (Q (K [0,5,6,7]) (.block 0 (.loop (Q (Q (O [B 8 .lss 7 6])
 (Q (.cond (t 8)
 .skip
 (.exit 0))
 (Q (.block 1 (Q (O [i 9 5 5 7,L 10 5 9,o 4 (.alloc [z,z,z,(.slice none 0 0),(.slice none 0 0)]),s (.store 5 (t 4) (t 10))])
 (Q (O [m 11 0,L 12 5 4,o 13 (.call (t 11) [(t 12)]),o 14 (.un .not (t 13))])
 (.cond (t 14)
 .ret
 .skip))))
 (Q (K [0,5,6,7])
 (O [o 15 (.bin .add (t 7) (ci 1)),m 7 15]))))) (K [0,5,6,7]))))))⟩
/-- coroner/coronerref01.Same -/
def zca:AFn:=⟨2,[.tmp 4],
 (Q (O [o 4 (.mv (.const (.bool false)))])
 (Q (Q (O [m 6 0,n 7 1 6,m 8 1,n 9 1 8,B 10 .neq 7 9])
 (.cond (t 10)
 (Q (O [o 4 (.mv (.const (.bool false)))])
 .ret)
 .skip))
 (Q (Q (O [o 5 (.mv (ci 0))])
 (Q (K [0,1,5]) (.block 0 (.loop (Q (Q (Q (O [m 11 5,m 12 0,n 13 1 12,B 14 .lss 11 13])
 (.cond (t 14)
 .skip
 (.exit 0)))
 (Q (.block 1 (Q (.ops true [m 17 0,m 18 5,i 19 1 17 18,l 20 19,m 21 1,m 22 5,i 23 1 21 22,l 24 23,b 25 (.bin .neq (t 20) (t 24))])
 (Q (K [0,1,5,25])
 (.cond (t 25)
 (Q (O [o 4 (.mv (.const (.bool false)))])
 .ret)
 .skip))))
 (Q (K [0,1,5])
 (O [m 15 5,o 16 (.bin .add (t 15) (ci 1)),m 5 16])))) (K [0,1,5]))))))
 (Q (K [])
 (Q (O [o 4 (.mv (.const (.bool true)))])
 .ret)))))⟩
/-- (coroner/sorted.Set[int]).Or -/
def zc2:AFn:=⟨2,[.cellN 4 1],
 (Q (O [o 2 (.box (t 0)),o 3 (.box (t 1)),o 4 (.alloc [(.slice none 0 0)])])
 (Q (O [f 9 0 2,l 10 9,n 11 1 10,f 12 0 3,l 13 12,n 14 1 13,B 15 .add 11 14,o 16 (.mkslice 1 8 [z] (ci 0) (t 15)),m 5 16])
 (Q (K [2,3,4,5])
 (Q (O [o 6 (.mv (ci 0)),o 7 (.mv (ci 0))])
 (Q (Q (K [2,3,4,5,6,7]) (.block 0 (.loop (Q (Q (Q (O [m 17 6,f 18 0 2,l 19 18,n 20 1 19,B 21 .lss 17 20,m 22 21,⟨(some 23),.mv (t 7),some (22,true),false⟩,⟨(some 24),.faddr 0 (t 3),some (22,true),false⟩,⟨(some 25),.load1 (t 24),some (22,true),false⟩,⟨(some 26),.len 1 (t 25),some (22,true),false⟩,⟨(some 27),.bin .lss (t 23) (t 26),some (22,true),false⟩,o 28 (.pick (t 22) (t 27) (.const (.bool false)))])
 (Q (K [2,3,4,5,6,7,28])
 (.cond (t 28)
 .skip
 (.exit 0))))
 (Q (K [2,3,4,5,6,7])
 (.block 1 (Q (.ops true [f 29 0 2,l 30 29,m 31 6,i 32 1 30 31,l 33 32,f 34 0 3,l 35 34,m 36 7,i 37 1 35 36,l 38 37,b 39 (.call (.func zb) [(t 33),(t 38)]),b 8 (.mv (t 39))])
 (Q (K [2,3,4,5,6,7,8])
 (Q (Q (O [m 40 8,o 41 (.bin .leq (t 40) (ci 0))])
 (.cond (t 41)
 (Q (O [m 42 5,f 43 0 2,l 44 43,m 45 6,i 46 1 44 45,l 47 46,o 48 (.bslice 1 1 [z] [(0,(1,(t 47)))]),o 49 (.append 1 8 (t 42) (t 48)),m 5 49])
 (Q (K [2,3,4,5,6,7,8])
 (O [m 50 6,o 51 (.bin .add (t 50) (ci 1)),m 6 51])))
 (O [m 52 5,f 53 0 3,l 54 53,m 55 7,i 56 1 54 55,l 57 56,o 58 (.bslice 1 1 [z] [(0,(1,(t 57)))]),o 59 (.append 1 8 (t 52) (t 58)),m 5 59])))
 (Q (K [2,3,4,5,6,7,8])
 (Q (O [m 60 8,o 61 (.bin .geq (t 60) (ci 0))])
 (.cond (t 61)
 (O [m 62 7,o 63 (.bin .add (t 62) (ci 1)),m 7 63])
 .skip))))))))) (K [2,3,4,5,6,7])))))
 (Q (K [2,3,4,5,6,7])
 (Q (.opsK [(5,70)] [(70,64)] [m 64 5,f 65 0 2,l 66 65,m 67 6,o 68 (.slc 1 (t 66) (some (t 67)) none),b 69 (.append 1 8 (t 64) (t 68)),f 70 0 3,l 71 70,m 72 7,o 73 (.slc 1 (t 71) (some (t 72)) none),b 74 (.append 1 8 (t 69) (t 73)),o 75 (.build [(.slice none 0 0)] [(0,(1,(t 74)))]),sb (.store 1 (t 4) (t 75))])
 (Q (K [4])
 .ret))))))))⟩
/-- coroner/coronerref17.Compare -/
def zdn:AFn:=⟨2,[.tmp 4],
 (Q (O [o 2 (.box (t 0)),o 3 (.box (t 1)),o 4 (.mv (ci 0))])
 (Q (O [f 8 0 2,l 9 8,f 10 1 2,l 11 10,f 12 2 2,l 13 12,f 14 3 2,l 15 14,f 16 4 2,l 17 16,f 18 5 2,l 19 18,o 20 (.bslice 1 6 [z,z,z,z,z,z] [(0,(1,(t 9))),(1,(1,(t 11))),(2,(1,(t 13))),(3,(1,(t 15))),(4,(1,(t 17))),(5,(1,(t 19)))]),m 5 20])
 (Q (K [3,5])
 (Q (O [f 21 0 3,l 22 21,f 23 1 3,l 24 23,f 25 2 3,l 26 25,f 27 3 3,l 28 27,f 29 4 3,l 30 29,f 31 5 3,l 32 31,o 33 (.bslice 1 6 [z,z,z,z,z,z] [(0,(1,(t 22))),(1,(1,(t 24))),(2,(1,(t 26))),(3,(1,(t 28))),(4,(1,(t 30))),(5,(1,(t 32)))]),m 6 33])
 (Q (K [5,6])
 (Q (Q (O [o 7 (.mv (ci 0))])
 (Q (K [5,6,7]) (.block 0 (.loop (Q (Q (Q (O [m 34 7,m 35 5,n 36 1 35,B 37 .lss 34 36])
 (.cond (t 37)
 .skip
 (.exit 0)))
 (Q (.block 1 (Q (Q (.ops true [m 40 5,m 41 7,i 42 1 40 41,l 43 42,m 44 6,m 45 7,i 46 1 44 45,l 47 46,b 48 (.bin .lss (t 43) (t 47))])
 (Q (K [5,6,7,48])
 (.cond (t 48)
 (Q (O [o 4 (.mv (ci (-1)))])
 .ret)
 .skip)))
 (Q (K [5,6,7])
 (Q (.ops true [m 49 5,m 50 7,i 51 1 49 50,l 52 51,m 53 6,m 54 7,i 55 1 53 54,l 56 55,b 57 (.bin .gtr (t 52) (t 56))])
 (Q (K [5,6,7,57])
 (.cond (t 57)
 (Q (O [o 4 (.mv (ci 1))])
 .ret)
 .skip))))))
 (Q (K [5,6,7])
 (O [m 38 7,o 39 (.bin .add (t 38) (ci 1)),m 7 39])))) (K [5,6,7]))))))
 (Q (K [])
 (Q (O [o 4 (.mv (ci 0))])
 .ret))))))))⟩
/-- coroner/coronerlaw17.few -/
def zdr:AFn:=⟨1,[.tmp 2],
 (Q (O [o 1 (.box (t 0)),o 2 (.mv (.const (.bool false)))])
 (Q (O [L 3 1 1,o 4 (.call (.func zaR) [(t 3),(ci 20),(ci 60)]),m 5 4,⟨(some 6),.loadN 1 (t 1),some (5,true),false⟩,⟨(some 7),.call (.func zbf) [(t 6)],some (5,true),false⟩,⟨(some 8),.bin .eql (t 7) (ci 0),some (5,true),false⟩,o 9 (.pick (t 5) (t 8) (.const (.bool false))),m 2 9])
 (Q (K [2])
 .ret)))⟩
/-- coroner/edges.All -/
def zcQ:AFn:=⟨2,[.tmp 4],
 (Q (O [o 4 (.mv (.const (.slice none 0 0)))])
 (Q (O [o 5 (.mv (.const (.slice none 0 0)))])
 (Q (Q (O [m 8 1,n 9 1 8,o 10 (.mv (ci 0))])
 (Q (K [0,5,8,9,10]) (.block 0 (.loop (Q (Q (O [B 11 .lss 10 9])
 (Q (.cond (t 11)
 .skip
 (.exit 0))
 (Q (.block 1 (Q (O [i 12 1 8 10,l 13 12,m 7 13])
 (O [m 14 5,m 15 0,m 16 7,o 17 (.call (.func zac) [(t 15),(t 16)]),o 18 (.append 6 48 (t 14) (t 17)),m 5 18])))
 (Q (K [0,5,8,9,10])
 (O [o 19 (.bin .add (t 10) (ci 1)),m 10 19]))))) (K [0,5,8,9,10]))))))
 (Q (K [5])
 (Q (O [m 20 5,o 21 (.call (.func z9) [(t 20)]),m 4 21])
 .ret)))))⟩
/-- coroner/encode.Check -/
def zch:AFn:=⟨1,[.tmp 2],
 (Q (O [o 1 (.box (t 0)),o 2 (.mv (ci 0))])
 (Q (Q (O [f 4 0 1,l 5 4,n 6 1 5,o 7 (.bin .gtr (t 6) (ci 1024)),m 8 7,⟨(some 9),.loadN 1 (t 1),some (8,false),false⟩,⟨(some 10),.call (.func zaN) [(t 9)],some (8,false),false⟩,⟨(some 11),.bin .gtr (t 10) (ci 4096),some (8,false),false⟩,o 12 (.pick (t 8) (.const (.bool true)) (t 11))])
 (Q (K [1,12])
 (.cond (t 12)
 (Q (O [o 2 (.mv (ci 3))])
 .ret)
 .skip)))
 (Q (K [1])
 (Q (Q (O [L 13 1 1,o 14 (.call (.func za9) [(t 13)]),m 3 14])
 (Q (O [m 15 3,o 16 (.bin .neq (t 15) (ci 0))])
 (.cond (t 16)
 (Q (O [m 17 3,m 2 17])
 .ret)
 .skip)))
 (Q (K [1])
 (Q (Q (O [L 18 1 1,o 19 (.call (.func zaM) [(t 18)]),n 20 1 19,o 21 (.bin .gtr (t 20) (ci 262144))])
 (.cond (t 21)
 (Q (O [o 2 (.mv (ci 3))])
 .ret)
 .skip))
 (Q (O [o 2 (.mv (ci 0))])
 .ret)))))))⟩
/-- coroner/table.steps -/
def zcn:AFn:=⟨1,[.tmp 2],
 (Q (O [o 1 (.box (t 0)),o 2 (.mv (.const .nilFunc))])
 (Q (O [o 3 (.mkf zar [] [(t 1)]),m 2 3])
 .ret))⟩
/-- coroner/order.Of -/
def zbU:AFn:=⟨2,[.cellN 4 14],
 (Q (O [o 2 (.box (t 0)),o 4 (.alloc [z,(.slice none 0 0),(.slice none 0 0),(.bool false),z,z,z,(.slice none 0 0),(.slice none 0 0),z,z,z,(.slice none 0 0),(.slice none 0 0)])])
 (Q (O [o 5 (.alloc [(.slice none 0 0)])])
 (Q (O [o 6 (.alloc [(.slice none 0 0)])])
 (Q (Q (O [l 17 2,m 18 1,o 19 (.call (.func zW) [(t 17),(t 18)])])
 (.block 0 (.rfun (t 19) [20]
 (O [o 7 (.alloc [z,z,z,(.slice none 0 0),(.slice none 0 0)]),s (.store 5 (t 7) (t 20))])
 (.block 1 (Q (O [l 21 5,L 22 5 7,o 23 (.bslice 5 1 [z,z,z,(.slice none 0 0),(.slice none 0 0)] [(0,(5,(t 22)))]),o 24 (.append 5 72 (t 21) (t 23)),s (.store 1 (t 5) (t 24))])
 (.ops true [l 25 6,l 26 2,L 27 5 7,o 28 (.call (.func zM) [(t 26),(t 27)]),o 29 (.bslice 1 1 [(.slice none 0 0)] [(0,(1,(t 28)))]),b 30 (.append 1 24 (t 25) (t 29)),sb (.store 1 (t 6) (t 30))]))))))
 (Q (K [1,2,4,5,6])
 (Q (O [l 32 6,o 33 (.call (.func zby) [(t 32)]),m 31 33,X 34 0 31,X 35 1 31,X 36 2 31,X 37 3 31,m 8 34,m 9 35,m 10 36,m 11 37])
 (Q (K [1,2,4,5,8,9,10,11])
 (Q (Q (O [m 38 11,o 39 (.un .not (t 38))])
 (.cond (t 39)
 (Q (.ops true [m 40 1,l 41 5,m 42 9,i 43 5 41 42,L 44 5 43,l 45 5,m 46 10,i 47 5 45 46,L 48 5 47,b 49 (.build [z,(.slice none 0 0),(.slice none 0 0),(.bool false),z,z,z,(.slice none 0 0),(.slice none 0 0),z,z,z,(.slice none 0 0),(.slice none 0 0)] [(0,(1,(t 40))),(3,(1,(.const (.bool true)))),(4,(5,(t 44))),(9,(5,(t 48)))]),sb (.store 14 (t 4) (t 49))])
 (Q (K [4])
 .ret))
 .skip))
 (Q (K [1,2,4,8])
 (Q (O [m 50 1,m 51 8,o 52 (.build [z,(.slice none 0 0),(.slice none 0 0),(.bool false),z,z,z,(.slice none 0 0),(.slice none 0 0),z,z,z,(.slice none 0 0),(.slice none 0 0)] [(0,(1,(t 50))),(1,(1,(t 51)))]),o 12 (.alloc [z,(.slice none 0 0),(.slice none 0 0),(.bool false),z,z,z,(.slice none 0 0),(.slice none 0 0),z,z,z,(.slice none 0 0),(.slice none 0 0)]),s (.store 14 (t 12) (t 52))])
 (Q (O [o 53 (.mkmap),o 13 (.alloc [(.map none)]),s (.store 1 (t 13) (t 53))])
 (Q (Q (O [m 54 8,n 55 1 54,o 56 (.mv (ci 0))])
 (Q (K [1,2,4,12,13,54,55,56]) (.block 2 (.loop (Q (Q (O [B 57 .lss 56 55])
 (Q (.cond (t 57)
 .skip
 (.exit 2))
 (Q (.block 3 (Q (O [m 58 56,i 59 1 54 56,l 60 59,m 14 58,m 15 60])
 (O [l 61 13,m 62 15,m 63 14,o 64 (.bin .add (t 63) (ci 1)),s (.mapupd (.one 1) (t 61) (t 62) (t 64))])))
 (Q (K [1,2,4,12,13,54,55,56])
 (O [o 65 (.bin .add (t 56) (ci 1)),m 56 65]))))) (K [1,2,4,12,13,54,55,56]))))))
 (Q (K [1,2,4,12,13])
 (Q (Q (O [l 66 2,m 67 1,o 68 (.call (.func za3) [(t 66),(t 67)])])
 (.block 4 (.rfun (t 68) [69]
 (O [o 16 (.alloc [z,z,z,z,(.bool false)]),s (.store 5 (t 16) (t 69))])
 (.block 5 (Q (O [l 70 13,f 71 3 16,l 72 71,o 73 (.lookup (.one 1) z false (t 70) (t 72)),o 74 (.bin .eql (t 73) (ci 0))])
 (.cond (t 74)
 (O [f 75 2 12,l 76 75,f 77 3 16,l 78 77,o 79 (.bslice 1 1 [z] [(0,(1,(t 78)))]),o 80 (.append 1 8 (t 76) (t 79)),f 81 2 12,s (.store 1 (t 81) (t 80))])
 .skip))))))
 (Q (K [4,12])
 (Q (O [L 82 14 12,s (.store 14 (t 4) (t 82))])
 .ret))))))))))))))))⟩
/-- coroner/coronerref17.of -/
def zcK:AFn:=⟨2,[.tmp 4],
 (Q (O [o 2 (.box (t 0)),o 4 (.mv (.const (.slice none 0 0)))])
 (Q (O [o 5 (.mv (.const (.slice none 0 0)))])
 (Q (O [L 22 1 2,m 23 1,o 24 (.call (.func zbe) [(t 22),(t 23)]),o 6 (.alloc [z,(.slice none 0 0),(.slice none 0 0),(.bool false),z,z,z,(.slice none 0 0),(.slice none 0 0),z,z,z,(.slice none 0 0),(.slice none 0 0)]),s (.store 14 (t 6) (t 24))])
 (Q (Q (O [f 25 3 6,l 26 25])
 (.cond (t 26)
 (Q (O [o 4 (.mv (.const (.slice none 0 0)))])
 .ret)
 .skip))
 (Q (Q (O [o 7 (.mv (ci 1))])
 (Q (K [1,2,5,6,7]) (.block 0 (.loop (Q (Q (Q (O [m 27 7,f 28 1 6,l 29 28,n 30 1 29,B 31 .lss 27 30])
 (.cond (t 31)
 .skip
 (.exit 0)))
 (Q (.block 1 (Q (.ops true [f 34 1 6,l 35 34,m 36 7,o 37 (.bin .sub (t 36) (ci 1)),i 38 1 35 37,l 39 38,f 40 1 6,l 41 40,m 42 7,i 43 1 41 42,l 44 43,m 8 39,b 9 (.mv (t 44))])
 (Q (K [1,2,5,6,7,8,9])
 (.ops true [m 45 5,L 46 1 2,m 47 1,m 48 8,o 49 (.call (.func zg) [(t 46),(t 47),(t 48)]),L 50 1 2,m 51 1,m 52 9,o 53 (.call (.func zg) [(t 50),(t 51),(t 52)]),m 54 1,m 55 8,m 56 9,o 57 (.build [z,z,z,z,z,z] [(0,(1,(t 49))),(1,(1,(t 53))),(2,(1,(ci 1))),(3,(1,(t 54))),(4,(1,(t 55))),(5,(1,(t 56)))]),o 58 (.bslice 6 1 [z,z,z,z,z,z] [(0,(6,(t 57)))]),b 59 (.append 6 48 (t 45) (t 58)),b 5 (.mv (t 59))]))))
 (Q (K [1,2,5,6,7])
 (O [m 32 7,o 33 (.bin .add (t 32) (ci 1)),m 7 33])))) (K [1,2,5,6,7]))))))
 (Q (K [1,2,5,6])
 (Q (Q (O [o 10 (.mv (ci 0))])
 (Q (K [1,2,5,6,10]) (.block 2 (.loop (Q (Q (Q (O [m 60 10,f 61 2 6,l 62 61,n 63 1 62,B 64 .lss 60 63,m 65 64,⟨(some 66),.faddr 1 (t 6),some (65,true),false⟩,⟨(some 67),.load1 (t 66),some (65,true),false⟩,⟨(some 68),.len 1 (t 67),some (65,true),false⟩,⟨(some 69),.bin .gtr (t 68) (ci 0),some (65,true),false⟩,o 70 (.pick (t 65) (t 69) (.const (.bool false)))])
 (Q (K [1,2,5,6,10,70])
 (.cond (t 70)
 .skip
 (.exit 2))))
 (Q (K [1,2,5,6,10])
 (Q (.block 3 (Q (.ops true [f 73 1 6,l 74 73,f 75 1 6,l 76 75,n 77 1 76,o 78 (.bin .sub (t 77) (ci 1)),i 79 1 74 78,l 80 79,f 81 2 6,l 82 81,m 83 10,i 84 1 82 83,l 85 84,m 11 80,b 12 (.mv (t 85))])
 (Q (K [1,2,5,6,10,11,12])
 (.ops true [m 86 5,L 87 1 2,m 88 1,m 89 11,o 90 (.call (.func zg) [(t 87),(t 88),(t 89)]),L 91 1 2,m 92 1,m 93 12,o 94 (.call (.func zg) [(t 91),(t 92),(t 93)]),m 95 1,m 96 11,m 97 12,o 98 (.build [z,z,z,z,z,z] [(0,(1,(t 90))),(1,(1,(t 94))),(2,(1,(ci 1))),(3,(1,(t 95))),(4,(1,(t 96))),(5,(1,(t 97)))]),o 99 (.bslice 6 1 [z,z,z,z,z,z] [(0,(6,(t 98)))]),b 100 (.append 6 48 (t 86) (t 99)),b 5 (.mv (t 100))]))))
 (Q (K [1,2,5,6,10])
 (O [m 71 10,o 72 (.bin .add (t 71) (ci 1)),m 10 72]))))) (K [1,2,5,6,10]))))))
 (Q (K [1,2,5,6])
 (Q (O [L 101 1 2,m 102 1,o 103 (.call (.func zam) [(t 101),(t 102)]),m 13 103])
 (Q (Q (O [o 14 (.mv (ci 0))])
 (Q (K [1,2,5,6,13,14]) (.block 4 (.loop (Q (Q (Q (O [m 104 14,m 105 13,n 106 1 105,B 107 .lss 104 106])
 (.cond (t 107)
 .skip
 (.exit 4)))
 (Q (.block 5 (Q (O [m 110 13,m 111 14,i 112 5 110 111,L 113 5 112,o 15 (.alloc [z,z,z,(.slice none 0 0),(.slice none 0 0)]),s (.store 5 (t 15) (t 113))])
 (Q (.ops true [L 114 1 2,m 115 1,L 116 5 15,o 117 (.call (.func zal) [(t 116)]),o 118 (.build [z,z,z,(.slice none 0 0),(.slice none 0 0)] [(2,(1,(t 115))),(3,(1,(t 117)))]),b 119 (.call (.func zC) [(t 114),(t 118)]),b 16 (.mv (t 119))])
 (Q (K [1,2,5,6,13,14,15,16])
 (Q (Q (O [m 120 16,n 121 1 120,o 122 (.bin .gtr (t 121) (ci 0))])
 (.cond (t 122)
 (Q (O [m 123 16,m 124 16,n 125 1 124,o 126 (.bin .sub (t 125) (ci 1)),i 127 1 123 126,l 128 127,m 17 128])
 (Q (K [1,2,5,6,13,14,15,17])
 (.ops true [m 129 5,L 130 1 2,m 131 1,m 132 17,o 133 (.call (.func zg) [(t 130),(t 131),(t 132)]),f 134 0 15,l 135 134,m 136 1,m 137 17,o 138 (.build [z,z,z,z,z,z] [(0,(1,(t 133))),(1,(1,(t 135))),(2,(1,(ci 2))),(3,(1,(t 136))),(4,(1,(t 137))),(5,(1,(ci (-1))))]),o 139 (.bslice 6 1 [z,z,z,z,z,z] [(0,(6,(t 138)))]),b 140 (.append 6 48 (t 129) (t 139)),b 5 (.mv (t 140))])))
 .skip))
 (Q (K [1,2,5,6,13,14,15])
 (Q (O [L 141 1 2,L 142 5 15,o 143 (.call (.func zC) [(t 141),(t 142)]),m 18 143])
 (Q (O [o 19 (.mv (ci (-1)))])
 (Q (Q (O [m 144 18,n 145 1 144,o 146 (.bin .gtr (t 145) (ci 0))])
 (.cond (t 146)
 (O [m 147 18,m 148 18,n 149 1 148,o 150 (.bin .sub (t 149) (ci 1)),i 151 1 147 150,l 152 151,m 19 152])
 .skip))
 (Q (K [1,2,5,6,13,14,15,18,19])
 (Q (O [L 153 14 6,m 154 18,n 155 1 154,o 156 (.call (.func za0) [(t 153),(t 155)]),m 20 156])
 (Q (O [o 21 (.mv (ci 0))])
 (Q (K [1,2,5,6,13,14,15,19,20,21]) (.block 6 (.loop (Q (Q (Q (O [m 157 21,m 158 20,n 159 1 158,B 160 .lss 157 159])
 (.cond (t 160)
 .skip
 (.exit 6)))
 (Q (.block 7 (.ops true [m 163 5,f 164 0 15,l 165 164,L 166 1 2,m 167 1,m 168 20,m 169 21,i 170 1 168 169,l 171 170,o 172 (.call (.func zg) [(t 166),(t 167),(t 171)]),m 173 1,m 174 19,m 175 20,m 176 21,i 177 1 175 176,l 178 177,o 179 (.build [z,z,z,z,z,z] [(0,(1,(t 165))),(1,(1,(t 172))),(2,(1,(ci 4))),(3,(1,(t 173))),(4,(1,(t 174))),(5,(1,(t 178)))]),o 180 (.bslice 6 1 [z,z,z,z,z,z] [(0,(6,(t 179)))]),b 181 (.append 6 48 (t 163) (t 180)),b 5 (.mv (t 181))]))
 (Q (K [1,2,5,6,13,14,15,19,20,21])
 (O [m 161 21,o 162 (.bin .add (t 161) (ci 1)),m 21 162])))) (K [1,2,5,6,13,14,15,19,20,21])))))))))))))))))
 (Q (K [1,2,5,6,13,14])
 (O [m 108 14,o 109 (.bin .add (t 108) (ci 1)),m 14 109])))) (K [1,2,5,6,13,14]))))))
 (Q (K [5])
 (Q (O [m 182 5,m 4 182])
 .ret))))))))))))⟩
/-- coroner/coronerref03.Appended -/
def zcq:AFn:=⟨3,[.tmp 6],
 (Q (O [o 3 (.box (t 0)),o 6 (.mv (.const (.bool false)))])
 (Q (Q (O [o 7 (.mv (ci 0))])
 (Q (K [1,2,3,7]) (.block 0 (.loop (Q (Q (Q (O [m 10 7,f 11 0 3,l 12 11,n 13 1 12,B 14 .lss 10 13])
 (.cond (t 14)
 .skip
 (.exit 0)))
 (Q (.block 1 (Q (O [o 8 (.mv (ci 0))])
 (Q (K [1,2,3,7,8]) (.block 2 (.loop (Q (Q (Q (O [m 17 8,f 18 0 3,l 19 18,m 20 7,i 21 3 19 20,f 22 2 21,l 23 22,n 24 1 23,B 25 .lss 17 24])
 (Q (K [1,2,3,7,8,25])
 (.cond (t 25)
 .skip
 (.exit 2))))
 (Q (K [1,2,3,7,8])
 (Q (.block 3 (Q (O [f 28 0 3,l 29 28,m 30 7,i 31 3 29 30,f 32 2 31,l 33 32,m 34 8,i 35 4 33 34,L 36 4 35,o 9 (.alloc [(.bool false),z,z,(.slice none 0 0)]),s (.store 4 (t 9) (t 36))])
 (Q (K [1,2,3,7,8,9])
 (Q (O [f 37 0 9,l 38 37,o 39 (.un .not (t 38)),m 40 39,⟨(some 41),.faddr 1 (t 9),some (40,true),false⟩,⟨(some 42),.load1 (t 41),some (40,true),false⟩,⟨(some 43),.mv (t 1),some (40,true),false⟩,⟨(some 44),.bin .eql (t 42) (t 43),some (40,true),false⟩,o 45 (.pick (t 40) (t 44) (.const (.bool false))),m 46 45,⟨(some 47),.faddr 2 (t 9),some (46,true),false⟩,⟨(some 48),.load1 (t 47),some (46,true),false⟩,⟨(some 49),.mv (t 2),some (46,true),false⟩,⟨(some 50),.bin .eql (t 48) (t 49),some (46,true),false⟩,o 51 (.pick (t 46) (t 50) (.const (.bool false)))])
 (Q (K [1,2,3,7,8,51])
 (.cond (t 51)
 (Q (O [o 6 (.mv (.const (.bool true)))])
 .ret)
 .skip))))))
 (Q (K [1,2,3,7,8])
 (O [m 26 8,o 27 (.bin .add (t 26) (ci 1)),m 8 27]))))) (K [1,2,3,7,8])))))))
 (Q (K [1,2,3,7])
 (O [m 15 7,o 16 (.bin .add (t 15) (ci 1)),m 7 16])))) (K [1,2,3,7]))))))
 (Q (K [])
 (Q (O [o 6 (.mv (.const (.bool false)))])
 .ret))))⟩
/-- coroner/encode.parts -/
def zb0:AFn:=⟨1,[.tmp 2],
 (Q (O [o 1 (.box (t 0)),o 2 (.mv (ci 0))])
 (Q (O [o 14 (.mkmap),o 15 (.mkmap),m 3 14,m 4 15])
 (Q (Q (O [f 16 0 1,l 17 16,n 18 1 17,o 19 (.mv (ci 0))])
 (Q (K [3,4,17,18,19]) (.block 0 (.loop (Q (Q (O [B 20 .lss 19 18])
 (Q (.cond (t 20)
 .skip
 (.exit 0))
 (Q (.block 1 (Q (O [m 21 19,i 22 3 17 19,L 23 3 22,o 6 (.alloc [z,(.bool false),(.slice none 0 0)]),m 5 21,s (.store 3 (t 6) (t 23))])
 (Q (Q (O [f 24 0 6,l 25 24,o 26 (.bslice 1 1 [z] [(0,(1,(t 25)))]),o 27 (.call (.func zx) [(t 26)]),o 28 (.un .not (t 27))])
 (.cond (t 28)
 (Q (O [o 2 (.mv (ci 2))])
 .ret)
 .skip))
 (Q (Q (O [m 30 3,f 31 0 6,l 32 31,o 33 (.lookup (.one 1) z true (t 30) (t 32)),m 29 33,X 34 0 29,X 35 1 29,m 7 34,m 8 35])
 (Q (K [3,4,5,6,8,17,18,19])
 (Q (O [m 36 8])
 (.cond (t 36)
 (Q (O [o 2 (.mv (ci 5))])
 .ret)
 .skip))))
 (Q (K [3,4,5,6,17,18,19])
 (Q (O [m 37 3,f 38 0 6,l 39 38,m 40 5,s (.mapupd (.one 1) (t 37) (t 39) (t 40))])
 (Q (O [f 41 2 6,l 42 41,n 43 1 42,o 44 (.mv (ci 0))])
 (Q (K [3,4,5,17,18,19,42,43,44]) (.block 2 (.loop (Q (Q (O [B 45 .lss 44 43])
 (Q (.cond (t 45)
 .skip
 (.exit 2))
 (Q (.block 3 (Q (O [i 46 4 42 44,L 47 4 46,o 10 (.alloc [(.bool false),z,z,(.slice none 0 0)]),s (.store 4 (t 10) (t 47))])
 (Q (Q (O [L 48 4 10,o 49 (.call (.func zbj) [(t 48)]),o 50 (.un .not (t 49))])
 (.cond (t 50)
 (Q (O [o 2 (.mv (ci 2))])
 .ret)
 .skip))
 (Q (Q (O [f 51 0 10,l 52 51])
 (.cond (t 52)
 (.exit 3)
 .skip))
 (Q (O [f 53 1 10,l 54 53,f 55 2 10,l 56 55,o 57 (.build [z,z] [(0,(1,(t 54))),(1,(1,(t 56)))]),o 11 (.alloc [z,z]),s (.store 2 (t 11) (t 57))])
 (Q (K [3,4,5,11,17,18,19,42,43,44])
 (Q (Q (O [m 59 4,L 60 2 11,o 61 (.lookup (.many [1,1]) z true (t 59) (t 60)),m 58 61,X 62 0 58,X 63 1 58,m 12 62,m 13 63])
 (Q (K [3,4,5,11,13,17,18,19,42,43,44])
 (Q (O [m 64 13])
 (.cond (t 64)
 (Q (O [o 2 (.mv (ci 6))])
 .ret)
 .skip))))
 (Q (K [3,4,5,11,17,18,19,42,43,44])
 (O [m 65 4,L 66 2 11,m 67 5,s (.mapupd (.many [1,1]) (t 65) (t 66) (t 67))])))))))))
 (Q (K [3,4,5,17,18,19,42,43,44])
 (O [o 68 (.bin .add (t 44) (ci 1)),m 44 68]))))) (K [3,4,5,17,18,19,42,43,44]))))))))))))
 (Q (K [3,4,17,18,19])
 (O [o 69 (.bin .add (t 19) (ci 1)),m 19 69]))))) (K [3,4,17,18,19]))))))
 (Q (K [])
 (Q (O [o 2 (.mv (ci 0))])
 .ret)))))⟩
/-- slices.Clone[[]int,int] -/
def zbO:AFn:=⟨1,[.tmp 2],
 (Q (O [o 2 (.mv (.const (.slice none 0 0)))])
 (Q (Q (O [m 3 0,o 4 (.eqv 2 false (t 3) (.const (.slice none 0 0)))])
 (.cond (t 4)
 (Q (O [o 2 (.mv (.const (.slice none 0 0)))])
 .ret)
 .skip))
 (Q (O [o 5 (.bslice 1 0 [] []),m 6 0,o 7 (.append 1 8 (t 5) (t 6)),m 2 7])
 .ret)))⟩
/-- coroner/prefix.Longest[int] -/
def zcY:AFn:=⟨1,[.tmp 2,.tmp 3,.tmp 4,.tmp 5],
 (Q (O [o 2 (.mv (.const (.slice none 0 0))),o 3 (.mv (ci 0)),o 4 (.mv (ci 0)),o 5 (.mv (.const (.bool false)))])
 (Q (O [o 6 (.mv (.const (.slice none 0 0)))])
 (Q (O [o 7 (.mv (.const (.bool true)))])
 (Q (Q (O [m 13 0,n 14 1 13,o 15 (.mv (ci 0))])
 (Q (K [0,6,7,13,14,15]) (.block 0 (.loop (Q (Q (O [B 16 .lss 15 14])
 (Q (.cond (t 16)
 .skip
 (.exit 0))
 (Q (.block 1 (Q (O [i 17 1 13 15,l 18 17,m 9 18])
 (Q (O [m 19 7,m 20 19,⟨(some 21),.mv (t 9),some (20,true),false⟩,⟨(some 22),.mv (t 6),some (20,true),false⟩,⟨(some 23),.call (.func zX) [(t 21),(t 22)],some (20,true),false⟩,o 24 (.pick (t 20) (t 23) (.const (.bool false))),m 7 24])
 (Q (K [0,6,7,9,13,14,15])
 (Q (O [m 25 9,n 26 1 25,m 27 6,n 28 1 27,B 29 .gtr 26 28])
 (.cond (t 29)
 (O [m 30 9,m 6 30])
 .skip))))))
 (Q (K [0,6,7,13,14,15])
 (O [o 31 (.bin .add (t 15) (ci 1)),m 15 31]))))) (K [0,6,7,13,14,15]))))))
 (Q (K [0,6,7])
 (Q (Q (O [m 32 7])
 (.cond (t 32)
 (Q (O [m 33 6,o 34 (.call (.func zf) [(t 33)]),m 2 34,o 3 (.mv (ci 0)),o 4 (.mv (ci 0)),o 5 (.mv (.const (.bool true)))])
 .ret)
 .skip))
 (Q (K [0])
 (Q (Q (O [m 35 0,n 36 1 35,o 37 (.mv (ci 0))])
 (Q (K [0,36,37]) (.block 2 (.loop (Q (Q (O [B 38 .lss 37 36])
 (Q (.cond (t 38)
 .skip
 (.exit 2))
 (Q (.block 3 (Q (O [m 39 37,m 10 39])
 (Q (O [m 41 0,m 42 10,o 43 (.call (.func zbm) [(t 41),(t 42)]),m 40 43,X 44 0 40,X 45 1 40,m 11 44,m 12 45])
 (Q (K [0,10,11,12,36,37])
 (Q (O [m 46 12])
 (.cond (t 46)
 (Q (O [m 47 10,m 48 11,o 2 (.mv (.const (.slice none 0 0))),m 3 47,m 4 48,o 5 (.mv (.const (.bool false)))])
 .ret)
 .skip))))))
 (Q (K [0,36,37])
 (O [o 49 (.bin .add (t 37) (ci 1)),m 37 49]))))) (K [0,36,37]))))))
 (Q (K [])
 (Q (O [o 2 (.mv (.const (.slice none 0 0))),o 3 (.mv (ci 0)),o 4 (.mv (ci 0)),o 5 (.mv (.const (.bool false)))])
 .ret))))))))))⟩
/-- (*coroner/edges.maker).owner -/
def zbY:AFn:=⟨2,[.tmp 4],
 (Q (O [o 4 (.mv (ci 0))])
 (Q (.opsA [] [m 8 0,o 9 (.nilc (t 8)),f 10 0 9,l 11 10,m 12 0,o 13 (.nilc (t 12)),f 14 1 13,f 15 0 14,l 16 15,m 17 1,o 18 (.call (.func zA) [(t 11),(t 16),(t 17)]),m 7 18,X 19 0 7,X 20 1 7,o 5 (.alloc [z,z,z,z,(.bool false)]),sb (.store 5 (t 5) (t 19)),m 6 20])
 (Q (K [5])
 (Q (O [f 21 0 5,l 22 21,m 4 22])
 .ret))))⟩
/-- coroner/reads.Front -/
def zdm:AFn:=⟨1,[.tmp 2],
 (Q (O [o 1 (.box (t 0)),o 2 (.mv (.const (.slice none 0 0)))])
 (Q (O [f 3 3 1,l 4 3,f 5 3 1,l 6 5,n 7 1 6,f 8 4 1,l 9 8,n 10 1 9,B 11 .sub 7 10,o 12 (.max [(ci 0),(t 11)]),o 13 (.slc 1 (t 4) none (some (t 12))),o 14 (.call (.func zf) [(t 13)]),m 2 14])
 (Q (K [2])
 .ret)))⟩
/-- coroner/coronerref13.Sound -/
def zdq:AFn:=⟨2,[.tmp 4],
 (Q (O [o 2 (.box (t 0)),o 4 (.mv (.const (.slice none 0 0)))])
 (Q (O [o 5 (.mv (.const (.slice none 0 0)))])
 (Q (O [L 10 1 2,m 11 1,o 12 (.call (.func zan) [(t 10),(t 11)]),m 6 12])
 (Q (Q (O [o 7 (.mv (ci 0))])
 (Q (K [2,5,6,7]) (.block 0 (.loop (Q (Q (Q (O [m 13 7,m 14 6,n 15 1 14,B 16 .lss 13 15])
 (.cond (t 16)
 .skip
 (.exit 0)))
 (Q (.block 1 (Q (.ops true [L 20 1 2,m 21 6,m 22 7,i 23 5 21 22,L 24 5 23,b 25 (.call (.func za2) [(t 20),(t 24)]),b 19 (.mv (t 25)),X 26 0 19,X 27 1 19,m 8 26,b 9 (.mv (t 27))])
 (Q (K [2,5,6,7,8])
 (Q (O [m 28 8,o 29 (.bin .eql (t 28) (ci 0))])
 (.cond (t 29)
 (O [m 30 5,m 31 6,m 32 7,i 33 5 31 32,L 34 5 33,o 35 (.bslice 5 1 [z,z,z,(.slice none 0 0),(.slice none 0 0)] [(0,(5,(t 34)))]),o 36 (.append 5 72 (t 30) (t 35)),m 5 36])
 .skip)))))
 (Q (K [2,5,6,7])
 (O [m 17 7,o 18 (.bin .add (t 17) (ci 1)),m 7 18])))) (K [2,5,6,7]))))))
 (Q (K [5])
 (Q (O [m 37 5,m 4 37])
 .ret))))))⟩
/-- cmp.Less[int] -/
def zdz:AFn:=⟨2,[.tmp 4],
 (Q (O [o 4 (.mv (.const (.bool false)))])
 (Q (O [m 5 0,o 6 (.call (.func zd) [(t 5)]),m 7 6,⟨(some 8),.mv (t 1),some (7,true),false⟩,⟨(some 9),.call (.func zd) [(t 8)],some (7,true),false⟩,⟨(some 10),.un .not (t 9),some (7,true),false⟩,o 11 (.pick (t 7) (t 10) (.const (.bool false))),m 12 11,⟨(some 13),.mv (t 0),some (12,false),false⟩,⟨(some 14),.mv (t 1),some (12,false),false⟩,⟨(some 15),.bin .lss (t 13) (t 14),some (12,false),false⟩,o 16 (.pick (t 12) (.const (.bool true)) (t 15)),m 4 16])
 (Q (K [4])
 .ret)))⟩
/-- coroner/coronerref12.ahead -/
def zc4:AFn:=⟨3,[.tmp 6],
 (Q (O [o 3 (.box (t 0)),o 6 (.mv (.const (.slice none 0 0)))])
 (Q (O [o 7 (.mv (.const (.slice none 0 0)))])
 (Q (Q (O [o 8 (.mv (ci 0))])
 (Q (K [1,2,3,7,8]) (.block 0 (.loop (Q (Q (Q (O [m 9 8,m 10 2,B 11 .lss 9 10])
 (.cond (t 11)
 .skip
 (.exit 0)))
 (Q (.block 1 (Q (O [f 14 2 3,l 15 14,m 16 8,i 17 4 15 16,f 18 0 17,l 19 18,o 20 (.un .not (t 19)),m 21 20,⟨(some 22),.faddr 2 (t 3),some (21,true),false⟩,⟨(some 23),.load1 (t 22),some (21,true),false⟩,⟨(some 24),.mv (t 8),some (21,true),false⟩,⟨(some 25),.iaddr 4 (t 23) (t 24),some (21,true),false⟩,⟨(some 26),.faddr 1 (t 25),some (21,true),false⟩,⟨(some 27),.load1 (t 26),some (21,true),false⟩,⟨(some 28),.mv (t 1),some (21,true),false⟩,⟨(some 29),.bin .eql (t 27) (t 28),some (21,true),false⟩,o 30 (.pick (t 21) (t 29) (.const (.bool false)))])
 (Q (K [1,2,3,7,8,30])
 (.cond (t 30)
 (O [m 31 7,f 32 2 3,l 33 32,m 34 8,i 35 4 33 34,f 36 2 35,l 37 36,o 38 (.bslice 1 1 [z] [(0,(1,(t 37)))]),o 39 (.append 1 8 (t 31) (t 38)),m 7 39])
 .skip))))
 (Q (K [1,2,3,7,8])
 (O [m 12 8,o 13 (.bin .add (t 12) (ci 1)),m 8 13])))) (K [1,2,3,7,8]))))))
 (Q (K [7])
 (Q (O [m 40 7,m 6 40])
 .ret)))))⟩
/-- coroner/encode.mayOp -/
def zcR:AFn:=⟨1,[.tmp 2],
 (Q (O [o 1 (.box (t 0)),o 2 (.mv (.const (.bool false)))])
 (Q (Q (O [f 3 0 1,l 4 3])
 (.cond (t 4)
 (Q (O [f 5 1 1,l 6 5,o 7 (.bslice 1 1 [z] [(0,(1,(t 6)))]),o 8 (.call (.func zx) [(t 7)]),m 9 8,⟨(some 10),.faddr 2 (t 1),some (9,true),false⟩,⟨(some 11),.load1 (t 10),some (9,true),false⟩,⟨(some 12),.bin .eql (t 11) (ci 0),some (9,true),false⟩,o 13 (.pick (t 9) (t 12) (.const (.bool false))),m 14 13,⟨(some 15),.faddr 3 (t 1),some (14,true),false⟩,⟨(some 16),.load1 (t 15),some (14,true),false⟩,⟨(some 17),.call (.func zx) [(t 16)],some (14,true),false⟩,o 18 (.pick (t 14) (t 17) (.const (.bool false))),m 2 18])
 (Q (K [2])
 .ret))
 .skip))
 (Q (K [1])
 (Q (O [f 19 1 1,l 20 19,f 21 2 1,l 22 21,o 23 (.bslice 1 2 [z,z] [(0,(1,(t 20))),(1,(1,(t 22)))]),o 24 (.call (.func zx) [(t 23)]),m 25 24,⟨(some 26),.faddr 3 (t 1),some (25,true),false⟩,⟨(some 27),.load1 (t 26),some (25,true),false⟩,⟨(some 28),.len 1 (t 27),some (25,true),false⟩,⟨(some 29),.bin .eql (t 28) (ci 0),some (25,true),false⟩,o 30 (.pick (t 25) (t 29) (.const (.bool false))),m 2 30])
 (Q (K [2])
 .ret)))))⟩
/-- coroner/order.Clean$1 -/
def zdx:AFn:=⟨3,[.tmp 4],
 (Q (O [o 4 (.mv (.const (.bool false)))])
 (Q (O [l 8 1,f 9 2 2,l 10 9,m 11 0,o 12 (.call (.func zA) [(t 8),(t 10),(t 11)]),m 7 12,X 13 0 7,X 14 1 7,o 5 (.alloc [z,z,z,z,(.bool false)]),s (.store 5 (t 5) (t 13)),m 6 14])
 (Q (K [5])
 (Q (O [f 15 4 5,l 16 15,m 4 16])
 .ret))))⟩
/-- coroner/table.goes[coroner/table.Read] -/
def zbX:AFn:=⟨1,[.tmp 2],
 (Q (O [o 1 (.box (t 0)),o 2 (.mv (.const .nilFunc))])
 (Q (O [o 3 (.mkf zD [] [(t 1)]),m 2 3])
 .ret))⟩
/-- coroner/coronerref12.Writes -/
def zcy:AFn:=⟨2,[.tmp 4],
 (Q (O [o 2 (.box (t 0)),o 4 (.mv (.const (.slice none 0 0)))])
 (Q (O [o 5 (.mv (.const (.slice none 0 0)))])
 (Q (O [L 10 1 2,o 11 (.call (.func zas) [(t 10)]),m 6 11])
 (Q (Q (O [o 7 (.mv (ci 0))])
 (Q (K [1,2,5,6,7]) (.block 0 (.loop (Q (Q (Q (O [m 12 7,m 13 6,n 14 1 13,B 15 .lss 12 14])
 (.cond (t 15)
 .skip
 (.exit 0)))
 (Q (.block 1 (Q (.ops true [L 18 1 2,m 19 6,m 20 7,i 21 1 19 20,l 22 21,o 23 (.call (.func zQ) [(t 18),(t 22)]),o 8 (.alloc [z,(.bool false),(.slice none 0 0)]),sb (.store 3 (t 8) (t 23))])
 (Q (K [1,2,5,6,7,8])
 (Q (O [o 9 (.mv (ci 0))])
 (Q (K [1,2,5,6,7,8,9]) (.block 2 (.loop (Q (Q (Q (O [m 24 9,f 25 2 8,l 26 25,n 27 1 26,B 28 .lss 24 27])
 (.cond (t 28)
 .skip
 (.exit 2)))
 (Q (.block 3 (Q (O [f 31 2 8,l 32 31,m 33 9,i 34 4 32 33,f 35 0 34,l 36 35,o 37 (.un .not (t 36)),m 38 37,⟨(some 39),.faddr 2 (t 8),some (38,true),false⟩,⟨(some 40),.load1 (t 39),some (38,true),false⟩,⟨(some 41),.mv (t 9),some (38,true),false⟩,⟨(some 42),.iaddr 4 (t 40) (t 41),some (38,true),false⟩,⟨(some 43),.faddr 1 (t 42),some (38,true),false⟩,⟨(some 44),.load1 (t 43),some (38,true),false⟩,⟨(some 45),.mv (t 1),some (38,true),false⟩,⟨(some 46),.bin .eql (t 44) (t 45),some (38,true),false⟩,o 47 (.pick (t 38) (t 46) (.const (.bool false)))])
 (Q (K [1,2,5,6,7,8,9,47])
 (.cond (t 47)
 (.ops true [m 48 5,f 49 0 8,l 50 49,m 51 9,m 52 1,f 53 2 8,l 54 53,m 55 9,i 56 4 54 55,f 57 2 56,l 58 57,o 59 (.build [z,z,z,z,(.bool false)] [(0,(1,(t 50))),(1,(1,(t 51))),(2,(1,(t 52))),(3,(1,(t 58)))]),o 60 (.bslice 5 1 [z,z,z,z,(.bool false)] [(0,(5,(t 59)))]),b 61 (.append 5 40 (t 48) (t 60)),b 5 (.mv (t 61))])
 .skip))))
 (Q (K [1,2,5,6,7,8,9])
 (O [m 29 9,o 30 (.bin .add (t 29) (ci 1)),m 9 30])))) (K [1,2,5,6,7,8,9])))))))))
 (Q (K [1,2,5,6,7])
 (O [m 16 7,o 17 (.bin .add (t 16) (ci 1)),m 7 17])))) (K [1,2,5,6,7]))))))
 (Q (K [5])
 (Q (O [m 62 5,m 4 62])
 .ret))))))⟩
/-- coroner/encode.may$1 -/
def zcI:AFn:=⟨1,[.tmp 2],
 (Q (O [o 2 (.mv (.const (.bool false)))])
 (Q (O [m 3 0,o 4 (.bin .lss (t 3) (ci 0)),m 5 4,⟨(some 6),.mv (t 0),some (5,false),false⟩,⟨(some 7),.bin .gtr (t 6) (ci 2147483647),some (5,false),false⟩,o 8 (.pick (t 5) (.const (.bool true)) (t 7)),m 2 8])
 (Q (K [2])
 .ret)))⟩
/-- (coroner/sorted.Set[int]).Has -/
def zcx:AFn:=⟨2,[.tmp 4],
 (Q (O [o 2 (.box (t 0)),o 4 (.mv (.const (.bool false)))])
 (Q (O [L 8 1 2,m 9 1,o 10 (.call (.func zbA) [(t 8),(t 9)]),m 7 10,X 11 0 7,X 12 1 7,m 5 11,m 6 12])
 (Q (K [6])
 (Q (O [m 13 6,m 4 13])
 .ret))))⟩
def tab1:List (Nat × ADef):=[(zcW,.code zcC),
 (zS,.code zdl),
 (zaU,.code zcg),
 (zl,.code zy),
 (zaz,.code zcX),
 (za4,.code zco),
 (zbi,.code zb2),
 (zba,.code zcA),
 (zP,.code zbP),
 (zbB,.code zb6),
 (zaX,.code zcr),
 (zaM,.code zdt),
 (za3,.code zcS),
 (zab,.code zbL),
 (zR,.code zdy),
 (zC,.code zc7),
 (zU,.code zc9),
 (zbl,.code zdh),
 (zX,.code zcE),
 (zaW,.code zcM),
 (zY,.code zdi),
 (zF,.code zaZ),
 (zae,.code zbJ),
 (zH,.code zc6),
 (zao,.code zdc),
 (za8,.code zcV),
 (zbs,.code zbQ),
 (zau,.code zcH),
 (z9,.code zcB),
 (zac,.code zdu),
 (zA,.code zc5),
 (zb,.code zn),
 (zaR,.code zbI),
 (zad,.code zcZ),
 (zW,.code zbT),
 (zbp,.code zce),
 (zd,.code zi),
 (zB,.code zcs),
 (zbx,.code zc8),
 (zax,.code zcT),
 (zaq,.code zbM),
 (zaE,.code zc1),
 (zbe,.code zcb),
 (zal,.code zb8),
 (zas,.code zb7),
 (zbh,.code zdp),
 (za2,.code zbZ),
 (zbk,.code zdd),
 (zq,.code zcj),
 (zbm,.code zcl),
 (zbq,.code zda),
 (ze,.code zdk),
 (zaw,.code zcd),
 (zE,.code zdf),
 (zbA,.code zci),
 (zaG,.code zcw),
 (zc,.code zO),
 (zbD,.code zcp),
 (zT,.code zbK),
 (zaD,.code zbW),
 (zbf,.code zcu),
 (zbb,.code zbV),
 (zaA,.code zdj),
 (zan,.code zbG),
 (zaV,.code zcm),
 (zaN,.code zck),
 (zar,.code zbR),
 (zM,.code zcP),
 (zG,.code zc3),
 (zbn,.code zcG),
 (zg,.code zc0),
 (za0,.code zde),
 (zQ,.code zcL),
 (za6,.code zdA),
 (zx,.code zcc),
 (zbw,.code zcF),
 (zaf,.code zcJ),
 (zaI,.code zcf),
 (zbc,.code zcD),
 (zD,.code zb4),
 (zaP,.code zca),
 (zbE,.code zc2),
 (z8,.code zdn),
 (zaY,.code zdr),
 (zbv,.code zcQ),
 (zbd,.code zch),
 (zaF,.code zcn),
 (zaJ,.code zbU),
 (zbo,.code zcK),
 (zay,.code zcq),
 (za9,.code zb0),
 (zf,.code zbO),
 (zby,.code zcY),
 (zj,.code zbY),
 (zaa,.code zdm),
 (zam,.code zdq),
 (zaL,.code zdz),
 (zbz,.code zc4),
 (zbj,.code zcR),
 (zp,.code zdx),
 (zag,.code zbX),
 (zaB,.code zcy),
 (zw,.code zcI),
 (zaO,.code zcx),
 (zbg,.oracle sortO),
 (zav,.oracle (sortXO zN)),
 (zaS,.oracle (sortEO zc)),
 (zI,.oracle (closedO (.bool true)))]
def prog1:AProg:=tabP tab1
theorem zll:prog1 zcW=some (.code zcC):=by kernel_rfl
theorem zlE:prog1 zS=some (.code zdl):=by kernel_rfl
theorem zgY:prog1 zaU=some (.code zcg):=by kernel_rfl
theorem zV:prog1 zl=some (.code zy):=by kernel_rfl
theorem zhw:prog1 zaz=some (.code zcX):=by kernel_rfl
theorem zgv:prog1 za4=some (.code zco):=by kernel_rfl
theorem ziX:prog1 zbi=some (.code zb2):=by kernel_rfl
theorem zlX:prog1 zba=some (.code zcA):=by kernel_rfl
theorem zkz:prog1 zP=some (.code zbP):=by kernel_rfl
theorem zhV:prog1 zbB=some (.code zb6):=by kernel_rfl
theorem zhs:prog1 zaX=some (.code zcr):=by kernel_rfl
theorem zgX:prog1 zaM=some (.code zdt):=by kernel_rfl
theorem zh1:prog1 za3=some (.code zcS):=by kernel_rfl
theorem zhK:prog1 zab=some (.code zbL):=by kernel_rfl
theorem zgV:prog1 zR=some (.code zdy):=by kernel_rfl
theorem zij:prog1 zC=some (.code zc7):=by kernel_rfl
theorem zgp:prog1 zU=some (.code zc9):=by kernel_rfl
theorem ziq:prog1 zbl=some (.code zdh):=by kernel_rfl
theorem zjh:prog1 zX=some (.code zcE):=by kernel_rfl
theorem zgz:prog1 zaW=some (.code zcM):=by kernel_rfl
theorem zlb:prog1 zY=some (.code zdi):=by kernel_rfl
theorem zeB:prog1 zF=some (.code zaZ):=by kernel_rfl
theorem zkt:prog1 zae=some (.code zbJ):=by kernel_rfl
theorem zh4:prog1 zH=some (.code zc6):=by kernel_rfl
theorem zkN:prog1 zao=some (.code zdc):=by kernel_rfl
theorem zkC:prog1 za8=some (.code zcV):=by kernel_rfl
theorem zh7:prog1 zbs=some (.code zbQ):=by kernel_rfl
theorem zlT:prog1 zau=some (.code zcH):=by kernel_rfl
theorem ziv:prog1 z9=some (.code zcB):=by kernel_rfl
theorem zji:prog1 zac=some (.code zdu):=by kernel_rfl
theorem zjv:prog1 zA=some (.code zc5):=by kernel_rfl
theorem zL:prog1 zb=some (.code zn):=by kernel_rfl
theorem zgt:prog1 zaR=some (.code zbI):=by kernel_rfl
theorem zge:prog1 zad=some (.code zcZ):=by kernel_rfl
theorem zky:prog1 zW=some (.code zbT):=by kernel_rfl
theorem zj5:prog1 zbp=some (.code zce):=by kernel_rfl
theorem zh:prog1 zd=some (.code zi):=by kernel_rfl
theorem zgQ:prog1 zB=some (.code zcs):=by kernel_rfl
theorem zku:prog1 zbx=some (.code zc8):=by kernel_rfl
theorem zgJ:prog1 zax=some (.code zcT):=by kernel_rfl
theorem zho:prog1 zaq=some (.code zbM):=by kernel_rfl
theorem zi8:prog1 zaE=some (.code zc1):=by kernel_rfl
theorem zkd:prog1 zbe=some (.code zcb):=by kernel_rfl
theorem zjT:prog1 zal=some (.code zb8):=by kernel_rfl
theorem zgA:prog1 zas=some (.code zb7):=by kernel_rfl
theorem zlu:prog1 zbh=some (.code zdp):=by kernel_rfl
theorem zg8:prog1 za2=some (.code zbZ):=by kernel_rfl
theorem zkM:prog1 zbk=some (.code zdd):=by kernel_rfl
theorem zj8:prog1 zq=some (.code zcj):=by kernel_rfl
theorem zhy:prog1 zbm=some (.code zcl):=by kernel_rfl
theorem zid:prog1 zbq=some (.code zda):=by kernel_rfl
theorem zhr:prog1 ze=some (.code zdk):=by kernel_rfl
theorem zgg:prog1 zaw=some (.code zcd):=by kernel_rfl
theorem zga:prog1 zE=some (.code zdf):=by kernel_rfl
theorem zlL:prog1 zbA=some (.code zci):=by kernel_rfl
theorem zhH:prog1 zaG=some (.code zcw):=by kernel_rfl
theorem zb5:prog1 zc=some (.code zO):=by kernel_rfl
theorem zlF:prog1 zbD=some (.code zcp):=by kernel_rfl
theorem zlh:prog1 zT=some (.code zbK):=by kernel_rfl
theorem zlU:prog1 zaD=some (.code zbW):=by kernel_rfl
theorem zjF:prog1 zbf=some (.code zcu):=by kernel_rfl
theorem zgB:prog1 zbb=some (.code zbV):=by kernel_rfl
theorem zjW:prog1 zaA=some (.code zdj):=by kernel_rfl
theorem zhJ:prog1 zan=some (.code zbG):=by kernel_rfl
theorem zkj:prog1 zaV=some (.code zcm):=by kernel_rfl
theorem zjo:prog1 zaN=some (.code zck):=by kernel_rfl
theorem ziQ:prog1 zar=some (.code zbR):=by kernel_rfl
theorem zje:prog1 zM=some (.code zcP):=by kernel_rfl
theorem zjp:prog1 zG=some (.code zc3):=by kernel_rfl
theorem zhm:prog1 zbn=some (.code zcG):=by kernel_rfl
theorem zim:prog1 zg=some (.code zc0):=by kernel_rfl
theorem ziU:prog1 za0=some (.code zde):=by kernel_rfl
theorem zlM:prog1 zQ=some (.code zcL):=by kernel_rfl
theorem zgO:prog1 za6=some (.code zdA):=by kernel_rfl
theorem zjm:prog1 zx=some (.code zcc):=by kernel_rfl
theorem zlJ:prog1 zbw=some (.code zcF):=by kernel_rfl
theorem zgo:prog1 zaf=some (.code zcJ):=by kernel_rfl
theorem zkV:prog1 zaI=some (.code zcf):=by kernel_rfl
theorem zhb:prog1 zbc=some (.code zcD):=by kernel_rfl
theorem zju:prog1 zD=some (.code zb4):=by kernel_rfl
theorem zhD:prog1 zaP=some (.code zca):=by kernel_rfl
theorem zjQ:prog1 zbE=some (.code zc2):=by kernel_rfl
theorem ziI:prog1 z8=some (.code zdn):=by kernel_rfl
theorem zlN:prog1 zaY=some (.code zdr):=by kernel_rfl
theorem zjn:prog1 zbv=some (.code zcQ):=by kernel_rfl
theorem ziR:prog1 zbd=some (.code zch):=by kernel_rfl
theorem zjb:prog1 zaF=some (.code zcn):=by kernel_rfl
theorem zkD:prog1 zaJ=some (.code zbU):=by kernel_rfl
theorem zk4:prog1 zbo=some (.code zcK):=by kernel_rfl
theorem zlc:prog1 zay=some (.code zcq):=by kernel_rfl
theorem zke:prog1 za9=some (.code zb0):=by kernel_rfl
theorem zjx:prog1 zf=some (.code zbO):=by kernel_rfl
theorem zis:prog1 zby=some (.code zcY):=by kernel_rfl
theorem zlY:prog1 zj=some (.code zbY):=by kernel_rfl
theorem zkJ:prog1 zaa=some (.code zdm):=by kernel_rfl
theorem ziA:prog1 zam=some (.code zdq):=by kernel_rfl
theorem zkO:prog1 zaL=some (.code zdz):=by kernel_rfl
theorem zli:prog1 zbz=some (.code zc4):=by kernel_rfl
theorem ziZ:prog1 zbj=some (.code zcR):=by kernel_rfl
theorem zhG:prog1 zp=some (.code zdx):=by kernel_rfl
theorem zl6:prog1 zag=some (.code zbX):=by kernel_rfl
theorem ziK:prog1 zaB=some (.code zcy):=by kernel_rfl
theorem zgw:prog1 zw=some (.code zcI):=by kernel_rfl
theorem zjV:prog1 zaO=some (.code zcx):=by kernel_rfl
theorem zfQ:prog1 zbg=some (.oracle sortO):=by kernel_rfl
theorem zex:prog1 zav=some (.oracle (sortXO zN)):=by kernel_rfl
theorem zfw:prog1 zaS=some (.oracle (sortEO zc)):=by kernel_rfl
theorem zlK:prog1 zI=some (.oracle (closedO (.bool true))):=by kernel_rfl
theorem gO:type_of% @g_op:=@g_op
theorem eZ:type_of% @Evs.nil:=@Evs.nil
theorem eS:type_of% @Evs.cons:=@Evs.cons
theorem qD {c:Prop} (h:c:=by ((repeat' apply And.intro) <;> first|omega|trivial|assumption|(simp;done)|(simp;omega))):c:=h
end Go.AMS
