/- The code of the functions that the law runs, as the abstract machine reads it. -/
import Derived.Test.YtialmffcjaechaaDoorAmSepP
import Derived.Test.YtialmffcjaechaaDoorAmSepO
import Derived.Test.YtialmffcjaechaaDoorAmSepK
import Derived.Test.YtialmffcjaechaaDoorAmTz
import Derived.Test.YtialmffcjaechaaDoorAmSort
import Derived.Test.YtialmffcjaechaaDoorAmSortI
namespace Go.AMS
open Go.AM hiding Kt At WP WL Runs RunsY
open C
set_option maxRecDepth 100000
set_option linter.unusedVariables false
def n_l06_BitsGoes : Nat := 3
def n_l06_works : Nat := 7
def n_bits_New : Nat := 8
def n_bits_Bits_Put : Nat := 9
def n_r06_Set : Nat := 10
def n_r06_New : Nat := 11
def n_bits_Bits_All : Nat := 12
def n_bits_Bits_Drop : Nat := 13
def n_r06_Next : Nat := 14
def n_r01_Same : Nat := 15
def n_bits_Bits_Clone : Nat := 16
def n_bits_Bits_Room : Nat := 17
def n_bits_Bits_List : Nat := 18
def n_bits_Bits_Same : Nat := 20
def n_bits_Bits_Count : Nat := 21
def n_bits_Full : Nat := 22
def n_bits_Bits_Next : Nat := 26
def n_bits_Bits_Or : Nat := 27
def n_bits_Bits_fits : Nat := 30
def n_bits_Bits_All_c1 : Nat := 31
def n_math_bits_TrailingZeros64 : Nat := 33
/-- coroner/bits.New -/
def F_bits_New : AFn := ⟨1, [.tmp 2],
 (.seq (.ops false [o 2 (.mv (.const (.pointer none)))])
 (.seq (.ops false [o 3 (.mv (t 0)), o 4 (.min [(t 3), (ci 65536)]), o 5 (.max [(ci 0), (t 4)]), o 0 (.mv (t 5))])
 (.seq (.ops false [o 6 (.mv (t 0)), o 7 (.mv (t 0)), o 8 (.bin .add (t 7) (ci 64)), o 9 (.bin .sub (t 8) (ci 1)), o 10 (.bin .quo (t 9) (ci 64)), o 11 (.mkslice 1 8 [(.int .u64 0)] (t 10) (t 10)), o 12 (.build [(.int .i64 0), (.slice none 0 0)] [(0, (1, (t 6))), (1, (1, (t 11)))]), o 13 (.box (t 12)), o 2 (.mv (t 13))])
 (.seq (.keep [2])
 .ret))))⟩
/-- (*coroner/bits.Bits).All -/
def F_bits_Bits_All : AFn := ⟨1, [.tmp 2],
 (.seq (.ops false [o 1 (.box (t 0)), o 2 (.mv (.const .nilFunc))])
 (.seq (.ops false [o 3 (.mkf n_bits_Bits_All_c1 [] [(t 1)]), o 2 (.mv (t 3))])
 .ret))⟩
/-- (*coroner/bits.Bits).Clone -/
def F_bits_Bits_Clone : AFn := ⟨1, [.tmp 2],
 (.seq (.ops false [o 2 (.mv (.const (.pointer none)))])
 (.seq (.ops false [o 4 (.mv (t 0)), o 5 (.call (.func n_bits_Bits_Room) [(t 4)]), o 6 (.call (.func n_bits_New) [(t 5)]), o 3 (.mv (t 6))])
 (.seq (.ops false [o 7 (.mv (t 3)), o 8 (.mv (t 0)), o 9 (.call (.func n_bits_Bits_Or) [(t 7), (t 8)])])
 (.seq (.ops false [o 10 (.mv (t 3)), o 2 (.mv (t 10))])
 .ret))))⟩
/-- (*coroner/bits.Bits).Same -/
def F_bits_Bits_Same : AFn := ⟨2, [.tmp 4],
 (.seq (.ops false [o 4 (.mv (.const (.bool false)))])
 (.seq (.ops false [o 7 (.mv (t 0)), o 8 (.call (.func n_bits_Bits_Next) [(t 7), (ci 0)]), o 9 (.mv (t 1)), o 10 (.call (.func n_bits_Bits_Next) [(t 9), (ci 0)]), o 5 (.mv (t 8)), o 6 (.mv (t 10))])
 (.seq (.seq (.keep [0, 1, 5, 6]) (.block 0 (.loop (.seq (.seq (.seq (.ops false [o 11 (.mv (t 5)), o 12 (.mv (t 6)), o 13 (.bin .eql (t 11) (t 12)), o 14 (.mv (t 13)), ⟨(some 15), .mv (t 5), some (14, true), false⟩, ⟨(some 16), .bin .geq (t 15) (ci 0), some (14, true), false⟩, o 17 (.pick (t 14) (t 16) (.const (.bool false)))])
 (.seq (.keep [0, 1, 5, 6, 17])
 (.cond (t 17)
 .skip
 (.exit 0))))
 (.seq (.keep [0, 1, 5])
 (.block 1 (.ops false [o 18 (.mv (t 0)), o 19 (.mv (t 5)), o 20 (.bin .add (t 19) (ci 1)), o 21 (.call (.func n_bits_Bits_Next) [(t 18), (t 20)]), o 22 (.mv (t 1)), o 23 (.mv (t 5)), o 24 (.bin .add (t 23) (ci 1)), o 25 (.call (.func n_bits_Bits_Next) [(t 22), (t 24)]), o 5 (.mv (t 21)), o 6 (.mv (t 25))])))) (.keep [0, 1, 5, 6])))))
 (.seq (.keep [5, 6])
 (.seq (.ops false [o 26 (.mv (t 5)), o 27 (.mv (t 6)), o 28 (.bin .eql (t 26) (t 27)), o 4 (.mv (t 28))])
 .ret)))))⟩
/-- (*coroner/bits.Bits).Put -/
def F_bits_Bits_Put : AFn := ⟨2, [],
 (.seq (.ops false [o 6 (.mv (t 1)), o 7 (.len 1 (t 6)), o 8 (.mv (ci 0))])
 (.seq (.keep [0, 6, 7, 8]) (.block 0 (.loop (.seq (.seq (.ops false [o 9 (.bin .lss (t 8) (t 7))])
 (.seq (.cond (t 9)
 .skip
 (.exit 0))
 (.seq (.block 1 (.seq (.ops false [o 10 (.iaddr 1 (t 6) (t 8)), o 11 (.load1 (t 10)), o 5 (.mv (t 11))])
 (.seq (.ops false [o 12 (.mv (t 0)), o 13 (.mv (t 5)), o 14 (.call (.func n_bits_Bits_fits) [(t 12), (t 13)])])
 (.cond (t 14)
 (.ops true [o 15 (.mv (t 0)), o 16 (.nilc (t 15)), o 17 (.faddr 1 (t 16)), o 18 (.load1 (t 17)), o 19 (.mv (t 5)), o 20 (.bin .quo (t 19) (ci 64)), o 21 (.iaddr 1 (t 18) (t 20)), o 22 (.load1 (t 21)), o 23 (.mv (t 5)), o 24 (.bin .rem (t 23) (ci 64)), o 25 (.bin .shl (.const (.int .u64 1)) (t 24)), b 26 (.bin .or (t 22) (t 25)), b 27 (.iaddr 1 (t 18) (t 20)), sb (.store 1 (t 27) (t 26))])
 .skip))))
 (.seq (.keep [0, 6, 7, 8])
 (.ops false [o 28 (.bin .add (t 8) (ci 1)), o 8 (.mv (t 28))]))))) (.keep [0, 6, 7, 8]))))))⟩
/-- (*coroner/bits.Bits).Drop -/
def F_bits_Bits_Drop : AFn := ⟨2, [],
 (.seq (.ops false [o 6 (.mv (t 1)), o 7 (.len 1 (t 6)), o 8 (.mv (ci 0))])
 (.seq (.keep [0, 6, 7, 8]) (.block 0 (.loop (.seq (.seq (.ops false [o 9 (.bin .lss (t 8) (t 7))])
 (.seq (.cond (t 9)
 .skip
 (.exit 0))
 (.seq (.block 1 (.seq (.ops false [o 10 (.iaddr 1 (t 6) (t 8)), o 11 (.load1 (t 10)), o 5 (.mv (t 11))])
 (.seq (.ops false [o 12 (.mv (t 0)), o 13 (.mv (t 5)), o 14 (.call (.func n_bits_Bits_fits) [(t 12), (t 13)])])
 (.cond (t 14)
 (.ops true [o 15 (.mv (t 0)), o 16 (.nilc (t 15)), o 17 (.faddr 1 (t 16)), o 18 (.load1 (t 17)), o 19 (.mv (t 5)), o 20 (.bin .quo (t 19) (ci 64)), o 21 (.iaddr 1 (t 18) (t 20)), o 22 (.load1 (t 21)), o 23 (.mv (t 5)), o 24 (.bin .rem (t 23) (ci 64)), o 25 (.bin .shl (.const (.int .u64 1)) (t 24)), b 26 (.bin .andNot (t 22) (t 25)), b 27 (.iaddr 1 (t 18) (t 20)), sb (.store 1 (t 27) (t 26))])
 .skip))))
 (.seq (.keep [0, 6, 7, 8])
 (.ops false [o 28 (.bin .add (t 8) (ci 1)), o 8 (.mv (t 28))]))))) (.keep [0, 6, 7, 8]))))))⟩
/-- (*coroner/bits.Bits).Room -/
def F_bits_Bits_Room : AFn := ⟨1, [.tmp 2],
 (.seq (.ops false [o 2 (.mv (ci 0))])
 (.seq (.seq (.ops false [o 3 (.mv (t 0)), o 4 (.eqv 1 false (t 3) (.const (.pointer none)))])
 (.cond (t 4)
 (.seq (.ops false [o 2 (.mv (ci 0))])
 .ret)
 .skip))
 (.seq (.ops false [o 5 (.mv (t 0)), o 6 (.nilc (t 5)), o 7 (.faddr 0 (t 6)), o 8 (.load1 (t 7)), o 2 (.mv (t 8))])
 .ret)))⟩
/-- (*coroner/bits.Bits).Count -/
def F_bits_Bits_Count : AFn := ⟨1, [.tmp 2],
 (.seq (.ops false [o 2 (.mv (ci 0))])
 (.seq (.ops false [o 3 (.alloc [(.int .i64 0)]), s (.store 1 (t 3) (ci 0))])
 (.seq (.seq (.ops false [o 4 (.mv (t 0)), o 5 (.call (.func n_bits_Bits_All) [(t 4)])])
 (.block 0 (.rfun (t 5) [6]
 .skip
 (.block 1 (.ops false [o 7 (.load1 (t 3)), o 8 (.bin .add (t 7) (ci 1)), s (.store 1 (t 3) (t 8))])))))
 (.seq (.keep [3])
 (.seq (.ops false [o 9 (.load1 (t 3)), o 2 (.mv (t 9))])
 .ret)))))⟩
/-- coroner/coronerref06.Set -/
def F_r06_Set : AFn := ⟨3, [.tmp 6],
 (.seq (.ops false [o 6 (.mv (.const (.slice none 0 0)))])
 (.seq (.ops false [o 9 (.bslice 1 0 [] []), o 10 (.mv (t 0)), o 11 (.append 1 1 (t 9) (t 10)), o 7 (.mv (t 11))])
 (.seq (.seq (.ops false [o 8 (.mv (ci 0))])
 (.seq (.keep [1, 2, 7, 8]) (.block 0 (.loop (.seq (.seq (.seq (.ops false [o 12 (.mv (t 8)), o 13 (.mv (t 1)), o 14 (.len 1 (t 13)), o 15 (.bin .lss (t 12) (t 14))])
 (.cond (t 15)
 .skip
 (.exit 0)))
 (.seq (.block 1 (.seq (.ops false [o 18 (.mv (t 1)), o 19 (.mv (t 8)), o 20 (.iaddr 1 (t 18) (t 19)), o 21 (.load1 (t 20)), o 22 (.bin .geq (t 21) (ci 0)), o 23 (.mv (t 22)), ⟨(some 24), .mv (t 1), some (23, true), false⟩, ⟨(some 25), .mv (t 8), some (23, true), false⟩, ⟨(some 26), .iaddr 1 (t 24) (t 25), some (23, true), false⟩, ⟨(some 27), .load1 (t 26), some (23, true), false⟩, ⟨(some 28), .mv (t 7), some (23, true), false⟩, ⟨(some 29), .len 1 (t 28), some (23, true), false⟩, ⟨(some 30), .bin .lss (t 27) (t 29), some (23, true), false⟩, o 31 (.pick (t 23) (t 30) (.const (.bool false)))])
 (.seq (.keep [1, 2, 7, 8, 31])
 (.cond (t 31)
 (.ops false [o 32 (.mv (t 7)), o 33 (.mv (t 1)), o 34 (.mv (t 8)), o 35 (.iaddr 1 (t 33) (t 34)), o 36 (.load1 (t 35)), o 37 (.mv (t 2)), o 38 (.iaddr 1 (t 32) (t 36)), s (.store 1 (t 38) (t 37))])
 .skip))))
 (.seq (.keep [1, 2, 7, 8])
 (.ops false [o 16 (.mv (t 8)), o 17 (.bin .add (t 16) (ci 1)), o 8 (.mv (t 17))])))) (.keep [1, 2, 7, 8]))))))
 (.seq (.keep [7])
 (.seq (.ops false [o 39 (.mv (t 7)), o 6 (.mv (t 39))])
 .ret)))))⟩
/-- coroner/coronerref06.Next -/
def F_r06_Next : AFn := ⟨2, [.tmp 4],
 (.seq (.ops false [o 4 (.mv (ci 0))])
 (.seq (.seq (.ops false [o 5 (.mv (ci 0))])
 (.seq (.keep [0, 1, 5]) (.block 0 (.loop (.seq (.seq (.seq (.ops false [o 6 (.mv (t 5)), o 7 (.mv (t 0)), o 8 (.len 1 (t 7)), o 9 (.bin .lss (t 6) (t 8))])
 (.cond (t 9)
 .skip
 (.exit 0)))
 (.seq (.block 1 (.seq (.ops false [o 12 (.mv (t 5)), o 13 (.mv (t 1)), o 14 (.bin .geq (t 12) (t 13)), o 15 (.mv (t 14)), ⟨(some 16), .mv (t 0), some (15, true), false⟩, ⟨(some 17), .mv (t 5), some (15, true), false⟩, ⟨(some 18), .iaddr 1 (t 16) (t 17), some (15, true), false⟩, ⟨(some 19), .load1 (t 18), some (15, true), false⟩, o 20 (.pick (t 15) (t 19) (.const (.bool false)))])
 (.seq (.keep [0, 1, 5, 20])
 (.cond (t 20)
 (.seq (.ops false [o 21 (.mv (t 5)), o 4 (.mv (t 21))])
 .ret)
 .skip))))
 (.seq (.keep [0, 1, 5])
 (.ops false [o 10 (.mv (t 5)), o 11 (.bin .add (t 10) (ci 1)), o 5 (.mv (t 11))])))) (.keep [0, 1, 5]))))))
 (.seq (.keep [])
 (.seq (.ops false [o 4 (.mv (ci (-1)))])
 .ret))))⟩
/-- (*coroner/bits.Bits).List -/
def F_bits_Bits_List : AFn := ⟨1, [.tmp 2],
 (.seq (.ops false [o 2 (.mv (.const (.slice none 0 0)))])
 (.seq (.ops false [o 3 (.alloc [(.slice none 0 0)])])
 (.seq (.seq (.ops false [o 5 (.mv (t 0)), o 6 (.call (.func n_bits_Bits_All) [(t 5)])])
 (.block 0 (.rfun (t 6) [7]
 (.ops false [o 4 (.mv (t 7))])
 (.block 1 (.ops false [o 8 (.load1 (t 3)), o 9 (.mv (t 4)), o 10 (.bslice 1 1 [(.int .i64 0)] [(0, (1, (t 9)))]), o 11 (.append 1 8 (t 8) (t 10)), s (.store 1 (t 3) (t 11))])))))
 (.seq (.keep [3])
 (.seq (.ops false [o 12 (.load1 (t 3)), o 2 (.mv (t 12))])
 .ret)))))⟩
/-- coroner/bits.Full -/
def F_bits_Full : AFn := ⟨1, [.tmp 2],
 (.seq (.ops false [o 2 (.mv (.const (.pointer none)))])
 (.seq (.ops false [o 5 (.mv (t 0)), o 6 (.call (.func n_bits_New) [(t 5)]), o 3 (.mv (t 6))])
 (.seq (.seq (.ops false [o 7 (.mv (t 3)), o 8 (.nilc (t 7)), o 9 (.faddr 0 (t 8)), o 10 (.load1 (t 9)), o 11 (.mv (ci 0))])
 (.seq (.keep [3, 10, 11]) (.block 0 (.loop (.seq (.seq (.ops false [o 12 (.bin .lss (t 11) (t 10))])
 (.seq (.cond (t 12)
 .skip
 (.exit 0))
 (.seq (.block 1 (.seq (.ops false [o 13 (.mv (t 11)), o 4 (.mv (t 13))])
 (.ops false [o 14 (.mv (t 3)), o 15 (.mv (t 4)), o 16 (.bslice 1 1 [(.int .i64 0)] [(0, (1, (t 15)))]), o 17 (.call (.func n_bits_Bits_Put) [(t 14), (t 16)])])))
 (.ops false [o 18 (.bin .add (t 11) (ci 1)), o 11 (.mv (t 18))])))) (.keep [3, 10, 11]))))))
 (.seq (.keep [3])
 (.seq (.ops false [o 19 (.mv (t 3)), o 2 (.mv (t 19))])
 .ret)))))⟩
/-- (*coroner/bits.Bits).Next -/
def F_bits_Bits_Next : AFn := ⟨2, [.tmp 4],
 (.seq (.ops false [o 4 (.mv (ci 0))])
 (.seq (.seq (.ops false [o 6 (.mv (t 1)), o 7 (.max [(ci 0), (t 6)]), o 1 (.mv (t 7))])
 (.seq (.keep [0, 1]) (.block 0 (.loop (.seq (.seq (.seq (.ops false [o 8 (.mv (t 1)), o 9 (.mv (t 0)), o 10 (.call (.func n_bits_Bits_Room) [(t 9)]), o 11 (.bin .lss (t 8) (t 10))])
 (.cond (t 11)
 .skip
 (.exit 0)))
 (.seq (.block 1 (.seq (.ops false [o 16 (.mv (t 0)), o 17 (.nilc (t 16)), o 18 (.faddr 1 (t 17)), o 19 (.load1 (t 18)), o 20 (.mv (t 1)), o 21 (.bin .quo (t 20) (ci 64)), o 22 (.iaddr 1 (t 19) (t 21)), o 23 (.load1 (t 22)), o 24 (.mv (t 1)), o 25 (.bin .rem (t 24) (ci 64)), o 26 (.bin .shr (t 23) (t 25)), o 5 (.mv (t 26))])
 (.seq (.keep [0, 1, 5])
 (.seq (.ops false [o 27 (.mv (t 5)), o 28 (.bin .neq (t 27) (.const (.int .u64 0)))])
 (.cond (t 28)
 (.seq (.ops false [o 29 (.mv (t 1)), o 30 (.mv (t 5)), o 31 (.call (.func n_math_bits_TrailingZeros64) [(t 30)]), o 32 (.bin .add (t 29) (t 31)), o 4 (.mv (t 32))])
 .ret)
 .skip)))))
 (.seq (.keep [0, 1])
 (.ops false [o 12 (.mv (t 1)), o 13 (.bin .quo (t 12) (ci 64)), o 14 (.bin .add (t 13) (ci 1)), o 15 (.bin .mul (t 14) (ci 64)), o 1 (.mv (t 15))])))) (.keep [0, 1]))))))
 (.seq (.keep [])
 (.seq (.ops false [o 4 (.mv (ci (-1)))])
 .ret))))⟩
/-- (*coroner/bits.Bits).fits -/
def F_bits_Bits_fits : AFn := ⟨2, [.tmp 4],
 (.seq (.ops false [o 4 (.mv (.const (.bool false)))])
 (.seq (.ops false [o 5 (.mv (t 1)), o 6 (.bin .geq (t 5) (ci 0)), o 7 (.mv (t 6)), ⟨(some 8), .mv (t 1), some (7, true), false⟩, ⟨(some 9), .mv (t 0), some (7, true), false⟩, ⟨(some 10), .call (.func n_bits_Bits_Room) [(t 9)], some (7, true), false⟩, ⟨(some 11), .bin .lss (t 8) (t 10), some (7, true), false⟩, o 12 (.pick (t 7) (t 11) (.const (.bool false))), o 4 (.mv (t 12))])
 (.seq (.keep [4])
 .ret)))⟩
/-- coroner/coronerlaw06.BitsGoes -/
def F_l06_BitsGoes : AFn := ⟨5, [.tmp 10],
 (.seq (.ops false [o 7 (.box (t 2)), o 8 (.box (t 3)), o 9 (.box (t 4)), o 10 (.mv (.const (.bool false)))])
 (.seq (.seq (.ops false [o 19 (.mv (t 0)), o 20 (.bin .gtr (t 19) (ci 300)), o 21 (.mv (t 20)), ⟨(some 22), .mv (t 1), some (21, false), false⟩, ⟨(some 23), .len 1 (t 22), some (21, false), false⟩, ⟨(some 24), .bin .gtr (t 23) (ci 300), some (21, false), false⟩, o 25 (.pick (t 21) (.const (.bool true)) (t 24)), o 26 (.mv (t 25)), ⟨(some 27), .call (.func n_l06_works) [], some (26, false), false⟩, ⟨(some 28), .un .not (t 27), some (26, false), false⟩, o 29 (.pick (t 26) (.const (.bool true)) (t 28))])
 (.seq (.keep [0, 1, 7, 8, 9, 10, 29])
 (.cond (t 29)
 (.seq (.ops false [o 30 (.call (.func n_l06_works) []), o 10 (.mv (t 30))])
 .ret)
 .skip)))
 (.seq (.keep [0, 1, 7, 8, 9, 10])
 (.seq (.ops false [o 31 (.mv (t 0)), o 32 (.call (.func n_bits_New) [(t 31)]), o 11 (.alloc [(.pointer none)]), s (.store 1 (t 11) (t 32))])
 (.seq (.ops false [o 33 (.load1 (t 11)), o 34 (.mv (t 1)), o 35 (.call (.func n_bits_Bits_Put) [(t 33), (t 34)])])
 (.seq (.ops false [o 36 (.mv (t 0)), o 37 (.call (.func n_r06_New) [(t 36), (.const (.bool false))]), o 38 (.mv (t 1)), o 39 (.call (.func n_r06_Set) [(t 37), (t 38), (.const (.bool true))]), o 12 (.mv (t 39))])
 (.seq (.ops false [o 40 (.load1 (t 11)), o 41 (.call (.func n_bits_Bits_All) [(t 40)]), o 13 (.mv (t 41))])
 (.seq (.seq (.ops false [o 42 (.mv (t 13)), o 43 (.eqv 4 false (t 42) (.const .nilFunc))])
 (.cond (t 43)
 (.seq (.ops false [o 10 (.mv (.const (.bool false)))])
 .ret)
 .skip))
 (.seq (.ops false [o 14 (.alloc [(.slice none 0 0)]), o 15 (.mv (.const (.slice none 0 0)))])
 (.seq (.seq (.ops false [o 44 (.mv (t 13))])
 (.block 0 (.rfun (t 44) [45]
 (.ops false [o 16 (.mv (t 45))])
 (.block 1 (.seq (.ops false [o 46 (.load1 (t 14)), o 47 (.mv (t 16)), o 48 (.bslice 1 1 [(.int .i64 0)] [(0, (1, (t 47)))]), o 49 (.append 1 8 (t 46) (t 48)), s (.store 1 (t 14) (t 49))])
 (.seq (.seq (.ops false [o 50 (.load1 (t 14)), o 51 (.len 1 (t 50)), o 52 (.bin .eql (t 51) (ci 3))])
 (.cond (t 52)
 (.seq (.ops false [o 53 (.load1 (t 11)), o 54 (.load1 (t 8)), o 55 (.bslice 1 1 [(.int .i64 0)] [(0, (1, (t 54)))]), o 56 (.call (.func n_bits_Bits_Put) [(t 53), (t 55)])])
 (.ops false [o 57 (.load1 (t 11)), o 58 (.load1 (t 9)), o 59 (.bslice 1 1 [(.int .i64 0)] [(0, (1, (t 58)))]), o 60 (.call (.func n_bits_Bits_Drop) [(t 57), (t 59)])]))
 .skip))
 (.seq (.keep [7, 16])
 (.seq (.ops false [o 61 (.mv (t 16)), o 62 (.load1 (t 7)), o 63 (.bin .eql (t 61) (t 62))])
 (.cond (t 63)
 (.exit 0)
 .skip)))))))))
 (.seq (.keep [7, 8, 9, 12, 14, 15])
 (.seq (.ops false [o 17 (.mv (ci (-1)))])
 (.seq (.seq (.ops false [o 18 (.mv (ci 0))])
 (.seq (.keep [7, 8, 9, 12, 14, 15, 17, 18]) (.block 2 (.loop (.seq (.seq (.seq (.ops false [o 64 (.mv (t 18)), o 65 (.bin .leq (t 64) (ci 300))])
 (.cond (t 65)
 .skip
 (.exit 2)))
 (.seq (.block 3 (.seq (.ops false [o 68 (.mv (t 12)), o 69 (.mv (t 17)), o 70 (.bin .add (t 69) (ci 1)), o 71 (.call (.func n_r06_Next) [(t 68), (t 70)]), o 17 (.mv (t 71))])
 (.seq (.seq (.ops false [o 72 (.mv (t 17)), o 73 (.bin .lss (t 72) (ci 0))])
 (.cond (t 73)
 (.exit 2)
 .skip))
 (.seq (.ops false [o 74 (.mv (t 15)), o 75 (.mv (t 17)), o 76 (.bslice 1 1 [(.int .i64 0)] [(0, (1, (t 75)))]), o 77 (.append 1 8 (t 74) (t 76)), o 15 (.mv (t 77))])
 (.seq (.seq (.ops false [o 78 (.mv (t 15)), o 79 (.len 1 (t 78)), o 80 (.bin .eql (t 79) (ci 3))])
 (.cond (t 80)
 (.ops true [o 81 (.mv (t 12)), o 82 (.load1 (t 8)), o 83 (.bslice 1 1 [(.int .i64 0)] [(0, (1, (t 82)))]), o 84 (.call (.func n_r06_Set) [(t 81), (t 83), (.const (.bool true))]), o 85 (.load1 (t 9)), o 86 (.bslice 1 1 [(.int .i64 0)] [(0, (1, (t 85)))]), b 87 (.call (.func n_r06_Set) [(t 84), (t 86), (.const (.bool false))]), b 12 (.mv (t 87))])
 .skip))
 (.seq (.keep [7, 8, 9, 12, 14, 15, 17, 18])
 (.seq (.ops false [o 88 (.mv (t 17)), o 89 (.load1 (t 7)), o 90 (.bin .eql (t 88) (t 89))])
 (.cond (t 90)
 (.exit 2)
 .skip))))))))
 (.seq (.keep [7, 8, 9, 12, 14, 15, 17, 18])
 (.ops false [o 66 (.mv (t 18)), o 67 (.bin .add (t 66) (ci 1)), o 18 (.mv (t 67))])))) (.keep [7, 8, 9, 12, 14, 15, 17, 18]))))))
 (.seq (.keep [14, 15])
 (.seq (.ops false [o 91 (.load1 (t 14)), o 92 (.mv (t 15)), o 93 (.call (.func n_r01_Same) [(t 91), (t 92)]), o 10 (.mv (t 93))])
 .ret)))))))))))))))⟩
/-- coroner/coronerlaw06.works -/
def F_l06_works : AFn := ⟨0, [.tmp 0],
 (.seq (.ops false [o 0 (.mv (.const (.bool false)))])
 (.seq (.ops false [o 3 (.call (.func n_bits_New) [(ci 70)]), o 1 (.mv (t 3))])
 (.seq (.ops false [o 4 (.mv (t 1)), o 5 (.bslice 1 4 [(.int .i64 0), (.int .i64 0), (.int .i64 0), (.int .i64 0)] [(0, (1, (ci 3))), (1, (1, (ci 70))), (2, (1, (ci 9))), (3, (1, (ci 69)))]), o 6 (.call (.func n_bits_Bits_Put) [(t 4), (t 5)])])
 (.seq (.ops false [o 7 (.call (.func n_bits_Full) [(ci 4)]), o 2 (.mv (t 7))])
 (.seq (.ops false [o 8 (.mv (t 1)), o 9 (.bslice 1 1 [(.int .i64 0)] [(0, (1, (ci 69)))]), o 10 (.call (.func n_bits_Bits_Drop) [(t 8), (t 9)])])
 (.seq (.ops false (o 11 (.mv (t 1)) :: o 12 (.call (.func n_bits_Bits_List) [(t 11)]) :: o 13 (.bslice 1 2 [(.int .i64 0), (.int .i64 0)] [(0, (1, (ci 3))), (1, (1, (ci 9)))]) :: o 14 (.call (.func n_r01_Same) [(t 12), (t 13)]) :: o 15 (.mv (t 14)) :: ⟨(some 16), .mv (t 1), some (15, true), false⟩ :: ⟨(some 17), .call (.func n_bits_Bits_Count) [(t 16)], some (15, true), false⟩ :: ⟨(some 18), .bin .eql (t 17) (ci 2), some (15, true), false⟩ :: o 19 (.pick (t 15) (t 18) (.const (.bool false))) :: o 20 (.mv (t 19)) :: ⟨(some 21), .mv (t 1), some (20, true), false⟩ :: ⟨(some 22), .call (.func n_bits_Bits_Next) [(t 21), (ci 4)], some (20, true), false⟩ :: ⟨(some 23), .bin .eql (t 22) (ci 9), some (20, true), false⟩ :: o 24 (.pick (t 20) (t 23) (.const (.bool false))) :: o 25 (.mv (t 24)) :: ⟨(some 26), .mv (t 1), some (25, true), false⟩ :: ⟨(some 27), .call (.func n_bits_Bits_Next) [(t 26), (ci 10)], some (25, true), false⟩ :: ⟨(some 28), .bin .eql (t 27) (ci (-1)), some (25, true), false⟩ :: o 29 (.pick (t 25) (t 28) (.const (.bool false))) :: o 30 (.mv (t 29)) :: ⟨(some 31), .mv (t 2), some (30, true), false⟩ :: ⟨(some 32), .call (.func n_bits_Bits_Count) [(t 31)], some (30, true), false⟩ :: ⟨(some 33), .bin .eql (t 32) (ci 4), some (30, true), false⟩ :: o 34 (.pick (t 30) (t 33) (.const (.bool false))) :: o 35 (.mv (t 34)) :: ⟨(some 36), .mv (t 1), some (35, true), false⟩ :: ⟨(some 37), .call (.func n_bits_Bits_All) [(t 36)], some (35, true), false⟩ :: ⟨(some 38), .eqv 4 true (t 37) (.const .nilFunc), some (35, true), false⟩ :: o 39 (.pick (t 35) (t 38) (.const (.bool false))) :: o 40 (.mv (t 39)) :: ⟨(some 41), .mv (t 1), some (40, true), false⟩ :: ⟨(some 42), .call (.func n_bits_Bits_Clone) [(t 41)], some (40, true), false⟩ :: ⟨(some 43), .mv (t 1), some (40, true), false⟩ :: ⟨(some 44), .call (.func n_bits_Bits_Same) [(t 42), (t 43)], some (40, true), false⟩ :: o 45 (.pick (t 40) (t 44) (.const (.bool false))) :: o 0 (.mv (t 45)) :: []))
 (.seq (.keep [0])
 .ret)))))))⟩
/-- coroner/coronerref06.New -/
def F_r06_New : AFn := ⟨2, [.tmp 4],
 (.seq (.ops false [o 4 (.mv (.const (.slice none 0 0)))])
 (.seq (.seq (.ops false [o 7 (.mv (t 0)), o 8 (.bin .lss (t 7) (ci 0))])
 (.cond (t 8)
 (.ops false [o 0 (.mv (ci 0))])
 .skip))
 (.seq (.seq (.ops false [o 9 (.mv (t 0)), o 10 (.bin .gtr (t 9) (ci 65536))])
 (.cond (t 10)
 (.ops false [o 0 (.mv (ci 65536))])
 .skip))
 (.seq (.ops false [o 11 (.mv (t 0)), o 12 (.mkslice 1 1 [(.bool false)] (t 11) (t 11)), o 5 (.mv (t 12))])
 (.seq (.seq (.ops false [o 6 (.mv (ci 0))])
 (.seq (.keep [0, 1, 5, 6]) (.block 0 (.loop (.seq (.seq (.seq (.ops false [o 13 (.mv (t 6)), o 14 (.mv (t 0)), o 15 (.bin .lss (t 13) (t 14))])
 (.cond (t 15)
 .skip
 (.exit 0)))
 (.seq (.block 1 (.ops false [o 18 (.mv (t 5)), o 19 (.mv (t 6)), o 20 (.mv (t 1)), o 21 (.iaddr 1 (t 18) (t 19)), s (.store 1 (t 21) (t 20))]))
 (.ops false [o 16 (.mv (t 6)), o 17 (.bin .add (t 16) (ci 1)), o 6 (.mv (t 17))]))) (.keep [0, 1, 5, 6]))))))
 (.seq (.keep [5])
 (.seq (.ops false [o 22 (.mv (t 5)), o 4 (.mv (t 22))])
 .ret)))))))⟩
/-- coroner/coronerref01.Same -/
def F_r01_Same : AFn := ⟨2, [.tmp 4],
 (.seq (.ops false [o 4 (.mv (.const (.bool false)))])
 (.seq (.seq (.ops false [o 6 (.mv (t 0)), o 7 (.len 1 (t 6)), o 8 (.mv (t 1)), o 9 (.len 1 (t 8)), o 10 (.bin .neq (t 7) (t 9))])
 (.cond (t 10)
 (.seq (.ops false [o 4 (.mv (.const (.bool false)))])
 .ret)
 .skip))
 (.seq (.seq (.ops false [o 5 (.mv (ci 0))])
 (.seq (.keep [0, 1, 5]) (.block 0 (.loop (.seq (.seq (.seq (.ops false [o 11 (.mv (t 5)), o 12 (.mv (t 0)), o 13 (.len 1 (t 12)), o 14 (.bin .lss (t 11) (t 13))])
 (.cond (t 14)
 .skip
 (.exit 0)))
 (.seq (.block 1 (.seq (.ops true [o 17 (.mv (t 0)), o 18 (.mv (t 5)), o 19 (.iaddr 1 (t 17) (t 18)), o 20 (.load1 (t 19)), o 21 (.mv (t 1)), o 22 (.mv (t 5)), o 23 (.iaddr 1 (t 21) (t 22)), o 24 (.load1 (t 23)), b 25 (.bin .neq (t 20) (t 24))])
 (.seq (.keep [0, 1, 5, 25])
 (.cond (t 25)
 (.seq (.ops false [o 4 (.mv (.const (.bool false)))])
 .ret)
 .skip))))
 (.seq (.keep [0, 1, 5])
 (.ops false [o 15 (.mv (t 5)), o 16 (.bin .add (t 15) (ci 1)), o 5 (.mv (t 16))])))) (.keep [0, 1, 5]))))))
 (.seq (.keep [])
 (.seq (.ops false [o 4 (.mv (.const (.bool true)))])
 .ret)))))⟩
/-- (*coroner/bits.Bits).Or -/
def F_bits_Bits_Or : AFn := ⟨2, [],
 (.seq (.ops false [o 2 (.box (t 0))])
 (.seq (.ops false [o 5 (.mv (t 1)), o 6 (.call (.func n_bits_Bits_All) [(t 5)])])
 (.block 0 (.rfun (t 6) [7]
 (.ops false [o 4 (.mv (t 7))])
 (.block 1 (.ops false [o 8 (.load1 (t 2)), o 9 (.mv (t 4)), o 10 (.bslice 1 1 [(.int .i64 0)] [(0, (1, (t 9)))]), o 11 (.call (.func n_bits_Bits_Put) [(t 8), (t 10)])]))))))⟩
/-- (*coroner/bits.Bits).All$1 -/
def F_bits_Bits_All_c1 : AFn := ⟨2, [],
 (.seq (.ops false [o 4 (.load1 (t 1)), o 5 (.call (.func n_bits_Bits_Next) [(t 4), (ci 0)]), o 3 (.mv (t 5))])
 (.seq (.keep [0, 1, 3]) (.block 0 (.loop (.seq (.seq (.seq (.ops false [o 6 (.mv (t 3)), o 7 (.bin .geq (t 6) (ci 0)), o 8 (.mv (t 7)), ⟨(some 9), .mv (t 0), some (8, true), false⟩, ⟨(some 10), .mv (t 3), some (8, true), false⟩, ⟨(some 11), .call (t 9) [(t 10)], some (8, true), false⟩, o 12 (.pick (t 8) (t 11) (.const (.bool false)))])
 (.seq (.keep [0, 1, 3, 12])
 (.cond (t 12)
 .skip
 (.exit 0))))
 (.seq (.keep [0, 1, 3])
 (.seq (.block 1 (.exit 1))
 (.ops false [o 13 (.load1 (t 1)), o 14 (.mv (t 3)), o 15 (.bin .add (t 14) (ci 1)), o 16 (.call (.func n_bits_Bits_Next) [(t 13), (t 15)]), o 3 (.mv (t 16))])))) (.keep [0, 1, 3]))))))⟩
def tab1 : List (Nat × ADef) := [(n_bits_New, .code F_bits_New),
 (n_bits_Bits_All, .code F_bits_Bits_All),
 (n_bits_Bits_Put, .code F_bits_Bits_Put),
 (n_bits_Bits_Drop, .code F_bits_Bits_Drop),
 (n_bits_Bits_Room, .code F_bits_Bits_Room),
 (n_r06_Set, .code F_r06_Set),
 (n_r06_Next, .code F_r06_Next),
 (n_bits_Bits_Next, .code F_bits_Bits_Next),
 (n_bits_Bits_fits, .code F_bits_Bits_fits),
 (n_l06_BitsGoes, .code F_l06_BitsGoes),
 (n_r06_New, .code F_r06_New),
 (n_r01_Same, .code F_r01_Same),
 (n_bits_Bits_All_c1, .code F_bits_Bits_All_c1),
 (n_math_bits_TrailingZeros64, .oracle tzO),
 (n_l06_works, .oracle (closedO (.bool true)))]
def prog1 : AProg := tabP tab1
theorem c_bits_New : prog1 n_bits_New = some (.code F_bits_New) := by kernel_rfl
theorem c_bits_Bits_All : prog1 n_bits_Bits_All = some (.code F_bits_Bits_All) := by kernel_rfl
theorem c_bits_Bits_Put : prog1 n_bits_Bits_Put = some (.code F_bits_Bits_Put) := by kernel_rfl
theorem c_bits_Bits_Drop : prog1 n_bits_Bits_Drop = some (.code F_bits_Bits_Drop) := by kernel_rfl
theorem c_bits_Bits_Room : prog1 n_bits_Bits_Room = some (.code F_bits_Bits_Room) := by kernel_rfl
theorem c_r06_Set : prog1 n_r06_Set = some (.code F_r06_Set) := by kernel_rfl
theorem c_r06_Next : prog1 n_r06_Next = some (.code F_r06_Next) := by kernel_rfl
theorem c_bits_Bits_Next : prog1 n_bits_Bits_Next = some (.code F_bits_Bits_Next) := by kernel_rfl
theorem c_bits_Bits_fits : prog1 n_bits_Bits_fits = some (.code F_bits_Bits_fits) := by kernel_rfl
theorem c_l06_BitsGoes : prog1 n_l06_BitsGoes = some (.code F_l06_BitsGoes) := by kernel_rfl
theorem c_r06_New : prog1 n_r06_New = some (.code F_r06_New) := by kernel_rfl
theorem c_r01_Same : prog1 n_r01_Same = some (.code F_r01_Same) := by kernel_rfl
theorem c_bits_Bits_All_c1 : prog1 n_bits_Bits_All_c1 = some (.code F_bits_Bits_All_c1) := by kernel_rfl
theorem c_math_bits_TrailingZeros64 : prog1 n_math_bits_TrailingZeros64 = some (.oracle tzO) := by kernel_rfl
theorem c_l06_works : prog1 n_l06_works = some (.oracle (closedO (.bool true))) := by kernel_rfl
def tab0 : List (Nat × ADef) := [(n_l06_works, .code F_l06_works),
 (n_bits_Bits_Same, .code F_bits_Bits_Same),
 (n_bits_Bits_Next, .code F_bits_Bits_Next),
 (n_bits_Bits_Room, .code F_bits_Bits_Room),
 (n_bits_Bits_Clone, .code F_bits_Bits_Clone),
 (n_bits_Bits_Or, .code F_bits_Bits_Or),
 (n_bits_Bits_Put, .code F_bits_Bits_Put),
 (n_bits_Bits_fits, .code F_bits_Bits_fits),
 (n_bits_Bits_All, .code F_bits_Bits_All),
 (n_bits_Bits_All_c1, .code F_bits_Bits_All_c1),
 (n_bits_New, .code F_bits_New),
 (n_bits_Bits_Count, .code F_bits_Bits_Count),
 (n_r01_Same, .code F_r01_Same),
 (n_bits_Bits_List, .code F_bits_Bits_List),
 (n_bits_Bits_Drop, .code F_bits_Bits_Drop),
 (n_bits_Full, .code F_bits_Full),
 (n_math_bits_TrailingZeros64, .oracle tzO)]
end Go.AMS
