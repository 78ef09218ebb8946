/- The code of the functions that the law runs, as the abstract machine reads it. -/
import Derived.Test.YtmcnnojklgjgdaaGreatAmSepP
import Derived.Test.YtmcnnojklgjgdaaGreatAmSepO
import Derived.Test.YtmcnnojklgjgdaaGreatAmSepK
import Derived.Test.YtmcnnojklgjgdaaGreatAmSepB
import Derived.Test.YtmcnnojklgjgdaaGreatAmSepT
import Derived.Test.YtmcnnojklgjgdaaGreatAmSepW
import Derived.Test.YtmcnnojklgjgdaaGreatAmSort
import Derived.Test.YtmcnnojklgjgdaaGreatAmSortI
import Derived.Test.YtmcnnojklgjgdaaGreatAmSortX
namespace Go.AMS
open Go.AM hiding Kt At WP WL Runs RunsY
open C
set_option maxRecDepth 100000
set_option linter.unusedVariables false
def n_l16_OrderWhole:Nat:=6
def n_l16_few:Nat:=9
def n_l16_works:Nat:=10
def n_table_New:Nat:=11
def n_order_Of:Nat:=12
def n_r01_Same:Nat:=15
def n_order_Next:Nat:=16
def n_order_Clean:Nat:=18
def n_r16_Clean:Nat:=19
def n_order_Find:Nat:=20
def n_r12_Writes:Nat:=23
def n_r13_Sound:Nat:=24
def n_r15_Is:Nat:=25
def n_r05_Of:Nat:=26
def n_reads_Kind:Nat:=29
def n_r13_Kind:Nat:=31
def n_reads_Front:Nat:=32
def n_r13_Front:Nat:=33
def n_reads_Sound:Nat:=34
def n_r03_Few:Nat:=36
def n_r04_Check:Nat:=37
def n_l16_one:Nat:=38
def n_encode_Check:Nat:=39
def n_slices_Clone_api_Txn_api_Txn:Nat:=40
def n_slices_SortFunc_api_Txn_api_Txn:Nat:=41
def n_table_New_c1:Nat:=42
def n_cmp_Compare_int:Nat:=43
def n_table_steps:Nat:=44
def n_table_Table_put:Nat:=45
def n_sorted_Of_int:Nat:=46
def n_sorted_Set_int_List:Nat:=47
def n_prefix_Longest_int:Nat:=48
def n_table_Table_Writes:Nat:=49
def n_r05_Has:Nat:=51
def n_slices_Clone_int_int:Nat:=53
def n_slices_DeleteFunc_int_int:Nat:=54
def n_order_Clean_c1:Nat:=55
def n_table_Table_Writer:Nat:=56
def n_r12_Writer:Nat:=57
def n_table_Table_Keys:Nat:=58
def n_prefix_Common_int:Nat:=59
def n_r12_IDs:Nat:=63
def n_r12_txn:Nat:=64
def n_r12_Reads:Nat:=65
def n_reads_twice:Nat:=67
def n_reads_unborn:Nat:=68
def n_reads_inner:Nat:=69
def n_reads_Sound_c1:Nat:=70
def n_table_Table_Reads:Nat:=71
def n_r03_Ops:Nat:=72
def n_r04_may:Nat:=73
def n_r04_mayOp:Nat:=74
def n_r03_Appended:Nat:=75
def n_r04_earlier:Nat:=76
def n_r04_Text:Nat:=77
def n_history_Ops:Nat:=78
def n_encode_parts:Nat:=79
def n_encode_text:Nat:=80
def n_cmp_isNaN_int:Nat:=83
def n_table_steps_c1:Nat:=84
def n_slices_Sort_int_int:Nat:=85
def n_slices_Compact_int_int:Nat:=86
def n_prefix_Fit_int:Nat:=87
def n_prefix_apart_int:Nat:=88
def n_table_Table_is:Nat:=89
def n_table_goes_table_Write:Nat:=90
def n_slices_IndexFunc_int_int:Nat:=91
def n_r12_ahead:Nat:=92
def n_sorted_Set_int_Has:Nat:=97
def n_sorted_Set_int_With:Nat:=98
def n_table_goes_table_Read:Nat:=99
def n_r04_number:Nat:=100
def n_encode_may:Nat:=101
def n_encode_mayOp:Nat:=102
def n_encode_txn:Nat:=103
def n_prefix_Is_int:Nat:=115
def n_table_goes_table_Write_c1:Nat:=116
def n_sorted_Set_int_place:Nat:=119
def n_sorted_Set_int_Or:Nat:=120
def n_table_goes_table_Read_c1:Nat:=121
def n_r01_Print:Nat:=122
def n_slices_ContainsFunc_int_int:Nat:=123
def n_encode_may_c1:Nat:=124
def n_encode_line:Nat:=125
def n_cmp_Less_int:Nat:=137
def n_slices_BinarySearch_int_int:Nat:=142
def n_digits_Print:Nat:=143
def n_slices_isNaN_int:Nat:=149
def n_digits_may:Nat:=150
def n_digits_text:Nat:=151
/-- coroner/order.Of -/
def F_order_Of:AFn:=⟨2,[.cellN 4 14],
 (.seq (.ops false [o 2 (.box (t 0)),o 4 (.alloc [(.int .i64 0),(.slice none 0 0),(.slice none 0 0),(.bool false),(.int .i64 0),(.int .i64 0),(.int .i64 0),(.slice none 0 0),(.slice none 0 0),(.int .i64 0),(.int .i64 0),(.int .i64 0),(.slice none 0 0),(.slice none 0 0)])])
 (.seq (.ops false [o 5 (.alloc [(.slice none 0 0)])])
 (.seq (.ops false [o 6 (.alloc [(.slice none 0 0)])])
 (.seq (.seq (.ops false [o 17 (.load1 (t 2)),o 18 (.mv (t 1)),o 19 (.call (.func n_reads_Sound) [(t 17),(t 18)])])
 (.block 0 (.rfun (t 19) [20]
 (.ops false [o 7 (.alloc [(.int .i64 0),(.int .i64 0),(.int .i64 0),(.slice none 0 0),(.slice none 0 0)]),s (.store 5 (t 7) (t 20))])
 (.block 1 (.seq (.ops false [o 21 (.load1 (t 5)),o 22 (.loadN 5 (t 7)),o 23 (.bslice 5 1 [(.int .i64 0),(.int .i64 0),(.int .i64 0),(.slice none 0 0),(.slice none 0 0)] [(0,(5,(t 22)))]),o 24 (.append 5 72 (t 21) (t 23)),s (.store 1 (t 5) (t 24))])
 (.ops true [o 25 (.load1 (t 6)),o 26 (.load1 (t 2)),o 27 (.loadN 5 (t 7)),o 28 (.call (.func n_order_Clean) [(t 26),(t 27)]),o 29 (.bslice 1 1 [(.slice none 0 0)] [(0,(1,(t 28)))]),b 30 (.append 1 24 (t 25) (t 29)),sb (.store 1 (t 6) (t 30))]))))))
 (.seq (.keep [1,2,4,5,6])
 (.seq (.ops false [o 32 (.load1 (t 6)),o 33 (.call (.func n_prefix_Longest_int) [(t 32)]),o 31 (.mv (t 33)),o 34 (.extract 0 (t 31)),o 35 (.extract 1 (t 31)),o 36 (.extract 2 (t 31)),o 37 (.extract 3 (t 31)),o 8 (.mv (t 34)),o 9 (.mv (t 35)),o 10 (.mv (t 36)),o 11 (.mv (t 37))])
 (.seq (.keep [1,2,4,5,8,9,10,11])
 (.seq (.seq (.ops false [o 38 (.mv (t 11)),o 39 (.un .not (t 38))])
 (.cond (t 39)
 (.seq (.ops true [o 40 (.mv (t 1)),o 41 (.load1 (t 5)),o 42 (.mv (t 9)),o 43 (.iaddr 5 (t 41) (t 42)),o 44 (.loadN 5 (t 43)),o 45 (.load1 (t 5)),o 46 (.mv (t 10)),o 47 (.iaddr 5 (t 45) (t 46)),o 48 (.loadN 5 (t 47)),b 49 (.build [(.int .i64 0),(.slice none 0 0),(.slice none 0 0),(.bool false),(.int .i64 0),(.int .i64 0),(.int .i64 0),(.slice none 0 0),(.slice none 0 0),(.int .i64 0),(.int .i64 0),(.int .i64 0),(.slice none 0 0),(.slice none 0 0)] [(0,(1,(t 40))),(3,(1,(.const (.bool true)))),(4,(5,(t 44))),(9,(5,(t 48)))]),sb (.store 14 (t 4) (t 49))])
 (.seq (.keep [4])
 .ret))
 .skip))
 (.seq (.keep [1,2,4,8])
 (.seq (.ops false [o 50 (.mv (t 1)),o 51 (.mv (t 8)),o 52 (.build [(.int .i64 0),(.slice none 0 0),(.slice none 0 0),(.bool false),(.int .i64 0),(.int .i64 0),(.int .i64 0),(.slice none 0 0),(.slice none 0 0),(.int .i64 0),(.int .i64 0),(.int .i64 0),(.slice none 0 0),(.slice none 0 0)] [(0,(1,(t 50))),(1,(1,(t 51)))]),o 12 (.alloc [(.int .i64 0),(.slice none 0 0),(.slice none 0 0),(.bool false),(.int .i64 0),(.int .i64 0),(.int .i64 0),(.slice none 0 0),(.slice none 0 0),(.int .i64 0),(.int .i64 0),(.int .i64 0),(.slice none 0 0),(.slice none 0 0)]),s (.store 14 (t 12) (t 52))])
 (.seq (.ops false [o 53 (.mkmap),o 13 (.alloc [(.map none)]),s (.store 1 (t 13) (t 53))])
 (.seq (.seq (.ops false [o 54 (.mv (t 8)),o 55 (.len 1 (t 54)),o 56 (.mv (ci 0))])
 (.seq (.keep [1,2,4,12,13,54,55,56]) (.block 2 (.loop (.seq (.seq (.ops false [o 57 (.bin .lss (t 56) (t 55))])
 (.seq (.cond (t 57)
 .skip
 (.exit 2))
 (.seq (.block 3 (.seq (.ops false [o 58 (.mv (t 56)),o 59 (.iaddr 1 (t 54) (t 56)),o 60 (.load1 (t 59)),o 14 (.mv (t 58)),o 15 (.mv (t 60))])
 (.ops false [o 61 (.load1 (t 13)),o 62 (.mv (t 15)),o 63 (.mv (t 14)),o 64 (.bin .add (t 63) (ci 1)),s (.mapupd (.one 1) (t 61) (t 62) (t 64))])))
 (.seq (.keep [1,2,4,12,13,54,55,56])
 (.ops false [o 65 (.bin .add (t 56) (ci 1)),o 56 (.mv (t 65))]))))) (.keep [1,2,4,12,13,54,55,56]))))))
 (.seq (.keep [1,2,4,12,13])
 (.seq (.seq (.ops false [o 66 (.load1 (t 2)),o 67 (.mv (t 1)),o 68 (.call (.func n_table_Table_Writes) [(t 66),(t 67)])])
 (.block 4 (.rfun (t 68) [69]
 (.ops false [o 16 (.alloc [(.int .i64 0),(.int .i64 0),(.int .i64 0),(.int .i64 0),(.bool false)]),s (.store 5 (t 16) (t 69))])
 (.block 5 (.seq (.ops false [o 70 (.load1 (t 13)),o 71 (.faddr 3 (t 16)),o 72 (.load1 (t 71)),o 73 (.lookup (.one 1) (.int .i64 0) false (t 70) (t 72)),o 74 (.bin .eql (t 73) (ci 0))])
 (.cond (t 74)
 (.ops false [o 75 (.faddr 2 (t 12)),o 76 (.load1 (t 75)),o 77 (.faddr 3 (t 16)),o 78 (.load1 (t 77)),o 79 (.bslice 1 1 [(.int .i64 0)] [(0,(1,(t 78)))]),o 80 (.append 1 8 (t 76) (t 79)),o 81 (.faddr 2 (t 12)),s (.store 1 (t 81) (t 80))])
 .skip))))))
 (.seq (.keep [4,12])
 (.seq (.ops false [o 82 (.loadN 14 (t 12)),s (.store 14 (t 4) (t 82))])
 .ret))))))))))))))))⟩
/-- coroner/order.Next -/
def F_order_Next:AFn:=⟨2,[.tmp 4],
 (.seq (.ops false [o 2 (.box (t 0)),o 4 (.mv (.const (.slice none 0 0)))])
 (.seq (.block 0 (.seq (.ops false [o 6 (.mv (t 1)),o 7 (.faddr 1 (t 2)),o 8 (.load1 (t 7)),o 9 (.len 1 (t 8)),o 10 (.bin .eql (t 6) (t 9)),o 5 (.mv (t 10))])
 (.cond (t 5)
 (.seq (.ops false [o 11 (.faddr 2 (t 2)),o 12 (.load1 (t 11)),o 13 (.call (.func n_slices_Clone_int_int) [(t 12)]),o 4 (.mv (t 13))])
 .ret)
 (.seq (.ops false [o 15 (.mv (t 1)),o 16 (.bin .geq (t 15) (ci 0)),o 17 (.mv (t 16)),⟨(some 18),.mv (t 1),some (17,true),false⟩,⟨(some 19),.faddr 1 (t 2),some (17,true),false⟩,⟨(some 20),.load1 (t 19),some (17,true),false⟩,⟨(some 21),.len 1 (t 20),some (17,true),false⟩,⟨(some 22),.bin .lss (t 18) (t 21),some (17,true),false⟩,o 23 (.pick (t 17) (t 22) (.const (.bool false))),o 14 (.mv (t 23))])
 (.seq (.keep [1,2,14])
 (.cond (t 14)
 (.seq (.ops false [o 24 (.faddr 1 (t 2)),o 25 (.load1 (t 24)),o 26 (.mv (t 1)),o 27 (.iaddr 1 (t 25) (t 26)),o 28 (.load1 (t 27)),o 29 (.bslice 1 1 [(.int .i64 0)] [(0,(1,(t 28)))]),o 4 (.mv (t 29))])
 (.seq (.keep [4])
 .ret))
 .skip))))))
 (.seq (.keep [])
 (.seq (.ops false [o 4 (.mv (.const (.slice none 0 0)))])
 .ret))))⟩
/-- coroner/order.Find -/
def F_order_Find:AFn:=⟨1,[.cellN 2 7,.tmp 3],
 (.seq (.ops false [o 2 (.alloc [(.int .i64 0),(.int .i64 0),(.int .i64 0),(.int .i64 0),(.int .i64 0),(.int .i64 0),(.slice none 0 0)]),o 3 (.mv (.const (.bool false)))])
 (.seq (.seq (.ops false [o 9 (.mv (t 0)),o 10 (.call (.func n_table_Table_Keys) [(t 9)]),o 11 (.len 1 (t 10)),o 12 (.mv (ci 0))])
 (.seq (.keep [0,2,10,11,12]) (.block 0 (.loop (.seq (.seq (.ops false [o 13 (.bin .lss (t 12) (t 11))])
 (.seq (.cond (t 13)
 .skip
 (.exit 0))
 (.seq (.block 1 (.seq (.ops false [o 14 (.iaddr 1 (t 10) (t 12)),o 15 (.load1 (t 14)),o 5 (.mv (t 15))])
 (.seq (.ops false [o 16 (.mv (t 0)),o 17 (.mv (t 5)),o 18 (.call (.func n_order_Of) [(t 16),(t 17)]),o 6 (.alloc [(.int .i64 0),(.slice none 0 0),(.slice none 0 0),(.bool false),(.int .i64 0),(.int .i64 0),(.int .i64 0),(.slice none 0 0),(.slice none 0 0),(.int .i64 0),(.int .i64 0),(.int .i64 0),(.slice none 0 0),(.slice none 0 0)]),s (.store 14 (t 6) (t 18))])
 (.seq (.seq (.ops false [o 19 (.faddr 3 (t 6)),o 20 (.load1 (t 19)),o 21 (.un .not (t 20))])
 (.cond (t 21)
 (.exit 1)
 .skip))
 (.seq (.ops true [o 22 (.mv (t 0)),o 23 (.faddr 4 (t 6)),o 24 (.loadN 5 (t 23)),o 25 (.call (.func n_order_Clean) [(t 22),(t 24)]),o 26 (.mv (t 0)),o 27 (.faddr 9 (t 6)),o 28 (.loadN 5 (t 27)),b 29 (.call (.func n_order_Clean) [(t 26),(t 28)]),b 7 (.mv (t 25)),b 8 (.mv (t 29))])
 (.seq (.keep [2,5,6,7,8])
 (.seq (.ops true [o 30 (.faddr 4 (t 6)),o 31 (.faddr 0 (t 30)),o 32 (.load1 (t 31)),o 33 (.faddr 4 (t 6)),o 34 (.faddr 1 (t 33)),o 35 (.load1 (t 34)),o 36 (.mv (t 5)),o 37 (.mv (t 7)),o 38 (.mv (t 7)),o 39 (.mv (t 8)),o 40 (.call (.func n_prefix_Common_int) [(t 38),(t 39)]),o 41 (.iaddr 1 (t 37) (t 40)),o 42 (.load1 (t 41)),o 43 (.faddr 9 (t 6)),o 44 (.faddr 0 (t 43)),o 45 (.load1 (t 44)),b 46 (.build [(.int .i64 0),(.int .i64 0),(.int .i64 0),(.int .i64 0),(.int .i64 0),(.int .i64 0),(.slice none 0 0)] [(0,(1,(ci 5))),(1,(1,(t 32))),(2,(1,(t 35))),(3,(1,(t 36))),(4,(1,(t 42))),(5,(1,(t 45)))]),sb (.store 7 (t 2) (t 46)),b 3 (.mv (.const (.bool true)))])
 (.seq (.keep [2,3])
 .ret))))))))
 (.seq (.keep [0,2,10,11,12])
 (.ops false [o 47 (.bin .add (t 12) (ci 1)),o 12 (.mv (t 47))]))))) (.keep [0,2,10,11,12]))))))
 (.seq (.keep [2])
 (.seq (.ops false [o 48 (.build [(.int .i64 0),(.int .i64 0),(.int .i64 0),(.int .i64 0),(.int .i64 0),(.int .i64 0),(.slice none 0 0)] []),s (.store 7 (t 2) (t 48)),o 3 (.mv (.const (.bool false)))])
 .ret))))⟩
/-- coroner/coronerref13.Sound -/
def F_r13_Sound:AFn:=⟨2,[.tmp 4],
 (.seq (.ops false [o 2 (.box (t 0)),o 4 (.mv (.const (.slice none 0 0)))])
 (.seq (.ops false [o 5 (.mv (.const (.slice none 0 0)))])
 (.seq (.ops false [o 10 (.loadN 1 (t 2)),o 11 (.mv (t 1)),o 12 (.call (.func n_r12_Reads) [(t 10),(t 11)]),o 6 (.mv (t 12))])
 (.seq (.seq (.ops false [o 7 (.mv (ci 0))])
 (.seq (.keep [2,5,6,7]) (.block 0 (.loop (.seq (.seq (.seq (.ops false [o 13 (.mv (t 7)),o 14 (.mv (t 6)),o 15 (.len 1 (t 14)),o 16 (.bin .lss (t 13) (t 15))])
 (.cond (t 16)
 .skip
 (.exit 0)))
 (.seq (.block 1 (.seq (.ops true [o 20 (.loadN 1 (t 2)),o 21 (.mv (t 6)),o 22 (.mv (t 7)),o 23 (.iaddr 5 (t 21) (t 22)),o 24 (.loadN 5 (t 23)),b 25 (.call (.func n_r13_Kind) [(t 20),(t 24)]),b 19 (.mv (t 25)),o 26 (.extract 0 (t 19)),o 27 (.extract 1 (t 19)),o 8 (.mv (t 26)),b 9 (.mv (t 27))])
 (.seq (.keep [2,5,6,7,8])
 (.seq (.ops false [o 28 (.mv (t 8)),o 29 (.bin .eql (t 28) (ci 0))])
 (.cond (t 29)
 (.ops false [o 30 (.mv (t 5)),o 31 (.mv (t 6)),o 32 (.mv (t 7)),o 33 (.iaddr 5 (t 31) (t 32)),o 34 (.loadN 5 (t 33)),o 35 (.bslice 5 1 [(.int .i64 0),(.int .i64 0),(.int .i64 0),(.slice none 0 0),(.slice none 0 0)] [(0,(5,(t 34)))]),o 36 (.append 5 72 (t 30) (t 35)),o 5 (.mv (t 36))])
 .skip)))))
 (.seq (.keep [2,5,6,7])
 (.ops false [o 17 (.mv (t 7)),o 18 (.bin .add (t 17) (ci 1)),o 7 (.mv (t 18))])))) (.keep [2,5,6,7]))))))
 (.seq (.keep [5])
 (.seq (.ops false [o 37 (.mv (t 5)),o 4 (.mv (t 37))])
 .ret))))))⟩
/-- coroner/reads.Front -/
def F_reads_Front:AFn:=⟨1,[.tmp 2],
 (.seq (.ops false [o 1 (.box (t 0)),o 2 (.mv (.const (.slice none 0 0)))])
 (.seq (.ops false [o 3 (.faddr 3 (t 1)),o 4 (.load1 (t 3)),o 5 (.faddr 3 (t 1)),o 6 (.load1 (t 5)),o 7 (.len 1 (t 6)),o 8 (.faddr 4 (t 1)),o 9 (.load1 (t 8)),o 10 (.len 1 (t 9)),o 11 (.bin .sub (t 7) (t 10)),o 12 (.max [(ci 0),(t 11)]),o 13 (.slc 1 (t 4) none (some (t 12))),o 14 (.call (.func n_slices_Clone_int_int) [(t 13)]),o 2 (.mv (t 14))])
 (.seq (.keep [2])
 .ret)))⟩
/-- coroner/coronerref03.Few -/
def F_r03_Few:AFn:=⟨3,[.tmp 6],
 (.seq (.ops false [o 3 (.box (t 0)),o 6 (.mv (.const (.bool false)))])
 (.seq (.seq (.ops false [o 10 (.faddr 0 (t 3)),o 11 (.load1 (t 10)),o 12 (.len 1 (t 11)),o 13 (.mv (t 1)),o 14 (.bin .gtr (t 12) (t 13))])
 (.cond (t 14)
 (.seq (.ops false [o 6 (.mv (.const (.bool false)))])
 .ret)
 .skip))
 (.seq (.ops false [o 7 (.mv (ci 0))])
 (.seq (.seq (.ops false [o 8 (.mv (ci 0))])
 (.seq (.keep [2,3,7,8]) (.block 0 (.loop (.seq (.seq (.seq (.ops false [o 15 (.mv (t 8)),o 16 (.faddr 0 (t 3)),o 17 (.load1 (t 16)),o 18 (.len 1 (t 17)),o 19 (.bin .lss (t 15) (t 18))])
 (.cond (t 19)
 .skip
 (.exit 0)))
 (.seq (.block 1 (.seq (.seq (.ops false [o 22 (.faddr 0 (t 3)),o 23 (.load1 (t 22)),o 24 (.mv (t 8)),o 25 (.iaddr 3 (t 23) (t 24)),o 26 (.faddr 2 (t 25)),o 27 (.load1 (t 26)),o 28 (.len 1 (t 27)),o 29 (.mv (t 2)),o 30 (.mv (t 7)),o 31 (.bin .sub (t 29) (t 30)),o 32 (.bin .gtr (t 28) (t 31))])
 (.seq (.keep [2,3,7,8,32])
 (.cond (t 32)
 (.seq (.ops false [o 6 (.mv (.const (.bool false)))])
 .ret)
 .skip)))
 (.seq (.keep [2,3,7,8])
 (.seq (.ops false [o 33 (.mv (t 7)),o 34 (.faddr 0 (t 3)),o 35 (.load1 (t 34)),o 36 (.mv (t 8)),o 37 (.iaddr 3 (t 35) (t 36)),o 38 (.faddr 2 (t 37)),o 39 (.load1 (t 38)),o 40 (.len 1 (t 39)),o 41 (.bin .add (t 33) (t 40)),o 7 (.mv (t 41))])
 (.seq (.keep [2,3,7,8])
 (.seq (.ops false [o 9 (.mv (ci 0))])
 (.seq (.keep [2,3,7,8,9]) (.block 2 (.loop (.seq (.seq (.seq (.ops false [o 42 (.mv (t 9)),o 43 (.faddr 0 (t 3)),o 44 (.load1 (t 43)),o 45 (.mv (t 8)),o 46 (.iaddr 3 (t 44) (t 45)),o 47 (.faddr 2 (t 46)),o 48 (.load1 (t 47)),o 49 (.len 1 (t 48)),o 50 (.bin .lss (t 42) (t 49))])
 (.seq (.keep [2,3,7,8,9,50])
 (.cond (t 50)
 .skip
 (.exit 2))))
 (.seq (.keep [2,3,7,8,9])
 (.seq (.block 3 (.seq (.ops false [o 53 (.faddr 0 (t 3)),o 54 (.load1 (t 53)),o 55 (.mv (t 8)),o 56 (.iaddr 3 (t 54) (t 55)),o 57 (.faddr 2 (t 56)),o 58 (.load1 (t 57)),o 59 (.mv (t 9)),o 60 (.iaddr 4 (t 58) (t 59)),o 61 (.faddr 3 (t 60)),o 62 (.load1 (t 61)),o 63 (.len 1 (t 62)),o 64 (.bin .gtr (t 63) (ci 100))])
 (.seq (.keep [2,3,7,8,9,64])
 (.cond (t 64)
 (.seq (.ops false [o 6 (.mv (.const (.bool false)))])
 .ret)
 .skip))))
 (.seq (.keep [2,3,7,8,9])
 (.ops false [o 51 (.mv (t 9)),o 52 (.bin .add (t 51) (ci 1)),o 9 (.mv (t 52))]))))) (.keep [2,3,7,8,9])))))))))))
 (.seq (.keep [2,3,7,8])
 (.ops false [o 20 (.mv (t 8)),o 21 (.bin .add (t 20) (ci 1)),o 8 (.mv (t 21))])))) (.keep [2,3,7,8]))))))
 (.seq (.keep [])
 (.seq (.ops false [o 6 (.mv (.const (.bool true)))])
 .ret))))))⟩
/-- slices.Clone[[]coroner/api.Txn,coroner/api.Txn] -/
def F_slices_Clone_api_Txn_api_Txn:AFn:=⟨1,[.tmp 2],
 (.seq (.ops false [o 2 (.mv (.const (.slice none 0 0)))])
 (.seq (.seq (.ops false [o 3 (.mv (t 0)),o 4 (.eqv 2 false (t 3) (.const (.slice none 0 0)))])
 (.cond (t 4)
 (.seq (.ops false [o 2 (.mv (.const (.slice none 0 0)))])
 .ret)
 .skip))
 (.seq (.ops false [o 5 (.bslice 3 0 [] []),o 6 (.mv (t 0)),o 7 (.append 3 40 (t 5) (t 6)),o 2 (.mv (t 7))])
 .ret)))⟩
/-- coroner/table.steps -/
def F_table_steps:AFn:=⟨1,[.tmp 2],
 (.seq (.ops false [o 1 (.box (t 0)),o 2 (.mv (.const .nilFunc))])
 (.seq (.ops false [o 3 (.mkf n_table_steps_c1 [] [(t 1)]),o 2 (.mv (t 3))])
 .ret))⟩
/-- coroner/prefix.Longest[int] -/
def F_prefix_Longest_int:AFn:=⟨1,[.tmp 2,.tmp 3,.tmp 4,.tmp 5],
 (.seq (.ops false [o 2 (.mv (.const (.slice none 0 0))),o 3 (.mv (ci 0)),o 4 (.mv (ci 0)),o 5 (.mv (.const (.bool false)))])
 (.seq (.ops false [o 6 (.mv (.const (.slice none 0 0)))])
 (.seq (.ops false [o 7 (.mv (.const (.bool true)))])
 (.seq (.seq (.ops false [o 13 (.mv (t 0)),o 14 (.len 1 (t 13)),o 15 (.mv (ci 0))])
 (.seq (.keep [0,6,7,13,14,15]) (.block 0 (.loop (.seq (.seq (.ops false [o 16 (.bin .lss (t 15) (t 14))])
 (.seq (.cond (t 16)
 .skip
 (.exit 0))
 (.seq (.block 1 (.seq (.ops false [o 17 (.iaddr 1 (t 13) (t 15)),o 18 (.load1 (t 17)),o 9 (.mv (t 18))])
 (.seq (.ops false [o 19 (.mv (t 7)),o 20 (.mv (t 19)),⟨(some 21),.mv (t 9),some (20,true),false⟩,⟨(some 22),.mv (t 6),some (20,true),false⟩,⟨(some 23),.call (.func n_prefix_Fit_int) [(t 21),(t 22)],some (20,true),false⟩,o 24 (.pick (t 20) (t 23) (.const (.bool false))),o 7 (.mv (t 24))])
 (.seq (.keep [0,6,7,9,13,14,15])
 (.seq (.ops false [o 25 (.mv (t 9)),o 26 (.len 1 (t 25)),o 27 (.mv (t 6)),o 28 (.len 1 (t 27)),o 29 (.bin .gtr (t 26) (t 28))])
 (.cond (t 29)
 (.ops false [o 30 (.mv (t 9)),o 6 (.mv (t 30))])
 .skip))))))
 (.seq (.keep [0,6,7,13,14,15])
 (.ops false [o 31 (.bin .add (t 15) (ci 1)),o 15 (.mv (t 31))]))))) (.keep [0,6,7,13,14,15]))))))
 (.seq (.keep [0,6,7])
 (.seq (.seq (.ops false [o 32 (.mv (t 7))])
 (.cond (t 32)
 (.seq (.ops false [o 33 (.mv (t 6)),o 34 (.call (.func n_slices_Clone_int_int) [(t 33)]),o 2 (.mv (t 34)),o 3 (.mv (ci 0)),o 4 (.mv (ci 0)),o 5 (.mv (.const (.bool true)))])
 .ret)
 .skip))
 (.seq (.keep [0])
 (.seq (.seq (.ops false [o 35 (.mv (t 0)),o 36 (.len 1 (t 35)),o 37 (.mv (ci 0))])
 (.seq (.keep [0,36,37]) (.block 2 (.loop (.seq (.seq (.ops false [o 38 (.bin .lss (t 37) (t 36))])
 (.seq (.cond (t 38)
 .skip
 (.exit 2))
 (.seq (.block 3 (.seq (.ops false [o 39 (.mv (t 37)),o 10 (.mv (t 39))])
 (.seq (.ops false [o 41 (.mv (t 0)),o 42 (.mv (t 10)),o 43 (.call (.func n_prefix_apart_int) [(t 41),(t 42)]),o 40 (.mv (t 43)),o 44 (.extract 0 (t 40)),o 45 (.extract 1 (t 40)),o 11 (.mv (t 44)),o 12 (.mv (t 45))])
 (.seq (.keep [0,10,11,12,36,37])
 (.seq (.ops false [o 46 (.mv (t 12))])
 (.cond (t 46)
 (.seq (.ops false [o 47 (.mv (t 10)),o 48 (.mv (t 11)),o 2 (.mv (.const (.slice none 0 0))),o 3 (.mv (t 47)),o 4 (.mv (t 48)),o 5 (.mv (.const (.bool false)))])
 .ret)
 .skip))))))
 (.seq (.keep [0,36,37])
 (.ops false [o 49 (.bin .add (t 37) (ci 1)),o 37 (.mv (t 49))]))))) (.keep [0,36,37]))))))
 (.seq (.keep [])
 (.seq (.ops false [o 2 (.mv (.const (.slice none 0 0))),o 3 (.mv (ci 0)),o 4 (.mv (ci 0)),o 5 (.mv (.const (.bool false)))])
 .ret))))))))))⟩
/-- (*coroner/table.Table).Writer -/
def F_table_Table_Writer:AFn:=⟨3,[.cellN 6 5,.tmp 7],
 (.seq (.ops false [o 6 (.alloc [(.int .i64 0),(.int .i64 0),(.int .i64 0),(.int .i64 0),(.bool false)]),o 7 (.mv (.const (.bool false)))])
 (.seq (.seq (.ops false [o 10 (.mv (t 0)),o 11 (.call (.func n_table_Table_is) [(t 10)]),o 12 (.un .not (t 11))])
 (.cond (t 12)
 (.seq (.ops false [o 13 (.build [(.int .i64 0),(.int .i64 0),(.int .i64 0),(.int .i64 0),(.bool false)] []),s (.store 5 (t 6) (t 13)),o 7 (.mv (.const (.bool false)))])
 .ret)
 .skip))
 (.seq (.ops false [o 15 (.mv (t 0)),o 16 (.nilc (t 15)),o 17 (.faddr 3 (t 16)),o 18 (.load1 (t 17)),o 19 (.mv (t 1)),o 20 (.mv (t 2)),o 21 (.build [(.int .i64 0),(.int .i64 0)] [(0,(1,(t 19))),(1,(1,(t 20)))]),o 22 (.lookup (.many [1,1]) (.agg #[(.int .i64 0),(.int .i64 0),(.int .i64 0),(.int .i64 0),(.bool false)]) true (t 18) (t 21)),o 14 (.mv (t 22)),o 23 (.extract 0 (t 14)),o 24 (.extract 1 (t 14)),o 8 (.alloc [(.int .i64 0),(.int .i64 0),(.int .i64 0),(.int .i64 0),(.bool false)]),s (.store 5 (t 8) (t 23)),o 9 (.mv (t 24))])
 (.seq (.keep [6,8,9])
 (.seq (.ops false [o 25 (.loadN 5 (t 8)),o 26 (.mv (t 9)),s (.store 5 (t 6) (t 25)),o 7 (.mv (t 26))])
 .ret)))))⟩
/-- coroner/coronerref12.txn -/
def F_r12_txn:AFn:=⟨2,[.cellN 4 3],
 (.seq (.ops false [o 2 (.box (t 0)),o 4 (.alloc [(.int .i64 0),(.bool false),(.slice none 0 0)])])
 (.seq (.seq (.ops false [o 5 (.mv (ci 0))])
 (.seq (.keep [1,2,4,5]) (.block 0 (.loop (.seq (.seq (.seq (.ops false [o 6 (.mv (t 5)),o 7 (.faddr 0 (t 2)),o 8 (.load1 (t 7)),o 9 (.len 1 (t 8)),o 10 (.bin .lss (t 6) (t 9))])
 (.cond (t 10)
 .skip
 (.exit 0)))
 (.seq (.block 1 (.seq (.ops false [o 13 (.faddr 0 (t 2)),o 14 (.load1 (t 13)),o 15 (.mv (t 5)),o 16 (.iaddr 3 (t 14) (t 15)),o 17 (.faddr 0 (t 16)),o 18 (.load1 (t 17)),o 19 (.mv (t 1)),o 20 (.bin .eql (t 18) (t 19))])
 (.seq (.keep [1,2,4,5,20])
 (.cond (t 20)
 (.seq (.ops false [o 21 (.faddr 0 (t 2)),o 22 (.load1 (t 21)),o 23 (.mv (t 5)),o 24 (.iaddr 3 (t 22) (t 23)),o 25 (.loadN 3 (t 24)),s (.store 3 (t 4) (t 25))])
 .ret)
 .skip))))
 (.seq (.keep [1,2,4,5])
 (.ops false [o 11 (.mv (t 5)),o 12 (.bin .add (t 11) (ci 1)),o 5 (.mv (t 12))])))) (.keep [1,2,4,5]))))))
 (.seq (.keep [1,4])
 (.seq (.ops false [o 26 (.mv (t 1)),o 27 (.build [(.int .i64 0),(.bool false),(.slice none 0 0)] [(0,(1,(t 26)))]),s (.store 3 (t 4) (t 27))])
 .ret))))⟩
/-- coroner/reads.unborn -/
def F_reads_unborn:AFn:=⟨2,[.tmp 4,.tmp 5],
 (.seq (.ops false [o 3 (.box (t 1)),o 4 (.mv (ci 0)),o 5 (.mv (.const (.bool false)))])
 (.seq (.seq (.ops false [o 10 (.faddr 3 (t 3)),o 11 (.load1 (t 10)),o 12 (.len 1 (t 11)),o 13 (.mv (ci 0))])
 (.seq (.keep [0,3,11,12,13]) (.block 0 (.loop (.seq (.seq (.ops false [o 14 (.bin .lss (t 13) (t 12))])
 (.seq (.cond (t 14)
 .skip
 (.exit 0))
 (.seq (.block 1 (.seq (.ops false [o 15 (.iaddr 1 (t 11) (t 13)),o 16 (.load1 (t 15)),o 7 (.mv (t 16))])
 (.seq (.ops false [o 18 (.mv (t 0)),o 19 (.faddr 2 (t 3)),o 20 (.load1 (t 19)),o 21 (.mv (t 7)),o 22 (.call (.func n_table_Table_Writer) [(t 18),(t 20),(t 21)]),o 17 (.mv (t 22)),o 23 (.extract 0 (t 17)),o 24 (.extract 1 (t 17)),o 8 (.alloc [(.int .i64 0),(.int .i64 0),(.int .i64 0),(.int .i64 0),(.bool false)]),s (.store 5 (t 8) (t 23)),o 9 (.mv (t 24))])
 (.seq (.keep [0,3,7,9,11,12,13])
 (.seq (.ops false [o 25 (.mv (t 9)),o 26 (.un .not (t 25))])
 (.cond (t 26)
 (.seq (.ops false [o 27 (.mv (t 7)),o 4 (.mv (t 27)),o 5 (.mv (.const (.bool true)))])
 .ret)
 .skip))))))
 (.seq (.keep [0,3,11,12,13])
 (.ops false [o 28 (.bin .add (t 13) (ci 1)),o 13 (.mv (t 28))]))))) (.keep [0,3,11,12,13]))))))
 (.seq (.keep [])
 (.seq (.ops false [o 4 (.mv (ci 0)),o 5 (.mv (.const (.bool false)))])
 .ret))))⟩
/-- coroner/coronerref03.Ops -/
def F_r03_Ops:AFn:=⟨1,[.tmp 2],
 (.seq (.ops false [o 1 (.box (t 0)),o 2 (.mv (ci 0))])
 (.seq (.ops false [o 3 (.mv (ci 0))])
 (.seq (.seq (.ops false [o 4 (.mv (ci 0))])
 (.seq (.keep [1,3,4]) (.block 0 (.loop (.seq (.seq (.seq (.ops false [o 5 (.mv (t 4)),o 6 (.faddr 0 (t 1)),o 7 (.load1 (t 6)),o 8 (.len 1 (t 7)),o 9 (.bin .lss (t 5) (t 8))])
 (.cond (t 9)
 .skip
 (.exit 0)))
 (.seq (.block 1 (.ops false [o 12 (.mv (t 3)),o 13 (.faddr 0 (t 1)),o 14 (.load1 (t 13)),o 15 (.mv (t 4)),o 16 (.iaddr 3 (t 14) (t 15)),o 17 (.faddr 2 (t 16)),o 18 (.load1 (t 17)),o 19 (.len 1 (t 18)),o 20 (.bin .add (t 12) (t 19)),o 3 (.mv (t 20))]))
 (.seq (.keep [1,3,4])
 (.ops false [o 10 (.mv (t 4)),o 11 (.bin .add (t 10) (ci 1)),o 4 (.mv (t 11))])))) (.keep [1,3,4]))))))
 (.seq (.keep [3])
 (.seq (.ops false [o 21 (.mv (t 3)),o 2 (.mv (t 21))])
 .ret)))))⟩
/-- coroner/coronerref04.earlier -/
def F_r04_earlier:AFn:=⟨3,[.cellN 6 1],
 (.seq (.ops false [o 3 (.box (t 0)),o 6 (.alloc [(.slice none 0 0)])])
 (.seq (.ops false [o 9 (.bslice 3 0 [] []),o 10 (.faddr 0 (t 3)),o 11 (.load1 (t 10)),o 12 (.mv (t 1)),o 13 (.slc 3 (t 11) none (some (t 12))),o 14 (.append 3 40 (t 9) (t 13)),o 7 (.mv (t 14))])
 (.seq (.keep [1,2,3,6,7])
 (.seq (.ops false [o 15 (.faddr 0 (t 3)),o 16 (.load1 (t 15)),o 17 (.mv (t 1)),o 18 (.iaddr 3 (t 16) (t 17)),o 19 (.loadN 3 (t 18)),o 8 (.alloc [(.int .i64 0),(.bool false),(.slice none 0 0)]),s (.store 3 (t 8) (t 19))])
 (.seq (.keep [2,6,7,8])
 (.seq (.ops false [o 20 (.faddr 2 (t 8)),o 21 (.load1 (t 20)),o 22 (.mv (t 2)),o 23 (.slc 4 (t 21) none (some (t 22))),o 24 (.faddr 2 (t 8)),s (.store 1 (t 24) (t 23))])
 (.seq (.ops false [o 25 (.mv (t 7)),o 26 (.loadN 3 (t 8)),o 27 (.bslice 3 1 [(.int .i64 0),(.bool false),(.slice none 0 0)] [(0,(3,(t 26)))]),o 28 (.append 3 40 (t 25) (t 27)),o 29 (.build [(.slice none 0 0)] [(0,(1,(t 28)))]),s (.store 1 (t 6) (t 29))])
 .ret)))))))⟩
/-- coroner/encode.text -/
def F_encode_text:AFn:=⟨1,[.tmp 2],
 (.seq (.ops false [o 1 (.box (t 0)),o 2 (.mv (.const (.slice none 0 0)))])
 (.seq (.ops false [o 3 (.mv (.const (.slice none 0 0)))])
 (.seq (.seq (.ops false [o 6 (.faddr 0 (t 1)),o 7 (.load1 (t 6)),o 8 (.len 1 (t 7)),o 9 (.mv (ci 0))])
 (.seq (.keep [3,7,8,9]) (.block 0 (.loop (.seq (.seq (.ops false [o 10 (.bin .lss (t 9) (t 8))])
 (.seq (.cond (t 10)
 .skip
 (.exit 0))
 (.seq (.block 1 (.seq (.ops false [o 11 (.iaddr 3 (t 7) (t 9)),o 12 (.loadN 3 (t 11)),o 5 (.alloc [(.int .i64 0),(.bool false),(.slice none 0 0)]),s (.store 3 (t 5) (t 12))])
 (.ops false [o 13 (.mv (t 3)),o 14 (.loadN 3 (t 5)),o 15 (.call (.func n_encode_txn) [(t 14)]),o 16 (.append 1 1 (t 13) (t 15)),o 3 (.mv (t 16))])))
 (.seq (.keep [3,7,8,9])
 (.ops false [o 17 (.bin .add (t 9) (ci 1)),o 9 (.mv (t 17))]))))) (.keep [3,7,8,9]))))))
 (.seq (.keep [3])
 (.seq (.ops false [o 18 (.mv (t 3)),o 2 (.mv (t 18))])
 .ret)))))⟩
/-- coroner/table.steps$1 -/
def F_table_steps_c1:AFn:=⟨2,[],
 (.seq (.ops false [o 6 (.load1 (t 1)),o 7 (.len 1 (t 6)),o 8 (.mv (ci 0))])
 (.seq (.keep [0,6,7,8]) (.block 0 (.loop (.seq (.seq (.ops false [o 9 (.bin .lss (t 8) (t 7))])
 (.seq (.cond (t 9)
 .skip
 (.exit 0))
 (.seq (.block 1 (.seq (.ops false [o 10 (.iaddr 3 (t 6) (t 8)),o 11 (.loadN 3 (t 10)),o 4 (.alloc [(.int .i64 0),(.bool false),(.slice none 0 0)]),s (.store 3 (t 4) (t 11))])
 (.seq (.ops false [o 12 (.faddr 2 (t 4)),o 13 (.load1 (t 12)),o 14 (.len 1 (t 13)),o 15 (.mv (ci 0))])
 (.seq (.keep [0,4,6,7,8,14,15]) (.block 2 (.loop (.seq (.seq (.ops false [o 16 (.bin .lss (t 15) (t 14))])
 (.seq (.cond (t 16)
 .skip
 (.exit 2))
 (.seq (.block 3 (.seq (.ops false [o 17 (.mv (t 15)),o 5 (.mv (t 17))])
 (.seq (.ops false [o 18 (.mv (t 0)),o 19 (.loadN 3 (t 4)),o 20 (.mv (t 5)),o 21 (.call (t 18) [(t 19),(t 20)]),o 22 (.un .not (t 21))])
 (.cond (t 22)
 .ret
 .skip))))
 (.seq (.keep [0,4,6,7,8,14,15])
 (.ops false [o 23 (.bin .add (t 15) (ci 1)),o 15 (.mv (t 23))]))))) (.keep [0,4,6,7,8,14,15]))))))))
 (.seq (.keep [0,6,7,8])
 (.ops false [o 24 (.bin .add (t 8) (ci 1)),o 8 (.mv (t 24))]))))) (.keep [0,6,7,8]))))))⟩
/-- coroner/prefix.apart[int] -/
def F_prefix_apart_int:AFn:=⟨2,[.tmp 4,.tmp 5],
 (.seq (.ops false [o 4 (.mv (ci 0)),o 5 (.mv (.const (.bool false)))])
 (.seq (.seq (.ops false [o 7 (.mv (t 1)),o 8 (.bin .add (t 7) (ci 1)),o 6 (.mv (t 8))])
 (.seq (.keep [0,1,6]) (.block 0 (.loop (.seq (.seq (.seq (.ops false [o 9 (.mv (t 6)),o 10 (.mv (t 0)),o 11 (.len 1 (t 10)),o 12 (.bin .lss (t 9) (t 11))])
 (.cond (t 12)
 .skip
 (.exit 0)))
 (.seq (.block 1 (.seq (.ops true [o 15 (.mv (t 0)),o 16 (.mv (t 1)),o 17 (.iaddr 1 (t 15) (t 16)),o 18 (.load1 (t 17)),o 19 (.mv (t 0)),o 20 (.mv (t 6)),o 21 (.iaddr 1 (t 19) (t 20)),o 22 (.load1 (t 21)),b 23 (.call (.func n_prefix_Fit_int) [(t 18),(t 22)]),b 24 (.un .not (t 23))])
 (.seq (.keep [0,1,6,24])
 (.cond (t 24)
 (.seq (.ops false [o 25 (.mv (t 6)),o 4 (.mv (t 25)),o 5 (.mv (.const (.bool true)))])
 .ret)
 .skip))))
 (.seq (.keep [0,1,6])
 (.ops false [o 13 (.mv (t 6)),o 14 (.bin .add (t 13) (ci 1)),o 6 (.mv (t 14))])))) (.keep [0,1,6]))))))
 (.seq (.keep [])
 (.seq (.ops false [o 4 (.mv (ci 0)),o 5 (.mv (.const (.bool false)))])
 .ret))))⟩
/-- coroner/coronerref12.ahead -/
def F_r12_ahead:AFn:=⟨3,[.tmp 6],
 (.seq (.ops false [o 3 (.box (t 0)),o 6 (.mv (.const (.slice none 0 0)))])
 (.seq (.ops false [o 7 (.mv (.const (.slice none 0 0)))])
 (.seq (.seq (.ops false [o 8 (.mv (ci 0))])
 (.seq (.keep [1,2,3,7,8]) (.block 0 (.loop (.seq (.seq (.seq (.ops false [o 9 (.mv (t 8)),o 10 (.mv (t 2)),o 11 (.bin .lss (t 9) (t 10))])
 (.cond (t 11)
 .skip
 (.exit 0)))
 (.seq (.block 1 (.seq (.ops false [o 14 (.faddr 2 (t 3)),o 15 (.load1 (t 14)),o 16 (.mv (t 8)),o 17 (.iaddr 4 (t 15) (t 16)),o 18 (.faddr 0 (t 17)),o 19 (.load1 (t 18)),o 20 (.un .not (t 19)),o 21 (.mv (t 20)),⟨(some 22),.faddr 2 (t 3),some (21,true),false⟩,⟨(some 23),.load1 (t 22),some (21,true),false⟩,⟨(some 24),.mv (t 8),some (21,true),false⟩,⟨(some 25),.iaddr 4 (t 23) (t 24),some (21,true),false⟩,⟨(some 26),.faddr 1 (t 25),some (21,true),false⟩,⟨(some 27),.load1 (t 26),some (21,true),false⟩,⟨(some 28),.mv (t 1),some (21,true),false⟩,⟨(some 29),.bin .eql (t 27) (t 28),some (21,true),false⟩,o 30 (.pick (t 21) (t 29) (.const (.bool false)))])
 (.seq (.keep [1,2,3,7,8,30])
 (.cond (t 30)
 (.ops false [o 31 (.mv (t 7)),o 32 (.faddr 2 (t 3)),o 33 (.load1 (t 32)),o 34 (.mv (t 8)),o 35 (.iaddr 4 (t 33) (t 34)),o 36 (.faddr 2 (t 35)),o 37 (.load1 (t 36)),o 38 (.bslice 1 1 [(.int .i64 0)] [(0,(1,(t 37)))]),o 39 (.append 1 8 (t 31) (t 38)),o 7 (.mv (t 39))])
 .skip))))
 (.seq (.keep [1,2,3,7,8])
 (.ops false [o 12 (.mv (t 8)),o 13 (.bin .add (t 12) (ci 1)),o 8 (.mv (t 13))])))) (.keep [1,2,3,7,8]))))))
 (.seq (.keep [7])
 (.seq (.ops false [o 40 (.mv (t 7)),o 6 (.mv (t 40))])
 .ret)))))⟩
/-- coroner/coronerref04.number -/
def F_r04_number:AFn:=⟨1,[.tmp 2],
 (.seq (.ops false [o 2 (.mv (.const (.string ⟨#[]⟩)))])
 (.seq (.ops false [o 6 (.mv (t 0)),o 7 (.call (.func n_r01_Print) [(t 6)]),o 5 (.mv (t 7)),o 8 (.extract 0 (t 5)),o 9 (.extract 1 (t 5)),o 3 (.mv (t 8)),o 4 (.mv (t 9))])
 (.seq (.keep [3])
 (.seq (.ops false [o 10 (.mv (t 3)),o 2 (.mv (t 10))])
 .ret))))⟩
/-- coroner/table.goes[coroner/table.Write]$1 -/
def F_table_goes_table_Write_c1:AFn:=⟨2,[],
 (.seq (.ops false [o 5 (.load1 (t 1)),o 6 (.len 1 (t 5)),o 7 (.mv (ci 0))])
 (.seq (.keep [0,5,6,7]) (.block 0 (.loop (.seq (.seq (.ops false [o 8 (.bin .lss (t 7) (t 6))])
 (.seq (.cond (t 8)
 .skip
 (.exit 0))
 (.seq (.block 1 (.seq (.ops false [o 9 (.iaddr 5 (t 5) (t 7)),o 10 (.loadN 5 (t 9)),o 4 (.alloc [(.int .i64 0),(.int .i64 0),(.int .i64 0),(.int .i64 0),(.bool false)]),s (.store 5 (t 4) (t 10))])
 (.seq (.ops false [o 11 (.mv (t 0)),o 12 (.loadN 5 (t 4)),o 13 (.call (t 11) [(t 12)]),o 14 (.un .not (t 13))])
 (.cond (t 14)
 .ret
 .skip))))
 (.seq (.keep [0,5,6,7])
 (.ops false [o 15 (.bin .add (t 7) (ci 1)),o 7 (.mv (t 15))]))))) (.keep [0,5,6,7]))))))⟩
/-- (coroner/sorted.Set[int]).Or -/
def F_sorted_Set_int_Or:AFn:=⟨2,[.cellN 4 1],
 (.seq (.ops false [o 2 (.box (t 0)),o 3 (.box (t 1)),o 4 (.alloc [(.slice none 0 0)])])
 (.seq (.ops false [o 9 (.faddr 0 (t 2)),o 10 (.load1 (t 9)),o 11 (.len 1 (t 10)),o 12 (.faddr 0 (t 3)),o 13 (.load1 (t 12)),o 14 (.len 1 (t 13)),o 15 (.bin .add (t 11) (t 14)),o 16 (.mkslice 1 8 [(.int .i64 0)] (ci 0) (t 15)),o 5 (.mv (t 16))])
 (.seq (.keep [2,3,4,5])
 (.seq (.ops false [o 6 (.mv (ci 0)),o 7 (.mv (ci 0))])
 (.seq (.seq (.keep [2,3,4,5,6,7]) (.block 0 (.loop (.seq (.seq (.seq (.ops false [o 17 (.mv (t 6)),o 18 (.faddr 0 (t 2)),o 19 (.load1 (t 18)),o 20 (.len 1 (t 19)),o 21 (.bin .lss (t 17) (t 20)),o 22 (.mv (t 21)),⟨(some 23),.mv (t 7),some (22,true),false⟩,⟨(some 24),.faddr 0 (t 3),some (22,true),false⟩,⟨(some 25),.load1 (t 24),some (22,true),false⟩,⟨(some 26),.len 1 (t 25),some (22,true),false⟩,⟨(some 27),.bin .lss (t 23) (t 26),some (22,true),false⟩,o 28 (.pick (t 22) (t 27) (.const (.bool false)))])
 (.seq (.keep [2,3,4,5,6,7,28])
 (.cond (t 28)
 .skip
 (.exit 0))))
 (.seq (.keep [2,3,4,5,6,7])
 (.block 1 (.seq (.ops true [o 29 (.faddr 0 (t 2)),o 30 (.load1 (t 29)),o 31 (.mv (t 6)),o 32 (.iaddr 1 (t 30) (t 31)),o 33 (.load1 (t 32)),o 34 (.faddr 0 (t 3)),o 35 (.load1 (t 34)),o 36 (.mv (t 7)),o 37 (.iaddr 1 (t 35) (t 36)),o 38 (.load1 (t 37)),b 39 (.call (.func n_cmp_Compare_int) [(t 33),(t 38)]),b 8 (.mv (t 39))])
 (.seq (.keep [2,3,4,5,6,7,8])
 (.seq (.seq (.ops false [o 40 (.mv (t 8)),o 41 (.bin .leq (t 40) (ci 0))])
 (.cond (t 41)
 (.seq (.ops false [o 42 (.mv (t 5)),o 43 (.faddr 0 (t 2)),o 44 (.load1 (t 43)),o 45 (.mv (t 6)),o 46 (.iaddr 1 (t 44) (t 45)),o 47 (.load1 (t 46)),o 48 (.bslice 1 1 [(.int .i64 0)] [(0,(1,(t 47)))]),o 49 (.append 1 8 (t 42) (t 48)),o 5 (.mv (t 49))])
 (.seq (.keep [2,3,4,5,6,7,8])
 (.ops false [o 50 (.mv (t 6)),o 51 (.bin .add (t 50) (ci 1)),o 6 (.mv (t 51))])))
 (.ops false [o 52 (.mv (t 5)),o 53 (.faddr 0 (t 3)),o 54 (.load1 (t 53)),o 55 (.mv (t 7)),o 56 (.iaddr 1 (t 54) (t 55)),o 57 (.load1 (t 56)),o 58 (.bslice 1 1 [(.int .i64 0)] [(0,(1,(t 57)))]),o 59 (.append 1 8 (t 52) (t 58)),o 5 (.mv (t 59))])))
 (.seq (.keep [2,3,4,5,6,7,8])
 (.seq (.ops false [o 60 (.mv (t 8)),o 61 (.bin .geq (t 60) (ci 0))])
 (.cond (t 61)
 (.ops false [o 62 (.mv (t 7)),o 63 (.bin .add (t 62) (ci 1)),o 7 (.mv (t 63))])
 .skip))))))))) (.keep [2,3,4,5,6,7])))))
 (.seq (.keep [2,3,4,5,6,7])
 (.seq (.opsK [(5,70)] [(70,64)] [o 64 (.mv (t 5)),o 65 (.faddr 0 (t 2)),o 66 (.load1 (t 65)),o 67 (.mv (t 6)),o 68 (.slc 1 (t 66) (some (t 67)) none),b 69 (.append 1 8 (t 64) (t 68)),o 70 (.faddr 0 (t 3)),o 71 (.load1 (t 70)),o 72 (.mv (t 7)),o 73 (.slc 1 (t 71) (some (t 72)) none),b 74 (.append 1 8 (t 69) (t 73)),o 75 (.build [(.slice none 0 0)] [(0,(1,(t 74)))]),sb (.store 1 (t 4) (t 75))])
 (.seq (.keep [4])
 .ret))))))))⟩
/-- coroner/encode.may$1 -/
def F_encode_may_c1:AFn:=⟨1,[.tmp 2],
 (.seq (.ops false [o 2 (.mv (.const (.bool false)))])
 (.seq (.ops false [o 3 (.mv (t 0)),o 4 (.bin .lss (t 3) (ci 0)),o 5 (.mv (t 4)),⟨(some 6),.mv (t 0),some (5,false),false⟩,⟨(some 7),.bin .gtr (t 6) (ci 2147483647),some (5,false),false⟩,o 8 (.pick (t 5) (.const (.bool true)) (t 7)),o 2 (.mv (t 8))])
 (.seq (.keep [2])
 .ret)))⟩
/-- coroner/coronerlaw16.few -/
def F_l16_few:AFn:=⟨1,[.tmp 2],
 (.seq (.ops false [o 1 (.box (t 0)),o 2 (.mv (.const (.bool false)))])
 (.seq (.ops false [o 3 (.loadN 1 (t 1)),o 4 (.call (.func n_r03_Few) [(t 3),(ci 20),(ci 60)]),o 5 (.mv (t 4)),⟨(some 6),.loadN 1 (t 1),some (5,true),false⟩,⟨(some 7),.call (.func n_r04_Check) [(t 6)],some (5,true),false⟩,⟨(some 8),.bin .eql (t 7) (ci 0),some (5,true),false⟩,o 9 (.pick (t 5) (t 8) (.const (.bool false))),o 2 (.mv (t 9))])
 (.seq (.keep [2])
 .ret)))⟩
/-- coroner/coronerref15.Is -/
def F_r15_Is:AFn:=⟨2,[.tmp 4],
 (.seq (.ops false [o 4 (.mv (.const (.bool false)))])
 (.seq (.ops false [o 5 (.mv (t 0)),o 6 (.len 1 (t 5)),o 7 (.mv (t 1)),o 8 (.len 1 (t 7)),o 9 (.bin .leq (t 6) (t 8)),o 10 (.mv (t 9)),⟨(some 11),.mv (t 0),some (10,true),false⟩,⟨(some 12),.mv (t 1),some (10,true),false⟩,⟨(some 13),.mv (t 0),some (10,true),false⟩,⟨(some 14),.len 1 (t 13),some (10,true),false⟩,⟨(some 15),.slc 1 (t 12) none (some (t 14)),some (10,true),false⟩,⟨(some 16),.call (.func n_r01_Same) [(t 11),(t 15)],some (10,true),false⟩,o 17 (.pick (t 10) (t 16) (.const (.bool false))),o 4 (.mv (t 17))])
 (.seq (.keep [4])
 .ret)))⟩
/-- coroner/reads.Kind -/
def F_reads_Kind:AFn:=⟨2,[.tmp 4,.tmp 5],
 (.seq (.ops false [o 3 (.box (t 1)),o 4 (.mv (ci 0)),o 5 (.mv (ci 0))])
 (.seq (.seq (.ops false [o 13 (.faddr 3 (t 3)),o 14 (.load1 (t 13)),o 15 (.call (.func n_reads_twice) [(t 14)]),o 12 (.mv (t 15)),o 16 (.extract 0 (t 12)),o 17 (.extract 1 (t 12)),o 6 (.mv (t 16)),o 7 (.mv (t 17))])
 (.seq (.keep [0,3,6,7])
 (.seq (.ops false [o 18 (.mv (t 7))])
 (.cond (t 18)
 (.seq (.ops false [o 19 (.mv (t 6)),o 4 (.mv (ci 1)),o 5 (.mv (t 19))])
 .ret)
 .skip))))
 (.seq (.keep [0,3])
 (.seq (.seq (.ops false [o 21 (.mv (t 0)),o 22 (.loadN 5 (t 3)),o 23 (.call (.func n_reads_unborn) [(t 21),(t 22)]),o 20 (.mv (t 23)),o 24 (.extract 0 (t 20)),o 25 (.extract 1 (t 20)),o 8 (.mv (t 24)),o 9 (.mv (t 25))])
 (.seq (.keep [0,3,8,9])
 (.seq (.ops false [o 26 (.mv (t 9))])
 (.cond (t 26)
 (.seq (.ops false [o 27 (.mv (t 8)),o 4 (.mv (ci 2)),o 5 (.mv (t 27))])
 .ret)
 .skip))))
 (.seq (.keep [0,3])
 (.seq (.seq (.ops false [o 29 (.mv (t 0)),o 30 (.loadN 5 (t 3)),o 31 (.call (.func n_reads_inner) [(t 29),(t 30)]),o 28 (.mv (t 31)),o 32 (.extract 0 (t 28)),o 33 (.extract 1 (t 28)),o 10 (.mv (t 32)),o 11 (.mv (t 33))])
 (.seq (.keep [10,11])
 (.seq (.ops false [o 34 (.mv (t 11))])
 (.cond (t 34)
 (.seq (.ops false [o 35 (.mv (t 10)),o 4 (.mv (ci 3)),o 5 (.mv (t 35))])
 .ret)
 .skip))))
 (.seq (.keep [])
 (.seq (.ops false [o 4 (.mv (ci 0)),o 5 (.mv (ci 0))])
 .ret))))))))⟩
/-- coroner/coronerref13.Front -/
def F_r13_Front:AFn:=⟨1,[.tmp 2],
 (.seq (.ops false [o 1 (.box (t 0)),o 2 (.mv (.const (.slice none 0 0)))])
 (.seq (.ops false [o 4 (.faddr 3 (t 1)),o 5 (.load1 (t 4)),o 6 (.len 1 (t 5)),o 7 (.faddr 4 (t 1)),o 8 (.load1 (t 7)),o 9 (.len 1 (t 8)),o 10 (.bin .sub (t 6) (t 9)),o 3 (.mv (t 10))])
 (.seq (.keep [1,3])
 (.seq (.seq (.ops false [o 11 (.mv (t 3)),o 12 (.bin .leq (t 11) (ci 0))])
 (.cond (t 12)
 (.seq (.ops false [o 2 (.mv (.const (.slice none 0 0)))])
 .ret)
 .skip))
 (.seq (.ops false [o 13 (.bslice 1 0 [] []),o 14 (.faddr 3 (t 1)),o 15 (.load1 (t 14)),o 16 (.mv (t 3)),o 17 (.slc 1 (t 15) none (some (t 16))),o 18 (.append 1 8 (t 13) (t 17)),o 2 (.mv (t 18))])
 (.seq (.keep [2])
 .ret))))))⟩
/-- coroner/coronerref04.Check -/
def F_r04_Check:AFn:=⟨1,[.tmp 2],
 (.seq (.ops false [o 1 (.box (t 0)),o 2 (.mv (ci 0))])
 (.seq (.seq (.ops false [o 7 (.faddr 0 (t 1)),o 8 (.load1 (t 7)),o 9 (.len 1 (t 8)),o 10 (.bin .gtr (t 9) (ci 1024)),o 11 (.mv (t 10)),⟨(some 12),.loadN 1 (t 1),some (11,false),false⟩,⟨(some 13),.call (.func n_r03_Ops) [(t 12)],some (11,false),false⟩,⟨(some 14),.bin .gtr (t 13) (ci 4096),some (11,false),false⟩,o 15 (.pick (t 11) (.const (.bool true)) (t 14))])
 (.seq (.keep [1,15])
 (.cond (t 15)
 (.seq (.ops false [o 2 (.mv (ci 3))])
 .ret)
 .skip)))
 (.seq (.keep [1])
 (.seq (.seq (.ops false [o 3 (.mv (ci 0))])
 (.seq (.keep [1,3]) (.block 0 (.loop (.seq (.seq (.seq (.ops false [o 16 (.mv (t 3)),o 17 (.faddr 0 (t 1)),o 18 (.load1 (t 17)),o 19 (.len 1 (t 18)),o 20 (.bin .lss (t 16) (t 19))])
 (.cond (t 20)
 .skip
 (.exit 0)))
 (.seq (.block 1 (.seq (.ops false [o 23 (.faddr 0 (t 1)),o 24 (.load1 (t 23)),o 25 (.mv (t 3)),o 26 (.iaddr 3 (t 24) (t 25)),o 27 (.loadN 3 (t 26)),o 4 (.alloc [(.int .i64 0),(.bool false),(.slice none 0 0)]),s (.store 3 (t 4) (t 27))])
 (.seq (.keep [1,3,4])
 (.seq (.seq (.ops false [o 28 (.faddr 0 (t 4)),o 29 (.load1 (t 28)),o 30 (.call (.func n_r04_may) [(t 29)]),o 31 (.un .not (t 30))])
 (.cond (t 31)
 (.seq (.ops false [o 2 (.mv (ci 2))])
 .ret)
 .skip))
 (.seq (.seq (.ops false [o 5 (.mv (ci 0))])
 (.seq (.keep [1,3,4,5]) (.block 2 (.loop (.seq (.seq (.seq (.ops false [o 32 (.mv (t 5)),o 33 (.mv (t 3)),o 34 (.bin .lss (t 32) (t 33))])
 (.cond (t 34)
 .skip
 (.exit 2)))
 (.seq (.block 3 (.seq (.ops true [o 37 (.faddr 0 (t 1)),o 38 (.load1 (t 37)),o 39 (.mv (t 5)),o 40 (.iaddr 3 (t 38) (t 39)),o 41 (.faddr 0 (t 40)),o 42 (.load1 (t 41)),o 43 (.faddr 0 (t 4)),o 44 (.load1 (t 43)),b 45 (.bin .eql (t 42) (t 44))])
 (.seq (.keep [1,3,4,5,45])
 (.cond (t 45)
 (.seq (.ops false [o 2 (.mv (ci 5))])
 .ret)
 .skip))))
 (.seq (.keep [1,3,4,5])
 (.ops false [o 35 (.mv (t 5)),o 36 (.bin .add (t 35) (ci 1)),o 5 (.mv (t 36))])))) (.keep [1,3,4,5]))))))
 (.seq (.keep [1,3,4])
 (.seq (.ops false [o 6 (.mv (ci 0))])
 (.seq (.keep [1,3,4,6]) (.block 4 (.loop (.seq (.seq (.seq (.ops false [o 46 (.mv (t 6)),o 47 (.faddr 2 (t 4)),o 48 (.load1 (t 47)),o 49 (.len 1 (t 48)),o 50 (.bin .lss (t 46) (t 49))])
 (.cond (t 50)
 .skip
 (.exit 4)))
 (.seq (.block 5 (.seq (.seq (.ops false [o 53 (.faddr 2 (t 4)),o 54 (.load1 (t 53)),o 55 (.mv (t 6)),o 56 (.iaddr 4 (t 54) (t 55)),o 57 (.loadN 4 (t 56)),o 58 (.call (.func n_r04_mayOp) [(t 57)]),o 59 (.un .not (t 58))])
 (.seq (.keep [1,3,4,6,59])
 (.cond (t 59)
 (.seq (.ops false [o 2 (.mv (ci 2))])
 .ret)
 .skip)))
 (.seq (.keep [1,3,4,6])
 (.seq (.ops true (o 60 (.faddr 2 (t 4))::o 61 (.load1 (t 60))::o 62 (.mv (t 6))::b 63 (.iaddr 4 (t 61) (t 62))::b 64 (.faddr 0 (t 63))::b 65 (.load1 (t 64))::b 66 (.un .not (t 65))::b 67 (.mv (t 66))::⟨(some 68),.loadN 1 (t 1),some (67,true),false⟩::⟨(some 69),.mv (t 3),some (67,true),false⟩::⟨(some 70),.mv (t 6),some (67,true),false⟩::⟨(some 71),.call (.func n_r04_earlier) [(t 68),(t 69),(t 70)],some (67,true),false⟩::⟨(some 72),.faddr 2 (t 4),some (67,true),false⟩::⟨(some 73),.load1 (t 72),some (67,true),false⟩::⟨(some 74),.mv (t 6),some (67,true),false⟩::⟨(some 75),.iaddr 4 (t 73) (t 74),some (67,true),false⟩::⟨(some 76),.faddr 1 (t 75),some (67,true),false⟩::⟨(some 77),.load1 (t 76),some (67,true),false⟩::⟨(some 78),.faddr 2 (t 4),some (67,true),false⟩::⟨(some 79),.load1 (t 78),some (67,true),false⟩::⟨(some 80),.mv (t 6),some (67,true),false⟩::⟨(some 81),.iaddr 4 (t 79) (t 80),some (67,true),false⟩::⟨(some 82),.faddr 2 (t 81),some (67,true),false⟩::⟨(some 83),.load1 (t 82),some (67,true),false⟩::⟨(some 84),.call (.func n_r03_Appended) [(t 71),(t 77),(t 83)],some (67,true),true⟩::b 85 (.pick (t 67) (t 84) (.const (.bool false)))::[]))
 (.seq (.keep [1,3,4,6,85])
 (.cond (t 85)
 (.seq (.ops false [o 2 (.mv (ci 6))])
 .ret)
 .skip))))))
 (.seq (.keep [1,3,4,6])
 (.ops false [o 51 (.mv (t 6)),o 52 (.bin .add (t 51) (ci 1)),o 6 (.mv (t 52))])))) (.keep [1,3,4,6]))))))))))))
 (.seq (.keep [1,3])
 (.ops false [o 21 (.mv (t 3)),o 22 (.bin .add (t 21) (ci 1)),o 3 (.mv (t 22))])))) (.keep [1,3]))))))
 (.seq (.keep [1])
 (.seq (.seq (.ops false [o 86 (.loadN 1 (t 1)),o 87 (.call (.func n_r04_Text) [(t 86)]),o 88 (.len 0 (t 87)),o 89 (.bin .gtr (t 88) (ci 262144))])
 (.cond (t 89)
 (.seq (.ops false [o 2 (.mv (ci 3))])
 .ret)
 .skip))
 (.seq (.ops false [o 2 (.mv (ci 0))])
 .ret)))))))⟩
/-- (*coroner/table.Table).put -/
def F_table_Table_put:AFn:=⟨4,[],
 (.seq (.ops false [o 5 (.box (t 1)),o 7 (.box (t 3))])
 (.seq (.ops false [o 10 (.faddr 0 (t 5)),o 11 (.load1 (t 10)),o 12 (.faddr 1 (t 7)),o 13 (.load1 (t 12)),o 14 (.build [(.int .i64 0),(.int .i64 0)] [(0,(1,(t 11))),(1,(1,(t 13)))]),o 8 (.alloc [(.int .i64 0),(.int .i64 0)]),s (.store 2 (t 8) (t 14))])
 (.seq (.keep [0,2,5,7,8])
 (.seq (.seq (.ops false [o 15 (.faddr 0 (t 7)),o 16 (.load1 (t 15))])
 (.cond (t 16)
 (.seq (.seq (.ops false [o 17 (.faddr 1 (t 5)),o 18 (.load1 (t 17)),o 19 (.un .not (t 18))])
 (.cond (t 19)
 (.opsK [(29,22),(29,24)] [] (o 20 (.mv (t 0))::o 21 (.nilc (t 20))::o 22 (.faddr 5 (t 21))::o 23 (.load1 (t 22))::o 24 (.faddr 1 (t 7))::o 25 (.load1 (t 24))::o 26 (.mv (t 0))::o 27 (.nilc (t 26))::o 28 (.faddr 5 (t 27))::o 29 (.load1 (t 28))::o 30 (.faddr 1 (t 7))::o 31 (.load1 (t 30))::o 32 (.lookup (.one 1) (.slice none 0 0) false (t 29) (t 31))::o 33 (.faddr 0 (t 5))::o 34 (.load1 (t 33))::o 35 (.mv (t 2))::o 36 (.faddr 1 (t 7))::o 37 (.load1 (t 36))::o 38 (.faddr 3 (t 7))::o 39 (.load1 (t 38))::o 40 (.mv (t 0))::o 41 (.nilc (t 40))::o 42 (.faddr 4 (t 41))::o 43 (.load1 (t 42))::o 44 (.loadN 2 (t 8))::o 45 (.lookup (.many [1,1]) (.slice none 0 0) false (t 43) (t 44))::o 46 (.call (.func n_slices_Clone_int_int) [(t 45)])::o 47 (.build [(.int .i64 0),(.int .i64 0),(.int .i64 0),(.slice none 0 0),(.slice none 0 0)] [(0,(1,(t 34))),(1,(1,(t 35))),(2,(1,(t 37))),(3,(1,(t 39))),(4,(1,(t 46)))])::o 48 (.bslice 5 1 [(.int .i64 0),(.int .i64 0),(.int .i64 0),(.slice none 0 0),(.slice none 0 0)] [(0,(5,(t 47)))])::b 49 (.append 5 72 (t 32) (t 48))::sb (.mapupd (.one 1) (t 23) (t 25) (t 49))::[]))
 .skip))
 (.seq (.keep [])
 .ret))
 .skip))
 (.seq (.keep [0,2,5,7,8])
 (.seq (.ops false [o 50 (.faddr 0 (t 5)),o 51 (.load1 (t 50)),o 52 (.mv (t 2)),o 53 (.faddr 1 (t 7)),o 54 (.load1 (t 53)),o 55 (.faddr 2 (t 7)),o 56 (.load1 (t 55)),o 57 (.faddr 1 (t 5)),o 58 (.load1 (t 57)),o 59 (.build [(.int .i64 0),(.int .i64 0),(.int .i64 0),(.int .i64 0),(.bool false)] [(0,(1,(t 51))),(1,(1,(t 52))),(2,(1,(t 54))),(3,(1,(t 56))),(4,(1,(t 58)))]),o 9 (.alloc [(.int .i64 0),(.int .i64 0),(.int .i64 0),(.int .i64 0),(.bool false)]),s (.store 5 (t 9) (t 59))])
 (.seq (.keep [0,5,7,8,9])
 (.seq (.ops true [o 60 (.mv (t 0)),o 61 (.nilc (t 60)),o 62 (.faddr 3 (t 61)),o 63 (.load1 (t 62)),o 64 (.faddr 1 (t 7)),o 65 (.load1 (t 64)),o 66 (.faddr 2 (t 7)),o 67 (.load1 (t 66)),o 68 (.build [(.int .i64 0),(.int .i64 0)] [(0,(1,(t 65))),(1,(1,(t 67)))]),o 69 (.loadN 5 (t 9)),sb (.mapupd (.many [1,1]) (t 63) (t 68) (t 69))])
 (.seq (.keep [0,5,7,8,9])
 (.seq (.opsK [] [] [o 70 (.mv (t 0)),o 71 (.nilc (t 70)),o 72 (.faddr 4 (t 71)),o 73 (.load1 (t 72)),o 74 (.loadN 2 (t 8)),o 76 (.faddr 2 (t 7)),o 77 (.load1 (t 76)),o 78 (.bslice 1 1 [(.int .i64 0)] [(0,(1,(t 77)))]),b 79 (.mapent (.many [1,1]) (.slice none 0 0) (t 73) (t 74)),o 75 (.extract 0 (t 79)),b 80 (.append 1 8 (t 75) (t 78)),o 81 (.extract 1 (t 79)),sb (.entst (t 73) (t 81) (t 80))])
 (.seq (.keep [0,5,7,9])
 (.seq (.ops false [o 82 (.faddr 1 (t 5)),o 83 (.load1 (t 82)),o 84 (.un .not (t 83))])
 (.cond (t 84)
 (.opsK [(15,87),(15,89)] [] [o 85 (.mv (t 0)),o 86 (.nilc (t 85)),o 87 (.faddr 6 (t 86)),o 88 (.load1 (t 87)),o 89 (.faddr 1 (t 7)),o 90 (.load1 (t 89)),o 91 (.mv (t 0)),o 92 (.nilc (t 91)),o 93 (.faddr 6 (t 92)),o 94 (.load1 (t 93)),o 95 (.faddr 1 (t 7)),o 96 (.load1 (t 95)),o 97 (.lookup (.one 1) (.slice none 0 0) false (t 94) (t 96)),o 98 (.loadN 5 (t 9)),o 99 (.bslice 5 1 [(.int .i64 0),(.int .i64 0),(.int .i64 0),(.int .i64 0),(.bool false)] [(0,(5,(t 98)))]),b 100 (.append 5 40 (t 97) (t 99)),sb (.mapupd (.one 1) (t 88) (t 90) (t 100))])
 .skip)))))))))))))⟩
/-- (*coroner/table.Table).Writes -/
def F_table_Table_Writes:AFn:=⟨2,[.tmp 4],
 (.seq (.ops false [o 4 (.mv (.const .nilFunc))])
 (.seq (.seq (.ops false [o 5 (.mv (t 0)),o 6 (.call (.func n_table_Table_is) [(t 5)]),o 7 (.un .not (t 6))])
 (.cond (t 7)
 (.seq (.ops false [o 8 (.call (.func n_table_goes_table_Write) [(.const (.slice none 0 0))]),o 4 (.mv (t 8))])
 .ret)
 .skip))
 (.seq (.ops false [o 9 (.mv (t 0)),o 10 (.nilc (t 9)),o 11 (.faddr 6 (t 10)),o 12 (.load1 (t 11)),o 13 (.mv (t 1)),o 14 (.lookup (.one 1) (.slice none 0 0) false (t 12) (t 13)),o 15 (.call (.func n_table_goes_table_Write) [(t 14)]),o 4 (.mv (t 15))])
 (.seq (.keep [4])
 .ret))))⟩
/-- slices.Clone[[]int,int] -/
def F_slices_Clone_int_int:AFn:=⟨1,[.tmp 2],
 (.seq (.ops false [o 2 (.mv (.const (.slice none 0 0)))])
 (.seq (.seq (.ops false [o 3 (.mv (t 0)),o 4 (.eqv 2 false (t 3) (.const (.slice none 0 0)))])
 (.cond (t 4)
 (.seq (.ops false [o 2 (.mv (.const (.slice none 0 0)))])
 .ret)
 .skip))
 (.seq (.ops false [o 5 (.bslice 1 0 [] []),o 6 (.mv (t 0)),o 7 (.append 1 8 (t 5) (t 6)),o 2 (.mv (t 7))])
 .ret)))⟩
/-- coroner/coronerref12.Writer -/
def F_r12_Writer:AFn:=⟨3,[.cellN 6 5,.tmp 7],
 (.seq (.ops false [o 3 (.box (t 0)),o 6 (.alloc [(.int .i64 0),(.int .i64 0),(.int .i64 0),(.int .i64 0),(.bool false)]),o 7 (.mv (.const (.bool false)))])
 (.seq (.seq (.ops false [o 8 (.mv (ci 0))])
 (.seq (.keep [1,2,3,6,8]) (.block 0 (.loop (.seq (.seq (.seq (.ops false [o 11 (.mv (t 8)),o 12 (.faddr 0 (t 3)),o 13 (.load1 (t 12)),o 14 (.len 1 (t 13)),o 15 (.bin .lss (t 11) (t 14))])
 (.cond (t 15)
 .skip
 (.exit 0)))
 (.seq (.block 1 (.seq (.ops false [o 18 (.faddr 0 (t 3)),o 19 (.load1 (t 18)),o 20 (.mv (t 8)),o 21 (.iaddr 3 (t 19) (t 20)),o 22 (.loadN 3 (t 21)),o 9 (.alloc [(.int .i64 0),(.bool false),(.slice none 0 0)]),s (.store 3 (t 9) (t 22))])
 (.seq (.keep [1,2,3,6,8,9])
 (.seq (.ops false [o 10 (.mv (ci 0))])
 (.seq (.keep [1,2,3,6,8,9,10]) (.block 2 (.loop (.seq (.seq (.seq (.ops false [o 23 (.mv (t 10)),o 24 (.faddr 2 (t 9)),o 25 (.load1 (t 24)),o 26 (.len 1 (t 25)),o 27 (.bin .lss (t 23) (t 26))])
 (.cond (t 27)
 .skip
 (.exit 2)))
 (.seq (.block 3 (.seq (.ops false (o 30 (.faddr 2 (t 9))::o 31 (.load1 (t 30))::o 32 (.mv (t 10))::o 33 (.iaddr 4 (t 31) (t 32))::o 34 (.faddr 0 (t 33))::o 35 (.load1 (t 34))::o 36 (.un .not (t 35))::o 37 (.mv (t 36))::⟨(some 38),.faddr 2 (t 9),some (37,true),false⟩::⟨(some 39),.load1 (t 38),some (37,true),false⟩::⟨(some 40),.mv (t 10),some (37,true),false⟩::⟨(some 41),.iaddr 4 (t 39) (t 40),some (37,true),false⟩::⟨(some 42),.faddr 1 (t 41),some (37,true),false⟩::⟨(some 43),.load1 (t 42),some (37,true),false⟩::⟨(some 44),.mv (t 1),some (37,true),false⟩::⟨(some 45),.bin .eql (t 43) (t 44),some (37,true),false⟩::o 46 (.pick (t 37) (t 45) (.const (.bool false)))::o 47 (.mv (t 46))::⟨(some 48),.faddr 2 (t 9),some (47,true),false⟩::⟨(some 49),.load1 (t 48),some (47,true),false⟩::⟨(some 50),.mv (t 10),some (47,true),false⟩::⟨(some 51),.iaddr 4 (t 49) (t 50),some (47,true),false⟩::⟨(some 52),.faddr 2 (t 51),some (47,true),false⟩::⟨(some 53),.load1 (t 52),some (47,true),false⟩::⟨(some 54),.mv (t 2),some (47,true),false⟩::⟨(some 55),.bin .eql (t 53) (t 54),some (47,true),false⟩::o 56 (.pick (t 47) (t 55) (.const (.bool false)))::[]))
 (.seq (.keep [1,2,3,6,8,9,10,56])
 (.cond (t 56)
 (.seq (.ops false [o 57 (.faddr 0 (t 9)),o 58 (.load1 (t 57)),o 59 (.mv (t 10)),o 60 (.mv (t 1)),o 61 (.mv (t 2)),o 62 (.faddr 1 (t 9)),o 63 (.load1 (t 62)),o 64 (.build [(.int .i64 0),(.int .i64 0),(.int .i64 0),(.int .i64 0),(.bool false)] [(0,(1,(t 58))),(1,(1,(t 59))),(2,(1,(t 60))),(3,(1,(t 61))),(4,(1,(t 63)))]),s (.store 5 (t 6) (t 64)),o 7 (.mv (.const (.bool true)))])
 (.seq (.keep [6,7])
 .ret))
 .skip))))
 (.seq (.keep [1,2,3,6,8,9,10])
 (.ops false [o 28 (.mv (t 10)),o 29 (.bin .add (t 28) (ci 1)),o 10 (.mv (t 29))])))) (.keep [1,2,3,6,8,9,10])))))))))
 (.seq (.keep [1,2,3,6,8])
 (.ops false [o 16 (.mv (t 8)),o 17 (.bin .add (t 16) (ci 1)),o 8 (.mv (t 17))])))) (.keep [1,2,3,6,8]))))))
 (.seq (.keep [6])
 (.seq (.ops false [o 65 (.build [(.int .i64 0),(.int .i64 0),(.int .i64 0),(.int .i64 0),(.bool false)] []),s (.store 5 (t 6) (t 65)),o 7 (.mv (.const (.bool false)))])
 .ret))))⟩
/-- coroner/coronerref12.Reads -/
def F_r12_Reads:AFn:=⟨2,[.tmp 4],
 (.seq (.ops false [o 2 (.box (t 0)),o 4 (.mv (.const (.slice none 0 0)))])
 (.seq (.ops false [o 5 (.mv (.const (.slice none 0 0)))])
 (.seq (.ops false [o 10 (.loadN 1 (t 2)),o 11 (.call (.func n_r12_IDs) [(t 10)]),o 6 (.mv (t 11))])
 (.seq (.seq (.ops false [o 7 (.mv (ci 0))])
 (.seq (.keep [1,2,5,6,7]) (.block 0 (.loop (.seq (.seq (.seq (.ops false [o 12 (.mv (t 7)),o 13 (.mv (t 6)),o 14 (.len 1 (t 13)),o 15 (.bin .lss (t 12) (t 14))])
 (.cond (t 15)
 .skip
 (.exit 0)))
 (.seq (.block 1 (.seq (.ops true [o 18 (.loadN 1 (t 2)),o 19 (.mv (t 6)),o 20 (.mv (t 7)),o 21 (.iaddr 1 (t 19) (t 20)),o 22 (.load1 (t 21)),o 23 (.call (.func n_r12_txn) [(t 18),(t 22)]),o 8 (.alloc [(.int .i64 0),(.bool false),(.slice none 0 0)]),sb (.store 3 (t 8) (t 23))])
 (.seq (.keep [1,2,5,6,7,8])
 (.seq (.ops false [o 9 (.mv (ci 0))])
 (.seq (.keep [1,2,5,6,7,8,9]) (.block 2 (.loop (.seq (.seq (.seq (.ops false [o 24 (.mv (t 9)),o 25 (.faddr 2 (t 8)),o 26 (.load1 (t 25)),o 27 (.len 1 (t 26)),o 28 (.bin .lss (t 24) (t 27))])
 (.cond (t 28)
 .skip
 (.exit 2)))
 (.seq (.block 3 (.seq (.ops false [o 31 (.faddr 2 (t 8)),o 32 (.load1 (t 31)),o 33 (.mv (t 9)),o 34 (.iaddr 4 (t 32) (t 33)),o 35 (.faddr 0 (t 34)),o 36 (.load1 (t 35)),o 37 (.mv (t 36)),⟨(some 38),.faddr 2 (t 8),some (37,true),false⟩,⟨(some 39),.load1 (t 38),some (37,true),false⟩,⟨(some 40),.mv (t 9),some (37,true),false⟩,⟨(some 41),.iaddr 4 (t 39) (t 40),some (37,true),false⟩,⟨(some 42),.faddr 1 (t 41),some (37,true),false⟩,⟨(some 43),.load1 (t 42),some (37,true),false⟩,⟨(some 44),.mv (t 1),some (37,true),false⟩,⟨(some 45),.bin .eql (t 43) (t 44),some (37,true),false⟩,o 46 (.pick (t 37) (t 45) (.const (.bool false)))])
 (.seq (.keep [1,2,5,6,7,8,9,46])
 (.cond (t 46)
 (.ops true [o 47 (.mv (t 5)),o 48 (.faddr 0 (t 8)),o 49 (.load1 (t 48)),o 50 (.mv (t 9)),o 51 (.mv (t 1)),o 52 (.faddr 2 (t 8)),o 53 (.load1 (t 52)),o 54 (.mv (t 9)),o 55 (.iaddr 4 (t 53) (t 54)),o 56 (.faddr 3 (t 55)),o 57 (.load1 (t 56)),o 58 (.loadN 3 (t 8)),o 59 (.mv (t 1)),o 60 (.mv (t 9)),o 61 (.call (.func n_r12_ahead) [(t 58),(t 59),(t 60)]),o 62 (.build [(.int .i64 0),(.int .i64 0),(.int .i64 0),(.slice none 0 0),(.slice none 0 0)] [(0,(1,(t 49))),(1,(1,(t 50))),(2,(1,(t 51))),(3,(1,(t 57))),(4,(1,(t 61)))]),o 63 (.bslice 5 1 [(.int .i64 0),(.int .i64 0),(.int .i64 0),(.slice none 0 0),(.slice none 0 0)] [(0,(5,(t 62)))]),b 64 (.append 5 72 (t 47) (t 63)),b 5 (.mv (t 64))])
 .skip))))
 (.seq (.keep [1,2,5,6,7,8,9])
 (.ops false [o 29 (.mv (t 9)),o 30 (.bin .add (t 29) (ci 1)),o 9 (.mv (t 30))])))) (.keep [1,2,5,6,7,8,9])))))))))
 (.seq (.keep [1,2,5,6,7])
 (.ops false [o 16 (.mv (t 7)),o 17 (.bin .add (t 16) (ci 1)),o 7 (.mv (t 17))])))) (.keep [1,2,5,6,7]))))))
 (.seq (.keep [5])
 (.seq (.ops false [o 65 (.mv (t 5)),o 4 (.mv (t 65))])
 .ret))))))⟩
/-- coroner/reads.inner -/
def F_reads_inner:AFn:=⟨2,[.tmp 4,.tmp 5],
 (.seq (.ops false [o 3 (.box (t 1)),o 4 (.mv (ci 0)),o 5 (.mv (.const (.bool false)))])
 (.seq (.ops false [o 13 (.faddr 3 (t 3)),o 14 (.load1 (t 13)),o 15 (.len 1 (t 14)),o 16 (.faddr 4 (t 3)),o 17 (.load1 (t 16)),o 18 (.len 1 (t 17)),o 19 (.bin .sub (t 15) (t 18)),o 6 (.mv (t 19))])
 (.seq (.keep [0,3,6])
 (.seq (.seq (.ops false [o 20 (.faddr 4 (t 3)),o 21 (.load1 (t 20)),o 22 (.len 1 (t 21)),o 23 (.mv (ci 0))])
 (.seq (.keep [0,3,6,21,22,23]) (.block 0 (.loop (.seq (.seq (.ops false [o 24 (.bin .lss (t 23) (t 22))])
 (.seq (.cond (t 24)
 .skip
 (.exit 0))
 (.seq (.block 1 (.seq (.ops false [o 25 (.mv (t 23)),o 26 (.iaddr 1 (t 21) (t 23)),o 27 (.load1 (t 26)),o 7 (.mv (t 25)),o 8 (.mv (t 27))])
 (.seq (.ops false [o 28 (.mv (t 6)),o 29 (.mv (t 7)),o 30 (.bin .add (t 28) (t 29)),o 31 (.bin .lss (t 30) (ci 0)),o 32 (.mv (t 31)),⟨(some 33),.faddr 3 (t 3),some (32,false),false⟩,⟨(some 34),.load1 (t 33),some (32,false),false⟩,⟨(some 35),.mv (t 6),some (32,false),false⟩,⟨(some 36),.mv (t 7),some (32,false),false⟩,⟨(some 37),.bin .add (t 35) (t 36),some (32,false),false⟩,⟨(some 38),.iaddr 1 (t 34) (t 37),some (32,false),false⟩,⟨(some 39),.load1 (t 38),some (32,false),false⟩,⟨(some 40),.mv (t 8),some (32,false),false⟩,⟨(some 41),.bin .neq (t 39) (t 40),some (32,false),false⟩,o 42 (.pick (t 32) (.const (.bool true)) (t 41))])
 (.seq (.keep [0,3,6,8,21,22,23,42])
 (.cond (t 42)
 (.seq (.ops false [o 43 (.mv (t 8)),o 4 (.mv (t 43)),o 5 (.mv (.const (.bool true)))])
 .ret)
 .skip)))))
 (.seq (.keep [0,3,6,21,22,23])
 (.ops false [o 44 (.bin .add (t 23) (ci 1)),o 23 (.mv (t 44))]))))) (.keep [0,3,6,21,22,23]))))))
 (.seq (.keep [0,3])
 (.seq (.seq (.ops false [o 45 (.loadN 5 (t 3)),o 46 (.call (.func n_reads_Front) [(t 45)]),o 47 (.len 1 (t 46)),o 48 (.mv (ci 0))])
 (.seq (.keep [0,3,46,47,48]) (.block 2 (.loop (.seq (.seq (.ops false [o 49 (.bin .lss (t 48) (t 47))])
 (.seq (.cond (t 49)
 .skip
 (.exit 2))
 (.seq (.block 3 (.seq (.ops false [o 50 (.iaddr 1 (t 46) (t 48)),o 51 (.load1 (t 50)),o 10 (.mv (t 51))])
 (.seq (.ops false [o 53 (.mv (t 0)),o 54 (.faddr 2 (t 3)),o 55 (.load1 (t 54)),o 56 (.mv (t 10)),o 57 (.call (.func n_table_Table_Writer) [(t 53),(t 55),(t 56)]),o 52 (.mv (t 57)),o 58 (.extract 0 (t 52)),o 59 (.extract 1 (t 52)),o 11 (.alloc [(.int .i64 0),(.int .i64 0),(.int .i64 0),(.int .i64 0),(.bool false)]),s (.store 5 (t 11) (t 58)),o 12 (.mv (t 59))])
 (.seq (.keep [0,3,10,11,46,47,48])
 (.seq (.ops false [o 60 (.faddr 0 (t 11)),o 61 (.load1 (t 60)),o 62 (.faddr 0 (t 3)),o 63 (.load1 (t 62)),o 64 (.bin .eql (t 61) (t 63))])
 (.cond (t 64)
 (.seq (.ops false [o 65 (.mv (t 10)),o 4 (.mv (t 65)),o 5 (.mv (.const (.bool true)))])
 .ret)
 .skip))))))
 (.seq (.keep [0,3,46,47,48])
 (.ops false [o 66 (.bin .add (t 48) (ci 1)),o 48 (.mv (t 66))]))))) (.keep [0,3,46,47,48]))))))
 (.seq (.keep [])
 (.seq (.ops false [o 4 (.mv (ci 0)),o 5 (.mv (.const (.bool false)))])
 .ret))))))))⟩
/-- coroner/coronerref04.may -/
def F_r04_may:AFn:=⟨1,[.tmp 2],
 (.seq (.ops false [o 2 (.mv (.const (.bool false)))])
 (.seq (.ops false [o 3 (.mv (t 0)),o 4 (.bin .geq (t 3) (ci 0)),o 5 (.mv (t 4)),⟨(some 6),.mv (t 0),some (5,true),false⟩,⟨(some 7),.bin .leq (t 6) (ci 2147483647),some (5,true),false⟩,o 8 (.pick (t 5) (t 7) (.const (.bool false))),o 2 (.mv (t 8))])
 (.seq (.keep [2])
 .ret)))⟩
/-- coroner/coronerref04.Text -/
def F_r04_Text:AFn:=⟨1,[.tmp 2],
 (.seq (.ops false [o 1 (.box (t 0)),o 2 (.mv (.const (.string ⟨#[]⟩)))])
 (.seq (.ops false [o 3 (.mv (.const (.string ⟨#[]⟩)))])
 (.seq (.seq (.ops false [o 4 (.mv (ci 0))])
 (.seq (.keep [1,3,4]) (.block 0 (.loop (.seq (.seq (.seq (.ops false [o 10 (.mv (t 4)),o 11 (.faddr 0 (t 1)),o 12 (.load1 (t 11)),o 13 (.len 1 (t 12)),o 14 (.bin .lss (t 10) (t 13))])
 (.cond (t 14)
 .skip
 (.exit 0)))
 (.seq (.block 1 (.seq (.ops false [o 17 (.faddr 0 (t 1)),o 18 (.load1 (t 17)),o 19 (.mv (t 4)),o 20 (.iaddr 3 (t 18) (t 19)),o 21 (.loadN 3 (t 20)),o 5 (.alloc [(.int .i64 0),(.bool false),(.slice none 0 0)]),s (.store 3 (t 5) (t 21))])
 (.seq (.keep [1,3,4,5])
 (.seq (.ops false [o 22 (.faddr 0 (t 5)),o 23 (.load1 (t 22)),o 24 (.call (.func n_r04_number) [(t 23)]),o 25 (.bin .add (.const (.string ⟨#[116,32]⟩)) (t 24)),o 6 (.mv (t 25))])
 (.seq (.seq (.ops false [o 26 (.faddr 1 (t 5)),o 27 (.load1 (t 26))])
 (.cond (t 27)
 (.ops false [o 28 (.mv (t 6)),o 29 (.bin .add (t 28) (.const (.string ⟨#[32,97,10]⟩))),o 6 (.mv (t 29))])
 (.ops false [o 30 (.mv (t 6)),o 31 (.bin .add (t 30) (.const (.string ⟨#[32,99,10]⟩))),o 6 (.mv (t 31))])))
 (.seq (.seq (.ops false [o 7 (.mv (ci 0))])
 (.seq (.keep [1,3,4,5,6,7]) (.block 2 (.loop (.seq (.seq (.seq (.ops false [o 32 (.mv (t 7)),o 33 (.faddr 2 (t 5)),o 34 (.load1 (t 33)),o 35 (.len 1 (t 34)),o 36 (.bin .lss (t 32) (t 35))])
 (.cond (t 36)
 .skip
 (.exit 2)))
 (.seq (.block 3 (.seq (.ops false [o 39 (.faddr 2 (t 5)),o 40 (.load1 (t 39)),o 41 (.mv (t 7)),o 42 (.iaddr 4 (t 40) (t 41)),o 43 (.loadN 4 (t 42)),o 8 (.alloc [(.bool false),(.int .i64 0),(.int .i64 0),(.slice none 0 0)]),s (.store 4 (t 8) (t 43))])
 (.seq (.keep [1,3,4,5,6,7,8])
 (.seq (.seq (.ops false [o 44 (.faddr 0 (t 8)),o 45 (.load1 (t 44))])
 (.cond (t 45)
 (.seq (.ops false [o 46 (.mv (t 6)),o 47 (.bin .add (t 46) (.const (.string ⟨#[114,32]⟩))),o 48 (.faddr 1 (t 8)),o 49 (.load1 (t 48)),o 50 (.call (.func n_r04_number) [(t 49)]),o 51 (.bin .add (t 47) (t 50)),o 6 (.mv (t 51))])
 (.seq (.keep [1,3,4,5,6,7,8])
 (.seq (.ops false [o 9 (.mv (ci 0))])
 (.seq (.keep [1,3,4,5,6,7,8,9]) (.block 4 (.loop (.seq (.seq (.seq (.ops false [o 52 (.mv (t 9)),o 53 (.faddr 3 (t 8)),o 54 (.load1 (t 53)),o 55 (.len 1 (t 54)),o 56 (.bin .lss (t 52) (t 55))])
 (.cond (t 56)
 .skip
 (.exit 4)))
 (.seq (.block 5 (.ops false [o 59 (.mv (t 6)),o 60 (.bin .add (t 59) (.const (.string ⟨#[32]⟩))),o 61 (.faddr 3 (t 8)),o 62 (.load1 (t 61)),o 63 (.mv (t 9)),o 64 (.iaddr 1 (t 62) (t 63)),o 65 (.load1 (t 64)),o 66 (.call (.func n_r04_number) [(t 65)]),o 67 (.bin .add (t 60) (t 66)),o 6 (.mv (t 67))]))
 (.seq (.keep [1,3,4,5,6,7,8,9])
 (.ops false [o 57 (.mv (t 9)),o 58 (.bin .add (t 57) (ci 1)),o 9 (.mv (t 58))])))) (.keep [1,3,4,5,6,7,8,9]))))))))
 (.ops true [o 68 (.mv (t 6)),o 69 (.bin .add (t 68) (.const (.string ⟨#[97,32]⟩))),o 70 (.faddr 1 (t 8)),o 71 (.load1 (t 70)),o 72 (.call (.func n_r04_number) [(t 71)]),o 73 (.bin .add (t 69) (t 72)),o 74 (.bin .add (t 73) (.const (.string ⟨#[32]⟩))),o 75 (.faddr 2 (t 8)),o 76 (.load1 (t 75)),o 77 (.call (.func n_r04_number) [(t 76)]),b 78 (.bin .add (t 74) (t 77)),b 6 (.mv (t 78))])))
 (.seq (.keep [1,3,4,5,6,7])
 (.ops false [o 79 (.mv (t 6)),o 80 (.bin .add (t 79) (.const (.string ⟨#[10]⟩))),o 6 (.mv (t 80))]))))))
 (.seq (.keep [1,3,4,5,6,7])
 (.ops false [o 37 (.mv (t 7)),o 38 (.bin .add (t 37) (ci 1)),o 7 (.mv (t 38))])))) (.keep [1,3,4,5,6,7]))))))
 (.seq (.keep [1,3,4,6])
 (.ops false [o 81 (.mv (t 3)),o 82 (.mv (t 6)),o 83 (.bin .add (t 81) (t 82)),o 3 (.mv (t 83))]))))))))
 (.seq (.keep [1,3,4])
 (.ops false [o 15 (.mv (t 4)),o 16 (.bin .add (t 15) (ci 1)),o 4 (.mv (t 16))])))) (.keep [1,3,4]))))))
 (.seq (.keep [3])
 (.seq (.ops false [o 84 (.mv (t 3)),o 2 (.mv (t 84))])
 .ret)))))⟩
/-- (*coroner/table.Table).is -/
def F_table_Table_is:AFn:=⟨1,[.tmp 2],
 (.seq (.ops false [o 2 (.mv (.const (.bool false)))])
 (.seq (.ops false [o 3 (.mv (t 0)),o 4 (.eqv 1 true (t 3) (.const (.pointer none))),o 5 (.mv (t 4)),⟨(some 6),.mv (t 0),some (5,true),false⟩,⟨(some 7),.nilc (t 6),some (5,true),false⟩,⟨(some 8),.faddr 0 (t 7),some (5,true),false⟩,⟨(some 9),.load1 (t 8),some (5,true),false⟩,o 10 (.pick (t 5) (t 9) (.const (.bool false))),o 2 (.mv (t 10))])
 (.seq (.keep [2])
 .ret)))⟩
/-- (coroner/sorted.Set[int]).Has -/
def F_sorted_Set_int_Has:AFn:=⟨2,[.tmp 4],
 (.seq (.ops false [o 2 (.box (t 0)),o 4 (.mv (.const (.bool false)))])
 (.seq (.ops false [o 8 (.loadN 1 (t 2)),o 9 (.mv (t 1)),o 10 (.call (.func n_sorted_Set_int_place) [(t 8),(t 9)]),o 7 (.mv (t 10)),o 11 (.extract 0 (t 7)),o 12 (.extract 1 (t 7)),o 5 (.mv (t 11)),o 6 (.mv (t 12))])
 (.seq (.keep [6])
 (.seq (.ops false [o 13 (.mv (t 6)),o 4 (.mv (t 13))])
 .ret))))⟩
/-- coroner/encode.may -/
def F_encode_may:AFn:=⟨1,[.tmp 2],
 (.seq (.ops false [o 2 (.mv (.const (.bool false)))])
 (.seq (.ops false [o 3 (.mv (t 0)),o 4 (.call (.func n_slices_ContainsFunc_int_int) [(t 3),(.func n_encode_may_c1)]),o 5 (.un .not (t 4)),o 2 (.mv (t 5))])
 .ret))⟩
/-- coroner/table.goes[coroner/table.Read]$1 -/
def F_table_goes_table_Read_c1:AFn:=⟨2,[],
 (.seq (.ops false [o 5 (.load1 (t 1)),o 6 (.len 1 (t 5)),o 7 (.mv (ci 0))])
 (.seq (.keep [0,5,6,7]) (.block 0 (.loop (.seq (.seq (.ops false [o 8 (.bin .lss (t 7) (t 6))])
 (.seq (.cond (t 8)
 .skip
 (.exit 0))
 (.seq (.block 1 (.seq (.ops false [o 9 (.iaddr 5 (t 5) (t 7)),o 10 (.loadN 5 (t 9)),o 4 (.alloc [(.int .i64 0),(.int .i64 0),(.int .i64 0),(.slice none 0 0),(.slice none 0 0)]),s (.store 5 (t 4) (t 10))])
 (.seq (.ops false [o 11 (.mv (t 0)),o 12 (.loadN 5 (t 4)),o 13 (.call (t 11) [(t 12)]),o 14 (.un .not (t 13))])
 (.cond (t 14)
 .ret
 .skip))))
 (.seq (.keep [0,5,6,7])
 (.ops false [o 15 (.bin .add (t 7) (ci 1)),o 7 (.mv (t 15))]))))) (.keep [0,5,6,7]))))))⟩
/-- coroner/encode.line -/
def F_encode_line:AFn:=⟨3,[.tmp 6],
 (.seq (.ops false [o 6 (.mv (.const (.slice none 0 0)))])
 (.seq (.ops false [o 12 (.mv (t 0)),o 13 (.convSB (t 12)),o 7 (.mv (t 13))])
 (.seq (.seq (.ops false [o 14 (.mv (t 2)),o 15 (.len 1 (t 14)),o 16 (.mv (ci 0))])
 (.seq (.keep [1,7,14,15,16]) (.block 0 (.loop (.seq (.seq (.ops false [o 17 (.bin .lss (t 16) (t 15))])
 (.seq (.cond (t 17)
 .skip
 (.exit 0))
 (.seq (.block 1 (.seq (.ops false [o 18 (.iaddr 1 (t 14) (t 16)),o 19 (.load1 (t 18)),o 9 (.mv (t 19))])
 (.seq (.ops false [o 21 (.mv (t 9)),o 22 (.call (.func n_digits_Print) [(t 21)]),o 20 (.mv (t 22)),o 23 (.extract 0 (t 20)),o 24 (.extract 1 (t 20)),o 10 (.mv (t 23)),o 11 (.mv (t 24))])
 (.seq (.keep [1,7,10,14,15,16])
 (.ops false [o 25 (.mv (t 7)),o 26 (.mv (t 10)),o 27 (.bin .add (.const (.string ⟨#[32]⟩)) (t 26)),o 28 (.appS 1 (t 25) (t 27)),o 7 (.mv (t 28))])))))
 (.seq (.keep [1,7,14,15,16])
 (.ops false [o 29 (.bin .add (t 16) (ci 1)),o 16 (.mv (t 29))]))))) (.keep [1,7,14,15,16]))))))
 (.seq (.keep [1,7])
 (.seq (.ops false [o 30 (.mv (t 7)),o 31 (.mv (t 1)),o 32 (.appS 1 (t 30) (t 31)),o 6 (.mv (t 32))])
 .ret)))))⟩
/-- cmp.Less[int] -/
def F_cmp_Less_int:AFn:=⟨2,[.tmp 4],
 (.seq (.ops false [o 4 (.mv (.const (.bool false)))])
 (.seq (.ops false [o 5 (.mv (t 0)),o 6 (.call (.func n_cmp_isNaN_int) [(t 5)]),o 7 (.mv (t 6)),⟨(some 8),.mv (t 1),some (7,true),false⟩,⟨(some 9),.call (.func n_cmp_isNaN_int) [(t 8)],some (7,true),false⟩,⟨(some 10),.un .not (t 9),some (7,true),false⟩,o 11 (.pick (t 7) (t 10) (.const (.bool false))),o 12 (.mv (t 11)),⟨(some 13),.mv (t 0),some (12,false),false⟩,⟨(some 14),.mv (t 1),some (12,false),false⟩,⟨(some 15),.bin .lss (t 13) (t 14),some (12,false),false⟩,o 16 (.pick (t 12) (.const (.bool true)) (t 15)),o 4 (.mv (t 16))])
 (.seq (.keep [4])
 .ret)))⟩
/-- slices.isNaN[int] -/
def F_slices_isNaN_int:AFn:=⟨1,[.tmp 2],
 (.seq (.ops false [o 2 (.mv (.const (.bool false)))])
 (.seq (.ops false [o 3 (.mv (t 0)),o 4 (.mv (t 0)),o 5 (.bin .neq (t 3) (t 4)),o 2 (.mv (t 5))])
 .ret))⟩
/-- coroner/coronerlaw16.OrderWhole -/
def F_l16_OrderWhole:AFn:=⟨2,[.tmp 4],
 (.seq (.ops false [o 2 (.box (t 0)),o 4 (.mv (.const (.bool false)))])
 (.seq (.seq (.ops false [o 14 (.loadN 1 (t 2)),o 15 (.call (.func n_l16_few) [(t 14)]),o 16 (.un .not (t 15))])
 (.cond (t 16)
 (.seq (.ops false [o 17 (.call (.func n_l16_works) []),o 4 (.mv (t 17))])
 .ret)
 .skip))
 (.seq (.ops false [o 19 (.loadN 1 (t 2)),o 20 (.call (.func n_table_New) [(t 19)]),o 18 (.mv (t 20)),o 21 (.extract 0 (t 18)),o 22 (.extract 1 (t 18)),o 5 (.mv (t 21)),o 6 (.mv (t 22))])
 (.seq (.keep [1,2,5,6])
 (.seq (.seq (.ops false [o 23 (.mv (t 6)),o 24 (.bin .neq (t 23) (ci 0)),o 25 (.mv (t 24)),⟨(some 26),.mv (t 5),some (25,false),false⟩,⟨(some 27),.eqv 1 false (t 26) (.const (.pointer none)),some (25,false),false⟩,o 28 (.pick (t 25) (.const (.bool true)) (t 27))])
 (.cond (t 28)
 (.seq (.ops false [o 4 (.mv (.const (.bool false)))])
 .ret)
 .skip))
 (.seq (.keep [1,2,5])
 (.seq (.ops false [o 29 (.mv (t 5)),o 30 (.mv (t 1)),o 31 (.call (.func n_order_Of) [(t 29),(t 30)]),o 7 (.alloc [(.int .i64 0),(.slice none 0 0),(.slice none 0 0),(.bool false),(.int .i64 0),(.int .i64 0),(.int .i64 0),(.slice none 0 0),(.slice none 0 0),(.int .i64 0),(.int .i64 0),(.int .i64 0),(.slice none 0 0),(.slice none 0 0)]),s (.store 14 (t 7) (t 31))])
 (.seq (.seq (.ops false [o 32 (.faddr 3 (t 7)),o 33 (.load1 (t 32))])
 (.cond (t 33)
 (.seq (.ops false [o 34 (.faddr 1 (t 7)),o 35 (.load1 (t 34)),o 36 (.len 1 (t 35)),o 37 (.faddr 2 (t 7)),o 38 (.load1 (t 37)),o 39 (.len 1 (t 38)),o 40 (.bin .add (t 36) (t 39)),o 41 (.bin .eql (t 40) (ci 0)),o 42 (.mv (t 41)),⟨(some 43),.call (.func n_l16_works) [],some (42,true),false⟩,o 44 (.pick (t 42) (t 43) (.const (.bool false))),o 4 (.mv (t 44))])
 (.seq (.keep [4])
 .ret))
 .skip))
 (.seq (.keep [1,2,7])
 (.seq (.opsK [(3,49)] [(49,45)] [o 45 (.bslice 1 0 [] []),o 46 (.faddr 1 (t 7)),o 47 (.load1 (t 46)),b 48 (.append 1 8 (t 45) (t 47)),o 49 (.faddr 2 (t 7)),o 50 (.load1 (t 49)),b 51 (.append 1 8 (t 48) (t 50)),o 8 (.mv (t 51))])
 (.seq (.keep [1,2,7,8])
 (.seq (.ops false [o 9 (.mv (.const (.slice none 0 0)))])
 (.seq (.ops false [o 52 (.loadN 1 (t 2)),o 53 (.mv (t 1)),o 54 (.call (.func n_r12_Writes) [(t 52),(t 53)]),o 10 (.mv (t 54))])
 (.seq (.seq (.ops false [o 11 (.mv (ci 0))])
 (.seq (.keep [1,2,7,8,9,10,11]) (.block 0 (.loop (.seq (.seq (.seq (.ops false [o 55 (.mv (t 11)),o 56 (.mv (t 10)),o 57 (.len 1 (t 56)),o 58 (.bin .lss (t 55) (t 57))])
 (.cond (t 58)
 .skip
 (.exit 0)))
 (.seq (.block 1 (.ops false [o 61 (.mv (t 9)),o 62 (.mv (t 10)),o 63 (.mv (t 11)),o 64 (.iaddr 5 (t 62) (t 63)),o 65 (.faddr 3 (t 64)),o 66 (.load1 (t 65)),o 67 (.bslice 1 1 [(.int .i64 0)] [(0,(1,(t 66)))]),o 68 (.append 1 8 (t 61) (t 67)),o 9 (.mv (t 68))]))
 (.seq (.keep [1,2,7,8,9,10,11])
 (.ops false [o 59 (.mv (t 11)),o 60 (.bin .add (t 59) (ci 1)),o 11 (.mv (t 60))])))) (.keep [1,2,7,8,9,10,11]))))))
 (.seq (.keep [1,2,7,8,9])
 (.seq (.ops false [o 69 (.loadN 1 (t 2)),o 70 (.mv (t 1)),o 71 (.call (.func n_r13_Sound) [(t 69),(t 70)]),o 12 (.mv (t 71))])
 (.seq (.seq (.ops false [o 13 (.mv (ci 0))])
 (.seq (.keep [2,7,8,9,12,13]) (.block 2 (.loop (.seq (.seq (.seq (.ops false [o 72 (.mv (t 13)),o 73 (.mv (t 12)),o 74 (.len 1 (t 73)),o 75 (.bin .lss (t 72) (t 74))])
 (.cond (t 75)
 .skip
 (.exit 2)))
 (.seq (.block 3 (.seq (.ops true [o 78 (.loadN 1 (t 2)),o 79 (.mv (t 12)),o 80 (.mv (t 13)),o 81 (.iaddr 5 (t 79) (t 80)),o 82 (.loadN 5 (t 81)),o 83 (.call (.func n_r16_Clean) [(t 78),(t 82)]),o 84 (.faddr 1 (t 7)),o 85 (.load1 (t 84)),b 86 (.call (.func n_r15_Is) [(t 83),(t 85)]),b 87 (.un .not (t 86))])
 (.seq (.keep [2,7,8,9,12,13,87])
 (.cond (t 87)
 (.seq (.ops false [o 4 (.mv (.const (.bool false)))])
 .ret)
 .skip))))
 (.seq (.keep [2,7,8,9,12,13])
 (.ops false [o 76 (.mv (t 13)),o 77 (.bin .add (t 76) (ci 1)),o 13 (.mv (t 77))])))) (.keep [2,7,8,9,12,13]))))))
 (.seq (.keep [8,9])
 (.seq (.ops false [o 88 (.mv (t 8)),o 89 (.len 1 (t 88)),o 90 (.mv (t 9)),o 91 (.len 1 (t 90)),o 92 (.bin .eql (t 89) (t 91)),o 93 (.mv (t 92)),⟨(some 94),.mv (t 8),some (93,true),false⟩,⟨(some 95),.call (.func n_r05_Of) [(t 94)],some (93,true),false⟩,⟨(some 96),.mv (t 9),some (93,true),false⟩,⟨(some 97),.call (.func n_r05_Of) [(t 96)],some (93,true),false⟩,⟨(some 98),.call (.func n_r01_Same) [(t 95),(t 97)],some (93,true),false⟩,o 99 (.pick (t 93) (t 98) (.const (.bool false))),o 100 (.mv (t 99)),⟨(some 101),.call (.func n_l16_works) [],some (100,true),false⟩,o 102 (.pick (t 100) (t 101) (.const (.bool false))),o 4 (.mv (t 102))])
 (.seq (.keep [4])
 .ret))))))))))))))))))))⟩
/-- coroner/coronerlaw16.works -/
def F_l16_works:AFn:=⟨0,[.tmp 0],
 (.seq (.ops false [o 0 (.mv (.const (.bool false)))])
 (.seq (.ops false [o 7 (.call (.func n_l16_one) []),o 8 (.call (.func n_table_New) [(t 7)]),o 6 (.mv (t 8)),o 9 (.extract 0 (t 6)),o 10 (.extract 1 (t 6)),o 1 (.mv (t 9)),o 2 (.mv (t 10))])
 (.seq (.keep [1,2])
 (.seq (.seq (.ops false [o 11 (.mv (t 2)),o 12 (.bin .neq (t 11) (ci 0)),o 13 (.mv (t 12)),⟨(some 14),.mv (t 1),some (13,false),false⟩,⟨(some 15),.eqv 1 false (t 14) (.const (.pointer none)),some (13,false),false⟩,o 16 (.pick (t 13) (.const (.bool true)) (t 15))])
 (.cond (t 16)
 (.seq (.ops false [o 0 (.mv (.const (.bool false)))])
 .ret)
 .skip))
 (.seq (.keep [1])
 (.seq (.ops false [o 17 (.mv (t 1)),o 18 (.call (.func n_order_Of) [(t 17),(ci 1)]),o 3 (.alloc [(.int .i64 0),(.slice none 0 0),(.slice none 0 0),(.bool false),(.int .i64 0),(.int .i64 0),(.int .i64 0),(.slice none 0 0),(.slice none 0 0),(.int .i64 0),(.int .i64 0),(.int .i64 0),(.slice none 0 0),(.slice none 0 0)]),s (.store 14 (t 3) (t 18))])
 (.seq (.ops false [o 20 (.mv (t 1)),o 21 (.call (.func n_order_Find) [(t 20)]),o 19 (.mv (t 21)),o 22 (.extract 0 (t 19)),o 23 (.extract 1 (t 19)),o 4 (.alloc [(.int .i64 0),(.int .i64 0),(.int .i64 0),(.int .i64 0),(.int .i64 0),(.int .i64 0),(.slice none 0 0)]),s (.store 7 (t 4) (t 22)),o 5 (.mv (t 23))])
 (.seq (.keep [3,5])
 (.seq (.ops false (o 24 (.faddr 1 (t 3))::o 25 (.load1 (t 24))::o 26 (.bslice 1 2 [(.int .i64 0),(.int .i64 0)] [(0,(1,(ci 5))),(1,(1,(ci 6)))])::o 27 (.call (.func n_r01_Same) [(t 25),(t 26)])::o 28 (.mv (t 27))::⟨(some 29),.faddr 2 (t 3),some (28,true),false⟩::⟨(some 30),.load1 (t 29),some (28,true),false⟩::⟨(some 31),.bslice 1 1 [(.int .i64 0)] [(0,(1,(ci 7)))],some (28,true),false⟩::⟨(some 32),.call (.func n_r01_Same) [(t 30),(t 31)],some (28,true),false⟩::o 33 (.pick (t 28) (t 32) (.const (.bool false)))::o 34 (.mv (t 33))::⟨(some 35),.faddr 3 (t 3),some (34,true),false⟩::⟨(some 36),.load1 (t 35),some (34,true),false⟩::⟨(some 37),.un .not (t 36),some (34,true),false⟩::o 38 (.pick (t 34) (t 37) (.const (.bool false)))::o 39 (.mv (t 38))::⟨(some 40),.mv (t 5),some (39,true),false⟩::⟨(some 41),.un .not (t 40),some (39,true),false⟩::o 42 (.pick (t 39) (t 41) (.const (.bool false)))::o 43 (.mv (t 42))::⟨(some 44),.loadN 14 (t 3),some (43,true),false⟩::⟨(some 45),.call (.func n_order_Next) [(t 44),(ci 1)],some (43,true),false⟩::⟨(some 46),.bslice 1 1 [(.int .i64 0)] [(0,(1,(ci 6)))],some (43,true),false⟩::⟨(some 47),.call (.func n_r01_Same) [(t 45),(t 46)],some (43,true),false⟩::o 48 (.pick (t 43) (t 47) (.const (.bool false)))::o 49 (.mv (t 48))::⟨(some 50),.loadN 14 (t 3),some (49,true),false⟩::⟨(some 51),.call (.func n_order_Next) [(t 50),(ci 2)],some (49,true),false⟩::⟨(some 52),.bslice 1 1 [(.int .i64 0)] [(0,(1,(ci 7)))],some (49,true),false⟩::⟨(some 53),.call (.func n_r01_Same) [(t 51),(t 52)],some (49,true),false⟩::o 54 (.pick (t 49) (t 53) (.const (.bool false)))::o 0 (.mv (t 54))::[]))
 (.seq (.keep [0])
 .ret))))))))))⟩
/-- coroner/order.Clean -/
def F_order_Clean:AFn:=⟨2,[.tmp 4],
 (.seq (.ops false [o 2 (.box (t 0)),o 3 (.box (t 1)),o 4 (.mv (.const (.slice none 0 0)))])
 (.seq (.ops false [o 5 (.faddr 3 (t 3)),o 6 (.load1 (t 5)),o 7 (.call (.func n_slices_Clone_int_int) [(t 6)]),o 8 (.mkf n_order_Clean_c1 [] [(t 2),(t 3)]),o 9 (.call (.func n_slices_DeleteFunc_int_int) [(t 7),(t 8)]),o 4 (.mv (t 9))])
 .ret))⟩
/-- coroner/coronerref05.Of -/
def F_r05_Of:AFn:=⟨1,[.tmp 2],
 (.seq (.ops false [o 2 (.mv (.const (.slice none 0 0)))])
 (.seq (.ops false [o 3 (.mv (.const (.slice none 0 0)))])
 (.seq (.seq (.ops false [o 4 (.mv (ci 0))])
 (.seq (.keep [0,3,4]) (.block 0 (.loop (.seq (.seq (.seq (.ops false [o 8 (.mv (t 4)),o 9 (.mv (t 0)),o 10 (.len 1 (t 9)),o 11 (.bin .leq (t 8) (t 10))])
 (.cond (t 11)
 .skip
 (.exit 0)))
 (.seq (.block 1 (.seq (.ops false [o 5 (.mv (ci 0)),o 6 (.mv (.const (.bool false)))])
 (.seq (.seq (.ops false [o 7 (.mv (ci 0))])
 (.seq (.keep [0,3,4,5,6,7]) (.block 2 (.loop (.seq (.seq (.seq (.ops false [o 14 (.mv (t 7)),o 15 (.mv (t 0)),o 16 (.len 1 (t 15)),o 17 (.bin .lss (t 14) (t 16))])
 (.cond (t 17)
 .skip
 (.exit 2)))
 (.seq (.block 3 (.seq (.ops false [o 20 (.mv (t 3)),o 21 (.mv (t 0)),o 22 (.mv (t 7)),o 23 (.iaddr 1 (t 21) (t 22)),o 24 (.load1 (t 23)),o 25 (.call (.func n_r05_Has) [(t 20),(t 24)]),o 26 (.un .not (t 25)),o 27 (.mv (t 26)),⟨(some 28),.mv (t 6),some (27,true),false⟩,⟨(some 29),.un .not (t 28),some (27,true),false⟩,⟨(some 30),.mv (t 29),some (27,true),false⟩,⟨(some 31),.mv (t 0),some (30,false),false⟩,⟨(some 32),.mv (t 7),some (30,false),false⟩,⟨(some 33),.iaddr 1 (t 31) (t 32),some (30,false),false⟩,⟨(some 34),.load1 (t 33),some (30,false),false⟩,⟨(some 35),.mv (t 5),some (30,false),false⟩,⟨(some 36),.bin .lss (t 34) (t 35),some (30,false),false⟩,⟨(some 37),.pick (t 30) (.const (.bool true)) (t 36),some (27,true),false⟩,o 38 (.pick (t 27) (t 37) (.const (.bool false)))])
 (.seq (.keep [0,3,4,5,6,7,38])
 (.cond (t 38)
 (.ops false [o 39 (.mv (t 0)),o 40 (.mv (t 7)),o 41 (.iaddr 1 (t 39) (t 40)),o 42 (.load1 (t 41)),o 5 (.mv (t 42)),o 6 (.mv (.const (.bool true)))])
 .skip))))
 (.seq (.keep [0,3,4,5,6,7])
 (.ops false [o 18 (.mv (t 7)),o 19 (.bin .add (t 18) (ci 1)),o 7 (.mv (t 19))])))) (.keep [0,3,4,5,6,7]))))))
 (.seq (.keep [0,3,4,5,6])
 (.seq (.seq (.ops false [o 43 (.mv (t 6)),o 44 (.un .not (t 43))])
 (.cond (t 44)
 (.seq (.ops false [o 45 (.mv (t 3)),o 2 (.mv (t 45))])
 .ret)
 .skip))
 (.ops false [o 46 (.mv (t 3)),o 47 (.mv (t 5)),o 48 (.bslice 1 1 [(.int .i64 0)] [(0,(1,(t 47)))]),o 49 (.append 1 8 (t 46) (t 48)),o 3 (.mv (t 49))]))))))
 (.seq (.keep [0,3,4])
 (.ops false [o 12 (.mv (t 4)),o 13 (.bin .add (t 12) (ci 1)),o 4 (.mv (t 13))])))) (.keep [0,3,4]))))))
 (.seq (.keep [3])
 (.seq (.ops false [o 50 (.mv (t 3)),o 2 (.mv (t 50))])
 .ret)))))⟩
/-- coroner/reads.Sound -/
def F_reads_Sound:AFn:=⟨2,[.tmp 4],
 (.seq (.ops false [o 2 (.box (t 0)),o 3 (.box (t 1)),o 4 (.mv (.const .nilFunc))])
 (.seq (.ops false [o 5 (.mkf n_reads_Sound_c1 [] [(t 2),(t 3)]),o 4 (.mv (t 5))])
 .ret))⟩
/-- coroner/coronerlaw16.one -/
def F_l16_one:AFn:=⟨0,[.cellN 0 1],
 (.seq (.ops false [o 0 (.alloc [(.slice none 0 0)])])
 (.seq (.ops false [o 1 (.build [(.bool false),(.int .i64 0),(.int .i64 0),(.slice none 0 0)] [(1,(1,(ci 1))),(2,(1,(ci 5)))]),o 2 (.build [(.bool false),(.int .i64 0),(.int .i64 0),(.slice none 0 0)] [(1,(1,(ci 1))),(2,(1,(ci 6)))]),o 3 (.build [(.bool false),(.int .i64 0),(.int .i64 0),(.slice none 0 0)] [(1,(1,(ci 1))),(2,(1,(ci 7)))]),o 4 (.bslice 4 3 [(.bool false),(.int .i64 0),(.int .i64 0),(.slice none 0 0),(.bool false),(.int .i64 0),(.int .i64 0),(.slice none 0 0),(.bool false),(.int .i64 0),(.int .i64 0),(.slice none 0 0)] [(0,(4,(t 1))),(4,(4,(t 2))),(8,(4,(t 3)))]),o 5 (.build [(.int .i64 0),(.bool false),(.slice none 0 0)] [(0,(1,(ci 2))),(2,(1,(t 4)))]),o 6 (.bslice 1 1 [(.int .i64 0)] [(0,(1,(ci 5)))]),o 7 (.build [(.bool false),(.int .i64 0),(.int .i64 0),(.slice none 0 0)] [(0,(1,(.const (.bool true)))),(1,(1,(ci 1))),(3,(1,(t 6)))]),o 8 (.bslice 1 2 [(.int .i64 0),(.int .i64 0)] [(0,(1,(ci 5))),(1,(1,(ci 6)))]),o 9 (.build [(.bool false),(.int .i64 0),(.int .i64 0),(.slice none 0 0)] [(0,(1,(.const (.bool true)))),(1,(1,(ci 1))),(3,(1,(t 8)))]),o 10 (.bslice 4 2 [(.bool false),(.int .i64 0),(.int .i64 0),(.slice none 0 0),(.bool false),(.int .i64 0),(.int .i64 0),(.slice none 0 0)] [(0,(4,(t 7))),(4,(4,(t 9)))]),o 11 (.build [(.int .i64 0),(.bool false),(.slice none 0 0)] [(0,(1,(ci 3))),(2,(1,(t 10)))]),o 12 (.bslice 3 2 [(.int .i64 0),(.bool false),(.slice none 0 0),(.int .i64 0),(.bool false),(.slice none 0 0)] [(0,(3,(t 5))),(3,(3,(t 11)))]),o 13 (.build [(.slice none 0 0)] [(0,(1,(t 12)))]),s (.store 1 (t 0) (t 13))])
 (.seq (.keep [0])
 .ret)))⟩
/-- coroner/table.New$1 -/
def F_table_New_c1:AFn:=⟨2,[.tmp 4],
 (.seq (.ops false [o 2 (.box (t 0)),o 3 (.box (t 1)),o 4 (.mv (ci 0))])
 (.seq (.ops false [o 5 (.faddr 0 (t 2)),o 6 (.load1 (t 5)),o 7 (.faddr 0 (t 3)),o 8 (.load1 (t 7)),o 9 (.call (.func n_cmp_Compare_int) [(t 6),(t 8)]),o 4 (.mv (t 9))])
 .ret))⟩
/-- coroner/sorted.Of[int] -/
def F_sorted_Of_int:AFn:=⟨1,[.cellN 2 1],
 (.seq (.ops false [o 2 (.alloc [(.slice none 0 0)])])
 (.seq (.ops false [o 4 (.mv (t 0)),o 5 (.call (.func n_slices_Clone_int_int) [(t 4)]),o 3 (.mv (t 5))])
 (.seq (.ops false [o 6 (.mv (t 3)),o 7 (.call (.func n_slices_Sort_int_int) [(t 6)])])
 (.seq (.ops false [o 8 (.mv (t 3)),o 9 (.call (.func n_slices_Compact_int_int) [(t 8)]),o 10 (.build [(.slice none 0 0)] [(0,(1,(t 9)))]),s (.store 1 (t 2) (t 10))])
 .ret))))⟩
/-- slices.DeleteFunc[[]int,int] -/
def F_slices_DeleteFunc_int_int:AFn:=⟨2,[.tmp 4],
 (.seq (.ops false [o 4 (.mv (.const (.slice none 0 0)))])
 (.seq (.ops false [o 8 (.mv (t 0)),o 9 (.mv (t 1)),o 10 (.call (.func n_slices_IndexFunc_int_int) [(t 8),(t 9)]),o 5 (.mv (t 10))])
 (.seq (.seq (.ops false [o 11 (.mv (t 5)),o 12 (.bin .eql (t 11) (ci (-1)))])
 (.cond (t 12)
 (.seq (.ops false [o 13 (.mv (t 0)),o 4 (.mv (t 13))])
 .ret)
 .skip))
 (.seq (.seq (.ops false [o 14 (.mv (t 5)),o 15 (.bin .add (t 14) (ci 1)),o 6 (.mv (t 15))])
 (.seq (.keep [0,1,5,6]) (.block 0 (.loop (.seq (.seq (.seq (.ops false [o 16 (.mv (t 6)),o 17 (.mv (t 0)),o 18 (.len 1 (t 17)),o 19 (.bin .lss (t 16) (t 18))])
 (.cond (t 19)
 .skip
 (.exit 0)))
 (.seq (.block 1 (.seq (.ops false [o 22 (.mv (t 0)),o 23 (.mv (t 6)),o 24 (.iaddr 1 (t 22) (t 23)),o 25 (.load1 (t 24)),o 7 (.mv (t 25))])
 (.seq (.ops false [o 26 (.mv (t 1)),o 27 (.mv (t 7)),o 28 (.call (t 26) [(t 27)]),o 29 (.un .not (t 28))])
 (.cond (t 29)
 (.seq (.ops false [o 30 (.mv (t 0)),o 31 (.mv (t 5)),o 32 (.mv (t 7)),o 33 (.iaddr 1 (t 30) (t 31)),s (.store 1 (t 33) (t 32))])
 (.ops false [o 34 (.mv (t 5)),o 35 (.bin .add (t 34) (ci 1)),o 5 (.mv (t 35))]))
 .skip))))
 (.seq (.keep [0,1,5,6])
 (.ops false [o 20 (.mv (t 6)),o 21 (.bin .add (t 20) (ci 1)),o 6 (.mv (t 21))])))) (.keep [0,1,5,6]))))))
 (.seq (.keep [0,5])
 (.seq (.ops false [o 36 (.mv (t 0)),o 37 (.mv (t 5)),o 38 (.slc 1 (t 36) (some (t 37)) none),s (.clear [(.int .i64 0)] (t 38))])
 (.seq (.ops false [o 39 (.mv (t 0)),o 40 (.mv (t 5)),o 41 (.slc 1 (t 39) none (some (t 40))),o 4 (.mv (t 41))])
 .ret)))))))⟩
/-- (*coroner/table.Table).Keys -/
def F_table_Table_Keys:AFn:=⟨1,[.tmp 2],
 (.seq (.ops false [o 2 (.mv (.const (.slice none 0 0)))])
 (.seq (.seq (.ops false [o 3 (.mv (t 0)),o 4 (.call (.func n_table_Table_is) [(t 3)]),o 5 (.un .not (t 4))])
 (.cond (t 5)
 (.seq (.ops false [o 2 (.mv (.const (.slice none 0 0)))])
 .ret)
 .skip))
 (.seq (.ops false [o 6 (.mv (t 0)),o 7 (.nilc (t 6)),o 8 (.faddr 2 (t 7)),o 9 (.load1 (t 8)),o 10 (.call (.func n_slices_Clone_int_int) [(t 9)]),o 2 (.mv (t 10))])
 .ret)))⟩
/-- coroner/reads.Sound$1 -/
def F_reads_Sound_c1:AFn:=⟨3,[],
 (.seq (.ops false [o 3 (.box (t 0))])
 (.seq (.ops false [o 7 (.load1 (t 1)),o 8 (.load1 (t 2)),o 9 (.call (.func n_table_Table_Reads) [(t 7),(t 8)])])
 (.block 0 (.rfun (t 9) [10]
 (.ops false [o 4 (.alloc [(.int .i64 0),(.int .i64 0),(.int .i64 0),(.slice none 0 0),(.slice none 0 0)]),s (.store 5 (t 4) (t 10))])
 (.block 1 (.seq (.ops false [o 12 (.load1 (t 1)),o 13 (.loadN 5 (t 4)),o 14 (.call (.func n_reads_Kind) [(t 12),(t 13)]),o 11 (.mv (t 14)),o 15 (.extract 0 (t 11)),o 16 (.extract 1 (t 11)),o 5 (.mv (t 15)),o 6 (.mv (t 16))])
 (.seq (.keep [3,4,5])
 (.seq (.ops false [o 17 (.mv (t 5)),o 18 (.bin .eql (t 17) (ci 0)),o 19 (.mv (t 18)),⟨(some 20),.load1 (t 3),some (19,true),false⟩,⟨(some 21),.loadN 5 (t 4),some (19,true),false⟩,⟨(some 22),.call (t 20) [(t 21)],some (19,true),false⟩,⟨(some 23),.un .not (t 22),some (19,true),false⟩,o 24 (.pick (t 19) (t 23) (.const (.bool false)))])
 (.seq (.keep [24])
 (.cond (t 24)
 .ret
 .skip))))))))))⟩
/-- coroner/coronerref04.mayOp -/
def F_r04_mayOp:AFn:=⟨1,[.tmp 2],
 (.seq (.ops false [o 1 (.box (t 0)),o 2 (.mv (.const (.bool false)))])
 (.seq (.seq (.ops false [o 4 (.faddr 1 (t 1)),o 5 (.load1 (t 4)),o 6 (.call (.func n_r04_may) [(t 5)]),o 7 (.un .not (t 6))])
 (.cond (t 7)
 (.seq (.ops false [o 2 (.mv (.const (.bool false)))])
 .ret)
 .skip))
 (.seq (.seq (.ops false [o 8 (.faddr 0 (t 1)),o 9 (.load1 (t 8)),o 10 (.un .not (t 9))])
 (.cond (t 10)
 (.seq (.ops false [o 11 (.faddr 2 (t 1)),o 12 (.load1 (t 11)),o 13 (.call (.func n_r04_may) [(t 12)]),o 14 (.mv (t 13)),⟨(some 15),.faddr 3 (t 1),some (14,true),false⟩,⟨(some 16),.load1 (t 15),some (14,true),false⟩,⟨(some 17),.len 1 (t 16),some (14,true),false⟩,⟨(some 18),.bin .eql (t 17) (ci 0),some (14,true),false⟩,o 19 (.pick (t 14) (t 18) (.const (.bool false))),o 2 (.mv (t 19))])
 (.seq (.keep [2])
 .ret))
 .skip))
 (.seq (.keep [1])
 (.seq (.seq (.ops false [o 3 (.mv (ci 0))])
 (.seq (.keep [1,3]) (.block 0 (.loop (.seq (.seq (.seq (.ops false [o 20 (.mv (t 3)),o 21 (.faddr 3 (t 1)),o 22 (.load1 (t 21)),o 23 (.len 1 (t 22)),o 24 (.bin .lss (t 20) (t 23))])
 (.cond (t 24)
 .skip
 (.exit 0)))
 (.seq (.block 1 (.seq (.ops false [o 27 (.faddr 3 (t 1)),o 28 (.load1 (t 27)),o 29 (.mv (t 3)),o 30 (.iaddr 1 (t 28) (t 29)),o 31 (.load1 (t 30)),o 32 (.call (.func n_r04_may) [(t 31)]),o 33 (.un .not (t 32))])
 (.seq (.keep [1,3,33])
 (.cond (t 33)
 (.seq (.ops false [o 2 (.mv (.const (.bool false)))])
 .ret)
 .skip))))
 (.seq (.keep [1,3])
 (.ops false [o 25 (.mv (t 3)),o 26 (.bin .add (t 25) (ci 1)),o 3 (.mv (t 26))])))) (.keep [1,3]))))))
 (.seq (.keep [1])
 (.seq (.ops false [o 34 (.faddr 2 (t 1)),o 35 (.load1 (t 34)),o 36 (.bin .eql (t 35) (ci 0)),o 2 (.mv (t 36))])
 .ret)))))))⟩
/-- coroner/history.Ops -/
def F_history_Ops:AFn:=⟨1,[.tmp 2],
 (.seq (.ops false [o 1 (.box (t 0)),o 2 (.mv (ci 0))])
 (.seq (.ops false [o 3 (.mv (ci 0))])
 (.seq (.seq (.ops false [o 6 (.faddr 0 (t 1)),o 7 (.load1 (t 6)),o 8 (.len 1 (t 7)),o 9 (.mv (ci 0))])
 (.seq (.keep [3,7,8,9]) (.block 0 (.loop (.seq (.seq (.ops false [o 10 (.bin .lss (t 9) (t 8))])
 (.seq (.cond (t 10)
 .skip
 (.exit 0))
 (.seq (.block 1 (.seq (.ops false [o 11 (.iaddr 3 (t 7) (t 9)),o 12 (.loadN 3 (t 11)),o 5 (.alloc [(.int .i64 0),(.bool false),(.slice none 0 0)]),s (.store 3 (t 5) (t 12))])
 (.ops false [o 13 (.mv (t 3)),o 14 (.faddr 2 (t 5)),o 15 (.load1 (t 14)),o 16 (.len 1 (t 15)),o 17 (.bin .add (t 13) (t 16)),o 3 (.mv (t 17))])))
 (.seq (.keep [3,7,8,9])
 (.ops false [o 18 (.bin .add (t 9) (ci 1)),o 9 (.mv (t 18))]))))) (.keep [3,7,8,9]))))))
 (.seq (.keep [3])
 (.seq (.ops false [o 19 (.mv (t 3)),o 2 (.mv (t 19))])
 .ret)))))⟩
/-- slices.Compact[[]int,int] -/
def F_slices_Compact_int_int:AFn:=⟨1,[.tmp 2],
 (.seq (.ops false [o 2 (.mv (.const (.slice none 0 0)))])
 (.seq (.seq (.ops false [o 6 (.mv (t 0)),o 7 (.len 1 (t 6)),o 8 (.bin .lss (t 7) (ci 2))])
 (.cond (t 8)
 (.seq (.ops false [o 9 (.mv (t 0)),o 2 (.mv (t 9))])
 .ret)
 .skip))
 (.seq (.seq (.ops false [o 3 (.mv (ci 1))])
 (.seq (.keep [0,3]) (.block 0 (.loop (.seq (.seq (.seq (.ops false [o 10 (.mv (t 3)),o 11 (.mv (t 0)),o 12 (.len 1 (t 11)),o 13 (.bin .lss (t 10) (t 12))])
 (.cond (t 13)
 .skip
 (.exit 0)))
 (.seq (.block 1 (.seq (.ops true [o 16 (.mv (t 0)),o 17 (.mv (t 3)),o 18 (.iaddr 1 (t 16) (t 17)),o 19 (.load1 (t 18)),o 20 (.mv (t 0)),o 21 (.mv (t 3)),o 22 (.bin .sub (t 21) (ci 1)),o 23 (.iaddr 1 (t 20) (t 22)),o 24 (.load1 (t 23)),b 25 (.bin .eql (t 19) (t 24))])
 (.seq (.keep [0,3,25])
 (.cond (t 25)
 (.seq (.ops false [o 26 (.mv (t 0)),o 27 (.mv (t 3)),o 28 (.slc 1 (t 26) (some (t 27)) none),o 4 (.mv (t 28))])
 (.seq (.seq (.ops false [o 5 (.mv (ci 1))])
 (.seq (.keep [0,3,4,5]) (.block 2 (.loop (.seq (.seq (.seq (.ops false [o 29 (.mv (t 5)),o 30 (.mv (t 4)),o 31 (.len 1 (t 30)),o 32 (.bin .lss (t 29) (t 31))])
 (.cond (t 32)
 .skip
 (.exit 2)))
 (.seq (.block 3 (.seq (.ops true [o 35 (.mv (t 4)),o 36 (.mv (t 5)),o 37 (.iaddr 1 (t 35) (t 36)),o 38 (.load1 (t 37)),o 39 (.mv (t 4)),o 40 (.mv (t 5)),o 41 (.bin .sub (t 40) (ci 1)),o 42 (.iaddr 1 (t 39) (t 41)),o 43 (.load1 (t 42)),b 44 (.bin .neq (t 38) (t 43))])
 (.seq (.keep [0,3,4,5,44])
 (.cond (t 44)
 (.seq (.ops false [o 45 (.mv (t 0)),o 46 (.mv (t 3)),o 47 (.mv (t 4)),o 48 (.mv (t 5)),o 49 (.iaddr 1 (t 47) (t 48)),o 50 (.load1 (t 49)),o 51 (.iaddr 1 (t 45) (t 46)),s (.store 1 (t 51) (t 50))])
 (.seq (.keep [0,3,4,5])
 (.ops false [o 52 (.mv (t 3)),o 53 (.bin .add (t 52) (ci 1)),o 3 (.mv (t 53))])))
 .skip))))
 (.seq (.keep [0,3,4,5])
 (.ops false [o 33 (.mv (t 5)),o 34 (.bin .add (t 33) (ci 1)),o 5 (.mv (t 34))])))) (.keep [0,3,4,5]))))))
 (.seq (.keep [0,3])
 (.seq (.ops false [o 54 (.mv (t 0)),o 55 (.mv (t 3)),o 56 (.slc 1 (t 54) (some (t 55)) none),s (.clear [(.int .i64 0)] (t 56))])
 (.seq (.ops false [o 57 (.mv (t 0)),o 58 (.mv (t 3)),o 59 (.slc 1 (t 57) none (some (t 58))),o 2 (.mv (t 59))])
 .ret)))))
 .skip))))
 (.seq (.keep [0,3])
 (.ops false [o 14 (.mv (t 3)),o 15 (.bin .add (t 14) (ci 1)),o 3 (.mv (t 15))])))) (.keep [0,3]))))))
 (.seq (.keep [0])
 (.seq (.ops false [o 60 (.mv (t 0)),o 2 (.mv (t 60))])
 .ret)))))⟩
/-- coroner/table.goes[coroner/table.Write] -/
def F_table_goes_table_Write:AFn:=⟨1,[.tmp 2],
 (.seq (.ops false [o 1 (.box (t 0)),o 2 (.mv (.const .nilFunc))])
 (.seq (.ops false [o 3 (.mkf n_table_goes_table_Write_c1 [] [(t 1)]),o 2 (.mv (t 3))])
 .ret))⟩
/-- (coroner/sorted.Set[int]).With -/
def F_sorted_Set_int_With:AFn:=⟨2,[.cellN 4 1],
 (.seq (.ops false [o 2 (.box (t 0)),o 4 (.alloc [(.slice none 0 0)])])
 (.seq (.ops true [o 5 (.loadN 1 (t 2)),o 6 (.mv (t 1)),o 7 (.call (.func n_sorted_Of_int) [(t 6)]),b 8 (.call (.func n_sorted_Set_int_Or) [(t 5),(t 7)]),sb (.store 1 (t 4) (t 8))])
 .ret))⟩
/-- coroner/encode.mayOp -/
def F_encode_mayOp:AFn:=⟨1,[.tmp 2],
 (.seq (.ops false [o 1 (.box (t 0)),o 2 (.mv (.const (.bool false)))])
 (.seq (.seq (.ops false [o 3 (.faddr 0 (t 1)),o 4 (.load1 (t 3))])
 (.cond (t 4)
 (.seq (.ops false [o 5 (.faddr 1 (t 1)),o 6 (.load1 (t 5)),o 7 (.bslice 1 1 [(.int .i64 0)] [(0,(1,(t 6)))]),o 8 (.call (.func n_encode_may) [(t 7)]),o 9 (.mv (t 8)),⟨(some 10),.faddr 2 (t 1),some (9,true),false⟩,⟨(some 11),.load1 (t 10),some (9,true),false⟩,⟨(some 12),.bin .eql (t 11) (ci 0),some (9,true),false⟩,o 13 (.pick (t 9) (t 12) (.const (.bool false))),o 14 (.mv (t 13)),⟨(some 15),.faddr 3 (t 1),some (14,true),false⟩,⟨(some 16),.load1 (t 15),some (14,true),false⟩,⟨(some 17),.call (.func n_encode_may) [(t 16)],some (14,true),false⟩,o 18 (.pick (t 14) (t 17) (.const (.bool false))),o 2 (.mv (t 18))])
 (.seq (.keep [2])
 .ret))
 .skip))
 (.seq (.keep [1])
 (.seq (.ops false [o 19 (.faddr 1 (t 1)),o 20 (.load1 (t 19)),o 21 (.faddr 2 (t 1)),o 22 (.load1 (t 21)),o 23 (.bslice 1 2 [(.int .i64 0),(.int .i64 0)] [(0,(1,(t 20))),(1,(1,(t 22)))]),o 24 (.call (.func n_encode_may) [(t 23)]),o 25 (.mv (t 24)),⟨(some 26),.faddr 3 (t 1),some (25,true),false⟩,⟨(some 27),.load1 (t 26),some (25,true),false⟩,⟨(some 28),.len 1 (t 27),some (25,true),false⟩,⟨(some 29),.bin .eql (t 28) (ci 0),some (25,true),false⟩,o 30 (.pick (t 25) (t 29) (.const (.bool false))),o 2 (.mv (t 30))])
 (.seq (.keep [2])
 .ret)))))⟩
/-- coroner/coronerref01.Print -/
def F_r01_Print:AFn:=⟨1,[.tmp 2,.tmp 3],
 (.seq (.ops false [o 2 (.mv (.const (.string ⟨#[]⟩))),o 3 (.mv (ci 0))])
 (.seq (.seq (.ops false [o 5 (.mv (t 0)),o 6 (.bin .lss (t 5) (ci 0)),o 7 (.mv (t 6)),⟨(some 8),.mv (t 0),some (7,false),false⟩,⟨(some 9),.bin .gtr (t 8) (ci 2147483647),some (7,false),false⟩,o 10 (.pick (t 7) (.const (.bool true)) (t 9))])
 (.cond (t 10)
 (.seq (.ops false [o 2 (.mv (.const (.string ⟨#[]⟩))),o 3 (.mv (ci 2))])
 .ret)
 .skip))
 (.seq (.keep [0])
 (.seq (.ops false [o 4 (.mv (.const (.string ⟨#[]⟩)))])
 (.seq (.seq (.keep [0,4]) (.block 0 (.loop (.seq (.seq (.seq (.ops false [o 11 (.mv (t 0)),o 12 (.bin .gtr (t 11) (ci 9))])
 (.cond (t 12)
 .skip
 (.exit 0)))
 (.block 1 (.seq (.ops false [o 13 (.mv (t 0)),o 14 (.bin .rem (t 13) (ci 10)),o 15 (.mv (t 0)),o 16 (.bin .rem (t 15) (ci 10)),o 17 (.bin .add (t 16) (ci 1)),o 18 (.slcS (.const (.string ⟨#[48,49,50,51,52,53,54,55,56,57]⟩)) (some (t 14)) (some (t 17))),o 19 (.mv (t 4)),o 20 (.bin .add (t 18) (t 19)),o 4 (.mv (t 20))])
 (.seq (.keep [0,4])
 (.ops false [o 21 (.mv (t 0)),o 22 (.bin .quo (t 21) (ci 10)),o 0 (.mv (t 22))]))))) (.keep [0,4])))))
 (.seq (.keep [0,4])
 (.seq (.ops false [o 23 (.mv (t 0)),o 24 (.mv (t 0)),o 25 (.bin .add (t 24) (ci 1)),o 26 (.slcS (.const (.string ⟨#[48,49,50,51,52,53,54,55,56,57]⟩)) (some (t 23)) (some (t 25))),o 27 (.mv (t 4)),o 28 (.bin .add (t 26) (t 27)),o 2 (.mv (t 28)),o 3 (.mv (ci 0))])
 (.seq (.keep [2,3])
 .ret))))))))⟩
/-- slices.BinarySearch[[]int,int] -/
def F_slices_BinarySearch_int_int:AFn:=⟨2,[.tmp 4,.tmp 5],
 (.seq (.ops false [o 4 (.mv (ci 0)),o 5 (.mv (.const (.bool false)))])
 (.seq (.ops false [o 10 (.mv (t 0)),o 11 (.len 1 (t 10)),o 6 (.mv (t 11))])
 (.seq (.ops false [o 12 (.mv (t 6)),o 7 (.mv (ci 0)),o 8 (.mv (t 12))])
 (.seq (.seq (.keep [0,1,6,7,8]) (.block 0 (.loop (.seq (.seq (.seq (.ops false [o 13 (.mv (t 7)),o 14 (.mv (t 8)),o 15 (.bin .lss (t 13) (t 14))])
 (.cond (t 15)
 .skip
 (.exit 0)))
 (.block 1 (.seq (.ops false [o 16 (.mv (t 7)),o 17 (.mv (t 8)),o 18 (.bin .add (t 16) (t 17)),o 19 (.conv .u64 (t 18)),o 20 (.bin .shr (t 19) (.const (.int .u64 1))),o 21 (.conv .i64 (t 20)),o 9 (.mv (t 21))])
 (.seq (.keep [0,1,6,7,8,9])
 (.seq (.ops false [o 22 (.mv (t 0)),o 23 (.mv (t 9)),o 24 (.iaddr 1 (t 22) (t 23)),o 25 (.load1 (t 24)),o 26 (.mv (t 1)),o 27 (.call (.func n_cmp_Less_int) [(t 25),(t 26)])])
 (.cond (t 27)
 (.ops false [o 28 (.mv (t 9)),o 29 (.bin .add (t 28) (ci 1)),o 7 (.mv (t 29))])
 (.ops false [o 30 (.mv (t 9)),o 8 (.mv (t 30))]))))))) (.keep [0,1,6,7,8])))))
 (.seq (.keep [0,1,6,7])
 (.seq (.ops false (o 31 (.mv (t 7))::o 32 (.mv (t 7))::o 33 (.mv (t 6))::o 34 (.bin .lss (t 32) (t 33))::o 35 (.mv (t 34))::⟨(some 36),.mv (t 0),some (35,true),false⟩::⟨(some 37),.mv (t 7),some (35,true),false⟩::⟨(some 38),.iaddr 1 (t 36) (t 37),some (35,true),false⟩::⟨(some 39),.load1 (t 38),some (35,true),false⟩::⟨(some 40),.mv (t 1),some (35,true),false⟩::⟨(some 41),.bin .eql (t 39) (t 40),some (35,true),false⟩::⟨(some 42),.mv (t 41),some (35,true),false⟩::⟨(some 43),.mv (t 0),some (42,false),false⟩::⟨(some 44),.mv (t 7),some (42,false),false⟩::⟨(some 45),.iaddr 1 (t 43) (t 44),some (42,false),false⟩::⟨(some 46),.load1 (t 45),some (42,false),false⟩::⟨(some 47),.call (.func n_slices_isNaN_int) [(t 46)],some (42,false),false⟩::⟨(some 48),.mv (t 47),some (42,false),false⟩::⟨(some 49),.mv (t 1),some (48,true),false⟩::⟨(some 50),.call (.func n_slices_isNaN_int) [(t 49)],some (48,true),false⟩::⟨(some 51),.pick (t 48) (t 50) (.const (.bool false)),some (42,false),false⟩::⟨(some 52),.pick (t 42) (.const (.bool true)) (t 51),some (35,true),false⟩::o 53 (.pick (t 35) (t 52) (.const (.bool false)))::o 4 (.mv (t 31))::o 5 (.mv (t 53))::[]))
 (.seq (.keep [4,5])
 .ret)))))))⟩
/-- coroner/digits.may -/
def F_digits_may:AFn:=⟨1,[.tmp 2],
 (.seq (.ops false [o 2 (.mv (.const (.bool false)))])
 (.seq (.ops false [o 3 (.mv (t 0)),o 4 (.bin .geq (t 3) (ci 0)),o 5 (.mv (t 4)),⟨(some 6),.mv (t 0),some (5,true),false⟩,⟨(some 7),.bin .leq (t 6) (ci 2147483647),some (5,true),false⟩,o 8 (.pick (t 5) (t 7) (.const (.bool false))),o 2 (.mv (t 8))])
 (.seq (.keep [2])
 .ret)))⟩
/-- coroner/table.New -/
def F_table_New:AFn:=⟨1,[.tmp 2,.tmp 3],
 (.seq (.ops false [o 1 (.box (t 0)),o 2 (.mv (.const (.pointer none))),o 3 (.mv (ci 0))])
 (.seq (.seq (.ops false [o 11 (.loadN 1 (t 1)),o 12 (.call (.func n_encode_Check) [(t 11)]),o 4 (.mv (t 12))])
 (.seq (.ops false [o 13 (.mv (t 4)),o 14 (.bin .neq (t 13) (ci 0))])
 (.cond (t 14)
 (.seq (.ops false [o 15 (.mv (t 4)),o 2 (.mv (.const (.pointer none))),o 3 (.mv (t 15))])
 .ret)
 .skip)))
 (.seq (.keep [1,2,3])
 (.seq (.ops false [o 16 (.mkmap),o 17 (.mkmap),o 18 (.mkmap),o 19 (.mkmap),o 20 (.build [(.bool false),(.slice none 0 0),(.slice none 0 0),(.map none),(.map none),(.map none),(.map none)] [(0,(1,(.const (.bool true)))),(3,(1,(t 16))),(4,(1,(t 17))),(5,(1,(t 18))),(6,(1,(t 19)))]),o 21 (.box (t 20)),o 5 (.alloc [(.pointer none)]),s (.store 1 (t 5) (t 21))])
 (.seq (.keep [1,2,3,5])
 (.seq (.ops false [o 22 (.faddr 0 (t 1)),o 23 (.load1 (t 22)),o 24 (.call (.func n_slices_Clone_api_Txn_api_Txn) [(t 23)]),o 6 (.mv (t 24))])
 (.seq (.ops false [o 25 (.mv (t 6)),o 26 (.call (.func n_slices_SortFunc_api_Txn_api_Txn) [(t 25),(.func n_table_New_c1)])])
 (.seq (.seq (.ops false [o 27 (.mv (t 6)),o 28 (.len 1 (t 27)),o 29 (.mv (ci 0))])
 (.seq (.keep [2,3,5,6,27,28,29]) (.block 0 (.loop (.seq (.seq (.ops false [o 30 (.bin .lss (t 29) (t 28))])
 (.seq (.cond (t 30)
 .skip
 (.exit 0))
 (.seq (.block 1 (.seq (.ops false [o 31 (.iaddr 3 (t 27) (t 29)),o 32 (.loadN 3 (t 31)),o 8 (.alloc [(.int .i64 0),(.bool false),(.slice none 0 0)]),s (.store 3 (t 8) (t 32))])
 (.seq (.ops false [o 33 (.faddr 1 (t 8)),o 34 (.load1 (t 33)),o 35 (.un .not (t 34))])
 (.cond (t 35)
 (.opsK [(8,5)] [] [o 36 (.load1 (t 5)),o 37 (.load1 (t 5)),o 38 (.nilc (t 37)),o 39 (.faddr 1 (t 38)),o 40 (.load1 (t 39)),o 41 (.faddr 0 (t 8)),o 42 (.load1 (t 41)),o 43 (.bslice 1 1 [(.int .i64 0)] [(0,(1,(t 42)))]),b 44 (.append 1 8 (t 40) (t 43)),o 45 (.nilc (t 36)),o 46 (.faddr 1 (t 45)),sb (.store 1 (t 46) (t 44))])
 .skip))))
 (.seq (.keep [2,3,5,6,27,28,29])
 (.ops false [o 47 (.bin .add (t 29) (ci 1)),o 29 (.mv (t 47))]))))) (.keep [2,3,5,6,27,28,29]))))))
 (.seq (.keep [2,3,5,6])
 (.seq (.seq (.ops false [o 48 (.mv (t 6)),o 49 (.call (.func n_table_steps) [(t 48)])])
 (.block 2 (.rfun (t 49) [50,51]
 (.seq (.ops false [o 9 (.alloc [(.int .i64 0),(.bool false),(.slice none 0 0)]),s (.store 3 (t 9) (t 50))])
 (.ops false [o 10 (.mv (t 51))]))
 (.block 3 (.seq (.opsK [(12,5)] [] [o 52 (.load1 (t 5)),o 53 (.load1 (t 5)),o 54 (.nilc (t 53)),o 55 (.faddr 2 (t 54)),o 56 (.load1 (t 55)),o 57 (.faddr 2 (t 9)),o 58 (.load1 (t 57)),o 59 (.mv (t 10)),o 60 (.iaddr 4 (t 58) (t 59)),o 61 (.faddr 1 (t 60)),o 62 (.load1 (t 61)),o 63 (.bslice 1 1 [(.int .i64 0)] [(0,(1,(t 62)))]),b 64 (.append 1 8 (t 56) (t 63)),o 65 (.nilc (t 52)),o 66 (.faddr 2 (t 65)),sb (.store 1 (t 66) (t 64))])
 (.seq (.keep [5,9,10])
 (.ops true [o 67 (.load1 (t 5)),o 68 (.loadN 3 (t 9)),o 69 (.mv (t 10)),o 70 (.faddr 2 (t 9)),o 71 (.load1 (t 70)),o 72 (.mv (t 10)),o 73 (.iaddr 4 (t 71) (t 72)),o 74 (.loadN 4 (t 73)),b 75 (.call (.func n_table_Table_put) [(t 67),(t 68),(t 69),(t 74)])])))))))
 (.seq (.keep [5])
 (.seq (.ops true [o 76 (.load1 (t 5)),o 77 (.load1 (t 5)),o 78 (.nilc (t 77)),o 79 (.faddr 2 (t 78)),o 80 (.load1 (t 79)),o 81 (.call (.func n_sorted_Of_int) [(t 80)]),o 82 (.call (.func n_sorted_Set_int_List) [(t 81)]),b 83 (.nilc (t 76)),b 84 (.faddr 2 (t 83)),sb (.store 1 (t 84) (t 82))])
 (.seq (.keep [5])
 (.seq (.ops false [o 85 (.load1 (t 5)),o 2 (.mv (t 85)),o 3 (.mv (ci 0))])
 .ret))))))))))))))⟩
/-- coroner/coronerref01.Same -/
def F_r01_Same:AFn:=⟨2,[.tmp 4],
 (.seq (.ops false [o 4 (.mv (.const (.bool false)))])
 (.seq (.seq (.ops false [o 6 (.mv (t 0)),o 7 (.len 1 (t 6)),o 8 (.mv (t 1)),o 9 (.len 1 (t 8)),o 10 (.bin .neq (t 7) (t 9))])
 (.cond (t 10)
 (.seq (.ops false [o 4 (.mv (.const (.bool false)))])
 .ret)
 .skip))
 (.seq (.seq (.ops false [o 5 (.mv (ci 0))])
 (.seq (.keep [0,1,5]) (.block 0 (.loop (.seq (.seq (.seq (.ops false [o 11 (.mv (t 5)),o 12 (.mv (t 0)),o 13 (.len 1 (t 12)),o 14 (.bin .lss (t 11) (t 13))])
 (.cond (t 14)
 .skip
 (.exit 0)))
 (.seq (.block 1 (.seq (.ops true [o 17 (.mv (t 0)),o 18 (.mv (t 5)),o 19 (.iaddr 1 (t 17) (t 18)),o 20 (.load1 (t 19)),o 21 (.mv (t 1)),o 22 (.mv (t 5)),o 23 (.iaddr 1 (t 21) (t 22)),o 24 (.load1 (t 23)),b 25 (.bin .neq (t 20) (t 24))])
 (.seq (.keep [0,1,5,25])
 (.cond (t 25)
 (.seq (.ops false [o 4 (.mv (.const (.bool false)))])
 .ret)
 .skip))))
 (.seq (.keep [0,1,5])
 (.ops false [o 15 (.mv (t 5)),o 16 (.bin .add (t 15) (ci 1)),o 5 (.mv (t 16))])))) (.keep [0,1,5]))))))
 (.seq (.keep [])
 (.seq (.ops false [o 4 (.mv (.const (.bool true)))])
 .ret)))))⟩
/-- coroner/coronerref16.Clean -/
def F_r16_Clean:AFn:=⟨2,[.tmp 4],
 (.seq (.ops false [o 2 (.box (t 0)),o 3 (.box (t 1)),o 4 (.mv (.const (.slice none 0 0)))])
 (.seq (.ops false [o 5 (.mv (.const (.slice none 0 0)))])
 (.seq (.seq (.ops false [o 6 (.mv (ci 0))])
 (.seq (.keep [2,3,5,6]) (.block 0 (.loop (.seq (.seq (.seq (.ops false [o 9 (.mv (t 6)),o 10 (.faddr 3 (t 3)),o 11 (.load1 (t 10)),o 12 (.len 1 (t 11)),o 13 (.bin .lss (t 9) (t 12))])
 (.cond (t 13)
 .skip
 (.exit 0)))
 (.seq (.block 1 (.seq (.opsA [] [o 17 (.loadN 1 (t 2)),o 18 (.faddr 2 (t 3)),o 19 (.load1 (t 18)),o 20 (.faddr 3 (t 3)),o 21 (.load1 (t 20)),o 22 (.mv (t 6)),o 23 (.iaddr 1 (t 21) (t 22)),o 24 (.load1 (t 23)),o 25 (.call (.func n_r12_Writer) [(t 17),(t 19),(t 24)]),o 16 (.mv (t 25)),o 26 (.extract 0 (t 16)),o 27 (.extract 1 (t 16)),o 7 (.alloc [(.int .i64 0),(.int .i64 0),(.int .i64 0),(.int .i64 0),(.bool false)]),sb (.store 5 (t 7) (t 26)),o 8 (.mv (t 27))])
 (.seq (.keep [2,3,5,6,7,8])
 (.seq (.ops false [o 28 (.mv (t 8)),o 29 (.un .not (t 28)),o 30 (.mv (t 29)),⟨(some 31),.faddr 4 (t 7),some (30,false),false⟩,⟨(some 32),.load1 (t 31),some (30,false),false⟩,⟨(some 33),.un .not (t 32),some (30,false),false⟩,o 34 (.pick (t 30) (.const (.bool true)) (t 33))])
 (.seq (.keep [2,3,5,6,34])
 (.cond (t 34)
 (.ops false [o 35 (.mv (t 5)),o 36 (.faddr 3 (t 3)),o 37 (.load1 (t 36)),o 38 (.mv (t 6)),o 39 (.iaddr 1 (t 37) (t 38)),o 40 (.load1 (t 39)),o 41 (.bslice 1 1 [(.int .i64 0)] [(0,(1,(t 40)))]),o 42 (.append 1 8 (t 35) (t 41)),o 5 (.mv (t 42))])
 .skip))))))
 (.seq (.keep [2,3,5,6])
 (.ops false [o 14 (.mv (t 6)),o 15 (.bin .add (t 14) (ci 1)),o 6 (.mv (t 15))])))) (.keep [2,3,5,6]))))))
 (.seq (.keep [5])
 (.seq (.ops false [o 43 (.mv (t 5)),o 4 (.mv (t 43))])
 .ret)))))⟩
/-- coroner/coronerref12.Writes -/
def F_r12_Writes:AFn:=⟨2,[.tmp 4],
 (.seq (.ops false [o 2 (.box (t 0)),o 4 (.mv (.const (.slice none 0 0)))])
 (.seq (.ops false [o 5 (.mv (.const (.slice none 0 0)))])
 (.seq (.ops false [o 10 (.loadN 1 (t 2)),o 11 (.call (.func n_r12_IDs) [(t 10)]),o 6 (.mv (t 11))])
 (.seq (.seq (.ops false [o 7 (.mv (ci 0))])
 (.seq (.keep [1,2,5,6,7]) (.block 0 (.loop (.seq (.seq (.seq (.ops false [o 12 (.mv (t 7)),o 13 (.mv (t 6)),o 14 (.len 1 (t 13)),o 15 (.bin .lss (t 12) (t 14))])
 (.cond (t 15)
 .skip
 (.exit 0)))
 (.seq (.block 1 (.seq (.ops true [o 18 (.loadN 1 (t 2)),o 19 (.mv (t 6)),o 20 (.mv (t 7)),o 21 (.iaddr 1 (t 19) (t 20)),o 22 (.load1 (t 21)),o 23 (.call (.func n_r12_txn) [(t 18),(t 22)]),o 8 (.alloc [(.int .i64 0),(.bool false),(.slice none 0 0)]),sb (.store 3 (t 8) (t 23))])
 (.seq (.keep [1,2,5,6,7,8])
 (.seq (.ops false [o 9 (.mv (ci 0))])
 (.seq (.keep [1,2,5,6,7,8,9]) (.block 2 (.loop (.seq (.seq (.seq (.ops false [o 24 (.mv (t 9)),o 25 (.faddr 2 (t 8)),o 26 (.load1 (t 25)),o 27 (.len 1 (t 26)),o 28 (.bin .lss (t 24) (t 27))])
 (.cond (t 28)
 .skip
 (.exit 2)))
 (.seq (.block 3 (.seq (.ops false [o 31 (.faddr 2 (t 8)),o 32 (.load1 (t 31)),o 33 (.mv (t 9)),o 34 (.iaddr 4 (t 32) (t 33)),o 35 (.faddr 0 (t 34)),o 36 (.load1 (t 35)),o 37 (.un .not (t 36)),o 38 (.mv (t 37)),⟨(some 39),.faddr 2 (t 8),some (38,true),false⟩,⟨(some 40),.load1 (t 39),some (38,true),false⟩,⟨(some 41),.mv (t 9),some (38,true),false⟩,⟨(some 42),.iaddr 4 (t 40) (t 41),some (38,true),false⟩,⟨(some 43),.faddr 1 (t 42),some (38,true),false⟩,⟨(some 44),.load1 (t 43),some (38,true),false⟩,⟨(some 45),.mv (t 1),some (38,true),false⟩,⟨(some 46),.bin .eql (t 44) (t 45),some (38,true),false⟩,o 47 (.pick (t 38) (t 46) (.const (.bool false)))])
 (.seq (.keep [1,2,5,6,7,8,9,47])
 (.cond (t 47)
 (.ops true [o 48 (.mv (t 5)),o 49 (.faddr 0 (t 8)),o 50 (.load1 (t 49)),o 51 (.mv (t 9)),o 52 (.mv (t 1)),o 53 (.faddr 2 (t 8)),o 54 (.load1 (t 53)),o 55 (.mv (t 9)),o 56 (.iaddr 4 (t 54) (t 55)),o 57 (.faddr 2 (t 56)),o 58 (.load1 (t 57)),o 59 (.build [(.int .i64 0),(.int .i64 0),(.int .i64 0),(.int .i64 0),(.bool false)] [(0,(1,(t 50))),(1,(1,(t 51))),(2,(1,(t 52))),(3,(1,(t 58)))]),o 60 (.bslice 5 1 [(.int .i64 0),(.int .i64 0),(.int .i64 0),(.int .i64 0),(.bool false)] [(0,(5,(t 59)))]),b 61 (.append 5 40 (t 48) (t 60)),b 5 (.mv (t 61))])
 .skip))))
 (.seq (.keep [1,2,5,6,7,8,9])
 (.ops false [o 29 (.mv (t 9)),o 30 (.bin .add (t 29) (ci 1)),o 9 (.mv (t 30))])))) (.keep [1,2,5,6,7,8,9])))))))))
 (.seq (.keep [1,2,5,6,7])
 (.ops false [o 16 (.mv (t 7)),o 17 (.bin .add (t 16) (ci 1)),o 7 (.mv (t 17))])))) (.keep [1,2,5,6,7]))))))
 (.seq (.keep [5])
 (.seq (.ops false [o 62 (.mv (t 5)),o 4 (.mv (t 62))])
 .ret))))))⟩
/-- coroner/coronerref13.Kind -/
def F_r13_Kind:AFn:=⟨2,[.tmp 4,.tmp 5],
 (.seq (.ops false [o 2 (.box (t 0)),o 3 (.box (t 1)),o 4 (.mv (ci 0)),o 5 (.mv (ci 0))])
 (.seq (.seq (.ops false [o 6 (.mv (ci 0))])
 (.seq (.keep [2,3,6]) (.block 0 (.loop (.seq (.seq (.seq (.ops false [o 17 (.mv (t 6)),o 18 (.faddr 3 (t 3)),o 19 (.load1 (t 18)),o 20 (.len 1 (t 19)),o 21 (.bin .lss (t 17) (t 20))])
 (.cond (t 21)
 .skip
 (.exit 0)))
 (.seq (.block 1 (.seq (.ops false [o 7 (.mv (ci 0))])
 (.seq (.keep [2,3,6,7]) (.block 2 (.loop (.seq (.seq (.seq (.ops false [o 24 (.mv (t 7)),o 25 (.mv (t 6)),o 26 (.bin .lss (t 24) (t 25))])
 (.cond (t 26)
 .skip
 (.exit 2)))
 (.seq (.block 3 (.seq (.ops true [o 29 (.faddr 3 (t 3)),o 30 (.load1 (t 29)),o 31 (.mv (t 7)),o 32 (.iaddr 1 (t 30) (t 31)),o 33 (.load1 (t 32)),o 34 (.faddr 3 (t 3)),o 35 (.load1 (t 34)),o 36 (.mv (t 6)),o 37 (.iaddr 1 (t 35) (t 36)),o 38 (.load1 (t 37)),b 39 (.bin .eql (t 33) (t 38))])
 (.seq (.keep [2,3,6,7,39])
 (.cond (t 39)
 (.seq (.ops true [o 40 (.faddr 3 (t 3)),o 41 (.load1 (t 40)),o 42 (.mv (t 6)),o 43 (.iaddr 1 (t 41) (t 42)),o 44 (.load1 (t 43)),o 4 (.mv (ci 1)),b 5 (.mv (t 44))])
 (.seq (.keep [4,5])
 .ret))
 .skip))))
 (.seq (.keep [2,3,6,7])
 (.ops false [o 27 (.mv (t 7)),o 28 (.bin .add (t 27) (ci 1)),o 7 (.mv (t 28))])))) (.keep [2,3,6,7])))))))
 (.seq (.keep [2,3,6])
 (.ops false [o 22 (.mv (t 6)),o 23 (.bin .add (t 22) (ci 1)),o 6 (.mv (t 23))])))) (.keep [2,3,6]))))))
 (.seq (.keep [2,3])
 (.seq (.seq (.ops false [o 8 (.mv (ci 0))])
 (.seq (.keep [2,3,8]) (.block 4 (.loop (.seq (.seq (.seq (.ops false [o 45 (.mv (t 8)),o 46 (.faddr 3 (t 3)),o 47 (.load1 (t 46)),o 48 (.len 1 (t 47)),o 49 (.bin .lss (t 45) (t 48))])
 (.cond (t 49)
 .skip
 (.exit 4)))
 (.seq (.block 5 (.seq (.opsA [] [o 53 (.loadN 1 (t 2)),o 54 (.faddr 2 (t 3)),o 55 (.load1 (t 54)),o 56 (.faddr 3 (t 3)),o 57 (.load1 (t 56)),o 58 (.mv (t 8)),o 59 (.iaddr 1 (t 57) (t 58)),o 60 (.load1 (t 59)),o 61 (.call (.func n_r12_Writer) [(t 53),(t 55),(t 60)]),o 52 (.mv (t 61)),o 62 (.extract 0 (t 52)),o 63 (.extract 1 (t 52)),o 9 (.alloc [(.int .i64 0),(.int .i64 0),(.int .i64 0),(.int .i64 0),(.bool false)]),sb (.store 5 (t 9) (t 62)),o 10 (.mv (t 63))])
 (.seq (.keep [2,3,8,10])
 (.seq (.ops false [o 64 (.mv (t 10)),o 65 (.un .not (t 64))])
 (.cond (t 65)
 (.seq (.ops true [o 66 (.faddr 3 (t 3)),o 67 (.load1 (t 66)),o 68 (.mv (t 8)),o 69 (.iaddr 1 (t 67) (t 68)),o 70 (.load1 (t 69)),o 4 (.mv (ci 2)),b 5 (.mv (t 70))])
 (.seq (.keep [4,5])
 .ret))
 .skip)))))
 (.seq (.keep [2,3,8])
 (.ops false [o 50 (.mv (t 8)),o 51 (.bin .add (t 50) (ci 1)),o 8 (.mv (t 51))])))) (.keep [2,3,8]))))))
 (.seq (.keep [2,3])
 (.seq (.ops false [o 71 (.faddr 3 (t 3)),o 72 (.load1 (t 71)),o 73 (.len 1 (t 72)),o 74 (.faddr 4 (t 3)),o 75 (.load1 (t 74)),o 76 (.len 1 (t 75)),o 77 (.bin .sub (t 73) (t 76)),o 11 (.mv (t 77))])
 (.seq (.keep [2,3,11])
 (.seq (.seq (.ops false [o 12 (.mv (ci 0))])
 (.seq (.keep [2,3,11,12]) (.block 6 (.loop (.seq (.seq (.seq (.ops false [o 78 (.mv (t 12)),o 79 (.faddr 4 (t 3)),o 80 (.load1 (t 79)),o 81 (.len 1 (t 80)),o 82 (.bin .lss (t 78) (t 81))])
 (.cond (t 82)
 .skip
 (.exit 6)))
 (.seq (.block 7 (.seq (.ops true [o 85 (.mv (t 11)),o 86 (.mv (t 12)),b 87 (.bin .add (t 85) (t 86)),b 88 (.bin .lss (t 87) (ci 0)),b 89 (.mv (t 88)),⟨(some 90),.faddr 3 (t 3),some (89,false),false⟩,⟨(some 91),.load1 (t 90),some (89,false),false⟩,⟨(some 92),.mv (t 11),some (89,false),false⟩,⟨(some 93),.mv (t 12),some (89,false),false⟩,⟨(some 94),.bin .add (t 92) (t 93),some (89,false),false⟩,⟨(some 95),.iaddr 1 (t 91) (t 94),some (89,false),false⟩,⟨(some 96),.load1 (t 95),some (89,false),false⟩,⟨(some 97),.faddr 4 (t 3),some (89,false),false⟩,⟨(some 98),.load1 (t 97),some (89,false),false⟩,⟨(some 99),.mv (t 12),some (89,false),false⟩,⟨(some 100),.iaddr 1 (t 98) (t 99),some (89,false),false⟩,⟨(some 101),.load1 (t 100),some (89,false),false⟩,⟨(some 102),.bin .neq (t 96) (t 101),some (89,false),true⟩,b 103 (.pick (t 89) (.const (.bool true)) (t 102))])
 (.seq (.keep [2,3,11,12,103])
 (.cond (t 103)
 (.seq (.ops true [o 104 (.faddr 4 (t 3)),o 105 (.load1 (t 104)),o 106 (.mv (t 12)),o 107 (.iaddr 1 (t 105) (t 106)),o 108 (.load1 (t 107)),o 4 (.mv (ci 3)),b 5 (.mv (t 108))])
 (.seq (.keep [4,5])
 .ret))
 .skip))))
 (.seq (.keep [2,3,11,12])
 (.ops false [o 83 (.mv (t 12)),o 84 (.bin .add (t 83) (ci 1)),o 12 (.mv (t 84))])))) (.keep [2,3,11,12]))))))
 (.seq (.keep [2,3])
 (.seq (.ops false [o 109 (.loadN 5 (t 3)),o 110 (.call (.func n_r13_Front) [(t 109)]),o 13 (.mv (t 110))])
 (.seq (.seq (.ops false [o 14 (.mv (ci 0))])
 (.seq (.keep [2,3,13,14]) (.block 8 (.loop (.seq (.seq (.seq (.ops false [o 111 (.mv (t 14)),o 112 (.mv (t 13)),o 113 (.len 1 (t 112)),o 114 (.bin .lss (t 111) (t 113))])
 (.cond (t 114)
 .skip
 (.exit 8)))
 (.seq (.block 9 (.seq (.opsA [] [o 118 (.loadN 1 (t 2)),o 119 (.faddr 2 (t 3)),o 120 (.load1 (t 119)),o 121 (.mv (t 13)),o 122 (.mv (t 14)),o 123 (.iaddr 1 (t 121) (t 122)),o 124 (.load1 (t 123)),o 125 (.call (.func n_r12_Writer) [(t 118),(t 120),(t 124)]),o 117 (.mv (t 125)),o 126 (.extract 0 (t 117)),o 127 (.extract 1 (t 117)),o 15 (.alloc [(.int .i64 0),(.int .i64 0),(.int .i64 0),(.int .i64 0),(.bool false)]),sb (.store 5 (t 15) (t 126)),o 16 (.mv (t 127))])
 (.seq (.keep [2,3,13,14,15])
 (.seq (.ops false [o 128 (.faddr 0 (t 15)),o 129 (.load1 (t 128)),o 130 (.faddr 0 (t 3)),o 131 (.load1 (t 130)),o 132 (.bin .eql (t 129) (t 131))])
 (.cond (t 132)
 (.seq (.ops true [o 133 (.mv (t 13)),o 134 (.mv (t 14)),o 135 (.iaddr 1 (t 133) (t 134)),o 136 (.load1 (t 135)),o 4 (.mv (ci 3)),b 5 (.mv (t 136))])
 .ret)
 .skip)))))
 (.seq (.keep [2,3,13,14])
 (.ops false [o 115 (.mv (t 14)),o 116 (.bin .add (t 115) (ci 1)),o 14 (.mv (t 116))])))) (.keep [2,3,13,14]))))))
 (.seq (.keep [])
 (.seq (.ops false [o 4 (.mv (ci 0)),o 5 (.mv (ci 0))])
 .ret)))))))))))))⟩
/-- coroner/encode.Check -/
def F_encode_Check:AFn:=⟨1,[.tmp 2],
 (.seq (.ops false [o 1 (.box (t 0)),o 2 (.mv (ci 0))])
 (.seq (.seq (.ops false [o 4 (.faddr 0 (t 1)),o 5 (.load1 (t 4)),o 6 (.len 1 (t 5)),o 7 (.bin .gtr (t 6) (ci 1024)),o 8 (.mv (t 7)),⟨(some 9),.loadN 1 (t 1),some (8,false),false⟩,⟨(some 10),.call (.func n_history_Ops) [(t 9)],some (8,false),false⟩,⟨(some 11),.bin .gtr (t 10) (ci 4096),some (8,false),false⟩,o 12 (.pick (t 8) (.const (.bool true)) (t 11))])
 (.seq (.keep [1,12])
 (.cond (t 12)
 (.seq (.ops false [o 2 (.mv (ci 3))])
 .ret)
 .skip)))
 (.seq (.keep [1])
 (.seq (.seq (.ops false [o 13 (.loadN 1 (t 1)),o 14 (.call (.func n_encode_parts) [(t 13)]),o 3 (.mv (t 14))])
 (.seq (.ops false [o 15 (.mv (t 3)),o 16 (.bin .neq (t 15) (ci 0))])
 (.cond (t 16)
 (.seq (.ops false [o 17 (.mv (t 3)),o 2 (.mv (t 17))])
 .ret)
 .skip)))
 (.seq (.keep [1])
 (.seq (.seq (.ops false [o 18 (.loadN 1 (t 1)),o 19 (.call (.func n_encode_text) [(t 18)]),o 20 (.len 1 (t 19)),o 21 (.bin .gtr (t 20) (ci 262144))])
 (.cond (t 21)
 (.seq (.ops false [o 2 (.mv (ci 3))])
 .ret)
 .skip))
 (.seq (.ops false [o 2 (.mv (ci 0))])
 .ret)))))))⟩
/-- cmp.Compare[int] -/
def F_cmp_Compare_int:AFn:=⟨2,[.tmp 4],
 (.seq (.ops false [o 4 (.mv (ci 0))])
 (.seq (.ops false [o 7 (.mv (t 0)),o 8 (.call (.func n_cmp_isNaN_int) [(t 7)]),o 5 (.mv (t 8))])
 (.seq (.ops false [o 9 (.mv (t 1)),o 10 (.call (.func n_cmp_isNaN_int) [(t 9)]),o 6 (.mv (t 10))])
 (.seq (.seq (.ops false [o 11 (.mv (t 5))])
 (.cond (t 11)
 (.seq (.seq (.ops false [o 12 (.mv (t 6))])
 (.cond (t 12)
 (.seq (.ops false [o 4 (.mv (ci 0))])
 .ret)
 .skip))
 (.seq (.ops false [o 4 (.mv (ci (-1)))])
 .ret))
 .skip))
 (.seq (.seq (.ops false [o 13 (.mv (t 6))])
 (.cond (t 13)
 (.seq (.ops false [o 4 (.mv (ci 1))])
 .ret)
 .skip))
 (.seq (.seq (.ops false [o 14 (.mv (t 0)),o 15 (.mv (t 1)),o 16 (.bin .lss (t 14) (t 15))])
 (.cond (t 16)
 (.seq (.ops false [o 4 (.mv (ci (-1)))])
 .ret)
 .skip))
 (.seq (.seq (.ops false [o 17 (.mv (t 0)),o 18 (.mv (t 1)),o 19 (.bin .gtr (t 17) (t 18))])
 (.cond (t 19)
 (.seq (.ops false [o 4 (.mv (ci 1))])
 .ret)
 .skip))
 (.seq (.ops false [o 4 (.mv (ci 0))])
 .ret))))))))⟩
/-- (coroner/sorted.Set[int]).List -/
def F_sorted_Set_int_List:AFn:=⟨1,[.tmp 2],
 (.seq (.ops false [o 1 (.box (t 0)),o 2 (.mv (.const (.slice none 0 0)))])
 (.seq (.ops false [o 3 (.faddr 0 (t 1)),o 4 (.load1 (t 3)),o 5 (.call (.func n_slices_Clone_int_int) [(t 4)]),o 2 (.mv (t 5))])
 .ret))⟩
/-- coroner/coronerref05.Has -/
def F_r05_Has:AFn:=⟨2,[.tmp 4],
 (.seq (.ops false [o 4 (.mv (.const (.bool false)))])
 (.seq (.seq (.ops false [o 5 (.mv (ci 0))])
 (.seq (.keep [0,1,5]) (.block 0 (.loop (.seq (.seq (.seq (.ops false [o 6 (.mv (t 5)),o 7 (.mv (t 0)),o 8 (.len 1 (t 7)),o 9 (.bin .lss (t 6) (t 8))])
 (.cond (t 9)
 .skip
 (.exit 0)))
 (.seq (.block 1 (.seq (.ops false [o 12 (.mv (t 0)),o 13 (.mv (t 5)),o 14 (.iaddr 1 (t 12) (t 13)),o 15 (.load1 (t 14)),o 16 (.mv (t 1)),o 17 (.bin .eql (t 15) (t 16))])
 (.cond (t 17)
 (.seq (.ops false [o 4 (.mv (.const (.bool true)))])
 .ret)
 .skip)))
 (.seq (.keep [0,1,5])
 (.ops false [o 10 (.mv (t 5)),o 11 (.bin .add (t 10) (ci 1)),o 5 (.mv (t 11))])))) (.keep [0,1,5]))))))
 (.seq (.keep [])
 (.seq (.ops false [o 4 (.mv (.const (.bool false)))])
 .ret))))⟩
/-- coroner/order.Clean$1 -/
def F_order_Clean_c1:AFn:=⟨3,[.tmp 4],
 (.seq (.ops false [o 4 (.mv (.const (.bool false)))])
 (.seq (.ops false [o 8 (.load1 (t 1)),o 9 (.faddr 2 (t 2)),o 10 (.load1 (t 9)),o 11 (.mv (t 0)),o 12 (.call (.func n_table_Table_Writer) [(t 8),(t 10),(t 11)]),o 7 (.mv (t 12)),o 13 (.extract 0 (t 7)),o 14 (.extract 1 (t 7)),o 5 (.alloc [(.int .i64 0),(.int .i64 0),(.int .i64 0),(.int .i64 0),(.bool false)]),s (.store 5 (t 5) (t 13)),o 6 (.mv (t 14))])
 (.seq (.keep [5])
 (.seq (.ops false [o 15 (.faddr 4 (t 5)),o 16 (.load1 (t 15)),o 4 (.mv (t 16))])
 .ret))))⟩
/-- coroner/prefix.Common[int] -/
def F_prefix_Common_int:AFn:=⟨2,[.tmp 4],
 (.seq (.ops false [o 4 (.mv (ci 0))])
 (.seq (.ops false [o 5 (.mv (ci 0))])
 (.seq (.seq (.keep [0,1,5]) (.block 0 (.loop (.seq (.seq (.seq (.ops true [o 6 (.mv (t 5)),o 7 (.mv (t 0)),o 8 (.len 1 (t 7)),b 9 (.bin .lss (t 6) (t 8)),b 10 (.mv (t 9)),⟨(some 11),.mv (t 5),some (10,true),false⟩,⟨(some 12),.mv (t 1),some (10,true),false⟩,⟨(some 13),.len 1 (t 12),some (10,true),false⟩,⟨(some 14),.bin .lss (t 11) (t 13),some (10,true),true⟩,b 15 (.pick (t 10) (t 14) (.const (.bool false))),b 16 (.mv (t 15)),⟨(some 17),.mv (t 0),some (16,true),false⟩,⟨(some 18),.mv (t 5),some (16,true),false⟩,⟨(some 19),.iaddr 1 (t 17) (t 18),some (16,true),false⟩,⟨(some 20),.load1 (t 19),some (16,true),false⟩,⟨(some 21),.mv (t 1),some (16,true),false⟩,⟨(some 22),.mv (t 5),some (16,true),false⟩,⟨(some 23),.iaddr 1 (t 21) (t 22),some (16,true),false⟩,⟨(some 24),.load1 (t 23),some (16,true),false⟩,⟨(some 25),.bin .eql (t 20) (t 24),some (16,true),true⟩,b 26 (.pick (t 16) (t 25) (.const (.bool false)))])
 (.seq (.keep [0,1,5,26])
 (.cond (t 26)
 .skip
 (.exit 0))))
 (.seq (.keep [0,1,5])
 (.block 1 (.ops false [o 27 (.mv (t 5)),o 28 (.bin .add (t 27) (ci 1)),o 5 (.mv (t 28))])))) (.keep [0,1,5])))))
 (.seq (.keep [5])
 (.seq (.ops false [o 29 (.mv (t 5)),o 4 (.mv (t 29))])
 .ret)))))⟩
/-- coroner/coronerref12.IDs -/
def F_r12_IDs:AFn:=⟨1,[.tmp 2],
 (.seq (.ops false [o 1 (.box (t 0)),o 2 (.mv (.const (.slice none 0 0)))])
 (.seq (.ops false [o 3 (.mv (.const (.slice none 0 0)))])
 (.seq (.seq (.ops false [o 4 (.mv (ci 0))])
 (.seq (.keep [1,3,4]) (.block 0 (.loop (.seq (.seq (.seq (.ops false [o 5 (.mv (t 4)),o 6 (.faddr 0 (t 1)),o 7 (.load1 (t 6)),o 8 (.len 1 (t 7)),o 9 (.bin .lss (t 5) (t 8))])
 (.cond (t 9)
 .skip
 (.exit 0)))
 (.seq (.block 1 (.seq (.ops false [o 12 (.faddr 0 (t 1)),o 13 (.load1 (t 12)),o 14 (.mv (t 4)),o 15 (.iaddr 3 (t 13) (t 14)),o 16 (.faddr 1 (t 15)),o 17 (.load1 (t 16)),o 18 (.un .not (t 17))])
 (.seq (.keep [1,3,4,18])
 (.cond (t 18)
 (.ops false [o 19 (.mv (t 3)),o 20 (.faddr 0 (t 1)),o 21 (.load1 (t 20)),o 22 (.mv (t 4)),o 23 (.iaddr 3 (t 21) (t 22)),o 24 (.faddr 0 (t 23)),o 25 (.load1 (t 24)),o 26 (.bslice 1 1 [(.int .i64 0)] [(0,(1,(t 25)))]),o 27 (.append 1 8 (t 19) (t 26)),o 3 (.mv (t 27))])
 .skip))))
 (.seq (.keep [1,3,4])
 (.ops false [o 10 (.mv (t 4)),o 11 (.bin .add (t 10) (ci 1)),o 4 (.mv (t 11))])))) (.keep [1,3,4]))))))
 (.seq (.keep [3])
 (.seq (.ops false [o 28 (.mv (t 3)),o 29 (.call (.func n_r05_Of) [(t 28)]),o 2 (.mv (t 29))])
 .ret)))))⟩
/-- coroner/reads.twice -/
def F_reads_twice:AFn:=⟨1,[.tmp 2,.tmp 3],
 (.seq (.ops false [o 2 (.mv (ci 0)),o 3 (.mv (.const (.bool false)))])
 (.seq (.ops false [o 4 (.alloc [(.slice none 0 0)])])
 (.seq (.seq (.ops false [o 7 (.mv (t 0)),o 8 (.len 1 (t 7)),o 9 (.mv (ci 0))])
 (.seq (.keep [4,7,8,9]) (.block 0 (.loop (.seq (.seq (.ops false [o 10 (.bin .lss (t 9) (t 8))])
 (.seq (.cond (t 10)
 .skip
 (.exit 0))
 (.seq (.block 1 (.seq (.ops false [o 11 (.iaddr 1 (t 7) (t 9)),o 12 (.load1 (t 11)),o 6 (.mv (t 12))])
 (.seq (.seq (.ops false [o 13 (.loadN 1 (t 4)),o 14 (.mv (t 6)),o 15 (.call (.func n_sorted_Set_int_Has) [(t 13),(t 14)])])
 (.cond (t 15)
 (.seq (.ops false [o 16 (.mv (t 6)),o 2 (.mv (t 16)),o 3 (.mv (.const (.bool true)))])
 .ret)
 .skip))
 (.ops false [o 17 (.loadN 1 (t 4)),o 18 (.mv (t 6)),o 19 (.bslice 1 1 [(.int .i64 0)] [(0,(1,(t 18)))]),o 20 (.call (.func n_sorted_Set_int_With) [(t 17),(t 19)]),s (.store 1 (t 4) (t 20))]))))
 (.seq (.keep [4,7,8,9])
 (.ops false [o 21 (.bin .add (t 9) (ci 1)),o 9 (.mv (t 21))]))))) (.keep [4,7,8,9]))))))
 (.seq (.keep [])
 (.seq (.ops false [o 2 (.mv (ci 0)),o 3 (.mv (.const (.bool false)))])
 .ret)))))⟩
/-- (*coroner/table.Table).Reads -/
def F_table_Table_Reads:AFn:=⟨2,[.tmp 4],
 (.seq (.ops false [o 4 (.mv (.const .nilFunc))])
 (.seq (.seq (.ops false [o 5 (.mv (t 0)),o 6 (.call (.func n_table_Table_is) [(t 5)]),o 7 (.un .not (t 6))])
 (.cond (t 7)
 (.seq (.ops false [o 8 (.call (.func n_table_goes_table_Read) [(.const (.slice none 0 0))]),o 4 (.mv (t 8))])
 .ret)
 .skip))
 (.seq (.ops false [o 9 (.mv (t 0)),o 10 (.nilc (t 9)),o 11 (.faddr 5 (t 10)),o 12 (.load1 (t 11)),o 13 (.mv (t 1)),o 14 (.lookup (.one 1) (.slice none 0 0) false (t 12) (t 13)),o 15 (.call (.func n_table_goes_table_Read) [(t 14)]),o 4 (.mv (t 15))])
 (.seq (.keep [4])
 .ret))))⟩
/-- coroner/coronerref03.Appended -/
def F_r03_Appended:AFn:=⟨3,[.tmp 6],
 (.seq (.ops false [o 3 (.box (t 0)),o 6 (.mv (.const (.bool false)))])
 (.seq (.seq (.ops false [o 7 (.mv (ci 0))])
 (.seq (.keep [1,2,3,7]) (.block 0 (.loop (.seq (.seq (.seq (.ops false [o 10 (.mv (t 7)),o 11 (.faddr 0 (t 3)),o 12 (.load1 (t 11)),o 13 (.len 1 (t 12)),o 14 (.bin .lss (t 10) (t 13))])
 (.cond (t 14)
 .skip
 (.exit 0)))
 (.seq (.block 1 (.seq (.ops false [o 8 (.mv (ci 0))])
 (.seq (.keep [1,2,3,7,8]) (.block 2 (.loop (.seq (.seq (.seq (.ops false [o 17 (.mv (t 8)),o 18 (.faddr 0 (t 3)),o 19 (.load1 (t 18)),o 20 (.mv (t 7)),o 21 (.iaddr 3 (t 19) (t 20)),o 22 (.faddr 2 (t 21)),o 23 (.load1 (t 22)),o 24 (.len 1 (t 23)),o 25 (.bin .lss (t 17) (t 24))])
 (.seq (.keep [1,2,3,7,8,25])
 (.cond (t 25)
 .skip
 (.exit 2))))
 (.seq (.keep [1,2,3,7,8])
 (.seq (.block 3 (.seq (.ops false [o 28 (.faddr 0 (t 3)),o 29 (.load1 (t 28)),o 30 (.mv (t 7)),o 31 (.iaddr 3 (t 29) (t 30)),o 32 (.faddr 2 (t 31)),o 33 (.load1 (t 32)),o 34 (.mv (t 8)),o 35 (.iaddr 4 (t 33) (t 34)),o 36 (.loadN 4 (t 35)),o 9 (.alloc [(.bool false),(.int .i64 0),(.int .i64 0),(.slice none 0 0)]),s (.store 4 (t 9) (t 36))])
 (.seq (.keep [1,2,3,7,8,9])
 (.seq (.ops false [o 37 (.faddr 0 (t 9)),o 38 (.load1 (t 37)),o 39 (.un .not (t 38)),o 40 (.mv (t 39)),⟨(some 41),.faddr 1 (t 9),some (40,true),false⟩,⟨(some 42),.load1 (t 41),some (40,true),false⟩,⟨(some 43),.mv (t 1),some (40,true),false⟩,⟨(some 44),.bin .eql (t 42) (t 43),some (40,true),false⟩,o 45 (.pick (t 40) (t 44) (.const (.bool false))),o 46 (.mv (t 45)),⟨(some 47),.faddr 2 (t 9),some (46,true),false⟩,⟨(some 48),.load1 (t 47),some (46,true),false⟩,⟨(some 49),.mv (t 2),some (46,true),false⟩,⟨(some 50),.bin .eql (t 48) (t 49),some (46,true),false⟩,o 51 (.pick (t 46) (t 50) (.const (.bool false)))])
 (.seq (.keep [1,2,3,7,8,51])
 (.cond (t 51)
 (.seq (.ops false [o 6 (.mv (.const (.bool true)))])
 .ret)
 .skip))))))
 (.seq (.keep [1,2,3,7,8])
 (.ops false [o 26 (.mv (t 8)),o 27 (.bin .add (t 26) (ci 1)),o 8 (.mv (t 27))]))))) (.keep [1,2,3,7,8])))))))
 (.seq (.keep [1,2,3,7])
 (.ops false [o 15 (.mv (t 7)),o 16 (.bin .add (t 15) (ci 1)),o 7 (.mv (t 16))])))) (.keep [1,2,3,7]))))))
 (.seq (.keep [])
 (.seq (.ops false [o 6 (.mv (.const (.bool false)))])
 .ret))))⟩
/-- coroner/encode.parts -/
def F_encode_parts:AFn:=⟨1,[.tmp 2],
 (.seq (.ops false [o 1 (.box (t 0)),o 2 (.mv (ci 0))])
 (.seq (.ops false [o 14 (.mkmap),o 15 (.mkmap),o 3 (.mv (t 14)),o 4 (.mv (t 15))])
 (.seq (.seq (.ops false [o 16 (.faddr 0 (t 1)),o 17 (.load1 (t 16)),o 18 (.len 1 (t 17)),o 19 (.mv (ci 0))])
 (.seq (.keep [3,4,17,18,19]) (.block 0 (.loop (.seq (.seq (.ops false [o 20 (.bin .lss (t 19) (t 18))])
 (.seq (.cond (t 20)
 .skip
 (.exit 0))
 (.seq (.block 1 (.seq (.ops false [o 21 (.mv (t 19)),o 22 (.iaddr 3 (t 17) (t 19)),o 23 (.loadN 3 (t 22)),o 6 (.alloc [(.int .i64 0),(.bool false),(.slice none 0 0)]),o 5 (.mv (t 21)),s (.store 3 (t 6) (t 23))])
 (.seq (.seq (.ops false [o 24 (.faddr 0 (t 6)),o 25 (.load1 (t 24)),o 26 (.bslice 1 1 [(.int .i64 0)] [(0,(1,(t 25)))]),o 27 (.call (.func n_encode_may) [(t 26)]),o 28 (.un .not (t 27))])
 (.cond (t 28)
 (.seq (.ops false [o 2 (.mv (ci 2))])
 .ret)
 .skip))
 (.seq (.seq (.ops false [o 30 (.mv (t 3)),o 31 (.faddr 0 (t 6)),o 32 (.load1 (t 31)),o 33 (.lookup (.one 1) (.int .i64 0) true (t 30) (t 32)),o 29 (.mv (t 33)),o 34 (.extract 0 (t 29)),o 35 (.extract 1 (t 29)),o 7 (.mv (t 34)),o 8 (.mv (t 35))])
 (.seq (.keep [3,4,5,6,8,17,18,19])
 (.seq (.ops false [o 36 (.mv (t 8))])
 (.cond (t 36)
 (.seq (.ops false [o 2 (.mv (ci 5))])
 .ret)
 .skip))))
 (.seq (.keep [3,4,5,6,17,18,19])
 (.seq (.ops false [o 37 (.mv (t 3)),o 38 (.faddr 0 (t 6)),o 39 (.load1 (t 38)),o 40 (.mv (t 5)),s (.mapupd (.one 1) (t 37) (t 39) (t 40))])
 (.seq (.ops false [o 41 (.faddr 2 (t 6)),o 42 (.load1 (t 41)),o 43 (.len 1 (t 42)),o 44 (.mv (ci 0))])
 (.seq (.keep [3,4,5,17,18,19,42,43,44]) (.block 2 (.loop (.seq (.seq (.ops false [o 45 (.bin .lss (t 44) (t 43))])
 (.seq (.cond (t 45)
 .skip
 (.exit 2))
 (.seq (.block 3 (.seq (.ops false [o 46 (.iaddr 4 (t 42) (t 44)),o 47 (.loadN 4 (t 46)),o 10 (.alloc [(.bool false),(.int .i64 0),(.int .i64 0),(.slice none 0 0)]),s (.store 4 (t 10) (t 47))])
 (.seq (.seq (.ops false [o 48 (.loadN 4 (t 10)),o 49 (.call (.func n_encode_mayOp) [(t 48)]),o 50 (.un .not (t 49))])
 (.cond (t 50)
 (.seq (.ops false [o 2 (.mv (ci 2))])
 .ret)
 .skip))
 (.seq (.seq (.ops false [o 51 (.faddr 0 (t 10)),o 52 (.load1 (t 51))])
 (.cond (t 52)
 (.exit 3)
 .skip))
 (.seq (.ops false [o 53 (.faddr 1 (t 10)),o 54 (.load1 (t 53)),o 55 (.faddr 2 (t 10)),o 56 (.load1 (t 55)),o 57 (.build [(.int .i64 0),(.int .i64 0)] [(0,(1,(t 54))),(1,(1,(t 56)))]),o 11 (.alloc [(.int .i64 0),(.int .i64 0)]),s (.store 2 (t 11) (t 57))])
 (.seq (.keep [3,4,5,11,17,18,19,42,43,44])
 (.seq (.seq (.ops false [o 59 (.mv (t 4)),o 60 (.loadN 2 (t 11)),o 61 (.lookup (.many [1,1]) (.int .i64 0) true (t 59) (t 60)),o 58 (.mv (t 61)),o 62 (.extract 0 (t 58)),o 63 (.extract 1 (t 58)),o 12 (.mv (t 62)),o 13 (.mv (t 63))])
 (.seq (.keep [3,4,5,11,13,17,18,19,42,43,44])
 (.seq (.ops false [o 64 (.mv (t 13))])
 (.cond (t 64)
 (.seq (.ops false [o 2 (.mv (ci 6))])
 .ret)
 .skip))))
 (.seq (.keep [3,4,5,11,17,18,19,42,43,44])
 (.ops false [o 65 (.mv (t 4)),o 66 (.loadN 2 (t 11)),o 67 (.mv (t 5)),s (.mapupd (.many [1,1]) (t 65) (t 66) (t 67))])))))))))
 (.seq (.keep [3,4,5,17,18,19,42,43,44])
 (.ops false [o 68 (.bin .add (t 44) (ci 1)),o 44 (.mv (t 68))]))))) (.keep [3,4,5,17,18,19,42,43,44]))))))))))))
 (.seq (.keep [3,4,17,18,19])
 (.ops false [o 69 (.bin .add (t 19) (ci 1)),o 19 (.mv (t 69))]))))) (.keep [3,4,17,18,19]))))))
 (.seq (.keep [])
 (.seq (.ops false [o 2 (.mv (ci 0))])
 .ret)))))⟩
/-- cmp.isNaN[int] -/
def F_cmp_isNaN_int:AFn:=⟨1,[.tmp 2],
 (.seq (.ops false [o 2 (.mv (.const (.bool false)))])
 (.seq (.ops false [o 3 (.mv (t 0)),o 4 (.mv (t 0)),o 5 (.bin .neq (t 3) (t 4)),o 2 (.mv (t 5))])
 .ret))⟩
/-- coroner/prefix.Fit[int] -/
def F_prefix_Fit_int:AFn:=⟨2,[.tmp 4],
 (.seq (.ops false [o 4 (.mv (.const (.bool false)))])
 (.seq (.ops false [o 5 (.mv (t 0)),o 6 (.mv (t 1)),o 7 (.call (.func n_prefix_Is_int) [(t 5),(t 6)]),o 8 (.mv (t 7)),⟨(some 9),.mv (t 1),some (8,false),false⟩,⟨(some 10),.mv (t 0),some (8,false),false⟩,⟨(some 11),.call (.func n_prefix_Is_int) [(t 9),(t 10)],some (8,false),false⟩,o 12 (.pick (t 8) (.const (.bool true)) (t 11)),o 4 (.mv (t 12))])
 (.seq (.keep [4])
 .ret)))⟩
/-- slices.IndexFunc[[]int,int] -/
def F_slices_IndexFunc_int_int:AFn:=⟨2,[.tmp 4],
 (.seq (.ops false [o 4 (.mv (ci 0))])
 (.seq (.seq (.ops false [o 6 (.mv (t 0)),o 7 (.len 1 (t 6)),o 8 (.mv (ci 0))])
 (.seq (.keep [0,1,7,8]) (.block 0 (.loop (.seq (.seq (.ops false [o 9 (.bin .lss (t 8) (t 7))])
 (.seq (.cond (t 9)
 .skip
 (.exit 0))
 (.seq (.block 1 (.seq (.ops false [o 10 (.mv (t 8)),o 5 (.mv (t 10))])
 (.seq (.ops false [o 11 (.mv (t 1)),o 12 (.mv (t 0)),o 13 (.mv (t 5)),o 14 (.iaddr 1 (t 12) (t 13)),o 15 (.load1 (t 14)),o 16 (.call (t 11) [(t 15)])])
 (.cond (t 16)
 (.seq (.ops false [o 17 (.mv (t 5)),o 4 (.mv (t 17))])
 .ret)
 .skip))))
 (.seq (.keep [0,1,7,8])
 (.ops false [o 18 (.bin .add (t 8) (ci 1)),o 8 (.mv (t 18))]))))) (.keep [0,1,7,8]))))))
 (.seq (.keep [])
 (.seq (.ops false [o 4 (.mv (ci (-1)))])
 .ret))))⟩
/-- coroner/table.goes[coroner/table.Read] -/
def F_table_goes_table_Read:AFn:=⟨1,[.tmp 2],
 (.seq (.ops false [o 1 (.box (t 0)),o 2 (.mv (.const .nilFunc))])
 (.seq (.ops false [o 3 (.mkf n_table_goes_table_Read_c1 [] [(t 1)]),o 2 (.mv (t 3))])
 .ret))⟩
/-- coroner/encode.txn -/
def F_encode_txn:AFn:=⟨1,[.tmp 2],
 (.seq (.ops false [o 1 (.box (t 0)),o 2 (.mv (.const (.slice none 0 0)))])
 (.seq (.ops false [o 3 (.mv (.const (.string ⟨#[32,99,10]⟩)))])
 (.seq (.seq (.ops false [o 7 (.faddr 1 (t 1)),o 8 (.load1 (t 7))])
 (.cond (t 8)
 (.ops false [o 3 (.mv (.const (.string ⟨#[32,97,10]⟩)))])
 .skip))
 (.seq (.ops false [o 9 (.mv (t 3)),o 10 (.faddr 0 (t 1)),o 11 (.load1 (t 10)),o 12 (.bslice 1 1 [(.int .i64 0)] [(0,(1,(t 11)))]),o 13 (.call (.func n_encode_line) [(.const (.string ⟨#[116]⟩)),(t 9),(t 12)]),o 4 (.mv (t 13))])
 (.seq (.seq (.ops false [o 14 (.faddr 2 (t 1)),o 15 (.load1 (t 14)),o 16 (.len 1 (t 15)),o 17 (.mv (ci 0))])
 (.seq (.keep [4,15,16,17]) (.block 0 (.loop (.seq (.seq (.ops false [o 18 (.bin .lss (t 17) (t 16))])
 (.seq (.cond (t 18)
 .skip
 (.exit 0))
 (.seq (.block 1 (.seq (.ops false [o 19 (.iaddr 4 (t 15) (t 17)),o 20 (.loadN 4 (t 19)),o 6 (.alloc [(.bool false),(.int .i64 0),(.int .i64 0),(.slice none 0 0)]),s (.store 4 (t 6) (t 20))])
 (.seq (.ops false [o 21 (.faddr 0 (t 6)),o 22 (.load1 (t 21))])
 (.cond (t 22)
 (.ops false [o 23 (.mv (t 4)),o 24 (.faddr 1 (t 6)),o 25 (.load1 (t 24)),o 26 (.bslice 1 1 [(.int .i64 0)] [(0,(1,(t 25)))]),o 27 (.faddr 3 (t 6)),o 28 (.load1 (t 27)),o 29 (.append 1 8 (t 26) (t 28)),o 30 (.call (.func n_encode_line) [(.const (.string ⟨#[114]⟩)),(.const (.string ⟨#[10]⟩)),(t 29)]),o 31 (.append 1 1 (t 23) (t 30)),o 4 (.mv (t 31))])
 (.ops false [o 32 (.mv (t 4)),o 33 (.faddr 1 (t 6)),o 34 (.load1 (t 33)),o 35 (.faddr 2 (t 6)),o 36 (.load1 (t 35)),o 37 (.bslice 1 2 [(.int .i64 0),(.int .i64 0)] [(0,(1,(t 34))),(1,(1,(t 36)))]),o 38 (.call (.func n_encode_line) [(.const (.string ⟨#[97]⟩)),(.const (.string ⟨#[10]⟩)),(t 37)]),o 39 (.append 1 1 (t 32) (t 38)),o 4 (.mv (t 39))])))))
 (.seq (.keep [4,15,16,17])
 (.ops false [o 40 (.bin .add (t 17) (ci 1)),o 17 (.mv (t 40))]))))) (.keep [4,15,16,17]))))))
 (.seq (.keep [4])
 (.seq (.ops false [o 41 (.mv (t 4)),o 2 (.mv (t 41))])
 .ret)))))))⟩
/-- coroner/prefix.Is[int] -/
def F_prefix_Is_int:AFn:=⟨2,[.tmp 4],
 (.seq (.ops false [o 4 (.mv (.const (.bool false)))])
 (.seq (.ops false [o 5 (.mv (t 0)),o 6 (.mv (t 1)),o 7 (.call (.func n_prefix_Common_int) [(t 5),(t 6)]),o 8 (.mv (t 0)),o 9 (.len 1 (t 8)),o 10 (.bin .eql (t 7) (t 9)),o 4 (.mv (t 10))])
 (.seq (.keep [4])
 .ret)))⟩
/-- (coroner/sorted.Set[int]).place -/
def F_sorted_Set_int_place:AFn:=⟨2,[.tmp 4,.tmp 5],
 (.seq (.ops false [o 2 (.box (t 0)),o 4 (.mv (ci 0)),o 5 (.mv (.const (.bool false)))])
 (.seq (.ops false [o 6 (.faddr 0 (t 2)),o 7 (.load1 (t 6)),o 8 (.mv (t 1)),o 9 (.call (.func n_slices_BinarySearch_int_int) [(t 7),(t 8)]),o 10 (.extract 0 (t 9)),o 11 (.extract 1 (t 9)),o 4 (.mv (t 10)),o 5 (.mv (t 11))])
 (.seq (.keep [4,5])
 .ret)))⟩
/-- slices.ContainsFunc[[]int,int] -/
def F_slices_ContainsFunc_int_int:AFn:=⟨2,[.tmp 4],
 (.seq (.ops false [o 4 (.mv (.const (.bool false)))])
 (.seq (.ops false [o 5 (.mv (t 0)),o 6 (.mv (t 1)),o 7 (.call (.func n_slices_IndexFunc_int_int) [(t 5),(t 6)]),o 8 (.bin .geq (t 7) (ci 0)),o 4 (.mv (t 8))])
 .ret))⟩
/-- coroner/digits.Print -/
def F_digits_Print:AFn:=⟨1,[.tmp 2,.tmp 3],
 (.seq (.ops false [o 2 (.mv (.const (.string ⟨#[]⟩))),o 3 (.mv (ci 0))])
 (.seq (.seq (.ops false [o 6 (.mv (t 0)),o 7 (.call (.func n_digits_may) [(t 6)]),o 8 (.un .not (t 7))])
 (.cond (t 8)
 (.seq (.ops false [o 2 (.mv (.const (.string ⟨#[]⟩))),o 3 (.mv (ci 2))])
 .ret)
 .skip))
 (.seq (.ops false [o 10 (.mv (t 0)),o 11 (.call (.func n_digits_text) [(t 10)]),o 9 (.mv (t 11)),o 12 (.extract 0 (t 9)),o 13 (.extract 1 (t 9)),o 4 (.alloc [(.int .u8 0),(.int .u8 0),(.int .u8 0),(.int .u8 0),(.int .u8 0),(.int .u8 0),(.int .u8 0),(.int .u8 0),(.int .u8 0),(.int .u8 0)]),s (.store 10 (t 4) (t 12)),o 5 (.mv (t 13))])
 (.seq (.keep [4,5])
 (.seq (.ops false [o 14 (.mv (t 5)),o 15 (.bin .sub (ci 10) (t 14)),o 16 (.slcV 10 1 (t 4) (some (t 15)) none),o 17 (.convBS (t 16)),o 2 (.mv (t 17)),o 3 (.mv (ci 0))])
 .ret)))))⟩
/-- coroner/digits.text -/
def F_digits_text:AFn:=⟨1,[.cellN 2 10,.tmp 3],
 (.seq (.ops false [o 2 (.alloc [(.int .u8 0),(.int .u8 0),(.int .u8 0),(.int .u8 0),(.int .u8 0),(.int .u8 0),(.int .u8 0),(.int .u8 0),(.int .u8 0),(.int .u8 0)]),o 3 (.mv (ci 0))])
 (.seq (.ops false [o 4 (.alloc [(.int .u8 0),(.int .u8 0),(.int .u8 0),(.int .u8 0),(.int .u8 0),(.int .u8 0),(.int .u8 0),(.int .u8 0),(.int .u8 0),(.int .u8 0)])])
 (.seq (.ops false [o 5 (.mv (ci 0))])
 (.seq (.seq (.keep [0,2,4,5]) (.block 0 (.loop (.seq (.seq (.seq (.ops false [o 6 (.mv (t 5)),o 7 (.bin .eql (t 6) (ci 0)),o 8 (.mv (t 7)),⟨(some 9),.mv (t 0),some (8,false),false⟩,⟨(some 10),.bin .gtr (t 9) (ci 0),some (8,false),false⟩,o 11 (.pick (t 8) (.const (.bool true)) (t 10))])
 (.cond (t 11)
 .skip
 (.exit 0)))
 (.block 1 (.seq (.ops false [o 12 (.mv (t 5)),o 13 (.bin .add (t 12) (ci 1)),o 5 (.mv (t 13))])
 (.seq (.ops false [o 14 (.mv (t 5)),o 15 (.bin .sub (ci 10) (t 14)),o 16 (.mv (t 0)),o 17 (.bin .rem (t 16) (ci 10)),o 18 (.bin .add (ci 48) (t 17)),o 19 (.conv .u8 (t 18)),o 20 (.iaddrA 10 1 (t 4) (t 15)),s (.store 1 (t 20) (t 19))])
 (.seq (.keep [0,2,4,5])
 (.ops false [o 21 (.mv (t 0)),o 22 (.bin .quo (t 21) (ci 10)),o 0 (.mv (t 22))])))))) (.keep [0,2,4,5])))))
 (.seq (.keep [2,4,5])
 (.seq (.ops false [o 23 (.loadN 10 (t 4)),o 24 (.mv (t 5)),s (.store 10 (t 2) (t 23)),o 3 (.mv (t 24))])
 .ret))))))⟩
def tab1:List (Nat × ADef):=[(n_order_Of,.code F_order_Of),
 (n_r13_Sound,.code F_r13_Sound),
 (n_reads_Front,.code F_reads_Front),
 (n_r03_Few,.code F_r03_Few),
 (n_slices_Clone_api_Txn_api_Txn,.code F_slices_Clone_api_Txn_api_Txn),
 (n_table_steps,.code F_table_steps),
 (n_prefix_Longest_int,.code F_prefix_Longest_int),
 (n_table_Table_Writer,.code F_table_Table_Writer),
 (n_r12_txn,.code F_r12_txn),
 (n_reads_unborn,.code F_reads_unborn),
 (n_r03_Ops,.code F_r03_Ops),
 (n_r04_earlier,.code F_r04_earlier),
 (n_encode_text,.code F_encode_text),
 (n_table_steps_c1,.code F_table_steps_c1),
 (n_prefix_apart_int,.code F_prefix_apart_int),
 (n_r12_ahead,.code F_r12_ahead),
 (n_r04_number,.code F_r04_number),
 (n_table_goes_table_Write_c1,.code F_table_goes_table_Write_c1),
 (n_sorted_Set_int_Or,.code F_sorted_Set_int_Or),
 (n_encode_may_c1,.code F_encode_may_c1),
 (n_l16_few,.code F_l16_few),
 (n_r15_Is,.code F_r15_Is),
 (n_reads_Kind,.code F_reads_Kind),
 (n_r13_Front,.code F_r13_Front),
 (n_r04_Check,.code F_r04_Check),
 (n_table_Table_put,.code F_table_Table_put),
 (n_table_Table_Writes,.code F_table_Table_Writes),
 (n_slices_Clone_int_int,.code F_slices_Clone_int_int),
 (n_r12_Writer,.code F_r12_Writer),
 (n_r12_Reads,.code F_r12_Reads),
 (n_reads_inner,.code F_reads_inner),
 (n_r04_may,.code F_r04_may),
 (n_r04_Text,.code F_r04_Text),
 (n_table_Table_is,.code F_table_Table_is),
 (n_sorted_Set_int_Has,.code F_sorted_Set_int_Has),
 (n_encode_may,.code F_encode_may),
 (n_table_goes_table_Read_c1,.code F_table_goes_table_Read_c1),
 (n_encode_line,.code F_encode_line),
 (n_cmp_Less_int,.code F_cmp_Less_int),
 (n_slices_isNaN_int,.code F_slices_isNaN_int),
 (n_l16_OrderWhole,.code F_l16_OrderWhole),
 (n_order_Clean,.code F_order_Clean),
 (n_r05_Of,.code F_r05_Of),
 (n_reads_Sound,.code F_reads_Sound),
 (n_sorted_Of_int,.code F_sorted_Of_int),
 (n_slices_DeleteFunc_int_int,.code F_slices_DeleteFunc_int_int),
 (n_reads_Sound_c1,.code F_reads_Sound_c1),
 (n_r04_mayOp,.code F_r04_mayOp),
 (n_history_Ops,.code F_history_Ops),
 (n_slices_Compact_int_int,.code F_slices_Compact_int_int),
 (n_table_goes_table_Write,.code F_table_goes_table_Write),
 (n_sorted_Set_int_With,.code F_sorted_Set_int_With),
 (n_encode_mayOp,.code F_encode_mayOp),
 (n_r01_Print,.code F_r01_Print),
 (n_slices_BinarySearch_int_int,.code F_slices_BinarySearch_int_int),
 (n_digits_may,.code F_digits_may),
 (n_table_New,.code F_table_New),
 (n_r01_Same,.code F_r01_Same),
 (n_r16_Clean,.code F_r16_Clean),
 (n_r12_Writes,.code F_r12_Writes),
 (n_r13_Kind,.code F_r13_Kind),
 (n_encode_Check,.code F_encode_Check),
 (n_cmp_Compare_int,.code F_cmp_Compare_int),
 (n_sorted_Set_int_List,.code F_sorted_Set_int_List),
 (n_r05_Has,.code F_r05_Has),
 (n_order_Clean_c1,.code F_order_Clean_c1),
 (n_prefix_Common_int,.code F_prefix_Common_int),
 (n_r12_IDs,.code F_r12_IDs),
 (n_reads_twice,.code F_reads_twice),
 (n_table_Table_Reads,.code F_table_Table_Reads),
 (n_r03_Appended,.code F_r03_Appended),
 (n_encode_parts,.code F_encode_parts),
 (n_cmp_isNaN_int,.code F_cmp_isNaN_int),
 (n_prefix_Fit_int,.code F_prefix_Fit_int),
 (n_slices_IndexFunc_int_int,.code F_slices_IndexFunc_int_int),
 (n_table_goes_table_Read,.code F_table_goes_table_Read),
 (n_encode_txn,.code F_encode_txn),
 (n_prefix_Is_int,.code F_prefix_Is_int),
 (n_sorted_Set_int_place,.code F_sorted_Set_int_place),
 (n_slices_ContainsFunc_int_int,.code F_slices_ContainsFunc_int_int),
 (n_digits_Print,.code F_digits_Print),
 (n_digits_text,.code F_digits_text),
 (n_slices_Sort_int_int,.oracle sortO),
 (n_slices_SortFunc_api_Txn_api_Txn,.oracle (sortXO n_table_New_c1)),
 (n_l16_works,.oracle (closedO (.bool true)))]
def prog1:AProg:=tabP tab1
theorem c_order_Of:prog1 n_order_Of=some (.code F_order_Of):=by kernel_rfl
theorem c_r13_Sound:prog1 n_r13_Sound=some (.code F_r13_Sound):=by kernel_rfl
theorem c_reads_Front:prog1 n_reads_Front=some (.code F_reads_Front):=by kernel_rfl
theorem c_r03_Few:prog1 n_r03_Few=some (.code F_r03_Few):=by kernel_rfl
theorem c_slices_Clone_api_Txn_api_Txn:prog1 n_slices_Clone_api_Txn_api_Txn=some (.code F_slices_Clone_api_Txn_api_Txn):=by kernel_rfl
theorem c_table_steps:prog1 n_table_steps=some (.code F_table_steps):=by kernel_rfl
theorem c_prefix_Longest_int:prog1 n_prefix_Longest_int=some (.code F_prefix_Longest_int):=by kernel_rfl
theorem c_table_Table_Writer:prog1 n_table_Table_Writer=some (.code F_table_Table_Writer):=by kernel_rfl
theorem c_r12_txn:prog1 n_r12_txn=some (.code F_r12_txn):=by kernel_rfl
theorem c_reads_unborn:prog1 n_reads_unborn=some (.code F_reads_unborn):=by kernel_rfl
theorem c_r03_Ops:prog1 n_r03_Ops=some (.code F_r03_Ops):=by kernel_rfl
theorem c_r04_earlier:prog1 n_r04_earlier=some (.code F_r04_earlier):=by kernel_rfl
theorem c_encode_text:prog1 n_encode_text=some (.code F_encode_text):=by kernel_rfl
theorem c_table_steps_c1:prog1 n_table_steps_c1=some (.code F_table_steps_c1):=by kernel_rfl
theorem c_prefix_apart_int:prog1 n_prefix_apart_int=some (.code F_prefix_apart_int):=by kernel_rfl
theorem c_r12_ahead:prog1 n_r12_ahead=some (.code F_r12_ahead):=by kernel_rfl
theorem c_r04_number:prog1 n_r04_number=some (.code F_r04_number):=by kernel_rfl
theorem c_table_goes_table_Write_c1:prog1 n_table_goes_table_Write_c1=some (.code F_table_goes_table_Write_c1):=by kernel_rfl
theorem c_sorted_Set_int_Or:prog1 n_sorted_Set_int_Or=some (.code F_sorted_Set_int_Or):=by kernel_rfl
theorem c_encode_may_c1:prog1 n_encode_may_c1=some (.code F_encode_may_c1):=by kernel_rfl
theorem c_l16_few:prog1 n_l16_few=some (.code F_l16_few):=by kernel_rfl
theorem c_r15_Is:prog1 n_r15_Is=some (.code F_r15_Is):=by kernel_rfl
theorem c_reads_Kind:prog1 n_reads_Kind=some (.code F_reads_Kind):=by kernel_rfl
theorem c_r13_Front:prog1 n_r13_Front=some (.code F_r13_Front):=by kernel_rfl
theorem c_r04_Check:prog1 n_r04_Check=some (.code F_r04_Check):=by kernel_rfl
theorem c_table_Table_put:prog1 n_table_Table_put=some (.code F_table_Table_put):=by kernel_rfl
theorem c_table_Table_Writes:prog1 n_table_Table_Writes=some (.code F_table_Table_Writes):=by kernel_rfl
theorem c_slices_Clone_int_int:prog1 n_slices_Clone_int_int=some (.code F_slices_Clone_int_int):=by kernel_rfl
theorem c_r12_Writer:prog1 n_r12_Writer=some (.code F_r12_Writer):=by kernel_rfl
theorem c_r12_Reads:prog1 n_r12_Reads=some (.code F_r12_Reads):=by kernel_rfl
theorem c_reads_inner:prog1 n_reads_inner=some (.code F_reads_inner):=by kernel_rfl
theorem c_r04_may:prog1 n_r04_may=some (.code F_r04_may):=by kernel_rfl
theorem c_r04_Text:prog1 n_r04_Text=some (.code F_r04_Text):=by kernel_rfl
theorem c_table_Table_is:prog1 n_table_Table_is=some (.code F_table_Table_is):=by kernel_rfl
theorem c_sorted_Set_int_Has:prog1 n_sorted_Set_int_Has=some (.code F_sorted_Set_int_Has):=by kernel_rfl
theorem c_encode_may:prog1 n_encode_may=some (.code F_encode_may):=by kernel_rfl
theorem c_table_goes_table_Read_c1:prog1 n_table_goes_table_Read_c1=some (.code F_table_goes_table_Read_c1):=by kernel_rfl
theorem c_encode_line:prog1 n_encode_line=some (.code F_encode_line):=by kernel_rfl
theorem c_cmp_Less_int:prog1 n_cmp_Less_int=some (.code F_cmp_Less_int):=by kernel_rfl
theorem c_slices_isNaN_int:prog1 n_slices_isNaN_int=some (.code F_slices_isNaN_int):=by kernel_rfl
theorem c_l16_OrderWhole:prog1 n_l16_OrderWhole=some (.code F_l16_OrderWhole):=by kernel_rfl
theorem c_order_Clean:prog1 n_order_Clean=some (.code F_order_Clean):=by kernel_rfl
theorem c_r05_Of:prog1 n_r05_Of=some (.code F_r05_Of):=by kernel_rfl
theorem c_reads_Sound:prog1 n_reads_Sound=some (.code F_reads_Sound):=by kernel_rfl
theorem c_sorted_Of_int:prog1 n_sorted_Of_int=some (.code F_sorted_Of_int):=by kernel_rfl
theorem c_slices_DeleteFunc_int_int:prog1 n_slices_DeleteFunc_int_int=some (.code F_slices_DeleteFunc_int_int):=by kernel_rfl
theorem c_reads_Sound_c1:prog1 n_reads_Sound_c1=some (.code F_reads_Sound_c1):=by kernel_rfl
theorem c_r04_mayOp:prog1 n_r04_mayOp=some (.code F_r04_mayOp):=by kernel_rfl
theorem c_history_Ops:prog1 n_history_Ops=some (.code F_history_Ops):=by kernel_rfl
theorem c_slices_Compact_int_int:prog1 n_slices_Compact_int_int=some (.code F_slices_Compact_int_int):=by kernel_rfl
theorem c_table_goes_table_Write:prog1 n_table_goes_table_Write=some (.code F_table_goes_table_Write):=by kernel_rfl
theorem c_sorted_Set_int_With:prog1 n_sorted_Set_int_With=some (.code F_sorted_Set_int_With):=by kernel_rfl
theorem c_encode_mayOp:prog1 n_encode_mayOp=some (.code F_encode_mayOp):=by kernel_rfl
theorem c_r01_Print:prog1 n_r01_Print=some (.code F_r01_Print):=by kernel_rfl
theorem c_slices_BinarySearch_int_int:prog1 n_slices_BinarySearch_int_int=some (.code F_slices_BinarySearch_int_int):=by kernel_rfl
theorem c_digits_may:prog1 n_digits_may=some (.code F_digits_may):=by kernel_rfl
theorem c_table_New:prog1 n_table_New=some (.code F_table_New):=by kernel_rfl
theorem c_r01_Same:prog1 n_r01_Same=some (.code F_r01_Same):=by kernel_rfl
theorem c_r16_Clean:prog1 n_r16_Clean=some (.code F_r16_Clean):=by kernel_rfl
theorem c_r12_Writes:prog1 n_r12_Writes=some (.code F_r12_Writes):=by kernel_rfl
theorem c_r13_Kind:prog1 n_r13_Kind=some (.code F_r13_Kind):=by kernel_rfl
theorem c_encode_Check:prog1 n_encode_Check=some (.code F_encode_Check):=by kernel_rfl
theorem c_cmp_Compare_int:prog1 n_cmp_Compare_int=some (.code F_cmp_Compare_int):=by kernel_rfl
theorem c_sorted_Set_int_List:prog1 n_sorted_Set_int_List=some (.code F_sorted_Set_int_List):=by kernel_rfl
theorem c_r05_Has:prog1 n_r05_Has=some (.code F_r05_Has):=by kernel_rfl
theorem c_order_Clean_c1:prog1 n_order_Clean_c1=some (.code F_order_Clean_c1):=by kernel_rfl
theorem c_prefix_Common_int:prog1 n_prefix_Common_int=some (.code F_prefix_Common_int):=by kernel_rfl
theorem c_r12_IDs:prog1 n_r12_IDs=some (.code F_r12_IDs):=by kernel_rfl
theorem c_reads_twice:prog1 n_reads_twice=some (.code F_reads_twice):=by kernel_rfl
theorem c_table_Table_Reads:prog1 n_table_Table_Reads=some (.code F_table_Table_Reads):=by kernel_rfl
theorem c_r03_Appended:prog1 n_r03_Appended=some (.code F_r03_Appended):=by kernel_rfl
theorem c_encode_parts:prog1 n_encode_parts=some (.code F_encode_parts):=by kernel_rfl
theorem c_cmp_isNaN_int:prog1 n_cmp_isNaN_int=some (.code F_cmp_isNaN_int):=by kernel_rfl
theorem c_prefix_Fit_int:prog1 n_prefix_Fit_int=some (.code F_prefix_Fit_int):=by kernel_rfl
theorem c_slices_IndexFunc_int_int:prog1 n_slices_IndexFunc_int_int=some (.code F_slices_IndexFunc_int_int):=by kernel_rfl
theorem c_table_goes_table_Read:prog1 n_table_goes_table_Read=some (.code F_table_goes_table_Read):=by kernel_rfl
theorem c_encode_txn:prog1 n_encode_txn=some (.code F_encode_txn):=by kernel_rfl
theorem c_prefix_Is_int:prog1 n_prefix_Is_int=some (.code F_prefix_Is_int):=by kernel_rfl
theorem c_sorted_Set_int_place:prog1 n_sorted_Set_int_place=some (.code F_sorted_Set_int_place):=by kernel_rfl
theorem c_slices_ContainsFunc_int_int:prog1 n_slices_ContainsFunc_int_int=some (.code F_slices_ContainsFunc_int_int):=by kernel_rfl
theorem c_digits_Print:prog1 n_digits_Print=some (.code F_digits_Print):=by kernel_rfl
theorem c_digits_text:prog1 n_digits_text=some (.code F_digits_text):=by kernel_rfl
theorem c_slices_Sort_int_int:prog1 n_slices_Sort_int_int=some (.oracle sortO):=by kernel_rfl
theorem c_slices_SortFunc_api_Txn_api_Txn:prog1 n_slices_SortFunc_api_Txn_api_Txn=some (.oracle (sortXO n_table_New_c1)):=by kernel_rfl
theorem c_l16_works:prog1 n_l16_works=some (.oracle (closedO (.bool true))):=by kernel_rfl
def tab0:List (Nat × ADef):=[(n_l16_works,.code F_l16_works),
 (n_order_Next,.code F_order_Next),
 (n_slices_Clone_int_int,.code F_slices_Clone_int_int),
 (n_r01_Same,.code F_r01_Same),
 (n_order_Find,.code F_order_Find),
 (n_prefix_Common_int,.code F_prefix_Common_int),
 (n_order_Clean,.code F_order_Clean),
 (n_slices_DeleteFunc_int_int,.code F_slices_DeleteFunc_int_int),
 (n_slices_IndexFunc_int_int,.code F_slices_IndexFunc_int_int),
 (n_order_Clean_c1,.code F_order_Clean_c1),
 (n_table_Table_Writer,.code F_table_Table_Writer),
 (n_table_Table_is,.code F_table_Table_is),
 (n_order_Of,.code F_order_Of),
 (n_table_Table_Writes,.code F_table_Table_Writes),
 (n_table_goes_table_Write,.code F_table_goes_table_Write),
 (n_table_goes_table_Write_c1,.code F_table_goes_table_Write_c1),
 (n_prefix_Longest_int,.code F_prefix_Longest_int),
 (n_prefix_apart_int,.code F_prefix_apart_int),
 (n_prefix_Fit_int,.code F_prefix_Fit_int),
 (n_prefix_Is_int,.code F_prefix_Is_int),
 (n_reads_Sound,.code F_reads_Sound),
 (n_reads_Sound_c1,.code F_reads_Sound_c1),
 (n_reads_Kind,.code F_reads_Kind),
 (n_reads_inner,.code F_reads_inner),
 (n_reads_Front,.code F_reads_Front),
 (n_reads_unborn,.code F_reads_unborn),
 (n_reads_twice,.code F_reads_twice),
 (n_sorted_Set_int_With,.code F_sorted_Set_int_With),
 (n_sorted_Set_int_Or,.code F_sorted_Set_int_Or),
 (n_cmp_Compare_int,.code F_cmp_Compare_int),
 (n_cmp_isNaN_int,.code F_cmp_isNaN_int),
 (n_sorted_Of_int,.code F_sorted_Of_int),
 (n_slices_Compact_int_int,.code F_slices_Compact_int_int),
 (n_sorted_Set_int_Has,.code F_sorted_Set_int_Has),
 (n_sorted_Set_int_place,.code F_sorted_Set_int_place),
 (n_slices_BinarySearch_int_int,.code F_slices_BinarySearch_int_int),
 (n_slices_isNaN_int,.code F_slices_isNaN_int),
 (n_cmp_Less_int,.code F_cmp_Less_int),
 (n_table_Table_Reads,.code F_table_Table_Reads),
 (n_table_goes_table_Read,.code F_table_goes_table_Read),
 (n_table_goes_table_Read_c1,.code F_table_goes_table_Read_c1),
 (n_table_Table_Keys,.code F_table_Table_Keys),
 (n_table_New,.code F_table_New),
 (n_sorted_Set_int_List,.code F_sorted_Set_int_List),
 (n_table_Table_put,.code F_table_Table_put),
 (n_table_steps,.code F_table_steps),
 (n_table_steps_c1,.code F_table_steps_c1),
 (n_table_New_c1,.code F_table_New_c1),
 (n_slices_Clone_api_Txn_api_Txn,.code F_slices_Clone_api_Txn_api_Txn),
 (n_encode_Check,.code F_encode_Check),
 (n_encode_text,.code F_encode_text),
 (n_encode_txn,.code F_encode_txn),
 (n_encode_line,.code F_encode_line),
 (n_digits_Print,.code F_digits_Print),
 (n_digits_text,.code F_digits_text),
 (n_digits_may,.code F_digits_may),
 (n_encode_parts,.code F_encode_parts),
 (n_encode_mayOp,.code F_encode_mayOp),
 (n_encode_may,.code F_encode_may),
 (n_encode_may_c1,.code F_encode_may_c1),
 (n_slices_ContainsFunc_int_int,.code F_slices_ContainsFunc_int_int),
 (n_history_Ops,.code F_history_Ops),
 (n_l16_one,.code F_l16_one),
 (n_slices_Sort_int_int,.oracle sortOI),
 (n_slices_SortFunc_api_Txn_api_Txn,.oracle (sortXO n_table_New_c1))]
end Go.AMS
