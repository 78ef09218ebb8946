/- The code of the functions that the law runs, as the abstract machine reads it. -/
import Derived.Test.YtdkgalkdcmajjaaAmSepP
import Derived.Test.YtdkgalkdcmajjaaAmSepO
import Derived.Test.YtdkgalkdcmajjaaAmSepK
import Derived.Test.YtdkgalkdcmajjaaAmSepB
import Derived.Test.YtdkgalkdcmajjaaAmSepT
import Derived.Test.YtdkgalkdcmajjaaAmSort
import Derived.Test.YtdkgalkdcmajjaaAmSortI
namespace Go.AMS
open Go.AM hiding Kt At WP WL Runs RunsY
open C
set_option maxRecDepth 100000
set_option linter.unusedVariables false
def n_l12_TableNone : Nat := 7
def n_l12_works : Nat := 11
def n_table_New : Nat := 12
def n_table_Table_Rank : Nat := 14
def n_r01_Same : Nat := 16
def n_table_Table_IDs : Nat := 17
def n_table_Table_Keys : Nat := 19
def n_table_Table_Writer : Nat := 21
def n_table_Table_Appends : Nat := 23
def n_table_Table_Reads : Nat := 25
def n_table_Table_Writes : Nat := 29
def n_l12_none : Nat := 31
def n_l12_one : Nat := 38
def n_encode_Check : Nat := 39
def n_slices_Clone_api_Txn_api_Txn : Nat := 40
def n_slices_SortFunc_api_Txn_api_Txn : Nat := 41
def n_table_New_c1 : Nat := 42
def n_cmp_Compare_int : Nat := 43
def n_table_steps : Nat := 44
def n_table_Table_put : Nat := 45
def n_sorted_Of_int : Nat := 46
def n_sorted_Set_int_List : Nat := 47
def n_table_Table_is : Nat := 54
def n_slices_BinarySearch_int_int : Nat := 55
def n_slices_Clone_int_int : Nat := 56
def n_table_goes_table_Read : Nat := 60
def n_table_goes_table_Write : Nat := 62
def n_history_Ops : Nat := 73
def n_encode_parts : Nat := 74
def n_encode_text : Nat := 75
def n_slices_pdqsortCmpFunc_api_Txn : Nat := 76
def n_math_bits_Len : Nat := 77
def n_cmp_isNaN_int : Nat := 78
def n_table_steps_c1 : Nat := 79
def n_slices_Sort_int_int : Nat := 80
def n_slices_Compact_int_int : Nat := 81
def n_cmp_Less_int : Nat := 83
def n_slices_isNaN_int : Nat := 84
def n_table_goes_table_Read_c1 : Nat := 86
def n_table_goes_table_Write_c1 : Nat := 87
def n_encode_may : Nat := 104
def n_encode_mayOp : Nat := 105
def n_encode_txn : Nat := 106
def n_slices_insertionSortCmpFunc_api_Txn : Nat := 107
def n_slices_heapSortCmpFunc_api_Txn : Nat := 108
def n_slices_breakPatternsCmpFunc_api_Txn : Nat := 109
def n_slices_choosePivotCmpFunc_api_Txn : Nat := 110
def n_slices_reverseRangeCmpFunc_api_Txn : Nat := 111
def n_slices_partialInsertionSortCmpFunc_api_Txn : Nat := 112
def n_slices_partitionEqualCmpFunc_api_Txn : Nat := 113
def n_slices_partitionCmpFunc_api_Txn : Nat := 114
def n_math_bits_Len32 : Nat := 115
def n_math_bits_Len64 : Nat := 116
def n_slices_ContainsFunc_int_int : Nat := 136
def n_encode_may_c1 : Nat := 137
def n_encode_line : Nat := 138
def n_slices_siftDownCmpFunc_api_Txn : Nat := 139
def n_slices_nextPowerOfTwo : Nat := 140
def n_slices_xorshift_Next : Nat := 141
def n_slices_medianAdjacentCmpFunc_api_Txn : Nat := 142
def n_slices_medianCmpFunc_api_Txn : Nat := 143
def n_slices_IndexFunc_int_int : Nat := 160
def n_digits_Print : Nat := 161
def n_slices_order2CmpFunc_api_Txn : Nat := 162
def n_digits_may : Nat := 172
def n_digits_text : Nat := 173
/-- coroner/table.New -/
def F_table_New : AFn := ⟨1, [.tmp 2, .tmp 3],
 (.seq (.ops false [o 1 (.box (t 0)), o 2 (.mv (.const (.pointer none))), o 3 (.mv (ci 0))])
 (.seq (.seq (.ops false [o 11 (.loadN 1 (t 1)), o 12 (.call (.func n_encode_Check) [(t 11)]), o 4 (.mv (t 12))])
 (.seq (.ops false [o 13 (.mv (t 4)), o 14 (.bin .neq (t 13) (ci 0))])
 (.cond (t 14)
 (.seq (.ops false [o 15 (.mv (t 4)), o 2 (.mv (.const (.pointer none))), o 3 (.mv (t 15))])
 .ret)
 .skip)))
 (.seq (.keep [1, 2, 3])
 (.seq (.ops false [o 16 (.mkmap), o 17 (.mkmap), o 18 (.mkmap), o 19 (.mkmap), o 20 (.build [(.bool false), (.slice none 0 0), (.slice none 0 0), (.map none), (.map none), (.map none), (.map none)] [(0, (1, (.const (.bool true)))), (3, (1, (t 16))), (4, (1, (t 17))), (5, (1, (t 18))), (6, (1, (t 19)))]), o 21 (.box (t 20)), o 5 (.alloc [(.pointer none)]), s (.store 1 (t 5) (t 21))])
 (.seq (.keep [1, 2, 3, 5])
 (.seq (.ops false [o 22 (.faddr 0 (t 1)), o 23 (.load1 (t 22)), o 24 (.call (.func n_slices_Clone_api_Txn_api_Txn) [(t 23)]), o 6 (.mv (t 24))])
 (.seq (.ops false [o 25 (.mv (t 6)), o 26 (.call (.func n_slices_SortFunc_api_Txn_api_Txn) [(t 25), (.func n_table_New_c1)])])
 (.seq (.seq (.ops false [o 27 (.mv (t 6)), o 28 (.len 1 (t 27)), o 29 (.mv (ci 0))])
 (.seq (.keep [2, 3, 5, 6, 27, 28, 29]) (.block 0 (.loop (.seq (.seq (.ops false [o 30 (.bin .lss (t 29) (t 28))])
 (.seq (.cond (t 30)
 .skip
 (.exit 0))
 (.seq (.block 1 (.seq (.ops false [o 31 (.iaddr 3 (t 27) (t 29)), o 32 (.loadN 3 (t 31)), o 8 (.alloc [(.int .i64 0), (.bool false), (.slice none 0 0)]), s (.store 3 (t 8) (t 32))])
 (.seq (.ops false [o 33 (.faddr 1 (t 8)), o 34 (.load1 (t 33)), o 35 (.un .not (t 34))])
 (.cond (t 35)
 (.opsK [(8, 5)] [] [o 36 (.load1 (t 5)), o 37 (.load1 (t 5)), o 38 (.nilc (t 37)), o 39 (.faddr 1 (t 38)), o 40 (.load1 (t 39)), o 41 (.faddr 0 (t 8)), o 42 (.load1 (t 41)), o 43 (.bslice 1 1 [(.int .i64 0)] [(0, (1, (t 42)))]), b 44 (.append 1 8 (t 40) (t 43)), o 45 (.nilc (t 36)), o 46 (.faddr 1 (t 45)), sb (.store 1 (t 46) (t 44))])
 .skip))))
 (.seq (.keep [2, 3, 5, 6, 27, 28, 29])
 (.ops false [o 47 (.bin .add (t 29) (ci 1)), o 29 (.mv (t 47))]))))) (.keep [2, 3, 5, 6, 27, 28, 29]))))))
 (.seq (.keep [2, 3, 5, 6])
 (.seq (.seq (.ops false [o 48 (.mv (t 6)), o 49 (.call (.func n_table_steps) [(t 48)])])
 (.block 2 (.rfun (t 49) [50, 51]
 (.seq (.ops false [o 9 (.alloc [(.int .i64 0), (.bool false), (.slice none 0 0)]), s (.store 3 (t 9) (t 50))])
 (.ops false [o 10 (.mv (t 51))]))
 (.block 3 (.seq (.opsK [(12, 5)] [] [o 52 (.load1 (t 5)), o 53 (.load1 (t 5)), o 54 (.nilc (t 53)), o 55 (.faddr 2 (t 54)), o 56 (.load1 (t 55)), o 57 (.faddr 2 (t 9)), o 58 (.load1 (t 57)), o 59 (.mv (t 10)), o 60 (.iaddr 4 (t 58) (t 59)), o 61 (.faddr 1 (t 60)), o 62 (.load1 (t 61)), o 63 (.bslice 1 1 [(.int .i64 0)] [(0, (1, (t 62)))]), b 64 (.append 1 8 (t 56) (t 63)), o 65 (.nilc (t 52)), o 66 (.faddr 2 (t 65)), sb (.store 1 (t 66) (t 64))])
 (.seq (.keep [5, 9, 10])
 (.ops true [o 67 (.load1 (t 5)), o 68 (.loadN 3 (t 9)), o 69 (.mv (t 10)), o 70 (.faddr 2 (t 9)), o 71 (.load1 (t 70)), o 72 (.mv (t 10)), o 73 (.iaddr 4 (t 71) (t 72)), o 74 (.loadN 4 (t 73)), b 75 (.call (.func n_table_Table_put) [(t 67), (t 68), (t 69), (t 74)])])))))))
 (.seq (.keep [5])
 (.seq (.ops true [o 76 (.load1 (t 5)), o 77 (.load1 (t 5)), o 78 (.nilc (t 77)), o 79 (.faddr 2 (t 78)), o 80 (.load1 (t 79)), o 81 (.call (.func n_sorted_Of_int) [(t 80)]), o 82 (.call (.func n_sorted_Set_int_List) [(t 81)]), b 83 (.nilc (t 76)), b 84 (.faddr 2 (t 83)), sb (.store 1 (t 84) (t 82))])
 (.seq (.keep [5])
 (.seq (.ops false [o 85 (.load1 (t 5)), o 2 (.mv (t 85)), o 3 (.mv (ci 0))])
 .ret))))))))))))))⟩
/-- (*coroner/table.Table).Writer -/
def F_table_Table_Writer : AFn := ⟨3, [.cellN 6 5, .tmp 7],
 (.seq (.ops false [o 6 (.alloc [(.int .i64 0), (.int .i64 0), (.int .i64 0), (.int .i64 0), (.bool false)]), o 7 (.mv (.const (.bool false)))])
 (.seq (.seq (.ops false [o 10 (.mv (t 0)), o 11 (.call (.func n_table_Table_is) [(t 10)]), o 12 (.un .not (t 11))])
 (.cond (t 12)
 (.seq (.ops false [o 13 (.build [(.int .i64 0), (.int .i64 0), (.int .i64 0), (.int .i64 0), (.bool false)] []), s (.store 5 (t 6) (t 13)), o 7 (.mv (.const (.bool false)))])
 .ret)
 .skip))
 (.seq (.ops false [o 15 (.mv (t 0)), o 16 (.nilc (t 15)), o 17 (.faddr 3 (t 16)), o 18 (.load1 (t 17)), o 19 (.mv (t 1)), o 20 (.mv (t 2)), o 21 (.build [(.int .i64 0), (.int .i64 0)] [(0, (1, (t 19))), (1, (1, (t 20)))]), o 22 (.lookup (.many [1, 1]) (.agg #[(.int .i64 0), (.int .i64 0), (.int .i64 0), (.int .i64 0), (.bool false)]) true (t 18) (t 21)), o 14 (.mv (t 22)), o 23 (.extract 0 (t 14)), o 24 (.extract 1 (t 14)), o 8 (.alloc [(.int .i64 0), (.int .i64 0), (.int .i64 0), (.int .i64 0), (.bool false)]), s (.store 5 (t 8) (t 23)), o 9 (.mv (t 24))])
 (.seq (.keep [6, 8, 9])
 (.seq (.ops false [o 25 (.loadN 5 (t 8)), o 26 (.mv (t 9)), s (.store 5 (t 6) (t 25)), o 7 (.mv (t 26))])
 .ret)))))⟩
/-- coroner/encode.Check -/
def F_encode_Check : AFn := ⟨1, [.tmp 2],
 (.seq (.ops false [o 1 (.box (t 0)), o 2 (.mv (ci 0))])
 (.seq (.seq (.ops false [o 4 (.faddr 0 (t 1)), o 5 (.load1 (t 4)), o 6 (.len 1 (t 5)), o 7 (.bin .gtr (t 6) (ci 1024)), o 8 (.mv (t 7)), ⟨(some 9), .loadN 1 (t 1), some (8, false), false⟩, ⟨(some 10), .call (.func n_history_Ops) [(t 9)], some (8, false), false⟩, ⟨(some 11), .bin .gtr (t 10) (ci 4096), some (8, false), false⟩, o 12 (.pick (t 8) (.const (.bool true)) (t 11))])
 (.seq (.keep [1, 12])
 (.cond (t 12)
 (.seq (.ops false [o 2 (.mv (ci 3))])
 .ret)
 .skip)))
 (.seq (.keep [1])
 (.seq (.seq (.ops false [o 13 (.loadN 1 (t 1)), o 14 (.call (.func n_encode_parts) [(t 13)]), o 3 (.mv (t 14))])
 (.seq (.ops false [o 15 (.mv (t 3)), o 16 (.bin .neq (t 15) (ci 0))])
 (.cond (t 16)
 (.seq (.ops false [o 17 (.mv (t 3)), o 2 (.mv (t 17))])
 .ret)
 .skip)))
 (.seq (.keep [1])
 (.seq (.seq (.ops false [o 18 (.loadN 1 (t 1)), o 19 (.call (.func n_encode_text) [(t 18)]), o 20 (.len 1 (t 19)), o 21 (.bin .gtr (t 20) (ci 262144))])
 (.cond (t 21)
 (.seq (.ops false [o 2 (.mv (ci 3))])
 .ret)
 .skip))
 (.seq (.ops false [o 2 (.mv (ci 0))])
 .ret)))))))⟩
/-- coroner/table.New$1 -/
def F_table_New_c1 : AFn := ⟨2, [.tmp 4],
 (.seq (.ops false [o 2 (.box (t 0)), o 3 (.box (t 1)), o 4 (.mv (ci 0))])
 (.seq (.ops false [o 5 (.faddr 0 (t 2)), o 6 (.load1 (t 5)), o 7 (.faddr 0 (t 3)), o 8 (.load1 (t 7)), o 9 (.call (.func n_cmp_Compare_int) [(t 6), (t 8)]), o 4 (.mv (t 9))])
 .ret))⟩
/-- (*coroner/table.Table).put -/
def F_table_Table_put : AFn := ⟨4, [],
 (.seq (.ops false [o 5 (.box (t 1)), o 7 (.box (t 3))])
 (.seq (.ops false [o 10 (.faddr 0 (t 5)), o 11 (.load1 (t 10)), o 12 (.faddr 1 (t 7)), o 13 (.load1 (t 12)), o 14 (.build [(.int .i64 0), (.int .i64 0)] [(0, (1, (t 11))), (1, (1, (t 13)))]), o 8 (.alloc [(.int .i64 0), (.int .i64 0)]), s (.store 2 (t 8) (t 14))])
 (.seq (.keep [0, 2, 5, 7, 8])
 (.seq (.seq (.ops false [o 15 (.faddr 0 (t 7)), o 16 (.load1 (t 15))])
 (.cond (t 16)
 (.seq (.seq (.ops false [o 17 (.faddr 1 (t 5)), o 18 (.load1 (t 17)), o 19 (.un .not (t 18))])
 (.cond (t 19)
 (.opsK [(29, 22), (29, 24)] [] (o 20 (.mv (t 0)) :: o 21 (.nilc (t 20)) :: o 22 (.faddr 5 (t 21)) :: o 23 (.load1 (t 22)) :: o 24 (.faddr 1 (t 7)) :: o 25 (.load1 (t 24)) :: o 26 (.mv (t 0)) :: o 27 (.nilc (t 26)) :: o 28 (.faddr 5 (t 27)) :: o 29 (.load1 (t 28)) :: o 30 (.faddr 1 (t 7)) :: o 31 (.load1 (t 30)) :: o 32 (.lookup (.one 1) (.slice none 0 0) false (t 29) (t 31)) :: o 33 (.faddr 0 (t 5)) :: o 34 (.load1 (t 33)) :: o 35 (.mv (t 2)) :: o 36 (.faddr 1 (t 7)) :: o 37 (.load1 (t 36)) :: o 38 (.faddr 3 (t 7)) :: o 39 (.load1 (t 38)) :: o 40 (.mv (t 0)) :: o 41 (.nilc (t 40)) :: o 42 (.faddr 4 (t 41)) :: o 43 (.load1 (t 42)) :: o 44 (.loadN 2 (t 8)) :: o 45 (.lookup (.many [1, 1]) (.slice none 0 0) false (t 43) (t 44)) :: o 46 (.call (.func n_slices_Clone_int_int) [(t 45)]) :: o 47 (.build [(.int .i64 0), (.int .i64 0), (.int .i64 0), (.slice none 0 0), (.slice none 0 0)] [(0, (1, (t 34))), (1, (1, (t 35))), (2, (1, (t 37))), (3, (1, (t 39))), (4, (1, (t 46)))]) :: o 48 (.bslice 5 1 [(.int .i64 0), (.int .i64 0), (.int .i64 0), (.slice none 0 0), (.slice none 0 0)] [(0, (5, (t 47)))]) :: b 49 (.append 5 72 (t 32) (t 48)) :: sb (.mapupd (.one 1) (t 23) (t 25) (t 49)) :: []))
 .skip))
 (.seq (.keep [])
 .ret))
 .skip))
 (.seq (.keep [0, 2, 5, 7, 8])
 (.seq (.ops false [o 50 (.faddr 0 (t 5)), o 51 (.load1 (t 50)), o 52 (.mv (t 2)), o 53 (.faddr 1 (t 7)), o 54 (.load1 (t 53)), o 55 (.faddr 2 (t 7)), o 56 (.load1 (t 55)), o 57 (.faddr 1 (t 5)), o 58 (.load1 (t 57)), o 59 (.build [(.int .i64 0), (.int .i64 0), (.int .i64 0), (.int .i64 0), (.bool false)] [(0, (1, (t 51))), (1, (1, (t 52))), (2, (1, (t 54))), (3, (1, (t 56))), (4, (1, (t 58)))]), o 9 (.alloc [(.int .i64 0), (.int .i64 0), (.int .i64 0), (.int .i64 0), (.bool false)]), s (.store 5 (t 9) (t 59))])
 (.seq (.keep [0, 5, 7, 8, 9])
 (.seq (.ops true [o 60 (.mv (t 0)), o 61 (.nilc (t 60)), o 62 (.faddr 3 (t 61)), o 63 (.load1 (t 62)), o 64 (.faddr 1 (t 7)), o 65 (.load1 (t 64)), o 66 (.faddr 2 (t 7)), o 67 (.load1 (t 66)), o 68 (.build [(.int .i64 0), (.int .i64 0)] [(0, (1, (t 65))), (1, (1, (t 67)))]), o 69 (.loadN 5 (t 9)), sb (.mapupd (.many [1, 1]) (t 63) (t 68) (t 69))])
 (.seq (.keep [0, 5, 7, 8, 9])
 (.seq (.opsK [] [] [o 70 (.mv (t 0)), o 71 (.nilc (t 70)), o 72 (.faddr 4 (t 71)), o 73 (.load1 (t 72)), o 74 (.loadN 2 (t 8)), o 76 (.faddr 2 (t 7)), o 77 (.load1 (t 76)), o 78 (.bslice 1 1 [(.int .i64 0)] [(0, (1, (t 77)))]), b 79 (.mapent (.many [1, 1]) (.slice none 0 0) (t 73) (t 74)), o 75 (.extract 0 (t 79)), b 80 (.append 1 8 (t 75) (t 78)), o 81 (.extract 1 (t 79)), sb (.entst (t 73) (t 81) (t 80))])
 (.seq (.keep [0, 5, 7, 9])
 (.seq (.ops false [o 82 (.faddr 1 (t 5)), o 83 (.load1 (t 82)), o 84 (.un .not (t 83))])
 (.cond (t 84)
 (.opsK [(15, 87), (15, 89)] [] [o 85 (.mv (t 0)), o 86 (.nilc (t 85)), o 87 (.faddr 6 (t 86)), o 88 (.load1 (t 87)), o 89 (.faddr 1 (t 7)), o 90 (.load1 (t 89)), o 91 (.mv (t 0)), o 92 (.nilc (t 91)), o 93 (.faddr 6 (t 92)), o 94 (.load1 (t 93)), o 95 (.faddr 1 (t 7)), o 96 (.load1 (t 95)), o 97 (.lookup (.one 1) (.slice none 0 0) false (t 94) (t 96)), o 98 (.loadN 5 (t 9)), o 99 (.bslice 5 1 [(.int .i64 0), (.int .i64 0), (.int .i64 0), (.int .i64 0), (.bool false)] [(0, (5, (t 98)))]), b 100 (.append 5 40 (t 97) (t 99)), sb (.mapupd (.one 1) (t 88) (t 90) (t 100))])
 .skip)))))))))))))⟩
/-- (*coroner/table.Table).is -/
def F_table_Table_is : AFn := ⟨1, [.tmp 2],
 (.seq (.ops false [o 2 (.mv (.const (.bool false)))])
 (.seq (.ops false [o 3 (.mv (t 0)), o 4 (.eqv 1 true (t 3) (.const (.pointer none))), o 5 (.mv (t 4)), ⟨(some 6), .mv (t 0), some (5, true), false⟩, ⟨(some 7), .nilc (t 6), some (5, true), false⟩, ⟨(some 8), .faddr 0 (t 7), some (5, true), false⟩, ⟨(some 9), .load1 (t 8), some (5, true), false⟩, o 10 (.pick (t 5) (t 9) (.const (.bool false))), o 2 (.mv (t 10))])
 (.seq (.keep [2])
 .ret)))⟩
/-- coroner/table.goes[coroner/table.Read] -/
def F_table_goes_table_Read : AFn := ⟨1, [.tmp 2],
 (.seq (.ops false [o 1 (.box (t 0)), o 2 (.mv (.const .nilFunc))])
 (.seq (.ops false [o 3 (.mkf n_table_goes_table_Read_c1 [] [(t 1)]), o 2 (.mv (t 3))])
 .ret))⟩
/-- coroner/encode.text -/
def F_encode_text : AFn := ⟨1, [.tmp 2],
 (.seq (.ops false [o 1 (.box (t 0)), o 2 (.mv (.const (.slice none 0 0)))])
 (.seq (.ops false [o 3 (.mv (.const (.slice none 0 0)))])
 (.seq (.seq (.ops false [o 6 (.faddr 0 (t 1)), o 7 (.load1 (t 6)), o 8 (.len 1 (t 7)), o 9 (.mv (ci 0))])
 (.seq (.keep [3, 7, 8, 9]) (.block 0 (.loop (.seq (.seq (.ops false [o 10 (.bin .lss (t 9) (t 8))])
 (.seq (.cond (t 10)
 .skip
 (.exit 0))
 (.seq (.block 1 (.seq (.ops false [o 11 (.iaddr 3 (t 7) (t 9)), o 12 (.loadN 3 (t 11)), o 5 (.alloc [(.int .i64 0), (.bool false), (.slice none 0 0)]), s (.store 3 (t 5) (t 12))])
 (.ops false [o 13 (.mv (t 3)), o 14 (.loadN 3 (t 5)), o 15 (.call (.func n_encode_txn) [(t 14)]), o 16 (.append 1 1 (t 13) (t 15)), o 3 (.mv (t 16))])))
 (.seq (.keep [3, 7, 8, 9])
 (.ops false [o 17 (.bin .add (t 9) (ci 1)), o 9 (.mv (t 17))]))))) (.keep [3, 7, 8, 9]))))))
 (.seq (.keep [3])
 (.seq (.ops false [o 18 (.mv (t 3)), o 2 (.mv (t 18))])
 .ret)))))⟩
/-- cmp.isNaN[int] -/
def F_cmp_isNaN_int : AFn := ⟨1, [.tmp 2],
 (.seq (.ops false [o 2 (.mv (.const (.bool false)))])
 (.seq (.ops false [o 3 (.mv (t 0)), o 4 (.mv (t 0)), o 5 (.bin .neq (t 3) (t 4)), o 2 (.mv (t 5))])
 .ret))⟩
/-- slices.Compact[[]int,int] -/
def F_slices_Compact_int_int : AFn := ⟨1, [.tmp 2],
 (.seq (.ops false [o 2 (.mv (.const (.slice none 0 0)))])
 (.seq (.seq (.ops false [o 6 (.mv (t 0)), o 7 (.len 1 (t 6)), o 8 (.bin .lss (t 7) (ci 2))])
 (.cond (t 8)
 (.seq (.ops false [o 9 (.mv (t 0)), o 2 (.mv (t 9))])
 .ret)
 .skip))
 (.seq (.seq (.ops false [o 3 (.mv (ci 1))])
 (.seq (.keep [0, 3]) (.block 0 (.loop (.seq (.seq (.seq (.ops false [o 10 (.mv (t 3)), o 11 (.mv (t 0)), o 12 (.len 1 (t 11)), o 13 (.bin .lss (t 10) (t 12))])
 (.cond (t 13)
 .skip
 (.exit 0)))
 (.seq (.block 1 (.seq (.ops true [o 16 (.mv (t 0)), o 17 (.mv (t 3)), o 18 (.iaddr 1 (t 16) (t 17)), o 19 (.load1 (t 18)), o 20 (.mv (t 0)), o 21 (.mv (t 3)), o 22 (.bin .sub (t 21) (ci 1)), o 23 (.iaddr 1 (t 20) (t 22)), o 24 (.load1 (t 23)), b 25 (.bin .eql (t 19) (t 24))])
 (.seq (.keep [0, 3, 25])
 (.cond (t 25)
 (.seq (.ops false [o 26 (.mv (t 0)), o 27 (.mv (t 3)), o 28 (.slc 1 (t 26) (some (t 27)) none), o 4 (.mv (t 28))])
 (.seq (.seq (.ops false [o 5 (.mv (ci 1))])
 (.seq (.keep [0, 3, 4, 5]) (.block 2 (.loop (.seq (.seq (.seq (.ops false [o 29 (.mv (t 5)), o 30 (.mv (t 4)), o 31 (.len 1 (t 30)), o 32 (.bin .lss (t 29) (t 31))])
 (.cond (t 32)
 .skip
 (.exit 2)))
 (.seq (.block 3 (.seq (.ops true [o 35 (.mv (t 4)), o 36 (.mv (t 5)), o 37 (.iaddr 1 (t 35) (t 36)), o 38 (.load1 (t 37)), o 39 (.mv (t 4)), o 40 (.mv (t 5)), o 41 (.bin .sub (t 40) (ci 1)), o 42 (.iaddr 1 (t 39) (t 41)), o 43 (.load1 (t 42)), b 44 (.bin .neq (t 38) (t 43))])
 (.seq (.keep [0, 3, 4, 5, 44])
 (.cond (t 44)
 (.seq (.ops false [o 45 (.mv (t 0)), o 46 (.mv (t 3)), o 47 (.mv (t 4)), o 48 (.mv (t 5)), o 49 (.iaddr 1 (t 47) (t 48)), o 50 (.load1 (t 49)), o 51 (.iaddr 1 (t 45) (t 46)), s (.store 1 (t 51) (t 50))])
 (.seq (.keep [0, 3, 4, 5])
 (.ops false [o 52 (.mv (t 3)), o 53 (.bin .add (t 52) (ci 1)), o 3 (.mv (t 53))])))
 .skip))))
 (.seq (.keep [0, 3, 4, 5])
 (.ops false [o 33 (.mv (t 5)), o 34 (.bin .add (t 33) (ci 1)), o 5 (.mv (t 34))])))) (.keep [0, 3, 4, 5]))))))
 (.seq (.keep [0, 3])
 (.seq (.ops false [o 54 (.mv (t 0)), o 55 (.mv (t 3)), o 56 (.slc 1 (t 54) (some (t 55)) none), s (.clear [(.int .i64 0)] (t 56))])
 (.seq (.ops false [o 57 (.mv (t 0)), o 58 (.mv (t 3)), o 59 (.slc 1 (t 57) none (some (t 58))), o 2 (.mv (t 59))])
 .ret)))))
 .skip))))
 (.seq (.keep [0, 3])
 (.ops false [o 14 (.mv (t 3)), o 15 (.bin .add (t 14) (ci 1)), o 3 (.mv (t 15))])))) (.keep [0, 3]))))))
 (.seq (.keep [0])
 (.seq (.ops false [o 60 (.mv (t 0)), o 2 (.mv (t 60))])
 .ret)))))⟩
/-- slices.isNaN[int] -/
def F_slices_isNaN_int : AFn := ⟨1, [.tmp 2],
 (.seq (.ops false [o 2 (.mv (.const (.bool false)))])
 (.seq (.ops false [o 3 (.mv (t 0)), o 4 (.mv (t 0)), o 5 (.bin .neq (t 3) (t 4)), o 2 (.mv (t 5))])
 .ret))⟩
/-- coroner/table.goes[coroner/table.Write]$1 -/
def F_table_goes_table_Write_c1 : AFn := ⟨2, [],
 (.seq (.ops false [o 5 (.load1 (t 1)), o 6 (.len 1 (t 5)), o 7 (.mv (ci 0))])
 (.seq (.keep [0, 5, 6, 7]) (.block 0 (.loop (.seq (.seq (.ops false [o 8 (.bin .lss (t 7) (t 6))])
 (.seq (.cond (t 8)
 .skip
 (.exit 0))
 (.seq (.block 1 (.seq (.ops false [o 9 (.iaddr 5 (t 5) (t 7)), o 10 (.loadN 5 (t 9)), o 4 (.alloc [(.int .i64 0), (.int .i64 0), (.int .i64 0), (.int .i64 0), (.bool false)]), s (.store 5 (t 4) (t 10))])
 (.seq (.ops false [o 11 (.mv (t 0)), o 12 (.loadN 5 (t 4)), o 13 (.call (t 11) [(t 12)]), o 14 (.un .not (t 13))])
 (.cond (t 14)
 .ret
 .skip))))
 (.seq (.keep [0, 5, 6, 7])
 (.ops false [o 15 (.bin .add (t 7) (ci 1)), o 7 (.mv (t 15))]))))) (.keep [0, 5, 6, 7]))))))⟩
/-- coroner/encode.mayOp -/
def F_encode_mayOp : AFn := ⟨1, [.tmp 2],
 (.seq (.ops false [o 1 (.box (t 0)), o 2 (.mv (.const (.bool false)))])
 (.seq (.seq (.ops false [o 3 (.faddr 0 (t 1)), o 4 (.load1 (t 3))])
 (.cond (t 4)
 (.seq (.ops false [o 5 (.faddr 1 (t 1)), o 6 (.load1 (t 5)), o 7 (.bslice 1 1 [(.int .i64 0)] [(0, (1, (t 6)))]), o 8 (.call (.func n_encode_may) [(t 7)]), o 9 (.mv (t 8)), ⟨(some 10), .faddr 2 (t 1), some (9, true), false⟩, ⟨(some 11), .load1 (t 10), some (9, true), false⟩, ⟨(some 12), .bin .eql (t 11) (ci 0), some (9, true), false⟩, o 13 (.pick (t 9) (t 12) (.const (.bool false))), o 14 (.mv (t 13)), ⟨(some 15), .faddr 3 (t 1), some (14, true), false⟩, ⟨(some 16), .load1 (t 15), some (14, true), false⟩, ⟨(some 17), .call (.func n_encode_may) [(t 16)], some (14, true), false⟩, o 18 (.pick (t 14) (t 17) (.const (.bool false))), o 2 (.mv (t 18))])
 (.seq (.keep [2])
 .ret))
 .skip))
 (.seq (.keep [1])
 (.seq (.ops false [o 19 (.faddr 1 (t 1)), o 20 (.load1 (t 19)), o 21 (.faddr 2 (t 1)), o 22 (.load1 (t 21)), o 23 (.bslice 1 2 [(.int .i64 0), (.int .i64 0)] [(0, (1, (t 20))), (1, (1, (t 22)))]), o 24 (.call (.func n_encode_may) [(t 23)]), o 25 (.mv (t 24)), ⟨(some 26), .faddr 3 (t 1), some (25, true), false⟩, ⟨(some 27), .load1 (t 26), some (25, true), false⟩, ⟨(some 28), .len 1 (t 27), some (25, true), false⟩, ⟨(some 29), .bin .eql (t 28) (ci 0), some (25, true), false⟩, o 30 (.pick (t 25) (t 29) (.const (.bool false))), o 2 (.mv (t 30))])
 (.seq (.keep [2])
 .ret)))))⟩
/-- slices.heapSortCmpFunc[coroner/api.Txn] -/
def F_slices_heapSortCmpFunc_api_Txn : AFn := ⟨4, [],
 (.seq (.ops false [o 13 (.mv (t 1)), o 8 (.mv (t 13))])
 (.seq (.ops false [o 9 (.mv (ci 0))])
 (.seq (.ops false [o 14 (.mv (t 2)), o 15 (.mv (t 1)), o 16 (.bin .sub (t 14) (t 15)), o 10 (.mv (t 16))])
 (.seq (.seq (.ops false [o 17 (.mv (t 10)), o 18 (.bin .sub (t 17) (ci 1)), o 19 (.bin .quo (t 18) (ci 2)), o 11 (.mv (t 19))])
 (.seq (.keep [0, 3, 8, 9, 10, 11]) (.block 0 (.loop (.seq (.seq (.seq (.ops false [o 20 (.mv (t 11)), o 21 (.bin .geq (t 20) (ci 0))])
 (.cond (t 21)
 .skip
 (.exit 0)))
 (.seq (.block 1 (.ops false [o 24 (.mv (t 0)), o 25 (.mv (t 11)), o 26 (.mv (t 10)), o 27 (.mv (t 8)), o 28 (.mv (t 3)), o 29 (.call (.func n_slices_siftDownCmpFunc_api_Txn) [(t 24), (t 25), (t 26), (t 27), (t 28)])]))
 (.ops false [o 22 (.mv (t 11)), o 23 (.bin .sub (t 22) (ci 1)), o 11 (.mv (t 23))]))) (.keep [0, 3, 8, 9, 10, 11]))))))
 (.seq (.keep [0, 3, 8, 9, 10])
 (.seq (.ops false [o 30 (.mv (t 10)), o 31 (.bin .sub (t 30) (ci 1)), o 12 (.mv (t 31))])
 (.seq (.keep [0, 3, 8, 9, 12]) (.block 2 (.loop (.seq (.seq (.seq (.ops false [o 32 (.mv (t 12)), o 33 (.bin .geq (t 32) (ci 0))])
 (.cond (t 33)
 .skip
 (.exit 2)))
 (.seq (.block 3 (.seq (.opsA [] [o 36 (.mv (t 0)), o 37 (.mv (t 8)), o 38 (.mv (t 0)), o 39 (.mv (t 8)), o 40 (.mv (t 12)), o 41 (.bin .add (t 39) (t 40)), o 42 (.mv (t 0)), o 43 (.mv (t 8)), o 44 (.mv (t 12)), o 45 (.bin .add (t 43) (t 44)), o 46 (.iaddr 3 (t 42) (t 45)), o 47 (.loadN 3 (t 46)), o 48 (.mv (t 0)), o 49 (.mv (t 8)), o 50 (.iaddr 3 (t 48) (t 49)), o 51 (.loadN 3 (t 50)), o 52 (.iaddr 3 (t 36) (t 37)), sb (.store 3 (t 52) (t 47)), o 53 (.iaddr 3 (t 38) (t 41)), sb (.store 3 (t 53) (t 51))])
 (.seq (.keep [0, 3, 8, 9, 12])
 (.ops false [o 54 (.mv (t 0)), o 55 (.mv (t 9)), o 56 (.mv (t 12)), o 57 (.mv (t 8)), o 58 (.mv (t 3)), o 59 (.call (.func n_slices_siftDownCmpFunc_api_Txn) [(t 54), (t 55), (t 56), (t 57), (t 58)])]))))
 (.seq (.keep [0, 3, 8, 9, 12])
 (.ops false [o 34 (.mv (t 12)), o 35 (.bin .sub (t 34) (ci 1)), o 12 (.mv (t 35))])))) (.keep [0, 3, 8, 9, 12])))))))))))⟩
/-- slices.reverseRangeCmpFunc[coroner/api.Txn] -/
def F_slices_reverseRangeCmpFunc_api_Txn : AFn := ⟨4, [],
 (.seq (.ops false [o 10 (.mv (t 1)), o 8 (.mv (t 10))])
 (.seq (.ops false [o 11 (.mv (t 2)), o 12 (.bin .sub (t 11) (ci 1)), o 9 (.mv (t 12))])
 (.seq (.keep [0, 8, 9]) (.block 0 (.loop (.seq (.seq (.seq (.ops false [o 13 (.mv (t 8)), o 14 (.mv (t 9)), o 15 (.bin .lss (t 13) (t 14))])
 (.cond (t 15)
 .skip
 (.exit 0)))
 (.block 1 (.seq (.opsA [] [o 16 (.mv (t 0)), o 17 (.mv (t 8)), o 18 (.mv (t 0)), o 19 (.mv (t 9)), o 20 (.mv (t 0)), o 21 (.mv (t 9)), o 22 (.iaddr 3 (t 20) (t 21)), o 23 (.loadN 3 (t 22)), o 24 (.mv (t 0)), o 25 (.mv (t 8)), o 26 (.iaddr 3 (t 24) (t 25)), o 27 (.loadN 3 (t 26)), o 28 (.iaddr 3 (t 16) (t 17)), sb (.store 3 (t 28) (t 23)), o 29 (.iaddr 3 (t 18) (t 19)), sb (.store 3 (t 29) (t 27))])
 (.seq (.keep [0, 8, 9])
 (.seq (.ops false [o 30 (.mv (t 8)), o 31 (.bin .add (t 30) (ci 1)), o 8 (.mv (t 31))])
 (.ops false [o 32 (.mv (t 9)), o 33 (.bin .sub (t 32) (ci 1)), o 9 (.mv (t 33))])))))) (.keep [0, 8, 9])))))))⟩
/-- slices.partitionCmpFunc[coroner/api.Txn] -/
def F_slices_partitionCmpFunc_api_Txn : AFn := ⟨5, [.tmp 10, .tmp 11],
 (.seq (.ops false [o 10 (.mv (ci 0)), o 11 (.mv (.const (.bool false)))])
 (.seq (.opsA [] [o 14 (.mv (t 0)), o 15 (.mv (t 1)), o 16 (.mv (t 0)), o 17 (.mv (t 3)), o 18 (.mv (t 0)), o 19 (.mv (t 3)), o 20 (.iaddr 3 (t 18) (t 19)), o 21 (.loadN 3 (t 20)), o 22 (.mv (t 0)), o 23 (.mv (t 1)), o 24 (.iaddr 3 (t 22) (t 23)), o 25 (.loadN 3 (t 24)), o 26 (.iaddr 3 (t 14) (t 15)), sb (.store 3 (t 26) (t 21)), o 27 (.iaddr 3 (t 16) (t 17)), sb (.store 3 (t 27) (t 25))])
 (.seq (.keep [0, 1, 2, 4])
 (.seq (.ops false [o 28 (.mv (t 1)), o 29 (.bin .add (t 28) (ci 1)), o 30 (.mv (t 2)), o 31 (.bin .sub (t 30) (ci 1)), o 12 (.mv (t 29)), o 13 (.mv (t 31))])
 (.seq (.seq (.keep [0, 1, 4, 12, 13]) (.block 0 (.loop (.seq (.seq (.seq (.ops true [o 32 (.mv (t 12)), o 33 (.mv (t 13)), b 34 (.bin .leq (t 32) (t 33)), b 35 (.mv (t 34)), ⟨(some 36), .mv (t 4), some (35, true), false⟩, ⟨(some 37), .mv (t 0), some (35, true), false⟩, ⟨(some 38), .mv (t 12), some (35, true), false⟩, ⟨(some 39), .iaddr 3 (t 37) (t 38), some (35, true), false⟩, ⟨(some 40), .loadN 3 (t 39), some (35, true), false⟩, ⟨(some 41), .mv (t 0), some (35, true), false⟩, ⟨(some 42), .mv (t 1), some (35, true), false⟩, ⟨(some 43), .iaddr 3 (t 41) (t 42), some (35, true), false⟩, ⟨(some 44), .loadN 3 (t 43), some (35, true), false⟩, ⟨(some 45), .call (t 36) [(t 40), (t 44)], some (35, true), true⟩, ⟨(some 46), .bin .lss (t 45) (ci 0), some (35, true), true⟩, b 47 (.pick (t 35) (t 46) (.const (.bool false)))])
 (.seq (.keep [0, 1, 4, 12, 13, 47])
 (.cond (t 47)
 .skip
 (.exit 0))))
 (.seq (.keep [0, 1, 4, 12, 13])
 (.block 1 (.ops false [o 48 (.mv (t 12)), o 49 (.bin .add (t 48) (ci 1)), o 12 (.mv (t 49))])))) (.keep [0, 1, 4, 12, 13])))))
 (.seq (.keep [0, 1, 4, 12, 13])
 (.seq (.seq (.keep [0, 1, 4, 12, 13]) (.block 2 (.loop (.seq (.seq (.seq (.ops true [o 50 (.mv (t 12)), o 51 (.mv (t 13)), b 52 (.bin .leq (t 50) (t 51)), b 53 (.mv (t 52)), ⟨(some 54), .mv (t 4), some (53, true), false⟩, ⟨(some 55), .mv (t 0), some (53, true), false⟩, ⟨(some 56), .mv (t 13), some (53, true), false⟩, ⟨(some 57), .iaddr 3 (t 55) (t 56), some (53, true), false⟩, ⟨(some 58), .loadN 3 (t 57), some (53, true), false⟩, ⟨(some 59), .mv (t 0), some (53, true), false⟩, ⟨(some 60), .mv (t 1), some (53, true), false⟩, ⟨(some 61), .iaddr 3 (t 59) (t 60), some (53, true), false⟩, ⟨(some 62), .loadN 3 (t 61), some (53, true), false⟩, ⟨(some 63), .call (t 54) [(t 58), (t 62)], some (53, true), true⟩, ⟨(some 64), .bin .lss (t 63) (ci 0), some (53, true), true⟩, ⟨(some 65), .un .not (t 64), some (53, true), true⟩, b 66 (.pick (t 53) (t 65) (.const (.bool false)))])
 (.seq (.keep [0, 1, 4, 12, 13, 66])
 (.cond (t 66)
 .skip
 (.exit 2))))
 (.seq (.keep [0, 1, 4, 12, 13])
 (.block 3 (.ops false [o 67 (.mv (t 13)), o 68 (.bin .sub (t 67) (ci 1)), o 13 (.mv (t 68))])))) (.keep [0, 1, 4, 12, 13])))))
 (.seq (.keep [0, 1, 4, 12, 13])
 (.seq (.seq (.ops false [o 69 (.mv (t 12)), o 70 (.mv (t 13)), o 71 (.bin .gtr (t 69) (t 70))])
 (.cond (t 71)
 (.seq (.opsA [] [o 72 (.mv (t 0)), o 73 (.mv (t 13)), o 74 (.mv (t 0)), o 75 (.mv (t 1)), o 76 (.mv (t 0)), o 77 (.mv (t 1)), o 78 (.iaddr 3 (t 76) (t 77)), o 79 (.loadN 3 (t 78)), o 80 (.mv (t 0)), o 81 (.mv (t 13)), o 82 (.iaddr 3 (t 80) (t 81)), o 83 (.loadN 3 (t 82)), o 84 (.iaddr 3 (t 72) (t 73)), sb (.store 3 (t 84) (t 79)), o 85 (.iaddr 3 (t 74) (t 75)), sb (.store 3 (t 85) (t 83))])
 (.seq (.keep [13])
 (.seq (.ops false [o 86 (.mv (t 13)), o 10 (.mv (t 86)), o 11 (.mv (.const (.bool true)))])
 .ret)))
 .skip))
 (.seq (.keep [0, 1, 4, 12, 13])
 (.seq (.opsA [] [o 87 (.mv (t 0)), o 88 (.mv (t 12)), o 89 (.mv (t 0)), o 90 (.mv (t 13)), o 91 (.mv (t 0)), o 92 (.mv (t 13)), o 93 (.iaddr 3 (t 91) (t 92)), o 94 (.loadN 3 (t 93)), o 95 (.mv (t 0)), o 96 (.mv (t 12)), o 97 (.iaddr 3 (t 95) (t 96)), o 98 (.loadN 3 (t 97)), o 99 (.iaddr 3 (t 87) (t 88)), sb (.store 3 (t 99) (t 94)), o 100 (.iaddr 3 (t 89) (t 90)), sb (.store 3 (t 100) (t 98))])
 (.seq (.keep [0, 1, 4, 12, 13])
 (.seq (.ops false [o 101 (.mv (t 12)), o 102 (.bin .add (t 101) (ci 1)), o 12 (.mv (t 102))])
 (.seq (.ops false [o 103 (.mv (t 13)), o 104 (.bin .sub (t 103) (ci 1)), o 13 (.mv (t 104))])
 (.seq (.seq (.keep [0, 1, 4, 12, 13]) (.block 4 (.loop (.seq (.block 5 (.seq (.seq (.keep [0, 1, 4, 12, 13]) (.block 6 (.loop (.seq (.seq (.seq (.ops true [o 105 (.mv (t 12)), o 106 (.mv (t 13)), b 107 (.bin .leq (t 105) (t 106)), b 108 (.mv (t 107)), ⟨(some 109), .mv (t 4), some (108, true), false⟩, ⟨(some 110), .mv (t 0), some (108, true), false⟩, ⟨(some 111), .mv (t 12), some (108, true), false⟩, ⟨(some 112), .iaddr 3 (t 110) (t 111), some (108, true), false⟩, ⟨(some 113), .loadN 3 (t 112), some (108, true), false⟩, ⟨(some 114), .mv (t 0), some (108, true), false⟩, ⟨(some 115), .mv (t 1), some (108, true), false⟩, ⟨(some 116), .iaddr 3 (t 114) (t 115), some (108, true), false⟩, ⟨(some 117), .loadN 3 (t 116), some (108, true), false⟩, ⟨(some 118), .call (t 109) [(t 113), (t 117)], some (108, true), true⟩, ⟨(some 119), .bin .lss (t 118) (ci 0), some (108, true), true⟩, b 120 (.pick (t 108) (t 119) (.const (.bool false)))])
 (.seq (.keep [0, 1, 4, 12, 13, 120])
 (.cond (t 120)
 .skip
 (.exit 6))))
 (.seq (.keep [0, 1, 4, 12, 13])
 (.block 7 (.ops false [o 121 (.mv (t 12)), o 122 (.bin .add (t 121) (ci 1)), o 12 (.mv (t 122))])))) (.keep [0, 1, 4, 12, 13])))))
 (.seq (.keep [0, 1, 4, 12, 13])
 (.seq (.seq (.keep [0, 1, 4, 12, 13]) (.block 8 (.loop (.seq (.seq (.seq (.ops true [o 123 (.mv (t 12)), o 124 (.mv (t 13)), b 125 (.bin .leq (t 123) (t 124)), b 126 (.mv (t 125)), ⟨(some 127), .mv (t 4), some (126, true), false⟩, ⟨(some 128), .mv (t 0), some (126, true), false⟩, ⟨(some 129), .mv (t 13), some (126, true), false⟩, ⟨(some 130), .iaddr 3 (t 128) (t 129), some (126, true), false⟩, ⟨(some 131), .loadN 3 (t 130), some (126, true), false⟩, ⟨(some 132), .mv (t 0), some (126, true), false⟩, ⟨(some 133), .mv (t 1), some (126, true), false⟩, ⟨(some 134), .iaddr 3 (t 132) (t 133), some (126, true), false⟩, ⟨(some 135), .loadN 3 (t 134), some (126, true), false⟩, ⟨(some 136), .call (t 127) [(t 131), (t 135)], some (126, true), true⟩, ⟨(some 137), .bin .lss (t 136) (ci 0), some (126, true), true⟩, ⟨(some 138), .un .not (t 137), some (126, true), true⟩, b 139 (.pick (t 126) (t 138) (.const (.bool false)))])
 (.seq (.keep [0, 1, 4, 12, 13, 139])
 (.cond (t 139)
 .skip
 (.exit 8))))
 (.seq (.keep [0, 1, 4, 12, 13])
 (.block 9 (.ops false [o 140 (.mv (t 13)), o 141 (.bin .sub (t 140) (ci 1)), o 13 (.mv (t 141))])))) (.keep [0, 1, 4, 12, 13])))))
 (.seq (.keep [0, 1, 4, 12, 13])
 (.seq (.seq (.ops false [o 142 (.mv (t 12)), o 143 (.mv (t 13)), o 144 (.bin .gtr (t 142) (t 143))])
 (.cond (t 144)
 (.exit 4)
 .skip))
 (.seq (.opsA [] [o 145 (.mv (t 0)), o 146 (.mv (t 12)), o 147 (.mv (t 0)), o 148 (.mv (t 13)), o 149 (.mv (t 0)), o 150 (.mv (t 13)), o 151 (.iaddr 3 (t 149) (t 150)), o 152 (.loadN 3 (t 151)), o 153 (.mv (t 0)), o 154 (.mv (t 12)), o 155 (.iaddr 3 (t 153) (t 154)), o 156 (.loadN 3 (t 155)), o 157 (.iaddr 3 (t 145) (t 146)), sb (.store 3 (t 157) (t 152)), o 158 (.iaddr 3 (t 147) (t 148)), sb (.store 3 (t 158) (t 156))])
 (.seq (.keep [0, 1, 4, 12, 13])
 (.seq (.ops false [o 159 (.mv (t 12)), o 160 (.bin .add (t 159) (ci 1)), o 12 (.mv (t 160))])
 (.ops false [o 161 (.mv (t 13)), o 162 (.bin .sub (t 161) (ci 1)), o 13 (.mv (t 162))])))))))))) (.keep [0, 1, 4, 12, 13])))))
 (.seq (.keep [0, 1, 13])
 (.seq (.opsA [] [o 163 (.mv (t 0)), o 164 (.mv (t 13)), o 165 (.mv (t 0)), o 166 (.mv (t 1)), o 167 (.mv (t 0)), o 168 (.mv (t 1)), o 169 (.iaddr 3 (t 167) (t 168)), o 170 (.loadN 3 (t 169)), o 171 (.mv (t 0)), o 172 (.mv (t 13)), o 173 (.iaddr 3 (t 171) (t 172)), o 174 (.loadN 3 (t 173)), o 175 (.iaddr 3 (t 163) (t 164)), sb (.store 3 (t 175) (t 170)), o 176 (.iaddr 3 (t 165) (t 166)), sb (.store 3 (t 176) (t 174))])
 (.seq (.keep [13])
 (.seq (.ops false [o 177 (.mv (t 13)), o 10 (.mv (t 177)), o 11 (.mv (.const (.bool false)))])
 .ret)))))))))))))))))))⟩
/-- coroner/encode.line -/
def F_encode_line : AFn := ⟨3, [.tmp 6],
 (.seq (.ops false [o 6 (.mv (.const (.slice none 0 0)))])
 (.seq (.ops false [o 12 (.mv (t 0)), o 13 (.convSB (t 12)), o 7 (.mv (t 13))])
 (.seq (.seq (.ops false [o 14 (.mv (t 2)), o 15 (.len 1 (t 14)), o 16 (.mv (ci 0))])
 (.seq (.keep [1, 7, 14, 15, 16]) (.block 0 (.loop (.seq (.seq (.ops false [o 17 (.bin .lss (t 16) (t 15))])
 (.seq (.cond (t 17)
 .skip
 (.exit 0))
 (.seq (.block 1 (.seq (.ops false [o 18 (.iaddr 1 (t 14) (t 16)), o 19 (.load1 (t 18)), o 9 (.mv (t 19))])
 (.seq (.ops false [o 21 (.mv (t 9)), o 22 (.call (.func n_digits_Print) [(t 21)]), o 20 (.mv (t 22)), o 23 (.extract 0 (t 20)), o 24 (.extract 1 (t 20)), o 10 (.mv (t 23)), o 11 (.mv (t 24))])
 (.seq (.keep [1, 7, 10, 14, 15, 16])
 (.ops false [o 25 (.mv (t 7)), o 26 (.mv (t 10)), o 27 (.bin .add (.const (.string ⟨#[32]⟩)) (t 26)), o 28 (.appS 1 (t 25) (t 27)), o 7 (.mv (t 28))])))))
 (.seq (.keep [1, 7, 14, 15, 16])
 (.ops false [o 29 (.bin .add (t 16) (ci 1)), o 16 (.mv (t 29))]))))) (.keep [1, 7, 14, 15, 16]))))))
 (.seq (.keep [1, 7])
 (.seq (.ops false [o 30 (.mv (t 7)), o 31 (.mv (t 1)), o 32 (.appS 1 (t 30) (t 31)), o 6 (.mv (t 32))])
 .ret)))))⟩
/-- (*slices.xorshift).Next -/
def F_slices_xorshift_Next : AFn := ⟨1, [.tmp 2],
 (.seq (.ops false [o 2 (.mv (.const (.int .u64 0)))])
 (.seq (.ops true [o 3 (.mv (t 0)), o 4 (.nilc (t 3)), o 5 (.load1 (t 4)), o 6 (.mv (t 0)), o 7 (.nilc (t 6)), o 8 (.load1 (t 7)), o 9 (.bin .shl (t 8) (.const (.int .u64 13))), b 10 (.bin .xor (t 5) (t 9)), b 11 (.nilc (t 3)), sb (.store 1 (t 11) (t 10))])
 (.seq (.keep [0])
 (.seq (.ops true [o 12 (.mv (t 0)), o 13 (.nilc (t 12)), o 14 (.load1 (t 13)), o 15 (.mv (t 0)), o 16 (.nilc (t 15)), o 17 (.load1 (t 16)), o 18 (.bin .shr (t 17) (.const (.int .u64 7))), b 19 (.bin .xor (t 14) (t 18)), b 20 (.nilc (t 12)), sb (.store 1 (t 20) (t 19))])
 (.seq (.keep [0])
 (.seq (.ops true [o 21 (.mv (t 0)), o 22 (.nilc (t 21)), o 23 (.load1 (t 22)), o 24 (.mv (t 0)), o 25 (.nilc (t 24)), o 26 (.load1 (t 25)), o 27 (.bin .shl (t 26) (.const (.int .u64 17))), b 28 (.bin .xor (t 23) (t 27)), b 29 (.nilc (t 21)), sb (.store 1 (t 29) (t 28))])
 (.seq (.keep [0])
 (.seq (.ops false [o 30 (.mv (t 0)), o 31 (.nilc (t 30)), o 32 (.load1 (t 31)), o 2 (.mv (t 32))])
 .ret))))))))⟩
/-- slices.order2CmpFunc[coroner/api.Txn] -/
def F_slices_order2CmpFunc_api_Txn : AFn := ⟨5, [.tmp 10, .tmp 11],
 (.seq (.ops false [o 10 (.mv (ci 0)), o 11 (.mv (ci 0))])
 (.seq (.seq (.ops true [o 12 (.mv (t 4)), o 13 (.mv (t 0)), o 14 (.mv (t 2)), o 15 (.iaddr 3 (t 13) (t 14)), o 16 (.loadN 3 (t 15)), o 17 (.mv (t 0)), o 18 (.mv (t 1)), o 19 (.iaddr 3 (t 17) (t 18)), o 20 (.loadN 3 (t 19)), b 21 (.call (t 12) [(t 16), (t 20)]), b 22 (.bin .lss (t 21) (ci 0))])
 (.seq (.keep [1, 2, 3, 22])
 (.cond (t 22)
 (.seq (.ops false [o 23 (.mv (t 3)), o 24 (.nilc (t 23)), o 25 (.load1 (t 24)), o 26 (.bin .add (t 25) (ci 1)), o 27 (.nilc (t 23)), s (.store 1 (t 27) (t 26))])
 (.seq (.ops false [o 28 (.mv (t 2)), o 29 (.mv (t 1)), o 10 (.mv (t 28)), o 11 (.mv (t 29))])
 .ret))
 .skip)))
 (.seq (.keep [1, 2])
 (.seq (.ops false [o 30 (.mv (t 1)), o 31 (.mv (t 2)), o 10 (.mv (t 30)), o 11 (.mv (t 31))])
 .ret))))⟩
/-- coroner/coronerlaw12.TableNone -/
def F_l12_TableNone : AFn := ⟨2, [.tmp 4],
 (.seq (.ops false [o 4 (.mv (.const (.bool false)))])
 (.seq (.ops false [o 5 (.mv (t 0)), o 6 (.mv (t 1)), o 7 (.call (.func n_l12_none) [(.const (.pointer none)), (t 5), (t 6)]), o 8 (.mv (t 7)), ⟨(some 9), .build [(.bool false), (.slice none 0 0), (.slice none 0 0), (.map none), (.map none), (.map none), (.map none)] [], some (8, true), false⟩, ⟨(some 10), .box (t 9), some (8, true), false⟩, ⟨(some 11), .mv (t 0), some (8, true), false⟩, ⟨(some 12), .mv (t 1), some (8, true), false⟩, ⟨(some 13), .call (.func n_l12_none) [(t 10), (t 11), (t 12)], some (8, true), false⟩, o 14 (.pick (t 8) (t 13) (.const (.bool false))), o 15 (.mv (t 14)), ⟨(some 16), .call (.func n_l12_works) [], some (15, true), false⟩, o 17 (.pick (t 15) (t 16) (.const (.bool false))), o 4 (.mv (t 17))])
 (.seq (.keep [4])
 .ret)))⟩
/-- coroner/coronerref01.Same -/
def F_r01_Same : AFn := ⟨2, [.tmp 4],
 (.seq (.ops false [o 4 (.mv (.const (.bool false)))])
 (.seq (.seq (.ops false [o 6 (.mv (t 0)), o 7 (.len 1 (t 6)), o 8 (.mv (t 1)), o 9 (.len 1 (t 8)), o 10 (.bin .neq (t 7) (t 9))])
 (.cond (t 10)
 (.seq (.ops false [o 4 (.mv (.const (.bool false)))])
 .ret)
 .skip))
 (.seq (.seq (.ops false [o 5 (.mv (ci 0))])
 (.seq (.keep [0, 1, 5]) (.block 0 (.loop (.seq (.seq (.seq (.ops false [o 11 (.mv (t 5)), o 12 (.mv (t 0)), o 13 (.len 1 (t 12)), o 14 (.bin .lss (t 11) (t 13))])
 (.cond (t 14)
 .skip
 (.exit 0)))
 (.seq (.block 1 (.seq (.ops true [o 17 (.mv (t 0)), o 18 (.mv (t 5)), o 19 (.iaddr 1 (t 17) (t 18)), o 20 (.load1 (t 19)), o 21 (.mv (t 1)), o 22 (.mv (t 5)), o 23 (.iaddr 1 (t 21) (t 22)), o 24 (.load1 (t 23)), b 25 (.bin .neq (t 20) (t 24))])
 (.seq (.keep [0, 1, 5, 25])
 (.cond (t 25)
 (.seq (.ops false [o 4 (.mv (.const (.bool false)))])
 .ret)
 .skip))))
 (.seq (.keep [0, 1, 5])
 (.ops false [o 15 (.mv (t 5)), o 16 (.bin .add (t 15) (ci 1)), o 5 (.mv (t 16))])))) (.keep [0, 1, 5]))))))
 (.seq (.keep [])
 (.seq (.ops false [o 4 (.mv (.const (.bool true)))])
 .ret)))))⟩
/-- (*coroner/table.Table).Keys -/
def F_table_Table_Keys : AFn := ⟨1, [.tmp 2],
 (.seq (.ops false [o 2 (.mv (.const (.slice none 0 0)))])
 (.seq (.seq (.ops false [o 3 (.mv (t 0)), o 4 (.call (.func n_table_Table_is) [(t 3)]), o 5 (.un .not (t 4))])
 (.cond (t 5)
 (.seq (.ops false [o 2 (.mv (.const (.slice none 0 0)))])
 .ret)
 .skip))
 (.seq (.ops false [o 6 (.mv (t 0)), o 7 (.nilc (t 6)), o 8 (.faddr 2 (t 7)), o 9 (.load1 (t 8)), o 10 (.call (.func n_slices_Clone_int_int) [(t 9)]), o 2 (.mv (t 10))])
 .ret)))⟩
/-- (*coroner/table.Table).Reads -/
def F_table_Table_Reads : AFn := ⟨2, [.tmp 4],
 (.seq (.ops false [o 4 (.mv (.const .nilFunc))])
 (.seq (.seq (.ops false [o 5 (.mv (t 0)), o 6 (.call (.func n_table_Table_is) [(t 5)]), o 7 (.un .not (t 6))])
 (.cond (t 7)
 (.seq (.ops false [o 8 (.call (.func n_table_goes_table_Read) [(.const (.slice none 0 0))]), o 4 (.mv (t 8))])
 .ret)
 .skip))
 (.seq (.ops false [o 9 (.mv (t 0)), o 10 (.nilc (t 9)), o 11 (.faddr 5 (t 10)), o 12 (.load1 (t 11)), o 13 (.mv (t 1)), o 14 (.lookup (.one 1) (.slice none 0 0) false (t 12) (t 13)), o 15 (.call (.func n_table_goes_table_Read) [(t 14)]), o 4 (.mv (t 15))])
 (.seq (.keep [4])
 .ret))))⟩
/-- coroner/coronerlaw12.none -/
def F_l12_none : AFn := ⟨3, [.cell1 6],
 (.seq (.ops false [o 6 (.alloc [(.bool false)])])
 (.seq (.ops false [o 14 (.mv (t 0)), o 15 (.mv (t 1)), o 16 (.mv (t 2)), o 17 (.call (.func n_table_Table_Writer) [(t 14), (t 15), (t 16)]), o 13 (.mv (t 17)), o 18 (.extract 0 (t 13)), o 19 (.extract 1 (t 13)), o 7 (.alloc [(.int .i64 0), (.int .i64 0), (.int .i64 0), (.int .i64 0), (.bool false)]), s (.store 5 (t 7) (t 18)), o 8 (.mv (t 19))])
 (.seq (.keep [0, 1, 2, 6, 7, 8])
 (.seq (.ops false [o 21 (.mv (t 0)), o 22 (.mv (t 1)), o 23 (.call (.func n_table_Table_Rank) [(t 21), (t 22)]), o 20 (.mv (t 23)), o 24 (.extract 0 (t 20)), o 25 (.extract 1 (t 20)), o 9 (.mv (t 24)), o 10 (.mv (t 25))])
 (.seq (.keep [0, 1, 2, 6, 7, 8, 9, 10])
 (.seq (.ops false [o 26 (.mv (t 0)), o 27 (.mv (t 1)), o 28 (.call (.func n_table_Table_Reads) [(t 26), (t 27)]), o 11 (.mv (t 28))])
 (.seq (.seq (.ops false [o 29 (.mv (t 11)), o 30 (.eqv 4 false (t 29) (.const .nilFunc)), o 31 (.mv (t 30)), ⟨(some 32), .mv (t 0), some (31, false), false⟩, ⟨(some 33), .mv (t 1), some (31, false), false⟩, ⟨(some 34), .call (.func n_table_Table_Writes) [(t 32), (t 33)], some (31, false), false⟩, ⟨(some 35), .eqv 4 false (t 34) (.const .nilFunc), some (31, false), false⟩, o 36 (.pick (t 31) (.const (.bool true)) (t 35))])
 (.seq (.keep [0, 1, 2, 6, 7, 8, 9, 10, 11, 36])
 (.cond (t 36)
 (.seq (.ops false [s (.store 1 (t 6) (.const (.bool false)))])
 .ret)
 .skip)))
 (.seq (.keep [0, 1, 2, 6, 7, 8, 9, 10, 11])
 (.seq (.seq (.ops false [o 37 (.mv (t 11))])
 (.block 0 (.rfun (t 37) [38]
 (.ops false [o 12 (.alloc [(.int .i64 0), (.int .i64 0), (.int .i64 0), (.slice none 0 0), (.slice none 0 0)]), s (.store 5 (t 12) (t 38))])
 (.block 1 (.seq (.ops false [o 39 (.faddr 0 (t 12)), o 40 (.load1 (t 39)), o 41 (.bin .lss (t 40) (ci 0)), o 42 (.mv (t 41)), o 43 (.pick (t 42) (.const (.bool false)) (.const (.bool false))), s (.store 1 (t 6) (t 43))])
 .ret)))))
 (.seq (.keep [0, 1, 2, 6, 7, 8, 9, 10])
 (.seq (.ops false (o 44 (.loadN 5 (t 7)) :: o 45 (.build [(.int .i64 0), (.int .i64 0), (.int .i64 0), (.int .i64 0), (.bool false)] []) :: o 46 (.eqA [1, 1, 1, 1, 0] false (t 44) (t 45)) :: o 47 (.mv (t 46)) :: ⟨(some 48), .mv (t 8), some (47, true), false⟩ :: ⟨(some 49), .un .not (t 48), some (47, true), false⟩ :: o 50 (.pick (t 47) (t 49) (.const (.bool false))) :: o 51 (.mv (t 50)) :: ⟨(some 52), .mv (t 9), some (51, true), false⟩ :: ⟨(some 53), .bin .eql (t 52) (ci 0), some (51, true), false⟩ :: o 54 (.pick (t 51) (t 53) (.const (.bool false))) :: o 55 (.mv (t 54)) :: ⟨(some 56), .mv (t 10), some (55, true), false⟩ :: ⟨(some 57), .un .not (t 56), some (55, true), false⟩ :: o 58 (.pick (t 55) (t 57) (.const (.bool false))) :: o 59 (.mv (t 58)) :: ⟨(some 60), .mv (t 0), some (59, true), false⟩ :: ⟨(some 61), .call (.func n_table_Table_IDs) [(t 60)], some (59, true), false⟩ :: ⟨(some 62), .len 1 (t 61), some (59, true), false⟩ :: ⟨(some 63), .mv (t 0), some (59, true), false⟩ :: ⟨(some 64), .call (.func n_table_Table_Keys) [(t 63)], some (59, true), false⟩ :: ⟨(some 65), .len 1 (t 64), some (59, true), false⟩ :: ⟨(some 66), .bin .add (t 62) (t 65), some (59, true), false⟩ :: ⟨(some 67), .mv (t 0), some (59, true), false⟩ :: ⟨(some 68), .mv (t 1), some (59, true), false⟩ :: ⟨(some 69), .mv (t 2), some (59, true), false⟩ :: ⟨(some 70), .call (.func n_table_Table_Appends) [(t 67), (t 68), (t 69)], some (59, true), false⟩ :: ⟨(some 71), .len 1 (t 70), some (59, true), false⟩ :: ⟨(some 72), .bin .add (t 66) (t 71), some (59, true), false⟩ :: ⟨(some 73), .bin .eql (t 72) (ci 0), some (59, true), false⟩ :: o 74 (.pick (t 59) (t 73) (.const (.bool false))) :: s (.store 1 (t 6) (t 74)) :: []))
 (.seq (.keep [6])
 .ret))))))))))))⟩
/-- slices.Clone[[]coroner/api.Txn,coroner/api.Txn] -/
def F_slices_Clone_api_Txn_api_Txn : AFn := ⟨1, [.tmp 2],
 (.seq (.ops false [o 2 (.mv (.const (.slice none 0 0)))])
 (.seq (.seq (.ops false [o 3 (.mv (t 0)), o 4 (.eqv 2 false (t 3) (.const (.slice none 0 0)))])
 (.cond (t 4)
 (.seq (.ops false [o 2 (.mv (.const (.slice none 0 0)))])
 .ret)
 .skip))
 (.seq (.ops false [o 5 (.bslice 3 0 [] []), o 6 (.mv (t 0)), o 7 (.append 3 40 (t 5) (t 6)), o 2 (.mv (t 7))])
 .ret)))⟩
/-- cmp.Compare[int] -/
def F_cmp_Compare_int : AFn := ⟨2, [.tmp 4],
 (.seq (.ops false [o 4 (.mv (ci 0))])
 (.seq (.ops false [o 7 (.mv (t 0)), o 8 (.call (.func n_cmp_isNaN_int) [(t 7)]), o 5 (.mv (t 8))])
 (.seq (.ops false [o 9 (.mv (t 1)), o 10 (.call (.func n_cmp_isNaN_int) [(t 9)]), o 6 (.mv (t 10))])
 (.seq (.seq (.ops false [o 11 (.mv (t 5))])
 (.cond (t 11)
 (.seq (.seq (.ops false [o 12 (.mv (t 6))])
 (.cond (t 12)
 (.seq (.ops false [o 4 (.mv (ci 0))])
 .ret)
 .skip))
 (.seq (.ops false [o 4 (.mv (ci (-1)))])
 .ret))
 .skip))
 (.seq (.seq (.ops false [o 13 (.mv (t 6))])
 (.cond (t 13)
 (.seq (.ops false [o 4 (.mv (ci 1))])
 .ret)
 .skip))
 (.seq (.seq (.ops false [o 14 (.mv (t 0)), o 15 (.mv (t 1)), o 16 (.bin .lss (t 14) (t 15))])
 (.cond (t 16)
 (.seq (.ops false [o 4 (.mv (ci (-1)))])
 .ret)
 .skip))
 (.seq (.seq (.ops false [o 17 (.mv (t 0)), o 18 (.mv (t 1)), o 19 (.bin .gtr (t 17) (t 18))])
 (.cond (t 19)
 (.seq (.ops false [o 4 (.mv (ci 1))])
 .ret)
 .skip))
 (.seq (.ops false [o 4 (.mv (ci 0))])
 .ret))))))))⟩
/-- coroner/sorted.Of[int] -/
def F_sorted_Of_int : AFn := ⟨1, [.cellN 2 1],
 (.seq (.ops false [o 2 (.alloc [(.slice none 0 0)])])
 (.seq (.ops false [o 4 (.mv (t 0)), o 5 (.call (.func n_slices_Clone_int_int) [(t 4)]), o 3 (.mv (t 5))])
 (.seq (.ops false [o 6 (.mv (t 3)), o 7 (.call (.func n_slices_Sort_int_int) [(t 6)])])
 (.seq (.ops false [o 8 (.mv (t 3)), o 9 (.call (.func n_slices_Compact_int_int) [(t 8)]), o 10 (.build [(.slice none 0 0)] [(0, (1, (t 9)))]), s (.store 1 (t 2) (t 10))])
 .ret))))⟩
/-- slices.BinarySearch[[]int,int] -/
def F_slices_BinarySearch_int_int : AFn := ⟨2, [.tmp 4, .tmp 5],
 (.seq (.ops false [o 4 (.mv (ci 0)), o 5 (.mv (.const (.bool false)))])
 (.seq (.ops false [o 10 (.mv (t 0)), o 11 (.len 1 (t 10)), o 6 (.mv (t 11))])
 (.seq (.ops false [o 12 (.mv (t 6)), o 7 (.mv (ci 0)), o 8 (.mv (t 12))])
 (.seq (.seq (.keep [0, 1, 6, 7, 8]) (.block 0 (.loop (.seq (.seq (.seq (.ops false [o 13 (.mv (t 7)), o 14 (.mv (t 8)), o 15 (.bin .lss (t 13) (t 14))])
 (.cond (t 15)
 .skip
 (.exit 0)))
 (.block 1 (.seq (.ops false [o 16 (.mv (t 7)), o 17 (.mv (t 8)), o 18 (.bin .add (t 16) (t 17)), o 19 (.conv .u64 (t 18)), o 20 (.bin .shr (t 19) (.const (.int .u64 1))), o 21 (.conv .i64 (t 20)), o 9 (.mv (t 21))])
 (.seq (.keep [0, 1, 6, 7, 8, 9])
 (.seq (.ops false [o 22 (.mv (t 0)), o 23 (.mv (t 9)), o 24 (.iaddr 1 (t 22) (t 23)), o 25 (.load1 (t 24)), o 26 (.mv (t 1)), o 27 (.call (.func n_cmp_Less_int) [(t 25), (t 26)])])
 (.cond (t 27)
 (.ops false [o 28 (.mv (t 9)), o 29 (.bin .add (t 28) (ci 1)), o 7 (.mv (t 29))])
 (.ops false [o 30 (.mv (t 9)), o 8 (.mv (t 30))]))))))) (.keep [0, 1, 6, 7, 8])))))
 (.seq (.keep [0, 1, 6, 7])
 (.seq (.ops false (o 31 (.mv (t 7)) :: o 32 (.mv (t 7)) :: o 33 (.mv (t 6)) :: o 34 (.bin .lss (t 32) (t 33)) :: o 35 (.mv (t 34)) :: ⟨(some 36), .mv (t 0), some (35, true), false⟩ :: ⟨(some 37), .mv (t 7), some (35, true), false⟩ :: ⟨(some 38), .iaddr 1 (t 36) (t 37), some (35, true), false⟩ :: ⟨(some 39), .load1 (t 38), some (35, true), false⟩ :: ⟨(some 40), .mv (t 1), some (35, true), false⟩ :: ⟨(some 41), .bin .eql (t 39) (t 40), some (35, true), false⟩ :: ⟨(some 42), .mv (t 41), some (35, true), false⟩ :: ⟨(some 43), .mv (t 0), some (42, false), false⟩ :: ⟨(some 44), .mv (t 7), some (42, false), false⟩ :: ⟨(some 45), .iaddr 1 (t 43) (t 44), some (42, false), false⟩ :: ⟨(some 46), .load1 (t 45), some (42, false), false⟩ :: ⟨(some 47), .call (.func n_slices_isNaN_int) [(t 46)], some (42, false), false⟩ :: ⟨(some 48), .mv (t 47), some (42, false), false⟩ :: ⟨(some 49), .mv (t 1), some (48, true), false⟩ :: ⟨(some 50), .call (.func n_slices_isNaN_int) [(t 49)], some (48, true), false⟩ :: ⟨(some 51), .pick (t 48) (t 50) (.const (.bool false)), some (42, false), false⟩ :: ⟨(some 52), .pick (t 42) (.const (.bool true)) (t 51), some (35, true), false⟩ :: o 53 (.pick (t 35) (t 52) (.const (.bool false))) :: o 4 (.mv (t 31)) :: o 5 (.mv (t 53)) :: []))
 (.seq (.keep [4, 5])
 .ret)))))))⟩
/-- coroner/history.Ops -/
def F_history_Ops : AFn := ⟨1, [.tmp 2],
 (.seq (.ops false [o 1 (.box (t 0)), o 2 (.mv (ci 0))])
 (.seq (.ops false [o 3 (.mv (ci 0))])
 (.seq (.seq (.ops false [o 6 (.faddr 0 (t 1)), o 7 (.load1 (t 6)), o 8 (.len 1 (t 7)), o 9 (.mv (ci 0))])
 (.seq (.keep [3, 7, 8, 9]) (.block 0 (.loop (.seq (.seq (.ops false [o 10 (.bin .lss (t 9) (t 8))])
 (.seq (.cond (t 10)
 .skip
 (.exit 0))
 (.seq (.block 1 (.seq (.ops false [o 11 (.iaddr 3 (t 7) (t 9)), o 12 (.loadN 3 (t 11)), o 5 (.alloc [(.int .i64 0), (.bool false), (.slice none 0 0)]), s (.store 3 (t 5) (t 12))])
 (.ops false [o 13 (.mv (t 3)), o 14 (.faddr 2 (t 5)), o 15 (.load1 (t 14)), o 16 (.len 1 (t 15)), o 17 (.bin .add (t 13) (t 16)), o 3 (.mv (t 17))])))
 (.seq (.keep [3, 7, 8, 9])
 (.ops false [o 18 (.bin .add (t 9) (ci 1)), o 9 (.mv (t 18))]))))) (.keep [3, 7, 8, 9]))))))
 (.seq (.keep [3])
 (.seq (.ops false [o 19 (.mv (t 3)), o 2 (.mv (t 19))])
 .ret)))))⟩
/-- slices.pdqsortCmpFunc[coroner/api.Txn] -/
def F_slices_pdqsortCmpFunc_api_Txn : AFn := ⟨5, [],
 (.seq (.ops false [o 10 (.mv (.const (.bool true)))])
 (.seq (.ops false [o 11 (.mv (.const (.bool true)))])
 (.seq (.keep [0, 1, 2, 3, 4, 10, 11]) (.block 0 (.loop (.seq (.block 1 (.seq (.ops false [o 21 (.mv (t 2)), o 22 (.mv (t 1)), o 23 (.bin .sub (t 21) (t 22)), o 12 (.mv (t 23))])
 (.seq (.seq (.ops false [o 24 (.mv (t 12)), o 25 (.bin .leq (t 24) (ci 12))])
 (.cond (t 25)
 (.seq (.ops false [o 26 (.mv (t 0)), o 27 (.mv (t 1)), o 28 (.mv (t 2)), o 29 (.mv (t 4)), o 30 (.call (.func n_slices_insertionSortCmpFunc_api_Txn) [(t 26), (t 27), (t 28), (t 29)])])
 .ret)
 .skip))
 (.seq (.keep [0, 1, 2, 3, 4, 10, 11, 12])
 (.seq (.seq (.ops false [o 31 (.mv (t 3)), o 32 (.bin .eql (t 31) (ci 0))])
 (.cond (t 32)
 (.seq (.ops false [o 33 (.mv (t 0)), o 34 (.mv (t 1)), o 35 (.mv (t 2)), o 36 (.mv (t 4)), o 37 (.call (.func n_slices_heapSortCmpFunc_api_Txn) [(t 33), (t 34), (t 35), (t 36)])])
 .ret)
 .skip))
 (.seq (.keep [0, 1, 2, 3, 4, 10, 11, 12])
 (.seq (.seq (.ops false [o 38 (.mv (t 10)), o 39 (.un .not (t 38))])
 (.cond (t 39)
 (.seq (.ops false [o 40 (.mv (t 0)), o 41 (.mv (t 1)), o 42 (.mv (t 2)), o 43 (.mv (t 4)), o 44 (.call (.func n_slices_breakPatternsCmpFunc_api_Txn) [(t 40), (t 41), (t 42), (t 43)])])
 (.ops false [o 45 (.mv (t 3)), o 46 (.bin .sub (t 45) (ci 1)), o 3 (.mv (t 46))]))
 .skip))
 (.seq (.keep [0, 1, 2, 3, 4, 10, 11, 12])
 (.seq (.ops false [o 48 (.mv (t 0)), o 49 (.mv (t 1)), o 50 (.mv (t 2)), o 51 (.mv (t 4)), o 52 (.call (.func n_slices_choosePivotCmpFunc_api_Txn) [(t 48), (t 49), (t 50), (t 51)]), o 47 (.mv (t 52)), o 53 (.extract 0 (t 47)), o 54 (.extract 1 (t 47)), o 13 (.mv (t 53)), o 14 (.mv (t 54))])
 (.seq (.keep [0, 1, 2, 3, 4, 10, 11, 12, 13, 14])
 (.seq (.seq (.ops false [o 55 (.mv (t 14)), o 56 (.bin .eql (t 55) (ci 2))])
 (.cond (t 56)
 (.seq (.ops false [o 57 (.mv (t 0)), o 58 (.mv (t 1)), o 59 (.mv (t 2)), o 60 (.mv (t 4)), o 61 (.call (.func n_slices_reverseRangeCmpFunc_api_Txn) [(t 57), (t 58), (t 59), (t 60)])])
 (.seq (.ops false [o 62 (.mv (t 2)), o 63 (.bin .sub (t 62) (ci 1)), o 64 (.mv (t 13)), o 65 (.mv (t 1)), o 66 (.bin .sub (t 64) (t 65)), o 67 (.bin .sub (t 63) (t 66)), o 13 (.mv (t 67))])
 (.seq (.keep [0, 1, 2, 3, 4, 10, 11, 12, 13])
 (.ops false [o 14 (.mv (ci 1))]))))
 .skip))
 (.seq (.keep [0, 1, 2, 3, 4, 10, 11, 12, 13, 14])
 (.seq (.seq (.ops false [o 68 (.mv (t 10)), o 69 (.mv (t 68)), ⟨(some 70), .mv (t 11), some (69, true), false⟩, o 71 (.pick (t 69) (t 70) (.const (.bool false))), o 72 (.mv (t 71)), ⟨(some 73), .mv (t 14), some (72, true), false⟩, ⟨(some 74), .bin .eql (t 73) (ci 1), some (72, true), false⟩, o 75 (.pick (t 72) (t 74) (.const (.bool false)))])
 (.seq (.keep [0, 1, 2, 3, 4, 10, 11, 12, 13, 75])
 (.cond (t 75)
 (.seq (.ops false [o 76 (.mv (t 0)), o 77 (.mv (t 1)), o 78 (.mv (t 2)), o 79 (.mv (t 4)), o 80 (.call (.func n_slices_partialInsertionSortCmpFunc_api_Txn) [(t 76), (t 77), (t 78), (t 79)])])
 (.cond (t 80)
 .ret
 .skip))
 .skip)))
 (.seq (.keep [0, 1, 2, 3, 4, 10, 11, 12, 13])
 (.seq (.seq (.ops true [b 81 (.mv (t 1)), b 82 (.bin .gtr (t 81) (ci 0)), b 83 (.mv (t 82)), ⟨(some 84), .mv (t 4), some (83, true), false⟩, ⟨(some 85), .mv (t 0), some (83, true), false⟩, ⟨(some 86), .mv (t 1), some (83, true), false⟩, ⟨(some 87), .bin .sub (t 86) (ci 1), some (83, true), false⟩, ⟨(some 88), .iaddr 3 (t 85) (t 87), some (83, true), false⟩, ⟨(some 89), .loadN 3 (t 88), some (83, true), false⟩, ⟨(some 90), .mv (t 0), some (83, true), false⟩, ⟨(some 91), .mv (t 13), some (83, true), false⟩, ⟨(some 92), .iaddr 3 (t 90) (t 91), some (83, true), false⟩, ⟨(some 93), .loadN 3 (t 92), some (83, true), false⟩, ⟨(some 94), .call (t 84) [(t 89), (t 93)], some (83, true), true⟩, ⟨(some 95), .bin .lss (t 94) (ci 0), some (83, true), true⟩, ⟨(some 96), .un .not (t 95), some (83, true), true⟩, b 97 (.pick (t 83) (t 96) (.const (.bool false)))])
 (.seq (.keep [0, 1, 2, 3, 4, 10, 11, 12, 13, 97])
 (.cond (t 97)
 (.seq (.ops false [o 98 (.mv (t 0)), o 99 (.mv (t 1)), o 100 (.mv (t 2)), o 101 (.mv (t 13)), o 102 (.mv (t 4)), o 103 (.call (.func n_slices_partitionEqualCmpFunc_api_Txn) [(t 98), (t 99), (t 100), (t 101), (t 102)]), o 15 (.mv (t 103))])
 (.seq (.keep [0, 2, 3, 4, 10, 11, 15])
 (.seq (.ops false [o 104 (.mv (t 15)), o 1 (.mv (t 104))])
 (.exit 1))))
 .skip)))
 (.seq (.keep [0, 1, 2, 3, 4, 12, 13])
 (.seq (.ops false [o 106 (.mv (t 0)), o 107 (.mv (t 1)), o 108 (.mv (t 2)), o 109 (.mv (t 13)), o 110 (.mv (t 4)), o 111 (.call (.func n_slices_partitionCmpFunc_api_Txn) [(t 106), (t 107), (t 108), (t 109), (t 110)]), o 105 (.mv (t 111)), o 112 (.extract 0 (t 105)), o 113 (.extract 1 (t 105)), o 16 (.mv (t 112)), o 17 (.mv (t 113))])
 (.seq (.keep [0, 1, 2, 3, 4, 12, 16, 17])
 (.seq (.ops false [o 114 (.mv (t 17)), o 11 (.mv (t 114))])
 (.seq (.ops false [o 115 (.mv (t 16)), o 116 (.mv (t 1)), o 117 (.bin .sub (t 115) (t 116)), o 118 (.mv (t 2)), o 119 (.mv (t 16)), o 120 (.bin .sub (t 118) (t 119)), o 18 (.mv (t 117)), o 19 (.mv (t 120))])
 (.seq (.keep [0, 1, 2, 3, 4, 11, 12, 16, 18, 19])
 (.seq (.ops false [o 121 (.mv (t 12)), o 122 (.bin .quo (t 121) (ci 8)), o 20 (.mv (t 122))])
 (.seq (.ops false [o 123 (.mv (t 18)), o 124 (.mv (t 19)), o 125 (.bin .lss (t 123) (t 124))])
 (.cond (t 125)
 (.seq (.ops false [o 126 (.mv (t 18)), o 127 (.mv (t 20)), o 128 (.bin .geq (t 126) (t 127)), o 10 (.mv (t 128))])
 (.seq (.ops false [o 129 (.mv (t 0)), o 130 (.mv (t 1)), o 131 (.mv (t 16)), o 132 (.mv (t 3)), o 133 (.mv (t 4)), o 134 (.call (.func n_slices_pdqsortCmpFunc_api_Txn) [(t 129), (t 130), (t 131), (t 132), (t 133)])])
 (.ops false [o 135 (.mv (t 16)), o 136 (.bin .add (t 135) (ci 1)), o 1 (.mv (t 136))])))
 (.seq (.ops false [o 137 (.mv (t 19)), o 138 (.mv (t 20)), o 139 (.bin .geq (t 137) (t 138)), o 10 (.mv (t 139))])
 (.seq (.ops false [o 140 (.mv (t 0)), o 141 (.mv (t 16)), o 142 (.bin .add (t 141) (ci 1)), o 143 (.mv (t 2)), o 144 (.mv (t 3)), o 145 (.mv (t 4)), o 146 (.call (.func n_slices_pdqsortCmpFunc_api_Txn) [(t 140), (t 142), (t 143), (t 144), (t 145)])])
 (.seq (.keep [0, 1, 3, 4, 10, 11, 16])
 (.ops false [o 147 (.mv (t 16)), o 2 (.mv (t 147))])))))))))))))))))))))))))))) (.keep [0, 1, 2, 3, 4, 10, 11])))))))⟩
/-- coroner/table.steps$1 -/
def F_table_steps_c1 : AFn := ⟨2, [],
 (.seq (.ops false [o 6 (.load1 (t 1)), o 7 (.len 1 (t 6)), o 8 (.mv (ci 0))])
 (.seq (.keep [0, 6, 7, 8]) (.block 0 (.loop (.seq (.seq (.ops false [o 9 (.bin .lss (t 8) (t 7))])
 (.seq (.cond (t 9)
 .skip
 (.exit 0))
 (.seq (.block 1 (.seq (.ops false [o 10 (.iaddr 3 (t 6) (t 8)), o 11 (.loadN 3 (t 10)), o 4 (.alloc [(.int .i64 0), (.bool false), (.slice none 0 0)]), s (.store 3 (t 4) (t 11))])
 (.seq (.ops false [o 12 (.faddr 2 (t 4)), o 13 (.load1 (t 12)), o 14 (.len 1 (t 13)), o 15 (.mv (ci 0))])
 (.seq (.keep [0, 4, 6, 7, 8, 14, 15]) (.block 2 (.loop (.seq (.seq (.ops false [o 16 (.bin .lss (t 15) (t 14))])
 (.seq (.cond (t 16)
 .skip
 (.exit 2))
 (.seq (.block 3 (.seq (.ops false [o 17 (.mv (t 15)), o 5 (.mv (t 17))])
 (.seq (.ops false [o 18 (.mv (t 0)), o 19 (.loadN 3 (t 4)), o 20 (.mv (t 5)), o 21 (.call (t 18) [(t 19), (t 20)]), o 22 (.un .not (t 21))])
 (.cond (t 22)
 .ret
 .skip))))
 (.seq (.keep [0, 4, 6, 7, 8, 14, 15])
 (.ops false [o 23 (.bin .add (t 15) (ci 1)), o 15 (.mv (t 23))]))))) (.keep [0, 4, 6, 7, 8, 14, 15]))))))))
 (.seq (.keep [0, 6, 7, 8])
 (.ops false [o 24 (.bin .add (t 8) (ci 1)), o 8 (.mv (t 24))]))))) (.keep [0, 6, 7, 8]))))))⟩
/-- coroner/encode.txn -/
def F_encode_txn : AFn := ⟨1, [.tmp 2],
 (.seq (.ops false [o 1 (.box (t 0)), o 2 (.mv (.const (.slice none 0 0)))])
 (.seq (.ops false [o 3 (.mv (.const (.string ⟨#[32, 99, 10]⟩)))])
 (.seq (.seq (.ops false [o 7 (.faddr 1 (t 1)), o 8 (.load1 (t 7))])
 (.cond (t 8)
 (.ops false [o 3 (.mv (.const (.string ⟨#[32, 97, 10]⟩)))])
 .skip))
 (.seq (.ops false [o 9 (.mv (t 3)), o 10 (.faddr 0 (t 1)), o 11 (.load1 (t 10)), o 12 (.bslice 1 1 [(.int .i64 0)] [(0, (1, (t 11)))]), o 13 (.call (.func n_encode_line) [(.const (.string ⟨#[116]⟩)), (t 9), (t 12)]), o 4 (.mv (t 13))])
 (.seq (.seq (.ops false [o 14 (.faddr 2 (t 1)), o 15 (.load1 (t 14)), o 16 (.len 1 (t 15)), o 17 (.mv (ci 0))])
 (.seq (.keep [4, 15, 16, 17]) (.block 0 (.loop (.seq (.seq (.ops false [o 18 (.bin .lss (t 17) (t 16))])
 (.seq (.cond (t 18)
 .skip
 (.exit 0))
 (.seq (.block 1 (.seq (.ops false [o 19 (.iaddr 4 (t 15) (t 17)), o 20 (.loadN 4 (t 19)), o 6 (.alloc [(.bool false), (.int .i64 0), (.int .i64 0), (.slice none 0 0)]), s (.store 4 (t 6) (t 20))])
 (.seq (.ops false [o 21 (.faddr 0 (t 6)), o 22 (.load1 (t 21))])
 (.cond (t 22)
 (.ops false [o 23 (.mv (t 4)), o 24 (.faddr 1 (t 6)), o 25 (.load1 (t 24)), o 26 (.bslice 1 1 [(.int .i64 0)] [(0, (1, (t 25)))]), o 27 (.faddr 3 (t 6)), o 28 (.load1 (t 27)), o 29 (.append 1 8 (t 26) (t 28)), o 30 (.call (.func n_encode_line) [(.const (.string ⟨#[114]⟩)), (.const (.string ⟨#[10]⟩)), (t 29)]), o 31 (.append 1 1 (t 23) (t 30)), o 4 (.mv (t 31))])
 (.ops false [o 32 (.mv (t 4)), o 33 (.faddr 1 (t 6)), o 34 (.load1 (t 33)), o 35 (.faddr 2 (t 6)), o 36 (.load1 (t 35)), o 37 (.bslice 1 2 [(.int .i64 0), (.int .i64 0)] [(0, (1, (t 34))), (1, (1, (t 36)))]), o 38 (.call (.func n_encode_line) [(.const (.string ⟨#[97]⟩)), (.const (.string ⟨#[10]⟩)), (t 37)]), o 39 (.append 1 1 (t 32) (t 38)), o 4 (.mv (t 39))])))))
 (.seq (.keep [4, 15, 16, 17])
 (.ops false [o 40 (.bin .add (t 17) (ci 1)), o 17 (.mv (t 40))]))))) (.keep [4, 15, 16, 17]))))))
 (.seq (.keep [4])
 (.seq (.ops false [o 41 (.mv (t 4)), o 2 (.mv (t 41))])
 .ret)))))))⟩
/-- slices.breakPatternsCmpFunc[coroner/api.Txn] -/
def F_slices_breakPatternsCmpFunc_api_Txn : AFn := ⟨4, [],
 (.seq (.ops false [o 13 (.mv (t 2)), o 14 (.mv (t 1)), o 15 (.bin .sub (t 13) (t 14)), o 8 (.mv (t 15))])
 (.seq (.ops false [o 16 (.mv (t 8)), o 17 (.bin .geq (t 16) (ci 8))])
 (.cond (t 17)
 (.seq (.ops false [o 18 (.mv (t 8)), o 19 (.conv .u64 (t 18)), o 9 (.alloc [(.int .u64 0)]), s (.store 1 (t 9) (t 19))])
 (.seq (.ops false [o 20 (.mv (t 8)), o 21 (.call (.func n_slices_nextPowerOfTwo) [(t 20)]), o 10 (.mv (t 21))])
 (.seq (.ops false [o 22 (.mv (t 1)), o 23 (.mv (t 8)), o 24 (.bin .quo (t 23) (ci 4)), o 25 (.bin .mul (t 24) (ci 2)), o 26 (.bin .add (t 22) (t 25)), o 27 (.bin .sub (t 26) (ci 1)), o 11 (.mv (t 27))])
 (.seq (.keep [0, 1, 8, 9, 10, 11])
 (.seq (.keep [0, 1, 8, 9, 10, 11]) (.block 0 (.loop (.seq (.seq (.seq (.ops false [o 28 (.mv (t 11)), o 29 (.mv (t 1)), o 30 (.mv (t 8)), o 31 (.bin .quo (t 30) (ci 4)), o 32 (.bin .mul (t 31) (ci 2)), o 33 (.bin .add (t 29) (t 32)), o 34 (.bin .add (t 33) (ci 1)), o 35 (.bin .leq (t 28) (t 34))])
 (.seq (.keep [0, 1, 8, 9, 10, 11, 35])
 (.cond (t 35)
 .skip
 (.exit 0))))
 (.seq (.keep [0, 1, 8, 9, 10, 11])
 (.seq (.block 1 (.seq (.ops false [o 38 (.call (.func n_slices_xorshift_Next) [(t 9)]), o 39 (.mv (t 10)), o 40 (.bin .sub (t 39) (.const (.int .u64 1))), o 41 (.bin .and (t 38) (t 40)), o 42 (.conv .i64 (t 41)), o 12 (.mv (t 42))])
 (.seq (.seq (.ops false [o 43 (.mv (t 12)), o 44 (.mv (t 8)), o 45 (.bin .geq (t 43) (t 44))])
 (.cond (t 45)
 (.ops false [o 46 (.mv (t 12)), o 47 (.mv (t 8)), o 48 (.bin .sub (t 46) (t 47)), o 12 (.mv (t 48))])
 .skip))
 (.seq (.keep [0, 1, 8, 9, 10, 11, 12])
 (.opsA [] [o 49 (.mv (t 0)), o 50 (.mv (t 11)), o 51 (.mv (t 0)), o 52 (.mv (t 1)), o 53 (.mv (t 12)), o 54 (.bin .add (t 52) (t 53)), o 55 (.mv (t 0)), o 56 (.mv (t 1)), o 57 (.mv (t 12)), o 58 (.bin .add (t 56) (t 57)), o 59 (.iaddr 3 (t 55) (t 58)), o 60 (.loadN 3 (t 59)), o 61 (.mv (t 0)), o 62 (.mv (t 11)), o 63 (.iaddr 3 (t 61) (t 62)), o 64 (.loadN 3 (t 63)), o 65 (.iaddr 3 (t 49) (t 50)), sb (.store 3 (t 65) (t 60)), o 66 (.iaddr 3 (t 51) (t 54)), sb (.store 3 (t 66) (t 64))])))))
 (.seq (.keep [0, 1, 8, 9, 10, 11])
 (.ops false [o 36 (.mv (t 11)), o 37 (.bin .add (t 36) (ci 1)), o 11 (.mv (t 37))]))))) (.keep [0, 1, 8, 9, 10, 11])))))))))
 .skip)))⟩
/-- slices.partialInsertionSortCmpFunc[coroner/api.Txn] -/
def F_slices_partialInsertionSortCmpFunc_api_Txn : AFn := ⟨4, [.tmp 8],
 (.seq (.ops false [o 8 (.mv (.const (.bool false)))])
 (.seq (.ops false [o 13 (.mv (t 1)), o 14 (.bin .add (t 13) (ci 1)), o 9 (.mv (t 14))])
 (.seq (.seq (.ops false [o 10 (.mv (ci 0))])
 (.seq (.keep [0, 1, 2, 3, 9, 10]) (.block 0 (.loop (.seq (.seq (.seq (.ops false [o 15 (.mv (t 10)), o 16 (.bin .lss (t 15) (ci 5))])
 (.cond (t 16)
 .skip
 (.exit 0)))
 (.seq (.block 1 (.seq (.seq (.keep [0, 1, 2, 3, 9, 10]) (.block 2 (.loop (.seq (.seq (.seq (.ops true [o 19 (.mv (t 9)), o 20 (.mv (t 2)), b 21 (.bin .lss (t 19) (t 20)), b 22 (.mv (t 21)), ⟨(some 23), .mv (t 3), some (22, true), false⟩, ⟨(some 24), .mv (t 0), some (22, true), false⟩, ⟨(some 25), .mv (t 9), some (22, true), false⟩, ⟨(some 26), .iaddr 3 (t 24) (t 25), some (22, true), false⟩, ⟨(some 27), .loadN 3 (t 26), some (22, true), false⟩, ⟨(some 28), .mv (t 0), some (22, true), false⟩, ⟨(some 29), .mv (t 9), some (22, true), false⟩, ⟨(some 30), .bin .sub (t 29) (ci 1), some (22, true), false⟩, ⟨(some 31), .iaddr 3 (t 28) (t 30), some (22, true), false⟩, ⟨(some 32), .loadN 3 (t 31), some (22, true), false⟩, ⟨(some 33), .call (t 23) [(t 27), (t 32)], some (22, true), true⟩, ⟨(some 34), .bin .lss (t 33) (ci 0), some (22, true), true⟩, ⟨(some 35), .un .not (t 34), some (22, true), true⟩, b 36 (.pick (t 22) (t 35) (.const (.bool false)))])
 (.seq (.keep [0, 1, 2, 3, 9, 10, 36])
 (.cond (t 36)
 .skip
 (.exit 2))))
 (.seq (.keep [0, 1, 2, 3, 9, 10])
 (.block 3 (.ops false [o 37 (.mv (t 9)), o 38 (.bin .add (t 37) (ci 1)), o 9 (.mv (t 38))])))) (.keep [0, 1, 2, 3, 9, 10])))))
 (.seq (.keep [0, 1, 2, 3, 9, 10])
 (.seq (.seq (.ops false [o 39 (.mv (t 9)), o 40 (.mv (t 2)), o 41 (.bin .eql (t 39) (t 40))])
 (.cond (t 41)
 (.seq (.ops false [o 8 (.mv (.const (.bool true)))])
 .ret)
 .skip))
 (.seq (.seq (.ops false [o 42 (.mv (t 2)), o 43 (.mv (t 1)), o 44 (.bin .sub (t 42) (t 43)), o 45 (.bin .lss (t 44) (ci 50))])
 (.cond (t 45)
 (.seq (.ops false [o 8 (.mv (.const (.bool false)))])
 .ret)
 .skip))
 (.seq (.opsA [] [o 46 (.mv (t 0)), o 47 (.mv (t 9)), o 48 (.mv (t 0)), o 49 (.mv (t 9)), o 50 (.bin .sub (t 49) (ci 1)), o 51 (.mv (t 0)), o 52 (.mv (t 9)), o 53 (.bin .sub (t 52) (ci 1)), o 54 (.iaddr 3 (t 51) (t 53)), o 55 (.loadN 3 (t 54)), o 56 (.mv (t 0)), o 57 (.mv (t 9)), o 58 (.iaddr 3 (t 56) (t 57)), o 59 (.loadN 3 (t 58)), o 60 (.iaddr 3 (t 46) (t 47)), sb (.store 3 (t 60) (t 55)), o 61 (.iaddr 3 (t 48) (t 50)), sb (.store 3 (t 61) (t 59))])
 (.seq (.keep [0, 1, 2, 3, 9, 10])
 (.seq (.seq (.ops false [o 62 (.mv (t 9)), o 63 (.mv (t 1)), o 64 (.bin .sub (t 62) (t 63)), o 65 (.bin .geq (t 64) (ci 2))])
 (.cond (t 65)
 (.seq (.ops false [o 66 (.mv (t 9)), o 67 (.bin .sub (t 66) (ci 1)), o 11 (.mv (t 67))])
 (.seq (.keep [0, 1, 2, 3, 9, 10, 11]) (.block 4 (.loop (.seq (.seq (.seq (.ops false [o 68 (.mv (t 11)), o 69 (.bin .geq (t 68) (ci 1))])
 (.cond (t 69)
 .skip
 (.exit 4)))
 (.seq (.block 5 (.seq (.seq (.ops true [o 72 (.mv (t 3)), o 73 (.mv (t 0)), o 74 (.mv (t 11)), o 75 (.iaddr 3 (t 73) (t 74)), o 76 (.loadN 3 (t 75)), o 77 (.mv (t 0)), o 78 (.mv (t 11)), o 79 (.bin .sub (t 78) (ci 1)), o 80 (.iaddr 3 (t 77) (t 79)), o 81 (.loadN 3 (t 80)), b 82 (.call (t 72) [(t 76), (t 81)]), b 83 (.bin .lss (t 82) (ci 0)), b 84 (.un .not (t 83))])
 (.seq (.keep [0, 1, 2, 3, 9, 10, 11, 84])
 (.cond (t 84)
 (.exit 4)
 .skip)))
 (.seq (.keep [0, 1, 2, 3, 9, 10, 11])
 (.opsA [] [o 85 (.mv (t 0)), o 86 (.mv (t 11)), o 87 (.mv (t 0)), o 88 (.mv (t 11)), o 89 (.bin .sub (t 88) (ci 1)), o 90 (.mv (t 0)), o 91 (.mv (t 11)), o 92 (.bin .sub (t 91) (ci 1)), o 93 (.iaddr 3 (t 90) (t 92)), o 94 (.loadN 3 (t 93)), o 95 (.mv (t 0)), o 96 (.mv (t 11)), o 97 (.iaddr 3 (t 95) (t 96)), o 98 (.loadN 3 (t 97)), o 99 (.iaddr 3 (t 85) (t 86)), sb (.store 3 (t 99) (t 94)), o 100 (.iaddr 3 (t 87) (t 89)), sb (.store 3 (t 100) (t 98))]))))
 (.seq (.keep [0, 1, 2, 3, 9, 10, 11])
 (.ops false [o 70 (.mv (t 11)), o 71 (.bin .sub (t 70) (ci 1)), o 11 (.mv (t 71))])))) (.keep [0, 1, 2, 3, 9, 10, 11]))))))
 .skip))
 (.seq (.keep [0, 1, 2, 3, 9, 10])
 (.seq (.ops false [o 101 (.mv (t 2)), o 102 (.mv (t 9)), o 103 (.bin .sub (t 101) (t 102)), o 104 (.bin .geq (t 103) (ci 2))])
 (.cond (t 104)
 (.seq (.ops false [o 105 (.mv (t 9)), o 106 (.bin .add (t 105) (ci 1)), o 12 (.mv (t 106))])
 (.seq (.keep [0, 1, 2, 3, 9, 10, 12]) (.block 6 (.loop (.seq (.seq (.seq (.ops false [o 107 (.mv (t 12)), o 108 (.mv (t 2)), o 109 (.bin .lss (t 107) (t 108))])
 (.cond (t 109)
 .skip
 (.exit 6)))
 (.seq (.block 7 (.seq (.seq (.ops true [o 112 (.mv (t 3)), o 113 (.mv (t 0)), o 114 (.mv (t 12)), o 115 (.iaddr 3 (t 113) (t 114)), o 116 (.loadN 3 (t 115)), o 117 (.mv (t 0)), o 118 (.mv (t 12)), o 119 (.bin .sub (t 118) (ci 1)), o 120 (.iaddr 3 (t 117) (t 119)), o 121 (.loadN 3 (t 120)), b 122 (.call (t 112) [(t 116), (t 121)]), b 123 (.bin .lss (t 122) (ci 0)), b 124 (.un .not (t 123))])
 (.seq (.keep [0, 1, 2, 3, 9, 10, 12, 124])
 (.cond (t 124)
 (.exit 6)
 .skip)))
 (.seq (.keep [0, 1, 2, 3, 9, 10, 12])
 (.opsA [] [o 125 (.mv (t 0)), o 126 (.mv (t 12)), o 127 (.mv (t 0)), o 128 (.mv (t 12)), o 129 (.bin .sub (t 128) (ci 1)), o 130 (.mv (t 0)), o 131 (.mv (t 12)), o 132 (.bin .sub (t 131) (ci 1)), o 133 (.iaddr 3 (t 130) (t 132)), o 134 (.loadN 3 (t 133)), o 135 (.mv (t 0)), o 136 (.mv (t 12)), o 137 (.iaddr 3 (t 135) (t 136)), o 138 (.loadN 3 (t 137)), o 139 (.iaddr 3 (t 125) (t 126)), sb (.store 3 (t 139) (t 134)), o 140 (.iaddr 3 (t 127) (t 129)), sb (.store 3 (t 140) (t 138))]))))
 (.seq (.keep [0, 1, 2, 3, 9, 10, 12])
 (.ops false [o 110 (.mv (t 12)), o 111 (.bin .add (t 110) (ci 1)), o 12 (.mv (t 111))])))) (.keep [0, 1, 2, 3, 9, 10, 12]))))))
 .skip)))))))))))
 (.seq (.keep [0, 1, 2, 3, 9, 10])
 (.ops false [o 17 (.mv (t 10)), o 18 (.bin .add (t 17) (ci 1)), o 10 (.mv (t 18))])))) (.keep [0, 1, 2, 3, 9, 10]))))))
 (.seq (.keep [])
 (.seq (.ops false [o 8 (.mv (.const (.bool false)))])
 .ret)))))⟩
/-- math/bits.Len32 -/
def F_math_bits_Len32 : AFn := ⟨1, [.tmp 2],
 (.seq (.ops false [o 2 (.mv (ci 0))])
 (.seq (.seq (.ops false [o 3 (.mv (t 0)), o 4 (.bin .geq (t 3) (.const (.int .u32 65536)))])
 (.cond (t 4)
 (.seq (.ops false [o 5 (.mv (t 0)), o 6 (.bin .shr (t 5) (.const (.int .u64 16))), o 0 (.mv (t 6))])
 (.ops false [o 2 (.mv (ci 16))]))
 .skip))
 (.seq (.seq (.ops false [o 7 (.mv (t 0)), o 8 (.bin .geq (t 7) (.const (.int .u32 256)))])
 (.cond (t 8)
 (.seq (.ops false [o 9 (.mv (t 0)), o 10 (.bin .shr (t 9) (.const (.int .u64 8))), o 0 (.mv (t 10))])
 (.ops false [o 11 (.mv (t 2)), o 12 (.bin .add (t 11) (ci 8)), o 2 (.mv (t 12))]))
 .skip))
 (.seq (.keep [0, 2])
 (.seq (.ops false [o 13 (.mv (t 2)), o 14 (.mv (t 0)), o 15 (.conv .u8 (t 14)), o 16 (.idxS (.const (.string ⟨#[0, 1, 2, 2, 3, 3, 3, 3, 4, 4, 4, 4, 4, 4, 4, 4, 5, 5, 5, 5, 5, 5, 5, 5, 5, 5, 5, 5, 5, 5, 5, 5, 6, 6, 6, 6, 6, 6, 6, 6, 6, 6, 6, 6, 6, 6, 6, 6, 6, 6, 6, 6, 6, 6, 6, 6, 6, 6, 6, 6, 6, 6, 6, 6, 7, 7, 7, 7, 7, 7, 7, 7, 7, 7, 7, 7, 7, 7, 7, 7, 7, 7, 7, 7, 7, 7, 7, 7, 7, 7, 7, 7, 7, 7, 7, 7, 7, 7, 7, 7, 7, 7, 7, 7, 7, 7, 7, 7, 7, 7, 7, 7, 7, 7, 7, 7, 7, 7, 7, 7, 7, 7, 7, 7, 7, 7, 7, 7, 8, 8, 8, 8, 8, 8, 8, 8, 8, 8, 8, 8, 8, 8, 8, 8, 8, 8, 8, 8, 8, 8, 8, 8, 8, 8, 8, 8, 8, 8, 8, 8, 8, 8, 8, 8, 8, 8, 8, 8, 8, 8, 8, 8, 8, 8, 8, 8, 8, 8, 8, 8, 8, 8, 8, 8, 8, 8, 8, 8, 8, 8, 8, 8, 8, 8, 8, 8, 8, 8, 8, 8, 8, 8, 8, 8, 8, 8, 8, 8, 8, 8, 8, 8, 8, 8, 8, 8, 8, 8, 8, 8, 8, 8, 8, 8, 8, 8, 8, 8, 8, 8, 8, 8, 8, 8, 8, 8, 8, 8, 8, 8, 8, 8, 8, 8, 8, 8, 8, 8, 8, 8, 8, 8, 8, 8, 8, 8]⟩)) (t 15)), o 17 (.conv .i64 (t 16)), o 18 (.bin .add (t 13) (t 17)), o 2 (.mv (t 18))])
 (.seq (.keep [2])
 .ret))))))⟩
/-- slices.ContainsFunc[[]int,int] -/
def F_slices_ContainsFunc_int_int : AFn := ⟨2, [.tmp 4],
 (.seq (.ops false [o 4 (.mv (.const (.bool false)))])
 (.seq (.ops false [o 5 (.mv (t 0)), o 6 (.mv (t 1)), o 7 (.call (.func n_slices_IndexFunc_int_int) [(t 5), (t 6)]), o 8 (.bin .geq (t 7) (ci 0)), o 4 (.mv (t 8))])
 .ret))⟩
/-- slices.siftDownCmpFunc[coroner/api.Txn] -/
def F_slices_siftDownCmpFunc_api_Txn : AFn := ⟨5, [],
 (.seq (.ops false [o 12 (.mv (t 1)), o 10 (.mv (t 12))])
 (.seq (.keep [0, 2, 3, 4, 10]) (.block 0 (.loop (.seq (.block 1 (.seq (.ops false [o 13 (.mv (t 10)), o 14 (.bin .mul (ci 2) (t 13)), o 15 (.bin .add (t 14) (ci 1)), o 11 (.mv (t 15))])
 (.seq (.seq (.ops false [o 16 (.mv (t 11)), o 17 (.mv (t 2)), o 18 (.bin .geq (t 16) (t 17))])
 (.cond (t 18)
 (.exit 0)
 .skip))
 (.seq (.seq (.ops true [o 19 (.mv (t 11)), o 20 (.bin .add (t 19) (ci 1)), o 21 (.mv (t 2)), b 22 (.bin .lss (t 20) (t 21)), b 23 (.mv (t 22)), ⟨(some 24), .mv (t 4), some (23, true), false⟩, ⟨(some 25), .mv (t 0), some (23, true), false⟩, ⟨(some 26), .mv (t 3), some (23, true), false⟩, ⟨(some 27), .mv (t 11), some (23, true), false⟩, ⟨(some 28), .bin .add (t 26) (t 27), some (23, true), false⟩, ⟨(some 29), .iaddr 3 (t 25) (t 28), some (23, true), false⟩, ⟨(some 30), .loadN 3 (t 29), some (23, true), false⟩, ⟨(some 31), .mv (t 0), some (23, true), false⟩, ⟨(some 32), .mv (t 3), some (23, true), false⟩, ⟨(some 33), .mv (t 11), some (23, true), false⟩, ⟨(some 34), .bin .add (t 32) (t 33), some (23, true), false⟩, ⟨(some 35), .bin .add (t 34) (ci 1), some (23, true), false⟩, ⟨(some 36), .iaddr 3 (t 31) (t 35), some (23, true), false⟩, ⟨(some 37), .loadN 3 (t 36), some (23, true), false⟩, ⟨(some 38), .call (t 24) [(t 30), (t 37)], some (23, true), true⟩, ⟨(some 39), .bin .lss (t 38) (ci 0), some (23, true), true⟩, b 40 (.pick (t 23) (t 39) (.const (.bool false)))])
 (.seq (.keep [0, 2, 3, 4, 10, 11, 40])
 (.cond (t 40)
 (.ops false [o 41 (.mv (t 11)), o 42 (.bin .add (t 41) (ci 1)), o 11 (.mv (t 42))])
 .skip)))
 (.seq (.keep [0, 2, 3, 4, 10, 11])
 (.seq (.seq (.ops true [o 43 (.mv (t 4)), o 44 (.mv (t 0)), o 45 (.mv (t 3)), o 46 (.mv (t 10)), o 47 (.bin .add (t 45) (t 46)), o 48 (.iaddr 3 (t 44) (t 47)), o 49 (.loadN 3 (t 48)), o 50 (.mv (t 0)), o 51 (.mv (t 3)), o 52 (.mv (t 11)), o 53 (.bin .add (t 51) (t 52)), o 54 (.iaddr 3 (t 50) (t 53)), o 55 (.loadN 3 (t 54)), b 56 (.call (t 43) [(t 49), (t 55)]), b 57 (.bin .lss (t 56) (ci 0)), b 58 (.un .not (t 57))])
 (.seq (.keep [0, 2, 3, 4, 10, 11, 58])
 (.cond (t 58)
 .ret
 .skip)))
 (.seq (.keep [0, 2, 3, 4, 10, 11])
 (.seq (.opsA [] [o 59 (.mv (t 0)), o 60 (.mv (t 3)), o 61 (.mv (t 10)), o 62 (.bin .add (t 60) (t 61)), o 63 (.mv (t 0)), o 64 (.mv (t 3)), o 65 (.mv (t 11)), o 66 (.bin .add (t 64) (t 65)), o 67 (.mv (t 0)), o 68 (.mv (t 3)), o 69 (.mv (t 11)), o 70 (.bin .add (t 68) (t 69)), o 71 (.iaddr 3 (t 67) (t 70)), o 72 (.loadN 3 (t 71)), o 73 (.mv (t 0)), o 74 (.mv (t 3)), o 75 (.mv (t 10)), o 76 (.bin .add (t 74) (t 75)), o 77 (.iaddr 3 (t 73) (t 76)), o 78 (.loadN 3 (t 77)), o 79 (.iaddr 3 (t 59) (t 62)), sb (.store 3 (t 79) (t 72)), o 80 (.iaddr 3 (t 63) (t 66)), sb (.store 3 (t 80) (t 78))])
 (.seq (.keep [0, 2, 3, 4, 11])
 (.ops false [o 81 (.mv (t 11)), o 10 (.mv (t 81))])))))))))) (.keep [0, 2, 3, 4, 10]))))))⟩
/-- slices.medianAdjacentCmpFunc[coroner/api.Txn] -/
def F_slices_medianAdjacentCmpFunc_api_Txn : AFn := ⟨4, [.tmp 8],
 (.seq (.ops false [o 8 (.mv (ci 0))])
 (.seq (.ops false [o 9 (.mv (t 0)), o 10 (.mv (t 1)), o 11 (.bin .sub (t 10) (ci 1)), o 12 (.mv (t 1)), o 13 (.mv (t 1)), o 14 (.bin .add (t 13) (ci 1)), o 15 (.mv (t 2)), o 16 (.mv (t 3)), o 17 (.call (.func n_slices_medianCmpFunc_api_Txn) [(t 9), (t 11), (t 12), (t 14), (t 15), (t 16)]), o 8 (.mv (t 17))])
 (.seq (.keep [8])
 .ret)))⟩
/-- slices.IndexFunc[[]int,int] -/
def F_slices_IndexFunc_int_int : AFn := ⟨2, [.tmp 4],
 (.seq (.ops false [o 4 (.mv (ci 0))])
 (.seq (.seq (.ops false [o 6 (.mv (t 0)), o 7 (.len 1 (t 6)), o 8 (.mv (ci 0))])
 (.seq (.keep [0, 1, 7, 8]) (.block 0 (.loop (.seq (.seq (.ops false [o 9 (.bin .lss (t 8) (t 7))])
 (.seq (.cond (t 9)
 .skip
 (.exit 0))
 (.seq (.block 1 (.seq (.ops false [o 10 (.mv (t 8)), o 5 (.mv (t 10))])
 (.seq (.ops false [o 11 (.mv (t 1)), o 12 (.mv (t 0)), o 13 (.mv (t 5)), o 14 (.iaddr 1 (t 12) (t 13)), o 15 (.load1 (t 14)), o 16 (.call (t 11) [(t 15)])])
 (.cond (t 16)
 (.seq (.ops false [o 17 (.mv (t 5)), o 4 (.mv (t 17))])
 .ret)
 .skip))))
 (.seq (.keep [0, 1, 7, 8])
 (.ops false [o 18 (.bin .add (t 8) (ci 1)), o 8 (.mv (t 18))]))))) (.keep [0, 1, 7, 8]))))))
 (.seq (.keep [])
 (.seq (.ops false [o 4 (.mv (ci (-1)))])
 .ret))))⟩
/-- coroner/digits.may -/
def F_digits_may : AFn := ⟨1, [.tmp 2],
 (.seq (.ops false [o 2 (.mv (.const (.bool false)))])
 (.seq (.ops false [o 3 (.mv (t 0)), o 4 (.bin .geq (t 3) (ci 0)), o 5 (.mv (t 4)), ⟨(some 6), .mv (t 0), some (5, true), false⟩, ⟨(some 7), .bin .leq (t 6) (ci 2147483647), some (5, true), false⟩, o 8 (.pick (t 5) (t 7) (.const (.bool false))), o 2 (.mv (t 8))])
 (.seq (.keep [2])
 .ret)))⟩
/-- coroner/coronerlaw12.works -/
def F_l12_works : AFn := ⟨0, [.tmp 0],
 (.seq (.ops false [o 0 (.mv (.const (.bool false)))])
 (.seq (.ops false [o 8 (.call (.func n_l12_one) []), o 9 (.call (.func n_table_New) [(t 8)]), o 7 (.mv (t 9)), o 10 (.extract 0 (t 7)), o 11 (.extract 1 (t 7)), o 1 (.mv (t 10)), o 2 (.mv (t 11))])
 (.seq (.keep [1, 2])
 (.seq (.ops false [o 13 (.mv (t 1)), o 14 (.call (.func n_table_Table_Writer) [(t 13), (ci 1), (ci 5)]), o 12 (.mv (t 14)), o 15 (.extract 0 (t 12)), o 16 (.extract 1 (t 12)), o 3 (.alloc [(.int .i64 0), (.int .i64 0), (.int .i64 0), (.int .i64 0), (.bool false)]), s (.store 5 (t 3) (t 15)), o 4 (.mv (t 16))])
 (.seq (.keep [1, 2, 3, 4])
 (.seq (.ops false [o 18 (.mv (t 1)), o 19 (.call (.func n_table_Table_Rank) [(t 18), (ci 7)]), o 17 (.mv (t 19)), o 20 (.extract 0 (t 17)), o 21 (.extract 1 (t 17)), o 5 (.mv (t 20)), o 6 (.mv (t 21))])
 (.seq (.keep [1, 2, 3, 4, 5, 6])
 (.seq (.ops false (o 22 (.mv (t 2)) :: o 23 (.bin .eql (t 22) (ci 0)) :: o 24 (.mv (t 23)) :: ⟨(some 25), .mv (t 4), some (24, true), false⟩ :: o 26 (.pick (t 24) (t 25) (.const (.bool false))) :: o 27 (.mv (t 26)) :: ⟨(some 28), .loadN 5 (t 3), some (27, true), false⟩ :: ⟨(some 29), .build [(.int .i64 0), (.int .i64 0), (.int .i64 0), (.int .i64 0), (.bool false)] [(0, (1, (ci 7))), (2, (1, (ci 1))), (3, (1, (ci 5)))], some (27, true), false⟩ :: ⟨(some 30), .eqA [1, 1, 1, 1, 0] false (t 28) (t 29), some (27, true), false⟩ :: o 31 (.pick (t 27) (t 30) (.const (.bool false))) :: o 32 (.mv (t 31)) :: ⟨(some 33), .mv (t 6), some (32, true), false⟩ :: o 34 (.pick (t 32) (t 33) (.const (.bool false))) :: o 35 (.mv (t 34)) :: ⟨(some 36), .mv (t 5), some (35, true), false⟩ :: ⟨(some 37), .bin .eql (t 36) (ci 0), some (35, true), false⟩ :: o 38 (.pick (t 35) (t 37) (.const (.bool false))) :: o 39 (.mv (t 38)) :: ⟨(some 40), .mv (t 1), some (39, true), false⟩ :: ⟨(some 41), .call (.func n_table_Table_IDs) [(t 40)], some (39, true), false⟩ :: ⟨(some 42), .bslice 1 1 [(.int .i64 0)] [(0, (1, (ci 7)))], some (39, true), false⟩ :: ⟨(some 43), .call (.func n_r01_Same) [(t 41), (t 42)], some (39, true), false⟩ :: o 44 (.pick (t 39) (t 43) (.const (.bool false))) :: o 45 (.mv (t 44)) :: ⟨(some 46), .mv (t 1), some (45, true), false⟩ :: ⟨(some 47), .call (.func n_table_Table_Keys) [(t 46)], some (45, true), false⟩ :: ⟨(some 48), .bslice 1 2 [(.int .i64 0), (.int .i64 0)] [(0, (1, (ci 0))), (1, (1, (ci 1)))], some (45, true), false⟩ :: ⟨(some 49), .call (.func n_r01_Same) [(t 47), (t 48)], some (45, true), false⟩ :: o 50 (.pick (t 45) (t 49) (.const (.bool false))) :: o 51 (.mv (t 50)) :: ⟨(some 52), .mv (t 1), some (51, true), false⟩ :: ⟨(some 53), .call (.func n_table_Table_Appends) [(t 52), (ci 2), (ci 0)], some (51, true), false⟩ :: ⟨(some 54), .bslice 1 1 [(.int .i64 0)] [(0, (1, (ci 3)))], some (51, true), false⟩ :: ⟨(some 55), .call (.func n_r01_Same) [(t 53), (t 54)], some (51, true), false⟩ :: o 56 (.pick (t 51) (t 55) (.const (.bool false))) :: o 57 (.mv (t 56)) :: ⟨(some 58), .mv (t 1), some (57, true), false⟩ :: ⟨(some 59), .call (.func n_table_Table_Reads) [(t 58), (ci 1)], some (57, true), false⟩ :: ⟨(some 60), .eqv 4 true (t 59) (.const .nilFunc), some (57, true), false⟩ :: o 61 (.pick (t 57) (t 60) (.const (.bool false))) :: o 62 (.mv (t 61)) :: ⟨(some 63), .mv (t 1), some (62, true), false⟩ :: ⟨(some 64), .call (.func n_table_Table_Writes) [(t 63), (ci 1)], some (62, true), false⟩ :: ⟨(some 65), .eqv 4 true (t 64) (.const .nilFunc), some (62, true), false⟩ :: o 66 (.pick (t 62) (t 65) (.const (.bool false))) :: o 0 (.mv (t 66)) :: []))
 (.seq (.keep [0])
 .ret)))))))))⟩
/-- (*coroner/table.Table).Rank -/
def F_table_Table_Rank : AFn := ⟨2, [.tmp 4, .tmp 5],
 (.seq (.ops false [o 4 (.mv (ci 0)), o 5 (.mv (.const (.bool false)))])
 (.seq (.seq (.ops false [o 8 (.mv (t 0)), o 9 (.call (.func n_table_Table_is) [(t 8)]), o 10 (.un .not (t 9))])
 (.cond (t 10)
 (.seq (.ops false [o 4 (.mv (ci 0)), o 5 (.mv (.const (.bool false)))])
 .ret)
 .skip))
 (.seq (.ops false [o 12 (.mv (t 0)), o 13 (.nilc (t 12)), o 14 (.faddr 1 (t 13)), o 15 (.load1 (t 14)), o 16 (.mv (t 1)), o 17 (.call (.func n_slices_BinarySearch_int_int) [(t 15), (t 16)]), o 11 (.mv (t 17)), o 18 (.extract 0 (t 11)), o 19 (.extract 1 (t 11)), o 6 (.mv (t 18)), o 7 (.mv (t 19))])
 (.seq (.keep [6, 7])
 (.seq (.seq (.ops false [o 20 (.mv (t 7)), o 21 (.un .not (t 20))])
 (.cond (t 21)
 (.seq (.ops false [o 4 (.mv (ci 0)), o 5 (.mv (.const (.bool false)))])
 .ret)
 .skip))
 (.seq (.ops false [o 22 (.mv (t 6)), o 4 (.mv (t 22)), o 5 (.mv (.const (.bool true)))])
 .ret))))))⟩
/-- (*coroner/table.Table).IDs -/
def F_table_Table_IDs : AFn := ⟨1, [.tmp 2],
 (.seq (.ops false [o 2 (.mv (.const (.slice none 0 0)))])
 (.seq (.seq (.ops false [o 3 (.mv (t 0)), o 4 (.call (.func n_table_Table_is) [(t 3)]), o 5 (.un .not (t 4))])
 (.cond (t 5)
 (.seq (.ops false [o 2 (.mv (.const (.slice none 0 0)))])
 .ret)
 .skip))
 (.seq (.ops false [o 6 (.mv (t 0)), o 7 (.nilc (t 6)), o 8 (.faddr 1 (t 7)), o 9 (.load1 (t 8)), o 10 (.call (.func n_slices_Clone_int_int) [(t 9)]), o 2 (.mv (t 10))])
 .ret)))⟩
/-- (*coroner/table.Table).Appends -/
def F_table_Table_Appends : AFn := ⟨3, [.tmp 6],
 (.seq (.ops false [o 6 (.mv (.const (.slice none 0 0)))])
 (.seq (.seq (.ops false [o 7 (.mv (t 0)), o 8 (.call (.func n_table_Table_is) [(t 7)]), o 9 (.un .not (t 8))])
 (.cond (t 9)
 (.seq (.ops false [o 6 (.mv (.const (.slice none 0 0)))])
 .ret)
 .skip))
 (.seq (.ops false [o 10 (.mv (t 0)), o 11 (.nilc (t 10)), o 12 (.faddr 4 (t 11)), o 13 (.load1 (t 12)), o 14 (.mv (t 1)), o 15 (.mv (t 2)), o 16 (.build [(.int .i64 0), (.int .i64 0)] [(0, (1, (t 14))), (1, (1, (t 15)))]), o 17 (.lookup (.many [1, 1]) (.slice none 0 0) false (t 13) (t 16)), o 18 (.call (.func n_slices_Clone_int_int) [(t 17)]), o 6 (.mv (t 18))])
 (.seq (.keep [6])
 .ret))))⟩
/-- (*coroner/table.Table).Writes -/
def F_table_Table_Writes : AFn := ⟨2, [.tmp 4],
 (.seq (.ops false [o 4 (.mv (.const .nilFunc))])
 (.seq (.seq (.ops false [o 5 (.mv (t 0)), o 6 (.call (.func n_table_Table_is) [(t 5)]), o 7 (.un .not (t 6))])
 (.cond (t 7)
 (.seq (.ops false [o 8 (.call (.func n_table_goes_table_Write) [(.const (.slice none 0 0))]), o 4 (.mv (t 8))])
 .ret)
 .skip))
 (.seq (.ops false [o 9 (.mv (t 0)), o 10 (.nilc (t 9)), o 11 (.faddr 6 (t 10)), o 12 (.load1 (t 11)), o 13 (.mv (t 1)), o 14 (.lookup (.one 1) (.slice none 0 0) false (t 12) (t 13)), o 15 (.call (.func n_table_goes_table_Write) [(t 14)]), o 4 (.mv (t 15))])
 (.seq (.keep [4])
 .ret))))⟩
/-- coroner/coronerlaw12.one -/
def F_l12_one : AFn := ⟨0, [.cellN 0 1],
 (.seq (.ops false [o 0 (.alloc [(.slice none 0 0)])])
 (.seq (.ops false [o 1 (.build [(.bool false), (.int .i64 0), (.int .i64 0), (.slice none 0 0)] [(1, (1, (ci 1))), (2, (1, (ci 5)))]), o 2 (.bslice 1 2 [(.int .i64 0), (.int .i64 0)] [(0, (1, (ci 3))), (1, (1, (ci 5)))]), o 3 (.build [(.bool false), (.int .i64 0), (.int .i64 0), (.slice none 0 0)] [(0, (1, (.const (.bool true)))), (1, (1, (ci 1))), (3, (1, (t 2)))]), o 4 (.bslice 4 2 [(.bool false), (.int .i64 0), (.int .i64 0), (.slice none 0 0), (.bool false), (.int .i64 0), (.int .i64 0), (.slice none 0 0)] [(0, (4, (t 1))), (4, (4, (t 3)))]), o 5 (.build [(.int .i64 0), (.bool false), (.slice none 0 0)] [(0, (1, (ci 7))), (2, (1, (t 4)))]), o 6 (.build [(.bool false), (.int .i64 0), (.int .i64 0), (.slice none 0 0)] [(1, (1, (ci 0))), (2, (1, (ci 3)))]), o 7 (.bslice 4 1 [(.bool false), (.int .i64 0), (.int .i64 0), (.slice none 0 0)] [(0, (4, (t 6)))]), o 8 (.build [(.int .i64 0), (.bool false), (.slice none 0 0)] [(0, (1, (ci 2))), (1, (1, (.const (.bool true)))), (2, (1, (t 7)))]), o 9 (.bslice 3 2 [(.int .i64 0), (.bool false), (.slice none 0 0), (.int .i64 0), (.bool false), (.slice none 0 0)] [(0, (3, (t 5))), (3, (3, (t 8)))]), o 10 (.build [(.slice none 0 0)] [(0, (1, (t 9)))]), s (.store 1 (t 0) (t 10))])
 (.seq (.keep [0])
 .ret)))⟩
/-- slices.SortFunc[[]coroner/api.Txn,coroner/api.Txn] -/
def F_slices_SortFunc_api_Txn_api_Txn : AFn := ⟨2, [],
 (.seq (.ops false [o 5 (.mv (t 0)), o 6 (.len 1 (t 5)), o 4 (.mv (t 6))])
 (.ops false [o 7 (.mv (t 0)), o 8 (.mv (t 4)), o 9 (.mv (t 4)), o 10 (.conv .u64 (t 9)), o 11 (.call (.func n_math_bits_Len) [(t 10)]), o 12 (.mv (t 1)), o 13 (.call (.func n_slices_pdqsortCmpFunc_api_Txn) [(t 7), (ci 0), (t 8), (t 11), (t 12)])]))⟩
/-- coroner/table.steps -/
def F_table_steps : AFn := ⟨1, [.tmp 2],
 (.seq (.ops false [o 1 (.box (t 0)), o 2 (.mv (.const .nilFunc))])
 (.seq (.ops false [o 3 (.mkf n_table_steps_c1 [] [(t 1)]), o 2 (.mv (t 3))])
 .ret))⟩
/-- (coroner/sorted.Set[int]).List -/
def F_sorted_Set_int_List : AFn := ⟨1, [.tmp 2],
 (.seq (.ops false [o 1 (.box (t 0)), o 2 (.mv (.const (.slice none 0 0)))])
 (.seq (.ops false [o 3 (.faddr 0 (t 1)), o 4 (.load1 (t 3)), o 5 (.call (.func n_slices_Clone_int_int) [(t 4)]), o 2 (.mv (t 5))])
 .ret))⟩
/-- slices.Clone[[]int,int] -/
def F_slices_Clone_int_int : AFn := ⟨1, [.tmp 2],
 (.seq (.ops false [o 2 (.mv (.const (.slice none 0 0)))])
 (.seq (.seq (.ops false [o 3 (.mv (t 0)), o 4 (.eqv 2 false (t 3) (.const (.slice none 0 0)))])
 (.cond (t 4)
 (.seq (.ops false [o 2 (.mv (.const (.slice none 0 0)))])
 .ret)
 .skip))
 (.seq (.ops false [o 5 (.bslice 1 0 [] []), o 6 (.mv (t 0)), o 7 (.append 1 8 (t 5) (t 6)), o 2 (.mv (t 7))])
 .ret)))⟩
/-- coroner/table.goes[coroner/table.Write] -/
def F_table_goes_table_Write : AFn := ⟨1, [.tmp 2],
 (.seq (.ops false [o 1 (.box (t 0)), o 2 (.mv (.const .nilFunc))])
 (.seq (.ops false [o 3 (.mkf n_table_goes_table_Write_c1 [] [(t 1)]), o 2 (.mv (t 3))])
 .ret))⟩
/-- coroner/encode.parts -/
def F_encode_parts : AFn := ⟨1, [.tmp 2],
 (.seq (.ops false [o 1 (.box (t 0)), o 2 (.mv (ci 0))])
 (.seq (.ops false [o 14 (.mkmap), o 15 (.mkmap), o 3 (.mv (t 14)), o 4 (.mv (t 15))])
 (.seq (.seq (.ops false [o 16 (.faddr 0 (t 1)), o 17 (.load1 (t 16)), o 18 (.len 1 (t 17)), o 19 (.mv (ci 0))])
 (.seq (.keep [3, 4, 17, 18, 19]) (.block 0 (.loop (.seq (.seq (.ops false [o 20 (.bin .lss (t 19) (t 18))])
 (.seq (.cond (t 20)
 .skip
 (.exit 0))
 (.seq (.block 1 (.seq (.ops false [o 21 (.mv (t 19)), o 22 (.iaddr 3 (t 17) (t 19)), o 23 (.loadN 3 (t 22)), o 6 (.alloc [(.int .i64 0), (.bool false), (.slice none 0 0)]), o 5 (.mv (t 21)), s (.store 3 (t 6) (t 23))])
 (.seq (.seq (.ops false [o 24 (.faddr 0 (t 6)), o 25 (.load1 (t 24)), o 26 (.bslice 1 1 [(.int .i64 0)] [(0, (1, (t 25)))]), o 27 (.call (.func n_encode_may) [(t 26)]), o 28 (.un .not (t 27))])
 (.cond (t 28)
 (.seq (.ops false [o 2 (.mv (ci 2))])
 .ret)
 .skip))
 (.seq (.seq (.ops false [o 30 (.mv (t 3)), o 31 (.faddr 0 (t 6)), o 32 (.load1 (t 31)), o 33 (.lookup (.one 1) (.int .i64 0) true (t 30) (t 32)), o 29 (.mv (t 33)), o 34 (.extract 0 (t 29)), o 35 (.extract 1 (t 29)), o 7 (.mv (t 34)), o 8 (.mv (t 35))])
 (.seq (.keep [3, 4, 5, 6, 8, 17, 18, 19])
 (.seq (.ops false [o 36 (.mv (t 8))])
 (.cond (t 36)
 (.seq (.ops false [o 2 (.mv (ci 5))])
 .ret)
 .skip))))
 (.seq (.keep [3, 4, 5, 6, 17, 18, 19])
 (.seq (.ops false [o 37 (.mv (t 3)), o 38 (.faddr 0 (t 6)), o 39 (.load1 (t 38)), o 40 (.mv (t 5)), s (.mapupd (.one 1) (t 37) (t 39) (t 40))])
 (.seq (.ops false [o 41 (.faddr 2 (t 6)), o 42 (.load1 (t 41)), o 43 (.len 1 (t 42)), o 44 (.mv (ci 0))])
 (.seq (.keep [3, 4, 5, 17, 18, 19, 42, 43, 44]) (.block 2 (.loop (.seq (.seq (.ops false [o 45 (.bin .lss (t 44) (t 43))])
 (.seq (.cond (t 45)
 .skip
 (.exit 2))
 (.seq (.block 3 (.seq (.ops false [o 46 (.iaddr 4 (t 42) (t 44)), o 47 (.loadN 4 (t 46)), o 10 (.alloc [(.bool false), (.int .i64 0), (.int .i64 0), (.slice none 0 0)]), s (.store 4 (t 10) (t 47))])
 (.seq (.seq (.ops false [o 48 (.loadN 4 (t 10)), o 49 (.call (.func n_encode_mayOp) [(t 48)]), o 50 (.un .not (t 49))])
 (.cond (t 50)
 (.seq (.ops false [o 2 (.mv (ci 2))])
 .ret)
 .skip))
 (.seq (.seq (.ops false [o 51 (.faddr 0 (t 10)), o 52 (.load1 (t 51))])
 (.cond (t 52)
 (.exit 3)
 .skip))
 (.seq (.ops false [o 53 (.faddr 1 (t 10)), o 54 (.load1 (t 53)), o 55 (.faddr 2 (t 10)), o 56 (.load1 (t 55)), o 57 (.build [(.int .i64 0), (.int .i64 0)] [(0, (1, (t 54))), (1, (1, (t 56)))]), o 11 (.alloc [(.int .i64 0), (.int .i64 0)]), s (.store 2 (t 11) (t 57))])
 (.seq (.keep [3, 4, 5, 11, 17, 18, 19, 42, 43, 44])
 (.seq (.seq (.ops false [o 59 (.mv (t 4)), o 60 (.loadN 2 (t 11)), o 61 (.lookup (.many [1, 1]) (.int .i64 0) true (t 59) (t 60)), o 58 (.mv (t 61)), o 62 (.extract 0 (t 58)), o 63 (.extract 1 (t 58)), o 12 (.mv (t 62)), o 13 (.mv (t 63))])
 (.seq (.keep [3, 4, 5, 11, 13, 17, 18, 19, 42, 43, 44])
 (.seq (.ops false [o 64 (.mv (t 13))])
 (.cond (t 64)
 (.seq (.ops false [o 2 (.mv (ci 6))])
 .ret)
 .skip))))
 (.seq (.keep [3, 4, 5, 11, 17, 18, 19, 42, 43, 44])
 (.ops false [o 65 (.mv (t 4)), o 66 (.loadN 2 (t 11)), o 67 (.mv (t 5)), s (.mapupd (.many [1, 1]) (t 65) (t 66) (t 67))])))))))))
 (.seq (.keep [3, 4, 5, 17, 18, 19, 42, 43, 44])
 (.ops false [o 68 (.bin .add (t 44) (ci 1)), o 44 (.mv (t 68))]))))) (.keep [3, 4, 5, 17, 18, 19, 42, 43, 44]))))))))))))
 (.seq (.keep [3, 4, 17, 18, 19])
 (.ops false [o 69 (.bin .add (t 19) (ci 1)), o 19 (.mv (t 69))]))))) (.keep [3, 4, 17, 18, 19]))))))
 (.seq (.keep [])
 (.seq (.ops false [o 2 (.mv (ci 0))])
 .ret)))))⟩
/-- math/bits.Len -/
def F_math_bits_Len : AFn := ⟨1, [.tmp 2],
 (.seq (.ops false [o 2 (.mv (ci 0))])
 (.seq (.cond (.const (.bool false))
 (.seq (.ops false [o 3 (.mv (t 0)), o 4 (.conv .u32 (t 3)), o 5 (.call (.func n_math_bits_Len32) [(t 4)]), o 2 (.mv (t 5))])
 .ret)
 .skip)
 (.seq (.ops false [o 6 (.mv (t 0)), o 7 (.call (.func n_math_bits_Len64) [(t 6)]), o 2 (.mv (t 7))])
 .ret)))⟩
/-- cmp.Less[int] -/
def F_cmp_Less_int : AFn := ⟨2, [.tmp 4],
 (.seq (.ops false [o 4 (.mv (.const (.bool false)))])
 (.seq (.ops false [o 5 (.mv (t 0)), o 6 (.call (.func n_cmp_isNaN_int) [(t 5)]), o 7 (.mv (t 6)), ⟨(some 8), .mv (t 1), some (7, true), false⟩, ⟨(some 9), .call (.func n_cmp_isNaN_int) [(t 8)], some (7, true), false⟩, ⟨(some 10), .un .not (t 9), some (7, true), false⟩, o 11 (.pick (t 7) (t 10) (.const (.bool false))), o 12 (.mv (t 11)), ⟨(some 13), .mv (t 0), some (12, false), false⟩, ⟨(some 14), .mv (t 1), some (12, false), false⟩, ⟨(some 15), .bin .lss (t 13) (t 14), some (12, false), false⟩, o 16 (.pick (t 12) (.const (.bool true)) (t 15)), o 4 (.mv (t 16))])
 (.seq (.keep [4])
 .ret)))⟩
/-- coroner/table.goes[coroner/table.Read]$1 -/
def F_table_goes_table_Read_c1 : AFn := ⟨2, [],
 (.seq (.ops false [o 5 (.load1 (t 1)), o 6 (.len 1 (t 5)), o 7 (.mv (ci 0))])
 (.seq (.keep [0, 5, 6, 7]) (.block 0 (.loop (.seq (.seq (.ops false [o 8 (.bin .lss (t 7) (t 6))])
 (.seq (.cond (t 8)
 .skip
 (.exit 0))
 (.seq (.block 1 (.seq (.ops false [o 9 (.iaddr 5 (t 5) (t 7)), o 10 (.loadN 5 (t 9)), o 4 (.alloc [(.int .i64 0), (.int .i64 0), (.int .i64 0), (.slice none 0 0), (.slice none 0 0)]), s (.store 5 (t 4) (t 10))])
 (.seq (.ops false [o 11 (.mv (t 0)), o 12 (.loadN 5 (t 4)), o 13 (.call (t 11) [(t 12)]), o 14 (.un .not (t 13))])
 (.cond (t 14)
 .ret
 .skip))))
 (.seq (.keep [0, 5, 6, 7])
 (.ops false [o 15 (.bin .add (t 7) (ci 1)), o 7 (.mv (t 15))]))))) (.keep [0, 5, 6, 7]))))))⟩
/-- coroner/encode.may -/
def F_encode_may : AFn := ⟨1, [.tmp 2],
 (.seq (.ops false [o 2 (.mv (.const (.bool false)))])
 (.seq (.ops false [o 3 (.mv (t 0)), o 4 (.call (.func n_slices_ContainsFunc_int_int) [(t 3), (.func n_encode_may_c1)]), o 5 (.un .not (t 4)), o 2 (.mv (t 5))])
 .ret))⟩
/-- slices.insertionSortCmpFunc[coroner/api.Txn] -/
def F_slices_insertionSortCmpFunc_api_Txn : AFn := ⟨4, [],
 (.seq (.ops false [o 10 (.mv (t 1)), o 11 (.bin .add (t 10) (ci 1)), o 8 (.mv (t 11))])
 (.seq (.keep [0, 1, 2, 3, 8]) (.block 0 (.loop (.seq (.seq (.seq (.ops false [o 12 (.mv (t 8)), o 13 (.mv (t 2)), o 14 (.bin .lss (t 12) (t 13))])
 (.cond (t 14)
 .skip
 (.exit 0)))
 (.seq (.block 1 (.seq (.ops false [o 17 (.mv (t 8)), o 9 (.mv (t 17))])
 (.seq (.keep [0, 1, 2, 3, 8, 9]) (.block 2 (.loop (.seq (.seq (.seq (.ops true [o 18 (.mv (t 9)), o 19 (.mv (t 1)), b 20 (.bin .gtr (t 18) (t 19)), b 21 (.mv (t 20)), ⟨(some 22), .mv (t 3), some (21, true), false⟩, ⟨(some 23), .mv (t 0), some (21, true), false⟩, ⟨(some 24), .mv (t 9), some (21, true), false⟩, ⟨(some 25), .iaddr 3 (t 23) (t 24), some (21, true), false⟩, ⟨(some 26), .loadN 3 (t 25), some (21, true), false⟩, ⟨(some 27), .mv (t 0), some (21, true), false⟩, ⟨(some 28), .mv (t 9), some (21, true), false⟩, ⟨(some 29), .bin .sub (t 28) (ci 1), some (21, true), false⟩, ⟨(some 30), .iaddr 3 (t 27) (t 29), some (21, true), false⟩, ⟨(some 31), .loadN 3 (t 30), some (21, true), false⟩, ⟨(some 32), .call (t 22) [(t 26), (t 31)], some (21, true), true⟩, ⟨(some 33), .bin .lss (t 32) (ci 0), some (21, true), true⟩, b 34 (.pick (t 21) (t 33) (.const (.bool false)))])
 (.seq (.keep [0, 1, 2, 3, 8, 9, 34])
 (.cond (t 34)
 .skip
 (.exit 2))))
 (.seq (.keep [0, 1, 2, 3, 8, 9])
 (.seq (.block 3 (.opsA [] [o 37 (.mv (t 0)), o 38 (.mv (t 9)), o 39 (.mv (t 0)), o 40 (.mv (t 9)), o 41 (.bin .sub (t 40) (ci 1)), o 42 (.mv (t 0)), o 43 (.mv (t 9)), o 44 (.bin .sub (t 43) (ci 1)), o 45 (.iaddr 3 (t 42) (t 44)), o 46 (.loadN 3 (t 45)), o 47 (.mv (t 0)), o 48 (.mv (t 9)), o 49 (.iaddr 3 (t 47) (t 48)), o 50 (.loadN 3 (t 49)), o 51 (.iaddr 3 (t 37) (t 38)), sb (.store 3 (t 51) (t 46)), o 52 (.iaddr 3 (t 39) (t 41)), sb (.store 3 (t 52) (t 50))]))
 (.seq (.keep [0, 1, 2, 3, 8, 9])
 (.ops false [o 35 (.mv (t 9)), o 36 (.bin .sub (t 35) (ci 1)), o 9 (.mv (t 36))]))))) (.keep [0, 1, 2, 3, 8, 9])))))))
 (.seq (.keep [0, 1, 2, 3, 8])
 (.ops false [o 15 (.mv (t 8)), o 16 (.bin .add (t 15) (ci 1)), o 8 (.mv (t 16))])))) (.keep [0, 1, 2, 3, 8]))))))⟩
/-- slices.choosePivotCmpFunc[coroner/api.Txn] -/
def F_slices_choosePivotCmpFunc_api_Txn : AFn := ⟨4, [.tmp 8, .tmp 9],
 (.seq (.ops false [o 8 (.mv (ci 0)), o 9 (.mv (ci 0))])
 (.seq (.ops false [o 15 (.mv (t 2)), o 16 (.mv (t 1)), o 17 (.bin .sub (t 15) (t 16)), o 10 (.mv (t 17))])
 (.seq (.ops false [o 11 (.alloc [(.int .i64 0)])])
 (.seq (.ops false [o 18 (.mv (t 1)), o 19 (.mv (t 10)), o 20 (.bin .quo (t 19) (ci 4)), o 21 (.bin .mul (t 20) (ci 1)), o 22 (.bin .add (t 18) (t 21)), o 12 (.mv (t 22))])
 (.seq (.ops false [o 23 (.mv (t 1)), o 24 (.mv (t 10)), o 25 (.bin .quo (t 24) (ci 4)), o 26 (.bin .mul (t 25) (ci 2)), o 27 (.bin .add (t 23) (t 26)), o 13 (.mv (t 27))])
 (.seq (.ops false [o 28 (.mv (t 1)), o 29 (.mv (t 10)), o 30 (.bin .quo (t 29) (ci 4)), o 31 (.bin .mul (t 30) (ci 3)), o 32 (.bin .add (t 28) (t 31)), o 14 (.mv (t 32))])
 (.seq (.seq (.ops false [o 33 (.mv (t 10)), o 34 (.bin .geq (t 33) (ci 8))])
 (.cond (t 34)
 (.seq (.seq (.ops false [o 35 (.mv (t 10)), o 36 (.bin .geq (t 35) (ci 50))])
 (.cond (t 36)
 (.seq (.ops false [o 37 (.mv (t 0)), o 38 (.mv (t 12)), o 39 (.mv (t 3)), o 40 (.call (.func n_slices_medianAdjacentCmpFunc_api_Txn) [(t 37), (t 38), (t 11), (t 39)]), o 12 (.mv (t 40))])
 (.seq (.ops false [o 41 (.mv (t 0)), o 42 (.mv (t 13)), o 43 (.mv (t 3)), o 44 (.call (.func n_slices_medianAdjacentCmpFunc_api_Txn) [(t 41), (t 42), (t 11), (t 43)]), o 13 (.mv (t 44))])
 (.ops false [o 45 (.mv (t 0)), o 46 (.mv (t 14)), o 47 (.mv (t 3)), o 48 (.call (.func n_slices_medianAdjacentCmpFunc_api_Txn) [(t 45), (t 46), (t 11), (t 47)]), o 14 (.mv (t 48))])))
 .skip))
 (.seq (.keep [0, 3, 11, 12, 13, 14])
 (.ops false [o 49 (.mv (t 0)), o 50 (.mv (t 12)), o 51 (.mv (t 13)), o 52 (.mv (t 14)), o 53 (.mv (t 3)), o 54 (.call (.func n_slices_medianCmpFunc_api_Txn) [(t 49), (t 50), (t 51), (t 52), (t 11), (t 53)]), o 13 (.mv (t 54))])))
 .skip))
 (.seq (.keep [11, 13])
 (.seq (.ops false [o 55 (.load1 (t 11))])
 (.block 0 (.seq (.ops false [o 58 (.bin .eql (t 55) (ci 0)), o 57 (.mv (t 58))])
 (.cond (t 57)
 (.seq (.ops false [o 59 (.mv (t 13)), o 8 (.mv (t 59)), o 9 (.mv (ci 1))])
 .ret)
 (.seq (.ops false [o 61 (.bin .eql (t 55) (ci 12)), o 60 (.mv (t 61))])
 (.cond (t 60)
 (.seq (.ops false [o 62 (.mv (t 13)), o 8 (.mv (t 62)), o 9 (.mv (ci 2))])
 .ret)
 (.seq (.ops false [o 56 (.mv (t 13)), o 8 (.mv (t 56)), o 9 (.mv (ci 0))])
 .ret)))))))))))))))⟩
/-- slices.partitionEqualCmpFunc[coroner/api.Txn] -/
def F_slices_partitionEqualCmpFunc_api_Txn : AFn := ⟨5, [.tmp 10],
 (.seq (.ops false [o 10 (.mv (ci 0))])
 (.seq (.opsA [] [o 13 (.mv (t 0)), o 14 (.mv (t 1)), o 15 (.mv (t 0)), o 16 (.mv (t 3)), o 17 (.mv (t 0)), o 18 (.mv (t 3)), o 19 (.iaddr 3 (t 17) (t 18)), o 20 (.loadN 3 (t 19)), o 21 (.mv (t 0)), o 22 (.mv (t 1)), o 23 (.iaddr 3 (t 21) (t 22)), o 24 (.loadN 3 (t 23)), o 25 (.iaddr 3 (t 13) (t 14)), sb (.store 3 (t 25) (t 20)), o 26 (.iaddr 3 (t 15) (t 16)), sb (.store 3 (t 26) (t 24))])
 (.seq (.keep [0, 1, 2, 4])
 (.seq (.ops false [o 27 (.mv (t 1)), o 28 (.bin .add (t 27) (ci 1)), o 29 (.mv (t 2)), o 30 (.bin .sub (t 29) (ci 1)), o 11 (.mv (t 28)), o 12 (.mv (t 30))])
 (.seq (.seq (.keep [0, 1, 4, 11, 12]) (.block 0 (.loop (.seq (.block 1 (.seq (.seq (.keep [0, 1, 4, 11, 12]) (.block 2 (.loop (.seq (.seq (.seq (.ops true [o 31 (.mv (t 11)), o 32 (.mv (t 12)), b 33 (.bin .leq (t 31) (t 32)), b 34 (.mv (t 33)), ⟨(some 35), .mv (t 4), some (34, true), false⟩, ⟨(some 36), .mv (t 0), some (34, true), false⟩, ⟨(some 37), .mv (t 1), some (34, true), false⟩, ⟨(some 38), .iaddr 3 (t 36) (t 37), some (34, true), false⟩, ⟨(some 39), .loadN 3 (t 38), some (34, true), false⟩, ⟨(some 40), .mv (t 0), some (34, true), false⟩, ⟨(some 41), .mv (t 11), some (34, true), false⟩, ⟨(some 42), .iaddr 3 (t 40) (t 41), some (34, true), false⟩, ⟨(some 43), .loadN 3 (t 42), some (34, true), false⟩, ⟨(some 44), .call (t 35) [(t 39), (t 43)], some (34, true), true⟩, ⟨(some 45), .bin .lss (t 44) (ci 0), some (34, true), true⟩, ⟨(some 46), .un .not (t 45), some (34, true), true⟩, b 47 (.pick (t 34) (t 46) (.const (.bool false)))])
 (.seq (.keep [0, 1, 4, 11, 12, 47])
 (.cond (t 47)
 .skip
 (.exit 2))))
 (.seq (.keep [0, 1, 4, 11, 12])
 (.block 3 (.ops false [o 48 (.mv (t 11)), o 49 (.bin .add (t 48) (ci 1)), o 11 (.mv (t 49))])))) (.keep [0, 1, 4, 11, 12])))))
 (.seq (.keep [0, 1, 4, 11, 12])
 (.seq (.seq (.keep [0, 1, 4, 11, 12]) (.block 4 (.loop (.seq (.seq (.seq (.ops true [o 50 (.mv (t 11)), o 51 (.mv (t 12)), b 52 (.bin .leq (t 50) (t 51)), b 53 (.mv (t 52)), ⟨(some 54), .mv (t 4), some (53, true), false⟩, ⟨(some 55), .mv (t 0), some (53, true), false⟩, ⟨(some 56), .mv (t 1), some (53, true), false⟩, ⟨(some 57), .iaddr 3 (t 55) (t 56), some (53, true), false⟩, ⟨(some 58), .loadN 3 (t 57), some (53, true), false⟩, ⟨(some 59), .mv (t 0), some (53, true), false⟩, ⟨(some 60), .mv (t 12), some (53, true), false⟩, ⟨(some 61), .iaddr 3 (t 59) (t 60), some (53, true), false⟩, ⟨(some 62), .loadN 3 (t 61), some (53, true), false⟩, ⟨(some 63), .call (t 54) [(t 58), (t 62)], some (53, true), true⟩, ⟨(some 64), .bin .lss (t 63) (ci 0), some (53, true), true⟩, b 65 (.pick (t 53) (t 64) (.const (.bool false)))])
 (.seq (.keep [0, 1, 4, 11, 12, 65])
 (.cond (t 65)
 .skip
 (.exit 4))))
 (.seq (.keep [0, 1, 4, 11, 12])
 (.block 5 (.ops false [o 66 (.mv (t 12)), o 67 (.bin .sub (t 66) (ci 1)), o 12 (.mv (t 67))])))) (.keep [0, 1, 4, 11, 12])))))
 (.seq (.keep [0, 1, 4, 11, 12])
 (.seq (.seq (.ops false [o 68 (.mv (t 11)), o 69 (.mv (t 12)), o 70 (.bin .gtr (t 68) (t 69))])
 (.cond (t 70)
 (.exit 0)
 .skip))
 (.seq (.opsA [] [o 71 (.mv (t 0)), o 72 (.mv (t 11)), o 73 (.mv (t 0)), o 74 (.mv (t 12)), o 75 (.mv (t 0)), o 76 (.mv (t 12)), o 77 (.iaddr 3 (t 75) (t 76)), o 78 (.loadN 3 (t 77)), o 79 (.mv (t 0)), o 80 (.mv (t 11)), o 81 (.iaddr 3 (t 79) (t 80)), o 82 (.loadN 3 (t 81)), o 83 (.iaddr 3 (t 71) (t 72)), sb (.store 3 (t 83) (t 78)), o 84 (.iaddr 3 (t 73) (t 74)), sb (.store 3 (t 84) (t 82))])
 (.seq (.keep [0, 1, 4, 11, 12])
 (.seq (.ops false [o 85 (.mv (t 11)), o 86 (.bin .add (t 85) (ci 1)), o 11 (.mv (t 86))])
 (.ops false [o 87 (.mv (t 12)), o 88 (.bin .sub (t 87) (ci 1)), o 12 (.mv (t 88))])))))))))) (.keep [0, 1, 4, 11, 12])))))
 (.seq (.keep [11])
 (.seq (.ops false [o 89 (.mv (t 11)), o 10 (.mv (t 89))])
 .ret)))))))⟩
/-- math/bits.Len64 -/
def F_math_bits_Len64 : AFn := ⟨1, [.tmp 2],
 (.seq (.ops false [o 2 (.mv (ci 0))])
 (.seq (.seq (.ops false [o 3 (.mv (t 0)), o 4 (.bin .geq (t 3) (.const (.int .u64 4294967296)))])
 (.cond (t 4)
 (.seq (.ops false [o 5 (.mv (t 0)), o 6 (.bin .shr (t 5) (.const (.int .u64 32))), o 0 (.mv (t 6))])
 (.ops false [o 2 (.mv (ci 32))]))
 .skip))
 (.seq (.seq (.ops false [o 7 (.mv (t 0)), o 8 (.bin .geq (t 7) (.const (.int .u64 65536)))])
 (.cond (t 8)
 (.seq (.ops false [o 9 (.mv (t 0)), o 10 (.bin .shr (t 9) (.const (.int .u64 16))), o 0 (.mv (t 10))])
 (.ops false [o 11 (.mv (t 2)), o 12 (.bin .add (t 11) (ci 16)), o 2 (.mv (t 12))]))
 .skip))
 (.seq (.keep [0, 2])
 (.seq (.seq (.ops false [o 13 (.mv (t 0)), o 14 (.bin .geq (t 13) (.const (.int .u64 256)))])
 (.cond (t 14)
 (.seq (.ops false [o 15 (.mv (t 0)), o 16 (.bin .shr (t 15) (.const (.int .u64 8))), o 0 (.mv (t 16))])
 (.ops false [o 17 (.mv (t 2)), o 18 (.bin .add (t 17) (ci 8)), o 2 (.mv (t 18))]))
 .skip))
 (.seq (.keep [0, 2])
 (.seq (.ops false [o 19 (.mv (t 2)), o 20 (.mv (t 0)), o 21 (.conv .u8 (t 20)), o 22 (.idxS (.const (.string ⟨#[0, 1, 2, 2, 3, 3, 3, 3, 4, 4, 4, 4, 4, 4, 4, 4, 5, 5, 5, 5, 5, 5, 5, 5, 5, 5, 5, 5, 5, 5, 5, 5, 6, 6, 6, 6, 6, 6, 6, 6, 6, 6, 6, 6, 6, 6, 6, 6, 6, 6, 6, 6, 6, 6, 6, 6, 6, 6, 6, 6, 6, 6, 6, 6, 7, 7, 7, 7, 7, 7, 7, 7, 7, 7, 7, 7, 7, 7, 7, 7, 7, 7, 7, 7, 7, 7, 7, 7, 7, 7, 7, 7, 7, 7, 7, 7, 7, 7, 7, 7, 7, 7, 7, 7, 7, 7, 7, 7, 7, 7, 7, 7, 7, 7, 7, 7, 7, 7, 7, 7, 7, 7, 7, 7, 7, 7, 7, 7, 8, 8, 8, 8, 8, 8, 8, 8, 8, 8, 8, 8, 8, 8, 8, 8, 8, 8, 8, 8, 8, 8, 8, 8, 8, 8, 8, 8, 8, 8, 8, 8, 8, 8, 8, 8, 8, 8, 8, 8, 8, 8, 8, 8, 8, 8, 8, 8, 8, 8, 8, 8, 8, 8, 8, 8, 8, 8, 8, 8, 8, 8, 8, 8, 8, 8, 8, 8, 8, 8, 8, 8, 8, 8, 8, 8, 8, 8, 8, 8, 8, 8, 8, 8, 8, 8, 8, 8, 8, 8, 8, 8, 8, 8, 8, 8, 8, 8, 8, 8, 8, 8, 8, 8, 8, 8, 8, 8, 8, 8, 8, 8, 8, 8, 8, 8, 8, 8, 8, 8, 8, 8, 8, 8, 8, 8, 8, 8]⟩)) (t 21)), o 23 (.conv .i64 (t 22)), o 24 (.bin .add (t 19) (t 23)), o 2 (.mv (t 24))])
 (.seq (.keep [2])
 .ret))))))))⟩
/-- coroner/encode.may$1 -/
def F_encode_may_c1 : AFn := ⟨1, [.tmp 2],
 (.seq (.ops false [o 2 (.mv (.const (.bool false)))])
 (.seq (.ops false [o 3 (.mv (t 0)), o 4 (.bin .lss (t 3) (ci 0)), o 5 (.mv (t 4)), ⟨(some 6), .mv (t 0), some (5, false), false⟩, ⟨(some 7), .bin .gtr (t 6) (ci 2147483647), some (5, false), false⟩, o 8 (.pick (t 5) (.const (.bool true)) (t 7)), o 2 (.mv (t 8))])
 (.seq (.keep [2])
 .ret)))⟩
/-- slices.nextPowerOfTwo -/
def F_slices_nextPowerOfTwo : AFn := ⟨1, [.tmp 2],
 (.seq (.ops false [o 2 (.mv (.const (.int .u64 0)))])
 (.seq (.ops false [o 3 (.mv (t 0)), o 4 (.conv .u64 (t 3)), o 5 (.call (.func n_math_bits_Len) [(t 4)]), o 6 (.bin .shl (.const (.int .u64 1)) (t 5)), o 2 (.mv (t 6))])
 .ret))⟩
/-- slices.medianCmpFunc[coroner/api.Txn] -/
def F_slices_medianCmpFunc_api_Txn : AFn := ⟨6, [.tmp 12],
 (.seq (.ops false [o 12 (.mv (ci 0))])
 (.seq (.ops false [o 14 (.mv (t 0)), o 15 (.mv (t 1)), o 16 (.mv (t 2)), o 17 (.mv (t 4)), o 18 (.mv (t 5)), o 19 (.call (.func n_slices_order2CmpFunc_api_Txn) [(t 14), (t 15), (t 16), (t 17), (t 18)]), o 13 (.mv (t 19)), o 20 (.extract 0 (t 13)), o 21 (.extract 1 (t 13)), o 1 (.mv (t 20)), o 2 (.mv (t 21))])
 (.seq (.keep [0, 1, 2, 3, 4, 5])
 (.seq (.ops false [o 23 (.mv (t 0)), o 24 (.mv (t 2)), o 25 (.mv (t 3)), o 26 (.mv (t 4)), o 27 (.mv (t 5)), o 28 (.call (.func n_slices_order2CmpFunc_api_Txn) [(t 23), (t 24), (t 25), (t 26), (t 27)]), o 22 (.mv (t 28)), o 29 (.extract 0 (t 22)), o 30 (.extract 1 (t 22)), o 2 (.mv (t 29)), o 3 (.mv (t 30))])
 (.seq (.keep [0, 1, 2, 4, 5])
 (.seq (.ops false [o 32 (.mv (t 0)), o 33 (.mv (t 1)), o 34 (.mv (t 2)), o 35 (.mv (t 4)), o 36 (.mv (t 5)), o 37 (.call (.func n_slices_order2CmpFunc_api_Txn) [(t 32), (t 33), (t 34), (t 35), (t 36)]), o 31 (.mv (t 37)), o 38 (.extract 0 (t 31)), o 39 (.extract 1 (t 31)), o 1 (.mv (t 38)), o 2 (.mv (t 39))])
 (.seq (.keep [2])
 (.seq (.ops false [o 40 (.mv (t 2)), o 12 (.mv (t 40))])
 .ret))))))))⟩
/-- coroner/digits.Print -/
def F_digits_Print : AFn := ⟨1, [.tmp 2, .tmp 3],
 (.seq (.ops false [o 2 (.mv (.const (.string ⟨#[]⟩))), o 3 (.mv (ci 0))])
 (.seq (.seq (.ops false [o 6 (.mv (t 0)), o 7 (.call (.func n_digits_may) [(t 6)]), o 8 (.un .not (t 7))])
 (.cond (t 8)
 (.seq (.ops false [o 2 (.mv (.const (.string ⟨#[]⟩))), o 3 (.mv (ci 2))])
 .ret)
 .skip))
 (.seq (.ops false [o 10 (.mv (t 0)), o 11 (.call (.func n_digits_text) [(t 10)]), o 9 (.mv (t 11)), o 12 (.extract 0 (t 9)), o 13 (.extract 1 (t 9)), o 4 (.alloc [(.int .u8 0), (.int .u8 0), (.int .u8 0), (.int .u8 0), (.int .u8 0), (.int .u8 0), (.int .u8 0), (.int .u8 0), (.int .u8 0), (.int .u8 0)]), s (.store 10 (t 4) (t 12)), o 5 (.mv (t 13))])
 (.seq (.keep [4, 5])
 (.seq (.ops false [o 14 (.mv (t 5)), o 15 (.bin .sub (ci 10) (t 14)), o 16 (.slcV 10 1 (t 4) (some (t 15)) none), o 17 (.convBS (t 16)), o 2 (.mv (t 17)), o 3 (.mv (ci 0))])
 .ret)))))⟩
/-- coroner/digits.text -/
def F_digits_text : AFn := ⟨1, [.cellN 2 10, .tmp 3],
 (.seq (.ops false [o 2 (.alloc [(.int .u8 0), (.int .u8 0), (.int .u8 0), (.int .u8 0), (.int .u8 0), (.int .u8 0), (.int .u8 0), (.int .u8 0), (.int .u8 0), (.int .u8 0)]), o 3 (.mv (ci 0))])
 (.seq (.ops false [o 4 (.alloc [(.int .u8 0), (.int .u8 0), (.int .u8 0), (.int .u8 0), (.int .u8 0), (.int .u8 0), (.int .u8 0), (.int .u8 0), (.int .u8 0), (.int .u8 0)])])
 (.seq (.ops false [o 5 (.mv (ci 0))])
 (.seq (.seq (.keep [0, 2, 4, 5]) (.block 0 (.loop (.seq (.seq (.seq (.ops false [o 6 (.mv (t 5)), o 7 (.bin .eql (t 6) (ci 0)), o 8 (.mv (t 7)), ⟨(some 9), .mv (t 0), some (8, false), false⟩, ⟨(some 10), .bin .gtr (t 9) (ci 0), some (8, false), false⟩, o 11 (.pick (t 8) (.const (.bool true)) (t 10))])
 (.cond (t 11)
 .skip
 (.exit 0)))
 (.block 1 (.seq (.ops false [o 12 (.mv (t 5)), o 13 (.bin .add (t 12) (ci 1)), o 5 (.mv (t 13))])
 (.seq (.ops false [o 14 (.mv (t 5)), o 15 (.bin .sub (ci 10) (t 14)), o 16 (.mv (t 0)), o 17 (.bin .rem (t 16) (ci 10)), o 18 (.bin .add (ci 48) (t 17)), o 19 (.conv .u8 (t 18)), o 20 (.iaddrA 10 1 (t 4) (t 15)), s (.store 1 (t 20) (t 19))])
 (.seq (.keep [0, 2, 4, 5])
 (.ops false [o 21 (.mv (t 0)), o 22 (.bin .quo (t 21) (ci 10)), o 0 (.mv (t 22))])))))) (.keep [0, 2, 4, 5])))))
 (.seq (.keep [2, 4, 5])
 (.seq (.ops false [o 23 (.loadN 10 (t 4)), o 24 (.mv (t 5)), s (.store 10 (t 2) (t 23)), o 3 (.mv (t 24))])
 .ret))))))⟩
def tab1 : List (Nat × ADef) := [(n_table_Table_Writer, .code F_table_Table_Writer),
 (n_table_Table_is, .code F_table_Table_is),
 (n_table_goes_table_Read, .code F_table_goes_table_Read),
 (n_l12_TableNone, .code F_l12_TableNone),
 (n_table_Table_Keys, .code F_table_Table_Keys),
 (n_table_Table_Reads, .code F_table_Table_Reads),
 (n_l12_none, .code F_l12_none),
 (n_table_Table_Rank, .code F_table_Table_Rank),
 (n_table_Table_IDs, .code F_table_Table_IDs),
 (n_table_Table_Appends, .code F_table_Table_Appends),
 (n_table_Table_Writes, .code F_table_Table_Writes),
 (n_table_goes_table_Write, .code F_table_goes_table_Write),
 (n_table_goes_table_Read_c1, .code F_table_goes_table_Read_c1),
 (n_l12_works, .oracle (closedO (.bool true)))]
def prog1 : AProg := tabP tab1
theorem c_table_Table_Writer : prog1 n_table_Table_Writer = some (.code F_table_Table_Writer) := by kernel_rfl
theorem c_table_Table_is : prog1 n_table_Table_is = some (.code F_table_Table_is) := by kernel_rfl
theorem c_table_goes_table_Read : prog1 n_table_goes_table_Read = some (.code F_table_goes_table_Read) := by kernel_rfl
theorem c_l12_TableNone : prog1 n_l12_TableNone = some (.code F_l12_TableNone) := by kernel_rfl
theorem c_table_Table_Keys : prog1 n_table_Table_Keys = some (.code F_table_Table_Keys) := by kernel_rfl
theorem c_table_Table_Reads : prog1 n_table_Table_Reads = some (.code F_table_Table_Reads) := by kernel_rfl
theorem c_l12_none : prog1 n_l12_none = some (.code F_l12_none) := by kernel_rfl
theorem c_table_Table_Rank : prog1 n_table_Table_Rank = some (.code F_table_Table_Rank) := by kernel_rfl
theorem c_table_Table_IDs : prog1 n_table_Table_IDs = some (.code F_table_Table_IDs) := by kernel_rfl
theorem c_table_Table_Appends : prog1 n_table_Table_Appends = some (.code F_table_Table_Appends) := by kernel_rfl
theorem c_table_Table_Writes : prog1 n_table_Table_Writes = some (.code F_table_Table_Writes) := by kernel_rfl
theorem c_table_goes_table_Write : prog1 n_table_goes_table_Write = some (.code F_table_goes_table_Write) := by kernel_rfl
theorem c_table_goes_table_Read_c1 : prog1 n_table_goes_table_Read_c1 = some (.code F_table_goes_table_Read_c1) := by kernel_rfl
theorem c_l12_works : prog1 n_l12_works = some (.oracle (closedO (.bool true))) := by kernel_rfl
def tab0 : List (Nat × ADef) := [(n_l12_works, .code F_l12_works),
 (n_table_Table_Writes, .code F_table_Table_Writes),
 (n_table_goes_table_Write, .code F_table_goes_table_Write),
 (n_table_goes_table_Write_c1, .code F_table_goes_table_Write_c1),
 (n_table_Table_is, .code F_table_Table_is),
 (n_table_Table_Reads, .code F_table_Table_Reads),
 (n_table_goes_table_Read, .code F_table_goes_table_Read),
 (n_table_goes_table_Read_c1, .code F_table_goes_table_Read_c1),
 (n_table_Table_Appends, .code F_table_Table_Appends),
 (n_slices_Clone_int_int, .code F_slices_Clone_int_int),
 (n_table_Table_Keys, .code F_table_Table_Keys),
 (n_r01_Same, .code F_r01_Same),
 (n_table_Table_IDs, .code F_table_Table_IDs),
 (n_table_Table_Rank, .code F_table_Table_Rank),
 (n_slices_BinarySearch_int_int, .code F_slices_BinarySearch_int_int),
 (n_slices_isNaN_int, .code F_slices_isNaN_int),
 (n_cmp_Less_int, .code F_cmp_Less_int),
 (n_cmp_isNaN_int, .code F_cmp_isNaN_int),
 (n_table_Table_Writer, .code F_table_Table_Writer),
 (n_table_New, .code F_table_New),
 (n_sorted_Set_int_List, .code F_sorted_Set_int_List),
 (n_sorted_Of_int, .code F_sorted_Of_int),
 (n_slices_Compact_int_int, .code F_slices_Compact_int_int),
 (n_table_Table_put, .code F_table_Table_put),
 (n_table_steps, .code F_table_steps),
 (n_table_steps_c1, .code F_table_steps_c1),
 (n_table_New_c1, .code F_table_New_c1),
 (n_cmp_Compare_int, .code F_cmp_Compare_int),
 (n_slices_SortFunc_api_Txn_api_Txn, .code F_slices_SortFunc_api_Txn_api_Txn),
 (n_slices_pdqsortCmpFunc_api_Txn, .code F_slices_pdqsortCmpFunc_api_Txn),
 (n_slices_partitionCmpFunc_api_Txn, .code F_slices_partitionCmpFunc_api_Txn),
 (n_slices_partitionEqualCmpFunc_api_Txn, .code F_slices_partitionEqualCmpFunc_api_Txn),
 (n_slices_partialInsertionSortCmpFunc_api_Txn, .code F_slices_partialInsertionSortCmpFunc_api_Txn),
 (n_slices_reverseRangeCmpFunc_api_Txn, .code F_slices_reverseRangeCmpFunc_api_Txn),
 (n_slices_choosePivotCmpFunc_api_Txn, .code F_slices_choosePivotCmpFunc_api_Txn),
 (n_slices_medianCmpFunc_api_Txn, .code F_slices_medianCmpFunc_api_Txn),
 (n_slices_order2CmpFunc_api_Txn, .code F_slices_order2CmpFunc_api_Txn),
 (n_slices_medianAdjacentCmpFunc_api_Txn, .code F_slices_medianAdjacentCmpFunc_api_Txn),
 (n_slices_breakPatternsCmpFunc_api_Txn, .code F_slices_breakPatternsCmpFunc_api_Txn),
 (n_slices_xorshift_Next, .code F_slices_xorshift_Next),
 (n_slices_nextPowerOfTwo, .code F_slices_nextPowerOfTwo),
 (n_math_bits_Len, .code F_math_bits_Len),
 (n_math_bits_Len64, .code F_math_bits_Len64),
 (n_math_bits_Len32, .code F_math_bits_Len32),
 (n_slices_heapSortCmpFunc_api_Txn, .code F_slices_heapSortCmpFunc_api_Txn),
 (n_slices_siftDownCmpFunc_api_Txn, .code F_slices_siftDownCmpFunc_api_Txn),
 (n_slices_insertionSortCmpFunc_api_Txn, .code F_slices_insertionSortCmpFunc_api_Txn),
 (n_slices_Clone_api_Txn_api_Txn, .code F_slices_Clone_api_Txn_api_Txn),
 (n_encode_Check, .code F_encode_Check),
 (n_encode_text, .code F_encode_text),
 (n_encode_txn, .code F_encode_txn),
 (n_encode_line, .code F_encode_line),
 (n_digits_Print, .code F_digits_Print),
 (n_digits_text, .code F_digits_text),
 (n_digits_may, .code F_digits_may),
 (n_encode_parts, .code F_encode_parts),
 (n_encode_mayOp, .code F_encode_mayOp),
 (n_encode_may, .code F_encode_may),
 (n_encode_may_c1, .code F_encode_may_c1),
 (n_slices_ContainsFunc_int_int, .code F_slices_ContainsFunc_int_int),
 (n_slices_IndexFunc_int_int, .code F_slices_IndexFunc_int_int),
 (n_history_Ops, .code F_history_Ops),
 (n_l12_one, .code F_l12_one),
 (n_slices_Sort_int_int, .oracle sortOI)]
end Go.AMS
