/- The code of the functions that the law runs, as the abstract machine reads it. -/
import Derived.Test.YtdkgalkdcmajjaaAmSepP
import Derived.Test.YtdkgalkdcmajjaaAmSepO
import Derived.Test.YtdkgalkdcmajjaaAmSepK
import Derived.Test.YtdkgalkdcmajjaaAmSepB
import Derived.Test.YtdkgalkdcmajjaaAmSepT
import Derived.Test.YtdkgalkdcmajjaaAmSort
import Derived.Test.YtdkgalkdcmajjaaAmSortI
import Derived.Test.YtdkgalkdcmajjaaAmSortX
namespace Go.AMS
open Go.AM hiding Kt At WP WL Runs RunsY
open C
set_option maxRecDepth 100000
set_option linter.unusedVariables false
def n_l12_TableWrites : Nat := 6
def n_r03_Few : Nat := 10
def n_l12_works : Nat := 11
def n_table_New : Nat := 12
def n_r04_Check : Nat := 13
def n_table_Table_Rank : Nat := 14
def n_r01_Same : Nat := 16
def n_table_Table_IDs : Nat := 17
def n_r12_IDs : Nat := 18
def n_table_Table_Keys : Nat := 19
def n_table_Table_Writer : Nat := 21
def n_table_Table_Appends : Nat := 23
def n_table_Table_Reads : Nat := 25
def n_table_Table_Writes : Nat := 29
def n_r12_Writes : Nat := 30
def n_l12_one : Nat := 38
def n_encode_Check : Nat := 39
def n_slices_Clone_api_Txn_api_Txn : Nat := 40
def n_slices_SortFunc_api_Txn_api_Txn : Nat := 41
def n_table_New_c1 : Nat := 42
def n_cmp_Compare_int : Nat := 43
def n_table_steps : Nat := 44
def n_table_Table_put : Nat := 45
def n_sorted_Of_int : Nat := 46
def n_sorted_Set_int_List : Nat := 47
def n_r03_Ops : Nat := 48
def n_r04_may : Nat := 49
def n_r04_mayOp : Nat := 50
def n_r03_Appended : Nat := 51
def n_r04_earlier : Nat := 52
def n_r04_Text : Nat := 53
def n_table_Table_is : Nat := 54
def n_slices_BinarySearch_int_int : Nat := 55
def n_slices_Clone_int_int : Nat := 56
def n_r05_Of : Nat := 57
def n_r12_txn : Nat := 58
def n_table_goes_table_Read : Nat := 60
def n_table_goes_table_Write : Nat := 62
def n_history_Ops : Nat := 73
def n_encode_parts : Nat := 74
def n_encode_text : Nat := 75
def n_cmp_isNaN_int : Nat := 78
def n_table_steps_c1 : Nat := 79
def n_slices_Sort_int_int : Nat := 80
def n_slices_Compact_int_int : Nat := 81
def n_r04_number : Nat := 82
def n_cmp_Less_int : Nat := 83
def n_slices_isNaN_int : Nat := 84
def n_r05_Has : Nat := 85
def n_table_goes_table_Read_c1 : Nat := 86
def n_table_goes_table_Write_c1 : Nat := 87
def n_encode_may : Nat := 104
def n_encode_mayOp : Nat := 105
def n_encode_txn : Nat := 106
def n_r01_Print : Nat := 118
def n_slices_ContainsFunc_int_int : Nat := 136
def n_encode_may_c1 : Nat := 137
def n_encode_line : Nat := 138
def n_slices_IndexFunc_int_int : Nat := 160
def n_digits_Print : Nat := 161
def n_digits_may : Nat := 172
def n_digits_text : Nat := 173
/-- coroner/coronerlaw12.TableWrites -/
def F_l12_TableWrites : AFn := ⟨3, [.cell1 6],
 (.seq (.ops false [o 3 (.box (t 0)), o 4 (.box (t 1)), o 5 (.box (t 2)), o 6 (.alloc [(.bool false)])])
 (.seq (.seq (.ops false [o 13 (.loadN 1 (t 3)), o 14 (.call (.func n_r03_Few) [(t 13), (ci 20), (ci 60)]), o 15 (.un .not (t 14)), o 16 (.mv (t 15)), ⟨(some 17), .loadN 1 (t 3), some (16, false), false⟩, ⟨(some 18), .call (.func n_r04_Check) [(t 17)], some (16, false), false⟩, ⟨(some 19), .bin .neq (t 18) (ci 0), some (16, false), false⟩, o 20 (.pick (t 16) (.const (.bool true)) (t 19)), o 21 (.mv (t 20)), ⟨(some 22), .call (.func n_l12_works) [], some (21, false), false⟩, ⟨(some 23), .un .not (t 22), some (21, false), false⟩, o 24 (.pick (t 21) (.const (.bool true)) (t 23))])
 (.seq (.keep [3, 4, 5, 6, 24])
 (.cond (t 24)
 (.seq (.ops false [o 25 (.call (.func n_l12_works) []), s (.store 1 (t 6) (t 25))])
 .ret)
 .skip)))
 (.seq (.keep [3, 4, 5, 6])
 (.seq (.ops false [o 27 (.loadN 1 (t 3)), o 28 (.call (.func n_table_New) [(t 27)]), o 26 (.mv (t 28)), o 29 (.extract 0 (t 26)), o 30 (.extract 1 (t 26)), o 7 (.mv (t 29)), o 8 (.mv (t 30))])
 (.seq (.keep [3, 4, 5, 6, 7, 8])
 (.seq (.ops false [o 31 (.mv (t 7)), o 32 (.load1 (t 4)), o 33 (.call (.func n_table_Table_Writes) [(t 31), (t 32)]), o 9 (.mv (t 33))])
 (.seq (.seq (.ops false [o 34 (.mv (t 8)), o 35 (.bin .neq (t 34) (ci 0)), o 36 (.mv (t 35)), ⟨(some 37), .mv (t 9), some (36, false), false⟩, ⟨(some 38), .eqv 4 false (t 37) (.const .nilFunc), some (36, false), false⟩, o 39 (.pick (t 36) (.const (.bool true)) (t 38))])
 (.cond (t 39)
 (.seq (.ops false [s (.store 1 (t 6) (.const (.bool false)))])
 .ret)
 .skip))
 (.seq (.keep [3, 4, 5, 6, 9])
 (.seq (.ops false [o 40 (.loadN 1 (t 3)), o 41 (.load1 (t 4)), o 42 (.call (.func n_r12_Writes) [(t 40), (t 41)]), o 10 (.alloc [(.slice none 0 0)]), s (.store 1 (t 10) (t 42))])
 (.seq (.ops false [o 11 (.alloc [(.int .i64 0)]), s (.store 1 (t 11) (ci 0))])
 (.seq (.seq (.ops false [o 43 (.mv (t 9))])
 (.block 0 (.rfun (t 43) [44]
 (.ops false [o 12 (.alloc [(.int .i64 0), (.int .i64 0), (.int .i64 0), (.int .i64 0), (.bool false)]), s (.store 5 (t 12) (t 44))])
 (.block 1 (.seq (.seq (.ops false [o 45 (.load1 (t 11)), o 46 (.load1 (t 5)), o 47 (.conv .i64 (t 46)), o 48 (.bin .eql (t 45) (t 47))])
 (.cond (t 48)
 (.exit 0)
 .skip))
 (.seq (.seq (.ops true (o 49 (.load1 (t 11)) :: o 50 (.load1 (t 10)) :: o 51 (.len 1 (t 50)) :: b 52 (.bin .geq (t 49) (t 51)) :: b 53 (.mv (t 52)) :: ⟨(some 54), .faddr 0 (t 12), some (53, false), false⟩ :: ⟨(some 55), .load1 (t 54), some (53, false), false⟩ :: ⟨(some 56), .load1 (t 10), some (53, false), false⟩ :: ⟨(some 57), .load1 (t 11), some (53, false), false⟩ :: ⟨(some 58), .iaddr 5 (t 56) (t 57), some (53, false), false⟩ :: ⟨(some 59), .faddr 0 (t 58), some (53, false), false⟩ :: ⟨(some 60), .load1 (t 59), some (53, false), false⟩ :: ⟨(some 61), .bin .neq (t 55) (t 60), some (53, false), true⟩ :: b 62 (.pick (t 53) (.const (.bool true)) (t 61)) :: b 63 (.mv (t 62)) :: ⟨(some 64), .faddr 1 (t 12), some (63, false), false⟩ :: ⟨(some 65), .load1 (t 64), some (63, false), false⟩ :: ⟨(some 66), .load1 (t 10), some (63, false), false⟩ :: ⟨(some 67), .load1 (t 11), some (63, false), false⟩ :: ⟨(some 68), .iaddr 5 (t 66) (t 67), some (63, false), false⟩ :: ⟨(some 69), .faddr 1 (t 68), some (63, false), false⟩ :: ⟨(some 70), .load1 (t 69), some (63, false), false⟩ :: ⟨(some 71), .bin .neq (t 65) (t 70), some (63, false), true⟩ :: b 72 (.pick (t 63) (.const (.bool true)) (t 71)) :: b 73 (.mv (t 72)) :: ⟨(some 74), .faddr 2 (t 12), some (73, false), false⟩ :: ⟨(some 75), .load1 (t 74), some (73, false), false⟩ :: ⟨(some 76), .load1 (t 4), some (73, false), false⟩ :: ⟨(some 77), .bin .neq (t 75) (t 76), some (73, false), true⟩ :: b 78 (.pick (t 73) (.const (.bool true)) (t 77)) :: b 79 (.mv (t 78)) :: ⟨(some 80), .faddr 3 (t 12), some (79, false), false⟩ :: ⟨(some 81), .load1 (t 80), some (79, false), false⟩ :: ⟨(some 82), .load1 (t 10), some (79, false), false⟩ :: ⟨(some 83), .load1 (t 11), some (79, false), false⟩ :: ⟨(some 84), .iaddr 5 (t 82) (t 83), some (79, false), false⟩ :: ⟨(some 85), .faddr 3 (t 84), some (79, false), false⟩ :: ⟨(some 86), .load1 (t 85), some (79, false), false⟩ :: ⟨(some 87), .bin .neq (t 81) (t 86), some (79, false), true⟩ :: b 88 (.pick (t 79) (.const (.bool true)) (t 87)) :: b 89 (.mv (t 88)) :: ⟨(some 90), .faddr 4 (t 12), some (89, false), true⟩ :: ⟨(some 91), .load1 (t 90), some (89, false), true⟩ :: b 92 (.pick (t 89) (.const (.bool true)) (t 91)) :: []))
 (.seq (.keep [6, 11, 92])
 (.cond (t 92)
 (.seq (.ops false [s (.store 1 (t 6) (.const (.bool false)))])
 .ret)
 .skip)))
 (.seq (.keep [11])
 (.ops false [o 93 (.load1 (t 11)), o 94 (.bin .add (t 93) (ci 1)), s (.store 1 (t 11) (t 94))]))))))))
 (.seq (.keep [5, 6, 10, 11])
 (.seq (.ops false [o 95 (.load1 (t 11)), o 96 (.load1 (t 10)), o 97 (.len 1 (t 96)), o 98 (.load1 (t 5)), o 99 (.conv .i64 (t 98)), o 100 (.min [(t 97), (t 99)]), o 101 (.bin .eql (t 95) (t 100)), s (.store 1 (t 6) (t 101))])
 (.seq (.keep [6])
 .ret))))))))))))))⟩
/-- coroner/table.New -/
def F_table_New : AFn := ⟨1, [.tmp 2, .tmp 3],
 (.seq (.ops false [o 1 (.box (t 0)), o 2 (.mv (.const (.pointer none))), o 3 (.mv (ci 0))])
 (.seq (.seq (.ops false [o 11 (.loadN 1 (t 1)), o 12 (.call (.func n_encode_Check) [(t 11)]), o 4 (.mv (t 12))])
 (.seq (.ops false [o 13 (.mv (t 4)), o 14 (.bin .neq (t 13) (ci 0))])
 (.cond (t 14)
 (.seq (.ops false [o 15 (.mv (t 4)), o 2 (.mv (.const (.pointer none))), o 3 (.mv (t 15))])
 .ret)
 .skip)))
 (.seq (.keep [1, 2, 3])
 (.seq (.ops false [o 16 (.mkmap), o 17 (.mkmap), o 18 (.mkmap), o 19 (.mkmap), o 20 (.build [(.bool false), (.slice none 0 0), (.slice none 0 0), (.map none), (.map none), (.map none), (.map none)] [(0, (1, (.const (.bool true)))), (3, (1, (t 16))), (4, (1, (t 17))), (5, (1, (t 18))), (6, (1, (t 19)))]), o 21 (.box (t 20)), o 5 (.alloc [(.pointer none)]), s (.store 1 (t 5) (t 21))])
 (.seq (.keep [1, 2, 3, 5])
 (.seq (.ops false [o 22 (.faddr 0 (t 1)), o 23 (.load1 (t 22)), o 24 (.call (.func n_slices_Clone_api_Txn_api_Txn) [(t 23)]), o 6 (.mv (t 24))])
 (.seq (.ops false [o 25 (.mv (t 6)), o 26 (.call (.func n_slices_SortFunc_api_Txn_api_Txn) [(t 25), (.func n_table_New_c1)])])
 (.seq (.seq (.ops false [o 27 (.mv (t 6)), o 28 (.len 1 (t 27)), o 29 (.mv (ci 0))])
 (.seq (.keep [2, 3, 5, 6, 27, 28, 29]) (.block 0 (.loop (.seq (.seq (.ops false [o 30 (.bin .lss (t 29) (t 28))])
 (.seq (.cond (t 30)
 .skip
 (.exit 0))
 (.seq (.block 1 (.seq (.ops false [o 31 (.iaddr 3 (t 27) (t 29)), o 32 (.loadN 3 (t 31)), o 8 (.alloc [(.int .i64 0), (.bool false), (.slice none 0 0)]), s (.store 3 (t 8) (t 32))])
 (.seq (.ops false [o 33 (.faddr 1 (t 8)), o 34 (.load1 (t 33)), o 35 (.un .not (t 34))])
 (.cond (t 35)
 (.opsK [(8, 5)] [] [o 36 (.load1 (t 5)), o 37 (.load1 (t 5)), o 38 (.nilc (t 37)), o 39 (.faddr 1 (t 38)), o 40 (.load1 (t 39)), o 41 (.faddr 0 (t 8)), o 42 (.load1 (t 41)), o 43 (.bslice 1 1 [(.int .i64 0)] [(0, (1, (t 42)))]), b 44 (.append 1 8 (t 40) (t 43)), o 45 (.nilc (t 36)), o 46 (.faddr 1 (t 45)), sb (.store 1 (t 46) (t 44))])
 .skip))))
 (.seq (.keep [2, 3, 5, 6, 27, 28, 29])
 (.ops false [o 47 (.bin .add (t 29) (ci 1)), o 29 (.mv (t 47))]))))) (.keep [2, 3, 5, 6, 27, 28, 29]))))))
 (.seq (.keep [2, 3, 5, 6])
 (.seq (.seq (.ops false [o 48 (.mv (t 6)), o 49 (.call (.func n_table_steps) [(t 48)])])
 (.block 2 (.rfun (t 49) [50, 51]
 (.seq (.ops false [o 9 (.alloc [(.int .i64 0), (.bool false), (.slice none 0 0)]), s (.store 3 (t 9) (t 50))])
 (.ops false [o 10 (.mv (t 51))]))
 (.block 3 (.seq (.opsK [(12, 5)] [] [o 52 (.load1 (t 5)), o 53 (.load1 (t 5)), o 54 (.nilc (t 53)), o 55 (.faddr 2 (t 54)), o 56 (.load1 (t 55)), o 57 (.faddr 2 (t 9)), o 58 (.load1 (t 57)), o 59 (.mv (t 10)), o 60 (.iaddr 4 (t 58) (t 59)), o 61 (.faddr 1 (t 60)), o 62 (.load1 (t 61)), o 63 (.bslice 1 1 [(.int .i64 0)] [(0, (1, (t 62)))]), b 64 (.append 1 8 (t 56) (t 63)), o 65 (.nilc (t 52)), o 66 (.faddr 2 (t 65)), sb (.store 1 (t 66) (t 64))])
 (.seq (.keep [5, 9, 10])
 (.ops true [o 67 (.load1 (t 5)), o 68 (.loadN 3 (t 9)), o 69 (.mv (t 10)), o 70 (.faddr 2 (t 9)), o 71 (.load1 (t 70)), o 72 (.mv (t 10)), o 73 (.iaddr 4 (t 71) (t 72)), o 74 (.loadN 4 (t 73)), b 75 (.call (.func n_table_Table_put) [(t 67), (t 68), (t 69), (t 74)])])))))))
 (.seq (.keep [5])
 (.seq (.ops true [o 76 (.load1 (t 5)), o 77 (.load1 (t 5)), o 78 (.nilc (t 77)), o 79 (.faddr 2 (t 78)), o 80 (.load1 (t 79)), o 81 (.call (.func n_sorted_Of_int) [(t 80)]), o 82 (.call (.func n_sorted_Set_int_List) [(t 81)]), b 83 (.nilc (t 76)), b 84 (.faddr 2 (t 83)), sb (.store 1 (t 84) (t 82))])
 (.seq (.keep [5])
 (.seq (.ops false [o 85 (.load1 (t 5)), o 2 (.mv (t 85)), o 3 (.mv (ci 0))])
 .ret))))))))))))))⟩
/-- coroner/coronerref12.IDs -/
def F_r12_IDs : AFn := ⟨1, [.tmp 2],
 (.seq (.ops false [o 1 (.box (t 0)), o 2 (.mv (.const (.slice none 0 0)))])
 (.seq (.ops false [o 3 (.mv (.const (.slice none 0 0)))])
 (.seq (.seq (.ops false [o 4 (.mv (ci 0))])
 (.seq (.keep [1, 3, 4]) (.block 0 (.loop (.seq (.seq (.seq (.ops false [o 5 (.mv (t 4)), o 6 (.faddr 0 (t 1)), o 7 (.load1 (t 6)), o 8 (.len 1 (t 7)), o 9 (.bin .lss (t 5) (t 8))])
 (.cond (t 9)
 .skip
 (.exit 0)))
 (.seq (.block 1 (.seq (.ops false [o 12 (.faddr 0 (t 1)), o 13 (.load1 (t 12)), o 14 (.mv (t 4)), o 15 (.iaddr 3 (t 13) (t 14)), o 16 (.faddr 1 (t 15)), o 17 (.load1 (t 16)), o 18 (.un .not (t 17))])
 (.seq (.keep [1, 3, 4, 18])
 (.cond (t 18)
 (.ops false [o 19 (.mv (t 3)), o 20 (.faddr 0 (t 1)), o 21 (.load1 (t 20)), o 22 (.mv (t 4)), o 23 (.iaddr 3 (t 21) (t 22)), o 24 (.faddr 0 (t 23)), o 25 (.load1 (t 24)), o 26 (.bslice 1 1 [(.int .i64 0)] [(0, (1, (t 25)))]), o 27 (.append 1 8 (t 19) (t 26)), o 3 (.mv (t 27))])
 .skip))))
 (.seq (.keep [1, 3, 4])
 (.ops false [o 10 (.mv (t 4)), o 11 (.bin .add (t 10) (ci 1)), o 4 (.mv (t 11))])))) (.keep [1, 3, 4]))))))
 (.seq (.keep [3])
 (.seq (.ops false [o 28 (.mv (t 3)), o 29 (.call (.func n_r05_Of) [(t 28)]), o 2 (.mv (t 29))])
 .ret)))))⟩
/-- (*coroner/table.Table).Writer -/
def F_table_Table_Writer : AFn := ⟨3, [.cellN 6 5, .tmp 7],
 (.seq (.ops false [o 6 (.alloc [(.int .i64 0), (.int .i64 0), (.int .i64 0), (.int .i64 0), (.bool false)]), o 7 (.mv (.const (.bool false)))])
 (.seq (.seq (.ops false [o 10 (.mv (t 0)), o 11 (.call (.func n_table_Table_is) [(t 10)]), o 12 (.un .not (t 11))])
 (.cond (t 12)
 (.seq (.ops false [o 13 (.build [(.int .i64 0), (.int .i64 0), (.int .i64 0), (.int .i64 0), (.bool false)] []), s (.store 5 (t 6) (t 13)), o 7 (.mv (.const (.bool false)))])
 .ret)
 .skip))
 (.seq (.ops false [o 15 (.mv (t 0)), o 16 (.nilc (t 15)), o 17 (.faddr 3 (t 16)), o 18 (.load1 (t 17)), o 19 (.mv (t 1)), o 20 (.mv (t 2)), o 21 (.build [(.int .i64 0), (.int .i64 0)] [(0, (1, (t 19))), (1, (1, (t 20)))]), o 22 (.lookup (.many [1, 1]) (.agg #[(.int .i64 0), (.int .i64 0), (.int .i64 0), (.int .i64 0), (.bool false)]) true (t 18) (t 21)), o 14 (.mv (t 22)), o 23 (.extract 0 (t 14)), o 24 (.extract 1 (t 14)), o 8 (.alloc [(.int .i64 0), (.int .i64 0), (.int .i64 0), (.int .i64 0), (.bool false)]), s (.store 5 (t 8) (t 23)), o 9 (.mv (t 24))])
 (.seq (.keep [6, 8, 9])
 (.seq (.ops false [o 25 (.loadN 5 (t 8)), o 26 (.mv (t 9)), s (.store 5 (t 6) (t 25)), o 7 (.mv (t 26))])
 .ret)))))⟩
/-- coroner/coronerref12.Writes -/
def F_r12_Writes : AFn := ⟨2, [.tmp 4],
 (.seq (.ops false [o 2 (.box (t 0)), o 4 (.mv (.const (.slice none 0 0)))])
 (.seq (.ops false [o 5 (.mv (.const (.slice none 0 0)))])
 (.seq (.ops false [o 10 (.loadN 1 (t 2)), o 11 (.call (.func n_r12_IDs) [(t 10)]), o 6 (.mv (t 11))])
 (.seq (.seq (.ops false [o 7 (.mv (ci 0))])
 (.seq (.keep [1, 2, 5, 6, 7]) (.block 0 (.loop (.seq (.seq (.seq (.ops false [o 12 (.mv (t 7)), o 13 (.mv (t 6)), o 14 (.len 1 (t 13)), o 15 (.bin .lss (t 12) (t 14))])
 (.cond (t 15)
 .skip
 (.exit 0)))
 (.seq (.block 1 (.seq (.ops true [o 18 (.loadN 1 (t 2)), o 19 (.mv (t 6)), o 20 (.mv (t 7)), o 21 (.iaddr 1 (t 19) (t 20)), o 22 (.load1 (t 21)), o 23 (.call (.func n_r12_txn) [(t 18), (t 22)]), o 8 (.alloc [(.int .i64 0), (.bool false), (.slice none 0 0)]), sb (.store 3 (t 8) (t 23))])
 (.seq (.keep [1, 2, 5, 6, 7, 8])
 (.seq (.ops false [o 9 (.mv (ci 0))])
 (.seq (.keep [1, 2, 5, 6, 7, 8, 9]) (.block 2 (.loop (.seq (.seq (.seq (.ops false [o 24 (.mv (t 9)), o 25 (.faddr 2 (t 8)), o 26 (.load1 (t 25)), o 27 (.len 1 (t 26)), o 28 (.bin .lss (t 24) (t 27))])
 (.cond (t 28)
 .skip
 (.exit 2)))
 (.seq (.block 3 (.seq (.ops false [o 31 (.faddr 2 (t 8)), o 32 (.load1 (t 31)), o 33 (.mv (t 9)), o 34 (.iaddr 4 (t 32) (t 33)), o 35 (.faddr 0 (t 34)), o 36 (.load1 (t 35)), o 37 (.un .not (t 36)), o 38 (.mv (t 37)), ⟨(some 39), .faddr 2 (t 8), some (38, true), false⟩, ⟨(some 40), .load1 (t 39), some (38, true), false⟩, ⟨(some 41), .mv (t 9), some (38, true), false⟩, ⟨(some 42), .iaddr 4 (t 40) (t 41), some (38, true), false⟩, ⟨(some 43), .faddr 1 (t 42), some (38, true), false⟩, ⟨(some 44), .load1 (t 43), some (38, true), false⟩, ⟨(some 45), .mv (t 1), some (38, true), false⟩, ⟨(some 46), .bin .eql (t 44) (t 45), some (38, true), false⟩, o 47 (.pick (t 38) (t 46) (.const (.bool false)))])
 (.seq (.keep [1, 2, 5, 6, 7, 8, 9, 47])
 (.cond (t 47)
 (.ops true [o 48 (.mv (t 5)), o 49 (.faddr 0 (t 8)), o 50 (.load1 (t 49)), o 51 (.mv (t 9)), o 52 (.mv (t 1)), o 53 (.faddr 2 (t 8)), o 54 (.load1 (t 53)), o 55 (.mv (t 9)), o 56 (.iaddr 4 (t 54) (t 55)), o 57 (.faddr 2 (t 56)), o 58 (.load1 (t 57)), o 59 (.build [(.int .i64 0), (.int .i64 0), (.int .i64 0), (.int .i64 0), (.bool false)] [(0, (1, (t 50))), (1, (1, (t 51))), (2, (1, (t 52))), (3, (1, (t 58)))]), o 60 (.bslice 5 1 [(.int .i64 0), (.int .i64 0), (.int .i64 0), (.int .i64 0), (.bool false)] [(0, (5, (t 59)))]), b 61 (.append 5 40 (t 48) (t 60)), b 5 (.mv (t 61))])
 .skip))))
 (.seq (.keep [1, 2, 5, 6, 7, 8, 9])
 (.ops false [o 29 (.mv (t 9)), o 30 (.bin .add (t 29) (ci 1)), o 9 (.mv (t 30))])))) (.keep [1, 2, 5, 6, 7, 8, 9])))))))))
 (.seq (.keep [1, 2, 5, 6, 7])
 (.ops false [o 16 (.mv (t 7)), o 17 (.bin .add (t 16) (ci 1)), o 7 (.mv (t 17))])))) (.keep [1, 2, 5, 6, 7]))))))
 (.seq (.keep [5])
 (.seq (.ops false [o 62 (.mv (t 5)), o 4 (.mv (t 62))])
 .ret))))))⟩
/-- coroner/encode.Check -/
def F_encode_Check : AFn := ⟨1, [.tmp 2],
 (.seq (.ops false [o 1 (.box (t 0)), o 2 (.mv (ci 0))])
 (.seq (.seq (.ops false [o 4 (.faddr 0 (t 1)), o 5 (.load1 (t 4)), o 6 (.len 1 (t 5)), o 7 (.bin .gtr (t 6) (ci 1024)), o 8 (.mv (t 7)), ⟨(some 9), .loadN 1 (t 1), some (8, false), false⟩, ⟨(some 10), .call (.func n_history_Ops) [(t 9)], some (8, false), false⟩, ⟨(some 11), .bin .gtr (t 10) (ci 4096), some (8, false), false⟩, o 12 (.pick (t 8) (.const (.bool true)) (t 11))])
 (.seq (.keep [1, 12])
 (.cond (t 12)
 (.seq (.ops false [o 2 (.mv (ci 3))])
 .ret)
 .skip)))
 (.seq (.keep [1])
 (.seq (.seq (.ops false [o 13 (.loadN 1 (t 1)), o 14 (.call (.func n_encode_parts) [(t 13)]), o 3 (.mv (t 14))])
 (.seq (.ops false [o 15 (.mv (t 3)), o 16 (.bin .neq (t 15) (ci 0))])
 (.cond (t 16)
 (.seq (.ops false [o 17 (.mv (t 3)), o 2 (.mv (t 17))])
 .ret)
 .skip)))
 (.seq (.keep [1])
 (.seq (.seq (.ops false [o 18 (.loadN 1 (t 1)), o 19 (.call (.func n_encode_text) [(t 18)]), o 20 (.len 1 (t 19)), o 21 (.bin .gtr (t 20) (ci 262144))])
 (.cond (t 21)
 (.seq (.ops false [o 2 (.mv (ci 3))])
 .ret)
 .skip))
 (.seq (.ops false [o 2 (.mv (ci 0))])
 .ret)))))))⟩
/-- coroner/table.New$1 -/
def F_table_New_c1 : AFn := ⟨2, [.tmp 4],
 (.seq (.ops false [o 2 (.box (t 0)), o 3 (.box (t 1)), o 4 (.mv (ci 0))])
 (.seq (.ops false [o 5 (.faddr 0 (t 2)), o 6 (.load1 (t 5)), o 7 (.faddr 0 (t 3)), o 8 (.load1 (t 7)), o 9 (.call (.func n_cmp_Compare_int) [(t 6), (t 8)]), o 4 (.mv (t 9))])
 .ret))⟩
/-- (*coroner/table.Table).put -/
def F_table_Table_put : AFn := ⟨4, [],
 (.seq (.ops false [o 5 (.box (t 1)), o 7 (.box (t 3))])
 (.seq (.ops false [o 10 (.faddr 0 (t 5)), o 11 (.load1 (t 10)), o 12 (.faddr 1 (t 7)), o 13 (.load1 (t 12)), o 14 (.build [(.int .i64 0), (.int .i64 0)] [(0, (1, (t 11))), (1, (1, (t 13)))]), o 8 (.alloc [(.int .i64 0), (.int .i64 0)]), s (.store 2 (t 8) (t 14))])
 (.seq (.keep [0, 2, 5, 7, 8])
 (.seq (.seq (.ops false [o 15 (.faddr 0 (t 7)), o 16 (.load1 (t 15))])
 (.cond (t 16)
 (.seq (.seq (.ops false [o 17 (.faddr 1 (t 5)), o 18 (.load1 (t 17)), o 19 (.un .not (t 18))])
 (.cond (t 19)
 (.opsK [(29, 22), (29, 24)] [] (o 20 (.mv (t 0)) :: o 21 (.nilc (t 20)) :: o 22 (.faddr 5 (t 21)) :: o 23 (.load1 (t 22)) :: o 24 (.faddr 1 (t 7)) :: o 25 (.load1 (t 24)) :: o 26 (.mv (t 0)) :: o 27 (.nilc (t 26)) :: o 28 (.faddr 5 (t 27)) :: o 29 (.load1 (t 28)) :: o 30 (.faddr 1 (t 7)) :: o 31 (.load1 (t 30)) :: o 32 (.lookup (.one 1) (.slice none 0 0) false (t 29) (t 31)) :: o 33 (.faddr 0 (t 5)) :: o 34 (.load1 (t 33)) :: o 35 (.mv (t 2)) :: o 36 (.faddr 1 (t 7)) :: o 37 (.load1 (t 36)) :: o 38 (.faddr 3 (t 7)) :: o 39 (.load1 (t 38)) :: o 40 (.mv (t 0)) :: o 41 (.nilc (t 40)) :: o 42 (.faddr 4 (t 41)) :: o 43 (.load1 (t 42)) :: o 44 (.loadN 2 (t 8)) :: o 45 (.lookup (.many [1, 1]) (.slice none 0 0) false (t 43) (t 44)) :: o 46 (.call (.func n_slices_Clone_int_int) [(t 45)]) :: o 47 (.build [(.int .i64 0), (.int .i64 0), (.int .i64 0), (.slice none 0 0), (.slice none 0 0)] [(0, (1, (t 34))), (1, (1, (t 35))), (2, (1, (t 37))), (3, (1, (t 39))), (4, (1, (t 46)))]) :: o 48 (.bslice 5 1 [(.int .i64 0), (.int .i64 0), (.int .i64 0), (.slice none 0 0), (.slice none 0 0)] [(0, (5, (t 47)))]) :: b 49 (.append 5 72 (t 32) (t 48)) :: sb (.mapupd (.one 1) (t 23) (t 25) (t 49)) :: []))
 .skip))
 (.seq (.keep [])
 .ret))
 .skip))
 (.seq (.keep [0, 2, 5, 7, 8])
 (.seq (.ops false [o 50 (.faddr 0 (t 5)), o 51 (.load1 (t 50)), o 52 (.mv (t 2)), o 53 (.faddr 1 (t 7)), o 54 (.load1 (t 53)), o 55 (.faddr 2 (t 7)), o 56 (.load1 (t 55)), o 57 (.faddr 1 (t 5)), o 58 (.load1 (t 57)), o 59 (.build [(.int .i64 0), (.int .i64 0), (.int .i64 0), (.int .i64 0), (.bool false)] [(0, (1, (t 51))), (1, (1, (t 52))), (2, (1, (t 54))), (3, (1, (t 56))), (4, (1, (t 58)))]), o 9 (.alloc [(.int .i64 0), (.int .i64 0), (.int .i64 0), (.int .i64 0), (.bool false)]), s (.store 5 (t 9) (t 59))])
 (.seq (.keep [0, 5, 7, 8, 9])
 (.seq (.ops true [o 60 (.mv (t 0)), o 61 (.nilc (t 60)), o 62 (.faddr 3 (t 61)), o 63 (.load1 (t 62)), o 64 (.faddr 1 (t 7)), o 65 (.load1 (t 64)), o 66 (.faddr 2 (t 7)), o 67 (.load1 (t 66)), o 68 (.build [(.int .i64 0), (.int .i64 0)] [(0, (1, (t 65))), (1, (1, (t 67)))]), o 69 (.loadN 5 (t 9)), sb (.mapupd (.many [1, 1]) (t 63) (t 68) (t 69))])
 (.seq (.keep [0, 5, 7, 8, 9])
 (.seq (.opsK [] [] [o 70 (.mv (t 0)), o 71 (.nilc (t 70)), o 72 (.faddr 4 (t 71)), o 73 (.load1 (t 72)), o 74 (.loadN 2 (t 8)), o 76 (.faddr 2 (t 7)), o 77 (.load1 (t 76)), o 78 (.bslice 1 1 [(.int .i64 0)] [(0, (1, (t 77)))]), b 79 (.mapent (.many [1, 1]) (.slice none 0 0) (t 73) (t 74)), o 75 (.extract 0 (t 79)), b 80 (.append 1 8 (t 75) (t 78)), o 81 (.extract 1 (t 79)), sb (.entst (t 73) (t 81) (t 80))])
 (.seq (.keep [0, 5, 7, 9])
 (.seq (.ops false [o 82 (.faddr 1 (t 5)), o 83 (.load1 (t 82)), o 84 (.un .not (t 83))])
 (.cond (t 84)
 (.opsK [(15, 87), (15, 89)] [] [o 85 (.mv (t 0)), o 86 (.nilc (t 85)), o 87 (.faddr 6 (t 86)), o 88 (.load1 (t 87)), o 89 (.faddr 1 (t 7)), o 90 (.load1 (t 89)), o 91 (.mv (t 0)), o 92 (.nilc (t 91)), o 93 (.faddr 6 (t 92)), o 94 (.load1 (t 93)), o 95 (.faddr 1 (t 7)), o 96 (.load1 (t 95)), o 97 (.lookup (.one 1) (.slice none 0 0) false (t 94) (t 96)), o 98 (.loadN 5 (t 9)), o 99 (.bslice 5 1 [(.int .i64 0), (.int .i64 0), (.int .i64 0), (.int .i64 0), (.bool false)] [(0, (5, (t 98)))]), b 100 (.append 5 40 (t 97) (t 99)), sb (.mapupd (.one 1) (t 88) (t 90) (t 100))])
 .skip)))))))))))))⟩
/-- coroner/coronerref03.Ops -/
def F_r03_Ops : AFn := ⟨1, [.tmp 2],
 (.seq (.ops false [o 1 (.box (t 0)), o 2 (.mv (ci 0))])
 (.seq (.ops false [o 3 (.mv (ci 0))])
 (.seq (.seq (.ops false [o 4 (.mv (ci 0))])
 (.seq (.keep [1, 3, 4]) (.block 0 (.loop (.seq (.seq (.seq (.ops false [o 5 (.mv (t 4)), o 6 (.faddr 0 (t 1)), o 7 (.load1 (t 6)), o 8 (.len 1 (t 7)), o 9 (.bin .lss (t 5) (t 8))])
 (.cond (t 9)
 .skip
 (.exit 0)))
 (.seq (.block 1 (.ops false [o 12 (.mv (t 3)), o 13 (.faddr 0 (t 1)), o 14 (.load1 (t 13)), o 15 (.mv (t 4)), o 16 (.iaddr 3 (t 14) (t 15)), o 17 (.faddr 2 (t 16)), o 18 (.load1 (t 17)), o 19 (.len 1 (t 18)), o 20 (.bin .add (t 12) (t 19)), o 3 (.mv (t 20))]))
 (.seq (.keep [1, 3, 4])
 (.ops false [o 10 (.mv (t 4)), o 11 (.bin .add (t 10) (ci 1)), o 4 (.mv (t 11))])))) (.keep [1, 3, 4]))))))
 (.seq (.keep [3])
 (.seq (.ops false [o 21 (.mv (t 3)), o 2 (.mv (t 21))])
 .ret)))))⟩
/-- coroner/coronerref03.Appended -/
def F_r03_Appended : AFn := ⟨3, [.tmp 6],
 (.seq (.ops false [o 3 (.box (t 0)), o 6 (.mv (.const (.bool false)))])
 (.seq (.seq (.ops false [o 7 (.mv (ci 0))])
 (.seq (.keep [1, 2, 3, 7]) (.block 0 (.loop (.seq (.seq (.seq (.ops false [o 10 (.mv (t 7)), o 11 (.faddr 0 (t 3)), o 12 (.load1 (t 11)), o 13 (.len 1 (t 12)), o 14 (.bin .lss (t 10) (t 13))])
 (.cond (t 14)
 .skip
 (.exit 0)))
 (.seq (.block 1 (.seq (.ops false [o 8 (.mv (ci 0))])
 (.seq (.keep [1, 2, 3, 7, 8]) (.block 2 (.loop (.seq (.seq (.seq (.ops false [o 17 (.mv (t 8)), o 18 (.faddr 0 (t 3)), o 19 (.load1 (t 18)), o 20 (.mv (t 7)), o 21 (.iaddr 3 (t 19) (t 20)), o 22 (.faddr 2 (t 21)), o 23 (.load1 (t 22)), o 24 (.len 1 (t 23)), o 25 (.bin .lss (t 17) (t 24))])
 (.seq (.keep [1, 2, 3, 7, 8, 25])
 (.cond (t 25)
 .skip
 (.exit 2))))
 (.seq (.keep [1, 2, 3, 7, 8])
 (.seq (.block 3 (.seq (.ops false [o 28 (.faddr 0 (t 3)), o 29 (.load1 (t 28)), o 30 (.mv (t 7)), o 31 (.iaddr 3 (t 29) (t 30)), o 32 (.faddr 2 (t 31)), o 33 (.load1 (t 32)), o 34 (.mv (t 8)), o 35 (.iaddr 4 (t 33) (t 34)), o 36 (.loadN 4 (t 35)), o 9 (.alloc [(.bool false), (.int .i64 0), (.int .i64 0), (.slice none 0 0)]), s (.store 4 (t 9) (t 36))])
 (.seq (.keep [1, 2, 3, 7, 8, 9])
 (.seq (.ops false [o 37 (.faddr 0 (t 9)), o 38 (.load1 (t 37)), o 39 (.un .not (t 38)), o 40 (.mv (t 39)), ⟨(some 41), .faddr 1 (t 9), some (40, true), false⟩, ⟨(some 42), .load1 (t 41), some (40, true), false⟩, ⟨(some 43), .mv (t 1), some (40, true), false⟩, ⟨(some 44), .bin .eql (t 42) (t 43), some (40, true), false⟩, o 45 (.pick (t 40) (t 44) (.const (.bool false))), o 46 (.mv (t 45)), ⟨(some 47), .faddr 2 (t 9), some (46, true), false⟩, ⟨(some 48), .load1 (t 47), some (46, true), false⟩, ⟨(some 49), .mv (t 2), some (46, true), false⟩, ⟨(some 50), .bin .eql (t 48) (t 49), some (46, true), false⟩, o 51 (.pick (t 46) (t 50) (.const (.bool false)))])
 (.seq (.keep [1, 2, 3, 7, 8, 51])
 (.cond (t 51)
 (.seq (.ops false [o 6 (.mv (.const (.bool true)))])
 .ret)
 .skip))))))
 (.seq (.keep [1, 2, 3, 7, 8])
 (.ops false [o 26 (.mv (t 8)), o 27 (.bin .add (t 26) (ci 1)), o 8 (.mv (t 27))]))))) (.keep [1, 2, 3, 7, 8])))))))
 (.seq (.keep [1, 2, 3, 7])
 (.ops false [o 15 (.mv (t 7)), o 16 (.bin .add (t 15) (ci 1)), o 7 (.mv (t 16))])))) (.keep [1, 2, 3, 7]))))))
 (.seq (.keep [])
 (.seq (.ops false [o 6 (.mv (.const (.bool false)))])
 .ret))))⟩
/-- (*coroner/table.Table).is -/
def F_table_Table_is : AFn := ⟨1, [.tmp 2],
 (.seq (.ops false [o 2 (.mv (.const (.bool false)))])
 (.seq (.ops false [o 3 (.mv (t 0)), o 4 (.eqv 1 true (t 3) (.const (.pointer none))), o 5 (.mv (t 4)), ⟨(some 6), .mv (t 0), some (5, true), false⟩, ⟨(some 7), .nilc (t 6), some (5, true), false⟩, ⟨(some 8), .faddr 0 (t 7), some (5, true), false⟩, ⟨(some 9), .load1 (t 8), some (5, true), false⟩, o 10 (.pick (t 5) (t 9) (.const (.bool false))), o 2 (.mv (t 10))])
 (.seq (.keep [2])
 .ret)))⟩
/-- coroner/coronerref05.Of -/
def F_r05_Of : AFn := ⟨1, [.tmp 2],
 (.seq (.ops false [o 2 (.mv (.const (.slice none 0 0)))])
 (.seq (.ops false [o 3 (.mv (.const (.slice none 0 0)))])
 (.seq (.seq (.ops false [o 4 (.mv (ci 0))])
 (.seq (.keep [0, 3, 4]) (.block 0 (.loop (.seq (.seq (.seq (.ops false [o 8 (.mv (t 4)), o 9 (.mv (t 0)), o 10 (.len 1 (t 9)), o 11 (.bin .leq (t 8) (t 10))])
 (.cond (t 11)
 .skip
 (.exit 0)))
 (.seq (.block 1 (.seq (.ops false [o 5 (.mv (ci 0)), o 6 (.mv (.const (.bool false)))])
 (.seq (.seq (.ops false [o 7 (.mv (ci 0))])
 (.seq (.keep [0, 3, 4, 5, 6, 7]) (.block 2 (.loop (.seq (.seq (.seq (.ops false [o 14 (.mv (t 7)), o 15 (.mv (t 0)), o 16 (.len 1 (t 15)), o 17 (.bin .lss (t 14) (t 16))])
 (.cond (t 17)
 .skip
 (.exit 2)))
 (.seq (.block 3 (.seq (.ops false [o 20 (.mv (t 3)), o 21 (.mv (t 0)), o 22 (.mv (t 7)), o 23 (.iaddr 1 (t 21) (t 22)), o 24 (.load1 (t 23)), o 25 (.call (.func n_r05_Has) [(t 20), (t 24)]), o 26 (.un .not (t 25)), o 27 (.mv (t 26)), ⟨(some 28), .mv (t 6), some (27, true), false⟩, ⟨(some 29), .un .not (t 28), some (27, true), false⟩, ⟨(some 30), .mv (t 29), some (27, true), false⟩, ⟨(some 31), .mv (t 0), some (30, false), false⟩, ⟨(some 32), .mv (t 7), some (30, false), false⟩, ⟨(some 33), .iaddr 1 (t 31) (t 32), some (30, false), false⟩, ⟨(some 34), .load1 (t 33), some (30, false), false⟩, ⟨(some 35), .mv (t 5), some (30, false), false⟩, ⟨(some 36), .bin .lss (t 34) (t 35), some (30, false), false⟩, ⟨(some 37), .pick (t 30) (.const (.bool true)) (t 36), some (27, true), false⟩, o 38 (.pick (t 27) (t 37) (.const (.bool false)))])
 (.seq (.keep [0, 3, 4, 5, 6, 7, 38])
 (.cond (t 38)
 (.ops false [o 39 (.mv (t 0)), o 40 (.mv (t 7)), o 41 (.iaddr 1 (t 39) (t 40)), o 42 (.load1 (t 41)), o 5 (.mv (t 42)), o 6 (.mv (.const (.bool true)))])
 .skip))))
 (.seq (.keep [0, 3, 4, 5, 6, 7])
 (.ops false [o 18 (.mv (t 7)), o 19 (.bin .add (t 18) (ci 1)), o 7 (.mv (t 19))])))) (.keep [0, 3, 4, 5, 6, 7]))))))
 (.seq (.keep [0, 3, 4, 5, 6])
 (.seq (.seq (.ops false [o 43 (.mv (t 6)), o 44 (.un .not (t 43))])
 (.cond (t 44)
 (.seq (.ops false [o 45 (.mv (t 3)), o 2 (.mv (t 45))])
 .ret)
 .skip))
 (.ops false [o 46 (.mv (t 3)), o 47 (.mv (t 5)), o 48 (.bslice 1 1 [(.int .i64 0)] [(0, (1, (t 47)))]), o 49 (.append 1 8 (t 46) (t 48)), o 3 (.mv (t 49))]))))))
 (.seq (.keep [0, 3, 4])
 (.ops false [o 12 (.mv (t 4)), o 13 (.bin .add (t 12) (ci 1)), o 4 (.mv (t 13))])))) (.keep [0, 3, 4]))))))
 (.seq (.keep [3])
 (.seq (.ops false [o 50 (.mv (t 3)), o 2 (.mv (t 50))])
 .ret)))))⟩
/-- coroner/table.goes[coroner/table.Read] -/
def F_table_goes_table_Read : AFn := ⟨1, [.tmp 2],
 (.seq (.ops false [o 1 (.box (t 0)), o 2 (.mv (.const .nilFunc))])
 (.seq (.ops false [o 3 (.mkf n_table_goes_table_Read_c1 [] [(t 1)]), o 2 (.mv (t 3))])
 .ret))⟩
/-- coroner/encode.text -/
def F_encode_text : AFn := ⟨1, [.tmp 2],
 (.seq (.ops false [o 1 (.box (t 0)), o 2 (.mv (.const (.slice none 0 0)))])
 (.seq (.ops false [o 3 (.mv (.const (.slice none 0 0)))])
 (.seq (.seq (.ops false [o 6 (.faddr 0 (t 1)), o 7 (.load1 (t 6)), o 8 (.len 1 (t 7)), o 9 (.mv (ci 0))])
 (.seq (.keep [3, 7, 8, 9]) (.block 0 (.loop (.seq (.seq (.ops false [o 10 (.bin .lss (t 9) (t 8))])
 (.seq (.cond (t 10)
 .skip
 (.exit 0))
 (.seq (.block 1 (.seq (.ops false [o 11 (.iaddr 3 (t 7) (t 9)), o 12 (.loadN 3 (t 11)), o 5 (.alloc [(.int .i64 0), (.bool false), (.slice none 0 0)]), s (.store 3 (t 5) (t 12))])
 (.ops false [o 13 (.mv (t 3)), o 14 (.loadN 3 (t 5)), o 15 (.call (.func n_encode_txn) [(t 14)]), o 16 (.append 1 1 (t 13) (t 15)), o 3 (.mv (t 16))])))
 (.seq (.keep [3, 7, 8, 9])
 (.ops false [o 17 (.bin .add (t 9) (ci 1)), o 9 (.mv (t 17))]))))) (.keep [3, 7, 8, 9]))))))
 (.seq (.keep [3])
 (.seq (.ops false [o 18 (.mv (t 3)), o 2 (.mv (t 18))])
 .ret)))))⟩
/-- cmp.isNaN[int] -/
def F_cmp_isNaN_int : AFn := ⟨1, [.tmp 2],
 (.seq (.ops false [o 2 (.mv (.const (.bool false)))])
 (.seq (.ops false [o 3 (.mv (t 0)), o 4 (.mv (t 0)), o 5 (.bin .neq (t 3) (t 4)), o 2 (.mv (t 5))])
 .ret))⟩
/-- slices.Compact[[]int,int] -/
def F_slices_Compact_int_int : AFn := ⟨1, [.tmp 2],
 (.seq (.ops false [o 2 (.mv (.const (.slice none 0 0)))])
 (.seq (.seq (.ops false [o 6 (.mv (t 0)), o 7 (.len 1 (t 6)), o 8 (.bin .lss (t 7) (ci 2))])
 (.cond (t 8)
 (.seq (.ops false [o 9 (.mv (t 0)), o 2 (.mv (t 9))])
 .ret)
 .skip))
 (.seq (.seq (.ops false [o 3 (.mv (ci 1))])
 (.seq (.keep [0, 3]) (.block 0 (.loop (.seq (.seq (.seq (.ops false [o 10 (.mv (t 3)), o 11 (.mv (t 0)), o 12 (.len 1 (t 11)), o 13 (.bin .lss (t 10) (t 12))])
 (.cond (t 13)
 .skip
 (.exit 0)))
 (.seq (.block 1 (.seq (.ops true [o 16 (.mv (t 0)), o 17 (.mv (t 3)), o 18 (.iaddr 1 (t 16) (t 17)), o 19 (.load1 (t 18)), o 20 (.mv (t 0)), o 21 (.mv (t 3)), o 22 (.bin .sub (t 21) (ci 1)), o 23 (.iaddr 1 (t 20) (t 22)), o 24 (.load1 (t 23)), b 25 (.bin .eql (t 19) (t 24))])
 (.seq (.keep [0, 3, 25])
 (.cond (t 25)
 (.seq (.ops false [o 26 (.mv (t 0)), o 27 (.mv (t 3)), o 28 (.slc 1 (t 26) (some (t 27)) none), o 4 (.mv (t 28))])
 (.seq (.seq (.ops false [o 5 (.mv (ci 1))])
 (.seq (.keep [0, 3, 4, 5]) (.block 2 (.loop (.seq (.seq (.seq (.ops false [o 29 (.mv (t 5)), o 30 (.mv (t 4)), o 31 (.len 1 (t 30)), o 32 (.bin .lss (t 29) (t 31))])
 (.cond (t 32)
 .skip
 (.exit 2)))
 (.seq (.block 3 (.seq (.ops true [o 35 (.mv (t 4)), o 36 (.mv (t 5)), o 37 (.iaddr 1 (t 35) (t 36)), o 38 (.load1 (t 37)), o 39 (.mv (t 4)), o 40 (.mv (t 5)), o 41 (.bin .sub (t 40) (ci 1)), o 42 (.iaddr 1 (t 39) (t 41)), o 43 (.load1 (t 42)), b 44 (.bin .neq (t 38) (t 43))])
 (.seq (.keep [0, 3, 4, 5, 44])
 (.cond (t 44)
 (.seq (.ops false [o 45 (.mv (t 0)), o 46 (.mv (t 3)), o 47 (.mv (t 4)), o 48 (.mv (t 5)), o 49 (.iaddr 1 (t 47) (t 48)), o 50 (.load1 (t 49)), o 51 (.iaddr 1 (t 45) (t 46)), s (.store 1 (t 51) (t 50))])
 (.seq (.keep [0, 3, 4, 5])
 (.ops false [o 52 (.mv (t 3)), o 53 (.bin .add (t 52) (ci 1)), o 3 (.mv (t 53))])))
 .skip))))
 (.seq (.keep [0, 3, 4, 5])
 (.ops false [o 33 (.mv (t 5)), o 34 (.bin .add (t 33) (ci 1)), o 5 (.mv (t 34))])))) (.keep [0, 3, 4, 5]))))))
 (.seq (.keep [0, 3])
 (.seq (.ops false [o 54 (.mv (t 0)), o 55 (.mv (t 3)), o 56 (.slc 1 (t 54) (some (t 55)) none), s (.clear [(.int .i64 0)] (t 56))])
 (.seq (.ops false [o 57 (.mv (t 0)), o 58 (.mv (t 3)), o 59 (.slc 1 (t 57) none (some (t 58))), o 2 (.mv (t 59))])
 .ret)))))
 .skip))))
 (.seq (.keep [0, 3])
 (.ops false [o 14 (.mv (t 3)), o 15 (.bin .add (t 14) (ci 1)), o 3 (.mv (t 15))])))) (.keep [0, 3]))))))
 (.seq (.keep [0])
 (.seq (.ops false [o 60 (.mv (t 0)), o 2 (.mv (t 60))])
 .ret)))))⟩
/-- slices.isNaN[int] -/
def F_slices_isNaN_int : AFn := ⟨1, [.tmp 2],
 (.seq (.ops false [o 2 (.mv (.const (.bool false)))])
 (.seq (.ops false [o 3 (.mv (t 0)), o 4 (.mv (t 0)), o 5 (.bin .neq (t 3) (t 4)), o 2 (.mv (t 5))])
 .ret))⟩
/-- coroner/table.goes[coroner/table.Write]$1 -/
def F_table_goes_table_Write_c1 : AFn := ⟨2, [],
 (.seq (.ops false [o 5 (.load1 (t 1)), o 6 (.len 1 (t 5)), o 7 (.mv (ci 0))])
 (.seq (.keep [0, 5, 6, 7]) (.block 0 (.loop (.seq (.seq (.ops false [o 8 (.bin .lss (t 7) (t 6))])
 (.seq (.cond (t 8)
 .skip
 (.exit 0))
 (.seq (.block 1 (.seq (.ops false [o 9 (.iaddr 5 (t 5) (t 7)), o 10 (.loadN 5 (t 9)), o 4 (.alloc [(.int .i64 0), (.int .i64 0), (.int .i64 0), (.int .i64 0), (.bool false)]), s (.store 5 (t 4) (t 10))])
 (.seq (.ops false [o 11 (.mv (t 0)), o 12 (.loadN 5 (t 4)), o 13 (.call (t 11) [(t 12)]), o 14 (.un .not (t 13))])
 (.cond (t 14)
 .ret
 .skip))))
 (.seq (.keep [0, 5, 6, 7])
 (.ops false [o 15 (.bin .add (t 7) (ci 1)), o 7 (.mv (t 15))]))))) (.keep [0, 5, 6, 7]))))))⟩
/-- coroner/encode.mayOp -/
def F_encode_mayOp : AFn := ⟨1, [.tmp 2],
 (.seq (.ops false [o 1 (.box (t 0)), o 2 (.mv (.const (.bool false)))])
 (.seq (.seq (.ops false [o 3 (.faddr 0 (t 1)), o 4 (.load1 (t 3))])
 (.cond (t 4)
 (.seq (.ops false [o 5 (.faddr 1 (t 1)), o 6 (.load1 (t 5)), o 7 (.bslice 1 1 [(.int .i64 0)] [(0, (1, (t 6)))]), o 8 (.call (.func n_encode_may) [(t 7)]), o 9 (.mv (t 8)), ⟨(some 10), .faddr 2 (t 1), some (9, true), false⟩, ⟨(some 11), .load1 (t 10), some (9, true), false⟩, ⟨(some 12), .bin .eql (t 11) (ci 0), some (9, true), false⟩, o 13 (.pick (t 9) (t 12) (.const (.bool false))), o 14 (.mv (t 13)), ⟨(some 15), .faddr 3 (t 1), some (14, true), false⟩, ⟨(some 16), .load1 (t 15), some (14, true), false⟩, ⟨(some 17), .call (.func n_encode_may) [(t 16)], some (14, true), false⟩, o 18 (.pick (t 14) (t 17) (.const (.bool false))), o 2 (.mv (t 18))])
 (.seq (.keep [2])
 .ret))
 .skip))
 (.seq (.keep [1])
 (.seq (.ops false [o 19 (.faddr 1 (t 1)), o 20 (.load1 (t 19)), o 21 (.faddr 2 (t 1)), o 22 (.load1 (t 21)), o 23 (.bslice 1 2 [(.int .i64 0), (.int .i64 0)] [(0, (1, (t 20))), (1, (1, (t 22)))]), o 24 (.call (.func n_encode_may) [(t 23)]), o 25 (.mv (t 24)), ⟨(some 26), .faddr 3 (t 1), some (25, true), false⟩, ⟨(some 27), .load1 (t 26), some (25, true), false⟩, ⟨(some 28), .len 1 (t 27), some (25, true), false⟩, ⟨(some 29), .bin .eql (t 28) (ci 0), some (25, true), false⟩, o 30 (.pick (t 25) (t 29) (.const (.bool false))), o 2 (.mv (t 30))])
 (.seq (.keep [2])
 .ret)))))⟩
/-- coroner/encode.line -/
def F_encode_line : AFn := ⟨3, [.tmp 6],
 (.seq (.ops false [o 6 (.mv (.const (.slice none 0 0)))])
 (.seq (.ops false [o 12 (.mv (t 0)), o 13 (.convSB (t 12)), o 7 (.mv (t 13))])
 (.seq (.seq (.ops false [o 14 (.mv (t 2)), o 15 (.len 1 (t 14)), o 16 (.mv (ci 0))])
 (.seq (.keep [1, 7, 14, 15, 16]) (.block 0 (.loop (.seq (.seq (.ops false [o 17 (.bin .lss (t 16) (t 15))])
 (.seq (.cond (t 17)
 .skip
 (.exit 0))
 (.seq (.block 1 (.seq (.ops false [o 18 (.iaddr 1 (t 14) (t 16)), o 19 (.load1 (t 18)), o 9 (.mv (t 19))])
 (.seq (.ops false [o 21 (.mv (t 9)), o 22 (.call (.func n_digits_Print) [(t 21)]), o 20 (.mv (t 22)), o 23 (.extract 0 (t 20)), o 24 (.extract 1 (t 20)), o 10 (.mv (t 23)), o 11 (.mv (t 24))])
 (.seq (.keep [1, 7, 10, 14, 15, 16])
 (.ops false [o 25 (.mv (t 7)), o 26 (.mv (t 10)), o 27 (.bin .add (.const (.string ⟨#[32]⟩)) (t 26)), o 28 (.appS 1 (t 25) (t 27)), o 7 (.mv (t 28))])))))
 (.seq (.keep [1, 7, 14, 15, 16])
 (.ops false [o 29 (.bin .add (t 16) (ci 1)), o 16 (.mv (t 29))]))))) (.keep [1, 7, 14, 15, 16]))))))
 (.seq (.keep [1, 7])
 (.seq (.ops false [o 30 (.mv (t 7)), o 31 (.mv (t 1)), o 32 (.appS 1 (t 30) (t 31)), o 6 (.mv (t 32))])
 .ret)))))⟩
/-- coroner/coronerref03.Few -/
def F_r03_Few : AFn := ⟨3, [.tmp 6],
 (.seq (.ops false [o 3 (.box (t 0)), o 6 (.mv (.const (.bool false)))])
 (.seq (.seq (.ops false [o 10 (.faddr 0 (t 3)), o 11 (.load1 (t 10)), o 12 (.len 1 (t 11)), o 13 (.mv (t 1)), o 14 (.bin .gtr (t 12) (t 13))])
 (.cond (t 14)
 (.seq (.ops false [o 6 (.mv (.const (.bool false)))])
 .ret)
 .skip))
 (.seq (.ops false [o 7 (.mv (ci 0))])
 (.seq (.seq (.ops false [o 8 (.mv (ci 0))])
 (.seq (.keep [2, 3, 7, 8]) (.block 0 (.loop (.seq (.seq (.seq (.ops false [o 15 (.mv (t 8)), o 16 (.faddr 0 (t 3)), o 17 (.load1 (t 16)), o 18 (.len 1 (t 17)), o 19 (.bin .lss (t 15) (t 18))])
 (.cond (t 19)
 .skip
 (.exit 0)))
 (.seq (.block 1 (.seq (.seq (.ops false [o 22 (.faddr 0 (t 3)), o 23 (.load1 (t 22)), o 24 (.mv (t 8)), o 25 (.iaddr 3 (t 23) (t 24)), o 26 (.faddr 2 (t 25)), o 27 (.load1 (t 26)), o 28 (.len 1 (t 27)), o 29 (.mv (t 2)), o 30 (.mv (t 7)), o 31 (.bin .sub (t 29) (t 30)), o 32 (.bin .gtr (t 28) (t 31))])
 (.seq (.keep [2, 3, 7, 8, 32])
 (.cond (t 32)
 (.seq (.ops false [o 6 (.mv (.const (.bool false)))])
 .ret)
 .skip)))
 (.seq (.keep [2, 3, 7, 8])
 (.seq (.ops false [o 33 (.mv (t 7)), o 34 (.faddr 0 (t 3)), o 35 (.load1 (t 34)), o 36 (.mv (t 8)), o 37 (.iaddr 3 (t 35) (t 36)), o 38 (.faddr 2 (t 37)), o 39 (.load1 (t 38)), o 40 (.len 1 (t 39)), o 41 (.bin .add (t 33) (t 40)), o 7 (.mv (t 41))])
 (.seq (.keep [2, 3, 7, 8])
 (.seq (.ops false [o 9 (.mv (ci 0))])
 (.seq (.keep [2, 3, 7, 8, 9]) (.block 2 (.loop (.seq (.seq (.seq (.ops false [o 42 (.mv (t 9)), o 43 (.faddr 0 (t 3)), o 44 (.load1 (t 43)), o 45 (.mv (t 8)), o 46 (.iaddr 3 (t 44) (t 45)), o 47 (.faddr 2 (t 46)), o 48 (.load1 (t 47)), o 49 (.len 1 (t 48)), o 50 (.bin .lss (t 42) (t 49))])
 (.seq (.keep [2, 3, 7, 8, 9, 50])
 (.cond (t 50)
 .skip
 (.exit 2))))
 (.seq (.keep [2, 3, 7, 8, 9])
 (.seq (.block 3 (.seq (.ops false [o 53 (.faddr 0 (t 3)), o 54 (.load1 (t 53)), o 55 (.mv (t 8)), o 56 (.iaddr 3 (t 54) (t 55)), o 57 (.faddr 2 (t 56)), o 58 (.load1 (t 57)), o 59 (.mv (t 9)), o 60 (.iaddr 4 (t 58) (t 59)), o 61 (.faddr 3 (t 60)), o 62 (.load1 (t 61)), o 63 (.len 1 (t 62)), o 64 (.bin .gtr (t 63) (ci 100))])
 (.seq (.keep [2, 3, 7, 8, 9, 64])
 (.cond (t 64)
 (.seq (.ops false [o 6 (.mv (.const (.bool false)))])
 .ret)
 .skip))))
 (.seq (.keep [2, 3, 7, 8, 9])
 (.ops false [o 51 (.mv (t 9)), o 52 (.bin .add (t 51) (ci 1)), o 9 (.mv (t 52))]))))) (.keep [2, 3, 7, 8, 9])))))))))))
 (.seq (.keep [2, 3, 7, 8])
 (.ops false [o 20 (.mv (t 8)), o 21 (.bin .add (t 20) (ci 1)), o 8 (.mv (t 21))])))) (.keep [2, 3, 7, 8]))))))
 (.seq (.keep [])
 (.seq (.ops false [o 6 (.mv (.const (.bool true)))])
 .ret))))))⟩
/-- coroner/coronerref04.Check -/
def F_r04_Check : AFn := ⟨1, [.tmp 2],
 (.seq (.ops false [o 1 (.box (t 0)), o 2 (.mv (ci 0))])
 (.seq (.seq (.ops false [o 7 (.faddr 0 (t 1)), o 8 (.load1 (t 7)), o 9 (.len 1 (t 8)), o 10 (.bin .gtr (t 9) (ci 1024)), o 11 (.mv (t 10)), ⟨(some 12), .loadN 1 (t 1), some (11, false), false⟩, ⟨(some 13), .call (.func n_r03_Ops) [(t 12)], some (11, false), false⟩, ⟨(some 14), .bin .gtr (t 13) (ci 4096), some (11, false), false⟩, o 15 (.pick (t 11) (.const (.bool true)) (t 14))])
 (.seq (.keep [1, 15])
 (.cond (t 15)
 (.seq (.ops false [o 2 (.mv (ci 3))])
 .ret)
 .skip)))
 (.seq (.keep [1])
 (.seq (.seq (.ops false [o 3 (.mv (ci 0))])
 (.seq (.keep [1, 3]) (.block 0 (.loop (.seq (.seq (.seq (.ops false [o 16 (.mv (t 3)), o 17 (.faddr 0 (t 1)), o 18 (.load1 (t 17)), o 19 (.len 1 (t 18)), o 20 (.bin .lss (t 16) (t 19))])
 (.cond (t 20)
 .skip
 (.exit 0)))
 (.seq (.block 1 (.seq (.ops false [o 23 (.faddr 0 (t 1)), o 24 (.load1 (t 23)), o 25 (.mv (t 3)), o 26 (.iaddr 3 (t 24) (t 25)), o 27 (.loadN 3 (t 26)), o 4 (.alloc [(.int .i64 0), (.bool false), (.slice none 0 0)]), s (.store 3 (t 4) (t 27))])
 (.seq (.keep [1, 3, 4])
 (.seq (.seq (.ops false [o 28 (.faddr 0 (t 4)), o 29 (.load1 (t 28)), o 30 (.call (.func n_r04_may) [(t 29)]), o 31 (.un .not (t 30))])
 (.cond (t 31)
 (.seq (.ops false [o 2 (.mv (ci 2))])
 .ret)
 .skip))
 (.seq (.seq (.ops false [o 5 (.mv (ci 0))])
 (.seq (.keep [1, 3, 4, 5]) (.block 2 (.loop (.seq (.seq (.seq (.ops false [o 32 (.mv (t 5)), o 33 (.mv (t 3)), o 34 (.bin .lss (t 32) (t 33))])
 (.cond (t 34)
 .skip
 (.exit 2)))
 (.seq (.block 3 (.seq (.ops true [o 37 (.faddr 0 (t 1)), o 38 (.load1 (t 37)), o 39 (.mv (t 5)), o 40 (.iaddr 3 (t 38) (t 39)), o 41 (.faddr 0 (t 40)), o 42 (.load1 (t 41)), o 43 (.faddr 0 (t 4)), o 44 (.load1 (t 43)), b 45 (.bin .eql (t 42) (t 44))])
 (.seq (.keep [1, 3, 4, 5, 45])
 (.cond (t 45)
 (.seq (.ops false [o 2 (.mv (ci 5))])
 .ret)
 .skip))))
 (.seq (.keep [1, 3, 4, 5])
 (.ops false [o 35 (.mv (t 5)), o 36 (.bin .add (t 35) (ci 1)), o 5 (.mv (t 36))])))) (.keep [1, 3, 4, 5]))))))
 (.seq (.keep [1, 3, 4])
 (.seq (.ops false [o 6 (.mv (ci 0))])
 (.seq (.keep [1, 3, 4, 6]) (.block 4 (.loop (.seq (.seq (.seq (.ops false [o 46 (.mv (t 6)), o 47 (.faddr 2 (t 4)), o 48 (.load1 (t 47)), o 49 (.len 1 (t 48)), o 50 (.bin .lss (t 46) (t 49))])
 (.cond (t 50)
 .skip
 (.exit 4)))
 (.seq (.block 5 (.seq (.seq (.ops false [o 53 (.faddr 2 (t 4)), o 54 (.load1 (t 53)), o 55 (.mv (t 6)), o 56 (.iaddr 4 (t 54) (t 55)), o 57 (.loadN 4 (t 56)), o 58 (.call (.func n_r04_mayOp) [(t 57)]), o 59 (.un .not (t 58))])
 (.seq (.keep [1, 3, 4, 6, 59])
 (.cond (t 59)
 (.seq (.ops false [o 2 (.mv (ci 2))])
 .ret)
 .skip)))
 (.seq (.keep [1, 3, 4, 6])
 (.seq (.ops true (o 60 (.faddr 2 (t 4)) :: o 61 (.load1 (t 60)) :: o 62 (.mv (t 6)) :: b 63 (.iaddr 4 (t 61) (t 62)) :: b 64 (.faddr 0 (t 63)) :: b 65 (.load1 (t 64)) :: b 66 (.un .not (t 65)) :: b 67 (.mv (t 66)) :: ⟨(some 68), .loadN 1 (t 1), some (67, true), false⟩ :: ⟨(some 69), .mv (t 3), some (67, true), false⟩ :: ⟨(some 70), .mv (t 6), some (67, true), false⟩ :: ⟨(some 71), .call (.func n_r04_earlier) [(t 68), (t 69), (t 70)], some (67, true), false⟩ :: ⟨(some 72), .faddr 2 (t 4), some (67, true), false⟩ :: ⟨(some 73), .load1 (t 72), some (67, true), false⟩ :: ⟨(some 74), .mv (t 6), some (67, true), false⟩ :: ⟨(some 75), .iaddr 4 (t 73) (t 74), some (67, true), false⟩ :: ⟨(some 76), .faddr 1 (t 75), some (67, true), false⟩ :: ⟨(some 77), .load1 (t 76), some (67, true), false⟩ :: ⟨(some 78), .faddr 2 (t 4), some (67, true), false⟩ :: ⟨(some 79), .load1 (t 78), some (67, true), false⟩ :: ⟨(some 80), .mv (t 6), some (67, true), false⟩ :: ⟨(some 81), .iaddr 4 (t 79) (t 80), some (67, true), false⟩ :: ⟨(some 82), .faddr 2 (t 81), some (67, true), false⟩ :: ⟨(some 83), .load1 (t 82), some (67, true), false⟩ :: ⟨(some 84), .call (.func n_r03_Appended) [(t 71), (t 77), (t 83)], some (67, true), true⟩ :: b 85 (.pick (t 67) (t 84) (.const (.bool false))) :: []))
 (.seq (.keep [1, 3, 4, 6, 85])
 (.cond (t 85)
 (.seq (.ops false [o 2 (.mv (ci 6))])
 .ret)
 .skip))))))
 (.seq (.keep [1, 3, 4, 6])
 (.ops false [o 51 (.mv (t 6)), o 52 (.bin .add (t 51) (ci 1)), o 6 (.mv (t 52))])))) (.keep [1, 3, 4, 6]))))))))))))
 (.seq (.keep [1, 3])
 (.ops false [o 21 (.mv (t 3)), o 22 (.bin .add (t 21) (ci 1)), o 3 (.mv (t 22))])))) (.keep [1, 3]))))))
 (.seq (.keep [1])
 (.seq (.seq (.ops false [o 86 (.loadN 1 (t 1)), o 87 (.call (.func n_r04_Text) [(t 86)]), o 88 (.len 0 (t 87)), o 89 (.bin .gtr (t 88) (ci 262144))])
 (.cond (t 89)
 (.seq (.ops false [o 2 (.mv (ci 3))])
 .ret)
 .skip))
 (.seq (.ops false [o 2 (.mv (ci 0))])
 .ret)))))))⟩
/-- coroner/coronerref01.Same -/
def F_r01_Same : AFn := ⟨2, [.tmp 4],
 (.seq (.ops false [o 4 (.mv (.const (.bool false)))])
 (.seq (.seq (.ops false [o 6 (.mv (t 0)), o 7 (.len 1 (t 6)), o 8 (.mv (t 1)), o 9 (.len 1 (t 8)), o 10 (.bin .neq (t 7) (t 9))])
 (.cond (t 10)
 (.seq (.ops false [o 4 (.mv (.const (.bool false)))])
 .ret)
 .skip))
 (.seq (.seq (.ops false [o 5 (.mv (ci 0))])
 (.seq (.keep [0, 1, 5]) (.block 0 (.loop (.seq (.seq (.seq (.ops false [o 11 (.mv (t 5)), o 12 (.mv (t 0)), o 13 (.len 1 (t 12)), o 14 (.bin .lss (t 11) (t 13))])
 (.cond (t 14)
 .skip
 (.exit 0)))
 (.seq (.block 1 (.seq (.ops true [o 17 (.mv (t 0)), o 18 (.mv (t 5)), o 19 (.iaddr 1 (t 17) (t 18)), o 20 (.load1 (t 19)), o 21 (.mv (t 1)), o 22 (.mv (t 5)), o 23 (.iaddr 1 (t 21) (t 22)), o 24 (.load1 (t 23)), b 25 (.bin .neq (t 20) (t 24))])
 (.seq (.keep [0, 1, 5, 25])
 (.cond (t 25)
 (.seq (.ops false [o 4 (.mv (.const (.bool false)))])
 .ret)
 .skip))))
 (.seq (.keep [0, 1, 5])
 (.ops false [o 15 (.mv (t 5)), o 16 (.bin .add (t 15) (ci 1)), o 5 (.mv (t 16))])))) (.keep [0, 1, 5]))))))
 (.seq (.keep [])
 (.seq (.ops false [o 4 (.mv (.const (.bool true)))])
 .ret)))))⟩
/-- (*coroner/table.Table).Keys -/
def F_table_Table_Keys : AFn := ⟨1, [.tmp 2],
 (.seq (.ops false [o 2 (.mv (.const (.slice none 0 0)))])
 (.seq (.seq (.ops false [o 3 (.mv (t 0)), o 4 (.call (.func n_table_Table_is) [(t 3)]), o 5 (.un .not (t 4))])
 (.cond (t 5)
 (.seq (.ops false [o 2 (.mv (.const (.slice none 0 0)))])
 .ret)
 .skip))
 (.seq (.ops false [o 6 (.mv (t 0)), o 7 (.nilc (t 6)), o 8 (.faddr 2 (t 7)), o 9 (.load1 (t 8)), o 10 (.call (.func n_slices_Clone_int_int) [(t 9)]), o 2 (.mv (t 10))])
 .ret)))⟩
/-- (*coroner/table.Table).Reads -/
def F_table_Table_Reads : AFn := ⟨2, [.tmp 4],
 (.seq (.ops false [o 4 (.mv (.const .nilFunc))])
 (.seq (.seq (.ops false [o 5 (.mv (t 0)), o 6 (.call (.func n_table_Table_is) [(t 5)]), o 7 (.un .not (t 6))])
 (.cond (t 7)
 (.seq (.ops false [o 8 (.call (.func n_table_goes_table_Read) [(.const (.slice none 0 0))]), o 4 (.mv (t 8))])
 .ret)
 .skip))
 (.seq (.ops false [o 9 (.mv (t 0)), o 10 (.nilc (t 9)), o 11 (.faddr 5 (t 10)), o 12 (.load1 (t 11)), o 13 (.mv (t 1)), o 14 (.lookup (.one 1) (.slice none 0 0) false (t 12) (t 13)), o 15 (.call (.func n_table_goes_table_Read) [(t 14)]), o 4 (.mv (t 15))])
 (.seq (.keep [4])
 .ret))))⟩
/-- slices.Clone[[]coroner/api.Txn,coroner/api.Txn] -/
def F_slices_Clone_api_Txn_api_Txn : AFn := ⟨1, [.tmp 2],
 (.seq (.ops false [o 2 (.mv (.const (.slice none 0 0)))])
 (.seq (.seq (.ops false [o 3 (.mv (t 0)), o 4 (.eqv 2 false (t 3) (.const (.slice none 0 0)))])
 (.cond (t 4)
 (.seq (.ops false [o 2 (.mv (.const (.slice none 0 0)))])
 .ret)
 .skip))
 (.seq (.ops false [o 5 (.bslice 3 0 [] []), o 6 (.mv (t 0)), o 7 (.append 3 40 (t 5) (t 6)), o 2 (.mv (t 7))])
 .ret)))⟩
/-- cmp.Compare[int] -/
def F_cmp_Compare_int : AFn := ⟨2, [.tmp 4],
 (.seq (.ops false [o 4 (.mv (ci 0))])
 (.seq (.ops false [o 7 (.mv (t 0)), o 8 (.call (.func n_cmp_isNaN_int) [(t 7)]), o 5 (.mv (t 8))])
 (.seq (.ops false [o 9 (.mv (t 1)), o 10 (.call (.func n_cmp_isNaN_int) [(t 9)]), o 6 (.mv (t 10))])
 (.seq (.seq (.ops false [o 11 (.mv (t 5))])
 (.cond (t 11)
 (.seq (.seq (.ops false [o 12 (.mv (t 6))])
 (.cond (t 12)
 (.seq (.ops false [o 4 (.mv (ci 0))])
 .ret)
 .skip))
 (.seq (.ops false [o 4 (.mv (ci (-1)))])
 .ret))
 .skip))
 (.seq (.seq (.ops false [o 13 (.mv (t 6))])
 (.cond (t 13)
 (.seq (.ops false [o 4 (.mv (ci 1))])
 .ret)
 .skip))
 (.seq (.seq (.ops false [o 14 (.mv (t 0)), o 15 (.mv (t 1)), o 16 (.bin .lss (t 14) (t 15))])
 (.cond (t 16)
 (.seq (.ops false [o 4 (.mv (ci (-1)))])
 .ret)
 .skip))
 (.seq (.seq (.ops false [o 17 (.mv (t 0)), o 18 (.mv (t 1)), o 19 (.bin .gtr (t 17) (t 18))])
 (.cond (t 19)
 (.seq (.ops false [o 4 (.mv (ci 1))])
 .ret)
 .skip))
 (.seq (.ops false [o 4 (.mv (ci 0))])
 .ret))))))))⟩
/-- coroner/sorted.Of[int] -/
def F_sorted_Of_int : AFn := ⟨1, [.cellN 2 1],
 (.seq (.ops false [o 2 (.alloc [(.slice none 0 0)])])
 (.seq (.ops false [o 4 (.mv (t 0)), o 5 (.call (.func n_slices_Clone_int_int) [(t 4)]), o 3 (.mv (t 5))])
 (.seq (.ops false [o 6 (.mv (t 3)), o 7 (.call (.func n_slices_Sort_int_int) [(t 6)])])
 (.seq (.ops false [o 8 (.mv (t 3)), o 9 (.call (.func n_slices_Compact_int_int) [(t 8)]), o 10 (.build [(.slice none 0 0)] [(0, (1, (t 9)))]), s (.store 1 (t 2) (t 10))])
 .ret))))⟩
/-- coroner/coronerref04.may -/
def F_r04_may : AFn := ⟨1, [.tmp 2],
 (.seq (.ops false [o 2 (.mv (.const (.bool false)))])
 (.seq (.ops false [o 3 (.mv (t 0)), o 4 (.bin .geq (t 3) (ci 0)), o 5 (.mv (t 4)), ⟨(some 6), .mv (t 0), some (5, true), false⟩, ⟨(some 7), .bin .leq (t 6) (ci 2147483647), some (5, true), false⟩, o 8 (.pick (t 5) (t 7) (.const (.bool false))), o 2 (.mv (t 8))])
 (.seq (.keep [2])
 .ret)))⟩
/-- coroner/coronerref04.earlier -/
def F_r04_earlier : AFn := ⟨3, [.cellN 6 1],
 (.seq (.ops false [o 3 (.box (t 0)), o 6 (.alloc [(.slice none 0 0)])])
 (.seq (.ops false [o 9 (.bslice 3 0 [] []), o 10 (.faddr 0 (t 3)), o 11 (.load1 (t 10)), o 12 (.mv (t 1)), o 13 (.slc 3 (t 11) none (some (t 12))), o 14 (.append 3 40 (t 9) (t 13)), o 7 (.mv (t 14))])
 (.seq (.keep [1, 2, 3, 6, 7])
 (.seq (.ops false [o 15 (.faddr 0 (t 3)), o 16 (.load1 (t 15)), o 17 (.mv (t 1)), o 18 (.iaddr 3 (t 16) (t 17)), o 19 (.loadN 3 (t 18)), o 8 (.alloc [(.int .i64 0), (.bool false), (.slice none 0 0)]), s (.store 3 (t 8) (t 19))])
 (.seq (.keep [2, 6, 7, 8])
 (.seq (.ops false [o 20 (.faddr 2 (t 8)), o 21 (.load1 (t 20)), o 22 (.mv (t 2)), o 23 (.slc 4 (t 21) none (some (t 22))), o 24 (.faddr 2 (t 8)), s (.store 1 (t 24) (t 23))])
 (.seq (.ops false [o 25 (.mv (t 7)), o 26 (.loadN 3 (t 8)), o 27 (.bslice 3 1 [(.int .i64 0), (.bool false), (.slice none 0 0)] [(0, (3, (t 26)))]), o 28 (.append 3 40 (t 25) (t 27)), o 29 (.build [(.slice none 0 0)] [(0, (1, (t 28)))]), s (.store 1 (t 6) (t 29))])
 .ret)))))))⟩
/-- slices.BinarySearch[[]int,int] -/
def F_slices_BinarySearch_int_int : AFn := ⟨2, [.tmp 4, .tmp 5],
 (.seq (.ops false [o 4 (.mv (ci 0)), o 5 (.mv (.const (.bool false)))])
 (.seq (.ops false [o 10 (.mv (t 0)), o 11 (.len 1 (t 10)), o 6 (.mv (t 11))])
 (.seq (.ops false [o 12 (.mv (t 6)), o 7 (.mv (ci 0)), o 8 (.mv (t 12))])
 (.seq (.seq (.keep [0, 1, 6, 7, 8]) (.block 0 (.loop (.seq (.seq (.seq (.ops false [o 13 (.mv (t 7)), o 14 (.mv (t 8)), o 15 (.bin .lss (t 13) (t 14))])
 (.cond (t 15)
 .skip
 (.exit 0)))
 (.block 1 (.seq (.ops false [o 16 (.mv (t 7)), o 17 (.mv (t 8)), o 18 (.bin .add (t 16) (t 17)), o 19 (.conv .u64 (t 18)), o 20 (.bin .shr (t 19) (.const (.int .u64 1))), o 21 (.conv .i64 (t 20)), o 9 (.mv (t 21))])
 (.seq (.keep [0, 1, 6, 7, 8, 9])
 (.seq (.ops false [o 22 (.mv (t 0)), o 23 (.mv (t 9)), o 24 (.iaddr 1 (t 22) (t 23)), o 25 (.load1 (t 24)), o 26 (.mv (t 1)), o 27 (.call (.func n_cmp_Less_int) [(t 25), (t 26)])])
 (.cond (t 27)
 (.ops false [o 28 (.mv (t 9)), o 29 (.bin .add (t 28) (ci 1)), o 7 (.mv (t 29))])
 (.ops false [o 30 (.mv (t 9)), o 8 (.mv (t 30))]))))))) (.keep [0, 1, 6, 7, 8])))))
 (.seq (.keep [0, 1, 6, 7])
 (.seq (.ops false (o 31 (.mv (t 7)) :: o 32 (.mv (t 7)) :: o 33 (.mv (t 6)) :: o 34 (.bin .lss (t 32) (t 33)) :: o 35 (.mv (t 34)) :: ⟨(some 36), .mv (t 0), some (35, true), false⟩ :: ⟨(some 37), .mv (t 7), some (35, true), false⟩ :: ⟨(some 38), .iaddr 1 (t 36) (t 37), some (35, true), false⟩ :: ⟨(some 39), .load1 (t 38), some (35, true), false⟩ :: ⟨(some 40), .mv (t 1), some (35, true), false⟩ :: ⟨(some 41), .bin .eql (t 39) (t 40), some (35, true), false⟩ :: ⟨(some 42), .mv (t 41), some (35, true), false⟩ :: ⟨(some 43), .mv (t 0), some (42, false), false⟩ :: ⟨(some 44), .mv (t 7), some (42, false), false⟩ :: ⟨(some 45), .iaddr 1 (t 43) (t 44), some (42, false), false⟩ :: ⟨(some 46), .load1 (t 45), some (42, false), false⟩ :: ⟨(some 47), .call (.func n_slices_isNaN_int) [(t 46)], some (42, false), false⟩ :: ⟨(some 48), .mv (t 47), some (42, false), false⟩ :: ⟨(some 49), .mv (t 1), some (48, true), false⟩ :: ⟨(some 50), .call (.func n_slices_isNaN_int) [(t 49)], some (48, true), false⟩ :: ⟨(some 51), .pick (t 48) (t 50) (.const (.bool false)), some (42, false), false⟩ :: ⟨(some 52), .pick (t 42) (.const (.bool true)) (t 51), some (35, true), false⟩ :: o 53 (.pick (t 35) (t 52) (.const (.bool false))) :: o 4 (.mv (t 31)) :: o 5 (.mv (t 53)) :: []))
 (.seq (.keep [4, 5])
 .ret)))))))⟩
/-- coroner/coronerref12.txn -/
def F_r12_txn : AFn := ⟨2, [.cellN 4 3],
 (.seq (.ops false [o 2 (.box (t 0)), o 4 (.alloc [(.int .i64 0), (.bool false), (.slice none 0 0)])])
 (.seq (.seq (.ops false [o 5 (.mv (ci 0))])
 (.seq (.keep [1, 2, 4, 5]) (.block 0 (.loop (.seq (.seq (.seq (.ops false [o 6 (.mv (t 5)), o 7 (.faddr 0 (t 2)), o 8 (.load1 (t 7)), o 9 (.len 1 (t 8)), o 10 (.bin .lss (t 6) (t 9))])
 (.cond (t 10)
 .skip
 (.exit 0)))
 (.seq (.block 1 (.seq (.ops false [o 13 (.faddr 0 (t 2)), o 14 (.load1 (t 13)), o 15 (.mv (t 5)), o 16 (.iaddr 3 (t 14) (t 15)), o 17 (.faddr 0 (t 16)), o 18 (.load1 (t 17)), o 19 (.mv (t 1)), o 20 (.bin .eql (t 18) (t 19))])
 (.seq (.keep [1, 2, 4, 5, 20])
 (.cond (t 20)
 (.seq (.ops false [o 21 (.faddr 0 (t 2)), o 22 (.load1 (t 21)), o 23 (.mv (t 5)), o 24 (.iaddr 3 (t 22) (t 23)), o 25 (.loadN 3 (t 24)), s (.store 3 (t 4) (t 25))])
 .ret)
 .skip))))
 (.seq (.keep [1, 2, 4, 5])
 (.ops false [o 11 (.mv (t 5)), o 12 (.bin .add (t 11) (ci 1)), o 5 (.mv (t 12))])))) (.keep [1, 2, 4, 5]))))))
 (.seq (.keep [1, 4])
 (.seq (.ops false [o 26 (.mv (t 1)), o 27 (.build [(.int .i64 0), (.bool false), (.slice none 0 0)] [(0, (1, (t 26)))]), s (.store 3 (t 4) (t 27))])
 .ret))))⟩
/-- coroner/history.Ops -/
def F_history_Ops : AFn := ⟨1, [.tmp 2],
 (.seq (.ops false [o 1 (.box (t 0)), o 2 (.mv (ci 0))])
 (.seq (.ops false [o 3 (.mv (ci 0))])
 (.seq (.seq (.ops false [o 6 (.faddr 0 (t 1)), o 7 (.load1 (t 6)), o 8 (.len 1 (t 7)), o 9 (.mv (ci 0))])
 (.seq (.keep [3, 7, 8, 9]) (.block 0 (.loop (.seq (.seq (.ops false [o 10 (.bin .lss (t 9) (t 8))])
 (.seq (.cond (t 10)
 .skip
 (.exit 0))
 (.seq (.block 1 (.seq (.ops false [o 11 (.iaddr 3 (t 7) (t 9)), o 12 (.loadN 3 (t 11)), o 5 (.alloc [(.int .i64 0), (.bool false), (.slice none 0 0)]), s (.store 3 (t 5) (t 12))])
 (.ops false [o 13 (.mv (t 3)), o 14 (.faddr 2 (t 5)), o 15 (.load1 (t 14)), o 16 (.len 1 (t 15)), o 17 (.bin .add (t 13) (t 16)), o 3 (.mv (t 17))])))
 (.seq (.keep [3, 7, 8, 9])
 (.ops false [o 18 (.bin .add (t 9) (ci 1)), o 9 (.mv (t 18))]))))) (.keep [3, 7, 8, 9]))))))
 (.seq (.keep [3])
 (.seq (.ops false [o 19 (.mv (t 3)), o 2 (.mv (t 19))])
 .ret)))))⟩
/-- coroner/table.steps$1 -/
def F_table_steps_c1 : AFn := ⟨2, [],
 (.seq (.ops false [o 6 (.load1 (t 1)), o 7 (.len 1 (t 6)), o 8 (.mv (ci 0))])
 (.seq (.keep [0, 6, 7, 8]) (.block 0 (.loop (.seq (.seq (.ops false [o 9 (.bin .lss (t 8) (t 7))])
 (.seq (.cond (t 9)
 .skip
 (.exit 0))
 (.seq (.block 1 (.seq (.ops false [o 10 (.iaddr 3 (t 6) (t 8)), o 11 (.loadN 3 (t 10)), o 4 (.alloc [(.int .i64 0), (.bool false), (.slice none 0 0)]), s (.store 3 (t 4) (t 11))])
 (.seq (.ops false [o 12 (.faddr 2 (t 4)), o 13 (.load1 (t 12)), o 14 (.len 1 (t 13)), o 15 (.mv (ci 0))])
 (.seq (.keep [0, 4, 6, 7, 8, 14, 15]) (.block 2 (.loop (.seq (.seq (.ops false [o 16 (.bin .lss (t 15) (t 14))])
 (.seq (.cond (t 16)
 .skip
 (.exit 2))
 (.seq (.block 3 (.seq (.ops false [o 17 (.mv (t 15)), o 5 (.mv (t 17))])
 (.seq (.ops false [o 18 (.mv (t 0)), o 19 (.loadN 3 (t 4)), o 20 (.mv (t 5)), o 21 (.call (t 18) [(t 19), (t 20)]), o 22 (.un .not (t 21))])
 (.cond (t 22)
 .ret
 .skip))))
 (.seq (.keep [0, 4, 6, 7, 8, 14, 15])
 (.ops false [o 23 (.bin .add (t 15) (ci 1)), o 15 (.mv (t 23))]))))) (.keep [0, 4, 6, 7, 8, 14, 15]))))))))
 (.seq (.keep [0, 6, 7, 8])
 (.ops false [o 24 (.bin .add (t 8) (ci 1)), o 8 (.mv (t 24))]))))) (.keep [0, 6, 7, 8]))))))⟩
/-- coroner/coronerref04.number -/
def F_r04_number : AFn := ⟨1, [.tmp 2],
 (.seq (.ops false [o 2 (.mv (.const (.string ⟨#[]⟩)))])
 (.seq (.ops false [o 6 (.mv (t 0)), o 7 (.call (.func n_r01_Print) [(t 6)]), o 5 (.mv (t 7)), o 8 (.extract 0 (t 5)), o 9 (.extract 1 (t 5)), o 3 (.mv (t 8)), o 4 (.mv (t 9))])
 (.seq (.keep [3])
 (.seq (.ops false [o 10 (.mv (t 3)), o 2 (.mv (t 10))])
 .ret))))⟩
/-- coroner/coronerref05.Has -/
def F_r05_Has : AFn := ⟨2, [.tmp 4],
 (.seq (.ops false [o 4 (.mv (.const (.bool false)))])
 (.seq (.seq (.ops false [o 5 (.mv (ci 0))])
 (.seq (.keep [0, 1, 5]) (.block 0 (.loop (.seq (.seq (.seq (.ops false [o 6 (.mv (t 5)), o 7 (.mv (t 0)), o 8 (.len 1 (t 7)), o 9 (.bin .lss (t 6) (t 8))])
 (.cond (t 9)
 .skip
 (.exit 0)))
 (.seq (.block 1 (.seq (.ops false [o 12 (.mv (t 0)), o 13 (.mv (t 5)), o 14 (.iaddr 1 (t 12) (t 13)), o 15 (.load1 (t 14)), o 16 (.mv (t 1)), o 17 (.bin .eql (t 15) (t 16))])
 (.cond (t 17)
 (.seq (.ops false [o 4 (.mv (.const (.bool true)))])
 .ret)
 .skip)))
 (.seq (.keep [0, 1, 5])
 (.ops false [o 10 (.mv (t 5)), o 11 (.bin .add (t 10) (ci 1)), o 5 (.mv (t 11))])))) (.keep [0, 1, 5]))))))
 (.seq (.keep [])
 (.seq (.ops false [o 4 (.mv (.const (.bool false)))])
 .ret))))⟩
/-- coroner/encode.txn -/
def F_encode_txn : AFn := ⟨1, [.tmp 2],
 (.seq (.ops false [o 1 (.box (t 0)), o 2 (.mv (.const (.slice none 0 0)))])
 (.seq (.ops false [o 3 (.mv (.const (.string ⟨#[32, 99, 10]⟩)))])
 (.seq (.seq (.ops false [o 7 (.faddr 1 (t 1)), o 8 (.load1 (t 7))])
 (.cond (t 8)
 (.ops false [o 3 (.mv (.const (.string ⟨#[32, 97, 10]⟩)))])
 .skip))
 (.seq (.ops false [o 9 (.mv (t 3)), o 10 (.faddr 0 (t 1)), o 11 (.load1 (t 10)), o 12 (.bslice 1 1 [(.int .i64 0)] [(0, (1, (t 11)))]), o 13 (.call (.func n_encode_line) [(.const (.string ⟨#[116]⟩)), (t 9), (t 12)]), o 4 (.mv (t 13))])
 (.seq (.seq (.ops false [o 14 (.faddr 2 (t 1)), o 15 (.load1 (t 14)), o 16 (.len 1 (t 15)), o 17 (.mv (ci 0))])
 (.seq (.keep [4, 15, 16, 17]) (.block 0 (.loop (.seq (.seq (.ops false [o 18 (.bin .lss (t 17) (t 16))])
 (.seq (.cond (t 18)
 .skip
 (.exit 0))
 (.seq (.block 1 (.seq (.ops false [o 19 (.iaddr 4 (t 15) (t 17)), o 20 (.loadN 4 (t 19)), o 6 (.alloc [(.bool false), (.int .i64 0), (.int .i64 0), (.slice none 0 0)]), s (.store 4 (t 6) (t 20))])
 (.seq (.ops false [o 21 (.faddr 0 (t 6)), o 22 (.load1 (t 21))])
 (.cond (t 22)
 (.ops false [o 23 (.mv (t 4)), o 24 (.faddr 1 (t 6)), o 25 (.load1 (t 24)), o 26 (.bslice 1 1 [(.int .i64 0)] [(0, (1, (t 25)))]), o 27 (.faddr 3 (t 6)), o 28 (.load1 (t 27)), o 29 (.append 1 8 (t 26) (t 28)), o 30 (.call (.func n_encode_line) [(.const (.string ⟨#[114]⟩)), (.const (.string ⟨#[10]⟩)), (t 29)]), o 31 (.append 1 1 (t 23) (t 30)), o 4 (.mv (t 31))])
 (.ops false [o 32 (.mv (t 4)), o 33 (.faddr 1 (t 6)), o 34 (.load1 (t 33)), o 35 (.faddr 2 (t 6)), o 36 (.load1 (t 35)), o 37 (.bslice 1 2 [(.int .i64 0), (.int .i64 0)] [(0, (1, (t 34))), (1, (1, (t 36)))]), o 38 (.call (.func n_encode_line) [(.const (.string ⟨#[97]⟩)), (.const (.string ⟨#[10]⟩)), (t 37)]), o 39 (.append 1 1 (t 32) (t 38)), o 4 (.mv (t 39))])))))
 (.seq (.keep [4, 15, 16, 17])
 (.ops false [o 40 (.bin .add (t 17) (ci 1)), o 17 (.mv (t 40))]))))) (.keep [4, 15, 16, 17]))))))
 (.seq (.keep [4])
 (.seq (.ops false [o 41 (.mv (t 4)), o 2 (.mv (t 41))])
 .ret)))))))⟩
/-- coroner/coronerref01.Print -/
def F_r01_Print : AFn := ⟨1, [.tmp 2, .tmp 3],
 (.seq (.ops false [o 2 (.mv (.const (.string ⟨#[]⟩))), o 3 (.mv (ci 0))])
 (.seq (.seq (.ops false [o 5 (.mv (t 0)), o 6 (.bin .lss (t 5) (ci 0)), o 7 (.mv (t 6)), ⟨(some 8), .mv (t 0), some (7, false), false⟩, ⟨(some 9), .bin .gtr (t 8) (ci 2147483647), some (7, false), false⟩, o 10 (.pick (t 7) (.const (.bool true)) (t 9))])
 (.cond (t 10)
 (.seq (.ops false [o 2 (.mv (.const (.string ⟨#[]⟩))), o 3 (.mv (ci 2))])
 .ret)
 .skip))
 (.seq (.keep [0])
 (.seq (.ops false [o 4 (.mv (.const (.string ⟨#[]⟩)))])
 (.seq (.seq (.keep [0, 4]) (.block 0 (.loop (.seq (.seq (.seq (.ops false [o 11 (.mv (t 0)), o 12 (.bin .gtr (t 11) (ci 9))])
 (.cond (t 12)
 .skip
 (.exit 0)))
 (.block 1 (.seq (.ops false [o 13 (.mv (t 0)), o 14 (.bin .rem (t 13) (ci 10)), o 15 (.mv (t 0)), o 16 (.bin .rem (t 15) (ci 10)), o 17 (.bin .add (t 16) (ci 1)), o 18 (.slcS (.const (.string ⟨#[48, 49, 50, 51, 52, 53, 54, 55, 56, 57]⟩)) (some (t 14)) (some (t 17))), o 19 (.mv (t 4)), o 20 (.bin .add (t 18) (t 19)), o 4 (.mv (t 20))])
 (.seq (.keep [0, 4])
 (.ops false [o 21 (.mv (t 0)), o 22 (.bin .quo (t 21) (ci 10)), o 0 (.mv (t 22))]))))) (.keep [0, 4])))))
 (.seq (.keep [0, 4])
 (.seq (.ops false [o 23 (.mv (t 0)), o 24 (.mv (t 0)), o 25 (.bin .add (t 24) (ci 1)), o 26 (.slcS (.const (.string ⟨#[48, 49, 50, 51, 52, 53, 54, 55, 56, 57]⟩)) (some (t 23)) (some (t 25))), o 27 (.mv (t 4)), o 28 (.bin .add (t 26) (t 27)), o 2 (.mv (t 28)), o 3 (.mv (ci 0))])
 (.seq (.keep [2, 3])
 .ret))))))))⟩
/-- slices.ContainsFunc[[]int,int] -/
def F_slices_ContainsFunc_int_int : AFn := ⟨2, [.tmp 4],
 (.seq (.ops false [o 4 (.mv (.const (.bool false)))])
 (.seq (.ops false [o 5 (.mv (t 0)), o 6 (.mv (t 1)), o 7 (.call (.func n_slices_IndexFunc_int_int) [(t 5), (t 6)]), o 8 (.bin .geq (t 7) (ci 0)), o 4 (.mv (t 8))])
 .ret))⟩
/-- slices.IndexFunc[[]int,int] -/
def F_slices_IndexFunc_int_int : AFn := ⟨2, [.tmp 4],
 (.seq (.ops false [o 4 (.mv (ci 0))])
 (.seq (.seq (.ops false [o 6 (.mv (t 0)), o 7 (.len 1 (t 6)), o 8 (.mv (ci 0))])
 (.seq (.keep [0, 1, 7, 8]) (.block 0 (.loop (.seq (.seq (.ops false [o 9 (.bin .lss (t 8) (t 7))])
 (.seq (.cond (t 9)
 .skip
 (.exit 0))
 (.seq (.block 1 (.seq (.ops false [o 10 (.mv (t 8)), o 5 (.mv (t 10))])
 (.seq (.ops false [o 11 (.mv (t 1)), o 12 (.mv (t 0)), o 13 (.mv (t 5)), o 14 (.iaddr 1 (t 12) (t 13)), o 15 (.load1 (t 14)), o 16 (.call (t 11) [(t 15)])])
 (.cond (t 16)
 (.seq (.ops false [o 17 (.mv (t 5)), o 4 (.mv (t 17))])
 .ret)
 .skip))))
 (.seq (.keep [0, 1, 7, 8])
 (.ops false [o 18 (.bin .add (t 8) (ci 1)), o 8 (.mv (t 18))]))))) (.keep [0, 1, 7, 8]))))))
 (.seq (.keep [])
 (.seq (.ops false [o 4 (.mv (ci (-1)))])
 .ret))))⟩
/-- coroner/digits.may -/
def F_digits_may : AFn := ⟨1, [.tmp 2],
 (.seq (.ops false [o 2 (.mv (.const (.bool false)))])
 (.seq (.ops false [o 3 (.mv (t 0)), o 4 (.bin .geq (t 3) (ci 0)), o 5 (.mv (t 4)), ⟨(some 6), .mv (t 0), some (5, true), false⟩, ⟨(some 7), .bin .leq (t 6) (ci 2147483647), some (5, true), false⟩, o 8 (.pick (t 5) (t 7) (.const (.bool false))), o 2 (.mv (t 8))])
 (.seq (.keep [2])
 .ret)))⟩
/-- coroner/coronerlaw12.works -/
def F_l12_works : AFn := ⟨0, [.tmp 0],
 (.seq (.ops false [o 0 (.mv (.const (.bool false)))])
 (.seq (.ops false [o 8 (.call (.func n_l12_one) []), o 9 (.call (.func n_table_New) [(t 8)]), o 7 (.mv (t 9)), o 10 (.extract 0 (t 7)), o 11 (.extract 1 (t 7)), o 1 (.mv (t 10)), o 2 (.mv (t 11))])
 (.seq (.keep [1, 2])
 (.seq (.ops false [o 13 (.mv (t 1)), o 14 (.call (.func n_table_Table_Writer) [(t 13), (ci 1), (ci 5)]), o 12 (.mv (t 14)), o 15 (.extract 0 (t 12)), o 16 (.extract 1 (t 12)), o 3 (.alloc [(.int .i64 0), (.int .i64 0), (.int .i64 0), (.int .i64 0), (.bool false)]), s (.store 5 (t 3) (t 15)), o 4 (.mv (t 16))])
 (.seq (.keep [1, 2, 3, 4])
 (.seq (.ops false [o 18 (.mv (t 1)), o 19 (.call (.func n_table_Table_Rank) [(t 18), (ci 7)]), o 17 (.mv (t 19)), o 20 (.extract 0 (t 17)), o 21 (.extract 1 (t 17)), o 5 (.mv (t 20)), o 6 (.mv (t 21))])
 (.seq (.keep [1, 2, 3, 4, 5, 6])
 (.seq (.ops false (o 22 (.mv (t 2)) :: o 23 (.bin .eql (t 22) (ci 0)) :: o 24 (.mv (t 23)) :: ⟨(some 25), .mv (t 4), some (24, true), false⟩ :: o 26 (.pick (t 24) (t 25) (.const (.bool false))) :: o 27 (.mv (t 26)) :: ⟨(some 28), .loadN 5 (t 3), some (27, true), false⟩ :: ⟨(some 29), .build [(.int .i64 0), (.int .i64 0), (.int .i64 0), (.int .i64 0), (.bool false)] [(0, (1, (ci 7))), (2, (1, (ci 1))), (3, (1, (ci 5)))], some (27, true), false⟩ :: ⟨(some 30), .eqA [1, 1, 1, 1, 0] false (t 28) (t 29), some (27, true), false⟩ :: o 31 (.pick (t 27) (t 30) (.const (.bool false))) :: o 32 (.mv (t 31)) :: ⟨(some 33), .mv (t 6), some (32, true), false⟩ :: o 34 (.pick (t 32) (t 33) (.const (.bool false))) :: o 35 (.mv (t 34)) :: ⟨(some 36), .mv (t 5), some (35, true), false⟩ :: ⟨(some 37), .bin .eql (t 36) (ci 0), some (35, true), false⟩ :: o 38 (.pick (t 35) (t 37) (.const (.bool false))) :: o 39 (.mv (t 38)) :: ⟨(some 40), .mv (t 1), some (39, true), false⟩ :: ⟨(some 41), .call (.func n_table_Table_IDs) [(t 40)], some (39, true), false⟩ :: ⟨(some 42), .bslice 1 1 [(.int .i64 0)] [(0, (1, (ci 7)))], some (39, true), false⟩ :: ⟨(some 43), .call (.func n_r01_Same) [(t 41), (t 42)], some (39, true), false⟩ :: o 44 (.pick (t 39) (t 43) (.const (.bool false))) :: o 45 (.mv (t 44)) :: ⟨(some 46), .mv (t 1), some (45, true), false⟩ :: ⟨(some 47), .call (.func n_table_Table_Keys) [(t 46)], some (45, true), false⟩ :: ⟨(some 48), .bslice 1 2 [(.int .i64 0), (.int .i64 0)] [(0, (1, (ci 0))), (1, (1, (ci 1)))], some (45, true), false⟩ :: ⟨(some 49), .call (.func n_r01_Same) [(t 47), (t 48)], some (45, true), false⟩ :: o 50 (.pick (t 45) (t 49) (.const (.bool false))) :: o 51 (.mv (t 50)) :: ⟨(some 52), .mv (t 1), some (51, true), false⟩ :: ⟨(some 53), .call (.func n_table_Table_Appends) [(t 52), (ci 2), (ci 0)], some (51, true), false⟩ :: ⟨(some 54), .bslice 1 1 [(.int .i64 0)] [(0, (1, (ci 3)))], some (51, true), false⟩ :: ⟨(some 55), .call (.func n_r01_Same) [(t 53), (t 54)], some (51, true), false⟩ :: o 56 (.pick (t 51) (t 55) (.const (.bool false))) :: o 57 (.mv (t 56)) :: ⟨(some 58), .mv (t 1), some (57, true), false⟩ :: ⟨(some 59), .call (.func n_table_Table_Reads) [(t 58), (ci 1)], some (57, true), false⟩ :: ⟨(some 60), .eqv 4 true (t 59) (.const .nilFunc), some (57, true), false⟩ :: o 61 (.pick (t 57) (t 60) (.const (.bool false))) :: o 62 (.mv (t 61)) :: ⟨(some 63), .mv (t 1), some (62, true), false⟩ :: ⟨(some 64), .call (.func n_table_Table_Writes) [(t 63), (ci 1)], some (62, true), false⟩ :: ⟨(some 65), .eqv 4 true (t 64) (.const .nilFunc), some (62, true), false⟩ :: o 66 (.pick (t 62) (t 65) (.const (.bool false))) :: o 0 (.mv (t 66)) :: []))
 (.seq (.keep [0])
 .ret)))))))))⟩
/-- (*coroner/table.Table).Rank -/
def F_table_Table_Rank : AFn := ⟨2, [.tmp 4, .tmp 5],
 (.seq (.ops false [o 4 (.mv (ci 0)), o 5 (.mv (.const (.bool false)))])
 (.seq (.seq (.ops false [o 8 (.mv (t 0)), o 9 (.call (.func n_table_Table_is) [(t 8)]), o 10 (.un .not (t 9))])
 (.cond (t 10)
 (.seq (.ops false [o 4 (.mv (ci 0)), o 5 (.mv (.const (.bool false)))])
 .ret)
 .skip))
 (.seq (.ops false [o 12 (.mv (t 0)), o 13 (.nilc (t 12)), o 14 (.faddr 1 (t 13)), o 15 (.load1 (t 14)), o 16 (.mv (t 1)), o 17 (.call (.func n_slices_BinarySearch_int_int) [(t 15), (t 16)]), o 11 (.mv (t 17)), o 18 (.extract 0 (t 11)), o 19 (.extract 1 (t 11)), o 6 (.mv (t 18)), o 7 (.mv (t 19))])
 (.seq (.keep [6, 7])
 (.seq (.seq (.ops false [o 20 (.mv (t 7)), o 21 (.un .not (t 20))])
 (.cond (t 21)
 (.seq (.ops false [o 4 (.mv (ci 0)), o 5 (.mv (.const (.bool false)))])
 .ret)
 .skip))
 (.seq (.ops false [o 22 (.mv (t 6)), o 4 (.mv (t 22)), o 5 (.mv (.const (.bool true)))])
 .ret))))))⟩
/-- (*coroner/table.Table).IDs -/
def F_table_Table_IDs : AFn := ⟨1, [.tmp 2],
 (.seq (.ops false [o 2 (.mv (.const (.slice none 0 0)))])
 (.seq (.seq (.ops false [o 3 (.mv (t 0)), o 4 (.call (.func n_table_Table_is) [(t 3)]), o 5 (.un .not (t 4))])
 (.cond (t 5)
 (.seq (.ops false [o 2 (.mv (.const (.slice none 0 0)))])
 .ret)
 .skip))
 (.seq (.ops false [o 6 (.mv (t 0)), o 7 (.nilc (t 6)), o 8 (.faddr 1 (t 7)), o 9 (.load1 (t 8)), o 10 (.call (.func n_slices_Clone_int_int) [(t 9)]), o 2 (.mv (t 10))])
 .ret)))⟩
/-- (*coroner/table.Table).Appends -/
def F_table_Table_Appends : AFn := ⟨3, [.tmp 6],
 (.seq (.ops false [o 6 (.mv (.const (.slice none 0 0)))])
 (.seq (.seq (.ops false [o 7 (.mv (t 0)), o 8 (.call (.func n_table_Table_is) [(t 7)]), o 9 (.un .not (t 8))])
 (.cond (t 9)
 (.seq (.ops false [o 6 (.mv (.const (.slice none 0 0)))])
 .ret)
 .skip))
 (.seq (.ops false [o 10 (.mv (t 0)), o 11 (.nilc (t 10)), o 12 (.faddr 4 (t 11)), o 13 (.load1 (t 12)), o 14 (.mv (t 1)), o 15 (.mv (t 2)), o 16 (.build [(.int .i64 0), (.int .i64 0)] [(0, (1, (t 14))), (1, (1, (t 15)))]), o 17 (.lookup (.many [1, 1]) (.slice none 0 0) false (t 13) (t 16)), o 18 (.call (.func n_slices_Clone_int_int) [(t 17)]), o 6 (.mv (t 18))])
 (.seq (.keep [6])
 .ret))))⟩
/-- (*coroner/table.Table).Writes -/
def F_table_Table_Writes : AFn := ⟨2, [.tmp 4],
 (.seq (.ops false [o 4 (.mv (.const .nilFunc))])
 (.seq (.seq (.ops false [o 5 (.mv (t 0)), o 6 (.call (.func n_table_Table_is) [(t 5)]), o 7 (.un .not (t 6))])
 (.cond (t 7)
 (.seq (.ops false [o 8 (.call (.func n_table_goes_table_Write) [(.const (.slice none 0 0))]), o 4 (.mv (t 8))])
 .ret)
 .skip))
 (.seq (.ops false [o 9 (.mv (t 0)), o 10 (.nilc (t 9)), o 11 (.faddr 6 (t 10)), o 12 (.load1 (t 11)), o 13 (.mv (t 1)), o 14 (.lookup (.one 1) (.slice none 0 0) false (t 12) (t 13)), o 15 (.call (.func n_table_goes_table_Write) [(t 14)]), o 4 (.mv (t 15))])
 (.seq (.keep [4])
 .ret))))⟩
/-- coroner/coronerlaw12.one -/
def F_l12_one : AFn := ⟨0, [.cellN 0 1],
 (.seq (.ops false [o 0 (.alloc [(.slice none 0 0)])])
 (.seq (.ops false [o 1 (.build [(.bool false), (.int .i64 0), (.int .i64 0), (.slice none 0 0)] [(1, (1, (ci 1))), (2, (1, (ci 5)))]), o 2 (.bslice 1 2 [(.int .i64 0), (.int .i64 0)] [(0, (1, (ci 3))), (1, (1, (ci 5)))]), o 3 (.build [(.bool false), (.int .i64 0), (.int .i64 0), (.slice none 0 0)] [(0, (1, (.const (.bool true)))), (1, (1, (ci 1))), (3, (1, (t 2)))]), o 4 (.bslice 4 2 [(.bool false), (.int .i64 0), (.int .i64 0), (.slice none 0 0), (.bool false), (.int .i64 0), (.int .i64 0), (.slice none 0 0)] [(0, (4, (t 1))), (4, (4, (t 3)))]), o 5 (.build [(.int .i64 0), (.bool false), (.slice none 0 0)] [(0, (1, (ci 7))), (2, (1, (t 4)))]), o 6 (.build [(.bool false), (.int .i64 0), (.int .i64 0), (.slice none 0 0)] [(1, (1, (ci 0))), (2, (1, (ci 3)))]), o 7 (.bslice 4 1 [(.bool false), (.int .i64 0), (.int .i64 0), (.slice none 0 0)] [(0, (4, (t 6)))]), o 8 (.build [(.int .i64 0), (.bool false), (.slice none 0 0)] [(0, (1, (ci 2))), (1, (1, (.const (.bool true)))), (2, (1, (t 7)))]), o 9 (.bslice 3 2 [(.int .i64 0), (.bool false), (.slice none 0 0), (.int .i64 0), (.bool false), (.slice none 0 0)] [(0, (3, (t 5))), (3, (3, (t 8)))]), o 10 (.build [(.slice none 0 0)] [(0, (1, (t 9)))]), s (.store 1 (t 0) (t 10))])
 (.seq (.keep [0])
 .ret)))⟩
/-- coroner/table.steps -/
def F_table_steps : AFn := ⟨1, [.tmp 2],
 (.seq (.ops false [o 1 (.box (t 0)), o 2 (.mv (.const .nilFunc))])
 (.seq (.ops false [o 3 (.mkf n_table_steps_c1 [] [(t 1)]), o 2 (.mv (t 3))])
 .ret))⟩
/-- (coroner/sorted.Set[int]).List -/
def F_sorted_Set_int_List : AFn := ⟨1, [.tmp 2],
 (.seq (.ops false [o 1 (.box (t 0)), o 2 (.mv (.const (.slice none 0 0)))])
 (.seq (.ops false [o 3 (.faddr 0 (t 1)), o 4 (.load1 (t 3)), o 5 (.call (.func n_slices_Clone_int_int) [(t 4)]), o 2 (.mv (t 5))])
 .ret))⟩
/-- coroner/coronerref04.mayOp -/
def F_r04_mayOp : AFn := ⟨1, [.tmp 2],
 (.seq (.ops false [o 1 (.box (t 0)), o 2 (.mv (.const (.bool false)))])
 (.seq (.seq (.ops false [o 4 (.faddr 1 (t 1)), o 5 (.load1 (t 4)), o 6 (.call (.func n_r04_may) [(t 5)]), o 7 (.un .not (t 6))])
 (.cond (t 7)
 (.seq (.ops false [o 2 (.mv (.const (.bool false)))])
 .ret)
 .skip))
 (.seq (.seq (.ops false [o 8 (.faddr 0 (t 1)), o 9 (.load1 (t 8)), o 10 (.un .not (t 9))])
 (.cond (t 10)
 (.seq (.ops false [o 11 (.faddr 2 (t 1)), o 12 (.load1 (t 11)), o 13 (.call (.func n_r04_may) [(t 12)]), o 14 (.mv (t 13)), ⟨(some 15), .faddr 3 (t 1), some (14, true), false⟩, ⟨(some 16), .load1 (t 15), some (14, true), false⟩, ⟨(some 17), .len 1 (t 16), some (14, true), false⟩, ⟨(some 18), .bin .eql (t 17) (ci 0), some (14, true), false⟩, o 19 (.pick (t 14) (t 18) (.const (.bool false))), o 2 (.mv (t 19))])
 (.seq (.keep [2])
 .ret))
 .skip))
 (.seq (.keep [1])
 (.seq (.seq (.ops false [o 3 (.mv (ci 0))])
 (.seq (.keep [1, 3]) (.block 0 (.loop (.seq (.seq (.seq (.ops false [o 20 (.mv (t 3)), o 21 (.faddr 3 (t 1)), o 22 (.load1 (t 21)), o 23 (.len 1 (t 22)), o 24 (.bin .lss (t 20) (t 23))])
 (.cond (t 24)
 .skip
 (.exit 0)))
 (.seq (.block 1 (.seq (.ops false [o 27 (.faddr 3 (t 1)), o 28 (.load1 (t 27)), o 29 (.mv (t 3)), o 30 (.iaddr 1 (t 28) (t 29)), o 31 (.load1 (t 30)), o 32 (.call (.func n_r04_may) [(t 31)]), o 33 (.un .not (t 32))])
 (.seq (.keep [1, 3, 33])
 (.cond (t 33)
 (.seq (.ops false [o 2 (.mv (.const (.bool false)))])
 .ret)
 .skip))))
 (.seq (.keep [1, 3])
 (.ops false [o 25 (.mv (t 3)), o 26 (.bin .add (t 25) (ci 1)), o 3 (.mv (t 26))])))) (.keep [1, 3]))))))
 (.seq (.keep [1])
 (.seq (.ops false [o 34 (.faddr 2 (t 1)), o 35 (.load1 (t 34)), o 36 (.bin .eql (t 35) (ci 0)), o 2 (.mv (t 36))])
 .ret)))))))⟩
/-- coroner/coronerref04.Text -/
def F_r04_Text : AFn := ⟨1, [.tmp 2],
 (.seq (.ops false [o 1 (.box (t 0)), o 2 (.mv (.const (.string ⟨#[]⟩)))])
 (.seq (.ops false [o 3 (.mv (.const (.string ⟨#[]⟩)))])
 (.seq (.seq (.ops false [o 4 (.mv (ci 0))])
 (.seq (.keep [1, 3, 4]) (.block 0 (.loop (.seq (.seq (.seq (.ops false [o 10 (.mv (t 4)), o 11 (.faddr 0 (t 1)), o 12 (.load1 (t 11)), o 13 (.len 1 (t 12)), o 14 (.bin .lss (t 10) (t 13))])
 (.cond (t 14)
 .skip
 (.exit 0)))
 (.seq (.block 1 (.seq (.ops false [o 17 (.faddr 0 (t 1)), o 18 (.load1 (t 17)), o 19 (.mv (t 4)), o 20 (.iaddr 3 (t 18) (t 19)), o 21 (.loadN 3 (t 20)), o 5 (.alloc [(.int .i64 0), (.bool false), (.slice none 0 0)]), s (.store 3 (t 5) (t 21))])
 (.seq (.keep [1, 3, 4, 5])
 (.seq (.ops false [o 22 (.faddr 0 (t 5)), o 23 (.load1 (t 22)), o 24 (.call (.func n_r04_number) [(t 23)]), o 25 (.bin .add (.const (.string ⟨#[116, 32]⟩)) (t 24)), o 6 (.mv (t 25))])
 (.seq (.seq (.ops false [o 26 (.faddr 1 (t 5)), o 27 (.load1 (t 26))])
 (.cond (t 27)
 (.ops false [o 28 (.mv (t 6)), o 29 (.bin .add (t 28) (.const (.string ⟨#[32, 97, 10]⟩))), o 6 (.mv (t 29))])
 (.ops false [o 30 (.mv (t 6)), o 31 (.bin .add (t 30) (.const (.string ⟨#[32, 99, 10]⟩))), o 6 (.mv (t 31))])))
 (.seq (.seq (.ops false [o 7 (.mv (ci 0))])
 (.seq (.keep [1, 3, 4, 5, 6, 7]) (.block 2 (.loop (.seq (.seq (.seq (.ops false [o 32 (.mv (t 7)), o 33 (.faddr 2 (t 5)), o 34 (.load1 (t 33)), o 35 (.len 1 (t 34)), o 36 (.bin .lss (t 32) (t 35))])
 (.cond (t 36)
 .skip
 (.exit 2)))
 (.seq (.block 3 (.seq (.ops false [o 39 (.faddr 2 (t 5)), o 40 (.load1 (t 39)), o 41 (.mv (t 7)), o 42 (.iaddr 4 (t 40) (t 41)), o 43 (.loadN 4 (t 42)), o 8 (.alloc [(.bool false), (.int .i64 0), (.int .i64 0), (.slice none 0 0)]), s (.store 4 (t 8) (t 43))])
 (.seq (.keep [1, 3, 4, 5, 6, 7, 8])
 (.seq (.seq (.ops false [o 44 (.faddr 0 (t 8)), o 45 (.load1 (t 44))])
 (.cond (t 45)
 (.seq (.ops false [o 46 (.mv (t 6)), o 47 (.bin .add (t 46) (.const (.string ⟨#[114, 32]⟩))), o 48 (.faddr 1 (t 8)), o 49 (.load1 (t 48)), o 50 (.call (.func n_r04_number) [(t 49)]), o 51 (.bin .add (t 47) (t 50)), o 6 (.mv (t 51))])
 (.seq (.keep [1, 3, 4, 5, 6, 7, 8])
 (.seq (.ops false [o 9 (.mv (ci 0))])
 (.seq (.keep [1, 3, 4, 5, 6, 7, 8, 9]) (.block 4 (.loop (.seq (.seq (.seq (.ops false [o 52 (.mv (t 9)), o 53 (.faddr 3 (t 8)), o 54 (.load1 (t 53)), o 55 (.len 1 (t 54)), o 56 (.bin .lss (t 52) (t 55))])
 (.cond (t 56)
 .skip
 (.exit 4)))
 (.seq (.block 5 (.ops false [o 59 (.mv (t 6)), o 60 (.bin .add (t 59) (.const (.string ⟨#[32]⟩))), o 61 (.faddr 3 (t 8)), o 62 (.load1 (t 61)), o 63 (.mv (t 9)), o 64 (.iaddr 1 (t 62) (t 63)), o 65 (.load1 (t 64)), o 66 (.call (.func n_r04_number) [(t 65)]), o 67 (.bin .add (t 60) (t 66)), o 6 (.mv (t 67))]))
 (.seq (.keep [1, 3, 4, 5, 6, 7, 8, 9])
 (.ops false [o 57 (.mv (t 9)), o 58 (.bin .add (t 57) (ci 1)), o 9 (.mv (t 58))])))) (.keep [1, 3, 4, 5, 6, 7, 8, 9]))))))))
 (.ops true [o 68 (.mv (t 6)), o 69 (.bin .add (t 68) (.const (.string ⟨#[97, 32]⟩))), o 70 (.faddr 1 (t 8)), o 71 (.load1 (t 70)), o 72 (.call (.func n_r04_number) [(t 71)]), o 73 (.bin .add (t 69) (t 72)), o 74 (.bin .add (t 73) (.const (.string ⟨#[32]⟩))), o 75 (.faddr 2 (t 8)), o 76 (.load1 (t 75)), o 77 (.call (.func n_r04_number) [(t 76)]), b 78 (.bin .add (t 74) (t 77)), b 6 (.mv (t 78))])))
 (.seq (.keep [1, 3, 4, 5, 6, 7])
 (.ops false [o 79 (.mv (t 6)), o 80 (.bin .add (t 79) (.const (.string ⟨#[10]⟩))), o 6 (.mv (t 80))]))))))
 (.seq (.keep [1, 3, 4, 5, 6, 7])
 (.ops false [o 37 (.mv (t 7)), o 38 (.bin .add (t 37) (ci 1)), o 7 (.mv (t 38))])))) (.keep [1, 3, 4, 5, 6, 7]))))))
 (.seq (.keep [1, 3, 4, 6])
 (.ops false [o 81 (.mv (t 3)), o 82 (.mv (t 6)), o 83 (.bin .add (t 81) (t 82)), o 3 (.mv (t 83))]))))))))
 (.seq (.keep [1, 3, 4])
 (.ops false [o 15 (.mv (t 4)), o 16 (.bin .add (t 15) (ci 1)), o 4 (.mv (t 16))])))) (.keep [1, 3, 4]))))))
 (.seq (.keep [3])
 (.seq (.ops false [o 84 (.mv (t 3)), o 2 (.mv (t 84))])
 .ret)))))⟩
/-- slices.Clone[[]int,int] -/
def F_slices_Clone_int_int : AFn := ⟨1, [.tmp 2],
 (.seq (.ops false [o 2 (.mv (.const (.slice none 0 0)))])
 (.seq (.seq (.ops false [o 3 (.mv (t 0)), o 4 (.eqv 2 false (t 3) (.const (.slice none 0 0)))])
 (.cond (t 4)
 (.seq (.ops false [o 2 (.mv (.const (.slice none 0 0)))])
 .ret)
 .skip))
 (.seq (.ops false [o 5 (.bslice 1 0 [] []), o 6 (.mv (t 0)), o 7 (.append 1 8 (t 5) (t 6)), o 2 (.mv (t 7))])
 .ret)))⟩
/-- coroner/table.goes[coroner/table.Write] -/
def F_table_goes_table_Write : AFn := ⟨1, [.tmp 2],
 (.seq (.ops false [o 1 (.box (t 0)), o 2 (.mv (.const .nilFunc))])
 (.seq (.ops false [o 3 (.mkf n_table_goes_table_Write_c1 [] [(t 1)]), o 2 (.mv (t 3))])
 .ret))⟩
/-- coroner/encode.parts -/
def F_encode_parts : AFn := ⟨1, [.tmp 2],
 (.seq (.ops false [o 1 (.box (t 0)), o 2 (.mv (ci 0))])
 (.seq (.ops false [o 14 (.mkmap), o 15 (.mkmap), o 3 (.mv (t 14)), o 4 (.mv (t 15))])
 (.seq (.seq (.ops false [o 16 (.faddr 0 (t 1)), o 17 (.load1 (t 16)), o 18 (.len 1 (t 17)), o 19 (.mv (ci 0))])
 (.seq (.keep [3, 4, 17, 18, 19]) (.block 0 (.loop (.seq (.seq (.ops false [o 20 (.bin .lss (t 19) (t 18))])
 (.seq (.cond (t 20)
 .skip
 (.exit 0))
 (.seq (.block 1 (.seq (.ops false [o 21 (.mv (t 19)), o 22 (.iaddr 3 (t 17) (t 19)), o 23 (.loadN 3 (t 22)), o 6 (.alloc [(.int .i64 0), (.bool false), (.slice none 0 0)]), o 5 (.mv (t 21)), s (.store 3 (t 6) (t 23))])
 (.seq (.seq (.ops false [o 24 (.faddr 0 (t 6)), o 25 (.load1 (t 24)), o 26 (.bslice 1 1 [(.int .i64 0)] [(0, (1, (t 25)))]), o 27 (.call (.func n_encode_may) [(t 26)]), o 28 (.un .not (t 27))])
 (.cond (t 28)
 (.seq (.ops false [o 2 (.mv (ci 2))])
 .ret)
 .skip))
 (.seq (.seq (.ops false [o 30 (.mv (t 3)), o 31 (.faddr 0 (t 6)), o 32 (.load1 (t 31)), o 33 (.lookup (.one 1) (.int .i64 0) true (t 30) (t 32)), o 29 (.mv (t 33)), o 34 (.extract 0 (t 29)), o 35 (.extract 1 (t 29)), o 7 (.mv (t 34)), o 8 (.mv (t 35))])
 (.seq (.keep [3, 4, 5, 6, 8, 17, 18, 19])
 (.seq (.ops false [o 36 (.mv (t 8))])
 (.cond (t 36)
 (.seq (.ops false [o 2 (.mv (ci 5))])
 .ret)
 .skip))))
 (.seq (.keep [3, 4, 5, 6, 17, 18, 19])
 (.seq (.ops false [o 37 (.mv (t 3)), o 38 (.faddr 0 (t 6)), o 39 (.load1 (t 38)), o 40 (.mv (t 5)), s (.mapupd (.one 1) (t 37) (t 39) (t 40))])
 (.seq (.ops false [o 41 (.faddr 2 (t 6)), o 42 (.load1 (t 41)), o 43 (.len 1 (t 42)), o 44 (.mv (ci 0))])
 (.seq (.keep [3, 4, 5, 17, 18, 19, 42, 43, 44]) (.block 2 (.loop (.seq (.seq (.ops false [o 45 (.bin .lss (t 44) (t 43))])
 (.seq (.cond (t 45)
 .skip
 (.exit 2))
 (.seq (.block 3 (.seq (.ops false [o 46 (.iaddr 4 (t 42) (t 44)), o 47 (.loadN 4 (t 46)), o 10 (.alloc [(.bool false), (.int .i64 0), (.int .i64 0), (.slice none 0 0)]), s (.store 4 (t 10) (t 47))])
 (.seq (.seq (.ops false [o 48 (.loadN 4 (t 10)), o 49 (.call (.func n_encode_mayOp) [(t 48)]), o 50 (.un .not (t 49))])
 (.cond (t 50)
 (.seq (.ops false [o 2 (.mv (ci 2))])
 .ret)
 .skip))
 (.seq (.seq (.ops false [o 51 (.faddr 0 (t 10)), o 52 (.load1 (t 51))])
 (.cond (t 52)
 (.exit 3)
 .skip))
 (.seq (.ops false [o 53 (.faddr 1 (t 10)), o 54 (.load1 (t 53)), o 55 (.faddr 2 (t 10)), o 56 (.load1 (t 55)), o 57 (.build [(.int .i64 0), (.int .i64 0)] [(0, (1, (t 54))), (1, (1, (t 56)))]), o 11 (.alloc [(.int .i64 0), (.int .i64 0)]), s (.store 2 (t 11) (t 57))])
 (.seq (.keep [3, 4, 5, 11, 17, 18, 19, 42, 43, 44])
 (.seq (.seq (.ops false [o 59 (.mv (t 4)), o 60 (.loadN 2 (t 11)), o 61 (.lookup (.many [1, 1]) (.int .i64 0) true (t 59) (t 60)), o 58 (.mv (t 61)), o 62 (.extract 0 (t 58)), o 63 (.extract 1 (t 58)), o 12 (.mv (t 62)), o 13 (.mv (t 63))])
 (.seq (.keep [3, 4, 5, 11, 13, 17, 18, 19, 42, 43, 44])
 (.seq (.ops false [o 64 (.mv (t 13))])
 (.cond (t 64)
 (.seq (.ops false [o 2 (.mv (ci 6))])
 .ret)
 .skip))))
 (.seq (.keep [3, 4, 5, 11, 17, 18, 19, 42, 43, 44])
 (.ops false [o 65 (.mv (t 4)), o 66 (.loadN 2 (t 11)), o 67 (.mv (t 5)), s (.mapupd (.many [1, 1]) (t 65) (t 66) (t 67))])))))))))
 (.seq (.keep [3, 4, 5, 17, 18, 19, 42, 43, 44])
 (.ops false [o 68 (.bin .add (t 44) (ci 1)), o 44 (.mv (t 68))]))))) (.keep [3, 4, 5, 17, 18, 19, 42, 43, 44]))))))))))))
 (.seq (.keep [3, 4, 17, 18, 19])
 (.ops false [o 69 (.bin .add (t 19) (ci 1)), o 19 (.mv (t 69))]))))) (.keep [3, 4, 17, 18, 19]))))))
 (.seq (.keep [])
 (.seq (.ops false [o 2 (.mv (ci 0))])
 .ret)))))⟩
/-- cmp.Less[int] -/
def F_cmp_Less_int : AFn := ⟨2, [.tmp 4],
 (.seq (.ops false [o 4 (.mv (.const (.bool false)))])
 (.seq (.ops false [o 5 (.mv (t 0)), o 6 (.call (.func n_cmp_isNaN_int) [(t 5)]), o 7 (.mv (t 6)), ⟨(some 8), .mv (t 1), some (7, true), false⟩, ⟨(some 9), .call (.func n_cmp_isNaN_int) [(t 8)], some (7, true), false⟩, ⟨(some 10), .un .not (t 9), some (7, true), false⟩, o 11 (.pick (t 7) (t 10) (.const (.bool false))), o 12 (.mv (t 11)), ⟨(some 13), .mv (t 0), some (12, false), false⟩, ⟨(some 14), .mv (t 1), some (12, false), false⟩, ⟨(some 15), .bin .lss (t 13) (t 14), some (12, false), false⟩, o 16 (.pick (t 12) (.const (.bool true)) (t 15)), o 4 (.mv (t 16))])
 (.seq (.keep [4])
 .ret)))⟩
/-- coroner/table.goes[coroner/table.Read]$1 -/
def F_table_goes_table_Read_c1 : AFn := ⟨2, [],
 (.seq (.ops false [o 5 (.load1 (t 1)), o 6 (.len 1 (t 5)), o 7 (.mv (ci 0))])
 (.seq (.keep [0, 5, 6, 7]) (.block 0 (.loop (.seq (.seq (.ops false [o 8 (.bin .lss (t 7) (t 6))])
 (.seq (.cond (t 8)
 .skip
 (.exit 0))
 (.seq (.block 1 (.seq (.ops false [o 9 (.iaddr 5 (t 5) (t 7)), o 10 (.loadN 5 (t 9)), o 4 (.alloc [(.int .i64 0), (.int .i64 0), (.int .i64 0), (.slice none 0 0), (.slice none 0 0)]), s (.store 5 (t 4) (t 10))])
 (.seq (.ops false [o 11 (.mv (t 0)), o 12 (.loadN 5 (t 4)), o 13 (.call (t 11) [(t 12)]), o 14 (.un .not (t 13))])
 (.cond (t 14)
 .ret
 .skip))))
 (.seq (.keep [0, 5, 6, 7])
 (.ops false [o 15 (.bin .add (t 7) (ci 1)), o 7 (.mv (t 15))]))))) (.keep [0, 5, 6, 7]))))))⟩
/-- coroner/encode.may -/
def F_encode_may : AFn := ⟨1, [.tmp 2],
 (.seq (.ops false [o 2 (.mv (.const (.bool false)))])
 (.seq (.ops false [o 3 (.mv (t 0)), o 4 (.call (.func n_slices_ContainsFunc_int_int) [(t 3), (.func n_encode_may_c1)]), o 5 (.un .not (t 4)), o 2 (.mv (t 5))])
 .ret))⟩
/-- coroner/encode.may$1 -/
def F_encode_may_c1 : AFn := ⟨1, [.tmp 2],
 (.seq (.ops false [o 2 (.mv (.const (.bool false)))])
 (.seq (.ops false [o 3 (.mv (t 0)), o 4 (.bin .lss (t 3) (ci 0)), o 5 (.mv (t 4)), ⟨(some 6), .mv (t 0), some (5, false), false⟩, ⟨(some 7), .bin .gtr (t 6) (ci 2147483647), some (5, false), false⟩, o 8 (.pick (t 5) (.const (.bool true)) (t 7)), o 2 (.mv (t 8))])
 (.seq (.keep [2])
 .ret)))⟩
/-- coroner/digits.Print -/
def F_digits_Print : AFn := ⟨1, [.tmp 2, .tmp 3],
 (.seq (.ops false [o 2 (.mv (.const (.string ⟨#[]⟩))), o 3 (.mv (ci 0))])
 (.seq (.seq (.ops false [o 6 (.mv (t 0)), o 7 (.call (.func n_digits_may) [(t 6)]), o 8 (.un .not (t 7))])
 (.cond (t 8)
 (.seq (.ops false [o 2 (.mv (.const (.string ⟨#[]⟩))), o 3 (.mv (ci 2))])
 .ret)
 .skip))
 (.seq (.ops false [o 10 (.mv (t 0)), o 11 (.call (.func n_digits_text) [(t 10)]), o 9 (.mv (t 11)), o 12 (.extract 0 (t 9)), o 13 (.extract 1 (t 9)), o 4 (.alloc [(.int .u8 0), (.int .u8 0), (.int .u8 0), (.int .u8 0), (.int .u8 0), (.int .u8 0), (.int .u8 0), (.int .u8 0), (.int .u8 0), (.int .u8 0)]), s (.store 10 (t 4) (t 12)), o 5 (.mv (t 13))])
 (.seq (.keep [4, 5])
 (.seq (.ops false [o 14 (.mv (t 5)), o 15 (.bin .sub (ci 10) (t 14)), o 16 (.slcV 10 1 (t 4) (some (t 15)) none), o 17 (.convBS (t 16)), o 2 (.mv (t 17)), o 3 (.mv (ci 0))])
 .ret)))))⟩
/-- coroner/digits.text -/
def F_digits_text : AFn := ⟨1, [.cellN 2 10, .tmp 3],
 (.seq (.ops false [o 2 (.alloc [(.int .u8 0), (.int .u8 0), (.int .u8 0), (.int .u8 0), (.int .u8 0), (.int .u8 0), (.int .u8 0), (.int .u8 0), (.int .u8 0), (.int .u8 0)]), o 3 (.mv (ci 0))])
 (.seq (.ops false [o 4 (.alloc [(.int .u8 0), (.int .u8 0), (.int .u8 0), (.int .u8 0), (.int .u8 0), (.int .u8 0), (.int .u8 0), (.int .u8 0), (.int .u8 0), (.int .u8 0)])])
 (.seq (.ops false [o 5 (.mv (ci 0))])
 (.seq (.seq (.keep [0, 2, 4, 5]) (.block 0 (.loop (.seq (.seq (.seq (.ops false [o 6 (.mv (t 5)), o 7 (.bin .eql (t 6) (ci 0)), o 8 (.mv (t 7)), ⟨(some 9), .mv (t 0), some (8, false), false⟩, ⟨(some 10), .bin .gtr (t 9) (ci 0), some (8, false), false⟩, o 11 (.pick (t 8) (.const (.bool true)) (t 10))])
 (.cond (t 11)
 .skip
 (.exit 0)))
 (.block 1 (.seq (.ops false [o 12 (.mv (t 5)), o 13 (.bin .add (t 12) (ci 1)), o 5 (.mv (t 13))])
 (.seq (.ops false [o 14 (.mv (t 5)), o 15 (.bin .sub (ci 10) (t 14)), o 16 (.mv (t 0)), o 17 (.bin .rem (t 16) (ci 10)), o 18 (.bin .add (ci 48) (t 17)), o 19 (.conv .u8 (t 18)), o 20 (.iaddrA 10 1 (t 4) (t 15)), s (.store 1 (t 20) (t 19))])
 (.seq (.keep [0, 2, 4, 5])
 (.ops false [o 21 (.mv (t 0)), o 22 (.bin .quo (t 21) (ci 10)), o 0 (.mv (t 22))])))))) (.keep [0, 2, 4, 5])))))
 (.seq (.keep [2, 4, 5])
 (.seq (.ops false [o 23 (.loadN 10 (t 4)), o 24 (.mv (t 5)), s (.store 10 (t 2) (t 23)), o 3 (.mv (t 24))])
 .ret))))))⟩
def tab1 : List (Nat × ADef) := [(n_l12_TableWrites, .code F_l12_TableWrites),
 (n_table_New, .code F_table_New),
 (n_r12_IDs, .code F_r12_IDs),
 (n_r12_Writes, .code F_r12_Writes),
 (n_encode_Check, .code F_encode_Check),
 (n_table_Table_put, .code F_table_Table_put),
 (n_r03_Ops, .code F_r03_Ops),
 (n_r03_Appended, .code F_r03_Appended),
 (n_table_Table_is, .code F_table_Table_is),
 (n_r05_Of, .code F_r05_Of),
 (n_encode_text, .code F_encode_text),
 (n_slices_Compact_int_int, .code F_slices_Compact_int_int),
 (n_table_goes_table_Write_c1, .code F_table_goes_table_Write_c1),
 (n_encode_mayOp, .code F_encode_mayOp),
 (n_encode_line, .code F_encode_line),
 (n_r03_Few, .code F_r03_Few),
 (n_r04_Check, .code F_r04_Check),
 (n_slices_Clone_api_Txn_api_Txn, .code F_slices_Clone_api_Txn_api_Txn),
 (n_sorted_Of_int, .code F_sorted_Of_int),
 (n_r04_may, .code F_r04_may),
 (n_r04_earlier, .code F_r04_earlier),
 (n_r12_txn, .code F_r12_txn),
 (n_history_Ops, .code F_history_Ops),
 (n_table_steps_c1, .code F_table_steps_c1),
 (n_r04_number, .code F_r04_number),
 (n_r05_Has, .code F_r05_Has),
 (n_encode_txn, .code F_encode_txn),
 (n_r01_Print, .code F_r01_Print),
 (n_slices_ContainsFunc_int_int, .code F_slices_ContainsFunc_int_int),
 (n_slices_IndexFunc_int_int, .code F_slices_IndexFunc_int_int),
 (n_digits_may, .code F_digits_may),
 (n_table_Table_Writes, .code F_table_Table_Writes),
 (n_table_steps, .code F_table_steps),
 (n_sorted_Set_int_List, .code F_sorted_Set_int_List),
 (n_r04_mayOp, .code F_r04_mayOp),
 (n_r04_Text, .code F_r04_Text),
 (n_slices_Clone_int_int, .code F_slices_Clone_int_int),
 (n_table_goes_table_Write, .code F_table_goes_table_Write),
 (n_encode_parts, .code F_encode_parts),
 (n_encode_may, .code F_encode_may),
 (n_encode_may_c1, .code F_encode_may_c1),
 (n_digits_Print, .code F_digits_Print),
 (n_digits_text, .code F_digits_text),
 (n_slices_Sort_int_int, .oracle sortO),
 (n_slices_SortFunc_api_Txn_api_Txn, .oracle (sortXO n_table_New_c1)),
 (n_l12_works, .oracle (closedO (.bool true)))]
def prog1 : AProg := tabP tab1
theorem c_l12_TableWrites : prog1 n_l12_TableWrites = some (.code F_l12_TableWrites) := by kernel_rfl
theorem c_table_New : prog1 n_table_New = some (.code F_table_New) := by kernel_rfl
theorem c_r12_IDs : prog1 n_r12_IDs = some (.code F_r12_IDs) := by kernel_rfl
theorem c_r12_Writes : prog1 n_r12_Writes = some (.code F_r12_Writes) := by kernel_rfl
theorem c_encode_Check : prog1 n_encode_Check = some (.code F_encode_Check) := by kernel_rfl
theorem c_table_Table_put : prog1 n_table_Table_put = some (.code F_table_Table_put) := by kernel_rfl
theorem c_r03_Ops : prog1 n_r03_Ops = some (.code F_r03_Ops) := by kernel_rfl
theorem c_r03_Appended : prog1 n_r03_Appended = some (.code F_r03_Appended) := by kernel_rfl
theorem c_table_Table_is : prog1 n_table_Table_is = some (.code F_table_Table_is) := by kernel_rfl
theorem c_r05_Of : prog1 n_r05_Of = some (.code F_r05_Of) := by kernel_rfl
theorem c_encode_text : prog1 n_encode_text = some (.code F_encode_text) := by kernel_rfl
theorem c_slices_Compact_int_int : prog1 n_slices_Compact_int_int = some (.code F_slices_Compact_int_int) := by kernel_rfl
theorem c_table_goes_table_Write_c1 : prog1 n_table_goes_table_Write_c1 = some (.code F_table_goes_table_Write_c1) := by kernel_rfl
theorem c_encode_mayOp : prog1 n_encode_mayOp = some (.code F_encode_mayOp) := by kernel_rfl
theorem c_encode_line : prog1 n_encode_line = some (.code F_encode_line) := by kernel_rfl
theorem c_r03_Few : prog1 n_r03_Few = some (.code F_r03_Few) := by kernel_rfl
theorem c_r04_Check : prog1 n_r04_Check = some (.code F_r04_Check) := by kernel_rfl
theorem c_slices_Clone_api_Txn_api_Txn : prog1 n_slices_Clone_api_Txn_api_Txn = some (.code F_slices_Clone_api_Txn_api_Txn) := by kernel_rfl
theorem c_sorted_Of_int : prog1 n_sorted_Of_int = some (.code F_sorted_Of_int) := by kernel_rfl
theorem c_r04_may : prog1 n_r04_may = some (.code F_r04_may) := by kernel_rfl
theorem c_r04_earlier : prog1 n_r04_earlier = some (.code F_r04_earlier) := by kernel_rfl
theorem c_r12_txn : prog1 n_r12_txn = some (.code F_r12_txn) := by kernel_rfl
theorem c_history_Ops : prog1 n_history_Ops = some (.code F_history_Ops) := by kernel_rfl
theorem c_table_steps_c1 : prog1 n_table_steps_c1 = some (.code F_table_steps_c1) := by kernel_rfl
theorem c_r04_number : prog1 n_r04_number = some (.code F_r04_number) := by kernel_rfl
theorem c_r05_Has : prog1 n_r05_Has = some (.code F_r05_Has) := by kernel_rfl
theorem c_encode_txn : prog1 n_encode_txn = some (.code F_encode_txn) := by kernel_rfl
theorem c_r01_Print : prog1 n_r01_Print = some (.code F_r01_Print) := by kernel_rfl
theorem c_slices_ContainsFunc_int_int : prog1 n_slices_ContainsFunc_int_int = some (.code F_slices_ContainsFunc_int_int) := by kernel_rfl
theorem c_slices_IndexFunc_int_int : prog1 n_slices_IndexFunc_int_int = some (.code F_slices_IndexFunc_int_int) := by kernel_rfl
theorem c_digits_may : prog1 n_digits_may = some (.code F_digits_may) := by kernel_rfl
theorem c_table_Table_Writes : prog1 n_table_Table_Writes = some (.code F_table_Table_Writes) := by kernel_rfl
theorem c_table_steps : prog1 n_table_steps = some (.code F_table_steps) := by kernel_rfl
theorem c_sorted_Set_int_List : prog1 n_sorted_Set_int_List = some (.code F_sorted_Set_int_List) := by kernel_rfl
theorem c_r04_mayOp : prog1 n_r04_mayOp = some (.code F_r04_mayOp) := by kernel_rfl
theorem c_r04_Text : prog1 n_r04_Text = some (.code F_r04_Text) := by kernel_rfl
theorem c_slices_Clone_int_int : prog1 n_slices_Clone_int_int = some (.code F_slices_Clone_int_int) := by kernel_rfl
theorem c_table_goes_table_Write : prog1 n_table_goes_table_Write = some (.code F_table_goes_table_Write) := by kernel_rfl
theorem c_encode_parts : prog1 n_encode_parts = some (.code F_encode_parts) := by kernel_rfl
theorem c_encode_may : prog1 n_encode_may = some (.code F_encode_may) := by kernel_rfl
theorem c_encode_may_c1 : prog1 n_encode_may_c1 = some (.code F_encode_may_c1) := by kernel_rfl
theorem c_digits_Print : prog1 n_digits_Print = some (.code F_digits_Print) := by kernel_rfl
theorem c_digits_text : prog1 n_digits_text = some (.code F_digits_text) := by kernel_rfl
theorem c_slices_Sort_int_int : prog1 n_slices_Sort_int_int = some (.oracle sortO) := by kernel_rfl
theorem c_slices_SortFunc_api_Txn_api_Txn : prog1 n_slices_SortFunc_api_Txn_api_Txn = some (.oracle (sortXO n_table_New_c1)) := by kernel_rfl
theorem c_l12_works : prog1 n_l12_works = some (.oracle (closedO (.bool true))) := by kernel_rfl
def tab0 : List (Nat × ADef) := [(n_l12_works, .code F_l12_works),
 (n_table_Table_Writes, .code F_table_Table_Writes),
 (n_table_goes_table_Write, .code F_table_goes_table_Write),
 (n_table_goes_table_Write_c1, .code F_table_goes_table_Write_c1),
 (n_table_Table_is, .code F_table_Table_is),
 (n_table_Table_Reads, .code F_table_Table_Reads),
 (n_table_goes_table_Read, .code F_table_goes_table_Read),
 (n_table_goes_table_Read_c1, .code F_table_goes_table_Read_c1),
 (n_table_Table_Appends, .code F_table_Table_Appends),
 (n_slices_Clone_int_int, .code F_slices_Clone_int_int),
 (n_table_Table_Keys, .code F_table_Table_Keys),
 (n_r01_Same, .code F_r01_Same),
 (n_table_Table_IDs, .code F_table_Table_IDs),
 (n_table_Table_Rank, .code F_table_Table_Rank),
 (n_slices_BinarySearch_int_int, .code F_slices_BinarySearch_int_int),
 (n_slices_isNaN_int, .code F_slices_isNaN_int),
 (n_cmp_Less_int, .code F_cmp_Less_int),
 (n_cmp_isNaN_int, .code F_cmp_isNaN_int),
 (n_table_Table_Writer, .code F_table_Table_Writer),
 (n_table_New, .code F_table_New),
 (n_sorted_Set_int_List, .code F_sorted_Set_int_List),
 (n_sorted_Of_int, .code F_sorted_Of_int),
 (n_slices_Compact_int_int, .code F_slices_Compact_int_int),
 (n_table_Table_put, .code F_table_Table_put),
 (n_table_steps, .code F_table_steps),
 (n_table_steps_c1, .code F_table_steps_c1),
 (n_table_New_c1, .code F_table_New_c1),
 (n_cmp_Compare_int, .code F_cmp_Compare_int),
 (n_slices_Clone_api_Txn_api_Txn, .code F_slices_Clone_api_Txn_api_Txn),
 (n_encode_Check, .code F_encode_Check),
 (n_encode_text, .code F_encode_text),
 (n_encode_txn, .code F_encode_txn),
 (n_encode_line, .code F_encode_line),
 (n_digits_Print, .code F_digits_Print),
 (n_digits_text, .code F_digits_text),
 (n_digits_may, .code F_digits_may),
 (n_encode_parts, .code F_encode_parts),
 (n_encode_mayOp, .code F_encode_mayOp),
 (n_encode_may, .code F_encode_may),
 (n_encode_may_c1, .code F_encode_may_c1),
 (n_slices_ContainsFunc_int_int, .code F_slices_ContainsFunc_int_int),
 (n_slices_IndexFunc_int_int, .code F_slices_IndexFunc_int_int),
 (n_history_Ops, .code F_history_Ops),
 (n_l12_one, .code F_l12_one),
 (n_slices_Sort_int_int, .oracle sortOI),
 (n_slices_SortFunc_api_Txn_api_Txn, .oracle (sortXO n_table_New_c1))]
end Go.AMS
