/- The code of the functions that the law runs, as the abstract machine reads it. -/
import Derived.Test.YtjnipkbnmbnfpaaAmSepP
import Derived.Test.YtjnipkbnmbnfpaaAmSepO
import Derived.Test.YtjnipkbnmbnfpaaAmSort
import Derived.Test.YtjnipkbnmbnfpaaAmSortI
namespace Go.AMS
open Go.AM hiding Kt At WP WL Runs RunsY
open C
set_option maxRecDepth 100000
set_option linter.unusedVariables false
def n_l10_PoolAll : Nat := 5
def n_pool_New_int : Nat := 14
def n_l10_works : Nat := 16
def n_r10_Few : Nat := 17
def n_picks_New : Nat := 18
def n_pool_Pool_int_Add : Nat := 20
def n_pool_Pool_int_Run : Nat := 21
def n_r01_Same : Nat := 25
def n_pool_Pool_int_Who : Nat := 26
def n_pool_Pool_int_Done : Nat := 27
def n_pool_Pool_int_Left : Nat := 29
def n_r10_Jobs : Nat := 30
def n_picks_Script_Steps : Nat := 32
def n_l10_PoolAll_c1 : Nat := 33
def n_r10_Of : Nat := 34
def n_l10_times : Nat := 35
def n_r05_Of : Nat := 47
def n_picks_Script_Step : Nat := 59
def n_pool_New_string : Nat := 60
def n_pool_Pool_string_Add : Nat := 61
def n_pool_Pool_string_Run : Nat := 62
def n_pool_Pool_string_Done : Nat := 63
def n_pool_Pool_string_Stolen : Nat := 64
def n_pool_Pool_string_Left : Nat := 65
def n_pool_Pool_string_Who : Nat := 66
def n_slices_Clone_int_int : Nat := 67
def n_pool_Pool_int_is : Nat := 68
def n_deque_Deque_int_Push : Nat := 69
def n_pool_Pool_int_ready : Nat := 70
def n_pool_Pool_int_step : Nat := 71
def n_pool_Pool_int_waiting : Nat := 76
def n_picks_Script_is : Nat := 77
def n_r05_Has : Nat := 91
def n_sorted_Of_int : Nat := 103
def n_picks_Script_Cancelled : Nat := 104
def n_sorted_Set_int_Len : Nat := 105
def n_sorted_Set_int_List : Nat := 106
def n_picks_Script_choice : Nat := 107
def n_pool_Pool_string_is : Nat := 108
def n_deque_Deque_string_Push : Nat := 109
def n_pool_Pool_string_ready : Nat := 110
def n_pool_Pool_string_step : Nat := 111
def n_pool_Pool_string_waiting : Nat := 112
def n_deque_Deque_int_grow : Nat := 113
def n_deque_Deque_int_at : Nat := 114
def n_pool_Pool_int_ready_c1 : Nat := 115
def n_pool_Pool_int_take : Nat := 116
def n_deque_Deque_int_Len : Nat := 120
def n_slices_Sort_int_int : Nat := 138
def n_slices_Compact_int_int : Nat := 139
def n_deque_Deque_string_grow : Nat := 140
def n_deque_Deque_string_at : Nat := 141
def n_pool_Pool_string_ready_c1 : Nat := 142
def n_pool_Pool_string_take : Nat := 143
def n_deque_Deque_string_Len : Nat := 144
def n_deque_Deque_int_List : Nat := 145
def n_deque_Deque_int_Pop : Nat := 146
def n_deque_Deque_int_Steal : Nat := 147
def n_deque_Deque_string_List : Nat := 158
def n_deque_Deque_string_Pop : Nat := 159
def n_deque_Deque_string_Steal : Nat := 160
def n_deque_Deque_int_each : Nat := 161
def n_deque_Deque_int_take : Nat := 162
def n_deque_Deque_string_each : Nat := 175
def n_deque_Deque_string_take : Nat := 176
def n_deque_Deque_int_each_c1 : Nat := 177
def n_deque_Deque_string_each_c1 : Nat := 184
/-- coroner/coronerlaw10.PoolAll -/
def F_l10_PoolAll : AFn := ⟨3, [.tmp 6],
 (.seq (.ops false [o 6 (.mv (.const (.bool false)))])
 (.seq (.seq (.ops false [o 16 (.mv (t 1)), o 17 (.len 1 (t 16)), o 18 (.bin .gtr (t 17) (ci 300)), o 19 (.mv (t 18)), ⟨(some 20), .mv (t 2), some (19, false), false⟩, ⟨(some 21), .call (.func n_r10_Few) [(t 20)], some (19, false), false⟩, ⟨(some 22), .un .not (t 21), some (19, false), false⟩, o 23 (.pick (t 19) (.const (.bool true)) (t 22))])
 (.seq (.keep [0, 1, 2, 23])
 (.cond (t 23)
 (.seq (.ops false [o 24 (.call (.func n_l10_works) []), o 6 (.mv (t 24))])
 .ret)
 .skip)))
 (.seq (.keep [0, 1, 2])
 (.seq (.ops false [o 25 (.mv (t 1)), o 26 (.call (.func n_picks_New) [(t 25), (ci (-1))]), o 7 (.mv (t 26))])
 (.seq (.ops false [o 28 (.mv (t 0)), o 29 (.conv .i64 (t 28)), o 30 (.bin .rem (t 29) (ci 64)), o 31 (.bin .add (ci 1) (t 30)), o 32 (.mv (t 7)), o 33 (.call (.func n_pool_New_int) [(t 31), (t 32)]), o 27 (.mv (t 33)), o 34 (.extract 0 (t 27)), o 35 (.extract 1 (t 27)), o 8 (.mv (t 34)), o 9 (.mv (t 35))])
 (.seq (.keep [2, 7, 8, 9])
 (.seq (.seq (.ops false [o 36 (.mv (t 9)), o 37 (.bin .neq (t 36) (ci 0)), o 38 (.mv (t 37)), ⟨(some 39), .mv (t 8), some (38, false), false⟩, ⟨(some 40), .eqv 1 false (t 39) (.const (.pointer none)), some (38, false), false⟩, o 41 (.pick (t 38) (.const (.bool true)) (t 40))])
 (.cond (t 41)
 (.seq (.ops false [o 6 (.mv (.const (.bool false)))])
 .ret)
 .skip))
 (.seq (.keep [2, 7, 8])
 (.seq (.ops false [o 42 (.mv (t 8)), o 43 (.mv (t 2)), o 44 (.call (.func n_pool_Pool_int_Add) [(t 42), (t 43)])])
 (.seq (.ops false [o 10 (.alloc [(.slice none 0 0)])])
 (.seq (.ops false [o 45 (.mv (t 8)), o 46 (.mkf n_l10_PoolAll_c1 [] [(t 10)]), o 47 (.call (.func n_pool_Pool_int_Run) [(t 45), (t 46)]), o 11 (.mv (t 47))])
 (.seq (.ops false [o 48 (.mv (t 2)), o 49 (.call (.func n_r10_Jobs) [(t 48)]), o 12 (.mv (t 49))])
 (.seq (.ops false [o 13 (.mv (.const (.slice none 0 0)))])
 (.seq (.ops false [o 50 (.bslice 1 0 [] []), o 51 (.mv (t 2)), o 52 (.append 1 8 (t 50) (t 51)), o 14 (.mv (t 52))])
 (.seq (.seq (.ops false [o 15 (.mv (ci 0))])
 (.seq (.keep [7, 8, 10, 11, 12, 13, 14, 15]) (.block 0 (.loop (.seq (.seq (.seq (.ops false [o 53 (.mv (t 15)), o 54 (.mv (t 14)), o 55 (.len 1 (t 54)), o 56 (.bin .lss (t 53) (t 55))])
 (.cond (t 56)
 .skip
 (.exit 0)))
 (.seq (.block 1 (.seq (.ops false [o 59 (.mv (t 13)), o 60 (.mv (t 14)), o 61 (.mv (t 15)), o 62 (.iaddr 1 (t 60) (t 61)), o 63 (.load1 (t 62)), o 64 (.bslice 1 1 [(.int .i64 0)] [(0, (1, (t 63)))]), o 65 (.append 1 8 (t 59) (t 64)), o 13 (.mv (t 65))])
 (.seq (.keep [7, 8, 10, 11, 12, 13, 14, 15])
 (.ops false [o 66 (.mv (t 14)), o 67 (.mv (t 14)), o 68 (.mv (t 15)), o 69 (.iaddr 1 (t 67) (t 68)), o 70 (.load1 (t 69)), o 71 (.call (.func n_r10_Of) [(t 70)]), o 72 (.append 1 8 (t 66) (t 71)), o 14 (.mv (t 72))]))))
 (.seq (.keep [7, 8, 10, 11, 12, 13, 14, 15])
 (.ops false [o 57 (.mv (t 15)), o 58 (.bin .add (t 57) (ci 1)), o 15 (.mv (t 58))])))) (.keep [7, 8, 10, 11, 12, 13, 14, 15]))))))
 (.seq (.keep [7, 8, 10, 11, 12, 13])
 (.seq (.ops false (o 73 (.mv (t 11)) :: o 74 (.bin .eql (t 73) (ci 0)) :: o 75 (.mv (t 74)) :: ⟨(some 76), .mv (t 8), some (75, true), false⟩ :: ⟨(some 77), .call (.func n_pool_Pool_int_Done) [(t 76)], some (75, true), false⟩ :: ⟨(some 78), .mv (t 12), some (75, true), false⟩ :: ⟨(some 79), .bin .eql (t 77) (t 78), some (75, true), false⟩ :: o 80 (.pick (t 75) (t 79) (.const (.bool false))) :: o 81 (.mv (t 80)) :: ⟨(some 82), .mv (t 8), some (81, true), false⟩ :: ⟨(some 83), .call (.func n_pool_Pool_int_Left) [(t 82)], some (81, true), false⟩ :: ⟨(some 84), .bin .eql (t 83) (ci 0), some (81, true), false⟩ :: o 85 (.pick (t 81) (t 84) (.const (.bool false))) :: o 86 (.mv (t 85)) :: ⟨(some 87), .mv (t 7), some (86, true), false⟩ :: ⟨(some 88), .call (.func n_picks_Script_Steps) [(t 87)], some (86, true), false⟩ :: ⟨(some 89), .mv (t 12), some (86, true), false⟩ :: ⟨(some 90), .bin .mul (ci 2) (t 89), some (86, true), false⟩ :: ⟨(some 91), .bin .eql (t 88) (t 90), some (86, true), false⟩ :: o 92 (.pick (t 86) (t 91) (.const (.bool false))) :: o 93 (.mv (t 92)) :: ⟨(some 94), .mv (t 8), some (93, true), false⟩ :: ⟨(some 95), .call (.func n_pool_Pool_int_Who) [(t 94)], some (93, true), false⟩ :: ⟨(some 96), .len 1 (t 95), some (93, true), false⟩ :: ⟨(some 97), .mv (t 12), some (93, true), false⟩ :: ⟨(some 98), .bin .mul (ci 2) (t 97), some (93, true), false⟩ :: ⟨(some 99), .bin .eql (t 96) (t 98), some (93, true), false⟩ :: o 100 (.pick (t 93) (t 99) (.const (.bool false))) :: o 101 (.mv (t 100)) :: ⟨(some 102), .load1 (t 10), some (101, true), false⟩ :: ⟨(some 103), .len 1 (t 102), some (101, true), false⟩ :: ⟨(some 104), .mv (t 12), some (101, true), false⟩ :: ⟨(some 105), .bin .eql (t 103) (t 104), some (101, true), false⟩ :: o 106 (.pick (t 101) (t 105) (.const (.bool false))) :: o 107 (.mv (t 106)) :: ⟨(some 108), .load1 (t 10), some (107, true), false⟩ :: ⟨(some 109), .mv (t 13), some (107, true), false⟩ :: ⟨(some 110), .call (.func n_l10_times) [(t 108), (t 109)], some (107, true), false⟩ :: o 111 (.pick (t 107) (t 110) (.const (.bool false))) :: o 112 (.mv (t 111)) :: ⟨(some 113), .call (.func n_l10_works) [], some (112, true), false⟩ :: o 114 (.pick (t 112) (t 113) (.const (.bool false))) :: o 6 (.mv (t 114)) :: []))
 (.seq (.keep [6])
 .ret))))))))))))))))))⟩
/-- coroner/pool.New[int] -/
def F_pool_New_int : AFn := ⟨2, [.tmp 4, .tmp 5],
 (.seq (.ops false [o 4 (.mv (.const (.pointer none))), o 5 (.mv (ci 0))])
 (.seq (.seq (.ops false [o 9 (.mv (t 0)), o 10 (.bin .lss (t 9) (ci 1)), o 11 (.mv (t 10)), ⟨(some 12), .mv (t 0), some (11, false), false⟩, ⟨(some 13), .bin .gtr (t 12) (ci 64), some (11, false), false⟩, o 14 (.pick (t 11) (.const (.bool true)) (t 13))])
 (.cond (t 14)
 (.seq (.ops false [o 4 (.mv (.const (.pointer none))), o 5 (.mv (ci 7))])
 .ret)
 .skip))
 (.seq (.keep [0, 1])
 (.seq (.seq (.ops false [o 16 (.mv (t 1)), o 17 (.call (.func n_picks_Script_Step) [(t 16), (.const (.slice none 0 0))]), o 15 (.mv (t 17)), o 18 (.extract 0 (t 15)), o 19 (.extract 1 (t 15)), o 6 (.mv (t 18)), o 7 (.mv (t 19))])
 (.seq (.keep [0, 1, 7])
 (.seq (.ops false [o 20 (.mv (t 7)), o 21 (.bin .eql (t 20) (ci 1))])
 (.cond (t 21)
 (.seq (.ops false [o 22 (.mv (t 7)), o 4 (.mv (.const (.pointer none))), o 5 (.mv (t 22))])
 .ret)
 .skip))))
 (.seq (.keep [0, 1])
 (.seq (.ops false [o 23 (.mv (t 1)), o 24 (.build [(.pointer none), (.slice none 0 0), (.int .i64 0), (.int .i64 0), (.int .i64 0), (.slice none 0 0)] [(0, (1, (t 23)))]), o 25 (.box (t 24)), o 8 (.mv (t 25))])
 (.seq (.seq (.ops false [o 26 (.mv (t 0)), o 27 (.mv (ci 0))])
 (.seq (.keep [8, 26, 27]) (.block 0 (.loop (.seq (.seq (.ops false [o 28 (.bin .lss (t 27) (t 26))])
 (.seq (.cond (t 28)
 .skip
 (.exit 0))
 (.seq (.block 1 (.ops false [o 29 (.mv (t 8)), o 30 (.mv (t 8)), o 31 (.nilc (t 30)), o 32 (.faddr 1 (t 31)), o 33 (.load1 (t 32)), o 34 (.build [(.slice none 0 0), (.int .i64 0), (.int .i64 0), (.int .i64 0), (.bool false)] []), o 35 (.box (t 34)), o 36 (.bslice 1 1 [(.pointer none)] [(0, (1, (t 35)))]), o 37 (.append 1 8 (t 33) (t 36)), o 38 (.nilc (t 29)), o 39 (.faddr 1 (t 38)), s (.store 1 (t 39) (t 37))]))
 (.seq (.keep [8, 26, 27])
 (.ops false [o 40 (.bin .add (t 27) (ci 1)), o 27 (.mv (t 40))]))))) (.keep [8, 26, 27]))))))
 (.seq (.keep [8])
 (.seq (.ops false [o 41 (.mv (t 8)), o 4 (.mv (t 41)), o 5 (.mv (ci 0))])
 .ret)))))))))⟩
/-- coroner/coronerlaw10.works -/
def F_l10_works : AFn := ⟨0, [.tmp 0],
 (.seq (.ops false [o 0 (.mv (.const (.bool false)))])
 (.seq (.ops false [o 7 (.call (.func n_picks_New) [(.const (.slice none 0 0)), (ci (-1))]), o 8 (.call (.func n_pool_New_string) [(ci 2), (t 7)]), o 6 (.mv (t 8)), o 9 (.extract 0 (t 6)), o 10 (.extract 1 (t 6)), o 1 (.mv (t 9)), o 2 (.mv (t 10))])
 (.seq (.keep [1, 2])
 (.seq (.ops false [o 11 (.mv (t 1)), o 12 (.bslice 1 2 [(.string ⟨#[]⟩), (.string ⟨#[]⟩)] [(0, (1, (.const (.string ⟨#[97]⟩)))), (1, (1, (.const (.string ⟨#[98]⟩))))]), o 13 (.call (.func n_pool_Pool_string_Add) [(t 11), (t 12)])])
 (.seq (.ops false [o 14 (.mv (t 1)), o 15 (.call (.func n_pool_Pool_string_Run) [(t 14), (.const .nilFunc)]), o 3 (.mv (t 15))])
 (.seq (.ops false [o 17 (.call (.func n_picks_New) [(.const (.slice none 0 0)), (ci (-1))]), o 18 (.call (.func n_pool_New_string) [(ci 0), (t 17)]), o 16 (.mv (t 18)), o 19 (.extract 0 (t 16)), o 20 (.extract 1 (t 16)), o 4 (.mv (t 19)), o 5 (.mv (t 20))])
 (.seq (.keep [1, 2, 3, 5])
 (.seq (.ops false (o 21 (.mv (t 2)) :: o 22 (.bin .eql (t 21) (ci 0)) :: o 23 (.mv (t 22)) :: ⟨(some 24), .mv (t 3), some (23, true), false⟩ :: ⟨(some 25), .bin .eql (t 24) (ci 0), some (23, true), false⟩ :: o 26 (.pick (t 23) (t 25) (.const (.bool false))) :: o 27 (.mv (t 26)) :: ⟨(some 28), .mv (t 1), some (27, true), false⟩ :: ⟨(some 29), .call (.func n_pool_Pool_string_Done) [(t 28)], some (27, true), false⟩ :: ⟨(some 30), .bin .eql (t 29) (ci 2), some (27, true), false⟩ :: o 31 (.pick (t 27) (t 30) (.const (.bool false))) :: o 32 (.mv (t 31)) :: ⟨(some 33), .mv (t 1), some (32, true), false⟩ :: ⟨(some 34), .call (.func n_pool_Pool_string_Stolen) [(t 33)], some (32, true), false⟩ :: ⟨(some 35), .bin .eql (t 34) (ci 1), some (32, true), false⟩ :: o 36 (.pick (t 32) (t 35) (.const (.bool false))) :: o 37 (.mv (t 36)) :: ⟨(some 38), .mv (t 1), some (37, true), false⟩ :: ⟨(some 39), .call (.func n_pool_Pool_string_Left) [(t 38)], some (37, true), false⟩ :: ⟨(some 40), .bin .eql (t 39) (ci 0), some (37, true), false⟩ :: o 41 (.pick (t 37) (t 40) (.const (.bool false))) :: o 42 (.mv (t 41)) :: ⟨(some 43), .mv (t 1), some (42, true), false⟩ :: ⟨(some 44), .call (.func n_pool_Pool_string_Who) [(t 43)], some (42, true), false⟩ :: ⟨(some 45), .bslice 1 4 [(.int .i64 0), (.int .i64 0), (.int .i64 0), (.int .i64 0)] [(0, (1, (ci 0))), (1, (1, (ci 0))), (2, (1, (ci 0))), (3, (1, (ci 0)))], some (42, true), false⟩ :: ⟨(some 46), .call (.func n_r01_Same) [(t 44), (t 45)], some (42, true), false⟩ :: o 47 (.pick (t 42) (t 46) (.const (.bool false))) :: o 48 (.mv (t 47)) :: ⟨(some 49), .mv (t 5), some (48, true), false⟩ :: ⟨(some 50), .bin .eql (t 49) (ci 7), some (48, true), false⟩ :: o 51 (.pick (t 48) (t 50) (.const (.bool false))) :: o 0 (.mv (t 51)) :: []))
 (.seq (.keep [0])
 .ret)))))))))⟩
/-- coroner/coronerref10.Few -/
def F_r10_Few : AFn := ⟨1, [.tmp 2],
 (.seq (.ops false [o 2 (.mv (.const (.bool false)))])
 (.seq (.seq (.ops false [o 4 (.mv (t 0)), o 5 (.len 1 (t 4)), o 6 (.bin .gtr (t 5) (ci 20))])
 (.cond (t 6)
 (.seq (.ops false [o 2 (.mv (.const (.bool false)))])
 .ret)
 .skip))
 (.seq (.seq (.ops false [o 3 (.mv (ci 0))])
 (.seq (.keep [0, 3]) (.block 0 (.loop (.seq (.seq (.seq (.ops false [o 7 (.mv (t 3)), o 8 (.mv (t 0)), o 9 (.len 1 (t 8)), o 10 (.bin .lss (t 7) (t 9))])
 (.cond (t 10)
 .skip
 (.exit 0)))
 (.seq (.block 1 (.seq (.ops false [o 13 (.mv (t 0)), o 14 (.mv (t 3)), o 15 (.iaddr 1 (t 13) (t 14)), o 16 (.load1 (t 15)), o 17 (.bin .gtr (t 16) (ci 20))])
 (.cond (t 17)
 (.seq (.ops false [o 2 (.mv (.const (.bool false)))])
 .ret)
 .skip)))
 (.ops false [o 11 (.mv (t 3)), o 12 (.bin .add (t 11) (ci 1)), o 3 (.mv (t 12))]))) (.keep [0, 3]))))))
 (.seq (.keep [])
 (.seq (.ops false [o 2 (.mv (.const (.bool true)))])
 .ret)))))⟩
/-- coroner/picks.New -/
def F_picks_New : AFn := ⟨2, [.tmp 4],
 (.seq (.ops false [o 4 (.mv (.const (.pointer none)))])
 (.seq (.ops false [o 5 (.mv (t 0)), o 6 (.call (.func n_slices_Clone_int_int) [(t 5)]), o 7 (.mv (t 1)), o 8 (.build [(.bool false), (.slice none 0 0), (.int .i64 0), (.int .i64 0), (.int .i64 0)] [(0, (1, (.const (.bool true)))), (1, (1, (t 6))), (2, (1, (t 7)))]), o 9 (.box (t 8)), o 4 (.mv (t 9))])
 .ret))⟩
/-- (*coroner/pool.Pool[int]).Add -/
def F_pool_Pool_int_Add : AFn := ⟨2, [],
 (.seq (.seq (.ops false [o 6 (.mv (t 0)), o 7 (.call (.func n_pool_Pool_int_is) [(t 6)]), o 8 (.un .not (t 7))])
 (.cond (t 8)
 .ret
 .skip))
 (.seq (.ops false [o 9 (.mv (t 1)), o 10 (.len 1 (t 9)), o 11 (.mv (ci 0))])
 (.seq (.keep [0, 9, 10, 11]) (.block 0 (.loop (.seq (.seq (.ops false [o 12 (.bin .lss (t 11) (t 10))])
 (.seq (.cond (t 12)
 .skip
 (.exit 0))
 (.seq (.block 1 (.seq (.ops false [o 13 (.iaddr 1 (t 9) (t 11)), o 14 (.load1 (t 13)), o 5 (.mv (t 14))])
 (.seq (.ops true [o 15 (.mv (t 0)), o 16 (.nilc (t 15)), o 17 (.faddr 1 (t 16)), o 18 (.load1 (t 17)), o 19 (.mv (t 0)), o 20 (.nilc (t 19)), o 21 (.faddr 2 (t 20)), o 22 (.load1 (t 21)), o 23 (.iaddr 1 (t 18) (t 22)), o 24 (.load1 (t 23)), o 25 (.nilc (t 24)), o 26 (.faddr 0 (t 25)), o 27 (.mv (t 5)), b 28 (.call (.func n_deque_Deque_int_Push) [(t 26), (t 27)])])
 (.seq (.keep [0, 9, 10, 11])
 (.ops true [o 29 (.mv (t 0)), o 30 (.mv (t 0)), o 31 (.nilc (t 30)), o 32 (.faddr 2 (t 31)), o 33 (.load1 (t 32)), o 34 (.bin .add (t 33) (ci 1)), o 35 (.mv (t 0)), o 36 (.nilc (t 35)), o 37 (.faddr 1 (t 36)), o 38 (.load1 (t 37)), o 39 (.len 1 (t 38)), o 40 (.bin .rem (t 34) (t 39)), b 41 (.nilc (t 29)), b 42 (.faddr 2 (t 41)), sb (.store 1 (t 42) (t 40))])))))
 (.seq (.keep [0, 9, 10, 11])
 (.ops false [o 43 (.bin .add (t 11) (ci 1)), o 11 (.mv (t 43))]))))) (.keep [0, 9, 10, 11])))))))⟩
/-- (*coroner/pool.Pool[int]).Run -/
def F_pool_Pool_int_Run : AFn := ⟨2, [.tmp 4],
 (.seq (.ops false [o 4 (.mv (ci 0))])
 (.seq (.seq (.ops false [o 9 (.mv (t 0)), o 10 (.call (.func n_pool_Pool_int_is) [(t 9)]), o 11 (.un .not (t 10))])
 (.cond (t 11)
 (.seq (.ops false [o 4 (.mv (ci 1))])
 .ret)
 .skip))
 (.seq (.keep [0, 1, 4]) (.block 0 (.loop (.seq (.block 1 (.seq (.ops false [o 5 (.alloc [(.slice none 0 0)])])
 (.seq (.seq (.ops false [o 12 (.mv (t 0)), o 13 (.call (.func n_pool_Pool_int_ready) [(t 12)])])
 (.block 2 (.rfun (t 13) [14]
 (.ops false [o 6 (.mv (t 14))])
 (.block 3 (.ops false [o 15 (.load1 (t 5)), o 16 (.mv (t 6)), o 17 (.bslice 1 1 [(.int .i64 0)] [(0, (1, (t 16)))]), o 18 (.append 1 8 (t 15) (t 17)), s (.store 1 (t 5) (t 18))])))))
 (.seq (.keep [0, 1, 4, 5])
 (.seq (.seq (.ops false [o 19 (.load1 (t 5)), o 20 (.len 1 (t 19)), o 21 (.bin .eql (t 20) (ci 0))])
 (.cond (t 21)
 (.seq (.ops false [o 4 (.mv (ci 0))])
 .ret)
 .skip))
 (.seq (.ops true [o 23 (.mv (t 0)), o 24 (.nilc (t 23)), o 25 (.faddr 0 (t 24)), o 26 (.load1 (t 25)), o 27 (.load1 (t 5)), b 28 (.call (.func n_picks_Script_Step) [(t 26), (t 27)]), b 22 (.mv (t 28)), o 29 (.extract 0 (t 22)), o 30 (.extract 1 (t 22)), o 7 (.mv (t 29)), b 8 (.mv (t 30))])
 (.seq (.keep [0, 1, 4, 7, 8])
 (.seq (.seq (.ops false [o 31 (.mv (t 8)), o 32 (.bin .neq (t 31) (ci 0))])
 (.cond (t 32)
 (.seq (.ops false [o 33 (.mv (t 8)), o 4 (.mv (t 33))])
 .ret)
 .skip))
 (.ops false [o 34 (.mv (t 0)), o 35 (.mv (t 7)), o 36 (.mv (t 1)), o 37 (.call (.func n_pool_Pool_int_step) [(t 34), (t 35), (t 36)])]))))))))) (.keep [0, 1, 4])))))))⟩
/-- coroner/coronerref01.Same -/
def F_r01_Same : AFn := ⟨2, [.tmp 4],
 (.seq (.ops false [o 4 (.mv (.const (.bool false)))])
 (.seq (.seq (.ops false [o 6 (.mv (t 0)), o 7 (.len 1 (t 6)), o 8 (.mv (t 1)), o 9 (.len 1 (t 8)), o 10 (.bin .neq (t 7) (t 9))])
 (.cond (t 10)
 (.seq (.ops false [o 4 (.mv (.const (.bool false)))])
 .ret)
 .skip))
 (.seq (.seq (.ops false [o 5 (.mv (ci 0))])
 (.seq (.keep [0, 1, 5]) (.block 0 (.loop (.seq (.seq (.seq (.ops false [o 11 (.mv (t 5)), o 12 (.mv (t 0)), o 13 (.len 1 (t 12)), o 14 (.bin .lss (t 11) (t 13))])
 (.cond (t 14)
 .skip
 (.exit 0)))
 (.seq (.block 1 (.seq (.ops true [o 17 (.mv (t 0)), o 18 (.mv (t 5)), o 19 (.iaddr 1 (t 17) (t 18)), o 20 (.load1 (t 19)), o 21 (.mv (t 1)), o 22 (.mv (t 5)), o 23 (.iaddr 1 (t 21) (t 22)), o 24 (.load1 (t 23)), b 25 (.bin .neq (t 20) (t 24))])
 (.seq (.keep [0, 1, 5, 25])
 (.cond (t 25)
 (.seq (.ops false [o 4 (.mv (.const (.bool false)))])
 .ret)
 .skip))))
 (.seq (.keep [0, 1, 5])
 (.ops false [o 15 (.mv (t 5)), o 16 (.bin .add (t 15) (ci 1)), o 5 (.mv (t 16))])))) (.keep [0, 1, 5]))))))
 (.seq (.keep [])
 (.seq (.ops false [o 4 (.mv (.const (.bool true)))])
 .ret)))))⟩
/-- (*coroner/pool.Pool[int]).Who -/
def F_pool_Pool_int_Who : AFn := ⟨1, [.tmp 2],
 (.seq (.ops false [o 2 (.mv (.const (.slice none 0 0)))])
 (.seq (.seq (.ops false [o 3 (.mv (t 0)), o 4 (.call (.func n_pool_Pool_int_is) [(t 3)]), o 5 (.un .not (t 4))])
 (.cond (t 5)
 (.seq (.ops false [o 2 (.mv (.const (.slice none 0 0)))])
 .ret)
 .skip))
 (.seq (.ops false [o 6 (.mv (t 0)), o 7 (.nilc (t 6)), o 8 (.faddr 5 (t 7)), o 9 (.load1 (t 8)), o 10 (.call (.func n_slices_Clone_int_int) [(t 9)]), o 2 (.mv (t 10))])
 .ret)))⟩
/-- (*coroner/pool.Pool[int]).Done -/
def F_pool_Pool_int_Done : AFn := ⟨1, [.tmp 2],
 (.seq (.ops false [o 2 (.mv (ci 0))])
 (.seq (.seq (.ops false [o 3 (.mv (t 0)), o 4 (.call (.func n_pool_Pool_int_is) [(t 3)]), o 5 (.un .not (t 4))])
 (.cond (t 5)
 (.seq (.ops false [o 2 (.mv (ci 0))])
 .ret)
 .skip))
 (.seq (.ops false [o 6 (.mv (t 0)), o 7 (.nilc (t 6)), o 8 (.faddr 3 (t 7)), o 9 (.load1 (t 8)), o 2 (.mv (t 9))])
 .ret)))⟩
/-- (*coroner/pool.Pool[int]).Left -/
def F_pool_Pool_int_Left : AFn := ⟨1, [.tmp 2],
 (.seq (.ops false [o 2 (.mv (ci 0))])
 (.seq (.seq (.ops false [o 6 (.mv (t 0)), o 7 (.call (.func n_pool_Pool_int_is) [(t 6)]), o 8 (.un .not (t 7))])
 (.cond (t 8)
 (.seq (.ops false [o 2 (.mv (ci 0))])
 .ret)
 .skip))
 (.seq (.ops false [o 9 (.mv (t 0)), o 10 (.call (.func n_pool_Pool_int_waiting) [(t 9)]), o 3 (.mv (t 10))])
 (.seq (.seq (.ops false [o 11 (.mv (t 0)), o 12 (.nilc (t 11)), o 13 (.faddr 1 (t 12)), o 14 (.load1 (t 13)), o 15 (.len 1 (t 14)), o 16 (.mv (ci 0))])
 (.seq (.keep [3, 14, 15, 16]) (.block 0 (.loop (.seq (.seq (.ops false [o 17 (.bin .lss (t 16) (t 15))])
 (.seq (.cond (t 17)
 .skip
 (.exit 0))
 (.seq (.block 1 (.seq (.ops false [o 18 (.iaddr 1 (t 14) (t 16)), o 19 (.load1 (t 18)), o 5 (.mv (t 19))])
 (.seq (.ops false [o 20 (.mv (t 5)), o 21 (.nilc (t 20)), o 22 (.faddr 4 (t 21)), o 23 (.load1 (t 22))])
 (.cond (t 23)
 (.ops false [o 24 (.mv (t 3)), o 25 (.bin .add (t 24) (ci 1)), o 3 (.mv (t 25))])
 .skip))))
 (.seq (.keep [3, 14, 15, 16])
 (.ops false [o 26 (.bin .add (t 16) (ci 1)), o 16 (.mv (t 26))]))))) (.keep [3, 14, 15, 16]))))))
 (.seq (.keep [3])
 (.seq (.ops false [o 27 (.mv (t 3)), o 2 (.mv (t 27))])
 .ret))))))⟩
/-- coroner/coronerref10.Jobs -/
def F_r10_Jobs : AFn := ⟨1, [.tmp 2],
 (.seq (.ops false [o 2 (.mv (ci 0))])
 (.seq (.ops false [o 3 (.mv (ci 0))])
 (.seq (.seq (.ops false [o 4 (.mv (ci 0))])
 (.seq (.keep [0, 3, 4]) (.block 0 (.loop (.seq (.seq (.seq (.ops false [o 5 (.mv (t 4)), o 6 (.mv (t 0)), o 7 (.len 1 (t 6)), o 8 (.bin .lss (t 5) (t 7))])
 (.cond (t 8)
 .skip
 (.exit 0)))
 (.seq (.block 1 (.seq (.ops false [o 11 (.mv (t 3)), o 12 (.bin .add (t 11) (ci 1)), o 3 (.mv (t 12))])
 (.seq (.ops false [o 13 (.mv (t 0)), o 14 (.mv (t 4)), o 15 (.iaddr 1 (t 13) (t 14)), o 16 (.load1 (t 15)), o 17 (.bin .gtr (t 16) (ci 1))])
 (.cond (t 17)
 (.ops false [o 18 (.mv (t 3)), o 19 (.mv (t 0)), o 20 (.mv (t 4)), o 21 (.iaddr 1 (t 19) (t 20)), o 22 (.load1 (t 21)), o 23 (.bin .sub (t 22) (ci 1)), o 24 (.bin .mul (ci 2) (t 23)), o 25 (.bin .add (t 18) (t 24)), o 3 (.mv (t 25))])
 .skip))))
 (.seq (.keep [0, 3, 4])
 (.ops false [o 9 (.mv (t 4)), o 10 (.bin .add (t 9) (ci 1)), o 4 (.mv (t 10))])))) (.keep [0, 3, 4]))))))
 (.seq (.keep [3])
 (.seq (.ops false [o 26 (.mv (t 3)), o 2 (.mv (t 26))])
 .ret)))))⟩
/-- (*coroner/picks.Script).Steps -/
def F_picks_Script_Steps : AFn := ⟨1, [.tmp 2],
 (.seq (.ops false [o 2 (.mv (ci 0))])
 (.seq (.seq (.ops false [o 3 (.mv (t 0)), o 4 (.call (.func n_picks_Script_is) [(t 3)]), o 5 (.un .not (t 4))])
 (.cond (t 5)
 (.seq (.ops false [o 2 (.mv (ci 0))])
 .ret)
 .skip))
 (.seq (.ops false [o 6 (.mv (t 0)), o 7 (.nilc (t 6)), o 8 (.faddr 3 (t 7)), o 9 (.load1 (t 8)), o 2 (.mv (t 9))])
 .ret)))⟩
/-- coroner/coronerlaw10.PoolAll$1 -/
def F_l10_PoolAll_c1 : AFn := ⟨3, [.tmp 5],
 (.seq (.ops false [o 5 (.mv (.const (.slice none 0 0)))])
 (.seq (.ops false [o 6 (.load1 (t 2)), o 7 (.mv (t 1)), o 8 (.bslice 1 1 [(.int .i64 0)] [(0, (1, (t 7)))]), o 9 (.append 1 8 (t 6) (t 8)), s (.store 1 (t 2) (t 9))])
 (.seq (.ops false [o 10 (.mv (t 1)), o 11 (.call (.func n_r10_Of) [(t 10)]), o 5 (.mv (t 11))])
 .ret)))⟩
/-- coroner/coronerref10.Of -/
def F_r10_Of : AFn := ⟨1, [.tmp 2],
 (.seq (.ops false [o 2 (.mv (.const (.slice none 0 0)))])
 (.seq (.seq (.ops false [o 3 (.mv (t 0)), o 4 (.bin .lss (t 3) (ci 2))])
 (.cond (t 4)
 (.seq (.ops false [o 2 (.mv (.const (.slice none 0 0)))])
 .ret)
 .skip))
 (.seq (.ops false [o 5 (.mv (t 0)), o 6 (.bin .quo (t 5) (ci 2)), o 7 (.mv (t 0)), o 8 (.mv (t 0)), o 9 (.bin .quo (t 8) (ci 2)), o 10 (.bin .sub (t 7) (t 9)), o 11 (.bslice 1 2 [(.int .i64 0), (.int .i64 0)] [(0, (1, (t 6))), (1, (1, (t 10)))]), o 2 (.mv (t 11))])
 (.seq (.keep [2])
 .ret))))⟩
/-- coroner/coronerlaw10.times -/
def F_l10_times : AFn := ⟨2, [.tmp 4],
 (.seq (.ops false [o 4 (.mv (.const (.bool false)))])
 (.seq (.ops false [o 10 (.bslice 1 0 [] []), o 11 (.mv (t 0)), o 12 (.append 1 8 (t 10) (t 11)), o 13 (.mv (t 1)), o 14 (.append 1 8 (t 12) (t 13)), o 15 (.call (.func n_r05_Of) [(t 14)]), o 5 (.mv (t 15))])
 (.seq (.keep [0, 1, 5])
 (.seq (.seq (.ops false [o 6 (.mv (ci 0))])
 (.seq (.keep [0, 1, 5, 6]) (.block 0 (.loop (.seq (.seq (.seq (.ops false [o 16 (.mv (t 6)), o 17 (.mv (t 5)), o 18 (.len 1 (t 17)), o 19 (.bin .lss (t 16) (t 18))])
 (.cond (t 19)
 .skip
 (.exit 0)))
 (.seq (.block 1 (.seq (.ops false [o 7 (.mv (ci 0))])
 (.seq (.seq (.ops false [o 8 (.mv (ci 0))])
 (.seq (.keep [0, 1, 5, 6, 7, 8]) (.block 2 (.loop (.seq (.seq (.seq (.ops false [o 22 (.mv (t 8)), o 23 (.mv (t 0)), o 24 (.len 1 (t 23)), o 25 (.bin .lss (t 22) (t 24))])
 (.cond (t 25)
 .skip
 (.exit 2)))
 (.seq (.block 3 (.seq (.ops true [o 28 (.mv (t 0)), o 29 (.mv (t 8)), o 30 (.iaddr 1 (t 28) (t 29)), o 31 (.load1 (t 30)), o 32 (.mv (t 5)), o 33 (.mv (t 6)), o 34 (.iaddr 1 (t 32) (t 33)), o 35 (.load1 (t 34)), b 36 (.bin .eql (t 31) (t 35))])
 (.seq (.keep [0, 1, 5, 6, 7, 8, 36])
 (.cond (t 36)
 (.ops false [o 37 (.mv (t 7)), o 38 (.bin .add (t 37) (ci 1)), o 7 (.mv (t 38))])
 .skip))))
 (.seq (.keep [0, 1, 5, 6, 7, 8])
 (.ops false [o 26 (.mv (t 8)), o 27 (.bin .add (t 26) (ci 1)), o 8 (.mv (t 27))])))) (.keep [0, 1, 5, 6, 7, 8]))))))
 (.seq (.keep [0, 1, 5, 6, 7])
 (.seq (.seq (.ops false [o 9 (.mv (ci 0))])
 (.seq (.keep [0, 1, 5, 6, 7, 9]) (.block 4 (.loop (.seq (.seq (.seq (.ops false [o 39 (.mv (t 9)), o 40 (.mv (t 1)), o 41 (.len 1 (t 40)), o 42 (.bin .lss (t 39) (t 41))])
 (.cond (t 42)
 .skip
 (.exit 4)))
 (.seq (.block 5 (.seq (.ops true [o 45 (.mv (t 1)), o 46 (.mv (t 9)), o 47 (.iaddr 1 (t 45) (t 46)), o 48 (.load1 (t 47)), o 49 (.mv (t 5)), o 50 (.mv (t 6)), o 51 (.iaddr 1 (t 49) (t 50)), o 52 (.load1 (t 51)), b 53 (.bin .eql (t 48) (t 52))])
 (.seq (.keep [0, 1, 5, 6, 7, 9, 53])
 (.cond (t 53)
 (.ops false [o 54 (.mv (t 7)), o 55 (.bin .sub (t 54) (ci 1)), o 7 (.mv (t 55))])
 .skip))))
 (.seq (.keep [0, 1, 5, 6, 7, 9])
 (.ops false [o 43 (.mv (t 9)), o 44 (.bin .add (t 43) (ci 1)), o 9 (.mv (t 44))])))) (.keep [0, 1, 5, 6, 7, 9]))))))
 (.seq (.keep [0, 1, 5, 6, 7])
 (.seq (.ops false [o 56 (.mv (t 7)), o 57 (.bin .neq (t 56) (ci 0))])
 (.cond (t 57)
 (.seq (.ops false [o 4 (.mv (.const (.bool false)))])
 .ret)
 .skip))))))))
 (.seq (.keep [0, 1, 5, 6])
 (.ops false [o 20 (.mv (t 6)), o 21 (.bin .add (t 20) (ci 1)), o 6 (.mv (t 21))])))) (.keep [0, 1, 5, 6]))))))
 (.seq (.keep [0, 1])
 (.seq (.ops false [o 58 (.mv (t 0)), o 59 (.len 1 (t 58)), o 60 (.mv (t 1)), o 61 (.len 1 (t 60)), o 62 (.bin .eql (t 59) (t 61)), o 4 (.mv (t 62))])
 .ret))))))⟩
/-- coroner/coronerref05.Of -/
def F_r05_Of : AFn := ⟨1, [.tmp 2],
 (.seq (.ops false [o 2 (.mv (.const (.slice none 0 0)))])
 (.seq (.ops false [o 3 (.mv (.const (.slice none 0 0)))])
 (.seq (.seq (.ops false [o 4 (.mv (ci 0))])
 (.seq (.keep [0, 3, 4]) (.block 0 (.loop (.seq (.seq (.seq (.ops false [o 8 (.mv (t 4)), o 9 (.mv (t 0)), o 10 (.len 1 (t 9)), o 11 (.bin .leq (t 8) (t 10))])
 (.cond (t 11)
 .skip
 (.exit 0)))
 (.seq (.block 1 (.seq (.ops false [o 5 (.mv (ci 0)), o 6 (.mv (.const (.bool false)))])
 (.seq (.seq (.ops false [o 7 (.mv (ci 0))])
 (.seq (.keep [0, 3, 4, 5, 6, 7]) (.block 2 (.loop (.seq (.seq (.seq (.ops false [o 14 (.mv (t 7)), o 15 (.mv (t 0)), o 16 (.len 1 (t 15)), o 17 (.bin .lss (t 14) (t 16))])
 (.cond (t 17)
 .skip
 (.exit 2)))
 (.seq (.block 3 (.seq (.ops false [o 20 (.mv (t 3)), o 21 (.mv (t 0)), o 22 (.mv (t 7)), o 23 (.iaddr 1 (t 21) (t 22)), o 24 (.load1 (t 23)), o 25 (.call (.func n_r05_Has) [(t 20), (t 24)]), o 26 (.un .not (t 25)), o 27 (.mv (t 26)), ⟨(some 28), .mv (t 6), some (27, true), false⟩, ⟨(some 29), .un .not (t 28), some (27, true), false⟩, ⟨(some 30), .mv (t 29), some (27, true), false⟩, ⟨(some 31), .mv (t 0), some (30, false), false⟩, ⟨(some 32), .mv (t 7), some (30, false), false⟩, ⟨(some 33), .iaddr 1 (t 31) (t 32), some (30, false), false⟩, ⟨(some 34), .load1 (t 33), some (30, false), false⟩, ⟨(some 35), .mv (t 5), some (30, false), false⟩, ⟨(some 36), .bin .lss (t 34) (t 35), some (30, false), false⟩, ⟨(some 37), .pick (t 30) (.const (.bool true)) (t 36), some (27, true), false⟩, o 38 (.pick (t 27) (t 37) (.const (.bool false)))])
 (.seq (.keep [0, 3, 4, 5, 6, 7, 38])
 (.cond (t 38)
 (.ops false [o 39 (.mv (t 0)), o 40 (.mv (t 7)), o 41 (.iaddr 1 (t 39) (t 40)), o 42 (.load1 (t 41)), o 5 (.mv (t 42)), o 6 (.mv (.const (.bool true)))])
 .skip))))
 (.seq (.keep [0, 3, 4, 5, 6, 7])
 (.ops false [o 18 (.mv (t 7)), o 19 (.bin .add (t 18) (ci 1)), o 7 (.mv (t 19))])))) (.keep [0, 3, 4, 5, 6, 7]))))))
 (.seq (.keep [0, 3, 4, 5, 6])
 (.seq (.seq (.ops false [o 43 (.mv (t 6)), o 44 (.un .not (t 43))])
 (.cond (t 44)
 (.seq (.ops false [o 45 (.mv (t 3)), o 2 (.mv (t 45))])
 .ret)
 .skip))
 (.ops false [o 46 (.mv (t 3)), o 47 (.mv (t 5)), o 48 (.bslice 1 1 [(.int .i64 0)] [(0, (1, (t 47)))]), o 49 (.append 1 8 (t 46) (t 48)), o 3 (.mv (t 49))]))))))
 (.seq (.keep [0, 3, 4])
 (.ops false [o 12 (.mv (t 4)), o 13 (.bin .add (t 12) (ci 1)), o 4 (.mv (t 13))])))) (.keep [0, 3, 4]))))))
 (.seq (.keep [3])
 (.seq (.ops false [o 50 (.mv (t 3)), o 2 (.mv (t 50))])
 .ret)))))⟩
/-- (*coroner/picks.Script).Step -/
def F_picks_Script_Step : AFn := ⟨2, [.tmp 4, .tmp 5],
 (.seq (.ops false [o 4 (.mv (ci 0)), o 5 (.mv (ci 0))])
 (.seq (.ops false [o 7 (.mv (t 1)), o 8 (.call (.func n_sorted_Of_int) [(t 7)]), o 6 (.alloc [(.slice none 0 0)]), s (.store 1 (t 6) (t 8))])
 (.seq (.block 0 (.seq (.ops false [o 10 (.mv (t 0)), o 11 (.call (.func n_picks_Script_is) [(t 10)]), o 12 (.un .not (t 11)), o 9 (.mv (t 12))])
 (.cond (t 9)
 (.seq (.ops false [o 4 (.mv (ci 0)), o 5 (.mv (ci 1))])
 .ret)
 (.seq (.ops false [o 14 (.mv (t 0)), o 15 (.call (.func n_picks_Script_Cancelled) [(t 14)]), o 13 (.mv (t 15))])
 (.cond (t 13)
 (.seq (.ops false [o 4 (.mv (ci 0)), o 5 (.mv (ci 8))])
 .ret)
 (.seq (.ops false [o 17 (.loadN 1 (t 6)), o 18 (.call (.func n_sorted_Set_int_Len) [(t 17)]), o 19 (.bin .eql (t 18) (ci 0)), o 16 (.mv (t 19))])
 (.cond (t 16)
 (.seq (.ops false [o 4 (.mv (ci 0)), o 5 (.mv (ci 10))])
 .ret)
 .skip)))))))
 (.seq (.keep [0, 6])
 (.seq (.ops false [o 20 (.mv (t 0)), o 21 (.nilc (t 20)), o 22 (.faddr 3 (t 21)), o 23 (.load1 (t 22)), o 24 (.bin .add (t 23) (ci 1)), o 25 (.nilc (t 20)), o 26 (.faddr 3 (t 25)), s (.store 1 (t 26) (t 24))])
 (.seq (.keep [0, 6])
 (.seq (.ops true [o 27 (.loadN 1 (t 6)), o 28 (.call (.func n_sorted_Set_int_List) [(t 27)]), o 29 (.mv (t 0)), o 30 (.loadN 1 (t 6)), o 31 (.call (.func n_sorted_Set_int_Len) [(t 30)]), b 32 (.call (.func n_picks_Script_choice) [(t 29), (t 31)]), b 33 (.iaddr 1 (t 28) (t 32)), b 34 (.load1 (t 33)), b 4 (.mv (t 34)), b 5 (.mv (ci 0))])
 (.seq (.keep [4, 5])
 .ret))))))))⟩
/-- coroner/pool.New[string] -/
def F_pool_New_string : AFn := ⟨2, [.tmp 4, .tmp 5],
 (.seq (.ops false [o 4 (.mv (.const (.pointer none))), o 5 (.mv (ci 0))])
 (.seq (.seq (.ops false [o 9 (.mv (t 0)), o 10 (.bin .lss (t 9) (ci 1)), o 11 (.mv (t 10)), ⟨(some 12), .mv (t 0), some (11, false), false⟩, ⟨(some 13), .bin .gtr (t 12) (ci 64), some (11, false), false⟩, o 14 (.pick (t 11) (.const (.bool true)) (t 13))])
 (.cond (t 14)
 (.seq (.ops false [o 4 (.mv (.const (.pointer none))), o 5 (.mv (ci 7))])
 .ret)
 .skip))
 (.seq (.keep [0, 1])
 (.seq (.seq (.ops false [o 16 (.mv (t 1)), o 17 (.call (.func n_picks_Script_Step) [(t 16), (.const (.slice none 0 0))]), o 15 (.mv (t 17)), o 18 (.extract 0 (t 15)), o 19 (.extract 1 (t 15)), o 6 (.mv (t 18)), o 7 (.mv (t 19))])
 (.seq (.keep [0, 1, 7])
 (.seq (.ops false [o 20 (.mv (t 7)), o 21 (.bin .eql (t 20) (ci 1))])
 (.cond (t 21)
 (.seq (.ops false [o 22 (.mv (t 7)), o 4 (.mv (.const (.pointer none))), o 5 (.mv (t 22))])
 .ret)
 .skip))))
 (.seq (.keep [0, 1])
 (.seq (.ops false [o 23 (.mv (t 1)), o 24 (.build [(.pointer none), (.slice none 0 0), (.int .i64 0), (.int .i64 0), (.int .i64 0), (.slice none 0 0)] [(0, (1, (t 23)))]), o 25 (.box (t 24)), o 8 (.mv (t 25))])
 (.seq (.seq (.ops false [o 26 (.mv (t 0)), o 27 (.mv (ci 0))])
 (.seq (.keep [8, 26, 27]) (.block 0 (.loop (.seq (.seq (.ops false [o 28 (.bin .lss (t 27) (t 26))])
 (.seq (.cond (t 28)
 .skip
 (.exit 0))
 (.seq (.block 1 (.ops false [o 29 (.mv (t 8)), o 30 (.mv (t 8)), o 31 (.nilc (t 30)), o 32 (.faddr 1 (t 31)), o 33 (.load1 (t 32)), o 34 (.build [(.slice none 0 0), (.int .i64 0), (.int .i64 0), (.string ⟨#[]⟩), (.bool false)] []), o 35 (.box (t 34)), o 36 (.bslice 1 1 [(.pointer none)] [(0, (1, (t 35)))]), o 37 (.append 1 8 (t 33) (t 36)), o 38 (.nilc (t 29)), o 39 (.faddr 1 (t 38)), s (.store 1 (t 39) (t 37))]))
 (.seq (.keep [8, 26, 27])
 (.ops false [o 40 (.bin .add (t 27) (ci 1)), o 27 (.mv (t 40))]))))) (.keep [8, 26, 27]))))))
 (.seq (.keep [8])
 (.seq (.ops false [o 41 (.mv (t 8)), o 4 (.mv (t 41)), o 5 (.mv (ci 0))])
 .ret)))))))))⟩
/-- (*coroner/pool.Pool[string]).Add -/
def F_pool_Pool_string_Add : AFn := ⟨2, [],
 (.seq (.seq (.ops false [o 6 (.mv (t 0)), o 7 (.call (.func n_pool_Pool_string_is) [(t 6)]), o 8 (.un .not (t 7))])
 (.cond (t 8)
 .ret
 .skip))
 (.seq (.ops false [o 9 (.mv (t 1)), o 10 (.len 1 (t 9)), o 11 (.mv (ci 0))])
 (.seq (.keep [0, 9, 10, 11]) (.block 0 (.loop (.seq (.seq (.ops false [o 12 (.bin .lss (t 11) (t 10))])
 (.seq (.cond (t 12)
 .skip
 (.exit 0))
 (.seq (.block 1 (.seq (.ops false [o 13 (.iaddr 1 (t 9) (t 11)), o 14 (.load1 (t 13)), o 5 (.mv (t 14))])
 (.seq (.ops true [o 15 (.mv (t 0)), o 16 (.nilc (t 15)), o 17 (.faddr 1 (t 16)), o 18 (.load1 (t 17)), o 19 (.mv (t 0)), o 20 (.nilc (t 19)), o 21 (.faddr 2 (t 20)), o 22 (.load1 (t 21)), o 23 (.iaddr 1 (t 18) (t 22)), o 24 (.load1 (t 23)), o 25 (.nilc (t 24)), o 26 (.faddr 0 (t 25)), o 27 (.mv (t 5)), b 28 (.call (.func n_deque_Deque_string_Push) [(t 26), (t 27)])])
 (.seq (.keep [0, 9, 10, 11])
 (.ops true [o 29 (.mv (t 0)), o 30 (.mv (t 0)), o 31 (.nilc (t 30)), o 32 (.faddr 2 (t 31)), o 33 (.load1 (t 32)), o 34 (.bin .add (t 33) (ci 1)), o 35 (.mv (t 0)), o 36 (.nilc (t 35)), o 37 (.faddr 1 (t 36)), o 38 (.load1 (t 37)), o 39 (.len 1 (t 38)), o 40 (.bin .rem (t 34) (t 39)), b 41 (.nilc (t 29)), b 42 (.faddr 2 (t 41)), sb (.store 1 (t 42) (t 40))])))))
 (.seq (.keep [0, 9, 10, 11])
 (.ops false [o 43 (.bin .add (t 11) (ci 1)), o 11 (.mv (t 43))]))))) (.keep [0, 9, 10, 11])))))))⟩
/-- (*coroner/pool.Pool[string]).Run -/
def F_pool_Pool_string_Run : AFn := ⟨2, [.tmp 4],
 (.seq (.ops false [o 4 (.mv (ci 0))])
 (.seq (.seq (.ops false [o 9 (.mv (t 0)), o 10 (.call (.func n_pool_Pool_string_is) [(t 9)]), o 11 (.un .not (t 10))])
 (.cond (t 11)
 (.seq (.ops false [o 4 (.mv (ci 1))])
 .ret)
 .skip))
 (.seq (.keep [0, 1, 4]) (.block 0 (.loop (.seq (.block 1 (.seq (.ops false [o 5 (.alloc [(.slice none 0 0)])])
 (.seq (.seq (.ops false [o 12 (.mv (t 0)), o 13 (.call (.func n_pool_Pool_string_ready) [(t 12)])])
 (.block 2 (.rfun (t 13) [14]
 (.ops false [o 6 (.mv (t 14))])
 (.block 3 (.ops false [o 15 (.load1 (t 5)), o 16 (.mv (t 6)), o 17 (.bslice 1 1 [(.int .i64 0)] [(0, (1, (t 16)))]), o 18 (.append 1 8 (t 15) (t 17)), s (.store 1 (t 5) (t 18))])))))
 (.seq (.keep [0, 1, 4, 5])
 (.seq (.seq (.ops false [o 19 (.load1 (t 5)), o 20 (.len 1 (t 19)), o 21 (.bin .eql (t 20) (ci 0))])
 (.cond (t 21)
 (.seq (.ops false [o 4 (.mv (ci 0))])
 .ret)
 .skip))
 (.seq (.ops true [o 23 (.mv (t 0)), o 24 (.nilc (t 23)), o 25 (.faddr 0 (t 24)), o 26 (.load1 (t 25)), o 27 (.load1 (t 5)), b 28 (.call (.func n_picks_Script_Step) [(t 26), (t 27)]), b 22 (.mv (t 28)), o 29 (.extract 0 (t 22)), o 30 (.extract 1 (t 22)), o 7 (.mv (t 29)), b 8 (.mv (t 30))])
 (.seq (.keep [0, 1, 4, 7, 8])
 (.seq (.seq (.ops false [o 31 (.mv (t 8)), o 32 (.bin .neq (t 31) (ci 0))])
 (.cond (t 32)
 (.seq (.ops false [o 33 (.mv (t 8)), o 4 (.mv (t 33))])
 .ret)
 .skip))
 (.ops false [o 34 (.mv (t 0)), o 35 (.mv (t 7)), o 36 (.mv (t 1)), o 37 (.call (.func n_pool_Pool_string_step) [(t 34), (t 35), (t 36)])]))))))))) (.keep [0, 1, 4])))))))⟩
/-- (*coroner/pool.Pool[string]).Done -/
def F_pool_Pool_string_Done : AFn := ⟨1, [.tmp 2],
 (.seq (.ops false [o 2 (.mv (ci 0))])
 (.seq (.seq (.ops false [o 3 (.mv (t 0)), o 4 (.call (.func n_pool_Pool_string_is) [(t 3)]), o 5 (.un .not (t 4))])
 (.cond (t 5)
 (.seq (.ops false [o 2 (.mv (ci 0))])
 .ret)
 .skip))
 (.seq (.ops false [o 6 (.mv (t 0)), o 7 (.nilc (t 6)), o 8 (.faddr 3 (t 7)), o 9 (.load1 (t 8)), o 2 (.mv (t 9))])
 .ret)))⟩
/-- (*coroner/pool.Pool[string]).Stolen -/
def F_pool_Pool_string_Stolen : AFn := ⟨1, [.tmp 2],
 (.seq (.ops false [o 2 (.mv (ci 0))])
 (.seq (.seq (.ops false [o 3 (.mv (t 0)), o 4 (.call (.func n_pool_Pool_string_is) [(t 3)]), o 5 (.un .not (t 4))])
 (.cond (t 5)
 (.seq (.ops false [o 2 (.mv (ci 0))])
 .ret)
 .skip))
 (.seq (.ops false [o 6 (.mv (t 0)), o 7 (.nilc (t 6)), o 8 (.faddr 4 (t 7)), o 9 (.load1 (t 8)), o 2 (.mv (t 9))])
 .ret)))⟩
/-- (*coroner/pool.Pool[string]).Left -/
def F_pool_Pool_string_Left : AFn := ⟨1, [.tmp 2],
 (.seq (.ops false [o 2 (.mv (ci 0))])
 (.seq (.seq (.ops false [o 6 (.mv (t 0)), o 7 (.call (.func n_pool_Pool_string_is) [(t 6)]), o 8 (.un .not (t 7))])
 (.cond (t 8)
 (.seq (.ops false [o 2 (.mv (ci 0))])
 .ret)
 .skip))
 (.seq (.ops false [o 9 (.mv (t 0)), o 10 (.call (.func n_pool_Pool_string_waiting) [(t 9)]), o 3 (.mv (t 10))])
 (.seq (.seq (.ops false [o 11 (.mv (t 0)), o 12 (.nilc (t 11)), o 13 (.faddr 1 (t 12)), o 14 (.load1 (t 13)), o 15 (.len 1 (t 14)), o 16 (.mv (ci 0))])
 (.seq (.keep [3, 14, 15, 16]) (.block 0 (.loop (.seq (.seq (.ops false [o 17 (.bin .lss (t 16) (t 15))])
 (.seq (.cond (t 17)
 .skip
 (.exit 0))
 (.seq (.block 1 (.seq (.ops false [o 18 (.iaddr 1 (t 14) (t 16)), o 19 (.load1 (t 18)), o 5 (.mv (t 19))])
 (.seq (.ops false [o 20 (.mv (t 5)), o 21 (.nilc (t 20)), o 22 (.faddr 4 (t 21)), o 23 (.load1 (t 22))])
 (.cond (t 23)
 (.ops false [o 24 (.mv (t 3)), o 25 (.bin .add (t 24) (ci 1)), o 3 (.mv (t 25))])
 .skip))))
 (.seq (.keep [3, 14, 15, 16])
 (.ops false [o 26 (.bin .add (t 16) (ci 1)), o 16 (.mv (t 26))]))))) (.keep [3, 14, 15, 16]))))))
 (.seq (.keep [3])
 (.seq (.ops false [o 27 (.mv (t 3)), o 2 (.mv (t 27))])
 .ret))))))⟩
/-- (*coroner/pool.Pool[string]).Who -/
def F_pool_Pool_string_Who : AFn := ⟨1, [.tmp 2],
 (.seq (.ops false [o 2 (.mv (.const (.slice none 0 0)))])
 (.seq (.seq (.ops false [o 3 (.mv (t 0)), o 4 (.call (.func n_pool_Pool_string_is) [(t 3)]), o 5 (.un .not (t 4))])
 (.cond (t 5)
 (.seq (.ops false [o 2 (.mv (.const (.slice none 0 0)))])
 .ret)
 .skip))
 (.seq (.ops false [o 6 (.mv (t 0)), o 7 (.nilc (t 6)), o 8 (.faddr 5 (t 7)), o 9 (.load1 (t 8)), o 10 (.call (.func n_slices_Clone_int_int) [(t 9)]), o 2 (.mv (t 10))])
 .ret)))⟩
/-- slices.Clone[[]int,int] -/
def F_slices_Clone_int_int : AFn := ⟨1, [.tmp 2],
 (.seq (.ops false [o 2 (.mv (.const (.slice none 0 0)))])
 (.seq (.seq (.ops false [o 3 (.mv (t 0)), o 4 (.eqv 2 false (t 3) (.const (.slice none 0 0)))])
 (.cond (t 4)
 (.seq (.ops false [o 2 (.mv (.const (.slice none 0 0)))])
 .ret)
 .skip))
 (.seq (.ops false [o 5 (.bslice 1 0 [] []), o 6 (.mv (t 0)), o 7 (.append 1 8 (t 5) (t 6)), o 2 (.mv (t 7))])
 .ret)))⟩
/-- (*coroner/pool.Pool[int]).is -/
def F_pool_Pool_int_is : AFn := ⟨1, [.tmp 2],
 (.seq (.ops false [o 2 (.mv (.const (.bool false)))])
 (.seq (.ops false [o 3 (.mv (t 0)), o 4 (.eqv 1 true (t 3) (.const (.pointer none))), o 5 (.mv (t 4)), ⟨(some 6), .mv (t 0), some (5, true), false⟩, ⟨(some 7), .nilc (t 6), some (5, true), false⟩, ⟨(some 8), .faddr 1 (t 7), some (5, true), false⟩, ⟨(some 9), .load1 (t 8), some (5, true), false⟩, ⟨(some 10), .len 1 (t 9), some (5, true), false⟩, ⟨(some 11), .bin .gtr (t 10) (ci 0), some (5, true), false⟩, o 12 (.pick (t 5) (t 11) (.const (.bool false))), o 2 (.mv (t 12))])
 (.seq (.keep [2])
 .ret)))⟩
/-- (*coroner/deque.Deque[int]).Push -/
def F_deque_Deque_int_Push : AFn := ⟨2, [],
 (.seq (.seq (.ops false [o 4 (.mv (t 0)), o 5 (.eqv 1 false (t 4) (.const (.pointer none)))])
 (.cond (t 5)
 .ret
 .skip))
 (.seq (.ops false [o 6 (.mv (t 0)), o 7 (.call (.func n_deque_Deque_int_grow) [(t 6)])])
 (.seq (.ops true [o 8 (.mv (t 0)), o 9 (.nilc (t 8)), o 10 (.faddr 0 (t 9)), o 11 (.load1 (t 10)), o 12 (.mv (t 0)), o 13 (.mv (t 0)), o 14 (.nilc (t 13)), o 15 (.faddr 2 (t 14)), o 16 (.load1 (t 15)), o 17 (.call (.func n_deque_Deque_int_at) [(t 12), (t 16)]), o 18 (.mv (t 1)), b 19 (.iaddr 1 (t 11) (t 17)), sb (.store 1 (t 19) (t 18))])
 (.seq (.keep [0])
 (.ops false [o 20 (.mv (t 0)), o 21 (.nilc (t 20)), o 22 (.faddr 2 (t 21)), o 23 (.load1 (t 22)), o 24 (.bin .add (t 23) (ci 1)), o 25 (.nilc (t 20)), o 26 (.faddr 2 (t 25)), s (.store 1 (t 26) (t 24))])))))⟩
/-- (*coroner/pool.Pool[int]).ready -/
def F_pool_Pool_int_ready : AFn := ⟨1, [.tmp 2],
 (.seq (.ops false [o 1 (.box (t 0)), o 2 (.mv (.const .nilFunc))])
 (.seq (.ops false [o 3 (.mkf n_pool_Pool_int_ready_c1 [] [(t 1)]), o 2 (.mv (t 3))])
 .ret))⟩
/-- (*coroner/pool.Pool[int]).step -/
def F_pool_Pool_int_step : AFn := ⟨3, [],
 (.seq (.ops false [o 11 (.mv (t 0)), o 12 (.nilc (t 11)), o 13 (.faddr 1 (t 12)), o 14 (.load1 (t 13)), o 15 (.mv (t 1)), o 16 (.iaddr 1 (t 14) (t 15)), o 17 (.load1 (t 16)), o 6 (.mv (t 17))])
 (.seq (.keep [0, 1, 2, 6])
 (.seq (.ops false [o 18 (.mv (t 0)), o 19 (.mv (t 0)), o 20 (.nilc (t 19)), o 21 (.faddr 5 (t 20)), o 22 (.load1 (t 21)), o 23 (.mv (t 1)), o 24 (.bslice 1 1 [(.int .i64 0)] [(0, (1, (t 23)))]), o 25 (.append 1 8 (t 22) (t 24)), o 26 (.nilc (t 18)), o 27 (.faddr 5 (t 26)), s (.store 1 (t 27) (t 25))])
 (.seq (.keep [0, 1, 2, 6])
 (.seq (.seq (.ops false [o 28 (.mv (t 6)), o 29 (.nilc (t 28)), o 30 (.faddr 4 (t 29)), o 31 (.load1 (t 30)), o 32 (.un .not (t 31))])
 (.cond (t 32)
 (.seq (.ops false [o 33 (.mv (t 0)), o 34 (.mv (t 1)), o 35 (.call (.func n_pool_Pool_int_take) [(t 33), (t 34)])])
 .ret)
 .skip))
 (.seq (.keep [0, 1, 2, 6])
 (.seq (.ops false [o 7 (.mv (ci 0))])
 (.seq (.ops false [o 36 (.mv (t 6)), o 37 (.nilc (t 36)), o 38 (.faddr 3 (t 37)), o 39 (.load1 (t 38)), o 8 (.mv (t 39))])
 (.seq (.ops false [o 40 (.mv (t 6)), o 41 (.mv (t 6)), o 42 (.mv (t 7)), o 43 (.nilc (t 40)), o 44 (.faddr 3 (t 43)), s (.store 1 (t 44) (t 42)), o 45 (.nilc (t 41)), o 46 (.faddr 4 (t 45)), s (.store 1 (t 46) (.const (.bool false)))])
 (.seq (.keep [0, 1, 2, 6, 8])
 (.seq (.ops false [o 47 (.mv (t 0)), o 48 (.nilc (t 47)), o 49 (.faddr 3 (t 48)), o 50 (.load1 (t 49)), o 51 (.bin .add (t 50) (ci 1)), o 52 (.nilc (t 47)), o 53 (.faddr 3 (t 52)), s (.store 1 (t 53) (t 51))])
 (.seq (.keep [1, 2, 6, 8])
 (.seq (.seq (.ops false [o 54 (.mv (t 2)), o 55 (.eqv 4 false (t 54) (.const .nilFunc))])
 (.cond (t 55)
 .ret
 .skip))
 (.seq (.ops false [o 56 (.mv (t 2)), o 57 (.mv (t 1)), o 58 (.mv (t 8)), o 59 (.call (t 56) [(t 57), (t 58)]), o 60 (.len 1 (t 59)), o 61 (.mv (ci 0))])
 (.seq (.keep [6, 59, 60, 61]) (.block 0 (.loop (.seq (.seq (.ops false [o 62 (.bin .lss (t 61) (t 60))])
 (.seq (.cond (t 62)
 .skip
 (.exit 0))
 (.seq (.block 1 (.seq (.ops false [o 63 (.iaddr 1 (t 59) (t 61)), o 64 (.load1 (t 63)), o 10 (.mv (t 64))])
 (.ops false [o 65 (.mv (t 6)), o 66 (.nilc (t 65)), o 67 (.faddr 0 (t 66)), o 68 (.mv (t 10)), o 69 (.call (.func n_deque_Deque_int_Push) [(t 67), (t 68)])])))
 (.seq (.keep [6, 59, 60, 61])
 (.ops false [o 70 (.bin .add (t 61) (ci 1)), o 61 (.mv (t 70))]))))) (.keep [6, 59, 60, 61])))))))))))))))))))⟩
/-- (*coroner/pool.Pool[int]).waiting -/
def F_pool_Pool_int_waiting : AFn := ⟨1, [.tmp 2],
 (.seq (.ops false [o 2 (.mv (ci 0))])
 (.seq (.ops false [o 3 (.mv (ci 0))])
 (.seq (.seq (.ops false [o 6 (.mv (t 0)), o 7 (.nilc (t 6)), o 8 (.faddr 1 (t 7)), o 9 (.load1 (t 8)), o 10 (.len 1 (t 9)), o 11 (.mv (ci 0))])
 (.seq (.keep [3, 9, 10, 11]) (.block 0 (.loop (.seq (.seq (.ops false [o 12 (.bin .lss (t 11) (t 10))])
 (.seq (.cond (t 12)
 .skip
 (.exit 0))
 (.seq (.block 1 (.seq (.ops false [o 13 (.iaddr 1 (t 9) (t 11)), o 14 (.load1 (t 13)), o 5 (.mv (t 14))])
 (.ops false [o 15 (.mv (t 3)), o 16 (.mv (t 5)), o 17 (.nilc (t 16)), o 18 (.faddr 0 (t 17)), o 19 (.call (.func n_deque_Deque_int_Len) [(t 18)]), o 20 (.bin .add (t 15) (t 19)), o 3 (.mv (t 20))])))
 (.seq (.keep [3, 9, 10, 11])
 (.ops false [o 21 (.bin .add (t 11) (ci 1)), o 11 (.mv (t 21))]))))) (.keep [3, 9, 10, 11]))))))
 (.seq (.keep [3])
 (.seq (.ops false [o 22 (.mv (t 3)), o 2 (.mv (t 22))])
 .ret)))))⟩
/-- (*coroner/picks.Script).is -/
def F_picks_Script_is : AFn := ⟨1, [.tmp 2],
 (.seq (.ops false [o 2 (.mv (.const (.bool false)))])
 (.seq (.ops false [o 3 (.mv (t 0)), o 4 (.eqv 1 true (t 3) (.const (.pointer none))), o 5 (.mv (t 4)), ⟨(some 6), .mv (t 0), some (5, true), false⟩, ⟨(some 7), .nilc (t 6), some (5, true), false⟩, ⟨(some 8), .faddr 0 (t 7), some (5, true), false⟩, ⟨(some 9), .load1 (t 8), some (5, true), false⟩, o 10 (.pick (t 5) (t 9) (.const (.bool false))), o 2 (.mv (t 10))])
 (.seq (.keep [2])
 .ret)))⟩
/-- coroner/coronerref05.Has -/
def F_r05_Has : AFn := ⟨2, [.tmp 4],
 (.seq (.ops false [o 4 (.mv (.const (.bool false)))])
 (.seq (.seq (.ops false [o 5 (.mv (ci 0))])
 (.seq (.keep [0, 1, 5]) (.block 0 (.loop (.seq (.seq (.seq (.ops false [o 6 (.mv (t 5)), o 7 (.mv (t 0)), o 8 (.len 1 (t 7)), o 9 (.bin .lss (t 6) (t 8))])
 (.cond (t 9)
 .skip
 (.exit 0)))
 (.seq (.block 1 (.seq (.ops false [o 12 (.mv (t 0)), o 13 (.mv (t 5)), o 14 (.iaddr 1 (t 12) (t 13)), o 15 (.load1 (t 14)), o 16 (.mv (t 1)), o 17 (.bin .eql (t 15) (t 16))])
 (.cond (t 17)
 (.seq (.ops false [o 4 (.mv (.const (.bool true)))])
 .ret)
 .skip)))
 (.seq (.keep [0, 1, 5])
 (.ops false [o 10 (.mv (t 5)), o 11 (.bin .add (t 10) (ci 1)), o 5 (.mv (t 11))])))) (.keep [0, 1, 5]))))))
 (.seq (.keep [])
 (.seq (.ops false [o 4 (.mv (.const (.bool false)))])
 .ret))))⟩
/-- coroner/sorted.Of[int] -/
def F_sorted_Of_int : AFn := ⟨1, [.cellN 2 1],
 (.seq (.ops false [o 2 (.alloc [(.slice none 0 0)])])
 (.seq (.ops false [o 4 (.mv (t 0)), o 5 (.call (.func n_slices_Clone_int_int) [(t 4)]), o 3 (.mv (t 5))])
 (.seq (.ops false [o 6 (.mv (t 3)), o 7 (.call (.func n_slices_Sort_int_int) [(t 6)])])
 (.seq (.ops false [o 8 (.mv (t 3)), o 9 (.call (.func n_slices_Compact_int_int) [(t 8)]), o 10 (.build [(.slice none 0 0)] [(0, (1, (t 9)))]), s (.store 1 (t 2) (t 10))])
 .ret))))⟩
/-- (*coroner/picks.Script).Cancelled -/
def F_picks_Script_Cancelled : AFn := ⟨1, [.tmp 2],
 (.seq (.ops false [o 2 (.mv (.const (.bool false)))])
 (.seq (.ops true [b 3 (.mv (t 0)), b 4 (.call (.func n_picks_Script_is) [(t 3)]), b 5 (.mv (t 4)), ⟨(some 6), .mv (t 0), some (5, true), true⟩, ⟨(some 7), .nilc (t 6), some (5, true), true⟩, ⟨(some 8), .faddr 2 (t 7), some (5, true), true⟩, ⟨(some 9), .load1 (t 8), some (5, true), true⟩, ⟨(some 10), .bin .geq (t 9) (ci 0), some (5, true), true⟩, b 11 (.pick (t 5) (t 10) (.const (.bool false))), b 12 (.mv (t 11)), ⟨(some 13), .mv (t 0), some (12, true), false⟩, ⟨(some 14), .nilc (t 13), some (12, true), false⟩, ⟨(some 15), .faddr 3 (t 14), some (12, true), false⟩, ⟨(some 16), .load1 (t 15), some (12, true), false⟩, ⟨(some 17), .mv (t 0), some (12, true), false⟩, ⟨(some 18), .nilc (t 17), some (12, true), false⟩, ⟨(some 19), .faddr 2 (t 18), some (12, true), false⟩, ⟨(some 20), .load1 (t 19), some (12, true), false⟩, ⟨(some 21), .bin .geq (t 16) (t 20), some (12, true), true⟩, b 22 (.pick (t 12) (t 21) (.const (.bool false))), b 2 (.mv (t 22))])
 (.seq (.keep [2])
 .ret)))⟩
/-- (coroner/sorted.Set[int]).Len -/
def F_sorted_Set_int_Len : AFn := ⟨1, [.tmp 2],
 (.seq (.ops false [o 1 (.box (t 0)), o 2 (.mv (ci 0))])
 (.seq (.ops false [o 3 (.faddr 0 (t 1)), o 4 (.load1 (t 3)), o 5 (.len 1 (t 4)), o 2 (.mv (t 5))])
 .ret))⟩
/-- (coroner/sorted.Set[int]).List -/
def F_sorted_Set_int_List : AFn := ⟨1, [.tmp 2],
 (.seq (.ops false [o 1 (.box (t 0)), o 2 (.mv (.const (.slice none 0 0)))])
 (.seq (.ops false [o 3 (.faddr 0 (t 1)), o 4 (.load1 (t 3)), o 5 (.call (.func n_slices_Clone_int_int) [(t 4)]), o 2 (.mv (t 5))])
 .ret))⟩
/-- (*coroner/picks.Script).choice -/
def F_picks_Script_choice : AFn := ⟨2, [.tmp 4],
 (.seq (.ops false [o 4 (.mv (ci 0))])
 (.seq (.seq (.ops true [o 6 (.mv (t 0)), o 7 (.nilc (t 6)), o 8 (.faddr 4 (t 7)), o 9 (.load1 (t 8)), o 10 (.mv (t 0)), o 11 (.nilc (t 10)), o 12 (.faddr 1 (t 11)), o 13 (.load1 (t 12)), o 14 (.len 1 (t 13)), b 15 (.bin .geq (t 9) (t 14))])
 (.seq (.keep [0, 1, 15])
 (.cond (t 15)
 (.seq (.ops false [o 4 (.mv (ci 0))])
 .ret)
 .skip)))
 (.seq (.keep [0, 1])
 (.seq (.ops true [o 16 (.mv (t 0)), o 17 (.nilc (t 16)), o 18 (.faddr 1 (t 17)), o 19 (.load1 (t 18)), o 20 (.mv (t 0)), o 21 (.nilc (t 20)), o 22 (.faddr 4 (t 21)), o 23 (.load1 (t 22)), o 24 (.iaddr 1 (t 19) (t 23)), o 25 (.load1 (t 24)), o 26 (.mv (t 1)), b 27 (.bin .rem (t 25) (t 26)), b 5 (.mv (t 27))])
 (.seq (.keep [0, 1, 5])
 (.seq (.ops false [o 28 (.mv (t 0)), o 29 (.nilc (t 28)), o 30 (.faddr 4 (t 29)), o 31 (.load1 (t 30)), o 32 (.bin .add (t 31) (ci 1)), o 33 (.nilc (t 28)), o 34 (.faddr 4 (t 33)), s (.store 1 (t 34) (t 32))])
 (.seq (.keep [1, 5])
 (.seq (.seq (.ops false [o 35 (.mv (t 5)), o 36 (.bin .lss (t 35) (ci 0))])
 (.cond (t 36)
 (.ops false [o 37 (.mv (t 5)), o 38 (.mv (t 1)), o 39 (.bin .add (t 37) (t 38)), o 5 (.mv (t 39))])
 .skip))
 (.seq (.ops false [o 40 (.mv (t 5)), o 4 (.mv (t 40))])
 .ret)))))))))⟩
/-- (*coroner/pool.Pool[string]).is -/
def F_pool_Pool_string_is : AFn := ⟨1, [.tmp 2],
 (.seq (.ops false [o 2 (.mv (.const (.bool false)))])
 (.seq (.ops false [o 3 (.mv (t 0)), o 4 (.eqv 1 true (t 3) (.const (.pointer none))), o 5 (.mv (t 4)), ⟨(some 6), .mv (t 0), some (5, true), false⟩, ⟨(some 7), .nilc (t 6), some (5, true), false⟩, ⟨(some 8), .faddr 1 (t 7), some (5, true), false⟩, ⟨(some 9), .load1 (t 8), some (5, true), false⟩, ⟨(some 10), .len 1 (t 9), some (5, true), false⟩, ⟨(some 11), .bin .gtr (t 10) (ci 0), some (5, true), false⟩, o 12 (.pick (t 5) (t 11) (.const (.bool false))), o 2 (.mv (t 12))])
 (.seq (.keep [2])
 .ret)))⟩
/-- (*coroner/deque.Deque[string]).Push -/
def F_deque_Deque_string_Push : AFn := ⟨2, [],
 (.seq (.seq (.ops false [o 4 (.mv (t 0)), o 5 (.eqv 1 false (t 4) (.const (.pointer none)))])
 (.cond (t 5)
 .ret
 .skip))
 (.seq (.ops false [o 6 (.mv (t 0)), o 7 (.call (.func n_deque_Deque_string_grow) [(t 6)])])
 (.seq (.ops true [o 8 (.mv (t 0)), o 9 (.nilc (t 8)), o 10 (.faddr 0 (t 9)), o 11 (.load1 (t 10)), o 12 (.mv (t 0)), o 13 (.mv (t 0)), o 14 (.nilc (t 13)), o 15 (.faddr 2 (t 14)), o 16 (.load1 (t 15)), o 17 (.call (.func n_deque_Deque_string_at) [(t 12), (t 16)]), o 18 (.mv (t 1)), b 19 (.iaddr 1 (t 11) (t 17)), sb (.store 1 (t 19) (t 18))])
 (.seq (.keep [0])
 (.ops false [o 20 (.mv (t 0)), o 21 (.nilc (t 20)), o 22 (.faddr 2 (t 21)), o 23 (.load1 (t 22)), o 24 (.bin .add (t 23) (ci 1)), o 25 (.nilc (t 20)), o 26 (.faddr 2 (t 25)), s (.store 1 (t 26) (t 24))])))))⟩
/-- (*coroner/pool.Pool[string]).ready -/
def F_pool_Pool_string_ready : AFn := ⟨1, [.tmp 2],
 (.seq (.ops false [o 1 (.box (t 0)), o 2 (.mv (.const .nilFunc))])
 (.seq (.ops false [o 3 (.mkf n_pool_Pool_string_ready_c1 [] [(t 1)]), o 2 (.mv (t 3))])
 .ret))⟩
/-- (*coroner/pool.Pool[string]).step -/
def F_pool_Pool_string_step : AFn := ⟨3, [],
 (.seq (.ops false [o 11 (.mv (t 0)), o 12 (.nilc (t 11)), o 13 (.faddr 1 (t 12)), o 14 (.load1 (t 13)), o 15 (.mv (t 1)), o 16 (.iaddr 1 (t 14) (t 15)), o 17 (.load1 (t 16)), o 6 (.mv (t 17))])
 (.seq (.keep [0, 1, 2, 6])
 (.seq (.ops false [o 18 (.mv (t 0)), o 19 (.mv (t 0)), o 20 (.nilc (t 19)), o 21 (.faddr 5 (t 20)), o 22 (.load1 (t 21)), o 23 (.mv (t 1)), o 24 (.bslice 1 1 [(.int .i64 0)] [(0, (1, (t 23)))]), o 25 (.append 1 8 (t 22) (t 24)), o 26 (.nilc (t 18)), o 27 (.faddr 5 (t 26)), s (.store 1 (t 27) (t 25))])
 (.seq (.keep [0, 1, 2, 6])
 (.seq (.seq (.ops false [o 28 (.mv (t 6)), o 29 (.nilc (t 28)), o 30 (.faddr 4 (t 29)), o 31 (.load1 (t 30)), o 32 (.un .not (t 31))])
 (.cond (t 32)
 (.seq (.ops false [o 33 (.mv (t 0)), o 34 (.mv (t 1)), o 35 (.call (.func n_pool_Pool_string_take) [(t 33), (t 34)])])
 .ret)
 .skip))
 (.seq (.keep [0, 1, 2, 6])
 (.seq (.ops false [o 7 (.mv (.const (.string ⟨#[]⟩)))])
 (.seq (.ops false [o 36 (.mv (t 6)), o 37 (.nilc (t 36)), o 38 (.faddr 3 (t 37)), o 39 (.load1 (t 38)), o 8 (.mv (t 39))])
 (.seq (.ops false [o 40 (.mv (t 6)), o 41 (.mv (t 6)), o 42 (.mv (t 7)), o 43 (.nilc (t 40)), o 44 (.faddr 3 (t 43)), s (.store 1 (t 44) (t 42)), o 45 (.nilc (t 41)), o 46 (.faddr 4 (t 45)), s (.store 1 (t 46) (.const (.bool false)))])
 (.seq (.keep [0, 1, 2, 6, 8])
 (.seq (.ops false [o 47 (.mv (t 0)), o 48 (.nilc (t 47)), o 49 (.faddr 3 (t 48)), o 50 (.load1 (t 49)), o 51 (.bin .add (t 50) (ci 1)), o 52 (.nilc (t 47)), o 53 (.faddr 3 (t 52)), s (.store 1 (t 53) (t 51))])
 (.seq (.keep [1, 2, 6, 8])
 (.seq (.seq (.ops false [o 54 (.mv (t 2)), o 55 (.eqv 4 false (t 54) (.const .nilFunc))])
 (.cond (t 55)
 .ret
 .skip))
 (.seq (.ops false [o 56 (.mv (t 2)), o 57 (.mv (t 1)), o 58 (.mv (t 8)), o 59 (.call (t 56) [(t 57), (t 58)]), o 60 (.len 1 (t 59)), o 61 (.mv (ci 0))])
 (.seq (.keep [6, 59, 60, 61]) (.block 0 (.loop (.seq (.seq (.ops false [o 62 (.bin .lss (t 61) (t 60))])
 (.seq (.cond (t 62)
 .skip
 (.exit 0))
 (.seq (.block 1 (.seq (.ops false [o 63 (.iaddr 1 (t 59) (t 61)), o 64 (.load1 (t 63)), o 10 (.mv (t 64))])
 (.ops false [o 65 (.mv (t 6)), o 66 (.nilc (t 65)), o 67 (.faddr 0 (t 66)), o 68 (.mv (t 10)), o 69 (.call (.func n_deque_Deque_string_Push) [(t 67), (t 68)])])))
 (.seq (.keep [6, 59, 60, 61])
 (.ops false [o 70 (.bin .add (t 61) (ci 1)), o 61 (.mv (t 70))]))))) (.keep [6, 59, 60, 61])))))))))))))))))))⟩
/-- (*coroner/pool.Pool[string]).waiting -/
def F_pool_Pool_string_waiting : AFn := ⟨1, [.tmp 2],
 (.seq (.ops false [o 2 (.mv (ci 0))])
 (.seq (.ops false [o 3 (.mv (ci 0))])
 (.seq (.seq (.ops false [o 6 (.mv (t 0)), o 7 (.nilc (t 6)), o 8 (.faddr 1 (t 7)), o 9 (.load1 (t 8)), o 10 (.len 1 (t 9)), o 11 (.mv (ci 0))])
 (.seq (.keep [3, 9, 10, 11]) (.block 0 (.loop (.seq (.seq (.ops false [o 12 (.bin .lss (t 11) (t 10))])
 (.seq (.cond (t 12)
 .skip
 (.exit 0))
 (.seq (.block 1 (.seq (.ops false [o 13 (.iaddr 1 (t 9) (t 11)), o 14 (.load1 (t 13)), o 5 (.mv (t 14))])
 (.ops false [o 15 (.mv (t 3)), o 16 (.mv (t 5)), o 17 (.nilc (t 16)), o 18 (.faddr 0 (t 17)), o 19 (.call (.func n_deque_Deque_string_Len) [(t 18)]), o 20 (.bin .add (t 15) (t 19)), o 3 (.mv (t 20))])))
 (.seq (.keep [3, 9, 10, 11])
 (.ops false [o 21 (.bin .add (t 11) (ci 1)), o 11 (.mv (t 21))]))))) (.keep [3, 9, 10, 11]))))))
 (.seq (.keep [3])
 (.seq (.ops false [o 22 (.mv (t 3)), o 2 (.mv (t 22))])
 .ret)))))⟩
/-- (*coroner/deque.Deque[int]).grow -/
def F_deque_Deque_int_grow : AFn := ⟨1, [],
 (.seq (.seq (.ops true [o 3 (.mv (t 0)), o 4 (.nilc (t 3)), o 5 (.faddr 2 (t 4)), o 6 (.load1 (t 5)), o 7 (.mv (t 0)), o 8 (.nilc (t 7)), o 9 (.faddr 0 (t 8)), o 10 (.load1 (t 9)), o 11 (.len 1 (t 10)), b 12 (.bin .lss (t 6) (t 11))])
 (.seq (.keep [0, 12])
 (.cond (t 12)
 .ret
 .skip)))
 (.seq (.keep [0])
 (.seq (.ops false [o 13 (.mv (t 0)), o 14 (.nilc (t 13)), o 15 (.faddr 2 (t 14)), o 16 (.load1 (t 15)), o 17 (.bin .mul (ci 2) (t 16)), o 18 (.max [(ci 4), (t 17)]), o 19 (.mkslice 1 8 [(.int .i64 0)] (t 18) (t 18)), o 2 (.mv (t 19))])
 (.seq (.keep [0, 2])
 (.seq (.ops false [o 20 (.mv (t 2)), o 21 (.mv (t 0)), o 22 (.call (.func n_deque_Deque_int_List) [(t 21)]), o 23 (.copy 1 (t 20) (t 22))])
 (.ops false [o 24 (.mv (t 0)), o 25 (.mv (t 0)), o 26 (.mv (t 2)), o 27 (.nilc (t 24)), o 28 (.faddr 0 (t 27)), s (.store 1 (t 28) (t 26)), o 29 (.nilc (t 25)), o 30 (.faddr 1 (t 29)), s (.store 1 (t 30) (ci 0))]))))))⟩
/-- (*coroner/deque.Deque[int]).at -/
def F_deque_Deque_int_at : AFn := ⟨2, [.tmp 4],
 (.seq (.ops false [o 4 (.mv (ci 0))])
 (.seq (.ops true [o 5 (.mv (t 0)), o 6 (.nilc (t 5)), o 7 (.faddr 1 (t 6)), o 8 (.load1 (t 7)), o 9 (.mv (t 1)), o 10 (.bin .add (t 8) (t 9)), o 11 (.mv (t 0)), o 12 (.nilc (t 11)), o 13 (.faddr 0 (t 12)), o 14 (.load1 (t 13)), o 15 (.len 1 (t 14)), b 16 (.bin .rem (t 10) (t 15)), b 4 (.mv (t 16))])
 (.seq (.keep [4])
 .ret)))⟩
/-- (*coroner/pool.Pool[int]).ready$1 -/
def F_pool_Pool_int_ready_c1 : AFn := ⟨2, [],
 (.seq (.ops false [o 6 (.load1 (t 1)), o 7 (.call (.func n_pool_Pool_int_waiting) [(t 6)]), o 8 (.bin .gtr (t 7) (ci 0)), o 3 (.mv (t 8))])
 (.seq (.ops false [o 9 (.load1 (t 1)), o 10 (.nilc (t 9)), o 11 (.faddr 1 (t 10)), o 12 (.load1 (t 11)), o 13 (.len 1 (t 12)), o 14 (.mv (ci 0))])
 (.seq (.keep [0, 3, 12, 13, 14]) (.block 0 (.loop (.seq (.seq (.ops false [o 15 (.bin .lss (t 14) (t 13))])
 (.seq (.cond (t 15)
 .skip
 (.exit 0))
 (.seq (.block 1 (.seq (.ops false [o 16 (.mv (t 14)), o 17 (.iaddr 1 (t 12) (t 14)), o 18 (.load1 (t 17)), o 4 (.mv (t 16)), o 5 (.mv (t 18))])
 (.seq (.ops false [o 19 (.mv (t 5)), o 20 (.nilc (t 19)), o 21 (.faddr 4 (t 20)), o 22 (.load1 (t 21)), o 23 (.mv (t 22)), ⟨(some 24), .mv (t 3), some (23, false), false⟩, o 25 (.pick (t 23) (.const (.bool true)) (t 24)), o 26 (.mv (t 25)), ⟨(some 27), .mv (t 0), some (26, true), false⟩, ⟨(some 28), .mv (t 4), some (26, true), false⟩, ⟨(some 29), .call (t 27) [(t 28)], some (26, true), false⟩, ⟨(some 30), .un .not (t 29), some (26, true), false⟩, o 31 (.pick (t 26) (t 30) (.const (.bool false)))])
 (.seq (.keep [0, 3, 12, 13, 14, 31])
 (.cond (t 31)
 .ret
 .skip)))))
 (.seq (.keep [0, 3, 12, 13, 14])
 (.ops false [o 32 (.bin .add (t 14) (ci 1)), o 14 (.mv (t 32))]))))) (.keep [0, 3, 12, 13, 14])))))))⟩
/-- (*coroner/pool.Pool[int]).take -/
def F_pool_Pool_int_take : AFn := ⟨2, [],
 (.seq (.ops false [o 6 (.mv (t 0)), o 7 (.nilc (t 6)), o 8 (.faddr 1 (t 7)), o 9 (.load1 (t 8)), o 10 (.mv (t 1)), o 11 (.iaddr 1 (t 9) (t 10)), o 12 (.load1 (t 11)), o 4 (.mv (t 12))])
 (.seq (.keep [0, 1, 4])
 (.seq (.ops false [o 14 (.mv (t 4)), o 15 (.mv (t 4)), o 16 (.mv (t 4)), o 17 (.nilc (t 16)), o 18 (.faddr 0 (t 17)), o 19 (.call (.func n_deque_Deque_int_Pop) [(t 18)]), o 13 (.mv (t 19)), o 20 (.extract 0 (t 13)), o 21 (.extract 1 (t 13)), o 22 (.nilc (t 14)), o 23 (.faddr 3 (t 22)), s (.store 1 (t 23) (t 20)), o 24 (.nilc (t 15)), o 25 (.faddr 4 (t 24)), s (.store 1 (t 25) (t 21))])
 (.seq (.keep [0, 1, 4])
 (.seq (.ops false [o 5 (.mv (ci 1))])
 (.seq (.keep [0, 1, 4, 5]) (.block 0 (.loop (.seq (.seq (.seq (.ops false [o 26 (.mv (t 5)), o 27 (.mv (t 0)), o 28 (.nilc (t 27)), o 29 (.faddr 1 (t 28)), o 30 (.load1 (t 29)), o 31 (.len 1 (t 30)), o 32 (.bin .lss (t 26) (t 31)), o 33 (.mv (t 32)), ⟨(some 34), .mv (t 4), some (33, true), false⟩, ⟨(some 35), .nilc (t 34), some (33, true), false⟩, ⟨(some 36), .faddr 4 (t 35), some (33, true), false⟩, ⟨(some 37), .load1 (t 36), some (33, true), false⟩, ⟨(some 38), .un .not (t 37), some (33, true), false⟩, o 39 (.pick (t 33) (t 38) (.const (.bool false)))])
 (.seq (.keep [0, 1, 4, 5, 39])
 (.cond (t 39)
 .skip
 (.exit 0))))
 (.seq (.keep [0, 1, 4, 5])
 (.seq (.block 1 (.seq (.opsA [] (o 43 (.mv (t 4)) :: o 44 (.mv (t 4)) :: o 45 (.mv (t 0)) :: o 46 (.nilc (t 45)) :: o 47 (.faddr 1 (t 46)) :: o 48 (.load1 (t 47)) :: o 49 (.mv (t 1)) :: o 50 (.mv (t 5)) :: o 51 (.bin .add (t 49) (t 50)) :: o 52 (.mv (t 0)) :: o 53 (.nilc (t 52)) :: o 54 (.faddr 1 (t 53)) :: o 55 (.load1 (t 54)) :: o 56 (.len 1 (t 55)) :: o 57 (.bin .rem (t 51) (t 56)) :: o 58 (.iaddr 1 (t 48) (t 57)) :: o 59 (.load1 (t 58)) :: o 60 (.nilc (t 59)) :: o 61 (.faddr 0 (t 60)) :: b 62 (.call (.func n_deque_Deque_int_Steal) [(t 61)]) :: o 42 (.mv (t 62)) :: o 63 (.extract 0 (t 42)) :: o 64 (.extract 1 (t 42)) :: o 65 (.nilc (t 43)) :: o 66 (.faddr 3 (t 65)) :: sb (.store 1 (t 66) (t 63)) :: o 67 (.nilc (t 44)) :: o 68 (.faddr 4 (t 67)) :: sb (.store 1 (t 68) (t 64)) :: []))
 (.seq (.keep [0, 1, 4, 5])
 (.seq (.ops false [o 69 (.mv (t 4)), o 70 (.nilc (t 69)), o 71 (.faddr 4 (t 70)), o 72 (.load1 (t 71))])
 (.cond (t 72)
 (.ops false [o 73 (.mv (t 0)), o 74 (.nilc (t 73)), o 75 (.faddr 4 (t 74)), o 76 (.load1 (t 75)), o 77 (.bin .add (t 76) (ci 1)), o 78 (.nilc (t 73)), o 79 (.faddr 4 (t 78)), s (.store 1 (t 79) (t 77))])
 .skip)))))
 (.seq (.keep [0, 1, 4, 5])
 (.ops false [o 40 (.mv (t 5)), o 41 (.bin .add (t 40) (ci 1)), o 5 (.mv (t 41))]))))) (.keep [0, 1, 4, 5]))))))))))⟩
/-- (*coroner/deque.Deque[int]).Len -/
def F_deque_Deque_int_Len : AFn := ⟨1, [.tmp 2],
 (.seq (.ops false [o 2 (.mv (ci 0))])
 (.seq (.seq (.ops false [o 3 (.mv (t 0)), o 4 (.eqv 1 false (t 3) (.const (.pointer none)))])
 (.cond (t 4)
 (.seq (.ops false [o 2 (.mv (ci 0))])
 .ret)
 .skip))
 (.seq (.ops false [o 5 (.mv (t 0)), o 6 (.nilc (t 5)), o 7 (.faddr 2 (t 6)), o 8 (.load1 (t 7)), o 2 (.mv (t 8))])
 .ret)))⟩
/-- slices.Compact[[]int,int] -/
def F_slices_Compact_int_int : AFn := ⟨1, [.tmp 2],
 (.seq (.ops false [o 2 (.mv (.const (.slice none 0 0)))])
 (.seq (.seq (.ops false [o 6 (.mv (t 0)), o 7 (.len 1 (t 6)), o 8 (.bin .lss (t 7) (ci 2))])
 (.cond (t 8)
 (.seq (.ops false [o 9 (.mv (t 0)), o 2 (.mv (t 9))])
 .ret)
 .skip))
 (.seq (.seq (.ops false [o 3 (.mv (ci 1))])
 (.seq (.keep [0, 3]) (.block 0 (.loop (.seq (.seq (.seq (.ops false [o 10 (.mv (t 3)), o 11 (.mv (t 0)), o 12 (.len 1 (t 11)), o 13 (.bin .lss (t 10) (t 12))])
 (.cond (t 13)
 .skip
 (.exit 0)))
 (.seq (.block 1 (.seq (.ops true [o 16 (.mv (t 0)), o 17 (.mv (t 3)), o 18 (.iaddr 1 (t 16) (t 17)), o 19 (.load1 (t 18)), o 20 (.mv (t 0)), o 21 (.mv (t 3)), o 22 (.bin .sub (t 21) (ci 1)), o 23 (.iaddr 1 (t 20) (t 22)), o 24 (.load1 (t 23)), b 25 (.bin .eql (t 19) (t 24))])
 (.seq (.keep [0, 3, 25])
 (.cond (t 25)
 (.seq (.ops false [o 26 (.mv (t 0)), o 27 (.mv (t 3)), o 28 (.slc 1 (t 26) (some (t 27)) none), o 4 (.mv (t 28))])
 (.seq (.seq (.ops false [o 5 (.mv (ci 1))])
 (.seq (.keep [0, 3, 4, 5]) (.block 2 (.loop (.seq (.seq (.seq (.ops false [o 29 (.mv (t 5)), o 30 (.mv (t 4)), o 31 (.len 1 (t 30)), o 32 (.bin .lss (t 29) (t 31))])
 (.cond (t 32)
 .skip
 (.exit 2)))
 (.seq (.block 3 (.seq (.ops true [o 35 (.mv (t 4)), o 36 (.mv (t 5)), o 37 (.iaddr 1 (t 35) (t 36)), o 38 (.load1 (t 37)), o 39 (.mv (t 4)), o 40 (.mv (t 5)), o 41 (.bin .sub (t 40) (ci 1)), o 42 (.iaddr 1 (t 39) (t 41)), o 43 (.load1 (t 42)), b 44 (.bin .neq (t 38) (t 43))])
 (.seq (.keep [0, 3, 4, 5, 44])
 (.cond (t 44)
 (.seq (.ops false [o 45 (.mv (t 0)), o 46 (.mv (t 3)), o 47 (.mv (t 4)), o 48 (.mv (t 5)), o 49 (.iaddr 1 (t 47) (t 48)), o 50 (.load1 (t 49)), o 51 (.iaddr 1 (t 45) (t 46)), s (.store 1 (t 51) (t 50))])
 (.seq (.keep [0, 3, 4, 5])
 (.ops false [o 52 (.mv (t 3)), o 53 (.bin .add (t 52) (ci 1)), o 3 (.mv (t 53))])))
 .skip))))
 (.seq (.keep [0, 3, 4, 5])
 (.ops false [o 33 (.mv (t 5)), o 34 (.bin .add (t 33) (ci 1)), o 5 (.mv (t 34))])))) (.keep [0, 3, 4, 5]))))))
 (.seq (.keep [0, 3])
 (.seq (.ops false [o 54 (.mv (t 0)), o 55 (.mv (t 3)), o 56 (.slc 1 (t 54) (some (t 55)) none), s (.clear [(.int .i64 0)] (t 56))])
 (.seq (.ops false [o 57 (.mv (t 0)), o 58 (.mv (t 3)), o 59 (.slc 1 (t 57) none (some (t 58))), o 2 (.mv (t 59))])
 .ret)))))
 .skip))))
 (.seq (.keep [0, 3])
 (.ops false [o 14 (.mv (t 3)), o 15 (.bin .add (t 14) (ci 1)), o 3 (.mv (t 15))])))) (.keep [0, 3]))))))
 (.seq (.keep [0])
 (.seq (.ops false [o 60 (.mv (t 0)), o 2 (.mv (t 60))])
 .ret)))))⟩
/-- (*coroner/deque.Deque[string]).grow -/
def F_deque_Deque_string_grow : AFn := ⟨1, [],
 (.seq (.seq (.ops true [o 3 (.mv (t 0)), o 4 (.nilc (t 3)), o 5 (.faddr 2 (t 4)), o 6 (.load1 (t 5)), o 7 (.mv (t 0)), o 8 (.nilc (t 7)), o 9 (.faddr 0 (t 8)), o 10 (.load1 (t 9)), o 11 (.len 1 (t 10)), b 12 (.bin .lss (t 6) (t 11))])
 (.seq (.keep [0, 12])
 (.cond (t 12)
 .ret
 .skip)))
 (.seq (.keep [0])
 (.seq (.ops false [o 13 (.mv (t 0)), o 14 (.nilc (t 13)), o 15 (.faddr 2 (t 14)), o 16 (.load1 (t 15)), o 17 (.bin .mul (ci 2) (t 16)), o 18 (.max [(ci 4), (t 17)]), o 19 (.mkslice 1 16 [(.string ⟨#[]⟩)] (t 18) (t 18)), o 2 (.mv (t 19))])
 (.seq (.keep [0, 2])
 (.seq (.ops false [o 20 (.mv (t 2)), o 21 (.mv (t 0)), o 22 (.call (.func n_deque_Deque_string_List) [(t 21)]), o 23 (.copy 1 (t 20) (t 22))])
 (.ops false [o 24 (.mv (t 0)), o 25 (.mv (t 0)), o 26 (.mv (t 2)), o 27 (.nilc (t 24)), o 28 (.faddr 0 (t 27)), s (.store 1 (t 28) (t 26)), o 29 (.nilc (t 25)), o 30 (.faddr 1 (t 29)), s (.store 1 (t 30) (ci 0))]))))))⟩
/-- (*coroner/deque.Deque[string]).at -/
def F_deque_Deque_string_at : AFn := ⟨2, [.tmp 4],
 (.seq (.ops false [o 4 (.mv (ci 0))])
 (.seq (.ops true [o 5 (.mv (t 0)), o 6 (.nilc (t 5)), o 7 (.faddr 1 (t 6)), o 8 (.load1 (t 7)), o 9 (.mv (t 1)), o 10 (.bin .add (t 8) (t 9)), o 11 (.mv (t 0)), o 12 (.nilc (t 11)), o 13 (.faddr 0 (t 12)), o 14 (.load1 (t 13)), o 15 (.len 1 (t 14)), b 16 (.bin .rem (t 10) (t 15)), b 4 (.mv (t 16))])
 (.seq (.keep [4])
 .ret)))⟩
/-- (*coroner/pool.Pool[string]).ready$1 -/
def F_pool_Pool_string_ready_c1 : AFn := ⟨2, [],
 (.seq (.ops false [o 6 (.load1 (t 1)), o 7 (.call (.func n_pool_Pool_string_waiting) [(t 6)]), o 8 (.bin .gtr (t 7) (ci 0)), o 3 (.mv (t 8))])
 (.seq (.ops false [o 9 (.load1 (t 1)), o 10 (.nilc (t 9)), o 11 (.faddr 1 (t 10)), o 12 (.load1 (t 11)), o 13 (.len 1 (t 12)), o 14 (.mv (ci 0))])
 (.seq (.keep [0, 3, 12, 13, 14]) (.block 0 (.loop (.seq (.seq (.ops false [o 15 (.bin .lss (t 14) (t 13))])
 (.seq (.cond (t 15)
 .skip
 (.exit 0))
 (.seq (.block 1 (.seq (.ops false [o 16 (.mv (t 14)), o 17 (.iaddr 1 (t 12) (t 14)), o 18 (.load1 (t 17)), o 4 (.mv (t 16)), o 5 (.mv (t 18))])
 (.seq (.ops false [o 19 (.mv (t 5)), o 20 (.nilc (t 19)), o 21 (.faddr 4 (t 20)), o 22 (.load1 (t 21)), o 23 (.mv (t 22)), ⟨(some 24), .mv (t 3), some (23, false), false⟩, o 25 (.pick (t 23) (.const (.bool true)) (t 24)), o 26 (.mv (t 25)), ⟨(some 27), .mv (t 0), some (26, true), false⟩, ⟨(some 28), .mv (t 4), some (26, true), false⟩, ⟨(some 29), .call (t 27) [(t 28)], some (26, true), false⟩, ⟨(some 30), .un .not (t 29), some (26, true), false⟩, o 31 (.pick (t 26) (t 30) (.const (.bool false)))])
 (.seq (.keep [0, 3, 12, 13, 14, 31])
 (.cond (t 31)
 .ret
 .skip)))))
 (.seq (.keep [0, 3, 12, 13, 14])
 (.ops false [o 32 (.bin .add (t 14) (ci 1)), o 14 (.mv (t 32))]))))) (.keep [0, 3, 12, 13, 14])))))))⟩
/-- (*coroner/pool.Pool[string]).take -/
def F_pool_Pool_string_take : AFn := ⟨2, [],
 (.seq (.ops false [o 6 (.mv (t 0)), o 7 (.nilc (t 6)), o 8 (.faddr 1 (t 7)), o 9 (.load1 (t 8)), o 10 (.mv (t 1)), o 11 (.iaddr 1 (t 9) (t 10)), o 12 (.load1 (t 11)), o 4 (.mv (t 12))])
 (.seq (.keep [0, 1, 4])
 (.seq (.ops false [o 14 (.mv (t 4)), o 15 (.mv (t 4)), o 16 (.mv (t 4)), o 17 (.nilc (t 16)), o 18 (.faddr 0 (t 17)), o 19 (.call (.func n_deque_Deque_string_Pop) [(t 18)]), o 13 (.mv (t 19)), o 20 (.extract 0 (t 13)), o 21 (.extract 1 (t 13)), o 22 (.nilc (t 14)), o 23 (.faddr 3 (t 22)), s (.store 1 (t 23) (t 20)), o 24 (.nilc (t 15)), o 25 (.faddr 4 (t 24)), s (.store 1 (t 25) (t 21))])
 (.seq (.keep [0, 1, 4])
 (.seq (.ops false [o 5 (.mv (ci 1))])
 (.seq (.keep [0, 1, 4, 5]) (.block 0 (.loop (.seq (.seq (.seq (.ops false [o 26 (.mv (t 5)), o 27 (.mv (t 0)), o 28 (.nilc (t 27)), o 29 (.faddr 1 (t 28)), o 30 (.load1 (t 29)), o 31 (.len 1 (t 30)), o 32 (.bin .lss (t 26) (t 31)), o 33 (.mv (t 32)), ⟨(some 34), .mv (t 4), some (33, true), false⟩, ⟨(some 35), .nilc (t 34), some (33, true), false⟩, ⟨(some 36), .faddr 4 (t 35), some (33, true), false⟩, ⟨(some 37), .load1 (t 36), some (33, true), false⟩, ⟨(some 38), .un .not (t 37), some (33, true), false⟩, o 39 (.pick (t 33) (t 38) (.const (.bool false)))])
 (.seq (.keep [0, 1, 4, 5, 39])
 (.cond (t 39)
 .skip
 (.exit 0))))
 (.seq (.keep [0, 1, 4, 5])
 (.seq (.block 1 (.seq (.opsA [] (o 43 (.mv (t 4)) :: o 44 (.mv (t 4)) :: o 45 (.mv (t 0)) :: o 46 (.nilc (t 45)) :: o 47 (.faddr 1 (t 46)) :: o 48 (.load1 (t 47)) :: o 49 (.mv (t 1)) :: o 50 (.mv (t 5)) :: o 51 (.bin .add (t 49) (t 50)) :: o 52 (.mv (t 0)) :: o 53 (.nilc (t 52)) :: o 54 (.faddr 1 (t 53)) :: o 55 (.load1 (t 54)) :: o 56 (.len 1 (t 55)) :: o 57 (.bin .rem (t 51) (t 56)) :: o 58 (.iaddr 1 (t 48) (t 57)) :: o 59 (.load1 (t 58)) :: o 60 (.nilc (t 59)) :: o 61 (.faddr 0 (t 60)) :: b 62 (.call (.func n_deque_Deque_string_Steal) [(t 61)]) :: o 42 (.mv (t 62)) :: o 63 (.extract 0 (t 42)) :: o 64 (.extract 1 (t 42)) :: o 65 (.nilc (t 43)) :: o 66 (.faddr 3 (t 65)) :: sb (.store 1 (t 66) (t 63)) :: o 67 (.nilc (t 44)) :: o 68 (.faddr 4 (t 67)) :: sb (.store 1 (t 68) (t 64)) :: []))
 (.seq (.keep [0, 1, 4, 5])
 (.seq (.ops false [o 69 (.mv (t 4)), o 70 (.nilc (t 69)), o 71 (.faddr 4 (t 70)), o 72 (.load1 (t 71))])
 (.cond (t 72)
 (.ops false [o 73 (.mv (t 0)), o 74 (.nilc (t 73)), o 75 (.faddr 4 (t 74)), o 76 (.load1 (t 75)), o 77 (.bin .add (t 76) (ci 1)), o 78 (.nilc (t 73)), o 79 (.faddr 4 (t 78)), s (.store 1 (t 79) (t 77))])
 .skip)))))
 (.seq (.keep [0, 1, 4, 5])
 (.ops false [o 40 (.mv (t 5)), o 41 (.bin .add (t 40) (ci 1)), o 5 (.mv (t 41))]))))) (.keep [0, 1, 4, 5]))))))))))⟩
/-- (*coroner/deque.Deque[string]).Len -/
def F_deque_Deque_string_Len : AFn := ⟨1, [.tmp 2],
 (.seq (.ops false [o 2 (.mv (ci 0))])
 (.seq (.seq (.ops false [o 3 (.mv (t 0)), o 4 (.eqv 1 false (t 3) (.const (.pointer none)))])
 (.cond (t 4)
 (.seq (.ops false [o 2 (.mv (ci 0))])
 .ret)
 .skip))
 (.seq (.ops false [o 5 (.mv (t 0)), o 6 (.nilc (t 5)), o 7 (.faddr 2 (t 6)), o 8 (.load1 (t 7)), o 2 (.mv (t 8))])
 .ret)))⟩
/-- (*coroner/deque.Deque[int]).List -/
def F_deque_Deque_int_List : AFn := ⟨1, [.tmp 2],
 (.seq (.ops false [o 2 (.mv (.const (.slice none 0 0)))])
 (.seq (.ops false [o 3 (.alloc [(.slice none 0 0)])])
 (.seq (.seq (.ops false [o 5 (.mv (t 0)), o 6 (.call (.func n_deque_Deque_int_each) [(t 5)])])
 (.block 0 (.rfun (t 6) [7]
 (.ops false [o 4 (.mv (t 7))])
 (.block 1 (.ops false [o 8 (.load1 (t 3)), o 9 (.mv (t 4)), o 10 (.bslice 1 1 [(.int .i64 0)] [(0, (1, (t 9)))]), o 11 (.append 1 8 (t 8) (t 10)), s (.store 1 (t 3) (t 11))])))))
 (.seq (.keep [3])
 (.seq (.ops false [o 12 (.load1 (t 3)), o 2 (.mv (t 12))])
 .ret)))))⟩
/-- (*coroner/deque.Deque[int]).Pop -/
def F_deque_Deque_int_Pop : AFn := ⟨1, [.tmp 2, .tmp 3],
 (.seq (.ops false [o 2 (.mv (ci 0)), o 3 (.mv (.const (.bool false)))])
 (.seq (.ops false [o 4 (.mv (ci 0))])
 (.seq (.seq (.ops false [o 5 (.mv (t 0)), o 6 (.call (.func n_deque_Deque_int_Len) [(t 5)]), o 7 (.bin .eql (t 6) (ci 0))])
 (.cond (t 7)
 (.seq (.ops false [o 8 (.mv (t 4)), o 2 (.mv (t 8)), o 3 (.mv (.const (.bool false)))])
 .ret)
 .skip))
 (.seq (.ops false [o 9 (.mv (t 0)), o 10 (.mv (t 0)), o 11 (.nilc (t 10)), o 12 (.faddr 2 (t 11)), o 13 (.load1 (t 12)), o 14 (.bin .sub (t 13) (ci 1)), o 15 (.call (.func n_deque_Deque_int_take) [(t 9), (t 14)]), o 2 (.mv (t 15)), o 3 (.mv (.const (.bool true)))])
 (.seq (.keep [2, 3])
 .ret)))))⟩
/-- (*coroner/deque.Deque[int]).Steal -/
def F_deque_Deque_int_Steal : AFn := ⟨1, [.tmp 2, .tmp 3],
 (.seq (.ops false [o 2 (.mv (ci 0)), o 3 (.mv (.const (.bool false)))])
 (.seq (.ops false [o 4 (.mv (ci 0))])
 (.seq (.seq (.ops false [o 6 (.mv (t 0)), o 7 (.call (.func n_deque_Deque_int_Len) [(t 6)]), o 8 (.bin .eql (t 7) (ci 0))])
 (.cond (t 8)
 (.seq (.ops false [o 9 (.mv (t 4)), o 2 (.mv (t 9)), o 3 (.mv (.const (.bool false)))])
 .ret)
 .skip))
 (.seq (.ops false [o 10 (.mv (t 0)), o 11 (.call (.func n_deque_Deque_int_take) [(t 10), (ci 0)]), o 5 (.mv (t 11))])
 (.seq (.ops false [o 12 (.mv (t 0)), o 13 (.mv (t 0)), o 14 (.call (.func n_deque_Deque_int_at) [(t 13), (ci 1)]), o 15 (.nilc (t 12)), o 16 (.faddr 1 (t 15)), s (.store 1 (t 16) (t 14))])
 (.seq (.ops false [o 17 (.mv (t 5)), o 2 (.mv (t 17)), o 3 (.mv (.const (.bool true)))])
 .ret))))))⟩
/-- (*coroner/deque.Deque[string]).List -/
def F_deque_Deque_string_List : AFn := ⟨1, [.tmp 2],
 (.seq (.ops false [o 2 (.mv (.const (.slice none 0 0)))])
 (.seq (.ops false [o 3 (.alloc [(.slice none 0 0)])])
 (.seq (.seq (.ops false [o 5 (.mv (t 0)), o 6 (.call (.func n_deque_Deque_string_each) [(t 5)])])
 (.block 0 (.rfun (t 6) [7]
 (.ops false [o 4 (.mv (t 7))])
 (.block 1 (.ops false [o 8 (.load1 (t 3)), o 9 (.mv (t 4)), o 10 (.bslice 1 1 [(.string ⟨#[]⟩)] [(0, (1, (t 9)))]), o 11 (.append 1 16 (t 8) (t 10)), s (.store 1 (t 3) (t 11))])))))
 (.seq (.keep [3])
 (.seq (.ops false [o 12 (.load1 (t 3)), o 2 (.mv (t 12))])
 .ret)))))⟩
/-- (*coroner/deque.Deque[string]).Pop -/
def F_deque_Deque_string_Pop : AFn := ⟨1, [.tmp 2, .tmp 3],
 (.seq (.ops false [o 2 (.mv (.const (.string ⟨#[]⟩))), o 3 (.mv (.const (.bool false)))])
 (.seq (.ops false [o 4 (.mv (.const (.string ⟨#[]⟩)))])
 (.seq (.seq (.ops false [o 5 (.mv (t 0)), o 6 (.call (.func n_deque_Deque_string_Len) [(t 5)]), o 7 (.bin .eql (t 6) (ci 0))])
 (.cond (t 7)
 (.seq (.ops false [o 8 (.mv (t 4)), o 2 (.mv (t 8)), o 3 (.mv (.const (.bool false)))])
 .ret)
 .skip))
 (.seq (.ops false [o 9 (.mv (t 0)), o 10 (.mv (t 0)), o 11 (.nilc (t 10)), o 12 (.faddr 2 (t 11)), o 13 (.load1 (t 12)), o 14 (.bin .sub (t 13) (ci 1)), o 15 (.call (.func n_deque_Deque_string_take) [(t 9), (t 14)]), o 2 (.mv (t 15)), o 3 (.mv (.const (.bool true)))])
 (.seq (.keep [2, 3])
 .ret)))))⟩
/-- (*coroner/deque.Deque[string]).Steal -/
def F_deque_Deque_string_Steal : AFn := ⟨1, [.tmp 2, .tmp 3],
 (.seq (.ops false [o 2 (.mv (.const (.string ⟨#[]⟩))), o 3 (.mv (.const (.bool false)))])
 (.seq (.ops false [o 4 (.mv (.const (.string ⟨#[]⟩)))])
 (.seq (.seq (.ops false [o 6 (.mv (t 0)), o 7 (.call (.func n_deque_Deque_string_Len) [(t 6)]), o 8 (.bin .eql (t 7) (ci 0))])
 (.cond (t 8)
 (.seq (.ops false [o 9 (.mv (t 4)), o 2 (.mv (t 9)), o 3 (.mv (.const (.bool false)))])
 .ret)
 .skip))
 (.seq (.ops false [o 10 (.mv (t 0)), o 11 (.call (.func n_deque_Deque_string_take) [(t 10), (ci 0)]), o 5 (.mv (t 11))])
 (.seq (.ops false [o 12 (.mv (t 0)), o 13 (.mv (t 0)), o 14 (.call (.func n_deque_Deque_string_at) [(t 13), (ci 1)]), o 15 (.nilc (t 12)), o 16 (.faddr 1 (t 15)), s (.store 1 (t 16) (t 14))])
 (.seq (.ops false [o 17 (.mv (t 5)), o 2 (.mv (t 17)), o 3 (.mv (.const (.bool true)))])
 .ret))))))⟩
/-- (*coroner/deque.Deque[int]).each -/
def F_deque_Deque_int_each : AFn := ⟨1, [.tmp 2],
 (.seq (.ops false [o 1 (.box (t 0)), o 2 (.mv (.const .nilFunc))])
 (.seq (.ops false [o 3 (.mkf n_deque_Deque_int_each_c1 [] [(t 1)]), o 2 (.mv (t 3))])
 .ret))⟩
/-- (*coroner/deque.Deque[int]).take -/
def F_deque_Deque_int_take : AFn := ⟨2, [.tmp 4],
 (.seq (.ops false [o 4 (.mv (ci 0))])
 (.seq (.ops false [o 5 (.mv (ci 0))])
 (.seq (.ops false [o 8 (.mv (t 0)), o 9 (.mv (t 1)), o 10 (.call (.func n_deque_Deque_int_at) [(t 8), (t 9)]), o 6 (.mv (t 10))])
 (.seq (.ops false [o 11 (.mv (t 0)), o 12 (.nilc (t 11)), o 13 (.faddr 0 (t 12)), o 14 (.load1 (t 13)), o 15 (.mv (t 6)), o 16 (.iaddr 1 (t 14) (t 15)), o 17 (.load1 (t 16)), o 7 (.mv (t 17))])
 (.seq (.keep [0, 5, 6, 7])
 (.seq (.ops false [o 18 (.mv (t 0)), o 19 (.nilc (t 18)), o 20 (.faddr 0 (t 19)), o 21 (.load1 (t 20)), o 22 (.mv (t 6)), o 23 (.mv (t 5)), o 24 (.iaddr 1 (t 21) (t 22)), s (.store 1 (t 24) (t 23))])
 (.seq (.keep [0, 7])
 (.seq (.ops false [o 25 (.mv (t 0)), o 26 (.nilc (t 25)), o 27 (.faddr 2 (t 26)), o 28 (.load1 (t 27)), o 29 (.bin .sub (t 28) (ci 1)), o 30 (.nilc (t 25)), o 31 (.faddr 2 (t 30)), s (.store 1 (t 31) (t 29))])
 (.seq (.keep [7])
 (.seq (.ops false [o 32 (.mv (t 7)), o 4 (.mv (t 32))])
 .ret))))))))))⟩
/-- (*coroner/deque.Deque[string]).each -/
def F_deque_Deque_string_each : AFn := ⟨1, [.tmp 2],
 (.seq (.ops false [o 1 (.box (t 0)), o 2 (.mv (.const .nilFunc))])
 (.seq (.ops false [o 3 (.mkf n_deque_Deque_string_each_c1 [] [(t 1)]), o 2 (.mv (t 3))])
 .ret))⟩
/-- (*coroner/deque.Deque[string]).take -/
def F_deque_Deque_string_take : AFn := ⟨2, [.tmp 4],
 (.seq (.ops false [o 4 (.mv (.const (.string ⟨#[]⟩)))])
 (.seq (.ops false [o 5 (.mv (.const (.string ⟨#[]⟩)))])
 (.seq (.ops false [o 8 (.mv (t 0)), o 9 (.mv (t 1)), o 10 (.call (.func n_deque_Deque_string_at) [(t 8), (t 9)]), o 6 (.mv (t 10))])
 (.seq (.ops false [o 11 (.mv (t 0)), o 12 (.nilc (t 11)), o 13 (.faddr 0 (t 12)), o 14 (.load1 (t 13)), o 15 (.mv (t 6)), o 16 (.iaddr 1 (t 14) (t 15)), o 17 (.load1 (t 16)), o 7 (.mv (t 17))])
 (.seq (.keep [0, 5, 6, 7])
 (.seq (.ops false [o 18 (.mv (t 0)), o 19 (.nilc (t 18)), o 20 (.faddr 0 (t 19)), o 21 (.load1 (t 20)), o 22 (.mv (t 6)), o 23 (.mv (t 5)), o 24 (.iaddr 1 (t 21) (t 22)), s (.store 1 (t 24) (t 23))])
 (.seq (.keep [0, 7])
 (.seq (.ops false [o 25 (.mv (t 0)), o 26 (.nilc (t 25)), o 27 (.faddr 2 (t 26)), o 28 (.load1 (t 27)), o 29 (.bin .sub (t 28) (ci 1)), o 30 (.nilc (t 25)), o 31 (.faddr 2 (t 30)), s (.store 1 (t 31) (t 29))])
 (.seq (.keep [7])
 (.seq (.ops false [o 32 (.mv (t 7)), o 4 (.mv (t 32))])
 .ret))))))))))⟩
/-- (*coroner/deque.Deque[int]).each$1 -/
def F_deque_Deque_int_each_c1 : AFn := ⟨2, [],
 (.seq (.ops false [o 3 (.mv (ci 0))])
 (.seq (.keep [0, 1, 3]) (.block 0 (.loop (.seq (.seq (.seq (.ops true [o 4 (.mv (t 3)), o 5 (.load1 (t 1)), o 6 (.call (.func n_deque_Deque_int_Len) [(t 5)]), b 7 (.bin .lss (t 4) (t 6)), b 8 (.mv (t 7)), ⟨(some 9), .mv (t 0), some (8, true), false⟩, ⟨(some 10), .load1 (t 1), some (8, true), false⟩, ⟨(some 11), .nilc (t 10), some (8, true), false⟩, ⟨(some 12), .faddr 0 (t 11), some (8, true), false⟩, ⟨(some 13), .load1 (t 12), some (8, true), false⟩, ⟨(some 14), .load1 (t 1), some (8, true), false⟩, ⟨(some 15), .mv (t 3), some (8, true), false⟩, ⟨(some 16), .call (.func n_deque_Deque_int_at) [(t 14), (t 15)], some (8, true), false⟩, ⟨(some 17), .iaddr 1 (t 13) (t 16), some (8, true), false⟩, ⟨(some 18), .load1 (t 17), some (8, true), false⟩, ⟨(some 19), .call (t 9) [(t 18)], some (8, true), true⟩, b 20 (.pick (t 8) (t 19) (.const (.bool false)))])
 (.seq (.keep [0, 1, 3, 20])
 (.cond (t 20)
 .skip
 (.exit 0))))
 (.seq (.keep [0, 1, 3])
 (.seq (.block 1 (.exit 1))
 (.ops false [o 21 (.mv (t 3)), o 22 (.bin .add (t 21) (ci 1)), o 3 (.mv (t 22))])))) (.keep [0, 1, 3]))))))⟩
/-- (*coroner/deque.Deque[string]).each$1 -/
def F_deque_Deque_string_each_c1 : AFn := ⟨2, [],
 (.seq (.ops false [o 3 (.mv (ci 0))])
 (.seq (.keep [0, 1, 3]) (.block 0 (.loop (.seq (.seq (.seq (.ops true [o 4 (.mv (t 3)), o 5 (.load1 (t 1)), o 6 (.call (.func n_deque_Deque_string_Len) [(t 5)]), b 7 (.bin .lss (t 4) (t 6)), b 8 (.mv (t 7)), ⟨(some 9), .mv (t 0), some (8, true), false⟩, ⟨(some 10), .load1 (t 1), some (8, true), false⟩, ⟨(some 11), .nilc (t 10), some (8, true), false⟩, ⟨(some 12), .faddr 0 (t 11), some (8, true), false⟩, ⟨(some 13), .load1 (t 12), some (8, true), false⟩, ⟨(some 14), .load1 (t 1), some (8, true), false⟩, ⟨(some 15), .mv (t 3), some (8, true), false⟩, ⟨(some 16), .call (.func n_deque_Deque_string_at) [(t 14), (t 15)], some (8, true), false⟩, ⟨(some 17), .iaddr 1 (t 13) (t 16), some (8, true), false⟩, ⟨(some 18), .load1 (t 17), some (8, true), false⟩, ⟨(some 19), .call (t 9) [(t 18)], some (8, true), true⟩, b 20 (.pick (t 8) (t 19) (.const (.bool false)))])
 (.seq (.keep [0, 1, 3, 20])
 (.cond (t 20)
 .skip
 (.exit 0))))
 (.seq (.keep [0, 1, 3])
 (.seq (.block 1 (.exit 1))
 (.ops false [o 21 (.mv (t 3)), o 22 (.bin .add (t 21) (ci 1)), o 3 (.mv (t 22))])))) (.keep [0, 1, 3]))))))⟩
def tab1 : List (Nat × ADef) := [(n_l10_PoolAll, .code F_l10_PoolAll),
 (n_pool_New_int, .code F_pool_New_int),
 (n_r10_Few, .code F_r10_Few),
 (n_picks_New, .code F_picks_New),
 (n_pool_Pool_int_Add, .code F_pool_Pool_int_Add),
 (n_pool_Pool_int_Run, .code F_pool_Pool_int_Run),
 (n_pool_Pool_int_Who, .code F_pool_Pool_int_Who),
 (n_pool_Pool_int_Done, .code F_pool_Pool_int_Done),
 (n_pool_Pool_int_Left, .code F_pool_Pool_int_Left),
 (n_r10_Jobs, .code F_r10_Jobs),
 (n_picks_Script_Steps, .code F_picks_Script_Steps),
 (n_l10_PoolAll_c1, .code F_l10_PoolAll_c1),
 (n_r10_Of, .code F_r10_Of),
 (n_l10_times, .code F_l10_times),
 (n_r05_Of, .code F_r05_Of),
 (n_picks_Script_Step, .code F_picks_Script_Step),
 (n_slices_Clone_int_int, .code F_slices_Clone_int_int),
 (n_pool_Pool_int_is, .code F_pool_Pool_int_is),
 (n_deque_Deque_int_Push, .code F_deque_Deque_int_Push),
 (n_pool_Pool_int_ready, .code F_pool_Pool_int_ready),
 (n_pool_Pool_int_step, .code F_pool_Pool_int_step),
 (n_pool_Pool_int_waiting, .code F_pool_Pool_int_waiting),
 (n_picks_Script_is, .code F_picks_Script_is),
 (n_r05_Has, .code F_r05_Has),
 (n_sorted_Of_int, .code F_sorted_Of_int),
 (n_picks_Script_Cancelled, .code F_picks_Script_Cancelled),
 (n_sorted_Set_int_Len, .code F_sorted_Set_int_Len),
 (n_sorted_Set_int_List, .code F_sorted_Set_int_List),
 (n_picks_Script_choice, .code F_picks_Script_choice),
 (n_deque_Deque_int_grow, .code F_deque_Deque_int_grow),
 (n_deque_Deque_int_at, .code F_deque_Deque_int_at),
 (n_pool_Pool_int_ready_c1, .code F_pool_Pool_int_ready_c1),
 (n_pool_Pool_int_take, .code F_pool_Pool_int_take),
 (n_deque_Deque_int_Len, .code F_deque_Deque_int_Len),
 (n_slices_Compact_int_int, .code F_slices_Compact_int_int),
 (n_deque_Deque_int_List, .code F_deque_Deque_int_List),
 (n_deque_Deque_int_Pop, .code F_deque_Deque_int_Pop),
 (n_deque_Deque_int_Steal, .code F_deque_Deque_int_Steal),
 (n_deque_Deque_int_each, .code F_deque_Deque_int_each),
 (n_deque_Deque_int_take, .code F_deque_Deque_int_take),
 (n_deque_Deque_int_each_c1, .code F_deque_Deque_int_each_c1),
 (n_slices_Sort_int_int, .oracle sortO),
 (n_l10_works, .oracle (closedO (.bool true)))]
def prog1 : AProg := tabP tab1
theorem c_l10_PoolAll : prog1 n_l10_PoolAll = some (.code F_l10_PoolAll) := by kernel_rfl
theorem c_pool_New_int : prog1 n_pool_New_int = some (.code F_pool_New_int) := by kernel_rfl
theorem c_r10_Few : prog1 n_r10_Few = some (.code F_r10_Few) := by kernel_rfl
theorem c_picks_New : prog1 n_picks_New = some (.code F_picks_New) := by kernel_rfl
theorem c_pool_Pool_int_Add : prog1 n_pool_Pool_int_Add = some (.code F_pool_Pool_int_Add) := by kernel_rfl
theorem c_pool_Pool_int_Run : prog1 n_pool_Pool_int_Run = some (.code F_pool_Pool_int_Run) := by kernel_rfl
theorem c_pool_Pool_int_Who : prog1 n_pool_Pool_int_Who = some (.code F_pool_Pool_int_Who) := by kernel_rfl
theorem c_pool_Pool_int_Done : prog1 n_pool_Pool_int_Done = some (.code F_pool_Pool_int_Done) := by kernel_rfl
theorem c_pool_Pool_int_Left : prog1 n_pool_Pool_int_Left = some (.code F_pool_Pool_int_Left) := by kernel_rfl
theorem c_r10_Jobs : prog1 n_r10_Jobs = some (.code F_r10_Jobs) := by kernel_rfl
theorem c_picks_Script_Steps : prog1 n_picks_Script_Steps = some (.code F_picks_Script_Steps) := by kernel_rfl
theorem c_l10_PoolAll_c1 : prog1 n_l10_PoolAll_c1 = some (.code F_l10_PoolAll_c1) := by kernel_rfl
theorem c_r10_Of : prog1 n_r10_Of = some (.code F_r10_Of) := by kernel_rfl
theorem c_l10_times : prog1 n_l10_times = some (.code F_l10_times) := by kernel_rfl
theorem c_r05_Of : prog1 n_r05_Of = some (.code F_r05_Of) := by kernel_rfl
theorem c_picks_Script_Step : prog1 n_picks_Script_Step = some (.code F_picks_Script_Step) := by kernel_rfl
theorem c_slices_Clone_int_int : prog1 n_slices_Clone_int_int = some (.code F_slices_Clone_int_int) := by kernel_rfl
theorem c_pool_Pool_int_is : prog1 n_pool_Pool_int_is = some (.code F_pool_Pool_int_is) := by kernel_rfl
theorem c_deque_Deque_int_Push : prog1 n_deque_Deque_int_Push = some (.code F_deque_Deque_int_Push) := by kernel_rfl
theorem c_pool_Pool_int_ready : prog1 n_pool_Pool_int_ready = some (.code F_pool_Pool_int_ready) := by kernel_rfl
theorem c_pool_Pool_int_step : prog1 n_pool_Pool_int_step = some (.code F_pool_Pool_int_step) := by kernel_rfl
theorem c_pool_Pool_int_waiting : prog1 n_pool_Pool_int_waiting = some (.code F_pool_Pool_int_waiting) := by kernel_rfl
theorem c_picks_Script_is : prog1 n_picks_Script_is = some (.code F_picks_Script_is) := by kernel_rfl
theorem c_r05_Has : prog1 n_r05_Has = some (.code F_r05_Has) := by kernel_rfl
theorem c_sorted_Of_int : prog1 n_sorted_Of_int = some (.code F_sorted_Of_int) := by kernel_rfl
theorem c_picks_Script_Cancelled : prog1 n_picks_Script_Cancelled = some (.code F_picks_Script_Cancelled) := by kernel_rfl
theorem c_sorted_Set_int_Len : prog1 n_sorted_Set_int_Len = some (.code F_sorted_Set_int_Len) := by kernel_rfl
theorem c_sorted_Set_int_List : prog1 n_sorted_Set_int_List = some (.code F_sorted_Set_int_List) := by kernel_rfl
theorem c_picks_Script_choice : prog1 n_picks_Script_choice = some (.code F_picks_Script_choice) := by kernel_rfl
theorem c_deque_Deque_int_grow : prog1 n_deque_Deque_int_grow = some (.code F_deque_Deque_int_grow) := by kernel_rfl
theorem c_deque_Deque_int_at : prog1 n_deque_Deque_int_at = some (.code F_deque_Deque_int_at) := by kernel_rfl
theorem c_pool_Pool_int_ready_c1 : prog1 n_pool_Pool_int_ready_c1 = some (.code F_pool_Pool_int_ready_c1) := by kernel_rfl
theorem c_pool_Pool_int_take : prog1 n_pool_Pool_int_take = some (.code F_pool_Pool_int_take) := by kernel_rfl
theorem c_deque_Deque_int_Len : prog1 n_deque_Deque_int_Len = some (.code F_deque_Deque_int_Len) := by kernel_rfl
theorem c_slices_Compact_int_int : prog1 n_slices_Compact_int_int = some (.code F_slices_Compact_int_int) := by kernel_rfl
theorem c_deque_Deque_int_List : prog1 n_deque_Deque_int_List = some (.code F_deque_Deque_int_List) := by kernel_rfl
theorem c_deque_Deque_int_Pop : prog1 n_deque_Deque_int_Pop = some (.code F_deque_Deque_int_Pop) := by kernel_rfl
theorem c_deque_Deque_int_Steal : prog1 n_deque_Deque_int_Steal = some (.code F_deque_Deque_int_Steal) := by kernel_rfl
theorem c_deque_Deque_int_each : prog1 n_deque_Deque_int_each = some (.code F_deque_Deque_int_each) := by kernel_rfl
theorem c_deque_Deque_int_take : prog1 n_deque_Deque_int_take = some (.code F_deque_Deque_int_take) := by kernel_rfl
theorem c_deque_Deque_int_each_c1 : prog1 n_deque_Deque_int_each_c1 = some (.code F_deque_Deque_int_each_c1) := by kernel_rfl
theorem c_slices_Sort_int_int : prog1 n_slices_Sort_int_int = some (.oracle sortO) := by kernel_rfl
theorem c_l10_works : prog1 n_l10_works = some (.oracle (closedO (.bool true))) := by kernel_rfl
def tab0 : List (Nat × ADef) := [(n_l10_works, .code F_l10_works),
 (n_r01_Same, .code F_r01_Same),
 (n_pool_Pool_string_Who, .code F_pool_Pool_string_Who),
 (n_slices_Clone_int_int, .code F_slices_Clone_int_int),
 (n_pool_Pool_string_is, .code F_pool_Pool_string_is),
 (n_pool_Pool_string_Left, .code F_pool_Pool_string_Left),
 (n_pool_Pool_string_waiting, .code F_pool_Pool_string_waiting),
 (n_deque_Deque_string_Len, .code F_deque_Deque_string_Len),
 (n_pool_Pool_string_Stolen, .code F_pool_Pool_string_Stolen),
 (n_pool_Pool_string_Done, .code F_pool_Pool_string_Done),
 (n_pool_Pool_string_Run, .code F_pool_Pool_string_Run),
 (n_pool_Pool_string_step, .code F_pool_Pool_string_step),
 (n_deque_Deque_string_Push, .code F_deque_Deque_string_Push),
 (n_deque_Deque_string_at, .code F_deque_Deque_string_at),
 (n_deque_Deque_string_grow, .code F_deque_Deque_string_grow),
 (n_deque_Deque_string_List, .code F_deque_Deque_string_List),
 (n_deque_Deque_string_each, .code F_deque_Deque_string_each),
 (n_deque_Deque_string_each_c1, .code F_deque_Deque_string_each_c1),
 (n_pool_Pool_string_take, .code F_pool_Pool_string_take),
 (n_deque_Deque_string_Steal, .code F_deque_Deque_string_Steal),
 (n_deque_Deque_string_take, .code F_deque_Deque_string_take),
 (n_deque_Deque_string_Pop, .code F_deque_Deque_string_Pop),
 (n_picks_Script_Step, .code F_picks_Script_Step),
 (n_picks_Script_choice, .code F_picks_Script_choice),
 (n_sorted_Set_int_List, .code F_sorted_Set_int_List),
 (n_sorted_Set_int_Len, .code F_sorted_Set_int_Len),
 (n_picks_Script_Cancelled, .code F_picks_Script_Cancelled),
 (n_picks_Script_is, .code F_picks_Script_is),
 (n_sorted_Of_int, .code F_sorted_Of_int),
 (n_slices_Compact_int_int, .code F_slices_Compact_int_int),
 (n_pool_Pool_string_ready, .code F_pool_Pool_string_ready),
 (n_pool_Pool_string_ready_c1, .code F_pool_Pool_string_ready_c1),
 (n_pool_Pool_string_Add, .code F_pool_Pool_string_Add),
 (n_pool_New_string, .code F_pool_New_string),
 (n_picks_New, .code F_picks_New),
 (n_slices_Sort_int_int, .oracle sortOI)]
end Go.AMS
