/- The code of the functions that the law runs, as the abstract machine reads it. -/
import Derived.Test.YtjnipkbnmbnfpaaAmSepP
import Derived.Test.YtjnipkbnmbnfpaaAmSepO
import Derived.Test.YtjnipkbnmbnfpaaAmSepK
import Derived.Test.YtjnipkbnmbnfpaaAmSepB
import Derived.Test.YtjnipkbnmbnfpaaAmSort
import Derived.Test.YtjnipkbnmbnfpaaAmSortI
namespace Go.AMS
open Go.AM hiding Kt At WP WL Runs RunsY
open C
set_option maxRecDepth 100000
set_option linter.unusedVariables false
def n_l10_PoolPlays : Nat := 4
def n_pool_New_int : Nat := 14
def n_l10_works : Nat := 16
def n_r10_Few : Nat := 17
def n_picks_New : Nat := 18
def n_r10_New : Nat := 19
def n_pool_Pool_int_Add : Nat := 20
def n_pool_Pool_int_Run : Nat := 21
def n_l10_halves : Nat := 22
def n_r10_Run : Nat := 23
def n_r10_Add : Nat := 24
def n_r01_Same : Nat := 25
def n_pool_Pool_int_Who : Nat := 26
def n_pool_Pool_int_Done : Nat := 27
def n_pool_Pool_int_Stolen : Nat := 28
def n_pool_Pool_int_Left : Nat := 29
def n_r10_Jobs : Nat := 30
def n_l10_born : Nat := 31
def n_picks_Script_Steps : Nat := 32
def n_r10_Of : Nat := 34
def n_r05_Of : Nat := 47
def n_picks_Script_Step : Nat := 59
def n_pool_New_string : Nat := 60
def n_pool_Pool_string_Add : Nat := 61
def n_pool_Pool_string_Run : Nat := 62
def n_pool_Pool_string_Done : Nat := 63
def n_pool_Pool_string_Stolen : Nat := 64
def n_pool_Pool_string_Left : Nat := 65
def n_pool_Pool_string_Who : Nat := 66
def n_slices_Clone_int_int : Nat := 67
def n_pool_Pool_int_is : Nat := 68
def n_deque_Deque_int_Push : Nat := 69
def n_pool_Pool_int_ready : Nat := 70
def n_pool_Pool_int_step : Nat := 71
def n_r10_ready : Nat := 72
def n_r09_Step : Nat := 73
def n_r10_step : Nat := 74
def n_r10_push : Nat := 75
def n_pool_Pool_int_waiting : Nat := 76
def n_picks_Script_is : Nat := 77
def n_r05_Has : Nat := 91
def n_sorted_Of_int : Nat := 103
def n_picks_Script_Cancelled : Nat := 104
def n_sorted_Set_int_Len : Nat := 105
def n_sorted_Set_int_List : Nat := 106
def n_picks_Script_choice : Nat := 107
def n_pool_Pool_string_is : Nat := 108
def n_deque_Deque_string_Push : Nat := 109
def n_pool_Pool_string_ready : Nat := 110
def n_pool_Pool_string_step : Nat := 111
def n_pool_Pool_string_waiting : Nat := 112
def n_deque_Deque_int_grow : Nat := 113
def n_deque_Deque_int_at : Nat := 114
def n_pool_Pool_int_ready_c1 : Nat := 115
def n_pool_Pool_int_take : Nat := 116
def n_r09_Cancelled : Nat := 117
def n_r10_hold : Nat := 118
def n_r10_take : Nat := 119
def n_deque_Deque_int_Len : Nat := 120
def n_slices_Sort_int_int : Nat := 138
def n_slices_Compact_int_int : Nat := 139
def n_deque_Deque_string_grow : Nat := 140
def n_deque_Deque_string_at : Nat := 141
def n_pool_Pool_string_ready_c1 : Nat := 142
def n_pool_Pool_string_take : Nat := 143
def n_deque_Deque_string_Len : Nat := 144
def n_deque_Deque_int_List : Nat := 145
def n_deque_Deque_int_Pop : Nat := 146
def n_deque_Deque_int_Steal : Nat := 147
def n_deque_Deque_string_List : Nat := 158
def n_deque_Deque_string_Pop : Nat := 159
def n_deque_Deque_string_Steal : Nat := 160
def n_deque_Deque_int_each : Nat := 161
def n_deque_Deque_int_take : Nat := 162
def n_deque_Deque_string_each : Nat := 175
def n_deque_Deque_string_take : Nat := 176
def n_deque_Deque_int_each_c1 : Nat := 177
def n_deque_Deque_string_each_c1 : Nat := 184
/-- coroner/coronerlaw10.PoolPlays -/
def F_l10_PoolPlays : AFn := ⟨4, [.tmp 8],
 (.seq (.ops false [o 8 (.mv (.const (.bool false)))])
 (.seq (.seq (.ops false [o 17 (.mv (t 1)), o 18 (.len 1 (t 17)), o 19 (.bin .gtr (t 18) (ci 300)), o 20 (.mv (t 19)), ⟨(some 21), .mv (t 3), some (20, false), false⟩, ⟨(some 22), .call (.func n_r10_Few) [(t 21)], some (20, false), false⟩, ⟨(some 23), .un .not (t 22), some (20, false), false⟩, o 24 (.pick (t 20) (.const (.bool true)) (t 23))])
 (.seq (.keep [0, 1, 2, 3, 24])
 (.cond (t 24)
 (.seq (.ops false [o 25 (.call (.func n_l10_works) []), o 8 (.mv (t 25))])
 .ret)
 .skip)))
 (.seq (.keep [0, 1, 2, 3])
 (.seq (.ops false [o 26 (.mv (t 1)), o 27 (.mv (t 2)), o 28 (.call (.func n_picks_New) [(t 26), (t 27)]), o 9 (.mv (t 28))])
 (.seq (.ops false [o 30 (.mv (t 0)), o 31 (.mv (t 9)), o 32 (.call (.func n_pool_New_int) [(t 30), (t 31)]), o 29 (.mv (t 32)), o 33 (.extract 0 (t 29)), o 34 (.extract 1 (t 29)), o 10 (.mv (t 33)), o 11 (.mv (t 34))])
 (.seq (.keep [0, 1, 2, 3, 9, 10, 11])
 (.seq (.ops false [o 36 (.mv (t 0)), o 37 (.mv (t 1)), o 38 (.mv (t 2)), o 39 (.build [(.slice none 0 0), (.int .i64 0), (.int .i64 0), (.int .i64 0)] [(0, (1, (t 37))), (1, (1, (t 38)))]), o 40 (.call (.func n_r10_New) [(t 36), (t 39)]), o 35 (.mv (t 40)), o 41 (.extract 0 (t 35)), o 42 (.extract 1 (t 35)), o 12 (.alloc [(.slice none 0 0), (.int .i64 0), (.int .i64 0), (.int .i64 0), (.slice none 0 0), (.slice none 0 0), (.slice none 0 0), (.slice none 0 0), (.int .i64 0), (.int .i64 0), (.slice none 0 0)]), s (.store 11 (t 12) (t 41)), o 13 (.mv (t 42))])
 (.seq (.keep [3, 9, 10, 11, 12, 13])
 (.seq (.seq (.ops false [o 43 (.mv (t 11)), o 44 (.mv (t 13)), o 45 (.bin .neq (t 43) (t 44))])
 (.cond (t 45)
 (.seq (.ops false [o 8 (.mv (.const (.bool false)))])
 .ret)
 .skip))
 (.seq (.seq (.ops false [o 46 (.mv (t 11)), o 47 (.bin .neq (t 46) (ci 0))])
 (.cond (t 47)
 (.seq (.ops false [o 48 (.mv (t 10)), o 49 (.eqv 1 false (t 48) (.const (.pointer none))), o 50 (.mv (t 49)), ⟨(some 51), .call (.func n_l10_works) [], some (50, true), false⟩, o 52 (.pick (t 50) (t 51) (.const (.bool false))), o 8 (.mv (t 52))])
 .ret)
 .skip))
 (.seq (.keep [3, 9, 10, 12])
 (.seq (.ops false [o 53 (.mv (t 10)), o 54 (.mv (t 3)), o 55 (.call (.func n_pool_Pool_int_Add) [(t 53), (t 54)])])
 (.seq (.ops false [o 56 (.mv (t 10)), o 57 (.call (.func n_pool_Pool_int_Run) [(t 56), (.func n_l10_halves)]), o 14 (.mv (t 57))])
 (.seq (.ops false [o 59 (.loadN 11 (t 12)), o 60 (.mv (t 3)), o 61 (.call (.func n_r10_Add) [(t 59), (t 60)]), o 62 (.call (.func n_r10_Run) [(t 61), (ci 2000)]), o 58 (.mv (t 62)), o 63 (.extract 0 (t 58)), o 64 (.extract 1 (t 58)), o 15 (.alloc [(.slice none 0 0), (.int .i64 0), (.int .i64 0), (.int .i64 0), (.slice none 0 0), (.slice none 0 0), (.slice none 0 0), (.slice none 0 0), (.int .i64 0), (.int .i64 0), (.slice none 0 0)]), s (.store 11 (t 15) (t 63)), o 16 (.mv (t 64))])
 (.seq (.keep [3, 9, 10, 14, 15, 16])
 (.seq (.ops true (o 65 (.mv (t 14)) :: o 66 (.mv (t 16)) :: b 67 (.bin .eql (t 65) (t 66)) :: b 68 (.mv (t 67)) :: ⟨(some 69), .mv (t 10), some (68, true), false⟩ :: ⟨(some 70), .call (.func n_pool_Pool_int_Who) [(t 69)], some (68, true), false⟩ :: ⟨(some 71), .faddr 10 (t 15), some (68, true), false⟩ :: ⟨(some 72), .load1 (t 71), some (68, true), false⟩ :: ⟨(some 73), .call (.func n_r01_Same) [(t 70), (t 72)], some (68, true), true⟩ :: b 74 (.pick (t 68) (t 73) (.const (.bool false))) :: b 75 (.mv (t 74)) :: ⟨(some 76), .mv (t 10), some (75, true), false⟩ :: ⟨(some 77), .call (.func n_pool_Pool_int_Done) [(t 76)], some (75, true), false⟩ :: ⟨(some 78), .faddr 7 (t 15), some (75, true), false⟩ :: ⟨(some 79), .load1 (t 78), some (75, true), false⟩ :: ⟨(some 80), .len 1 (t 79), some (75, true), false⟩ :: ⟨(some 81), .bin .eql (t 77) (t 80), some (75, true), true⟩ :: b 82 (.pick (t 75) (t 81) (.const (.bool false))) :: b 83 (.mv (t 82)) :: ⟨(some 84), .mv (t 10), some (83, true), false⟩ :: ⟨(some 85), .call (.func n_pool_Pool_int_Stolen) [(t 84)], some (83, true), false⟩ :: ⟨(some 86), .faddr 8 (t 15), some (83, true), false⟩ :: ⟨(some 87), .load1 (t 86), some (83, true), false⟩ :: ⟨(some 88), .bin .eql (t 85) (t 87), some (83, true), true⟩ :: b 89 (.pick (t 83) (t 88) (.const (.bool false))) :: b 90 (.mv (t 89)) :: ⟨(some 91), .mv (t 10), some (90, true), false⟩ :: ⟨(some 92), .call (.func n_pool_Pool_int_Left) [(t 91)], some (90, true), false⟩ :: ⟨(some 93), .mv (t 3), some (90, true), false⟩ :: ⟨(some 94), .call (.func n_r10_Jobs) [(t 93)], some (90, true), false⟩ :: ⟨(some 95), .call (.func n_r10_Jobs) [(.const (.slice none 0 0))], some (90, true), false⟩ :: ⟨(some 96), .bin .sub (t 94) (t 95), some (90, true), false⟩ :: ⟨(some 97), .faddr 7 (t 15), some (90, true), false⟩ :: ⟨(some 98), .load1 (t 97), some (90, true), false⟩ :: ⟨(some 99), .len 1 (t 98), some (90, true), false⟩ :: ⟨(some 100), .bin .sub (t 96) (t 99), some (90, true), false⟩ :: ⟨(some 101), .loadN 11 (t 15), some (90, true), false⟩ :: ⟨(some 102), .call (.func n_l10_born) [(t 101)], some (90, true), false⟩ :: ⟨(some 103), .bin .sub (t 100) (t 102), some (90, true), true⟩ :: ⟨(some 104), .bin .eql (t 92) (t 103), some (90, true), true⟩ :: b 105 (.pick (t 90) (t 104) (.const (.bool false))) :: b 106 (.mv (t 105)) :: ⟨(some 107), .mv (t 9), some (106, true), false⟩ :: ⟨(some 108), .call (.func n_picks_Script_Steps) [(t 107)], some (106, true), false⟩ :: ⟨(some 109), .faddr 0 (t 15), some (106, true), false⟩ :: ⟨(some 110), .faddr 2 (t 109), some (106, true), false⟩ :: ⟨(some 111), .load1 (t 110), some (106, true), false⟩ :: ⟨(some 112), .bin .eql (t 108) (t 111), some (106, true), true⟩ :: b 113 (.pick (t 106) (t 112) (.const (.bool false))) :: b 114 (.mv (t 113)) :: ⟨(some 115), .call (.func n_l10_works) [], some (114, true), true⟩ :: b 116 (.pick (t 114) (t 115) (.const (.bool false))) :: b 8 (.mv (t 116)) :: []))
 (.seq (.keep [8])
 .ret)))))))))))))))))⟩
/-- coroner/coronerlaw10.works -/
def F_l10_works : AFn := ⟨0, [.tmp 0],
 (.seq (.ops false [o 0 (.mv (.const (.bool false)))])
 (.seq (.ops false [o 7 (.call (.func n_picks_New) [(.const (.slice none 0 0)), (ci (-1))]), o 8 (.call (.func n_pool_New_string) [(ci 2), (t 7)]), o 6 (.mv (t 8)), o 9 (.extract 0 (t 6)), o 10 (.extract 1 (t 6)), o 1 (.mv (t 9)), o 2 (.mv (t 10))])
 (.seq (.keep [1, 2])
 (.seq (.ops false [o 11 (.mv (t 1)), o 12 (.bslice 1 2 [(.string ⟨#[]⟩), (.string ⟨#[]⟩)] [(0, (1, (.const (.string ⟨#[97]⟩)))), (1, (1, (.const (.string ⟨#[98]⟩))))]), o 13 (.call (.func n_pool_Pool_string_Add) [(t 11), (t 12)])])
 (.seq (.ops false [o 14 (.mv (t 1)), o 15 (.call (.func n_pool_Pool_string_Run) [(t 14), (.const .nilFunc)]), o 3 (.mv (t 15))])
 (.seq (.ops false [o 17 (.call (.func n_picks_New) [(.const (.slice none 0 0)), (ci (-1))]), o 18 (.call (.func n_pool_New_string) [(ci 0), (t 17)]), o 16 (.mv (t 18)), o 19 (.extract 0 (t 16)), o 20 (.extract 1 (t 16)), o 4 (.mv (t 19)), o 5 (.mv (t 20))])
 (.seq (.keep [1, 2, 3, 5])
 (.seq (.ops false (o 21 (.mv (t 2)) :: o 22 (.bin .eql (t 21) (ci 0)) :: o 23 (.mv (t 22)) :: ⟨(some 24), .mv (t 3), some (23, true), false⟩ :: ⟨(some 25), .bin .eql (t 24) (ci 0), some (23, true), false⟩ :: o 26 (.pick (t 23) (t 25) (.const (.bool false))) :: o 27 (.mv (t 26)) :: ⟨(some 28), .mv (t 1), some (27, true), false⟩ :: ⟨(some 29), .call (.func n_pool_Pool_string_Done) [(t 28)], some (27, true), false⟩ :: ⟨(some 30), .bin .eql (t 29) (ci 2), some (27, true), false⟩ :: o 31 (.pick (t 27) (t 30) (.const (.bool false))) :: o 32 (.mv (t 31)) :: ⟨(some 33), .mv (t 1), some (32, true), false⟩ :: ⟨(some 34), .call (.func n_pool_Pool_string_Stolen) [(t 33)], some (32, true), false⟩ :: ⟨(some 35), .bin .eql (t 34) (ci 1), some (32, true), false⟩ :: o 36 (.pick (t 32) (t 35) (.const (.bool false))) :: o 37 (.mv (t 36)) :: ⟨(some 38), .mv (t 1), some (37, true), false⟩ :: ⟨(some 39), .call (.func n_pool_Pool_string_Left) [(t 38)], some (37, true), false⟩ :: ⟨(some 40), .bin .eql (t 39) (ci 0), some (37, true), false⟩ :: o 41 (.pick (t 37) (t 40) (.const (.bool false))) :: o 42 (.mv (t 41)) :: ⟨(some 43), .mv (t 1), some (42, true), false⟩ :: ⟨(some 44), .call (.func n_pool_Pool_string_Who) [(t 43)], some (42, true), false⟩ :: ⟨(some 45), .bslice 1 4 [(.int .i64 0), (.int .i64 0), (.int .i64 0), (.int .i64 0)] [(0, (1, (ci 0))), (1, (1, (ci 0))), (2, (1, (ci 0))), (3, (1, (ci 0)))], some (42, true), false⟩ :: ⟨(some 46), .call (.func n_r01_Same) [(t 44), (t 45)], some (42, true), false⟩ :: o 47 (.pick (t 42) (t 46) (.const (.bool false))) :: o 48 (.mv (t 47)) :: ⟨(some 49), .mv (t 5), some (48, true), false⟩ :: ⟨(some 50), .bin .eql (t 49) (ci 7), some (48, true), false⟩ :: o 51 (.pick (t 48) (t 50) (.const (.bool false))) :: o 0 (.mv (t 51)) :: []))
 (.seq (.keep [0])
 .ret)))))))))⟩
/-- (*coroner/pool.Pool[int]).Add -/
def F_pool_Pool_int_Add : AFn := ⟨2, [],
 (.seq (.seq (.ops false [o 6 (.mv (t 0)), o 7 (.call (.func n_pool_Pool_int_is) [(t 6)]), o 8 (.un .not (t 7))])
 (.cond (t 8)
 .ret
 .skip))
 (.seq (.ops false [o 9 (.mv (t 1)), o 10 (.len 1 (t 9)), o 11 (.mv (ci 0))])
 (.seq (.keep [0, 9, 10, 11]) (.block 0 (.loop (.seq (.seq (.ops false [o 12 (.bin .lss (t 11) (t 10))])
 (.seq (.cond (t 12)
 .skip
 (.exit 0))
 (.seq (.block 1 (.seq (.ops false [o 13 (.iaddr 1 (t 9) (t 11)), o 14 (.load1 (t 13)), o 5 (.mv (t 14))])
 (.seq (.ops true [o 15 (.mv (t 0)), o 16 (.nilc (t 15)), o 17 (.faddr 1 (t 16)), o 18 (.load1 (t 17)), o 19 (.mv (t 0)), o 20 (.nilc (t 19)), o 21 (.faddr 2 (t 20)), o 22 (.load1 (t 21)), o 23 (.iaddr 1 (t 18) (t 22)), o 24 (.load1 (t 23)), o 25 (.nilc (t 24)), o 26 (.faddr 0 (t 25)), o 27 (.mv (t 5)), b 28 (.call (.func n_deque_Deque_int_Push) [(t 26), (t 27)])])
 (.seq (.keep [0, 9, 10, 11])
 (.ops true [o 29 (.mv (t 0)), o 30 (.mv (t 0)), o 31 (.nilc (t 30)), o 32 (.faddr 2 (t 31)), o 33 (.load1 (t 32)), o 34 (.bin .add (t 33) (ci 1)), o 35 (.mv (t 0)), o 36 (.nilc (t 35)), o 37 (.faddr 1 (t 36)), o 38 (.load1 (t 37)), o 39 (.len 1 (t 38)), o 40 (.bin .rem (t 34) (t 39)), b 41 (.nilc (t 29)), b 42 (.faddr 2 (t 41)), sb (.store 1 (t 42) (t 40))])))))
 (.seq (.keep [0, 9, 10, 11])
 (.ops false [o 43 (.bin .add (t 11) (ci 1)), o 11 (.mv (t 43))]))))) (.keep [0, 9, 10, 11])))))))⟩
/-- coroner/coronerref10.Add -/
def F_r10_Add : AFn := ⟨2, [.cellN 4 11],
 (.seq (.ops false [o 2 (.box (t 0)), o 4 (.alloc [(.slice none 0 0), (.int .i64 0), (.int .i64 0), (.int .i64 0), (.slice none 0 0), (.slice none 0 0), (.slice none 0 0), (.slice none 0 0), (.int .i64 0), (.int .i64 0), (.slice none 0 0)])])
 (.seq (.seq (.ops false [o 5 (.mv (ci 0))])
 (.seq (.keep [1, 2, 4, 5]) (.block 0 (.loop (.seq (.seq (.seq (.ops false [o 6 (.mv (t 5)), o 7 (.mv (t 1)), o 8 (.len 1 (t 7)), o 9 (.bin .lss (t 6) (t 8))])
 (.cond (t 9)
 .skip
 (.exit 0)))
 (.seq (.block 1 (.seq (.ops true [o 12 (.loadN 11 (t 2)), o 13 (.faddr 9 (t 2)), o 14 (.load1 (t 13)), o 15 (.mv (t 1)), o 16 (.mv (t 5)), o 17 (.iaddr 1 (t 15) (t 16)), o 18 (.load1 (t 17)), b 19 (.call (.func n_r10_push) [(t 12), (t 14), (t 18)]), sb (.store 11 (t 2) (t 19))])
 (.seq (.keep [1, 2, 4, 5])
 (.ops false [o 20 (.faddr 9 (t 2)), o 21 (.load1 (t 20)), o 22 (.bin .add (t 21) (ci 1)), o 23 (.faddr 4 (t 2)), o 24 (.load1 (t 23)), o 25 (.len 1 (t 24)), o 26 (.bin .rem (t 22) (t 25)), o 27 (.faddr 9 (t 2)), s (.store 1 (t 27) (t 26))]))))
 (.seq (.keep [1, 2, 4, 5])
 (.ops false [o 10 (.mv (t 5)), o 11 (.bin .add (t 10) (ci 1)), o 5 (.mv (t 11))])))) (.keep [1, 2, 4, 5]))))))
 (.seq (.keep [2, 4])
 (.seq (.ops false [o 28 (.loadN 11 (t 2)), s (.store 11 (t 4) (t 28))])
 .ret))))⟩
/-- (*coroner/pool.Pool[int]).Stolen -/
def F_pool_Pool_int_Stolen : AFn := ⟨1, [.tmp 2],
 (.seq (.ops false [o 2 (.mv (ci 0))])
 (.seq (.seq (.ops false [o 3 (.mv (t 0)), o 4 (.call (.func n_pool_Pool_int_is) [(t 3)]), o 5 (.un .not (t 4))])
 (.cond (t 5)
 (.seq (.ops false [o 2 (.mv (ci 0))])
 .ret)
 .skip))
 (.seq (.ops false [o 6 (.mv (t 0)), o 7 (.nilc (t 6)), o 8 (.faddr 4 (t 7)), o 9 (.load1 (t 8)), o 2 (.mv (t 9))])
 .ret)))⟩
/-- (*coroner/picks.Script).Steps -/
def F_picks_Script_Steps : AFn := ⟨1, [.tmp 2],
 (.seq (.ops false [o 2 (.mv (ci 0))])
 (.seq (.seq (.ops false [o 3 (.mv (t 0)), o 4 (.call (.func n_picks_Script_is) [(t 3)]), o 5 (.un .not (t 4))])
 (.cond (t 5)
 (.seq (.ops false [o 2 (.mv (ci 0))])
 .ret)
 .skip))
 (.seq (.ops false [o 6 (.mv (t 0)), o 7 (.nilc (t 6)), o 8 (.faddr 3 (t 7)), o 9 (.load1 (t 8)), o 2 (.mv (t 9))])
 .ret)))⟩
/-- coroner/pool.New[string] -/
def F_pool_New_string : AFn := ⟨2, [.tmp 4, .tmp 5],
 (.seq (.ops false [o 4 (.mv (.const (.pointer none))), o 5 (.mv (ci 0))])
 (.seq (.seq (.ops false [o 9 (.mv (t 0)), o 10 (.bin .lss (t 9) (ci 1)), o 11 (.mv (t 10)), ⟨(some 12), .mv (t 0), some (11, false), false⟩, ⟨(some 13), .bin .gtr (t 12) (ci 64), some (11, false), false⟩, o 14 (.pick (t 11) (.const (.bool true)) (t 13))])
 (.cond (t 14)
 (.seq (.ops false [o 4 (.mv (.const (.pointer none))), o 5 (.mv (ci 7))])
 .ret)
 .skip))
 (.seq (.keep [0, 1])
 (.seq (.seq (.ops false [o 16 (.mv (t 1)), o 17 (.call (.func n_picks_Script_Step) [(t 16), (.const (.slice none 0 0))]), o 15 (.mv (t 17)), o 18 (.extract 0 (t 15)), o 19 (.extract 1 (t 15)), o 6 (.mv (t 18)), o 7 (.mv (t 19))])
 (.seq (.keep [0, 1, 7])
 (.seq (.ops false [o 20 (.mv (t 7)), o 21 (.bin .eql (t 20) (ci 1))])
 (.cond (t 21)
 (.seq (.ops false [o 22 (.mv (t 7)), o 4 (.mv (.const (.pointer none))), o 5 (.mv (t 22))])
 .ret)
 .skip))))
 (.seq (.keep [0, 1])
 (.seq (.ops false [o 23 (.mv (t 1)), o 24 (.build [(.pointer none), (.slice none 0 0), (.int .i64 0), (.int .i64 0), (.int .i64 0), (.slice none 0 0)] [(0, (1, (t 23)))]), o 25 (.box (t 24)), o 8 (.mv (t 25))])
 (.seq (.seq (.ops false [o 26 (.mv (t 0)), o 27 (.mv (ci 0))])
 (.seq (.keep [8, 26, 27]) (.block 0 (.loop (.seq (.seq (.ops false [o 28 (.bin .lss (t 27) (t 26))])
 (.seq (.cond (t 28)
 .skip
 (.exit 0))
 (.seq (.block 1 (.ops false [o 29 (.mv (t 8)), o 30 (.mv (t 8)), o 31 (.nilc (t 30)), o 32 (.faddr 1 (t 31)), o 33 (.load1 (t 32)), o 34 (.build [(.slice none 0 0), (.int .i64 0), (.int .i64 0), (.string ⟨#[]⟩), (.bool false)] []), o 35 (.box (t 34)), o 36 (.bslice 1 1 [(.pointer none)] [(0, (1, (t 35)))]), o 37 (.append 1 8 (t 33) (t 36)), o 38 (.nilc (t 29)), o 39 (.faddr 1 (t 38)), s (.store 1 (t 39) (t 37))]))
 (.seq (.keep [8, 26, 27])
 (.ops false [o 40 (.bin .add (t 27) (ci 1)), o 27 (.mv (t 40))]))))) (.keep [8, 26, 27]))))))
 (.seq (.keep [8])
 (.seq (.ops false [o 41 (.mv (t 8)), o 4 (.mv (t 41)), o 5 (.mv (ci 0))])
 .ret)))))))))⟩
/-- (*coroner/pool.Pool[string]).Stolen -/
def F_pool_Pool_string_Stolen : AFn := ⟨1, [.tmp 2],
 (.seq (.ops false [o 2 (.mv (ci 0))])
 (.seq (.seq (.ops false [o 3 (.mv (t 0)), o 4 (.call (.func n_pool_Pool_string_is) [(t 3)]), o 5 (.un .not (t 4))])
 (.cond (t 5)
 (.seq (.ops false [o 2 (.mv (ci 0))])
 .ret)
 .skip))
 (.seq (.ops false [o 6 (.mv (t 0)), o 7 (.nilc (t 6)), o 8 (.faddr 4 (t 7)), o 9 (.load1 (t 8)), o 2 (.mv (t 9))])
 .ret)))⟩
/-- (*coroner/pool.Pool[int]).is -/
def F_pool_Pool_int_is : AFn := ⟨1, [.tmp 2],
 (.seq (.ops false [o 2 (.mv (.const (.bool false)))])
 (.seq (.ops false [o 3 (.mv (t 0)), o 4 (.eqv 1 true (t 3) (.const (.pointer none))), o 5 (.mv (t 4)), ⟨(some 6), .mv (t 0), some (5, true), false⟩, ⟨(some 7), .nilc (t 6), some (5, true), false⟩, ⟨(some 8), .faddr 1 (t 7), some (5, true), false⟩, ⟨(some 9), .load1 (t 8), some (5, true), false⟩, ⟨(some 10), .len 1 (t 9), some (5, true), false⟩, ⟨(some 11), .bin .gtr (t 10) (ci 0), some (5, true), false⟩, o 12 (.pick (t 5) (t 11) (.const (.bool false))), o 2 (.mv (t 12))])
 (.seq (.keep [2])
 .ret)))⟩
/-- coroner/coronerref10.ready -/
def F_r10_ready : AFn := ⟨1, [.tmp 2],
 (.seq (.ops false [o 1 (.box (t 0)), o 2 (.mv (.const (.slice none 0 0)))])
 (.seq (.ops false [o 3 (.mv (.const (.bool false)))])
 (.seq (.seq (.ops false [o 4 (.mv (ci 0))])
 (.seq (.keep [1, 3, 4]) (.block 0 (.loop (.seq (.seq (.seq (.ops false [o 7 (.mv (t 4)), o 8 (.faddr 4 (t 1)), o 9 (.load1 (t 8)), o 10 (.len 1 (t 9)), o 11 (.bin .lss (t 7) (t 10))])
 (.cond (t 11)
 .skip
 (.exit 0)))
 (.seq (.block 1 (.ops false [o 14 (.mv (t 3)), o 15 (.mv (t 14)), ⟨(some 16), .faddr 4 (t 1), some (15, false), false⟩, ⟨(some 17), .load1 (t 16), some (15, false), false⟩, ⟨(some 18), .mv (t 4), some (15, false), false⟩, ⟨(some 19), .iaddr 1 (t 17) (t 18), some (15, false), false⟩, ⟨(some 20), .load1 (t 19), some (15, false), false⟩, ⟨(some 21), .len 1 (t 20), some (15, false), false⟩, ⟨(some 22), .bin .gtr (t 21) (ci 0), some (15, false), false⟩, o 23 (.pick (t 15) (.const (.bool true)) (t 22)), o 3 (.mv (t 23))]))
 (.seq (.keep [1, 3, 4])
 (.ops false [o 12 (.mv (t 4)), o 13 (.bin .add (t 12) (ci 1)), o 4 (.mv (t 13))])))) (.keep [1, 3, 4]))))))
 (.seq (.keep [1, 3])
 (.seq (.ops false [o 5 (.mv (.const (.slice none 0 0)))])
 (.seq (.seq (.ops false [o 6 (.mv (ci 0))])
 (.seq (.keep [1, 3, 5, 6]) (.block 2 (.loop (.seq (.seq (.seq (.ops false [o 24 (.mv (t 6)), o 25 (.faddr 4 (t 1)), o 26 (.load1 (t 25)), o 27 (.len 1 (t 26)), o 28 (.bin .lss (t 24) (t 27)), o 29 (.mv (t 28)), ⟨(some 30), .mv (t 6), some (29, true), false⟩, ⟨(some 31), .faddr 6 (t 1), some (29, true), false⟩, ⟨(some 32), .load1 (t 31), some (29, true), false⟩, ⟨(some 33), .len 1 (t 32), some (29, true), false⟩, ⟨(some 34), .bin .lss (t 30) (t 33), some (29, true), false⟩, o 35 (.pick (t 29) (t 34) (.const (.bool false)))])
 (.seq (.keep [1, 3, 5, 6, 35])
 (.cond (t 35)
 .skip
 (.exit 2))))
 (.seq (.keep [1, 3, 5, 6])
 (.seq (.block 3 (.seq (.ops false [o 38 (.mv (t 3)), o 39 (.mv (t 38)), ⟨(some 40), .faddr 6 (t 1), some (39, false), false⟩, ⟨(some 41), .load1 (t 40), some (39, false), false⟩, ⟨(some 42), .mv (t 6), some (39, false), false⟩, ⟨(some 43), .iaddr 1 (t 41) (t 42), some (39, false), false⟩, ⟨(some 44), .load1 (t 43), some (39, false), false⟩, o 45 (.pick (t 39) (.const (.bool true)) (t 44))])
 (.seq (.keep [1, 3, 5, 6, 45])
 (.cond (t 45)
 (.ops false [o 46 (.mv (t 5)), o 47 (.mv (t 6)), o 48 (.bslice 1 1 [(.int .i64 0)] [(0, (1, (t 47)))]), o 49 (.append 1 8 (t 46) (t 48)), o 5 (.mv (t 49))])
 .skip))))
 (.seq (.keep [1, 3, 5, 6])
 (.ops false [o 36 (.mv (t 6)), o 37 (.bin .add (t 36) (ci 1)), o 6 (.mv (t 37))]))))) (.keep [1, 3, 5, 6]))))))
 (.seq (.keep [5])
 (.seq (.ops false [o 50 (.mv (t 5)), o 2 (.mv (t 50))])
 .ret))))))))⟩
/-- (*coroner/pool.Pool[int]).waiting -/
def F_pool_Pool_int_waiting : AFn := ⟨1, [.tmp 2],
 (.seq (.ops false [o 2 (.mv (ci 0))])
 (.seq (.ops false [o 3 (.mv (ci 0))])
 (.seq (.seq (.ops false [o 6 (.mv (t 0)), o 7 (.nilc (t 6)), o 8 (.faddr 1 (t 7)), o 9 (.load1 (t 8)), o 10 (.len 1 (t 9)), o 11 (.mv (ci 0))])
 (.seq (.keep [3, 9, 10, 11]) (.block 0 (.loop (.seq (.seq (.ops false [o 12 (.bin .lss (t 11) (t 10))])
 (.seq (.cond (t 12)
 .skip
 (.exit 0))
 (.seq (.block 1 (.seq (.ops false [o 13 (.iaddr 1 (t 9) (t 11)), o 14 (.load1 (t 13)), o 5 (.mv (t 14))])
 (.ops false [o 15 (.mv (t 3)), o 16 (.mv (t 5)), o 17 (.nilc (t 16)), o 18 (.faddr 0 (t 17)), o 19 (.call (.func n_deque_Deque_int_Len) [(t 18)]), o 20 (.bin .add (t 15) (t 19)), o 3 (.mv (t 20))])))
 (.seq (.keep [3, 9, 10, 11])
 (.ops false [o 21 (.bin .add (t 11) (ci 1)), o 11 (.mv (t 21))]))))) (.keep [3, 9, 10, 11]))))))
 (.seq (.keep [3])
 (.seq (.ops false [o 22 (.mv (t 3)), o 2 (.mv (t 22))])
 .ret)))))⟩
/-- (*coroner/picks.Script).Cancelled -/
def F_picks_Script_Cancelled : AFn := ⟨1, [.tmp 2],
 (.seq (.ops false [o 2 (.mv (.const (.bool false)))])
 (.seq (.ops true [b 3 (.mv (t 0)), b 4 (.call (.func n_picks_Script_is) [(t 3)]), b 5 (.mv (t 4)), ⟨(some 6), .mv (t 0), some (5, true), true⟩, ⟨(some 7), .nilc (t 6), some (5, true), true⟩, ⟨(some 8), .faddr 2 (t 7), some (5, true), true⟩, ⟨(some 9), .load1 (t 8), some (5, true), true⟩, ⟨(some 10), .bin .geq (t 9) (ci 0), some (5, true), true⟩, b 11 (.pick (t 5) (t 10) (.const (.bool false))), b 12 (.mv (t 11)), ⟨(some 13), .mv (t 0), some (12, true), false⟩, ⟨(some 14), .nilc (t 13), some (12, true), false⟩, ⟨(some 15), .faddr 3 (t 14), some (12, true), false⟩, ⟨(some 16), .load1 (t 15), some (12, true), false⟩, ⟨(some 17), .mv (t 0), some (12, true), false⟩, ⟨(some 18), .nilc (t 17), some (12, true), false⟩, ⟨(some 19), .faddr 2 (t 18), some (12, true), false⟩, ⟨(some 20), .load1 (t 19), some (12, true), false⟩, ⟨(some 21), .bin .geq (t 16) (t 20), some (12, true), true⟩, b 22 (.pick (t 12) (t 21) (.const (.bool false))), b 2 (.mv (t 22))])
 (.seq (.keep [2])
 .ret)))⟩
/-- (*coroner/pool.Pool[string]).is -/
def F_pool_Pool_string_is : AFn := ⟨1, [.tmp 2],
 (.seq (.ops false [o 2 (.mv (.const (.bool false)))])
 (.seq (.ops false [o 3 (.mv (t 0)), o 4 (.eqv 1 true (t 3) (.const (.pointer none))), o 5 (.mv (t 4)), ⟨(some 6), .mv (t 0), some (5, true), false⟩, ⟨(some 7), .nilc (t 6), some (5, true), false⟩, ⟨(some 8), .faddr 1 (t 7), some (5, true), false⟩, ⟨(some 9), .load1 (t 8), some (5, true), false⟩, ⟨(some 10), .len 1 (t 9), some (5, true), false⟩, ⟨(some 11), .bin .gtr (t 10) (ci 0), some (5, true), false⟩, o 12 (.pick (t 5) (t 11) (.const (.bool false))), o 2 (.mv (t 12))])
 (.seq (.keep [2])
 .ret)))⟩
/-- (*coroner/pool.Pool[string]).waiting -/
def F_pool_Pool_string_waiting : AFn := ⟨1, [.tmp 2],
 (.seq (.ops false [o 2 (.mv (ci 0))])
 (.seq (.ops false [o 3 (.mv (ci 0))])
 (.seq (.seq (.ops false [o 6 (.mv (t 0)), o 7 (.nilc (t 6)), o 8 (.faddr 1 (t 7)), o 9 (.load1 (t 8)), o 10 (.len 1 (t 9)), o 11 (.mv (ci 0))])
 (.seq (.keep [3, 9, 10, 11]) (.block 0 (.loop (.seq (.seq (.ops false [o 12 (.bin .lss (t 11) (t 10))])
 (.seq (.cond (t 12)
 .skip
 (.exit 0))
 (.seq (.block 1 (.seq (.ops false [o 13 (.iaddr 1 (t 9) (t 11)), o 14 (.load1 (t 13)), o 5 (.mv (t 14))])
 (.ops false [o 15 (.mv (t 3)), o 16 (.mv (t 5)), o 17 (.nilc (t 16)), o 18 (.faddr 0 (t 17)), o 19 (.call (.func n_deque_Deque_string_Len) [(t 18)]), o 20 (.bin .add (t 15) (t 19)), o 3 (.mv (t 20))])))
 (.seq (.keep [3, 9, 10, 11])
 (.ops false [o 21 (.bin .add (t 11) (ci 1)), o 11 (.mv (t 21))]))))) (.keep [3, 9, 10, 11]))))))
 (.seq (.keep [3])
 (.seq (.ops false [o 22 (.mv (t 3)), o 2 (.mv (t 22))])
 .ret)))))⟩
/-- (*coroner/pool.Pool[int]).take -/
def F_pool_Pool_int_take : AFn := ⟨2, [],
 (.seq (.ops false [o 6 (.mv (t 0)), o 7 (.nilc (t 6)), o 8 (.faddr 1 (t 7)), o 9 (.load1 (t 8)), o 10 (.mv (t 1)), o 11 (.iaddr 1 (t 9) (t 10)), o 12 (.load1 (t 11)), o 4 (.mv (t 12))])
 (.seq (.keep [0, 1, 4])
 (.seq (.ops false [o 14 (.mv (t 4)), o 15 (.mv (t 4)), o 16 (.mv (t 4)), o 17 (.nilc (t 16)), o 18 (.faddr 0 (t 17)), o 19 (.call (.func n_deque_Deque_int_Pop) [(t 18)]), o 13 (.mv (t 19)), o 20 (.extract 0 (t 13)), o 21 (.extract 1 (t 13)), o 22 (.nilc (t 14)), o 23 (.faddr 3 (t 22)), s (.store 1 (t 23) (t 20)), o 24 (.nilc (t 15)), o 25 (.faddr 4 (t 24)), s (.store 1 (t 25) (t 21))])
 (.seq (.keep [0, 1, 4])
 (.seq (.ops false [o 5 (.mv (ci 1))])
 (.seq (.keep [0, 1, 4, 5]) (.block 0 (.loop (.seq (.seq (.seq (.ops false [o 26 (.mv (t 5)), o 27 (.mv (t 0)), o 28 (.nilc (t 27)), o 29 (.faddr 1 (t 28)), o 30 (.load1 (t 29)), o 31 (.len 1 (t 30)), o 32 (.bin .lss (t 26) (t 31)), o 33 (.mv (t 32)), ⟨(some 34), .mv (t 4), some (33, true), false⟩, ⟨(some 35), .nilc (t 34), some (33, true), false⟩, ⟨(some 36), .faddr 4 (t 35), some (33, true), false⟩, ⟨(some 37), .load1 (t 36), some (33, true), false⟩, ⟨(some 38), .un .not (t 37), some (33, true), false⟩, o 39 (.pick (t 33) (t 38) (.const (.bool false)))])
 (.seq (.keep [0, 1, 4, 5, 39])
 (.cond (t 39)
 .skip
 (.exit 0))))
 (.seq (.keep [0, 1, 4, 5])
 (.seq (.block 1 (.seq (.opsA [] (o 43 (.mv (t 4)) :: o 44 (.mv (t 4)) :: o 45 (.mv (t 0)) :: o 46 (.nilc (t 45)) :: o 47 (.faddr 1 (t 46)) :: o 48 (.load1 (t 47)) :: o 49 (.mv (t 1)) :: o 50 (.mv (t 5)) :: o 51 (.bin .add (t 49) (t 50)) :: o 52 (.mv (t 0)) :: o 53 (.nilc (t 52)) :: o 54 (.faddr 1 (t 53)) :: o 55 (.load1 (t 54)) :: o 56 (.len 1 (t 55)) :: o 57 (.bin .rem (t 51) (t 56)) :: o 58 (.iaddr 1 (t 48) (t 57)) :: o 59 (.load1 (t 58)) :: o 60 (.nilc (t 59)) :: o 61 (.faddr 0 (t 60)) :: b 62 (.call (.func n_deque_Deque_int_Steal) [(t 61)]) :: o 42 (.mv (t 62)) :: o 63 (.extract 0 (t 42)) :: o 64 (.extract 1 (t 42)) :: o 65 (.nilc (t 43)) :: o 66 (.faddr 3 (t 65)) :: sb (.store 1 (t 66) (t 63)) :: o 67 (.nilc (t 44)) :: o 68 (.faddr 4 (t 67)) :: sb (.store 1 (t 68) (t 64)) :: []))
 (.seq (.keep [0, 1, 4, 5])
 (.seq (.ops false [o 69 (.mv (t 4)), o 70 (.nilc (t 69)), o 71 (.faddr 4 (t 70)), o 72 (.load1 (t 71))])
 (.cond (t 72)
 (.ops false [o 73 (.mv (t 0)), o 74 (.nilc (t 73)), o 75 (.faddr 4 (t 74)), o 76 (.load1 (t 75)), o 77 (.bin .add (t 76) (ci 1)), o 78 (.nilc (t 73)), o 79 (.faddr 4 (t 78)), s (.store 1 (t 79) (t 77))])
 .skip)))))
 (.seq (.keep [0, 1, 4, 5])
 (.ops false [o 40 (.mv (t 5)), o 41 (.bin .add (t 40) (ci 1)), o 5 (.mv (t 41))]))))) (.keep [0, 1, 4, 5]))))))))))⟩
/-- (*coroner/deque.Deque[int]).Len -/
def F_deque_Deque_int_Len : AFn := ⟨1, [.tmp 2],
 (.seq (.ops false [o 2 (.mv (ci 0))])
 (.seq (.seq (.ops false [o 3 (.mv (t 0)), o 4 (.eqv 1 false (t 3) (.const (.pointer none)))])
 (.cond (t 4)
 (.seq (.ops false [o 2 (.mv (ci 0))])
 .ret)
 .skip))
 (.seq (.ops false [o 5 (.mv (t 0)), o 6 (.nilc (t 5)), o 7 (.faddr 2 (t 6)), o 8 (.load1 (t 7)), o 2 (.mv (t 8))])
 .ret)))⟩
/-- (*coroner/deque.Deque[string]).grow -/
def F_deque_Deque_string_grow : AFn := ⟨1, [],
 (.seq (.seq (.ops true [o 3 (.mv (t 0)), o 4 (.nilc (t 3)), o 5 (.faddr 2 (t 4)), o 6 (.load1 (t 5)), o 7 (.mv (t 0)), o 8 (.nilc (t 7)), o 9 (.faddr 0 (t 8)), o 10 (.load1 (t 9)), o 11 (.len 1 (t 10)), b 12 (.bin .lss (t 6) (t 11))])
 (.seq (.keep [0, 12])
 (.cond (t 12)
 .ret
 .skip)))
 (.seq (.keep [0])
 (.seq (.ops false [o 13 (.mv (t 0)), o 14 (.nilc (t 13)), o 15 (.faddr 2 (t 14)), o 16 (.load1 (t 15)), o 17 (.bin .mul (ci 2) (t 16)), o 18 (.max [(ci 4), (t 17)]), o 19 (.mkslice 1 16 [(.string ⟨#[]⟩)] (t 18) (t 18)), o 2 (.mv (t 19))])
 (.seq (.keep [0, 2])
 (.seq (.ops false [o 20 (.mv (t 2)), o 21 (.mv (t 0)), o 22 (.call (.func n_deque_Deque_string_List) [(t 21)]), o 23 (.copy 1 (t 20) (t 22))])
 (.ops false [o 24 (.mv (t 0)), o 25 (.mv (t 0)), o 26 (.mv (t 2)), o 27 (.nilc (t 24)), o 28 (.faddr 0 (t 27)), s (.store 1 (t 28) (t 26)), o 29 (.nilc (t 25)), o 30 (.faddr 1 (t 29)), s (.store 1 (t 30) (ci 0))]))))))⟩
/-- (*coroner/deque.Deque[string]).Len -/
def F_deque_Deque_string_Len : AFn := ⟨1, [.tmp 2],
 (.seq (.ops false [o 2 (.mv (ci 0))])
 (.seq (.seq (.ops false [o 3 (.mv (t 0)), o 4 (.eqv 1 false (t 3) (.const (.pointer none)))])
 (.cond (t 4)
 (.seq (.ops false [o 2 (.mv (ci 0))])
 .ret)
 .skip))
 (.seq (.ops false [o 5 (.mv (t 0)), o 6 (.nilc (t 5)), o 7 (.faddr 2 (t 6)), o 8 (.load1 (t 7)), o 2 (.mv (t 8))])
 .ret)))⟩
/-- (*coroner/deque.Deque[string]).Steal -/
def F_deque_Deque_string_Steal : AFn := ⟨1, [.tmp 2, .tmp 3],
 (.seq (.ops false [o 2 (.mv (.const (.string ⟨#[]⟩))), o 3 (.mv (.const (.bool false)))])
 (.seq (.ops false [o 4 (.mv (.const (.string ⟨#[]⟩)))])
 (.seq (.seq (.ops false [o 6 (.mv (t 0)), o 7 (.call (.func n_deque_Deque_string_Len) [(t 6)]), o 8 (.bin .eql (t 7) (ci 0))])
 (.cond (t 8)
 (.seq (.ops false [o 9 (.mv (t 4)), o 2 (.mv (t 9)), o 3 (.mv (.const (.bool false)))])
 .ret)
 .skip))
 (.seq (.ops false [o 10 (.mv (t 0)), o 11 (.call (.func n_deque_Deque_string_take) [(t 10), (ci 0)]), o 5 (.mv (t 11))])
 (.seq (.ops false [o 12 (.mv (t 0)), o 13 (.mv (t 0)), o 14 (.call (.func n_deque_Deque_string_at) [(t 13), (ci 1)]), o 15 (.nilc (t 12)), o 16 (.faddr 1 (t 15)), s (.store 1 (t 16) (t 14))])
 (.seq (.ops false [o 17 (.mv (t 5)), o 2 (.mv (t 17)), o 3 (.mv (.const (.bool true)))])
 .ret))))))⟩
/-- (*coroner/deque.Deque[string]).take -/
def F_deque_Deque_string_take : AFn := ⟨2, [.tmp 4],
 (.seq (.ops false [o 4 (.mv (.const (.string ⟨#[]⟩)))])
 (.seq (.ops false [o 5 (.mv (.const (.string ⟨#[]⟩)))])
 (.seq (.ops false [o 8 (.mv (t 0)), o 9 (.mv (t 1)), o 10 (.call (.func n_deque_Deque_string_at) [(t 8), (t 9)]), o 6 (.mv (t 10))])
 (.seq (.ops false [o 11 (.mv (t 0)), o 12 (.nilc (t 11)), o 13 (.faddr 0 (t 12)), o 14 (.load1 (t 13)), o 15 (.mv (t 6)), o 16 (.iaddr 1 (t 14) (t 15)), o 17 (.load1 (t 16)), o 7 (.mv (t 17))])
 (.seq (.keep [0, 5, 6, 7])
 (.seq (.ops false [o 18 (.mv (t 0)), o 19 (.nilc (t 18)), o 20 (.faddr 0 (t 19)), o 21 (.load1 (t 20)), o 22 (.mv (t 6)), o 23 (.mv (t 5)), o 24 (.iaddr 1 (t 21) (t 22)), s (.store 1 (t 24) (t 23))])
 (.seq (.keep [0, 7])
 (.seq (.ops false [o 25 (.mv (t 0)), o 26 (.nilc (t 25)), o 27 (.faddr 2 (t 26)), o 28 (.load1 (t 27)), o 29 (.bin .sub (t 28) (ci 1)), o 30 (.nilc (t 25)), o 31 (.faddr 2 (t 30)), s (.store 1 (t 31) (t 29))])
 (.seq (.keep [7])
 (.seq (.ops false [o 32 (.mv (t 7)), o 4 (.mv (t 32))])
 .ret))))))))))⟩
/-- (*coroner/deque.Deque[string]).each$1 -/
def F_deque_Deque_string_each_c1 : AFn := ⟨2, [],
 (.seq (.ops false [o 3 (.mv (ci 0))])
 (.seq (.keep [0, 1, 3]) (.block 0 (.loop (.seq (.seq (.seq (.ops true [o 4 (.mv (t 3)), o 5 (.load1 (t 1)), o 6 (.call (.func n_deque_Deque_string_Len) [(t 5)]), b 7 (.bin .lss (t 4) (t 6)), b 8 (.mv (t 7)), ⟨(some 9), .mv (t 0), some (8, true), false⟩, ⟨(some 10), .load1 (t 1), some (8, true), false⟩, ⟨(some 11), .nilc (t 10), some (8, true), false⟩, ⟨(some 12), .faddr 0 (t 11), some (8, true), false⟩, ⟨(some 13), .load1 (t 12), some (8, true), false⟩, ⟨(some 14), .load1 (t 1), some (8, true), false⟩, ⟨(some 15), .mv (t 3), some (8, true), false⟩, ⟨(some 16), .call (.func n_deque_Deque_string_at) [(t 14), (t 15)], some (8, true), false⟩, ⟨(some 17), .iaddr 1 (t 13) (t 16), some (8, true), false⟩, ⟨(some 18), .load1 (t 17), some (8, true), false⟩, ⟨(some 19), .call (t 9) [(t 18)], some (8, true), true⟩, b 20 (.pick (t 8) (t 19) (.const (.bool false)))])
 (.seq (.keep [0, 1, 3, 20])
 (.cond (t 20)
 .skip
 (.exit 0))))
 (.seq (.keep [0, 1, 3])
 (.seq (.block 1 (.exit 1))
 (.ops false [o 21 (.mv (t 3)), o 22 (.bin .add (t 21) (ci 1)), o 3 (.mv (t 22))])))) (.keep [0, 1, 3]))))))⟩
/-- coroner/coronerref10.Few -/
def F_r10_Few : AFn := ⟨1, [.tmp 2],
 (.seq (.ops false [o 2 (.mv (.const (.bool false)))])
 (.seq (.seq (.ops false [o 4 (.mv (t 0)), o 5 (.len 1 (t 4)), o 6 (.bin .gtr (t 5) (ci 20))])
 (.cond (t 6)
 (.seq (.ops false [o 2 (.mv (.const (.bool false)))])
 .ret)
 .skip))
 (.seq (.seq (.ops false [o 3 (.mv (ci 0))])
 (.seq (.keep [0, 3]) (.block 0 (.loop (.seq (.seq (.seq (.ops false [o 7 (.mv (t 3)), o 8 (.mv (t 0)), o 9 (.len 1 (t 8)), o 10 (.bin .lss (t 7) (t 9))])
 (.cond (t 10)
 .skip
 (.exit 0)))
 (.seq (.block 1 (.seq (.ops false [o 13 (.mv (t 0)), o 14 (.mv (t 3)), o 15 (.iaddr 1 (t 13) (t 14)), o 16 (.load1 (t 15)), o 17 (.bin .gtr (t 16) (ci 20))])
 (.cond (t 17)
 (.seq (.ops false [o 2 (.mv (.const (.bool false)))])
 .ret)
 .skip)))
 (.ops false [o 11 (.mv (t 3)), o 12 (.bin .add (t 11) (ci 1)), o 3 (.mv (t 12))]))) (.keep [0, 3]))))))
 (.seq (.keep [])
 (.seq (.ops false [o 2 (.mv (.const (.bool true)))])
 .ret)))))⟩
/-- (*coroner/pool.Pool[int]).Run -/
def F_pool_Pool_int_Run : AFn := ⟨2, [.tmp 4],
 (.seq (.ops false [o 4 (.mv (ci 0))])
 (.seq (.seq (.ops false [o 9 (.mv (t 0)), o 10 (.call (.func n_pool_Pool_int_is) [(t 9)]), o 11 (.un .not (t 10))])
 (.cond (t 11)
 (.seq (.ops false [o 4 (.mv (ci 1))])
 .ret)
 .skip))
 (.seq (.keep [0, 1, 4]) (.block 0 (.loop (.seq (.block 1 (.seq (.ops false [o 5 (.alloc [(.slice none 0 0)])])
 (.seq (.seq (.ops false [o 12 (.mv (t 0)), o 13 (.call (.func n_pool_Pool_int_ready) [(t 12)])])
 (.block 2 (.rfun (t 13) [14]
 (.ops false [o 6 (.mv (t 14))])
 (.block 3 (.ops false [o 15 (.load1 (t 5)), o 16 (.mv (t 6)), o 17 (.bslice 1 1 [(.int .i64 0)] [(0, (1, (t 16)))]), o 18 (.append 1 8 (t 15) (t 17)), s (.store 1 (t 5) (t 18))])))))
 (.seq (.keep [0, 1, 4, 5])
 (.seq (.seq (.ops false [o 19 (.load1 (t 5)), o 20 (.len 1 (t 19)), o 21 (.bin .eql (t 20) (ci 0))])
 (.cond (t 21)
 (.seq (.ops false [o 4 (.mv (ci 0))])
 .ret)
 .skip))
 (.seq (.ops true [o 23 (.mv (t 0)), o 24 (.nilc (t 23)), o 25 (.faddr 0 (t 24)), o 26 (.load1 (t 25)), o 27 (.load1 (t 5)), b 28 (.call (.func n_picks_Script_Step) [(t 26), (t 27)]), b 22 (.mv (t 28)), o 29 (.extract 0 (t 22)), o 30 (.extract 1 (t 22)), o 7 (.mv (t 29)), b 8 (.mv (t 30))])
 (.seq (.keep [0, 1, 4, 7, 8])
 (.seq (.seq (.ops false [o 31 (.mv (t 8)), o 32 (.bin .neq (t 31) (ci 0))])
 (.cond (t 32)
 (.seq (.ops false [o 33 (.mv (t 8)), o 4 (.mv (t 33))])
 .ret)
 .skip))
 (.ops false [o 34 (.mv (t 0)), o 35 (.mv (t 7)), o 36 (.mv (t 1)), o 37 (.call (.func n_pool_Pool_int_step) [(t 34), (t 35), (t 36)])]))))))))) (.keep [0, 1, 4])))))))⟩
/-- coroner/coronerref01.Same -/
def F_r01_Same : AFn := ⟨2, [.tmp 4],
 (.seq (.ops false [o 4 (.mv (.const (.bool false)))])
 (.seq (.seq (.ops false [o 6 (.mv (t 0)), o 7 (.len 1 (t 6)), o 8 (.mv (t 1)), o 9 (.len 1 (t 8)), o 10 (.bin .neq (t 7) (t 9))])
 (.cond (t 10)
 (.seq (.ops false [o 4 (.mv (.const (.bool false)))])
 .ret)
 .skip))
 (.seq (.seq (.ops false [o 5 (.mv (ci 0))])
 (.seq (.keep [0, 1, 5]) (.block 0 (.loop (.seq (.seq (.seq (.ops false [o 11 (.mv (t 5)), o 12 (.mv (t 0)), o 13 (.len 1 (t 12)), o 14 (.bin .lss (t 11) (t 13))])
 (.cond (t 14)
 .skip
 (.exit 0)))
 (.seq (.block 1 (.seq (.ops true [o 17 (.mv (t 0)), o 18 (.mv (t 5)), o 19 (.iaddr 1 (t 17) (t 18)), o 20 (.load1 (t 19)), o 21 (.mv (t 1)), o 22 (.mv (t 5)), o 23 (.iaddr 1 (t 21) (t 22)), o 24 (.load1 (t 23)), b 25 (.bin .neq (t 20) (t 24))])
 (.seq (.keep [0, 1, 5, 25])
 (.cond (t 25)
 (.seq (.ops false [o 4 (.mv (.const (.bool false)))])
 .ret)
 .skip))))
 (.seq (.keep [0, 1, 5])
 (.ops false [o 15 (.mv (t 5)), o 16 (.bin .add (t 15) (ci 1)), o 5 (.mv (t 16))])))) (.keep [0, 1, 5]))))))
 (.seq (.keep [])
 (.seq (.ops false [o 4 (.mv (.const (.bool true)))])
 .ret)))))⟩
/-- (*coroner/pool.Pool[int]).Left -/
def F_pool_Pool_int_Left : AFn := ⟨1, [.tmp 2],
 (.seq (.ops false [o 2 (.mv (ci 0))])
 (.seq (.seq (.ops false [o 6 (.mv (t 0)), o 7 (.call (.func n_pool_Pool_int_is) [(t 6)]), o 8 (.un .not (t 7))])
 (.cond (t 8)
 (.seq (.ops false [o 2 (.mv (ci 0))])
 .ret)
 .skip))
 (.seq (.ops false [o 9 (.mv (t 0)), o 10 (.call (.func n_pool_Pool_int_waiting) [(t 9)]), o 3 (.mv (t 10))])
 (.seq (.seq (.ops false [o 11 (.mv (t 0)), o 12 (.nilc (t 11)), o 13 (.faddr 1 (t 12)), o 14 (.load1 (t 13)), o 15 (.len 1 (t 14)), o 16 (.mv (ci 0))])
 (.seq (.keep [3, 14, 15, 16]) (.block 0 (.loop (.seq (.seq (.ops false [o 17 (.bin .lss (t 16) (t 15))])
 (.seq (.cond (t 17)
 .skip
 (.exit 0))
 (.seq (.block 1 (.seq (.ops false [o 18 (.iaddr 1 (t 14) (t 16)), o 19 (.load1 (t 18)), o 5 (.mv (t 19))])
 (.seq (.ops false [o 20 (.mv (t 5)), o 21 (.nilc (t 20)), o 22 (.faddr 4 (t 21)), o 23 (.load1 (t 22))])
 (.cond (t 23)
 (.ops false [o 24 (.mv (t 3)), o 25 (.bin .add (t 24) (ci 1)), o 3 (.mv (t 25))])
 .skip))))
 (.seq (.keep [3, 14, 15, 16])
 (.ops false [o 26 (.bin .add (t 16) (ci 1)), o 16 (.mv (t 26))]))))) (.keep [3, 14, 15, 16]))))))
 (.seq (.keep [3])
 (.seq (.ops false [o 27 (.mv (t 3)), o 2 (.mv (t 27))])
 .ret))))))⟩
/-- (*coroner/pool.Pool[string]).Add -/
def F_pool_Pool_string_Add : AFn := ⟨2, [],
 (.seq (.seq (.ops false [o 6 (.mv (t 0)), o 7 (.call (.func n_pool_Pool_string_is) [(t 6)]), o 8 (.un .not (t 7))])
 (.cond (t 8)
 .ret
 .skip))
 (.seq (.ops false [o 9 (.mv (t 1)), o 10 (.len 1 (t 9)), o 11 (.mv (ci 0))])
 (.seq (.keep [0, 9, 10, 11]) (.block 0 (.loop (.seq (.seq (.ops false [o 12 (.bin .lss (t 11) (t 10))])
 (.seq (.cond (t 12)
 .skip
 (.exit 0))
 (.seq (.block 1 (.seq (.ops false [o 13 (.iaddr 1 (t 9) (t 11)), o 14 (.load1 (t 13)), o 5 (.mv (t 14))])
 (.seq (.ops true [o 15 (.mv (t 0)), o 16 (.nilc (t 15)), o 17 (.faddr 1 (t 16)), o 18 (.load1 (t 17)), o 19 (.mv (t 0)), o 20 (.nilc (t 19)), o 21 (.faddr 2 (t 20)), o 22 (.load1 (t 21)), o 23 (.iaddr 1 (t 18) (t 22)), o 24 (.load1 (t 23)), o 25 (.nilc (t 24)), o 26 (.faddr 0 (t 25)), o 27 (.mv (t 5)), b 28 (.call (.func n_deque_Deque_string_Push) [(t 26), (t 27)])])
 (.seq (.keep [0, 9, 10, 11])
 (.ops true [o 29 (.mv (t 0)), o 30 (.mv (t 0)), o 31 (.nilc (t 30)), o 32 (.faddr 2 (t 31)), o 33 (.load1 (t 32)), o 34 (.bin .add (t 33) (ci 1)), o 35 (.mv (t 0)), o 36 (.nilc (t 35)), o 37 (.faddr 1 (t 36)), o 38 (.load1 (t 37)), o 39 (.len 1 (t 38)), o 40 (.bin .rem (t 34) (t 39)), b 41 (.nilc (t 29)), b 42 (.faddr 2 (t 41)), sb (.store 1 (t 42) (t 40))])))))
 (.seq (.keep [0, 9, 10, 11])
 (.ops false [o 43 (.bin .add (t 11) (ci 1)), o 11 (.mv (t 43))]))))) (.keep [0, 9, 10, 11])))))))⟩
/-- (*coroner/pool.Pool[string]).Left -/
def F_pool_Pool_string_Left : AFn := ⟨1, [.tmp 2],
 (.seq (.ops false [o 2 (.mv (ci 0))])
 (.seq (.seq (.ops false [o 6 (.mv (t 0)), o 7 (.call (.func n_pool_Pool_string_is) [(t 6)]), o 8 (.un .not (t 7))])
 (.cond (t 8)
 (.seq (.ops false [o 2 (.mv (ci 0))])
 .ret)
 .skip))
 (.seq (.ops false [o 9 (.mv (t 0)), o 10 (.call (.func n_pool_Pool_string_waiting) [(t 9)]), o 3 (.mv (t 10))])
 (.seq (.seq (.ops false [o 11 (.mv (t 0)), o 12 (.nilc (t 11)), o 13 (.faddr 1 (t 12)), o 14 (.load1 (t 13)), o 15 (.len 1 (t 14)), o 16 (.mv (ci 0))])
 (.seq (.keep [3, 14, 15, 16]) (.block 0 (.loop (.seq (.seq (.ops false [o 17 (.bin .lss (t 16) (t 15))])
 (.seq (.cond (t 17)
 .skip
 (.exit 0))
 (.seq (.block 1 (.seq (.ops false [o 18 (.iaddr 1 (t 14) (t 16)), o 19 (.load1 (t 18)), o 5 (.mv (t 19))])
 (.seq (.ops false [o 20 (.mv (t 5)), o 21 (.nilc (t 20)), o 22 (.faddr 4 (t 21)), o 23 (.load1 (t 22))])
 (.cond (t 23)
 (.ops false [o 24 (.mv (t 3)), o 25 (.bin .add (t 24) (ci 1)), o 3 (.mv (t 25))])
 .skip))))
 (.seq (.keep [3, 14, 15, 16])
 (.ops false [o 26 (.bin .add (t 16) (ci 1)), o 16 (.mv (t 26))]))))) (.keep [3, 14, 15, 16]))))))
 (.seq (.keep [3])
 (.seq (.ops false [o 27 (.mv (t 3)), o 2 (.mv (t 27))])
 .ret))))))⟩
/-- (*coroner/deque.Deque[int]).Push -/
def F_deque_Deque_int_Push : AFn := ⟨2, [],
 (.seq (.seq (.ops false [o 4 (.mv (t 0)), o 5 (.eqv 1 false (t 4) (.const (.pointer none)))])
 (.cond (t 5)
 .ret
 .skip))
 (.seq (.ops false [o 6 (.mv (t 0)), o 7 (.call (.func n_deque_Deque_int_grow) [(t 6)])])
 (.seq (.ops true [o 8 (.mv (t 0)), o 9 (.nilc (t 8)), o 10 (.faddr 0 (t 9)), o 11 (.load1 (t 10)), o 12 (.mv (t 0)), o 13 (.mv (t 0)), o 14 (.nilc (t 13)), o 15 (.faddr 2 (t 14)), o 16 (.load1 (t 15)), o 17 (.call (.func n_deque_Deque_int_at) [(t 12), (t 16)]), o 18 (.mv (t 1)), b 19 (.iaddr 1 (t 11) (t 17)), sb (.store 1 (t 19) (t 18))])
 (.seq (.keep [0])
 (.ops false [o 20 (.mv (t 0)), o 21 (.nilc (t 20)), o 22 (.faddr 2 (t 21)), o 23 (.load1 (t 22)), o 24 (.bin .add (t 23) (ci 1)), o 25 (.nilc (t 20)), o 26 (.faddr 2 (t 25)), s (.store 1 (t 26) (t 24))])))))⟩
/-- coroner/coronerref09.Step -/
def F_r09_Step : AFn := ⟨2, [.cellN 4 4, .tmp 5, .tmp 6],
 (.seq (.ops false [o 2 (.box (t 0)), o 4 (.alloc [(.slice none 0 0), (.int .i64 0), (.int .i64 0), (.int .i64 0)]), o 5 (.mv (ci 0)), o 6 (.mv (ci 0))])
 (.seq (.seq (.ops false [o 9 (.loadN 4 (t 2)), o 10 (.call (.func n_r09_Cancelled) [(t 9)])])
 (.cond (t 10)
 (.seq (.ops false [o 11 (.loadN 4 (t 2)), s (.store 4 (t 4) (t 11)), o 5 (.mv (ci 0)), o 6 (.mv (ci 8))])
 .ret)
 .skip))
 (.seq (.ops false [o 12 (.mv (t 1)), o 13 (.call (.func n_r05_Of) [(t 12)]), o 7 (.mv (t 13))])
 (.seq (.seq (.ops false [o 14 (.mv (t 7)), o 15 (.len 1 (t 14)), o 16 (.bin .eql (t 15) (ci 0))])
 (.cond (t 16)
 (.seq (.ops false [o 17 (.loadN 4 (t 2)), s (.store 4 (t 4) (t 17)), o 5 (.mv (ci 0)), o 6 (.mv (ci 10))])
 .ret)
 .skip))
 (.seq (.keep [2, 4, 7])
 (.seq (.ops false [o 18 (.faddr 2 (t 2)), o 19 (.load1 (t 18)), o 20 (.bin .add (t 19) (ci 1)), o 21 (.faddr 2 (t 2)), s (.store 1 (t 21) (t 20))])
 (.seq (.seq (.ops false [o 22 (.faddr 3 (t 2)), o 23 (.load1 (t 22)), o 24 (.faddr 0 (t 2)), o 25 (.load1 (t 24)), o 26 (.len 1 (t 25)), o 27 (.bin .geq (t 23) (t 26))])
 (.cond (t 27)
 (.seq (.opsA [(30, 4)] [o 28 (.loadN 4 (t 2)), o 29 (.mv (t 7)), o 30 (.iaddr 1 (t 29) (ci 0)), o 31 (.load1 (t 30)), sb (.store 4 (t 4) (t 28)), o 5 (.mv (t 31)), o 6 (.mv (ci 0))])
 (.seq (.keep [4, 5, 6])
 .ret))
 .skip))
 (.seq (.keep [2, 4, 7])
 (.seq (.ops false [o 32 (.faddr 0 (t 2)), o 33 (.load1 (t 32)), o 34 (.faddr 3 (t 2)), o 35 (.load1 (t 34)), o 36 (.iaddr 1 (t 33) (t 35)), o 37 (.load1 (t 36)), o 38 (.mv (t 7)), o 39 (.len 1 (t 38)), o 40 (.bin .rem (t 37) (t 39)), o 8 (.mv (t 40))])
 (.seq (.keep [2, 4, 7, 8])
 (.seq (.seq (.ops false [o 41 (.mv (t 8)), o 42 (.bin .lss (t 41) (ci 0))])
 (.cond (t 42)
 (.ops false [o 43 (.mv (t 8)), o 44 (.mv (t 7)), o 45 (.len 1 (t 44)), o 46 (.bin .add (t 43) (t 45)), o 8 (.mv (t 46))])
 .skip))
 (.seq (.keep [2, 4, 7, 8])
 (.seq (.ops false [o 47 (.faddr 3 (t 2)), o 48 (.load1 (t 47)), o 49 (.bin .add (t 48) (ci 1)), o 50 (.faddr 3 (t 2)), s (.store 1 (t 50) (t 49))])
 (.seq (.opsA [(54, 4)] [o 51 (.loadN 4 (t 2)), o 52 (.mv (t 7)), o 53 (.mv (t 8)), o 54 (.iaddr 1 (t 52) (t 53)), o 55 (.load1 (t 54)), sb (.store 4 (t 4) (t 51)), o 5 (.mv (t 55)), o 6 (.mv (ci 0))])
 (.seq (.keep [4, 5, 6])
 .ret)))))))))))))))⟩
/-- (*coroner/picks.Script).is -/
def F_picks_Script_is : AFn := ⟨1, [.tmp 2],
 (.seq (.ops false [o 2 (.mv (.const (.bool false)))])
 (.seq (.ops false [o 3 (.mv (t 0)), o 4 (.eqv 1 true (t 3) (.const (.pointer none))), o 5 (.mv (t 4)), ⟨(some 6), .mv (t 0), some (5, true), false⟩, ⟨(some 7), .nilc (t 6), some (5, true), false⟩, ⟨(some 8), .faddr 0 (t 7), some (5, true), false⟩, ⟨(some 9), .load1 (t 8), some (5, true), false⟩, o 10 (.pick (t 5) (t 9) (.const (.bool false))), o 2 (.mv (t 10))])
 (.seq (.keep [2])
 .ret)))⟩
/-- (coroner/sorted.Set[int]).Len -/
def F_sorted_Set_int_Len : AFn := ⟨1, [.tmp 2],
 (.seq (.ops false [o 1 (.box (t 0)), o 2 (.mv (ci 0))])
 (.seq (.ops false [o 3 (.faddr 0 (t 1)), o 4 (.load1 (t 3)), o 5 (.len 1 (t 4)), o 2 (.mv (t 5))])
 .ret))⟩
/-- (*coroner/deque.Deque[string]).Push -/
def F_deque_Deque_string_Push : AFn := ⟨2, [],
 (.seq (.seq (.ops false [o 4 (.mv (t 0)), o 5 (.eqv 1 false (t 4) (.const (.pointer none)))])
 (.cond (t 5)
 .ret
 .skip))
 (.seq (.ops false [o 6 (.mv (t 0)), o 7 (.call (.func n_deque_Deque_string_grow) [(t 6)])])
 (.seq (.ops true [o 8 (.mv (t 0)), o 9 (.nilc (t 8)), o 10 (.faddr 0 (t 9)), o 11 (.load1 (t 10)), o 12 (.mv (t 0)), o 13 (.mv (t 0)), o 14 (.nilc (t 13)), o 15 (.faddr 2 (t 14)), o 16 (.load1 (t 15)), o 17 (.call (.func n_deque_Deque_string_at) [(t 12), (t 16)]), o 18 (.mv (t 1)), b 19 (.iaddr 1 (t 11) (t 17)), sb (.store 1 (t 19) (t 18))])
 (.seq (.keep [0])
 (.ops false [o 20 (.mv (t 0)), o 21 (.nilc (t 20)), o 22 (.faddr 2 (t 21)), o 23 (.load1 (t 22)), o 24 (.bin .add (t 23) (ci 1)), o 25 (.nilc (t 20)), o 26 (.faddr 2 (t 25)), s (.store 1 (t 26) (t 24))])))))⟩
/-- (*coroner/deque.Deque[int]).grow -/
def F_deque_Deque_int_grow : AFn := ⟨1, [],
 (.seq (.seq (.ops true [o 3 (.mv (t 0)), o 4 (.nilc (t 3)), o 5 (.faddr 2 (t 4)), o 6 (.load1 (t 5)), o 7 (.mv (t 0)), o 8 (.nilc (t 7)), o 9 (.faddr 0 (t 8)), o 10 (.load1 (t 9)), o 11 (.len 1 (t 10)), b 12 (.bin .lss (t 6) (t 11))])
 (.seq (.keep [0, 12])
 (.cond (t 12)
 .ret
 .skip)))
 (.seq (.keep [0])
 (.seq (.ops false [o 13 (.mv (t 0)), o 14 (.nilc (t 13)), o 15 (.faddr 2 (t 14)), o 16 (.load1 (t 15)), o 17 (.bin .mul (ci 2) (t 16)), o 18 (.max [(ci 4), (t 17)]), o 19 (.mkslice 1 8 [(.int .i64 0)] (t 18) (t 18)), o 2 (.mv (t 19))])
 (.seq (.keep [0, 2])
 (.seq (.ops false [o 20 (.mv (t 2)), o 21 (.mv (t 0)), o 22 (.call (.func n_deque_Deque_int_List) [(t 21)]), o 23 (.copy 1 (t 20) (t 22))])
 (.ops false [o 24 (.mv (t 0)), o 25 (.mv (t 0)), o 26 (.mv (t 2)), o 27 (.nilc (t 24)), o 28 (.faddr 0 (t 27)), s (.store 1 (t 28) (t 26)), o 29 (.nilc (t 25)), o 30 (.faddr 1 (t 29)), s (.store 1 (t 30) (ci 0))]))))))⟩
/-- coroner/coronerref09.Cancelled -/
def F_r09_Cancelled : AFn := ⟨1, [.tmp 2],
 (.seq (.ops false [o 1 (.box (t 0)), o 2 (.mv (.const (.bool false)))])
 (.seq (.ops false [o 3 (.faddr 1 (t 1)), o 4 (.load1 (t 3)), o 5 (.bin .geq (t 4) (ci 0)), o 6 (.mv (t 5)), ⟨(some 7), .faddr 2 (t 1), some (6, true), false⟩, ⟨(some 8), .load1 (t 7), some (6, true), false⟩, ⟨(some 9), .faddr 1 (t 1), some (6, true), false⟩, ⟨(some 10), .load1 (t 9), some (6, true), false⟩, ⟨(some 11), .bin .geq (t 8) (t 10), some (6, true), false⟩, o 12 (.pick (t 6) (t 11) (.const (.bool false))), o 2 (.mv (t 12))])
 (.seq (.keep [2])
 .ret)))⟩
/-- (*coroner/deque.Deque[string]).at -/
def F_deque_Deque_string_at : AFn := ⟨2, [.tmp 4],
 (.seq (.ops false [o 4 (.mv (ci 0))])
 (.seq (.ops true [o 5 (.mv (t 0)), o 6 (.nilc (t 5)), o 7 (.faddr 1 (t 6)), o 8 (.load1 (t 7)), o 9 (.mv (t 1)), o 10 (.bin .add (t 8) (t 9)), o 11 (.mv (t 0)), o 12 (.nilc (t 11)), o 13 (.faddr 0 (t 12)), o 14 (.load1 (t 13)), o 15 (.len 1 (t 14)), b 16 (.bin .rem (t 10) (t 15)), b 4 (.mv (t 16))])
 (.seq (.keep [4])
 .ret)))⟩
/-- (*coroner/deque.Deque[int]).List -/
def F_deque_Deque_int_List : AFn := ⟨1, [.tmp 2],
 (.seq (.ops false [o 2 (.mv (.const (.slice none 0 0)))])
 (.seq (.ops false [o 3 (.alloc [(.slice none 0 0)])])
 (.seq (.seq (.ops false [o 5 (.mv (t 0)), o 6 (.call (.func n_deque_Deque_int_each) [(t 5)])])
 (.block 0 (.rfun (t 6) [7]
 (.ops false [o 4 (.mv (t 7))])
 (.block 1 (.ops false [o 8 (.load1 (t 3)), o 9 (.mv (t 4)), o 10 (.bslice 1 1 [(.int .i64 0)] [(0, (1, (t 9)))]), o 11 (.append 1 8 (t 8) (t 10)), s (.store 1 (t 3) (t 11))])))))
 (.seq (.keep [3])
 (.seq (.ops false [o 12 (.load1 (t 3)), o 2 (.mv (t 12))])
 .ret)))))⟩
/-- (*coroner/deque.Deque[int]).each -/
def F_deque_Deque_int_each : AFn := ⟨1, [.tmp 2],
 (.seq (.ops false [o 1 (.box (t 0)), o 2 (.mv (.const .nilFunc))])
 (.seq (.ops false [o 3 (.mkf n_deque_Deque_int_each_c1 [] [(t 1)]), o 2 (.mv (t 3))])
 .ret))⟩
/-- (*coroner/deque.Deque[int]).each$1 -/
def F_deque_Deque_int_each_c1 : AFn := ⟨2, [],
 (.seq (.ops false [o 3 (.mv (ci 0))])
 (.seq (.keep [0, 1, 3]) (.block 0 (.loop (.seq (.seq (.seq (.ops true [o 4 (.mv (t 3)), o 5 (.load1 (t 1)), o 6 (.call (.func n_deque_Deque_int_Len) [(t 5)]), b 7 (.bin .lss (t 4) (t 6)), b 8 (.mv (t 7)), ⟨(some 9), .mv (t 0), some (8, true), false⟩, ⟨(some 10), .load1 (t 1), some (8, true), false⟩, ⟨(some 11), .nilc (t 10), some (8, true), false⟩, ⟨(some 12), .faddr 0 (t 11), some (8, true), false⟩, ⟨(some 13), .load1 (t 12), some (8, true), false⟩, ⟨(some 14), .load1 (t 1), some (8, true), false⟩, ⟨(some 15), .mv (t 3), some (8, true), false⟩, ⟨(some 16), .call (.func n_deque_Deque_int_at) [(t 14), (t 15)], some (8, true), false⟩, ⟨(some 17), .iaddr 1 (t 13) (t 16), some (8, true), false⟩, ⟨(some 18), .load1 (t 17), some (8, true), false⟩, ⟨(some 19), .call (t 9) [(t 18)], some (8, true), true⟩, b 20 (.pick (t 8) (t 19) (.const (.bool false)))])
 (.seq (.keep [0, 1, 3, 20])
 (.cond (t 20)
 .skip
 (.exit 0))))
 (.seq (.keep [0, 1, 3])
 (.seq (.block 1 (.exit 1))
 (.ops false [o 21 (.mv (t 3)), o 22 (.bin .add (t 21) (ci 1)), o 3 (.mv (t 22))])))) (.keep [0, 1, 3]))))))⟩
/-- coroner/pool.New[int] -/
def F_pool_New_int : AFn := ⟨2, [.tmp 4, .tmp 5],
 (.seq (.ops false [o 4 (.mv (.const (.pointer none))), o 5 (.mv (ci 0))])
 (.seq (.seq (.ops false [o 9 (.mv (t 0)), o 10 (.bin .lss (t 9) (ci 1)), o 11 (.mv (t 10)), ⟨(some 12), .mv (t 0), some (11, false), false⟩, ⟨(some 13), .bin .gtr (t 12) (ci 64), some (11, false), false⟩, o 14 (.pick (t 11) (.const (.bool true)) (t 13))])
 (.cond (t 14)
 (.seq (.ops false [o 4 (.mv (.const (.pointer none))), o 5 (.mv (ci 7))])
 .ret)
 .skip))
 (.seq (.keep [0, 1])
 (.seq (.seq (.ops false [o 16 (.mv (t 1)), o 17 (.call (.func n_picks_Script_Step) [(t 16), (.const (.slice none 0 0))]), o 15 (.mv (t 17)), o 18 (.extract 0 (t 15)), o 19 (.extract 1 (t 15)), o 6 (.mv (t 18)), o 7 (.mv (t 19))])
 (.seq (.keep [0, 1, 7])
 (.seq (.ops false [o 20 (.mv (t 7)), o 21 (.bin .eql (t 20) (ci 1))])
 (.cond (t 21)
 (.seq (.ops false [o 22 (.mv (t 7)), o 4 (.mv (.const (.pointer none))), o 5 (.mv (t 22))])
 .ret)
 .skip))))
 (.seq (.keep [0, 1])
 (.seq (.ops false [o 23 (.mv (t 1)), o 24 (.build [(.pointer none), (.slice none 0 0), (.int .i64 0), (.int .i64 0), (.int .i64 0), (.slice none 0 0)] [(0, (1, (t 23)))]), o 25 (.box (t 24)), o 8 (.mv (t 25))])
 (.seq (.seq (.ops false [o 26 (.mv (t 0)), o 27 (.mv (ci 0))])
 (.seq (.keep [8, 26, 27]) (.block 0 (.loop (.seq (.seq (.ops false [o 28 (.bin .lss (t 27) (t 26))])
 (.seq (.cond (t 28)
 .skip
 (.exit 0))
 (.seq (.block 1 (.ops false [o 29 (.mv (t 8)), o 30 (.mv (t 8)), o 31 (.nilc (t 30)), o 32 (.faddr 1 (t 31)), o 33 (.load1 (t 32)), o 34 (.build [(.slice none 0 0), (.int .i64 0), (.int .i64 0), (.int .i64 0), (.bool false)] []), o 35 (.box (t 34)), o 36 (.bslice 1 1 [(.pointer none)] [(0, (1, (t 35)))]), o 37 (.append 1 8 (t 33) (t 36)), o 38 (.nilc (t 29)), o 39 (.faddr 1 (t 38)), s (.store 1 (t 39) (t 37))]))
 (.seq (.keep [8, 26, 27])
 (.ops false [o 40 (.bin .add (t 27) (ci 1)), o 27 (.mv (t 40))]))))) (.keep [8, 26, 27]))))))
 (.seq (.keep [8])
 (.seq (.ops false [o 41 (.mv (t 8)), o 4 (.mv (t 41)), o 5 (.mv (ci 0))])
 .ret)))))))))⟩
/-- coroner/picks.New -/
def F_picks_New : AFn := ⟨2, [.tmp 4],
 (.seq (.ops false [o 4 (.mv (.const (.pointer none)))])
 (.seq (.ops false [o 5 (.mv (t 0)), o 6 (.call (.func n_slices_Clone_int_int) [(t 5)]), o 7 (.mv (t 1)), o 8 (.build [(.bool false), (.slice none 0 0), (.int .i64 0), (.int .i64 0), (.int .i64 0)] [(0, (1, (.const (.bool true)))), (1, (1, (t 6))), (2, (1, (t 7)))]), o 9 (.box (t 8)), o 4 (.mv (t 9))])
 .ret))⟩
/-- coroner/coronerlaw10.halves -/
def F_l10_halves : AFn := ⟨2, [.tmp 4],
 (.seq (.ops false [o 4 (.mv (.const (.slice none 0 0)))])
 (.seq (.ops false [o 5 (.mv (t 1)), o 6 (.call (.func n_r10_Of) [(t 5)]), o 4 (.mv (t 6))])
 .ret))⟩
/-- (*coroner/pool.Pool[int]).Who -/
def F_pool_Pool_int_Who : AFn := ⟨1, [.tmp 2],
 (.seq (.ops false [o 2 (.mv (.const (.slice none 0 0)))])
 (.seq (.seq (.ops false [o 3 (.mv (t 0)), o 4 (.call (.func n_pool_Pool_int_is) [(t 3)]), o 5 (.un .not (t 4))])
 (.cond (t 5)
 (.seq (.ops false [o 2 (.mv (.const (.slice none 0 0)))])
 .ret)
 .skip))
 (.seq (.ops false [o 6 (.mv (t 0)), o 7 (.nilc (t 6)), o 8 (.faddr 5 (t 7)), o 9 (.load1 (t 8)), o 10 (.call (.func n_slices_Clone_int_int) [(t 9)]), o 2 (.mv (t 10))])
 .ret)))⟩
/-- coroner/coronerref10.Jobs -/
def F_r10_Jobs : AFn := ⟨1, [.tmp 2],
 (.seq (.ops false [o 2 (.mv (ci 0))])
 (.seq (.ops false [o 3 (.mv (ci 0))])
 (.seq (.seq (.ops false [o 4 (.mv (ci 0))])
 (.seq (.keep [0, 3, 4]) (.block 0 (.loop (.seq (.seq (.seq (.ops false [o 5 (.mv (t 4)), o 6 (.mv (t 0)), o 7 (.len 1 (t 6)), o 8 (.bin .lss (t 5) (t 7))])
 (.cond (t 8)
 .skip
 (.exit 0)))
 (.seq (.block 1 (.seq (.ops false [o 11 (.mv (t 3)), o 12 (.bin .add (t 11) (ci 1)), o 3 (.mv (t 12))])
 (.seq (.ops false [o 13 (.mv (t 0)), o 14 (.mv (t 4)), o 15 (.iaddr 1 (t 13) (t 14)), o 16 (.load1 (t 15)), o 17 (.bin .gtr (t 16) (ci 1))])
 (.cond (t 17)
 (.ops false [o 18 (.mv (t 3)), o 19 (.mv (t 0)), o 20 (.mv (t 4)), o 21 (.iaddr 1 (t 19) (t 20)), o 22 (.load1 (t 21)), o 23 (.bin .sub (t 22) (ci 1)), o 24 (.bin .mul (ci 2) (t 23)), o 25 (.bin .add (t 18) (t 24)), o 3 (.mv (t 25))])
 .skip))))
 (.seq (.keep [0, 3, 4])
 (.ops false [o 9 (.mv (t 4)), o 10 (.bin .add (t 9) (ci 1)), o 4 (.mv (t 10))])))) (.keep [0, 3, 4]))))))
 (.seq (.keep [3])
 (.seq (.ops false [o 26 (.mv (t 3)), o 2 (.mv (t 26))])
 .ret)))))⟩
/-- coroner/coronerref10.Of -/
def F_r10_Of : AFn := ⟨1, [.tmp 2],
 (.seq (.ops false [o 2 (.mv (.const (.slice none 0 0)))])
 (.seq (.seq (.ops false [o 3 (.mv (t 0)), o 4 (.bin .lss (t 3) (ci 2))])
 (.cond (t 4)
 (.seq (.ops false [o 2 (.mv (.const (.slice none 0 0)))])
 .ret)
 .skip))
 (.seq (.ops false [o 5 (.mv (t 0)), o 6 (.bin .quo (t 5) (ci 2)), o 7 (.mv (t 0)), o 8 (.mv (t 0)), o 9 (.bin .quo (t 8) (ci 2)), o 10 (.bin .sub (t 7) (t 9)), o 11 (.bslice 1 2 [(.int .i64 0), (.int .i64 0)] [(0, (1, (t 6))), (1, (1, (t 10)))]), o 2 (.mv (t 11))])
 (.seq (.keep [2])
 .ret))))⟩
/-- (*coroner/pool.Pool[string]).Run -/
def F_pool_Pool_string_Run : AFn := ⟨2, [.tmp 4],
 (.seq (.ops false [o 4 (.mv (ci 0))])
 (.seq (.seq (.ops false [o 9 (.mv (t 0)), o 10 (.call (.func n_pool_Pool_string_is) [(t 9)]), o 11 (.un .not (t 10))])
 (.cond (t 11)
 (.seq (.ops false [o 4 (.mv (ci 1))])
 .ret)
 .skip))
 (.seq (.keep [0, 1, 4]) (.block 0 (.loop (.seq (.block 1 (.seq (.ops false [o 5 (.alloc [(.slice none 0 0)])])
 (.seq (.seq (.ops false [o 12 (.mv (t 0)), o 13 (.call (.func n_pool_Pool_string_ready) [(t 12)])])
 (.block 2 (.rfun (t 13) [14]
 (.ops false [o 6 (.mv (t 14))])
 (.block 3 (.ops false [o 15 (.load1 (t 5)), o 16 (.mv (t 6)), o 17 (.bslice 1 1 [(.int .i64 0)] [(0, (1, (t 16)))]), o 18 (.append 1 8 (t 15) (t 17)), s (.store 1 (t 5) (t 18))])))))
 (.seq (.keep [0, 1, 4, 5])
 (.seq (.seq (.ops false [o 19 (.load1 (t 5)), o 20 (.len 1 (t 19)), o 21 (.bin .eql (t 20) (ci 0))])
 (.cond (t 21)
 (.seq (.ops false [o 4 (.mv (ci 0))])
 .ret)
 .skip))
 (.seq (.ops true [o 23 (.mv (t 0)), o 24 (.nilc (t 23)), o 25 (.faddr 0 (t 24)), o 26 (.load1 (t 25)), o 27 (.load1 (t 5)), b 28 (.call (.func n_picks_Script_Step) [(t 26), (t 27)]), b 22 (.mv (t 28)), o 29 (.extract 0 (t 22)), o 30 (.extract 1 (t 22)), o 7 (.mv (t 29)), b 8 (.mv (t 30))])
 (.seq (.keep [0, 1, 4, 7, 8])
 (.seq (.seq (.ops false [o 31 (.mv (t 8)), o 32 (.bin .neq (t 31) (ci 0))])
 (.cond (t 32)
 (.seq (.ops false [o 33 (.mv (t 8)), o 4 (.mv (t 33))])
 .ret)
 .skip))
 (.ops false [o 34 (.mv (t 0)), o 35 (.mv (t 7)), o 36 (.mv (t 1)), o 37 (.call (.func n_pool_Pool_string_step) [(t 34), (t 35), (t 36)])]))))))))) (.keep [0, 1, 4])))))))⟩
/-- (*coroner/pool.Pool[string]).Who -/
def F_pool_Pool_string_Who : AFn := ⟨1, [.tmp 2],
 (.seq (.ops false [o 2 (.mv (.const (.slice none 0 0)))])
 (.seq (.seq (.ops false [o 3 (.mv (t 0)), o 4 (.call (.func n_pool_Pool_string_is) [(t 3)]), o 5 (.un .not (t 4))])
 (.cond (t 5)
 (.seq (.ops false [o 2 (.mv (.const (.slice none 0 0)))])
 .ret)
 .skip))
 (.seq (.ops false [o 6 (.mv (t 0)), o 7 (.nilc (t 6)), o 8 (.faddr 5 (t 7)), o 9 (.load1 (t 8)), o 10 (.call (.func n_slices_Clone_int_int) [(t 9)]), o 2 (.mv (t 10))])
 .ret)))⟩
/-- (*coroner/pool.Pool[int]).ready -/
def F_pool_Pool_int_ready : AFn := ⟨1, [.tmp 2],
 (.seq (.ops false [o 1 (.box (t 0)), o 2 (.mv (.const .nilFunc))])
 (.seq (.ops false [o 3 (.mkf n_pool_Pool_int_ready_c1 [] [(t 1)]), o 2 (.mv (t 3))])
 .ret))⟩
/-- coroner/coronerref10.step -/
def F_r10_step : AFn := ⟨2, [.cellN 4 11],
 (.seq (.ops false [o 2 (.box (t 0)), o 4 (.alloc [(.slice none 0 0), (.int .i64 0), (.int .i64 0), (.int .i64 0), (.slice none 0 0), (.slice none 0 0), (.slice none 0 0), (.slice none 0 0), (.int .i64 0), (.int .i64 0), (.slice none 0 0)])])
 (.seq (.ops false [o 10 (.bslice 1 0 [] []), o 11 (.faddr 10 (t 2)), o 12 (.load1 (t 11)), o 13 (.append 1 8 (t 10) (t 12)), o 14 (.mv (t 1)), o 15 (.bslice 1 1 [(.int .i64 0)] [(0, (1, (t 14)))]), o 16 (.append 1 8 (t 13) (t 15)), o 17 (.faddr 10 (t 2)), s (.store 1 (t 17) (t 16))])
 (.seq (.keep [1, 2, 4])
 (.seq (.seq (.ops false [o 18 (.faddr 6 (t 2)), o 19 (.load1 (t 18)), o 20 (.mv (t 1)), o 21 (.iaddr 1 (t 19) (t 20)), o 22 (.load1 (t 21))])
 (.cond (t 22)
 (.seq (.ops false [o 23 (.faddr 5 (t 2)), o 24 (.load1 (t 23)), o 25 (.mv (t 1)), o 26 (.iaddr 1 (t 24) (t 25)), o 27 (.load1 (t 26)), o 5 (.mv (t 27))])
 (.seq (.ops false [o 28 (.loadN 11 (t 2)), o 29 (.mv (t 1)), o 30 (.call (.func n_r10_hold) [(t 28), (t 29), (ci 0), (.const (.bool false))]), s (.store 11 (t 2) (t 30))])
 (.seq (.ops false [o 31 (.bslice 1 0 [] []), o 32 (.faddr 7 (t 2)), o 33 (.load1 (t 32)), o 34 (.append 1 8 (t 31) (t 33)), o 35 (.mv (t 5)), o 36 (.bslice 1 1 [(.int .i64 0)] [(0, (1, (t 35)))]), o 37 (.append 1 8 (t 34) (t 36)), o 38 (.faddr 7 (t 2)), s (.store 1 (t 38) (t 37))])
 (.seq (.keep [1, 2, 4, 5])
 (.seq (.ops false [o 39 (.mv (t 5)), o 40 (.call (.func n_r10_Of) [(t 39)]), o 6 (.mv (t 40))])
 (.seq (.seq (.ops false [o 7 (.mv (ci 0))])
 (.seq (.keep [1, 2, 4, 6, 7]) (.block 0 (.loop (.seq (.seq (.seq (.ops false [o 41 (.mv (t 7)), o 42 (.mv (t 6)), o 43 (.len 1 (t 42)), o 44 (.bin .lss (t 41) (t 43))])
 (.cond (t 44)
 .skip
 (.exit 0)))
 (.seq (.block 1 (.ops true [o 47 (.loadN 11 (t 2)), o 48 (.mv (t 1)), o 49 (.mv (t 6)), o 50 (.mv (t 7)), o 51 (.iaddr 1 (t 49) (t 50)), o 52 (.load1 (t 51)), b 53 (.call (.func n_r10_push) [(t 47), (t 48), (t 52)]), sb (.store 11 (t 2) (t 53))]))
 (.seq (.keep [1, 2, 4, 6, 7])
 (.ops false [o 45 (.mv (t 7)), o 46 (.bin .add (t 45) (ci 1)), o 7 (.mv (t 46))])))) (.keep [1, 2, 4, 6, 7]))))))
 (.seq (.keep [2, 4])
 (.seq (.ops false [o 54 (.loadN 11 (t 2)), s (.store 11 (t 4) (t 54))])
 .ret))))))))
 .skip))
 (.seq (.keep [1, 2, 4])
 (.seq (.seq (.ops false [o 55 (.faddr 4 (t 2)), o 56 (.load1 (t 55)), o 57 (.mv (t 1)), o 58 (.iaddr 1 (t 56) (t 57)), o 59 (.load1 (t 58)), o 60 (.len 1 (t 59)), o 61 (.bin .gtr (t 60) (ci 0))])
 (.seq (.keep [1, 2, 4, 61])
 (.cond (t 61)
 (.seq (.ops false [o 62 (.loadN 11 (t 2)), o 63 (.mv (t 1)), o 64 (.mv (t 1)), o 65 (.call (.func n_r10_take) [(t 62), (t 63), (t 64), (.const (.bool true))]), s (.store 11 (t 4) (t 65))])
 .ret)
 .skip)))
 (.seq (.keep [1, 2, 4])
 (.seq (.seq (.ops false [o 8 (.mv (ci 1))])
 (.seq (.keep [1, 2, 4, 8]) (.block 2 (.loop (.seq (.seq (.seq (.ops false [o 66 (.mv (t 8)), o 67 (.faddr 4 (t 2)), o 68 (.load1 (t 67)), o 69 (.len 1 (t 68)), o 70 (.bin .lss (t 66) (t 69))])
 (.cond (t 70)
 .skip
 (.exit 2)))
 (.seq (.block 3 (.seq (.ops false [o 73 (.mv (t 1)), o 74 (.mv (t 8)), o 75 (.bin .add (t 73) (t 74)), o 76 (.faddr 4 (t 2)), o 77 (.load1 (t 76)), o 78 (.len 1 (t 77)), o 79 (.bin .rem (t 75) (t 78)), o 9 (.mv (t 79))])
 (.seq (.keep [1, 2, 4, 8, 9])
 (.seq (.ops false [o 80 (.faddr 4 (t 2)), o 81 (.load1 (t 80)), o 82 (.mv (t 9)), o 83 (.iaddr 1 (t 81) (t 82)), o 84 (.load1 (t 83)), o 85 (.len 1 (t 84)), o 86 (.bin .gtr (t 85) (ci 0))])
 (.seq (.keep [1, 2, 4, 8, 9, 86])
 (.cond (t 86)
 (.seq (.ops false [o 87 (.faddr 8 (t 2)), o 88 (.load1 (t 87)), o 89 (.bin .add (t 88) (ci 1)), o 90 (.faddr 8 (t 2)), s (.store 1 (t 90) (t 89))])
 (.seq (.ops false [o 91 (.loadN 11 (t 2)), o 92 (.mv (t 1)), o 93 (.mv (t 9)), o 94 (.call (.func n_r10_take) [(t 91), (t 92), (t 93), (.const (.bool false))]), s (.store 11 (t 4) (t 94))])
 .ret))
 .skip))))))
 (.seq (.keep [1, 2, 4, 8])
 (.ops false [o 71 (.mv (t 8)), o 72 (.bin .add (t 71) (ci 1)), o 8 (.mv (t 72))])))) (.keep [1, 2, 4, 8]))))))
 (.seq (.keep [2, 4])
 (.seq (.ops false [o 95 (.loadN 11 (t 2)), s (.store 11 (t 4) (t 95))])
 .ret))))))))))⟩
/-- (coroner/sorted.Set[int]).List -/
def F_sorted_Set_int_List : AFn := ⟨1, [.tmp 2],
 (.seq (.ops false [o 1 (.box (t 0)), o 2 (.mv (.const (.slice none 0 0)))])
 (.seq (.ops false [o 3 (.faddr 0 (t 1)), o 4 (.load1 (t 3)), o 5 (.call (.func n_slices_Clone_int_int) [(t 4)]), o 2 (.mv (t 5))])
 .ret))⟩
/-- (*coroner/pool.Pool[string]).ready -/
def F_pool_Pool_string_ready : AFn := ⟨1, [.tmp 2],
 (.seq (.ops false [o 1 (.box (t 0)), o 2 (.mv (.const .nilFunc))])
 (.seq (.ops false [o 3 (.mkf n_pool_Pool_string_ready_c1 [] [(t 1)]), o 2 (.mv (t 3))])
 .ret))⟩
/-- (*coroner/deque.Deque[int]).at -/
def F_deque_Deque_int_at : AFn := ⟨2, [.tmp 4],
 (.seq (.ops false [o 4 (.mv (ci 0))])
 (.seq (.ops true [o 5 (.mv (t 0)), o 6 (.nilc (t 5)), o 7 (.faddr 1 (t 6)), o 8 (.load1 (t 7)), o 9 (.mv (t 1)), o 10 (.bin .add (t 8) (t 9)), o 11 (.mv (t 0)), o 12 (.nilc (t 11)), o 13 (.faddr 0 (t 12)), o 14 (.load1 (t 13)), o 15 (.len 1 (t 14)), b 16 (.bin .rem (t 10) (t 15)), b 4 (.mv (t 16))])
 (.seq (.keep [4])
 .ret)))⟩
/-- coroner/coronerref10.hold -/
def F_r10_hold : AFn := ⟨4, [.cellN 8 11],
 (.seq (.ops false [o 4 (.box (t 0)), o 8 (.alloc [(.slice none 0 0), (.int .i64 0), (.int .i64 0), (.int .i64 0), (.slice none 0 0), (.slice none 0 0), (.slice none 0 0), (.slice none 0 0), (.int .i64 0), (.int .i64 0), (.slice none 0 0)])])
 (.seq (.ops false [o 9 (.bslice 1 0 [] []), o 10 (.faddr 5 (t 4)), o 11 (.load1 (t 10)), o 12 (.append 1 8 (t 9) (t 11)), o 13 (.faddr 5 (t 4)), s (.store 1 (t 13) (t 12))])
 (.seq (.ops false [o 14 (.bslice 1 0 [] []), o 15 (.faddr 6 (t 4)), o 16 (.load1 (t 15)), o 17 (.append 1 1 (t 14) (t 16)), o 18 (.faddr 6 (t 4)), s (.store 1 (t 18) (t 17))])
 (.seq (.ops false [o 19 (.faddr 5 (t 4)), o 20 (.load1 (t 19)), o 21 (.mv (t 1)), o 22 (.mv (t 2)), o 23 (.iaddr 1 (t 20) (t 21)), s (.store 1 (t 23) (t 22))])
 (.seq (.ops false [o 24 (.faddr 6 (t 4)), o 25 (.load1 (t 24)), o 26 (.mv (t 1)), o 27 (.mv (t 3)), o 28 (.iaddr 1 (t 25) (t 26)), s (.store 1 (t 28) (t 27))])
 (.seq (.ops false [o 29 (.loadN 11 (t 4)), s (.store 11 (t 8) (t 29))])
 .ret))))))⟩
/-- (*coroner/pool.Pool[string]).ready$1 -/
def F_pool_Pool_string_ready_c1 : AFn := ⟨2, [],
 (.seq (.ops false [o 6 (.load1 (t 1)), o 7 (.call (.func n_pool_Pool_string_waiting) [(t 6)]), o 8 (.bin .gtr (t 7) (ci 0)), o 3 (.mv (t 8))])
 (.seq (.ops false [o 9 (.load1 (t 1)), o 10 (.nilc (t 9)), o 11 (.faddr 1 (t 10)), o 12 (.load1 (t 11)), o 13 (.len 1 (t 12)), o 14 (.mv (ci 0))])
 (.seq (.keep [0, 3, 12, 13, 14]) (.block 0 (.loop (.seq (.seq (.ops false [o 15 (.bin .lss (t 14) (t 13))])
 (.seq (.cond (t 15)
 .skip
 (.exit 0))
 (.seq (.block 1 (.seq (.ops false [o 16 (.mv (t 14)), o 17 (.iaddr 1 (t 12) (t 14)), o 18 (.load1 (t 17)), o 4 (.mv (t 16)), o 5 (.mv (t 18))])
 (.seq (.ops false [o 19 (.mv (t 5)), o 20 (.nilc (t 19)), o 21 (.faddr 4 (t 20)), o 22 (.load1 (t 21)), o 23 (.mv (t 22)), ⟨(some 24), .mv (t 3), some (23, false), false⟩, o 25 (.pick (t 23) (.const (.bool true)) (t 24)), o 26 (.mv (t 25)), ⟨(some 27), .mv (t 0), some (26, true), false⟩, ⟨(some 28), .mv (t 4), some (26, true), false⟩, ⟨(some 29), .call (t 27) [(t 28)], some (26, true), false⟩, ⟨(some 30), .un .not (t 29), some (26, true), false⟩, o 31 (.pick (t 26) (t 30) (.const (.bool false)))])
 (.seq (.keep [0, 3, 12, 13, 14, 31])
 (.cond (t 31)
 .ret
 .skip)))))
 (.seq (.keep [0, 3, 12, 13, 14])
 (.ops false [o 32 (.bin .add (t 14) (ci 1)), o 14 (.mv (t 32))]))))) (.keep [0, 3, 12, 13, 14])))))))⟩
/-- (*coroner/deque.Deque[int]).Pop -/
def F_deque_Deque_int_Pop : AFn := ⟨1, [.tmp 2, .tmp 3],
 (.seq (.ops false [o 2 (.mv (ci 0)), o 3 (.mv (.const (.bool false)))])
 (.seq (.ops false [o 4 (.mv (ci 0))])
 (.seq (.seq (.ops false [o 5 (.mv (t 0)), o 6 (.call (.func n_deque_Deque_int_Len) [(t 5)]), o 7 (.bin .eql (t 6) (ci 0))])
 (.cond (t 7)
 (.seq (.ops false [o 8 (.mv (t 4)), o 2 (.mv (t 8)), o 3 (.mv (.const (.bool false)))])
 .ret)
 .skip))
 (.seq (.ops false [o 9 (.mv (t 0)), o 10 (.mv (t 0)), o 11 (.nilc (t 10)), o 12 (.faddr 2 (t 11)), o 13 (.load1 (t 12)), o 14 (.bin .sub (t 13) (ci 1)), o 15 (.call (.func n_deque_Deque_int_take) [(t 9), (t 14)]), o 2 (.mv (t 15)), o 3 (.mv (.const (.bool true)))])
 (.seq (.keep [2, 3])
 .ret)))))⟩
/-- (*coroner/deque.Deque[string]).List -/
def F_deque_Deque_string_List : AFn := ⟨1, [.tmp 2],
 (.seq (.ops false [o 2 (.mv (.const (.slice none 0 0)))])
 (.seq (.ops false [o 3 (.alloc [(.slice none 0 0)])])
 (.seq (.seq (.ops false [o 5 (.mv (t 0)), o 6 (.call (.func n_deque_Deque_string_each) [(t 5)])])
 (.block 0 (.rfun (t 6) [7]
 (.ops false [o 4 (.mv (t 7))])
 (.block 1 (.ops false [o 8 (.load1 (t 3)), o 9 (.mv (t 4)), o 10 (.bslice 1 1 [(.string ⟨#[]⟩)] [(0, (1, (t 9)))]), o 11 (.append 1 16 (t 8) (t 10)), s (.store 1 (t 3) (t 11))])))))
 (.seq (.keep [3])
 (.seq (.ops false [o 12 (.load1 (t 3)), o 2 (.mv (t 12))])
 .ret)))))⟩
/-- (*coroner/deque.Deque[int]).take -/
def F_deque_Deque_int_take : AFn := ⟨2, [.tmp 4],
 (.seq (.ops false [o 4 (.mv (ci 0))])
 (.seq (.ops false [o 5 (.mv (ci 0))])
 (.seq (.ops false [o 8 (.mv (t 0)), o 9 (.mv (t 1)), o 10 (.call (.func n_deque_Deque_int_at) [(t 8), (t 9)]), o 6 (.mv (t 10))])
 (.seq (.ops false [o 11 (.mv (t 0)), o 12 (.nilc (t 11)), o 13 (.faddr 0 (t 12)), o 14 (.load1 (t 13)), o 15 (.mv (t 6)), o 16 (.iaddr 1 (t 14) (t 15)), o 17 (.load1 (t 16)), o 7 (.mv (t 17))])
 (.seq (.keep [0, 5, 6, 7])
 (.seq (.ops false [o 18 (.mv (t 0)), o 19 (.nilc (t 18)), o 20 (.faddr 0 (t 19)), o 21 (.load1 (t 20)), o 22 (.mv (t 6)), o 23 (.mv (t 5)), o 24 (.iaddr 1 (t 21) (t 22)), s (.store 1 (t 24) (t 23))])
 (.seq (.keep [0, 7])
 (.seq (.ops false [o 25 (.mv (t 0)), o 26 (.nilc (t 25)), o 27 (.faddr 2 (t 26)), o 28 (.load1 (t 27)), o 29 (.bin .sub (t 28) (ci 1)), o 30 (.nilc (t 25)), o 31 (.faddr 2 (t 30)), s (.store 1 (t 31) (t 29))])
 (.seq (.keep [7])
 (.seq (.ops false [o 32 (.mv (t 7)), o 4 (.mv (t 32))])
 .ret))))))))))⟩
/-- coroner/coronerref10.New -/
def F_r10_New : AFn := ⟨2, [.cellN 4 11, .tmp 5],
 (.seq (.ops false [o 3 (.box (t 1)), o 4 (.alloc [(.slice none 0 0), (.int .i64 0), (.int .i64 0), (.int .i64 0), (.slice none 0 0), (.slice none 0 0), (.slice none 0 0), (.slice none 0 0), (.int .i64 0), (.int .i64 0), (.slice none 0 0)]), o 5 (.mv (ci 0))])
 (.seq (.seq (.ops false [o 6 (.mv (t 0)), o 7 (.bin .lss (t 6) (ci 1)), o 8 (.mv (t 7)), ⟨(some 9), .mv (t 0), some (8, false), false⟩, ⟨(some 10), .bin .gtr (t 9) (ci 64), some (8, false), false⟩, o 11 (.pick (t 8) (.const (.bool true)) (t 10))])
 (.cond (t 11)
 (.seq (.ops false [o 12 (.build [(.slice none 0 0), (.int .i64 0), (.int .i64 0), (.int .i64 0), (.slice none 0 0), (.slice none 0 0), (.slice none 0 0), (.slice none 0 0), (.int .i64 0), (.int .i64 0), (.slice none 0 0)] []), s (.store 11 (t 4) (t 12)), o 5 (.mv (ci 7))])
 .ret)
 .skip))
 (.seq (.keep [0, 3, 4])
 (.seq (.ops true [o 13 (.loadN 4 (t 3)), o 14 (.mv (t 0)), o 15 (.mkslice 1 24 [(.slice none 0 0)] (t 14) (t 14)), o 16 (.mv (t 0)), o 17 (.mkslice 1 8 [(.int .i64 0)] (t 16) (t 16)), o 18 (.mv (t 0)), o 19 (.mkslice 1 1 [(.bool false)] (t 18) (t 18)), b 20 (.build [(.slice none 0 0), (.int .i64 0), (.int .i64 0), (.int .i64 0), (.slice none 0 0), (.slice none 0 0), (.slice none 0 0), (.slice none 0 0), (.int .i64 0), (.int .i64 0), (.slice none 0 0)] [(0, (4, (t 13))), (4, (1, (t 15))), (5, (1, (t 17))), (6, (1, (t 19)))]), sb (.store 11 (t 4) (t 20)), b 5 (.mv (ci 0))])
 (.seq (.keep [4, 5])
 .ret)))))⟩
/-- coroner/coronerref10.Run -/
def F_r10_Run : AFn := ⟨2, [.cellN 4 11, .tmp 5],
 (.seq (.ops false [o 2 (.box (t 0)), o 4 (.alloc [(.slice none 0 0), (.int .i64 0), (.int .i64 0), (.int .i64 0), (.slice none 0 0), (.slice none 0 0), (.slice none 0 0), (.slice none 0 0), (.int .i64 0), (.int .i64 0), (.slice none 0 0)]), o 5 (.mv (ci 0))])
 (.seq (.seq (.ops false [o 6 (.mv (ci 0))])
 (.seq (.keep [1, 2, 4, 6]) (.block 0 (.loop (.seq (.seq (.seq (.ops false [o 11 (.mv (t 6)), o 12 (.mv (t 1)), o 13 (.bin .leq (t 11) (t 12))])
 (.cond (t 13)
 .skip
 (.exit 0)))
 (.seq (.block 1 (.seq (.ops false [o 16 (.loadN 11 (t 2)), o 17 (.call (.func n_r10_ready) [(t 16)]), o 7 (.mv (t 17))])
 (.seq (.seq (.ops false [o 18 (.mv (t 7)), o 19 (.len 1 (t 18)), o 20 (.bin .eql (t 19) (ci 0))])
 (.cond (t 20)
 (.seq (.ops false [o 21 (.loadN 11 (t 2)), s (.store 11 (t 4) (t 21)), o 5 (.mv (ci 0))])
 .ret)
 .skip))
 (.seq (.ops false [o 23 (.faddr 0 (t 2)), o 24 (.loadN 4 (t 23)), o 25 (.mv (t 7)), o 26 (.call (.func n_r09_Step) [(t 24), (t 25)]), o 22 (.mv (t 26)), o 27 (.extract 0 (t 22)), o 28 (.extract 1 (t 22)), o 29 (.extract 2 (t 22)), o 8 (.alloc [(.slice none 0 0), (.int .i64 0), (.int .i64 0), (.int .i64 0)]), s (.store 4 (t 8) (t 27)), o 9 (.mv (t 28)), o 10 (.mv (t 29))])
 (.seq (.keep [1, 2, 4, 6, 8, 9, 10])
 (.seq (.seq (.ops false [o 30 (.mv (t 10)), o 31 (.bin .neq (t 30) (ci 0))])
 (.cond (t 31)
 (.seq (.ops false [o 32 (.loadN 11 (t 2)), o 33 (.mv (t 10)), s (.store 11 (t 4) (t 32)), o 5 (.mv (t 33))])
 .ret)
 .skip))
 (.seq (.ops false [o 34 (.loadN 4 (t 8)), o 35 (.faddr 0 (t 2)), s (.store 4 (t 35) (t 34))])
 (.ops false [o 36 (.loadN 11 (t 2)), o 37 (.mv (t 9)), o 38 (.call (.func n_r10_step) [(t 36), (t 37)]), s (.store 11 (t 2) (t 38))]))))))))
 (.seq (.keep [1, 2, 4, 6])
 (.ops false [o 14 (.mv (t 6)), o 15 (.bin .add (t 14) (ci 1)), o 6 (.mv (t 15))])))) (.keep [1, 2, 4, 6]))))))
 (.seq (.keep [2, 4])
 (.seq (.ops false [o 39 (.loadN 11 (t 2)), s (.store 11 (t 4) (t 39)), o 5 (.mv (ci 0))])
 .ret))))⟩
/-- (*coroner/pool.Pool[int]).Done -/
def F_pool_Pool_int_Done : AFn := ⟨1, [.tmp 2],
 (.seq (.ops false [o 2 (.mv (ci 0))])
 (.seq (.seq (.ops false [o 3 (.mv (t 0)), o 4 (.call (.func n_pool_Pool_int_is) [(t 3)]), o 5 (.un .not (t 4))])
 (.cond (t 5)
 (.seq (.ops false [o 2 (.mv (ci 0))])
 .ret)
 .skip))
 (.seq (.ops false [o 6 (.mv (t 0)), o 7 (.nilc (t 6)), o 8 (.faddr 3 (t 7)), o 9 (.load1 (t 8)), o 2 (.mv (t 9))])
 .ret)))⟩
/-- coroner/coronerlaw10.born -/
def F_l10_born : AFn := ⟨1, [.tmp 2],
 (.seq (.ops false [o 1 (.box (t 0)), o 2 (.mv (ci 0))])
 (.seq (.ops false [o 3 (.mv (ci 0))])
 (.seq (.seq (.ops false [o 4 (.mv (ci 0))])
 (.seq (.keep [1, 3, 4]) (.block 0 (.loop (.seq (.seq (.seq (.ops false [o 5 (.mv (t 4)), o 6 (.faddr 4 (t 1)), o 7 (.load1 (t 6)), o 8 (.len 1 (t 7)), o 9 (.bin .lss (t 5) (t 8)), o 10 (.mv (t 9)), ⟨(some 11), .mv (t 4), some (10, true), false⟩, ⟨(some 12), .faddr 6 (t 1), some (10, true), false⟩, ⟨(some 13), .load1 (t 12), some (10, true), false⟩, ⟨(some 14), .len 1 (t 13), some (10, true), false⟩, ⟨(some 15), .bin .lss (t 11) (t 14), some (10, true), false⟩, o 16 (.pick (t 10) (t 15) (.const (.bool false))), o 17 (.mv (t 16)), ⟨(some 18), .mv (t 4), some (17, true), false⟩, ⟨(some 19), .faddr 5 (t 1), some (17, true), false⟩, ⟨(some 20), .load1 (t 19), some (17, true), false⟩, ⟨(some 21), .len 1 (t 20), some (17, true), false⟩, ⟨(some 22), .bin .lss (t 18) (t 21), some (17, true), false⟩, o 23 (.pick (t 17) (t 22) (.const (.bool false)))])
 (.seq (.keep [1, 3, 4, 23])
 (.cond (t 23)
 .skip
 (.exit 0))))
 (.seq (.keep [1, 3, 4])
 (.seq (.block 1 (.seq (.ops true [o 26 (.mv (t 3)), o 27 (.faddr 4 (t 1)), o 28 (.load1 (t 27)), o 29 (.mv (t 4)), o 30 (.iaddr 1 (t 28) (t 29)), o 31 (.load1 (t 30)), o 32 (.call (.func n_r10_Jobs) [(t 31)]), o 33 (.bin .add (t 26) (t 32)), o 34 (.faddr 4 (t 1)), o 35 (.load1 (t 34)), o 36 (.mv (t 4)), o 37 (.iaddr 1 (t 35) (t 36)), o 38 (.load1 (t 37)), o 39 (.len 1 (t 38)), b 40 (.bin .sub (t 33) (t 39)), b 3 (.mv (t 40))])
 (.seq (.keep [1, 3, 4])
 (.seq (.ops false [o 41 (.faddr 6 (t 1)), o 42 (.load1 (t 41)), o 43 (.mv (t 4)), o 44 (.iaddr 1 (t 42) (t 43)), o 45 (.load1 (t 44))])
 (.cond (t 45)
 (.ops false [o 46 (.mv (t 3)), o 47 (.faddr 5 (t 1)), o 48 (.load1 (t 47)), o 49 (.mv (t 4)), o 50 (.iaddr 1 (t 48) (t 49)), o 51 (.load1 (t 50)), o 52 (.bslice 1 1 [(.int .i64 0)] [(0, (1, (t 51)))]), o 53 (.call (.func n_r10_Jobs) [(t 52)]), o 54 (.bin .add (t 46) (t 53)), o 55 (.bin .sub (t 54) (ci 1)), o 3 (.mv (t 55))])
 .skip)))))
 (.seq (.keep [1, 3, 4])
 (.ops false [o 24 (.mv (t 4)), o 25 (.bin .add (t 24) (ci 1)), o 4 (.mv (t 25))]))))) (.keep [1, 3, 4]))))))
 (.seq (.keep [3])
 (.seq (.ops false [o 56 (.mv (t 3)), o 2 (.mv (t 56))])
 .ret)))))⟩
/-- coroner/coronerref05.Of -/
def F_r05_Of : AFn := ⟨1, [.tmp 2],
 (.seq (.ops false [o 2 (.mv (.const (.slice none 0 0)))])
 (.seq (.ops false [o 3 (.mv (.const (.slice none 0 0)))])
 (.seq (.seq (.ops false [o 4 (.mv (ci 0))])
 (.seq (.keep [0, 3, 4]) (.block 0 (.loop (.seq (.seq (.seq (.ops false [o 8 (.mv (t 4)), o 9 (.mv (t 0)), o 10 (.len 1 (t 9)), o 11 (.bin .leq (t 8) (t 10))])
 (.cond (t 11)
 .skip
 (.exit 0)))
 (.seq (.block 1 (.seq (.ops false [o 5 (.mv (ci 0)), o 6 (.mv (.const (.bool false)))])
 (.seq (.seq (.ops false [o 7 (.mv (ci 0))])
 (.seq (.keep [0, 3, 4, 5, 6, 7]) (.block 2 (.loop (.seq (.seq (.seq (.ops false [o 14 (.mv (t 7)), o 15 (.mv (t 0)), o 16 (.len 1 (t 15)), o 17 (.bin .lss (t 14) (t 16))])
 (.cond (t 17)
 .skip
 (.exit 2)))
 (.seq (.block 3 (.seq (.ops false [o 20 (.mv (t 3)), o 21 (.mv (t 0)), o 22 (.mv (t 7)), o 23 (.iaddr 1 (t 21) (t 22)), o 24 (.load1 (t 23)), o 25 (.call (.func n_r05_Has) [(t 20), (t 24)]), o 26 (.un .not (t 25)), o 27 (.mv (t 26)), ⟨(some 28), .mv (t 6), some (27, true), false⟩, ⟨(some 29), .un .not (t 28), some (27, true), false⟩, ⟨(some 30), .mv (t 29), some (27, true), false⟩, ⟨(some 31), .mv (t 0), some (30, false), false⟩, ⟨(some 32), .mv (t 7), some (30, false), false⟩, ⟨(some 33), .iaddr 1 (t 31) (t 32), some (30, false), false⟩, ⟨(some 34), .load1 (t 33), some (30, false), false⟩, ⟨(some 35), .mv (t 5), some (30, false), false⟩, ⟨(some 36), .bin .lss (t 34) (t 35), some (30, false), false⟩, ⟨(some 37), .pick (t 30) (.const (.bool true)) (t 36), some (27, true), false⟩, o 38 (.pick (t 27) (t 37) (.const (.bool false)))])
 (.seq (.keep [0, 3, 4, 5, 6, 7, 38])
 (.cond (t 38)
 (.ops false [o 39 (.mv (t 0)), o 40 (.mv (t 7)), o 41 (.iaddr 1 (t 39) (t 40)), o 42 (.load1 (t 41)), o 5 (.mv (t 42)), o 6 (.mv (.const (.bool true)))])
 .skip))))
 (.seq (.keep [0, 3, 4, 5, 6, 7])
 (.ops false [o 18 (.mv (t 7)), o 19 (.bin .add (t 18) (ci 1)), o 7 (.mv (t 19))])))) (.keep [0, 3, 4, 5, 6, 7]))))))
 (.seq (.keep [0, 3, 4, 5, 6])
 (.seq (.seq (.ops false [o 43 (.mv (t 6)), o 44 (.un .not (t 43))])
 (.cond (t 44)
 (.seq (.ops false [o 45 (.mv (t 3)), o 2 (.mv (t 45))])
 .ret)
 .skip))
 (.ops false [o 46 (.mv (t 3)), o 47 (.mv (t 5)), o 48 (.bslice 1 1 [(.int .i64 0)] [(0, (1, (t 47)))]), o 49 (.append 1 8 (t 46) (t 48)), o 3 (.mv (t 49))]))))))
 (.seq (.keep [0, 3, 4])
 (.ops false [o 12 (.mv (t 4)), o 13 (.bin .add (t 12) (ci 1)), o 4 (.mv (t 13))])))) (.keep [0, 3, 4]))))))
 (.seq (.keep [3])
 (.seq (.ops false [o 50 (.mv (t 3)), o 2 (.mv (t 50))])
 .ret)))))⟩
/-- (*coroner/picks.Script).Step -/
def F_picks_Script_Step : AFn := ⟨2, [.tmp 4, .tmp 5],
 (.seq (.ops false [o 4 (.mv (ci 0)), o 5 (.mv (ci 0))])
 (.seq (.ops false [o 7 (.mv (t 1)), o 8 (.call (.func n_sorted_Of_int) [(t 7)]), o 6 (.alloc [(.slice none 0 0)]), s (.store 1 (t 6) (t 8))])
 (.seq (.block 0 (.seq (.ops false [o 10 (.mv (t 0)), o 11 (.call (.func n_picks_Script_is) [(t 10)]), o 12 (.un .not (t 11)), o 9 (.mv (t 12))])
 (.cond (t 9)
 (.seq (.ops false [o 4 (.mv (ci 0)), o 5 (.mv (ci 1))])
 .ret)
 (.seq (.ops false [o 14 (.mv (t 0)), o 15 (.call (.func n_picks_Script_Cancelled) [(t 14)]), o 13 (.mv (t 15))])
 (.cond (t 13)
 (.seq (.ops false [o 4 (.mv (ci 0)), o 5 (.mv (ci 8))])
 .ret)
 (.seq (.ops false [o 17 (.loadN 1 (t 6)), o 18 (.call (.func n_sorted_Set_int_Len) [(t 17)]), o 19 (.bin .eql (t 18) (ci 0)), o 16 (.mv (t 19))])
 (.cond (t 16)
 (.seq (.ops false [o 4 (.mv (ci 0)), o 5 (.mv (ci 10))])
 .ret)
 .skip)))))))
 (.seq (.keep [0, 6])
 (.seq (.ops false [o 20 (.mv (t 0)), o 21 (.nilc (t 20)), o 22 (.faddr 3 (t 21)), o 23 (.load1 (t 22)), o 24 (.bin .add (t 23) (ci 1)), o 25 (.nilc (t 20)), o 26 (.faddr 3 (t 25)), s (.store 1 (t 26) (t 24))])
 (.seq (.keep [0, 6])
 (.seq (.ops true [o 27 (.loadN 1 (t 6)), o 28 (.call (.func n_sorted_Set_int_List) [(t 27)]), o 29 (.mv (t 0)), o 30 (.loadN 1 (t 6)), o 31 (.call (.func n_sorted_Set_int_Len) [(t 30)]), b 32 (.call (.func n_picks_Script_choice) [(t 29), (t 31)]), b 33 (.iaddr 1 (t 28) (t 32)), b 34 (.load1 (t 33)), b 4 (.mv (t 34)), b 5 (.mv (ci 0))])
 (.seq (.keep [4, 5])
 .ret))))))))⟩
/-- (*coroner/pool.Pool[string]).Done -/
def F_pool_Pool_string_Done : AFn := ⟨1, [.tmp 2],
 (.seq (.ops false [o 2 (.mv (ci 0))])
 (.seq (.seq (.ops false [o 3 (.mv (t 0)), o 4 (.call (.func n_pool_Pool_string_is) [(t 3)]), o 5 (.un .not (t 4))])
 (.cond (t 5)
 (.seq (.ops false [o 2 (.mv (ci 0))])
 .ret)
 .skip))
 (.seq (.ops false [o 6 (.mv (t 0)), o 7 (.nilc (t 6)), o 8 (.faddr 3 (t 7)), o 9 (.load1 (t 8)), o 2 (.mv (t 9))])
 .ret)))⟩
/-- slices.Clone[[]int,int] -/
def F_slices_Clone_int_int : AFn := ⟨1, [.tmp 2],
 (.seq (.ops false [o 2 (.mv (.const (.slice none 0 0)))])
 (.seq (.seq (.ops false [o 3 (.mv (t 0)), o 4 (.eqv 2 false (t 3) (.const (.slice none 0 0)))])
 (.cond (t 4)
 (.seq (.ops false [o 2 (.mv (.const (.slice none 0 0)))])
 .ret)
 .skip))
 (.seq (.ops false [o 5 (.bslice 1 0 [] []), o 6 (.mv (t 0)), o 7 (.append 1 8 (t 5) (t 6)), o 2 (.mv (t 7))])
 .ret)))⟩
/-- (*coroner/pool.Pool[int]).step -/
def F_pool_Pool_int_step : AFn := ⟨3, [],
 (.seq (.ops false [o 11 (.mv (t 0)), o 12 (.nilc (t 11)), o 13 (.faddr 1 (t 12)), o 14 (.load1 (t 13)), o 15 (.mv (t 1)), o 16 (.iaddr 1 (t 14) (t 15)), o 17 (.load1 (t 16)), o 6 (.mv (t 17))])
 (.seq (.keep [0, 1, 2, 6])
 (.seq (.ops false [o 18 (.mv (t 0)), o 19 (.mv (t 0)), o 20 (.nilc (t 19)), o 21 (.faddr 5 (t 20)), o 22 (.load1 (t 21)), o 23 (.mv (t 1)), o 24 (.bslice 1 1 [(.int .i64 0)] [(0, (1, (t 23)))]), o 25 (.append 1 8 (t 22) (t 24)), o 26 (.nilc (t 18)), o 27 (.faddr 5 (t 26)), s (.store 1 (t 27) (t 25))])
 (.seq (.keep [0, 1, 2, 6])
 (.seq (.seq (.ops false [o 28 (.mv (t 6)), o 29 (.nilc (t 28)), o 30 (.faddr 4 (t 29)), o 31 (.load1 (t 30)), o 32 (.un .not (t 31))])
 (.cond (t 32)
 (.seq (.ops false [o 33 (.mv (t 0)), o 34 (.mv (t 1)), o 35 (.call (.func n_pool_Pool_int_take) [(t 33), (t 34)])])
 .ret)
 .skip))
 (.seq (.keep [0, 1, 2, 6])
 (.seq (.ops false [o 7 (.mv (ci 0))])
 (.seq (.ops false [o 36 (.mv (t 6)), o 37 (.nilc (t 36)), o 38 (.faddr 3 (t 37)), o 39 (.load1 (t 38)), o 8 (.mv (t 39))])
 (.seq (.ops false [o 40 (.mv (t 6)), o 41 (.mv (t 6)), o 42 (.mv (t 7)), o 43 (.nilc (t 40)), o 44 (.faddr 3 (t 43)), s (.store 1 (t 44) (t 42)), o 45 (.nilc (t 41)), o 46 (.faddr 4 (t 45)), s (.store 1 (t 46) (.const (.bool false)))])
 (.seq (.keep [0, 1, 2, 6, 8])
 (.seq (.ops false [o 47 (.mv (t 0)), o 48 (.nilc (t 47)), o 49 (.faddr 3 (t 48)), o 50 (.load1 (t 49)), o 51 (.bin .add (t 50) (ci 1)), o 52 (.nilc (t 47)), o 53 (.faddr 3 (t 52)), s (.store 1 (t 53) (t 51))])
 (.seq (.keep [1, 2, 6, 8])
 (.seq (.seq (.ops false [o 54 (.mv (t 2)), o 55 (.eqv 4 false (t 54) (.const .nilFunc))])
 (.cond (t 55)
 .ret
 .skip))
 (.seq (.ops false [o 56 (.mv (t 2)), o 57 (.mv (t 1)), o 58 (.mv (t 8)), o 59 (.call (t 56) [(t 57), (t 58)]), o 60 (.len 1 (t 59)), o 61 (.mv (ci 0))])
 (.seq (.keep [6, 59, 60, 61]) (.block 0 (.loop (.seq (.seq (.ops false [o 62 (.bin .lss (t 61) (t 60))])
 (.seq (.cond (t 62)
 .skip
 (.exit 0))
 (.seq (.block 1 (.seq (.ops false [o 63 (.iaddr 1 (t 59) (t 61)), o 64 (.load1 (t 63)), o 10 (.mv (t 64))])
 (.ops false [o 65 (.mv (t 6)), o 66 (.nilc (t 65)), o 67 (.faddr 0 (t 66)), o 68 (.mv (t 10)), o 69 (.call (.func n_deque_Deque_int_Push) [(t 67), (t 68)])])))
 (.seq (.keep [6, 59, 60, 61])
 (.ops false [o 70 (.bin .add (t 61) (ci 1)), o 61 (.mv (t 70))]))))) (.keep [6, 59, 60, 61])))))))))))))))))))⟩
/-- coroner/coronerref10.push -/
def F_r10_push : AFn := ⟨3, [.cellN 6 11],
 (.seq (.ops false [o 3 (.box (t 0)), o 6 (.alloc [(.slice none 0 0), (.int .i64 0), (.int .i64 0), (.int .i64 0), (.slice none 0 0), (.slice none 0 0), (.slice none 0 0), (.slice none 0 0), (.int .i64 0), (.int .i64 0), (.slice none 0 0)])])
 (.seq (.ops false [o 8 (.bslice 1 0 [] []), o 9 (.faddr 4 (t 3)), o 10 (.load1 (t 9)), o 11 (.append 1 24 (t 8) (t 10)), o 7 (.mv (t 11))])
 (.seq (.ops false [o 12 (.mv (t 7)), o 13 (.mv (t 1)), o 14 (.bslice 1 0 [] []), o 15 (.mv (t 7)), o 16 (.mv (t 1)), o 17 (.iaddr 1 (t 15) (t 16)), o 18 (.load1 (t 17)), o 19 (.append 1 8 (t 14) (t 18)), o 20 (.mv (t 2)), o 21 (.bslice 1 1 [(.int .i64 0)] [(0, (1, (t 20)))]), o 22 (.append 1 8 (t 19) (t 21)), o 23 (.iaddr 1 (t 12) (t 13)), s (.store 1 (t 23) (t 22))])
 (.seq (.keep [3, 6, 7])
 (.seq (.ops false [o 24 (.mv (t 7)), o 25 (.faddr 4 (t 3)), s (.store 1 (t 25) (t 24))])
 (.seq (.ops false [o 26 (.loadN 11 (t 3)), s (.store 11 (t 6) (t 26))])
 .ret))))))⟩
/-- coroner/coronerref05.Has -/
def F_r05_Has : AFn := ⟨2, [.tmp 4],
 (.seq (.ops false [o 4 (.mv (.const (.bool false)))])
 (.seq (.seq (.ops false [o 5 (.mv (ci 0))])
 (.seq (.keep [0, 1, 5]) (.block 0 (.loop (.seq (.seq (.seq (.ops false [o 6 (.mv (t 5)), o 7 (.mv (t 0)), o 8 (.len 1 (t 7)), o 9 (.bin .lss (t 6) (t 8))])
 (.cond (t 9)
 .skip
 (.exit 0)))
 (.seq (.block 1 (.seq (.ops false [o 12 (.mv (t 0)), o 13 (.mv (t 5)), o 14 (.iaddr 1 (t 12) (t 13)), o 15 (.load1 (t 14)), o 16 (.mv (t 1)), o 17 (.bin .eql (t 15) (t 16))])
 (.cond (t 17)
 (.seq (.ops false [o 4 (.mv (.const (.bool true)))])
 .ret)
 .skip)))
 (.seq (.keep [0, 1, 5])
 (.ops false [o 10 (.mv (t 5)), o 11 (.bin .add (t 10) (ci 1)), o 5 (.mv (t 11))])))) (.keep [0, 1, 5]))))))
 (.seq (.keep [])
 (.seq (.ops false [o 4 (.mv (.const (.bool false)))])
 .ret))))⟩
/-- coroner/sorted.Of[int] -/
def F_sorted_Of_int : AFn := ⟨1, [.cellN 2 1],
 (.seq (.ops false [o 2 (.alloc [(.slice none 0 0)])])
 (.seq (.ops false [o 4 (.mv (t 0)), o 5 (.call (.func n_slices_Clone_int_int) [(t 4)]), o 3 (.mv (t 5))])
 (.seq (.ops false [o 6 (.mv (t 3)), o 7 (.call (.func n_slices_Sort_int_int) [(t 6)])])
 (.seq (.ops false [o 8 (.mv (t 3)), o 9 (.call (.func n_slices_Compact_int_int) [(t 8)]), o 10 (.build [(.slice none 0 0)] [(0, (1, (t 9)))]), s (.store 1 (t 2) (t 10))])
 .ret))))⟩
/-- (*coroner/picks.Script).choice -/
def F_picks_Script_choice : AFn := ⟨2, [.tmp 4],
 (.seq (.ops false [o 4 (.mv (ci 0))])
 (.seq (.seq (.ops true [o 6 (.mv (t 0)), o 7 (.nilc (t 6)), o 8 (.faddr 4 (t 7)), o 9 (.load1 (t 8)), o 10 (.mv (t 0)), o 11 (.nilc (t 10)), o 12 (.faddr 1 (t 11)), o 13 (.load1 (t 12)), o 14 (.len 1 (t 13)), b 15 (.bin .geq (t 9) (t 14))])
 (.seq (.keep [0, 1, 15])
 (.cond (t 15)
 (.seq (.ops false [o 4 (.mv (ci 0))])
 .ret)
 .skip)))
 (.seq (.keep [0, 1])
 (.seq (.ops true [o 16 (.mv (t 0)), o 17 (.nilc (t 16)), o 18 (.faddr 1 (t 17)), o 19 (.load1 (t 18)), o 20 (.mv (t 0)), o 21 (.nilc (t 20)), o 22 (.faddr 4 (t 21)), o 23 (.load1 (t 22)), o 24 (.iaddr 1 (t 19) (t 23)), o 25 (.load1 (t 24)), o 26 (.mv (t 1)), b 27 (.bin .rem (t 25) (t 26)), b 5 (.mv (t 27))])
 (.seq (.keep [0, 1, 5])
 (.seq (.ops false [o 28 (.mv (t 0)), o 29 (.nilc (t 28)), o 30 (.faddr 4 (t 29)), o 31 (.load1 (t 30)), o 32 (.bin .add (t 31) (ci 1)), o 33 (.nilc (t 28)), o 34 (.faddr 4 (t 33)), s (.store 1 (t 34) (t 32))])
 (.seq (.keep [1, 5])
 (.seq (.seq (.ops false [o 35 (.mv (t 5)), o 36 (.bin .lss (t 35) (ci 0))])
 (.cond (t 36)
 (.ops false [o 37 (.mv (t 5)), o 38 (.mv (t 1)), o 39 (.bin .add (t 37) (t 38)), o 5 (.mv (t 39))])
 .skip))
 (.seq (.ops false [o 40 (.mv (t 5)), o 4 (.mv (t 40))])
 .ret)))))))))⟩
/-- (*coroner/pool.Pool[string]).step -/
def F_pool_Pool_string_step : AFn := ⟨3, [],
 (.seq (.ops false [o 11 (.mv (t 0)), o 12 (.nilc (t 11)), o 13 (.faddr 1 (t 12)), o 14 (.load1 (t 13)), o 15 (.mv (t 1)), o 16 (.iaddr 1 (t 14) (t 15)), o 17 (.load1 (t 16)), o 6 (.mv (t 17))])
 (.seq (.keep [0, 1, 2, 6])
 (.seq (.ops false [o 18 (.mv (t 0)), o 19 (.mv (t 0)), o 20 (.nilc (t 19)), o 21 (.faddr 5 (t 20)), o 22 (.load1 (t 21)), o 23 (.mv (t 1)), o 24 (.bslice 1 1 [(.int .i64 0)] [(0, (1, (t 23)))]), o 25 (.append 1 8 (t 22) (t 24)), o 26 (.nilc (t 18)), o 27 (.faddr 5 (t 26)), s (.store 1 (t 27) (t 25))])
 (.seq (.keep [0, 1, 2, 6])
 (.seq (.seq (.ops false [o 28 (.mv (t 6)), o 29 (.nilc (t 28)), o 30 (.faddr 4 (t 29)), o 31 (.load1 (t 30)), o 32 (.un .not (t 31))])
 (.cond (t 32)
 (.seq (.ops false [o 33 (.mv (t 0)), o 34 (.mv (t 1)), o 35 (.call (.func n_pool_Pool_string_take) [(t 33), (t 34)])])
 .ret)
 .skip))
 (.seq (.keep [0, 1, 2, 6])
 (.seq (.ops false [o 7 (.mv (.const (.string ⟨#[]⟩)))])
 (.seq (.ops false [o 36 (.mv (t 6)), o 37 (.nilc (t 36)), o 38 (.faddr 3 (t 37)), o 39 (.load1 (t 38)), o 8 (.mv (t 39))])
 (.seq (.ops false [o 40 (.mv (t 6)), o 41 (.mv (t 6)), o 42 (.mv (t 7)), o 43 (.nilc (t 40)), o 44 (.faddr 3 (t 43)), s (.store 1 (t 44) (t 42)), o 45 (.nilc (t 41)), o 46 (.faddr 4 (t 45)), s (.store 1 (t 46) (.const (.bool false)))])
 (.seq (.keep [0, 1, 2, 6, 8])
 (.seq (.ops false [o 47 (.mv (t 0)), o 48 (.nilc (t 47)), o 49 (.faddr 3 (t 48)), o 50 (.load1 (t 49)), o 51 (.bin .add (t 50) (ci 1)), o 52 (.nilc (t 47)), o 53 (.faddr 3 (t 52)), s (.store 1 (t 53) (t 51))])
 (.seq (.keep [1, 2, 6, 8])
 (.seq (.seq (.ops false [o 54 (.mv (t 2)), o 55 (.eqv 4 false (t 54) (.const .nilFunc))])
 (.cond (t 55)
 .ret
 .skip))
 (.seq (.ops false [o 56 (.mv (t 2)), o 57 (.mv (t 1)), o 58 (.mv (t 8)), o 59 (.call (t 56) [(t 57), (t 58)]), o 60 (.len 1 (t 59)), o 61 (.mv (ci 0))])
 (.seq (.keep [6, 59, 60, 61]) (.block 0 (.loop (.seq (.seq (.ops false [o 62 (.bin .lss (t 61) (t 60))])
 (.seq (.cond (t 62)
 .skip
 (.exit 0))
 (.seq (.block 1 (.seq (.ops false [o 63 (.iaddr 1 (t 59) (t 61)), o 64 (.load1 (t 63)), o 10 (.mv (t 64))])
 (.ops false [o 65 (.mv (t 6)), o 66 (.nilc (t 65)), o 67 (.faddr 0 (t 66)), o 68 (.mv (t 10)), o 69 (.call (.func n_deque_Deque_string_Push) [(t 67), (t 68)])])))
 (.seq (.keep [6, 59, 60, 61])
 (.ops false [o 70 (.bin .add (t 61) (ci 1)), o 61 (.mv (t 70))]))))) (.keep [6, 59, 60, 61])))))))))))))))))))⟩
/-- (*coroner/pool.Pool[int]).ready$1 -/
def F_pool_Pool_int_ready_c1 : AFn := ⟨2, [],
 (.seq (.ops false [o 6 (.load1 (t 1)), o 7 (.call (.func n_pool_Pool_int_waiting) [(t 6)]), o 8 (.bin .gtr (t 7) (ci 0)), o 3 (.mv (t 8))])
 (.seq (.ops false [o 9 (.load1 (t 1)), o 10 (.nilc (t 9)), o 11 (.faddr 1 (t 10)), o 12 (.load1 (t 11)), o 13 (.len 1 (t 12)), o 14 (.mv (ci 0))])
 (.seq (.keep [0, 3, 12, 13, 14]) (.block 0 (.loop (.seq (.seq (.ops false [o 15 (.bin .lss (t 14) (t 13))])
 (.seq (.cond (t 15)
 .skip
 (.exit 0))
 (.seq (.block 1 (.seq (.ops false [o 16 (.mv (t 14)), o 17 (.iaddr 1 (t 12) (t 14)), o 18 (.load1 (t 17)), o 4 (.mv (t 16)), o 5 (.mv (t 18))])
 (.seq (.ops false [o 19 (.mv (t 5)), o 20 (.nilc (t 19)), o 21 (.faddr 4 (t 20)), o 22 (.load1 (t 21)), o 23 (.mv (t 22)), ⟨(some 24), .mv (t 3), some (23, false), false⟩, o 25 (.pick (t 23) (.const (.bool true)) (t 24)), o 26 (.mv (t 25)), ⟨(some 27), .mv (t 0), some (26, true), false⟩, ⟨(some 28), .mv (t 4), some (26, true), false⟩, ⟨(some 29), .call (t 27) [(t 28)], some (26, true), false⟩, ⟨(some 30), .un .not (t 29), some (26, true), false⟩, o 31 (.pick (t 26) (t 30) (.const (.bool false)))])
 (.seq (.keep [0, 3, 12, 13, 14, 31])
 (.cond (t 31)
 .ret
 .skip)))))
 (.seq (.keep [0, 3, 12, 13, 14])
 (.ops false [o 32 (.bin .add (t 14) (ci 1)), o 14 (.mv (t 32))]))))) (.keep [0, 3, 12, 13, 14])))))))⟩
/-- coroner/coronerref10.take -/
def F_r10_take : AFn := ⟨4, [.cellN 8 11],
 (.seq (.ops false [o 4 (.box (t 0)), o 8 (.alloc [(.slice none 0 0), (.int .i64 0), (.int .i64 0), (.int .i64 0), (.slice none 0 0), (.slice none 0 0), (.slice none 0 0), (.slice none 0 0), (.int .i64 0), (.int .i64 0), (.slice none 0 0)])])
 (.seq (.ops false [o 13 (.bslice 1 0 [] []), o 14 (.faddr 4 (t 4)), o 15 (.load1 (t 14)), o 16 (.append 1 24 (t 13) (t 15)), o 9 (.mv (t 16))])
 (.seq (.ops false [o 17 (.mv (t 9)), o 18 (.mv (t 2)), o 19 (.iaddr 1 (t 17) (t 18)), o 20 (.load1 (t 19)), o 10 (.mv (t 20))])
 (.seq (.ops false [o 21 (.mv (t 10)), o 22 (.len 1 (t 21)), o 11 (.mv (t 22))])
 (.seq (.ops false [o 23 (.mv (t 10)), o 24 (.iaddr 1 (t 23) (ci 0)), o 25 (.load1 (t 24)), o 12 (.mv (t 25))])
 (.seq (.ops false [o 26 (.mv (t 9)), o 27 (.mv (t 2)), o 28 (.mv (t 10)), o 29 (.slc 1 (t 28) (some (ci 1)) none), o 30 (.iaddr 1 (t 26) (t 27)), s (.store 1 (t 30) (t 29))])
 (.seq (.seq (.ops false [o 31 (.mv (t 3))])
 (.cond (t 31)
 (.seq (.ops false [o 32 (.mv (t 10)), o 33 (.mv (t 11)), o 34 (.bin .sub (t 33) (ci 1)), o 35 (.iaddr 1 (t 32) (t 34)), o 36 (.load1 (t 35)), o 12 (.mv (t 36))])
 (.ops false [o 37 (.mv (t 9)), o 38 (.mv (t 2)), o 39 (.mv (t 10)), o 40 (.mv (t 11)), o 41 (.bin .sub (t 40) (ci 1)), o 42 (.slc 1 (t 39) none (some (t 41))), o 43 (.iaddr 1 (t 37) (t 38)), s (.store 1 (t 43) (t 42))]))
 .skip))
 (.seq (.keep [1, 4, 8, 9, 12])
 (.seq (.ops false [o 44 (.mv (t 9)), o 45 (.faddr 4 (t 4)), s (.store 1 (t 45) (t 44))])
 (.seq (.ops false [o 46 (.loadN 11 (t 4)), o 47 (.mv (t 1)), o 48 (.mv (t 12)), o 49 (.call (.func n_r10_hold) [(t 46), (t 47), (t 48), (.const (.bool true))]), s (.store 11 (t 8) (t 49))])
 .ret))))))))))⟩
/-- slices.Compact[[]int,int] -/
def F_slices_Compact_int_int : AFn := ⟨1, [.tmp 2],
 (.seq (.ops false [o 2 (.mv (.const (.slice none 0 0)))])
 (.seq (.seq (.ops false [o 6 (.mv (t 0)), o 7 (.len 1 (t 6)), o 8 (.bin .lss (t 7) (ci 2))])
 (.cond (t 8)
 (.seq (.ops false [o 9 (.mv (t 0)), o 2 (.mv (t 9))])
 .ret)
 .skip))
 (.seq (.seq (.ops false [o 3 (.mv (ci 1))])
 (.seq (.keep [0, 3]) (.block 0 (.loop (.seq (.seq (.seq (.ops false [o 10 (.mv (t 3)), o 11 (.mv (t 0)), o 12 (.len 1 (t 11)), o 13 (.bin .lss (t 10) (t 12))])
 (.cond (t 13)
 .skip
 (.exit 0)))
 (.seq (.block 1 (.seq (.ops true [o 16 (.mv (t 0)), o 17 (.mv (t 3)), o 18 (.iaddr 1 (t 16) (t 17)), o 19 (.load1 (t 18)), o 20 (.mv (t 0)), o 21 (.mv (t 3)), o 22 (.bin .sub (t 21) (ci 1)), o 23 (.iaddr 1 (t 20) (t 22)), o 24 (.load1 (t 23)), b 25 (.bin .eql (t 19) (t 24))])
 (.seq (.keep [0, 3, 25])
 (.cond (t 25)
 (.seq (.ops false [o 26 (.mv (t 0)), o 27 (.mv (t 3)), o 28 (.slc 1 (t 26) (some (t 27)) none), o 4 (.mv (t 28))])
 (.seq (.seq (.ops false [o 5 (.mv (ci 1))])
 (.seq (.keep [0, 3, 4, 5]) (.block 2 (.loop (.seq (.seq (.seq (.ops false [o 29 (.mv (t 5)), o 30 (.mv (t 4)), o 31 (.len 1 (t 30)), o 32 (.bin .lss (t 29) (t 31))])
 (.cond (t 32)
 .skip
 (.exit 2)))
 (.seq (.block 3 (.seq (.ops true [o 35 (.mv (t 4)), o 36 (.mv (t 5)), o 37 (.iaddr 1 (t 35) (t 36)), o 38 (.load1 (t 37)), o 39 (.mv (t 4)), o 40 (.mv (t 5)), o 41 (.bin .sub (t 40) (ci 1)), o 42 (.iaddr 1 (t 39) (t 41)), o 43 (.load1 (t 42)), b 44 (.bin .neq (t 38) (t 43))])
 (.seq (.keep [0, 3, 4, 5, 44])
 (.cond (t 44)
 (.seq (.ops false [o 45 (.mv (t 0)), o 46 (.mv (t 3)), o 47 (.mv (t 4)), o 48 (.mv (t 5)), o 49 (.iaddr 1 (t 47) (t 48)), o 50 (.load1 (t 49)), o 51 (.iaddr 1 (t 45) (t 46)), s (.store 1 (t 51) (t 50))])
 (.seq (.keep [0, 3, 4, 5])
 (.ops false [o 52 (.mv (t 3)), o 53 (.bin .add (t 52) (ci 1)), o 3 (.mv (t 53))])))
 .skip))))
 (.seq (.keep [0, 3, 4, 5])
 (.ops false [o 33 (.mv (t 5)), o 34 (.bin .add (t 33) (ci 1)), o 5 (.mv (t 34))])))) (.keep [0, 3, 4, 5]))))))
 (.seq (.keep [0, 3])
 (.seq (.ops false [o 54 (.mv (t 0)), o 55 (.mv (t 3)), o 56 (.slc 1 (t 54) (some (t 55)) none), s (.clear [(.int .i64 0)] (t 56))])
 (.seq (.ops false [o 57 (.mv (t 0)), o 58 (.mv (t 3)), o 59 (.slc 1 (t 57) none (some (t 58))), o 2 (.mv (t 59))])
 .ret)))))
 .skip))))
 (.seq (.keep [0, 3])
 (.ops false [o 14 (.mv (t 3)), o 15 (.bin .add (t 14) (ci 1)), o 3 (.mv (t 15))])))) (.keep [0, 3]))))))
 (.seq (.keep [0])
 (.seq (.ops false [o 60 (.mv (t 0)), o 2 (.mv (t 60))])
 .ret)))))⟩
/-- (*coroner/pool.Pool[string]).take -/
def F_pool_Pool_string_take : AFn := ⟨2, [],
 (.seq (.ops false [o 6 (.mv (t 0)), o 7 (.nilc (t 6)), o 8 (.faddr 1 (t 7)), o 9 (.load1 (t 8)), o 10 (.mv (t 1)), o 11 (.iaddr 1 (t 9) (t 10)), o 12 (.load1 (t 11)), o 4 (.mv (t 12))])
 (.seq (.keep [0, 1, 4])
 (.seq (.ops false [o 14 (.mv (t 4)), o 15 (.mv (t 4)), o 16 (.mv (t 4)), o 17 (.nilc (t 16)), o 18 (.faddr 0 (t 17)), o 19 (.call (.func n_deque_Deque_string_Pop) [(t 18)]), o 13 (.mv (t 19)), o 20 (.extract 0 (t 13)), o 21 (.extract 1 (t 13)), o 22 (.nilc (t 14)), o 23 (.faddr 3 (t 22)), s (.store 1 (t 23) (t 20)), o 24 (.nilc (t 15)), o 25 (.faddr 4 (t 24)), s (.store 1 (t 25) (t 21))])
 (.seq (.keep [0, 1, 4])
 (.seq (.ops false [o 5 (.mv (ci 1))])
 (.seq (.keep [0, 1, 4, 5]) (.block 0 (.loop (.seq (.seq (.seq (.ops false [o 26 (.mv (t 5)), o 27 (.mv (t 0)), o 28 (.nilc (t 27)), o 29 (.faddr 1 (t 28)), o 30 (.load1 (t 29)), o 31 (.len 1 (t 30)), o 32 (.bin .lss (t 26) (t 31)), o 33 (.mv (t 32)), ⟨(some 34), .mv (t 4), some (33, true), false⟩, ⟨(some 35), .nilc (t 34), some (33, true), false⟩, ⟨(some 36), .faddr 4 (t 35), some (33, true), false⟩, ⟨(some 37), .load1 (t 36), some (33, true), false⟩, ⟨(some 38), .un .not (t 37), some (33, true), false⟩, o 39 (.pick (t 33) (t 38) (.const (.bool false)))])
 (.seq (.keep [0, 1, 4, 5, 39])
 (.cond (t 39)
 .skip
 (.exit 0))))
 (.seq (.keep [0, 1, 4, 5])
 (.seq (.block 1 (.seq (.opsA [] (o 43 (.mv (t 4)) :: o 44 (.mv (t 4)) :: o 45 (.mv (t 0)) :: o 46 (.nilc (t 45)) :: o 47 (.faddr 1 (t 46)) :: o 48 (.load1 (t 47)) :: o 49 (.mv (t 1)) :: o 50 (.mv (t 5)) :: o 51 (.bin .add (t 49) (t 50)) :: o 52 (.mv (t 0)) :: o 53 (.nilc (t 52)) :: o 54 (.faddr 1 (t 53)) :: o 55 (.load1 (t 54)) :: o 56 (.len 1 (t 55)) :: o 57 (.bin .rem (t 51) (t 56)) :: o 58 (.iaddr 1 (t 48) (t 57)) :: o 59 (.load1 (t 58)) :: o 60 (.nilc (t 59)) :: o 61 (.faddr 0 (t 60)) :: b 62 (.call (.func n_deque_Deque_string_Steal) [(t 61)]) :: o 42 (.mv (t 62)) :: o 63 (.extract 0 (t 42)) :: o 64 (.extract 1 (t 42)) :: o 65 (.nilc (t 43)) :: o 66 (.faddr 3 (t 65)) :: sb (.store 1 (t 66) (t 63)) :: o 67 (.nilc (t 44)) :: o 68 (.faddr 4 (t 67)) :: sb (.store 1 (t 68) (t 64)) :: []))
 (.seq (.keep [0, 1, 4, 5])
 (.seq (.ops false [o 69 (.mv (t 4)), o 70 (.nilc (t 69)), o 71 (.faddr 4 (t 70)), o 72 (.load1 (t 71))])
 (.cond (t 72)
 (.ops false [o 73 (.mv (t 0)), o 74 (.nilc (t 73)), o 75 (.faddr 4 (t 74)), o 76 (.load1 (t 75)), o 77 (.bin .add (t 76) (ci 1)), o 78 (.nilc (t 73)), o 79 (.faddr 4 (t 78)), s (.store 1 (t 79) (t 77))])
 .skip)))))
 (.seq (.keep [0, 1, 4, 5])
 (.ops false [o 40 (.mv (t 5)), o 41 (.bin .add (t 40) (ci 1)), o 5 (.mv (t 41))]))))) (.keep [0, 1, 4, 5]))))))))))⟩
/-- (*coroner/deque.Deque[int]).Steal -/
def F_deque_Deque_int_Steal : AFn := ⟨1, [.tmp 2, .tmp 3],
 (.seq (.ops false [o 2 (.mv (ci 0)), o 3 (.mv (.const (.bool false)))])
 (.seq (.ops false [o 4 (.mv (ci 0))])
 (.seq (.seq (.ops false [o 6 (.mv (t 0)), o 7 (.call (.func n_deque_Deque_int_Len) [(t 6)]), o 8 (.bin .eql (t 7) (ci 0))])
 (.cond (t 8)
 (.seq (.ops false [o 9 (.mv (t 4)), o 2 (.mv (t 9)), o 3 (.mv (.const (.bool false)))])
 .ret)
 .skip))
 (.seq (.ops false [o 10 (.mv (t 0)), o 11 (.call (.func n_deque_Deque_int_take) [(t 10), (ci 0)]), o 5 (.mv (t 11))])
 (.seq (.ops false [o 12 (.mv (t 0)), o 13 (.mv (t 0)), o 14 (.call (.func n_deque_Deque_int_at) [(t 13), (ci 1)]), o 15 (.nilc (t 12)), o 16 (.faddr 1 (t 15)), s (.store 1 (t 16) (t 14))])
 (.seq (.ops false [o 17 (.mv (t 5)), o 2 (.mv (t 17)), o 3 (.mv (.const (.bool true)))])
 .ret))))))⟩
/-- (*coroner/deque.Deque[string]).Pop -/
def F_deque_Deque_string_Pop : AFn := ⟨1, [.tmp 2, .tmp 3],
 (.seq (.ops false [o 2 (.mv (.const (.string ⟨#[]⟩))), o 3 (.mv (.const (.bool false)))])
 (.seq (.ops false [o 4 (.mv (.const (.string ⟨#[]⟩)))])
 (.seq (.seq (.ops false [o 5 (.mv (t 0)), o 6 (.call (.func n_deque_Deque_string_Len) [(t 5)]), o 7 (.bin .eql (t 6) (ci 0))])
 (.cond (t 7)
 (.seq (.ops false [o 8 (.mv (t 4)), o 2 (.mv (t 8)), o 3 (.mv (.const (.bool false)))])
 .ret)
 .skip))
 (.seq (.ops false [o 9 (.mv (t 0)), o 10 (.mv (t 0)), o 11 (.nilc (t 10)), o 12 (.faddr 2 (t 11)), o 13 (.load1 (t 12)), o 14 (.bin .sub (t 13) (ci 1)), o 15 (.call (.func n_deque_Deque_string_take) [(t 9), (t 14)]), o 2 (.mv (t 15)), o 3 (.mv (.const (.bool true)))])
 (.seq (.keep [2, 3])
 .ret)))))⟩
/-- (*coroner/deque.Deque[string]).each -/
def F_deque_Deque_string_each : AFn := ⟨1, [.tmp 2],
 (.seq (.ops false [o 1 (.box (t 0)), o 2 (.mv (.const .nilFunc))])
 (.seq (.ops false [o 3 (.mkf n_deque_Deque_string_each_c1 [] [(t 1)]), o 2 (.mv (t 3))])
 .ret))⟩
def tab1 : List (Nat × ADef) := [(n_l10_PoolPlays, .code F_l10_PoolPlays),
 (n_pool_Pool_int_Add, .code F_pool_Pool_int_Add),
 (n_r10_Add, .code F_r10_Add),
 (n_pool_Pool_int_Stolen, .code F_pool_Pool_int_Stolen),
 (n_picks_Script_Steps, .code F_picks_Script_Steps),
 (n_pool_Pool_int_is, .code F_pool_Pool_int_is),
 (n_r10_ready, .code F_r10_ready),
 (n_pool_Pool_int_waiting, .code F_pool_Pool_int_waiting),
 (n_picks_Script_Cancelled, .code F_picks_Script_Cancelled),
 (n_pool_Pool_int_take, .code F_pool_Pool_int_take),
 (n_deque_Deque_int_Len, .code F_deque_Deque_int_Len),
 (n_r10_Few, .code F_r10_Few),
 (n_pool_Pool_int_Run, .code F_pool_Pool_int_Run),
 (n_r01_Same, .code F_r01_Same),
 (n_pool_Pool_int_Left, .code F_pool_Pool_int_Left),
 (n_deque_Deque_int_Push, .code F_deque_Deque_int_Push),
 (n_r09_Step, .code F_r09_Step),
 (n_picks_Script_is, .code F_picks_Script_is),
 (n_sorted_Set_int_Len, .code F_sorted_Set_int_Len),
 (n_deque_Deque_int_grow, .code F_deque_Deque_int_grow),
 (n_r09_Cancelled, .code F_r09_Cancelled),
 (n_deque_Deque_int_List, .code F_deque_Deque_int_List),
 (n_deque_Deque_int_each, .code F_deque_Deque_int_each),
 (n_deque_Deque_int_each_c1, .code F_deque_Deque_int_each_c1),
 (n_pool_New_int, .code F_pool_New_int),
 (n_picks_New, .code F_picks_New),
 (n_l10_halves, .code F_l10_halves),
 (n_pool_Pool_int_Who, .code F_pool_Pool_int_Who),
 (n_r10_Jobs, .code F_r10_Jobs),
 (n_r10_Of, .code F_r10_Of),
 (n_pool_Pool_int_ready, .code F_pool_Pool_int_ready),
 (n_r10_step, .code F_r10_step),
 (n_sorted_Set_int_List, .code F_sorted_Set_int_List),
 (n_deque_Deque_int_at, .code F_deque_Deque_int_at),
 (n_r10_hold, .code F_r10_hold),
 (n_deque_Deque_int_Pop, .code F_deque_Deque_int_Pop),
 (n_deque_Deque_int_take, .code F_deque_Deque_int_take),
 (n_r10_New, .code F_r10_New),
 (n_r10_Run, .code F_r10_Run),
 (n_pool_Pool_int_Done, .code F_pool_Pool_int_Done),
 (n_l10_born, .code F_l10_born),
 (n_r05_Of, .code F_r05_Of),
 (n_picks_Script_Step, .code F_picks_Script_Step),
 (n_slices_Clone_int_int, .code F_slices_Clone_int_int),
 (n_pool_Pool_int_step, .code F_pool_Pool_int_step),
 (n_r10_push, .code F_r10_push),
 (n_r05_Has, .code F_r05_Has),
 (n_sorted_Of_int, .code F_sorted_Of_int),
 (n_picks_Script_choice, .code F_picks_Script_choice),
 (n_pool_Pool_int_ready_c1, .code F_pool_Pool_int_ready_c1),
 (n_r10_take, .code F_r10_take),
 (n_slices_Compact_int_int, .code F_slices_Compact_int_int),
 (n_deque_Deque_int_Steal, .code F_deque_Deque_int_Steal),
 (n_slices_Sort_int_int, .oracle sortO),
 (n_l10_works, .oracle (closedO (.bool true)))]
def prog1 : AProg := tabP tab1
theorem c_l10_PoolPlays : prog1 n_l10_PoolPlays = some (.code F_l10_PoolPlays) := by kernel_rfl
theorem c_pool_Pool_int_Add : prog1 n_pool_Pool_int_Add = some (.code F_pool_Pool_int_Add) := by kernel_rfl
theorem c_r10_Add : prog1 n_r10_Add = some (.code F_r10_Add) := by kernel_rfl
theorem c_pool_Pool_int_Stolen : prog1 n_pool_Pool_int_Stolen = some (.code F_pool_Pool_int_Stolen) := by kernel_rfl
theorem c_picks_Script_Steps : prog1 n_picks_Script_Steps = some (.code F_picks_Script_Steps) := by kernel_rfl
theorem c_pool_Pool_int_is : prog1 n_pool_Pool_int_is = some (.code F_pool_Pool_int_is) := by kernel_rfl
theorem c_r10_ready : prog1 n_r10_ready = some (.code F_r10_ready) := by kernel_rfl
theorem c_pool_Pool_int_waiting : prog1 n_pool_Pool_int_waiting = some (.code F_pool_Pool_int_waiting) := by kernel_rfl
theorem c_picks_Script_Cancelled : prog1 n_picks_Script_Cancelled = some (.code F_picks_Script_Cancelled) := by kernel_rfl
theorem c_pool_Pool_int_take : prog1 n_pool_Pool_int_take = some (.code F_pool_Pool_int_take) := by kernel_rfl
theorem c_deque_Deque_int_Len : prog1 n_deque_Deque_int_Len = some (.code F_deque_Deque_int_Len) := by kernel_rfl
theorem c_r10_Few : prog1 n_r10_Few = some (.code F_r10_Few) := by kernel_rfl
theorem c_pool_Pool_int_Run : prog1 n_pool_Pool_int_Run = some (.code F_pool_Pool_int_Run) := by kernel_rfl
theorem c_r01_Same : prog1 n_r01_Same = some (.code F_r01_Same) := by kernel_rfl
theorem c_pool_Pool_int_Left : prog1 n_pool_Pool_int_Left = some (.code F_pool_Pool_int_Left) := by kernel_rfl
theorem c_deque_Deque_int_Push : prog1 n_deque_Deque_int_Push = some (.code F_deque_Deque_int_Push) := by kernel_rfl
theorem c_r09_Step : prog1 n_r09_Step = some (.code F_r09_Step) := by kernel_rfl
theorem c_picks_Script_is : prog1 n_picks_Script_is = some (.code F_picks_Script_is) := by kernel_rfl
theorem c_sorted_Set_int_Len : prog1 n_sorted_Set_int_Len = some (.code F_sorted_Set_int_Len) := by kernel_rfl
theorem c_deque_Deque_int_grow : prog1 n_deque_Deque_int_grow = some (.code F_deque_Deque_int_grow) := by kernel_rfl
theorem c_r09_Cancelled : prog1 n_r09_Cancelled = some (.code F_r09_Cancelled) := by kernel_rfl
theorem c_deque_Deque_int_List : prog1 n_deque_Deque_int_List = some (.code F_deque_Deque_int_List) := by kernel_rfl
theorem c_deque_Deque_int_each : prog1 n_deque_Deque_int_each = some (.code F_deque_Deque_int_each) := by kernel_rfl
theorem c_deque_Deque_int_each_c1 : prog1 n_deque_Deque_int_each_c1 = some (.code F_deque_Deque_int_each_c1) := by kernel_rfl
theorem c_pool_New_int : prog1 n_pool_New_int = some (.code F_pool_New_int) := by kernel_rfl
theorem c_picks_New : prog1 n_picks_New = some (.code F_picks_New) := by kernel_rfl
theorem c_l10_halves : prog1 n_l10_halves = some (.code F_l10_halves) := by kernel_rfl
theorem c_pool_Pool_int_Who : prog1 n_pool_Pool_int_Who = some (.code F_pool_Pool_int_Who) := by kernel_rfl
theorem c_r10_Jobs : prog1 n_r10_Jobs = some (.code F_r10_Jobs) := by kernel_rfl
theorem c_r10_Of : prog1 n_r10_Of = some (.code F_r10_Of) := by kernel_rfl
theorem c_pool_Pool_int_ready : prog1 n_pool_Pool_int_ready = some (.code F_pool_Pool_int_ready) := by kernel_rfl
theorem c_r10_step : prog1 n_r10_step = some (.code F_r10_step) := by kernel_rfl
theorem c_sorted_Set_int_List : prog1 n_sorted_Set_int_List = some (.code F_sorted_Set_int_List) := by kernel_rfl
theorem c_deque_Deque_int_at : prog1 n_deque_Deque_int_at = some (.code F_deque_Deque_int_at) := by kernel_rfl
theorem c_r10_hold : prog1 n_r10_hold = some (.code F_r10_hold) := by kernel_rfl
theorem c_deque_Deque_int_Pop : prog1 n_deque_Deque_int_Pop = some (.code F_deque_Deque_int_Pop) := by kernel_rfl
theorem c_deque_Deque_int_take : prog1 n_deque_Deque_int_take = some (.code F_deque_Deque_int_take) := by kernel_rfl
theorem c_r10_New : prog1 n_r10_New = some (.code F_r10_New) := by kernel_rfl
theorem c_r10_Run : prog1 n_r10_Run = some (.code F_r10_Run) := by kernel_rfl
theorem c_pool_Pool_int_Done : prog1 n_pool_Pool_int_Done = some (.code F_pool_Pool_int_Done) := by kernel_rfl
theorem c_l10_born : prog1 n_l10_born = some (.code F_l10_born) := by kernel_rfl
theorem c_r05_Of : prog1 n_r05_Of = some (.code F_r05_Of) := by kernel_rfl
theorem c_picks_Script_Step : prog1 n_picks_Script_Step = some (.code F_picks_Script_Step) := by kernel_rfl
theorem c_slices_Clone_int_int : prog1 n_slices_Clone_int_int = some (.code F_slices_Clone_int_int) := by kernel_rfl
theorem c_pool_Pool_int_step : prog1 n_pool_Pool_int_step = some (.code F_pool_Pool_int_step) := by kernel_rfl
theorem c_r10_push : prog1 n_r10_push = some (.code F_r10_push) := by kernel_rfl
theorem c_r05_Has : prog1 n_r05_Has = some (.code F_r05_Has) := by kernel_rfl
theorem c_sorted_Of_int : prog1 n_sorted_Of_int = some (.code F_sorted_Of_int) := by kernel_rfl
theorem c_picks_Script_choice : prog1 n_picks_Script_choice = some (.code F_picks_Script_choice) := by kernel_rfl
theorem c_pool_Pool_int_ready_c1 : prog1 n_pool_Pool_int_ready_c1 = some (.code F_pool_Pool_int_ready_c1) := by kernel_rfl
theorem c_r10_take : prog1 n_r10_take = some (.code F_r10_take) := by kernel_rfl
theorem c_slices_Compact_int_int : prog1 n_slices_Compact_int_int = some (.code F_slices_Compact_int_int) := by kernel_rfl
theorem c_deque_Deque_int_Steal : prog1 n_deque_Deque_int_Steal = some (.code F_deque_Deque_int_Steal) := by kernel_rfl
theorem c_slices_Sort_int_int : prog1 n_slices_Sort_int_int = some (.oracle sortO) := by kernel_rfl
theorem c_l10_works : prog1 n_l10_works = some (.oracle (closedO (.bool true))) := by kernel_rfl
def tab0 : List (Nat × ADef) := [(n_l10_works, .code F_l10_works),
 (n_r01_Same, .code F_r01_Same),
 (n_pool_Pool_string_Who, .code F_pool_Pool_string_Who),
 (n_slices_Clone_int_int, .code F_slices_Clone_int_int),
 (n_pool_Pool_string_is, .code F_pool_Pool_string_is),
 (n_pool_Pool_string_Left, .code F_pool_Pool_string_Left),
 (n_pool_Pool_string_waiting, .code F_pool_Pool_string_waiting),
 (n_deque_Deque_string_Len, .code F_deque_Deque_string_Len),
 (n_pool_Pool_string_Stolen, .code F_pool_Pool_string_Stolen),
 (n_pool_Pool_string_Done, .code F_pool_Pool_string_Done),
 (n_pool_Pool_string_Run, .code F_pool_Pool_string_Run),
 (n_pool_Pool_string_step, .code F_pool_Pool_string_step),
 (n_deque_Deque_string_Push, .code F_deque_Deque_string_Push),
 (n_deque_Deque_string_at, .code F_deque_Deque_string_at),
 (n_deque_Deque_string_grow, .code F_deque_Deque_string_grow),
 (n_deque_Deque_string_List, .code F_deque_Deque_string_List),
 (n_deque_Deque_string_each, .code F_deque_Deque_string_each),
 (n_deque_Deque_string_each_c1, .code F_deque_Deque_string_each_c1),
 (n_pool_Pool_string_take, .code F_pool_Pool_string_take),
 (n_deque_Deque_string_Steal, .code F_deque_Deque_string_Steal),
 (n_deque_Deque_string_take, .code F_deque_Deque_string_take),
 (n_deque_Deque_string_Pop, .code F_deque_Deque_string_Pop),
 (n_picks_Script_Step, .code F_picks_Script_Step),
 (n_picks_Script_choice, .code F_picks_Script_choice),
 (n_sorted_Set_int_List, .code F_sorted_Set_int_List),
 (n_sorted_Set_int_Len, .code F_sorted_Set_int_Len),
 (n_picks_Script_Cancelled, .code F_picks_Script_Cancelled),
 (n_picks_Script_is, .code F_picks_Script_is),
 (n_sorted_Of_int, .code F_sorted_Of_int),
 (n_slices_Compact_int_int, .code F_slices_Compact_int_int),
 (n_pool_Pool_string_ready, .code F_pool_Pool_string_ready),
 (n_pool_Pool_string_ready_c1, .code F_pool_Pool_string_ready_c1),
 (n_pool_Pool_string_Add, .code F_pool_Pool_string_Add),
 (n_pool_New_string, .code F_pool_New_string),
 (n_picks_New, .code F_picks_New),
 (n_slices_Sort_int_int, .oracle sortOI)]
end Go.AMS
