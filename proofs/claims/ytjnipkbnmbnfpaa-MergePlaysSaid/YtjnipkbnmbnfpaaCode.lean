/- The code of the functions that the law runs, as the abstract machine reads it. -/
import Derived.Test.YtjnipkbnmbnfpaaAmSepP
import Derived.Test.YtjnipkbnmbnfpaaAmSepO
import Derived.Test.YtjnipkbnmbnfpaaAmSepK
import Derived.Test.YtjnipkbnmbnfpaaAmSort
import Derived.Test.YtjnipkbnmbnfpaaAmSortI
namespace Go.AMS
open Go.AM hiding Kt At WP WL Runs RunsY
open C
set_option maxRecDepth 100000
set_option linter.unusedVariables false
def n_l11_MergePlays : Nat := 9
def n_picks_New : Nat := 18
def n_r01_Same : Nat := 25
def n_picks_Script_Steps : Nat := 32
def n_r11_Few : Nat := 36
def n_l11_works : Nat := 37
def n_merge_Run_int : Nat := 38
def n_l11_order : Nat := 39
def n_r11_Count : Nat := 40
def n_r11_Run : Nat := 42
def n_r11_Sum : Nat := 43
def n_r11_Exited : Nat := 44
def n_picks_Script_Used : Nat := 45
def n_r05_Of : Nat := 47
def n_picks_Script_Step : Nat := 59
def n_slices_Clone_int_int : Nat := 67
def n_deque_Deque_int_Push : Nat := 69
def n_r09_Step : Nat := 73
def n_picks_Script_is : Nat := 77
def n_pipe_New_int : Nat := 78
def n_merge_Run_int_c1 : Nat := 79
def n_merge_sender_int_step : Nat := 80
def n_merge_merger_int_step : Nat := 81
def n_merge_merger_int_ready : Nat := 82
def n_merge_merger_int_stats : Nat := 83
def n_r11_take : Nat := 84
def n_r11_begin : Nat := 85
def n_r08_New : Nat := 86
def n_r11_ready : Nat := 87
def n_r11_send : Nat := 88
def n_r11_merge : Nat := 89
def n_merge_put_int : Nat := 90
def n_r05_Has : Nat := 91
def n_sorted_Of_int : Nat := 103
def n_picks_Script_Cancelled : Nat := 104
def n_sorted_Set_int_Len : Nat := 105
def n_sorted_Set_int_List : Nat := 106
def n_picks_Script_choice : Nat := 107
def n_deque_Deque_int_grow : Nat := 113
def n_deque_Deque_int_at : Nat := 114
def n_r09_Cancelled : Nat := 117
def n_deque_Deque_int_Len : Nat := 120
def n_pipe_Pipe_int_Close : Nat := 121
def n_pipe_Pipe_int_Send : Nat := 122
def n_merge_merger_int_receives : Nat := 123
def n_pipe_Pipe_int_Recv : Nat := 124
def n_merge_merger_int_least : Nat := 125
def n_merge_sender_int_ready : Nat := 126
def n_merge_merger_int_full : Nat := 127
def n_r11_in : Nat := 128
def n_r11_receives : Nat := 129
def n_r08_Close : Nat := 130
def n_r08_Send : Nat := 131
def n_r08_Recv : Nat := 132
def n_slices_Sort_int_int : Nat := 138
def n_slices_Compact_int_int : Nat := 139
def n_deque_Deque_int_List : Nat := 145
def n_deque_Deque_int_Steal : Nat := 147
def n_pipe_Pipe_int_is : Nat := 148
def n_pipe_Pipe_int_Len : Nat := 149
def n_pipe_Pipe_int_Room : Nat := 150
def n_pipe_Pipe_int_Done : Nat := 151
def n_deque_Deque_int_each : Nat := 161
def n_deque_Deque_int_take : Nat := 162
def n_pipe_Pipe_int_Closed : Nat := 163
def n_deque_Deque_int_each_c1 : Nat := 177
/-- (*coroner/picks.Script).Steps -/
def F_picks_Script_Steps : AFn := ⟨1, [.tmp 2],
 (.seq (.ops false [o 2 (.mv (ci 0))])
 (.seq (.seq (.ops false [o 3 (.mv (t 0)), o 4 (.call (.func n_picks_Script_is) [(t 3)]), o 5 (.un .not (t 4))])
 (.cond (t 5)
 (.seq (.ops false [o 2 (.mv (ci 0))])
 .ret)
 .skip))
 (.seq (.ops false [o 6 (.mv (t 0)), o 7 (.nilc (t 6)), o 8 (.faddr 3 (t 7)), o 9 (.load1 (t 8)), o 2 (.mv (t 9))])
 .ret)))⟩
/-- coroner/coronerref11.Few -/
def F_r11_Few : AFn := ⟨1, [.tmp 2],
 (.seq (.ops false [o 2 (.mv (.const (.bool false)))])
 (.seq (.seq (.ops false [o 4 (.mv (t 0)), o 5 (.len 1 (t 4)), o 6 (.bin .gtr (t 5) (ci 20))])
 (.cond (t 6)
 (.seq (.ops false [o 2 (.mv (.const (.bool false)))])
 .ret)
 .skip))
 (.seq (.seq (.ops false [o 3 (.mv (ci 0))])
 (.seq (.keep [0, 3]) (.block 0 (.loop (.seq (.seq (.seq (.ops false [o 7 (.mv (t 3)), o 8 (.mv (t 0)), o 9 (.len 1 (t 8)), o 10 (.bin .lss (t 7) (t 9))])
 (.cond (t 10)
 .skip
 (.exit 0)))
 (.seq (.block 1 (.seq (.ops false [o 13 (.mv (t 0)), o 14 (.mv (t 3)), o 15 (.iaddr 1 (t 13) (t 14)), o 16 (.load1 (t 15)), o 17 (.len 1 (t 16)), o 18 (.bin .gtr (t 17) (ci 40))])
 (.cond (t 18)
 (.seq (.ops false [o 2 (.mv (.const (.bool false)))])
 .ret)
 .skip)))
 (.seq (.keep [0, 3])
 (.ops false [o 11 (.mv (t 3)), o 12 (.bin .add (t 11) (ci 1)), o 3 (.mv (t 12))])))) (.keep [0, 3]))))))
 (.seq (.keep [])
 (.seq (.ops false [o 2 (.mv (.const (.bool true)))])
 .ret)))))⟩
/-- coroner/coronerref11.Count -/
def F_r11_Count : AFn := ⟨1, [.tmp 2],
 (.seq (.ops false [o 2 (.mv (ci 0))])
 (.seq (.ops false [o 3 (.mv (ci 0))])
 (.seq (.seq (.ops false [o 4 (.mv (ci 0))])
 (.seq (.keep [0, 3, 4]) (.block 0 (.loop (.seq (.seq (.seq (.ops false [o 5 (.mv (t 4)), o 6 (.mv (t 0)), o 7 (.len 1 (t 6)), o 8 (.bin .lss (t 5) (t 7))])
 (.cond (t 8)
 .skip
 (.exit 0)))
 (.seq (.block 1 (.ops false [o 11 (.mv (t 3)), o 12 (.mv (t 0)), o 13 (.mv (t 4)), o 14 (.iaddr 1 (t 12) (t 13)), o 15 (.load1 (t 14)), o 16 (.len 1 (t 15)), o 17 (.bin .add (t 11) (t 16)), o 3 (.mv (t 17))]))
 (.seq (.keep [0, 3, 4])
 (.ops false [o 9 (.mv (t 4)), o 10 (.bin .add (t 9) (ci 1)), o 4 (.mv (t 10))])))) (.keep [0, 3, 4]))))))
 (.seq (.keep [3])
 (.seq (.ops false [o 18 (.mv (t 3)), o 2 (.mv (t 18))])
 .ret)))))⟩
/-- coroner/coronerref11.Exited -/
def F_r11_Exited : AFn := ⟨1, [.tmp 2],
 (.seq (.ops false [o 1 (.box (t 0)), o 2 (.mv (ci 0))])
 (.seq (.ops false [o 3 (.mv (ci 0))])
 (.seq (.seq (.ops false [o 4 (.mv (ci 0))])
 (.seq (.keep [1, 3, 4]) (.block 0 (.loop (.seq (.seq (.seq (.ops false [o 5 (.mv (t 4)), o 6 (.faddr 5 (t 1)), o 7 (.load1 (t 6)), o 8 (.len 1 (t 7)), o 9 (.bin .lss (t 5) (t 8))])
 (.cond (t 9)
 .skip
 (.exit 0)))
 (.seq (.block 1 (.seq (.ops false [o 12 (.faddr 5 (t 1)), o 13 (.load1 (t 12)), o 14 (.mv (t 4)), o 15 (.iaddr 1 (t 13) (t 14)), o 16 (.load1 (t 15))])
 (.cond (t 16)
 (.ops false [o 17 (.mv (t 3)), o 18 (.bin .add (t 17) (ci 1)), o 3 (.mv (t 18))])
 .skip)))
 (.seq (.keep [1, 3, 4])
 (.ops false [o 10 (.mv (t 4)), o 11 (.bin .add (t 10) (ci 1)), o 4 (.mv (t 11))])))) (.keep [1, 3, 4]))))))
 (.seq (.keep [3])
 (.seq (.ops false [o 19 (.mv (t 3)), o 2 (.mv (t 19))])
 .ret)))))⟩
/-- (*coroner/merge.sender[int]).step -/
def F_merge_sender_int_step : AFn := ⟨1, [],
 (.seq (.seq (.ops true [o 2 (.mv (t 0)), o 3 (.nilc (t 2)), o 4 (.faddr 1 (t 3)), o 5 (.load1 (t 4)), o 6 (.mv (t 0)), o 7 (.nilc (t 6)), o 8 (.faddr 0 (t 7)), o 9 (.load1 (t 8)), o 10 (.len 1 (t 9)), b 11 (.bin .geq (t 5) (t 10))])
 (.seq (.keep [0, 11])
 (.cond (t 11)
 (.seq (.ops false [o 12 (.mv (t 0)), o 13 (.nilc (t 12)), o 14 (.faddr 2 (t 13)), o 15 (.load1 (t 14)), o 16 (.call (.func n_pipe_Pipe_int_Close) [(t 15)])])
 (.seq (.ops false [o 17 (.mv (t 0)), o 18 (.nilc (t 17)), o 19 (.faddr 3 (t 18)), s (.store 1 (t 19) (.const (.bool true)))])
 .ret))
 .skip)))
 (.seq (.keep [0])
 (.seq (.ops true [o 20 (.mv (t 0)), o 21 (.nilc (t 20)), o 22 (.faddr 2 (t 21)), o 23 (.load1 (t 22)), o 24 (.mv (t 0)), o 25 (.nilc (t 24)), o 26 (.faddr 0 (t 25)), o 27 (.load1 (t 26)), o 28 (.mv (t 0)), o 29 (.nilc (t 28)), o 30 (.faddr 1 (t 29)), o 31 (.load1 (t 30)), o 32 (.iaddr 1 (t 27) (t 31)), o 33 (.load1 (t 32)), b 34 (.call (.func n_pipe_Pipe_int_Send) [(t 23), (t 33)])])
 (.seq (.keep [0])
 (.ops false [o 35 (.mv (t 0)), o 36 (.nilc (t 35)), o 37 (.faddr 1 (t 36)), o 38 (.load1 (t 37)), o 39 (.bin .add (t 38) (ci 1)), o 40 (.nilc (t 35)), o 41 (.faddr 1 (t 40)), s (.store 1 (t 41) (t 39))])))))⟩
/-- coroner/coronerref11.take -/
def F_r11_take : AFn := ⟨1, [.tmp 2],
 (.seq (.ops false [o 2 (.mv (ci 0))])
 (.seq (.ops false [o 3 (.mv (ci (-1)))])
 (.seq (.seq (.ops false [o 4 (.mv (ci 0))])
 (.seq (.keep [0, 3, 4]) (.block 0 (.loop (.seq (.seq (.seq (.ops false [o 5 (.mv (t 4)), o 6 (.mv (t 0)), o 7 (.len 1 (t 6)), o 8 (.bin .lss (t 5) (t 7))])
 (.cond (t 8)
 .skip
 (.exit 0)))
 (.seq (.block 1 (.seq (.ops true (o 11 (.mv (t 0)) :: o 12 (.mv (t 4)) :: b 13 (.iaddr 1 (t 11) (t 12)) :: b 14 (.load1 (t 13)) :: b 15 (.len 1 (t 14)) :: b 16 (.bin .gtr (t 15) (ci 0)) :: b 17 (.mv (t 16)) :: ⟨(some 18), .mv (t 3), some (17, true), true⟩ :: ⟨(some 19), .bin .lss (t 18) (ci 0), some (17, true), true⟩ :: ⟨(some 20), .mv (t 19), some (17, true), true⟩ :: ⟨(some 21), .mv (t 0), some (20, false), false⟩ :: ⟨(some 22), .mv (t 4), some (20, false), false⟩ :: ⟨(some 23), .iaddr 1 (t 21) (t 22), some (20, false), false⟩ :: ⟨(some 24), .load1 (t 23), some (20, false), false⟩ :: ⟨(some 25), .iaddr 1 (t 24) (ci 0), some (20, false), false⟩ :: ⟨(some 26), .load1 (t 25), some (20, false), false⟩ :: ⟨(some 27), .mv (t 0), some (20, false), false⟩ :: ⟨(some 28), .mv (t 3), some (20, false), false⟩ :: ⟨(some 29), .iaddr 1 (t 27) (t 28), some (20, false), false⟩ :: ⟨(some 30), .load1 (t 29), some (20, false), false⟩ :: ⟨(some 31), .iaddr 1 (t 30) (ci 0), some (20, false), false⟩ :: ⟨(some 32), .load1 (t 31), some (20, false), false⟩ :: ⟨(some 33), .bin .lss (t 26) (t 32), some (20, false), true⟩ :: ⟨(some 34), .pick (t 20) (.const (.bool true)) (t 33), some (17, true), true⟩ :: b 35 (.pick (t 17) (t 34) (.const (.bool false))) :: []))
 (.seq (.keep [0, 3, 4, 35])
 (.cond (t 35)
 (.ops false [o 36 (.mv (t 4)), o 3 (.mv (t 36))])
 .skip))))
 (.seq (.keep [0, 3, 4])
 (.ops false [o 9 (.mv (t 4)), o 10 (.bin .add (t 9) (ci 1)), o 4 (.mv (t 10))])))) (.keep [0, 3, 4]))))))
 (.seq (.keep [3])
 (.seq (.ops false [o 37 (.mv (t 3)), o 2 (.mv (t 37))])
 .ret)))))⟩
/-- coroner/coronerref11.send -/
def F_r11_send : AFn := ⟨2, [.cellN 4 8],
 (.seq (.ops false [o 2 (.box (t 0)), o 4 (.alloc [(.slice none 0 0), (.slice none 0 0), (.slice none 0 0), (.slice none 0 0), (.slice none 0 0), (.slice none 0 0), (.slice none 0 0), (.int .i64 0)])])
 (.seq (.seq (.ops true [o 5 (.faddr 1 (t 2)), o 6 (.load1 (t 5)), o 7 (.mv (t 1)), o 8 (.iaddr 1 (t 6) (t 7)), o 9 (.load1 (t 8)), o 10 (.faddr 0 (t 2)), o 11 (.load1 (t 10)), o 12 (.mv (t 1)), o 13 (.iaddr 1 (t 11) (t 12)), o 14 (.load1 (t 13)), o 15 (.len 1 (t 14)), b 16 (.bin .eql (t 9) (t 15))])
 (.seq (.keep [1, 2, 4, 16])
 (.cond (t 16)
 (.seq (.opsA [] [o 18 (.faddr 2 (t 2)), o 19 (.load1 (t 18)), o 20 (.mv (t 1)), o 21 (.faddr 2 (t 2)), o 22 (.load1 (t 21)), o 23 (.mv (t 1)), o 24 (.iaddr 4 (t 22) (t 23)), o 25 (.loadN 4 (t 24)), o 26 (.call (.func n_r08_Close) [(t 25)]), o 17 (.mv (t 26)), o 27 (.extract 0 (t 17)), o 28 (.extract 1 (t 17)), o 29 (.iaddr 4 (t 19) (t 20)), sb (.store 4 (t 29) (t 27))])
 (.seq (.keep [1, 2, 4])
 (.seq (.ops false [o 30 (.faddr 5 (t 2)), o 31 (.load1 (t 30)), o 32 (.mv (t 1)), o 33 (.iaddr 1 (t 31) (t 32)), s (.store 1 (t 33) (.const (.bool true)))])
 (.seq (.ops false [o 34 (.loadN 8 (t 2)), s (.store 8 (t 4) (t 34))])
 .ret))))
 .skip)))
 (.seq (.keep [1, 2, 4])
 (.seq (.opsA [] (o 36 (.faddr 2 (t 2)) :: o 37 (.load1 (t 36)) :: o 38 (.mv (t 1)) :: o 39 (.faddr 2 (t 2)) :: o 40 (.load1 (t 39)) :: o 41 (.mv (t 1)) :: o 42 (.iaddr 4 (t 40) (t 41)) :: o 43 (.loadN 4 (t 42)) :: o 44 (.faddr 0 (t 2)) :: o 45 (.load1 (t 44)) :: o 46 (.mv (t 1)) :: o 47 (.iaddr 1 (t 45) (t 46)) :: o 48 (.load1 (t 47)) :: o 49 (.faddr 1 (t 2)) :: o 50 (.load1 (t 49)) :: o 51 (.mv (t 1)) :: o 52 (.iaddr 1 (t 50) (t 51)) :: o 53 (.load1 (t 52)) :: o 54 (.iaddr 1 (t 48) (t 53)) :: o 55 (.load1 (t 54)) :: o 56 (.call (.func n_r08_Send) [(t 43), (t 55)]) :: o 35 (.mv (t 56)) :: o 57 (.extract 0 (t 35)) :: o 58 (.extract 1 (t 35)) :: o 59 (.iaddr 4 (t 37) (t 38)) :: sb (.store 4 (t 59) (t 57)) :: []))
 (.seq (.keep [1, 2, 4])
 (.seq (.ops true [o 60 (.faddr 1 (t 2)), o 61 (.load1 (t 60)), o 62 (.mv (t 1)), o 63 (.faddr 1 (t 2)), o 64 (.load1 (t 63)), o 65 (.mv (t 1)), o 66 (.iaddr 1 (t 64) (t 65)), o 67 (.load1 (t 66)), o 68 (.bin .add (t 67) (ci 1)), b 69 (.iaddr 1 (t 61) (t 62)), sb (.store 1 (t 69) (t 68))])
 (.seq (.keep [2, 4])
 (.seq (.ops false [o 70 (.loadN 8 (t 2)), s (.store 8 (t 4) (t 70))])
 .ret))))))))⟩
/-- (*coroner/picks.Script).Cancelled -/
def F_picks_Script_Cancelled : AFn := ⟨1, [.tmp 2],
 (.seq (.ops false [o 2 (.mv (.const (.bool false)))])
 (.seq (.ops true [b 3 (.mv (t 0)), b 4 (.call (.func n_picks_Script_is) [(t 3)]), b 5 (.mv (t 4)), ⟨(some 6), .mv (t 0), some (5, true), true⟩, ⟨(some 7), .nilc (t 6), some (5, true), true⟩, ⟨(some 8), .faddr 2 (t 7), some (5, true), true⟩, ⟨(some 9), .load1 (t 8), some (5, true), true⟩, ⟨(some 10), .bin .geq (t 9) (ci 0), some (5, true), true⟩, b 11 (.pick (t 5) (t 10) (.const (.bool false))), b 12 (.mv (t 11)), ⟨(some 13), .mv (t 0), some (12, true), false⟩, ⟨(some 14), .nilc (t 13), some (12, true), false⟩, ⟨(some 15), .faddr 3 (t 14), some (12, true), false⟩, ⟨(some 16), .load1 (t 15), some (12, true), false⟩, ⟨(some 17), .mv (t 0), some (12, true), false⟩, ⟨(some 18), .nilc (t 17), some (12, true), false⟩, ⟨(some 19), .faddr 2 (t 18), some (12, true), false⟩, ⟨(some 20), .load1 (t 19), some (12, true), false⟩, ⟨(some 21), .bin .geq (t 16) (t 20), some (12, true), true⟩, b 22 (.pick (t 12) (t 21) (.const (.bool false))), b 2 (.mv (t 22))])
 (.seq (.keep [2])
 .ret)))⟩
/-- (*coroner/deque.Deque[int]).Len -/
def F_deque_Deque_int_Len : AFn := ⟨1, [.tmp 2],
 (.seq (.ops false [o 2 (.mv (ci 0))])
 (.seq (.seq (.ops false [o 3 (.mv (t 0)), o 4 (.eqv 1 false (t 3) (.const (.pointer none)))])
 (.cond (t 4)
 (.seq (.ops false [o 2 (.mv (ci 0))])
 .ret)
 .skip))
 (.seq (.ops false [o 5 (.mv (t 0)), o 6 (.nilc (t 5)), o 7 (.faddr 2 (t 6)), o 8 (.load1 (t 7)), o 2 (.mv (t 8))])
 .ret)))⟩
/-- (*coroner/pipe.Pipe[int]).Recv -/
def F_pipe_Pipe_int_Recv : AFn := ⟨1, [.tmp 2, .tmp 3],
 (.seq (.ops false [o 2 (.mv (ci 0)), o 3 (.mv (ci 0))])
 (.seq (.ops false [o 4 (.mv (ci 0))])
 (.seq (.seq (.ops false [o 7 (.mv (t 0)), o 8 (.call (.func n_pipe_Pipe_int_is) [(t 7)]), o 9 (.un .not (t 8))])
 (.cond (t 9)
 (.seq (.ops false [o 10 (.mv (t 4)), o 2 (.mv (t 10)), o 3 (.mv (ci 1))])
 .ret)
 .skip))
 (.seq (.ops false [o 12 (.mv (t 0)), o 13 (.nilc (t 12)), o 14 (.faddr 1 (t 13)), o 15 (.call (.func n_deque_Deque_int_Steal) [(t 14)]), o 11 (.mv (t 15)), o 16 (.extract 0 (t 11)), o 17 (.extract 1 (t 11)), o 5 (.mv (t 16)), o 6 (.mv (t 17))])
 (.seq (.keep [0, 4, 5, 6])
 (.seq (.block 0 (.seq (.ops false [o 19 (.mv (t 6)), o 18 (.mv (t 19))])
 (.cond (t 18)
 (.seq (.ops false [o 20 (.mv (t 0)), o 21 (.nilc (t 20)), o 22 (.faddr 6 (t 21)), o 23 (.load1 (t 22)), o 24 (.bin .add (t 23) (ci 1)), o 25 (.nilc (t 20)), o 26 (.faddr 6 (t 25)), s (.store 1 (t 26) (t 24))])
 (.seq (.keep [5])
 (.seq (.ops false [o 27 (.mv (t 5)), o 2 (.mv (t 27)), o 3 (.mv (ci 0))])
 .ret)))
 (.seq (.ops false [o 29 (.mv (t 0)), o 30 (.nilc (t 29)), o 31 (.faddr 4 (t 30)), o 32 (.load1 (t 31)), o 28 (.mv (t 32))])
 (.cond (t 28)
 (.seq (.ops false [o 33 (.mv (t 4)), o 2 (.mv (t 33)), o 3 (.mv (ci 11))])
 .ret)
 .skip)))))
 (.seq (.keep [4])
 (.seq (.ops false [o 34 (.mv (t 4)), o 2 (.mv (t 34)), o 3 (.mv (ci 10))])
 .ret))))))))⟩
/-- coroner/coronerref11.in -/
def F_r11_in : AFn := ⟨1, [.tmp 2],
 (.seq (.ops false [o 1 (.box (t 0)), o 2 (.mv (ci 0))])
 (.seq (.ops false [o 3 (.faddr 1 (t 1)), o 4 (.load1 (t 3)), o 5 (.len 1 (t 4)), o 6 (.faddr 2 (t 1)), o 7 (.load1 (t 6)), o 8 (.bin .sub (t 5) (t 7)), o 2 (.mv (t 8))])
 (.seq (.keep [2])
 .ret)))⟩
/-- coroner/coronerref08.Recv -/
def F_r08_Recv : AFn := ⟨1, [.cellN 2 4, .tmp 3, .tmp 4],
 (.seq (.ops false [o 1 (.box (t 0)), o 2 (.alloc [(.int .i64 0), (.slice none 0 0), (.int .i64 0), (.bool false)]), o 3 (.mv (ci 0)), o 4 (.mv (ci 0))])
 (.seq (.seq (.ops false [o 6 (.faddr 2 (t 1)), o 7 (.load1 (t 6)), o 8 (.faddr 1 (t 1)), o 9 (.load1 (t 8)), o 10 (.len 1 (t 9)), o 11 (.bin .lss (t 7) (t 10))])
 (.cond (t 11)
 (.seq (.ops false [o 12 (.faddr 1 (t 1)), o 13 (.load1 (t 12)), o 14 (.faddr 2 (t 1)), o 15 (.load1 (t 14)), o 16 (.iaddr 1 (t 13) (t 15)), o 17 (.load1 (t 16)), o 5 (.mv (t 17))])
 (.seq (.keep [1, 2, 5])
 (.seq (.ops false [o 18 (.faddr 2 (t 1)), o 19 (.load1 (t 18)), o 20 (.bin .add (t 19) (ci 1)), o 21 (.faddr 2 (t 1)), s (.store 1 (t 21) (t 20))])
 (.seq (.ops false [o 22 (.loadN 4 (t 1)), o 23 (.mv (t 5)), s (.store 4 (t 2) (t 22)), o 3 (.mv (t 23)), o 4 (.mv (ci 0))])
 .ret))))
 .skip))
 (.seq (.keep [1, 2])
 (.seq (.seq (.ops false [o 24 (.faddr 3 (t 1)), o 25 (.load1 (t 24))])
 (.cond (t 25)
 (.seq (.ops false [o 26 (.loadN 4 (t 1)), s (.store 4 (t 2) (t 26)), o 3 (.mv (ci 0)), o 4 (.mv (ci 11))])
 .ret)
 .skip))
 (.seq (.ops false [o 27 (.loadN 4 (t 1)), s (.store 4 (t 2) (t 27)), o 3 (.mv (ci 0)), o 4 (.mv (ci 10))])
 .ret)))))⟩
/-- (*coroner/pipe.Pipe[int]).is -/
def F_pipe_Pipe_int_is : AFn := ⟨1, [.tmp 2],
 (.seq (.ops false [o 2 (.mv (.const (.bool false)))])
 (.seq (.ops false [o 3 (.mv (t 0)), o 4 (.eqv 1 true (t 3) (.const (.pointer none))), o 5 (.mv (t 4)), ⟨(some 6), .mv (t 0), some (5, true), false⟩, ⟨(some 7), .nilc (t 6), some (5, true), false⟩, ⟨(some 8), .faddr 0 (t 7), some (5, true), false⟩, ⟨(some 9), .load1 (t 8), some (5, true), false⟩, ⟨(some 10), .bin .gtr (t 9) (ci 0), some (5, true), false⟩, o 11 (.pick (t 5) (t 10) (.const (.bool false))), o 2 (.mv (t 11))])
 (.seq (.keep [2])
 .ret)))⟩
/-- coroner/coronerlaw11.MergePlays -/
def F_l11_MergePlays : AFn := ⟨4, [.tmp 8],
 (.seq (.ops false [o 8 (.mv (.const (.bool false)))])
 (.seq (.seq (.ops false [o 16 (.mv (t 0)), o 17 (.call (.func n_r11_Few) [(t 16)]), o 18 (.un .not (t 17)), o 19 (.mv (t 18)), ⟨(some 20), .mv (t 1), some (19, false), false⟩, ⟨(some 21), .len 1 (t 20), some (19, false), false⟩, ⟨(some 22), .bin .gtr (t 21) (ci 300), some (19, false), false⟩, o 23 (.pick (t 19) (.const (.bool true)) (t 22))])
 (.seq (.keep [0, 1, 2, 3, 23])
 (.cond (t 23)
 (.seq (.ops false [o 24 (.call (.func n_l11_works) []), o 8 (.mv (t 24))])
 .ret)
 .skip)))
 (.seq (.keep [0, 1, 2, 3])
 (.seq (.ops false [o 25 (.mv (t 1)), o 26 (.mv (t 2)), o 27 (.call (.func n_picks_New) [(t 25), (t 26)]), o 9 (.mv (t 27))])
 (.seq (.ops false [o 29 (.mv (t 0)), o 30 (.mv (t 3)), o 31 (.mv (t 9)), o 32 (.call (.func n_merge_Run_int) [(t 29), (.func n_l11_order), (t 30), (t 31)]), o 28 (.mv (t 32)), o 33 (.extract 0 (t 28)), o 34 (.extract 1 (t 28)), o 35 (.extract 2 (t 28)), o 11 (.alloc [(.int .i64 0), (.int .i64 0), (.int .i64 0)]), o 10 (.mv (t 33)), s (.store 3 (t 11) (t 34)), o 12 (.mv (t 35))])
 (.seq (.keep [0, 1, 2, 3, 9, 10, 11, 12])
 (.seq (.ops false [o 37 (.mv (t 0)), o 38 (.mv (t 3)), o 39 (.mv (t 1)), o 40 (.mv (t 2)), o 41 (.build [(.slice none 0 0), (.int .i64 0), (.int .i64 0), (.int .i64 0)] [(0, (1, (t 39))), (1, (1, (t 40)))]), o 42 (.call (.func n_r11_Run) [(t 37), (t 38), (t 41)]), o 36 (.mv (t 42)), o 43 (.extract 0 (t 36)), o 44 (.extract 1 (t 36)), o 45 (.extract 2 (t 36)), o 13 (.alloc [(.slice none 0 0), (.slice none 0 0), (.slice none 0 0), (.slice none 0 0), (.slice none 0 0), (.slice none 0 0), (.slice none 0 0), (.int .i64 0)]), o 14 (.alloc [(.slice none 0 0), (.int .i64 0), (.int .i64 0), (.int .i64 0)]), s (.store 8 (t 13) (t 43)), s (.store 4 (t 14) (t 44)), o 15 (.mv (t 45))])
 (.seq (.keep [9, 10, 11, 12, 13, 14, 15])
 (.seq (.ops true (o 46 (.mv (t 10)) :: o 47 (.faddr 6 (t 13)) :: o 48 (.load1 (t 47)) :: b 49 (.call (.func n_r01_Same) [(t 46), (t 48)]) :: b 50 (.mv (t 49)) :: ⟨(some 51), .mv (t 12), some (50, true), false⟩ :: ⟨(some 52), .mv (t 15), some (50, true), false⟩ :: ⟨(some 53), .bin .eql (t 51) (t 52), some (50, true), true⟩ :: b 54 (.pick (t 50) (t 53) (.const (.bool false))) :: b 55 (.mv (t 54)) :: ⟨(some 56), .faddr 0 (t 11), some (55, true), false⟩ :: ⟨(some 57), .load1 (t 56), some (55, true), false⟩ :: ⟨(some 58), .faddr 7 (t 13), some (55, true), false⟩ :: ⟨(some 59), .load1 (t 58), some (55, true), false⟩ :: ⟨(some 60), .bin .eql (t 57) (t 59), some (55, true), true⟩ :: b 61 (.pick (t 55) (t 60) (.const (.bool false))) :: b 62 (.mv (t 61)) :: ⟨(some 63), .faddr 1 (t 11), some (62, true), false⟩ :: ⟨(some 64), .load1 (t 63), some (62, true), false⟩ :: ⟨(some 65), .faddr 1 (t 13), some (62, true), false⟩ :: ⟨(some 66), .load1 (t 65), some (62, true), false⟩ :: ⟨(some 67), .call (.func n_r11_Sum) [(t 66)], some (62, true), false⟩ :: ⟨(some 68), .bin .eql (t 64) (t 67), some (62, true), true⟩ :: b 69 (.pick (t 62) (t 68) (.const (.bool false))) :: b 70 (.mv (t 69)) :: ⟨(some 71), .faddr 2 (t 11), some (70, true), false⟩ :: ⟨(some 72), .load1 (t 71), some (70, true), false⟩ :: ⟨(some 73), .loadN 8 (t 13), some (70, true), false⟩ :: ⟨(some 74), .call (.func n_r11_Exited) [(t 73)], some (70, true), false⟩ :: ⟨(some 75), .bin .eql (t 72) (t 74), some (70, true), true⟩ :: b 76 (.pick (t 70) (t 75) (.const (.bool false))) :: b 77 (.mv (t 76)) :: ⟨(some 78), .mv (t 9), some (77, true), false⟩ :: ⟨(some 79), .call (.func n_picks_Script_Steps) [(t 78)], some (77, true), false⟩ :: ⟨(some 80), .faddr 2 (t 14), some (77, true), false⟩ :: ⟨(some 81), .load1 (t 80), some (77, true), false⟩ :: ⟨(some 82), .bin .eql (t 79) (t 81), some (77, true), true⟩ :: b 83 (.pick (t 77) (t 82) (.const (.bool false))) :: b 84 (.mv (t 83)) :: ⟨(some 85), .mv (t 9), some (84, true), false⟩ :: ⟨(some 86), .call (.func n_picks_Script_Used) [(t 85)], some (84, true), false⟩ :: ⟨(some 87), .faddr 3 (t 14), some (84, true), false⟩ :: ⟨(some 88), .load1 (t 87), some (84, true), false⟩ :: ⟨(some 89), .bin .eql (t 86) (t 88), some (84, true), true⟩ :: b 90 (.pick (t 84) (t 89) (.const (.bool false))) :: b 91 (.mv (t 90)) :: ⟨(some 92), .call (.func n_l11_works) [], some (91, true), true⟩ :: b 93 (.pick (t 91) (t 92) (.const (.bool false))) :: b 8 (.mv (t 93)) :: []))
 (.seq (.keep [8])
 .ret))))))))))⟩
/-- coroner/coronerref01.Same -/
def F_r01_Same : AFn := ⟨2, [.tmp 4],
 (.seq (.ops false [o 4 (.mv (.const (.bool false)))])
 (.seq (.seq (.ops false [o 6 (.mv (t 0)), o 7 (.len 1 (t 6)), o 8 (.mv (t 1)), o 9 (.len 1 (t 8)), o 10 (.bin .neq (t 7) (t 9))])
 (.cond (t 10)
 (.seq (.ops false [o 4 (.mv (.const (.bool false)))])
 .ret)
 .skip))
 (.seq (.seq (.ops false [o 5 (.mv (ci 0))])
 (.seq (.keep [0, 1, 5]) (.block 0 (.loop (.seq (.seq (.seq (.ops false [o 11 (.mv (t 5)), o 12 (.mv (t 0)), o 13 (.len 1 (t 12)), o 14 (.bin .lss (t 11) (t 13))])
 (.cond (t 14)
 .skip
 (.exit 0)))
 (.seq (.block 1 (.seq (.ops true [o 17 (.mv (t 0)), o 18 (.mv (t 5)), o 19 (.iaddr 1 (t 17) (t 18)), o 20 (.load1 (t 19)), o 21 (.mv (t 1)), o 22 (.mv (t 5)), o 23 (.iaddr 1 (t 21) (t 22)), o 24 (.load1 (t 23)), b 25 (.bin .neq (t 20) (t 24))])
 (.seq (.keep [0, 1, 5, 25])
 (.cond (t 25)
 (.seq (.ops false [o 4 (.mv (.const (.bool false)))])
 .ret)
 .skip))))
 (.seq (.keep [0, 1, 5])
 (.ops false [o 15 (.mv (t 5)), o 16 (.bin .add (t 15) (ci 1)), o 5 (.mv (t 16))])))) (.keep [0, 1, 5]))))))
 (.seq (.keep [])
 (.seq (.ops false [o 4 (.mv (.const (.bool true)))])
 .ret)))))⟩
/-- coroner/coronerlaw11.works -/
def F_l11_works : AFn := ⟨0, [.tmp 0],
 (.seq (.ops false [o 0 (.mv (.const (.bool false)))])
 (.seq (.ops false [o 8 (.bslice 1 2 [(.int .i64 0), (.int .i64 0)] [(0, (1, (ci 1))), (1, (1, (ci 3)))]), o 9 (.bslice 1 2 [(.int .i64 0), (.int .i64 0)] [(0, (1, (ci 1))), (1, (1, (ci 2)))]), o 10 (.bslice 1 2 [(.slice none 0 0), (.slice none 0 0)] [(0, (1, (t 8))), (1, (1, (t 9)))]), o 1 (.mv (t 10))])
 (.seq (.ops false [o 12 (.mv (t 1)), o 13 (.call (.func n_picks_New) [(.const (.slice none 0 0)), (ci (-1))]), o 14 (.call (.func n_merge_Run_int) [(t 12), (.func n_l11_order), (ci 1), (t 13)]), o 11 (.mv (t 14)), o 15 (.extract 0 (t 11)), o 16 (.extract 1 (t 11)), o 17 (.extract 2 (t 11)), o 3 (.alloc [(.int .i64 0), (.int .i64 0), (.int .i64 0)]), o 2 (.mv (t 15)), s (.store 3 (t 3) (t 16)), o 4 (.mv (t 17))])
 (.seq (.keep [1, 2, 3, 4])
 (.seq (.ops false [o 19 (.mv (t 1)), o 20 (.call (.func n_picks_New) [(.const (.slice none 0 0)), (ci (-1))]), o 21 (.call (.func n_merge_Run_int) [(t 19), (.func n_l11_order), (ci 0), (t 20)]), o 18 (.mv (t 21)), o 22 (.extract 0 (t 18)), o 23 (.extract 1 (t 18)), o 24 (.extract 2 (t 18)), o 6 (.alloc [(.int .i64 0), (.int .i64 0), (.int .i64 0)]), o 5 (.mv (t 22)), s (.store 3 (t 6) (t 23)), o 7 (.mv (t 24))])
 (.seq (.keep [2, 3, 4, 7])
 (.seq (.ops false (o 25 (.mv (t 4)) :: o 26 (.bin .eql (t 25) (ci 0)) :: o 27 (.mv (t 26)) :: ⟨(some 28), .mv (t 7), some (27, true), false⟩ :: ⟨(some 29), .bin .eql (t 28) (ci 2), some (27, true), false⟩ :: o 30 (.pick (t 27) (t 29) (.const (.bool false))) :: o 31 (.mv (t 30)) :: ⟨(some 32), .mv (t 2), some (31, true), false⟩ :: ⟨(some 33), .bslice 1 3 [(.int .i64 0), (.int .i64 0), (.int .i64 0)] [(0, (1, (ci 1))), (1, (1, (ci 2))), (2, (1, (ci 3)))], some (31, true), false⟩ :: ⟨(some 34), .call (.func n_r01_Same) [(t 32), (t 33)], some (31, true), false⟩ :: o 35 (.pick (t 31) (t 34) (.const (.bool false))) :: o 36 (.mv (t 35)) :: ⟨(some 37), .faddr 0 (t 3), some (36, true), false⟩ :: ⟨(some 38), .load1 (t 37), some (36, true), false⟩ :: ⟨(some 39), .bin .eql (t 38) (ci 15), some (36, true), false⟩ :: o 40 (.pick (t 36) (t 39) (.const (.bool false))) :: o 41 (.mv (t 40)) :: ⟨(some 42), .faddr 1 (t 3), some (41, true), false⟩ :: ⟨(some 43), .load1 (t 42), some (41, true), false⟩ :: ⟨(some 44), .bin .eql (t 43) (ci 4), some (41, true), false⟩ :: o 45 (.pick (t 41) (t 44) (.const (.bool false))) :: o 46 (.mv (t 45)) :: ⟨(some 47), .faddr 2 (t 3), some (46, true), false⟩ :: ⟨(some 48), .load1 (t 47), some (46, true), false⟩ :: ⟨(some 49), .bin .eql (t 48) (ci 3), some (46, true), false⟩ :: o 50 (.pick (t 46) (t 49) (.const (.bool false))) :: o 0 (.mv (t 50)) :: []))
 (.seq (.keep [0])
 .ret))))))))⟩
/-- (*coroner/picks.Script).Used -/
def F_picks_Script_Used : AFn := ⟨1, [.tmp 2],
 (.seq (.ops false [o 2 (.mv (ci 0))])
 (.seq (.seq (.ops false [o 3 (.mv (t 0)), o 4 (.call (.func n_picks_Script_is) [(t 3)]), o 5 (.un .not (t 4))])
 (.cond (t 5)
 (.seq (.ops false [o 2 (.mv (ci 0))])
 .ret)
 .skip))
 (.seq (.ops false [o 6 (.mv (t 0)), o 7 (.nilc (t 6)), o 8 (.faddr 4 (t 7)), o 9 (.load1 (t 8)), o 2 (.mv (t 9))])
 .ret)))⟩
/-- (*coroner/deque.Deque[int]).Push -/
def F_deque_Deque_int_Push : AFn := ⟨2, [],
 (.seq (.seq (.ops false [o 4 (.mv (t 0)), o 5 (.eqv 1 false (t 4) (.const (.pointer none)))])
 (.cond (t 5)
 .ret
 .skip))
 (.seq (.ops false [o 6 (.mv (t 0)), o 7 (.call (.func n_deque_Deque_int_grow) [(t 6)])])
 (.seq (.ops true [o 8 (.mv (t 0)), o 9 (.nilc (t 8)), o 10 (.faddr 0 (t 9)), o 11 (.load1 (t 10)), o 12 (.mv (t 0)), o 13 (.mv (t 0)), o 14 (.nilc (t 13)), o 15 (.faddr 2 (t 14)), o 16 (.load1 (t 15)), o 17 (.call (.func n_deque_Deque_int_at) [(t 12), (t 16)]), o 18 (.mv (t 1)), b 19 (.iaddr 1 (t 11) (t 17)), sb (.store 1 (t 19) (t 18))])
 (.seq (.keep [0])
 (.ops false [o 20 (.mv (t 0)), o 21 (.nilc (t 20)), o 22 (.faddr 2 (t 21)), o 23 (.load1 (t 22)), o 24 (.bin .add (t 23) (ci 1)), o 25 (.nilc (t 20)), o 26 (.faddr 2 (t 25)), s (.store 1 (t 26) (t 24))])))))⟩
/-- coroner/coronerref09.Step -/
def F_r09_Step : AFn := ⟨2, [.cellN 4 4, .tmp 5, .tmp 6],
 (.seq (.ops false [o 2 (.box (t 0)), o 4 (.alloc [(.slice none 0 0), (.int .i64 0), (.int .i64 0), (.int .i64 0)]), o 5 (.mv (ci 0)), o 6 (.mv (ci 0))])
 (.seq (.seq (.ops false [o 9 (.loadN 4 (t 2)), o 10 (.call (.func n_r09_Cancelled) [(t 9)])])
 (.cond (t 10)
 (.seq (.ops false [o 11 (.loadN 4 (t 2)), s (.store 4 (t 4) (t 11)), o 5 (.mv (ci 0)), o 6 (.mv (ci 8))])
 .ret)
 .skip))
 (.seq (.ops false [o 12 (.mv (t 1)), o 13 (.call (.func n_r05_Of) [(t 12)]), o 7 (.mv (t 13))])
 (.seq (.seq (.ops false [o 14 (.mv (t 7)), o 15 (.len 1 (t 14)), o 16 (.bin .eql (t 15) (ci 0))])
 (.cond (t 16)
 (.seq (.ops false [o 17 (.loadN 4 (t 2)), s (.store 4 (t 4) (t 17)), o 5 (.mv (ci 0)), o 6 (.mv (ci 10))])
 .ret)
 .skip))
 (.seq (.keep [2, 4, 7])
 (.seq (.ops false [o 18 (.faddr 2 (t 2)), o 19 (.load1 (t 18)), o 20 (.bin .add (t 19) (ci 1)), o 21 (.faddr 2 (t 2)), s (.store 1 (t 21) (t 20))])
 (.seq (.seq (.ops false [o 22 (.faddr 3 (t 2)), o 23 (.load1 (t 22)), o 24 (.faddr 0 (t 2)), o 25 (.load1 (t 24)), o 26 (.len 1 (t 25)), o 27 (.bin .geq (t 23) (t 26))])
 (.cond (t 27)
 (.seq (.opsA [(30, 4)] [o 28 (.loadN 4 (t 2)), o 29 (.mv (t 7)), o 30 (.iaddr 1 (t 29) (ci 0)), o 31 (.load1 (t 30)), sb (.store 4 (t 4) (t 28)), o 5 (.mv (t 31)), o 6 (.mv (ci 0))])
 (.seq (.keep [4, 5, 6])
 .ret))
 .skip))
 (.seq (.keep [2, 4, 7])
 (.seq (.ops false [o 32 (.faddr 0 (t 2)), o 33 (.load1 (t 32)), o 34 (.faddr 3 (t 2)), o 35 (.load1 (t 34)), o 36 (.iaddr 1 (t 33) (t 35)), o 37 (.load1 (t 36)), o 38 (.mv (t 7)), o 39 (.len 1 (t 38)), o 40 (.bin .rem (t 37) (t 39)), o 8 (.mv (t 40))])
 (.seq (.keep [2, 4, 7, 8])
 (.seq (.seq (.ops false [o 41 (.mv (t 8)), o 42 (.bin .lss (t 41) (ci 0))])
 (.cond (t 42)
 (.ops false [o 43 (.mv (t 8)), o 44 (.mv (t 7)), o 45 (.len 1 (t 44)), o 46 (.bin .add (t 43) (t 45)), o 8 (.mv (t 46))])
 .skip))
 (.seq (.keep [2, 4, 7, 8])
 (.seq (.ops false [o 47 (.faddr 3 (t 2)), o 48 (.load1 (t 47)), o 49 (.bin .add (t 48) (ci 1)), o 50 (.faddr 3 (t 2)), s (.store 1 (t 50) (t 49))])
 (.seq (.opsA [(54, 4)] [o 51 (.loadN 4 (t 2)), o 52 (.mv (t 7)), o 53 (.mv (t 8)), o 54 (.iaddr 1 (t 52) (t 53)), o 55 (.load1 (t 54)), sb (.store 4 (t 4) (t 51)), o 5 (.mv (t 55)), o 6 (.mv (ci 0))])
 (.seq (.keep [4, 5, 6])
 .ret)))))))))))))))⟩
/-- (*coroner/picks.Script).is -/
def F_picks_Script_is : AFn := ⟨1, [.tmp 2],
 (.seq (.ops false [o 2 (.mv (.const (.bool false)))])
 (.seq (.ops false [o 3 (.mv (t 0)), o 4 (.eqv 1 true (t 3) (.const (.pointer none))), o 5 (.mv (t 4)), ⟨(some 6), .mv (t 0), some (5, true), false⟩, ⟨(some 7), .nilc (t 6), some (5, true), false⟩, ⟨(some 8), .faddr 0 (t 7), some (5, true), false⟩, ⟨(some 9), .load1 (t 8), some (5, true), false⟩, o 10 (.pick (t 5) (t 9) (.const (.bool false))), o 2 (.mv (t 10))])
 (.seq (.keep [2])
 .ret)))⟩
/-- (*coroner/merge.merger[int]).step -/
def F_merge_merger_int_step : AFn := ⟨1, [],
 (.seq (.seq (.ops false [o 4 (.mv (t 0)), o 5 (.call (.func n_merge_merger_int_receives) [(t 4)]), o 2 (.mv (t 5))])
 (.seq (.ops false [o 6 (.mv (t 2)), o 7 (.bin .geq (t 6) (ci 0))])
 (.cond (t 7)
 (.seq (.opsK [(15, 11)] [] [o 9 (.mv (t 0)), o 10 (.nilc (t 9)), o 11 (.faddr 2 (t 10)), o 12 (.load1 (t 11)), o 13 (.mv (t 2)), o 14 (.mv (t 0)), o 15 (.nilc (t 14)), o 16 (.faddr 0 (t 15)), o 17 (.load1 (t 16)), o 18 (.mv (t 2)), o 19 (.iaddr 1 (t 17) (t 18)), o 20 (.load1 (t 19)), o 21 (.nilc (t 20)), o 22 (.faddr 2 (t 21)), o 23 (.load1 (t 22)), b 24 (.call (.func n_pipe_Pipe_int_Recv) [(t 23)]), o 8 (.mv (t 24)), o 25 (.extract 0 (t 8)), o 26 (.extract 1 (t 8)), o 27 (.iaddr 1 (t 12) (t 13)), sb (.store 1 (t 27) (t 25))])
 (.seq (.keep [0, 2])
 (.seq (.ops false [o 28 (.mv (t 0)), o 29 (.nilc (t 28)), o 30 (.faddr 3 (t 29)), o 31 (.load1 (t 30)), o 32 (.mv (t 2)), o 33 (.iaddr 1 (t 31) (t 32)), s (.store 1 (t 33) (.const (.bool true)))])
 (.seq (.keep [])
 .ret))))
 .skip)))
 (.seq (.keep [0])
 (.seq (.ops false [o 34 (.mv (t 0)), o 35 (.call (.func n_merge_merger_int_least) [(t 34)]), o 3 (.mv (t 35))])
 (.seq (.seq (.ops false [o 36 (.mv (t 3)), o 37 (.bin .lss (t 36) (ci 0))])
 (.cond (t 37)
 (.seq (.ops false [o 38 (.mv (t 0)), o 39 (.nilc (t 38)), o 40 (.faddr 5 (t 39)), s (.store 1 (t 40) (.const (.bool true)))])
 .ret)
 .skip))
 (.seq (.opsK [] [] [o 41 (.mv (t 0)), o 42 (.mv (t 0)), o 43 (.nilc (t 42)), o 44 (.faddr 4 (t 43)), o 45 (.load1 (t 44)), o 46 (.mv (t 0)), o 47 (.nilc (t 46)), o 48 (.faddr 2 (t 47)), o 49 (.load1 (t 48)), o 50 (.mv (t 3)), o 51 (.iaddr 1 (t 49) (t 50)), o 52 (.load1 (t 51)), o 53 (.mv (t 0)), o 54 (.nilc (t 53)), o 55 (.faddr 1 (t 54)), o 56 (.load1 (t 55)), b 57 (.call (.func n_merge_put_int) [(t 45), (t 52), (t 56)]), o 58 (.nilc (t 41)), o 59 (.faddr 4 (t 58)), sb (.store 1 (t 59) (t 57))])
 (.seq (.keep [0, 3])
 (.ops false [o 60 (.mv (t 0)), o 61 (.nilc (t 60)), o 62 (.faddr 3 (t 61)), o 63 (.load1 (t 62)), o 64 (.mv (t 3)), o 65 (.iaddr 1 (t 63) (t 64)), s (.store 1 (t 65) (.const (.bool false)))])))))))⟩
/-- coroner/coronerref11.begin -/
def F_r11_begin : AFn := ⟨2, [.cellN 4 8],
 (.seq (.ops false [o 4 (.alloc [(.slice none 0 0), (.slice none 0 0), (.slice none 0 0), (.slice none 0 0), (.slice none 0 0), (.slice none 0 0), (.slice none 0 0), (.int .i64 0)])])
 (.seq (.ops false [o 8 (.mv (t 0)), o 9 (.len 1 (t 8)), o 5 (.mv (t 9))])
 (.seq (.ops true [o 10 (.mv (t 0)), o 11 (.mv (t 5)), o 12 (.mkslice 1 8 [(.int .i64 0)] (t 11) (t 11)), o 13 (.mv (t 5)), o 14 (.mkslice 1 8 [(.int .i64 0)] (t 13) (t 13)), o 15 (.mv (t 5)), o 16 (.mkslice 1 1 [(.bool false)] (t 15) (t 15)), o 17 (.mv (t 5)), o 18 (.bin .add (t 17) (ci 1)), o 19 (.mkslice 1 1 [(.bool false)] (t 18) (t 18)), o 20 (.build [(.slice none 0 0), (.slice none 0 0), (.slice none 0 0), (.slice none 0 0), (.slice none 0 0), (.slice none 0 0), (.slice none 0 0), (.int .i64 0)] [(0, (1, (t 10))), (1, (1, (t 12))), (3, (1, (t 14))), (4, (1, (t 16))), (5, (1, (t 19)))]), o 6 (.alloc [(.slice none 0 0), (.slice none 0 0), (.slice none 0 0), (.slice none 0 0), (.slice none 0 0), (.slice none 0 0), (.slice none 0 0), (.int .i64 0)]), sb (.store 8 (t 6) (t 20))])
 (.seq (.keep [1, 4, 5, 6])
 (.seq (.seq (.ops false [o 7 (.mv (ci 0))])
 (.seq (.keep [1, 4, 5, 6, 7]) (.block 0 (.loop (.seq (.seq (.seq (.ops false [o 21 (.mv (t 7)), o 22 (.mv (t 5)), o 23 (.bin .lss (t 21) (t 22))])
 (.cond (t 23)
 .skip
 (.exit 0)))
 (.seq (.block 1 (.ops false [o 26 (.faddr 2 (t 6)), o 27 (.load1 (t 26)), o 28 (.mv (t 1)), o 29 (.build [(.int .i64 0), (.slice none 0 0), (.int .i64 0), (.bool false)] [(0, (1, (t 28)))]), o 30 (.bslice 4 1 [(.int .i64 0), (.slice none 0 0), (.int .i64 0), (.bool false)] [(0, (4, (t 29)))]), o 31 (.append 4 48 (t 27) (t 30)), o 32 (.faddr 2 (t 6)), s (.store 1 (t 32) (t 31))]))
 (.seq (.keep [1, 4, 5, 6, 7])
 (.ops false [o 24 (.mv (t 7)), o 25 (.bin .add (t 24) (ci 1)), o 7 (.mv (t 25))])))) (.keep [1, 4, 5, 6, 7]))))))
 (.seq (.keep [4, 6])
 (.seq (.ops false [o 33 (.loadN 8 (t 6)), s (.store 8 (t 4) (t 33))])
 .ret)))))))⟩
/-- coroner/coronerref11.merge -/
def F_r11_merge : AFn := ⟨1, [.cellN 2 8],
 (.seq (.ops false [o 1 (.box (t 0)), o 2 (.alloc [(.slice none 0 0), (.slice none 0 0), (.slice none 0 0), (.slice none 0 0), (.slice none 0 0), (.slice none 0 0), (.slice none 0 0), (.int .i64 0)])])
 (.seq (.ops false [o 8 (.loadN 8 (t 1)), o 9 (.call (.func n_r11_receives) [(t 8)]), o 7 (.mv (t 9)), o 10 (.extract 0 (t 7)), o 11 (.extract 1 (t 7)), o 3 (.mv (t 10)), o 4 (.mv (t 11))])
 (.seq (.keep [1, 2, 3])
 (.seq (.seq (.ops false [o 12 (.mv (t 3)), o 13 (.bin .geq (t 12) (ci 0))])
 (.cond (t 13)
 (.seq (.opsA [(18, 30)] [o 15 (.faddr 2 (t 1)), o 16 (.load1 (t 15)), o 17 (.mv (t 3)), o 18 (.faddr 3 (t 1)), o 19 (.load1 (t 18)), o 20 (.mv (t 3)), o 21 (.faddr 2 (t 1)), o 22 (.load1 (t 21)), o 23 (.mv (t 3)), o 24 (.iaddr 4 (t 22) (t 23)), o 25 (.loadN 4 (t 24)), o 26 (.call (.func n_r08_Recv) [(t 25)]), o 14 (.mv (t 26)), o 27 (.extract 0 (t 14)), o 28 (.extract 1 (t 14)), o 29 (.extract 2 (t 14)), o 30 (.iaddr 4 (t 16) (t 17)), sb (.store 4 (t 30) (t 27)), o 31 (.iaddr 1 (t 19) (t 20)), sb (.store 1 (t 31) (t 28))])
 (.seq (.keep [1, 2, 3])
 (.seq (.ops false [o 32 (.faddr 4 (t 1)), o 33 (.load1 (t 32)), o 34 (.mv (t 3)), o 35 (.iaddr 1 (t 33) (t 34)), s (.store 1 (t 35) (.const (.bool true)))])
 (.seq (.ops false [o 36 (.loadN 8 (t 1)), s (.store 8 (t 2) (t 36))])
 .ret))))
 .skip))
 (.seq (.keep [1, 2])
 (.seq (.ops false [o 5 (.mv (.const (.slice none 0 0)))])
 (.seq (.seq (.ops false [o 6 (.mv (ci 0))])
 (.seq (.keep [1, 2, 5, 6]) (.block 0 (.loop (.seq (.seq (.seq (.ops false [o 37 (.mv (t 6)), o 38 (.faddr 3 (t 1)), o 39 (.load1 (t 38)), o 40 (.len 1 (t 39)), o 41 (.bin .lss (t 37) (t 40)), o 42 (.mv (t 41)), ⟨(some 43), .mv (t 6), some (42, true), false⟩, ⟨(some 44), .faddr 4 (t 1), some (42, true), false⟩, ⟨(some 45), .load1 (t 44), some (42, true), false⟩, ⟨(some 46), .len 1 (t 45), some (42, true), false⟩, ⟨(some 47), .bin .lss (t 43) (t 46), some (42, true), false⟩, o 48 (.pick (t 42) (t 47) (.const (.bool false)))])
 (.seq (.keep [1, 2, 5, 6, 48])
 (.cond (t 48)
 .skip
 (.exit 0))))
 (.seq (.keep [1, 2, 5, 6])
 (.seq (.block 1 (.seq (.ops false [o 51 (.faddr 4 (t 1)), o 52 (.load1 (t 51)), o 53 (.mv (t 6)), o 54 (.iaddr 1 (t 52) (t 53)), o 55 (.load1 (t 54))])
 (.cond (t 55)
 (.ops false [o 56 (.mv (t 5)), o 57 (.faddr 3 (t 1)), o 58 (.load1 (t 57)), o 59 (.mv (t 6)), o 60 (.iaddr 1 (t 58) (t 59)), o 61 (.load1 (t 60)), o 62 (.bslice 1 1 [(.int .i64 0)] [(0, (1, (t 61)))]), o 63 (.bslice 1 1 [(.slice none 0 0)] [(0, (1, (t 62)))]), o 64 (.append 1 24 (t 56) (t 63)), o 5 (.mv (t 64))])
 (.ops false [o 65 (.mv (t 5)), o 66 (.bslice 1 1 [(.slice none 0 0)] [(0, (1, (.const (.slice none 0 0))))]), o 67 (.append 1 24 (t 65) (t 66)), o 5 (.mv (t 67))]))))
 (.seq (.keep [1, 2, 5, 6])
 (.ops false [o 49 (.mv (t 6)), o 50 (.bin .add (t 49) (ci 1)), o 6 (.mv (t 50))]))))) (.keep [1, 2, 5, 6]))))))
 (.seq (.keep [1, 2, 5])
 (.seq (.ops false [o 68 (.mv (t 5)), o 69 (.call (.func n_r11_take) [(t 68)]), o 3 (.mv (t 69))])
 (.seq (.seq (.ops false [o 70 (.mv (t 3)), o 71 (.bin .lss (t 70) (ci 0))])
 (.cond (t 71)
 (.seq (.ops false [o 72 (.faddr 5 (t 1)), o 73 (.load1 (t 72)), o 74 (.faddr 0 (t 1)), o 75 (.load1 (t 74)), o 76 (.len 1 (t 75)), o 77 (.iaddr 1 (t 73) (t 76)), s (.store 1 (t 77) (.const (.bool true)))])
 (.seq (.keep [1, 2])
 (.seq (.ops false [o 78 (.loadN 8 (t 1)), s (.store 8 (t 2) (t 78))])
 .ret)))
 .skip))
 (.seq (.keep [1, 2, 3])
 (.seq (.seq (.ops true [b 79 (.faddr 6 (t 1)), b 80 (.load1 (t 79)), b 81 (.len 1 (t 80)), b 82 (.bin .eql (t 81) (ci 0)), b 83 (.mv (t 82)), ⟨(some 84), .faddr 6 (t 1), some (83, false), false⟩, ⟨(some 85), .load1 (t 84), some (83, false), false⟩, ⟨(some 86), .faddr 6 (t 1), some (83, false), false⟩, ⟨(some 87), .load1 (t 86), some (83, false), false⟩, ⟨(some 88), .len 1 (t 87), some (83, false), false⟩, ⟨(some 89), .bin .sub (t 88) (ci 1), some (83, false), false⟩, ⟨(some 90), .iaddr 1 (t 85) (t 89), some (83, false), false⟩, ⟨(some 91), .load1 (t 90), some (83, false), false⟩, ⟨(some 92), .faddr 3 (t 1), some (83, false), false⟩, ⟨(some 93), .load1 (t 92), some (83, false), false⟩, ⟨(some 94), .mv (t 3), some (83, false), false⟩, ⟨(some 95), .iaddr 1 (t 93) (t 94), some (83, false), false⟩, ⟨(some 96), .load1 (t 95), some (83, false), false⟩, ⟨(some 97), .bin .neq (t 91) (t 96), some (83, false), true⟩, b 98 (.pick (t 83) (.const (.bool true)) (t 97))])
 (.seq (.keep [1, 2, 3, 98])
 (.cond (t 98)
 (.ops true [o 99 (.faddr 6 (t 1)), o 100 (.load1 (t 99)), o 101 (.faddr 3 (t 1)), o 102 (.load1 (t 101)), o 103 (.mv (t 3)), o 104 (.iaddr 1 (t 102) (t 103)), o 105 (.load1 (t 104)), o 106 (.bslice 1 1 [(.int .i64 0)] [(0, (1, (t 105)))]), b 107 (.append 1 8 (t 100) (t 106)), b 108 (.faddr 6 (t 1)), sb (.store 1 (t 108) (t 107))])
 .skip)))
 (.seq (.keep [1, 2, 3])
 (.seq (.ops false [o 109 (.faddr 4 (t 1)), o 110 (.load1 (t 109)), o 111 (.mv (t 3)), o 112 (.iaddr 1 (t 110) (t 111)), s (.store 1 (t 112) (.const (.bool false)))])
 (.seq (.ops false [o 113 (.loadN 8 (t 1)), s (.store 8 (t 2) (t 113))])
 .ret)))))))))))))))⟩
/-- (coroner/sorted.Set[int]).Len -/
def F_sorted_Set_int_Len : AFn := ⟨1, [.tmp 2],
 (.seq (.ops false [o 1 (.box (t 0)), o 2 (.mv (ci 0))])
 (.seq (.ops false [o 3 (.faddr 0 (t 1)), o 4 (.load1 (t 3)), o 5 (.len 1 (t 4)), o 2 (.mv (t 5))])
 .ret))⟩
/-- (*coroner/deque.Deque[int]).grow -/
def F_deque_Deque_int_grow : AFn := ⟨1, [],
 (.seq (.seq (.ops true [o 3 (.mv (t 0)), o 4 (.nilc (t 3)), o 5 (.faddr 2 (t 4)), o 6 (.load1 (t 5)), o 7 (.mv (t 0)), o 8 (.nilc (t 7)), o 9 (.faddr 0 (t 8)), o 10 (.load1 (t 9)), o 11 (.len 1 (t 10)), b 12 (.bin .lss (t 6) (t 11))])
 (.seq (.keep [0, 12])
 (.cond (t 12)
 .ret
 .skip)))
 (.seq (.keep [0])
 (.seq (.ops false [o 13 (.mv (t 0)), o 14 (.nilc (t 13)), o 15 (.faddr 2 (t 14)), o 16 (.load1 (t 15)), o 17 (.bin .mul (ci 2) (t 16)), o 18 (.max [(ci 4), (t 17)]), o 19 (.mkslice 1 8 [(.int .i64 0)] (t 18) (t 18)), o 2 (.mv (t 19))])
 (.seq (.keep [0, 2])
 (.seq (.ops false [o 20 (.mv (t 2)), o 21 (.mv (t 0)), o 22 (.call (.func n_deque_Deque_int_List) [(t 21)]), o 23 (.copy 1 (t 20) (t 22))])
 (.ops false [o 24 (.mv (t 0)), o 25 (.mv (t 0)), o 26 (.mv (t 2)), o 27 (.nilc (t 24)), o 28 (.faddr 0 (t 27)), s (.store 1 (t 28) (t 26)), o 29 (.nilc (t 25)), o 30 (.faddr 1 (t 29)), s (.store 1 (t 30) (ci 0))]))))))⟩
/-- coroner/coronerref09.Cancelled -/
def F_r09_Cancelled : AFn := ⟨1, [.tmp 2],
 (.seq (.ops false [o 1 (.box (t 0)), o 2 (.mv (.const (.bool false)))])
 (.seq (.ops false [o 3 (.faddr 1 (t 1)), o 4 (.load1 (t 3)), o 5 (.bin .geq (t 4) (ci 0)), o 6 (.mv (t 5)), ⟨(some 7), .faddr 2 (t 1), some (6, true), false⟩, ⟨(some 8), .load1 (t 7), some (6, true), false⟩, ⟨(some 9), .faddr 1 (t 1), some (6, true), false⟩, ⟨(some 10), .load1 (t 9), some (6, true), false⟩, ⟨(some 11), .bin .geq (t 8) (t 10), some (6, true), false⟩, o 12 (.pick (t 6) (t 11) (.const (.bool false))), o 2 (.mv (t 12))])
 (.seq (.keep [2])
 .ret)))⟩
/-- (*coroner/pipe.Pipe[int]).Close -/
def F_pipe_Pipe_int_Close : AFn := ⟨1, [.tmp 2],
 (.seq (.ops false [o 2 (.mv (ci 0))])
 (.seq (.block 0 (.seq (.ops false [o 4 (.mv (t 0)), o 5 (.call (.func n_pipe_Pipe_int_is) [(t 4)]), o 6 (.un .not (t 5)), o 3 (.mv (t 6))])
 (.cond (t 3)
 (.seq (.ops false [o 2 (.mv (ci 1))])
 .ret)
 (.seq (.ops false [o 8 (.mv (t 0)), o 9 (.nilc (t 8)), o 10 (.faddr 4 (t 9)), o 11 (.load1 (t 10)), o 7 (.mv (t 11))])
 (.cond (t 7)
 (.seq (.ops false [o 2 (.mv (ci 11))])
 .ret)
 .skip)))))
 (.seq (.keep [0])
 (.seq (.ops false [o 12 (.mv (t 0)), o 13 (.nilc (t 12)), o 14 (.faddr 4 (t 13)), s (.store 1 (t 14) (.const (.bool true)))])
 (.seq (.ops false [o 2 (.mv (ci 0))])
 .ret)))))⟩
/-- (*coroner/merge.merger[int]).least -/
def F_merge_merger_int_least : AFn := ⟨1, [.tmp 2],
 (.seq (.ops false [o 2 (.mv (ci 0))])
 (.seq (.ops false [o 3 (.mv (ci (-1)))])
 (.seq (.seq (.ops false [o 5 (.mv (t 0)), o 6 (.nilc (t 5)), o 7 (.faddr 0 (t 6)), o 8 (.load1 (t 7)), o 9 (.len 1 (t 8)), o 10 (.mv (ci 0))])
 (.seq (.keep [0, 3, 9, 10]) (.block 0 (.loop (.seq (.seq (.ops false [o 11 (.bin .lss (t 10) (t 9))])
 (.seq (.cond (t 11)
 .skip
 (.exit 0))
 (.seq (.block 1 (.seq (.ops false [o 12 (.mv (t 10)), o 4 (.mv (t 12))])
 (.seq (.ops true (o 13 (.mv (t 0)) :: o 14 (.nilc (t 13)) :: o 15 (.faddr 3 (t 14)) :: o 16 (.load1 (t 15)) :: o 17 (.mv (t 4)) :: b 18 (.iaddr 1 (t 16) (t 17)) :: b 19 (.load1 (t 18)) :: b 20 (.mv (t 19)) :: ⟨(some 21), .mv (t 3), some (20, true), true⟩ :: ⟨(some 22), .bin .lss (t 21) (ci 0), some (20, true), true⟩ :: ⟨(some 23), .mv (t 22), some (20, true), true⟩ :: ⟨(some 24), .mv (t 0), some (23, false), false⟩ :: ⟨(some 25), .nilc (t 24), some (23, false), false⟩ :: ⟨(some 26), .faddr 1 (t 25), some (23, false), false⟩ :: ⟨(some 27), .load1 (t 26), some (23, false), false⟩ :: ⟨(some 28), .mv (t 0), some (23, false), false⟩ :: ⟨(some 29), .nilc (t 28), some (23, false), false⟩ :: ⟨(some 30), .faddr 2 (t 29), some (23, false), false⟩ :: ⟨(some 31), .load1 (t 30), some (23, false), false⟩ :: ⟨(some 32), .mv (t 4), some (23, false), false⟩ :: ⟨(some 33), .iaddr 1 (t 31) (t 32), some (23, false), false⟩ :: ⟨(some 34), .load1 (t 33), some (23, false), false⟩ :: ⟨(some 35), .mv (t 0), some (23, false), false⟩ :: ⟨(some 36), .nilc (t 35), some (23, false), false⟩ :: ⟨(some 37), .faddr 2 (t 36), some (23, false), false⟩ :: ⟨(some 38), .load1 (t 37), some (23, false), false⟩ :: ⟨(some 39), .mv (t 3), some (23, false), false⟩ :: ⟨(some 40), .iaddr 1 (t 38) (t 39), some (23, false), false⟩ :: ⟨(some 41), .load1 (t 40), some (23, false), false⟩ :: ⟨(some 42), .call (t 27) [(t 34), (t 41)], some (23, false), true⟩ :: ⟨(some 43), .bin .lss (t 42) (ci 0), some (23, false), true⟩ :: ⟨(some 44), .pick (t 23) (.const (.bool true)) (t 43), some (20, true), true⟩ :: b 45 (.pick (t 20) (t 44) (.const (.bool false))) :: []))
 (.seq (.keep [0, 3, 4, 9, 10, 45])
 (.cond (t 45)
 (.ops false [o 46 (.mv (t 4)), o 3 (.mv (t 46))])
 .skip)))))
 (.seq (.keep [0, 3, 9, 10])
 (.ops false [o 47 (.bin .add (t 10) (ci 1)), o 10 (.mv (t 47))]))))) (.keep [0, 3, 9, 10]))))))
 (.seq (.keep [3])
 (.seq (.ops false [o 48 (.mv (t 3)), o 2 (.mv (t 48))])
 .ret)))))⟩
/-- coroner/coronerref11.receives -/
def F_r11_receives : AFn := ⟨1, [.tmp 2, .tmp 3],
 (.seq (.ops false [o 1 (.box (t 0)), o 2 (.mv (ci 0)), o 3 (.mv (.const (.bool false)))])
 (.seq (.ops false [o 4 (.mv (.const (.bool true)))])
 (.seq (.seq (.ops false [o 5 (.mv (ci 0))])
 (.seq (.keep [1, 4, 5]) (.block 0 (.loop (.seq (.seq (.seq (.ops false [o 6 (.mv (t 5)), o 7 (.faddr 2 (t 1)), o 8 (.load1 (t 7)), o 9 (.len 1 (t 8)), o 10 (.bin .lss (t 6) (t 9)), o 11 (.mv (t 10)), ⟨(some 12), .mv (t 5), some (11, true), false⟩, ⟨(some 13), .faddr 4 (t 1), some (11, true), false⟩, ⟨(some 14), .load1 (t 13), some (11, true), false⟩, ⟨(some 15), .len 1 (t 14), some (11, true), false⟩, ⟨(some 16), .bin .lss (t 12) (t 15), some (11, true), false⟩, o 17 (.pick (t 11) (t 16) (.const (.bool false)))])
 (.seq (.keep [1, 4, 5, 17])
 (.cond (t 17)
 .skip
 (.exit 0))))
 (.seq (.keep [1, 4, 5])
 (.seq (.block 1 (.seq (.seq (.ops false [o 20 (.faddr 4 (t 1)), o 21 (.load1 (t 20)), o 22 (.mv (t 5)), o 23 (.iaddr 1 (t 21) (t 22)), o 24 (.load1 (t 23)), o 25 (.un .not (t 24)), o 26 (.mv (t 25)), ⟨(some 27), .faddr 2 (t 1), some (26, true), false⟩, ⟨(some 28), .load1 (t 27), some (26, true), false⟩, ⟨(some 29), .mv (t 5), some (26, true), false⟩, ⟨(some 30), .iaddr 4 (t 28) (t 29), some (26, true), false⟩, ⟨(some 31), .loadN 4 (t 30), some (26, true), false⟩, ⟨(some 32), .call (.func n_r11_in) [(t 31)], some (26, true), false⟩, ⟨(some 33), .bin .gtr (t 32) (ci 0), some (26, true), false⟩, o 34 (.pick (t 26) (t 33) (.const (.bool false)))])
 (.seq (.keep [1, 4, 5, 34])
 (.cond (t 34)
 (.seq (.ops false [o 35 (.mv (t 5)), o 2 (.mv (t 35)), o 3 (.mv (.const (.bool false)))])
 .ret)
 .skip)))
 (.seq (.keep [1, 4, 5])
 (.seq (.ops false [o 36 (.faddr 4 (t 1)), o 37 (.load1 (t 36)), o 38 (.mv (t 5)), o 39 (.iaddr 1 (t 37) (t 38)), o 40 (.load1 (t 39)), o 41 (.un .not (t 40)), o 42 (.mv (t 41)), ⟨(some 43), .faddr 2 (t 1), some (42, true), false⟩, ⟨(some 44), .load1 (t 43), some (42, true), false⟩, ⟨(some 45), .mv (t 5), some (42, true), false⟩, ⟨(some 46), .iaddr 4 (t 44) (t 45), some (42, true), false⟩, ⟨(some 47), .faddr 3 (t 46), some (42, true), false⟩, ⟨(some 48), .load1 (t 47), some (42, true), false⟩, ⟨(some 49), .un .not (t 48), some (42, true), false⟩, o 50 (.pick (t 42) (t 49) (.const (.bool false)))])
 (.seq (.keep [1, 4, 5, 50])
 (.cond (t 50)
 (.ops false [o 4 (.mv (.const (.bool false)))])
 .skip))))))
 (.seq (.keep [1, 4, 5])
 (.ops false [o 18 (.mv (t 5)), o 19 (.bin .add (t 18) (ci 1)), o 5 (.mv (t 19))]))))) (.keep [1, 4, 5]))))))
 (.seq (.keep [4])
 (.seq (.ops false [o 51 (.mv (t 4)), o 2 (.mv (ci (-1))), o 3 (.mv (t 51))])
 .ret)))))⟩
/-- (*coroner/deque.Deque[int]).List -/
def F_deque_Deque_int_List : AFn := ⟨1, [.tmp 2],
 (.seq (.ops false [o 2 (.mv (.const (.slice none 0 0)))])
 (.seq (.ops false [o 3 (.alloc [(.slice none 0 0)])])
 (.seq (.seq (.ops false [o 5 (.mv (t 0)), o 6 (.call (.func n_deque_Deque_int_each) [(t 5)])])
 (.block 0 (.rfun (t 6) [7]
 (.ops false [o 4 (.mv (t 7))])
 (.block 1 (.ops false [o 8 (.load1 (t 3)), o 9 (.mv (t 4)), o 10 (.bslice 1 1 [(.int .i64 0)] [(0, (1, (t 9)))]), o 11 (.append 1 8 (t 8) (t 10)), s (.store 1 (t 3) (t 11))])))))
 (.seq (.keep [3])
 (.seq (.ops false [o 12 (.load1 (t 3)), o 2 (.mv (t 12))])
 .ret)))))⟩
/-- (*coroner/pipe.Pipe[int]).Len -/
def F_pipe_Pipe_int_Len : AFn := ⟨1, [.tmp 2],
 (.seq (.ops false [o 2 (.mv (ci 0))])
 (.seq (.seq (.ops false [o 3 (.mv (t 0)), o 4 (.call (.func n_pipe_Pipe_int_is) [(t 3)]), o 5 (.un .not (t 4))])
 (.cond (t 5)
 (.seq (.ops false [o 2 (.mv (ci 0))])
 .ret)
 .skip))
 (.seq (.ops false [o 6 (.mv (t 0)), o 7 (.nilc (t 6)), o 8 (.faddr 1 (t 7)), o 9 (.call (.func n_deque_Deque_int_Len) [(t 8)]), o 2 (.mv (t 9))])
 .ret)))⟩
/-- (*coroner/deque.Deque[int]).each -/
def F_deque_Deque_int_each : AFn := ⟨1, [.tmp 2],
 (.seq (.ops false [o 1 (.box (t 0)), o 2 (.mv (.const .nilFunc))])
 (.seq (.ops false [o 3 (.mkf n_deque_Deque_int_each_c1 [] [(t 1)]), o 2 (.mv (t 3))])
 .ret))⟩
/-- (*coroner/deque.Deque[int]).each$1 -/
def F_deque_Deque_int_each_c1 : AFn := ⟨2, [],
 (.seq (.ops false [o 3 (.mv (ci 0))])
 (.seq (.keep [0, 1, 3]) (.block 0 (.loop (.seq (.seq (.seq (.ops true [o 4 (.mv (t 3)), o 5 (.load1 (t 1)), o 6 (.call (.func n_deque_Deque_int_Len) [(t 5)]), b 7 (.bin .lss (t 4) (t 6)), b 8 (.mv (t 7)), ⟨(some 9), .mv (t 0), some (8, true), false⟩, ⟨(some 10), .load1 (t 1), some (8, true), false⟩, ⟨(some 11), .nilc (t 10), some (8, true), false⟩, ⟨(some 12), .faddr 0 (t 11), some (8, true), false⟩, ⟨(some 13), .load1 (t 12), some (8, true), false⟩, ⟨(some 14), .load1 (t 1), some (8, true), false⟩, ⟨(some 15), .mv (t 3), some (8, true), false⟩, ⟨(some 16), .call (.func n_deque_Deque_int_at) [(t 14), (t 15)], some (8, true), false⟩, ⟨(some 17), .iaddr 1 (t 13) (t 16), some (8, true), false⟩, ⟨(some 18), .load1 (t 17), some (8, true), false⟩, ⟨(some 19), .call (t 9) [(t 18)], some (8, true), true⟩, b 20 (.pick (t 8) (t 19) (.const (.bool false)))])
 (.seq (.keep [0, 1, 3, 20])
 (.cond (t 20)
 .skip
 (.exit 0))))
 (.seq (.keep [0, 1, 3])
 (.seq (.block 1 (.exit 1))
 (.ops false [o 21 (.mv (t 3)), o 22 (.bin .add (t 21) (ci 1)), o 3 (.mv (t 22))])))) (.keep [0, 1, 3]))))))⟩
/-- coroner/picks.New -/
def F_picks_New : AFn := ⟨2, [.tmp 4],
 (.seq (.ops false [o 4 (.mv (.const (.pointer none)))])
 (.seq (.ops false [o 5 (.mv (t 0)), o 6 (.call (.func n_slices_Clone_int_int) [(t 5)]), o 7 (.mv (t 1)), o 8 (.build [(.bool false), (.slice none 0 0), (.int .i64 0), (.int .i64 0), (.int .i64 0)] [(0, (1, (.const (.bool true)))), (1, (1, (t 6))), (2, (1, (t 7)))]), o 9 (.box (t 8)), o 4 (.mv (t 9))])
 .ret))⟩
/-- coroner/merge.Run[int] -/
def F_merge_Run_int : AFn := ⟨4, [.tmp 8, .cellN 9 3, .tmp 10],
 (.seq (.ops false [o 8 (.mv (.const (.slice none 0 0))), o 9 (.alloc [(.int .i64 0), (.int .i64 0), (.int .i64 0)]), o 10 (.mv (ci 0))])
 (.seq (.seq (.ops false [o 23 (.mv (t 2)), o 24 (.call (.func n_pipe_New_int) [(t 23)]), o 22 (.mv (t 24)), o 25 (.extract 0 (t 22)), o 26 (.extract 1 (t 22)), o 11 (.mv (t 25)), o 12 (.mv (t 26))])
 (.seq (.keep [0, 1, 2, 3, 9, 12])
 (.seq (.ops false [o 27 (.mv (t 12)), o 28 (.bin .neq (t 27) (ci 0)), o 29 (.mv (t 28)), ⟨(some 30), .mv (t 1), some (29, false), false⟩, ⟨(some 31), .eqv 4 false (t 30) (.const .nilFunc), some (29, false), false⟩, o 32 (.pick (t 29) (.const (.bool true)) (t 31))])
 (.cond (t 32)
 (.seq (.ops false [o 33 (.build [(.int .i64 0), (.int .i64 0), (.int .i64 0)] []), o 8 (.mv (.const (.slice none 0 0))), s (.store 3 (t 9) (t 33)), o 10 (.mv (ci 2))])
 .ret)
 .skip))))
 (.seq (.keep [0, 1, 2, 3, 9])
 (.seq (.ops true [o 34 (.mv (t 1)), o 35 (.mv (t 0)), o 36 (.len 1 (t 35)), o 37 (.mkslice 1 8 [(.int .i64 0)] (t 36) (t 36)), o 38 (.mv (t 0)), o 39 (.len 1 (t 38)), o 40 (.mkslice 1 1 [(.bool false)] (t 39) (t 39)), o 41 (.build [(.slice none 0 0), .nilFunc, (.slice none 0 0), (.slice none 0 0), (.slice none 0 0), (.bool false)] [(1, (1, (t 34))), (2, (1, (t 37))), (3, (1, (t 40)))]), o 42 (.box (t 41)), o 13 (.alloc [(.pointer none)]), sb (.store 1 (t 13) (t 42))])
 (.seq (.keep [0, 2, 3, 9, 13])
 (.seq (.seq (.ops false [o 43 (.mv (t 0)), o 44 (.len 1 (t 43)), o 45 (.mv (ci 0))])
 (.seq (.keep [2, 3, 9, 13, 43, 44, 45]) (.block 0 (.loop (.seq (.seq (.ops false [o 46 (.bin .lss (t 45) (t 44))])
 (.seq (.cond (t 46)
 .skip
 (.exit 0))
 (.seq (.block 1 (.seq (.ops false [o 47 (.iaddr 1 (t 43) (t 45)), o 48 (.load1 (t 47)), o 15 (.mv (t 48))])
 (.seq (.ops false [o 50 (.mv (t 2)), o 51 (.call (.func n_pipe_New_int) [(t 50)]), o 49 (.mv (t 51)), o 52 (.extract 0 (t 49)), o 53 (.extract 1 (t 49)), o 16 (.mv (t 52)), o 17 (.mv (t 53))])
 (.seq (.keep [2, 3, 9, 13, 15, 16, 43, 44, 45])
 (.opsK [(10, 13)] [] [o 54 (.load1 (t 13)), o 55 (.load1 (t 13)), o 56 (.nilc (t 55)), o 57 (.faddr 0 (t 56)), o 58 (.load1 (t 57)), o 59 (.mv (t 15)), o 60 (.mv (t 16)), o 61 (.build [(.slice none 0 0), (.int .i64 0), (.pointer none), (.bool false)] [(0, (1, (t 59))), (2, (1, (t 60)))]), o 62 (.box (t 61)), o 63 (.bslice 1 1 [(.pointer none)] [(0, (1, (t 62)))]), b 64 (.append 1 8 (t 58) (t 63)), o 65 (.nilc (t 54)), o 66 (.faddr 0 (t 65)), sb (.store 1 (t 66) (t 64))])))))
 (.seq (.keep [2, 3, 9, 13, 43, 44, 45])
 (.ops false [o 67 (.bin .add (t 45) (ci 1)), o 45 (.mv (t 67))]))))) (.keep [2, 3, 9, 13, 43, 44, 45]))))))
 (.seq (.keep [3, 9, 13])
 (.seq (.ops false [o 18 (.alloc [(.int .i64 0)]), s (.store 1 (t 18) (ci 0))])
 (.seq (.ops false [o 68 (.mkf n_merge_Run_int_c1 [] [(t 18), (t 13)]), o 19 (.mv (t 68))])
 (.seq (.seq (.keep [3, 9, 13, 18, 19]) (.block 2 (.loop (.seq (.seq (.seq (.ops false [o 69 (.load1 (t 13)), o 70 (.nilc (t 69)), o 71 (.faddr 5 (t 70)), o 72 (.load1 (t 71)), o 73 (.un .not (t 72))])
 (.cond (t 73)
 .skip
 (.exit 2)))
 (.block 3 (.seq (.ops false [o 75 (.mv (t 3)), o 76 (.load1 (t 13)), o 77 (.call (.func n_merge_merger_int_ready) [(t 76)]), o 78 (.call (.func n_picks_Script_Step) [(t 75), (t 77)]), o 74 (.mv (t 78)), o 79 (.extract 0 (t 74)), o 80 (.extract 1 (t 74)), o 20 (.mv (t 79)), o 21 (.mv (t 80))])
 (.seq (.keep [3, 9, 13, 18, 19, 20, 21])
 (.seq (.seq (.ops false [o 81 (.mv (t 21)), o 82 (.bin .neq (t 81) (ci 0))])
 (.cond (t 82)
 (.seq (.ops false [o 83 (.load1 (t 13)), o 84 (.load1 (t 18)), o 85 (.call (.func n_merge_merger_int_stats) [(t 83), (t 84)]), o 86 (.mv (t 21)), o 8 (.mv (.const (.slice none 0 0))), s (.store 3 (t 9) (t 85)), o 10 (.mv (t 86))])
 (.seq (.keep [8, 9, 10])
 .ret))
 .skip))
 (.seq (.keep [3, 9, 13, 18, 19, 20])
 (.ops false [o 87 (.mv (t 19)), o 88 (.mv (t 20)), o 89 (.call (t 87) [(t 88)])]))))))) (.keep [3, 9, 13, 18, 19])))))
 (.seq (.keep [9, 13, 18])
 (.seq (.ops true [o 90 (.load1 (t 13)), o 91 (.nilc (t 90)), o 92 (.faddr 4 (t 91)), o 93 (.load1 (t 92)), o 94 (.load1 (t 13)), o 95 (.load1 (t 18)), o 96 (.call (.func n_merge_merger_int_stats) [(t 94), (t 95)]), b 8 (.mv (t 93)), sb (.store 3 (t 9) (t 96)), b 10 (.mv (ci 0))])
 (.seq (.keep [8, 9, 10])
 .ret)))))))))))))⟩
/-- coroner/coronerref11.Run -/
def F_r11_Run : AFn := ⟨3, [.cellN 6 8, .cellN 7 4, .tmp 8],
 (.seq (.ops false [o 5 (.box (t 2)), o 6 (.alloc [(.slice none 0 0), (.slice none 0 0), (.slice none 0 0), (.slice none 0 0), (.slice none 0 0), (.slice none 0 0), (.slice none 0 0), (.int .i64 0)]), o 7 (.alloc [(.slice none 0 0), (.int .i64 0), (.int .i64 0), (.int .i64 0)]), o 8 (.mv (ci 0))])
 (.seq (.ops false [o 15 (.mv (t 0)), o 16 (.mv (t 1)), o 17 (.call (.func n_r11_begin) [(t 15), (t 16)]), o 9 (.alloc [(.slice none 0 0), (.slice none 0 0), (.slice none 0 0), (.slice none 0 0), (.slice none 0 0), (.slice none 0 0), (.slice none 0 0), (.int .i64 0)]), s (.store 8 (t 9) (t 17))])
 (.seq (.seq (.ops false [o 18 (.mv (t 1)), o 19 (.call (.func n_r08_New) [(t 18)]), o 20 (.bin .neq (t 19) (ci 0))])
 (.cond (t 20)
 (.seq (.opsA [(5, 6)] [o 21 (.call (.func n_r11_begin) [(.const (.slice none 0 0)), (ci 1)]), o 22 (.loadN 4 (t 5)), sb (.store 8 (t 6) (t 21)), sb (.store 4 (t 7) (t 22)), o 8 (.mv (ci 2))])
 .ret)
 .skip))
 (.seq (.keep [0, 5, 6, 7, 9])
 (.seq (.ops false [o 23 (.mv (t 0)), o 24 (.call (.func n_r11_Count) [(t 23)]), o 25 (.bin .mul (ci 4) (t 24)), o 26 (.mv (t 0)), o 27 (.len 1 (t 26)), o 28 (.bin .mul (ci 2) (t 27)), o 29 (.bin .add (t 25) (t 28)), o 30 (.bin .add (t 29) (ci 4)), o 10 (.mv (t 30))])
 (.seq (.keep [0, 5, 6, 7, 9, 10])
 (.seq (.seq (.ops false [o 11 (.mv (ci 0))])
 (.seq (.keep [0, 5, 6, 7, 9, 10, 11]) (.block 0 (.loop (.seq (.seq (.seq (.ops false [o 31 (.mv (t 11)), o 32 (.mv (t 10)), o 33 (.bin .lss (t 31) (t 32)), o 34 (.mv (t 33)), ⟨(some 35), .faddr 5 (t 9), some (34, true), false⟩, ⟨(some 36), .load1 (t 35), some (34, true), false⟩, ⟨(some 37), .mv (t 0), some (34, true), false⟩, ⟨(some 38), .len 1 (t 37), some (34, true), false⟩, ⟨(some 39), .iaddr 1 (t 36) (t 38), some (34, true), false⟩, ⟨(some 40), .load1 (t 39), some (34, true), false⟩, ⟨(some 41), .un .not (t 40), some (34, true), false⟩, o 42 (.pick (t 34) (t 41) (.const (.bool false)))])
 (.seq (.keep [0, 5, 6, 7, 9, 10, 11, 42])
 (.cond (t 42)
 .skip
 (.exit 0))))
 (.seq (.keep [0, 5, 6, 7, 9, 10, 11])
 (.seq (.block 1 (.seq (.opsA [] [o 46 (.loadN 4 (t 5)), o 47 (.loadN 8 (t 9)), o 48 (.call (.func n_r11_ready) [(t 47)]), o 49 (.call (.func n_r09_Step) [(t 46), (t 48)]), o 45 (.mv (t 49)), o 50 (.extract 0 (t 45)), o 51 (.extract 1 (t 45)), o 52 (.extract 2 (t 45)), o 12 (.alloc [(.slice none 0 0), (.int .i64 0), (.int .i64 0), (.int .i64 0)]), sb (.store 4 (t 12) (t 50)), o 13 (.mv (t 51)), o 14 (.mv (t 52))])
 (.seq (.keep [0, 5, 6, 7, 9, 10, 11, 12, 13, 14])
 (.seq (.seq (.ops false [o 53 (.mv (t 14)), o 54 (.bin .neq (t 53) (ci 0))])
 (.cond (t 54)
 (.seq (.ops false [o 55 (.faddr 6 (t 9)), s (.store 1 (t 55) (.const (.slice none 0 0)))])
 (.seq (.opsA [(5, 6)] [o 56 (.loadN 8 (t 9)), o 57 (.loadN 4 (t 5)), o 58 (.mv (t 14)), sb (.store 8 (t 6) (t 56)), sb (.store 4 (t 7) (t 57)), o 8 (.mv (t 58))])
 .ret))
 .skip))
 (.seq (.keep [0, 5, 6, 7, 9, 10, 11, 12, 13])
 (.seq (.ops false [o 59 (.loadN 4 (t 12)), s (.store 4 (t 5) (t 59))])
 (.seq (.ops false [o 60 (.faddr 7 (t 9)), o 61 (.load1 (t 60)), o 62 (.bin .add (t 61) (ci 1)), o 63 (.faddr 7 (t 9)), s (.store 1 (t 63) (t 62))])
 (.seq (.ops false [o 64 (.mv (t 13)), o 65 (.mv (t 0)), o 66 (.len 1 (t 65)), o 67 (.bin .lss (t 64) (t 66))])
 (.cond (t 67)
 (.ops false [o 68 (.loadN 8 (t 9)), o 69 (.mv (t 13)), o 70 (.call (.func n_r11_send) [(t 68), (t 69)]), s (.store 8 (t 9) (t 70))])
 (.ops false [o 71 (.loadN 8 (t 9)), o 72 (.call (.func n_r11_merge) [(t 71)]), s (.store 8 (t 9) (t 72))]))))))))))
 (.seq (.keep [0, 5, 6, 7, 9, 10, 11])
 (.ops false [o 43 (.mv (t 11)), o 44 (.bin .add (t 43) (ci 1)), o 11 (.mv (t 44))]))))) (.keep [0, 5, 6, 7, 9, 10, 11]))))))
 (.seq (.keep [5, 6, 7, 9])
 (.seq (.opsA [(5, 6)] [o 73 (.loadN 8 (t 9)), o 74 (.loadN 4 (t 5)), sb (.store 8 (t 6) (t 73)), sb (.store 4 (t 7) (t 74)), o 8 (.mv (ci 0))])
 .ret)))))))))⟩
/-- coroner/pipe.New[int] -/
def F_pipe_New_int : AFn := ⟨1, [.tmp 2, .tmp 3],
 (.seq (.ops false [o 2 (.mv (.const (.pointer none))), o 3 (.mv (ci 0))])
 (.seq (.seq (.ops false [o 4 (.mv (t 0)), o 5 (.bin .lss (t 4) (ci 1)), o 6 (.mv (t 5)), ⟨(some 7), .mv (t 0), some (6, false), false⟩, ⟨(some 8), .bin .gtr (t 7) (ci 64), some (6, false), false⟩, o 9 (.pick (t 6) (.const (.bool true)) (t 8))])
 (.cond (t 9)
 (.seq (.ops false [o 2 (.mv (.const (.pointer none))), o 3 (.mv (ci 2))])
 .ret)
 .skip))
 (.seq (.keep [0])
 (.seq (.ops false [o 10 (.mv (t 0)), o 11 (.build [(.int .i64 0), (.slice none 0 0), (.int .i64 0), (.int .i64 0), (.bool false), (.int .i64 0), (.int .i64 0)] [(0, (1, (t 10)))]), o 12 (.box (t 11)), o 2 (.mv (t 12)), o 3 (.mv (ci 0))])
 .ret))))⟩
/-- (*coroner/merge.merger[int]).ready -/
def F_merge_merger_int_ready : AFn := ⟨1, [.tmp 2],
 (.seq (.ops false [o 2 (.mv (.const (.slice none 0 0)))])
 (.seq (.ops false [o 3 (.mv (.const (.slice none 0 0)))])
 (.seq (.seq (.ops false [o 6 (.mv (t 0)), o 7 (.nilc (t 6)), o 8 (.faddr 0 (t 7)), o 9 (.load1 (t 8)), o 10 (.len 1 (t 9)), o 11 (.mv (ci 0))])
 (.seq (.keep [0, 3, 9, 10, 11]) (.block 0 (.loop (.seq (.seq (.ops false [o 12 (.bin .lss (t 11) (t 10))])
 (.seq (.cond (t 12)
 .skip
 (.exit 0))
 (.seq (.block 1 (.seq (.ops false [o 13 (.mv (t 11)), o 14 (.iaddr 1 (t 9) (t 11)), o 15 (.load1 (t 14)), o 4 (.mv (t 13)), o 5 (.mv (t 15))])
 (.seq (.ops false [o 16 (.mv (t 5)), o 17 (.call (.func n_merge_sender_int_ready) [(t 16)])])
 (.cond (t 17)
 (.ops false [o 18 (.mv (t 3)), o 19 (.mv (t 4)), o 20 (.bslice 1 1 [(.int .i64 0)] [(0, (1, (t 19)))]), o 21 (.append 1 8 (t 18) (t 20)), o 3 (.mv (t 21))])
 .skip))))
 (.seq (.keep [0, 3, 9, 10, 11])
 (.ops false [o 22 (.bin .add (t 11) (ci 1)), o 11 (.mv (t 22))]))))) (.keep [0, 3, 9, 10, 11]))))))
 (.seq (.keep [0, 3])
 (.seq (.seq (.ops false [o 23 (.mv (t 0)), o 24 (.nilc (t 23)), o 25 (.faddr 5 (t 24)), o 26 (.load1 (t 25)), o 27 (.un .not (t 26)), o 28 (.mv (t 27)), ⟨(some 29), .mv (t 0), some (28, true), false⟩, ⟨(some 30), .call (.func n_merge_merger_int_receives) [(t 29)], some (28, true), false⟩, ⟨(some 31), .bin .geq (t 30) (ci 0), some (28, true), false⟩, ⟨(some 32), .mv (t 31), some (28, true), false⟩, ⟨(some 33), .mv (t 0), some (32, false), false⟩, ⟨(some 34), .call (.func n_merge_merger_int_full) [(t 33)], some (32, false), false⟩, ⟨(some 35), .pick (t 32) (.const (.bool true)) (t 34), some (28, true), false⟩, o 36 (.pick (t 28) (t 35) (.const (.bool false)))])
 (.seq (.keep [0, 3, 36])
 (.cond (t 36)
 (.ops false [o 37 (.mv (t 3)), o 38 (.mv (t 0)), o 39 (.nilc (t 38)), o 40 (.faddr 0 (t 39)), o 41 (.load1 (t 40)), o 42 (.len 1 (t 41)), o 43 (.bslice 1 1 [(.int .i64 0)] [(0, (1, (t 42)))]), o 44 (.append 1 8 (t 37) (t 43)), o 3 (.mv (t 44))])
 .skip)))
 (.seq (.keep [3])
 (.seq (.ops false [o 45 (.mv (t 3)), o 2 (.mv (t 45))])
 .ret)))))))⟩
/-- coroner/coronerref08.New -/
def F_r08_New : AFn := ⟨1, [.tmp 2],
 (.seq (.ops false [o 2 (.mv (ci 0))])
 (.seq (.seq (.ops false [o 3 (.mv (t 0)), o 4 (.bin .lss (t 3) (ci 1)), o 5 (.mv (t 4)), ⟨(some 6), .mv (t 0), some (5, false), false⟩, ⟨(some 7), .bin .gtr (t 6) (ci 64), some (5, false), false⟩, o 8 (.pick (t 5) (.const (.bool true)) (t 7))])
 (.cond (t 8)
 (.seq (.ops false [o 2 (.mv (ci 2))])
 .ret)
 .skip))
 (.seq (.keep [])
 (.seq (.ops false [o 2 (.mv (ci 0))])
 .ret))))⟩
/-- coroner/merge.put[int] -/
def F_merge_put_int : AFn := ⟨3, [.tmp 6],
 (.seq (.ops false [o 6 (.mv (.const (.slice none 0 0)))])
 (.seq (.seq (.ops false [o 8 (.mv (t 0)), o 9 (.len 1 (t 8)), o 7 (.mv (t 9))])
 (.seq (.ops false [o 10 (.mv (t 7)), o 11 (.bin .gtr (t 10) (ci 0)), o 12 (.mv (t 11)), ⟨(some 13), .mv (t 2), some (12, true), false⟩, ⟨(some 14), .mv (t 0), some (12, true), false⟩, ⟨(some 15), .mv (t 7), some (12, true), false⟩, ⟨(some 16), .bin .sub (t 15) (ci 1), some (12, true), false⟩, ⟨(some 17), .iaddr 1 (t 14) (t 16), some (12, true), false⟩, ⟨(some 18), .load1 (t 17), some (12, true), false⟩, ⟨(some 19), .mv (t 1), some (12, true), false⟩, ⟨(some 20), .call (t 13) [(t 18), (t 19)], some (12, true), false⟩, ⟨(some 21), .bin .eql (t 20) (ci 0), some (12, true), false⟩, o 22 (.pick (t 12) (t 21) (.const (.bool false)))])
 (.seq (.keep [0, 1, 22])
 (.cond (t 22)
 (.seq (.ops false [o 23 (.mv (t 0)), o 6 (.mv (t 23))])
 .ret)
 .skip))))
 (.seq (.keep [0, 1])
 (.seq (.ops false [o 24 (.mv (t 0)), o 25 (.mv (t 1)), o 26 (.bslice 1 1 [(.int .i64 0)] [(0, (1, (t 25)))]), o 27 (.append 1 8 (t 24) (t 26)), o 6 (.mv (t 27))])
 .ret))))⟩
/-- (coroner/sorted.Set[int]).List -/
def F_sorted_Set_int_List : AFn := ⟨1, [.tmp 2],
 (.seq (.ops false [o 1 (.box (t 0)), o 2 (.mv (.const (.slice none 0 0)))])
 (.seq (.ops false [o 3 (.faddr 0 (t 1)), o 4 (.load1 (t 3)), o 5 (.call (.func n_slices_Clone_int_int) [(t 4)]), o 2 (.mv (t 5))])
 .ret))⟩
/-- (*coroner/deque.Deque[int]).at -/
def F_deque_Deque_int_at : AFn := ⟨2, [.tmp 4],
 (.seq (.ops false [o 4 (.mv (ci 0))])
 (.seq (.ops true [o 5 (.mv (t 0)), o 6 (.nilc (t 5)), o 7 (.faddr 1 (t 6)), o 8 (.load1 (t 7)), o 9 (.mv (t 1)), o 10 (.bin .add (t 8) (t 9)), o 11 (.mv (t 0)), o 12 (.nilc (t 11)), o 13 (.faddr 0 (t 12)), o 14 (.load1 (t 13)), o 15 (.len 1 (t 14)), b 16 (.bin .rem (t 10) (t 15)), b 4 (.mv (t 16))])
 (.seq (.keep [4])
 .ret)))⟩
/-- (*coroner/pipe.Pipe[int]).Send -/
def F_pipe_Pipe_int_Send : AFn := ⟨2, [.tmp 4],
 (.seq (.ops false [o 4 (.mv (ci 0))])
 (.seq (.block 0 (.seq (.ops false [o 6 (.mv (t 0)), o 7 (.call (.func n_pipe_Pipe_int_is) [(t 6)]), o 8 (.un .not (t 7)), o 5 (.mv (t 8))])
 (.cond (t 5)
 (.seq (.ops false [o 4 (.mv (ci 1))])
 .ret)
 (.seq (.ops false [o 10 (.mv (t 0)), o 11 (.nilc (t 10)), o 12 (.faddr 4 (t 11)), o 13 (.load1 (t 12)), o 9 (.mv (t 13))])
 (.cond (t 9)
 (.seq (.ops false [o 4 (.mv (ci 11))])
 .ret)
 (.seq (.ops true [o 15 (.mv (t 0)), o 16 (.nilc (t 15)), o 17 (.faddr 1 (t 16)), o 18 (.call (.func n_deque_Deque_int_Len) [(t 17)]), o 19 (.mv (t 0)), o 20 (.nilc (t 19)), o 21 (.faddr 0 (t 20)), o 22 (.load1 (t 21)), b 23 (.bin .geq (t 18) (t 22)), b 14 (.mv (t 23))])
 (.seq (.keep [0, 1, 14])
 (.cond (t 14)
 (.seq (.ops false [o 4 (.mv (ci 9))])
 .ret)
 .skip))))))))
 (.seq (.keep [0, 1])
 (.seq (.ops false [o 24 (.mv (t 0)), o 25 (.nilc (t 24)), o 26 (.faddr 1 (t 25)), o 27 (.mv (t 1)), o 28 (.call (.func n_deque_Deque_int_Push) [(t 26), (t 27)])])
 (.seq (.ops false [o 29 (.mv (t 0)), o 30 (.nilc (t 29)), o 31 (.faddr 5 (t 30)), o 32 (.load1 (t 31)), o 33 (.bin .add (t 32) (ci 1)), o 34 (.nilc (t 29)), o 35 (.faddr 5 (t 34)), s (.store 1 (t 35) (t 33))])
 (.seq (.keep [])
 (.seq (.ops false [o 4 (.mv (ci 0))])
 .ret)))))))⟩
/-- (*coroner/merge.sender[int]).ready -/
def F_merge_sender_int_ready : AFn := ⟨1, [.tmp 2],
 (.seq (.ops false [o 2 (.mv (.const (.bool false)))])
 (.seq (.ops true (b 3 (.mv (t 0)) :: b 4 (.nilc (t 3)) :: b 5 (.faddr 3 (t 4)) :: b 6 (.load1 (t 5)) :: b 7 (.un .not (t 6)) :: b 8 (.mv (t 7)) :: ⟨(some 9), .mv (t 0), some (8, true), false⟩ :: ⟨(some 10), .nilc (t 9), some (8, true), false⟩ :: ⟨(some 11), .faddr 1 (t 10), some (8, true), false⟩ :: ⟨(some 12), .load1 (t 11), some (8, true), false⟩ :: ⟨(some 13), .mv (t 0), some (8, true), false⟩ :: ⟨(some 14), .nilc (t 13), some (8, true), false⟩ :: ⟨(some 15), .faddr 0 (t 14), some (8, true), false⟩ :: ⟨(some 16), .load1 (t 15), some (8, true), false⟩ :: ⟨(some 17), .len 1 (t 16), some (8, true), false⟩ :: ⟨(some 18), .bin .geq (t 12) (t 17), some (8, true), true⟩ :: ⟨(some 19), .mv (t 18), some (8, true), true⟩ :: ⟨(some 20), .mv (t 0), some (19, false), false⟩ :: ⟨(some 21), .nilc (t 20), some (19, false), false⟩ :: ⟨(some 22), .faddr 2 (t 21), some (19, false), false⟩ :: ⟨(some 23), .load1 (t 22), some (19, false), false⟩ :: ⟨(some 24), .call (.func n_pipe_Pipe_int_Len) [(t 23)], some (19, false), false⟩ :: ⟨(some 25), .mv (t 0), some (19, false), false⟩ :: ⟨(some 26), .nilc (t 25), some (19, false), false⟩ :: ⟨(some 27), .faddr 2 (t 26), some (19, false), false⟩ :: ⟨(some 28), .load1 (t 27), some (19, false), false⟩ :: ⟨(some 29), .call (.func n_pipe_Pipe_int_Room) [(t 28)], some (19, false), true⟩ :: ⟨(some 30), .bin .lss (t 24) (t 29), some (19, false), true⟩ :: ⟨(some 31), .pick (t 19) (.const (.bool true)) (t 30), some (8, true), true⟩ :: b 32 (.pick (t 8) (t 31) (.const (.bool false))) :: b 2 (.mv (t 32)) :: []))
 (.seq (.keep [2])
 .ret)))⟩
/-- coroner/coronerref08.Close -/
def F_r08_Close : AFn := ⟨1, [.cellN 2 4, .tmp 3],
 (.seq (.ops false [o 1 (.box (t 0)), o 2 (.alloc [(.int .i64 0), (.slice none 0 0), (.int .i64 0), (.bool false)]), o 3 (.mv (ci 0))])
 (.seq (.seq (.ops false [o 4 (.faddr 3 (t 1)), o 5 (.load1 (t 4))])
 (.cond (t 5)
 (.seq (.ops false [o 6 (.loadN 4 (t 1)), s (.store 4 (t 2) (t 6)), o 3 (.mv (ci 11))])
 .ret)
 .skip))
 (.seq (.ops false [o 7 (.faddr 3 (t 1)), s (.store 1 (t 7) (.const (.bool true)))])
 (.seq (.ops false [o 8 (.loadN 4 (t 1)), s (.store 4 (t 2) (t 8)), o 3 (.mv (ci 0))])
 .ret))))⟩
/-- (*coroner/pipe.Pipe[int]).Room -/
def F_pipe_Pipe_int_Room : AFn := ⟨1, [.tmp 2],
 (.seq (.ops false [o 2 (.mv (ci 0))])
 (.seq (.seq (.ops false [o 3 (.mv (t 0)), o 4 (.call (.func n_pipe_Pipe_int_is) [(t 3)]), o 5 (.un .not (t 4))])
 (.cond (t 5)
 (.seq (.ops false [o 2 (.mv (ci 0))])
 .ret)
 .skip))
 (.seq (.ops false [o 6 (.mv (t 0)), o 7 (.nilc (t 6)), o 8 (.faddr 0 (t 7)), o 9 (.load1 (t 8)), o 2 (.mv (t 9))])
 .ret)))⟩
/-- (*coroner/deque.Deque[int]).take -/
def F_deque_Deque_int_take : AFn := ⟨2, [.tmp 4],
 (.seq (.ops false [o 4 (.mv (ci 0))])
 (.seq (.ops false [o 5 (.mv (ci 0))])
 (.seq (.ops false [o 8 (.mv (t 0)), o 9 (.mv (t 1)), o 10 (.call (.func n_deque_Deque_int_at) [(t 8), (t 9)]), o 6 (.mv (t 10))])
 (.seq (.ops false [o 11 (.mv (t 0)), o 12 (.nilc (t 11)), o 13 (.faddr 0 (t 12)), o 14 (.load1 (t 13)), o 15 (.mv (t 6)), o 16 (.iaddr 1 (t 14) (t 15)), o 17 (.load1 (t 16)), o 7 (.mv (t 17))])
 (.seq (.keep [0, 5, 6, 7])
 (.seq (.ops false [o 18 (.mv (t 0)), o 19 (.nilc (t 18)), o 20 (.faddr 0 (t 19)), o 21 (.load1 (t 20)), o 22 (.mv (t 6)), o 23 (.mv (t 5)), o 24 (.iaddr 1 (t 21) (t 22)), s (.store 1 (t 24) (t 23))])
 (.seq (.keep [0, 7])
 (.seq (.ops false [o 25 (.mv (t 0)), o 26 (.nilc (t 25)), o 27 (.faddr 2 (t 26)), o 28 (.load1 (t 27)), o 29 (.bin .sub (t 28) (ci 1)), o 30 (.nilc (t 25)), o 31 (.faddr 2 (t 30)), s (.store 1 (t 31) (t 29))])
 (.seq (.keep [7])
 (.seq (.ops false [o 32 (.mv (t 7)), o 4 (.mv (t 32))])
 .ret))))))))))⟩
/-- coroner/coronerlaw11.order -/
def F_l11_order : AFn := ⟨2, [.tmp 4],
 (.seq (.ops false [o 4 (.mv (ci 0))])
 (.seq (.seq (.ops false [o 5 (.mv (t 0)), o 6 (.mv (t 1)), o 7 (.bin .lss (t 5) (t 6))])
 (.cond (t 7)
 (.seq (.ops false [o 4 (.mv (ci (-1)))])
 .ret)
 .skip))
 (.seq (.seq (.ops false [o 8 (.mv (t 0)), o 9 (.mv (t 1)), o 10 (.bin .gtr (t 8) (t 9))])
 (.cond (t 10)
 (.seq (.ops false [o 4 (.mv (ci 1))])
 .ret)
 .skip))
 (.seq (.ops false [o 4 (.mv (ci 0))])
 .ret))))⟩
/-- coroner/coronerref11.Sum -/
def F_r11_Sum : AFn := ⟨1, [.tmp 2],
 (.seq (.ops false [o 2 (.mv (ci 0))])
 (.seq (.ops false [o 3 (.mv (ci 0))])
 (.seq (.seq (.ops false [o 4 (.mv (ci 0))])
 (.seq (.keep [0, 3, 4]) (.block 0 (.loop (.seq (.seq (.seq (.ops false [o 5 (.mv (t 4)), o 6 (.mv (t 0)), o 7 (.len 1 (t 6)), o 8 (.bin .lss (t 5) (t 7))])
 (.cond (t 8)
 .skip
 (.exit 0)))
 (.seq (.block 1 (.ops false [o 11 (.mv (t 3)), o 12 (.mv (t 0)), o 13 (.mv (t 4)), o 14 (.iaddr 1 (t 12) (t 13)), o 15 (.load1 (t 14)), o 16 (.bin .add (t 11) (t 15)), o 3 (.mv (t 16))]))
 (.seq (.keep [0, 3, 4])
 (.ops false [o 9 (.mv (t 4)), o 10 (.bin .add (t 9) (ci 1)), o 4 (.mv (t 10))])))) (.keep [0, 3, 4]))))))
 (.seq (.keep [3])
 (.seq (.ops false [o 17 (.mv (t 3)), o 2 (.mv (t 17))])
 .ret)))))⟩
/-- coroner/coronerref05.Of -/
def F_r05_Of : AFn := ⟨1, [.tmp 2],
 (.seq (.ops false [o 2 (.mv (.const (.slice none 0 0)))])
 (.seq (.ops false [o 3 (.mv (.const (.slice none 0 0)))])
 (.seq (.seq (.ops false [o 4 (.mv (ci 0))])
 (.seq (.keep [0, 3, 4]) (.block 0 (.loop (.seq (.seq (.seq (.ops false [o 8 (.mv (t 4)), o 9 (.mv (t 0)), o 10 (.len 1 (t 9)), o 11 (.bin .leq (t 8) (t 10))])
 (.cond (t 11)
 .skip
 (.exit 0)))
 (.seq (.block 1 (.seq (.ops false [o 5 (.mv (ci 0)), o 6 (.mv (.const (.bool false)))])
 (.seq (.seq (.ops false [o 7 (.mv (ci 0))])
 (.seq (.keep [0, 3, 4, 5, 6, 7]) (.block 2 (.loop (.seq (.seq (.seq (.ops false [o 14 (.mv (t 7)), o 15 (.mv (t 0)), o 16 (.len 1 (t 15)), o 17 (.bin .lss (t 14) (t 16))])
 (.cond (t 17)
 .skip
 (.exit 2)))
 (.seq (.block 3 (.seq (.ops false [o 20 (.mv (t 3)), o 21 (.mv (t 0)), o 22 (.mv (t 7)), o 23 (.iaddr 1 (t 21) (t 22)), o 24 (.load1 (t 23)), o 25 (.call (.func n_r05_Has) [(t 20), (t 24)]), o 26 (.un .not (t 25)), o 27 (.mv (t 26)), ⟨(some 28), .mv (t 6), some (27, true), false⟩, ⟨(some 29), .un .not (t 28), some (27, true), false⟩, ⟨(some 30), .mv (t 29), some (27, true), false⟩, ⟨(some 31), .mv (t 0), some (30, false), false⟩, ⟨(some 32), .mv (t 7), some (30, false), false⟩, ⟨(some 33), .iaddr 1 (t 31) (t 32), some (30, false), false⟩, ⟨(some 34), .load1 (t 33), some (30, false), false⟩, ⟨(some 35), .mv (t 5), some (30, false), false⟩, ⟨(some 36), .bin .lss (t 34) (t 35), some (30, false), false⟩, ⟨(some 37), .pick (t 30) (.const (.bool true)) (t 36), some (27, true), false⟩, o 38 (.pick (t 27) (t 37) (.const (.bool false)))])
 (.seq (.keep [0, 3, 4, 5, 6, 7, 38])
 (.cond (t 38)
 (.ops false [o 39 (.mv (t 0)), o 40 (.mv (t 7)), o 41 (.iaddr 1 (t 39) (t 40)), o 42 (.load1 (t 41)), o 5 (.mv (t 42)), o 6 (.mv (.const (.bool true)))])
 .skip))))
 (.seq (.keep [0, 3, 4, 5, 6, 7])
 (.ops false [o 18 (.mv (t 7)), o 19 (.bin .add (t 18) (ci 1)), o 7 (.mv (t 19))])))) (.keep [0, 3, 4, 5, 6, 7]))))))
 (.seq (.keep [0, 3, 4, 5, 6])
 (.seq (.seq (.ops false [o 43 (.mv (t 6)), o 44 (.un .not (t 43))])
 (.cond (t 44)
 (.seq (.ops false [o 45 (.mv (t 3)), o 2 (.mv (t 45))])
 .ret)
 .skip))
 (.ops false [o 46 (.mv (t 3)), o 47 (.mv (t 5)), o 48 (.bslice 1 1 [(.int .i64 0)] [(0, (1, (t 47)))]), o 49 (.append 1 8 (t 46) (t 48)), o 3 (.mv (t 49))]))))))
 (.seq (.keep [0, 3, 4])
 (.ops false [o 12 (.mv (t 4)), o 13 (.bin .add (t 12) (ci 1)), o 4 (.mv (t 13))])))) (.keep [0, 3, 4]))))))
 (.seq (.keep [3])
 (.seq (.ops false [o 50 (.mv (t 3)), o 2 (.mv (t 50))])
 .ret)))))⟩
/-- (*coroner/picks.Script).Step -/
def F_picks_Script_Step : AFn := ⟨2, [.tmp 4, .tmp 5],
 (.seq (.ops false [o 4 (.mv (ci 0)), o 5 (.mv (ci 0))])
 (.seq (.ops false [o 7 (.mv (t 1)), o 8 (.call (.func n_sorted_Of_int) [(t 7)]), o 6 (.alloc [(.slice none 0 0)]), s (.store 1 (t 6) (t 8))])
 (.seq (.block 0 (.seq (.ops false [o 10 (.mv (t 0)), o 11 (.call (.func n_picks_Script_is) [(t 10)]), o 12 (.un .not (t 11)), o 9 (.mv (t 12))])
 (.cond (t 9)
 (.seq (.ops false [o 4 (.mv (ci 0)), o 5 (.mv (ci 1))])
 .ret)
 (.seq (.ops false [o 14 (.mv (t 0)), o 15 (.call (.func n_picks_Script_Cancelled) [(t 14)]), o 13 (.mv (t 15))])
 (.cond (t 13)
 (.seq (.ops false [o 4 (.mv (ci 0)), o 5 (.mv (ci 8))])
 .ret)
 (.seq (.ops false [o 17 (.loadN 1 (t 6)), o 18 (.call (.func n_sorted_Set_int_Len) [(t 17)]), o 19 (.bin .eql (t 18) (ci 0)), o 16 (.mv (t 19))])
 (.cond (t 16)
 (.seq (.ops false [o 4 (.mv (ci 0)), o 5 (.mv (ci 10))])
 .ret)
 .skip)))))))
 (.seq (.keep [0, 6])
 (.seq (.ops false [o 20 (.mv (t 0)), o 21 (.nilc (t 20)), o 22 (.faddr 3 (t 21)), o 23 (.load1 (t 22)), o 24 (.bin .add (t 23) (ci 1)), o 25 (.nilc (t 20)), o 26 (.faddr 3 (t 25)), s (.store 1 (t 26) (t 24))])
 (.seq (.keep [0, 6])
 (.seq (.ops true [o 27 (.loadN 1 (t 6)), o 28 (.call (.func n_sorted_Set_int_List) [(t 27)]), o 29 (.mv (t 0)), o 30 (.loadN 1 (t 6)), o 31 (.call (.func n_sorted_Set_int_Len) [(t 30)]), b 32 (.call (.func n_picks_Script_choice) [(t 29), (t 31)]), b 33 (.iaddr 1 (t 28) (t 32)), b 34 (.load1 (t 33)), b 4 (.mv (t 34)), b 5 (.mv (ci 0))])
 (.seq (.keep [4, 5])
 .ret))))))))⟩
/-- slices.Clone[[]int,int] -/
def F_slices_Clone_int_int : AFn := ⟨1, [.tmp 2],
 (.seq (.ops false [o 2 (.mv (.const (.slice none 0 0)))])
 (.seq (.seq (.ops false [o 3 (.mv (t 0)), o 4 (.eqv 2 false (t 3) (.const (.slice none 0 0)))])
 (.cond (t 4)
 (.seq (.ops false [o 2 (.mv (.const (.slice none 0 0)))])
 .ret)
 .skip))
 (.seq (.ops false [o 5 (.bslice 1 0 [] []), o 6 (.mv (t 0)), o 7 (.append 1 8 (t 5) (t 6)), o 2 (.mv (t 7))])
 .ret)))⟩
/-- coroner/merge.Run[int]$1 -/
def F_merge_Run_int_c1 : AFn := ⟨3, [],
 (.seq (.ops false [o 4 (.load1 (t 1)), o 5 (.bin .add (t 4) (ci 1)), s (.store 1 (t 1) (t 5))])
 (.seq (.ops false [o 6 (.mv (t 0)), o 7 (.load1 (t 2)), o 8 (.nilc (t 7)), o 9 (.faddr 0 (t 8)), o 10 (.load1 (t 9)), o 11 (.len 1 (t 10)), o 12 (.bin .lss (t 6) (t 11))])
 (.seq (.keep [0, 2, 12])
 (.cond (t 12)
 (.ops false [o 13 (.load1 (t 2)), o 14 (.nilc (t 13)), o 15 (.faddr 0 (t 14)), o 16 (.load1 (t 15)), o 17 (.mv (t 0)), o 18 (.iaddr 1 (t 16) (t 17)), o 19 (.load1 (t 18)), o 20 (.call (.func n_merge_sender_int_step) [(t 19)])])
 (.ops false [o 21 (.load1 (t 2)), o 22 (.call (.func n_merge_merger_int_step) [(t 21)])])))))⟩
/-- (*coroner/merge.merger[int]).stats -/
def F_merge_merger_int_stats : AFn := ⟨2, [.cellN 4 3],
 (.seq (.ops false [o 4 (.alloc [(.int .i64 0), (.int .i64 0), (.int .i64 0)])])
 (.seq (.ops false [o 8 (.mv (t 1)), o 9 (.build [(.int .i64 0), (.int .i64 0), (.int .i64 0)] [(0, (1, (t 8)))]), o 5 (.alloc [(.int .i64 0), (.int .i64 0), (.int .i64 0)]), s (.store 3 (t 5) (t 9))])
 (.seq (.seq (.ops false [o 10 (.mv (t 0)), o 11 (.nilc (t 10)), o 12 (.faddr 0 (t 11)), o 13 (.load1 (t 12)), o 14 (.len 1 (t 13)), o 15 (.mv (ci 0))])
 (.seq (.keep [0, 4, 5, 13, 14, 15]) (.block 0 (.loop (.seq (.seq (.ops false [o 16 (.bin .lss (t 15) (t 14))])
 (.seq (.cond (t 16)
 .skip
 (.exit 0))
 (.seq (.block 1 (.seq (.ops false [o 17 (.iaddr 1 (t 13) (t 15)), o 18 (.load1 (t 17)), o 7 (.mv (t 18))])
 (.seq (.ops true [o 19 (.faddr 1 (t 5)), o 20 (.load1 (t 19)), o 21 (.mv (t 7)), o 22 (.nilc (t 21)), o 23 (.faddr 1 (t 22)), o 24 (.load1 (t 23)), b 25 (.bin .add (t 20) (t 24)), b 26 (.faddr 1 (t 5)), sb (.store 1 (t 26) (t 25))])
 (.seq (.keep [0, 4, 5, 7, 13, 14, 15])
 (.seq (.ops false [o 27 (.mv (t 7)), o 28 (.nilc (t 27)), o 29 (.faddr 3 (t 28)), o 30 (.load1 (t 29))])
 (.cond (t 30)
 (.ops false [o 31 (.faddr 2 (t 5)), o 32 (.load1 (t 31)), o 33 (.bin .add (t 32) (ci 1)), o 34 (.faddr 2 (t 5)), s (.store 1 (t 34) (t 33))])
 .skip))))))
 (.seq (.keep [0, 4, 5, 13, 14, 15])
 (.ops false [o 35 (.bin .add (t 15) (ci 1)), o 15 (.mv (t 35))]))))) (.keep [0, 4, 5, 13, 14, 15]))))))
 (.seq (.keep [0, 4, 5])
 (.seq (.seq (.ops false [o 36 (.mv (t 0)), o 37 (.nilc (t 36)), o 38 (.faddr 5 (t 37)), o 39 (.load1 (t 38))])
 (.cond (t 39)
 (.ops false [o 40 (.faddr 2 (t 5)), o 41 (.load1 (t 40)), o 42 (.bin .add (t 41) (ci 1)), o 43 (.faddr 2 (t 5)), s (.store 1 (t 43) (t 42))])
 .skip))
 (.seq (.keep [4, 5])
 (.seq (.ops false [o 44 (.loadN 3 (t 5)), s (.store 3 (t 4) (t 44))])
 .ret)))))))⟩
/-- coroner/coronerref11.ready -/
def F_r11_ready : AFn := ⟨1, [.tmp 2],
 (.seq (.ops false [o 1 (.box (t 0)), o 2 (.mv (.const (.slice none 0 0)))])
 (.seq (.ops false [o 3 (.mv (.const (.slice none 0 0)))])
 (.seq (.ops false [o 8 (.faddr 0 (t 1)), o 9 (.load1 (t 8)), o 10 (.len 1 (t 9)), o 4 (.mv (t 10))])
 (.seq (.seq (.ops false [o 5 (.mv (ci 0))])
 (.seq (.keep [1, 3, 4, 5]) (.block 0 (.loop (.seq (.seq (.seq (.ops false [o 11 (.mv (t 5)), o 12 (.mv (t 4)), o 13 (.bin .lss (t 11) (t 12))])
 (.cond (t 13)
 .skip
 (.exit 0)))
 (.seq (.block 1 (.seq (.ops true (o 16 (.faddr 5 (t 1)) :: o 17 (.load1 (t 16)) :: o 18 (.mv (t 5)) :: b 19 (.iaddr 1 (t 17) (t 18)) :: b 20 (.load1 (t 19)) :: b 21 (.un .not (t 20)) :: b 22 (.mv (t 21)) :: ⟨(some 23), .faddr 1 (t 1), some (22, true), false⟩ :: ⟨(some 24), .load1 (t 23), some (22, true), false⟩ :: ⟨(some 25), .mv (t 5), some (22, true), false⟩ :: ⟨(some 26), .iaddr 1 (t 24) (t 25), some (22, true), false⟩ :: ⟨(some 27), .load1 (t 26), some (22, true), false⟩ :: ⟨(some 28), .faddr 0 (t 1), some (22, true), false⟩ :: ⟨(some 29), .load1 (t 28), some (22, true), false⟩ :: ⟨(some 30), .mv (t 5), some (22, true), false⟩ :: ⟨(some 31), .iaddr 1 (t 29) (t 30), some (22, true), false⟩ :: ⟨(some 32), .load1 (t 31), some (22, true), false⟩ :: ⟨(some 33), .len 1 (t 32), some (22, true), false⟩ :: ⟨(some 34), .bin .eql (t 27) (t 33), some (22, true), true⟩ :: ⟨(some 35), .mv (t 34), some (22, true), true⟩ :: ⟨(some 36), .faddr 2 (t 1), some (35, false), false⟩ :: ⟨(some 37), .load1 (t 36), some (35, false), false⟩ :: ⟨(some 38), .mv (t 5), some (35, false), false⟩ :: ⟨(some 39), .iaddr 4 (t 37) (t 38), some (35, false), false⟩ :: ⟨(some 40), .loadN 4 (t 39), some (35, false), false⟩ :: ⟨(some 41), .call (.func n_r11_in) [(t 40)], some (35, false), false⟩ :: ⟨(some 42), .faddr 2 (t 1), some (35, false), false⟩ :: ⟨(some 43), .load1 (t 42), some (35, false), false⟩ :: ⟨(some 44), .mv (t 5), some (35, false), false⟩ :: ⟨(some 45), .iaddr 4 (t 43) (t 44), some (35, false), false⟩ :: ⟨(some 46), .faddr 0 (t 45), some (35, false), false⟩ :: ⟨(some 47), .load1 (t 46), some (35, false), false⟩ :: ⟨(some 48), .bin .lss (t 41) (t 47), some (35, false), true⟩ :: ⟨(some 49), .pick (t 35) (.const (.bool true)) (t 48), some (22, true), true⟩ :: b 50 (.pick (t 22) (t 49) (.const (.bool false))) :: []))
 (.seq (.keep [1, 3, 4, 5, 50])
 (.cond (t 50)
 (.ops false [o 51 (.mv (t 3)), o 52 (.mv (t 5)), o 53 (.bslice 1 1 [(.int .i64 0)] [(0, (1, (t 52)))]), o 54 (.append 1 8 (t 51) (t 53)), o 3 (.mv (t 54))])
 .skip))))
 (.seq (.keep [1, 3, 4, 5])
 (.ops false [o 14 (.mv (t 5)), o 15 (.bin .add (t 14) (ci 1)), o 5 (.mv (t 15))])))) (.keep [1, 3, 4, 5]))))))
 (.seq (.keep [1, 3, 4])
 (.seq (.ops false [o 56 (.loadN 8 (t 1)), o 57 (.call (.func n_r11_receives) [(t 56)]), o 55 (.mv (t 57)), o 58 (.extract 0 (t 55)), o 59 (.extract 1 (t 55)), o 6 (.mv (t 58)), o 7 (.mv (t 59))])
 (.seq (.keep [1, 3, 4, 6, 7])
 (.seq (.seq (.ops false [o 60 (.faddr 5 (t 1)), o 61 (.load1 (t 60)), o 62 (.mv (t 4)), o 63 (.iaddr 1 (t 61) (t 62)), o 64 (.load1 (t 63)), o 65 (.un .not (t 64)), o 66 (.mv (t 65)), ⟨(some 67), .mv (t 6), some (66, true), false⟩, ⟨(some 68), .bin .geq (t 67) (ci 0), some (66, true), false⟩, ⟨(some 69), .mv (t 68), some (66, true), false⟩, ⟨(some 70), .mv (t 7), some (69, false), false⟩, ⟨(some 71), .pick (t 69) (.const (.bool true)) (t 70), some (66, true), false⟩, o 72 (.pick (t 66) (t 71) (.const (.bool false)))])
 (.seq (.keep [3, 4, 72])
 (.cond (t 72)
 (.ops false [o 73 (.mv (t 3)), o 74 (.mv (t 4)), o 75 (.bslice 1 1 [(.int .i64 0)] [(0, (1, (t 74)))]), o 76 (.append 1 8 (t 73) (t 75)), o 3 (.mv (t 76))])
 .skip)))
 (.seq (.keep [3])
 (.seq (.ops false [o 77 (.mv (t 3)), o 2 (.mv (t 77))])
 .ret))))))))))⟩
/-- coroner/coronerref05.Has -/
def F_r05_Has : AFn := ⟨2, [.tmp 4],
 (.seq (.ops false [o 4 (.mv (.const (.bool false)))])
 (.seq (.seq (.ops false [o 5 (.mv (ci 0))])
 (.seq (.keep [0, 1, 5]) (.block 0 (.loop (.seq (.seq (.seq (.ops false [o 6 (.mv (t 5)), o 7 (.mv (t 0)), o 8 (.len 1 (t 7)), o 9 (.bin .lss (t 6) (t 8))])
 (.cond (t 9)
 .skip
 (.exit 0)))
 (.seq (.block 1 (.seq (.ops false [o 12 (.mv (t 0)), o 13 (.mv (t 5)), o 14 (.iaddr 1 (t 12) (t 13)), o 15 (.load1 (t 14)), o 16 (.mv (t 1)), o 17 (.bin .eql (t 15) (t 16))])
 (.cond (t 17)
 (.seq (.ops false [o 4 (.mv (.const (.bool true)))])
 .ret)
 .skip)))
 (.seq (.keep [0, 1, 5])
 (.ops false [o 10 (.mv (t 5)), o 11 (.bin .add (t 10) (ci 1)), o 5 (.mv (t 11))])))) (.keep [0, 1, 5]))))))
 (.seq (.keep [])
 (.seq (.ops false [o 4 (.mv (.const (.bool false)))])
 .ret))))⟩
/-- coroner/sorted.Of[int] -/
def F_sorted_Of_int : AFn := ⟨1, [.cellN 2 1],
 (.seq (.ops false [o 2 (.alloc [(.slice none 0 0)])])
 (.seq (.ops false [o 4 (.mv (t 0)), o 5 (.call (.func n_slices_Clone_int_int) [(t 4)]), o 3 (.mv (t 5))])
 (.seq (.ops false [o 6 (.mv (t 3)), o 7 (.call (.func n_slices_Sort_int_int) [(t 6)])])
 (.seq (.ops false [o 8 (.mv (t 3)), o 9 (.call (.func n_slices_Compact_int_int) [(t 8)]), o 10 (.build [(.slice none 0 0)] [(0, (1, (t 9)))]), s (.store 1 (t 2) (t 10))])
 .ret))))⟩
/-- (*coroner/picks.Script).choice -/
def F_picks_Script_choice : AFn := ⟨2, [.tmp 4],
 (.seq (.ops false [o 4 (.mv (ci 0))])
 (.seq (.seq (.ops true [o 6 (.mv (t 0)), o 7 (.nilc (t 6)), o 8 (.faddr 4 (t 7)), o 9 (.load1 (t 8)), o 10 (.mv (t 0)), o 11 (.nilc (t 10)), o 12 (.faddr 1 (t 11)), o 13 (.load1 (t 12)), o 14 (.len 1 (t 13)), b 15 (.bin .geq (t 9) (t 14))])
 (.seq (.keep [0, 1, 15])
 (.cond (t 15)
 (.seq (.ops false [o 4 (.mv (ci 0))])
 .ret)
 .skip)))
 (.seq (.keep [0, 1])
 (.seq (.ops true [o 16 (.mv (t 0)), o 17 (.nilc (t 16)), o 18 (.faddr 1 (t 17)), o 19 (.load1 (t 18)), o 20 (.mv (t 0)), o 21 (.nilc (t 20)), o 22 (.faddr 4 (t 21)), o 23 (.load1 (t 22)), o 24 (.iaddr 1 (t 19) (t 23)), o 25 (.load1 (t 24)), o 26 (.mv (t 1)), b 27 (.bin .rem (t 25) (t 26)), b 5 (.mv (t 27))])
 (.seq (.keep [0, 1, 5])
 (.seq (.ops false [o 28 (.mv (t 0)), o 29 (.nilc (t 28)), o 30 (.faddr 4 (t 29)), o 31 (.load1 (t 30)), o 32 (.bin .add (t 31) (ci 1)), o 33 (.nilc (t 28)), o 34 (.faddr 4 (t 33)), s (.store 1 (t 34) (t 32))])
 (.seq (.keep [1, 5])
 (.seq (.seq (.ops false [o 35 (.mv (t 5)), o 36 (.bin .lss (t 35) (ci 0))])
 (.cond (t 36)
 (.ops false [o 37 (.mv (t 5)), o 38 (.mv (t 1)), o 39 (.bin .add (t 37) (t 38)), o 5 (.mv (t 39))])
 .skip))
 (.seq (.ops false [o 40 (.mv (t 5)), o 4 (.mv (t 40))])
 .ret)))))))))⟩
/-- (*coroner/merge.merger[int]).receives -/
def F_merge_merger_int_receives : AFn := ⟨1, [.tmp 2],
 (.seq (.ops false [o 2 (.mv (ci 0))])
 (.seq (.seq (.ops false [o 5 (.mv (t 0)), o 6 (.nilc (t 5)), o 7 (.faddr 0 (t 6)), o 8 (.load1 (t 7)), o 9 (.len 1 (t 8)), o 10 (.mv (ci 0))])
 (.seq (.keep [0, 8, 9, 10]) (.block 0 (.loop (.seq (.seq (.ops false [o 11 (.bin .lss (t 10) (t 9))])
 (.seq (.cond (t 11)
 .skip
 (.exit 0))
 (.seq (.block 1 (.seq (.ops false [o 12 (.mv (t 10)), o 13 (.iaddr 1 (t 8) (t 10)), o 14 (.load1 (t 13)), o 3 (.mv (t 12)), o 4 (.mv (t 14))])
 (.seq (.ops false [o 15 (.mv (t 0)), o 16 (.nilc (t 15)), o 17 (.faddr 3 (t 16)), o 18 (.load1 (t 17)), o 19 (.mv (t 3)), o 20 (.iaddr 1 (t 18) (t 19)), o 21 (.load1 (t 20)), o 22 (.un .not (t 21)), o 23 (.mv (t 22)), ⟨(some 24), .mv (t 4), some (23, true), false⟩, ⟨(some 25), .nilc (t 24), some (23, true), false⟩, ⟨(some 26), .faddr 2 (t 25), some (23, true), false⟩, ⟨(some 27), .load1 (t 26), some (23, true), false⟩, ⟨(some 28), .call (.func n_pipe_Pipe_int_Len) [(t 27)], some (23, true), false⟩, ⟨(some 29), .bin .gtr (t 28) (ci 0), some (23, true), false⟩, o 30 (.pick (t 23) (t 29) (.const (.bool false)))])
 (.seq (.keep [0, 3, 8, 9, 10, 30])
 (.cond (t 30)
 (.seq (.ops false [o 31 (.mv (t 3)), o 2 (.mv (t 31))])
 .ret)
 .skip)))))
 (.seq (.keep [0, 8, 9, 10])
 (.ops false [o 32 (.bin .add (t 10) (ci 1)), o 10 (.mv (t 32))]))))) (.keep [0, 8, 9, 10]))))))
 (.seq (.keep [])
 (.seq (.ops false [o 2 (.mv (ci (-1)))])
 .ret))))⟩
/-- (*coroner/merge.merger[int]).full -/
def F_merge_merger_int_full : AFn := ⟨1, [.tmp 2],
 (.seq (.ops false [o 2 (.mv (.const (.bool false)))])
 (.seq (.seq (.ops false [o 5 (.mv (t 0)), o 6 (.nilc (t 5)), o 7 (.faddr 0 (t 6)), o 8 (.load1 (t 7)), o 9 (.len 1 (t 8)), o 10 (.mv (ci 0))])
 (.seq (.keep [0, 8, 9, 10]) (.block 0 (.loop (.seq (.seq (.ops false [o 11 (.bin .lss (t 10) (t 9))])
 (.seq (.cond (t 11)
 .skip
 (.exit 0))
 (.seq (.block 1 (.seq (.ops false [o 12 (.mv (t 10)), o 13 (.iaddr 1 (t 8) (t 10)), o 14 (.load1 (t 13)), o 3 (.mv (t 12)), o 4 (.mv (t 14))])
 (.seq (.ops false [o 15 (.mv (t 0)), o 16 (.nilc (t 15)), o 17 (.faddr 3 (t 16)), o 18 (.load1 (t 17)), o 19 (.mv (t 3)), o 20 (.iaddr 1 (t 18) (t 19)), o 21 (.load1 (t 20)), o 22 (.un .not (t 21)), o 23 (.mv (t 22)), ⟨(some 24), .mv (t 4), some (23, true), false⟩, ⟨(some 25), .nilc (t 24), some (23, true), false⟩, ⟨(some 26), .faddr 2 (t 25), some (23, true), false⟩, ⟨(some 27), .load1 (t 26), some (23, true), false⟩, ⟨(some 28), .call (.func n_pipe_Pipe_int_Done) [(t 27)], some (23, true), false⟩, ⟨(some 29), .un .not (t 28), some (23, true), false⟩, o 30 (.pick (t 23) (t 29) (.const (.bool false)))])
 (.seq (.keep [0, 8, 9, 10, 30])
 (.cond (t 30)
 (.seq (.ops false [o 2 (.mv (.const (.bool false)))])
 .ret)
 .skip)))))
 (.seq (.keep [0, 8, 9, 10])
 (.ops false [o 31 (.bin .add (t 10) (ci 1)), o 10 (.mv (t 31))]))))) (.keep [0, 8, 9, 10]))))))
 (.seq (.keep [])
 (.seq (.ops false [o 2 (.mv (.const (.bool true)))])
 .ret))))⟩
/-- coroner/coronerref08.Send -/
def F_r08_Send : AFn := ⟨2, [.cellN 4 4, .tmp 5],
 (.seq (.ops false [o 2 (.box (t 0)), o 4 (.alloc [(.int .i64 0), (.slice none 0 0), (.int .i64 0), (.bool false)]), o 5 (.mv (ci 0))])
 (.seq (.seq (.ops false [o 6 (.faddr 3 (t 2)), o 7 (.load1 (t 6))])
 (.cond (t 7)
 (.seq (.ops false [o 8 (.loadN 4 (t 2)), s (.store 4 (t 4) (t 8)), o 5 (.mv (ci 11))])
 .ret)
 .skip))
 (.seq (.seq (.ops false [o 9 (.faddr 1 (t 2)), o 10 (.load1 (t 9)), o 11 (.len 1 (t 10)), o 12 (.faddr 2 (t 2)), o 13 (.load1 (t 12)), o 14 (.bin .sub (t 11) (t 13)), o 15 (.faddr 0 (t 2)), o 16 (.load1 (t 15)), o 17 (.bin .geq (t 14) (t 16))])
 (.seq (.keep [1, 2, 4, 17])
 (.cond (t 17)
 (.seq (.ops false [o 18 (.loadN 4 (t 2)), s (.store 4 (t 4) (t 18)), o 5 (.mv (ci 9))])
 .ret)
 .skip)))
 (.seq (.keep [1, 2, 4])
 (.seq (.ops false [o 19 (.bslice 1 0 [] []), o 20 (.faddr 1 (t 2)), o 21 (.load1 (t 20)), o 22 (.append 1 8 (t 19) (t 21)), o 23 (.mv (t 1)), o 24 (.bslice 1 1 [(.int .i64 0)] [(0, (1, (t 23)))]), o 25 (.append 1 8 (t 22) (t 24)), o 26 (.faddr 1 (t 2)), s (.store 1 (t 26) (t 25))])
 (.seq (.keep [2, 4])
 (.seq (.ops false [o 27 (.loadN 4 (t 2)), s (.store 4 (t 4) (t 27)), o 5 (.mv (ci 0))])
 .ret)))))))⟩
/-- slices.Compact[[]int,int] -/
def F_slices_Compact_int_int : AFn := ⟨1, [.tmp 2],
 (.seq (.ops false [o 2 (.mv (.const (.slice none 0 0)))])
 (.seq (.seq (.ops false [o 6 (.mv (t 0)), o 7 (.len 1 (t 6)), o 8 (.bin .lss (t 7) (ci 2))])
 (.cond (t 8)
 (.seq (.ops false [o 9 (.mv (t 0)), o 2 (.mv (t 9))])
 .ret)
 .skip))
 (.seq (.seq (.ops false [o 3 (.mv (ci 1))])
 (.seq (.keep [0, 3]) (.block 0 (.loop (.seq (.seq (.seq (.ops false [o 10 (.mv (t 3)), o 11 (.mv (t 0)), o 12 (.len 1 (t 11)), o 13 (.bin .lss (t 10) (t 12))])
 (.cond (t 13)
 .skip
 (.exit 0)))
 (.seq (.block 1 (.seq (.ops true [o 16 (.mv (t 0)), o 17 (.mv (t 3)), o 18 (.iaddr 1 (t 16) (t 17)), o 19 (.load1 (t 18)), o 20 (.mv (t 0)), o 21 (.mv (t 3)), o 22 (.bin .sub (t 21) (ci 1)), o 23 (.iaddr 1 (t 20) (t 22)), o 24 (.load1 (t 23)), b 25 (.bin .eql (t 19) (t 24))])
 (.seq (.keep [0, 3, 25])
 (.cond (t 25)
 (.seq (.ops false [o 26 (.mv (t 0)), o 27 (.mv (t 3)), o 28 (.slc 1 (t 26) (some (t 27)) none), o 4 (.mv (t 28))])
 (.seq (.seq (.ops false [o 5 (.mv (ci 1))])
 (.seq (.keep [0, 3, 4, 5]) (.block 2 (.loop (.seq (.seq (.seq (.ops false [o 29 (.mv (t 5)), o 30 (.mv (t 4)), o 31 (.len 1 (t 30)), o 32 (.bin .lss (t 29) (t 31))])
 (.cond (t 32)
 .skip
 (.exit 2)))
 (.seq (.block 3 (.seq (.ops true [o 35 (.mv (t 4)), o 36 (.mv (t 5)), o 37 (.iaddr 1 (t 35) (t 36)), o 38 (.load1 (t 37)), o 39 (.mv (t 4)), o 40 (.mv (t 5)), o 41 (.bin .sub (t 40) (ci 1)), o 42 (.iaddr 1 (t 39) (t 41)), o 43 (.load1 (t 42)), b 44 (.bin .neq (t 38) (t 43))])
 (.seq (.keep [0, 3, 4, 5, 44])
 (.cond (t 44)
 (.seq (.ops false [o 45 (.mv (t 0)), o 46 (.mv (t 3)), o 47 (.mv (t 4)), o 48 (.mv (t 5)), o 49 (.iaddr 1 (t 47) (t 48)), o 50 (.load1 (t 49)), o 51 (.iaddr 1 (t 45) (t 46)), s (.store 1 (t 51) (t 50))])
 (.seq (.keep [0, 3, 4, 5])
 (.ops false [o 52 (.mv (t 3)), o 53 (.bin .add (t 52) (ci 1)), o 3 (.mv (t 53))])))
 .skip))))
 (.seq (.keep [0, 3, 4, 5])
 (.ops false [o 33 (.mv (t 5)), o 34 (.bin .add (t 33) (ci 1)), o 5 (.mv (t 34))])))) (.keep [0, 3, 4, 5]))))))
 (.seq (.keep [0, 3])
 (.seq (.ops false [o 54 (.mv (t 0)), o 55 (.mv (t 3)), o 56 (.slc 1 (t 54) (some (t 55)) none), s (.clear [(.int .i64 0)] (t 56))])
 (.seq (.ops false [o 57 (.mv (t 0)), o 58 (.mv (t 3)), o 59 (.slc 1 (t 57) none (some (t 58))), o 2 (.mv (t 59))])
 .ret)))))
 .skip))))
 (.seq (.keep [0, 3])
 (.ops false [o 14 (.mv (t 3)), o 15 (.bin .add (t 14) (ci 1)), o 3 (.mv (t 15))])))) (.keep [0, 3]))))))
 (.seq (.keep [0])
 (.seq (.ops false [o 60 (.mv (t 0)), o 2 (.mv (t 60))])
 .ret)))))⟩
/-- (*coroner/deque.Deque[int]).Steal -/
def F_deque_Deque_int_Steal : AFn := ⟨1, [.tmp 2, .tmp 3],
 (.seq (.ops false [o 2 (.mv (ci 0)), o 3 (.mv (.const (.bool false)))])
 (.seq (.ops false [o 4 (.mv (ci 0))])
 (.seq (.seq (.ops false [o 6 (.mv (t 0)), o 7 (.call (.func n_deque_Deque_int_Len) [(t 6)]), o 8 (.bin .eql (t 7) (ci 0))])
 (.cond (t 8)
 (.seq (.ops false [o 9 (.mv (t 4)), o 2 (.mv (t 9)), o 3 (.mv (.const (.bool false)))])
 .ret)
 .skip))
 (.seq (.ops false [o 10 (.mv (t 0)), o 11 (.call (.func n_deque_Deque_int_take) [(t 10), (ci 0)]), o 5 (.mv (t 11))])
 (.seq (.ops false [o 12 (.mv (t 0)), o 13 (.mv (t 0)), o 14 (.call (.func n_deque_Deque_int_at) [(t 13), (ci 1)]), o 15 (.nilc (t 12)), o 16 (.faddr 1 (t 15)), s (.store 1 (t 16) (t 14))])
 (.seq (.ops false [o 17 (.mv (t 5)), o 2 (.mv (t 17)), o 3 (.mv (.const (.bool true)))])
 .ret))))))⟩
/-- (*coroner/pipe.Pipe[int]).Done -/
def F_pipe_Pipe_int_Done : AFn := ⟨1, [.tmp 2],
 (.seq (.ops false [o 2 (.mv (.const (.bool false)))])
 (.seq (.ops false [o 3 (.mv (t 0)), o 4 (.call (.func n_pipe_Pipe_int_Closed) [(t 3)]), o 5 (.mv (t 4)), ⟨(some 6), .mv (t 0), some (5, true), false⟩, ⟨(some 7), .nilc (t 6), some (5, true), false⟩, ⟨(some 8), .faddr 1 (t 7), some (5, true), false⟩, ⟨(some 9), .call (.func n_deque_Deque_int_Len) [(t 8)], some (5, true), false⟩, ⟨(some 10), .bin .eql (t 9) (ci 0), some (5, true), false⟩, o 11 (.pick (t 5) (t 10) (.const (.bool false))), o 2 (.mv (t 11))])
 (.seq (.keep [2])
 .ret)))⟩
/-- (*coroner/pipe.Pipe[int]).Closed -/
def F_pipe_Pipe_int_Closed : AFn := ⟨1, [.tmp 2],
 (.seq (.ops false [o 2 (.mv (.const (.bool false)))])
 (.seq (.ops false [o 3 (.mv (t 0)), o 4 (.call (.func n_pipe_Pipe_int_is) [(t 3)]), o 5 (.mv (t 4)), ⟨(some 6), .mv (t 0), some (5, true), false⟩, ⟨(some 7), .nilc (t 6), some (5, true), false⟩, ⟨(some 8), .faddr 4 (t 7), some (5, true), false⟩, ⟨(some 9), .load1 (t 8), some (5, true), false⟩, o 10 (.pick (t 5) (t 9) (.const (.bool false))), o 2 (.mv (t 10))])
 (.seq (.keep [2])
 .ret)))⟩
def tab1 : List (Nat × ADef) := [(n_picks_Script_Steps, .code F_picks_Script_Steps),
 (n_r11_Few, .code F_r11_Few),
 (n_r11_Count, .code F_r11_Count),
 (n_r11_Exited, .code F_r11_Exited),
 (n_merge_sender_int_step, .code F_merge_sender_int_step),
 (n_r11_take, .code F_r11_take),
 (n_r11_send, .code F_r11_send),
 (n_picks_Script_Cancelled, .code F_picks_Script_Cancelled),
 (n_deque_Deque_int_Len, .code F_deque_Deque_int_Len),
 (n_pipe_Pipe_int_Recv, .code F_pipe_Pipe_int_Recv),
 (n_r11_in, .code F_r11_in),
 (n_r08_Recv, .code F_r08_Recv),
 (n_pipe_Pipe_int_is, .code F_pipe_Pipe_int_is),
 (n_l11_MergePlays, .code F_l11_MergePlays),
 (n_r01_Same, .code F_r01_Same),
 (n_picks_Script_Used, .code F_picks_Script_Used),
 (n_deque_Deque_int_Push, .code F_deque_Deque_int_Push),
 (n_r09_Step, .code F_r09_Step),
 (n_picks_Script_is, .code F_picks_Script_is),
 (n_merge_merger_int_step, .code F_merge_merger_int_step),
 (n_r11_begin, .code F_r11_begin),
 (n_r11_merge, .code F_r11_merge),
 (n_sorted_Set_int_Len, .code F_sorted_Set_int_Len),
 (n_deque_Deque_int_grow, .code F_deque_Deque_int_grow),
 (n_r09_Cancelled, .code F_r09_Cancelled),
 (n_pipe_Pipe_int_Close, .code F_pipe_Pipe_int_Close),
 (n_merge_merger_int_least, .code F_merge_merger_int_least),
 (n_r11_receives, .code F_r11_receives),
 (n_deque_Deque_int_List, .code F_deque_Deque_int_List),
 (n_pipe_Pipe_int_Len, .code F_pipe_Pipe_int_Len),
 (n_deque_Deque_int_each, .code F_deque_Deque_int_each),
 (n_deque_Deque_int_each_c1, .code F_deque_Deque_int_each_c1),
 (n_picks_New, .code F_picks_New),
 (n_merge_Run_int, .code F_merge_Run_int),
 (n_r11_Run, .code F_r11_Run),
 (n_pipe_New_int, .code F_pipe_New_int),
 (n_merge_merger_int_ready, .code F_merge_merger_int_ready),
 (n_r08_New, .code F_r08_New),
 (n_merge_put_int, .code F_merge_put_int),
 (n_sorted_Set_int_List, .code F_sorted_Set_int_List),
 (n_deque_Deque_int_at, .code F_deque_Deque_int_at),
 (n_pipe_Pipe_int_Send, .code F_pipe_Pipe_int_Send),
 (n_merge_sender_int_ready, .code F_merge_sender_int_ready),
 (n_r08_Close, .code F_r08_Close),
 (n_pipe_Pipe_int_Room, .code F_pipe_Pipe_int_Room),
 (n_deque_Deque_int_take, .code F_deque_Deque_int_take),
 (n_l11_order, .code F_l11_order),
 (n_r11_Sum, .code F_r11_Sum),
 (n_r05_Of, .code F_r05_Of),
 (n_picks_Script_Step, .code F_picks_Script_Step),
 (n_slices_Clone_int_int, .code F_slices_Clone_int_int),
 (n_merge_Run_int_c1, .code F_merge_Run_int_c1),
 (n_merge_merger_int_stats, .code F_merge_merger_int_stats),
 (n_r11_ready, .code F_r11_ready),
 (n_r05_Has, .code F_r05_Has),
 (n_sorted_Of_int, .code F_sorted_Of_int),
 (n_picks_Script_choice, .code F_picks_Script_choice),
 (n_merge_merger_int_receives, .code F_merge_merger_int_receives),
 (n_merge_merger_int_full, .code F_merge_merger_int_full),
 (n_r08_Send, .code F_r08_Send),
 (n_slices_Compact_int_int, .code F_slices_Compact_int_int),
 (n_deque_Deque_int_Steal, .code F_deque_Deque_int_Steal),
 (n_pipe_Pipe_int_Done, .code F_pipe_Pipe_int_Done),
 (n_pipe_Pipe_int_Closed, .code F_pipe_Pipe_int_Closed),
 (n_slices_Sort_int_int, .oracle sortO),
 (n_l11_works, .oracle (closedO (.bool true)))]
def prog1 : AProg := tabP tab1
theorem c_picks_Script_Steps : prog1 n_picks_Script_Steps = some (.code F_picks_Script_Steps) := by kernel_rfl
theorem c_r11_Few : prog1 n_r11_Few = some (.code F_r11_Few) := by kernel_rfl
theorem c_r11_Count : prog1 n_r11_Count = some (.code F_r11_Count) := by kernel_rfl
theorem c_r11_Exited : prog1 n_r11_Exited = some (.code F_r11_Exited) := by kernel_rfl
theorem c_merge_sender_int_step : prog1 n_merge_sender_int_step = some (.code F_merge_sender_int_step) := by kernel_rfl
theorem c_r11_take : prog1 n_r11_take = some (.code F_r11_take) := by kernel_rfl
theorem c_r11_send : prog1 n_r11_send = some (.code F_r11_send) := by kernel_rfl
theorem c_picks_Script_Cancelled : prog1 n_picks_Script_Cancelled = some (.code F_picks_Script_Cancelled) := by kernel_rfl
theorem c_deque_Deque_int_Len : prog1 n_deque_Deque_int_Len = some (.code F_deque_Deque_int_Len) := by kernel_rfl
theorem c_pipe_Pipe_int_Recv : prog1 n_pipe_Pipe_int_Recv = some (.code F_pipe_Pipe_int_Recv) := by kernel_rfl
theorem c_r11_in : prog1 n_r11_in = some (.code F_r11_in) := by kernel_rfl
theorem c_r08_Recv : prog1 n_r08_Recv = some (.code F_r08_Recv) := by kernel_rfl
theorem c_pipe_Pipe_int_is : prog1 n_pipe_Pipe_int_is = some (.code F_pipe_Pipe_int_is) := by kernel_rfl
theorem c_l11_MergePlays : prog1 n_l11_MergePlays = some (.code F_l11_MergePlays) := by kernel_rfl
theorem c_r01_Same : prog1 n_r01_Same = some (.code F_r01_Same) := by kernel_rfl
theorem c_picks_Script_Used : prog1 n_picks_Script_Used = some (.code F_picks_Script_Used) := by kernel_rfl
theorem c_deque_Deque_int_Push : prog1 n_deque_Deque_int_Push = some (.code F_deque_Deque_int_Push) := by kernel_rfl
theorem c_r09_Step : prog1 n_r09_Step = some (.code F_r09_Step) := by kernel_rfl
theorem c_picks_Script_is : prog1 n_picks_Script_is = some (.code F_picks_Script_is) := by kernel_rfl
theorem c_merge_merger_int_step : prog1 n_merge_merger_int_step = some (.code F_merge_merger_int_step) := by kernel_rfl
theorem c_r11_begin : prog1 n_r11_begin = some (.code F_r11_begin) := by kernel_rfl
theorem c_r11_merge : prog1 n_r11_merge = some (.code F_r11_merge) := by kernel_rfl
theorem c_sorted_Set_int_Len : prog1 n_sorted_Set_int_Len = some (.code F_sorted_Set_int_Len) := by kernel_rfl
theorem c_deque_Deque_int_grow : prog1 n_deque_Deque_int_grow = some (.code F_deque_Deque_int_grow) := by kernel_rfl
theorem c_r09_Cancelled : prog1 n_r09_Cancelled = some (.code F_r09_Cancelled) := by kernel_rfl
theorem c_pipe_Pipe_int_Close : prog1 n_pipe_Pipe_int_Close = some (.code F_pipe_Pipe_int_Close) := by kernel_rfl
theorem c_merge_merger_int_least : prog1 n_merge_merger_int_least = some (.code F_merge_merger_int_least) := by kernel_rfl
theorem c_r11_receives : prog1 n_r11_receives = some (.code F_r11_receives) := by kernel_rfl
theorem c_deque_Deque_int_List : prog1 n_deque_Deque_int_List = some (.code F_deque_Deque_int_List) := by kernel_rfl
theorem c_pipe_Pipe_int_Len : prog1 n_pipe_Pipe_int_Len = some (.code F_pipe_Pipe_int_Len) := by kernel_rfl
theorem c_deque_Deque_int_each : prog1 n_deque_Deque_int_each = some (.code F_deque_Deque_int_each) := by kernel_rfl
theorem c_deque_Deque_int_each_c1 : prog1 n_deque_Deque_int_each_c1 = some (.code F_deque_Deque_int_each_c1) := by kernel_rfl
theorem c_picks_New : prog1 n_picks_New = some (.code F_picks_New) := by kernel_rfl
theorem c_merge_Run_int : prog1 n_merge_Run_int = some (.code F_merge_Run_int) := by kernel_rfl
theorem c_r11_Run : prog1 n_r11_Run = some (.code F_r11_Run) := by kernel_rfl
theorem c_pipe_New_int : prog1 n_pipe_New_int = some (.code F_pipe_New_int) := by kernel_rfl
theorem c_merge_merger_int_ready : prog1 n_merge_merger_int_ready = some (.code F_merge_merger_int_ready) := by kernel_rfl
theorem c_r08_New : prog1 n_r08_New = some (.code F_r08_New) := by kernel_rfl
theorem c_merge_put_int : prog1 n_merge_put_int = some (.code F_merge_put_int) := by kernel_rfl
theorem c_sorted_Set_int_List : prog1 n_sorted_Set_int_List = some (.code F_sorted_Set_int_List) := by kernel_rfl
theorem c_deque_Deque_int_at : prog1 n_deque_Deque_int_at = some (.code F_deque_Deque_int_at) := by kernel_rfl
theorem c_pipe_Pipe_int_Send : prog1 n_pipe_Pipe_int_Send = some (.code F_pipe_Pipe_int_Send) := by kernel_rfl
theorem c_merge_sender_int_ready : prog1 n_merge_sender_int_ready = some (.code F_merge_sender_int_ready) := by kernel_rfl
theorem c_r08_Close : prog1 n_r08_Close = some (.code F_r08_Close) := by kernel_rfl
theorem c_pipe_Pipe_int_Room : prog1 n_pipe_Pipe_int_Room = some (.code F_pipe_Pipe_int_Room) := by kernel_rfl
theorem c_deque_Deque_int_take : prog1 n_deque_Deque_int_take = some (.code F_deque_Deque_int_take) := by kernel_rfl
theorem c_l11_order : prog1 n_l11_order = some (.code F_l11_order) := by kernel_rfl
theorem c_r11_Sum : prog1 n_r11_Sum = some (.code F_r11_Sum) := by kernel_rfl
theorem c_r05_Of : prog1 n_r05_Of = some (.code F_r05_Of) := by kernel_rfl
theorem c_picks_Script_Step : prog1 n_picks_Script_Step = some (.code F_picks_Script_Step) := by kernel_rfl
theorem c_slices_Clone_int_int : prog1 n_slices_Clone_int_int = some (.code F_slices_Clone_int_int) := by kernel_rfl
theorem c_merge_Run_int_c1 : prog1 n_merge_Run_int_c1 = some (.code F_merge_Run_int_c1) := by kernel_rfl
theorem c_merge_merger_int_stats : prog1 n_merge_merger_int_stats = some (.code F_merge_merger_int_stats) := by kernel_rfl
theorem c_r11_ready : prog1 n_r11_ready = some (.code F_r11_ready) := by kernel_rfl
theorem c_r05_Has : prog1 n_r05_Has = some (.code F_r05_Has) := by kernel_rfl
theorem c_sorted_Of_int : prog1 n_sorted_Of_int = some (.code F_sorted_Of_int) := by kernel_rfl
theorem c_picks_Script_choice : prog1 n_picks_Script_choice = some (.code F_picks_Script_choice) := by kernel_rfl
theorem c_merge_merger_int_receives : prog1 n_merge_merger_int_receives = some (.code F_merge_merger_int_receives) := by kernel_rfl
theorem c_merge_merger_int_full : prog1 n_merge_merger_int_full = some (.code F_merge_merger_int_full) := by kernel_rfl
theorem c_r08_Send : prog1 n_r08_Send = some (.code F_r08_Send) := by kernel_rfl
theorem c_slices_Compact_int_int : prog1 n_slices_Compact_int_int = some (.code F_slices_Compact_int_int) := by kernel_rfl
theorem c_deque_Deque_int_Steal : prog1 n_deque_Deque_int_Steal = some (.code F_deque_Deque_int_Steal) := by kernel_rfl
theorem c_pipe_Pipe_int_Done : prog1 n_pipe_Pipe_int_Done = some (.code F_pipe_Pipe_int_Done) := by kernel_rfl
theorem c_pipe_Pipe_int_Closed : prog1 n_pipe_Pipe_int_Closed = some (.code F_pipe_Pipe_int_Closed) := by kernel_rfl
theorem c_slices_Sort_int_int : prog1 n_slices_Sort_int_int = some (.oracle sortO) := by kernel_rfl
theorem c_l11_works : prog1 n_l11_works = some (.oracle (closedO (.bool true))) := by kernel_rfl
def tab0 : List (Nat × ADef) := [(n_l11_works, .code F_l11_works),
 (n_r01_Same, .code F_r01_Same),
 (n_l11_order, .code F_l11_order),
 (n_merge_Run_int, .code F_merge_Run_int),
 (n_merge_merger_int_stats, .code F_merge_merger_int_stats),
 (n_picks_Script_Step, .code F_picks_Script_Step),
 (n_picks_Script_choice, .code F_picks_Script_choice),
 (n_sorted_Set_int_List, .code F_sorted_Set_int_List),
 (n_slices_Clone_int_int, .code F_slices_Clone_int_int),
 (n_sorted_Set_int_Len, .code F_sorted_Set_int_Len),
 (n_picks_Script_Cancelled, .code F_picks_Script_Cancelled),
 (n_picks_Script_is, .code F_picks_Script_is),
 (n_sorted_Of_int, .code F_sorted_Of_int),
 (n_slices_Compact_int_int, .code F_slices_Compact_int_int),
 (n_merge_merger_int_ready, .code F_merge_merger_int_ready),
 (n_merge_merger_int_full, .code F_merge_merger_int_full),
 (n_pipe_Pipe_int_Done, .code F_pipe_Pipe_int_Done),
 (n_deque_Deque_int_Len, .code F_deque_Deque_int_Len),
 (n_pipe_Pipe_int_Closed, .code F_pipe_Pipe_int_Closed),
 (n_pipe_Pipe_int_is, .code F_pipe_Pipe_int_is),
 (n_merge_merger_int_receives, .code F_merge_merger_int_receives),
 (n_pipe_Pipe_int_Len, .code F_pipe_Pipe_int_Len),
 (n_merge_sender_int_ready, .code F_merge_sender_int_ready),
 (n_pipe_Pipe_int_Room, .code F_pipe_Pipe_int_Room),
 (n_merge_Run_int_c1, .code F_merge_Run_int_c1),
 (n_merge_merger_int_step, .code F_merge_merger_int_step),
 (n_merge_put_int, .code F_merge_put_int),
 (n_merge_merger_int_least, .code F_merge_merger_int_least),
 (n_pipe_Pipe_int_Recv, .code F_pipe_Pipe_int_Recv),
 (n_deque_Deque_int_Steal, .code F_deque_Deque_int_Steal),
 (n_deque_Deque_int_at, .code F_deque_Deque_int_at),
 (n_deque_Deque_int_take, .code F_deque_Deque_int_take),
 (n_merge_sender_int_step, .code F_merge_sender_int_step),
 (n_pipe_Pipe_int_Send, .code F_pipe_Pipe_int_Send),
 (n_deque_Deque_int_Push, .code F_deque_Deque_int_Push),
 (n_deque_Deque_int_grow, .code F_deque_Deque_int_grow),
 (n_deque_Deque_int_List, .code F_deque_Deque_int_List),
 (n_deque_Deque_int_each, .code F_deque_Deque_int_each),
 (n_deque_Deque_int_each_c1, .code F_deque_Deque_int_each_c1),
 (n_pipe_Pipe_int_Close, .code F_pipe_Pipe_int_Close),
 (n_pipe_New_int, .code F_pipe_New_int),
 (n_picks_New, .code F_picks_New),
 (n_slices_Sort_int_int, .oracle sortOI)]
end Go.AMS
