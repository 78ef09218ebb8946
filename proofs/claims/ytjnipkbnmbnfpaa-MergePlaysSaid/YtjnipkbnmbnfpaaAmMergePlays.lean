/- 'coronerlaw11.MergePlays' is true, for every input. -/
import Derived.Test.YtjnipkbnmbnfpaaRows
import Derived.Test.YtjnipkbnmbnfpaaPart2
import Derived.Test.YtjnipkbnmbnfpaaSort
import Derived.Test.YtjnipkbnmbnfpaaAmSepO
import Derived.Test.YtjnipkbnmbnfpaaAmClosed
import Derived.WalkKit
import Derived.ProofKit
import Derived.OpenShut
import Derived.JoinedOf
import Derived.Handed
import Derived.SizedLaws
namespace Go.Proofs.Ytjnipkbnmbnfpaa.AmMergePlays
open Go.ChangeShapes Go.WideShapes Go.ChangeAt Go.RowKit Go.AM Go.AM.G Go.AMS
set_option linter.unusedVariables false
set_option linter.unusedSimpArgs false
set_option maxRecDepth 100000

theorem i_picks_Script_Steps : Is Try.prog n_picks_Script_Steps F_picks_Script_Steps := by unfold Is; kernel_rfl
theorem i_r11_Few : Is Try.prog n_r11_Few F_r11_Few := by unfold Is; kernel_rfl
theorem i_r11_Count : Is Try.prog n_r11_Count F_r11_Count := by unfold Is; kernel_rfl
theorem i_r11_Exited : Is Try.prog n_r11_Exited F_r11_Exited := by unfold Is; kernel_rfl
theorem i_merge_sender_int_step : Is Try.prog n_merge_sender_int_step F_merge_sender_int_step := by unfold Is; kernel_rfl
theorem i_r11_take : Is Try.prog n_r11_take F_r11_take := by unfold Is; kernel_rfl
theorem i_r11_send : Is Try.prog n_r11_send F_r11_send := by unfold Is; kernel_rfl
theorem i_picks_Script_Cancelled : Is Try.prog n_picks_Script_Cancelled F_picks_Script_Cancelled := by unfold Is; kernel_rfl
theorem i_deque_Deque_int_Len : Is Try.prog n_deque_Deque_int_Len F_deque_Deque_int_Len := by unfold Is; kernel_rfl
theorem i_pipe_Pipe_int_Recv : Is Try.prog n_pipe_Pipe_int_Recv F_pipe_Pipe_int_Recv := by unfold Is; kernel_rfl
theorem i_r11_in : Is Try.prog n_r11_in F_r11_in := by unfold Is; kernel_rfl
theorem i_r08_Recv : Is Try.prog n_r08_Recv F_r08_Recv := by unfold Is; kernel_rfl
theorem i_pipe_Pipe_int_is : Is Try.prog n_pipe_Pipe_int_is F_pipe_Pipe_int_is := by unfold Is; kernel_rfl
theorem i_l11_MergePlays : Is Try.prog n_l11_MergePlays F_l11_MergePlays := by unfold Is; kernel_rfl
theorem i_r01_Same : Is Try.prog n_r01_Same F_r01_Same := by unfold Is; kernel_rfl
theorem i_l11_works : Is Try.prog n_l11_works F_l11_works := by unfold Is; kernel_rfl
theorem i_picks_Script_Used : Is Try.prog n_picks_Script_Used F_picks_Script_Used := by unfold Is; kernel_rfl
theorem i_deque_Deque_int_Push : Is Try.prog n_deque_Deque_int_Push F_deque_Deque_int_Push := by unfold Is; kernel_rfl
theorem i_r09_Step : Is Try.prog n_r09_Step F_r09_Step := by unfold Is; kernel_rfl
theorem i_picks_Script_is : Is Try.prog n_picks_Script_is F_picks_Script_is := by unfold Is; kernel_rfl
theorem i_merge_merger_int_step : Is Try.prog n_merge_merger_int_step F_merge_merger_int_step := by unfold Is; kernel_rfl
theorem i_r11_begin : Is Try.prog n_r11_begin F_r11_begin := by unfold Is; kernel_rfl
theorem i_r11_merge : Is Try.prog n_r11_merge F_r11_merge := by unfold Is; kernel_rfl
theorem i_sorted_Set_int_Len : Is Try.prog n_sorted_Set_int_Len F_sorted_Set_int_Len := by unfold Is; kernel_rfl
theorem i_deque_Deque_int_grow : Is Try.prog n_deque_Deque_int_grow F_deque_Deque_int_grow := by unfold Is; kernel_rfl
theorem i_r09_Cancelled : Is Try.prog n_r09_Cancelled F_r09_Cancelled := by unfold Is; kernel_rfl
theorem i_pipe_Pipe_int_Close : Is Try.prog n_pipe_Pipe_int_Close F_pipe_Pipe_int_Close := by unfold Is; kernel_rfl
theorem i_merge_merger_int_least : Is Try.prog n_merge_merger_int_least F_merge_merger_int_least := by unfold Is; kernel_rfl
theorem i_r11_receives : Is Try.prog n_r11_receives F_r11_receives := by unfold Is; kernel_rfl
theorem i_deque_Deque_int_List : Is Try.prog n_deque_Deque_int_List F_deque_Deque_int_List := by unfold Is; kernel_rfl
theorem i_pipe_Pipe_int_Len : Is Try.prog n_pipe_Pipe_int_Len F_pipe_Pipe_int_Len := by unfold Is; kernel_rfl
theorem i_deque_Deque_int_each : Is Try.prog n_deque_Deque_int_each F_deque_Deque_int_each := by unfold Is; kernel_rfl
theorem i_deque_Deque_int_each_c1 : Is Try.prog n_deque_Deque_int_each_c1 F_deque_Deque_int_each_c1 := by unfold Is; kernel_rfl
theorem i_picks_New : Is Try.prog n_picks_New F_picks_New := by unfold Is; kernel_rfl
theorem i_merge_Run_int : Is Try.prog n_merge_Run_int F_merge_Run_int := by unfold Is; kernel_rfl
theorem i_r11_Run : Is Try.prog n_r11_Run F_r11_Run := by unfold Is; kernel_rfl
theorem i_pipe_New_int : Is Try.prog n_pipe_New_int F_pipe_New_int := by unfold Is; kernel_rfl
theorem i_merge_merger_int_ready : Is Try.prog n_merge_merger_int_ready F_merge_merger_int_ready := by unfold Is; kernel_rfl
theorem i_r08_New : Is Try.prog n_r08_New F_r08_New := by unfold Is; kernel_rfl
theorem i_merge_put_int : Is Try.prog n_merge_put_int F_merge_put_int := by unfold Is; kernel_rfl
theorem i_sorted_Set_int_List : Is Try.prog n_sorted_Set_int_List F_sorted_Set_int_List := by unfold Is; kernel_rfl
theorem i_deque_Deque_int_at : Is Try.prog n_deque_Deque_int_at F_deque_Deque_int_at := by unfold Is; kernel_rfl
theorem i_pipe_Pipe_int_Send : Is Try.prog n_pipe_Pipe_int_Send F_pipe_Pipe_int_Send := by unfold Is; kernel_rfl
theorem i_merge_sender_int_ready : Is Try.prog n_merge_sender_int_ready F_merge_sender_int_ready := by unfold Is; kernel_rfl
theorem i_r08_Close : Is Try.prog n_r08_Close F_r08_Close := by unfold Is; kernel_rfl
theorem i_pipe_Pipe_int_Room : Is Try.prog n_pipe_Pipe_int_Room F_pipe_Pipe_int_Room := by unfold Is; kernel_rfl
theorem i_deque_Deque_int_take : Is Try.prog n_deque_Deque_int_take F_deque_Deque_int_take := by unfold Is; kernel_rfl
theorem i_l11_order : Is Try.prog n_l11_order F_l11_order := by unfold Is; kernel_rfl
theorem i_r11_Sum : Is Try.prog n_r11_Sum F_r11_Sum := by unfold Is; kernel_rfl
theorem i_r05_Of : Is Try.prog n_r05_Of F_r05_Of := by unfold Is; kernel_rfl
theorem i_picks_Script_Step : Is Try.prog n_picks_Script_Step F_picks_Script_Step := by unfold Is; kernel_rfl
theorem i_slices_Clone_int_int : Is Try.prog n_slices_Clone_int_int F_slices_Clone_int_int := by unfold Is; kernel_rfl
theorem i_merge_Run_int_c1 : Is Try.prog n_merge_Run_int_c1 F_merge_Run_int_c1 := by unfold Is; kernel_rfl
theorem i_merge_merger_int_stats : Is Try.prog n_merge_merger_int_stats F_merge_merger_int_stats := by unfold Is; kernel_rfl
theorem i_r11_ready : Is Try.prog n_r11_ready F_r11_ready := by unfold Is; kernel_rfl
theorem i_r05_Has : Is Try.prog n_r05_Has F_r05_Has := by unfold Is; kernel_rfl
theorem i_sorted_Of_int : Is Try.prog n_sorted_Of_int F_sorted_Of_int := by unfold Is; kernel_rfl
theorem i_picks_Script_choice : Is Try.prog n_picks_Script_choice F_picks_Script_choice := by unfold Is; kernel_rfl
theorem i_merge_merger_int_receives : Is Try.prog n_merge_merger_int_receives F_merge_merger_int_receives := by unfold Is; kernel_rfl
theorem i_merge_merger_int_full : Is Try.prog n_merge_merger_int_full F_merge_merger_int_full := by unfold Is; kernel_rfl
theorem i_r08_Send : Is Try.prog n_r08_Send F_r08_Send := by unfold Is; kernel_rfl
theorem i_slices_Compact_int_int : Is Try.prog n_slices_Compact_int_int F_slices_Compact_int_int := by unfold Is; kernel_rfl
theorem i_deque_Deque_int_Steal : Is Try.prog n_deque_Deque_int_Steal F_deque_Deque_int_Steal := by unfold Is; kernel_rfl
theorem i_pipe_Pipe_int_Done : Is Try.prog n_pipe_Pipe_int_Done F_pipe_Pipe_int_Done := by unfold Is; kernel_rfl
theorem i_pipe_Pipe_int_Closed : Is Try.prog n_pipe_Pipe_int_Closed F_pipe_Pipe_int_Closed := by unfold Is; kernel_rfl
theorem nopin : noPin Try.prog = true := by kernel_rfl
theorem tab0_ok : ProgOk Try.prog (tabP tab0) := by
  refine tab_ok ?_
  unfold tab0
  simp only [List.forall_mem_cons, List.not_mem_nil, false_implies, implies_true, and_true]
  exact ⟨i_l11_works, i_r01_Same, i_l11_order, i_merge_Run_int, i_merge_merger_int_stats, i_picks_Script_Step, i_picks_Script_choice, i_sorted_Set_int_List, i_slices_Clone_int_int, i_sorted_Set_int_Len, i_picks_Script_Cancelled, i_picks_Script_is, i_sorted_Of_int, i_slices_Compact_int_int, i_merge_merger_int_ready, i_merge_merger_int_full, i_pipe_Pipe_int_Done, i_deque_Deque_int_Len, i_pipe_Pipe_int_Closed, i_pipe_Pipe_int_is, i_merge_merger_int_receives, i_pipe_Pipe_int_Len, i_merge_sender_int_ready, i_pipe_Pipe_int_Room, i_merge_Run_int_c1, i_merge_merger_int_step, i_merge_put_int, i_merge_merger_int_least, i_pipe_Pipe_int_Recv, i_deque_Deque_int_Steal, i_deque_Deque_int_at, i_deque_Deque_int_take, i_merge_sender_int_step, i_pipe_Pipe_int_Send, i_deque_Deque_int_Push, i_deque_Deque_int_grow, i_deque_Deque_int_List, i_deque_Deque_int_each, i_deque_Deque_int_each_c1, i_pipe_Pipe_int_Close, i_pipe_New_int, i_picks_New, sortOI_ok (sort_ok ⟨_, Try.func138, rfl, rfl⟩ Try.slices_Sort_int Try.slices_Sort_int_none)⟩

theorem works_run : (callV (tabP tab0) 200 (.func n_l11_works) [] Heap.empty).map (·.1) = some (.bool true) := by kernel_rfl
theorem works_ok : OracleOk Try.prog n_l11_works (closedO (.bool true)) := by
  obtain ⟨⟨v, h⟩, h1, h2⟩ := Option.map_eq_some_iff.1 works_run
  simp only at h2; subst h2
  exact closed_ok nopin tab0_ok rfl h1
theorem tab1_ok : ProgOk Try.prog (tabP tab1) := by
  refine tab_ok ?_
  unfold tab1
  simp only [List.forall_mem_cons, List.not_mem_nil, false_implies, implies_true, and_true]
  exact ⟨i_picks_Script_Steps, i_r11_Few, i_r11_Count, i_r11_Exited, i_merge_sender_int_step, i_r11_take, i_r11_send, i_picks_Script_Cancelled, i_deque_Deque_int_Len, i_pipe_Pipe_int_Recv, i_r11_in, i_r08_Recv, i_pipe_Pipe_int_is, i_l11_MergePlays, i_r01_Same, i_picks_Script_Used, i_deque_Deque_int_Push, i_r09_Step, i_picks_Script_is, i_merge_merger_int_step, i_r11_begin, i_r11_merge, i_sorted_Set_int_Len, i_deque_Deque_int_grow, i_r09_Cancelled, i_pipe_Pipe_int_Close, i_merge_merger_int_least, i_r11_receives, i_deque_Deque_int_List, i_pipe_Pipe_int_Len, i_deque_Deque_int_each, i_deque_Deque_int_each_c1, i_picks_New, i_merge_Run_int, i_r11_Run, i_pipe_New_int, i_merge_merger_int_ready, i_r08_New, i_merge_put_int, i_sorted_Set_int_List, i_deque_Deque_int_at, i_pipe_Pipe_int_Send, i_merge_sender_int_ready, i_r08_Close, i_pipe_Pipe_int_Room, i_deque_Deque_int_take, i_l11_order, i_r11_Sum, i_r05_Of, i_picks_Script_Step, i_slices_Clone_int_int, i_merge_Run_int_c1, i_merge_merger_int_stats, i_r11_ready, i_r05_Has, i_sorted_Of_int, i_picks_Script_choice, i_merge_merger_int_receives, i_merge_merger_int_full, i_r08_Send, i_slices_Compact_int_int, i_deque_Deque_int_Steal, i_pipe_Pipe_int_Done, i_pipe_Pipe_int_Closed, sort_ok ⟨_, Try.func138, rfl, rfl⟩ Try.slices_Sort_int Try.slices_Sort_int_none, works_ok⟩

theorem own : ownKnob Try.prog.godebug = none := by kernel_rfl
theorem laid : laidOutB Try.prog = true := by kernel_rfl
theorem okp : (Try.f9.params.toList.all fun t => Try.prog.readableRec t && decide (t < Try.prog.types.size)) = true := by kernel_rfl
theorem rt : Try.f9.resultTypes = #[4] := by kernel_rfl
theorem ub : Try.prog.underlying 4 = some .bool := by kernel_rfl
theorem pt : Try.f9.params.toList = [40, 27, 3, 3] := by kernel_rfl
theorem u40 : Try.prog.underlying 40 = some (.slice 27) := by kernel_rfl
theorem b40 : 0 < Try.prog.bytesOf 40 := of_decide_eq_true (by kernel_rfl)
theorem c40 : Try.prog.cellsOf 40 = 1 := by kernel_rfl
theorem u27 : Try.prog.underlying 27 = some (.slice 3) := by kernel_rfl
theorem b27 : 0 < Try.prog.bytesOf 27 := of_decide_eq_true (by kernel_rfl)
theorem c27 : Try.prog.cellsOf 27 = 1 := by kernel_rfl
theorem u3 : Try.prog.underlying 3 = some (.int .i64) := by kernel_rfl
theorem b3 : 0 < Try.prog.bytesOf 3 := of_decide_eq_true (by kernel_rfl)
theorem c3 : Try.prog.cellsOf 3 = 1 := by kernel_rfl

section
variable {H : Type} {enc : TypeId × Value → H}
theorem o40 : Opens enc Try.prog 40 (kSl (kSl (kInt .i64))) := (opens_slice u40 c40 b27 (opens_slice u27 c27 b3 (opens_int u3 c3)))
theorem o27 : Opens enc Try.prog 27 (kSl (kInt .i64)) := (opens_slice u27 c27 b3 (opens_int u3 c3))
theorem o3 : Opens enc Try.prog 3 (kInt .i64) := (opens_int u3 c3)

theorem contract (W : World) (base : Nat) (args : Array Value) (ds gs : List (DataW H)) (before : List MemPlace)
    (hval : ∀ (j : Nat) t v, Try.f9.params[j]? = some t → args[j]? = some v → Value.okWide Try.prog W .any base t v)
    (hW : DataW.Whole enc Try.prog Try.f9.params.toList Rows.mergePlaysSpec.vars false W args.toList ds gs before)
    (hsz : (DataW.weightsEach Try.prog (Try.f9.params.toList ++ Rows.mergePlaysSpec.plain.varTypes Try.prog) (ds ++ gs)).all (· ≤ reachBytes) = true) :
    Calls Try.prog 9 args W fun e W' => ∃ v, e = .returned v ∧ Rows.mergePlaysSpec.post enc Try.prog Try.f9 false true false false W args v W' := by
  have hW' := hW
  obtain ⟨p, q, hA, hV, rfl, hfz, hnd⟩ := hW
  rw [pt] at hA
  rw [pt] at hsz
  obtain ⟨v0, vs0, d0, ds0, p0, q0, hargs, rfl, rfl, h0, r0⟩ := trodAll_cons hA
  obtain ⟨v1, vs1, d1, ds1, p1, q1, hargs1, rfl, rfl, h1, r1⟩ := trodAll_cons r0
  subst hargs1
  obtain ⟨v2, vs2, d2, ds2, p2, q2, hargs2, rfl, rfl, h2, r2⟩ := trodAll_cons r1
  subst hargs2
  obtain ⟨v3, vs3, d3, ds3, p3, q3, hargs3, rfl, rfl, h3, r3⟩ := trodAll_cons r2
  subst hargs3
  obtain ⟨rfl, rfl, rfl⟩ := trodAll_nil r3
  obtain ⟨rfl, rfl⟩ := trodVars_none hV
  obtain rfl : args = #[v0, v1, v2, v3] := by cases args; simp_all
  have pt' : Try.f9.params = #[40, 27, 3, 3] := by apply Array.ext'; exact pt
  obtain ⟨a0, n0, cc0, e0⟩ := okWide_slice u40 (hval 0 40 v0 (by rw [pt']; rfl) rfl)
  obtain ⟨s0, l0, y0⟩ := opens_arg1 o40 h0 (wok_each hsz 0 _ _ rfl rfl) (by rw [e0]; rfl)
  obtain ⟨x0, y0, z0, m0⟩ := y0
  obtain rfl : norm v0 = x0 := by simpa using y0
  obtain ⟨b0, c0, g0⟩ := z0.form
  rw [g0] at z0
  obtain ⟨a1, n1, cc1, e1⟩ := okWide_slice u27 (hval 1 27 v1 (by rw [pt']; rfl) rfl)
  obtain ⟨s1, l1, y1⟩ := opens_arg1 o27 h1 (wok_each hsz 1 _ _ rfl rfl) (by rw [e1]; rfl)
  obtain ⟨x1, y1, z1, m1⟩ := y1
  obtain rfl : norm v1 = x1 := by simpa using y1
  obtain ⟨b1, c1, g1⟩ := z1.form
  rw [g1] at z1
  obtain ⟨n2, e2⟩ := okWide_int u3 (hval 2 3 v2 (by rw [pt']; rfl) rfl)
  obtain ⟨s2, l2, y2⟩ := opens_arg1 o3 h2 (wok_each hsz 2 _ _ rfl rfl) (by rw [e2]; rfl)
  have w2 := y2.2
  replace y2 : norm v2 = Value.int .i64 l2 := by have y : [norm v2] = _ := y2.1; simpa using y
  obtain ⟨n3, e3⟩ := okWide_int u3 (hval 3 3 v3 (by rw [pt']; rfl) rfl)
  obtain ⟨s3, l3, y3⟩ := opens_arg1 o3 h3 (wok_each hsz 3 _ _ rfl rfl) (by rw [e3]; rfl)
  have w3 := y3.2
  replace y3 : norm v3 = Value.int .i64 l3 := by have y : [norm v3] = _ := y3.1; simpa using y
  obtain ⟨n, v, H1, h1, hr, _, rfl⟩ := ((l11_MergePlays_spec (rows := l0) (l := l1) (ca := l2) (w := l3) w2 w3).law (sat_arg (sat_arg (sat0 W) z1) z0)).run
  try simp only [← g0, ← g1, ← y2, ← y3] at hr
  exact contract_true nopin tab1_ok laid okp rt ub rfl W #[v0, v1, v2, v3] [d0, d1, d2, d3] [] _ hW' ⟨rfl, rfl, rfl⟩ (aargs := [norm v0, norm v1, norm v2, norm v3]) (VL.cons s0 (VL.cons s1 (VL.cons s2 (VL.cons s3 (VL.nil _))))) hr
end

theorem lifted (os : Os) (started : os.Started) (H : Type) (enc : TypeId × Value → H) :
    ReturnsInHanded {} @Try.checked os 9 .any (Rows.mergePlaysSpec.pre6 enc Try.prog Try.f9 Rows.mergePlaysRow.domain false) (Rows.mergePlaysSpec.post enc Try.prog Try.f9 false true false false) := by
  refine returnsInHanded_of_change_sized (C := @Try.checked) own started (by kernel_rfl) @Try.func9
    (ChangeSpec.witness6 (enc := enc) (C := @Try.checked) false ⟨#[], #[.slice none 0 0, .slice none 0 0, .int .i64 0, .int .i64 0], []⟩ 8 (by kernel_rfl) (by kernel_rfl) (by kernel_rfl) (by kernel_rfl)) ?_
  intro W base args ds gs before hval hW _ hsz _
  exact contract W base args ds gs before hval hW hsz

theorem over : Rows.mergePlaysRow.holds @Try.pinned (OpenSpec.ofChange Rows.mergePlaysSpec) :=
  OpenClaim.holds_of_wide 9 @Try.f9 rfl rfl rfl rfl rfl rfl rfl ⟨rfl, rfl, rfl, rfl, rfl⟩ rfl rfl rfl rfl rfl (by kernel_rfl) @Try.func9 (by kernel_rfl)
    (of_decide_eq_true (by kernel_rfl)) (by unfold Func.isWrapper; first | (rw [if_pos (by decide +kernel)]; kernel_rfl) | (rw [if_neg (by decide +kernel)]; exact ⟨rfl, rfl⟩))
    (fun os started H enc _ => lifted os started H enc)

theorem proved : Rows.MergePlaysSaid := over
#print axioms proved
end Go.Proofs.Ytjnipkbnmbnfpaa.AmMergePlays
