/- 'coronerlaw10.PoolPlays' is true, for every input. -/
import Derived.Test.YtjnipkbnmbnfpaaRows
import Derived.Test.YtjnipkbnmbnfpaaPart2
import Derived.Test.YtjnipkbnmbnfpaaSort
import Derived.Test.YtjnipkbnmbnfpaaAmSepO
import Derived.Test.YtjnipkbnmbnfpaaAmClosed
import Derived.WalkKit
import Derived.ProofKit
import Derived.OpenShut
import Derived.JoinedOf
import Derived.Handed
import Derived.SizedLaws
namespace Go.Proofs.Ytjnipkbnmbnfpaa.AmPoolPlays
open Go.ChangeShapes Go.WideShapes Go.ChangeAt Go.RowKit Go.AM Go.AM.G Go.AMS
set_option linter.unusedVariables false
set_option linter.unusedSimpArgs false
set_option maxRecDepth 100000

theorem i_l10_PoolPlays : Is Try.prog n_l10_PoolPlays F_l10_PoolPlays := by unfold Is; kernel_rfl
theorem i_l10_works : Is Try.prog n_l10_works F_l10_works := by unfold Is; kernel_rfl
theorem i_pool_Pool_int_Add : Is Try.prog n_pool_Pool_int_Add F_pool_Pool_int_Add := by unfold Is; kernel_rfl
theorem i_r10_Add : Is Try.prog n_r10_Add F_r10_Add := by unfold Is; kernel_rfl
theorem i_pool_Pool_int_Stolen : Is Try.prog n_pool_Pool_int_Stolen F_pool_Pool_int_Stolen := by unfold Is; kernel_rfl
theorem i_picks_Script_Steps : Is Try.prog n_picks_Script_Steps F_picks_Script_Steps := by unfold Is; kernel_rfl
theorem i_pool_New_string : Is Try.prog n_pool_New_string F_pool_New_string := by unfold Is; kernel_rfl
theorem i_pool_Pool_string_Stolen : Is Try.prog n_pool_Pool_string_Stolen F_pool_Pool_string_Stolen := by unfold Is; kernel_rfl
theorem i_pool_Pool_int_is : Is Try.prog n_pool_Pool_int_is F_pool_Pool_int_is := by unfold Is; kernel_rfl
theorem i_r10_ready : Is Try.prog n_r10_ready F_r10_ready := by unfold Is; kernel_rfl
theorem i_pool_Pool_int_waiting : Is Try.prog n_pool_Pool_int_waiting F_pool_Pool_int_waiting := by unfold Is; kernel_rfl
theorem i_picks_Script_Cancelled : Is Try.prog n_picks_Script_Cancelled F_picks_Script_Cancelled := by unfold Is; kernel_rfl
theorem i_pool_Pool_string_is : Is Try.prog n_pool_Pool_string_is F_pool_Pool_string_is := by unfold Is; kernel_rfl
theorem i_pool_Pool_string_waiting : Is Try.prog n_pool_Pool_string_waiting F_pool_Pool_string_waiting := by unfold Is; kernel_rfl
theorem i_pool_Pool_int_take : Is Try.prog n_pool_Pool_int_take F_pool_Pool_int_take := by unfold Is; kernel_rfl
theorem i_deque_Deque_int_Len : Is Try.prog n_deque_Deque_int_Len F_deque_Deque_int_Len := by unfold Is; kernel_rfl
theorem i_deque_Deque_string_grow : Is Try.prog n_deque_Deque_string_grow F_deque_Deque_string_grow := by unfold Is; kernel_rfl
theorem i_deque_Deque_string_Len : Is Try.prog n_deque_Deque_string_Len F_deque_Deque_string_Len := by unfold Is; kernel_rfl
theorem i_deque_Deque_string_Steal : Is Try.prog n_deque_Deque_string_Steal F_deque_Deque_string_Steal := by unfold Is; kernel_rfl
theorem i_deque_Deque_string_take : Is Try.prog n_deque_Deque_string_take F_deque_Deque_string_take := by unfold Is; kernel_rfl
theorem i_deque_Deque_string_each_c1 : Is Try.prog n_deque_Deque_string_each_c1 F_deque_Deque_string_each_c1 := by unfold Is; kernel_rfl
theorem i_r10_Few : Is Try.prog n_r10_Few F_r10_Few := by unfold Is; kernel_rfl
theorem i_pool_Pool_int_Run : Is Try.prog n_pool_Pool_int_Run F_pool_Pool_int_Run := by unfold Is; kernel_rfl
theorem i_r01_Same : Is Try.prog n_r01_Same F_r01_Same := by unfold Is; kernel_rfl
theorem i_pool_Pool_int_Left : Is Try.prog n_pool_Pool_int_Left F_pool_Pool_int_Left := by unfold Is; kernel_rfl
theorem i_pool_Pool_string_Add : Is Try.prog n_pool_Pool_string_Add F_pool_Pool_string_Add := by unfold Is; kernel_rfl
theorem i_pool_Pool_string_Left : Is Try.prog n_pool_Pool_string_Left F_pool_Pool_string_Left := by unfold Is; kernel_rfl
theorem i_deque_Deque_int_Push : Is Try.prog n_deque_Deque_int_Push F_deque_Deque_int_Push := by unfold Is; kernel_rfl
theorem i_r09_Step : Is Try.prog n_r09_Step F_r09_Step := by unfold Is; kernel_rfl
theorem i_picks_Script_is : Is Try.prog n_picks_Script_is F_picks_Script_is := by unfold Is; kernel_rfl
theorem i_sorted_Set_int_Len : Is Try.prog n_sorted_Set_int_Len F_sorted_Set_int_Len := by unfold Is; kernel_rfl
theorem i_deque_Deque_string_Push : Is Try.prog n_deque_Deque_string_Push F_deque_Deque_string_Push := by unfold Is; kernel_rfl
theorem i_deque_Deque_int_grow : Is Try.prog n_deque_Deque_int_grow F_deque_Deque_int_grow := by unfold Is; kernel_rfl
theorem i_r09_Cancelled : Is Try.prog n_r09_Cancelled F_r09_Cancelled := by unfold Is; kernel_rfl
theorem i_deque_Deque_string_at : Is Try.prog n_deque_Deque_string_at F_deque_Deque_string_at := by unfold Is; kernel_rfl
theorem i_deque_Deque_int_List : Is Try.prog n_deque_Deque_int_List F_deque_Deque_int_List := by unfold Is; kernel_rfl
theorem i_deque_Deque_int_each : Is Try.prog n_deque_Deque_int_each F_deque_Deque_int_each := by unfold Is; kernel_rfl
theorem i_deque_Deque_int_each_c1 : Is Try.prog n_deque_Deque_int_each_c1 F_deque_Deque_int_each_c1 := by unfold Is; kernel_rfl
theorem i_pool_New_int : Is Try.prog n_pool_New_int F_pool_New_int := by unfold Is; kernel_rfl
theorem i_picks_New : Is Try.prog n_picks_New F_picks_New := by unfold Is; kernel_rfl
theorem i_l10_halves : Is Try.prog n_l10_halves F_l10_halves := by unfold Is; kernel_rfl
theorem i_pool_Pool_int_Who : Is Try.prog n_pool_Pool_int_Who F_pool_Pool_int_Who := by unfold Is; kernel_rfl
theorem i_r10_Jobs : Is Try.prog n_r10_Jobs F_r10_Jobs := by unfold Is; kernel_rfl
theorem i_r10_Of : Is Try.prog n_r10_Of F_r10_Of := by unfold Is; kernel_rfl
theorem i_pool_Pool_string_Run : Is Try.prog n_pool_Pool_string_Run F_pool_Pool_string_Run := by unfold Is; kernel_rfl
theorem i_pool_Pool_string_Who : Is Try.prog n_pool_Pool_string_Who F_pool_Pool_string_Who := by unfold Is; kernel_rfl
theorem i_pool_Pool_int_ready : Is Try.prog n_pool_Pool_int_ready F_pool_Pool_int_ready := by unfold Is; kernel_rfl
theorem i_r10_step : Is Try.prog n_r10_step F_r10_step := by unfold Is; kernel_rfl
theorem i_sorted_Set_int_List : Is Try.prog n_sorted_Set_int_List F_sorted_Set_int_List := by unfold Is; kernel_rfl
theorem i_pool_Pool_string_ready : Is Try.prog n_pool_Pool_string_ready F_pool_Pool_string_ready := by unfold Is; kernel_rfl
theorem i_deque_Deque_int_at : Is Try.prog n_deque_Deque_int_at F_deque_Deque_int_at := by unfold Is; kernel_rfl
theorem i_r10_hold : Is Try.prog n_r10_hold F_r10_hold := by unfold Is; kernel_rfl
theorem i_pool_Pool_string_ready_c1 : Is Try.prog n_pool_Pool_string_ready_c1 F_pool_Pool_string_ready_c1 := by unfold Is; kernel_rfl
theorem i_deque_Deque_int_Pop : Is Try.prog n_deque_Deque_int_Pop F_deque_Deque_int_Pop := by unfold Is; kernel_rfl
theorem i_deque_Deque_string_List : Is Try.prog n_deque_Deque_string_List F_deque_Deque_string_List := by unfold Is; kernel_rfl
theorem i_deque_Deque_int_take : Is Try.prog n_deque_Deque_int_take F_deque_Deque_int_take := by unfold Is; kernel_rfl
theorem i_r10_New : Is Try.prog n_r10_New F_r10_New := by unfold Is; kernel_rfl
theorem i_r10_Run : Is Try.prog n_r10_Run F_r10_Run := by unfold Is; kernel_rfl
theorem i_pool_Pool_int_Done : Is Try.prog n_pool_Pool_int_Done F_pool_Pool_int_Done := by unfold Is; kernel_rfl
theorem i_l10_born : Is Try.prog n_l10_born F_l10_born := by unfold Is; kernel_rfl
theorem i_r05_Of : Is Try.prog n_r05_Of F_r05_Of := by unfold Is; kernel_rfl
theorem i_picks_Script_Step : Is Try.prog n_picks_Script_Step F_picks_Script_Step := by unfold Is; kernel_rfl
theorem i_pool_Pool_string_Done : Is Try.prog n_pool_Pool_string_Done F_pool_Pool_string_Done := by unfold Is; kernel_rfl
theorem i_slices_Clone_int_int : Is Try.prog n_slices_Clone_int_int F_slices_Clone_int_int := by unfold Is; kernel_rfl
theorem i_pool_Pool_int_step : Is Try.prog n_pool_Pool_int_step F_pool_Pool_int_step := by unfold Is; kernel_rfl
theorem i_r10_push : Is Try.prog n_r10_push F_r10_push := by unfold Is; kernel_rfl
theorem i_r05_Has : Is Try.prog n_r05_Has F_r05_Has := by unfold Is; kernel_rfl
theorem i_sorted_Of_int : Is Try.prog n_sorted_Of_int F_sorted_Of_int := by unfold Is; kernel_rfl
theorem i_picks_Script_choice : Is Try.prog n_picks_Script_choice F_picks_Script_choice := by unfold Is; kernel_rfl
theorem i_pool_Pool_string_step : Is Try.prog n_pool_Pool_string_step F_pool_Pool_string_step := by unfold Is; kernel_rfl
theorem i_pool_Pool_int_ready_c1 : Is Try.prog n_pool_Pool_int_ready_c1 F_pool_Pool_int_ready_c1 := by unfold Is; kernel_rfl
theorem i_r10_take : Is Try.prog n_r10_take F_r10_take := by unfold Is; kernel_rfl
theorem i_slices_Compact_int_int : Is Try.prog n_slices_Compact_int_int F_slices_Compact_int_int := by unfold Is; kernel_rfl
theorem i_pool_Pool_string_take : Is Try.prog n_pool_Pool_string_take F_pool_Pool_string_take := by unfold Is; kernel_rfl
theorem i_deque_Deque_int_Steal : Is Try.prog n_deque_Deque_int_Steal F_deque_Deque_int_Steal := by unfold Is; kernel_rfl
theorem i_deque_Deque_string_Pop : Is Try.prog n_deque_Deque_string_Pop F_deque_Deque_string_Pop := by unfold Is; kernel_rfl
theorem i_deque_Deque_string_each : Is Try.prog n_deque_Deque_string_each F_deque_Deque_string_each := by unfold Is; kernel_rfl
theorem nopin : noPin Try.prog = true := by kernel_rfl
theorem tab0_ok : ProgOk Try.prog (tabP tab0) := by
  refine tab_ok ?_
  unfold tab0
  simp only [List.forall_mem_cons, List.not_mem_nil, false_implies, implies_true, and_true]
  exact ⟨i_l10_works, i_r01_Same, i_pool_Pool_string_Who, i_slices_Clone_int_int, i_pool_Pool_string_is, i_pool_Pool_string_Left, i_pool_Pool_string_waiting, i_deque_Deque_string_Len, i_pool_Pool_string_Stolen, i_pool_Pool_string_Done, i_pool_Pool_string_Run, i_pool_Pool_string_step, i_deque_Deque_string_Push, i_deque_Deque_string_at, i_deque_Deque_string_grow, i_deque_Deque_string_List, i_deque_Deque_string_each, i_deque_Deque_string_each_c1, i_pool_Pool_string_take, i_deque_Deque_string_Steal, i_deque_Deque_string_take, i_deque_Deque_string_Pop, i_picks_Script_Step, i_picks_Script_choice, i_sorted_Set_int_List, i_sorted_Set_int_Len, i_picks_Script_Cancelled, i_picks_Script_is, i_sorted_Of_int, i_slices_Compact_int_int, i_pool_Pool_string_ready, i_pool_Pool_string_ready_c1, i_pool_Pool_string_Add, i_pool_New_string, i_picks_New, sortOI_ok (sort_ok ⟨_, Try.func138, rfl, rfl⟩ Try.slices_Sort_int Try.slices_Sort_int_none)⟩

theorem works_run : (callV (tabP tab0) 200 (.func n_l10_works) [] Heap.empty).map (·.1) = some (.bool true) := by kernel_rfl
theorem works_ok : OracleOk Try.prog n_l10_works (closedO (.bool true)) := by
  obtain ⟨⟨v, h⟩, h1, h2⟩ := Option.map_eq_some_iff.1 works_run
  simp only at h2; subst h2
  exact closed_ok tab0_ok rfl h1
theorem tab1_ok : ProgOk Try.prog (tabP tab1) := by
  refine tab_ok ?_
  unfold tab1
  simp only [List.forall_mem_cons, List.not_mem_nil, false_implies, implies_true, and_true]
  exact ⟨i_l10_PoolPlays, i_pool_Pool_int_Add, i_r10_Add, i_pool_Pool_int_Stolen, i_picks_Script_Steps, i_pool_Pool_int_is, i_r10_ready, i_pool_Pool_int_waiting, i_picks_Script_Cancelled, i_pool_Pool_int_take, i_deque_Deque_int_Len, i_r10_Few, i_pool_Pool_int_Run, i_r01_Same, i_pool_Pool_int_Left, i_deque_Deque_int_Push, i_r09_Step, i_picks_Script_is, i_sorted_Set_int_Len, i_deque_Deque_int_grow, i_r09_Cancelled, i_deque_Deque_int_List, i_deque_Deque_int_each, i_deque_Deque_int_each_c1, i_pool_New_int, i_picks_New, i_l10_halves, i_pool_Pool_int_Who, i_r10_Jobs, i_r10_Of, i_pool_Pool_int_ready, i_r10_step, i_sorted_Set_int_List, i_deque_Deque_int_at, i_r10_hold, i_deque_Deque_int_Pop, i_deque_Deque_int_take, i_r10_New, i_r10_Run, i_pool_Pool_int_Done, i_l10_born, i_r05_Of, i_picks_Script_Step, i_slices_Clone_int_int, i_pool_Pool_int_step, i_r10_push, i_r05_Has, i_sorted_Of_int, i_picks_Script_choice, i_pool_Pool_int_ready_c1, i_r10_take, i_slices_Compact_int_int, i_deque_Deque_int_Steal, sort_ok ⟨_, Try.func138, rfl, rfl⟩ Try.slices_Sort_int Try.slices_Sort_int_none, works_ok⟩

theorem own : ownKnob Try.prog.godebug = none := by kernel_rfl
theorem laid : laidOutB Try.prog = true := by kernel_rfl
theorem okp : (Try.f4.params.toList.all fun t => Try.prog.readableRec t && decide (t < Try.prog.types.size)) = true := by kernel_rfl
theorem rt : Try.f4.resultTypes = #[4] := by kernel_rfl
theorem ub : Try.prog.underlying 4 = some .bool := by kernel_rfl
theorem pt : Try.f4.params.toList = [3, 27, 3, 27] := by kernel_rfl
theorem u3 : Try.prog.underlying 3 = some (.int .i64) := by kernel_rfl
theorem b3 : 0 < Try.prog.bytesOf 3 := of_decide_eq_true (by kernel_rfl)
theorem c3 : Try.prog.cellsOf 3 = 1 := by kernel_rfl
theorem u27 : Try.prog.underlying 27 = some (.slice 3) := by kernel_rfl
theorem b27 : 0 < Try.prog.bytesOf 27 := of_decide_eq_true (by kernel_rfl)
theorem c27 : Try.prog.cellsOf 27 = 1 := by kernel_rfl

section
variable {H : Type} {enc : TypeId × Value → H}
theorem o3 : Opens enc Try.prog 3 (kInt .i64) := (opens_int u3 c3)
theorem o27 : Opens enc Try.prog 27 (kSl (kInt .i64)) := (opens_slice u27 c27 b3 (opens_int u3 c3))

theorem contract (W : World) (base : Nat) (args : Array Value) (ds gs : List (DataW H)) (before : List MemPlace)
    (hval : ∀ (j : Nat) t v, Try.f4.params[j]? = some t → args[j]? = some v → Value.okWide Try.prog W .any base t v)
    (hW : DataW.Whole enc Try.prog Try.f4.params.toList Rows.poolPlaysSpec.vars false W args.toList ds gs before)
    (hsz : (DataW.weightsEach Try.prog (Try.f4.params.toList ++ Rows.poolPlaysSpec.plain.varTypes Try.prog) (ds ++ gs)).all (· ≤ reachBytes) = true) :
    Calls Try.prog 4 args W fun e W' => ∃ v, e = .returned v ∧ Rows.poolPlaysSpec.post enc Try.prog Try.f4 false true false false W args v W' := by
  have hW' := hW
  obtain ⟨p, q, hA, hV, rfl, hfz, hnd⟩ := hW
  rw [pt] at hA
  rw [pt] at hsz
  obtain ⟨v0, vs0, d0, ds0, p0, q0, hargs, rfl, rfl, h0, r0⟩ := trodAll_cons hA
  obtain ⟨v1, vs1, d1, ds1, p1, q1, hargs1, rfl, rfl, h1, r1⟩ := trodAll_cons r0
  subst hargs1
  obtain ⟨v2, vs2, d2, ds2, p2, q2, hargs2, rfl, rfl, h2, r2⟩ := trodAll_cons r1
  subst hargs2
  obtain ⟨v3, vs3, d3, ds3, p3, q3, hargs3, rfl, rfl, h3, r3⟩ := trodAll_cons r2
  subst hargs3
  obtain ⟨rfl, rfl, rfl⟩ := trodAll_nil r3
  obtain ⟨rfl, rfl⟩ := trodVars_none hV
  obtain rfl : args = #[v0, v1, v2, v3] := by cases args; simp_all
  have pt' : Try.f4.params = #[3, 27, 3, 27] := by apply Array.ext'; exact pt
  obtain ⟨n0, e0⟩ := okWide_int u3 (hval 0 3 v0 (by rw [pt']; rfl) rfl)
  obtain ⟨s0, l0, y0⟩ := opens_arg1 o3 h0 (wok_each hsz 0 _ _ rfl rfl) (by rw [e0]; rfl)
  have w0 := y0.2
  replace y0 : norm v0 = Value.int .i64 l0 := by have y : [norm v0] = _ := y0.1; simpa using y
  obtain ⟨a1, n1, cc1, e1⟩ := okWide_slice u27 (hval 1 27 v1 (by rw [pt']; rfl) rfl)
  obtain ⟨s1, l1, y1⟩ := opens_arg1 o27 h1 (wok_each hsz 1 _ _ rfl rfl) (by rw [e1]; rfl)
  obtain ⟨x1, y1, z1, m1⟩ := y1
  obtain rfl : norm v1 = x1 := by simpa using y1
  obtain ⟨b1, c1, g1⟩ := z1.form
  rw [g1] at z1
  obtain ⟨n2, e2⟩ := okWide_int u3 (hval 2 3 v2 (by rw [pt']; rfl) rfl)
  obtain ⟨s2, l2, y2⟩ := opens_arg1 o3 h2 (wok_each hsz 2 _ _ rfl rfl) (by rw [e2]; rfl)
  have w2 := y2.2
  replace y2 : norm v2 = Value.int .i64 l2 := by have y : [norm v2] = _ := y2.1; simpa using y
  obtain ⟨a3, n3, cc3, e3⟩ := okWide_slice u27 (hval 3 27 v3 (by rw [pt']; rfl) rfl)
  obtain ⟨s3, l3, y3⟩ := opens_arg1 o27 h3 (wok_each hsz 3 _ _ rfl rfl) (by rw [e3]; rfl)
  obtain ⟨x3, y3, z3, m3⟩ := y3
  obtain rfl : norm v3 = x3 := by simpa using y3
  obtain ⟨b3, c3, g3⟩ := z3.form
  rw [g3] at z3
  obtain ⟨n, v, H1, h1, hr, _, rfl⟩ := ((l10_PoolPlays_spec (w := l0) (l := l1) (c := l2) (jobs := l3) w0 w2).law (sat_arg (sat_arg (sat0 W) z3) z1)).run
  try simp only [← y0, ← g1, ← y2, ← g3] at hr
  exact contract_true tab1_ok laid okp rt ub rfl W (pin_none nopin W) #[v0, v1, v2, v3] [d0, d1, d2, d3] [] _ hW' ⟨rfl, rfl, rfl⟩ (aargs := [norm v0, norm v1, norm v2, norm v3]) (VL.cons s0 (VL.cons s1 (VL.cons s2 (VL.cons s3 (VL.nil _))))) hr
end

theorem lifted (os : Os) (started : os.Started) (H : Type) (enc : TypeId × Value → H) :
    ReturnsInHanded {} @Try.checked os 4 .any (Rows.poolPlaysSpec.pre6 enc Try.prog Try.f4 Rows.poolPlaysRow.domain false) (Rows.poolPlaysSpec.post enc Try.prog Try.f4 false true false false) := by
  refine returnsInHanded_of_change_sized (C := @Try.checked) own started (by kernel_rfl) @Try.func4
    (ChangeSpec.witness6 (enc := enc) (C := @Try.checked) false ⟨#[], #[.int .i64 0, .slice none 0 0, .int .i64 0, .slice none 0 0], []⟩ 8 (by kernel_rfl) (by kernel_rfl) (by kernel_rfl) (by kernel_rfl)) ?_
  intro W base args ds gs before hval hW _ hsz _
  exact contract W base args ds gs before hval hW hsz

theorem over : Rows.poolPlaysRow.holds @Try.pinned (OpenSpec.ofChange Rows.poolPlaysSpec) :=
  OpenClaim.holds_of_wide 4 @Try.f4 rfl rfl rfl rfl rfl rfl rfl ⟨rfl, rfl, rfl, rfl, rfl⟩ rfl rfl rfl rfl rfl (by kernel_rfl) @Try.func4 (by kernel_rfl)
    (of_decide_eq_true (by kernel_rfl)) (by unfold Func.isWrapper; first | (rw [if_pos (by decide +kernel)]; kernel_rfl) | (rw [if_neg (by decide +kernel)]; exact ⟨rfl, rfl⟩))
    (fun os started H enc _ => lifted os started H enc)

theorem proved : Rows.PoolPlaysSaid := over
#print axioms proved
end Go.Proofs.Ytjnipkbnmbnfpaa.AmPoolPlays
