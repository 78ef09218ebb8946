/- 'coronerlaw10.PoolNone' is true, for every input. -/
import Derived.Test.YtjnipkbnmbnfpaaRows
import Derived.Test.YtjnipkbnmbnfpaaPart1
import Derived.Test.YtjnipkbnmbnfpaaSort
import Derived.Test.YtjnipkbnmbnfpaaAmSepO
import Derived.Test.YtjnipkbnmbnfpaaAmClosed
import Derived.WalkKit
import Derived.ProofKit
import Derived.OpenShut
import Derived.JoinedOf
import Derived.Handed
import Derived.SizedLaws
namespace Go.Proofs.Ytjnipkbnmbnfpaa.AmPoolNone
open Go.ChangeShapes Go.WideShapes Go.ChangeAt Go.RowKit Go.AM Go.AM.G Go.AMS
set_option linter.unusedVariables false
set_option linter.unusedSimpArgs false
set_option maxRecDepth 100000

theorem i_l10_PoolNone : Is Try.prog n_l10_PoolNone F_l10_PoolNone := by unfold Is; kernel_rfl
theorem i_pool_New_int : Is Try.prog n_pool_New_int F_pool_New_int := by unfold Is; kernel_rfl
theorem i_l10_none : Is Try.prog n_l10_none F_l10_none := by unfold Is; kernel_rfl
theorem i_l10_works : Is Try.prog n_l10_works F_l10_works := by unfold Is; kernel_rfl
theorem i_picks_New : Is Try.prog n_picks_New F_picks_New := by unfold Is; kernel_rfl
theorem i_pool_Pool_int_Add : Is Try.prog n_pool_Pool_int_Add F_pool_Pool_int_Add := by unfold Is; kernel_rfl
theorem i_pool_Pool_int_Run : Is Try.prog n_pool_Pool_int_Run F_pool_Pool_int_Run := by unfold Is; kernel_rfl
theorem i_r01_Same : Is Try.prog n_r01_Same F_r01_Same := by unfold Is; kernel_rfl
theorem i_pool_Pool_int_Who : Is Try.prog n_pool_Pool_int_Who F_pool_Pool_int_Who := by unfold Is; kernel_rfl
theorem i_pool_Pool_int_Done : Is Try.prog n_pool_Pool_int_Done F_pool_Pool_int_Done := by unfold Is; kernel_rfl
theorem i_pool_Pool_int_Stolen : Is Try.prog n_pool_Pool_int_Stolen F_pool_Pool_int_Stolen := by unfold Is; kernel_rfl
theorem i_pool_Pool_int_Left : Is Try.prog n_pool_Pool_int_Left F_pool_Pool_int_Left := by unfold Is; kernel_rfl
theorem i_picks_Script_Step : Is Try.prog n_picks_Script_Step F_picks_Script_Step := by unfold Is; kernel_rfl
theorem i_pool_New_string : Is Try.prog n_pool_New_string F_pool_New_string := by unfold Is; kernel_rfl
theorem i_pool_Pool_string_Add : Is Try.prog n_pool_Pool_string_Add F_pool_Pool_string_Add := by unfold Is; kernel_rfl
theorem i_pool_Pool_string_Run : Is Try.prog n_pool_Pool_string_Run F_pool_Pool_string_Run := by unfold Is; kernel_rfl
theorem i_pool_Pool_string_Done : Is Try.prog n_pool_Pool_string_Done F_pool_Pool_string_Done := by unfold Is; kernel_rfl
theorem i_pool_Pool_string_Stolen : Is Try.prog n_pool_Pool_string_Stolen F_pool_Pool_string_Stolen := by unfold Is; kernel_rfl
theorem i_pool_Pool_string_Left : Is Try.prog n_pool_Pool_string_Left F_pool_Pool_string_Left := by unfold Is; kernel_rfl
theorem i_pool_Pool_string_Who : Is Try.prog n_pool_Pool_string_Who F_pool_Pool_string_Who := by unfold Is; kernel_rfl
theorem i_slices_Clone_int_int : Is Try.prog n_slices_Clone_int_int F_slices_Clone_int_int := by unfold Is; kernel_rfl
theorem i_pool_Pool_int_is : Is Try.prog n_pool_Pool_int_is F_pool_Pool_int_is := by unfold Is; kernel_rfl
theorem i_picks_Script_is : Is Try.prog n_picks_Script_is F_picks_Script_is := by unfold Is; kernel_rfl
theorem i_sorted_Of_int : Is Try.prog n_sorted_Of_int F_sorted_Of_int := by unfold Is; kernel_rfl
theorem i_picks_Script_Cancelled : Is Try.prog n_picks_Script_Cancelled F_picks_Script_Cancelled := by unfold Is; kernel_rfl
theorem i_sorted_Set_int_Len : Is Try.prog n_sorted_Set_int_Len F_sorted_Set_int_Len := by unfold Is; kernel_rfl
theorem i_sorted_Set_int_List : Is Try.prog n_sorted_Set_int_List F_sorted_Set_int_List := by unfold Is; kernel_rfl
theorem i_picks_Script_choice : Is Try.prog n_picks_Script_choice F_picks_Script_choice := by unfold Is; kernel_rfl
theorem i_pool_Pool_string_is : Is Try.prog n_pool_Pool_string_is F_pool_Pool_string_is := by unfold Is; kernel_rfl
theorem i_deque_Deque_string_Push : Is Try.prog n_deque_Deque_string_Push F_deque_Deque_string_Push := by unfold Is; kernel_rfl
theorem i_pool_Pool_string_ready : Is Try.prog n_pool_Pool_string_ready F_pool_Pool_string_ready := by unfold Is; kernel_rfl
theorem i_pool_Pool_string_step : Is Try.prog n_pool_Pool_string_step F_pool_Pool_string_step := by unfold Is; kernel_rfl
theorem i_pool_Pool_string_waiting : Is Try.prog n_pool_Pool_string_waiting F_pool_Pool_string_waiting := by unfold Is; kernel_rfl
theorem i_slices_Compact_int_int : Is Try.prog n_slices_Compact_int_int F_slices_Compact_int_int := by unfold Is; kernel_rfl
theorem i_deque_Deque_string_grow : Is Try.prog n_deque_Deque_string_grow F_deque_Deque_string_grow := by unfold Is; kernel_rfl
theorem i_deque_Deque_string_at : Is Try.prog n_deque_Deque_string_at F_deque_Deque_string_at := by unfold Is; kernel_rfl
theorem i_pool_Pool_string_ready_c1 : Is Try.prog n_pool_Pool_string_ready_c1 F_pool_Pool_string_ready_c1 := by unfold Is; kernel_rfl
theorem i_pool_Pool_string_take : Is Try.prog n_pool_Pool_string_take F_pool_Pool_string_take := by unfold Is; kernel_rfl
theorem i_deque_Deque_string_Len : Is Try.prog n_deque_Deque_string_Len F_deque_Deque_string_Len := by unfold Is; kernel_rfl
theorem i_deque_Deque_string_List : Is Try.prog n_deque_Deque_string_List F_deque_Deque_string_List := by unfold Is; kernel_rfl
theorem i_deque_Deque_string_Pop : Is Try.prog n_deque_Deque_string_Pop F_deque_Deque_string_Pop := by unfold Is; kernel_rfl
theorem i_deque_Deque_string_Steal : Is Try.prog n_deque_Deque_string_Steal F_deque_Deque_string_Steal := by unfold Is; kernel_rfl
theorem i_deque_Deque_string_each : Is Try.prog n_deque_Deque_string_each F_deque_Deque_string_each := by unfold Is; kernel_rfl
theorem i_deque_Deque_string_take : Is Try.prog n_deque_Deque_string_take F_deque_Deque_string_take := by unfold Is; kernel_rfl
theorem i_deque_Deque_string_each_c1 : Is Try.prog n_deque_Deque_string_each_c1 F_deque_Deque_string_each_c1 := by unfold Is; kernel_rfl
theorem tab0_ok : ProgOk Try.prog (tabP tab0) := by
  refine tab_ok ?_
  unfold tab0
  simp only [List.forall_mem_cons, List.not_mem_nil, false_implies, implies_true, and_true]
  exact ⟨i_l10_works, i_r01_Same, i_pool_Pool_string_Who, i_slices_Clone_int_int, i_pool_Pool_string_is, i_pool_Pool_string_Left, i_pool_Pool_string_waiting, i_deque_Deque_string_Len, i_pool_Pool_string_Stolen, i_pool_Pool_string_Done, i_pool_Pool_string_Run, i_pool_Pool_string_step, i_deque_Deque_string_Push, i_deque_Deque_string_at, i_deque_Deque_string_grow, i_deque_Deque_string_List, i_deque_Deque_string_each, i_deque_Deque_string_each_c1, i_pool_Pool_string_take, i_deque_Deque_string_Steal, i_deque_Deque_string_take, i_deque_Deque_string_Pop, i_picks_Script_Step, i_picks_Script_choice, i_sorted_Set_int_List, i_sorted_Set_int_Len, i_picks_Script_Cancelled, i_picks_Script_is, i_sorted_Of_int, i_slices_Compact_int_int, i_pool_Pool_string_ready, i_pool_Pool_string_ready_c1, i_pool_Pool_string_Add, i_pool_New_string, i_picks_New, sortOI_ok (sort_ok ⟨_, Try.func138, rfl, rfl⟩ Try.slices_Sort_int Try.slices_Sort_int_none)⟩

theorem works_run : (callV (tabP tab0) 200 (.func n_l10_works) [] Heap.empty).map (·.1) = some (.bool true) := by kernel_rfl
theorem works_ok : OracleOk Try.prog n_l10_works (closedO (.bool true)) := by
  obtain ⟨⟨v, h⟩, h1, h2⟩ := Option.map_eq_some_iff.1 works_run
  simp only at h2; subst h2
  exact closed_ok tab0_ok rfl h1
theorem tab1_ok : ProgOk Try.prog (tabP tab1) := by
  refine tab_ok ?_
  unfold tab1
  simp only [List.forall_mem_cons, List.not_mem_nil, false_implies, implies_true, and_true]
  exact ⟨i_l10_PoolNone, i_pool_New_int, i_l10_none, i_pool_Pool_int_Add, i_pool_Pool_int_Run, i_pool_Pool_int_Who, i_pool_Pool_int_Done, i_pool_Pool_int_Stolen, i_pool_Pool_int_Left, i_picks_Script_Step, i_slices_Clone_int_int, i_pool_Pool_int_is, i_picks_Script_is, i_sorted_Of_int, i_slices_Compact_int_int, sort_ok ⟨_, Try.func138, rfl, rfl⟩ Try.slices_Sort_int Try.slices_Sort_int_none, works_ok⟩

theorem own : ownKnob Try.prog.godebug = none := by kernel_rfl
theorem laid : laidOutB Try.prog = true := by kernel_rfl
theorem okp : (Try.f3.params.toList.all fun t => Try.prog.readableRec t && decide (t < Try.prog.types.size)) = true := by kernel_rfl
theorem rt : Try.f3.resultTypes = #[4] := by kernel_rfl
theorem ub : Try.prog.underlying 4 = some .bool := by kernel_rfl
theorem pt : Try.f3.params.toList = [3, 3] := by kernel_rfl
theorem u3 : Try.prog.underlying 3 = some (.int .i64) := by kernel_rfl
theorem b3 : 0 < Try.prog.bytesOf 3 := of_decide_eq_true (by kernel_rfl)
theorem c3 : Try.prog.cellsOf 3 = 1 := by kernel_rfl

section
variable {H : Type} {enc : TypeId × Value → H}
theorem o3 : Opens enc Try.prog 3 (kInt .i64) := (opens_int u3 c3)

theorem contract (W : World) (base : Nat) (args : Array Value) (ds gs : List (DataW H)) (before : List MemPlace)
    (hval : ∀ (j : Nat) t v, Try.f3.params[j]? = some t → args[j]? = some v → Value.okWide Try.prog W .any base t v)
    (hW : DataW.Whole enc Try.prog Try.f3.params.toList Rows.poolNoneSpec.vars false W args.toList ds gs before)
    (hsz : (DataW.weightsEach Try.prog (Try.f3.params.toList ++ Rows.poolNoneSpec.plain.varTypes Try.prog) (ds ++ gs)).all (· ≤ reachBytes) = true) :
    Calls Try.prog 3 args W fun e W' => ∃ v, e = .returned v ∧ Rows.poolNoneSpec.post enc Try.prog Try.f3 false true false false W args v W' := by
  have hW' := hW
  obtain ⟨p, q, hA, hV, rfl, hfz, hnd⟩ := hW
  rw [pt] at hA
  rw [pt] at hsz
  obtain ⟨v0, vs0, d0, ds0, p0, q0, hargs, rfl, rfl, h0, r0⟩ := trodAll_cons hA
  obtain ⟨v1, vs1, d1, ds1, p1, q1, hargs1, rfl, rfl, h1, r1⟩ := trodAll_cons r0
  subst hargs1
  obtain ⟨rfl, rfl, rfl⟩ := trodAll_nil r1
  obtain ⟨rfl, rfl⟩ := trodVars_none hV
  obtain rfl : args = #[v0, v1] := by cases args; simp_all
  have pt' : Try.f3.params = #[3, 3] := by apply Array.ext'; exact pt
  obtain ⟨n0, e0⟩ := okWide_int u3 (hval 0 3 v0 (by rw [pt']; rfl) rfl)
  obtain ⟨s0, l0, y0⟩ := opens_arg1 o3 h0 (wok_each hsz 0 _ _ rfl rfl) (by rw [e0]; rfl)
  have w0 := y0.2
  replace y0 : norm v0 = Value.int .i64 l0 := by have y : [norm v0] = _ := y0.1; simpa using y
  obtain ⟨n1, e1⟩ := okWide_int u3 (hval 1 3 v1 (by rw [pt']; rfl) rfl)
  obtain ⟨s1, l1, y1⟩ := opens_arg1 o3 h1 (wok_each hsz 1 _ _ rfl rfl) (by rw [e1]; rfl)
  have w1 := y1.2
  replace y1 : norm v1 = Value.int .i64 l1 := by have y : [norm v1] = _ := y1.1; simpa using y
  obtain ⟨n, v, H1, h1, hr, _, rfl⟩ := ((l10_PoolNone_spec (w := l0) (x := l1)).law (sat0 W)).run
  try simp only [← y0, ← y1] at hr
  exact contract_true tab1_ok laid okp rt ub rfl W #[v0, v1] [d0, d1] [] _ hW' ⟨rfl, rfl, rfl⟩ (aargs := [norm v0, norm v1]) (VL.cons s0 (VL.cons s1 (VL.nil _))) hr
end

theorem lifted (os : Os) (started : os.Started) (H : Type) (enc : TypeId × Value → H) :
    ReturnsInHanded {} @Try.checked os 3 .any (Rows.poolNoneSpec.pre6 enc Try.prog Try.f3 Rows.poolNoneRow.domain false) (Rows.poolNoneSpec.post enc Try.prog Try.f3 false true false false) := by
  refine returnsInHanded_of_change_sized (C := @Try.checked) own started (by kernel_rfl) @Try.func3
    (ChangeSpec.witness6 (enc := enc) (C := @Try.checked) false ⟨#[], #[.int .i64 0, .int .i64 0], []⟩ 8 (by kernel_rfl) (by kernel_rfl) (by kernel_rfl) (by kernel_rfl)) ?_
  intro W base args ds gs before hval hW _ hsz _
  exact contract W base args ds gs before hval hW hsz

theorem over : Rows.poolNoneRow.holds @Try.pinned (OpenSpec.ofChange Rows.poolNoneSpec) :=
  OpenClaim.holds_of_wide 3 @Try.f3 rfl rfl rfl rfl rfl rfl rfl ⟨rfl, rfl, rfl, rfl, rfl⟩ rfl rfl rfl rfl rfl (by kernel_rfl) @Try.func3 (by kernel_rfl)
    (of_decide_eq_true (by kernel_rfl)) (by unfold Func.isWrapper; first | (rw [if_pos (by decide +kernel)]; kernel_rfl) | (rw [if_neg (by decide +kernel)]; exact ⟨rfl, rfl⟩))
    (fun os started H enc _ => lifted os started H enc)

theorem proved : Rows.PoolNoneSaid := over
#print axioms proved
end Go.Proofs.Ytjnipkbnmbnfpaa.AmPoolNone
