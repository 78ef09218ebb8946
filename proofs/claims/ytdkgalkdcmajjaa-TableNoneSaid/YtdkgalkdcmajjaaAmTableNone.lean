/- 'coronerlaw12.TableNone' is true, for every input. -/
import Derived.Test.YtdkgalkdcmajjaaRows
import Derived.Test.YtdkgalkdcmajjaaPart1
import Derived.Test.YtdkgalkdcmajjaaSort
import Derived.Test.YtdkgalkdcmajjaaAmSepO
import Derived.Test.YtdkgalkdcmajjaaAmClosed
import Derived.WalkKit
import Derived.ProofKit
import Derived.OpenShut
import Derived.JoinedOf
import Derived.Handed
import Derived.SizedLaws
namespace Go.Proofs.Ytdkgalkdcmajjaa.AmTableNone
open Go.ChangeShapes Go.WideShapes Go.ChangeAt Go.RowKit Go.AM Go.AM.G Go.AMS
set_option linter.unusedVariables false
set_option linter.unusedSimpArgs false
set_option maxRecDepth 100000

theorem i_table_New : Is Try.prog n_table_New F_table_New := by unfold Is; kernel_rfl
theorem i_table_Table_Writer : Is Try.prog n_table_Table_Writer F_table_Table_Writer := by unfold Is; kernel_rfl
theorem i_encode_Check : Is Try.prog n_encode_Check F_encode_Check := by unfold Is; kernel_rfl
theorem i_table_New_c1 : Is Try.prog n_table_New_c1 F_table_New_c1 := by unfold Is; kernel_rfl
theorem i_table_Table_put : Is Try.prog n_table_Table_put F_table_Table_put := by unfold Is; kernel_rfl
theorem i_table_Table_is : Is Try.prog n_table_Table_is F_table_Table_is := by unfold Is; kernel_rfl
theorem i_table_goes_table_Read : Is Try.prog n_table_goes_table_Read F_table_goes_table_Read := by unfold Is; kernel_rfl
theorem i_encode_text : Is Try.prog n_encode_text F_encode_text := by unfold Is; kernel_rfl
theorem i_cmp_isNaN_int : Is Try.prog n_cmp_isNaN_int F_cmp_isNaN_int := by unfold Is; kernel_rfl
theorem i_slices_Compact_int_int : Is Try.prog n_slices_Compact_int_int F_slices_Compact_int_int := by unfold Is; kernel_rfl
theorem i_slices_isNaN_int : Is Try.prog n_slices_isNaN_int F_slices_isNaN_int := by unfold Is; kernel_rfl
theorem i_table_goes_table_Write_c1 : Is Try.prog n_table_goes_table_Write_c1 F_table_goes_table_Write_c1 := by unfold Is; kernel_rfl
theorem i_encode_mayOp : Is Try.prog n_encode_mayOp F_encode_mayOp := by unfold Is; kernel_rfl
theorem i_slices_heapSortCmpFunc_api_Txn : Is Try.prog n_slices_heapSortCmpFunc_api_Txn F_slices_heapSortCmpFunc_api_Txn := by unfold Is; kernel_rfl
theorem i_slices_reverseRangeCmpFunc_api_Txn : Is Try.prog n_slices_reverseRangeCmpFunc_api_Txn F_slices_reverseRangeCmpFunc_api_Txn := by unfold Is; kernel_rfl
theorem i_slices_partitionCmpFunc_api_Txn : Is Try.prog n_slices_partitionCmpFunc_api_Txn F_slices_partitionCmpFunc_api_Txn := by unfold Is; kernel_rfl
theorem i_encode_line : Is Try.prog n_encode_line F_encode_line := by unfold Is; kernel_rfl
theorem i_slices_xorshift_Next : Is Try.prog n_slices_xorshift_Next F_slices_xorshift_Next := by unfold Is; kernel_rfl
theorem i_slices_order2CmpFunc_api_Txn : Is Try.prog n_slices_order2CmpFunc_api_Txn F_slices_order2CmpFunc_api_Txn := by unfold Is; kernel_rfl
theorem i_l12_TableNone : Is Try.prog n_l12_TableNone F_l12_TableNone := by unfold Is; kernel_rfl
theorem i_r01_Same : Is Try.prog n_r01_Same F_r01_Same := by unfold Is; kernel_rfl
theorem i_table_Table_Keys : Is Try.prog n_table_Table_Keys F_table_Table_Keys := by unfold Is; kernel_rfl
theorem i_table_Table_Reads : Is Try.prog n_table_Table_Reads F_table_Table_Reads := by unfold Is; kernel_rfl
theorem i_l12_none : Is Try.prog n_l12_none F_l12_none := by unfold Is; kernel_rfl
theorem i_slices_Clone_api_Txn_api_Txn : Is Try.prog n_slices_Clone_api_Txn_api_Txn F_slices_Clone_api_Txn_api_Txn := by unfold Is; kernel_rfl
theorem i_cmp_Compare_int : Is Try.prog n_cmp_Compare_int F_cmp_Compare_int := by unfold Is; kernel_rfl
theorem i_sorted_Of_int : Is Try.prog n_sorted_Of_int F_sorted_Of_int := by unfold Is; kernel_rfl
theorem i_slices_BinarySearch_int_int : Is Try.prog n_slices_BinarySearch_int_int F_slices_BinarySearch_int_int := by unfold Is; kernel_rfl
theorem i_history_Ops : Is Try.prog n_history_Ops F_history_Ops := by unfold Is; kernel_rfl
theorem i_slices_pdqsortCmpFunc_api_Txn : Is Try.prog n_slices_pdqsortCmpFunc_api_Txn F_slices_pdqsortCmpFunc_api_Txn := by unfold Is; kernel_rfl
theorem i_table_steps_c1 : Is Try.prog n_table_steps_c1 F_table_steps_c1 := by unfold Is; kernel_rfl
theorem i_encode_txn : Is Try.prog n_encode_txn F_encode_txn := by unfold Is; kernel_rfl
theorem i_slices_breakPatternsCmpFunc_api_Txn : Is Try.prog n_slices_breakPatternsCmpFunc_api_Txn F_slices_breakPatternsCmpFunc_api_Txn := by unfold Is; kernel_rfl
theorem i_slices_partialInsertionSortCmpFunc_api_Txn : Is Try.prog n_slices_partialInsertionSortCmpFunc_api_Txn F_slices_partialInsertionSortCmpFunc_api_Txn := by unfold Is; kernel_rfl
theorem i_math_bits_Len32 : Is Try.prog n_math_bits_Len32 F_math_bits_Len32 := by unfold Is; kernel_rfl
theorem i_slices_ContainsFunc_int_int : Is Try.prog n_slices_ContainsFunc_int_int F_slices_ContainsFunc_int_int := by unfold Is; kernel_rfl
theorem i_slices_siftDownCmpFunc_api_Txn : Is Try.prog n_slices_siftDownCmpFunc_api_Txn F_slices_siftDownCmpFunc_api_Txn := by unfold Is; kernel_rfl
theorem i_slices_medianAdjacentCmpFunc_api_Txn : Is Try.prog n_slices_medianAdjacentCmpFunc_api_Txn F_slices_medianAdjacentCmpFunc_api_Txn := by unfold Is; kernel_rfl
theorem i_slices_IndexFunc_int_int : Is Try.prog n_slices_IndexFunc_int_int F_slices_IndexFunc_int_int := by unfold Is; kernel_rfl
theorem i_digits_may : Is Try.prog n_digits_may F_digits_may := by unfold Is; kernel_rfl
theorem i_l12_works : Is Try.prog n_l12_works F_l12_works := by unfold Is; kernel_rfl
theorem i_table_Table_Rank : Is Try.prog n_table_Table_Rank F_table_Table_Rank := by unfold Is; kernel_rfl
theorem i_table_Table_IDs : Is Try.prog n_table_Table_IDs F_table_Table_IDs := by unfold Is; kernel_rfl
theorem i_table_Table_Appends : Is Try.prog n_table_Table_Appends F_table_Table_Appends := by unfold Is; kernel_rfl
theorem i_table_Table_Writes : Is Try.prog n_table_Table_Writes F_table_Table_Writes := by unfold Is; kernel_rfl
theorem i_l12_one : Is Try.prog n_l12_one F_l12_one := by unfold Is; kernel_rfl
theorem i_slices_SortFunc_api_Txn_api_Txn : Is Try.prog n_slices_SortFunc_api_Txn_api_Txn F_slices_SortFunc_api_Txn_api_Txn := by unfold Is; kernel_rfl
theorem i_table_steps : Is Try.prog n_table_steps F_table_steps := by unfold Is; kernel_rfl
theorem i_sorted_Set_int_List : Is Try.prog n_sorted_Set_int_List F_sorted_Set_int_List := by unfold Is; kernel_rfl
theorem i_slices_Clone_int_int : Is Try.prog n_slices_Clone_int_int F_slices_Clone_int_int := by unfold Is; kernel_rfl
theorem i_table_goes_table_Write : Is Try.prog n_table_goes_table_Write F_table_goes_table_Write := by unfold Is; kernel_rfl
theorem i_encode_parts : Is Try.prog n_encode_parts F_encode_parts := by unfold Is; kernel_rfl
theorem i_math_bits_Len : Is Try.prog n_math_bits_Len F_math_bits_Len := by unfold Is; kernel_rfl
theorem i_cmp_Less_int : Is Try.prog n_cmp_Less_int F_cmp_Less_int := by unfold Is; kernel_rfl
theorem i_table_goes_table_Read_c1 : Is Try.prog n_table_goes_table_Read_c1 F_table_goes_table_Read_c1 := by unfold Is; kernel_rfl
theorem i_encode_may : Is Try.prog n_encode_may F_encode_may := by unfold Is; kernel_rfl
theorem i_slices_insertionSortCmpFunc_api_Txn : Is Try.prog n_slices_insertionSortCmpFunc_api_Txn F_slices_insertionSortCmpFunc_api_Txn := by unfold Is; kernel_rfl
theorem i_slices_choosePivotCmpFunc_api_Txn : Is Try.prog n_slices_choosePivotCmpFunc_api_Txn F_slices_choosePivotCmpFunc_api_Txn := by unfold Is; kernel_rfl
theorem i_slices_partitionEqualCmpFunc_api_Txn : Is Try.prog n_slices_partitionEqualCmpFunc_api_Txn F_slices_partitionEqualCmpFunc_api_Txn := by unfold Is; kernel_rfl
theorem i_math_bits_Len64 : Is Try.prog n_math_bits_Len64 F_math_bits_Len64 := by unfold Is; kernel_rfl
theorem i_encode_may_c1 : Is Try.prog n_encode_may_c1 F_encode_may_c1 := by unfold Is; kernel_rfl
theorem i_slices_nextPowerOfTwo : Is Try.prog n_slices_nextPowerOfTwo F_slices_nextPowerOfTwo := by unfold Is; kernel_rfl
theorem i_slices_medianCmpFunc_api_Txn : Is Try.prog n_slices_medianCmpFunc_api_Txn F_slices_medianCmpFunc_api_Txn := by unfold Is; kernel_rfl
theorem i_digits_Print : Is Try.prog n_digits_Print F_digits_Print := by unfold Is; kernel_rfl
theorem i_digits_text : Is Try.prog n_digits_text F_digits_text := by unfold Is; kernel_rfl
theorem nopin : noPin Try.prog = true := by kernel_rfl
theorem tab0_ok : ProgOk Try.prog (tabP tab0) := by
  refine tab_ok ?_
  unfold tab0
  simp only [List.forall_mem_cons, List.not_mem_nil, false_implies, implies_true, and_true]
  exact ⟨i_l12_works, i_table_Table_Writes, i_table_goes_table_Write, i_table_goes_table_Write_c1, i_table_Table_is, i_table_Table_Reads, i_table_goes_table_Read, i_table_goes_table_Read_c1, i_table_Table_Appends, i_slices_Clone_int_int, i_table_Table_Keys, i_r01_Same, i_table_Table_IDs, i_table_Table_Rank, i_slices_BinarySearch_int_int, i_slices_isNaN_int, i_cmp_Less_int, i_cmp_isNaN_int, i_table_Table_Writer, i_table_New, i_sorted_Set_int_List, i_sorted_Of_int, i_slices_Compact_int_int, i_table_Table_put, i_table_steps, i_table_steps_c1, i_table_New_c1, i_cmp_Compare_int, i_slices_SortFunc_api_Txn_api_Txn, i_slices_pdqsortCmpFunc_api_Txn, i_slices_partitionCmpFunc_api_Txn, i_slices_partitionEqualCmpFunc_api_Txn, i_slices_partialInsertionSortCmpFunc_api_Txn, i_slices_reverseRangeCmpFunc_api_Txn, i_slices_choosePivotCmpFunc_api_Txn, i_slices_medianCmpFunc_api_Txn, i_slices_order2CmpFunc_api_Txn, i_slices_medianAdjacentCmpFunc_api_Txn, i_slices_breakPatternsCmpFunc_api_Txn, i_slices_xorshift_Next, i_slices_nextPowerOfTwo, i_math_bits_Len, i_math_bits_Len64, i_math_bits_Len32, i_slices_heapSortCmpFunc_api_Txn, i_slices_siftDownCmpFunc_api_Txn, i_slices_insertionSortCmpFunc_api_Txn, i_slices_Clone_api_Txn_api_Txn, i_encode_Check, i_encode_text, i_encode_txn, i_encode_line, i_digits_Print, i_digits_text, i_digits_may, i_encode_parts, i_encode_mayOp, i_encode_may, i_encode_may_c1, i_slices_ContainsFunc_int_int, i_slices_IndexFunc_int_int, i_history_Ops, i_l12_one, sortOI_ok (sort_ok ⟨_, Try.func80, rfl, rfl⟩ Try.slices_Sort_int Try.slices_Sort_int_none)⟩

theorem works_run : (callV (tabP tab0) 200 (.func n_l12_works) [] Heap.empty).map (·.1) = some (.bool true) := by kernel_rfl
theorem works_ok : OracleOk Try.prog n_l12_works (closedO (.bool true)) := by
  obtain ⟨⟨v, h⟩, h1, h2⟩ := Option.map_eq_some_iff.1 works_run
  simp only at h2; subst h2
  exact closed_ok tab0_ok rfl h1
theorem tab1_ok : ProgOk Try.prog (tabP tab1) := by
  refine tab_ok ?_
  unfold tab1
  simp only [List.forall_mem_cons, List.not_mem_nil, false_implies, implies_true, and_true]
  exact ⟨i_table_Table_Writer, i_table_Table_is, i_table_goes_table_Read, i_l12_TableNone, i_table_Table_Keys, i_table_Table_Reads, i_l12_none, i_table_Table_Rank, i_table_Table_IDs, i_table_Table_Appends, i_table_Table_Writes, i_table_goes_table_Write, i_table_goes_table_Read_c1, works_ok⟩

theorem own : ownKnob Try.prog.godebug = none := by kernel_rfl
theorem laid : laidOutB Try.prog = true := by kernel_rfl
theorem okp : (Try.f7.params.toList.all fun t => Try.prog.readableRec t && decide (t < Try.prog.types.size)) = true := by kernel_rfl
theorem rt : Try.f7.resultTypes = #[4] := by kernel_rfl
theorem ub : Try.prog.underlying 4 = some .bool := by kernel_rfl
theorem pt : Try.f7.params.toList = [3, 3] := by kernel_rfl
theorem u3 : Try.prog.underlying 3 = some (.int .i64) := by kernel_rfl
theorem b3 : 0 < Try.prog.bytesOf 3 := of_decide_eq_true (by kernel_rfl)
theorem c3 : Try.prog.cellsOf 3 = 1 := by kernel_rfl

section
variable {H : Type} {enc : TypeId × Value → H}
theorem o3 : Opens enc Try.prog 3 (kInt .i64) := (opens_int u3 c3)

theorem contract (W : World) (base : Nat) (args : Array Value) (ds gs : List (DataW H)) (before : List MemPlace)
    (hval : ∀ (j : Nat) t v, Try.f7.params[j]? = some t → args[j]? = some v → Value.okWide Try.prog W .any base t v)
    (hW : DataW.Whole enc Try.prog Try.f7.params.toList Rows.tableNoneSpec.vars false W args.toList ds gs before)
    (hsz : (DataW.weightsEach Try.prog (Try.f7.params.toList ++ Rows.tableNoneSpec.plain.varTypes Try.prog) (ds ++ gs)).all (· ≤ reachBytes) = true) :
    Calls Try.prog 7 args W fun e W' => ∃ v, e = .returned v ∧ Rows.tableNoneSpec.post enc Try.prog Try.f7 false true false false W args v W' := by
  have hW' := hW
  obtain ⟨p, q, hA, hV, rfl, hfz, hnd⟩ := hW
  rw [pt] at hA
  rw [pt] at hsz
  obtain ⟨v0, vs0, d0, ds0, p0, q0, hargs, rfl, rfl, h0, r0⟩ := trodAll_cons hA
  obtain ⟨v1, vs1, d1, ds1, p1, q1, hargs1, rfl, rfl, h1, r1⟩ := trodAll_cons r0
  subst hargs1
  obtain ⟨rfl, rfl, rfl⟩ := trodAll_nil r1
  obtain ⟨rfl, rfl⟩ := trodVars_none hV
  obtain rfl : args = #[v0, v1] := by cases args; simp_all
  have pt' : Try.f7.params = #[3, 3] := by apply Array.ext'; exact pt
  obtain ⟨n0, e0⟩ := okWide_int u3 (hval 0 3 v0 (by rw [pt']; rfl) rfl)
  obtain ⟨s0, l0, y0⟩ := opens_arg1 o3 h0 (wok_each hsz 0 _ _ rfl rfl) (by rw [e0]; rfl)
  have w0 := y0.2
  replace y0 : norm v0 = Value.int .i64 l0 := by have y : [norm v0] = _ := y0.1; simpa using y
  obtain ⟨n1, e1⟩ := okWide_int u3 (hval 1 3 v1 (by rw [pt']; rfl) rfl)
  obtain ⟨s1, l1, y1⟩ := opens_arg1 o3 h1 (wok_each hsz 1 _ _ rfl rfl) (by rw [e1]; rfl)
  have w1 := y1.2
  replace y1 : norm v1 = Value.int .i64 l1 := by have y : [norm v1] = _ := y1.1; simpa using y
  obtain ⟨n, v, H1, h1, hr, _, rfl⟩ := ((l12_TableNone_spec (x := l0) (y := l1)).law (sat0 W)).run
  try simp only [← y0, ← y1] at hr
  exact contract_true tab1_ok laid okp rt ub rfl W (pin_none nopin W) #[v0, v1] [d0, d1] [] _ hW' ⟨rfl, rfl, rfl⟩ (aargs := [norm v0, norm v1]) (VL.cons s0 (VL.cons s1 (VL.nil _))) hr
end

theorem lifted (os : Os) (started : os.Started) (H : Type) (enc : TypeId × Value → H) :
    ReturnsInHanded {} @Try.checked os 7 .any (Rows.tableNoneSpec.pre6 enc Try.prog Try.f7 Rows.tableNoneRow.domain false) (Rows.tableNoneSpec.post enc Try.prog Try.f7 false true false false) := by
  refine returnsInHanded_of_change_sized (C := @Try.checked) own started (by kernel_rfl) @Try.func7
    (ChangeSpec.witness6 (enc := enc) (C := @Try.checked) false ⟨#[], #[.int .i64 0, .int .i64 0], []⟩ 8 (by kernel_rfl) (by kernel_rfl) (by kernel_rfl) (by kernel_rfl)) ?_
  intro W base args ds gs before hval hW _ hsz _
  exact contract W base args ds gs before hval hW hsz

theorem over : Rows.tableNoneRow.holds @Try.pinned (OpenSpec.ofChange Rows.tableNoneSpec) :=
  OpenClaim.holds_of_wide 7 @Try.f7 rfl rfl rfl rfl rfl rfl rfl ⟨rfl, rfl, rfl, rfl, rfl⟩ rfl rfl rfl rfl rfl (by kernel_rfl) @Try.func7 (by kernel_rfl)
    (of_decide_eq_true (by kernel_rfl)) (by unfold Func.isWrapper; first | (rw [if_pos (by decide +kernel)]; kernel_rfl) | (rw [if_neg (by decide +kernel)]; exact ⟨rfl, rfl⟩))
    (fun os started H enc _ => lifted os started H enc)

theorem proved : Rows.TableNoneSaid := over
#print axioms proved
end Go.Proofs.Ytdkgalkdcmajjaa.AmTableNone
