/- 'coronerlaw14.DirtyFinds' is true, for every input. -/
import Derived.Test.YtdkgalkdcmajjaaGreatRows
import Derived.Test.YtdkgalkdcmajjaaGreatPart3
import Derived.Test.YtdkgalkdcmajjaaGreatSort
import Derived.Test.YtdkgalkdcmajjaaGreatTxn0
import Derived.Test.YtdkgalkdcmajjaaGreatAmOpenS
import Derived.Test.YtdkgalkdcmajjaaGreatAmSortX
import Derived.Test.YtdkgalkdcmajjaaGreatAmSepO
import Derived.Test.YtdkgalkdcmajjaaGreatAmClosed
import Derived.WalkKit
import Derived.ProofKit
import Derived.OpenShut
import Derived.JoinedOf
import Derived.Handed
import Derived.SizedLaws
namespace Go.Proofs.YtdkgalkdcmajjaaGreat.AmDirtyFinds
open Go.ChangeShapes Go.WideShapes Go.ChangeAt Go.RowKit Go.AM Go.AM.G Go.AMS
set_option linter.unusedVariables false
set_option linter.unusedSimpArgs false
set_option maxRecDepth 100000

theorem i_l14_few:Is Tryz.prog n_l14_few F_l14_few:=by unfold Is;kernel_rfl
theorem i_r14_Aborted:Is Tryz.prog n_r14_Aborted F_r14_Aborted:=by unfold Is;kernel_rfl
theorem i_r14_Torn:Is Tryz.prog n_r14_Torn F_r14_Torn:=by unfold Is;kernel_rfl
theorem i_slices_Clone_int_int:Is Tryz.prog n_slices_Clone_int_int F_slices_Clone_int_int:=by unfold Is;kernel_rfl
theorem i_r03_Few:Is Tryz.prog n_r03_Few F_r03_Few:=by unfold Is;kernel_rfl
theorem i_table_New_c1:Is Tryz.prog n_table_New_c1 F_table_New_c1:=by unfold Is;kernel_rfl
theorem i_sorted_Of_int:Is Tryz.prog n_sorted_Of_int F_sorted_Of_int:=by unfold Is;kernel_rfl
theorem i_r12_Writer:Is Tryz.prog n_r12_Writer F_r12_Writer:=by unfold Is;kernel_rfl
theorem i_r14_of:Is Tryz.prog n_r14_of F_r14_of:=by unfold Is;kernel_rfl
theorem i_r13_All:Is Tryz.prog n_r13_All F_r13_All:=by unfold Is;kernel_rfl
theorem i_r04_mayOp:Is Tryz.prog n_r04_mayOp F_r04_mayOp:=by unfold Is;kernel_rfl
theorem i_table_Table_is:Is Tryz.prog n_table_Table_is F_table_Table_is:=by unfold Is;kernel_rfl
theorem i_encode_parts:Is Tryz.prog n_encode_parts F_encode_parts:=by unfold Is;kernel_rfl
theorem i_cmp_isNaN_int:Is Tryz.prog n_cmp_isNaN_int F_cmp_isNaN_int:=by unfold Is;kernel_rfl
theorem i_table_Table_Keys:Is Tryz.prog n_table_Table_Keys F_table_Table_Keys:=by unfold Is;kernel_rfl
theorem i_r04_number:Is Tryz.prog n_r04_number F_r04_number:=by unfold Is;kernel_rfl
theorem i_encode_mayOp:Is Tryz.prog n_encode_mayOp F_encode_mayOp:=by unfold Is;kernel_rfl
theorem i_r01_Print:Is Tryz.prog n_r01_Print F_r01_Print:=by unfold Is;kernel_rfl
theorem i_encode_line:Is Tryz.prog n_encode_line F_encode_line:=by unfold Is;kernel_rfl
theorem i_reads_unborn:Is Tryz.prog n_reads_unborn F_reads_unborn:=by unfold Is;kernel_rfl
theorem i_digits_Print:Is Tryz.prog n_digits_Print F_digits_Print:=by unfold Is;kernel_rfl
theorem i_digits_text:Is Tryz.prog n_digits_text F_digits_text:=by unfold Is;kernel_rfl
theorem i_l14_DirtyFinds:Is Tryz.prog n_l14_DirtyFinds F_l14_DirtyFinds:=by unfold Is;kernel_rfl
theorem i_r13_SameEdges:Is Tryz.prog n_r13_SameEdges F_r13_SameEdges:=by unfold Is;kernel_rfl
theorem i_l14_works:Is Tryz.prog n_l14_works F_l14_works:=by unfold Is;kernel_rfl
theorem i_dirty_Middle:Is Tryz.prog n_dirty_Middle F_dirty_Middle:=by unfold Is;kernel_rfl
theorem i_r13_SameFindings:Is Tryz.prog n_r13_SameFindings F_r13_SameFindings:=by unfold Is;kernel_rfl
theorem i_r04_Check:Is Tryz.prog n_r04_Check F_r04_Check:=by unfold Is;kernel_rfl
theorem i_encode_Check:Is Tryz.prog n_encode_Check F_encode_Check:=by unfold Is;kernel_rfl
theorem i_cmp_Compare_int:Is Tryz.prog n_cmp_Compare_int F_cmp_Compare_int:=by unfold Is;kernel_rfl
theorem i_sorted_Set_int_List:Is Tryz.prog n_sorted_Set_int_List F_sorted_Set_int_List:=by unfold Is;kernel_rfl
theorem i_table_Table_Appends:Is Tryz.prog n_table_Table_Appends F_table_Table_Appends:=by unfold Is;kernel_rfl
theorem i_r13_SameFinding:Is Tryz.prog n_r13_SameFinding F_r13_SameFinding:=by unfold Is;kernel_rfl
theorem i_r13_Kind:Is Tryz.prog n_r13_Kind F_r13_Kind:=by unfold Is;kernel_rfl
theorem i_r03_Appended:Is Tryz.prog n_r03_Appended F_r03_Appended:=by unfold Is;kernel_rfl
theorem i_r12_IDs:Is Tryz.prog n_r12_IDs F_r12_IDs:=by unfold Is;kernel_rfl
theorem i_slices_BinarySearch_int_int:Is Tryz.prog n_slices_BinarySearch_int_int F_slices_BinarySearch_int_int:=by unfold Is;kernel_rfl
theorem i_encode_text:Is Tryz.prog n_encode_text F_encode_text:=by unfold Is;kernel_rfl
theorem i_table_steps_c1:Is Tryz.prog n_table_steps_c1 F_table_steps_c1:=by unfold Is;kernel_rfl
theorem i_reads_Sound:Is Tryz.prog n_reads_Sound F_reads_Sound:=by unfold Is;kernel_rfl
theorem i_r05_Of:Is Tryz.prog n_r05_Of F_r05_Of:=by unfold Is;kernel_rfl
theorem i_encode_txn:Is Tryz.prog n_encode_txn F_encode_txn:=by unfold Is;kernel_rfl
theorem i_reads_Sound_c1:Is Tryz.prog n_reads_Sound_c1 F_reads_Sound_c1:=by unfold Is;kernel_rfl
theorem i_r05_Has:Is Tryz.prog n_r05_Has F_r05_Has:=by unfold Is;kernel_rfl
theorem i_reads_inner:Is Tryz.prog n_reads_inner F_reads_inner:=by unfold Is;kernel_rfl
theorem i_table_goes_table_Read_c1:Is Tryz.prog n_table_goes_table_Read_c1 F_table_goes_table_Read_c1:=by unfold Is;kernel_rfl
theorem i_table_New:Is Tryz.prog n_table_New F_table_New:=by unfold Is;kernel_rfl
theorem i_r14_Middle:Is Tryz.prog n_r14_Middle F_r14_Middle:=by unfold Is;kernel_rfl
theorem i_dirty_Find:Is Tryz.prog n_dirty_Find F_dirty_Find:=by unfold Is;kernel_rfl
theorem i_table_Table_Writer:Is Tryz.prog n_table_Table_Writer F_table_Table_Writer:=by unfold Is;kernel_rfl
theorem i_slices_Clone_api_Txn_api_Txn:Is Tryz.prog n_slices_Clone_api_Txn_api_Txn F_slices_Clone_api_Txn_api_Txn:=by unfold Is;kernel_rfl
theorem i_table_steps:Is Tryz.prog n_table_steps F_table_steps:=by unfold Is;kernel_rfl
theorem i_reads_Front:Is Tryz.prog n_reads_Front F_reads_Front:=by unfold Is;kernel_rfl
theorem i_r12_Appends:Is Tryz.prog n_r12_Appends F_r12_Appends:=by unfold Is;kernel_rfl
theorem i_dirty_questions:Is Tryz.prog n_dirty_questions F_dirty_questions:=by unfold Is;kernel_rfl
theorem i_r03_Ops:Is Tryz.prog n_r03_Ops F_r03_Ops:=by unfold Is;kernel_rfl
theorem i_r04_earlier:Is Tryz.prog n_r04_earlier F_r04_earlier:=by unfold Is;kernel_rfl
theorem i_r12_txn:Is Tryz.prog n_r12_txn F_r12_txn:=by unfold Is;kernel_rfl
theorem i_dirty_earlier:Is Tryz.prog n_dirty_earlier F_dirty_earlier:=by unfold Is;kernel_rfl
theorem i_cmp_Less_int:Is Tryz.prog n_cmp_Less_int F_cmp_Less_int:=by unfold Is;kernel_rfl
theorem i_table_Table_Reads:Is Tryz.prog n_table_Table_Reads F_table_Table_Reads:=by unfold Is;kernel_rfl
theorem i_slices_ContainsFunc_int_int:Is Tryz.prog n_slices_ContainsFunc_int_int F_slices_ContainsFunc_int_int:=by unfold Is;kernel_rfl
theorem i_table_goes_table_Read:Is Tryz.prog n_table_goes_table_Read F_table_goes_table_Read:=by unfold Is;kernel_rfl
theorem i_sorted_Set_int_Has:Is Tryz.prog n_sorted_Set_int_Has F_sorted_Set_int_Has:=by unfold Is;kernel_rfl
theorem i_sorted_Set_int_place:Is Tryz.prog n_sorted_Set_int_place F_sorted_Set_int_place:=by unfold Is;kernel_rfl
theorem i_dirty_Aborted:Is Tryz.prog n_dirty_Aborted F_dirty_Aborted:=by unfold Is;kernel_rfl
theorem i_dirty_Torn:Is Tryz.prog n_dirty_Torn F_dirty_Torn:=by unfold Is;kernel_rfl
theorem i_r14_Find:Is Tryz.prog n_r14_Find F_r14_Find:=by unfold Is;kernel_rfl
theorem i_r12_Reads:Is Tryz.prog n_r12_Reads F_r12_Reads:=by unfold Is;kernel_rfl
theorem i_table_Table_put:Is Tryz.prog n_table_Table_put F_table_Table_put:=by unfold Is;kernel_rfl
theorem i_r13_Front:Is Tryz.prog n_r13_Front F_r13_Front:=by unfold Is;kernel_rfl
theorem i_dirty_wrong:Is Tryz.prog n_dirty_wrong F_dirty_wrong:=by unfold Is;kernel_rfl
theorem i_dirty_question_first:Is Tryz.prog n_dirty_question_first F_dirty_question_first:=by unfold Is;kernel_rfl
theorem i_r04_may:Is Tryz.prog n_r04_may F_r04_may:=by unfold Is;kernel_rfl
theorem i_r04_Text:Is Tryz.prog n_r04_Text F_r04_Text:=by unfold Is;kernel_rfl
theorem i_r12_ahead:Is Tryz.prog n_r12_ahead F_r12_ahead:=by unfold Is;kernel_rfl
theorem i_history_Ops:Is Tryz.prog n_history_Ops F_history_Ops:=by unfold Is;kernel_rfl
theorem i_slices_Compact_int_int:Is Tryz.prog n_slices_Compact_int_int F_slices_Compact_int_int:=by unfold Is;kernel_rfl
theorem i_r12_Keys:Is Tryz.prog n_r12_Keys F_r12_Keys:=by unfold Is;kernel_rfl
theorem i_slices_isNaN_int:Is Tryz.prog n_slices_isNaN_int F_slices_isNaN_int:=by unfold Is;kernel_rfl
theorem i_encode_may:Is Tryz.prog n_encode_may F_encode_may:=by unfold Is;kernel_rfl
theorem i_reads_Kind:Is Tryz.prog n_reads_Kind F_reads_Kind:=by unfold Is;kernel_rfl
theorem i_encode_may_c1:Is Tryz.prog n_encode_may_c1 F_encode_may_c1:=by unfold Is;kernel_rfl
theorem i_reads_twice:Is Tryz.prog n_reads_twice F_reads_twice:=by unfold Is;kernel_rfl
theorem i_slices_IndexFunc_int_int:Is Tryz.prog n_slices_IndexFunc_int_int F_slices_IndexFunc_int_int:=by unfold Is;kernel_rfl
theorem i_sorted_Set_int_With:Is Tryz.prog n_sorted_Set_int_With F_sorted_Set_int_With:=by unfold Is;kernel_rfl
theorem i_digits_may:Is Tryz.prog n_digits_may F_digits_may:=by unfold Is;kernel_rfl
theorem i_sorted_Set_int_Or:Is Tryz.prog n_sorted_Set_int_Or F_sorted_Set_int_Or:=by unfold Is;kernel_rfl
theorem nopin:noPin Tryz.prog=true:=by kernel_rfl
section
open Go.Shelf Go.RowKit Go.Lib Go.Sort
set_option maxHeartbeats 1000000 in
theorem closureTxn (x y:M3) (W:World):Calls Tryz.prog 48 #[.agg #[.int .i64 x.id,x.a,x.b],.agg #[.int .i64 y.id,y.a,y.b]] W fun e w'=>e=.returned (.int .i64 (Lib.compareInt x.id y.id))∧∃ q os',w'=grow (W.drewN q) os':=by
  have hcon:=fun W'=>AnyG.cmp_Compare_int Tryz.cmpInt x.id y.id W'
  change ∀ W',Calls Tryz.prog 49 _ _ _ at hcon
  generalize Lib.compareInt x.id y.id=r at hcon ⊢
  go_enter Tryz.func48,Tryz.ntmps48
  go_wp2_with (go_at_call 49;refine (hcon _).mono ?_;rintro e w' ⟨rfl,rfl⟩)
  go_ret
  exact ⟨rfl,0,_,by rw [alloc_eq_grow,alloc_eq_grow,grow_grow];rfl⟩
theorem cmpLaysTxn (blk off size:Nat) (w:World):CmpLays Tryz.prog 48 #[] M3.enc 3 M3.cf blk off size w :=
  fun _ _ _ _ x y=>closureTxn x y _
theorem sortTxn_all (blk off cap:Nat) (d:Array M3) (w:World) (hH:HoldsK M3.enc 3 w blk off d) (hblk:blk < w.heap.size) (hsz:d.size < 4611686018427387904) :
    Calls Tryz.prog 47 #[.slice (some ⟨blk,off,none⟩) d.size cap,.func (.func 48) #[] #[]] w fun e w'=>e=.returned (.tuple #[])∧∃ d' n os,PermIn 0 d.size d d'∧SortedIn (ltOf M3.cf) 0 d.size d'∧w'=sortWorldK M3.enc 3 w blk off n d' os:=by
  have eg:∀ args w,(callFunc 48 args).run Tryz.prog w=.ok (.enter 48 args) w:=enters_of Tryz.func48 (by kernel_rfl) rfl
  exact AnyQ.slices_SortFunc Tryz.sortTxn 3 Tryz.isAgg97 Tryz.sizeOf97 M3.enc (fun _=>rfl) (fun x v hv=>by simp [M3.enc] at hv;rcases hv with rfl|rfl|rfl <;> first|rfl|exact x.ha|exact x.hb) M3.cf M3.swo 48 #[] blk off cap d w eg (cmpLaysTxn blk off d.size w) hH hblk hsz
theorem sortTxn_none (p:Option Addr) (cap:Nat) (fv:Value) (w:World):Calls Tryz.prog 47 #[.slice p 0 cap,fv] w fun e w'=>e=.returned (.tuple #[])∧w'=w:=AnyF.slices_SortFunc_none Tryz.sortTxn p cap fv w
end
theorem tab0_ok:ProgOk Tryz.prog (tabP tab0):=by
  refine tab_ok ?_
  unfold tab0
  simp only [List.forall_mem_cons,List.not_mem_nil,false_implies,implies_true,and_true]
  exact ⟨i_l14_works,i_dirty_Find,i_dirty_question_first,i_dirty_earlier,i_reads_Sound,i_reads_Sound_c1,i_reads_Kind,i_reads_inner,i_table_Table_Writer,i_table_Table_is,i_reads_Front,i_slices_Clone_int_int,i_reads_unborn,i_reads_twice,i_sorted_Set_int_With,i_sorted_Set_int_Or,i_cmp_Compare_int,i_cmp_isNaN_int,i_sorted_Of_int,i_slices_Compact_int_int,i_sorted_Set_int_Has,i_sorted_Set_int_place,i_slices_BinarySearch_int_int,i_slices_isNaN_int,i_cmp_Less_int,i_table_Table_Reads,i_table_goes_table_Read,i_table_goes_table_Read_c1,i_table_Table_Keys,i_dirty_questions,i_dirty_Middle,i_table_Table_Appends,i_dirty_Aborted,i_dirty_Torn,i_dirty_wrong,i_table_New,i_sorted_Set_int_List,i_table_Table_put,i_table_steps,i_table_steps_c1,i_table_New_c1,i_slices_Clone_api_Txn_api_Txn,i_encode_Check,i_encode_text,i_encode_txn,i_encode_line,i_digits_Print,i_digits_text,i_digits_may,i_encode_parts,i_encode_mayOp,i_encode_may,i_encode_may_c1,i_slices_ContainsFunc_int_int,i_slices_IndexFunc_int_int,i_history_Ops,sortOI_ok (sort_ok ⟨_,Tryz.func98,rfl,rfl⟩ Tryz.slices_Sort_int Tryz.slices_Sort_int_none),sortX_ok ⟨_,Tryz.func47,rfl,rfl⟩ sortTxn_all sortTxn_none⟩

theorem works_run:(callV (tabP tab0) 200 (.func n_l14_works) [] Heap.empty).map (·.1)=some (.bool true):=by kernel_rfl
theorem works_ok:OracleOk Tryz.prog n_l14_works (closedO (.bool true)):=by
  obtain ⟨⟨v,h⟩,h1,h2⟩:=Option.map_eq_some_iff.1 works_run
  simp only at h2;subst h2
  exact closed_ok tab0_ok rfl h1
theorem tab1_ok:ProgOk Tryz.prog (tabP tab1):=by
  refine tab_ok ?_
  unfold tab1
  simp only [List.forall_mem_cons,List.not_mem_nil,false_implies,implies_true,and_true]
  exact ⟨i_l14_few,i_r14_Aborted,i_r14_Torn,i_slices_Clone_int_int,i_r03_Few,i_sorted_Of_int,i_r12_Writer,i_r14_of,i_r13_All,i_r04_mayOp,i_table_Table_is,i_encode_parts,i_cmp_isNaN_int,i_table_Table_Keys,i_r04_number,i_encode_mayOp,i_r01_Print,i_encode_line,i_reads_unborn,i_digits_Print,i_digits_text,i_l14_DirtyFinds,i_r13_SameEdges,i_dirty_Middle,i_r13_SameFindings,i_r04_Check,i_encode_Check,i_cmp_Compare_int,i_sorted_Set_int_List,i_table_Table_Appends,i_r13_SameFinding,i_r13_Kind,i_r03_Appended,i_r12_IDs,i_slices_BinarySearch_int_int,i_encode_text,i_table_steps_c1,i_reads_Sound,i_r05_Of,i_encode_txn,i_reads_Sound_c1,i_r05_Has,i_reads_inner,i_table_goes_table_Read_c1,i_table_New,i_r14_Middle,i_dirty_Find,i_table_Table_Writer,i_slices_Clone_api_Txn_api_Txn,i_table_steps,i_reads_Front,i_r12_Appends,i_dirty_questions,i_r03_Ops,i_r04_earlier,i_r12_txn,i_dirty_earlier,i_cmp_Less_int,i_table_Table_Reads,i_slices_ContainsFunc_int_int,i_table_goes_table_Read,i_sorted_Set_int_Has,i_sorted_Set_int_place,i_dirty_Aborted,i_dirty_Torn,i_r14_Find,i_r12_Reads,i_table_Table_put,i_r13_Front,i_dirty_wrong,i_dirty_question_first,i_r04_may,i_r04_Text,i_r12_ahead,i_history_Ops,i_slices_Compact_int_int,i_r12_Keys,i_slices_isNaN_int,i_encode_may,i_reads_Kind,i_encode_may_c1,i_reads_twice,i_slices_IndexFunc_int_int,i_sorted_Set_int_With,i_digits_may,i_sorted_Set_int_Or,sort_ok ⟨_,Tryz.func98,rfl,rfl⟩ Tryz.slices_Sort_int Tryz.slices_Sort_int_none,sortX_ok ⟨_,Tryz.func47,rfl,rfl⟩ sortTxn_all sortTxn_none,works_ok⟩

theorem own:ownKnob Tryz.prog.godebug=none:=by kernel_rfl
theorem laid:laidOutB Tryz.prog=true:=by kernel_rfl
theorem okp:(Tryz.f5.params.toList.all fun t=>Tryz.prog.readableRec t && decide (t < Tryz.prog.types.size))=true:=by kernel_rfl
theorem rt:Tryz.f5.resultTypes=#[4]:=by kernel_rfl
theorem ub:Tryz.prog.underlying 4=some .bool:=by kernel_rfl
theorem pt:Tryz.f5.params.toList=[44]:=by kernel_rfl
theorem b44:0 < Tryz.prog.bytesOf 44:=of_decide_eq_true (by kernel_rfl)
theorem c44:Tryz.prog.cellsOf 44=1:=by kernel_rfl
theorem u42:Tryz.prog.underlying 42=some (.slice 97):=by kernel_rfl
theorem b42:0 < Tryz.prog.bytesOf 42:=of_decide_eq_true (by kernel_rfl)
theorem c42:Tryz.prog.cellsOf 42=1:=by kernel_rfl
theorem b97:0 < Tryz.prog.bytesOf 97:=of_decide_eq_true (by kernel_rfl)
theorem c97:Tryz.prog.cellsOf 97=3:=by kernel_rfl
theorem u3:Tryz.prog.underlying 3=some (.int .i64):=by kernel_rfl
theorem b3:0 < Tryz.prog.bytesOf 3:=of_decide_eq_true (by kernel_rfl)
theorem c3:Tryz.prog.cellsOf 3=1:=by kernel_rfl
theorem u4:Tryz.prog.underlying 4=some (.bool):=by kernel_rfl
theorem b4:0 < Tryz.prog.bytesOf 4:=of_decide_eq_true (by kernel_rfl)
theorem c4:Tryz.prog.cellsOf 4=1:=by kernel_rfl
theorem u95:Tryz.prog.underlying 95=some (.slice 94):=by kernel_rfl
theorem b95:0 < Tryz.prog.bytesOf 95:=of_decide_eq_true (by kernel_rfl)
theorem c95:Tryz.prog.cellsOf 95=1:=by kernel_rfl
theorem b94:0 < Tryz.prog.bytesOf 94:=of_decide_eq_true (by kernel_rfl)
theorem c94:Tryz.prog.cellsOf 94=4:=by kernel_rfl
theorem u22:Tryz.prog.underlying 22=some (.slice 3):=by kernel_rfl
theorem b22:0 < Tryz.prog.bytesOf 22:=of_decide_eq_true (by kernel_rfl)
theorem c22:Tryz.prog.cellsOf 22=1:=by kernel_rfl
theorem fHi:fieldsOf Tryz.prog 44=[(42,0)]:=by kernel_rfl
theorem fTx:fieldsOf Tryz.prog 97=[(3,0),(4,1),(95,2)]:=by kernel_rfl
theorem fOp:fieldsOf Tryz.prog 94=[(4,0),(3,1),(3,2),(22,3)]:=by kernel_rfl

section
variable {H:Type} {enc:TypeId × Value→H}
theorem o44:Opens enc Tryz.prog 44 (kSl kHTx):=(opens_struct1 (K:=(kSl kHTx)) fHi c44 (opens_slice u42 c42 b97 (opens_struct3 (K:=kHTx) fTx c97 (opens_int u3 c3) (opens_bool u4 c4) (opens_slice u95 c95 b94 (opens_struct4 (K:=kHOp) fOp c94 (opens_bool u4 c4) (opens_int u3 c3) (opens_int u3 c3) (opens_slice u22 c22 b3 (opens_int u3 c3)) rfl rfl rfl rfl rfl (fun m v0 v1 v2 v3 a0 a1 a2 a3 h0 h1 h2 h3=>⟨⟨a0,a1,a2,a3⟩,v0,v1,v2,v3,rfl,h0,h1,h2,h3⟩))) rfl rfl rfl rfl (fun m v0 v1 v2 a0 a1 a2 h0 h1 h2=>⟨⟨a0,a1,a2⟩,v0,v1,v2,rfl,h0,h1,h2⟩))) rfl rfl (fun m v0 a0 h0=>⟨a0,h0⟩))

theorem contract (W:World) (base:Nat) (args:Array Value) (ds gs:List (DataW H)) (before:List MemPlace)
    (hval:∀ (j:Nat) t v,Tryz.f5.params[j]? = some t→args[j]? = some v→Value.okWide Tryz.prog W .any base t v)
    (hW:DataW.Whole enc Tryz.prog Tryz.f5.params.toList Rows.dirtyFindsSpec.vars false W args.toList ds gs before)
    (hsz:(DataW.weightsEach Tryz.prog (Tryz.f5.params.toList++Rows.dirtyFindsSpec.plain.varTypes Tryz.prog) (ds++gs)).all (·≤reachBytes)=true) :
    Calls Tryz.prog 5 args W fun e W'=>∃ v,e=.returned v∧Rows.dirtyFindsSpec.post enc Tryz.prog Tryz.f5 false true false false W args v W':=by
  have hW':=hW
  obtain ⟨p,q,hA,hV,rfl,hfz,hnd⟩:=hW
  rw [pt] at hA
  rw [pt] at hsz
  obtain ⟨v0,vs0,d0,ds0,p0,q0,hargs,rfl,rfl,h0,r0⟩:=trodAll_cons hA
  obtain ⟨rfl,rfl,rfl⟩:=trodAll_nil r0
  obtain ⟨rfl,rfl⟩:=trodVars_none hV
  obtain rfl:args=#[v0]:=by cases args;simp_all
  have pt':Tryz.f5.params=#[44]:=by apply Array.ext';exact pt
  obtain ⟨fs0,uf0,_⟩:=fields_ex fHi
  obtain ⟨cs0,e0,z0⟩:=okWide_struct uf0 (hval 0 44 v0 (by rw [pt'];rfl) rfl)
  obtain ⟨u0,rfl⟩:∃ u,cs0=#[u]:=by
    rw [c44] at z0
    exact Array.size_eq_one_iff.1 z0
  subst e0
  clear z0
  obtain ⟨t0,ht0⟩:=h0
  obtain ⟨_,s0,l0,y0⟩:=o44.2 W t0 _ _ ht0 (wok_each hsz 0 _ _ rfl rfl)
  replace s0:=s0 u0 (by simp [Value.cells])
  obtain ⟨x0,y0,z0,m0⟩:=y0
  obtain rfl:norm u0=x0:=by simpa [Value.cells] using y0
  obtain ⟨b0,c0,g0⟩:=z0.form
  rw [g0] at z0
  obtain ⟨n,v,H1,h1,hr,_,rfl⟩:=((l14_DirtyFinds_spec (h:=l0)).law (sat_arg (sat0 W) z0)).run
  try simp only [← g0] at hr
  exact contract_true tab1_ok laid okp rt ub rfl W (pin_none nopin W) #[.agg #[u0]] [d0] [] _ hW' ⟨rfl,rfl,rfl⟩ (aargs:=[.agg #[norm u0]]) (VL.cons (V.agg (l:=[norm u0]) (l':=[u0]) rfl (VL.cons s0 (VL.nil _)).2) (VL.nil _)) hr
end

theorem lifted (os:Os) (started:os.Started) (H:Type) (enc:TypeId × Value→H) :
    ReturnsInHanded {} @Tryz.checked os 5 .any (Rows.dirtyFindsSpec.pre6 enc Tryz.prog Tryz.f5 Rows.dirtyFindsRow.domain false) (Rows.dirtyFindsSpec.post enc Tryz.prog Tryz.f5 false true false false):=by
  refine returnsInHanded_of_change_sized (C:=@Tryz.checked) own started (by kernel_rfl) @Tryz.func5
    (ChangeSpec.witness6 (enc:=enc) (C:=@Tryz.checked) false ⟨#[],#[.agg #[.slice none 0 0]],[]⟩ 8 (by kernel_rfl) (by kernel_rfl) (by kernel_rfl) (by kernel_rfl)) ?_
  intro W base args ds gs before hval hW _ hsz _
  exact contract W base args ds gs before hval hW hsz

theorem over:Rows.dirtyFindsRow.holds @Tryz.pinned (OpenSpec.ofChange Rows.dirtyFindsSpec) :=
  OpenClaim.holds_of_wide 5 @Tryz.f5 rfl rfl rfl rfl rfl rfl rfl ⟨rfl,rfl,rfl,rfl,rfl⟩ rfl rfl rfl rfl rfl (by kernel_rfl) @Tryz.func5 (by kernel_rfl)
    (of_decide_eq_true (by kernel_rfl)) (by unfold Func.isWrapper;first|(rw [if_pos (by decide +kernel)];kernel_rfl)|(rw [if_neg (by decide +kernel)];exact ⟨rfl,rfl⟩))
    (fun os started H enc _=>lifted os started H enc)

theorem proved:Rows.DirtyFindsSaid:=over
#print axioms proved
end Go.Proofs.YtdkgalkdcmajjaaGreat.AmDirtyFinds
