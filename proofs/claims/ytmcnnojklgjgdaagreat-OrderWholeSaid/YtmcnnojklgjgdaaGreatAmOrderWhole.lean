/- 'coronerlaw16.OrderWhole' is true, for every input. -/
import Derived.Test.YtmcnnojklgjgdaaGreatRows
import Derived.Test.YtmcnnojklgjgdaaGreatPart3
import Derived.Test.YtmcnnojklgjgdaaGreatSort
import Derived.Test.YtmcnnojklgjgdaaGreatTxn0
import Derived.Test.YtmcnnojklgjgdaaGreatAmOpenS
import Derived.Test.YtmcnnojklgjgdaaGreatAmSortX
import Derived.Test.YtmcnnojklgjgdaaGreatAmSepO
import Derived.Test.YtmcnnojklgjgdaaGreatAmClosed
import Derived.WalkKit
import Derived.ProofKit
import Derived.OpenShut
import Derived.JoinedOf
import Derived.Handed
import Derived.SizedLaws
namespace Go.Proofs.YtmcnnojklgjgdaaGreat.AmOrderWhole
open Go.ChangeShapes Go.WideShapes Go.ChangeAt Go.RowKit Go.AM Go.AM.G Go.AMS
set_option linter.unusedVariables false
set_option linter.unusedSimpArgs false
set_option maxRecDepth 100000

theorem i_order_Of:Is Tryz.prog n_order_Of F_order_Of:=by unfold Is;kernel_rfl
theorem i_order_Next:Is Tryz.prog n_order_Next F_order_Next:=by unfold Is;kernel_rfl
theorem i_order_Find:Is Tryz.prog n_order_Find F_order_Find:=by unfold Is;kernel_rfl
theorem i_r13_Sound:Is Tryz.prog n_r13_Sound F_r13_Sound:=by unfold Is;kernel_rfl
theorem i_reads_Front:Is Tryz.prog n_reads_Front F_reads_Front:=by unfold Is;kernel_rfl
theorem i_r03_Few:Is Tryz.prog n_r03_Few F_r03_Few:=by unfold Is;kernel_rfl
theorem i_slices_Clone_api_Txn_api_Txn:Is Tryz.prog n_slices_Clone_api_Txn_api_Txn F_slices_Clone_api_Txn_api_Txn:=by unfold Is;kernel_rfl
theorem i_table_steps:Is Tryz.prog n_table_steps F_table_steps:=by unfold Is;kernel_rfl
theorem i_prefix_Longest_int:Is Tryz.prog n_prefix_Longest_int F_prefix_Longest_int:=by unfold Is;kernel_rfl
theorem i_table_Table_Writer:Is Tryz.prog n_table_Table_Writer F_table_Table_Writer:=by unfold Is;kernel_rfl
theorem i_r12_txn:Is Tryz.prog n_r12_txn F_r12_txn:=by unfold Is;kernel_rfl
theorem i_reads_unborn:Is Tryz.prog n_reads_unborn F_reads_unborn:=by unfold Is;kernel_rfl
theorem i_r03_Ops:Is Tryz.prog n_r03_Ops F_r03_Ops:=by unfold Is;kernel_rfl
theorem i_r04_earlier:Is Tryz.prog n_r04_earlier F_r04_earlier:=by unfold Is;kernel_rfl
theorem i_encode_text:Is Tryz.prog n_encode_text F_encode_text:=by unfold Is;kernel_rfl
theorem i_table_steps_c1:Is Tryz.prog n_table_steps_c1 F_table_steps_c1:=by unfold Is;kernel_rfl
theorem i_prefix_apart_int:Is Tryz.prog n_prefix_apart_int F_prefix_apart_int:=by unfold Is;kernel_rfl
theorem i_r12_ahead:Is Tryz.prog n_r12_ahead F_r12_ahead:=by unfold Is;kernel_rfl
theorem i_r04_number:Is Tryz.prog n_r04_number F_r04_number:=by unfold Is;kernel_rfl
theorem i_table_goes_table_Write_c1:Is Tryz.prog n_table_goes_table_Write_c1 F_table_goes_table_Write_c1:=by unfold Is;kernel_rfl
theorem i_sorted_Set_int_Or:Is Tryz.prog n_sorted_Set_int_Or F_sorted_Set_int_Or:=by unfold Is;kernel_rfl
theorem i_encode_may_c1:Is Tryz.prog n_encode_may_c1 F_encode_may_c1:=by unfold Is;kernel_rfl
theorem i_l16_few:Is Tryz.prog n_l16_few F_l16_few:=by unfold Is;kernel_rfl
theorem i_r15_Is:Is Tryz.prog n_r15_Is F_r15_Is:=by unfold Is;kernel_rfl
theorem i_reads_Kind:Is Tryz.prog n_reads_Kind F_reads_Kind:=by unfold Is;kernel_rfl
theorem i_r13_Front:Is Tryz.prog n_r13_Front F_r13_Front:=by unfold Is;kernel_rfl
theorem i_r04_Check:Is Tryz.prog n_r04_Check F_r04_Check:=by unfold Is;kernel_rfl
theorem i_table_Table_put:Is Tryz.prog n_table_Table_put F_table_Table_put:=by unfold Is;kernel_rfl
theorem i_table_Table_Writes:Is Tryz.prog n_table_Table_Writes F_table_Table_Writes:=by unfold Is;kernel_rfl
theorem i_slices_Clone_int_int:Is Tryz.prog n_slices_Clone_int_int F_slices_Clone_int_int:=by unfold Is;kernel_rfl
theorem i_r12_Writer:Is Tryz.prog n_r12_Writer F_r12_Writer:=by unfold Is;kernel_rfl
theorem i_r12_Reads:Is Tryz.prog n_r12_Reads F_r12_Reads:=by unfold Is;kernel_rfl
theorem i_reads_inner:Is Tryz.prog n_reads_inner F_reads_inner:=by unfold Is;kernel_rfl
theorem i_r04_may:Is Tryz.prog n_r04_may F_r04_may:=by unfold Is;kernel_rfl
theorem i_r04_Text:Is Tryz.prog n_r04_Text F_r04_Text:=by unfold Is;kernel_rfl
theorem i_table_Table_is:Is Tryz.prog n_table_Table_is F_table_Table_is:=by unfold Is;kernel_rfl
theorem i_sorted_Set_int_Has:Is Tryz.prog n_sorted_Set_int_Has F_sorted_Set_int_Has:=by unfold Is;kernel_rfl
theorem i_encode_may:Is Tryz.prog n_encode_may F_encode_may:=by unfold Is;kernel_rfl
theorem i_table_goes_table_Read_c1:Is Tryz.prog n_table_goes_table_Read_c1 F_table_goes_table_Read_c1:=by unfold Is;kernel_rfl
theorem i_encode_line:Is Tryz.prog n_encode_line F_encode_line:=by unfold Is;kernel_rfl
theorem i_cmp_Less_int:Is Tryz.prog n_cmp_Less_int F_cmp_Less_int:=by unfold Is;kernel_rfl
theorem i_slices_isNaN_int:Is Tryz.prog n_slices_isNaN_int F_slices_isNaN_int:=by unfold Is;kernel_rfl
theorem i_l16_OrderWhole:Is Tryz.prog n_l16_OrderWhole F_l16_OrderWhole:=by unfold Is;kernel_rfl
theorem i_l16_works:Is Tryz.prog n_l16_works F_l16_works:=by unfold Is;kernel_rfl
theorem i_order_Clean:Is Tryz.prog n_order_Clean F_order_Clean:=by unfold Is;kernel_rfl
theorem i_r05_Of:Is Tryz.prog n_r05_Of F_r05_Of:=by unfold Is;kernel_rfl
theorem i_reads_Sound:Is Tryz.prog n_reads_Sound F_reads_Sound:=by unfold Is;kernel_rfl
theorem i_l16_one:Is Tryz.prog n_l16_one F_l16_one:=by unfold Is;kernel_rfl
theorem i_table_New_c1:Is Tryz.prog n_table_New_c1 F_table_New_c1:=by unfold Is;kernel_rfl
theorem i_sorted_Of_int:Is Tryz.prog n_sorted_Of_int F_sorted_Of_int:=by unfold Is;kernel_rfl
theorem i_slices_DeleteFunc_int_int:Is Tryz.prog n_slices_DeleteFunc_int_int F_slices_DeleteFunc_int_int:=by unfold Is;kernel_rfl
theorem i_table_Table_Keys:Is Tryz.prog n_table_Table_Keys F_table_Table_Keys:=by unfold Is;kernel_rfl
theorem i_reads_Sound_c1:Is Tryz.prog n_reads_Sound_c1 F_reads_Sound_c1:=by unfold Is;kernel_rfl
theorem i_r04_mayOp:Is Tryz.prog n_r04_mayOp F_r04_mayOp:=by unfold Is;kernel_rfl
theorem i_history_Ops:Is Tryz.prog n_history_Ops F_history_Ops:=by unfold Is;kernel_rfl
theorem i_slices_Compact_int_int:Is Tryz.prog n_slices_Compact_int_int F_slices_Compact_int_int:=by unfold Is;kernel_rfl
theorem i_table_goes_table_Write:Is Tryz.prog n_table_goes_table_Write F_table_goes_table_Write:=by unfold Is;kernel_rfl
theorem i_sorted_Set_int_With:Is Tryz.prog n_sorted_Set_int_With F_sorted_Set_int_With:=by unfold Is;kernel_rfl
theorem i_encode_mayOp:Is Tryz.prog n_encode_mayOp F_encode_mayOp:=by unfold Is;kernel_rfl
theorem i_r01_Print:Is Tryz.prog n_r01_Print F_r01_Print:=by unfold Is;kernel_rfl
theorem i_slices_BinarySearch_int_int:Is Tryz.prog n_slices_BinarySearch_int_int F_slices_BinarySearch_int_int:=by unfold Is;kernel_rfl
theorem i_digits_may:Is Tryz.prog n_digits_may F_digits_may:=by unfold Is;kernel_rfl
theorem i_table_New:Is Tryz.prog n_table_New F_table_New:=by unfold Is;kernel_rfl
theorem i_r01_Same:Is Tryz.prog n_r01_Same F_r01_Same:=by unfold Is;kernel_rfl
theorem i_r16_Clean:Is Tryz.prog n_r16_Clean F_r16_Clean:=by unfold Is;kernel_rfl
theorem i_r12_Writes:Is Tryz.prog n_r12_Writes F_r12_Writes:=by unfold Is;kernel_rfl
theorem i_r13_Kind:Is Tryz.prog n_r13_Kind F_r13_Kind:=by unfold Is;kernel_rfl
theorem i_encode_Check:Is Tryz.prog n_encode_Check F_encode_Check:=by unfold Is;kernel_rfl
theorem i_cmp_Compare_int:Is Tryz.prog n_cmp_Compare_int F_cmp_Compare_int:=by unfold Is;kernel_rfl
theorem i_sorted_Set_int_List:Is Tryz.prog n_sorted_Set_int_List F_sorted_Set_int_List:=by unfold Is;kernel_rfl
theorem i_r05_Has:Is Tryz.prog n_r05_Has F_r05_Has:=by unfold Is;kernel_rfl
theorem i_order_Clean_c1:Is Tryz.prog n_order_Clean_c1 F_order_Clean_c1:=by unfold Is;kernel_rfl
theorem i_prefix_Common_int:Is Tryz.prog n_prefix_Common_int F_prefix_Common_int:=by unfold Is;kernel_rfl
theorem i_r12_IDs:Is Tryz.prog n_r12_IDs F_r12_IDs:=by unfold Is;kernel_rfl
theorem i_reads_twice:Is Tryz.prog n_reads_twice F_reads_twice:=by unfold Is;kernel_rfl
theorem i_table_Table_Reads:Is Tryz.prog n_table_Table_Reads F_table_Table_Reads:=by unfold Is;kernel_rfl
theorem i_r03_Appended:Is Tryz.prog n_r03_Appended F_r03_Appended:=by unfold Is;kernel_rfl
theorem i_encode_parts:Is Tryz.prog n_encode_parts F_encode_parts:=by unfold Is;kernel_rfl
theorem i_cmp_isNaN_int:Is Tryz.prog n_cmp_isNaN_int F_cmp_isNaN_int:=by unfold Is;kernel_rfl
theorem i_prefix_Fit_int:Is Tryz.prog n_prefix_Fit_int F_prefix_Fit_int:=by unfold Is;kernel_rfl
theorem i_slices_IndexFunc_int_int:Is Tryz.prog n_slices_IndexFunc_int_int F_slices_IndexFunc_int_int:=by unfold Is;kernel_rfl
theorem i_table_goes_table_Read:Is Tryz.prog n_table_goes_table_Read F_table_goes_table_Read:=by unfold Is;kernel_rfl
theorem i_encode_txn:Is Tryz.prog n_encode_txn F_encode_txn:=by unfold Is;kernel_rfl
theorem i_prefix_Is_int:Is Tryz.prog n_prefix_Is_int F_prefix_Is_int:=by unfold Is;kernel_rfl
theorem i_sorted_Set_int_place:Is Tryz.prog n_sorted_Set_int_place F_sorted_Set_int_place:=by unfold Is;kernel_rfl
theorem i_slices_ContainsFunc_int_int:Is Tryz.prog n_slices_ContainsFunc_int_int F_slices_ContainsFunc_int_int:=by unfold Is;kernel_rfl
theorem i_digits_Print:Is Tryz.prog n_digits_Print F_digits_Print:=by unfold Is;kernel_rfl
theorem i_digits_text:Is Tryz.prog n_digits_text F_digits_text:=by unfold Is;kernel_rfl
theorem nopin:noPin Tryz.prog=true:=by kernel_rfl
section
open Go.Shelf Go.RowKit Go.Lib Go.Sort
set_option maxHeartbeats 1000000 in
theorem closureTxn (x y:M3) (W:World):Calls Tryz.prog 42 #[.agg #[.int .i64 x.id,x.a,x.b],.agg #[.int .i64 y.id,y.a,y.b]] W fun e w'=>e=.returned (.int .i64 (Lib.compareInt x.id y.id))∧∃ q os',w'=grow (W.drewN q) os':=by
  have hcon:=fun W'=>AnyG.cmp_Compare_int Tryz.cmpInt x.id y.id W'
  change ∀ W',Calls Tryz.prog 43 _ _ _ at hcon
  generalize Lib.compareInt x.id y.id=r at hcon ⊢
  go_enter Tryz.func42,Tryz.ntmps42
  go_wp2_with (go_at_call 43;refine (hcon _).mono ?_;rintro e w' ⟨rfl,rfl⟩)
  go_ret
  exact ⟨rfl,0,_,by rw [alloc_eq_grow,alloc_eq_grow,grow_grow];rfl⟩
theorem cmpLaysTxn (blk off size:Nat) (w:World):CmpLays Tryz.prog 42 #[] M3.enc 3 M3.cf blk off size w :=
  fun _ _ _ _ x y=>closureTxn x y _
theorem sortTxn_all (blk off cap:Nat) (d:Array M3) (w:World) (hH:HoldsK M3.enc 3 w blk off d) (hblk:blk < w.heap.size) (hsz:d.size < 4611686018427387904) :
    Calls Tryz.prog 41 #[.slice (some ⟨blk,off,none⟩) d.size cap,.func (.func 42) #[] #[]] w fun e w'=>e=.returned (.tuple #[])∧∃ d' n os,PermIn 0 d.size d d'∧SortedIn (ltOf M3.cf) 0 d.size d'∧w'=sortWorldK M3.enc 3 w blk off n d' os:=by
  have eg:∀ args w,(callFunc 42 args).run Tryz.prog w=.ok (.enter 42 args) w:=enters_of Tryz.func42 (by kernel_rfl) rfl
  exact AnyQ.slices_SortFunc Tryz.sortTxn 3 Tryz.isAgg87 Tryz.sizeOf87 M3.enc (fun _=>rfl) (fun x v hv=>by simp [M3.enc] at hv;rcases hv with rfl|rfl|rfl <;> first|rfl|exact x.ha|exact x.hb) M3.cf M3.swo 42 #[] blk off cap d w eg (cmpLaysTxn blk off d.size w) hH hblk hsz
theorem sortTxn_none (p:Option Addr) (cap:Nat) (fv:Value) (w:World):Calls Tryz.prog 41 #[.slice p 0 cap,fv] w fun e w'=>e=.returned (.tuple #[])∧w'=w:=AnyF.slices_SortFunc_none Tryz.sortTxn p cap fv w
end
theorem tab0_ok:ProgOk Tryz.prog (tabP tab0):=by
  refine tab_ok ?_
  unfold tab0
  simp only [List.forall_mem_cons,List.not_mem_nil,false_implies,implies_true,and_true]
  exact ⟨i_l16_works,i_order_Next,i_slices_Clone_int_int,i_r01_Same,i_order_Find,i_prefix_Common_int,i_order_Clean,i_slices_DeleteFunc_int_int,i_slices_IndexFunc_int_int,i_order_Clean_c1,i_table_Table_Writer,i_table_Table_is,i_order_Of,i_table_Table_Writes,i_table_goes_table_Write,i_table_goes_table_Write_c1,i_prefix_Longest_int,i_prefix_apart_int,i_prefix_Fit_int,i_prefix_Is_int,i_reads_Sound,i_reads_Sound_c1,i_reads_Kind,i_reads_inner,i_reads_Front,i_reads_unborn,i_reads_twice,i_sorted_Set_int_With,i_sorted_Set_int_Or,i_cmp_Compare_int,i_cmp_isNaN_int,i_sorted_Of_int,i_slices_Compact_int_int,i_sorted_Set_int_Has,i_sorted_Set_int_place,i_slices_BinarySearch_int_int,i_slices_isNaN_int,i_cmp_Less_int,i_table_Table_Reads,i_table_goes_table_Read,i_table_goes_table_Read_c1,i_table_Table_Keys,i_table_New,i_sorted_Set_int_List,i_table_Table_put,i_table_steps,i_table_steps_c1,i_table_New_c1,i_slices_Clone_api_Txn_api_Txn,i_encode_Check,i_encode_text,i_encode_txn,i_encode_line,i_digits_Print,i_digits_text,i_digits_may,i_encode_parts,i_encode_mayOp,i_encode_may,i_encode_may_c1,i_slices_ContainsFunc_int_int,i_history_Ops,i_l16_one,sortOI_ok (sort_ok ⟨_,Tryz.func85,rfl,rfl⟩ Tryz.slices_Sort_int Tryz.slices_Sort_int_none),sortX_ok ⟨_,Tryz.func41,rfl,rfl⟩ sortTxn_all sortTxn_none⟩

theorem works_run:(callV (tabP tab0) 200 (.func n_l16_works) [] Heap.empty).map (·.1)=some (.bool true):=by kernel_rfl
theorem works_ok:OracleOk Tryz.prog n_l16_works (closedO (.bool true)):=by
  obtain ⟨⟨v,h⟩,h1,h2⟩:=Option.map_eq_some_iff.1 works_run
  simp only at h2;subst h2
  exact closed_ok tab0_ok rfl h1
theorem tab1_ok:ProgOk Tryz.prog (tabP tab1):=by
  refine tab_ok ?_
  unfold tab1
  simp only [List.forall_mem_cons,List.not_mem_nil,false_implies,implies_true,and_true]
  exact ⟨i_order_Of,i_r13_Sound,i_reads_Front,i_r03_Few,i_slices_Clone_api_Txn_api_Txn,i_table_steps,i_prefix_Longest_int,i_table_Table_Writer,i_r12_txn,i_reads_unborn,i_r03_Ops,i_r04_earlier,i_encode_text,i_table_steps_c1,i_prefix_apart_int,i_r12_ahead,i_r04_number,i_table_goes_table_Write_c1,i_sorted_Set_int_Or,i_encode_may_c1,i_l16_few,i_r15_Is,i_reads_Kind,i_r13_Front,i_r04_Check,i_table_Table_put,i_table_Table_Writes,i_slices_Clone_int_int,i_r12_Writer,i_r12_Reads,i_reads_inner,i_r04_may,i_r04_Text,i_table_Table_is,i_sorted_Set_int_Has,i_encode_may,i_table_goes_table_Read_c1,i_encode_line,i_cmp_Less_int,i_slices_isNaN_int,i_l16_OrderWhole,i_order_Clean,i_r05_Of,i_reads_Sound,i_sorted_Of_int,i_slices_DeleteFunc_int_int,i_reads_Sound_c1,i_r04_mayOp,i_history_Ops,i_slices_Compact_int_int,i_table_goes_table_Write,i_sorted_Set_int_With,i_encode_mayOp,i_r01_Print,i_slices_BinarySearch_int_int,i_digits_may,i_table_New,i_r01_Same,i_r16_Clean,i_r12_Writes,i_r13_Kind,i_encode_Check,i_cmp_Compare_int,i_sorted_Set_int_List,i_r05_Has,i_order_Clean_c1,i_prefix_Common_int,i_r12_IDs,i_reads_twice,i_table_Table_Reads,i_r03_Appended,i_encode_parts,i_cmp_isNaN_int,i_prefix_Fit_int,i_slices_IndexFunc_int_int,i_table_goes_table_Read,i_encode_txn,i_prefix_Is_int,i_sorted_Set_int_place,i_slices_ContainsFunc_int_int,i_digits_Print,i_digits_text,sort_ok ⟨_,Tryz.func85,rfl,rfl⟩ Tryz.slices_Sort_int Tryz.slices_Sort_int_none,sortX_ok ⟨_,Tryz.func41,rfl,rfl⟩ sortTxn_all sortTxn_none,works_ok⟩

theorem own:ownKnob Tryz.prog.godebug=none:=by kernel_rfl
theorem laid:laidOutB Tryz.prog=true:=by kernel_rfl
theorem okp:(Tryz.f6.params.toList.all fun t=>Tryz.prog.readableRec t && decide (t < Tryz.prog.types.size))=true:=by kernel_rfl
theorem rt:Tryz.f6.resultTypes=#[4]:=by kernel_rfl
theorem ub:Tryz.prog.underlying 4=some .bool:=by kernel_rfl
theorem pt:Tryz.f6.params.toList=[24,3]:=by kernel_rfl
theorem b24:0 < Tryz.prog.bytesOf 24:=of_decide_eq_true (by kernel_rfl)
theorem c24:Tryz.prog.cellsOf 24=1:=by kernel_rfl
theorem u22:Tryz.prog.underlying 22=some (.slice 87):=by kernel_rfl
theorem b22:0 < Tryz.prog.bytesOf 22:=of_decide_eq_true (by kernel_rfl)
theorem c22:Tryz.prog.cellsOf 22=1:=by kernel_rfl
theorem b87:0 < Tryz.prog.bytesOf 87:=of_decide_eq_true (by kernel_rfl)
theorem c87:Tryz.prog.cellsOf 87=3:=by kernel_rfl
theorem u3:Tryz.prog.underlying 3=some (.int .i64):=by kernel_rfl
theorem b3:0 < Tryz.prog.bytesOf 3:=of_decide_eq_true (by kernel_rfl)
theorem c3:Tryz.prog.cellsOf 3=1:=by kernel_rfl
theorem u4:Tryz.prog.underlying 4=some (.bool):=by kernel_rfl
theorem b4:0 < Tryz.prog.bytesOf 4:=of_decide_eq_true (by kernel_rfl)
theorem c4:Tryz.prog.cellsOf 4=1:=by kernel_rfl
theorem u85:Tryz.prog.underlying 85=some (.slice 95):=by kernel_rfl
theorem b85:0 < Tryz.prog.bytesOf 85:=of_decide_eq_true (by kernel_rfl)
theorem c85:Tryz.prog.cellsOf 85=1:=by kernel_rfl
theorem b95:0 < Tryz.prog.bytesOf 95:=of_decide_eq_true (by kernel_rfl)
theorem c95:Tryz.prog.cellsOf 95=4:=by kernel_rfl
theorem u31:Tryz.prog.underlying 31=some (.slice 3):=by kernel_rfl
theorem b31:0 < Tryz.prog.bytesOf 31:=of_decide_eq_true (by kernel_rfl)
theorem c31:Tryz.prog.cellsOf 31=1:=by kernel_rfl
theorem fHi:fieldsOf Tryz.prog 24=[(22,0)]:=by kernel_rfl
theorem fTx:fieldsOf Tryz.prog 87=[(3,0),(4,1),(85,2)]:=by kernel_rfl
theorem fOp:fieldsOf Tryz.prog 95=[(4,0),(3,1),(3,2),(31,3)]:=by kernel_rfl

section
variable {H:Type} {enc:TypeId × Value→H}
theorem o24:Opens enc Tryz.prog 24 (kSl kHTx):=(opens_struct1 (K:=(kSl kHTx)) fHi c24 (opens_slice u22 c22 b87 (opens_struct3 (K:=kHTx) fTx c87 (opens_int u3 c3) (opens_bool u4 c4) (opens_slice u85 c85 b95 (opens_struct4 (K:=kHOp) fOp c95 (opens_bool u4 c4) (opens_int u3 c3) (opens_int u3 c3) (opens_slice u31 c31 b3 (opens_int u3 c3)) rfl rfl rfl rfl rfl (fun m v0 v1 v2 v3 a0 a1 a2 a3 h0 h1 h2 h3=>⟨⟨a0,a1,a2,a3⟩,v0,v1,v2,v3,rfl,h0,h1,h2,h3⟩))) rfl rfl rfl rfl (fun m v0 v1 v2 a0 a1 a2 h0 h1 h2=>⟨⟨a0,a1,a2⟩,v0,v1,v2,rfl,h0,h1,h2⟩))) rfl rfl (fun m v0 a0 h0=>⟨a0,h0⟩))
theorem o3:Opens enc Tryz.prog 3 (kInt .i64):=(opens_int u3 c3)

theorem contract (W:World) (base:Nat) (args:Array Value) (ds gs:List (DataW H)) (before:List MemPlace)
    (hval:∀ (j:Nat) t v,Tryz.f6.params[j]? = some t→args[j]? = some v→Value.okWide Tryz.prog W .any base t v)
    (hW:DataW.Whole enc Tryz.prog Tryz.f6.params.toList Rows.orderWholeSpec.vars false W args.toList ds gs before)
    (hsz:(DataW.weightsEach Tryz.prog (Tryz.f6.params.toList++Rows.orderWholeSpec.plain.varTypes Tryz.prog) (ds++gs)).all (·≤reachBytes)=true) :
    Calls Tryz.prog 6 args W fun e W'=>∃ v,e=.returned v∧Rows.orderWholeSpec.post enc Tryz.prog Tryz.f6 false true false false W args v W':=by
  have hW':=hW
  obtain ⟨p,q,hA,hV,rfl,hfz,hnd⟩:=hW
  rw [pt] at hA
  rw [pt] at hsz
  obtain ⟨v0,vs0,d0,ds0,p0,q0,hargs,rfl,rfl,h0,r0⟩:=trodAll_cons hA
  obtain ⟨v1,vs1,d1,ds1,p1,q1,hargs1,rfl,rfl,h1,r1⟩:=trodAll_cons r0
  subst hargs1
  obtain ⟨rfl,rfl,rfl⟩:=trodAll_nil r1
  obtain ⟨rfl,rfl⟩:=trodVars_none hV
  obtain rfl:args=#[v0,v1]:=by cases args;simp_all
  have pt':Tryz.f6.params=#[24,3]:=by apply Array.ext';exact pt
  obtain ⟨fs0,uf0,_⟩:=fields_ex fHi
  obtain ⟨cs0,e0,z0⟩:=okWide_struct uf0 (hval 0 24 v0 (by rw [pt'];rfl) rfl)
  obtain ⟨u0,rfl⟩:∃ u,cs0=#[u]:=by
    rw [c24] at z0
    exact Array.size_eq_one_iff.1 z0
  subst e0
  clear z0
  obtain ⟨t0,ht0⟩:=h0
  obtain ⟨_,s0,l0,y0⟩:=o24.2 W t0 _ _ ht0 (wok_each hsz 0 _ _ rfl rfl)
  replace s0:=s0 u0 (by simp [Value.cells])
  obtain ⟨x0,y0,z0,m0⟩:=y0
  obtain rfl:norm u0=x0:=by simpa [Value.cells] using y0
  obtain ⟨b0,c0,g0⟩:=z0.form
  rw [g0] at z0
  obtain ⟨n1,e1⟩:=okWide_int u3 (hval 1 3 v1 (by rw [pt'];rfl) rfl)
  obtain ⟨s1,l1,y1⟩:=opens_arg1 o3 h1 (wok_each hsz 1 _ _ rfl rfl) (by rw [e1];rfl)
  have w1:=y1.2
  replace y1:norm v1=Value.int .i64 l1:=by have y:[norm v1]=_:=y1.1;simpa using y
  obtain ⟨n,v,H1,h1,hr,_,rfl⟩:=((l16_OrderWhole_spec (h:=l0) (key:=l1) w1).law (sat_arg (sat0 W) z0)).run
  try simp only [← g0,← y1] at hr
  exact contract_true tab1_ok laid okp rt ub rfl W (pin_none nopin W) #[.agg #[u0],v1] [d0,d1] [] _ hW' ⟨rfl,rfl,rfl⟩ (aargs:=[.agg #[norm u0],norm v1]) (VL.cons (V.agg (l:=[norm u0]) (l':=[u0]) rfl (VL.cons s0 (VL.nil _)).2) (VL.cons s1 (VL.nil _))) hr
end

theorem lifted (os:Os) (started:os.Started) (H:Type) (enc:TypeId × Value→H) :
    ReturnsInHanded {} @Tryz.checked os 6 .any (Rows.orderWholeSpec.pre6 enc Tryz.prog Tryz.f6 Rows.orderWholeRow.domain false) (Rows.orderWholeSpec.post enc Tryz.prog Tryz.f6 false true false false):=by
  refine returnsInHanded_of_change_sized (C:=@Tryz.checked) own started (by kernel_rfl) @Tryz.func6
    (ChangeSpec.witness6 (enc:=enc) (C:=@Tryz.checked) false ⟨#[],#[.agg #[.slice none 0 0],.int .i64 0],[]⟩ 8 (by kernel_rfl) (by kernel_rfl) (by kernel_rfl) (by kernel_rfl)) ?_
  intro W base args ds gs before hval hW _ hsz _
  exact contract W base args ds gs before hval hW hsz

theorem over:Rows.orderWholeRow.holds @Tryz.pinned (OpenSpec.ofChange Rows.orderWholeSpec) :=
  OpenClaim.holds_of_wide 6 @Tryz.f6 rfl rfl rfl rfl rfl rfl rfl ⟨rfl,rfl,rfl,rfl,rfl⟩ rfl rfl rfl rfl rfl (by kernel_rfl) @Tryz.func6 (by kernel_rfl)
    (of_decide_eq_true (by kernel_rfl)) (by unfold Func.isWrapper;first|(rw [if_pos (by decide +kernel)];kernel_rfl)|(rw [if_neg (by decide +kernel)];exact ⟨rfl,rfl⟩))
    (fun os started H enc _=>lifted os started H enc)

theorem proved:Rows.OrderWholeSaid:=over
#print axioms proved
end Go.Proofs.YtmcnnojklgjgdaaGreat.AmOrderWhole
