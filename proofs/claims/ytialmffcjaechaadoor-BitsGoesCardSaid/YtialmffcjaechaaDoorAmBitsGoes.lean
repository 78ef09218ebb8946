/- 'coronerlaw06.BitsGoes' is true, for every input. -/
import Derived.Test.YtialmffcjaechaaDoorRows
import Derived.Test.YtialmffcjaechaaDoorPart1
import Derived.Test.YtialmffcjaechaaDoorTz
import Derived.Test.YtialmffcjaechaaDoorAmSepO
import Derived.Test.YtialmffcjaechaaDoorAmClosed
import Derived.WalkKit
import Derived.ProofKit
import Derived.OpenShut
import Derived.JoinedOf
import Derived.Handed
import Derived.SizedLaws
import Derived.Test.YtialmffcjaechaaDoorCards
import Derived.Test.YtialmffcjaechaaDoorTie
import Derived.Lib.LaidTab
import Derived.SevenTiedAt
import Derived.LaidLaws
import Derived.LaidHandle
import Derived.ChangeSame
import Derived.ChangeVars
import Derived.RowKitTokens
import Derived.Stop.Joined
namespace Go.Proofs.YtialmffcjaechaaDoor.AmBitsGoes
open Go.ChangeShapes Go.WideShapes Go.ChangeAt Go.RowKit Go.AM Go.AM.G Go.AMS
set_option linter.unusedVariables false
set_option linter.unusedSimpArgs false
set_option maxRecDepth 100000

theorem i_bits_New : Is Tryd.prog n_bits_New F_bits_New := by unfold Is; kernel_rfl
theorem i_bits_Bits_All : Is Tryd.prog n_bits_Bits_All F_bits_Bits_All := by unfold Is; kernel_rfl
theorem i_bits_Bits_Clone : Is Tryd.prog n_bits_Bits_Clone F_bits_Bits_Clone := by unfold Is; kernel_rfl
theorem i_bits_Bits_Same : Is Tryd.prog n_bits_Bits_Same F_bits_Bits_Same := by unfold Is; kernel_rfl
theorem i_bits_Bits_Put : Is Tryd.prog n_bits_Bits_Put F_bits_Bits_Put := by unfold Is; kernel_rfl
theorem i_bits_Bits_Drop : Is Tryd.prog n_bits_Bits_Drop F_bits_Bits_Drop := by unfold Is; kernel_rfl
theorem i_bits_Bits_Room : Is Tryd.prog n_bits_Bits_Room F_bits_Bits_Room := by unfold Is; kernel_rfl
theorem i_bits_Bits_Count : Is Tryd.prog n_bits_Bits_Count F_bits_Bits_Count := by unfold Is; kernel_rfl
theorem i_r06_Set : Is Tryd.prog n_r06_Set F_r06_Set := by unfold Is; kernel_rfl
theorem i_r06_Next : Is Tryd.prog n_r06_Next F_r06_Next := by unfold Is; kernel_rfl
theorem i_bits_Bits_List : Is Tryd.prog n_bits_Bits_List F_bits_Bits_List := by unfold Is; kernel_rfl
theorem i_bits_Full : Is Tryd.prog n_bits_Full F_bits_Full := by unfold Is; kernel_rfl
theorem i_bits_Bits_Next : Is Tryd.prog n_bits_Bits_Next F_bits_Bits_Next := by unfold Is; kernel_rfl
theorem i_bits_Bits_fits : Is Tryd.prog n_bits_Bits_fits F_bits_Bits_fits := by unfold Is; kernel_rfl
theorem i_l06_BitsGoes : Is Tryd.prog n_l06_BitsGoes F_l06_BitsGoes := by unfold Is; kernel_rfl
theorem i_l06_works : Is Tryd.prog n_l06_works F_l06_works := by unfold Is; kernel_rfl
theorem i_r06_New : Is Tryd.prog n_r06_New F_r06_New := by unfold Is; kernel_rfl
theorem i_r01_Same : Is Tryd.prog n_r01_Same F_r01_Same := by unfold Is; kernel_rfl
theorem i_bits_Bits_Or : Is Tryd.prog n_bits_Bits_Or F_bits_Bits_Or := by unfold Is; kernel_rfl
theorem i_bits_Bits_All_c1 : Is Tryd.prog n_bits_Bits_All_c1 F_bits_Bits_All_c1 := by unfold Is; kernel_rfl
theorem gsize : Tryd.prog.globals.size = 1 := by kernel_rfl
theorem pinG : pinned Tryd.prog 0 = true := by kernel_rfl
theorem pin_only (b : Nat) (h : pinned Tryd.prog b = true) : b = 0 := by
  have hlt : b < Tryd.prog.globals.size := by
    rcases Nat.lt_or_ge b Tryd.prog.globals.size with q | q
    · exact q
    · unfold pinned at h; rw [Array.getElem?_eq_none q] at h; cases h
  rw [gsize] at hlt; omega
theorem gN : Tryd.prog.globalNamed "math/bits.deBruijn64tab" = some 0 := by kernel_rfl
theorem gT : (Tryd.prog.globals[0]?).map (·.type) = some 58 := by kernel_rfl
theorem gU : Tryd.prog.underlying 58 = some (.array 64 5) := by kernel_rfl
theorem gE : Tryd.prog.underlying 5 = some (.int .u8) := by kernel_rfl
theorem gCE : Tryd.prog.cellsOf 5 = 1 := by kernel_rfl
theorem gCT : Tryd.prog.cellsOf 58 = 64 := by kernel_rfl
theorem pin_at {W : World} (hL : laidMetH Tryd.prog Rows.bitsGoesRow.laid W) (b : Nat) (hb : pinned Tryd.prog b = true) : TabIn W b := by
  obtain rfl := pin_only b hb
  refine TabIn.of_cells fun j hj => ?_
  have h := (Lib.tabIs_of_head (zs := Lib.deBruijn64tab.map fun n => ((n : Nat) : Int)) gN gT gU gE gCE gCT hL).cell gN j (by rw [List.length_map]; exact hj)
  rw [h, tab_cast]
noncomputable def laidWorld (os : Os) : World :=
  let w0 := World.holding Tryd.prog os ⟨#[], #[], []⟩
  { w0 with heap := w0.heap.modify 0 fun
      | .cells _ t frozen => .cells (Lib.deBruijn64tab.map fun n => Value.int .u8 ((n : Nat) : Int)).toArray t frozen
      | o => o }
theorem laidWorld_met (os : Os) (args : Array Value) : laidMetH Tryd.prog Rows.bitsGoesRow.laid ((laidWorld os).forCall (fun _ _ => 0) ⟨#[], args, []⟩).memory :=
  laidMet_of_run' 8 (by kernel_rfl) (by kernel_rfl)
theorem tab0_ok : ProgOk Tryd.prog (tabP tab0) := by
  refine tab_ok ?_
  unfold tab0
  simp only [List.forall_mem_cons, List.not_mem_nil, false_implies, implies_true, and_true]
  exact ⟨i_l06_works, i_bits_Bits_Same, i_bits_Bits_Next, i_bits_Bits_Room, i_bits_Bits_Clone, i_bits_Bits_Or, i_bits_Bits_Put, i_bits_Bits_fits, i_bits_Bits_All, i_bits_Bits_All_c1, i_bits_New, i_bits_Bits_Count, i_r01_Same, i_bits_Bits_List, i_bits_Bits_Drop, i_bits_Full, tz_ok ⟨_, Tryd.func33, rfl, rfl⟩ pinG (fun x hx w hT => Any7.bits_TrailingZeros64 Tryd.lays29 x hx w hT)⟩

theorem works_run : (callV (tabP tab0) 200 (.func n_l06_works) [] Heap.empty).map (·.1) = some (.bool true) := by kernel_rfl
theorem works_ok : OracleOk Tryd.prog n_l06_works (closedO (.bool true)) := by
  obtain ⟨⟨v, h⟩, h1, h2⟩ := Option.map_eq_some_iff.1 works_run
  simp only at h2; subst h2
  exact closed_ok tab0_ok rfl h1
theorem tab1_ok : ProgOk Tryd.prog (tabP tab1) := by
  refine tab_ok ?_
  unfold tab1
  simp only [List.forall_mem_cons, List.not_mem_nil, false_implies, implies_true, and_true]
  exact ⟨i_bits_New, i_bits_Bits_All, i_bits_Bits_Put, i_bits_Bits_Drop, i_bits_Bits_Room, i_r06_Set, i_r06_Next, i_bits_Bits_Next, i_bits_Bits_fits, i_l06_BitsGoes, i_r06_New, i_r01_Same, i_bits_Bits_All_c1, tz_ok ⟨_, Tryd.func33, rfl, rfl⟩ pinG (fun x hx w hT => Any7.bits_TrailingZeros64 Tryd.lays29 x hx w hT), works_ok⟩

theorem own : ownKnob Tryd.prog.godebug = none := by kernel_rfl
theorem laid : laidOutB Tryd.prog = true := by kernel_rfl
theorem okp : (Tryd.f3.params.toList.all fun t => Tryd.prog.readableRec t && decide (t < Tryd.prog.types.size)) = true := by kernel_rfl
theorem rt : Tryd.f3.resultTypes = #[4] := by kernel_rfl
theorem ub : Tryd.prog.underlying 4 = some .bool := by kernel_rfl
theorem pt : Tryd.f3.params.toList = [3, 22, 3, 3, 3] := by kernel_rfl
theorem u3 : Tryd.prog.underlying 3 = some (.int .i64) := by kernel_rfl
theorem b3 : 0 < Tryd.prog.bytesOf 3 := of_decide_eq_true (by kernel_rfl)
theorem c3 : Tryd.prog.cellsOf 3 = 1 := by kernel_rfl
theorem u22 : Tryd.prog.underlying 22 = some (.slice 3) := by kernel_rfl
theorem b22 : 0 < Tryd.prog.bytesOf 22 := of_decide_eq_true (by kernel_rfl)
theorem c22 : Tryd.prog.cellsOf 22 = 1 := by kernel_rfl

section
variable {H : Type} {enc : TypeId × Value → H}
theorem o3 : Opens enc Tryd.prog 3 (kInt .i64) := (opens_int u3 c3)
theorem o22 : Opens enc Tryd.prog 22 (kSl (kInt .i64)) := (opens_slice u22 c22 b3 (opens_int u3 c3))

theorem contract (W : World) (base : Nat) (hL : laidMetH Tryd.prog Rows.bitsGoesRow.laid W) (args : Array Value) (ds gs : List (DataW H)) (before : List MemPlace)
    (hval : ∀ (j : Nat) t v, Tryd.f3.params[j]? = some t → args[j]? = some v → Value.okWide Tryd.prog W .any base t v)
    (hW : DataW.Whole enc Tryd.prog Tryd.f3.params.toList Rows.bitsGoesSpec.vars false W args.toList ds gs before)
    (hsz : (DataW.weightsEach Tryd.prog (Tryd.f3.params.toList ++ Rows.bitsGoesSpec.plain.varTypes Tryd.prog) (ds ++ gs)).all (· ≤ reachBytes) = true) :
    Calls Tryd.prog 3 args W fun e W' => ∃ v, e = .returned v ∧ Rows.bitsGoesSpec.post enc Tryd.prog Tryd.f3 false true false false W args v W' := by
  have hW' := hW
  obtain ⟨p, q, hA, hV, rfl, hfz, hnd⟩ := hW
  rw [pt] at hA
  rw [pt] at hsz
  obtain ⟨v0, vs0, d0, ds0, p0, q0, hargs, rfl, rfl, h0, r0⟩ := trodAll_cons hA
  obtain ⟨v1, vs1, d1, ds1, p1, q1, hargs1, rfl, rfl, h1, r1⟩ := trodAll_cons r0
  subst hargs1
  obtain ⟨v2, vs2, d2, ds2, p2, q2, hargs2, rfl, rfl, h2, r2⟩ := trodAll_cons r1
  subst hargs2
  obtain ⟨v3, vs3, d3, ds3, p3, q3, hargs3, rfl, rfl, h3, r3⟩ := trodAll_cons r2
  subst hargs3
  obtain ⟨v4, vs4, d4, ds4, p4, q4, hargs4, rfl, rfl, h4, r4⟩ := trodAll_cons r3
  subst hargs4
  obtain ⟨rfl, rfl, rfl⟩ := trodAll_nil r4
  obtain ⟨rfl, rfl⟩ := trodVars_none hV
  obtain rfl : args = #[v0, v1, v2, v3, v4] := by cases args; simp_all
  have pt' : Tryd.f3.params = #[3, 22, 3, 3, 3] := by apply Array.ext'; exact pt
  obtain ⟨n0, e0⟩ := okWide_int u3 (hval 0 3 v0 (by rw [pt']; rfl) rfl)
  obtain ⟨s0, l0, y0⟩ := opens_arg1 o3 h0 (wok_each hsz 0 _ _ rfl rfl) (by rw [e0]; rfl)
  have w0 := y0.2
  replace y0 : norm v0 = Value.int .i64 l0 := by have y : [norm v0] = _ := y0.1; simpa using y
  obtain ⟨a1, n1, cc1, e1⟩ := okWide_slice u22 (hval 1 22 v1 (by rw [pt']; rfl) rfl)
  obtain ⟨s1, l1, y1⟩ := opens_arg1 o22 h1 (wok_each hsz 1 _ _ rfl rfl) (by rw [e1]; rfl)
  obtain ⟨x1, y1, z1, m1⟩ := y1
  obtain rfl : norm v1 = x1 := by simpa using y1
  obtain ⟨b1, c1, g1⟩ := z1.form
  rw [g1] at z1
  obtain ⟨n2, e2⟩ := okWide_int u3 (hval 2 3 v2 (by rw [pt']; rfl) rfl)
  obtain ⟨s2, l2, y2⟩ := opens_arg1 o3 h2 (wok_each hsz 2 _ _ rfl rfl) (by rw [e2]; rfl)
  have w2 := y2.2
  replace y2 : norm v2 = Value.int .i64 l2 := by have y : [norm v2] = _ := y2.1; simpa using y
  obtain ⟨n3, e3⟩ := okWide_int u3 (hval 3 3 v3 (by rw [pt']; rfl) rfl)
  obtain ⟨s3, l3, y3⟩ := opens_arg1 o3 h3 (wok_each hsz 3 _ _ rfl rfl) (by rw [e3]; rfl)
  have w3 := y3.2
  replace y3 : norm v3 = Value.int .i64 l3 := by have y : [norm v3] = _ := y3.1; simpa using y
  obtain ⟨n4, e4⟩ := okWide_int u3 (hval 4 3 v4 (by rw [pt']; rfl) rfl)
  obtain ⟨s4, l4, y4⟩ := opens_arg1 o3 h4 (wok_each hsz 4 _ _ rfl rfl) (by rw [e4]; rfl)
  have w4 := y4.2
  replace y4 : norm v4 = Value.int .i64 l4 := by have y : [norm v4] = _ := y4.1; simpa using y
  obtain ⟨n, v, H1, h1, hr, _, rfl⟩ := ((l06_BitsGoes_spec (z := l0) (l := l1) (a0 := l2) (pu := l3) (dr := l4) w0 w2 w3 w4).law (sat_arg (sat0 W) z1)).run
  try simp only [← y0, ← g1, ← y2, ← y3, ← y4] at hr
  exact contract_true tab1_ok laid okp rt ub rfl W (pin_at hL) #[v0, v1, v2, v3, v4] [d0, d1, d2, d3, d4] [] _ hW' ⟨rfl, rfl, rfl⟩ (aargs := [norm v0, norm v1, norm v2, norm v3, norm v4]) (VL.cons s0 (VL.cons s1 (VL.cons s2 (VL.cons s3 (VL.cons s4 (VL.nil _)))))) hr
end

theorem lifted (os : Os) (started : os.Started) (H : Type) (enc : TypeId × Value → H) :
    ReturnsInHanded {} @Tryd.checked os 3 .any (fun w args => (Rows.bitsGoesSpec.pre enc Tryd.prog Tryd.f3 [] false w args ∧ laidMetH Tryd.prog Rows.bitsGoesRow.laid w) ∧ sizedMet enc Tryd.prog Tryd.f3 (OpenSpec.ofChange Rows.bitsGoesSpec) false w args)
      (Rows.bitsGoesSpec.post enc Tryd.prog Tryd.f3 false true false false) := by
  refine returnsInHanded_of_change_and (C := @Tryd.checked) (X := fun w _ => laidMetH Tryd.prog Rows.bitsGoesRow.laid w) (fun _ _ _ hh h => h.of_heap hh) own started (by kernel_rfl) @Tryd.func3
    (ChangeSpec.witness_at (enc := enc) (C := @Tryd.checked) (os := os) (X := fun w _ => laidMetH Tryd.prog Rows.bitsGoesRow.laid w) false (laidWorld os) #[.int .i64 0, .slice none 0 0, .int .i64 0, .int .i64 0, .int .i64 0] 8 rfl (by kernel_rfl) (by kernel_rfl) (by kernel_rfl) (by kernel_rfl) (by kernel_rfl) (laidWorld_met os _)) ?_
  intro W base args ds gs before hval hW _ hsz hL _
  exact contract W base hL args ds gs before hval hW hsz

theorem over : Rows.bitsGoesRow.holds @Tryd.pinned (OpenSpec.ofChange Rows.bitsGoesSpec) :=
  OpenClaim.holds_of_wide 3 @Tryd.f3 rfl rfl rfl rfl rfl rfl rfl ⟨rfl, rfl, rfl, rfl, rfl⟩ rfl rfl rfl rfl rfl (by kernel_rfl) @Tryd.func3 (by kernel_rfl)
    (of_decide_eq_true (by kernel_rfl)) (by unfold Func.isWrapper; first | (rw [if_pos (by decide +kernel)]; kernel_rfl) | (rw [if_neg (by decide +kernel)]; exact ⟨rfl, rfl⟩))
    (fun os started H enc _ => lifted os started H enc)
theorem fN : Tryd.prog.funcNamed Rows.bitsGoesRow.func = some 3 := by kernel_rfl
theorem noStand : (Tryd.f3.params.toList.all fun t => Tryd.prog.wantsStandIn t == false) = true := by kernel_rfl
theorem proved : Rows.BitsGoesCardSaid :=
  Claim7.holds_tied_plain_at .later [] [.data] true Rows.bitsGoesCard.stood.harness false
    over (fun _ h => by cases h) (by kernel_rfl) (fun _ h => by cases h) bitsGoes_row_tie rfl ⟨rfl, rfl⟩ (by kernel_rfl) rfl
    (fun f fn hf hfn => by
      obtain rfl : f = 3 := Option.some.inj (fN.symm.trans hf) |>.symm
      obtain rfl : fn = @Tryd.f3 := (Option.some.inj ((@Tryd.func3).symm.trans hfn)).symm
      exact ⟨by kernel_rfl, fun j t ht => by
        have h1 := List.all_eq_true.1 noStand t (Array.mem_toList_iff.2 (Array.mem_of_getElem? ht))
        exact beq_iff_eq.1 h1⟩)
    (by kernel_rfl)
#print axioms proved
end Go.Proofs.YtialmffcjaechaaDoor.AmBitsGoes
