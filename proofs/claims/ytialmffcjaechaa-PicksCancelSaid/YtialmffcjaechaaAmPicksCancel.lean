/- 'coronerlaw09.PicksCancel' is true, for every input. -/
import Derived.Test.YtialmffcjaechaaRows
import Derived.Test.YtialmffcjaechaaPicksLaw3
import Derived.Test.YtialmffcjaechaaAmSortI
import Derived.Test.YtialmffcjaechaaSort
import Derived.Test.YtialmffcjaechaaAmOpenG
import Derived.Test.YtialmffcjaechaaAmClosed
import Derived.WalkKit
import Derived.ProofKit
import Derived.OpenShut
import Derived.JoinedOf
import Derived.Handed
import Derived.SizedLaws
namespace Go.Proofs.Ytialmffcjaechaa.AmPicksCancel
open Go.ChangeShapes Go.WideShapes Go.ChangeAt Go.RowKit Go.AM Go.AM.G
set_option linter.unusedVariables false
set_option linter.unusedSimpArgs false
set_option maxRecDepth 100000

theorem i35 : Is Try.prog 35 Go.AM.G.Pre.clone := by unfold Is; kernel_rfl
theorem i47 : Is Try.prog 47 Go.AM.G.Set.compact := by unfold Is; kernel_rfl
theorem i40 : Is Try.prog 40 (Go.AM.G.Set.setOf 35 46 47) := by unfold Is; kernel_rfl
theorem i42 : Is Try.prog 42 Go.AM.G.Set.setLen := by unfold Is; kernel_rfl
theorem i43 : Is Try.prog 43 (Go.AM.G.Set.setList 35) := by unfold Is; kernel_rfl
theorem i26 : Is Try.prog 26 (Go.AM.G.Picks.newS 35) := by unfold Is; kernel_rfl
theorem i27 : Is Try.prog 27 (Go.AM.G.Picks.step 40 41 31 42 43 44) := by unfold Is; kernel_rfl
theorem i29 : Is Try.prog 29 (Go.AM.G.Picks.steps 41) := by unfold Is; kernel_rfl
theorem i30 : Is Try.prog 30 (Go.AM.G.Picks.used 41) := by unfold Is; kernel_rfl
theorem i31 : Is Try.prog 31 (Go.AM.G.Picks.cancelled 41) := by unfold Is; kernel_rfl
theorem i41 : Is Try.prog 41 Go.AM.G.Picks.isS := by unfold Is; kernel_rfl
theorem i44 : Is Try.prog 44 Go.AM.G.Picks.choice := by unfold Is; kernel_rfl
theorem i25 : Is Try.prog 25 (Go.AM.G.Picks.works 26 27 29 30 31) := by unfold Is; kernel_rfl
theorem i9 : Is Try.prog 9 (Go.AM.G.Picks.cancelLaw 25 26 27 29 30) := by unfold Is; kernel_rfl

def prog0 : AProg := fun k => match k with
  | 35 => some (.code Go.AM.G.Pre.clone)
  | 47 => some (.code Go.AM.G.Set.compact)
  | 40 => some (.code (Go.AM.G.Set.setOf 35 46 47))
  | 42 => some (.code Go.AM.G.Set.setLen)
  | 43 => some (.code (Go.AM.G.Set.setList 35))
  | 26 => some (.code (Go.AM.G.Picks.newS 35))
  | 27 => some (.code (Go.AM.G.Picks.step 40 41 31 42 43 44))
  | 29 => some (.code (Go.AM.G.Picks.steps 41))
  | 30 => some (.code (Go.AM.G.Picks.used 41))
  | 31 => some (.code (Go.AM.G.Picks.cancelled 41))
  | 41 => some (.code Go.AM.G.Picks.isS)
  | 44 => some (.code Go.AM.G.Picks.choice)
  | 25 => some (.code (Go.AM.G.Picks.works 26 27 29 30 31))
  | 46 => some (.oracle sortOI)
  | _ => none

theorem prog0_ok : ProgOk Try.prog prog0 := by
  constructor
  · intro k f h
    unfold prog0 at h
    split at h
    all_goals first | (cases h; done) | skip
    all_goals (simp only [Option.some.injEq, ADef.code.injEq, reduceCtorEq] at h)
    all_goals first | (cases h; done) | subst h
    · exact i35
    · exact i47
    · exact i40
    · exact i42
    · exact i43
    · exact i26
    · exact i27
    · exact i29
    · exact i30
    · exact i31
    · exact i41
    · exact i44
    · exact i25
  · intro k o h
    unfold prog0 at h
    split at h
    all_goals first | (simp only [Option.some.injEq, reduceCtorEq] at h; done) | skip
    all_goals (simp only [Option.some.injEq, ADef.oracle.injEq] at h; subst h)
    · exact sortOI_ok (sort_ok ⟨_, Try.func46, rfl, rfl⟩ Try.slices_Sort_int Try.slices_Sort_int_none)

theorem works_run : (callV prog0 200 (.func 25) [] Heap.empty).map (·.1) = some (.bool true) := by kernel_rfl
theorem works_ok : OracleOk Try.prog 25 (closedO (.bool true)) := by
  obtain ⟨⟨v, h⟩, h1, h2⟩ := Option.map_eq_some_iff.1 works_run
  simp only at h2; subst h2
  exact closed_ok prog0_ok rfl h1

def prog1 : AProg := fun k => match k with
  | 35 => some (.code Go.AM.G.Pre.clone)
  | 47 => some (.code Go.AM.G.Set.compact)
  | 40 => some (.code (Go.AM.G.Set.setOf 35 46 47))
  | 42 => some (.code Go.AM.G.Set.setLen)
  | 43 => some (.code (Go.AM.G.Set.setList 35))
  | 26 => some (.code (Go.AM.G.Picks.newS 35))
  | 27 => some (.code (Go.AM.G.Picks.step 40 41 31 42 43 44))
  | 29 => some (.code (Go.AM.G.Picks.steps 41))
  | 30 => some (.code (Go.AM.G.Picks.used 41))
  | 31 => some (.code (Go.AM.G.Picks.cancelled 41))
  | 41 => some (.code Go.AM.G.Picks.isS)
  | 44 => some (.code Go.AM.G.Picks.choice)
  | 9 => some (.code (Go.AM.G.Picks.cancelLaw 25 26 27 29 30))
  | 46 => some (.oracle sortO)
  | 25 => some (.oracle (closedO (.bool true)))
  | _ => none

theorem prog1_ok : ProgOk Try.prog prog1 := by
  constructor
  · intro k f h
    unfold prog1 at h
    split at h
    all_goals first | (cases h; done) | skip
    all_goals (simp only [Option.some.injEq, ADef.code.injEq, reduceCtorEq] at h)
    all_goals first | (cases h; done) | subst h
    · exact i35
    · exact i47
    · exact i40
    · exact i42
    · exact i43
    · exact i26
    · exact i27
    · exact i29
    · exact i30
    · exact i31
    · exact i41
    · exact i44
    · exact i9
  · intro k o h
    unfold prog1 at h
    split at h
    all_goals first | (simp only [Option.some.injEq, reduceCtorEq] at h; done) | skip
    all_goals (simp only [Option.some.injEq, ADef.oracle.injEq] at h; subst h)
    · exact sort_ok ⟨_, Try.func46, rfl, rfl⟩ Try.slices_Sort_int Try.slices_Sort_int_none
    · exact works_ok

theorem own : ownKnob Try.prog.godebug = none := by kernel_rfl
theorem laid : laidOutB Try.prog = true := by kernel_rfl
theorem okp : (Try.f9.params.toList.all fun t => Try.prog.readableRec t && decide (t < Try.prog.types.size)) = true := by kernel_rfl
theorem rt : Try.f9.resultTypes = #[4] := by kernel_rfl
theorem ub : Try.prog.underlying 4 = some .bool := by kernel_rfl
theorem pt : Try.f9.params.toList = [22, 3, 52] := by kernel_rfl
theorem u22 : Try.prog.underlying 22 = some (.slice 3) := by kernel_rfl
theorem b22 : 0 < Try.prog.bytesOf 22 := of_decide_eq_true (by kernel_rfl)
theorem c22 : Try.prog.cellsOf 22 = 1 := by kernel_rfl
theorem u3 : Try.prog.underlying 3 = some (.int .i64) := by kernel_rfl
theorem b3 : 0 < Try.prog.bytesOf 3 := of_decide_eq_true (by kernel_rfl)
theorem c3 : Try.prog.cellsOf 3 = 1 := by kernel_rfl
theorem u52 : Try.prog.underlying 52 = some (.int .u16) := by kernel_rfl
theorem b52 : 0 < Try.prog.bytesOf 52 := of_decide_eq_true (by kernel_rfl)
theorem c52 : Try.prog.cellsOf 52 = 1 := by kernel_rfl

section
variable {H : Type} {enc : TypeId × Value → H}
theorem o22 : Opens enc Try.prog 22 (kSl (kInt .i64)) := (opens_slice u22 c22 b3 (opens_int u3 c3))
theorem o3 : Opens enc Try.prog 3 (kInt .i64) := (opens_int u3 c3)
theorem o52 : Opens enc Try.prog 52 (kInt .u16) := (opens_int u52 c52)

theorem contract (W : World) (base : Nat) (args : Array Value) (ds gs : List (DataW H)) (before : List MemPlace)
    (hval : ∀ (j : Nat) t v, Try.f9.params[j]? = some t → args[j]? = some v → Value.okWide Try.prog W .any base t v)
    (hW : DataW.Whole enc Try.prog Try.f9.params.toList Rows.picksCancelSpec.vars false W args.toList ds gs before)
    (hsz : (DataW.weightsEach Try.prog (Try.f9.params.toList ++ Rows.picksCancelSpec.plain.varTypes Try.prog) (ds ++ gs)).all (· ≤ reachBytes) = true) :
    Calls Try.prog 9 args W fun e W' => ∃ v, e = .returned v ∧ Rows.picksCancelSpec.post enc Try.prog Try.f9 false true false false W args v W' := by
  have hW' := hW
  obtain ⟨p, q, hA, hV, rfl, hfz, hnd⟩ := hW
  rw [pt] at hA
  rw [pt] at hsz
  obtain ⟨v0, vs0, d0, ds0, p0, q0, hargs, rfl, rfl, h0, r0⟩ := trodAll_cons hA
  obtain ⟨v1, vs1, d1, ds1, p1, q1, hargs1, rfl, rfl, h1, r1⟩ := trodAll_cons r0
  subst hargs1
  obtain ⟨v2, vs2, d2, ds2, p2, q2, hargs2, rfl, rfl, h2, r2⟩ := trodAll_cons r1
  subst hargs2
  obtain ⟨rfl, rfl, rfl⟩ := trodAll_nil r2
  obtain ⟨rfl, rfl⟩ := trodVars_none hV
  obtain rfl : args = #[v0, v1, v2] := by cases args; simp_all
  have pt' : Try.f9.params = #[22, 3, 52] := by apply Array.ext'; exact pt
  obtain ⟨a0, n0, c0, e0⟩ := okWide_slice u22 (hval 0 22 v0 (by rw [pt']; rfl) rfl)
  obtain ⟨s0, l0, y0⟩ := opens_arg1 o22 h0 (wok_each hsz 0 _ _ rfl rfl) (by rw [e0]; rfl)
  obtain ⟨x0, y0, z0, m0⟩ := y0
  obtain rfl : norm v0 = x0 := by simpa using y0
  obtain ⟨n1, e1⟩ := okWide_int u3 (hval 1 3 v1 (by rw [pt']; rfl) rfl)
  obtain ⟨s1, l1, y1⟩ := opens_arg1 o3 h1 (wok_each hsz 1 _ _ rfl rfl) (by rw [e1]; rfl)
  have w1 := y1.2
  replace y1 : norm v1 = Value.int .i64 l1 := by have y : [norm v1] = _ := y1.1; simpa using y
  obtain ⟨n2, e2⟩ := okWide_int u52 (hval 2 52 v2 (by rw [pt']; rfl) rfl)
  obtain ⟨s2, l2, y2⟩ := opens_arg1 o52 h2 (wok_each hsz 2 _ _ rfl rfl) (by rw [e2]; rfl)
  have w2 := y2.2
  replace y2 : norm v2 = Value.int .u16 l2 := by have y : [norm v2] = _ := y2.1; simpa using y
  obtain ⟨n, v, H1, h1, hr, _, rfl⟩ := (AM.G.Picks.cancelLaw_runs (prog := prog1) (fn := 9) rfl rfl rfl rfl rfl rfl rfl rfl rfl rfl rfl rfl rfl rfl rfl z0 w1 w2 (Nat.zero_le _)).run
  try simp only [← y1, ← y2] at hr
  exact contract_true prog1_ok laid okp rt ub rfl W #[v0, v1, v2] [d0, d1, d2] [] _ hW' ⟨rfl, rfl, rfl⟩ (aargs := [norm v0, norm v1, norm v2]) (VL.cons s0 (VL.cons s1 (VL.cons s2 (VL.nil _)))) hr
end

theorem lifted (os : Os) (started : os.Started) (H : Type) (enc : TypeId × Value → H) :
    ReturnsInHanded {} @Try.checked os 9 .any (Rows.picksCancelSpec.pre6 enc Try.prog Try.f9 Rows.picksCancelRow.domain false) (Rows.picksCancelSpec.post enc Try.prog Try.f9 false true false false) := by
  refine returnsInHanded_of_change_sized (C := @Try.checked) own started (by kernel_rfl) @Try.func9
    (ChangeSpec.witness6 (enc := enc) (C := @Try.checked) false ⟨#[], #[.slice none 0 0, .int .i64 0, .int .u16 0], []⟩ 8 (by kernel_rfl) (by kernel_rfl) (by kernel_rfl) (by kernel_rfl)) ?_
  intro W base args ds gs before hval hW _ hsz _
  exact contract W base args ds gs before hval hW hsz

theorem over : Rows.picksCancelRow.holds @Try.pinned (OpenSpec.ofChange Rows.picksCancelSpec) :=
  OpenClaim.holds_of_wide 9 @Try.f9 rfl rfl rfl rfl rfl rfl rfl ⟨rfl, rfl, rfl, rfl, rfl⟩ rfl rfl rfl rfl rfl (by kernel_rfl) @Try.func9 (by kernel_rfl)
    (of_decide_eq_true (by kernel_rfl)) (by unfold Func.isWrapper; first | (rw [if_pos (by decide +kernel)]; kernel_rfl) | (rw [if_neg (by decide +kernel)]; exact ⟨rfl, rfl⟩))
    (fun os started H enc _ => lifted os started H enc)

theorem proved : Rows.PicksCancelSaid := over
#print axioms proved
end Go.Proofs.Ytialmffcjaechaa.AmPicksCancel
