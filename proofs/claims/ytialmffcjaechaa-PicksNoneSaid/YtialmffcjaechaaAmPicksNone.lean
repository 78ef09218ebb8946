/- 'coronerlaw09.PicksNone' is true, for every input. -/
import Derived.Test.YtialmffcjaechaaRows
import Derived.Test.YtialmffcjaechaaPicksLaw4
import Derived.Test.YtialmffcjaechaaAmSortI
import Derived.Test.YtialmffcjaechaaSort
import Derived.Test.YtialmffcjaechaaAmOpenG
import Derived.Test.YtialmffcjaechaaAmClosed
import Derived.WalkKit
import Derived.ProofKit
import Derived.OpenShut
import Derived.JoinedOf
import Derived.Handed
import Derived.SizedLaws
namespace Go.Proofs.Ytialmffcjaechaa.AmPicksNone
open Go.ChangeShapes Go.WideShapes Go.ChangeAt Go.RowKit Go.AM Go.AM.G
set_option linter.unusedVariables false
set_option linter.unusedSimpArgs false
set_option maxRecDepth 100000

theorem i35 : Is Try.prog 35 Go.AM.G.Pre.clone := by unfold Is; kernel_rfl
theorem i47 : Is Try.prog 47 Go.AM.G.Set.compact := by unfold Is; kernel_rfl
theorem i40 : Is Try.prog 40 (Go.AM.G.Set.setOf 35 46 47) := by unfold Is; kernel_rfl
theorem i42 : Is Try.prog 42 Go.AM.G.Set.setLen := by unfold Is; kernel_rfl
theorem i43 : Is Try.prog 43 (Go.AM.G.Set.setList 35) := by unfold Is; kernel_rfl
theorem i26 : Is Try.prog 26 (Go.AM.G.Picks.newS 35) := by unfold Is; kernel_rfl
theorem i27 : Is Try.prog 27 (Go.AM.G.Picks.step 40 41 31 42 43 44) := by unfold Is; kernel_rfl
theorem i29 : Is Try.prog 29 (Go.AM.G.Picks.steps 41) := by unfold Is; kernel_rfl
theorem i30 : Is Try.prog 30 (Go.AM.G.Picks.used 41) := by unfold Is; kernel_rfl
theorem i31 : Is Try.prog 31 (Go.AM.G.Picks.cancelled 41) := by unfold Is; kernel_rfl
theorem i41 : Is Try.prog 41 Go.AM.G.Picks.isS := by unfold Is; kernel_rfl
theorem i44 : Is Try.prog 44 Go.AM.G.Picks.choice := by unfold Is; kernel_rfl
theorem i25 : Is Try.prog 25 (Go.AM.G.Picks.works 26 27 29 30 31) := by unfold Is; kernel_rfl
theorem i34 : Is Try.prog 34 (Go.AM.G.Picks.noneL 27 29 30 31) := by unfold Is; kernel_rfl
theorem i28 : Is Try.prog 28 (Go.AM.G.Picks.rStep 32 45) := by unfold Is; kernel_rfl
theorem i32 : Is Try.prog 32 Go.AM.G.Picks.rCancelled := by unfold Is; kernel_rfl
theorem i33 : Is Try.prog 33 Go.AM.G.Picks.rHas := by unfold Is; kernel_rfl
theorem i45 : Is Try.prog 45 (Go.AM.G.Picks.rOf 33) := by unfold Is; kernel_rfl
theorem i10 : Is Try.prog 10 (Go.AM.G.Picks.noneLaw 25 26 27 28 34) := by unfold Is; kernel_rfl

def prog0 : AProg := fun k => match k with
  | 35 => some (.code Go.AM.G.Pre.clone)
  | 47 => some (.code Go.AM.G.Set.compact)
  | 40 => some (.code (Go.AM.G.Set.setOf 35 46 47))
  | 42 => some (.code Go.AM.G.Set.setLen)
  | 43 => some (.code (Go.AM.G.Set.setList 35))
  | 26 => some (.code (Go.AM.G.Picks.newS 35))
  | 27 => some (.code (Go.AM.G.Picks.step 40 41 31 42 43 44))
  | 29 => some (.code (Go.AM.G.Picks.steps 41))
  | 30 => some (.code (Go.AM.G.Picks.used 41))
  | 31 => some (.code (Go.AM.G.Picks.cancelled 41))
  | 41 => some (.code Go.AM.G.Picks.isS)
  | 44 => some (.code Go.AM.G.Picks.choice)
  | 25 => some (.code (Go.AM.G.Picks.works 26 27 29 30 31))
  | 46 => some (.oracle sortOI)
  | _ => none

theorem prog0_ok : ProgOk Try.prog prog0 := by
  constructor
  · intro k f h
    unfold prog0 at h
    split at h
    all_goals first | (cases h; done) | skip
    all_goals (simp only [Option.some.injEq, ADef.code.injEq, reduceCtorEq] at h)
    all_goals first | (cases h; done) | subst h
    · exact i35
    · exact i47
    · exact i40
    · exact i42
    · exact i43
    · exact i26
    · exact i27
    · exact i29
    · exact i30
    · exact i31
    · exact i41
    · exact i44
    · exact i25
  · intro k o h
    unfold prog0 at h
    split at h
    all_goals first | (simp only [Option.some.injEq, reduceCtorEq] at h; done) | skip
    all_goals (simp only [Option.some.injEq, ADef.oracle.injEq] at h; subst h)
    · exact sortOI_ok (sort_ok ⟨_, Try.func46, rfl, rfl⟩ Try.slices_Sort_int Try.slices_Sort_int_none)

theorem works_run : (callV prog0 200 (.func 25) [] Heap.empty).map (·.1) = some (.bool true) := by kernel_rfl
theorem works_ok : OracleOk Try.prog 25 (closedO (.bool true)) := by
  obtain ⟨⟨v, h⟩, h1, h2⟩ := Option.map_eq_some_iff.1 works_run
  simp only at h2; subst h2
  exact closed_ok prog0_ok rfl h1

def prog1 : AProg := fun k => match k with
  | 35 => some (.code Go.AM.G.Pre.clone)
  | 47 => some (.code Go.AM.G.Set.compact)
  | 40 => some (.code (Go.AM.G.Set.setOf 35 46 47))
  | 42 => some (.code Go.AM.G.Set.setLen)
  | 43 => some (.code (Go.AM.G.Set.setList 35))
  | 26 => some (.code (Go.AM.G.Picks.newS 35))
  | 27 => some (.code (Go.AM.G.Picks.step 40 41 31 42 43 44))
  | 29 => some (.code (Go.AM.G.Picks.steps 41))
  | 30 => some (.code (Go.AM.G.Picks.used 41))
  | 31 => some (.code (Go.AM.G.Picks.cancelled 41))
  | 41 => some (.code Go.AM.G.Picks.isS)
  | 44 => some (.code Go.AM.G.Picks.choice)
  | 34 => some (.code (Go.AM.G.Picks.noneL 27 29 30 31))
  | 28 => some (.code (Go.AM.G.Picks.rStep 32 45))
  | 32 => some (.code Go.AM.G.Picks.rCancelled)
  | 33 => some (.code Go.AM.G.Picks.rHas)
  | 45 => some (.code (Go.AM.G.Picks.rOf 33))
  | 10 => some (.code (Go.AM.G.Picks.noneLaw 25 26 27 28 34))
  | 46 => some (.oracle sortO)
  | 25 => some (.oracle (closedO (.bool true)))
  | _ => none

theorem prog1_ok : ProgOk Try.prog prog1 := by
  constructor
  · intro k f h
    unfold prog1 at h
    split at h
    all_goals first | (cases h; done) | skip
    all_goals (simp only [Option.some.injEq, ADef.code.injEq, reduceCtorEq] at h)
    all_goals first | (cases h; done) | subst h
    · exact i35
    · exact i47
    · exact i40
    · exact i42
    · exact i43
    · exact i26
    · exact i27
    · exact i29
    · exact i30
    · exact i31
    · exact i41
    · exact i44
    · exact i34
    · exact i28
    · exact i32
    · exact i33
    · exact i45
    · exact i10
  · intro k o h
    unfold prog1 at h
    split at h
    all_goals first | (simp only [Option.some.injEq, reduceCtorEq] at h; done) | skip
    all_goals (simp only [Option.some.injEq, ADef.oracle.injEq] at h; subst h)
    · exact sort_ok ⟨_, Try.func46, rfl, rfl⟩ Try.slices_Sort_int Try.slices_Sort_int_none
    · exact works_ok

theorem own : ownKnob Try.prog.godebug = none := by kernel_rfl
theorem laid : laidOutB Try.prog = true := by kernel_rfl
theorem okp : (Try.f10.params.toList.all fun t => Try.prog.readableRec t && decide (t < Try.prog.types.size)) = true := by kernel_rfl
theorem rt : Try.f10.resultTypes = #[4] := by kernel_rfl
theorem ub : Try.prog.underlying 4 = some .bool := by kernel_rfl
theorem pt : Try.f10.params.toList = [22, 22] := by kernel_rfl
theorem u22 : Try.prog.underlying 22 = some (.slice 3) := by kernel_rfl
theorem b22 : 0 < Try.prog.bytesOf 22 := of_decide_eq_true (by kernel_rfl)
theorem c22 : Try.prog.cellsOf 22 = 1 := by kernel_rfl
theorem u3 : Try.prog.underlying 3 = some (.int .i64) := by kernel_rfl
theorem b3 : 0 < Try.prog.bytesOf 3 := of_decide_eq_true (by kernel_rfl)
theorem c3 : Try.prog.cellsOf 3 = 1 := by kernel_rfl

section
variable {H : Type} {enc : TypeId × Value → H}
theorem o22 : Opens enc Try.prog 22 (kSl (kInt .i64)) := (opens_slice u22 c22 b3 (opens_int u3 c3))

theorem contract (W : World) (base : Nat) (args : Array Value) (ds gs : List (DataW H)) (before : List MemPlace)
    (hval : ∀ (j : Nat) t v, Try.f10.params[j]? = some t → args[j]? = some v → Value.okWide Try.prog W .any base t v)
    (hW : DataW.Whole enc Try.prog Try.f10.params.toList Rows.picksNoneSpec.vars false W args.toList ds gs before)
    (hsz : (DataW.weightsEach Try.prog (Try.f10.params.toList ++ Rows.picksNoneSpec.plain.varTypes Try.prog) (ds ++ gs)).all (· ≤ reachBytes) = true) :
    Calls Try.prog 10 args W fun e W' => ∃ v, e = .returned v ∧ Rows.picksNoneSpec.post enc Try.prog Try.f10 false true false false W args v W' := by
  have hW' := hW
  obtain ⟨p, q, hA, hV, rfl, hfz, hnd⟩ := hW
  rw [pt] at hA
  rw [pt] at hsz
  obtain ⟨v0, vs0, d0, ds0, p0, q0, hargs, rfl, rfl, h0, r0⟩ := trodAll_cons hA
  obtain ⟨v1, vs1, d1, ds1, p1, q1, hargs1, rfl, rfl, h1, r1⟩ := trodAll_cons r0
  subst hargs1
  obtain ⟨rfl, rfl, rfl⟩ := trodAll_nil r1
  obtain ⟨rfl, rfl⟩ := trodVars_none hV
  obtain rfl : args = #[v0, v1] := by cases args; simp_all
  have pt' : Try.f10.params = #[22, 22] := by apply Array.ext'; exact pt
  obtain ⟨a0, n0, c0, e0⟩ := okWide_slice u22 (hval 0 22 v0 (by rw [pt']; rfl) rfl)
  obtain ⟨s0, l0, y0⟩ := opens_arg1 o22 h0 (wok_each hsz 0 _ _ rfl rfl) (by rw [e0]; rfl)
  obtain ⟨x0, y0, z0, m0⟩ := y0
  obtain rfl : norm v0 = x0 := by simpa using y0
  obtain ⟨a1, n1, c1, e1⟩ := okWide_slice u22 (hval 1 22 v1 (by rw [pt']; rfl) rfl)
  obtain ⟨s1, l1, y1⟩ := opens_arg1 o22 h1 (wok_each hsz 1 _ _ rfl rfl) (by rw [e1]; rfl)
  obtain ⟨x1, y1, z1, m1⟩ := y1
  obtain rfl : norm v1 = x1 := by simpa using y1
  obtain ⟨n, v, H1, h1, hr, _, rfl⟩ := (AM.G.Picks.noneLaw_runs (prog := prog1) (fn := 10) rfl rfl rfl rfl rfl rfl rfl rfl rfl rfl rfl rfl rfl rfl rfl rfl rfl rfl rfl rfl z0 z1 (Nat.zero_le _)).run
  exact contract_true prog1_ok laid okp rt ub rfl W #[v0, v1] [d0, d1] [] _ hW' ⟨rfl, rfl, rfl⟩ (aargs := [norm v0, norm v1]) (VL.cons s0 (VL.cons s1 (VL.nil _))) hr
end

theorem lifted (os : Os) (started : os.Started) (H : Type) (enc : TypeId × Value → H) :
    ReturnsInHanded {} @Try.checked os 10 .any (Rows.picksNoneSpec.pre6 enc Try.prog Try.f10 Rows.picksNoneRow.domain false) (Rows.picksNoneSpec.post enc Try.prog Try.f10 false true false false) := by
  refine returnsInHanded_of_change_sized (C := @Try.checked) own started (by kernel_rfl) @Try.func10
    (ChangeSpec.witness6 (enc := enc) (C := @Try.checked) false ⟨#[], #[.slice none 0 0, .slice none 0 0], []⟩ 8 (by kernel_rfl) (by kernel_rfl) (by kernel_rfl) (by kernel_rfl)) ?_
  intro W base args ds gs before hval hW _ hsz _
  exact contract W base args ds gs before hval hW hsz

theorem over : Rows.picksNoneRow.holds @Try.pinned (OpenSpec.ofChange Rows.picksNoneSpec) :=
  OpenClaim.holds_of_wide 10 @Try.f10 rfl rfl rfl rfl rfl rfl rfl ⟨rfl, rfl, rfl, rfl, rfl⟩ rfl rfl rfl rfl rfl (by kernel_rfl) @Try.func10 (by kernel_rfl)
    (of_decide_eq_true (by kernel_rfl)) (by unfold Func.isWrapper; first | (rw [if_pos (by decide +kernel)]; kernel_rfl) | (rw [if_neg (by decide +kernel)]; exact ⟨rfl, rfl⟩))
    (fun os started H enc _ => lifted os started H enc)

theorem proved : Rows.PicksNoneSaid := over
#print axioms proved
end Go.Proofs.Ytialmffcjaechaa.AmPicksNone
