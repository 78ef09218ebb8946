/- 'coronerlaw15.PrefixAll' is true, for every input. -/
import Derived.Test.YtialmffcjaechaaRows
import Derived.Test.YtialmffcjaechaaPre2
import Derived.Test.YtialmffcjaechaaAmOpenG
import Derived.Test.YtialmffcjaechaaAmClosed
import Derived.WalkKit
import Derived.ProofKit
import Derived.OpenShut
import Derived.JoinedOf
import Derived.Handed
namespace Go.Proofs.Ytialmffcjaechaa.AmPrefixAll
open Go.ChangeShapes Go.WideShapes Go.ChangeAt Go.RowKit Go.AM Go.AM.G
set_option linter.unusedVariables false
set_option maxRecDepth 100000

theorem i12 : Is Try.prog 12 Go.AM.G.Pre.common := by unfold Is; kernel_rfl
theorem i14 : Is Try.prog 14 (Go.AM.G.Pre.isP 12) := by unfold Is; kernel_rfl
theorem i16 : Is Try.prog 16 (Go.AM.G.Pre.fit 14) := by unfold Is; kernel_rfl
theorem i35 : Is Try.prog 35 Go.AM.G.Pre.clone := by unfold Is; kernel_rfl
theorem i36 : Is Try.prog 36 (Go.AM.G.Pre.apart 16) := by unfold Is; kernel_rfl
theorem i19 : Is Try.prog 19 (Go.AM.G.Pre.longest 16 35 36) := by unfold Is; kernel_rfl
theorem i21 : Is Try.prog 21 Go.AM.G.Pre.same := by unfold Is; kernel_rfl
theorem i11 : Is Try.prog 11 (Go.AM.G.Pre.works 19 21 12 14 16) := by unfold Is; kernel_rfl
theorem i15 : Is Try.prog 15 (Go.AM.G.Pre.rIs 21) := by unfold Is; kernel_rfl
theorem i17 : Is Try.prog 17 (Go.AM.G.Pre.rFit 15) := by unfold Is; kernel_rfl
theorem i18 : Is Try.prog 18 Go.AM.G.Pre.few := by unfold Is; kernel_rfl
theorem i5 : Is Try.prog 5 (Go.AM.G.Pre.allLaw 18 11 19 17 15) := by unfold Is; kernel_rfl

def prog0 : AProg := fun k => match k with
  | 12 => some (.code Go.AM.G.Pre.common)
  | 14 => some (.code (Go.AM.G.Pre.isP 12))
  | 16 => some (.code (Go.AM.G.Pre.fit 14))
  | 35 => some (.code Go.AM.G.Pre.clone)
  | 36 => some (.code (Go.AM.G.Pre.apart 16))
  | 19 => some (.code (Go.AM.G.Pre.longest 16 35 36))
  | 21 => some (.code Go.AM.G.Pre.same)
  | 11 => some (.code (Go.AM.G.Pre.works 19 21 12 14 16))
  | _ => none

theorem prog0_ok : ProgOk Try.prog prog0 := by
  constructor
  · intro k f h
    unfold prog0 at h
    split at h
    all_goals first | (cases h; done) | skip
    all_goals (simp only [Option.some.injEq, ADef.code.injEq, reduceCtorEq] at h)
    all_goals first | (cases h; done) | subst h
    · exact i12
    · exact i14
    · exact i16
    · exact i35
    · exact i36
    · exact i19
    · exact i21
    · exact i11
  · intro k o h
    unfold prog0 at h
    split at h
    all_goals first | (simp only [Option.some.injEq, reduceCtorEq] at h; done) | skip

theorem works_run : (callV prog0 200 (.func 11) [] Heap.empty).map (·.1) = some (.bool true) := by kernel_rfl
theorem works_ok : OracleOk Try.prog 11 (closedO (.bool true)) := by
  obtain ⟨⟨v, h⟩, h1, h2⟩ := Option.map_eq_some_iff.1 works_run
  simp only at h2; subst h2
  exact closed_ok prog0_ok rfl h1

def prog1 : AProg := fun k => match k with
  | 12 => some (.code Go.AM.G.Pre.common)
  | 14 => some (.code (Go.AM.G.Pre.isP 12))
  | 16 => some (.code (Go.AM.G.Pre.fit 14))
  | 35 => some (.code Go.AM.G.Pre.clone)
  | 36 => some (.code (Go.AM.G.Pre.apart 16))
  | 19 => some (.code (Go.AM.G.Pre.longest 16 35 36))
  | 21 => some (.code Go.AM.G.Pre.same)
  | 15 => some (.code (Go.AM.G.Pre.rIs 21))
  | 17 => some (.code (Go.AM.G.Pre.rFit 15))
  | 18 => some (.code Go.AM.G.Pre.few)
  | 5 => some (.code (Go.AM.G.Pre.allLaw 18 11 19 17 15))
  | 11 => some (.oracle (closedO (.bool true)))
  | _ => none

theorem prog1_ok : ProgOk Try.prog prog1 := by
  constructor
  · intro k f h
    unfold prog1 at h
    split at h
    all_goals first | (cases h; done) | skip
    all_goals (simp only [Option.some.injEq, ADef.code.injEq, reduceCtorEq] at h)
    all_goals first | (cases h; done) | subst h
    · exact i12
    · exact i14
    · exact i16
    · exact i35
    · exact i36
    · exact i19
    · exact i21
    · exact i15
    · exact i17
    · exact i18
    · exact i5
  · intro k o h
    unfold prog1 at h
    split at h
    all_goals first | (simp only [Option.some.injEq, reduceCtorEq] at h; done) | skip
    all_goals (simp only [Option.some.injEq, ADef.oracle.injEq] at h; subst h)
    · exact works_ok

theorem own : ownKnob Try.prog.godebug = none := by kernel_rfl
theorem laid : laidOutB Try.prog = true := by kernel_rfl
theorem okp : (Try.f5.params.toList.all fun t => Try.prog.readableRec t && decide (t < Try.prog.types.size)) = true := by kernel_rfl
theorem rt : Try.f5.resultTypes = #[4] := by kernel_rfl
theorem ub : Try.prog.underlying 4 = some .bool := by kernel_rfl
theorem pt : Try.f5.params.toList = [26] := by kernel_rfl
theorem u26 : Try.prog.underlying 26 = some (.slice 22) := by kernel_rfl
theorem c26 : Try.prog.cellsOf 26 = 1 := by kernel_rfl
theorem u22 : Try.prog.underlying 22 = some (.slice 3) := by kernel_rfl
theorem c22 : Try.prog.cellsOf 22 = 1 := by kernel_rfl
theorem u3 : Try.prog.underlying 3 = some (.int .i64) := by kernel_rfl
theorem c3 : Try.prog.cellsOf 3 = 1 := by kernel_rfl

section
variable {H : Type} {enc : TypeId × Value → H}
theorem o26 : Opens enc Try.prog 26 (kSl (kSl (kInt .i64))) := (opens_slice u26 c26 (opens_slice u22 c22 (opens_int u3 c3)))

theorem contract (W : World) (base : Nat) (args : Array Value) (ds gs : List (DataW H)) (before : List MemPlace)
    (hval : ∀ (j : Nat) t v, Try.f5.params[j]? = some t → args[j]? = some v → Value.okWide Try.prog W .any base t v)
    (hW : DataW.Whole enc Try.prog Try.f5.params.toList Rows.prefixAllSpec.vars false W args.toList ds gs before) :
    Calls Try.prog 5 args W fun e W' => ∃ v, e = .returned v ∧ Rows.prefixAllSpec.post enc Try.prog Try.f5 false true false false W args v W' := by
  have hW' := hW
  obtain ⟨p, q, hA, hV, rfl, hfz, hnd⟩ := hW
  rw [pt] at hA
  obtain ⟨v0, vs0, d0, ds0, p0, q0, hargs, rfl, rfl, h0, r0⟩ := trodAll_cons hA
  obtain ⟨rfl, rfl, rfl⟩ := trodAll_nil r0
  obtain ⟨rfl, rfl⟩ := trodVars_none hV
  obtain rfl : args = #[v0] := by cases args; simp_all
  have pt' : Try.f5.params = #[26] := by apply Array.ext'; exact pt
  obtain ⟨a0, n0, c0, e0⟩ := okWide_slice u26 (hval 0 26 v0 (by rw [pt']; rfl) rfl)
  obtain ⟨s0, l0, y0⟩ := opens_arg1 o26 h0 (by rw [e0]; rfl)
  obtain ⟨x0, y0, z0, m0⟩ := y0
  obtain rfl : norm v0 = x0 := by simpa using y0
  obtain ⟨n, v, H1, h1, hr, _, rfl⟩ := (AM.G.Pre.allLaw_runs (prog := prog1) (fn := 5) rfl rfl rfl rfl rfl rfl rfl rfl rfl rfl rfl rfl z0 (Nat.zero_le _)).run
  exact contract_true prog1_ok laid okp rt ub rfl W #[v0] [d0] [] _ hW' ⟨rfl, rfl, rfl⟩ (aargs := [norm v0]) (VL.cons s0 (VL.nil _)) hr
end

theorem lifted (os : Os) (started : os.Started) (H : Type) (enc : TypeId × Value → H) :
    ReturnsInHanded {} @Try.checked os 5 .any (Rows.prefixAllSpec.pre6 enc Try.prog Try.f5 Rows.prefixAllRow.domain false) (Rows.prefixAllSpec.post enc Try.prog Try.f5 false true false false) := by
  refine returnsInHanded_of_change (C := @Try.checked) own started (by kernel_rfl) @Try.func5
    (ChangeSpec.witness6 (enc := enc) (C := @Try.checked) false ⟨#[], #[.slice none 0 0], []⟩ 8 (by kernel_rfl) (by kernel_rfl) (by kernel_rfl) (by kernel_rfl)) ?_
  intro W base args ds gs before hval hW _ _
  exact contract W base args ds gs before hval hW

theorem over : Rows.prefixAllRow.holds @Try.pinned (OpenSpec.ofChange Rows.prefixAllSpec) :=
  OpenClaim.holds_of_wide 5 @Try.f5 rfl rfl rfl rfl rfl rfl rfl ⟨rfl, rfl, rfl, rfl, rfl⟩ rfl rfl rfl rfl rfl (by kernel_rfl) @Try.func5 (by kernel_rfl)
    (of_decide_eq_true (by kernel_rfl)) (by unfold Func.isWrapper; first | (rw [if_pos (by decide +kernel)]; kernel_rfl) | (rw [if_neg (by decide +kernel)]; exact ⟨rfl, rfl⟩))
    (fun os started H enc _ => lifted os started H enc)

theorem proved : Rows.PrefixAllSaid := over
#print axioms proved
end Go.Proofs.Ytialmffcjaechaa.AmPrefixAll
