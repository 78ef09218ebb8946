/- 'coronerlaw15.PrefixTexts' is true, for every input. -/
import Derived.Test.YtialmffcjaechaaRows
import Derived.Test.YtialmffcjaechaaPre3
import Derived.Test.YtialmffcjaechaaAmOpenG
import Derived.Test.YtialmffcjaechaaAmClosed
import Derived.WalkKit
import Derived.ProofKit
import Derived.OpenShut
import Derived.JoinedOf
import Derived.Handed
import Derived.SizedLaws
namespace Go.Proofs.Ytialmffcjaechaa.AmPrefixTexts
open Go.ChangeShapes Go.WideShapes Go.ChangeAt Go.RowKit Go.AM Go.AM.G
set_option linter.unusedVariables false
set_option maxRecDepth 100000

theorem i12 : Is Try.prog 12 Go.AM.G.Pre.common := by unfold Is; kernel_rfl
theorem i14 : Is Try.prog 14 (Go.AM.G.Pre.isP 12) := by unfold Is; kernel_rfl
theorem i16 : Is Try.prog 16 (Go.AM.G.Pre.fit 14) := by unfold Is; kernel_rfl
theorem i35 : Is Try.prog 35 Go.AM.G.Pre.clone := by unfold Is; kernel_rfl
theorem i36 : Is Try.prog 36 (Go.AM.G.Pre.apart 16) := by unfold Is; kernel_rfl
theorem i19 : Is Try.prog 19 (Go.AM.G.Pre.longest 16 35 36) := by unfold Is; kernel_rfl
theorem i21 : Is Try.prog 21 Go.AM.G.Pre.same := by unfold Is; kernel_rfl
theorem i11 : Is Try.prog 11 (Go.AM.G.Pre.works 19 21 12 14 16) := by unfold Is; kernel_rfl
theorem i24 : Is Try.prog 24 Go.AM.G.Pre.common := by unfold Is; kernel_rfl
theorem i23 : Is Try.prog 23 (Go.AM.G.Pre.isP 24) := by unfold Is; kernel_rfl
theorem i37 : Is Try.prog 37 (Go.AM.G.Pre.fit 23) := by unfold Is; kernel_rfl
theorem i38 : Is Try.prog 38 Go.AM.G.Pre.cloneS := by unfold Is; kernel_rfl
theorem i39 : Is Try.prog 39 (Go.AM.G.Pre.apart 37) := by unfold Is; kernel_rfl
theorem i22 : Is Try.prog 22 (Go.AM.G.Pre.longest 37 38 39) := by unfold Is; kernel_rfl
theorem i6 : Is Try.prog 6 (Go.AM.G.Pre.textsLaw 11 22 23 24) := by unfold Is; kernel_rfl

def prog0 : AProg := fun k => match k with
  | 12 => some (.code Go.AM.G.Pre.common)
  | 14 => some (.code (Go.AM.G.Pre.isP 12))
  | 16 => some (.code (Go.AM.G.Pre.fit 14))
  | 35 => some (.code Go.AM.G.Pre.clone)
  | 36 => some (.code (Go.AM.G.Pre.apart 16))
  | 19 => some (.code (Go.AM.G.Pre.longest 16 35 36))
  | 21 => some (.code Go.AM.G.Pre.same)
  | 11 => some (.code (Go.AM.G.Pre.works 19 21 12 14 16))
  | _ => none

theorem prog0_ok : ProgOk Try.prog prog0 := by
  constructor
  · intro k f h
    unfold prog0 at h
    split at h
    all_goals first | (cases h; done) | skip
    all_goals (simp only [Option.some.injEq, ADef.code.injEq, reduceCtorEq] at h)
    all_goals first | (cases h; done) | subst h
    · exact i12
    · exact i14
    · exact i16
    · exact i35
    · exact i36
    · exact i19
    · exact i21
    · exact i11
  · intro k o h
    unfold prog0 at h
    split at h
    all_goals first | (simp only [Option.some.injEq, reduceCtorEq] at h; done) | skip

theorem works_run : (callV prog0 200 (.func 11) [] Heap.empty).map (·.1) = some (.bool true) := by kernel_rfl
theorem works_ok : OracleOk Try.prog 11 (closedO (.bool true)) := by
  obtain ⟨⟨v, h⟩, h1, h2⟩ := Option.map_eq_some_iff.1 works_run
  simp only at h2; subst h2
  exact closed_ok prog0_ok rfl h1

def prog1 : AProg := fun k => match k with
  | 24 => some (.code Go.AM.G.Pre.common)
  | 23 => some (.code (Go.AM.G.Pre.isP 24))
  | 37 => some (.code (Go.AM.G.Pre.fit 23))
  | 38 => some (.code Go.AM.G.Pre.cloneS)
  | 39 => some (.code (Go.AM.G.Pre.apart 37))
  | 22 => some (.code (Go.AM.G.Pre.longest 37 38 39))
  | 6 => some (.code (Go.AM.G.Pre.textsLaw 11 22 23 24))
  | 11 => some (.oracle (closedO (.bool true)))
  | _ => none

theorem prog1_ok : ProgOk Try.prog prog1 := by
  constructor
  · intro k f h
    unfold prog1 at h
    split at h
    all_goals first | (cases h; done) | skip
    all_goals (simp only [Option.some.injEq, ADef.code.injEq, reduceCtorEq] at h)
    all_goals first | (cases h; done) | subst h
    · exact i24
    · exact i23
    · exact i37
    · exact i38
    · exact i39
    · exact i22
    · exact i6
  · intro k o h
    unfold prog1 at h
    split at h
    all_goals first | (simp only [Option.some.injEq, reduceCtorEq] at h; done) | skip
    all_goals (simp only [Option.some.injEq, ADef.oracle.injEq] at h; subst h)
    · exact works_ok

theorem own : ownKnob Try.prog.godebug = none := by kernel_rfl
theorem laid : laidOutB Try.prog = true := by kernel_rfl
theorem okp : (Try.f6.params.toList.all fun t => Try.prog.readableRec t && decide (t < Try.prog.types.size)) = true := by kernel_rfl
theorem rt : Try.f6.resultTypes = #[4] := by kernel_rfl
theorem ub : Try.prog.underlying 4 = some .bool := by kernel_rfl
theorem pt : Try.f6.params.toList = [30, 31, 5] := by kernel_rfl
theorem u30 : Try.prog.underlying 30 = some (.slice 9) := by kernel_rfl
theorem b30 : 0 < Try.prog.bytesOf 30 := of_decide_eq_true (by kernel_rfl)
theorem c30 : Try.prog.cellsOf 30 = 1 := by kernel_rfl
theorem u9 : Try.prog.underlying 9 = some (.string) := by kernel_rfl
theorem b9 : 0 < Try.prog.bytesOf 9 := of_decide_eq_true (by kernel_rfl)
theorem c9 : Try.prog.cellsOf 9 = 1 := by kernel_rfl
theorem u31 : Try.prog.underlying 31 = some (.slice 5) := by kernel_rfl
theorem b31 : 0 < Try.prog.bytesOf 31 := of_decide_eq_true (by kernel_rfl)
theorem c31 : Try.prog.cellsOf 31 = 1 := by kernel_rfl
theorem u5 : Try.prog.underlying 5 = some (.int .u8) := by kernel_rfl
theorem b5 : 0 < Try.prog.bytesOf 5 := of_decide_eq_true (by kernel_rfl)
theorem c5 : Try.prog.cellsOf 5 = 1 := by kernel_rfl

section
variable {H : Type} {enc : TypeId × Value → H}
theorem o30 : Opens enc Try.prog 30 (kSl kStr) := (opens_slice u30 c30 b9 (opens_str u9 c9))
theorem o31 : Opens enc Try.prog 31 (kSl (kInt .u8)) := (opens_slice u31 c31 b5 (opens_int u5 c5))
theorem o5 : Opens enc Try.prog 5 (kInt .u8) := (opens_int u5 c5)

theorem contract (W : World) (base : Nat) (args : Array Value) (ds gs : List (DataW H)) (before : List MemPlace)
    (hval : ∀ (j : Nat) t v, Try.f6.params[j]? = some t → args[j]? = some v → Value.okWide Try.prog W .any base t v)
    (hW : DataW.Whole enc Try.prog Try.f6.params.toList Rows.prefixTextsSpec.vars false W args.toList ds gs before)
    (hsz : (DataW.weightsEach Try.prog (Try.f6.params.toList ++ Rows.prefixTextsSpec.plain.varTypes Try.prog) (ds ++ gs)).all (· ≤ reachBytes) = true) :
    Calls Try.prog 6 args W fun e W' => ∃ v, e = .returned v ∧ Rows.prefixTextsSpec.post enc Try.prog Try.f6 false true false false W args v W' := by
  have hW' := hW
  obtain ⟨p, q, hA, hV, rfl, hfz, hnd⟩ := hW
  rw [pt] at hA
  rw [pt] at hsz
  obtain ⟨v0, vs0, d0, ds0, p0, q0, hargs, rfl, rfl, h0, r0⟩ := trodAll_cons hA
  obtain ⟨v1, vs1, d1, ds1, p1, q1, hargs1, rfl, rfl, h1, r1⟩ := trodAll_cons r0
  subst hargs1
  obtain ⟨v2, vs2, d2, ds2, p2, q2, hargs2, rfl, rfl, h2, r2⟩ := trodAll_cons r1
  subst hargs2
  obtain ⟨rfl, rfl, rfl⟩ := trodAll_nil r2
  obtain ⟨rfl, rfl⟩ := trodVars_none hV
  obtain rfl : args = #[v0, v1, v2] := by cases args; simp_all
  have pt' : Try.f6.params = #[30, 31, 5] := by apply Array.ext'; exact pt
  obtain ⟨a0, n0, c0, e0⟩ := okWide_slice u30 (hval 0 30 v0 (by rw [pt']; rfl) rfl)
  obtain ⟨s0, l0, y0⟩ := opens_arg1 o30 h0 (wok_each hsz 0 _ _ rfl rfl) (by rw [e0]; rfl)
  obtain ⟨x0, y0, z0, m0⟩ := y0
  obtain rfl : norm v0 = x0 := by simpa using y0
  obtain ⟨a1, n1, c1, e1⟩ := okWide_slice u31 (hval 1 31 v1 (by rw [pt']; rfl) rfl)
  obtain ⟨s1, l1, y1⟩ := opens_arg1 o31 h1 (wok_each hsz 1 _ _ rfl rfl) (by rw [e1]; rfl)
  obtain ⟨x1, y1, z1, m1⟩ := y1
  obtain rfl : norm v1 = x1 := by simpa using y1
  obtain ⟨n2, e2⟩ := okWide_int u5 (hval 2 5 v2 (by rw [pt']; rfl) rfl)
  obtain ⟨s2, l2, y2⟩ := opens_arg1 o5 h2 (wok_each hsz 2 _ _ rfl rfl) (by rw [e2]; rfl)
  have w2 := y2.2
  replace y2 : norm v2 = Value.int .u8 l2 := by have y : [norm v2] = _ := y2.1; simpa using y
  obtain ⟨n, v, H1, h1, hr, _, rfl⟩ := (AM.G.Pre.textsLaw_runs (prog := prog1) (fn := 6) rfl rfl rfl rfl rfl rfl rfl rfl z0 z1 w2 (Nat.zero_le _)).run
  try simp only [← y2] at hr
  exact contract_true prog1_ok laid okp rt ub rfl W #[v0, v1, v2] [d0, d1, d2] [] _ hW' ⟨rfl, rfl, rfl⟩ (aargs := [norm v0, norm v1, norm v2]) (VL.cons s0 (VL.cons s1 (VL.cons s2 (VL.nil _)))) hr
end

theorem lifted (os : Os) (started : os.Started) (H : Type) (enc : TypeId × Value → H) :
    ReturnsInHanded {} @Try.checked os 6 .any (Rows.prefixTextsSpec.pre6 enc Try.prog Try.f6 Rows.prefixTextsRow.domain false) (Rows.prefixTextsSpec.post enc Try.prog Try.f6 false true false false) := by
  refine returnsInHanded_of_change_sized (C := @Try.checked) own started (by kernel_rfl) @Try.func6
    (ChangeSpec.witness6 (enc := enc) (C := @Try.checked) false ⟨#[], #[.slice none 0 0, .slice none 0 0, .int .u8 0], []⟩ 8 (by kernel_rfl) (by kernel_rfl) (by kernel_rfl) (by kernel_rfl)) ?_
  intro W base args ds gs before hval hW _ hsz _
  exact contract W base args ds gs before hval hW hsz

theorem over : Rows.prefixTextsRow.holds @Try.pinned (OpenSpec.ofChange Rows.prefixTextsSpec) :=
  OpenClaim.holds_of_wide 6 @Try.f6 rfl rfl rfl rfl rfl rfl rfl ⟨rfl, rfl, rfl, rfl, rfl⟩ rfl rfl rfl rfl rfl (by kernel_rfl) @Try.func6 (by kernel_rfl)
    (of_decide_eq_true (by kernel_rfl)) (by unfold Func.isWrapper; first | (rw [if_pos (by decide +kernel)]; kernel_rfl) | (rw [if_neg (by decide +kernel)]; exact ⟨rfl, rfl⟩))
    (fun os started H enc _ => lifted os started H enc)

theorem proved : Rows.PrefixTextsSaid := over
#print axioms proved
end Go.Proofs.Ytialmffcjaechaa.AmPrefixTexts
