/-
  No cell of these rows narrows 'for every input' (looked for: loops, veiled, ifaces, maps, wideKeys, modest, calm, conditions, laid).
  DERIVED. THE GIVEN ROWS OF THIS SEAT. 6 by the template 'for every input the law returns true; each argument reads behind the call as it read before'; 0 by the template 'total and deterministic' (their statements: YtenihfdlckgmmaaGreatTotals.lean).
  GIVEN WITH THE SEED: the statements are not yours to turn. If you find one false, say at which input.
  Laid BY PROGRAM, IN A SANDBOX (cutbox-rows.mjs): the forced cells as the released guide's own fill.sh prints them over the translation c8f20200c02db06b… (all of the seat's roots in one cut). By AI agents, Wed Nov 11 2026. No macro, syntax, notation, axiom, sorry.
-/
import Derived.Test.YtenihfdlckgmmaaGreatChecked
import GoSem.Claim
import GoSem.ClaimJoined
import GoSem.ClaimMapViews
import Derived.JoinedTies
import Derived.KernelRfl
namespace Go.Proofs.YtenihfdlckgmmaaGreat
/- THE CELL 'sum', in the pinned program and in every row, IS THE sha256 OF THE DUMP (.gsa) THAT YtenihfdlckgmmaaGreatProg.lean LOADS. Nothing in Lean hashes anything: it is a label: what it is worth is what the hold of that sum in a sandbox is worth. -/
noncomputable def Tryz.pinned : Pinned := { name := "ytenihfdlckgmmaagreat", sum := "c8f20200c02db06b23a9b82cee47d11ae43a50f612a37ef503d6485ba6098539", checked := Tryz.checked }
namespace Rows
def none {H : Type} : Left H := { results := [], args := [] }

/-- 'coronerlaw17.EdgesSorts': WHATEVER THE INPUT: true; the input reads as it did. -/
def edgesSortsSpec : ChangeSpec := { name := "edgesSorts", fn := fun _ => fun
  | [d1, d2, d3] => { results := [.lit (.bool true)], args := [d1, d2, d3] }
  | _ => none }
def edgesSortsRow : OpenClaim := { program := "ytenihfdlckgmmaagreat", sum := "c8f20200c02db06b23a9b82cee47d11ae43a50f612a37ef503d6485ba6098539", func := "coroner/coronerlaw17.EdgesSorts", spec := "edgesSorts", unfollowed := true, recurses := true, plainKeys := false, apart := false }
def EdgesSortsSaid : Prop := edgesSortsRow.holds Tryz.pinned (OpenSpec.ofChange edgesSortsSpec)

/-- ITS FALSE NEIGHBOUR: 'it returns false'. Refute it at one input. -/
def edgesSortsWrong : ChangeSpec := { name := "edgesSorts", fn := fun _ => fun
  | [d1, d2, d3] => { results := [.lit (.bool false)], args := [d1, d2, d3] }
  | _ => none }
def EdgesSortsWrongFalsely : Prop := edgesSortsRow.holds Tryz.pinned (OpenSpec.ofChange edgesSortsWrong)

/-- 'coronerlaw17.EdgesOf': WHATEVER THE INPUT: true; the input reads as it did. -/
def edgesOfSpec : ChangeSpec := { name := "edgesOf", fn := fun _ => fun
  | [d1, d2] => { results := [.lit (.bool true)], args := [d1, d2] }
  | _ => none }
def edgesOfRow : OpenClaim := { program := "ytenihfdlckgmmaagreat", sum := "c8f20200c02db06b23a9b82cee47d11ae43a50f612a37ef503d6485ba6098539", func := "coroner/coronerlaw17.EdgesOf", spec := "edgesOf", unfollowed := true, recurses := true, plainKeys := false, apart := false }
def EdgesOfSaid : Prop := edgesOfRow.holds Tryz.pinned (OpenSpec.ofChange edgesOfSpec)

/-- ITS FALSE NEIGHBOUR: 'it returns false'. Refute it at one input. -/
def edgesOfWrong : ChangeSpec := { name := "edgesOf", fn := fun _ => fun
  | [d1, d2] => { results := [.lit (.bool false)], args := [d1, d2] }
  | _ => none }
def EdgesOfWrongFalsely : Prop := edgesOfRow.holds Tryz.pinned (OpenSpec.ofChange edgesOfWrong)

/-- 'coronerlaw17.EdgesNamed': WHATEVER THE INPUT: true; the input reads as it did. -/
def edgesNamedSpec : ChangeSpec := { name := "edgesNamed", fn := fun _ => fun
  | [d1, d2] => { results := [.lit (.bool true)], args := [d1, d2] }
  | _ => none }
def edgesNamedRow : OpenClaim := { program := "ytenihfdlckgmmaagreat", sum := "c8f20200c02db06b23a9b82cee47d11ae43a50f612a37ef503d6485ba6098539", func := "coroner/coronerlaw17.EdgesNamed", spec := "edgesNamed", unfollowed := true, recurses := true, plainKeys := false, apart := false }
def EdgesNamedSaid : Prop := edgesNamedRow.holds Tryz.pinned (OpenSpec.ofChange edgesNamedSpec)

/-- ITS FALSE NEIGHBOUR: 'it returns false'. Refute it at one input. -/
def edgesNamedWrong : ChangeSpec := { name := "edgesNamed", fn := fun _ => fun
  | [d1, d2] => { results := [.lit (.bool false)], args := [d1, d2] }
  | _ => none }
def EdgesNamedWrongFalsely : Prop := edgesNamedRow.holds Tryz.pinned (OpenSpec.ofChange edgesNamedWrong)

/-- 'coronerlaw33.JudgeEdges': WHATEVER THE INPUT: true; the input reads as it did. -/
def judgeEdgesSpec : ChangeSpec := { name := "judgeEdges", fn := fun _ => fun
  | [d1, d2] => { results := [.lit (.bool true)], args := [d1, d2] }
  | _ => none }
def judgeEdgesRow : OpenClaim := { program := "ytenihfdlckgmmaagreat", sum := "c8f20200c02db06b23a9b82cee47d11ae43a50f612a37ef503d6485ba6098539", func := "coroner/coronerlaw33.JudgeEdges", spec := "judgeEdges", unfollowed := true, recurses := true, plainKeys := false, apart := false }
def JudgeEdgesSaid : Prop := judgeEdgesRow.holds Tryz.pinned (OpenSpec.ofChange judgeEdgesSpec)

/-- ITS FALSE NEIGHBOUR: 'it returns false'. Refute it at one input. -/
def judgeEdgesWrong : ChangeSpec := { name := "judgeEdges", fn := fun _ => fun
  | [d1, d2] => { results := [.lit (.bool false)], args := [d1, d2] }
  | _ => none }
def JudgeEdgesWrongFalsely : Prop := judgeEdgesRow.holds Tryz.pinned (OpenSpec.ofChange judgeEdgesWrong)

/-- 'coronerlaw33.JudgeCycles': WHATEVER THE INPUT: true; the input reads as it did. -/
def judgeCyclesSpec : ChangeSpec := { name := "judgeCycles", fn := fun _ => fun
  | [d1, d2, d3] => { results := [.lit (.bool true)], args := [d1, d2, d3] }
  | _ => none }
def judgeCyclesRow : OpenClaim := { program := "ytenihfdlckgmmaagreat", sum := "c8f20200c02db06b23a9b82cee47d11ae43a50f612a37ef503d6485ba6098539", func := "coroner/coronerlaw33.JudgeCycles", spec := "judgeCycles", unfollowed := true, recurses := true, plainKeys := false, apart := false }
def JudgeCyclesSaid : Prop := judgeCyclesRow.holds Tryz.pinned (OpenSpec.ofChange judgeCyclesSpec)

/-- ITS FALSE NEIGHBOUR: 'it returns false'. Refute it at one input. -/
def judgeCyclesWrong : ChangeSpec := { name := "judgeCycles", fn := fun _ => fun
  | [d1, d2, d3] => { results := [.lit (.bool false)], args := [d1, d2, d3] }
  | _ => none }
def JudgeCyclesWrongFalsely : Prop := judgeCyclesRow.holds Tryz.pinned (OpenSpec.ofChange judgeCyclesWrong)

/-- 'coronerlaw33.JudgeFindings': WHATEVER THE INPUT: true; the input reads as it did. -/
def judgeFindingsSpec : ChangeSpec := { name := "judgeFindings", fn := fun _ => fun
  | [d1, d2] => { results := [.lit (.bool true)], args := [d1, d2] }
  | _ => none }
def judgeFindingsRow : OpenClaim := { program := "ytenihfdlckgmmaagreat", sum := "c8f20200c02db06b23a9b82cee47d11ae43a50f612a37ef503d6485ba6098539", func := "coroner/coronerlaw33.JudgeFindings", spec := "judgeFindings", unfollowed := true, recurses := true, plainKeys := false, apart := false }
def JudgeFindingsSaid : Prop := judgeFindingsRow.holds Tryz.pinned (OpenSpec.ofChange judgeFindingsSpec)

/-- ITS FALSE NEIGHBOUR: 'it returns false'. Refute it at one input. -/
def judgeFindingsWrong : ChangeSpec := { name := "judgeFindings", fn := fun _ => fun
  | [d1, d2] => { results := [.lit (.bool false)], args := [d1, d2] }
  | _ => none }
def JudgeFindingsWrongFalsely : Prop := judgeFindingsRow.holds Tryz.pinned (OpenSpec.ofChange judgeFindingsWrong)

/- THE SECOND FORM. 'bulk': how many values and letters a reading holds, each counted each time it is reached (what is shared counts as often as it is met; a slice's spare places count too). A statement '..UptoSaid' is the law's where the arguments, and the package variables that the reading takes, are together of bulk at most 1048576: NARROWER than '..Said'. Prove '..Said' where nothing that the law and all that it calls make is longer than what came in: it says more and counts as full. Else prove '..UptoSaid'. A law counts once. -/
mutual
def uptoBulk {H : Type} : DataW H → Nat
  | .lit (.string bytes) => bytes.length + 1
  | .lit _ => 1
  | .nil => 1
  | .ptr d => uptoBulk d + 1
  | .slice elems spare => uptoBulkAll elems + uptoBulkAll spare + 1
  | .agg parts => uptoBulkAll parts + 1
  | .iface _ d => uptoBulk d + 1
  | .map entries => uptoBulkEntries entries + 1
  | .held _ => 1
def uptoBulkAll {H : Type} : List (DataW H) → Nat
  | [] => 0
  | d :: r => uptoBulk d + uptoBulkAll r
def uptoBulkEntries {H : Type} : List (Lit × DataW H) → Nat
  | [] => 0
  | x :: r => uptoBulkEntry x + uptoBulkEntries r
def uptoBulkEntry {H : Type} : Lit × DataW H → Nat
  | (.string bytes, d) => bytes.length + uptoBulk d + 1
  | (_, d) => uptoBulk d + 1
 end
def uptoSmall : (H : Type) → List (DataW H) → Bool := fun _ ds => decide (uptoBulkAll ds ≤ 1048576)
def OpenSpec.upto (s : _root_.Go.ChangeSpec) : _root_.Go.OpenSpec := { _root_.Go.OpenSpec.ofChange s with cond := some uptoSmall }

/-- 'coronerlaw17.EdgesSorts', WHERE WHAT IT READS IS OF BULK AT MOST 1048576: true; the input reads as it did. -/
def edgesSortsUptoRow : OpenClaim := { program := "ytenihfdlckgmmaagreat", sum := "c8f20200c02db06b23a9b82cee47d11ae43a50f612a37ef503d6485ba6098539", func := "coroner/coronerlaw17.EdgesSorts", spec := "edgesSorts", unfollowed := true, recurses := true, plainKeys := false, apart := false, narrowed := true }
def EdgesSortsUptoSaid : Prop := edgesSortsUptoRow.holds Tryz.pinned (OpenSpec.upto edgesSortsSpec)

/-- 'coronerlaw17.EdgesOf', WHERE WHAT IT READS IS OF BULK AT MOST 1048576: true; the input reads as it did. -/
def edgesOfUptoRow : OpenClaim := { program := "ytenihfdlckgmmaagreat", sum := "c8f20200c02db06b23a9b82cee47d11ae43a50f612a37ef503d6485ba6098539", func := "coroner/coronerlaw17.EdgesOf", spec := "edgesOf", unfollowed := true, recurses := true, plainKeys := false, apart := false, narrowed := true }
def EdgesOfUptoSaid : Prop := edgesOfUptoRow.holds Tryz.pinned (OpenSpec.upto edgesOfSpec)

/-- 'coronerlaw17.EdgesNamed', WHERE WHAT IT READS IS OF BULK AT MOST 1048576: true; the input reads as it did. -/
def edgesNamedUptoRow : OpenClaim := { program := "ytenihfdlckgmmaagreat", sum := "c8f20200c02db06b23a9b82cee47d11ae43a50f612a37ef503d6485ba6098539", func := "coroner/coronerlaw17.EdgesNamed", spec := "edgesNamed", unfollowed := true, recurses := true, plainKeys := false, apart := false, narrowed := true }
def EdgesNamedUptoSaid : Prop := edgesNamedUptoRow.holds Tryz.pinned (OpenSpec.upto edgesNamedSpec)

/-- 'coronerlaw33.JudgeEdges', WHERE WHAT IT READS IS OF BULK AT MOST 1048576: true; the input reads as it did. -/
def judgeEdgesUptoRow : OpenClaim := { program := "ytenihfdlckgmmaagreat", sum := "c8f20200c02db06b23a9b82cee47d11ae43a50f612a37ef503d6485ba6098539", func := "coroner/coronerlaw33.JudgeEdges", spec := "judgeEdges", unfollowed := true, recurses := true, plainKeys := false, apart := false, narrowed := true }
def JudgeEdgesUptoSaid : Prop := judgeEdgesUptoRow.holds Tryz.pinned (OpenSpec.upto judgeEdgesSpec)

/-- 'coronerlaw33.JudgeCycles', WHERE WHAT IT READS IS OF BULK AT MOST 1048576: true; the input reads as it did. -/
def judgeCyclesUptoRow : OpenClaim := { program := "ytenihfdlckgmmaagreat", sum := "c8f20200c02db06b23a9b82cee47d11ae43a50f612a37ef503d6485ba6098539", func := "coroner/coronerlaw33.JudgeCycles", spec := "judgeCycles", unfollowed := true, recurses := true, plainKeys := false, apart := false, narrowed := true }
def JudgeCyclesUptoSaid : Prop := judgeCyclesUptoRow.holds Tryz.pinned (OpenSpec.upto judgeCyclesSpec)

/-- 'coronerlaw33.JudgeFindings', WHERE WHAT IT READS IS OF BULK AT MOST 1048576: true; the input reads as it did. -/
def judgeFindingsUptoRow : OpenClaim := { program := "ytenihfdlckgmmaagreat", sum := "c8f20200c02db06b23a9b82cee47d11ae43a50f612a37ef503d6485ba6098539", func := "coroner/coronerlaw33.JudgeFindings", spec := "judgeFindings", unfollowed := true, recurses := true, plainKeys := false, apart := false, narrowed := true }
def JudgeFindingsUptoSaid : Prop := judgeFindingsUptoRow.holds Tryz.pinned (OpenSpec.upto judgeFindingsSpec)

end Rows
end Go.Proofs.YtenihfdlckgmmaaGreat
