/-
  No cell of these rows narrows 'for every input' (looked for: loops, veiled, ifaces, maps, wideKeys, modest, calm, conditions, laid).
  DERIVED. THE GIVEN ROWS OF THIS SEAT. 7 by the template 'for every input the law returns true; each argument reads behind the call as it read before'; 0 by the template 'total and deterministic' (their statements: YtdkgalkdcmajjaaTotals.lean).
  GIVEN WITH THE SEED: the statements are not yours to turn. If you find one false, say at which input.
  Laid BY PROGRAM, IN A SANDBOX (cutbox-rows.mjs): the forced cells as the released guide's own fill.sh prints them over the translation 251f9e95a476ef23… (all of the seat's roots in one cut). By AI agents, Wed Nov 11 2026. No macro, syntax, notation, axiom, sorry.
-/
import Derived.Test.YtdkgalkdcmajjaaChecked
import GoSem.Claim
import GoSem.ClaimJoined
import GoSem.ClaimMapViews
import Derived.JoinedTies
import Derived.KernelRfl
namespace Go.Proofs.Ytdkgalkdcmajjaa
/- THE CELL 'sum', in the pinned program and in every row, IS THE sha256 OF THE DUMP (.gsa) THAT YtdkgalkdcmajjaaProg.lean LOADS. Nothing in Lean hashes anything: it is a label: what it is worth is what the hold of that sum in a sandbox is worth. -/
noncomputable def Try.pinned : Pinned := { name := "ytdkgalkdcmajjaa", sum := "251f9e95a476ef235db823be2701c5cb08804dfc8c64a5c7bc132378b3c96925", checked := Try.checked }
namespace Rows
def none {H : Type} : Left H := { results := [], args := [] }

/-- 'coronerlaw12.TableNames': WHATEVER THE INPUT: true; the input reads as it did. -/
def tableNamesSpec : ChangeSpec := { name := "tableNames", fn := fun _ => fun
  | [d1, d2] => { results := [.lit (.bool true)], args := [d1, d2] }
  | _ => none }
def tableNamesRow : OpenClaim := { program := "ytdkgalkdcmajjaa", sum := "251f9e95a476ef235db823be2701c5cb08804dfc8c64a5c7bc132378b3c96925", func := "coroner/coronerlaw12.TableNames", spec := "tableNames", unfollowed := true, recurses := true, plainKeys := false, apart := false }
def TableNamesSaid : Prop := tableNamesRow.holds Try.pinned (OpenSpec.ofChange tableNamesSpec)

/-- ITS FALSE NEIGHBOUR: 'it returns false'. Refute it at one input. -/
def tableNamesWrong : ChangeSpec := { name := "tableNames", fn := fun _ => fun
  | [d1, d2] => { results := [.lit (.bool false)], args := [d1, d2] }
  | _ => none }
def TableNamesWrongFalsely : Prop := tableNamesRow.holds Try.pinned (OpenSpec.ofChange tableNamesWrong)

/-- 'coronerlaw12.TableValues': WHATEVER THE INPUT: true; the input reads as it did. -/
def tableValuesSpec : ChangeSpec := { name := "tableValues", fn := fun _ => fun
  | [d1, d2, d3, d4] => { results := [.lit (.bool true)], args := [d1, d2, d3, d4] }
  | _ => none }
def tableValuesRow : OpenClaim := { program := "ytdkgalkdcmajjaa", sum := "251f9e95a476ef235db823be2701c5cb08804dfc8c64a5c7bc132378b3c96925", func := "coroner/coronerlaw12.TableValues", spec := "tableValues", unfollowed := true, recurses := true, plainKeys := false, apart := false }
def TableValuesSaid : Prop := tableValuesRow.holds Try.pinned (OpenSpec.ofChange tableValuesSpec)

/-- ITS FALSE NEIGHBOUR: 'it returns false'. Refute it at one input. -/
def tableValuesWrong : ChangeSpec := { name := "tableValues", fn := fun _ => fun
  | [d1, d2, d3, d4] => { results := [.lit (.bool false)], args := [d1, d2, d3, d4] }
  | _ => none }
def TableValuesWrongFalsely : Prop := tableValuesRow.holds Try.pinned (OpenSpec.ofChange tableValuesWrong)

/-- 'coronerlaw12.TableReads': WHATEVER THE INPUT: true; the input reads as it did. -/
def tableReadsSpec : ChangeSpec := { name := "tableReads", fn := fun _ => fun
  | [d1, d2, d3] => { results := [.lit (.bool true)], args := [d1, d2, d3] }
  | _ => none }
def tableReadsRow : OpenClaim := { program := "ytdkgalkdcmajjaa", sum := "251f9e95a476ef235db823be2701c5cb08804dfc8c64a5c7bc132378b3c96925", func := "coroner/coronerlaw12.TableReads", spec := "tableReads", unfollowed := true, recurses := true, plainKeys := false, apart := false }
def TableReadsSaid : Prop := tableReadsRow.holds Try.pinned (OpenSpec.ofChange tableReadsSpec)

/-- ITS FALSE NEIGHBOUR: 'it returns false'. Refute it at one input. -/
def tableReadsWrong : ChangeSpec := { name := "tableReads", fn := fun _ => fun
  | [d1, d2, d3] => { results := [.lit (.bool false)], args := [d1, d2, d3] }
  | _ => none }
def TableReadsWrongFalsely : Prop := tableReadsRow.holds Try.pinned (OpenSpec.ofChange tableReadsWrong)

/-- 'coronerlaw12.TableWrites': WHATEVER THE INPUT: true; the input reads as it did. -/
def tableWritesSpec : ChangeSpec := { name := "tableWrites", fn := fun _ => fun
  | [d1, d2, d3] => { results := [.lit (.bool true)], args := [d1, d2, d3] }
  | _ => none }
def tableWritesRow : OpenClaim := { program := "ytdkgalkdcmajjaa", sum := "251f9e95a476ef235db823be2701c5cb08804dfc8c64a5c7bc132378b3c96925", func := "coroner/coronerlaw12.TableWrites", spec := "tableWrites", unfollowed := true, recurses := true, plainKeys := false, apart := false }
def TableWritesSaid : Prop := tableWritesRow.holds Try.pinned (OpenSpec.ofChange tableWritesSpec)

/-- ITS FALSE NEIGHBOUR: 'it returns false'. Refute it at one input. -/
def tableWritesWrong : ChangeSpec := { name := "tableWrites", fn := fun _ => fun
  | [d1, d2, d3] => { results := [.lit (.bool false)], args := [d1, d2, d3] }
  | _ => none }
def TableWritesWrongFalsely : Prop := tableWritesRow.holds Try.pinned (OpenSpec.ofChange tableWritesWrong)

/-- 'coronerlaw12.TableNone': WHATEVER THE INPUT: true; the input reads as it did. -/
def tableNoneSpec : ChangeSpec := { name := "tableNone", fn := fun _ => fun
  | [d1, d2] => { results := [.lit (.bool true)], args := [d1, d2] }
  | _ => none }
def tableNoneRow : OpenClaim := { program := "ytdkgalkdcmajjaa", sum := "251f9e95a476ef235db823be2701c5cb08804dfc8c64a5c7bc132378b3c96925", func := "coroner/coronerlaw12.TableNone", spec := "tableNone", unfollowed := true, recurses := true, plainKeys := false, apart := false }
def TableNoneSaid : Prop := tableNoneRow.holds Try.pinned (OpenSpec.ofChange tableNoneSpec)

/-- ITS FALSE NEIGHBOUR: 'it returns false'. Refute it at one input. -/
def tableNoneWrong : ChangeSpec := { name := "tableNone", fn := fun _ => fun
  | [d1, d2] => { results := [.lit (.bool false)], args := [d1, d2] }
  | _ => none }
def TableNoneWrongFalsely : Prop := tableNoneRow.holds Try.pinned (OpenSpec.ofChange tableNoneWrong)

/-- 'coronerlaw20.GraphErrors': WHATEVER THE INPUT: true; the input reads as it did. -/
def graphErrorsSpec : ChangeSpec := { name := "graphErrors", fn := fun _ => fun
  | [d1, d2, d3, d4] => { results := [.lit (.bool true)], args := [d1, d2, d3, d4] }
  | _ => none }
def graphErrorsRow : OpenClaim := { program := "ytdkgalkdcmajjaa", sum := "251f9e95a476ef235db823be2701c5cb08804dfc8c64a5c7bc132378b3c96925", func := "coroner/coronerlaw20.GraphErrors", spec := "graphErrors", unfollowed := true, recurses := true, plainKeys := false, apart := false }
def GraphErrorsSaid : Prop := graphErrorsRow.holds Try.pinned (OpenSpec.ofChange graphErrorsSpec)

/-- ITS FALSE NEIGHBOUR: 'it returns false'. Refute it at one input. -/
def graphErrorsWrong : ChangeSpec := { name := "graphErrors", fn := fun _ => fun
  | [d1, d2, d3, d4] => { results := [.lit (.bool false)], args := [d1, d2, d3, d4] }
  | _ => none }
def GraphErrorsWrongFalsely : Prop := graphErrorsRow.holds Try.pinned (OpenSpec.ofChange graphErrorsWrong)

/-- 'coronerlaw20.GraphOf': WHATEVER THE INPUT: true; the input reads as it did. -/
def graphOfSpec : ChangeSpec := { name := "graphOf", fn := fun _ => fun
  | [d1, d2] => { results := [.lit (.bool true)], args := [d1, d2] }
  | _ => none }
def graphOfRow : OpenClaim := { program := "ytdkgalkdcmajjaa", sum := "251f9e95a476ef235db823be2701c5cb08804dfc8c64a5c7bc132378b3c96925", func := "coroner/coronerlaw20.GraphOf", spec := "graphOf", unfollowed := true, recurses := true, plainKeys := false, apart := false }
def GraphOfSaid : Prop := graphOfRow.holds Try.pinned (OpenSpec.ofChange graphOfSpec)

/-- ITS FALSE NEIGHBOUR: 'it returns false'. Refute it at one input. -/
def graphOfWrong : ChangeSpec := { name := "graphOf", fn := fun _ => fun
  | [d1, d2] => { results := [.lit (.bool false)], args := [d1, d2] }
  | _ => none }
def GraphOfWrongFalsely : Prop := graphOfRow.holds Try.pinned (OpenSpec.ofChange graphOfWrong)

/- THE SECOND FORM. 'bulk': how many values and letters a reading holds, each counted each time it is reached (what is shared counts as often as it is met; a slice's spare places count too). A statement '..UptoSaid' is the law's where the arguments, and the package variables that the reading takes, are together of bulk at most 1048576: NARROWER than '..Said'. Prove '..Said' where nothing that the law and all that it calls make is longer than what came in: it says more and counts as full. Else prove '..UptoSaid'. A law counts once. -/
mutual
def uptoBulk {H : Type} : DataW H → Nat
  | .lit (.string bytes) => bytes.length + 1
  | .lit _ => 1
  | .nil => 1
  | .ptr d => uptoBulk d + 1
  | .slice elems spare => uptoBulkAll elems + uptoBulkAll spare + 1
  | .agg parts => uptoBulkAll parts + 1
  | .iface _ d => uptoBulk d + 1
  | .map entries => uptoBulkEntries entries + 1
  | .held _ => 1
def uptoBulkAll {H : Type} : List (DataW H) → Nat
  | [] => 0
  | d :: r => uptoBulk d + uptoBulkAll r
def uptoBulkEntries {H : Type} : List (Lit × DataW H) → Nat
  | [] => 0
  | x :: r => uptoBulkEntry x + uptoBulkEntries r
def uptoBulkEntry {H : Type} : Lit × DataW H → Nat
  | (.string bytes, d) => bytes.length + uptoBulk d + 1
  | (_, d) => uptoBulk d + 1
 end
def uptoSmall : (H : Type) → List (DataW H) → Bool := fun _ ds => decide (uptoBulkAll ds ≤ 1048576)
def OpenSpec.upto (s : _root_.Go.ChangeSpec) : _root_.Go.OpenSpec := { _root_.Go.OpenSpec.ofChange s with cond := some uptoSmall }

/-- 'coronerlaw12.TableNames', WHERE WHAT IT READS IS OF BULK AT MOST 1048576: true; the input reads as it did. -/
def tableNamesUptoRow : OpenClaim := { program := "ytdkgalkdcmajjaa", sum := "251f9e95a476ef235db823be2701c5cb08804dfc8c64a5c7bc132378b3c96925", func := "coroner/coronerlaw12.TableNames", spec := "tableNames", unfollowed := true, recurses := true, plainKeys := false, apart := false, narrowed := true }
def TableNamesUptoSaid : Prop := tableNamesUptoRow.holds Try.pinned (OpenSpec.upto tableNamesSpec)

/-- 'coronerlaw12.TableValues', WHERE WHAT IT READS IS OF BULK AT MOST 1048576: true; the input reads as it did. -/
def tableValuesUptoRow : OpenClaim := { program := "ytdkgalkdcmajjaa", sum := "251f9e95a476ef235db823be2701c5cb08804dfc8c64a5c7bc132378b3c96925", func := "coroner/coronerlaw12.TableValues", spec := "tableValues", unfollowed := true, recurses := true, plainKeys := false, apart := false, narrowed := true }
def TableValuesUptoSaid : Prop := tableValuesUptoRow.holds Try.pinned (OpenSpec.upto tableValuesSpec)

/-- 'coronerlaw12.TableReads', WHERE WHAT IT READS IS OF BULK AT MOST 1048576: true; the input reads as it did. -/
def tableReadsUptoRow : OpenClaim := { program := "ytdkgalkdcmajjaa", sum := "251f9e95a476ef235db823be2701c5cb08804dfc8c64a5c7bc132378b3c96925", func := "coroner/coronerlaw12.TableReads", spec := "tableReads", unfollowed := true, recurses := true, plainKeys := false, apart := false, narrowed := true }
def TableReadsUptoSaid : Prop := tableReadsUptoRow.holds Try.pinned (OpenSpec.upto tableReadsSpec)

/-- 'coronerlaw12.TableWrites', WHERE WHAT IT READS IS OF BULK AT MOST 1048576: true; the input reads as it did. -/
def tableWritesUptoRow : OpenClaim := { program := "ytdkgalkdcmajjaa", sum := "251f9e95a476ef235db823be2701c5cb08804dfc8c64a5c7bc132378b3c96925", func := "coroner/coronerlaw12.TableWrites", spec := "tableWrites", unfollowed := true, recurses := true, plainKeys := false, apart := false, narrowed := true }
def TableWritesUptoSaid : Prop := tableWritesUptoRow.holds Try.pinned (OpenSpec.upto tableWritesSpec)

/-- 'coronerlaw12.TableNone', WHERE WHAT IT READS IS OF BULK AT MOST 1048576: true; the input reads as it did. -/
def tableNoneUptoRow : OpenClaim := { program := "ytdkgalkdcmajjaa", sum := "251f9e95a476ef235db823be2701c5cb08804dfc8c64a5c7bc132378b3c96925", func := "coroner/coronerlaw12.TableNone", spec := "tableNone", unfollowed := true, recurses := true, plainKeys := false, apart := false, narrowed := true }
def TableNoneUptoSaid : Prop := tableNoneUptoRow.holds Try.pinned (OpenSpec.upto tableNoneSpec)

/-- 'coronerlaw20.GraphErrors', WHERE WHAT IT READS IS OF BULK AT MOST 1048576: true; the input reads as it did. -/
def graphErrorsUptoRow : OpenClaim := { program := "ytdkgalkdcmajjaa", sum := "251f9e95a476ef235db823be2701c5cb08804dfc8c64a5c7bc132378b3c96925", func := "coroner/coronerlaw20.GraphErrors", spec := "graphErrors", unfollowed := true, recurses := true, plainKeys := false, apart := false, narrowed := true }
def GraphErrorsUptoSaid : Prop := graphErrorsUptoRow.holds Try.pinned (OpenSpec.upto graphErrorsSpec)

/-- 'coronerlaw20.GraphOf', WHERE WHAT IT READS IS OF BULK AT MOST 1048576: true; the input reads as it did. -/
def graphOfUptoRow : OpenClaim := { program := "ytdkgalkdcmajjaa", sum := "251f9e95a476ef235db823be2701c5cb08804dfc8c64a5c7bc132378b3c96925", func := "coroner/coronerlaw20.GraphOf", spec := "graphOf", unfollowed := true, recurses := true, plainKeys := false, apart := false, narrowed := true }
def GraphOfUptoSaid : Prop := graphOfUptoRow.holds Try.pinned (OpenSpec.upto graphOfSpec)

end Rows
end Go.Proofs.Ytdkgalkdcmajjaa
