/-
  No cell of these rows narrows 'for every input' (looked for: loops, veiled, ifaces, maps, wideKeys, modest, calm, conditions, laid).
  DERIVED. THE GIVEN ROWS OF THIS SEAT. 5 by the template 'for every input the law returns true; each argument reads behind the call as it read before'; 0 by the template 'total and deterministic' (their statements: YtdkgalkdcmajjaaGreatTotals.lean).
  GIVEN WITH THE SEED: the statements are not yours to turn. If you find one false, say at which input.
  Laid BY PROGRAM, IN A SANDBOX (cutbox-rows.mjs): the forced cells as the released guide's own fill.sh prints them over the translation 644334049eb93048… (all of the seat's roots in one cut). By AI agents, Wed Nov 11 2026. No macro, syntax, notation, axiom, sorry.
-/
import Derived.Test.YtdkgalkdcmajjaaGreatChecked
import GoSem.Claim
import GoSem.ClaimJoined
import GoSem.ClaimMapViews
import Derived.JoinedTies
import Derived.KernelRfl
namespace Go.Proofs.YtdkgalkdcmajjaaGreat
/- THE CELL 'sum', in the pinned program and in every row, IS THE sha256 OF THE DUMP (.gsa) THAT YtdkgalkdcmajjaaGreatProg.lean LOADS. Nothing in Lean hashes anything: it is a label: what it is worth is what the hold of that sum in a sandbox is worth. -/
noncomputable def Tryz.pinned : Pinned := { name := "ytdkgalkdcmajjaagreat", sum := "644334049eb93048330a1f0d801155dd60d53b890c15a9d60817b9f4012ff993", checked := Tryz.checked }
namespace Rows
def none {H : Type} : Left H := { results := [], args := [] }

/-- 'coronerlaw20.GraphRuns': WHATEVER THE INPUT: true; the input reads as it did. -/
def graphRunsSpec : ChangeSpec := { name := "graphRuns", fn := fun _ => fun
  | [d1, d2, d3, d4] => { results := [.lit (.bool true)], args := [d1, d2, d3, d4] }
  | _ => none }
def graphRunsRow : OpenClaim := { program := "ytdkgalkdcmajjaagreat", sum := "644334049eb93048330a1f0d801155dd60d53b890c15a9d60817b9f4012ff993", func := "coroner/coronerlaw20.GraphRuns", spec := "graphRuns", unfollowed := true, recurses := true, plainKeys := false, apart := false }
def GraphRunsSaid : Prop := graphRunsRow.holds Tryz.pinned (OpenSpec.ofChange graphRunsSpec)

/-- ITS FALSE NEIGHBOUR: 'it returns false'. Refute it at one input. -/
def graphRunsWrong : ChangeSpec := { name := "graphRuns", fn := fun _ => fun
  | [d1, d2, d3, d4] => { results := [.lit (.bool false)], args := [d1, d2, d3, d4] }
  | _ => none }
def GraphRunsWrongFalsely : Prop := graphRunsRow.holds Tryz.pinned (OpenSpec.ofChange graphRunsWrong)

/-- 'coronerlaw14.DirtyReads': WHATEVER THE INPUT: true; the input reads as it did. -/
def dirtyReadsSpec : ChangeSpec := { name := "dirtyReads", fn := fun _ => fun
  | [d1, d2] => { results := [.lit (.bool true)], args := [d1, d2] }
  | _ => none }
def dirtyReadsRow : OpenClaim := { program := "ytdkgalkdcmajjaagreat", sum := "644334049eb93048330a1f0d801155dd60d53b890c15a9d60817b9f4012ff993", func := "coroner/coronerlaw14.DirtyReads", spec := "dirtyReads", unfollowed := true, recurses := true, plainKeys := false, apart := false }
def DirtyReadsSaid : Prop := dirtyReadsRow.holds Tryz.pinned (OpenSpec.ofChange dirtyReadsSpec)

/-- ITS FALSE NEIGHBOUR: 'it returns false'. Refute it at one input. -/
def dirtyReadsWrong : ChangeSpec := { name := "dirtyReads", fn := fun _ => fun
  | [d1, d2] => { results := [.lit (.bool false)], args := [d1, d2] }
  | _ => none }
def DirtyReadsWrongFalsely : Prop := dirtyReadsRow.holds Tryz.pinned (OpenSpec.ofChange dirtyReadsWrong)

/-- 'coronerlaw14.DirtyFinds': WHATEVER THE INPUT: true; the input reads as it did. -/
def dirtyFindsSpec : ChangeSpec := { name := "dirtyFinds", fn := fun _ => fun
  | [d] => { results := [.lit (.bool true)], args := [d] }
  | _ => none }
def dirtyFindsRow : OpenClaim := { program := "ytdkgalkdcmajjaagreat", sum := "644334049eb93048330a1f0d801155dd60d53b890c15a9d60817b9f4012ff993", func := "coroner/coronerlaw14.DirtyFinds", spec := "dirtyFinds", unfollowed := true, recurses := true, plainKeys := false, apart := false }
def DirtyFindsSaid : Prop := dirtyFindsRow.holds Tryz.pinned (OpenSpec.ofChange dirtyFindsSpec)

/-- ITS FALSE NEIGHBOUR: 'it returns false'. Refute it at one input. -/
def dirtyFindsWrong : ChangeSpec := { name := "dirtyFinds", fn := fun _ => fun
  | [d] => { results := [.lit (.bool false)], args := [d] }
  | _ => none }
def DirtyFindsWrongFalsely : Prop := dirtyFindsRow.holds Tryz.pinned (OpenSpec.ofChange dirtyFindsWrong)

/-- 'coronerlaw14.DirtySerial': WHATEVER THE INPUT: true; the input reads as it did. -/
def dirtySerialSpec : ChangeSpec := { name := "dirtySerial", fn := fun _ => fun
  | [d] => { results := [.lit (.bool true)], args := [d] }
  | _ => none }
def dirtySerialRow : OpenClaim := { program := "ytdkgalkdcmajjaagreat", sum := "644334049eb93048330a1f0d801155dd60d53b890c15a9d60817b9f4012ff993", func := "coroner/coronerlaw14.DirtySerial", spec := "dirtySerial", unfollowed := true, recurses := true, plainKeys := false, apart := false }
def DirtySerialSaid : Prop := dirtySerialRow.holds Tryz.pinned (OpenSpec.ofChange dirtySerialSpec)

/-- ITS FALSE NEIGHBOUR: 'it returns false'. Refute it at one input. -/
def dirtySerialWrong : ChangeSpec := { name := "dirtySerial", fn := fun _ => fun
  | [d] => { results := [.lit (.bool false)], args := [d] }
  | _ => none }
def DirtySerialWrongFalsely : Prop := dirtySerialRow.holds Tryz.pinned (OpenSpec.ofChange dirtySerialWrong)

/-- 'coronerlaw14.DirtyNamed': WHATEVER THE INPUT: true; the input reads as it did. -/
def dirtyNamedSpec : ChangeSpec := { name := "dirtyNamed", fn := fun _ => fun
  | [d] => { results := [.lit (.bool true)], args := [d] }
  | _ => none }
def dirtyNamedRow : OpenClaim := { program := "ytdkgalkdcmajjaagreat", sum := "644334049eb93048330a1f0d801155dd60d53b890c15a9d60817b9f4012ff993", func := "coroner/coronerlaw14.DirtyNamed", spec := "dirtyNamed", unfollowed := true, recurses := true, plainKeys := false, apart := false }
def DirtyNamedSaid : Prop := dirtyNamedRow.holds Tryz.pinned (OpenSpec.ofChange dirtyNamedSpec)

/-- ITS FALSE NEIGHBOUR: 'it returns false'. Refute it at one input. -/
def dirtyNamedWrong : ChangeSpec := { name := "dirtyNamed", fn := fun _ => fun
  | [d] => { results := [.lit (.bool false)], args := [d] }
  | _ => none }
def DirtyNamedWrongFalsely : Prop := dirtyNamedRow.holds Tryz.pinned (OpenSpec.ofChange dirtyNamedWrong)

/- THE SECOND FORM. 'bulk': how many values and letters a reading holds, each counted each time it is reached (what is shared counts as often as it is met; a slice's spare places count too). A statement '..UptoSaid' is the law's where the arguments, and the package variables that the reading takes, are together of bulk at most 1048576: NARROWER than '..Said'. Prove '..Said' where nothing that the law and all that it calls make is longer than what came in: it says more and counts as full. Else prove '..UptoSaid'. A law counts once. -/
mutual
def uptoBulk {H : Type} : DataW H → Nat
  | .lit (.string bytes) => bytes.length + 1
  | .lit _ => 1
  | .nil => 1
  | .ptr d => uptoBulk d + 1
  | .slice elems spare => uptoBulkAll elems + uptoBulkAll spare + 1
  | .agg parts => uptoBulkAll parts + 1
  | .iface _ d => uptoBulk d + 1
  | .map entries => uptoBulkEntries entries + 1
  | .held _ => 1
def uptoBulkAll {H : Type} : List (DataW H) → Nat
  | [] => 0
  | d :: r => uptoBulk d + uptoBulkAll r
def uptoBulkEntries {H : Type} : List (Lit × DataW H) → Nat
  | [] => 0
  | x :: r => uptoBulkEntry x + uptoBulkEntries r
def uptoBulkEntry {H : Type} : Lit × DataW H → Nat
  | (.string bytes, d) => bytes.length + uptoBulk d + 1
  | (_, d) => uptoBulk d + 1
 end
def uptoSmall : (H : Type) → List (DataW H) → Bool := fun _ ds => decide (uptoBulkAll ds ≤ 1048576)
def OpenSpec.upto (s : _root_.Go.ChangeSpec) : _root_.Go.OpenSpec := { _root_.Go.OpenSpec.ofChange s with cond := some uptoSmall }

/-- 'coronerlaw20.GraphRuns', WHERE WHAT IT READS IS OF BULK AT MOST 1048576: true; the input reads as it did. -/
def graphRunsUptoRow : OpenClaim := { program := "ytdkgalkdcmajjaagreat", sum := "644334049eb93048330a1f0d801155dd60d53b890c15a9d60817b9f4012ff993", func := "coroner/coronerlaw20.GraphRuns", spec := "graphRuns", unfollowed := true, recurses := true, plainKeys := false, apart := false, narrowed := true }
def GraphRunsUptoSaid : Prop := graphRunsUptoRow.holds Tryz.pinned (OpenSpec.upto graphRunsSpec)

/-- 'coronerlaw14.DirtyReads', WHERE WHAT IT READS IS OF BULK AT MOST 1048576: true; the input reads as it did. -/
def dirtyReadsUptoRow : OpenClaim := { program := "ytdkgalkdcmajjaagreat", sum := "644334049eb93048330a1f0d801155dd60d53b890c15a9d60817b9f4012ff993", func := "coroner/coronerlaw14.DirtyReads", spec := "dirtyReads", unfollowed := true, recurses := true, plainKeys := false, apart := false, narrowed := true }
def DirtyReadsUptoSaid : Prop := dirtyReadsUptoRow.holds Tryz.pinned (OpenSpec.upto dirtyReadsSpec)

/-- 'coronerlaw14.DirtyFinds', WHERE WHAT IT READS IS OF BULK AT MOST 1048576: true; the input reads as it did. -/
def dirtyFindsUptoRow : OpenClaim := { program := "ytdkgalkdcmajjaagreat", sum := "644334049eb93048330a1f0d801155dd60d53b890c15a9d60817b9f4012ff993", func := "coroner/coronerlaw14.DirtyFinds", spec := "dirtyFinds", unfollowed := true, recurses := true, plainKeys := false, apart := false, narrowed := true }
def DirtyFindsUptoSaid : Prop := dirtyFindsUptoRow.holds Tryz.pinned (OpenSpec.upto dirtyFindsSpec)

/-- 'coronerlaw14.DirtySerial', WHERE WHAT IT READS IS OF BULK AT MOST 1048576: true; the input reads as it did. -/
def dirtySerialUptoRow : OpenClaim := { program := "ytdkgalkdcmajjaagreat", sum := "644334049eb93048330a1f0d801155dd60d53b890c15a9d60817b9f4012ff993", func := "coroner/coronerlaw14.DirtySerial", spec := "dirtySerial", unfollowed := true, recurses := true, plainKeys := false, apart := false, narrowed := true }
def DirtySerialUptoSaid : Prop := dirtySerialUptoRow.holds Tryz.pinned (OpenSpec.upto dirtySerialSpec)

/-- 'coronerlaw14.DirtyNamed', WHERE WHAT IT READS IS OF BULK AT MOST 1048576: true; the input reads as it did. -/
def dirtyNamedUptoRow : OpenClaim := { program := "ytdkgalkdcmajjaagreat", sum := "644334049eb93048330a1f0d801155dd60d53b890c15a9d60817b9f4012ff993", func := "coroner/coronerlaw14.DirtyNamed", spec := "dirtyNamed", unfollowed := true, recurses := true, plainKeys := false, apart := false, narrowed := true }
def DirtyNamedUptoSaid : Prop := dirtyNamedUptoRow.holds Tryz.pinned (OpenSpec.upto dirtyNamedSpec)

end Rows
end Go.Proofs.YtdkgalkdcmajjaaGreat
