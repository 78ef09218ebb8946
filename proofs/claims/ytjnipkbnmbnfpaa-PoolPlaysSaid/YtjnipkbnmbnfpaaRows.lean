/-
  No cell of these rows narrows 'for every input' (looked for: loops, veiled, ifaces, maps, wideKeys, modest, calm, conditions, laid).
  DERIVED. THE GIVEN ROWS OF THIS SEAT. 11 by the template 'for every input the law returns true; each argument reads behind the call as it read before'; 0 by the template 'total and deterministic' (their statements: YtjnipkbnmbnfpaaTotals.lean).
  GIVEN WITH THE SEED: the statements are not yours to turn. If you find one false, say at which input.
  Laid BY PROGRAM, IN A SANDBOX (cutbox-rows.mjs): the forced cells as the released guide's own fill.sh prints them over the translation 5f7cc71befb1050f… (all of the seat's roots in one cut). By AI agents, Wed Nov 11 2026. No macro, syntax, notation, axiom, sorry.
-/
import Derived.Test.YtjnipkbnmbnfpaaChecked
import GoSem.Claim
import GoSem.ClaimJoined
import GoSem.ClaimMapViews
import Derived.JoinedTies
import Derived.KernelRfl
namespace Go.Proofs.Ytjnipkbnmbnfpaa
/- THE CELL 'sum', in the pinned program and in every row, IS THE sha256 OF THE DUMP (.gsa) THAT YtjnipkbnmbnfpaaProg.lean LOADS. Nothing in Lean hashes anything: it is a label: what it is worth is what the hold of that sum in a sandbox is worth. -/
noncomputable def Try.pinned : Pinned := { name := "ytjnipkbnmbnfpaa", sum := "5f7cc71befb1050f204ad02dbd127453a7abddbf2424b824a4d1c5ab00420ba1", checked := Try.checked }
namespace Rows
def none {H : Type} : Left H := { results := [], args := [] }

/-- 'coronerlaw10.PoolNone': WHATEVER THE INPUT: true; the input reads as it did. -/
def poolNoneSpec : ChangeSpec := { name := "poolNone", fn := fun _ => fun
  | [d1, d2] => { results := [.lit (.bool true)], args := [d1, d2] }
  | _ => none }
def poolNoneRow : OpenClaim := { program := "ytjnipkbnmbnfpaa", sum := "5f7cc71befb1050f204ad02dbd127453a7abddbf2424b824a4d1c5ab00420ba1", func := "coroner/coronerlaw10.PoolNone", spec := "poolNone", unfollowed := true, recurses := true, plainKeys := false, apart := false }
def PoolNoneSaid : Prop := poolNoneRow.holds Try.pinned (OpenSpec.ofChange poolNoneSpec)

/-- ITS FALSE NEIGHBOUR: 'it returns false'. Refute it at one input. -/
def poolNoneWrong : ChangeSpec := { name := "poolNone", fn := fun _ => fun
  | [d1, d2] => { results := [.lit (.bool false)], args := [d1, d2] }
  | _ => none }
def PoolNoneWrongFalsely : Prop := poolNoneRow.holds Try.pinned (OpenSpec.ofChange poolNoneWrong)

/-- 'coronerlaw10.PoolPlays': WHATEVER THE INPUT: true; the input reads as it did. -/
def poolPlaysSpec : ChangeSpec := { name := "poolPlays", fn := fun _ => fun
  | [d1, d2, d3, d4] => { results := [.lit (.bool true)], args := [d1, d2, d3, d4] }
  | _ => none }
def poolPlaysRow : OpenClaim := { program := "ytjnipkbnmbnfpaa", sum := "5f7cc71befb1050f204ad02dbd127453a7abddbf2424b824a4d1c5ab00420ba1", func := "coroner/coronerlaw10.PoolPlays", spec := "poolPlays", unfollowed := true, recurses := true, plainKeys := false, apart := false }
def PoolPlaysSaid : Prop := poolPlaysRow.holds Try.pinned (OpenSpec.ofChange poolPlaysSpec)

/-- ITS FALSE NEIGHBOUR: 'it returns false'. Refute it at one input. -/
def poolPlaysWrong : ChangeSpec := { name := "poolPlays", fn := fun _ => fun
  | [d1, d2, d3, d4] => { results := [.lit (.bool false)], args := [d1, d2, d3, d4] }
  | _ => none }
def PoolPlaysWrongFalsely : Prop := poolPlaysRow.holds Try.pinned (OpenSpec.ofChange poolPlaysWrong)

/-- 'coronerlaw10.PoolAll': WHATEVER THE INPUT: true; the input reads as it did. -/
def poolAllSpec : ChangeSpec := { name := "poolAll", fn := fun _ => fun
  | [d1, d2, d3] => { results := [.lit (.bool true)], args := [d1, d2, d3] }
  | _ => none }
def poolAllRow : OpenClaim := { program := "ytjnipkbnmbnfpaa", sum := "5f7cc71befb1050f204ad02dbd127453a7abddbf2424b824a4d1c5ab00420ba1", func := "coroner/coronerlaw10.PoolAll", spec := "poolAll", unfollowed := true, recurses := true, plainKeys := false, apart := false }
def PoolAllSaid : Prop := poolAllRow.holds Try.pinned (OpenSpec.ofChange poolAllSpec)

/-- ITS FALSE NEIGHBOUR: 'it returns false'. Refute it at one input. -/
def poolAllWrong : ChangeSpec := { name := "poolAll", fn := fun _ => fun
  | [d1, d2, d3] => { results := [.lit (.bool false)], args := [d1, d2, d3] }
  | _ => none }
def PoolAllWrongFalsely : Prop := poolAllRow.holds Try.pinned (OpenSpec.ofChange poolAllWrong)

/-- 'coronerlaw10.PoolCancel': WHATEVER THE INPUT: true; the input reads as it did. -/
def poolCancelSpec : ChangeSpec := { name := "poolCancel", fn := fun _ => fun
  | [d1, d2, d3, d4] => { results := [.lit (.bool true)], args := [d1, d2, d3, d4] }
  | _ => none }
def poolCancelRow : OpenClaim := { program := "ytjnipkbnmbnfpaa", sum := "5f7cc71befb1050f204ad02dbd127453a7abddbf2424b824a4d1c5ab00420ba1", func := "coroner/coronerlaw10.PoolCancel", spec := "poolCancel", unfollowed := true, recurses := true, plainKeys := false, apart := false }
def PoolCancelSaid : Prop := poolCancelRow.holds Try.pinned (OpenSpec.ofChange poolCancelSpec)

/-- ITS FALSE NEIGHBOUR: 'it returns false'. Refute it at one input. -/
def poolCancelWrong : ChangeSpec := { name := "poolCancel", fn := fun _ => fun
  | [d1, d2, d3, d4] => { results := [.lit (.bool false)], args := [d1, d2, d3, d4] }
  | _ => none }
def PoolCancelWrongFalsely : Prop := poolCancelRow.holds Try.pinned (OpenSpec.ofChange poolCancelWrong)

/-- 'coronerlaw11.MergeSame': WHATEVER THE INPUT: true; the input reads as it did. -/
def mergeSameSpec : ChangeSpec := { name := "mergeSame", fn := fun _ => fun
  | [d1, d2, d3] => { results := [.lit (.bool true)], args := [d1, d2, d3] }
  | _ => none }
def mergeSameRow : OpenClaim := { program := "ytjnipkbnmbnfpaa", sum := "5f7cc71befb1050f204ad02dbd127453a7abddbf2424b824a4d1c5ab00420ba1", func := "coroner/coronerlaw11.MergeSame", spec := "mergeSame", unfollowed := true, recurses := true, plainKeys := false, apart := false }
def MergeSameSaid : Prop := mergeSameRow.holds Try.pinned (OpenSpec.ofChange mergeSameSpec)

/-- ITS FALSE NEIGHBOUR: 'it returns false'. Refute it at one input. -/
def mergeSameWrong : ChangeSpec := { name := "mergeSame", fn := fun _ => fun
  | [d1, d2, d3] => { results := [.lit (.bool false)], args := [d1, d2, d3] }
  | _ => none }
def MergeSameWrongFalsely : Prop := mergeSameRow.holds Try.pinned (OpenSpec.ofChange mergeSameWrong)

/-- 'coronerlaw11.MergeCancel': WHATEVER THE INPUT: true; the input reads as it did. -/
def mergeCancelSpec : ChangeSpec := { name := "mergeCancel", fn := fun _ => fun
  | [d1, d2, d3, d4] => { results := [.lit (.bool true)], args := [d1, d2, d3, d4] }
  | _ => none }
def mergeCancelRow : OpenClaim := { program := "ytjnipkbnmbnfpaa", sum := "5f7cc71befb1050f204ad02dbd127453a7abddbf2424b824a4d1c5ab00420ba1", func := "coroner/coronerlaw11.MergeCancel", spec := "mergeCancel", unfollowed := true, recurses := true, plainKeys := false, apart := false }
def MergeCancelSaid : Prop := mergeCancelRow.holds Try.pinned (OpenSpec.ofChange mergeCancelSpec)

/-- ITS FALSE NEIGHBOUR: 'it returns false'. Refute it at one input. -/
def mergeCancelWrong : ChangeSpec := { name := "mergeCancel", fn := fun _ => fun
  | [d1, d2, d3, d4] => { results := [.lit (.bool false)], args := [d1, d2, d3, d4] }
  | _ => none }
def MergeCancelWrongFalsely : Prop := mergeCancelRow.holds Try.pinned (OpenSpec.ofChange mergeCancelWrong)

/-- 'coronerlaw11.MergePlays': WHATEVER THE INPUT: true; the input reads as it did. -/
def mergePlaysSpec : ChangeSpec := { name := "mergePlays", fn := fun _ => fun
  | [d1, d2, d3, d4] => { results := [.lit (.bool true)], args := [d1, d2, d3, d4] }
  | _ => none }
def mergePlaysRow : OpenClaim := { program := "ytjnipkbnmbnfpaa", sum := "5f7cc71befb1050f204ad02dbd127453a7abddbf2424b824a4d1c5ab00420ba1", func := "coroner/coronerlaw11.MergePlays", spec := "mergePlays", unfollowed := true, recurses := true, plainKeys := false, apart := false }
def MergePlaysSaid : Prop := mergePlaysRow.holds Try.pinned (OpenSpec.ofChange mergePlaysSpec)

/-- ITS FALSE NEIGHBOUR: 'it returns false'. Refute it at one input. -/
def mergePlaysWrong : ChangeSpec := { name := "mergePlays", fn := fun _ => fun
  | [d1, d2, d3, d4] => { results := [.lit (.bool false)], args := [d1, d2, d3, d4] }
  | _ => none }
def MergePlaysWrongFalsely : Prop := mergePlaysRow.holds Try.pinned (OpenSpec.ofChange mergePlaysWrong)

/-- 'coronerlaw11.MergeRows': WHATEVER THE INPUT: true; the input reads as it did. -/
def mergeRowsSpec : ChangeSpec := { name := "mergeRows", fn := fun _ => fun
  | [d] => { results := [.lit (.bool true)], args := [d] }
  | _ => none }
def mergeRowsRow : OpenClaim := { program := "ytjnipkbnmbnfpaa", sum := "5f7cc71befb1050f204ad02dbd127453a7abddbf2424b824a4d1c5ab00420ba1", func := "coroner/coronerlaw11.MergeRows", spec := "mergeRows", unfollowed := true, recurses := true, plainKeys := false, apart := false }
def MergeRowsSaid : Prop := mergeRowsRow.holds Try.pinned (OpenSpec.ofChange mergeRowsSpec)

/-- ITS FALSE NEIGHBOUR: 'it returns false'. Refute it at one input. -/
def mergeRowsWrong : ChangeSpec := { name := "mergeRows", fn := fun _ => fun
  | [d] => { results := [.lit (.bool false)], args := [d] }
  | _ => none }
def MergeRowsWrongFalsely : Prop := mergeRowsRow.holds Try.pinned (OpenSpec.ofChange mergeRowsWrong)

/-- 'coronerlaw11.MergeNone': WHATEVER THE INPUT: true; the input reads as it did. -/
def mergeNoneSpec : ChangeSpec := { name := "mergeNone", fn := fun _ => fun
  | [d1, d2] => { results := [.lit (.bool true)], args := [d1, d2] }
  | _ => none }
def mergeNoneRow : OpenClaim := { program := "ytjnipkbnmbnfpaa", sum := "5f7cc71befb1050f204ad02dbd127453a7abddbf2424b824a4d1c5ab00420ba1", func := "coroner/coronerlaw11.MergeNone", spec := "mergeNone", unfollowed := true, recurses := true, plainKeys := false, apart := false }
def MergeNoneSaid : Prop := mergeNoneRow.holds Try.pinned (OpenSpec.ofChange mergeNoneSpec)

/-- ITS FALSE NEIGHBOUR: 'it returns false'. Refute it at one input. -/
def mergeNoneWrong : ChangeSpec := { name := "mergeNone", fn := fun _ => fun
  | [d1, d2] => { results := [.lit (.bool false)], args := [d1, d2] }
  | _ => none }
def MergeNoneWrongFalsely : Prop := mergeNoneRow.holds Try.pinned (OpenSpec.ofChange mergeNoneWrong)

/-- 'coronerlaw38.WeaveRuns': WHATEVER THE INPUT: true; the input reads as it did. -/
def weaveRunsSpec : ChangeSpec := { name := "weaveRuns", fn := fun _ => fun
  | [d1, d2, d3, d4] => { results := [.lit (.bool true)], args := [d1, d2, d3, d4] }
  | _ => none }
def weaveRunsRow : OpenClaim := { program := "ytjnipkbnmbnfpaa", sum := "5f7cc71befb1050f204ad02dbd127453a7abddbf2424b824a4d1c5ab00420ba1", func := "coroner/coronerlaw38.WeaveRuns", spec := "weaveRuns", unfollowed := true, recurses := true, plainKeys := false, apart := false }
def WeaveRunsSaid : Prop := weaveRunsRow.holds Try.pinned (OpenSpec.ofChange weaveRunsSpec)

/-- ITS FALSE NEIGHBOUR: 'it returns false'. Refute it at one input. -/
def weaveRunsWrong : ChangeSpec := { name := "weaveRuns", fn := fun _ => fun
  | [d1, d2, d3, d4] => { results := [.lit (.bool false)], args := [d1, d2, d3, d4] }
  | _ => none }
def WeaveRunsWrongFalsely : Prop := weaveRunsRow.holds Try.pinned (OpenSpec.ofChange weaveRunsWrong)

/-- 'coronerlaw38.WeaveEnds': WHATEVER THE INPUT: true; the input reads as it did. -/
def weaveEndsSpec : ChangeSpec := { name := "weaveEnds", fn := fun _ => fun
  | [d1, d2, d3] => { results := [.lit (.bool true)], args := [d1, d2, d3] }
  | _ => none }
def weaveEndsRow : OpenClaim := { program := "ytjnipkbnmbnfpaa", sum := "5f7cc71befb1050f204ad02dbd127453a7abddbf2424b824a4d1c5ab00420ba1", func := "coroner/coronerlaw38.WeaveEnds", spec := "weaveEnds", unfollowed := true, recurses := true, plainKeys := false, apart := false }
def WeaveEndsSaid : Prop := weaveEndsRow.holds Try.pinned (OpenSpec.ofChange weaveEndsSpec)

/-- ITS FALSE NEIGHBOUR: 'it returns false'. Refute it at one input. -/
def weaveEndsWrong : ChangeSpec := { name := "weaveEnds", fn := fun _ => fun
  | [d1, d2, d3] => { results := [.lit (.bool false)], args := [d1, d2, d3] }
  | _ => none }
def WeaveEndsWrongFalsely : Prop := weaveEndsRow.holds Try.pinned (OpenSpec.ofChange weaveEndsWrong)

/- THE SECOND FORM. 'bulk': how many values and letters a reading holds, each counted each time it is reached (what is shared counts as often as it is met; a slice's spare places count too). A statement '..UptoSaid' is the law's where the arguments, and the package variables that the reading takes, are together of bulk at most 1048576: NARROWER than '..Said'. Prove '..Said' where nothing that the law and all that it calls make is longer than what came in: it says more and counts as full. Else prove '..UptoSaid'. A law counts once. -/
mutual
def uptoBulk {H : Type} : DataW H → Nat
  | .lit (.string bytes) => bytes.length + 1
  | .lit _ => 1
  | .nil => 1
  | .ptr d => uptoBulk d + 1
  | .slice elems spare => uptoBulkAll elems + uptoBulkAll spare + 1
  | .agg parts => uptoBulkAll parts + 1
  | .iface _ d => uptoBulk d + 1
  | .map entries => uptoBulkEntries entries + 1
  | .held _ => 1
def uptoBulkAll {H : Type} : List (DataW H) → Nat
  | [] => 0
  | d :: r => uptoBulk d + uptoBulkAll r
def uptoBulkEntries {H : Type} : List (Lit × DataW H) → Nat
  | [] => 0
  | x :: r => uptoBulkEntry x + uptoBulkEntries r
def uptoBulkEntry {H : Type} : Lit × DataW H → Nat
  | (.string bytes, d) => bytes.length + uptoBulk d + 1
  | (_, d) => uptoBulk d + 1
 end
def uptoSmall : (H : Type) → List (DataW H) → Bool := fun _ ds => decide (uptoBulkAll ds ≤ 1048576)
def OpenSpec.upto (s : _root_.Go.ChangeSpec) : _root_.Go.OpenSpec := { _root_.Go.OpenSpec.ofChange s with cond := some uptoSmall }

/-- 'coronerlaw10.PoolNone', WHERE WHAT IT READS IS OF BULK AT MOST 1048576: true; the input reads as it did. -/
def poolNoneUptoRow : OpenClaim := { program := "ytjnipkbnmbnfpaa", sum := "5f7cc71befb1050f204ad02dbd127453a7abddbf2424b824a4d1c5ab00420ba1", func := "coroner/coronerlaw10.PoolNone", spec := "poolNone", unfollowed := true, recurses := true, plainKeys := false, apart := false, narrowed := true }
def PoolNoneUptoSaid : Prop := poolNoneUptoRow.holds Try.pinned (OpenSpec.upto poolNoneSpec)

/-- 'coronerlaw10.PoolPlays', WHERE WHAT IT READS IS OF BULK AT MOST 1048576: true; the input reads as it did. -/
def poolPlaysUptoRow : OpenClaim := { program := "ytjnipkbnmbnfpaa", sum := "5f7cc71befb1050f204ad02dbd127453a7abddbf2424b824a4d1c5ab00420ba1", func := "coroner/coronerlaw10.PoolPlays", spec := "poolPlays", unfollowed := true, recurses := true, plainKeys := false, apart := false, narrowed := true }
def PoolPlaysUptoSaid : Prop := poolPlaysUptoRow.holds Try.pinned (OpenSpec.upto poolPlaysSpec)

/-- 'coronerlaw10.PoolAll', WHERE WHAT IT READS IS OF BULK AT MOST 1048576: true; the input reads as it did. -/
def poolAllUptoRow : OpenClaim := { program := "ytjnipkbnmbnfpaa", sum := "5f7cc71befb1050f204ad02dbd127453a7abddbf2424b824a4d1c5ab00420ba1", func := "coroner/coronerlaw10.PoolAll", spec := "poolAll", unfollowed := true, recurses := true, plainKeys := false, apart := false, narrowed := true }
def PoolAllUptoSaid : Prop := poolAllUptoRow.holds Try.pinned (OpenSpec.upto poolAllSpec)

/-- 'coronerlaw10.PoolCancel', WHERE WHAT IT READS IS OF BULK AT MOST 1048576: true; the input reads as it did. -/
def poolCancelUptoRow : OpenClaim := { program := "ytjnipkbnmbnfpaa", sum := "5f7cc71befb1050f204ad02dbd127453a7abddbf2424b824a4d1c5ab00420ba1", func := "coroner/coronerlaw10.PoolCancel", spec := "poolCancel", unfollowed := true, recurses := true, plainKeys := false, apart := false, narrowed := true }
def PoolCancelUptoSaid : Prop := poolCancelUptoRow.holds Try.pinned (OpenSpec.upto poolCancelSpec)

/-- 'coronerlaw11.MergeSame', WHERE WHAT IT READS IS OF BULK AT MOST 1048576: true; the input reads as it did. -/
def mergeSameUptoRow : OpenClaim := { program := "ytjnipkbnmbnfpaa", sum := "5f7cc71befb1050f204ad02dbd127453a7abddbf2424b824a4d1c5ab00420ba1", func := "coroner/coronerlaw11.MergeSame", spec := "mergeSame", unfollowed := true, recurses := true, plainKeys := false, apart := false, narrowed := true }
def MergeSameUptoSaid : Prop := mergeSameUptoRow.holds Try.pinned (OpenSpec.upto mergeSameSpec)

/-- 'coronerlaw11.MergeCancel', WHERE WHAT IT READS IS OF BULK AT MOST 1048576: true; the input reads as it did. -/
def mergeCancelUptoRow : OpenClaim := { program := "ytjnipkbnmbnfpaa", sum := "5f7cc71befb1050f204ad02dbd127453a7abddbf2424b824a4d1c5ab00420ba1", func := "coroner/coronerlaw11.MergeCancel", spec := "mergeCancel", unfollowed := true, recurses := true, plainKeys := false, apart := false, narrowed := true }
def MergeCancelUptoSaid : Prop := mergeCancelUptoRow.holds Try.pinned (OpenSpec.upto mergeCancelSpec)

/-- 'coronerlaw11.MergePlays', WHERE WHAT IT READS IS OF BULK AT MOST 1048576: true; the input reads as it did. -/
def mergePlaysUptoRow : OpenClaim := { program := "ytjnipkbnmbnfpaa", sum := "5f7cc71befb1050f204ad02dbd127453a7abddbf2424b824a4d1c5ab00420ba1", func := "coroner/coronerlaw11.MergePlays", spec := "mergePlays", unfollowed := true, recurses := true, plainKeys := false, apart := false, narrowed := true }
def MergePlaysUptoSaid : Prop := mergePlaysUptoRow.holds Try.pinned (OpenSpec.upto mergePlaysSpec)

/-- 'coronerlaw11.MergeRows', WHERE WHAT IT READS IS OF BULK AT MOST 1048576: true; the input reads as it did. -/
def mergeRowsUptoRow : OpenClaim := { program := "ytjnipkbnmbnfpaa", sum := "5f7cc71befb1050f204ad02dbd127453a7abddbf2424b824a4d1c5ab00420ba1", func := "coroner/coronerlaw11.MergeRows", spec := "mergeRows", unfollowed := true, recurses := true, plainKeys := false, apart := false, narrowed := true }
def MergeRowsUptoSaid : Prop := mergeRowsUptoRow.holds Try.pinned (OpenSpec.upto mergeRowsSpec)

/-- 'coronerlaw11.MergeNone', WHERE WHAT IT READS IS OF BULK AT MOST 1048576: true; the input reads as it did. -/
def mergeNoneUptoRow : OpenClaim := { program := "ytjnipkbnmbnfpaa", sum := "5f7cc71befb1050f204ad02dbd127453a7abddbf2424b824a4d1c5ab00420ba1", func := "coroner/coronerlaw11.MergeNone", spec := "mergeNone", unfollowed := true, recurses := true, plainKeys := false, apart := false, narrowed := true }
def MergeNoneUptoSaid : Prop := mergeNoneUptoRow.holds Try.pinned (OpenSpec.upto mergeNoneSpec)

/-- 'coronerlaw38.WeaveRuns', WHERE WHAT IT READS IS OF BULK AT MOST 1048576: true; the input reads as it did. -/
def weaveRunsUptoRow : OpenClaim := { program := "ytjnipkbnmbnfpaa", sum := "5f7cc71befb1050f204ad02dbd127453a7abddbf2424b824a4d1c5ab00420ba1", func := "coroner/coronerlaw38.WeaveRuns", spec := "weaveRuns", unfollowed := true, recurses := true, plainKeys := false, apart := false, narrowed := true }
def WeaveRunsUptoSaid : Prop := weaveRunsUptoRow.holds Try.pinned (OpenSpec.upto weaveRunsSpec)

/-- 'coronerlaw38.WeaveEnds', WHERE WHAT IT READS IS OF BULK AT MOST 1048576: true; the input reads as it did. -/
def weaveEndsUptoRow : OpenClaim := { program := "ytjnipkbnmbnfpaa", sum := "5f7cc71befb1050f204ad02dbd127453a7abddbf2424b824a4d1c5ab00420ba1", func := "coroner/coronerlaw38.WeaveEnds", spec := "weaveEnds", unfollowed := true, recurses := true, plainKeys := false, apart := false, narrowed := true }
def WeaveEndsUptoSaid : Prop := weaveEndsUptoRow.holds Try.pinned (OpenSpec.upto weaveEndsSpec)

end Rows
end Go.Proofs.Ytjnipkbnmbnfpaa
