/-
  No cell of these rows narrows 'for every input' (looked for: loops, veiled, ifaces, maps, wideKeys, modest, calm, conditions, laid).
  DERIVED. THE GIVEN ROWS OF THIS SEAT. 8 by the template 'for every input the law returns true; each argument reads behind the call as it read before'; 0 by the template 'total and deterministic' (their statements: YtialmffcjaechaaTotals.lean).
  GIVEN WITH THE SEED: the statements are not yours to turn. If you find one false, say at which input.
  Laid BY PROGRAM, IN A SANDBOX (cutbox-rows.mjs): the forced cells as the released guide's own fill.sh prints them over the translation 6c1e69c1882165b6… (all of the seat's roots in one cut). By AI agents, Wed Nov 11 2026. No macro, syntax, notation, axiom, sorry.
-/
import Derived.Test.YtialmffcjaechaaChecked
import GoSem.Claim
import GoSem.ClaimJoined
import GoSem.ClaimMapViews
import Derived.JoinedTies
import Derived.KernelRfl
namespace Go.Proofs.Ytialmffcjaechaa
/- THE CELL 'sum', in the pinned program and in every row, IS THE sha256 OF THE DUMP (.gsa) THAT YtialmffcjaechaaProg.lean LOADS. Nothing in Lean hashes anything: it is a label: what it is worth is what the hold of that sum in a sandbox is worth. -/
noncomputable def Try.pinned : Pinned := { name := "ytialmffcjaechaa", sum := "6c1e69c1882165b63bb5c4bbef3001b874def705e0a995003795c9bdb6d566aa", checked := Try.checked }
namespace Rows
def none {H : Type} : Left H := { results := [], args := [] }

/-- 'coronerlaw15.PrefixPairs': WHATEVER THE INPUT: true; the input reads as it did. -/
def prefixPairsSpec : ChangeSpec := { name := "prefixPairs", fn := fun _ => fun
  | [d1, d2] => { results := [.lit (.bool true)], args := [d1, d2] }
  | _ => none }
def prefixPairsRow : OpenClaim := { program := "ytialmffcjaechaa", sum := "6c1e69c1882165b63bb5c4bbef3001b874def705e0a995003795c9bdb6d566aa", func := "coroner/coronerlaw15.PrefixPairs", spec := "prefixPairs", apart := false }
def PrefixPairsSaid : Prop := prefixPairsRow.holds Try.pinned (OpenSpec.ofChange prefixPairsSpec)

/-- ITS FALSE NEIGHBOUR: 'it returns false'. Refute it at one input. -/
def prefixPairsWrong : ChangeSpec := { name := "prefixPairs", fn := fun _ => fun
  | [d1, d2] => { results := [.lit (.bool false)], args := [d1, d2] }
  | _ => none }
def PrefixPairsWrongFalsely : Prop := prefixPairsRow.holds Try.pinned (OpenSpec.ofChange prefixPairsWrong)

/-- 'coronerlaw15.PrefixLongest': WHATEVER THE INPUT: true; the input reads as it did. -/
def prefixLongestSpec : ChangeSpec := { name := "prefixLongest", fn := fun _ => fun
  | [d] => { results := [.lit (.bool true)], args := [d] }
  | _ => none }
def prefixLongestRow : OpenClaim := { program := "ytialmffcjaechaa", sum := "6c1e69c1882165b63bb5c4bbef3001b874def705e0a995003795c9bdb6d566aa", func := "coroner/coronerlaw15.PrefixLongest", spec := "prefixLongest", apart := false }
def PrefixLongestSaid : Prop := prefixLongestRow.holds Try.pinned (OpenSpec.ofChange prefixLongestSpec)

/-- ITS FALSE NEIGHBOUR: 'it returns false'. Refute it at one input. -/
def prefixLongestWrong : ChangeSpec := { name := "prefixLongest", fn := fun _ => fun
  | [d] => { results := [.lit (.bool false)], args := [d] }
  | _ => none }
def PrefixLongestWrongFalsely : Prop := prefixLongestRow.holds Try.pinned (OpenSpec.ofChange prefixLongestWrong)

/-- 'coronerlaw15.PrefixAll': WHATEVER THE INPUT: true; the input reads as it did. -/
def prefixAllSpec : ChangeSpec := { name := "prefixAll", fn := fun _ => fun
  | [d] => { results := [.lit (.bool true)], args := [d] }
  | _ => none }
def prefixAllRow : OpenClaim := { program := "ytialmffcjaechaa", sum := "6c1e69c1882165b63bb5c4bbef3001b874def705e0a995003795c9bdb6d566aa", func := "coroner/coronerlaw15.PrefixAll", spec := "prefixAll", apart := false }
def PrefixAllSaid : Prop := prefixAllRow.holds Try.pinned (OpenSpec.ofChange prefixAllSpec)

/-- ITS FALSE NEIGHBOUR: 'it returns false'. Refute it at one input. -/
def prefixAllWrong : ChangeSpec := { name := "prefixAll", fn := fun _ => fun
  | [d] => { results := [.lit (.bool false)], args := [d] }
  | _ => none }
def PrefixAllWrongFalsely : Prop := prefixAllRow.holds Try.pinned (OpenSpec.ofChange prefixAllWrong)

/-- 'coronerlaw15.PrefixTexts': WHATEVER THE INPUT: true; the input reads as it did. -/
def prefixTextsSpec : ChangeSpec := { name := "prefixTexts", fn := fun _ => fun
  | [d1, d2, d3] => { results := [.lit (.bool true)], args := [d1, d2, d3] }
  | _ => none }
def prefixTextsRow : OpenClaim := { program := "ytialmffcjaechaa", sum := "6c1e69c1882165b63bb5c4bbef3001b874def705e0a995003795c9bdb6d566aa", func := "coroner/coronerlaw15.PrefixTexts", spec := "prefixTexts", apart := false }
def PrefixTextsSaid : Prop := prefixTextsRow.holds Try.pinned (OpenSpec.ofChange prefixTextsSpec)

/-- ITS FALSE NEIGHBOUR: 'it returns false'. Refute it at one input. -/
def prefixTextsWrong : ChangeSpec := { name := "prefixTexts", fn := fun _ => fun
  | [d1, d2, d3] => { results := [.lit (.bool false)], args := [d1, d2, d3] }
  | _ => none }
def PrefixTextsWrongFalsely : Prop := prefixTextsRow.holds Try.pinned (OpenSpec.ofChange prefixTextsWrong)

/-- 'coronerlaw09.PicksSteps': WHATEVER THE INPUT: true; the input reads as it did. -/
def picksStepsSpec : ChangeSpec := { name := "picksSteps", fn := fun _ => fun
  | [d1, d2, d3] => { results := [.lit (.bool true)], args := [d1, d2, d3] }
  | _ => none }
def picksStepsRow : OpenClaim := { program := "ytialmffcjaechaa", sum := "6c1e69c1882165b63bb5c4bbef3001b874def705e0a995003795c9bdb6d566aa", func := "coroner/coronerlaw09.PicksSteps", spec := "picksSteps", recurses := true, apart := false }
def PicksStepsSaid : Prop := picksStepsRow.holds Try.pinned (OpenSpec.ofChange picksStepsSpec)

/-- ITS FALSE NEIGHBOUR: 'it returns false'. Refute it at one input. -/
def picksStepsWrong : ChangeSpec := { name := "picksSteps", fn := fun _ => fun
  | [d1, d2, d3] => { results := [.lit (.bool false)], args := [d1, d2, d3] }
  | _ => none }
def PicksStepsWrongFalsely : Prop := picksStepsRow.holds Try.pinned (OpenSpec.ofChange picksStepsWrong)

/-- 'coronerlaw09.PicksReady': WHATEVER THE INPUT: true; the input reads as it did. -/
def picksReadySpec : ChangeSpec := { name := "picksReady", fn := fun _ => fun
  | [d1, d2] => { results := [.lit (.bool true)], args := [d1, d2] }
  | _ => none }
def picksReadyRow : OpenClaim := { program := "ytialmffcjaechaa", sum := "6c1e69c1882165b63bb5c4bbef3001b874def705e0a995003795c9bdb6d566aa", func := "coroner/coronerlaw09.PicksReady", spec := "picksReady", recurses := true, apart := false }
def PicksReadySaid : Prop := picksReadyRow.holds Try.pinned (OpenSpec.ofChange picksReadySpec)

/-- ITS FALSE NEIGHBOUR: 'it returns false'. Refute it at one input. -/
def picksReadyWrong : ChangeSpec := { name := "picksReady", fn := fun _ => fun
  | [d1, d2] => { results := [.lit (.bool false)], args := [d1, d2] }
  | _ => none }
def PicksReadyWrongFalsely : Prop := picksReadyRow.holds Try.pinned (OpenSpec.ofChange picksReadyWrong)

/-- 'coronerlaw09.PicksCancel': WHATEVER THE INPUT: true; the input reads as it did. -/
def picksCancelSpec : ChangeSpec := { name := "picksCancel", fn := fun _ => fun
  | [d1, d2, d3] => { results := [.lit (.bool true)], args := [d1, d2, d3] }
  | _ => none }
def picksCancelRow : OpenClaim := { program := "ytialmffcjaechaa", sum := "6c1e69c1882165b63bb5c4bbef3001b874def705e0a995003795c9bdb6d566aa", func := "coroner/coronerlaw09.PicksCancel", spec := "picksCancel", recurses := true, apart := false }
def PicksCancelSaid : Prop := picksCancelRow.holds Try.pinned (OpenSpec.ofChange picksCancelSpec)

/-- ITS FALSE NEIGHBOUR: 'it returns false'. Refute it at one input. -/
def picksCancelWrong : ChangeSpec := { name := "picksCancel", fn := fun _ => fun
  | [d1, d2, d3] => { results := [.lit (.bool false)], args := [d1, d2, d3] }
  | _ => none }
def PicksCancelWrongFalsely : Prop := picksCancelRow.holds Try.pinned (OpenSpec.ofChange picksCancelWrong)

/-- 'coronerlaw09.PicksNone': WHATEVER THE INPUT: true; the input reads as it did. -/
def picksNoneSpec : ChangeSpec := { name := "picksNone", fn := fun _ => fun
  | [d1, d2] => { results := [.lit (.bool true)], args := [d1, d2] }
  | _ => none }
def picksNoneRow : OpenClaim := { program := "ytialmffcjaechaa", sum := "6c1e69c1882165b63bb5c4bbef3001b874def705e0a995003795c9bdb6d566aa", func := "coroner/coronerlaw09.PicksNone", spec := "picksNone", recurses := true, apart := false }
def PicksNoneSaid : Prop := picksNoneRow.holds Try.pinned (OpenSpec.ofChange picksNoneSpec)

/-- ITS FALSE NEIGHBOUR: 'it returns false'. Refute it at one input. -/
def picksNoneWrong : ChangeSpec := { name := "picksNone", fn := fun _ => fun
  | [d1, d2] => { results := [.lit (.bool false)], args := [d1, d2] }
  | _ => none }
def PicksNoneWrongFalsely : Prop := picksNoneRow.holds Try.pinned (OpenSpec.ofChange picksNoneWrong)

/- THE SECOND FORM. 'bulk': how many values and letters a reading holds, each counted each time it is reached (what is shared counts as often as it is met; a slice's spare places count too). A statement '..UptoSaid' is the law's where the arguments, and the package variables that the reading takes, are together of bulk at most 1048576: NARROWER than '..Said'. Prove '..Said' where nothing that the law and all that it calls make is longer than what came in: it says more and counts as full. Else prove '..UptoSaid'. A law counts once. -/
mutual
def uptoBulk {H : Type} : DataW H → Nat
  | .lit (.string bytes) => bytes.length + 1
  | .lit _ => 1
  | .nil => 1
  | .ptr d => uptoBulk d + 1
  | .slice elems spare => uptoBulkAll elems + uptoBulkAll spare + 1
  | .agg parts => uptoBulkAll parts + 1
  | .iface _ d => uptoBulk d + 1
  | .map entries => uptoBulkEntries entries + 1
  | .held _ => 1
def uptoBulkAll {H : Type} : List (DataW H) → Nat
  | [] => 0
  | d :: r => uptoBulk d + uptoBulkAll r
def uptoBulkEntries {H : Type} : List (Lit × DataW H) → Nat
  | [] => 0
  | x :: r => uptoBulkEntry x + uptoBulkEntries r
def uptoBulkEntry {H : Type} : Lit × DataW H → Nat
  | (.string bytes, d) => bytes.length + uptoBulk d + 1
  | (_, d) => uptoBulk d + 1
 end
def uptoSmall : (H : Type) → List (DataW H) → Bool := fun _ ds => decide (uptoBulkAll ds ≤ 1048576)
def OpenSpec.upto (s : _root_.Go.ChangeSpec) : _root_.Go.OpenSpec := { _root_.Go.OpenSpec.ofChange s with cond := some uptoSmall }

/-- 'coronerlaw15.PrefixPairs', WHERE WHAT IT READS IS OF BULK AT MOST 1048576: true; the input reads as it did. -/
def prefixPairsUptoRow : OpenClaim := { program := "ytialmffcjaechaa", sum := "6c1e69c1882165b63bb5c4bbef3001b874def705e0a995003795c9bdb6d566aa", func := "coroner/coronerlaw15.PrefixPairs", spec := "prefixPairs", apart := false, narrowed := true }
def PrefixPairsUptoSaid : Prop := prefixPairsUptoRow.holds Try.pinned (OpenSpec.upto prefixPairsSpec)

/-- 'coronerlaw15.PrefixLongest', WHERE WHAT IT READS IS OF BULK AT MOST 1048576: true; the input reads as it did. -/
def prefixLongestUptoRow : OpenClaim := { program := "ytialmffcjaechaa", sum := "6c1e69c1882165b63bb5c4bbef3001b874def705e0a995003795c9bdb6d566aa", func := "coroner/coronerlaw15.PrefixLongest", spec := "prefixLongest", apart := false, narrowed := true }
def PrefixLongestUptoSaid : Prop := prefixLongestUptoRow.holds Try.pinned (OpenSpec.upto prefixLongestSpec)

/-- 'coronerlaw15.PrefixAll', WHERE WHAT IT READS IS OF BULK AT MOST 1048576: true; the input reads as it did. -/
def prefixAllUptoRow : OpenClaim := { program := "ytialmffcjaechaa", sum := "6c1e69c1882165b63bb5c4bbef3001b874def705e0a995003795c9bdb6d566aa", func := "coroner/coronerlaw15.PrefixAll", spec := "prefixAll", apart := false, narrowed := true }
def PrefixAllUptoSaid : Prop := prefixAllUptoRow.holds Try.pinned (OpenSpec.upto prefixAllSpec)

/-- 'coronerlaw15.PrefixTexts', WHERE WHAT IT READS IS OF BULK AT MOST 1048576: true; the input reads as it did. -/
def prefixTextsUptoRow : OpenClaim := { program := "ytialmffcjaechaa", sum := "6c1e69c1882165b63bb5c4bbef3001b874def705e0a995003795c9bdb6d566aa", func := "coroner/coronerlaw15.PrefixTexts", spec := "prefixTexts", apart := false, narrowed := true }
def PrefixTextsUptoSaid : Prop := prefixTextsUptoRow.holds Try.pinned (OpenSpec.upto prefixTextsSpec)

/-- 'coronerlaw09.PicksSteps', WHERE WHAT IT READS IS OF BULK AT MOST 1048576: true; the input reads as it did. -/
def picksStepsUptoRow : OpenClaim := { program := "ytialmffcjaechaa", sum := "6c1e69c1882165b63bb5c4bbef3001b874def705e0a995003795c9bdb6d566aa", func := "coroner/coronerlaw09.PicksSteps", spec := "picksSteps", recurses := true, apart := false, narrowed := true }
def PicksStepsUptoSaid : Prop := picksStepsUptoRow.holds Try.pinned (OpenSpec.upto picksStepsSpec)

/-- 'coronerlaw09.PicksReady', WHERE WHAT IT READS IS OF BULK AT MOST 1048576: true; the input reads as it did. -/
def picksReadyUptoRow : OpenClaim := { program := "ytialmffcjaechaa", sum := "6c1e69c1882165b63bb5c4bbef3001b874def705e0a995003795c9bdb6d566aa", func := "coroner/coronerlaw09.PicksReady", spec := "picksReady", recurses := true, apart := false, narrowed := true }
def PicksReadyUptoSaid : Prop := picksReadyUptoRow.holds Try.pinned (OpenSpec.upto picksReadySpec)

/-- 'coronerlaw09.PicksCancel', WHERE WHAT IT READS IS OF BULK AT MOST 1048576: true; the input reads as it did. -/
def picksCancelUptoRow : OpenClaim := { program := "ytialmffcjaechaa", sum := "6c1e69c1882165b63bb5c4bbef3001b874def705e0a995003795c9bdb6d566aa", func := "coroner/coronerlaw09.PicksCancel", spec := "picksCancel", recurses := true, apart := false, narrowed := true }
def PicksCancelUptoSaid : Prop := picksCancelUptoRow.holds Try.pinned (OpenSpec.upto picksCancelSpec)

/-- 'coronerlaw09.PicksNone', WHERE WHAT IT READS IS OF BULK AT MOST 1048576: true; the input reads as it did. -/
def picksNoneUptoRow : OpenClaim := { program := "ytialmffcjaechaa", sum := "6c1e69c1882165b63bb5c4bbef3001b874def705e0a995003795c9bdb6d566aa", func := "coroner/coronerlaw09.PicksNone", spec := "picksNone", recurses := true, apart := false, narrowed := true }
def PicksNoneUptoSaid : Prop := picksNoneUptoRow.holds Try.pinned (OpenSpec.upto picksNoneSpec)

end Rows
end Go.Proofs.Ytialmffcjaechaa
