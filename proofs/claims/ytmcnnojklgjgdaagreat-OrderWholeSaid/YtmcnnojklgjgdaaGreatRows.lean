/-
  No cell of these rows narrows 'for every input' (looked for: loops, veiled, ifaces, maps, wideKeys, modest, calm, conditions, laid).
  DERIVED. THE GIVEN ROWS OF THIS SEAT. 6 by the template 'for every input the law returns true; each argument reads behind the call as it read before'; 0 by the template 'total and deterministic' (their statements: YtmcnnojklgjgdaaGreatTotals.lean).
  GIVEN WITH THE SEED: the statements are not yours to turn. If you find one false, say at which input.
  Laid BY PROGRAM, IN A SANDBOX (cutbox-rows.mjs): the forced cells as the released guide's own fill.sh prints them over the translation ca2ba723f39bb77b… (all of the seat's roots in one cut). By AI agents, Wed Nov 11 2026. No macro, syntax, notation, axiom, sorry.
-/
import Derived.Test.YtmcnnojklgjgdaaGreatChecked
import GoSem.Claim
import GoSem.ClaimJoined
import GoSem.ClaimMapViews
import Derived.JoinedTies
import Derived.KernelRfl
namespace Go.Proofs.YtmcnnojklgjgdaaGreat
/- THE CELL 'sum', in the pinned program and in every row, IS THE sha256 OF THE DUMP (.gsa) THAT YtmcnnojklgjgdaaGreatProg.lean LOADS. Nothing in Lean hashes anything: it is a label: what it is worth is what the hold of that sum in a sandbox is worth. -/
noncomputable def Tryz.pinned : Pinned := { name := "ytmcnnojklgjgdaagreat", sum := "ca2ba723f39bb77b2fc8ef24ec2e9d837c5a250fcbbe941ff479dac27c6301a9", checked := Tryz.checked }
namespace Rows
def none {H : Type} : Left H := { results := [], args := [] }

/-- 'coronerlaw16.OrderKeys': WHATEVER THE INPUT: true; the input reads as it did. -/
def orderKeysSpec : ChangeSpec := { name := "orderKeys", fn := fun _ => fun
  | [d1, d2, d3] => { results := [.lit (.bool true)], args := [d1, d2, d3] }
  | _ => none }
def orderKeysRow : OpenClaim := { program := "ytmcnnojklgjgdaagreat", sum := "ca2ba723f39bb77b2fc8ef24ec2e9d837c5a250fcbbe941ff479dac27c6301a9", func := "coroner/coronerlaw16.OrderKeys", spec := "orderKeys", unfollowed := true, recurses := true, plainKeys := false, apart := false }
def OrderKeysSaid : Prop := orderKeysRow.holds Tryz.pinned (OpenSpec.ofChange orderKeysSpec)

/-- ITS FALSE NEIGHBOUR: 'it returns false'. Refute it at one input. -/
def orderKeysWrong : ChangeSpec := { name := "orderKeys", fn := fun _ => fun
  | [d1, d2, d3] => { results := [.lit (.bool false)], args := [d1, d2, d3] }
  | _ => none }
def OrderKeysWrongFalsely : Prop := orderKeysRow.holds Tryz.pinned (OpenSpec.ofChange orderKeysWrong)

/-- 'coronerlaw16.OrderCleans': WHATEVER THE INPUT: true; the input reads as it did. -/
def orderCleansSpec : ChangeSpec := { name := "orderCleans", fn := fun _ => fun
  | [d1, d2] => { results := [.lit (.bool true)], args := [d1, d2] }
  | _ => none }
def orderCleansRow : OpenClaim := { program := "ytmcnnojklgjgdaagreat", sum := "ca2ba723f39bb77b2fc8ef24ec2e9d837c5a250fcbbe941ff479dac27c6301a9", func := "coroner/coronerlaw16.OrderCleans", spec := "orderCleans", unfollowed := true, recurses := true, plainKeys := false, apart := false }
def OrderCleansSaid : Prop := orderCleansRow.holds Tryz.pinned (OpenSpec.ofChange orderCleansSpec)

/-- ITS FALSE NEIGHBOUR: 'it returns false'. Refute it at one input. -/
def orderCleansWrong : ChangeSpec := { name := "orderCleans", fn := fun _ => fun
  | [d1, d2] => { results := [.lit (.bool false)], args := [d1, d2] }
  | _ => none }
def OrderCleansWrongFalsely : Prop := orderCleansRow.holds Tryz.pinned (OpenSpec.ofChange orderCleansWrong)

/-- 'coronerlaw16.OrderFinds': WHATEVER THE INPUT: true; the input reads as it did. -/
def orderFindsSpec : ChangeSpec := { name := "orderFinds", fn := fun _ => fun
  | [d] => { results := [.lit (.bool true)], args := [d] }
  | _ => none }
def orderFindsRow : OpenClaim := { program := "ytmcnnojklgjgdaagreat", sum := "ca2ba723f39bb77b2fc8ef24ec2e9d837c5a250fcbbe941ff479dac27c6301a9", func := "coroner/coronerlaw16.OrderFinds", spec := "orderFinds", unfollowed := true, recurses := true, plainKeys := false, apart := false }
def OrderFindsSaid : Prop := orderFindsRow.holds Tryz.pinned (OpenSpec.ofChange orderFindsSpec)

/-- ITS FALSE NEIGHBOUR: 'it returns false'. Refute it at one input. -/
def orderFindsWrong : ChangeSpec := { name := "orderFinds", fn := fun _ => fun
  | [d] => { results := [.lit (.bool false)], args := [d] }
  | _ => none }
def OrderFindsWrongFalsely : Prop := orderFindsRow.holds Tryz.pinned (OpenSpec.ofChange orderFindsWrong)

/-- 'coronerlaw16.OrderWhole': WHATEVER THE INPUT: true; the input reads as it did. -/
def orderWholeSpec : ChangeSpec := { name := "orderWhole", fn := fun _ => fun
  | [d1, d2] => { results := [.lit (.bool true)], args := [d1, d2] }
  | _ => none }
def orderWholeRow : OpenClaim := { program := "ytmcnnojklgjgdaagreat", sum := "ca2ba723f39bb77b2fc8ef24ec2e9d837c5a250fcbbe941ff479dac27c6301a9", func := "coroner/coronerlaw16.OrderWhole", spec := "orderWhole", unfollowed := true, recurses := true, plainKeys := false, apart := false }
def OrderWholeSaid : Prop := orderWholeRow.holds Tryz.pinned (OpenSpec.ofChange orderWholeSpec)

/-- ITS FALSE NEIGHBOUR: 'it returns false'. Refute it at one input. -/
def orderWholeWrong : ChangeSpec := { name := "orderWhole", fn := fun _ => fun
  | [d1, d2] => { results := [.lit (.bool false)], args := [d1, d2] }
  | _ => none }
def OrderWholeWrongFalsely : Prop := orderWholeRow.holds Tryz.pinned (OpenSpec.ofChange orderWholeWrong)

/-- 'coronerlaw13.ReadsKinds': WHATEVER THE INPUT: true; the input reads as it did. -/
def readsKindsSpec : ChangeSpec := { name := "readsKinds", fn := fun _ => fun
  | [d1, d2] => { results := [.lit (.bool true)], args := [d1, d2] }
  | _ => none }
def readsKindsRow : OpenClaim := { program := "ytmcnnojklgjgdaagreat", sum := "ca2ba723f39bb77b2fc8ef24ec2e9d837c5a250fcbbe941ff479dac27c6301a9", func := "coroner/coronerlaw13.ReadsKinds", spec := "readsKinds", unfollowed := true, recurses := true, plainKeys := false, apart := false }
def ReadsKindsSaid : Prop := readsKindsRow.holds Tryz.pinned (OpenSpec.ofChange readsKindsSpec)

/-- ITS FALSE NEIGHBOUR: 'it returns false'. Refute it at one input. -/
def readsKindsWrong : ChangeSpec := { name := "readsKinds", fn := fun _ => fun
  | [d1, d2] => { results := [.lit (.bool false)], args := [d1, d2] }
  | _ => none }
def ReadsKindsWrongFalsely : Prop := readsKindsRow.holds Tryz.pinned (OpenSpec.ofChange readsKindsWrong)

/-- 'coronerlaw13.ReadsSound': WHATEVER THE INPUT: true; the input reads as it did. -/
def readsSoundSpec : ChangeSpec := { name := "readsSound", fn := fun _ => fun
  | [d1, d2, d3] => { results := [.lit (.bool true)], args := [d1, d2, d3] }
  | _ => none }
def readsSoundRow : OpenClaim := { program := "ytmcnnojklgjgdaagreat", sum := "ca2ba723f39bb77b2fc8ef24ec2e9d837c5a250fcbbe941ff479dac27c6301a9", func := "coroner/coronerlaw13.ReadsSound", spec := "readsSound", unfollowed := true, recurses := true, plainKeys := false, apart := false }
def ReadsSoundSaid : Prop := readsSoundRow.holds Tryz.pinned (OpenSpec.ofChange readsSoundSpec)

/-- ITS FALSE NEIGHBOUR: 'it returns false'. Refute it at one input. -/
def readsSoundWrong : ChangeSpec := { name := "readsSound", fn := fun _ => fun
  | [d1, d2, d3] => { results := [.lit (.bool false)], args := [d1, d2, d3] }
  | _ => none }
def ReadsSoundWrongFalsely : Prop := readsSoundRow.holds Tryz.pinned (OpenSpec.ofChange readsSoundWrong)

/- THE SECOND FORM. 'bulk': how many values and letters a reading holds, each counted each time it is reached (what is shared counts as often as it is met; a slice's spare places count too). A statement '..UptoSaid' is the law's where the arguments, and the package variables that the reading takes, are together of bulk at most 1048576: NARROWER than '..Said'. Prove '..Said' where nothing that the law and all that it calls make is longer than what came in: it says more and counts as full. Else prove '..UptoSaid'. A law counts once. -/
mutual
def uptoBulk {H : Type} : DataW H → Nat
  | .lit (.string bytes) => bytes.length + 1
  | .lit _ => 1
  | .nil => 1
  | .ptr d => uptoBulk d + 1
  | .slice elems spare => uptoBulkAll elems + uptoBulkAll spare + 1
  | .agg parts => uptoBulkAll parts + 1
  | .iface _ d => uptoBulk d + 1
  | .map entries => uptoBulkEntries entries + 1
  | .held _ => 1
def uptoBulkAll {H : Type} : List (DataW H) → Nat
  | [] => 0
  | d :: r => uptoBulk d + uptoBulkAll r
def uptoBulkEntries {H : Type} : List (Lit × DataW H) → Nat
  | [] => 0
  | x :: r => uptoBulkEntry x + uptoBulkEntries r
def uptoBulkEntry {H : Type} : Lit × DataW H → Nat
  | (.string bytes, d) => bytes.length + uptoBulk d + 1
  | (_, d) => uptoBulk d + 1
 end
def uptoSmall : (H : Type) → List (DataW H) → Bool := fun _ ds => decide (uptoBulkAll ds ≤ 1048576)
def OpenSpec.upto (s : _root_.Go.ChangeSpec) : _root_.Go.OpenSpec := { _root_.Go.OpenSpec.ofChange s with cond := some uptoSmall }

/-- 'coronerlaw16.OrderKeys', WHERE WHAT IT READS IS OF BULK AT MOST 1048576: true; the input reads as it did. -/
def orderKeysUptoRow : OpenClaim := { program := "ytmcnnojklgjgdaagreat", sum := "ca2ba723f39bb77b2fc8ef24ec2e9d837c5a250fcbbe941ff479dac27c6301a9", func := "coroner/coronerlaw16.OrderKeys", spec := "orderKeys", unfollowed := true, recurses := true, plainKeys := false, apart := false, narrowed := true }
def OrderKeysUptoSaid : Prop := orderKeysUptoRow.holds Tryz.pinned (OpenSpec.upto orderKeysSpec)

/-- 'coronerlaw16.OrderCleans', WHERE WHAT IT READS IS OF BULK AT MOST 1048576: true; the input reads as it did. -/
def orderCleansUptoRow : OpenClaim := { program := "ytmcnnojklgjgdaagreat", sum := "ca2ba723f39bb77b2fc8ef24ec2e9d837c5a250fcbbe941ff479dac27c6301a9", func := "coroner/coronerlaw16.OrderCleans", spec := "orderCleans", unfollowed := true, recurses := true, plainKeys := false, apart := false, narrowed := true }
def OrderCleansUptoSaid : Prop := orderCleansUptoRow.holds Tryz.pinned (OpenSpec.upto orderCleansSpec)

/-- 'coronerlaw16.OrderFinds', WHERE WHAT IT READS IS OF BULK AT MOST 1048576: true; the input reads as it did. -/
def orderFindsUptoRow : OpenClaim := { program := "ytmcnnojklgjgdaagreat", sum := "ca2ba723f39bb77b2fc8ef24ec2e9d837c5a250fcbbe941ff479dac27c6301a9", func := "coroner/coronerlaw16.OrderFinds", spec := "orderFinds", unfollowed := true, recurses := true, plainKeys := false, apart := false, narrowed := true }
def OrderFindsUptoSaid : Prop := orderFindsUptoRow.holds Tryz.pinned (OpenSpec.upto orderFindsSpec)

/-- 'coronerlaw16.OrderWhole', WHERE WHAT IT READS IS OF BULK AT MOST 1048576: true; the input reads as it did. -/
def orderWholeUptoRow : OpenClaim := { program := "ytmcnnojklgjgdaagreat", sum := "ca2ba723f39bb77b2fc8ef24ec2e9d837c5a250fcbbe941ff479dac27c6301a9", func := "coroner/coronerlaw16.OrderWhole", spec := "orderWhole", unfollowed := true, recurses := true, plainKeys := false, apart := false, narrowed := true }
def OrderWholeUptoSaid : Prop := orderWholeUptoRow.holds Tryz.pinned (OpenSpec.upto orderWholeSpec)

/-- 'coronerlaw13.ReadsKinds', WHERE WHAT IT READS IS OF BULK AT MOST 1048576: true; the input reads as it did. -/
def readsKindsUptoRow : OpenClaim := { program := "ytmcnnojklgjgdaagreat", sum := "ca2ba723f39bb77b2fc8ef24ec2e9d837c5a250fcbbe941ff479dac27c6301a9", func := "coroner/coronerlaw13.ReadsKinds", spec := "readsKinds", unfollowed := true, recurses := true, plainKeys := false, apart := false, narrowed := true }
def ReadsKindsUptoSaid : Prop := readsKindsUptoRow.holds Tryz.pinned (OpenSpec.upto readsKindsSpec)

/-- 'coronerlaw13.ReadsSound', WHERE WHAT IT READS IS OF BULK AT MOST 1048576: true; the input reads as it did. -/
def readsSoundUptoRow : OpenClaim := { program := "ytmcnnojklgjgdaagreat", sum := "ca2ba723f39bb77b2fc8ef24ec2e9d837c5a250fcbbe941ff479dac27c6301a9", func := "coroner/coronerlaw13.ReadsSound", spec := "readsSound", unfollowed := true, recurses := true, plainKeys := false, apart := false, narrowed := true }
def ReadsSoundUptoSaid : Prop := readsSoundUptoRow.holds Tryz.pinned (OpenSpec.upto readsSoundSpec)

end Rows
end Go.Proofs.YtmcnnojklgjgdaaGreat
