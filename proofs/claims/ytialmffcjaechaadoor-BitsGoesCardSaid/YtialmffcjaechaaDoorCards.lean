/-
  DERIVED. GIVEN WITH THE SEED: THE CARDS: each row of YtialmffcjaechaaDoorRows.lean that lists a variable, with what it lists TIED to the program's text (the seventh form; the later family's looks); each row that meets fmt, with fmt's text TOLD by the authors' own Lean function (tested against real Go, not proved from fmt's source: count such statements apart). THE CARD IS WHAT COUNTS. Prove the row's statement (the work); the ties are given (YtialmffcjaechaaDoorTie.lean); close each card by the builder's one call (the guide's Derived/Test/ToyasCard.lean, 'card_holds'). Laid BY PROGRAM, IN A SANDBOX (cutbox-door.mjs). By AI agents, Wed Nov 11 2026. No macro, syntax, notation, axiom, sorry.
-/
import Derived.Test.YtialmffcjaechaaDoorRows
import GoSem.ClaimSeven
namespace Go.Proofs.YtialmffcjaechaaDoor
namespace Rows

/-- THE TIED CARD OF 'coronerlaw06.BitsGoes'. -/
def bitsGoesCard : Claim7 := { stood := { row := bitsGoesRow, standIns := [], harness := (true, "f4dd1435f6b3bdb786028b55822a0025432500c737b0858eb84f18adbbe2770a"), looks := false }, kinds := [], alts := [], laidByText := true, laidKinds := [.data], laidTests := true, laidLooks := .later }
def BitsGoesCardSaid : Prop := Claim7.holds Tryd.pinned (.plain (OpenSpec.ofChange bitsGoesSpec)) bitsGoesCard

/-- THE TIED CARD OF 'coronerlaw06.BitsClone'. -/
def bitsCloneCard : Claim7 := { stood := { row := bitsCloneRow, standIns := [], harness := (true, "f4dd1435f6b3bdb786028b55822a0025432500c737b0858eb84f18adbbe2770a"), looks := false }, kinds := [], alts := [], laidByText := true, laidKinds := [.data], laidTests := true, laidLooks := .later }
def BitsCloneCardSaid : Prop := Claim7.holds Tryd.pinned (.plain (OpenSpec.ofChange bitsCloneSpec)) bitsCloneCard

/-- THE TIED CARD OF 'coronerlaw06.BitsPlays'. -/
def bitsPlaysCard : Claim7 := { stood := { row := bitsPlaysRow, standIns := [], harness := (true, "f4dd1435f6b3bdb786028b55822a0025432500c737b0858eb84f18adbbe2770a"), looks := false }, kinds := [], alts := [], laidByText := true, laidKinds := [.data], laidTests := true, laidLooks := .later }
def BitsPlaysCardSaid : Prop := Claim7.holds Tryd.pinned (.plain (OpenSpec.ofChange bitsPlaysSpec)) bitsPlaysCard

/-- THE TIED CARD OF 'coronerlaw06.BitsNone'. -/
def bitsNoneCard : Claim7 := { stood := { row := bitsNoneRow, standIns := [], harness := (true, "f4dd1435f6b3bdb786028b55822a0025432500c737b0858eb84f18adbbe2770a"), looks := false }, kinds := [], alts := [], laidByText := true, laidKinds := [.data], laidTests := true, laidLooks := .later }
def BitsNoneCardSaid : Prop := Claim7.holds Tryd.pinned (.plain (OpenSpec.ofChange bitsNoneSpec)) bitsNoneCard

/-- THE SECOND FORM's CARD OF 'coronerlaw06.BitsGoes'. -/
def bitsGoesUptoCard : Claim7 := { stood := { row := bitsGoesUptoRow, standIns := [], harness := (true, "f4dd1435f6b3bdb786028b55822a0025432500c737b0858eb84f18adbbe2770a"), looks := false }, kinds := [], alts := [], laidByText := true, laidKinds := [.data], laidTests := true, laidLooks := .later }
def BitsGoesUptoCardSaid : Prop := Claim7.holds Tryd.pinned (.plain (OpenSpec.upto bitsGoesSpec)) bitsGoesUptoCard

/-- THE SECOND FORM's CARD OF 'coronerlaw06.BitsClone'. -/
def bitsCloneUptoCard : Claim7 := { stood := { row := bitsCloneUptoRow, standIns := [], harness := (true, "f4dd1435f6b3bdb786028b55822a0025432500c737b0858eb84f18adbbe2770a"), looks := false }, kinds := [], alts := [], laidByText := true, laidKinds := [.data], laidTests := true, laidLooks := .later }
def BitsCloneUptoCardSaid : Prop := Claim7.holds Tryd.pinned (.plain (OpenSpec.upto bitsCloneSpec)) bitsCloneUptoCard

/-- THE SECOND FORM's CARD OF 'coronerlaw06.BitsPlays'. -/
def bitsPlaysUptoCard : Claim7 := { stood := { row := bitsPlaysUptoRow, standIns := [], harness := (true, "f4dd1435f6b3bdb786028b55822a0025432500c737b0858eb84f18adbbe2770a"), looks := false }, kinds := [], alts := [], laidByText := true, laidKinds := [.data], laidTests := true, laidLooks := .later }
def BitsPlaysUptoCardSaid : Prop := Claim7.holds Tryd.pinned (.plain (OpenSpec.upto bitsPlaysSpec)) bitsPlaysUptoCard

/-- THE SECOND FORM's CARD OF 'coronerlaw06.BitsNone'. -/
def bitsNoneUptoCard : Claim7 := { stood := { row := bitsNoneUptoRow, standIns := [], harness := (true, "f4dd1435f6b3bdb786028b55822a0025432500c737b0858eb84f18adbbe2770a"), looks := false }, kinds := [], alts := [], laidByText := true, laidKinds := [.data], laidTests := true, laidLooks := .later }
def BitsNoneUptoCardSaid : Prop := Claim7.holds Tryd.pinned (.plain (OpenSpec.upto bitsNoneSpec)) bitsNoneUptoCard
end Rows
end Go.Proofs.YtialmffcjaechaaDoor
