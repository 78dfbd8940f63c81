/-
  DERIVED. GIVEN WITH THE SEED: THE CARDS: each row of YthemeeiedlbhkaaDoorRows.lean that lists a variable, with what it lists TIED to the program's text (the seventh form; the later family's looks); each row that meets fmt, with fmt's text TOLD by the authors' own Lean function (tested against real Go, not proved from fmt's source: count such statements apart). THE CARD IS WHAT COUNTS. Prove the row's statement (the work); the ties are given (YthemeeiedlbhkaaDoorTie.lean); close each card by the builder's one call (the guide's Derived/Test/ToyasCard.lean, 'card_holds'). Laid BY PROGRAM, IN A SANDBOX (cutbox-door.mjs). By AI agents, Wed Nov 11 2026. No macro, syntax, notation, axiom, sorry.
-/
import Derived.Test.YthemeeiedlbhkaaDoorRows
import GoSem.ClaimSeven
namespace Go.Proofs.YthemeeiedlbhkaaDoor
namespace Rows

/-- THE TIED CARD OF 'copyistlaw32.CommandSpecs'. -/
def commandSpecsCard : Claim7 := { stood := { row := commandSpecsRow, standIns := [], harness := (true, "4da5003aef9bf5e9e8a4234113426fb6a549d6a63ed95318028184be6b524ec2"), looks := false }, kinds := [], alts := [], laidByText := true, laidKinds := [.data, .pinned], laidTests := true, laidLooks := .later }
def CommandSpecsCardSaid : Prop := Claim7.holds Tryd.pinned (.plain (OpenSpec.ofChange commandSpecsSpec)) commandSpecsCard

/-- THE TIED CARD OF 'copyistlaw32.CommandNone'. -/
def commandNoneCard : Claim7 := { stood := { row := commandNoneRow, standIns := [], harness := (true, "4da5003aef9bf5e9e8a4234113426fb6a549d6a63ed95318028184be6b524ec2"), looks := false }, kinds := [], alts := [], laidByText := true, laidKinds := [.data, .pinned], laidTests := true, laidLooks := .later }
def CommandNoneCardSaid : Prop := Claim7.holds Tryd.pinned (.plain (OpenSpec.ofChange commandNoneSpec)) commandNoneCard

/-- THE SECOND FORM's CARD OF 'copyistlaw32.CommandSpecs'. -/
def commandSpecsUptoCard : Claim7 := { stood := { row := commandSpecsUptoRow, standIns := [], harness := (true, "4da5003aef9bf5e9e8a4234113426fb6a549d6a63ed95318028184be6b524ec2"), looks := false }, kinds := [], alts := [], laidByText := true, laidKinds := [.data, .pinned], laidTests := true, laidLooks := .later }
def CommandSpecsUptoCardSaid : Prop := Claim7.holds Tryd.pinned (.plain (OpenSpec.upto commandSpecsSpec)) commandSpecsUptoCard

/-- THE SECOND FORM's CARD OF 'copyistlaw32.CommandNone'. -/
def commandNoneUptoCard : Claim7 := { stood := { row := commandNoneUptoRow, standIns := [], harness := (true, "4da5003aef9bf5e9e8a4234113426fb6a549d6a63ed95318028184be6b524ec2"), looks := false }, kinds := [], alts := [], laidByText := true, laidKinds := [.data, .pinned], laidTests := true, laidLooks := .later }
def CommandNoneUptoCardSaid : Prop := Claim7.holds Tryd.pinned (.plain (OpenSpec.upto commandNoneSpec)) commandNoneUptoCard
end Rows
end Go.Proofs.YthemeeiedlbhkaaDoor
