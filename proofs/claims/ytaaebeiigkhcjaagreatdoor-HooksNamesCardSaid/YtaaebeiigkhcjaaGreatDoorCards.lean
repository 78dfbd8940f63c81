/-
  DERIVED. GIVEN WITH THE SEED: THE CARDS: each row of YtaaebeiigkhcjaaGreatDoorRows.lean that lists a variable, with what it lists TIED to the program's text (the seventh form; the later family's looks); each row that meets fmt, with fmt's text TOLD by the authors' own Lean function (tested against real Go, not proved from fmt's source: count such statements apart). THE CARD IS WHAT COUNTS. Prove the row's statement (the work); the ties are given (YtaaebeiigkhcjaaGreatDoorTie.lean); close each card by the builder's one call (the guide's Derived/Test/ToyasCard.lean, 'card_holds'). Laid BY PROGRAM, IN A SANDBOX (cutbox-door.mjs). By AI agents, Wed Nov 11 2026. No macro, syntax, notation, axiom, sorry.
-/
import Derived.Test.YtaaebeiigkhcjaaGreatDoorRows
import GoSem.ClaimSeven
namespace Go.Proofs.YtaaebeiigkhcjaaGreatDoor
namespace Rows

/-- THE TIED CARD OF 'copyistlaw29.HooksNames'. -/
def hooksNamesCard : Claim7 := { stood := { row := hooksNamesRow, standIns := [], harness := (true, "6312ded2796cb5866492fe009e130f4e099cf34e8f0b9ffaa86b3d08885ce2ba"), looks := true }, kinds := [], alts := [], laidByText := true, laidKinds := [.data, .data], laidTests := true, laidLooks := .later }
def HooksNamesCardSaid : Prop := Claim7.holds Tryz.pinned (.plain (OpenSpec.ofChange hooksNamesSpec)) hooksNamesCard

/-- THE TIED CARD OF 'copyistlaw29.HooksScript'. -/
def hooksScriptCard : Claim7 := { stood := { row := hooksScriptRow, standIns := [], harness := (true, "6312ded2796cb5866492fe009e130f4e099cf34e8f0b9ffaa86b3d08885ce2ba"), looks := true }, kinds := [], alts := [], laidByText := true, laidKinds := [.data, .data], laidTests := true, laidLooks := .later }
def HooksScriptCardSaid : Prop := Claim7.holds Tryz.pinned (.plain (OpenSpec.ofChange hooksScriptSpec)) hooksScriptCard

/-- THE TIED CARD OF 'copyistlaw29.HooksBack'. -/
def hooksBackCard : Claim7 := { stood := { row := hooksBackRow, standIns := [], harness := (true, "6312ded2796cb5866492fe009e130f4e099cf34e8f0b9ffaa86b3d08885ce2ba"), looks := true }, kinds := [], alts := [], laidByText := true, laidKinds := [.data, .data], laidTests := true, laidLooks := .later }
def HooksBackCardSaid : Prop := Claim7.holds Tryz.pinned (.plain (OpenSpec.ofChange hooksBackSpec)) hooksBackCard

/-- THE TIED CARD OF 'copyistlaw29.HooksKept'. -/
def hooksKeptCard : Claim7 := { stood := { row := hooksKeptRow, standIns := [], harness := (true, "6312ded2796cb5866492fe009e130f4e099cf34e8f0b9ffaa86b3d08885ce2ba"), looks := true }, kinds := [], alts := [], laidByText := true, laidKinds := [.data, .data], laidTests := true, laidLooks := .later }
def HooksKeptCardSaid : Prop := Claim7.holds Tryz.pinned (.plain (OpenSpec.ofChange hooksKeptSpec)) hooksKeptCard

/-- THE SECOND FORM's CARD OF 'copyistlaw29.HooksNames'. -/
def hooksNamesUptoCard : Claim7 := { stood := { row := hooksNamesUptoRow, standIns := [], harness := (true, "6312ded2796cb5866492fe009e130f4e099cf34e8f0b9ffaa86b3d08885ce2ba"), looks := true }, kinds := [], alts := [], laidByText := true, laidKinds := [.data, .data], laidTests := true, laidLooks := .later }
def HooksNamesUptoCardSaid : Prop := Claim7.holds Tryz.pinned (.plain (OpenSpec.upto hooksNamesSpec)) hooksNamesUptoCard

/-- THE SECOND FORM's CARD OF 'copyistlaw29.HooksScript'. -/
def hooksScriptUptoCard : Claim7 := { stood := { row := hooksScriptUptoRow, standIns := [], harness := (true, "6312ded2796cb5866492fe009e130f4e099cf34e8f0b9ffaa86b3d08885ce2ba"), looks := true }, kinds := [], alts := [], laidByText := true, laidKinds := [.data, .data], laidTests := true, laidLooks := .later }
def HooksScriptUptoCardSaid : Prop := Claim7.holds Tryz.pinned (.plain (OpenSpec.upto hooksScriptSpec)) hooksScriptUptoCard

/-- THE SECOND FORM's CARD OF 'copyistlaw29.HooksBack'. -/
def hooksBackUptoCard : Claim7 := { stood := { row := hooksBackUptoRow, standIns := [], harness := (true, "6312ded2796cb5866492fe009e130f4e099cf34e8f0b9ffaa86b3d08885ce2ba"), looks := true }, kinds := [], alts := [], laidByText := true, laidKinds := [.data, .data], laidTests := true, laidLooks := .later }
def HooksBackUptoCardSaid : Prop := Claim7.holds Tryz.pinned (.plain (OpenSpec.upto hooksBackSpec)) hooksBackUptoCard

/-- THE SECOND FORM's CARD OF 'copyistlaw29.HooksKept'. -/
def hooksKeptUptoCard : Claim7 := { stood := { row := hooksKeptUptoRow, standIns := [], harness := (true, "6312ded2796cb5866492fe009e130f4e099cf34e8f0b9ffaa86b3d08885ce2ba"), looks := true }, kinds := [], alts := [], laidByText := true, laidKinds := [.data, .data], laidTests := true, laidLooks := .later }
def HooksKeptUptoCardSaid : Prop := Claim7.holds Tryz.pinned (.plain (OpenSpec.upto hooksKeptSpec)) hooksKeptUptoCard
end Rows
end Go.Proofs.YtaaebeiigkhcjaaGreatDoor
