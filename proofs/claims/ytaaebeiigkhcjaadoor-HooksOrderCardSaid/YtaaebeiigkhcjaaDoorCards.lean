/-
  DERIVED. GIVEN WITH THE SEED: THE CARDS: each row of YtaaebeiigkhcjaaDoorRows.lean that lists a variable, with what it lists TIED to the program's text (the seventh form; the later family's looks); each row that meets fmt, with fmt's text TOLD by the authors' own Lean function (tested against real Go, not proved from fmt's source: count such statements apart). THE CARD IS WHAT COUNTS. Prove the row's statement (the work); the ties are given (YtaaebeiigkhcjaaDoorTie.lean); close each card by the builder's one call (the guide's Derived/Test/ToyasCard.lean, 'card_holds'). Laid BY PROGRAM, IN A SANDBOX (cutbox-door.mjs). By AI agents, Wed Nov 11 2026. No macro, syntax, notation, axiom, sorry.
-/
import Derived.Test.YtaaebeiigkhcjaaDoorRows
import GoSem.ClaimSeven
namespace Go.Proofs.YtaaebeiigkhcjaaDoor
namespace Rows

/-- THE TIED CARD OF 'copyistlaw29.HooksOrder'. -/
def hooksOrderCard : Claim7 := { stood := { row := hooksOrderRow, standIns := [], harness := (true, "4347e3bb6438459b8e63fdede4dbe1d797dad43639e1fda4e2bc5076944a3438"), looks := true }, kinds := [], alts := [], laidByText := true, laidKinds := [.data, .data], laidTests := true, laidLooks := .later }
def HooksOrderCardSaid : Prop := Claim7.holds Tryd.pinned (.plain (OpenSpec.ofChange hooksOrderSpec)) hooksOrderCard

/-- THE TIED CARD OF 'copyistlaw29.HooksLocal'. -/
def hooksLocalCard : Claim7 := { stood := { row := hooksLocalRow, standIns := [], harness := (true, "4347e3bb6438459b8e63fdede4dbe1d797dad43639e1fda4e2bc5076944a3438"), looks := true }, kinds := [], alts := [], laidByText := true, laidKinds := [.data, .data], laidTests := true, laidLooks := .later }
def HooksLocalCardSaid : Prop := Claim7.holds Tryd.pinned (.plain (OpenSpec.ofChange hooksLocalSpec)) hooksLocalCard

/-- THE SECOND FORM's CARD OF 'copyistlaw29.HooksOrder'. -/
def hooksOrderUptoCard : Claim7 := { stood := { row := hooksOrderUptoRow, standIns := [], harness := (true, "4347e3bb6438459b8e63fdede4dbe1d797dad43639e1fda4e2bc5076944a3438"), looks := true }, kinds := [], alts := [], laidByText := true, laidKinds := [.data, .data], laidTests := true, laidLooks := .later }
def HooksOrderUptoCardSaid : Prop := Claim7.holds Tryd.pinned (.plain (OpenSpec.upto hooksOrderSpec)) hooksOrderUptoCard

/-- THE SECOND FORM's CARD OF 'copyistlaw29.HooksLocal'. -/
def hooksLocalUptoCard : Claim7 := { stood := { row := hooksLocalUptoRow, standIns := [], harness := (true, "4347e3bb6438459b8e63fdede4dbe1d797dad43639e1fda4e2bc5076944a3438"), looks := true }, kinds := [], alts := [], laidByText := true, laidKinds := [.data, .data], laidTests := true, laidLooks := .later }
def HooksLocalUptoCardSaid : Prop := Claim7.holds Tryd.pinned (.plain (OpenSpec.upto hooksLocalSpec)) hooksLocalUptoCard
end Rows
end Go.Proofs.YtaaebeiigkhcjaaDoor
