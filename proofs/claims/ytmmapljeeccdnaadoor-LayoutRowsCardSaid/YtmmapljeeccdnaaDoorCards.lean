/-
  DERIVED. GIVEN WITH THE SEED: THE CARDS: each row of YtmmapljeeccdnaaDoorRows.lean that lists a variable, with what it lists TIED to the program's text (the seventh form; the later family's looks); each row that meets fmt, with fmt's text TOLD by the authors' own Lean function (tested against real Go, not proved from fmt's source: count such statements apart). THE CARD IS WHAT COUNTS. Prove the row's statement (the work); the ties are given (YtmmapljeeccdnaaDoorTie.lean); close each card by the builder's one call (the guide's Derived/Test/ToyasCard.lean, 'card_holds'). Laid BY PROGRAM, IN A SANDBOX (cutbox-door.mjs). By AI agents, Wed Nov 11 2026. No macro, syntax, notation, axiom, sorry.
-/
import Derived.Test.YtmmapljeeccdnaaDoorRows
import GoSem.ClaimSeven
namespace Go.Proofs.YtmmapljeeccdnaaDoor
namespace Rows

/-- THE TIED CARD OF 'copyistlaw35.LayoutRows'. -/
def layoutRowsCard : Claim7 := { stood := { row := layoutRowsRow, standIns := [], harness := (true, "81fe4c91123fcb43d21b9276457ab7899baa457294ca5422d4a7a80246983968"), looks := false }, kinds := [], alts := [], laidByText := true, laidKinds := [.data, .pinned], laidTests := true, laidLooks := .later }
def LayoutRowsCardSaid : Prop := Claim7.holds Tryd.pinned (.plain (OpenSpec.ofChange layoutRowsSpec)) layoutRowsCard

/-- THE TIED CARD OF 'copyistlaw35.LayoutFinds'. -/
def layoutFindsCard : Claim7 := { stood := { row := layoutFindsRow, standIns := [], harness := (true, "81fe4c91123fcb43d21b9276457ab7899baa457294ca5422d4a7a80246983968"), looks := false }, kinds := [], alts := [], laidByText := true, laidKinds := [.data, .pinned], laidTests := true, laidLooks := .later }
def LayoutFindsCardSaid : Prop := Claim7.holds Tryd.pinned (.plain (OpenSpec.ofChange layoutFindsSpec)) layoutFindsCard

/-- THE TIED CARD OF 'copyistlaw35.LayoutKnown'. -/
def layoutKnownCard : Claim7 := { stood := { row := layoutKnownRow, standIns := [], harness := (true, "81fe4c91123fcb43d21b9276457ab7899baa457294ca5422d4a7a80246983968"), looks := false }, kinds := [], alts := [], laidByText := true, laidKinds := [.data, .pinned], laidTests := true, laidLooks := .later }
def LayoutKnownCardSaid : Prop := Claim7.holds Tryd.pinned (.plain (OpenSpec.ofChange layoutKnownSpec)) layoutKnownCard

/-- THE TIED CARD OF 'copyistlaw35.LayoutWhole'. -/
def layoutWholeCard : Claim7 := { stood := { row := layoutWholeRow, standIns := [], harness := (true, "81fe4c91123fcb43d21b9276457ab7899baa457294ca5422d4a7a80246983968"), looks := false }, kinds := [], alts := [], laidByText := true, laidKinds := [.data, .pinned], laidTests := true, laidLooks := .later }
def LayoutWholeCardSaid : Prop := Claim7.holds Tryd.pinned (.plain (OpenSpec.ofChange layoutWholeSpec)) layoutWholeCard

/-- THE TIED CARD OF 'copyistlaw35.LayoutPlaces'. -/
def layoutPlacesCard : Claim7 := { stood := { row := layoutPlacesRow, standIns := [], harness := (true, "81fe4c91123fcb43d21b9276457ab7899baa457294ca5422d4a7a80246983968"), looks := false }, kinds := [], alts := [], laidByText := true, laidKinds := [.data, .pinned], laidTests := true, laidLooks := .later }
def LayoutPlacesCardSaid : Prop := Claim7.holds Tryd.pinned (.plain (OpenSpec.ofChange layoutPlacesSpec)) layoutPlacesCard

/-- THE TIED CARD OF 'copyistlaw35.LayoutFits'. -/
def layoutFitsCard : Claim7 := { stood := { row := layoutFitsRow, standIns := [], harness := (true, "81fe4c91123fcb43d21b9276457ab7899baa457294ca5422d4a7a80246983968"), looks := false }, kinds := [], alts := [], laidByText := true, laidKinds := [.data, .pinned], laidTests := true, laidLooks := .later }
def LayoutFitsCardSaid : Prop := Claim7.holds Tryd.pinned (.plain (OpenSpec.ofChange layoutFitsSpec)) layoutFitsCard

/-- THE SECOND FORM's CARD OF 'copyistlaw35.LayoutRows'. -/
def layoutRowsUptoCard : Claim7 := { stood := { row := layoutRowsUptoRow, standIns := [], harness := (true, "81fe4c91123fcb43d21b9276457ab7899baa457294ca5422d4a7a80246983968"), looks := false }, kinds := [], alts := [], laidByText := true, laidKinds := [.data, .pinned], laidTests := true, laidLooks := .later }
def LayoutRowsUptoCardSaid : Prop := Claim7.holds Tryd.pinned (.plain (OpenSpec.upto layoutRowsSpec)) layoutRowsUptoCard

/-- THE SECOND FORM's CARD OF 'copyistlaw35.LayoutFinds'. -/
def layoutFindsUptoCard : Claim7 := { stood := { row := layoutFindsUptoRow, standIns := [], harness := (true, "81fe4c91123fcb43d21b9276457ab7899baa457294ca5422d4a7a80246983968"), looks := false }, kinds := [], alts := [], laidByText := true, laidKinds := [.data, .pinned], laidTests := true, laidLooks := .later }
def LayoutFindsUptoCardSaid : Prop := Claim7.holds Tryd.pinned (.plain (OpenSpec.upto layoutFindsSpec)) layoutFindsUptoCard

/-- THE SECOND FORM's CARD OF 'copyistlaw35.LayoutKnown'. -/
def layoutKnownUptoCard : Claim7 := { stood := { row := layoutKnownUptoRow, standIns := [], harness := (true, "81fe4c91123fcb43d21b9276457ab7899baa457294ca5422d4a7a80246983968"), looks := false }, kinds := [], alts := [], laidByText := true, laidKinds := [.data, .pinned], laidTests := true, laidLooks := .later }
def LayoutKnownUptoCardSaid : Prop := Claim7.holds Tryd.pinned (.plain (OpenSpec.upto layoutKnownSpec)) layoutKnownUptoCard

/-- THE SECOND FORM's CARD OF 'copyistlaw35.LayoutWhole'. -/
def layoutWholeUptoCard : Claim7 := { stood := { row := layoutWholeUptoRow, standIns := [], harness := (true, "81fe4c91123fcb43d21b9276457ab7899baa457294ca5422d4a7a80246983968"), looks := false }, kinds := [], alts := [], laidByText := true, laidKinds := [.data, .pinned], laidTests := true, laidLooks := .later }
def LayoutWholeUptoCardSaid : Prop := Claim7.holds Tryd.pinned (.plain (OpenSpec.upto layoutWholeSpec)) layoutWholeUptoCard

/-- THE SECOND FORM's CARD OF 'copyistlaw35.LayoutPlaces'. -/
def layoutPlacesUptoCard : Claim7 := { stood := { row := layoutPlacesUptoRow, standIns := [], harness := (true, "81fe4c91123fcb43d21b9276457ab7899baa457294ca5422d4a7a80246983968"), looks := false }, kinds := [], alts := [], laidByText := true, laidKinds := [.data, .pinned], laidTests := true, laidLooks := .later }
def LayoutPlacesUptoCardSaid : Prop := Claim7.holds Tryd.pinned (.plain (OpenSpec.upto layoutPlacesSpec)) layoutPlacesUptoCard

/-- THE SECOND FORM's CARD OF 'copyistlaw35.LayoutFits'. -/
def layoutFitsUptoCard : Claim7 := { stood := { row := layoutFitsUptoRow, standIns := [], harness := (true, "81fe4c91123fcb43d21b9276457ab7899baa457294ca5422d4a7a80246983968"), looks := false }, kinds := [], alts := [], laidByText := true, laidKinds := [.data, .pinned], laidTests := true, laidLooks := .later }
def LayoutFitsUptoCardSaid : Prop := Claim7.holds Tryd.pinned (.plain (OpenSpec.upto layoutFitsSpec)) layoutFitsUptoCard
end Rows
end Go.Proofs.YtmmapljeeccdnaaDoor
