/-
  DERIVED. GIVEN WITH THE SEED: THE CARDS: each row of YtehcckhdppdkcaaGreatDoorRows.lean that lists a variable, with what it lists TIED to the program's text (the seventh form; the later family's looks); each row that meets fmt, with fmt's text TOLD by the authors' own Lean function (tested against real Go, not proved from fmt's source: count such statements apart). THE CARD IS WHAT COUNTS. Prove the row's statement (the work); the ties are given (YtehcckhdppdkcaaGreatDoorTie.lean); close each card by the builder's one call (the guide's Derived/Test/ToyasCard.lean, 'card_holds'). Laid BY PROGRAM, IN A SANDBOX (cutbox-door.mjs). By AI agents, Wed Nov 11 2026. No macro, syntax, notation, axiom, sorry.
-/
import Derived.Test.YtehcckhdppdkcaaGreatDoorRows
import GoSem.ClaimSeven
namespace Go.Proofs.YtehcckhdppdkcaaGreatDoor
namespace Rows

/-- THE TIED CARD OF 'copyistlaw07.ListsAlike'. -/
def listsAlikeCard : Claim7 := { stood := { row := listsAlikeRow, standIns := [], harness := (true, "f1bfefe726b70539103e240c4f8081d19b9a75e14eeb6e3d44ebb3713e77f871"), looks := true }, kinds := [], alts := [], laidByText := true, laidKinds := [.data, .pinned], laidTests := true, laidLooks := .later }
def ListsAlikeCardSaid : Prop := Claim7.holds Tryz.pinned (.plain (OpenSpec.ofChange listsAlikeSpec)) listsAlikeCard

/-- THE TIED CARD OF 'copyistlaw07.ListsKeep'. -/
def listsKeepCard : Claim7 := { stood := { row := listsKeepRow, standIns := [], harness := (true, "f1bfefe726b70539103e240c4f8081d19b9a75e14eeb6e3d44ebb3713e77f871"), looks := true }, kinds := [], alts := [], laidByText := true, laidKinds := [.data, .pinned], laidTests := true, laidLooks := .later }
def ListsKeepCardSaid : Prop := Claim7.holds Tryz.pinned (.plain (OpenSpec.ofChange listsKeepSpec)) listsKeepCard

/-- THE TIED CARD OF 'copyistlaw07.ListsRings'. -/
def listsRingsCard : Claim7 := { stood := { row := listsRingsRow, standIns := [], harness := (true, "f1bfefe726b70539103e240c4f8081d19b9a75e14eeb6e3d44ebb3713e77f871"), looks := true }, kinds := [], alts := [], laidByText := true, laidKinds := [.data, .pinned], laidTests := true, laidLooks := .later }
def ListsRingsCardSaid : Prop := Claim7.holds Tryz.pinned (.plain (OpenSpec.ofChange listsRingsSpec)) listsRingsCard

/-- THE TIED CARD OF 'copyistlaw07.ListsTaken'. -/
def listsTakenCard : Claim7 := { stood := { row := listsTakenRow, standIns := [], harness := (true, "f1bfefe726b70539103e240c4f8081d19b9a75e14eeb6e3d44ebb3713e77f871"), looks := true }, kinds := [], alts := [], laidByText := true, laidKinds := [.data, .pinned], laidTests := true, laidLooks := .later }
def ListsTakenCardSaid : Prop := Claim7.holds Tryz.pinned (.plain (OpenSpec.ofChange listsTakenSpec)) listsTakenCard

/-- THE TIED CARD OF 'copyistlaw07.ListsNames'. -/
def listsNamesCard : Claim7 := { stood := { row := listsNamesRow, standIns := [], harness := (true, "f1bfefe726b70539103e240c4f8081d19b9a75e14eeb6e3d44ebb3713e77f871"), looks := true }, kinds := [], alts := [], laidByText := true, laidKinds := [.data, .pinned], laidTests := true, laidLooks := .later }
def ListsNamesCardSaid : Prop := Claim7.holds Tryz.pinned (.plain (OpenSpec.ofChange listsNamesSpec)) listsNamesCard

/-- THE SECOND FORM's CARD OF 'copyistlaw07.ListsAlike'. -/
def listsAlikeUptoCard : Claim7 := { stood := { row := listsAlikeUptoRow, standIns := [], harness := (true, "f1bfefe726b70539103e240c4f8081d19b9a75e14eeb6e3d44ebb3713e77f871"), looks := true }, kinds := [], alts := [], laidByText := true, laidKinds := [.data, .pinned], laidTests := true, laidLooks := .later }
def ListsAlikeUptoCardSaid : Prop := Claim7.holds Tryz.pinned (.plain (OpenSpec.upto listsAlikeSpec)) listsAlikeUptoCard

/-- THE SECOND FORM's CARD OF 'copyistlaw07.ListsKeep'. -/
def listsKeepUptoCard : Claim7 := { stood := { row := listsKeepUptoRow, standIns := [], harness := (true, "f1bfefe726b70539103e240c4f8081d19b9a75e14eeb6e3d44ebb3713e77f871"), looks := true }, kinds := [], alts := [], laidByText := true, laidKinds := [.data, .pinned], laidTests := true, laidLooks := .later }
def ListsKeepUptoCardSaid : Prop := Claim7.holds Tryz.pinned (.plain (OpenSpec.upto listsKeepSpec)) listsKeepUptoCard

/-- THE SECOND FORM's CARD OF 'copyistlaw07.ListsRings'. -/
def listsRingsUptoCard : Claim7 := { stood := { row := listsRingsUptoRow, standIns := [], harness := (true, "f1bfefe726b70539103e240c4f8081d19b9a75e14eeb6e3d44ebb3713e77f871"), looks := true }, kinds := [], alts := [], laidByText := true, laidKinds := [.data, .pinned], laidTests := true, laidLooks := .later }
def ListsRingsUptoCardSaid : Prop := Claim7.holds Tryz.pinned (.plain (OpenSpec.upto listsRingsSpec)) listsRingsUptoCard

/-- THE SECOND FORM's CARD OF 'copyistlaw07.ListsTaken'. -/
def listsTakenUptoCard : Claim7 := { stood := { row := listsTakenUptoRow, standIns := [], harness := (true, "f1bfefe726b70539103e240c4f8081d19b9a75e14eeb6e3d44ebb3713e77f871"), looks := true }, kinds := [], alts := [], laidByText := true, laidKinds := [.data, .pinned], laidTests := true, laidLooks := .later }
def ListsTakenUptoCardSaid : Prop := Claim7.holds Tryz.pinned (.plain (OpenSpec.upto listsTakenSpec)) listsTakenUptoCard

/-- THE SECOND FORM's CARD OF 'copyistlaw07.ListsNames'. -/
def listsNamesUptoCard : Claim7 := { stood := { row := listsNamesUptoRow, standIns := [], harness := (true, "f1bfefe726b70539103e240c4f8081d19b9a75e14eeb6e3d44ebb3713e77f871"), looks := true }, kinds := [], alts := [], laidByText := true, laidKinds := [.data, .pinned], laidTests := true, laidLooks := .later }
def ListsNamesUptoCardSaid : Prop := Claim7.holds Tryz.pinned (.plain (OpenSpec.upto listsNamesSpec)) listsNamesUptoCard
end Rows
end Go.Proofs.YtehcckhdppdkcaaGreatDoor
