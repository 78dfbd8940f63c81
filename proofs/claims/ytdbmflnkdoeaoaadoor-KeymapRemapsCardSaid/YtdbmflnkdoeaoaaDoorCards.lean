/-
  DERIVED. GIVEN WITH THE SEED: THE CARDS: each row of YtdbmflnkdoeaoaaDoorRows.lean that lists a variable, with what it lists TIED to the program's text (the seventh form; the later family's looks); each row that meets fmt, with fmt's text TOLD by the authors' own Lean function (tested against real Go, not proved from fmt's source: count such statements apart). THE CARD IS WHAT COUNTS. Prove the row's statement (the work); the ties are given (YtdbmflnkdoeaoaaDoorTie.lean); close each card by the builder's one call (the guide's Derived/Test/ToyasCard.lean, 'card_holds'). Laid BY PROGRAM, IN A SANDBOX (cutbox-door.mjs). By AI agents, Wed Nov 11 2026. No macro, syntax, notation, axiom, sorry.
-/
import Derived.Test.YtdbmflnkdoeaoaaDoorRows
import GoSem.ClaimSeven
namespace Go.Proofs.YtdbmflnkdoeaoaaDoor
namespace Rows

/-- THE TIED CARD OF 'copyistlaw28.KeymapRemaps'. -/
def keymapRemapsCard : Claim7 := { stood := { row := keymapRemapsRow, standIns := [], harness := (true, "aa6f68298a50adb5e1db2ea88685fd077b223d3caaf11a1cd992b288249818d7"), looks := true }, kinds := [], alts := [], laidByText := true, laidKinds := [.data, .pinned], laidTests := true, laidLooks := .later }
def KeymapRemapsCardSaid : Prop := Claim7.holds Tryd.pinned (.plain (OpenSpec.ofChange keymapRemapsSpec)) keymapRemapsCard

/-- THE TIED CARD OF 'copyistlaw28.KeymapDefines'. -/
def keymapDefinesCard : Claim7 := { stood := { row := keymapDefinesRow, standIns := [], harness := (true, "aa6f68298a50adb5e1db2ea88685fd077b223d3caaf11a1cd992b288249818d7"), looks := true }, kinds := [], alts := [], laidByText := true, laidKinds := [.data, .pinned], laidTests := true, laidLooks := .later }
def KeymapDefinesCardSaid : Prop := Claim7.holds Tryd.pinned (.plain (OpenSpec.ofChange keymapDefinesSpec)) keymapDefinesCard

/-- THE TIED CARD OF 'copyistlaw28.KeymapNames'. -/
def keymapNamesCard : Claim7 := { stood := { row := keymapNamesRow, standIns := [], harness := (true, "aa6f68298a50adb5e1db2ea88685fd077b223d3caaf11a1cd992b288249818d7"), looks := true }, kinds := [], alts := [], laidByText := true, laidKinds := [.data, .pinned], laidTests := true, laidLooks := .later }
def KeymapNamesCardSaid : Prop := Claim7.holds Tryd.pinned (.plain (OpenSpec.ofChange keymapNamesSpec)) keymapNamesCard

/-- THE TIED CARD OF 'copyistlaw28.KeymapWhere'. -/
def keymapWhereCard : Claim7 := { stood := { row := keymapWhereRow, standIns := [], harness := (true, "aa6f68298a50adb5e1db2ea88685fd077b223d3caaf11a1cd992b288249818d7"), looks := true }, kinds := [], alts := [], laidByText := true, laidKinds := [.data, .pinned], laidTests := true, laidLooks := .later }
def KeymapWhereCardSaid : Prop := Claim7.holds Tryd.pinned (.plain (OpenSpec.ofChange keymapWhereSpec)) keymapWhereCard

/-- THE SECOND FORM's CARD OF 'copyistlaw28.KeymapRemaps'. -/
def keymapRemapsUptoCard : Claim7 := { stood := { row := keymapRemapsUptoRow, standIns := [], harness := (true, "aa6f68298a50adb5e1db2ea88685fd077b223d3caaf11a1cd992b288249818d7"), looks := true }, kinds := [], alts := [], laidByText := true, laidKinds := [.data, .pinned], laidTests := true, laidLooks := .later }
def KeymapRemapsUptoCardSaid : Prop := Claim7.holds Tryd.pinned (.plain (OpenSpec.upto keymapRemapsSpec)) keymapRemapsUptoCard

/-- THE SECOND FORM's CARD OF 'copyistlaw28.KeymapDefines'. -/
def keymapDefinesUptoCard : Claim7 := { stood := { row := keymapDefinesUptoRow, standIns := [], harness := (true, "aa6f68298a50adb5e1db2ea88685fd077b223d3caaf11a1cd992b288249818d7"), looks := true }, kinds := [], alts := [], laidByText := true, laidKinds := [.data, .pinned], laidTests := true, laidLooks := .later }
def KeymapDefinesUptoCardSaid : Prop := Claim7.holds Tryd.pinned (.plain (OpenSpec.upto keymapDefinesSpec)) keymapDefinesUptoCard

/-- THE SECOND FORM's CARD OF 'copyistlaw28.KeymapNames'. -/
def keymapNamesUptoCard : Claim7 := { stood := { row := keymapNamesUptoRow, standIns := [], harness := (true, "aa6f68298a50adb5e1db2ea88685fd077b223d3caaf11a1cd992b288249818d7"), looks := true }, kinds := [], alts := [], laidByText := true, laidKinds := [.data, .pinned], laidTests := true, laidLooks := .later }
def KeymapNamesUptoCardSaid : Prop := Claim7.holds Tryd.pinned (.plain (OpenSpec.upto keymapNamesSpec)) keymapNamesUptoCard

/-- THE SECOND FORM's CARD OF 'copyistlaw28.KeymapWhere'. -/
def keymapWhereUptoCard : Claim7 := { stood := { row := keymapWhereUptoRow, standIns := [], harness := (true, "aa6f68298a50adb5e1db2ea88685fd077b223d3caaf11a1cd992b288249818d7"), looks := true }, kinds := [], alts := [], laidByText := true, laidKinds := [.data, .pinned], laidTests := true, laidLooks := .later }
def KeymapWhereUptoCardSaid : Prop := Claim7.holds Tryd.pinned (.plain (OpenSpec.upto keymapWhereSpec)) keymapWhereUptoCard
end Rows
end Go.Proofs.YtdbmflnkdoeaoaaDoor
