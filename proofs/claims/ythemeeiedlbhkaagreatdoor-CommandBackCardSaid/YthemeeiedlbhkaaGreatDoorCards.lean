/-
  DERIVED. GIVEN WITH THE SEED: THE CARDS: each row of YthemeeiedlbhkaaGreatDoorRows.lean that lists a variable, with what it lists TIED to the program's text (the seventh form; the later family's looks); each row that meets fmt, with fmt's text TOLD by the authors' own Lean function (tested against real Go, not proved from fmt's source: count such statements apart). THE CARD IS WHAT COUNTS. Prove the row's statement (the work); the ties are given (YthemeeiedlbhkaaGreatDoorTie.lean); close each card by the builder's one call (the guide's Derived/Test/ToyasCard.lean, 'card_holds'). Laid BY PROGRAM, IN A SANDBOX (cutbox-door.mjs). By AI agents, Wed Nov 11 2026. No macro, syntax, notation, axiom, sorry.
-/
import Derived.Test.YthemeeiedlbhkaaGreatDoorRows
import GoSem.ClaimSeven
namespace Go.Proofs.YthemeeiedlbhkaaGreatDoor
namespace Rows

/-- THE TIED CARD OF 'copyistlaw32.CommandRecords'. -/
def commandRecordsCard : Claim7 := { stood := { row := commandRecordsRow, standIns := [], harness := (true, "6093135cc4994a9b46c69079bcde9986b1d7e3a0e4494f400d8bcde3728ac421"), looks := true }, kinds := [], alts := [], laidByText := true, laidKinds := [.data, .pinned], laidTests := true, laidLooks := .later }
def CommandRecordsCardSaid : Prop := Claim7.holds Tryz.pinned (.plain (OpenSpec.ofChange commandRecordsSpec)) commandRecordsCard

/-- THE TIED CARD OF 'copyistlaw32.CommandKnown'. -/
def commandKnownCard : Claim7 := { stood := { row := commandKnownRow, standIns := [], harness := (true, "6093135cc4994a9b46c69079bcde9986b1d7e3a0e4494f400d8bcde3728ac421"), looks := true }, kinds := [], alts := [], laidByText := true, laidKinds := [.data, .data, .pinned], laidTests := true, laidLooks := .later }
def CommandKnownCardSaid : Prop := Claim7.holds Tryz.pinned (.plain (OpenSpec.ofChange commandKnownSpec)) commandKnownCard

/-- THE TIED CARD OF 'copyistlaw32.CommandBack'. -/
def commandBackCard : Claim7 := { stood := { row := commandBackRow, standIns := [], harness := (true, "6093135cc4994a9b46c69079bcde9986b1d7e3a0e4494f400d8bcde3728ac421"), looks := true }, kinds := [], alts := [], laidByText := true, laidKinds := [.data, .data, .pinned], laidTests := true, laidLooks := .later }
def CommandBackCardSaid : Prop := Claim7.holds Tryz.pinned (.plain (OpenSpec.ofChange commandBackSpec)) commandBackCard

/-- THE TIED CARD OF 'copyistlaw32.CommandReplays'. -/
def commandReplaysCard : Claim7 := { stood := { row := commandReplaysRow, standIns := [], harness := (true, "6093135cc4994a9b46c69079bcde9986b1d7e3a0e4494f400d8bcde3728ac421"), looks := true }, kinds := [], alts := [], laidByText := true, laidKinds := [.data, .data, .pinned], laidTests := true, laidLooks := .later }
def CommandReplaysCardSaid : Prop := Claim7.holds Tryz.pinned (.plain (OpenSpec.ofChange commandReplaysSpec)) commandReplaysCard

/-- THE TIED CARD OF 'copyistlaw32.CommandRaw'. -/
def commandRawCard : Claim7 := { stood := { row := commandRawRow, standIns := [], harness := (true, "6093135cc4994a9b46c69079bcde9986b1d7e3a0e4494f400d8bcde3728ac421"), looks := true }, kinds := [], alts := [], laidByText := true, laidKinds := [.data, .data, .pinned], laidTests := true, laidLooks := .later }
def CommandRawCardSaid : Prop := Claim7.holds Tryz.pinned (.plain (OpenSpec.ofChange commandRawSpec)) commandRawCard

/-- THE SECOND FORM's CARD OF 'copyistlaw32.CommandRecords'. -/
def commandRecordsUptoCard : Claim7 := { stood := { row := commandRecordsUptoRow, standIns := [], harness := (true, "6093135cc4994a9b46c69079bcde9986b1d7e3a0e4494f400d8bcde3728ac421"), looks := true }, kinds := [], alts := [], laidByText := true, laidKinds := [.data, .pinned], laidTests := true, laidLooks := .later }
def CommandRecordsUptoCardSaid : Prop := Claim7.holds Tryz.pinned (.plain (OpenSpec.upto commandRecordsSpec)) commandRecordsUptoCard

/-- THE SECOND FORM's CARD OF 'copyistlaw32.CommandKnown'. -/
def commandKnownUptoCard : Claim7 := { stood := { row := commandKnownUptoRow, standIns := [], harness := (true, "6093135cc4994a9b46c69079bcde9986b1d7e3a0e4494f400d8bcde3728ac421"), looks := true }, kinds := [], alts := [], laidByText := true, laidKinds := [.data, .data, .pinned], laidTests := true, laidLooks := .later }
def CommandKnownUptoCardSaid : Prop := Claim7.holds Tryz.pinned (.plain (OpenSpec.upto commandKnownSpec)) commandKnownUptoCard

/-- THE SECOND FORM's CARD OF 'copyistlaw32.CommandBack'. -/
def commandBackUptoCard : Claim7 := { stood := { row := commandBackUptoRow, standIns := [], harness := (true, "6093135cc4994a9b46c69079bcde9986b1d7e3a0e4494f400d8bcde3728ac421"), looks := true }, kinds := [], alts := [], laidByText := true, laidKinds := [.data, .data, .pinned], laidTests := true, laidLooks := .later }
def CommandBackUptoCardSaid : Prop := Claim7.holds Tryz.pinned (.plain (OpenSpec.upto commandBackSpec)) commandBackUptoCard

/-- THE SECOND FORM's CARD OF 'copyistlaw32.CommandReplays'. -/
def commandReplaysUptoCard : Claim7 := { stood := { row := commandReplaysUptoRow, standIns := [], harness := (true, "6093135cc4994a9b46c69079bcde9986b1d7e3a0e4494f400d8bcde3728ac421"), looks := true }, kinds := [], alts := [], laidByText := true, laidKinds := [.data, .data, .pinned], laidTests := true, laidLooks := .later }
def CommandReplaysUptoCardSaid : Prop := Claim7.holds Tryz.pinned (.plain (OpenSpec.upto commandReplaysSpec)) commandReplaysUptoCard

/-- THE SECOND FORM's CARD OF 'copyistlaw32.CommandRaw'. -/
def commandRawUptoCard : Claim7 := { stood := { row := commandRawUptoRow, standIns := [], harness := (true, "6093135cc4994a9b46c69079bcde9986b1d7e3a0e4494f400d8bcde3728ac421"), looks := true }, kinds := [], alts := [], laidByText := true, laidKinds := [.data, .data, .pinned], laidTests := true, laidLooks := .later }
def CommandRawUptoCardSaid : Prop := Claim7.holds Tryz.pinned (.plain (OpenSpec.upto commandRawSpec)) commandRawUptoCard
end Rows
end Go.Proofs.YthemeeiedlbhkaaGreatDoor
