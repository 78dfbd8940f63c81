/-
  DERIVED. GIVEN WITH THE SEED: THE CARDS: each row of YtpjpefcpbkmilaaDoorRows.lean that lists a variable, with what it lists TIED to the program's text (the seventh form; the later family's looks); each row that meets fmt, with fmt's text TOLD by the authors' own Lean function (tested against real Go, not proved from fmt's source: count such statements apart). THE CARD IS WHAT COUNTS. Prove the row's statement (the work); the ties are given (YtpjpefcpbkmilaaDoorTie.lean); close each card by the builder's one call (the guide's Derived/Test/ToyasCard.lean, 'card_holds'). Laid BY PROGRAM, IN A SANDBOX (cutbox-door.mjs). By AI agents, Wed Nov 11 2026. No macro, syntax, notation, axiom, sorry.
-/
import Derived.Test.YtpjpefcpbkmilaaDoorRows
import GoSem.ClaimSeven
namespace Go.Proofs.YtpjpefcpbkmilaaDoor
namespace Rows

/-- THE TIED CARD OF 'copyistlaw27.KeysMakes'. -/
def keysMakesCard : Claim7 := { stood := { row := keysMakesRow, standIns := [], harness := (true, "63ad921c5ed74fd85b7e3559090b4ab624b8af21977283610b989d4b9b9c38bb"), looks := false }, kinds := [], alts := [], laidByText := true, laidKinds := [.data, .pinned], laidTests := true, laidLooks := .later }
def KeysMakesCardSaid : Prop := Claim7.holds Tryd.pinned (.plain (OpenSpec.ofChange keysMakesSpec)) keysMakesCard

/-- THE TIED CARD OF 'copyistlaw27.KeysBack'. -/
def keysBackCard : Claim7 := { stood := { row := keysBackRow, standIns := [], harness := (true, "63ad921c5ed74fd85b7e3559090b4ab624b8af21977283610b989d4b9b9c38bb"), looks := false }, kinds := [], alts := [], laidByText := true, laidKinds := [.data, .pinned], laidTests := true, laidLooks := .later }
def KeysBackCardSaid : Prop := Claim7.holds Tryd.pinned (.plain (OpenSpec.ofChange keysBackSpec)) keysBackCard

/-- THE TIED CARD OF 'copyistlaw27.KeysTyped'. -/
def keysTypedCard : Claim7 := { stood := { row := keysTypedRow, standIns := [], harness := (true, "63ad921c5ed74fd85b7e3559090b4ab624b8af21977283610b989d4b9b9c38bb"), looks := false }, kinds := [], alts := [], laidByText := true, laidKinds := [.data, .pinned], laidTests := true, laidLooks := .later }
def KeysTypedCardSaid : Prop := Claim7.holds Tryd.pinned (.plain (OpenSpec.ofChange keysTypedSpec)) keysTypedCard

/-- THE TIED CARD OF 'copyistlaw27.KeysPieces'. -/
def keysPiecesCard : Claim7 := { stood := { row := keysPiecesRow, standIns := [], harness := (true, "63ad921c5ed74fd85b7e3559090b4ab624b8af21977283610b989d4b9b9c38bb"), looks := false }, kinds := [], alts := [], laidByText := true, laidKinds := [.data, .pinned], laidTests := true, laidLooks := .later }
def KeysPiecesCardSaid : Prop := Claim7.holds Tryd.pinned (.plain (OpenSpec.ofChange keysPiecesSpec)) keysPiecesCard

/-- THE TIED CARD OF 'copyistlaw27.KeysNames'. -/
def keysNamesCard : Claim7 := { stood := { row := keysNamesRow, standIns := [], harness := (true, "63ad921c5ed74fd85b7e3559090b4ab624b8af21977283610b989d4b9b9c38bb"), looks := false }, kinds := [], alts := [], laidByText := true, laidKinds := [.data, .pinned], laidTests := true, laidLooks := .later }
def KeysNamesCardSaid : Prop := Claim7.holds Tryd.pinned (.plain (OpenSpec.ofChange keysNamesSpec)) keysNamesCard

/-- THE TIED CARD OF 'copyistlaw27.KeysCalls'. -/
def keysCallsCard : Claim7 := { stood := { row := keysCallsRow, standIns := [], harness := (true, "63ad921c5ed74fd85b7e3559090b4ab624b8af21977283610b989d4b9b9c38bb"), looks := false }, kinds := [], alts := [], laidByText := true, laidKinds := [.data, .pinned], laidTests := true, laidLooks := .later }
def KeysCallsCardSaid : Prop := Claim7.holds Tryd.pinned (.plain (OpenSpec.ofChange keysCallsSpec)) keysCallsCard

/-- THE SECOND FORM's CARD OF 'copyistlaw27.KeysMakes'. -/
def keysMakesUptoCard : Claim7 := { stood := { row := keysMakesUptoRow, standIns := [], harness := (true, "63ad921c5ed74fd85b7e3559090b4ab624b8af21977283610b989d4b9b9c38bb"), looks := false }, kinds := [], alts := [], laidByText := true, laidKinds := [.data, .pinned], laidTests := true, laidLooks := .later }
def KeysMakesUptoCardSaid : Prop := Claim7.holds Tryd.pinned (.plain (OpenSpec.upto keysMakesSpec)) keysMakesUptoCard

/-- THE SECOND FORM's CARD OF 'copyistlaw27.KeysBack'. -/
def keysBackUptoCard : Claim7 := { stood := { row := keysBackUptoRow, standIns := [], harness := (true, "63ad921c5ed74fd85b7e3559090b4ab624b8af21977283610b989d4b9b9c38bb"), looks := false }, kinds := [], alts := [], laidByText := true, laidKinds := [.data, .pinned], laidTests := true, laidLooks := .later }
def KeysBackUptoCardSaid : Prop := Claim7.holds Tryd.pinned (.plain (OpenSpec.upto keysBackSpec)) keysBackUptoCard

/-- THE SECOND FORM's CARD OF 'copyistlaw27.KeysTyped'. -/
def keysTypedUptoCard : Claim7 := { stood := { row := keysTypedUptoRow, standIns := [], harness := (true, "63ad921c5ed74fd85b7e3559090b4ab624b8af21977283610b989d4b9b9c38bb"), looks := false }, kinds := [], alts := [], laidByText := true, laidKinds := [.data, .pinned], laidTests := true, laidLooks := .later }
def KeysTypedUptoCardSaid : Prop := Claim7.holds Tryd.pinned (.plain (OpenSpec.upto keysTypedSpec)) keysTypedUptoCard

/-- THE SECOND FORM's CARD OF 'copyistlaw27.KeysPieces'. -/
def keysPiecesUptoCard : Claim7 := { stood := { row := keysPiecesUptoRow, standIns := [], harness := (true, "63ad921c5ed74fd85b7e3559090b4ab624b8af21977283610b989d4b9b9c38bb"), looks := false }, kinds := [], alts := [], laidByText := true, laidKinds := [.data, .pinned], laidTests := true, laidLooks := .later }
def KeysPiecesUptoCardSaid : Prop := Claim7.holds Tryd.pinned (.plain (OpenSpec.upto keysPiecesSpec)) keysPiecesUptoCard

/-- THE SECOND FORM's CARD OF 'copyistlaw27.KeysNames'. -/
def keysNamesUptoCard : Claim7 := { stood := { row := keysNamesUptoRow, standIns := [], harness := (true, "63ad921c5ed74fd85b7e3559090b4ab624b8af21977283610b989d4b9b9c38bb"), looks := false }, kinds := [], alts := [], laidByText := true, laidKinds := [.data, .pinned], laidTests := true, laidLooks := .later }
def KeysNamesUptoCardSaid : Prop := Claim7.holds Tryd.pinned (.plain (OpenSpec.upto keysNamesSpec)) keysNamesUptoCard

/-- THE SECOND FORM's CARD OF 'copyistlaw27.KeysCalls'. -/
def keysCallsUptoCard : Claim7 := { stood := { row := keysCallsUptoRow, standIns := [], harness := (true, "63ad921c5ed74fd85b7e3559090b4ab624b8af21977283610b989d4b9b9c38bb"), looks := false }, kinds := [], alts := [], laidByText := true, laidKinds := [.data, .pinned], laidTests := true, laidLooks := .later }
def KeysCallsUptoCardSaid : Prop := Claim7.holds Tryd.pinned (.plain (OpenSpec.upto keysCallsSpec)) keysCallsUptoCard
end Rows
end Go.Proofs.YtpjpefcpbkmilaaDoor
