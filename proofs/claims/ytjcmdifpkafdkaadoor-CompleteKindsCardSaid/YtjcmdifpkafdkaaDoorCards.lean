/-
  DERIVED. GIVEN WITH THE SEED: THE CARDS: each row of YtjcmdifpkafdkaaDoorRows.lean that lists a variable, with what it lists TIED to the program's text (the seventh form; the later family's looks); each row that meets fmt, with fmt's text TOLD by the authors' own Lean function (tested against real Go, not proved from fmt's source: count such statements apart). THE CARD IS WHAT COUNTS. Prove the row's statement (the work); the ties are given (YtjcmdifpkafdkaaDoorTie.lean); close each card by the builder's one call (the guide's Derived/Test/ToyasCard.lean, 'card_holds'). Laid BY PROGRAM, IN A SANDBOX (cutbox-door.mjs). By AI agents, Wed Nov 11 2026. No macro, syntax, notation, axiom, sorry.
-/
import Derived.Test.YtjcmdifpkafdkaaDoorRows
import GoSem.ClaimSeven
namespace Go.Proofs.YtjcmdifpkafdkaaDoor
namespace Rows

/-- THE TIED CARD OF 'copyistlaw31.CompleteWords'. -/
def completeWordsCard : Claim7 := { stood := { row := completeWordsRow, standIns := [], harness := (true, "8420f4b699e74c22793bf9c8bf328c547f03954eb51e1290d4e8f40e8c809d38"), looks := false }, kinds := [], alts := [], laidByText := true, laidKinds := [.data, .pinned], laidTests := true, laidLooks := .later }
def CompleteWordsCardSaid : Prop := Claim7.holds Tryd.pinned (.plain (OpenSpec.ofChange completeWordsSpec)) completeWordsCard

/-- THE TIED CARD OF 'copyistlaw31.CompletePrefixes'. -/
def completePrefixesCard : Claim7 := { stood := { row := completePrefixesRow, standIns := [], harness := (true, "8420f4b699e74c22793bf9c8bf328c547f03954eb51e1290d4e8f40e8c809d38"), looks := false }, kinds := [], alts := [], laidByText := true, laidKinds := [.data, .pinned], laidTests := true, laidLooks := .later }
def CompletePrefixesCardSaid : Prop := Claim7.holds Tryd.pinned (.plain (OpenSpec.ofChange completePrefixesSpec)) completePrefixesCard

/-- THE TIED CARD OF 'copyistlaw31.CompleteOrders'. -/
def completeOrdersCard : Claim7 := { stood := { row := completeOrdersRow, standIns := [], harness := (true, "8420f4b699e74c22793bf9c8bf328c547f03954eb51e1290d4e8f40e8c809d38"), looks := false }, kinds := [], alts := [], laidByText := true, laidKinds := [.data, .pinned], laidTests := true, laidLooks := .later }
def CompleteOrdersCardSaid : Prop := Claim7.holds Tryd.pinned (.plain (OpenSpec.ofChange completeOrdersSpec)) completeOrdersCard

/-- THE TIED CARD OF 'copyistlaw31.CompleteKnown'. -/
def completeKnownCard : Claim7 := { stood := { row := completeKnownRow, standIns := [], harness := (true, "8420f4b699e74c22793bf9c8bf328c547f03954eb51e1290d4e8f40e8c809d38"), looks := false }, kinds := [], alts := [], laidByText := true, laidKinds := [.data, .pinned], laidTests := true, laidLooks := .later }
def CompleteKnownCardSaid : Prop := Claim7.holds Tryd.pinned (.plain (OpenSpec.ofChange completeKnownSpec)) completeKnownCard

/-- THE TIED CARD OF 'copyistlaw31.CompleteSame'. -/
def completeSameCard : Claim7 := { stood := { row := completeSameRow, standIns := [], harness := (true, "8420f4b699e74c22793bf9c8bf328c547f03954eb51e1290d4e8f40e8c809d38"), looks := false }, kinds := [], alts := [], laidByText := true, laidKinds := [.data, .pinned], laidTests := true, laidLooks := .later }
def CompleteSameCardSaid : Prop := Claim7.holds Tryd.pinned (.plain (OpenSpec.ofChange completeSameSpec)) completeSameCard

/-- THE TIED CARD OF 'copyistlaw31.CompleteKinds'. -/
def completeKindsCard : Claim7 := { stood := { row := completeKindsRow, standIns := [], harness := (true, "8420f4b699e74c22793bf9c8bf328c547f03954eb51e1290d4e8f40e8c809d38"), looks := false }, kinds := [], alts := [], laidByText := true, laidKinds := [.data, .pinned], laidTests := true, laidLooks := .later }
def CompleteKindsCardSaid : Prop := Claim7.holds Tryd.pinned (.plain (OpenSpec.ofChange completeKindsSpec)) completeKindsCard

/-- THE TIED CARD OF 'copyistlaw31.CompleteExtends'. -/
def completeExtendsCard : Claim7 := { stood := { row := completeExtendsRow, standIns := [], harness := (true, "8420f4b699e74c22793bf9c8bf328c547f03954eb51e1290d4e8f40e8c809d38"), looks := false }, kinds := [], alts := [], laidByText := true, laidKinds := [.data, .pinned], laidTests := true, laidLooks := .later }
def CompleteExtendsCardSaid : Prop := Claim7.holds Tryd.pinned (.plain (OpenSpec.ofChange completeExtendsSpec)) completeExtendsCard

/-- THE SECOND FORM's CARD OF 'copyistlaw31.CompleteWords'. -/
def completeWordsUptoCard : Claim7 := { stood := { row := completeWordsUptoRow, standIns := [], harness := (true, "8420f4b699e74c22793bf9c8bf328c547f03954eb51e1290d4e8f40e8c809d38"), looks := false }, kinds := [], alts := [], laidByText := true, laidKinds := [.data, .pinned], laidTests := true, laidLooks := .later }
def CompleteWordsUptoCardSaid : Prop := Claim7.holds Tryd.pinned (.plain (OpenSpec.upto completeWordsSpec)) completeWordsUptoCard

/-- THE SECOND FORM's CARD OF 'copyistlaw31.CompletePrefixes'. -/
def completePrefixesUptoCard : Claim7 := { stood := { row := completePrefixesUptoRow, standIns := [], harness := (true, "8420f4b699e74c22793bf9c8bf328c547f03954eb51e1290d4e8f40e8c809d38"), looks := false }, kinds := [], alts := [], laidByText := true, laidKinds := [.data, .pinned], laidTests := true, laidLooks := .later }
def CompletePrefixesUptoCardSaid : Prop := Claim7.holds Tryd.pinned (.plain (OpenSpec.upto completePrefixesSpec)) completePrefixesUptoCard

/-- THE SECOND FORM's CARD OF 'copyistlaw31.CompleteOrders'. -/
def completeOrdersUptoCard : Claim7 := { stood := { row := completeOrdersUptoRow, standIns := [], harness := (true, "8420f4b699e74c22793bf9c8bf328c547f03954eb51e1290d4e8f40e8c809d38"), looks := false }, kinds := [], alts := [], laidByText := true, laidKinds := [.data, .pinned], laidTests := true, laidLooks := .later }
def CompleteOrdersUptoCardSaid : Prop := Claim7.holds Tryd.pinned (.plain (OpenSpec.upto completeOrdersSpec)) completeOrdersUptoCard

/-- THE SECOND FORM's CARD OF 'copyistlaw31.CompleteKnown'. -/
def completeKnownUptoCard : Claim7 := { stood := { row := completeKnownUptoRow, standIns := [], harness := (true, "8420f4b699e74c22793bf9c8bf328c547f03954eb51e1290d4e8f40e8c809d38"), looks := false }, kinds := [], alts := [], laidByText := true, laidKinds := [.data, .pinned], laidTests := true, laidLooks := .later }
def CompleteKnownUptoCardSaid : Prop := Claim7.holds Tryd.pinned (.plain (OpenSpec.upto completeKnownSpec)) completeKnownUptoCard

/-- THE SECOND FORM's CARD OF 'copyistlaw31.CompleteSame'. -/
def completeSameUptoCard : Claim7 := { stood := { row := completeSameUptoRow, standIns := [], harness := (true, "8420f4b699e74c22793bf9c8bf328c547f03954eb51e1290d4e8f40e8c809d38"), looks := false }, kinds := [], alts := [], laidByText := true, laidKinds := [.data, .pinned], laidTests := true, laidLooks := .later }
def CompleteSameUptoCardSaid : Prop := Claim7.holds Tryd.pinned (.plain (OpenSpec.upto completeSameSpec)) completeSameUptoCard

/-- THE SECOND FORM's CARD OF 'copyistlaw31.CompleteKinds'. -/
def completeKindsUptoCard : Claim7 := { stood := { row := completeKindsUptoRow, standIns := [], harness := (true, "8420f4b699e74c22793bf9c8bf328c547f03954eb51e1290d4e8f40e8c809d38"), looks := false }, kinds := [], alts := [], laidByText := true, laidKinds := [.data, .pinned], laidTests := true, laidLooks := .later }
def CompleteKindsUptoCardSaid : Prop := Claim7.holds Tryd.pinned (.plain (OpenSpec.upto completeKindsSpec)) completeKindsUptoCard

/-- THE SECOND FORM's CARD OF 'copyistlaw31.CompleteExtends'. -/
def completeExtendsUptoCard : Claim7 := { stood := { row := completeExtendsUptoRow, standIns := [], harness := (true, "8420f4b699e74c22793bf9c8bf328c547f03954eb51e1290d4e8f40e8c809d38"), looks := false }, kinds := [], alts := [], laidByText := true, laidKinds := [.data, .pinned], laidTests := true, laidLooks := .later }
def CompleteExtendsUptoCardSaid : Prop := Claim7.holds Tryd.pinned (.plain (OpenSpec.upto completeExtendsSpec)) completeExtendsUptoCard
end Rows
end Go.Proofs.YtjcmdifpkafdkaaDoor
