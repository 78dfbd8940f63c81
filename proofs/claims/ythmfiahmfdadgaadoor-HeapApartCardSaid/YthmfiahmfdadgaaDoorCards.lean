/-
  DERIVED. GIVEN WITH THE SEED: THE CARDS: each row of YthmfiahmfdadgaaDoorRows.lean that lists a variable, with what it lists TIED to the program's text (the seventh form; the later family's looks); each row that meets fmt, with fmt's text TOLD by the authors' own Lean function (tested against real Go, not proved from fmt's source: count such statements apart). THE CARD IS WHAT COUNTS. Prove the row's statement (the work); the ties are given (YthmfiahmfdadgaaDoorTie.lean); close each card by the builder's one call (the guide's Derived/Test/ToyasCard.lean, 'card_holds'). Laid BY PROGRAM, IN A SANDBOX (cutbox-door.mjs). By AI agents, Wed Nov 11 2026. No macro, syntax, notation, axiom, sorry.
-/
import Derived.Test.YthmfiahmfdadgaaDoorRows
import GoSem.ClaimSeven
namespace Go.Proofs.YthmfiahmfdadgaaDoor
namespace Rows

/-- THE TIED CARD OF 'copyistlaw02.HeapHolds'. -/
def heapHoldsCard : Claim7 := { stood := { row := heapHoldsRow, standIns := [], harness := (true, "c5d685b23d89b87a367090f8f0a388c7572b4f2650e466a7798950f7cd424a95"), looks := true }, kinds := [], alts := [], laidByText := true, laidKinds := [.data, .pinned], laidTests := true, laidLooks := .later }
def HeapHoldsCardSaid : Prop := Claim7.holds Tryd.pinned (.plain (OpenSpec.ofChange heapHoldsSpec)) heapHoldsCard

/-- THE TIED CARD OF 'copyistlaw02.HeapFull'. -/
def heapFullCard : Claim7 := { stood := { row := heapFullRow, standIns := [], harness := (true, "c5d685b23d89b87a367090f8f0a388c7572b4f2650e466a7798950f7cd424a95"), looks := true }, kinds := [], alts := [], laidByText := true, laidKinds := [.data, .pinned], laidTests := true, laidLooks := .later }
def HeapFullCardSaid : Prop := Claim7.holds Tryd.pinned (.plain (OpenSpec.ofChange heapFullSpec)) heapFullCard

/-- THE TIED CARD OF 'copyistlaw02.HeapCollect'. -/
def heapCollectCard : Claim7 := { stood := { row := heapCollectRow, standIns := [], harness := (true, "c5d685b23d89b87a367090f8f0a388c7572b4f2650e466a7798950f7cd424a95"), looks := true }, kinds := [], alts := [], laidByText := true, laidKinds := [.data, .pinned], laidTests := true, laidLooks := .later }
def HeapCollectCardSaid : Prop := Claim7.holds Tryd.pinned (.plain (OpenSpec.ofChange heapCollectSpec)) heapCollectCard

/-- THE TIED CARD OF 'copyistlaw02.HeapNames'. -/
def heapNamesCard : Claim7 := { stood := { row := heapNamesRow, standIns := [], harness := (true, "c5d685b23d89b87a367090f8f0a388c7572b4f2650e466a7798950f7cd424a95"), looks := true }, kinds := [], alts := [], laidByText := true, laidKinds := [.data, .pinned], laidTests := true, laidLooks := .later }
def HeapNamesCardSaid : Prop := Claim7.holds Tryd.pinned (.plain (OpenSpec.ofChange heapNamesSpec)) heapNamesCard

/-- THE TIED CARD OF 'copyistlaw02.HeapApart'. -/
def heapApartCard : Claim7 := { stood := { row := heapApartRow, standIns := [], harness := (true, "c5d685b23d89b87a367090f8f0a388c7572b4f2650e466a7798950f7cd424a95"), looks := true }, kinds := [], alts := [], laidByText := true, laidKinds := [.data, .pinned], laidTests := true, laidLooks := .later }
def HeapApartCardSaid : Prop := Claim7.holds Tryd.pinned (.plain (OpenSpec.ofChange heapApartSpec)) heapApartCard

/-- THE SECOND FORM's CARD OF 'copyistlaw02.HeapHolds'. -/
def heapHoldsUptoCard : Claim7 := { stood := { row := heapHoldsUptoRow, standIns := [], harness := (true, "c5d685b23d89b87a367090f8f0a388c7572b4f2650e466a7798950f7cd424a95"), looks := true }, kinds := [], alts := [], laidByText := true, laidKinds := [.data, .pinned], laidTests := true, laidLooks := .later }
def HeapHoldsUptoCardSaid : Prop := Claim7.holds Tryd.pinned (.plain (OpenSpec.upto heapHoldsSpec)) heapHoldsUptoCard

/-- THE SECOND FORM's CARD OF 'copyistlaw02.HeapFull'. -/
def heapFullUptoCard : Claim7 := { stood := { row := heapFullUptoRow, standIns := [], harness := (true, "c5d685b23d89b87a367090f8f0a388c7572b4f2650e466a7798950f7cd424a95"), looks := true }, kinds := [], alts := [], laidByText := true, laidKinds := [.data, .pinned], laidTests := true, laidLooks := .later }
def HeapFullUptoCardSaid : Prop := Claim7.holds Tryd.pinned (.plain (OpenSpec.upto heapFullSpec)) heapFullUptoCard

/-- THE SECOND FORM's CARD OF 'copyistlaw02.HeapCollect'. -/
def heapCollectUptoCard : Claim7 := { stood := { row := heapCollectUptoRow, standIns := [], harness := (true, "c5d685b23d89b87a367090f8f0a388c7572b4f2650e466a7798950f7cd424a95"), looks := true }, kinds := [], alts := [], laidByText := true, laidKinds := [.data, .pinned], laidTests := true, laidLooks := .later }
def HeapCollectUptoCardSaid : Prop := Claim7.holds Tryd.pinned (.plain (OpenSpec.upto heapCollectSpec)) heapCollectUptoCard

/-- THE SECOND FORM's CARD OF 'copyistlaw02.HeapNames'. -/
def heapNamesUptoCard : Claim7 := { stood := { row := heapNamesUptoRow, standIns := [], harness := (true, "c5d685b23d89b87a367090f8f0a388c7572b4f2650e466a7798950f7cd424a95"), looks := true }, kinds := [], alts := [], laidByText := true, laidKinds := [.data, .pinned], laidTests := true, laidLooks := .later }
def HeapNamesUptoCardSaid : Prop := Claim7.holds Tryd.pinned (.plain (OpenSpec.upto heapNamesSpec)) heapNamesUptoCard

/-- THE SECOND FORM's CARD OF 'copyistlaw02.HeapApart'. -/
def heapApartUptoCard : Claim7 := { stood := { row := heapApartUptoRow, standIns := [], harness := (true, "c5d685b23d89b87a367090f8f0a388c7572b4f2650e466a7798950f7cd424a95"), looks := true }, kinds := [], alts := [], laidByText := true, laidKinds := [.data, .pinned], laidTests := true, laidLooks := .later }
def HeapApartUptoCardSaid : Prop := Claim7.holds Tryd.pinned (.plain (OpenSpec.upto heapApartSpec)) heapApartUptoCard
end Rows
end Go.Proofs.YthmfiahmfdadgaaDoor
