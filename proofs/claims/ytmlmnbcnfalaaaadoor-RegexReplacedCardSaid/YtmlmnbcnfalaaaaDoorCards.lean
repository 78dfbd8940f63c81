/-
  DERIVED. GIVEN WITH THE SEED: THE CARDS: each row of YtmlmnbcnfalaaaaDoorRows.lean that lists a variable, with what it lists TIED to the program's text (the seventh form; the later family's looks); each row that meets fmt, with fmt's text TOLD by the authors' own Lean function (tested against real Go, not proved from fmt's source: count such statements apart). THE CARD IS WHAT COUNTS. Prove the row's statement (the work); the ties are given (YtmlmnbcnfalaaaaDoorTie.lean); close each card by the builder's one call (the guide's Derived/Test/ToyasCard.lean, 'card_holds'). Laid BY PROGRAM, IN A SANDBOX (cutbox-door.mjs). By AI agents, Wed Nov 11 2026. No macro, syntax, notation, axiom, sorry.
-/
import Derived.Test.YtmlmnbcnfalaaaaDoorRows
import GoSem.ClaimSeven
namespace Go.Proofs.YtmlmnbcnfalaaaaDoor
namespace Rows

/-- THE TIED CARD OF 'copyistlaw22.RegexRuns'. -/
def regexRunsCard : Claim7 := { stood := { row := regexRunsRow, standIns := [], harness := (true, "8e213cfd2ef782d777eb928cca3540b8264cab16169c83e87908dcfd86d1dab9"), looks := true }, kinds := [], alts := [], laidByText := true, laidKinds := [.data, .pinned], laidTests := true, laidLooks := .later }
def RegexRunsCardSaid : Prop := Claim7.holds Tryd.pinned (.plain (OpenSpec.ofChange regexRunsSpec)) regexRunsCard

/-- THE TIED CARD OF 'copyistlaw22.RegexPlaces'. -/
def regexPlacesCard : Claim7 := { stood := { row := regexPlacesRow, standIns := [], harness := (true, "8e213cfd2ef782d777eb928cca3540b8264cab16169c83e87908dcfd86d1dab9"), looks := true }, kinds := [], alts := [], laidByText := true, laidKinds := [.data, .pinned], laidTests := true, laidLooks := .later }
def RegexPlacesCardSaid : Prop := Claim7.holds Tryd.pinned (.plain (OpenSpec.ofChange regexPlacesSpec)) regexPlacesCard

/-- THE TIED CARD OF 'copyistlaw22.RegexOr'. -/
def regexOrCard : Claim7 := { stood := { row := regexOrRow, standIns := [], harness := (true, "8e213cfd2ef782d777eb928cca3540b8264cab16169c83e87908dcfd86d1dab9"), looks := true }, kinds := [], alts := [], laidByText := true, laidKinds := [.data, .pinned], laidTests := true, laidLooks := .later }
def RegexOrCardSaid : Prop := Claim7.holds Tryd.pinned (.plain (OpenSpec.ofChange regexOrSpec)) regexOrCard

/-- THE TIED CARD OF 'copyistlaw22.RegexFirst'. -/
def regexFirstCard : Claim7 := { stood := { row := regexFirstRow, standIns := [], harness := (true, "8e213cfd2ef782d777eb928cca3540b8264cab16169c83e87908dcfd86d1dab9"), looks := true }, kinds := [], alts := [], laidByText := true, laidKinds := [.data, .pinned], laidTests := true, laidLooks := .later }
def RegexFirstCardSaid : Prop := Claim7.holds Tryd.pinned (.plain (OpenSpec.ofChange regexFirstSpec)) regexFirstCard

/-- THE TIED CARD OF 'copyistlaw22.RegexNil'. -/
def regexNilCard : Claim7 := { stood := { row := regexNilRow, standIns := [], harness := (true, "8e213cfd2ef782d777eb928cca3540b8264cab16169c83e87908dcfd86d1dab9"), looks := true }, kinds := [], alts := [], laidByText := true, laidKinds := [.data, .pinned], laidTests := true, laidLooks := .later }
def RegexNilCardSaid : Prop := Claim7.holds Tryd.pinned (.plain (OpenSpec.ofChange regexNilSpec)) regexNilCard

/-- THE TIED CARD OF 'copyistlaw22.RegexQuoted'. -/
def regexQuotedCard : Claim7 := { stood := { row := regexQuotedRow, standIns := [], harness := (true, "8e213cfd2ef782d777eb928cca3540b8264cab16169c83e87908dcfd86d1dab9"), looks := true }, kinds := [], alts := [], laidByText := true, laidKinds := [.data, .pinned], laidTests := true, laidLooks := .later }
def RegexQuotedCardSaid : Prop := Claim7.holds Tryd.pinned (.plain (OpenSpec.ofChange regexQuotedSpec)) regexQuotedCard

/-- THE TIED CARD OF 'copyistlaw22.RegexReplaced'. -/
def regexReplacedCard : Claim7 := { stood := { row := regexReplacedRow, standIns := [], harness := (true, "8e213cfd2ef782d777eb928cca3540b8264cab16169c83e87908dcfd86d1dab9"), looks := true }, kinds := [], alts := [], laidByText := true, laidKinds := [.data, .pinned], laidTests := true, laidLooks := .later }
def RegexReplacedCardSaid : Prop := Claim7.holds Tryd.pinned (.plain (OpenSpec.ofChange regexReplacedSpec)) regexReplacedCard

/-- THE TIED CARD OF 'copyistlaw22.RegexNames'. -/
def regexNamesCard : Claim7 := { stood := { row := regexNamesRow, standIns := [], harness := (true, "8e213cfd2ef782d777eb928cca3540b8264cab16169c83e87908dcfd86d1dab9"), looks := true }, kinds := [], alts := [], laidByText := true, laidKinds := [.data, .pinned], laidTests := true, laidLooks := .later }
def RegexNamesCardSaid : Prop := Claim7.holds Tryd.pinned (.plain (OpenSpec.ofChange regexNamesSpec)) regexNamesCard

/-- THE SECOND FORM's CARD OF 'copyistlaw22.RegexRuns'. -/
def regexRunsUptoCard : Claim7 := { stood := { row := regexRunsUptoRow, standIns := [], harness := (true, "8e213cfd2ef782d777eb928cca3540b8264cab16169c83e87908dcfd86d1dab9"), looks := true }, kinds := [], alts := [], laidByText := true, laidKinds := [.data, .pinned], laidTests := true, laidLooks := .later }
def RegexRunsUptoCardSaid : Prop := Claim7.holds Tryd.pinned (.plain (OpenSpec.upto regexRunsSpec)) regexRunsUptoCard

/-- THE SECOND FORM's CARD OF 'copyistlaw22.RegexPlaces'. -/
def regexPlacesUptoCard : Claim7 := { stood := { row := regexPlacesUptoRow, standIns := [], harness := (true, "8e213cfd2ef782d777eb928cca3540b8264cab16169c83e87908dcfd86d1dab9"), looks := true }, kinds := [], alts := [], laidByText := true, laidKinds := [.data, .pinned], laidTests := true, laidLooks := .later }
def RegexPlacesUptoCardSaid : Prop := Claim7.holds Tryd.pinned (.plain (OpenSpec.upto regexPlacesSpec)) regexPlacesUptoCard

/-- THE SECOND FORM's CARD OF 'copyistlaw22.RegexOr'. -/
def regexOrUptoCard : Claim7 := { stood := { row := regexOrUptoRow, standIns := [], harness := (true, "8e213cfd2ef782d777eb928cca3540b8264cab16169c83e87908dcfd86d1dab9"), looks := true }, kinds := [], alts := [], laidByText := true, laidKinds := [.data, .pinned], laidTests := true, laidLooks := .later }
def RegexOrUptoCardSaid : Prop := Claim7.holds Tryd.pinned (.plain (OpenSpec.upto regexOrSpec)) regexOrUptoCard

/-- THE SECOND FORM's CARD OF 'copyistlaw22.RegexFirst'. -/
def regexFirstUptoCard : Claim7 := { stood := { row := regexFirstUptoRow, standIns := [], harness := (true, "8e213cfd2ef782d777eb928cca3540b8264cab16169c83e87908dcfd86d1dab9"), looks := true }, kinds := [], alts := [], laidByText := true, laidKinds := [.data, .pinned], laidTests := true, laidLooks := .later }
def RegexFirstUptoCardSaid : Prop := Claim7.holds Tryd.pinned (.plain (OpenSpec.upto regexFirstSpec)) regexFirstUptoCard

/-- THE SECOND FORM's CARD OF 'copyistlaw22.RegexNil'. -/
def regexNilUptoCard : Claim7 := { stood := { row := regexNilUptoRow, standIns := [], harness := (true, "8e213cfd2ef782d777eb928cca3540b8264cab16169c83e87908dcfd86d1dab9"), looks := true }, kinds := [], alts := [], laidByText := true, laidKinds := [.data, .pinned], laidTests := true, laidLooks := .later }
def RegexNilUptoCardSaid : Prop := Claim7.holds Tryd.pinned (.plain (OpenSpec.upto regexNilSpec)) regexNilUptoCard

/-- THE SECOND FORM's CARD OF 'copyistlaw22.RegexQuoted'. -/
def regexQuotedUptoCard : Claim7 := { stood := { row := regexQuotedUptoRow, standIns := [], harness := (true, "8e213cfd2ef782d777eb928cca3540b8264cab16169c83e87908dcfd86d1dab9"), looks := true }, kinds := [], alts := [], laidByText := true, laidKinds := [.data, .pinned], laidTests := true, laidLooks := .later }
def RegexQuotedUptoCardSaid : Prop := Claim7.holds Tryd.pinned (.plain (OpenSpec.upto regexQuotedSpec)) regexQuotedUptoCard

/-- THE SECOND FORM's CARD OF 'copyistlaw22.RegexReplaced'. -/
def regexReplacedUptoCard : Claim7 := { stood := { row := regexReplacedUptoRow, standIns := [], harness := (true, "8e213cfd2ef782d777eb928cca3540b8264cab16169c83e87908dcfd86d1dab9"), looks := true }, kinds := [], alts := [], laidByText := true, laidKinds := [.data, .pinned], laidTests := true, laidLooks := .later }
def RegexReplacedUptoCardSaid : Prop := Claim7.holds Tryd.pinned (.plain (OpenSpec.upto regexReplacedSpec)) regexReplacedUptoCard

/-- THE SECOND FORM's CARD OF 'copyistlaw22.RegexNames'. -/
def regexNamesUptoCard : Claim7 := { stood := { row := regexNamesUptoRow, standIns := [], harness := (true, "8e213cfd2ef782d777eb928cca3540b8264cab16169c83e87908dcfd86d1dab9"), looks := true }, kinds := [], alts := [], laidByText := true, laidKinds := [.data, .pinned], laidTests := true, laidLooks := .later }
def RegexNamesUptoCardSaid : Prop := Claim7.holds Tryd.pinned (.plain (OpenSpec.upto regexNamesSpec)) regexNamesUptoCard
end Rows
end Go.Proofs.YtmlmnbcnfalaaaaDoor
