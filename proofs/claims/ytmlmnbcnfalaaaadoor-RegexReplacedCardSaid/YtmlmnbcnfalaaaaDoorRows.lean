/-
  NARROWER THAN 'FOR EVERY INPUT', by the rows' own cells (each row's printed sentence says how): RegexRuns: laid · RegexPlaces: laid · RegexOr: laid · RegexFirst: laid · RegexNil: laid · RegexQuoted: laid · RegexReplaced: laid · RegexNames: laid.
  DERIVED. THE GIVEN ROWS OF THIS SEAT. 8 by the template 'for every input the law returns true; each argument reads behind the call as it read before'; 0 by the template 'total and deterministic' (their statements: YtmlmnbcnfalaaaaDoorTotals.lean).
  GIVEN WITH THE SEED: the statements are not yours to turn. If you find one false, say at which input.
  Laid BY PROGRAM, IN A SANDBOX (cutbox-rows.mjs): the forced cells as the released guide's own fill.sh prints them over the translation c0ea1792da084c8d… (all of the seat's roots in one cut). By AI agents, Wed Nov 11 2026. No macro, syntax, notation, axiom, sorry.
-/
import Derived.Test.YtmlmnbcnfalaaaaDoorChecked
import GoSem.PinnedTables
import GoSem.Claim
import GoSem.ClaimJoined
import GoSem.ClaimMapViews
import Derived.JoinedTies
import Derived.KernelRfl
namespace Go.Proofs.YtmlmnbcnfalaaaaDoor
/- THE CELL 'sum', in the pinned program and in every row, IS THE sha256 OF THE DUMP (.gsa) THAT YtmlmnbcnfalaaaaDoorProg.lean LOADS. Nothing in Lean hashes anything: it is a label: what it is worth is what the hold of that sum in a sandbox is worth. -/
noncomputable def Tryd.pinned : Pinned := { name := "ytmlmnbcnfalaaaadoor", sum := "c0ea1792da084c8db84ba08ac45c3612a1a7cd324b5df3d60de47d8722339192", checked := Tryd.checked }
namespace Rows
def none {H : Type} : Left H := { results := [], args := [] }

/- WHAT THE LISTED PACKAGE-LEVEL VARIABLES READ AS WHEN THE CALL BEGINS. Each datum BY PROGRAM (the guide's laid-datum.mjs) off the statement by which the dump's own 'gosem.cut.vars' lays the variable. In a bare row this is a premise. The card (YtmlmnbcnfalaaaaDoorCards.lean) ties it to the program's text. -/
def laid_unicode_utf8_acceptRanges {H : Type} : DataW H := .agg [.agg [.lit (.int .u8 128), .lit (.int .u8 191)], .agg [.lit (.int .u8 160), .lit (.int .u8 191)], .agg [.lit (.int .u8 128), .lit (.int .u8 159)], .agg [.lit (.int .u8 144), .lit (.int .u8 191)], .agg [.lit (.int .u8 128), .lit (.int .u8 143)], .agg [.lit (.int .u8 0), .lit (.int .u8 0)], .agg [.lit (.int .u8 0), .lit (.int .u8 0)], .agg [.lit (.int .u8 0), .lit (.int .u8 0)], .agg [.lit (.int .u8 0), .lit (.int .u8 0)], .agg [.lit (.int .u8 0), .lit (.int .u8 0)], .agg [.lit (.int .u8 0), .lit (.int .u8 0)], .agg [.lit (.int .u8 0), .lit (.int .u8 0)], .agg [.lit (.int .u8 0), .lit (.int .u8 0)], .agg [.lit (.int .u8 0), .lit (.int .u8 0)], .agg [.lit (.int .u8 0), .lit (.int .u8 0)], .agg [.lit (.int .u8 0), .lit (.int .u8 0)]]
/-- One of Go's own tables, pinned by name: the form's constant. -/
def laid_unicode_utf8_first : DataW Unit := Go.Pinned.utf8First

/-- 'copyistlaw22.RegexRuns': WHATEVER THE INPUT: true; the input reads as it did. -/
def regexRunsSpec : ChangeSpec := { name := "regexRuns", fn := fun _ => fun
  | [d1, d2, d3, d4, d5, d6] => { results := [.lit (.bool true)], args := [d1, d2, d3, d4, d5, d6] }
  | _ => none }
def regexRunsRow : OpenClaim := { program := "ytmlmnbcnfalaaaadoor", sum := "c0ea1792da084c8db84ba08ac45c3612a1a7cd324b5df3d60de47d8722339192", func := "copyist/copyistlaw22.RegexRuns", spec := "regexRuns", inPlace := ["internal/bytealg.IndexByteString"], unfollowed := true, recurses := true, named := ["unicode/utf8.first", "unicode/utf8.acceptRanges"], apart := false, laid := [("unicode/utf8.acceptRanges", laid_unicode_utf8_acceptRanges), ("unicode/utf8.first", laid_unicode_utf8_first)] }
def RegexRunsSaid : Prop := regexRunsRow.holds Tryd.pinned (OpenSpec.ofChange regexRunsSpec)

/-- ITS FALSE NEIGHBOUR: 'it returns false'. Refute it at one input. -/
def regexRunsWrong : ChangeSpec := { name := "regexRuns", fn := fun _ => fun
  | [d1, d2, d3, d4, d5, d6] => { results := [.lit (.bool false)], args := [d1, d2, d3, d4, d5, d6] }
  | _ => none }
def RegexRunsWrongFalsely : Prop := regexRunsRow.holds Tryd.pinned (OpenSpec.ofChange regexRunsWrong)

/-- 'copyistlaw22.RegexPlaces': WHATEVER THE INPUT: true; the input reads as it did. -/
def regexPlacesSpec : ChangeSpec := { name := "regexPlaces", fn := fun _ => fun
  | [d1, d2] => { results := [.lit (.bool true)], args := [d1, d2] }
  | _ => none }
def regexPlacesRow : OpenClaim := { program := "ytmlmnbcnfalaaaadoor", sum := "c0ea1792da084c8db84ba08ac45c3612a1a7cd324b5df3d60de47d8722339192", func := "copyist/copyistlaw22.RegexPlaces", spec := "regexPlaces", inPlace := ["internal/bytealg.IndexByteString"], unfollowed := true, recurses := true, named := ["unicode/utf8.first", "unicode/utf8.acceptRanges"], apart := false, laid := [("unicode/utf8.acceptRanges", laid_unicode_utf8_acceptRanges), ("unicode/utf8.first", laid_unicode_utf8_first)] }
def RegexPlacesSaid : Prop := regexPlacesRow.holds Tryd.pinned (OpenSpec.ofChange regexPlacesSpec)

/-- ITS FALSE NEIGHBOUR: 'it returns false'. Refute it at one input. -/
def regexPlacesWrong : ChangeSpec := { name := "regexPlaces", fn := fun _ => fun
  | [d1, d2] => { results := [.lit (.bool false)], args := [d1, d2] }
  | _ => none }
def RegexPlacesWrongFalsely : Prop := regexPlacesRow.holds Tryd.pinned (OpenSpec.ofChange regexPlacesWrong)

/-- 'copyistlaw22.RegexOr': WHATEVER THE INPUT: true; the input reads as it did. -/
def regexOrSpec : ChangeSpec := { name := "regexOr", fn := fun _ => fun
  | [d1, d2, d3, d4, d5] => { results := [.lit (.bool true)], args := [d1, d2, d3, d4, d5] }
  | _ => none }
def regexOrRow : OpenClaim := { program := "ytmlmnbcnfalaaaadoor", sum := "c0ea1792da084c8db84ba08ac45c3612a1a7cd324b5df3d60de47d8722339192", func := "copyist/copyistlaw22.RegexOr", spec := "regexOr", inPlace := ["internal/bytealg.IndexByteString"], unfollowed := true, recurses := true, named := ["unicode/utf8.first", "unicode/utf8.acceptRanges"], apart := false, laid := [("unicode/utf8.acceptRanges", laid_unicode_utf8_acceptRanges), ("unicode/utf8.first", laid_unicode_utf8_first)] }
def RegexOrSaid : Prop := regexOrRow.holds Tryd.pinned (OpenSpec.ofChange regexOrSpec)

/-- ITS FALSE NEIGHBOUR: 'it returns false'. Refute it at one input. -/
def regexOrWrong : ChangeSpec := { name := "regexOr", fn := fun _ => fun
  | [d1, d2, d3, d4, d5] => { results := [.lit (.bool false)], args := [d1, d2, d3, d4, d5] }
  | _ => none }
def RegexOrWrongFalsely : Prop := regexOrRow.holds Tryd.pinned (OpenSpec.ofChange regexOrWrong)

/-- 'copyistlaw22.RegexFirst': WHATEVER THE INPUT: true; the input reads as it did. -/
def regexFirstSpec : ChangeSpec := { name := "regexFirst", fn := fun _ => fun
  | [d1, d2, d3, d4] => { results := [.lit (.bool true)], args := [d1, d2, d3, d4] }
  | _ => none }
def regexFirstRow : OpenClaim := { program := "ytmlmnbcnfalaaaadoor", sum := "c0ea1792da084c8db84ba08ac45c3612a1a7cd324b5df3d60de47d8722339192", func := "copyist/copyistlaw22.RegexFirst", spec := "regexFirst", inPlace := ["internal/bytealg.IndexByteString"], unfollowed := true, recurses := true, named := ["unicode/utf8.first", "unicode/utf8.acceptRanges"], apart := false, laid := [("unicode/utf8.acceptRanges", laid_unicode_utf8_acceptRanges), ("unicode/utf8.first", laid_unicode_utf8_first)] }
def RegexFirstSaid : Prop := regexFirstRow.holds Tryd.pinned (OpenSpec.ofChange regexFirstSpec)

/-- ITS FALSE NEIGHBOUR: 'it returns false'. Refute it at one input. -/
def regexFirstWrong : ChangeSpec := { name := "regexFirst", fn := fun _ => fun
  | [d1, d2, d3, d4] => { results := [.lit (.bool false)], args := [d1, d2, d3, d4] }
  | _ => none }
def RegexFirstWrongFalsely : Prop := regexFirstRow.holds Tryd.pinned (OpenSpec.ofChange regexFirstWrong)

/-- 'copyistlaw22.RegexNil': WHATEVER THE INPUT: true; the input reads as it did. -/
def regexNilSpec : ChangeSpec := { name := "regexNil", fn := fun _ => fun
  | [d1, d2, d3] => { results := [.lit (.bool true)], args := [d1, d2, d3] }
  | _ => none }
def regexNilRow : OpenClaim := { program := "ytmlmnbcnfalaaaadoor", sum := "c0ea1792da084c8db84ba08ac45c3612a1a7cd324b5df3d60de47d8722339192", func := "copyist/copyistlaw22.RegexNil", spec := "regexNil", inPlace := ["internal/bytealg.IndexByteString"], unfollowed := true, recurses := true, named := ["unicode/utf8.first", "unicode/utf8.acceptRanges"], apart := false, laid := [("unicode/utf8.acceptRanges", laid_unicode_utf8_acceptRanges), ("unicode/utf8.first", laid_unicode_utf8_first)] }
def RegexNilSaid : Prop := regexNilRow.holds Tryd.pinned (OpenSpec.ofChange regexNilSpec)

/-- ITS FALSE NEIGHBOUR: 'it returns false'. Refute it at one input. -/
def regexNilWrong : ChangeSpec := { name := "regexNil", fn := fun _ => fun
  | [d1, d2, d3] => { results := [.lit (.bool false)], args := [d1, d2, d3] }
  | _ => none }
def RegexNilWrongFalsely : Prop := regexNilRow.holds Tryd.pinned (OpenSpec.ofChange regexNilWrong)

/-- 'copyistlaw22.RegexQuoted': WHATEVER THE INPUT: true; the input reads as it did. -/
def regexQuotedSpec : ChangeSpec := { name := "regexQuoted", fn := fun _ => fun
  | [d1, d2, d3, d4] => { results := [.lit (.bool true)], args := [d1, d2, d3, d4] }
  | _ => none }
def regexQuotedRow : OpenClaim := { program := "ytmlmnbcnfalaaaadoor", sum := "c0ea1792da084c8db84ba08ac45c3612a1a7cd324b5df3d60de47d8722339192", func := "copyist/copyistlaw22.RegexQuoted", spec := "regexQuoted", inPlace := ["internal/bytealg.IndexByteString", "internal/abi.NoEscape"], unfollowed := true, recurses := true, named := ["unicode/utf8.first", "unicode/utf8.acceptRanges"], apart := false, laid := [("unicode/utf8.acceptRanges", laid_unicode_utf8_acceptRanges), ("unicode/utf8.first", laid_unicode_utf8_first)] }
def RegexQuotedSaid : Prop := regexQuotedRow.holds Tryd.pinned (OpenSpec.ofChange regexQuotedSpec)

/-- ITS FALSE NEIGHBOUR: 'it returns false'. Refute it at one input. -/
def regexQuotedWrong : ChangeSpec := { name := "regexQuoted", fn := fun _ => fun
  | [d1, d2, d3, d4] => { results := [.lit (.bool false)], args := [d1, d2, d3, d4] }
  | _ => none }
def RegexQuotedWrongFalsely : Prop := regexQuotedRow.holds Tryd.pinned (OpenSpec.ofChange regexQuotedWrong)

/-- 'copyistlaw22.RegexReplaced': WHATEVER THE INPUT: true; the input reads as it did. -/
def regexReplacedSpec : ChangeSpec := { name := "regexReplaced", fn := fun _ => fun
  | [d1, d2, d3, d4] => { results := [.lit (.bool true)], args := [d1, d2, d3, d4] }
  | _ => none }
def regexReplacedRow : OpenClaim := { program := "ytmlmnbcnfalaaaadoor", sum := "c0ea1792da084c8db84ba08ac45c3612a1a7cd324b5df3d60de47d8722339192", func := "copyist/copyistlaw22.RegexReplaced", spec := "regexReplaced", inPlace := ["internal/bytealg.IndexByteString"], unfollowed := true, recurses := true, named := ["unicode/utf8.first", "unicode/utf8.acceptRanges"], apart := false, laid := [("unicode/utf8.acceptRanges", laid_unicode_utf8_acceptRanges), ("unicode/utf8.first", laid_unicode_utf8_first)] }
def RegexReplacedSaid : Prop := regexReplacedRow.holds Tryd.pinned (OpenSpec.ofChange regexReplacedSpec)

/-- ITS FALSE NEIGHBOUR: 'it returns false'. Refute it at one input. -/
def regexReplacedWrong : ChangeSpec := { name := "regexReplaced", fn := fun _ => fun
  | [d1, d2, d3, d4] => { results := [.lit (.bool false)], args := [d1, d2, d3, d4] }
  | _ => none }
def RegexReplacedWrongFalsely : Prop := regexReplacedRow.holds Tryd.pinned (OpenSpec.ofChange regexReplacedWrong)

/-- 'copyistlaw22.RegexNames': WHATEVER THE INPUT: true; the input reads as it did. -/
def regexNamesSpec : ChangeSpec := { name := "regexNames", fn := fun _ => fun
  | [] => { results := [.lit (.bool true)], args := [] }
  | _ => none }
def regexNamesRow : OpenClaim := { program := "ytmlmnbcnfalaaaadoor", sum := "c0ea1792da084c8db84ba08ac45c3612a1a7cd324b5df3d60de47d8722339192", func := "copyist/copyistlaw22.RegexNames", spec := "regexNames", inPlace := ["internal/bytealg.IndexByteString", "internal/abi.NoEscape"], unfollowed := true, recurses := true, named := ["unicode/utf8.first", "unicode/utf8.acceptRanges"], apart := false, laid := [("unicode/utf8.acceptRanges", laid_unicode_utf8_acceptRanges), ("unicode/utf8.first", laid_unicode_utf8_first)] }
def RegexNamesSaid : Prop := regexNamesRow.holds Tryd.pinned (OpenSpec.ofChange regexNamesSpec)

/-- ITS FALSE NEIGHBOUR: 'it returns false'. Refute it at one input. -/
def regexNamesWrong : ChangeSpec := { name := "regexNames", fn := fun _ => fun
  | [] => { results := [.lit (.bool false)], args := [] }
  | _ => none }
def RegexNamesWrongFalsely : Prop := regexNamesRow.holds Tryd.pinned (OpenSpec.ofChange regexNamesWrong)

/- THE SECOND FORM. 'bulk': how many values and letters a reading holds, each counted each time it is reached (what is shared counts as often as it is met; a slice's spare places count too). A statement '..UptoSaid' is the law's where the arguments, and the package variables that the reading takes, are together of bulk at most 1048576: NARROWER than '..Said'. Prove '..Said' where nothing that the law and all that it calls make is longer than what came in: it says more and counts as full. Else prove '..UptoSaid'. A law counts once. -/
mutual
def uptoBulk {H : Type} : DataW H → Nat
  | .lit (.string bytes) => bytes.length + 1
  | .lit _ => 1
  | .nil => 1
  | .ptr d => uptoBulk d + 1
  | .slice elems spare => uptoBulkAll elems + uptoBulkAll spare + 1
  | .agg parts => uptoBulkAll parts + 1
  | .iface _ d => uptoBulk d + 1
  | .map entries => uptoBulkEntries entries + 1
  | .held _ => 1
def uptoBulkAll {H : Type} : List (DataW H) → Nat
  | [] => 0
  | d :: r => uptoBulk d + uptoBulkAll r
def uptoBulkEntries {H : Type} : List (Lit × DataW H) → Nat
  | [] => 0
  | x :: r => uptoBulkEntry x + uptoBulkEntries r
def uptoBulkEntry {H : Type} : Lit × DataW H → Nat
  | (.string bytes, d) => bytes.length + uptoBulk d + 1
  | (_, d) => uptoBulk d + 1
 end
def uptoSmall : (H : Type) → List (DataW H) → Bool := fun _ ds => decide (uptoBulkAll ds ≤ 1048576)
def OpenSpec.upto (s : _root_.Go.ChangeSpec) : _root_.Go.OpenSpec := { _root_.Go.OpenSpec.ofChange s with cond := some uptoSmall }

/-- 'copyistlaw22.RegexRuns', WHERE WHAT IT READS IS OF BULK AT MOST 1048576: true; the input reads as it did. -/
def regexRunsUptoRow : OpenClaim := { program := "ytmlmnbcnfalaaaadoor", sum := "c0ea1792da084c8db84ba08ac45c3612a1a7cd324b5df3d60de47d8722339192", func := "copyist/copyistlaw22.RegexRuns", spec := "regexRuns", inPlace := ["internal/bytealg.IndexByteString"], unfollowed := true, recurses := true, named := ["unicode/utf8.first", "unicode/utf8.acceptRanges"], apart := false, laid := [("unicode/utf8.acceptRanges", laid_unicode_utf8_acceptRanges), ("unicode/utf8.first", laid_unicode_utf8_first)], narrowed := true }
def RegexRunsUptoSaid : Prop := regexRunsUptoRow.holds Tryd.pinned (OpenSpec.upto regexRunsSpec)

/-- 'copyistlaw22.RegexPlaces', WHERE WHAT IT READS IS OF BULK AT MOST 1048576: true; the input reads as it did. -/
def regexPlacesUptoRow : OpenClaim := { program := "ytmlmnbcnfalaaaadoor", sum := "c0ea1792da084c8db84ba08ac45c3612a1a7cd324b5df3d60de47d8722339192", func := "copyist/copyistlaw22.RegexPlaces", spec := "regexPlaces", inPlace := ["internal/bytealg.IndexByteString"], unfollowed := true, recurses := true, named := ["unicode/utf8.first", "unicode/utf8.acceptRanges"], apart := false, laid := [("unicode/utf8.acceptRanges", laid_unicode_utf8_acceptRanges), ("unicode/utf8.first", laid_unicode_utf8_first)], narrowed := true }
def RegexPlacesUptoSaid : Prop := regexPlacesUptoRow.holds Tryd.pinned (OpenSpec.upto regexPlacesSpec)

/-- 'copyistlaw22.RegexOr', WHERE WHAT IT READS IS OF BULK AT MOST 1048576: true; the input reads as it did. -/
def regexOrUptoRow : OpenClaim := { program := "ytmlmnbcnfalaaaadoor", sum := "c0ea1792da084c8db84ba08ac45c3612a1a7cd324b5df3d60de47d8722339192", func := "copyist/copyistlaw22.RegexOr", spec := "regexOr", inPlace := ["internal/bytealg.IndexByteString"], unfollowed := true, recurses := true, named := ["unicode/utf8.first", "unicode/utf8.acceptRanges"], apart := false, laid := [("unicode/utf8.acceptRanges", laid_unicode_utf8_acceptRanges), ("unicode/utf8.first", laid_unicode_utf8_first)], narrowed := true }
def RegexOrUptoSaid : Prop := regexOrUptoRow.holds Tryd.pinned (OpenSpec.upto regexOrSpec)

/-- 'copyistlaw22.RegexFirst', WHERE WHAT IT READS IS OF BULK AT MOST 1048576: true; the input reads as it did. -/
def regexFirstUptoRow : OpenClaim := { program := "ytmlmnbcnfalaaaadoor", sum := "c0ea1792da084c8db84ba08ac45c3612a1a7cd324b5df3d60de47d8722339192", func := "copyist/copyistlaw22.RegexFirst", spec := "regexFirst", inPlace := ["internal/bytealg.IndexByteString"], unfollowed := true, recurses := true, named := ["unicode/utf8.first", "unicode/utf8.acceptRanges"], apart := false, laid := [("unicode/utf8.acceptRanges", laid_unicode_utf8_acceptRanges), ("unicode/utf8.first", laid_unicode_utf8_first)], narrowed := true }
def RegexFirstUptoSaid : Prop := regexFirstUptoRow.holds Tryd.pinned (OpenSpec.upto regexFirstSpec)

/-- 'copyistlaw22.RegexNil', WHERE WHAT IT READS IS OF BULK AT MOST 1048576: true; the input reads as it did. -/
def regexNilUptoRow : OpenClaim := { program := "ytmlmnbcnfalaaaadoor", sum := "c0ea1792da084c8db84ba08ac45c3612a1a7cd324b5df3d60de47d8722339192", func := "copyist/copyistlaw22.RegexNil", spec := "regexNil", inPlace := ["internal/bytealg.IndexByteString"], unfollowed := true, recurses := true, named := ["unicode/utf8.first", "unicode/utf8.acceptRanges"], apart := false, laid := [("unicode/utf8.acceptRanges", laid_unicode_utf8_acceptRanges), ("unicode/utf8.first", laid_unicode_utf8_first)], narrowed := true }
def RegexNilUptoSaid : Prop := regexNilUptoRow.holds Tryd.pinned (OpenSpec.upto regexNilSpec)

/-- 'copyistlaw22.RegexQuoted', WHERE WHAT IT READS IS OF BULK AT MOST 1048576: true; the input reads as it did. -/
def regexQuotedUptoRow : OpenClaim := { program := "ytmlmnbcnfalaaaadoor", sum := "c0ea1792da084c8db84ba08ac45c3612a1a7cd324b5df3d60de47d8722339192", func := "copyist/copyistlaw22.RegexQuoted", spec := "regexQuoted", inPlace := ["internal/bytealg.IndexByteString", "internal/abi.NoEscape"], unfollowed := true, recurses := true, named := ["unicode/utf8.first", "unicode/utf8.acceptRanges"], apart := false, laid := [("unicode/utf8.acceptRanges", laid_unicode_utf8_acceptRanges), ("unicode/utf8.first", laid_unicode_utf8_first)], narrowed := true }
def RegexQuotedUptoSaid : Prop := regexQuotedUptoRow.holds Tryd.pinned (OpenSpec.upto regexQuotedSpec)

/-- 'copyistlaw22.RegexReplaced', WHERE WHAT IT READS IS OF BULK AT MOST 1048576: true; the input reads as it did. -/
def regexReplacedUptoRow : OpenClaim := { program := "ytmlmnbcnfalaaaadoor", sum := "c0ea1792da084c8db84ba08ac45c3612a1a7cd324b5df3d60de47d8722339192", func := "copyist/copyistlaw22.RegexReplaced", spec := "regexReplaced", inPlace := ["internal/bytealg.IndexByteString"], unfollowed := true, recurses := true, named := ["unicode/utf8.first", "unicode/utf8.acceptRanges"], apart := false, laid := [("unicode/utf8.acceptRanges", laid_unicode_utf8_acceptRanges), ("unicode/utf8.first", laid_unicode_utf8_first)], narrowed := true }
def RegexReplacedUptoSaid : Prop := regexReplacedUptoRow.holds Tryd.pinned (OpenSpec.upto regexReplacedSpec)

/-- 'copyistlaw22.RegexNames', WHERE WHAT IT READS IS OF BULK AT MOST 1048576: true; the input reads as it did. -/
def regexNamesUptoRow : OpenClaim := { program := "ytmlmnbcnfalaaaadoor", sum := "c0ea1792da084c8db84ba08ac45c3612a1a7cd324b5df3d60de47d8722339192", func := "copyist/copyistlaw22.RegexNames", spec := "regexNames", inPlace := ["internal/bytealg.IndexByteString", "internal/abi.NoEscape"], unfollowed := true, recurses := true, named := ["unicode/utf8.first", "unicode/utf8.acceptRanges"], apart := false, laid := [("unicode/utf8.acceptRanges", laid_unicode_utf8_acceptRanges), ("unicode/utf8.first", laid_unicode_utf8_first)], narrowed := true }
def RegexNamesUptoSaid : Prop := regexNamesUptoRow.holds Tryd.pinned (OpenSpec.upto regexNamesSpec)

end Rows
end Go.Proofs.YtmlmnbcnfalaaaaDoor
