/-
  NARROWER THAN 'FOR EVERY INPUT', by the rows' own cells (each row's printed sentence says how): ListsAlike: laid · ListsKeep: laid · ListsRings: laid · ListsTaken: laid · ListsNames: laid.
  DERIVED. THE GIVEN ROWS OF THIS SEAT. 5 by the template 'for every input the law returns true; each argument reads behind the call as it read before'; 0 by the template 'total and deterministic' (their statements: YtehcckhdppdkcaaGreatDoorTotals.lean).
  GIVEN WITH THE SEED: the statements are not yours to turn. If you find one false, say at which input.
  Laid BY PROGRAM, IN A SANDBOX (cutbox-rows.mjs): the forced cells as the released guide's own fill.sh prints them over the translation 9a8b19a32e11c465… (all of the seat's roots in one cut). By AI agents, Wed Nov 11 2026. No macro, syntax, notation, axiom, sorry.
-/
import Derived.Test.YtehcckhdppdkcaaGreatDoorChecked
import GoSem.PinnedTables
import GoSem.Claim
import GoSem.ClaimJoined
import GoSem.ClaimMapViews
import Derived.JoinedTies
import Derived.KernelRfl
namespace Go.Proofs.YtehcckhdppdkcaaGreatDoor
/- THE CELL 'sum', in the pinned program and in every row, IS THE sha256 OF THE DUMP (.gsa) THAT YtehcckhdppdkcaaGreatDoorProg.lean LOADS. Nothing in Lean hashes anything: it is a label: what it is worth is what the hold of that sum in a sandbox is worth. -/
noncomputable def Tryz.pinned : Pinned := { name := "ytehcckhdppdkcaagreatdoor", sum := "9a8b19a32e11c46513cd0471098e2f71d421a315aedc382786aba1b5f9e982b0", checked := Tryz.checked }
namespace Rows
def none {H : Type} : Left H := { results := [], args := [] }

/- WHAT THE LISTED PACKAGE-LEVEL VARIABLES READ AS WHEN THE CALL BEGINS. Each datum BY PROGRAM (the guide's laid-datum.mjs) off the statement by which the dump's own 'gosem.cut.vars' lays the variable. In a bare row this is a premise. The card (YtehcckhdppdkcaaGreatDoorCards.lean) ties it to the program's text. -/
def laid_unicode_utf8_acceptRanges {H : Type} : DataW H := .agg [.agg [.lit (.int .u8 128), .lit (.int .u8 191)], .agg [.lit (.int .u8 160), .lit (.int .u8 191)], .agg [.lit (.int .u8 128), .lit (.int .u8 159)], .agg [.lit (.int .u8 144), .lit (.int .u8 191)], .agg [.lit (.int .u8 128), .lit (.int .u8 143)], .agg [.lit (.int .u8 0), .lit (.int .u8 0)], .agg [.lit (.int .u8 0), .lit (.int .u8 0)], .agg [.lit (.int .u8 0), .lit (.int .u8 0)], .agg [.lit (.int .u8 0), .lit (.int .u8 0)], .agg [.lit (.int .u8 0), .lit (.int .u8 0)], .agg [.lit (.int .u8 0), .lit (.int .u8 0)], .agg [.lit (.int .u8 0), .lit (.int .u8 0)], .agg [.lit (.int .u8 0), .lit (.int .u8 0)], .agg [.lit (.int .u8 0), .lit (.int .u8 0)], .agg [.lit (.int .u8 0), .lit (.int .u8 0)], .agg [.lit (.int .u8 0), .lit (.int .u8 0)]]
/-- One of Go's own tables, pinned by name: the form's constant. -/
def laid_unicode_utf8_first : DataW Unit := Go.Pinned.utf8First

/-- 'copyistlaw07.ListsAlike': WHATEVER THE INPUT: true; the input reads as it did. -/
def listsAlikeSpec : ChangeSpec := { name := "listsAlike", fn := fun _ => fun
  | [d1, d2] => { results := [.lit (.bool true)], args := [d1, d2] }
  | _ => none }
def listsAlikeRow : OpenClaim := { program := "ytehcckhdppdkcaagreatdoor", sum := "9a8b19a32e11c46513cd0471098e2f71d421a315aedc382786aba1b5f9e982b0", func := "copyist/copyistlaw07.ListsAlike", spec := "listsAlike", inPlace := ["internal/abi.NoEscape", "internal/bytealg.IndexByteString", "internal/bytealg.IndexString"], unfollowed := true, recurses := true, named := ["unicode/utf8.first", "unicode/utf8.acceptRanges", "internal/bytealg.MaxLen"], apart := false, laid := [("unicode/utf8.acceptRanges", laid_unicode_utf8_acceptRanges), ("unicode/utf8.first", laid_unicode_utf8_first)] }
def ListsAlikeSaid : Prop := listsAlikeRow.holds Tryz.pinned (OpenSpec.ofChange listsAlikeSpec)

/-- ITS FALSE NEIGHBOUR: 'it returns false'. Refute it at one input. -/
def listsAlikeWrong : ChangeSpec := { name := "listsAlike", fn := fun _ => fun
  | [d1, d2] => { results := [.lit (.bool false)], args := [d1, d2] }
  | _ => none }
def ListsAlikeWrongFalsely : Prop := listsAlikeRow.holds Tryz.pinned (OpenSpec.ofChange listsAlikeWrong)

/-- 'copyistlaw07.ListsKeep': WHATEVER THE INPUT: true; the input reads as it did. -/
def listsKeepSpec : ChangeSpec := { name := "listsKeep", fn := fun _ => fun
  | [d1, d2, d3] => { results := [.lit (.bool true)], args := [d1, d2, d3] }
  | _ => none }
def listsKeepRow : OpenClaim := { program := "ytehcckhdppdkcaagreatdoor", sum := "9a8b19a32e11c46513cd0471098e2f71d421a315aedc382786aba1b5f9e982b0", func := "copyist/copyistlaw07.ListsKeep", spec := "listsKeep", inPlace := ["internal/abi.NoEscape", "internal/bytealg.IndexByteString", "internal/bytealg.IndexString"], unfollowed := true, recurses := true, named := ["unicode/utf8.first", "unicode/utf8.acceptRanges", "internal/bytealg.MaxLen"], apart := false, laid := [("unicode/utf8.acceptRanges", laid_unicode_utf8_acceptRanges), ("unicode/utf8.first", laid_unicode_utf8_first)] }
def ListsKeepSaid : Prop := listsKeepRow.holds Tryz.pinned (OpenSpec.ofChange listsKeepSpec)

/-- ITS FALSE NEIGHBOUR: 'it returns false'. Refute it at one input. -/
def listsKeepWrong : ChangeSpec := { name := "listsKeep", fn := fun _ => fun
  | [d1, d2, d3] => { results := [.lit (.bool false)], args := [d1, d2, d3] }
  | _ => none }
def ListsKeepWrongFalsely : Prop := listsKeepRow.holds Tryz.pinned (OpenSpec.ofChange listsKeepWrong)

/-- 'copyistlaw07.ListsRings': WHATEVER THE INPUT: true; the input reads as it did. -/
def listsRingsSpec : ChangeSpec := { name := "listsRings", fn := fun _ => fun
  | [d1, d2, d3] => { results := [.lit (.bool true)], args := [d1, d2, d3] }
  | _ => none }
def listsRingsRow : OpenClaim := { program := "ytehcckhdppdkcaagreatdoor", sum := "9a8b19a32e11c46513cd0471098e2f71d421a315aedc382786aba1b5f9e982b0", func := "copyist/copyistlaw07.ListsRings", spec := "listsRings", inPlace := ["internal/abi.NoEscape", "internal/bytealg.IndexByteString", "internal/bytealg.IndexString"], unfollowed := true, recurses := true, named := ["unicode/utf8.first", "unicode/utf8.acceptRanges", "internal/bytealg.MaxLen"], apart := false, laid := [("unicode/utf8.acceptRanges", laid_unicode_utf8_acceptRanges), ("unicode/utf8.first", laid_unicode_utf8_first)] }
def ListsRingsSaid : Prop := listsRingsRow.holds Tryz.pinned (OpenSpec.ofChange listsRingsSpec)

/-- ITS FALSE NEIGHBOUR: 'it returns false'. Refute it at one input. -/
def listsRingsWrong : ChangeSpec := { name := "listsRings", fn := fun _ => fun
  | [d1, d2, d3] => { results := [.lit (.bool false)], args := [d1, d2, d3] }
  | _ => none }
def ListsRingsWrongFalsely : Prop := listsRingsRow.holds Tryz.pinned (OpenSpec.ofChange listsRingsWrong)

/-- 'copyistlaw07.ListsTaken': WHATEVER THE INPUT: true; the input reads as it did. -/
def listsTakenSpec : ChangeSpec := { name := "listsTaken", fn := fun _ => fun
  | [d1, d2] => { results := [.lit (.bool true)], args := [d1, d2] }
  | _ => none }
def listsTakenRow : OpenClaim := { program := "ytehcckhdppdkcaagreatdoor", sum := "9a8b19a32e11c46513cd0471098e2f71d421a315aedc382786aba1b5f9e982b0", func := "copyist/copyistlaw07.ListsTaken", spec := "listsTaken", inPlace := ["internal/abi.NoEscape", "internal/bytealg.IndexByteString", "internal/bytealg.IndexString"], unfollowed := true, recurses := true, named := ["unicode/utf8.first", "unicode/utf8.acceptRanges", "internal/bytealg.MaxLen"], apart := false, laid := [("unicode/utf8.acceptRanges", laid_unicode_utf8_acceptRanges), ("unicode/utf8.first", laid_unicode_utf8_first)] }
def ListsTakenSaid : Prop := listsTakenRow.holds Tryz.pinned (OpenSpec.ofChange listsTakenSpec)

/-- ITS FALSE NEIGHBOUR: 'it returns false'. Refute it at one input. -/
def listsTakenWrong : ChangeSpec := { name := "listsTaken", fn := fun _ => fun
  | [d1, d2] => { results := [.lit (.bool false)], args := [d1, d2] }
  | _ => none }
def ListsTakenWrongFalsely : Prop := listsTakenRow.holds Tryz.pinned (OpenSpec.ofChange listsTakenWrong)

/-- 'copyistlaw07.ListsNames': WHATEVER THE INPUT: true; the input reads as it did. -/
def listsNamesSpec : ChangeSpec := { name := "listsNames", fn := fun _ => fun
  | [] => { results := [.lit (.bool true)], args := [] }
  | _ => none }
def listsNamesRow : OpenClaim := { program := "ytehcckhdppdkcaagreatdoor", sum := "9a8b19a32e11c46513cd0471098e2f71d421a315aedc382786aba1b5f9e982b0", func := "copyist/copyistlaw07.ListsNames", spec := "listsNames", inPlace := ["internal/abi.NoEscape", "internal/bytealg.IndexByteString", "internal/bytealg.IndexString"], unfollowed := true, recurses := true, named := ["unicode/utf8.first", "unicode/utf8.acceptRanges", "internal/bytealg.MaxLen"], apart := false, laid := [("unicode/utf8.acceptRanges", laid_unicode_utf8_acceptRanges), ("unicode/utf8.first", laid_unicode_utf8_first)] }
def ListsNamesSaid : Prop := listsNamesRow.holds Tryz.pinned (OpenSpec.ofChange listsNamesSpec)

/-- ITS FALSE NEIGHBOUR: 'it returns false'. Refute it at one input. -/
def listsNamesWrong : ChangeSpec := { name := "listsNames", fn := fun _ => fun
  | [] => { results := [.lit (.bool false)], args := [] }
  | _ => none }
def ListsNamesWrongFalsely : Prop := listsNamesRow.holds Tryz.pinned (OpenSpec.ofChange listsNamesWrong)

/- THE SECOND FORM. 'bulk': how many values and letters a reading holds, each counted each time it is reached (what is shared counts as often as it is met; a slice's spare places count too). A statement '..UptoSaid' is the law's where the arguments, and the package variables that the reading takes, are together of bulk at most 1048576: NARROWER than '..Said'. Prove '..Said' where nothing that the law and all that it calls make is longer than what came in: it says more and counts as full. Else prove '..UptoSaid'. A law counts once. -/
mutual
def uptoBulk {H : Type} : DataW H → Nat
  | .lit (.string bytes) => bytes.length + 1
  | .lit _ => 1
  | .nil => 1
  | .ptr d => uptoBulk d + 1
  | .slice elems spare => uptoBulkAll elems + uptoBulkAll spare + 1
  | .agg parts => uptoBulkAll parts + 1
  | .iface _ d => uptoBulk d + 1
  | .map entries => uptoBulkEntries entries + 1
  | .held _ => 1
def uptoBulkAll {H : Type} : List (DataW H) → Nat
  | [] => 0
  | d :: r => uptoBulk d + uptoBulkAll r
def uptoBulkEntries {H : Type} : List (Lit × DataW H) → Nat
  | [] => 0
  | x :: r => uptoBulkEntry x + uptoBulkEntries r
def uptoBulkEntry {H : Type} : Lit × DataW H → Nat
  | (.string bytes, d) => bytes.length + uptoBulk d + 1
  | (_, d) => uptoBulk d + 1
 end
def uptoSmall : (H : Type) → List (DataW H) → Bool := fun _ ds => decide (uptoBulkAll ds ≤ 1048576)
def OpenSpec.upto (s : _root_.Go.ChangeSpec) : _root_.Go.OpenSpec := { _root_.Go.OpenSpec.ofChange s with cond := some uptoSmall }

/-- 'copyistlaw07.ListsAlike', WHERE WHAT IT READS IS OF BULK AT MOST 1048576: true; the input reads as it did. -/
def listsAlikeUptoRow : OpenClaim := { program := "ytehcckhdppdkcaagreatdoor", sum := "9a8b19a32e11c46513cd0471098e2f71d421a315aedc382786aba1b5f9e982b0", func := "copyist/copyistlaw07.ListsAlike", spec := "listsAlike", inPlace := ["internal/abi.NoEscape", "internal/bytealg.IndexByteString", "internal/bytealg.IndexString"], unfollowed := true, recurses := true, named := ["unicode/utf8.first", "unicode/utf8.acceptRanges", "internal/bytealg.MaxLen"], apart := false, laid := [("unicode/utf8.acceptRanges", laid_unicode_utf8_acceptRanges), ("unicode/utf8.first", laid_unicode_utf8_first)], narrowed := true }
def ListsAlikeUptoSaid : Prop := listsAlikeUptoRow.holds Tryz.pinned (OpenSpec.upto listsAlikeSpec)

/-- 'copyistlaw07.ListsKeep', WHERE WHAT IT READS IS OF BULK AT MOST 1048576: true; the input reads as it did. -/
def listsKeepUptoRow : OpenClaim := { program := "ytehcckhdppdkcaagreatdoor", sum := "9a8b19a32e11c46513cd0471098e2f71d421a315aedc382786aba1b5f9e982b0", func := "copyist/copyistlaw07.ListsKeep", spec := "listsKeep", inPlace := ["internal/abi.NoEscape", "internal/bytealg.IndexByteString", "internal/bytealg.IndexString"], unfollowed := true, recurses := true, named := ["unicode/utf8.first", "unicode/utf8.acceptRanges", "internal/bytealg.MaxLen"], apart := false, laid := [("unicode/utf8.acceptRanges", laid_unicode_utf8_acceptRanges), ("unicode/utf8.first", laid_unicode_utf8_first)], narrowed := true }
def ListsKeepUptoSaid : Prop := listsKeepUptoRow.holds Tryz.pinned (OpenSpec.upto listsKeepSpec)

/-- 'copyistlaw07.ListsRings', WHERE WHAT IT READS IS OF BULK AT MOST 1048576: true; the input reads as it did. -/
def listsRingsUptoRow : OpenClaim := { program := "ytehcckhdppdkcaagreatdoor", sum := "9a8b19a32e11c46513cd0471098e2f71d421a315aedc382786aba1b5f9e982b0", func := "copyist/copyistlaw07.ListsRings", spec := "listsRings", inPlace := ["internal/abi.NoEscape", "internal/bytealg.IndexByteString", "internal/bytealg.IndexString"], unfollowed := true, recurses := true, named := ["unicode/utf8.first", "unicode/utf8.acceptRanges", "internal/bytealg.MaxLen"], apart := false, laid := [("unicode/utf8.acceptRanges", laid_unicode_utf8_acceptRanges), ("unicode/utf8.first", laid_unicode_utf8_first)], narrowed := true }
def ListsRingsUptoSaid : Prop := listsRingsUptoRow.holds Tryz.pinned (OpenSpec.upto listsRingsSpec)

/-- 'copyistlaw07.ListsTaken', WHERE WHAT IT READS IS OF BULK AT MOST 1048576: true; the input reads as it did. -/
def listsTakenUptoRow : OpenClaim := { program := "ytehcckhdppdkcaagreatdoor", sum := "9a8b19a32e11c46513cd0471098e2f71d421a315aedc382786aba1b5f9e982b0", func := "copyist/copyistlaw07.ListsTaken", spec := "listsTaken", inPlace := ["internal/abi.NoEscape", "internal/bytealg.IndexByteString", "internal/bytealg.IndexString"], unfollowed := true, recurses := true, named := ["unicode/utf8.first", "unicode/utf8.acceptRanges", "internal/bytealg.MaxLen"], apart := false, laid := [("unicode/utf8.acceptRanges", laid_unicode_utf8_acceptRanges), ("unicode/utf8.first", laid_unicode_utf8_first)], narrowed := true }
def ListsTakenUptoSaid : Prop := listsTakenUptoRow.holds Tryz.pinned (OpenSpec.upto listsTakenSpec)

/-- 'copyistlaw07.ListsNames', WHERE WHAT IT READS IS OF BULK AT MOST 1048576: true; the input reads as it did. -/
def listsNamesUptoRow : OpenClaim := { program := "ytehcckhdppdkcaagreatdoor", sum := "9a8b19a32e11c46513cd0471098e2f71d421a315aedc382786aba1b5f9e982b0", func := "copyist/copyistlaw07.ListsNames", spec := "listsNames", inPlace := ["internal/abi.NoEscape", "internal/bytealg.IndexByteString", "internal/bytealg.IndexString"], unfollowed := true, recurses := true, named := ["unicode/utf8.first", "unicode/utf8.acceptRanges", "internal/bytealg.MaxLen"], apart := false, laid := [("unicode/utf8.acceptRanges", laid_unicode_utf8_acceptRanges), ("unicode/utf8.first", laid_unicode_utf8_first)], narrowed := true }
def ListsNamesUptoSaid : Prop := listsNamesUptoRow.holds Tryz.pinned (OpenSpec.upto listsNamesSpec)

end Rows
end Go.Proofs.YtehcckhdppdkcaaGreatDoor
