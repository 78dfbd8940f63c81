/-
  NARROWER THAN 'FOR EVERY INPUT', by the rows' own cells (each row's printed sentence says how): KeymapRemaps: laid · KeymapDefines: laid · KeymapNames: laid · KeymapWhere: laid.
  DERIVED. THE GIVEN ROWS OF THIS SEAT. 4 by the template 'for every input the law returns true; each argument reads behind the call as it read before'; 0 by the template 'total and deterministic' (their statements: YtdbmflnkdoeaoaaDoorTotals.lean).
  GIVEN WITH THE SEED: the statements are not yours to turn. If you find one false, say at which input.
  Laid BY PROGRAM, IN A SANDBOX (cutbox-rows.mjs): the forced cells as the released guide's own fill.sh prints them over the translation e3dc51275f0caa1f… (all of the seat's roots in one cut). By AI agents, Wed Nov 11 2026. No macro, syntax, notation, axiom, sorry.
-/
import Derived.Test.YtdbmflnkdoeaoaaDoorChecked
import GoSem.PinnedTables
import GoSem.Claim
import GoSem.ClaimJoined
import GoSem.ClaimMapViews
import Derived.JoinedTies
import Derived.KernelRfl
namespace Go.Proofs.YtdbmflnkdoeaoaaDoor
/- THE CELL 'sum', in the pinned program and in every row, IS THE sha256 OF THE DUMP (.gsa) THAT YtdbmflnkdoeaoaaDoorProg.lean LOADS. Nothing in Lean hashes anything: it is a label: what it is worth is what the hold of that sum in a sandbox is worth. -/
noncomputable def Tryd.pinned : Pinned := { name := "ytdbmflnkdoeaoaadoor", sum := "e3dc51275f0caa1fc545b5b426cedb3efc37d2664dfaf4b525608b903335f8b9", checked := Tryd.checked }
namespace Rows
def none {H : Type} : Left H := { results := [], args := [] }

/- WHAT THE LISTED PACKAGE-LEVEL VARIABLES READ AS WHEN THE CALL BEGINS. Each datum BY PROGRAM (the guide's laid-datum.mjs) off the statement by which the dump's own 'gosem.cut.vars' lays the variable. In a bare row this is a premise. The card (YtdbmflnkdoeaoaaDoorCards.lean) ties it to the program's text. -/
def laid_unicode_utf8_acceptRanges {H : Type} : DataW H := .agg [.agg [.lit (.int .u8 128), .lit (.int .u8 191)], .agg [.lit (.int .u8 160), .lit (.int .u8 191)], .agg [.lit (.int .u8 128), .lit (.int .u8 159)], .agg [.lit (.int .u8 144), .lit (.int .u8 191)], .agg [.lit (.int .u8 128), .lit (.int .u8 143)], .agg [.lit (.int .u8 0), .lit (.int .u8 0)], .agg [.lit (.int .u8 0), .lit (.int .u8 0)], .agg [.lit (.int .u8 0), .lit (.int .u8 0)], .agg [.lit (.int .u8 0), .lit (.int .u8 0)], .agg [.lit (.int .u8 0), .lit (.int .u8 0)], .agg [.lit (.int .u8 0), .lit (.int .u8 0)], .agg [.lit (.int .u8 0), .lit (.int .u8 0)], .agg [.lit (.int .u8 0), .lit (.int .u8 0)], .agg [.lit (.int .u8 0), .lit (.int .u8 0)], .agg [.lit (.int .u8 0), .lit (.int .u8 0)], .agg [.lit (.int .u8 0), .lit (.int .u8 0)]]
/-- One of Go's own tables, pinned by name: the form's constant. -/
def laid_unicode_utf8_first : DataW Unit := Go.Pinned.utf8First

/-- 'copyistlaw28.KeymapRemaps': WHATEVER THE INPUT: true; the input reads as it did. -/
def keymapRemapsSpec : ChangeSpec := { name := "keymapRemaps", fn := fun _ => fun
  | [d1, d2, d3, d4] => { results := [.lit (.bool true)], args := [d1, d2, d3, d4] }
  | _ => none }
def keymapRemapsRow : OpenClaim := { program := "ytdbmflnkdoeaoaadoor", sum := "e3dc51275f0caa1fc545b5b426cedb3efc37d2664dfaf4b525608b903335f8b9", func := "copyist/copyistlaw28.KeymapRemaps", spec := "keymapRemaps", unfollowed := true, recurses := true, named := ["unicode/utf8.first", "unicode/utf8.acceptRanges"], plainKeys := false, apart := false, laid := [("unicode/utf8.acceptRanges", laid_unicode_utf8_acceptRanges), ("unicode/utf8.first", laid_unicode_utf8_first)] }
def KeymapRemapsSaid : Prop := keymapRemapsRow.holds Tryd.pinned (OpenSpec.ofChange keymapRemapsSpec)

/-- ITS FALSE NEIGHBOUR: 'it returns false'. Refute it at one input. -/
def keymapRemapsWrong : ChangeSpec := { name := "keymapRemaps", fn := fun _ => fun
  | [d1, d2, d3, d4] => { results := [.lit (.bool false)], args := [d1, d2, d3, d4] }
  | _ => none }
def KeymapRemapsWrongFalsely : Prop := keymapRemapsRow.holds Tryd.pinned (OpenSpec.ofChange keymapRemapsWrong)

/-- 'copyistlaw28.KeymapDefines': WHATEVER THE INPUT: true; the input reads as it did. -/
def keymapDefinesSpec : ChangeSpec := { name := "keymapDefines", fn := fun _ => fun
  | [d1, d2, d3, d4, d5] => { results := [.lit (.bool true)], args := [d1, d2, d3, d4, d5] }
  | _ => none }
def keymapDefinesRow : OpenClaim := { program := "ytdbmflnkdoeaoaadoor", sum := "e3dc51275f0caa1fc545b5b426cedb3efc37d2664dfaf4b525608b903335f8b9", func := "copyist/copyistlaw28.KeymapDefines", spec := "keymapDefines", unfollowed := true, recurses := true, named := ["unicode/utf8.first", "unicode/utf8.acceptRanges"], plainKeys := false, apart := false, laid := [("unicode/utf8.acceptRanges", laid_unicode_utf8_acceptRanges), ("unicode/utf8.first", laid_unicode_utf8_first)] }
def KeymapDefinesSaid : Prop := keymapDefinesRow.holds Tryd.pinned (OpenSpec.ofChange keymapDefinesSpec)

/-- ITS FALSE NEIGHBOUR: 'it returns false'. Refute it at one input. -/
def keymapDefinesWrong : ChangeSpec := { name := "keymapDefines", fn := fun _ => fun
  | [d1, d2, d3, d4, d5] => { results := [.lit (.bool false)], args := [d1, d2, d3, d4, d5] }
  | _ => none }
def KeymapDefinesWrongFalsely : Prop := keymapDefinesRow.holds Tryd.pinned (OpenSpec.ofChange keymapDefinesWrong)

/-- 'copyistlaw28.KeymapNames': WHATEVER THE INPUT: true; the input reads as it did. -/
def keymapNamesSpec : ChangeSpec := { name := "keymapNames", fn := fun _ => fun
  | [] => { results := [.lit (.bool true)], args := [] }
  | _ => none }
def keymapNamesRow : OpenClaim := { program := "ytdbmflnkdoeaoaadoor", sum := "e3dc51275f0caa1fc545b5b426cedb3efc37d2664dfaf4b525608b903335f8b9", func := "copyist/copyistlaw28.KeymapNames", spec := "keymapNames", unfollowed := true, recurses := true, named := ["unicode/utf8.first", "unicode/utf8.acceptRanges"], plainKeys := false, apart := false, laid := [("unicode/utf8.acceptRanges", laid_unicode_utf8_acceptRanges), ("unicode/utf8.first", laid_unicode_utf8_first)] }
def KeymapNamesSaid : Prop := keymapNamesRow.holds Tryd.pinned (OpenSpec.ofChange keymapNamesSpec)

/-- ITS FALSE NEIGHBOUR: 'it returns false'. Refute it at one input. -/
def keymapNamesWrong : ChangeSpec := { name := "keymapNames", fn := fun _ => fun
  | [] => { results := [.lit (.bool false)], args := [] }
  | _ => none }
def KeymapNamesWrongFalsely : Prop := keymapNamesRow.holds Tryd.pinned (OpenSpec.ofChange keymapNamesWrong)

/-- 'copyistlaw28.KeymapWhere': WHATEVER THE INPUT: true; the input reads as it did. -/
def keymapWhereSpec : ChangeSpec := { name := "keymapWhere", fn := fun _ => fun
  | [d1, d2, d3] => { results := [.lit (.bool true)], args := [d1, d2, d3] }
  | _ => none }
def keymapWhereRow : OpenClaim := { program := "ytdbmflnkdoeaoaadoor", sum := "e3dc51275f0caa1fc545b5b426cedb3efc37d2664dfaf4b525608b903335f8b9", func := "copyist/copyistlaw28.KeymapWhere", spec := "keymapWhere", unfollowed := true, recurses := true, named := ["unicode/utf8.first", "unicode/utf8.acceptRanges"], plainKeys := false, apart := false, laid := [("unicode/utf8.acceptRanges", laid_unicode_utf8_acceptRanges), ("unicode/utf8.first", laid_unicode_utf8_first)] }
def KeymapWhereSaid : Prop := keymapWhereRow.holds Tryd.pinned (OpenSpec.ofChange keymapWhereSpec)

/-- ITS FALSE NEIGHBOUR: 'it returns false'. Refute it at one input. -/
def keymapWhereWrong : ChangeSpec := { name := "keymapWhere", fn := fun _ => fun
  | [d1, d2, d3] => { results := [.lit (.bool false)], args := [d1, d2, d3] }
  | _ => none }
def KeymapWhereWrongFalsely : Prop := keymapWhereRow.holds Tryd.pinned (OpenSpec.ofChange keymapWhereWrong)

/- THE SECOND FORM. 'bulk': how many values and letters a reading holds, each counted each time it is reached (what is shared counts as often as it is met; a slice's spare places count too). A statement '..UptoSaid' is the law's where the arguments, and the package variables that the reading takes, are together of bulk at most 1048576: NARROWER than '..Said'. Prove '..Said' where nothing that the law and all that it calls make is longer than what came in: it says more and counts as full. Else prove '..UptoSaid'. A law counts once. -/
mutual
def uptoBulk {H : Type} : DataW H → Nat
  | .lit (.string bytes) => bytes.length + 1
  | .lit _ => 1
  | .nil => 1
  | .ptr d => uptoBulk d + 1
  | .slice elems spare => uptoBulkAll elems + uptoBulkAll spare + 1
  | .agg parts => uptoBulkAll parts + 1
  | .iface _ d => uptoBulk d + 1
  | .map entries => uptoBulkEntries entries + 1
  | .held _ => 1
def uptoBulkAll {H : Type} : List (DataW H) → Nat
  | [] => 0
  | d :: r => uptoBulk d + uptoBulkAll r
def uptoBulkEntries {H : Type} : List (Lit × DataW H) → Nat
  | [] => 0
  | x :: r => uptoBulkEntry x + uptoBulkEntries r
def uptoBulkEntry {H : Type} : Lit × DataW H → Nat
  | (.string bytes, d) => bytes.length + uptoBulk d + 1
  | (_, d) => uptoBulk d + 1
 end
def uptoSmall : (H : Type) → List (DataW H) → Bool := fun _ ds => decide (uptoBulkAll ds ≤ 1048576)
def OpenSpec.upto (s : _root_.Go.ChangeSpec) : _root_.Go.OpenSpec := { _root_.Go.OpenSpec.ofChange s with cond := some uptoSmall }

/-- 'copyistlaw28.KeymapRemaps', WHERE WHAT IT READS IS OF BULK AT MOST 1048576: true; the input reads as it did. -/
def keymapRemapsUptoRow : OpenClaim := { program := "ytdbmflnkdoeaoaadoor", sum := "e3dc51275f0caa1fc545b5b426cedb3efc37d2664dfaf4b525608b903335f8b9", func := "copyist/copyistlaw28.KeymapRemaps", spec := "keymapRemaps", unfollowed := true, recurses := true, named := ["unicode/utf8.first", "unicode/utf8.acceptRanges"], plainKeys := false, apart := false, laid := [("unicode/utf8.acceptRanges", laid_unicode_utf8_acceptRanges), ("unicode/utf8.first", laid_unicode_utf8_first)], narrowed := true }
def KeymapRemapsUptoSaid : Prop := keymapRemapsUptoRow.holds Tryd.pinned (OpenSpec.upto keymapRemapsSpec)

/-- 'copyistlaw28.KeymapDefines', WHERE WHAT IT READS IS OF BULK AT MOST 1048576: true; the input reads as it did. -/
def keymapDefinesUptoRow : OpenClaim := { program := "ytdbmflnkdoeaoaadoor", sum := "e3dc51275f0caa1fc545b5b426cedb3efc37d2664dfaf4b525608b903335f8b9", func := "copyist/copyistlaw28.KeymapDefines", spec := "keymapDefines", unfollowed := true, recurses := true, named := ["unicode/utf8.first", "unicode/utf8.acceptRanges"], plainKeys := false, apart := false, laid := [("unicode/utf8.acceptRanges", laid_unicode_utf8_acceptRanges), ("unicode/utf8.first", laid_unicode_utf8_first)], narrowed := true }
def KeymapDefinesUptoSaid : Prop := keymapDefinesUptoRow.holds Tryd.pinned (OpenSpec.upto keymapDefinesSpec)

/-- 'copyistlaw28.KeymapNames', WHERE WHAT IT READS IS OF BULK AT MOST 1048576: true; the input reads as it did. -/
def keymapNamesUptoRow : OpenClaim := { program := "ytdbmflnkdoeaoaadoor", sum := "e3dc51275f0caa1fc545b5b426cedb3efc37d2664dfaf4b525608b903335f8b9", func := "copyist/copyistlaw28.KeymapNames", spec := "keymapNames", unfollowed := true, recurses := true, named := ["unicode/utf8.first", "unicode/utf8.acceptRanges"], plainKeys := false, apart := false, laid := [("unicode/utf8.acceptRanges", laid_unicode_utf8_acceptRanges), ("unicode/utf8.first", laid_unicode_utf8_first)], narrowed := true }
def KeymapNamesUptoSaid : Prop := keymapNamesUptoRow.holds Tryd.pinned (OpenSpec.upto keymapNamesSpec)

/-- 'copyistlaw28.KeymapWhere', WHERE WHAT IT READS IS OF BULK AT MOST 1048576: true; the input reads as it did. -/
def keymapWhereUptoRow : OpenClaim := { program := "ytdbmflnkdoeaoaadoor", sum := "e3dc51275f0caa1fc545b5b426cedb3efc37d2664dfaf4b525608b903335f8b9", func := "copyist/copyistlaw28.KeymapWhere", spec := "keymapWhere", unfollowed := true, recurses := true, named := ["unicode/utf8.first", "unicode/utf8.acceptRanges"], plainKeys := false, apart := false, laid := [("unicode/utf8.acceptRanges", laid_unicode_utf8_acceptRanges), ("unicode/utf8.first", laid_unicode_utf8_first)], narrowed := true }
def KeymapWhereUptoSaid : Prop := keymapWhereUptoRow.holds Tryd.pinned (OpenSpec.upto keymapWhereSpec)

end Rows
end Go.Proofs.YtdbmflnkdoeaoaaDoor
