/-
  NARROWER THAN 'FOR EVERY INPUT', by the rows' own cells (each row's printed sentence says how): CompleteWords: laid · CompletePrefixes: laid · CompleteOrders: laid · CompleteKnown: laid · CompleteSame: laid · CompleteKinds: laid · CompleteExtends: laid.
  DERIVED. THE GIVEN ROWS OF THIS SEAT. 7 by the template 'for every input the law returns true; each argument reads behind the call as it read before'; 0 by the template 'total and deterministic' (their statements: YtjcmdifpkafdkaaDoorTotals.lean).
  GIVEN WITH THE SEED: the statements are not yours to turn. If you find one false, say at which input.
  Laid BY PROGRAM, IN A SANDBOX (cutbox-rows.mjs): the forced cells as the released guide's own fill.sh prints them over the translation 4640399884acc27e… (all of the seat's roots in one cut). By AI agents, Wed Nov 11 2026. No macro, syntax, notation, axiom, sorry.
-/
import Derived.Test.YtjcmdifpkafdkaaDoorChecked
import GoSem.PinnedTables
import GoSem.Claim
import GoSem.ClaimJoined
import GoSem.ClaimMapViews
import Derived.JoinedTies
import Derived.KernelRfl
namespace Go.Proofs.YtjcmdifpkafdkaaDoor
/- THE CELL 'sum', in the pinned program and in every row, IS THE sha256 OF THE DUMP (.gsa) THAT YtjcmdifpkafdkaaDoorProg.lean LOADS. Nothing in Lean hashes anything: it is a label: what it is worth is what the hold of that sum in a sandbox is worth. -/
noncomputable def Tryd.pinned : Pinned := { name := "ytjcmdifpkafdkaadoor", sum := "4640399884acc27e48395a396fc5fa43a11ae9cecf445bf0618d84717559e8af", checked := Tryd.checked }
namespace Rows
def none {H : Type} : Left H := { results := [], args := [] }

/- WHAT THE LISTED PACKAGE-LEVEL VARIABLES READ AS WHEN THE CALL BEGINS. Each datum BY PROGRAM (the guide's laid-datum.mjs) off the statement by which the dump's own 'gosem.cut.vars' lays the variable. In a bare row this is a premise. The card (YtjcmdifpkafdkaaDoorCards.lean) ties it to the program's text. -/
def laid_unicode_utf8_acceptRanges {H : Type} : DataW H := .agg [.agg [.lit (.int .u8 128), .lit (.int .u8 191)], .agg [.lit (.int .u8 160), .lit (.int .u8 191)], .agg [.lit (.int .u8 128), .lit (.int .u8 159)], .agg [.lit (.int .u8 144), .lit (.int .u8 191)], .agg [.lit (.int .u8 128), .lit (.int .u8 143)], .agg [.lit (.int .u8 0), .lit (.int .u8 0)], .agg [.lit (.int .u8 0), .lit (.int .u8 0)], .agg [.lit (.int .u8 0), .lit (.int .u8 0)], .agg [.lit (.int .u8 0), .lit (.int .u8 0)], .agg [.lit (.int .u8 0), .lit (.int .u8 0)], .agg [.lit (.int .u8 0), .lit (.int .u8 0)], .agg [.lit (.int .u8 0), .lit (.int .u8 0)], .agg [.lit (.int .u8 0), .lit (.int .u8 0)], .agg [.lit (.int .u8 0), .lit (.int .u8 0)], .agg [.lit (.int .u8 0), .lit (.int .u8 0)], .agg [.lit (.int .u8 0), .lit (.int .u8 0)]]
/-- One of Go's own tables, pinned by name: the form's constant. -/
def laid_unicode_utf8_first : DataW Unit := Go.Pinned.utf8First

/-- 'copyistlaw31.CompleteWords': WHATEVER THE INPUT: true; the input reads as it did. -/
def completeWordsSpec : ChangeSpec := { name := "completeWords", fn := fun _ => fun
  | [d1, d2, d3, d4] => { results := [.lit (.bool true)], args := [d1, d2, d3, d4] }
  | _ => none }
def completeWordsRow : OpenClaim := { program := "ytjcmdifpkafdkaadoor", sum := "4640399884acc27e48395a396fc5fa43a11ae9cecf445bf0618d84717559e8af", func := "copyist/copyistlaw31.CompleteWords", spec := "completeWords", unfollowed := true, recurses := true, named := ["unicode/utf8.first", "unicode/utf8.acceptRanges"], apart := false, laid := [("unicode/utf8.acceptRanges", laid_unicode_utf8_acceptRanges), ("unicode/utf8.first", laid_unicode_utf8_first)] }
def CompleteWordsSaid : Prop := completeWordsRow.holds Tryd.pinned (OpenSpec.ofChange completeWordsSpec)

/-- ITS FALSE NEIGHBOUR: 'it returns false'. Refute it at one input. -/
def completeWordsWrong : ChangeSpec := { name := "completeWords", fn := fun _ => fun
  | [d1, d2, d3, d4] => { results := [.lit (.bool false)], args := [d1, d2, d3, d4] }
  | _ => none }
def CompleteWordsWrongFalsely : Prop := completeWordsRow.holds Tryd.pinned (OpenSpec.ofChange completeWordsWrong)

/-- 'copyistlaw31.CompletePrefixes': WHATEVER THE INPUT: true; the input reads as it did. -/
def completePrefixesSpec : ChangeSpec := { name := "completePrefixes", fn := fun _ => fun
  | [d1, d2, d3] => { results := [.lit (.bool true)], args := [d1, d2, d3] }
  | _ => none }
def completePrefixesRow : OpenClaim := { program := "ytjcmdifpkafdkaadoor", sum := "4640399884acc27e48395a396fc5fa43a11ae9cecf445bf0618d84717559e8af", func := "copyist/copyistlaw31.CompletePrefixes", spec := "completePrefixes", unfollowed := true, recurses := true, named := ["unicode/utf8.first", "unicode/utf8.acceptRanges"], apart := false, laid := [("unicode/utf8.acceptRanges", laid_unicode_utf8_acceptRanges), ("unicode/utf8.first", laid_unicode_utf8_first)] }
def CompletePrefixesSaid : Prop := completePrefixesRow.holds Tryd.pinned (OpenSpec.ofChange completePrefixesSpec)

/-- ITS FALSE NEIGHBOUR: 'it returns false'. Refute it at one input. -/
def completePrefixesWrong : ChangeSpec := { name := "completePrefixes", fn := fun _ => fun
  | [d1, d2, d3] => { results := [.lit (.bool false)], args := [d1, d2, d3] }
  | _ => none }
def CompletePrefixesWrongFalsely : Prop := completePrefixesRow.holds Tryd.pinned (OpenSpec.ofChange completePrefixesWrong)

/-- 'copyistlaw31.CompleteOrders': WHATEVER THE INPUT: true; the input reads as it did. -/
def completeOrdersSpec : ChangeSpec := { name := "completeOrders", fn := fun _ => fun
  | [d1, d2, d3, d4] => { results := [.lit (.bool true)], args := [d1, d2, d3, d4] }
  | _ => none }
def completeOrdersRow : OpenClaim := { program := "ytjcmdifpkafdkaadoor", sum := "4640399884acc27e48395a396fc5fa43a11ae9cecf445bf0618d84717559e8af", func := "copyist/copyistlaw31.CompleteOrders", spec := "completeOrders", unfollowed := true, recurses := true, named := ["unicode/utf8.first", "unicode/utf8.acceptRanges"], apart := false, laid := [("unicode/utf8.acceptRanges", laid_unicode_utf8_acceptRanges), ("unicode/utf8.first", laid_unicode_utf8_first)] }
def CompleteOrdersSaid : Prop := completeOrdersRow.holds Tryd.pinned (OpenSpec.ofChange completeOrdersSpec)

/-- ITS FALSE NEIGHBOUR: 'it returns false'. Refute it at one input. -/
def completeOrdersWrong : ChangeSpec := { name := "completeOrders", fn := fun _ => fun
  | [d1, d2, d3, d4] => { results := [.lit (.bool false)], args := [d1, d2, d3, d4] }
  | _ => none }
def CompleteOrdersWrongFalsely : Prop := completeOrdersRow.holds Tryd.pinned (OpenSpec.ofChange completeOrdersWrong)

/-- 'copyistlaw31.CompleteKnown': WHATEVER THE INPUT: true; the input reads as it did. -/
def completeKnownSpec : ChangeSpec := { name := "completeKnown", fn := fun _ => fun
  | [] => { results := [.lit (.bool true)], args := [] }
  | _ => none }
def completeKnownRow : OpenClaim := { program := "ytjcmdifpkafdkaadoor", sum := "4640399884acc27e48395a396fc5fa43a11ae9cecf445bf0618d84717559e8af", func := "copyist/copyistlaw31.CompleteKnown", spec := "completeKnown", unfollowed := true, recurses := true, named := ["unicode/utf8.first", "unicode/utf8.acceptRanges"], apart := false, laid := [("unicode/utf8.acceptRanges", laid_unicode_utf8_acceptRanges), ("unicode/utf8.first", laid_unicode_utf8_first)] }
def CompleteKnownSaid : Prop := completeKnownRow.holds Tryd.pinned (OpenSpec.ofChange completeKnownSpec)

/-- ITS FALSE NEIGHBOUR: 'it returns false'. Refute it at one input. -/
def completeKnownWrong : ChangeSpec := { name := "completeKnown", fn := fun _ => fun
  | [] => { results := [.lit (.bool false)], args := [] }
  | _ => none }
def CompleteKnownWrongFalsely : Prop := completeKnownRow.holds Tryd.pinned (OpenSpec.ofChange completeKnownWrong)

/-- 'copyistlaw31.CompleteSame': WHATEVER THE INPUT: true; the input reads as it did. -/
def completeSameSpec : ChangeSpec := { name := "completeSame", fn := fun _ => fun
  | [d1, d2, d3] => { results := [.lit (.bool true)], args := [d1, d2, d3] }
  | _ => none }
def completeSameRow : OpenClaim := { program := "ytjcmdifpkafdkaadoor", sum := "4640399884acc27e48395a396fc5fa43a11ae9cecf445bf0618d84717559e8af", func := "copyist/copyistlaw31.CompleteSame", spec := "completeSame", unfollowed := true, recurses := true, named := ["unicode/utf8.first", "unicode/utf8.acceptRanges"], apart := false, laid := [("unicode/utf8.acceptRanges", laid_unicode_utf8_acceptRanges), ("unicode/utf8.first", laid_unicode_utf8_first)] }
def CompleteSameSaid : Prop := completeSameRow.holds Tryd.pinned (OpenSpec.ofChange completeSameSpec)

/-- ITS FALSE NEIGHBOUR: 'it returns false'. Refute it at one input. -/
def completeSameWrong : ChangeSpec := { name := "completeSame", fn := fun _ => fun
  | [d1, d2, d3] => { results := [.lit (.bool false)], args := [d1, d2, d3] }
  | _ => none }
def CompleteSameWrongFalsely : Prop := completeSameRow.holds Tryd.pinned (OpenSpec.ofChange completeSameWrong)

/-- 'copyistlaw31.CompleteKinds': WHATEVER THE INPUT: true; the input reads as it did. -/
def completeKindsSpec : ChangeSpec := { name := "completeKinds", fn := fun _ => fun
  | [d1, d2, d3, d4] => { results := [.lit (.bool true)], args := [d1, d2, d3, d4] }
  | _ => none }
def completeKindsRow : OpenClaim := { program := "ytjcmdifpkafdkaadoor", sum := "4640399884acc27e48395a396fc5fa43a11ae9cecf445bf0618d84717559e8af", func := "copyist/copyistlaw31.CompleteKinds", spec := "completeKinds", unfollowed := true, recurses := true, named := ["unicode/utf8.first", "unicode/utf8.acceptRanges"], apart := false, laid := [("unicode/utf8.acceptRanges", laid_unicode_utf8_acceptRanges), ("unicode/utf8.first", laid_unicode_utf8_first)] }
def CompleteKindsSaid : Prop := completeKindsRow.holds Tryd.pinned (OpenSpec.ofChange completeKindsSpec)

/-- ITS FALSE NEIGHBOUR: 'it returns false'. Refute it at one input. -/
def completeKindsWrong : ChangeSpec := { name := "completeKinds", fn := fun _ => fun
  | [d1, d2, d3, d4] => { results := [.lit (.bool false)], args := [d1, d2, d3, d4] }
  | _ => none }
def CompleteKindsWrongFalsely : Prop := completeKindsRow.holds Tryd.pinned (OpenSpec.ofChange completeKindsWrong)

/-- 'copyistlaw31.CompleteExtends': WHATEVER THE INPUT: true; the input reads as it did. -/
def completeExtendsSpec : ChangeSpec := { name := "completeExtends", fn := fun _ => fun
  | [d1, d2, d3] => { results := [.lit (.bool true)], args := [d1, d2, d3] }
  | _ => none }
def completeExtendsRow : OpenClaim := { program := "ytjcmdifpkafdkaadoor", sum := "4640399884acc27e48395a396fc5fa43a11ae9cecf445bf0618d84717559e8af", func := "copyist/copyistlaw31.CompleteExtends", spec := "completeExtends", unfollowed := true, recurses := true, named := ["unicode/utf8.first", "unicode/utf8.acceptRanges"], apart := false, laid := [("unicode/utf8.acceptRanges", laid_unicode_utf8_acceptRanges), ("unicode/utf8.first", laid_unicode_utf8_first)] }
def CompleteExtendsSaid : Prop := completeExtendsRow.holds Tryd.pinned (OpenSpec.ofChange completeExtendsSpec)

/-- ITS FALSE NEIGHBOUR: 'it returns false'. Refute it at one input. -/
def completeExtendsWrong : ChangeSpec := { name := "completeExtends", fn := fun _ => fun
  | [d1, d2, d3] => { results := [.lit (.bool false)], args := [d1, d2, d3] }
  | _ => none }
def CompleteExtendsWrongFalsely : Prop := completeExtendsRow.holds Tryd.pinned (OpenSpec.ofChange completeExtendsWrong)

/- THE SECOND FORM. 'bulk': how many values and letters a reading holds, each counted each time it is reached (what is shared counts as often as it is met; a slice's spare places count too). A statement '..UptoSaid' is the law's where the arguments, and the package variables that the reading takes, are together of bulk at most 1048576: NARROWER than '..Said'. Prove '..Said' where nothing that the law and all that it calls make is longer than what came in: it says more and counts as full. Else prove '..UptoSaid'. A law counts once. -/
mutual
def uptoBulk {H : Type} : DataW H → Nat
  | .lit (.string bytes) => bytes.length + 1
  | .lit _ => 1
  | .nil => 1
  | .ptr d => uptoBulk d + 1
  | .slice elems spare => uptoBulkAll elems + uptoBulkAll spare + 1
  | .agg parts => uptoBulkAll parts + 1
  | .iface _ d => uptoBulk d + 1
  | .map entries => uptoBulkEntries entries + 1
  | .held _ => 1
def uptoBulkAll {H : Type} : List (DataW H) → Nat
  | [] => 0
  | d :: r => uptoBulk d + uptoBulkAll r
def uptoBulkEntries {H : Type} : List (Lit × DataW H) → Nat
  | [] => 0
  | x :: r => uptoBulkEntry x + uptoBulkEntries r
def uptoBulkEntry {H : Type} : Lit × DataW H → Nat
  | (.string bytes, d) => bytes.length + uptoBulk d + 1
  | (_, d) => uptoBulk d + 1
 end
def uptoSmall : (H : Type) → List (DataW H) → Bool := fun _ ds => decide (uptoBulkAll ds ≤ 1048576)
def OpenSpec.upto (s : _root_.Go.ChangeSpec) : _root_.Go.OpenSpec := { _root_.Go.OpenSpec.ofChange s with cond := some uptoSmall }

/-- 'copyistlaw31.CompleteWords', WHERE WHAT IT READS IS OF BULK AT MOST 1048576: true; the input reads as it did. -/
def completeWordsUptoRow : OpenClaim := { program := "ytjcmdifpkafdkaadoor", sum := "4640399884acc27e48395a396fc5fa43a11ae9cecf445bf0618d84717559e8af", func := "copyist/copyistlaw31.CompleteWords", spec := "completeWords", unfollowed := true, recurses := true, named := ["unicode/utf8.first", "unicode/utf8.acceptRanges"], apart := false, laid := [("unicode/utf8.acceptRanges", laid_unicode_utf8_acceptRanges), ("unicode/utf8.first", laid_unicode_utf8_first)], narrowed := true }
def CompleteWordsUptoSaid : Prop := completeWordsUptoRow.holds Tryd.pinned (OpenSpec.upto completeWordsSpec)

/-- 'copyistlaw31.CompletePrefixes', WHERE WHAT IT READS IS OF BULK AT MOST 1048576: true; the input reads as it did. -/
def completePrefixesUptoRow : OpenClaim := { program := "ytjcmdifpkafdkaadoor", sum := "4640399884acc27e48395a396fc5fa43a11ae9cecf445bf0618d84717559e8af", func := "copyist/copyistlaw31.CompletePrefixes", spec := "completePrefixes", unfollowed := true, recurses := true, named := ["unicode/utf8.first", "unicode/utf8.acceptRanges"], apart := false, laid := [("unicode/utf8.acceptRanges", laid_unicode_utf8_acceptRanges), ("unicode/utf8.first", laid_unicode_utf8_first)], narrowed := true }
def CompletePrefixesUptoSaid : Prop := completePrefixesUptoRow.holds Tryd.pinned (OpenSpec.upto completePrefixesSpec)

/-- 'copyistlaw31.CompleteOrders', WHERE WHAT IT READS IS OF BULK AT MOST 1048576: true; the input reads as it did. -/
def completeOrdersUptoRow : OpenClaim := { program := "ytjcmdifpkafdkaadoor", sum := "4640399884acc27e48395a396fc5fa43a11ae9cecf445bf0618d84717559e8af", func := "copyist/copyistlaw31.CompleteOrders", spec := "completeOrders", unfollowed := true, recurses := true, named := ["unicode/utf8.first", "unicode/utf8.acceptRanges"], apart := false, laid := [("unicode/utf8.acceptRanges", laid_unicode_utf8_acceptRanges), ("unicode/utf8.first", laid_unicode_utf8_first)], narrowed := true }
def CompleteOrdersUptoSaid : Prop := completeOrdersUptoRow.holds Tryd.pinned (OpenSpec.upto completeOrdersSpec)

/-- 'copyistlaw31.CompleteKnown', WHERE WHAT IT READS IS OF BULK AT MOST 1048576: true; the input reads as it did. -/
def completeKnownUptoRow : OpenClaim := { program := "ytjcmdifpkafdkaadoor", sum := "4640399884acc27e48395a396fc5fa43a11ae9cecf445bf0618d84717559e8af", func := "copyist/copyistlaw31.CompleteKnown", spec := "completeKnown", unfollowed := true, recurses := true, named := ["unicode/utf8.first", "unicode/utf8.acceptRanges"], apart := false, laid := [("unicode/utf8.acceptRanges", laid_unicode_utf8_acceptRanges), ("unicode/utf8.first", laid_unicode_utf8_first)], narrowed := true }
def CompleteKnownUptoSaid : Prop := completeKnownUptoRow.holds Tryd.pinned (OpenSpec.upto completeKnownSpec)

/-- 'copyistlaw31.CompleteSame', WHERE WHAT IT READS IS OF BULK AT MOST 1048576: true; the input reads as it did. -/
def completeSameUptoRow : OpenClaim := { program := "ytjcmdifpkafdkaadoor", sum := "4640399884acc27e48395a396fc5fa43a11ae9cecf445bf0618d84717559e8af", func := "copyist/copyistlaw31.CompleteSame", spec := "completeSame", unfollowed := true, recurses := true, named := ["unicode/utf8.first", "unicode/utf8.acceptRanges"], apart := false, laid := [("unicode/utf8.acceptRanges", laid_unicode_utf8_acceptRanges), ("unicode/utf8.first", laid_unicode_utf8_first)], narrowed := true }
def CompleteSameUptoSaid : Prop := completeSameUptoRow.holds Tryd.pinned (OpenSpec.upto completeSameSpec)

/-- 'copyistlaw31.CompleteKinds', WHERE WHAT IT READS IS OF BULK AT MOST 1048576: true; the input reads as it did. -/
def completeKindsUptoRow : OpenClaim := { program := "ytjcmdifpkafdkaadoor", sum := "4640399884acc27e48395a396fc5fa43a11ae9cecf445bf0618d84717559e8af", func := "copyist/copyistlaw31.CompleteKinds", spec := "completeKinds", unfollowed := true, recurses := true, named := ["unicode/utf8.first", "unicode/utf8.acceptRanges"], apart := false, laid := [("unicode/utf8.acceptRanges", laid_unicode_utf8_acceptRanges), ("unicode/utf8.first", laid_unicode_utf8_first)], narrowed := true }
def CompleteKindsUptoSaid : Prop := completeKindsUptoRow.holds Tryd.pinned (OpenSpec.upto completeKindsSpec)

/-- 'copyistlaw31.CompleteExtends', WHERE WHAT IT READS IS OF BULK AT MOST 1048576: true; the input reads as it did. -/
def completeExtendsUptoRow : OpenClaim := { program := "ytjcmdifpkafdkaadoor", sum := "4640399884acc27e48395a396fc5fa43a11ae9cecf445bf0618d84717559e8af", func := "copyist/copyistlaw31.CompleteExtends", spec := "completeExtends", unfollowed := true, recurses := true, named := ["unicode/utf8.first", "unicode/utf8.acceptRanges"], apart := false, laid := [("unicode/utf8.acceptRanges", laid_unicode_utf8_acceptRanges), ("unicode/utf8.first", laid_unicode_utf8_first)], narrowed := true }
def CompleteExtendsUptoSaid : Prop := completeExtendsUptoRow.holds Tryd.pinned (OpenSpec.upto completeExtendsSpec)

end Rows
end Go.Proofs.YtjcmdifpkafdkaaDoor
