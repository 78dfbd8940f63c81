/-
  NARROWER THAN 'FOR EVERY INPUT', by the rows' own cells (each row's printed sentence says how): CommandRecords: laid · CommandKnown: laid · CommandBack: laid · CommandReplays: laid · CommandRaw: laid.
  DERIVED. THE GIVEN ROWS OF THIS SEAT. 5 by the template 'for every input the law returns true; each argument reads behind the call as it read before'; 0 by the template 'total and deterministic' (their statements: YthemeeiedlbhkaaGreatDoorTotals.lean).
  GIVEN WITH THE SEED: the statements are not yours to turn. If you find one false, say at which input.
  Laid BY PROGRAM, IN A SANDBOX (cutbox-rows.mjs): the forced cells as the released guide's own fill.sh prints them over the translation 558ae1853a267f00… (all of the seat's roots in one cut). By AI agents, Wed Nov 11 2026. No macro, syntax, notation, axiom, sorry.
-/
import Derived.Test.YthemeeiedlbhkaaGreatDoorChecked
import GoSem.PinnedTables
import GoSem.Claim
import GoSem.ClaimJoined
import GoSem.ClaimMapViews
import Derived.JoinedTies
import Derived.KernelRfl
namespace Go.Proofs.YthemeeiedlbhkaaGreatDoor
/- THE CELL 'sum', in the pinned program and in every row, IS THE sha256 OF THE DUMP (.gsa) THAT YthemeeiedlbhkaaGreatDoorProg.lean LOADS. Nothing in Lean hashes anything: it is a label: what it is worth is what the hold of that sum in a sandbox is worth. -/
noncomputable def Tryz.pinned : Pinned := { name := "ythemeeiedlbhkaagreatdoor", sum := "558ae1853a267f004527820afa227f3ccf70de2d88a6fca4063643a57c0d4101", checked := Tryz.checked }
namespace Rows
def none {H : Type} : Left H := { results := [], args := [] }

/- WHAT THE LISTED PACKAGE-LEVEL VARIABLES READ AS WHEN THE CALL BEGINS. Each datum BY PROGRAM (the guide's laid-datum.mjs) off the statement by which the dump's own 'gosem.cut.vars' lays the variable. In a bare row this is a premise. The card (YthemeeiedlbhkaaGreatDoorCards.lean) ties it to the program's text. -/
def laid_unicode_utf8_acceptRanges {H : Type} : DataW H := .agg [.agg [.lit (.int .u8 128), .lit (.int .u8 191)], .agg [.lit (.int .u8 160), .lit (.int .u8 191)], .agg [.lit (.int .u8 128), .lit (.int .u8 159)], .agg [.lit (.int .u8 144), .lit (.int .u8 191)], .agg [.lit (.int .u8 128), .lit (.int .u8 143)], .agg [.lit (.int .u8 0), .lit (.int .u8 0)], .agg [.lit (.int .u8 0), .lit (.int .u8 0)], .agg [.lit (.int .u8 0), .lit (.int .u8 0)], .agg [.lit (.int .u8 0), .lit (.int .u8 0)], .agg [.lit (.int .u8 0), .lit (.int .u8 0)], .agg [.lit (.int .u8 0), .lit (.int .u8 0)], .agg [.lit (.int .u8 0), .lit (.int .u8 0)], .agg [.lit (.int .u8 0), .lit (.int .u8 0)], .agg [.lit (.int .u8 0), .lit (.int .u8 0)], .agg [.lit (.int .u8 0), .lit (.int .u8 0)], .agg [.lit (.int .u8 0), .lit (.int .u8 0)]]
/-- One of Go's own tables, pinned by name: the form's constant. -/
def laid_unicode_utf8_first : DataW Unit := Go.Pinned.utf8First
def laid_copyist_command_none {H : Type} : DataW H := .agg [.lit (.int .i64 1), .lit (.int .i64 0)]

/-- 'copyistlaw32.CommandRecords': WHATEVER THE INPUT: true; the input reads as it did. -/
def commandRecordsSpec : ChangeSpec := { name := "commandRecords", fn := fun _ => fun
  | [d] => { results := [.lit (.bool true)], args := [d] }
  | _ => none }
def commandRecordsRow : OpenClaim := { program := "ythemeeiedlbhkaagreatdoor", sum := "558ae1853a267f004527820afa227f3ccf70de2d88a6fca4063643a57c0d4101", func := "copyist/copyistlaw32.CommandRecords", spec := "commandRecords", inPlace := ["internal/bytealg.IndexByteString", "internal/bytealg.IndexString", "internal/abi.NoEscape"], unfollowed := true, recurses := true, named := ["unicode/utf8.first", "unicode/utf8.acceptRanges", "internal/bytealg.MaxLen"], apart := false, laid := [("unicode/utf8.acceptRanges", laid_unicode_utf8_acceptRanges), ("unicode/utf8.first", laid_unicode_utf8_first)] }
def CommandRecordsSaid : Prop := commandRecordsRow.holds Tryz.pinned (OpenSpec.ofChange commandRecordsSpec)

/-- ITS FALSE NEIGHBOUR: 'it returns false'. Refute it at one input. -/
def commandRecordsWrong : ChangeSpec := { name := "commandRecords", fn := fun _ => fun
  | [d] => { results := [.lit (.bool false)], args := [d] }
  | _ => none }
def CommandRecordsWrongFalsely : Prop := commandRecordsRow.holds Tryz.pinned (OpenSpec.ofChange commandRecordsWrong)

/-- 'copyistlaw32.CommandKnown': WHATEVER THE INPUT: true; the input reads as it did. -/
def commandKnownSpec : ChangeSpec := { name := "commandKnown", fn := fun _ => fun
  | [] => { results := [.lit (.bool true)], args := [] }
  | _ => none }
def commandKnownRow : OpenClaim := { program := "ythemeeiedlbhkaagreatdoor", sum := "558ae1853a267f004527820afa227f3ccf70de2d88a6fca4063643a57c0d4101", func := "copyist/copyistlaw32.CommandKnown", spec := "commandKnown", inPlace := ["internal/bytealg.IndexByteString", "internal/bytealg.IndexString", "internal/abi.NoEscape"], unfollowed := true, recurses := true, named := ["unicode/utf8.first", "unicode/utf8.acceptRanges", "internal/bytealg.MaxLen", "copyist/command.none"], apart := false, laid := [("unicode/utf8.acceptRanges", laid_unicode_utf8_acceptRanges), ("copyist/command.none", laid_copyist_command_none), ("unicode/utf8.first", laid_unicode_utf8_first)] }
def CommandKnownSaid : Prop := commandKnownRow.holds Tryz.pinned (OpenSpec.ofChange commandKnownSpec)

/-- ITS FALSE NEIGHBOUR: 'it returns false'. Refute it at one input. -/
def commandKnownWrong : ChangeSpec := { name := "commandKnown", fn := fun _ => fun
  | [] => { results := [.lit (.bool false)], args := [] }
  | _ => none }
def CommandKnownWrongFalsely : Prop := commandKnownRow.holds Tryz.pinned (OpenSpec.ofChange commandKnownWrong)

/-- 'copyistlaw32.CommandBack': WHATEVER THE INPUT: true; the input reads as it did. -/
def commandBackSpec : ChangeSpec := { name := "commandBack", fn := fun _ => fun
  | [d1, d2] => { results := [.lit (.bool true)], args := [d1, d2] }
  | _ => none }
def commandBackRow : OpenClaim := { program := "ythemeeiedlbhkaagreatdoor", sum := "558ae1853a267f004527820afa227f3ccf70de2d88a6fca4063643a57c0d4101", func := "copyist/copyistlaw32.CommandBack", spec := "commandBack", inPlace := ["internal/bytealg.IndexByteString", "internal/bytealg.IndexString", "internal/abi.NoEscape"], unfollowed := true, recurses := true, named := ["unicode/utf8.first", "unicode/utf8.acceptRanges", "internal/bytealg.MaxLen", "copyist/command.none"], apart := false, laid := [("unicode/utf8.acceptRanges", laid_unicode_utf8_acceptRanges), ("copyist/command.none", laid_copyist_command_none), ("unicode/utf8.first", laid_unicode_utf8_first)] }
def CommandBackSaid : Prop := commandBackRow.holds Tryz.pinned (OpenSpec.ofChange commandBackSpec)

/-- ITS FALSE NEIGHBOUR: 'it returns false'. Refute it at one input. -/
def commandBackWrong : ChangeSpec := { name := "commandBack", fn := fun _ => fun
  | [d1, d2] => { results := [.lit (.bool false)], args := [d1, d2] }
  | _ => none }
def CommandBackWrongFalsely : Prop := commandBackRow.holds Tryz.pinned (OpenSpec.ofChange commandBackWrong)

/-- 'copyistlaw32.CommandReplays': WHATEVER THE INPUT: true; the input reads as it did. -/
def commandReplaysSpec : ChangeSpec := { name := "commandReplays", fn := fun _ => fun
  | [d1, d2, d3] => { results := [.lit (.bool true)], args := [d1, d2, d3] }
  | _ => none }
def commandReplaysRow : OpenClaim := { program := "ythemeeiedlbhkaagreatdoor", sum := "558ae1853a267f004527820afa227f3ccf70de2d88a6fca4063643a57c0d4101", func := "copyist/copyistlaw32.CommandReplays", spec := "commandReplays", inPlace := ["internal/bytealg.IndexByteString", "internal/bytealg.IndexString", "internal/abi.NoEscape"], unfollowed := true, recurses := true, named := ["unicode/utf8.first", "unicode/utf8.acceptRanges", "internal/bytealg.MaxLen", "copyist/command.none"], apart := false, laid := [("unicode/utf8.acceptRanges", laid_unicode_utf8_acceptRanges), ("copyist/command.none", laid_copyist_command_none), ("unicode/utf8.first", laid_unicode_utf8_first)] }
def CommandReplaysSaid : Prop := commandReplaysRow.holds Tryz.pinned (OpenSpec.ofChange commandReplaysSpec)

/-- ITS FALSE NEIGHBOUR: 'it returns false'. Refute it at one input. -/
def commandReplaysWrong : ChangeSpec := { name := "commandReplays", fn := fun _ => fun
  | [d1, d2, d3] => { results := [.lit (.bool false)], args := [d1, d2, d3] }
  | _ => none }
def CommandReplaysWrongFalsely : Prop := commandReplaysRow.holds Tryz.pinned (OpenSpec.ofChange commandReplaysWrong)

/-- 'copyistlaw32.CommandRaw': WHATEVER THE INPUT: true; the input reads as it did. -/
def commandRawSpec : ChangeSpec := { name := "commandRaw", fn := fun _ => fun
  | [d] => { results := [.lit (.bool true)], args := [d] }
  | _ => none }
def commandRawRow : OpenClaim := { program := "ythemeeiedlbhkaagreatdoor", sum := "558ae1853a267f004527820afa227f3ccf70de2d88a6fca4063643a57c0d4101", func := "copyist/copyistlaw32.CommandRaw", spec := "commandRaw", inPlace := ["internal/bytealg.IndexByteString", "internal/bytealg.IndexString", "internal/abi.NoEscape"], unfollowed := true, recurses := true, named := ["unicode/utf8.first", "unicode/utf8.acceptRanges", "internal/bytealg.MaxLen", "copyist/command.none"], apart := false, laid := [("unicode/utf8.acceptRanges", laid_unicode_utf8_acceptRanges), ("copyist/command.none", laid_copyist_command_none), ("unicode/utf8.first", laid_unicode_utf8_first)] }
def CommandRawSaid : Prop := commandRawRow.holds Tryz.pinned (OpenSpec.ofChange commandRawSpec)

/-- ITS FALSE NEIGHBOUR: 'it returns false'. Refute it at one input. -/
def commandRawWrong : ChangeSpec := { name := "commandRaw", fn := fun _ => fun
  | [d] => { results := [.lit (.bool false)], args := [d] }
  | _ => none }
def CommandRawWrongFalsely : Prop := commandRawRow.holds Tryz.pinned (OpenSpec.ofChange commandRawWrong)

/- THE SECOND FORM. 'bulk': how many values and letters a reading holds, each counted each time it is reached (what is shared counts as often as it is met; a slice's spare places count too). A statement '..UptoSaid' is the law's where the arguments, and the package variables that the reading takes, are together of bulk at most 1048576: NARROWER than '..Said'. Prove '..Said' where nothing that the law and all that it calls make is longer than what came in: it says more and counts as full. Else prove '..UptoSaid'. A law counts once. -/
mutual
def uptoBulk {H : Type} : DataW H → Nat
  | .lit (.string bytes) => bytes.length + 1
  | .lit _ => 1
  | .nil => 1
  | .ptr d => uptoBulk d + 1
  | .slice elems spare => uptoBulkAll elems + uptoBulkAll spare + 1
  | .agg parts => uptoBulkAll parts + 1
  | .iface _ d => uptoBulk d + 1
  | .map entries => uptoBulkEntries entries + 1
  | .held _ => 1
def uptoBulkAll {H : Type} : List (DataW H) → Nat
  | [] => 0
  | d :: r => uptoBulk d + uptoBulkAll r
def uptoBulkEntries {H : Type} : List (Lit × DataW H) → Nat
  | [] => 0
  | x :: r => uptoBulkEntry x + uptoBulkEntries r
def uptoBulkEntry {H : Type} : Lit × DataW H → Nat
  | (.string bytes, d) => bytes.length + uptoBulk d + 1
  | (_, d) => uptoBulk d + 1
 end
def uptoSmall : (H : Type) → List (DataW H) → Bool := fun _ ds => decide (uptoBulkAll ds ≤ 1048576)
def OpenSpec.upto (s : _root_.Go.ChangeSpec) : _root_.Go.OpenSpec := { _root_.Go.OpenSpec.ofChange s with cond := some uptoSmall }

/-- 'copyistlaw32.CommandRecords', WHERE WHAT IT READS IS OF BULK AT MOST 1048576: true; the input reads as it did. -/
def commandRecordsUptoRow : OpenClaim := { program := "ythemeeiedlbhkaagreatdoor", sum := "558ae1853a267f004527820afa227f3ccf70de2d88a6fca4063643a57c0d4101", func := "copyist/copyistlaw32.CommandRecords", spec := "commandRecords", inPlace := ["internal/bytealg.IndexByteString", "internal/bytealg.IndexString", "internal/abi.NoEscape"], unfollowed := true, recurses := true, named := ["unicode/utf8.first", "unicode/utf8.acceptRanges", "internal/bytealg.MaxLen"], apart := false, laid := [("unicode/utf8.acceptRanges", laid_unicode_utf8_acceptRanges), ("unicode/utf8.first", laid_unicode_utf8_first)], narrowed := true }
def CommandRecordsUptoSaid : Prop := commandRecordsUptoRow.holds Tryz.pinned (OpenSpec.upto commandRecordsSpec)

/-- 'copyistlaw32.CommandKnown', WHERE WHAT IT READS IS OF BULK AT MOST 1048576: true; the input reads as it did. -/
def commandKnownUptoRow : OpenClaim := { program := "ythemeeiedlbhkaagreatdoor", sum := "558ae1853a267f004527820afa227f3ccf70de2d88a6fca4063643a57c0d4101", func := "copyist/copyistlaw32.CommandKnown", spec := "commandKnown", inPlace := ["internal/bytealg.IndexByteString", "internal/bytealg.IndexString", "internal/abi.NoEscape"], unfollowed := true, recurses := true, named := ["unicode/utf8.first", "unicode/utf8.acceptRanges", "internal/bytealg.MaxLen", "copyist/command.none"], apart := false, laid := [("unicode/utf8.acceptRanges", laid_unicode_utf8_acceptRanges), ("copyist/command.none", laid_copyist_command_none), ("unicode/utf8.first", laid_unicode_utf8_first)], narrowed := true }
def CommandKnownUptoSaid : Prop := commandKnownUptoRow.holds Tryz.pinned (OpenSpec.upto commandKnownSpec)

/-- 'copyistlaw32.CommandBack', WHERE WHAT IT READS IS OF BULK AT MOST 1048576: true; the input reads as it did. -/
def commandBackUptoRow : OpenClaim := { program := "ythemeeiedlbhkaagreatdoor", sum := "558ae1853a267f004527820afa227f3ccf70de2d88a6fca4063643a57c0d4101", func := "copyist/copyistlaw32.CommandBack", spec := "commandBack", inPlace := ["internal/bytealg.IndexByteString", "internal/bytealg.IndexString", "internal/abi.NoEscape"], unfollowed := true, recurses := true, named := ["unicode/utf8.first", "unicode/utf8.acceptRanges", "internal/bytealg.MaxLen", "copyist/command.none"], apart := false, laid := [("unicode/utf8.acceptRanges", laid_unicode_utf8_acceptRanges), ("copyist/command.none", laid_copyist_command_none), ("unicode/utf8.first", laid_unicode_utf8_first)], narrowed := true }
def CommandBackUptoSaid : Prop := commandBackUptoRow.holds Tryz.pinned (OpenSpec.upto commandBackSpec)

/-- 'copyistlaw32.CommandReplays', WHERE WHAT IT READS IS OF BULK AT MOST 1048576: true; the input reads as it did. -/
def commandReplaysUptoRow : OpenClaim := { program := "ythemeeiedlbhkaagreatdoor", sum := "558ae1853a267f004527820afa227f3ccf70de2d88a6fca4063643a57c0d4101", func := "copyist/copyistlaw32.CommandReplays", spec := "commandReplays", inPlace := ["internal/bytealg.IndexByteString", "internal/bytealg.IndexString", "internal/abi.NoEscape"], unfollowed := true, recurses := true, named := ["unicode/utf8.first", "unicode/utf8.acceptRanges", "internal/bytealg.MaxLen", "copyist/command.none"], apart := false, laid := [("unicode/utf8.acceptRanges", laid_unicode_utf8_acceptRanges), ("copyist/command.none", laid_copyist_command_none), ("unicode/utf8.first", laid_unicode_utf8_first)], narrowed := true }
def CommandReplaysUptoSaid : Prop := commandReplaysUptoRow.holds Tryz.pinned (OpenSpec.upto commandReplaysSpec)

/-- 'copyistlaw32.CommandRaw', WHERE WHAT IT READS IS OF BULK AT MOST 1048576: true; the input reads as it did. -/
def commandRawUptoRow : OpenClaim := { program := "ythemeeiedlbhkaagreatdoor", sum := "558ae1853a267f004527820afa227f3ccf70de2d88a6fca4063643a57c0d4101", func := "copyist/copyistlaw32.CommandRaw", spec := "commandRaw", inPlace := ["internal/bytealg.IndexByteString", "internal/bytealg.IndexString", "internal/abi.NoEscape"], unfollowed := true, recurses := true, named := ["unicode/utf8.first", "unicode/utf8.acceptRanges", "internal/bytealg.MaxLen", "copyist/command.none"], apart := false, laid := [("unicode/utf8.acceptRanges", laid_unicode_utf8_acceptRanges), ("copyist/command.none", laid_copyist_command_none), ("unicode/utf8.first", laid_unicode_utf8_first)], narrowed := true }
def CommandRawUptoSaid : Prop := commandRawUptoRow.holds Tryz.pinned (OpenSpec.upto commandRawSpec)

end Rows
end Go.Proofs.YthemeeiedlbhkaaGreatDoor
