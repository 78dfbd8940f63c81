/-
  NARROWER THAN 'FOR EVERY INPUT', by the rows' own cells (each row's printed sentence says how): HooksNames: laid · HooksScript: laid · HooksBack: laid · HooksKept: laid.
  DERIVED. THE GIVEN ROWS OF THIS SEAT. 4 by the template 'for every input the law returns true; each argument reads behind the call as it read before'; 0 by the template 'total and deterministic' (their statements: YtaaebeiigkhcjaaGreatDoorTotals.lean).
  GIVEN WITH THE SEED: the statements are not yours to turn. If you find one false, say at which input.
  Laid BY PROGRAM, IN A SANDBOX (cutbox-rows.mjs): the forced cells as the released guide's own fill.sh prints them over the translation 11ec7646d9fdcbd8… (all of the seat's roots in one cut). By AI agents, Wed Nov 11 2026. No macro, syntax, notation, axiom, sorry.
-/
import Derived.Test.YtaaebeiigkhcjaaGreatDoorChecked
import GoSem.Claim
import GoSem.ClaimJoined
import GoSem.ClaimMapViews
import Derived.JoinedTies
import Derived.KernelRfl
namespace Go.Proofs.YtaaebeiigkhcjaaGreatDoor
/- THE CELL 'sum', in the pinned program and in every row, IS THE sha256 OF THE DUMP (.gsa) THAT YtaaebeiigkhcjaaGreatDoorProg.lean LOADS. Nothing in Lean hashes anything: it is a label: what it is worth is what the hold of that sum in a sandbox is worth. -/
noncomputable def Tryz.pinned : Pinned := { name := "ytaaebeiigkhcjaagreatdoor", sum := "11ec7646d9fdcbd8cdb88e6896ddc7c76ba0f31c8930362d36f1067a1c7cd458", checked := Tryz.checked }
namespace Rows
def none {H : Type} : Left H := { results := [], args := [] }

/- WHAT THE LISTED PACKAGE-LEVEL VARIABLES READ AS WHEN THE CALL BEGINS. Each datum BY PROGRAM (the guide's laid-datum.mjs) off the statement by which the dump's own 'gosem.cut.vars' lays the variable. In a bare row this is a premise. The card (YtaaebeiigkhcjaaGreatDoorCards.lean) ties it to the program's text. -/
def laid_copyist_hooks_tee {H : Type} : DataW H := .agg [.lit (.int .i64 1), .lit (.int .i64 1)]
def laid_copyist_hooks_null {H : Type} : DataW H := .agg [.lit (.int .i64 1), .lit (.int .i64 0)]

/-- 'copyistlaw29.HooksNames': WHATEVER THE INPUT: true; the input reads as it did. -/
def hooksNamesSpec : ChangeSpec := { name := "hooksNames", fn := fun _ => fun
  | [] => { results := [.lit (.bool true)], args := [] }
  | _ => none }
def hooksNamesRow : OpenClaim := { program := "ytaaebeiigkhcjaagreatdoor", sum := "11ec7646d9fdcbd8cdb88e6896ddc7c76ba0f31c8930362d36f1067a1c7cd458", func := "copyist/copyistlaw29.HooksNames", spec := "hooksNames", inPlace := ["slices.overlaps[copyist/hooks.ranked]"], unfollowed := true, recurses := true, named := ["copyist/hooks.tee", "copyist/hooks.null"], apart := false, laid := [("copyist/hooks.tee", laid_copyist_hooks_tee), ("copyist/hooks.null", laid_copyist_hooks_null)] }
def HooksNamesSaid : Prop := hooksNamesRow.holds Tryz.pinned (OpenSpec.ofChange hooksNamesSpec)

/-- ITS FALSE NEIGHBOUR: 'it returns false'. Refute it at one input. -/
def hooksNamesWrong : ChangeSpec := { name := "hooksNames", fn := fun _ => fun
  | [] => { results := [.lit (.bool false)], args := [] }
  | _ => none }
def HooksNamesWrongFalsely : Prop := hooksNamesRow.holds Tryz.pinned (OpenSpec.ofChange hooksNamesWrong)

/-- 'copyistlaw29.HooksScript': WHATEVER THE INPUT: true; the input reads as it did. -/
def hooksScriptSpec : ChangeSpec := { name := "hooksScript", fn := fun _ => fun
  | [d1, d2, d3, d4, d5, d6, d7] => { results := [.lit (.bool true)], args := [d1, d2, d3, d4, d5, d6, d7] }
  | _ => none }
def hooksScriptRow : OpenClaim := { program := "ytaaebeiigkhcjaagreatdoor", sum := "11ec7646d9fdcbd8cdb88e6896ddc7c76ba0f31c8930362d36f1067a1c7cd458", func := "copyist/copyistlaw29.HooksScript", spec := "hooksScript", inPlace := ["slices.overlaps[copyist/hooks.ranked]"], unfollowed := true, recurses := true, named := ["copyist/hooks.tee", "copyist/hooks.null"], apart := false, laid := [("copyist/hooks.tee", laid_copyist_hooks_tee), ("copyist/hooks.null", laid_copyist_hooks_null)] }
def HooksScriptSaid : Prop := hooksScriptRow.holds Tryz.pinned (OpenSpec.ofChange hooksScriptSpec)

/-- ITS FALSE NEIGHBOUR: 'it returns false'. Refute it at one input. -/
def hooksScriptWrong : ChangeSpec := { name := "hooksScript", fn := fun _ => fun
  | [d1, d2, d3, d4, d5, d6, d7] => { results := [.lit (.bool false)], args := [d1, d2, d3, d4, d5, d6, d7] }
  | _ => none }
def HooksScriptWrongFalsely : Prop := hooksScriptRow.holds Tryz.pinned (OpenSpec.ofChange hooksScriptWrong)

/-- 'copyistlaw29.HooksBack': WHATEVER THE INPUT: true; the input reads as it did. -/
def hooksBackSpec : ChangeSpec := { name := "hooksBack", fn := fun _ => fun
  | [d1, d2, d3, d4, d5] => { results := [.lit (.bool true)], args := [d1, d2, d3, d4, d5] }
  | _ => none }
def hooksBackRow : OpenClaim := { program := "ytaaebeiigkhcjaagreatdoor", sum := "11ec7646d9fdcbd8cdb88e6896ddc7c76ba0f31c8930362d36f1067a1c7cd458", func := "copyist/copyistlaw29.HooksBack", spec := "hooksBack", inPlace := ["slices.overlaps[copyist/hooks.ranked]"], unfollowed := true, recurses := true, named := ["copyist/hooks.tee", "copyist/hooks.null"], apart := false, laid := [("copyist/hooks.tee", laid_copyist_hooks_tee), ("copyist/hooks.null", laid_copyist_hooks_null)] }
def HooksBackSaid : Prop := hooksBackRow.holds Tryz.pinned (OpenSpec.ofChange hooksBackSpec)

/-- ITS FALSE NEIGHBOUR: 'it returns false'. Refute it at one input. -/
def hooksBackWrong : ChangeSpec := { name := "hooksBack", fn := fun _ => fun
  | [d1, d2, d3, d4, d5] => { results := [.lit (.bool false)], args := [d1, d2, d3, d4, d5] }
  | _ => none }
def HooksBackWrongFalsely : Prop := hooksBackRow.holds Tryz.pinned (OpenSpec.ofChange hooksBackWrong)

/-- 'copyistlaw29.HooksKept': WHATEVER THE INPUT: true; the input reads as it did. -/
def hooksKeptSpec : ChangeSpec := { name := "hooksKept", fn := fun _ => fun
  | [d1, d2, d3, d4] => { results := [.lit (.bool true)], args := [d1, d2, d3, d4] }
  | _ => none }
def hooksKeptRow : OpenClaim := { program := "ytaaebeiigkhcjaagreatdoor", sum := "11ec7646d9fdcbd8cdb88e6896ddc7c76ba0f31c8930362d36f1067a1c7cd458", func := "copyist/copyistlaw29.HooksKept", spec := "hooksKept", inPlace := ["slices.overlaps[copyist/hooks.ranked]"], unfollowed := true, recurses := true, named := ["copyist/hooks.tee", "copyist/hooks.null"], apart := false, laid := [("copyist/hooks.tee", laid_copyist_hooks_tee), ("copyist/hooks.null", laid_copyist_hooks_null)] }
def HooksKeptSaid : Prop := hooksKeptRow.holds Tryz.pinned (OpenSpec.ofChange hooksKeptSpec)

/-- ITS FALSE NEIGHBOUR: 'it returns false'. Refute it at one input. -/
def hooksKeptWrong : ChangeSpec := { name := "hooksKept", fn := fun _ => fun
  | [d1, d2, d3, d4] => { results := [.lit (.bool false)], args := [d1, d2, d3, d4] }
  | _ => none }
def HooksKeptWrongFalsely : Prop := hooksKeptRow.holds Tryz.pinned (OpenSpec.ofChange hooksKeptWrong)

/- THE SECOND FORM. 'bulk': how many values and letters a reading holds, each counted each time it is reached (what is shared counts as often as it is met; a slice's spare places count too). A statement '..UptoSaid' is the law's where the arguments, and the package variables that the reading takes, are together of bulk at most 1048576: NARROWER than '..Said'. Prove '..Said' where nothing that the law and all that it calls make is longer than what came in: it says more and counts as full. Else prove '..UptoSaid'. A law counts once. -/
mutual
def uptoBulk {H : Type} : DataW H → Nat
  | .lit (.string bytes) => bytes.length + 1
  | .lit _ => 1
  | .nil => 1
  | .ptr d => uptoBulk d + 1
  | .slice elems spare => uptoBulkAll elems + uptoBulkAll spare + 1
  | .agg parts => uptoBulkAll parts + 1
  | .iface _ d => uptoBulk d + 1
  | .map entries => uptoBulkEntries entries + 1
  | .held _ => 1
def uptoBulkAll {H : Type} : List (DataW H) → Nat
  | [] => 0
  | d :: r => uptoBulk d + uptoBulkAll r
def uptoBulkEntries {H : Type} : List (Lit × DataW H) → Nat
  | [] => 0
  | x :: r => uptoBulkEntry x + uptoBulkEntries r
def uptoBulkEntry {H : Type} : Lit × DataW H → Nat
  | (.string bytes, d) => bytes.length + uptoBulk d + 1
  | (_, d) => uptoBulk d + 1
 end
def uptoSmall : (H : Type) → List (DataW H) → Bool := fun _ ds => decide (uptoBulkAll ds ≤ 1048576)
def OpenSpec.upto (s : _root_.Go.ChangeSpec) : _root_.Go.OpenSpec := { _root_.Go.OpenSpec.ofChange s with cond := some uptoSmall }

/-- 'copyistlaw29.HooksNames', WHERE WHAT IT READS IS OF BULK AT MOST 1048576: true; the input reads as it did. -/
def hooksNamesUptoRow : OpenClaim := { program := "ytaaebeiigkhcjaagreatdoor", sum := "11ec7646d9fdcbd8cdb88e6896ddc7c76ba0f31c8930362d36f1067a1c7cd458", func := "copyist/copyistlaw29.HooksNames", spec := "hooksNames", inPlace := ["slices.overlaps[copyist/hooks.ranked]"], unfollowed := true, recurses := true, named := ["copyist/hooks.tee", "copyist/hooks.null"], apart := false, laid := [("copyist/hooks.tee", laid_copyist_hooks_tee), ("copyist/hooks.null", laid_copyist_hooks_null)], narrowed := true }
def HooksNamesUptoSaid : Prop := hooksNamesUptoRow.holds Tryz.pinned (OpenSpec.upto hooksNamesSpec)

/-- 'copyistlaw29.HooksScript', WHERE WHAT IT READS IS OF BULK AT MOST 1048576: true; the input reads as it did. -/
def hooksScriptUptoRow : OpenClaim := { program := "ytaaebeiigkhcjaagreatdoor", sum := "11ec7646d9fdcbd8cdb88e6896ddc7c76ba0f31c8930362d36f1067a1c7cd458", func := "copyist/copyistlaw29.HooksScript", spec := "hooksScript", inPlace := ["slices.overlaps[copyist/hooks.ranked]"], unfollowed := true, recurses := true, named := ["copyist/hooks.tee", "copyist/hooks.null"], apart := false, laid := [("copyist/hooks.tee", laid_copyist_hooks_tee), ("copyist/hooks.null", laid_copyist_hooks_null)], narrowed := true }
def HooksScriptUptoSaid : Prop := hooksScriptUptoRow.holds Tryz.pinned (OpenSpec.upto hooksScriptSpec)

/-- 'copyistlaw29.HooksBack', WHERE WHAT IT READS IS OF BULK AT MOST 1048576: true; the input reads as it did. -/
def hooksBackUptoRow : OpenClaim := { program := "ytaaebeiigkhcjaagreatdoor", sum := "11ec7646d9fdcbd8cdb88e6896ddc7c76ba0f31c8930362d36f1067a1c7cd458", func := "copyist/copyistlaw29.HooksBack", spec := "hooksBack", inPlace := ["slices.overlaps[copyist/hooks.ranked]"], unfollowed := true, recurses := true, named := ["copyist/hooks.tee", "copyist/hooks.null"], apart := false, laid := [("copyist/hooks.tee", laid_copyist_hooks_tee), ("copyist/hooks.null", laid_copyist_hooks_null)], narrowed := true }
def HooksBackUptoSaid : Prop := hooksBackUptoRow.holds Tryz.pinned (OpenSpec.upto hooksBackSpec)

/-- 'copyistlaw29.HooksKept', WHERE WHAT IT READS IS OF BULK AT MOST 1048576: true; the input reads as it did. -/
def hooksKeptUptoRow : OpenClaim := { program := "ytaaebeiigkhcjaagreatdoor", sum := "11ec7646d9fdcbd8cdb88e6896ddc7c76ba0f31c8930362d36f1067a1c7cd458", func := "copyist/copyistlaw29.HooksKept", spec := "hooksKept", inPlace := ["slices.overlaps[copyist/hooks.ranked]"], unfollowed := true, recurses := true, named := ["copyist/hooks.tee", "copyist/hooks.null"], apart := false, laid := [("copyist/hooks.tee", laid_copyist_hooks_tee), ("copyist/hooks.null", laid_copyist_hooks_null)], narrowed := true }
def HooksKeptUptoSaid : Prop := hooksKeptUptoRow.holds Tryz.pinned (OpenSpec.upto hooksKeptSpec)

end Rows
end Go.Proofs.YtaaebeiigkhcjaaGreatDoor
