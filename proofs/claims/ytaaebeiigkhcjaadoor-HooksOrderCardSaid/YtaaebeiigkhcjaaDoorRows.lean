/-
  NARROWER THAN 'FOR EVERY INPUT', by the rows' own cells (each row's printed sentence says how): HooksOrder: laid · HooksLocal: laid.
  DERIVED. THE GIVEN ROWS OF THIS SEAT. 2 by the template 'for every input the law returns true; each argument reads behind the call as it read before'; 0 by the template 'total and deterministic' (their statements: YtaaebeiigkhcjaaDoorTotals.lean).
  GIVEN WITH THE SEED: the statements are not yours to turn. If you find one false, say at which input.
  Laid BY PROGRAM, IN A SANDBOX (cutbox-rows.mjs): the forced cells as the released guide's own fill.sh prints them over the translation d07cebd65bbd7444… (all of the seat's roots in one cut). By AI agents, Wed Nov 11 2026. No macro, syntax, notation, axiom, sorry.
-/
import Derived.Test.YtaaebeiigkhcjaaDoorChecked
import GoSem.Claim
import GoSem.ClaimJoined
import GoSem.ClaimMapViews
import Derived.JoinedTies
import Derived.KernelRfl
namespace Go.Proofs.YtaaebeiigkhcjaaDoor
/- THE CELL 'sum', in the pinned program and in every row, IS THE sha256 OF THE DUMP (.gsa) THAT YtaaebeiigkhcjaaDoorProg.lean LOADS. Nothing in Lean hashes anything: it is a label: what it is worth is what the hold of that sum in a sandbox is worth. -/
noncomputable def Tryd.pinned : Pinned := { name := "ytaaebeiigkhcjaadoor", sum := "d07cebd65bbd744431cb5f0a2d46b6e5707addd2801a1b3bfa38653d8feb1300", checked := Tryd.checked }
namespace Rows
def none {H : Type} : Left H := { results := [], args := [] }

/- WHAT THE LISTED PACKAGE-LEVEL VARIABLES READ AS WHEN THE CALL BEGINS. Each datum BY PROGRAM (the guide's laid-datum.mjs) off the statement by which the dump's own 'gosem.cut.vars' lays the variable. In a bare row this is a premise. The card (YtaaebeiigkhcjaaDoorCards.lean) ties it to the program's text. -/
def laid_copyist_hooks_tee {H : Type} : DataW H := .agg [.lit (.int .i64 1), .lit (.int .i64 1)]
def laid_copyist_hooks_null {H : Type} : DataW H := .agg [.lit (.int .i64 1), .lit (.int .i64 0)]

/-- 'copyistlaw29.HooksOrder': WHATEVER THE INPUT: true; the input reads as it did. -/
def hooksOrderSpec : ChangeSpec := { name := "hooksOrder", fn := fun _ => fun
  | [d] => { results := [.lit (.bool true)], args := [d] }
  | _ => none }
def hooksOrderRow : OpenClaim := { program := "ytaaebeiigkhcjaadoor", sum := "d07cebd65bbd744431cb5f0a2d46b6e5707addd2801a1b3bfa38653d8feb1300", func := "copyist/copyistlaw29.HooksOrder", spec := "hooksOrder", inPlace := ["slices.overlaps[copyist/hooks.ranked]"], unfollowed := true, recurses := true, named := ["copyist/hooks.tee", "copyist/hooks.null"], apart := false, laid := [("copyist/hooks.tee", laid_copyist_hooks_tee), ("copyist/hooks.null", laid_copyist_hooks_null)] }
def HooksOrderSaid : Prop := hooksOrderRow.holds Tryd.pinned (OpenSpec.ofChange hooksOrderSpec)

/-- ITS FALSE NEIGHBOUR: 'it returns false'. Refute it at one input. -/
def hooksOrderWrong : ChangeSpec := { name := "hooksOrder", fn := fun _ => fun
  | [d] => { results := [.lit (.bool false)], args := [d] }
  | _ => none }
def HooksOrderWrongFalsely : Prop := hooksOrderRow.holds Tryd.pinned (OpenSpec.ofChange hooksOrderWrong)

/-- 'copyistlaw29.HooksLocal': WHATEVER THE INPUT: true; the input reads as it did. -/
def hooksLocalSpec : ChangeSpec := { name := "hooksLocal", fn := fun _ => fun
  | [d1, d2] => { results := [.lit (.bool true)], args := [d1, d2] }
  | _ => none }
def hooksLocalRow : OpenClaim := { program := "ytaaebeiigkhcjaadoor", sum := "d07cebd65bbd744431cb5f0a2d46b6e5707addd2801a1b3bfa38653d8feb1300", func := "copyist/copyistlaw29.HooksLocal", spec := "hooksLocal", inPlace := ["slices.overlaps[copyist/hooks.ranked]"], unfollowed := true, recurses := true, named := ["copyist/hooks.tee", "copyist/hooks.null"], apart := false, laid := [("copyist/hooks.tee", laid_copyist_hooks_tee), ("copyist/hooks.null", laid_copyist_hooks_null)] }
def HooksLocalSaid : Prop := hooksLocalRow.holds Tryd.pinned (OpenSpec.ofChange hooksLocalSpec)

/-- ITS FALSE NEIGHBOUR: 'it returns false'. Refute it at one input. -/
def hooksLocalWrong : ChangeSpec := { name := "hooksLocal", fn := fun _ => fun
  | [d1, d2] => { results := [.lit (.bool false)], args := [d1, d2] }
  | _ => none }
def HooksLocalWrongFalsely : Prop := hooksLocalRow.holds Tryd.pinned (OpenSpec.ofChange hooksLocalWrong)

/- THE SECOND FORM. 'bulk': how many values and letters a reading holds, each counted each time it is reached (what is shared counts as often as it is met; a slice's spare places count too). A statement '..UptoSaid' is the law's where the arguments, and the package variables that the reading takes, are together of bulk at most 1048576: NARROWER than '..Said'. Prove '..Said' where nothing that the law and all that it calls make is longer than what came in: it says more and counts as full. Else prove '..UptoSaid'. A law counts once. -/
mutual
def uptoBulk {H : Type} : DataW H → Nat
  | .lit (.string bytes) => bytes.length + 1
  | .lit _ => 1
  | .nil => 1
  | .ptr d => uptoBulk d + 1
  | .slice elems spare => uptoBulkAll elems + uptoBulkAll spare + 1
  | .agg parts => uptoBulkAll parts + 1
  | .iface _ d => uptoBulk d + 1
  | .map entries => uptoBulkEntries entries + 1
  | .held _ => 1
def uptoBulkAll {H : Type} : List (DataW H) → Nat
  | [] => 0
  | d :: r => uptoBulk d + uptoBulkAll r
def uptoBulkEntries {H : Type} : List (Lit × DataW H) → Nat
  | [] => 0
  | x :: r => uptoBulkEntry x + uptoBulkEntries r
def uptoBulkEntry {H : Type} : Lit × DataW H → Nat
  | (.string bytes, d) => bytes.length + uptoBulk d + 1
  | (_, d) => uptoBulk d + 1
 end
def uptoSmall : (H : Type) → List (DataW H) → Bool := fun _ ds => decide (uptoBulkAll ds ≤ 1048576)
def OpenSpec.upto (s : _root_.Go.ChangeSpec) : _root_.Go.OpenSpec := { _root_.Go.OpenSpec.ofChange s with cond := some uptoSmall }

/-- 'copyistlaw29.HooksOrder', WHERE WHAT IT READS IS OF BULK AT MOST 1048576: true; the input reads as it did. -/
def hooksOrderUptoRow : OpenClaim := { program := "ytaaebeiigkhcjaadoor", sum := "d07cebd65bbd744431cb5f0a2d46b6e5707addd2801a1b3bfa38653d8feb1300", func := "copyist/copyistlaw29.HooksOrder", spec := "hooksOrder", inPlace := ["slices.overlaps[copyist/hooks.ranked]"], unfollowed := true, recurses := true, named := ["copyist/hooks.tee", "copyist/hooks.null"], apart := false, laid := [("copyist/hooks.tee", laid_copyist_hooks_tee), ("copyist/hooks.null", laid_copyist_hooks_null)], narrowed := true }
def HooksOrderUptoSaid : Prop := hooksOrderUptoRow.holds Tryd.pinned (OpenSpec.upto hooksOrderSpec)

/-- 'copyistlaw29.HooksLocal', WHERE WHAT IT READS IS OF BULK AT MOST 1048576: true; the input reads as it did. -/
def hooksLocalUptoRow : OpenClaim := { program := "ytaaebeiigkhcjaadoor", sum := "d07cebd65bbd744431cb5f0a2d46b6e5707addd2801a1b3bfa38653d8feb1300", func := "copyist/copyistlaw29.HooksLocal", spec := "hooksLocal", inPlace := ["slices.overlaps[copyist/hooks.ranked]"], unfollowed := true, recurses := true, named := ["copyist/hooks.tee", "copyist/hooks.null"], apart := false, laid := [("copyist/hooks.tee", laid_copyist_hooks_tee), ("copyist/hooks.null", laid_copyist_hooks_null)], narrowed := true }
def HooksLocalUptoSaid : Prop := hooksLocalUptoRow.holds Tryd.pinned (OpenSpec.upto hooksLocalSpec)

end Rows
end Go.Proofs.YtaaebeiigkhcjaaDoor
