/-
  CompleteKnown answers true, in every world in which the two tables lie. Conditions: those tables.
-/
import Derived.Test.YtjcmdifpkafdkaaDoorCmpAwake
namespace Go.Proofs.YtjcmdifpkafdkaaDoor
open Go.RowKit
set_option maxRecDepth 1000000
theorem known_run : (match doCall 16 Tryd.prog (ev 16 Tryd.prog ⟨[11], rowsU⟩ 3000) 6 #[] (startE 16 rowsU) with | some (.bool b, _) => b | _ => false) = true := by kernel_rfl
theorem completeKnown_any (w : World) (h : Lib.Utf8Tabs 0 1 w) : Calls Tryd.prog 6 #[] w fun e w' => e = .returned (.bool true) ∧ Below w.heap.size w w' :=
  closed_calls awake_known known_run (rowsU_lie h) rowsU_low
end Go.Proofs.YtjcmdifpkafdkaaDoor
