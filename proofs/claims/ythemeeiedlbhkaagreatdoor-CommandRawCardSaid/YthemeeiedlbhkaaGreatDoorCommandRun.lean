/-
  CommandKnown answers true, in every world in which the two tables lie. Conditions: those tables.
-/
import Derived.Test.YthemeeiedlbhkaaGreatDoorCoSK
namespace Go.Proofs.YthemeeiedlbhkaaGreatDoor
open Go.RowKit
set_option maxRecDepth 1000000
theorem known_run : (match doCall 16 Tryz.prog (ev 16 Tryz.prog cosK 3000) 4 [].toArray (startE 16 cosK.rows) with | some (u, _) => eqV 3 u (.bool true) | _ => false) = true := by kernel_rfl
theorem commandKnown_any (w : World) (h : Lib.Utf8Tabs 1 2 w) : Calls Tryz.prog 4 #[] w fun e w' => e = .returned (.bool true) ∧ Below w.heap.size w w' :=
  closed_run cosK_right known_run rfl rfl (rowsU_lie h) rowsU_low
end Go.Proofs.YthemeeiedlbhkaaGreatDoor
