/-
  CommandKnown answers true, in every world in which the two tables lie. Conditions: those tables.
-/
import Derived.Test.YthemeeiedlbhkaaGreatDoorCoSK
namespace Go.Proofs.YthemeeiedlbhkaaGreatDoor
open Go.RowKit
set_option maxRecDepth 1000000
theorem known_run : (match doCall 16 Tryz.prog (ev 16 Tryz.prog cosK 3000) 4 [].toArray (startE 16 cosK.rows) with | some (u, _) => eqV 3 u (.bool true) | _ => false) = true := by kernel_rfl
end Go.Proofs.YthemeeiedlbhkaaGreatDoor
