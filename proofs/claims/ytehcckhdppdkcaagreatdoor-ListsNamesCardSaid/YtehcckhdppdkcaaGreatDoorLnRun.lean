/-
  ListsNames answers true, in every world in which the two tables lie. Conditions: those tables.
-/
import Derived.Test.YtehcckhdppdkcaaGreatDoorLnSK
import Derived.Test.YtehcckhdppdkcaaGreatDoorNh
namespace Go.Proofs.YtehcckhdppdkcaaGreatDoor
open Go.RowKit
set_option maxRecDepth 1000000
noncomputable def lnsKK : Kn := ⟨lnK.calls, rowsU, [141], lnsK.trans⟩
theorem lnsKK_right : lnsKK.Right 16 Tryz.prog := ⟨lnK_right.1, base_right.2.1, lnsK_right.2.2⟩
theorem names_run : (match doCall 16 Tryz.prog (ev 16 Tryz.prog lnsKK 3000) 7 [].toArray (startE 16 lnsKK.rows) with | some (u, _) => eqV 3 u (.bool true) | _ => false) = true := by kernel_rfl
theorem names_any (w : World) (h : Tabs w) : Calls Tryz.prog 7 #[] w fun e w' => e = .returned (.bool true) ∧ Below w.heap.size w w' :=
  closed_run lnsKK_right names_run rfl rfl (rowsU_lie h) rowsU_low
end Go.Proofs.YtehcckhdppdkcaaGreatDoor
