/-
  lives() of the lists laws answers true, in every second memory in which the two tables lie. Conditions: those tables.
-/
import Derived.Test.YtehcckhdppdkcaaGreatDoorLsSK
namespace Go.Proofs.YtehcckhdppdkcaaGreatDoor
open Go.RowKit
set_option maxRecDepth 1000000
theorem lives_run : (match doCall 16 Tryz.prog (ev 16 Tryz.prog lssK 3000) 8 [].toArray (startE 16 lssK.rows) with | some (u, _) => eqV 3 u (.bool true) | _ => false) = true := by kernel_rfl
theorem s_lives {G : Nat} (h16 : 16 ≤ G) (σ : Mem) (hR : RowsAt rowsU σ) : SCall G Tryz.prog 8 #[] σ (.bool true) σ :=
  closed_scall lssK_right lives_run rfl rfl rowsU_low (fun g cs hm => Nat.lt_of_lt_of_le (rowsU_low g cs hm) h16) rowsU_flat σ hR
end Go.Proofs.YtehcckhdppdkcaaGreatDoor
