/-
  The steps that the law's own run takes as known. Conditions: none.
-/
import Derived.Test.YtehcckhdppdkcaaGreatDoorLsS1
namespace Go.Proofs.YtehcckhdppdkcaaGreatDoor
noncomputable def lssK : Kn := ⟨[], rowsU, [141], [lssT0]⟩
theorem lssK_right : lssK.Right 16 Tryz.prog := known_step (base_right) lssT0_right
end Go.Proofs.YtehcckhdppdkcaaGreatDoor
