/-
  The steps that the law's own run takes as known. Conditions: none.
-/
import Derived.Test.YtehcckhdppdkcaaGreatDoorLnS1
import Derived.Test.YtehcckhdppdkcaaGreatDoorLnS2
import Derived.Test.YtehcckhdppdkcaaGreatDoorLnS3
namespace Go.Proofs.YtehcckhdppdkcaaGreatDoor
noncomputable def lnsK : Kn := ⟨[], rowsU, [141], [lnsT8, lnsT7, lnsT6, lnsT5, lnsT4, lnsT3, lnsT2, lnsT1, lnsT0]⟩
theorem lnsK_right : lnsK.Right 16 Tryz.prog := known_step (known_step (known_step (known_step (known_step (known_step (known_step (known_step (known_step (base_right) lnsT0_right) lnsT1_right) lnsT2_right) lnsT3_right) lnsT4_right) lnsT5_right) lnsT6_right) lnsT7_right) lnsT8_right
end Go.Proofs.YtehcckhdppdkcaaGreatDoor
