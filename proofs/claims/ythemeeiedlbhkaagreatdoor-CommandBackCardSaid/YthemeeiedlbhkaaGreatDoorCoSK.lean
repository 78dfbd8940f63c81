/-
  The steps that the law's own run takes as known. Conditions: none.
-/
import Derived.Test.YthemeeiedlbhkaaGreatDoorCoS1
import Derived.Test.YthemeeiedlbhkaaGreatDoorCoS2
import Derived.Test.YthemeeiedlbhkaaGreatDoorCoS3
namespace Go.Proofs.YthemeeiedlbhkaaGreatDoor
noncomputable def cosK : Kn := ⟨[], rowsU, [154], [cosT6, cosT5, cosT3]⟩
theorem cosK_right : cosK.Right 16 Tryz.prog := known_step (known_step (known_step (base_right) cosT3_right) cosT5_right) cosT6_right
end Go.Proofs.YthemeeiedlbhkaaGreatDoor
