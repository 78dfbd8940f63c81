/-
  The steps that the law's own run takes as known. Conditions: none.
-/
import Derived.Test.YtdbmflnkdoeaoaaDoorKmS1
import Derived.Test.YtdbmflnkdoeaoaaDoorKmS2
import Derived.Test.YtdbmflnkdoeaoaaDoorKmS3
import Derived.Test.YtdbmflnkdoeaoaaDoorKmS4
import Derived.Test.YtdbmflnkdoeaoaaDoorKmS5
import Derived.Test.YtdbmflnkdoeaoaaDoorKmS6
import Derived.Test.YtdbmflnkdoeaoaaDoorKmS7
import Derived.Test.YtdbmflnkdoeaoaaDoorKmS8
import Derived.Test.YtdbmflnkdoeaoaaDoorKmS9
namespace Go.Proofs.YtdbmflnkdoeaoaaDoor
noncomputable def kmsK : Kn := ⟨[], rowsU, [], [kmsT24, kmsT23, kmsT16, kmsT15, kmsT14, kmsT13, kmsT12, kmsT11, kmsT9, kmsT8, kmsT7, kmsT6, kmsT5, kmsT4, kmsT3, kmsT2, kmsT1]⟩
theorem kmsK_right : kmsK.Right 16 Tryd.prog := known_step (known_step (known_step (known_step (known_step (known_step (known_step (known_step (known_step (known_step (known_step (known_step (known_step (known_step (known_step (known_step (known_step (base_right) kmsT1_right) kmsT2_right) kmsT3_right) kmsT4_right) kmsT5_right) kmsT6_right) kmsT7_right) kmsT8_right) kmsT9_right) kmsT11_right) kmsT12_right) kmsT13_right) kmsT14_right) kmsT15_right) kmsT16_right) kmsT23_right) kmsT24_right
end Go.Proofs.YtdbmflnkdoeaoaaDoor
