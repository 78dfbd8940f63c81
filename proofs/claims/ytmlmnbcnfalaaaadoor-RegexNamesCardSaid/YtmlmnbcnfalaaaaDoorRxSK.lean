/-
  The steps that the law's own run takes as known. Conditions: none.
-/
import Derived.Test.YtmlmnbcnfalaaaaDoorRxS1
import Derived.Test.YtmlmnbcnfalaaaaDoorRxS2
import Derived.Test.YtmlmnbcnfalaaaaDoorRxS3
import Derived.Test.YtmlmnbcnfalaaaaDoorRxS4
import Derived.Test.YtmlmnbcnfalaaaaDoorRxS5
import Derived.Test.YtmlmnbcnfalaaaaDoorRxS6
import Derived.Test.YtmlmnbcnfalaaaaDoorRxS7
import Derived.Test.YtmlmnbcnfalaaaaDoorRxS8
namespace Go.Proofs.YtmlmnbcnfalaaaaDoor
noncomputable def rxsK : Kn := ⟨[], rowsU, [82], [rxsT29, rxsT28, rxsT27, rxsT26, rxsT25, rxsT24, rxsT23, rxsT22, rxsT21, rxsT20, rxsT19, rxsT18, rxsT17, rxsT16, rxsT15, rxsT14, rxsT13, rxsT12, rxsT11, rxsT10, rxsT9, rxsT8, rxsT7, rxsT6, rxsT4, rxsT3, rxsT2, rxsT1, rxsT0]⟩
theorem rxsK_right : rxsK.Right 16 Tryd.prog := known_step (known_step (known_step (known_step (known_step (known_step (known_step (known_step (known_step (known_step (known_step (known_step (known_step (known_step (known_step (known_step (known_step (known_step (known_step (known_step (known_step (known_step (known_step (known_step (known_step (known_step (known_step (known_step (known_step (base_right) rxsT0_right) rxsT1_right) rxsT2_right) rxsT3_right) rxsT4_right) rxsT6_right) rxsT7_right) rxsT8_right) rxsT9_right) rxsT10_right) rxsT11_right) rxsT12_right) rxsT13_right) rxsT14_right) rxsT15_right) rxsT16_right) rxsT17_right) rxsT18_right) rxsT19_right) rxsT20_right) rxsT21_right) rxsT22_right) rxsT23_right) rxsT24_right) rxsT25_right) rxsT26_right) rxsT27_right) rxsT28_right) rxsT29_right
end Go.Proofs.YtmlmnbcnfalaaaaDoor
