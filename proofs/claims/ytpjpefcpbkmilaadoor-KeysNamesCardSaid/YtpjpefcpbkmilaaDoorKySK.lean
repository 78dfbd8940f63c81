/-
  The steps that the law's own run takes as known. Conditions: none.
-/
import Derived.Test.YtpjpefcpbkmilaaDoorKyS1
import Derived.Test.YtpjpefcpbkmilaaDoorKyS2
namespace Go.Proofs.YtpjpefcpbkmilaaDoor
noncomputable def kysK : Kn := ⟨[], rowsU, [77], [kysT6, kysT4, kysT3, kysT2, kysT1, kysT0]⟩
theorem kysK_right : kysK.Right 16 Tryd.prog := known_step (known_step (known_step (known_step (known_step (known_step (base_right) kysT0_right) kysT1_right) kysT2_right) kysT3_right) kysT4_right) kysT6_right
end Go.Proofs.YtpjpefcpbkmilaaDoor
