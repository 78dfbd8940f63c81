/-
  Steps that are known, part 4: each a call, what it reaches, answers and leaves. Conditions: none.
-/
import Derived.Test.YtmlmnbcnfalaaaaDoorRxS3
namespace Go.Proofs.YtmlmnbcnfalaaaaDoor
set_option maxRecDepth 1000000
noncomputable def rxsT6 : Tr := ⟨11, [], [], 320, (.bool true), [], 601⟩
theorem rxsT6_run : rxsT6.run 16 Tryd.prog ⟨[], rowsU, [82], [rxsT5]⟩ 3000 = true := by kernel_rfl
theorem rxsT6_right : rxsT6.Right 16 Tryd.prog := Tr.right_of (K := ⟨[], rowsU, [82], [rxsT5]⟩) (known_step (base_right) rxsT5_right) (by kernel_rfl) rxsT6_run
end Go.Proofs.YtmlmnbcnfalaaaaDoor
