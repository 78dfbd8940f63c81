/-
  Steps that are known, part 2: each a call, what it reaches, answers and leaves. Conditions: none.
-/
import Derived.Test.YtmlmnbcnfalaaaaDoorRxS0
namespace Go.Proofs.YtmlmnbcnfalaaaaDoor
set_option maxRecDepth 1000000
noncomputable def rxsT3 : Tr := ⟨14, [(.string ⟨#[94, 42, 92, 40, 63, 58, 91, 93, 45, 93, 92, 124, 36, 92, 41]⟩)], [], 158, (.tuple #[(.pointer (some ⟨217, 0, none⟩)), (.agg #[(vi (Int.ofNat 0)), (vi (Int.ofNat 0))])]), [(200, some rxsB7), (217, some rxsB8), (237, some rxsB9)], 238⟩
theorem rxsT3_run : rxsT3.run 16 Tryd.prog ⟨[], rowsU, [82], []⟩ 3000 = true := by kernel_rfl
theorem rxsT3_right : rxsT3.Right 16 Tryd.prog := Tr.right_of (K := ⟨[], rowsU, [82], []⟩) (base_right) (by kernel_rfl) rxsT3_run
noncomputable def rxsT4 : Tr := ⟨14, [(.string ⟨#[91, 91, 58, 100, 105, 103, 105, 116, 58, 93, 93, 92, 123, 50, 44, 51, 92, 125]⟩)], [], 239, (.tuple #[(.pointer (some ⟨299, 0, none⟩)), (.agg #[(vi (Int.ofNat 0)), (vi (Int.ofNat 0))])]), [(292, some rxsB10), (299, some rxsB11), (318, some rxsB12)], 319⟩
theorem rxsT4_run : rxsT4.run 16 Tryd.prog ⟨[], rowsU, [82], []⟩ 3000 = true := by kernel_rfl
theorem rxsT4_right : rxsT4.Right 16 Tryd.prog := Tr.right_of (K := ⟨[], rowsU, [82], []⟩) (base_right) (by kernel_rfl) rxsT4_run
end Go.Proofs.YtmlmnbcnfalaaaaDoor
