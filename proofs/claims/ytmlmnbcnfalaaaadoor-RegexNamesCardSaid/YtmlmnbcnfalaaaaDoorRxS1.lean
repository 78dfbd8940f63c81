/-
  Steps that are known, part 1: each a call, what it reaches, answers and leaves. Conditions: none.
-/
import Derived.Test.YtmlmnbcnfalaaaaDoorRxS0
namespace Go.Proofs.YtmlmnbcnfalaaaaDoor
set_option maxRecDepth 1000000
noncomputable def rxsT0 : Tr := ⟨14, [(.string ⟨#[91, 94, 97, 45, 99, 93, 43, 63]⟩)], [], 16, (.tuple #[(.pointer (some ⟨46, 0, none⟩)), (.agg #[(vi (Int.ofNat 0)), (vi (Int.ofNat 0))])]), [(38, some rxsB0), (46, some rxsB1), (56, some rxsB2)], 57⟩
theorem rxsT0_run : rxsT0.run 16 Tryd.prog ⟨[], rowsU, [82], []⟩ 3000 = true := by kernel_rfl
theorem rxsT0_right : rxsT0.Right 16 Tryd.prog := Tr.right_of (K := ⟨[], rowsU, [82], []⟩) (base_right) (by kernel_rfl) rxsT0_run
noncomputable def rxsT1 : Tr := ⟨14, [(.string ⟨#[120, 42]⟩)], [], 58, (.tuple #[(.pointer (some ⟨73, 0, none⟩)), (.agg #[(vi (Int.ofNat 0)), (vi (Int.ofNat 0))])]), [(73, some rxsB3), (86, some rxsB4)], 87⟩
theorem rxsT1_run : rxsT1.run 16 Tryd.prog ⟨[], rowsU, [82], []⟩ 3000 = true := by kernel_rfl
theorem rxsT1_right : rxsT1.Right 16 Tryd.prog := Tr.right_of (K := ⟨[], rowsU, [82], []⟩) (base_right) (by kernel_rfl) rxsT1_run
noncomputable def rxsT2 : Tr := ⟨14, [(.string ⟨#[92, 40, 97, 42, 92, 41, 42, 98]⟩)], [], 88, (.tuple #[(.pointer (some ⟨125, 0, none⟩)), (.agg #[(vi (Int.ofNat 0)), (vi (Int.ofNat 0))])]), [(125, some rxsB5), (156, some rxsB6)], 157⟩
theorem rxsT2_run : rxsT2.run 16 Tryd.prog ⟨[], rowsU, [82], []⟩ 3000 = true := by kernel_rfl
theorem rxsT2_right : rxsT2.Right 16 Tryd.prog := Tr.right_of (K := ⟨[], rowsU, [82], []⟩) (base_right) (by kernel_rfl) rxsT2_run
end Go.Proofs.YtmlmnbcnfalaaaaDoor
