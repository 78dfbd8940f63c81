/-
  Steps that are known, part 7: each a call, what it reaches, answers and leaves. Conditions: none.
-/
import Derived.Test.YtmlmnbcnfalaaaaDoorRxS0
namespace Go.Proofs.YtmlmnbcnfalaaaaDoor
set_option maxRecDepth 1000000
noncomputable def rxsT19 : Tr := ⟨14, [(.string ⟨#[92, 41]⟩)], [], 1002, (.tuple #[(.pointer none), (.agg #[(vi (Int.ofNat 5)), (vi (Int.ofNat 0))])]), [], 1012⟩
theorem rxsT19_run : rxsT19.run 16 Tryd.prog ⟨[], rowsU, [82], []⟩ 3000 = true := by kernel_rfl
theorem rxsT19_right : rxsT19.Right 16 Tryd.prog := Tr.right_of (K := ⟨[], rowsU, [82], []⟩) (base_right) (by kernel_rfl) rxsT19_run
noncomputable def rxsT20 : Tr := ⟨14, [(.string ⟨#[97, 92, 124, 92, 123, 49, 92, 125]⟩)], [], 1013, (.tuple #[(.pointer none), (.agg #[(vi (Int.ofNat 5)), (vi (Int.ofNat 3))])]), [], 1037⟩
theorem rxsT20_run : rxsT20.run 16 Tryd.prog ⟨[], rowsU, [82], []⟩ 3000 = true := by kernel_rfl
theorem rxsT20_right : rxsT20.Right 16 Tryd.prog := Tr.right_of (K := ⟨[], rowsU, [82], []⟩) (base_right) (by kernel_rfl) rxsT20_run
noncomputable def rxsT21 : Tr := ⟨14, [(.string ⟨#[97, 92, 123, 49, 48, 49, 92, 125]⟩)], [], 1038, (.tuple #[(.pointer none), (.agg #[(vi (Int.ofNat 3)), (vi (Int.ofNat 1))])]), [], 1058⟩
theorem rxsT21_run : rxsT21.run 16 Tryd.prog ⟨[], rowsU, [82], []⟩ 3000 = true := by kernel_rfl
theorem rxsT21_right : rxsT21.Right 16 Tryd.prog := Tr.right_of (K := ⟨[], rowsU, [82], []⟩) (base_right) (by kernel_rfl) rxsT21_run
noncomputable def rxsT22 : Tr := ⟨14, [(.string ⟨#[97, 92, 123, 51, 44, 50, 92, 125]⟩)], [], 1059, (.tuple #[(.pointer none), (.agg #[(vi (Int.ofNat 3)), (vi (Int.ofNat 1))])]), [], 1079⟩
theorem rxsT22_run : rxsT22.run 16 Tryd.prog ⟨[], rowsU, [82], []⟩ 3000 = true := by kernel_rfl
theorem rxsT22_right : rxsT22.Right 16 Tryd.prog := Tr.right_of (K := ⟨[], rowsU, [82], []⟩) (base_right) (by kernel_rfl) rxsT22_run
noncomputable def rxsT23 : Tr := ⟨14, [(.string ⟨#[92, 49]⟩)], [], 1080, (.tuple #[(.pointer none), (.agg #[(vi (Int.ofNat 5)), (vi (Int.ofNat 0))])]), [], 1088⟩
theorem rxsT23_run : rxsT23.run 16 Tryd.prog ⟨[], rowsU, [82], []⟩ 3000 = true := by kernel_rfl
theorem rxsT23_right : rxsT23.Right 16 Tryd.prog := Tr.right_of (K := ⟨[], rowsU, [82], []⟩) (base_right) (by kernel_rfl) rxsT23_run
noncomputable def rxsT24 : Tr := ⟨14, [(.string ⟨#[97, 92, 123, 120, 92, 125]⟩)], [], 1089, (.tuple #[(.pointer none), (.agg #[(vi (Int.ofNat 5)), (vi (Int.ofNat 1))])]), [], 1105⟩
theorem rxsT24_run : rxsT24.run 16 Tryd.prog ⟨[], rowsU, [82], []⟩ 3000 = true := by kernel_rfl
theorem rxsT24_right : rxsT24.Right 16 Tryd.prog := Tr.right_of (K := ⟨[], rowsU, [82], []⟩) (base_right) (by kernel_rfl) rxsT24_run
noncomputable def rxsT25 : Tr := ⟨14, [(.string ⟨#[98, 91, 91, 58, 110, 111, 58, 93, 93]⟩)], [], 1106, (.tuple #[(.pointer none), (.agg #[(vi (Int.ofNat 5)), (vi (Int.ofNat 1))])]), [], 1136⟩
theorem rxsT25_run : rxsT25.run 16 Tryd.prog ⟨[], rowsU, [82], []⟩ 3000 = true := by kernel_rfl
theorem rxsT25_right : rxsT25.Right 16 Tryd.prog := Tr.right_of (K := ⟨[], rowsU, [82], []⟩) (base_right) (by kernel_rfl) rxsT25_run
noncomputable def rxsT26 : Tr := ⟨14, [(.string ⟨#[92, 115]⟩)], [], 1137, (.tuple #[(.pointer none), (.agg #[(vi (Int.ofNat 13)), (vi (Int.ofNat 0))])]), [], 1145⟩
theorem rxsT26_run : rxsT26.run 16 Tryd.prog ⟨[], rowsU, [82], []⟩ 3000 = true := by kernel_rfl
theorem rxsT26_right : rxsT26.Right 16 Tryd.prog := Tr.right_of (K := ⟨[], rowsU, [82], []⟩) (base_right) (by kernel_rfl) rxsT26_run
noncomputable def rxsT27 : Tr := ⟨14, [(.string ⟨#[92, 115, 120]⟩)], [], 1146, (.tuple #[(.pointer none), (.agg #[(vi (Int.ofNat 5)), (vi (Int.ofNat 0))])]), [], 1156⟩
theorem rxsT27_run : rxsT27.run 16 Tryd.prog ⟨[], rowsU, [82], []⟩ 3000 = true := by kernel_rfl
theorem rxsT27_right : rxsT27.Right 16 Tryd.prog := Tr.right_of (K := ⟨[], rowsU, [82], []⟩) (base_right) (by kernel_rfl) rxsT27_run
end Go.Proofs.YtmlmnbcnfalaaaaDoor
