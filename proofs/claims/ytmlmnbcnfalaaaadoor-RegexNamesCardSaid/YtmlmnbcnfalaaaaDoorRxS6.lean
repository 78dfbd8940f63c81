/-
  Steps that are known, part 6: each a call, what it reaches, answers and leaves. Conditions: none.
-/
import Derived.Test.YtmlmnbcnfalaaaaDoorRxS0
namespace Go.Proofs.YtmlmnbcnfalaaaaDoor
set_option maxRecDepth 1000000
noncomputable def rxsT11 : Tr := ⟨27, [(.pointer (some ⟨217, 0, none⟩)), (.string ⟨#[97, 10, 42, 93]⟩), (vi (Int.ofNat 0)), (.bool false)], [(200, rxsB7), (217, rxsB8), (237, rxsB9)], 782, (.tuple #[(.slice (some ⟨823, 0, some 2⟩) 1 1), (.bool true)]), [(200, some rxsB7), (217, some rxsB8), (237, some rxsB9), (823, some rxsB18)], 824⟩
theorem rxsT11_run : rxsT11.run 16 Tryd.prog ⟨[], rowsU, [82], []⟩ 3000 = true := by kernel_rfl
theorem rxsT11_right : rxsT11.Right 16 Tryd.prog := Tr.right_of (K := ⟨[], rowsU, [82], []⟩) (base_right) (by kernel_rfl) rxsT11_run
noncomputable def rxsT12 : Tr := ⟨28, [(.pointer (some ⟨299, 0, none⟩)), (.string ⟨#[49, 50, 51, 52, 53]⟩), (vi (Int.ofNat 4)), (.bool false)], [(292, rxsB10), (299, rxsB11), (318, rxsB12)], 824, (.tuple #[(.slice (some ⟨873, 0, some 2⟩) 1 1), (.bool true)]), [(292, some rxsB10), (299, some rxsB11), (318, some rxsB12), (873, some rxsB18)], 874⟩
theorem rxsT12_run : rxsT12.run 16 Tryd.prog ⟨[], rowsU, [82], []⟩ 3000 = true := by kernel_rfl
theorem rxsT12_right : rxsT12.Right 16 Tryd.prog := Tr.right_of (K := ⟨[], rowsU, [82], []⟩) (base_right) (by kernel_rfl) rxsT12_run
noncomputable def rxsT13 : Tr := ⟨33, [(.string ⟨#[60, 92, 38, 44, 92, 49, 62, 92, 92]⟩), (.string ⟨#[120, 97, 98, 98, 99]⟩), (.slice (some ⟨874, 0, none⟩) 2 2)], [(874, rxsB19)], 875, (.tuple #[(.string ⟨#[60, 97, 98, 98, 99, 44, 98, 98, 62, 92]⟩), (vi (Int.ofNat 0))]), [(874, some rxsB19)], 939⟩
theorem rxsT13_run : rxsT13.run 16 Tryd.prog ⟨[], rowsU, [82], []⟩ 3000 = true := by kernel_rfl
theorem rxsT13_right : rxsT13.Right 16 Tryd.prog := Tr.right_of (K := ⟨[], rowsU, [82], []⟩) (base_right) (by kernel_rfl) rxsT13_run
noncomputable def rxsT14 : Tr := ⟨33, [(.string ⟨#[92, 120]⟩), (.string ⟨#[]⟩), (.slice none 0 0)], [], 939, (.tuple #[(.string ⟨#[]⟩), (vi (Int.ofNat 5))]), [], 949⟩
theorem rxsT14_run : rxsT14.run 16 Tryd.prog ⟨[], rowsU, [82], []⟩ 3000 = true := by kernel_rfl
theorem rxsT14_right : rxsT14.Right 16 Tryd.prog := Tr.right_of (K := ⟨[], rowsU, [82], []⟩) (base_right) (by kernel_rfl) rxsT14_run
noncomputable def rxsT15 : Tr := ⟨30, [(.string ⟨#[97, 46, 98, 42]⟩)], [], 949, (.tuple #[(.string ⟨#[97, 92, 46, 98, 92, 42]⟩), (vi (Int.ofNat 0))]), [], 962⟩
theorem rxsT15_run : rxsT15.run 16 Tryd.prog ⟨[], rowsU, [82], []⟩ 3000 = true := by kernel_rfl
theorem rxsT15_right : rxsT15.Right 16 Tryd.prog := Tr.right_of (K := ⟨[], rowsU, [82], []⟩) (base_right) (by kernel_rfl) rxsT15_run
noncomputable def rxsT16 : Tr := ⟨14, [(.string ⟨#[97, 92]⟩)], [], 964, (.tuple #[(.pointer none), (.agg #[(vi (Int.ofNat 13)), (vi (Int.ofNat 1))])]), [], 974⟩
theorem rxsT16_run : rxsT16.run 16 Tryd.prog ⟨[], rowsU, [82], []⟩ 3000 = true := by kernel_rfl
theorem rxsT16_right : rxsT16.Right 16 Tryd.prog := Tr.right_of (K := ⟨[], rowsU, [82], []⟩) (base_right) (by kernel_rfl) rxsT16_run
noncomputable def rxsT17 : Tr := ⟨14, [(.string ⟨#[92, 40, 97]⟩)], [], 975, (.tuple #[(.pointer none), (.agg #[(vi (Int.ofNat 13)), (vi (Int.ofNat 0))])]), [], 989⟩
theorem rxsT17_run : rxsT17.run 16 Tryd.prog ⟨[], rowsU, [82], []⟩ 3000 = true := by kernel_rfl
theorem rxsT17_right : rxsT17.Right 16 Tryd.prog := Tr.right_of (K := ⟨[], rowsU, [82], []⟩) (base_right) (by kernel_rfl) rxsT17_run
noncomputable def rxsT18 : Tr := ⟨14, [(.string ⟨#[91, 97]⟩)], [], 990, (.tuple #[(.pointer none), (.agg #[(vi (Int.ofNat 13)), (vi (Int.ofNat 0))])]), [], 1001⟩
theorem rxsT18_run : rxsT18.run 16 Tryd.prog ⟨[], rowsU, [82], []⟩ 3000 = true := by kernel_rfl
theorem rxsT18_right : rxsT18.Right 16 Tryd.prog := Tr.right_of (K := ⟨[], rowsU, [82], []⟩) (base_right) (by kernel_rfl) rxsT18_run
end Go.Proofs.YtmlmnbcnfalaaaaDoor
