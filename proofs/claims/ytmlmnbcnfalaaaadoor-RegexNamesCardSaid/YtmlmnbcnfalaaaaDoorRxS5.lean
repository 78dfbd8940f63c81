/-
  Steps that are known, part 5: each a call, what it reaches, answers and leaves. Conditions: none.
-/
import Derived.Test.YtmlmnbcnfalaaaaDoorRxS0
namespace Go.Proofs.YtmlmnbcnfalaaaaDoor
set_option maxRecDepth 1000000
noncomputable def rxsT7 : Tr := ⟨27, [(.pointer (some ⟨46, 0, none⟩)), (.string ⟨#[97, 98, 99, 100, 101]⟩), (vi (Int.ofNat 0)), (.bool false)], [(38, rxsB0), (46, rxsB1), (56, rxsB2)], 601, (.tuple #[(.slice (some ⟨657, 0, some 2⟩) 1 1), (.bool true)]), [(38, some rxsB0), (46, some rxsB1), (56, some rxsB2), (657, some rxsB15)], 658⟩
theorem rxsT7_run : rxsT7.run 16 Tryd.prog ⟨[], rowsU, [82], []⟩ 3000 = true := by kernel_rfl
theorem rxsT7_right : rxsT7.Right 16 Tryd.prog := Tr.right_of (K := ⟨[], rowsU, [82], []⟩) (base_right) (by kernel_rfl) rxsT7_run
noncomputable def rxsT8 : Tr := ⟨16, [(.pointer (some ⟨73, 0, none⟩)), (.string ⟨#[97, 97, 97]⟩), (vi (Int.ofNat 1)), (.bool false)], [(73, rxsB3), (86, rxsB4)], 658, (.tuple #[(.slice (some ⟨683, 0, some 2⟩) 1 1), (.bool true)]), [(73, some rxsB3), (86, some rxsB4), (683, some rxsB16)], 684⟩
theorem rxsT8_run : rxsT8.run 16 Tryd.prog ⟨[], rowsU, [82], []⟩ 3000 = true := by kernel_rfl
theorem rxsT8_right : rxsT8.Right 16 Tryd.prog := Tr.right_of (K := ⟨[], rowsU, [82], []⟩) (base_right) (by kernel_rfl) rxsT8_run
noncomputable def rxsT9 : Tr := ⟨16, [(.pointer (some ⟨125, 0, none⟩)), (.string ⟨#[97, 97, 98]⟩), (vi (Int.ofNat 0)), (.bool false)], [(125, rxsB5), (156, rxsB6)], 684, (.tuple #[(.slice (some ⟨730, 0, some 2⟩) 2 2), (.bool true)]), [(125, some rxsB5), (156, some rxsB6), (730, some rxsB17)], 731⟩
theorem rxsT9_run : rxsT9.run 16 Tryd.prog ⟨[], rowsU, [82], []⟩ 3000 = true := by kernel_rfl
theorem rxsT9_right : rxsT9.Right 16 Tryd.prog := Tr.right_of (K := ⟨[], rowsU, [82], []⟩) (base_right) (by kernel_rfl) rxsT9_run
noncomputable def rxsT10 : Tr := ⟨16, [(.pointer (some ⟨125, 0, none⟩)), (.string ⟨#[97, 97, 99]⟩), (vi (Int.ofNat 0)), (.bool false)], [(125, rxsB5), (156, rxsB6)], 731, (.tuple #[(.slice none 0 0), (.bool false)]), [(125, some rxsB5), (156, some rxsB6)], 782⟩
theorem rxsT10_run : rxsT10.run 16 Tryd.prog ⟨[], rowsU, [82], []⟩ 3000 = true := by kernel_rfl
theorem rxsT10_right : rxsT10.Right 16 Tryd.prog := Tr.right_of (K := ⟨[], rowsU, [82], []⟩) (base_right) (by kernel_rfl) rxsT10_run
end Go.Proofs.YtmlmnbcnfalaaaaDoor
