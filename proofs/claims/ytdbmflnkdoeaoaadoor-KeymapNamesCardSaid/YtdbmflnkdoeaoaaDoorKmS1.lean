/-
  Steps that are known, part 1: each a call, what it reaches, answers and leaves. Conditions: none.
-/
import Derived.Test.YtdbmflnkdoeaoaaDoorKmS0
namespace Go.Proofs.YtdbmflnkdoeaoaaDoor
set_option maxRecDepth 1000000
noncomputable def kmsT0 : Tr := ⟨22, [(.pointer (some ⟨16, 0, none⟩)), (.pointer (some ⟨18, 0, none⟩)), (.agg #[(vi (Int.ofNat 2)), (vi (Int.ofNat 0))]), (.slice (some ⟨393, 0, none⟩) 2 2)], [(16, kmsB0), (17, kmsB1), (18, kmsB2), (159, kmsB3), (172, kmsB4), (265, kmsB5), (277, kmsB6), (301, kmsB7), (356, kmsB8), (380, kmsB9), (383, kmsB10), (393, kmsB11)], 394, (.tuple #[(.agg #[(vi (Int.ofNat 1)), (vi (Int.ofNat 62))]), (vi (Int.ofNat 2))]), [(16, some kmsB0), (17, some kmsB1), (18, some kmsB2), (159, some kmsB3), (172, some kmsB4), (265, some kmsB5), (277, some kmsB6), (301, some kmsB7), (356, some kmsB8), (380, some kmsB9), (383, some kmsB10), (393, some kmsB11)], 701⟩
theorem kmsT0_run : kmsT0.run 16 Tryd.prog ⟨[], rowsU, [], []⟩ 3000 = true := by kernel_rfl
theorem kmsT0_right : kmsT0.Right 16 Tryd.prog := Tr.right_of (K := ⟨[], rowsU, [], []⟩) (base_right) (by kernel_rfl) kmsT0_run
noncomputable def kmsT1 : Tr := ⟨7, [], [], 16, (.bool true), [], 704⟩
theorem kmsT1_run : kmsT1.run 16 Tryd.prog ⟨[], rowsU, [], [kmsT0]⟩ 3000 = true := by kernel_rfl
theorem kmsT1_right : kmsT1.Right 16 Tryd.prog := Tr.right_of (K := ⟨[], rowsU, [], [kmsT0]⟩) (known_step (base_right) kmsT0_right) (by kernel_rfl) kmsT1_run
end Go.Proofs.YtdbmflnkdoeaoaaDoor
