/-
  Steps that are known, part 2: each a call, what it reaches, answers and leaves. Conditions: none.
-/
import Derived.Test.YtdbmflnkdoeaoaaDoorKmS0
namespace Go.Proofs.YtdbmflnkdoeaoaaDoor
set_option maxRecDepth 1000000
noncomputable def kmsT2 : Tr := ⟨8, [], [], 704, (.tuple #[(.pointer (some ⟨704, 0, none⟩)), (.pointer (some ⟨706, 0, none⟩))]), [(704, some kmsB12), (705, some kmsB1), (706, some kmsB13), (847, some kmsB3)], 848⟩
theorem kmsT2_run : kmsT2.run 16 Tryd.prog ⟨[], rowsU, [], []⟩ 3000 = true := by kernel_rfl
theorem kmsT2_right : kmsT2.Right 16 Tryd.prog := Tr.right_of (K := ⟨[], rowsU, [], []⟩) (base_right) (by kernel_rfl) kmsT2_run
noncomputable def kmsT3 : Tr := ⟨9, [(.pointer (some ⟨704, 0, none⟩)), (.pointer (some ⟨706, 0, none⟩))], [(704, kmsB12), (705, kmsB1), (706, kmsB13), (847, kmsB3)], 848, (.tuple #[(.agg #[(vi (Int.ofNat 2)), (vi (Int.ofNat 0))]), (vi (Int.ofNat 0))]), [(704, some kmsB14), (705, some kmsB1), (706, some kmsB13), (847, some kmsB3), (860, some kmsB15), (863, some kmsB16)], 864⟩
theorem kmsT3_run : kmsT3.run 16 Tryd.prog ⟨[], rowsU, [], []⟩ 3000 = true := by kernel_rfl
theorem kmsT3_right : kmsT3.Right 16 Tryd.prog := Tr.right_of (K := ⟨[], rowsU, [], []⟩) (base_right) (by kernel_rfl) kmsT3_run
noncomputable def kmsT4 : Tr := ⟨12, [(.pointer (some ⟨704, 0, none⟩)), (.pointer (some ⟨706, 0, none⟩)), (.agg #[(vi (Int.ofNat 2)), (vi (Int.ofNat 0))]), (.slice (some ⟨869, 0, none⟩) 2 2), (.agg #[(vi (Int.ofNat 1)), (vi (Int.ofNat 62))])], [(704, kmsB14), (705, kmsB1), (706, kmsB13), (847, kmsB3), (860, kmsB15), (863, kmsB16), (869, kmsB11)], 872, (vi (Int.ofNat 0)), [(704, some kmsB17), (705, some kmsB1), (706, some kmsB13), (847, some kmsB3), (860, some kmsB4), (863, none), (869, some kmsB11), (953, some kmsB5), (965, some kmsB6), (989, some kmsB7), (1044, some kmsB8), (1068, some kmsB9), (1071, some kmsB18)], 1077⟩
theorem kmsT4_run : kmsT4.run 16 Tryd.prog ⟨[], rowsU, [], []⟩ 3000 = true := by kernel_rfl
theorem kmsT4_right : kmsT4.Right 16 Tryd.prog := Tr.right_of (K := ⟨[], rowsU, [], []⟩) (base_right) (by kernel_rfl) kmsT4_run
noncomputable def kmsT5 : Tr := ⟨22, [(.pointer (some ⟨704, 0, none⟩)), (.pointer (some ⟨706, 0, none⟩)), (.agg #[(vi (Int.ofNat 2)), (vi (Int.ofNat 0))]), (.slice (some ⟨1079, 0, none⟩) 1 1)], [(704, kmsB17), (705, kmsB1), (706, kmsB13), (847, kmsB3), (860, kmsB4), (953, kmsB5), (965, kmsB6), (989, kmsB7), (1044, kmsB8), (1068, kmsB9), (1071, kmsB18), (1079, kmsB19)], 1080, (.tuple #[(.agg #[(vi (Int.ofNat 2)), (vi (Int.ofNat 1))]), (vi (Int.ofNat 1))]), [(704, some kmsB17), (705, some kmsB1), (706, some kmsB13), (847, some kmsB3), (860, some kmsB4), (953, some kmsB5), (965, some kmsB6), (989, some kmsB7), (1044, some kmsB8), (1068, some kmsB9), (1071, some kmsB18), (1079, some kmsB19)], 1250⟩
theorem kmsT5_run : kmsT5.run 16 Tryd.prog ⟨[], rowsU, [], []⟩ 3000 = true := by kernel_rfl
theorem kmsT5_right : kmsT5.Right 16 Tryd.prog := Tr.right_of (K := ⟨[], rowsU, [], []⟩) (base_right) (by kernel_rfl) kmsT5_run
end Go.Proofs.YtdbmflnkdoeaoaaDoor
