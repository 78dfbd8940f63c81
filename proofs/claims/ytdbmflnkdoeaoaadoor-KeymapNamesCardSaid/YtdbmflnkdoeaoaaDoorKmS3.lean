/-
  Steps that are known, part 3: each a call, what it reaches, answers and leaves. Conditions: none.
-/
import Derived.Test.YtdbmflnkdoeaoaaDoorKmS0
namespace Go.Proofs.YtdbmflnkdoeaoaaDoor
set_option maxRecDepth 1000000
noncomputable def kmsT6 : Tr := ⟨22, [(.pointer (some ⟨704, 0, none⟩)), (.pointer (some ⟨706, 0, none⟩)), (.agg #[(vi (Int.ofNat 2)), (vi (Int.ofNat 0))]), (.slice (some ⟨1255, 0, none⟩) 2 2)], [(704, kmsB17), (705, kmsB1), (706, kmsB13), (847, kmsB3), (860, kmsB4), (953, kmsB5), (965, kmsB6), (989, kmsB7), (1044, kmsB8), (1068, kmsB9), (1071, kmsB18), (1255, kmsB20)], 1256, (.tuple #[(.agg #[(vi (Int.ofNat 1)), (vi (Int.ofNat 0))]), (vi (Int.ofNat 2))]), [(704, some kmsB17), (705, some kmsB1), (706, some kmsB13), (847, some kmsB3), (860, some kmsB4), (953, some kmsB5), (965, some kmsB6), (989, some kmsB7), (1044, some kmsB8), (1068, some kmsB9), (1071, some kmsB18), (1255, some kmsB20)], 1570⟩
theorem kmsT6_run : kmsT6.run 16 Tryd.prog ⟨[], rowsU, [], []⟩ 3000 = true := by kernel_rfl
theorem kmsT6_right : kmsT6.Right 16 Tryd.prog := Tr.right_of (K := ⟨[], rowsU, [], []⟩) (base_right) (by kernel_rfl) kmsT6_run
noncomputable def kmsT7 : Tr := ⟨12, [(.pointer (some ⟨704, 0, none⟩)), (.pointer (some ⟨706, 0, none⟩)), (.agg #[(vi (Int.ofNat 2)), (vi (Int.ofNat 0))]), (.slice (some ⟨1573, 0, none⟩) 1 1), (.agg #[(vi (Int.ofNat 1)), (vi (Int.ofNat 63))])], [(704, kmsB17), (705, kmsB1), (706, kmsB13), (847, kmsB3), (860, kmsB4), (953, kmsB5), (965, kmsB6), (989, kmsB7), (1044, kmsB8), (1068, kmsB9), (1071, kmsB18), (1573, kmsB21)], 1576, (vi (Int.ofNat 0)), [(704, some kmsB22), (705, some kmsB1), (706, some kmsB13), (847, some kmsB3), (860, some kmsB23), (953, some kmsB5), (965, some kmsB6), (989, some kmsB7), (1044, some kmsB8), (1068, some kmsB9), (1071, none), (1573, some kmsB21), (1732, some kmsB24), (1756, some kmsB25), (1759, some kmsB26)], 1765⟩
theorem kmsT7_run : kmsT7.run 16 Tryd.prog ⟨[], rowsU, [], []⟩ 3000 = true := by kernel_rfl
theorem kmsT7_right : kmsT7.Right 16 Tryd.prog := Tr.right_of (K := ⟨[], rowsU, [], []⟩) (base_right) (by kernel_rfl) kmsT7_run
noncomputable def kmsT8 : Tr := ⟨12, [(.pointer (some ⟨704, 0, none⟩)), (.pointer (some ⟨706, 0, none⟩)), (.agg #[(vi (Int.ofNat 2)), (vi (Int.ofNat 0))]), (.slice (some ⟨1769, 0, none⟩) 2 2), (.agg #[(vi (Int.ofNat 1)), (vi (Int.ofNat 64))])], [(704, kmsB22), (705, kmsB1), (706, kmsB13), (847, kmsB3), (860, kmsB23), (953, kmsB5), (965, kmsB6), (989, kmsB7), (1044, kmsB8), (1068, kmsB9), (1732, kmsB24), (1756, kmsB25), (1759, kmsB26), (1769, kmsB27)], 1772, (vi (Int.ofNat 9)), [(704, some kmsB22), (705, some kmsB1), (706, some kmsB13), (847, some kmsB3), (860, some kmsB23), (953, some kmsB5), (965, some kmsB6), (989, some kmsB7), (1044, some kmsB8), (1068, some kmsB9), (1732, some kmsB24), (1756, some kmsB25), (1759, some kmsB26), (1769, some kmsB27)], 1938⟩
theorem kmsT8_run : kmsT8.run 16 Tryd.prog ⟨[], rowsU, [], []⟩ 3000 = true := by kernel_rfl
theorem kmsT8_right : kmsT8.Right 16 Tryd.prog := Tr.right_of (K := ⟨[], rowsU, [], []⟩) (base_right) (by kernel_rfl) kmsT8_run
end Go.Proofs.YtdbmflnkdoeaoaaDoor
