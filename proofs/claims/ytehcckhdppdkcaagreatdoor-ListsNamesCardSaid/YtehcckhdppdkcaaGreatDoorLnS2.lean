/-
  Steps that are known, part 2: each a call, what it reaches, answers and leaves. Conditions: none.
-/
import Derived.Test.YtehcckhdppdkcaaGreatDoorLnS0
namespace Go.Proofs.YtehcckhdppdkcaaGreatDoor
set_option maxRecDepth 1000000
noncomputable def lnsT3 : Tr := ⟨41, [(.pointer (some ⟨369, 0, none⟩)), (.agg #[(vi (Int.ofNat 2)), (vi (Int.ofNat 5))])], [(369, lnsB5), (543, lnsB6), (562, lnsB7), (583, lnsB8), (599, lnsB9), (609, lnsB10), (619, lnsB11), (622, lnsB12)], 629, (.tuple #[(.agg #[(vi (Int.ofNat 2)), (vi (Int.ofNat 8))]), (vi (Int.ofNat 0))]), [(369, some lnsB13), (543, some lnsB6), (562, some lnsB7), (583, some lnsB8), (599, some lnsB9), (609, some lnsB10), (619, some lnsB11), (622, none), (754, some lnsB14), (762, some lnsB15), (770, some lnsB16), (773, some lnsB17)], 774⟩
theorem lnsT3_run : lnsT3.run 16 Tryz.prog ⟨[], rowsU, [141], []⟩ 3000 = true := by kernel_rfl
theorem lnsT3_right : lnsT3.Right 16 Tryz.prog := Tr.right_of (K := ⟨[], rowsU, [141], []⟩) (base_right) (by kernel_rfl) lnsT3_run
noncomputable def lnsT4 : Tr := ⟨40, [(.string ⟨#[40, 50, 32, 34, 97, 34, 41]⟩)], [], 833, (.tuple #[(.pointer (some ⟨834, 0, none⟩)), (.agg #[(vi (Int.ofNat 2)), (vi (Int.ofNat 2))])]), [(834, some lnsB18), (1005, some lnsB7), (1021, some lnsB14), (1031, some lnsB19), (1034, some lnsB20)], 1040⟩
theorem lnsT4_run : lnsT4.run 16 Tryz.prog ⟨[], rowsU, [141], []⟩ 3000 = true := by kernel_rfl
theorem lnsT4_right : lnsT4.Right 16 Tryz.prog := Tr.right_of (K := ⟨[], rowsU, [141], []⟩) (base_right) (by kernel_rfl) lnsT4_run
noncomputable def lnsT5 : Tr := ⟨40, [(.string ⟨#[40, 97, 32, 49, 32, 98, 32, 50, 41]⟩)], [], 1097, (.tuple #[(.pointer (some ⟨1098, 0, none⟩)), (.agg #[(vi (Int.ofNat 2)), (vi (Int.ofNat 3))])]), [(1098, some lnsB21), (1319, some lnsB22), (1329, some lnsB23), (1339, some lnsB3), (1349, some lnsB24), (1352, some lnsB25)], 1358⟩
theorem lnsT5_run : lnsT5.run 16 Tryz.prog ⟨[], rowsU, [141], []⟩ 3000 = true := by kernel_rfl
theorem lnsT5_right : lnsT5.Right 16 Tryz.prog := Tr.right_of (K := ⟨[], rowsU, [141], []⟩) (base_right) (by kernel_rfl) lnsT5_run
end Go.Proofs.YtehcckhdppdkcaaGreatDoor
