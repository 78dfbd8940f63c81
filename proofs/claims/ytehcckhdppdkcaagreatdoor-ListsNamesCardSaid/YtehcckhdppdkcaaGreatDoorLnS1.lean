/-
  Steps that are known, part 1: each a call, what it reaches, answers and leaves. Conditions: none.
-/
import Derived.Test.YtehcckhdppdkcaaGreatDoorLnS0
namespace Go.Proofs.YtehcckhdppdkcaaGreatDoor
set_option maxRecDepth 1000000
noncomputable def lnsT0 : Tr := ⟨40, [(.string ⟨#[40, 49, 32, 50, 32, 51, 41]⟩)], [], 16, (.tuple #[(.pointer (some ⟨17, 0, none⟩)), (.agg #[(vi (Int.ofNat 2)), (vi (Int.ofNat 2))])]), [(17, some lnsB0), (207, some lnsB1), (217, some lnsB2), (227, some lnsB3), (230, some lnsB4)], 236⟩
theorem lnsT0_run : lnsT0.run 16 Tryz.prog ⟨[], rowsU, [141], []⟩ 3000 = true := by kernel_rfl
theorem lnsT0_right : lnsT0.Right 16 Tryz.prog := Tr.right_of (K := ⟨[], rowsU, [141], []⟩) (base_right) (by kernel_rfl) lnsT0_run
noncomputable def lnsT1 : Tr := ⟨20, [(.pointer (some ⟨17, 0, none⟩)), (.agg #[(vi (Int.ofNat 2)), (vi (Int.ofNat 2))]), (vi (Int.ofNat 9))], [(17, lnsB0), (207, lnsB1), (217, lnsB2), (227, lnsB3), (230, lnsB4)], 237, (.tuple #[(.agg #[(vi (Int.ofNat 1)), (vi (Int.ofNat 0))]), (vi (Int.ofNat 0))]), [(17, some lnsB0), (207, some lnsB1), (217, some lnsB2), (227, some lnsB3), (230, some lnsB4)], 290⟩
theorem lnsT1_run : lnsT1.run 16 Tryz.prog ⟨[], rowsU, [141], []⟩ 3000 = true := by kernel_rfl
theorem lnsT1_right : lnsT1.Right 16 Tryz.prog := Tr.right_of (K := ⟨[], rowsU, [141], []⟩) (base_right) (by kernel_rfl) lnsT1_run
noncomputable def lnsT2 : Tr := ⟨40, [(.string ⟨#[40, 34, 98, 34, 32, 34, 97, 34, 32, 34, 97, 98, 34, 41]⟩)], [], 368, (.tuple #[(.pointer (some ⟨369, 0, none⟩)), (.agg #[(vi (Int.ofNat 2)), (vi (Int.ofNat 5))])]), [(369, some lnsB5), (543, some lnsB6), (562, some lnsB7), (583, some lnsB8), (599, some lnsB9), (609, some lnsB10), (619, some lnsB11), (622, some lnsB12)], 628⟩
theorem lnsT2_run : lnsT2.run 16 Tryz.prog ⟨[], rowsU, [141], []⟩ 3000 = true := by kernel_rfl
theorem lnsT2_right : lnsT2.Right 16 Tryz.prog := Tr.right_of (K := ⟨[], rowsU, [141], []⟩) (base_right) (by kernel_rfl) lnsT2_run
end Go.Proofs.YtehcckhdppdkcaaGreatDoor
