/-
  Steps that are known, part 1: each a call, what it reaches, answers and leaves. Conditions: none.
-/
import Derived.Test.YtehcckhdppdkcaaGreatDoorLsS0
namespace Go.Proofs.YtehcckhdppdkcaaGreatDoor
set_option maxRecDepth 1000000
noncomputable def lssT0 : Tr := ⟨67, [(.pointer (some ⟨17, 0, none⟩)), (.pointer (some ⟨19, 0, none⟩)), (.string ⟨#[40, 40, 49, 32, 34, 97, 34, 32, 91, 50, 93, 41, 32, 40, 49, 32, 34, 97, 34, 32, 91, 50, 93, 41, 41]⟩), (vi (Int.ofNat 0))], [(17, lssB0), (18, lssB1), (19, lssB2), (144, lssB3)], 145, (.tuple #[(.agg #[(vi (Int.ofNat 2)), (vi (Int.ofNat 11))]), (vi (Int.ofNat 25)), (.agg #[(vi (Int.ofNat 0)), (vi (Int.ofNat 0))])]), [(17, some lssB4), (18, some lssB1), (19, some lssB2), (144, some lssB3), (229, some lssB5), (256, some lssB6), (257, some lssB7), (271, some lssB8), (281, some lssB9), (291, some lssB10), (324, some lssB5), (351, some lssB6), (352, some lssB11), (366, some lssB12), (376, some lssB13), (386, some lssB14), (400, some lssB15), (410, some lssB16), (413, some lssB17)], 417⟩
theorem lssT0_run : lssT0.run 16 Tryz.prog ⟨[], rowsU, [141], []⟩ 3000 = true := by kernel_rfl
theorem lssT0_right : lssT0.Right 16 Tryz.prog := Tr.right_of (K := ⟨[], rowsU, [141], []⟩) (base_right) (by kernel_rfl) lssT0_run
end Go.Proofs.YtehcckhdppdkcaaGreatDoor
