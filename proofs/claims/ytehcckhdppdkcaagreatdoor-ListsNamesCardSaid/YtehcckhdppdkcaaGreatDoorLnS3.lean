/-
  Steps that are known, part 3: each a call, what it reaches, answers and leaves. Conditions: none.
-/
import Derived.Test.YtehcckhdppdkcaaGreatDoorLnS0
namespace Go.Proofs.YtehcckhdppdkcaaGreatDoor
set_option maxRecDepth 1000000
noncomputable def lnsT6 : Tr := ⟨42, [(.pointer (some ⟨1098, 0, none⟩)), (.agg #[(vi (Int.ofNat 2)), (vi (Int.ofNat 3))]), (.agg #[(vi (Int.ofNat 1)), (vi (Int.ofNat 63))]), (.agg #[(vi (Int.ofNat 0)), (vi (Int.ofNat 5))])], [(1098, lnsB21), (1319, lnsB22), (1329, lnsB23), (1339, lnsB3), (1349, lnsB24), (1352, lnsB25)], 1380, (.tuple #[(.agg #[(vi (Int.ofNat 2)), (vi (Int.ofNat 7))]), (vi (Int.ofNat 0))]), [(1098, some lnsB26), (1319, some lnsB22), (1329, some lnsB23), (1339, some lnsB3), (1349, some lnsB24), (1352, none), (1468, some lnsB27), (1476, some lnsB28), (1484, some lnsB29), (1492, some lnsB30), (1495, some lnsB31)], 1496⟩
theorem lnsT6_run : lnsT6.run 16 Tryz.prog ⟨[], rowsU, [141], []⟩ 3000 = true := by kernel_rfl
theorem lnsT6_right : lnsT6.Right 16 Tryz.prog := Tr.right_of (K := ⟨[], rowsU, [141], []⟩) (base_right) (by kernel_rfl) lnsT6_run
noncomputable def lnsT7 : Tr := ⟨30, [(.pointer (some ⟨1098, 0, none⟩)), (.agg #[(vi (Int.ofNat 2)), (vi (Int.ofNat 7))]), (.agg #[(vi (Int.ofNat 1)), (vi (Int.ofNat 63))])], [(1098, lnsB26), (1319, lnsB22), (1329, lnsB23), (1339, lnsB3), (1349, lnsB24), (1468, lnsB27), (1476, lnsB28), (1484, lnsB29), (1492, lnsB30), (1495, lnsB31)], 1497, (.tuple #[(.agg #[(vi (Int.ofNat 0)), (vi (Int.ofNat 5))]), (.bool true)]), [(1098, some lnsB26), (1319, some lnsB22), (1329, some lnsB23), (1339, some lnsB3), (1349, some lnsB24), (1468, some lnsB27), (1476, some lnsB28), (1484, some lnsB29), (1492, some lnsB30), (1495, some lnsB31)], 1557⟩
theorem lnsT7_run : lnsT7.run 16 Tryz.prog ⟨[], rowsU, [141], []⟩ 3000 = true := by kernel_rfl
theorem lnsT7_right : lnsT7.Right 16 Tryz.prog := Tr.right_of (K := ⟨[], rowsU, [141], []⟩) (base_right) (by kernel_rfl) lnsT7_run
noncomputable def lnsT8 : Tr := ⟨40, [(.string ⟨#[40, 49, 32, 46, 32, 50, 41]⟩)], [], 1558, (.tuple #[(.pointer (some ⟨1559, 0, none⟩)), (.agg #[(vi (Int.ofNat 2)), (vi (Int.ofNat 0))])]), [(1559, some lnsB32), (1736, some lnsB33), (1739, some lnsB34)], 1745⟩
theorem lnsT8_run : lnsT8.run 16 Tryz.prog ⟨[], rowsU, [141], []⟩ 3000 = true := by kernel_rfl
theorem lnsT8_right : lnsT8.Right 16 Tryz.prog := Tr.right_of (K := ⟨[], rowsU, [141], []⟩) (base_right) (by kernel_rfl) lnsT8_run
end Go.Proofs.YtehcckhdppdkcaaGreatDoor
