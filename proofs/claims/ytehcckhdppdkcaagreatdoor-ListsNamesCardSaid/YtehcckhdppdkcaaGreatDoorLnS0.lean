/-
  Blocks of the second memory that the steps name. Conditions: none.
-/
import Derived.Test.YtehcckhdppdkcaaGreatDoorLsS0
import Derived.KernelRfl
namespace Go.Proofs.YtehcckhdppdkcaaGreatDoor
set_option maxRecDepth 1000000
noncomputable def lnsB0 : Blk2 := (.row ⟨[(vi (Int.ofNat 300)), (vi (Int.ofNat 3)), (vi (Int.ofNat 0)), (.slice (some ⟨230, 0, some 1⟩) 3 3), (.slice none 0 0)], 72, false⟩)
noncomputable def lnsB1 : Blk2 := (.row ⟨[(vi (Int.ofNat 0)), (vi (Int.ofNat 3)), (vi (Int.ofNat 1)), (vi (Int.ofNat 0))], 100, false⟩)
noncomputable def lnsB2 : Blk2 := (.row ⟨[(vi (Int.ofNat 0)), (vi (Int.ofNat 2)), (vi (Int.ofNat 2)), (vi (Int.ofNat 0))], 100, false⟩)
noncomputable def lnsB3 : Blk2 := (.row ⟨[(vi (Int.ofNat 0)), (vi (Int.ofNat 1)), (vi (Int.ofNat 2)), (vi (Int.ofNat 1))], 100, false⟩)
noncomputable def lnsB4 : Blk2 := (.row ⟨[(.iface 96 (.pointer (some ⟨207, 0, none⟩))), (.iface 96 (.pointer (some ⟨217, 0, none⟩))), (.iface 96 (.pointer (some ⟨227, 0, none⟩)))], 113, true⟩)
noncomputable def lnsB5 : Blk2 := (.row ⟨[(vi (Int.ofNat 300)), (vi (Int.ofNat 6)), (vi (Int.ofNat 4)), (.slice (some ⟨622, 0, some 1⟩) 6 6), (.slice none 0 0)], 72, false⟩)
noncomputable def lnsB6 : Blk2 := (.row ⟨[(.string ⟨#[98]⟩)], 116, false⟩)
noncomputable def lnsB7 : Blk2 := (.row ⟨[(.string ⟨#[97]⟩)], 116, false⟩)
noncomputable def lnsB8 : Blk2 := (.row ⟨[(.string ⟨#[97, 98]⟩)], 116, false⟩)
noncomputable def lnsB9 : Blk2 := (.row ⟨[(vi (Int.ofNat 3)), (vi (Int.ofNat 2)), (vi (Int.ofNat 1)), (vi (Int.ofNat 0))], 100, false⟩)
noncomputable def lnsB10 : Blk2 := (.row ⟨[(vi (Int.ofNat 3)), (vi (Int.ofNat 1)), (vi (Int.ofNat 2)), (vi (Int.ofNat 3))], 100, false⟩)
noncomputable def lnsB11 : Blk2 := (.row ⟨[(vi (Int.ofNat 3)), (vi (Int.ofNat 0)), (vi (Int.ofNat 2)), (vi (Int.ofNat 4))], 100, false⟩)
noncomputable def lnsB12 : Blk2 := (.row ⟨[(.iface 110 (.pointer (some ⟨543, 0, none⟩))), (.iface 110 (.pointer (some ⟨562, 0, none⟩))), (.iface 110 (.pointer (some ⟨583, 0, none⟩))), (.iface 96 (.pointer (some ⟨599, 0, none⟩))), (.iface 96 (.pointer (some ⟨609, 0, none⟩))), (.iface 96 (.pointer (some ⟨619, 0, none⟩)))], 113, true⟩)
noncomputable def lnsB13 : Blk2 := (.row ⟨[(vi (Int.ofNat 300)), (vi (Int.ofNat 9)), (vi (Int.ofNat 4)), (.slice (some ⟨773, 0, some 1⟩) 9 9), (.slice none 0 0)], 72, false⟩)
noncomputable def lnsB14 : Blk2 := (.row ⟨[(vi (Int.ofNat 3)), (vi (Int.ofNat 0)), (vi (Int.ofNat 1)), (vi (Int.ofNat 0))], 100, false⟩)
noncomputable def lnsB15 : Blk2 := (.row ⟨[(vi (Int.ofNat 3)), (vi (Int.ofNat 2)), (vi (Int.ofNat 2)), (vi (Int.ofNat 6))], 100, false⟩)
noncomputable def lnsB16 : Blk2 := (.row ⟨[(vi (Int.ofNat 3)), (vi (Int.ofNat 1)), (vi (Int.ofNat 2)), (vi (Int.ofNat 7))], 100, false⟩)
noncomputable def lnsB17 : Blk2 := (.row ⟨[(.iface 110 (.pointer (some ⟨543, 0, none⟩))), (.iface 110 (.pointer (some ⟨562, 0, none⟩))), (.iface 110 (.pointer (some ⟨583, 0, none⟩))), (.iface 96 (.pointer (some ⟨599, 0, none⟩))), (.iface 96 (.pointer (some ⟨609, 0, none⟩))), (.iface 96 (.pointer (some ⟨619, 0, none⟩))), (.iface 96 (.pointer (some ⟨754, 0, none⟩))), (.iface 96 (.pointer (some ⟨762, 0, none⟩))), (.iface 96 (.pointer (some ⟨770, 0, none⟩)))], 113, true⟩)
noncomputable def lnsB18 : Blk2 := (.row ⟨[(vi (Int.ofNat 300)), (vi (Int.ofNat 3)), (vi (Int.ofNat 1)), (.slice (some ⟨1034, 0, some 1⟩) 3 3), (.slice none 0 0)], 72, false⟩)
noncomputable def lnsB19 : Blk2 := (.row ⟨[(vi (Int.ofNat 0)), (vi (Int.ofNat 2)), (vi (Int.ofNat 2)), (vi (Int.ofNat 1))], 100, false⟩)
noncomputable def lnsB20 : Blk2 := (.row ⟨[(.iface 110 (.pointer (some ⟨1005, 0, none⟩))), (.iface 96 (.pointer (some ⟨1021, 0, none⟩))), (.iface 96 (.pointer (some ⟨1031, 0, none⟩)))], 113, true⟩)
noncomputable def lnsB21 : Blk2 := (.row ⟨[(vi (Int.ofNat 300)), (vi (Int.ofNat 4)), (vi (Int.ofNat 0)), (.slice (some ⟨1352, 0, some 1⟩) 4 4), (.slice none 0 0)], 72, false⟩)
noncomputable def lnsB22 : Blk2 := (.row ⟨[(vi (Int.ofNat 0)), (vi (Int.ofNat 2)), (vi (Int.ofNat 1)), (vi (Int.ofNat 0))], 100, false⟩)
noncomputable def lnsB23 : Blk2 := (.row ⟨[(vi (Int.ofNat 1)), (vi (Int.ofNat 63)), (vi (Int.ofNat 2)), (vi (Int.ofNat 0))], 100, false⟩)
noncomputable def lnsB24 : Blk2 := (.row ⟨[(vi (Int.ofNat 1)), (vi (Int.ofNat 62)), (vi (Int.ofNat 2)), (vi (Int.ofNat 2))], 100, false⟩)
noncomputable def lnsB25 : Blk2 := (.row ⟨[(.iface 96 (.pointer (some ⟨1319, 0, none⟩))), (.iface 96 (.pointer (some ⟨1329, 0, none⟩))), (.iface 96 (.pointer (some ⟨1339, 0, none⟩))), (.iface 96 (.pointer (some ⟨1349, 0, none⟩)))], 113, true⟩)
noncomputable def lnsB26 : Blk2 := (.row ⟨[(vi (Int.ofNat 300)), (vi (Int.ofNat 8)), (vi (Int.ofNat 0)), (.slice (some ⟨1495, 0, some 1⟩) 8 8), (.slice none 0 0)], 72, false⟩)
noncomputable def lnsB27 : Blk2 := (.row ⟨[(vi (Int.ofNat 0)), (vi (Int.ofNat 5)), (vi (Int.ofNat 1)), (vi (Int.ofNat 0))], 100, false⟩)
noncomputable def lnsB28 : Blk2 := (.row ⟨[(vi (Int.ofNat 1)), (vi (Int.ofNat 63)), (vi (Int.ofNat 2)), (vi (Int.ofNat 4))], 100, false⟩)
noncomputable def lnsB29 : Blk2 := (.row ⟨[(vi (Int.ofNat 0)), (vi (Int.ofNat 1)), (vi (Int.ofNat 2)), (vi (Int.ofNat 5))], 100, false⟩)
noncomputable def lnsB30 : Blk2 := (.row ⟨[(vi (Int.ofNat 1)), (vi (Int.ofNat 62)), (vi (Int.ofNat 2)), (vi (Int.ofNat 6))], 100, false⟩)
noncomputable def lnsB31 : Blk2 := (.row ⟨[(.iface 96 (.pointer (some ⟨1319, 0, none⟩))), (.iface 96 (.pointer (some ⟨1329, 0, none⟩))), (.iface 96 (.pointer (some ⟨1339, 0, none⟩))), (.iface 96 (.pointer (some ⟨1349, 0, none⟩))), (.iface 96 (.pointer (some ⟨1468, 0, none⟩))), (.iface 96 (.pointer (some ⟨1476, 0, none⟩))), (.iface 96 (.pointer (some ⟨1484, 0, none⟩))), (.iface 96 (.pointer (some ⟨1492, 0, none⟩)))], 113, true⟩)
noncomputable def lnsB32 : Blk2 := (.row ⟨[(vi (Int.ofNat 300)), (vi (Int.ofNat 1)), (vi (Int.ofNat 0)), (.slice (some ⟨1739, 0, some 1⟩) 1 1), (.slice none 0 0)], 72, false⟩)
noncomputable def lnsB33 : Blk2 := (.row ⟨[(vi (Int.ofNat 0)), (vi (Int.ofNat 1)), (vi (Int.ofNat 0)), (vi (Int.ofNat 2))], 100, false⟩)
noncomputable def lnsB34 : Blk2 := (.row ⟨[(.iface 96 (.pointer (some ⟨1736, 0, none⟩)))], 113, true⟩)
end Go.Proofs.YtehcckhdppdkcaaGreatDoor
