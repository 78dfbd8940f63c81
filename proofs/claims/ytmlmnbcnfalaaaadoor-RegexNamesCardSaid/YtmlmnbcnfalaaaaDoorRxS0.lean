/-
  Blocks of the second memory that the steps name. Conditions: none.
-/
import Derived.Test.YtmlmnbcnfalaaaaDoorRowsU
import Derived.KernelRfl
namespace Go.Proofs.YtmlmnbcnfalaaaaDoor
set_option maxRecDepth 1000000
noncomputable def vi (i : Int) : Value := .int .i64 i
theorem same0 : SameFn Tryd.prog 82 := ⟨Tryd.f82, Tryd.func82, by kernel_rfl, by kernel_rfl, by kernel_rfl, by kernel_rfl⟩
theorem base_right : Kn.Right ⟨[], rowsU, [82], []⟩ 16 Tryd.prog := known_same noK_right same0
noncomputable def rxsB0 : Blk2 := (.row ⟨[(vi (Int.ofNat 97)), (vi (Int.ofNat 99)), (.string ⟨#[]⟩)], 161, true⟩)
noncomputable def rxsB1 : Blk2 := (.row ⟨[(.slice (some ⟨56, 0, some 1⟩) 3 3), (vi (Int.ofNat 0))], 71, false⟩)
noncomputable def rxsB2 : Blk2 := (.row ⟨[(.iface 135 (.agg #[(.slice (some ⟨38, 0, some 3⟩) 1 1), (.bool true)])), (.iface 113 (.agg #[(vi (Int.ofNat 2)), (vi (Int.ofNat 0))])), (.iface 74 (.agg #[]))], 105, true⟩)
noncomputable def rxsB3 : Blk2 := (.row ⟨[(.slice (some ⟨86, 0, some 1⟩) 4 4), (vi (Int.ofNat 0))], 71, false⟩)
noncomputable def rxsB4 : Blk2 := (.row ⟨[(.iface 113 (.agg #[(vi (Int.ofNat 1)), (vi (Int.ofNat 3))])), (.iface 131 (vi (Int.ofNat 120))), (.iface 111 (vi (Int.ofNat 0))), (.iface 74 (.agg #[]))], 105, true⟩)
noncomputable def rxsB5 : Blk2 := (.row ⟨[(.slice (some ⟨156, 0, some 1⟩) 9 9), (vi (Int.ofNat 1))], 71, false⟩)
noncomputable def rxsB6 : Blk2 := (.row ⟨[(.iface 113 (.agg #[(vi (Int.ofNat 1)), (vi (Int.ofNat 7))])), (.iface 109 (vi (Int.ofNat 2))), (.iface 113 (.agg #[(vi (Int.ofNat 3)), (vi (Int.ofNat 5))])), (.iface 131 (vi (Int.ofNat 97))), (.iface 111 (vi (Int.ofNat 2))), (.iface 109 (vi (Int.ofNat 3))), (.iface 111 (vi (Int.ofNat 0))), (.iface 131 (vi (Int.ofNat 98))), (.iface 74 (.agg #[]))], 105, true⟩)
noncomputable def rxsB7 : Blk2 := (.row ⟨[(vi (Int.ofNat 93)), (vi (Int.ofNat 93)), (.string ⟨#[]⟩), (vi (Int.ofNat 45)), (vi (Int.ofNat 45)), (.string ⟨#[]⟩)], 161, true⟩)
noncomputable def rxsB8 : Blk2 := (.row ⟨[(.slice (some ⟨237, 0, some 1⟩) 7 7), (vi (Int.ofNat 0))], 71, false⟩)
noncomputable def rxsB9 : Blk2 := (.row ⟨[(.iface 115 (vi (Int.ofNat 94))), (.iface 131 (vi (Int.ofNat 42))), (.iface 113 (.agg #[(vi (Int.ofNat 3)), (vi (Int.ofNat 5))])), (.iface 135 (.agg #[(.slice (some ⟨200, 0, some 3⟩) 2 2), (.bool false)])), (.iface 111 (vi (Int.ofNat 6))), (.iface 115 (vi (Int.ofNat 36))), (.iface 74 (.agg #[]))], 105, true⟩)
noncomputable def rxsB10 : Blk2 := (.row ⟨[(vi (Int.ofNat 0)), (vi (Int.ofNat 0)), (.string ⟨#[100, 105, 103, 105, 116]⟩)], 161, true⟩)
noncomputable def rxsB11 : Blk2 := (.row ⟨[(.slice (some ⟨318, 0, some 1⟩) 5 5), (vi (Int.ofNat 0))], 71, false⟩)
noncomputable def rxsB12 : Blk2 := (.row ⟨[(.iface 135 (.agg #[(.slice (some ⟨292, 0, some 3⟩) 1 1), (.bool false)])), (.iface 135 (.agg #[(.slice (some ⟨292, 0, some 3⟩) 1 1), (.bool false)])), (.iface 113 (.agg #[(vi (Int.ofNat 3)), (vi (Int.ofNat 4))])), (.iface 135 (.agg #[(.slice (some ⟨292, 0, some 3⟩) 1 1), (.bool false)])), (.iface 74 (.agg #[]))], 105, true⟩)
noncomputable def rxsB13 : Blk2 := (.row ⟨[(.slice (some ⟨508, 0, some 1⟩) 16 16), (vi (Int.ofNat 2))], 71, false⟩)
noncomputable def rxsB14 : Blk2 := (.row ⟨[(.iface 109 (vi (Int.ofNat 2))), (.iface 113 (.agg #[(vi (Int.ofNat 2)), (vi (Int.ofNat 4))])), (.iface 131 (vi (Int.ofNat 97))), (.iface 111 (vi (Int.ofNat 6))), (.iface 131 (vi (Int.ofNat 97))), (.iface 131 (vi (Int.ofNat 98))), (.iface 109 (vi (Int.ofNat 3))), (.iface 109 (vi (Int.ofNat 4))), (.iface 113 (.agg #[(vi (Int.ofNat 9)), (vi (Int.ofNat 11))])), (.iface 131 (vi (Int.ofNat 99))), (.iface 111 (vi (Int.ofNat 14))), (.iface 131 (vi (Int.ofNat 98))), (.iface 131 (vi (Int.ofNat 99))), (.iface 131 (vi (Int.ofNat 100))), (.iface 109 (vi (Int.ofNat 5))), (.iface 74 (.agg #[]))], 105, true⟩)
noncomputable def rxsB15 : Blk2 := (.row ⟨[(vi (Int.ofNat 3)), (vi (Int.ofNat 4))], 35, true⟩)
noncomputable def rxsB16 : Blk2 := (.row ⟨[(vi (Int.ofNat 1)), (vi (Int.ofNat 1))], 35, true⟩)
noncomputable def rxsB17 : Blk2 := (.row ⟨[(vi (Int.ofNat 0)), (vi (Int.ofNat 3)), (vi (Int.ofNat 0)), (vi (Int.ofNat 2))], 35, true⟩)
noncomputable def rxsB18 : Blk2 := (.row ⟨[(vi (Int.ofNat 2)), (vi (Int.ofNat 4))], 35, true⟩)
noncomputable def rxsB19 : Blk2 := (.row ⟨[(vi (Int.ofNat 1)), (vi (Int.ofNat 5)), (vi (Int.ofNat 2)), (vi (Int.ofNat 4))], 35, false⟩)
end Go.Proofs.YtmlmnbcnfalaaaaDoor
