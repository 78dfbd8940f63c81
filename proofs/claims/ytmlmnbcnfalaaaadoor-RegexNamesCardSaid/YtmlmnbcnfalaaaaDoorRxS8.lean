/-
  Steps that are known, part 8: each a call, what it reaches, answers and leaves. Conditions: none.
-/
import Derived.Test.YtmlmnbcnfalaaaaDoorRxS0
namespace Go.Proofs.YtmlmnbcnfalaaaaDoor
set_option maxRecDepth 1000000
noncomputable def rxsT28 : Tr := ⟨14, [(.string ⟨#[97, 92, 123]⟩)], [], 1157, (.tuple #[(.pointer none), (.agg #[(vi (Int.ofNat 13)), (vi (Int.ofNat 1))])]), [], 1167⟩
theorem rxsT28_run : rxsT28.run 16 Tryd.prog ⟨[], rowsU, [82], []⟩ 3000 = true := by kernel_rfl
theorem rxsT28_right : rxsT28.Right 16 Tryd.prog := Tr.right_of (K := ⟨[], rowsU, [82], []⟩) (base_right) (by kernel_rfl) rxsT28_run
noncomputable def rxsT29 : Tr := ⟨14, [(.string ⟨#[97, 92, 123, 92, 125]⟩)], [], 1168, (.tuple #[(.pointer none), (.agg #[(vi (Int.ofNat 5)), (vi (Int.ofNat 1))])]), [], 1182⟩
theorem rxsT29_run : rxsT29.run 16 Tryd.prog ⟨[], rowsU, [82], []⟩ 3000 = true := by kernel_rfl
theorem rxsT29_right : rxsT29.Right 16 Tryd.prog := Tr.right_of (K := ⟨[], rowsU, [82], []⟩) (base_right) (by kernel_rfl) rxsT29_run
end Go.Proofs.YtmlmnbcnfalaaaaDoor
