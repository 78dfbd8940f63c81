/-
  Steps that are known, part 3: each a call, what it reaches, answers and leaves. Conditions: none.
-/
import Derived.Test.YtmlmnbcnfalaaaaDoorRxS0
namespace Go.Proofs.YtmlmnbcnfalaaaaDoor
set_option maxRecDepth 1000000
noncomputable def rxsT5 : Tr := ⟨14, [(.string ⟨#[92, 40, 97, 92, 124, 97, 98, 92, 41, 92, 40, 99, 92, 124, 98, 99, 100, 92, 41]⟩)], [], 384, (.tuple #[(.pointer (some ⟨463, 0, none⟩)), (.agg #[(vi (Int.ofNat 0)), (vi (Int.ofNat 0))])]), [(463, some rxsB13), (508, some rxsB14)], 509⟩
theorem rxsT5_run : rxsT5.run 16 Tryd.prog ⟨[], rowsU, [82], []⟩ 3000 = true := by kernel_rfl
theorem rxsT5_right : rxsT5.Right 16 Tryd.prog := Tr.right_of (K := ⟨[], rowsU, [82], []⟩) (base_right) (by kernel_rfl) rxsT5_run
end Go.Proofs.YtmlmnbcnfalaaaaDoor
