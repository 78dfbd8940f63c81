/-
  lives of the chapter of patterns answers true, in the second memory. Conditions: none.
-/
import Derived.Test.YtmlmnbcnfalaaaaDoorRowsU
import Derived.KernelRfl
namespace Go.Proofs.YtmlmnbcnfalaaaaDoor
set_option maxRecDepth 1000000
theorem same0 : SameFn Tryd.prog 82 := ⟨Tryd.f82, Tryd.func82, by kernel_rfl, by kernel_rfl, by kernel_rfl, by kernel_rfl⟩
noncomputable def k0 : Kn := ⟨[], rowsU, [82], []⟩
theorem k0_right {G : Nat} : k0.Right G Tryd.prog := known_same noK_right same0
theorem lives_run : (match doCall 16 Tryd.prog (ev 16 Tryd.prog k0 3000) 11 [].toArray (startE 16 k0.rows) with | some (u, _) => eqV 3 u (.bool true) | _ => false) = true := by kernel_rfl
end Go.Proofs.YtmlmnbcnfalaaaaDoor
