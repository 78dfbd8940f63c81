/-
  awake of the chapter of commands answers true, in the second memory. Conditions: none.
-/
import Derived.Test.YthemeeiedlbhkaaDoorRowsU
import Derived.KernelRfl
namespace Go.Proofs.YthemeeiedlbhkaaDoor
set_option maxRecDepth 100000
theorem same0 : SameFn Tryd.prog 101 := ⟨Tryd.f101, Tryd.func101, by kernel_rfl, by kernel_rfl, by kernel_rfl, by kernel_rfl⟩
noncomputable def k0 : Kn := ⟨[], rowsU, [101], []⟩
theorem k0_right {G : Nat} : k0.Right G Tryd.prog := known_same noK_right same0
theorem awake_run : (match doCall 16 Tryd.prog (ev 16 Tryd.prog k0 3000) 5 [].toArray (startE 16 k0.rows) with | some (u, _) => eqV 3 u (.bool true) | _ => false) = true := by kernel_rfl
end Go.Proofs.YthemeeiedlbhkaaDoor
