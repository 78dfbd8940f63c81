/-
  awake of the chapter of commands answers true, in the second memory. Conditions: none.
-/
import Derived.Test.YthemeeiedlbhkaaGreatDoorRowsU
import Derived.KernelRfl
namespace Go.Proofs.YthemeeiedlbhkaaGreatDoor
set_option maxRecDepth 100000
theorem same0 : SameFn Tryz.prog 154 := ⟨Tryz.f154, Tryz.func154, by kernel_rfl, by kernel_rfl, by kernel_rfl, by kernel_rfl⟩
noncomputable def k0 : Kn := ⟨[], rowsU, [154], []⟩
theorem k0_right {G : Nat} : k0.Right G Tryz.prog := known_same noK_right same0
end Go.Proofs.YthemeeiedlbhkaaGreatDoor
