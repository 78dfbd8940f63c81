/-
  awake of the chapter of commands answers true, in the second memory. Conditions: none.
-/
import Derived.Test.YthemeeiedlbhkaaGreatDoorRowsU
import Derived.KernelRfl
namespace Go.Proofs.YthemeeiedlbhkaaGreatDoor
set_option maxRecDepth 100000
theorem same0 : SameFn Tryz.prog 154 := ⟨Tryz.f154, Tryz.func154, by kernel_rfl, by kernel_rfl, by kernel_rfl, by kernel_rfl⟩
noncomputable def k0 : Kn := ⟨[], rowsU, [154], []⟩
theorem k0_right {G : Nat} : k0.Right G Tryz.prog := known_same noK_right same0
theorem awake_run : (match doCall 16 Tryz.prog (ev 16 Tryz.prog k0 3000) 8 [].toArray (startE 16 k0.rows) with | some (u, _) => eqV 3 u (.bool true) | _ => false) = true := by kernel_rfl
end Go.Proofs.YthemeeiedlbhkaaGreatDoor
