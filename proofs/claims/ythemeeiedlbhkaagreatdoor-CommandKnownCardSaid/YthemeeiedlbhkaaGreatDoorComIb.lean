/-
  What 'interactive' answers to one text, in the second memory. Conditions: none.
-/
import Derived.Test.YthemeeiedlbhkaaGreatDoorComAwake
namespace Go.Proofs.YthemeeiedlbhkaaGreatDoor
set_option maxRecDepth 1000000
theorem inter2_run : (match doCall 16 Tryz.prog (ev 16 Tryz.prog k0 3000) 22 [.string ⟨#[40, 108, 97, 109, 98, 100, 97, 32, 40, 120, 41, 32, 120, 41]⟩].toArray (startE 16 k0.rows) with | some (u, _) => eqV 3 u (.tuple #[.string ⟨#[]⟩, .bool false]) | _ => false) = true := by kernel_rfl
end Go.Proofs.YthemeeiedlbhkaaGreatDoor
