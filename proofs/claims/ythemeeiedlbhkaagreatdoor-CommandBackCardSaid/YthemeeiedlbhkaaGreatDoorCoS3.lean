/-
  Steps that are known, part 3: each a call, what it reaches, answers and leaves. Conditions: none.
-/
import Derived.Test.YthemeeiedlbhkaaGreatDoorCoS2
namespace Go.Proofs.YthemeeiedlbhkaaGreatDoor
set_option maxRecDepth 1000000
noncomputable def cosT5 : Tr := ⟨22, [(.string ⟨#[40, 108, 97, 109, 98, 100, 97, 32, 40, 120, 41, 32, 120, 41]⟩)], [], 617, (.tuple #[(.string ⟨#[]⟩), (.bool false)]), [], 954⟩
theorem cosT5_run : cosT5.run 16 Tryz.prog ⟨[], rowsU, [154], [cosT4]⟩ 3000 = true := by kernel_rfl
theorem cosT5_right : cosT5.Right 16 Tryz.prog := Tr.right_of (K := ⟨[], rowsU, [154], [cosT4]⟩) (known_step (base_right) cosT4_right) (by kernel_rfl) cosT5_run
noncomputable def cosT6 : Tr := ⟨8, [], [], 994, (.bool true), [], 1077⟩
theorem cosT6_run : cosT6.run 16 Tryz.prog ⟨[], rowsU, [154], []⟩ 3000 = true := by kernel_rfl
theorem cosT6_right : cosT6.Right 16 Tryz.prog := Tr.right_of (K := ⟨[], rowsU, [154], []⟩) (base_right) (by kernel_rfl) cosT6_run
end Go.Proofs.YthemeeiedlbhkaaGreatDoor
