/-
  Steps that are known, part 2: each a call, what it reaches, answers and leaves. Conditions: none.
-/
import Derived.Test.YthemeeiedlbhkaaGreatDoorCoS1
namespace Go.Proofs.YthemeeiedlbhkaaGreatDoor
set_option maxRecDepth 1000000
noncomputable def cosT3 : Tr := ⟨22, [(.string ⟨#[40, 108, 97, 109, 98, 100, 97, 32, 40, 120, 41, 32, 34, 100, 111, 99, 34, 32, 40, 105, 110, 116, 101, 114, 97, 99, 116, 105, 118, 101, 32, 34, 112, 34, 41, 32, 120, 41]⟩)], [], 73, (.tuple #[(.string ⟨#[112]⟩), (.bool true)]), [], 617⟩
theorem cosT3_run : cosT3.run 16 Tryz.prog ⟨[], rowsU, [154], [cosT2]⟩ 3000 = true := by kernel_rfl
theorem cosT3_right : cosT3.Right 16 Tryz.prog := Tr.right_of (K := ⟨[], rowsU, [154], [cosT2]⟩) (known_step (base_right) cosT2_right) (by kernel_rfl) cosT3_run
noncomputable def cosT4 : Tr := ⟨70, [(.pointer (some ⟨617, 0, none⟩)), (.pointer (some ⟨619, 0, none⟩)), (.string ⟨#[40, 108, 97, 109, 98, 100, 97, 32, 40, 120, 41, 32, 120, 41]⟩)], [(617, cosB0), (618, cosB1), (619, cosB29), (744, cosB3)], 745, (.tuple #[(.slice (some ⟨897, 0, some 2⟩) 1 1), (.agg #[(vi (Int.ofNat 0)), (vi (Int.ofNat 0))])]), [(617, some cosB30), (618, some cosB8), (619, some cosB31), (744, none), (827, some cosB11), (838, some cosB12), (869, some cosB12), (879, some cosB32), (889, some cosB33), (892, some cosB34), (897, some cosB35)], 898⟩
theorem cosT4_run : cosT4.run 16 Tryz.prog ⟨[], rowsU, [154], []⟩ 3000 = true := by kernel_rfl
theorem cosT4_right : cosT4.Right 16 Tryz.prog := Tr.right_of (K := ⟨[], rowsU, [154], []⟩) (base_right) (by kernel_rfl) cosT4_run
end Go.Proofs.YthemeeiedlbhkaaGreatDoor
