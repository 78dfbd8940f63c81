/-
  Steps that are known, part 1: each a call, what it reaches, answers and leaves. Conditions: none.
-/
import Derived.Test.YthemeeiedlbhkaaGreatDoorCoS0
namespace Go.Proofs.YthemeeiedlbhkaaGreatDoor
set_option maxRecDepth 1000000
noncomputable def cosT0 : Tr := ⟨105, [(.pointer (some ⟨280, 0, none⟩))], [(73, cosB0), (74, cosB1), (75, cosB2), (200, cosB3), (279, cosB4), (280, cosB5)], 286, (.agg #[(vi (Int.ofNat 1)), (vi (Int.ofNat 7))]), [(73, some cosB0), (74, some cosB1), (75, some cosB2), (200, some cosB3), (279, some cosB4), (280, some cosB6)], 311⟩
theorem cosT0_run : cosT0.run 16 Tryz.prog ⟨[], rowsU, [154], []⟩ 3000 = true := by kernel_rfl
theorem cosT0_right : cosT0.Right 16 Tryz.prog := Tr.right_of (K := ⟨[], rowsU, [154], []⟩) (base_right) (by kernel_rfl) cosT0_run
noncomputable def cosT1 : Tr := ⟨105, [(.pointer (some ⟨280, 0, none⟩))], [(73, cosB7), (74, cosB8), (75, cosB9), (279, cosB4), (280, cosB10), (331, cosB11), (342, cosB12), (363, cosB13), (367, cosB14)], 374, (.agg #[(vi (Int.ofNat 2)), (vi (Int.ofNat 4))]), [(73, some cosB15), (74, some cosB8), (75, some cosB9), (279, some cosB4), (280, some cosB16), (331, some cosB11), (342, some cosB12), (363, some cosB13), (367, none), (424, some cosB17), (440, some cosB18), (450, some cosB19), (453, some cosB20)], 457⟩
theorem cosT1_run : cosT1.run 16 Tryz.prog ⟨[], rowsU, [154], []⟩ 3000 = true := by kernel_rfl
theorem cosT1_right : cosT1.Right 16 Tryz.prog := Tr.right_of (K := ⟨[], rowsU, [154], []⟩) (base_right) (by kernel_rfl) cosT1_run
noncomputable def cosT2 : Tr := ⟨105, [(.pointer (some ⟨280, 0, none⟩))], [(73, cosB0), (74, cosB1), (75, cosB2), (200, cosB3), (279, cosB4), (280, cosB21)], 281, (.agg #[(vi (Int.ofNat 2)), (vi (Int.ofNat 9))]), [(73, some cosB22), (74, some cosB8), (75, some cosB9), (200, none), (279, some cosB4), (280, some cosB23), (331, some cosB11), (342, some cosB12), (363, some cosB13), (424, some cosB17), (440, some cosB18), (450, some cosB19), (481, some cosB12), (491, some cosB24), (501, some cosB25), (511, some cosB26), (521, some cosB27), (524, some cosB28)], 528⟩
theorem cosT2_run : cosT2.run 16 Tryz.prog ⟨[], rowsU, [154], [cosT1, cosT0]⟩ 3000 = true := by kernel_rfl
theorem cosT2_right : cosT2.Right 16 Tryz.prog := Tr.right_of (K := ⟨[], rowsU, [154], [cosT1, cosT0]⟩) (known_step (known_step (base_right) cosT0_right) cosT1_right) (by kernel_rfl) cosT2_run
end Go.Proofs.YthemeeiedlbhkaaGreatDoor
