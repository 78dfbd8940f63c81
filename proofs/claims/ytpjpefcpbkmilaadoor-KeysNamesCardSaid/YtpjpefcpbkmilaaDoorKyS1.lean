/-
  Steps that are known, part 1: each a call, what it reaches, answers and leaves. Conditions: none.
-/
import Derived.Test.YtpjpefcpbkmilaaDoorKyS0
namespace Go.Proofs.YtpjpefcpbkmilaaDoor
set_option maxRecDepth 1000000
noncomputable def kysT0 : Tr := ⟨9, [], [], 16, (.bool true), [], 42⟩
theorem kysT0_run : kysT0.run 16 Tryd.prog ⟨[], rowsU, [77], []⟩ 3000 = true := by kernel_rfl
theorem kysT0_right : kysT0.Right 16 Tryd.prog := Tr.right_of (K := ⟨[], rowsU, [77], []⟩) (base_right) (by kernel_rfl) kysT0_run
noncomputable def kysT1 : Tr := ⟨14, [(.string ⟨#[67, 45, 37, 32, 83, 80, 67, 32, 45]⟩)], [], 42, (.tuple #[(.slice (some ⟨60, 0, some 1⟩) 3 3), (.agg #[(vi (Int.ofNat 0)), (vi (Int.ofNat 0))])]), [(60, some kysB0)], 62⟩
theorem kysT1_run : kysT1.run 16 Tryd.prog ⟨[], rowsU, [77], []⟩ 3000 = true := by kernel_rfl
theorem kysT1_right : kysT1.Right 16 Tryd.prog := Tr.right_of (K := ⟨[], rowsU, [77], []⟩) (base_right) (by kernel_rfl) kysT1_run
noncomputable def kysT2 : Tr := ⟨14, [(.string ⟨#[67, 45, 77, 45, 83, 45, 60, 117, 112, 62, 32, 67, 45, 45, 32, 60, 32, 77, 45, 82, 69, 84, 32, 67, 45, 63, 32, 83, 45, 67, 45, 97, 32, 78, 85, 76]⟩)], [], 90, (.tuple #[(.slice (some ⟨142, 0, some 1⟩) 7 7), (.agg #[(vi (Int.ofNat 0)), (vi (Int.ofNat 0))])]), [(142, some kysB1)], 144⟩
theorem kysT2_run : kysT2.run 16 Tryd.prog ⟨[], rowsU, [77], []⟩ 3000 = true := by kernel_rfl
theorem kysT2_right : kysT2.Right 16 Tryd.prog := Tr.right_of (K := ⟨[], rowsU, [77], []⟩) (base_right) (by kernel_rfl) kysT2_run
noncomputable def kysT3 : Tr := ⟨19, [(.slice (some ⟨145, 0, none⟩) 8 8), (.bool false)], [(0, .row ⟨firstL, 0, true⟩), (1, .row ⟨accL, 0, true⟩), (145, kysB2)], 146, (.tuple #[(.slice (some ⟨156, 0, some 1⟩) 4 4), (.slice (some ⟨158, 0, some 1⟩) 1 1)]), [(0, some (.row ⟨firstL, 0, true⟩)), (1, some (.row ⟨accL, 0, true⟩)), (145, some kysB2), (156, some kysB3), (158, some kysB4)], 159⟩
theorem kysT3_run : kysT3.run 16 Tryd.prog ⟨[], rowsU, [77], []⟩ 3000 = true := by kernel_rfl
theorem kysT3_right : kysT3.Right 16 Tryd.prog := Tr.right_of (K := ⟨[], rowsU, [77], []⟩) (base_right) (by kernel_rfl) kysT3_run
end Go.Proofs.YtpjpefcpbkmilaaDoor
