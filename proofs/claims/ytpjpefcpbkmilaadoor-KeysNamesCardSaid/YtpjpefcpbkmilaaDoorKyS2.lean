/-
  Steps that are known, part 2: each a call, what it reaches, answers and leaves. Conditions: none.
-/
import Derived.Test.YtpjpefcpbkmilaaDoorKyS0
namespace Go.Proofs.YtpjpefcpbkmilaaDoor
set_option maxRecDepth 1000000
noncomputable def kysT4 : Tr := ⟨19, [(.slice (some ⟨159, 0, none⟩) 25 25), (.bool true)], [(0, .row ⟨firstL, 0, true⟩), (1, .row ⟨accL, 0, true⟩), (159, kysB5)], 160, (.tuple #[(.slice (some ⟨186, 0, some 1⟩) 8 8), (.slice none 0 0)]), [(0, some (.row ⟨firstL, 0, true⟩)), (1, some (.row ⟨accL, 0, true⟩)), (159, some kysB5), (186, some kysB6)], 187⟩
theorem kysT4_run : kysT4.run 16 Tryd.prog ⟨[], rowsU, [77], []⟩ 3000 = true := by kernel_rfl
theorem kysT4_right : kysT4.Right 16 Tryd.prog := Tr.right_of (K := ⟨[], rowsU, [77], []⟩) (base_right) (by kernel_rfl) kysT4_run
noncomputable def kysT5 : Tr := ⟨35, [(.pointer (some ⟨190, 0, none⟩)), (vi (Int.ofNat 134217737))], [(190, kysB7), (197, kysB8)], 198, (.tuple #[]), [(190, some kysB9), (197, none), (204, some kysB10)], 205⟩
theorem kysT5_run : kysT5.runN 16 Tryd.prog ⟨[], rowsU, [77], []⟩ 3000 1 = true := by kernel_rfl
theorem kysT5_right : kysT5.Right 16 Tryd.prog := Tr.right_ofN (K := ⟨[], rowsU, [77], []⟩) (base_right) (by kernel_rfl) kysT5_run
noncomputable def kysT6 : Tr := ⟨15, [(.slice (some ⟨189, 0, none⟩) 6 6)], [(189, kysB11)], 190, (.string ⟨#[67, 45, 97, 32, 77, 45, 84, 65, 66, 32, 60, 117, 112, 62, 32, 63, 32, 67, 45, 64, 32, 67, 45, 92]⟩), [(189, some kysB11)], 231⟩
theorem kysT6_run : kysT6.run 16 Tryd.prog ⟨[], rowsU, [77], [kysT5]⟩ 3000 = true := by kernel_rfl
theorem kysT6_right : kysT6.Right 16 Tryd.prog := Tr.right_of (K := ⟨[], rowsU, [77], [kysT5]⟩) (known_step (base_right) kysT5_right) (by kernel_rfl) kysT6_run
end Go.Proofs.YtpjpefcpbkmilaaDoor
