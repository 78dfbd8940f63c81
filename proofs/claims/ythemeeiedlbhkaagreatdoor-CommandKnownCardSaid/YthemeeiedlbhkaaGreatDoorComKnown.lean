/-
  CommandKnown answers true, in every world in which the two tables lie. Conditions: those tables.
-/
import Derived.Test.YthemeeiedlbhkaaGreatDoorComIa
import Derived.Test.YthemeeiedlbhkaaGreatDoorComIb
namespace Go.Proofs.YthemeeiedlbhkaaGreatDoor
open Go.RowKit
set_option maxRecDepth 1000000
noncomputable def k2 : Kn := ⟨(8, [], .bool true) :: (22, [.string ⟨#[40, 108, 97, 109, 98, 100, 97, 32, 40, 120, 41, 32, 34, 100, 111, 99, 34, 32, 40, 105, 110, 116, 101, 114, 97, 99, 116, 105, 118, 101, 32, 34, 112, 34, 41, 32, 120, 41]⟩], .tuple #[.string ⟨#[112]⟩, .bool true]) :: (22, [.string ⟨#[40, 108, 97, 109, 98, 100, 97, 32, 40, 120, 41, 32, 120, 41]⟩], .tuple #[.string ⟨#[]⟩, .bool false]) :: [], rowsU, [154]⟩
theorem k2_right : k2.Right 16 Tryz.prog := by
  have h1 := known_cons k0_right inter1_run rfl rfl rowsU_low rowsU_flat
  have h2 := known_cons k0_right inter2_run rfl rfl rowsU_low rowsU_flat
  have h3 := known_cons k0_right awake_run rfl rfl rowsU_low rowsU_flat
  refine ⟨fun f a v hm => ?_, h1.2⟩
  simp only [k2, List.mem_cons, List.mem_nil_iff, or_false] at hm
  rcases hm with hm | hm | hm
  · cases hm; exact h3.1 _ _ _ (List.mem_cons_self ..)
  · cases hm; exact h1.1 _ _ _ (List.mem_cons_self ..)
  · cases hm; exact h2.1 _ _ _ (List.mem_cons_self ..)
theorem known_run : (match doCall 16 Tryz.prog (ev 16 Tryz.prog k2 3000) 4 [].toArray (startE 16 k2.rows) with | some (u, _) => eqV 3 u (.bool true) | _ => false) = true := by kernel_rfl
theorem commandKnown_any (w : World) (h : Lib.Utf8Tabs 1 2 w) : Calls Tryz.prog 4 #[] w fun e w' => e = .returned (.bool true) ∧ Below w.heap.size w w' :=
  closed_run k2_right known_run rfl rfl (rowsU_lie h) rowsU_low
end Go.Proofs.YthemeeiedlbhkaaGreatDoor
