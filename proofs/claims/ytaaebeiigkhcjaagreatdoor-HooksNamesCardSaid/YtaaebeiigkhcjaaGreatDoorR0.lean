/-
  The variables null and tee of package hooks as rows of the second memory. Conditions: none.
  lives() of the hooks laws answers true, in every second memory in which the variables null and tee lie. Conditions: those variables.
-/
import Derived.Test.YtaaebeiigkhcjaaGreatDoorS3
import Derived.Test.YtaaebeiigkhcjaaGreatDoorRows
import Derived.Lib.LaidU8
namespace Go.Proofs.YtaaebeiigkhcjaaGreatDoor
noncomputable def rowsH : List (Nat × List Value) := [(0, [.int .i64 1, .int .i64 0]), (1, [.int .i64 1, .int .i64 1])]
theorem rowsH_flat : ∀ g cs, (g, cs) ∈ rowsH → (∀ x ∈ cs, flatV x = true) ∧ cs ≠ [] := fun g cs hm => by
  unfold rowsH at hm
  simp only [List.mem_cons, Prod.mk.injEq, List.mem_nil_iff, or_false] at hm
  rcases hm with ⟨_, rfl⟩ | ⟨_, rfl⟩
  · refine ⟨fun x hx => ?_, by simp⟩
    simp only [List.mem_cons, List.mem_nil_iff, or_false] at hx
    rcases hx with rfl | rfl <;> rfl
  · refine ⟨fun x hx => ?_, by simp⟩
    simp only [List.mem_cons, List.mem_nil_iff, or_false] at hx
    rcases hx with rfl | rfl <;> rfl
theorem rowsH_low : ∀ g cs, (g, cs) ∈ rowsH → g < 16 := fun g cs hm => by
  unfold rowsH at hm
  simp only [List.mem_cons, Prod.mk.injEq, List.mem_nil_iff, or_false] at hm
  rcases hm with ⟨rfl, _⟩ | ⟨rfl, _⟩ <;> decide
def TabsH (w : World) : Prop := RowsLie w rowsH
end Go.Proofs.YtaaebeiigkhcjaaGreatDoor
namespace Go.Proofs.YtaaebeiigkhcjaaGreatDoor
open Go.RowKit
set_option maxRecDepth 1000000
theorem lives_run : (match doCall 16 Tryz.prog (ev 16 Tryz.prog (noK rowsH) 3000) 8 [].toArray (startE 16 (noK rowsH).rows) with | some (u, _) => eqV 3 u (.bool true) | _ => false) = true := by kernel_rfl
theorem s_lives {G : Nat} (h16 : 16 ≤ G) (σ : Mem) (hR : RowsAt rowsH σ) : SCall G Tryz.prog 8 #[] σ (.bool true) σ :=
  closed_scall noK_right lives_run rfl rfl rowsH_low (fun g cs hm => Nat.lt_of_lt_of_le (rowsH_low g cs hm) h16) rowsH_flat σ hR
end Go.Proofs.YtaaebeiigkhcjaaGreatDoor
