/-
  The variables null and tee of package hooks as rows of the second memory. Conditions: none.
-/
import Derived.Test.YtaaebeiigkhcjaaDoorS3
import Derived.Test.YtaaebeiigkhcjaaDoorRows
import Derived.Lib.LaidU8
namespace Go.Proofs.YtaaebeiigkhcjaaDoor
noncomputable def rowsH : List (Nat × List Value) := [(0, [.int .i64 1, .int .i64 0]), (1, [.int .i64 1, .int .i64 1])]
theorem rowsH_flat : ∀ g cs, (g, cs) ∈ rowsH → (∀ x ∈ cs, flatV x = true) ∧ cs ≠ [] := fun g cs hm => by
  unfold rowsH at hm
  simp only [List.mem_cons, Prod.mk.injEq, List.mem_nil_iff, or_false] at hm
  rcases hm with ⟨_, rfl⟩ | ⟨_, rfl⟩
  · refine ⟨fun x hx => ?_, by simp⟩
    simp only [List.mem_cons, List.mem_nil_iff, or_false] at hx
    rcases hx with rfl | rfl <;> rfl
  · refine ⟨fun x hx => ?_, by simp⟩
    simp only [List.mem_cons, List.mem_nil_iff, or_false] at hx
    rcases hx with rfl | rfl <;> rfl
theorem rowsH_low : ∀ g cs, (g, cs) ∈ rowsH → g < 16 := fun g cs hm => by
  unfold rowsH at hm
  simp only [List.mem_cons, Prod.mk.injEq, List.mem_nil_iff, or_false] at hm
  rcases hm with ⟨rfl, _⟩ | ⟨rfl, _⟩ <;> decide
def TabsH (w : World) : Prop := RowsLie w rowsH
end Go.Proofs.YtaaebeiigkhcjaaDoor
