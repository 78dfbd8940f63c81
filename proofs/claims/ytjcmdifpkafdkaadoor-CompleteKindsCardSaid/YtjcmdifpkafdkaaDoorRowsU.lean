/-
  The two tables of unicode/utf8 as rows of the second memory. Conditions: none.
-/
import Derived.Test.YtjcmdifpkafdkaaDoorS3
import Derived.Test.YtjcmdifpkafdkaaDoorRows
import Derived.Lib.LaidU8
namespace Go.Proofs.YtjcmdifpkafdkaaDoor
open Go.Lib

noncomputable def firstL : List Value := (List.range 256).map fun c => Value.int .u8 (firstT c)
noncomputable def accL : List Value := (List.range 32).map fun k => Value.int .u8 (if k % 2 = 0 then accLo (k / 2) else accHi (k / 2))
noncomputable def rowsU : List (Nat × List Value) := [(0, firstL), (1, accL)]
theorem rowsU_flat : ∀ g cs, (g, cs) ∈ rowsU → (∀ x ∈ cs, flatV x = true) ∧ cs ≠ [] := fun g cs hm => by
 unfold rowsU at hm
 simp only [List.mem_cons, Prod.mk.injEq, List.mem_nil_iff, or_false] at hm
 rcases hm with ⟨_, rfl⟩ | ⟨_, rfl⟩
 ·refine ⟨fun x hx => ?_, fun h => by have := congrArg List.length h; simp [firstL] at this⟩
  unfold firstL at hx
  obtain ⟨c, _, rfl⟩ := List.mem_map.1 hx
  rfl
 ·refine ⟨fun x hx => ?_, fun h => by have := congrArg List.length h; simp [accL] at this⟩
  unfold accL at hx
  obtain ⟨c, _, rfl⟩ := List.mem_map.1 hx
  rfl
theorem rowsU_low : ∀ g cs, (g, cs) ∈ rowsU → g < 16 := fun g cs hm => by
 unfold rowsU at hm
 simp only [List.mem_cons, Prod.mk.injEq, List.mem_nil_iff, or_false] at hm
 rcases hm with ⟨rfl, _⟩ | ⟨rfl, _⟩ <;> decide
theorem rowsU_lie {w : World} (h : Lib.Utf8Tabs 0 1 w) : RowsLie w rowsU := fun g cs hm => by
 obtain ⟨h1, h2⟩ := rowsU_flat g cs hm
 refine ⟨h1, h2, fun i v hv => ?_⟩
 unfold rowsU at hm
 simp only [List.mem_cons, Prod.mk.injEq, List.mem_nil_iff, or_false] at hm
 rcases hm with ⟨rfl, rfl⟩ | ⟨rfl, rfl⟩
 ·unfold firstL at hv
  rw [List.getElem?_map] at hv
  rcases Nat.lt_or_ge i 256 with hi | hi
  ·rw [List.getElem?_range hi] at hv
   simp only [Option.map_some, Option.some.injEq] at hv
   rw [h.1 i hi, hv]
  ·rw [List.getElem?_eq_none (by simpa using hi)] at hv
   cases hv
 ·unfold accL at hv
  rw [List.getElem?_map] at hv
  rcases Nat.lt_or_ge i 32 with hi | hi
  ·rw [List.getElem?_range hi] at hv
   simp only [Option.map_some, Option.some.injEq] at hv
   obtain ⟨k1, k2⟩ := h.2 (i / 2) (by omega)
   by_cases hp : i % 2 = 0
   ·rw [if_pos hp] at hv
    rw [show 2 * (i / 2) = i by omega] at k1
    rw [k1, ← hv]
   ·rw [if_neg hp] at hv
    rw [show 2 * (i / 2) + 1 = i by omega] at k2
    rw [k2, ← hv]
  ·rw [List.getElem?_eq_none (by simpa using hi)] at hv
   cases hv
end Go.Proofs.YtjcmdifpkafdkaaDoor
