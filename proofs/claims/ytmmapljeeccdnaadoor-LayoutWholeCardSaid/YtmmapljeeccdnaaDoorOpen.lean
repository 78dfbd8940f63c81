/-
  Opening arguments of the rows: ints and slices of ints, as the walks take them. No program in this text. Conditions: none.
-/
import Derived.Test.YtmmapljeeccdnaaDoorBase
import Derived.ProofKit
import Derived.OpenShut
namespace Go.Proofs.YtmmapljeeccdnaaDoor
open Go.ChangeShapes Go.WideShapes Go.ChangeAt Go.RowKit

theorem int_bounds {x : Int} (h : (Lit.int .i64 x).wf = true) : -9223372036854775808 ≤ x ∧ x ≤ 9223372036854775807 := by
  have := bounds_i64 h
  omega
theorem open_ints_list {H : Type} {enc : TypeId × Value → H} {P : Program} {w : World} {r : Reach} {b0 : Nat} {t e : TypeId} {v : Value} {d : DataW H} {p : List MemPlace}
    (ht : P.underlying t = some (.slice e)) (he : P.underlying e = some (.int .i64)) (hc : P.cellsOf e = 1) (hv : Value.okWide P w r b0 t v) (h : DataW.Trod enc P w 0 (fun _ => true) true t v d p) :
    ∃ (xs : List Int), Ints w w.heap.size v xs ∧ ∀ x ∈ xs, -9223372036854775808 ≤ x ∧ x ≤ 9223372036854775807 := by
  obtain ⟨a, len, cap, rfl⟩ := okWide_slice ht hv
  obtain ⟨fuel, hf⟩ := h
  rcases open_ints ht he hc hf with ⟨hcs, _⟩ | ⟨x, l, c, zs, hcs, _, hl, hm, hz, _, hcell, hwz⟩
  · simp [Value.cells] at hcs
    obtain ⟨rfl, rfl, rfl⟩ := hcs
    exact ⟨[], Ints.nil _ _, by simp⟩
  · simp [Value.cells] at hcs
    obtain ⟨rfl, rfl, rfl⟩ := hcs
    have hzl : zs.length = cap := by simpa using hz
    have htl : (zs.take len).length = len := by simp; omega
    refine ⟨zs.take len, ⟨some x, cap, by rw [htl], by rw [htl]; exact hl, by simpa [maxLen] using hm, fun h0 => ?_⟩, fun y hy => int_bounds (hwz y (List.mem_of_mem_take hy))⟩
    obtain ⟨b, off, rfl, hc'⟩ := ints_at hcell (by omega)
    refine ⟨b, off, rfl, ?_, fun j y hj => ?_⟩
    · exact World.block_lt_of_cell? _ _ (hc' 0 (by omega))
    · have hj' : j < len := by
        have := (List.getElem?_eq_some_iff.1 hj).1
        omega
      have h2 : zs[j]? = some y := by rw [← hj, List.getElem?_take, if_pos hj']
      have h3 := hc' j (by omega)
      rw [h3]
      simp [List.getD_eq_getElem?_getD, h2]
end Go.Proofs.YtmmapljeeccdnaaDoor
