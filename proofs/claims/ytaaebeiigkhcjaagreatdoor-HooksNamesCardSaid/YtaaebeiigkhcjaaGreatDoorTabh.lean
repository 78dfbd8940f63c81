/-
  The two variables that the rows list, null and tee of package hooks: what they give to the walks, and a world in which they lie (for the rows' witness). Conditions: the row's list.
-/
import Derived.Test.YtaaebeiigkhcjaaGreatDoorR0
import Derived.Test.YtaaebeiigkhcjaaGreatDoorRows
import Derived.Lib.LaidU8
namespace Go.Proofs.YtaaebeiigkhcjaaGreatDoor
open Go.Lib
set_option maxRecDepth 100000

def laidTabsH : List (String × DataW Unit) := [("copyist/hooks.tee", Rows.laid_copyist_hooks_tee), ("copyist/hooks.null", Rows.laid_copyist_hooks_null)]
theorem nTee : Tryz.prog.globalNamed "copyist/hooks.tee" = some 1 := by kernel_rfl
theorem nNull : Tryz.prog.globalNamed "copyist/hooks.null" = some 0 := by kernel_rfl
theorem yTee : (Tryz.prog.globals[1]?).map (·.type) = some 27 := by kernel_rfl
theorem yNull : (Tryz.prog.globals[0]?).map (·.type) = some 27 := by kernel_rfl
theorem cWord : Tryz.prog.cellsOf 27 = 2 := by kernel_rfl
theorem cInt : Tryz.prog.cellsOf 3 = 1 := by kernel_rfl
theorem word_reads {w : World} {n : String} {g : Nat} {a b : Int} (hn : Tryz.prog.globalNamed n = some g) (hy : (Tryz.prog.globals[g]?).map (·.type) = some 27) (h : VarReads Tryz.prog w n (.agg [.lit (.int .i64 a), .lit (.int .i64 b)])) :
    ∀ (i : Nat) v, [Value.int .i64 a, Value.int .i64 b][i]? = some v → w.cell? ⟨g, i, none⟩ = some v := by
  obtain ⟨g', t, cs, fuel, p, hg, hty, hvar, hd⟩ := h
  obtain rfl := Option.some.inj (hn.symm.trans hg)
  obtain rfl := Option.some.inj (hy.symm.trans hty)
  have hcs := ints_of_struct (zs := [a, b]) Tryz.underlying27 (fun j f hj => by
    match j, hj with
    | 0, hj => simp at hj; subst hj; exact ⟨Tryz.underlying3, rfl, cInt⟩
    | 1, hj => simp at hj; subst hj; exact ⟨Tryz.underlying3, rfl, cInt⟩
    | j + 2, hj => simp at hj) (by rw [cWord]; rfl) hd
  intro i v hv
  rw [World.var?_cell hg hvar i, ← Array.getElem?_toList, hcs]
  exact hv
theorem tabsH_of_laid {W : World} (h : laidMetH Tryz.prog laidTabsH W) : TabsH W := by
  have h' : laidMet Tryz.prog laidTabsH W := h
  have h1 := laidMet.reads h' (n := "copyist/hooks.tee") (d := Rows.laid_copyist_hooks_tee) (by simp [laidTabsH])
  have h2 := laidMet.reads h' (n := "copyist/hooks.null") (d := Rows.laid_copyist_hooks_null) (by simp [laidTabsH])
  intro g cs hm
  obtain ⟨f1, f2⟩ := rowsH_flat g cs hm
  refine ⟨f1, f2, ?_⟩
  unfold rowsH at hm
  simp only [List.mem_cons, Prod.mk.injEq, List.mem_nil_iff, or_false] at hm
  rcases hm with ⟨rfl, rfl⟩ | ⟨rfl, rfl⟩
  · exact word_reads nNull yNull h2
  · exact word_reads nTee yTee h1

def putCellsH (cs : Array Value) : Obj → Obj
  | .cells _ t frozen => .cells cs t frozen
  | o => o
noncomputable def laidWorldH (os : Os) : World :=
  { World.holding Tryz.prog os ⟨#[], #[], []⟩ with heap := ((World.holding Tryz.prog os ⟨#[], #[], []⟩).heap.modify 0 (putCellsH #[.int .i64 1, .int .i64 0])).modify 1 (putCellsH #[.int .i64 1, .int .i64 1]) }
theorem laid_metH (os : Os) (args : Array Value) : laidMet Tryz.prog laidTabsH ((laidWorldH os).forCall (fun _ _ => 0) ⟨#[], args, []⟩).memory :=
  laidMet_of_run' 8 (by kernel_rfl) (by kernel_rfl)
end Go.Proofs.YtaaebeiigkhcjaaGreatDoor
