/-
  The two tables of unicode/utf8 that the rows list: what they give to the contracts, and a world in which they lie (for the rows' witness). Conditions: the row's list.
-/
import Derived.Test.YtjcmdifpkafdkaaDoorRows
import Derived.Lib.LaidU8
import Derived.Test.YtjcmdifpkafdkaaDoorShelf
namespace Go.Proofs.YtjcmdifpkafdkaaDoor
open Go.Lib Go.Shelf
set_option maxRecDepth 100000

def laidTabs : List (String × DataW Unit) := [("unicode/utf8.acceptRanges", Rows.laid_unicode_utf8_acceptRanges), ("unicode/utf8.first", Rows.laid_unicode_utf8_first)]
theorem nFirst : Tryd.prog.globalNamed "unicode/utf8.first" = some 0 := by kernel_rfl
theorem nAccept : Tryd.prog.globalNamed "unicode/utf8.acceptRanges" = some 1 := by kernel_rfl
theorem yFirst : (Tryd.prog.globals[0]?).map (·.type) = some 112 := by kernel_rfl
theorem yAccept : (Tryd.prog.globals[1]?).map (·.type) = some 115 := by kernel_rfl
theorem cByte : Tryd.prog.cellsOf 5 = 1 := by kernel_rfl
theorem cFirst : Tryd.prog.cellsOf 112 = 256 := by kernel_rfl
theorem cRange : Tryd.prog.cellsOf 114 = 2 := by kernel_rfl
theorem firstIs : Rows.laid_unicode_utf8_first = firstData := by kernel_rfl
theorem acceptIs : (Rows.laid_unicode_utf8_acceptRanges : DataW Unit) = acceptData := by kernel_rfl

theorem tabs_of_reads {w : World} (h3 : VarReads Tryd.prog w "unicode/utf8.first" firstData) (h4 : VarReads Tryd.prog w "unicode/utf8.acceptRanges" acceptData) : Lib.Utf8Tabs 0 1 w := by
 refine ⟨fun c hc => ?_, fun i hi => ?_⟩
 ·obtain ⟨g, t, cs, fuel, p, hg, hty, hvar, hd⟩ := h3
  obtain rfl := Option.some.inj (nFirst.symm.trans hg)
  obtain rfl := Option.some.inj (yFirst.symm.trans hty)
  have hcs := cells_of_tab Tryd.underlying112 Tryd.underlying5 cByte cFirst hd
  rw [World.var?_cell hg hvar c, ← Array.getElem?_toList, hcs]
  simp [firstTab, hc]
 ·obtain ⟨g, t, cs, fuel, p, hg, hty, hvar, hd⟩ := h4
  obtain rfl := Option.some.inj (nAccept.symm.trans hg)
  obtain rfl := Option.some.inj (yAccept.symm.trans hty)
  obtain ⟨fuel', d, q, hdi, he⟩ := array_elem Tryd.underlying115 hd i hi
  simp only [List.getElem?_map, List.getElem?_range hi, Option.map_some, Option.some.injEq] at hdi
  subst hdi
  rw [cRange] at he
  have hcs := ints_of_struct Tryd.underlying114 (fun j f hj => by
   match j, hj with
   | 0, hj => simp at hj; subst hj; exact ⟨Tryd.underlying5, rfl, cByte⟩
   | 1, hj => simp at hj; subst hj; exact ⟨Tryd.underlying5, rfl, cByte⟩
   | j + 2, hj => simp at hj) (by rw [cRange]; rfl) he
  have e0 := congrArg (·[0]?) hcs
  have e1 := congrArg (·[1]?) hcs
  simp only [List.getElem?_take, List.getElem?_drop] at e0 e1
  constructor
  ·rw [World.var?_cell hg hvar (2 * i), ← Array.getElem?_toList]
   simpa [Nat.mul_comm] using e0
  ·rw [World.var?_cell hg hvar (2 * i + 1), ← Array.getElem?_toList]
   simpa [Nat.mul_comm] using e1
theorem tabs_of_laid {W : World} (h : laidMetH Tryd.prog laidTabs W) : Lib.Utf8Tabs 0 1 W := by
 have h' : laidMet Tryd.prog laidTabs W := h
 refine tabs_of_reads ?_ ?_
 ·have := laidMet.reads h' (n := "unicode/utf8.first") (d := Rows.laid_unicode_utf8_first) (by simp [laidTabs])
  rwa [firstIs] at this
 ·have := laidMet.reads h' (n := "unicode/utf8.acceptRanges") (d := Rows.laid_unicode_utf8_acceptRanges) (by simp [laidTabs])
  rwa [acceptIs] at this

def putCells (cs : Array Value) : Obj → Obj
 | .cells _ t frozen => .cells cs t frozen
 | o => o
def firstCells : Array Value := (firstTab.map fun z => Value.int .u8 z).toArray
def acceptCells : Array Value := (((List.range 16).map fun i => [Value.int .u8 (accLo i), Value.int .u8 (accHi i)]).flatten).toArray
noncomputable def laidWorld (os : Os) : World :=
 { World.holding Tryd.prog os ⟨#[], #[], []⟩ with heap := ((World.holding Tryd.prog os ⟨#[], #[], []⟩).heap.modify 0 (putCells firstCells)).modify 1 (putCells acceptCells) }
theorem laid_met (os : Os) (args : Array Value) : laidMet Tryd.prog laidTabs ((laidWorld os).forCall (fun _ _ => 0) ⟨#[], args, []⟩).memory :=
 laidMet_of_run' 8 (by kernel_rfl) (by kernel_rfl)
end Go.Proofs.YtjcmdifpkafdkaaDoor
