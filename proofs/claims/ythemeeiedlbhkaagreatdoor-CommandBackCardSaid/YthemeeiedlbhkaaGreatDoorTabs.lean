/-
  The two tables of unicode/utf8 that the rows list: what they give to the contracts, and a world in which they lie (for the rows' witness). Conditions: the row's list.
-/
import Derived.Test.YthemeeiedlbhkaaGreatDoorRows
import Derived.Lib.LaidU8
import Derived.Test.YthemeeiedlbhkaaGreatDoorShelf
namespace Go.Proofs.YthemeeiedlbhkaaGreatDoor
open Go.Lib Go.Shelf
set_option maxRecDepth 100000

theorem nFirst : Tryz.prog.globalNamed "unicode/utf8.first" = some 1 := by kernel_rfl
theorem nAccept : Tryz.prog.globalNamed "unicode/utf8.acceptRanges" = some 2 := by kernel_rfl
theorem yFirst : (Tryz.prog.globals[1]?).map (·.type) = some 200 := by kernel_rfl
theorem yAccept : (Tryz.prog.globals[2]?).map (·.type) = some 203 := by kernel_rfl
theorem cByte : Tryz.prog.cellsOf 5 = 1 := by kernel_rfl
theorem cFirst : Tryz.prog.cellsOf 200 = 256 := by kernel_rfl
theorem cRange : Tryz.prog.cellsOf 202 = 2 := by kernel_rfl
theorem firstIs : Rows.laid_unicode_utf8_first = firstData := by kernel_rfl
theorem acceptIs : (Rows.laid_unicode_utf8_acceptRanges : DataW Unit) = acceptData := by kernel_rfl

theorem tabs_of_reads {w : World} (h3 : VarReads Tryz.prog w "unicode/utf8.first" firstData) (h4 : VarReads Tryz.prog w "unicode/utf8.acceptRanges" acceptData) : Lib.Utf8Tabs 1 2 w := by
 refine ⟨fun c hc => ?_, fun i hi => ?_⟩
 ·obtain ⟨g, t, cs, fuel, p, hg, hty, hvar, hd⟩ := h3
  obtain rfl := Option.some.inj (nFirst.symm.trans hg)
  obtain rfl := Option.some.inj (yFirst.symm.trans hty)
  have hcs := cells_of_tab Tryz.underlying200 Tryz.underlying5 cByte cFirst hd
  rw [World.var?_cell hg hvar c, ← Array.getElem?_toList, hcs]
  simp [firstTab, hc]
 ·obtain ⟨g, t, cs, fuel, p, hg, hty, hvar, hd⟩ := h4
  obtain rfl := Option.some.inj (nAccept.symm.trans hg)
  obtain rfl := Option.some.inj (yAccept.symm.trans hty)
  obtain ⟨fuel', d, q, hdi, he⟩ := array_elem Tryz.underlying203 hd i hi
  simp only [List.getElem?_map, List.getElem?_range hi, Option.map_some, Option.some.injEq] at hdi
  subst hdi
  rw [cRange] at he
  have hcs := ints_of_struct Tryz.underlying202 (fun j f hj => by
   match j, hj with
   | 0, hj => simp at hj; subst hj; exact ⟨Tryz.underlying5, rfl, cByte⟩
   | 1, hj => simp at hj; subst hj; exact ⟨Tryz.underlying5, rfl, cByte⟩
   | j + 2, hj => simp at hj) (by rw [cRange]; rfl) he
  have e0 := congrArg (·[0]?) hcs
  have e1 := congrArg (·[1]?) hcs
  simp only [List.getElem?_take, List.getElem?_drop] at e0 e1
  constructor
  ·rw [World.var?_cell hg hvar (2 * i), ← Array.getElem?_toList]
   simpa [Nat.mul_comm] using e0
  ·rw [World.var?_cell hg hvar (2 * i + 1), ← Array.getElem?_toList]
   simpa [Nat.mul_comm] using e1
def putCells (cs : Array Value) : Obj → Obj
 | .cells _ t frozen => .cells cs t frozen
 | o => o
def firstCells : Array Value := (firstTab.map fun z => Value.int .u8 z).toArray
def acceptCells : Array Value := (((List.range 16).map fun i => [Value.int .u8 (accLo i), Value.int .u8 (accHi i)]).flatten).toArray
end Go.Proofs.YthemeeiedlbhkaaGreatDoor
