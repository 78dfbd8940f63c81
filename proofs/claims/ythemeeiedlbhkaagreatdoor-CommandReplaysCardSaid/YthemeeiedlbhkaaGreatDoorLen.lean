/-
  Contracts of package runes: Valid, Len. Conditions: the tables of unicode/utf8 lie as laid; a string of at most 10^12 bytes.
-/
import Derived.Test.YthemeeiedlbhkaaGreatDoorB1
import Derived.Test.YthemeeiedlbhkaaGreatDoorUtf
import Derived.Test.YthemeeiedlbhkaaGreatDoorTabs
import Derived.Test.YthemeeiedlbhkaaGreatDoorChecked
namespace Go.Proofs.YthemeeiedlbhkaaGreatDoor
open Go.RowKit Go.Lib
set_option maxRecDepth 100000

abbrev Tabs (w : World) : Prop := Lib.Utf8Tabs 1 2 w
theorem tabs_lt {w : World} (h : Tabs w) : 1 < w.heap.size ∧ 2 < w.heap.size :=
  ⟨World.block_lt_of_cell? _ _ (h.1 0 (by omega)), World.block_lt_of_cell? _ _ (h.2 0 (by omega)).1⟩
end Go.Proofs.YthemeeiedlbhkaaGreatDoor
