/-
  Contracts of slices.Clone at words: the clone is a row of its own. Conditions: the argument reads as a list of words.
-/
import Derived.Test.YtaaebeiigkhcjaaGreatDoorHeapIs
import Derived.Test.YtaaebeiigkhcjaaGreatDoorChecked
import Derived.Lib.SliceRun
namespace Go.Proofs.YtaaebeiigkhcjaaGreatDoor
open Go.RowKit
set_option maxRecDepth 100000

theorem wdC_length (l : List Wd) : (wdC l).length = l.length * 2 := by
  induction l with
  | nil => rfl
  | cons x l ih => simp [wdC] at ih ⊢; omega
end Go.Proofs.YtaaebeiigkhcjaaGreatDoor
