/-
  Contracts of slices.Clone at words: the clone is a row of its own. Conditions: the argument reads as a list of words.
-/
import Derived.Test.YthemeeiedlbhkaaGreatDoorHeapIs
import Derived.Test.YthemeeiedlbhkaaGreatDoorChecked
import Derived.Lib.SliceRun
namespace Go.Proofs.YthemeeiedlbhkaaGreatDoor
open Go.RowKit
set_option maxRecDepth 100000

end Go.Proofs.YthemeeiedlbhkaaGreatDoor
