/-
  Contracts of (*heap.Heap).add at a pair where no number is free below: full by size, a new object. Conditions: the heap's block lies as said; what the method size gives.
  Contracts of (*heap.Heap).add at a vector where no number is free below: full by size, a new object. Conditions: the heap's block lies as said; what the method size gives.
  Contracts of (*heap.Heap).add at a text where no number is free below: full by size, a new object. Conditions: the heap's block lies as said; what the method size gives.
-/
import Derived.Test.YthemeeiedlbhkaaGreatDoorAdd
namespace Go.Proofs.YthemeeiedlbhkaaGreatDoor
open Go.RowKit
set_option maxRecDepth 100000
-- pair
end Go.Proofs.YthemeeiedlbhkaaGreatDoor
namespace Go.Proofs.YthemeeiedlbhkaaGreatDoor
open Go.RowKit
set_option maxRecDepth 100000
-- vector
end Go.Proofs.YthemeeiedlbhkaaGreatDoor
namespace Go.Proofs.YthemeeiedlbhkaaGreatDoor
open Go.RowKit
set_option maxRecDepth 100000
-- text
end Go.Proofs.YthemeeiedlbhkaaGreatDoor
