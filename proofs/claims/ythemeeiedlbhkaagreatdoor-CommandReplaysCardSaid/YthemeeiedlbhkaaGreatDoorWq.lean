/-
  Words held against one another. Conditions: none.
-/
import Derived.Test.YthemeeiedlbhkaaGreatDoorS4
import Derived.Test.YthemeeiedlbhkaaGreatDoorB1
import Derived.Test.YthemeeiedlbhkaaGreatDoorProg
import Derived.KernelRfl
namespace Go.Proofs.YthemeeiedlbhkaaGreatDoor
set_option maxRecDepth 100000
end Go.Proofs.YthemeeiedlbhkaaGreatDoor
