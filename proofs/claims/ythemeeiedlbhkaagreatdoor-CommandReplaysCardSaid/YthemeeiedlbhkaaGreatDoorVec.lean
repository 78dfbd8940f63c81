/-
  Contracts of package heap: VecOf, At, SetAt over what find gives. Conditions: what find gives is known.
-/
import Derived.Test.YthemeeiedlbhkaaGreatDoorG1
import Derived.Test.YthemeeiedlbhkaaGreatDoorClone
import Derived.Test.YthemeeiedlbhkaaGreatDoorLen
namespace Go.Proofs.YthemeeiedlbhkaaGreatDoor
open Go.RowKit
set_option maxRecDepth 100000

end Go.Proofs.YthemeeiedlbhkaaGreatDoor
