/-
  Contract of the reference's point. Conditions: the string is not empty, of at most 10^12 bytes.
-/
import Derived.Test.YthemeeiedlbhkaaGreatDoorR1
namespace Go.Proofs.YthemeeiedlbhkaaGreatDoor
open Go.RowKit Go.Lib
set_option maxRecDepth 100000

end Go.Proofs.YthemeeiedlbhkaaGreatDoor
