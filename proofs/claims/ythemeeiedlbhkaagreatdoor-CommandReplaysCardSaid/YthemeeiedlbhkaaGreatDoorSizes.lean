/-
  Contracts of the objects' method size. Conditions: the tables of unicode/utf8 lie as laid.
-/
import Derived.Test.YthemeeiedlbhkaaGreatDoorFind
import Derived.Test.YthemeeiedlbhkaaGreatDoorLen
namespace Go.Proofs.YthemeeiedlbhkaaGreatDoor
open Go.RowKit
set_option maxRecDepth 100000

end Go.Proofs.YthemeeiedlbhkaaGreatDoor
