/-
  Contract of package runes: Width. Conditions: none.
-/
import Derived.Test.YthemeeiedlbhkaaGreatDoorL4
namespace Go.Proofs.YthemeeiedlbhkaaGreatDoor
open Go.RowKit Go.Lib
set_option maxRecDepth 100000

end Go.Proofs.YthemeeiedlbhkaaGreatDoor
