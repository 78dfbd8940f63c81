/-
  Contracts of the reference's List, Valid, Len, At. Conditions: a string of at most 10^12 bytes.
  Contracts of the reference's bytes, Text, Cut and of copyistkit's Own at ints. Conditions: sizes as stated.
-/
import Derived.Test.YthemeeiedlbhkaaGreatDoorRefPoint
import Derived.Test.YthemeeiedlbhkaaGreatDoorL6
namespace Go.Proofs.YthemeeiedlbhkaaGreatDoor
open Go.RowKit Go.Lib
set_option maxRecDepth 100000

end Go.Proofs.YthemeeiedlbhkaaGreatDoor
namespace Go.Proofs.YthemeeiedlbhkaaGreatDoor
open Go.RowKit Go.Lib
set_option maxRecDepth 100000

/-! ### Cut -/
end Go.Proofs.YthemeeiedlbhkaaGreatDoor
