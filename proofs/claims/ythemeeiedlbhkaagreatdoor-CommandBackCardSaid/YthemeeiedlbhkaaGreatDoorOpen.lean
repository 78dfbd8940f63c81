/-
  Opening arguments of the rows: ints and slices of ints, as the walks take them. No program in this text. Conditions: none.
-/
import Derived.Test.YthemeeiedlbhkaaGreatDoorBase
import Derived.ProofKit
import Derived.OpenShut
namespace Go.Proofs.YthemeeiedlbhkaaGreatDoor
open Go.ChangeShapes Go.WideShapes Go.ChangeAt Go.RowKit

end Go.Proofs.YthemeeiedlbhkaaGreatDoor
