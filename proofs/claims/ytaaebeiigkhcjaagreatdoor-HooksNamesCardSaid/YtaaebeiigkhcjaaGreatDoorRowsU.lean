/-
  The two tables of unicode/utf8 as rows of the second memory. Conditions: none.
-/
import Derived.Test.YtaaebeiigkhcjaaGreatDoorS3
import Derived.Test.YtaaebeiigkhcjaaGreatDoorRows
import Derived.Lib.LaidU8
namespace Go.Proofs.YtaaebeiigkhcjaaGreatDoor
open Go.Lib

end Go.Proofs.YtaaebeiigkhcjaaGreatDoor
