/-
  The two tables of unicode/utf8 that the rows list: what they give to the contracts, and a world in which they lie (for the rows' witness). Conditions: the row's list.
-/
import Derived.Test.YtaaebeiigkhcjaaGreatDoorRows
import Derived.Lib.LaidU8
import Derived.Test.YtaaebeiigkhcjaaGreatDoorShelf
namespace Go.Proofs.YtaaebeiigkhcjaaGreatDoor
open Go.Lib Go.Shelf
set_option maxRecDepth 100000

def firstCells : Array Value := (firstTab.map fun z => Value.int .u8 z).toArray
end Go.Proofs.YtaaebeiigkhcjaaGreatDoor
