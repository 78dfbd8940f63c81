/-
  The two tables of unicode/utf8 that the rows list: what they give to the contracts, and a world in which they lie (for the rows' witness). Conditions: the row's list.
-/
import Derived.Test.YtaaebeiigkhcjaaDoorRows
import Derived.Lib.LaidU8
import Derived.Test.YtaaebeiigkhcjaaDoorShelf
namespace Go.Proofs.YtaaebeiigkhcjaaDoor
open Go.Lib Go.Shelf
set_option maxRecDepth 100000

/-- A world for the witness: the settled one, both tables holding what they hold. -/
def putCells (cs : Array Value) : Obj → Obj
  | .cells _ t frozen => .cells cs t frozen
  | o => o
def firstCells : Array Value := (firstTab.map fun z => Value.int .u8 z).toArray
def acceptCells : Array Value := (((List.range 16).map fun i => [Value.int .u8 (accLo i), Value.int .u8 (accHi i)]).flatten).toArray
noncomputable def laidWorld (os : Os) : World :=
  { World.holding Tryd.prog os ⟨#[], #[], []⟩ with heap := ((World.holding Tryd.prog os ⟨#[], #[], []⟩).heap.modify 2 (putCells firstCells)).modify 3 (putCells acceptCells) }
end Go.Proofs.YtaaebeiigkhcjaaDoor
