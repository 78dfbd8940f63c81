/-
  Contract of package runes' search in spans (sort.Search with a closure). Conditions: the spans lie in memory, their ends rising.
  Contracts of package runes: Is, Text, Cut. Conditions: the tables of unicode/utf8 lie as laid; sizes as stated.
  Contracts of package runes: near, Up, Down, Fold, Word, Width. Conditions: none.
-/
import Derived.Test.YthemeeiedlbhkaaGreatDoorBase
import Derived.Test.YthemeeiedlbhkaaGreatDoorShelf
import Derived.Test.YthemeeiedlbhkaaGreatDoorChecked
import Derived.Sort.Defs
import Derived.Test.YthemeeiedlbhkaaGreatDoorRunes
import Derived.Laws.IdiomStrings
import Derived.Great.BuildSlice
namespace Go.Proofs.YthemeeiedlbhkaaGreatDoor
open Go.RowKit Go.Lib Go.Sort Go.Shelf
set_option maxRecDepth 100000

end Go.Proofs.YthemeeiedlbhkaaGreatDoor
namespace Go.Proofs.YthemeeiedlbhkaaGreatDoor
open Go.RowKit Go.Lib
set_option maxRecDepth 100000

/-! ### Cut -/
end Go.Proofs.YthemeeiedlbhkaaGreatDoor
namespace Go.Proofs.YthemeeiedlbhkaaGreatDoor
open Go.RowKit Go.Lib
set_option maxRecDepth 100000

/-! ### the search, plainly -/
def rising : List (Int × Int) → Bool
 | [] => true
 | p :: r => decide (p.1 ≤ p.2) && (r.all fun q => decide (p.2 < q.1)) && rising r
/-! ### tables in memory -/
def flatSp (sp : List (Int × Int)) : List Value := sp.flatMap fun p => [.int .i64 p.1, .int .i64 p.2]
def zeroW : List (Int × Int) := [(768, 879), (1155, 1161), (1425, 1469), (8203, 8207), (8400, 8447), (65024, 65039), (65056, 65071)]
def zeroCells : Array Value := (flatSp zeroW).toArray
end Go.Proofs.YthemeeiedlbhkaaGreatDoor
