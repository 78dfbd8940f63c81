/-
  Contract of package runes: Width. Conditions: none.
-/
import Derived.Test.YthemeeiedlbhkaaDoorL4
namespace Go.Proofs.YthemeeiedlbhkaaDoor
open Go.RowKit Go.Lib
set_option maxRecDepth 100000

end Go.Proofs.YthemeeiedlbhkaaDoor
