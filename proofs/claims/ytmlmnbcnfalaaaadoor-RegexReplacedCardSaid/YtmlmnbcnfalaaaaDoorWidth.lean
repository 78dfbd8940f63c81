/-
  Contract of package runes: Width. Conditions: none.
-/
import Derived.Test.YtmlmnbcnfalaaaaDoorL4
namespace Go.Proofs.YtmlmnbcnfalaaaaDoor
open Go.RowKit Go.Lib
set_option maxRecDepth 100000

end Go.Proofs.YtmlmnbcnfalaaaaDoor
