/-
  Contract of package runes: Width. Conditions: none.
-/
import Derived.Test.YtjcmdifpkafdkaaDoorL4
namespace Go.Proofs.YtjcmdifpkafdkaaDoor
open Go.RowKit Go.Lib
set_option maxRecDepth 100000

end Go.Proofs.YtjcmdifpkafdkaaDoor
