/-
  Contract of the reference's point. Conditions: the string is not empty, of at most 10^12 bytes.
-/
import Derived.Test.YtjcmdifpkafdkaaDoorR1
namespace Go.Proofs.YtjcmdifpkafdkaaDoor
open Go.RowKit Go.Lib
set_option maxRecDepth 100000

end Go.Proofs.YtjcmdifpkafdkaaDoor
