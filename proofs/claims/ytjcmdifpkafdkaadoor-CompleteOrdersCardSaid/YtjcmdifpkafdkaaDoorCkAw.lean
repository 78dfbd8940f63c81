/-
  CompleteKnown answers true, in the second memory. Conditions: none.
-/
import Derived.Test.YtjcmdifpkafdkaaDoorCpAw
namespace Go.Proofs.YtjcmdifpkafdkaaDoor
set_option maxRecDepth 1000000
end Go.Proofs.YtjcmdifpkafdkaaDoor
