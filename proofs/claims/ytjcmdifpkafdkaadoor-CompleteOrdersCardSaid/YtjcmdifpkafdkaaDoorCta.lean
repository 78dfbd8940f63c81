/-
  Completion word by word in plain words. Plain. Conditions: none.
-/
import Derived.Test.YtjcmdifpkafdkaaDoorC3
namespace Go.Proofs.YtjcmdifpkafdkaaDoor
open Go.Lib
set_option maxRecDepth 100000
end Go.Proofs.YtjcmdifpkafdkaaDoor
