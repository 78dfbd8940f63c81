/-
  Contract of the reference's point. Conditions: the string is not empty, of at most 10^12 bytes.
-/
import Derived.Test.YtjcmdifpkafdkaaDoorRefPtA
import Derived.Test.YtjcmdifpkafdkaaDoorRefPtB
import Derived.Test.YtjcmdifpkafdkaaDoorRefPtC
import Derived.Test.YtjcmdifpkafdkaaDoorRefPtD
import Derived.Test.YtjcmdifpkafdkaaDoorRefPtE
namespace Go.Proofs.YtjcmdifpkafdkaaDoor
open Go.RowKit Go.Lib
set_option maxRecDepth 100000

end Go.Proofs.YtjcmdifpkafdkaaDoor
