/-
  Contracts of the reference's List, Valid, Len, At. Conditions: a string of at most 10^12 bytes.
  Contracts of the reference's bytes, Text, Cut and of copyistkit's Own at ints. Conditions: sizes as stated.
-/
import Derived.Test.YtjcmdifpkafdkaaDoorRefPoint
import Derived.Test.YtjcmdifpkafdkaaDoorL6
namespace Go.Proofs.YtjcmdifpkafdkaaDoor
open Go.RowKit Go.Lib
set_option maxRecDepth 100000

end Go.Proofs.YtjcmdifpkafdkaaDoor
namespace Go.Proofs.YtjcmdifpkafdkaaDoor
open Go.RowKit Go.Lib
set_option maxRecDepth 100000

/-! ### Cut -/
end Go.Proofs.YtjcmdifpkafdkaaDoor
