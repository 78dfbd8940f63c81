/-
  Contracts of copyistkit's Same, Pick and Own at ints. Conditions: the arguments read as lists of ints.
-/
import Derived.Test.YtpjpefcpbkmilaaDoorBase
import Derived.Test.YtpjpefcpbkmilaaDoorChecked
namespace Go.Proofs.YtpjpefcpbkmilaaDoor
open Go.RowKit
set_option maxRecDepth 100000

end Go.Proofs.YtpjpefcpbkmilaaDoor
