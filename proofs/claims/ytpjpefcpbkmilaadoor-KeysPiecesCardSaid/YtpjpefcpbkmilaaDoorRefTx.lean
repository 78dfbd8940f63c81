/-
  Contracts of the reference's Is, bytes, Text alone. Conditions: sizes as stated.
-/
import Derived.Test.YtpjpefcpbkmilaaDoorText
import Derived.Test.YtpjpefcpbkmilaaDoorKit
import Derived.Test.YtpjpefcpbkmilaaDoorJoins
namespace Go.Proofs.YtpjpefcpbkmilaaDoor
open Go.RowKit Go.Lib
set_option maxRecDepth 100000
end Go.Proofs.YtpjpefcpbkmilaaDoor
