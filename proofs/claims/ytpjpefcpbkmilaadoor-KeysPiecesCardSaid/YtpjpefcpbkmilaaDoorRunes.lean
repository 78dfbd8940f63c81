/-
  Contracts of package runes: Valid, Len, List, At. Conditions: the tables of unicode/utf8 lie as laid; a string of at most 10^12 bytes.
-/
import Derived.Test.YtpjpefcpbkmilaaDoorBase
import Derived.Test.YtpjpefcpbkmilaaDoorUtf
import Derived.Test.YtpjpefcpbkmilaaDoorTabs
import Derived.Test.YtpjpefcpbkmilaaDoorChecked
namespace Go.Proofs.YtpjpefcpbkmilaaDoor
open Go.RowKit Go.Lib
set_option maxRecDepth 100000

end Go.Proofs.YtpjpefcpbkmilaaDoor
