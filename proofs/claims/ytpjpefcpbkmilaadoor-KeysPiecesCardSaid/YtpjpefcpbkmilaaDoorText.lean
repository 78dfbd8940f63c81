/-
  Contracts of package runes: Is, Text, Cut. Conditions: the tables of unicode/utf8 lie as laid; sizes as stated.
-/
import Derived.Test.YtpjpefcpbkmilaaDoorRunes
import Derived.Laws.IdiomStrings
namespace Go.Proofs.YtpjpefcpbkmilaaDoor
open Go.RowKit Go.Lib
set_option maxRecDepth 100000

/-! ### Cut -/
end Go.Proofs.YtpjpefcpbkmilaaDoor
