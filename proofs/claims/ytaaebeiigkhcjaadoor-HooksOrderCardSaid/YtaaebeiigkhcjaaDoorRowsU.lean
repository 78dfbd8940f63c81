/-
  The two tables of unicode/utf8 as rows of the second memory. Conditions: none.
-/
import Derived.Test.YtaaebeiigkhcjaaDoorS3
import Derived.Test.YtaaebeiigkhcjaaDoorRows
import Derived.Lib.LaidU8
namespace Go.Proofs.YtaaebeiigkhcjaaDoor
open Go.Lib

noncomputable def firstL : List Value := (List.range 256).map fun c => Value.int .u8 (firstT c)
noncomputable def accL : List Value := (List.range 32).map fun k => Value.int .u8 (if k % 2 = 0 then accLo (k / 2) else accHi (k / 2))
noncomputable def rowsU : List (Nat × List Value) := [(2, firstL), (3, accL)]
end Go.Proofs.YtaaebeiigkhcjaaDoor
