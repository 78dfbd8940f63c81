/-
  Contract of the reference's point. Conditions: the string is not empty, of at most 10^12 bytes.
-/
import Derived.Test.YtbfldnppfenbgaaDoorRefStr
namespace Go.Proofs.YtbfldnppfenbgaaDoor
open Go.RowKit Go.Lib
set_option maxRecDepth 100000

def PtPost (l : List UInt8) (w : World) (e : Ending) (w' : World) : Prop := e = .returned (.tuple #[.int .i64 ((ptOf l).1 : Nat), .int .i64 ((ptOf l).2 : Nat)]) ∧ ∃ q, w' = w.drewN q
end Go.Proofs.YtbfldnppfenbgaaDoor
