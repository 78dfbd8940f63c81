/-
  Helpers of the laws of completion. Conditions: the tables of unicode/utf8 lie.
-/
import Derived.Test.YthemeeiedlbhkaaDoorC2
import Derived.Test.YthemeeiedlbhkaaDoorK1
import Derived.Test.YthemeeiedlbhkaaDoorL4
namespace Go.Proofs.YthemeeiedlbhkaaDoor
open Go.Lib
set_option maxRecDepth 100000
section
variable {G : Nat} {A : Abs} {σ : Mem} {F : Nat → Option Blk2} {L : List Ent} {l m : List (List UInt8)} {s : List UInt8} {v1 v2 : Value}
end
end Go.Proofs.YthemeeiedlbhkaaDoor
