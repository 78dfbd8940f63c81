/-
  The reference of completion by prefixes. Conditions: none.
-/
import Derived.Test.YtjcmdifpkafdkaaDoorC4
import Derived.Test.YtjcmdifpkafdkaaDoorC3
namespace Go.Proofs.YtjcmdifpkafdkaaDoor
open Go.Lib
set_option maxRecDepth 100000
open Go.RowKit
section
variable {G : Nat} {A : Abs} {σ : Mem} {F : Nat → Option Blk2} {L : List Ent} {fold : Bool} {l m : List (List UInt8)} {s : List UInt8} {v1 : Value}
end
end Go.Proofs.YtjcmdifpkafdkaaDoor
