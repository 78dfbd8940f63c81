/-
  Words: parts, match. Conditions: none.
-/
import Derived.Test.YtjcmdifpkafdkaaDoorCta
namespace Go.Proofs.YtjcmdifpkafdkaaDoor
open Go.Lib
set_option maxRecDepth 100000
open Go.RowKit
section
variable {fold : Bool} {c ms : List Int} {ws : List (List Int)} {i e : Nat}
end
section
variable {G : Nat} {A : Abs} {σ : Mem} {F : Nat → Option Blk2} {L : List Ent} {fold : Bool} {xs c0 ms : List Int} {ws : List (List Int)} {wsl : List Value} {v1 v2 v3 : Value}
end
end Go.Proofs.YtjcmdifpkafdkaaDoor
