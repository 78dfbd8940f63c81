/-
  Candidates that begin with an input; its completion. Conditions: the tables of unicode/utf8 lie.
-/
import Derived.Test.YtmlmnbcnfalaaaaDoorC2
namespace Go.Proofs.YtmlmnbcnfalaaaaDoor
open Go.Lib
set_option maxRecDepth 100000
open Go.RowKit
theorem GRow.one {G : Nat} {σ : Mem} {e : TypeId} {s n : Nat} {v : Value} {xs : List Value} (g : GRow G σ e s v n xs) : v.cells.toList = [v] := by cases g <;> rfl
section
variable {G : Nat} {A : Abs} {σ : Mem} {F : Nat → Option Blk2} {L : List Ent} {fold : Bool} {l : List (List UInt8)} {s : List UInt8} {v1 : Value}
end
end Go.Proofs.YtmlmnbcnfalaaaaDoor
