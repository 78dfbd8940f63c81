/-
  Opening arguments of the rows: ints and slices of ints, as the walks take them. No program in this text. Conditions: none.
-/
import Derived.Test.YtmlmnbcnfalaaaaDoorBase
import Derived.ProofKit
import Derived.OpenShut
namespace Go.Proofs.YtmlmnbcnfalaaaaDoor
open Go.ChangeShapes Go.WideShapes Go.ChangeAt Go.RowKit

theorem int_bounds {x : Int} (h : (Lit.int .i64 x).wf = true) : -9223372036854775808 ≤ x ∧ x ≤ 9223372036854775807 := by
 have := bounds_i64 h
 omega
end Go.Proofs.YtmlmnbcnfalaaaaDoor
