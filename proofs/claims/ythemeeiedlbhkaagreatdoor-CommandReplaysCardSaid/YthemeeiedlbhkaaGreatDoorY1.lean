/-
  Opening arguments of the rows: ints and slices of ints, as the walks take them. No program in this text. Conditions: none.
  Opening arguments that are slices of words, for the second memory. No program in this text. Conditions: none.
-/
import Derived.Test.YthemeeiedlbhkaaGreatDoorB1
import Derived.ProofKit
import Derived.OpenShut
import Derived.Test.YthemeeiedlbhkaaGreatDoorHeapIs
import Derived.Deep.SlicePairs
import Derived.Lib.SmallJoins
namespace Go.Proofs.YthemeeiedlbhkaaGreatDoor
open Go.ChangeShapes Go.WideShapes Go.ChangeAt Go.RowKit

theorem int_bounds {x : Int} (h : (Lit.int .i64 x).wf = true) : -9223372036854775808 ≤ x ∧ x ≤ 9223372036854775807 := by
  have := bounds_i64 h
  omega
end Go.Proofs.YthemeeiedlbhkaaGreatDoor
namespace Go.Proofs.YthemeeiedlbhkaaGreatDoor
open Go.ChangeShapes Go.WideShapes Go.ChangeAt Go.RowKit

theorem addr_none (b off j : Nat) : (⟨b, off, none⟩ : Addr).add j = ⟨b, off + j, none⟩ := by unfold Addr.add; split <;> simp_all
end Go.Proofs.YthemeeiedlbhkaaGreatDoor
