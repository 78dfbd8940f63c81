/-
  Contracts of the objects' method size. Conditions: the tables of unicode/utf8 lie as laid.
-/
import Derived.Test.YtaaebeiigkhcjaaGreatDoorFind
import Derived.Test.YtaaebeiigkhcjaaGreatDoorLen
namespace Go.Proofs.YtaaebeiigkhcjaaGreatDoor
open Go.RowKit
set_option maxRecDepth 100000

theorem size_pair (a : Addr) (w : World) : Calls Tryz.prog 152 #[.pointer (some a)] w fun e w' => e = .returned (.int .i64 0) ∧ Below w.heap.size w w' := by
  go_enter Tryz.func152, Tryz.ntmps152
  go_wp2
  go_ret
  exact ⟨rfl, Below.refl _ _⟩
end Go.Proofs.YtaaebeiigkhcjaaGreatDoor
