/-
  Contracts of the objects' method size. Conditions: the tables of unicode/utf8 lie as laid.
-/
import Derived.Test.YtdbmflnkdoeaoaaDoorFind
import Derived.Test.YtdbmflnkdoeaoaaDoorLen
namespace Go.Proofs.YtdbmflnkdoeaoaaDoor
open Go.RowKit
set_option maxRecDepth 100000

theorem size_pair (a : Addr) (w : World) : Calls Tryd.prog 109 #[.pointer (some a)] w fun e w' => e = .returned (.int .i64 0) ∧ Below w.heap.size w w' := by
  go_enter Tryd.func109, Tryd.ntmps109
  go_wp2
  go_ret
  exact ⟨rfl, Below.refl _ _⟩
end Go.Proofs.YtdbmflnkdoeaoaaDoor
