/-
  CommandNone answers true at any number, in every world in which the two tables lie. Conditions: those tables.
-/
import Derived.Test.YthemeeiedlbhkaaDoorComAwake
namespace Go.Proofs.YthemeeiedlbhkaaDoor
open Go.RowKit
set_option maxRecDepth 1000000
theorem none_run (n : Int) : (match doCall 16 Tryd.prog (ev 16 Tryd.prog k1 3000) 4 [.int .i64 n].toArray (startE 16 k1.rows) with | some (u, _) => eqV 3 u (.bool true) | _ => false) = true := by kernel_rfl
theorem commandNone_any (n : Int) (w : World) (h : Lib.Utf8Tabs 0 1 w) : Calls Tryd.prog 4 #[.int .i64 n] w fun e w' => e = .returned (.bool true) ∧ Below w.heap.size w w' :=
  closed_run k1_right (none_run n) rfl rfl (rowsU_lie h) rowsU_low
end Go.Proofs.YthemeeiedlbhkaaDoor
