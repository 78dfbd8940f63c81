/-
  KeysNames answers true, in every world in which the two tables lie. Conditions: those tables.
-/
import Derived.Test.YtpjpefcpbkmilaaDoorKySK
namespace Go.Proofs.YtpjpefcpbkmilaaDoor
open Go.RowKit
set_option maxRecDepth 1000000
theorem names_run : (match doCall 16 Tryd.prog (ev 16 Tryd.prog kysK 3000) 7 [].toArray (startE 16 kysK.rows) with | some (u, _) => eqV 3 u (.bool true) | _ => false) = true := by kernel_rfl
theorem names_any (w : World) (h : Lib.Utf8Tabs 0 1 w) : Calls Tryd.prog 7 #[] w fun e w' => e = .returned (.bool true) ∧ Below w.heap.size w w' :=
  closed_run kysK_right names_run rfl rfl (rowsU_lie h) rowsU_low
end Go.Proofs.YtpjpefcpbkmilaaDoor
