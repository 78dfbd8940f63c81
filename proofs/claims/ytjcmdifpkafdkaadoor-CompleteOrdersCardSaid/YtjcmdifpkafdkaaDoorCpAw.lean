/-
  awake of the chapter of completion answers true, in the second memory. Conditions: none.
-/
import Derived.Test.YtjcmdifpkafdkaaDoorRowsU
import Derived.KernelRfl
namespace Go.Proofs.YtjcmdifpkafdkaaDoor
set_option maxRecDepth 100000
noncomputable def k0 : Kn := noK rowsU
theorem k0_right {G : Nat} : k0.Right G Tryd.prog := noK_right
theorem awake_run : (match doCall 16 Tryd.prog (ev 16 Tryd.prog k0 3000) 11 [].toArray (startE 16 k0.rows) with | some (u, _) => eqV 3 u (.bool true) | _ => false) = true := by kernel_rfl
end Go.Proofs.YtjcmdifpkafdkaaDoor
