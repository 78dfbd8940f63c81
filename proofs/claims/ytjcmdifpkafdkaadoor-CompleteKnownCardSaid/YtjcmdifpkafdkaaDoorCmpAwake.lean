/-
  awake of the chapter law31 answers true, in the second memory. Conditions: none.
-/
import Derived.Test.YtjcmdifpkafdkaaDoorRowsU
import Derived.KernelRfl
namespace Go.Proofs.YtjcmdifpkafdkaaDoor
set_option maxRecDepth 1000000
theorem awake_run : (match doCall 16 Tryd.prog (ev 16 Tryd.prog noK 3000) 11 #[] (startE 16 rowsU) with | some (.bool b, _) => b | _ => false) = true := by kernel_rfl
theorem awake_known : Kn.Right ⟨[11], rowsU⟩ 16 Tryd.prog := one_known noK_right awake_run rowsU_low rowsU_flat
end Go.Proofs.YtjcmdifpkafdkaaDoor
