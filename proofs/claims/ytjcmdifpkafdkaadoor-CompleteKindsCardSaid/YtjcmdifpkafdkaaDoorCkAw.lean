/-
  CompleteKnown answers true, in the second memory. Conditions: none.
-/
import Derived.Test.YtjcmdifpkafdkaaDoorCpAw
namespace Go.Proofs.YtjcmdifpkafdkaaDoor
set_option maxRecDepth 1000000
theorem known_run2 : (match doCall 16 Tryd.prog (ev 16 Tryd.prog k0 3000) 6 [].toArray (startE 16 k0.rows) with | some (u, _) => eqV 3 u (.bool true) | _ => false) = true := by kernel_rfl
end Go.Proofs.YtjcmdifpkafdkaaDoor
