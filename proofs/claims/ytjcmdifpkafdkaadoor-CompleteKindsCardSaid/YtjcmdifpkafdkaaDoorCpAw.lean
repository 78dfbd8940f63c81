/-
  awake of the chapter of completion answers true, in the second memory. Conditions: none.
-/
import Derived.Test.YtjcmdifpkafdkaaDoorRowsU
import Derived.KernelRfl
namespace Go.Proofs.YtjcmdifpkafdkaaDoor
set_option maxRecDepth 100000
noncomputable def k0 : Kn := noK rowsU
theorem k0_right {G : Nat} : k0.Right G Tryd.prog := noK_right
end Go.Proofs.YtjcmdifpkafdkaaDoor
