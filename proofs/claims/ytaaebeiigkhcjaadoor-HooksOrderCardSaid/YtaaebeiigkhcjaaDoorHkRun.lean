/-
  lives() of the hooks laws answers true, in every second memory in which the variables null and tee lie. Conditions: those variables.
-/
import Derived.Test.YtaaebeiigkhcjaaDoorRowsH
namespace Go.Proofs.YtaaebeiigkhcjaaDoor
open Go.RowKit
set_option maxRecDepth 1000000
theorem lives_run : (match doCall 16 Tryd.prog (ev 16 Tryd.prog (noK rowsH) 3000) 5 [].toArray (startE 16 (noK rowsH).rows) with | some (u, _) => eqV 3 u (.bool true) | _ => false) = true := by kernel_rfl
theorem s_lives {G : Nat} (h16 : 16 ≤ G) (σ : Mem) (hR : RowsAt rowsH σ) : SCall G Tryd.prog 5 #[] σ (.bool true) σ :=
  closed_scall noK_right lives_run rfl rfl rowsH_low (fun g cs hm => Nat.lt_of_lt_of_le (rowsH_low g cs hm) h16) rowsH_flat σ hR
end Go.Proofs.YtaaebeiigkhcjaaDoor
