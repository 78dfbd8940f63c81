/-
  lives of the chapter of keys answers true, wherever the two tables lie. Conditions: the tables.
-/
import Derived.Test.YtpjpefcpbkmilaaDoorRowsU
import Derived.Test.YtpjpefcpbkmilaaDoorS3
import Derived.KernelRfl
namespace Go.Proofs.YtpjpefcpbkmilaaDoor
set_option maxRecDepth 1000000
theorem lives_run : (match doCall 16 Tryd.prog (ev 16 Tryd.prog (noK rowsU) 3000) 9 [].toArray (startE 16 (noK rowsU).rows) with | some (u, _) => eqV 3 u (.bool true) | _ => false) = true := by kernel_rfl
theorem lives_wc {G : Nat} (hG : 16 ≤ G) (σ : Mem) (h : RowsAt rowsU σ) : WC G Tryd.prog 9 #[] σ fun v σ' => v = .bool true ∧ σ' = σ :=
  ⟨_, σ, closed_scall (K := noK rowsU) noK_right lives_run rfl rfl rowsU_low (fun g cs hm => Nat.lt_of_lt_of_le (rowsU_low g cs hm) hG) rowsU_flat σ h, rfl, rfl⟩
end Go.Proofs.YtpjpefcpbkmilaaDoor
