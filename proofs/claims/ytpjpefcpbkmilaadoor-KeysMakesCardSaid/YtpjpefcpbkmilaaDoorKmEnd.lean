/-
  KeysMakes answers true at any base and modifiers, in every world in which the two tables lie. Conditions: those tables; numbers of 64 bits.
-/
import Derived.Test.YtpjpefcpbkmilaaDoorKmLaw
namespace Go.Proofs.YtpjpefcpbkmilaaDoor
open Go.RowKit
theorem keysMakes_any (b m : Int) (w : World) (b0 : -9223372036854775808 ≤ m) (b1 : m ≤ 9223372036854775807) (h : Lib.Utf8Tabs 0 1 w) : Calls Tryd.prog 3 #[.int .i64 b, .int .i64 m] w fun e w' => e = .returned (.bool true) ∧ Below w.heap.size w w' := by
  obtain ⟨v, σ', h1, rfl, rfl⟩ := law_any (G := 16) b m b0 b1 (startE 16 rowsU).mem (Nat.le_refl _) (start_rows (by unfold rowsU; simp) rowsU_low)
  exact calls_of (args := [.int .i64 b, .int .i64 m]) h1 rfl rfl (rowsU_lie h) rowsU_low
end Go.Proofs.YtpjpefcpbkmilaaDoor
