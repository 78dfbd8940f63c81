/-
  lists.Tail, Nth, Append, Length, eq in the second memory; the kit's Int and Pick. Conditions: the heap lies there as HeapAt says.
-/
import Derived.Test.YtaaebeiigkhcjaaDoorLv
import Derived.Test.YtaaebeiigkhcjaaDoorPick
namespace Go.Proofs.YtaaebeiigkhcjaaDoor
open Go.RowKit
set_option maxRecDepth 100000
theorem int_any (a : Int) (w : World) : Calls Tryd.prog 19 #[.int .i64 a] w fun e w' => e = .returned (.agg #[.int .i64 0, .int .i64 a]) ∧ Below w.heap.size w w' := by
  go_enter Tryd.func19, Tryd.ntmps19
  go_wp2
  exact bodyPost_ret (v := .agg #[.int .i64 0, .int .i64 a]) (by simp [results, Tryd.results19, go_sem]) rfl ⟨rfl, (Below.refl _ _).alloc (Nat.le_refl _) _⟩
section
variable {G h : Nat} {m : HM} {σ0 σ : Mem}
theorem s_int (a : Int) : SCall G Tryd.prog 19 #[.int .i64 a] σ (wdV (0, a)) σ := below_call rfl rfl fun w => int_any a w
theorem s_pick (x n : Int) (h1 : -9223372036854775808 ≤ x) (h2 : x ≤ 9223372036854775807) (h3 : 0 < n) (h4 : n ≤ 9223372036854775807) : SCall G Tryd.prog 8 #[.int .i64 x, .int .i64 n] σ (.int .i64 (pickOf x n)) σ :=
  below_call rfl rfl fun w => (pick_any x n w h1 h2 (by omega) h4).mono fun e w' ⟨k1, k2⟩ => ⟨k1, k2 ▸ Below.refl _ _⟩
end
end Go.Proofs.YtaaebeiigkhcjaaDoor
