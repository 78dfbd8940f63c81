/-
  KeymapRemaps answers true in every world in which the two tables lie. Conditions: those tables.
-/
import Derived.Test.YtdbmflnkdoeaoaaDoorKrd
import Derived.Test.YtdbmflnkdoeaoaaDoorS3
namespace Go.Proofs.YtdbmflnkdoeaoaaDoor
open Go.RowKit
set_option maxRecDepth 100000
theorem remaps_any (a b c d : Int) (w : World) (hT : Lib.Utf8Tabs 0 1 w) (lb : -9223372036854775808 ≤ b) (ub : b ≤ 9223372036854775807) (lc : -9223372036854775808 ≤ c) (uc : c ≤ 9223372036854775807) (ld : -9223372036854775808 ≤ d) (ud : d ≤ 9223372036854775807) :
    Calls Tryd.prog 3 #[.int .i64 a, .int .i64 b, .int .i64 c, .int .i64 d] w fun e w' => e = .returned (.bool true) ∧ Below w.heap.size w w' := by
  have h64 : ∀ g cs, (g, cs) ∈ rowsU → g < 64 := fun g cs hm => Nat.lt_of_lt_of_le (rowsU_low g cs hm) (by decide)
  have hnd : (rowsU.map (·.1)).Nodup := by unfold rowsU; simp
  have hR : RowsAt rowsU (argMem rowsU [⟨0, 0, []⟩]) := argMem_tab hnd h64
  obtain ⟨v, σ', hS, rfl⟩ := remaps_wc (σ0 := argMem rowsU [⟨0, 0, []⟩]) (a := a) (Nat.le_refl _) (by decide) rfl hR lb ub lc uc ld ud
  refine arg_calls (rows := [⟨0, 0, []⟩]) (args := #[.int .i64 a, .int .i64 b, .int .i64 c, .int .i64 d]) (cargs := #[.int .i64 a, .int .i64 b, .int .i64 c, .int .i64 d]) (rowsU_lie hT) h64 (fun k r hr i u hu => ?_) ⟨rfl, fun i x x' h1 h2 => ?_⟩ hS rfl
  · match k, hr with
    | 0, hr => cases hr; simp at hu
    | k + 1, hr => simp at hr
  · match i, h1, h2 with
    | 0, h1, h2 => cases h1; cases h2; exact .flat _ rfl
    | 1, h1, h2 => cases h1; cases h2; exact .flat _ rfl
    | 2, h1, h2 => cases h1; cases h2; exact .flat _ rfl
    | 3, h1, h2 => cases h1; cases h2; exact .flat _ rfl
    | i + 4, h1, _ => simp at h1
end Go.Proofs.YtdbmflnkdoeaoaaDoor
