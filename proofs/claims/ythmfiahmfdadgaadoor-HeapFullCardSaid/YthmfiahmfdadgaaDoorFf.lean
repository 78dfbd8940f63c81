/-
  HeapFull answers true in every world. Conditions: the tables of unicode/utf8 lie as laid.
-/
import Derived.Test.YthmfiahmfdadgaaDoorFe
import Derived.Test.YthmfiahmfdadgaaDoorOpen
import Derived.Test.YthmfiahmfdadgaaDoorS3
namespace Go.Proofs.YthmfiahmfdadgaaDoor
open Go.RowKit
set_option maxRecDepth 100000
theorem full_any (lim wh : Int) (w : World) (hT : Tabs w) (hl1 : -9223372036854775808 ≤ lim) (hl2 : lim ≤ 9223372036854775807) (hw1 : -9223372036854775808 ≤ wh) (hw2 : wh ≤ 9223372036854775807) :
    Calls Tryd.prog 4 #[.int .i64 lim, .int .i64 wh] w fun e w' => e = .returned (.bool true) ∧ Below w.heap.size w w' := by
  have h64 : ∀ g cs, (g, cs) ∈ rowsU → g < 64 := fun g cs hm => Nat.lt_of_lt_of_le (rowsU_low g cs hm) (by decide)
  have hnd : (rowsU.map (·.1)).Nodup := by unfold rowsU; simp
  obtain ⟨v, σ', hS, rfl⟩ := full_wc (G := 64) (σ0 := argMem rowsU []) (Nat.le_refl _) hl1 hl2 hw1 hw2 (by decide) (argMem_tab hnd h64) rfl
  refine arg_calls (rows := []) (rowsU_lie hT) h64 (fun k r hr => by simp at hr) ⟨rfl, fun i y y' h1 h2 => ?_⟩ hS rfl
  match i, h1, h2 with
  | 0, h1, h2 => cases h1; cases h2; exact .flat _ rfl
  | 1, h1, h2 => cases h1; cases h2; exact .flat _ rfl
  | i + 2, h1, _ => simp at h1
end Go.Proofs.YthmfiahmfdadgaaDoor
