/-
  ListsRings answers true in every world. Conditions: the tables of unicode/utf8 lie as laid.
-/
import Derived.Test.YtehcckhdppdkcaaGreatDoorLRg
import Derived.Test.YtehcckhdppdkcaaGreatDoorS3
namespace Go.Proofs.YtehcckhdppdkcaaGreatDoor
open Go.RowKit
set_option maxRecDepth 100000
theorem rings_any (n at_ : Int) (x : Wd) (w : World) (hT : Tabs w) (hn1 : -9223372036854775808 ≤ n) (hn2 : n ≤ 9223372036854775807) (ht1 : -9223372036854775808 ≤ at_) (ht2 : at_ ≤ 9223372036854775807) :
    Calls Tryz.prog 5 #[.int .i64 n, .int .i64 at_, .agg #[.int .i64 x.1, .int .i64 x.2]] w fun e w' => e = .returned (.bool true) ∧ Below w.heap.size w w' := by
  have h64 : ∀ g cs, (g, cs) ∈ rowsU → g < 64 := fun g cs hm => Nat.lt_of_lt_of_le (rowsU_low g cs hm) (by decide)
  have hnd : (rowsU.map (·.1)).Nodup := by unfold rowsU; simp
  obtain ⟨v, σ', hS, rfl⟩ := rings_wc (G := 64) (σ0 := argMem rowsU []) (x := x) (Nat.le_refl _) hn1 hn2 ht1 ht2 (by decide) (argMem_tab hnd h64) rfl
  refine arg_calls (rows := []) (rowsU_lie hT) h64 (fun k r hr => by simp at hr) ⟨rfl, fun i y y' h1 h2 => ?_⟩ hS rfl
  match i, h1, h2 with
  | 0, h1, h2 => cases h1; cases h2; exact .flat _ rfl
  | 1, h1, h2 => cases h1; cases h2; exact .flat _ rfl
  | 2, h1, h2 => cases h1; cases h2; exact closedV_rel _ 3 _ rfl
  | i + 3, h1, _ => simp at h1
end Go.Proofs.YtehcckhdppdkcaaGreatDoor
