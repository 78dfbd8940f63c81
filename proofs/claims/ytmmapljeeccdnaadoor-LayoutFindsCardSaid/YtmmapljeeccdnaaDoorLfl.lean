/-
  LayoutFinds answers true in every world in which its arguments lie. Conditions: the two tables lie as laid.
-/
import Derived.Test.YtmmapljeeccdnaaDoorK3
import Derived.Test.YtmmapljeeccdnaaDoorLfAw
import Derived.Test.YtmmapljeeccdnaaDoorK2
namespace Go.Proofs.YtmmapljeeccdnaaDoor
open Go.RowKit
set_option maxRecDepth 100000
theorem rowsU_nodup : (rowsU.map (·.1)).Nodup := by unfold rowsU; simp
theorem rowsU_low64 : ∀ g cs, (g, cs) ∈ rowsU → g < 64 := fun g cs hm => Nat.lt_of_lt_of_le (rowsU_low g cs hm) (by decide)
theorem s_awake (G : Nat) (hG : 64 ≤ G) (σ : Mem) (hR : RowsAt rowsU σ) : SCall G Tryd.prog 11 #[] σ (.bool true) σ :=
  closed_scall k0_right awake_run rfl rfl rowsU_low (fun g cs hm => by have := rowsU_low g cs hm; omega) rowsU_flat σ hR
theorem finds_any (v1 : Value) (pos row col width : Int) (l : List RowV) (w : World) (hT : Lib.Utf8Tabs 0 1 w) (i1 : RowsA w v1 l) :
    Calls Tryd.prog 4 #[v1, .int .i64 pos, .int .i64 row, .int .i64 col, .int .i64 width] w fun e w' => e = .returned (.bool true) ∧ Below w.heap.size w w' := by
  obtain ⟨rs, u1, p1, s1⟩ := arg_rowsF i1
  have hA : ∀ (k : Nat) (r : ARow), rs[k]? = some r → r.cs ≠ [] → (argMem rowsU rs).get (64 + k) = some (.row ⟨r.cs, 0, true⟩) := fun k r hr hc => argMem_at hr hc
  have hR : RowsAt rowsU (argMem rowsU rs) := argMem_tab rowsU_nodup rowsU_low64
  obtain ⟨cs, ps, s2, s3⟩ := s1 _ hA
  obtain ⟨v, σ', hS, rfl⟩ := finds_law (G := 64 + rs.length) (σ0 := argMem rowsU rs) (pos := pos) (row := row) (col := col) (width := width) (Nat.le_refl _) rfl (fun σ' h => s_awake _ (by omega) σ' fun g cs hm => by obtain ⟨t, b, hr⟩ := hR g cs hm; exact ⟨t, b, h _ _ hr⟩) s2 s3
  obtain ⟨p2, p3⟩ := p1 (argMu rowsU rs) fun i r hr => argMu_at hr
  refine arg_calls (rows := rs) (args := #[u1, .int .i64 pos, .int .i64 row, .int .i64 col, .int .i64 width]) (cargs := #[v1, .int .i64 pos, .int .i64 row, .int .i64 col, .int .i64 width]) (rowsU_lie hT) rowsU_low64 (fun k r hr i u hu => p3 k r hr i u hu) ⟨rfl, fun i x x' h1 h2 => ?_⟩ hS rfl
  match i, h1, h2 with
  | 0, h1, h2 => cases h1; cases h2; exact p2
  | 1, h1, h2 => cases h1; cases h2; exact .flat _ rfl
  | 2, h1, h2 => cases h1; cases h2; exact .flat _ rfl
  | 3, h1, h2 => cases h1; cases h2; exact .flat _ rfl
  | 4, h1, h2 => cases h1; cases h2; exact .flat _ rfl
  | i + 5, h1, _ => simp at h1
end Go.Proofs.YtmmapljeeccdnaaDoor
