/-
  LayoutWhole answers true in every world in which its arguments lie. Conditions: the two tables lie as laid.
-/
import Derived.Test.YtmmapljeeccdnaaDoorLyz
import Derived.Test.YtmmapljeeccdnaaDoorL5
import Derived.Test.YtmmapljeeccdnaaDoorK2
namespace Go.Proofs.YtmmapljeeccdnaaDoor
open Go.RowKit
set_option maxRecDepth 100000
theorem whole_any (v1 : Value) (l : List Int) (width : Int) (w : World) (hT : Lib.Utf8Tabs 0 1 w) (i1 : IntsS w v1 l) (b1 : ∀ x ∈ l, -9223372036854775808 ≤ x ∧ x ≤ 9223372036854775807) (w1 : -9223372036854775808 ≤ width) (w2 : width ≤ 9223372036854775807) :
    Calls Tryd.prog 6 #[v1, .int .i64 width] w fun e w' => e = .returned (.bool true) ∧ Below w.heap.size w w' := by
  obtain ⟨r1, u1, p1, q1, s1⟩ := arg_intsF i1 0
  have hA : ∀ (k : Nat) (r : ARow), [r1][k]? = some r → (r.cs ≠ [] → (argMem rowsU [r1]).get (64 + k) = some (.row ⟨r.cs, 0, true⟩)) := fun k r hr hc => argMem_at hr hc
  have hR : RowsAt rowsU (argMem rowsU [r1]) := argMem_tab rowsU_nodup rowsU_low64
  obtain ⟨v, σ', hS, rfl⟩ := whole_law (G := 64 + [r1].length) (σ0 := argMem rowsU [r1]) b1 w1 w2 (Nat.le_refl _) rfl (by simp) (u8f_of hR) (fun σ' h => s_known _ (by simp) σ' (keepsR hR h)) (s1 _ (hA 0 r1 rfl))
  refine arg_calls (rows := [r1]) (args := #[u1, .int .i64 width]) (cargs := #[v1, .int .i64 width]) (rowsU_lie hT) rowsU_low64 (fun k r hr i u hu => ?_) ⟨rfl, fun i x x' h1 h2 => ?_⟩ hS rfl
  · have key : ∃ x, w.cell? ⟨r.blk, r.sh + i, none⟩ = some (.int .i64 x) ∧ u = .int .i64 x := by
      match k, hr with
      | 0, hr => cases hr; exact q1 i u hu
      | k + 1, hr => simp at hr
    obtain ⟨x, k1, rfl⟩ := key
    exact ⟨_, k1, .flat _ rfl⟩
  · match i, h1, h2 with
    | 0, h1, h2 => cases h1; cases h2; exact p1 _ (argMu_at (k := 0) (rows := [r1]) rfl)
    | 1, h1, h2 => cases h1; cases h2; exact .flat _ rfl
    | i + 2, h1, _ => simp at h1
end Go.Proofs.YtmmapljeeccdnaaDoor
