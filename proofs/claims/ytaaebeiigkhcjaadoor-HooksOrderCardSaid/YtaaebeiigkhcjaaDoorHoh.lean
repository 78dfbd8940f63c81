/-
  HooksOrder answers true in every world in which its arguments lie. Conditions: the variables null and tee lie as laid.
-/
import Derived.Test.YtaaebeiigkhcjaaDoorHog
import Derived.Test.YtaaebeiigkhcjaaDoorArgW
namespace Go.Proofs.YtaaebeiigkhcjaaDoor
open Go.RowKit
set_option maxRecDepth 100000
theorem order_any (v1 : Value) (l : List Wd) (w : World) (hT : TabsH w) (i1 : WordsA w v1 l) (b1 : ∀ x ∈ l, (-9223372036854775808 ≤ x.1 ∧ x.1 ≤ 9223372036854775807) ∧ (-9223372036854775808 ≤ x.2 ∧ x.2 ≤ 9223372036854775807)) :
    Calls Tryd.prog 3 #[v1] w fun e w' => e = .returned (.bool true) ∧ Below w.heap.size w w' := by
  obtain ⟨r1, u1, p1, q1, s1⟩ := arg_wordsF i1 0
  have h64 : ∀ g cs, (g, cs) ∈ rowsH → g < 64 := fun g cs hm => Nat.lt_of_lt_of_le (rowsH_low g cs hm) (by decide)
  have hnd : (rowsH.map (·.1)).Nodup := by unfold rowsH; simp
  have hA : ∀ (k : Nat) (r : ARow), [r1, ⟨0, 0, []⟩][k]? = some r → (r.cs ≠ [] → (argMem rowsH [r1, ⟨0, 0, []⟩]).get (64 + k) = some (.row ⟨r.cs, 0, true⟩)) := fun k r hr hc => argMem_at hr hc
  have hR : RowsAt rowsH (argMem rowsH [r1, ⟨0, 0, []⟩]) := argMem_tab hnd h64
  obtain ⟨v, σ', hS, rfl⟩ := order_wc (σ0 := argMem rowsH [r1, ⟨0, 0, []⟩]) (Nat.le_refl _) (by decide) rfl hR (s1 _ (hA 0 r1 rfl)) b1 (hR _ _ (by simp [rowsH])) (hR _ _ (by simp [rowsH]))
  refine arg_calls (rows := [r1, ⟨0, 0, []⟩]) (args := #[u1]) (cargs := #[v1]) hT h64 (fun k r hr i u hu => ?_) ⟨rfl, fun i x x' h1 h2 => ?_⟩ hS rfl
  · have key : ∃ x, w.cell? ⟨r.blk, r.sh + i, none⟩ = some (.int .i64 x) ∧ u = .int .i64 x := by
      match k, hr with
      | 0, hr => cases hr; exact q1 i u hu
      | 1, hr => cases hr; simp at hu
      | k + 2, hr => simp at hr
    obtain ⟨x, k1, rfl⟩ := key
    exact ⟨_, k1, .flat _ rfl⟩
  · match i, h1, h2 with
    | 0, h1, h2 => cases h1; cases h2; exact p1 _ (argMu_at (k := 0) (rows := [r1, ⟨0, 0, []⟩]) rfl)
    | i + 1, h1, _ => simp at h1
end Go.Proofs.YtaaebeiigkhcjaaDoor
