/-
  KeysTyped answers true in every world in which its argument lies. Conditions: the two tables lie as laid.
-/
import Derived.Test.YtpjpefcpbkmilaaDoorKth
import Derived.Test.YtpjpefcpbkmilaaDoorK2
namespace Go.Proofs.YtpjpefcpbkmilaaDoor
open Go.RowKit
set_option maxRecDepth 100000
theorem rowsU_nodup : (rowsU.map (·.1)).Nodup := by unfold rowsU; simp
theorem rowsU_low64 : ∀ g cs, (g, cs) ∈ rowsU → g < 64 := fun g cs hm => Nat.lt_of_lt_of_le (rowsU_low g cs hm) (by decide)
theorem typed_any (v1 : Value) (l : List Int) (w : World) (hT : Lib.Utf8Tabs 0 1 w) (i1 : IntsS w v1 l) :
    Calls Tryd.prog 5 #[v1] w fun e w' => e = .returned (.bool true) ∧ Below w.heap.size w w' := by
  obtain ⟨r1, u1, p1, q1, s1⟩ := arg_intsK i1 0
  have hA : ∀ (k : Nat) (r : ARow), [r1][k]? = some r → (r.cs ≠ [] → (argMem rowsU [r1]).get (64 + k) = some (.row ⟨r.cs, 0, true⟩)) := fun k r hr hc => argMem_at hr hc
  have hR : RowsAt rowsU (argMem rowsU [r1]) := argMem_tab rowsU_nodup rowsU_low64
  obtain ⟨s2, s3⟩ := s1 _ (hA 0 r1 rfl)
  obtain ⟨v, σ', hS, rfl⟩ := typed_law (G := 65) (σ0 := argMem rowsU [r1]) (Nat.le_refl _) (by decide) rfl (u8f_of hR) hR s2 s3
  refine arg_calls (rows := [r1]) (args := #[u1]) (cargs := #[v1]) (rowsU_lie hT) rowsU_low64 (fun k r hr i u hu => ?_) ⟨rfl, fun i x x' h1 h2 => ?_⟩ hS rfl
  · have key : ∃ x, w.cell? ⟨r.blk, r.sh + i, none⟩ = some (.int .i64 x) ∧ u = .int .i64 x := by
      match k, hr with
      | 0, hr => cases hr; exact q1 i u hu
      | k + 1, hr => simp at hr
    obtain ⟨x, k1, rfl⟩ := key
    exact ⟨_, k1, .flat _ rfl⟩
  · match i, h1, h2 with
    | 0, h1, h2 => cases h1; cases h2; exact p1 _ (argMu_at (k := 0) (rows := [r1]) rfl)
    | i + 1, h1, _ => simp at h1
end Go.Proofs.YtpjpefcpbkmilaaDoor
