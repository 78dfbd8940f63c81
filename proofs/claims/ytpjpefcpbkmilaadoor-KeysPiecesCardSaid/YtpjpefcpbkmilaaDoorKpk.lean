/-
  KeysPieces answers true in every world in which its arguments lie. Conditions: the two tables lie as laid.
-/
import Derived.Test.YtpjpefcpbkmilaaDoorKpj
import Derived.Test.YtpjpefcpbkmilaaDoorK2
namespace Go.Proofs.YtpjpefcpbkmilaaDoor
open Go.RowKit
set_option maxRecDepth 100000
theorem rowsU_nodup : (rowsU.map (·.1)).Nodup := by unfold rowsU; simp
theorem rowsU_low64 : ∀ g cs, (g, cs) ∈ rowsU → g < 64 := fun g cs hm => Nat.lt_of_lt_of_le (rowsU_low g cs hm) (by decide)
theorem pieces_any (s : ByteArray) (v1 : Value) (l : List Int) (w : World) (hT : Lib.Utf8Tabs 0 1 w) (i1 : IntsS w v1 l) (b1 : ∀ x ∈ l, -9223372036854775808 ≤ x ∧ x ≤ 9223372036854775807) :
    Calls Tryd.prog 6 #[.string s, v1] w fun e w' => e = .returned (.bool true) ∧ Below w.heap.size w w' := by
  obtain ⟨r1, u1, p1, q1, s1⟩ := arg_intsF i1 0
  obtain ⟨⟨A, c, _, g1, g2, _⟩, _⟩ := i1
  have hs : s = ⟨s.data.toList.toArray⟩ := by cases s; simp
  have hA : ∀ (k : Nat) (r : ARow), [r1][k]? = some r → (r.cs ≠ [] → (argMem rowsU [r1]).get (64 + k) = some (.row ⟨r.cs, 0, true⟩)) := fun k r hr hc => argMem_at hr hc
  have hR : RowsAt rowsU (argMem rowsU [r1]) := argMem_tab rowsU_nodup rowsU_low64
  obtain ⟨v, σ', hS, rfl⟩ := pieces_law (G := 65) (σ0 := argMem rowsU [r1]) (xs := s.data.toList) (Nat.le_refl _) (by decide) rfl (u8f_of hR) hR (s1 _ (hA 0 r1 rfl)) (by omega) b1
  rw [← hs] at hS
  refine arg_calls (rows := [r1]) (args := #[.string s, u1]) (cargs := #[.string s, v1]) (rowsU_lie hT) rowsU_low64 (fun k r hr i u hu => ?_) ⟨rfl, fun i x x' h1 h2 => ?_⟩ hS rfl
  · have key : ∃ x, w.cell? ⟨r.blk, r.sh + i, none⟩ = some (.int .i64 x) ∧ u = .int .i64 x := by
      match k, hr with
      | 0, hr => cases hr; exact q1 i u hu
      | k + 1, hr => simp at hr
    obtain ⟨x, k1, rfl⟩ := key
    exact ⟨_, k1, .flat _ rfl⟩
  · match i, h1, h2 with
    | 0, h1, h2 => cases h1; cases h2; exact .flat _ rfl
    | 1, h1, h2 => cases h1; cases h2; exact p1 _ (argMu_at (k := 0) (rows := [r1]) rfl)
    | i + 2, h1, _ => simp at h1
end Go.Proofs.YtpjpefcpbkmilaaDoor
