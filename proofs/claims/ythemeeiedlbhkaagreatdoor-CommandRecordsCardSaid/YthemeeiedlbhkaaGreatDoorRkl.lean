/-
  CommandRecords answers true in every world in which its arguments lie. Conditions: the two tables lie as laid.
-/
import Derived.Test.YthemeeiedlbhkaaGreatDoorK4
import Derived.Test.YthemeeiedlbhkaaGreatDoorArgW
import Derived.Test.YthemeeiedlbhkaaGreatDoorComAw
namespace Go.Proofs.YthemeeiedlbhkaaGreatDoor
open Go.RowKit
set_option maxRecDepth 100000
theorem rowsU_nodup : (rowsU.map (·.1)).Nodup := by unfold rowsU; simp
theorem rowsU_low64 : ∀ g cs, (g, cs) ∈ rowsU → g < 64 := fun g cs hm => Nat.lt_of_lt_of_le (rowsU_low g cs hm) (by decide)
theorem s_awake (σ : Mem) (hR : RowsAt rowsU σ) : SCall G65 Tryz.prog 8 #[] σ (.bool true) σ :=
  closed_scall k0_right awake_run rfl rfl rowsU_low (fun g cs hm => Nat.lt_of_lt_of_le (rowsU_low g cs hm) (by decide)) rowsU_flat σ hR
theorem records_any (v1 : Value) (l : List Wd) (w : World) (hT : Lib.Utf8Tabs 1 2 w) (i1 : WordsA w v1 l) (b1 : ∀ x ∈ l, (-9223372036854775808 ≤ x.1 ∧ x.1 ≤ 9223372036854775807) ∧ (-9223372036854775808 ≤ x.2 ∧ x.2 ≤ 9223372036854775807)) :
    Calls Tryz.prog 3 #[v1] w fun e w' => e = .returned (.bool true) ∧ Below w.heap.size w w' := by
  obtain ⟨r1, u1, p1, q1, s1⟩ := arg_wordsF i1 0
  have hA : ∀ (k : Nat) (r : ARow), [r1][k]? = some r → (r.cs ≠ [] → (argMem rowsU [r1]).get (64 + k) = some (.row ⟨r.cs, 0, true⟩)) := fun k r hr hc => argMem_at hr hc
  have hR : RowsAt rowsU (argMem rowsU [r1]) := argMem_tab rowsU_nodup rowsU_low64
  obtain ⟨v, σ', hS, rfl⟩ := rec_law (σ0 := argMem rowsU [r1]) (Nat.le_refl _) rfl (fun σ' h => s_awake σ' fun g cs hm => by obtain ⟨t, b, hr⟩ := hR g cs hm; exact ⟨t, b, h _ _ hr⟩) (s1 _ (hA 0 r1 rfl)) b1
  refine arg_calls (rows := [r1]) (args := #[u1]) (cargs := #[v1]) (rowsU_lie hT) rowsU_low64 (fun k r hr i u hu => ?_) ⟨rfl, fun i x x' h1 h2 => ?_⟩ hS rfl
  · have key : ∃ x, w.cell? ⟨r.blk, r.sh + i, none⟩ = some (.int .i64 x) ∧ u = .int .i64 x := by
      match k, hr with
      | 0, hr => cases hr; exact q1 i u hu
      | k + 1, hr => simp at hr
    obtain ⟨x, k1, rfl⟩ := key
    exact ⟨_, k1, .flat _ rfl⟩
  · match i, h1, h2 with
    | 0, h1, h2 => cases h1; cases h2; exact p1 _ (argMu_at (k := 0) (rows := [r1]) rfl)
    | i + 1, h1, _ => simp at h1
end Go.Proofs.YthemeeiedlbhkaaGreatDoor
