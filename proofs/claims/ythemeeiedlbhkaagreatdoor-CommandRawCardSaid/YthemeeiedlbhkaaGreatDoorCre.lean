/-
  CommandRaw answers true in every world in which its arguments lie. Conditions: the two tables and the variable none lie as laid.
-/
import Derived.Test.YthemeeiedlbhkaaGreatDoorCrd
import Derived.Test.YthemeeiedlbhkaaGreatDoorArgW
import Derived.Test.YthemeeiedlbhkaaGreatDoorTabm
import Derived.Test.YthemeeiedlbhkaaGreatDoorCommandRun
namespace Go.Proofs.YthemeeiedlbhkaaGreatDoor
open Go.RowKit
set_option maxRecDepth 100000
theorem s_known (σ : Mem) (hR : RowsAt rowsU σ) : SCall G65 Tryz.prog 4 #[] σ (.bool true) σ :=
  closed_scall cosK_right known_run rfl rfl rowsU_low (fun g cs hm => Nat.lt_of_lt_of_le (rowsU_low g cs hm) (by decide)) rowsU_flat σ hR
theorem raw_any (v1 : Value) (l : List Wd) (w : World) (hT : TabsC w) (i1 : WordsA w v1 l) (b1 : ∀ x ∈ l, (-9223372036854775808 ≤ x.1 ∧ x.1 ≤ 9223372036854775807) ∧ (-9223372036854775808 ≤ x.2 ∧ x.2 ≤ 9223372036854775807)) :
    Calls Tryz.prog 7 #[v1] w fun e w' => e = .returned (.bool true) ∧ Below w.heap.size w w' := by
  obtain ⟨r1, u1, p1, q1, s1⟩ := arg_wordsF i1 0
  have hA : ∀ (k : Nat) (r : ARow), [r1][k]? = some r → (r.cs ≠ [] → (argMem rowsC [r1]).get (64 + k) = some (.row ⟨r.cs, 0, true⟩)) := fun k r hr hc => argMem_at hr hc
  have hR : RowsAt rowsC (argMem rowsC [r1]) := argMem_tab rowsC_nodup rowsC_low
  obtain ⟨tN, gN, hN⟩ := hR 0 [.int .i64 1, .int .i64 0] (List.mem_cons_self ..)
  obtain ⟨v, σ', hS, rfl⟩ := raw_law (σ0 := argMem rowsC [r1]) (Nat.le_refl _) rfl (s_known _ fun g cs hm => hR g cs (List.mem_cons_of_mem _ hm)) (s1 _ (hA 0 r1 rfl)) b1 hN
  refine arg_calls (rows := [r1]) (args := #[u1]) (cargs := #[v1]) hT rowsC_low (fun k r hr i u hu => ?_) ⟨rfl, fun i x x' h1 h2 => ?_⟩ hS rfl
  · have key : ∃ x, w.cell? ⟨r.blk, r.sh + i, none⟩ = some (.int .i64 x) ∧ u = .int .i64 x := by
      match k, hr with
      | 0, hr => cases hr; exact q1 i u hu
      | k + 1, hr => simp at hr
    obtain ⟨x, k1, rfl⟩ := key
    exact ⟨_, k1, .flat _ rfl⟩
  · match i, h1, h2 with
    | 0, h1, h2 => cases h1; cases h2; exact p1 _ (argMu_at (k := 0) (rows := [r1]) rfl)
    | i + 1, h1, _ => simp at h1
end Go.Proofs.YthemeeiedlbhkaaGreatDoor
