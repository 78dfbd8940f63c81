/-
  CommandReplays answers true in every world in which its arguments lie. Conditions: the two tables and the variable none lie as laid.
-/
import Derived.Test.YthemeeiedlbhkaaGreatDoorRkn
import Derived.Test.YthemeeiedlbhkaaGreatDoorTabm
import Derived.Test.YthemeeiedlbhkaaGreatDoorCommandRun
namespace Go.Proofs.YthemeeiedlbhkaaGreatDoor
open Go.RowKit
set_option maxRecDepth 100000
theorem replays_any (v1 : Value) (often far : Int) (l : List (List Int)) (w : World) (hT : TabsC w) (i1 : IntssS w v1 l) (ho1 : -9223372036854775808 ≤ often) (ho2 : often ≤ 9223372036854775807) (hf1 : -9223372036854775808 ≤ far) (hf2 : far ≤ 9223372036854775807) :
    Calls Tryz.prog 6 #[v1, .int .i64 often, .int .i64 far] w fun e w' => e = .returned (.bool true) ∧ Below w.heap.size w w' := by
  obtain ⟨rs, u1, p1, s1⟩ := arg_intssF i1
  have hA : ∀ (k : Nat) (r : ARow), rs[k]? = some r → r.cs ≠ [] → (argMem rowsC rs).get (64 + k) = some (.row ⟨r.cs, 0, true⟩) := fun k r hr hc => argMem_at hr hc
  have hR : RowsAt rowsC (argMem rowsC rs) := argMem_tab rowsC_nodup rowsC_low
  obtain ⟨vs, s2, s3⟩ := s1 _ hA
  have CK : SCall (64 + rs.length) Tryz.prog 4 #[] (argMem rowsC rs) (.bool true) (argMem rowsC rs) :=
    closed_scall cosK_right known_run rfl rfl rowsU_low (fun g cs hm => by have := rowsU_low g cs hm; omega) rowsU_flat _ fun g cs hm => hR g cs (List.mem_cons_of_mem _ hm)
  obtain ⟨v, σ', hS, rfl⟩ := rep_law (G := 64 + rs.length) (σ0 := argMem rowsC rs) (often := often) (far := far) (Nat.le_refl _) rfl CK s2 s3 ho1 ho2 hf1 hf2
  obtain ⟨p2, p3⟩ := p1 (argMu rowsC rs) fun i r hr => argMu_at hr
  refine arg_calls (rows := rs) (args := #[u1, .int .i64 often, .int .i64 far]) (cargs := #[v1, .int .i64 often, .int .i64 far]) hT rowsC_low (fun k r hr i u hu => p3 k r hr i u hu) ⟨rfl, fun i x x' h1 h2 => ?_⟩ hS rfl
  match i, h1, h2 with
  | 0, h1, h2 => cases h1; cases h2; exact p2
  | 1, h1, h2 => cases h1; cases h2; exact .flat _ rfl
  | 2, h1, h2 => cases h1; cases h2; exact .flat _ rfl
  | i + 3, h1, _ => simp at h1
end Go.Proofs.YthemeeiedlbhkaaGreatDoor
