/-
  counts (ListsNames) answers true in every world, and as a call of the second memory. Conditions: the tables of unicode/utf8 lie as laid.
-/
import Derived.Test.YtehcckhdppdkcaaGreatDoorNg
import Derived.Test.YtehcckhdppdkcaaGreatDoorS3
import Derived.Test.YtehcckhdppdkcaaGreatDoorLsRun
namespace Go.Proofs.YtehcckhdppdkcaaGreatDoor
open Go.RowKit
set_option maxRecDepth 100000
/-- A call that leaves all alone where the tables lie. -/
theorem tab_callN {P : Program} {G : Nat} {f : FuncId} {args : Array Value} {v : Value} {σ : Mem} (hR : RowsAt rowsU σ) (h16 : 16 ≤ G) (hl : args.toList.all (closedV 3) = true) (hv : closedV 3 v = true)
    (hc : ∀ w, Tabs w → Calls P f args w fun e w' => e = .returned v ∧ Below w.heap.size w w') : SCall G P f args σ v σ := by
  refine ⟨Nat.le_refl _, fun μ w cargs hs hGn hf har => ?_⟩
  have hT : Tabs w := tabs_of_rows (rows_lie hs (fun g cs hm => Nat.lt_of_lt_of_le (rowsU_low g cs hm) h16) (fun g cs hm => Nat.lt_of_lt_of_le (rowsU_low g cs hm) (by decide)) rowsU_flat hR)
  have hz : cargs = args := by
    apply Array.ext
    · exact har.1.symm
    · intro i h1 h2
      exact closedV_eq 3 _ _ (List.all_eq_true.1 hl _ (by simp)) (har.2 i args[i] cargs[i] (by simp [h2]) (by simp [h1]))
  subst hz
  refine (hc w hT).mono ?_
  rintro e w' ⟨rfl, hb⟩
  have own2 := OwnOk.same (G := G) (σ := σ) (μ := μ) (w := w) (w' := w') (σ' := σ) rfl (Ext.refl μ) rfl hb.size (fun B hB _ => hb.block B hB) fun c z ci hz hc => .inr ⟨c, z, ci, hz, hc, rfl⟩
  exact ⟨v, μ, rfl, ⟨Nat.le_refl _, fun b h1 h2 => absurd h1 (by omega), fun _ _ => rfl, ⟨hs.glob, fun b x bi hx hm => (hs.blk b x bi hx hm).keep (hb.block _ (hs.blk b x bi hx hm).lt) (Ext.refl _), hs.inj, hs.rw_, own2 hs.abs⟩, hb.size, hb.os, hb.tape, hb.output, fun b x bi hb' hx _ => absurd (Mem.lt hx) (by omega), fun _ x _ h => ⟨x, h⟩, hGn, own_id, fun B hB _ _ => hb.block B hB⟩, closedV_rel _ 3 v hv⟩
theorem counts_any (w : World) (hT : Tabs w) : Calls Tryz.prog 39 #[] w fun e w' => e = .returned (.bool true) ∧ Below w.heap.size w w' := by
  have h64 : ∀ g cs, (g, cs) ∈ rowsU → g < 64 := fun g cs hm => Nat.lt_of_lt_of_le (rowsU_low g cs hm) (by decide)
  obtain ⟨v, σ', hS, rfl⟩ := counts_wc (G := 64) (σ0 := argMem rowsU []) (Nat.le_refl _) rfl
  exact arg_calls (rows := []) (rowsU_lie hT) h64 (fun k r hr => by simp at hr) ⟨rfl, fun i y y' h1 h2 => by simp at h1⟩ hS rfl
theorem s_counts {σ : Mem} (hR : RowsAt rowsU σ) : SCall 16 Tryz.prog 39 #[] σ (.bool true) σ := tab_callN hR (Nat.le_refl _) rfl rfl counts_any
/-- Both are known to the law's own run. -/
noncomputable def lnK : Kn := ⟨[(8, [], .bool true), (39, [], .bool true)], rowsU, [141], []⟩
theorem lnK_right : lnK.Right 16 Tryz.prog := by
  refine ⟨fun f args v hm σ hR => ?_, base_right.2.1, fun t ht => by cases ht⟩
  rcases List.mem_cons.1 hm with h | h
  · cases h
    exact s_lives (Nat.le_refl _) σ hR
  · rcases List.mem_cons.1 h with h | h
    · cases h
      exact s_counts hR
    · cases h
end Go.Proofs.YtehcckhdppdkcaaGreatDoor
