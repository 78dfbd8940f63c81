/-
  A heap beside the rows of the second memory: the contracts of package heap as calls of the second memory. Conditions: the heap lies there as HeapAt says.
-/
import Derived.Test.YthemeeiedlbhkaaGreatDoorS3
import Derived.Test.YthemeeiedlbhkaaGreatDoorRowsU
import Derived.Test.YthemeeiedlbhkaaGreatDoorCnt
import Derived.Test.YthemeeiedlbhkaaGreatDoorWq
namespace Go.Proofs.YthemeeiedlbhkaaGreatDoor
open Go.RowKit
set_option maxRecDepth 100000

def Mem.with (σ : Mem) (a : Abs) : Mem := ⟨σ.raw, σ.next, a⟩
def heapAbs (h : Nat) (m : HM) : Abs where
  holds := fun μ w => ∃ bi S, μ h = some bi ∧ bi.sh = 0 ∧ HeapAt w S bi.blk m ∧ ∀ B, μ.own B ↔ S B ≠ none
  ext := fun he ho ⟨bi, S, h1, h2, h3, h4⟩ => ⟨bi, S, he _ _ h1, h2, h3, by rw [ho]; exact h4⟩
  keep := fun hs hk ⟨bi, S, h1, h2, h3, h4⟩ => ⟨bi, S, h1, h2, h3.keep hs fun b hb => hk b ((h4 b).2 hb), h4⟩
  lt := fun ⟨_, _, _, _, h3, h4⟩ B hB => h3.lt B ((h4 B).1 hB)
section
variable {P : Program} {G : Nat}
theorem below_call {f : FuncId} {args : Array Value} {v : Value} {σ : Mem} (hl : args.toList.all (closedV 3) = true) (hv : closedV 3 v = true)
    (hc : ∀ w, Calls P f args w fun e w' => e = .returned v ∧ Below w.heap.size w w') : SCall G P f args σ v σ := by
  refine ⟨Nat.le_refl _, fun μ w cargs hs hGn _ har => ?_⟩
  have hz : cargs = args := by
    apply Array.ext
    · exact har.1.symm
    · intro i h1 h2
      exact closedV_eq 3 _ _ (List.all_eq_true.1 hl _ (by simp)) (har.2 i args[i] cargs[i] (by simp [h2]) (by simp [h1]))
  subst hz
  refine (hc w).mono ?_
  rintro e w' ⟨rfl, hb⟩
  have own2 := OwnOk.same (G := G) (σ := σ) (μ := μ) (w := w) (w' := w') (σ' := σ) rfl (Ext.refl μ) rfl hb.size (fun B hB _ => hb.block B hB) fun c z ci hz hc => .inr ⟨c, z, ci, hz, hc, rfl⟩
  exact ⟨v, μ, rfl, ⟨Nat.le_refl _, fun b h1 h2 => absurd h1 (by omega), fun _ _ => rfl, ⟨hs.glob, fun b x bi hx hm => (hs.blk b x bi hx hm).keep (hb.block _ (hs.blk b x bi hx hm).lt) (Ext.refl _), hs.inj, hs.rw_, own2 hs.abs⟩, hb.size, hb.os, hb.tape, hb.output, fun b x bi hb' hx _ => absurd (Mem.lt hx) (by omega), fun _ x _ h => ⟨x, h⟩, hGn, own_id, fun B hB _ _ => hb.block B hB⟩, closedV_rel _ 3 v hv⟩
end
section
variable {G : Nat} {σ : Mem}
def Mem.made (σ : Mem) (n : Nat) : Mem := ⟨fun b => if b = σ.next then none else σ.raw b, σ.next + 1, heapAbs σ.next ⟨n, [], []⟩⟩
variable {h : Nat} {m : HM}
end
end Go.Proofs.YthemeeiedlbhkaaGreatDoor
