/-
  lists.Equal's comparison of two ints in the second memory: what counts its pairs is one less. Conditions: the heap lies there as HeapAt says.
-/
import Derived.Test.YtaaebeiigkhcjaaGreatDoorL1
import Derived.Test.YtaaebeiigkhcjaaGreatDoorWq
import Derived.Test.YtaaebeiigkhcjaaGreatDoorWd
namespace Go.Proofs.YtaaebeiigkhcjaaGreatDoor
set_option maxRecDepth 100000
section
variable {G h : Nat} {m : HM} {σ σ0 : Mem}
structure GrowE (σ σ' : Mem) (b : Nat) (y : Blk2) : Prop where
  at_ : σ'.get b = some y
  old : ∀ c z, c ≠ b → σ.get c = some z → σ'.get c = some z
  nx : σ.next ≤ σ'.next
  abs : σ'.abs = σ.abs
theorem GrowE.then {σ2 : Mem} {b : Nat} {y : Blk2} (g : GrowE σ0 σ b y) (k : Grow σ σ2) : GrowE σ0 σ2 b y := ⟨k.old _ _ g.at_, fun c z hc hz => k.old _ _ (g.old c z hc hz), by have := g.nx; have := k.nx; omega, k.abs.trans g.abs⟩
theorem GrowE.behind {σ2 : Mem} {b : Nat} {y z0 : Blk2} (k : Grow σ0 σ) (g : GrowE σ σ2 b y) (_hb : σ0.get b = some z0) : GrowE σ0 σ2 b y := ⟨g.at_, fun c z hc hz => g.old c z hc (k.old _ _ hz), by have := g.nx; have := k.nx; omega, g.abs.trans k.abs⟩
theorem GrowE.set {σ2 : Mem} {b c : Nat} {y z : Blk2} (g : GrowE σ0 σ b y) (s : Set1 σ σ2 c z) (hc : σ0.next ≤ c) (hb : b < σ0.next) : GrowE σ0 σ2 b y := ⟨s.old _ _ (by omega) g.at_, fun d w hd hw => s.old _ _ (by have := Mem.lt hw; omega) (g.old d w hd hw), by rw [s.nx]; exact g.nx, s.abs.trans g.abs⟩
theorem rec_call (p q : Nat) : ∃ σ', SDCall G Tryz.prog 115 (#[] ++ #[pp p, pp q]) σ0 σ' ∧ σ' = σ0 := by
  refine WD.enter (fn := Tryz.f115) Tryz.func115 rfl rfl ?_
  refine WD.seq ?_
  refine WD.recover (l := _) rfl rfl (by kernel_rfl) (by kernel_rfl) ?_
  refine RW.val (by kernel_rfl) (by kernel_rfl) rfl (by kernel_rfl) ?_
  refine RW.nil ?_
  refine WD.seq ?_
  refine WD.seq ?_
  refine WD.of ?_
  refine W.region ?_
  refine RW.val (by kernel_rfl) (by kernel_rfl) rfl (by kernel_rfl) ?_
  refine RW.val (by kernel_rfl) (by kernel_rfl) rfl (by kernel_rfl) ?_
  refine RW.nil ?_
  refine ⟨rfl, ?_⟩
  refine WD.cond (b := true) rfl (fun _ => ?_) (fun h => by cases h)
  refine WD.of ?_
  refine W.ret ?_
  exact ⟨rfl, rfl, rfl⟩
end
end Go.Proofs.YtaaebeiigkhcjaaGreatDoor
