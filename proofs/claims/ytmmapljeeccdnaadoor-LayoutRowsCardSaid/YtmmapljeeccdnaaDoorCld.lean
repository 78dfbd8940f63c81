/-
  Grown slices: the rest of one is cleared, its beginning is kept. Conditions: none.
-/
import Derived.Test.YtmmapljeeccdnaaDoorK1
import Derived.Test.YtmmapljeeccdnaaDoorS4
namespace Go.Proofs.YtmmapljeeccdnaaDoor
set_option maxRecDepth 100000
section
variable {P : Program} {G nt : Nat} {ops : Array Oper} {l : List Oper} {o : Oper} {ta : Nat → Value} {σ : Mem} {rs : List (Rec × Mem)} {A : Abs} {F : Nat → Option Blk2} {L : List Ent} {K : List (Rec × Mem) → (Nat → Value) → Mem → Prop}
theorem W.join {rd : Option Nat} {x y : Code} {dm : List DItem} {Q : Exit → (Nat → Value) → List DItem → Mem → Prop} (I : (Nat → Value) → Mem → Prop) (hx : W G P rd nt x ta dm σ fun ex ta' dm' σ' => ex = .normal ∧ dm' = dm ∧ I ta' σ') (hy : ∀ ta' σ', I ta' σ' → W G P rd nt y ta' dm σ' Q) : W G P rd nt (.seq x y) ta dm σ Q := by
 refine W.seq ?_
 obtain ⟨ex, ta', dm', σ', h1, rfl, rfl, h2⟩ := hx
 exact ⟨.normal, ta', dm', σ', h1, hy ta' σ' h2⟩
end
end Go.Proofs.YtmmapljeeccdnaaDoor
