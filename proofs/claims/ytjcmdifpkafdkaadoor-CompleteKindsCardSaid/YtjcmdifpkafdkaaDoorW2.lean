/-
  Selection of the first least, again and again, is the stable sort. Plain. Conditions: none.
  The reference: Flex. Conditions: none.
-/
import Derived.Test.YtjcmdifpkafdkaaDoorV1
import Derived.Test.YtjcmdifpkafdkaaDoorW1
import Derived.Test.YtjcmdifpkafdkaaDoorCwc
namespace Go.Proofs.YtjcmdifpkafdkaaDoor
set_option maxRecDepth 100000
section
variable {α : Type} {lt : α → α → Bool}
variable {v : Nat → Option α} {i j : Nat} {y z : α}
structure Taken (lt : α → α → Bool) (xs acc rest : List α) : Prop where
 stab : Stab lt xs (acc ++ rest)
 sor : Sor lt acc
 le : ∀ a ∈ acc, ∀ z ∈ rest, lt z a = false
theorem Taken.start (xs : List α) : Taken lt xs [] xs := ⟨.refl _, List.Pairwise.nil, fun a ha => absurd ha (List.not_mem_nil)⟩
theorem Taken.next {xs acc r r' : List α} (h : Taken lt xs acc r) (k1 : Stab lt r (y :: r')) (k2 : ∀ z ∈ r', lt z y = false) : Taken lt xs (acc ++ [y]) r' := by
 have hy : y ∈ r := k1.mem.1 (List.mem_cons_self ..)
 refine ⟨?_, List.pairwise_append.2 ⟨h.sor, List.pairwise_singleton .., fun a ha b hb => ?_⟩, fun a ha z hz => ?_⟩
 ·have := h.stab.trans (k1.left acc)
  rw [List.append_assoc]
  exact this
 ·rw [List.mem_singleton.1 hb]; exact h.le a ha y hy
 ·rcases List.mem_append.1 ha with ha | ha
  ·exact h.le a ha z (k1.mem.1 (List.mem_cons_of_mem _ hz))
  ·rw [List.mem_singleton.1 ha]; exact k2 z hz
theorem Taken.done (ho : WOrd lt) {xs acc : List α} (h : Taken lt xs acc []) : acc = sortL lt xs := by
 have := h.stab
 rw [List.append_nil] at this
 exact sortL_is ho this h.sor
end
end Go.Proofs.YtjcmdifpkafdkaaDoor
namespace Go.Proofs.YtjcmdifpkafdkaaDoor
open Go.Lib
set_option maxRecDepth 100000
section
variable {v : Nat → Option Flx} {i : Nat} {b gp sq : Int} {z : Flx}
end
section
variable {G : Nat} {A : Abs} {σ : Mem} {F : Nat → Option Blk2} {L : List Ent} {fold : Bool} {l : List (List UInt8)} {s : List UInt8} {v1 : Value}
end
end Go.Proofs.YtjcmdifpkafdkaaDoor
