/-
  Contracts of (*heap.Heap).add where no number is free below: full by number, full by size, a new object. Conditions: the heap's block lies as said; what the method size gives.
-/
import Derived.Test.YthemeeiedlbhkaaGreatDoorSizes
import Derived.Test.YthemeeiedlbhkaaGreatDoorClone
import Derived.Deep.RegionHeld3
import Derived.Deep.RegionWith
import Derived.IntWalk
namespace Go.Proofs.YthemeeiedlbhkaaGreatDoor
open Go.RowKit
set_option maxRecDepth 100000
theorem Turn.later {S S' : Own} {w w1 w2 : World} (h : Turn S w w1 S') (hb : Below w1.heap.size w1 w2) : Turn S w w2 S' := h.trans (.of_below hb)
def Added (S : Own) (w : World) (p L M U n kd : Nat) (vo vf : Value) (os : List Value) (x : Value) (e : Ending) (w' : World) : Prop :=
  ∃ v2, e = .returned (.tuple #[.agg #[.int .i64 kd, .int .i64 os.length], .int .i64 0]) ∧ w'.ownsRow 0 177 1 v2 (os.length + 1) (os ++ [x]) ∧ (v2.ownBlock = vo.ownBlock ∨ ∃ g, v2.ownBlock = some g ∧ w.heap.size ≤ g) ∧
    Blk w' p 134 #[.int .i64 L, .int .i64 ((M + 1 : Nat) : Int), .int .i64 ((U + n : Nat) : Int), v2, vf] ∧ Turn S w w' S
theorem Added.turn {S : Own} {w : World} {p L M U n kd : Nat} {vo vf : Value} {os : List Value} {x : Value} {e : Ending} {w' : World} (h : Added S w p L M U n kd vo vf os x e w') : Turn S w w' S := by
  obtain ⟨_, _, _, _, _, h⟩ := h
  exact h

end Go.Proofs.YthemeeiedlbhkaaGreatDoor
