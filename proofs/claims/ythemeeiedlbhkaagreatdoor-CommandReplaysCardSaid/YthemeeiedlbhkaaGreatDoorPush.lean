/-
  A heap in memory behind New and behind add: what the walks leave, said of the whole heap. Conditions: none.
-/
import Derived.Test.YthemeeiedlbhkaaGreatDoorAdd
namespace Go.Proofs.YthemeeiedlbhkaaGreatDoor
open Go.RowKit
set_option maxRecDepth 100000

def HM.push (m : HM) (o : HObj) : HM := { m with objs := m.objs ++ [some o] }
theorem HM.many_push (m : HM) (o : HObj) : (m.push o).many = m.many + 1 := by simp [HM.many, HM.push]
theorem HM.used_push (m : HM) (o : HObj) : (m.push o).used = m.used + o.size := by simp [HM.used, HM.push, optSize]
theorem HM.Ok.push {m : HM} (h : m.Ok) (o : HObj) (hm : m.many < m.limit) (hf : m.free = []) (hu : m.used + o.size ≤ 1048576) : (m.push o).Ok where
  lo := h.lo
  hi := h.hi
  len := by
    have := h.free
    rw [hf] at this
    simp [HM.push] at this ⊢
    omega
  used := by rw [HM.used_push]; exact hu
  free := by
    have := h.free
    rw [HM.many_push]
    simp [HM.push]
    omega

def Own.with (S : Own) (bs : List Nat) (k : Nat) : Own := fun x => if x ∈ bs then some k else S x
def Own.one (p : Nat) : Own := fun x => if x = p then some 0 else none
end Go.Proofs.YthemeeiedlbhkaaGreatDoor
