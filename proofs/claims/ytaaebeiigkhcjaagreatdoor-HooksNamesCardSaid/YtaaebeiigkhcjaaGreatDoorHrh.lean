/-
  Add and Remove as the laws of hooks call them: the heap only grows; without a heap they fail. Conditions: the heap lies there as HeapAt says.
-/
import Derived.Test.YtaaebeiigkhcjaaGreatDoorR2
import Derived.Test.YtaaebeiigkhcjaaGreatDoorHkd
import Derived.Test.YtaaebeiigkhcjaaGreatDoorR0
namespace Go.Proofs.YtaaebeiigkhcjaaGreatDoor
set_option maxRecDepth 100000
section
variable {h : Nat} {m : HM} {σ0 : Mem}
theorem ext_remP {w : Wd} {ws xs : List Wd} (hf : m.free = []) : ExtH m (remP m w ws xs).1 ws.length := by
  unfold remP
  split
  · exact (ext_built hf _ _).le (by omega)
  · exact (ExtH.refl hf).le (by omega)
end
end Go.Proofs.YtaaebeiigkhcjaaGreatDoor
