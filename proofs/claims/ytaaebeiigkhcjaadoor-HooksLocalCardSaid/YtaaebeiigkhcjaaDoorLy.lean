/-
  lists.Append and lists.Reverse in the second memory. Conditions: the heap lies there as HeapAt says, no number is free below.
-/
import Derived.Test.YtaaebeiigkhcjaaDoorLx
namespace Go.Proofs.YtaaebeiigkhcjaaDoor
set_option maxRecDepth 100000
section
variable {G h : Nat} {m : HM} {σ σ0 : Mem}
theorem sliceR_ok {n : Nat} {c a : Nat → Wd} {v : Value} (hn : n ≤ 65536) (hc : c n = (1, 0)) (H : SliceR G n c a σ0 v σ) : Grow σ0 σ ∧ ∃ sl, v = .tuple #[sl, .int .i64 0] ∧ GRow G σ 28 2 sl n (wdC (firstN a n)) ∧ ∀ b, blkOf sl = some b → σ0.next ≤ b := by
  obtain ⟨g, h1 | h1 | h1⟩ := H
  · omega
  · exact absurd hc h1.2.1
  · exact ⟨g, h1.2.2⟩
end
end Go.Proofs.YtaaebeiigkhcjaaDoor
