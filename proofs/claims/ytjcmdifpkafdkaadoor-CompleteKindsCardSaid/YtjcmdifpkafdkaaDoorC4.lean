/-
  The reference of completion: characters, candidates, common prefixes. Conditions: none.
  The reference of completion by prefixes. Conditions: none.
-/
import Derived.Test.YtjcmdifpkafdkaaDoorCpf
import Derived.Test.YtjcmdifpkafdkaaDoorR2
import Derived.Test.YtjcmdifpkafdkaaDoorR1
import Derived.Test.YtjcmdifpkafdkaaDoorC3
namespace Go.Proofs.YtjcmdifpkafdkaaDoor
open Go.Lib
set_option maxRecDepth 100000
open Go.RowKit
def AllI (F : Nat → Option Blk2) (cs : List Value) (ls : List (List Int)) : Prop := cs.length = ls.length ∧ ∀ j, j < ls.length → SlK F 1 (cs.getD j undef) (ls.getD j []).length ((ls.getD j []).map (Value.int .i64))
theorem AllI.le {F F' : Nat → Option Blk2} {cs : List Value} {ls : List (List Int)} (h : AllI F cs ls) (k : Le F F') : AllI F' cs ls := ⟨h.1, fun j hj => (h.2 j hj).le k⟩
theorem AllI.nil {F : Nat → Option Blk2} : AllI F [] [] := ⟨rfl, fun j hj => absurd hj (Nat.not_lt_zero _)⟩
theorem AllI.snoc {F : Nat → Option Blk2} {cs : List Value} {ls : List (List Int)} {c : Value} {x : List Int} (a : AllI F cs ls) (h : SlK F 1 c x.length (x.map (Value.int .i64))) : AllI F (cs ++ [c]) (ls ++ [x]) := by
 refine ⟨by rw [List.length_append, List.length_append, a.1]; rfl, fun j hj => ?_⟩
 rw [List.length_append, List.length_singleton] at hj
 have a1 := a.1
 rcases Nat.lt_or_ge j ls.length with k | k
 ·rw [getL (by omega), getL k]
  exact a.2 j k
 ·obtain rfl : j = ls.length := by omega
  rw [getZ (show ls.length = cs.length by omega), getZ rfl]
  exact h
theorem AllI.drop {F : Nat → Option Blk2} {cs : List Value} {ls : List (List Int)} (a : AllI F cs ls) (k : Nat) : AllI F (cs.drop k) (ls.drop k) := by
 refine ⟨by rw [List.length_drop, List.length_drop, a.1], fun j hj => ?_⟩
 rw [List.length_drop] at hj
 rw [getD_dropR, getD_dropR]
 exact a.2 _ (by omega)
section
variable {G : Nat} {A : Abs} {σ : Mem} {F : Nat → Option Blk2} {L : List Ent} {fold : Bool} {l : List (List UInt8)} {s bs : List UInt8} {xs ys : List Int} {ls : List (List Int)} {sls : List Value} {v1 v2 : Value} {a b : Int} {p : Nat}
end
end Go.Proofs.YtjcmdifpkafdkaaDoor
namespace Go.Proofs.YtjcmdifpkafdkaaDoor
open Go.Lib
set_option maxRecDepth 100000
open Go.RowKit
section
variable {G : Nat} {A : Abs} {σ : Mem} {F : Nat → Option Blk2} {L : List Ent} {fold : Bool} {l m : List (List UInt8)} {s : List UInt8} {v1 : Value}
end
end Go.Proofs.YtjcmdifpkafdkaaDoor
