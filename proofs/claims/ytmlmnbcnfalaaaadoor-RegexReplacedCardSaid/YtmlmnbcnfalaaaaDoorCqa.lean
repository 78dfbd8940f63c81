/-
  The reference of completion: characters, candidates, common prefixes. Conditions: none.
-/
import Derived.Test.YtmlmnbcnfalaaaaDoorCpf
import Derived.Test.YtmlmnbcnfalaaaaDoorR2
import Derived.Test.YtmlmnbcnfalaaaaDoorR1
namespace Go.Proofs.YtmlmnbcnfalaaaaDoor
open Go.Lib
set_option maxRecDepth 100000
open Go.RowKit
theorem intz_at {l : List Int} {j : Nat} {i : Int} (hi : i = ((j : Nat) : Int)) (h : j < l.length) : ((l.map (Value.int .i64)).drop (i.toNat * 1)).take 1 = [.int .i64 (l.getD j 0)] := by
 subst hi
 rw [Int.toNat_natCast, Nat.mul_one, List.getD_eq_getElem?_getD, List.getElem?_eq_getElem h, List.drop_eq_getElem_cons (by simpa using h)]
 simp
theorem intz_ones (l : List Int) : (l.map (Value.int .i64)).all (·.oneCell') = true := by
 rw [List.all_map, List.all_eq_true]
 intro x _
 rfl
def AllI (F : Nat → Option Blk2) (cs : List Value) (ls : List (List Int)) : Prop := cs.length = ls.length ∧ ∀ j, j < ls.length → SlK F 1 (cs.getD j undef) (ls.getD j []).length ((ls.getD j []).map (Value.int .i64))
theorem AllI.le {F F' : Nat → Option Blk2} {cs : List Value} {ls : List (List Int)} (h : AllI F cs ls) (k : Le F F') : AllI F' cs ls := ⟨h.1, fun j hj => (h.2 j hj).le k⟩
theorem AllI.nil {F : Nat → Option Blk2} : AllI F [] [] := ⟨rfl, fun j hj => absurd hj (Nat.not_lt_zero _)⟩
theorem AllI.drop {F : Nat → Option Blk2} {cs : List Value} {ls : List (List Int)} (a : AllI F cs ls) (k : Nat) : AllI F (cs.drop k) (ls.drop k) := by
 refine ⟨by rw [List.length_drop, List.length_drop, a.1], fun j hj => ?_⟩
 rw [List.length_drop] at hj
 rw [getD_dropR, getD_dropR]
 exact a.2 _ (by omega)
section
variable {G : Nat} {A : Abs} {σ : Mem} {F : Nat → Option Blk2} {L : List Ent} {fold : Bool} {l : List (List UInt8)} {s bs : List UInt8} {xs ys : List Int} {ls : List (List Int)} {sls : List Value} {v1 v2 : Value} {a b : Int} {p : Nat}
end
end Go.Proofs.YtmlmnbcnfalaaaaDoor
