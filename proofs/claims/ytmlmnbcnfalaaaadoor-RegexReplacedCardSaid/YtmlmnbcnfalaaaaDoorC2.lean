/-
  The common prefix. Conditions: the tables of unicode/utf8 lie.
  Closures over candidates; the status. Conditions: none.
-/
import Derived.Test.YtmlmnbcnfalaaaaDoorC1
import Derived.Test.YtmlmnbcnfalaaaaDoorL3
import Derived.Test.YtmlmnbcnfalaaaaDoorRunes
import Derived.Test.YtmlmnbcnfalaaaaDoorShelf
namespace Go.Proofs.YtmlmnbcnfalaaaaDoor
open Go.Lib
set_option maxRecDepth 100000
open Go.RowKit
def AllZ (F : Nat → Option Blk2) (cs : List Value) (ls : List (List Int)) : Prop := cs.length = ls.length ∧ ∀ j, j < ls.length → SlK F 1 (cs.getD j undef) (ls.getD j []).length ((ls.getD j []).map runeV)
theorem AllZ.le {F F' : Nat → Option Blk2} {cs : List Value} {ls : List (List Int)} (h : AllZ F cs ls) (k : Le F F') : AllZ F' cs ls := ⟨h.1, fun j hj => (h.2 j hj).le k⟩
theorem AllZ.nil {F : Nat → Option Blk2} : AllZ F [] [] := ⟨rfl, fun j hj => absurd hj (Nat.not_lt_zero _)⟩
theorem getD_dropR {α : Type} {l : List α} {j k : Nat} {d : α} : (l.drop k).getD j d = l.getD (k + j) d := by
 rw [List.getD_eq_getElem?_getD, List.getD_eq_getElem?_getD, List.getElem?_drop]
theorem AllZ.drop {F : Nat → Option Blk2} {cs : List Value} {ls : List (List Int)} (a : AllZ F cs ls) (k : Nat) : AllZ F (cs.drop k) (ls.drop k) := by
 refine ⟨by rw [List.length_drop, List.length_drop, a.1], fun j hj => ?_⟩
 rw [List.length_drop] at hj
 rw [getD_dropR, getD_dropR]
 exact a.2 _ (by omega)
section
variable {P : Program} {o : Oper}
end
section
variable {G : Nat} {A : Abs} {σ : Mem} {F : Nat → Option Blk2} {L : List Ent} {fold : Bool} {l : List (List UInt8)} {xs : List Int} {ls : List (List Int)} {sls : List Value} {v1 v2 : Value}
theorem s_valid {bs : List UInt8} (hU : U8F σ.get) (h16 : 16 ≤ G) (hs : bs.length ≤ 1000000) : SCall G Tryd.prog 44 #[.string ⟨bs.toArray⟩] σ (.bool (validD bs)) σ :=
 below_callT hU.rows h16 rfl rfl fun w hT => by
  have e : (⟨bs.toArray⟩ : ByteArray).data.toList = bs := by simp
  cases hv : validD bs with
  | true => exact valid_yes ⟨bs.toArray⟩ w (by show bs.length ≤ _; omega) hT (by rw [e]; exact hv)
  | false => exact valid_no ⟨bs.toArray⟩ w (by show bs.length ≤ _; omega) hT (by rw [e]; exact hv)
end
end Go.Proofs.YtmlmnbcnfalaaaaDoor
namespace Go.Proofs.YtmlmnbcnfalaaaaDoor
open Go.Lib
set_option maxRecDepth 100000
open Go.RowKit
section
variable {G : Nat} {A : Abs} {σ : Mem} {F : Nat → Option Blk2} {L : List Ent} {fold : Bool} {l m : List (List UInt8)} {ys : List Int} {b7 b8 : Nat} {w v1 : Value}
end
end Go.Proofs.YtmlmnbcnfalaaaaDoor
