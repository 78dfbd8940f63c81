/-
  Candidates that begin with an input; its completion. Conditions: the tables of unicode/utf8 lie.
-/
import Derived.Test.YtjcmdifpkafdkaaDoorC2
namespace Go.Proofs.YtjcmdifpkafdkaaDoor
open Go.Lib
set_option maxRecDepth 100000
open Go.RowKit
theorem GRow.one {G : Nat} {σ : Mem} {e : TypeId} {s n : Nat} {v : Value} {xs : List Value} (g : GRow G σ e s v n xs) : v.cells.toList = [v] := by cases g <;> rfl
theorem acc_snoc {acc : List (List UInt8)} {x : List UInt8} : acc.map strV ++ [.string ⟨x.toArray⟩] = (acc ++ [x]).map strV := by rw [List.map_append]; rfl
theorem dist_skip {l seen : List (List UInt8)} {i : Nat} (h : i < l.length) (k : l.getD i [] ∈ seen ∨ validD (l.getD i []) = false) : distG seen (l.drop i) = distG seen (l.drop (i + 1)) := by
 rw [dropD (d := []) h]
 exact if_pos k
theorem dist_take {l seen : List (List UInt8)} {i : Nat} (h : i < l.length) (k : l.getD i [] ∉ seen) (hv : validD (l.getD i []) = true) : distG seen (l.drop i) = l.getD i [] :: distG (seen ++ [l.getD i []]) (l.drop (i + 1)) := by
 rw [dropD (d := []) h]
 exact if_neg (fun h => h.elim k fun h => by rw [hv] at h; cases h)
theorem distG_len : ∀ (l seen : List (List UInt8)), (distG seen l).length ≤ l.length
 | [], _ => Nat.le_refl _
 | s :: l, seen => by
  unfold distG
  split
  ·exact Nat.le_succ_of_le (distG_len l seen)
  ·exact Nat.succ_le_succ (distG_len l _)
section
variable {G : Nat} {A : Abs} {σ : Mem} {F : Nat → Option Blk2} {L : List Ent} {fold : Bool} {l : List (List UInt8)} {s : List UInt8} {v1 : Value}
end
end Go.Proofs.YtjcmdifpkafdkaaDoor
