/-
  The order of strings by their characters is that by their bytes; the recent candidates; what is left. Plain. Conditions: none.
  The reference: Sort. Conditions: none.
  CompleteOrders in the second memory. Conditions: none.
-/
import Derived.Test.YtjcmdifpkafdkaaDoorV4
import Derived.Test.YtjcmdifpkafdkaaDoorW2
import Derived.Test.YtjcmdifpkafdkaaDoorCwg
import Derived.Test.YtjcmdifpkafdkaaDoorC4
import Derived.Test.YtjcmdifpkafdkaaDoorC3
namespace Go.Proofs.YtjcmdifpkafdkaaDoor
open Go.Lib
set_option maxRecDepth 100000
def byU (x : Int) : UInt8 := x.toNat.toUInt8
theorem encA_flat (a : List Int) : encA a = (a.flatMap encodeRuneZ).map byU := by
 induction a with
 | nil => rfl
 | cons c a ih => rw [encA_cons, ih, List.flatMap_cons, List.map_append]; rfl
/-! the recent ones -/
/-! what is left -/
theorem filt_len (p : List UInt8 → Bool) : ∀ l : List (List UInt8), (l.filter p).length + (l.filter fun y => !p y).length = l.length
 | [] => rfl
 | x :: l => by
  have := filt_len p l
  rw [List.filter_cons, List.filter_cons]
  cases p x <;> simp <;> omega
theorem out_len {D out : List (List UInt8)} (hD : D.Nodup) (ho : out.Nodup) (hs : ∀ x ∈ out, x ∈ D) : out.length + (D.filter fun y => !decide (y ∈ out)).length = D.length := by
 rw [← filt_len (fun y => decide (y ∈ out)) D]
 congr 1
 refine (List.Perm.length_eq ((List.perm_ext_iff_of_nodup ho (hD.filter _)).2 fun x => ?_))
 rw [List.mem_filter, decide_eq_true_iff]
 exact ⟨fun h => ⟨hs x h, h⟩, fun h => h.2⟩
end Go.Proofs.YtjcmdifpkafdkaaDoor
namespace Go.Proofs.YtjcmdifpkafdkaaDoor
open Go.Lib
set_option maxRecDepth 100000
section
variable {v : Nat → Option (List UInt8)} {D : List (List UInt8)} {i : Nat} {b : Int}
end
section
variable {G : Nat} {A : Abs} {σ : Mem} {F : Nat → Option Blk2} {L : List Ent} {w v1 v2 : Value} {M : Nat} {os l rc : List (List UInt8)} {a b : List Int}
end
end Go.Proofs.YtjcmdifpkafdkaaDoor
namespace Go.Proofs.YtjcmdifpkafdkaaDoor
open Go.Lib
set_option maxRecDepth 100000
theorem sortL_len {α : Type} {lt : α → α → Bool} (l : List α) : (sortL lt l).length = l.length := (sortL_stab l).len
theorem flexC_len {fold : Bool} {l : List (List UInt8)} {s : List UInt8} {n : Nat} (h : l.length ≤ n) : (flexC fold l s).length ≤ n := by
 unfold flexC
 split
 ·rw [List.length_map, sortL_len]
  unfold flexM
  exact Nat.le_trans (List.length_filterMap_le ..) (Nat.le_trans (distG_len l []) h)
 ·exact Nat.zero_le _
end Go.Proofs.YtjcmdifpkafdkaaDoor
