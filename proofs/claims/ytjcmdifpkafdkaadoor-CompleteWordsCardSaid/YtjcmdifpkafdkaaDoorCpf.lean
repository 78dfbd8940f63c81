/-
 Candidates that begin with an input; its completion. Conditions: the tables of unicode/utf8 lie.
-/
import Derived.Test.YtjcmdifpkafdkaaDoorC2
namespace Go.Proofs.YtjcmdifpkafdkaaDoor
open Go.Lib
set_option maxRecDepth 100000
open Go.RowKit
theorem GRow.one {G : Nat} {σ : Mem} {e : TypeId} {s n : Nat} {v : Value} {xs : List Value} (g : GRow G σ e s v n xs) : v.cells.toList = [v] := by cases g <;> rfl
theorem acc_snoc {acc : List (List UInt8)} {x : List UInt8} : acc.map strV ++ [.string ⟨x.toArray⟩] = (acc ++ [x]).map strV := by rw [List.map_append]; rfl
theorem dist_skip {l seen : List (List UInt8)} {i : Nat} (h : i < l.length) (k : l.getD i [] ∈ seen ∨ validD (l.getD i []) = false) : distG seen (l.drop i) = distG seen (l.drop (i + 1)) := by
 rw [dropD (d := []) h]
 exact if_pos k
theorem dist_take {l seen : List (List UInt8)} {i : Nat} (h : i < l.length) (k : l.getD i [] ∉ seen) (hv : validD (l.getD i []) = true) : distG seen (l.drop i) = l.getD i [] :: distG (seen ++ [l.getD i []]) (l.drop (i + 1)) := by
 rw [dropD (d := []) h]
 exact if_neg (fun h => h.elim k fun h => by rw [hv] at h; cases h)
theorem distG_len : ∀ (l seen : List (List UInt8)), (distG seen l).length ≤ l.length
 | [], _ => Nat.le_refl _
 | s :: l, seen => by
  unfold distG
  split
  ·exact Nat.le_succ_of_le (distG_len l seen)
  ·exact Nat.succ_le_succ (distG_len l _)
section
variable {G : Nat} {A : Abs} {σ : Mem} {F : Nat → Option Blk2} {L : List Ent} {fold : Bool} {l : List (List UInt8)} {s : List UInt8} {v1 : Value}
theorem delim_wc {c : Int} (H : Lies G A F σ L) : WC G Tryd.prog 53 #[.int .i32 c] σ fun v σ' => v = .bool (delC c) ∧ Lies G A F σ' L := by
 refine WC.enter (fn := Tryd.f53) Tryd.func53 rfl ?_
 refine W.rg [(0, .int .i32 c)] fun TA => ?_
 refine W.seq (W.region ?_)
 refine RW.v ?_
 refine RW.nil ?_
 refine W.rg [(0, .int .i32 c)] fun TA => ?_
 refine W.seq ?_
 refine W.seq (W.region ?_)
 refine RW.v ?_
 refine RW.nil ?_
 refine W.rg [(3, .int .i32 c)] fun TA => ?_
 refine W.block ?_
 refine W.seq ?_
 refine W.seq (W.region ?_)
 iterate 2 refine RW.v ?_
 refine RW.nil ?_
 refine W.rg [(3, .int .i32 c), (4, .bool (c == 32))] fun TA => ?_
 refine W.cond rfl (fun hc1 => ?_) (fun hc1 => ?_)
 ·have hc1b := hc1
  have hc1 := eq_of_beq hc1
  refine W.skip ?_
  refine W.cond (b := true) (congrArg Value.bool hc1b) (fun _ => ?_) (fun h => by cases h)
  refine W.seq (W.region ?_)
  refine RW.v ?_
  refine RW.nil ?_
  refine W.ret ?_
  refine blkQ_ret ?_
  refine seqQ_ret ?_
  refine endG (by rfl) (by exact resL_tmp rfl) ?_
  have ed : delC c = true := decide_eq_true (by omega)
  rw [ed]
  exact ⟨rfl, H⟩
 ·have hc1b := hc1
  have hc1 := ne_of_beq_false hc1
  refine W.seq (W.region ?_)
  iterate 2 refine RW.v ?_
  refine RW.nil ?_
  refine W.rg [(3, .int .i32 c), (4, .bool (c == 45))] fun TA => ?_
  refine W.cond rfl (fun hc2 => ?_) (fun hc2 => ?_)
  ·have hc2b := hc2
   have hc2 := eq_of_beq hc2
   refine W.skip ?_
   refine W.cond (b := true) (congrArg Value.bool hc2b) (fun _ => ?_) (fun h => by cases h)
   refine W.seq (W.region ?_)
   refine RW.v ?_
   refine RW.nil ?_
   refine W.ret ?_
   refine blkQ_ret ?_
   refine seqQ_ret ?_
   refine endG (by rfl) (by exact resL_tmp rfl) ?_
   have ed : delC c = true := decide_eq_true (by omega)
   rw [ed]
   exact ⟨rfl, H⟩
  ·have hc2b := hc2
   have hc2 := ne_of_beq_false hc2
   refine W.seq (W.region ?_)
   iterate 2 refine RW.v ?_
   refine RW.nil ?_
   refine W.rg [(3, .int .i32 c), (4, .bool (c == 46))] fun TA => ?_
   refine W.cond rfl (fun hc3 => ?_) (fun hc3 => ?_)
   ·have hc3b := hc3
    have hc3 := eq_of_beq hc3
    refine W.skip ?_
    refine W.cond (b := true) (congrArg Value.bool hc3b) (fun _ => ?_) (fun h => by cases h)
    refine W.seq (W.region ?_)
    refine RW.v ?_
    refine RW.nil ?_
    refine W.ret ?_
    refine blkQ_ret ?_
    refine seqQ_ret ?_
    refine endG (by rfl) (by exact resL_tmp rfl) ?_
    have ed : delC c = true := decide_eq_true (by omega)
    rw [ed]
    exact ⟨rfl, H⟩
   ·have hc3b := hc3
    have hc3 := ne_of_beq_false hc3
    refine W.seq (W.region ?_)
    iterate 2 refine RW.v ?_
    refine RW.nil ?_
    refine W.rg [(3, .int .i32 c), (4, .bool (c == 47))] fun TA => ?_
    refine W.cond rfl (fun hc4 => ?_) (fun hc4 => ?_)
    ·have hc4b := hc4
     have hc4 := eq_of_beq hc4
     refine W.skip ?_
     refine W.cond (b := true) (congrArg Value.bool hc4b) (fun _ => ?_) (fun h => by cases h)
     refine W.seq (W.region ?_)
     refine RW.v ?_
     refine RW.nil ?_
     refine W.ret ?_
     refine blkQ_ret ?_
     refine seqQ_ret ?_
     refine endG (by rfl) (by exact resL_tmp rfl) ?_
     have ed : delC c = true := decide_eq_true (by omega)
     rw [ed]
     exact ⟨rfl, H⟩
    ·have hc4b := hc4
     have hc4 := ne_of_beq_false hc4
     refine W.seq (W.region ?_)
     iterate 2 refine RW.v ?_
     refine RW.nil ?_
     refine W.rg [(3, .int .i32 c), (4, .bool (c == 58))] fun TA => ?_
     refine W.cond rfl (fun hc5 => ?_) (fun hc5 => ?_)
     ·have hc5b := hc5
      have hc5 := eq_of_beq hc5
      refine W.skip ?_
      refine W.cond (b := true) (congrArg Value.bool hc5b) (fun _ => ?_) (fun h => by cases h)
      refine W.seq (W.region ?_)
      refine RW.v ?_
      refine RW.nil ?_
      refine W.ret ?_
      refine blkQ_ret ?_
      refine seqQ_ret ?_
      refine endG (by rfl) (by exact resL_tmp rfl) ?_
      have ed : delC c = true := decide_eq_true (by omega)
      rw [ed]
      exact ⟨rfl, H⟩
     ·have hc5b := hc5
      have hc5 := ne_of_beq_false hc5
      refine W.region ?_
      iterate 2 refine RW.v ?_
      refine RW.nil ?_
      refine W.rg [(4, .bool (c == 95))] fun TA => ?_
      refine W.cond rfl (fun hc6 => ?_) (fun hc6 => ?_)
      ·have hc6b := hc6
       have hc6 := eq_of_beq hc6
       refine W.seq (W.region ?_)
       refine RW.v ?_
       refine RW.nil ?_
       refine W.ret ?_
       refine blkQ_ret ?_
       refine seqQ_ret ?_
       refine endG (by rfl) (by exact resL_tmp rfl) ?_
       have ed : delC c = true := decide_eq_true (by omega)
       rw [ed]
       exact ⟨rfl, H⟩
      ·have hc6b := hc6
       have hc6 := ne_of_beq_false hc6
       refine W.skip ?_
       refine blkQ_normal ?_
       refine W.seq (W.region ?_)
       refine RW.v ?_
       refine RW.nil ?_
       refine W.ret ?_
       refine endG (by rfl) (by exact resL_tmp rfl) ?_
       have ed : delC c = false := decide_eq_false (by omega)
       rw [ed]
       exact ⟨rfl, H⟩
end
end Go.Proofs.YtjcmdifpkafdkaaDoor
