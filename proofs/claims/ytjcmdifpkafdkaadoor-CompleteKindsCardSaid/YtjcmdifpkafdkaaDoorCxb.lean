/-
 CompleteKinds in the second memory. Conditions: none.
-/
import Derived.Test.YtjcmdifpkafdkaaDoorCxa
import Derived.Test.YtjcmdifpkafdkaaDoorC5
namespace Go.Proofs.YtjcmdifpkafdkaaDoor
open Go.Lib
set_option maxRecDepth 100000
section
variable {l m : List (List UInt8)} {i k : Nat} {x : List UInt8} {is : Bool}
theorem in_snoc (h : i < l.length) (hN : ∀ x ∈ l.take i, x ∈ m) (hx : l.getD i [] ∈ m) : ∀ x ∈ l.take (i + 1), x ∈ m := fun x hm => by
 rw [List.take_add_one, List.getElem?_eq_getElem h] at hm
 rcases List.mem_append.1 hm with hm | hm
 ·exact hN x hm
 ·rw [List.getD_eq_getElem?_getD, List.getElem?_eq_getElem h] at hx
  rw [show x = l[i] by simpa using hm]
  exact hx
theorem in_yes (h : is = decide (x ∈ m.take k)) (e : is = true) : true = decide (x ∈ m.take (k + 1)) := by
 rw [e] at h
 refine (decide_eq_true ?_).symm
 rw [List.take_add_one]
 exact List.mem_append.2 (.inl (of_decide_eq_true h.symm))
theorem in_no (h : is = decide (x ∈ m.take k)) (e : is = false) (hk : k < m.length) : (m.getD k [] == x) = decide (x ∈ m.take (k + 1)) := by
 rw [e] at h
 have hn := of_decide_eq_false h.symm
 rw [Bool.eq_iff_iff, beq_iff_eq, decide_eq_true_iff, List.take_add_one, List.mem_append, List.getElem?_eq_getElem hk, List.getD_eq_getElem?_getD, List.getElem?_eq_getElem hk]
 exact ⟨fun e => .inr (List.mem_singleton.2 e.symm), fun k => (List.mem_singleton.1 (k.resolve_left hn)).symm⟩
end
theorem plain_go {s : List UInt8} {i : Nat} (h : i < s.length) (k : ((s.getD i 0).toNat : Int) ≠ 32 ∧ ((s.getD i 0).toNat : Int) ≠ 45 ∧ ((s.getD i 0).toNat : Int) ≠ 46 ∧ ((s.getD i 0).toNat : Int) ≠ 47 ∧ ((s.getD i 0).toNat : Int) ≠ 58 ∧ ((s.getD i 0).toNat : Int) ≠ 95) : plainC (s.drop i) = plainC (s.drop (i + 1)) := by
 rw [dropD (d := 0) h]
 generalize s.getD i 0 = b at k ⊢
 have hb : ∀ n : UInt8, (b.toNat : Int) ≠ (n.toNat : Int) → (b == n) = false := fun n hn => beq_eq_false_iff_ne.2 fun e => hn (by rw [e])
 unfold plainC
 rw [List.all_cons, hb 32 k.1, hb 45 k.2.1, hb 46 k.2.2.1, hb 47 k.2.2.2.1, hb 58 k.2.2.2.2.1, hb 95 k.2.2.2.2.2]
 rfl
theorem plain_stop {s : List UInt8} {i : Nat} (h : i < s.length) (k : ((s.getD i 0).toNat : Int) = 32 ∨ ((s.getD i 0).toNat : Int) = 45 ∨ ((s.getD i 0).toNat : Int) = 46 ∨ ((s.getD i 0).toNat : Int) = 47 ∨ ((s.getD i 0).toNat : Int) = 58 ∨ ((s.getD i 0).toNat : Int) = 95) : plainC (s.drop i) = false := by
 rw [dropD (d := 0) h]
 generalize s.getD i 0 = b at k ⊢
 have hb : ∀ n : UInt8, (b.toNat : Int) = (n.toNat : Int) → b = n := fun n hn => UInt8.toNat_inj.1 (by omega)
 unfold plainC
 rw [List.all_cons]
 rcases k with k | k | k | k | k | k
 ·rw [hb 32 k]; rfl
 ·rw [hb 45 k]; rfl
 ·rw [hb 46 k]; rfl
 ·rw [hb 47 k]; rfl
 ·rw [hb 58 k]; rfl
 ·rw [hb 95 k]; rfl
section
variable {G : Nat} {A : Abs} {σ : Mem} {F : Nat → Option Blk2} {L : List Ent} {l m : List (List UInt8)} {s : List UInt8} {v1 v2 : Value}
set_option maxHeartbeats 8000000 in
theorem within_wc (h1 : SlF F 1 v1 l.length (l.map strV)) (h2 : SlF F 1 v2 m.length (m.map strV)) (hl : l.length ≤ 1000000) (hlm : m.length ≤ 1000000) (H : Lies G A F σ L) : WC G Tryd.prog 37 #[v1, v2] σ fun v σ' => v = .bool (decide (∀ x ∈ l, x ∈ m)) ∧ Lies G A F σ' L := by
 refine WC.enter (fn := Tryd.f37) Tryd.func37 rfl ?_
 refine W.rg [(0, v1), (1, v2)] fun TA => ?_
 refine W.seq (W.region ?_)
 refine RW.v ?_
 refine RW.nil ?_
 refine W.rg [(0, v1), (1, v2)] fun TA => ?_
 refine W.seq ?_
 refine W.seq (W.region ?_)
 refine RW.v ?_
 refine RW.nil ?_
 refine W.rg [(0, v1), (1, v2), (5, .int .i64 0)] fun TA => ?_
 refine W.block ?_
 refine W.loop (fun mm ta σ => ∃ (i : Nat), (mm + i = l.length) ∧ (∀ x ∈ l.take i, x ∈ m) ∧ Lies G A F σ ((L)) ∧ ta 0 = v1 ∧ ta 1 = v2 ∧ ta 5 = .int .i64 ((i : Nat) : Int)) l.length ?_ ?_
 ·exact ⟨0, (by omega), (fun x hx => by simp at hx), H, rfl, rfl, rfl⟩
 clear H
 rintro mm ta _ ⟨i, hm, hN, H, e0, e1, e5⟩
 refine W.rst [(0, v1), (1, v2), (5, .int .i64 ((i : Nat) : Int))] ⟨e0, e1, e5, trivial⟩ fun TA => ?_
 clear e0 e1 e5
 refine W.seq ?_
 refine W.seq (W.region ?_)
 iterate 2 refine RW.v ?_
 refine RW.len (by kernel_rfl) (by kernel_rfl) rfl rfl rfl rfl (h1.len (e := 9) (by kernel_rfl)) (by kernel_rfl) ?_
 refine RW.v ?_
 refine RW.nil ?_
 refine W.rg [(0, v1), (1, v2), (5, .int .i64 ((i : Nat) : Int)), (11, .bool (decide (((i : Nat) : Int) < (l.length : Int))))] fun TA => ?_
 refine W.cond rfl (fun hc1 => ?_) (fun hc1 => ?_)
 ·have hc1b := hc1
  have hc1 := of_decide_eq_true hc1
  have hil : i < l.length := by omega
  refine W.skip ?_
  refine W.seq ?_
  refine W.block ?_
  refine W.seq (W.region ?_)
  refine RW.v ?_
  refine RW.nil ?_
  refine W.rg [(0, v1), (1, v2), (5, .int .i64 ((i : Nat) : Int)), (6, .bool false)] fun TA => ?_
  refine W.seq ?_
  refine W.seq (W.region ?_)
  refine RW.v ?_
  refine RW.nil ?_
  refine W.rg [(0, v1), (1, v2), (5, .int .i64 ((i : Nat) : Int)), (6, .bool false), (7, .int .i64 0)] fun TA => ?_
  refine W.block ?_
  refine W.loop (fun mmk ta σ => ∃ (k : Nat) (is : Bool), (mmk + k = m.length) ∧ (is = decide ((l.getD i []) ∈ m.take k)) ∧ Lies G A F σ ((L)) ∧ ta 0 = v1 ∧ ta 1 = v2 ∧ ta 5 = .int .i64 ((i : Nat) : Int) ∧ ta 6 = .bool is ∧ ta 7 = .int .i64 ((k : Nat) : Int)) m.length ?_ ?_
  ·exact ⟨0, false, (by omega), (by rw [List.take_zero]; exact (decide_eq_false (List.not_mem_nil)).symm), H, rfl, rfl, rfl, rfl, rfl⟩
  clear H
  rintro mmk ta _ ⟨k, is, hmk, hI, H, e0, e1, e5, e6, e7⟩
  refine W.rst [(0, v1), (1, v2), (5, .int .i64 ((i : Nat) : Int)), (6, .bool is), (7, .int .i64 ((k : Nat) : Int))] ⟨e0, e1, e5, e6, e7, trivial⟩ fun TA => ?_
  clear e0 e1 e5 e6 e7
  refine W.seq ?_
  refine W.seq (W.region ?_)
  iterate 2 refine RW.v ?_
  refine RW.len (by kernel_rfl) (by kernel_rfl) rfl rfl rfl rfl (h2.len (e := 9) (by kernel_rfl)) (by kernel_rfl) ?_
  refine RW.v ?_
  refine RW.nil ?_
  refine W.rg [(0, v1), (1, v2), (5, .int .i64 ((i : Nat) : Int)), (6, .bool is), (7, .int .i64 ((k : Nat) : Int)), (17, .bool (decide (((k : Nat) : Int) < (m.length : Int))))] fun TA => ?_
  refine W.cond rfl (fun hc2 => ?_) (fun hc2 => ?_)
  ·have hc2b := hc2
   have hc2 := of_decide_eq_true hc2
   have hkm : k < m.length := by omega
   refine W.skip ?_
   refine W.seq ?_
   refine W.block ?_
   refine W.drawn (by kernel_rfl) (by kernel_rfl) H.gn ?_
   have H3 := H
   iterate 2 refine RW.v ?_
   refine RW.both _ _ rfl rfl rfl (fun hc4 => ?_) (fun hc4 => ?_)
   ·have hc4b := hc4
    iterate 9 refine RW.s ?_
    iterate 2 refine RW.v ?_
    refine RW.nil ?_
    refine ⟨⟨by kernel_rfl, ⟨trivial, trivial, trivial, trivial, trivial, trivial, trivial, trivial, trivial, trivial, trivial, trivial, trivial, trivial⟩⟩, ?_⟩
    replace H := H3
    clear H3
    refine bQn ?_
    refine W.rg [(0, v1), (1, v2), (5, .int .i64 ((i : Nat) : Int)), (6, .bool true), (7, .int .i64 ((k : Nat) : Int))] fun TA => ?_
    refine W.region ?_
    refine RW.v ?_
    refine RW.valE (v' := .int .i64 (((k : Nat) : Int) + 1)) (by kernel_rfl) (by kernel_rfl) rfl (congrArg (Value.int .i64) (wrap_in (by omega) (by omega))) (by kernel_rfl) ?_
    refine RW.v ?_
    refine RW.nil ?_
    exact ⟨rfl, mmk - 1, by omega, k + 1, true, (by omega), (in_yes hI hc4b), H, rfl, rfl, rfl, rfl, rfl⟩
   ·have hc4b := hc4
    iterate 2 refine RW.w ?_
    refine RW.idxF h2 (by rfl) (by kernel_rfl) rfl Tryd.underlying22 (by kernel_rfl) rfl rfl ⟨by omega, by omega⟩ (by kernel_rfl) ?_
    intro b5 q6 r7 hF8 hE9
    rw [strs_at (l := m) (j := k) (i := ((k : Nat) : Int)) (by omega) (by omega)] at hE9
    refine RW.loads 1 (by rfl) (by kernel_rfl) rfl rfl (H3.old _ _ hF8) hE9 rfl (by kernel_rfl) ?_
    iterate 2 refine RW.w ?_
    refine RW.idxF h1 (by rfl) (by kernel_rfl) rfl Tryd.underlying22 (by kernel_rfl) rfl rfl ⟨by omega, by omega⟩ (by kernel_rfl) ?_
    intro b10 q11 r12 hF13 hE14
    rw [strs_at (l := l) (j := i) (i := ((i : Nat) : Int)) (by omega) (by omega)] at hE14
    refine RW.loads 1 (by rfl) (by kernel_rfl) rfl rfl (H3.old _ _ hF13) hE14 rfl (by kernel_rfl) ?_
    refine RW.vop (v := .bool ((m.getD k []) == (l.getD i []))) (by rfl) (by kernel_rfl) (vop_sEq rfl rfl rfl rfl) (by kernel_rfl) ?_
    iterate 2 refine RW.v ?_
    refine RW.nil ?_
    refine ⟨⟨by kernel_rfl, ⟨trivial, trivial, trivial, trivial, trivial, dyn_row (H3.old _ _ hF8) (H3.old _ _ hF8) ⟨nB, nB, nB, nB, nB, nB, nB, nB, nB, nB, nB, nB, nB, trivial⟩, trivial, trivial, trivial, dyn_row (H3.old _ _ hF13) (H3.old _ _ hF13) ⟨nB, nB, nB, nB, nB, nB, nB, nB, nB, nB, nB, nB, nB, trivial⟩, trivial, trivial, trivial, trivial⟩⟩, ?_⟩
    replace H := H3
    clear H3
    refine bQn ?_
    refine W.rg [(0, v1), (1, v2), (5, .int .i64 ((i : Nat) : Int)), (6, .bool ((m.getD k []) == (l.getD i []))), (7, .int .i64 ((k : Nat) : Int))] fun TA => ?_
    refine W.region ?_
    refine RW.v ?_
    refine RW.valE (v' := .int .i64 (((k : Nat) : Int) + 1)) (by kernel_rfl) (by kernel_rfl) rfl (congrArg (Value.int .i64) (wrap_in (by omega) (by omega))) (by kernel_rfl) ?_
    refine RW.v ?_
    refine RW.nil ?_
    exact ⟨rfl, mmk - 1, by omega, k + 1, (m.getD k []) == (l.getD i []), (by omega), (in_no hI hc4b hkm), H, rfl, rfl, rfl, rfl, rfl⟩
  ·have hc2b := hc2
   have hc2 := of_decide_eq_false hc2
   refine W.exit _ ?_
   refine seqQ_exit ?_
   refine rndQ_exit ?_
   rw [List.take_of_length_le (show m.length ≤ k by omega)] at hI
   refine blkQ_here ?_
   refine W.seq (W.region ?_)
   iterate 2 refine RW.v ?_
   refine RW.nil ?_
   refine W.rg [(0, v1), (1, v2), (5, .int .i64 ((i : Nat) : Int)), (33, .bool (!is))] fun TA => ?_
   refine W.cond rfl (fun hc15 => ?_) (fun hc15 => ?_)
   ·have hc15b := hc15
    have hno : ¬ (l.getD i []) ∈ m := of_decide_eq_false (hI.symm.trans (by simpa using hc15b))
    refine W.seq (W.region ?_)
    refine RW.v ?_
    refine RW.nil ?_
    refine W.ret ?_
    refine blkQ_ret ?_
    refine seqQ_ret ?_
    refine rndQ_ret ?_
    refine blkQ_ret ?_
    refine seqQ_ret ?_
    refine endG (by rfl) (by exact resL_tmp rfl) ?_
    rw [show decide (∀ x ∈ l, x ∈ m) = false from decide_eq_false (fun k => hno (k _ (mem_of hil)))]
    exact ⟨rfl, H⟩
   ·have hc15b := hc15
    have hyes : (l.getD i []) ∈ m := of_decide_eq_true (hI.symm.trans (by simpa using hc15b))
    refine W.skip ?_
    refine bQn ?_
    refine W.region ?_
    refine RW.v ?_
    refine RW.valE (v' := .int .i64 (((i : Nat) : Int) + 1)) (by kernel_rfl) (by kernel_rfl) rfl (congrArg (Value.int .i64) (wrap_in (by omega) (by omega))) (by kernel_rfl) ?_
    refine RW.v ?_
    refine RW.nil ?_
    exact ⟨rfl, mm - 1, by omega, i + 1, (by omega), (in_snoc hil hN (hyes)), H, rfl, rfl, rfl⟩
 ·have hc1b := hc1
  have hc1 := of_decide_eq_false hc1
  refine W.exit _ ?_
  refine seqQ_exit ?_
  refine rndQ_exit ?_
  refine blkQ_here ?_
  refine W.seq (W.region ?_)
  refine RW.v ?_
  refine RW.nil ?_
  refine W.ret ?_
  refine endG (by rfl) (by exact resL_tmp rfl) ?_
  rw [show decide (∀ x ∈ l, x ∈ m) = true from decide_eq_true (by rw [List.take_of_length_le (show l.length ≤ i by omega)] at hN; exact hN)]
  exact ⟨rfl, H⟩
set_option maxHeartbeats 64000000 in
theorem plain_wc (hs : s.length ≤ 1000000) (H : Lies G A F σ L) : WC G Tryd.prog 38 #[.string ⟨s.toArray⟩] σ fun v σ' => v = .bool (plainC s) ∧ Lies G A F σ' L := by
 refine WC.enter (fn := Tryd.f38) Tryd.func38 rfl ?_
 refine W.rg [(0, .string ⟨s.toArray⟩)] fun TA => ?_
 refine W.seq (W.region ?_)
 refine RW.v ?_
 refine RW.nil ?_
 refine W.rg [(0, .string ⟨s.toArray⟩)] fun TA => ?_
 refine W.seq ?_
 refine W.seq (W.region ?_)
 refine RW.v ?_
 refine RW.nil ?_
 refine W.rg [(0, .string ⟨s.toArray⟩), (3, .int .i64 0)] fun TA => ?_
 refine W.block ?_
 refine W.loop (fun mm ta σ => ∃ (i : Nat), (mm + i = s.length) ∧ (plainC s = plainC (s.drop i)) ∧ Lies G A F σ ((L)) ∧ ta 0 = .string ⟨s.toArray⟩ ∧ ta 3 = .int .i64 ((i : Nat) : Int)) s.length ?_ ?_
 ·exact ⟨0, (by omega), rfl, H, rfl, rfl⟩
 clear H
 rintro mm ta _ ⟨i, hm, hT, H, e0, e3⟩
 refine W.rst [(0, .string ⟨s.toArray⟩), (3, .int .i64 ((i : Nat) : Int))] ⟨e0, e3, trivial⟩ fun TA => ?_
 clear e0 e3
 refine W.seq ?_
 refine W.seq (W.region ?_)
 iterate 2 refine RW.v ?_
 refine RW.vop (v := .int .i64 (s.length : Int)) (by kernel_rfl) (by kernel_rfl) (vop_sLenL rfl rfl rfl rfl Tryd.underlying9 rfl) (by kernel_rfl) ?_
 refine RW.v ?_
 refine RW.nil ?_
 refine W.rg [(0, .string ⟨s.toArray⟩), (3, .int .i64 ((i : Nat) : Int)), (7, .bool (decide (((i : Nat) : Int) < (s.length : Int))))] fun TA => ?_
 refine W.cond rfl (fun hc1 => ?_) (fun hc1 => ?_)
 ·have hc1b := hc1
  have hc1 := of_decide_eq_true hc1
  have his : i < s.length := by omega
  refine W.skip ?_
  refine W.seq ?_
  refine W.block ?_
  refine W.seq (W.region ?_)
  iterate 2 refine RW.v ?_
  refine RW.vop (v := .int .u8 ((s.getD i 0).toNat : Int)) (by kernel_rfl) (by kernel_rfl) (vop_sAtL (a := s) (j := i) rfl rfl rfl Tryd.underlying9 (by omega)) (by kernel_rfl) ?_
  iterate 2 refine RW.v ?_
  refine RW.both _ _ rfl rfl rfl (fun hc2 => ?_) (fun hc2 => ?_)
  ·have hc2b := hc2
   have hc2 := eq_of_beq hc2
   iterate 4 refine RW.s ?_
   iterate 2 refine RW.v ?_
   iterate 4 refine RW.s ?_
   iterate 2 refine RW.v ?_
   iterate 4 refine RW.s ?_
   iterate 2 refine RW.v ?_
   iterate 4 refine RW.s ?_
   iterate 2 refine RW.v ?_
   iterate 4 refine RW.s ?_
   refine RW.v ?_
   refine RW.nil ?_
   refine W.c1 ?_
   refine W.seq (W.region ?_)
   refine RW.v ?_
   refine RW.nil ?_
   refine W.ret ?_
   refine blkQ_ret ?_
   refine seqQ_ret ?_
   refine rndQ_ret ?_
   refine blkQ_ret ?_
   refine seqQ_ret ?_
   refine endG (by rfl) (by exact resL_tmp rfl) ?_
   exact ⟨congrArg Value.bool (hT.trans (plain_stop his (by omega))).symm, H⟩
  ·have hc2b := hc2
   have hc2 := ne_of_beq_false hc2
   iterate 2 refine RW.w ?_
   refine RW.vop (v := .int .u8 ((s.getD i 0).toNat : Int)) (by rfl) (by kernel_rfl) (vop_sAtL (a := s) (j := i) rfl rfl rfl Tryd.underlying9 (by omega)) (by kernel_rfl) ?_
   refine RW.w ?_
   iterate 2 refine RW.v ?_
   refine RW.both _ _ rfl rfl rfl (fun hc3 => ?_) (fun hc3 => ?_)
   ·have hc3b := hc3
    have hc3 := eq_of_beq hc3
    iterate 4 refine RW.s ?_
    iterate 2 refine RW.v ?_
    iterate 4 refine RW.s ?_
    iterate 2 refine RW.v ?_
    iterate 4 refine RW.s ?_
    iterate 2 refine RW.v ?_
    iterate 4 refine RW.s ?_
    refine RW.v ?_
    refine RW.nil ?_
    refine W.c1 ?_
    refine W.seq (W.region ?_)
    refine RW.v ?_
    refine RW.nil ?_
    refine W.ret ?_
    refine blkQ_ret ?_
    refine seqQ_ret ?_
    refine rndQ_ret ?_
    refine blkQ_ret ?_
    refine seqQ_ret ?_
    refine endG (by rfl) (by exact resL_tmp rfl) ?_
    exact ⟨congrArg Value.bool (hT.trans (plain_stop his (by omega))).symm, H⟩
   ·have hc3b := hc3
    have hc3 := ne_of_beq_false hc3
    iterate 2 refine RW.w ?_
    refine RW.vop (v := .int .u8 ((s.getD i 0).toNat : Int)) (by rfl) (by kernel_rfl) (vop_sAtL (a := s) (j := i) rfl rfl rfl Tryd.underlying9 (by omega)) (by kernel_rfl) ?_
    refine RW.w ?_
    iterate 2 refine RW.v ?_
    refine RW.both _ _ rfl rfl rfl (fun hc4 => ?_) (fun hc4 => ?_)
    ·have hc4b := hc4
     have hc4 := eq_of_beq hc4
     iterate 4 refine RW.s ?_
     iterate 2 refine RW.v ?_
     iterate 4 refine RW.s ?_
     iterate 2 refine RW.v ?_
     iterate 4 refine RW.s ?_
     refine RW.v ?_
     refine RW.nil ?_
     refine W.c1 ?_
     refine W.seq (W.region ?_)
     refine RW.v ?_
     refine RW.nil ?_
     refine W.ret ?_
     refine blkQ_ret ?_
     refine seqQ_ret ?_
     refine rndQ_ret ?_
     refine blkQ_ret ?_
     refine seqQ_ret ?_
     refine endG (by rfl) (by exact resL_tmp rfl) ?_
     exact ⟨congrArg Value.bool (hT.trans (plain_stop his (by omega))).symm, H⟩
    ·have hc4b := hc4
     have hc4 := ne_of_beq_false hc4
     iterate 2 refine RW.w ?_
     refine RW.vop (v := .int .u8 ((s.getD i 0).toNat : Int)) (by rfl) (by kernel_rfl) (vop_sAtL (a := s) (j := i) rfl rfl rfl Tryd.underlying9 (by omega)) (by kernel_rfl) ?_
     refine RW.w ?_
     iterate 2 refine RW.v ?_
     refine RW.both _ _ rfl rfl rfl (fun hc5 => ?_) (fun hc5 => ?_)
     ·have hc5b := hc5
      have hc5 := eq_of_beq hc5
      iterate 4 refine RW.s ?_
      iterate 2 refine RW.v ?_
      iterate 4 refine RW.s ?_
      refine RW.v ?_
      refine RW.nil ?_
      refine W.c1 ?_
      refine W.seq (W.region ?_)
      refine RW.v ?_
      refine RW.nil ?_
      refine W.ret ?_
      refine blkQ_ret ?_
      refine seqQ_ret ?_
      refine rndQ_ret ?_
      refine blkQ_ret ?_
      refine seqQ_ret ?_
      refine endG (by rfl) (by exact resL_tmp rfl) ?_
      exact ⟨congrArg Value.bool (hT.trans (plain_stop his (by omega))).symm, H⟩
     ·have hc5b := hc5
      have hc5 := ne_of_beq_false hc5
      iterate 2 refine RW.w ?_
      refine RW.vop (v := .int .u8 ((s.getD i 0).toNat : Int)) (by rfl) (by kernel_rfl) (vop_sAtL (a := s) (j := i) rfl rfl rfl Tryd.underlying9 (by omega)) (by kernel_rfl) ?_
      refine RW.w ?_
      iterate 2 refine RW.v ?_
      refine RW.both _ _ rfl rfl rfl (fun hc6 => ?_) (fun hc6 => ?_)
      ·have hc6b := hc6
       have hc6 := eq_of_beq hc6
       iterate 4 refine RW.s ?_
       refine RW.v ?_
       refine RW.nil ?_
       refine W.c1 ?_
       refine W.seq (W.region ?_)
       refine RW.v ?_
       refine RW.nil ?_
       refine W.ret ?_
       refine blkQ_ret ?_
       refine seqQ_ret ?_
       refine rndQ_ret ?_
       refine blkQ_ret ?_
       refine seqQ_ret ?_
       refine endG (by rfl) (by exact resL_tmp rfl) ?_
       exact ⟨congrArg Value.bool (hT.trans (plain_stop his (by omega))).symm, H⟩
      ·have hc6b := hc6
       have hc6 := ne_of_beq_false hc6
       iterate 2 refine RW.w ?_
       refine RW.vop (v := .int .u8 ((s.getD i 0).toNat : Int)) (by rfl) (by kernel_rfl) (vop_sAtL (a := s) (j := i) rfl rfl rfl Tryd.underlying9 (by omega)) (by kernel_rfl) ?_
       refine RW.w ?_
       refine RW.v ?_
       refine RW.nil ?_
       refine W.rg [(0, .string ⟨s.toArray⟩), (3, .int .i64 ((i : Nat) : Int)), (43, .bool (((s.getD i 0).toNat : Int) == 95))] fun TA => ?_
       refine W.cond rfl (fun hc7 => ?_) (fun hc7 => ?_)
       ·have hc7b := hc7
        have hc7 := eq_of_beq hc7
        refine W.seq (W.region ?_)
        refine RW.v ?_
        refine RW.nil ?_
        refine W.ret ?_
        refine blkQ_ret ?_
        refine seqQ_ret ?_
        refine rndQ_ret ?_
        refine blkQ_ret ?_
        refine seqQ_ret ?_
        refine endG (by rfl) (by exact resL_tmp rfl) ?_
        exact ⟨congrArg Value.bool (hT.trans (plain_stop his (by omega))).symm, H⟩
       ·have hc7b := hc7
        have hc7 := ne_of_beq_false hc7
        refine W.skip ?_
        refine bQn ?_
        refine W.region ?_
        refine RW.v ?_
        refine RW.valE (v' := .int .i64 (((i : Nat) : Int) + 1)) (by kernel_rfl) (by kernel_rfl) rfl (congrArg (Value.int .i64) (wrap_in (by omega) (by omega))) (by kernel_rfl) ?_
        refine RW.v ?_
        refine RW.nil ?_
        exact ⟨rfl, mm - 1, by omega, i + 1, (by omega), (hT.trans (plain_go his (by omega))), H, rfl, rfl⟩
 ·have hc1b := hc1
  have hc1 := of_decide_eq_false hc1
  refine W.exit _ ?_
  refine seqQ_exit ?_
  refine rndQ_exit ?_
  refine blkQ_here ?_
  refine W.seq (W.region ?_)
  refine RW.v ?_
  refine RW.nil ?_
  refine W.ret ?_
  refine endG (by rfl) (by exact resL_tmp rfl) ?_
  exact ⟨congrArg Value.bool (hT.trans (congrArg plainC (List.drop_eq_nil_of_le (show s.length ≤ i by omega)))).symm, H⟩
end
set_option maxHeartbeats 64000000 in
theorem ckinds_law {G : Nat} {σ0 : Mem} {v1 v2 : Value} {l rc : List (List UInt8)} {s : List UInt8} {fold : Bool} (hG : G ≤ σ0.next) (hno : σ0.abs = Abs.no) (h16 : 16 ≤ G) (hU : U8F σ0.get) (CK : ∀ σ', (∀ b y, σ0.get b = some y → σ'.get b = some y) → SCall G Tryd.prog 6 #[] σ' (.bool true) σ') (hl0 : l.length ≤ 9223372036854775807) (hr0 : rc.length ≤ 9223372036854775807) (h1 : SlF σ0.get 1 v1 l.length (l.map strV)) (h2 : SlF σ0.get 1 v2 rc.length (rc.map strV)) :
  WC G Tryd.prog 8 #[v1, v2, .string ⟨s.toArray⟩, .bool fold] σ0 fun v _ => v = .bool true := by
 have H := Lies.start hG hno
 generalize σ0.get = F0 at H h1 h2 hU CK
 obtain ⟨F, hF⟩ : ∃ F, F = F0 := ⟨_, rfl⟩
 have le0 : Le F0 F := fun b y h => hF ▸ h
 rw [← hF] at H
 clear hF
 refine WC.enter (fn := Tryd.f8) Tryd.func8 rfl ?_
 refine W.rg [(0, v1), (1, v2), (2, .string ⟨s.toArray⟩), (3, .bool fold)] fun TA => ?_
 refine W.seq (W.region ?_)
 refine RW.v ?_
 refine RW.nil ?_
 refine W.rg [(0, v1), (1, v2), (2, .string ⟨s.toArray⟩), (3, .bool fold)] fun TA => ?_
 refine W.seq (W.region ?_)
 refine RW.cl ?_
 refine ⟨_, _, (CK _ fun b y h => H.old _ _ (le0 b y h)), ?_⟩
 refine RW.v ?_
 refine RW.nil ?_
 refine W.rg [(0, v1), (1, v2), (2, .string ⟨s.toArray⟩), (3, .bool fold), (9, .bool true)] fun TA => ?_
 refine W.seq ?_
 refine W.seq (W.region ?_)
 iterate 2 refine RW.v ?_
 refine RW.cl ?_
 refine ((light_wc (h1.le le0) hl0 H).mono ?_)
 clear H
 rintro _ _ ⟨lb, rfl, hlb, H⟩
 iterate 2 refine RW.v ?_
 refine RW.both _ _ rfl rfl rfl (fun hc1 => ?_) (fun hc1 => ?_)
 ·have hc1b := hc1
  iterate 3 refine RW.s ?_
  refine RW.v ?_
  refine RW.nil ?_
  refine W.c1 ?_
  refine W.seq (W.region ?_)
  iterate 2 refine RW.v ?_
  refine RW.nil ?_
  refine W.ret ?_
  refine seqQ_ret ?_
  refine endG (by rfl) (by exact resL_tmp rfl) ?_
  exact rfl
 ·have hc1b := hc1
  refine RW.w ?_
  refine RW.cl (hw := by rfl) ?_
  refine ((lightTexts_wc (h2.le le0) hr0 H).mono ?_)
  clear H
  rintro _ _ ⟨rb, rfl, hrb, H⟩
  refine RW.w ?_
  refine RW.v ?_
  refine RW.nil ?_
  refine W.rg [(0, v1), (1, v2), (2, .string ⟨s.toArray⟩), (3, .bool fold), (9, .bool true), (23, .bool (!rb))] fun TA => ?_
  refine W.cond rfl (fun hc2 => ?_) (fun hc2 => ?_)
  ·have hc2b := hc2
   refine W.seq (W.region ?_)
   iterate 2 refine RW.v ?_
   refine RW.nil ?_
   refine W.ret ?_
   refine seqQ_ret ?_
   refine endG (by rfl) (by exact resL_tmp rfl) ?_
   exact rfl
  ·have hc2b := hc2
   obtain ⟨hl40, hx60, hs60⟩ := hlb (by simpa using hc1b)
   have hl : l.length ≤ 1000000 := by omega
   have hsm : ∀ x ∈ l, x.length ≤ 1000000 := fun x hx => Nat.le_trans (hx60 x hx) (by decide)
   have hs : s.length ≤ 1000000 := by omega
   obtain ⟨hr40, hr60⟩ := hrb (by simpa using hc2b)
   have hrm : ∀ x ∈ rc, x.length ≤ 1000000 := fun x hx => Nat.le_trans (hr60 x hx) (by decide)
   refine W.skip ?_
   refine W.seq (W.region ?_)
   iterate 3 refine RW.v ?_
   refine RW.cl ?_
   refine ((All_wc (fold := fold) (hU.le le0) h16 (h1.le le0) hl hsm hs H).mono ?_)
   clear H
   rintro u1 _ ⟨F, le, hu1, H⟩
   replace le0 := fun b y h => le b y (le0 b y h)
   obtain ⟨M, hM⟩ : ∃ M, M = allC fold l s := ⟨_, rfl⟩
   rw [← hM] at hu1
   obtain ⟨Z, hZ⟩ : ∃ Z, Z = flexC fold l s := ⟨_, rfl⟩
   obtain ⟨hML, hMZ⟩ := flex_first (fold := fold) (l := l) (s := s)
   rw [← hM, ← hZ] at hML hMZ
   have hZl : Z.length ≤ 1000000 := by rw [hZ]; exact flexC_len hl
   have hMl : M.length ≤ 1000000 := by omega
   iterate 3 refine RW.v ?_
   refine RW.cl ?_
   refine ((Flex_wc (fold := fold) (hU.le le0) h16 (h1.le le0) hl40 hsm hs H).mono ?_)
   clear H
   rintro u2 _ ⟨F, le, hu2, H⟩
   replace le0 := fun b y h => le b y (le0 b y h)
   replace hu1 := hu1.le le
   rw [← hZ] at hu2
   iterate 2 refine RW.v ?_
   refine RW.nil ?_
   refine W.rg [(0, v1), (1, v2), (2, .string ⟨s.toArray⟩), (3, .bool fold), (9, .bool true), (10, u1), (11, u2)] fun TA => ?_
   refine W.seq ?_
   refine W.seq (W.region ?_)
   refine RW.v ?_
   refine RW.len (by kernel_rfl) (by kernel_rfl) rfl rfl rfl rfl (hu2.slf.len (e := 9) (by kernel_rfl)) (by kernel_rfl) ?_
   refine RW.v ?_
   refine RW.len (by kernel_rfl) (by kernel_rfl) rfl rfl rfl rfl (hu1.len (e := 9) (by kernel_rfl)) (by kernel_rfl) ?_
   refine RW.valE (v' := .bool false) (by kernel_rfl) (by kernel_rfl) rfl (congrArg Value.bool (decide_eq_false (by omega))) (by kernel_rfl) ?_
   refine RW.v ?_
   iterate 3 refine RW.w ?_
   refine RW.len (by rfl) (by kernel_rfl) rfl rfl rfl rfl (hu1.len (e := 9) (by kernel_rfl)) (by kernel_rfl) ?_
   obtain ⟨sv3, hv4, hk5⟩ := slk_cut (P := Tryd.prog) (t := 22) (e := 9) (i := M.length) hu2 (by kernel_rfl) (by kernel_rfl) hML
   have hk5b : SlF F 1 sv3 (Z.take M.length).length ((Z.take M.length).map strV) := by rw [Nat.mul_one] at hk5; rw [List.length_take, Nat.min_eq_left hML, List.map_take]; exact hk5.slf
   refine RW.vop (v := sv3) (by rfl) (by kernel_rfl) (vop_slice rfl hv4) (by kernel_rfl) ?_
   refine RW.cl (hw := by rfl) ?_
   refine ((within_wc hu1 hk5b hMl (by rw [List.length_take]; omega) H).mono ?_)
   clear H
   rintro vq _ ⟨hvq, H⟩
   replace hvq := hvq.trans (congrArg Value.bool (decide_eq_true (fun x hx => (hMZ x).2 hx)))
   subst hvq
   refine RW.w ?_
   iterate 2 refine RW.v ?_
   iterate 2 refine RW.w ?_
   refine RW.len (by rfl) (by kernel_rfl) rfl rfl rfl rfl (hu1.len (e := 9) (by kernel_rfl)) (by kernel_rfl) ?_
   obtain ⟨sv6, hv7, hk8⟩ := slk_cut (P := Tryd.prog) (t := 22) (e := 9) (i := M.length) hu2 (by kernel_rfl) (by kernel_rfl) hML
   have hk8b : SlF F 1 sv6 (Z.take M.length).length ((Z.take M.length).map strV) := by rw [Nat.mul_one] at hk8; rw [List.length_take, Nat.min_eq_left hML, List.map_take]; exact hk8.slf
   refine RW.vop (v := sv6) (by rfl) (by kernel_rfl) (vop_slice rfl hv7) (by kernel_rfl) ?_
   refine RW.w ?_
   refine RW.cl (hw := by rfl) ?_
   refine ((within_wc hk8b hu1 (by rw [List.length_take]; omega) hMl H).mono ?_)
   clear H
   rintro vq _ ⟨hvq, H⟩
   replace hvq := hvq.trans (congrArg Value.bool (decide_eq_true (fun x hx => (hMZ x).1 hx)))
   subst hvq
   refine RW.w ?_
   refine RW.v ?_
   refine RW.nil ?_
   refine W.c0 ?_
   refine W.skip ?_
   refine W.seq ?_
   refine W.seq (W.region ?_)
   refine RW.v ?_
   refine RW.cl ?_
   refine ((plain_wc hs H).mono ?_)
   clear H
   rintro _ _ ⟨rfl, H⟩
   refine RW.v ?_
   refine RW.both _ _ rfl rfl rfl (fun hc9 => ?_) (fun hc9 => ?_)
   ·have hc9b := hc9
    iterate 3 refine RW.w ?_
    refine RW.cl (hw := by rfl) ?_
    refine ((Partial_wc (fold := fold) (hU.le le0) h16 (h1.le le0) hl hsm (Nat.le_trans hs60 (by decide)) H).mono ?_)
    clear H
    rintro u3 _ ⟨F, le, hu3, H⟩
    replace le0 := fun b y h => le b y (le0 b y h)
    replace hu1 := hu1.le le
    replace hu2 := hu2.le le
    replace hk5b := hk5b.le le
    replace hk8b := hk8b.le le
    rw [plain_all hc9b, ← hM] at hu3
    refine RW.w ?_
    refine RW.cl (hw := by rfl) ?_
    refine ((same_wcS hu3 hu1 hMl H).mono ?_)
    clear H
    rintro vq _ ⟨hvq, H⟩
    replace hvq := hvq.trans (congrArg Value.bool (decide_eq_true (rfl : M = M)))
    subst hvq
    refine RW.w ?_
    refine RW.v ?_
    refine RW.nil ?_
    refine W.c0 ?_
    refine W.skip ?_
    refine W.seq (W.region ?_)
    refine RW.v ?_
    refine RW.cl ?_
    refine ((All_wc (fold := false) (s := []) (hU.le le0) h16 (h1.le le0) hl hsm (Nat.zero_le _) H).mono ?_)
    clear H
    rintro u4 _ ⟨F, le, hu4, H⟩
    replace le0 := fun b y h => le b y (le0 b y h)
    replace hu1 := hu1.le le
    replace hu2 := hu2.le le
    replace hk5b := hk5b.le le
    replace hk8b := hk8b.le le
    replace hu3 := hu3.le le
    rw [all_empty] at hu4
    obtain ⟨hS1, hS2, hS3⟩ := sort_all (l := l) (rc := rc)
    obtain ⟨E, hE⟩ : ∃ E, E = distM l := ⟨_, rfl⟩
    rw [← hE] at hu4 hS1 hS2
    obtain ⟨Y, hY⟩ : ∃ Y, Y = sortC l rc := ⟨_, rfl⟩
    rw [← hY] at hS1 hS2 hS3
    have hEl : E.length ≤ 1000000 := by rw [hE]; exact Nat.le_trans (distG_len l []) hl
    have hYl : Y.length ≤ 1000000 := by omega
    refine RW.v ?_
    refine RW.nil ?_
    refine W.rg [(0, v1), (1, v2), (9, .bool true), (12, u4)] fun TA => ?_
    refine W.seq (W.region ?_)
    iterate 2 refine RW.v ?_
    refine RW.cl ?_
    refine ((Sort_wc (hU.le le0) h16 (h1.le le0) (h2.le le0) hl40 hr40 hsm hrm H).mono ?_)
    clear H
    rintro u5 _ ⟨F, le, hu5, H⟩
    replace le0 := fun b y h => le b y (le0 b y h)
    replace hu1 := hu1.le le
    replace hu2 := hu2.le le
    replace hk5b := hk5b.le le
    replace hk8b := hk8b.le le
    replace hu3 := hu3.le le
    replace hu4 := hu4.le le
    rw [← hY] at hu5
    refine RW.v ?_
    refine RW.nil ?_
    refine W.rg [(0, v1), (9, .bool true), (12, u4), (13, u5)] fun TA => ?_
    refine W.seq (W.region ?_)
    iterate 2 refine RW.v ?_
    refine RW.w ?_
    refine RW.len (by rfl) (by kernel_rfl) rfl rfl rfl rfl (hu5.len (e := 9) (by kernel_rfl)) (by kernel_rfl) ?_
    refine RW.w ?_
    refine RW.len (by rfl) (by kernel_rfl) rfl rfl rfl rfl (hu4.len (e := 9) (by kernel_rfl)) (by kernel_rfl) ?_
    refine RW.valE (v' := .bool true) (by rfl) (by kernel_rfl) rfl (congrArg Value.bool (beq_iff_eq.2 (by omega))) (by kernel_rfl) ?_
    iterate 2 refine RW.v ?_
    iterate 2 refine RW.w ?_
    refine RW.cl (hw := by rfl) ?_
    refine ((within_wc hu4 hu5 hEl hYl H).mono ?_)
    clear H
    rintro vq _ ⟨hvq, H⟩
    replace hvq := hvq.trans (congrArg Value.bool (decide_eq_true (hS2)))
    subst hvq
    iterate 2 refine RW.v ?_
    iterate 2 refine RW.w ?_
    refine RW.cl (hw := by rfl) ?_
    refine ((within_wc hu5 (h1.le le0) hYl hl H).mono ?_)
    clear H
    rintro vq _ ⟨hvq, H⟩
    replace hvq := hvq.trans (congrArg Value.bool (decide_eq_true (hS3)))
    subst hvq
    iterate 2 refine RW.v ?_
    refine RW.nil ?_
    refine W.ret ?_
    refine endG (by rfl) (by exact resL_tmp rfl) ?_
    exact rfl
   ·have hc9b := hc9
    iterate 7 refine RW.s ?_
    refine RW.v ?_
    refine RW.nil ?_
    refine W.c0 ?_
    refine W.skip ?_
    refine W.seq (W.region ?_)
    refine RW.v ?_
    refine RW.cl ?_
    refine ((All_wc (fold := false) (s := []) (hU.le le0) h16 (h1.le le0) hl hsm (Nat.zero_le _) H).mono ?_)
    clear H
    rintro u4 _ ⟨F, le, hu4, H⟩
    replace le0 := fun b y h => le b y (le0 b y h)
    replace hu1 := hu1.le le
    replace hu2 := hu2.le le
    replace hk5b := hk5b.le le
    replace hk8b := hk8b.le le
    rw [all_empty] at hu4
    obtain ⟨hS1, hS2, hS3⟩ := sort_all (l := l) (rc := rc)
    obtain ⟨E, hE⟩ : ∃ E, E = distM l := ⟨_, rfl⟩
    rw [← hE] at hu4 hS1 hS2
    obtain ⟨Y, hY⟩ : ∃ Y, Y = sortC l rc := ⟨_, rfl⟩
    rw [← hY] at hS1 hS2 hS3
    have hEl : E.length ≤ 1000000 := by rw [hE]; exact Nat.le_trans (distG_len l []) hl
    have hYl : Y.length ≤ 1000000 := by omega
    refine RW.v ?_
    refine RW.nil ?_
    refine W.rg [(0, v1), (1, v2), (9, .bool true), (12, u4)] fun TA => ?_
    refine W.seq (W.region ?_)
    iterate 2 refine RW.v ?_
    refine RW.cl ?_
    refine ((Sort_wc (hU.le le0) h16 (h1.le le0) (h2.le le0) hl40 hr40 hsm hrm H).mono ?_)
    clear H
    rintro u5 _ ⟨F, le, hu5, H⟩
    replace le0 := fun b y h => le b y (le0 b y h)
    replace hu1 := hu1.le le
    replace hu2 := hu2.le le
    replace hk5b := hk5b.le le
    replace hk8b := hk8b.le le
    replace hu4 := hu4.le le
    rw [← hY] at hu5
    refine RW.v ?_
    refine RW.nil ?_
    refine W.rg [(0, v1), (9, .bool true), (12, u4), (13, u5)] fun TA => ?_
    refine W.seq (W.region ?_)
    iterate 2 refine RW.v ?_
    refine RW.w ?_
    refine RW.len (by rfl) (by kernel_rfl) rfl rfl rfl rfl (hu5.len (e := 9) (by kernel_rfl)) (by kernel_rfl) ?_
    refine RW.w ?_
    refine RW.len (by rfl) (by kernel_rfl) rfl rfl rfl rfl (hu4.len (e := 9) (by kernel_rfl)) (by kernel_rfl) ?_
    refine RW.valE (v' := .bool true) (by rfl) (by kernel_rfl) rfl (congrArg Value.bool (beq_iff_eq.2 (by omega))) (by kernel_rfl) ?_
    iterate 2 refine RW.v ?_
    iterate 2 refine RW.w ?_
    refine RW.cl (hw := by rfl) ?_
    refine ((within_wc hu4 hu5 hEl hYl H).mono ?_)
    clear H
    rintro vq _ ⟨hvq, H⟩
    replace hvq := hvq.trans (congrArg Value.bool (decide_eq_true (hS2)))
    subst hvq
    iterate 2 refine RW.v ?_
    iterate 2 refine RW.w ?_
    refine RW.cl (hw := by rfl) ?_
    refine ((within_wc hu5 (h1.le le0) hYl hl H).mono ?_)
    clear H
    rintro vq _ ⟨hvq, H⟩
    replace hvq := hvq.trans (congrArg Value.bool (decide_eq_true (hS3)))
    subst hvq
    iterate 2 refine RW.v ?_
    refine RW.nil ?_
    refine W.ret ?_
    refine endG (by rfl) (by exact resL_tmp rfl) ?_
    exact rfl
end Go.Proofs.YtjcmdifpkafdkaaDoor
