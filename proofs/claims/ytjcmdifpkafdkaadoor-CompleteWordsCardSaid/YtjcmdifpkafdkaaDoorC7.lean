/-
 The reference of completion by prefixes. Conditions: none.
-/
import Derived.Test.YtjcmdifpkafdkaaDoorC4
import Derived.Test.YtjcmdifpkafdkaaDoorC3
namespace Go.Proofs.YtjcmdifpkafdkaaDoor
open Go.Lib
set_option maxRecDepth 100000
open Go.RowKit
theorem testC_any {fold : Bool} {m : List (List UInt8)} {s : List UInt8} (hd : distM m = m) (hv : validD s = true) : testC fold m s = m.any fun c => eqC fold (runes c) (runes s) := by
 unfold testC
 rw [hd, hv, Bool.true_and]
section
variable {G : Nat} {A : Abs} {σ : Mem} {F : Nat → Option Blk2} {L : List Ent} {fold : Bool} {l m : List (List UInt8)} {s : List UInt8} {v1 : Value}
set_option maxHeartbeats 8000000 in
theorem r_test (h1 : SlF F 1 v1 l.length (l.map strV)) (hl : l.length ≤ 1000000) (hsm : ∀ s ∈ l, s.length ≤ 60000) (hs : s.length ≤ 60000) (H : Lies G A F σ L) : WC G Tryd.prog 29 #[v1, .string ⟨s.toArray⟩, .bool fold] σ fun v σ' => v = .bool (testC fold l s) ∧ Lies G A F σ' L := by
 obtain ⟨F0, hF⟩ : ∃ F0, F0 = F := ⟨_, rfl⟩
 have le0 : Le F0 F := fun b y h => hF ▸ h
 rw [← hF] at h1 ⊢
 have hsmM : ∀ x ∈ l, x.length ≤ 1000000 := fun x hx => Nat.le_trans (hsm x hx) (by decide)
 refine WC.enter (fn := Tryd.f29) Tryd.func29 rfl ?_
 refine W.rg [(0, v1), (1, .string ⟨s.toArray⟩), (2, .bool fold)] fun TA => ?_
 refine W.seq (W.region ?_)
 refine RW.v ?_
 refine RW.nil ?_
 refine W.rg [(0, v1), (1, .string ⟨s.toArray⟩), (2, .bool fold)] fun TA => ?_
 refine W.seq ?_
 refine W.seq (W.region ?_)
 refine RW.v ?_
 refine RW.cl ?_
 refine ⟨_, _, (s_rvalid (Nat.le_trans hs (by decide))), ?_⟩
 refine RW.v ?_
 refine RW.nil ?_
 refine W.rg [(0, v1), (1, .string ⟨s.toArray⟩), (2, .bool fold), (11, .bool (!(validD s)))] fun TA => ?_
 refine W.cond rfl (fun hc1 => ?_) (fun hc1 => ?_)
 ·have hc1b := hc1
  have hvs : validD s = false := by simpa using hc1b
  refine W.seq (W.region ?_)
  refine RW.v ?_
  refine RW.nil ?_
  refine W.ret ?_
  refine seqQ_ret ?_
  refine endG (by rfl) (by exact resL_tmp rfl) ?_
  have e : testC fold l s = false := by unfold testC; rw [hvs, Bool.false_and]
  rw [e]
  exact ⟨rfl, (H).back le0⟩
 ·have hc1b := hc1
  have hvs : validD s = true := by simpa using hc1b
  refine W.skip ?_
  refine W.seq (W.region ?_)
  refine RW.v ?_
  refine RW.cl ?_
  refine ((r_candidates (h1.le le0) hl hsmM H).mono ?_)
  clear H
  rintro du _ ⟨F, le, hcd, H⟩
  replace le0 := fun b y h => le b y (le0 b y h)
  obtain ⟨D, hD⟩ : ∃ D, D = distM l := ⟨_, rfl⟩
  rw [← hD] at hcd
  have hDl : D.length ≤ 1000000 := by rw [hD]; exact Nat.le_trans (distG_len l []) hl
  have hDm : ∀ x ∈ D, validD x = true ∧ x ∈ l := fun x hx => by rw [hD] at hx; have := distM_mem.1 hx; exact ⟨this.2, this.1⟩
  obtain ⟨FB, hFB⟩ : ∃ FB, FB = F := ⟨_, rfl⟩
  rw [← hFB] at hcd
  have leB : Le FB F := fun b y h => hFB ▸ h
  refine RW.v ?_
  refine RW.nil ?_
  refine W.rg [(1, .string ⟨s.toArray⟩), (2, .bool fold), (7, du)] fun TA => ?_
  refine W.seq ?_
  refine W.seq (W.region ?_)
  refine RW.v ?_
  refine RW.nil ?_
  refine W.rg [(1, .string ⟨s.toArray⟩), (2, .bool fold), (7, du), (8, .int .i64 0)] fun TA => ?_
  refine W.block ?_
  refine W.loop (fun mm ta σ => ∃ (i : Nat), (mm + i = D.length) ∧ (D.any (fun c => eqC fold (runes c) (runes s)) = (D.drop i).any (fun c => eqC fold (runes c) (runes s))) ∧ Lies G A F σ ((L)) ∧ ta 1 = .string ⟨s.toArray⟩ ∧ ta 2 = .bool fold ∧ ta 7 = du ∧ ta 8 = .int .i64 ((i : Nat) : Int)) D.length ?_ ?_
  ·exact ⟨0, (by omega), rfl, H, rfl, rfl, rfl, rfl⟩
  clear H
  rintro mm ta _ ⟨i, hm, hT, H, e1, e2, e7, e8⟩
  refine W.rst [(1, .string ⟨s.toArray⟩), (2, .bool fold), (7, du), (8, .int .i64 ((i : Nat) : Int))] ⟨e1, e2, e7, e8, trivial⟩ fun TA => ?_
  clear e1 e2 e7 e8
  have leB : Le FB F := fun b y h => hFB ▸ h
  refine W.seq ?_
  refine W.seq (W.region ?_)
  iterate 2 refine RW.v ?_
  refine RW.len (by kernel_rfl) (by kernel_rfl) rfl rfl rfl rfl ((hcd.le leB).len (e := 9) (by kernel_rfl)) (by kernel_rfl) ?_
  refine RW.v ?_
  refine RW.nil ?_
  refine W.rg [(1, .string ⟨s.toArray⟩), (2, .bool fold), (7, du), (8, .int .i64 ((i : Nat) : Int)), (17, .bool (decide (((i : Nat) : Int) < (D.length : Int))))] fun TA => ?_
  refine W.cond rfl (fun hc2 => ?_) (fun hc2 => ?_)
  ·have hc2b := hc2
   have hc2 := of_decide_eq_true hc2
   have hil : i < D.length := by omega
   have hXd := hDm _ (mem_of (l := D) (j := i) hil)
   refine W.skip ?_
   refine W.seq ?_
   refine W.block ?_
   refine W.seq (W.region ?_)
   iterate 2 refine RW.v ?_
   refine RW.idxF (hcd.le leB) (by kernel_rfl) (by kernel_rfl) rfl Tryd.underlying22 (by kernel_rfl) rfl rfl ⟨by omega, by omega⟩ (by kernel_rfl) ?_
   intro b3 q4 r5 hF6 hE7
   rw [strs_at (l := D) (j := i) (i := ((i : Nat) : Int)) (by omega) (by omega)] at hE7
   refine RW.loads 1 (by kernel_rfl) (by kernel_rfl) rfl rfl (H.old _ _ hF6) hE7 rfl (by kernel_rfl) ?_
   refine RW.cl ?_
   refine ((r_chars (hsmM _ hXd.2) H).mono ?_)
   clear H
   rintro cu8 _ ⟨F, _, le, rfl, hu9, H⟩
   replace leB := fun b y h => le b y (leB b y h)
   rw [chars_yes hXd.1] at hu9
   refine RW.v ?_
   refine RW.cl ?_
   refine ((r_chars (Nat.le_trans hs (by decide)) H).mono ?_)
   clear H
   rintro cu10 _ ⟨F, _, le, rfl, hu11, H⟩
   replace leB := fun b y h => le b y (leB b y h)
   replace hu9 := hu9.le le
   rw [chars_yes hvs] at hu11
   refine RW.v ?_
   refine RW.cl ?_
   refine ((r_equal (fold := fold) hu9.slf hu11.slf (Nat.le_trans (runes_le _) (hsmM _ hXd.2)) (Nat.le_trans (runes_le _) (Nat.le_trans hs (by decide))) H).mono ?_)
   clear H
   rintro _ _ ⟨rfl, H⟩
   refine RW.nil ?_
   refine W.rg [(1, .string ⟨s.toArray⟩), (2, .bool fold), (7, du), (8, .int .i64 ((i : Nat) : Int)), (28, .bool (eqC fold (runes (D.getD i [])) (runes s)))] fun TA => ?_
   refine W.cond rfl (fun hc12 => ?_) (fun hc12 => ?_)
   ·have hc12b := hc12
    refine W.seq (W.region ?_)
    refine RW.v ?_
    refine RW.nil ?_
    refine W.ret ?_
    refine blkQ_ret ?_
    refine seqQ_ret ?_
    refine rndQ_ret ?_
    refine blkQ_ret ?_
    refine seqQ_ret ?_
    refine endG (by rfl) (by exact resL_tmp rfl) ?_
    have e : testC fold l s = true := by unfold testC; rw [hvs, Bool.true_and, ← hD, hT, dropD (d := []) hil, List.any_cons, hc12b, Bool.true_or]
    rw [e]
    replace H := (H).back leB
    rw [hFB] at H
    exact ⟨rfl, H.back le0⟩
   ·have hc12b := hc12
    refine W.skip ?_
    refine blkQ_normal ?_
    refine W.region ?_
    refine RW.v ?_
    refine RW.valE (v' := .int .i64 (((i : Nat) : Int) + 1)) (by kernel_rfl) (by kernel_rfl) rfl (congrArg (Value.int .i64) (wrap_in (by omega) (by omega))) (by kernel_rfl) ?_
    refine RW.v ?_
    refine RW.nil ?_
    replace H := H.back leB
    rw [hFB] at H
    exact ⟨rfl, mm - 1, by omega, i + 1, (by omega), (by rw [hT, dropD (d := []) hil, List.any_cons, hc12b, Bool.false_or]), H, rfl, rfl, rfl, rfl⟩
  ·have hc2b := hc2
   have hc2 := of_decide_eq_false hc2
   refine W.exit _ ?_
   refine seqQ_exit ?_
   refine rndQ_exit ?_
   refine blkQ_here ?_
   refine W.seq (W.region ?_)
   refine RW.v ?_
   refine RW.nil ?_
   refine W.ret ?_
   refine endG (by rfl) (by exact resL_tmp rfl) ?_
   have e : testC fold l s = false := by unfold testC; rw [hvs, Bool.true_and, ← hD, hT, List.drop_eq_nil_of_le (by omega)]; rfl
   rw [e]
   exact ⟨rfl, (H).back le0⟩
set_option maxHeartbeats 4000000 in
theorem r_status (h1 : SlF F 1 v1 m.length (m.map strV)) (hl : m.length ≤ 1000000) (hsm : ∀ s ∈ m, s.length ≤ 60000) (hs : s.length ≤ 60000) (hd : distM m = m) (hv : m ≠ [] → validD s = true) (H : Lies G A F σ L) : WC G Tryd.prog 46 #[v1, .string ⟨s.toArray⟩, .bool fold] σ fun v σ' => v = .int .i64 (statusC fold m s) ∧ Lies G A F σ' L := by
 refine WC.enter (fn := Tryd.f46) Tryd.func46 rfl ?_
 refine W.rg [(0, v1), (1, .string ⟨s.toArray⟩), (2, .bool fold)] fun TA => ?_
 refine W.seq (W.region ?_)
 refine RW.v ?_
 refine RW.nil ?_
 refine W.rg [(0, v1), (1, .string ⟨s.toArray⟩), (2, .bool fold)] fun TA => ?_
 refine W.seq (W.region ?_)
 iterate 3 refine RW.v ?_
 refine RW.cl ?_
 refine ((r_test (fold := fold) h1 hl hsm hs H).mono ?_)
 clear H
 rintro _ _ ⟨rfl, H⟩
 refine RW.v ?_
 refine RW.nil ?_
 refine W.rg [(0, v1), (7, .bool (testC fold m s))] fun TA => ?_
 refine W.seq ?_
 refine W.block ?_
 refine W.seq (W.region ?_)
 refine RW.v ?_
 refine RW.len (by kernel_rfl) (by kernel_rfl) rfl rfl rfl rfl (h1.len (e := 9) (by kernel_rfl)) (by kernel_rfl) ?_
 iterate 2 refine RW.v ?_
 refine RW.nil ?_
 refine W.rg [(0, v1), (7, .bool (testC fold m s)), (12, .bool ((m.length : Int) == 0))] fun TA => ?_
 refine W.cond rfl (fun hc1 => ?_) (fun hc1 => ?_)
 ·have hc1b := hc1
  have hc1 := eq_of_beq hc1
  refine W.seq (W.region ?_)
  refine RW.v ?_
  refine RW.nil ?_
  refine W.ret ?_
  refine blkQ_ret ?_
  refine seqQ_ret ?_
  refine endG (by rfl) (by exact resL_tmp rfl) ?_
  have e : statusC fold m s = 0 := by unfold statusC; rw [if_pos (List.eq_nil_of_length_eq_zero (by omega))]
  rw [e]
  exact ⟨rfl, H⟩
 ·have hc1b := hc1
  have hc1 := ne_of_beq_false hc1
  refine W.seq (W.region ?_)
  iterate 2 refine RW.v ?_
  refine RW.both _ _ rfl rfl rfl (fun hc2 => ?_) (fun hc2 => ?_)
  ·have hc2b := hc2
   have hte := hc2b
   refine RW.val (by rfl) (by kernel_rfl) rfl (by kernel_rfl) ?_
   refine RW.len (by rfl) (by kernel_rfl) rfl rfl rfl rfl (h1.len (e := 9) (by kernel_rfl)) (by kernel_rfl) ?_
   refine RW.val (by rfl) (by kernel_rfl) rfl (by kernel_rfl) ?_
   iterate 2 refine RW.v ?_
   refine RW.nil ?_
   refine W.rg [(7, .bool (testC fold m s)), (16, .bool ((m.length : Int) == 1))] fun TA => ?_
   refine W.cond rfl (fun hc3 => ?_) (fun hc3 => ?_)
   ·have hc3b := hc3
    have hc3 := eq_of_beq hc3
    refine W.seq (W.region ?_)
    refine RW.v ?_
    refine RW.nil ?_
    refine W.ret ?_
    refine blkQ_ret ?_
    refine seqQ_ret ?_
    refine endG (by rfl) (by exact resL_tmp rfl) ?_
    have hne : m ≠ [] := (fun e => by have := congrArg List.length e; simp only [List.length_nil] at this; omega)
    rw [testC_any hd (hv hne)] at hte
    have e : statusC fold m s = 1 := by unfold statusC; rw [if_neg hne, hte]; exact (if_neg (by decide)).trans (if_pos (by omega))
    rw [e]
    exact ⟨rfl, H⟩
   ·have hc3b := hc3
    have hc3 := ne_of_beq_false hc3
    refine W.seq (W.region ?_)
    iterate 2 refine RW.v ?_
    refine RW.nil ?_
    refine W.rg [(23, .bool (testC fold m s))] fun TA => ?_
    refine W.cond (b := true) (congrArg Value.bool hc2b) (fun _ => ?_) (fun h => by cases h)
    refine W.seq (W.region ?_)
    refine RW.v ?_
    refine RW.nil ?_
    refine W.ret ?_
    refine blkQ_ret ?_
    refine seqQ_ret ?_
    refine endG (by rfl) (by exact resL_tmp rfl) ?_
    have hne : m ≠ [] := (fun e => by have := congrArg List.length e; simp only [List.length_nil] at this; omega)
    rw [testC_any hd (hv hne)] at hte
    have e : statusC fold m s = 2 := by unfold statusC; rw [if_neg hne, hte]; exact (if_neg (by decide)).trans (if_neg (by omega))
    rw [e]
    exact ⟨rfl, H⟩
  ·have hc2b := hc2
   have hte := hc2b
   refine RW.skip (by rfl) (by kernel_rfl) ?_
   refine RW.skip (by rfl) (by kernel_rfl) ?_
   refine RW.skip (by rfl) (by kernel_rfl) ?_
   iterate 2 refine RW.v ?_
   refine RW.nil ?_
   refine W.c0 ?_
   refine W.seq (W.region ?_)
   iterate 2 refine RW.v ?_
   refine RW.nil ?_
   refine W.rg [(23, .bool (testC fold m s))] fun TA => ?_
   refine W.cond (b := false) (congrArg Value.bool hc2b) (fun h => by cases h) (fun _ => ?_)
   refine W.skip ?_
   refine blkQ_normal ?_
   refine W.seq (W.region ?_)
   refine RW.v ?_
   refine RW.nil ?_
   refine W.ret ?_
   refine endG (by rfl) (by exact resL_tmp rfl) ?_
   have hne : m ≠ [] := (fun e => by have := congrArg List.length e; simp only [List.length_nil] at this; omega)
   rw [testC_any hd (hv hne)] at hte
   have e : statusC fold m s = 3 := by unfold statusC; rw [if_neg hne, hte]; rfl
   rw [e]
   exact ⟨rfl, H⟩
end
end Go.Proofs.YtjcmdifpkafdkaaDoor
