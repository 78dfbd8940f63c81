/-
 The stable sort of strings. Conditions: none.
-/
import Derived.Test.YtjcmdifpkafdkaaDoorV4
namespace Go.Proofs.YtjcmdifpkafdkaaDoor
open Go.Lib
set_option maxRecDepth 100000
section
variable {G : Nat} {A : Abs} {σ : Mem} {F : Nat → Option Blk2} {L : List Ent} {v1 : Value} {xs : List (List UInt8)} {N : Nat}
set_option maxHeartbeats 8000000 in
theorem swapRS_wc {a b n : Nat} (hx : xs.length = N ∧ ∀ x ∈ xs, x.length ≤ 1000000) (hN : N ≤ 1000) (ha : a + n ≤ N) (hb : b + n ≤ N) (H : Lies G A F σ (.sl 9 1 v1 N (rowX celS xs) :: L)) : WC G Tryd.prog 123 #[v1, .int .i64 ((a : Nat) : Int), .int .i64 ((b : Nat) : Int), .int .i64 ((n : Nat) : Int), .func (.func 79) #[] #[]] σ fun _ σ' => Lies G A F σ' (.sl 9 1 v1 N (rowX celS (swapR xs a b n)) :: L) := by
 obtain ⟨R, hR⟩ : ∃ R, R = swapR xs a b n := ⟨_, rfl⟩
 rw [← hR]
 refine WC.enter (fn := Tryd.f123) Tryd.func123 rfl ?_
 refine W.rg [(0, v1), (1, .int .i64 ((a : Nat) : Int)), (2, .int .i64 ((b : Nat) : Int)), (3, .int .i64 ((n : Nat) : Int)), (4, .func (.func 79) #[] #[])] fun TA => ?_
 refine W.seq (W.region ?_)
 refine RW.v ?_
 refine RW.nil ?_
 refine W.rg [(0, v1), (1, .int .i64 ((a : Nat) : Int)), (2, .int .i64 ((b : Nat) : Int)), (3, .int .i64 ((n : Nat) : Int)), (10, .int .i64 0)] fun TA => ?_
 refine W.block ?_
 refine W.loop (fun mm ta σ => ∃ (i : Nat) (zs : List (List UInt8)), (n ≤ mm + i) ∧ (zs.length = N ∧ ∀ x ∈ zs, x.length ≤ 1000000) ∧ (swapR zs (a + i) (b + i) (n - i) = R) ∧ Lies G A F σ (.sl 9 1 v1 N (rowX celS zs) :: (L)) ∧ ta 0 = v1 ∧ ta 1 = .int .i64 ((a : Nat) : Int) ∧ ta 2 = .int .i64 ((b : Nat) : Int) ∧ ta 3 = .int .i64 ((n : Nat) : Int) ∧ ta 10 = .int .i64 ((i : Nat) : Int)) n ?_ ?_
 ·exact ⟨0, xs, (by omega), hx, hR.symm, H, rfl, rfl, rfl, rfl, rfl⟩
 clear H
 rintro mm ta _ ⟨i, zs, hm, hz, hT, H, e0, e1, e2, e3, e10⟩
 refine W.rst [(0, v1), (1, .int .i64 ((a : Nat) : Int)), (2, .int .i64 ((b : Nat) : Int)), (3, .int .i64 ((n : Nat) : Int)), (10, .int .i64 ((i : Nat) : Int))] ⟨e0, e1, e2, e3, e10, trivial⟩ fun TA => ?_
 clear e0 e1 e2 e3 e10
 refine W.seq ?_
 refine W.seq (W.region ?_)
 iterate 3 refine RW.v ?_
 refine RW.nil ?_
 refine W.rg [(0, v1), (1, .int .i64 ((a : Nat) : Int)), (2, .int .i64 ((b : Nat) : Int)), (3, .int .i64 ((n : Nat) : Int)), (10, .int .i64 ((i : Nat) : Int)), (13, .bool (decide (((i : Nat) : Int) < ((n : Nat) : Int))))] fun TA => ?_
 refine W.cond rfl (fun hc1 => ?_) (fun hc1 => ?_)
 ·have hc1b := hc1
  have hc1 := of_decide_eq_true hc1
  refine W.skip ?_
  refine W.seq ?_
  refine W.block ?_
  refine W.drawn (by kernel_rfl) (by kernel_rfl) H.gn ?_
  have H2 := H
  iterate 3 refine RW.v ?_
  refine RW.valE (v' := .int .i64 (((a + i) : Nat) : Int)) (by kernel_rfl) (by kernel_rfl) rfl (congrArg (Value.int .i64) ((wrap_in (by omega) (by omega)).trans (by omega))) (by kernel_rfl) ?_
  iterate 3 refine RW.v ?_
  refine RW.valE (v' := .int .i64 (((b + i) : Nat) : Int)) (by kernel_rfl) (by kernel_rfl) rfl (congrArg (Value.int .i64) ((wrap_in (by omega) (by omega)).trans (by omega))) (by kernel_rfl) ?_
  iterate 3 refine RW.v ?_
  refine RW.valE (v' := .int .i64 (((b + i) : Nat) : Int)) (by kernel_rfl) (by kernel_rfl) rfl (congrArg (Value.int .i64) ((wrap_in (by omega) (by omega)).trans (by omega))) (by kernel_rfl) ?_
  refine RW.idxG H2 0 rfl (by kernel_rfl) (by kernel_rfl) rfl Tryd.underlying22 (by kernel_rfl) rfl rfl ⟨by omega, by omega⟩ (by kernel_rfl) ?_
  intro b3 q4 r5 hF6 hE7
  rw [rowS_at (xs := zs) (j := (b + i)) (i := (((b + i) : Nat) : Int)) (by omega) (by first | omega | (simp only [List.length_set]; omega))] at hE7
  refine RW.loads 1 (by kernel_rfl) (by kernel_rfl) rfl rfl (hF6) hE7 rfl (by kernel_rfl) ?_
  iterate 3 refine RW.v ?_
  refine RW.valE (v' := .int .i64 (((a + i) : Nat) : Int)) (by kernel_rfl) (by kernel_rfl) rfl (congrArg (Value.int .i64) ((wrap_in (by omega) (by omega)).trans (by omega))) (by kernel_rfl) ?_
  refine RW.idxG H2 0 rfl (by kernel_rfl) (by kernel_rfl) rfl Tryd.underlying22 (by kernel_rfl) rfl rfl ⟨by omega, by omega⟩ (by kernel_rfl) ?_
  intro b8 q9 r10 hF11 hE12
  rw [rowS_at (xs := zs) (j := (a + i)) (i := (((a + i) : Nat) : Int)) (by omega) (by first | omega | (simp only [List.length_set]; omega))] at hE12
  refine RW.loads 1 (by kernel_rfl) (by kernel_rfl) rfl rfl (hF11) hE12 rfl (by kernel_rfl) ?_
  refine RW.idxGS H2 0 rfl (by kernel_rfl) (by kernel_rfl) rfl Tryd.underlying22 (by kernel_rfl) rfl rfl ⟨by omega, by omega⟩ (by kernel_rfl) ?_
  intro b13 q14 hb15 hq16
  refine RW.stG H2 0 rfl hb15 (vs := [.string ⟨(gD zs (b + i)).toArray⟩]) (by subst hq16; simp only [List.length_cons, List.length_nil]; omega) (by kernel_rfl) (by kernel_rfl) rfl rfl rfl rfl (by kernel_rfl) (by kernel_rfl) ?_
  intro _ H17
  dsimp only [setL, delL] at H17
  rw [rowS_set hq16 (i := (((a + i) : Nat) : Int)) (j := (a + i)) (by omega) (by first | omega | (simp only [List.length_set]; omega)) (gD zs (b + i))] at H17
  refine RW.idxGS H17 0 rfl (by kernel_rfl) (by kernel_rfl) rfl Tryd.underlying22 (by kernel_rfl) rfl rfl ⟨by omega, by omega⟩ (by kernel_rfl) ?_
  intro b18 q19 hb20 hq21
  refine RW.stG H17 0 rfl hb20 (vs := [.string ⟨(gD zs (a + i)).toArray⟩]) (by subst hq21; simp only [List.length_cons, List.length_nil]; omega) (by kernel_rfl) (by kernel_rfl) rfl rfl rfl rfl (by kernel_rfl) (by kernel_rfl) ?_
  intro _ H22
  dsimp only [setL, delL] at H22
  rw [rowS_set hq21 (i := (((b + i) : Nat) : Int)) (j := (b + i)) (by omega) (by first | omega | (simp only [List.length_set]; omega)) (gD zs (a + i))] at H22
  refine RW.nil ?_
  refine ⟨⟨by kernel_rfl, ⟨trivial, trivial, trivial, trivial, trivial, trivial, trivial, trivial, trivial, trivial, trivial, trivial, trivial, Or.inl (by kernel_rfl), trivial, trivial, trivial, trivial, trivial, Or.inl (by kernel_rfl), trivial, trivial, trivial, trivial, trivial⟩⟩, ?_⟩
  replace H := H22
  clear H2 H17 H22
  refine bQn ?_
  refine W.rg [(0, v1), (1, .int .i64 ((a : Nat) : Int)), (2, .int .i64 ((b : Nat) : Int)), (3, .int .i64 ((n : Nat) : Int)), (10, .int .i64 ((i : Nat) : Int))] fun TA => ?_
  refine W.region ?_
  refine RW.v ?_
  refine RW.valE (v' := .int .i64 (((i + 1) : Nat) : Int)) (by kernel_rfl) (by kernel_rfl) rfl (congrArg (Value.int .i64) ((wrap_in (by omega) (by omega)).trans (by omega))) (by kernel_rfl) ?_
  refine RW.v ?_
  refine RW.nil ?_
  exact ⟨rfl, mm - 1, by omega, i + 1, (swpD zs (a + i) (b + i)), (by omega), ⟨(by rw [swpD_len]; exact hz.1), swpD_small hz.2⟩, (by rw [← swapR_go (by omega)]; exact hT), H, rfl, rfl, rfl, rfl, rfl⟩
 ·have hc1b := hc1
  have hc1 := of_decide_eq_false hc1
  refine W.exit _ ?_
  refine seqQ_exit ?_
  refine rndQ_exit ?_
  rw [swapR_end (by omega)] at hT
  refine blkQ_here ?_
  refine endG (by rfl) (by exact rfl) ?_
  rw [← hT]
  exact H
set_option maxHeartbeats 8000000 in
theorem rotS_wc {a m b : Nat} (hx : xs.length = N ∧ ∀ x ∈ xs, x.length ≤ 1000000) (hN : N ≤ 1000) (ham : a < m) (hmb : m < b) (hb : b ≤ N) (H : Lies G A F σ (.sl 9 1 v1 N (rowX celS xs) :: L)) : WC G Tryd.prog 119 #[v1, .int .i64 ((a : Nat) : Int), .int .i64 ((m : Nat) : Int), .int .i64 ((b : Nat) : Int), .func (.func 79) #[] #[]] σ fun _ σ' => Lies G A F σ' (.sl 9 1 v1 N (rowX celS (rotG (b - a) xs m (m - a) (b - m))) :: L) := by
 obtain ⟨R, hR⟩ : ∃ R, R = rotG (b - a) xs m (m - a) (b - m) := ⟨_, rfl⟩
 rw [← hR]
 refine WC.enter (fn := Tryd.f119) Tryd.func119 rfl ?_
 refine W.rg [(0, v1), (1, .int .i64 ((a : Nat) : Int)), (2, .int .i64 ((m : Nat) : Int)), (3, .int .i64 ((b : Nat) : Int)), (4, .func (.func 79) #[] #[])] fun TA => ?_
 refine W.seq (W.region ?_)
 iterate 2 refine RW.v ?_
 refine RW.valE (v' := .int .i64 (((m - a) : Nat) : Int)) (by kernel_rfl) (by kernel_rfl) rfl (congrArg (Value.int .i64) ((wrap_in (by omega) (by omega)).trans (by omega))) (by kernel_rfl) ?_
 refine RW.v ?_
 refine RW.nil ?_
 refine W.rg [(0, v1), (2, .int .i64 ((m : Nat) : Int)), (3, .int .i64 ((b : Nat) : Int)), (4, .func (.func 79) #[] #[]), (10, .int .i64 (((m - a) : Nat) : Int))] fun TA => ?_
 refine W.seq (W.region ?_)
 iterate 2 refine RW.v ?_
 refine RW.valE (v' := .int .i64 (((b - m) : Nat) : Int)) (by kernel_rfl) (by kernel_rfl) rfl (congrArg (Value.int .i64) ((wrap_in (by omega) (by omega)).trans (by omega))) (by kernel_rfl) ?_
 refine RW.v ?_
 refine RW.nil ?_
 refine W.rg [(0, v1), (2, .int .i64 ((m : Nat) : Int)), (4, .func (.func 79) #[] #[]), (10, .int .i64 (((m - a) : Nat) : Int)), (11, .int .i64 (((b - m) : Nat) : Int))] fun TA => ?_
 refine W.seq ?_
 refine W.block ?_
 refine W.loop (fun mm ta σ => ∃ (k : Nat) (i : Nat) (j : Nat) (zs : List (List UInt8)), (k ≤ mm) ∧ (0 < i) ∧ (0 < j) ∧ (i ≤ m) ∧ (m + j ≤ N) ∧ (i + j ≤ k) ∧ (zs.length = N ∧ ∀ x ∈ zs, x.length ≤ 1000000) ∧ (rotG k zs m i j = R) ∧ Lies G A F σ (.sl 9 1 v1 N (rowX celS zs) :: (L)) ∧ ta 0 = v1 ∧ ta 2 = .int .i64 ((m : Nat) : Int) ∧ ta 4 = .func (.func 79) #[] #[] ∧ ta 10 = .int .i64 ((i : Nat) : Int) ∧ ta 11 = .int .i64 ((j : Nat) : Int)) (b - a) ?_ ?_
 ·exact ⟨(b - a), (m - a), (b - m), xs, (by omega), (by omega), (by omega), (by omega), (by omega), (by omega), hx, hR.symm, H, rfl, rfl, rfl, rfl, rfl⟩
 clear H
 rintro mm ta _ ⟨k, i, j, zs, hm, hi0, hj0, him, hjm, hk, hz, hT, H, e0, e2, e4, e10, e11⟩
 refine W.rst [(0, v1), (2, .int .i64 ((m : Nat) : Int)), (4, .func (.func 79) #[] #[]), (10, .int .i64 ((i : Nat) : Int)), (11, .int .i64 ((j : Nat) : Int))] ⟨e0, e2, e4, e10, e11, trivial⟩ fun TA => ?_
 clear e0 e2 e4 e10 e11
 refine W.seq ?_
 refine W.seq (W.region ?_)
 iterate 3 refine RW.v ?_
 refine RW.nil ?_
 refine W.rg [(0, v1), (2, .int .i64 ((m : Nat) : Int)), (4, .func (.func 79) #[] #[]), (10, .int .i64 ((i : Nat) : Int)), (11, .int .i64 ((j : Nat) : Int)), (20, .bool (((i : Nat) : Int) != ((j : Nat) : Int)))] fun TA => ?_
 refine W.cond rfl (fun hc1 => ?_) (fun hc1 => ?_)
 ·have hc1b := hc1
  have hc1 := bne_iff_ne.1 hc1
  refine W.skip ?_
  refine W.block ?_
  refine W.seq (W.region ?_)
  iterate 3 refine RW.v ?_
  refine RW.nil ?_
  refine W.rg [(0, v1), (2, .int .i64 ((m : Nat) : Int)), (4, .func (.func 79) #[] #[]), (10, .int .i64 ((i : Nat) : Int)), (11, .int .i64 ((j : Nat) : Int)), (23, .bool (decide (((i : Nat) : Int) > ((j : Nat) : Int))))] fun TA => ?_
  refine W.cond rfl (fun hc2 => ?_) (fun hc2 => ?_)
  ·have hc2b := hc2
   have hc2 := of_decide_eq_true hc2
   refine W.seq (W.region ?_)
   iterate 3 refine RW.v ?_
   refine RW.valE (v' := .int .i64 (((m - i) : Nat) : Int)) (by kernel_rfl) (by kernel_rfl) rfl (congrArg (Value.int .i64) ((wrap_in (by omega) (by omega)).trans (by omega))) (by kernel_rfl) ?_
   iterate 3 refine RW.v ?_
   refine RW.cl ?_
   refine ((swapRS_wc (a := (m - i)) (b := m) (n := j) hz hN (by omega) (by omega) H).mono ?_)
   clear H
   rintro _ _ H
   replace hz := And.intro ((swapR_len j zs (m - i) m).trans hz.1) (swapR_small j zs (m - i) m hz.2)
   refine RW.nil ?_
   refine W.rg [(0, v1), (2, .int .i64 ((m : Nat) : Int)), (4, .func (.func 79) #[] #[]), (10, .int .i64 ((i : Nat) : Int)), (11, .int .i64 ((j : Nat) : Int))] fun TA => ?_
   refine W.region ?_
   iterate 2 refine RW.v ?_
   refine RW.valE (v' := .int .i64 (((i - j) : Nat) : Int)) (by kernel_rfl) (by kernel_rfl) rfl (congrArg (Value.int .i64) ((wrap_in (by omega) (by omega)).trans (by omega))) (by kernel_rfl) ?_
   refine RW.v ?_
   refine RW.nil ?_
   refine bQn ?_
   exact ⟨rfl, mm - 1, by omega, (k - 1), (i - j), j, (swapR zs (m - i) m j), (by omega), (by omega), (by omega), (by omega), (by omega), (by omega), hz, (by rw [← rotG_gt (by omega) (by omega)]; exact hT), H, rfl, rfl, rfl, rfl, rfl⟩
  ·have hc2b := hc2
   have hc2 := of_decide_eq_false hc2
   refine W.seq (W.region ?_)
   iterate 3 refine RW.v ?_
   refine RW.valE (v' := .int .i64 (((m - i) : Nat) : Int)) (by kernel_rfl) (by kernel_rfl) rfl (congrArg (Value.int .i64) ((wrap_in (by omega) (by omega)).trans (by omega))) (by kernel_rfl) ?_
   iterate 2 refine RW.v ?_
   refine RW.valE (v' := .int .i64 (((m + j) : Nat) : Int)) (by kernel_rfl) (by kernel_rfl) rfl (congrArg (Value.int .i64) ((wrap_in (by omega) (by omega)).trans (by omega))) (by kernel_rfl) ?_
   refine RW.v ?_
   refine RW.valE (v' := .int .i64 ((((m + j) - i) : Nat) : Int)) (by kernel_rfl) (by kernel_rfl) rfl (congrArg (Value.int .i64) ((wrap_in (by omega) (by omega)).trans (by omega))) (by kernel_rfl) ?_
   iterate 2 refine RW.v ?_
   refine RW.cl ?_
   refine ((swapRS_wc (a := (m - i)) (b := ((m + j) - i)) (n := i) hz hN (by omega) (by omega) H).mono ?_)
   clear H
   rintro _ _ H
   replace hz := And.intro ((swapR_len i zs (m - i) ((m + j) - i)).trans hz.1) (swapR_small i zs (m - i) ((m + j) - i) hz.2)
   refine RW.nil ?_
   refine W.rg [(0, v1), (2, .int .i64 ((m : Nat) : Int)), (4, .func (.func 79) #[] #[]), (10, .int .i64 ((i : Nat) : Int)), (11, .int .i64 ((j : Nat) : Int))] fun TA => ?_
   refine W.region ?_
   iterate 2 refine RW.v ?_
   refine RW.valE (v' := .int .i64 (((j - i) : Nat) : Int)) (by kernel_rfl) (by kernel_rfl) rfl (congrArg (Value.int .i64) ((wrap_in (by omega) (by omega)).trans (by omega))) (by kernel_rfl) ?_
   refine RW.v ?_
   refine RW.nil ?_
   refine bQn ?_
   exact ⟨rfl, mm - 1, by omega, (k - 1), i, (j - i), (swapR zs (m - i) ((m + j) - i) i), (by omega), (by omega), (by omega), (by omega), (by omega), (by omega), hz, (by rw [← rotG_lt (by omega) (by omega)]; exact hT), H, rfl, rfl, rfl, rfl, rfl⟩
 ·have hc1b := hc1
  have hc1 := (bne_eq_false_iff_eq.1) hc1
  refine W.exit _ ?_
  refine seqQ_exit ?_
  refine rndQ_exit ?_
  rw [rotG_eq (by omega) (by omega)] at hT
  refine blkQ_here ?_
  refine W.region ?_
  iterate 3 refine RW.v ?_
  refine RW.valE (v' := .int .i64 (((m - i) : Nat) : Int)) (by kernel_rfl) (by kernel_rfl) rfl (congrArg (Value.int .i64) ((wrap_in (by omega) (by omega)).trans (by omega))) (by kernel_rfl) ?_
  iterate 3 refine RW.v ?_
  refine RW.cl ?_
  refine ((swapRS_wc (a := (m - i)) (b := m) (n := i) hz hN (by omega) (by omega) H).mono ?_)
  clear H
  rintro _ _ H
  replace hz := And.intro ((swapR_len i zs (m - i) m).trans hz.1) (swapR_small i zs (m - i) m hz.2)
  refine RW.nil ?_
  refine endG (by rfl) (by exact rfl) ?_
  rw [← hT]
  exact H
set_option maxHeartbeats 8000000 in
theorem insS_wc {a b : Nat} (hx : xs.length = N ∧ ∀ x ∈ xs, x.length ≤ 1000000) (hN : N ≤ 1000) (hab : a ≤ b) (hb : b ≤ N) (H : Lies G A F σ (.sl 9 1 v1 N (rowX celS xs) :: L)) : WC G Tryd.prog 112 #[v1, .int .i64 ((a : Nat) : Int), .int .i64 ((b : Nat) : Int), .func (.func 79) #[] #[]] σ fun _ σ' => Lies G A F σ' (.sl 9 1 v1 N (rowX celS (insO ltS a (b - (a + 1)) xs (a + 1))) :: L) := by
 obtain ⟨R, hR⟩ : ∃ R, R = insO ltS a (b - (a + 1)) xs (a + 1) := ⟨_, rfl⟩
 rw [← hR]
 refine WC.enter (fn := Tryd.f112) Tryd.func112 rfl ?_
 refine W.rg [(0, v1), (1, .int .i64 ((a : Nat) : Int)), (2, .int .i64 ((b : Nat) : Int)), (3, .func (.func 79) #[] #[])] fun TA => ?_
 refine W.seq (W.region ?_)
 refine RW.v ?_
 refine RW.valE (v' := .int .i64 (((a + 1) : Nat) : Int)) (by kernel_rfl) (by kernel_rfl) rfl (congrArg (Value.int .i64) ((wrap_in (by omega) (by omega)).trans (by omega))) (by kernel_rfl) ?_
 refine RW.v ?_
 refine RW.nil ?_
 refine W.rg [(0, v1), (1, .int .i64 ((a : Nat) : Int)), (2, .int .i64 ((b : Nat) : Int)), (3, .func (.func 79) #[] #[]), (8, .int .i64 (((a + 1) : Nat) : Int))] fun TA => ?_
 refine W.block ?_
 refine W.loop (fun mm ta σ => ∃ (i : Nat) (zs : List (List UInt8)), (b ≤ mm + i) ∧ (a < i) ∧ (zs.length = N ∧ ∀ x ∈ zs, x.length ≤ 1000000) ∧ (insO ltS a (b - i) zs i = R) ∧ Lies G A F σ (.sl 9 1 v1 N (rowX celS zs) :: (L)) ∧ ta 0 = v1 ∧ ta 1 = .int .i64 ((a : Nat) : Int) ∧ ta 2 = .int .i64 ((b : Nat) : Int) ∧ ta 3 = .func (.func 79) #[] #[] ∧ ta 8 = .int .i64 ((i : Nat) : Int)) b ?_ ?_
 ·exact ⟨(a + 1), xs, (by omega), (by omega), hx, hR.symm, H, rfl, rfl, rfl, rfl, rfl⟩
 clear H
 rintro mm ta _ ⟨i, zs, hm, hai, hz, hT, H, e0, e1, e2, e3, e8⟩
 refine W.rst [(0, v1), (1, .int .i64 ((a : Nat) : Int)), (2, .int .i64 ((b : Nat) : Int)), (3, .func (.func 79) #[] #[]), (8, .int .i64 ((i : Nat) : Int))] ⟨e0, e1, e2, e3, e8, trivial⟩ fun TA => ?_
 clear e0 e1 e2 e3 e8
 refine W.seq ?_
 refine W.seq (W.region ?_)
 iterate 3 refine RW.v ?_
 refine RW.nil ?_
 refine W.rg [(0, v1), (1, .int .i64 ((a : Nat) : Int)), (2, .int .i64 ((b : Nat) : Int)), (3, .func (.func 79) #[] #[]), (8, .int .i64 ((i : Nat) : Int)), (14, .bool (decide (((i : Nat) : Int) < ((b : Nat) : Int))))] fun TA => ?_
 refine W.cond rfl (fun hc1 => ?_) (fun hc1 => ?_)
 ·have hc1b := hc1
  have hc1 := of_decide_eq_true hc1
  refine W.skip ?_
  refine W.seq ?_
  refine W.block ?_
  refine W.seq (W.region ?_)
  iterate 2 refine RW.v ?_
  refine RW.nil ?_
  refine W.rg [(0, v1), (1, .int .i64 ((a : Nat) : Int)), (2, .int .i64 ((b : Nat) : Int)), (3, .func (.func 79) #[] #[]), (8, .int .i64 ((i : Nat) : Int)), (9, .int .i64 ((i : Nat) : Int))] fun TA => ?_
  refine W.block ?_
  refine W.loop (fun mm2 ta σ => ∃ (j : Nat) (ys : List (List UInt8)), (j ≤ mm2) ∧ (j ≤ i) ∧ (ys.length = N ∧ ∀ x ∈ ys, x.length ≤ 1000000) ∧ (insI ltS ys a j = insI ltS zs a i) ∧ Lies G A F σ (.sl 9 1 v1 N (rowX celS ys) :: (L)) ∧ ta 0 = v1 ∧ ta 1 = .int .i64 ((a : Nat) : Int) ∧ ta 2 = .int .i64 ((b : Nat) : Int) ∧ ta 3 = .func (.func 79) #[] #[] ∧ ta 8 = .int .i64 ((i : Nat) : Int) ∧ ta 9 = .int .i64 ((j : Nat) : Int)) i ?_ ?_
  ·exact ⟨i, zs, (by omega), (by omega), hz, rfl, H, rfl, rfl, rfl, rfl, rfl, rfl⟩
  clear H
  rintro mm2 ta _ ⟨j, ys, hm2, hji, hy, hY, H, e0, e1, e2, e3, e8, e9⟩
  refine W.rst [(0, v1), (1, .int .i64 ((a : Nat) : Int)), (2, .int .i64 ((b : Nat) : Int)), (3, .func (.func 79) #[] #[]), (8, .int .i64 ((i : Nat) : Int)), (9, .int .i64 ((j : Nat) : Int))] ⟨e0, e1, e2, e3, e8, e9, trivial⟩ fun TA => ?_
  clear e0 e1 e2 e3 e8 e9
  refine W.seq ?_
  refine W.seq ?_
  refine W.drawn (by kernel_rfl) (by kernel_rfl) H.gn ?_
  have H2 := H
  iterate 4 refine RW.v ?_
  refine RW.both _ _ rfl rfl rfl (fun hc3 => ?_) (fun hc3 => ?_)
  ·have hc3b := hc3
   have hc3 := of_decide_eq_true hc3
   iterate 3 refine RW.w ?_
   refine RW.idxG H2 0 rfl (by rfl) (by kernel_rfl) rfl Tryd.underlying22 (by kernel_rfl) rfl rfl ⟨by omega, by omega⟩ (by kernel_rfl) ?_
   intro b4 q5 r6 hF7 hE8
   rw [rowS_at (xs := ys) (j := j) (i := ((j : Nat) : Int)) (by omega) (by first | omega | (simp only [List.length_set]; omega))] at hE8
   refine RW.loads 1 (by rfl) (by kernel_rfl) rfl rfl (hF7) hE8 rfl (by kernel_rfl) ?_
   iterate 2 refine RW.w ?_
   refine RW.valE (v' := .int .i64 (((j - 1) : Nat) : Int)) (by rfl) (by kernel_rfl) rfl (congrArg (Value.int .i64) ((wrap_in (by omega) (by omega)).trans (by omega))) (by kernel_rfl) ?_
   refine RW.idxG H2 0 rfl (by rfl) (by kernel_rfl) rfl Tryd.underlying22 (by kernel_rfl) rfl rfl ⟨by omega, by omega⟩ (by kernel_rfl) ?_
   intro b9 q10 r11 hF12 hE13
   rw [rowS_at (xs := ys) (j := (j - 1)) (i := (((j - 1) : Nat) : Int)) (by omega) (by first | omega | (simp only [List.length_set]; omega))] at hE13
   refine RW.loads 1 (by rfl) (by kernel_rfl) rfl rfl (hF12) hE13 rfl (by kernel_rfl) ?_
   refine RW.cl (hw := by rfl) ?_
   refine ((cmpS_wc (x := (gD ys j)) (y := (gD ys (j - 1))) (gD_small hy.2 _) (gD_small hy.2 _) H2).mono ?_)
   rintro _ _ ⟨rfl, H14⟩
   refine RW.w ?_
   refine RW.v ?_
   refine RW.nil ?_
   refine ⟨⟨by kernel_rfl, ⟨trivial, trivial, trivial, trivial, trivial, trivial, trivial, trivial, Or.inl (by kernel_rfl), trivial, trivial, trivial, trivial, Or.inl (by kernel_rfl), trivial, trivial, trivial, trivial⟩⟩, ?_⟩
   replace H := H14
   clear H2 H14
   refine W.rg [(0, v1), (1, .int .i64 ((a : Nat) : Int)), (2, .int .i64 ((b : Nat) : Int)), (3, .func (.func 79) #[] #[]), (8, .int .i64 ((i : Nat) : Int)), (9, .int .i64 ((j : Nat) : Int)), (34, .bool (decide ((cmpS (gD ys j) (gD ys (j - 1))) < 0)))] fun TA => ?_
   refine W.cond rfl (fun hc15 => ?_) (fun hc15 => ?_)
   ·have hc15b := hc15
    have hc15 := of_decide_eq_true hc15
    refine W.skip ?_
    refine W.seq ?_
    refine W.block ?_
    refine W.drawn (by kernel_rfl) (by kernel_rfl) H.gn ?_
    have H16 := H
    iterate 4 refine RW.v ?_
    refine RW.valE (v' := .int .i64 (((j - 1) : Nat) : Int)) (by kernel_rfl) (by kernel_rfl) rfl (congrArg (Value.int .i64) ((wrap_in (by omega) (by omega)).trans (by omega))) (by kernel_rfl) ?_
    iterate 2 refine RW.v ?_
    refine RW.valE (v' := .int .i64 (((j - 1) : Nat) : Int)) (by kernel_rfl) (by kernel_rfl) rfl (congrArg (Value.int .i64) ((wrap_in (by omega) (by omega)).trans (by omega))) (by kernel_rfl) ?_
    refine RW.idxG H16 0 rfl (by kernel_rfl) (by kernel_rfl) rfl Tryd.underlying22 (by kernel_rfl) rfl rfl ⟨by omega, by omega⟩ (by kernel_rfl) ?_
    intro b17 q18 r19 hF20 hE21
    rw [rowS_at (xs := ys) (j := (j - 1)) (i := (((j - 1) : Nat) : Int)) (by omega) (by first | omega | (simp only [List.length_set]; omega))] at hE21
    refine RW.loads 1 (by kernel_rfl) (by kernel_rfl) rfl rfl (hF20) hE21 rfl (by kernel_rfl) ?_
    iterate 2 refine RW.v ?_
    refine RW.idxG H16 0 rfl (by kernel_rfl) (by kernel_rfl) rfl Tryd.underlying22 (by kernel_rfl) rfl rfl ⟨by omega, by omega⟩ (by kernel_rfl) ?_
    intro b22 q23 r24 hF25 hE26
    rw [rowS_at (xs := ys) (j := j) (i := ((j : Nat) : Int)) (by omega) (by first | omega | (simp only [List.length_set]; omega))] at hE26
    refine RW.loads 1 (by kernel_rfl) (by kernel_rfl) rfl rfl (hF25) hE26 rfl (by kernel_rfl) ?_
    refine RW.idxGS H16 0 rfl (by kernel_rfl) (by kernel_rfl) rfl Tryd.underlying22 (by kernel_rfl) rfl rfl ⟨by omega, by omega⟩ (by kernel_rfl) ?_
    intro b27 q28 hb29 hq30
    refine RW.stG H16 0 rfl hb29 (vs := [.string ⟨(gD ys (j - 1)).toArray⟩]) (by subst hq30; simp only [List.length_cons, List.length_nil]; omega) (by kernel_rfl) (by kernel_rfl) rfl rfl rfl rfl (by kernel_rfl) (by kernel_rfl) ?_
    intro _ H31
    dsimp only [setL, delL] at H31
    rw [rowS_set hq30 (i := ((j : Nat) : Int)) (j := j) (by omega) (by first | omega | (simp only [List.length_set]; omega)) (gD ys (j - 1))] at H31
    refine RW.idxGS H31 0 rfl (by kernel_rfl) (by kernel_rfl) rfl Tryd.underlying22 (by kernel_rfl) rfl rfl ⟨by omega, by omega⟩ (by kernel_rfl) ?_
    intro b32 q33 hb34 hq35
    refine RW.stG H31 0 rfl hb34 (vs := [.string ⟨(gD ys j).toArray⟩]) (by subst hq35; simp only [List.length_cons, List.length_nil]; omega) (by kernel_rfl) (by kernel_rfl) rfl rfl rfl rfl (by kernel_rfl) (by kernel_rfl) ?_
    intro _ H36
    dsimp only [setL, delL] at H36
    rw [rowS_set hq35 (i := (((j - 1) : Nat) : Int)) (j := (j - 1)) (by omega) (by first | omega | (simp only [List.length_set]; omega)) (gD ys j)] at H36
    refine RW.nil ?_
    refine ⟨⟨by kernel_rfl, ⟨trivial, trivial, trivial, trivial, trivial, trivial, trivial, trivial, trivial, Or.inl (by kernel_rfl), trivial, trivial, trivial, Or.inl (by kernel_rfl), trivial, trivial, trivial, trivial, trivial⟩⟩, ?_⟩
    replace H := H36
    clear H16 H31 H36
    refine bQn ?_
    refine W.rg [(0, v1), (1, .int .i64 ((a : Nat) : Int)), (2, .int .i64 ((b : Nat) : Int)), (3, .func (.func 79) #[] #[]), (8, .int .i64 ((i : Nat) : Int)), (9, .int .i64 ((j : Nat) : Int))] fun TA => ?_
    refine W.region ?_
    refine RW.v ?_
    refine RW.valE (v' := .int .i64 (((j - 1) : Nat) : Int)) (by kernel_rfl) (by kernel_rfl) rfl (congrArg (Value.int .i64) ((wrap_in (by omega) (by omega)).trans (by omega))) (by kernel_rfl) ?_
    refine RW.v ?_
    refine RW.nil ?_
    exact ⟨rfl, mm2 - 1, by omega, (j - 1), (swpD ys j (j - 1)), (by omega), (by omega), ⟨(by rw [swpD_len]; exact hy.1), swpD_small hy.2⟩, (by rw [← insI_go (lt := ltS) (by omega) hc15b]; exact hY), H, rfl, rfl, rfl, rfl, rfl, rfl⟩
   ·have hc15b := hc15
    have hc15 := of_decide_eq_false hc15
    refine W.exit _ ?_
    refine seqQ_exit ?_
    refine rndQ_exit ?_
    rw [insI_stop (lt := ltS) (by omega) hc15b] at hY
    refine blkQ_here ?_
    refine bQn ?_
    refine W.region ?_
    refine RW.v ?_
    refine RW.valE (v' := .int .i64 (((i + 1) : Nat) : Int)) (by kernel_rfl) (by kernel_rfl) rfl (congrArg (Value.int .i64) ((wrap_in (by omega) (by omega)).trans (by omega))) (by kernel_rfl) ?_
    refine RW.v ?_
    refine RW.nil ?_
    exact ⟨rfl, mm - 1, by omega, i + 1, ys, (by omega), (by omega), hy, (by rw [hY]; exact (insO_go (lt := ltS) (by omega)).symm.trans hT), H, rfl, rfl, rfl, rfl, rfl⟩
  ·have hc3b := hc3
   have hc3 := of_decide_eq_false hc3
   iterate 12 refine RW.s ?_
   refine RW.v ?_
   refine RW.nil ?_
   refine ⟨⟨by kernel_rfl, ⟨trivial, trivial, trivial, trivial, trivial, trivial, trivial, trivial, trivial, trivial, trivial, trivial, trivial, trivial, trivial, trivial, trivial, trivial⟩⟩, ?_⟩
   replace H := H2
   clear H2
   refine W.c0 ?_
   refine W.exit _ ?_
   refine seqQ_exit ?_
   refine rndQ_exit ?_
   rw [insI_end (lt := ltS) (by omega)] at hY
   refine blkQ_here ?_
   refine bQn ?_
   refine W.region ?_
   refine RW.v ?_
   refine RW.valE (v' := .int .i64 (((i + 1) : Nat) : Int)) (by kernel_rfl) (by kernel_rfl) rfl (congrArg (Value.int .i64) ((wrap_in (by omega) (by omega)).trans (by omega))) (by kernel_rfl) ?_
   refine RW.v ?_
   refine RW.nil ?_
   exact ⟨rfl, mm - 1, by omega, i + 1, ys, (by omega), (by omega), hy, (by rw [hY]; exact (insO_go (lt := ltS) (by omega)).symm.trans hT), H, rfl, rfl, rfl, rfl, rfl⟩
 ·have hc1b := hc1
  have hc1 := of_decide_eq_false hc1
  refine W.exit _ ?_
  refine seqQ_exit ?_
  refine rndQ_exit ?_
  rw [insO_end (by omega)] at hT
  refine blkQ_here ?_
  refine endG (by rfl) (by exact rfl) ?_
  rw [← hT]
  exact H
set_option maxHeartbeats 16000000 in
theorem symS_wc : ∀ (n : Nat) {xs : List (List UInt8)} {a m b : Nat} {σ : Mem}, (xs.length = N ∧ ∀ x ∈ xs, x.length ≤ 1000000) → N ≤ 1000 → a < m → m < b → b ≤ N → b - a ≤ n → Lies G A F σ (.sl 9 1 v1 N (rowX celS xs) :: L) → WC G Tryd.prog 113 #[v1, .int .i64 ((a : Nat) : Int), .int .i64 ((m : Nat) : Int), .int .i64 ((b : Nat) : Int), .func (.func 79) #[] #[]] σ fun _ σ' => Lies G A F σ' (.sl 9 1 v1 N (rowX celS (symM ltS n xs a m b)) :: L) := by
 intro n
 induction n with
 | zero => intro xs a m b σ _ _ h1 h2 _ h3; omega
 | succ n ih =>
  intro xs a m b σ hx hN ham hmb hbN hn H
  refine WC.enter (fn := Tryd.f113) Tryd.func113 rfl ?_
  refine W.rg [(0, v1), (1, .int .i64 ((a : Nat) : Int)), (2, .int .i64 ((m : Nat) : Int)), (3, .int .i64 ((b : Nat) : Int)), (4, .func (.func 79) #[] #[])] fun TA => ?_
  refine W.seq ?_
  refine W.seq (W.region ?_)
  iterate 2 refine RW.v ?_
  refine RW.valE (v' := .int .i64 (((m - a) : Nat) : Int)) (by kernel_rfl) (by kernel_rfl) rfl (congrArg (Value.int .i64) ((wrap_in (by omega) (by omega)).trans (by omega))) (by kernel_rfl) ?_
  refine RW.v ?_
  refine RW.nil ?_
  refine W.rg [(0, v1), (1, .int .i64 ((a : Nat) : Int)), (2, .int .i64 ((m : Nat) : Int)), (3, .int .i64 ((b : Nat) : Int)), (4, .func (.func 79) #[] #[]), (28, .bool ((((m - a) : Nat) : Int) == 1))] fun TA => ?_
  refine W.cond rfl (fun hc1 => ?_) (fun hc1 => ?_)
  ·have hc1b := hc1
   have hc1 := eq_of_beq hc1
   refine W.seq (W.region ?_)
   iterate 2 refine RW.v ?_
   refine RW.nil ?_
   refine W.rg [(0, v1), (1, .int .i64 ((a : Nat) : Int)), (3, .int .i64 ((b : Nat) : Int)), (4, .func (.func 79) #[] #[]), (10, .int .i64 ((m : Nat) : Int))] fun TA => ?_
   refine W.seq (W.region ?_)
   iterate 2 refine RW.v ?_
   refine RW.nil ?_
   refine W.rg [(0, v1), (1, .int .i64 ((a : Nat) : Int)), (4, .func (.func 79) #[] #[]), (10, .int .i64 ((m : Nat) : Int)), (11, .int .i64 ((b : Nat) : Int))] fun TA => ?_
   refine W.seq ?_
   refine W.block ?_
   obtain ⟨r1, hr1⟩ : ∃ r1, r1 = bisM (fun h => ltS (gD xs h) (gD xs a)) (b - m) m b := ⟨_, rfl⟩
   refine W.loop (fun mm ta σ => ∃ (k : Nat) (i : Nat) (j : Nat), (j ≤ mm + i) ∧ (m ≤ i) ∧ (i ≤ j) ∧ (j ≤ b) ∧ (j - i ≤ k) ∧ (bisM (fun h => ltS (gD xs h) (gD xs a)) k i j = r1) ∧ Lies G A F σ (.sl 9 1 v1 N (rowX celS xs) :: (L)) ∧ ta 0 = v1 ∧ ta 1 = .int .i64 ((a : Nat) : Int) ∧ ta 4 = .func (.func 79) #[] #[] ∧ ta 10 = .int .i64 ((i : Nat) : Int) ∧ ta 11 = .int .i64 ((j : Nat) : Int)) 1000000 ?_ ?_
   ·exact ⟨(b - m), m, b, (by omega), (Nat.le_refl _), (by omega), (Nat.le_refl _), (by omega), hr1.symm, H, rfl, rfl, rfl, rfl, rfl⟩
   clear H
   rintro mm ta _ ⟨k, i, j, hm, hlo, hij, hhi, hk, hB, H, e0, e1, e4, e10, e11⟩
   refine W.rst [(0, v1), (1, .int .i64 ((a : Nat) : Int)), (4, .func (.func 79) #[] #[]), (10, .int .i64 ((i : Nat) : Int)), (11, .int .i64 ((j : Nat) : Int))] ⟨e0, e1, e4, e10, e11, trivial⟩ fun TA => ?_
   clear e0 e1 e4 e10 e11
   refine W.seq ?_
   refine W.seq (W.region ?_)
   iterate 3 refine RW.v ?_
   refine RW.nil ?_
   refine W.rg [(0, v1), (1, .int .i64 ((a : Nat) : Int)), (4, .func (.func 79) #[] #[]), (10, .int .i64 ((i : Nat) : Int)), (11, .int .i64 ((j : Nat) : Int)), (33, .bool (decide (((i : Nat) : Int) < ((j : Nat) : Int))))] fun TA => ?_
   refine W.cond rfl (fun hc2 => ?_) (fun hc2 => ?_)
   ·have hc2b := hc2
    have hc2 := of_decide_eq_true hc2
    refine W.skip ?_
    refine W.block ?_
    refine W.seq (W.region ?_)
    iterate 2 refine RW.v ?_
    refine RW.valE (v' := .int .i64 (((i + j) : Nat) : Int)) (by kernel_rfl) (by kernel_rfl) rfl (congrArg (Value.int .i64) ((wrap_in (by omega) (by omega)).trans (by omega))) (by kernel_rfl) ?_
    refine RW.valE (v' := .int .u64 (((i + j) : Nat) : Int)) (by kernel_rfl) (by kernel_rfl) rfl (congrArg (Value.int .u64) (wrap_u (by omega) (by omega))) (by kernel_rfl) ?_
    refine RW.vop (v := .int .u64 (((i + j) / 2 : Nat) : Int)) (by kernel_rfl) (by kernel_rfl) (vop_fastSh rfl rfl rfl (half_sh _)) (by kernel_rfl) ?_
    refine RW.valE (v' := .int .i64 ((((i + j) / 2) : Nat) : Int)) (by kernel_rfl) (by kernel_rfl) rfl (congrArg (Value.int .i64) (wrap_in (by omega) (by omega))) (by kernel_rfl) ?_
    refine RW.v ?_
    refine RW.nil ?_
    refine W.rg [(0, v1), (1, .int .i64 ((a : Nat) : Int)), (4, .func (.func 79) #[] #[]), (10, .int .i64 ((i : Nat) : Int)), (11, .int .i64 ((j : Nat) : Int)), (12, .int .i64 ((((i + j) / 2) : Nat) : Int))] fun TA => ?_
    refine W.seq ?_
    refine W.drawn (by kernel_rfl) (by kernel_rfl) H.gn ?_
    have H3 := H
    iterate 3 refine RW.v ?_
    refine RW.idxG H3 0 rfl (by kernel_rfl) (by kernel_rfl) rfl Tryd.underlying22 (by kernel_rfl) rfl rfl ⟨by omega, by omega⟩ (by kernel_rfl) ?_
    intro b4 q5 r6 hF7 hE8
    rw [rowS_at (xs := xs) (j := ((i + j) / 2)) (i := ((((i + j) / 2) : Nat) : Int)) (by omega) (by first | omega | (simp only [List.length_set]; omega))] at hE8
    refine RW.loads 1 (by kernel_rfl) (by kernel_rfl) rfl rfl (hF7) hE8 rfl (by kernel_rfl) ?_
    iterate 2 refine RW.v ?_
    refine RW.idxG H3 0 rfl (by kernel_rfl) (by kernel_rfl) rfl Tryd.underlying22 (by kernel_rfl) rfl rfl ⟨by omega, by omega⟩ (by kernel_rfl) ?_
    intro b9 q10 r11 hF12 hE13
    rw [rowS_at (xs := xs) (j := a) (i := ((a : Nat) : Int)) (by omega) (by first | omega | (simp only [List.length_set]; omega))] at hE13
    refine RW.loads 1 (by kernel_rfl) (by kernel_rfl) rfl rfl (hF12) hE13 rfl (by kernel_rfl) ?_
    refine RW.cl ?_
    refine ((cmpS_wc (x := (gD xs ((i + j) / 2))) (y := (gD xs a)) (gD_small hx.2 _) (gD_small hx.2 _) H3).mono ?_)
    rintro _ _ ⟨rfl, H14⟩
    refine RW.v ?_
    refine RW.nil ?_
    refine ⟨⟨by kernel_rfl, ⟨trivial, trivial, trivial, trivial, Or.inl (by kernel_rfl), trivial, trivial, trivial, Or.inl (by kernel_rfl), trivial, trivial, trivial⟩⟩, ?_⟩
    replace H := H14
    clear H3 H14
    refine W.rg [(0, v1), (1, .int .i64 ((a : Nat) : Int)), (4, .func (.func 79) #[] #[]), (10, .int .i64 ((i : Nat) : Int)), (11, .int .i64 ((j : Nat) : Int)), (12, .int .i64 ((((i + j) / 2) : Nat) : Int)), (50, .bool (decide ((cmpS (gD xs ((i + j) / 2)) (gD xs a)) < 0)))] fun TA => ?_
    refine W.cond rfl (fun hc15 => ?_) (fun hc15 => ?_)
    ·have hc15b := hc15
     have hc15 := of_decide_eq_true hc15
     refine W.region ?_
     refine RW.v ?_
     refine RW.valE (v' := .int .i64 (((((i + j) / 2) + 1) : Nat) : Int)) (by kernel_rfl) (by kernel_rfl) rfl (congrArg (Value.int .i64) ((wrap_in (by omega) (by omega)).trans (by omega))) (by kernel_rfl) ?_
     refine RW.v ?_
     refine RW.nil ?_
     refine bQn ?_
     exact ⟨rfl, mm - 1, by omega, (k - 1), (((i + j) / 2) + 1), j, (by omega), (by omega), (by omega), (by omega), (by omega), (by rw [← bis_yes (f := fun h => ltS (gD xs h) (gD xs a)) (by omega) (by omega) hc15b]; exact hB), H, rfl, rfl, rfl, rfl, rfl⟩
    ·have hc15b := hc15
     have hc15 := of_decide_eq_false hc15
     refine W.region ?_
     iterate 2 refine RW.v ?_
     refine RW.nil ?_
     refine bQn ?_
     exact ⟨rfl, mm - 1, by omega, (k - 1), i, ((i + j) / 2), (by omega), (by omega), (by omega), (by omega), (by omega), (by rw [← bis_no (f := fun h => ltS (gD xs h) (gD xs a)) (by omega) (by omega) hc15b]; exact hB), H, rfl, rfl, rfl, rfl, rfl⟩
   ·have hc2b := hc2
    have hc2 := of_decide_eq_false hc2
    refine W.exit _ ?_
    refine seqQ_exit ?_
    refine rndQ_exit ?_
    rw [bis_end (by omega)] at hB
    subst hB
    refine blkQ_here ?_
    refine W.seq ?_
    refine W.seq (W.region ?_)
    iterate 2 refine RW.v ?_
    refine RW.nil ?_
    refine W.rg [(0, v1), (10, .int .i64 ((i : Nat) : Int)), (13, .int .i64 ((a : Nat) : Int))] fun TA => ?_
    refine W.block ?_
    obtain ⟨R, hR⟩ : ∃ R, R = upM (i - 1 - a) xs a := ⟨_, rfl⟩
    refine W.loop (fun mm ta σ => ∃ (k : Nat) (zs : List (List UInt8)), (i ≤ mm + k) ∧ (a ≤ k) ∧ (zs.length = N ∧ ∀ x ∈ zs, x.length ≤ 1000000) ∧ (upM (i - 1 - k) zs k = R) ∧ Lies G A F σ (.sl 9 1 v1 N (rowX celS zs) :: (L)) ∧ ta 0 = v1 ∧ ta 10 = .int .i64 ((i : Nat) : Int) ∧ ta 13 = .int .i64 ((k : Nat) : Int)) i ?_ ?_
    ·exact ⟨a, xs, (by omega), (Nat.le_refl _), hx, hR.symm, H, rfl, rfl, rfl⟩
    clear H
    rintro mm ta _ ⟨k, zs, hm, hak, hz, hT, H, e0, e10, e13⟩
    refine W.rst [(0, v1), (10, .int .i64 ((i : Nat) : Int)), (13, .int .i64 ((k : Nat) : Int))] ⟨e0, e10, e13, trivial⟩ fun TA => ?_
    clear e0 e10 e13
    refine W.seq ?_
    refine W.seq (W.region ?_)
    iterate 2 refine RW.v ?_
    refine RW.valE (v' := .int .i64 (((i - 1) : Nat) : Int)) (by kernel_rfl) (by kernel_rfl) rfl (congrArg (Value.int .i64) ((wrap_in (by omega) (by omega)).trans (by omega))) (by kernel_rfl) ?_
    refine RW.v ?_
    refine RW.nil ?_
    refine W.rg [(0, v1), (10, .int .i64 ((i : Nat) : Int)), (13, .int .i64 ((k : Nat) : Int)), (58, .bool (decide (((k : Nat) : Int) < (((i - 1) : Nat) : Int))))] fun TA => ?_
    refine W.cond rfl (fun hc16 => ?_) (fun hc16 => ?_)
    ·have hc16b := hc16
     have hc16 := of_decide_eq_true hc16
     refine W.skip ?_
     refine W.seq ?_
     refine W.block ?_
     refine W.drawn (by kernel_rfl) (by kernel_rfl) H.gn ?_
     have H17 := H
     iterate 4 refine RW.v ?_
     refine RW.valE (v' := .int .i64 (((k + 1) : Nat) : Int)) (by kernel_rfl) (by kernel_rfl) rfl (congrArg (Value.int .i64) ((wrap_in (by omega) (by omega)).trans (by omega))) (by kernel_rfl) ?_
     iterate 2 refine RW.v ?_
     refine RW.valE (v' := .int .i64 (((k + 1) : Nat) : Int)) (by kernel_rfl) (by kernel_rfl) rfl (congrArg (Value.int .i64) ((wrap_in (by omega) (by omega)).trans (by omega))) (by kernel_rfl) ?_
     refine RW.idxG H17 0 rfl (by kernel_rfl) (by kernel_rfl) rfl Tryd.underlying22 (by kernel_rfl) rfl rfl ⟨by omega, by omega⟩ (by kernel_rfl) ?_
     intro b18 q19 r20 hF21 hE22
     rw [rowS_at (xs := zs) (j := (k + 1)) (i := (((k + 1) : Nat) : Int)) (by omega) (by first | omega | (simp only [List.length_set]; omega))] at hE22
     refine RW.loads 1 (by kernel_rfl) (by kernel_rfl) rfl rfl (hF21) hE22 rfl (by kernel_rfl) ?_
     iterate 2 refine RW.v ?_
     refine RW.idxG H17 0 rfl (by kernel_rfl) (by kernel_rfl) rfl Tryd.underlying22 (by kernel_rfl) rfl rfl ⟨by omega, by omega⟩ (by kernel_rfl) ?_
     intro b23 q24 r25 hF26 hE27
     rw [rowS_at (xs := zs) (j := k) (i := ((k : Nat) : Int)) (by omega) (by first | omega | (simp only [List.length_set]; omega))] at hE27
     refine RW.loads 1 (by kernel_rfl) (by kernel_rfl) rfl rfl (hF26) hE27 rfl (by kernel_rfl) ?_
     refine RW.idxGS H17 0 rfl (by kernel_rfl) (by kernel_rfl) rfl Tryd.underlying22 (by kernel_rfl) rfl rfl ⟨by omega, by omega⟩ (by kernel_rfl) ?_
     intro b28 q29 hb30 hq31
     refine RW.stG H17 0 rfl hb30 (vs := [.string ⟨(gD zs (k + 1)).toArray⟩]) (by subst hq31; simp only [List.length_cons, List.length_nil]; omega) (by kernel_rfl) (by kernel_rfl) rfl rfl rfl rfl (by kernel_rfl) (by kernel_rfl) ?_
     intro _ H32
     dsimp only [setL, delL] at H32
     rw [rowS_set hq31 (i := ((k : Nat) : Int)) (j := k) (by omega) (by first | omega | (simp only [List.length_set]; omega)) (gD zs (k + 1))] at H32
     refine RW.idxGS H32 0 rfl (by kernel_rfl) (by kernel_rfl) rfl Tryd.underlying22 (by kernel_rfl) rfl rfl ⟨by omega, by omega⟩ (by kernel_rfl) ?_
     intro b33 q34 hb35 hq36
     refine RW.stG H32 0 rfl hb35 (vs := [.string ⟨(gD zs k).toArray⟩]) (by subst hq36; simp only [List.length_cons, List.length_nil]; omega) (by kernel_rfl) (by kernel_rfl) rfl rfl rfl rfl (by kernel_rfl) (by kernel_rfl) ?_
     intro _ H37
     dsimp only [setL, delL] at H37
     rw [rowS_set hq36 (i := (((k + 1) : Nat) : Int)) (j := (k + 1)) (by omega) (by first | omega | (simp only [List.length_set]; omega)) (gD zs k)] at H37
     refine RW.nil ?_
     refine ⟨⟨by kernel_rfl, ⟨trivial, trivial, trivial, trivial, trivial, trivial, trivial, trivial, trivial, Or.inl (by kernel_rfl), trivial, trivial, trivial, Or.inl (by kernel_rfl), trivial, trivial, trivial, trivial, trivial⟩⟩, ?_⟩
     replace H := H37
     clear H17 H32 H37
     refine bQn ?_
     refine W.rg [(0, v1), (10, .int .i64 ((i : Nat) : Int)), (13, .int .i64 ((k : Nat) : Int))] fun TA => ?_
     refine W.region ?_
     refine RW.v ?_
     refine RW.valE (v' := .int .i64 (((k + 1) : Nat) : Int)) (by kernel_rfl) (by kernel_rfl) rfl (congrArg (Value.int .i64) ((wrap_in (by omega) (by omega)).trans (by omega))) (by kernel_rfl) ?_
     refine RW.v ?_
     refine RW.nil ?_
     exact ⟨rfl, mm - 1, by omega, k + 1, (swpD zs k (k + 1)), (by omega), (by omega), ⟨(by rw [swpD_len]; exact hz.1), swpD_small hz.2⟩, (by rw [← upM_go (by omega)]; exact hT), H, rfl, rfl, rfl⟩
    ·have hc16b := hc16
     have hc16 := of_decide_eq_false hc16
     refine W.exit _ ?_
     refine seqQ_exit ?_
     refine rndQ_exit ?_
     rw [upM_end (by omega)] at hT
     refine blkQ_here ?_
     refine W.ret ?_
     refine seqQ_ret ?_
     refine endG (by rfl) (by exact rfl) ?_
     rw [symM_one (by omega), ← hr1, ← hR, ← hT]
     exact H
  ·have hc1b := hc1
   have hc1 := ne_of_beq_false hc1
   refine W.skip ?_
   refine W.seq ?_
   refine W.seq (W.region ?_)
   iterate 2 refine RW.v ?_
   refine RW.valE (v' := .int .i64 (((b - m) : Nat) : Int)) (by kernel_rfl) (by kernel_rfl) rfl (congrArg (Value.int .i64) ((wrap_in (by omega) (by omega)).trans (by omega))) (by kernel_rfl) ?_
   refine RW.v ?_
   refine RW.nil ?_
   refine W.rg [(0, v1), (1, .int .i64 ((a : Nat) : Int)), (2, .int .i64 ((m : Nat) : Int)), (3, .int .i64 ((b : Nat) : Int)), (4, .func (.func 79) #[] #[]), (80, .bool ((((b - m) : Nat) : Int) == 1))] fun TA => ?_
   refine W.cond rfl (fun hc38 => ?_) (fun hc38 => ?_)
   ·have hc38b := hc38
    have hc38 := eq_of_beq hc38
    refine W.seq (W.region ?_)
    iterate 2 refine RW.v ?_
    refine RW.nil ?_
    refine W.rg [(0, v1), (2, .int .i64 ((m : Nat) : Int)), (4, .func (.func 79) #[] #[]), (14, .int .i64 ((a : Nat) : Int))] fun TA => ?_
    refine W.seq (W.region ?_)
    iterate 2 refine RW.v ?_
    refine RW.nil ?_
    refine W.rg [(0, v1), (2, .int .i64 ((m : Nat) : Int)), (4, .func (.func 79) #[] #[]), (14, .int .i64 ((a : Nat) : Int)), (15, .int .i64 ((m : Nat) : Int))] fun TA => ?_
    refine W.seq ?_
    refine W.block ?_
    obtain ⟨r2, hr2⟩ : ∃ r2, r2 = bisM (fun h => !ltS (gD xs m) (gD xs h)) (m - a) a m := ⟨_, rfl⟩
    refine W.loop (fun mm ta σ => ∃ (k : Nat) (i : Nat) (j : Nat), (j ≤ mm + i) ∧ (a ≤ i) ∧ (i ≤ j) ∧ (j ≤ m) ∧ (j - i ≤ k) ∧ (bisM (fun h => !ltS (gD xs m) (gD xs h)) k i j = r2) ∧ Lies G A F σ (.sl 9 1 v1 N (rowX celS xs) :: (L)) ∧ ta 0 = v1 ∧ ta 2 = .int .i64 ((m : Nat) : Int) ∧ ta 4 = .func (.func 79) #[] #[] ∧ ta 14 = .int .i64 ((i : Nat) : Int) ∧ ta 15 = .int .i64 ((j : Nat) : Int)) 1000000 ?_ ?_
    ·exact ⟨(m - a), a, m, (by omega), (Nat.le_refl _), (by omega), (Nat.le_refl _), (by omega), hr2.symm, H, rfl, rfl, rfl, rfl, rfl⟩
    clear H
    rintro mm ta _ ⟨k, i, j, hm, hlo, hij, hhi, hk, hB, H, e0, e2, e4, e14, e15⟩
    refine W.rst [(0, v1), (2, .int .i64 ((m : Nat) : Int)), (4, .func (.func 79) #[] #[]), (14, .int .i64 ((i : Nat) : Int)), (15, .int .i64 ((j : Nat) : Int))] ⟨e0, e2, e4, e14, e15, trivial⟩ fun TA => ?_
    clear e0 e2 e4 e14 e15
    refine W.seq ?_
    refine W.seq (W.region ?_)
    iterate 3 refine RW.v ?_
    refine RW.nil ?_
    refine W.rg [(0, v1), (2, .int .i64 ((m : Nat) : Int)), (4, .func (.func 79) #[] #[]), (14, .int .i64 ((i : Nat) : Int)), (15, .int .i64 ((j : Nat) : Int)), (85, .bool (decide (((i : Nat) : Int) < ((j : Nat) : Int))))] fun TA => ?_
    refine W.cond rfl (fun hc39 => ?_) (fun hc39 => ?_)
    ·have hc39b := hc39
     have hc39 := of_decide_eq_true hc39
     refine W.skip ?_
     refine W.block ?_
     refine W.seq (W.region ?_)
     iterate 2 refine RW.v ?_
     refine RW.valE (v' := .int .i64 (((i + j) : Nat) : Int)) (by kernel_rfl) (by kernel_rfl) rfl (congrArg (Value.int .i64) ((wrap_in (by omega) (by omega)).trans (by omega))) (by kernel_rfl) ?_
     refine RW.valE (v' := .int .u64 (((i + j) : Nat) : Int)) (by kernel_rfl) (by kernel_rfl) rfl (congrArg (Value.int .u64) (wrap_u (by omega) (by omega))) (by kernel_rfl) ?_
     refine RW.vop (v := .int .u64 (((i + j) / 2 : Nat) : Int)) (by kernel_rfl) (by kernel_rfl) (vop_fastSh rfl rfl rfl (half_sh _)) (by kernel_rfl) ?_
     refine RW.valE (v' := .int .i64 ((((i + j) / 2) : Nat) : Int)) (by kernel_rfl) (by kernel_rfl) rfl (congrArg (Value.int .i64) (wrap_in (by omega) (by omega))) (by kernel_rfl) ?_
     refine RW.v ?_
     refine RW.nil ?_
     refine W.rg [(0, v1), (2, .int .i64 ((m : Nat) : Int)), (4, .func (.func 79) #[] #[]), (14, .int .i64 ((i : Nat) : Int)), (15, .int .i64 ((j : Nat) : Int)), (16, .int .i64 ((((i + j) / 2) : Nat) : Int))] fun TA => ?_
     refine W.seq ?_
     refine W.drawn (by kernel_rfl) (by kernel_rfl) H.gn ?_
     have H40 := H
     iterate 3 refine RW.v ?_
     refine RW.idxG H40 0 rfl (by kernel_rfl) (by kernel_rfl) rfl Tryd.underlying22 (by kernel_rfl) rfl rfl ⟨by omega, by omega⟩ (by kernel_rfl) ?_
     intro b41 q42 r43 hF44 hE45
     rw [rowS_at (xs := xs) (j := m) (i := ((m : Nat) : Int)) (by omega) (by first | omega | (simp only [List.length_set]; omega))] at hE45
     refine RW.loads 1 (by kernel_rfl) (by kernel_rfl) rfl rfl (hF44) hE45 rfl (by kernel_rfl) ?_
     iterate 2 refine RW.v ?_
     refine RW.idxG H40 0 rfl (by kernel_rfl) (by kernel_rfl) rfl Tryd.underlying22 (by kernel_rfl) rfl rfl ⟨by omega, by omega⟩ (by kernel_rfl) ?_
     intro b46 q47 r48 hF49 hE50
     rw [rowS_at (xs := xs) (j := ((i + j) / 2)) (i := ((((i + j) / 2) : Nat) : Int)) (by omega) (by first | omega | (simp only [List.length_set]; omega))] at hE50
     refine RW.loads 1 (by kernel_rfl) (by kernel_rfl) rfl rfl (hF49) hE50 rfl (by kernel_rfl) ?_
     refine RW.cl ?_
     refine ((cmpS_wc (x := (gD xs m)) (y := (gD xs ((i + j) / 2))) (gD_small hx.2 _) (gD_small hx.2 _) H40).mono ?_)
     rintro _ _ ⟨rfl, H51⟩
     iterate 2 refine RW.v ?_
     refine RW.nil ?_
     refine ⟨⟨by kernel_rfl, ⟨trivial, trivial, trivial, trivial, Or.inl (by kernel_rfl), trivial, trivial, trivial, Or.inl (by kernel_rfl), trivial, trivial, trivial, trivial⟩⟩, ?_⟩
     replace H := H51
     clear H40 H51
     refine W.rg [(0, v1), (2, .int .i64 ((m : Nat) : Int)), (4, .func (.func 79) #[] #[]), (14, .int .i64 ((i : Nat) : Int)), (15, .int .i64 ((j : Nat) : Int)), (16, .int .i64 ((((i + j) / 2) : Nat) : Int)), (103, .bool (!(decide ((cmpS (gD xs m) (gD xs ((i + j) / 2))) < 0))))] fun TA => ?_
     refine W.cond rfl (fun hc52 => ?_) (fun hc52 => ?_)
     ·have hc52b := hc52
      refine W.region ?_
      refine RW.v ?_
      refine RW.valE (v' := .int .i64 (((((i + j) / 2) + 1) : Nat) : Int)) (by kernel_rfl) (by kernel_rfl) rfl (congrArg (Value.int .i64) ((wrap_in (by omega) (by omega)).trans (by omega))) (by kernel_rfl) ?_
      refine RW.v ?_
      refine RW.nil ?_
      refine bQn ?_
      exact ⟨rfl, mm - 1, by omega, (k - 1), (((i + j) / 2) + 1), j, (by omega), (by omega), (by omega), (by omega), (by omega), (by rw [← bis_yes (f := fun h => !ltS (gD xs m) (gD xs h)) (by omega) (by omega) hc52b]; exact hB), H, rfl, rfl, rfl, rfl, rfl⟩
     ·have hc52b := hc52
      refine W.region ?_
      iterate 2 refine RW.v ?_
      refine RW.nil ?_
      refine bQn ?_
      exact ⟨rfl, mm - 1, by omega, (k - 1), i, ((i + j) / 2), (by omega), (by omega), (by omega), (by omega), (by omega), (by rw [← bis_no (f := fun h => !ltS (gD xs m) (gD xs h)) (by omega) (by omega) hc52b]; exact hB), H, rfl, rfl, rfl, rfl, rfl⟩
    ·have hc39b := hc39
     have hc39 := of_decide_eq_false hc39
     refine W.exit _ ?_
     refine seqQ_exit ?_
     refine rndQ_exit ?_
     rw [bis_end (by omega)] at hB
     subst hB
     refine blkQ_here ?_
     refine W.seq ?_
     refine W.seq (W.region ?_)
     iterate 2 refine RW.v ?_
     refine RW.nil ?_
     refine W.rg [(0, v1), (14, .int .i64 ((i : Nat) : Int)), (17, .int .i64 ((m : Nat) : Int))] fun TA => ?_
     refine W.block ?_
     obtain ⟨R, hR⟩ : ∃ R, R = downM (m - i) xs m := ⟨_, rfl⟩
     refine W.loop (fun mm ta σ => ∃ (k : Nat) (zs : List (List UInt8)), (k ≤ mm) ∧ (k ≤ m) ∧ (zs.length = N ∧ ∀ x ∈ zs, x.length ≤ 1000000) ∧ (downM (k - i) zs k = R) ∧ Lies G A F σ (.sl 9 1 v1 N (rowX celS zs) :: (L)) ∧ ta 0 = v1 ∧ ta 14 = .int .i64 ((i : Nat) : Int) ∧ ta 17 = .int .i64 ((k : Nat) : Int)) m ?_ ?_
     ·exact ⟨m, xs, (by omega), (Nat.le_refl _), hx, hR.symm, H, rfl, rfl, rfl⟩
     clear H
     rintro mm ta _ ⟨k, zs, hm, hkm, hz, hT, H, e0, e14, e17⟩
     refine W.rst [(0, v1), (14, .int .i64 ((i : Nat) : Int)), (17, .int .i64 ((k : Nat) : Int))] ⟨e0, e14, e17, trivial⟩ fun TA => ?_
     clear e0 e14 e17
     refine W.seq ?_
     refine W.seq (W.region ?_)
     iterate 3 refine RW.v ?_
     refine RW.nil ?_
     refine W.rg [(0, v1), (14, .int .i64 ((i : Nat) : Int)), (17, .int .i64 ((k : Nat) : Int)), (110, .bool (decide (((k : Nat) : Int) > ((i : Nat) : Int))))] fun TA => ?_
     refine W.cond rfl (fun hc53 => ?_) (fun hc53 => ?_)
     ·have hc53b := hc53
      have hc53 := of_decide_eq_true hc53
      refine W.skip ?_
      refine W.seq ?_
      refine W.block ?_
      refine W.drawn (by kernel_rfl) (by kernel_rfl) H.gn ?_
      have H54 := H
      iterate 4 refine RW.v ?_
      refine RW.valE (v' := .int .i64 (((k - 1) : Nat) : Int)) (by kernel_rfl) (by kernel_rfl) rfl (congrArg (Value.int .i64) ((wrap_in (by omega) (by omega)).trans (by omega))) (by kernel_rfl) ?_
      iterate 2 refine RW.v ?_
      refine RW.valE (v' := .int .i64 (((k - 1) : Nat) : Int)) (by kernel_rfl) (by kernel_rfl) rfl (congrArg (Value.int .i64) ((wrap_in (by omega) (by omega)).trans (by omega))) (by kernel_rfl) ?_
      refine RW.idxG H54 0 rfl (by kernel_rfl) (by kernel_rfl) rfl Tryd.underlying22 (by kernel_rfl) rfl rfl ⟨by omega, by omega⟩ (by kernel_rfl) ?_
      intro b55 q56 r57 hF58 hE59
      rw [rowS_at (xs := zs) (j := (k - 1)) (i := (((k - 1) : Nat) : Int)) (by omega) (by first | omega | (simp only [List.length_set]; omega))] at hE59
      refine RW.loads 1 (by kernel_rfl) (by kernel_rfl) rfl rfl (hF58) hE59 rfl (by kernel_rfl) ?_
      iterate 2 refine RW.v ?_
      refine RW.idxG H54 0 rfl (by kernel_rfl) (by kernel_rfl) rfl Tryd.underlying22 (by kernel_rfl) rfl rfl ⟨by omega, by omega⟩ (by kernel_rfl) ?_
      intro b60 q61 r62 hF63 hE64
      rw [rowS_at (xs := zs) (j := k) (i := ((k : Nat) : Int)) (by omega) (by first | omega | (simp only [List.length_set]; omega))] at hE64
      refine RW.loads 1 (by kernel_rfl) (by kernel_rfl) rfl rfl (hF63) hE64 rfl (by kernel_rfl) ?_
      refine RW.idxGS H54 0 rfl (by kernel_rfl) (by kernel_rfl) rfl Tryd.underlying22 (by kernel_rfl) rfl rfl ⟨by omega, by omega⟩ (by kernel_rfl) ?_
      intro b65 q66 hb67 hq68
      refine RW.stG H54 0 rfl hb67 (vs := [.string ⟨(gD zs (k - 1)).toArray⟩]) (by subst hq68; simp only [List.length_cons, List.length_nil]; omega) (by kernel_rfl) (by kernel_rfl) rfl rfl rfl rfl (by kernel_rfl) (by kernel_rfl) ?_
      intro _ H69
      dsimp only [setL, delL] at H69
      rw [rowS_set hq68 (i := ((k : Nat) : Int)) (j := k) (by omega) (by first | omega | (simp only [List.length_set]; omega)) (gD zs (k - 1))] at H69
      refine RW.idxGS H69 0 rfl (by kernel_rfl) (by kernel_rfl) rfl Tryd.underlying22 (by kernel_rfl) rfl rfl ⟨by omega, by omega⟩ (by kernel_rfl) ?_
      intro b70 q71 hb72 hq73
      refine RW.stG H69 0 rfl hb72 (vs := [.string ⟨(gD zs k).toArray⟩]) (by subst hq73; simp only [List.length_cons, List.length_nil]; omega) (by kernel_rfl) (by kernel_rfl) rfl rfl rfl rfl (by kernel_rfl) (by kernel_rfl) ?_
      intro _ H74
      dsimp only [setL, delL] at H74
      rw [rowS_set hq73 (i := (((k - 1) : Nat) : Int)) (j := (k - 1)) (by omega) (by first | omega | (simp only [List.length_set]; omega)) (gD zs k)] at H74
      refine RW.nil ?_
      refine ⟨⟨by kernel_rfl, ⟨trivial, trivial, trivial, trivial, trivial, trivial, trivial, trivial, trivial, Or.inl (by kernel_rfl), trivial, trivial, trivial, Or.inl (by kernel_rfl), trivial, trivial, trivial, trivial, trivial⟩⟩, ?_⟩
      replace H := H74
      clear H54 H69 H74
      refine bQn ?_
      refine W.rg [(0, v1), (14, .int .i64 ((i : Nat) : Int)), (17, .int .i64 ((k : Nat) : Int))] fun TA => ?_
      refine W.region ?_
      refine RW.v ?_
      refine RW.valE (v' := .int .i64 (((k - 1) : Nat) : Int)) (by kernel_rfl) (by kernel_rfl) rfl (congrArg (Value.int .i64) ((wrap_in (by omega) (by omega)).trans (by omega))) (by kernel_rfl) ?_
      refine RW.v ?_
      refine RW.nil ?_
      exact ⟨rfl, mm - 1, by omega, (k - 1), (swpD zs k (k - 1)), (by omega), (by omega), ⟨(by rw [swpD_len]; exact hz.1), swpD_small hz.2⟩, (by rw [← downM_go (by omega)]; exact hT), H, rfl, rfl, rfl⟩
     ·have hc53b := hc53
      have hc53 := of_decide_eq_false hc53
      refine W.exit _ ?_
      refine seqQ_exit ?_
      refine rndQ_exit ?_
      rw [downM_end (by omega)] at hT
      refine blkQ_here ?_
      refine W.ret ?_
      refine seqQ_ret ?_
      refine endG (by rfl) (by exact rfl) ?_
      rw [symM_last (by omega) (by omega), ← hr2, ← hR, ← hT]
      exact H
   ·have hc38b := hc38
    have hc38 := ne_of_beq_false hc38
    refine W.skip ?_
    refine W.seq (W.region ?_)
    iterate 2 refine RW.v ?_
    refine RW.valE (v' := .int .i64 (((a + b) : Nat) : Int)) (by kernel_rfl) (by kernel_rfl) rfl (congrArg (Value.int .i64) ((wrap_in (by omega) (by omega)).trans (by omega))) (by kernel_rfl) ?_
    refine RW.valE (v' := .int .u64 (((a + b) : Nat) : Int)) (by kernel_rfl) (by kernel_rfl) rfl (congrArg (Value.int .u64) (wrap_u (by omega) (by omega))) (by kernel_rfl) ?_
    have hz := hx
    obtain ⟨md, hmd⟩ : ∃ md, md = (a + b) / 2 := ⟨_, rfl⟩
    refine RW.vop (v := .int .u64 ((md : Nat) : Int)) (by kernel_rfl) (by kernel_rfl) (vop_fastSh rfl rfl rfl (by rw [hmd]; exact half_sh _)) (by kernel_rfl) ?_
    refine RW.valE (v' := .int .i64 ((md : Nat) : Int)) (by kernel_rfl) (by kernel_rfl) rfl (congrArg (Value.int .i64) (wrap_in (by omega) (by omega))) (by kernel_rfl) ?_
    refine RW.v ?_
    refine RW.nil ?_
    refine W.rg [(0, v1), (1, .int .i64 ((a : Nat) : Int)), (2, .int .i64 ((m : Nat) : Int)), (3, .int .i64 ((b : Nat) : Int)), (4, .func (.func 79) #[] #[]), (18, .int .i64 ((md : Nat) : Int))] fun TA => ?_
    refine W.seq (W.region ?_)
    iterate 2 refine RW.v ?_
    refine RW.valE (v' := .int .i64 (((md + m) : Nat) : Int)) (by kernel_rfl) (by kernel_rfl) rfl (congrArg (Value.int .i64) ((wrap_in (by omega) (by omega)).trans (by omega))) (by kernel_rfl) ?_
    refine RW.v ?_
    refine RW.nil ?_
    refine W.rg [(0, v1), (1, .int .i64 ((a : Nat) : Int)), (2, .int .i64 ((m : Nat) : Int)), (3, .int .i64 ((b : Nat) : Int)), (4, .func (.func 79) #[] #[]), (18, .int .i64 ((md : Nat) : Int)), (19, .int .i64 (((md + m) : Nat) : Int))] fun TA => ?_
    refine W.seq (W.region ?_)
    iterate 2 refine RW.v ?_
    refine RW.nil ?_
    refine W.rg [(0, v1), (1, .int .i64 ((a : Nat) : Int)), (2, .int .i64 ((m : Nat) : Int)), (3, .int .i64 ((b : Nat) : Int)), (4, .func (.func 79) #[] #[]), (18, .int .i64 ((md : Nat) : Int)), (19, .int .i64 (((md + m) : Nat) : Int))] fun TA => ?_
    refine W.join (fun ta σ => ∃ (s0 : Nat) (r0 : Nat), (s0 = if md < m then md + m - b else a) ∧ (r0 = if md < m then md else m) ∧ ((md < m ∧ s0 = md + m - b ∧ r0 = md) ∨ (¬ md < m ∧ s0 = a ∧ r0 = m)) ∧ Lies G A F σ (.sl 9 1 v1 N (rowX celS xs) :: (L)) ∧ ta 0 = v1 ∧ ta 1 = .int .i64 ((a : Nat) : Int) ∧ ta 2 = .int .i64 ((m : Nat) : Int) ∧ ta 3 = .int .i64 ((b : Nat) : Int) ∧ ta 4 = .func (.func 79) #[] #[] ∧ ta 18 = .int .i64 ((md : Nat) : Int) ∧ ta 19 = .int .i64 (((md + m) : Nat) : Int) ∧ ta 20 = .int .i64 ((s0 : Nat) : Int) ∧ ta 21 = .int .i64 ((r0 : Nat) : Int)) ?_ ?_
    ·refine W.seq (W.region ?_)
     iterate 3 refine RW.v ?_
     refine RW.nil ?_
     refine W.rg [(0, v1), (1, .int .i64 ((a : Nat) : Int)), (2, .int .i64 ((m : Nat) : Int)), (3, .int .i64 ((b : Nat) : Int)), (4, .func (.func 79) #[] #[]), (18, .int .i64 ((md : Nat) : Int)), (19, .int .i64 (((md + m) : Nat) : Int)), (140, .bool (decide (((m : Nat) : Int) > ((md : Nat) : Int))))] fun TA => ?_
     refine W.cond rfl (fun hc75 => ?_) (fun hc75 => ?_)
     ·have hc75b := hc75
      have hc75 := of_decide_eq_true hc75
      refine W.seq (W.region ?_)
      iterate 2 refine RW.v ?_
      refine RW.valE (v' := .int .i64 ((((md + m) - b) : Nat) : Int)) (by kernel_rfl) (by kernel_rfl) rfl (congrArg (Value.int .i64) ((wrap_in (by omega) (by omega)).trans (by omega))) (by kernel_rfl) ?_
      refine RW.v ?_
      refine RW.nil ?_
      refine W.rg [(0, v1), (1, .int .i64 ((a : Nat) : Int)), (2, .int .i64 ((m : Nat) : Int)), (3, .int .i64 ((b : Nat) : Int)), (4, .func (.func 79) #[] #[]), (18, .int .i64 ((md : Nat) : Int)), (19, .int .i64 (((md + m) : Nat) : Int)), (20, .int .i64 ((((md + m) - b) : Nat) : Int))] fun TA => ?_
      refine W.region ?_
      iterate 2 refine RW.v ?_
      refine RW.nil ?_
      exact ⟨rfl, rfl, ((md + m) - b), md, (by rw [if_pos (by omega)]), (by rw [if_pos (by omega)]), (by omega), H, rfl, rfl, rfl, rfl, rfl, rfl, rfl, rfl, rfl⟩
     ·have hc75b := hc75
      have hc75 := of_decide_eq_false hc75
      refine W.seq (W.region ?_)
      iterate 2 refine RW.v ?_
      refine RW.nil ?_
      refine W.rg [(0, v1), (1, .int .i64 ((a : Nat) : Int)), (2, .int .i64 ((m : Nat) : Int)), (3, .int .i64 ((b : Nat) : Int)), (4, .func (.func 79) #[] #[]), (18, .int .i64 ((md : Nat) : Int)), (19, .int .i64 (((md + m) : Nat) : Int)), (20, .int .i64 ((a : Nat) : Int))] fun TA => ?_
      refine W.region ?_
      iterate 2 refine RW.v ?_
      refine RW.nil ?_
      exact ⟨rfl, rfl, a, m, (by rw [if_neg (by omega)]), (by rw [if_neg (by omega)]), (by omega), H, rfl, rfl, rfl, rfl, rfl, rfl, rfl, rfl, rfl⟩
    clear H
    rintro ta _ ⟨s0, r0, hs0, hr0, hsr, H, e0, e1, e2, e3, e4, e18, e19, e20, e21⟩
    refine W.rst [(0, v1), (1, .int .i64 ((a : Nat) : Int)), (2, .int .i64 ((m : Nat) : Int)), (3, .int .i64 ((b : Nat) : Int)), (4, .func (.func 79) #[] #[]), (18, .int .i64 ((md : Nat) : Int)), (19, .int .i64 (((md + m) : Nat) : Int)), (20, .int .i64 ((s0 : Nat) : Int)), (21, .int .i64 ((r0 : Nat) : Int))] ⟨e0, e1, e2, e3, e4, e18, e19, e20, e21, trivial⟩ fun TA => ?_
    clear e0 e1 e2 e3 e4 e18 e19 e20 e21
    refine W.seq (W.region ?_)
    refine RW.v ?_
    refine RW.valE (v' := .int .i64 ((((md + m) - 1) : Nat) : Int)) (by kernel_rfl) (by kernel_rfl) rfl (congrArg (Value.int .i64) ((wrap_in (by omega) (by omega)).trans (by omega))) (by kernel_rfl) ?_
    refine RW.v ?_
    refine RW.nil ?_
    refine W.rg [(0, v1), (1, .int .i64 ((a : Nat) : Int)), (2, .int .i64 ((m : Nat) : Int)), (3, .int .i64 ((b : Nat) : Int)), (4, .func (.func 79) #[] #[]), (18, .int .i64 ((md : Nat) : Int)), (19, .int .i64 (((md + m) : Nat) : Int)), (20, .int .i64 ((s0 : Nat) : Int)), (21, .int .i64 ((r0 : Nat) : Int)), (22, .int .i64 ((((md + m) - 1) : Nat) : Int))] fun TA => ?_
    refine W.seq ?_
    refine W.block ?_
    obtain ⟨r3, hr3⟩ : ∃ r3, r3 = bisM (fun h => !ltS (gD xs (md + m - 1 - h)) (gD xs h)) (b - a) s0 r0 := ⟨_, rfl⟩
    refine W.loop (fun mm ta σ => ∃ (k : Nat) (i : Nat) (j : Nat), (j ≤ mm + i) ∧ (s0 ≤ i) ∧ (i ≤ j) ∧ (j ≤ r0) ∧ (j - i ≤ k) ∧ (bisM (fun h => !ltS (gD xs (md + m - 1 - h)) (gD xs h)) k i j = r3) ∧ Lies G A F σ (.sl 9 1 v1 N (rowX celS xs) :: (L)) ∧ ta 0 = v1 ∧ ta 1 = .int .i64 ((a : Nat) : Int) ∧ ta 2 = .int .i64 ((m : Nat) : Int) ∧ ta 3 = .int .i64 ((b : Nat) : Int) ∧ ta 4 = .func (.func 79) #[] #[] ∧ ta 18 = .int .i64 ((md : Nat) : Int) ∧ ta 19 = .int .i64 (((md + m) : Nat) : Int) ∧ ta 20 = .int .i64 ((i : Nat) : Int) ∧ ta 21 = .int .i64 ((j : Nat) : Int) ∧ ta 22 = .int .i64 ((((md + m) - 1) : Nat) : Int)) 1000000 ?_ ?_
    ·exact ⟨(b - a), s0, r0, (by omega), (Nat.le_refl _), (by omega), (Nat.le_refl _), (by omega), hr3.symm, H, rfl, rfl, rfl, rfl, rfl, rfl, rfl, rfl, rfl, rfl⟩
    clear H
    rintro mm ta _ ⟨k, i, j, hm, hlo, hij, hhi, hk, hB, H, e0, e1, e2, e3, e4, e18, e19, e20, e21, e22⟩
    refine W.rst [(0, v1), (1, .int .i64 ((a : Nat) : Int)), (2, .int .i64 ((m : Nat) : Int)), (3, .int .i64 ((b : Nat) : Int)), (4, .func (.func 79) #[] #[]), (18, .int .i64 ((md : Nat) : Int)), (19, .int .i64 (((md + m) : Nat) : Int)), (20, .int .i64 ((i : Nat) : Int)), (21, .int .i64 ((j : Nat) : Int)), (22, .int .i64 ((((md + m) - 1) : Nat) : Int))] ⟨e0, e1, e2, e3, e4, e18, e19, e20, e21, e22, trivial⟩ fun TA => ?_
    clear e0 e1 e2 e3 e4 e18 e19 e20 e21 e22
    refine W.seq ?_
    refine W.seq (W.region ?_)
    iterate 3 refine RW.v ?_
    refine RW.nil ?_
    refine W.rg [(0, v1), (1, .int .i64 ((a : Nat) : Int)), (2, .int .i64 ((m : Nat) : Int)), (3, .int .i64 ((b : Nat) : Int)), (4, .func (.func 79) #[] #[]), (18, .int .i64 ((md : Nat) : Int)), (19, .int .i64 (((md + m) : Nat) : Int)), (20, .int .i64 ((i : Nat) : Int)), (21, .int .i64 ((j : Nat) : Int)), (22, .int .i64 ((((md + m) - 1) : Nat) : Int)), (151, .bool (decide (((i : Nat) : Int) < ((j : Nat) : Int))))] fun TA => ?_
    refine W.cond rfl (fun hc76 => ?_) (fun hc76 => ?_)
    ·have hc76b := hc76
     have hc76 := of_decide_eq_true hc76
     refine W.skip ?_
     refine W.block ?_
     refine W.seq (W.region ?_)
     iterate 2 refine RW.v ?_
     refine RW.valE (v' := .int .i64 (((i + j) : Nat) : Int)) (by kernel_rfl) (by kernel_rfl) rfl (congrArg (Value.int .i64) ((wrap_in (by omega) (by omega)).trans (by omega))) (by kernel_rfl) ?_
     refine RW.valE (v' := .int .u64 (((i + j) : Nat) : Int)) (by kernel_rfl) (by kernel_rfl) rfl (congrArg (Value.int .u64) (wrap_u (by omega) (by omega))) (by kernel_rfl) ?_
     refine RW.vop (v := .int .u64 (((i + j) / 2 : Nat) : Int)) (by kernel_rfl) (by kernel_rfl) (vop_fastSh rfl rfl rfl (half_sh _)) (by kernel_rfl) ?_
     refine RW.valE (v' := .int .i64 ((((i + j) / 2) : Nat) : Int)) (by kernel_rfl) (by kernel_rfl) rfl (congrArg (Value.int .i64) (wrap_in (by omega) (by omega))) (by kernel_rfl) ?_
     refine RW.v ?_
     refine RW.nil ?_
     refine W.rg [(0, v1), (1, .int .i64 ((a : Nat) : Int)), (2, .int .i64 ((m : Nat) : Int)), (3, .int .i64 ((b : Nat) : Int)), (4, .func (.func 79) #[] #[]), (18, .int .i64 ((md : Nat) : Int)), (19, .int .i64 (((md + m) : Nat) : Int)), (20, .int .i64 ((i : Nat) : Int)), (21, .int .i64 ((j : Nat) : Int)), (22, .int .i64 ((((md + m) - 1) : Nat) : Int)), (23, .int .i64 ((((i + j) / 2) : Nat) : Int))] fun TA => ?_
     refine W.seq ?_
     refine W.drawn (by kernel_rfl) (by kernel_rfl) H.gn ?_
     have H77 := H
     iterate 4 refine RW.v ?_
     refine RW.valE (v' := .int .i64 (((((md + m) - 1) - ((i + j) / 2)) : Nat) : Int)) (by kernel_rfl) (by kernel_rfl) rfl (congrArg (Value.int .i64) ((wrap_in (by omega) (by omega)).trans (by omega))) (by kernel_rfl) ?_
     refine RW.idxG H77 0 rfl (by kernel_rfl) (by kernel_rfl) rfl Tryd.underlying22 (by kernel_rfl) rfl rfl ⟨by omega, by omega⟩ (by kernel_rfl) ?_
     intro b78 q79 r80 hF81 hE82
     rw [rowS_at (xs := xs) (j := (((md + m) - 1) - ((i + j) / 2))) (i := (((((md + m) - 1) - ((i + j) / 2)) : Nat) : Int)) (by omega) (by first | omega | (simp only [List.length_set]; omega))] at hE82
     refine RW.loads 1 (by kernel_rfl) (by kernel_rfl) rfl rfl (hF81) hE82 rfl (by kernel_rfl) ?_
     iterate 2 refine RW.v ?_
     refine RW.idxG H77 0 rfl (by kernel_rfl) (by kernel_rfl) rfl Tryd.underlying22 (by kernel_rfl) rfl rfl ⟨by omega, by omega⟩ (by kernel_rfl) ?_
     intro b83 q84 r85 hF86 hE87
     rw [rowS_at (xs := xs) (j := ((i + j) / 2)) (i := ((((i + j) / 2) : Nat) : Int)) (by omega) (by first | omega | (simp only [List.length_set]; omega))] at hE87
     refine RW.loads 1 (by kernel_rfl) (by kernel_rfl) rfl rfl (hF86) hE87 rfl (by kernel_rfl) ?_
     refine RW.cl ?_
     refine ((cmpS_wc (x := (gD xs (((md + m) - 1) - ((i + j) / 2)))) (y := (gD xs ((i + j) / 2))) (gD_small hx.2 _) (gD_small hx.2 _) H77).mono ?_)
     rintro _ _ ⟨rfl, H88⟩
     iterate 2 refine RW.v ?_
     refine RW.nil ?_
     refine ⟨⟨by kernel_rfl, ⟨trivial, trivial, trivial, trivial, trivial, trivial, Or.inl (by kernel_rfl), trivial, trivial, trivial, Or.inl (by kernel_rfl), trivial, trivial, trivial, trivial⟩⟩, ?_⟩
     replace H := H88
     clear H77 H88
     refine W.rg [(0, v1), (1, .int .i64 ((a : Nat) : Int)), (2, .int .i64 ((m : Nat) : Int)), (3, .int .i64 ((b : Nat) : Int)), (4, .func (.func 79) #[] #[]), (18, .int .i64 ((md : Nat) : Int)), (19, .int .i64 (((md + m) : Nat) : Int)), (20, .int .i64 ((i : Nat) : Int)), (21, .int .i64 ((j : Nat) : Int)), (22, .int .i64 ((((md + m) - 1) : Nat) : Int)), (23, .int .i64 ((((i + j) / 2) : Nat) : Int)), (171, .bool (!(decide ((cmpS (gD xs (((md + m) - 1) - ((i + j) / 2))) (gD xs ((i + j) / 2))) < 0))))] fun TA => ?_
     refine W.cond rfl (fun hc89 => ?_) (fun hc89 => ?_)
     ·have hc89b := hc89
      refine W.region ?_
      refine RW.v ?_
      refine RW.valE (v' := .int .i64 (((((i + j) / 2) + 1) : Nat) : Int)) (by kernel_rfl) (by kernel_rfl) rfl (congrArg (Value.int .i64) ((wrap_in (by omega) (by omega)).trans (by omega))) (by kernel_rfl) ?_
      refine RW.v ?_
      refine RW.nil ?_
      refine bQn ?_
      exact ⟨rfl, mm - 1, by omega, (k - 1), (((i + j) / 2) + 1), j, (by omega), (by omega), (by omega), (by omega), (by omega), (by rw [← bis_yes (f := fun h => !ltS (gD xs (md + m - 1 - h)) (gD xs h)) (by omega) (by omega) hc89b]; exact hB), H, rfl, rfl, rfl, rfl, rfl, rfl, rfl, rfl, rfl, rfl⟩
     ·have hc89b := hc89
      refine W.region ?_
      iterate 2 refine RW.v ?_
      refine RW.nil ?_
      refine bQn ?_
      exact ⟨rfl, mm - 1, by omega, (k - 1), i, ((i + j) / 2), (by omega), (by omega), (by omega), (by omega), (by omega), (by rw [← bis_no (f := fun h => !ltS (gD xs (md + m - 1 - h)) (gD xs h)) (by omega) (by omega) hc89b]; exact hB), H, rfl, rfl, rfl, rfl, rfl, rfl, rfl, rfl, rfl, rfl⟩
    ·have hc76b := hc76
     have hc76 := of_decide_eq_false hc76
     refine W.exit _ ?_
     refine seqQ_exit ?_
     refine rndQ_exit ?_
     rw [bis_end (by omega)] at hB
     subst hB
     refine blkQ_here ?_
     refine W.seq (W.region ?_)
     iterate 2 refine RW.v ?_
     refine RW.valE (v' := .int .i64 ((((md + m) - i) : Nat) : Int)) (by kernel_rfl) (by kernel_rfl) rfl (congrArg (Value.int .i64) ((wrap_in (by omega) (by omega)).trans (by omega))) (by kernel_rfl) ?_
     refine RW.v ?_
     refine RW.nil ?_
     refine W.rg [(0, v1), (1, .int .i64 ((a : Nat) : Int)), (2, .int .i64 ((m : Nat) : Int)), (3, .int .i64 ((b : Nat) : Int)), (4, .func (.func 79) #[] #[]), (18, .int .i64 ((md : Nat) : Int)), (20, .int .i64 ((i : Nat) : Int)), (24, .int .i64 ((((md + m) - i) : Nat) : Int))] fun TA => ?_
     refine W.join (fun ta σ => ∃ (z1 : List (List UInt8)), (z1 = if i < m ∧ m < (md + m - i) then rotG ((md + m - i) - i) xs m (m - i) ((md + m - i) - m) else xs) ∧ (z1.length = N ∧ ∀ x ∈ z1, x.length ≤ 1000000) ∧ Lies G A F σ (.sl 9 1 v1 N (rowX celS z1) :: (L)) ∧ ta 0 = v1 ∧ ta 1 = .int .i64 ((a : Nat) : Int) ∧ ta 3 = .int .i64 ((b : Nat) : Int) ∧ ta 4 = .func (.func 79) #[] #[] ∧ ta 18 = .int .i64 ((md : Nat) : Int) ∧ ta 20 = .int .i64 ((i : Nat) : Int) ∧ ta 24 = .int .i64 ((((md + m) - i) : Nat) : Int)) ?_ ?_
     ·refine W.seq (W.region ?_)
      iterate 4 refine RW.v ?_
      refine RW.both _ _ rfl rfl rfl (fun hc90 => ?_) (fun hc90 => ?_)
      ·have hc90b := hc90
       have hc90 := of_decide_eq_true hc90
       iterate 3 refine RW.w ?_
       refine RW.v ?_
       refine RW.nil ?_
       refine W.rg [(0, v1), (1, .int .i64 ((a : Nat) : Int)), (2, .int .i64 ((m : Nat) : Int)), (3, .int .i64 ((b : Nat) : Int)), (4, .func (.func 79) #[] #[]), (18, .int .i64 ((md : Nat) : Int)), (20, .int .i64 ((i : Nat) : Int)), (24, .int .i64 ((((md + m) - i) : Nat) : Int)), (185, .bool (decide (((m : Nat) : Int) < ((((md + m) - i) : Nat) : Int))))] fun TA => ?_
       refine W.cond rfl (fun hc91 => ?_) (fun hc91 => ?_)
       ·have hc91b := hc91
        have hc91 := of_decide_eq_true hc91
        refine W.region ?_
        iterate 5 refine RW.v ?_
        refine RW.cl ?_
        refine ((rotS_wc (a := i) (m := m) (b := ((md + m) - i)) hz hN (by omega) (by omega) (by omega) H).mono ?_)
        clear H
        rintro _ _ H
        replace hz := And.intro ((rotG_len (((md + m) - i) - i) xs m (m - i) (((md + m) - i) - m)).trans hz.1) (rotG_small (((md + m) - i) - i) xs m (m - i) (((md + m) - i) - m) hz.2)
        refine RW.nil ?_
        exact ⟨rfl, rfl, (rotG (((md + m) - i) - i) xs m (m - i) (((md + m) - i) - m)), (by first | (rw [if_pos (by omega)]) | (rw [if_neg (by omega)])), hz, H, rfl, rfl, rfl, rfl, rfl, rfl, rfl⟩
       ·have hc91b := hc91
        have hc91 := of_decide_eq_false hc91
        refine W.skip ?_
        exact ⟨rfl, rfl, xs, (by first | (rw [if_pos (by omega)]) | (rw [if_neg (by omega)])), hz, H, rfl, rfl, rfl, rfl, rfl, rfl, rfl⟩
      ·have hc90b := hc90
       have hc90 := of_decide_eq_false hc90
       iterate 3 refine RW.s ?_
       refine RW.v ?_
       refine RW.nil ?_
       refine W.c0 ?_
       refine W.skip ?_
       exact ⟨rfl, rfl, xs, (by first | (rw [if_pos (by omega)]) | (rw [if_neg (by omega)])), hz, H, rfl, rfl, rfl, rfl, rfl, rfl, rfl⟩
     clear H
     rintro ta _ ⟨z1, hz1, hz, H, e0, e1, e3, e4, e18, e20, e24⟩
     refine W.rst [(0, v1), (1, .int .i64 ((a : Nat) : Int)), (3, .int .i64 ((b : Nat) : Int)), (4, .func (.func 79) #[] #[]), (18, .int .i64 ((md : Nat) : Int)), (20, .int .i64 ((i : Nat) : Int)), (24, .int .i64 ((((md + m) - i) : Nat) : Int))] ⟨e0, e1, e3, e4, e18, e20, e24, trivial⟩ fun TA => ?_
     clear e0 e1 e3 e4 e18 e20 e24
     refine W.join (fun ta σ => ∃ (z2 : List (List UInt8)), (z2 = if a < i ∧ i < md then symM ltS n z1 a i md else z1) ∧ (z2.length = N ∧ ∀ x ∈ z2, x.length ≤ 1000000) ∧ Lies G A F σ (.sl 9 1 v1 N (rowX celS z2) :: (L)) ∧ ta 0 = v1 ∧ ta 3 = .int .i64 ((b : Nat) : Int) ∧ ta 4 = .func (.func 79) #[] #[] ∧ ta 18 = .int .i64 ((md : Nat) : Int) ∧ ta 24 = .int .i64 ((((md + m) - i) : Nat) : Int)) ?_ ?_
     ·refine W.seq (W.region ?_)
      iterate 4 refine RW.v ?_
      refine RW.both _ _ rfl rfl rfl (fun hc92 => ?_) (fun hc92 => ?_)
      ·have hc92b := hc92
       have hc92 := of_decide_eq_true hc92
       iterate 3 refine RW.w ?_
       refine RW.v ?_
       refine RW.nil ?_
       refine W.rg [(0, v1), (1, .int .i64 ((a : Nat) : Int)), (3, .int .i64 ((b : Nat) : Int)), (4, .func (.func 79) #[] #[]), (18, .int .i64 ((md : Nat) : Int)), (20, .int .i64 ((i : Nat) : Int)), (24, .int .i64 ((((md + m) - i) : Nat) : Int)), (199, .bool (decide (((i : Nat) : Int) < ((md : Nat) : Int))))] fun TA => ?_
       refine W.cond rfl (fun hc93 => ?_) (fun hc93 => ?_)
       ·have hc93b := hc93
        have hc93 := of_decide_eq_true hc93
        refine W.region ?_
        iterate 5 refine RW.v ?_
        refine RW.cl ?_
        refine ((ih hz hN (a := a) (m := i) (b := md) (by omega) (by omega) (by omega) (by omega) H).mono ?_)
        clear H
        rintro _ _ H
        replace hz := And.intro ((symM_len (lt := ltS) n z1 a i md).trans hz.1) (symM_small (lt := ltS) n z1 a i md hz.2)
        refine RW.nil ?_
        exact ⟨rfl, rfl, (symM ltS n z1 a i md), (by first | (rw [if_pos (by omega)]) | (rw [if_neg (by omega)])), hz, H, rfl, rfl, rfl, rfl, rfl⟩
       ·have hc93b := hc93
        have hc93 := of_decide_eq_false hc93
        refine W.skip ?_
        exact ⟨rfl, rfl, z1, (by first | (rw [if_pos (by omega)]) | (rw [if_neg (by omega)])), hz, H, rfl, rfl, rfl, rfl, rfl⟩
      ·have hc92b := hc92
       have hc92 := of_decide_eq_false hc92
       iterate 3 refine RW.s ?_
       refine RW.v ?_
       refine RW.nil ?_
       refine W.c0 ?_
       refine W.skip ?_
       exact ⟨rfl, rfl, z1, (by first | (rw [if_pos (by omega)]) | (rw [if_neg (by omega)])), hz, H, rfl, rfl, rfl, rfl, rfl⟩
     clear H
     rintro ta _ ⟨z2, hz2, hz, H, e0, e3, e4, e18, e24⟩
     refine W.rst [(0, v1), (3, .int .i64 ((b : Nat) : Int)), (4, .func (.func 79) #[] #[]), (18, .int .i64 ((md : Nat) : Int)), (24, .int .i64 ((((md + m) - i) : Nat) : Int))] ⟨e0, e3, e4, e18, e24, trivial⟩ fun TA => ?_
     clear e0 e3 e4 e18 e24
     refine W.seq (W.region ?_)
     iterate 4 refine RW.v ?_
     refine RW.both _ _ rfl rfl rfl (fun hc94 => ?_) (fun hc94 => ?_)
     ·have hc94b := hc94
      have hc94 := of_decide_eq_true hc94
      iterate 3 refine RW.w ?_
      refine RW.v ?_
      refine RW.nil ?_
      refine W.rg [(0, v1), (3, .int .i64 ((b : Nat) : Int)), (4, .func (.func 79) #[] #[]), (18, .int .i64 ((md : Nat) : Int)), (24, .int .i64 ((((md + m) - i) : Nat) : Int)), (213, .bool (decide (((((md + m) - i) : Nat) : Int) < ((b : Nat) : Int))))] fun TA => ?_
      refine W.cond rfl (fun hc95 => ?_) (fun hc95 => ?_)
      ·have hc95b := hc95
       have hc95 := of_decide_eq_true hc95
       refine W.region ?_
       iterate 5 refine RW.v ?_
       refine RW.cl ?_
       refine ((ih hz hN (a := md) (m := ((md + m) - i)) (b := b) (by omega) (by omega) (by omega) (by omega) H).mono ?_)
       clear H
       rintro _ _ H
       replace hz := And.intro ((symM_len (lt := ltS) n z2 md ((md + m) - i) b).trans hz.1) (symM_small (lt := ltS) n z2 md ((md + m) - i) b hz.2)
       refine RW.nil ?_
       refine endG (by rfl) (by exact rfl) ?_
       rw [symM_mid (by omega) (by omega) hmd (s := i) (by rw [← hs0, ← hr0]; exact hr3) (e := md + m - i) rfl hz1 hz2 (z3 := (symM ltS n z2 md ((md + m) - i) b)) (by first | (rw [if_pos (by omega)]) | (rw [if_neg (by omega)]))]
       exact H
      ·have hc95b := hc95
       have hc95 := of_decide_eq_false hc95
       refine W.skip ?_
       refine endG (by rfl) (by exact rfl) ?_
       rw [symM_mid (by omega) (by omega) hmd (s := i) (by rw [← hs0, ← hr0]; exact hr3) (e := md + m - i) rfl hz1 hz2 (z3 := z2) (by first | (rw [if_pos (by omega)]) | (rw [if_neg (by omega)]))]
       exact H
     ·have hc94b := hc94
      have hc94 := of_decide_eq_false hc94
      iterate 3 refine RW.s ?_
      refine RW.v ?_
      refine RW.nil ?_
      refine W.c0 ?_
      refine W.skip ?_
      refine endG (by rfl) (by exact rfl) ?_
      rw [symM_mid (by omega) (by omega) hmd (s := i) (by rw [← hs0, ← hr0]; exact hr3) (e := md + m - i) rfl hz1 hz2 (z3 := z2) (by first | (rw [if_pos (by omega)]) | (rw [if_neg (by omega)]))]
      exact H
set_option maxHeartbeats 8000000 in
theorem stableS_wc (hx : xs.length = N ∧ ∀ x ∈ xs, x.length ≤ 1000000) (h40 : N ≤ 40) (H : Lies G A F σ (.sl 9 1 v1 N (rowX celS xs) :: L)) : WC G Tryd.prog 101 #[v1, .int .i64 ((N : Nat) : Int), .func (.func 79) #[] #[]] σ fun _ σ' => Lies G A F σ' (.sl 9 1 v1 N (rowX celS (sortL ltS xs)) :: L) := by
 have hz := hx
 have hN : N ≤ 1000 := by omega
 refine WC.enter (fn := Tryd.f101) Tryd.func101 rfl ?_
 refine W.rg [(0, v1), (1, .int .i64 ((N : Nat) : Int)), (2, .func (.func 79) #[] #[])] fun TA => ?_
 refine W.seq (W.region ?_)
 refine RW.v ?_
 refine RW.nil ?_
 refine W.rg [(0, v1), (1, .int .i64 ((N : Nat) : Int)), (2, .func (.func 79) #[] #[]), (6, .int .i64 20)] fun TA => ?_
 refine W.seq (W.region ?_)
 iterate 3 refine RW.v ?_
 refine RW.nil ?_
 refine W.rg [(0, v1), (1, .int .i64 ((N : Nat) : Int)), (2, .func (.func 79) #[] #[]), (6, .int .i64 20), (7, .int .i64 0), (8, .int .i64 20)] fun TA => ?_
 refine W.seq ?_
 refine W.block ?_
 refine W.unroll (WL.once ?_)
 refine W.seq ?_
 refine W.seq (W.region ?_)
 iterate 3 refine RW.v ?_
 refine RW.nil ?_
 refine W.rg [(0, v1), (1, .int .i64 ((N : Nat) : Int)), (2, .func (.func 79) #[] #[]), (6, .int .i64 20), (7, .int .i64 0), (8, .int .i64 20), (13, .bool (decide (20 ≤ ((N : Nat) : Int))))] fun TA => ?_
 refine W.cond rfl (fun hc1 => ?_) (fun hc1 => ?_)
 ·have hc1b := hc1
  have hc1 := of_decide_eq_true hc1
  refine W.skip ?_
  refine W.block ?_
  refine W.seq (W.region ?_)
  iterate 4 refine RW.v ?_
  refine RW.cl ?_
  refine ((insS_wc (a := 0) (b := 20) hz hN (by omega) (by omega) H).mono ?_)
  clear H
  rintro _ _ H
  replace hz := And.intro ((insO_len (lt := ltS) (a := 0) (20 - (0 + 1)) xs (0 + 1)).trans hz.1) (insO_small (lt := ltS) (a := 0) (20 - (0 + 1)) xs (0 + 1) hz.2)
  refine RW.nil ?_
  refine W.rg [(0, v1), (1, .int .i64 ((N : Nat) : Int)), (2, .func (.func 79) #[] #[]), (6, .int .i64 20), (8, .int .i64 20)] fun TA => ?_
  refine W.seq (W.region ?_)
  iterate 2 refine RW.v ?_
  refine RW.nil ?_
  refine W.rg [(0, v1), (1, .int .i64 ((N : Nat) : Int)), (2, .func (.func 79) #[] #[]), (6, .int .i64 20), (7, .int .i64 20), (8, .int .i64 20)] fun TA => ?_
  refine W.region ?_
  iterate 4 refine RW.v ?_
  refine RW.nil ?_
  refine bQn ?_
  refine WL.once ?_
  refine W.rg [(0, v1), (1, .int .i64 ((N : Nat) : Int)), (2, .func (.func 79) #[] #[]), (6, .int .i64 20), (7, .int .i64 20), (8, .int .i64 40)] fun TA => ?_
  refine W.seq ?_
  refine W.seq (W.region ?_)
  iterate 3 refine RW.v ?_
  refine RW.nil ?_
  refine W.rg [(0, v1), (1, .int .i64 ((N : Nat) : Int)), (2, .func (.func 79) #[] #[]), (6, .int .i64 20), (7, .int .i64 20), (8, .int .i64 40), (13, .bool (decide (40 ≤ ((N : Nat) : Int))))] fun TA => ?_
  refine W.cond rfl (fun hc2 => ?_) (fun hc2 => ?_)
  ·have hc2b := hc2
   have hc2 := of_decide_eq_true hc2
   refine W.skip ?_
   refine W.block ?_
   refine W.seq (W.region ?_)
   iterate 4 refine RW.v ?_
   refine RW.cl ?_
   refine ((insS_wc (a := 20) (b := 40) hz hN (by omega) (by omega) H).mono ?_)
   clear H
   rintro _ _ H
   replace hz := And.intro ((insO_len (lt := ltS) (a := 20) (40 - (20 + 1)) (insO ltS 0 (20 - (0 + 1)) xs (0 + 1)) (20 + 1)).trans hz.1) (insO_small (lt := ltS) (a := 20) (40 - (20 + 1)) (insO ltS 0 (20 - (0 + 1)) xs (0 + 1)) (20 + 1) hz.2)
   refine RW.nil ?_
   refine W.rg [(0, v1), (1, .int .i64 ((N : Nat) : Int)), (2, .func (.func 79) #[] #[]), (6, .int .i64 20), (8, .int .i64 40)] fun TA => ?_
   refine W.seq (W.region ?_)
   iterate 2 refine RW.v ?_
   refine RW.nil ?_
   refine W.rg [(0, v1), (1, .int .i64 ((N : Nat) : Int)), (2, .func (.func 79) #[] #[]), (6, .int .i64 20), (7, .int .i64 40), (8, .int .i64 40)] fun TA => ?_
   refine W.region ?_
   iterate 4 refine RW.v ?_
   refine RW.nil ?_
   refine bQn ?_
   refine WL.once ?_
   refine W.rg [(0, v1), (1, .int .i64 ((N : Nat) : Int)), (2, .func (.func 79) #[] #[]), (6, .int .i64 20), (7, .int .i64 40), (8, .int .i64 60)] fun TA => ?_
   refine W.seq ?_
   refine W.seq (W.region ?_)
   iterate 2 refine RW.v ?_
   refine RW.valE (v' := .bool false) (by kernel_rfl) (by kernel_rfl) rfl (congrArg Value.bool (decide_eq_false (by omega))) (by kernel_rfl) ?_
   refine RW.nil ?_
   refine W.c0 ?_
   refine W.exit _ ?_
   refine seqQ_exit ?_
   refine onceQ_exit ?_
   refine blkQ_here ?_
   refine W.seq (W.region ?_)
   iterate 4 refine RW.v ?_
   refine RW.cl ?_
   refine ((insS_wc (a := 40) (b := N) hz hN (by omega) (by omega) H).mono ?_)
   clear H
   rintro _ _ H
   replace hz := And.intro ((insO_len (lt := ltS) (a := 40) (N - (40 + 1)) (insO ltS 20 (40 - (20 + 1)) (insO ltS 0 (20 - (0 + 1)) xs (0 + 1)) (20 + 1)) (40 + 1)).trans hz.1) (insO_small (lt := ltS) (a := 40) (N - (40 + 1)) (insO ltS 20 (40 - (20 + 1)) (insO ltS 0 (20 - (0 + 1)) xs (0 + 1)) (20 + 1)) (40 + 1) hz.2)
   refine RW.nil ?_
   refine W.rg [(0, v1), (1, .int .i64 ((N : Nat) : Int)), (2, .func (.func 79) #[] #[]), (6, .int .i64 20)] fun TA => ?_
   refine W.block ?_
   refine W.unroll (WL.once ?_)
   refine W.seq ?_
   refine W.seq (W.region ?_)
   iterate 2 refine RW.v ?_
   refine RW.valE (v' := .bool true) (by kernel_rfl) (by kernel_rfl) rfl (congrArg Value.bool (decide_eq_true (by omega))) (by kernel_rfl) ?_
   refine RW.nil ?_
   refine W.c1 ?_
   refine W.skip ?_
   refine W.block ?_
   refine W.seq (W.region ?_)
   iterate 4 refine RW.v ?_
   refine RW.nil ?_
   refine W.rg [(0, v1), (1, .int .i64 ((N : Nat) : Int)), (2, .func (.func 79) #[] #[]), (6, .int .i64 20), (7, .int .i64 0), (8, .int .i64 40)] fun TA => ?_
   refine W.seq ?_
   refine W.block ?_
   refine W.unroll (WL.once ?_)
   refine W.seq ?_
   refine W.seq (W.region ?_)
   iterate 2 refine RW.v ?_
   refine RW.valE (v' := .bool true) (by kernel_rfl) (by kernel_rfl) rfl (congrArg Value.bool (decide_eq_true (by omega))) (by kernel_rfl) ?_
   refine RW.nil ?_
   refine W.c1 ?_
   refine W.skip ?_
   refine W.block ?_
   refine W.seq (W.region ?_)
   iterate 7 refine RW.v ?_
   refine RW.cl ?_
   refine ((symS_wc 1000 hz hN (a := 0) (m := 20) (b := 40) (by omega) (by omega) (by omega) (by omega) H).mono ?_)
   clear H
   rintro _ _ H
   replace hz := And.intro ((symM_len (lt := ltS) 1000 (insO ltS 40 (N - (40 + 1)) (insO ltS 20 (40 - (20 + 1)) (insO ltS 0 (20 - (0 + 1)) xs (0 + 1)) (20 + 1)) (40 + 1)) 0 20 40).trans hz.1) (symM_small (lt := ltS) 1000 (insO ltS 40 (N - (40 + 1)) (insO ltS 20 (40 - (20 + 1)) (insO ltS 0 (20 - (0 + 1)) xs (0 + 1)) (20 + 1)) (40 + 1)) 0 20 40 hz.2)
   refine RW.nil ?_
   refine W.rg [(0, v1), (1, .int .i64 ((N : Nat) : Int)), (2, .func (.func 79) #[] #[]), (6, .int .i64 20), (8, .int .i64 40)] fun TA => ?_
   refine W.seq (W.region ?_)
   iterate 2 refine RW.v ?_
   refine RW.nil ?_
   refine W.rg [(0, v1), (1, .int .i64 ((N : Nat) : Int)), (2, .func (.func 79) #[] #[]), (6, .int .i64 20), (7, .int .i64 40), (8, .int .i64 40)] fun TA => ?_
   refine W.region ?_
   iterate 5 refine RW.v ?_
   refine RW.nil ?_
   refine bQn ?_
   refine WL.once ?_
   refine W.rg [(0, v1), (1, .int .i64 ((N : Nat) : Int)), (2, .func (.func 79) #[] #[]), (6, .int .i64 20), (7, .int .i64 40), (8, .int .i64 80)] fun TA => ?_
   refine W.seq ?_
   refine W.seq (W.region ?_)
   iterate 2 refine RW.v ?_
   refine RW.valE (v' := .bool false) (by kernel_rfl) (by kernel_rfl) rfl (congrArg Value.bool (decide_eq_false (by omega))) (by kernel_rfl) ?_
   refine RW.nil ?_
   refine W.c0 ?_
   refine W.exit _ ?_
   refine seqQ_exit ?_
   refine onceQ_exit ?_
   refine blkQ_here ?_
   refine W.seq ?_
   refine W.seq (W.region ?_)
   iterate 4 refine RW.v ?_
   refine RW.nil ?_
   refine W.rg [(0, v1), (1, .int .i64 ((N : Nat) : Int)), (2, .func (.func 79) #[] #[]), (6, .int .i64 20), (7, .int .i64 40), (9, .int .i64 60)] fun TA => ?_
   refine W.seq (W.region ?_)
   iterate 2 refine RW.v ?_
   refine RW.valE (v' := .bool false) (by kernel_rfl) (by kernel_rfl) rfl (congrArg Value.bool (decide_eq_false (by omega))) (by kernel_rfl) ?_
   refine RW.nil ?_
   refine W.c0 ?_
   refine W.skip ?_
   refine W.region ?_
   iterate 3 refine RW.v ?_
   refine RW.nil ?_
   refine bQn ?_
   refine WL.once ?_
   refine W.rg [(0, v1), (1, .int .i64 ((N : Nat) : Int)), (2, .func (.func 79) #[] #[]), (6, .int .i64 40)] fun TA => ?_
   refine W.seq ?_
   refine W.seq (W.region ?_)
   iterate 2 refine RW.v ?_
   refine RW.valE (v' := .bool false) (by kernel_rfl) (by kernel_rfl) rfl (congrArg Value.bool (decide_eq_false (by omega))) (by kernel_rfl) ?_
   refine RW.nil ?_
   refine W.c0 ?_
   refine W.exit _ ?_
   refine seqQ_exit ?_
   refine onceQ_exit ?_
   refine blkQ_here ?_
   refine endG (by rfl) (by exact rfl) ?_
   rw [← stab_40 ltS_ord hx.1 (by omega)]
   exact H
  ·have hc2b := hc2
   have hc2 := of_decide_eq_false hc2
   refine W.exit _ ?_
   refine seqQ_exit ?_
   refine onceQ_exit ?_
   refine blkQ_here ?_
   refine W.seq (W.region ?_)
   iterate 4 refine RW.v ?_
   refine RW.cl ?_
   refine ((insS_wc (a := 20) (b := N) hz hN (by omega) (by omega) H).mono ?_)
   clear H
   rintro _ _ H
   replace hz := And.intro ((insO_len (lt := ltS) (a := 20) (N - (20 + 1)) (insO ltS 0 (20 - (0 + 1)) xs (0 + 1)) (20 + 1)).trans hz.1) (insO_small (lt := ltS) (a := 20) (N - (20 + 1)) (insO ltS 0 (20 - (0 + 1)) xs (0 + 1)) (20 + 1) hz.2)
   refine RW.nil ?_
   refine W.rg [(0, v1), (1, .int .i64 ((N : Nat) : Int)), (2, .func (.func 79) #[] #[]), (6, .int .i64 20)] fun TA => ?_
   refine W.block ?_
   refine W.unroll (WL.once ?_)
   refine W.seq ?_
   refine W.seq (W.region ?_)
   iterate 3 refine RW.v ?_
   refine RW.nil ?_
   refine W.rg [(0, v1), (1, .int .i64 ((N : Nat) : Int)), (2, .func (.func 79) #[] #[]), (6, .int .i64 20), (30, .bool (decide (20 < ((N : Nat) : Int))))] fun TA => ?_
   refine W.cond rfl (fun hc3 => ?_) (fun hc3 => ?_)
   ·have hc3b := hc3
    have hc3 := of_decide_eq_true hc3
    refine W.skip ?_
    refine W.block ?_
    refine W.seq (W.region ?_)
    iterate 4 refine RW.v ?_
    refine RW.nil ?_
    refine W.rg [(0, v1), (1, .int .i64 ((N : Nat) : Int)), (2, .func (.func 79) #[] #[]), (6, .int .i64 20), (7, .int .i64 0), (8, .int .i64 40)] fun TA => ?_
    refine W.seq ?_
    refine W.block ?_
    refine W.unroll (WL.once ?_)
    refine W.seq ?_
    refine W.seq (W.region ?_)
    iterate 2 refine RW.v ?_
    refine RW.valE (v' := .bool false) (by kernel_rfl) (by kernel_rfl) rfl (congrArg Value.bool (decide_eq_false (by omega))) (by kernel_rfl) ?_
    refine RW.nil ?_
    refine W.c0 ?_
    refine W.exit _ ?_
    refine seqQ_exit ?_
    refine onceQ_exit ?_
    refine blkQ_here ?_
    refine W.seq ?_
    refine W.seq (W.region ?_)
    iterate 4 refine RW.v ?_
    refine RW.nil ?_
    refine W.rg [(0, v1), (1, .int .i64 ((N : Nat) : Int)), (2, .func (.func 79) #[] #[]), (6, .int .i64 20), (7, .int .i64 0), (9, .int .i64 20)] fun TA => ?_
    refine W.seq (W.region ?_)
    iterate 2 refine RW.v ?_
    refine RW.valE (v' := .bool true) (by kernel_rfl) (by kernel_rfl) rfl (congrArg Value.bool (decide_eq_true (by omega))) (by kernel_rfl) ?_
    refine RW.nil ?_
    refine W.c1 ?_
    refine W.region ?_
    iterate 5 refine RW.v ?_
    refine RW.cl ?_
    refine ((symS_wc 1000 hz hN (a := 0) (m := 20) (b := N) (by omega) (by omega) (by omega) (by omega) H).mono ?_)
    clear H
    rintro _ _ H
    replace hz := And.intro ((symM_len (lt := ltS) 1000 (insO ltS 20 (N - (20 + 1)) (insO ltS 0 (20 - (0 + 1)) xs (0 + 1)) (20 + 1)) 0 20 N).trans hz.1) (symM_small (lt := ltS) 1000 (insO ltS 20 (N - (20 + 1)) (insO ltS 0 (20 - (0 + 1)) xs (0 + 1)) (20 + 1)) 0 20 N hz.2)
    refine RW.nil ?_
    refine W.rg [(0, v1), (1, .int .i64 ((N : Nat) : Int)), (2, .func (.func 79) #[] #[]), (6, .int .i64 20)] fun TA => ?_
    refine W.region ?_
    iterate 3 refine RW.v ?_
    refine RW.nil ?_
    refine bQn ?_
    refine WL.once ?_
    refine W.rg [(0, v1), (1, .int .i64 ((N : Nat) : Int)), (2, .func (.func 79) #[] #[]), (6, .int .i64 40)] fun TA => ?_
    refine W.seq ?_
    refine W.seq (W.region ?_)
    iterate 2 refine RW.v ?_
    refine RW.valE (v' := .bool false) (by kernel_rfl) (by kernel_rfl) rfl (congrArg Value.bool (decide_eq_false (by omega))) (by kernel_rfl) ?_
    refine RW.nil ?_
    refine W.c0 ?_
    refine W.exit _ ?_
    refine seqQ_exit ?_
    refine onceQ_exit ?_
    refine blkQ_here ?_
    refine endG (by rfl) (by exact rfl) ?_
    rw [← stab_more ltS_ord hx.1 (by omega) h40]
    exact H
   ·have hc3b := hc3
    have hc3 := of_decide_eq_false hc3
    refine W.exit _ ?_
    refine seqQ_exit ?_
    refine onceQ_exit ?_
    refine blkQ_here ?_
    refine endG (by rfl) (by exact rfl) ?_
    rw [← stab_20 ltS_ord hx.1 (by omega)]
    exact H
 ·have hc1b := hc1
  have hc1 := of_decide_eq_false hc1
  refine W.exit _ ?_
  refine seqQ_exit ?_
  refine onceQ_exit ?_
  refine blkQ_here ?_
  refine W.seq (W.region ?_)
  iterate 4 refine RW.v ?_
  refine RW.cl ?_
  refine ((insS_wc (a := 0) (b := N) hz hN (by omega) (by omega) H).mono ?_)
  clear H
  rintro _ _ H
  replace hz := And.intro ((insO_len (lt := ltS) (a := 0) (N - (0 + 1)) xs (0 + 1)).trans hz.1) (insO_small (lt := ltS) (a := 0) (N - (0 + 1)) xs (0 + 1) hz.2)
  refine RW.nil ?_
  refine W.rg [(0, v1), (1, .int .i64 ((N : Nat) : Int)), (2, .func (.func 79) #[] #[]), (6, .int .i64 20)] fun TA => ?_
  refine W.block ?_
  refine W.unroll (WL.once ?_)
  refine W.seq ?_
  refine W.seq (W.region ?_)
  iterate 2 refine RW.v ?_
  refine RW.valE (v' := .bool false) (by kernel_rfl) (by kernel_rfl) rfl (congrArg Value.bool (decide_eq_false (by omega))) (by kernel_rfl) ?_
  refine RW.nil ?_
  refine W.c0 ?_
  refine W.exit _ ?_
  refine seqQ_exit ?_
  refine onceQ_exit ?_
  refine blkQ_here ?_
  refine endG (by rfl) (by exact rfl) ?_
  rw [← stab_one ltS_ord hx.1]
  exact H
set_option maxHeartbeats 8000000 in
theorem sortS_wc (hx : xs.length = N ∧ ∀ x ∈ xs, x.length ≤ 1000000) (h40 : N ≤ 40) (H : Lies G A F σ (.sl 9 1 v1 N (rowX celS xs) :: L)) : WC G Tryd.prog 78 #[v1, .func (.func 79) #[] #[]] σ fun _ σ' => Lies G A F σ' (.sl 9 1 v1 N (rowX celS (sortL ltS xs)) :: L) := by
 refine WC.enter (fn := Tryd.f78) Tryd.func78 rfl ?_
 refine W.rg [(0, v1), (1, .func (.func 79) #[] #[])] fun TA => ?_
 refine W.region ?_
 iterate 2 refine RW.v ?_
 refine RW.len (by kernel_rfl) (by kernel_rfl) rfl rfl rfl rfl ((H.sl 0 rfl).len (by kernel_rfl)) (by kernel_rfl) ?_
 refine RW.v ?_
 refine RW.cl ?_
 refine ((stableS_wc hx h40 H).mono ?_)
 clear H
 rintro _ _ H
 refine RW.nil ?_
 refine endG (by rfl) (by exact rfl) ?_
 exact H
end
end Go.Proofs.YtjcmdifpkafdkaaDoor
