/-
 sequence. Conditions: none.
 escaped of any bytes. Conditions: the two tables lie.
 Decode of any bytes. Conditions: the two tables lie.
-/
import Derived.Test.YtpjpefcpbkmilaaDoorKpd
import Derived.Test.YtpjpefcpbkmilaaDoorCld
import Derived.Test.YtpjpefcpbkmilaaDoorK1
namespace Go.Proofs.YtpjpefcpbkmilaaDoor
open Go.Lib
set_option maxRecDepth 100000
theorem isB_key {c : Int} (h0 : 2097152 < c) (h1 : c ≤ 2097179) : IsB c := .inr ⟨h0, h1⟩
theorem letterM_two (c : Nat) : letterM c = -1 ∨ (2097153 ≤ letterM c ∧ letterM c ≤ 2097179) := by
 unfold letterM
 repeat' split
 all_goals first | exact .inl rfl | exact .inr ⟨by decide, by decide⟩
theorem numM_two (l : List UInt8) : numM l = -1 ∨ (2097153 ≤ numM l ∧ numM l ≤ 2097179) := by
 unfold numM
 by_cases k0 : [49] = l
 ·rw [if_pos k0]
  exact .inr ⟨by decide, by decide⟩
 rw [if_neg k0]
 by_cases k1 : [50] = l
 ·rw [if_pos k1]
  exact .inr ⟨by decide, by decide⟩
 rw [if_neg k1]
 by_cases k2 : [51] = l
 ·rw [if_pos k2]
  exact .inr ⟨by decide, by decide⟩
 rw [if_neg k2]
 by_cases k3 : [52] = l
 ·rw [if_pos k3]
  exact .inr ⟨by decide, by decide⟩
 rw [if_neg k3]
 by_cases k4 : [53] = l
 ·rw [if_pos k4]
  exact .inr ⟨by decide, by decide⟩
 rw [if_neg k4]
 by_cases k5 : [54] = l
 ·rw [if_pos k5]
  exact .inr ⟨by decide, by decide⟩
 rw [if_neg k5]
 by_cases k6 : [49, 49] = l
 ·rw [if_pos k6]
  exact .inr ⟨by decide, by decide⟩
 rw [if_neg k6]
 by_cases k7 : [49, 50] = l
 ·rw [if_pos k7]
  exact .inr ⟨by decide, by decide⟩
 rw [if_neg k7]
 by_cases k8 : [49, 51] = l
 ·rw [if_pos k8]
  exact .inr ⟨by decide, by decide⟩
 rw [if_neg k8]
 by_cases k9 : [49, 52] = l
 ·rw [if_pos k9]
  exact .inr ⟨by decide, by decide⟩
 rw [if_neg k9]
 by_cases k10 : [49, 53] = l
 ·rw [if_pos k10]
  exact .inr ⟨by decide, by decide⟩
 rw [if_neg k10]
 by_cases k11 : [49, 55] = l
 ·rw [if_pos k11]
  exact .inr ⟨by decide, by decide⟩
 rw [if_neg k11]
 by_cases k12 : [49, 56] = l
 ·rw [if_pos k12]
  exact .inr ⟨by decide, by decide⟩
 rw [if_neg k12]
 by_cases k13 : [49, 57] = l
 ·rw [if_pos k13]
  exact .inr ⟨by decide, by decide⟩
 rw [if_neg k13]
 by_cases k14 : [50, 48] = l
 ·rw [if_pos k14]
  exact .inr ⟨by decide, by decide⟩
 rw [if_neg k14]
 by_cases k15 : [50, 49] = l
 ·rw [if_pos k15]
  exact .inr ⟨by decide, by decide⟩
 rw [if_neg k15]
 by_cases k16 : [50, 51] = l
 ·rw [if_pos k16]
  exact .inr ⟨by decide, by decide⟩
 rw [if_neg k16]
 by_cases k17 : [50, 52] = l
 ·rw [if_pos k17]
  exact .inr ⟨by decide, by decide⟩
 rw [if_neg k17]
 exact .inl rfl
theorem baseM_two (l : List UInt8) (fin : Nat) : baseM l fin = -1 ∨ (2097153 ≤ baseM l fin ∧ baseM l fin ≤ 2097179) := by
 unfold baseM
 split
 ·exact numM_two _
 ·split
  ·exact .inl rfl
  ·split
   ·exact .inr ⟨by decide, by decide⟩
   ·exact letterM_two _
theorem baseM_isB {l : List UInt8} {fin : Nat} (h : 0 ≤ baseM l fin) : IsB (baseM l fin) := by
 rcases baseM_two l fin with k | k
 ·omega
 ·exact isB_key (by omega) k.2
section
variable {G : Nat} {A : Abs} {σ : Mem} {F : Nat → Option Blk2} {L : List Ent}
set_option maxHeartbeats 16000000 in
theorem seq_wc {bs : List UInt8} {fin : Nat} (hn : bs.length ≤ 1000000) (H : Lies G A F σ L) : WC G Tryd.prog 59 #[.string ⟨bs.toArray⟩, .int .u8 ((fin : Nat) : Int)] σ fun r σ' => r = .int .i64 (seqM bs fin) ∧ Lies G A F σ' L := by
 refine WC.enter (fn := Tryd.f59) Tryd.func59 rfl ?_
 refine W.rg [(0, .string ⟨bs.toArray⟩), (1, .int .u8 ((fin : Nat) : Int))] fun TA => ?_
 refine W.seq (W.region ?_)
 refine RW.v ?_
 refine RW.nil ?_
 refine W.rg [(0, .string ⟨bs.toArray⟩), (1, .int .u8 ((fin : Nat) : Int))] fun TA => ?_
 refine W.seq (W.region ?_)
 refine RW.v ?_
 refine RW.cl ?_
 refine ((cut_wc hn H).mono ?_)
 clear H
 rintro _ _ ⟨rfl, H⟩
 iterate 7 refine RW.v ?_
 refine RW.nil ?_
 refine W.rg [(0, .string ⟨bs.toArray⟩), (1, .int .u8 ((fin : Nat) : Int)), (5, .string ⟨((cutM bs).1).toArray⟩), (6, .string ⟨((cutM bs).2.1).toArray⟩), (7, .bool ((cutM bs).2.2))] fun TA => ?_
 refine W.seq (W.region ?_)
 refine RW.v ?_
 refine RW.nil ?_
 refine W.rg [(0, .string ⟨bs.toArray⟩), (1, .int .u8 ((fin : Nat) : Int)), (5, .string ⟨((cutM bs).1).toArray⟩), (6, .string ⟨((cutM bs).2.1).toArray⟩), (7, .bool ((cutM bs).2.2)), (8, .int .i64 (-1))] fun TA => ?_
 refine W.join (fun ta σ => ∃ (bv : Int), (bv = baseM bs fin) ∧ Lies G A F σ ((L)) ∧ ta 6 = .string ⟨((cutM bs).2.1).toArray⟩ ∧ ta 7 = .bool ((cutM bs).2.2) ∧ ta 8 = .int .i64 bv) ?_ ?_
 ·refine W.block ?_
  refine W.seq (W.region ?_)
  iterate 3 refine RW.v ?_
  refine RW.nil ?_
  refine W.rg [(0, .string ⟨bs.toArray⟩), (1, .int .u8 ((fin : Nat) : Int)), (5, .string ⟨((cutM bs).1).toArray⟩), (6, .string ⟨((cutM bs).2.1).toArray⟩), (7, .bool ((cutM bs).2.2)), (8, .int .i64 (-1)), (22, .bool (((fin : Nat) : Int) == 126))] fun TA => ?_
  refine W.cond rfl (fun hc1 => ?_) (fun hc1 => ?_)
  ·have hc1b := hc1
   have hc1 := eq_of_beq hc1
   refine W.region ?_
   refine RW.v ?_
   refine RW.cl ?_
   refine ((num_wc (bs := (cutM bs).1) H).mono ?_)
   clear H
   rintro _ _ ⟨rfl, H⟩
   refine RW.v ?_
   refine RW.nil ?_
   refine blkQ_normal ?_
   exact ⟨rfl, rfl, (numM (cutM bs).1), (by symm; unfold baseM; rw [if_pos (by omega)]), H, rfl, rfl, rfl⟩
  ·have hc1b := hc1
   have hc1 := ne_of_beq_false hc1
   refine W.seq (W.region ?_)
   refine RW.v ?_
   refine RW.vop (v := .bool (bs != ([] : List UInt8))) (by kernel_rfl) (by kernel_rfl) (vop_sNe rfl rfl rfl rfl) (by kernel_rfl) ?_
   refine RW.v ?_
   refine RW.both _ _ rfl rfl rfl (fun hc2 => ?_) (fun hc2 => ?_)
   ·have hc2b := hc2
    have hc2 := bne_iff_ne.1 hc2
    have g1 : bs ≠ [] := by simpa using hc2b
    refine RW.val (by rfl) (by kernel_rfl) rfl (by kernel_rfl) ?_
    refine RW.vop (v := .bool (((cutM bs).1) == ([49] : List UInt8))) (by rfl) (by kernel_rfl) (vop_sEq rfl rfl rfl rfl) (by kernel_rfl) ?_
    refine RW.val (by rfl) (by kernel_rfl) rfl (by kernel_rfl) ?_
    refine RW.both _ _ rfl rfl rfl (fun hc3 => ?_) (fun hc3 => ?_)
    ·have hc3b := hc3
     have hc3 := eq_of_beq hc3
     have g2 : (cutM bs).1 = [49] := by exact eq_of_beq hc3b
     refine RW.val (by rfl) (by kernel_rfl) rfl (by kernel_rfl) ?_
     refine RW.val (by rfl) (by kernel_rfl) rfl (by kernel_rfl) ?_
     refine RW.val (by rfl) (by kernel_rfl) rfl (by kernel_rfl) ?_
     iterate 2 refine RW.v ?_
     refine RW.nil ?_
     refine W.rg [(1, .int .u8 ((fin : Nat) : Int)), (6, .string ⟨((cutM bs).2.1).toArray⟩), (7, .bool ((cutM bs).2.2)), (8, .int .i64 (-1)), (27, .bool (!((cutM bs).2.2)))] fun TA => ?_
     refine W.cond rfl (fun hc4 => ?_) (fun hc4 => ?_)
     ·have hc4b := hc4
      have g3 : (cutM bs).2.2 = false := by simpa using hc4b
      refine W.skip ?_
      refine blkQ_normal ?_
      exact ⟨rfl, rfl, -1, (by symm; unfold baseM; rw [if_neg (by omega), if_pos ⟨g1, fun k => by rw [g3] at k; exact absurd k.2 (by decide)⟩]), H, rfl, rfl, rfl⟩
     ·have hc4b := hc4
      have g3 : (cutM bs).2.2 = true := by simpa using hc4b
      refine W.seq (W.region ?_)
      iterate 3 refine RW.v ?_
      refine RW.nil ?_
      refine W.rg [(1, .int .u8 ((fin : Nat) : Int)), (6, .string ⟨((cutM bs).2.1).toArray⟩), (7, .bool ((cutM bs).2.2)), (38, .bool (((fin : Nat) : Int) == 90))] fun TA => ?_
      refine W.cond rfl (fun hc5 => ?_) (fun hc5 => ?_)
      ·have hc5b := hc5
       have hc5 := eq_of_beq hc5
       refine W.region ?_
       refine RW.cl ?_
       refine ((table_wc (Lies.start H.gn H.abs)).mono ?_)
       rintro _ _ ⟨mb6, rfl, K7⟩
       have H : Lies G (A) F _ (.at_ mb6 (.ents tabE 27) :: (L)) := Lies.then H K7
       refine RW.lkL H 0 (.int .i64 2097179) ?_
       refine RW.v ?_
       refine RW.nil ?_
       replace H := (H.del 0)
       dsimp only [setL, delL] at H
       refine blkQ_normal ?_
       exact ⟨rfl, rfl, 2097179, (by symm; unfold baseM; rw [if_neg (by omega), if_neg (fun k => k.2 ⟨g2, g3⟩), if_pos (by omega)]), H, rfl, rfl, rfl⟩
      ·have hc5b := hc5
       have hc5 := ne_of_beq_false hc5
       refine W.region ?_
       refine RW.v ?_
       refine RW.cl ?_
       refine ((letter_wc (c := fin) H).mono ?_)
       clear H
       rintro _ _ ⟨rfl, H⟩
       refine RW.v ?_
       refine RW.nil ?_
       refine blkQ_normal ?_
       exact ⟨rfl, rfl, (letterM fin), (by symm; unfold baseM; rw [if_neg (by omega), if_neg (fun k => k.2 ⟨g2, g3⟩), if_neg (by omega)]), H, rfl, rfl, rfl⟩
    ·have hc3b := hc3
     have hc3 := ne_of_beq_false hc3
     have g2 : (cutM bs).1 ≠ [49] := by exact ne_of_beq_false hc3b
     refine RW.skip (by rfl) (by kernel_rfl) ?_
     refine RW.val (by rfl) (by kernel_rfl) rfl (by kernel_rfl) ?_
     refine RW.val (by rfl) (by kernel_rfl) rfl (by kernel_rfl) ?_
     iterate 2 refine RW.v ?_
     refine RW.nil ?_
     refine W.c1 ?_
     refine W.skip ?_
     refine blkQ_normal ?_
     exact ⟨rfl, rfl, -1, (by symm; unfold baseM; rw [if_neg (by omega), if_pos ⟨g1, fun k => g2 k.1⟩]), H, rfl, rfl, rfl⟩
   ·have hc2b := hc2
    have hc2 := (bne_eq_false_iff_eq.1) hc2
    have g1 : bs = [] := by simpa using hc2b
    refine RW.skip (by rfl) (by kernel_rfl) ?_
    refine RW.skip (by rfl) (by kernel_rfl) ?_
    refine RW.skip (by rfl) (by kernel_rfl) ?_
    refine RW.skip (by rfl) (by kernel_rfl) ?_
    refine RW.skip (by rfl) (by kernel_rfl) ?_
    refine RW.skip (by rfl) (by kernel_rfl) ?_
    iterate 2 refine RW.v ?_
    refine RW.nil ?_
    refine W.c0 ?_
    refine W.seq (W.region ?_)
    iterate 3 refine RW.v ?_
    refine RW.nil ?_
    refine W.rg [(1, .int .u8 ((fin : Nat) : Int)), (6, .string ⟨((cutM bs).2.1).toArray⟩), (7, .bool ((cutM bs).2.2)), (38, .bool (((fin : Nat) : Int) == 90))] fun TA => ?_
    refine W.cond rfl (fun hc8 => ?_) (fun hc8 => ?_)
    ·have hc8b := hc8
     have hc8 := eq_of_beq hc8
     refine W.region ?_
     refine RW.cl ?_
     refine ((table_wc (Lies.start H.gn H.abs)).mono ?_)
     rintro _ _ ⟨mb9, rfl, K10⟩
     have H : Lies G (A) F _ (.at_ mb9 (.ents tabE 27) :: (L)) := Lies.then H K10
     refine RW.lkL H 0 (.int .i64 2097179) ?_
     refine RW.v ?_
     refine RW.nil ?_
     replace H := (H.del 0)
     dsimp only [setL, delL] at H
     refine blkQ_normal ?_
     exact ⟨rfl, rfl, 2097179, (by symm; unfold baseM; rw [if_neg (by omega), if_neg (fun k => k.1 g1), if_pos (by omega)]), H, rfl, rfl, rfl⟩
    ·have hc8b := hc8
     have hc8 := ne_of_beq_false hc8
     refine W.region ?_
     refine RW.v ?_
     refine RW.cl ?_
     refine ((letter_wc (c := fin) H).mono ?_)
     clear H
     rintro _ _ ⟨rfl, H⟩
     refine RW.v ?_
     refine RW.nil ?_
     refine blkQ_normal ?_
     exact ⟨rfl, rfl, (letterM fin), (by symm; unfold baseM; rw [if_neg (by omega), if_neg (fun k => k.1 g1), if_neg (by omega)]), H, rfl, rfl, rfl⟩
 clear H
 rintro ta _ ⟨bv, hbv, H, e6, e7, e8⟩
 refine W.rst [(6, .string ⟨((cutM bs).2.1).toArray⟩), (7, .bool ((cutM bs).2.2)), (8, .int .i64 bv)] ⟨e6, e7, e8, trivial⟩ fun TA => ?_
 clear e6 e7 e8
 refine W.seq ?_
 refine W.seq (W.region ?_)
 iterate 3 refine RW.v ?_
 refine RW.both _ _ rfl rfl rfl (fun hc11 => ?_) (fun hc11 => ?_)
 ·have hc11b := hc11
  have hc11 := of_decide_eq_true hc11
  refine RW.skip (by rfl) (by kernel_rfl) ?_
  refine RW.skip (by rfl) (by kernel_rfl) ?_
  refine RW.v ?_
  refine RW.nil ?_
  refine W.c1 ?_
  refine W.seq (W.region ?_)
  iterate 2 refine RW.v ?_
  refine RW.nil ?_
  refine W.ret ?_
  refine seqQ_ret ?_
  refine endG (by rfl) (by exact resL_tmp rfl) ?_
  have es : seqM bs fin = bv := by unfold seqM; rw [← hbv, if_pos (by first | exact .inl (by omega) | exact .inr g3)]
  rw [es]
  exact ⟨rfl, H⟩
 ·have hc11b := hc11
  have hc11 := of_decide_eq_false hc11
  refine RW.val (by rfl) (by kernel_rfl) rfl (by kernel_rfl) ?_
  refine RW.val (by rfl) (by kernel_rfl) rfl (by kernel_rfl) ?_
  refine RW.v ?_
  refine RW.nil ?_
  refine W.rg [(6, .string ⟨((cutM bs).2.1).toArray⟩), (8, .int .i64 bv), (48, .bool (!((cutM bs).2.2)))] fun TA => ?_
  refine W.cond rfl (fun hc12 => ?_) (fun hc12 => ?_)
  ·have hc12b := hc12
   have g3 : (cutM bs).2.2 = false := by simpa using hc12b
   refine W.seq (W.region ?_)
   iterate 2 refine RW.v ?_
   refine RW.nil ?_
   refine W.ret ?_
   refine seqQ_ret ?_
   refine endG (by rfl) (by exact resL_tmp rfl) ?_
   have es : seqM bs fin = bv := by unfold seqM; rw [← hbv, if_pos (by first | exact .inl (by omega) | exact .inr g3)]
   rw [es]
   exact ⟨rfl, H⟩
  ·have hc12b := hc12
   have g3 : (cutM bs).2.2 = true := by simpa using hc12b
   refine W.skip ?_
   refine W.seq ?_
   refine W.seq (W.region ?_)
   refine RW.v ?_
   refine RW.vop (v := .int .i64 (((cutM bs).2.1).length : Int)) (by kernel_rfl) (by kernel_rfl) (vop_sLenL rfl rfl rfl rfl Tryd.underlying9 rfl) (by kernel_rfl) ?_
   iterate 2 refine RW.v ?_
   refine RW.both _ _ rfl rfl rfl (fun hc13 => ?_) (fun hc13 => ?_)
   ·have hc13b := hc13
    have hc13 := bne_iff_ne.1 hc13
    refine RW.skip (by rfl) (by kernel_rfl) ?_
    refine RW.skip (by rfl) (by kernel_rfl) ?_
    refine RW.skip (by rfl) (by kernel_rfl) ?_
    iterate 2 refine RW.v ?_
    refine RW.skip (by rfl) (by kernel_rfl) ?_
    refine RW.skip (by rfl) (by kernel_rfl) ?_
    refine RW.skip (by rfl) (by kernel_rfl) ?_
    refine RW.v ?_
    refine RW.nil ?_
    refine W.c1 ?_
    refine W.seq (W.region ?_)
    refine RW.v ?_
    refine RW.nil ?_
    refine W.ret ?_
    refine seqQ_ret ?_
    refine endG (by rfl) (by exact resL_tmp rfl) ?_
    have es : seqM bs fin = -1 := by unfold seqM; rw [← hbv, if_neg (fun k => k.elim (fun k => by omega) fun k => by rw [g3] at k; cases k), if_pos (by omega)]
    rw [es]
    exact ⟨rfl, H⟩
   ·have hc13b := hc13
    have hc13 := (bne_eq_false_iff_eq.1) hc13
    refine RW.val (by rfl) (by kernel_rfl) rfl (by kernel_rfl) ?_
    refine RW.vop (v := .int .u8 ((((cutM bs).2.1).getD 0 0).toNat : Int)) (by rfl) (by kernel_rfl) (vop_sAtL (a := (cutM bs).2.1) (j := 0) rfl rfl rfl Tryd.underlying9 (by omega)) (by kernel_rfl) ?_
    refine RW.val (by rfl) (by kernel_rfl) rfl (by kernel_rfl) ?_
    iterate 2 refine RW.v ?_
    refine RW.both _ _ rfl rfl rfl (fun hc14 => ?_) (fun hc14 => ?_)
    ·have hc14b := hc14
     have hc14 := of_decide_eq_true hc14
     refine RW.skip (by rfl) (by kernel_rfl) ?_
     refine RW.skip (by rfl) (by kernel_rfl) ?_
     refine RW.skip (by rfl) (by kernel_rfl) ?_
     refine RW.v ?_
     refine RW.nil ?_
     refine W.c1 ?_
     refine W.seq (W.region ?_)
     refine RW.v ?_
     refine RW.nil ?_
     refine W.ret ?_
     refine seqQ_ret ?_
     refine endG (by rfl) (by exact resL_tmp rfl) ?_
     have es : seqM bs fin = -1 := by unfold seqM; rw [← hbv, if_neg (fun k => k.elim (fun k => by omega) fun k => by rw [g3] at k; cases k), if_pos (by omega)]
     rw [es]
     exact ⟨rfl, H⟩
    ·have hc14b := hc14
     have hc14 := of_decide_eq_false hc14
     refine RW.val (by rfl) (by kernel_rfl) rfl (by kernel_rfl) ?_
     refine RW.vop (v := .int .u8 ((((cutM bs).2.1).getD 0 0).toNat : Int)) (by rfl) (by kernel_rfl) (vop_sAtL (a := (cutM bs).2.1) (j := 0) rfl rfl rfl Tryd.underlying9 (by omega)) (by kernel_rfl) ?_
     refine RW.val (by rfl) (by kernel_rfl) rfl (by kernel_rfl) ?_
     refine RW.v ?_
     refine RW.nil ?_
     refine W.rg [(6, .string ⟨((cutM bs).2.1).toArray⟩), (8, .int .i64 bv), (62, .bool (decide (((((cutM bs).2.1).getD 0 0).toNat : Int) > 56)))] fun TA => ?_
     refine W.cond rfl (fun hc15 => ?_) (fun hc15 => ?_)
     ·have hc15b := hc15
      have hc15 := of_decide_eq_true hc15
      refine W.seq (W.region ?_)
      refine RW.v ?_
      refine RW.nil ?_
      refine W.ret ?_
      refine seqQ_ret ?_
      refine endG (by rfl) (by exact resL_tmp rfl) ?_
      have es : seqM bs fin = -1 := by unfold seqM; rw [← hbv, if_neg (fun k => k.elim (fun k => by omega) fun k => by rw [g3] at k; cases k), if_pos (by omega)]
      rw [es]
      exact ⟨rfl, H⟩
     ·have hc15b := hc15
      have hc15 := of_decide_eq_false hc15
      refine W.skip ?_
      refine W.seq (W.region ?_)
      have hI : IsB bv := hbv ▸ baseM_isB (by omega)
      have hm8 : ((cutM bs).2.1.getD 0 0).toNat = 49 ∨ ((cutM bs).2.1.getD 0 0).toNat = 50 ∨ ((cutM bs).2.1.getD 0 0).toNat = 51 ∨ ((cutM bs).2.1.getD 0 0).toNat = 52 ∨ ((cutM bs).2.1.getD 0 0).toNat = 53 ∨ ((cutM bs).2.1.getD 0 0).toNat = 54 ∨ ((cutM bs).2.1.getD 0 0).toNat = 55 ∨ ((cutM bs).2.1.getD 0 0).toNat = 56 := by omega
      rcases hm8 with hm0 | hm0 | hm0 | hm0 | hm0 | hm0 | hm0 | hm0
      ·refine RW.v ?_
       refine RW.nil ?_
       refine W.rg [(6, .string ⟨((cutM bs).2.1).toArray⟩), (8, .int .i64 bv), (9, .int .i64 0)] fun TA => ?_
       refine W.seq ?_
       refine W.seq (W.region ?_)
       refine RW.val (v := .agg #[.int .i64 33554432, .int .i64 134217728, .int .i64 67108864]) (by kernel_rfl) (by kernel_rfl) (by kernel_rfl) (by kernel_rfl) ?_
       refine RW.v ?_
       refine RW.nil ?_
       refine W.rg [(6, .string ⟨((cutM bs).2.1).toArray⟩), (8, .int .i64 bv), (9, .int .i64 0), (63, .agg #[.int .i64 33554432, .int .i64 134217728, .int .i64 67108864]), (64, .int .i64 0)] fun TA => ?_
       refine W.block ?_
       refine W.unroll (WL.once ?_)
       refine W.seq (W.region ?_)
       refine RW.v ?_
       refine RW.nil ?_
       refine W.rg [(6, .string ⟨((cutM bs).2.1).toArray⟩), (8, .int .i64 bv), (9, .int .i64 0), (63, .agg #[.int .i64 33554432, .int .i64 134217728, .int .i64 67108864]), (64, .int .i64 0), (65, .bool true)] fun TA => ?_
       refine W.seq ?_
       refine W.c1 ?_
       refine W.skip ?_
       refine W.seq ?_
       refine W.block ?_
       refine W.seq (W.region ?_)
       refine RW.v ?_
       refine RW.val (v := .int .i64 33554432) (by kernel_rfl) (by kernel_rfl) (by kernel_rfl) (by kernel_rfl) ?_
       iterate 2 refine RW.v ?_
       refine RW.nil ?_
       refine W.rg [(6, .string ⟨((cutM bs).2.1).toArray⟩), (8, .int .i64 bv), (9, .int .i64 0), (10, .int .i64 0), (11, .int .i64 33554432), (63, .agg #[.int .i64 33554432, .int .i64 134217728, .int .i64 67108864]), (64, .int .i64 0)] fun TA => ?_
       refine W.seq (W.region ?_)
       refine RW.v ?_
       refine RW.vop (v := .int .u8 49) (by kernel_rfl) (by kernel_rfl) (vop_sAtE (a := (cutM bs).2.1) (j := 0) hm0 rfl rfl rfl Tryd.underlying9 (by omega)) (by kernel_rfl) ?_
       iterate 2 refine RW.v ?_
       refine RW.valE (v' := .int .u8 0) (by kernel_rfl) (by kernel_rfl) rfl (by kernel_rfl) (by kernel_rfl) ?_
       refine RW.valE (v' := .int .u8 0) (by kernel_rfl) (by kernel_rfl) rfl (by kernel_rfl) (by kernel_rfl) ?_
       refine RW.v ?_
       refine RW.nil ?_
       refine W.c0 ?_
       refine W.skip ?_
       refine blkQ_normal ?_
       refine W.region ?_
       iterate 2 refine RW.v ?_
       refine RW.nil ?_
       refine WL.once ?_
       refine W.rg [(6, .string ⟨((cutM bs).2.1).toArray⟩), (8, .int .i64 bv), (9, .int .i64 0), (63, .agg #[.int .i64 33554432, .int .i64 134217728, .int .i64 67108864]), (64, .int .i64 1)] fun TA => ?_
       refine W.seq (W.region ?_)
       refine RW.v ?_
       refine RW.nil ?_
       refine W.rg [(6, .string ⟨((cutM bs).2.1).toArray⟩), (8, .int .i64 bv), (9, .int .i64 0), (63, .agg #[.int .i64 33554432, .int .i64 134217728, .int .i64 67108864]), (64, .int .i64 1), (65, .bool true)] fun TA => ?_
       refine W.seq ?_
       refine W.c1 ?_
       refine W.skip ?_
       refine W.seq ?_
       refine W.block ?_
       refine W.seq (W.region ?_)
       refine RW.v ?_
       refine RW.val (v := .int .i64 134217728) (by kernel_rfl) (by kernel_rfl) (by kernel_rfl) (by kernel_rfl) ?_
       iterate 2 refine RW.v ?_
       refine RW.nil ?_
       refine W.rg [(6, .string ⟨((cutM bs).2.1).toArray⟩), (8, .int .i64 bv), (9, .int .i64 0), (10, .int .i64 1), (11, .int .i64 134217728), (63, .agg #[.int .i64 33554432, .int .i64 134217728, .int .i64 67108864]), (64, .int .i64 1)] fun TA => ?_
       refine W.seq (W.region ?_)
       refine RW.v ?_
       refine RW.vop (v := .int .u8 49) (by kernel_rfl) (by kernel_rfl) (vop_sAtE (a := (cutM bs).2.1) (j := 0) hm0 rfl rfl rfl Tryd.underlying9 (by omega)) (by kernel_rfl) ?_
       iterate 2 refine RW.v ?_
       refine RW.valE (v' := .int .u8 0) (by kernel_rfl) (by kernel_rfl) rfl (by kernel_rfl) (by kernel_rfl) ?_
       refine RW.valE (v' := .int .u8 0) (by kernel_rfl) (by kernel_rfl) rfl (by kernel_rfl) (by kernel_rfl) ?_
       refine RW.v ?_
       refine RW.nil ?_
       refine W.c0 ?_
       refine W.skip ?_
       refine blkQ_normal ?_
       refine W.region ?_
       iterate 2 refine RW.v ?_
       refine RW.nil ?_
       refine WL.once ?_
       refine W.rg [(6, .string ⟨((cutM bs).2.1).toArray⟩), (8, .int .i64 bv), (9, .int .i64 0), (63, .agg #[.int .i64 33554432, .int .i64 134217728, .int .i64 67108864]), (64, .int .i64 2)] fun TA => ?_
       refine W.seq (W.region ?_)
       refine RW.v ?_
       refine RW.nil ?_
       refine W.rg [(6, .string ⟨((cutM bs).2.1).toArray⟩), (8, .int .i64 bv), (9, .int .i64 0), (63, .agg #[.int .i64 33554432, .int .i64 134217728, .int .i64 67108864]), (64, .int .i64 2), (65, .bool true)] fun TA => ?_
       refine W.seq ?_
       refine W.c1 ?_
       refine W.skip ?_
       refine W.seq ?_
       refine W.block ?_
       refine W.seq (W.region ?_)
       refine RW.v ?_
       refine RW.val (v := .int .i64 67108864) (by kernel_rfl) (by kernel_rfl) (by kernel_rfl) (by kernel_rfl) ?_
       iterate 2 refine RW.v ?_
       refine RW.nil ?_
       refine W.rg [(6, .string ⟨((cutM bs).2.1).toArray⟩), (8, .int .i64 bv), (9, .int .i64 0), (10, .int .i64 2), (11, .int .i64 67108864), (63, .agg #[.int .i64 33554432, .int .i64 134217728, .int .i64 67108864]), (64, .int .i64 2)] fun TA => ?_
       refine W.seq (W.region ?_)
       refine RW.v ?_
       refine RW.vop (v := .int .u8 49) (by kernel_rfl) (by kernel_rfl) (vop_sAtE (a := (cutM bs).2.1) (j := 0) hm0 rfl rfl rfl Tryd.underlying9 (by omega)) (by kernel_rfl) ?_
       iterate 2 refine RW.v ?_
       refine RW.valE (v' := .int .u8 0) (by kernel_rfl) (by kernel_rfl) rfl (by kernel_rfl) (by kernel_rfl) ?_
       refine RW.valE (v' := .int .u8 0) (by kernel_rfl) (by kernel_rfl) rfl (by kernel_rfl) (by kernel_rfl) ?_
       refine RW.v ?_
       refine RW.nil ?_
       refine W.c0 ?_
       refine W.skip ?_
       refine blkQ_normal ?_
       refine W.region ?_
       iterate 2 refine RW.v ?_
       refine RW.nil ?_
       refine WL.once ?_
       refine W.rg [(6, .string ⟨((cutM bs).2.1).toArray⟩), (8, .int .i64 bv), (9, .int .i64 0), (63, .agg #[.int .i64 33554432, .int .i64 134217728, .int .i64 67108864]), (64, .int .i64 3)] fun TA => ?_
       refine W.seq (W.region ?_)
       refine RW.v ?_
       refine RW.nil ?_
       refine W.rg [(6, .string ⟨((cutM bs).2.1).toArray⟩), (8, .int .i64 bv), (9, .int .i64 0), (63, .agg #[.int .i64 33554432, .int .i64 134217728, .int .i64 67108864]), (64, .int .i64 3), (65, .bool false)] fun TA => ?_
       refine W.seq ?_
       refine W.c0 ?_
       refine W.exit _ ?_
       refine seqQ_exit ?_
       refine onceQ_exit ?_
       refine blkQ_here ?_
       refine W.seq (W.region ?_)
       iterate 2 refine RW.v ?_
       refine RW.cl ?_
       refine ((make_yes bv 0 hI (by decide) (by decide) _).mono ?_)
       rintro _ _ ⟨rfl, rfl⟩
       iterate 5 refine RW.v ?_
       refine RW.nil ?_
       refine W.rg [(12, .int .i64 (mkE bv 0))] fun TA => ?_
       refine W.seq (W.region ?_)
       iterate 2 refine RW.v ?_
       refine RW.nil ?_
       refine W.ret ?_
       refine endG (by rfl) (by exact resL_tmp rfl) ?_
       have es : seqM bs fin = (mkE bv 0) := by unfold seqM; rw [← hbv, if_neg (fun k => k.elim (fun k => by omega) fun k => by rw [g3] at k; cases k), if_neg (by omega), hm0]; rfl
       rw [es]
       exact ⟨rfl, H⟩
      ·refine RW.v ?_
       refine RW.nil ?_
       refine W.rg [(6, .string ⟨((cutM bs).2.1).toArray⟩), (8, .int .i64 bv), (9, .int .i64 0)] fun TA => ?_
       refine W.seq ?_
       refine W.seq (W.region ?_)
       refine RW.val (v := .agg #[.int .i64 33554432, .int .i64 134217728, .int .i64 67108864]) (by kernel_rfl) (by kernel_rfl) (by kernel_rfl) (by kernel_rfl) ?_
       refine RW.v ?_
       refine RW.nil ?_
       refine W.rg [(6, .string ⟨((cutM bs).2.1).toArray⟩), (8, .int .i64 bv), (9, .int .i64 0), (63, .agg #[.int .i64 33554432, .int .i64 134217728, .int .i64 67108864]), (64, .int .i64 0)] fun TA => ?_
       refine W.block ?_
       refine W.unroll (WL.once ?_)
       refine W.seq (W.region ?_)
       refine RW.v ?_
       refine RW.nil ?_
       refine W.rg [(6, .string ⟨((cutM bs).2.1).toArray⟩), (8, .int .i64 bv), (9, .int .i64 0), (63, .agg #[.int .i64 33554432, .int .i64 134217728, .int .i64 67108864]), (64, .int .i64 0), (65, .bool true)] fun TA => ?_
       refine W.seq ?_
       refine W.c1 ?_
       refine W.skip ?_
       refine W.seq ?_
       refine W.block ?_
       refine W.seq (W.region ?_)
       refine RW.v ?_
       refine RW.val (v := .int .i64 33554432) (by kernel_rfl) (by kernel_rfl) (by kernel_rfl) (by kernel_rfl) ?_
       iterate 2 refine RW.v ?_
       refine RW.nil ?_
       refine W.rg [(6, .string ⟨((cutM bs).2.1).toArray⟩), (8, .int .i64 bv), (9, .int .i64 0), (10, .int .i64 0), (11, .int .i64 33554432), (63, .agg #[.int .i64 33554432, .int .i64 134217728, .int .i64 67108864]), (64, .int .i64 0)] fun TA => ?_
       refine W.seq (W.region ?_)
       refine RW.v ?_
       refine RW.vop (v := .int .u8 50) (by kernel_rfl) (by kernel_rfl) (vop_sAtE (a := (cutM bs).2.1) (j := 0) hm0 rfl rfl rfl Tryd.underlying9 (by omega)) (by kernel_rfl) ?_
       iterate 2 refine RW.v ?_
       refine RW.valE (v' := .int .u8 1) (by kernel_rfl) (by kernel_rfl) rfl (by kernel_rfl) (by kernel_rfl) ?_
       refine RW.valE (v' := .int .u8 1) (by kernel_rfl) (by kernel_rfl) rfl (by kernel_rfl) (by kernel_rfl) ?_
       refine RW.v ?_
       refine RW.nil ?_
       refine W.c1 ?_
       refine W.region ?_
       iterate 2 refine RW.v ?_
       refine RW.valE (v' := .int .i64 33554432) (by kernel_rfl) (by kernel_rfl) rfl (by kernel_rfl) (by kernel_rfl) ?_
       refine RW.v ?_
       refine RW.nil ?_
       refine blkQ_normal ?_
       refine W.rg [(6, .string ⟨((cutM bs).2.1).toArray⟩), (8, .int .i64 bv), (9, .int .i64 33554432), (63, .agg #[.int .i64 33554432, .int .i64 134217728, .int .i64 67108864]), (64, .int .i64 0)] fun TA => ?_
       refine W.region ?_
       iterate 2 refine RW.v ?_
       refine RW.nil ?_
       refine WL.once ?_
       refine W.rg [(6, .string ⟨((cutM bs).2.1).toArray⟩), (8, .int .i64 bv), (9, .int .i64 33554432), (63, .agg #[.int .i64 33554432, .int .i64 134217728, .int .i64 67108864]), (64, .int .i64 1)] fun TA => ?_
       refine W.seq (W.region ?_)
       refine RW.v ?_
       refine RW.nil ?_
       refine W.rg [(6, .string ⟨((cutM bs).2.1).toArray⟩), (8, .int .i64 bv), (9, .int .i64 33554432), (63, .agg #[.int .i64 33554432, .int .i64 134217728, .int .i64 67108864]), (64, .int .i64 1), (65, .bool true)] fun TA => ?_
       refine W.seq ?_
       refine W.c1 ?_
       refine W.skip ?_
       refine W.seq ?_
       refine W.block ?_
       refine W.seq (W.region ?_)
       refine RW.v ?_
       refine RW.val (v := .int .i64 134217728) (by kernel_rfl) (by kernel_rfl) (by kernel_rfl) (by kernel_rfl) ?_
       iterate 2 refine RW.v ?_
       refine RW.nil ?_
       refine W.rg [(6, .string ⟨((cutM bs).2.1).toArray⟩), (8, .int .i64 bv), (9, .int .i64 33554432), (10, .int .i64 1), (11, .int .i64 134217728), (63, .agg #[.int .i64 33554432, .int .i64 134217728, .int .i64 67108864]), (64, .int .i64 1)] fun TA => ?_
       refine W.seq (W.region ?_)
       refine RW.v ?_
       refine RW.vop (v := .int .u8 50) (by kernel_rfl) (by kernel_rfl) (vop_sAtE (a := (cutM bs).2.1) (j := 0) hm0 rfl rfl rfl Tryd.underlying9 (by omega)) (by kernel_rfl) ?_
       iterate 2 refine RW.v ?_
       refine RW.valE (v' := .int .u8 0) (by kernel_rfl) (by kernel_rfl) rfl (by kernel_rfl) (by kernel_rfl) ?_
       refine RW.valE (v' := .int .u8 0) (by kernel_rfl) (by kernel_rfl) rfl (by kernel_rfl) (by kernel_rfl) ?_
       refine RW.v ?_
       refine RW.nil ?_
       refine W.c0 ?_
       refine W.skip ?_
       refine blkQ_normal ?_
       refine W.region ?_
       iterate 2 refine RW.v ?_
       refine RW.nil ?_
       refine WL.once ?_
       refine W.rg [(6, .string ⟨((cutM bs).2.1).toArray⟩), (8, .int .i64 bv), (9, .int .i64 33554432), (63, .agg #[.int .i64 33554432, .int .i64 134217728, .int .i64 67108864]), (64, .int .i64 2)] fun TA => ?_
       refine W.seq (W.region ?_)
       refine RW.v ?_
       refine RW.nil ?_
       refine W.rg [(6, .string ⟨((cutM bs).2.1).toArray⟩), (8, .int .i64 bv), (9, .int .i64 33554432), (63, .agg #[.int .i64 33554432, .int .i64 134217728, .int .i64 67108864]), (64, .int .i64 2), (65, .bool true)] fun TA => ?_
       refine W.seq ?_
       refine W.c1 ?_
       refine W.skip ?_
       refine W.seq ?_
       refine W.block ?_
       refine W.seq (W.region ?_)
       refine RW.v ?_
       refine RW.val (v := .int .i64 67108864) (by kernel_rfl) (by kernel_rfl) (by kernel_rfl) (by kernel_rfl) ?_
       iterate 2 refine RW.v ?_
       refine RW.nil ?_
       refine W.rg [(6, .string ⟨((cutM bs).2.1).toArray⟩), (8, .int .i64 bv), (9, .int .i64 33554432), (10, .int .i64 2), (11, .int .i64 67108864), (63, .agg #[.int .i64 33554432, .int .i64 134217728, .int .i64 67108864]), (64, .int .i64 2)] fun TA => ?_
       refine W.seq (W.region ?_)
       refine RW.v ?_
       refine RW.vop (v := .int .u8 50) (by kernel_rfl) (by kernel_rfl) (vop_sAtE (a := (cutM bs).2.1) (j := 0) hm0 rfl rfl rfl Tryd.underlying9 (by omega)) (by kernel_rfl) ?_
       iterate 2 refine RW.v ?_
       refine RW.valE (v' := .int .u8 0) (by kernel_rfl) (by kernel_rfl) rfl (by kernel_rfl) (by kernel_rfl) ?_
       refine RW.valE (v' := .int .u8 0) (by kernel_rfl) (by kernel_rfl) rfl (by kernel_rfl) (by kernel_rfl) ?_
       refine RW.v ?_
       refine RW.nil ?_
       refine W.c0 ?_
       refine W.skip ?_
       refine blkQ_normal ?_
       refine W.region ?_
       iterate 2 refine RW.v ?_
       refine RW.nil ?_
       refine WL.once ?_
       refine W.rg [(6, .string ⟨((cutM bs).2.1).toArray⟩), (8, .int .i64 bv), (9, .int .i64 33554432), (63, .agg #[.int .i64 33554432, .int .i64 134217728, .int .i64 67108864]), (64, .int .i64 3)] fun TA => ?_
       refine W.seq (W.region ?_)
       refine RW.v ?_
       refine RW.nil ?_
       refine W.rg [(6, .string ⟨((cutM bs).2.1).toArray⟩), (8, .int .i64 bv), (9, .int .i64 33554432), (63, .agg #[.int .i64 33554432, .int .i64 134217728, .int .i64 67108864]), (64, .int .i64 3), (65, .bool false)] fun TA => ?_
       refine W.seq ?_
       refine W.c0 ?_
       refine W.exit _ ?_
       refine seqQ_exit ?_
       refine onceQ_exit ?_
       refine blkQ_here ?_
       refine W.seq (W.region ?_)
       iterate 2 refine RW.v ?_
       refine RW.cl ?_
       refine ((make_yes bv 1 hI (by decide) (by decide) _).mono ?_)
       rintro _ _ ⟨rfl, rfl⟩
       iterate 5 refine RW.v ?_
       refine RW.nil ?_
       refine W.rg [(12, .int .i64 (mkE bv 1))] fun TA => ?_
       refine W.seq (W.region ?_)
       iterate 2 refine RW.v ?_
       refine RW.nil ?_
       refine W.ret ?_
       refine endG (by rfl) (by exact resL_tmp rfl) ?_
       have es : seqM bs fin = (mkE bv 1) := by unfold seqM; rw [← hbv, if_neg (fun k => k.elim (fun k => by omega) fun k => by rw [g3] at k; cases k), if_neg (by omega), hm0]; rfl
       rw [es]
       exact ⟨rfl, H⟩
      ·refine RW.v ?_
       refine RW.nil ?_
       refine W.rg [(6, .string ⟨((cutM bs).2.1).toArray⟩), (8, .int .i64 bv), (9, .int .i64 0)] fun TA => ?_
       refine W.seq ?_
       refine W.seq (W.region ?_)
       refine RW.val (v := .agg #[.int .i64 33554432, .int .i64 134217728, .int .i64 67108864]) (by kernel_rfl) (by kernel_rfl) (by kernel_rfl) (by kernel_rfl) ?_
       refine RW.v ?_
       refine RW.nil ?_
       refine W.rg [(6, .string ⟨((cutM bs).2.1).toArray⟩), (8, .int .i64 bv), (9, .int .i64 0), (63, .agg #[.int .i64 33554432, .int .i64 134217728, .int .i64 67108864]), (64, .int .i64 0)] fun TA => ?_
       refine W.block ?_
       refine W.unroll (WL.once ?_)
       refine W.seq (W.region ?_)
       refine RW.v ?_
       refine RW.nil ?_
       refine W.rg [(6, .string ⟨((cutM bs).2.1).toArray⟩), (8, .int .i64 bv), (9, .int .i64 0), (63, .agg #[.int .i64 33554432, .int .i64 134217728, .int .i64 67108864]), (64, .int .i64 0), (65, .bool true)] fun TA => ?_
       refine W.seq ?_
       refine W.c1 ?_
       refine W.skip ?_
       refine W.seq ?_
       refine W.block ?_
       refine W.seq (W.region ?_)
       refine RW.v ?_
       refine RW.val (v := .int .i64 33554432) (by kernel_rfl) (by kernel_rfl) (by kernel_rfl) (by kernel_rfl) ?_
       iterate 2 refine RW.v ?_
       refine RW.nil ?_
       refine W.rg [(6, .string ⟨((cutM bs).2.1).toArray⟩), (8, .int .i64 bv), (9, .int .i64 0), (10, .int .i64 0), (11, .int .i64 33554432), (63, .agg #[.int .i64 33554432, .int .i64 134217728, .int .i64 67108864]), (64, .int .i64 0)] fun TA => ?_
       refine W.seq (W.region ?_)
       refine RW.v ?_
       refine RW.vop (v := .int .u8 51) (by kernel_rfl) (by kernel_rfl) (vop_sAtE (a := (cutM bs).2.1) (j := 0) hm0 rfl rfl rfl Tryd.underlying9 (by omega)) (by kernel_rfl) ?_
       iterate 2 refine RW.v ?_
       refine RW.valE (v' := .int .u8 2) (by kernel_rfl) (by kernel_rfl) rfl (by kernel_rfl) (by kernel_rfl) ?_
       refine RW.valE (v' := .int .u8 0) (by kernel_rfl) (by kernel_rfl) rfl (by kernel_rfl) (by kernel_rfl) ?_
       refine RW.v ?_
       refine RW.nil ?_
       refine W.c0 ?_
       refine W.skip ?_
       refine blkQ_normal ?_
       refine W.region ?_
       iterate 2 refine RW.v ?_
       refine RW.nil ?_
       refine WL.once ?_
       refine W.rg [(6, .string ⟨((cutM bs).2.1).toArray⟩), (8, .int .i64 bv), (9, .int .i64 0), (63, .agg #[.int .i64 33554432, .int .i64 134217728, .int .i64 67108864]), (64, .int .i64 1)] fun TA => ?_
       refine W.seq (W.region ?_)
       refine RW.v ?_
       refine RW.nil ?_
       refine W.rg [(6, .string ⟨((cutM bs).2.1).toArray⟩), (8, .int .i64 bv), (9, .int .i64 0), (63, .agg #[.int .i64 33554432, .int .i64 134217728, .int .i64 67108864]), (64, .int .i64 1), (65, .bool true)] fun TA => ?_
       refine W.seq ?_
       refine W.c1 ?_
       refine W.skip ?_
       refine W.seq ?_
       refine W.block ?_
       refine W.seq (W.region ?_)
       refine RW.v ?_
       refine RW.val (v := .int .i64 134217728) (by kernel_rfl) (by kernel_rfl) (by kernel_rfl) (by kernel_rfl) ?_
       iterate 2 refine RW.v ?_
       refine RW.nil ?_
       refine W.rg [(6, .string ⟨((cutM bs).2.1).toArray⟩), (8, .int .i64 bv), (9, .int .i64 0), (10, .int .i64 1), (11, .int .i64 134217728), (63, .agg #[.int .i64 33554432, .int .i64 134217728, .int .i64 67108864]), (64, .int .i64 1)] fun TA => ?_
       refine W.seq (W.region ?_)
       refine RW.v ?_
       refine RW.vop (v := .int .u8 51) (by kernel_rfl) (by kernel_rfl) (vop_sAtE (a := (cutM bs).2.1) (j := 0) hm0 rfl rfl rfl Tryd.underlying9 (by omega)) (by kernel_rfl) ?_
       iterate 2 refine RW.v ?_
       refine RW.valE (v' := .int .u8 1) (by kernel_rfl) (by kernel_rfl) rfl (by kernel_rfl) (by kernel_rfl) ?_
       refine RW.valE (v' := .int .u8 1) (by kernel_rfl) (by kernel_rfl) rfl (by kernel_rfl) (by kernel_rfl) ?_
       refine RW.v ?_
       refine RW.nil ?_
       refine W.c1 ?_
       refine W.region ?_
       iterate 2 refine RW.v ?_
       refine RW.valE (v' := .int .i64 134217728) (by kernel_rfl) (by kernel_rfl) rfl (by kernel_rfl) (by kernel_rfl) ?_
       refine RW.v ?_
       refine RW.nil ?_
       refine blkQ_normal ?_
       refine W.rg [(6, .string ⟨((cutM bs).2.1).toArray⟩), (8, .int .i64 bv), (9, .int .i64 134217728), (63, .agg #[.int .i64 33554432, .int .i64 134217728, .int .i64 67108864]), (64, .int .i64 1)] fun TA => ?_
       refine W.region ?_
       iterate 2 refine RW.v ?_
       refine RW.nil ?_
       refine WL.once ?_
       refine W.rg [(6, .string ⟨((cutM bs).2.1).toArray⟩), (8, .int .i64 bv), (9, .int .i64 134217728), (63, .agg #[.int .i64 33554432, .int .i64 134217728, .int .i64 67108864]), (64, .int .i64 2)] fun TA => ?_
       refine W.seq (W.region ?_)
       refine RW.v ?_
       refine RW.nil ?_
       refine W.rg [(6, .string ⟨((cutM bs).2.1).toArray⟩), (8, .int .i64 bv), (9, .int .i64 134217728), (63, .agg #[.int .i64 33554432, .int .i64 134217728, .int .i64 67108864]), (64, .int .i64 2), (65, .bool true)] fun TA => ?_
       refine W.seq ?_
       refine W.c1 ?_
       refine W.skip ?_
       refine W.seq ?_
       refine W.block ?_
       refine W.seq (W.region ?_)
       refine RW.v ?_
       refine RW.val (v := .int .i64 67108864) (by kernel_rfl) (by kernel_rfl) (by kernel_rfl) (by kernel_rfl) ?_
       iterate 2 refine RW.v ?_
       refine RW.nil ?_
       refine W.rg [(6, .string ⟨((cutM bs).2.1).toArray⟩), (8, .int .i64 bv), (9, .int .i64 134217728), (10, .int .i64 2), (11, .int .i64 67108864), (63, .agg #[.int .i64 33554432, .int .i64 134217728, .int .i64 67108864]), (64, .int .i64 2)] fun TA => ?_
       refine W.seq (W.region ?_)
       refine RW.v ?_
       refine RW.vop (v := .int .u8 51) (by kernel_rfl) (by kernel_rfl) (vop_sAtE (a := (cutM bs).2.1) (j := 0) hm0 rfl rfl rfl Tryd.underlying9 (by omega)) (by kernel_rfl) ?_
       iterate 2 refine RW.v ?_
       refine RW.valE (v' := .int .u8 0) (by kernel_rfl) (by kernel_rfl) rfl (by kernel_rfl) (by kernel_rfl) ?_
       refine RW.valE (v' := .int .u8 0) (by kernel_rfl) (by kernel_rfl) rfl (by kernel_rfl) (by kernel_rfl) ?_
       refine RW.v ?_
       refine RW.nil ?_
       refine W.c0 ?_
       refine W.skip ?_
       refine blkQ_normal ?_
       refine W.region ?_
       iterate 2 refine RW.v ?_
       refine RW.nil ?_
       refine WL.once ?_
       refine W.rg [(6, .string ⟨((cutM bs).2.1).toArray⟩), (8, .int .i64 bv), (9, .int .i64 134217728), (63, .agg #[.int .i64 33554432, .int .i64 134217728, .int .i64 67108864]), (64, .int .i64 3)] fun TA => ?_
       refine W.seq (W.region ?_)
       refine RW.v ?_
       refine RW.nil ?_
       refine W.rg [(6, .string ⟨((cutM bs).2.1).toArray⟩), (8, .int .i64 bv), (9, .int .i64 134217728), (63, .agg #[.int .i64 33554432, .int .i64 134217728, .int .i64 67108864]), (64, .int .i64 3), (65, .bool false)] fun TA => ?_
       refine W.seq ?_
       refine W.c0 ?_
       refine W.exit _ ?_
       refine seqQ_exit ?_
       refine onceQ_exit ?_
       refine blkQ_here ?_
       refine W.seq (W.region ?_)
       iterate 2 refine RW.v ?_
       refine RW.cl ?_
       refine ((make_yes bv 4 hI (by decide) (by decide) _).mono ?_)
       rintro _ _ ⟨rfl, rfl⟩
       iterate 5 refine RW.v ?_
       refine RW.nil ?_
       refine W.rg [(12, .int .i64 (mkE bv 4))] fun TA => ?_
       refine W.seq (W.region ?_)
       iterate 2 refine RW.v ?_
       refine RW.nil ?_
       refine W.ret ?_
       refine endG (by rfl) (by exact resL_tmp rfl) ?_
       have es : seqM bs fin = (mkE bv 4) := by unfold seqM; rw [← hbv, if_neg (fun k => k.elim (fun k => by omega) fun k => by rw [g3] at k; cases k), if_neg (by omega), hm0]; rfl
       rw [es]
       exact ⟨rfl, H⟩
      ·refine RW.v ?_
       refine RW.nil ?_
       refine W.rg [(6, .string ⟨((cutM bs).2.1).toArray⟩), (8, .int .i64 bv), (9, .int .i64 0)] fun TA => ?_
       refine W.seq ?_
       refine W.seq (W.region ?_)
       refine RW.val (v := .agg #[.int .i64 33554432, .int .i64 134217728, .int .i64 67108864]) (by kernel_rfl) (by kernel_rfl) (by kernel_rfl) (by kernel_rfl) ?_
       refine RW.v ?_
       refine RW.nil ?_
       refine W.rg [(6, .string ⟨((cutM bs).2.1).toArray⟩), (8, .int .i64 bv), (9, .int .i64 0), (63, .agg #[.int .i64 33554432, .int .i64 134217728, .int .i64 67108864]), (64, .int .i64 0)] fun TA => ?_
       refine W.block ?_
       refine W.unroll (WL.once ?_)
       refine W.seq (W.region ?_)
       refine RW.v ?_
       refine RW.nil ?_
       refine W.rg [(6, .string ⟨((cutM bs).2.1).toArray⟩), (8, .int .i64 bv), (9, .int .i64 0), (63, .agg #[.int .i64 33554432, .int .i64 134217728, .int .i64 67108864]), (64, .int .i64 0), (65, .bool true)] fun TA => ?_
       refine W.seq ?_
       refine W.c1 ?_
       refine W.skip ?_
       refine W.seq ?_
       refine W.block ?_
       refine W.seq (W.region ?_)
       refine RW.v ?_
       refine RW.val (v := .int .i64 33554432) (by kernel_rfl) (by kernel_rfl) (by kernel_rfl) (by kernel_rfl) ?_
       iterate 2 refine RW.v ?_
       refine RW.nil ?_
       refine W.rg [(6, .string ⟨((cutM bs).2.1).toArray⟩), (8, .int .i64 bv), (9, .int .i64 0), (10, .int .i64 0), (11, .int .i64 33554432), (63, .agg #[.int .i64 33554432, .int .i64 134217728, .int .i64 67108864]), (64, .int .i64 0)] fun TA => ?_
       refine W.seq (W.region ?_)
       refine RW.v ?_
       refine RW.vop (v := .int .u8 52) (by kernel_rfl) (by kernel_rfl) (vop_sAtE (a := (cutM bs).2.1) (j := 0) hm0 rfl rfl rfl Tryd.underlying9 (by omega)) (by kernel_rfl) ?_
       iterate 2 refine RW.v ?_
       refine RW.valE (v' := .int .u8 3) (by kernel_rfl) (by kernel_rfl) rfl (by kernel_rfl) (by kernel_rfl) ?_
       refine RW.valE (v' := .int .u8 1) (by kernel_rfl) (by kernel_rfl) rfl (by kernel_rfl) (by kernel_rfl) ?_
       refine RW.v ?_
       refine RW.nil ?_
       refine W.c1 ?_
       refine W.region ?_
       iterate 2 refine RW.v ?_
       refine RW.valE (v' := .int .i64 33554432) (by kernel_rfl) (by kernel_rfl) rfl (by kernel_rfl) (by kernel_rfl) ?_
       refine RW.v ?_
       refine RW.nil ?_
       refine blkQ_normal ?_
       refine W.rg [(6, .string ⟨((cutM bs).2.1).toArray⟩), (8, .int .i64 bv), (9, .int .i64 33554432), (63, .agg #[.int .i64 33554432, .int .i64 134217728, .int .i64 67108864]), (64, .int .i64 0)] fun TA => ?_
       refine W.region ?_
       iterate 2 refine RW.v ?_
       refine RW.nil ?_
       refine WL.once ?_
       refine W.rg [(6, .string ⟨((cutM bs).2.1).toArray⟩), (8, .int .i64 bv), (9, .int .i64 33554432), (63, .agg #[.int .i64 33554432, .int .i64 134217728, .int .i64 67108864]), (64, .int .i64 1)] fun TA => ?_
       refine W.seq (W.region ?_)
       refine RW.v ?_
       refine RW.nil ?_
       refine W.rg [(6, .string ⟨((cutM bs).2.1).toArray⟩), (8, .int .i64 bv), (9, .int .i64 33554432), (63, .agg #[.int .i64 33554432, .int .i64 134217728, .int .i64 67108864]), (64, .int .i64 1), (65, .bool true)] fun TA => ?_
       refine W.seq ?_
       refine W.c1 ?_
       refine W.skip ?_
       refine W.seq ?_
       refine W.block ?_
       refine W.seq (W.region ?_)
       refine RW.v ?_
       refine RW.val (v := .int .i64 134217728) (by kernel_rfl) (by kernel_rfl) (by kernel_rfl) (by kernel_rfl) ?_
       iterate 2 refine RW.v ?_
       refine RW.nil ?_
       refine W.rg [(6, .string ⟨((cutM bs).2.1).toArray⟩), (8, .int .i64 bv), (9, .int .i64 33554432), (10, .int .i64 1), (11, .int .i64 134217728), (63, .agg #[.int .i64 33554432, .int .i64 134217728, .int .i64 67108864]), (64, .int .i64 1)] fun TA => ?_
       refine W.seq (W.region ?_)
       refine RW.v ?_
       refine RW.vop (v := .int .u8 52) (by kernel_rfl) (by kernel_rfl) (vop_sAtE (a := (cutM bs).2.1) (j := 0) hm0 rfl rfl rfl Tryd.underlying9 (by omega)) (by kernel_rfl) ?_
       iterate 2 refine RW.v ?_
       refine RW.valE (v' := .int .u8 1) (by kernel_rfl) (by kernel_rfl) rfl (by kernel_rfl) (by kernel_rfl) ?_
       refine RW.valE (v' := .int .u8 1) (by kernel_rfl) (by kernel_rfl) rfl (by kernel_rfl) (by kernel_rfl) ?_
       refine RW.v ?_
       refine RW.nil ?_
       refine W.c1 ?_
       refine W.region ?_
       iterate 2 refine RW.v ?_
       refine RW.valE (v' := .int .i64 167772160) (by kernel_rfl) (by kernel_rfl) rfl (by kernel_rfl) (by kernel_rfl) ?_
       refine RW.v ?_
       refine RW.nil ?_
       refine blkQ_normal ?_
       refine W.rg [(6, .string ⟨((cutM bs).2.1).toArray⟩), (8, .int .i64 bv), (9, .int .i64 167772160), (63, .agg #[.int .i64 33554432, .int .i64 134217728, .int .i64 67108864]), (64, .int .i64 1)] fun TA => ?_
       refine W.region ?_
       iterate 2 refine RW.v ?_
       refine RW.nil ?_
       refine WL.once ?_
       refine W.rg [(6, .string ⟨((cutM bs).2.1).toArray⟩), (8, .int .i64 bv), (9, .int .i64 167772160), (63, .agg #[.int .i64 33554432, .int .i64 134217728, .int .i64 67108864]), (64, .int .i64 2)] fun TA => ?_
       refine W.seq (W.region ?_)
       refine RW.v ?_
       refine RW.nil ?_
       refine W.rg [(6, .string ⟨((cutM bs).2.1).toArray⟩), (8, .int .i64 bv), (9, .int .i64 167772160), (63, .agg #[.int .i64 33554432, .int .i64 134217728, .int .i64 67108864]), (64, .int .i64 2), (65, .bool true)] fun TA => ?_
       refine W.seq ?_
       refine W.c1 ?_
       refine W.skip ?_
       refine W.seq ?_
       refine W.block ?_
       refine W.seq (W.region ?_)
       refine RW.v ?_
       refine RW.val (v := .int .i64 67108864) (by kernel_rfl) (by kernel_rfl) (by kernel_rfl) (by kernel_rfl) ?_
       iterate 2 refine RW.v ?_
       refine RW.nil ?_
       refine W.rg [(6, .string ⟨((cutM bs).2.1).toArray⟩), (8, .int .i64 bv), (9, .int .i64 167772160), (10, .int .i64 2), (11, .int .i64 67108864), (63, .agg #[.int .i64 33554432, .int .i64 134217728, .int .i64 67108864]), (64, .int .i64 2)] fun TA => ?_
       refine W.seq (W.region ?_)
       refine RW.v ?_
       refine RW.vop (v := .int .u8 52) (by kernel_rfl) (by kernel_rfl) (vop_sAtE (a := (cutM bs).2.1) (j := 0) hm0 rfl rfl rfl Tryd.underlying9 (by omega)) (by kernel_rfl) ?_
       iterate 2 refine RW.v ?_
       refine RW.valE (v' := .int .u8 0) (by kernel_rfl) (by kernel_rfl) rfl (by kernel_rfl) (by kernel_rfl) ?_
       refine RW.valE (v' := .int .u8 0) (by kernel_rfl) (by kernel_rfl) rfl (by kernel_rfl) (by kernel_rfl) ?_
       refine RW.v ?_
       refine RW.nil ?_
       refine W.c0 ?_
       refine W.skip ?_
       refine blkQ_normal ?_
       refine W.region ?_
       iterate 2 refine RW.v ?_
       refine RW.nil ?_
       refine WL.once ?_
       refine W.rg [(6, .string ⟨((cutM bs).2.1).toArray⟩), (8, .int .i64 bv), (9, .int .i64 167772160), (63, .agg #[.int .i64 33554432, .int .i64 134217728, .int .i64 67108864]), (64, .int .i64 3)] fun TA => ?_
       refine W.seq (W.region ?_)
       refine RW.v ?_
       refine RW.nil ?_
       refine W.rg [(6, .string ⟨((cutM bs).2.1).toArray⟩), (8, .int .i64 bv), (9, .int .i64 167772160), (63, .agg #[.int .i64 33554432, .int .i64 134217728, .int .i64 67108864]), (64, .int .i64 3), (65, .bool false)] fun TA => ?_
       refine W.seq ?_
       refine W.c0 ?_
       refine W.exit _ ?_
       refine seqQ_exit ?_
       refine onceQ_exit ?_
       refine blkQ_here ?_
       refine W.seq (W.region ?_)
       iterate 2 refine RW.v ?_
       refine RW.cl ?_
       refine ((make_yes bv 5 hI (by decide) (by decide) _).mono ?_)
       rintro _ _ ⟨rfl, rfl⟩
       iterate 5 refine RW.v ?_
       refine RW.nil ?_
       refine W.rg [(12, .int .i64 (mkE bv 5))] fun TA => ?_
       refine W.seq (W.region ?_)
       iterate 2 refine RW.v ?_
       refine RW.nil ?_
       refine W.ret ?_
       refine endG (by rfl) (by exact resL_tmp rfl) ?_
       have es : seqM bs fin = (mkE bv 5) := by unfold seqM; rw [← hbv, if_neg (fun k => k.elim (fun k => by omega) fun k => by rw [g3] at k; cases k), if_neg (by omega), hm0]; rfl
       rw [es]
       exact ⟨rfl, H⟩
      ·refine RW.v ?_
       refine RW.nil ?_
       refine W.rg [(6, .string ⟨((cutM bs).2.1).toArray⟩), (8, .int .i64 bv), (9, .int .i64 0)] fun TA => ?_
       refine W.seq ?_
       refine W.seq (W.region ?_)
       refine RW.val (v := .agg #[.int .i64 33554432, .int .i64 134217728, .int .i64 67108864]) (by kernel_rfl) (by kernel_rfl) (by kernel_rfl) (by kernel_rfl) ?_
       refine RW.v ?_
       refine RW.nil ?_
       refine W.rg [(6, .string ⟨((cutM bs).2.1).toArray⟩), (8, .int .i64 bv), (9, .int .i64 0), (63, .agg #[.int .i64 33554432, .int .i64 134217728, .int .i64 67108864]), (64, .int .i64 0)] fun TA => ?_
       refine W.block ?_
       refine W.unroll (WL.once ?_)
       refine W.seq (W.region ?_)
       refine RW.v ?_
       refine RW.nil ?_
       refine W.rg [(6, .string ⟨((cutM bs).2.1).toArray⟩), (8, .int .i64 bv), (9, .int .i64 0), (63, .agg #[.int .i64 33554432, .int .i64 134217728, .int .i64 67108864]), (64, .int .i64 0), (65, .bool true)] fun TA => ?_
       refine W.seq ?_
       refine W.c1 ?_
       refine W.skip ?_
       refine W.seq ?_
       refine W.block ?_
       refine W.seq (W.region ?_)
       refine RW.v ?_
       refine RW.val (v := .int .i64 33554432) (by kernel_rfl) (by kernel_rfl) (by kernel_rfl) (by kernel_rfl) ?_
       iterate 2 refine RW.v ?_
       refine RW.nil ?_
       refine W.rg [(6, .string ⟨((cutM bs).2.1).toArray⟩), (8, .int .i64 bv), (9, .int .i64 0), (10, .int .i64 0), (11, .int .i64 33554432), (63, .agg #[.int .i64 33554432, .int .i64 134217728, .int .i64 67108864]), (64, .int .i64 0)] fun TA => ?_
       refine W.seq (W.region ?_)
       refine RW.v ?_
       refine RW.vop (v := .int .u8 53) (by kernel_rfl) (by kernel_rfl) (vop_sAtE (a := (cutM bs).2.1) (j := 0) hm0 rfl rfl rfl Tryd.underlying9 (by omega)) (by kernel_rfl) ?_
       iterate 2 refine RW.v ?_
       refine RW.valE (v' := .int .u8 4) (by kernel_rfl) (by kernel_rfl) rfl (by kernel_rfl) (by kernel_rfl) ?_
       refine RW.valE (v' := .int .u8 0) (by kernel_rfl) (by kernel_rfl) rfl (by kernel_rfl) (by kernel_rfl) ?_
       refine RW.v ?_
       refine RW.nil ?_
       refine W.c0 ?_
       refine W.skip ?_
       refine blkQ_normal ?_
       refine W.region ?_
       iterate 2 refine RW.v ?_
       refine RW.nil ?_
       refine WL.once ?_
       refine W.rg [(6, .string ⟨((cutM bs).2.1).toArray⟩), (8, .int .i64 bv), (9, .int .i64 0), (63, .agg #[.int .i64 33554432, .int .i64 134217728, .int .i64 67108864]), (64, .int .i64 1)] fun TA => ?_
       refine W.seq (W.region ?_)
       refine RW.v ?_
       refine RW.nil ?_
       refine W.rg [(6, .string ⟨((cutM bs).2.1).toArray⟩), (8, .int .i64 bv), (9, .int .i64 0), (63, .agg #[.int .i64 33554432, .int .i64 134217728, .int .i64 67108864]), (64, .int .i64 1), (65, .bool true)] fun TA => ?_
       refine W.seq ?_
       refine W.c1 ?_
       refine W.skip ?_
       refine W.seq ?_
       refine W.block ?_
       refine W.seq (W.region ?_)
       refine RW.v ?_
       refine RW.val (v := .int .i64 134217728) (by kernel_rfl) (by kernel_rfl) (by kernel_rfl) (by kernel_rfl) ?_
       iterate 2 refine RW.v ?_
       refine RW.nil ?_
       refine W.rg [(6, .string ⟨((cutM bs).2.1).toArray⟩), (8, .int .i64 bv), (9, .int .i64 0), (10, .int .i64 1), (11, .int .i64 134217728), (63, .agg #[.int .i64 33554432, .int .i64 134217728, .int .i64 67108864]), (64, .int .i64 1)] fun TA => ?_
       refine W.seq (W.region ?_)
       refine RW.v ?_
       refine RW.vop (v := .int .u8 53) (by kernel_rfl) (by kernel_rfl) (vop_sAtE (a := (cutM bs).2.1) (j := 0) hm0 rfl rfl rfl Tryd.underlying9 (by omega)) (by kernel_rfl) ?_
       iterate 2 refine RW.v ?_
       refine RW.valE (v' := .int .u8 2) (by kernel_rfl) (by kernel_rfl) rfl (by kernel_rfl) (by kernel_rfl) ?_
       refine RW.valE (v' := .int .u8 0) (by kernel_rfl) (by kernel_rfl) rfl (by kernel_rfl) (by kernel_rfl) ?_
       refine RW.v ?_
       refine RW.nil ?_
       refine W.c0 ?_
       refine W.skip ?_
       refine blkQ_normal ?_
       refine W.region ?_
       iterate 2 refine RW.v ?_
       refine RW.nil ?_
       refine WL.once ?_
       refine W.rg [(6, .string ⟨((cutM bs).2.1).toArray⟩), (8, .int .i64 bv), (9, .int .i64 0), (63, .agg #[.int .i64 33554432, .int .i64 134217728, .int .i64 67108864]), (64, .int .i64 2)] fun TA => ?_
       refine W.seq (W.region ?_)
       refine RW.v ?_
       refine RW.nil ?_
       refine W.rg [(6, .string ⟨((cutM bs).2.1).toArray⟩), (8, .int .i64 bv), (9, .int .i64 0), (63, .agg #[.int .i64 33554432, .int .i64 134217728, .int .i64 67108864]), (64, .int .i64 2), (65, .bool true)] fun TA => ?_
       refine W.seq ?_
       refine W.c1 ?_
       refine W.skip ?_
       refine W.seq ?_
       refine W.block ?_
       refine W.seq (W.region ?_)
       refine RW.v ?_
       refine RW.val (v := .int .i64 67108864) (by kernel_rfl) (by kernel_rfl) (by kernel_rfl) (by kernel_rfl) ?_
       iterate 2 refine RW.v ?_
       refine RW.nil ?_
       refine W.rg [(6, .string ⟨((cutM bs).2.1).toArray⟩), (8, .int .i64 bv), (9, .int .i64 0), (10, .int .i64 2), (11, .int .i64 67108864), (63, .agg #[.int .i64 33554432, .int .i64 134217728, .int .i64 67108864]), (64, .int .i64 2)] fun TA => ?_
       refine W.seq (W.region ?_)
       refine RW.v ?_
       refine RW.vop (v := .int .u8 53) (by kernel_rfl) (by kernel_rfl) (vop_sAtE (a := (cutM bs).2.1) (j := 0) hm0 rfl rfl rfl Tryd.underlying9 (by omega)) (by kernel_rfl) ?_
       iterate 2 refine RW.v ?_
       refine RW.valE (v' := .int .u8 1) (by kernel_rfl) (by kernel_rfl) rfl (by kernel_rfl) (by kernel_rfl) ?_
       refine RW.valE (v' := .int .u8 1) (by kernel_rfl) (by kernel_rfl) rfl (by kernel_rfl) (by kernel_rfl) ?_
       refine RW.v ?_
       refine RW.nil ?_
       refine W.c1 ?_
       refine W.region ?_
       iterate 2 refine RW.v ?_
       refine RW.valE (v' := .int .i64 67108864) (by kernel_rfl) (by kernel_rfl) rfl (by kernel_rfl) (by kernel_rfl) ?_
       refine RW.v ?_
       refine RW.nil ?_
       refine blkQ_normal ?_
       refine W.rg [(6, .string ⟨((cutM bs).2.1).toArray⟩), (8, .int .i64 bv), (9, .int .i64 67108864), (63, .agg #[.int .i64 33554432, .int .i64 134217728, .int .i64 67108864]), (64, .int .i64 2)] fun TA => ?_
       refine W.region ?_
       iterate 2 refine RW.v ?_
       refine RW.nil ?_
       refine WL.once ?_
       refine W.rg [(6, .string ⟨((cutM bs).2.1).toArray⟩), (8, .int .i64 bv), (9, .int .i64 67108864), (63, .agg #[.int .i64 33554432, .int .i64 134217728, .int .i64 67108864]), (64, .int .i64 3)] fun TA => ?_
       refine W.seq (W.region ?_)
       refine RW.v ?_
       refine RW.nil ?_
       refine W.rg [(6, .string ⟨((cutM bs).2.1).toArray⟩), (8, .int .i64 bv), (9, .int .i64 67108864), (63, .agg #[.int .i64 33554432, .int .i64 134217728, .int .i64 67108864]), (64, .int .i64 3), (65, .bool false)] fun TA => ?_
       refine W.seq ?_
       refine W.c0 ?_
       refine W.exit _ ?_
       refine seqQ_exit ?_
       refine onceQ_exit ?_
       refine blkQ_here ?_
       refine W.seq (W.region ?_)
       iterate 2 refine RW.v ?_
       refine RW.cl ?_
       refine ((make_yes bv 2 hI (by decide) (by decide) _).mono ?_)
       rintro _ _ ⟨rfl, rfl⟩
       iterate 5 refine RW.v ?_
       refine RW.nil ?_
       refine W.rg [(12, .int .i64 (mkE bv 2))] fun TA => ?_
       refine W.seq (W.region ?_)
       iterate 2 refine RW.v ?_
       refine RW.nil ?_
       refine W.ret ?_
       refine endG (by rfl) (by exact resL_tmp rfl) ?_
       have es : seqM bs fin = (mkE bv 2) := by unfold seqM; rw [← hbv, if_neg (fun k => k.elim (fun k => by omega) fun k => by rw [g3] at k; cases k), if_neg (by omega), hm0]; rfl
       rw [es]
       exact ⟨rfl, H⟩
      ·refine RW.v ?_
       refine RW.nil ?_
       refine W.rg [(6, .string ⟨((cutM bs).2.1).toArray⟩), (8, .int .i64 bv), (9, .int .i64 0)] fun TA => ?_
       refine W.seq ?_
       refine W.seq (W.region ?_)
       refine RW.val (v := .agg #[.int .i64 33554432, .int .i64 134217728, .int .i64 67108864]) (by kernel_rfl) (by kernel_rfl) (by kernel_rfl) (by kernel_rfl) ?_
       refine RW.v ?_
       refine RW.nil ?_
       refine W.rg [(6, .string ⟨((cutM bs).2.1).toArray⟩), (8, .int .i64 bv), (9, .int .i64 0), (63, .agg #[.int .i64 33554432, .int .i64 134217728, .int .i64 67108864]), (64, .int .i64 0)] fun TA => ?_
       refine W.block ?_
       refine W.unroll (WL.once ?_)
       refine W.seq (W.region ?_)
       refine RW.v ?_
       refine RW.nil ?_
       refine W.rg [(6, .string ⟨((cutM bs).2.1).toArray⟩), (8, .int .i64 bv), (9, .int .i64 0), (63, .agg #[.int .i64 33554432, .int .i64 134217728, .int .i64 67108864]), (64, .int .i64 0), (65, .bool true)] fun TA => ?_
       refine W.seq ?_
       refine W.c1 ?_
       refine W.skip ?_
       refine W.seq ?_
       refine W.block ?_
       refine W.seq (W.region ?_)
       refine RW.v ?_
       refine RW.val (v := .int .i64 33554432) (by kernel_rfl) (by kernel_rfl) (by kernel_rfl) (by kernel_rfl) ?_
       iterate 2 refine RW.v ?_
       refine RW.nil ?_
       refine W.rg [(6, .string ⟨((cutM bs).2.1).toArray⟩), (8, .int .i64 bv), (9, .int .i64 0), (10, .int .i64 0), (11, .int .i64 33554432), (63, .agg #[.int .i64 33554432, .int .i64 134217728, .int .i64 67108864]), (64, .int .i64 0)] fun TA => ?_
       refine W.seq (W.region ?_)
       refine RW.v ?_
       refine RW.vop (v := .int .u8 54) (by kernel_rfl) (by kernel_rfl) (vop_sAtE (a := (cutM bs).2.1) (j := 0) hm0 rfl rfl rfl Tryd.underlying9 (by omega)) (by kernel_rfl) ?_
       iterate 2 refine RW.v ?_
       refine RW.valE (v' := .int .u8 5) (by kernel_rfl) (by kernel_rfl) rfl (by kernel_rfl) (by kernel_rfl) ?_
       refine RW.valE (v' := .int .u8 1) (by kernel_rfl) (by kernel_rfl) rfl (by kernel_rfl) (by kernel_rfl) ?_
       refine RW.v ?_
       refine RW.nil ?_
       refine W.c1 ?_
       refine W.region ?_
       iterate 2 refine RW.v ?_
       refine RW.valE (v' := .int .i64 33554432) (by kernel_rfl) (by kernel_rfl) rfl (by kernel_rfl) (by kernel_rfl) ?_
       refine RW.v ?_
       refine RW.nil ?_
       refine blkQ_normal ?_
       refine W.rg [(6, .string ⟨((cutM bs).2.1).toArray⟩), (8, .int .i64 bv), (9, .int .i64 33554432), (63, .agg #[.int .i64 33554432, .int .i64 134217728, .int .i64 67108864]), (64, .int .i64 0)] fun TA => ?_
       refine W.region ?_
       iterate 2 refine RW.v ?_
       refine RW.nil ?_
       refine WL.once ?_
       refine W.rg [(6, .string ⟨((cutM bs).2.1).toArray⟩), (8, .int .i64 bv), (9, .int .i64 33554432), (63, .agg #[.int .i64 33554432, .int .i64 134217728, .int .i64 67108864]), (64, .int .i64 1)] fun TA => ?_
       refine W.seq (W.region ?_)
       refine RW.v ?_
       refine RW.nil ?_
       refine W.rg [(6, .string ⟨((cutM bs).2.1).toArray⟩), (8, .int .i64 bv), (9, .int .i64 33554432), (63, .agg #[.int .i64 33554432, .int .i64 134217728, .int .i64 67108864]), (64, .int .i64 1), (65, .bool true)] fun TA => ?_
       refine W.seq ?_
       refine W.c1 ?_
       refine W.skip ?_
       refine W.seq ?_
       refine W.block ?_
       refine W.seq (W.region ?_)
       refine RW.v ?_
       refine RW.val (v := .int .i64 134217728) (by kernel_rfl) (by kernel_rfl) (by kernel_rfl) (by kernel_rfl) ?_
       iterate 2 refine RW.v ?_
       refine RW.nil ?_
       refine W.rg [(6, .string ⟨((cutM bs).2.1).toArray⟩), (8, .int .i64 bv), (9, .int .i64 33554432), (10, .int .i64 1), (11, .int .i64 134217728), (63, .agg #[.int .i64 33554432, .int .i64 134217728, .int .i64 67108864]), (64, .int .i64 1)] fun TA => ?_
       refine W.seq (W.region ?_)
       refine RW.v ?_
       refine RW.vop (v := .int .u8 54) (by kernel_rfl) (by kernel_rfl) (vop_sAtE (a := (cutM bs).2.1) (j := 0) hm0 rfl rfl rfl Tryd.underlying9 (by omega)) (by kernel_rfl) ?_
       iterate 2 refine RW.v ?_
       refine RW.valE (v' := .int .u8 2) (by kernel_rfl) (by kernel_rfl) rfl (by kernel_rfl) (by kernel_rfl) ?_
       refine RW.valE (v' := .int .u8 0) (by kernel_rfl) (by kernel_rfl) rfl (by kernel_rfl) (by kernel_rfl) ?_
       refine RW.v ?_
       refine RW.nil ?_
       refine W.c0 ?_
       refine W.skip ?_
       refine blkQ_normal ?_
       refine W.region ?_
       iterate 2 refine RW.v ?_
       refine RW.nil ?_
       refine WL.once ?_
       refine W.rg [(6, .string ⟨((cutM bs).2.1).toArray⟩), (8, .int .i64 bv), (9, .int .i64 33554432), (63, .agg #[.int .i64 33554432, .int .i64 134217728, .int .i64 67108864]), (64, .int .i64 2)] fun TA => ?_
       refine W.seq (W.region ?_)
       refine RW.v ?_
       refine RW.nil ?_
       refine W.rg [(6, .string ⟨((cutM bs).2.1).toArray⟩), (8, .int .i64 bv), (9, .int .i64 33554432), (63, .agg #[.int .i64 33554432, .int .i64 134217728, .int .i64 67108864]), (64, .int .i64 2), (65, .bool true)] fun TA => ?_
       refine W.seq ?_
       refine W.c1 ?_
       refine W.skip ?_
       refine W.seq ?_
       refine W.block ?_
       refine W.seq (W.region ?_)
       refine RW.v ?_
       refine RW.val (v := .int .i64 67108864) (by kernel_rfl) (by kernel_rfl) (by kernel_rfl) (by kernel_rfl) ?_
       iterate 2 refine RW.v ?_
       refine RW.nil ?_
       refine W.rg [(6, .string ⟨((cutM bs).2.1).toArray⟩), (8, .int .i64 bv), (9, .int .i64 33554432), (10, .int .i64 2), (11, .int .i64 67108864), (63, .agg #[.int .i64 33554432, .int .i64 134217728, .int .i64 67108864]), (64, .int .i64 2)] fun TA => ?_
       refine W.seq (W.region ?_)
       refine RW.v ?_
       refine RW.vop (v := .int .u8 54) (by kernel_rfl) (by kernel_rfl) (vop_sAtE (a := (cutM bs).2.1) (j := 0) hm0 rfl rfl rfl Tryd.underlying9 (by omega)) (by kernel_rfl) ?_
       iterate 2 refine RW.v ?_
       refine RW.valE (v' := .int .u8 1) (by kernel_rfl) (by kernel_rfl) rfl (by kernel_rfl) (by kernel_rfl) ?_
       refine RW.valE (v' := .int .u8 1) (by kernel_rfl) (by kernel_rfl) rfl (by kernel_rfl) (by kernel_rfl) ?_
       refine RW.v ?_
       refine RW.nil ?_
       refine W.c1 ?_
       refine W.region ?_
       iterate 2 refine RW.v ?_
       refine RW.valE (v' := .int .i64 100663296) (by kernel_rfl) (by kernel_rfl) rfl (by kernel_rfl) (by kernel_rfl) ?_
       refine RW.v ?_
       refine RW.nil ?_
       refine blkQ_normal ?_
       refine W.rg [(6, .string ⟨((cutM bs).2.1).toArray⟩), (8, .int .i64 bv), (9, .int .i64 100663296), (63, .agg #[.int .i64 33554432, .int .i64 134217728, .int .i64 67108864]), (64, .int .i64 2)] fun TA => ?_
       refine W.region ?_
       iterate 2 refine RW.v ?_
       refine RW.nil ?_
       refine WL.once ?_
       refine W.rg [(6, .string ⟨((cutM bs).2.1).toArray⟩), (8, .int .i64 bv), (9, .int .i64 100663296), (63, .agg #[.int .i64 33554432, .int .i64 134217728, .int .i64 67108864]), (64, .int .i64 3)] fun TA => ?_
       refine W.seq (W.region ?_)
       refine RW.v ?_
       refine RW.nil ?_
       refine W.rg [(6, .string ⟨((cutM bs).2.1).toArray⟩), (8, .int .i64 bv), (9, .int .i64 100663296), (63, .agg #[.int .i64 33554432, .int .i64 134217728, .int .i64 67108864]), (64, .int .i64 3), (65, .bool false)] fun TA => ?_
       refine W.seq ?_
       refine W.c0 ?_
       refine W.exit _ ?_
       refine seqQ_exit ?_
       refine onceQ_exit ?_
       refine blkQ_here ?_
       refine W.seq (W.region ?_)
       iterate 2 refine RW.v ?_
       refine RW.cl ?_
       refine ((make_yes bv 3 hI (by decide) (by decide) _).mono ?_)
       rintro _ _ ⟨rfl, rfl⟩
       iterate 5 refine RW.v ?_
       refine RW.nil ?_
       refine W.rg [(12, .int .i64 (mkE bv 3))] fun TA => ?_
       refine W.seq (W.region ?_)
       iterate 2 refine RW.v ?_
       refine RW.nil ?_
       refine W.ret ?_
       refine endG (by rfl) (by exact resL_tmp rfl) ?_
       have es : seqM bs fin = (mkE bv 3) := by unfold seqM; rw [← hbv, if_neg (fun k => k.elim (fun k => by omega) fun k => by rw [g3] at k; cases k), if_neg (by omega), hm0]; rfl
       rw [es]
       exact ⟨rfl, H⟩
      ·refine RW.v ?_
       refine RW.nil ?_
       refine W.rg [(6, .string ⟨((cutM bs).2.1).toArray⟩), (8, .int .i64 bv), (9, .int .i64 0)] fun TA => ?_
       refine W.seq ?_
       refine W.seq (W.region ?_)
       refine RW.val (v := .agg #[.int .i64 33554432, .int .i64 134217728, .int .i64 67108864]) (by kernel_rfl) (by kernel_rfl) (by kernel_rfl) (by kernel_rfl) ?_
       refine RW.v ?_
       refine RW.nil ?_
       refine W.rg [(6, .string ⟨((cutM bs).2.1).toArray⟩), (8, .int .i64 bv), (9, .int .i64 0), (63, .agg #[.int .i64 33554432, .int .i64 134217728, .int .i64 67108864]), (64, .int .i64 0)] fun TA => ?_
       refine W.block ?_
       refine W.unroll (WL.once ?_)
       refine W.seq (W.region ?_)
       refine RW.v ?_
       refine RW.nil ?_
       refine W.rg [(6, .string ⟨((cutM bs).2.1).toArray⟩), (8, .int .i64 bv), (9, .int .i64 0), (63, .agg #[.int .i64 33554432, .int .i64 134217728, .int .i64 67108864]), (64, .int .i64 0), (65, .bool true)] fun TA => ?_
       refine W.seq ?_
       refine W.c1 ?_
       refine W.skip ?_
       refine W.seq ?_
       refine W.block ?_
       refine W.seq (W.region ?_)
       refine RW.v ?_
       refine RW.val (v := .int .i64 33554432) (by kernel_rfl) (by kernel_rfl) (by kernel_rfl) (by kernel_rfl) ?_
       iterate 2 refine RW.v ?_
       refine RW.nil ?_
       refine W.rg [(6, .string ⟨((cutM bs).2.1).toArray⟩), (8, .int .i64 bv), (9, .int .i64 0), (10, .int .i64 0), (11, .int .i64 33554432), (63, .agg #[.int .i64 33554432, .int .i64 134217728, .int .i64 67108864]), (64, .int .i64 0)] fun TA => ?_
       refine W.seq (W.region ?_)
       refine RW.v ?_
       refine RW.vop (v := .int .u8 55) (by kernel_rfl) (by kernel_rfl) (vop_sAtE (a := (cutM bs).2.1) (j := 0) hm0 rfl rfl rfl Tryd.underlying9 (by omega)) (by kernel_rfl) ?_
       iterate 2 refine RW.v ?_
       refine RW.valE (v' := .int .u8 6) (by kernel_rfl) (by kernel_rfl) rfl (by kernel_rfl) (by kernel_rfl) ?_
       refine RW.valE (v' := .int .u8 0) (by kernel_rfl) (by kernel_rfl) rfl (by kernel_rfl) (by kernel_rfl) ?_
       refine RW.v ?_
       refine RW.nil ?_
       refine W.c0 ?_
       refine W.skip ?_
       refine blkQ_normal ?_
       refine W.region ?_
       iterate 2 refine RW.v ?_
       refine RW.nil ?_
       refine WL.once ?_
       refine W.rg [(6, .string ⟨((cutM bs).2.1).toArray⟩), (8, .int .i64 bv), (9, .int .i64 0), (63, .agg #[.int .i64 33554432, .int .i64 134217728, .int .i64 67108864]), (64, .int .i64 1)] fun TA => ?_
       refine W.seq (W.region ?_)
       refine RW.v ?_
       refine RW.nil ?_
       refine W.rg [(6, .string ⟨((cutM bs).2.1).toArray⟩), (8, .int .i64 bv), (9, .int .i64 0), (63, .agg #[.int .i64 33554432, .int .i64 134217728, .int .i64 67108864]), (64, .int .i64 1), (65, .bool true)] fun TA => ?_
       refine W.seq ?_
       refine W.c1 ?_
       refine W.skip ?_
       refine W.seq ?_
       refine W.block ?_
       refine W.seq (W.region ?_)
       refine RW.v ?_
       refine RW.val (v := .int .i64 134217728) (by kernel_rfl) (by kernel_rfl) (by kernel_rfl) (by kernel_rfl) ?_
       iterate 2 refine RW.v ?_
       refine RW.nil ?_
       refine W.rg [(6, .string ⟨((cutM bs).2.1).toArray⟩), (8, .int .i64 bv), (9, .int .i64 0), (10, .int .i64 1), (11, .int .i64 134217728), (63, .agg #[.int .i64 33554432, .int .i64 134217728, .int .i64 67108864]), (64, .int .i64 1)] fun TA => ?_
       refine W.seq (W.region ?_)
       refine RW.v ?_
       refine RW.vop (v := .int .u8 55) (by kernel_rfl) (by kernel_rfl) (vop_sAtE (a := (cutM bs).2.1) (j := 0) hm0 rfl rfl rfl Tryd.underlying9 (by omega)) (by kernel_rfl) ?_
       iterate 2 refine RW.v ?_
       refine RW.valE (v' := .int .u8 3) (by kernel_rfl) (by kernel_rfl) rfl (by kernel_rfl) (by kernel_rfl) ?_
       refine RW.valE (v' := .int .u8 1) (by kernel_rfl) (by kernel_rfl) rfl (by kernel_rfl) (by kernel_rfl) ?_
       refine RW.v ?_
       refine RW.nil ?_
       refine W.c1 ?_
       refine W.region ?_
       iterate 2 refine RW.v ?_
       refine RW.valE (v' := .int .i64 134217728) (by kernel_rfl) (by kernel_rfl) rfl (by kernel_rfl) (by kernel_rfl) ?_
       refine RW.v ?_
       refine RW.nil ?_
       refine blkQ_normal ?_
       refine W.rg [(6, .string ⟨((cutM bs).2.1).toArray⟩), (8, .int .i64 bv), (9, .int .i64 134217728), (63, .agg #[.int .i64 33554432, .int .i64 134217728, .int .i64 67108864]), (64, .int .i64 1)] fun TA => ?_
       refine W.region ?_
       iterate 2 refine RW.v ?_
       refine RW.nil ?_
       refine WL.once ?_
       refine W.rg [(6, .string ⟨((cutM bs).2.1).toArray⟩), (8, .int .i64 bv), (9, .int .i64 134217728), (63, .agg #[.int .i64 33554432, .int .i64 134217728, .int .i64 67108864]), (64, .int .i64 2)] fun TA => ?_
       refine W.seq (W.region ?_)
       refine RW.v ?_
       refine RW.nil ?_
       refine W.rg [(6, .string ⟨((cutM bs).2.1).toArray⟩), (8, .int .i64 bv), (9, .int .i64 134217728), (63, .agg #[.int .i64 33554432, .int .i64 134217728, .int .i64 67108864]), (64, .int .i64 2), (65, .bool true)] fun TA => ?_
       refine W.seq ?_
       refine W.c1 ?_
       refine W.skip ?_
       refine W.seq ?_
       refine W.block ?_
       refine W.seq (W.region ?_)
       refine RW.v ?_
       refine RW.val (v := .int .i64 67108864) (by kernel_rfl) (by kernel_rfl) (by kernel_rfl) (by kernel_rfl) ?_
       iterate 2 refine RW.v ?_
       refine RW.nil ?_
       refine W.rg [(6, .string ⟨((cutM bs).2.1).toArray⟩), (8, .int .i64 bv), (9, .int .i64 134217728), (10, .int .i64 2), (11, .int .i64 67108864), (63, .agg #[.int .i64 33554432, .int .i64 134217728, .int .i64 67108864]), (64, .int .i64 2)] fun TA => ?_
       refine W.seq (W.region ?_)
       refine RW.v ?_
       refine RW.vop (v := .int .u8 55) (by kernel_rfl) (by kernel_rfl) (vop_sAtE (a := (cutM bs).2.1) (j := 0) hm0 rfl rfl rfl Tryd.underlying9 (by omega)) (by kernel_rfl) ?_
       iterate 2 refine RW.v ?_
       refine RW.valE (v' := .int .u8 1) (by kernel_rfl) (by kernel_rfl) rfl (by kernel_rfl) (by kernel_rfl) ?_
       refine RW.valE (v' := .int .u8 1) (by kernel_rfl) (by kernel_rfl) rfl (by kernel_rfl) (by kernel_rfl) ?_
       refine RW.v ?_
       refine RW.nil ?_
       refine W.c1 ?_
       refine W.region ?_
       iterate 2 refine RW.v ?_
       refine RW.valE (v' := .int .i64 201326592) (by kernel_rfl) (by kernel_rfl) rfl (by kernel_rfl) (by kernel_rfl) ?_
       refine RW.v ?_
       refine RW.nil ?_
       refine blkQ_normal ?_
       refine W.rg [(6, .string ⟨((cutM bs).2.1).toArray⟩), (8, .int .i64 bv), (9, .int .i64 201326592), (63, .agg #[.int .i64 33554432, .int .i64 134217728, .int .i64 67108864]), (64, .int .i64 2)] fun TA => ?_
       refine W.region ?_
       iterate 2 refine RW.v ?_
       refine RW.nil ?_
       refine WL.once ?_
       refine W.rg [(6, .string ⟨((cutM bs).2.1).toArray⟩), (8, .int .i64 bv), (9, .int .i64 201326592), (63, .agg #[.int .i64 33554432, .int .i64 134217728, .int .i64 67108864]), (64, .int .i64 3)] fun TA => ?_
       refine W.seq (W.region ?_)
       refine RW.v ?_
       refine RW.nil ?_
       refine W.rg [(6, .string ⟨((cutM bs).2.1).toArray⟩), (8, .int .i64 bv), (9, .int .i64 201326592), (63, .agg #[.int .i64 33554432, .int .i64 134217728, .int .i64 67108864]), (64, .int .i64 3), (65, .bool false)] fun TA => ?_
       refine W.seq ?_
       refine W.c0 ?_
       refine W.exit _ ?_
       refine seqQ_exit ?_
       refine onceQ_exit ?_
       refine blkQ_here ?_
       refine W.seq (W.region ?_)
       iterate 2 refine RW.v ?_
       refine RW.cl ?_
       refine ((make_yes bv 6 hI (by decide) (by decide) _).mono ?_)
       rintro _ _ ⟨rfl, rfl⟩
       iterate 5 refine RW.v ?_
       refine RW.nil ?_
       refine W.rg [(12, .int .i64 (mkE bv 6))] fun TA => ?_
       refine W.seq (W.region ?_)
       iterate 2 refine RW.v ?_
       refine RW.nil ?_
       refine W.ret ?_
       refine endG (by rfl) (by exact resL_tmp rfl) ?_
       have es : seqM bs fin = (mkE bv 6) := by unfold seqM; rw [← hbv, if_neg (fun k => k.elim (fun k => by omega) fun k => by rw [g3] at k; cases k), if_neg (by omega), hm0]; rfl
       rw [es]
       exact ⟨rfl, H⟩
      ·refine RW.v ?_
       refine RW.nil ?_
       refine W.rg [(6, .string ⟨((cutM bs).2.1).toArray⟩), (8, .int .i64 bv), (9, .int .i64 0)] fun TA => ?_
       refine W.seq ?_
       refine W.seq (W.region ?_)
       refine RW.val (v := .agg #[.int .i64 33554432, .int .i64 134217728, .int .i64 67108864]) (by kernel_rfl) (by kernel_rfl) (by kernel_rfl) (by kernel_rfl) ?_
       refine RW.v ?_
       refine RW.nil ?_
       refine W.rg [(6, .string ⟨((cutM bs).2.1).toArray⟩), (8, .int .i64 bv), (9, .int .i64 0), (63, .agg #[.int .i64 33554432, .int .i64 134217728, .int .i64 67108864]), (64, .int .i64 0)] fun TA => ?_
       refine W.block ?_
       refine W.unroll (WL.once ?_)
       refine W.seq (W.region ?_)
       refine RW.v ?_
       refine RW.nil ?_
       refine W.rg [(6, .string ⟨((cutM bs).2.1).toArray⟩), (8, .int .i64 bv), (9, .int .i64 0), (63, .agg #[.int .i64 33554432, .int .i64 134217728, .int .i64 67108864]), (64, .int .i64 0), (65, .bool true)] fun TA => ?_
       refine W.seq ?_
       refine W.c1 ?_
       refine W.skip ?_
       refine W.seq ?_
       refine W.block ?_
       refine W.seq (W.region ?_)
       refine RW.v ?_
       refine RW.val (v := .int .i64 33554432) (by kernel_rfl) (by kernel_rfl) (by kernel_rfl) (by kernel_rfl) ?_
       iterate 2 refine RW.v ?_
       refine RW.nil ?_
       refine W.rg [(6, .string ⟨((cutM bs).2.1).toArray⟩), (8, .int .i64 bv), (9, .int .i64 0), (10, .int .i64 0), (11, .int .i64 33554432), (63, .agg #[.int .i64 33554432, .int .i64 134217728, .int .i64 67108864]), (64, .int .i64 0)] fun TA => ?_
       refine W.seq (W.region ?_)
       refine RW.v ?_
       refine RW.vop (v := .int .u8 56) (by kernel_rfl) (by kernel_rfl) (vop_sAtE (a := (cutM bs).2.1) (j := 0) hm0 rfl rfl rfl Tryd.underlying9 (by omega)) (by kernel_rfl) ?_
       iterate 2 refine RW.v ?_
       refine RW.valE (v' := .int .u8 7) (by kernel_rfl) (by kernel_rfl) rfl (by kernel_rfl) (by kernel_rfl) ?_
       refine RW.valE (v' := .int .u8 1) (by kernel_rfl) (by kernel_rfl) rfl (by kernel_rfl) (by kernel_rfl) ?_
       refine RW.v ?_
       refine RW.nil ?_
       refine W.c1 ?_
       refine W.region ?_
       iterate 2 refine RW.v ?_
       refine RW.valE (v' := .int .i64 33554432) (by kernel_rfl) (by kernel_rfl) rfl (by kernel_rfl) (by kernel_rfl) ?_
       refine RW.v ?_
       refine RW.nil ?_
       refine blkQ_normal ?_
       refine W.rg [(6, .string ⟨((cutM bs).2.1).toArray⟩), (8, .int .i64 bv), (9, .int .i64 33554432), (63, .agg #[.int .i64 33554432, .int .i64 134217728, .int .i64 67108864]), (64, .int .i64 0)] fun TA => ?_
       refine W.region ?_
       iterate 2 refine RW.v ?_
       refine RW.nil ?_
       refine WL.once ?_
       refine W.rg [(6, .string ⟨((cutM bs).2.1).toArray⟩), (8, .int .i64 bv), (9, .int .i64 33554432), (63, .agg #[.int .i64 33554432, .int .i64 134217728, .int .i64 67108864]), (64, .int .i64 1)] fun TA => ?_
       refine W.seq (W.region ?_)
       refine RW.v ?_
       refine RW.nil ?_
       refine W.rg [(6, .string ⟨((cutM bs).2.1).toArray⟩), (8, .int .i64 bv), (9, .int .i64 33554432), (63, .agg #[.int .i64 33554432, .int .i64 134217728, .int .i64 67108864]), (64, .int .i64 1), (65, .bool true)] fun TA => ?_
       refine W.seq ?_
       refine W.c1 ?_
       refine W.skip ?_
       refine W.seq ?_
       refine W.block ?_
       refine W.seq (W.region ?_)
       refine RW.v ?_
       refine RW.val (v := .int .i64 134217728) (by kernel_rfl) (by kernel_rfl) (by kernel_rfl) (by kernel_rfl) ?_
       iterate 2 refine RW.v ?_
       refine RW.nil ?_
       refine W.rg [(6, .string ⟨((cutM bs).2.1).toArray⟩), (8, .int .i64 bv), (9, .int .i64 33554432), (10, .int .i64 1), (11, .int .i64 134217728), (63, .agg #[.int .i64 33554432, .int .i64 134217728, .int .i64 67108864]), (64, .int .i64 1)] fun TA => ?_
       refine W.seq (W.region ?_)
       refine RW.v ?_
       refine RW.vop (v := .int .u8 56) (by kernel_rfl) (by kernel_rfl) (vop_sAtE (a := (cutM bs).2.1) (j := 0) hm0 rfl rfl rfl Tryd.underlying9 (by omega)) (by kernel_rfl) ?_
       iterate 2 refine RW.v ?_
       refine RW.valE (v' := .int .u8 3) (by kernel_rfl) (by kernel_rfl) rfl (by kernel_rfl) (by kernel_rfl) ?_
       refine RW.valE (v' := .int .u8 1) (by kernel_rfl) (by kernel_rfl) rfl (by kernel_rfl) (by kernel_rfl) ?_
       refine RW.v ?_
       refine RW.nil ?_
       refine W.c1 ?_
       refine W.region ?_
       iterate 2 refine RW.v ?_
       refine RW.valE (v' := .int .i64 167772160) (by kernel_rfl) (by kernel_rfl) rfl (by kernel_rfl) (by kernel_rfl) ?_
       refine RW.v ?_
       refine RW.nil ?_
       refine blkQ_normal ?_
       refine W.rg [(6, .string ⟨((cutM bs).2.1).toArray⟩), (8, .int .i64 bv), (9, .int .i64 167772160), (63, .agg #[.int .i64 33554432, .int .i64 134217728, .int .i64 67108864]), (64, .int .i64 1)] fun TA => ?_
       refine W.region ?_
       iterate 2 refine RW.v ?_
       refine RW.nil ?_
       refine WL.once ?_
       refine W.rg [(6, .string ⟨((cutM bs).2.1).toArray⟩), (8, .int .i64 bv), (9, .int .i64 167772160), (63, .agg #[.int .i64 33554432, .int .i64 134217728, .int .i64 67108864]), (64, .int .i64 2)] fun TA => ?_
       refine W.seq (W.region ?_)
       refine RW.v ?_
       refine RW.nil ?_
       refine W.rg [(6, .string ⟨((cutM bs).2.1).toArray⟩), (8, .int .i64 bv), (9, .int .i64 167772160), (63, .agg #[.int .i64 33554432, .int .i64 134217728, .int .i64 67108864]), (64, .int .i64 2), (65, .bool true)] fun TA => ?_
       refine W.seq ?_
       refine W.c1 ?_
       refine W.skip ?_
       refine W.seq ?_
       refine W.block ?_
       refine W.seq (W.region ?_)
       refine RW.v ?_
       refine RW.val (v := .int .i64 67108864) (by kernel_rfl) (by kernel_rfl) (by kernel_rfl) (by kernel_rfl) ?_
       iterate 2 refine RW.v ?_
       refine RW.nil ?_
       refine W.rg [(6, .string ⟨((cutM bs).2.1).toArray⟩), (8, .int .i64 bv), (9, .int .i64 167772160), (10, .int .i64 2), (11, .int .i64 67108864), (63, .agg #[.int .i64 33554432, .int .i64 134217728, .int .i64 67108864]), (64, .int .i64 2)] fun TA => ?_
       refine W.seq (W.region ?_)
       refine RW.v ?_
       refine RW.vop (v := .int .u8 56) (by kernel_rfl) (by kernel_rfl) (vop_sAtE (a := (cutM bs).2.1) (j := 0) hm0 rfl rfl rfl Tryd.underlying9 (by omega)) (by kernel_rfl) ?_
       iterate 2 refine RW.v ?_
       refine RW.valE (v' := .int .u8 1) (by kernel_rfl) (by kernel_rfl) rfl (by kernel_rfl) (by kernel_rfl) ?_
       refine RW.valE (v' := .int .u8 1) (by kernel_rfl) (by kernel_rfl) rfl (by kernel_rfl) (by kernel_rfl) ?_
       refine RW.v ?_
       refine RW.nil ?_
       refine W.c1 ?_
       refine W.region ?_
       iterate 2 refine RW.v ?_
       refine RW.valE (v' := .int .i64 234881024) (by kernel_rfl) (by kernel_rfl) rfl (by kernel_rfl) (by kernel_rfl) ?_
       refine RW.v ?_
       refine RW.nil ?_
       refine blkQ_normal ?_
       refine W.rg [(6, .string ⟨((cutM bs).2.1).toArray⟩), (8, .int .i64 bv), (9, .int .i64 234881024), (63, .agg #[.int .i64 33554432, .int .i64 134217728, .int .i64 67108864]), (64, .int .i64 2)] fun TA => ?_
       refine W.region ?_
       iterate 2 refine RW.v ?_
       refine RW.nil ?_
       refine WL.once ?_
       refine W.rg [(6, .string ⟨((cutM bs).2.1).toArray⟩), (8, .int .i64 bv), (9, .int .i64 234881024), (63, .agg #[.int .i64 33554432, .int .i64 134217728, .int .i64 67108864]), (64, .int .i64 3)] fun TA => ?_
       refine W.seq (W.region ?_)
       refine RW.v ?_
       refine RW.nil ?_
       refine W.rg [(6, .string ⟨((cutM bs).2.1).toArray⟩), (8, .int .i64 bv), (9, .int .i64 234881024), (63, .agg #[.int .i64 33554432, .int .i64 134217728, .int .i64 67108864]), (64, .int .i64 3), (65, .bool false)] fun TA => ?_
       refine W.seq ?_
       refine W.c0 ?_
       refine W.exit _ ?_
       refine seqQ_exit ?_
       refine onceQ_exit ?_
       refine blkQ_here ?_
       refine W.seq (W.region ?_)
       iterate 2 refine RW.v ?_
       refine RW.cl ?_
       refine ((make_yes bv 7 hI (by decide) (by decide) _).mono ?_)
       rintro _ _ ⟨rfl, rfl⟩
       iterate 5 refine RW.v ?_
       refine RW.nil ?_
       refine W.rg [(12, .int .i64 (mkE bv 7))] fun TA => ?_
       refine W.seq (W.region ?_)
       iterate 2 refine RW.v ?_
       refine RW.nil ?_
       refine W.ret ?_
       refine endG (by rfl) (by exact resL_tmp rfl) ?_
       have es : seqM bs fin = (mkE bv 7) := by unfold seqM; rw [← hbv, if_neg (fun k => k.elim (fun k => by omega) fun k => by rw [g3] at k; cases k), if_neg (by omega), hm0]; rfl
       rw [es]
       exact ⟨rfl, H⟩
end
end Go.Proofs.YtpjpefcpbkmilaaDoor
namespace Go.Proofs.YtpjpefcpbkmilaaDoor
open Go.Lib
set_option maxRecDepth 100000
def idxM (l : List UInt8) : Int := match l.findIdx? lead with | some i => (i : Int) | none => -1
theorem idxM_none {l : List UInt8} (h : l.findIdx? lead = none) : idxM l = -1 := by unfold idxM; rw [h]
theorem idxM_some {l : List UInt8} {i : Nat} (h : l.findIdx? lead = some i) : idxM l = (i : Int) := by unfold idxM; rw [h]
theorem idxB_hit {p : UInt8 → Bool} : ∀ {l : List UInt8} {k : Nat}, (∀ j, j < k → p (l.getD j 0) = false) → k < l.length → p (l.getD k 0) = true → l.findIdx? p = some k
 | [], _, _, h, _ => absurd h (Nat.not_lt_zero _)
 | x :: l, 0, _, _, h => by
  have h : p x = true := h
  simp [List.findIdx?_cons, h]
 | x :: l, k + 1, h0, h1, h => by
  have e : p x = false := h0 0 (by omega)
  have := idxB_hit (l := l) (k := k) (fun j hj => h0 (j + 1) (by omega)) (by simpa using h1) h
  simp [List.findIdx?_cons, e, this]
theorem idxB_miss {p : UInt8 → Bool} {l : List UInt8} {k : Nat} (h : ∀ j, j < k → p (l.getD j 0) = false) (hk : k = l.length) : l.findIdx? p = none := by
 rw [List.findIdx?_eq_none_iff]
 intro x hx
 obtain ⟨j, hj⟩ := List.getElem?_of_mem hx
 have hj' := (List.getElem?_eq_some_iff.1 hj).1
 have := h j (by omega)
 rw [List.getD_eq_getElem?_getD, hj] at this
 simpa using this
theorem slf_bytes {F : Nat → Option Blk2} {v : Value} {n : Nat} {xs : List Value} {l : List UInt8} (h : SlF F 1 v n xs) (hn : n = l.length) (hx : xs = l.map byteV) : SlF F 1 v l.length (l.map byteV) := by
 subst hn
 subst hx
 exact h
theorem slf_dropN {F : Nat → Option Blk2} {v : Value} {l : List UInt8} {k : Nat} (h : SlK F 1 v (l.length - k) ((l.map byteV).drop k)) : SlF F 1 v (l.drop k).length ((l.drop k).map byteV) := slf_bytes h.slf (by rw [List.length_drop]) (by rw [List.map_drop])
theorem charR_isB {l : List UInt8} (h : 0 ≤ (charR l).1) : IsB (charR l).1 := by
 have := dec_ch l
 unfold charR at h ⊢
 split
 ·rename_i h1
  rw [if_pos h1] at h
  split
  ·rename_i h2
   rw [if_pos h2] at h
   exact absurd h (by decide)
  ·exact isB_of this
 ·rename_i h1
  rw [if_neg h1] at h
  exact absurd h (by decide)
section
variable {G : Nat} {A : Abs} {σ : Mem} {F : Nat → Option Blk2} {L : List Ent}
set_option maxHeartbeats 4000000 in
theorem idx_wc {l : List UInt8} {v : Value} (hs : SlF F 1 v l.length (l.map byteV)) (hn : l.length ≤ 1000000) (H : Lies G A F σ L) : WC G Tryd.prog 57 #[v, .func (.func 58) #[] #[]] σ fun r σ' => r = .int .i64 (idxM l) ∧ Lies G A F σ' L := by
 refine WC.enter (fn := Tryd.f57) Tryd.func57 rfl ?_
 refine W.rg [(0, v), (1, .func (.func 58) #[] #[])] fun TA => ?_
 refine W.seq (W.region ?_)
 refine RW.v ?_
 refine RW.nil ?_
 refine W.rg [(0, v), (1, .func (.func 58) #[] #[])] fun TA => ?_
 refine W.seq ?_
 refine W.seq (W.region ?_)
 refine RW.v ?_
 refine RW.len (by kernel_rfl) (by kernel_rfl) rfl rfl rfl rfl (hs.len (e := 5) (by kernel_rfl)) (by kernel_rfl) ?_
 refine RW.v ?_
 refine RW.nil ?_
 refine W.rg [(0, v), (1, .func (.func 58) #[] #[]), (7, .int .i64 (l.length : Int)), (8, .int .i64 0)] fun TA => ?_
 refine W.block ?_
 refine W.loop (fun mm ta σ => ∃ (i : Nat), (mm + i = l.length) ∧ (∀ j, j < i → lead (l.getD j 0) = false) ∧ Lies G A F σ ((L)) ∧ ta 0 = v ∧ ta 1 = .func (.func 58) #[] #[] ∧ ta 7 = .int .i64 (l.length : Int) ∧ ta 8 = .int .i64 ((i : Nat) : Int)) l.length ?_ ?_
 ·exact ⟨0, (by omega), (fun j hj => absurd hj (Nat.not_lt_zero _)), H, rfl, rfl, rfl, rfl⟩
 clear H
 rintro mm ta _ ⟨i, hm, hk2, H, e0, e1, e7, e8⟩
 refine W.rst [(0, v), (1, .func (.func 58) #[] #[]), (7, .int .i64 (l.length : Int)), (8, .int .i64 ((i : Nat) : Int))] ⟨e0, e1, e7, e8, trivial⟩ fun TA => ?_
 clear e0 e1 e7 e8
 refine W.seq (W.region ?_)
 refine RW.v ?_
 refine RW.nil ?_
 refine W.rg [(0, v), (1, .func (.func 58) #[] #[]), (7, .int .i64 (l.length : Int)), (8, .int .i64 ((i : Nat) : Int)), (9, .bool (decide (((i : Nat) : Int) < (l.length : Int))))] fun TA => ?_
 refine W.seq ?_
 refine W.cond rfl (fun hc1 => ?_) (fun hc1 => ?_)
 ·have hc1b := hc1
  have hc1 := of_decide_eq_true hc1
  refine W.skip ?_
  refine W.seq ?_
  refine W.block ?_
  refine W.seq (W.region ?_)
  iterate 2 refine RW.v ?_
  refine RW.nil ?_
  refine W.rg [(0, v), (1, .func (.func 58) #[] #[]), (5, .int .i64 ((i : Nat) : Int)), (7, .int .i64 (l.length : Int)), (8, .int .i64 ((i : Nat) : Int))] fun TA => ?_
  refine W.seq (W.region ?_)
  iterate 3 refine RW.v ?_
  refine RW.idxF hs (by kernel_rfl) (by kernel_rfl) rfl Tryd.underlying43 (by kernel_rfl) rfl rfl ⟨by omega, by omega⟩ (by kernel_rfl) ?_
  intro b2 q3 r4 hF5 hE6
  rw [bytes_at (l := l) (j := i) (by omega)] at hE6
  refine RW.loads 1 (by kernel_rfl) (by kernel_rfl) rfl rfl (H.old _ _ hF5) hE6 rfl (by kernel_rfl) ?_
  refine RW.cl ?_
  refine WC.enter (fn := Tryd.f58) Tryd.func58 rfl ?_
  refine W.rg [(0, .int .u8 ((l.getD i 0).toNat : Int))] fun TA => ?_
  refine W.seq (W.region ?_)
  refine RW.v ?_
  refine RW.nil ?_
  refine W.rg [(0, .int .u8 ((l.getD i 0).toNat : Int))] fun TA => ?_
  refine W.seq (W.region ?_)
  iterate 3 refine RW.v ?_
  refine RW.both _ _ rfl rfl rfl (fun hc7 => ?_) (fun hc7 => ?_)
  ·have hc7b := hc7
   have hc7 := of_decide_eq_true hc7
   refine RW.skip (by rfl) (by kernel_rfl) ?_
   refine RW.skip (by rfl) (by kernel_rfl) ?_
   iterate 2 refine RW.v ?_
   refine RW.nil ?_
   refine W.ret ?_
   refine endG (by rfl) (by exact resL_tmp rfl) ?_
   refine RW.nil ?_
   refine W.c1 ?_
   refine W.seq (W.region ?_)
   iterate 2 refine RW.v ?_
   refine RW.nil ?_
   refine W.ret ?_
   refine blkQ_ret ?_
   refine seqQ_ret ?_
   refine rndQ_ret ?_
   refine blkQ_ret ?_
   refine seqQ_ret ?_
   refine endG (by rfl) (by exact resL_tmp rfl) ?_
   have hp : lead (l.getD i 0) = true := by unfold lead; rw [Bool.or_eq_true]; first | exact .inl (decide_eq_true (by omega)) | exact .inr (decide_eq_true (by omega))
   have ei : idxM l = (i : Int) := idxM_some (idxB_hit hk2 (by omega) hp)
   rw [ei]
   exact ⟨rfl, H⟩
  ·have hc7b := hc7
   have hc7 := of_decide_eq_false hc7
   refine RW.val (by rfl) (by kernel_rfl) rfl (by kernel_rfl) ?_
   refine RW.val (by rfl) (by kernel_rfl) rfl (by kernel_rfl) ?_
   iterate 2 refine RW.v ?_
   refine RW.nil ?_
   refine W.ret ?_
   refine endG (by rfl) (by exact resL_tmp rfl) ?_
   refine RW.nil ?_
   refine W.rg [(0, v), (1, .func (.func 58) #[] #[]), (5, .int .i64 ((i : Nat) : Int)), (7, .int .i64 (l.length : Int)), (8, .int .i64 ((i : Nat) : Int)), (16, .bool (decide (((l.getD i 0).toNat : Int) ≥ 64)))] fun TA => ?_
   refine W.cond rfl (fun hc8 => ?_) (fun hc8 => ?_)
   ·have hc8b := hc8
    have hc8 := of_decide_eq_true hc8
    refine W.seq (W.region ?_)
    iterate 2 refine RW.v ?_
    refine RW.nil ?_
    refine W.ret ?_
    refine blkQ_ret ?_
    refine seqQ_ret ?_
    refine rndQ_ret ?_
    refine blkQ_ret ?_
    refine seqQ_ret ?_
    refine endG (by rfl) (by exact resL_tmp rfl) ?_
    have hp : lead (l.getD i 0) = true := by unfold lead; rw [Bool.or_eq_true]; first | exact .inl (decide_eq_true (by omega)) | exact .inr (decide_eq_true (by omega))
    have ei : idxM l = (i : Int) := idxM_some (idxB_hit hk2 (by omega) hp)
    rw [ei]
    exact ⟨rfl, H⟩
   ·have hc8b := hc8
    have hc8 := of_decide_eq_false hc8
    refine W.skip ?_
    refine blkQ_normal ?_
    refine W.region ?_
    refine RW.valE (v' := .int .i64 (((i : Nat) : Int) + 1)) (by kernel_rfl) (by kernel_rfl) rfl (congrArg (Value.int .i64) (wrap_in (by omega) (by omega))) (by kernel_rfl) ?_
    refine RW.v ?_
    refine RW.nil ?_
    have hp : lead (l.getD i 0) = false := by unfold lead; rw [Bool.or_eq_false_iff]; exact ⟨decide_eq_false (by omega), decide_eq_false (by omega)⟩
    exact ⟨rfl, mm - 1, by omega, i + 1, (by omega), (fun j hj => (Nat.lt_or_ge j i).elim (fun h => hk2 j h) fun h => (show i = j by omega) ▸ hp), H, rfl, rfl, rfl, rfl⟩
 ·have hc1b := hc1
  have hc1 := of_decide_eq_false hc1
  refine W.exit _ ?_
  refine seqQ_exit ?_
  refine rndQ_exit ?_
  refine blkQ_here ?_
  refine W.seq (W.region ?_)
  refine RW.v ?_
  refine RW.nil ?_
  refine W.ret ?_
  refine endG (by rfl) (by exact resL_tmp rfl) ?_
  have ei : idxM l = -1 := idxM_none (idxB_miss hk2 (by omega))
  rw [ei]
  exact ⟨rfl, H⟩
set_option maxHeartbeats 16000000 in
theorem escg_wc {bs : List UInt8} {v : Value} (hU : U8F F) (h16 : 16 ≤ G) (hs : SlK F 1 v bs.length (bs.map byteV)) (hn : bs.length ≤ 1000000) (H : Lies G A F σ L) : WC G Tryd.prog 39 #[v] σ fun r σ' => r = .tuple #[.int .i64 (escM bs).1, .int .i64 (escM bs).2] ∧ Lies G A F σ' L := by
 have hb1 := byte_lt bs 1
 have hb2 := byte_lt bs 2
 refine WC.enter (fn := Tryd.f39) Tryd.func39 rfl ?_
 refine W.rg [(0, v)] fun TA => ?_
 refine W.seq (W.region ?_)
 iterate 2 refine RW.v ?_
 refine RW.nil ?_
 refine W.rg [(0, v)] fun TA => ?_
 refine W.seq ?_
 refine W.seq (W.region ?_)
 refine RW.v ?_
 refine RW.len (by kernel_rfl) (by kernel_rfl) rfl rfl rfl rfl (hs.slf.len (e := 5) (by kernel_rfl)) (by kernel_rfl) ?_
 refine RW.v ?_
 refine RW.nil ?_
 refine W.rg [(0, v), (11, .bool (decide ((bs.length : Int) < 2)))] fun TA => ?_
 refine W.cond rfl (fun hc1 => ?_) (fun hc1 => ?_)
 ·have hc1b := hc1
  have hc1 := of_decide_eq_true hc1
  refine W.seq (W.region ?_)
  iterate 2 refine RW.v ?_
  refine RW.nil ?_
  refine W.ret ?_
  refine seqQ_ret ?_
  refine endG (by rfl) (by exact resL_tmp (by exact resL_tmp rfl)) ?_
  have ee : escM bs = (-1, 0) := by
   unfold escM
   rw [if_pos (by omega)]
  rw [ee]
  exact ⟨rfl, H⟩
 ·have hc1b := hc1
  have hc1 := of_decide_eq_false hc1
  refine W.skip ?_
  refine W.seq ?_
  refine W.seq (W.region ?_)
  refine RW.v ?_
  refine RW.idxF hs.slf (by kernel_rfl) (by kernel_rfl) rfl Tryd.underlying43 (by kernel_rfl) rfl rfl ⟨by omega, by omega⟩ (by kernel_rfl) ?_
  intro b2 q3 r4 hF5 hE6
  rw [bytes_atC (l := bs) (j := 1) (i := 1) rfl (by omega)] at hE6
  refine RW.loads 1 (by kernel_rfl) (by kernel_rfl) rfl rfl (H.old _ _ hF5) hE6 rfl (by kernel_rfl) ?_
  refine RW.nil ?_
  refine W.rg [(0, v), (14, .int .u8 ((bs.getD 1 0).toNat : Int))] fun TA => ?_
  refine W.block ?_
  refine W.seq (W.region ?_)
  iterate 2 refine RW.v ?_
  refine RW.nil ?_
  refine W.rg [(0, v), (14, .int .u8 ((bs.getD 1 0).toNat : Int)), (15, .bool (((bs.getD 1 0).toNat : Int) == 91))] fun TA => ?_
  refine W.cond rfl (fun hc7 => ?_) (fun hc7 => ?_)
  ·have hc7b := hc7
   have hc7 := eq_of_beq hc7
   refine W.seq (W.region ?_)
   refine RW.v ?_
   obtain ⟨sv8, hv9, hk10⟩ := slk_rest (P := Tryd.prog) (t := 43) (e := 5) (i := 2) hs (by kernel_rfl) (by kernel_rfl) (by omega)
   rw [show ((2 : Nat) : Int) = 2 from by omega] at hv9
   rw [Nat.mul_one] at hk10
   refine RW.vop (v := sv8) (by kernel_rfl) (by kernel_rfl) (vop_slice rfl hv9) (by kernel_rfl) ?_
   have hk2 : SlF F 1 sv8 (bs.drop 2).length ((bs.drop 2).map byteV) := slf_dropN hk10
   refine RW.cl ?_
   refine ((idx_wc hk2 (by rw [List.length_drop]; omega) H).mono ?_)
   clear H
   rcases hfi : (bs.drop 2).findIdx? lead with _ | i
   ·rw [idxM_none hfi]
    rintro _ _ ⟨rfl, H⟩
    refine RW.v ?_
    refine RW.nil ?_
    refine W.rg [(0, v), (4, .int .i64 (-1))] fun TA => ?_
    refine W.seq ?_
    refine W.block ?_
    refine W.seq (W.region ?_)
    iterate 3 refine RW.v ?_
    refine RW.val (by rfl) (by kernel_rfl) rfl (by kernel_rfl) ?_
    refine RW.len (by rfl) (by kernel_rfl) rfl rfl rfl rfl (hs.slf.len (e := 5) (by kernel_rfl)) (by kernel_rfl) ?_
    refine RW.valE (v' := .int .i64 ((bs.length : Int) - 2)) (by rfl) (by kernel_rfl) rfl (congrArg (Value.int .i64) (wrap_in (by omega) (by omega))) (by kernel_rfl) ?_
    refine RW.val (by rfl) (by kernel_rfl) rfl (by kernel_rfl) ?_
    iterate 2 refine RW.v ?_
    refine RW.nil ?_
    refine W.rg [(0, v), (4, .int .i64 (-1)), (20, .bool (decide (((bs.length : Int) - 2) ≤ 16)))] fun TA => ?_
    refine W.cond rfl (fun hc11 => ?_) (fun hc11 => ?_)
    ·have hc11b := hc11
     have hc11 := of_decide_eq_true hc11
     refine W.seq (W.region ?_)
     iterate 2 refine RW.v ?_
     refine RW.nil ?_
     refine W.ret ?_
     refine blkQ_ret ?_
     refine seqQ_ret ?_
     refine blkQ_ret ?_
     refine seqQ_ret ?_
     refine endG (by rfl) (by exact resL_tmp (by exact resL_tmp rfl)) ?_
     have ee : escM bs = (-1, 0) := by
      unfold escM
      rw [if_neg (by omega)]
      rw [if_pos (by omega), hfi]
      dsimp only
      first | (rw [if_pos (by omega)]; done) | (rw [if_neg (by omega)]; done) | (rw [if_neg (by omega)]; first | (rw [if_pos (by omega)]; done) | (rw [if_neg (by omega)]; done))
     rw [ee]
     exact ⟨rfl, H⟩
    ·have hc11b := hc11
     have hc11 := of_decide_eq_false hc11
     refine W.seq (W.region ?_)
     iterate 3 refine RW.v ?_
     refine RW.skip (by rfl) (by kernel_rfl) ?_
     refine RW.skip (by rfl) (by kernel_rfl) ?_
     iterate 2 refine RW.v ?_
     refine RW.nil ?_
     refine W.c1 ?_
     refine W.seq (W.region ?_)
     iterate 2 refine RW.v ?_
     refine RW.nil ?_
     refine W.ret ?_
     refine blkQ_ret ?_
     refine seqQ_ret ?_
     refine blkQ_ret ?_
     refine seqQ_ret ?_
     refine endG (by rfl) (by exact resL_tmp (by exact resL_tmp rfl)) ?_
     have ee : escM bs = (-1, 18) := by
      unfold escM
      rw [if_neg (by omega)]
      rw [if_pos (by omega), hfi]
      dsimp only
      first | (rw [if_pos (by omega)]; done) | (rw [if_neg (by omega)]; done) | (rw [if_neg (by omega)]; first | (rw [if_pos (by omega)]; done) | (rw [if_neg (by omega)]; done))
     rw [ee]
     exact ⟨rfl, H⟩
   ·rw [idxM_some hfi]
    rintro _ _ ⟨rfl, H⟩
    have hil := find_lt hfi
    rw [List.length_drop] at hil
    refine RW.v ?_
    refine RW.nil ?_
    refine W.rg [(0, v), (4, .int .i64 ((i : Nat) : Int))] fun TA => ?_
    refine W.seq ?_
    refine W.block ?_
    refine W.seq (W.region ?_)
    refine RW.v ?_
    refine RW.valE (v' := .bool false) (by kernel_rfl) (by kernel_rfl) rfl (congrArg Value.bool (decide_eq_false (by omega))) (by kernel_rfl) ?_
    refine RW.v ?_
    refine RW.skip (by rfl) (by kernel_rfl) ?_
    refine RW.skip (by rfl) (by kernel_rfl) ?_
    refine RW.skip (by rfl) (by kernel_rfl) ?_
    refine RW.skip (by rfl) (by kernel_rfl) ?_
    iterate 2 refine RW.v ?_
    refine RW.nil ?_
    refine W.c0 ?_
    refine W.seq (W.region ?_)
    refine RW.v ?_
    refine RW.valE (v' := .bool false) (by kernel_rfl) (by kernel_rfl) rfl (congrArg Value.bool (decide_eq_false (by omega))) (by kernel_rfl) ?_
    refine RW.v ?_
    refine RW.val (by rfl) (by kernel_rfl) rfl (by kernel_rfl) ?_
    refine RW.val (by rfl) (by kernel_rfl) rfl (by kernel_rfl) ?_
    iterate 2 refine RW.v ?_
    refine RW.nil ?_
    refine W.rg [(0, v), (4, .int .i64 ((i : Nat) : Int)), (29, .bool (decide (((i : Nat) : Int) > 16)))] fun TA => ?_
    refine W.cond rfl (fun hc12 => ?_) (fun hc12 => ?_)
    ·have hc12b := hc12
     have hc12 := of_decide_eq_true hc12
     refine W.seq (W.region ?_)
     iterate 2 refine RW.v ?_
     refine RW.nil ?_
     refine W.ret ?_
     refine blkQ_ret ?_
     refine seqQ_ret ?_
     refine blkQ_ret ?_
     refine seqQ_ret ?_
     refine endG (by rfl) (by exact resL_tmp (by exact resL_tmp rfl)) ?_
     have ee : escM bs = (-1, 18) := by
      unfold escM
      rw [if_neg (by omega)]
      rw [if_pos (by omega), hfi]
      dsimp only
      first | (rw [if_pos (by omega)]; done) | (rw [if_neg (by omega)]; done) | (rw [if_neg (by omega)]; first | (rw [if_pos (by omega)]; done) | (rw [if_neg (by omega)]; done))
     rw [ee]
     exact ⟨rfl, H⟩
    ·have hc12b := hc12
     have hc12 := of_decide_eq_false hc12
     refine W.seq (W.region ?_)
     iterate 2 refine RW.v ?_
     refine RW.valE (v' := .int .i64 (2 + ((i : Nat) : Int))) (by kernel_rfl) (by kernel_rfl) rfl (congrArg (Value.int .i64) (wrap_in (by omega) (by omega))) (by kernel_rfl) ?_
     refine RW.idxF hs.slf (by kernel_rfl) (by kernel_rfl) rfl Tryd.underlying43 (by kernel_rfl) rfl rfl ⟨by omega, by omega⟩ (by kernel_rfl) ?_
     intro b13 q14 r15 hF16 hE17
     rw [bytes_atC (l := bs) (j := 2 + i) (i := 2 + ((i : Nat) : Int)) (by omega) (by omega)] at hE17
     refine RW.loads 1 (by kernel_rfl) (by kernel_rfl) rfl rfl (H.old _ _ hF16) hE17 rfl (by kernel_rfl) ?_
     iterate 2 refine RW.v ?_
     refine RW.both _ _ rfl rfl rfl (fun hc18 => ?_) (fun hc18 => ?_)
     ·have hc18b := hc18
      have hc18 := of_decide_eq_true hc18
      refine RW.skip (by rfl) (by kernel_rfl) ?_
      refine RW.skip (by rfl) (by kernel_rfl) ?_
      refine RW.skip (by rfl) (by kernel_rfl) ?_
      refine RW.skip (by rfl) (by kernel_rfl) ?_
      refine RW.skip (by rfl) (by kernel_rfl) ?_
      refine RW.skip (by rfl) (by kernel_rfl) ?_
      iterate 2 refine RW.v ?_
      refine RW.nil ?_
      refine W.c1 ?_
      refine W.seq (W.region ?_)
      refine RW.v ?_
      refine RW.valE (v' := .int .i64 (2 + ((i : Nat) : Int))) (by kernel_rfl) (by kernel_rfl) rfl (congrArg (Value.int .i64) (wrap_in (by omega) (by omega))) (by kernel_rfl) ?_
      iterate 2 refine RW.v ?_
      refine RW.nil ?_
      refine W.ret ?_
      refine blkQ_ret ?_
      refine seqQ_ret ?_
      refine blkQ_ret ?_
      refine seqQ_ret ?_
      refine endG (by rfl) (by exact resL_tmp (by exact resL_tmp rfl)) ?_
      have ee : escM bs = (-1, 2 + ((i : Nat) : Int)) := by
       unfold escM
       rw [if_neg (by omega)]
       rw [if_pos (by omega), hfi]
       dsimp only
       first | (rw [if_pos (by omega)]; done) | (rw [if_neg (by omega)]; done) | (rw [if_neg (by omega)]; first | (rw [if_pos (by omega)]; done) | (rw [if_neg (by omega)]; done))
      rw [ee]
      exact ⟨rfl, H⟩
     ·have hc18b := hc18
      have hc18 := of_decide_eq_false hc18
      refine RW.val (by rfl) (by kernel_rfl) rfl (by kernel_rfl) ?_
      refine RW.val (by rfl) (by kernel_rfl) rfl (by kernel_rfl) ?_
      refine RW.valE (v' := .int .i64 (2 + ((i : Nat) : Int))) (by rfl) (by kernel_rfl) rfl (congrArg (Value.int .i64) (wrap_in (by omega) (by omega))) (by kernel_rfl) ?_
      refine RW.idxF hs.slf (by rfl) (by kernel_rfl) rfl Tryd.underlying43 (by kernel_rfl) rfl rfl ⟨by omega, by omega⟩ (by kernel_rfl) ?_
      intro b19 q20 r21 hF22 hE23
      rw [bytes_atC (l := bs) (j := 2 + i) (i := 2 + ((i : Nat) : Int)) (by omega) (by omega)] at hE23
      refine RW.loads 1 (by rfl) (by kernel_rfl) rfl rfl (H.old _ _ hF22) hE23 rfl (by kernel_rfl) ?_
      refine RW.val (by rfl) (by kernel_rfl) rfl (by kernel_rfl) ?_
      iterate 2 refine RW.v ?_
      refine RW.nil ?_
      refine W.rg [(0, v), (4, .int .i64 ((i : Nat) : Int)), (36, .bool (decide (((bs.getD (2 + i) 0).toNat : Int) > 126)))] fun TA => ?_
      refine W.cond rfl (fun hc24 => ?_) (fun hc24 => ?_)
      ·have hc24b := hc24
       have hc24 := of_decide_eq_true hc24
       refine W.seq (W.region ?_)
       refine RW.v ?_
       refine RW.valE (v' := .int .i64 (2 + ((i : Nat) : Int))) (by kernel_rfl) (by kernel_rfl) rfl (congrArg (Value.int .i64) (wrap_in (by omega) (by omega))) (by kernel_rfl) ?_
       iterate 2 refine RW.v ?_
       refine RW.nil ?_
       refine W.ret ?_
       refine blkQ_ret ?_
       refine seqQ_ret ?_
       refine blkQ_ret ?_
       refine seqQ_ret ?_
       refine endG (by rfl) (by exact resL_tmp (by exact resL_tmp rfl)) ?_
       have ee : escM bs = (-1, 2 + ((i : Nat) : Int)) := by
        unfold escM
        rw [if_neg (by omega)]
        rw [if_pos (by omega), hfi]
        dsimp only
        first | (rw [if_pos (by omega)]; done) | (rw [if_neg (by omega)]; done) | (rw [if_neg (by omega)]; first | (rw [if_pos (by omega)]; done) | (rw [if_neg (by omega)]; done))
       rw [ee]
       exact ⟨rfl, H⟩
      ·have hc24b := hc24
       have hc24 := of_decide_eq_false hc24
       refine W.skip ?_
       refine blkQ_normal ?_
       refine W.seq ?_
       refine W.drawn (by kernel_rfl) (by kernel_rfl) H.gn ?_
       have H25 := H
       iterate 2 refine RW.v ?_
       refine RW.valE (v' := .int .i64 (2 + ((i : Nat) : Int))) (by kernel_rfl) (by kernel_rfl) rfl (congrArg (Value.int .i64) (wrap_in (by omega) (by omega))) (by kernel_rfl) ?_
       obtain ⟨qm, pm, spm, cm, hsm, hkm⟩ := slk_mid (P := Tryd.prog) (t := 43) (e := 5) (i := 2) (j := 2 + i) hs (by omega) (by kernel_rfl) (by kernel_rfl) (by omega) (by omega) (a := 2) (b := 2 + ((i : Nat) : Int)) rfl (by omega)
       rw [Nat.add_sub_cancel_left] at hsm hkm
       have hkb : SlF F 1 (.slice (some ⟨qm, pm, spm⟩) i cm) ((bs.drop 2).take i).length (((bs.drop 2).take i).map byteV) := slf_bytes hkm.slf (by rw [List.length_take, List.length_drop]; omega) (by rw [List.map_take, List.map_drop])
       refine RW.vop (v := .slice (some ⟨qm, pm, spm⟩) i cm) (by kernel_rfl) (by kernel_rfl) (vop_slice rfl hsm) (by kernel_rfl) ?_
       rcases Nat.eq_zero_or_pos i with hi0 | hi0
       ·have hl0 : (bs.drop 2).take i = [] := by rw [hi0]; rfl
        refine RW.vop (v := .string ⟨((bs.drop 2).take i).toArray⟩) (by kernel_rfl) (by kernel_rfl) (vop_back0L hi0 hl0 rfl rfl (by kernel_rfl)) (by kernel_rfl) ?_
        iterate 2 refine RW.v ?_
        refine RW.valE (v' := .int .i64 (2 + ((i : Nat) : Int))) (by kernel_rfl) (by kernel_rfl) rfl (congrArg (Value.int .i64) (wrap_in (by omega) (by omega))) (by kernel_rfl) ?_
        refine RW.idxF hs.slf (by kernel_rfl) (by kernel_rfl) rfl Tryd.underlying43 (by kernel_rfl) rfl rfl ⟨by omega, by omega⟩ (by kernel_rfl) ?_
        intro b26 q27 r28 hF29 hE30
        rw [bytes_atC (l := bs) (j := 2 + i) (i := 2 + ((i : Nat) : Int)) (by omega) (by omega)] at hE30
        refine RW.loads 1 (by kernel_rfl) (by kernel_rfl) rfl rfl (H25.old _ _ hF29) hE30 rfl (by kernel_rfl) ?_
        refine RW.cl ?_
        refine ((seq_wc (bs := ((bs.drop 2).take i)) (fin := (bs.getD (2 + i) 0).toNat) (by rw [List.length_take, List.length_drop]; omega) H25).mono ?_)
        rintro _ _ ⟨rfl, H32⟩
        refine RW.v ?_
        refine RW.valE (v' := .int .i64 (3 + ((i : Nat) : Int))) (by kernel_rfl) (by kernel_rfl) rfl (congrArg (Value.int .i64) (wrap_in (by omega) (by omega))) (by kernel_rfl) ?_
        iterate 2 refine RW.v ?_
        refine RW.nil ?_
        refine ⟨⟨by kernel_rfl, ⟨trivial, trivial, trivial, trivial, trivial, trivial, trivial, trivial, trivial, dyn_row (H25.old _ _ hF29) (H32.old _ _ hF29) ⟨fun h => Bool.noConfusion h, fun h => Bool.noConfusion h, fun h => Bool.noConfusion h, fun h => Bool.noConfusion h, fun h => Bool.noConfusion h, fun h => Bool.noConfusion h, fun h => Bool.noConfusion h, fun h => Bool.noConfusion h, fun h => Bool.noConfusion h, fun h => Bool.noConfusion h, fun _ => H25.old _ _ hF29, fun h => Bool.noConfusion h, fun h => Bool.noConfusion h, fun h => Bool.noConfusion h, fun h => Bool.noConfusion h, trivial⟩, trivial, trivial, trivial, trivial, trivial, trivial⟩⟩, ?_⟩
        replace H := H32
        clear H25 H32
        refine W.ret ?_
        refine blkQ_ret ?_
        refine seqQ_ret ?_
        refine endG (by rfl) (by exact resL_tmp (by exact resL_tmp rfl)) ?_
        have ee : escM bs = ((seqM ((bs.drop 2).take i) ((bs.getD (2 + i) 0).toNat)), 3 + ((i : Nat) : Int)) := by
         unfold escM
         rw [if_neg (by omega)]
         rw [if_pos (by omega), hfi]
         dsimp only
         first | (rw [if_pos (by omega)]; done) | (rw [if_neg (by omega)]; done) | (rw [if_neg (by omega)]; first | (rw [if_pos (by omega)]; done) | (rw [if_neg (by omega)]; done))
        rw [ee]
        exact ⟨rfl, H⟩
       ·refine RW.back H25 (e := 5) hkb (by intro e; have := congrArg List.length e; rw [List.length_take, List.length_drop] at this; simp at this; omega) (by kernel_rfl) (by kernel_rfl) rfl rfl (by kernel_rfl) (by kernel_rfl) (by kernel_rfl) (by kernel_rfl) ?_
        intro bB pB rB hFB hEB
        iterate 2 refine RW.v ?_
        refine RW.valE (v' := .int .i64 (2 + ((i : Nat) : Int))) (by kernel_rfl) (by kernel_rfl) rfl (congrArg (Value.int .i64) (wrap_in (by omega) (by omega))) (by kernel_rfl) ?_
        refine RW.idxF hs.slf (by kernel_rfl) (by kernel_rfl) rfl Tryd.underlying43 (by kernel_rfl) rfl rfl ⟨by omega, by omega⟩ (by kernel_rfl) ?_
        intro b33 q34 r35 hF36 hE37
        rw [bytes_atC (l := bs) (j := 2 + i) (i := 2 + ((i : Nat) : Int)) (by omega) (by omega)] at hE37
        refine RW.loads 1 (by kernel_rfl) (by kernel_rfl) rfl rfl (H25.old _ _ hF36) hE37 rfl (by kernel_rfl) ?_
        refine RW.cl ?_
        refine ((seq_wc (bs := ((bs.drop 2).take i)) (fin := (bs.getD (2 + i) 0).toNat) (by rw [List.length_take, List.length_drop]; omega) H25).mono ?_)
        rintro _ _ ⟨rfl, H39⟩
        refine RW.v ?_
        refine RW.valE (v' := .int .i64 (3 + ((i : Nat) : Int))) (by kernel_rfl) (by kernel_rfl) rfl (congrArg (Value.int .i64) (wrap_in (by omega) (by omega))) (by kernel_rfl) ?_
        iterate 2 refine RW.v ?_
        refine RW.nil ?_
        refine ⟨⟨by kernel_rfl, ⟨trivial, trivial, trivial, trivial, dyn_row (H25.old _ _ hFB) (H39.old _ _ hFB) ⟨fun h => Bool.noConfusion h, fun h => Bool.noConfusion h, fun h => Bool.noConfusion h, fun h => Bool.noConfusion h, fun h => Bool.noConfusion h, fun h => Bool.noConfusion h, fun h => Bool.noConfusion h, fun h => Bool.noConfusion h, fun h => Bool.noConfusion h, fun h => Bool.noConfusion h, fun _ => H25.old _ _ hFB, fun h => Bool.noConfusion h, fun h => Bool.noConfusion h, fun h => Bool.noConfusion h, fun h => Bool.noConfusion h, trivial⟩, trivial, trivial, trivial, trivial, dyn_row (H25.old _ _ hF36) (H39.old _ _ hF36) ⟨fun h => Bool.noConfusion h, fun h => Bool.noConfusion h, fun h => Bool.noConfusion h, fun h => Bool.noConfusion h, fun h => Bool.noConfusion h, fun h => Bool.noConfusion h, fun h => Bool.noConfusion h, fun h => Bool.noConfusion h, fun h => Bool.noConfusion h, fun h => Bool.noConfusion h, fun _ => H25.old _ _ hF36, fun h => Bool.noConfusion h, fun h => Bool.noConfusion h, fun h => Bool.noConfusion h, fun h => Bool.noConfusion h, trivial⟩, trivial, trivial, trivial, trivial, trivial, trivial⟩⟩, ?_⟩
        replace H := H39
        clear H25 H39
        refine W.ret ?_
        refine blkQ_ret ?_
        refine seqQ_ret ?_
        refine endG (by rfl) (by exact resL_tmp (by exact resL_tmp rfl)) ?_
        have ee : escM bs = ((seqM ((bs.drop 2).take i) ((bs.getD (2 + i) 0).toNat)), 3 + ((i : Nat) : Int)) := by
         unfold escM
         rw [if_neg (by omega)]
         rw [if_pos (by omega), hfi]
         dsimp only
         first | (rw [if_pos (by omega)]; done) | (rw [if_neg (by omega)]; done) | (rw [if_neg (by omega)]; first | (rw [if_pos (by omega)]; done) | (rw [if_neg (by omega)]; done))
        rw [ee]
        exact ⟨rfl, H⟩
  ·have hc7b := hc7
   have hc7 := ne_of_beq_false hc7
   refine W.seq (W.region ?_)
   iterate 2 refine RW.v ?_
   refine RW.nil ?_
   refine W.rg [(0, v), (66, .bool (((bs.getD 1 0).toNat : Int) == 79))] fun TA => ?_
   refine W.cond rfl (fun hc40 => ?_) (fun hc40 => ?_)
   ·have hc40b := hc40
    have hc40 := eq_of_beq hc40
    refine W.seq ?_
    refine W.block ?_
    refine W.seq (W.region ?_)
    refine RW.v ?_
    refine RW.len (by kernel_rfl) (by kernel_rfl) rfl rfl rfl rfl (hs.slf.len (e := 5) (by kernel_rfl)) (by kernel_rfl) ?_
    iterate 2 refine RW.v ?_
    refine RW.nil ?_
    refine W.rg [(0, v), (68, .bool (decide ((bs.length : Int) < 3)))] fun TA => ?_
    refine W.cond rfl (fun hc41 => ?_) (fun hc41 => ?_)
    ·have hc41b := hc41
     have hc41 := of_decide_eq_true hc41
     refine W.seq (W.region ?_)
     iterate 2 refine RW.v ?_
     refine RW.nil ?_
     refine W.ret ?_
     refine blkQ_ret ?_
     refine seqQ_ret ?_
     refine blkQ_ret ?_
     refine seqQ_ret ?_
     refine endG (by rfl) (by exact resL_tmp (by exact resL_tmp rfl)) ?_
     have ee : escM bs = (-1, 0) := by
      unfold escM
      rw [if_neg (by omega)]
      rw [if_neg (by omega)]
      first | (rw [if_pos (by omega)]; first | (rw [if_pos (by omega)]; done) | (rw [if_neg (by omega)]; first | (rw [if_pos (by omega)]; done) | (rw [if_neg (by omega)]; done))) | (rw [if_neg (by omega)]; first | (rw [if_pos (by omega)]; done) | (rw [if_neg (by omega)]; first | (rw [if_pos (by omega)]; done) | (rw [if_neg (by omega)]; done)))
     rw [ee]
     exact ⟨rfl, H⟩
    ·have hc41b := hc41
     have hc41 := of_decide_eq_false hc41
     refine W.seq (W.region ?_)
     refine RW.v ?_
     refine RW.idxF hs.slf (by kernel_rfl) (by kernel_rfl) rfl Tryd.underlying43 (by kernel_rfl) rfl rfl ⟨by omega, by omega⟩ (by kernel_rfl) ?_
     intro b42 q43 r44 hF45 hE46
     rw [bytes_atC (l := bs) (j := 2) (i := 2) rfl (by omega)] at hE46
     refine RW.loads 1 (by kernel_rfl) (by kernel_rfl) rfl rfl (H.old _ _ hF45) hE46 rfl (by kernel_rfl) ?_
     iterate 2 refine RW.v ?_
     refine RW.both _ _ rfl rfl rfl (fun hc47 => ?_) (fun hc47 => ?_)
     ·have hc47b := hc47
      have hc47 := of_decide_eq_true hc47
      refine RW.val (by rfl) (by kernel_rfl) rfl (by kernel_rfl) ?_
      refine RW.idxF hs.slf (by rfl) (by kernel_rfl) rfl Tryd.underlying43 (by kernel_rfl) rfl rfl ⟨by omega, by omega⟩ (by kernel_rfl) ?_
      intro b48 q49 r50 hF51 hE52
      rw [bytes_atC (l := bs) (j := 2) (i := 2) rfl (by omega)] at hE52
      refine RW.loads 1 (by rfl) (by kernel_rfl) rfl rfl (H.old _ _ hF51) hE52 rfl (by kernel_rfl) ?_
      refine RW.val (by rfl) (by kernel_rfl) rfl (by kernel_rfl) ?_
      iterate 2 refine RW.v ?_
      refine RW.nil ?_
      refine W.rg [(0, v), (72, .bool (decide (((bs.getD 2 0).toNat : Int) ≤ 83)))] fun TA => ?_
      refine W.cond rfl (fun hc53 => ?_) (fun hc53 => ?_)
      ·have hc53b := hc53
       have hc53 := of_decide_eq_true hc53
       refine W.seq ?_
       refine W.drawn (by kernel_rfl) (by kernel_rfl) H.gn ?_
       have H54 := H
       refine RW.cl ?_
       refine ((table_wc (Lies.start H54.gn H54.abs)).mono ?_)
       rintro _ _ ⟨mb55, rfl, K56⟩
       have H57 : Lies G (A) F _ (.at_ mb55 (.ents tabE 27) :: (L)) := Lies.then H54 K56
       refine RW.lkL H57 0 (.int .i64 2097153) ?_
       refine RW.v ?_
       refine RW.idxF hs.slf (by kernel_rfl) (by kernel_rfl) rfl Tryd.underlying43 (by kernel_rfl) rfl rfl ⟨by omega, by omega⟩ (by kernel_rfl) ?_
       intro b58 q59 r60 hF61 hE62
       rw [bytes_atC (l := bs) (j := 2) (i := 2) rfl (by omega)] at hE62
       refine RW.loads 1 (by kernel_rfl) (by kernel_rfl) rfl rfl (H57.old _ _ hF61) hE62 rfl (by kernel_rfl) ?_
       refine RW.valE (v' := .int .u8 (((bs.getD 2 0).toNat : Int) - 80)) (by kernel_rfl) (by kernel_rfl) rfl (congrArg (Value.int .u8) (wrap_u8 (by omega) (by omega))) (by kernel_rfl) ?_
       refine RW.valE (v' := .int .i64 (((bs.getD 2 0).toNat : Int) - 80)) (by kernel_rfl) (by kernel_rfl) rfl (congrArg (Value.int .i64) (wrap_in (by omega) (by omega))) (by kernel_rfl) ?_
       refine RW.valE (v' := .int .i64 (2097153 + (((bs.getD 2 0).toNat : Int) - 80))) (by kernel_rfl) (by kernel_rfl) rfl (congrArg (Value.int .i64) (wrap_in (by omega) (by omega))) (by kernel_rfl) ?_
       iterate 2 refine RW.v ?_
       refine RW.nil ?_
       refine ⟨⟨by kernel_rfl, ⟨trivial, trivial, trivial, trivial, dyn_row (H57.old _ _ hF61) (H57.old _ _ hF61) ⟨fun _ => H54.old _ _ hF61, fun _ => H57.old _ _ hF61, fun h => Bool.noConfusion h, fun h => Bool.noConfusion h, fun h => Bool.noConfusion h, fun h => Bool.noConfusion h, fun h => Bool.noConfusion h, fun h => Bool.noConfusion h, fun h => Bool.noConfusion h, fun h => Bool.noConfusion h, trivial⟩, trivial, trivial, trivial, trivial, trivial, trivial⟩⟩, ?_⟩
       replace H := H57
       clear H54 H57
       replace H := (H.del 0)
       dsimp only [setL, delL] at H
       refine W.ret ?_
       refine blkQ_ret ?_
       refine seqQ_ret ?_
       refine blkQ_ret ?_
       refine seqQ_ret ?_
       refine endG (by rfl) (by exact resL_tmp (by exact resL_tmp rfl)) ?_
       have ee : escM bs = (2097153 + (((bs.getD 2 0).toNat : Int) - 80), 3) := by
        unfold escM
        rw [if_neg (by omega)]
        rw [if_neg (by omega)]
        first | (rw [if_pos (by omega)]; first | (rw [if_pos (by omega)]; done) | (rw [if_neg (by omega)]; first | (rw [if_pos (by omega)]; done) | (rw [if_neg (by omega)]; done))) | (rw [if_neg (by omega)]; first | (rw [if_pos (by omega)]; done) | (rw [if_neg (by omega)]; first | (rw [if_pos (by omega)]; done) | (rw [if_neg (by omega)]; done)))
       rw [ee]
       exact ⟨rfl, H⟩
      ·have hc53b := hc53
       have hc53 := of_decide_eq_false hc53
       refine W.skip ?_
       refine blkQ_normal ?_
       refine W.seq (W.region ?_)
       refine RW.v ?_
       refine RW.idxF hs.slf (by kernel_rfl) (by kernel_rfl) rfl Tryd.underlying43 (by kernel_rfl) rfl rfl ⟨by omega, by omega⟩ (by kernel_rfl) ?_
       intro b63 q64 r65 hF66 hE67
       rw [bytes_atC (l := bs) (j := 2) (i := 2) rfl (by omega)] at hE67
       refine RW.loads 1 (by kernel_rfl) (by kernel_rfl) rfl rfl (H.old _ _ hF66) hE67 rfl (by kernel_rfl) ?_
       refine RW.cl ?_
       refine ((letter_wc (c := (bs.getD 2 0).toNat) H).mono ?_)
       clear H
       rintro _ _ ⟨rfl, H⟩
       iterate 2 refine RW.v ?_
       refine RW.nil ?_
       refine W.ret ?_
       refine blkQ_ret ?_
       refine seqQ_ret ?_
       refine endG (by rfl) (by exact resL_tmp (by exact resL_tmp rfl)) ?_
       have ee : escM bs = ((letterM ((bs.getD 2 0).toNat)), 3) := by
        unfold escM
        rw [if_neg (by omega)]
        rw [if_neg (by omega)]
        first | (rw [if_pos (by omega)]; first | (rw [if_pos (by omega)]; done) | (rw [if_neg (by omega)]; first | (rw [if_pos (by omega)]; done) | (rw [if_neg (by omega)]; done))) | (rw [if_neg (by omega)]; first | (rw [if_pos (by omega)]; done) | (rw [if_neg (by omega)]; first | (rw [if_pos (by omega)]; done) | (rw [if_neg (by omega)]; done)))
       rw [ee]
       exact ⟨rfl, H⟩
     ·have hc47b := hc47
      have hc47 := of_decide_eq_false hc47
      refine RW.skip (by rfl) (by kernel_rfl) ?_
      refine RW.skip (by rfl) (by kernel_rfl) ?_
      refine RW.skip (by rfl) (by kernel_rfl) ?_
      refine RW.skip (by rfl) (by kernel_rfl) ?_
      iterate 2 refine RW.v ?_
      refine RW.nil ?_
      refine W.c0 ?_
      refine W.skip ?_
      refine blkQ_normal ?_
      refine W.seq (W.region ?_)
      refine RW.v ?_
      refine RW.idxF hs.slf (by kernel_rfl) (by kernel_rfl) rfl Tryd.underlying43 (by kernel_rfl) rfl rfl ⟨by omega, by omega⟩ (by kernel_rfl) ?_
      intro b68 q69 r70 hF71 hE72
      rw [bytes_atC (l := bs) (j := 2) (i := 2) rfl (by omega)] at hE72
      refine RW.loads 1 (by kernel_rfl) (by kernel_rfl) rfl rfl (H.old _ _ hF71) hE72 rfl (by kernel_rfl) ?_
      refine RW.cl ?_
      refine ((letter_wc (c := (bs.getD 2 0).toNat) H).mono ?_)
      clear H
      rintro _ _ ⟨rfl, H⟩
      iterate 2 refine RW.v ?_
      refine RW.nil ?_
      refine W.ret ?_
      refine blkQ_ret ?_
      refine seqQ_ret ?_
      refine endG (by rfl) (by exact resL_tmp (by exact resL_tmp rfl)) ?_
      have ee : escM bs = ((letterM ((bs.getD 2 0).toNat)), 3) := by
       unfold escM
       rw [if_neg (by omega)]
       rw [if_neg (by omega)]
       first | (rw [if_pos (by omega)]; first | (rw [if_pos (by omega)]; done) | (rw [if_neg (by omega)]; first | (rw [if_pos (by omega)]; done) | (rw [if_neg (by omega)]; done))) | (rw [if_neg (by omega)]; first | (rw [if_pos (by omega)]; done) | (rw [if_neg (by omega)]; first | (rw [if_pos (by omega)]; done) | (rw [if_neg (by omega)]; done)))
      rw [ee]
      exact ⟨rfl, H⟩
   ·have hc40b := hc40
    have hc40 := ne_of_beq_false hc40
    refine W.skip ?_
    refine blkQ_normal ?_
    refine W.seq (W.region ?_)
    refine RW.v ?_
    obtain ⟨sv73, hv74, hk75⟩ := slk_rest (P := Tryd.prog) (t := 43) (e := 5) (i := 1) hs (by kernel_rfl) (by kernel_rfl) (by omega)
    rw [show ((1 : Nat) : Int) = 1 from by omega] at hv74
    rw [Nat.mul_one] at hk75
    refine RW.vop (v := sv73) (by kernel_rfl) (by kernel_rfl) (vop_slice rfl hv74) (by kernel_rfl) ?_
    have hk1 : SlF F 1 sv73 (bs.drop 1).length ((bs.drop 1).map byteV) := slf_dropN hk75
    have hd1 : bs.drop 1 ≠ [] := fun e => by have := congrArg List.length e; rw [List.length_drop] at this; simp at this; omega
    have hc4 := charR_two (bs.drop 1)
    have hcl := charR_len hd1
    rw [List.length_drop] at hcl
    refine RW.cl ?_
    refine ((char_wc hU h16 hk1 hd1 (by rw [List.length_drop]; omega) H).mono ?_)
    clear H
    rintro _ _ ⟨rfl, H⟩
    iterate 5 refine RW.v ?_
    refine RW.nil ?_
    refine W.rg [(5, .int .i64 ((charR (bs.drop 1)).1)), (6, .int .i64 ((charR (bs.drop 1)).2))] fun TA => ?_
    refine W.seq ?_
    refine W.block ?_
    refine W.seq (W.region ?_)
    iterate 3 refine RW.v ?_
    refine RW.nil ?_
    refine W.rg [(5, .int .i64 ((charR (bs.drop 1)).1)), (6, .int .i64 ((charR (bs.drop 1)).2)), (101, .bool (((charR (bs.drop 1)).2) == 0))] fun TA => ?_
    refine W.cond rfl (fun hc76 => ?_) (fun hc76 => ?_)
    ·have hc76b := hc76
     have hc76 := eq_of_beq hc76
     refine W.seq (W.region ?_)
     iterate 2 refine RW.v ?_
     refine RW.nil ?_
     refine W.ret ?_
     refine blkQ_ret ?_
     refine seqQ_ret ?_
     refine endG (by rfl) (by exact resL_tmp (by exact resL_tmp rfl)) ?_
     have ee : escM bs = (-1, 0) := by
      unfold escM
      rw [if_neg (by omega)]
      rw [if_neg (by omega)]
      first | (rw [if_pos (by omega)]; first | (rw [if_pos (by omega)]; done) | (rw [if_neg (by omega)]; first | (rw [if_pos (by omega)]; done) | (rw [if_neg (by omega)]; done))) | (rw [if_neg (by omega)]; first | (rw [if_pos (by omega)]; done) | (rw [if_neg (by omega)]; first | (rw [if_pos (by omega)]; done) | (rw [if_neg (by omega)]; done)))
     rw [ee]
     exact ⟨rfl, H⟩
    ·have hc76b := hc76
     have hc76 := ne_of_beq_false hc76
     refine W.seq (W.region ?_)
     iterate 3 refine RW.v ?_
     refine RW.nil ?_
     refine W.rg [(5, .int .i64 ((charR (bs.drop 1)).1)), (6, .int .i64 ((charR (bs.drop 1)).2)), (104, .bool (decide (((charR (bs.drop 1)).1) < 0)))] fun TA => ?_
     refine W.cond rfl (fun hc77 => ?_) (fun hc77 => ?_)
     ·have hc77b := hc77
      have hc77 := of_decide_eq_true hc77
      refine W.seq (W.region ?_)
      iterate 2 refine RW.v ?_
      refine RW.nil ?_
      refine W.ret ?_
      refine blkQ_ret ?_
      refine seqQ_ret ?_
      refine endG (by rfl) (by exact resL_tmp (by exact resL_tmp rfl)) ?_
      have ee : escM bs = (-1, 2) := by
       unfold escM
       rw [if_neg (by omega)]
       rw [if_neg (by omega)]
       first | (rw [if_pos (by omega)]; first | (rw [if_pos (by omega)]; done) | (rw [if_neg (by omega)]; first | (rw [if_pos (by omega)]; done) | (rw [if_neg (by omega)]; done))) | (rw [if_neg (by omega)]; first | (rw [if_pos (by omega)]; done) | (rw [if_neg (by omega)]; first | (rw [if_pos (by omega)]; done) | (rw [if_neg (by omega)]; done)))
      rw [ee]
      exact ⟨rfl, H⟩
     ·have hc77b := hc77
      have hc77 := of_decide_eq_false hc77
      refine W.skip ?_
      refine blkQ_normal ?_
      refine W.seq (W.region ?_)
      refine RW.v ?_
      have hI : IsB (charR (bs.drop 1)).1 := charR_isB (by omega)
      refine RW.cl ?_
      refine ((make_yes (charR (bs.drop 1)).1 4 hI (by decide) (by decide) _).mono ?_)
      rintro _ _ ⟨rfl, rfl⟩
      iterate 5 refine RW.v ?_
      refine RW.nil ?_
      refine W.rg [(6, .int .i64 ((charR (bs.drop 1)).2)), (7, .int .i64 (mkE (charR (bs.drop 1)).1 4))] fun TA => ?_
      refine W.seq (W.region ?_)
      iterate 2 refine RW.v ?_
      refine RW.valE (v' := .int .i64 (1 + ((charR (bs.drop 1)).2))) (by kernel_rfl) (by kernel_rfl) rfl (congrArg (Value.int .i64) (wrap_in (by omega) (by omega))) (by kernel_rfl) ?_
      iterate 2 refine RW.v ?_
      refine RW.nil ?_
      refine W.ret ?_
      refine endG (by rfl) (by exact resL_tmp (by exact resL_tmp rfl)) ?_
      have ee : escM bs = ((mkE (charR (bs.drop 1)).1 4), 1 + ((charR (bs.drop 1)).2)) := by
       unfold escM
       rw [if_neg (by omega)]
       rw [if_neg (by omega)]
       first | (rw [if_pos (by omega)]; first | (rw [if_pos (by omega)]; done) | (rw [if_neg (by omega)]; first | (rw [if_pos (by omega)]; done) | (rw [if_neg (by omega)]; done))) | (rw [if_neg (by omega)]; first | (rw [if_pos (by omega)]; done) | (rw [if_neg (by omega)]; first | (rw [if_pos (by omega)]; done) | (rw [if_neg (by omega)]; done)))
      rw [ee]
      exact ⟨rfl, H⟩
end
end Go.Proofs.YtpjpefcpbkmilaaDoor
namespace Go.Proofs.YtpjpefcpbkmilaaDoor
open Go.Lib
set_option maxRecDepth 100000
theorem slk_some {F : Nat → Option Blk2} {s n : Nat} {v : Value} {xs : List Value} (h : SlK F s v n xs) (h0 : 0 < n) : ∃ b p sp c, v = .slice (some ⟨b, p, sp⟩) n c := by
 cases h with
 | nil => exact absurd h0 (Nat.lt_irrefl _)
 | some => exact ⟨_, _, _, _, rfl⟩
theorem slk_dropN {F : Nat → Option Blk2} {v : Value} {l : List UInt8} {k : Nat} (h : SlK F 1 v (l.length - k) ((l.map byteV).drop k)) : SlK F 1 v (l.drop k).length ((l.drop k).map byteV) := by
 rwa [List.length_drop, List.map_drop]
section
variable {bs rem : List UInt8} {es : List Int}
theorem dec_neg (hD : decD bs = (es ++ (decD rem).1, (decD rem).2)) (hne : rem ≠ []) (hn : 0 < (stepM rem).2) (he : (stepM rem).1 < 0) : decD bs = (es ++ (decD (rem.drop (stepM rem).2.toNat)).1, (decD (rem.drop (stepM rem).2.toNat)).2) := by
 rw [hD, decD_go hne hn, if_pos he]
theorem dec_pos (hD : decD bs = (es ++ (decD rem).1, (decD rem).2)) (hne : rem ≠ []) (hn : 0 < (stepM rem).2) (he : ¬ (stepM rem).1 < 0) : decD bs = ((es ++ [(stepM rem).1]) ++ (decD (rem.drop (stepM rem).2.toNat)).1, (decD (rem.drop (stepM rem).2.toNat)).2) := by
 rw [hD, decD_go hne hn, if_neg he, List.append_assoc]
 rfl
end
section
variable {G : Nat} {A : Abs} {σ : Mem} {F : Nat → Option Blk2} {L : List Ent}
set_option maxHeartbeats 4000000 in
theorem clone_wc {bs : List UInt8} {v : Value} (hs : SlK F 1 v bs.length (bs.map byteV)) (hn0 : 0 < bs.length) (hn : bs.length ≤ 1000000) (H : Lies G A F σ L) : WC G Tryd.prog 41 #[v] σ fun cv σ' => Lies G A F σ' (.sl 5 1 cv bs.length (bs.map byteV) :: L) := by
 obtain ⟨b, p, sp, c, hv⟩ := slk_some hs hn0
 subst hv
 obtain ⟨n, hn2⟩ : ∃ n, n = bs.length := ⟨_, rfl⟩
 refine WC.enter (fn := Tryd.f41) Tryd.func41 rfl ?_
 refine W.rg [(0, .slice (some ⟨b, p, sp⟩) bs.length c)] fun TA => ?_
 refine W.seq (W.region ?_)
 refine RW.v ?_
 refine RW.nil ?_
 refine W.rg [(0, .slice (some ⟨b, p, sp⟩) bs.length c)] fun TA => ?_
 refine W.seq ?_
 refine W.seq (W.region ?_)
 iterate 2 refine RW.v ?_
 refine RW.nil ?_
 refine W.c0 ?_
 refine W.skip ?_
 refine W.seq (W.region ?_)
 refine RW.mkL H (x := .row ⟨[], 5, false⟩) (fm := fun b => .slice (some ⟨b, 0, none⟩) 0 0) (by kernel_rfl) (by kernel_rfl) (by kernel_rfl) (by kernel_rfl) ?_
 clear H; intro _ b1 _ H
 refine RW.v ?_
 replace H := H.nilSl 5 1
 refine RW.appFD H 0 (e2 := 5) hs.slf (by kernel_rfl) (by kernel_rfl) rfl rfl rfl rfl rfl rfl rfl (.inr ⟨hn0, rfl, _, _, _, rfl, H.get 1 rfl⟩) (by kernel_rfl) (by kernel_rfl) (by kernel_rfl) (by decide) (bytes_ones _) (by omega) (by kernel_rfl) ?_
 clear H; intro _ v2 H
 dsimp only [setL, delL] at H
 refine RW.v ?_
 refine RW.nil ?_
 replace H := (H.del 1)
 dsimp only [setL, delL] at H
 refine W.ret ?_
 refine endG (by rfl) (by exact resL_tmp rfl) ?_
 have K := H
 rw [Nat.zero_add, List.nil_append] at K
 exact K
set_option maxHeartbeats 16000000 in
theorem decg_wc {bs : List UInt8} {v : Value} (hU : U8F F) (h16 : 16 ≤ G) (hs : SlK F 1 v bs.length (bs.map byteV)) (hn : bs.length ≤ 100000) (H : Lies G A F σ L) : WC G Tryd.prog 19 #[v, .bool false] σ fun r σ' => ∃ u cv, r = .tuple #[u, cv] ∧ ((decD bs).2 = [] → cv = .slice none 0 0) ∧ Lies G A F σ' (.sl 3 1 u (decD bs).1.length ((decD bs).1.map (Value.int .i64)) :: .sl 5 1 cv (decD bs).2.length ((decD bs).2.map byteV) :: L) := by
 refine WC.enter (fn := Tryd.f19) Tryd.func19 rfl ?_
 refine W.rg [(0, v), (1, .bool false)] fun TA => ?_
 refine W.seq (W.region ?_)
 iterate 2 refine RW.v ?_
 refine RW.nil ?_
 refine W.rg [(0, v), (1, .bool false), (4, .slice none 0 0)] fun TA => ?_
 refine W.scope ?_
 refine W.seq ?_
 refine W.label _ ?_
 refine W.seq ?_
 refine W.block ?_
 replace H := H.nilSl 3 1
 refine W.loop (fun mm ta σ => ∃ (rem : List UInt8) (es : List Int) (w : Value) (u : Value), (mm = rem.length) ∧ (decD bs = (es ++ (decD rem).1, (decD rem).2)) ∧ (es.length + rem.length ≤ bs.length) ∧ (SlK F 1 w rem.length (rem.map byteV)) ∧ Lies G A F σ (.sl 3 1 u es.length (es.map (Value.int .i64)) :: (L)) ∧ ta 0 = w ∧ ta 1 = .bool false ∧ ta 4 = u) bs.length ?_ ?_
 ·exact ⟨bs, [], v, .slice none 0 0, rfl, rfl, (by rw [List.length_nil]; omega), hs, H, rfl, rfl, rfl⟩
 clear H
 rintro mm ta _ ⟨rem, es, w, u, hm, hD, hel, hk, H, e0, e1, e4⟩
 refine W.rst [(0, w), (1, .bool false), (4, u)] ⟨e0, e1, e4, trivial⟩ fun TA => ?_
 clear e0 e1 e4
 refine W.seq ?_
 refine W.seq (W.region ?_)
 refine RW.v ?_
 refine RW.len (by kernel_rfl) (by kernel_rfl) rfl rfl rfl rfl (hk.slf.len (e := 5) (by kernel_rfl)) (by kernel_rfl) ?_
 refine RW.v ?_
 refine RW.nil ?_
 refine W.rg [(0, w), (1, .bool false), (4, u), (10, .bool (decide ((rem.length : Int) > 0)))] fun TA => ?_
 refine W.cond rfl (fun hc1 => ?_) (fun hc1 => ?_)
 ·have hc1b := hc1
  have hc1 := of_decide_eq_true hc1
  refine W.skip ?_
  refine W.block ?_
  refine W.seq (W.region ?_)
  have hne : rem ≠ [] := fun e => by have := congrArg List.length e; rw [List.length_nil] at this; omega
  have hst2 := stepM_two hne
  have hb0 := byte_lt rem 0
  iterate 2 refine RW.v ?_
  refine RW.nil ?_
  refine W.rg [(0, w), (1, .bool false), (4, u)] fun TA => ?_
  refine W.seq ?_
  refine W.seq (W.region ?_)
  refine RW.v ?_
  refine RW.idxF hk.slf (by kernel_rfl) (by kernel_rfl) rfl Tryd.underlying43 (by kernel_rfl) rfl rfl ⟨by omega, by omega⟩ (by kernel_rfl) ?_
  intro b2 q3 r4 hF5 hE6
  rw [bytes_atC (l := rem) (j := 0) (i := 0) rfl (by omega)] at hE6
  refine RW.loads 1 (by kernel_rfl) (by kernel_rfl) rfl rfl (H.old _ _ hF5) hE6 rfl (by kernel_rfl) ?_
  refine RW.v ?_
  refine RW.nil ?_
  refine W.rg [(0, w), (1, .bool false), (4, u), (14, .bool (((rem.getD 0 0).toNat : Int) == 27))] fun TA => ?_
  refine W.cond rfl (fun hc7 => ?_) (fun hc7 => ?_)
  ·have hc7b := hc7
   have hc7 := eq_of_beq hc7
   refine W.region ?_
   refine RW.v ?_
   have hst : stepM rem = escM rem := if_pos (by omega)
   refine RW.cl ?_
   refine ((escg_wc hU h16 hk (by omega) H).mono ?_)
   clear H
   rw [← hst]
   rintro _ _ ⟨rfl, H⟩
   iterate 5 refine RW.v ?_
   refine RW.nil ?_
   refine W.rg [(0, w), (1, .bool false), (4, u), (6, .int .i64 ((stepM rem).1)), (7, .int .i64 ((stepM rem).2))] fun TA => ?_
   refine W.seq ?_
   refine W.block ?_
   refine W.seq (W.region ?_)
   iterate 3 refine RW.v ?_
   refine RW.both _ _ rfl rfl rfl (fun hc8 => ?_) (fun hc8 => ?_)
   ·have hc8b := hc8
    have hc8 := eq_of_beq hc8
    refine RW.val (by rfl) (by kernel_rfl) rfl (by kernel_rfl) ?_
    refine RW.val (by rfl) (by kernel_rfl) rfl (by kernel_rfl) ?_
    iterate 2 refine RW.v ?_
    refine RW.nil ?_
    refine W.c1 ?_
    refine W.seq (W.region ?_)
    iterate 2 refine RW.v ?_
    refine RW.cl ?_
    refine ((clone_wc hk (List.length_pos_iff.2 hne) (by omega) H).mono ?_)
    clear H
    rintro cv _ H
    iterate 2 refine RW.v ?_
    refine RW.nil ?_
    refine W.ret ?_
    refine blkQ_ret ?_
    refine seqQ_ret ?_
    refine blkQ_ret ?_
    refine rndQ_ret ?_
    refine blkQ_ret ?_
    refine seqQ_ret ?_
    refine ⟨rfl, ?_⟩
    refine endG (by rfl) (by exact resL_tmp (by exact resL_tmp rfl)) ?_
    have eD : decD bs = (es, rem) := by rw [hD, decD_stop hne (by omega), List.append_nil]
    rw [eD]
    exact ⟨_, _, rfl, fun e => absurd e hne, H.front 1 rfl⟩
   ·have hc8b := hc8
    have hc8 := ne_of_beq_false hc8
    refine RW.skip (by rfl) (by kernel_rfl) ?_
    refine RW.skip (by rfl) (by kernel_rfl) ?_
    iterate 2 refine RW.v ?_
    refine RW.nil ?_
    refine W.c0 ?_
    refine W.seq (W.region ?_)
    refine RW.v ?_
    refine RW.valE (v' := .bool false) (by kernel_rfl) (by kernel_rfl) rfl (congrArg Value.bool (beq_eq_false_iff_ne.2 (by omega))) (by kernel_rfl) ?_
    refine RW.v ?_
    refine RW.skip (by rfl) (by kernel_rfl) ?_
    refine RW.skip (by rfl) (by kernel_rfl) ?_
    refine RW.skip (by rfl) (by kernel_rfl) ?_
    refine RW.skip (by rfl) (by kernel_rfl) ?_
    iterate 2 refine RW.v ?_
    refine RW.nil ?_
    refine W.c0 ?_
    refine W.seq (W.region ?_)
    refine RW.v ?_
    refine RW.valE (v' := .bool false) (by kernel_rfl) (by kernel_rfl) rfl (congrArg Value.bool (beq_eq_false_iff_ne.2 (by omega))) (by kernel_rfl) ?_
    refine RW.v ?_
    refine RW.nil ?_
    refine W.c0 ?_
    refine W.skip ?_
    refine blkQ_normal ?_
    refine W.seq (W.region ?_)
    iterate 2 refine RW.v ?_
    obtain ⟨sv9, hv10, hk11⟩ := slk_rest (P := Tryd.prog) (t := 43) (e := 5) (i := ((stepM rem).2).toNat) hk (by kernel_rfl) (by kernel_rfl) (by omega)
    rw [show ((((stepM rem).2).toNat : Nat) : Int) = (stepM rem).2 from by omega] at hv10
    rw [Nat.mul_one] at hk11
    refine RW.vop (v := sv9) (by kernel_rfl) (by kernel_rfl) (vop_slice rfl hv10) (by kernel_rfl) ?_
    refine RW.v ?_
    refine RW.nil ?_
    refine W.rg [(0, sv9), (1, .bool false), (4, u), (6, .int .i64 ((stepM rem).1))] fun TA => ?_
    refine W.seq ?_
    refine W.seq (W.region ?_)
    iterate 2 refine RW.v ?_
    refine RW.nil ?_
    refine W.rg [(0, sv9), (1, .bool false), (4, u), (6, .int .i64 ((stepM rem).1)), (51, .bool (decide (((stepM rem).1) < 0)))] fun TA => ?_
    refine W.cond rfl (fun hc12 => ?_) (fun hc12 => ?_)
    ·have hc12b := hc12
     have hc12 := of_decide_eq_true hc12
     refine W.exit _ ?_
     refine seqQ_exit ?_
     refine blkQ_here ?_
     exact ⟨rfl, (rem.length - ((stepM rem).2).toNat), by omega, (rem.drop ((stepM rem).2).toNat), es, sv9, u, (by rw [List.length_drop]), (dec_neg hD hne (by omega) (by omega)), (by rw [List.length_drop]; omega), (slk_dropN hk11), H, rfl, rfl, rfl⟩
    ·have hc12b := hc12
     have hc12 := of_decide_eq_false hc12
     refine W.skip ?_
     refine W.region ?_
     iterate 2 refine RW.v ?_
     refine RW.mkL H (x := .row ⟨[.int .i64 ((stepM rem).1)], 3, false⟩) (fm := fun b => .slice (some ⟨b, 0, none⟩) 1 1) (by kernel_rfl) (by kernel_rfl) (by kernel_rfl) (by kernel_rfl) ?_
     clear H; intro _ b13 _ H
     refine RW.appL H 1 0 (n := 1) (e2 := 3) (by kernel_rfl) (by kernel_rfl) rfl rfl rfl rfl rfl rfl rfl rfl (by kernel_rfl) (by kernel_rfl) (by kernel_rfl) (by decide) (by decide) rfl rfl (by omega) (by kernel_rfl) ?_
     clear H; intro _ v14 _ H
     dsimp only [setL, delL] at H
     refine RW.v ?_
     refine RW.nil ?_
     refine blkQ_normal ?_
     rw [show es.map (Value.int .i64) ++ [.int .i64 ((stepM rem).1)] = (es ++ [((stepM rem).1)]).map (Value.int .i64) by rw [List.map_append]; rfl, show es.length + 1 = (es ++ [((stepM rem).1)]).length by rw [List.length_append]; rfl] at H
     exact ⟨rfl, (rem.length - ((stepM rem).2).toNat), by omega, (rem.drop ((stepM rem).2).toNat), (es ++ [((stepM rem).1)]), sv9, v14, (by rw [List.length_drop]), (dec_pos hD hne (by omega) (by omega)), (by rw [List.length_drop, List.length_append, List.length_singleton]; omega), (slk_dropN hk11), H, rfl, rfl, rfl⟩
  ·have hc7b := hc7
   have hc7 := ne_of_beq_false hc7
   refine W.region ?_
   refine RW.v ?_
   have hst : stepM rem = charR rem := if_neg (by omega)
   refine RW.cl ?_
   refine ((char_wc hU h16 hk.slf hne (by omega) H).mono ?_)
   clear H
   rw [← hst]
   rintro _ _ ⟨rfl, H⟩
   iterate 5 refine RW.v ?_
   refine RW.nil ?_
   refine W.rg [(0, w), (1, .bool false), (4, u), (6, .int .i64 ((stepM rem).1)), (7, .int .i64 ((stepM rem).2))] fun TA => ?_
   refine W.seq ?_
   refine W.block ?_
   refine W.seq (W.region ?_)
   iterate 3 refine RW.v ?_
   refine RW.both _ _ rfl rfl rfl (fun hc15 => ?_) (fun hc15 => ?_)
   ·have hc15b := hc15
    have hc15 := eq_of_beq hc15
    refine RW.val (by rfl) (by kernel_rfl) rfl (by kernel_rfl) ?_
    refine RW.val (by rfl) (by kernel_rfl) rfl (by kernel_rfl) ?_
    iterate 2 refine RW.v ?_
    refine RW.nil ?_
    refine W.c1 ?_
    refine W.seq (W.region ?_)
    iterate 2 refine RW.v ?_
    refine RW.cl ?_
    refine ((clone_wc hk (List.length_pos_iff.2 hne) (by omega) H).mono ?_)
    clear H
    rintro cv _ H
    iterate 2 refine RW.v ?_
    refine RW.nil ?_
    refine W.ret ?_
    refine blkQ_ret ?_
    refine seqQ_ret ?_
    refine blkQ_ret ?_
    refine rndQ_ret ?_
    refine blkQ_ret ?_
    refine seqQ_ret ?_
    refine ⟨rfl, ?_⟩
    refine endG (by rfl) (by exact resL_tmp (by exact resL_tmp rfl)) ?_
    have eD : decD bs = (es, rem) := by rw [hD, decD_stop hne (by omega), List.append_nil]
    rw [eD]
    exact ⟨_, _, rfl, fun e => absurd e hne, H.front 1 rfl⟩
   ·have hc15b := hc15
    have hc15 := ne_of_beq_false hc15
    refine RW.skip (by rfl) (by kernel_rfl) ?_
    refine RW.skip (by rfl) (by kernel_rfl) ?_
    iterate 2 refine RW.v ?_
    refine RW.nil ?_
    refine W.c0 ?_
    refine W.seq (W.region ?_)
    refine RW.v ?_
    refine RW.valE (v' := .bool false) (by kernel_rfl) (by kernel_rfl) rfl (congrArg Value.bool (beq_eq_false_iff_ne.2 (by omega))) (by kernel_rfl) ?_
    refine RW.v ?_
    refine RW.skip (by rfl) (by kernel_rfl) ?_
    refine RW.skip (by rfl) (by kernel_rfl) ?_
    refine RW.skip (by rfl) (by kernel_rfl) ?_
    refine RW.skip (by rfl) (by kernel_rfl) ?_
    iterate 2 refine RW.v ?_
    refine RW.nil ?_
    refine W.c0 ?_
    refine W.seq (W.region ?_)
    refine RW.v ?_
    refine RW.valE (v' := .bool false) (by kernel_rfl) (by kernel_rfl) rfl (congrArg Value.bool (beq_eq_false_iff_ne.2 (by omega))) (by kernel_rfl) ?_
    refine RW.v ?_
    refine RW.nil ?_
    refine W.c0 ?_
    refine W.skip ?_
    refine blkQ_normal ?_
    refine W.seq (W.region ?_)
    iterate 2 refine RW.v ?_
    obtain ⟨sv16, hv17, hk18⟩ := slk_rest (P := Tryd.prog) (t := 43) (e := 5) (i := ((stepM rem).2).toNat) hk (by kernel_rfl) (by kernel_rfl) (by omega)
    rw [show ((((stepM rem).2).toNat : Nat) : Int) = (stepM rem).2 from by omega] at hv17
    rw [Nat.mul_one] at hk18
    refine RW.vop (v := sv16) (by kernel_rfl) (by kernel_rfl) (vop_slice rfl hv17) (by kernel_rfl) ?_
    refine RW.v ?_
    refine RW.nil ?_
    refine W.rg [(0, sv16), (1, .bool false), (4, u), (6, .int .i64 ((stepM rem).1))] fun TA => ?_
    refine W.seq ?_
    refine W.seq (W.region ?_)
    iterate 2 refine RW.v ?_
    refine RW.nil ?_
    refine W.rg [(0, sv16), (1, .bool false), (4, u), (6, .int .i64 ((stepM rem).1)), (51, .bool (decide (((stepM rem).1) < 0)))] fun TA => ?_
    refine W.cond rfl (fun hc19 => ?_) (fun hc19 => ?_)
    ·have hc19b := hc19
     have hc19 := of_decide_eq_true hc19
     refine W.exit _ ?_
     refine seqQ_exit ?_
     refine blkQ_here ?_
     exact ⟨rfl, (rem.length - ((stepM rem).2).toNat), by omega, (rem.drop ((stepM rem).2).toNat), es, sv16, u, (by rw [List.length_drop]), (dec_neg hD hne (by omega) (by omega)), (by rw [List.length_drop]; omega), (slk_dropN hk18), H, rfl, rfl, rfl⟩
    ·have hc19b := hc19
     have hc19 := of_decide_eq_false hc19
     refine W.skip ?_
     refine W.region ?_
     iterate 2 refine RW.v ?_
     refine RW.mkL H (x := .row ⟨[.int .i64 ((stepM rem).1)], 3, false⟩) (fm := fun b => .slice (some ⟨b, 0, none⟩) 1 1) (by kernel_rfl) (by kernel_rfl) (by kernel_rfl) (by kernel_rfl) ?_
     clear H; intro _ b20 _ H
     refine RW.appL H 1 0 (n := 1) (e2 := 3) (by kernel_rfl) (by kernel_rfl) rfl rfl rfl rfl rfl rfl rfl rfl (by kernel_rfl) (by kernel_rfl) (by kernel_rfl) (by decide) (by decide) rfl rfl (by omega) (by kernel_rfl) ?_
     clear H; intro _ v21 _ H
     dsimp only [setL, delL] at H
     refine RW.v ?_
     refine RW.nil ?_
     refine blkQ_normal ?_
     rw [show es.map (Value.int .i64) ++ [.int .i64 ((stepM rem).1)] = (es ++ [((stepM rem).1)]).map (Value.int .i64) by rw [List.map_append]; rfl, show es.length + 1 = (es ++ [((stepM rem).1)]).length by rw [List.length_append]; rfl] at H
     exact ⟨rfl, (rem.length - ((stepM rem).2).toNat), by omega, (rem.drop ((stepM rem).2).toNat), (es ++ [((stepM rem).1)]), sv16, v21, (by rw [List.length_drop]), (dec_pos hD hne (by omega) (by omega)), (by rw [List.length_drop, List.length_append, List.length_singleton]; omega), (slk_dropN hk18), H, rfl, rfl, rfl⟩
 ·have hc1b := hc1
  have hc1 := of_decide_eq_false hc1
  refine W.exit _ ?_
  refine seqQ_exit ?_
  refine rndQ_exit ?_
  have hr0 : rem = [] := List.eq_nil_of_length_eq_zero (by omega)
  subst hr0
  refine blkQ_here ?_
  refine W.seq (W.region ?_)
  iterate 3 refine RW.v ?_
  refine RW.nil ?_
  refine W.ret ?_
  refine ⟨rfl, ?_⟩
  refine endG (by rfl) (by exact resL_tmp (by exact resL_tmp rfl)) ?_
  have eD : decD bs = (es, []) := by rw [hD, decD_nil, List.append_nil]
  rw [eD]
  exact ⟨_, _, rfl, fun _ => rfl, (H.nilSl 5 1).front 1 rfl⟩
set_option maxHeartbeats 16000000 in
theorem dect_wc {bs : List UInt8} {v : Value} (hU : U8F F) (h16 : 16 ≤ G) (hs : SlK F 1 v bs.length (bs.map byteV)) (hn : bs.length ≤ 100000) (H : Lies G A F σ L) : WC G Tryd.prog 19 #[v, .bool true] σ fun r σ' => ∃ u, r = .tuple #[u, .slice none 0 0] ∧ Lies G A F σ' L := by
 refine WC.enter (fn := Tryd.f19) Tryd.func19 rfl ?_
 refine W.rg [(0, v), (1, .bool true)] fun TA => ?_
 refine W.seq (W.region ?_)
 iterate 2 refine RW.v ?_
 refine RW.nil ?_
 refine W.rg [(0, v), (1, .bool true), (4, .slice none 0 0)] fun TA => ?_
 refine W.scope ?_
 refine W.seq ?_
 refine W.label _ ?_
 refine W.seq ?_
 refine W.block ?_
 replace H := H.nilSl 3 1
 refine W.loop (fun mm ta σ => ∃ (rem : List UInt8) (es : List Int) (w : Value) (u : Value), (mm = rem.length) ∧ (True) ∧ (es.length + rem.length ≤ bs.length) ∧ (SlK F 1 w rem.length (rem.map byteV)) ∧ Lies G A F σ (.sl 3 1 u es.length (es.map (Value.int .i64)) :: (L)) ∧ ta 0 = w ∧ ta 1 = .bool true ∧ ta 4 = u) bs.length ?_ ?_
 ·exact ⟨bs, [], v, .slice none 0 0, rfl, trivial, (by rw [List.length_nil]; omega), hs, H, rfl, rfl, rfl⟩
 clear H
 rintro mm ta _ ⟨rem, es, w, u, hm, hD, hel, hk, H, e0, e1, e4⟩
 refine W.rst [(0, w), (1, .bool true), (4, u)] ⟨e0, e1, e4, trivial⟩ fun TA => ?_
 clear e0 e1 e4
 refine W.seq ?_
 refine W.seq (W.region ?_)
 refine RW.v ?_
 refine RW.len (by kernel_rfl) (by kernel_rfl) rfl rfl rfl rfl (hk.slf.len (e := 5) (by kernel_rfl)) (by kernel_rfl) ?_
 refine RW.v ?_
 refine RW.nil ?_
 refine W.rg [(0, w), (1, .bool true), (4, u), (10, .bool (decide ((rem.length : Int) > 0)))] fun TA => ?_
 refine W.cond rfl (fun hc1 => ?_) (fun hc1 => ?_)
 ·have hc1b := hc1
  have hc1 := of_decide_eq_true hc1
  refine W.skip ?_
  refine W.block ?_
  refine W.seq (W.region ?_)
  have hne : rem ≠ [] := fun e => by have := congrArg List.length e; rw [List.length_nil] at this; omega
  have hst2 := stepM_two hne
  have hb0 := byte_lt rem 0
  iterate 2 refine RW.v ?_
  refine RW.nil ?_
  refine W.rg [(0, w), (1, .bool true), (4, u)] fun TA => ?_
  refine W.seq ?_
  refine W.seq (W.region ?_)
  refine RW.v ?_
  refine RW.idxF hk.slf (by kernel_rfl) (by kernel_rfl) rfl Tryd.underlying43 (by kernel_rfl) rfl rfl ⟨by omega, by omega⟩ (by kernel_rfl) ?_
  intro b2 q3 r4 hF5 hE6
  rw [bytes_atC (l := rem) (j := 0) (i := 0) rfl (by omega)] at hE6
  refine RW.loads 1 (by kernel_rfl) (by kernel_rfl) rfl rfl (H.old _ _ hF5) hE6 rfl (by kernel_rfl) ?_
  refine RW.v ?_
  refine RW.nil ?_
  refine W.rg [(0, w), (1, .bool true), (4, u), (14, .bool (((rem.getD 0 0).toNat : Int) == 27))] fun TA => ?_
  refine W.cond rfl (fun hc7 => ?_) (fun hc7 => ?_)
  ·have hc7b := hc7
   have hc7 := eq_of_beq hc7
   refine W.region ?_
   refine RW.v ?_
   have hst : stepM rem = escM rem := if_pos (by omega)
   refine RW.cl ?_
   refine ((escg_wc hU h16 hk (by omega) H).mono ?_)
   clear H
   rw [← hst]
   rintro _ _ ⟨rfl, H⟩
   iterate 5 refine RW.v ?_
   refine RW.nil ?_
   refine W.rg [(0, w), (1, .bool true), (4, u), (6, .int .i64 ((stepM rem).1)), (7, .int .i64 ((stepM rem).2))] fun TA => ?_
   refine W.seq ?_
   refine W.block ?_
   refine W.seq (W.region ?_)
   iterate 3 refine RW.v ?_
   refine RW.both _ _ rfl rfl rfl (fun hc8 => ?_) (fun hc8 => ?_)
   ·have hc8b := hc8
    have hc8 := eq_of_beq hc8
    refine RW.val (by rfl) (by kernel_rfl) rfl (by kernel_rfl) ?_
    refine RW.val (by rfl) (by kernel_rfl) rfl (by kernel_rfl) ?_
    iterate 2 refine RW.v ?_
    refine RW.nil ?_
    refine W.c0 ?_
    refine W.seq (W.region ?_)
    refine RW.v ?_
    refine RW.valE (v' := .bool true) (by kernel_rfl) (by kernel_rfl) rfl (congrArg Value.bool (beq_iff_eq.2 (by omega))) (by kernel_rfl) ?_
    refine RW.v ?_
    refine RW.val (by rfl) (by kernel_rfl) rfl (by kernel_rfl) ?_
    refine RW.idxF hk.slf (by rfl) (by kernel_rfl) rfl Tryd.underlying43 (by kernel_rfl) rfl rfl ⟨by omega, by omega⟩ (by kernel_rfl) ?_
    intro b9 q10 r11 hF12 hE13
    rw [bytes_atC (l := rem) (j := 0) (i := 0) rfl (by omega)] at hE13
    refine RW.loads 1 (by rfl) (by kernel_rfl) rfl rfl (H.old _ _ hF12) hE13 rfl (by kernel_rfl) ?_
    refine RW.valE (v' := .bool true) (by rfl) (by kernel_rfl) rfl (congrArg Value.bool (beq_iff_eq.2 (by omega))) (by kernel_rfl) ?_
    iterate 2 refine RW.v ?_
    refine RW.nil ?_
    refine W.c1 ?_
    refine W.region ?_
    iterate 2 refine RW.v ?_
    refine RW.nil ?_
    refine blkQ_normal ?_
    refine W.rg [(0, w), (1, .bool true), (4, u), (6, .int .i64 27), (7, .int .i64 1)] fun TA => ?_
    refine W.seq (W.region ?_)
    iterate 2 refine RW.v ?_
    obtain ⟨sv14, hv15, hk16⟩ := slk_rest (P := Tryd.prog) (t := 43) (e := 5) (i := 1) hk (by kernel_rfl) (by kernel_rfl) (by omega)
    rw [show ((1 : Nat) : Int) = 1 from by omega] at hv15
    rw [Nat.mul_one] at hk16
    refine RW.vop (v := sv14) (by kernel_rfl) (by kernel_rfl) (vop_slice rfl hv15) (by kernel_rfl) ?_
    refine RW.v ?_
    refine RW.nil ?_
    refine W.rg [(0, sv14), (1, .bool true), (4, u), (6, .int .i64 27)] fun TA => ?_
    refine W.seq ?_
    refine W.seq (W.region ?_)
    iterate 2 refine RW.v ?_
    refine RW.nil ?_
    refine W.c0 ?_
    refine W.skip ?_
    refine W.region ?_
    iterate 2 refine RW.v ?_
    refine RW.mkL H (x := .row ⟨[.int .i64 27], 3, false⟩) (fm := fun b => .slice (some ⟨b, 0, none⟩) 1 1) (by kernel_rfl) (by kernel_rfl) (by kernel_rfl) (by kernel_rfl) ?_
    clear H; intro _ b17 _ H
    refine RW.appL H 1 0 (n := 1) (e2 := 3) (by kernel_rfl) (by kernel_rfl) rfl rfl rfl rfl rfl rfl rfl rfl (by kernel_rfl) (by kernel_rfl) (by kernel_rfl) (by decide) (by decide) rfl rfl (by omega) (by kernel_rfl) ?_
    clear H; intro _ v18 _ H
    dsimp only [setL, delL] at H
    refine RW.v ?_
    refine RW.nil ?_
    refine blkQ_normal ?_
    rw [show es.map (Value.int .i64) ++ [.int .i64 27] = (es ++ [27]).map (Value.int .i64) by rw [List.map_append]; rfl, show es.length + 1 = (es ++ [27]).length by rw [List.length_append]; rfl] at H
    exact ⟨rfl, (rem.length - 1), by omega, (rem.drop 1), (es ++ [27]), sv14, v18, (by rw [List.length_drop]), trivial, (by rw [List.length_drop, List.length_append, List.length_singleton]; omega), (slk_dropN hk16), H, rfl, rfl, rfl⟩
   ·have hc8b := hc8
    have hc8 := ne_of_beq_false hc8
    refine RW.skip (by rfl) (by kernel_rfl) ?_
    refine RW.skip (by rfl) (by kernel_rfl) ?_
    iterate 2 refine RW.v ?_
    refine RW.nil ?_
    refine W.c0 ?_
    refine W.seq (W.region ?_)
    refine RW.v ?_
    refine RW.valE (v' := .bool false) (by kernel_rfl) (by kernel_rfl) rfl (congrArg Value.bool (beq_eq_false_iff_ne.2 (by omega))) (by kernel_rfl) ?_
    refine RW.v ?_
    refine RW.skip (by rfl) (by kernel_rfl) ?_
    refine RW.skip (by rfl) (by kernel_rfl) ?_
    refine RW.skip (by rfl) (by kernel_rfl) ?_
    refine RW.skip (by rfl) (by kernel_rfl) ?_
    iterate 2 refine RW.v ?_
    refine RW.nil ?_
    refine W.c0 ?_
    refine W.seq (W.region ?_)
    refine RW.v ?_
    refine RW.valE (v' := .bool false) (by kernel_rfl) (by kernel_rfl) rfl (congrArg Value.bool (beq_eq_false_iff_ne.2 (by omega))) (by kernel_rfl) ?_
    refine RW.v ?_
    refine RW.nil ?_
    refine W.c0 ?_
    refine W.skip ?_
    refine blkQ_normal ?_
    refine W.seq (W.region ?_)
    iterate 2 refine RW.v ?_
    obtain ⟨sv19, hv20, hk21⟩ := slk_rest (P := Tryd.prog) (t := 43) (e := 5) (i := ((stepM rem).2).toNat) hk (by kernel_rfl) (by kernel_rfl) (by omega)
    rw [show ((((stepM rem).2).toNat : Nat) : Int) = (stepM rem).2 from by omega] at hv20
    rw [Nat.mul_one] at hk21
    refine RW.vop (v := sv19) (by kernel_rfl) (by kernel_rfl) (vop_slice rfl hv20) (by kernel_rfl) ?_
    refine RW.v ?_
    refine RW.nil ?_
    refine W.rg [(0, sv19), (1, .bool true), (4, u), (6, .int .i64 ((stepM rem).1))] fun TA => ?_
    refine W.seq ?_
    refine W.seq (W.region ?_)
    iterate 2 refine RW.v ?_
    refine RW.nil ?_
    refine W.rg [(0, sv19), (1, .bool true), (4, u), (6, .int .i64 ((stepM rem).1)), (51, .bool (decide (((stepM rem).1) < 0)))] fun TA => ?_
    refine W.cond rfl (fun hc22 => ?_) (fun hc22 => ?_)
    ·have hc22b := hc22
     have hc22 := of_decide_eq_true hc22
     refine W.exit _ ?_
     refine seqQ_exit ?_
     refine blkQ_here ?_
     exact ⟨rfl, (rem.length - ((stepM rem).2).toNat), by omega, (rem.drop ((stepM rem).2).toNat), es, sv19, u, (by rw [List.length_drop]), trivial, (by rw [List.length_drop]; omega), (slk_dropN hk21), H, rfl, rfl, rfl⟩
    ·have hc22b := hc22
     have hc22 := of_decide_eq_false hc22
     refine W.skip ?_
     refine W.region ?_
     iterate 2 refine RW.v ?_
     refine RW.mkL H (x := .row ⟨[.int .i64 ((stepM rem).1)], 3, false⟩) (fm := fun b => .slice (some ⟨b, 0, none⟩) 1 1) (by kernel_rfl) (by kernel_rfl) (by kernel_rfl) (by kernel_rfl) ?_
     clear H; intro _ b23 _ H
     refine RW.appL H 1 0 (n := 1) (e2 := 3) (by kernel_rfl) (by kernel_rfl) rfl rfl rfl rfl rfl rfl rfl rfl (by kernel_rfl) (by kernel_rfl) (by kernel_rfl) (by decide) (by decide) rfl rfl (by omega) (by kernel_rfl) ?_
     clear H; intro _ v24 _ H
     dsimp only [setL, delL] at H
     refine RW.v ?_
     refine RW.nil ?_
     refine blkQ_normal ?_
     rw [show es.map (Value.int .i64) ++ [.int .i64 ((stepM rem).1)] = (es ++ [((stepM rem).1)]).map (Value.int .i64) by rw [List.map_append]; rfl, show es.length + 1 = (es ++ [((stepM rem).1)]).length by rw [List.length_append]; rfl] at H
     exact ⟨rfl, (rem.length - ((stepM rem).2).toNat), by omega, (rem.drop ((stepM rem).2).toNat), (es ++ [((stepM rem).1)]), sv19, v24, (by rw [List.length_drop]), trivial, (by rw [List.length_drop, List.length_append, List.length_singleton]; omega), (slk_dropN hk21), H, rfl, rfl, rfl⟩
  ·have hc7b := hc7
   have hc7 := ne_of_beq_false hc7
   refine W.region ?_
   refine RW.v ?_
   have hst : stepM rem = charR rem := if_neg (by omega)
   refine RW.cl ?_
   refine ((char_wc hU h16 hk.slf hne (by omega) H).mono ?_)
   clear H
   rw [← hst]
   rintro _ _ ⟨rfl, H⟩
   iterate 5 refine RW.v ?_
   refine RW.nil ?_
   refine W.rg [(0, w), (1, .bool true), (4, u), (6, .int .i64 ((stepM rem).1)), (7, .int .i64 ((stepM rem).2))] fun TA => ?_
   refine W.seq ?_
   refine W.block ?_
   refine W.seq (W.region ?_)
   iterate 3 refine RW.v ?_
   refine RW.both _ _ rfl rfl rfl (fun hc25 => ?_) (fun hc25 => ?_)
   ·have hc25b := hc25
    have hc25 := eq_of_beq hc25
    refine RW.val (by rfl) (by kernel_rfl) rfl (by kernel_rfl) ?_
    refine RW.val (by rfl) (by kernel_rfl) rfl (by kernel_rfl) ?_
    iterate 2 refine RW.v ?_
    refine RW.nil ?_
    refine W.c0 ?_
    refine W.seq (W.region ?_)
    refine RW.v ?_
    refine RW.valE (v' := .bool true) (by kernel_rfl) (by kernel_rfl) rfl (congrArg Value.bool (beq_iff_eq.2 (by omega))) (by kernel_rfl) ?_
    refine RW.v ?_
    refine RW.val (by rfl) (by kernel_rfl) rfl (by kernel_rfl) ?_
    refine RW.idxF hk.slf (by rfl) (by kernel_rfl) rfl Tryd.underlying43 (by kernel_rfl) rfl rfl ⟨by omega, by omega⟩ (by kernel_rfl) ?_
    intro b26 q27 r28 hF29 hE30
    rw [bytes_atC (l := rem) (j := 0) (i := 0) rfl (by omega)] at hE30
    refine RW.loads 1 (by rfl) (by kernel_rfl) rfl rfl (H.old _ _ hF29) hE30 rfl (by kernel_rfl) ?_
    refine RW.valE (v' := .bool false) (by rfl) (by kernel_rfl) rfl (congrArg Value.bool (beq_eq_false_iff_ne.2 (by omega))) (by kernel_rfl) ?_
    iterate 2 refine RW.v ?_
    refine RW.nil ?_
    refine W.c0 ?_
    refine W.seq (W.region ?_)
    refine RW.v ?_
    refine RW.valE (v' := .bool true) (by kernel_rfl) (by kernel_rfl) rfl (congrArg Value.bool (beq_iff_eq.2 (by omega))) (by kernel_rfl) ?_
    refine RW.v ?_
    refine RW.nil ?_
    refine W.c1 ?_
    refine W.region ?_
    refine RW.v ?_
    refine RW.nil ?_
    refine blkQ_normal ?_
    refine W.rg [(0, w), (1, .bool true), (4, u), (6, .int .i64 ((stepM rem).1)), (7, .int .i64 1)] fun TA => ?_
    refine W.seq (W.region ?_)
    iterate 2 refine RW.v ?_
    obtain ⟨sv31, hv32, hk33⟩ := slk_rest (P := Tryd.prog) (t := 43) (e := 5) (i := 1) hk (by kernel_rfl) (by kernel_rfl) (by omega)
    rw [show ((1 : Nat) : Int) = 1 from by omega] at hv32
    rw [Nat.mul_one] at hk33
    refine RW.vop (v := sv31) (by kernel_rfl) (by kernel_rfl) (vop_slice rfl hv32) (by kernel_rfl) ?_
    refine RW.v ?_
    refine RW.nil ?_
    refine W.rg [(0, sv31), (1, .bool true), (4, u), (6, .int .i64 ((stepM rem).1))] fun TA => ?_
    refine W.seq ?_
    refine W.seq (W.region ?_)
    iterate 2 refine RW.v ?_
    refine RW.nil ?_
    refine W.rg [(0, sv31), (1, .bool true), (4, u), (6, .int .i64 ((stepM rem).1)), (51, .bool (decide (((stepM rem).1) < 0)))] fun TA => ?_
    refine W.cond rfl (fun hc34 => ?_) (fun hc34 => ?_)
    ·have hc34b := hc34
     have hc34 := of_decide_eq_true hc34
     refine W.exit _ ?_
     refine seqQ_exit ?_
     refine blkQ_here ?_
     exact ⟨rfl, (rem.length - 1), by omega, (rem.drop 1), es, sv31, u, (by rw [List.length_drop]), trivial, (by rw [List.length_drop]; omega), (slk_dropN hk33), H, rfl, rfl, rfl⟩
    ·have hc34b := hc34
     have hc34 := of_decide_eq_false hc34
     refine W.skip ?_
     refine W.region ?_
     iterate 2 refine RW.v ?_
     refine RW.mkL H (x := .row ⟨[.int .i64 ((stepM rem).1)], 3, false⟩) (fm := fun b => .slice (some ⟨b, 0, none⟩) 1 1) (by kernel_rfl) (by kernel_rfl) (by kernel_rfl) (by kernel_rfl) ?_
     clear H; intro _ b35 _ H
     refine RW.appL H 1 0 (n := 1) (e2 := 3) (by kernel_rfl) (by kernel_rfl) rfl rfl rfl rfl rfl rfl rfl rfl (by kernel_rfl) (by kernel_rfl) (by kernel_rfl) (by decide) (by decide) rfl rfl (by omega) (by kernel_rfl) ?_
     clear H; intro _ v36 _ H
     dsimp only [setL, delL] at H
     refine RW.v ?_
     refine RW.nil ?_
     refine blkQ_normal ?_
     rw [show es.map (Value.int .i64) ++ [.int .i64 ((stepM rem).1)] = (es ++ [((stepM rem).1)]).map (Value.int .i64) by rw [List.map_append]; rfl, show es.length + 1 = (es ++ [((stepM rem).1)]).length by rw [List.length_append]; rfl] at H
     exact ⟨rfl, (rem.length - 1), by omega, (rem.drop 1), (es ++ [((stepM rem).1)]), sv31, v36, (by rw [List.length_drop]), trivial, (by rw [List.length_drop, List.length_append, List.length_singleton]; omega), (slk_dropN hk33), H, rfl, rfl, rfl⟩
   ·have hc25b := hc25
    have hc25 := ne_of_beq_false hc25
    refine RW.skip (by rfl) (by kernel_rfl) ?_
    refine RW.skip (by rfl) (by kernel_rfl) ?_
    iterate 2 refine RW.v ?_
    refine RW.nil ?_
    refine W.c0 ?_
    refine W.seq (W.region ?_)
    refine RW.v ?_
    refine RW.valE (v' := .bool false) (by kernel_rfl) (by kernel_rfl) rfl (congrArg Value.bool (beq_eq_false_iff_ne.2 (by omega))) (by kernel_rfl) ?_
    refine RW.v ?_
    refine RW.skip (by rfl) (by kernel_rfl) ?_
    refine RW.skip (by rfl) (by kernel_rfl) ?_
    refine RW.skip (by rfl) (by kernel_rfl) ?_
    refine RW.skip (by rfl) (by kernel_rfl) ?_
    iterate 2 refine RW.v ?_
    refine RW.nil ?_
    refine W.c0 ?_
    refine W.seq (W.region ?_)
    refine RW.v ?_
    refine RW.valE (v' := .bool false) (by kernel_rfl) (by kernel_rfl) rfl (congrArg Value.bool (beq_eq_false_iff_ne.2 (by omega))) (by kernel_rfl) ?_
    refine RW.v ?_
    refine RW.nil ?_
    refine W.c0 ?_
    refine W.skip ?_
    refine blkQ_normal ?_
    refine W.seq (W.region ?_)
    iterate 2 refine RW.v ?_
    obtain ⟨sv37, hv38, hk39⟩ := slk_rest (P := Tryd.prog) (t := 43) (e := 5) (i := ((stepM rem).2).toNat) hk (by kernel_rfl) (by kernel_rfl) (by omega)
    rw [show ((((stepM rem).2).toNat : Nat) : Int) = (stepM rem).2 from by omega] at hv38
    rw [Nat.mul_one] at hk39
    refine RW.vop (v := sv37) (by kernel_rfl) (by kernel_rfl) (vop_slice rfl hv38) (by kernel_rfl) ?_
    refine RW.v ?_
    refine RW.nil ?_
    refine W.rg [(0, sv37), (1, .bool true), (4, u), (6, .int .i64 ((stepM rem).1))] fun TA => ?_
    refine W.seq ?_
    refine W.seq (W.region ?_)
    iterate 2 refine RW.v ?_
    refine RW.nil ?_
    refine W.rg [(0, sv37), (1, .bool true), (4, u), (6, .int .i64 ((stepM rem).1)), (51, .bool (decide (((stepM rem).1) < 0)))] fun TA => ?_
    refine W.cond rfl (fun hc40 => ?_) (fun hc40 => ?_)
    ·have hc40b := hc40
     have hc40 := of_decide_eq_true hc40
     refine W.exit _ ?_
     refine seqQ_exit ?_
     refine blkQ_here ?_
     exact ⟨rfl, (rem.length - ((stepM rem).2).toNat), by omega, (rem.drop ((stepM rem).2).toNat), es, sv37, u, (by rw [List.length_drop]), trivial, (by rw [List.length_drop]; omega), (slk_dropN hk39), H, rfl, rfl, rfl⟩
    ·have hc40b := hc40
     have hc40 := of_decide_eq_false hc40
     refine W.skip ?_
     refine W.region ?_
     iterate 2 refine RW.v ?_
     refine RW.mkL H (x := .row ⟨[.int .i64 ((stepM rem).1)], 3, false⟩) (fm := fun b => .slice (some ⟨b, 0, none⟩) 1 1) (by kernel_rfl) (by kernel_rfl) (by kernel_rfl) (by kernel_rfl) ?_
     clear H; intro _ b41 _ H
     refine RW.appL H 1 0 (n := 1) (e2 := 3) (by kernel_rfl) (by kernel_rfl) rfl rfl rfl rfl rfl rfl rfl rfl (by kernel_rfl) (by kernel_rfl) (by kernel_rfl) (by decide) (by decide) rfl rfl (by omega) (by kernel_rfl) ?_
     clear H; intro _ v42 _ H
     dsimp only [setL, delL] at H
     refine RW.v ?_
     refine RW.nil ?_
     refine blkQ_normal ?_
     rw [show es.map (Value.int .i64) ++ [.int .i64 ((stepM rem).1)] = (es ++ [((stepM rem).1)]).map (Value.int .i64) by rw [List.map_append]; rfl, show es.length + 1 = (es ++ [((stepM rem).1)]).length by rw [List.length_append]; rfl] at H
     exact ⟨rfl, (rem.length - ((stepM rem).2).toNat), by omega, (rem.drop ((stepM rem).2).toNat), (es ++ [((stepM rem).1)]), sv37, v42, (by rw [List.length_drop]), trivial, (by rw [List.length_drop, List.length_append, List.length_singleton]; omega), (slk_dropN hk39), H, rfl, rfl, rfl⟩
 ·have hc1b := hc1
  have hc1 := of_decide_eq_false hc1
  refine W.exit _ ?_
  refine seqQ_exit ?_
  refine rndQ_exit ?_
  have hr0 : rem = [] := List.eq_nil_of_length_eq_zero (by omega)
  subst hr0
  refine blkQ_here ?_
  refine W.seq (W.region ?_)
  iterate 3 refine RW.v ?_
  refine RW.nil ?_
  refine W.ret ?_
  refine ⟨rfl, ?_⟩
  refine endG (by rfl) (by exact resL_tmp (by exact resL_tmp rfl)) ?_
  exact ⟨_, rfl, (H.del 0)⟩
end
end Go.Proofs.YtpjpefcpbkmilaaDoor
