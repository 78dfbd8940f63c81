/-
 Counts and codes of specifications, in the program and the reference. Conditions: none.
-/
import Derived.Test.YthemeeiedlbhkaaDoorNel
namespace Go.Proofs.YthemeeiedlbhkaaDoor
open Go.Lib
set_option maxRecDepth 100000
def cntR (l : List Need) : Nat := (l.filter fun n => n.1 == 114).length
def manyM (l : List Need) : Nat := l.length + cntR l
theorem cnt_le (l : List Need) : cntR l ≤ l.length := List.length_filter_le ..
theorem cnt_snoc {l : List Need} {i : Nat} (h : i < l.length) : cntR (l.take (i + 1)) = if (gD l i).1 = 114 then cntR (l.take i) + 1 else cntR (l.take i) := by
 unfold cntR
 rw [take_gD h, List.filter_append, List.length_append]
 by_cases k : (gD l i).1 = 114
 ·rw [if_pos k, List.filter_cons_of_pos (by rw [k]; rfl)]; rfl
 ·rw [if_neg k, List.filter_cons_of_neg (by simpa using k)]; rfl
set_option maxHeartbeats 8000000 in
theorem many_wc {G : Nat} {A : Abs} {σ : Mem} {F : Nat → Option Blk2} {L : List Ent} {xv : Value} {xw xe xh : Bool} {l : List Need} (hx : SlF F 2 xv l.length (needC l)) (hll : l.length ≤ 300) (H : Lies G A F σ L) : WC G Tryd.prog 12 #[.agg #[.bool xw, .bool xe, .bool xh, xv]] σ fun v σ' => v = .int .i64 ((manyM l : Nat) : Int) ∧ Lies G A F σ' L := by
 refine WC.enter (fn := Tryd.f12) Tryd.func12 rfl ?_
 refine W.rg [(0, .agg #[.bool xw, .bool xe, .bool xh, xv])] fun TA => ?_
 refine W.seq (W.region ?_)
 refine RW.mkL H (x := .row ⟨[.bool xw, .bool xe, .bool xh, xv], 24, false⟩) (fm := fun b => .pointer (some ⟨b, 0, none⟩)) (by kernel_rfl) (by kernel_rfl) (by rcases slf_forms hx with rfl | ⟨_, rfl⟩ | ⟨_, _, _, _, _, rfl⟩ <;> kernel_rfl) (by kernel_rfl) ?_
 clear H; intro _ b1 _ H
 refine RW.v ?_
 refine RW.nil ?_
 refine W.rg [(1, .pointer (some ⟨b1, 0, none⟩))] fun TA => ?_
 refine W.seq (W.region ?_)
 refine RW.v ?_
 refine RW.nil ?_
 refine W.rg [(1, .pointer (some ⟨b1, 0, none⟩)), (3, .int .i64 0)] fun TA => ?_
 refine W.seq ?_
 refine W.seq (W.region ?_)
 refine RW.v ?_
 refine RW.ld H 0 1 ?_
 refine RW.len (by kernel_rfl) (by kernel_rfl) rfl rfl rfl rfl (hx.len (e := 29) (by kernel_rfl)) (by kernel_rfl) ?_
 refine RW.v ?_
 refine RW.nil ?_
 replace H := (H.del 0)
 dsimp only [setL, delL] at H
 refine W.rg [(3, .int .i64 0), (7, xv), (8, .int .i64 (l.length : Int)), (9, .int .i64 0)] fun TA => ?_
 refine W.block ?_
 refine W.loop (fun mm ta σ => ∃ (i : Nat) (c : Nat), (mm + i = l.length) ∧ (c = i + cntR (l.take i)) ∧ Lies G A F σ ((L)) ∧ ta 3 = .int .i64 ((c : Nat) : Int) ∧ ta 7 = xv ∧ ta 8 = .int .i64 (l.length : Int) ∧ ta 9 = .int .i64 ((i : Nat) : Int)) l.length ?_ ?_
 ·exact ⟨0, 0, (by omega), rfl, H, rfl, rfl, rfl, rfl⟩
 clear H
 rintro mm ta _ ⟨i, c, hm, hc, H, e3, e7, e8, e9⟩
 refine W.rst [(3, .int .i64 ((c : Nat) : Int)), (7, xv), (8, .int .i64 (l.length : Int)), (9, .int .i64 ((i : Nat) : Int))] ⟨e3, e7, e8, e9, trivial⟩ fun TA => ?_
 clear e3 e7 e8 e9
 refine W.seq (W.region ?_)
 refine RW.v ?_
 refine RW.nil ?_
 refine W.rg [(3, .int .i64 ((c : Nat) : Int)), (7, xv), (8, .int .i64 (l.length : Int)), (9, .int .i64 ((i : Nat) : Int)), (10, .bool (decide (((i : Nat) : Int) < (l.length : Int))))] fun TA => ?_
 refine W.seq ?_
 refine W.cond rfl (fun hc2 => ?_) (fun hc2 => ?_)
 ·have hc2b := hc2
  have hc2 := of_decide_eq_true hc2
  have hil : i < l.length := by omega
  have hcl := cnt_le (l.take i)
  rw [List.length_take] at hcl
  refine W.skip ?_
  refine W.seq ?_
  refine W.block ?_
  refine W.seq (W.region ?_)
  refine RW.idxF hx (by kernel_rfl) (by kernel_rfl) rfl Tryd.underlying22 (by kernel_rfl) rfl rfl ⟨by omega, by omega⟩ (by kernel_rfl) ?_
  intro b3 q4 r5 hF6 hE7
  rw [need_at (l := l) (j := i) (i := ((i : Nat) : Int)) (by omega) (by omega)] at hE7
  refine RW.loads 2 (by kernel_rfl) (by kernel_rfl) rfl rfl (H.old _ _ hF6) hE7 rfl (by kernel_rfl) ?_
  refine RW.mk H (.row ⟨[.int .i64 0, .string ByteArray.empty], 29, false⟩) ?_
  clear H; intro _ b8 _ H
  refine RW.st H 0 [.int .i64 ((gD l i).1), .string ⟨((gD l i).2).toArray⟩] [.int .i64 ((gD l i).1), .string ⟨((gD l i).2).toArray⟩] ?_
  clear H; intro _ _ H; dsimp only [setL, delL] at H
  refine RW.nil ?_
  refine W.rg [(3, .int .i64 ((c : Nat) : Int)), (5, .pointer (some ⟨b8, 0, none⟩)), (7, xv), (8, .int .i64 (l.length : Int)), (9, .int .i64 ((i : Nat) : Int))] fun TA => ?_
  refine W.seq (W.region ?_)
  refine RW.v ?_
  refine RW.ld H 0 1 ?_
  refine RW.nil ?_
  replace H := (H.del 0)
  dsimp only [setL, delL] at H
  refine W.rg [(3, .int .i64 ((c : Nat) : Int)), (7, xv), (8, .int .i64 (l.length : Int)), (9, .int .i64 ((i : Nat) : Int)), (14, .int .i64 ((gD l i).1))] fun TA => ?_
  refine W.block ?_
  refine W.seq ?_
  refine W.block ?_
  refine W.seq ?_
  refine W.block ?_
  refine W.seq ?_
  refine W.seq (W.region ?_)
  iterate 2 refine RW.v ?_
  refine RW.nil ?_
  refine W.rg [(3, .int .i64 ((c : Nat) : Int)), (7, xv), (8, .int .i64 (l.length : Int)), (9, .int .i64 ((i : Nat) : Int)), (15, .bool (((gD l i).1) == 114))] fun TA => ?_
  refine W.cond rfl (fun hc9 => ?_) (fun hc9 => ?_)
  ·have hc9b := hc9
   have hc9 := eq_of_beq hc9
   refine W.exit _ ?_
   refine seqQ_exit ?_
   refine blkQ_here ?_
   refine W.region ?_
   refine RW.v ?_
   refine RW.valE (v' := .int .i64 (((c + 1) : Nat) : Int)) (by kernel_rfl) (by kernel_rfl) rfl (congrArg (Value.int .i64) ((wrap_in (by omega) (by omega)).trans (by omega))) (by kernel_rfl) ?_
   refine RW.v ?_
   refine RW.nil ?_
   refine blkQ_normal ?_
   refine W.rg [(3, .int .i64 (((c + 1) : Nat) : Int)), (7, xv), (8, .int .i64 (l.length : Int)), (9, .int .i64 ((i : Nat) : Int))] fun TA => ?_
   refine W.seq (W.region ?_)
   refine RW.v ?_
   refine RW.valE (v' := .int .i64 ((((c + 1) + 1) : Nat) : Int)) (by kernel_rfl) (by kernel_rfl) rfl (congrArg (Value.int .i64) ((wrap_in (by omega) (by omega)).trans (by omega))) (by kernel_rfl) ?_
   refine RW.v ?_
   refine RW.nil ?_
   refine W.rg [(3, .int .i64 ((((c + 1) + 1) : Nat) : Int)), (7, xv), (8, .int .i64 (l.length : Int)), (9, .int .i64 ((i : Nat) : Int))] fun TA => ?_
   refine W.exit _ ?_
   refine blkQ_here ?_
   refine blkQ_normal ?_
   refine W.region ?_
   refine RW.valE (v' := .int .i64 (((i + 1) : Nat) : Int)) (by kernel_rfl) (by kernel_rfl) rfl (congrArg (Value.int .i64) ((wrap_in (by omega) (by omega)).trans (by omega))) (by kernel_rfl) ?_
   refine RW.v ?_
   refine RW.nil ?_
   exact ⟨rfl, mm - 1, by omega, i + 1, c + 1 + 1, (by omega), (by rw [cnt_snoc hil, if_pos hc9, hc]; omega), H, rfl, rfl, rfl, rfl⟩
  ·have hc9b := hc9
   have hc9 := ne_of_beq_false hc9
   refine W.skip ?_
   refine W.exit _ ?_
   refine blkQ_out rfl ?_
   refine seqQ_exit ?_
   refine blkQ_here ?_
   refine W.seq (W.region ?_)
   refine RW.v ?_
   refine RW.valE (v' := .int .i64 (((c + 1) : Nat) : Int)) (by kernel_rfl) (by kernel_rfl) rfl (congrArg (Value.int .i64) ((wrap_in (by omega) (by omega)).trans (by omega))) (by kernel_rfl) ?_
   refine RW.v ?_
   refine RW.nil ?_
   refine W.rg [(3, .int .i64 (((c + 1) : Nat) : Int)), (7, xv), (8, .int .i64 (l.length : Int)), (9, .int .i64 ((i : Nat) : Int))] fun TA => ?_
   refine W.exit _ ?_
   refine blkQ_here ?_
   refine blkQ_normal ?_
   refine W.region ?_
   refine RW.valE (v' := .int .i64 (((i + 1) : Nat) : Int)) (by kernel_rfl) (by kernel_rfl) rfl (congrArg (Value.int .i64) ((wrap_in (by omega) (by omega)).trans (by omega))) (by kernel_rfl) ?_
   refine RW.v ?_
   refine RW.nil ?_
   exact ⟨rfl, mm - 1, by omega, i + 1, c + 1, (by omega), (by rw [cnt_snoc hil, if_neg hc9, hc]; omega), H, rfl, rfl, rfl, rfl⟩
 ·have hc2b := hc2
  have hc2 := of_decide_eq_false hc2
  refine W.exit _ ?_
  refine seqQ_exit ?_
  refine rndQ_exit ?_
  obtain rfl : i = l.length := by omega
  rw [List.take_length] at hc
  refine blkQ_here ?_
  refine W.seq (W.region ?_)
  iterate 2 refine RW.v ?_
  refine RW.nil ?_
  refine W.ret ?_
  refine endG (by rfl) (by exact resL_tmp rfl) ?_
  have e : manyM l = c := by unfold manyM; rw [hc]
  rw [e]
  exact ⟨rfl, H⟩
set_option maxHeartbeats 8000000 in
theorem rmany_wc {G : Nat} {A : Abs} {σ : Mem} {F : Nat → Option Blk2} {L : List Ent} {xv : Value} {xw xe xh : Bool} {l : List Need} (hx : SlF F 2 xv l.length (needC l)) (hll : l.length ≤ 300) (H : Lies G A F σ L) : WC G Tryd.prog 13 #[.agg #[.bool xw, .bool xe, .bool xh, xv]] σ fun v σ' => v = .int .i64 ((manyM l : Nat) : Int) ∧ Lies G A F σ' L := by
 refine WC.enter (fn := Tryd.f13) Tryd.func13 rfl ?_
 refine W.rg [(0, .agg #[.bool xw, .bool xe, .bool xh, xv])] fun TA => ?_
 refine W.seq (W.region ?_)
 refine RW.mkL H (x := .row ⟨[.bool xw, .bool xe, .bool xh, xv], 24, false⟩) (fm := fun b => .pointer (some ⟨b, 0, none⟩)) (by kernel_rfl) (by kernel_rfl) (by rcases slf_forms hx with rfl | ⟨_, rfl⟩ | ⟨_, _, _, _, _, rfl⟩ <;> kernel_rfl) (by kernel_rfl) ?_
 clear H; intro _ b1 _ H
 refine RW.v ?_
 refine RW.nil ?_
 refine W.rg [(1, .pointer (some ⟨b1, 0, none⟩))] fun TA => ?_
 refine W.seq (W.region ?_)
 refine RW.v ?_
 refine RW.ld H 0 1 ?_
 refine RW.len (by kernel_rfl) (by kernel_rfl) rfl rfl rfl rfl (hx.len (e := 29) (by kernel_rfl)) (by kernel_rfl) ?_
 refine RW.v ?_
 refine RW.nil ?_
 refine W.rg [(1, .pointer (some ⟨b1, 0, none⟩)), (3, .int .i64 (l.length : Int))] fun TA => ?_
 refine W.seq ?_
 refine W.seq (W.region ?_)
 refine RW.v ?_
 refine RW.nil ?_
 refine W.rg [(1, .pointer (some ⟨b1, 0, none⟩)), (3, .int .i64 (l.length : Int)), (4, .int .i64 0)] fun TA => ?_
 refine W.block ?_
 refine W.loop (fun mm ta σ => ∃ (i : Nat) (c : Nat), (mm + i = l.length) ∧ (c = l.length + cntR (l.take i)) ∧ Lies G A F σ (.at_ b1 (.row ⟨[.bool xw, .bool xe, .bool xh, xv], 24, false⟩) :: (L)) ∧ ta 1 = .pointer (some ⟨b1, 0, none⟩) ∧ ta 3 = .int .i64 ((c : Nat) : Int) ∧ ta 4 = .int .i64 ((i : Nat) : Int)) l.length ?_ ?_
 ·exact ⟨0, l.length, (by omega), rfl, H, rfl, rfl, rfl⟩
 clear H
 rintro mm ta _ ⟨i, c, hm, hc, H, e1, e3, e4⟩
 refine W.rst [(1, .pointer (some ⟨b1, 0, none⟩)), (3, .int .i64 ((c : Nat) : Int)), (4, .int .i64 ((i : Nat) : Int))] ⟨e1, e3, e4, trivial⟩ fun TA => ?_
 clear e1 e3 e4
 refine W.seq ?_
 refine W.seq (W.region ?_)
 iterate 2 refine RW.v ?_
 refine RW.ld H 0 1 ?_
 refine RW.len (by kernel_rfl) (by kernel_rfl) rfl rfl rfl rfl (hx.len (e := 29) (by kernel_rfl)) (by kernel_rfl) ?_
 refine RW.v ?_
 refine RW.nil ?_
 refine W.rg [(1, .pointer (some ⟨b1, 0, none⟩)), (3, .int .i64 ((c : Nat) : Int)), (4, .int .i64 ((i : Nat) : Int)), (12, .bool (decide (((i : Nat) : Int) < (l.length : Int))))] fun TA => ?_
 refine W.cond rfl (fun hc2 => ?_) (fun hc2 => ?_)
 ·have hc2b := hc2
  have hc2 := of_decide_eq_true hc2
  have hil : i < l.length := by omega
  have hcl := cnt_le (l.take i)
  rw [List.length_take] at hcl
  refine W.skip ?_
  refine W.seq ?_
  refine W.block ?_
  refine W.seq (W.region ?_)
  refine RW.v ?_
  refine RW.ld H 0 1 ?_
  refine RW.v ?_
  refine RW.idxF hx (by kernel_rfl) (by kernel_rfl) rfl Tryd.underlying22 (by kernel_rfl) rfl rfl ⟨by omega, by omega⟩ (by kernel_rfl) ?_
  intro b3 q4 r5 hF6 hE7
  rw [need_at (l := l) (j := i) (i := ((i : Nat) : Int)) (by omega) (by omega)] at hE7
  refine RW.v ?_
  refine RW.loads 1 (by kernel_rfl) (by kernel_rfl) rfl rfl (H.old _ _ hF6) (sub_take hE7 0 1 (by decide)) rfl (by kernel_rfl) ?_
  refine RW.v ?_
  refine RW.nil ?_
  refine W.rg [(1, .pointer (some ⟨b1, 0, none⟩)), (3, .int .i64 ((c : Nat) : Int)), (4, .int .i64 ((i : Nat) : Int)), (21, .bool (((gD l i).1) == 114))] fun TA => ?_
  refine W.cond rfl (fun hc8 => ?_) (fun hc8 => ?_)
  ·have hc8b := hc8
   have hc8 := eq_of_beq hc8
   refine W.region ?_
   refine RW.v ?_
   refine RW.valE (v' := .int .i64 (((c + 1) : Nat) : Int)) (by kernel_rfl) (by kernel_rfl) rfl (congrArg (Value.int .i64) ((wrap_in (by omega) (by omega)).trans (by omega))) (by kernel_rfl) ?_
   refine RW.v ?_
   refine RW.nil ?_
   refine blkQ_normal ?_
   refine W.rg [(1, .pointer (some ⟨b1, 0, none⟩)), (3, .int .i64 (((c + 1) : Nat) : Int)), (4, .int .i64 ((i : Nat) : Int))] fun TA => ?_
   refine W.region ?_
   refine RW.v ?_
   refine RW.valE (v' := .int .i64 (((i + 1) : Nat) : Int)) (by kernel_rfl) (by kernel_rfl) rfl (congrArg (Value.int .i64) ((wrap_in (by omega) (by omega)).trans (by omega))) (by kernel_rfl) ?_
   refine RW.v ?_
   refine RW.nil ?_
   exact ⟨rfl, mm - 1, by omega, i + 1, c + 1, (by omega), (by rw [cnt_snoc hil, if_pos hc8, hc]; omega), H, rfl, rfl, rfl⟩
  ·have hc8b := hc8
   have hc8 := ne_of_beq_false hc8
   refine W.skip ?_
   refine blkQ_normal ?_
   refine W.region ?_
   refine RW.v ?_
   refine RW.valE (v' := .int .i64 (((i + 1) : Nat) : Int)) (by kernel_rfl) (by kernel_rfl) rfl (congrArg (Value.int .i64) ((wrap_in (by omega) (by omega)).trans (by omega))) (by kernel_rfl) ?_
   refine RW.v ?_
   refine RW.nil ?_
   exact ⟨rfl, mm - 1, by omega, i + 1, c, (by omega), (by rw [cnt_snoc hil, if_neg hc8, hc]), H, rfl, rfl, rfl⟩
 ·have hc2b := hc2
  have hc2 := of_decide_eq_false hc2
  refine W.exit _ ?_
  refine seqQ_exit ?_
  refine rndQ_exit ?_
  obtain rfl : i = l.length := by omega
  rw [List.take_length] at hc
  refine blkQ_here ?_
  refine W.seq (W.region ?_)
  iterate 2 refine RW.v ?_
  refine RW.nil ?_
  replace H := (H.del 0)
  dsimp only [setL, delL] at H
  refine W.ret ?_
  refine endG (by rfl) (by exact resL_tmp rfl) ?_
  have e : manyM l = c := by unfold manyM; rw [hc]
  rw [e]
  exact ⟨rfl, H⟩
def asksM (c a : Int) : Bool := if c = 78 then a == 0 else decide (c = 97 ∨ c = 98 ∨ c = 66 ∨ c = 99 ∨ c = 67 ∨ c = 102 ∨ c = 107 ∨ c = 110 ∨ c = 115 ∨ c = 83 ∨ c = 118 ∨ c = 120)
set_option maxHeartbeats 8000000 in
theorem asks_wc {G : Nat} {A : Abs} {σ : Mem} {F : Nat → Option Blk2} {L : List Ent} {c a b : Int} {cl : Bool} (H : Lies G A F σ L) : WC G Tryd.prog 14 #[.int .i64 c, .agg #[.int .i64 a, .int .i64 b, .bool cl]] σ fun v σ' => v = .bool (asksM c a) ∧ Lies G A F σ' L := by
 refine WC.enter (fn := Tryd.f14) Tryd.func14 rfl ?_
 refine W.rg [(0, .int .i64 c), (1, .agg #[.int .i64 a, .int .i64 b, .bool cl])] fun TA => ?_
 refine W.seq (W.region ?_)
 refine RW.mk H (.row ⟨[.int .i64 a, .int .i64 b, .bool cl], 26, false⟩) ?_
 clear H; intro _ b1 _ H
 refine RW.v ?_
 refine RW.nil ?_
 refine W.rg [(0, .int .i64 c), (3, .pointer (some ⟨b1, 0, none⟩))] fun TA => ?_
 refine W.seq ?_
 refine W.seq (W.region ?_)
 refine RW.v ?_
 refine RW.nil ?_
 refine W.rg [(3, .pointer (some ⟨b1, 0, none⟩)), (5, .int .i64 c)] fun TA => ?_
 refine W.block ?_
 refine W.seq ?_
 refine W.block ?_
 refine W.seq ?_
 refine W.block ?_
 refine W.seq ?_
 refine W.seq ?_
 refine W.seq (W.region ?_)
 iterate 2 refine RW.v ?_
 refine RW.nil ?_
 refine W.rg [(3, .pointer (some ⟨b1, 0, none⟩)), (5, .int .i64 c), (6, .bool (c == 78))] fun TA => ?_
 refine W.cond rfl (fun hc2 => ?_) (fun hc2 => ?_)
 ·have hc2b := hc2
  have hc2 := eq_of_beq hc2
  refine W.exit _ ?_
  refine seqQ_exit ?_
  refine seqQ_exit ?_
  refine blkQ_here ?_
  refine W.seq (W.region ?_)
  refine RW.v ?_
  refine RW.ld H 0 1 ?_
  refine RW.v ?_
  refine RW.nil ?_
  replace H := (H.del 0)
  dsimp only [setL, delL] at H
  refine W.rg [(23, .bool (a != 0))] fun TA => ?_
  refine W.cond rfl (fun hc3 => ?_) (fun hc3 => ?_)
  ·have hc3b := hc3
   have hc3 := bne_iff_ne.1 hc3
   refine W.seq (W.region ?_)
   refine RW.v ?_
   refine RW.nil ?_
   refine W.ret ?_
   refine blkQ_ret ?_
   refine seqQ_ret ?_
   refine blkQ_ret ?_
   refine seqQ_ret ?_
   refine endG (by rfl) (by exact resL_tmp rfl) ?_
   refine ⟨congrArg Value.bool ?_, H⟩
   unfold asksM
   subst hc2
   rw [if_pos rfl]
   exact (beq_eq_false_iff_ne.2 hc3).symm
  ·have hc3b := hc3
   have hc3 := (bne_eq_false_iff_eq.1) hc3
   refine W.skip ?_
   refine blkQ_normal ?_
   refine W.seq ?_
   refine W.seq (W.region ?_)
   refine RW.v ?_
   refine RW.nil ?_
   refine W.ret ?_
   refine seqQ_ret ?_
   refine blkQ_ret ?_
   refine seqQ_ret ?_
   refine endG (by rfl) (by exact resL_tmp rfl) ?_
   refine ⟨congrArg Value.bool ?_, H⟩
   unfold asksM
   subst hc2
   rw [if_pos rfl]
   rw [hc3]; rfl
 ·have hc2b := hc2
  have hc2 := ne_of_beq_false hc2
  refine W.skip ?_
  refine W.seq ?_
  refine W.seq (W.region ?_)
  iterate 2 refine RW.v ?_
  refine RW.nil ?_
  replace H := (H.del 0)
  dsimp only [setL, delL] at H
  refine W.rg [(5, .int .i64 c), (8, .bool (c == 97))] fun TA => ?_
  refine W.cond rfl (fun hc4 => ?_) (fun hc4 => ?_)
  ·have hc4b := hc4
   have hc4 := eq_of_beq hc4
   refine W.skip ?_
   refine W.cond (b := true) (congrArg Value.bool hc4b) (fun _ => ?_) (fun h => by cases h)
   refine W.exit _ ?_
   refine seqQ_exit ?_
   refine blkQ_out rfl ?_
   refine seqQ_exit ?_
   refine blkQ_here ?_
   refine W.seq ?_
   refine W.seq (W.region ?_)
   refine RW.v ?_
   refine RW.nil ?_
   refine W.ret ?_
   refine seqQ_ret ?_
   refine blkQ_ret ?_
   refine seqQ_ret ?_
   refine endG (by rfl) (by exact resL_tmp rfl) ?_
   refine ⟨congrArg Value.bool ?_, H⟩
   unfold asksM
   subst hc4
   rfl
  ·have hc4b := hc4
   have hc4 := ne_of_beq_false hc4
   refine W.seq (W.region ?_)
   iterate 2 refine RW.v ?_
   refine RW.nil ?_
   refine W.rg [(5, .int .i64 c), (8, .bool (c == 98))] fun TA => ?_
   refine W.cond rfl (fun hc5 => ?_) (fun hc5 => ?_)
   ·have hc5b := hc5
    have hc5 := eq_of_beq hc5
    refine W.skip ?_
    refine W.cond (b := true) (congrArg Value.bool hc5b) (fun _ => ?_) (fun h => by cases h)
    refine W.exit _ ?_
    refine seqQ_exit ?_
    refine blkQ_out rfl ?_
    refine seqQ_exit ?_
    refine blkQ_here ?_
    refine W.seq ?_
    refine W.seq (W.region ?_)
    refine RW.v ?_
    refine RW.nil ?_
    refine W.ret ?_
    refine seqQ_ret ?_
    refine blkQ_ret ?_
    refine seqQ_ret ?_
    refine endG (by rfl) (by exact resL_tmp rfl) ?_
    refine ⟨congrArg Value.bool ?_, H⟩
    unfold asksM
    subst hc5
    rfl
   ·have hc5b := hc5
    have hc5 := ne_of_beq_false hc5
    refine W.seq (W.region ?_)
    iterate 2 refine RW.v ?_
    refine RW.nil ?_
    refine W.rg [(5, .int .i64 c), (8, .bool (c == 66))] fun TA => ?_
    refine W.cond rfl (fun hc6 => ?_) (fun hc6 => ?_)
    ·have hc6b := hc6
     have hc6 := eq_of_beq hc6
     refine W.skip ?_
     refine W.cond (b := true) (congrArg Value.bool hc6b) (fun _ => ?_) (fun h => by cases h)
     refine W.exit _ ?_
     refine seqQ_exit ?_
     refine blkQ_out rfl ?_
     refine seqQ_exit ?_
     refine blkQ_here ?_
     refine W.seq ?_
     refine W.seq (W.region ?_)
     refine RW.v ?_
     refine RW.nil ?_
     refine W.ret ?_
     refine seqQ_ret ?_
     refine blkQ_ret ?_
     refine seqQ_ret ?_
     refine endG (by rfl) (by exact resL_tmp rfl) ?_
     refine ⟨congrArg Value.bool ?_, H⟩
     unfold asksM
     subst hc6
     rfl
    ·have hc6b := hc6
     have hc6 := ne_of_beq_false hc6
     refine W.seq (W.region ?_)
     iterate 2 refine RW.v ?_
     refine RW.nil ?_
     refine W.rg [(5, .int .i64 c), (8, .bool (c == 99))] fun TA => ?_
     refine W.cond rfl (fun hc7 => ?_) (fun hc7 => ?_)
     ·have hc7b := hc7
      have hc7 := eq_of_beq hc7
      refine W.skip ?_
      refine W.cond (b := true) (congrArg Value.bool hc7b) (fun _ => ?_) (fun h => by cases h)
      refine W.exit _ ?_
      refine seqQ_exit ?_
      refine blkQ_out rfl ?_
      refine seqQ_exit ?_
      refine blkQ_here ?_
      refine W.seq ?_
      refine W.seq (W.region ?_)
      refine RW.v ?_
      refine RW.nil ?_
      refine W.ret ?_
      refine seqQ_ret ?_
      refine blkQ_ret ?_
      refine seqQ_ret ?_
      refine endG (by rfl) (by exact resL_tmp rfl) ?_
      refine ⟨congrArg Value.bool ?_, H⟩
      unfold asksM
      subst hc7
      rfl
     ·have hc7b := hc7
      have hc7 := ne_of_beq_false hc7
      refine W.seq (W.region ?_)
      iterate 2 refine RW.v ?_
      refine RW.nil ?_
      refine W.rg [(5, .int .i64 c), (8, .bool (c == 67))] fun TA => ?_
      refine W.cond rfl (fun hc8 => ?_) (fun hc8 => ?_)
      ·have hc8b := hc8
       have hc8 := eq_of_beq hc8
       refine W.skip ?_
       refine W.cond (b := true) (congrArg Value.bool hc8b) (fun _ => ?_) (fun h => by cases h)
       refine W.exit _ ?_
       refine seqQ_exit ?_
       refine blkQ_out rfl ?_
       refine seqQ_exit ?_
       refine blkQ_here ?_
       refine W.seq ?_
       refine W.seq (W.region ?_)
       refine RW.v ?_
       refine RW.nil ?_
       refine W.ret ?_
       refine seqQ_ret ?_
       refine blkQ_ret ?_
       refine seqQ_ret ?_
       refine endG (by rfl) (by exact resL_tmp rfl) ?_
       refine ⟨congrArg Value.bool ?_, H⟩
       unfold asksM
       subst hc8
       rfl
      ·have hc8b := hc8
       have hc8 := ne_of_beq_false hc8
       refine W.seq (W.region ?_)
       iterate 2 refine RW.v ?_
       refine RW.nil ?_
       refine W.rg [(5, .int .i64 c), (8, .bool (c == 102))] fun TA => ?_
       refine W.cond rfl (fun hc9 => ?_) (fun hc9 => ?_)
       ·have hc9b := hc9
        have hc9 := eq_of_beq hc9
        refine W.skip ?_
        refine W.cond (b := true) (congrArg Value.bool hc9b) (fun _ => ?_) (fun h => by cases h)
        refine W.exit _ ?_
        refine seqQ_exit ?_
        refine blkQ_out rfl ?_
        refine seqQ_exit ?_
        refine blkQ_here ?_
        refine W.seq ?_
        refine W.seq (W.region ?_)
        refine RW.v ?_
        refine RW.nil ?_
        refine W.ret ?_
        refine seqQ_ret ?_
        refine blkQ_ret ?_
        refine seqQ_ret ?_
        refine endG (by rfl) (by exact resL_tmp rfl) ?_
        refine ⟨congrArg Value.bool ?_, H⟩
        unfold asksM
        subst hc9
        rfl
       ·have hc9b := hc9
        have hc9 := ne_of_beq_false hc9
        refine W.seq (W.region ?_)
        iterate 2 refine RW.v ?_
        refine RW.nil ?_
        refine W.rg [(5, .int .i64 c), (8, .bool (c == 107))] fun TA => ?_
        refine W.cond rfl (fun hc10 => ?_) (fun hc10 => ?_)
        ·have hc10b := hc10
         have hc10 := eq_of_beq hc10
         refine W.skip ?_
         refine W.cond (b := true) (congrArg Value.bool hc10b) (fun _ => ?_) (fun h => by cases h)
         refine W.exit _ ?_
         refine seqQ_exit ?_
         refine blkQ_out rfl ?_
         refine seqQ_exit ?_
         refine blkQ_here ?_
         refine W.seq ?_
         refine W.seq (W.region ?_)
         refine RW.v ?_
         refine RW.nil ?_
         refine W.ret ?_
         refine seqQ_ret ?_
         refine blkQ_ret ?_
         refine seqQ_ret ?_
         refine endG (by rfl) (by exact resL_tmp rfl) ?_
         refine ⟨congrArg Value.bool ?_, H⟩
         unfold asksM
         subst hc10
         rfl
        ·have hc10b := hc10
         have hc10 := ne_of_beq_false hc10
         refine W.seq (W.region ?_)
         iterate 2 refine RW.v ?_
         refine RW.nil ?_
         refine W.rg [(5, .int .i64 c), (8, .bool (c == 110))] fun TA => ?_
         refine W.cond rfl (fun hc11 => ?_) (fun hc11 => ?_)
         ·have hc11b := hc11
          have hc11 := eq_of_beq hc11
          refine W.skip ?_
          refine W.cond (b := true) (congrArg Value.bool hc11b) (fun _ => ?_) (fun h => by cases h)
          refine W.exit _ ?_
          refine seqQ_exit ?_
          refine blkQ_out rfl ?_
          refine seqQ_exit ?_
          refine blkQ_here ?_
          refine W.seq ?_
          refine W.seq (W.region ?_)
          refine RW.v ?_
          refine RW.nil ?_
          refine W.ret ?_
          refine seqQ_ret ?_
          refine blkQ_ret ?_
          refine seqQ_ret ?_
          refine endG (by rfl) (by exact resL_tmp rfl) ?_
          refine ⟨congrArg Value.bool ?_, H⟩
          unfold asksM
          subst hc11
          rfl
         ·have hc11b := hc11
          have hc11 := ne_of_beq_false hc11
          refine W.seq (W.region ?_)
          iterate 2 refine RW.v ?_
          refine RW.nil ?_
          refine W.rg [(5, .int .i64 c), (8, .bool (c == 115))] fun TA => ?_
          refine W.cond rfl (fun hc12 => ?_) (fun hc12 => ?_)
          ·have hc12b := hc12
           have hc12 := eq_of_beq hc12
           refine W.skip ?_
           refine W.cond (b := true) (congrArg Value.bool hc12b) (fun _ => ?_) (fun h => by cases h)
           refine W.exit _ ?_
           refine seqQ_exit ?_
           refine blkQ_out rfl ?_
           refine seqQ_exit ?_
           refine blkQ_here ?_
           refine W.seq ?_
           refine W.seq (W.region ?_)
           refine RW.v ?_
           refine RW.nil ?_
           refine W.ret ?_
           refine seqQ_ret ?_
           refine blkQ_ret ?_
           refine seqQ_ret ?_
           refine endG (by rfl) (by exact resL_tmp rfl) ?_
           refine ⟨congrArg Value.bool ?_, H⟩
           unfold asksM
           subst hc12
           rfl
          ·have hc12b := hc12
           have hc12 := ne_of_beq_false hc12
           refine W.seq (W.region ?_)
           iterate 2 refine RW.v ?_
           refine RW.nil ?_
           refine W.rg [(5, .int .i64 c), (8, .bool (c == 83))] fun TA => ?_
           refine W.cond rfl (fun hc13 => ?_) (fun hc13 => ?_)
           ·have hc13b := hc13
            have hc13 := eq_of_beq hc13
            refine W.skip ?_
            refine W.cond (b := true) (congrArg Value.bool hc13b) (fun _ => ?_) (fun h => by cases h)
            refine W.exit _ ?_
            refine seqQ_exit ?_
            refine blkQ_out rfl ?_
            refine seqQ_exit ?_
            refine blkQ_here ?_
            refine W.seq ?_
            refine W.seq (W.region ?_)
            refine RW.v ?_
            refine RW.nil ?_
            refine W.ret ?_
            refine seqQ_ret ?_
            refine blkQ_ret ?_
            refine seqQ_ret ?_
            refine endG (by rfl) (by exact resL_tmp rfl) ?_
            refine ⟨congrArg Value.bool ?_, H⟩
            unfold asksM
            subst hc13
            rfl
           ·have hc13b := hc13
            have hc13 := ne_of_beq_false hc13
            refine W.seq (W.region ?_)
            iterate 2 refine RW.v ?_
            refine RW.nil ?_
            refine W.rg [(5, .int .i64 c), (8, .bool (c == 118))] fun TA => ?_
            refine W.cond rfl (fun hc14 => ?_) (fun hc14 => ?_)
            ·have hc14b := hc14
             have hc14 := eq_of_beq hc14
             refine W.skip ?_
             refine W.cond (b := true) (congrArg Value.bool hc14b) (fun _ => ?_) (fun h => by cases h)
             refine W.exit _ ?_
             refine seqQ_exit ?_
             refine blkQ_out rfl ?_
             refine seqQ_exit ?_
             refine blkQ_here ?_
             refine W.seq ?_
             refine W.seq (W.region ?_)
             refine RW.v ?_
             refine RW.nil ?_
             refine W.ret ?_
             refine seqQ_ret ?_
             refine blkQ_ret ?_
             refine seqQ_ret ?_
             refine endG (by rfl) (by exact resL_tmp rfl) ?_
             refine ⟨congrArg Value.bool ?_, H⟩
             unfold asksM
             subst hc14
             rfl
            ·have hc14b := hc14
             have hc14 := ne_of_beq_false hc14
             refine W.region ?_
             iterate 2 refine RW.v ?_
             refine RW.nil ?_
             refine W.rg [(8, .bool (c == 120))] fun TA => ?_
             refine W.cond rfl (fun hc15 => ?_) (fun hc15 => ?_)
             ·have hc15b := hc15
              have hc15 := eq_of_beq hc15
              refine W.exit _ ?_
              refine seqQ_exit ?_
              refine blkQ_out rfl ?_
              refine seqQ_exit ?_
              refine blkQ_here ?_
              refine W.seq ?_
              refine W.seq (W.region ?_)
              refine RW.v ?_
              refine RW.nil ?_
              refine W.ret ?_
              refine seqQ_ret ?_
              refine blkQ_ret ?_
              refine seqQ_ret ?_
              refine endG (by rfl) (by exact resL_tmp rfl) ?_
              refine ⟨congrArg Value.bool ?_, H⟩
              unfold asksM
              subst hc15
              rfl
             ·have hc15b := hc15
              have hc15 := ne_of_beq_false hc15
              refine W.skip ?_
              refine W.exit _ ?_
              refine blkQ_out rfl ?_
              refine seqQ_exit ?_
              refine blkQ_out rfl ?_
              refine seqQ_exit ?_
              refine blkQ_here ?_
              refine W.seq (W.region ?_)
              refine RW.v ?_
              refine RW.nil ?_
              refine W.ret ?_
              refine endG (by rfl) (by exact resL_tmp rfl) ?_
              refine ⟨congrArg Value.bool ?_, H⟩
              unfold asksM
              simp [hc2, hc4, hc5, hc6, hc7, hc8, hc9, hc10, hc11, hc12, hc13, hc14, hc15]
set_option maxHeartbeats 8000000 in
theorem rasks_wc {G : Nat} {A : Abs} {σ : Mem} {F : Nat → Option Blk2} {L : List Ent} {c a b : Int} {cl : Bool} (H : Lies G A F σ L) : WC G Tryd.prog 15 #[.int .i64 c, .agg #[.int .i64 a, .int .i64 b, .bool cl]] σ fun v σ' => v = .bool (asksM c a) ∧ Lies G A F σ' L := by
 refine WC.enter (fn := Tryd.f15) Tryd.func15 rfl ?_
 refine W.rg [(0, .int .i64 c), (1, .agg #[.int .i64 a, .int .i64 b, .bool cl])] fun TA => ?_
 refine W.seq (W.region ?_)
 refine RW.mk H (.row ⟨[.int .i64 a, .int .i64 b, .bool cl], 26, false⟩) ?_
 clear H; intro _ b1 _ H
 refine RW.v ?_
 refine RW.nil ?_
 refine W.rg [(0, .int .i64 c), (3, .pointer (some ⟨b1, 0, none⟩))] fun TA => ?_
 refine W.seq ?_
 refine W.seq (W.region ?_)
 refine RW.v ?_
 refine RW.nil ?_
 refine W.rg [(3, .pointer (some ⟨b1, 0, none⟩)), (5, .int .i64 c)] fun TA => ?_
 refine W.block ?_
 refine W.seq ?_
 refine W.seq (W.region ?_)
 iterate 2 refine RW.v ?_
 refine RW.nil ?_
 refine W.rg [(3, .pointer (some ⟨b1, 0, none⟩)), (5, .int .i64 c), (6, .bool (c == 97))] fun TA => ?_
 refine W.cond rfl (fun hc2 => ?_) (fun hc2 => ?_)
 ·have hc2b := hc2
  have hc2 := eq_of_beq hc2
  refine W.skip ?_
  refine W.cond (b := true) (congrArg Value.bool hc2b) (fun _ => ?_) (fun h => by cases h)
  refine W.seq (W.region ?_)
  refine RW.v ?_
  refine RW.nil ?_
  replace H := (H.del 0)
  dsimp only [setL, delL] at H
  refine W.ret ?_
  refine blkQ_ret ?_
  refine seqQ_ret ?_
  refine endG (by rfl) (by exact resL_tmp rfl) ?_
  refine ⟨congrArg Value.bool ?_, H⟩
  unfold asksM
  subst hc2
  rfl
 ·have hc2b := hc2
  have hc2 := ne_of_beq_false hc2
  refine W.seq (W.region ?_)
  iterate 2 refine RW.v ?_
  refine RW.nil ?_
  refine W.rg [(3, .pointer (some ⟨b1, 0, none⟩)), (5, .int .i64 c), (6, .bool (c == 98))] fun TA => ?_
  refine W.cond rfl (fun hc3 => ?_) (fun hc3 => ?_)
  ·have hc3b := hc3
   have hc3 := eq_of_beq hc3
   refine W.skip ?_
   refine W.cond (b := true) (congrArg Value.bool hc3b) (fun _ => ?_) (fun h => by cases h)
   refine W.seq (W.region ?_)
   refine RW.v ?_
   refine RW.nil ?_
   replace H := (H.del 0)
   dsimp only [setL, delL] at H
   refine W.ret ?_
   refine blkQ_ret ?_
   refine seqQ_ret ?_
   refine endG (by rfl) (by exact resL_tmp rfl) ?_
   refine ⟨congrArg Value.bool ?_, H⟩
   unfold asksM
   subst hc3
   rfl
  ·have hc3b := hc3
   have hc3 := ne_of_beq_false hc3
   refine W.seq (W.region ?_)
   iterate 2 refine RW.v ?_
   refine RW.nil ?_
   refine W.rg [(3, .pointer (some ⟨b1, 0, none⟩)), (5, .int .i64 c), (6, .bool (c == 66))] fun TA => ?_
   refine W.cond rfl (fun hc4 => ?_) (fun hc4 => ?_)
   ·have hc4b := hc4
    have hc4 := eq_of_beq hc4
    refine W.skip ?_
    refine W.cond (b := true) (congrArg Value.bool hc4b) (fun _ => ?_) (fun h => by cases h)
    refine W.seq (W.region ?_)
    refine RW.v ?_
    refine RW.nil ?_
    replace H := (H.del 0)
    dsimp only [setL, delL] at H
    refine W.ret ?_
    refine blkQ_ret ?_
    refine seqQ_ret ?_
    refine endG (by rfl) (by exact resL_tmp rfl) ?_
    refine ⟨congrArg Value.bool ?_, H⟩
    unfold asksM
    subst hc4
    rfl
   ·have hc4b := hc4
    have hc4 := ne_of_beq_false hc4
    refine W.seq (W.region ?_)
    iterate 2 refine RW.v ?_
    refine RW.nil ?_
    refine W.rg [(3, .pointer (some ⟨b1, 0, none⟩)), (5, .int .i64 c), (6, .bool (c == 99))] fun TA => ?_
    refine W.cond rfl (fun hc5 => ?_) (fun hc5 => ?_)
    ·have hc5b := hc5
     have hc5 := eq_of_beq hc5
     refine W.skip ?_
     refine W.cond (b := true) (congrArg Value.bool hc5b) (fun _ => ?_) (fun h => by cases h)
     refine W.seq (W.region ?_)
     refine RW.v ?_
     refine RW.nil ?_
     replace H := (H.del 0)
     dsimp only [setL, delL] at H
     refine W.ret ?_
     refine blkQ_ret ?_
     refine seqQ_ret ?_
     refine endG (by rfl) (by exact resL_tmp rfl) ?_
     refine ⟨congrArg Value.bool ?_, H⟩
     unfold asksM
     subst hc5
     rfl
    ·have hc5b := hc5
     have hc5 := ne_of_beq_false hc5
     refine W.seq (W.region ?_)
     iterate 2 refine RW.v ?_
     refine RW.nil ?_
     refine W.rg [(3, .pointer (some ⟨b1, 0, none⟩)), (5, .int .i64 c), (6, .bool (c == 67))] fun TA => ?_
     refine W.cond rfl (fun hc6 => ?_) (fun hc6 => ?_)
     ·have hc6b := hc6
      have hc6 := eq_of_beq hc6
      refine W.skip ?_
      refine W.cond (b := true) (congrArg Value.bool hc6b) (fun _ => ?_) (fun h => by cases h)
      refine W.seq (W.region ?_)
      refine RW.v ?_
      refine RW.nil ?_
      replace H := (H.del 0)
      dsimp only [setL, delL] at H
      refine W.ret ?_
      refine blkQ_ret ?_
      refine seqQ_ret ?_
      refine endG (by rfl) (by exact resL_tmp rfl) ?_
      refine ⟨congrArg Value.bool ?_, H⟩
      unfold asksM
      subst hc6
      rfl
     ·have hc6b := hc6
      have hc6 := ne_of_beq_false hc6
      refine W.seq (W.region ?_)
      iterate 2 refine RW.v ?_
      refine RW.nil ?_
      refine W.rg [(3, .pointer (some ⟨b1, 0, none⟩)), (5, .int .i64 c), (6, .bool (c == 102))] fun TA => ?_
      refine W.cond rfl (fun hc7 => ?_) (fun hc7 => ?_)
      ·have hc7b := hc7
       have hc7 := eq_of_beq hc7
       refine W.skip ?_
       refine W.cond (b := true) (congrArg Value.bool hc7b) (fun _ => ?_) (fun h => by cases h)
       refine W.seq (W.region ?_)
       refine RW.v ?_
       refine RW.nil ?_
       replace H := (H.del 0)
       dsimp only [setL, delL] at H
       refine W.ret ?_
       refine blkQ_ret ?_
       refine seqQ_ret ?_
       refine endG (by rfl) (by exact resL_tmp rfl) ?_
       refine ⟨congrArg Value.bool ?_, H⟩
       unfold asksM
       subst hc7
       rfl
      ·have hc7b := hc7
       have hc7 := ne_of_beq_false hc7
       refine W.seq (W.region ?_)
       iterate 2 refine RW.v ?_
       refine RW.nil ?_
       refine W.rg [(3, .pointer (some ⟨b1, 0, none⟩)), (5, .int .i64 c), (6, .bool (c == 107))] fun TA => ?_
       refine W.cond rfl (fun hc8 => ?_) (fun hc8 => ?_)
       ·have hc8b := hc8
        have hc8 := eq_of_beq hc8
        refine W.skip ?_
        refine W.cond (b := true) (congrArg Value.bool hc8b) (fun _ => ?_) (fun h => by cases h)
        refine W.seq (W.region ?_)
        refine RW.v ?_
        refine RW.nil ?_
        replace H := (H.del 0)
        dsimp only [setL, delL] at H
        refine W.ret ?_
        refine blkQ_ret ?_
        refine seqQ_ret ?_
        refine endG (by rfl) (by exact resL_tmp rfl) ?_
        refine ⟨congrArg Value.bool ?_, H⟩
        unfold asksM
        subst hc8
        rfl
       ·have hc8b := hc8
        have hc8 := ne_of_beq_false hc8
        refine W.seq (W.region ?_)
        iterate 2 refine RW.v ?_
        refine RW.nil ?_
        refine W.rg [(3, .pointer (some ⟨b1, 0, none⟩)), (5, .int .i64 c), (6, .bool (c == 110))] fun TA => ?_
        refine W.cond rfl (fun hc9 => ?_) (fun hc9 => ?_)
        ·have hc9b := hc9
         have hc9 := eq_of_beq hc9
         refine W.skip ?_
         refine W.cond (b := true) (congrArg Value.bool hc9b) (fun _ => ?_) (fun h => by cases h)
         refine W.seq (W.region ?_)
         refine RW.v ?_
         refine RW.nil ?_
         replace H := (H.del 0)
         dsimp only [setL, delL] at H
         refine W.ret ?_
         refine blkQ_ret ?_
         refine seqQ_ret ?_
         refine endG (by rfl) (by exact resL_tmp rfl) ?_
         refine ⟨congrArg Value.bool ?_, H⟩
         unfold asksM
         subst hc9
         rfl
        ·have hc9b := hc9
         have hc9 := ne_of_beq_false hc9
         refine W.seq (W.region ?_)
         iterate 2 refine RW.v ?_
         refine RW.nil ?_
         refine W.rg [(3, .pointer (some ⟨b1, 0, none⟩)), (5, .int .i64 c), (6, .bool (c == 115))] fun TA => ?_
         refine W.cond rfl (fun hc10 => ?_) (fun hc10 => ?_)
         ·have hc10b := hc10
          have hc10 := eq_of_beq hc10
          refine W.skip ?_
          refine W.cond (b := true) (congrArg Value.bool hc10b) (fun _ => ?_) (fun h => by cases h)
          refine W.seq (W.region ?_)
          refine RW.v ?_
          refine RW.nil ?_
          replace H := (H.del 0)
          dsimp only [setL, delL] at H
          refine W.ret ?_
          refine blkQ_ret ?_
          refine seqQ_ret ?_
          refine endG (by rfl) (by exact resL_tmp rfl) ?_
          refine ⟨congrArg Value.bool ?_, H⟩
          unfold asksM
          subst hc10
          rfl
         ·have hc10b := hc10
          have hc10 := ne_of_beq_false hc10
          refine W.seq (W.region ?_)
          iterate 2 refine RW.v ?_
          refine RW.nil ?_
          refine W.rg [(3, .pointer (some ⟨b1, 0, none⟩)), (5, .int .i64 c), (6, .bool (c == 83))] fun TA => ?_
          refine W.cond rfl (fun hc11 => ?_) (fun hc11 => ?_)
          ·have hc11b := hc11
           have hc11 := eq_of_beq hc11
           refine W.skip ?_
           refine W.cond (b := true) (congrArg Value.bool hc11b) (fun _ => ?_) (fun h => by cases h)
           refine W.seq (W.region ?_)
           refine RW.v ?_
           refine RW.nil ?_
           replace H := (H.del 0)
           dsimp only [setL, delL] at H
           refine W.ret ?_
           refine blkQ_ret ?_
           refine seqQ_ret ?_
           refine endG (by rfl) (by exact resL_tmp rfl) ?_
           refine ⟨congrArg Value.bool ?_, H⟩
           unfold asksM
           subst hc11
           rfl
          ·have hc11b := hc11
           have hc11 := ne_of_beq_false hc11
           refine W.seq (W.region ?_)
           iterate 2 refine RW.v ?_
           refine RW.nil ?_
           refine W.rg [(3, .pointer (some ⟨b1, 0, none⟩)), (5, .int .i64 c), (6, .bool (c == 118))] fun TA => ?_
           refine W.cond rfl (fun hc12 => ?_) (fun hc12 => ?_)
           ·have hc12b := hc12
            have hc12 := eq_of_beq hc12
            refine W.skip ?_
            refine W.cond (b := true) (congrArg Value.bool hc12b) (fun _ => ?_) (fun h => by cases h)
            refine W.seq (W.region ?_)
            refine RW.v ?_
            refine RW.nil ?_
            replace H := (H.del 0)
            dsimp only [setL, delL] at H
            refine W.ret ?_
            refine blkQ_ret ?_
            refine seqQ_ret ?_
            refine endG (by rfl) (by exact resL_tmp rfl) ?_
            refine ⟨congrArg Value.bool ?_, H⟩
            unfold asksM
            subst hc12
            rfl
           ·have hc12b := hc12
            have hc12 := ne_of_beq_false hc12
            refine W.region ?_
            iterate 2 refine RW.v ?_
            refine RW.nil ?_
            refine W.rg [(3, .pointer (some ⟨b1, 0, none⟩)), (5, .int .i64 c), (6, .bool (c == 120))] fun TA => ?_
            refine W.cond rfl (fun hc13 => ?_) (fun hc13 => ?_)
            ·have hc13b := hc13
             have hc13 := eq_of_beq hc13
             refine W.seq (W.region ?_)
             refine RW.v ?_
             refine RW.nil ?_
             replace H := (H.del 0)
             dsimp only [setL, delL] at H
             refine W.ret ?_
             refine blkQ_ret ?_
             refine seqQ_ret ?_
             refine endG (by rfl) (by exact resL_tmp rfl) ?_
             refine ⟨congrArg Value.bool ?_, H⟩
             unfold asksM
             subst hc13
             rfl
            ·have hc13b := hc13
             have hc13 := ne_of_beq_false hc13
             refine W.seq (W.region ?_)
             iterate 2 refine RW.v ?_
             refine RW.nil ?_
             refine W.rg [(3, .pointer (some ⟨b1, 0, none⟩)), (19, .bool (c == 78))] fun TA => ?_
             refine W.cond rfl (fun hc14 => ?_) (fun hc14 => ?_)
             ·have hc14b := hc14
              have hc14 := eq_of_beq hc14
              refine W.seq (W.region ?_)
              refine RW.v ?_
              refine RW.ld H 0 1 ?_
              iterate 2 refine RW.v ?_
              refine RW.nil ?_
              replace H := (H.del 0)
              dsimp only [setL, delL] at H
              refine W.ret ?_
              refine blkQ_ret ?_
              refine seqQ_ret ?_
              refine endG (by rfl) (by exact resL_tmp rfl) ?_
              refine ⟨congrArg Value.bool ?_, H⟩
              unfold asksM
              subst hc14
              rw [if_pos rfl]
             ·have hc14b := hc14
              have hc14 := ne_of_beq_false hc14
              refine W.skip ?_
              refine blkQ_normal ?_
              refine W.seq (W.region ?_)
              refine RW.v ?_
              refine RW.nil ?_
              replace H := (H.del 0)
              dsimp only [setL, delL] at H
              refine W.ret ?_
              refine endG (by rfl) (by exact resL_tmp rfl) ?_
              refine ⟨congrArg Value.bool ?_, H⟩
              unfold asksM
              simp [hc2, hc3, hc4, hc5, hc6, hc7, hc8, hc9, hc10, hc11, hc12, hc13, hc14]
set_option maxHeartbeats 8000000 in
theorem codes_wc {G : Nat} {A : Abs} {σ : Mem} {F : Nat → Option Blk2} {L : List Ent} (H : Lies G A F σ L) : WC G Tryd.prog 16 #[] σ fun v σ' => v = .string ⟨#[97, 98, 66, 99, 67, 100, 102, 105, 107, 109, 110, 78, 112, 80, 114, 115, 83, 118, 120]⟩ ∧ Lies G A F σ' L := by
 refine WC.enter (fn := Tryd.f16) Tryd.func16 rfl ?_
 refine W.rg [] fun TA => ?_
 refine W.seq (W.region ?_)
 refine RW.v ?_
 refine RW.nil ?_
 refine W.rg [] fun TA => ?_
 refine W.seq (W.region ?_)
 refine RW.v ?_
 refine RW.nil ?_
 refine W.ret ?_
 refine endG (by rfl) (by exact resL_tmp rfl) ?_
 exact ⟨rfl, H⟩
set_option maxHeartbeats 8000000 in
theorem rcodes_wc {G : Nat} {A : Abs} {σ : Mem} {F : Nat → Option Blk2} {L : List Ent} (H : Lies G A F σ L) : WC G Tryd.prog 17 #[] σ fun v σ' => v = .string ⟨#[97, 98, 66, 99, 67, 100, 102, 105, 107, 109, 110, 78, 112, 80, 114, 115, 83, 118, 120]⟩ ∧ Lies G A F σ' L := by
 refine WC.enter (fn := Tryd.f17) Tryd.func17 rfl ?_
 refine W.rg [] fun TA => ?_
 refine W.seq (W.region ?_)
 refine RW.v ?_
 refine RW.nil ?_
 refine W.rg [] fun TA => ?_
 refine W.seq (W.region ?_)
 refine RW.v ?_
 refine RW.nil ?_
 refine W.ret ?_
 refine endG (by rfl) (by exact resL_tmp rfl) ?_
 exact ⟨rfl, H⟩
set_option maxHeartbeats 8000000 in
theorem rcode_wc {G : Nat} {A : Abs} {σ : Mem} {F : Nat → Option Blk2} {L : List Ent} {c : Int} (H : Lies G A F σ L) : WC G Tryd.prog 44 #[.int .i64 c] σ fun v σ' => v = .bool (decide (c ∈ codeL)) ∧ Lies G A F σ' L := by
 refine WC.enter (fn := Tryd.f44) Tryd.func44 rfl ?_
 refine W.rg [(0, .int .i64 c)] fun TA => ?_
 refine W.seq (W.region ?_)
 refine RW.v ?_
 refine RW.nil ?_
 refine W.rg [(0, .int .i64 c)] fun TA => ?_
 refine W.seq (W.region ?_)
 refine RW.cl ?_
 refine WC.enter (fn := Tryd.f17) Tryd.func17 rfl ?_
 refine W.rg [] fun TA => ?_
 refine W.seq (W.region ?_)
 refine RW.v ?_
 refine RW.nil ?_
 refine W.rg [] fun TA => ?_
 refine W.seq (W.region ?_)
 refine RW.v ?_
 refine RW.nil ?_
 refine W.ret ?_
 refine endG (by rfl) (by exact resL_tmp rfl) ?_
 refine RW.v ?_
 refine RW.nil ?_
 refine W.rg [(0, .int .i64 c), (3, .string ⟨#[97, 98, 66, 99, 67, 100, 102, 105, 107, 109, 110, 78, 112, 80, 114, 115, 83, 118, 120]⟩)] fun TA => ?_
 refine W.seq ?_
 refine W.seq (W.region ?_)
 refine RW.v ?_
 refine RW.nil ?_
 refine W.rg [(0, .int .i64 c), (3, .string ⟨#[97, 98, 66, 99, 67, 100, 102, 105, 107, 109, 110, 78, 112, 80, 114, 115, 83, 118, 120]⟩), (4, .int .i64 0)] fun TA => ?_
 refine W.block ?_
 refine W.unroll (WL.once ?_)
 refine W.seq ?_
 refine W.seq (W.region ?_)
 iterate 2 refine RW.v ?_
 refine RW.vop (v := .int .i64 19) (by kernel_rfl) (by kernel_rfl) (vop_sLenL (a := ([97, 98, 66, 99, 67, 100, 102, 105, 107, 109, 110, 78, 112, 80, 114, 115, 83, 118, 120] : List UInt8)) rfl rfl rfl rfl Tryd.underlying9 rfl) (by kernel_rfl) ?_
 refine RW.v ?_
 refine RW.nil ?_
 refine W.c1 ?_
 refine W.skip ?_
 refine W.seq ?_
 refine W.block ?_
 refine W.seq (W.region ?_)
 iterate 2 refine RW.v ?_
 refine RW.vop (v := .int .u8 97) (by kernel_rfl) (by kernel_rfl) (vop_sAtL (a := codesB) (j := 0) rfl rfl rfl Tryd.underlying9 (by decide)) (by kernel_rfl) ?_
 iterate 3 refine RW.v ?_
 refine RW.nil ?_
 refine W.rg [(0, .int .i64 c), (3, .string ⟨#[97, 98, 66, 99, 67, 100, 102, 105, 107, 109, 110, 78, 112, 80, 114, 115, 83, 118, 120]⟩), (4, .int .i64 0), (17, .bool (97 == c))] fun TA => ?_
 refine W.cond rfl (fun hc1 => ?_) (fun hc1 => ?_)
 ·have hc1b := hc1
  have hc1 := eq_of_beq hc1
  refine W.seq (W.region ?_)
  refine RW.v ?_
  refine RW.nil ?_
  refine W.ret ?_
  refine blkQ_ret ?_
  refine seqQ_ret ?_
  refine onceQ_ret ?_
  refine blkQ_ret ?_
  refine seqQ_ret ?_
  refine endG (by rfl) (by exact resL_tmp rfl) ?_
  rw [decide_eq_true (show c ∈ codeL from by rw [← hc1]; decide)]
  exact ⟨rfl, H⟩
 ·have hc1b := hc1
  have hc1 := ne_of_beq_false hc1
  refine W.skip ?_
  refine blkQ_normal ?_
  refine W.region ?_
  iterate 3 refine RW.v ?_
  refine RW.nil ?_
  refine WL.once ?_
  refine W.rg [(0, .int .i64 c), (3, .string ⟨#[97, 98, 66, 99, 67, 100, 102, 105, 107, 109, 110, 78, 112, 80, 114, 115, 83, 118, 120]⟩), (4, .int .i64 1)] fun TA => ?_
  refine W.seq ?_
  refine W.seq (W.region ?_)
  iterate 2 refine RW.v ?_
  refine RW.vop (v := .int .i64 19) (by kernel_rfl) (by kernel_rfl) (vop_sLenL (a := ([97, 98, 66, 99, 67, 100, 102, 105, 107, 109, 110, 78, 112, 80, 114, 115, 83, 118, 120] : List UInt8)) rfl rfl rfl rfl Tryd.underlying9 rfl) (by kernel_rfl) ?_
  refine RW.v ?_
  refine RW.nil ?_
  refine W.c1 ?_
  refine W.skip ?_
  refine W.seq ?_
  refine W.block ?_
  refine W.seq (W.region ?_)
  iterate 2 refine RW.v ?_
  refine RW.vop (v := .int .u8 98) (by kernel_rfl) (by kernel_rfl) (vop_sAtL (a := codesB) (j := 1) rfl rfl rfl Tryd.underlying9 (by decide)) (by kernel_rfl) ?_
  iterate 3 refine RW.v ?_
  refine RW.nil ?_
  refine W.rg [(0, .int .i64 c), (3, .string ⟨#[97, 98, 66, 99, 67, 100, 102, 105, 107, 109, 110, 78, 112, 80, 114, 115, 83, 118, 120]⟩), (4, .int .i64 1), (17, .bool (98 == c))] fun TA => ?_
  refine W.cond rfl (fun hc2 => ?_) (fun hc2 => ?_)
  ·have hc2b := hc2
   have hc2 := eq_of_beq hc2
   refine W.seq (W.region ?_)
   refine RW.v ?_
   refine RW.nil ?_
   refine W.ret ?_
   refine blkQ_ret ?_
   refine seqQ_ret ?_
   refine onceQ_ret ?_
   refine blkQ_ret ?_
   refine seqQ_ret ?_
   refine endG (by rfl) (by exact resL_tmp rfl) ?_
   rw [decide_eq_true (show c ∈ codeL from by rw [← hc2]; decide)]
   exact ⟨rfl, H⟩
  ·have hc2b := hc2
   have hc2 := ne_of_beq_false hc2
   refine W.skip ?_
   refine blkQ_normal ?_
   refine W.region ?_
   iterate 3 refine RW.v ?_
   refine RW.nil ?_
   refine WL.once ?_
   refine W.rg [(0, .int .i64 c), (3, .string ⟨#[97, 98, 66, 99, 67, 100, 102, 105, 107, 109, 110, 78, 112, 80, 114, 115, 83, 118, 120]⟩), (4, .int .i64 2)] fun TA => ?_
   refine W.seq ?_
   refine W.seq (W.region ?_)
   iterate 2 refine RW.v ?_
   refine RW.vop (v := .int .i64 19) (by kernel_rfl) (by kernel_rfl) (vop_sLenL (a := ([97, 98, 66, 99, 67, 100, 102, 105, 107, 109, 110, 78, 112, 80, 114, 115, 83, 118, 120] : List UInt8)) rfl rfl rfl rfl Tryd.underlying9 rfl) (by kernel_rfl) ?_
   refine RW.v ?_
   refine RW.nil ?_
   refine W.c1 ?_
   refine W.skip ?_
   refine W.seq ?_
   refine W.block ?_
   refine W.seq (W.region ?_)
   iterate 2 refine RW.v ?_
   refine RW.vop (v := .int .u8 66) (by kernel_rfl) (by kernel_rfl) (vop_sAtL (a := codesB) (j := 2) rfl rfl rfl Tryd.underlying9 (by decide)) (by kernel_rfl) ?_
   iterate 3 refine RW.v ?_
   refine RW.nil ?_
   refine W.rg [(0, .int .i64 c), (3, .string ⟨#[97, 98, 66, 99, 67, 100, 102, 105, 107, 109, 110, 78, 112, 80, 114, 115, 83, 118, 120]⟩), (4, .int .i64 2), (17, .bool (66 == c))] fun TA => ?_
   refine W.cond rfl (fun hc3 => ?_) (fun hc3 => ?_)
   ·have hc3b := hc3
    have hc3 := eq_of_beq hc3
    refine W.seq (W.region ?_)
    refine RW.v ?_
    refine RW.nil ?_
    refine W.ret ?_
    refine blkQ_ret ?_
    refine seqQ_ret ?_
    refine onceQ_ret ?_
    refine blkQ_ret ?_
    refine seqQ_ret ?_
    refine endG (by rfl) (by exact resL_tmp rfl) ?_
    rw [decide_eq_true (show c ∈ codeL from by rw [← hc3]; decide)]
    exact ⟨rfl, H⟩
   ·have hc3b := hc3
    have hc3 := ne_of_beq_false hc3
    refine W.skip ?_
    refine blkQ_normal ?_
    refine W.region ?_
    iterate 3 refine RW.v ?_
    refine RW.nil ?_
    refine WL.once ?_
    refine W.rg [(0, .int .i64 c), (3, .string ⟨#[97, 98, 66, 99, 67, 100, 102, 105, 107, 109, 110, 78, 112, 80, 114, 115, 83, 118, 120]⟩), (4, .int .i64 3)] fun TA => ?_
    refine W.seq ?_
    refine W.seq (W.region ?_)
    iterate 2 refine RW.v ?_
    refine RW.vop (v := .int .i64 19) (by kernel_rfl) (by kernel_rfl) (vop_sLenL (a := ([97, 98, 66, 99, 67, 100, 102, 105, 107, 109, 110, 78, 112, 80, 114, 115, 83, 118, 120] : List UInt8)) rfl rfl rfl rfl Tryd.underlying9 rfl) (by kernel_rfl) ?_
    refine RW.v ?_
    refine RW.nil ?_
    refine W.c1 ?_
    refine W.skip ?_
    refine W.seq ?_
    refine W.block ?_
    refine W.seq (W.region ?_)
    iterate 2 refine RW.v ?_
    refine RW.vop (v := .int .u8 99) (by kernel_rfl) (by kernel_rfl) (vop_sAtL (a := codesB) (j := 3) rfl rfl rfl Tryd.underlying9 (by decide)) (by kernel_rfl) ?_
    iterate 3 refine RW.v ?_
    refine RW.nil ?_
    refine W.rg [(0, .int .i64 c), (3, .string ⟨#[97, 98, 66, 99, 67, 100, 102, 105, 107, 109, 110, 78, 112, 80, 114, 115, 83, 118, 120]⟩), (4, .int .i64 3), (17, .bool (99 == c))] fun TA => ?_
    refine W.cond rfl (fun hc4 => ?_) (fun hc4 => ?_)
    ·have hc4b := hc4
     have hc4 := eq_of_beq hc4
     refine W.seq (W.region ?_)
     refine RW.v ?_
     refine RW.nil ?_
     refine W.ret ?_
     refine blkQ_ret ?_
     refine seqQ_ret ?_
     refine onceQ_ret ?_
     refine blkQ_ret ?_
     refine seqQ_ret ?_
     refine endG (by rfl) (by exact resL_tmp rfl) ?_
     rw [decide_eq_true (show c ∈ codeL from by rw [← hc4]; decide)]
     exact ⟨rfl, H⟩
    ·have hc4b := hc4
     have hc4 := ne_of_beq_false hc4
     refine W.skip ?_
     refine blkQ_normal ?_
     refine W.region ?_
     iterate 3 refine RW.v ?_
     refine RW.nil ?_
     refine WL.once ?_
     refine W.rg [(0, .int .i64 c), (3, .string ⟨#[97, 98, 66, 99, 67, 100, 102, 105, 107, 109, 110, 78, 112, 80, 114, 115, 83, 118, 120]⟩), (4, .int .i64 4)] fun TA => ?_
     refine W.seq ?_
     refine W.seq (W.region ?_)
     iterate 2 refine RW.v ?_
     refine RW.vop (v := .int .i64 19) (by kernel_rfl) (by kernel_rfl) (vop_sLenL (a := ([97, 98, 66, 99, 67, 100, 102, 105, 107, 109, 110, 78, 112, 80, 114, 115, 83, 118, 120] : List UInt8)) rfl rfl rfl rfl Tryd.underlying9 rfl) (by kernel_rfl) ?_
     refine RW.v ?_
     refine RW.nil ?_
     refine W.c1 ?_
     refine W.skip ?_
     refine W.seq ?_
     refine W.block ?_
     refine W.seq (W.region ?_)
     iterate 2 refine RW.v ?_
     refine RW.vop (v := .int .u8 67) (by kernel_rfl) (by kernel_rfl) (vop_sAtL (a := codesB) (j := 4) rfl rfl rfl Tryd.underlying9 (by decide)) (by kernel_rfl) ?_
     iterate 3 refine RW.v ?_
     refine RW.nil ?_
     refine W.rg [(0, .int .i64 c), (3, .string ⟨#[97, 98, 66, 99, 67, 100, 102, 105, 107, 109, 110, 78, 112, 80, 114, 115, 83, 118, 120]⟩), (4, .int .i64 4), (17, .bool (67 == c))] fun TA => ?_
     refine W.cond rfl (fun hc5 => ?_) (fun hc5 => ?_)
     ·have hc5b := hc5
      have hc5 := eq_of_beq hc5
      refine W.seq (W.region ?_)
      refine RW.v ?_
      refine RW.nil ?_
      refine W.ret ?_
      refine blkQ_ret ?_
      refine seqQ_ret ?_
      refine onceQ_ret ?_
      refine blkQ_ret ?_
      refine seqQ_ret ?_
      refine endG (by rfl) (by exact resL_tmp rfl) ?_
      rw [decide_eq_true (show c ∈ codeL from by rw [← hc5]; decide)]
      exact ⟨rfl, H⟩
     ·have hc5b := hc5
      have hc5 := ne_of_beq_false hc5
      refine W.skip ?_
      refine blkQ_normal ?_
      refine W.region ?_
      iterate 3 refine RW.v ?_
      refine RW.nil ?_
      refine WL.once ?_
      refine W.rg [(0, .int .i64 c), (3, .string ⟨#[97, 98, 66, 99, 67, 100, 102, 105, 107, 109, 110, 78, 112, 80, 114, 115, 83, 118, 120]⟩), (4, .int .i64 5)] fun TA => ?_
      refine W.seq ?_
      refine W.seq (W.region ?_)
      iterate 2 refine RW.v ?_
      refine RW.vop (v := .int .i64 19) (by kernel_rfl) (by kernel_rfl) (vop_sLenL (a := ([97, 98, 66, 99, 67, 100, 102, 105, 107, 109, 110, 78, 112, 80, 114, 115, 83, 118, 120] : List UInt8)) rfl rfl rfl rfl Tryd.underlying9 rfl) (by kernel_rfl) ?_
      refine RW.v ?_
      refine RW.nil ?_
      refine W.c1 ?_
      refine W.skip ?_
      refine W.seq ?_
      refine W.block ?_
      refine W.seq (W.region ?_)
      iterate 2 refine RW.v ?_
      refine RW.vop (v := .int .u8 100) (by kernel_rfl) (by kernel_rfl) (vop_sAtL (a := codesB) (j := 5) rfl rfl rfl Tryd.underlying9 (by decide)) (by kernel_rfl) ?_
      iterate 3 refine RW.v ?_
      refine RW.nil ?_
      refine W.rg [(0, .int .i64 c), (3, .string ⟨#[97, 98, 66, 99, 67, 100, 102, 105, 107, 109, 110, 78, 112, 80, 114, 115, 83, 118, 120]⟩), (4, .int .i64 5), (17, .bool (100 == c))] fun TA => ?_
      refine W.cond rfl (fun hc6 => ?_) (fun hc6 => ?_)
      ·have hc6b := hc6
       have hc6 := eq_of_beq hc6
       refine W.seq (W.region ?_)
       refine RW.v ?_
       refine RW.nil ?_
       refine W.ret ?_
       refine blkQ_ret ?_
       refine seqQ_ret ?_
       refine onceQ_ret ?_
       refine blkQ_ret ?_
       refine seqQ_ret ?_
       refine endG (by rfl) (by exact resL_tmp rfl) ?_
       rw [decide_eq_true (show c ∈ codeL from by rw [← hc6]; decide)]
       exact ⟨rfl, H⟩
      ·have hc6b := hc6
       have hc6 := ne_of_beq_false hc6
       refine W.skip ?_
       refine blkQ_normal ?_
       refine W.region ?_
       iterate 3 refine RW.v ?_
       refine RW.nil ?_
       refine WL.once ?_
       refine W.rg [(0, .int .i64 c), (3, .string ⟨#[97, 98, 66, 99, 67, 100, 102, 105, 107, 109, 110, 78, 112, 80, 114, 115, 83, 118, 120]⟩), (4, .int .i64 6)] fun TA => ?_
       refine W.seq ?_
       refine W.seq (W.region ?_)
       iterate 2 refine RW.v ?_
       refine RW.vop (v := .int .i64 19) (by kernel_rfl) (by kernel_rfl) (vop_sLenL (a := ([97, 98, 66, 99, 67, 100, 102, 105, 107, 109, 110, 78, 112, 80, 114, 115, 83, 118, 120] : List UInt8)) rfl rfl rfl rfl Tryd.underlying9 rfl) (by kernel_rfl) ?_
       refine RW.v ?_
       refine RW.nil ?_
       refine W.c1 ?_
       refine W.skip ?_
       refine W.seq ?_
       refine W.block ?_
       refine W.seq (W.region ?_)
       iterate 2 refine RW.v ?_
       refine RW.vop (v := .int .u8 102) (by kernel_rfl) (by kernel_rfl) (vop_sAtL (a := codesB) (j := 6) rfl rfl rfl Tryd.underlying9 (by decide)) (by kernel_rfl) ?_
       iterate 3 refine RW.v ?_
       refine RW.nil ?_
       refine W.rg [(0, .int .i64 c), (3, .string ⟨#[97, 98, 66, 99, 67, 100, 102, 105, 107, 109, 110, 78, 112, 80, 114, 115, 83, 118, 120]⟩), (4, .int .i64 6), (17, .bool (102 == c))] fun TA => ?_
       refine W.cond rfl (fun hc7 => ?_) (fun hc7 => ?_)
       ·have hc7b := hc7
        have hc7 := eq_of_beq hc7
        refine W.seq (W.region ?_)
        refine RW.v ?_
        refine RW.nil ?_
        refine W.ret ?_
        refine blkQ_ret ?_
        refine seqQ_ret ?_
        refine onceQ_ret ?_
        refine blkQ_ret ?_
        refine seqQ_ret ?_
        refine endG (by rfl) (by exact resL_tmp rfl) ?_
        rw [decide_eq_true (show c ∈ codeL from by rw [← hc7]; decide)]
        exact ⟨rfl, H⟩
       ·have hc7b := hc7
        have hc7 := ne_of_beq_false hc7
        refine W.skip ?_
        refine blkQ_normal ?_
        refine W.region ?_
        iterate 3 refine RW.v ?_
        refine RW.nil ?_
        refine WL.once ?_
        refine W.rg [(0, .int .i64 c), (3, .string ⟨#[97, 98, 66, 99, 67, 100, 102, 105, 107, 109, 110, 78, 112, 80, 114, 115, 83, 118, 120]⟩), (4, .int .i64 7)] fun TA => ?_
        refine W.seq ?_
        refine W.seq (W.region ?_)
        iterate 2 refine RW.v ?_
        refine RW.vop (v := .int .i64 19) (by kernel_rfl) (by kernel_rfl) (vop_sLenL (a := ([97, 98, 66, 99, 67, 100, 102, 105, 107, 109, 110, 78, 112, 80, 114, 115, 83, 118, 120] : List UInt8)) rfl rfl rfl rfl Tryd.underlying9 rfl) (by kernel_rfl) ?_
        refine RW.v ?_
        refine RW.nil ?_
        refine W.c1 ?_
        refine W.skip ?_
        refine W.seq ?_
        refine W.block ?_
        refine W.seq (W.region ?_)
        iterate 2 refine RW.v ?_
        refine RW.vop (v := .int .u8 105) (by kernel_rfl) (by kernel_rfl) (vop_sAtL (a := codesB) (j := 7) rfl rfl rfl Tryd.underlying9 (by decide)) (by kernel_rfl) ?_
        iterate 3 refine RW.v ?_
        refine RW.nil ?_
        refine W.rg [(0, .int .i64 c), (3, .string ⟨#[97, 98, 66, 99, 67, 100, 102, 105, 107, 109, 110, 78, 112, 80, 114, 115, 83, 118, 120]⟩), (4, .int .i64 7), (17, .bool (105 == c))] fun TA => ?_
        refine W.cond rfl (fun hc8 => ?_) (fun hc8 => ?_)
        ·have hc8b := hc8
         have hc8 := eq_of_beq hc8
         refine W.seq (W.region ?_)
         refine RW.v ?_
         refine RW.nil ?_
         refine W.ret ?_
         refine blkQ_ret ?_
         refine seqQ_ret ?_
         refine onceQ_ret ?_
         refine blkQ_ret ?_
         refine seqQ_ret ?_
         refine endG (by rfl) (by exact resL_tmp rfl) ?_
         rw [decide_eq_true (show c ∈ codeL from by rw [← hc8]; decide)]
         exact ⟨rfl, H⟩
        ·have hc8b := hc8
         have hc8 := ne_of_beq_false hc8
         refine W.skip ?_
         refine blkQ_normal ?_
         refine W.region ?_
         iterate 3 refine RW.v ?_
         refine RW.nil ?_
         refine WL.once ?_
         refine W.rg [(0, .int .i64 c), (3, .string ⟨#[97, 98, 66, 99, 67, 100, 102, 105, 107, 109, 110, 78, 112, 80, 114, 115, 83, 118, 120]⟩), (4, .int .i64 8)] fun TA => ?_
         refine W.seq ?_
         refine W.seq (W.region ?_)
         iterate 2 refine RW.v ?_
         refine RW.vop (v := .int .i64 19) (by kernel_rfl) (by kernel_rfl) (vop_sLenL (a := ([97, 98, 66, 99, 67, 100, 102, 105, 107, 109, 110, 78, 112, 80, 114, 115, 83, 118, 120] : List UInt8)) rfl rfl rfl rfl Tryd.underlying9 rfl) (by kernel_rfl) ?_
         refine RW.v ?_
         refine RW.nil ?_
         refine W.c1 ?_
         refine W.skip ?_
         refine W.seq ?_
         refine W.block ?_
         refine W.seq (W.region ?_)
         iterate 2 refine RW.v ?_
         refine RW.vop (v := .int .u8 107) (by kernel_rfl) (by kernel_rfl) (vop_sAtL (a := codesB) (j := 8) rfl rfl rfl Tryd.underlying9 (by decide)) (by kernel_rfl) ?_
         iterate 3 refine RW.v ?_
         refine RW.nil ?_
         refine W.rg [(0, .int .i64 c), (3, .string ⟨#[97, 98, 66, 99, 67, 100, 102, 105, 107, 109, 110, 78, 112, 80, 114, 115, 83, 118, 120]⟩), (4, .int .i64 8), (17, .bool (107 == c))] fun TA => ?_
         refine W.cond rfl (fun hc9 => ?_) (fun hc9 => ?_)
         ·have hc9b := hc9
          have hc9 := eq_of_beq hc9
          refine W.seq (W.region ?_)
          refine RW.v ?_
          refine RW.nil ?_
          refine W.ret ?_
          refine blkQ_ret ?_
          refine seqQ_ret ?_
          refine onceQ_ret ?_
          refine blkQ_ret ?_
          refine seqQ_ret ?_
          refine endG (by rfl) (by exact resL_tmp rfl) ?_
          rw [decide_eq_true (show c ∈ codeL from by rw [← hc9]; decide)]
          exact ⟨rfl, H⟩
         ·have hc9b := hc9
          have hc9 := ne_of_beq_false hc9
          refine W.skip ?_
          refine blkQ_normal ?_
          refine W.region ?_
          iterate 3 refine RW.v ?_
          refine RW.nil ?_
          refine WL.once ?_
          refine W.rg [(0, .int .i64 c), (3, .string ⟨#[97, 98, 66, 99, 67, 100, 102, 105, 107, 109, 110, 78, 112, 80, 114, 115, 83, 118, 120]⟩), (4, .int .i64 9)] fun TA => ?_
          refine W.seq ?_
          refine W.seq (W.region ?_)
          iterate 2 refine RW.v ?_
          refine RW.vop (v := .int .i64 19) (by kernel_rfl) (by kernel_rfl) (vop_sLenL (a := ([97, 98, 66, 99, 67, 100, 102, 105, 107, 109, 110, 78, 112, 80, 114, 115, 83, 118, 120] : List UInt8)) rfl rfl rfl rfl Tryd.underlying9 rfl) (by kernel_rfl) ?_
          refine RW.v ?_
          refine RW.nil ?_
          refine W.c1 ?_
          refine W.skip ?_
          refine W.seq ?_
          refine W.block ?_
          refine W.seq (W.region ?_)
          iterate 2 refine RW.v ?_
          refine RW.vop (v := .int .u8 109) (by kernel_rfl) (by kernel_rfl) (vop_sAtL (a := codesB) (j := 9) rfl rfl rfl Tryd.underlying9 (by decide)) (by kernel_rfl) ?_
          iterate 3 refine RW.v ?_
          refine RW.nil ?_
          refine W.rg [(0, .int .i64 c), (3, .string ⟨#[97, 98, 66, 99, 67, 100, 102, 105, 107, 109, 110, 78, 112, 80, 114, 115, 83, 118, 120]⟩), (4, .int .i64 9), (17, .bool (109 == c))] fun TA => ?_
          refine W.cond rfl (fun hc10 => ?_) (fun hc10 => ?_)
          ·have hc10b := hc10
           have hc10 := eq_of_beq hc10
           refine W.seq (W.region ?_)
           refine RW.v ?_
           refine RW.nil ?_
           refine W.ret ?_
           refine blkQ_ret ?_
           refine seqQ_ret ?_
           refine onceQ_ret ?_
           refine blkQ_ret ?_
           refine seqQ_ret ?_
           refine endG (by rfl) (by exact resL_tmp rfl) ?_
           rw [decide_eq_true (show c ∈ codeL from by rw [← hc10]; decide)]
           exact ⟨rfl, H⟩
          ·have hc10b := hc10
           have hc10 := ne_of_beq_false hc10
           refine W.skip ?_
           refine blkQ_normal ?_
           refine W.region ?_
           iterate 3 refine RW.v ?_
           refine RW.nil ?_
           refine WL.once ?_
           refine W.rg [(0, .int .i64 c), (3, .string ⟨#[97, 98, 66, 99, 67, 100, 102, 105, 107, 109, 110, 78, 112, 80, 114, 115, 83, 118, 120]⟩), (4, .int .i64 10)] fun TA => ?_
           refine W.seq ?_
           refine W.seq (W.region ?_)
           iterate 2 refine RW.v ?_
           refine RW.vop (v := .int .i64 19) (by kernel_rfl) (by kernel_rfl) (vop_sLenL (a := ([97, 98, 66, 99, 67, 100, 102, 105, 107, 109, 110, 78, 112, 80, 114, 115, 83, 118, 120] : List UInt8)) rfl rfl rfl rfl Tryd.underlying9 rfl) (by kernel_rfl) ?_
           refine RW.v ?_
           refine RW.nil ?_
           refine W.c1 ?_
           refine W.skip ?_
           refine W.seq ?_
           refine W.block ?_
           refine W.seq (W.region ?_)
           iterate 2 refine RW.v ?_
           refine RW.vop (v := .int .u8 110) (by kernel_rfl) (by kernel_rfl) (vop_sAtL (a := codesB) (j := 10) rfl rfl rfl Tryd.underlying9 (by decide)) (by kernel_rfl) ?_
           iterate 3 refine RW.v ?_
           refine RW.nil ?_
           refine W.rg [(0, .int .i64 c), (3, .string ⟨#[97, 98, 66, 99, 67, 100, 102, 105, 107, 109, 110, 78, 112, 80, 114, 115, 83, 118, 120]⟩), (4, .int .i64 10), (17, .bool (110 == c))] fun TA => ?_
           refine W.cond rfl (fun hc11 => ?_) (fun hc11 => ?_)
           ·have hc11b := hc11
            have hc11 := eq_of_beq hc11
            refine W.seq (W.region ?_)
            refine RW.v ?_
            refine RW.nil ?_
            refine W.ret ?_
            refine blkQ_ret ?_
            refine seqQ_ret ?_
            refine onceQ_ret ?_
            refine blkQ_ret ?_
            refine seqQ_ret ?_
            refine endG (by rfl) (by exact resL_tmp rfl) ?_
            rw [decide_eq_true (show c ∈ codeL from by rw [← hc11]; decide)]
            exact ⟨rfl, H⟩
           ·have hc11b := hc11
            have hc11 := ne_of_beq_false hc11
            refine W.skip ?_
            refine blkQ_normal ?_
            refine W.region ?_
            iterate 3 refine RW.v ?_
            refine RW.nil ?_
            refine WL.once ?_
            refine W.rg [(0, .int .i64 c), (3, .string ⟨#[97, 98, 66, 99, 67, 100, 102, 105, 107, 109, 110, 78, 112, 80, 114, 115, 83, 118, 120]⟩), (4, .int .i64 11)] fun TA => ?_
            refine W.seq ?_
            refine W.seq (W.region ?_)
            iterate 2 refine RW.v ?_
            refine RW.vop (v := .int .i64 19) (by kernel_rfl) (by kernel_rfl) (vop_sLenL (a := ([97, 98, 66, 99, 67, 100, 102, 105, 107, 109, 110, 78, 112, 80, 114, 115, 83, 118, 120] : List UInt8)) rfl rfl rfl rfl Tryd.underlying9 rfl) (by kernel_rfl) ?_
            refine RW.v ?_
            refine RW.nil ?_
            refine W.c1 ?_
            refine W.skip ?_
            refine W.seq ?_
            refine W.block ?_
            refine W.seq (W.region ?_)
            iterate 2 refine RW.v ?_
            refine RW.vop (v := .int .u8 78) (by kernel_rfl) (by kernel_rfl) (vop_sAtL (a := codesB) (j := 11) rfl rfl rfl Tryd.underlying9 (by decide)) (by kernel_rfl) ?_
            iterate 3 refine RW.v ?_
            refine RW.nil ?_
            refine W.rg [(0, .int .i64 c), (3, .string ⟨#[97, 98, 66, 99, 67, 100, 102, 105, 107, 109, 110, 78, 112, 80, 114, 115, 83, 118, 120]⟩), (4, .int .i64 11), (17, .bool (78 == c))] fun TA => ?_
            refine W.cond rfl (fun hc12 => ?_) (fun hc12 => ?_)
            ·have hc12b := hc12
             have hc12 := eq_of_beq hc12
             refine W.seq (W.region ?_)
             refine RW.v ?_
             refine RW.nil ?_
             refine W.ret ?_
             refine blkQ_ret ?_
             refine seqQ_ret ?_
             refine onceQ_ret ?_
             refine blkQ_ret ?_
             refine seqQ_ret ?_
             refine endG (by rfl) (by exact resL_tmp rfl) ?_
             rw [decide_eq_true (show c ∈ codeL from by rw [← hc12]; decide)]
             exact ⟨rfl, H⟩
            ·have hc12b := hc12
             have hc12 := ne_of_beq_false hc12
             refine W.skip ?_
             refine blkQ_normal ?_
             refine W.region ?_
             iterate 3 refine RW.v ?_
             refine RW.nil ?_
             refine WL.once ?_
             refine W.rg [(0, .int .i64 c), (3, .string ⟨#[97, 98, 66, 99, 67, 100, 102, 105, 107, 109, 110, 78, 112, 80, 114, 115, 83, 118, 120]⟩), (4, .int .i64 12)] fun TA => ?_
             refine W.seq ?_
             refine W.seq (W.region ?_)
             iterate 2 refine RW.v ?_
             refine RW.vop (v := .int .i64 19) (by kernel_rfl) (by kernel_rfl) (vop_sLenL (a := ([97, 98, 66, 99, 67, 100, 102, 105, 107, 109, 110, 78, 112, 80, 114, 115, 83, 118, 120] : List UInt8)) rfl rfl rfl rfl Tryd.underlying9 rfl) (by kernel_rfl) ?_
             refine RW.v ?_
             refine RW.nil ?_
             refine W.c1 ?_
             refine W.skip ?_
             refine W.seq ?_
             refine W.block ?_
             refine W.seq (W.region ?_)
             iterate 2 refine RW.v ?_
             refine RW.vop (v := .int .u8 112) (by kernel_rfl) (by kernel_rfl) (vop_sAtL (a := codesB) (j := 12) rfl rfl rfl Tryd.underlying9 (by decide)) (by kernel_rfl) ?_
             iterate 3 refine RW.v ?_
             refine RW.nil ?_
             refine W.rg [(0, .int .i64 c), (3, .string ⟨#[97, 98, 66, 99, 67, 100, 102, 105, 107, 109, 110, 78, 112, 80, 114, 115, 83, 118, 120]⟩), (4, .int .i64 12), (17, .bool (112 == c))] fun TA => ?_
             refine W.cond rfl (fun hc13 => ?_) (fun hc13 => ?_)
             ·have hc13b := hc13
              have hc13 := eq_of_beq hc13
              refine W.seq (W.region ?_)
              refine RW.v ?_
              refine RW.nil ?_
              refine W.ret ?_
              refine blkQ_ret ?_
              refine seqQ_ret ?_
              refine onceQ_ret ?_
              refine blkQ_ret ?_
              refine seqQ_ret ?_
              refine endG (by rfl) (by exact resL_tmp rfl) ?_
              rw [decide_eq_true (show c ∈ codeL from by rw [← hc13]; decide)]
              exact ⟨rfl, H⟩
             ·have hc13b := hc13
              have hc13 := ne_of_beq_false hc13
              refine W.skip ?_
              refine blkQ_normal ?_
              refine W.region ?_
              iterate 3 refine RW.v ?_
              refine RW.nil ?_
              refine WL.once ?_
              refine W.rg [(0, .int .i64 c), (3, .string ⟨#[97, 98, 66, 99, 67, 100, 102, 105, 107, 109, 110, 78, 112, 80, 114, 115, 83, 118, 120]⟩), (4, .int .i64 13)] fun TA => ?_
              refine W.seq ?_
              refine W.seq (W.region ?_)
              iterate 2 refine RW.v ?_
              refine RW.vop (v := .int .i64 19) (by kernel_rfl) (by kernel_rfl) (vop_sLenL (a := ([97, 98, 66, 99, 67, 100, 102, 105, 107, 109, 110, 78, 112, 80, 114, 115, 83, 118, 120] : List UInt8)) rfl rfl rfl rfl Tryd.underlying9 rfl) (by kernel_rfl) ?_
              refine RW.v ?_
              refine RW.nil ?_
              refine W.c1 ?_
              refine W.skip ?_
              refine W.seq ?_
              refine W.block ?_
              refine W.seq (W.region ?_)
              iterate 2 refine RW.v ?_
              refine RW.vop (v := .int .u8 80) (by kernel_rfl) (by kernel_rfl) (vop_sAtL (a := codesB) (j := 13) rfl rfl rfl Tryd.underlying9 (by decide)) (by kernel_rfl) ?_
              iterate 3 refine RW.v ?_
              refine RW.nil ?_
              refine W.rg [(0, .int .i64 c), (3, .string ⟨#[97, 98, 66, 99, 67, 100, 102, 105, 107, 109, 110, 78, 112, 80, 114, 115, 83, 118, 120]⟩), (4, .int .i64 13), (17, .bool (80 == c))] fun TA => ?_
              refine W.cond rfl (fun hc14 => ?_) (fun hc14 => ?_)
              ·have hc14b := hc14
               have hc14 := eq_of_beq hc14
               refine W.seq (W.region ?_)
               refine RW.v ?_
               refine RW.nil ?_
               refine W.ret ?_
               refine blkQ_ret ?_
               refine seqQ_ret ?_
               refine onceQ_ret ?_
               refine blkQ_ret ?_
               refine seqQ_ret ?_
               refine endG (by rfl) (by exact resL_tmp rfl) ?_
               rw [decide_eq_true (show c ∈ codeL from by rw [← hc14]; decide)]
               exact ⟨rfl, H⟩
              ·have hc14b := hc14
               have hc14 := ne_of_beq_false hc14
               refine W.skip ?_
               refine blkQ_normal ?_
               refine W.region ?_
               iterate 3 refine RW.v ?_
               refine RW.nil ?_
               refine WL.once ?_
               refine W.rg [(0, .int .i64 c), (3, .string ⟨#[97, 98, 66, 99, 67, 100, 102, 105, 107, 109, 110, 78, 112, 80, 114, 115, 83, 118, 120]⟩), (4, .int .i64 14)] fun TA => ?_
               refine W.seq ?_
               refine W.seq (W.region ?_)
               iterate 2 refine RW.v ?_
               refine RW.vop (v := .int .i64 19) (by kernel_rfl) (by kernel_rfl) (vop_sLenL (a := ([97, 98, 66, 99, 67, 100, 102, 105, 107, 109, 110, 78, 112, 80, 114, 115, 83, 118, 120] : List UInt8)) rfl rfl rfl rfl Tryd.underlying9 rfl) (by kernel_rfl) ?_
               refine RW.v ?_
               refine RW.nil ?_
               refine W.c1 ?_
               refine W.skip ?_
               refine W.seq ?_
               refine W.block ?_
               refine W.seq (W.region ?_)
               iterate 2 refine RW.v ?_
               refine RW.vop (v := .int .u8 114) (by kernel_rfl) (by kernel_rfl) (vop_sAtL (a := codesB) (j := 14) rfl rfl rfl Tryd.underlying9 (by decide)) (by kernel_rfl) ?_
               iterate 3 refine RW.v ?_
               refine RW.nil ?_
               refine W.rg [(0, .int .i64 c), (3, .string ⟨#[97, 98, 66, 99, 67, 100, 102, 105, 107, 109, 110, 78, 112, 80, 114, 115, 83, 118, 120]⟩), (4, .int .i64 14), (17, .bool (114 == c))] fun TA => ?_
               refine W.cond rfl (fun hc15 => ?_) (fun hc15 => ?_)
               ·have hc15b := hc15
                have hc15 := eq_of_beq hc15
                refine W.seq (W.region ?_)
                refine RW.v ?_
                refine RW.nil ?_
                refine W.ret ?_
                refine blkQ_ret ?_
                refine seqQ_ret ?_
                refine onceQ_ret ?_
                refine blkQ_ret ?_
                refine seqQ_ret ?_
                refine endG (by rfl) (by exact resL_tmp rfl) ?_
                rw [decide_eq_true (show c ∈ codeL from by rw [← hc15]; decide)]
                exact ⟨rfl, H⟩
               ·have hc15b := hc15
                have hc15 := ne_of_beq_false hc15
                refine W.skip ?_
                refine blkQ_normal ?_
                refine W.region ?_
                iterate 3 refine RW.v ?_
                refine RW.nil ?_
                refine WL.once ?_
                refine W.rg [(0, .int .i64 c), (3, .string ⟨#[97, 98, 66, 99, 67, 100, 102, 105, 107, 109, 110, 78, 112, 80, 114, 115, 83, 118, 120]⟩), (4, .int .i64 15)] fun TA => ?_
                refine W.seq ?_
                refine W.seq (W.region ?_)
                iterate 2 refine RW.v ?_
                refine RW.vop (v := .int .i64 19) (by kernel_rfl) (by kernel_rfl) (vop_sLenL (a := ([97, 98, 66, 99, 67, 100, 102, 105, 107, 109, 110, 78, 112, 80, 114, 115, 83, 118, 120] : List UInt8)) rfl rfl rfl rfl Tryd.underlying9 rfl) (by kernel_rfl) ?_
                refine RW.v ?_
                refine RW.nil ?_
                refine W.c1 ?_
                refine W.skip ?_
                refine W.seq ?_
                refine W.block ?_
                refine W.seq (W.region ?_)
                iterate 2 refine RW.v ?_
                refine RW.vop (v := .int .u8 115) (by kernel_rfl) (by kernel_rfl) (vop_sAtL (a := codesB) (j := 15) rfl rfl rfl Tryd.underlying9 (by decide)) (by kernel_rfl) ?_
                iterate 3 refine RW.v ?_
                refine RW.nil ?_
                refine W.rg [(0, .int .i64 c), (3, .string ⟨#[97, 98, 66, 99, 67, 100, 102, 105, 107, 109, 110, 78, 112, 80, 114, 115, 83, 118, 120]⟩), (4, .int .i64 15), (17, .bool (115 == c))] fun TA => ?_
                refine W.cond rfl (fun hc16 => ?_) (fun hc16 => ?_)
                ·have hc16b := hc16
                 have hc16 := eq_of_beq hc16
                 refine W.seq (W.region ?_)
                 refine RW.v ?_
                 refine RW.nil ?_
                 refine W.ret ?_
                 refine blkQ_ret ?_
                 refine seqQ_ret ?_
                 refine onceQ_ret ?_
                 refine blkQ_ret ?_
                 refine seqQ_ret ?_
                 refine endG (by rfl) (by exact resL_tmp rfl) ?_
                 rw [decide_eq_true (show c ∈ codeL from by rw [← hc16]; decide)]
                 exact ⟨rfl, H⟩
                ·have hc16b := hc16
                 have hc16 := ne_of_beq_false hc16
                 refine W.skip ?_
                 refine blkQ_normal ?_
                 refine W.region ?_
                 iterate 3 refine RW.v ?_
                 refine RW.nil ?_
                 refine WL.once ?_
                 refine W.rg [(0, .int .i64 c), (3, .string ⟨#[97, 98, 66, 99, 67, 100, 102, 105, 107, 109, 110, 78, 112, 80, 114, 115, 83, 118, 120]⟩), (4, .int .i64 16)] fun TA => ?_
                 refine W.seq ?_
                 refine W.seq (W.region ?_)
                 iterate 2 refine RW.v ?_
                 refine RW.vop (v := .int .i64 19) (by kernel_rfl) (by kernel_rfl) (vop_sLenL (a := ([97, 98, 66, 99, 67, 100, 102, 105, 107, 109, 110, 78, 112, 80, 114, 115, 83, 118, 120] : List UInt8)) rfl rfl rfl rfl Tryd.underlying9 rfl) (by kernel_rfl) ?_
                 refine RW.v ?_
                 refine RW.nil ?_
                 refine W.c1 ?_
                 refine W.skip ?_
                 refine W.seq ?_
                 refine W.block ?_
                 refine W.seq (W.region ?_)
                 iterate 2 refine RW.v ?_
                 refine RW.vop (v := .int .u8 83) (by kernel_rfl) (by kernel_rfl) (vop_sAtL (a := codesB) (j := 16) rfl rfl rfl Tryd.underlying9 (by decide)) (by kernel_rfl) ?_
                 iterate 3 refine RW.v ?_
                 refine RW.nil ?_
                 refine W.rg [(0, .int .i64 c), (3, .string ⟨#[97, 98, 66, 99, 67, 100, 102, 105, 107, 109, 110, 78, 112, 80, 114, 115, 83, 118, 120]⟩), (4, .int .i64 16), (17, .bool (83 == c))] fun TA => ?_
                 refine W.cond rfl (fun hc17 => ?_) (fun hc17 => ?_)
                 ·have hc17b := hc17
                  have hc17 := eq_of_beq hc17
                  refine W.seq (W.region ?_)
                  refine RW.v ?_
                  refine RW.nil ?_
                  refine W.ret ?_
                  refine blkQ_ret ?_
                  refine seqQ_ret ?_
                  refine onceQ_ret ?_
                  refine blkQ_ret ?_
                  refine seqQ_ret ?_
                  refine endG (by rfl) (by exact resL_tmp rfl) ?_
                  rw [decide_eq_true (show c ∈ codeL from by rw [← hc17]; decide)]
                  exact ⟨rfl, H⟩
                 ·have hc17b := hc17
                  have hc17 := ne_of_beq_false hc17
                  refine W.skip ?_
                  refine blkQ_normal ?_
                  refine W.region ?_
                  iterate 3 refine RW.v ?_
                  refine RW.nil ?_
                  refine WL.once ?_
                  refine W.rg [(0, .int .i64 c), (3, .string ⟨#[97, 98, 66, 99, 67, 100, 102, 105, 107, 109, 110, 78, 112, 80, 114, 115, 83, 118, 120]⟩), (4, .int .i64 17)] fun TA => ?_
                  refine W.seq ?_
                  refine W.seq (W.region ?_)
                  iterate 2 refine RW.v ?_
                  refine RW.vop (v := .int .i64 19) (by kernel_rfl) (by kernel_rfl) (vop_sLenL (a := ([97, 98, 66, 99, 67, 100, 102, 105, 107, 109, 110, 78, 112, 80, 114, 115, 83, 118, 120] : List UInt8)) rfl rfl rfl rfl Tryd.underlying9 rfl) (by kernel_rfl) ?_
                  refine RW.v ?_
                  refine RW.nil ?_
                  refine W.c1 ?_
                  refine W.skip ?_
                  refine W.seq ?_
                  refine W.block ?_
                  refine W.seq (W.region ?_)
                  iterate 2 refine RW.v ?_
                  refine RW.vop (v := .int .u8 118) (by kernel_rfl) (by kernel_rfl) (vop_sAtL (a := codesB) (j := 17) rfl rfl rfl Tryd.underlying9 (by decide)) (by kernel_rfl) ?_
                  iterate 3 refine RW.v ?_
                  refine RW.nil ?_
                  refine W.rg [(0, .int .i64 c), (3, .string ⟨#[97, 98, 66, 99, 67, 100, 102, 105, 107, 109, 110, 78, 112, 80, 114, 115, 83, 118, 120]⟩), (4, .int .i64 17), (17, .bool (118 == c))] fun TA => ?_
                  refine W.cond rfl (fun hc18 => ?_) (fun hc18 => ?_)
                  ·have hc18b := hc18
                   have hc18 := eq_of_beq hc18
                   refine W.seq (W.region ?_)
                   refine RW.v ?_
                   refine RW.nil ?_
                   refine W.ret ?_
                   refine blkQ_ret ?_
                   refine seqQ_ret ?_
                   refine onceQ_ret ?_
                   refine blkQ_ret ?_
                   refine seqQ_ret ?_
                   refine endG (by rfl) (by exact resL_tmp rfl) ?_
                   rw [decide_eq_true (show c ∈ codeL from by rw [← hc18]; decide)]
                   exact ⟨rfl, H⟩
                  ·have hc18b := hc18
                   have hc18 := ne_of_beq_false hc18
                   refine W.skip ?_
                   refine blkQ_normal ?_
                   refine W.region ?_
                   iterate 3 refine RW.v ?_
                   refine RW.nil ?_
                   refine WL.once ?_
                   refine W.rg [(0, .int .i64 c), (3, .string ⟨#[97, 98, 66, 99, 67, 100, 102, 105, 107, 109, 110, 78, 112, 80, 114, 115, 83, 118, 120]⟩), (4, .int .i64 18)] fun TA => ?_
                   refine W.seq ?_
                   refine W.seq (W.region ?_)
                   iterate 2 refine RW.v ?_
                   refine RW.vop (v := .int .i64 19) (by kernel_rfl) (by kernel_rfl) (vop_sLenL (a := ([97, 98, 66, 99, 67, 100, 102, 105, 107, 109, 110, 78, 112, 80, 114, 115, 83, 118, 120] : List UInt8)) rfl rfl rfl rfl Tryd.underlying9 rfl) (by kernel_rfl) ?_
                   refine RW.v ?_
                   refine RW.nil ?_
                   refine W.c1 ?_
                   refine W.skip ?_
                   refine W.seq ?_
                   refine W.block ?_
                   refine W.seq (W.region ?_)
                   iterate 2 refine RW.v ?_
                   refine RW.vop (v := .int .u8 120) (by kernel_rfl) (by kernel_rfl) (vop_sAtL (a := codesB) (j := 18) rfl rfl rfl Tryd.underlying9 (by decide)) (by kernel_rfl) ?_
                   iterate 3 refine RW.v ?_
                   refine RW.nil ?_
                   refine W.rg [(0, .int .i64 c), (3, .string ⟨#[97, 98, 66, 99, 67, 100, 102, 105, 107, 109, 110, 78, 112, 80, 114, 115, 83, 118, 120]⟩), (4, .int .i64 18), (17, .bool (120 == c))] fun TA => ?_
                   refine W.cond rfl (fun hc19 => ?_) (fun hc19 => ?_)
                   ·have hc19b := hc19
                    have hc19 := eq_of_beq hc19
                    refine W.seq (W.region ?_)
                    refine RW.v ?_
                    refine RW.nil ?_
                    refine W.ret ?_
                    refine blkQ_ret ?_
                    refine seqQ_ret ?_
                    refine onceQ_ret ?_
                    refine blkQ_ret ?_
                    refine seqQ_ret ?_
                    refine endG (by rfl) (by exact resL_tmp rfl) ?_
                    rw [decide_eq_true (show c ∈ codeL from by rw [← hc19]; decide)]
                    exact ⟨rfl, H⟩
                   ·have hc19b := hc19
                    have hc19 := ne_of_beq_false hc19
                    refine W.skip ?_
                    refine blkQ_normal ?_
                    refine W.region ?_
                    iterate 3 refine RW.v ?_
                    refine RW.nil ?_
                    refine WL.once ?_
                    refine W.rg [(0, .int .i64 c), (3, .string ⟨#[97, 98, 66, 99, 67, 100, 102, 105, 107, 109, 110, 78, 112, 80, 114, 115, 83, 118, 120]⟩), (4, .int .i64 19)] fun TA => ?_
                    refine W.seq ?_
                    refine W.seq (W.region ?_)
                    iterate 2 refine RW.v ?_
                    refine RW.vop (v := .int .i64 19) (by kernel_rfl) (by kernel_rfl) (vop_sLenL (a := ([97, 98, 66, 99, 67, 100, 102, 105, 107, 109, 110, 78, 112, 80, 114, 115, 83, 118, 120] : List UInt8)) rfl rfl rfl rfl Tryd.underlying9 rfl) (by kernel_rfl) ?_
                    refine RW.v ?_
                    refine RW.nil ?_
                    refine W.c0 ?_
                    refine W.exit _ ?_
                    refine seqQ_exit ?_
                    refine onceQ_exit ?_
                    refine blkQ_here ?_
                    refine W.seq (W.region ?_)
                    refine RW.v ?_
                    refine RW.nil ?_
                    refine W.ret ?_
                    refine endG (by rfl) (by exact resL_tmp rfl) ?_
                    rw [decide_eq_false (show c ∉ codeL from fun e => by simp only [codeL, List.mem_cons, List.not_mem_nil, or_false] at e; omega)]
                    exact ⟨rfl, H⟩
set_option maxHeartbeats 8000000 in
theorem rtext_wc {G : Nat} {A : Abs} {σ : Mem} {F : Nat → Option Blk2} {L : List Ent} {v1 : Value} {xs : List Int} (h1 : SlF F 1 v1 xs.length (xs.map (Value.int .i64))) (hl : xs.length ≤ 65536) (H : Lies G A F σ L) : WC G Tryd.prog 45 #[v1] σ fun v σ' => v = .string ⟨(textOf xs).toArray⟩ ∧ Lies G A F σ' L := by
 refine WC.enter (fn := Tryd.f45) Tryd.func45 rfl ?_
 refine W.rg [(0, v1)] fun TA => ?_
 refine W.seq (W.region ?_)
 refine RW.v ?_
 refine RW.nil ?_
 refine W.rg [(0, v1)] fun TA => ?_
 refine W.seq (W.region ?_)
 refine RW.v ?_
 refine RW.cl ?_
 refine ⟨_, _, (s_text (H.old) h1 hl), ?_⟩
 iterate 5 refine RW.v ?_
 refine RW.nil ?_
 refine W.rg [(3, .string ⟨(textOf xs).toArray⟩)] fun TA => ?_
 refine W.seq (W.region ?_)
 iterate 2 refine RW.v ?_
 refine RW.nil ?_
 refine W.ret ?_
 refine endG (by rfl) (by exact resL_tmp rfl) ?_
 exact ⟨rfl, H⟩
end Go.Proofs.YthemeeiedlbhkaaDoor
