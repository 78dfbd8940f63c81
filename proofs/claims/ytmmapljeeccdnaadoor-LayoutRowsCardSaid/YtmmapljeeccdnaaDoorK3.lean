/-
 Cells of a screen held against themselves. Conditions: none.
 Slices of cells, positions, rows of the same contents are the same. Conditions: none.
 slices.Repeat of a cell, rows of blanks. Conditions: none.
 A copy of rows. Conditions: none.
 Where, in plain words. Conditions: none.
 Where of the reference. Conditions: none.
 Where of the program. Conditions: none.
 At, in plain words. Conditions: none.
 At of the reference. Conditions: none.
 At of the program. Conditions: none.
 LayoutFinds in the second memory. Conditions: none.
-/
import Derived.Test.YtmmapljeeccdnaaDoorS4
import Derived.Test.YtmmapljeeccdnaaDoorBase
import Derived.Test.YtmmapljeeccdnaaDoorProg
import Derived.Test.YtmmapljeeccdnaaDoorK2
import Derived.KernelRfl
import Derived.Test.YtmmapljeeccdnaaDoorK1
import Derived.Test.YtmmapljeeccdnaaDoorShelf
namespace Go.Proofs.YtmmapljeeccdnaaDoor
set_option maxRecDepth 100000
theorem eqCell (a b c : Int) (d e f : Bool) (w : World) : (Op.equalIn 10000 79 (.agg #[.int .i64 a, .int .i64 b, .int .i64 c, .bool d, .bool e, .bool f]) (.agg #[.int .i64 a, .int .i64 b, .int .i64 c, .bool d, .bool e, .bool f])).run Tryd.prog w = .ok true w := by
 have u3 := Tryd.underlying3
 have u4 := Tryd.underlying4
 have hS : Tryd.prog.underlying 79 = some (.struct (Tryd.prog.fieldsOf 79)) := by kernel_rfl
 have hp : Tryd.prog.stoodInHeld 79 = false := by kernel_rfl
 have hS2 : Tryd.prog.underlying 50 = some (.struct (Tryd.prog.fieldsOf 50)) := by kernel_rfl
 have hp2 : Tryd.prog.stoodInHeld 50 = false := by kernel_rfl
 have c5 : Tryd.prog.cellsOf 50 = 5 := by kernel_rfl
 have hL : ∀ w, (Op.equalIn 9999 50 (.agg #[.int .i64 b, .int .i64 c, .bool d, .bool e, .bool f]) (.agg #[.int .i64 b, .int .i64 c, .bool d, .bool e, .bool f])).run Tryd.prog w = .ok true w := fun w => by
  rw [show (9999 : Nat) = 9998 + 1 from rfl, run_equalIn_agg w 9998 50 _ _ hS2 hp2]
  simp only [Program.fieldsOf, Tryd.underlying50]
  go_simp
 rw [show (10000 : Nat) = 9999 + 1 from rfl, run_equalIn_agg w 9999 79 _ _ hS hp]
 simp only [Program.fieldsOf, Tryd.underlying79]
 go_simp
theorem cC_at : ∀ {l : List Cel} {j : Nat}, j < l.length → ((cC l).drop (j * 6)).take 6 = (l.getD j default).vs
 | [], _, h => absurd h (Nat.not_lt_zero _)
 | _ :: _, 0, _ => rfl
 | x :: l, j + 1, h => by
  rw [show cC (x :: l) = x.vs ++ cC l from rfl, show (j + 1) * 6 = 6 + j * 6 by omega, ← List.drop_drop]
  rw [show (x.vs ++ cC l).drop 6 = cC l from rfl]
  exact cC_at (l := l) (j := j) (by simpa using h)
end Go.Proofs.YtmmapljeeccdnaaDoor
namespace Go.Proofs.YtmmapljeeccdnaaDoor
set_option maxRecDepth 100000
theorem cC_ati {l : List Cel} {j : Nat} (h : j < l.length) : ((cC l).drop (((j : Nat) : Int).toNat * 6)).take 6 = [.int .i64 (l.getD j default).a, .int .i64 (l.getD j default).b, .int .i64 (l.getD j default).c, .bool (l.getD j default).d, .bool (l.getD j default).e, .bool (l.getD j default).f] := cC_at h
theorem rowsV_ati {cs ps : List Value} {l : List RowV} {j : Nat} (h1 : cs.length = l.length) (h2 : ps.length = l.length) (h : j < l.length) : ((rowsV cs ps l).drop (((j : Nat) : Int).toNat * 5)).take 5 = [cs.getD j undef, ps.getD j undef, .int .i64 (l.getD j default).fr, .int .i64 (l.getD j default).to, .bool (l.getD j default).co] := rowsV_at h1 h2 h
theorem rowD_mem {l : List RowV} {j : Nat} (h : j < l.length) : l.getD j default ∈ l := by
 rw [List.getD_eq_getElem?_getD, List.getElem?_eq_getElem h]
 exact List.getElem_mem h
section
variable {G : Nat} {A : Abs} {σ : Mem} {F : Nat → Option Blk2} {L : List Ent}
set_option maxHeartbeats 4000000 in
theorem same_ints {l : List Int} {v1 v2 : Value} (h1 : SlF F 1 v1 l.length (l.map (Value.int .i64))) (h2 : SlF F 1 v2 l.length (l.map (Value.int .i64))) (hl : l.length ≤ 1000000) (H : Lies G A F σ L) : WC G Tryd.prog 30 #[v1, v2] σ fun v σ' => v = .bool true ∧ Lies G A F σ' L := by
 refine WC.enter (fn := Tryd.f30) Tryd.func30 rfl ?_
 refine W.rg [(0, v1), (1, v2)] fun TA => ?_
 refine W.seq (W.region ?_)
 refine RW.v ?_
 refine RW.nil ?_
 refine W.rg [(0, v1), (1, v2)] fun TA => ?_
 refine W.seq (W.region ?_)
 refine RW.v ?_
 refine RW.len (by kernel_rfl) (by kernel_rfl) rfl rfl rfl rfl (h1.len (e := 3) (by kernel_rfl)) (by kernel_rfl) ?_
 refine RW.v ?_
 refine RW.len (by kernel_rfl) (by kernel_rfl) rfl rfl rfl rfl (h2.len (e := 3) (by kernel_rfl)) (by kernel_rfl) ?_
 refine RW.valE (v' := .bool true) (by kernel_rfl) (by kernel_rfl) rfl (congrArg Value.bool (beq_iff_eq.2 (by rfl))) (by kernel_rfl) ?_
 refine RW.v ?_
 refine RW.nil ?_
 refine W.rg [(0, v1), (1, v2), (5, .bool true)] fun TA => ?_
 refine W.seq ?_
 refine W.seq (W.region ?_)
 refine RW.v ?_
 refine RW.nil ?_
 refine W.rg [(0, v1), (1, v2), (5, .bool true), (6, .int .i64 0)] fun TA => ?_
 refine W.block ?_
 refine W.loop (fun mm ta σ => ∃ (i : Nat), (mm + i = l.length) ∧ Lies G A F σ ((L)) ∧ ta 0 = v1 ∧ ta 1 = v2 ∧ ta 5 = .bool true ∧ ta 6 = .int .i64 ((i : Nat) : Int)) l.length ?_ ?_
 ·exact ⟨0, (by omega), H, rfl, rfl, rfl, rfl⟩
 clear H
 rintro mm ta _ ⟨i, hm, H, e0, e1, e5, e6⟩
 refine W.rst [(0, v1), (1, v2), (5, .bool true), (6, .int .i64 ((i : Nat) : Int))] ⟨e0, e1, e5, e6, trivial⟩ fun TA => ?_
 clear e0 e1 e5 e6
 refine W.seq ?_
 refine W.seq (W.region ?_)
 iterate 2 refine RW.v ?_
 iterate 2 refine RW.w ?_
 refine RW.len (by rfl) (by kernel_rfl) rfl rfl rfl rfl (h1.len (e := 3) (by kernel_rfl)) (by kernel_rfl) ?_
 refine RW.w ?_
 refine RW.v ?_
 refine RW.nil ?_
 refine W.rg [(0, v1), (1, v2), (5, .bool true), (6, .int .i64 ((i : Nat) : Int)), (18, .bool (decide (((i : Nat) : Int) < (l.length : Int))))] fun TA => ?_
 refine W.cond rfl (fun hc1 => ?_) (fun hc1 => ?_)
 ·have hc1b := hc1
  have hc1 := of_decide_eq_true hc1
  refine W.skip ?_
  refine W.seq ?_
  refine W.block ?_
  refine W.drawn (by kernel_rfl) (by kernel_rfl) H.gn ?_
  have H2 := H
  iterate 2 refine RW.v ?_
  refine RW.idxF h1 (by kernel_rfl) (by kernel_rfl) rfl Tryd.underlying37 (by kernel_rfl) rfl rfl ⟨by omega, by omega⟩ (by kernel_rfl) ?_
  intro b3 q4 r5 hF6 hE7
  rw [ints_at (l := l) (j := i) (by omega)] at hE7
  refine RW.loads 1 (by kernel_rfl) (by kernel_rfl) rfl rfl (H2.old _ _ hF6) hE7 rfl (by kernel_rfl) ?_
  iterate 2 refine RW.v ?_
  refine RW.idxF h2 (by kernel_rfl) (by kernel_rfl) rfl Tryd.underlying37 (by kernel_rfl) rfl rfl ⟨by omega, by omega⟩ (by kernel_rfl) ?_
  intro b8 q9 r10 hF11 hE12
  rw [ints_at (l := l) (j := i) (by omega)] at hE12
  refine RW.loads 1 (by kernel_rfl) (by kernel_rfl) rfl rfl (H2.old _ _ hF11) hE12 rfl (by kernel_rfl) ?_
  refine RW.valE (v' := .bool true) (by kernel_rfl) (by kernel_rfl) rfl (congrArg Value.bool (beq_iff_eq.2 (by rfl))) (by kernel_rfl) ?_
  refine RW.v ?_
  refine RW.nil ?_
  refine ⟨⟨by kernel_rfl, ⟨trivial, trivial, trivial, dyn_row (H2.old _ _ hF6) (H2.old _ _ hF6) ⟨nB, nB, nB, nB, nB, nB, nB, nB, nB, nB, trivial⟩, trivial, trivial, trivial, dyn_row (H2.old _ _ hF11) (H2.old _ _ hF11) ⟨nB, nB, nB, nB, nB, nB, nB, nB, nB, nB, trivial⟩, trivial, trivial, trivial⟩⟩, ?_⟩
  replace H := H2
  clear H2
  refine blkQ_normal ?_
  refine W.rg [(0, v1), (1, v2), (5, .bool true), (6, .int .i64 ((i : Nat) : Int))] fun TA => ?_
  refine W.region ?_
  refine RW.v ?_
  refine RW.valE (v' := .int .i64 (((i : Nat) : Int) + 1)) (by kernel_rfl) (by kernel_rfl) rfl (congrArg (Value.int .i64) (wrap_in (by omega) (by omega))) (by kernel_rfl) ?_
  refine RW.v ?_
  refine RW.nil ?_
  exact ⟨rfl, mm - 1, by omega, i + 1, (by omega), H, rfl, rfl, rfl, rfl⟩
 ·have hc1b := hc1
  have hc1 := of_decide_eq_false hc1
  refine W.exit _ ?_
  refine seqQ_exit ?_
  refine rndQ_exit ?_
  refine blkQ_here ?_
  refine W.seq (W.region ?_)
  iterate 2 refine RW.v ?_
  refine RW.nil ?_
  refine W.ret ?_
  refine endG (by rfl) (by exact resL_tmp rfl) ?_
  exact ⟨rfl, H⟩
set_option maxHeartbeats 4000000 in
theorem same_cells {l : List Cel} {v1 v2 : Value} (h1 : SlF F 6 v1 l.length (cC l)) (h2 : SlF F 6 v2 l.length (cC l)) (hl : l.length ≤ 1000000) (H : Lies G A F σ L) : WC G Tryd.prog 25 #[v1, v2] σ fun v σ' => v = .bool true ∧ Lies G A F σ' L := by
 refine WC.enter (fn := Tryd.f25) Tryd.func25 rfl ?_
 refine W.rg [(0, v1), (1, v2)] fun TA => ?_
 refine W.seq (W.region ?_)
 refine RW.v ?_
 refine RW.nil ?_
 refine W.rg [(0, v1), (1, v2)] fun TA => ?_
 refine W.seq (W.region ?_)
 refine RW.v ?_
 refine RW.len (by kernel_rfl) (by kernel_rfl) rfl rfl rfl rfl (h1.len (e := 79) (by kernel_rfl)) (by kernel_rfl) ?_
 refine RW.v ?_
 refine RW.len (by kernel_rfl) (by kernel_rfl) rfl rfl rfl rfl (h2.len (e := 79) (by kernel_rfl)) (by kernel_rfl) ?_
 refine RW.valE (v' := .bool true) (by kernel_rfl) (by kernel_rfl) rfl (congrArg Value.bool (beq_iff_eq.2 (by rfl))) (by kernel_rfl) ?_
 refine RW.v ?_
 refine RW.nil ?_
 refine W.rg [(0, v1), (1, v2), (5, .bool true)] fun TA => ?_
 refine W.seq ?_
 refine W.seq (W.region ?_)
 refine RW.v ?_
 refine RW.nil ?_
 refine W.rg [(0, v1), (1, v2), (5, .bool true), (6, .int .i64 0)] fun TA => ?_
 refine W.block ?_
 refine W.loop (fun mm ta σ => ∃ (i : Nat), (mm + i = l.length) ∧ Lies G A F σ ((L)) ∧ ta 0 = v1 ∧ ta 1 = v2 ∧ ta 5 = .bool true ∧ ta 6 = .int .i64 ((i : Nat) : Int)) l.length ?_ ?_
 ·exact ⟨0, (by omega), H, rfl, rfl, rfl, rfl⟩
 clear H
 rintro mm ta _ ⟨i, hm, H, e0, e1, e5, e6⟩
 refine W.rst [(0, v1), (1, v2), (5, .bool true), (6, .int .i64 ((i : Nat) : Int))] ⟨e0, e1, e5, e6, trivial⟩ fun TA => ?_
 clear e0 e1 e5 e6
 refine W.seq ?_
 refine W.seq (W.region ?_)
 iterate 2 refine RW.v ?_
 iterate 2 refine RW.w ?_
 refine RW.len (by rfl) (by kernel_rfl) rfl rfl rfl rfl (h1.len (e := 79) (by kernel_rfl)) (by kernel_rfl) ?_
 refine RW.w ?_
 refine RW.v ?_
 refine RW.nil ?_
 refine W.rg [(0, v1), (1, v2), (5, .bool true), (6, .int .i64 ((i : Nat) : Int)), (18, .bool (decide (((i : Nat) : Int) < (l.length : Int))))] fun TA => ?_
 refine W.cond rfl (fun hc1 => ?_) (fun hc1 => ?_)
 ·have hc1b := hc1
  have hc1 := of_decide_eq_true hc1
  refine W.skip ?_
  refine W.seq ?_
  refine W.block ?_
  refine W.drawn (by kernel_rfl) (by kernel_rfl) H.gn ?_
  have H2 := H
  iterate 2 refine RW.v ?_
  refine RW.idxF h1 (by kernel_rfl) (by kernel_rfl) rfl Tryd.underlying36 (by kernel_rfl) rfl rfl ⟨by omega, by omega⟩ (by kernel_rfl) ?_
  intro b3 q4 r5 hF6 hE7
  rw [cC_ati (l := l) (j := i) (by omega)] at hE7
  refine RW.loads 6 (by kernel_rfl) (by kernel_rfl) rfl rfl (H2.old _ _ hF6) hE7 rfl (by kernel_rfl) ?_
  iterate 2 refine RW.v ?_
  refine RW.idxF h2 (by kernel_rfl) (by kernel_rfl) rfl Tryd.underlying36 (by kernel_rfl) rfl rfl ⟨by omega, by omega⟩ (by kernel_rfl) ?_
  intro b8 q9 r10 hF11 hE12
  rw [cC_ati (l := l) (j := i) (by omega)] at hE12
  refine RW.loads 6 (by kernel_rfl) (by kernel_rfl) rfl rfl (H2.old _ _ hF11) hE12 rfl (by kernel_rfl) ?_
  refine RW.vop (v := .bool true) (by kernel_rfl) (by kernel_rfl) (vop_eqS (b := true) (r := true) rfl (.inl ⟨rfl, rfl⟩) rfl rfl rfl rfl (by kernel_rfl) (fun w => eqCell _ _ _ _ _ _ w)) (by kernel_rfl) ?_
  refine RW.v ?_
  refine RW.nil ?_
  refine ⟨⟨by kernel_rfl, ⟨trivial, trivial, trivial, dyn_row (H2.old _ _ hF6) (H2.old _ _ hF6) ⟨nB, nB, nB, nB, nB, nB, nB, nB, nB, nB, trivial⟩, trivial, trivial, trivial, dyn_row (H2.old _ _ hF11) (H2.old _ _ hF11) ⟨nB, nB, nB, nB, nB, nB, nB, nB, nB, nB, trivial⟩, trivial, trivial, trivial⟩⟩, ?_⟩
  replace H := H2
  clear H2
  refine blkQ_normal ?_
  refine W.rg [(0, v1), (1, v2), (5, .bool true), (6, .int .i64 ((i : Nat) : Int))] fun TA => ?_
  refine W.region ?_
  refine RW.v ?_
  refine RW.valE (v' := .int .i64 (((i : Nat) : Int) + 1)) (by kernel_rfl) (by kernel_rfl) rfl (congrArg (Value.int .i64) (wrap_in (by omega) (by omega))) (by kernel_rfl) ?_
  refine RW.v ?_
  refine RW.nil ?_
  exact ⟨rfl, mm - 1, by omega, i + 1, (by omega), H, rfl, rfl, rfl, rfl⟩
 ·have hc1b := hc1
  have hc1 := of_decide_eq_false hc1
  refine W.exit _ ?_
  refine seqQ_exit ?_
  refine rndQ_exit ?_
  refine blkQ_here ?_
  refine W.seq (W.region ?_)
  iterate 2 refine RW.v ?_
  refine RW.nil ?_
  refine W.ret ?_
  refine endG (by rfl) (by exact resL_tmp rfl) ?_
  exact ⟨rfl, H⟩
set_option maxHeartbeats 8000000 in
theorem same_rows {l : List RowV} {cs ps cs' ps' : List Value} {v1 v2 : Value} (h1 : SlF F 5 v1 l.length (rowsV cs ps l)) (a1 : AllRow F cs ps l) (h2 : SlF F 5 v2 l.length (rowsV cs' ps' l)) (a2 : AllRow F cs' ps' l) (hl : l.length ≤ 1000000) (hsm : ∀ r ∈ l, r.C.length ≤ 1000000 ∧ r.P.length ≤ 1000000) (H : Lies G A F σ L) : WC G Tryd.prog 15 #[v1, v2] σ fun v σ' => v = .bool true ∧ Lies G A F σ' L := by
 refine WC.enter (fn := Tryd.f15) Tryd.func15 rfl ?_
 refine W.rg [(0, v1), (1, v2)] fun TA => ?_
 refine W.seq (W.region ?_)
 refine RW.v ?_
 refine RW.nil ?_
 refine W.rg [(0, v1), (1, v2)] fun TA => ?_
 refine W.seq (W.region ?_)
 refine RW.v ?_
 refine RW.len (by kernel_rfl) (by kernel_rfl) rfl rfl rfl rfl (h1.len (e := 39) (by kernel_rfl)) (by kernel_rfl) ?_
 refine RW.v ?_
 refine RW.len (by kernel_rfl) (by kernel_rfl) rfl rfl rfl rfl (h2.len (e := 39) (by kernel_rfl)) (by kernel_rfl) ?_
 refine RW.valE (v' := .bool true) (by kernel_rfl) (by kernel_rfl) rfl (congrArg Value.bool (beq_iff_eq.2 (by rfl))) (by kernel_rfl) ?_
 refine RW.v ?_
 refine RW.nil ?_
 refine W.rg [(0, v1), (1, v2), (5, .bool true)] fun TA => ?_
 refine W.seq ?_
 refine W.seq (W.region ?_)
 refine RW.v ?_
 refine RW.nil ?_
 refine W.rg [(0, v1), (1, v2), (5, .bool true), (6, .int .i64 0)] fun TA => ?_
 refine W.block ?_
 refine W.loop (fun mm ta σ => ∃ (i : Nat), (mm + i = l.length) ∧ Lies G A F σ ((L)) ∧ ta 0 = v1 ∧ ta 1 = v2 ∧ ta 5 = .bool true ∧ ta 6 = .int .i64 ((i : Nat) : Int)) l.length ?_ ?_
 ·exact ⟨0, (by omega), H, rfl, rfl, rfl, rfl⟩
 clear H
 rintro mm ta _ ⟨i, hm, H, e0, e1, e5, e6⟩
 refine W.rst [(0, v1), (1, v2), (5, .bool true), (6, .int .i64 ((i : Nat) : Int))] ⟨e0, e1, e5, e6, trivial⟩ fun TA => ?_
 clear e0 e1 e5 e6
 refine W.seq ?_
 refine W.seq (W.region ?_)
 iterate 2 refine RW.v ?_
 iterate 2 refine RW.w ?_
 refine RW.len (by rfl) (by kernel_rfl) rfl rfl rfl rfl (h1.len (e := 39) (by kernel_rfl)) (by kernel_rfl) ?_
 refine RW.w ?_
 refine RW.v ?_
 refine RW.nil ?_
 refine W.rg [(0, v1), (1, v2), (5, .bool true), (6, .int .i64 ((i : Nat) : Int)), (18, .bool (decide (((i : Nat) : Int) < (l.length : Int))))] fun TA => ?_
 refine W.cond rfl (fun hc1 => ?_) (fun hc1 => ?_)
 ·have hc1b := hc1
  have hc1 := of_decide_eq_true hc1
  refine W.skip ?_
  refine W.seq ?_
  refine W.block ?_
  refine W.drawn (by kernel_rfl) (by kernel_rfl) H.gn ?_
  have H2 := H
  iterate 2 refine RW.v ?_
  refine RW.idxF h1 (by kernel_rfl) (by kernel_rfl) rfl Tryd.underlying27 (by kernel_rfl) rfl rfl ⟨by omega, by omega⟩ (by kernel_rfl) ?_
  intro b3 q4 r5 hF6 hE7
  rw [rowsV_ati (l := l) (j := i) a1.1 a1.2.1 (by omega)] at hE7
  refine RW.v ?_
  refine RW.loads 1 (by kernel_rfl) (by kernel_rfl) rfl rfl (H2.old _ _ hF6) (sub_take hE7 0 1 (by decide)) rfl (by kernel_rfl) ?_
  iterate 2 refine RW.v ?_
  refine RW.idxF h2 (by kernel_rfl) (by kernel_rfl) rfl Tryd.underlying27 (by kernel_rfl) rfl rfl ⟨by omega, by omega⟩ (by kernel_rfl) ?_
  intro b8 q9 r10 hF11 hE12
  rw [rowsV_ati (l := l) (j := i) a2.1 a2.2.1 (by omega)] at hE12
  refine RW.v ?_
  refine RW.loads 1 (by kernel_rfl) (by kernel_rfl) rfl rfl (H2.old _ _ hF11) (sub_take hE12 0 1 (by decide)) rfl (by kernel_rfl) ?_
  have hz := hsm _ (rowD_mem (l := l) (j := i) (by omega))
  refine RW.cl ?_
  refine ((same_cells (a1.2.2 i (by omega)).1 (a2.2.2 i (by omega)).1 (by omega) H2).mono ?_)
  rintro _ _ ⟨rfl, H13⟩
  refine RW.v ?_
  iterate 2 refine RW.w ?_
  refine RW.idxF h1 (by rfl) (by kernel_rfl) rfl Tryd.underlying27 (by kernel_rfl) rfl rfl ⟨by omega, by omega⟩ (by kernel_rfl) ?_
  intro b14 q15 r16 hF17 hE18
  rw [rowsV_ati (l := l) (j := i) a1.1 a1.2.1 (by omega)] at hE18
  refine RW.w ?_
  refine RW.loads 1 (by rfl) (by kernel_rfl) rfl rfl (H13.old _ _ hF17) (sub_take hE18 1 1 (by decide)) rfl (by kernel_rfl) ?_
  iterate 2 refine RW.w ?_
  refine RW.idxF h2 (by rfl) (by kernel_rfl) rfl Tryd.underlying27 (by kernel_rfl) rfl rfl ⟨by omega, by omega⟩ (by kernel_rfl) ?_
  intro b19 q20 r21 hF22 hE23
  rw [rowsV_ati (l := l) (j := i) a2.1 a2.2.1 (by omega)] at hE23
  refine RW.w ?_
  refine RW.loads 1 (by rfl) (by kernel_rfl) rfl rfl (H13.old _ _ hF22) (sub_take hE23 1 1 (by decide)) rfl (by kernel_rfl) ?_
  refine RW.cl (hw := by rfl) ?_
  refine ((same_ints (a1.2.2 i (by omega)).2 (a2.2.2 i (by omega)).2 (by omega) H13).mono ?_)
  rintro _ _ ⟨rfl, H24⟩
  iterate 2 refine RW.v ?_
  iterate 2 refine RW.w ?_
  refine RW.idxF h1 (by rfl) (by kernel_rfl) rfl Tryd.underlying27 (by kernel_rfl) rfl rfl ⟨by omega, by omega⟩ (by kernel_rfl) ?_
  intro b25 q26 r27 hF28 hE29
  rw [rowsV_ati (l := l) (j := i) a1.1 a1.2.1 (by omega)] at hE29
  refine RW.w ?_
  refine RW.loads 1 (by rfl) (by kernel_rfl) rfl rfl (H24.old _ _ hF28) (sub_take hE29 2 1 (by decide)) rfl (by kernel_rfl) ?_
  iterate 2 refine RW.w ?_
  refine RW.idxF h2 (by rfl) (by kernel_rfl) rfl Tryd.underlying27 (by kernel_rfl) rfl rfl ⟨by omega, by omega⟩ (by kernel_rfl) ?_
  intro b30 q31 r32 hF33 hE34
  rw [rowsV_ati (l := l) (j := i) a2.1 a2.2.1 (by omega)] at hE34
  refine RW.w ?_
  refine RW.loads 1 (by rfl) (by kernel_rfl) rfl rfl (H24.old _ _ hF33) (sub_take hE34 2 1 (by decide)) rfl (by kernel_rfl) ?_
  refine RW.valE (v' := .bool true) (by rfl) (by kernel_rfl) rfl (congrArg Value.bool (beq_iff_eq.2 (by rfl))) (by kernel_rfl) ?_
  iterate 2 refine RW.v ?_
  iterate 2 refine RW.w ?_
  refine RW.idxF h1 (by rfl) (by kernel_rfl) rfl Tryd.underlying27 (by kernel_rfl) rfl rfl ⟨by omega, by omega⟩ (by kernel_rfl) ?_
  intro b35 q36 r37 hF38 hE39
  rw [rowsV_ati (l := l) (j := i) a1.1 a1.2.1 (by omega)] at hE39
  refine RW.w ?_
  refine RW.loads 1 (by rfl) (by kernel_rfl) rfl rfl (H24.old _ _ hF38) (sub_take hE39 3 1 (by decide)) rfl (by kernel_rfl) ?_
  iterate 2 refine RW.w ?_
  refine RW.idxF h2 (by rfl) (by kernel_rfl) rfl Tryd.underlying27 (by kernel_rfl) rfl rfl ⟨by omega, by omega⟩ (by kernel_rfl) ?_
  intro b40 q41 r42 hF43 hE44
  rw [rowsV_ati (l := l) (j := i) a2.1 a2.2.1 (by omega)] at hE44
  refine RW.w ?_
  refine RW.loads 1 (by rfl) (by kernel_rfl) rfl rfl (H24.old _ _ hF43) (sub_take hE44 3 1 (by decide)) rfl (by kernel_rfl) ?_
  refine RW.valE (v' := .bool true) (by rfl) (by kernel_rfl) rfl (congrArg Value.bool (beq_iff_eq.2 (by rfl))) (by kernel_rfl) ?_
  iterate 2 refine RW.v ?_
  iterate 2 refine RW.w ?_
  refine RW.idxF h1 (by rfl) (by kernel_rfl) rfl Tryd.underlying27 (by kernel_rfl) rfl rfl ⟨by omega, by omega⟩ (by kernel_rfl) ?_
  intro b45 q46 r47 hF48 hE49
  rw [rowsV_ati (l := l) (j := i) a1.1 a1.2.1 (by omega)] at hE49
  refine RW.w ?_
  refine RW.loads 1 (by rfl) (by kernel_rfl) rfl rfl (H24.old _ _ hF48) (sub_take hE49 4 1 (by decide)) rfl (by kernel_rfl) ?_
  iterate 2 refine RW.w ?_
  refine RW.idxF h2 (by rfl) (by kernel_rfl) rfl Tryd.underlying27 (by kernel_rfl) rfl rfl ⟨by omega, by omega⟩ (by kernel_rfl) ?_
  intro b50 q51 r52 hF53 hE54
  rw [rowsV_ati (l := l) (j := i) a2.1 a2.2.1 (by omega)] at hE54
  refine RW.w ?_
  refine RW.loads 1 (by rfl) (by kernel_rfl) rfl rfl (H24.old _ _ hF53) (sub_take hE54 4 1 (by decide)) rfl (by kernel_rfl) ?_
  refine RW.valE (v' := .bool true) (by rfl) (by kernel_rfl) rfl (by cases (l.getD i default).co <;> rfl) (by kernel_rfl) ?_
  iterate 2 refine RW.v ?_
  refine RW.nil ?_
  refine ⟨⟨by kernel_rfl, ⟨trivial, trivial, trivial, trivial, dyn_row (H2.old _ _ hF6) (H24.old _ _ hF6) ⟨nB, nB, nB, nB, nB, nB, nB, nB, nB, nB, fun _ => H2.old _ _ hF6, nB, nB, nB, nB, nB, nB, nB, nB, nB, nB, nB, fun _ => H13.old _ _ hF6, nB, nB, nB, nB, nB, nB, nB, nB, nB, nB, nB, nB, nB, nB, nB, nB, nB, nB, nB, nB, nB, nB, nB, nB, nB, nB, nB, nB, nB, nB, nB, nB, nB, nB, nB, nB, nB, nB, nB, nB, nB, trivial⟩, trivial, trivial, trivial, trivial, dyn_row (H2.old _ _ hF11) (H24.old _ _ hF11) ⟨nB, nB, nB, nB, nB, nB, nB, nB, nB, nB, fun _ => H2.old _ _ hF11, nB, nB, nB, nB, nB, nB, nB, nB, nB, nB, nB, fun _ => H13.old _ _ hF11, nB, nB, nB, nB, nB, nB, nB, nB, nB, nB, nB, nB, nB, nB, nB, nB, nB, nB, nB, nB, nB, nB, nB, nB, nB, nB, nB, nB, nB, nB, nB, nB, nB, nB, nB, nB, nB, nB, nB, nB, nB, trivial⟩, trivial, trivial, trivial, trivial, trivial, trivial, dyn_row (H13.old _ _ hF17) (H24.old _ _ hF17) ⟨nB, nB, nB, nB, nB, nB, nB, nB, nB, nB, fun _ => H2.old _ _ hF17, nB, nB, nB, nB, nB, nB, nB, nB, nB, nB, nB, fun _ => H13.old _ _ hF17, nB, nB, nB, nB, nB, nB, nB, nB, nB, nB, nB, nB, nB, nB, nB, nB, nB, nB, nB, nB, nB, nB, nB, nB, nB, nB, nB, nB, nB, nB, nB, nB, nB, nB, nB, nB, nB, nB, nB, nB, nB, trivial⟩, trivial, trivial, trivial, trivial, dyn_row (H13.old _ _ hF22) (H24.old _ _ hF22) ⟨nB, nB, nB, nB, nB, nB, nB, nB, nB, nB, fun _ => H2.old _ _ hF22, nB, nB, nB, nB, nB, nB, nB, nB, nB, nB, nB, fun _ => H13.old _ _ hF22, nB, nB, nB, nB, nB, nB, nB, nB, nB, nB, nB, nB, nB, nB, nB, nB, nB, nB, nB, nB, nB, nB, nB, nB, nB, nB, nB, nB, nB, nB, nB, nB, nB, nB, nB, nB, nB, nB, nB, nB, nB, trivial⟩, trivial, trivial, trivial, trivial, trivial, trivial, trivial, dyn_row (H24.old _ _ hF28) (H24.old _ _ hF28) ⟨nB, nB, nB, nB, nB, nB, nB, nB, nB, nB, fun _ => H2.old _ _ hF28, nB, nB, nB, nB, nB, nB, nB, nB, nB, nB, nB, fun _ => H13.old _ _ hF28, nB, nB, nB, nB, nB, nB, nB, nB, nB, nB, nB, nB, nB, nB, nB, nB, nB, nB, nB, nB, nB, nB, nB, nB, nB, nB, nB, nB, nB, nB, nB, nB, nB, nB, nB, nB, nB, nB, nB, nB, nB, trivial⟩, trivial, trivial, trivial, trivial, dyn_row (H24.old _ _ hF33) (H24.old _ _ hF33) ⟨nB, nB, nB, nB, nB, nB, nB, nB, nB, nB, fun _ => H2.old _ _ hF33, nB, nB, nB, nB, nB, nB, nB, nB, nB, nB, nB, fun _ => H13.old _ _ hF33, nB, nB, nB, nB, nB, nB, nB, nB, nB, nB, nB, nB, nB, nB, nB, nB, nB, nB, nB, nB, nB, nB, nB, nB, nB, nB, nB, nB, nB, nB, nB, nB, nB, nB, nB, nB, nB, nB, nB, nB, nB, trivial⟩, trivial, trivial, trivial, trivial, trivial, trivial, trivial, dyn_row (H24.old _ _ hF38) (H24.old _ _ hF38) ⟨nB, nB, nB, nB, nB, nB, nB, nB, nB, nB, fun _ => H2.old _ _ hF38, nB, nB, nB, nB, nB, nB, nB, nB, nB, nB, nB, fun _ => H13.old _ _ hF38, nB, nB, nB, nB, nB, nB, nB, nB, nB, nB, nB, nB, nB, nB, nB, nB, nB, nB, nB, nB, nB, nB, nB, nB, nB, nB, nB, nB, nB, nB, nB, nB, nB, nB, nB, nB, nB, nB, nB, nB, nB, trivial⟩, trivial, trivial, trivial, trivial, dyn_row (H24.old _ _ hF43) (H24.old _ _ hF43) ⟨nB, nB, nB, nB, nB, nB, nB, nB, nB, nB, fun _ => H2.old _ _ hF43, nB, nB, nB, nB, nB, nB, nB, nB, nB, nB, nB, fun _ => H13.old _ _ hF43, nB, nB, nB, nB, nB, nB, nB, nB, nB, nB, nB, nB, nB, nB, nB, nB, nB, nB, nB, nB, nB, nB, nB, nB, nB, nB, nB, nB, nB, nB, nB, nB, nB, nB, nB, nB, nB, nB, nB, nB, nB, trivial⟩, trivial, trivial, trivial, trivial, trivial, trivial, trivial, dyn_row (H24.old _ _ hF48) (H24.old _ _ hF48) ⟨nB, nB, nB, nB, nB, nB, nB, nB, nB, nB, fun _ => H2.old _ _ hF48, nB, nB, nB, nB, nB, nB, nB, nB, nB, nB, nB, fun _ => H13.old _ _ hF48, nB, nB, nB, nB, nB, nB, nB, nB, nB, nB, nB, nB, nB, nB, nB, nB, nB, nB, nB, nB, nB, nB, nB, nB, nB, nB, nB, nB, nB, nB, nB, nB, nB, nB, nB, nB, nB, nB, nB, nB, nB, trivial⟩, trivial, trivial, trivial, trivial, dyn_row (H24.old _ _ hF53) (H24.old _ _ hF53) ⟨nB, nB, nB, nB, nB, nB, nB, nB, nB, nB, fun _ => H2.old _ _ hF53, nB, nB, nB, nB, nB, nB, nB, nB, nB, nB, nB, fun _ => H13.old _ _ hF53, nB, nB, nB, nB, nB, nB, nB, nB, nB, nB, nB, nB, nB, nB, nB, nB, nB, nB, nB, nB, nB, nB, nB, nB, nB, nB, nB, nB, nB, nB, nB, nB, nB, nB, nB, nB, nB, nB, nB, nB, nB, trivial⟩, trivial, trivial, trivial, trivial⟩⟩, ?_⟩
  replace H := H24
  clear H2 H13 H24
  refine blkQ_normal ?_
  refine W.rg [(0, v1), (1, v2), (5, .bool true), (6, .int .i64 ((i : Nat) : Int))] fun TA => ?_
  refine W.region ?_
  refine RW.v ?_
  refine RW.valE (v' := .int .i64 (((i : Nat) : Int) + 1)) (by kernel_rfl) (by kernel_rfl) rfl (congrArg (Value.int .i64) (wrap_in (by omega) (by omega))) (by kernel_rfl) ?_
  refine RW.v ?_
  refine RW.nil ?_
  exact ⟨rfl, mm - 1, by omega, i + 1, (by omega), H, rfl, rfl, rfl, rfl⟩
 ·have hc1b := hc1
  have hc1 := of_decide_eq_false hc1
  refine W.exit _ ?_
  refine seqQ_exit ?_
  refine rndQ_exit ?_
  refine blkQ_here ?_
  refine W.seq (W.region ?_)
  iterate 2 refine RW.v ?_
  refine RW.nil ?_
  refine W.ret ?_
  refine endG (by rfl) (by exact resL_tmp rfl) ?_
  exact ⟨rfl, H⟩
end
end Go.Proofs.YtmmapljeeccdnaaDoor
namespace Go.Proofs.YtmmapljeeccdnaaDoor
set_option maxRecDepth 100000
def blk : Cel := ⟨32, 0, 0, false, false, false⟩
theorem blank_cC : ∀ n, zerosN [.int .i64 32, .int .i64 0, .int .i64 0, .bool false, .bool false, .bool false] n = cC (List.replicate n blk)
 | 0 => rfl
 | n + 1 => by
  show _ ++ _ = _
  rw [blank_cC n]
  rfl
theorem blank_snoc {n : Nat} : cC (List.replicate n blk) ++ [.int .i64 32, .int .i64 0, .int .i64 0, .bool false, .bool false, .bool false] = cC (List.replicate (n + 1) blk) := by
 rw [← blank_cC, ← blank_cC, zerosN_add, zerosN_one]
section
variable {G : Nat} {A : Abs} {σ : Mem} {F : Nat → Option Blk2} {L : List Ent}
open Go.RowKit in
theorem s_mul1 {k : Nat} (hk : k ≤ 1000000) : SCall G Tryd.prog 63 #[.int .u64 ((1 : Nat) : Int), .int .u64 ((k : Nat) : Int)] σ (.tuple #[.int .u64 0, .int .u64 ((k : Nat) : Int)]) σ := by
 have := below_call (G := G) (σ := σ) rfl rfl fun w => (Tryd.bits_Mul 1 k (by omega) (by omega) w).mono fun e w' ⟨k1, k2⟩ => ⟨k1, k2 ▸ Below.refl _ _⟩
 rw [Nat.one_mul, Nat.div_eq_of_lt (by omega), Nat.mod_eq_of_lt (by omega)] at this
 exact this
set_option maxHeartbeats 4000000 in
theorem repeat_cell {k : Nat} {v : Value} (hs : SlF F 6 v 1 [.int .i64 32, .int .i64 0, .int .i64 0, .bool false, .bool false, .bool false]) (hk : 0 < k) (hk2 : k ≤ 1000000) (H : Lies G A F σ L) : WC G Tryd.prog 48 #[v, .int .i64 ((k : Nat) : Int)] σ fun r σ' => ∃ b, r = .slice (some ⟨b, 0, none⟩) k k ∧ Lies G A F σ' (.at_ b (.row ⟨zerosN [.int .i64 32, .int .i64 0, .int .i64 0, .bool false, .bool false, .bool false] k, 79, false⟩) :: L) := by
 refine WC.enter (fn := Tryd.f48) Tryd.func48 rfl ?_
 refine W.rg [(0, v), (1, .int .i64 ((k : Nat) : Int))] fun TA => ?_
 refine W.seq (W.region ?_)
 refine RW.v ?_
 refine RW.nil ?_
 refine W.rg [(0, v), (1, .int .i64 ((k : Nat) : Int))] fun TA => ?_
 refine W.seq ?_
 refine W.seq (W.region ?_)
 refine RW.v ?_
 refine RW.valE (v' := .bool false) (by kernel_rfl) (by kernel_rfl) rfl (congrArg Value.bool (decide_eq_false (by omega))) (by kernel_rfl) ?_
 refine RW.nil ?_
 refine W.c0 ?_
 refine W.skip ?_
 refine W.seq (W.region ?_)
 refine RW.v ?_
 refine RW.len (by kernel_rfl) (by kernel_rfl) rfl rfl rfl rfl (hs.len (e := 79) (by kernel_rfl)) (by kernel_rfl) ?_
 refine RW.valE (v' := .int .u64 (1 : Int)) (by kernel_rfl) (by kernel_rfl) rfl (congrArg (Value.int .u64) (wrap_u (by omega) (by omega))) (by kernel_rfl) ?_
 refine RW.v ?_
 refine RW.valE (v' := .int .u64 ((k : Nat) : Int)) (by kernel_rfl) (by kernel_rfl) rfl (congrArg (Value.int .u64) (wrap_u (by omega) (by omega))) (by kernel_rfl) ?_
 refine RW.cl ?_
 refine ⟨_, _, (s_mul1 (k := k) (by omega)), ?_⟩
 iterate 5 refine RW.v ?_
 refine RW.nil ?_
 refine W.rg [(0, v), (5, .int .u64 0), (6, .int .u64 ((k : Nat) : Int))] fun TA => ?_
 refine W.seq ?_
 refine W.seq (W.region ?_)
 iterate 3 refine RW.v ?_
 refine RW.w ?_
 refine RW.valE (v' := .bool false) (by rfl) (by kernel_rfl) rfl (congrArg Value.bool (decide_eq_false (by omega))) (by kernel_rfl) ?_
 refine RW.v ?_
 refine RW.nil ?_
 refine W.c0 ?_
 refine W.skip ?_
 refine W.seq (W.region ?_)
 refine RW.v ?_
 refine RW.valE (v' := .int .i64 ((k : Nat) : Int)) (by kernel_rfl) (by kernel_rfl) rfl (congrArg (Value.int .i64) (wrap_in (by omega) (by omega))) (by kernel_rfl) ?_
 refine RW.mkB H (e := 79) (n := k) (s := 6) (zs := [.int .i64 0, .int .i64 0, .int .i64 0, .bool false, .bool false, .bool false]) (z := .agg #[.int .i64 0, .int .i64 0, .int .i64 0, .bool false, .bool false, .bool false]) (by kernel_rfl) (by kernel_rfl) rfl rfl rfl (by kernel_rfl) (by kernel_rfl) (by decide) (by kernel_rfl) (by kernel_rfl) rfl (by omega) (by kernel_rfl) rfl ?_
 clear H; intro _ b H
 refine RW.v ?_
 refine RW.nil ?_
 refine W.rg [(0, v), (7, .slice (some ⟨b, 0, none⟩) k k)] fun TA => ?_
 refine W.seq (W.region ?_)
 iterate 2 refine RW.v ?_
 refine RW.cpy H 0 (e := 79) (s := 6) (q := 1) (by kernel_rfl) (by kernel_rfl) rfl rfl rfl rfl rfl rfl rfl (by kernel_rfl) (by kernel_rfl) (slf_src hs (by decide) H.old) (Nat.min_eq_left hk) (by decide) (by rw [zerosN_len]; show 0 + 6 ≤ k * 6; omega) rfl (rowB_start (s := 6) rfl rfl hk) (by kernel_rfl) ?_
 clear H; intro _ H
 dsimp only [setL, delL] at H
 refine RW.v ?_
 refine RW.nil ?_
 refine W.rg [(7, .slice (some ⟨b, 0, none⟩) k k), (8, .int .i64 ((1 : Nat) : Int))] fun TA => ?_
 refine W.seq ?_
 refine W.block ?_
 refine W.loop (fun mm ta σ => ∃ (m : Nat), (mm + m = k) ∧ (0 < m) ∧ (m ≤ k) ∧ Lies G A F σ (.at_ b (.row ⟨rowB [.int .i64 32, .int .i64 0, .int .i64 0, .bool false, .bool false, .bool false] [.int .i64 0, .int .i64 0, .int .i64 0, .bool false, .bool false, .bool false] k m, 79, false⟩) :: (L)) ∧ ta 7 = .slice (some ⟨b, 0, none⟩) k k ∧ ta 8 = .int .i64 ((m : Nat) : Int)) (k - 1) ?_ ?_
 ·exact ⟨1, (by omega), (by omega), hk, H, rfl, rfl⟩
 clear H
 rintro mm ta _ ⟨m, hm, hm0, hmN, H, e7, e8⟩
 refine W.rst [(7, .slice (some ⟨b, 0, none⟩) k k), (8, .int .i64 ((m : Nat) : Int))] ⟨e7, e8, trivial⟩ fun TA => ?_
 clear e7 e8
 refine W.seq ?_
 refine W.seq (W.region ?_)
 iterate 4 refine RW.v ?_
 refine RW.nil ?_
 refine W.rg [(7, .slice (some ⟨b, 0, none⟩) k k), (8, .int .i64 ((m : Nat) : Int)), (37, .bool (decide (((m : Nat) : Int) < ((k : Nat) : Int))))] fun TA => ?_
 refine W.cond rfl (fun hc1 => ?_) (fun hc1 => ?_)
 ·have hc1b := hc1
  have hc1 := of_decide_eq_true hc1
  refine W.skip ?_
  refine W.block ?_
  refine W.drawn (by kernel_rfl) (by kernel_rfl) H.gn ?_
  have H2 := H
  iterate 3 refine RW.v ?_
  have hlt : m < k := by omega
  refine RW.vop (v := .slice (some ⟨b, m * 6, none⟩) (k - m) (k - m)) (by kernel_rfl) (by kernel_rfl) (vop_slice rfl (slice_fromB (e := 79) (s := 6) hlt (by kernel_rfl) (by kernel_rfl))) (by kernel_rfl) ?_
  iterate 2 refine RW.v ?_
  refine RW.vop (v := .slice (some ⟨b, 0, none⟩) m k) (by kernel_rfl) (by kernel_rfl) (vop_slice rfl (slice_toB (e := 79) (s := 6) hmN (by kernel_rfl) (by kernel_rfl) (by omega))) (by kernel_rfl) ?_
  have hrl : (rowB [.int .i64 32, .int .i64 0, .int .i64 0, .bool false, .bool false, .bool false] [.int .i64 0, .int .i64 0, .int .i64 0, .bool false, .bool false, .bool false] k m).length = k * 6 := rowB_len (s := 6) rfl rfl hmN
  refine RW.cpy H2 0 (e := 79) (s := 6) (n := m) (xs := ((rowB [.int .i64 32, .int .i64 0, .int .i64 0, .bool false, .bool false, .bool false] [.int .i64 0, .int .i64 0, .int .i64 0, .bool false, .bool false, .bool false] k m).drop 0).take (m * 6)) (q := (min m (k - m))) (by kernel_rfl) (by kernel_rfl) rfl rfl rfl rfl rfl rfl rfl (by kernel_rfl) (by kernel_rfl) (src_rowB (H2.get 0 rfl) (by omega) (by rw [hrl]; omega)) rfl (by omega) (by rw [List.length_take, List.length_take, List.drop_zero, hrl]; omega) (rowB_ones' rfl rfl _ _ _) (rowB_next (s := 6) rfl rfl (by omega) (by omega)) (by kernel_rfl) ?_
  intro _ H3
  dsimp only [setL, delL] at H3
  refine RW.valE (v' := .int .i64 ((m + min m (k - m) : Nat) : Int)) (by kernel_rfl) (by kernel_rfl) rfl (congrArg (Value.int .i64) ((wrap_in (by omega) (by omega)).trans (by omega))) (by kernel_rfl) ?_
  refine RW.v ?_
  refine RW.nil ?_
  refine ⟨⟨by kernel_rfl, ⟨trivial, trivial, trivial, trivial, trivial, trivial, trivial, trivial, trivial, trivial, trivial⟩⟩, ?_⟩
  replace H := H3
  clear H2 H3
  refine blkQ_normal ?_
  exact ⟨rfl, mm - (min m (k - m)), by omega, m + min m (k - m), (by omega), (by omega), (by omega), H, rfl, rfl⟩
 ·have hc1b := hc1
  have hc1 := of_decide_eq_false hc1
  refine W.exit _ ?_
  refine seqQ_exit ?_
  refine rndQ_exit ?_
  refine blkQ_here ?_
  refine W.seq (W.region ?_)
  iterate 2 refine RW.v ?_
  refine RW.nil ?_
  refine W.ret ?_
  refine endG (by rfl) (by exact resL_tmp rfl) ?_
  obtain rfl : m = k := by omega
  rw [rowB_full] at H
  exact ⟨_, rfl, H⟩
variable {width : Int}
end
end Go.Proofs.YtmmapljeeccdnaaDoor
namespace Go.Proofs.YtmmapljeeccdnaaDoor
set_option maxRecDepth 100000
theorem rowsV_app : ∀ {cs ps : List Value} {l : List RowV} (c p : Value) (r : RowV), cs.length = l.length → ps.length = l.length → rowsV (cs ++ [c]) (ps ++ [p]) (l ++ [r]) = rowsV cs ps l ++ [c, p, .int .i64 r.fr, .int .i64 r.to, .bool r.co]
 | [], [], [], _, _, _, _, _ => rfl
 | a :: cs, b :: ps, x :: l, c, p, r, h1, h2 => by
  show a :: b :: _ :: _ :: _ :: rowsV (cs ++ [c]) (ps ++ [p]) (l ++ [r]) = a :: b :: _ :: _ :: _ :: (rowsV cs ps l ++ _)
  rw [rowsV_app (l := l) c p r (by simpa using h1) (by simpa using h2)]
 | [], _ :: _, l, _, _, _, h1, h2 => by cases l <;> simp at h1 h2
 | _ :: _, [], l, _, _, _, h1, h2 => by cases l <;> simp at h1 h2
theorem getD_left {α : Type} {a b : List α} {j : Nat} {d : α} (h : j < a.length) : (a ++ b).getD j d = a.getD j d := by
 rw [List.getD_eq_getElem?_getD, List.getElem?_append_left h, ← List.getD_eq_getElem?_getD]
theorem getD_last {α : Type} {a : List α} {j : Nat} {x d : α} (h : j = a.length) : (a ++ [x]).getD j d = x := by
 subst h
 simp
theorem takeR {l : List RowV} {i : Nat} (h : i < l.length) : l.take (i + 1) = l.take i ++ [l.getD i default] := by
 rw [List.take_add_one, List.getD_eq_getElem?_getD, List.getElem?_eq_getElem h]
 rfl
theorem AllRow.snoc {F : Nat → Option Blk2} {l : List RowV} {i : Nat} {cs ps : List Value} {c p : Value} (a : AllRow F cs ps (l.take i)) (h : i < l.length) (h1 : SlF F 6 c (l.getD i default).C.length (cC (l.getD i default).C)) (h2 : SlF F 1 p (l.getD i default).P.length ((l.getD i default).P.map (Value.int .i64))) : AllRow F (cs ++ [c]) (ps ++ [p]) (l.take (i + 1)) := by
 have hl : (l.take i).length = i := by rw [List.length_take]; omega
 have a1 := a.1
 have a2 := a.2.1
 rw [takeR h]
 refine ⟨by rw [List.length_append, List.length_append, a.1]; rfl, by rw [List.length_append, List.length_append, a.2.1]; rfl, fun j hj => ?_⟩
 rw [List.length_append, hl, List.length_singleton] at hj
 rcases Nat.lt_or_ge j i with hji | hji
 ·have := a.2.2 j (by omega)
  rw [getD_left (by omega), getD_left (by omega), getD_left (by omega)]
  exact this
 ·obtain rfl : j = i := by omega
  rw [getD_last (show j = cs.length by omega), getD_last (show j = ps.length by omega), getD_last (show j = (l.take j).length by omega)]
  exact ⟨h1, h2⟩
section
variable {G : Nat} {A : Abs} {σ : Mem} {F : Nat → Option Blk2} {L : List Ent}
end
end Go.Proofs.YtmmapljeeccdnaaDoor
namespace Go.Proofs.YtmmapljeeccdnaaDoor
set_option maxRecDepth 100000
def p1 (pos x : Int) : Bool := x == pos && x != -1
def p2 (pos x : Int) : Bool := decide (pos < x) && x != -1
end Go.Proofs.YtmmapljeeccdnaaDoor
namespace Go.Proofs.YtmmapljeeccdnaaDoor
set_option maxRecDepth 100000
section
variable {G : Nat} {A : Abs} {σ : Mem} {F : Nat → Option Blk2} {L : List Ent} {l : List RowV} {cs ps : List Value} {v1 : Value} {pos : Int}
end
end Go.Proofs.YtmmapljeeccdnaaDoor
namespace Go.Proofs.YtmmapljeeccdnaaDoor
set_option maxRecDepth 100000
section
variable {G : Nat} {A : Abs} {σ : Mem} {F : Nat → Option Blk2} {L : List Ent} {l : List RowV} {cs ps : List Value} {v1 : Value} {pos : Int}
end
end Go.Proofs.YtmmapljeeccdnaaDoor
namespace Go.Proofs.YtmmapljeeccdnaaDoor
set_option maxRecDepth 100000
end Go.Proofs.YtmmapljeeccdnaaDoor
namespace Go.Proofs.YtmmapljeeccdnaaDoor
set_option maxRecDepth 100000
section
variable {G : Nat} {A : Abs} {σ : Mem} {F : Nat → Option Blk2} {L : List Ent} {l : List RowV} {cs ps : List Value} {v1 : Value} {row col : Int}
end
end Go.Proofs.YtmmapljeeccdnaaDoor
namespace Go.Proofs.YtmmapljeeccdnaaDoor
set_option maxRecDepth 100000
section
variable {G : Nat} {A : Abs} {σ : Mem} {F : Nat → Option Blk2} {L : List Ent} {l : List RowV} {cs ps : List Value} {v1 : Value} {row col : Int}
end
end Go.Proofs.YtmmapljeeccdnaaDoor
namespace Go.Proofs.YtmmapljeeccdnaaDoor
set_option maxRecDepth 100000
theorem rowD_all {l : List RowV} {Q : RowV → Prop} (h : ∀ j, j < l.length → Q (l.getD j default)) : ∀ r ∈ l, Q r := fun r hr => by
 obtain ⟨j, hj⟩ := List.getElem?_of_mem hr
 have := h j (List.getElem?_eq_some_iff.1 hj).1
 rwa [List.getD_eq_getElem?_getD, hj] at this
end Go.Proofs.YtmmapljeeccdnaaDoor
