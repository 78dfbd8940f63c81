/-
 Counts and codes of specifications, in the program and the reference. Conditions: none.
 The reference's Parse. Conditions: none.
 The reference's Text; needs copied and held against one another. Conditions: none.
-/
import Derived.Test.YthemeeiedlbhkaaGreatDoorNel
import Derived.Test.YthemeeiedlbhkaaGreatDoorS4
import Derived.Test.YthemeeiedlbhkaaGreatDoorBase
namespace Go.Proofs.YthemeeiedlbhkaaGreatDoor
open Go.Lib
set_option maxRecDepth 100000
end Go.Proofs.YthemeeiedlbhkaaGreatDoor
namespace Go.Proofs.YthemeeiedlbhkaaGreatDoor
open Go.Lib
set_option maxRecDepth 100000
end Go.Proofs.YthemeeiedlbhkaaGreatDoor
namespace Go.Proofs.YthemeeiedlbhkaaGreatDoor
open Go.Lib
set_option maxRecDepth 100000
theorem flagsT_len : ∀ w e h : Bool, (flagsT w e h).length ≤ 3 := by decide
theorem eqNd (a : Int) (s : ByteArray) (w : World) : (Op.equalIn 10000 57 (.agg #[.int .i64 a, .string s]) (.agg #[.int .i64 a, .string s])).run Tryz.prog w = .ok true w := by
 have u3 := Tryz.underlying3
 have u9 := Tryz.underlying9
 have hS : Tryz.prog.underlying 57 = some (.struct (Tryz.prog.fieldsOf 57)) := by kernel_rfl
 have hp : Tryz.prog.stoodInHeld 57 = false := by kernel_rfl
 rw [show (10000 : Nat) = 9999 + 1 from rfl, run_equalIn_agg w 9999 57 _ _ hS hp]
 simp only [Program.fieldsOf, Tryz.underlying57]
 go_simp
theorem eqFa (a b : Int) (w : World) : (Op.equalIn 10000 41 (.agg #[.int .i64 a, .int .i64 b]) (.agg #[.int .i64 a, .int .i64 b])).run Tryz.prog w = .ok true w := by
 have u3 := Tryz.underlying3
 have u9 := Tryz.underlying31
 have hS : Tryz.prog.underlying 41 = some (.struct (Tryz.prog.fieldsOf 41)) := by kernel_rfl
 have hp : Tryz.prog.stoodInHeld 41 = false := by kernel_rfl
 rw [show (10000 : Nat) = 9999 + 1 from rfl, run_equalIn_agg w 9999 41 _ _ hS hp]
 simp only [Program.fieldsOf, Tryz.underlying41]
 go_simp
set_option maxHeartbeats 8000000 in
theorem sameN_wc {G : Nat} {A : Abs} {σ : Mem} {F : Nat → Option Blk2} {L : List Ent} {v1 v2 : Value} {l : List Need} (h1 : SlF F 2 v1 l.length (needC l)) (h2 : SlF F 2 v2 l.length (needC l)) (hl : l.length ≤ 1000000) (H : Lies G A F σ L) : WC G Tryz.prog 40 #[v1, v2] σ fun v σ' => v = .bool true ∧ Lies G A F σ' L := by
 refine WC.enter (fn := Tryz.f40) Tryz.func40 rfl ?_
 refine W.rg [(0, v1), (1, v2)] fun TA => ?_
 refine W.seq (W.region ?_)
 refine RW.v ?_
 refine RW.nil ?_
 refine W.rg [(0, v1), (1, v2)] fun TA => ?_
 refine W.seq ?_
 refine W.seq (W.region ?_)
 refine RW.v ?_
 refine RW.len (by kernel_rfl) (by kernel_rfl) rfl rfl rfl rfl (h1.len (e := 57) (by kernel_rfl)) (by kernel_rfl) ?_
 refine RW.v ?_
 refine RW.len (by kernel_rfl) (by kernel_rfl) rfl rfl rfl rfl (h2.len (e := 57) (by kernel_rfl)) (by kernel_rfl) ?_
 refine RW.valE (v' := .bool false) (by kernel_rfl) (by kernel_rfl) rfl (congrArg Value.bool (bne_eq_false_iff_eq.2 (by rfl))) (by kernel_rfl) ?_
 refine RW.nil ?_
 refine W.c0 ?_
 refine W.skip ?_
 refine W.seq ?_
 refine W.seq (W.region ?_)
 refine RW.v ?_
 refine RW.nil ?_
 refine W.rg [(0, v1), (1, v2), (5, .int .i64 0)] fun TA => ?_
 refine W.block ?_
 refine W.loop (fun mm ta σ => ∃ (i : Nat), (mm + i = l.length) ∧ Lies G A F σ ((L)) ∧ ta 0 = v1 ∧ ta 1 = v2 ∧ ta 5 = .int .i64 ((i : Nat) : Int)) l.length ?_ ?_
 ·exact ⟨0, (by omega), H, rfl, rfl, rfl⟩
 clear H
 rintro mm ta _ ⟨i, hm, H, e0, e1, e5⟩
 refine W.rst [(0, v1), (1, v2), (5, .int .i64 ((i : Nat) : Int))] ⟨e0, e1, e5, trivial⟩ fun TA => ?_
 clear e0 e1 e5
 refine W.seq ?_
 refine W.seq (W.region ?_)
 iterate 2 refine RW.v ?_
 refine RW.len (by kernel_rfl) (by kernel_rfl) rfl rfl rfl rfl (h1.len (e := 57) (by kernel_rfl)) (by kernel_rfl) ?_
 refine RW.v ?_
 refine RW.nil ?_
 refine W.rg [(0, v1), (1, v2), (5, .int .i64 ((i : Nat) : Int)), (14, .bool (decide (((i : Nat) : Int) < (l.length : Int))))] fun TA => ?_
 refine W.cond rfl (fun hc1 => ?_) (fun hc1 => ?_)
 ·have hc1b := hc1
  have hc1 := of_decide_eq_true hc1
  have hil : i < l.length := by omega
  refine W.skip ?_
  refine W.seq ?_
  refine W.block ?_
  refine W.seq ?_
  refine W.drawn (by kernel_rfl) (by kernel_rfl) H.gn ?_
  have H2 := H
  iterate 2 refine RW.v ?_
  refine RW.idxF h1 (by kernel_rfl) (by kernel_rfl) rfl Tryz.underlying37 (by kernel_rfl) rfl rfl ⟨by omega, by omega⟩ (by kernel_rfl) ?_
  intro b3 q4 r5 hF6 hE7
  rw [need_at (l := l) (j := i) (i := ((i : Nat) : Int)) (by omega) (by omega)] at hE7
  refine RW.loads 2 (by kernel_rfl) (by kernel_rfl) rfl rfl (H2.old _ _ hF6) hE7 rfl (by kernel_rfl) ?_
  iterate 2 refine RW.v ?_
  refine RW.idxF h2 (by kernel_rfl) (by kernel_rfl) rfl Tryz.underlying37 (by kernel_rfl) rfl rfl ⟨by omega, by omega⟩ (by kernel_rfl) ?_
  intro b8 q9 r10 hF11 hE12
  rw [need_at (l := l) (j := i) (i := ((i : Nat) : Int)) (by omega) (by omega)] at hE12
  refine RW.loads 2 (by kernel_rfl) (by kernel_rfl) rfl rfl (H2.old _ _ hF11) hE12 rfl (by kernel_rfl) ?_
  refine RW.vop (v := .bool false) (by kernel_rfl) (by kernel_rfl) (vop_eqS (b := true) (r := false) rfl (.inr ⟨rfl, rfl⟩) rfl rfl rfl rfl (by kernel_rfl) (fun w => eqNd _ _ w)) (by kernel_rfl) ?_
  refine RW.nil ?_
  refine ⟨⟨by kernel_rfl, ⟨trivial, trivial, trivial, dyn_row (H2.old _ _ hF6) (H2.old _ _ hF6) ⟨nB, nB, nB, nB, nB, nB, nB, nB, nB, trivial⟩, trivial, trivial, trivial, dyn_row (H2.old _ _ hF11) (H2.old _ _ hF11) ⟨nB, nB, nB, nB, nB, nB, nB, nB, nB, trivial⟩, trivial, trivial⟩⟩, ?_⟩
  replace H := H2
  clear H2
  refine W.c0 ?_
  refine W.skip ?_
  refine blkQ_normal ?_
  refine W.region ?_
  refine RW.v ?_
  refine RW.valE (v' := .int .i64 (((i : Nat) : Int) + 1)) (by kernel_rfl) (by kernel_rfl) rfl (congrArg (Value.int .i64) (wrap_in (by omega) (by omega))) (by kernel_rfl) ?_
  refine RW.v ?_
  refine RW.nil ?_
  exact ⟨rfl, mm - 1, by omega, i + 1, (by omega), H, rfl, rfl, rfl⟩
 ·have hc1b := hc1
  have hc1 := of_decide_eq_false hc1
  refine W.exit _ ?_
  refine seqQ_exit ?_
  refine rndQ_exit ?_
  refine blkQ_here ?_
  refine W.seq (W.region ?_)
  refine RW.v ?_
  refine RW.nil ?_
  refine W.ret ?_
  refine endG (by rfl) (by exact resL_tmp rfl) ?_
  exact ⟨rfl, H⟩
set_option maxHeartbeats 8000000 in
theorem speceq_wc {G : Nat} {A : Abs} {σ : Mem} {F : Nat → Option Blk2} {L : List Ent} {v1 v2 : Value} {xw xe xh : Bool} {l : List Need} (h1 : SlF F 2 v1 l.length (needC l)) (h2 : SlF F 2 v2 l.length (needC l)) (hl : l.length ≤ 1000000) (H : Lies G A F σ L) : WC G Tryz.prog 31 #[.agg #[.bool xw, .bool xe, .bool xh, v1], .agg #[.bool xw, .bool xe, .bool xh, v2]] σ fun v σ' => v = .bool true ∧ Lies G A F σ' L := by
 refine WC.enter (fn := Tryz.f31) Tryz.func31 rfl ?_
 refine W.rg [(0, .agg #[.bool xw, .bool xe, .bool xh, v1]), (1, .agg #[.bool xw, .bool xe, .bool xh, v2])] fun TA => ?_
 refine W.seq (W.region ?_)
 refine RW.mkL H (x := .row ⟨[.bool xw, .bool xe, .bool xh, v1], 39, false⟩) (fm := fun b => .pointer (some ⟨b, 0, none⟩)) (by kernel_rfl) (by kernel_rfl) (by rcases slf_forms h1 with rfl | ⟨_, rfl⟩ | ⟨_, _, _, _, _, rfl⟩ <;> kernel_rfl) (by kernel_rfl) ?_
 clear H; intro _ b1 _ H
 refine RW.mkL H (x := .row ⟨[.bool xw, .bool xe, .bool xh, v2], 39, false⟩) (fm := fun b => .pointer (some ⟨b, 0, none⟩)) (by kernel_rfl) (by kernel_rfl) (by rcases slf_forms h2 with rfl | ⟨_, rfl⟩ | ⟨_, _, _, _, _, rfl⟩ <;> kernel_rfl) (by kernel_rfl) ?_
 clear H; intro _ b2 _ H
 refine RW.v ?_
 refine RW.nil ?_
 refine W.rg [(2, .pointer (some ⟨b1, 0, none⟩)), (3, .pointer (some ⟨b2, 0, none⟩))] fun TA => ?_
 refine W.seq (W.region ?_)
 refine RW.v ?_
 refine RW.ld H 1 1 ?_
 refine RW.v ?_
 refine RW.ld H 0 1 ?_
 refine RW.valE (v' := .bool true) (by kernel_rfl) (by kernel_rfl) rfl (by cases xw <;> rfl) (by kernel_rfl) ?_
 refine RW.v ?_
 refine RW.w ?_
 refine RW.ldL H 1 1 (by rfl) (by kernel_rfl) rfl rfl rfl rfl rfl (by kernel_rfl) ?_
 refine RW.w ?_
 refine RW.ldL H 0 1 (by rfl) (by kernel_rfl) rfl rfl rfl rfl rfl (by kernel_rfl) ?_
 refine RW.valE (v' := .bool true) (by rfl) (by kernel_rfl) rfl (by cases xe <;> rfl) (by kernel_rfl) ?_
 iterate 2 refine RW.v ?_
 refine RW.w ?_
 refine RW.ldL H 1 1 (by rfl) (by kernel_rfl) rfl rfl rfl rfl rfl (by kernel_rfl) ?_
 refine RW.w ?_
 refine RW.ldL H 0 1 (by rfl) (by kernel_rfl) rfl rfl rfl rfl rfl (by kernel_rfl) ?_
 refine RW.valE (v' := .bool true) (by rfl) (by kernel_rfl) rfl (by cases xh <;> rfl) (by kernel_rfl) ?_
 iterate 2 refine RW.v ?_
 refine RW.w ?_
 refine RW.ldL H 1 1 (by rfl) (by kernel_rfl) rfl rfl rfl rfl rfl (by kernel_rfl) ?_
 refine RW.w ?_
 refine RW.ldL H 0 1 (by rfl) (by kernel_rfl) rfl rfl rfl rfl rfl (by kernel_rfl) ?_
 refine RW.cl (hw := by rfl) ?_
 refine ((sameN_wc h1 h2 hl H).mono ?_)
 clear H
 rintro _ _ ⟨rfl, H⟩
 iterate 2 refine RW.v ?_
 refine RW.nil ?_
 replace H := ((H.del 1).del 0)
 dsimp only [setL, delL] at H
 refine W.ret ?_
 refine endG (by rfl) (by exact resL_tmp rfl) ?_
 exact ⟨rfl, H⟩
end Go.Proofs.YthemeeiedlbhkaaGreatDoor
