/-
 Cells of a screen held against themselves. Conditions: none.
 Slices of cells, positions, rows of the same contents are the same. Conditions: none.
 slices.Repeat of a cell, rows of blanks. Conditions: none.
 A copy of rows. Conditions: none.
 Where, in plain words. Conditions: none.
 Where of the reference. Conditions: none.
 Where of the program. Conditions: none.
 At, in plain words. Conditions: none.
 At of the reference. Conditions: none.
 At of the program. Conditions: none.
 LayoutFinds in the second memory. Conditions: none.
-/
import Derived.Test.YtmmapljeeccdnaaDoorS4
import Derived.Test.YtmmapljeeccdnaaDoorBase
import Derived.Test.YtmmapljeeccdnaaDoorProg
import Derived.Test.YtmmapljeeccdnaaDoorK2
import Derived.KernelRfl
import Derived.Test.YtmmapljeeccdnaaDoorK1
import Derived.Test.YtmmapljeeccdnaaDoorShelf
namespace Go.Proofs.YtmmapljeeccdnaaDoor
set_option maxRecDepth 100000
theorem eqCell (a b c : Int) (d e f : Bool) (w : World) : (Op.equalIn 10000 79 (.agg #[.int .i64 a, .int .i64 b, .int .i64 c, .bool d, .bool e, .bool f]) (.agg #[.int .i64 a, .int .i64 b, .int .i64 c, .bool d, .bool e, .bool f])).run Tryd.prog w = .ok true w := by
 have u3 := Tryd.underlying3
 have u4 := Tryd.underlying4
 have hS : Tryd.prog.underlying 79 = some (.struct (Tryd.prog.fieldsOf 79)) := by kernel_rfl
 have hp : Tryd.prog.stoodInHeld 79 = false := by kernel_rfl
 have hS2 : Tryd.prog.underlying 50 = some (.struct (Tryd.prog.fieldsOf 50)) := by kernel_rfl
 have hp2 : Tryd.prog.stoodInHeld 50 = false := by kernel_rfl
 have c5 : Tryd.prog.cellsOf 50 = 5 := by kernel_rfl
 have hL : ∀ w, (Op.equalIn 9999 50 (.agg #[.int .i64 b, .int .i64 c, .bool d, .bool e, .bool f]) (.agg #[.int .i64 b, .int .i64 c, .bool d, .bool e, .bool f])).run Tryd.prog w = .ok true w := fun w => by
  rw [show (9999 : Nat) = 9998 + 1 from rfl, run_equalIn_agg w 9998 50 _ _ hS2 hp2]
  simp only [Program.fieldsOf, Tryd.underlying50]
  go_simp
 rw [show (10000 : Nat) = 9999 + 1 from rfl, run_equalIn_agg w 9999 79 _ _ hS hp]
 simp only [Program.fieldsOf, Tryd.underlying79]
 go_simp
theorem cC_at : ∀ {l : List Cel} {j : Nat}, j < l.length → ((cC l).drop (j * 6)).take 6 = (l.getD j default).vs
 | [], _, h => absurd h (Nat.not_lt_zero _)
 | _ :: _, 0, _ => rfl
 | x :: l, j + 1, h => by
  rw [show cC (x :: l) = x.vs ++ cC l from rfl, show (j + 1) * 6 = 6 + j * 6 by omega, ← List.drop_drop]
  rw [show (x.vs ++ cC l).drop 6 = cC l from rfl]
  exact cC_at (l := l) (j := j) (by simpa using h)
end Go.Proofs.YtmmapljeeccdnaaDoor
namespace Go.Proofs.YtmmapljeeccdnaaDoor
set_option maxRecDepth 100000
theorem cC_ati {l : List Cel} {j : Nat} (h : j < l.length) : ((cC l).drop (((j : Nat) : Int).toNat * 6)).take 6 = [.int .i64 (l.getD j default).a, .int .i64 (l.getD j default).b, .int .i64 (l.getD j default).c, .bool (l.getD j default).d, .bool (l.getD j default).e, .bool (l.getD j default).f] := cC_at h
theorem rowsV_ati {cs ps : List Value} {l : List RowV} {j : Nat} (h1 : cs.length = l.length) (h2 : ps.length = l.length) (h : j < l.length) : ((rowsV cs ps l).drop (((j : Nat) : Int).toNat * 5)).take 5 = [cs.getD j undef, ps.getD j undef, .int .i64 (l.getD j default).fr, .int .i64 (l.getD j default).to, .bool (l.getD j default).co] := rowsV_at h1 h2 h
section
variable {G : Nat} {A : Abs} {σ : Mem} {F : Nat → Option Blk2} {L : List Ent}
end
end Go.Proofs.YtmmapljeeccdnaaDoor
namespace Go.Proofs.YtmmapljeeccdnaaDoor
set_option maxRecDepth 100000
def blk : Cel := ⟨32, 0, 0, false, false, false⟩
theorem blank_cC : ∀ n, zerosN [.int .i64 32, .int .i64 0, .int .i64 0, .bool false, .bool false, .bool false] n = cC (List.replicate n blk)
 | 0 => rfl
 | n + 1 => by
  show _ ++ _ = _
  rw [blank_cC n]
  rfl
section
variable {G : Nat} {A : Abs} {σ : Mem} {F : Nat → Option Blk2} {L : List Ent}
open Go.RowKit in
theorem s_mul1 {k : Nat} (hk : k ≤ 1000000) : SCall G Tryd.prog 63 #[.int .u64 ((1 : Nat) : Int), .int .u64 ((k : Nat) : Int)] σ (.tuple #[.int .u64 0, .int .u64 ((k : Nat) : Int)]) σ := by
 have := below_call (G := G) (σ := σ) rfl rfl fun w => (Tryd.bits_Mul 1 k (by omega) (by omega) w).mono fun e w' ⟨k1, k2⟩ => ⟨k1, k2 ▸ Below.refl _ _⟩
 rw [Nat.one_mul, Nat.div_eq_of_lt (by omega), Nat.mod_eq_of_lt (by omega)] at this
 exact this
set_option maxHeartbeats 4000000 in
theorem repeat_cell {k : Nat} {v : Value} (hs : SlF F 6 v 1 [.int .i64 32, .int .i64 0, .int .i64 0, .bool false, .bool false, .bool false]) (hk : 0 < k) (hk2 : k ≤ 1000000) (H : Lies G A F σ L) : WC G Tryd.prog 48 #[v, .int .i64 ((k : Nat) : Int)] σ fun r σ' => ∃ b, r = .slice (some ⟨b, 0, none⟩) k k ∧ Lies G A F σ' (.at_ b (.row ⟨zerosN [.int .i64 32, .int .i64 0, .int .i64 0, .bool false, .bool false, .bool false] k, 79, false⟩) :: L) := by
 refine WC.enter (fn := Tryd.f48) Tryd.func48 rfl ?_
 refine W.rg [(0, v), (1, .int .i64 ((k : Nat) : Int))] fun TA => ?_
 refine W.seq (W.region ?_)
 refine RW.v ?_
 refine RW.nil ?_
 refine W.rg [(0, v), (1, .int .i64 ((k : Nat) : Int))] fun TA => ?_
 refine W.seq ?_
 refine W.seq (W.region ?_)
 refine RW.v ?_
 refine RW.valE (v' := .bool false) (by kernel_rfl) (by kernel_rfl) rfl (congrArg Value.bool (decide_eq_false (by omega))) (by kernel_rfl) ?_
 refine RW.nil ?_
 refine W.c0 ?_
 refine W.skip ?_
 refine W.seq (W.region ?_)
 refine RW.v ?_
 refine RW.len (by kernel_rfl) (by kernel_rfl) rfl rfl rfl rfl (hs.len (e := 79) (by kernel_rfl)) (by kernel_rfl) ?_
 refine RW.valE (v' := .int .u64 (1 : Int)) (by kernel_rfl) (by kernel_rfl) rfl (congrArg (Value.int .u64) (wrap_u (by omega) (by omega))) (by kernel_rfl) ?_
 refine RW.v ?_
 refine RW.valE (v' := .int .u64 ((k : Nat) : Int)) (by kernel_rfl) (by kernel_rfl) rfl (congrArg (Value.int .u64) (wrap_u (by omega) (by omega))) (by kernel_rfl) ?_
 refine RW.cl ?_
 refine ⟨_, _, (s_mul1 (k := k) (by omega)), ?_⟩
 iterate 5 refine RW.v ?_
 refine RW.nil ?_
 refine W.rg [(0, v), (5, .int .u64 0), (6, .int .u64 ((k : Nat) : Int))] fun TA => ?_
 refine W.seq ?_
 refine W.seq (W.region ?_)
 iterate 3 refine RW.v ?_
 refine RW.val (by rfl) (by kernel_rfl) rfl (by kernel_rfl) ?_
 refine RW.valE (v' := .bool false) (by rfl) (by kernel_rfl) rfl (congrArg Value.bool (decide_eq_false (by omega))) (by kernel_rfl) ?_
 refine RW.v ?_
 refine RW.nil ?_
 refine W.c0 ?_
 refine W.skip ?_
 refine W.seq (W.region ?_)
 refine RW.v ?_
 refine RW.valE (v' := .int .i64 ((k : Nat) : Int)) (by kernel_rfl) (by kernel_rfl) rfl (congrArg (Value.int .i64) (wrap_in (by omega) (by omega))) (by kernel_rfl) ?_
 refine RW.mkB H (e := 79) (n := k) (s := 6) (zs := [.int .i64 0, .int .i64 0, .int .i64 0, .bool false, .bool false, .bool false]) (z := .agg #[.int .i64 0, .int .i64 0, .int .i64 0, .bool false, .bool false, .bool false]) (by kernel_rfl) (by kernel_rfl) rfl rfl rfl (by kernel_rfl) (by kernel_rfl) (by decide) (by kernel_rfl) (by kernel_rfl) rfl (by omega) (by kernel_rfl) rfl ?_
 clear H; intro _ b H
 refine RW.v ?_
 refine RW.nil ?_
 refine W.rg [(0, v), (7, .slice (some ⟨b, 0, none⟩) k k)] fun TA => ?_
 refine W.seq (W.region ?_)
 iterate 2 refine RW.v ?_
 refine RW.cpy H 0 (e := 79) (s := 6) (q := 1) (by kernel_rfl) (by kernel_rfl) rfl rfl rfl rfl rfl rfl rfl (by kernel_rfl) (by kernel_rfl) (slf_src hs (by decide) H.old) (Nat.min_eq_left hk) (by decide) (by rw [zerosN_len]; show 0 + 6 ≤ k * 6; omega) rfl (rowB_start (s := 6) rfl rfl hk) (by kernel_rfl) ?_
 clear H; intro _ H
 dsimp only [setL, delL] at H
 refine RW.v ?_
 refine RW.nil ?_
 refine W.rg [(7, .slice (some ⟨b, 0, none⟩) k k), (8, .int .i64 ((1 : Nat) : Int))] fun TA => ?_
 refine W.seq ?_
 refine W.block ?_
 refine W.loop (fun mm ta σ => ∃ (m : Nat), (mm + m = k) ∧ (0 < m) ∧ (m ≤ k) ∧ Lies G A F σ (.at_ b (.row ⟨rowB [.int .i64 32, .int .i64 0, .int .i64 0, .bool false, .bool false, .bool false] [.int .i64 0, .int .i64 0, .int .i64 0, .bool false, .bool false, .bool false] k m, 79, false⟩) :: (L)) ∧ ta 7 = .slice (some ⟨b, 0, none⟩) k k ∧ ta 8 = .int .i64 ((m : Nat) : Int)) (k - 1) ?_ ?_
 ·exact ⟨1, (by omega), (by omega), hk, H, rfl, rfl⟩
 clear H
 rintro mm ta _ ⟨m, hm, hm0, hmN, H, e7, e8⟩
 refine W.rst [(7, .slice (some ⟨b, 0, none⟩) k k), (8, .int .i64 ((m : Nat) : Int))] ⟨e7, e8, trivial⟩ fun TA => ?_
 clear e7 e8
 refine W.seq ?_
 refine W.seq (W.region ?_)
 iterate 4 refine RW.v ?_
 refine RW.nil ?_
 refine W.rg [(7, .slice (some ⟨b, 0, none⟩) k k), (8, .int .i64 ((m : Nat) : Int)), (37, .bool (decide (((m : Nat) : Int) < ((k : Nat) : Int))))] fun TA => ?_
 refine W.cond rfl (fun hc1 => ?_) (fun hc1 => ?_)
 ·have hc1b := hc1
  have hc1 := of_decide_eq_true hc1
  refine W.skip ?_
  refine W.block ?_
  refine W.drawn (by kernel_rfl) (by kernel_rfl) H.gn ?_
  have H2 := H
  iterate 3 refine RW.v ?_
  have hlt : m < k := by omega
  refine RW.vop (v := .slice (some ⟨b, m * 6, none⟩) (k - m) (k - m)) (by kernel_rfl) (by kernel_rfl) (vop_slice rfl (slice_fromB (e := 79) (s := 6) hlt (by kernel_rfl) (by kernel_rfl))) (by kernel_rfl) ?_
  iterate 2 refine RW.v ?_
  refine RW.vop (v := .slice (some ⟨b, 0, none⟩) m k) (by kernel_rfl) (by kernel_rfl) (vop_slice rfl (slice_toB (e := 79) (s := 6) hmN (by kernel_rfl) (by kernel_rfl) (by omega))) (by kernel_rfl) ?_
  have hrl : (rowB [.int .i64 32, .int .i64 0, .int .i64 0, .bool false, .bool false, .bool false] [.int .i64 0, .int .i64 0, .int .i64 0, .bool false, .bool false, .bool false] k m).length = k * 6 := rowB_len (s := 6) rfl rfl hmN
  refine RW.cpy H2 0 (e := 79) (s := 6) (n := m) (xs := ((rowB [.int .i64 32, .int .i64 0, .int .i64 0, .bool false, .bool false, .bool false] [.int .i64 0, .int .i64 0, .int .i64 0, .bool false, .bool false, .bool false] k m).drop 0).take (m * 6)) (q := (min m (k - m))) (by kernel_rfl) (by kernel_rfl) rfl rfl rfl rfl rfl rfl rfl (by kernel_rfl) (by kernel_rfl) (src_rowB (H2.get 0 rfl) (by omega) (by rw [hrl]; omega)) rfl (by omega) (by rw [List.length_take, List.length_take, List.drop_zero, hrl]; omega) (rowB_ones' rfl rfl _ _ _) (rowB_next (s := 6) rfl rfl (by omega) (by omega)) (by kernel_rfl) ?_
  intro _ H3
  dsimp only [setL, delL] at H3
  refine RW.valE (v' := .int .i64 ((m + min m (k - m) : Nat) : Int)) (by kernel_rfl) (by kernel_rfl) rfl (congrArg (Value.int .i64) ((wrap_in (by omega) (by omega)).trans (by omega))) (by kernel_rfl) ?_
  refine RW.v ?_
  refine RW.nil ?_
  refine ⟨⟨by kernel_rfl, ⟨trivial, trivial, trivial, trivial, trivial, trivial, trivial, trivial, trivial, trivial, trivial⟩⟩, ?_⟩
  replace H := H3
  clear H2 H3
  refine blkQ_normal ?_
  exact ⟨rfl, mm - (min m (k - m)), by omega, m + min m (k - m), (by omega), (by omega), (by omega), H, rfl, rfl⟩
 ·have hc1b := hc1
  have hc1 := of_decide_eq_false hc1
  refine W.exit _ ?_
  refine seqQ_exit ?_
  refine rndQ_exit ?_
  refine blkQ_here ?_
  refine W.seq (W.region ?_)
  iterate 2 refine RW.v ?_
  refine RW.nil ?_
  refine W.ret ?_
  refine endG (by rfl) (by exact resL_tmp rfl) ?_
  obtain rfl : m = k := by omega
  rw [rowB_full] at H
  exact ⟨_, rfl, H⟩
variable {width : Int}
end
end Go.Proofs.YtmmapljeeccdnaaDoor
namespace Go.Proofs.YtmmapljeeccdnaaDoor
set_option maxRecDepth 100000
theorem rowsV_app : ∀ {cs ps : List Value} {l : List RowV} (c p : Value) (r : RowV), cs.length = l.length → ps.length = l.length → rowsV (cs ++ [c]) (ps ++ [p]) (l ++ [r]) = rowsV cs ps l ++ [c, p, .int .i64 r.fr, .int .i64 r.to, .bool r.co]
 | [], [], [], _, _, _, _, _ => rfl
 | a :: cs, b :: ps, x :: l, c, p, r, h1, h2 => by
  show a :: b :: _ :: _ :: _ :: rowsV (cs ++ [c]) (ps ++ [p]) (l ++ [r]) = a :: b :: _ :: _ :: _ :: (rowsV cs ps l ++ _)
  rw [rowsV_app (l := l) c p r (by simpa using h1) (by simpa using h2)]
 | [], _ :: _, l, _, _, _, h1, h2 => by cases l <;> simp at h1 h2
 | _ :: _, [], l, _, _, _, h1, h2 => by cases l <;> simp at h1 h2
section
variable {G : Nat} {A : Abs} {σ : Mem} {F : Nat → Option Blk2} {L : List Ent}
end
end Go.Proofs.YtmmapljeeccdnaaDoor
namespace Go.Proofs.YtmmapljeeccdnaaDoor
set_option maxRecDepth 100000
def p1 (pos x : Int) : Bool := x == pos && x != -1
def p2 (pos x : Int) : Bool := decide (pos < x) && x != -1
end Go.Proofs.YtmmapljeeccdnaaDoor
namespace Go.Proofs.YtmmapljeeccdnaaDoor
set_option maxRecDepth 100000
section
variable {G : Nat} {A : Abs} {σ : Mem} {F : Nat → Option Blk2} {L : List Ent} {l : List RowV} {cs ps : List Value} {v1 : Value} {pos : Int}
end
end Go.Proofs.YtmmapljeeccdnaaDoor
namespace Go.Proofs.YtmmapljeeccdnaaDoor
set_option maxRecDepth 100000
section
variable {G : Nat} {A : Abs} {σ : Mem} {F : Nat → Option Blk2} {L : List Ent} {l : List RowV} {cs ps : List Value} {v1 : Value} {pos : Int}
end
end Go.Proofs.YtmmapljeeccdnaaDoor
namespace Go.Proofs.YtmmapljeeccdnaaDoor
set_option maxRecDepth 100000
end Go.Proofs.YtmmapljeeccdnaaDoor
namespace Go.Proofs.YtmmapljeeccdnaaDoor
set_option maxRecDepth 100000
section
variable {G : Nat} {A : Abs} {σ : Mem} {F : Nat → Option Blk2} {L : List Ent} {l : List RowV} {cs ps : List Value} {v1 : Value} {row col : Int}
end
end Go.Proofs.YtmmapljeeccdnaaDoor
namespace Go.Proofs.YtmmapljeeccdnaaDoor
set_option maxRecDepth 100000
section
variable {G : Nat} {A : Abs} {σ : Mem} {F : Nat → Option Blk2} {L : List Ent} {l : List RowV} {cs ps : List Value} {v1 : Value} {row col : Int}
end
end Go.Proofs.YtmmapljeeccdnaaDoor
namespace Go.Proofs.YtmmapljeeccdnaaDoor
set_option maxRecDepth 100000
end Go.Proofs.YtmmapljeeccdnaaDoor
