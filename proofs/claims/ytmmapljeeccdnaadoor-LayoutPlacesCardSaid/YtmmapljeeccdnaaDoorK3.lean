/-
 Cells of a screen held against themselves. Conditions: none.
 Slices of cells, positions, rows of the same contents are the same. Conditions: none.
 slices.Repeat of a cell, rows of blanks. Conditions: none.
 A copy of rows. Conditions: none.
 Where, in plain words. Conditions: none.
 Where of the reference. Conditions: none.
 Where of the program. Conditions: none.
 At, in plain words. Conditions: none.
 At of the reference. Conditions: none.
 At of the program. Conditions: none.
 LayoutFinds in the second memory. Conditions: none.
-/
import Derived.Test.YtmmapljeeccdnaaDoorS4
import Derived.Test.YtmmapljeeccdnaaDoorBase
import Derived.Test.YtmmapljeeccdnaaDoorProg
import Derived.Test.YtmmapljeeccdnaaDoorK2
import Derived.KernelRfl
import Derived.Test.YtmmapljeeccdnaaDoorK1
import Derived.Test.YtmmapljeeccdnaaDoorShelf
namespace Go.Proofs.YtmmapljeeccdnaaDoor
set_option maxRecDepth 100000
theorem cC_at : ∀ {l : List Cel} {j : Nat}, j < l.length → ((cC l).drop (j * 6)).take 6 = (l.getD j default).vs
 | [], _, h => absurd h (Nat.not_lt_zero _)
 | _ :: _, 0, _ => rfl
 | x :: l, j + 1, h => by
  rw [show cC (x :: l) = x.vs ++ cC l from rfl, show (j + 1) * 6 = 6 + j * 6 by omega, ← List.drop_drop]
  rw [show (x.vs ++ cC l).drop 6 = cC l from rfl]
  exact cC_at (l := l) (j := j) (by simpa using h)
end Go.Proofs.YtmmapljeeccdnaaDoor
namespace Go.Proofs.YtmmapljeeccdnaaDoor
set_option maxRecDepth 100000
theorem cC_ati {l : List Cel} {j : Nat} (h : j < l.length) : ((cC l).drop (((j : Nat) : Int).toNat * 6)).take 6 = [.int .i64 (l.getD j default).a, .int .i64 (l.getD j default).b, .int .i64 (l.getD j default).c, .bool (l.getD j default).d, .bool (l.getD j default).e, .bool (l.getD j default).f] := cC_at h
theorem rowsV_ati {cs ps : List Value} {l : List RowV} {j : Nat} (h1 : cs.length = l.length) (h2 : ps.length = l.length) (h : j < l.length) : ((rowsV cs ps l).drop (((j : Nat) : Int).toNat * 5)).take 5 = [cs.getD j undef, ps.getD j undef, .int .i64 (l.getD j default).fr, .int .i64 (l.getD j default).to, .bool (l.getD j default).co] := rowsV_at h1 h2 h
theorem rowD_mem {l : List RowV} {j : Nat} (h : j < l.length) : l.getD j default ∈ l := by
 rw [List.getD_eq_getElem?_getD, List.getElem?_eq_getElem h]
 exact List.getElem_mem h
section
variable {G : Nat} {A : Abs} {σ : Mem} {F : Nat → Option Blk2} {L : List Ent}
end
end Go.Proofs.YtmmapljeeccdnaaDoor
namespace Go.Proofs.YtmmapljeeccdnaaDoor
set_option maxRecDepth 100000
def blk : Cel := ⟨32, 0, 0, false, false, false⟩
theorem blank_cC : ∀ n, zerosN [.int .i64 32, .int .i64 0, .int .i64 0, .bool false, .bool false, .bool false] n = cC (List.replicate n blk)
 | 0 => rfl
 | n + 1 => by
  show _ ++ _ = _
  rw [blank_cC n]
  rfl
section
variable {G : Nat} {A : Abs} {σ : Mem} {F : Nat → Option Blk2} {L : List Ent}
open Go.RowKit in
theorem s_mul1 {k : Nat} (hk : k ≤ 1000000) : SCall G Tryd.prog 63 #[.int .u64 ((1 : Nat) : Int), .int .u64 ((k : Nat) : Int)] σ (.tuple #[.int .u64 0, .int .u64 ((k : Nat) : Int)]) σ := by
 have := below_call (G := G) (σ := σ) rfl rfl fun w => (Tryd.bits_Mul 1 k (by omega) (by omega) w).mono fun e w' ⟨k1, k2⟩ => ⟨k1, k2 ▸ Below.refl _ _⟩
 rw [Nat.one_mul, Nat.div_eq_of_lt (by omega), Nat.mod_eq_of_lt (by omega)] at this
 exact this
set_option maxHeartbeats 4000000 in
theorem repeat_cell {k : Nat} {v : Value} (hs : SlF F 6 v 1 [.int .i64 32, .int .i64 0, .int .i64 0, .bool false, .bool false, .bool false]) (hk : 0 < k) (hk2 : k ≤ 1000000) (H : Lies G A F σ L) : WC G Tryd.prog 48 #[v, .int .i64 ((k : Nat) : Int)] σ fun r σ' => ∃ b, r = .slice (some ⟨b, 0, none⟩) k k ∧ Lies G A F σ' (.at_ b (.row ⟨zerosN [.int .i64 32, .int .i64 0, .int .i64 0, .bool false, .bool false, .bool false] k, 79, false⟩) :: L) := by
 refine WC.enter (fn := Tryd.f48) Tryd.func48 rfl ?_
 refine W.rg [(0, v), (1, .int .i64 ((k : Nat) : Int))] fun TA => ?_
 refine W.seq (W.region ?_)
 refine RW.v ?_
 refine RW.nil ?_
 refine W.rg [(0, v), (1, .int .i64 ((k : Nat) : Int))] fun TA => ?_
 refine W.seq ?_
 refine W.seq (W.region ?_)
 refine RW.v ?_
 refine RW.valE (v' := .bool false) (by kernel_rfl) (by kernel_rfl) rfl (congrArg Value.bool (decide_eq_false (by omega))) (by kernel_rfl) ?_
 refine RW.nil ?_
 refine W.c0 ?_
 refine W.skip ?_
 refine W.seq (W.region ?_)
 refine RW.v ?_
 refine RW.len (by kernel_rfl) (by kernel_rfl) rfl rfl rfl rfl (hs.len (e := 79) (by kernel_rfl)) (by kernel_rfl) ?_
 refine RW.valE (v' := .int .u64 (1 : Int)) (by kernel_rfl) (by kernel_rfl) rfl (congrArg (Value.int .u64) (wrap_u (by omega) (by omega))) (by kernel_rfl) ?_
 refine RW.v ?_
 refine RW.valE (v' := .int .u64 ((k : Nat) : Int)) (by kernel_rfl) (by kernel_rfl) rfl (congrArg (Value.int .u64) (wrap_u (by omega) (by omega))) (by kernel_rfl) ?_
 refine RW.cl ?_
 refine ⟨_, _, (s_mul1 (k := k) (by omega)), ?_⟩
 iterate 5 refine RW.v ?_
 refine RW.nil ?_
 refine W.rg [(0, v), (5, .int .u64 0), (6, .int .u64 ((k : Nat) : Int))] fun TA => ?_
 refine W.seq ?_
 refine W.seq (W.region ?_)
 iterate 3 refine RW.v ?_
 refine RW.val (by rfl) (by kernel_rfl) rfl (by kernel_rfl) ?_
 refine RW.valE (v' := .bool false) (by rfl) (by kernel_rfl) rfl (congrArg Value.bool (decide_eq_false (by omega))) (by kernel_rfl) ?_
 refine RW.v ?_
 refine RW.nil ?_
 refine W.c0 ?_
 refine W.skip ?_
 refine W.seq (W.region ?_)
 refine RW.v ?_
 refine RW.valE (v' := .int .i64 ((k : Nat) : Int)) (by kernel_rfl) (by kernel_rfl) rfl (congrArg (Value.int .i64) (wrap_in (by omega) (by omega))) (by kernel_rfl) ?_
 refine RW.mkB H (e := 79) (n := k) (s := 6) (zs := [.int .i64 0, .int .i64 0, .int .i64 0, .bool false, .bool false, .bool false]) (z := .agg #[.int .i64 0, .int .i64 0, .int .i64 0, .bool false, .bool false, .bool false]) (by kernel_rfl) (by kernel_rfl) rfl rfl rfl (by kernel_rfl) (by kernel_rfl) (by decide) (by kernel_rfl) (by kernel_rfl) rfl (by omega) (by kernel_rfl) rfl ?_
 clear H; intro _ b H
 refine RW.v ?_
 refine RW.nil ?_
 refine W.rg [(0, v), (7, .slice (some ⟨b, 0, none⟩) k k)] fun TA => ?_
 refine W.seq (W.region ?_)
 iterate 2 refine RW.v ?_
 refine RW.cpy H 0 (e := 79) (s := 6) (q := 1) (by kernel_rfl) (by kernel_rfl) rfl rfl rfl rfl rfl rfl rfl (by kernel_rfl) (by kernel_rfl) (slf_src hs (by decide) H.old) (Nat.min_eq_left hk) (by decide) (by rw [zerosN_len]; show 0 + 6 ≤ k * 6; omega) rfl (rowB_start (s := 6) rfl rfl hk) (by kernel_rfl) ?_
 clear H; intro _ H
 dsimp only [setL, delL] at H
 refine RW.v ?_
 refine RW.nil ?_
 refine W.rg [(7, .slice (some ⟨b, 0, none⟩) k k), (8, .int .i64 ((1 : Nat) : Int))] fun TA => ?_
 refine W.seq ?_
 refine W.block ?_
 refine W.loop (fun mm ta σ => ∃ (m : Nat), (mm + m = k) ∧ (0 < m) ∧ (m ≤ k) ∧ Lies G A F σ (.at_ b (.row ⟨rowB [.int .i64 32, .int .i64 0, .int .i64 0, .bool false, .bool false, .bool false] [.int .i64 0, .int .i64 0, .int .i64 0, .bool false, .bool false, .bool false] k m, 79, false⟩) :: (L)) ∧ ta 7 = .slice (some ⟨b, 0, none⟩) k k ∧ ta 8 = .int .i64 ((m : Nat) : Int)) (k - 1) ?_ ?_
 ·exact ⟨1, (by omega), (by omega), hk, H, rfl, rfl⟩
 clear H
 rintro mm ta _ ⟨m, hm, hm0, hmN, H, e7, e8⟩
 refine W.rst [(7, .slice (some ⟨b, 0, none⟩) k k), (8, .int .i64 ((m : Nat) : Int))] ⟨e7, e8, trivial⟩ fun TA => ?_
 clear e7 e8
 refine W.seq ?_
 refine W.seq (W.region ?_)
 iterate 4 refine RW.v ?_
 refine RW.nil ?_
 refine W.rg [(7, .slice (some ⟨b, 0, none⟩) k k), (8, .int .i64 ((m : Nat) : Int)), (37, .bool (decide (((m : Nat) : Int) < ((k : Nat) : Int))))] fun TA => ?_
 refine W.cond rfl (fun hc1 => ?_) (fun hc1 => ?_)
 ·have hc1b := hc1
  have hc1 := of_decide_eq_true hc1
  refine W.skip ?_
  refine W.block ?_
  refine W.drawn (by kernel_rfl) (by kernel_rfl) H.gn ?_
  have H2 := H
  iterate 3 refine RW.v ?_
  have hlt : m < k := by omega
  refine RW.vop (v := .slice (some ⟨b, m * 6, none⟩) (k - m) (k - m)) (by kernel_rfl) (by kernel_rfl) (vop_slice rfl (slice_fromB (e := 79) (s := 6) hlt (by kernel_rfl) (by kernel_rfl))) (by kernel_rfl) ?_
  iterate 2 refine RW.v ?_
  refine RW.vop (v := .slice (some ⟨b, 0, none⟩) m k) (by kernel_rfl) (by kernel_rfl) (vop_slice rfl (slice_toB (e := 79) (s := 6) hmN (by kernel_rfl) (by kernel_rfl) (by omega))) (by kernel_rfl) ?_
  have hrl : (rowB [.int .i64 32, .int .i64 0, .int .i64 0, .bool false, .bool false, .bool false] [.int .i64 0, .int .i64 0, .int .i64 0, .bool false, .bool false, .bool false] k m).length = k * 6 := rowB_len (s := 6) rfl rfl hmN
  refine RW.cpy H2 0 (e := 79) (s := 6) (n := m) (xs := ((rowB [.int .i64 32, .int .i64 0, .int .i64 0, .bool false, .bool false, .bool false] [.int .i64 0, .int .i64 0, .int .i64 0, .bool false, .bool false, .bool false] k m).drop 0).take (m * 6)) (q := (min m (k - m))) (by kernel_rfl) (by kernel_rfl) rfl rfl rfl rfl rfl rfl rfl (by kernel_rfl) (by kernel_rfl) (src_rowB (H2.get 0 rfl) (by omega) (by rw [hrl]; omega)) rfl (by omega) (by rw [List.length_take, List.length_take, List.drop_zero, hrl]; omega) (rowB_ones' rfl rfl _ _ _) (rowB_next (s := 6) rfl rfl (by omega) (by omega)) (by kernel_rfl) ?_
  intro _ H3
  dsimp only [setL, delL] at H3
  refine RW.valE (v' := .int .i64 ((m + min m (k - m) : Nat) : Int)) (by kernel_rfl) (by kernel_rfl) rfl (congrArg (Value.int .i64) ((wrap_in (by omega) (by omega)).trans (by omega))) (by kernel_rfl) ?_
  refine RW.v ?_
  refine RW.nil ?_
  refine ⟨⟨by kernel_rfl, ⟨trivial, trivial, trivial, trivial, trivial, trivial, trivial, trivial, trivial, trivial, trivial⟩⟩, ?_⟩
  replace H := H3
  clear H2 H3
  refine blkQ_normal ?_
  exact ⟨rfl, mm - (min m (k - m)), by omega, m + min m (k - m), (by omega), (by omega), (by omega), H, rfl, rfl⟩
 ·have hc1b := hc1
  have hc1 := of_decide_eq_false hc1
  refine W.exit _ ?_
  refine seqQ_exit ?_
  refine rndQ_exit ?_
  refine blkQ_here ?_
  refine W.seq (W.region ?_)
  iterate 2 refine RW.v ?_
  refine RW.nil ?_
  refine W.ret ?_
  refine endG (by rfl) (by exact resL_tmp rfl) ?_
  obtain rfl : m = k := by omega
  rw [rowB_full] at H
  exact ⟨_, rfl, H⟩
variable {width : Int}
end
end Go.Proofs.YtmmapljeeccdnaaDoor
namespace Go.Proofs.YtmmapljeeccdnaaDoor
set_option maxRecDepth 100000
theorem rowsV_app : ∀ {cs ps : List Value} {l : List RowV} (c p : Value) (r : RowV), cs.length = l.length → ps.length = l.length → rowsV (cs ++ [c]) (ps ++ [p]) (l ++ [r]) = rowsV cs ps l ++ [c, p, .int .i64 r.fr, .int .i64 r.to, .bool r.co]
 | [], [], [], _, _, _, _, _ => rfl
 | a :: cs, b :: ps, x :: l, c, p, r, h1, h2 => by
  show a :: b :: _ :: _ :: _ :: rowsV (cs ++ [c]) (ps ++ [p]) (l ++ [r]) = a :: b :: _ :: _ :: _ :: (rowsV cs ps l ++ _)
  rw [rowsV_app (l := l) c p r (by simpa using h1) (by simpa using h2)]
 | [], _ :: _, l, _, _, _, h1, h2 => by cases l <;> simp at h1 h2
 | _ :: _, [], l, _, _, _, h1, h2 => by cases l <;> simp at h1 h2
section
variable {G : Nat} {A : Abs} {σ : Mem} {F : Nat → Option Blk2} {L : List Ent}
end
end Go.Proofs.YtmmapljeeccdnaaDoor
namespace Go.Proofs.YtmmapljeeccdnaaDoor
set_option maxRecDepth 100000
def p1 (pos x : Int) : Bool := x == pos && x != -1
def p2 (pos x : Int) : Bool := decide (pos < x) && x != -1
def firstR (p : Int → Bool) : List RowV → Option (Nat × Nat)
 | [] => none
 | r :: l => match r.P.findIdx? p with
  | some k => some (0, k)
  | none => (firstR p l).map fun x => (x.1 + 1, x.2)
theorem firstR_hit {p : Int → Bool} : ∀ {l : List RowV} {i k : Nat}, (∀ j, j < i → (l.getD j default).P.findIdx? p = none) → i < l.length → (l.getD i default).P.findIdx? p = some k → firstR p l = some (i, k)
 | [], _, _, _, h, _ => absurd h (Nat.not_lt_zero _)
 | r :: l, 0, k, _, _, h => by
  have h : r.P.findIdx? p = some k := h
  unfold firstR
  rw [h]
 | r :: l, i + 1, k, h0, h1, h => by
  have e : r.P.findIdx? p = none := h0 0 (by omega)
  have := firstR_hit (l := l) (i := i) (k := k) (fun j hj => h0 (j + 1) (by omega)) (by simpa using h1) h
  unfold firstR
  rw [e]
  dsimp only
  rw [this]
  rfl
theorem firstR_miss {p : Int → Bool} : ∀ {l : List RowV}, (∀ j, j < l.length → (l.getD j default).P.findIdx? p = none) → firstR p l = none
 | [], _ => rfl
 | r :: l, h0 => by
  have e : r.P.findIdx? p = none := h0 0 (by simp)
  have := firstR_miss (l := l) fun j hj => h0 (j + 1) (by simpa using hj)
  unfold firstR
  rw [e]
  dsimp only
  rw [this]
  rfl
theorem idx_hit {p : Int → Bool} : ∀ {P : List Int} {k : Nat}, (∀ j, j < k → p (P.getD j 0) = false) → k < P.length → p (P.getD k 0) = true → P.findIdx? p = some k
 | [], _, _, h, _ => absurd h (Nat.not_lt_zero _)
 | x :: P, 0, _, _, h => by
  have h : p x = true := h
  simp [List.findIdx?_cons, h]
 | x :: P, k + 1, h0, h1, h => by
  have e : p x = false := h0 0 (by omega)
  have := idx_hit (P := P) (k := k) (fun j hj => h0 (j + 1) (by omega)) (by simpa using h1) h
  simp [List.findIdx?_cons, e, this]
theorem idx_miss {p : Int → Bool} {P : List Int} {k : Nat} (h : ∀ j, j < k → p (P.getD j 0) = false) (hk : k = P.length) : P.findIdx? p = none := by
 rw [List.findIdx?_eq_none_iff]
 intro x hx
 obtain ⟨j, hj⟩ := List.getElem?_of_mem hx
 have hj' := (List.getElem?_eq_some_iff.1 hj).1
 have := h j (by omega)
 rw [List.getD_eq_getElem?_getD, hj] at this
 simpa using this
def whereM (l : List RowV) (pos : Int) : Int × Int × Bool := match firstR (p1 pos) l with
 | some x => (x.1, x.2, true)
 | none => match firstR (p2 pos) l with
  | some x => (x.1, x.2, true)
  | none => (0, 0, false)
end Go.Proofs.YtmmapljeeccdnaaDoor
namespace Go.Proofs.YtmmapljeeccdnaaDoor
set_option maxRecDepth 100000
section
variable {G : Nat} {A : Abs} {σ : Mem} {F : Nat → Option Blk2} {L : List Ent} {l : List RowV} {cs ps : List Value} {v1 : Value} {pos : Int}
end
end Go.Proofs.YtmmapljeeccdnaaDoor
namespace Go.Proofs.YtmmapljeeccdnaaDoor
set_option maxRecDepth 100000
section
variable {G : Nat} {A : Abs} {σ : Mem} {F : Nat → Option Blk2} {L : List Ent} {l : List RowV} {cs ps : List Value} {v1 : Value} {pos : Int}
set_option maxHeartbeats 8000000 in
theorem p_where (h1 : SlF F 5 v1 l.length (rowsV cs ps l)) (a1 : AllRow F cs ps l) (hl : l.length ≤ 1000000) (hsm : ∀ r ∈ l, r.C.length ≤ 1000 ∧ r.P.length ≤ 1000) (H : Lies G A F σ L) : WC G Tryd.prog 21 #[v1, .int .i64 pos] σ fun v σ' => v = .tuple #[.int .i64 (whereM l pos).1, .int .i64 (whereM l pos).2.1, .bool (whereM l pos).2.2] ∧ Lies G A F σ' L := by
 refine WC.enter (fn := Tryd.f21) Tryd.func21 rfl ?_
 refine W.rg [(0, v1), (1, .int .i64 pos)] fun TA => ?_
 refine W.seq (W.region ?_)
 refine RW.mk H (.row ⟨[.int .i64 pos], 3, false⟩) ?_
 clear H; intro _ b1 _ H
 iterate 3 refine RW.v ?_
 refine RW.nil ?_
 refine W.rg [(0, v1), (3, .pointer (some ⟨b1, 0, none⟩))] fun TA => ?_
 refine W.seq ?_
 refine W.seq (W.region ?_)
 refine RW.val (v := .func (.func 43) #[] #[.pointer (some ⟨b1, 0, none⟩)]) (by kernel_rfl) (by kernel_rfl) (by kernel_rfl) (by kernel_rfl) ?_
 refine RW.val (v := .func (.func 44) #[] #[.pointer (some ⟨b1, 0, none⟩)]) (by kernel_rfl) (by kernel_rfl) (by kernel_rfl) (by kernel_rfl) ?_
 refine RW.val (v := .agg #[.func (.func 43) #[] #[.pointer (some ⟨b1, 0, none⟩)], .func (.func 44) #[] #[.pointer (some ⟨b1, 0, none⟩)]]) (by kernel_rfl) (by kernel_rfl) (by kernel_rfl) (by kernel_rfl) ?_
 refine RW.v ?_
 refine RW.nil ?_
 refine W.rg [(0, v1), (14, .agg #[.func (.func 43) #[] #[.pointer (some ⟨b1, 0, none⟩)], .func (.func 44) #[] #[.pointer (some ⟨b1, 0, none⟩)]]), (15, .int .i64 0)] fun TA => ?_
 refine W.block ?_
 refine W.unroll (WL.once ?_)
 refine W.seq (W.region ?_)
 refine RW.v ?_
 refine RW.nil ?_
 refine W.rg [(0, v1), (14, .agg #[.func (.func 43) #[] #[.pointer (some ⟨b1, 0, none⟩)], .func (.func 44) #[] #[.pointer (some ⟨b1, 0, none⟩)]]), (15, .int .i64 0), (16, .bool true)] fun TA => ?_
 refine W.seq ?_
 refine W.c1 ?_
 refine W.skip ?_
 refine W.seq ?_
 refine W.block ?_
 refine W.seq (W.region ?_)
 refine RW.val (v := .func (.func 43) #[] #[.pointer (some ⟨b1, 0, none⟩)]) (by kernel_rfl) (by kernel_rfl) (by kernel_rfl) (by kernel_rfl) ?_
 refine RW.mk H (.row ⟨[.nilFunc], 80, false⟩) ?_
 clear H; intro _ b2 _ H
 refine RW.st H 0 [.func (.func 43) #[] #[pt b1]] [.func (.func 43) #[] #[pt b1]] ?_
 clear H; intro _ _ H; dsimp only [setL, delL] at H
 refine RW.nil ?_
 refine W.rg [(0, v1), (8, .pointer (some ⟨b2, 0, none⟩)), (14, .agg #[.func (.func 43) #[] #[.pointer (some ⟨b1, 0, none⟩)], .func (.func 44) #[] #[.pointer (some ⟨b1, 0, none⟩)]]), (15, .int .i64 0)] fun TA => ?_
 refine W.seq (W.region ?_)
 refine RW.v ?_
 refine RW.len (by kernel_rfl) (by kernel_rfl) rfl rfl rfl rfl (h1.len (e := 39) (by kernel_rfl)) (by kernel_rfl) ?_
 refine RW.v ?_
 refine RW.nil ?_
 refine W.rg [(0, v1), (8, .pointer (some ⟨b2, 0, none⟩)), (14, .agg #[.func (.func 43) #[] #[.pointer (some ⟨b1, 0, none⟩)], .func (.func 44) #[] #[.pointer (some ⟨b1, 0, none⟩)]]), (15, .int .i64 0), (18, v1), (19, .int .i64 (l.length : Int)), (20, .int .i64 0)] fun TA => ?_
 refine W.block ?_
 refine W.loop (fun mm ta σ => ∃ (i : Nat), (mm + i = l.length) ∧ (∀ j, j < i → (l.getD j default).P.findIdx? (p1 pos) = none) ∧ Lies G A F σ (.at_ b2 (.row ⟨[.func (.func 43) #[] #[.pointer (some ⟨b1, 0, none⟩)]], 80, false⟩) :: .at_ b1 (.row ⟨[.int .i64 pos], 3, false⟩) :: (L)) ∧ ta 0 = v1 ∧ ta 8 = .pointer (some ⟨b2, 0, none⟩) ∧ ta 14 = .agg #[.func (.func 43) #[] #[.pointer (some ⟨b1, 0, none⟩)], .func (.func 44) #[] #[.pointer (some ⟨b1, 0, none⟩)]] ∧ ta 15 = .int .i64 0 ∧ ta 18 = v1 ∧ ta 19 = .int .i64 (l.length : Int) ∧ ta 20 = .int .i64 ((i : Nat) : Int)) l.length ?_ ?_
 ·exact ⟨0, (by omega), (fun j hj => absurd hj (Nat.not_lt_zero _)), H, rfl, rfl, rfl, rfl, rfl, rfl, rfl⟩
 clear H
 rintro mm ta _ ⟨i, hm, hi1, H, e0, e8, e14, e15, e18, e19, e20⟩
 refine W.rst [(0, v1), (8, .pointer (some ⟨b2, 0, none⟩)), (14, .agg #[.func (.func 43) #[] #[.pointer (some ⟨b1, 0, none⟩)], .func (.func 44) #[] #[.pointer (some ⟨b1, 0, none⟩)]]), (15, .int .i64 0), (18, v1), (19, .int .i64 (l.length : Int)), (20, .int .i64 ((i : Nat) : Int))] ⟨e0, e8, e14, e15, e18, e19, e20, trivial⟩ fun TA => ?_
 clear e0 e8 e14 e15 e18 e19 e20
 refine W.seq (W.region ?_)
 refine RW.v ?_
 refine RW.nil ?_
 refine W.rg [(0, v1), (8, .pointer (some ⟨b2, 0, none⟩)), (14, .agg #[.func (.func 43) #[] #[.pointer (some ⟨b1, 0, none⟩)], .func (.func 44) #[] #[.pointer (some ⟨b1, 0, none⟩)]]), (15, .int .i64 0), (18, v1), (19, .int .i64 (l.length : Int)), (20, .int .i64 ((i : Nat) : Int)), (21, .bool (decide (((i : Nat) : Int) < (l.length : Int))))] fun TA => ?_
 refine W.seq ?_
 refine W.cond rfl (fun hc3 => ?_) (fun hc3 => ?_)
 ·have hc3b := hc3
  have hc3 := of_decide_eq_true hc3
  have hil : i < l.length := by omega
  have hz := hsm _ (rowD_mem hil)
  refine W.skip ?_
  refine W.seq ?_
  refine W.block ?_
  refine W.seq (W.region ?_)
  refine RW.v ?_
  refine RW.idxF h1 (by kernel_rfl) (by kernel_rfl) rfl Tryd.underlying27 (by kernel_rfl) rfl rfl ⟨by omega, by omega⟩ (by kernel_rfl) ?_
  intro b4 q5 r6 hF7 hE8
  rw [rowsV_ati (l := l) (j := i) a1.1 a1.2.1 (by omega)] at hE8
  refine RW.loads 5 (by kernel_rfl) (by kernel_rfl) rfl rfl (H.old _ _ hF7) hE8 rfl (by kernel_rfl) ?_
  refine RW.mk H (.row ⟨[.slice none 0 0, .slice none 0 0, .int .i64 0, .int .i64 0, .bool false], 39, false⟩) ?_
  clear H; intro _ b9 _ H
  refine RW.v ?_
  refine RW.stL H 0 (vs := [(cs.getD i undef), (ps.getD i undef), .int .i64 ((l.getD i default).fr), .int .i64 ((l.getD i default).to), .bool ((l.getD i default).co)]) (cs' := [(cs.getD i undef), (ps.getD i undef), .int .i64 ((l.getD i default).fr), .int .i64 ((l.getD i default).to), .bool ((l.getD i default).co)]) (by kernel_rfl) (by kernel_rfl) rfl rfl rfl (by rcases slf_forms (a1.2.2 i (by omega)).1 with e0 | ⟨_, e0⟩ | ⟨_, _, _, _, _, e0⟩ <;> rcases slf_forms (a1.2.2 i (by omega)).2 with e1 | ⟨_, e1⟩ | ⟨_, _, _, _, _, e1⟩ <;> rw [e0, e1] <;> rfl) (by rcases slf_forms (a1.2.2 i (by omega)).1 with e0 | ⟨_, e0⟩ | ⟨_, _, _, _, _, e0⟩ <;> rcases slf_forms (a1.2.2 i (by omega)).2 with e1 | ⟨_, e1⟩ | ⟨_, _, _, _, _, e1⟩ <;> rw [e0, e1] <;> rfl) (by kernel_rfl) (Nat.le_of_ble_eq_true rfl) rfl (by kernel_rfl) ?_
  clear H; intro _ _ H; dsimp only [setL, delL] at H
  refine RW.nil ?_
  refine W.rg [(0, v1), (8, .pointer (some ⟨b2, 0, none⟩)), (9, .int .i64 ((i : Nat) : Int)), (10, .pointer (some ⟨b9, 0, none⟩)), (14, .agg #[.func (.func 43) #[] #[.pointer (some ⟨b1, 0, none⟩)], .func (.func 44) #[] #[.pointer (some ⟨b1, 0, none⟩)]]), (15, .int .i64 0), (18, v1), (19, .int .i64 (l.length : Int)), (20, .int .i64 ((i : Nat) : Int))] fun TA => ?_
  refine W.seq (W.region ?_)
  refine RW.v ?_
  refine RW.ld H 0 1 ?_
  refine RW.val (v := .func (.func 46) #[] #[.pointer (some ⟨b2, 0, none⟩)]) (by kernel_rfl) (by kernel_rfl) (by kernel_rfl) (by kernel_rfl) ?_
  refine RW.cl ?_
  refine WC.enter (fn := Tryd.f45) Tryd.func45 rfl ?_
  refine W.rg [(0, (ps.getD i undef)), (1, .func (.func 46) #[] #[.pointer (some ⟨b2, 0, none⟩)])] fun TA => ?_
  refine W.seq (W.region ?_)
  refine RW.v ?_
  refine RW.nil ?_
  refine W.rg [(0, (ps.getD i undef)), (1, .func (.func 46) #[] #[.pointer (some ⟨b2, 0, none⟩)])] fun TA => ?_
  refine W.seq ?_
  refine W.seq (W.region ?_)
  refine RW.v ?_
  refine RW.len (by kernel_rfl) (by kernel_rfl) rfl rfl rfl rfl ((a1.2.2 i (by omega)).2.len (e := 3) (by kernel_rfl)) (by kernel_rfl) ?_
  refine RW.v ?_
  refine RW.nil ?_
  refine W.rg [(0, (ps.getD i undef)), (1, .func (.func 46) #[] #[.pointer (some ⟨b2, 0, none⟩)]), (7, .int .i64 ((l.getD i default).P.length : Int)), (8, .int .i64 0)] fun TA => ?_
  refine W.block ?_
  refine W.loop (fun mm2 ta σ => ∃ (k : Nat), (mm2 + k = (l.getD i default).P.length) ∧ (∀ j, j < k → p1 pos ((l.getD i default).P.getD j 0) = false) ∧ Lies G A F σ (.at_ b9 (.row ⟨[(cs.getD i undef), (ps.getD i undef), .int .i64 ((l.getD i default).fr), .int .i64 ((l.getD i default).to), .bool ((l.getD i default).co)], 39, false⟩) :: .at_ b2 (.row ⟨[.func (.func 43) #[] #[.pointer (some ⟨b1, 0, none⟩)]], 80, false⟩) :: .at_ b1 (.row ⟨[.int .i64 pos], 3, false⟩) :: (L)) ∧ ta 0 = (ps.getD i undef) ∧ ta 1 = .func (.func 46) #[] #[.pointer (some ⟨b2, 0, none⟩)] ∧ ta 7 = .int .i64 ((l.getD i default).P.length : Int) ∧ ta 8 = .int .i64 ((k : Nat) : Int)) ((l.getD i default).P.length) ?_ ?_
  ·exact ⟨0, (by omega), (fun j hj => absurd hj (Nat.not_lt_zero _)), H, rfl, rfl, rfl, rfl⟩
  clear H
  rintro mm2 ta _ ⟨k, hm2, hk2, H, e0, e1, e7, e8⟩
  refine W.rst [(0, (ps.getD i undef)), (1, .func (.func 46) #[] #[.pointer (some ⟨b2, 0, none⟩)]), (7, .int .i64 ((l.getD i default).P.length : Int)), (8, .int .i64 ((k : Nat) : Int))] ⟨e0, e1, e7, e8, trivial⟩ fun TA => ?_
  clear e0 e1 e7 e8
  refine W.seq (W.region ?_)
  refine RW.v ?_
  refine RW.nil ?_
  refine W.rg [(0, (ps.getD i undef)), (1, .func (.func 46) #[] #[.pointer (some ⟨b2, 0, none⟩)]), (7, .int .i64 ((l.getD i default).P.length : Int)), (8, .int .i64 ((k : Nat) : Int)), (9, .bool (decide (((k : Nat) : Int) < ((l.getD i default).P.length : Int))))] fun TA => ?_
  refine W.seq ?_
  refine W.cond rfl (fun hc10 => ?_) (fun hc10 => ?_)
  ·have hc10b := hc10
   have hc10 := of_decide_eq_true hc10
   refine W.skip ?_
   refine W.seq ?_
   refine W.block ?_
   refine W.seq (W.region ?_)
   iterate 2 refine RW.v ?_
   refine RW.nil ?_
   refine W.rg [(0, (ps.getD i undef)), (1, .func (.func 46) #[] #[.pointer (some ⟨b2, 0, none⟩)]), (5, .int .i64 ((k : Nat) : Int)), (7, .int .i64 ((l.getD i default).P.length : Int)), (8, .int .i64 ((k : Nat) : Int))] fun TA => ?_
   refine W.seq (W.region ?_)
   iterate 3 refine RW.v ?_
   refine RW.idxF (a1.2.2 i (by omega)).2 (by kernel_rfl) (by kernel_rfl) rfl Tryd.underlying37 (by kernel_rfl) rfl rfl ⟨by omega, by omega⟩ (by kernel_rfl) ?_
   intro b11 q12 r13 hF14 hE15
   rw [ints_at (l := (l.getD i default).P) (j := k) (by omega)] at hE15
   refine RW.loads 1 (by kernel_rfl) (by kernel_rfl) rfl rfl (H.old _ _ hF14) hE15 rfl (by kernel_rfl) ?_
   refine RW.cl ?_
   refine WC.enter (fn := Tryd.f46) Tryd.func46 rfl ?_
   refine W.rg [(0, .int .i64 ((l.getD i default).P.getD k 0)), (1, .pointer (some ⟨b2, 0, none⟩))] fun TA => ?_
   refine W.seq (W.region ?_)
   refine RW.v ?_
   refine RW.nil ?_
   refine W.rg [(0, .int .i64 ((l.getD i default).P.getD k 0)), (1, .pointer (some ⟨b2, 0, none⟩))] fun TA => ?_
   refine W.seq (W.region ?_)
   iterate 3 refine RW.v ?_
   refine RW.both _ _ rfl rfl rfl (fun hc16 => ?_) (fun hc16 => ?_)
   ·have hc16b := hc16
    have hc16 := bne_iff_ne.1 hc16
    refine RW.ldL H 1 1 (by rfl) (by kernel_rfl) rfl rfl rfl rfl rfl (by kernel_rfl) ?_
    refine RW.val (by rfl) (by kernel_rfl) rfl (by kernel_rfl) ?_
    refine RW.cl (hw := by rfl) ?_
    refine WC.enter (fn := Tryd.f43) Tryd.func43 rfl ?_
    refine W.rg [(0, .int .i64 ((l.getD i default).P.getD k 0)), (1, .pointer (some ⟨b1, 0, none⟩))] fun TA => ?_
    refine W.seq (W.region ?_)
    refine RW.v ?_
    refine RW.nil ?_
    refine W.rg [(0, .int .i64 ((l.getD i default).P.getD k 0)), (1, .pointer (some ⟨b1, 0, none⟩))] fun TA => ?_
    refine W.seq (W.region ?_)
    refine RW.v ?_
    refine RW.ld H 2 1 ?_
    iterate 2 refine RW.v ?_
    refine RW.nil ?_
    refine W.ret ?_
    refine endG (by rfl) (by exact resL_tmp rfl) ?_
    iterate 2 refine RW.v ?_
    refine RW.nil ?_
    refine W.ret ?_
    refine endG (by rfl) (by exact resL_tmp rfl) ?_
    refine RW.nil ?_
    refine W.rg [(0, (ps.getD i undef)), (1, .func (.func 46) #[] #[.pointer (some ⟨b2, 0, none⟩)]), (5, .int .i64 ((k : Nat) : Int)), (7, .int .i64 ((l.getD i default).P.length : Int)), (8, .int .i64 ((k : Nat) : Int)), (16, .bool (((l.getD i default).P.getD k 0) == pos))] fun TA => ?_
    refine W.cond rfl (fun hc17 => ?_) (fun hc17 => ?_)
    ·have hc17b := hc17
     have hc17 := eq_of_beq hc17
     refine W.seq (W.region ?_)
     iterate 2 refine RW.v ?_
     refine RW.nil ?_
     refine W.ret ?_
     refine blkQ_ret ?_
     refine seqQ_ret ?_
     refine rndQ_ret ?_
     refine blkQ_ret ?_
     refine seqQ_ret ?_
     refine endG (by rfl) (by exact resL_tmp rfl) ?_
     refine RW.v ?_
     refine RW.nil ?_
     replace H := (H.del 0)
     dsimp only [setL, delL] at H
     refine W.rg [(0, v1), (8, .pointer (some ⟨b2, 0, none⟩)), (9, .int .i64 ((i : Nat) : Int)), (11, .int .i64 ((k : Nat) : Int)), (14, .agg #[.func (.func 43) #[] #[.pointer (some ⟨b1, 0, none⟩)], .func (.func 44) #[] #[.pointer (some ⟨b1, 0, none⟩)]]), (15, .int .i64 0), (18, v1), (19, .int .i64 (l.length : Int)), (20, .int .i64 ((i : Nat) : Int))] fun TA => ?_
     refine W.seq (W.region ?_)
     refine RW.v ?_
     refine RW.valE (v' := .bool true) (by kernel_rfl) (by kernel_rfl) rfl (congrArg Value.bool (decide_eq_true (by omega))) (by kernel_rfl) ?_
     refine RW.nil ?_
     refine W.c1 ?_
     refine W.seq (W.region ?_)
     iterate 5 refine RW.v ?_
     refine RW.nil ?_
     replace H := ((H.del 1).del 0)
     dsimp only [setL, delL] at H
     refine W.ret ?_
     refine blkQ_ret ?_
     refine seqQ_ret ?_
     refine rndQ_ret ?_
     refine blkQ_ret ?_
     refine blkQ_ret ?_
     refine seqQ_ret ?_
     refine onceQ_ret ?_
     refine blkQ_ret ?_
     refine seqQ_ret ?_
     refine endG (by rfl) (by exact resL_tmp (by exact resL_tmp (by exact resL_tmp rfl))) ?_
     have hp : p1 pos ((l.getD i default).P.getD k 0) = true := by unfold p1; rw [Bool.and_eq_true]; constructor <;> first | (exact decide_eq_true (by omega)) | (exact beq_iff_eq.2 (by omega)) | (exact bne_iff_ne.2 (by omega))
     have e := firstR_hit hi1 hil (idx_hit hk2 (by omega) hp)
     have ew : whereM l pos = ((i : Int), (k : Int), true) := by unfold whereM; rw [e]
     rw [ew]
     exact ⟨rfl, H⟩
    ·have hc17b := hc17
     have hc17 := ne_of_beq_false hc17
     refine W.skip ?_
     refine blkQ_normal ?_
     refine W.region ?_
     refine RW.valE (v' := .int .i64 (((k : Nat) : Int) + 1)) (by kernel_rfl) (by kernel_rfl) rfl (congrArg (Value.int .i64) (wrap_in (by omega) (by omega))) (by kernel_rfl) ?_
     refine RW.v ?_
     refine RW.nil ?_
     have hp : p1 pos ((l.getD i default).P.getD k 0) = false := by unfold p1; rw [Bool.and_eq_false_iff]; first | (left; exact decide_eq_false (by omega)) | (left; exact beq_eq_false_iff_ne.2 (by omega)) | (right; exact bne_eq_false_iff_eq.2 (by omega))
     exact ⟨rfl, mm2 - 1, by omega, k + 1, (by omega), (fun j hj => (Nat.lt_or_ge j k).elim (fun h => hk2 j h) fun h => (show k = j by omega) ▸ hp), H, rfl, rfl, rfl, rfl⟩
   ·have hc16b := hc16
    have hc16 := (bne_eq_false_iff_eq.1) hc16
    refine RW.skip (by rfl) (by kernel_rfl) ?_
    refine RW.skip (by rfl) (by kernel_rfl) ?_
    refine RW.skip (by rfl) (by kernel_rfl) ?_
    iterate 2 refine RW.v ?_
    refine RW.nil ?_
    refine W.ret ?_
    refine endG (by rfl) (by exact resL_tmp rfl) ?_
    refine RW.nil ?_
    refine W.c0 ?_
    refine W.skip ?_
    refine blkQ_normal ?_
    refine W.region ?_
    refine RW.valE (v' := .int .i64 (((k : Nat) : Int) + 1)) (by kernel_rfl) (by kernel_rfl) rfl (congrArg (Value.int .i64) (wrap_in (by omega) (by omega))) (by kernel_rfl) ?_
    refine RW.v ?_
    refine RW.nil ?_
    have hp : p1 pos ((l.getD i default).P.getD k 0) = false := by unfold p1; rw [Bool.and_eq_false_iff]; first | (left; exact decide_eq_false (by omega)) | (left; exact beq_eq_false_iff_ne.2 (by omega)) | (right; exact bne_eq_false_iff_eq.2 (by omega))
    exact ⟨rfl, mm2 - 1, by omega, k + 1, (by omega), (fun j hj => (Nat.lt_or_ge j k).elim (fun h => hk2 j h) fun h => (show k = j by omega) ▸ hp), H, rfl, rfl, rfl, rfl⟩
  ·have hc10b := hc10
   have hc10 := of_decide_eq_false hc10
   refine W.exit _ ?_
   refine seqQ_exit ?_
   refine rndQ_exit ?_
   refine blkQ_here ?_
   refine W.seq (W.region ?_)
   refine RW.v ?_
   refine RW.nil ?_
   refine W.ret ?_
   refine endG (by rfl) (by exact resL_tmp rfl) ?_
   refine RW.v ?_
   refine RW.nil ?_
   replace H := (H.del 0)
   dsimp only [setL, delL] at H
   refine W.rg [(0, v1), (8, .pointer (some ⟨b2, 0, none⟩)), (9, .int .i64 ((i : Nat) : Int)), (11, .int .i64 (-1)), (14, .agg #[.func (.func 43) #[] #[.pointer (some ⟨b1, 0, none⟩)], .func (.func 44) #[] #[.pointer (some ⟨b1, 0, none⟩)]]), (15, .int .i64 0), (18, v1), (19, .int .i64 (l.length : Int)), (20, .int .i64 ((i : Nat) : Int))] fun TA => ?_
   refine W.seq (W.region ?_)
   refine RW.v ?_
   have hnone := idx_miss hk2 (by omega)
   refine RW.v ?_
   refine RW.nil ?_
   refine W.c0 ?_
   refine W.skip ?_
   refine blkQ_normal ?_
   refine W.region ?_
   refine RW.valE (v' := .int .i64 (((i : Nat) : Int) + 1)) (by kernel_rfl) (by kernel_rfl) rfl (congrArg (Value.int .i64) (wrap_in (by omega) (by omega))) (by kernel_rfl) ?_
   refine RW.v ?_
   refine RW.nil ?_
   exact ⟨rfl, mm - 1, by omega, i + 1, (by omega), (fun j hj => (Nat.lt_or_ge j i).elim (fun h => hi1 j h) fun h => (show i = j by omega) ▸ hnone), H, rfl, rfl, rfl, rfl, rfl, rfl, rfl⟩
 ·have hc3b := hc3
  have hc3 := of_decide_eq_false hc3
  refine W.exit _ ?_
  refine seqQ_exit ?_
  refine rndQ_exit ?_
  have hp1 : firstR (p1 pos) l = none := firstR_miss fun j hj => hi1 j (by omega)
  refine blkQ_here ?_
  refine blkQ_normal ?_
  refine W.region ?_
  iterate 2 refine RW.v ?_
  refine RW.nil ?_
  replace H := (H.del 0)
  dsimp only [setL, delL] at H
  refine WL.once ?_
  refine W.rg [(0, v1), (14, .agg #[.func (.func 43) #[] #[.pointer (some ⟨b1, 0, none⟩)], .func (.func 44) #[] #[.pointer (some ⟨b1, 0, none⟩)]]), (15, .int .i64 1)] fun TA => ?_
  refine W.seq (W.region ?_)
  refine RW.v ?_
  refine RW.nil ?_
  refine W.rg [(0, v1), (14, .agg #[.func (.func 43) #[] #[.pointer (some ⟨b1, 0, none⟩)], .func (.func 44) #[] #[.pointer (some ⟨b1, 0, none⟩)]]), (15, .int .i64 1), (16, .bool true)] fun TA => ?_
  refine W.seq ?_
  refine W.c1 ?_
  refine W.skip ?_
  refine W.seq ?_
  refine W.block ?_
  refine W.seq (W.region ?_)
  refine RW.val (v := .func (.func 44) #[] #[.pointer (some ⟨b1, 0, none⟩)]) (by kernel_rfl) (by kernel_rfl) (by kernel_rfl) (by kernel_rfl) ?_
  refine RW.mk H (.row ⟨[.nilFunc], 80, false⟩) ?_
  clear H; intro _ b18 _ H
  refine RW.st H 0 [.func (.func 44) #[] #[pt b1]] [.func (.func 44) #[] #[pt b1]] ?_
  clear H; intro _ _ H; dsimp only [setL, delL] at H
  refine RW.nil ?_
  refine W.rg [(0, v1), (8, .pointer (some ⟨b18, 0, none⟩)), (14, .agg #[.func (.func 43) #[] #[.pointer (some ⟨b1, 0, none⟩)], .func (.func 44) #[] #[.pointer (some ⟨b1, 0, none⟩)]]), (15, .int .i64 1)] fun TA => ?_
  refine W.seq (W.region ?_)
  refine RW.v ?_
  refine RW.len (by kernel_rfl) (by kernel_rfl) rfl rfl rfl rfl (h1.len (e := 39) (by kernel_rfl)) (by kernel_rfl) ?_
  refine RW.v ?_
  refine RW.nil ?_
  refine W.rg [(0, v1), (8, .pointer (some ⟨b18, 0, none⟩)), (14, .agg #[.func (.func 43) #[] #[.pointer (some ⟨b1, 0, none⟩)], .func (.func 44) #[] #[.pointer (some ⟨b1, 0, none⟩)]]), (15, .int .i64 1), (18, v1), (19, .int .i64 (l.length : Int)), (20, .int .i64 0)] fun TA => ?_
  refine W.block ?_
  refine W.loop (fun mm ta σ => ∃ (i : Nat), (mm + i = l.length) ∧ (∀ j, j < i → (l.getD j default).P.findIdx? (p2 pos) = none) ∧ Lies G A F σ (.at_ b18 (.row ⟨[.func (.func 44) #[] #[.pointer (some ⟨b1, 0, none⟩)]], 80, false⟩) :: .at_ b1 (.row ⟨[.int .i64 pos], 3, false⟩) :: (L)) ∧ ta 0 = v1 ∧ ta 8 = .pointer (some ⟨b18, 0, none⟩) ∧ ta 14 = .agg #[.func (.func 43) #[] #[.pointer (some ⟨b1, 0, none⟩)], .func (.func 44) #[] #[.pointer (some ⟨b1, 0, none⟩)]] ∧ ta 15 = .int .i64 1 ∧ ta 18 = v1 ∧ ta 19 = .int .i64 (l.length : Int) ∧ ta 20 = .int .i64 ((i : Nat) : Int)) l.length ?_ ?_
  ·exact ⟨0, (by omega), (fun j hj => absurd hj (Nat.not_lt_zero _)), H, rfl, rfl, rfl, rfl, rfl, rfl, rfl⟩
  clear H
  rintro mm ta _ ⟨i, hm, hi1, H, e0, e8, e14, e15, e18, e19, e20⟩
  refine W.rst [(0, v1), (8, .pointer (some ⟨b18, 0, none⟩)), (14, .agg #[.func (.func 43) #[] #[.pointer (some ⟨b1, 0, none⟩)], .func (.func 44) #[] #[.pointer (some ⟨b1, 0, none⟩)]]), (15, .int .i64 1), (18, v1), (19, .int .i64 (l.length : Int)), (20, .int .i64 ((i : Nat) : Int))] ⟨e0, e8, e14, e15, e18, e19, e20, trivial⟩ fun TA => ?_
  clear e0 e8 e14 e15 e18 e19 e20
  refine W.seq (W.region ?_)
  refine RW.v ?_
  refine RW.nil ?_
  refine W.rg [(0, v1), (8, .pointer (some ⟨b18, 0, none⟩)), (14, .agg #[.func (.func 43) #[] #[.pointer (some ⟨b1, 0, none⟩)], .func (.func 44) #[] #[.pointer (some ⟨b1, 0, none⟩)]]), (15, .int .i64 1), (18, v1), (19, .int .i64 (l.length : Int)), (20, .int .i64 ((i : Nat) : Int)), (21, .bool (decide (((i : Nat) : Int) < (l.length : Int))))] fun TA => ?_
  refine W.seq ?_
  refine W.cond rfl (fun hc19 => ?_) (fun hc19 => ?_)
  ·have hc19b := hc19
   have hc19 := of_decide_eq_true hc19
   have hil : i < l.length := by omega
   have hz := hsm _ (rowD_mem hil)
   refine W.skip ?_
   refine W.seq ?_
   refine W.block ?_
   refine W.seq (W.region ?_)
   refine RW.v ?_
   refine RW.idxF h1 (by kernel_rfl) (by kernel_rfl) rfl Tryd.underlying27 (by kernel_rfl) rfl rfl ⟨by omega, by omega⟩ (by kernel_rfl) ?_
   intro b20 q21 r22 hF23 hE24
   rw [rowsV_ati (l := l) (j := i) a1.1 a1.2.1 (by omega)] at hE24
   refine RW.loads 5 (by kernel_rfl) (by kernel_rfl) rfl rfl (H.old _ _ hF23) hE24 rfl (by kernel_rfl) ?_
   refine RW.mk H (.row ⟨[.slice none 0 0, .slice none 0 0, .int .i64 0, .int .i64 0, .bool false], 39, false⟩) ?_
   clear H; intro _ b25 _ H
   refine RW.v ?_
   refine RW.stL H 0 (vs := [(cs.getD i undef), (ps.getD i undef), .int .i64 ((l.getD i default).fr), .int .i64 ((l.getD i default).to), .bool ((l.getD i default).co)]) (cs' := [(cs.getD i undef), (ps.getD i undef), .int .i64 ((l.getD i default).fr), .int .i64 ((l.getD i default).to), .bool ((l.getD i default).co)]) (by kernel_rfl) (by kernel_rfl) rfl rfl rfl (by rcases slf_forms (a1.2.2 i (by omega)).1 with e0 | ⟨_, e0⟩ | ⟨_, _, _, _, _, e0⟩ <;> rcases slf_forms (a1.2.2 i (by omega)).2 with e1 | ⟨_, e1⟩ | ⟨_, _, _, _, _, e1⟩ <;> rw [e0, e1] <;> rfl) (by rcases slf_forms (a1.2.2 i (by omega)).1 with e0 | ⟨_, e0⟩ | ⟨_, _, _, _, _, e0⟩ <;> rcases slf_forms (a1.2.2 i (by omega)).2 with e1 | ⟨_, e1⟩ | ⟨_, _, _, _, _, e1⟩ <;> rw [e0, e1] <;> rfl) (by kernel_rfl) (Nat.le_of_ble_eq_true rfl) rfl (by kernel_rfl) ?_
   clear H; intro _ _ H; dsimp only [setL, delL] at H
   refine RW.nil ?_
   refine W.rg [(0, v1), (8, .pointer (some ⟨b18, 0, none⟩)), (9, .int .i64 ((i : Nat) : Int)), (10, .pointer (some ⟨b25, 0, none⟩)), (14, .agg #[.func (.func 43) #[] #[.pointer (some ⟨b1, 0, none⟩)], .func (.func 44) #[] #[.pointer (some ⟨b1, 0, none⟩)]]), (15, .int .i64 1), (18, v1), (19, .int .i64 (l.length : Int)), (20, .int .i64 ((i : Nat) : Int))] fun TA => ?_
   refine W.seq (W.region ?_)
   refine RW.v ?_
   refine RW.ld H 0 1 ?_
   refine RW.val (v := .func (.func 46) #[] #[.pointer (some ⟨b18, 0, none⟩)]) (by kernel_rfl) (by kernel_rfl) (by kernel_rfl) (by kernel_rfl) ?_
   refine RW.cl ?_
   refine WC.enter (fn := Tryd.f45) Tryd.func45 rfl ?_
   refine W.rg [(0, (ps.getD i undef)), (1, .func (.func 46) #[] #[.pointer (some ⟨b18, 0, none⟩)])] fun TA => ?_
   refine W.seq (W.region ?_)
   refine RW.v ?_
   refine RW.nil ?_
   refine W.rg [(0, (ps.getD i undef)), (1, .func (.func 46) #[] #[.pointer (some ⟨b18, 0, none⟩)])] fun TA => ?_
   refine W.seq ?_
   refine W.seq (W.region ?_)
   refine RW.v ?_
   refine RW.len (by kernel_rfl) (by kernel_rfl) rfl rfl rfl rfl ((a1.2.2 i (by omega)).2.len (e := 3) (by kernel_rfl)) (by kernel_rfl) ?_
   refine RW.v ?_
   refine RW.nil ?_
   refine W.rg [(0, (ps.getD i undef)), (1, .func (.func 46) #[] #[.pointer (some ⟨b18, 0, none⟩)]), (7, .int .i64 ((l.getD i default).P.length : Int)), (8, .int .i64 0)] fun TA => ?_
   refine W.block ?_
   refine W.loop (fun mm2 ta σ => ∃ (k : Nat), (mm2 + k = (l.getD i default).P.length) ∧ (∀ j, j < k → p2 pos ((l.getD i default).P.getD j 0) = false) ∧ Lies G A F σ (.at_ b25 (.row ⟨[(cs.getD i undef), (ps.getD i undef), .int .i64 ((l.getD i default).fr), .int .i64 ((l.getD i default).to), .bool ((l.getD i default).co)], 39, false⟩) :: .at_ b18 (.row ⟨[.func (.func 44) #[] #[.pointer (some ⟨b1, 0, none⟩)]], 80, false⟩) :: .at_ b1 (.row ⟨[.int .i64 pos], 3, false⟩) :: (L)) ∧ ta 0 = (ps.getD i undef) ∧ ta 1 = .func (.func 46) #[] #[.pointer (some ⟨b18, 0, none⟩)] ∧ ta 7 = .int .i64 ((l.getD i default).P.length : Int) ∧ ta 8 = .int .i64 ((k : Nat) : Int)) ((l.getD i default).P.length) ?_ ?_
   ·exact ⟨0, (by omega), (fun j hj => absurd hj (Nat.not_lt_zero _)), H, rfl, rfl, rfl, rfl⟩
   clear H
   rintro mm2 ta _ ⟨k, hm2, hk2, H, e0, e1, e7, e8⟩
   refine W.rst [(0, (ps.getD i undef)), (1, .func (.func 46) #[] #[.pointer (some ⟨b18, 0, none⟩)]), (7, .int .i64 ((l.getD i default).P.length : Int)), (8, .int .i64 ((k : Nat) : Int))] ⟨e0, e1, e7, e8, trivial⟩ fun TA => ?_
   clear e0 e1 e7 e8
   refine W.seq (W.region ?_)
   refine RW.v ?_
   refine RW.nil ?_
   refine W.rg [(0, (ps.getD i undef)), (1, .func (.func 46) #[] #[.pointer (some ⟨b18, 0, none⟩)]), (7, .int .i64 ((l.getD i default).P.length : Int)), (8, .int .i64 ((k : Nat) : Int)), (9, .bool (decide (((k : Nat) : Int) < ((l.getD i default).P.length : Int))))] fun TA => ?_
   refine W.seq ?_
   refine W.cond rfl (fun hc26 => ?_) (fun hc26 => ?_)
   ·have hc26b := hc26
    have hc26 := of_decide_eq_true hc26
    refine W.skip ?_
    refine W.seq ?_
    refine W.block ?_
    refine W.seq (W.region ?_)
    iterate 2 refine RW.v ?_
    refine RW.nil ?_
    refine W.rg [(0, (ps.getD i undef)), (1, .func (.func 46) #[] #[.pointer (some ⟨b18, 0, none⟩)]), (5, .int .i64 ((k : Nat) : Int)), (7, .int .i64 ((l.getD i default).P.length : Int)), (8, .int .i64 ((k : Nat) : Int))] fun TA => ?_
    refine W.seq (W.region ?_)
    iterate 3 refine RW.v ?_
    refine RW.idxF (a1.2.2 i (by omega)).2 (by kernel_rfl) (by kernel_rfl) rfl Tryd.underlying37 (by kernel_rfl) rfl rfl ⟨by omega, by omega⟩ (by kernel_rfl) ?_
    intro b27 q28 r29 hF30 hE31
    rw [ints_at (l := (l.getD i default).P) (j := k) (by omega)] at hE31
    refine RW.loads 1 (by kernel_rfl) (by kernel_rfl) rfl rfl (H.old _ _ hF30) hE31 rfl (by kernel_rfl) ?_
    refine RW.cl ?_
    refine WC.enter (fn := Tryd.f46) Tryd.func46 rfl ?_
    refine W.rg [(0, .int .i64 ((l.getD i default).P.getD k 0)), (1, .pointer (some ⟨b18, 0, none⟩))] fun TA => ?_
    refine W.seq (W.region ?_)
    refine RW.v ?_
    refine RW.nil ?_
    refine W.rg [(0, .int .i64 ((l.getD i default).P.getD k 0)), (1, .pointer (some ⟨b18, 0, none⟩))] fun TA => ?_
    refine W.seq (W.region ?_)
    iterate 3 refine RW.v ?_
    refine RW.both _ _ rfl rfl rfl (fun hc32 => ?_) (fun hc32 => ?_)
    ·have hc32b := hc32
     have hc32 := bne_iff_ne.1 hc32
     refine RW.ldL H 1 1 (by rfl) (by kernel_rfl) rfl rfl rfl rfl rfl (by kernel_rfl) ?_
     refine RW.val (by rfl) (by kernel_rfl) rfl (by kernel_rfl) ?_
     refine RW.cl (hw := by rfl) ?_
     refine WC.enter (fn := Tryd.f44) Tryd.func44 rfl ?_
     refine W.rg [(0, .int .i64 ((l.getD i default).P.getD k 0)), (1, .pointer (some ⟨b1, 0, none⟩))] fun TA => ?_
     refine W.seq (W.region ?_)
     refine RW.v ?_
     refine RW.nil ?_
     refine W.rg [(0, .int .i64 ((l.getD i default).P.getD k 0)), (1, .pointer (some ⟨b1, 0, none⟩))] fun TA => ?_
     refine W.seq (W.region ?_)
     refine RW.v ?_
     refine RW.ld H 2 1 ?_
     iterate 2 refine RW.v ?_
     refine RW.nil ?_
     refine W.ret ?_
     refine endG (by rfl) (by exact resL_tmp rfl) ?_
     iterate 2 refine RW.v ?_
     refine RW.nil ?_
     refine W.ret ?_
     refine endG (by rfl) (by exact resL_tmp rfl) ?_
     refine RW.nil ?_
     refine W.rg [(0, (ps.getD i undef)), (1, .func (.func 46) #[] #[.pointer (some ⟨b18, 0, none⟩)]), (5, .int .i64 ((k : Nat) : Int)), (7, .int .i64 ((l.getD i default).P.length : Int)), (8, .int .i64 ((k : Nat) : Int)), (16, .bool (decide (((l.getD i default).P.getD k 0) > pos)))] fun TA => ?_
     refine W.cond rfl (fun hc33 => ?_) (fun hc33 => ?_)
     ·have hc33b := hc33
      have hc33 := of_decide_eq_true hc33
      refine W.seq (W.region ?_)
      iterate 2 refine RW.v ?_
      refine RW.nil ?_
      refine W.ret ?_
      refine blkQ_ret ?_
      refine seqQ_ret ?_
      refine rndQ_ret ?_
      refine blkQ_ret ?_
      refine seqQ_ret ?_
      refine endG (by rfl) (by exact resL_tmp rfl) ?_
      refine RW.v ?_
      refine RW.nil ?_
      replace H := (H.del 0)
      dsimp only [setL, delL] at H
      refine W.rg [(0, v1), (8, .pointer (some ⟨b18, 0, none⟩)), (9, .int .i64 ((i : Nat) : Int)), (11, .int .i64 ((k : Nat) : Int)), (14, .agg #[.func (.func 43) #[] #[.pointer (some ⟨b1, 0, none⟩)], .func (.func 44) #[] #[.pointer (some ⟨b1, 0, none⟩)]]), (15, .int .i64 1), (18, v1), (19, .int .i64 (l.length : Int)), (20, .int .i64 ((i : Nat) : Int))] fun TA => ?_
      refine W.seq (W.region ?_)
      refine RW.v ?_
      refine RW.valE (v' := .bool true) (by kernel_rfl) (by kernel_rfl) rfl (congrArg Value.bool (decide_eq_true (by omega))) (by kernel_rfl) ?_
      refine RW.nil ?_
      refine W.c1 ?_
      refine W.seq (W.region ?_)
      iterate 5 refine RW.v ?_
      refine RW.nil ?_
      replace H := ((H.del 1).del 0)
      dsimp only [setL, delL] at H
      refine W.ret ?_
      refine blkQ_ret ?_
      refine seqQ_ret ?_
      refine rndQ_ret ?_
      refine blkQ_ret ?_
      refine blkQ_ret ?_
      refine seqQ_ret ?_
      refine onceQ_ret ?_
      refine blkQ_ret ?_
      refine seqQ_ret ?_
      refine endG (by rfl) (by exact resL_tmp (by exact resL_tmp (by exact resL_tmp rfl))) ?_
      have hp : p2 pos ((l.getD i default).P.getD k 0) = true := by unfold p2; rw [Bool.and_eq_true]; constructor <;> first | (exact decide_eq_true (by omega)) | (exact beq_iff_eq.2 (by omega)) | (exact bne_iff_ne.2 (by omega))
      have e := firstR_hit hi1 hil (idx_hit hk2 (by omega) hp)
      have ew : whereM l pos = ((i : Int), (k : Int), true) := by unfold whereM; rw [hp1, e]
      rw [ew]
      exact ⟨rfl, H⟩
     ·have hc33b := hc33
      have hc33 := of_decide_eq_false hc33
      refine W.skip ?_
      refine blkQ_normal ?_
      refine W.region ?_
      refine RW.valE (v' := .int .i64 (((k : Nat) : Int) + 1)) (by kernel_rfl) (by kernel_rfl) rfl (congrArg (Value.int .i64) (wrap_in (by omega) (by omega))) (by kernel_rfl) ?_
      refine RW.v ?_
      refine RW.nil ?_
      have hp : p2 pos ((l.getD i default).P.getD k 0) = false := by unfold p2; rw [Bool.and_eq_false_iff]; first | (left; exact decide_eq_false (by omega)) | (left; exact beq_eq_false_iff_ne.2 (by omega)) | (right; exact bne_eq_false_iff_eq.2 (by omega))
      exact ⟨rfl, mm2 - 1, by omega, k + 1, (by omega), (fun j hj => (Nat.lt_or_ge j k).elim (fun h => hk2 j h) fun h => (show k = j by omega) ▸ hp), H, rfl, rfl, rfl, rfl⟩
    ·have hc32b := hc32
     have hc32 := (bne_eq_false_iff_eq.1) hc32
     refine RW.skip (by rfl) (by kernel_rfl) ?_
     refine RW.skip (by rfl) (by kernel_rfl) ?_
     refine RW.skip (by rfl) (by kernel_rfl) ?_
     iterate 2 refine RW.v ?_
     refine RW.nil ?_
     refine W.ret ?_
     refine endG (by rfl) (by exact resL_tmp rfl) ?_
     refine RW.nil ?_
     refine W.c0 ?_
     refine W.skip ?_
     refine blkQ_normal ?_
     refine W.region ?_
     refine RW.valE (v' := .int .i64 (((k : Nat) : Int) + 1)) (by kernel_rfl) (by kernel_rfl) rfl (congrArg (Value.int .i64) (wrap_in (by omega) (by omega))) (by kernel_rfl) ?_
     refine RW.v ?_
     refine RW.nil ?_
     have hp : p2 pos ((l.getD i default).P.getD k 0) = false := by unfold p2; rw [Bool.and_eq_false_iff]; first | (left; exact decide_eq_false (by omega)) | (left; exact beq_eq_false_iff_ne.2 (by omega)) | (right; exact bne_eq_false_iff_eq.2 (by omega))
     exact ⟨rfl, mm2 - 1, by omega, k + 1, (by omega), (fun j hj => (Nat.lt_or_ge j k).elim (fun h => hk2 j h) fun h => (show k = j by omega) ▸ hp), H, rfl, rfl, rfl, rfl⟩
   ·have hc26b := hc26
    have hc26 := of_decide_eq_false hc26
    refine W.exit _ ?_
    refine seqQ_exit ?_
    refine rndQ_exit ?_
    refine blkQ_here ?_
    refine W.seq (W.region ?_)
    refine RW.v ?_
    refine RW.nil ?_
    refine W.ret ?_
    refine endG (by rfl) (by exact resL_tmp rfl) ?_
    refine RW.v ?_
    refine RW.nil ?_
    replace H := (H.del 0)
    dsimp only [setL, delL] at H
    refine W.rg [(0, v1), (8, .pointer (some ⟨b18, 0, none⟩)), (9, .int .i64 ((i : Nat) : Int)), (11, .int .i64 (-1)), (14, .agg #[.func (.func 43) #[] #[.pointer (some ⟨b1, 0, none⟩)], .func (.func 44) #[] #[.pointer (some ⟨b1, 0, none⟩)]]), (15, .int .i64 1), (18, v1), (19, .int .i64 (l.length : Int)), (20, .int .i64 ((i : Nat) : Int))] fun TA => ?_
    refine W.seq (W.region ?_)
    refine RW.v ?_
    have hnone := idx_miss hk2 (by omega)
    refine RW.v ?_
    refine RW.nil ?_
    refine W.c0 ?_
    refine W.skip ?_
    refine blkQ_normal ?_
    refine W.region ?_
    refine RW.valE (v' := .int .i64 (((i : Nat) : Int) + 1)) (by kernel_rfl) (by kernel_rfl) rfl (congrArg (Value.int .i64) (wrap_in (by omega) (by omega))) (by kernel_rfl) ?_
    refine RW.v ?_
    refine RW.nil ?_
    exact ⟨rfl, mm - 1, by omega, i + 1, (by omega), (fun j hj => (Nat.lt_or_ge j i).elim (fun h => hi1 j h) fun h => (show i = j by omega) ▸ hnone), H, rfl, rfl, rfl, rfl, rfl, rfl, rfl⟩
  ·have hc19b := hc19
   have hc19 := of_decide_eq_false hc19
   refine W.exit _ ?_
   refine seqQ_exit ?_
   refine rndQ_exit ?_
   have hp2 : firstR (p2 pos) l = none := firstR_miss fun j hj => hi1 j (by omega)
   refine blkQ_here ?_
   refine blkQ_normal ?_
   refine W.region ?_
   iterate 2 refine RW.v ?_
   refine RW.nil ?_
   replace H := (H.del 0)
   dsimp only [setL, delL] at H
   refine WL.once ?_
   refine W.rg [(0, v1), (14, .agg #[.func (.func 43) #[] #[.pointer (some ⟨b1, 0, none⟩)], .func (.func 44) #[] #[.pointer (some ⟨b1, 0, none⟩)]]), (15, .int .i64 2)] fun TA => ?_
   refine W.seq (W.region ?_)
   refine RW.v ?_
   refine RW.nil ?_
   refine W.rg [(0, v1), (14, .agg #[.func (.func 43) #[] #[.pointer (some ⟨b1, 0, none⟩)], .func (.func 44) #[] #[.pointer (some ⟨b1, 0, none⟩)]]), (15, .int .i64 2), (16, .bool false)] fun TA => ?_
   refine W.seq ?_
   refine W.c0 ?_
   refine W.exit _ ?_
   refine seqQ_exit ?_
   refine onceQ_exit ?_
   refine blkQ_here ?_
   refine W.seq (W.region ?_)
   iterate 3 refine RW.v ?_
   refine RW.nil ?_
   replace H := (H.del 0)
   dsimp only [setL, delL] at H
   refine W.ret ?_
   refine endG (by rfl) (by exact resL_tmp (by exact resL_tmp (by exact resL_tmp rfl))) ?_
   have ew : whereM l pos = (0, 0, false) := by unfold whereM; rw [hp1, hp2]
   rw [ew]
   exact ⟨rfl, H⟩
end
end Go.Proofs.YtmmapljeeccdnaaDoor
namespace Go.Proofs.YtmmapljeeccdnaaDoor
set_option maxRecDepth 100000
theorem ints_atN {l : List Int} {j : Nat} (hj : j < l.length) : ((l.map (Value.int .i64)).drop (j * 1)).take 1 = [.int .i64 (l.getD j 0)] := by
 have := ints_at hj
 rwa [Int.toNat_natCast] at this
def lastP : List Int → Option Int
 | [] => none
 | x :: P => match lastP P with
  | some y => some y
  | none => if x = -1 then none else some x
theorem last_miss : ∀ {P : List Int}, (∀ j, j < P.length → P.getD j 0 = -1) → lastP P = none
 | [], _ => rfl
 | x :: P, h => by
  have e : x = -1 := h 0 (by simp)
  have := last_miss (P := P) fun j hj => h (j + 1) (by simpa using hj)
  unfold lastP
  rw [this]
  dsimp only
  rw [if_pos e]
theorem last_hit : ∀ {P : List Int} {k : Nat}, (∀ j, k < j → j < P.length → P.getD j 0 = -1) → k < P.length → P.getD k 0 ≠ -1 → lastP P = some (P.getD k 0)
 | [], _, _, h, _ => absurd h (Nat.not_lt_zero _)
 | x :: P, 0, h, _, hx => by
  have hx : x ≠ -1 := hx
  have := last_miss (P := P) fun j hj => h (j + 1) (by omega) (by simpa using hj)
  unfold lastP
  rw [this]
  dsimp only
  rw [if_neg hx]
  rfl
 | x :: P, k + 1, h, hk, hx => by
  have := last_hit (P := P) (k := k) (fun j h1 h2 => h (j + 1) (by omega) (by simpa using h2)) (by simpa using hk) hx
  unfold lastP
  rw [this]
  rfl
def atM (l : List RowV) (row col : Int) : Int × Bool := if row < 0 ∨ (l.length : Int) ≤ row then (0, false) else
 if 0 ≤ col ∧ col < ((l.getD row.toNat default).P.length : Int) ∧ (l.getD row.toNat default).P.getD col.toNat 0 ≠ -1 then ((l.getD row.toNat default).P.getD col.toNat 0, true) else
 match lastP (l.getD row.toNat default).P with
 | some x => (x, true)
 | none => (0, false)
end Go.Proofs.YtmmapljeeccdnaaDoor
namespace Go.Proofs.YtmmapljeeccdnaaDoor
set_option maxRecDepth 100000
section
variable {G : Nat} {A : Abs} {σ : Mem} {F : Nat → Option Blk2} {L : List Ent} {l : List RowV} {cs ps : List Value} {v1 : Value} {row col : Int}
end
end Go.Proofs.YtmmapljeeccdnaaDoor
namespace Go.Proofs.YtmmapljeeccdnaaDoor
set_option maxRecDepth 100000
section
variable {G : Nat} {A : Abs} {σ : Mem} {F : Nat → Option Blk2} {L : List Ent} {l : List RowV} {cs ps : List Value} {v1 : Value} {row col : Int}
set_option maxHeartbeats 8000000 in
theorem p_at (h1 : SlF F 5 v1 l.length (rowsV cs ps l)) (a1 : AllRow F cs ps l) (hl : l.length ≤ 1000000) (hsm : ∀ r ∈ l, r.C.length ≤ 1000 ∧ r.P.length ≤ 1000) (H : Lies G A F σ L) : WC G Tryd.prog 23 #[v1, .int .i64 row, .int .i64 col] σ fun v σ' => v = .tuple #[.int .i64 (atM l row col).1, .bool (atM l row col).2] ∧ Lies G A F σ' L := by
 refine WC.enterD (fn := Tryd.f23) Tryd.func23 rfl ?_
 refine W.rg [(0, v1), (1, .int .i64 row), (2, .int .i64 col)] fun TA => ?_
 refine W.seq (W.region ?_)
 refine RW.mk H (.row ⟨[.int .i64 0], 3, false⟩) ?_
 clear H; intro _ b1 _ H
 refine RW.mk H (.row ⟨[.bool false], 4, false⟩) ?_
 clear H; intro _ b2 _ H
 refine RW.nil ?_
 refine W.rg [(0, v1), (1, .int .i64 row), (2, .int .i64 col), (6, .pointer (some ⟨b1, 0, none⟩)), (7, .pointer (some ⟨b2, 0, none⟩))] fun TA => ?_
 refine W.seq ?_
 refine W.seq (W.region ?_)
 iterate 3 refine RW.v ?_
 refine RW.both _ _ rfl rfl rfl (fun hc3 => ?_) (fun hc3 => ?_)
 ·have hc3b := hc3
  have hc3 := of_decide_eq_true hc3
  refine RW.skip (by rfl) (by kernel_rfl) ?_
  refine RW.skip (by rfl) (by kernel_rfl) ?_
  refine RW.skip (by rfl) (by kernel_rfl) ?_
  refine RW.skip (by rfl) (by kernel_rfl) ?_
  refine RW.v ?_
  refine RW.nil ?_
  refine W.c1 ?_
  refine W.seq (W.region ?_)
  refine RW.st H 1 [.int .i64 0] [.int .i64 0] ?_
  clear H; intro _ _ H; dsimp only [setL, delL] at H
  refine RW.st H 0 [.bool false] [.bool false] ?_
  clear H; intro _ _ H; dsimp only [setL, delL] at H
  refine RW.nil ?_
  refine W.ret ?_
  refine seqQ_ret ?_
  refine endGD0 (by rfl) (by exact resL_cell rfl (H.get 1 rfl) (by rw [uT_eq]; exact Tryd.underlying3) (by kernel_rfl) rfl rfl (by exact resL_cell rfl (H.get 0 rfl) (by rw [uT_eq]; exact Tryd.underlying4) (by kernel_rfl) rfl rfl rfl)) ?_
  have ew : atM l row col = (0, false) := by unfold atM; rw [if_pos (by omega)]
  rw [ew]
  exact ⟨rfl, ((H.del 1).del 0)⟩
 ·have hc3b := hc3
  have hc3 := of_decide_eq_false hc3
  refine RW.val (by rfl) (by kernel_rfl) rfl (by kernel_rfl) ?_
  refine RW.val (by rfl) (by kernel_rfl) rfl (by kernel_rfl) ?_
  refine RW.len (by rfl) (by kernel_rfl) rfl rfl rfl rfl (h1.len (e := 39) (by kernel_rfl)) (by kernel_rfl) ?_
  refine RW.val (by rfl) (by kernel_rfl) rfl (by kernel_rfl) ?_
  refine RW.v ?_
  refine RW.nil ?_
  refine W.rg [(0, v1), (1, .int .i64 row), (2, .int .i64 col), (6, .pointer (some ⟨b1, 0, none⟩)), (7, .pointer (some ⟨b2, 0, none⟩)), (18, .bool (decide (row ≥ (l.length : Int))))] fun TA => ?_
  refine W.cond rfl (fun hc4 => ?_) (fun hc4 => ?_)
  ·have hc4b := hc4
   have hc4 := of_decide_eq_true hc4
   refine W.seq (W.region ?_)
   refine RW.st H 1 [.int .i64 0] [.int .i64 0] ?_
   clear H; intro _ _ H; dsimp only [setL, delL] at H
   refine RW.st H 0 [.bool false] [.bool false] ?_
   clear H; intro _ _ H; dsimp only [setL, delL] at H
   refine RW.nil ?_
   refine W.ret ?_
   refine seqQ_ret ?_
   refine endGD0 (by rfl) (by exact resL_cell rfl (H.get 1 rfl) (by rw [uT_eq]; exact Tryd.underlying3) (by kernel_rfl) rfl rfl (by exact resL_cell rfl (H.get 0 rfl) (by rw [uT_eq]; exact Tryd.underlying4) (by kernel_rfl) rfl rfl rfl)) ?_
   have ew : atM l row col = (0, false) := by unfold atM; rw [if_pos (by omega)]
   rw [ew]
   exact ⟨rfl, ((H.del 1).del 0)⟩
  ·have hc4b := hc4
   have hc4 := of_decide_eq_false hc4
   have hil : row.toNat < l.length := by omega
   have hz := hsm _ (rowD_mem hil)
   refine W.skip ?_
   refine W.seq (W.region ?_)
   iterate 2 refine RW.v ?_
   refine RW.idxF h1 (by kernel_rfl) (by kernel_rfl) rfl Tryd.underlying27 (by kernel_rfl) rfl rfl ⟨by omega, by omega⟩ (by kernel_rfl) ?_
   intro b5 q6 r7 hF8 hE9
   rw [rowsV_at (l := l) (j := (row).toNat) a1.1 a1.2.1 (by omega)] at hE9
   refine RW.v ?_
   refine RW.loads 1 (by kernel_rfl) (by kernel_rfl) rfl rfl (H.old _ _ hF8) (sub_take hE9 1 1 (by decide)) rfl (by kernel_rfl) ?_
   refine RW.v ?_
   refine RW.nil ?_
   refine W.rg [(2, .int .i64 col), (6, .pointer (some ⟨b1, 0, none⟩)), (7, .pointer (some ⟨b2, 0, none⟩)), (8, (ps.getD ((row).toNat) undef))] fun TA => ?_
   refine W.seq ?_
   refine W.seq (W.region ?_)
   iterate 3 refine RW.v ?_
   refine RW.both _ _ rfl rfl rfl (fun hc10 => ?_) (fun hc10 => ?_)
   ·have hc10b := hc10
    have hc10 := of_decide_eq_true hc10
    refine RW.val (by rfl) (by kernel_rfl) rfl (by kernel_rfl) ?_
    refine RW.val (by rfl) (by kernel_rfl) rfl (by kernel_rfl) ?_
    refine RW.len (by rfl) (by kernel_rfl) rfl rfl rfl rfl ((a1.2.2 ((row).toNat) (by omega)).2.len (e := 3) (by kernel_rfl)) (by kernel_rfl) ?_
    refine RW.val (by rfl) (by kernel_rfl) rfl (by kernel_rfl) ?_
    iterate 2 refine RW.v ?_
    refine RW.both _ _ rfl rfl rfl (fun hc11 => ?_) (fun hc11 => ?_)
    ·have hc11b := hc11
     have hc11 := of_decide_eq_true hc11
     refine RW.val (by rfl) (by kernel_rfl) rfl (by kernel_rfl) ?_
     refine RW.val (by rfl) (by kernel_rfl) rfl (by kernel_rfl) ?_
     refine RW.idxF (a1.2.2 ((row).toNat) (by omega)).2 (by rfl) (by kernel_rfl) rfl Tryd.underlying37 (by kernel_rfl) rfl rfl ⟨by omega, by omega⟩ (by kernel_rfl) ?_
     intro b12 q13 r14 hF15 hE16
     rw [ints_atN (l := (l.getD ((row).toNat) default).P) (j := (col).toNat) (by omega)] at hE16
     refine RW.loads 1 (by rfl) (by kernel_rfl) rfl rfl (H.old _ _ hF15) hE16 rfl (by kernel_rfl) ?_
     refine RW.val (by rfl) (by kernel_rfl) rfl (by kernel_rfl) ?_
     refine RW.v ?_
     refine RW.nil ?_
     refine W.rg [(2, .int .i64 col), (6, .pointer (some ⟨b1, 0, none⟩)), (7, .pointer (some ⟨b2, 0, none⟩)), (8, (ps.getD ((row).toNat) undef)), (38, .bool (((l.getD ((row).toNat) default).P.getD ((col).toNat) 0) != (-1)))] fun TA => ?_
     refine W.cond rfl (fun hc17 => ?_) (fun hc17 => ?_)
     ·have hc17b := hc17
      have hc17 := bne_iff_ne.1 hc17
      refine W.seq (W.region ?_)
      iterate 2 refine RW.v ?_
      refine RW.idxF (a1.2.2 ((row).toNat) (by omega)).2 (by kernel_rfl) (by kernel_rfl) rfl Tryd.underlying37 (by kernel_rfl) rfl rfl ⟨by omega, by omega⟩ (by kernel_rfl) ?_
      intro b18 q19 r20 hF21 hE22
      rw [ints_atN (l := (l.getD ((row).toNat) default).P) (j := (col).toNat) (by omega)] at hE22
      refine RW.loads 1 (by kernel_rfl) (by kernel_rfl) rfl rfl (H.old _ _ hF21) hE22 rfl (by kernel_rfl) ?_
      refine RW.st H 1 [.int .i64 ((l.getD ((row).toNat) default).P.getD ((col).toNat) 0)] [.int .i64 ((l.getD ((row).toNat) default).P.getD ((col).toNat) 0)] ?_
      clear H; intro _ _ H; dsimp only [setL, delL] at H
      refine RW.st H 0 [.bool true] [.bool true] ?_
      clear H; intro _ _ H; dsimp only [setL, delL] at H
      refine RW.nil ?_
      refine W.ret ?_
      refine seqQ_ret ?_
      refine endGD0 (by rfl) (by exact resL_cell rfl (H.get 1 rfl) (by rw [uT_eq]; exact Tryd.underlying3) (by kernel_rfl) rfl rfl (by exact resL_cell rfl (H.get 0 rfl) (by rw [uT_eq]; exact Tryd.underlying4) (by kernel_rfl) rfl rfl rfl)) ?_
      have ew : atM l row col = ((l.getD ((row).toNat) default).P.getD (col).toNat 0, true) := by unfold atM; rw [if_neg (by omega), if_pos ⟨by omega, by omega, by omega⟩]
      rw [ew]
      exact ⟨rfl, ((H.del 1).del 0)⟩
     ·have hc17b := hc17
      have hc17 := (bne_eq_false_iff_eq.1) hc17
      refine W.skip ?_
      refine W.seq ?_
      refine W.seq (W.region ?_)
      refine RW.v ?_
      refine RW.cl ?_
      refine WC.enter (fn := Tryd.f47) Tryd.func47 rfl ?_
      refine W.rg [(0, (ps.getD ((row).toNat) undef))] fun TA => ?_
      refine W.seq (W.region ?_)
      refine RW.mk H (.row ⟨((ps.getD ((row).toNat) undef)).cells.toList, 37, false⟩) ?_
      clear H; intro _ b23 _ H
      rw [(slf_one (a1.2.2 ((row).toNat) (by omega)).2)] at H
      refine RW.v ?_
      refine RW.nil ?_
      refine W.rg [(1, .pointer (some ⟨b23, 0, none⟩))] fun TA => ?_
      refine W.seq (W.region ?_)
      refine RW.val (v := .func (.func 62) #[] #[.pointer (some ⟨b23, 0, none⟩)]) (by kernel_rfl) (by kernel_rfl) (by kernel_rfl) (by kernel_rfl) ?_
      refine RW.v ?_
      refine RW.nil ?_
      refine W.ret ?_
      refine endG (by rfl) (by exact resL_tmp rfl) ?_
      refine RW.nil ?_
      refine W.rg [(6, .pointer (some ⟨b1, 0, none⟩)), (7, .pointer (some ⟨b2, 0, none⟩)), (44, .func (.func 62) #[] #[.pointer (some ⟨b23, 0, none⟩)])] fun TA => ?_
      refine W.block ?_
      refine W.rst [(6, .pointer (some ⟨b1, 0, none⟩)), (7, .pointer (some ⟨b2, 0, none⟩)), (44, .func (.func 62) #[] #[.pointer (some ⟨b23, 0, none⟩)])] ⟨rfl, rfl, rfl, trivial⟩ fun TL28 => ?_
      refine W.rangeL H rfl (fun _ h => nomatch h) (fun _ h => nomatch h) (by kernel_rfl) fun _ d24 b25 lp26 hl27 H => ?_
      refine WC.enter (fn := Tryd.f62) Tryd.func62 rfl ?_
      refine W.rg [(0, .func (.yield b25) #[] #[]), (1, .pointer (some ⟨b23, 0, none⟩))] fun TA => ?_
      refine W.seq (W.region ?_)
      refine RW.ld H 2 1 ?_
      refine RW.len (by kernel_rfl) (by kernel_rfl) rfl rfl rfl rfl ((a1.2.2 ((row).toNat) (by omega)).2.len (e := 3) (by kernel_rfl)) (by kernel_rfl) ?_
      refine RW.valE (v' := .int .i64 (((l.getD ((row).toNat) default).P.length : Int) - 1)) (by kernel_rfl) (by kernel_rfl) rfl (congrArg (Value.int .i64) (wrap_in (by omega) (by omega))) (by kernel_rfl) ?_
      refine RW.v ?_
      refine RW.nil ?_
      refine W.rg [(0, .func (.yield b25) #[] #[]), (1, .pointer (some ⟨b23, 0, none⟩)), (3, .int .i64 (((l.getD ((row).toNat) default).P.length : Int) - 1))] fun TA => ?_
      refine W.block ?_
      have hno : ¬ (0 ≤ col ∧ col < ((l.getD ((row).toNat) default).P.length : Int) ∧ (l.getD ((row).toNat) default).P.getD (col).toNat 0 ≠ -1) := by omega
      refine W.loop (fun mm ta σ => ∃ (k : Nat), (mm = k ∧ k ≤ (l.getD ((row).toNat) default).P.length) ∧ (∀ j, k ≤ j → j < (l.getD ((row).toNat) default).P.length → (l.getD ((row).toNat) default).P.getD j 0 = -1) ∧ Lies G A F σ (.at_ b25 lp26 :: .at_ d24 (.defs true) :: .at_ b23 (.row ⟨[(ps.getD ((row).toNat) undef)], 37, false⟩) :: .at_ b2 (.row ⟨[.bool false], 4, false⟩) :: .at_ b1 (.row ⟨[.int .i64 0], 3, false⟩) :: (L)) ∧ ta 0 = .func (.yield b25) #[] #[] ∧ ta 1 = .pointer (some ⟨b23, 0, none⟩) ∧ ta 3 = .int .i64 (((k : Nat) : Int) - 1)) ((l.getD ((row).toNat) default).P.length) ?_ ?_
      ·exact ⟨(l.getD ((row).toNat) default).P.length, ⟨rfl, Nat.le_refl _⟩, (fun j h1 h2 => absurd h2 (by omega)), H, rfl, rfl, rfl⟩
      clear H
      rintro mm ta _ ⟨k, hm, hk2, H, e0, e1, e3⟩
      refine W.rst [(0, .func (.yield b25) #[] #[]), (1, .pointer (some ⟨b23, 0, none⟩)), (3, .int .i64 (((k : Nat) : Int) - 1))] ⟨e0, e1, e3, trivial⟩ fun TA => ?_
      clear e0 e1 e3
      refine W.seq ?_
      refine W.seq (W.region ?_)
      iterate 2 refine RW.v ?_
      refine RW.nil ?_
      refine W.rg [(0, .func (.yield b25) #[] #[]), (1, .pointer (some ⟨b23, 0, none⟩)), (3, .int .i64 (((k : Nat) : Int) - 1)), (8, .bool (decide ((((k : Nat) : Int) - 1) ≥ 0)))] fun TA => ?_
      refine W.cond rfl (fun hc29 => ?_) (fun hc29 => ?_)
      ·have hc29b := hc29
       have hc29 := of_decide_eq_true hc29
       refine W.skip ?_
       refine W.seq ?_
       refine W.block ?_
       refine W.seq (W.region ?_)
       iterate 2 refine RW.v ?_
       refine RW.ld H 2 1 ?_
       refine RW.v ?_
       refine RW.idxF (a1.2.2 ((row).toNat) (by omega)).2 (by kernel_rfl) (by kernel_rfl) rfl Tryd.underlying37 (by kernel_rfl) rfl rfl ⟨by omega, by omega⟩ (by kernel_rfl) ?_
       intro b30 q31 r32 hF33 hE34
       rw [ints_atN (l := (l.getD ((row).toNat) default).P) (j := (((k : Nat) : Int) - 1).toNat) (by omega)] at hE34
       refine RW.loads 1 (by kernel_rfl) (by kernel_rfl) rfl rfl (H.old _ _ hF33) hE34 rfl (by kernel_rfl) ?_
       refine RW.yieldL H 0 rfl hl27 (by kernel_rfl) (by kernel_rfl) rfl rfl rfl rfl rfl (by kernel_rfl) ?_
       refine W.rg [(6, .pointer (some ⟨b1, 0, none⟩)), (7, .pointer (some ⟨b2, 0, none⟩)), (44, .func (.func 62) #[] #[.pointer (some ⟨b23, 0, none⟩)]), (45, .int .i64 (((k : Nat) : Int) - 1)), (46, .int .i64 ((l.getD ((row).toNat) default).P.getD ((((k : Nat) : Int) - 1).toNat) 0))] fun TA => ?_
       refine W.region ?_
       refine RW.v ?_
       refine RW.nil ?_
       refine ⟨rfl, _, _, _, 0, H, rfl, ?_⟩
       clear H; intro _ lq35 hq36 H
       dsimp only [setL, delL] at H
       refine W.rg [(6, .pointer (some ⟨b1, 0, none⟩)), (7, .pointer (some ⟨b2, 0, none⟩)), (10, .int .i64 ((l.getD ((row).toNat) default).P.getD ((((k : Nat) : Int) - 1).toNat) 0)), (44, .func (.func 62) #[] #[.pointer (some ⟨b23, 0, none⟩)]), (46, .int .i64 ((l.getD ((row).toNat) default).P.getD ((((k : Nat) : Int) - 1).toNat) 0))] fun TA => ?_
       refine W.block ?_
       refine W.seq (W.region ?_)
       iterate 2 refine RW.v ?_
       refine RW.nil ?_
       refine W.rg [(6, .pointer (some ⟨b1, 0, none⟩)), (7, .pointer (some ⟨b2, 0, none⟩)), (10, .int .i64 ((l.getD ((row).toNat) default).P.getD ((((k : Nat) : Int) - 1).toNat) 0)), (44, .func (.func 62) #[] #[.pointer (some ⟨b23, 0, none⟩)]), (46, .int .i64 ((l.getD ((row).toNat) default).P.getD ((((k : Nat) : Int) - 1).toNat) 0)), (48, .bool (((l.getD ((row).toNat) default).P.getD ((((k : Nat) : Int) - 1).toNat) 0) != (-1)))] fun TA => ?_
       refine W.cond rfl (fun hc37 => ?_) (fun hc37 => ?_)
       ·have hc37b := hc37
        have hc37 := bne_iff_ne.1 hc37
        refine W.seq (W.region ?_)
        refine RW.v ?_
        refine RW.st H 4 [.int .i64 ((l.getD ((row).toNat) default).P.getD ((((k : Nat) : Int) - 1).toNat) 0)] [.int .i64 ((l.getD ((row).toNat) default).P.getD ((((k : Nat) : Int) - 1).toNat) 0)] ?_
        clear H; intro _ _ H; dsimp only [setL, delL] at H
        refine RW.st H 3 [.bool true] [.bool true] ?_
        clear H; intro _ _ H; dsimp only [setL, delL] at H
        refine RW.nil ?_
        refine W.ret ?_
        refine blkQ_ret ?_
        refine ⟨_, _, _, 0, false, .done, (some .ret), H, rfl, rfl, ?_⟩
        clear H; intro _ lr38 _ hr39 H
        dsimp only [setL, delL] at H
        refine RW.v ?_
        refine RW.nil ?_
        refine W.c1 ?_
        refine W.ret ?_
        refine blkQ_ret ?_
        refine seqQ_ret ?_
        refine rndQ_ret ?_
        refine blkQ_ret ?_
        refine endG (by rfl) (by exact rfl) ?_
        refine ⟨_, _, _, 0, _, _, _, _, H, rfl, hr39, rfl, rfl, ?_⟩
        clear H; intro _ H
        dsimp only [setL, delL] at H
        refine blkQ_ret ?_
        refine seqQ_ret ?_
        refine endMark H 0 rfl fun _ H => ?_
        dsimp only [setL, delL] at H
        refine endGD0 (by rfl) (by exact resL_cell rfl (H.get 2 rfl) (by rw [uT_eq]; exact Tryd.underlying3) (by kernel_rfl) rfl rfl (by exact resL_cell rfl (H.get 1 rfl) (by rw [uT_eq]; exact Tryd.underlying4) (by kernel_rfl) rfl rfl rfl)) ?_
        have ew : atM l row col = ((l.getD ((row).toNat) default).P.getD ((((k : Nat) : Int) - 1).toNat) 0, true) := by unfold atM; rw [if_neg (by omega), if_neg hno, last_hit (P := (l.getD ((row).toNat) default).P) (k := ((((k : Nat) : Int) - 1).toNat)) (fun j h1 h2 => by first | exact hk2 j (by omega) h2 | (exfalso; omega)) (by omega) (by omega)]
        rw [ew]
        exact ⟨rfl, (((H.del 2).del 1).del 0)⟩
       ·have hc37b := hc37
        have hc37 := (bne_eq_false_iff_eq.1) hc37
        refine W.skip ?_
        refine blkQ_normal ?_
        refine ⟨_, _, _, 0, true, .ready, none, H, rfl, rfl, ?_⟩
        clear H; intro _ lr40 _ hr41 H
        dsimp only [setL, delL] at H
        refine RW.v ?_
        refine RW.nil ?_
        refine W.c0 ?_
        refine W.skip ?_
        refine blkQ_normal ?_
        refine W.region ?_
        refine RW.v ?_
        refine RW.valE (v' := .int .i64 (((k - 1 : Nat) : Int) - 1)) (by kernel_rfl) (by kernel_rfl) rfl (congrArg (Value.int .i64) ((wrap_in (by omega) (by omega)).trans (by omega))) (by kernel_rfl) ?_
        refine RW.v ?_
        refine RW.nil ?_
        rw [show lr40 = lp26 from hr41.trans hl27.symm] at H
        exact ⟨rfl, mm - 1, by omega, k - 1, (by omega), (fun j h1 h2 => (Nat.lt_or_ge j k).elim (fun h => by have e : j = (((k : Nat) : Int) - 1).toNat := (by omega); rw [e]; omega) fun h => hk2 j h h2), H, rfl, rfl, rfl⟩
      ·have hc29b := hc29
       have hc29 := of_decide_eq_false hc29
       refine W.exit _ ?_
       refine seqQ_exit ?_
       refine rndQ_exit ?_
       refine blkQ_here ?_
       refine endG (by rfl) (by exact rfl) ?_
       refine ⟨_, _, _, 0, _, _, _, _, H, rfl, hl27, rfl, rfl, ?_⟩
       clear H; intro _ H
       dsimp only [setL, delL] at H
       refine blkQ_normal ?_
       refine W.seq (W.region ?_)
       refine RW.st H 3 [.int .i64 0] [.int .i64 0] ?_
       clear H; intro _ _ H; dsimp only [setL, delL] at H
       refine RW.st H 2 [.bool false] [.bool false] ?_
       clear H; intro _ _ H; dsimp only [setL, delL] at H
       refine RW.nil ?_
       replace H := (H.del 1)
       dsimp only [setL, delL] at H
       refine W.ret ?_
       refine endMark H 0 rfl fun _ H => ?_
       dsimp only [setL, delL] at H
       refine endGD0 (by rfl) (by exact resL_cell rfl (H.get 1 rfl) (by rw [uT_eq]; exact Tryd.underlying3) (by kernel_rfl) rfl rfl (by exact resL_cell rfl (H.get 0 rfl) (by rw [uT_eq]; exact Tryd.underlying4) (by kernel_rfl) rfl rfl rfl)) ?_
       have ew : atM l row col = (0, false) := by unfold atM; rw [if_neg (by omega), if_neg hno, last_miss (P := (l.getD ((row).toNat) default).P) (fun j hj => hk2 j (by omega) hj)]
       rw [ew]
       exact ⟨rfl, ((H.del 1).del 0)⟩
    ·have hc11b := hc11
     have hc11 := of_decide_eq_false hc11
     refine RW.skip (by rfl) (by kernel_rfl) ?_
     refine RW.skip (by rfl) (by kernel_rfl) ?_
     refine RW.skip (by rfl) (by kernel_rfl) ?_
     refine RW.skip (by rfl) (by kernel_rfl) ?_
     refine RW.skip (by rfl) (by kernel_rfl) ?_
     refine RW.v ?_
     refine RW.nil ?_
     refine W.c0 ?_
     refine W.skip ?_
     refine W.seq ?_
     refine W.seq (W.region ?_)
     refine RW.v ?_
     refine RW.cl ?_
     refine WC.enter (fn := Tryd.f47) Tryd.func47 rfl ?_
     refine W.rg [(0, (ps.getD ((row).toNat) undef))] fun TA => ?_
     refine W.seq (W.region ?_)
     refine RW.mk H (.row ⟨((ps.getD ((row).toNat) undef)).cells.toList, 37, false⟩) ?_
     clear H; intro _ b42 _ H
     rw [(slf_one (a1.2.2 ((row).toNat) (by omega)).2)] at H
     refine RW.v ?_
     refine RW.nil ?_
     refine W.rg [(1, .pointer (some ⟨b42, 0, none⟩))] fun TA => ?_
     refine W.seq (W.region ?_)
     refine RW.val (v := .func (.func 62) #[] #[.pointer (some ⟨b42, 0, none⟩)]) (by kernel_rfl) (by kernel_rfl) (by kernel_rfl) (by kernel_rfl) ?_
     refine RW.v ?_
     refine RW.nil ?_
     refine W.ret ?_
     refine endG (by rfl) (by exact resL_tmp rfl) ?_
     refine RW.nil ?_
     refine W.rg [(6, .pointer (some ⟨b1, 0, none⟩)), (7, .pointer (some ⟨b2, 0, none⟩)), (44, .func (.func 62) #[] #[.pointer (some ⟨b42, 0, none⟩)])] fun TA => ?_
     refine W.block ?_
     refine W.rst [(6, .pointer (some ⟨b1, 0, none⟩)), (7, .pointer (some ⟨b2, 0, none⟩)), (44, .func (.func 62) #[] #[.pointer (some ⟨b42, 0, none⟩)])] ⟨rfl, rfl, rfl, trivial⟩ fun TL47 => ?_
     refine W.rangeL H rfl (fun _ h => nomatch h) (fun _ h => nomatch h) (by kernel_rfl) fun _ d43 b44 lp45 hl46 H => ?_
     refine WC.enter (fn := Tryd.f62) Tryd.func62 rfl ?_
     refine W.rg [(0, .func (.yield b44) #[] #[]), (1, .pointer (some ⟨b42, 0, none⟩))] fun TA => ?_
     refine W.seq (W.region ?_)
     refine RW.ld H 2 1 ?_
     refine RW.len (by kernel_rfl) (by kernel_rfl) rfl rfl rfl rfl ((a1.2.2 ((row).toNat) (by omega)).2.len (e := 3) (by kernel_rfl)) (by kernel_rfl) ?_
     refine RW.valE (v' := .int .i64 (((l.getD ((row).toNat) default).P.length : Int) - 1)) (by kernel_rfl) (by kernel_rfl) rfl (congrArg (Value.int .i64) (wrap_in (by omega) (by omega))) (by kernel_rfl) ?_
     refine RW.v ?_
     refine RW.nil ?_
     refine W.rg [(0, .func (.yield b44) #[] #[]), (1, .pointer (some ⟨b42, 0, none⟩)), (3, .int .i64 (((l.getD ((row).toNat) default).P.length : Int) - 1))] fun TA => ?_
     refine W.block ?_
     have hno : ¬ (0 ≤ col ∧ col < ((l.getD ((row).toNat) default).P.length : Int) ∧ (l.getD ((row).toNat) default).P.getD (col).toNat 0 ≠ -1) := by omega
     refine W.loop (fun mm ta σ => ∃ (k : Nat), (mm = k ∧ k ≤ (l.getD ((row).toNat) default).P.length) ∧ (∀ j, k ≤ j → j < (l.getD ((row).toNat) default).P.length → (l.getD ((row).toNat) default).P.getD j 0 = -1) ∧ Lies G A F σ (.at_ b44 lp45 :: .at_ d43 (.defs true) :: .at_ b42 (.row ⟨[(ps.getD ((row).toNat) undef)], 37, false⟩) :: .at_ b2 (.row ⟨[.bool false], 4, false⟩) :: .at_ b1 (.row ⟨[.int .i64 0], 3, false⟩) :: (L)) ∧ ta 0 = .func (.yield b44) #[] #[] ∧ ta 1 = .pointer (some ⟨b42, 0, none⟩) ∧ ta 3 = .int .i64 (((k : Nat) : Int) - 1)) ((l.getD ((row).toNat) default).P.length) ?_ ?_
     ·exact ⟨(l.getD ((row).toNat) default).P.length, ⟨rfl, Nat.le_refl _⟩, (fun j h1 h2 => absurd h2 (by omega)), H, rfl, rfl, rfl⟩
     clear H
     rintro mm ta _ ⟨k, hm, hk2, H, e0, e1, e3⟩
     refine W.rst [(0, .func (.yield b44) #[] #[]), (1, .pointer (some ⟨b42, 0, none⟩)), (3, .int .i64 (((k : Nat) : Int) - 1))] ⟨e0, e1, e3, trivial⟩ fun TA => ?_
     clear e0 e1 e3
     refine W.seq ?_
     refine W.seq (W.region ?_)
     iterate 2 refine RW.v ?_
     refine RW.nil ?_
     refine W.rg [(0, .func (.yield b44) #[] #[]), (1, .pointer (some ⟨b42, 0, none⟩)), (3, .int .i64 (((k : Nat) : Int) - 1)), (8, .bool (decide ((((k : Nat) : Int) - 1) ≥ 0)))] fun TA => ?_
     refine W.cond rfl (fun hc48 => ?_) (fun hc48 => ?_)
     ·have hc48b := hc48
      have hc48 := of_decide_eq_true hc48
      refine W.skip ?_
      refine W.seq ?_
      refine W.block ?_
      refine W.seq (W.region ?_)
      iterate 2 refine RW.v ?_
      refine RW.ld H 2 1 ?_
      refine RW.v ?_
      refine RW.idxF (a1.2.2 ((row).toNat) (by omega)).2 (by kernel_rfl) (by kernel_rfl) rfl Tryd.underlying37 (by kernel_rfl) rfl rfl ⟨by omega, by omega⟩ (by kernel_rfl) ?_
      intro b49 q50 r51 hF52 hE53
      rw [ints_atN (l := (l.getD ((row).toNat) default).P) (j := (((k : Nat) : Int) - 1).toNat) (by omega)] at hE53
      refine RW.loads 1 (by kernel_rfl) (by kernel_rfl) rfl rfl (H.old _ _ hF52) hE53 rfl (by kernel_rfl) ?_
      refine RW.yieldL H 0 rfl hl46 (by kernel_rfl) (by kernel_rfl) rfl rfl rfl rfl rfl (by kernel_rfl) ?_
      refine W.rg [(6, .pointer (some ⟨b1, 0, none⟩)), (7, .pointer (some ⟨b2, 0, none⟩)), (44, .func (.func 62) #[] #[.pointer (some ⟨b42, 0, none⟩)]), (45, .int .i64 (((k : Nat) : Int) - 1)), (46, .int .i64 ((l.getD ((row).toNat) default).P.getD ((((k : Nat) : Int) - 1).toNat) 0))] fun TA => ?_
      refine W.region ?_
      refine RW.v ?_
      refine RW.nil ?_
      refine ⟨rfl, _, _, _, 0, H, rfl, ?_⟩
      clear H; intro _ lq54 hq55 H
      dsimp only [setL, delL] at H
      refine W.rg [(6, .pointer (some ⟨b1, 0, none⟩)), (7, .pointer (some ⟨b2, 0, none⟩)), (10, .int .i64 ((l.getD ((row).toNat) default).P.getD ((((k : Nat) : Int) - 1).toNat) 0)), (44, .func (.func 62) #[] #[.pointer (some ⟨b42, 0, none⟩)]), (46, .int .i64 ((l.getD ((row).toNat) default).P.getD ((((k : Nat) : Int) - 1).toNat) 0))] fun TA => ?_
      refine W.block ?_
      refine W.seq (W.region ?_)
      iterate 2 refine RW.v ?_
      refine RW.nil ?_
      refine W.rg [(6, .pointer (some ⟨b1, 0, none⟩)), (7, .pointer (some ⟨b2, 0, none⟩)), (10, .int .i64 ((l.getD ((row).toNat) default).P.getD ((((k : Nat) : Int) - 1).toNat) 0)), (44, .func (.func 62) #[] #[.pointer (some ⟨b42, 0, none⟩)]), (46, .int .i64 ((l.getD ((row).toNat) default).P.getD ((((k : Nat) : Int) - 1).toNat) 0)), (48, .bool (((l.getD ((row).toNat) default).P.getD ((((k : Nat) : Int) - 1).toNat) 0) != (-1)))] fun TA => ?_
      refine W.cond rfl (fun hc56 => ?_) (fun hc56 => ?_)
      ·have hc56b := hc56
       have hc56 := bne_iff_ne.1 hc56
       refine W.seq (W.region ?_)
       refine RW.v ?_
       refine RW.st H 4 [.int .i64 ((l.getD ((row).toNat) default).P.getD ((((k : Nat) : Int) - 1).toNat) 0)] [.int .i64 ((l.getD ((row).toNat) default).P.getD ((((k : Nat) : Int) - 1).toNat) 0)] ?_
       clear H; intro _ _ H; dsimp only [setL, delL] at H
       refine RW.st H 3 [.bool true] [.bool true] ?_
       clear H; intro _ _ H; dsimp only [setL, delL] at H
       refine RW.nil ?_
       refine W.ret ?_
       refine blkQ_ret ?_
       refine ⟨_, _, _, 0, false, .done, (some .ret), H, rfl, rfl, ?_⟩
       clear H; intro _ lr57 _ hr58 H
       dsimp only [setL, delL] at H
       refine RW.v ?_
       refine RW.nil ?_
       refine W.c1 ?_
       refine W.ret ?_
       refine blkQ_ret ?_
       refine seqQ_ret ?_
       refine rndQ_ret ?_
       refine blkQ_ret ?_
       refine endG (by rfl) (by exact rfl) ?_
       refine ⟨_, _, _, 0, _, _, _, _, H, rfl, hr58, rfl, rfl, ?_⟩
       clear H; intro _ H
       dsimp only [setL, delL] at H
       refine blkQ_ret ?_
       refine seqQ_ret ?_
       refine endMark H 0 rfl fun _ H => ?_
       dsimp only [setL, delL] at H
       refine endGD0 (by rfl) (by exact resL_cell rfl (H.get 2 rfl) (by rw [uT_eq]; exact Tryd.underlying3) (by kernel_rfl) rfl rfl (by exact resL_cell rfl (H.get 1 rfl) (by rw [uT_eq]; exact Tryd.underlying4) (by kernel_rfl) rfl rfl rfl)) ?_
       have ew : atM l row col = ((l.getD ((row).toNat) default).P.getD ((((k : Nat) : Int) - 1).toNat) 0, true) := by unfold atM; rw [if_neg (by omega), if_neg hno, last_hit (P := (l.getD ((row).toNat) default).P) (k := ((((k : Nat) : Int) - 1).toNat)) (fun j h1 h2 => by first | exact hk2 j (by omega) h2 | (exfalso; omega)) (by omega) (by omega)]
       rw [ew]
       exact ⟨rfl, (((H.del 2).del 1).del 0)⟩
      ·have hc56b := hc56
       have hc56 := (bne_eq_false_iff_eq.1) hc56
       refine W.skip ?_
       refine blkQ_normal ?_
       refine ⟨_, _, _, 0, true, .ready, none, H, rfl, rfl, ?_⟩
       clear H; intro _ lr59 _ hr60 H
       dsimp only [setL, delL] at H
       refine RW.v ?_
       refine RW.nil ?_
       refine W.c0 ?_
       refine W.skip ?_
       refine blkQ_normal ?_
       refine W.region ?_
       refine RW.v ?_
       refine RW.valE (v' := .int .i64 (((k - 1 : Nat) : Int) - 1)) (by kernel_rfl) (by kernel_rfl) rfl (congrArg (Value.int .i64) ((wrap_in (by omega) (by omega)).trans (by omega))) (by kernel_rfl) ?_
       refine RW.v ?_
       refine RW.nil ?_
       rw [show lr59 = lp45 from hr60.trans hl46.symm] at H
       exact ⟨rfl, mm - 1, by omega, k - 1, (by omega), (fun j h1 h2 => (Nat.lt_or_ge j k).elim (fun h => by have e : j = (((k : Nat) : Int) - 1).toNat := (by omega); rw [e]; omega) fun h => hk2 j h h2), H, rfl, rfl, rfl⟩
     ·have hc48b := hc48
      have hc48 := of_decide_eq_false hc48
      refine W.exit _ ?_
      refine seqQ_exit ?_
      refine rndQ_exit ?_
      refine blkQ_here ?_
      refine endG (by rfl) (by exact rfl) ?_
      refine ⟨_, _, _, 0, _, _, _, _, H, rfl, hl46, rfl, rfl, ?_⟩
      clear H; intro _ H
      dsimp only [setL, delL] at H
      refine blkQ_normal ?_
      refine W.seq (W.region ?_)
      refine RW.st H 3 [.int .i64 0] [.int .i64 0] ?_
      clear H; intro _ _ H; dsimp only [setL, delL] at H
      refine RW.st H 2 [.bool false] [.bool false] ?_
      clear H; intro _ _ H; dsimp only [setL, delL] at H
      refine RW.nil ?_
      replace H := (H.del 1)
      dsimp only [setL, delL] at H
      refine W.ret ?_
      refine endMark H 0 rfl fun _ H => ?_
      dsimp only [setL, delL] at H
      refine endGD0 (by rfl) (by exact resL_cell rfl (H.get 1 rfl) (by rw [uT_eq]; exact Tryd.underlying3) (by kernel_rfl) rfl rfl (by exact resL_cell rfl (H.get 0 rfl) (by rw [uT_eq]; exact Tryd.underlying4) (by kernel_rfl) rfl rfl rfl)) ?_
      have ew : atM l row col = (0, false) := by unfold atM; rw [if_neg (by omega), if_neg hno, last_miss (P := (l.getD ((row).toNat) default).P) (fun j hj => hk2 j (by omega) hj)]
      rw [ew]
      exact ⟨rfl, ((H.del 1).del 0)⟩
   ·have hc10b := hc10
    have hc10 := of_decide_eq_false hc10
    refine RW.skip (by rfl) (by kernel_rfl) ?_
    refine RW.skip (by rfl) (by kernel_rfl) ?_
    refine RW.skip (by rfl) (by kernel_rfl) ?_
    refine RW.skip (by rfl) (by kernel_rfl) ?_
    iterate 2 refine RW.v ?_
    refine RW.skip (by rfl) (by kernel_rfl) ?_
    refine RW.skip (by rfl) (by kernel_rfl) ?_
    refine RW.skip (by rfl) (by kernel_rfl) ?_
    refine RW.skip (by rfl) (by kernel_rfl) ?_
    refine RW.skip (by rfl) (by kernel_rfl) ?_
    refine RW.v ?_
    refine RW.nil ?_
    refine W.c0 ?_
    refine W.skip ?_
    refine W.seq ?_
    refine W.seq (W.region ?_)
    refine RW.v ?_
    refine RW.cl ?_
    refine WC.enter (fn := Tryd.f47) Tryd.func47 rfl ?_
    refine W.rg [(0, (ps.getD ((row).toNat) undef))] fun TA => ?_
    refine W.seq (W.region ?_)
    refine RW.mk H (.row ⟨((ps.getD ((row).toNat) undef)).cells.toList, 37, false⟩) ?_
    clear H; intro _ b61 _ H
    rw [(slf_one (a1.2.2 ((row).toNat) (by omega)).2)] at H
    refine RW.v ?_
    refine RW.nil ?_
    refine W.rg [(1, .pointer (some ⟨b61, 0, none⟩))] fun TA => ?_
    refine W.seq (W.region ?_)
    refine RW.val (v := .func (.func 62) #[] #[.pointer (some ⟨b61, 0, none⟩)]) (by kernel_rfl) (by kernel_rfl) (by kernel_rfl) (by kernel_rfl) ?_
    refine RW.v ?_
    refine RW.nil ?_
    refine W.ret ?_
    refine endG (by rfl) (by exact resL_tmp rfl) ?_
    refine RW.nil ?_
    refine W.rg [(6, .pointer (some ⟨b1, 0, none⟩)), (7, .pointer (some ⟨b2, 0, none⟩)), (44, .func (.func 62) #[] #[.pointer (some ⟨b61, 0, none⟩)])] fun TA => ?_
    refine W.block ?_
    refine W.rst [(6, .pointer (some ⟨b1, 0, none⟩)), (7, .pointer (some ⟨b2, 0, none⟩)), (44, .func (.func 62) #[] #[.pointer (some ⟨b61, 0, none⟩)])] ⟨rfl, rfl, rfl, trivial⟩ fun TL66 => ?_
    refine W.rangeL H rfl (fun _ h => nomatch h) (fun _ h => nomatch h) (by kernel_rfl) fun _ d62 b63 lp64 hl65 H => ?_
    refine WC.enter (fn := Tryd.f62) Tryd.func62 rfl ?_
    refine W.rg [(0, .func (.yield b63) #[] #[]), (1, .pointer (some ⟨b61, 0, none⟩))] fun TA => ?_
    refine W.seq (W.region ?_)
    refine RW.ld H 2 1 ?_
    refine RW.len (by kernel_rfl) (by kernel_rfl) rfl rfl rfl rfl ((a1.2.2 ((row).toNat) (by omega)).2.len (e := 3) (by kernel_rfl)) (by kernel_rfl) ?_
    refine RW.valE (v' := .int .i64 (((l.getD ((row).toNat) default).P.length : Int) - 1)) (by kernel_rfl) (by kernel_rfl) rfl (congrArg (Value.int .i64) (wrap_in (by omega) (by omega))) (by kernel_rfl) ?_
    refine RW.v ?_
    refine RW.nil ?_
    refine W.rg [(0, .func (.yield b63) #[] #[]), (1, .pointer (some ⟨b61, 0, none⟩)), (3, .int .i64 (((l.getD ((row).toNat) default).P.length : Int) - 1))] fun TA => ?_
    refine W.block ?_
    have hno : ¬ (0 ≤ col ∧ col < ((l.getD ((row).toNat) default).P.length : Int) ∧ (l.getD ((row).toNat) default).P.getD (col).toNat 0 ≠ -1) := by omega
    refine W.loop (fun mm ta σ => ∃ (k : Nat), (mm = k ∧ k ≤ (l.getD ((row).toNat) default).P.length) ∧ (∀ j, k ≤ j → j < (l.getD ((row).toNat) default).P.length → (l.getD ((row).toNat) default).P.getD j 0 = -1) ∧ Lies G A F σ (.at_ b63 lp64 :: .at_ d62 (.defs true) :: .at_ b61 (.row ⟨[(ps.getD ((row).toNat) undef)], 37, false⟩) :: .at_ b2 (.row ⟨[.bool false], 4, false⟩) :: .at_ b1 (.row ⟨[.int .i64 0], 3, false⟩) :: (L)) ∧ ta 0 = .func (.yield b63) #[] #[] ∧ ta 1 = .pointer (some ⟨b61, 0, none⟩) ∧ ta 3 = .int .i64 (((k : Nat) : Int) - 1)) ((l.getD ((row).toNat) default).P.length) ?_ ?_
    ·exact ⟨(l.getD ((row).toNat) default).P.length, ⟨rfl, Nat.le_refl _⟩, (fun j h1 h2 => absurd h2 (by omega)), H, rfl, rfl, rfl⟩
    clear H
    rintro mm ta _ ⟨k, hm, hk2, H, e0, e1, e3⟩
    refine W.rst [(0, .func (.yield b63) #[] #[]), (1, .pointer (some ⟨b61, 0, none⟩)), (3, .int .i64 (((k : Nat) : Int) - 1))] ⟨e0, e1, e3, trivial⟩ fun TA => ?_
    clear e0 e1 e3
    refine W.seq ?_
    refine W.seq (W.region ?_)
    iterate 2 refine RW.v ?_
    refine RW.nil ?_
    refine W.rg [(0, .func (.yield b63) #[] #[]), (1, .pointer (some ⟨b61, 0, none⟩)), (3, .int .i64 (((k : Nat) : Int) - 1)), (8, .bool (decide ((((k : Nat) : Int) - 1) ≥ 0)))] fun TA => ?_
    refine W.cond rfl (fun hc67 => ?_) (fun hc67 => ?_)
    ·have hc67b := hc67
     have hc67 := of_decide_eq_true hc67
     refine W.skip ?_
     refine W.seq ?_
     refine W.block ?_
     refine W.seq (W.region ?_)
     iterate 2 refine RW.v ?_
     refine RW.ld H 2 1 ?_
     refine RW.v ?_
     refine RW.idxF (a1.2.2 ((row).toNat) (by omega)).2 (by kernel_rfl) (by kernel_rfl) rfl Tryd.underlying37 (by kernel_rfl) rfl rfl ⟨by omega, by omega⟩ (by kernel_rfl) ?_
     intro b68 q69 r70 hF71 hE72
     rw [ints_atN (l := (l.getD ((row).toNat) default).P) (j := (((k : Nat) : Int) - 1).toNat) (by omega)] at hE72
     refine RW.loads 1 (by kernel_rfl) (by kernel_rfl) rfl rfl (H.old _ _ hF71) hE72 rfl (by kernel_rfl) ?_
     refine RW.yieldL H 0 rfl hl65 (by kernel_rfl) (by kernel_rfl) rfl rfl rfl rfl rfl (by kernel_rfl) ?_
     refine W.rg [(6, .pointer (some ⟨b1, 0, none⟩)), (7, .pointer (some ⟨b2, 0, none⟩)), (44, .func (.func 62) #[] #[.pointer (some ⟨b61, 0, none⟩)]), (45, .int .i64 (((k : Nat) : Int) - 1)), (46, .int .i64 ((l.getD ((row).toNat) default).P.getD ((((k : Nat) : Int) - 1).toNat) 0))] fun TA => ?_
     refine W.region ?_
     refine RW.v ?_
     refine RW.nil ?_
     refine ⟨rfl, _, _, _, 0, H, rfl, ?_⟩
     clear H; intro _ lq73 hq74 H
     dsimp only [setL, delL] at H
     refine W.rg [(6, .pointer (some ⟨b1, 0, none⟩)), (7, .pointer (some ⟨b2, 0, none⟩)), (10, .int .i64 ((l.getD ((row).toNat) default).P.getD ((((k : Nat) : Int) - 1).toNat) 0)), (44, .func (.func 62) #[] #[.pointer (some ⟨b61, 0, none⟩)]), (46, .int .i64 ((l.getD ((row).toNat) default).P.getD ((((k : Nat) : Int) - 1).toNat) 0))] fun TA => ?_
     refine W.block ?_
     refine W.seq (W.region ?_)
     iterate 2 refine RW.v ?_
     refine RW.nil ?_
     refine W.rg [(6, .pointer (some ⟨b1, 0, none⟩)), (7, .pointer (some ⟨b2, 0, none⟩)), (10, .int .i64 ((l.getD ((row).toNat) default).P.getD ((((k : Nat) : Int) - 1).toNat) 0)), (44, .func (.func 62) #[] #[.pointer (some ⟨b61, 0, none⟩)]), (46, .int .i64 ((l.getD ((row).toNat) default).P.getD ((((k : Nat) : Int) - 1).toNat) 0)), (48, .bool (((l.getD ((row).toNat) default).P.getD ((((k : Nat) : Int) - 1).toNat) 0) != (-1)))] fun TA => ?_
     refine W.cond rfl (fun hc75 => ?_) (fun hc75 => ?_)
     ·have hc75b := hc75
      have hc75 := bne_iff_ne.1 hc75
      refine W.seq (W.region ?_)
      refine RW.v ?_
      refine RW.st H 4 [.int .i64 ((l.getD ((row).toNat) default).P.getD ((((k : Nat) : Int) - 1).toNat) 0)] [.int .i64 ((l.getD ((row).toNat) default).P.getD ((((k : Nat) : Int) - 1).toNat) 0)] ?_
      clear H; intro _ _ H; dsimp only [setL, delL] at H
      refine RW.st H 3 [.bool true] [.bool true] ?_
      clear H; intro _ _ H; dsimp only [setL, delL] at H
      refine RW.nil ?_
      refine W.ret ?_
      refine blkQ_ret ?_
      refine ⟨_, _, _, 0, false, .done, (some .ret), H, rfl, rfl, ?_⟩
      clear H; intro _ lr76 _ hr77 H
      dsimp only [setL, delL] at H
      refine RW.v ?_
      refine RW.nil ?_
      refine W.c1 ?_
      refine W.ret ?_
      refine blkQ_ret ?_
      refine seqQ_ret ?_
      refine rndQ_ret ?_
      refine blkQ_ret ?_
      refine endG (by rfl) (by exact rfl) ?_
      refine ⟨_, _, _, 0, _, _, _, _, H, rfl, hr77, rfl, rfl, ?_⟩
      clear H; intro _ H
      dsimp only [setL, delL] at H
      refine blkQ_ret ?_
      refine seqQ_ret ?_
      refine endMark H 0 rfl fun _ H => ?_
      dsimp only [setL, delL] at H
      refine endGD0 (by rfl) (by exact resL_cell rfl (H.get 2 rfl) (by rw [uT_eq]; exact Tryd.underlying3) (by kernel_rfl) rfl rfl (by exact resL_cell rfl (H.get 1 rfl) (by rw [uT_eq]; exact Tryd.underlying4) (by kernel_rfl) rfl rfl rfl)) ?_
      have ew : atM l row col = ((l.getD ((row).toNat) default).P.getD ((((k : Nat) : Int) - 1).toNat) 0, true) := by unfold atM; rw [if_neg (by omega), if_neg hno, last_hit (P := (l.getD ((row).toNat) default).P) (k := ((((k : Nat) : Int) - 1).toNat)) (fun j h1 h2 => by first | exact hk2 j (by omega) h2 | (exfalso; omega)) (by omega) (by omega)]
      rw [ew]
      exact ⟨rfl, (((H.del 2).del 1).del 0)⟩
     ·have hc75b := hc75
      have hc75 := (bne_eq_false_iff_eq.1) hc75
      refine W.skip ?_
      refine blkQ_normal ?_
      refine ⟨_, _, _, 0, true, .ready, none, H, rfl, rfl, ?_⟩
      clear H; intro _ lr78 _ hr79 H
      dsimp only [setL, delL] at H
      refine RW.v ?_
      refine RW.nil ?_
      refine W.c0 ?_
      refine W.skip ?_
      refine blkQ_normal ?_
      refine W.region ?_
      refine RW.v ?_
      refine RW.valE (v' := .int .i64 (((k - 1 : Nat) : Int) - 1)) (by kernel_rfl) (by kernel_rfl) rfl (congrArg (Value.int .i64) ((wrap_in (by omega) (by omega)).trans (by omega))) (by kernel_rfl) ?_
      refine RW.v ?_
      refine RW.nil ?_
      rw [show lr78 = lp64 from hr79.trans hl65.symm] at H
      exact ⟨rfl, mm - 1, by omega, k - 1, (by omega), (fun j h1 h2 => (Nat.lt_or_ge j k).elim (fun h => by have e : j = (((k : Nat) : Int) - 1).toNat := (by omega); rw [e]; omega) fun h => hk2 j h h2), H, rfl, rfl, rfl⟩
    ·have hc67b := hc67
     have hc67 := of_decide_eq_false hc67
     refine W.exit _ ?_
     refine seqQ_exit ?_
     refine rndQ_exit ?_
     refine blkQ_here ?_
     refine endG (by rfl) (by exact rfl) ?_
     refine ⟨_, _, _, 0, _, _, _, _, H, rfl, hl65, rfl, rfl, ?_⟩
     clear H; intro _ H
     dsimp only [setL, delL] at H
     refine blkQ_normal ?_
     refine W.seq (W.region ?_)
     refine RW.st H 3 [.int .i64 0] [.int .i64 0] ?_
     clear H; intro _ _ H; dsimp only [setL, delL] at H
     refine RW.st H 2 [.bool false] [.bool false] ?_
     clear H; intro _ _ H; dsimp only [setL, delL] at H
     refine RW.nil ?_
     replace H := (H.del 1)
     dsimp only [setL, delL] at H
     refine W.ret ?_
     refine endMark H 0 rfl fun _ H => ?_
     dsimp only [setL, delL] at H
     refine endGD0 (by rfl) (by exact resL_cell rfl (H.get 1 rfl) (by rw [uT_eq]; exact Tryd.underlying3) (by kernel_rfl) rfl rfl (by exact resL_cell rfl (H.get 0 rfl) (by rw [uT_eq]; exact Tryd.underlying4) (by kernel_rfl) rfl rfl rfl)) ?_
     have ew : atM l row col = (0, false) := by unfold atM; rw [if_neg (by omega), if_neg hno, last_miss (P := (l.getD ((row).toNat) default).P) (fun j hj => hk2 j (by omega) hj)]
     rw [ew]
     exact ⟨rfl, ((H.del 1).del 0)⟩
end
end Go.Proofs.YtmmapljeeccdnaaDoor
namespace Go.Proofs.YtmmapljeeccdnaaDoor
set_option maxRecDepth 100000
theorem rowD_all {l : List RowV} {Q : RowV → Prop} (h : ∀ j, j < l.length → Q (l.getD j default)) : ∀ r ∈ l, Q r := fun r hr => by
 obtain ⟨j, hj⟩ := List.getElem?_of_mem hr
 have := h j (List.getElem?_eq_some_iff.1 hj).1
 rwa [List.getD_eq_getElem?_getD, hj] at this
end Go.Proofs.YtmmapljeeccdnaaDoor
