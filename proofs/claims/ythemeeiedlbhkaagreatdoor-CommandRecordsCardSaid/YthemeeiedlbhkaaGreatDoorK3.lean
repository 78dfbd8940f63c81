/-
 The reference: Start, Record, Cancel, Drop, Count. Conditions: none.
 The reference: Stop, Rotate, Play, what only reads, Copy. Conditions: none.
-/
import Derived.Test.YthemeeiedlbhkaaGreatDoorK2
namespace Go.Proofs.YthemeeiedlbhkaaGreatDoor
set_option maxRecDepth 100000
def NowK (F : Nat → Option Blk2) (nv v : Value) : Prop := nv = v ∨ v = .slice none 0 0 ∧ ∃ b t g, nv = .slice (some ⟨b, 0, none⟩) 0 0 ∧ F b = some (.row ⟨[], t, g⟩)
theorem NowK.le {F F' : Nat → Option Blk2} {nv v : Value} (h : NowK F nv v) (k : Le F F') : NowK F' nv v := by
 rcases h with h | ⟨h1, b, t, g, h2, h3⟩
 ·exact .inl h
 ·exact .inr ⟨h1, b, t, g, h2, k _ _ h3⟩
def RE (w : Nat) (mv nv v : Value) (s : RS) : List Ent := [.at_ w (.row ⟨[mv, .bool s.on, nv, .int .i64 s.ct], 94, false⟩), .sl 3 1 v s.E.length (s.E.map (Value.int .i64))]
theorem gr_slf {σ : Mem} {e s n : Nat} {v : Value} {xs : List Value} (h : GRow G65 σ e s v n xs) : SlK σ.get s v n xs := by
 cases h with
 | nil => exact .nil
 | row _ hr _ hc hl hx => exact .some hr (by rw [← hx, List.length_take, hc]; have := Nat.mul_le_mul_right s hl; omega) (by rw [List.drop_zero]; exact hx) hl (.inr rfl)
theorem now_slk {A : Abs} {σ : Mem} {F : Nat → Option Blk2} {L : List Ent} {e n : Nat} {nv v : Value} {xs : List Value} (hn : NowK F nv v) (H : Lies G65 A F σ L) (h : GRow G65 σ e 1 v n xs) : SlK σ.get 1 nv n xs := by
 rcases hn with rfl | ⟨rfl, b, t, g, rfl, hb⟩
 ·exact gr_slf h
 ·cases h with
  | nil => exact .some (H.old _ _ hb) rfl rfl (Nat.le_refl _) (.inl rfl)
theorem now_slf {A : Abs} {σ : Mem} {F : Nat → Option Blk2} {L : List Ent} {e n : Nat} {nv v : Value} {xs : List Value} (hn : NowK F nv v) (H : Lies G65 A F σ L) (h : GRow G65 σ e 1 v n xs) : SlF σ.get 1 nv n xs := (now_slk hn H h).slf
theorem now_freeze {A : Abs} {σ : Mem} {F : Nat → Option Blk2} {L : List Ent} {e n : Nat} {nv v : Value} {xs : List Value} (hn : NowK F nv v) (H : Lies G65 A F σ L) (k : Nat) (h : lookL L k = some (.sl e 1 v n xs)) : ∃ F', Le F F' ∧ SlK F' 1 nv n xs ∧ Lies G65 A F' σ (delL L k) := by
 obtain ⟨F', le, h1, H1⟩ := H.freezeK k h
 refine ⟨F', le, ?_, H1⟩
 rcases hn with rfl | ⟨rfl, b, t, g, rfl, hb⟩
 ·exact h1
 ·cases h1 with
  | nil => exact .some (le _ _ hb) rfl rfl (Nat.le_refl _) (.inl rfl)
section
variable {F : Nat → Option Blk2} {v m : Value}
theorem mac_one {l : List Int} {M : List (List Int)} (h : SlK F 1 v 1 [m]) (hl : SlK F 1 m l.length (l.map (Value.int .i64))) (hM : M.length = 0) : MacF F v ((l :: M).take (min (1 + M.length) 20)) := by
 obtain rfl := List.eq_nil_of_length_eq_zero hM
 exact ⟨[m], h, hl, trivial⟩
theorem mac_whole {ws : List Value} {N : List (List Int)} {i j : Nat} (h : SlK F 1 v i ws) (ha : AllR F ws N) (hi : i = N.length) (hj : N.length ≤ j) : MacF F v (N.take j) := by
 rw [List.take_of_length_le hj]
 subst hi
 exact ⟨ws, h, ha⟩
theorem mac_none {M : List (List Int)} (h : SlK F 1 v 0 []) (hM : M.length = 1) : MacF F v (M.drop 1) := by
 rw [List.drop_of_length_le (by omega)]
 exact ⟨[], h, trivial⟩
end
theorem nil_len {σ : Mem} {e s n : Nat} {xs : List Value} (h : GRow G65 σ e s (.slice none 0 0) n xs) : n = 0 := by
 cases h
 rfl
theorem rot_neg (n : Int) {m : Nat} (h : 0 < m) (hn : Int.tmod n m < 0) : Int.tmod n m + (m : Int) = ((rotN n m : Nat) : Int) := by
 have h1 := tmod_in n (m := (m : Int)) (by omega)
 rw [← rot_is n h, Int.tmod_eq_emod_of_nonneg (a := Int.tmod n m + (m : Int)) (by omega), Int.emod_eq_of_lt (a := Int.tmod n m + (m : Int)) (by omega) (by omega)]
theorem rot_pos (n : Int) {m : Nat} (h : 0 < m) (hn : ¬ Int.tmod n m < 0) : Int.tmod n m = ((rotN n m : Nat) : Int) := by
 have h1 := tmod_in n (m := (m : Int)) (by omega)
 rw [← rot_is n h, Int.tmod_eq_emod_of_nonneg (a := Int.tmod n m + (m : Int)) (by omega), Int.add_emod_right, Int.emod_eq_of_lt (by omega) (by omega)]
theorem rep_cells (i : Nat) (X : List Int) : (rep i X).map (Value.int .i64) ++ X.map (Value.int .i64) = (rep i X ++ X).map (Value.int .i64) := by rw [List.map_append]
theorem rep_bound {X : List Int} {i : Nat} {n : Int} (h1 : (i : Int) < n) (h2 : n * (X.length : Int) ≤ 100000) : (rep i X).length + X.length ≤ 100000 := by
 obtain ⟨k, rfl⟩ : ∃ k : Nat, n = (k : Int) := ⟨n.toNat, by omega⟩
 have e : (k : Int) * (X.length : Int) = ((X.length * k : Nat) : Int) := by push_cast; exact Int.mul_comm _ _
 rw [e] at h2
 rw [rep_len]
 have : X.length * (i + 1) ≤ X.length * k := Nat.mul_le_mul_left _ (by omega)
 rw [Nat.mul_add] at this
 omega
section
variable {A : Abs} {σ : Mem} {F : Nat → Option Blk2} {L : List Ent} {w : Nat} {mv nv v : Value} {on : Bool} {E : List Int} {M : List (List Int)} {ct : Int}
set_option maxHeartbeats 4000000 in
theorem r_start {x : Bool} {n d : Int} (hM : ∀ x ∈ M, 0 < x.length ∧ x.length ≤ 10000) (hl : M.length ≤ 20) (hE : E.length ≤ 10000) (hm : MacF F mv M) (hn : NowK F nv v) (H : Lies G65 A F σ (RE w mv nv v ⟨on, E, M, ct⟩ ++ L)) : WC G65 Tryz.prog 49 #[.pointer (some ⟨w, 0, none⟩), .bool x] σ fun r σ' => r = .int .i64 (start ⟨on, E, M, ct⟩ x).1 ∧ ∃ F' mv' nv' v', Le F F' ∧ MacF F' mv' (start ⟨on, E, M, ct⟩ x).2.M ∧ NowK F' nv' v' ∧ Lies G65 A F' σ' (RE w mv' nv' v' (start ⟨on, E, M, ct⟩ x).2 ++ L) := by
 obtain ⟨vs, hmv, hall⟩ := hm
 have le0 : Le F F := fun _ _ h => h
 replace H : Lies G65 A F σ (.at_ w (.row ⟨[mv, .bool on, nv, .int .i64 ct], 94, false⟩) :: .sl 3 1 v E.length (E.map (Value.int .i64)) :: (L)) := H
 refine WC.enter (fn := Tryz.f49) Tryz.func49 rfl ?_
 refine W.rg [(0, pp w), (1, .bool x)] fun TA => ?_
 refine W.seq (W.region ?_)
 refine RW.v ?_
 refine RW.nil ?_
 refine W.rg [(0, pp w), (1, .bool x)] fun TA => ?_
 refine W.seq ?_
 refine W.block ?_
 refine W.seq (W.region ?_)
 iterate 3 refine RW.v ?_
 refine RW.ld H 0 1 ?_
 refine RW.v ?_
 refine RW.nil ?_
 refine W.rg [(0, pp w), (1, .bool x), (5, .bool on)] fun TA => ?_
 refine W.cond rfl (fun hc1 => ?_) (fun hc1 => ?_)
 ·have hc1b := hc1
  refine W.seq (W.region ?_)
  refine RW.v ?_
  refine RW.nil ?_
  refine W.ret ?_
  refine blkQ_ret ?_
  refine seqQ_ret ?_
  refine endG (by rfl) (by exact resL_tmp rfl) ?_
  have K := ((H.front 1 rfl).front 1 rfl)
  have em : start ⟨on, E, M, ct⟩ x = (9, ⟨on, E, M, ct⟩) := by clear H K; exact (by (unfold start; (repeat' split) <;> first | rfl | (exfalso; omega) | (exfalso; simp_all; done) | (exfalso; simp_all; omega) | (simp_all; done) | (simp_all; omega)))
  rw [em]
  exact ⟨rfl, F, _, _, _, le0, ⟨vs, hmv, hall⟩, hn, K⟩
 ·have hc1b := hc1
  refine W.seq (W.region ?_)
  iterate 2 refine RW.v ?_
  refine RW.both _ _ rfl rfl rfl (fun hc2 => ?_) (fun hc2 => ?_)
  ·have hc2b := hc2
   refine RW.val (by rfl) (by kernel_rfl) rfl (by kernel_rfl) ?_
   refine RW.val (by rfl) (by kernel_rfl) rfl (by kernel_rfl) ?_
   refine RW.val (by rfl) (by kernel_rfl) rfl (by kernel_rfl) ?_
   refine RW.ldL H 0 1 (by rfl) (by kernel_rfl) rfl rfl rfl rfl rfl (by kernel_rfl) ?_
   refine RW.len (by rfl) (by kernel_rfl) rfl rfl rfl rfl (hmv.slf.len (e := 48) (by kernel_rfl)) (by kernel_rfl) ?_
   refine RW.val (by rfl) (by kernel_rfl) rfl (by kernel_rfl) ?_
   iterate 2 refine RW.v ?_
   refine RW.nil ?_
   refine W.rg [(0, pp w), (1, .bool x), (10, .bool ((M.length : Int) == 0))] fun TA => ?_
   refine W.cond rfl (fun hc3 => ?_) (fun hc3 => ?_)
   ·have hc3b := hc3
    have hc3 := eq_of_beq hc3
    refine W.seq (W.region ?_)
    refine RW.v ?_
    refine RW.nil ?_
    refine W.ret ?_
    refine blkQ_ret ?_
    refine seqQ_ret ?_
    refine endG (by rfl) (by exact resL_tmp rfl) ?_
    have K := ((H.front 1 rfl).front 1 rfl)
    have em : start ⟨on, E, M, ct⟩ x = (13, ⟨on, E, M, ct⟩) := by clear H K; exact (by (unfold start; (repeat' split) <;> first | rfl | (exfalso; omega) | (exfalso; simp_all; done) | (exfalso; simp_all; omega) | (simp_all; done) | (simp_all; omega)))
    rw [em]
    exact ⟨rfl, F, _, _, _, le0, ⟨vs, hmv, hall⟩, hn, K⟩
   ·have hc3b := hc3
    have hc3 := ne_of_beq_false hc3
    refine W.skip ?_
    refine blkQ_normal ?_
    refine W.seq (W.region ?_)
    iterate 3 refine RW.v ?_
    refine RW.st H 0 [.bool true] [mv, .bool true, nv, .int .i64 ct] ?_
    clear H; intro _ _ H; dsimp only [setL, delL] at H
    refine RW.nil ?_
    refine W.rg [(0, pp w), (1, .bool x)] fun TA => ?_
    refine W.seq (W.region ?_)
    iterate 3 refine RW.v ?_
    refine RW.st H 0 [.slice none 0 0] [mv, .bool true, .slice none 0 0, .int .i64 ct] ?_
    clear H; intro _ _ H; dsimp only [setL, delL] at H
    refine RW.nil ?_
    refine W.rg [(0, pp w), (1, .bool x)] fun TA => ?_
    refine W.seq ?_
    refine W.seq (W.region ?_)
    refine RW.v ?_
    refine RW.nil ?_
    refine W.rg [(0, pp w), (26, .bool x)] fun TA => ?_
    refine W.cond (b := true) (congrArg Value.bool hc2b) (fun _ => ?_) (fun h => by cases h)
    refine W.region ?_
    iterate 4 refine RW.v ?_
    refine RW.ld H 0 1 ?_
    refine RW.idxF hmv.slf (by kernel_rfl) (by kernel_rfl) rfl Tryz.underlying54 (by kernel_rfl) rfl rfl ⟨by omega, by omega⟩ (by kernel_rfl) ?_
    intro b4 q5 r6 hF7 hE8
    rw [vs_at0 (vs := vs) (by rw [hall.len]; omega)] at hE8
    refine RW.loads 1 (by kernel_rfl) (by kernel_rfl) rfl rfl (H.old _ _ hF7) hE8 rfl (by kernel_rfl) ?_
    have hz := mac_in hM (i := 0) (by omega)
    refine RW.cl ?_
    refine ((own_pos (hall.get (i := 0) (by omega)).slf (by omega) (by omega) (ints_one _) H).mono ?_)
    clear H
    rintro v9 _ H
    iterate 2 refine RW.v ?_
    refine RW.stL H 1 (vs := [v9]) (cs' := [mv, .bool true, v9, .int .i64 ct]) (by kernel_rfl) (by kernel_rfl) rfl rfl rfl (H.sl 0 rfl).one (gr_all (H.sl 0 rfl)) (by kernel_rfl) (Nat.le_of_ble_eq_true rfl) rfl (by kernel_rfl) ?_
    clear H; intro _ _ H; dsimp only [setL, delL] at H
    refine RW.nil ?_
    refine W.rg [] fun TA => ?_
    refine W.seq (W.region ?_)
    refine RW.v ?_
    refine RW.nil ?_
    refine W.ret ?_
    refine endG (by rfl) (by exact resL_tmp rfl) ?_
    have K := ((H.del 2).front 1 rfl)
    have em : start ⟨on, E, M, ct⟩ x = (0, ⟨true, M.getD 0 [], M, ct⟩) := by clear H K; exact (by (unfold start; (repeat' split) <;> first | rfl | (exfalso; omega) | (exfalso; simp_all; done) | (exfalso; simp_all; omega) | (simp_all; done) | (simp_all; omega)))
    rw [em]
    exact ⟨rfl, F, _, _, _, le0, ⟨vs, hmv, hall⟩, .inl rfl, K⟩
  ·have hc2b := hc2
   refine RW.skip (by rfl) (by kernel_rfl) ?_
   refine RW.skip (by rfl) (by kernel_rfl) ?_
   refine RW.skip (by rfl) (by kernel_rfl) ?_
   refine RW.skip (by rfl) (by kernel_rfl) ?_
   refine RW.skip (by rfl) (by kernel_rfl) ?_
   refine RW.skip (by rfl) (by kernel_rfl) ?_
   iterate 2 refine RW.v ?_
   refine RW.nil ?_
   refine W.c0 ?_
   refine W.skip ?_
   refine blkQ_normal ?_
   refine W.seq (W.region ?_)
   iterate 3 refine RW.v ?_
   refine RW.st H 0 [.bool true] [mv, .bool true, nv, .int .i64 ct] ?_
   clear H; intro _ _ H; dsimp only [setL, delL] at H
   refine RW.nil ?_
   refine W.rg [(0, pp w), (1, .bool x)] fun TA => ?_
   refine W.seq (W.region ?_)
   iterate 3 refine RW.v ?_
   refine RW.st H 0 [.slice none 0 0] [mv, .bool true, .slice none 0 0, .int .i64 ct] ?_
   clear H; intro _ _ H; dsimp only [setL, delL] at H
   refine RW.nil ?_
   refine W.rg [(0, pp w), (1, .bool x)] fun TA => ?_
   refine W.seq ?_
   refine W.seq (W.region ?_)
   refine RW.v ?_
   refine RW.nil ?_
   refine W.rg [(0, pp w), (26, .bool x)] fun TA => ?_
   refine W.cond (b := false) (congrArg Value.bool hc2b) (fun h => by cases h) (fun _ => ?_)
   refine W.skip ?_
   refine W.seq (W.region ?_)
   refine RW.v ?_
   refine RW.nil ?_
   refine W.ret ?_
   refine endG (by rfl) (by exact resL_tmp rfl) ?_
   replace H := H.nilSl 3 1
   have K := ((H.del 2).front 1 rfl)
   have em : start ⟨on, E, M, ct⟩ x = (0, ⟨true, [], M, ct⟩) := by clear H K; exact (by (unfold start; (repeat' split) <;> first | rfl | (exfalso; omega) | (exfalso; simp_all; done) | (exfalso; simp_all; omega) | (simp_all; done) | (simp_all; omega)))
   rw [em]
   exact ⟨rfl, F, _, _, _, le0, ⟨vs, hmv, hall⟩, .inl rfl, K⟩
set_option maxHeartbeats 4000000 in
theorem r_record {n : Int} (hM : ∀ x ∈ M, 0 < x.length ∧ x.length ≤ 10000) (hl : M.length ≤ 20) (hE : E.length ≤ 10000) (hm : MacF F mv M) (hn : NowK F nv v) (H : Lies G65 A F σ (RE w mv nv v ⟨on, E, M, ct⟩ ++ L)) : WC G65 Tryz.prog 50 #[.pointer (some ⟨w, 0, none⟩), .int .i64 n] σ fun r σ' => r = .int .i64 (record ⟨on, E, M, ct⟩ n).1 ∧ ∃ F' mv' nv' v', Le F F' ∧ MacF F' mv' (record ⟨on, E, M, ct⟩ n).2.M ∧ NowK F' nv' v' ∧ Lies G65 A F' σ' (RE w mv' nv' v' (record ⟨on, E, M, ct⟩ n).2 ++ L) := by
 rcases hn with rfl | ⟨rfl, b, t, g, rfl, hb⟩
 ·replace H : Lies G65 A F σ (RE w mv nv nv ⟨on, E, M, ct⟩ ++ L) := H
  generalize nv = v at *
  obtain ⟨vs, hmv, hall⟩ := hm
  have le0 : Le F F := fun _ _ h => h
  replace H : Lies G65 A F σ (.at_ w (.row ⟨[mv, .bool on, v, .int .i64 ct], 94, false⟩) :: .sl 3 1 v E.length (E.map (Value.int .i64)) :: (L)) := H
  refine WC.enter (fn := Tryz.f50) Tryz.func50 rfl ?_
  refine W.rg [(0, pp w), (1, .int .i64 n)] fun TA => ?_
  refine W.seq (W.region ?_)
  refine RW.v ?_
  refine RW.nil ?_
  refine W.rg [(0, pp w), (1, .int .i64 n)] fun TA => ?_
  refine W.seq ?_
  refine W.block ?_
  refine W.seq (W.region ?_)
  iterate 3 refine RW.v ?_
  refine RW.ld H 0 1 ?_
  iterate 2 refine RW.v ?_
  refine RW.nil ?_
  refine W.rg [(0, pp w), (1, .int .i64 n), (5, .bool (!on))] fun TA => ?_
  refine W.cond rfl (fun hc1 => ?_) (fun hc1 => ?_)
  ·have hc1b := hc1
   refine W.seq (W.region ?_)
   refine RW.v ?_
   refine RW.nil ?_
   refine W.ret ?_
   refine blkQ_ret ?_
   refine seqQ_ret ?_
   refine endG (by rfl) (by exact resL_tmp rfl) ?_
   have K := ((H.front 1 rfl).front 1 rfl)
   have em : record ⟨on, E, M, ct⟩ n = (9, ⟨on, E, M, ct⟩) := by clear H K; exact (by (unfold record; (repeat' split) <;> first | rfl | (exfalso; omega) | (exfalso; simp_all; done) | (exfalso; simp_all; omega) | (simp_all; done) | (simp_all; omega)))
   rw [em]
   exact ⟨rfl, F, _, _, _, le0, ⟨vs, hmv, hall⟩, .inl rfl, K⟩
  ·have hc1b := hc1
   refine W.seq (W.region ?_)
   iterate 3 refine RW.v ?_
   refine RW.ld H 0 1 ?_
   refine RW.len (by kernel_rfl) (by kernel_rfl) rfl rfl rfl rfl ((H.sl 1 rfl).len (by kernel_rfl)) (by kernel_rfl) ?_
   iterate 2 refine RW.v ?_
   refine RW.nil ?_
   refine W.rg [(0, pp w), (1, .int .i64 n), (11, .bool (decide (((E.length : Nat) : Int) ≥ 10000)))] fun TA => ?_
   refine W.cond rfl (fun hc2 => ?_) (fun hc2 => ?_)
   ·have hc2b := hc2
    have hc2 := of_decide_eq_true hc2
    refine W.seq (W.region ?_)
    refine RW.v ?_
    refine RW.nil ?_
    refine W.ret ?_
    refine blkQ_ret ?_
    refine seqQ_ret ?_
    refine endG (by rfl) (by exact resL_tmp rfl) ?_
    have K := ((H.front 1 rfl).front 1 rfl)
    have em : record ⟨on, E, M, ct⟩ n = (4, ⟨on, E, M, ct⟩) := by clear H K; exact (by (unfold record; (repeat' split) <;> first | rfl | (exfalso; omega) | (exfalso; simp_all; done) | (exfalso; simp_all; omega) | (simp_all; done) | (simp_all; omega)))
    rw [em]
    exact ⟨rfl, F, _, _, _, le0, ⟨vs, hmv, hall⟩, .inl rfl, K⟩
   ·have hc2b := hc2
    have hc2 := of_decide_eq_false hc2
    refine W.skip ?_
    refine blkQ_normal ?_
    refine W.seq (W.region ?_)
    iterate 4 refine RW.v ?_
    refine RW.ld H 0 1 ?_
    refine RW.v ?_
    refine RW.mkL H (x := .row ⟨[.int .i64 n], 3, false⟩) (fm := fun b => .slice (some ⟨b, 0, none⟩) 1 1) (by kernel_rfl) (by kernel_rfl) (by kernel_rfl) (by kernel_rfl) ?_
    clear H; intro _ b3 _ H
    refine RW.appLD H 2 0 (n := 1) (e2 := 3) (by kernel_rfl) (by kernel_rfl) rfl rfl rfl rfl rfl rfl rfl (.inl rfl) rfl (by kernel_rfl) (by kernel_rfl) (by kernel_rfl) (by decide) (by decide) rfl rfl (by omega) (by kernel_rfl) ?_
    clear H; intro _ v2 H
    dsimp only [setL, delL] at H
    iterate 2 refine RW.v ?_
    refine RW.stL H 0 (vs := [v2]) (cs' := [mv, .bool on, v2, .int .i64 ct]) (by kernel_rfl) (by kernel_rfl) rfl rfl rfl (H.sl 1 rfl).one (gr_all (H.sl 1 rfl)) (by kernel_rfl) (Nat.le_of_ble_eq_true rfl) rfl (by kernel_rfl) ?_
    clear H; intro _ _ H; dsimp only [setL, delL] at H
    refine RW.nil ?_
    refine W.rg [] fun TA => ?_
    refine W.seq (W.region ?_)
    refine RW.v ?_
    refine RW.nil ?_
    refine W.ret ?_
    refine endG (by rfl) (by exact resL_tmp rfl) ?_
    rw [← snocI, show E.length + 1 = (E ++ [n]).length from (by simp)] at H
    have K := ((H.front 1 rfl).front 1 rfl)
    have em : record ⟨on, E, M, ct⟩ n = (0, ⟨on, E ++ [n], M, ct⟩) := by clear H K; exact (by (unfold record; (repeat' split) <;> first | rfl | (exfalso; omega) | (exfalso; simp_all; done) | (exfalso; simp_all; omega) | (simp_all; done) | (simp_all; omega)))
    rw [em]
    exact ⟨rfl, F, _, _, _, le0, ⟨vs, hmv, hall⟩, .inl rfl, K⟩
 ·have hE0 : E.length = 0 := nil_len (H.sl 1 rfl)
  obtain ⟨vs, hmv, hall⟩ := hm
  have le0 : Le F F := fun _ _ h => h
  replace H : Lies G65 A F σ (.at_ w (.row ⟨[mv, .bool on, .slice (some ⟨b, 0, none⟩) 0 0, .int .i64 ct], 94, false⟩) :: .sl 3 1 (.slice none 0 0) E.length (E.map (Value.int .i64)) :: (L)) := H
  refine WC.enter (fn := Tryz.f50) Tryz.func50 rfl ?_
  refine W.rg [(0, pp w), (1, .int .i64 n)] fun TA => ?_
  refine W.seq (W.region ?_)
  refine RW.v ?_
  refine RW.nil ?_
  refine W.rg [(0, pp w), (1, .int .i64 n)] fun TA => ?_
  refine W.seq ?_
  refine W.block ?_
  refine W.seq (W.region ?_)
  iterate 3 refine RW.v ?_
  refine RW.ld H 0 1 ?_
  iterate 2 refine RW.v ?_
  refine RW.nil ?_
  refine W.rg [(0, pp w), (1, .int .i64 n), (5, .bool (!on))] fun TA => ?_
  refine W.cond rfl (fun hc1 => ?_) (fun hc1 => ?_)
  ·have hc1b := hc1
   refine W.seq (W.region ?_)
   refine RW.v ?_
   refine RW.nil ?_
   refine W.ret ?_
   refine blkQ_ret ?_
   refine seqQ_ret ?_
   refine endG (by rfl) (by exact resL_tmp rfl) ?_
   have K := ((H.front 1 rfl).front 1 rfl)
   have em : record ⟨on, E, M, ct⟩ n = (9, ⟨on, E, M, ct⟩) := by clear H K; exact (by (unfold record; (repeat' split) <;> first | rfl | (exfalso; omega) | (exfalso; simp_all; done) | (exfalso; simp_all; omega) | (simp_all; done) | (simp_all; omega)))
   rw [em]
   exact ⟨rfl, F, _, _, _, le0, ⟨vs, hmv, hall⟩, .inr ⟨rfl, _, _, _, rfl, hb⟩, K⟩
  ·have hc1b := hc1
   refine W.seq (W.region ?_)
   iterate 3 refine RW.v ?_
   refine RW.ld H 0 1 ?_
   iterate 3 refine RW.v ?_
   refine RW.nil ?_
   refine W.c0 ?_
   refine W.skip ?_
   refine blkQ_normal ?_
   refine W.seq (W.region ?_)
   iterate 4 refine RW.v ?_
   refine RW.ld H 0 1 ?_
   refine RW.v ?_
   refine RW.mkL H (x := .row ⟨[.int .i64 n], 3, false⟩) (fm := fun b => .slice (some ⟨b, 0, none⟩) 1 1) (by kernel_rfl) (by kernel_rfl) (by kernel_rfl) (by kernel_rfl) ?_
   clear H; intro _ b2 _ H
   refine RW.appLD H 2 0 (n := 1) (e2 := 3) (by kernel_rfl) (by kernel_rfl) rfl rfl rfl rfl rfl rfl rfl (.inr ⟨rfl, _, _, _, rfl, H.old _ _ hb⟩) rfl (by kernel_rfl) (by kernel_rfl) (by kernel_rfl) (by decide) (by decide) rfl rfl (by omega) (by kernel_rfl) ?_
   clear H; intro _ v2 H
   dsimp only [setL, delL] at H
   iterate 2 refine RW.v ?_
   refine RW.stL H 0 (vs := [v2]) (cs' := [mv, .bool on, v2, .int .i64 ct]) (by kernel_rfl) (by kernel_rfl) rfl rfl rfl (H.sl 1 rfl).one (gr_all (H.sl 1 rfl)) (by kernel_rfl) (Nat.le_of_ble_eq_true rfl) rfl (by kernel_rfl) ?_
   clear H; intro _ _ H; dsimp only [setL, delL] at H
   refine RW.nil ?_
   refine W.rg [] fun TA => ?_
   refine W.seq (W.region ?_)
   refine RW.v ?_
   refine RW.nil ?_
   refine W.ret ?_
   refine endG (by rfl) (by exact resL_tmp rfl) ?_
   rw [← snocI, show E.length + 1 = (E ++ [n]).length from (by simp)] at H
   have K := ((H.front 1 rfl).front 1 rfl)
   have em : record ⟨on, E, M, ct⟩ n = (0, ⟨on, E ++ [n], M, ct⟩) := by clear H K; exact (by (unfold record; (repeat' split) <;> first | rfl | (exfalso; omega) | (exfalso; simp_all; done) | (exfalso; simp_all; omega) | (simp_all; done) | (simp_all; omega)))
   rw [em]
   exact ⟨rfl, F, _, _, _, le0, ⟨vs, hmv, hall⟩, .inl rfl, K⟩
set_option maxHeartbeats 4000000 in
theorem r_cancel {x : Bool} {n d : Int} (hM : ∀ x ∈ M, 0 < x.length ∧ x.length ≤ 10000) (hl : M.length ≤ 20) (hE : E.length ≤ 10000) (hm : MacF F mv M) (hn : NowK F nv v) (H : Lies G65 A F σ (RE w mv nv v ⟨on, E, M, ct⟩ ++ L)) : WC G65 Tryz.prog 53 #[.pointer (some ⟨w, 0, none⟩)] σ fun r σ' => r = .int .i64 (cancel ⟨on, E, M, ct⟩).1 ∧ ∃ F' mv' nv' v', Le F F' ∧ MacF F' mv' (cancel ⟨on, E, M, ct⟩).2.M ∧ NowK F' nv' v' ∧ Lies G65 A F' σ' (RE w mv' nv' v' (cancel ⟨on, E, M, ct⟩).2 ++ L) := by
 obtain ⟨vs, hmv, hall⟩ := hm
 have le0 : Le F F := fun _ _ h => h
 replace H : Lies G65 A F σ (.at_ w (.row ⟨[mv, .bool on, nv, .int .i64 ct], 94, false⟩) :: .sl 3 1 v E.length (E.map (Value.int .i64)) :: (L)) := H
 refine WC.enter (fn := Tryz.f53) Tryz.func53 rfl ?_
 refine W.rg [(0, pp w)] fun TA => ?_
 refine W.seq (W.region ?_)
 refine RW.v ?_
 refine RW.nil ?_
 refine W.rg [(0, pp w)] fun TA => ?_
 refine W.seq ?_
 refine W.seq (W.region ?_)
 iterate 3 refine RW.v ?_
 refine RW.ld H 0 1 ?_
 refine RW.v ?_
 refine RW.nil ?_
 refine W.rg [(0, pp w), (7, .bool (!on))] fun TA => ?_
 refine W.cond rfl (fun hc1 => ?_) (fun hc1 => ?_)
 ·have hc1b := hc1
  refine W.seq (W.region ?_)
  refine RW.v ?_
  refine RW.nil ?_
  refine W.ret ?_
  refine seqQ_ret ?_
  refine endG (by rfl) (by exact resL_tmp rfl) ?_
  have K := ((H.front 1 rfl).front 1 rfl)
  have em : cancel ⟨on, E, M, ct⟩ = (9, ⟨on, E, M, ct⟩) := by clear H K; exact (by (unfold cancel; (repeat' split) <;> first | rfl | (exfalso; omega) | (exfalso; simp_all; done) | (exfalso; simp_all; omega) | (simp_all; done) | (simp_all; omega)))
  rw [em]
  exact ⟨rfl, F, _, _, _, le0, ⟨vs, hmv, hall⟩, hn, K⟩
 ·have hc1b := hc1
  refine W.skip ?_
  refine W.seq (W.region ?_)
  iterate 3 refine RW.v ?_
  refine RW.st H 0 [.bool false] [mv, .bool false, nv, .int .i64 ct] ?_
  clear H; intro _ _ H; dsimp only [setL, delL] at H
  refine RW.nil ?_
  refine W.rg [(0, pp w)] fun TA => ?_
  refine W.seq (W.region ?_)
  iterate 3 refine RW.v ?_
  refine RW.st H 0 [.slice none 0 0] [mv, .bool false, .slice none 0 0, .int .i64 ct] ?_
  clear H; intro _ _ H; dsimp only [setL, delL] at H
  refine RW.nil ?_
  refine W.rg [] fun TA => ?_
  refine W.seq (W.region ?_)
  refine RW.v ?_
  refine RW.nil ?_
  refine W.ret ?_
  refine endG (by rfl) (by exact resL_tmp rfl) ?_
  replace H := H.nilSl 3 1
  have K := ((H.del 2).front 1 rfl)
  have em : cancel ⟨on, E, M, ct⟩ = (0, ⟨false, [], M, ct⟩) := by clear H K; exact (by (unfold cancel; (repeat' split) <;> first | rfl | (exfalso; omega) | (exfalso; simp_all; done) | (exfalso; simp_all; omega) | (simp_all; done) | (simp_all; omega)))
  rw [em]
  exact ⟨rfl, F, _, _, _, le0, ⟨vs, hmv, hall⟩, .inl rfl, K⟩
set_option maxHeartbeats 4000000 in
theorem r_drop {x : Bool} {n d : Int} (hM : ∀ x ∈ M, 0 < x.length ∧ x.length ≤ 10000) (hl : M.length ≤ 20) (hE : E.length ≤ 10000) (hm : MacF F mv M) (hn : NowK F nv v) (H : Lies G65 A F σ (RE w mv nv v ⟨on, E, M, ct⟩ ++ L)) : WC G65 Tryz.prog 57 #[.pointer (some ⟨w, 0, none⟩)] σ fun r σ' => r = .int .i64 (drop ⟨on, E, M, ct⟩).1 ∧ ∃ F' mv' nv' v', Le F F' ∧ MacF F' mv' (drop ⟨on, E, M, ct⟩).2.M ∧ NowK F' nv' v' ∧ Lies G65 A F' σ' (RE w mv' nv' v' (drop ⟨on, E, M, ct⟩).2 ++ L) := by
 obtain ⟨vs, hmv, hall⟩ := hm
 have le0 : Le F F := fun _ _ h => h
 replace H : Lies G65 A F σ (.at_ w (.row ⟨[mv, .bool on, nv, .int .i64 ct], 94, false⟩) :: .sl 3 1 v E.length (E.map (Value.int .i64)) :: (L)) := H
 refine WC.enter (fn := Tryz.f57) Tryz.func57 rfl ?_
 refine W.rg [(0, pp w)] fun TA => ?_
 refine W.seq (W.region ?_)
 refine RW.v ?_
 refine RW.nil ?_
 refine W.rg [(0, pp w)] fun TA => ?_
 refine W.seq ?_
 refine W.seq (W.region ?_)
 iterate 3 refine RW.v ?_
 refine RW.ld H 0 1 ?_
 refine RW.len (by kernel_rfl) (by kernel_rfl) rfl rfl rfl rfl (hmv.slf.len (e := 48) (by kernel_rfl)) (by kernel_rfl) ?_
 refine RW.v ?_
 refine RW.nil ?_
 refine W.rg [(0, pp w), (8, .bool ((M.length : Int) == 0))] fun TA => ?_
 refine W.cond rfl (fun hc1 => ?_) (fun hc1 => ?_)
 ·have hc1b := hc1
  have hc1 := eq_of_beq hc1
  refine W.seq (W.region ?_)
  refine RW.v ?_
  refine RW.nil ?_
  refine W.ret ?_
  refine seqQ_ret ?_
  refine endG (by rfl) (by exact resL_tmp rfl) ?_
  have K := ((H.front 1 rfl).front 1 rfl)
  have em : drop ⟨on, E, M, ct⟩ = (13, ⟨on, E, M, ct⟩) := by clear H K; exact (by (unfold drop; (repeat' split) <;> first | rfl | (exfalso; omega) | (exfalso; simp_all; done) | (exfalso; simp_all; omega) | (simp_all; done) | (simp_all; omega)))
  rw [em]
  exact ⟨rfl, F, _, _, _, le0, ⟨vs, hmv, hall⟩, hn, K⟩
 ·have hc1b := hc1
  have hc1 := ne_of_beq_false hc1
  refine W.skip ?_
  refine W.seq (W.region ?_)
  refine RW.v ?_
  refine RW.mkL H (x := .row ⟨[], 48, false⟩) (fm := fun b => .slice (some ⟨b, 0, none⟩) 0 0) (by kernel_rfl) (by kernel_rfl) (by kernel_rfl) (by kernel_rfl) ?_
  clear H; intro _ b2 _ H
  iterate 3 refine RW.v ?_
  refine RW.ld H 1 1 ?_
  obtain ⟨sv3, hv4, hk5⟩ := slk_rest (P := Tryz.prog) (t := 54) (e := 48) (i := 1) hmv (by kernel_rfl) (by kernel_rfl) (by omega)
  rw [show ((1 : Nat) : Int) = 1 from by omega] at hv4
  rw [Nat.mul_one] at hk5
  refine RW.vop (v := sv3) (by kernel_rfl) (by kernel_rfl) (vop_slice rfl hv4) (by kernel_rfl) ?_
  rcases Nat.eq_zero_or_pos (M.length - 1) with h06 | h06
  ·rw [h06] at hk5
   refine RW.appN H (e := 48) (e2 := 48) hk5.slf (by kernel_rfl) (by kernel_rfl) rfl rfl rfl rfl rfl rfl (Nat.le_refl _) (by kernel_rfl) (by kernel_rfl) (by kernel_rfl) (by decide) (by kernel_rfl) ?_
   iterate 2 refine RW.v ?_
   refine RW.st H 1 [.slice (some ⟨b2, 0, none⟩) 0 0] [.slice (some ⟨b2, 0, none⟩) 0 0, .bool on, nv, .int .i64 ct] ?_
   clear H; intro _ _ H; dsimp only [setL, delL] at H
   refine RW.nil ?_
   refine W.rg [] fun TA => ?_
   refine W.seq (W.region ?_)
   refine RW.v ?_
   refine RW.nil ?_
   refine W.ret ?_
   refine endG (by rfl) (by exact resL_tmp rfl) ?_
   obtain ⟨F, le, hf1, H⟩ := H.freeze 0 rfl
   dsimp only [setL, delL] at H
   replace le0 := fun b y h => le b y (le0 b y h)
   replace hmv := hmv.le le
   replace hall := hall.le le
   replace hn := hn.le le
   replace hk5 := hk5.le le
   have K := ((H.front 1 rfl).front 1 rfl)
   have em : drop ⟨on, E, M, ct⟩ = (0, ⟨on, E, M.drop 1, ct⟩) := by clear H K; exact (by (unfold drop; (repeat' split) <;> first | rfl | (exfalso; omega) | (exfalso; simp_all; done) | (exfalso; simp_all; omega) | (simp_all; done) | (simp_all; omega)))
   rw [em]
   exact ⟨rfl, F, _, _, _, le0, (mac_none (.some hf1 rfl rfl (Nat.le_refl _) (.inl rfl)) (by omega)), hn, K⟩
  ·refine RW.appS H (e := 48) (e2 := 48) hk5.slf (by kernel_rfl) (by kernel_rfl) rfl rfl rfl rfl rfl rfl (H.get 0 rfl) rfl h06 (by kernel_rfl) (by kernel_rfl) (by kernel_rfl) (by decide) (by omega) (by kernel_rfl) ?_
   clear H; intro _ rc H
   obtain ⟨F, le, hrc, H⟩ := H.freezeK 0 rfl
   dsimp only [setL, delL] at H
   replace le0 := fun b y h => le b y (le0 b y h)
   replace hmv := hmv.le le
   replace hall := hall.le le
   replace hn := hn.le le
   replace hk5 := hk5.le le
   iterate 2 refine RW.v ?_
   refine RW.stL H 1 (vs := [rc]) (cs' := [rc, .bool on, nv, .int .i64 ct]) (by kernel_rfl) (by kernel_rfl) rfl rfl rfl (slf_one hrc.slf) (slf_all hrc.slf) (by kernel_rfl) (Nat.le_of_ble_eq_true rfl) rfl (by kernel_rfl) ?_
   clear H; intro _ _ H; dsimp only [setL, delL] at H
   refine RW.nil ?_
   replace H := (H.del 0)
   dsimp only [setL, delL] at H
   refine W.rg [] fun TA => ?_
   refine W.seq (W.region ?_)
   refine RW.v ?_
   refine RW.nil ?_
   refine W.ret ?_
   refine endG (by rfl) (by exact resL_tmp rfl) ?_
   have K := ((H.front 1 rfl).front 1 rfl)
   have em : drop ⟨on, E, M, ct⟩ = (0, ⟨on, E, M.drop 1, ct⟩) := by clear H K; exact (by (unfold drop; (repeat' split) <;> first | rfl | (exfalso; omega) | (exfalso; simp_all; done) | (exfalso; simp_all; omega) | (simp_all; done) | (simp_all; omega)))
   rw [em]
   exact ⟨rfl, F, _, _, _, le0, ⟨vs.drop 1, by rw [List.length_drop, ← Nat.zero_add (M.length - 1)]; exact hrc, hall.drop 1⟩, hn, K⟩
set_option maxHeartbeats 4000000 in
theorem r_count {x : Bool} {n d : Int} (hn1 : -9223372036854775808 ≤ n) (hn2 : n ≤ 9223372036854775807) (hc1 : -2305843009213693952 ≤ ct) (hc2 : ct ≤ 2305843009213693951)  (hm : MacF F mv M) (hn : NowK F nv v) (H : Lies G65 A F σ (RE w mv nv v ⟨on, E, M, ct⟩ ++ L)) : WC G65 Tryz.prog 59 #[.pointer (some ⟨w, 0, none⟩), .bool x, .int .i64 n] σ fun r σ' => r = .int .i64 (count ⟨on, E, M, ct⟩ x n).1 ∧ ∃ F' mv' nv' v', Le F F' ∧ MacF F' mv' (count ⟨on, E, M, ct⟩ x n).2.M ∧ NowK F' nv' v' ∧ Lies G65 A F' σ' (RE w mv' nv' v' (count ⟨on, E, M, ct⟩ x n).2 ++ L) := by
 obtain ⟨vs, hmv, hall⟩ := hm
 have le0 : Le F F := fun _ _ h => h
 replace H : Lies G65 A F σ (.at_ w (.row ⟨[mv, .bool on, nv, .int .i64 ct], 94, false⟩) :: .sl 3 1 v E.length (E.map (Value.int .i64)) :: (L)) := H
 refine WC.enter (fn := Tryz.f59) Tryz.func59 rfl ?_
 refine W.rg [(0, pp w), (1, .bool x), (2, .int .i64 n)] fun TA => ?_
 refine W.seq (W.region ?_)
 refine RW.v ?_
 refine RW.nil ?_
 refine W.rg [(0, pp w), (1, .bool x), (2, .int .i64 n)] fun TA => ?_
 refine W.seq (W.region ?_)
 iterate 3 refine RW.v ?_
 refine RW.ld H 0 1 ?_
 refine RW.v ?_
 refine RW.nil ?_
 refine W.rg [(0, pp w), (1, .bool x), (2, .int .i64 n), (7, .int .i64 ct)] fun TA => ?_
 refine W.seq ?_
 refine W.seq (W.region ?_)
 refine RW.v ?_
 refine RW.nil ?_
 refine W.rg [(0, pp w), (2, .int .i64 n), (7, .int .i64 ct), (12, .bool x)] fun TA => ?_
 refine W.cond rfl (fun hc1 => ?_) (fun hc1 => ?_)
 ·have hc1b := hc1
  refine W.region ?_
  refine RW.v ?_
  refine RW.nil ?_
  refine W.rg [(0, pp w), (2, .int .i64 n), (7, .int .i64 0)] fun TA => ?_
  refine W.seq ?_
  refine W.seq (W.region ?_)
  iterate 3 refine RW.v ?_
  refine RW.both _ _ rfl rfl rfl (fun hc2 => ?_) (fun hc2 => ?_)
  ·have hc2b := hc2
   have hc2 := of_decide_eq_true hc2
   refine RW.val (by rfl) (by kernel_rfl) rfl (by kernel_rfl) ?_
   refine RW.val (by rfl) (by kernel_rfl) rfl (by kernel_rfl) ?_
   refine RW.valE (v' := .int .i64 (2305843009213693951 - n)) (by rfl) (by kernel_rfl) rfl (congrArg (Value.int .i64) (wrap_in (by omega) (by omega))) (by kernel_rfl) ?_
   refine RW.val (by rfl) (by kernel_rfl) rfl (by kernel_rfl) ?_
   iterate 2 refine RW.v ?_
   refine RW.both _ _ rfl rfl rfl (fun hc3 => ?_) (fun hc3 => ?_)
   ·have hc3b := hc3
    have hc3 := of_decide_eq_true hc3
    refine RW.skip (by rfl) (by kernel_rfl) ?_
    refine RW.skip (by rfl) (by kernel_rfl) ?_
    refine RW.skip (by rfl) (by kernel_rfl) ?_
    refine RW.skip (by rfl) (by kernel_rfl) ?_
    refine RW.skip (by rfl) (by kernel_rfl) ?_
    refine RW.skip (by rfl) (by kernel_rfl) ?_
    refine RW.skip (by rfl) (by kernel_rfl) ?_
    refine RW.skip (by rfl) (by kernel_rfl) ?_
    refine RW.v ?_
    refine RW.nil ?_
    refine W.c1 ?_
    refine W.seq (W.region ?_)
    refine RW.v ?_
    refine RW.nil ?_
    refine W.ret ?_
    refine seqQ_ret ?_
    refine endG (by rfl) (by exact resL_tmp rfl) ?_
    have K := ((H.front 1 rfl).front 1 rfl)
    have em : count ⟨on, E, M, ct⟩ x n = (3, ⟨on, E, M, ct⟩) := by clear H K; exact (by (unfold count; (repeat' split) <;> first | rfl | (exfalso; omega) | (exfalso; simp_all; done) | (exfalso; simp_all; omega) | (simp_all; done) | (simp_all; omega)))
    rw [em]
    exact ⟨rfl, F, _, _, _, le0, ⟨vs, hmv, hall⟩, hn, K⟩
   ·have hc3b := hc3
    have hc3 := of_decide_eq_false hc3
    refine RW.val (by rfl) (by kernel_rfl) rfl (by kernel_rfl) ?_
    refine RW.val (by rfl) (by kernel_rfl) rfl (by kernel_rfl) ?_
    refine RW.val (by rfl) (by kernel_rfl) rfl (by kernel_rfl) ?_
    refine RW.both _ _ rfl rfl rfl (fun hc4 => ?_) (fun hc4 => ?_)
    ·have hc4b := hc4
     have hc4 := of_decide_eq_true hc4
     refine RW.val (by rfl) (by kernel_rfl) rfl (by kernel_rfl) ?_
     refine RW.val (by rfl) (by kernel_rfl) rfl (by kernel_rfl) ?_
     refine RW.valE (v' := .int .i64 ((-2305843009213693952) - n)) (by rfl) (by kernel_rfl) rfl (congrArg (Value.int .i64) (wrap_in (by omega) (by omega))) (by kernel_rfl) ?_
     refine RW.val (by rfl) (by kernel_rfl) rfl (by kernel_rfl) ?_
     refine RW.val (by rfl) (by kernel_rfl) rfl (by kernel_rfl) ?_
     refine RW.v ?_
     refine RW.nil ?_
     refine W.rg [(0, pp w), (2, .int .i64 n), (7, .int .i64 0), (30, .bool (decide (0 < ((-2305843009213693952) - n))))] fun TA => ?_
     refine W.cond rfl (fun hc5 => ?_) (fun hc5 => ?_)
     ·have hc5b := hc5
      have hc5 := of_decide_eq_true hc5
      refine W.seq (W.region ?_)
      refine RW.v ?_
      refine RW.nil ?_
      refine W.ret ?_
      refine seqQ_ret ?_
      refine endG (by rfl) (by exact resL_tmp rfl) ?_
      have K := ((H.front 1 rfl).front 1 rfl)
      have em : count ⟨on, E, M, ct⟩ x n = (3, ⟨on, E, M, ct⟩) := by clear H K; exact (by (unfold count; (repeat' split) <;> first | rfl | (exfalso; omega) | (exfalso; simp_all; done) | (exfalso; simp_all; omega) | (simp_all; done) | (simp_all; omega)))
      rw [em]
      exact ⟨rfl, F, _, _, _, le0, ⟨vs, hmv, hall⟩, hn, K⟩
     ·have hc5b := hc5
      have hc5 := of_decide_eq_false hc5
      refine W.skip ?_
      refine W.seq (W.region ?_)
      iterate 3 refine RW.v ?_
      refine RW.valE (v' := .int .i64 (0 + n)) (by kernel_rfl) (by kernel_rfl) rfl (congrArg (Value.int .i64) (wrap_in (by omega) (by omega))) (by kernel_rfl) ?_
      iterate 2 refine RW.v ?_
      refine RW.st H 0 [.int .i64 (0 + n)] [mv, .bool on, nv, .int .i64 (0 + n)] ?_
      clear H; intro _ _ H; dsimp only [setL, delL] at H
      refine RW.nil ?_
      refine W.rg [] fun TA => ?_
      refine W.seq (W.region ?_)
      refine RW.v ?_
      refine RW.nil ?_
      refine W.ret ?_
      refine endG (by rfl) (by exact resL_tmp rfl) ?_
      have K := ((H.front 1 rfl).front 1 rfl)
      have em : count ⟨on, E, M, ct⟩ x n = (0, ⟨on, E, M, 0 + n⟩) := by clear H K; exact (by (unfold count; (repeat' split) <;> first | rfl | (exfalso; omega) | (exfalso; simp_all; done) | (exfalso; simp_all; omega) | (simp_all; done) | (simp_all; omega)))
      rw [em]
      exact ⟨rfl, F, _, _, _, le0, ⟨vs, hmv, hall⟩, hn, K⟩
    ·have hc4b := hc4
     have hc4 := of_decide_eq_false hc4
     refine RW.skip (by rfl) (by kernel_rfl) ?_
     refine RW.skip (by rfl) (by kernel_rfl) ?_
     refine RW.skip (by rfl) (by kernel_rfl) ?_
     refine RW.skip (by rfl) (by kernel_rfl) ?_
     refine RW.val (by rfl) (by kernel_rfl) rfl (by kernel_rfl) ?_
     refine RW.v ?_
     refine RW.nil ?_
     refine W.c0 ?_
     refine W.skip ?_
     refine W.seq (W.region ?_)
     iterate 3 refine RW.v ?_
     refine RW.valE (v' := .int .i64 (0 + n)) (by kernel_rfl) (by kernel_rfl) rfl (congrArg (Value.int .i64) (wrap_in (by omega) (by omega))) (by kernel_rfl) ?_
     iterate 2 refine RW.v ?_
     refine RW.st H 0 [.int .i64 (0 + n)] [mv, .bool on, nv, .int .i64 (0 + n)] ?_
     clear H; intro _ _ H; dsimp only [setL, delL] at H
     refine RW.nil ?_
     refine W.rg [] fun TA => ?_
     refine W.seq (W.region ?_)
     refine RW.v ?_
     refine RW.nil ?_
     refine W.ret ?_
     refine endG (by rfl) (by exact resL_tmp rfl) ?_
     have K := ((H.front 1 rfl).front 1 rfl)
     have em : count ⟨on, E, M, ct⟩ x n = (0, ⟨on, E, M, 0 + n⟩) := by clear H K; exact (by (unfold count; (repeat' split) <;> first | rfl | (exfalso; omega) | (exfalso; simp_all; done) | (exfalso; simp_all; omega) | (simp_all; done) | (simp_all; omega)))
     rw [em]
     exact ⟨rfl, F, _, _, _, le0, ⟨vs, hmv, hall⟩, hn, K⟩
  ·have hc2b := hc2
   have hc2 := of_decide_eq_false hc2
   refine RW.skip (by rfl) (by kernel_rfl) ?_
   refine RW.skip (by rfl) (by kernel_rfl) ?_
   refine RW.skip (by rfl) (by kernel_rfl) ?_
   refine RW.skip (by rfl) (by kernel_rfl) ?_
   iterate 2 refine RW.v ?_
   refine RW.val (by rfl) (by kernel_rfl) rfl (by kernel_rfl) ?_
   refine RW.val (by rfl) (by kernel_rfl) rfl (by kernel_rfl) ?_
   refine RW.val (by rfl) (by kernel_rfl) rfl (by kernel_rfl) ?_
   refine RW.both _ _ rfl rfl rfl (fun hc6 => ?_) (fun hc6 => ?_)
   ·have hc6b := hc6
    have hc6 := of_decide_eq_true hc6
    refine RW.val (by rfl) (by kernel_rfl) rfl (by kernel_rfl) ?_
    refine RW.val (by rfl) (by kernel_rfl) rfl (by kernel_rfl) ?_
    refine RW.valE (v' := .int .i64 ((-2305843009213693952) - n)) (by rfl) (by kernel_rfl) rfl (congrArg (Value.int .i64) (wrap_in (by omega) (by omega))) (by kernel_rfl) ?_
    refine RW.val (by rfl) (by kernel_rfl) rfl (by kernel_rfl) ?_
    refine RW.val (by rfl) (by kernel_rfl) rfl (by kernel_rfl) ?_
    refine RW.v ?_
    refine RW.nil ?_
    refine W.rg [(0, pp w), (2, .int .i64 n), (7, .int .i64 0), (30, .bool (decide (0 < ((-2305843009213693952) - n))))] fun TA => ?_
    refine W.cond rfl (fun hc7 => ?_) (fun hc7 => ?_)
    ·have hc7b := hc7
     have hc7 := of_decide_eq_true hc7
     refine W.seq (W.region ?_)
     refine RW.v ?_
     refine RW.nil ?_
     refine W.ret ?_
     refine seqQ_ret ?_
     refine endG (by rfl) (by exact resL_tmp rfl) ?_
     have K := ((H.front 1 rfl).front 1 rfl)
     have em : count ⟨on, E, M, ct⟩ x n = (3, ⟨on, E, M, ct⟩) := by clear H K; exact (by (unfold count; (repeat' split) <;> first | rfl | (exfalso; omega) | (exfalso; simp_all; done) | (exfalso; simp_all; omega) | (simp_all; done) | (simp_all; omega)))
     rw [em]
     exact ⟨rfl, F, _, _, _, le0, ⟨vs, hmv, hall⟩, hn, K⟩
    ·have hc7b := hc7
     have hc7 := of_decide_eq_false hc7
     refine W.skip ?_
     refine W.seq (W.region ?_)
     iterate 3 refine RW.v ?_
     refine RW.valE (v' := .int .i64 (0 + n)) (by kernel_rfl) (by kernel_rfl) rfl (congrArg (Value.int .i64) (wrap_in (by omega) (by omega))) (by kernel_rfl) ?_
     iterate 2 refine RW.v ?_
     refine RW.st H 0 [.int .i64 (0 + n)] [mv, .bool on, nv, .int .i64 (0 + n)] ?_
     clear H; intro _ _ H; dsimp only [setL, delL] at H
     refine RW.nil ?_
     refine W.rg [] fun TA => ?_
     refine W.seq (W.region ?_)
     refine RW.v ?_
     refine RW.nil ?_
     refine W.ret ?_
     refine endG (by rfl) (by exact resL_tmp rfl) ?_
     have K := ((H.front 1 rfl).front 1 rfl)
     have em : count ⟨on, E, M, ct⟩ x n = (0, ⟨on, E, M, 0 + n⟩) := by clear H K; exact (by (unfold count; (repeat' split) <;> first | rfl | (exfalso; omega) | (exfalso; simp_all; done) | (exfalso; simp_all; omega) | (simp_all; done) | (simp_all; omega)))
     rw [em]
     exact ⟨rfl, F, _, _, _, le0, ⟨vs, hmv, hall⟩, hn, K⟩
   ·have hc6b := hc6
    have hc6 := of_decide_eq_false hc6
    refine RW.skip (by rfl) (by kernel_rfl) ?_
    refine RW.skip (by rfl) (by kernel_rfl) ?_
    refine RW.skip (by rfl) (by kernel_rfl) ?_
    refine RW.skip (by rfl) (by kernel_rfl) ?_
    refine RW.val (by rfl) (by kernel_rfl) rfl (by kernel_rfl) ?_
    refine RW.v ?_
    refine RW.nil ?_
    refine W.c0 ?_
    refine W.skip ?_
    refine W.seq (W.region ?_)
    iterate 3 refine RW.v ?_
    refine RW.valE (v' := .int .i64 (0 + n)) (by kernel_rfl) (by kernel_rfl) rfl (congrArg (Value.int .i64) (wrap_in (by omega) (by omega))) (by kernel_rfl) ?_
    iterate 2 refine RW.v ?_
    refine RW.st H 0 [.int .i64 (0 + n)] [mv, .bool on, nv, .int .i64 (0 + n)] ?_
    clear H; intro _ _ H; dsimp only [setL, delL] at H
    refine RW.nil ?_
    refine W.rg [] fun TA => ?_
    refine W.seq (W.region ?_)
    refine RW.v ?_
    refine RW.nil ?_
    refine W.ret ?_
    refine endG (by rfl) (by exact resL_tmp rfl) ?_
    have K := ((H.front 1 rfl).front 1 rfl)
    have em : count ⟨on, E, M, ct⟩ x n = (0, ⟨on, E, M, 0 + n⟩) := by clear H K; exact (by (unfold count; (repeat' split) <;> first | rfl | (exfalso; omega) | (exfalso; simp_all; done) | (exfalso; simp_all; omega) | (simp_all; done) | (simp_all; omega)))
    rw [em]
    exact ⟨rfl, F, _, _, _, le0, ⟨vs, hmv, hall⟩, hn, K⟩
 ·have hc1b := hc1
  refine W.skip ?_
  refine W.seq ?_
  refine W.seq (W.region ?_)
  iterate 3 refine RW.v ?_
  refine RW.both _ _ rfl rfl rfl (fun hc8 => ?_) (fun hc8 => ?_)
  ·have hc8b := hc8
   have hc8 := of_decide_eq_true hc8
   refine RW.val (by rfl) (by kernel_rfl) rfl (by kernel_rfl) ?_
   refine RW.val (by rfl) (by kernel_rfl) rfl (by kernel_rfl) ?_
   refine RW.valE (v' := .int .i64 (2305843009213693951 - n)) (by rfl) (by kernel_rfl) rfl (congrArg (Value.int .i64) (wrap_in (by omega) (by omega))) (by kernel_rfl) ?_
   refine RW.val (by rfl) (by kernel_rfl) rfl (by kernel_rfl) ?_
   iterate 2 refine RW.v ?_
   refine RW.both _ _ rfl rfl rfl (fun hc9 => ?_) (fun hc9 => ?_)
   ·have hc9b := hc9
    have hc9 := of_decide_eq_true hc9
    refine RW.skip (by rfl) (by kernel_rfl) ?_
    refine RW.skip (by rfl) (by kernel_rfl) ?_
    refine RW.skip (by rfl) (by kernel_rfl) ?_
    refine RW.skip (by rfl) (by kernel_rfl) ?_
    refine RW.skip (by rfl) (by kernel_rfl) ?_
    refine RW.skip (by rfl) (by kernel_rfl) ?_
    refine RW.skip (by rfl) (by kernel_rfl) ?_
    refine RW.skip (by rfl) (by kernel_rfl) ?_
    refine RW.v ?_
    refine RW.nil ?_
    refine W.c1 ?_
    refine W.seq (W.region ?_)
    refine RW.v ?_
    refine RW.nil ?_
    refine W.ret ?_
    refine seqQ_ret ?_
    refine endG (by rfl) (by exact resL_tmp rfl) ?_
    have K := ((H.front 1 rfl).front 1 rfl)
    have em : count ⟨on, E, M, ct⟩ x n = (3, ⟨on, E, M, ct⟩) := by clear H K; exact (by (unfold count; (repeat' split) <;> first | rfl | (exfalso; omega) | (exfalso; simp_all; done) | (exfalso; simp_all; omega) | (simp_all; done) | (simp_all; omega)))
    rw [em]
    exact ⟨rfl, F, _, _, _, le0, ⟨vs, hmv, hall⟩, hn, K⟩
   ·have hc9b := hc9
    have hc9 := of_decide_eq_false hc9
    refine RW.val (by rfl) (by kernel_rfl) rfl (by kernel_rfl) ?_
    refine RW.val (by rfl) (by kernel_rfl) rfl (by kernel_rfl) ?_
    refine RW.val (by rfl) (by kernel_rfl) rfl (by kernel_rfl) ?_
    refine RW.both _ _ rfl rfl rfl (fun hc10 => ?_) (fun hc10 => ?_)
    ·have hc10b := hc10
     have hc10 := of_decide_eq_true hc10
     refine RW.val (by rfl) (by kernel_rfl) rfl (by kernel_rfl) ?_
     refine RW.val (by rfl) (by kernel_rfl) rfl (by kernel_rfl) ?_
     refine RW.valE (v' := .int .i64 ((-2305843009213693952) - n)) (by rfl) (by kernel_rfl) rfl (congrArg (Value.int .i64) (wrap_in (by omega) (by omega))) (by kernel_rfl) ?_
     refine RW.val (by rfl) (by kernel_rfl) rfl (by kernel_rfl) ?_
     refine RW.val (by rfl) (by kernel_rfl) rfl (by kernel_rfl) ?_
     refine RW.v ?_
     refine RW.nil ?_
     refine W.rg [(0, pp w), (2, .int .i64 n), (7, .int .i64 ct), (30, .bool (decide (ct < ((-2305843009213693952) - n))))] fun TA => ?_
     refine W.cond rfl (fun hc11 => ?_) (fun hc11 => ?_)
     ·have hc11b := hc11
      have hc11 := of_decide_eq_true hc11
      refine W.seq (W.region ?_)
      refine RW.v ?_
      refine RW.nil ?_
      refine W.ret ?_
      refine seqQ_ret ?_
      refine endG (by rfl) (by exact resL_tmp rfl) ?_
      have K := ((H.front 1 rfl).front 1 rfl)
      have em : count ⟨on, E, M, ct⟩ x n = (3, ⟨on, E, M, ct⟩) := by clear H K; exact (by (unfold count; (repeat' split) <;> first | rfl | (exfalso; omega) | (exfalso; simp_all; done) | (exfalso; simp_all; omega) | (simp_all; done) | (simp_all; omega)))
      rw [em]
      exact ⟨rfl, F, _, _, _, le0, ⟨vs, hmv, hall⟩, hn, K⟩
     ·have hc11b := hc11
      have hc11 := of_decide_eq_false hc11
      refine W.skip ?_
      refine W.seq (W.region ?_)
      iterate 3 refine RW.v ?_
      refine RW.valE (v' := .int .i64 (ct + n)) (by kernel_rfl) (by kernel_rfl) rfl (congrArg (Value.int .i64) (wrap_in (by omega) (by omega))) (by kernel_rfl) ?_
      iterate 2 refine RW.v ?_
      refine RW.st H 0 [.int .i64 (ct + n)] [mv, .bool on, nv, .int .i64 (ct + n)] ?_
      clear H; intro _ _ H; dsimp only [setL, delL] at H
      refine RW.nil ?_
      refine W.rg [] fun TA => ?_
      refine W.seq (W.region ?_)
      refine RW.v ?_
      refine RW.nil ?_
      refine W.ret ?_
      refine endG (by rfl) (by exact resL_tmp rfl) ?_
      have K := ((H.front 1 rfl).front 1 rfl)
      have em : count ⟨on, E, M, ct⟩ x n = (0, ⟨on, E, M, ct + n⟩) := by clear H K; exact (by (unfold count; (repeat' split) <;> first | rfl | (exfalso; omega) | (exfalso; simp_all; done) | (exfalso; simp_all; omega) | (simp_all; done) | (simp_all; omega)))
      rw [em]
      exact ⟨rfl, F, _, _, _, le0, ⟨vs, hmv, hall⟩, hn, K⟩
    ·have hc10b := hc10
     have hc10 := of_decide_eq_false hc10
     refine RW.skip (by rfl) (by kernel_rfl) ?_
     refine RW.skip (by rfl) (by kernel_rfl) ?_
     refine RW.skip (by rfl) (by kernel_rfl) ?_
     refine RW.skip (by rfl) (by kernel_rfl) ?_
     refine RW.val (by rfl) (by kernel_rfl) rfl (by kernel_rfl) ?_
     refine RW.v ?_
     refine RW.nil ?_
     refine W.c0 ?_
     refine W.skip ?_
     refine W.seq (W.region ?_)
     iterate 3 refine RW.v ?_
     refine RW.valE (v' := .int .i64 (ct + n)) (by kernel_rfl) (by kernel_rfl) rfl (congrArg (Value.int .i64) (wrap_in (by omega) (by omega))) (by kernel_rfl) ?_
     iterate 2 refine RW.v ?_
     refine RW.st H 0 [.int .i64 (ct + n)] [mv, .bool on, nv, .int .i64 (ct + n)] ?_
     clear H; intro _ _ H; dsimp only [setL, delL] at H
     refine RW.nil ?_
     refine W.rg [] fun TA => ?_
     refine W.seq (W.region ?_)
     refine RW.v ?_
     refine RW.nil ?_
     refine W.ret ?_
     refine endG (by rfl) (by exact resL_tmp rfl) ?_
     have K := ((H.front 1 rfl).front 1 rfl)
     have em : count ⟨on, E, M, ct⟩ x n = (0, ⟨on, E, M, ct + n⟩) := by clear H K; exact (by (unfold count; (repeat' split) <;> first | rfl | (exfalso; omega) | (exfalso; simp_all; done) | (exfalso; simp_all; omega) | (simp_all; done) | (simp_all; omega)))
     rw [em]
     exact ⟨rfl, F, _, _, _, le0, ⟨vs, hmv, hall⟩, hn, K⟩
  ·have hc8b := hc8
   have hc8 := of_decide_eq_false hc8
   refine RW.skip (by rfl) (by kernel_rfl) ?_
   refine RW.skip (by rfl) (by kernel_rfl) ?_
   refine RW.skip (by rfl) (by kernel_rfl) ?_
   refine RW.skip (by rfl) (by kernel_rfl) ?_
   iterate 2 refine RW.v ?_
   refine RW.val (by rfl) (by kernel_rfl) rfl (by kernel_rfl) ?_
   refine RW.val (by rfl) (by kernel_rfl) rfl (by kernel_rfl) ?_
   refine RW.val (by rfl) (by kernel_rfl) rfl (by kernel_rfl) ?_
   refine RW.both _ _ rfl rfl rfl (fun hc12 => ?_) (fun hc12 => ?_)
   ·have hc12b := hc12
    have hc12 := of_decide_eq_true hc12
    refine RW.val (by rfl) (by kernel_rfl) rfl (by kernel_rfl) ?_
    refine RW.val (by rfl) (by kernel_rfl) rfl (by kernel_rfl) ?_
    refine RW.valE (v' := .int .i64 ((-2305843009213693952) - n)) (by rfl) (by kernel_rfl) rfl (congrArg (Value.int .i64) (wrap_in (by omega) (by omega))) (by kernel_rfl) ?_
    refine RW.val (by rfl) (by kernel_rfl) rfl (by kernel_rfl) ?_
    refine RW.val (by rfl) (by kernel_rfl) rfl (by kernel_rfl) ?_
    refine RW.v ?_
    refine RW.nil ?_
    refine W.rg [(0, pp w), (2, .int .i64 n), (7, .int .i64 ct), (30, .bool (decide (ct < ((-2305843009213693952) - n))))] fun TA => ?_
    refine W.cond rfl (fun hc13 => ?_) (fun hc13 => ?_)
    ·have hc13b := hc13
     have hc13 := of_decide_eq_true hc13
     refine W.seq (W.region ?_)
     refine RW.v ?_
     refine RW.nil ?_
     refine W.ret ?_
     refine seqQ_ret ?_
     refine endG (by rfl) (by exact resL_tmp rfl) ?_
     have K := ((H.front 1 rfl).front 1 rfl)
     have em : count ⟨on, E, M, ct⟩ x n = (3, ⟨on, E, M, ct⟩) := by clear H K; exact (by (unfold count; (repeat' split) <;> first | rfl | (exfalso; omega) | (exfalso; simp_all; done) | (exfalso; simp_all; omega) | (simp_all; done) | (simp_all; omega)))
     rw [em]
     exact ⟨rfl, F, _, _, _, le0, ⟨vs, hmv, hall⟩, hn, K⟩
    ·have hc13b := hc13
     have hc13 := of_decide_eq_false hc13
     refine W.skip ?_
     refine W.seq (W.region ?_)
     iterate 3 refine RW.v ?_
     refine RW.valE (v' := .int .i64 (ct + n)) (by kernel_rfl) (by kernel_rfl) rfl (congrArg (Value.int .i64) (wrap_in (by omega) (by omega))) (by kernel_rfl) ?_
     iterate 2 refine RW.v ?_
     refine RW.st H 0 [.int .i64 (ct + n)] [mv, .bool on, nv, .int .i64 (ct + n)] ?_
     clear H; intro _ _ H; dsimp only [setL, delL] at H
     refine RW.nil ?_
     refine W.rg [] fun TA => ?_
     refine W.seq (W.region ?_)
     refine RW.v ?_
     refine RW.nil ?_
     refine W.ret ?_
     refine endG (by rfl) (by exact resL_tmp rfl) ?_
     have K := ((H.front 1 rfl).front 1 rfl)
     have em : count ⟨on, E, M, ct⟩ x n = (0, ⟨on, E, M, ct + n⟩) := by clear H K; exact (by (unfold count; (repeat' split) <;> first | rfl | (exfalso; omega) | (exfalso; simp_all; done) | (exfalso; simp_all; omega) | (simp_all; done) | (simp_all; omega)))
     rw [em]
     exact ⟨rfl, F, _, _, _, le0, ⟨vs, hmv, hall⟩, hn, K⟩
   ·have hc12b := hc12
    have hc12 := of_decide_eq_false hc12
    refine RW.skip (by rfl) (by kernel_rfl) ?_
    refine RW.skip (by rfl) (by kernel_rfl) ?_
    refine RW.skip (by rfl) (by kernel_rfl) ?_
    refine RW.skip (by rfl) (by kernel_rfl) ?_
    refine RW.val (by rfl) (by kernel_rfl) rfl (by kernel_rfl) ?_
    refine RW.v ?_
    refine RW.nil ?_
    refine W.c0 ?_
    refine W.skip ?_
    refine W.seq (W.region ?_)
    iterate 3 refine RW.v ?_
    refine RW.valE (v' := .int .i64 (ct + n)) (by kernel_rfl) (by kernel_rfl) rfl (congrArg (Value.int .i64) (wrap_in (by omega) (by omega))) (by kernel_rfl) ?_
    iterate 2 refine RW.v ?_
    refine RW.st H 0 [.int .i64 (ct + n)] [mv, .bool on, nv, .int .i64 (ct + n)] ?_
    clear H; intro _ _ H; dsimp only [setL, delL] at H
    refine RW.nil ?_
    refine W.rg [] fun TA => ?_
    refine W.seq (W.region ?_)
    refine RW.v ?_
    refine RW.nil ?_
    refine W.ret ?_
    refine endG (by rfl) (by exact resL_tmp rfl) ?_
    have K := ((H.front 1 rfl).front 1 rfl)
    have em : count ⟨on, E, M, ct⟩ x n = (0, ⟨on, E, M, ct + n⟩) := by clear H K; exact (by (unfold count; (repeat' split) <;> first | rfl | (exfalso; omega) | (exfalso; simp_all; done) | (exfalso; simp_all; omega) | (simp_all; done) | (simp_all; omega)))
    rw [em]
    exact ⟨rfl, F, _, _, _, le0, ⟨vs, hmv, hall⟩, hn, K⟩
end
end Go.Proofs.YthemeeiedlbhkaaGreatDoor
namespace Go.Proofs.YthemeeiedlbhkaaGreatDoor
set_option maxRecDepth 100000
section
variable {A : Abs} {σ : Mem} {F : Nat → Option Blk2} {L : List Ent} {w : Nat} {mv nv v : Value} {on : Bool} {E : List Int} {M : List (List Int)} {ct : Int}
set_option maxHeartbeats 4000000 in
theorem r_stop {x : Bool} {n d : Int} (hM : ∀ x ∈ M, 0 < x.length ∧ x.length ≤ 10000) (hl : M.length ≤ 20) (hE : E.length ≤ 10000) (hm : MacF F mv M) (hn : NowK F nv v) (H : Lies G65 A F σ (RE w mv nv v ⟨on, E, M, ct⟩ ++ L)) : WC G65 Tryz.prog 51 #[.pointer (some ⟨w, 0, none⟩), .int .i64 d] σ fun r σ' => r = .int .i64 (stop ⟨on, E, M, ct⟩ d).1 ∧ ∃ F' mv' nv' v', Le F F' ∧ MacF F' mv' (stop ⟨on, E, M, ct⟩ d).2.M ∧ NowK F' nv' v' ∧ Lies G65 A F' σ' (RE w mv' nv' v' (stop ⟨on, E, M, ct⟩ d).2 ++ L) := by
 obtain ⟨vs, hmv, hall⟩ := hm
 have le0 : Le F F := fun _ _ h => h
 replace H : Lies G65 A F σ (.at_ w (.row ⟨[mv, .bool on, nv, .int .i64 ct], 94, false⟩) :: .sl 3 1 v E.length (E.map (Value.int .i64)) :: (L)) := H
 have hnl := now_slf hn H (H.sl 1 rfl)
 refine WC.enter (fn := Tryz.f51) Tryz.func51 rfl ?_
 refine W.rg [(0, pp w), (1, .int .i64 d)] fun TA => ?_
 refine W.seq (W.region ?_)
 refine RW.v ?_
 refine RW.nil ?_
 refine W.rg [(0, pp w), (1, .int .i64 d)] fun TA => ?_
 refine W.seq ?_
 refine W.block ?_
 refine W.seq (W.region ?_)
 iterate 3 refine RW.v ?_
 refine RW.ld H 0 1 ?_
 iterate 2 refine RW.v ?_
 refine RW.nil ?_
 refine W.rg [(0, pp w), (1, .int .i64 d), (7, .bool (!on))] fun TA => ?_
 refine W.cond rfl (fun hc1 => ?_) (fun hc1 => ?_)
 ·have hc1b := hc1
  refine W.seq (W.region ?_)
  refine RW.v ?_
  refine RW.nil ?_
  refine W.ret ?_
  refine blkQ_ret ?_
  refine seqQ_ret ?_
  refine endG (by rfl) (by exact resL_tmp rfl) ?_
  have K := ((H.front 1 rfl).front 1 rfl)
  have em : stop ⟨on, E, M, ct⟩ d = (9, ⟨on, E, M, ct⟩) := by clear H K; exact (by (unfold stop; (repeat' split) <;> first | rfl | (exfalso; omega) | (exfalso; simp_all; done) | (exfalso; simp_all; omega) | (simp_all; done) | (simp_all; omega)))
  rw [em]
  exact ⟨rfl, F, _, _, _, le0, ⟨vs, hmv, hall⟩, hn, K⟩
 ·have hc1b := hc1
  refine W.seq (W.region ?_)
  iterate 3 refine RW.v ?_
  refine RW.both _ _ rfl rfl rfl (fun hc2 => ?_) (fun hc2 => ?_)
  ·have hc2b := hc2
   have hc2 := of_decide_eq_true hc2
   refine RW.skip (by rfl) (by kernel_rfl) ?_
   refine RW.skip (by rfl) (by kernel_rfl) ?_
   refine RW.skip (by rfl) (by kernel_rfl) ?_
   refine RW.skip (by rfl) (by kernel_rfl) ?_
   refine RW.skip (by rfl) (by kernel_rfl) ?_
   refine RW.skip (by rfl) (by kernel_rfl) ?_
   refine RW.skip (by rfl) (by kernel_rfl) ?_
   iterate 2 refine RW.v ?_
   refine RW.nil ?_
   refine W.c1 ?_
   refine W.seq (W.region ?_)
   refine RW.v ?_
   refine RW.nil ?_
   refine W.ret ?_
   refine blkQ_ret ?_
   refine seqQ_ret ?_
   refine endG (by rfl) (by exact resL_tmp rfl) ?_
   have K := ((H.front 1 rfl).front 1 rfl)
   have em : stop ⟨on, E, M, ct⟩ d = (3, ⟨on, E, M, ct⟩) := by clear H K; exact (by (unfold stop; (repeat' split) <;> first | rfl | (exfalso; omega) | (exfalso; simp_all; done) | (exfalso; simp_all; omega) | (simp_all; done) | (simp_all; omega)))
   rw [em]
   exact ⟨rfl, F, _, _, _, le0, ⟨vs, hmv, hall⟩, hn, K⟩
  ·have hc2b := hc2
   have hc2 := of_decide_eq_false hc2
   refine RW.val (by rfl) (by kernel_rfl) rfl (by kernel_rfl) ?_
   refine RW.val (by rfl) (by kernel_rfl) rfl (by kernel_rfl) ?_
   refine RW.val (by rfl) (by kernel_rfl) rfl (by kernel_rfl) ?_
   refine RW.val (by rfl) (by kernel_rfl) rfl (by kernel_rfl) ?_
   refine RW.ldL H 0 1 (by rfl) (by kernel_rfl) rfl rfl rfl rfl rfl (by kernel_rfl) ?_
   refine RW.len (by rfl) (by kernel_rfl) rfl rfl rfl rfl (hnl.len (e := 3) (by kernel_rfl)) (by kernel_rfl) ?_
   refine RW.val (by rfl) (by kernel_rfl) rfl (by kernel_rfl) ?_
   iterate 2 refine RW.v ?_
   refine RW.nil ?_
   refine W.rg [(0, pp w), (1, .int .i64 d), (13, .bool (decide (d > (E.length : Int))))] fun TA => ?_
   refine W.cond rfl (fun hc3 => ?_) (fun hc3 => ?_)
   ·have hc3b := hc3
    have hc3 := of_decide_eq_true hc3
    refine W.seq (W.region ?_)
    refine RW.v ?_
    refine RW.nil ?_
    refine W.ret ?_
    refine blkQ_ret ?_
    refine seqQ_ret ?_
    refine endG (by rfl) (by exact resL_tmp rfl) ?_
    have K := ((H.front 1 rfl).front 1 rfl)
    have em : stop ⟨on, E, M, ct⟩ d = (3, ⟨on, E, M, ct⟩) := by clear H K; exact (by (unfold stop; (repeat' split) <;> first | rfl | (exfalso; omega) | (exfalso; simp_all; done) | (exfalso; simp_all; omega) | (simp_all; done) | (simp_all; omega)))
    rw [em]
    exact ⟨rfl, F, _, _, _, le0, ⟨vs, hmv, hall⟩, hn, K⟩
   ·have hc3b := hc3
    have hc3 := of_decide_eq_false hc3
    have hd2 : d ≤ (E.length : Int) := by omega
    obtain ⟨F, le, hev, H⟩ := now_freeze hn H 1 rfl
    dsimp only [setL, delL] at H
    replace le0 := fun b y h => le b y (le0 b y h)
    replace hmv := hmv.le le
    replace hall := hall.le le
    refine W.skip ?_
    refine blkQ_normal ?_
    refine W.seq ?_
    refine W.drawn (by kernel_rfl) (by kernel_rfl) H.gn ?_
    have H4 := H
    iterate 3 refine RW.v ?_
    refine RW.ld H4 0 1 ?_
    iterate 3 refine RW.v ?_
    refine RW.ld H4 0 1 ?_
    refine RW.len (by kernel_rfl) (by kernel_rfl) rfl rfl rfl rfl (hev.slf.len (e := 3) (by kernel_rfl)) (by kernel_rfl) ?_
    refine RW.v ?_
    refine RW.valE (v' := .int .i64 ((E.length : Int) - d)) (by kernel_rfl) (by kernel_rfl) rfl (congrArg (Value.int .i64) (wrap_in (by omega) (by omega))) (by kernel_rfl) ?_
    obtain ⟨sv5, hv6, hk7⟩ := slk_cut (P := Tryz.prog) (t := 48) (e := 3) (i := ((E.length : Int) - d).toNat) hev (by kernel_rfl) (by kernel_rfl) (by omega)
    rw [show ((((E.length : Int) - d).toNat : Nat) : Int) = (E.length : Int) - d from by omega] at hv6
    rw [Nat.mul_one] at hk7
    refine RW.vop (v := sv5) (by kernel_rfl) (by kernel_rfl) (vop_slice rfl hv6) (by kernel_rfl) ?_
    rcases Nat.eq_zero_or_pos ((E.length : Int) - d).toNat with h08 | h08
    ·rw [h08] at hk7
     refine RW.cl ?_
     refine ((own_zero (n := 0) hk7.slf H4).mono ?_)
     rintro _ _ ⟨b9, rfl, H10⟩
     refine RW.v ?_
     refine RW.nil ?_
     refine ⟨⟨by kernel_rfl, ⟨trivial, trivial, trivial, dyn_row (H4.get 0 rfl) (H10.get 1 rfl) ⟨fun h => Bool.noConfusion h, fun h => Bool.noConfusion h, fun h => Bool.noConfusion h, fun h => Bool.noConfusion h, fun h => Bool.noConfusion h, fun h => Bool.noConfusion h, fun h => Bool.noConfusion h, fun h => Bool.noConfusion h, fun h => Bool.noConfusion h, fun h => Bool.noConfusion h, fun h => Bool.noConfusion h, fun h => Bool.noConfusion h, fun _ => H4.get 0 rfl, fun h => Bool.noConfusion h, trivial⟩, trivial, trivial, trivial, dyn_row (H4.get 0 rfl) (H10.get 1 rfl) ⟨fun h => Bool.noConfusion h, fun h => Bool.noConfusion h, fun h => Bool.noConfusion h, fun h => Bool.noConfusion h, fun h => Bool.noConfusion h, fun h => Bool.noConfusion h, fun h => Bool.noConfusion h, fun h => Bool.noConfusion h, fun h => Bool.noConfusion h, fun h => Bool.noConfusion h, fun h => Bool.noConfusion h, fun h => Bool.noConfusion h, fun _ => H4.get 0 rfl, fun h => Bool.noConfusion h, trivial⟩, trivial, trivial, trivial, trivial, trivial, trivial, trivial⟩⟩, ?_⟩
     replace H := H10
     clear H4 H10
     refine W.rg [(0, pp w), (5, .slice (some ⟨b9, 0, none⟩) 0 0)] fun TA => ?_
     refine W.seq (W.region ?_)
     iterate 3 refine RW.v ?_
     refine RW.st H 1 [.bool false] [mv, .bool false, nv, .int .i64 ct] ?_
     clear H; intro _ _ H; dsimp only [setL, delL] at H
     refine RW.nil ?_
     refine W.rg [(0, pp w), (5, .slice (some ⟨b9, 0, none⟩) 0 0)] fun TA => ?_
     refine W.seq (W.region ?_)
     iterate 3 refine RW.v ?_
     refine RW.st H 1 [.slice none 0 0] [mv, .bool false, .slice none 0 0, .int .i64 ct] ?_
     clear H; intro _ _ H; dsimp only [setL, delL] at H
     refine RW.nil ?_
     refine W.rg [(0, pp w), (5, .slice (some ⟨b9, 0, none⟩) 0 0)] fun TA => ?_
     refine W.seq ?_
     refine W.seq (W.region ?_)
     iterate 3 refine RW.v ?_
     refine RW.nil ?_
     refine W.c0 ?_
     refine W.skip ?_
     refine W.seq (W.region ?_)
     refine RW.v ?_
     refine RW.nil ?_
     replace H := (H.del 0)
     dsimp only [setL, delL] at H
     refine W.ret ?_
     refine endG (by rfl) (by exact resL_tmp rfl) ?_
     replace H := H.nilSl 3 1
     have K := (H.front 1 rfl)
     have em : stop ⟨on, E, M, ct⟩ d = (0, ⟨false, [], M, ct⟩) := by clear H K; exact (by (unfold stop; (repeat' split) <;> first | rfl | (exfalso; omega) | (exfalso; simp_all; done) | (exfalso; simp_all; omega) | (simp_all; done) | (simp_all; omega)))
     rw [em]
     exact ⟨rfl, F, _, _, _, le0, ⟨vs, hmv, hall⟩, .inl rfl, K⟩
    ·refine RW.cl ?_
     refine ((own_pos hk7.slf (by omega) (by omega) ((all_take (((E.length : Int) - d).toNat) (ints_one _))) H4).mono ?_)
     rintro v11 _ H12
     obtain ⟨F, le, hcv, H13⟩ := H12.freezeK 0 rfl
     dsimp only [setL, delL] at H13
     replace le0 := fun b y h => le b y (le0 b y h)
     replace hmv := hmv.le le
     replace hall := hall.le le
     replace hev := hev.le le
     replace hk7 := hk7.le le
     refine RW.v ?_
     refine RW.nil ?_
     refine ⟨⟨by kernel_rfl, ⟨trivial, trivial, trivial, dyn_row (H4.get 0 rfl) (H13.get 0 rfl) ⟨fun h => Bool.noConfusion h, fun h => Bool.noConfusion h, fun h => Bool.noConfusion h, fun h => Bool.noConfusion h, fun h => Bool.noConfusion h, fun h => Bool.noConfusion h, fun h => Bool.noConfusion h, fun h => Bool.noConfusion h, fun h => Bool.noConfusion h, fun h => Bool.noConfusion h, fun h => Bool.noConfusion h, fun h => Bool.noConfusion h, fun _ => H4.get 0 rfl, fun h => Bool.noConfusion h, trivial⟩, trivial, trivial, trivial, dyn_row (H4.get 0 rfl) (H13.get 0 rfl) ⟨fun h => Bool.noConfusion h, fun h => Bool.noConfusion h, fun h => Bool.noConfusion h, fun h => Bool.noConfusion h, fun h => Bool.noConfusion h, fun h => Bool.noConfusion h, fun h => Bool.noConfusion h, fun h => Bool.noConfusion h, fun h => Bool.noConfusion h, fun h => Bool.noConfusion h, fun h => Bool.noConfusion h, fun h => Bool.noConfusion h, fun _ => H4.get 0 rfl, fun h => Bool.noConfusion h, trivial⟩, trivial, trivial, trivial, trivial, trivial, trivial, trivial⟩⟩, ?_⟩
     replace H := H13
     clear H4 H13
     refine W.rg [(0, pp w), (5, v11)] fun TA => ?_
     refine W.seq (W.region ?_)
     iterate 3 refine RW.v ?_
     refine RW.st H 0 [.bool false] [mv, .bool false, nv, .int .i64 ct] ?_
     clear H; intro _ _ H; dsimp only [setL, delL] at H
     refine RW.nil ?_
     refine W.rg [(0, pp w), (5, v11)] fun TA => ?_
     refine W.seq (W.region ?_)
     iterate 3 refine RW.v ?_
     refine RW.st H 0 [.slice none 0 0] [mv, .bool false, .slice none 0 0, .int .i64 ct] ?_
     clear H; intro _ _ H; dsimp only [setL, delL] at H
     refine RW.nil ?_
     refine W.rg [(0, pp w), (5, v11)] fun TA => ?_
     refine W.seq ?_
     refine W.seq (W.region ?_)
     refine RW.v ?_
     refine RW.len (by kernel_rfl) (by kernel_rfl) rfl rfl rfl rfl (hcv.slf.len (e := 3) (by kernel_rfl)) (by kernel_rfl) ?_
     refine RW.valE (v' := .bool true) (by kernel_rfl) (by kernel_rfl) rfl (congrArg Value.bool (decide_eq_true (by omega))) (by kernel_rfl) ?_
     refine RW.nil ?_
     refine W.c1 ?_
     refine W.seq (W.region ?_)
     refine RW.v ?_
     refine RW.mkL H (x := .row ⟨[v11], 48, false⟩) (fm := fun b => .slice (some ⟨b, 0, none⟩) 1 1) (by kernel_rfl) (by kernel_rfl) (by rcases slf_forms hcv.slf with rfl | ⟨_, rfl⟩ | ⟨_, _, _, _, _, rfl⟩ <;> kernel_rfl) (by kernel_rfl) ?_
     clear H; intro _ b14 _ H
     iterate 3 refine RW.v ?_
     refine RW.ld H 1 1 ?_
     rcases Nat.eq_zero_or_pos M.length with h015 | h015
     ·have hm0 : SlF F 1 mv 0 vs := h015 ▸ hmv.slf
      refine RW.appN H (e := 48) (e2 := 48) hm0 (by kernel_rfl) (by kernel_rfl) rfl rfl rfl rfl rfl rfl (Nat.le_refl _) (by kernel_rfl) (by kernel_rfl) (by kernel_rfl) (by decide) (by kernel_rfl) ?_
      refine RW.v ?_
      refine RW.nil ?_
      refine W.rg [(0, pp w), (6, .slice (some ⟨b14, 0, none⟩) 1 1)] fun TA => ?_
      refine W.seq ?_
      refine W.seq (W.region ?_)
      iterate 3 refine RW.v ?_
      refine RW.nil ?_
      refine W.c0 ?_
      refine W.skip ?_
      refine W.region ?_
      iterate 4 refine RW.v ?_
      refine RW.st H 1 [.slice (some ⟨b14, 0, none⟩) 1 1] [.slice (some ⟨b14, 0, none⟩) 1 1, .bool false, .slice none 0 0, .int .i64 ct] ?_
      clear H; intro _ _ H; dsimp only [setL, delL] at H
      refine RW.nil ?_
      refine W.rg [] fun TA => ?_
      refine W.seq (W.region ?_)
      refine RW.v ?_
      refine RW.nil ?_
      refine W.ret ?_
      refine endG (by rfl) (by exact resL_tmp rfl) ?_
      obtain ⟨F, le, hf1, H⟩ := H.freeze 0 rfl
      dsimp only [setL, delL] at H
      replace le0 := fun b y h => le b y (le0 b y h)
      replace hmv := hmv.le le
      replace hall := hall.le le
      replace hev := hev.le le
      replace hk7 := hk7.le le
      replace hcv := hcv.le le
      have hcl := slk_ints (E := E) (i := ((E.length : Int) - d).toNat) hcv (by omega)
      replace H := H.nilSl 3 1
      have K := (H.front 1 rfl)
      have em : stop ⟨on, E, M, ct⟩ d = (0, ⟨false, [], (E.take ((E.length : Int) - d).toNat :: M).take (min (1 + M.length) 20), ct⟩) := by clear H K; exact (by (unfold stop; (repeat' split) <;> first | rfl | (exfalso; omega) | (exfalso; simp_all; done) | (exfalso; simp_all; omega) | (simp_all; done) | (simp_all; omega)))
      rw [em]
      exact ⟨rfl, F, _, _, _, le0, (mac_one (show SlK F 1 _ 1 [v11] from .some hf1 rfl rfl (Nat.le_refl _) (.inl rfl)) hcl (by omega)), .inl rfl, K⟩
     ·refine RW.appS H (e := 48) (e2 := 48) hmv.slf (by kernel_rfl) (by kernel_rfl) rfl rfl rfl rfl rfl rfl (H.get 0 rfl) rfl h015 (by kernel_rfl) (by kernel_rfl) (by kernel_rfl) (by decide) (by omega) (by kernel_rfl) ?_
      clear H; intro _ rc H
      obtain ⟨F, le, hrc, H⟩ := H.freezeK 0 rfl
      dsimp only [setL, delL] at H
      replace le0 := fun b y h => le b y (le0 b y h)
      replace hmv := hmv.le le
      replace hall := hall.le le
      replace hev := hev.le le
      replace hk7 := hk7.le le
      replace hcv := hcv.le le
      refine RW.v ?_
      refine RW.nil ?_
      replace H := (H.del 0)
      dsimp only [setL, delL] at H
      refine W.rg [(0, pp w), (6, rc)] fun TA => ?_
      refine W.seq ?_
      refine W.seq (W.region ?_)
      refine RW.v ?_
      refine RW.len (by kernel_rfl) (by kernel_rfl) rfl rfl rfl rfl (hrc.slf.len (e := 48) (by kernel_rfl)) (by kernel_rfl) ?_
      refine RW.v ?_
      refine RW.nil ?_
      refine W.rg [(0, pp w), (6, rc), (56, .bool (decide (((1 + M.length) : Int) > 20)))] fun TA => ?_
      refine W.cond rfl (fun hc16 => ?_) (fun hc16 => ?_)
      ·have hc16b := hc16
       have hc16 := of_decide_eq_true hc16
       refine W.region ?_
       refine RW.v ?_
       obtain ⟨sv17, hv18, hk19⟩ := slk_cut (P := Tryz.prog) (t := 54) (e := 48) (i := 20) hrc (by kernel_rfl) (by kernel_rfl) (by omega)
       rw [show ((20 : Nat) : Int) = 20 from by omega] at hv18
       rw [Nat.mul_one] at hk19
       refine RW.vop (v := sv17) (by kernel_rfl) (by kernel_rfl) (vop_slice rfl hv18) (by kernel_rfl) ?_
       refine RW.v ?_
       refine RW.nil ?_
       refine W.rg [(0, pp w), (6, sv17)] fun TA => ?_
       refine W.region ?_
       iterate 4 refine RW.v ?_
       refine RW.stL H 0 (vs := [sv17]) (cs' := [sv17, .bool false, .slice none 0 0, .int .i64 ct]) (by kernel_rfl) (by kernel_rfl) rfl rfl rfl (slf_one hk19.slf) (slf_all hk19.slf) (by kernel_rfl) (Nat.le_of_ble_eq_true rfl) rfl (by kernel_rfl) ?_
       clear H; intro _ _ H; dsimp only [setL, delL] at H
       refine RW.nil ?_
       refine W.rg [] fun TA => ?_
       refine W.seq (W.region ?_)
       refine RW.v ?_
       refine RW.nil ?_
       refine W.ret ?_
       refine endG (by rfl) (by exact resL_tmp rfl) ?_
       have hcl := slk_ints (E := E) (i := ((E.length : Int) - d).toNat) hcv (by omega)
       replace H := H.nilSl 3 1
       have K := (H.front 1 rfl)
       have em : stop ⟨on, E, M, ct⟩ d = (0, ⟨false, [], (E.take ((E.length : Int) - d).toNat :: M).take (min (1 + M.length) 20), ct⟩) := by clear H K; exact (by (unfold stop; (repeat' split) <;> first | rfl | (exfalso; omega) | (exfalso; simp_all; done) | (exfalso; simp_all; omega) | (simp_all; done) | (simp_all; omega)))
       rw [em]
       exact ⟨rfl, F, _, _, _, le0, (mac_take (ws := _ :: vs) (N := E.take ((E.length : Int) - d).toNat :: M) hk19 ⟨hcl, hall⟩ (by omega) (by rw [List.length_cons]; omega)), .inl rfl, K⟩
      ·have hc16b := hc16
       have hc16 := of_decide_eq_false hc16
       refine W.skip ?_
       refine W.region ?_
       iterate 4 refine RW.v ?_
       refine RW.stL H 0 (vs := [rc]) (cs' := [rc, .bool false, .slice none 0 0, .int .i64 ct]) (by kernel_rfl) (by kernel_rfl) rfl rfl rfl (slf_one hrc.slf) (slf_all hrc.slf) (by kernel_rfl) (Nat.le_of_ble_eq_true rfl) rfl (by kernel_rfl) ?_
       clear H; intro _ _ H; dsimp only [setL, delL] at H
       refine RW.nil ?_
       refine W.rg [] fun TA => ?_
       refine W.seq (W.region ?_)
       refine RW.v ?_
       refine RW.nil ?_
       refine W.ret ?_
       refine endG (by rfl) (by exact resL_tmp rfl) ?_
       have hcl := slk_ints (E := E) (i := ((E.length : Int) - d).toNat) hcv (by omega)
       replace H := H.nilSl 3 1
       have K := (H.front 1 rfl)
       have em : stop ⟨on, E, M, ct⟩ d = (0, ⟨false, [], (E.take ((E.length : Int) - d).toNat :: M).take (min (1 + M.length) 20), ct⟩) := by clear H K; exact (by (unfold stop; (repeat' split) <;> first | rfl | (exfalso; omega) | (exfalso; simp_all; done) | (exfalso; simp_all; omega) | (simp_all; done) | (simp_all; omega)))
       rw [em]
       exact ⟨rfl, F, _, _, _, le0, (mac_whole (ws := _ :: vs) (N := E.take ((E.length : Int) - d).toNat :: M) hrc ⟨hcl, hall⟩ (by rw [List.length_cons]; omega) (by rw [List.length_cons]; omega)), .inl rfl, K⟩
set_option maxHeartbeats 4000000 in
theorem r_rotate {x : Bool} {n d : Int} (hM : ∀ x ∈ M, 0 < x.length ∧ x.length ≤ 10000) (hl : M.length ≤ 20) (hE : E.length ≤ 10000) (hm : MacF F mv M) (hn : NowK F nv v) (H : Lies G65 A F σ (RE w mv nv v ⟨on, E, M, ct⟩ ++ L)) : WC G65 Tryz.prog 55 #[.pointer (some ⟨w, 0, none⟩), .int .i64 n] σ fun r σ' => r = .int .i64 (rotate ⟨on, E, M, ct⟩ n).1 ∧ ∃ F' mv' nv' v', Le F F' ∧ MacF F' mv' (rotate ⟨on, E, M, ct⟩ n).2.M ∧ NowK F' nv' v' ∧ Lies G65 A F' σ' (RE w mv' nv' v' (rotate ⟨on, E, M, ct⟩ n).2 ++ L) := by
 obtain ⟨vs, hmv, hall⟩ := hm
 have le0 : Le F F := fun _ _ h => h
 replace H : Lies G65 A F σ (.at_ w (.row ⟨[mv, .bool on, nv, .int .i64 ct], 94, false⟩) :: .sl 3 1 v E.length (E.map (Value.int .i64)) :: (L)) := H
 refine WC.enter (fn := Tryz.f55) Tryz.func55 rfl ?_
 refine W.rg [(0, pp w), (1, .int .i64 n)] fun TA => ?_
 refine W.seq (W.region ?_)
 refine RW.v ?_
 refine RW.nil ?_
 refine W.rg [(0, pp w), (1, .int .i64 n)] fun TA => ?_
 refine W.seq ?_
 refine W.seq (W.region ?_)
 iterate 3 refine RW.v ?_
 refine RW.ld H 0 1 ?_
 refine RW.len (by kernel_rfl) (by kernel_rfl) rfl rfl rfl rfl (hmv.slf.len (e := 48) (by kernel_rfl)) (by kernel_rfl) ?_
 refine RW.v ?_
 refine RW.nil ?_
 refine W.rg [(0, pp w), (1, .int .i64 n), (10, .bool ((M.length : Int) == 0))] fun TA => ?_
 refine W.cond rfl (fun hc1 => ?_) (fun hc1 => ?_)
 ·have hc1b := hc1
  have hc1 := eq_of_beq hc1
  refine W.seq (W.region ?_)
  refine RW.v ?_
  refine RW.nil ?_
  refine W.ret ?_
  refine seqQ_ret ?_
  refine endG (by rfl) (by exact resL_tmp rfl) ?_
  have K := ((H.front 1 rfl).front 1 rfl)
  have em : rotate ⟨on, E, M, ct⟩ n = (13, ⟨on, E, M, ct⟩) := by clear H K; exact (by (unfold rotate; (repeat' split) <;> first | rfl | (exfalso; omega) | (exfalso; simp_all; done) | (exfalso; simp_all; omega) | (simp_all; done) | (simp_all; omega)))
  rw [em]
  exact ⟨rfl, F, _, _, _, le0, ⟨vs, hmv, hall⟩, hn, K⟩
 ·have hc1b := hc1
  have hc1 := ne_of_beq_false hc1
  refine W.skip ?_
  refine W.seq (W.region ?_)
  iterate 4 refine RW.v ?_
  refine RW.ld H 0 1 ?_
  refine RW.len (by kernel_rfl) (by kernel_rfl) rfl rfl rfl rfl (hmv.slf.len (e := 48) (by kernel_rfl)) (by kernel_rfl) ?_
  have hr2 := tmod_in n (show 0 < (M.length : Int) by omega)
  refine RW.vop (v := .int .i64 (Int.tmod n (M.length : Int))) (by kernel_rfl) (by kernel_rfl) (vop_fastBin rfl rfl rfl (rem_fast (by omega))) (by kernel_rfl) ?_
  refine RW.v ?_
  refine RW.nil ?_
  refine W.rg [(0, pp w), (1, .int .i64 (Int.tmod n (M.length : Int)))] fun TA => ?_
  refine W.seq ?_
  refine W.seq (W.region ?_)
  iterate 2 refine RW.v ?_
  refine RW.nil ?_
  refine W.rg [(0, pp w), (1, .int .i64 (Int.tmod n (M.length : Int))), (19, .bool (decide ((Int.tmod n (M.length : Int)) < 0)))] fun TA => ?_
  refine W.cond rfl (fun hc3 => ?_) (fun hc3 => ?_)
  ·have hc3b := hc3
   have hc3 := of_decide_eq_true hc3
   refine W.region ?_
   iterate 4 refine RW.v ?_
   refine RW.ld H 0 1 ?_
   refine RW.len (by kernel_rfl) (by kernel_rfl) rfl rfl rfl rfl (hmv.slf.len (e := 48) (by kernel_rfl)) (by kernel_rfl) ?_
   refine RW.valE (v' := .int .i64 ((Int.tmod n (M.length : Int)) + (M.length : Int))) (by kernel_rfl) (by kernel_rfl) rfl (congrArg (Value.int .i64) (wrap_in (by omega) (by omega))) (by kernel_rfl) ?_
   refine RW.v ?_
   refine RW.nil ?_
   refine W.rg [(0, pp w), (1, .int .i64 ((Int.tmod n (M.length : Int)) + (M.length : Int)))] fun TA => ?_
   refine W.seq ?_
   refine W.drawn (by kernel_rfl) (by kernel_rfl) H.gn ?_
   have H4 := H
   refine RW.v ?_
   refine RW.mkD H4 (x := .row ⟨[], 48, false⟩) (fm := fun b => .slice (some ⟨b, 0, none⟩) 0 0) (by kernel_rfl) (by kernel_rfl) (by kernel_rfl) (by kernel_rfl) ?_
   intro _ b5 H6
   iterate 3 refine RW.v ?_
   refine RW.ld H6 1 1 ?_
   have hkl := rotN_lt n (show 0 < M.length by omega)
   refine RW.valE (v' := .int .i64 ((rotN n M.length : Nat) : Int)) (by kernel_rfl) (by kernel_rfl) rfl (congrArg (Value.int .i64) (rot_neg n (by omega) (by omega))) (by kernel_rfl) ?_
   obtain ⟨sv7, hv8, hk9⟩ := slk_rest (P := Tryz.prog) (t := 54) (e := 48) (i := rotN n M.length) hmv (by kernel_rfl) (by kernel_rfl) (by omega)
   rw [Nat.mul_one] at hk9
   refine RW.vop (v := sv7) (by kernel_rfl) (by kernel_rfl) (vop_slice rfl hv8) (by kernel_rfl) ?_
   refine RW.appS H6 (e := 48) (e2 := 48) hk9.slf (by kernel_rfl) (by kernel_rfl) rfl rfl rfl rfl rfl rfl (H6.get 0 rfl) rfl (by omega) (by kernel_rfl) (by kernel_rfl) (by kernel_rfl) (by decide) (by omega) (by kernel_rfl) ?_
   intro _ ra H10
   iterate 3 refine RW.v ?_
   refine RW.ld H10 2 1 ?_
   have hkl := rotN_lt n (show 0 < M.length by omega)
   refine RW.valE (v' := .int .i64 ((rotN n M.length : Nat) : Int)) (by kernel_rfl) (by kernel_rfl) rfl (congrArg (Value.int .i64) (rot_neg n (by omega) (by omega))) (by kernel_rfl) ?_
   obtain ⟨sv11, hv12, hk13⟩ := slk_cut (P := Tryz.prog) (t := 54) (e := 48) (i := rotN n M.length) hmv (by kernel_rfl) (by kernel_rfl) (by omega)
   rw [Nat.mul_one] at hk13
   refine RW.vop (v := sv11) (by kernel_rfl) (by kernel_rfl) (vop_slice rfl hv12) (by kernel_rfl) ?_
   refine RW.appFD H10 0 (e2 := 48) hk13.slf (by kernel_rfl) (by kernel_rfl) rfl rfl rfl rfl rfl rfl rfl (.inl rfl) (by kernel_rfl) (by kernel_rfl) (by kernel_rfl) (by decide) (hall.take (rotN n M.length)).ones (by omega) (by kernel_rfl) ?_
   intro _ rc H14
   dsimp only [setL] at H14
   iterate 2 refine RW.v ?_
   refine RW.stD H14 2 (vs := [rc]) (cs' := [rc, .bool on, nv, .int .i64 ct]) (by kernel_rfl) (by kernel_rfl) rfl rfl rfl (H14.sl 0 rfl).one (gr_all (H14.sl 0 rfl)) (by kernel_rfl) (Nat.le_of_ble_eq_true rfl) rfl (by kernel_rfl) ?_
   intro _ H15
   dsimp only [setL, delL] at H15
   refine RW.nil ?_
   refine ⟨⟨by kernel_rfl, ⟨trivial, Or.inl (by kernel_rfl), trivial, trivial, trivial, Or.inl (by kernel_rfl), trivial, trivial, trivial, trivial, trivial, trivial, dyn_rowM (H10.get 2 rfl) (Or.inl (by kernel_rfl)) ⟨fun h => Bool.noConfusion h, fun h => Bool.noConfusion h, fun h => Bool.noConfusion h, fun h => Bool.noConfusion h, fun h => Bool.noConfusion h, fun h => Bool.noConfusion h, fun h => Bool.noConfusion h, fun h => Bool.noConfusion h, fun _ => Or.inr (H6.get 1 rfl), fun h => Bool.noConfusion h, fun h => Bool.noConfusion h, fun h => Bool.noConfusion h, fun h => Bool.noConfusion h, fun h => Bool.noConfusion h, fun h => Bool.noConfusion h, fun _ => Or.inr (H10.get 2 rfl), fun h => Bool.noConfusion h, fun h => Bool.noConfusion h, fun _ => Or.inl (by kernel_rfl), trivial⟩, trivial, trivial, trivial, trivial, trivial, trivial, trivial⟩⟩, ?_⟩
   replace H := H15
   clear H4 H6 H10 H14 H15
   replace H := (H.del 1)
   dsimp only [setL, delL] at H
   refine W.rg [] fun TA => ?_
   refine W.seq (W.region ?_)
   refine RW.v ?_
   refine RW.nil ?_
   refine W.ret ?_
   refine endG (by rfl) (by exact resL_tmp rfl) ?_
   obtain ⟨F, le, hrc, H⟩ := H.freezeK 0 rfl
   dsimp only [setL, delL] at H
   replace le0 := fun b y h => le b y (le0 b y h)
   replace hmv := hmv.le le
   replace hall := hall.le le
   replace hn := hn.le le
   replace hk9 := hk9.le le
   replace hk13 := hk13.le le
   have K := ((H.front 1 rfl).front 1 rfl)
   have em : rotate ⟨on, E, M, ct⟩ n = (0, ⟨on, E, M.drop (rotN n M.length) ++ M.take (rotN n M.length), ct⟩) := by clear H K; exact (by (unfold rotate; (repeat' split) <;> first | rfl | (exfalso; omega) | (exfalso; simp_all; done) | (exfalso; simp_all; omega) | (simp_all; done) | (simp_all; omega)))
   rw [em]
   exact ⟨rfl, F, _, _, _, le0, (mac_app hrc hall (by omega) (by omega)), hn, K⟩
  ·have hc3b := hc3
   have hc3 := of_decide_eq_false hc3
   refine W.skip ?_
   refine W.seq ?_
   refine W.drawn (by kernel_rfl) (by kernel_rfl) H.gn ?_
   have H16 := H
   refine RW.v ?_
   refine RW.mkD H16 (x := .row ⟨[], 48, false⟩) (fm := fun b => .slice (some ⟨b, 0, none⟩) 0 0) (by kernel_rfl) (by kernel_rfl) (by kernel_rfl) (by kernel_rfl) ?_
   intro _ b17 H18
   iterate 3 refine RW.v ?_
   refine RW.ld H18 1 1 ?_
   have hkl := rotN_lt n (show 0 < M.length by omega)
   refine RW.valE (v' := .int .i64 ((rotN n M.length : Nat) : Int)) (by kernel_rfl) (by kernel_rfl) rfl (congrArg (Value.int .i64) (rot_pos n (by omega) (by omega))) (by kernel_rfl) ?_
   obtain ⟨sv19, hv20, hk21⟩ := slk_rest (P := Tryz.prog) (t := 54) (e := 48) (i := rotN n M.length) hmv (by kernel_rfl) (by kernel_rfl) (by omega)
   rw [Nat.mul_one] at hk21
   refine RW.vop (v := sv19) (by kernel_rfl) (by kernel_rfl) (vop_slice rfl hv20) (by kernel_rfl) ?_
   refine RW.appS H18 (e := 48) (e2 := 48) hk21.slf (by kernel_rfl) (by kernel_rfl) rfl rfl rfl rfl rfl rfl (H18.get 0 rfl) rfl (by omega) (by kernel_rfl) (by kernel_rfl) (by kernel_rfl) (by decide) (by omega) (by kernel_rfl) ?_
   intro _ ra H22
   iterate 3 refine RW.v ?_
   refine RW.ld H22 2 1 ?_
   have hkl := rotN_lt n (show 0 < M.length by omega)
   refine RW.valE (v' := .int .i64 ((rotN n M.length : Nat) : Int)) (by kernel_rfl) (by kernel_rfl) rfl (congrArg (Value.int .i64) (rot_pos n (by omega) (by omega))) (by kernel_rfl) ?_
   obtain ⟨sv23, hv24, hk25⟩ := slk_cut (P := Tryz.prog) (t := 54) (e := 48) (i := rotN n M.length) hmv (by kernel_rfl) (by kernel_rfl) (by omega)
   rw [Nat.mul_one] at hk25
   refine RW.vop (v := sv23) (by kernel_rfl) (by kernel_rfl) (vop_slice rfl hv24) (by kernel_rfl) ?_
   refine RW.appFD H22 0 (e2 := 48) hk25.slf (by kernel_rfl) (by kernel_rfl) rfl rfl rfl rfl rfl rfl rfl (.inl rfl) (by kernel_rfl) (by kernel_rfl) (by kernel_rfl) (by decide) (hall.take (rotN n M.length)).ones (by omega) (by kernel_rfl) ?_
   intro _ rc H26
   dsimp only [setL] at H26
   iterate 2 refine RW.v ?_
   refine RW.stD H26 2 (vs := [rc]) (cs' := [rc, .bool on, nv, .int .i64 ct]) (by kernel_rfl) (by kernel_rfl) rfl rfl rfl (H26.sl 0 rfl).one (gr_all (H26.sl 0 rfl)) (by kernel_rfl) (Nat.le_of_ble_eq_true rfl) rfl (by kernel_rfl) ?_
   intro _ H27
   dsimp only [setL, delL] at H27
   refine RW.nil ?_
   refine ⟨⟨by kernel_rfl, ⟨trivial, Or.inl (by kernel_rfl), trivial, trivial, trivial, Or.inl (by kernel_rfl), trivial, trivial, trivial, trivial, trivial, trivial, dyn_rowM (H22.get 2 rfl) (Or.inl (by kernel_rfl)) ⟨fun h => Bool.noConfusion h, fun h => Bool.noConfusion h, fun h => Bool.noConfusion h, fun h => Bool.noConfusion h, fun h => Bool.noConfusion h, fun h => Bool.noConfusion h, fun h => Bool.noConfusion h, fun h => Bool.noConfusion h, fun _ => Or.inr (H18.get 1 rfl), fun h => Bool.noConfusion h, fun h => Bool.noConfusion h, fun h => Bool.noConfusion h, fun h => Bool.noConfusion h, fun h => Bool.noConfusion h, fun h => Bool.noConfusion h, fun _ => Or.inr (H22.get 2 rfl), fun h => Bool.noConfusion h, fun h => Bool.noConfusion h, fun _ => Or.inl (by kernel_rfl), trivial⟩, trivial, trivial, trivial, trivial, trivial, trivial, trivial⟩⟩, ?_⟩
   replace H := H27
   clear H16 H18 H22 H26 H27
   replace H := (H.del 1)
   dsimp only [setL, delL] at H
   refine W.rg [] fun TA => ?_
   refine W.seq (W.region ?_)
   refine RW.v ?_
   refine RW.nil ?_
   refine W.ret ?_
   refine endG (by rfl) (by exact resL_tmp rfl) ?_
   obtain ⟨F, le, hrc, H⟩ := H.freezeK 0 rfl
   dsimp only [setL, delL] at H
   replace le0 := fun b y h => le b y (le0 b y h)
   replace hmv := hmv.le le
   replace hall := hall.le le
   replace hn := hn.le le
   replace hk21 := hk21.le le
   replace hk25 := hk25.le le
   have K := ((H.front 1 rfl).front 1 rfl)
   have em : rotate ⟨on, E, M, ct⟩ n = (0, ⟨on, E, M.drop (rotN n M.length) ++ M.take (rotN n M.length), ct⟩) := by clear H K; exact (by (unfold rotate; (repeat' split) <;> first | rfl | (exfalso; omega) | (exfalso; simp_all; done) | (exfalso; simp_all; omega) | (simp_all; done) | (simp_all; omega)))
   rw [em]
   exact ⟨rfl, F, _, _, _, le0, (mac_app hrc hall (by omega) (by omega)), hn, K⟩
set_option maxHeartbeats 4000000 in
theorem r_play {x : Bool} {n d : Int} (hc1 : -2305843009213693952 ≤ ct) (hc2 : ct ≤ 2305843009213693951) (hM : ∀ x ∈ M, 0 < x.length ∧ x.length ≤ 10000) (hl : M.length ≤ 20) (hm : MacF F mv M) (hn : NowK F nv v) (H : Lies G65 A F σ (RE w mv nv v ⟨on, E, M, ct⟩ ++ L)) : WC G65 Tryz.prog 54 #[.pointer (some ⟨w, 0, none⟩), .int .i64 n] σ fun r σ' => ∃ rv, r = .tuple #[rv, .int .i64 (play ⟨on, E, M, ct⟩ n).1] ∧ ∃ F' mv' nv' v', Le F F' ∧ SlF F' 1 rv (play ⟨on, E, M, ct⟩ n).2.1.length ((play ⟨on, E, M, ct⟩ n).2.1.map (Value.int .i64)) ∧ MacF F' mv' (play ⟨on, E, M, ct⟩ n).2.2.M ∧ NowK F' nv' v' ∧ Lies G65 A F' σ' (RE w mv' nv' v' (play ⟨on, E, M, ct⟩ n).2.2 ++ L) := by
 obtain ⟨vs, hmv, hall⟩ := hm
 have le0 : Le F F := fun _ _ h => h
 replace H : Lies G65 A F σ (.at_ w (.row ⟨[mv, .bool on, nv, .int .i64 ct], 94, false⟩) :: .sl 3 1 v E.length (E.map (Value.int .i64)) :: (L)) := H
 refine WC.enter (fn := Tryz.f54) Tryz.func54 rfl ?_
 refine W.rg [(0, pp w), (1, .int .i64 n)] fun TA => ?_
 refine W.seq (W.region ?_)
 iterate 2 refine RW.v ?_
 refine RW.nil ?_
 refine W.rg [(0, pp w), (1, .int .i64 n)] fun TA => ?_
 refine W.seq ?_
 refine W.block ?_
 refine W.seq (W.region ?_)
 iterate 3 refine RW.v ?_
 refine RW.ld H 0 1 ?_
 refine RW.v ?_
 refine RW.nil ?_
 refine W.rg [(0, pp w), (1, .int .i64 n), (8, .bool on)] fun TA => ?_
 refine W.cond rfl (fun hc1 => ?_) (fun hc1 => ?_)
 ·have hc1b := hc1
  refine W.seq (W.region ?_)
  iterate 2 refine RW.v ?_
  refine RW.nil ?_
  refine W.ret ?_
  refine blkQ_ret ?_
  refine seqQ_ret ?_
  refine endG (by rfl) (by exact resL_tmp (by exact resL_tmp rfl)) ?_
  have K := ((H.front 1 rfl).front 1 rfl)
  have em : play ⟨on, E, M, ct⟩ n = (9, [], ⟨on, E, M, ct⟩) := by clear H K; exact (by (unfold play; (repeat' split) <;> first | rfl | (exfalso; omega) | (exfalso; simp_all; done) | (exfalso; simp_all; omega) | (simp_all; done) | (simp_all; omega)))
  rw [em]
  exact ⟨_, rfl, F, _, _, _, le0, .nil _ rfl, ⟨vs, hmv, hall⟩, hn, K⟩
 ·have hc1b := hc1
  refine W.seq (W.region ?_)
  iterate 3 refine RW.v ?_
  refine RW.ld H 0 1 ?_
  refine RW.len (by kernel_rfl) (by kernel_rfl) rfl rfl rfl rfl (hmv.slf.len (e := 48) (by kernel_rfl)) (by kernel_rfl) ?_
  iterate 2 refine RW.v ?_
  refine RW.nil ?_
  refine W.rg [(0, pp w), (1, .int .i64 n), (13, .bool ((M.length : Int) == 0))] fun TA => ?_
  refine W.cond rfl (fun hc2 => ?_) (fun hc2 => ?_)
  ·have hc2b := hc2
   have hc2 := eq_of_beq hc2
   refine W.seq (W.region ?_)
   iterate 2 refine RW.v ?_
   refine RW.nil ?_
   refine W.ret ?_
   refine blkQ_ret ?_
   refine seqQ_ret ?_
   refine endG (by rfl) (by exact resL_tmp (by exact resL_tmp rfl)) ?_
   have K := ((H.front 1 rfl).front 1 rfl)
   have em : play ⟨on, E, M, ct⟩ n = (13, [], ⟨on, E, M, ct⟩) := by clear H K; exact (by (unfold play; (repeat' split) <;> first | rfl | (exfalso; omega) | (exfalso; simp_all; done) | (exfalso; simp_all; omega) | (simp_all; done) | (simp_all; omega)))
   rw [em]
   exact ⟨_, rfl, F, _, _, _, le0, .nil _ rfl, ⟨vs, hmv, hall⟩, hn, K⟩
  ·have hc2b := hc2
   have hc2 := ne_of_beq_false hc2
   refine W.seq (W.region ?_)
   iterate 3 refine RW.v ?_
   refine RW.both _ _ rfl rfl rfl (fun hc3 => ?_) (fun hc3 => ?_)
   ·have hc3b := hc3
    have hc3 := of_decide_eq_true hc3
    refine RW.skip (by rfl) (by kernel_rfl) ?_
    refine RW.skip (by rfl) (by kernel_rfl) ?_
    iterate 2 refine RW.v ?_
    refine RW.nil ?_
    refine W.c1 ?_
    refine W.seq (W.region ?_)
    iterate 2 refine RW.v ?_
    refine RW.nil ?_
    refine W.ret ?_
    refine blkQ_ret ?_
    refine seqQ_ret ?_
    refine endG (by rfl) (by exact resL_tmp (by exact resL_tmp rfl)) ?_
    have K := ((H.front 1 rfl).front 1 rfl)
    have em : play ⟨on, E, M, ct⟩ n = (3, [], ⟨on, E, M, ct⟩) := by clear H K; exact (by (unfold play; (repeat' split) <;> first | rfl | (exfalso; omega) | (exfalso; simp_all; done) | (exfalso; simp_all; omega) | (simp_all; done) | (simp_all; omega)))
    rw [em]
    exact ⟨_, rfl, F, _, _, _, le0, .nil _ rfl, ⟨vs, hmv, hall⟩, hn, K⟩
   ·have hc3b := hc3
    have hc3 := of_decide_eq_false hc3
    refine RW.val (by rfl) (by kernel_rfl) rfl (by kernel_rfl) ?_
    refine RW.val (by rfl) (by kernel_rfl) rfl (by kernel_rfl) ?_
    iterate 2 refine RW.v ?_
    refine RW.nil ?_
    refine W.rg [(0, pp w), (1, .int .i64 n), (20, .bool (decide (n > 100000)))] fun TA => ?_
    refine W.cond rfl (fun hc4 => ?_) (fun hc4 => ?_)
    ·have hc4b := hc4
     have hc4 := of_decide_eq_true hc4
     refine W.seq (W.region ?_)
     iterate 2 refine RW.v ?_
     refine RW.nil ?_
     refine W.ret ?_
     refine blkQ_ret ?_
     refine seqQ_ret ?_
     refine endG (by rfl) (by exact resL_tmp (by exact resL_tmp rfl)) ?_
     have K := ((H.front 1 rfl).front 1 rfl)
     have em : play ⟨on, E, M, ct⟩ n = (3, [], ⟨on, E, M, ct⟩) := by clear H K; exact (by (unfold play; (repeat' split) <;> first | rfl | (exfalso; omega) | (exfalso; simp_all; done) | (exfalso; simp_all; omega) | (simp_all; done) | (simp_all; omega)))
     rw [em]
     exact ⟨_, rfl, F, _, _, _, le0, .nil _ rfl, ⟨vs, hmv, hall⟩, hn, K⟩
    ·have hc4b := hc4
     have hc4 := of_decide_eq_false hc4
     refine W.seq (W.region ?_)
     iterate 4 refine RW.v ?_
     refine RW.ld H 0 1 ?_
     refine RW.idxF hmv.slf (by kernel_rfl) (by kernel_rfl) rfl Tryz.underlying54 (by kernel_rfl) rfl rfl ⟨by omega, by omega⟩ (by kernel_rfl) ?_
     intro b5 q6 r7 hF8 hE9
     rw [vs_at0 (vs := vs) (by rw [hall.len]; omega)] at hE9
     refine RW.loads 1 (by kernel_rfl) (by kernel_rfl) rfl rfl (H.old _ _ hF8) hE9 rfl (by kernel_rfl) ?_
     refine RW.len (by kernel_rfl) (by kernel_rfl) rfl rfl rfl rfl ((hall.get (i := 0) (by omega)).slf.len (e := 3) (by kernel_rfl)) (by kernel_rfl) ?_
     have hz := mac_in hM (i := 0) (by omega)
     have hmul := mul_in (x := n) (k := (M.getD 0 []).length) (by omega) (by omega) hz.2
     refine RW.valE (v' := .int .i64 (n * ((M.getD 0 []).length : Int))) (by kernel_rfl) (by kernel_rfl) rfl (congrArg (Value.int .i64) (wrap_in (by omega) (by omega))) (by kernel_rfl) ?_
     iterate 2 refine RW.v ?_
     refine RW.nil ?_
     refine W.rg [(0, pp w), (1, .int .i64 n), (27, .bool (decide ((n * ((M.getD 0 []).length : Int)) > 100000)))] fun TA => ?_
     refine W.cond rfl (fun hc10 => ?_) (fun hc10 => ?_)
     ·have hc10b := hc10
      have hc10 := of_decide_eq_true hc10
      refine W.seq (W.region ?_)
      iterate 2 refine RW.v ?_
      refine RW.nil ?_
      refine W.ret ?_
      refine blkQ_ret ?_
      refine seqQ_ret ?_
      refine endG (by rfl) (by exact resL_tmp (by exact resL_tmp rfl)) ?_
      have K := ((H.front 1 rfl).front 1 rfl)
      have em : play ⟨on, E, M, ct⟩ n = (4, [], ⟨on, E, M, ct⟩) := by clear H K; exact (by (unfold play; (repeat' split) <;> first | rfl | (exfalso; omega) | (exfalso; simp_all; done) | (exfalso; simp_all; omega) | (simp_all; done) | (simp_all; omega)))
      rw [em]
      exact ⟨_, rfl, F, _, _, _, le0, .nil _ rfl, ⟨vs, hmv, hall⟩, hn, K⟩
     ·have hc10b := hc10
      have hc10 := of_decide_eq_false hc10
      refine W.skip ?_
      refine blkQ_normal ?_
      refine W.seq (W.region ?_)
      refine RW.v ?_
      refine RW.nil ?_
      refine W.rg [(0, pp w), (1, .int .i64 n), (6, .slice none 0 0)] fun TA => ?_
      refine W.seq ?_
      refine W.seq (W.region ?_)
      refine RW.v ?_
      refine RW.nil ?_
      refine W.rg [(0, pp w), (1, .int .i64 n), (6, .slice none 0 0), (7, .int .i64 0)] fun TA => ?_
      refine W.block ?_
      replace H := H.nilSl 3 1
      refine W.loop (fun mm ta σ => ∃ (i : Nat) (u : Value), (mm + i = n.toNat) ∧ Lies G65 A F σ (.sl 3 1 u ((rep i (M.getD 0 [])).length) ((rep i (M.getD 0 [])).map (Value.int .i64)) :: .at_ w (.row ⟨[mv, .bool on, nv, .int .i64 ct], 94, false⟩) :: .sl 3 1 v E.length (E.map (Value.int .i64)) :: (L)) ∧ ta 0 = .pointer (some ⟨w, 0, none⟩) ∧ ta 1 = .int .i64 n ∧ ta 6 = u ∧ ta 7 = .int .i64 ((i : Nat) : Int)) n.toNat ?_ ?_
      ·exact ⟨0, .slice none 0 0, (by omega), H, rfl, rfl, rfl, rfl⟩
      clear H
      rintro mm ta _ ⟨i, u, hm, H, e0, e1, e6, e7⟩
      refine W.rst [(0, .pointer (some ⟨w, 0, none⟩)), (1, .int .i64 n), (6, u), (7, .int .i64 ((i : Nat) : Int))] ⟨e0, e1, e6, e7, trivial⟩ fun TA => ?_
      clear e0 e1 e6 e7
      refine W.seq ?_
      refine W.seq (W.region ?_)
      iterate 3 refine RW.v ?_
      refine RW.nil ?_
      refine W.rg [(0, pp w), (1, .int .i64 n), (6, u), (7, .int .i64 ((i : Nat) : Int)), (40, .bool (decide (((i : Nat) : Int) < n)))] fun TA => ?_
      refine W.cond rfl (fun hc11 => ?_) (fun hc11 => ?_)
      ·have hc11b := hc11
       have hc11 := of_decide_eq_true hc11
       have hbd := rep_bound (X := (M.getD 0 [])) (i := i) (n := n) (by omega) (by omega)
       refine W.skip ?_
       refine W.seq ?_
       refine W.block ?_
       refine W.region ?_
       iterate 4 refine RW.v ?_
       refine RW.ld H 1 1 ?_
       refine RW.idxF hmv.slf (by kernel_rfl) (by kernel_rfl) rfl Tryz.underlying54 (by kernel_rfl) rfl rfl ⟨by omega, by omega⟩ (by kernel_rfl) ?_
       intro b12 q13 r14 hF15 hE16
       rw [vs_at0 (vs := vs) (by rw [hall.len]; omega)] at hE16
       refine RW.loads 1 (by kernel_rfl) (by kernel_rfl) rfl rfl (H.old _ _ hF15) hE16 rfl (by kernel_rfl) ?_
       refine RW.appF H 0 (e2 := 3) (hall.get (i := 0) (by omega)).slf (by kernel_rfl) (by kernel_rfl) rfl rfl rfl rfl rfl rfl rfl (by kernel_rfl) (by kernel_rfl) (by kernel_rfl) (by decide) (ints_one _) (by omega) (by kernel_rfl) ?_
       clear H; intro _ v17 _ H
       dsimp only [setL, delL] at H
       refine RW.v ?_
       refine RW.nil ?_
       refine blkQ_normal ?_
       refine W.rg [(0, pp w), (1, .int .i64 n), (6, v17), (7, .int .i64 ((i : Nat) : Int))] fun TA => ?_
       refine W.region ?_
       refine RW.v ?_
       refine RW.valE (v' := .int .i64 (((i : Nat) : Int) + 1)) (by kernel_rfl) (by kernel_rfl) rfl (congrArg (Value.int .i64) (wrap_in (by omega) (by omega))) (by kernel_rfl) ?_
       refine RW.v ?_
       refine RW.nil ?_
       rw [rep_cells, ← List.length_append, ← rep_succ] at H
       exact ⟨rfl, mm - 1, by omega, i + 1, v17, (by omega), H, rfl, rfl, rfl, rfl⟩
      ·have hc11b := hc11
       have hc11 := of_decide_eq_false hc11
       refine W.exit _ ?_
       refine seqQ_exit ?_
       refine rndQ_exit ?_
       refine blkQ_here ?_
       refine W.seq (W.region ?_)
       iterate 4 refine RW.v ?_
       refine RW.ld H 1 1 ?_
       refine RW.v ?_
       refine RW.valE (v' := .int .i64 (ct + n)) (by kernel_rfl) (by kernel_rfl) rfl (congrArg (Value.int .i64) (wrap_in (by omega) (by omega))) (by kernel_rfl) ?_
       refine RW.vop (v := .int .i64 (min (ct + n) 2305843009213693951)) (by kernel_rfl) (by kernel_rfl) (vop_min rfl rfl rfl rfl rfl) (by kernel_rfl) ?_
       iterate 2 refine RW.v ?_
       refine RW.st H 1 [.int .i64 (min (ct + n) 2305843009213693951)] [mv, .bool on, nv, .int .i64 (min (ct + n) 2305843009213693951)] ?_
       clear H; intro _ _ H; dsimp only [setL, delL] at H
       refine RW.nil ?_
       refine W.rg [(6, u)] fun TA => ?_
       refine W.seq (W.region ?_)
       iterate 3 refine RW.v ?_
       refine RW.nil ?_
       refine W.ret ?_
       refine endG (by rfl) (by exact resL_tmp (by exact resL_tmp rfl)) ?_
       obtain rfl : i = n.toNat := by omega
       obtain ⟨F, le, hrv, H⟩ := H.freezeK 0 rfl
       dsimp only [setL, delL] at H
       replace le0 := fun b y h => le b y (le0 b y h)
       replace hmv := hmv.le le
       replace hall := hall.le le
       replace hn := hn.le le
       rw [show min (ct + n) 2305843009213693951 = min ct (2305843009213693951 - n) + n from by omega] at H
       have K := ((H.front 1 rfl).front 1 rfl)
       have em : play ⟨on, E, M, ct⟩ n = (0, rep n.toNat (M.getD 0 []), ⟨on, E, M, min ct (2305843009213693951 - n) + n⟩) := by clear H K; exact (by (unfold play; (repeat' split) <;> first | rfl | (exfalso; omega) | (exfalso; simp_all; done) | (exfalso; simp_all; omega) | (simp_all; done) | (simp_all; omega)))
       rw [em]
       exact ⟨_, rfl, F, _, _, _, le0, hrv.slf, ⟨vs, hmv, hall⟩, hn, K⟩
end
section
variable {A : Abs} {σ : Mem} {F : Nat → Option Blk2} {L : List Ent} {ev mv : Value} {vs : List Value} {on : Bool} {E : List Int} {M : List (List Int)} {ct : Int}
set_option maxHeartbeats 4000000 in
theorem r_recording {w : Nat} (hw : F w = some (.row ⟨[mv, .bool on, ev, .int .i64 ct], 94, false⟩)) (hoff : on = false → E = []) (hev : SlK F 1 ev E.length (E.map (Value.int .i64))) (hmv : SlK F 1 mv M.length vs) (hall : AllR F vs M) (hM : ∀ x ∈ M, 0 < x.length ∧ x.length ≤ 10000) (hl : M.length ≤ 20) (hE : E.length ≤ 10000) (H : Lies G65 A F σ L) : WC G65 Tryz.prog 61 #[.pointer (some ⟨w, 0, none⟩)] σ fun v σ' => v = .tuple #[.int .i64 (E.length : Int), .bool on] ∧ Lies G65 A F σ' L := by
 refine WC.enter (fn := Tryz.f61) Tryz.func61 rfl ?_
 refine W.rg [(0, pp w)] fun TA => ?_
 refine W.seq (W.region ?_)
 iterate 2 refine RW.v ?_
 refine RW.nil ?_
 refine W.rg [(0, pp w)] fun TA => ?_
 refine W.seq ?_
 refine W.drawn (by kernel_rfl) (by kernel_rfl) H.gn ?_
 have H1 := H
 iterate 3 refine RW.v ?_
 refine RW.loads 1 (by kernel_rfl) (by kernel_rfl) rfl rfl (H1.old _ _ hw) rfl rfl (by kernel_rfl) ?_
 refine RW.len (by kernel_rfl) (by kernel_rfl) rfl rfl rfl rfl (hev.slf.len (e := 3) (by kernel_rfl)) (by kernel_rfl) ?_
 iterate 3 refine RW.v ?_
 refine RW.loads 1 (by kernel_rfl) (by kernel_rfl) rfl rfl (H1.old _ _ hw) rfl rfl (by kernel_rfl) ?_
 iterate 2 refine RW.v ?_
 refine RW.nil ?_
 refine ⟨⟨by kernel_rfl, ⟨trivial, trivial, trivial, dyn_row (H1.old _ _ hw) (H1.old _ _ hw) ⟨fun h => Bool.noConfusion h, fun h => Bool.noConfusion h, fun h => Bool.noConfusion h, fun h => Bool.noConfusion h, fun h => Bool.noConfusion h, fun h => Bool.noConfusion h, fun h => Bool.noConfusion h, fun h => Bool.noConfusion h, fun h => Bool.noConfusion h, fun h => Bool.noConfusion h, fun h => Bool.noConfusion h, trivial⟩, trivial, trivial, trivial, trivial, dyn_row (H1.old _ _ hw) (H1.old _ _ hw) ⟨fun h => Bool.noConfusion h, fun h => Bool.noConfusion h, fun h => Bool.noConfusion h, fun h => Bool.noConfusion h, fun h => Bool.noConfusion h, fun h => Bool.noConfusion h, fun h => Bool.noConfusion h, fun h => Bool.noConfusion h, fun h => Bool.noConfusion h, fun h => Bool.noConfusion h, fun h => Bool.noConfusion h, trivial⟩, trivial, trivial, trivial⟩⟩, ?_⟩
 replace H := H1
 clear H1
 refine W.ret ?_
 refine endG (by rfl) (by exact resL_tmp (by exact resL_tmp rfl)) ?_
 exact ⟨rfl, H⟩
set_option maxHeartbeats 4000000 in
theorem r_last {w : Nat} (hw : F w = some (.row ⟨[mv, .bool on, ev, .int .i64 ct], 94, false⟩)) (hev : SlK F 1 ev E.length (E.map (Value.int .i64))) (hmv : SlK F 1 mv M.length vs) (hall : AllR F vs M) (hM : ∀ x ∈ M, 0 < x.length ∧ x.length ≤ 10000) (hl : M.length ≤ 20) (hE : E.length ≤ 10000) (H : Lies G65 A F σ L) : WC G65 Tryz.prog 62 #[.pointer (some ⟨w, 0, none⟩)] σ fun v σ' => Lies G65 A F σ' (.sl 3 1 v (M.getD 0 []).length ((M.getD 0 []).map (Value.int .i64)) :: L) := by
 refine WC.enter (fn := Tryz.f62) Tryz.func62 rfl ?_
 refine W.rg [(0, pp w)] fun TA => ?_
 refine W.seq (W.region ?_)
 refine RW.v ?_
 refine RW.nil ?_
 refine W.rg [(0, pp w)] fun TA => ?_
 refine W.seq ?_
 refine W.seq (W.region ?_)
 iterate 3 refine RW.v ?_
 refine RW.loads 1 (by kernel_rfl) (by kernel_rfl) rfl rfl (H.old _ _ hw) rfl rfl (by kernel_rfl) ?_
 refine RW.len (by kernel_rfl) (by kernel_rfl) rfl rfl rfl rfl (hmv.slf.len (e := 48) (by kernel_rfl)) (by kernel_rfl) ?_
 refine RW.v ?_
 refine RW.nil ?_
 refine W.rg [(0, pp w), (8, .bool ((M.length : Int) == 0))] fun TA => ?_
 refine W.cond rfl (fun hc1 => ?_) (fun hc1 => ?_)
 ·have hc1b := hc1
  have hc1 := eq_of_beq hc1
  refine W.seq (W.region ?_)
  refine RW.v ?_
  refine RW.nil ?_
  refine W.ret ?_
  refine seqQ_ret ?_
  refine endG (by rfl) (by exact resL_tmp rfl) ?_
  have hM0 : M = [] := List.eq_nil_of_length_eq_zero (by omega)
  rw [hM0]
  exact H.nilSl 3 1
 ·have hc1b := hc1
  have hc1 := ne_of_beq_false hc1
  refine W.skip ?_
  refine W.seq (W.region ?_)
  iterate 3 refine RW.v ?_
  refine RW.loads 1 (by kernel_rfl) (by kernel_rfl) rfl rfl (H.old _ _ hw) rfl rfl (by kernel_rfl) ?_
  refine RW.idxF hmv.slf (by kernel_rfl) (by kernel_rfl) rfl Tryz.underlying54 (by kernel_rfl) rfl rfl ⟨by omega, by omega⟩ (by kernel_rfl) ?_
  intro b2 q3 r4 hF5 hE6
  rw [vs_at0 (vs := vs) (by rw [hall.len]; omega)] at hE6
  refine RW.loads 1 (by kernel_rfl) (by kernel_rfl) rfl rfl (H.old _ _ hF5) hE6 rfl (by kernel_rfl) ?_
  have hz := mac_in hM (i := 0) (by omega)
  refine RW.cl ?_
  refine ((own_pos (hall.get (i := 0) (by omega)).slf (by omega) (by omega) (ints_one _) H).mono ?_)
  clear H
  rintro v7 _ H
  refine RW.v ?_
  refine RW.nil ?_
  refine W.ret ?_
  refine endG (by rfl) (by exact resL_tmp rfl) ?_
  exact H
set_option maxHeartbeats 4000000 in
theorem r_ring {w : Nat} (hw : F w = some (.row ⟨[mv, .bool on, ev, .int .i64 ct], 94, false⟩)) (hev : SlK F 1 ev E.length (E.map (Value.int .i64))) (hmv : SlK F 1 mv M.length vs) (hall : AllR F vs M) (hM : ∀ x ∈ M, 0 < x.length ∧ x.length ≤ 10000) (hl : M.length ≤ 20) (hE : E.length ≤ 10000) (H : Lies G65 A F σ L) : WC G65 Tryz.prog 45 #[.pointer (some ⟨w, 0, none⟩)] σ fun v σ' => ∃ us, us.length = M.length ∧ Lies G65 A F σ' (.sl 48 1 v M.length us :: (ents us M ++ L)) := by
 refine WC.enter (fn := Tryz.f45) Tryz.func45 rfl ?_
 refine W.rg [(0, pp w)] fun TA => ?_
 refine W.seq (W.region ?_)
 refine RW.v ?_
 refine RW.nil ?_
 refine W.rg [(0, pp w)] fun TA => ?_
 refine W.seq (W.region ?_)
 refine RW.v ?_
 refine RW.nil ?_
 refine W.rg [(0, pp w), (3, .slice none 0 0)] fun TA => ?_
 refine W.seq ?_
 refine W.seq (W.region ?_)
 refine RW.v ?_
 refine RW.nil ?_
 refine W.rg [(0, pp w), (3, .slice none 0 0), (4, .int .i64 0)] fun TA => ?_
 refine W.block ?_
 replace H := H.nilSl 48 1
 refine W.loop (fun mm ta σ => ∃ (i : Nat) (us : List Value) (u : Value), (mm + i = M.length) ∧ (us.length = i) ∧ Lies G65 A F σ (.sl 48 1 u i us :: (ents us (M.take i) ++ L)) ∧ ta 0 = .pointer (some ⟨w, 0, none⟩) ∧ ta 3 = u ∧ ta 4 = .int .i64 ((i : Nat) : Int)) M.length ?_ ?_
 ·exact ⟨0, [], .slice none 0 0, (by omega), rfl, H, rfl, rfl, rfl⟩
 clear H
 rintro mm ta _ ⟨i, us, u, hm, hu, H, e0, e3, e4⟩
 refine W.rst [(0, .pointer (some ⟨w, 0, none⟩)), (3, u), (4, .int .i64 ((i : Nat) : Int))] ⟨e0, e3, e4, trivial⟩ fun TA => ?_
 clear e0 e3 e4
 refine W.seq ?_
 refine W.seq (W.region ?_)
 iterate 4 refine RW.v ?_
 refine RW.loads 1 (by kernel_rfl) (by kernel_rfl) rfl rfl (H.old _ _ hw) rfl rfl (by kernel_rfl) ?_
 refine RW.len (by kernel_rfl) (by kernel_rfl) rfl rfl rfl rfl (hmv.slf.len (e := 48) (by kernel_rfl)) (by kernel_rfl) ?_
 refine RW.v ?_
 refine RW.nil ?_
 refine W.rg [(0, pp w), (3, u), (4, .int .i64 ((i : Nat) : Int)), (11, .bool (decide (((i : Nat) : Int) < (M.length : Int))))] fun TA => ?_
 refine W.cond rfl (fun hc1 => ?_) (fun hc1 => ?_)
 ·have hc1b := hc1
  have hc1 := of_decide_eq_true hc1
  refine W.skip ?_
  refine W.seq ?_
  refine W.block ?_
  refine W.region ?_
  iterate 4 refine RW.v ?_
  refine RW.loads 1 (by kernel_rfl) (by kernel_rfl) rfl rfl (H.old _ _ hw) rfl rfl (by kernel_rfl) ?_
  refine RW.v ?_
  refine RW.idxF hmv.slf (by kernel_rfl) (by kernel_rfl) rfl Tryz.underlying54 (by kernel_rfl) rfl rfl ⟨by omega, by omega⟩ (by kernel_rfl) ?_
  intro b2 q3 r4 hF5 hE6
  rw [vs_at (vs := vs) (j := i) (by rw [hall.len]; omega)] at hE6
  refine RW.loads 1 (by kernel_rfl) (by kernel_rfl) rfl rfl (H.old _ _ hF5) hE6 rfl (by kernel_rfl) ?_
  have hz := mac_in hM (i := i) (by omega)
  refine RW.cl ?_
  refine ((own_pos (hall.get (i := i) (by omega)).slf (by omega) (by omega) (ints_one _) H).mono ?_)
  clear H
  rintro v7 _ H
  refine RW.mkL H (x := .row ⟨[v7], 48, false⟩) (fm := fun b => .slice (some ⟨b, 0, none⟩) 1 1) (by kernel_rfl) (by kernel_rfl) (by rcases gr_forms (H.sl 0 rfl) with rfl | ⟨_, _, _, rfl⟩ <;> kernel_rfl) (by kernel_rfl) ?_
  clear H; intro _ b8 _ H
  refine RW.appL H 2 0 (n := 1) (e2 := 48) (by kernel_rfl) (by kernel_rfl) rfl rfl rfl rfl rfl rfl rfl rfl (by kernel_rfl) (by kernel_rfl) (by kernel_rfl) (by decide) (by decide) rfl (gr_all (H.sl 1 rfl)) (by omega) (by kernel_rfl) ?_
  clear H; intro _ v9 _ H
  dsimp only [setL, delL] at H
  refine RW.v ?_
  refine RW.nil ?_
  refine blkQ_normal ?_
  refine W.rg [(0, pp w), (3, v9), (4, .int .i64 ((i : Nat) : Int))] fun TA => ?_
  refine W.region ?_
  refine RW.v ?_
  refine RW.valE (v' := .int .i64 (((i : Nat) : Int) + 1)) (by kernel_rfl) (by kernel_rfl) rfl (congrArg (Value.int .i64) (wrap_in (by omega) (by omega))) (by kernel_rfl) ?_
  refine RW.v ?_
  refine RW.nil ?_
  replace H := ring_next (by omega) hu H
  exact ⟨rfl, mm - 1, by omega, i + 1, us ++ [v7], v9, (by omega), (by rw [List.length_append, List.length_singleton]; omega), H, rfl, rfl, rfl⟩
 ·have hc1b := hc1
  have hc1 := of_decide_eq_false hc1
  refine W.exit _ ?_
  refine seqQ_exit ?_
  refine rndQ_exit ?_
  refine blkQ_here ?_
  refine W.seq (W.region ?_)
  iterate 2 refine RW.v ?_
  refine RW.nil ?_
  refine W.ret ?_
  refine endG (by rfl) (by exact resL_tmp rfl) ?_
  obtain rfl : i = M.length := by omega
  rw [List.take_length] at H
  exact ⟨us, hu, H⟩
set_option maxHeartbeats 4000000 in
theorem r_copy {w : Nat} (hw : F w = some (.row ⟨[mv, .bool on, ev, .int .i64 ct], 94, false⟩)) (hev : SlK F 1 ev E.length (E.map (Value.int .i64))) (hmv : SlK F 1 mv M.length vs) (hall : AllR F vs M) (hM : ∀ x ∈ M, 0 < x.length ∧ x.length ≤ 10000) (hl : M.length ≤ 20) (hE : E.length ≤ 10000) (H : Lies G65 A F σ L) : WC G65 Tryz.prog 13 #[.pointer (some ⟨w, 0, none⟩)] σ fun r σ' => ∃ w', r = .pointer (some ⟨w', 0, none⟩) ∧ ∃ mv' us nv' x, us.length = M.length ∧ (x = .sl 3 1 nv' E.length (E.map (Value.int .i64)) ∨ E = [] ∧ ∃ b, nv' = .slice (some ⟨b, 0, none⟩) 0 0 ∧ x = .at_ b (.row ⟨[], 3, false⟩)) ∧ Lies G65 A F σ' (.at_ w' (.row ⟨[mv', .bool on, nv', .int .i64 ct], 94, false⟩) :: x :: .sl 48 1 mv' M.length us :: (ents us M ++ L)) := by
 refine WC.enter (fn := Tryz.f13) Tryz.func13 rfl ?_
 refine W.rg [(0, pp w)] fun TA => ?_
 refine W.seq (W.region ?_)
 refine RW.v ?_
 refine RW.nil ?_
 refine W.rg [(0, pp w)] fun TA => ?_
 refine W.seq ?_
 refine W.drawn (by kernel_rfl) (by kernel_rfl) H.gn ?_
 have H1 := H
 refine RW.v ?_
 refine RW.cl ?_
 refine ((r_ring hw hev hmv hall hM hl hE H1).mono ?_)
 rintro mv2 _ ⟨us, hu, K3⟩
 have H2 : Lies G65 (A) F _ (.sl 48 1 mv2 M.length us :: (ents us M ++ (L))) := Lies.rot (B := .sl 48 1 mv2 M.length us :: ents us M) (X := []) K3
 iterate 3 refine RW.v ?_
 refine RW.loads 1 (by kernel_rfl) (by kernel_rfl) rfl rfl (H2.old _ _ hw) rfl rfl (by kernel_rfl) ?_
 iterate 3 refine RW.v ?_
 refine RW.loads 1 (by kernel_rfl) (by kernel_rfl) rfl rfl (H2.old _ _ hw) rfl rfl (by kernel_rfl) ?_
 rcases Nat.eq_zero_or_pos E.length with h04 | h04
 ·have hE0 : E = [] := List.eq_nil_of_length_eq_zero h04
  have hev0 : SlF F 1 ev 0 (E.map (Value.int .i64)) := h04 ▸ hev.slf
  refine RW.cl ?_
  refine ((own_zero (n := 0) hev0 H2).mono ?_)
  rintro _ _ ⟨b5, rfl, H6⟩
  iterate 3 refine RW.v ?_
  refine RW.loads 1 (by kernel_rfl) (by kernel_rfl) rfl rfl (H6.old _ _ hw) rfl rfl (by kernel_rfl) ?_
  refine RW.val (v := .agg #[mv2, .bool on, .slice (some ⟨b5, 0, none⟩) 0 0, .int .i64 ct]) (by kernel_rfl) (by kernel_rfl) (by rcases gr_forms (H6.sl 1 rfl) with rfl | ⟨_, _, _, rfl⟩ <;> kernel_rfl) (by kernel_rfl) ?_
  refine RW.mkD H6 (x := .row ⟨[mv2, .bool on, .slice (some ⟨b5, 0, none⟩) 0 0, .int .i64 ct], 94, false⟩) (fm := fun b => .pointer (some ⟨b, 0, none⟩)) (by kernel_rfl) (by kernel_rfl) (by rcases gr_forms (H6.sl 1 rfl) with rfl | ⟨_, _, _, rfl⟩ <;> kernel_rfl) (by kernel_rfl) ?_
  intro _ b7 H8
  refine RW.v ?_
  refine RW.nil ?_
  refine ⟨⟨by kernel_rfl, ⟨trivial, trivial, trivial, trivial, trivial, dyn_row (H2.old _ _ hw) (H8.old _ _ hw) ⟨fun h => Bool.noConfusion h, fun _ => H1.old _ _ hw, fun h => Bool.noConfusion h, fun h => Bool.noConfusion h, fun h => Bool.noConfusion h, fun h => Bool.noConfusion h, fun h => Bool.noConfusion h, fun h => Bool.noConfusion h, fun h => Bool.noConfusion h, fun h => Bool.noConfusion h, fun _ => H2.old _ _ hw, fun h => Bool.noConfusion h, fun h => Bool.noConfusion h, fun h => Bool.noConfusion h, fun h => Bool.noConfusion h, fun h => Bool.noConfusion h, fun h => Bool.noConfusion h, fun h => Bool.noConfusion h, trivial⟩, trivial, trivial, trivial, dyn_row (H2.old _ _ hw) (H8.old _ _ hw) ⟨fun h => Bool.noConfusion h, fun _ => H1.old _ _ hw, fun h => Bool.noConfusion h, fun h => Bool.noConfusion h, fun h => Bool.noConfusion h, fun h => Bool.noConfusion h, fun h => Bool.noConfusion h, fun h => Bool.noConfusion h, fun h => Bool.noConfusion h, fun h => Bool.noConfusion h, fun _ => H2.old _ _ hw, fun h => Bool.noConfusion h, fun h => Bool.noConfusion h, fun h => Bool.noConfusion h, fun h => Bool.noConfusion h, fun h => Bool.noConfusion h, fun h => Bool.noConfusion h, fun h => Bool.noConfusion h, trivial⟩, trivial, trivial, trivial, trivial, dyn_row (H6.old _ _ hw) (H8.old _ _ hw) ⟨fun h => Bool.noConfusion h, fun _ => H1.old _ _ hw, fun h => Bool.noConfusion h, fun h => Bool.noConfusion h, fun h => Bool.noConfusion h, fun h => Bool.noConfusion h, fun h => Bool.noConfusion h, fun h => Bool.noConfusion h, fun h => Bool.noConfusion h, fun h => Bool.noConfusion h, fun _ => H2.old _ _ hw, fun h => Bool.noConfusion h, fun h => Bool.noConfusion h, fun h => Bool.noConfusion h, fun h => Bool.noConfusion h, fun h => Bool.noConfusion h, fun h => Bool.noConfusion h, fun h => Bool.noConfusion h, trivial⟩, trivial, Or.inl (by kernel_rfl), trivial, trivial⟩⟩, ?_⟩
  replace H := H8
  clear H1 H2 H6 H8
  refine W.ret ?_
  refine endG (by rfl) (by exact resL_tmp rfl) ?_
  have K := (((H.front 2 rfl).front 2 rfl).front 2 rfl)
  exact ⟨b7, rfl, _, us, _, _, hu, .inr ⟨hE0, _, rfl, rfl⟩, K⟩
 ·refine RW.cl ?_
  refine ((own_pos hev.slf (by omega) (by omega) (ints_one _) H2).mono ?_)
  rintro v9 _ H10
  iterate 3 refine RW.v ?_
  refine RW.loads 1 (by kernel_rfl) (by kernel_rfl) rfl rfl (H10.old _ _ hw) rfl rfl (by kernel_rfl) ?_
  refine RW.val (v := .agg #[mv2, .bool on, v9, .int .i64 ct]) (by kernel_rfl) (by kernel_rfl) (by rcases gr_forms (H10.sl 1 rfl) with rfl | ⟨_, _, _, rfl⟩ <;> rcases gr_forms (H10.sl 0 rfl) with rfl | ⟨_, _, _, rfl⟩ <;> kernel_rfl) (by kernel_rfl) ?_
  refine RW.mkD H10 (x := .row ⟨[mv2, .bool on, v9, .int .i64 ct], 94, false⟩) (fm := fun b => .pointer (some ⟨b, 0, none⟩)) (by kernel_rfl) (by kernel_rfl) (by rcases gr_forms (H10.sl 1 rfl) with rfl | ⟨_, _, _, rfl⟩ <;> rcases gr_forms (H10.sl 0 rfl) with rfl | ⟨_, _, _, rfl⟩ <;> kernel_rfl) (by kernel_rfl) ?_
  intro _ b11 H12
  refine RW.v ?_
  refine RW.nil ?_
  refine ⟨⟨by kernel_rfl, ⟨trivial, trivial, trivial, trivial, trivial, dyn_row (H2.old _ _ hw) (H12.old _ _ hw) ⟨fun h => Bool.noConfusion h, fun _ => H1.old _ _ hw, fun h => Bool.noConfusion h, fun h => Bool.noConfusion h, fun h => Bool.noConfusion h, fun h => Bool.noConfusion h, fun h => Bool.noConfusion h, fun h => Bool.noConfusion h, fun h => Bool.noConfusion h, fun h => Bool.noConfusion h, fun _ => H2.old _ _ hw, fun h => Bool.noConfusion h, fun h => Bool.noConfusion h, fun h => Bool.noConfusion h, fun h => Bool.noConfusion h, fun h => Bool.noConfusion h, fun h => Bool.noConfusion h, fun h => Bool.noConfusion h, trivial⟩, trivial, trivial, trivial, dyn_row (H2.old _ _ hw) (H12.old _ _ hw) ⟨fun h => Bool.noConfusion h, fun _ => H1.old _ _ hw, fun h => Bool.noConfusion h, fun h => Bool.noConfusion h, fun h => Bool.noConfusion h, fun h => Bool.noConfusion h, fun h => Bool.noConfusion h, fun h => Bool.noConfusion h, fun h => Bool.noConfusion h, fun h => Bool.noConfusion h, fun _ => H2.old _ _ hw, fun h => Bool.noConfusion h, fun h => Bool.noConfusion h, fun h => Bool.noConfusion h, fun h => Bool.noConfusion h, fun h => Bool.noConfusion h, fun h => Bool.noConfusion h, fun h => Bool.noConfusion h, trivial⟩, trivial, trivial, trivial, trivial, dyn_row (H10.old _ _ hw) (H12.old _ _ hw) ⟨fun h => Bool.noConfusion h, fun _ => H1.old _ _ hw, fun h => Bool.noConfusion h, fun h => Bool.noConfusion h, fun h => Bool.noConfusion h, fun h => Bool.noConfusion h, fun h => Bool.noConfusion h, fun h => Bool.noConfusion h, fun h => Bool.noConfusion h, fun h => Bool.noConfusion h, fun _ => H2.old _ _ hw, fun h => Bool.noConfusion h, fun h => Bool.noConfusion h, fun h => Bool.noConfusion h, fun h => Bool.noConfusion h, fun h => Bool.noConfusion h, fun h => Bool.noConfusion h, fun h => Bool.noConfusion h, trivial⟩, trivial, Or.inl (by kernel_rfl), trivial, trivial⟩⟩, ?_⟩
  replace H := H12
  clear H1 H2 H10 H12
  refine W.ret ?_
  refine endG (by rfl) (by exact resL_tmp rfl) ?_
  have K := (((H.front 2 rfl).front 2 rfl).front 2 rfl)
  exact ⟨b11, rfl, _, us, _, _, hu, .inl rfl, K⟩
end
end Go.Proofs.YthemeeiedlbhkaaGreatDoor
