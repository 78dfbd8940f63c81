/-
 The model of a recorder; the program: Start, Record, Cancel, Drop. Conditions: none.
 The program: Stop, Rotate, Count. Conditions: none.
 The program: Play, what only reads, Copy. Conditions: none.
-/
import Derived.Test.YthemeeiedlbhkaaGreatDoorK1
import Derived.Test.YthemeeiedlbhkaaGreatDoorS4
namespace Go.Proofs.YthemeeiedlbhkaaGreatDoor
set_option maxRecDepth 100000
structure RS where
 on : Bool
 E : List Int
 M : List (List Int)
 ct : Int
def start (s : RS) (x : Bool) : Int × RS := if s.on = true then (9, s) else if x = true ∧ s.M.length = 0 then (13, s) else (0, ⟨true, if x = true then s.M.getD 0 [] else [], s.M, s.ct⟩)
def record (s : RS) (n : Int) : Int × RS := if s.on = false then (9, s) else if s.E.length = 10000 then (4, s) else (0, ⟨s.on, s.E ++ [n], s.M, s.ct⟩)
def stop (s : RS) (d : Int) : Int × RS := if s.on = false then (9, s) else if d < 0 ∨ (s.E.length : Int) < d then (3, s) else (0, ⟨false, [], if (s.E.length : Int) - d = 0 then s.M else (s.E.take ((s.E.length : Int) - d).toNat :: s.M).take (min (1 + s.M.length) 20), s.ct⟩)
def drop (s : RS) : Int × RS := if s.M.length = 0 then (13, s) else (0, ⟨s.on, s.E, s.M.drop 1, s.ct⟩)
def rotN (n : Int) (m : Nat) : Nat := (Int.tmod (Int.tmod n m + m) m).toNat
def rotate (s : RS) (n : Int) : Int × RS := if s.M.length = 0 then (13, s) else (0, ⟨s.on, s.E, s.M.drop (rotN n s.M.length) ++ s.M.take (rotN n s.M.length), s.ct⟩)
def count (s : RS) (x : Bool) (n : Int) : Int × RS :=
 if (0 < n ∧ 2305843009213693951 - n < (if x = true then 0 else s.ct)) ∨ (n < 0 ∧ (if x = true then 0 else s.ct) < -2305843009213693952 - n) then (3, s) else (0, ⟨s.on, s.E, s.M, (if x = true then 0 else s.ct) + n⟩)
def play (s : RS) (n : Int) : Int × List Int × RS := if s.on = true then (9, [], s) else if s.M.length = 0 then (13, [], s) else if n < 1 ∨ 100000 < n then (3, [], s) else if 100000 < n * ((s.M.getD 0 []).length : Int) then (4, [], s) else (0, rep n.toNat (s.M.getD 0 []), ⟨s.on, s.E, s.M, min s.ct (2305843009213693951 - n) + n⟩)
def RS.Ok (s : RS) : Prop := (s.on = false → s.E = []) ∧ s.E.length ≤ 10000 ∧ s.M.length ≤ 20 ∧ (∀ x ∈ s.M, 0 < x.length ∧ x.length ≤ 10000) ∧ -2305843009213693952 ≤ s.ct ∧ s.ct ≤ 2305843009213693951
theorem tmod_in (n : Int) {m : Int} (h : 0 < m) : -m < Int.tmod n m ∧ Int.tmod n m < m := ⟨Int.lt_tmod_of_pos n h, Int.tmod_lt_of_pos n h⟩
theorem rem_fast {a b : Int} (h : b ≠ 0) : fastBin .rem .i64 a b = some (.int .i64 (Int.tmod a b)) := if_neg h
theorem rot_is (n : Int) {m : Nat} (h : 0 < m) : Int.tmod (Int.tmod n m + m) m = ((rotN n m : Nat) : Int) := by
 unfold rotN
 have h1 := tmod_in n (m := (m : Int)) (by omega)
 rw [Int.toNat_of_nonneg]
 exact Int.tmod_nonneg _ (by omega)
theorem rotN_lt (n : Int) {m : Nat} (h : 0 < m) : rotN n m < m := by
 have h2 := tmod_in (Int.tmod n m + m) (m := (m : Int)) (by omega)
 have h3 := rot_is n h
 omega
theorem mac_in {M : List (List Int)} (hM : ∀ x ∈ M, 0 < x.length ∧ x.length ≤ 10000) {i : Nat} (hi : i < M.length) : 0 < (M.getD i []).length ∧ (M.getD i []).length ≤ 10000 := by
 rw [List.getD_eq_getElem?_getD, List.getElem?_eq_getElem hi]
 exact hM _ (List.getElem_mem hi)
theorem all_take {l : List Value} {p : Value → Bool} (i : Nat) (h : l.all p = true) : (l.take i).all p = true := by
 rw [List.all_eq_true] at h ⊢
 exact fun x hx => h x (List.mem_of_mem_take hx)
theorem snocI (l : List Int) (n : Int) : (l ++ [n]).map (Value.int .i64) = l.map (Value.int .i64) ++ [.int .i64 n] := by rw [List.map_append]; rfl
theorem vs_at0 {vs : List Value} (h : 0 < vs.length) : (vs.drop (Int.toNat 0 * 1)).take 1 = [vs.getD 0 undef] := vs_at (vs := vs) (j := 0) h
section
variable {F : Nat → Option Blk2} {v : Value}
theorem slk_ints {E : List Int} {i : Nat} (h : SlK F 1 v i ((E.map (Value.int .i64)).take i)) (hi : i ≤ E.length) : SlK F 1 v (E.take i).length ((E.take i).map (Value.int .i64)) := by
 rw [List.length_take, Nat.min_eq_left hi, List.map_take]
 exact h
theorem mac_take {ws : List Value} {N : List (List Int)} {i j : Nat} (h : SlK F 1 v i (ws.take i)) (ha : AllR F ws N) (hi : i = j) (hj : j ≤ N.length) : MacF F v (N.take j) := by
 subst hi
 exact ⟨ws.take i, by rw [List.length_take, Nat.min_eq_left hj]; exact h, ha.take i⟩
theorem mac_app {vs : List Value} {M : List (List Int)} {k n : Nat} (h : SlK F 1 v n (vs.drop k ++ vs.take k)) (ha : AllR F vs M) (hn : n = M.length - k + k) (hk : k ≤ M.length) : MacF F v (M.drop k ++ M.take k) := by
 refine ⟨_, ?_, (ha.drop k).app (ha.take k)⟩
 rw [List.length_append, List.length_drop, List.length_take, Nat.min_eq_left hk, ← hn]
 exact h
end
def PE (q r : Nat) (ev mv : Value) (s : RS) : List Ent := [.at_ r (.row ⟨[.bool s.on, ev, mv, .int .i64 s.ct], 90, false⟩), .at_ q (.row ⟨[.pointer (some ⟨r, 0, none⟩)], 92, false⟩), .sl 3 1 ev s.E.length (s.E.map (Value.int .i64))]
section
variable {G : Nat} {A : Abs} {σ : Mem} {F : Nat → Option Blk2} {L : List Ent} {q r : Nat} {ev mv : Value} {on : Bool} {E : List Int} {M : List (List Int)} {ct : Int}
set_option maxHeartbeats 4000000 in
theorem p_start {x : Bool} {n d : Int}  (hM : ∀ x ∈ M, 0 < x.length ∧ x.length ≤ 10000) (hl : M.length ≤ 20) (hE : E.length ≤ 10000) (hm : MacF F mv M) (hv : E.length = 0 → ev = .slice none 0 0) (H : Lies G A F σ (PE q r ev mv ⟨on, E, M, ct⟩ ++ L)) : WC G Tryz.prog 14 #[.pointer (some ⟨q, 0, none⟩), .bool x] σ fun v σ' => v = .int .i64 (start ⟨on, E, M, ct⟩ x).1 ∧ ∃ F' ev' mv', Le F F' ∧ MacF F' mv' (start ⟨on, E, M, ct⟩ x).2.M ∧ ((start ⟨on, E, M, ct⟩ x).2.E.length = 0 → ev' = .slice none 0 0) ∧ Lies G A F' σ' (PE q r ev' mv' (start ⟨on, E, M, ct⟩ x).2 ++ L) := by
 obtain ⟨vs, hmv, hall⟩ := hm
 have le0 : Le F F := fun _ _ h => h
 replace H : Lies G A F σ (.at_ r (.row ⟨[.bool on, ev, mv, .int .i64 ct], 90, false⟩) :: .at_ q (.row ⟨[.pointer (some ⟨r, 0, none⟩)], 92, false⟩) :: .sl 3 1 ev E.length (E.map (Value.int .i64)) :: (L)) := H
 refine WC.enter (fn := Tryz.f14) Tryz.func14 rfl ?_
 refine W.rg [(0, pp q), (1, .bool x)] fun TA => ?_
 refine W.seq (W.region ?_)
 refine RW.v ?_
 refine RW.nil ?_
 refine W.rg [(0, pp q), (1, .bool x)] fun TA => ?_
 refine W.seq ?_
 refine W.block ?_
 refine W.seq (W.region ?_)
 refine RW.v ?_
 refine RW.cl ?_
 refine WC.enter (fn := Tryz.f42) Tryz.func42 rfl ?_
 refine W.rg [(0, pp q)] fun TA => ?_
 refine W.seq (W.region ?_)
 refine RW.v ?_
 refine RW.nil ?_
 refine W.rg [(0, pp q)] fun TA => ?_
 refine W.seq (W.region ?_)
 iterate 3 refine RW.v ?_
 refine RW.val (by rfl) (by kernel_rfl) rfl (by kernel_rfl) ?_
 refine RW.val (by rfl) (by kernel_rfl) rfl (by kernel_rfl) ?_
 refine RW.val (by rfl) (by kernel_rfl) rfl (by kernel_rfl) ?_
 refine RW.ldL H 1 1 (by rfl) (by kernel_rfl) rfl rfl rfl rfl rfl (by kernel_rfl) ?_
 refine RW.val (by rfl) (by kernel_rfl) rfl (by kernel_rfl) ?_
 iterate 2 refine RW.v ?_
 refine RW.nil ?_
 refine W.ret ?_
 refine endG (by rfl) (by exact resL_tmp rfl) ?_
 iterate 2 refine RW.v ?_
 refine RW.nil ?_
 refine W.c0 ?_
 refine W.seq (W.region ?_)
 iterate 3 refine RW.v ?_
 refine RW.ld H 1 1 ?_
 iterate 3 refine RW.v ?_
 refine RW.ld H 0 1 ?_
 refine RW.v ?_
 refine RW.nil ?_
 refine W.rg [(0, pp q), (1, .bool x), (9, .bool on)] fun TA => ?_
 refine W.cond rfl (fun hc1 => ?_) (fun hc1 => ?_)
 ·have hc1b := hc1
  refine W.seq (W.region ?_)
  refine RW.v ?_
  refine RW.nil ?_
  refine W.ret ?_
  refine blkQ_ret ?_
  refine seqQ_ret ?_
  refine endG (by rfl) (by exact resL_tmp rfl) ?_
  have K := (((H.front 2 rfl).front 2 rfl).front 2 rfl)
  have em : start ⟨on, E, M, ct⟩ x = (9, ⟨on, E, M, ct⟩) := by clear H K; exact (by (unfold start; (repeat' split) <;> first | rfl | (exfalso; omega) | (exfalso; simp_all; done) | (exfalso; simp_all; omega) | (simp_all; done) | (simp_all; omega)))
  rw [em]
  exact ⟨rfl, F, _, _, le0, ⟨vs, hmv, hall⟩, hv, K⟩
 ·have hc1b := hc1
  refine W.seq (W.region ?_)
  iterate 2 refine RW.v ?_
  refine RW.both _ _ rfl rfl rfl (fun hc2 => ?_) (fun hc2 => ?_)
  ·have hc2b := hc2
   refine RW.val (by rfl) (by kernel_rfl) rfl (by kernel_rfl) ?_
   refine RW.val (by rfl) (by kernel_rfl) rfl (by kernel_rfl) ?_
   refine RW.val (by rfl) (by kernel_rfl) rfl (by kernel_rfl) ?_
   refine RW.ldL H 1 1 (by rfl) (by kernel_rfl) rfl rfl rfl rfl rfl (by kernel_rfl) ?_
   refine RW.val (by rfl) (by kernel_rfl) rfl (by kernel_rfl) ?_
   refine RW.val (by rfl) (by kernel_rfl) rfl (by kernel_rfl) ?_
   refine RW.val (by rfl) (by kernel_rfl) rfl (by kernel_rfl) ?_
   refine RW.ldL H 0 1 (by rfl) (by kernel_rfl) rfl rfl rfl rfl rfl (by kernel_rfl) ?_
   refine RW.len (by rfl) (by kernel_rfl) rfl rfl rfl rfl (hmv.slf.len (e := 48) (by kernel_rfl)) (by kernel_rfl) ?_
   refine RW.val (by rfl) (by kernel_rfl) rfl (by kernel_rfl) ?_
   iterate 2 refine RW.v ?_
   refine RW.nil ?_
   refine W.rg [(0, pp q), (1, .bool x), (18, .bool ((M.length : Int) == 0))] fun TA => ?_
   refine W.cond rfl (fun hc3 => ?_) (fun hc3 => ?_)
   ·have hc3b := hc3
    have hc3 := eq_of_beq hc3
    refine W.seq (W.region ?_)
    refine RW.v ?_
    refine RW.nil ?_
    refine W.ret ?_
    refine blkQ_ret ?_
    refine seqQ_ret ?_
    refine endG (by rfl) (by exact resL_tmp rfl) ?_
    have K := (((H.front 2 rfl).front 2 rfl).front 2 rfl)
    have em : start ⟨on, E, M, ct⟩ x = (13, ⟨on, E, M, ct⟩) := by clear H K; exact (by (unfold start; (repeat' split) <;> first | rfl | (exfalso; omega) | (exfalso; simp_all; done) | (exfalso; simp_all; omega) | (simp_all; done) | (simp_all; omega)))
    rw [em]
    exact ⟨rfl, F, _, _, le0, ⟨vs, hmv, hall⟩, hv, K⟩
   ·have hc3b := hc3
    have hc3 := ne_of_beq_false hc3
    refine W.skip ?_
    refine blkQ_normal ?_
    refine W.seq (W.region ?_)
    iterate 3 refine RW.v ?_
    refine RW.ld H 1 1 ?_
    refine RW.val (v := .agg #[.bool true, .slice none 0 0]) (by kernel_rfl) (by kernel_rfl) (by kernel_rfl) (by kernel_rfl) ?_
    iterate 2 refine RW.v ?_
    refine RW.st H 0 [.bool true, .slice none 0 0] [.bool true, .slice none 0 0, mv, .int .i64 ct] ?_
    clear H; intro _ _ H; dsimp only [setL, delL] at H
    refine RW.nil ?_
    refine W.rg [(0, pp q), (1, .bool x)] fun TA => ?_
    refine W.seq ?_
    refine W.seq (W.region ?_)
    refine RW.v ?_
    refine RW.nil ?_
    refine W.rg [(0, pp q), (39, .bool x)] fun TA => ?_
    refine W.cond (b := true) (congrArg Value.bool hc2b) (fun _ => ?_) (fun h => by cases h)
    refine W.drawn (by kernel_rfl) (by kernel_rfl) H.gn ?_
    have H4 := H
    iterate 3 refine RW.v ?_
    refine RW.ld H4 1 1 ?_
    iterate 3 refine RW.v ?_
    refine RW.ld H4 1 1 ?_
    iterate 3 refine RW.v ?_
    refine RW.ld H4 0 1 ?_
    refine RW.idxF hmv.slf (by kernel_rfl) (by kernel_rfl) rfl Tryz.underlying54 (by kernel_rfl) rfl rfl ⟨by omega, by omega⟩ (by kernel_rfl) ?_
    intro b5 q6 r7 hF8 hE9
    rw [vs_at0 (vs := vs) (by rw [hall.len]; omega)] at hE9
    refine RW.loads 1 (by kernel_rfl) (by kernel_rfl) rfl rfl (H4.old _ _ hF8) hE9 rfl (by kernel_rfl) ?_
    have hz := mac_in hM (i := 0) (by omega)
    refine RW.cl ?_
    refine ((cloneK (hall.get (i := 0) (by omega)) (by omega) (by omega) (ints_one _) H4).mono ?_)
    rintro v10 _ H11
    iterate 3 refine RW.v ?_
    refine RW.stD H11 1 (vs := [v10]) (cs' := [.bool true, v10, mv, .int .i64 ct]) (by kernel_rfl) (by kernel_rfl) rfl rfl rfl (H11.sl 0 rfl).one (gr_all (H11.sl 0 rfl)) (by kernel_rfl) (Nat.le_of_ble_eq_true rfl) rfl (by kernel_rfl) ?_
    intro _ H12
    dsimp only [setL, delL] at H12
    refine RW.nil ?_
    refine ⟨⟨by kernel_rfl, ⟨trivial, trivial, trivial, dyn_row (H4.get 1 rfl) (H12.get 2 rfl) ⟨fun h => Bool.noConfusion h, fun h => Bool.noConfusion h, fun h => Bool.noConfusion h, fun h => Bool.noConfusion h, fun h => Bool.noConfusion h, fun h => Bool.noConfusion h, fun h => Bool.noConfusion h, fun h => Bool.noConfusion h, fun h => Bool.noConfusion h, fun h => Bool.noConfusion h, fun h => Bool.noConfusion h, fun h => Bool.noConfusion h, fun h => Bool.noConfusion h, fun h => Bool.noConfusion h, fun _ => H4.get 1 rfl, fun h => Bool.noConfusion h, fun h => Bool.noConfusion h, fun h => Bool.noConfusion h, fun _ => H11.get 2 rfl, trivial⟩, trivial, trivial, trivial, dyn_row (H4.get 1 rfl) (H12.get 2 rfl) ⟨fun h => Bool.noConfusion h, fun h => Bool.noConfusion h, fun h => Bool.noConfusion h, fun h => Bool.noConfusion h, fun h => Bool.noConfusion h, fun h => Bool.noConfusion h, fun h => Bool.noConfusion h, fun h => Bool.noConfusion h, fun h => Bool.noConfusion h, fun h => Bool.noConfusion h, fun h => Bool.noConfusion h, fun h => Bool.noConfusion h, fun h => Bool.noConfusion h, fun h => Bool.noConfusion h, fun _ => H4.get 1 rfl, fun h => Bool.noConfusion h, fun h => Bool.noConfusion h, fun h => Bool.noConfusion h, fun _ => H11.get 2 rfl, trivial⟩, trivial, trivial, trivial, Or.inl (by kernel_rfl), trivial, dyn_row (H4.old _ _ hF8) (H12.old _ _ hF8) ⟨fun h => Bool.noConfusion h, fun h => Bool.noConfusion h, fun h => Bool.noConfusion h, fun h => Bool.noConfusion h, fun h => Bool.noConfusion h, fun h => Bool.noConfusion h, fun h => Bool.noConfusion h, fun h => Bool.noConfusion h, fun h => Bool.noConfusion h, fun h => Bool.noConfusion h, fun h => Bool.noConfusion h, fun h => Bool.noConfusion h, fun h => Bool.noConfusion h, fun h => Bool.noConfusion h, fun _ => H4.old _ _ hF8, fun h => Bool.noConfusion h, fun h => Bool.noConfusion h, fun h => Bool.noConfusion h, fun _ => H11.old _ _ hF8, trivial⟩, trivial, trivial, trivial, trivial, trivial, trivial⟩⟩, ?_⟩
    replace H := H12
    clear H4 H11 H12
    refine W.rg [] fun TA => ?_
    refine W.seq (W.region ?_)
    refine RW.v ?_
    refine RW.nil ?_
    refine W.ret ?_
    refine endG (by rfl) (by exact resL_tmp rfl) ?_
    have K := (((H.del 3).front 2 rfl).front 2 rfl)
    have em : start ⟨on, E, M, ct⟩ x = (0, ⟨true, M.getD 0 [], M, ct⟩) := by clear H K; exact (by (unfold start; (repeat' split) <;> first | rfl | (exfalso; omega) | (exfalso; simp_all; done) | (exfalso; simp_all; omega) | (simp_all; done) | (simp_all; omega)))
    rw [em]
    exact ⟨rfl, F, _, _, le0, ⟨vs, hmv, hall⟩, (fun (h : (M.getD 0 []).length = 0) => by first | (exfalso; omega) | (exfalso; simp at h; done)), K⟩
  ·have hc2b := hc2
   refine RW.skip (by rfl) (by kernel_rfl) ?_
   refine RW.skip (by rfl) (by kernel_rfl) ?_
   refine RW.skip (by rfl) (by kernel_rfl) ?_
   refine RW.skip (by rfl) (by kernel_rfl) ?_
   refine RW.skip (by rfl) (by kernel_rfl) ?_
   refine RW.skip (by rfl) (by kernel_rfl) ?_
   refine RW.skip (by rfl) (by kernel_rfl) ?_
   refine RW.skip (by rfl) (by kernel_rfl) ?_
   refine RW.skip (by rfl) (by kernel_rfl) ?_
   refine RW.skip (by rfl) (by kernel_rfl) ?_
   iterate 2 refine RW.v ?_
   refine RW.nil ?_
   refine W.c0 ?_
   refine W.skip ?_
   refine blkQ_normal ?_
   refine W.seq (W.region ?_)
   iterate 3 refine RW.v ?_
   refine RW.ld H 1 1 ?_
   refine RW.val (v := .agg #[.bool true, .slice none 0 0]) (by kernel_rfl) (by kernel_rfl) (by kernel_rfl) (by kernel_rfl) ?_
   iterate 2 refine RW.v ?_
   refine RW.st H 0 [.bool true, .slice none 0 0] [.bool true, .slice none 0 0, mv, .int .i64 ct] ?_
   clear H; intro _ _ H; dsimp only [setL, delL] at H
   refine RW.nil ?_
   refine W.rg [(0, pp q), (1, .bool x)] fun TA => ?_
   refine W.seq ?_
   refine W.seq (W.region ?_)
   refine RW.v ?_
   refine RW.nil ?_
   refine W.rg [(0, pp q), (39, .bool x)] fun TA => ?_
   refine W.cond (b := false) (congrArg Value.bool hc2b) (fun h => by cases h) (fun _ => ?_)
   refine W.skip ?_
   refine W.seq (W.region ?_)
   refine RW.v ?_
   refine RW.nil ?_
   refine W.ret ?_
   refine endG (by rfl) (by exact resL_tmp rfl) ?_
   replace H := H.nilSl 3 1
   have K := (((H.del 3).front 2 rfl).front 2 rfl)
   have em : start ⟨on, E, M, ct⟩ x = (0, ⟨true, [], M, ct⟩) := by clear H K; exact (by (unfold start; (repeat' split) <;> first | rfl | (exfalso; omega) | (exfalso; simp_all; done) | (exfalso; simp_all; omega) | (simp_all; done) | (simp_all; omega)))
   rw [em]
   exact ⟨rfl, F, _, _, le0, ⟨vs, hmv, hall⟩, (fun _ => rfl), K⟩
set_option maxHeartbeats 4000000 in
theorem p_record {x : Bool} {n d : Int}  (hM : ∀ x ∈ M, 0 < x.length ∧ x.length ≤ 10000) (hl : M.length ≤ 20) (hE : E.length ≤ 10000) (hm : MacF F mv M) (hv : E.length = 0 → ev = .slice none 0 0) (H : Lies G A F σ (PE q r ev mv ⟨on, E, M, ct⟩ ++ L)) : WC G Tryz.prog 15 #[.pointer (some ⟨q, 0, none⟩), .int .i64 n] σ fun v σ' => v = .int .i64 (record ⟨on, E, M, ct⟩ n).1 ∧ ∃ F' ev' mv', Le F F' ∧ MacF F' mv' (record ⟨on, E, M, ct⟩ n).2.M ∧ ((record ⟨on, E, M, ct⟩ n).2.E.length = 0 → ev' = .slice none 0 0) ∧ Lies G A F' σ' (PE q r ev' mv' (record ⟨on, E, M, ct⟩ n).2 ++ L) := by
 obtain ⟨vs, hmv, hall⟩ := hm
 have le0 : Le F F := fun _ _ h => h
 replace H : Lies G A F σ (.at_ r (.row ⟨[.bool on, ev, mv, .int .i64 ct], 90, false⟩) :: .at_ q (.row ⟨[.pointer (some ⟨r, 0, none⟩)], 92, false⟩) :: .sl 3 1 ev E.length (E.map (Value.int .i64)) :: (L)) := H
 refine WC.enter (fn := Tryz.f15) Tryz.func15 rfl ?_
 refine W.rg [(0, pp q), (1, .int .i64 n)] fun TA => ?_
 refine W.seq (W.region ?_)
 refine RW.v ?_
 refine RW.nil ?_
 refine W.rg [(0, pp q), (1, .int .i64 n)] fun TA => ?_
 refine W.seq ?_
 refine W.seq (W.region ?_)
 refine RW.v ?_
 refine RW.cl ?_
 refine WC.enter (fn := Tryz.f42) Tryz.func42 rfl ?_
 refine W.rg [(0, pp q)] fun TA => ?_
 refine W.seq (W.region ?_)
 refine RW.v ?_
 refine RW.nil ?_
 refine W.rg [(0, pp q)] fun TA => ?_
 refine W.seq (W.region ?_)
 iterate 3 refine RW.v ?_
 refine RW.val (by rfl) (by kernel_rfl) rfl (by kernel_rfl) ?_
 refine RW.val (by rfl) (by kernel_rfl) rfl (by kernel_rfl) ?_
 refine RW.val (by rfl) (by kernel_rfl) rfl (by kernel_rfl) ?_
 refine RW.ldL H 1 1 (by rfl) (by kernel_rfl) rfl rfl rfl rfl rfl (by kernel_rfl) ?_
 refine RW.val (by rfl) (by kernel_rfl) rfl (by kernel_rfl) ?_
 iterate 2 refine RW.v ?_
 refine RW.nil ?_
 refine W.ret ?_
 refine endG (by rfl) (by exact resL_tmp rfl) ?_
 refine RW.v ?_
 refine RW.nil ?_
 refine W.c0 ?_
 refine W.skip ?_
 refine W.seq (W.region ?_)
 iterate 3 refine RW.v ?_
 refine RW.ld H 1 1 ?_
 iterate 3 refine RW.v ?_
 refine RW.cl ?_
 refine WC.enter (fn := Tryz.f47) Tryz.func47 rfl ?_
 refine W.rg [(0, pp r), (1, .int .i64 n)] fun TA => ?_
 refine W.seq (W.region ?_)
 refine RW.v ?_
 refine RW.nil ?_
 refine W.rg [(0, pp r), (1, .int .i64 n)] fun TA => ?_
 refine W.seq ?_
 refine W.block ?_
 refine W.seq (W.region ?_)
 iterate 3 refine RW.v ?_
 refine RW.ld H 0 1 ?_
 iterate 2 refine RW.v ?_
 refine RW.nil ?_
 refine W.rg [(0, pp r), (1, .int .i64 n), (5, .bool (!on))] fun TA => ?_
 refine W.cond rfl (fun hc1 => ?_) (fun hc1 => ?_)
 ·have hc1b := hc1
  refine W.seq (W.region ?_)
  refine RW.v ?_
  refine RW.nil ?_
  refine W.ret ?_
  refine blkQ_ret ?_
  refine seqQ_ret ?_
  refine endG (by rfl) (by exact resL_tmp rfl) ?_
  refine RW.v ?_
  refine RW.nil ?_
  refine W.ret ?_
  refine endG (by rfl) (by exact resL_tmp rfl) ?_
  have K := (((H.front 2 rfl).front 2 rfl).front 2 rfl)
  have em : record ⟨on, E, M, ct⟩ n = (9, ⟨on, E, M, ct⟩) := by clear H K; exact (by (unfold record; (repeat' split) <;> first | rfl | (exfalso; omega) | (exfalso; simp_all; done) | (exfalso; simp_all; omega) | (simp_all; done) | (simp_all; omega)))
  rw [em]
  exact ⟨rfl, F, _, _, le0, ⟨vs, hmv, hall⟩, hv, K⟩
 ·have hc1b := hc1
  refine W.seq (W.region ?_)
  iterate 3 refine RW.v ?_
  refine RW.ld H 0 1 ?_
  refine RW.len (by kernel_rfl) (by kernel_rfl) rfl rfl rfl rfl ((H.sl 2 rfl).len (by kernel_rfl)) (by kernel_rfl) ?_
  iterate 2 refine RW.v ?_
  refine RW.nil ?_
  refine W.rg [(0, pp r), (1, .int .i64 n), (11, .bool (((E.length : Nat) : Int) == 10000))] fun TA => ?_
  refine W.cond rfl (fun hc2 => ?_) (fun hc2 => ?_)
  ·have hc2b := hc2
   have hc2 := eq_of_beq hc2
   refine W.seq (W.region ?_)
   refine RW.v ?_
   refine RW.nil ?_
   refine W.ret ?_
   refine blkQ_ret ?_
   refine seqQ_ret ?_
   refine endG (by rfl) (by exact resL_tmp rfl) ?_
   refine RW.v ?_
   refine RW.nil ?_
   refine W.ret ?_
   refine endG (by rfl) (by exact resL_tmp rfl) ?_
   have K := (((H.front 2 rfl).front 2 rfl).front 2 rfl)
   have em : record ⟨on, E, M, ct⟩ n = (4, ⟨on, E, M, ct⟩) := by clear H K; exact (by (unfold record; (repeat' split) <;> first | rfl | (exfalso; omega) | (exfalso; simp_all; done) | (exfalso; simp_all; omega) | (simp_all; done) | (simp_all; omega)))
   rw [em]
   exact ⟨rfl, F, _, _, le0, ⟨vs, hmv, hall⟩, hv, K⟩
  ·have hc2b := hc2
   have hc2 := ne_of_beq_false hc2
   refine W.skip ?_
   refine blkQ_normal ?_
   refine W.seq (W.region ?_)
   iterate 4 refine RW.v ?_
   refine RW.ld H 0 1 ?_
   refine RW.v ?_
   refine RW.mkL H (x := .row ⟨[.int .i64 n], 3, false⟩) (fm := fun b => .slice (some ⟨b, 0, none⟩) 1 1) (by kernel_rfl) (by kernel_rfl) (by kernel_rfl) (by kernel_rfl) ?_
   clear H; intro _ b3 _ H
   refine RW.appL H 3 0 (n := 1) (e2 := 3) (by kernel_rfl) (by kernel_rfl) rfl rfl rfl rfl rfl rfl rfl rfl (by kernel_rfl) (by kernel_rfl) (by kernel_rfl) (by decide) (by decide) rfl rfl (by omega) (by kernel_rfl) ?_
   clear H; intro _ v4 _ H
   dsimp only [setL, delL] at H
   iterate 2 refine RW.v ?_
   refine RW.stL H 0 (vs := [v4]) (cs' := [.bool on, v4, mv, .int .i64 ct]) (by kernel_rfl) (by kernel_rfl) rfl rfl rfl (H.sl 2 rfl).one (gr_all (H.sl 2 rfl)) (by kernel_rfl) (Nat.le_of_ble_eq_true rfl) rfl (by kernel_rfl) ?_
   clear H; intro _ _ H; dsimp only [setL, delL] at H
   refine RW.nil ?_
   refine W.rg [] fun TA => ?_
   refine W.seq (W.region ?_)
   refine RW.v ?_
   refine RW.nil ?_
   refine W.ret ?_
   refine endG (by rfl) (by exact resL_tmp rfl) ?_
   refine RW.v ?_
   refine RW.nil ?_
   refine W.ret ?_
   refine endG (by rfl) (by exact resL_tmp rfl) ?_
   rw [← snocI, show E.length + 1 = (E ++ [n]).length from (by simp)] at H
   have K := (((H.front 2 rfl).front 2 rfl).front 2 rfl)
   have em : record ⟨on, E, M, ct⟩ n = (0, ⟨on, E ++ [n], M, ct⟩) := by clear H K; exact (by (unfold record; (repeat' split) <;> first | rfl | (exfalso; omega) | (exfalso; simp_all; done) | (exfalso; simp_all; omega) | (simp_all; done) | (simp_all; omega)))
   rw [em]
   exact ⟨rfl, F, _, _, le0, ⟨vs, hmv, hall⟩, (fun (h : (E ++ [n]).length = 0) => by first | (exfalso; omega) | (exfalso; simp at h; done)), K⟩
end
end Go.Proofs.YthemeeiedlbhkaaGreatDoor
namespace Go.Proofs.YthemeeiedlbhkaaGreatDoor
set_option maxRecDepth 100000
section
variable {G : Nat} {A : Abs} {σ : Mem} {F : Nat → Option Blk2} {L : List Ent} {q r : Nat} {ev mv : Value} {on : Bool} {E : List Int} {M : List (List Int)} {ct : Int}
set_option maxHeartbeats 4000000 in
theorem p_stop {x : Bool} {n d : Int}  (hM : ∀ x ∈ M, 0 < x.length ∧ x.length ≤ 10000) (hl : M.length ≤ 20) (hE : E.length ≤ 10000) (hm : MacF F mv M) (hv : E.length = 0 → ev = .slice none 0 0) (H : Lies G A F σ (PE q r ev mv ⟨on, E, M, ct⟩ ++ L)) : WC G Tryz.prog 16 #[.pointer (some ⟨q, 0, none⟩), .int .i64 d] σ fun v σ' => v = .int .i64 (stop ⟨on, E, M, ct⟩ d).1 ∧ ∃ F' ev' mv', Le F F' ∧ MacF F' mv' (stop ⟨on, E, M, ct⟩ d).2.M ∧ ((stop ⟨on, E, M, ct⟩ d).2.E.length = 0 → ev' = .slice none 0 0) ∧ Lies G A F' σ' (PE q r ev' mv' (stop ⟨on, E, M, ct⟩ d).2 ++ L) := by
 obtain ⟨vs, hmv, hall⟩ := hm
 have le0 : Le F F := fun _ _ h => h
 replace H : Lies G A F σ (.at_ r (.row ⟨[.bool on, ev, mv, .int .i64 ct], 90, false⟩) :: .at_ q (.row ⟨[.pointer (some ⟨r, 0, none⟩)], 92, false⟩) :: .sl 3 1 ev E.length (E.map (Value.int .i64)) :: (L)) := H
 refine WC.enter (fn := Tryz.f16) Tryz.func16 rfl ?_
 refine W.rg [(0, pp q), (1, .int .i64 d)] fun TA => ?_
 refine W.seq (W.region ?_)
 refine RW.v ?_
 refine RW.nil ?_
 refine W.rg [(0, pp q), (1, .int .i64 d)] fun TA => ?_
 refine W.seq ?_
 refine W.block ?_
 refine W.seq (W.region ?_)
 refine RW.v ?_
 refine RW.cl ?_
 refine WC.enter (fn := Tryz.f42) Tryz.func42 rfl ?_
 refine W.rg [(0, pp q)] fun TA => ?_
 refine W.seq (W.region ?_)
 refine RW.v ?_
 refine RW.nil ?_
 refine W.rg [(0, pp q)] fun TA => ?_
 refine W.seq (W.region ?_)
 iterate 3 refine RW.v ?_
 refine RW.val (by rfl) (by kernel_rfl) rfl (by kernel_rfl) ?_
 refine RW.val (by rfl) (by kernel_rfl) rfl (by kernel_rfl) ?_
 refine RW.val (by rfl) (by kernel_rfl) rfl (by kernel_rfl) ?_
 refine RW.ldL H 1 1 (by rfl) (by kernel_rfl) rfl rfl rfl rfl rfl (by kernel_rfl) ?_
 refine RW.val (by rfl) (by kernel_rfl) rfl (by kernel_rfl) ?_
 iterate 2 refine RW.v ?_
 refine RW.nil ?_
 refine W.ret ?_
 refine endG (by rfl) (by exact resL_tmp rfl) ?_
 iterate 2 refine RW.v ?_
 refine RW.nil ?_
 refine W.c0 ?_
 refine W.seq (W.region ?_)
 iterate 3 refine RW.v ?_
 refine RW.ld H 1 1 ?_
 iterate 3 refine RW.v ?_
 refine RW.ld H 0 1 ?_
 iterate 2 refine RW.v ?_
 refine RW.nil ?_
 refine W.rg [(0, pp q), (1, .int .i64 d), (10, .bool (!on))] fun TA => ?_
 refine W.cond rfl (fun hc1 => ?_) (fun hc1 => ?_)
 ·have hc1b := hc1
  refine W.seq (W.region ?_)
  refine RW.v ?_
  refine RW.nil ?_
  refine W.ret ?_
  refine blkQ_ret ?_
  refine seqQ_ret ?_
  refine endG (by rfl) (by exact resL_tmp rfl) ?_
  have K := (((H.front 2 rfl).front 2 rfl).front 2 rfl)
  have em : stop ⟨on, E, M, ct⟩ d = (9, ⟨on, E, M, ct⟩) := by clear H K; exact (by (unfold stop; (repeat' split) <;> first | rfl | (exfalso; omega) | (exfalso; simp_all; done) | (exfalso; simp_all; omega) | (simp_all; done) | (simp_all; omega)))
  rw [em]
  exact ⟨rfl, F, _, _, le0, ⟨vs, hmv, hall⟩, hv, K⟩
 ·have hc1b := hc1
  refine W.seq (W.region ?_)
  iterate 3 refine RW.v ?_
  refine RW.both _ _ rfl rfl rfl (fun hc2 => ?_) (fun hc2 => ?_)
  ·have hc2b := hc2
   have hc2 := of_decide_eq_true hc2
   refine RW.skip (by rfl) (by kernel_rfl) ?_
   refine RW.skip (by rfl) (by kernel_rfl) ?_
   refine RW.skip (by rfl) (by kernel_rfl) ?_
   refine RW.skip (by rfl) (by kernel_rfl) ?_
   refine RW.skip (by rfl) (by kernel_rfl) ?_
   refine RW.skip (by rfl) (by kernel_rfl) ?_
   refine RW.skip (by rfl) (by kernel_rfl) ?_
   refine RW.skip (by rfl) (by kernel_rfl) ?_
   refine RW.skip (by rfl) (by kernel_rfl) ?_
   refine RW.skip (by rfl) (by kernel_rfl) ?_
   refine RW.skip (by rfl) (by kernel_rfl) ?_
   iterate 2 refine RW.v ?_
   refine RW.nil ?_
   refine W.c1 ?_
   refine W.seq (W.region ?_)
   refine RW.v ?_
   refine RW.nil ?_
   refine W.ret ?_
   refine blkQ_ret ?_
   refine seqQ_ret ?_
   refine endG (by rfl) (by exact resL_tmp rfl) ?_
   have K := (((H.front 2 rfl).front 2 rfl).front 2 rfl)
   have em : stop ⟨on, E, M, ct⟩ d = (3, ⟨on, E, M, ct⟩) := by clear H K; exact (by (unfold stop; (repeat' split) <;> first | rfl | (exfalso; omega) | (exfalso; simp_all; done) | (exfalso; simp_all; omega) | (simp_all; done) | (simp_all; omega)))
   rw [em]
   exact ⟨rfl, F, _, _, le0, ⟨vs, hmv, hall⟩, hv, K⟩
  ·have hc2b := hc2
   have hc2 := of_decide_eq_false hc2
   refine RW.val (by rfl) (by kernel_rfl) rfl (by kernel_rfl) ?_
   refine RW.val (by rfl) (by kernel_rfl) rfl (by kernel_rfl) ?_
   refine RW.val (by rfl) (by kernel_rfl) rfl (by kernel_rfl) ?_
   refine RW.val (by rfl) (by kernel_rfl) rfl (by kernel_rfl) ?_
   refine RW.ldL H 1 1 (by rfl) (by kernel_rfl) rfl rfl rfl rfl rfl (by kernel_rfl) ?_
   refine RW.val (by rfl) (by kernel_rfl) rfl (by kernel_rfl) ?_
   refine RW.val (by rfl) (by kernel_rfl) rfl (by kernel_rfl) ?_
   refine RW.val (by rfl) (by kernel_rfl) rfl (by kernel_rfl) ?_
   refine RW.ldL H 0 1 (by rfl) (by kernel_rfl) rfl rfl rfl rfl rfl (by kernel_rfl) ?_
   refine RW.len (by rfl) (by kernel_rfl) rfl rfl rfl rfl ((H.sl 2 rfl).len (by kernel_rfl)) (by kernel_rfl) ?_
   refine RW.val (by rfl) (by kernel_rfl) rfl (by kernel_rfl) ?_
   iterate 2 refine RW.v ?_
   refine RW.nil ?_
   refine W.rg [(0, pp q), (1, .int .i64 d), (20, .bool (decide (d > ((E.length : Nat) : Int))))] fun TA => ?_
   refine W.cond rfl (fun hc3 => ?_) (fun hc3 => ?_)
   ·have hc3b := hc3
    have hc3 := of_decide_eq_true hc3
    refine W.seq (W.region ?_)
    refine RW.v ?_
    refine RW.nil ?_
    refine W.ret ?_
    refine blkQ_ret ?_
    refine seqQ_ret ?_
    refine endG (by rfl) (by exact resL_tmp rfl) ?_
    have K := (((H.front 2 rfl).front 2 rfl).front 2 rfl)
    have em : stop ⟨on, E, M, ct⟩ d = (3, ⟨on, E, M, ct⟩) := by clear H K; exact (by (unfold stop; (repeat' split) <;> first | rfl | (exfalso; omega) | (exfalso; simp_all; done) | (exfalso; simp_all; omega) | (simp_all; done) | (simp_all; omega)))
    rw [em]
    exact ⟨rfl, F, _, _, le0, ⟨vs, hmv, hall⟩, hv, K⟩
   ·have hc3b := hc3
    have hc3 := of_decide_eq_false hc3
    have hd2 : d ≤ (E.length : Int) := by omega
    obtain ⟨F, le, hev, H⟩ := H.freezeK 2 rfl
    dsimp only [setL, delL] at H
    replace le0 := fun b y h => le b y (le0 b y h)
    replace hmv := hmv.le le
    replace hall := hall.le le
    refine W.skip ?_
    refine blkQ_normal ?_
    refine W.seq ?_
    refine W.seq ?_
    refine W.drawn (by kernel_rfl) (by kernel_rfl) H.gn ?_
    have H4 := H
    iterate 3 refine RW.v ?_
    refine RW.ld H4 1 1 ?_
    iterate 3 refine RW.v ?_
    refine RW.ld H4 0 1 ?_
    iterate 3 refine RW.v ?_
    refine RW.ld H4 1 1 ?_
    iterate 3 refine RW.v ?_
    refine RW.ld H4 0 1 ?_
    refine RW.len (by kernel_rfl) (by kernel_rfl) rfl rfl rfl rfl (hev.slf.len (e := 3) (by kernel_rfl)) (by kernel_rfl) ?_
    refine RW.v ?_
    refine RW.valE (v' := .int .i64 ((E.length : Int) - d)) (by kernel_rfl) (by kernel_rfl) rfl (congrArg (Value.int .i64) (wrap_in (by omega) (by omega))) (by kernel_rfl) ?_
    obtain ⟨sv5, hv6, hk7⟩ := slk_cut (P := Tryz.prog) (t := 48) (e := 3) (i := ((E.length : Int) - d).toNat) hev (by kernel_rfl) (by kernel_rfl) (by omega)
    rw [show ((((E.length : Int) - d).toNat : Nat) : Int) = (E.length : Int) - d from by omega] at hv6
    rw [Nat.mul_one] at hk7
    refine RW.vop (v := sv5) (by kernel_rfl) (by kernel_rfl) (vop_slice rfl hv6) (by kernel_rfl) ?_
    refine RW.v ?_
    refine RW.nil ?_
    refine ⟨⟨by kernel_rfl, ⟨trivial, trivial, trivial, dyn_row (H4.get 1 rfl) (H4.get 1 rfl) ⟨fun h => Bool.noConfusion h, fun h => Bool.noConfusion h, fun h => Bool.noConfusion h, fun h => Bool.noConfusion h, fun h => Bool.noConfusion h, fun h => Bool.noConfusion h, fun h => Bool.noConfusion h, fun h => Bool.noConfusion h, fun h => Bool.noConfusion h, fun h => Bool.noConfusion h, fun h => Bool.noConfusion h, fun h => Bool.noConfusion h, fun h => Bool.noConfusion h, fun h => Bool.noConfusion h, fun h => Bool.noConfusion h, fun h => Bool.noConfusion h, fun h => Bool.noConfusion h, fun h => Bool.noConfusion h, fun h => Bool.noConfusion h, fun h => Bool.noConfusion h, fun h => Bool.noConfusion h, trivial⟩, trivial, trivial, trivial, dyn_row (H4.get 0 rfl) (H4.get 0 rfl) ⟨fun h => Bool.noConfusion h, fun h => Bool.noConfusion h, fun h => Bool.noConfusion h, fun h => Bool.noConfusion h, fun h => Bool.noConfusion h, fun h => Bool.noConfusion h, fun h => Bool.noConfusion h, fun h => Bool.noConfusion h, fun h => Bool.noConfusion h, fun h => Bool.noConfusion h, fun h => Bool.noConfusion h, fun h => Bool.noConfusion h, fun h => Bool.noConfusion h, fun h => Bool.noConfusion h, fun h => Bool.noConfusion h, fun h => Bool.noConfusion h, fun h => Bool.noConfusion h, fun h => Bool.noConfusion h, fun h => Bool.noConfusion h, fun h => Bool.noConfusion h, fun h => Bool.noConfusion h, trivial⟩, trivial, trivial, trivial, dyn_row (H4.get 1 rfl) (H4.get 1 rfl) ⟨fun h => Bool.noConfusion h, fun h => Bool.noConfusion h, fun h => Bool.noConfusion h, fun h => Bool.noConfusion h, fun h => Bool.noConfusion h, fun h => Bool.noConfusion h, fun h => Bool.noConfusion h, fun h => Bool.noConfusion h, fun h => Bool.noConfusion h, fun h => Bool.noConfusion h, fun h => Bool.noConfusion h, fun h => Bool.noConfusion h, fun h => Bool.noConfusion h, fun h => Bool.noConfusion h, fun h => Bool.noConfusion h, fun h => Bool.noConfusion h, fun h => Bool.noConfusion h, fun h => Bool.noConfusion h, fun h => Bool.noConfusion h, fun h => Bool.noConfusion h, fun h => Bool.noConfusion h, trivial⟩, trivial, trivial, trivial, dyn_row (H4.get 0 rfl) (H4.get 0 rfl) ⟨fun h => Bool.noConfusion h, fun h => Bool.noConfusion h, fun h => Bool.noConfusion h, fun h => Bool.noConfusion h, fun h => Bool.noConfusion h, fun h => Bool.noConfusion h, fun h => Bool.noConfusion h, fun h => Bool.noConfusion h, fun h => Bool.noConfusion h, fun h => Bool.noConfusion h, fun h => Bool.noConfusion h, fun h => Bool.noConfusion h, fun h => Bool.noConfusion h, fun h => Bool.noConfusion h, fun h => Bool.noConfusion h, fun h => Bool.noConfusion h, fun h => Bool.noConfusion h, fun h => Bool.noConfusion h, fun h => Bool.noConfusion h, fun h => Bool.noConfusion h, fun h => Bool.noConfusion h, trivial⟩, trivial, trivial, trivial, trivial, trivial, trivial⟩⟩, ?_⟩
    replace H := H4
    clear H4
    refine W.rg [(0, pp q), (5, sv5)] fun TA => ?_
    refine W.seq (W.region ?_)
    refine RW.v ?_
    refine RW.len (by kernel_rfl) (by kernel_rfl) rfl rfl rfl rfl (hk7.slf.len (e := 3) (by kernel_rfl)) (by kernel_rfl) ?_
    refine RW.v ?_
    refine RW.nil ?_
    refine W.rg [(0, pp q), (5, sv5), (58, .bool (decide ((((E.length : Int) - d).toNat : Int) > 0)))] fun TA => ?_
    refine W.cond rfl (fun hc8 => ?_) (fun hc8 => ?_)
    ·have hc8b := hc8
     have hc8 := of_decide_eq_true hc8
     refine W.drawn (by kernel_rfl) (by kernel_rfl) H.gn ?_
     have H9 := H
     iterate 3 refine RW.v ?_
     refine RW.ld H9 1 1 ?_
     iterate 3 refine RW.v ?_
     refine RW.cl ?_
     refine ((cloneK hk7 (by omega) (by omega) ((all_take (((E.length : Int) - d).toNat) (ints_one _))) H9).mono ?_)
     rintro v10 _ H11
     obtain ⟨F, le, hcv, H12⟩ := H11.freezeK 0 rfl
     dsimp only [setL, delL] at H12
     replace le0 := fun b y h => le b y (le0 b y h)
     replace hmv := hmv.le le
     replace hall := hall.le le
     replace hev := hev.le le
     replace hk7 := hk7.le le
     refine RW.cl ?_
     refine WC.enter (fn := Tryz.f48) Tryz.func48 rfl ?_
     replace H := H12
     refine W.rg [(0, .pointer (some ⟨r, 2, none⟩)), (1, v10)] fun TA => ?_
     refine W.seq (W.region ?_)
     iterate 2 refine RW.v ?_
     refine RW.mkL H (x := .row ⟨[v10], 48, false⟩) (fm := fun b => .slice (some ⟨b, 0, none⟩) 1 1) (by kernel_rfl) (by kernel_rfl) (by rcases slf_forms hcv.slf with rfl | ⟨_, rfl⟩ | ⟨_, _, _, _, _, rfl⟩ <;> kernel_rfl) (by kernel_rfl) ?_
     clear H; intro _ b13 _ H
     iterate 3 refine RW.v ?_
     refine RW.ld H 1 1 ?_
     refine RW.mkL H (x := .row ⟨[.slice (some ⟨b13, 0, none⟩) 1 1, mv], 54, false⟩) (fm := fun b => .slice (some ⟨b, 0, none⟩) 2 2) (by kernel_rfl) (by kernel_rfl) (by rcases slf_forms hmv.slf with rfl | ⟨_, rfl⟩ | ⟨_, _, _, _, _, rfl⟩ <;> kernel_rfl) (by kernel_rfl) ?_
     clear H; intro _ b14 _ H
     obtain ⟨F, le, hb2, H⟩ := H.freeze 0 rfl
     dsimp only [setL, delL] at H
     replace le0 := fun b y h => le b y (le0 b y h)
     replace hmv := hmv.le le
     replace hall := hall.le le
     replace hev := hev.le le
     replace hk7 := hk7.le le
     replace hcv := hcv.le le
     obtain ⟨F, le, hf1, H⟩ := H.freeze 0 rfl
     dsimp only [setL, delL] at H
     replace le0 := fun b y h => le b y (le0 b y h)
     replace hmv := hmv.le le
     replace hall := hall.le le
     replace hev := hev.le le
     replace hk7 := hk7.le le
     replace hcv := hcv.le le
     replace hb2 := le _ _ hb2
     refine RW.cl ?_
     refine ((concat2 (show SlF F 1 _ 1 [v10] from .some hf1 rfl rfl) hmv.slf (slf_all hcv.slf) hall.ones hb2 (by omega) (by omega) H).mono ?_)
     clear H
     rintro rc _ H
     obtain ⟨F, le, hrc, H⟩ := H.freezeK 0 rfl
     dsimp only [setL, delL] at H
     replace le0 := fun b y h => le b y (le0 b y h)
     replace hmv := hmv.le le
     replace hall := hall.le le
     replace hev := hev.le le
     replace hk7 := hk7.le le
     replace hcv := hcv.le le
     replace hb2 := le _ _ hb2
     replace hf1 := le _ _ hf1
     iterate 2 refine RW.v ?_
     refine RW.stL H 0 (vs := [rc]) (cs' := [.bool on, ev, rc, .int .i64 ct]) (by kernel_rfl) (by kernel_rfl) rfl rfl rfl (slf_one hrc.slf) (slf_all hrc.slf) (by kernel_rfl) (Nat.le_of_ble_eq_true rfl) rfl (by kernel_rfl) ?_
     clear H; intro _ _ H; dsimp only [setL, delL] at H
     refine RW.nil ?_
     refine W.rg [(0, .pointer (some ⟨r, 2, none⟩))] fun TA => ?_
     refine W.drawn (by kernel_rfl) (by kernel_rfl) H.gn ?_
     have H15 := H
     iterate 4 refine RW.v ?_
     refine RW.ld H15 0 1 ?_
     iterate 3 refine RW.v ?_
     refine RW.ld H15 0 1 ?_
     refine RW.len (by kernel_rfl) (by kernel_rfl) rfl rfl rfl rfl (hrc.slf.len (e := 48) (by kernel_rfl)) (by kernel_rfl) ?_
     refine RW.vop (v := .int .i64 (min ((1 + M.length) : Int) 20)) (by kernel_rfl) (by kernel_rfl) (vop_min rfl rfl rfl rfl rfl) (by kernel_rfl) ?_
     iterate 3 refine RW.v ?_
     refine RW.ld H15 0 1 ?_
     refine RW.len (by kernel_rfl) (by kernel_rfl) rfl rfl rfl rfl (hrc.slf.len (e := 48) (by kernel_rfl)) (by kernel_rfl) ?_
     refine RW.vop (v := .int .i64 (min ((1 + M.length) : Int) 20)) (by kernel_rfl) (by kernel_rfl) (vop_min rfl rfl rfl rfl rfl) (by kernel_rfl) ?_
     obtain ⟨sv16, hv17, hk18⟩ := slk_cut3 (P := Tryz.prog) (t := 54) (e := 48) (i := (min ((1 + M.length) : Int) 20).toNat) hrc (by kernel_rfl) (by kernel_rfl) (by omega) (by omega) (by omega)
     rw [show (((min ((1 + M.length) : Int) 20).toNat : Nat) : Int) = min ((1 + M.length) : Int) 20 from by omega] at hv17
     rw [Nat.mul_one] at hk18
     refine RW.vop (v := sv16) (by kernel_rfl) (by kernel_rfl) (vop_slice3 rfl hv17) (by kernel_rfl) ?_
     iterate 2 refine RW.v ?_
     refine RW.stD H15 0 (vs := [sv16]) (cs' := [.bool on, ev, sv16, .int .i64 ct]) (by kernel_rfl) (by kernel_rfl) rfl rfl rfl (slf_one hk18.slf) (slf_all hk18.slf) (by kernel_rfl) (Nat.le_of_ble_eq_true rfl) rfl (by kernel_rfl) ?_
     intro _ H19
     dsimp only [setL, delL] at H19
     refine RW.nil ?_
     refine ⟨⟨by kernel_rfl, ⟨trivial, trivial, trivial, trivial, Or.inl (by kernel_rfl), trivial, trivial, trivial, Or.inl (by kernel_rfl), trivial, trivial, trivial, trivial, trivial, Or.inl (by kernel_rfl), trivial, trivial, trivial, trivial, trivial, trivial, trivial⟩⟩, ?_⟩
     replace H := H19
     clear H15 H19
     refine endG (by rfl) (by exact rfl) ?_
     have H20 := H
     refine RW.nil ?_
     refine ⟨⟨by kernel_rfl, ⟨trivial, trivial, trivial, dyn_row (H9.get 1 rfl) (H20.get 1 rfl) ⟨fun h => Bool.noConfusion h, fun h => Bool.noConfusion h, fun h => Bool.noConfusion h, fun h => Bool.noConfusion h, fun h => Bool.noConfusion h, fun h => Bool.noConfusion h, fun h => Bool.noConfusion h, fun _ => H9.get 1 rfl, fun _ => H12.get 1 rfl, trivial⟩, trivial, trivial, trivial, trivial, trivial, trivial⟩⟩, ?_⟩
     replace H := H20
     clear H9 H12 H20
     refine W.rg [(0, pp q)] fun TA => ?_
     refine W.seq (W.region ?_)
     iterate 3 refine RW.v ?_
     refine RW.ld H 1 1 ?_
     refine RW.val (v := .agg #[.bool false, .slice none 0 0]) (by kernel_rfl) (by kernel_rfl) (by kernel_rfl) (by kernel_rfl) ?_
     iterate 2 refine RW.v ?_
     refine RW.st H 0 [.bool false, .slice none 0 0] [.bool false, .slice none 0 0, sv16, .int .i64 ct] ?_
     clear H; intro _ _ H; dsimp only [setL, delL] at H
     refine RW.nil ?_
     refine W.rg [] fun TA => ?_
     refine W.seq (W.region ?_)
     refine RW.v ?_
     refine RW.nil ?_
     refine W.ret ?_
     refine endG (by rfl) (by exact resL_tmp rfl) ?_
     have hcl := slk_ints (E := E) (i := ((E.length : Int) - d).toNat) hcv (by omega)
     replace H := H.nilSl 3 1
     have K := ((H.front 2 rfl).front 2 rfl)
     have em : stop ⟨on, E, M, ct⟩ d = (0, ⟨false, [], (E.take ((E.length : Int) - d).toNat :: M).take (min (1 + M.length) 20), ct⟩) := by clear H K; exact (by (unfold stop; (repeat' split) <;> first | rfl | (exfalso; omega) | (exfalso; simp_all; done) | (exfalso; simp_all; omega) | (simp_all; done) | (simp_all; omega)))
     rw [em]
     exact ⟨rfl, F, _, _, le0, (mac_take (ws := _ :: vs) (N := E.take ((E.length : Int) - d).toNat :: M) hk18 ⟨hcl, hall⟩ (by omega) (by rw [List.length_cons]; omega)), (fun _ => rfl), K⟩
    ·have hc8b := hc8
     have hc8 := of_decide_eq_false hc8
     refine W.skip ?_
     refine W.seq (W.region ?_)
     iterate 3 refine RW.v ?_
     refine RW.ld H 1 1 ?_
     refine RW.val (v := .agg #[.bool false, .slice none 0 0]) (by kernel_rfl) (by kernel_rfl) (by kernel_rfl) (by kernel_rfl) ?_
     iterate 2 refine RW.v ?_
     refine RW.st H 0 [.bool false, .slice none 0 0] [.bool false, .slice none 0 0, mv, .int .i64 ct] ?_
     clear H; intro _ _ H; dsimp only [setL, delL] at H
     refine RW.nil ?_
     refine W.rg [] fun TA => ?_
     refine W.seq (W.region ?_)
     refine RW.v ?_
     refine RW.nil ?_
     refine W.ret ?_
     refine endG (by rfl) (by exact resL_tmp rfl) ?_
     replace H := H.nilSl 3 1
     have K := ((H.front 2 rfl).front 2 rfl)
     have em : stop ⟨on, E, M, ct⟩ d = (0, ⟨false, [], M, ct⟩) := by clear H K; exact (by (unfold stop; (repeat' split) <;> first | rfl | (exfalso; omega) | (exfalso; simp_all; done) | (exfalso; simp_all; omega) | (simp_all; done) | (simp_all; omega)))
     rw [em]
     exact ⟨rfl, F, _, _, le0, ⟨vs, hmv, hall⟩, (fun _ => rfl), K⟩
set_option maxHeartbeats 4000000 in
theorem p_rotate {x : Bool} {n d : Int}  (hM : ∀ x ∈ M, 0 < x.length ∧ x.length ≤ 10000) (hl : M.length ≤ 20) (hE : E.length ≤ 10000) (hm : MacF F mv M) (hv : E.length = 0 → ev = .slice none 0 0) (H : Lies G A F σ (PE q r ev mv ⟨on, E, M, ct⟩ ++ L)) : WC G Tryz.prog 27 #[.pointer (some ⟨q, 0, none⟩), .int .i64 n] σ fun v σ' => v = .int .i64 (rotate ⟨on, E, M, ct⟩ n).1 ∧ ∃ F' ev' mv', Le F F' ∧ MacF F' mv' (rotate ⟨on, E, M, ct⟩ n).2.M ∧ ((rotate ⟨on, E, M, ct⟩ n).2.E.length = 0 → ev' = .slice none 0 0) ∧ Lies G A F' σ' (PE q r ev' mv' (rotate ⟨on, E, M, ct⟩ n).2 ++ L) := by
 obtain ⟨vs, hmv, hall⟩ := hm
 have le0 : Le F F := fun _ _ h => h
 replace H : Lies G A F σ (.at_ r (.row ⟨[.bool on, ev, mv, .int .i64 ct], 90, false⟩) :: .at_ q (.row ⟨[.pointer (some ⟨r, 0, none⟩)], 92, false⟩) :: .sl 3 1 ev E.length (E.map (Value.int .i64)) :: (L)) := H
 refine WC.enter (fn := Tryz.f27) Tryz.func27 rfl ?_
 refine W.rg [(0, pp q), (1, .int .i64 n)] fun TA => ?_
 refine W.seq (W.region ?_)
 refine RW.v ?_
 refine RW.nil ?_
 refine W.rg [(0, pp q), (1, .int .i64 n)] fun TA => ?_
 refine W.seq ?_
 refine W.block ?_
 refine W.seq (W.region ?_)
 refine RW.v ?_
 refine RW.cl ?_
 refine WC.enter (fn := Tryz.f42) Tryz.func42 rfl ?_
 refine W.rg [(0, pp q)] fun TA => ?_
 refine W.seq (W.region ?_)
 refine RW.v ?_
 refine RW.nil ?_
 refine W.rg [(0, pp q)] fun TA => ?_
 refine W.seq (W.region ?_)
 iterate 3 refine RW.v ?_
 refine RW.val (by rfl) (by kernel_rfl) rfl (by kernel_rfl) ?_
 refine RW.val (by rfl) (by kernel_rfl) rfl (by kernel_rfl) ?_
 refine RW.val (by rfl) (by kernel_rfl) rfl (by kernel_rfl) ?_
 refine RW.ldL H 1 1 (by rfl) (by kernel_rfl) rfl rfl rfl rfl rfl (by kernel_rfl) ?_
 refine RW.val (by rfl) (by kernel_rfl) rfl (by kernel_rfl) ?_
 iterate 2 refine RW.v ?_
 refine RW.nil ?_
 refine W.ret ?_
 refine endG (by rfl) (by exact resL_tmp rfl) ?_
 iterate 2 refine RW.v ?_
 refine RW.nil ?_
 refine W.c0 ?_
 refine W.seq (W.region ?_)
 iterate 3 refine RW.v ?_
 refine RW.ld H 1 1 ?_
 iterate 3 refine RW.v ?_
 refine RW.ld H 0 1 ?_
 refine RW.len (by kernel_rfl) (by kernel_rfl) rfl rfl rfl rfl (hmv.slf.len (e := 48) (by kernel_rfl)) (by kernel_rfl) ?_
 iterate 2 refine RW.v ?_
 refine RW.nil ?_
 refine W.rg [(0, pp q), (1, .int .i64 n), (10, .bool ((M.length : Int) == 0))] fun TA => ?_
 refine W.cond rfl (fun hc1 => ?_) (fun hc1 => ?_)
 ·have hc1b := hc1
  have hc1 := eq_of_beq hc1
  refine W.seq (W.region ?_)
  refine RW.v ?_
  refine RW.nil ?_
  refine W.ret ?_
  refine blkQ_ret ?_
  refine seqQ_ret ?_
  refine endG (by rfl) (by exact resL_tmp rfl) ?_
  have K := (((H.front 2 rfl).front 2 rfl).front 2 rfl)
  have em : rotate ⟨on, E, M, ct⟩ n = (13, ⟨on, E, M, ct⟩) := by clear H K; exact (by (unfold rotate; (repeat' split) <;> first | rfl | (exfalso; omega) | (exfalso; simp_all; done) | (exfalso; simp_all; omega) | (simp_all; done) | (simp_all; omega)))
  rw [em]
  exact ⟨rfl, F, _, _, le0, ⟨vs, hmv, hall⟩, hv, K⟩
 ·have hc1b := hc1
  have hc1 := ne_of_beq_false hc1
  refine W.skip ?_
  refine blkQ_normal ?_
  refine W.seq (W.region ?_)
  iterate 3 refine RW.v ?_
  refine RW.ld H 1 1 ?_
  iterate 3 refine RW.v ?_
  refine RW.ld H 0 1 ?_
  refine RW.len (by kernel_rfl) (by kernel_rfl) rfl rfl rfl rfl (hmv.slf.len (e := 48) (by kernel_rfl)) (by kernel_rfl) ?_
  refine RW.v ?_
  refine RW.nil ?_
  refine W.rg [(0, pp q), (1, .int .i64 n), (5, .int .i64 (M.length : Int))] fun TA => ?_
  refine W.seq ?_
  refine W.drawn (by kernel_rfl) (by kernel_rfl) H.gn ?_
  have H2 := H
  iterate 3 refine RW.v ?_
  refine RW.ld H2 1 1 ?_
  iterate 4 refine RW.v ?_
  have hr3 := tmod_in n (show 0 < (M.length : Int) by omega)
  refine RW.vop (v := .int .i64 (Int.tmod n (M.length : Int))) (by kernel_rfl) (by kernel_rfl) (vop_fastBin rfl rfl rfl (rem_fast (by omega))) (by kernel_rfl) ?_
  refine RW.v ?_
  refine RW.valE (v' := .int .i64 ((Int.tmod n (M.length : Int)) + (M.length : Int))) (by kernel_rfl) (by kernel_rfl) rfl (congrArg (Value.int .i64) (wrap_in (by omega) (by omega))) (by kernel_rfl) ?_
  refine RW.v ?_
  have ek : Int.tmod ((Int.tmod n (M.length : Int)) + (M.length : Int)) (M.length : Int) = ((rotN n M.length : Nat) : Int) := rot_is n (by omega)
  have hkl := rotN_lt n (show 0 < M.length by omega)
  refine RW.vop (v := .int .i64 ((rotN n M.length : Nat) : Int)) (by kernel_rfl) (by kernel_rfl) (vop_fastBin rfl rfl rfl ((rem_fast (by omega)).trans (congrArg (fun z => some (Value.int .i64 z)) ek))) (by kernel_rfl) ?_
  refine RW.cl ?_
  refine WC.enter (fn := Tryz.f74) Tryz.func74 rfl ?_
  replace H := H2
  refine W.rg [(0, .pointer (some ⟨r, 2, none⟩)), (1, .int .i64 ((rotN n M.length : Nat) : Int))] fun TA => ?_
  refine W.drawn (by kernel_rfl) (by kernel_rfl) H.gn ?_
  have H4 := H
  iterate 4 refine RW.v ?_
  refine RW.ld H4 0 1 ?_
  refine RW.v ?_
  obtain ⟨sv5, hv6, hk7⟩ := slk_rest (P := Tryz.prog) (t := 54) (e := 48) (i := rotN n M.length) hmv (by kernel_rfl) (by kernel_rfl) (by omega)
  rw [Nat.mul_one] at hk7
  refine RW.vop (v := sv5) (by kernel_rfl) (by kernel_rfl) (vop_slice rfl hv6) (by kernel_rfl) ?_
  iterate 3 refine RW.v ?_
  refine RW.ld H4 0 1 ?_
  refine RW.v ?_
  obtain ⟨sv8, hv9, hk10⟩ := slk_cut (P := Tryz.prog) (t := 54) (e := 48) (i := rotN n M.length) hmv (by kernel_rfl) (by kernel_rfl) (by omega)
  rw [Nat.mul_one] at hk10
  refine RW.vop (v := sv8) (by kernel_rfl) (by kernel_rfl) (vop_slice rfl hv9) (by kernel_rfl) ?_
  refine RW.mkD H4 (x := .row ⟨[sv5, sv8], 54, false⟩) (fm := fun b => .slice (some ⟨b, 0, none⟩) 2 2) (by kernel_rfl) (by kernel_rfl) (by rcases slf_forms hk7.slf with rfl | ⟨_, rfl⟩ | ⟨_, _, _, _, _, rfl⟩ <;> rcases slf_forms hk10.slf with rfl | ⟨_, rfl⟩ | ⟨_, _, _, _, _, rfl⟩ <;> kernel_rfl) (by kernel_rfl) ?_
  intro _ b11 H12
  obtain ⟨F, le, hb2, H13⟩ := H12.freeze 0 rfl
  dsimp only [setL, delL] at H13
  replace le0 := fun b y h => le b y (le0 b y h)
  replace hmv := hmv.le le
  replace hall := hall.le le
  replace hk7 := hk7.le le
  replace hk10 := hk10.le le
  refine RW.cl ?_
  refine ((concat2 hk7.slf hk10.slf (hall.drop (rotN n M.length)).ones (hall.take (rotN n M.length)).ones hb2 (by omega) (by omega) H13).mono ?_)
  rintro rc _ H14
  obtain ⟨F, le, hrc, H15⟩ := H14.freezeK 0 rfl
  dsimp only [setL, delL] at H15
  replace le0 := fun b y h => le b y (le0 b y h)
  replace hmv := hmv.le le
  replace hall := hall.le le
  replace hk7 := hk7.le le
  replace hk10 := hk10.le le
  replace hb2 := le _ _ hb2
  iterate 2 refine RW.v ?_
  refine RW.stD H15 0 (vs := [rc]) (cs' := [.bool on, ev, rc, .int .i64 ct]) (by kernel_rfl) (by kernel_rfl) rfl rfl rfl (slf_one hrc.slf) (slf_all hrc.slf) (by kernel_rfl) (Nat.le_of_ble_eq_true rfl) rfl (by kernel_rfl) ?_
  intro _ H16
  dsimp only [setL, delL] at H16
  refine RW.nil ?_
  refine ⟨⟨by kernel_rfl, ⟨trivial, trivial, trivial, trivial, Or.inl (by kernel_rfl), trivial, trivial, trivial, trivial, trivial, Or.inl (by kernel_rfl), trivial, trivial, Or.inl (by kernel_rfl), trivial, trivial, trivial, trivial, trivial⟩⟩, ?_⟩
  replace H := H16
  clear H4 H13 H15 H16
  refine endG (by rfl) (by exact rfl) ?_
  have H17 := H
  refine RW.nil ?_
  refine ⟨⟨by kernel_rfl, ⟨trivial, trivial, trivial, dyn_row (H2.get 1 rfl) (H17.get 1 rfl) ⟨fun h => Bool.noConfusion h, fun h => Bool.noConfusion h, fun h => Bool.noConfusion h, fun h => Bool.noConfusion h, fun h => Bool.noConfusion h, fun h => Bool.noConfusion h, fun h => Bool.noConfusion h, fun h => Bool.noConfusion h, fun h => Bool.noConfusion h, fun h => Bool.noConfusion h, fun h => Bool.noConfusion h, fun h => Bool.noConfusion h, fun h => Bool.noConfusion h, fun _ => H2.get 1 rfl, trivial⟩, trivial, trivial, trivial, trivial, trivial, trivial, trivial, trivial, trivial, trivial, trivial⟩⟩, ?_⟩
  replace H := H17
  clear H2 H17
  refine W.rg [] fun TA => ?_
  refine W.seq (W.region ?_)
  refine RW.v ?_
  refine RW.nil ?_
  refine W.ret ?_
  refine endG (by rfl) (by exact resL_tmp rfl) ?_
  have K := (((H.front 2 rfl).front 2 rfl).front 2 rfl)
  have em : rotate ⟨on, E, M, ct⟩ n = (0, ⟨on, E, M.drop (rotN n M.length) ++ M.take (rotN n M.length), ct⟩) := by clear H K; exact (by (unfold rotate; (repeat' split) <;> first | rfl | (exfalso; omega) | (exfalso; simp_all; done) | (exfalso; simp_all; omega) | (simp_all; done) | (simp_all; omega)))
  rw [em]
  exact ⟨rfl, F, _, _, le0, (mac_app hrc hall rfl (by omega)), hv, K⟩
end
end Go.Proofs.YthemeeiedlbhkaaGreatDoor
namespace Go.Proofs.YthemeeiedlbhkaaGreatDoor
set_option maxRecDepth 100000
def ents : List Value → List (List Int) → List Ent
 | v :: vs, l :: M => .sl 3 1 v l.length (l.map (Value.int .i64)) :: ents vs M
 | _, _ => []
theorem ents_app : ∀ {us : List Value} {M : List (List Int)} (v : Value) (l : List Int), us.length = M.length → ents (us ++ [v]) (M ++ [l]) = ents us M ++ [.sl 3 1 v l.length (l.map (Value.int .i64))]
 | [], [], _, _, _ => rfl
 | u :: us, x :: M, v, l, h => by
  show _ :: ents (us ++ [v]) (M ++ [l]) = _ :: (ents us M ++ _)
  rw [ents_app v l (by simpa using h)]
theorem mul_in {x : Int} {k : Nat} (h1 : 1 ≤ x) (h2 : x ≤ 100000) (hk : k ≤ 10000) : 0 ≤ x * (k : Int) ∧ x * (k : Int) ≤ 1000000000 := by
 obtain ⟨n, rfl⟩ : ∃ n : Nat, x = (n : Int) := ⟨x.toNat, by omega⟩
 have := Nat.mul_le_mul (show n ≤ 100000 by omega) hk
 have e : (n : Int) * (k : Int) = ((n * k : Nat) : Int) := by push_cast; rfl
 rw [e]
 omega
section
variable {G : Nat} {A : Abs} {σ : Mem} {F : Nat → Option Blk2} {L : List Ent} {ev mv : Value} {vs : List Value} {on : Bool} {E : List Int} {M : List (List Int)} {ct : Int}
theorem repeat_int' {x : Int} {X : List Int} {v : Value} (hs : SlF F 1 v X.length (X.map (Value.int .i64))) (hX : 0 < X.length) (hx : 1 ≤ x) (hN : x * (X.length : Int) ≤ 100000) (H : Lies G A F σ L) : WC G Tryz.prog 73 #[v, .int .i64 x] σ fun r σ' => ∃ F', Le F F' ∧ SlF F' 1 r (rep x.toNat X).length ((rep x.toNat X).map (Value.int .i64)) ∧ Lies G A F' σ' L := by
 obtain ⟨k, rfl⟩ : ∃ k : Nat, x = (k : Int) := ⟨x.toNat, by omega⟩
 have e : (k : Int) * (X.length : Int) = ((X.length * k : Nat) : Int) := by push_cast; exact Int.mul_comm _ _
 rw [e] at hN
 have hk : k ≤ X.length * k := Nat.le_mul_of_pos_left _ hX
 refine (repeat_int hs hX (by omega) (by omega) (by omega) H).mono ?_
 rintro _ _ ⟨b, rfl, H⟩
 obtain ⟨F', le, h1, H⟩ := H.freezeR (n := X.length * k) (s := 1) 0 rfl (by rw [List.length_map, rep_len, Nat.mul_one])
 rw [← rep_len] at h1 ⊢
 exact ⟨F', le, h1.slf, H⟩
set_option maxHeartbeats 4000000 in
theorem p_play {q r : Nat} {x : Bool} {n d : Int}  (hc1 : -2305843009213693952 ≤ ct) (hc2 : ct ≤ 2305843009213693951) (hM : ∀ x ∈ M, 0 < x.length ∧ x.length ≤ 10000) (hl : M.length ≤ 20) (hm : MacF F mv M) (hv : E.length = 0 → ev = .slice none 0 0) (H : Lies G A F σ (PE q r ev mv ⟨on, E, M, ct⟩ ++ L)) : WC G Tryz.prog 23 #[.pointer (some ⟨q, 0, none⟩), .int .i64 n] σ fun v σ' => ∃ rv, v = .tuple #[rv, .int .i64 (play ⟨on, E, M, ct⟩ n).1] ∧ ∃ F' ev' mv', Le F F' ∧ SlF F' 1 rv (play ⟨on, E, M, ct⟩ n).2.1.length ((play ⟨on, E, M, ct⟩ n).2.1.map (Value.int .i64)) ∧ MacF F' mv' (play ⟨on, E, M, ct⟩ n).2.2.M ∧ ((play ⟨on, E, M, ct⟩ n).2.2.E.length = 0 → ev' = .slice none 0 0) ∧ Lies G A F' σ' (PE q r ev' mv' (play ⟨on, E, M, ct⟩ n).2.2 ++ L) := by
 obtain ⟨vs, hmv, hall⟩ := hm
 have le0 : Le F F := fun _ _ h => h
 replace H : Lies G A F σ (.at_ r (.row ⟨[.bool on, ev, mv, .int .i64 ct], 90, false⟩) :: .at_ q (.row ⟨[.pointer (some ⟨r, 0, none⟩)], 92, false⟩) :: .sl 3 1 ev E.length (E.map (Value.int .i64)) :: (L)) := H
 refine WC.enter (fn := Tryz.f23) Tryz.func23 rfl ?_
 refine W.rg [(0, pp q), (1, .int .i64 n)] fun TA => ?_
 refine W.seq (W.region ?_)
 iterate 2 refine RW.v ?_
 refine RW.nil ?_
 refine W.rg [(0, pp q), (1, .int .i64 n)] fun TA => ?_
 refine W.seq ?_
 refine W.block ?_
 refine W.seq (W.region ?_)
 refine RW.v ?_
 refine RW.cl ?_
 refine WC.enter (fn := Tryz.f42) Tryz.func42 rfl ?_
 refine W.rg [(0, pp q)] fun TA => ?_
 refine W.seq (W.region ?_)
 refine RW.v ?_
 refine RW.nil ?_
 refine W.rg [(0, pp q)] fun TA => ?_
 refine W.seq (W.region ?_)
 iterate 3 refine RW.v ?_
 refine RW.val (by rfl) (by kernel_rfl) rfl (by kernel_rfl) ?_
 refine RW.val (by rfl) (by kernel_rfl) rfl (by kernel_rfl) ?_
 refine RW.val (by rfl) (by kernel_rfl) rfl (by kernel_rfl) ?_
 refine RW.ldL H 1 1 (by rfl) (by kernel_rfl) rfl rfl rfl rfl rfl (by kernel_rfl) ?_
 refine RW.val (by rfl) (by kernel_rfl) rfl (by kernel_rfl) ?_
 iterate 2 refine RW.v ?_
 refine RW.nil ?_
 refine W.ret ?_
 refine endG (by rfl) (by exact resL_tmp rfl) ?_
 iterate 2 refine RW.v ?_
 refine RW.nil ?_
 refine W.c0 ?_
 refine W.seq (W.region ?_)
 iterate 3 refine RW.v ?_
 refine RW.ld H 1 1 ?_
 iterate 3 refine RW.v ?_
 refine RW.ld H 0 1 ?_
 refine RW.v ?_
 refine RW.nil ?_
 refine W.rg [(0, pp q), (1, .int .i64 n), (10, .bool on)] fun TA => ?_
 refine W.cond rfl (fun hc1 => ?_) (fun hc1 => ?_)
 ·have hc1b := hc1
  refine W.seq (W.region ?_)
  iterate 2 refine RW.v ?_
  refine RW.nil ?_
  refine W.ret ?_
  refine blkQ_ret ?_
  refine seqQ_ret ?_
  refine endG (by rfl) (by exact resL_tmp (by exact resL_tmp rfl)) ?_
  have K := (((H.front 2 rfl).front 2 rfl).front 2 rfl)
  have em : play ⟨on, E, M, ct⟩ n = (9, [], ⟨on, E, M, ct⟩) := by clear H K; exact (by (unfold play; (repeat' split) <;> first | rfl | (exfalso; omega) | (exfalso; simp_all; done) | (exfalso; simp_all; omega) | (simp_all; done) | (simp_all; omega)))
  rw [em]
  exact ⟨_, rfl, F, _, _, le0, .nil _ rfl, ⟨vs, hmv, hall⟩, hv, K⟩
 ·have hc1b := hc1
  refine W.seq (W.region ?_)
  iterate 3 refine RW.v ?_
  refine RW.ld H 1 1 ?_
  iterate 3 refine RW.v ?_
  refine RW.ld H 0 1 ?_
  refine RW.len (by kernel_rfl) (by kernel_rfl) rfl rfl rfl rfl (hmv.slf.len (e := 48) (by kernel_rfl)) (by kernel_rfl) ?_
  iterate 2 refine RW.v ?_
  refine RW.nil ?_
  refine W.rg [(0, pp q), (1, .int .i64 n), (19, .bool ((M.length : Int) == 0))] fun TA => ?_
  refine W.cond rfl (fun hc2 => ?_) (fun hc2 => ?_)
  ·have hc2b := hc2
   have hc2 := eq_of_beq hc2
   refine W.seq (W.region ?_)
   iterate 2 refine RW.v ?_
   refine RW.nil ?_
   refine W.ret ?_
   refine blkQ_ret ?_
   refine seqQ_ret ?_
   refine endG (by rfl) (by exact resL_tmp (by exact resL_tmp rfl)) ?_
   have K := (((H.front 2 rfl).front 2 rfl).front 2 rfl)
   have em : play ⟨on, E, M, ct⟩ n = (13, [], ⟨on, E, M, ct⟩) := by clear H K; exact (by (unfold play; (repeat' split) <;> first | rfl | (exfalso; omega) | (exfalso; simp_all; done) | (exfalso; simp_all; omega) | (simp_all; done) | (simp_all; omega)))
   rw [em]
   exact ⟨_, rfl, F, _, _, le0, .nil _ rfl, ⟨vs, hmv, hall⟩, hv, K⟩
  ·have hc2b := hc2
   have hc2 := ne_of_beq_false hc2
   refine W.seq (W.region ?_)
   iterate 3 refine RW.v ?_
   refine RW.both _ _ rfl rfl rfl (fun hc3 => ?_) (fun hc3 => ?_)
   ·have hc3b := hc3
    have hc3 := of_decide_eq_true hc3
    refine RW.skip (by rfl) (by kernel_rfl) ?_
    refine RW.skip (by rfl) (by kernel_rfl) ?_
    iterate 2 refine RW.v ?_
    refine RW.nil ?_
    refine W.c1 ?_
    refine W.seq (W.region ?_)
    iterate 2 refine RW.v ?_
    refine RW.nil ?_
    refine W.ret ?_
    refine blkQ_ret ?_
    refine seqQ_ret ?_
    refine endG (by rfl) (by exact resL_tmp (by exact resL_tmp rfl)) ?_
    have K := (((H.front 2 rfl).front 2 rfl).front 2 rfl)
    have em : play ⟨on, E, M, ct⟩ n = (3, [], ⟨on, E, M, ct⟩) := by clear H K; exact (by (unfold play; (repeat' split) <;> first | rfl | (exfalso; omega) | (exfalso; simp_all; done) | (exfalso; simp_all; omega) | (simp_all; done) | (simp_all; omega)))
    rw [em]
    exact ⟨_, rfl, F, _, _, le0, .nil _ rfl, ⟨vs, hmv, hall⟩, hv, K⟩
   ·have hc3b := hc3
    have hc3 := of_decide_eq_false hc3
    refine RW.val (by rfl) (by kernel_rfl) rfl (by kernel_rfl) ?_
    refine RW.val (by rfl) (by kernel_rfl) rfl (by kernel_rfl) ?_
    iterate 2 refine RW.v ?_
    refine RW.nil ?_
    refine W.rg [(0, pp q), (1, .int .i64 n), (30, .bool (decide (n > 100000)))] fun TA => ?_
    refine W.cond rfl (fun hc4 => ?_) (fun hc4 => ?_)
    ·have hc4b := hc4
     have hc4 := of_decide_eq_true hc4
     refine W.seq (W.region ?_)
     iterate 2 refine RW.v ?_
     refine RW.nil ?_
     refine W.ret ?_
     refine blkQ_ret ?_
     refine seqQ_ret ?_
     refine endG (by rfl) (by exact resL_tmp (by exact resL_tmp rfl)) ?_
     have K := (((H.front 2 rfl).front 2 rfl).front 2 rfl)
     have em : play ⟨on, E, M, ct⟩ n = (3, [], ⟨on, E, M, ct⟩) := by clear H K; exact (by (unfold play; (repeat' split) <;> first | rfl | (exfalso; omega) | (exfalso; simp_all; done) | (exfalso; simp_all; omega) | (simp_all; done) | (simp_all; omega)))
     rw [em]
     exact ⟨_, rfl, F, _, _, le0, .nil _ rfl, ⟨vs, hmv, hall⟩, hv, K⟩
    ·have hc4b := hc4
     have hc4 := of_decide_eq_false hc4
     refine W.seq (W.region ?_)
     iterate 4 refine RW.v ?_
     refine RW.ld H 1 1 ?_
     iterate 3 refine RW.v ?_
     refine RW.ld H 0 1 ?_
     refine RW.idxF hmv.slf (by kernel_rfl) (by kernel_rfl) rfl Tryz.underlying54 (by kernel_rfl) rfl rfl ⟨by omega, by omega⟩ (by kernel_rfl) ?_
     intro b5 q6 r7 hF8 hE9
     rw [vs_at0 (vs := vs) (by rw [hall.len]; omega)] at hE9
     refine RW.loads 1 (by kernel_rfl) (by kernel_rfl) rfl rfl (H.old _ _ hF8) hE9 rfl (by kernel_rfl) ?_
     refine RW.len (by kernel_rfl) (by kernel_rfl) rfl rfl rfl rfl ((hall.get (i := 0) (by omega)).slf.len (e := 3) (by kernel_rfl)) (by kernel_rfl) ?_
     have hz := mac_in hM (i := 0) (by omega)
     have hmul := mul_in (x := n) (k := (M.getD 0 []).length) (by omega) (by omega) hz.2
     refine RW.valE (v' := .int .i64 (n * ((M.getD 0 []).length : Int))) (by kernel_rfl) (by kernel_rfl) rfl (congrArg (Value.int .i64) (wrap_in (by omega) (by omega))) (by kernel_rfl) ?_
     iterate 2 refine RW.v ?_
     refine RW.nil ?_
     refine W.rg [(0, pp q), (1, .int .i64 n), (37, .bool (decide ((n * ((M.getD 0 []).length : Int)) > 100000)))] fun TA => ?_
     refine W.cond rfl (fun hc10 => ?_) (fun hc10 => ?_)
     ·have hc10b := hc10
      have hc10 := of_decide_eq_true hc10
      refine W.seq (W.region ?_)
      iterate 2 refine RW.v ?_
      refine RW.nil ?_
      refine W.ret ?_
      refine blkQ_ret ?_
      refine seqQ_ret ?_
      refine endG (by rfl) (by exact resL_tmp (by exact resL_tmp rfl)) ?_
      have K := (((H.front 2 rfl).front 2 rfl).front 2 rfl)
      have em : play ⟨on, E, M, ct⟩ n = (4, [], ⟨on, E, M, ct⟩) := by clear H K; exact (by (unfold play; (repeat' split) <;> first | rfl | (exfalso; omega) | (exfalso; simp_all; done) | (exfalso; simp_all; omega) | (simp_all; done) | (simp_all; omega)))
      rw [em]
      exact ⟨_, rfl, F, _, _, le0, .nil _ rfl, ⟨vs, hmv, hall⟩, hv, K⟩
     ·have hc10b := hc10
      have hc10 := of_decide_eq_false hc10
      refine W.skip ?_
      refine blkQ_normal ?_
      refine W.seq ?_
      refine W.drawn (by kernel_rfl) (by kernel_rfl) H.gn ?_
      have H11 := H
      iterate 3 refine RW.v ?_
      refine RW.ld H11 1 1 ?_
      iterate 3 refine RW.v ?_
      refine RW.ld H11 1 1 ?_
      iterate 2 refine RW.v ?_
      refine RW.ld H11 0 1 ?_
      refine RW.v ?_
      refine RW.valE (v' := .int .i64 (2305843009213693951 - n)) (by kernel_rfl) (by kernel_rfl) rfl (congrArg (Value.int .i64) (wrap_in (by omega) (by omega))) (by kernel_rfl) ?_
      refine RW.vop (v := .int .i64 (min ct (2305843009213693951 - n))) (by kernel_rfl) (by kernel_rfl) (vop_min rfl rfl rfl rfl rfl) (by kernel_rfl) ?_
      refine RW.v ?_
      refine RW.valE (v' := .int .i64 ((min ct (2305843009213693951 - n)) + n)) (by kernel_rfl) (by kernel_rfl) rfl (congrArg (Value.int .i64) (wrap_in (by omega) (by omega))) (by kernel_rfl) ?_
      iterate 2 refine RW.v ?_
      refine RW.stD H11 0 (vs := [.int .i64 ((min ct (2305843009213693951 - n)) + n)]) (cs' := [.bool on, ev, mv, .int .i64 ((min ct (2305843009213693951 - n)) + n)]) (by kernel_rfl) (by kernel_rfl) rfl rfl rfl rfl rfl (by kernel_rfl) (Nat.le_of_ble_eq_true rfl) rfl (by kernel_rfl) ?_
      intro _ H12
      dsimp only [setL, delL] at H12
      refine RW.nil ?_
      refine ⟨⟨by kernel_rfl, ⟨trivial, trivial, trivial, dyn_row (H11.get 1 rfl) (H12.get 1 rfl) ⟨fun h => Bool.noConfusion h, fun h => Bool.noConfusion h, fun h => Bool.noConfusion h, fun h => Bool.noConfusion h, fun h => Bool.noConfusion h, fun h => Bool.noConfusion h, fun h => Bool.noConfusion h, fun h => Bool.noConfusion h, fun h => Bool.noConfusion h, fun h => Bool.noConfusion h, fun h => Bool.noConfusion h, fun h => Bool.noConfusion h, fun h => Bool.noConfusion h, fun h => Bool.noConfusion h, fun h => Bool.noConfusion h, fun h => Bool.noConfusion h, fun h => Bool.noConfusion h, fun h => Bool.noConfusion h, fun _ => H11.get 1 rfl, trivial⟩, trivial, trivial, trivial, dyn_row (H11.get 1 rfl) (H12.get 1 rfl) ⟨fun h => Bool.noConfusion h, fun h => Bool.noConfusion h, fun h => Bool.noConfusion h, fun h => Bool.noConfusion h, fun h => Bool.noConfusion h, fun h => Bool.noConfusion h, fun h => Bool.noConfusion h, fun h => Bool.noConfusion h, fun h => Bool.noConfusion h, fun h => Bool.noConfusion h, fun h => Bool.noConfusion h, fun h => Bool.noConfusion h, fun h => Bool.noConfusion h, fun h => Bool.noConfusion h, fun h => Bool.noConfusion h, fun h => Bool.noConfusion h, fun h => Bool.noConfusion h, fun h => Bool.noConfusion h, fun _ => H11.get 1 rfl, trivial⟩, trivial, trivial, Or.inl (by kernel_rfl), trivial, trivial, trivial, trivial, trivial, trivial, trivial, trivial, trivial⟩⟩, ?_⟩
      replace H := H12
      clear H11 H12
      refine W.rg [(0, pp q), (1, .int .i64 n)] fun TA => ?_
      refine W.seq (W.region ?_)
      iterate 3 refine RW.v ?_
      refine RW.ld H 1 1 ?_
      iterate 3 refine RW.v ?_
      refine RW.ld H 0 1 ?_
      refine RW.idxF hmv.slf (by kernel_rfl) (by kernel_rfl) rfl Tryz.underlying54 (by kernel_rfl) rfl rfl ⟨by omega, by omega⟩ (by kernel_rfl) ?_
      intro b13 q14 r15 hF16 hE17
      rw [vs_at0 (vs := vs) (by rw [hall.len]; omega)] at hE17
      refine RW.loads 1 (by kernel_rfl) (by kernel_rfl) rfl rfl (H.old _ _ hF16) hE17 rfl (by kernel_rfl) ?_
      refine RW.v ?_
      refine RW.cl ?_
      refine ((repeat_int' (hall.get (i := 0) (by omega)).slf hz.1 (x := n) (by omega) (by omega) H).mono ?_)
      clear H
      rintro rv _ ⟨F, le, hrv, H⟩
      replace le0 := fun b y h => le b y (le0 b y h)
      replace hmv := hmv.le le
      replace hall := hall.le le
      iterate 2 refine RW.v ?_
      refine RW.nil ?_
      refine W.ret ?_
      refine endG (by rfl) (by exact resL_tmp (by exact resL_tmp rfl)) ?_
      have K := (((H.front 2 rfl).front 2 rfl).front 2 rfl)
      have em : play ⟨on, E, M, ct⟩ n = (0, rep n.toNat (M.getD 0 []), ⟨on, E, M, (min ct (2305843009213693951 - n)) + n⟩) := by clear H K; exact (by (unfold play; (repeat' split) <;> first | rfl | (exfalso; omega) | (exfalso; simp_all; done) | (exfalso; simp_all; omega) | (simp_all; done) | (simp_all; omega)))
      rw [em]
      exact ⟨_, rfl, F, _, _, le0, hrv, ⟨vs, hmv, hall⟩, hv, K⟩
theorem ring_next {i : Nat} {u v : Value} {us : List Value} (hi : i < M.length) (hu : us.length = i) (H : Lies G A F σ (.sl 3 1 v (M.getD i []).length ((M.getD i []).map (Value.int .i64)) :: .sl 48 1 u (i + 1) (us ++ [v]) :: (ents us (M.take i) ++ L))) : Lies G A F σ (.sl 48 1 u (i + 1) (us ++ [v]) :: (ents (us ++ [v]) (M.take (i + 1)) ++ L)) := by
 have e : M.take (i + 1) = M.take i ++ [M.getD i []] := by
  rw [List.take_add_one, List.getD_eq_getElem?_getD, List.getElem?_eq_getElem hi]
  rfl
 rw [e, ents_app v _ (by rw [List.length_take]; omega)]
 refine H.perm ?_
 refine (List.Perm.swap ..).trans (.cons _ ?_)
 rw [List.append_assoc]
 exact List.perm_middle.symm
set_option maxHeartbeats 4000000 in
theorem cloned_wc (hmv : SlK F 1 mv M.length vs) (hall : AllR F vs M) (hM : ∀ x ∈ M, 0 < x.length ∧ x.length ≤ 10000) (hl : M.length ≤ 20) (H : Lies G A F σ L) : WC G Tryz.prog 44 #[mv] σ fun v σ' => ∃ us, us.length = M.length ∧ Lies G A F σ' (.sl 48 1 v M.length us :: (ents us M ++ L)) := by
 refine WC.enter (fn := Tryz.f44) Tryz.func44 rfl ?_
 refine W.rg [(0, mv)] fun TA => ?_
 refine W.seq (W.region ?_)
 refine RW.v ?_
 refine RW.nil ?_
 refine W.rg [(0, mv)] fun TA => ?_
 refine W.seq (W.region ?_)
 refine RW.v ?_
 refine RW.nil ?_
 refine W.rg [(0, mv), (3, .slice none 0 0)] fun TA => ?_
 refine W.seq ?_
 refine W.seq (W.region ?_)
 refine RW.v ?_
 refine RW.len (by kernel_rfl) (by kernel_rfl) rfl rfl rfl rfl (hmv.slf.len (e := 48) (by kernel_rfl)) (by kernel_rfl) ?_
 refine RW.v ?_
 refine RW.nil ?_
 refine W.rg [(3, .slice none 0 0), (6, mv), (7, .int .i64 (M.length : Int)), (8, .int .i64 0)] fun TA => ?_
 refine W.block ?_
 replace H := H.nilSl 48 1
 refine W.loop (fun mm ta σ => ∃ (i : Nat) (us : List Value) (u : Value), (mm + i = M.length) ∧ (us.length = i) ∧ Lies G A F σ (.sl 48 1 u i us :: (ents us (M.take i) ++ L)) ∧ ta 3 = u ∧ ta 6 = mv ∧ ta 7 = .int .i64 (M.length : Int) ∧ ta 8 = .int .i64 ((i : Nat) : Int)) M.length ?_ ?_
 ·exact ⟨0, [], .slice none 0 0, (by omega), rfl, H, rfl, rfl, rfl, rfl⟩
 clear H
 rintro mm ta _ ⟨i, us, u, hm, hu, H, e3, e6, e7, e8⟩
 refine W.rst [(3, u), (6, mv), (7, .int .i64 (M.length : Int)), (8, .int .i64 ((i : Nat) : Int))] ⟨e3, e6, e7, e8, trivial⟩ fun TA => ?_
 clear e3 e6 e7 e8
 refine W.seq (W.region ?_)
 refine RW.v ?_
 refine RW.nil ?_
 refine W.rg [(3, u), (6, mv), (7, .int .i64 (M.length : Int)), (8, .int .i64 ((i : Nat) : Int)), (9, .bool (decide (((i : Nat) : Int) < (M.length : Int))))] fun TA => ?_
 refine W.seq ?_
 refine W.cond rfl (fun hc1 => ?_) (fun hc1 => ?_)
 ·have hc1b := hc1
  have hc1 := of_decide_eq_true hc1
  refine W.skip ?_
  refine W.seq ?_
  refine W.block ?_
  refine W.seq (W.region ?_)
  refine RW.idxF hmv.slf (by kernel_rfl) (by kernel_rfl) rfl Tryz.underlying54 (by kernel_rfl) rfl rfl ⟨by omega, by omega⟩ (by kernel_rfl) ?_
  intro b2 q3 r4 hF5 hE6
  rw [vs_at (vs := vs) (j := i) (by rw [hall.len]; omega)] at hE6
  refine RW.loads 1 (by kernel_rfl) (by kernel_rfl) rfl rfl (H.old _ _ hF5) hE6 rfl (by kernel_rfl) ?_
  refine RW.v ?_
  refine RW.nil ?_
  refine W.rg [(3, u), (5, (vs.getD i undef)), (6, mv), (7, .int .i64 (M.length : Int)), (8, .int .i64 ((i : Nat) : Int))] fun TA => ?_
  refine W.region ?_
  iterate 2 refine RW.v ?_
  have hz := mac_in hM (i := i) (by omega)
  refine RW.cl ?_
  refine ((cloneK (hall.get (i := i) (by omega)) (by omega) (by omega) (ints_one _) H).mono ?_)
  clear H
  rintro v7 _ H
  refine RW.mkL H (x := .row ⟨[v7], 48, false⟩) (fm := fun b => .slice (some ⟨b, 0, none⟩) 1 1) (by kernel_rfl) (by kernel_rfl) (by rcases gr_forms (H.sl 0 rfl) with rfl | ⟨_, _, _, rfl⟩ <;> kernel_rfl) (by kernel_rfl) ?_
  clear H; intro _ b8 _ H
  refine RW.appL H 2 0 (n := 1) (e2 := 48) (by kernel_rfl) (by kernel_rfl) rfl rfl rfl rfl rfl rfl rfl rfl (by kernel_rfl) (by kernel_rfl) (by kernel_rfl) (by decide) (by decide) rfl (gr_all (H.sl 1 rfl)) (by omega) (by kernel_rfl) ?_
  clear H; intro _ v9 _ H
  dsimp only [setL, delL] at H
  refine RW.v ?_
  refine RW.nil ?_
  refine blkQ_normal ?_
  refine W.rg [(3, v9), (6, mv), (7, .int .i64 (M.length : Int)), (8, .int .i64 ((i : Nat) : Int))] fun TA => ?_
  refine W.region ?_
  refine RW.valE (v' := .int .i64 (((i : Nat) : Int) + 1)) (by kernel_rfl) (by kernel_rfl) rfl (congrArg (Value.int .i64) (wrap_in (by omega) (by omega))) (by kernel_rfl) ?_
  refine RW.v ?_
  refine RW.nil ?_
  replace H := ring_next (by omega) hu H
  exact ⟨rfl, mm - 1, by omega, i + 1, us ++ [v7], v9, (by omega), (by rw [List.length_append, List.length_singleton]; omega), H, rfl, rfl, rfl, rfl⟩
 ·have hc1b := hc1
  have hc1 := of_decide_eq_false hc1
  refine W.exit _ ?_
  refine seqQ_exit ?_
  refine rndQ_exit ?_
  refine blkQ_here ?_
  refine W.seq (W.region ?_)
  iterate 2 refine RW.v ?_
  refine RW.nil ?_
  refine W.ret ?_
  refine endG (by rfl) (by exact resL_tmp rfl) ?_
  obtain rfl : i = M.length := by omega
  rw [List.take_length] at H
  exact ⟨us, hu, H⟩
set_option maxHeartbeats 4000000 in
theorem p_ring {q r : Nat} (hq : F q = some (.row ⟨[.pointer (some ⟨r, 0, none⟩)], 92, false⟩)) (hr : F r = some (.row ⟨[.bool on, ev, mv, .int .i64 ct], 90, false⟩)) (hev : SlK F 1 ev E.length (E.map (Value.int .i64))) (hmv : SlK F 1 mv M.length vs) (hall : AllR F vs M) (hM : ∀ x ∈ M, 0 < x.length ∧ x.length ≤ 10000) (hl : M.length ≤ 20) (hE : E.length ≤ 10000) (H : Lies G A F σ L) : WC G Tryz.prog 28 #[.pointer (some ⟨q, 0, none⟩)] σ fun v σ' => ∃ us, us.length = M.length ∧ Lies G A F σ' (.sl 48 1 v M.length us :: (ents us M ++ L)) := by
 refine WC.enter (fn := Tryz.f28) Tryz.func28 rfl ?_
 refine W.rg [(0, pp q)] fun TA => ?_
 refine W.seq (W.region ?_)
 refine RW.v ?_
 refine RW.nil ?_
 refine W.rg [(0, pp q)] fun TA => ?_
 refine W.seq ?_
 refine W.seq (W.region ?_)
 refine RW.v ?_
 refine RW.cl ?_
 refine WC.enter (fn := Tryz.f42) Tryz.func42 rfl ?_
 refine W.rg [(0, pp q)] fun TA => ?_
 refine W.seq (W.region ?_)
 refine RW.v ?_
 refine RW.nil ?_
 refine W.rg [(0, pp q)] fun TA => ?_
 refine W.seq (W.region ?_)
 iterate 3 refine RW.v ?_
 refine RW.val (by rfl) (by kernel_rfl) rfl (by kernel_rfl) ?_
 refine RW.val (by rfl) (by kernel_rfl) rfl (by kernel_rfl) ?_
 refine RW.val (by rfl) (by kernel_rfl) rfl (by kernel_rfl) ?_
 refine RW.loads 1 (by rfl) (by kernel_rfl) rfl rfl (H.old _ _ hq) rfl rfl (by kernel_rfl) ?_
 refine RW.val (by rfl) (by kernel_rfl) rfl (by kernel_rfl) ?_
 iterate 2 refine RW.v ?_
 refine RW.nil ?_
 refine W.ret ?_
 refine endG (by rfl) (by exact resL_tmp rfl) ?_
 refine RW.v ?_
 refine RW.nil ?_
 refine W.c0 ?_
 refine W.skip ?_
 refine W.seq (W.region ?_)
 iterate 3 refine RW.v ?_
 refine RW.loads 1 (by kernel_rfl) (by kernel_rfl) rfl rfl (H.old _ _ hq) rfl rfl (by kernel_rfl) ?_
 iterate 3 refine RW.v ?_
 refine RW.loads 1 (by kernel_rfl) (by kernel_rfl) rfl rfl (H.old _ _ hr) rfl rfl (by kernel_rfl) ?_
 refine RW.cl ?_
 refine ((cloned_wc hmv hall hM hl H).mono ?_)
 clear H
 rintro rr _ ⟨us, hu, H⟩
 refine RW.v ?_
 refine RW.nil ?_
 refine W.ret ?_
 refine endG (by rfl) (by exact resL_tmp rfl) ?_
 exact ⟨us, hu, H⟩
end
end Go.Proofs.YthemeeiedlbhkaaGreatDoor
