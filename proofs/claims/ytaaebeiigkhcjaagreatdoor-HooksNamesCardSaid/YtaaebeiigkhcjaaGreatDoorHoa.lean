/-
 The stable sort of ranked words. Conditions: at most 19 of them. Conditions: the heap lies there as HeapAt says.
-/
import Derived.Test.YtaaebeiigkhcjaaGreatDoorHka
import Derived.Test.YtaaebeiigkhcjaaGreatDoorHq
import Derived.Test.YtaaebeiigkhcjaaGreatDoorS4
namespace Go.Proofs.YtaaebeiigkhcjaaGreatDoor
set_option maxRecDepth 100000
def cmpI (a b : Int) : Int := if a < b then -1 else if a > b then 1 else 0
theorem cmp_lt {a b : Int} (h : cmpI a b < 0) : a < b := by
 unfold cmpI at h
 split at h
 ·assumption
 ·split at h <;> omega
theorem cmp_ge {a b : Int} (h : ¬ cmpI a b < 0) : b ≤ a := by
 unfold cmpI at h
 split at h
 ·omega
 ·omega
theorem stab_one {all : List Rk} (h : 1 ≤ all.length) : StabR (all.take 1) (all.take 1) := by
 cases all with
 | nil => cases h
 | cons x l => exact ⟨List.pairwise_singleton _ _, fun _ => rfl, List.Perm.refl _⟩
theorem arrR_below' {xs rest : List Rk} {x : Rk} {j q : Nat} (hq : j = q + 1) (hj : j ≤ xs.length) : (arrR xs x rest j).getD q rk0 = xs.getD q rk0 := by
 subst hq
 exact arrR_below hj
theorem arr_start {xs rest : List Rk} {x : Rk} {i : Nat} (h : xs.length = i) : xs ++ x :: rest = arrR xs x rest i := by
 unfold arrR
 rw [List.take_of_length_le (by omega), List.drop_of_length_le (by omega)]
 rfl
theorem drop_consR {all : List Rk} {i : Nat} {x : Rk} (h : i < all.length) (hx : x = all.getD i rk0) : all.drop i = x :: all.drop (i + 1) := by
 rw [hx, List.getD_eq_getElem?_getD, List.getElem?_eq_getElem h, List.drop_eq_getElem_cons h]
 rfl
theorem take_snocR {all : List Rk} {i : Nat} {x : Rk} (h : i < all.length) (hx : x = all.getD i rk0) : all.take (i + 1) = all.take i ++ [x] := by
 rw [hx, List.getD_eq_getElem?_getD, List.getElem?_eq_getElem h, List.take_add_one, List.getElem?_eq_getElem h]
 rfl
theorem drop_less {xs : List Rk} {x : Rk} {j q : Nat} (hq : j = q + 1) (hj : j ≤ xs.length) (hD : ∀ y ∈ xs.drop j, x.2 < y.2) (hlt : x.2 < (xs.getD q rk0).2) : ∀ y ∈ xs.drop q, x.2 < y.2 := by
 subst hq
 rw [drop_consR (all := xs) (by omega) rfl]
 intro y hy
 rcases List.mem_cons.1 hy with e | e
 ·rw [e]; exact hlt
 ·exact hD y e
theorem sort_end {all xs rest : List Rk} {i n : Nat} (hS : StabR (all.take i) xs) (hi : i = n) (hn : all.length = n) (hr : rest = all.drop i) : StabR all (xs ++ rest) := by
 rw [hr, List.drop_of_length_le (by omega), List.append_nil]
 rwa [List.take_of_length_le (by omega)] at hS
theorem swap_cells {xs rest : List Rk} {x : Rk} {j q p1 p2 : Nat} (hq : j = q + 1) (hj : j ≤ xs.length) (h1 : p1 = ((j : Nat) : Int).toNat * 3) (h2 : p2 = ((q : Nat) : Int).toNat * 3) :
  overL (overL (rkC (arrR xs x rest j)) p1 [.int .i64 (xs.getD q rk0).1.1, .int .i64 (xs.getD q rk0).1.2, .int .i64 (xs.getD q rk0).2]) p2 [.int .i64 x.1.1, .int .i64 x.1.2, .int .i64 x.2] = rkC (arrR xs x rest q) := by
 rw [Int.toNat_natCast] at h1 h2
 subst h1 h2 hq
 have hl := arrR_len (xs := xs) (rest := rest) (x := x) hj
 have e1 : ∀ (l : List Rk) (k : Nat) (y : Rk), k < l.length → overL (rkC l) (k * 3) [.int .i64 y.1.1, .int .i64 y.1.2, .int .i64 y.2] = rkC (l.set k y) := fun l k y hk => by
  rw [← rkC_set y hk]
  unfold overL
  rw [List.append_assoc]
  rfl
 rw [e1 _ _ (xs.getD q rk0) (by omega), e1 _ _ x (by rw [List.length_set]; omega), arrR_swap hj]
section
variable {A : Abs} {F : Nat → Option Blk2} {L : List Ent} {v : Value} {n : Nat} {all : List Rk}
theorem cmp_wc (a b : Rk) {σ0 : Mem} (hG : G66 ≤ σ0.next) (ha : σ0.abs = A) : WC G66 Tryz.prog 47 #[.agg #[.int .i64 a.1.1, .int .i64 a.1.2, .int .i64 a.2], .agg #[.int .i64 b.1.1, .int .i64 b.1.2, .int .i64 b.2]] σ0 fun v σ' => v = .int .i64 (cmpI a.2 b.2) ∧ Lies G66 A σ0.get σ' [] := by
 have H := Lies.start hG ha
 generalize σ0.get = F at H ⊢
 refine WC.enter (fn := Tryz.f47) Tryz.func47 rfl ?_
 refine W.rg [(0, .agg #[.int .i64 a.1.1, .int .i64 a.1.2, .int .i64 a.2]), (1, .agg #[.int .i64 b.1.1, .int .i64 b.1.2, .int .i64 b.2])] fun TA => ?_
 refine W.seq (W.region ?_)
 refine RW.mk H (.row ⟨[.int .i64 a.1.1, .int .i64 a.1.2, .int .i64 a.2], 79, false⟩) ?_
 clear H; intro _ b1 _ H
 refine RW.mk H (.row ⟨[.int .i64 b.1.1, .int .i64 b.1.2, .int .i64 b.2], 79, false⟩) ?_
 clear H; intro _ b2 _ H
 refine RW.v ?_
 refine RW.nil ?_
 refine W.rg [(2, pp b1), (3, pp b2)] fun TA => ?_
 refine W.seq (W.region ?_)
 refine RW.v ?_
 refine RW.ld H 1 1 ?_
 refine RW.v ?_
 refine RW.ld H 0 1 ?_
 refine RW.cl ?_
 refine WC.enter (fn := Tryz.f48) Tryz.func48 rfl ?_
 refine W.rg [(0, .int .i64 a.2), (1, .int .i64 b.2)] fun TA => ?_
 refine W.seq (W.region ?_)
 refine RW.v ?_
 refine RW.nil ?_
 refine W.rg [(0, .int .i64 a.2), (1, .int .i64 b.2)] fun TA => ?_
 refine W.seq (W.region ?_)
 refine RW.v ?_
 refine RW.cl ?_
 refine WC.enter (fn := Tryz.f78) Tryz.func78 rfl ?_
 refine W.rg [(0, .int .i64 a.2)] fun TA => ?_
 refine W.seq (W.region ?_)
 refine RW.v ?_
 refine RW.nil ?_
 refine W.rg [(0, .int .i64 a.2)] fun TA => ?_
 refine W.seq (W.region ?_)
 iterate 2 refine RW.v ?_
 refine RW.valE (v' := .bool false) (by kernel_rfl) (by kernel_rfl) rfl (congrArg Value.bool (bne_eq_false_iff_eq.2 (by rfl))) (by kernel_rfl) ?_
 refine RW.v ?_
 refine RW.nil ?_
 refine W.ret ?_
 refine endG (by rfl) (by exact resL_tmp rfl) ?_
 refine RW.v ?_
 refine RW.nil ?_
 refine W.rg [(0, .int .i64 a.2), (1, .int .i64 b.2), (5, .bool false)] fun TA => ?_
 refine W.seq (W.region ?_)
 refine RW.v ?_
 refine RW.cl ?_
 refine WC.enter (fn := Tryz.f78) Tryz.func78 rfl ?_
 refine W.rg [(0, .int .i64 b.2)] fun TA => ?_
 refine W.seq (W.region ?_)
 refine RW.v ?_
 refine RW.nil ?_
 refine W.rg [(0, .int .i64 b.2)] fun TA => ?_
 refine W.seq (W.region ?_)
 iterate 2 refine RW.v ?_
 refine RW.valE (v' := .bool false) (by kernel_rfl) (by kernel_rfl) rfl (congrArg Value.bool (bne_eq_false_iff_eq.2 (by rfl))) (by kernel_rfl) ?_
 refine RW.v ?_
 refine RW.nil ?_
 refine W.ret ?_
 refine endG (by rfl) (by exact resL_tmp rfl) ?_
 refine RW.v ?_
 refine RW.nil ?_
 refine W.rg [(0, .int .i64 a.2), (1, .int .i64 b.2), (5, .bool false), (6, .bool false)] fun TA => ?_
 refine W.seq ?_
 refine W.seq (W.region ?_)
 refine RW.v ?_
 refine RW.nil ?_
 refine W.c0 ?_
 refine W.skip ?_
 refine W.seq ?_
 refine W.seq (W.region ?_)
 refine RW.v ?_
 refine RW.nil ?_
 refine W.c0 ?_
 refine W.skip ?_
 refine W.seq ?_
 refine W.seq (W.region ?_)
 iterate 3 refine RW.v ?_
 refine RW.nil ?_
 refine W.rg [(0, .int .i64 a.2), (1, .int .i64 b.2), (16, .bool (decide (a.2 < b.2)))] fun TA => ?_
 refine W.cond rfl (fun hc3 => ?_) (fun hc3 => ?_)
 ·have hc3b := hc3
  have hc3 := of_decide_eq_true hc3
  refine W.seq (W.region ?_)
  refine RW.v ?_
  refine RW.nil ?_
  refine W.ret ?_
  refine seqQ_ret ?_
  refine endG (by rfl) (by exact resL_tmp rfl) ?_
  refine RW.v ?_
  refine RW.nil ?_
  replace H := ((H.del 1).del 0)
  dsimp only [setL, delL] at H
  refine W.ret ?_
  refine endG (by rfl) (by exact resL_tmp rfl) ?_
  exact ⟨congrArg (Value.int .i64) (by unfold cmpI; (repeat' split) <;> omega), H⟩
 ·have hc3b := hc3
  have hc3 := of_decide_eq_false hc3
  refine W.skip ?_
  refine W.seq ?_
  refine W.seq (W.region ?_)
  iterate 3 refine RW.v ?_
  refine RW.nil ?_
  refine W.rg [(19, .bool (decide (a.2 > b.2)))] fun TA => ?_
  refine W.cond rfl (fun hc4 => ?_) (fun hc4 => ?_)
  ·have hc4b := hc4
   have hc4 := of_decide_eq_true hc4
   refine W.seq (W.region ?_)
   refine RW.v ?_
   refine RW.nil ?_
   refine W.ret ?_
   refine seqQ_ret ?_
   refine endG (by rfl) (by exact resL_tmp rfl) ?_
   refine RW.v ?_
   refine RW.nil ?_
   replace H := ((H.del 1).del 0)
   dsimp only [setL, delL] at H
   refine W.ret ?_
   refine endG (by rfl) (by exact resL_tmp rfl) ?_
   exact ⟨congrArg (Value.int .i64) (by unfold cmpI; (repeat' split) <;> omega), H⟩
  ·have hc4b := hc4
   have hc4 := of_decide_eq_false hc4
   refine W.skip ?_
   refine W.seq (W.region ?_)
   refine RW.v ?_
   refine RW.nil ?_
   refine W.ret ?_
   refine endG (by rfl) (by exact resL_tmp rfl) ?_
   refine RW.v ?_
   refine RW.nil ?_
   replace H := ((H.del 1).del 0)
   dsimp only [setL, delL] at H
   refine W.ret ?_
   refine endG (by rfl) (by exact resL_tmp rfl) ?_
   exact ⟨congrArg (Value.int .i64) (by unfold cmpI; (repeat' split) <;> omega), H⟩
set_option maxHeartbeats 8000000 in
theorem isort_wc {σ : Mem} (hn : all.length = n) (h1 : 1 ≤ n) (h2 : n ≤ 19) (H : Lies G66 A F σ (.sl 79 3 v n (rkC all) :: L)) : WC G66 Tryz.prog 98 #[v, .int .i64 0, .int .i64 ((n : Nat) : Int), .func (.func 47) #[] #[]] σ fun r σ' => r = undef ∧ ∃ ys, StabR all ys ∧ Lies G66 A F σ' (.sl 79 3 v n (rkC ys) :: L) := by
 refine WC.enter (fn := Tryz.f98) Tryz.func98 rfl ?_
 refine W.rg [(0, v), (1, .int .i64 0), (2, .int .i64 ((n : Nat) : Int)), (3, .func (.func 47) #[] #[])] fun TA => ?_
 refine W.seq (W.region ?_)
 iterate 3 refine RW.v ?_
 refine RW.nil ?_
 refine W.rg [(0, v), (1, .int .i64 0), (2, .int .i64 ((n : Nat) : Int)), (3, .func (.func 47) #[] #[]), (8, .int .i64 1)] fun TA => ?_
 refine W.block ?_
 rw [← List.take_append_drop 1 all] at H
 refine W.loop (fun mm ta σ => ∃ (xs : List Rk) (rest : List Rk) (i : Nat), (mm + i = n) ∧ (xs.length = i) ∧ (StabR (all.take i) xs) ∧ (rest = all.drop i) ∧ Lies G66 A F σ (.sl 79 3 v n (rkC (xs ++ rest)) :: (L)) ∧ ta 0 = v ∧ ta 1 = .int .i64 0 ∧ ta 2 = .int .i64 ((n : Nat) : Int) ∧ ta 3 = .func (.func 47) #[] #[] ∧ ta 8 = .int .i64 ((i : Nat) : Int)) (n - 1) ?_ ?_
 ·exact ⟨all.take 1, all.drop 1, 1, (by omega), (by rw [List.length_take]; omega), (stab_one (by omega)), rfl, H, rfl, rfl, rfl, rfl, rfl⟩
 clear H
 rintro mm ta _ ⟨xs, rest, i, hm, hx, hS, hr, H, e0, e1, e2, e3, e8⟩
 refine W.rst [(0, v), (1, .int .i64 0), (2, .int .i64 ((n : Nat) : Int)), (3, .func (.func 47) #[] #[]), (8, .int .i64 ((i : Nat) : Int))] ⟨e0, e1, e2, e3, e8, trivial⟩ fun TA => ?_
 clear e0 e1 e2 e3 e8
 refine W.seq ?_
 refine W.seq (W.region ?_)
 iterate 3 refine RW.v ?_
 refine RW.nil ?_
 refine W.rg [(0, v), (1, .int .i64 0), (2, .int .i64 ((n : Nat) : Int)), (3, .func (.func 47) #[] #[]), (8, .int .i64 ((i : Nat) : Int)), (14, .bool (decide (((i : Nat) : Int) < ((n : Nat) : Int))))] fun TA => ?_
 refine W.cond rfl (fun hc1 => ?_) (fun hc1 => ?_)
 ·have hc1b := hc1
  have hc1 := of_decide_eq_true hc1
  have hi : i < n := by omega
  obtain ⟨x, hx0⟩ : ∃ x, x = all.getD i rk0 := ⟨_, rfl⟩
  rw [hr, drop_consR (by omega) hx0, arr_start hx] at H
  have hal : ∀ j, j ≤ i → (arrR xs x (all.drop (i + 1)) j).length = n := fun j hj => by rw [arrR_len (by omega), List.length_drop]; omega
  refine W.skip ?_
  refine W.seq ?_
  refine W.block ?_
  refine W.seq (W.region ?_)
  iterate 2 refine RW.v ?_
  refine RW.nil ?_
  refine W.rg [(0, v), (1, .int .i64 0), (2, .int .i64 ((n : Nat) : Int)), (3, .func (.func 47) #[] #[]), (8, .int .i64 ((i : Nat) : Int)), (9, .int .i64 ((i : Nat) : Int))] fun TA => ?_
  refine W.block ?_
  refine W.loop (fun mm2 ta σ => ∃ (j : Nat), (j ≤ i) ∧ (mm2 = j) ∧ (∀ y ∈ xs.drop j, x.2 < y.2) ∧ Lies G66 A F σ (.sl 79 3 v n (rkC (arrR xs x (all.drop (i + 1)) j)) :: (L)) ∧ ta 0 = v ∧ ta 1 = .int .i64 0 ∧ ta 2 = .int .i64 ((n : Nat) : Int) ∧ ta 3 = .func (.func 47) #[] #[] ∧ ta 8 = .int .i64 ((i : Nat) : Int) ∧ ta 9 = .int .i64 ((j : Nat) : Int)) i ?_ ?_
  ·exact ⟨i, (Nat.le_refl _), rfl, (fun y hy => by rw [List.drop_of_length_le (by omega)] at hy; cases hy), H, rfl, rfl, rfl, rfl, rfl, rfl⟩
  clear H
  rintro mm2 ta _ ⟨j, hj, hmj, hD, H, e0, e1, e2, e3, e8, e9⟩
  refine W.rst [(0, v), (1, .int .i64 0), (2, .int .i64 ((n : Nat) : Int)), (3, .func (.func 47) #[] #[]), (8, .int .i64 ((i : Nat) : Int)), (9, .int .i64 ((j : Nat) : Int))] ⟨e0, e1, e2, e3, e8, e9, trivial⟩ fun TA => ?_
  clear e0 e1 e2 e3 e8 e9
  refine W.seq ?_
  refine W.seq ?_
  refine W.drawn (by kernel_rfl) (by kernel_rfl) H.gn ?_
  have H2 := H
  iterate 4 refine RW.v ?_
  refine RW.both _ _ rfl rfl rfl (fun hc3 => ?_) (fun hc3 => ?_)
  ·have hc3b := hc3
   have hc3 := of_decide_eq_true hc3
   obtain ⟨q, hq⟩ : ∃ q, j = q + 1 := ⟨j - 1, by omega⟩
   refine RW.val (by rfl) (by kernel_rfl) rfl (by kernel_rfl) ?_
   refine RW.val (by rfl) (by kernel_rfl) rfl (by kernel_rfl) ?_
   refine RW.val (by rfl) (by kernel_rfl) rfl (by kernel_rfl) ?_
   refine RW.idxG H2 0 rfl (by rfl) (by kernel_rfl) rfl Tryz.underlying76 (by kernel_rfl) rfl rfl ⟨by omega, by omega⟩ (by kernel_rfl) ?_
   intro b4 q5 r6 hF7 hE8
   rw [rkC_at (l := (arrR xs x (all.drop (i + 1)) j)) (j := j) (by rw [hal _ hj]; omega), arrR_at (by omega)] at hE8
   refine RW.loads 3 (by rfl) (by kernel_rfl) rfl rfl (hF7) hE8 rfl (by kernel_rfl) ?_
   refine RW.val (by rfl) (by kernel_rfl) rfl (by kernel_rfl) ?_
   refine RW.val (by rfl) (by kernel_rfl) rfl (by kernel_rfl) ?_
   refine RW.valE (v' := .int .i64 ((q : Nat) : Int)) (by rfl) (by kernel_rfl) rfl (congrArg (Value.int .i64) ((wrap_in (by omega) (by omega)).trans (by omega))) (by kernel_rfl) ?_
   refine RW.idxG H2 0 rfl (by rfl) (by kernel_rfl) rfl Tryz.underlying76 (by kernel_rfl) rfl rfl ⟨by omega, by omega⟩ (by kernel_rfl) ?_
   intro b9 q10 r11 hF12 hE13
   rw [rkC_at (l := (arrR xs x (all.drop (i + 1)) j)) (j := q) (by rw [hal _ hj]; omega), arrR_below' hq (by omega)] at hE13
   refine RW.loads 3 (by rfl) (by kernel_rfl) rfl rfl (hF12) hE13 rfl (by kernel_rfl) ?_
   refine RW.cl (hw := by rfl) ?_
   refine ((cmp_wc x (xs.getD q rk0) H2.gn H2.abs).mono ?_)
   rintro _ _ ⟨rfl, K14⟩
   have H15 : Lies G66 (A) F _ (.sl 79 3 v n (rkC (arrR xs x (all.drop (i + 1)) j)) :: (L)) := H2.then K14
   refine RW.val (by rfl) (by kernel_rfl) rfl (by kernel_rfl) ?_
   refine RW.v ?_
   refine RW.nil ?_
   refine ⟨⟨by kernel_rfl, ⟨trivial, trivial, trivial, trivial, trivial, trivial, trivial, trivial, dyn_row (hF7) ((K14.old _ _ hF7)) ⟨fun h => Bool.noConfusion h, fun h => Bool.noConfusion h, fun h => Bool.noConfusion h, fun h => Bool.noConfusion h, fun h => Bool.noConfusion h, fun h => Bool.noConfusion h, fun h => Bool.noConfusion h, fun h => Bool.noConfusion h, fun h => Bool.noConfusion h, fun h => Bool.noConfusion h, fun h => Bool.noConfusion h, fun h => Bool.noConfusion h, fun h => Bool.noConfusion h, fun h => Bool.noConfusion h, fun _ => hF7, fun h => Bool.noConfusion h, fun h => Bool.noConfusion h, trivial⟩, trivial, trivial, trivial, trivial, dyn_row (hF12) ((K14.old _ _ hF12)) ⟨fun h => Bool.noConfusion h, fun h => Bool.noConfusion h, fun h => Bool.noConfusion h, fun h => Bool.noConfusion h, fun h => Bool.noConfusion h, fun h => Bool.noConfusion h, fun h => Bool.noConfusion h, fun h => Bool.noConfusion h, fun h => Bool.noConfusion h, fun h => Bool.noConfusion h, fun h => Bool.noConfusion h, fun h => Bool.noConfusion h, fun h => Bool.noConfusion h, fun h => Bool.noConfusion h, fun _ => hF12, fun h => Bool.noConfusion h, fun h => Bool.noConfusion h, trivial⟩, trivial, trivial, trivial, trivial⟩⟩, ?_⟩
   replace H := H15
   clear H2 H15
   refine W.rg [(0, v), (1, .int .i64 0), (2, .int .i64 ((n : Nat) : Int)), (3, .func (.func 47) #[] #[]), (8, .int .i64 ((i : Nat) : Int)), (9, .int .i64 ((j : Nat) : Int)), (34, .bool (decide ((cmpI x.2 (xs.getD q rk0).2) < 0)))] fun TA => ?_
   refine W.cond rfl (fun hc16 => ?_) (fun hc16 => ?_)
   ·have hc16b := hc16
    have hc16 := of_decide_eq_true hc16
    have hlt := cmp_lt hc16
    refine W.skip ?_
    refine W.seq ?_
    refine W.block ?_
    refine W.drawn (by kernel_rfl) (by kernel_rfl) H.gn ?_
    have H17 := H
    iterate 4 refine RW.v ?_
    refine RW.valE (v' := .int .i64 ((q : Nat) : Int)) (by kernel_rfl) (by kernel_rfl) rfl (congrArg (Value.int .i64) ((wrap_in (by omega) (by omega)).trans (by omega))) (by kernel_rfl) ?_
    iterate 2 refine RW.v ?_
    refine RW.valE (v' := .int .i64 ((q : Nat) : Int)) (by kernel_rfl) (by kernel_rfl) rfl (congrArg (Value.int .i64) ((wrap_in (by omega) (by omega)).trans (by omega))) (by kernel_rfl) ?_
    refine RW.idxG H17 0 rfl (by kernel_rfl) (by kernel_rfl) rfl Tryz.underlying76 (by kernel_rfl) rfl rfl ⟨by omega, by omega⟩ (by kernel_rfl) ?_
    intro b18 q19 r20 hF21 hE22
    rw [rkC_at (l := (arrR xs x (all.drop (i + 1)) j)) (j := q) (by rw [hal _ hj]; omega), arrR_below' hq (by omega)] at hE22
    refine RW.loads 3 (by kernel_rfl) (by kernel_rfl) rfl rfl (hF21) hE22 rfl (by kernel_rfl) ?_
    iterate 2 refine RW.v ?_
    refine RW.idxG H17 0 rfl (by kernel_rfl) (by kernel_rfl) rfl Tryz.underlying76 (by kernel_rfl) rfl rfl ⟨by omega, by omega⟩ (by kernel_rfl) ?_
    intro b23 q24 r25 hF26 hE27
    rw [rkC_at (l := (arrR xs x (all.drop (i + 1)) j)) (j := j) (by rw [hal _ hj]; omega), arrR_at (by omega)] at hE27
    refine RW.loads 3 (by kernel_rfl) (by kernel_rfl) rfl rfl (hF26) hE27 rfl (by kernel_rfl) ?_
    refine RW.idxGS H17 0 rfl (by kernel_rfl) (by kernel_rfl) rfl Tryz.underlying76 (by kernel_rfl) rfl rfl ⟨by omega, by omega⟩ (by kernel_rfl) ?_
    intro b28 q29 hb30 hq31
    refine RW.stG H17 0 rfl hb30 (vs := [.int .i64 ((xs.getD q rk0).1.1), .int .i64 ((xs.getD q rk0).1.2), .int .i64 ((xs.getD q rk0).2)]) (by subst hq31; simp only [List.length_cons, List.length_nil]; omega) (by kernel_rfl) (by kernel_rfl) rfl rfl rfl rfl (by kernel_rfl) (by kernel_rfl) ?_
    intro _ H32
    dsimp only [setL, delL] at H32
    refine RW.idxGS H32 0 rfl (by kernel_rfl) (by kernel_rfl) rfl Tryz.underlying76 (by kernel_rfl) rfl rfl ⟨by omega, by omega⟩ (by kernel_rfl) ?_
    intro b33 q34 hb35 hq36
    refine RW.stG H32 0 rfl hb35 (vs := [.int .i64 x.1.1, .int .i64 x.1.2, .int .i64 x.2]) (by subst hq36; simp only [List.length_cons, List.length_nil]; omega) (by kernel_rfl) (by kernel_rfl) rfl rfl rfl rfl (by kernel_rfl) (by kernel_rfl) ?_
    intro _ H37
    dsimp only [setL, delL] at H37
    refine RW.nil ?_
    refine ⟨⟨by kernel_rfl, ⟨trivial, trivial, trivial, trivial, trivial, trivial, trivial, trivial, trivial, Or.inl (by kernel_rfl), trivial, trivial, trivial, Or.inl (by kernel_rfl), trivial, trivial, trivial, trivial, trivial⟩⟩, ?_⟩
    replace H := H37
    clear H17 H32 H37
    refine blkQ_normal ?_
    refine W.rg [(0, v), (1, .int .i64 0), (2, .int .i64 ((n : Nat) : Int)), (3, .func (.func 47) #[] #[]), (8, .int .i64 ((i : Nat) : Int)), (9, .int .i64 ((j : Nat) : Int))] fun TA => ?_
    refine W.region ?_
    refine RW.v ?_
    refine RW.valE (v' := .int .i64 ((q : Nat) : Int)) (by kernel_rfl) (by kernel_rfl) rfl (congrArg (Value.int .i64) ((wrap_in (by omega) (by omega)).trans (by omega))) (by kernel_rfl) ?_
    refine RW.v ?_
    refine RW.nil ?_
    rw [swap_cells hq (by omega) hq31 hq36] at H
    exact ⟨rfl, q, by omega, q, (by omega), rfl, (drop_less hq (by omega) hD hlt), H, rfl, rfl, rfl, rfl, rfl, rfl⟩
   ·have hc16b := hc16
    have hc16 := of_decide_eq_false hc16
    have hge := cmp_ge hc16
    have hT : ∀ k, j = k + 1 → (xs.getD k rk0).2 ≤ x.2 := fun k hk => by rw [show k = q by omega]; exact hge
    refine W.exit _ ?_
    refine seqQ_exit ?_
    refine rndQ_exit ?_
    refine blkQ_here ?_
    refine blkQ_normal ?_
    refine W.region ?_
    refine RW.v ?_
    refine RW.valE (v' := .int .i64 (((i : Nat) : Int) + 1)) (by kernel_rfl) (by kernel_rfl) rfl (congrArg (Value.int .i64) (wrap_in (by omega) (by omega))) (by kernel_rfl) ?_
    refine RW.v ?_
    refine RW.nil ?_
    rw [arrR_next] at H
    exact ⟨rfl, mm - 1, by omega, xs.take j ++ x :: xs.drop j, all.drop (i + 1), i + 1, (by omega), (by rw [List.length_append, List.length_cons, List.length_take, List.length_drop]; omega), (by rw [take_snocR (by omega) hx0]; exact stab_insert hS hD (take_all hS.sorted hT (by omega))), rfl, H, rfl, rfl, rfl, rfl, rfl⟩
  ·have hc3b := hc3
   have hc3 := of_decide_eq_false hc3
   have hT : ∀ k, j = k + 1 → (xs.getD k rk0).2 ≤ x.2 := fun k hk => by omega
   refine RW.skip (by rfl) (by kernel_rfl) ?_
   refine RW.skip (by rfl) (by kernel_rfl) ?_
   refine RW.skip (by rfl) (by kernel_rfl) ?_
   refine RW.skip (by rfl) (by kernel_rfl) ?_
   refine RW.skip (by rfl) (by kernel_rfl) ?_
   refine RW.skip (by rfl) (by kernel_rfl) ?_
   refine RW.skip (by rfl) (by kernel_rfl) ?_
   refine RW.skip (by rfl) (by kernel_rfl) ?_
   refine RW.skip (by rfl) (by kernel_rfl) ?_
   refine RW.skip (by rfl) (by kernel_rfl) ?_
   refine RW.skip (by rfl) (by kernel_rfl) ?_
   refine RW.skip (by rfl) (by kernel_rfl) ?_
   refine RW.v ?_
   refine RW.nil ?_
   refine ⟨⟨by kernel_rfl, ⟨trivial, trivial, trivial, trivial, trivial, trivial, trivial, trivial, trivial, trivial, trivial, trivial, trivial, trivial, trivial, trivial, trivial, trivial⟩⟩, ?_⟩
   replace H := H2
   clear H2
   refine W.c0 ?_
   refine W.exit _ ?_
   refine seqQ_exit ?_
   refine rndQ_exit ?_
   refine blkQ_here ?_
   refine blkQ_normal ?_
   refine W.region ?_
   refine RW.v ?_
   refine RW.valE (v' := .int .i64 (((i : Nat) : Int) + 1)) (by kernel_rfl) (by kernel_rfl) rfl (congrArg (Value.int .i64) (wrap_in (by omega) (by omega))) (by kernel_rfl) ?_
   refine RW.v ?_
   refine RW.nil ?_
   rw [arrR_next] at H
   exact ⟨rfl, mm - 1, by omega, xs.take j ++ x :: xs.drop j, all.drop (i + 1), i + 1, (by omega), (by rw [List.length_append, List.length_cons, List.length_take, List.length_drop]; omega), (by rw [take_snocR (by omega) hx0]; exact stab_insert hS hD (take_all hS.sorted hT (by omega))), rfl, H, rfl, rfl, rfl, rfl, rfl⟩
 ·have hc1b := hc1
  have hc1 := of_decide_eq_false hc1
  refine W.exit _ ?_
  refine seqQ_exit ?_
  refine rndQ_exit ?_
  refine blkQ_here ?_
  refine endG (by rfl) (by exact rfl) ?_
  exact ⟨rfl, _, sort_end hS (by omega) hn hr, H⟩
set_option maxHeartbeats 8000000 in
theorem sort_wc {σ : Mem} (hn : all.length = n) (h1 : 1 ≤ n) (h2 : n ≤ 19) (H : Lies G66 A F σ (.sl 79 3 v n (rkC all) :: L)) : WC G66 Tryz.prog 46 #[v, .func (.func 47) #[] #[]] σ fun r σ' => r = undef ∧ ∃ ys, StabR all ys ∧ Lies G66 A F σ' (.sl 79 3 v n (rkC ys) :: L) := by
 refine WC.enter (fn := Tryz.f46) Tryz.func46 rfl ?_
 refine W.rg [(0, v), (1, .func (.func 47) #[] #[])] fun TA => ?_
 refine W.region ?_
 iterate 2 refine RW.v ?_
 refine RW.len (by kernel_rfl) (by kernel_rfl) rfl rfl rfl rfl ((H.sl 0 rfl).len (by kernel_rfl)) (by kernel_rfl) ?_
 refine RW.v ?_
 refine RW.cl ?_
 refine WC.enter (fn := Tryz.f77) Tryz.func77 rfl ?_
 refine W.rg [(0, v), (1, .int .i64 ((n : Nat) : Int)), (2, .func (.func 47) #[] #[])] fun TA => ?_
 refine W.seq (W.region ?_)
 refine RW.v ?_
 refine RW.nil ?_
 refine W.rg [(0, v), (1, .int .i64 ((n : Nat) : Int)), (2, .func (.func 47) #[] #[]), (6, .int .i64 20)] fun TA => ?_
 refine W.seq (W.region ?_)
 iterate 3 refine RW.v ?_
 refine RW.nil ?_
 refine W.rg [(0, v), (1, .int .i64 ((n : Nat) : Int)), (2, .func (.func 47) #[] #[]), (6, .int .i64 20), (7, .int .i64 0), (8, .int .i64 20)] fun TA => ?_
 refine W.seq ?_
 refine W.block ?_
 refine W.unroll (WL.once ?_)
 refine W.seq ?_
 refine W.seq (W.region ?_)
 iterate 2 refine RW.v ?_
 refine RW.valE (v' := .bool false) (by kernel_rfl) (by kernel_rfl) rfl (congrArg Value.bool (decide_eq_false (by omega))) (by kernel_rfl) ?_
 refine RW.nil ?_
 refine W.c0 ?_
 refine W.exit _ ?_
 refine seqQ_exit ?_
 refine onceQ_exit ?_
 refine blkQ_here ?_
 refine W.seq (W.region ?_)
 iterate 4 refine RW.v ?_
 refine RW.cl ?_
 refine ((isort_wc hn h1 h2 H).mono ?_)
 clear H
 rintro _ _ ⟨rfl, ys, hys, H⟩
 refine RW.nil ?_
 refine W.rg [(0, v), (1, .int .i64 ((n : Nat) : Int)), (2, .func (.func 47) #[] #[]), (6, .int .i64 20)] fun TA => ?_
 refine W.block ?_
 refine W.unroll (WL.once ?_)
 refine W.seq ?_
 refine W.seq (W.region ?_)
 iterate 2 refine RW.v ?_
 refine RW.valE (v' := .bool false) (by kernel_rfl) (by kernel_rfl) rfl (congrArg Value.bool (decide_eq_false (by omega))) (by kernel_rfl) ?_
 refine RW.nil ?_
 refine W.c0 ?_
 refine W.exit _ ?_
 refine seqQ_exit ?_
 refine onceQ_exit ?_
 refine blkQ_here ?_
 refine endG (by rfl) (by exact rfl) ?_
 refine RW.nil ?_
 refine endG (by rfl) (by exact rfl) ?_
 exact ⟨rfl, ys, hys, H⟩
end
end Go.Proofs.YtaaebeiigkhcjaaGreatDoor
