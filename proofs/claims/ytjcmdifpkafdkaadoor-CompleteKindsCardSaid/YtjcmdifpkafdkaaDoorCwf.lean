/-
 Strings found in grown slices, and deleted. Conditions: none.
-/
import Derived.Test.YtjcmdifpkafdkaaDoorV1
import Derived.Test.YtjcmdifpkafdkaaDoorL3
namespace Go.Proofs.YtjcmdifpkafdkaaDoor
open Go.Lib
set_option maxRecDepth 100000
theorem takeT_snoc {ws : List (List UInt8)} {j : Nat} (hj : j < ws.length) : ws.take (j + 1) = ws.take j ++ [gD ws j] := by
 unfold gD
 rw [List.take_add_one, List.getElem?_eq_getElem hj, List.getD_eq_getElem?_getD, List.getElem?_eq_getElem hj]
 rfl
section
variable {p : List UInt8 → Bool} {l arr : List (List UInt8)} {i j a n : Nat}
theorem delT_getD (h : arr.drop j = l.drop j) (h1 : j < arr.length) (h2 : j < l.length) : gD arr j = gD l j := by
 unfold gD
 rw [List.getD_eq_getElem?_getD, List.getD_eq_getElem?_getD, List.getElem?_eq_getElem h1, List.getElem?_eq_getElem h2]
 rw [List.drop_eq_getElem_cons h1, List.drop_eq_getElem_cons h2] at h
 exact (List.cons.inj h).1
theorem delT_next (h : arr.drop j = l.drop j) : arr.drop (j + 1) = l.drop (j + 1) := by
 rw [← List.drop_drop, ← List.drop_drop, h]
theorem delT_not (hi : i < l.length) (hN : ∀ y ∈ l.take i, p y = false) (h : p (gD l i) = false) : ∀ y ∈ l.take (i + 1), p y = false := by
 rw [takeT_snoc hi]
 intro y hy
 rcases List.mem_append.1 hy with e | e
 ·exact hN y e
 ·rw [List.mem_singleton.1 e]; exact h
theorem delT_none (hN : ∀ y ∈ l.take i, p y = false) (hi : l.length ≤ i) : (l.filter fun y => !p y) = l := by
 rw [List.take_of_length_le hi] at hN
 exact List.filter_eq_self.2 fun y hy => by rw [hN y hy]; rfl
theorem delT_start (hi : i < l.length) (hN : ∀ y ∈ l.take i, p y = false) (h : p (gD l i) = true) : l.take i = (l.take (i + 1)).filter fun y => !p y := by
 rw [takeT_snoc hi, List.filter_append, List.filter_eq_self.2 fun y hy => by rw [hN y hy]; rfl, List.filter_cons_of_neg (by rw [h]; decide)]
 exact (List.append_nil _).symm
theorem delT_drop (hA : arr.take a = (l.take j).filter fun y => !p y) (hD : arr.drop j = l.drop j) (h1 : j < arr.length) (h2 : j < l.length) (h : p (gD arr j) = true) : arr.take a = (l.take (j + 1)).filter fun y => !p y := by
 rw [delT_getD hD h1 h2] at h
 rw [takeT_snoc h2, List.filter_append, List.filter_cons_of_neg (by rw [h]; decide), hA]
 exact (List.append_nil _).symm
theorem delT_keep (hA : arr.take a = (l.take j).filter fun y => !p y) (hD : arr.drop j = l.drop j) (haj : a < j) (h1 : j < arr.length) (h2 : j < l.length) (h : p (gD arr j) = false) : (arr.set a (gD arr j)).take (a + 1) = (l.take (j + 1)).filter fun y => !p y := by
 have e : (arr.set a (gD arr j)).take (a + 1) = arr.take a ++ [gD arr j] := by
  rw [List.take_add_one, List.getElem?_set_self (by omega), List.take_set_of_le (Nat.le_refl _)]
  rfl
 rw [delT_getD hD h1 h2] at h e ⊢
 rw [e, takeT_snoc h2, List.filter_append, List.filter_cons_of_pos (by rw [h]; rfl), hA]
 rfl
theorem delT_rest {x : List UInt8} (hD : arr.drop j = l.drop j) (haj : a < j + 1) : (arr.set a x).drop (j + 1) = l.drop (j + 1) := by
 rw [List.drop_set_of_lt haj]
 exact delT_next hD
theorem delT_cells {zs : List Value} (hA : arr.take a = (l.take n).filter fun y => !p y) (hL : arr.length = n) (hn : a ≤ n ∧ l.length = n) : ((rowX celS arr).take (a * 1) ++ zs).take (a * 1) = rowX celS (l.filter fun y => !p y) := by
 rw [List.take_of_length_le (l := l) (by omega)] at hA
 rw [Nat.mul_one, rowS_map, rowS_map, List.take_left' (by rw [List.length_take, List.length_map]; omega), ← List.map_take, hA]
theorem delT_len (hA : arr.take a = (l.take n).filter fun y => !p y) (hL : arr.length = n) (hn : a ≤ n ∧ l.length = n) : a = (l.filter fun y => !p y).length := by
 rw [List.take_of_length_le (l := l) (by omega)] at hA
 rw [← hA, List.length_take]
 omega
theorem mem_skip {x : List UInt8} (h : i < l.length) (k : (x == gD l i) = false) : decide (x ∈ l.drop i) = decide (x ∈ l.drop (i + 1)) := by
 rw [dropD (d := default) h]
 exact decide_eq_decide.2 ⟨fun e => (List.mem_cons.1 e).resolve_left fun e => (by rw [show x = gD l i from e] at k; rw [beq_self_eq_true] at k; cases k), fun e => List.mem_cons_of_mem _ e⟩
theorem mem_hit {x : List UInt8} (h : i < l.length) (k : (x == gD l i) = true) : decide (x ∈ l.drop i) = true := by
 rw [dropD (d := default) h]
 exact decide_eq_true (List.mem_cons.2 (.inl (eq_of_beq k)))
end
theorem grow_someG {P : Program} {G : Nat} {σ : Mem} {t e s n i : Nat} {v : Value} {xs : List Value} (h : GRow G σ e s v n xs) (hi : i ≤ n) (ht : uT P t = some (.slice e)) (hz : sizeT P e = some s) : ∃ v', sliceF P t v (some (.int .i64 ((i : Nat) : Int))) none none = some v' := by
 rcases grow_rest h hi ht hz with ⟨_, _, e⟩ | ⟨_, _, _, e⟩ <;> exact ⟨_, e⟩
section
variable {G : Nat} {A : Abs} {σ : Mem} {F : Nat → Option Blk2} {L : List Ent} {w : Value} {M : Nat} {os : List (List UInt8)}
set_option maxHeartbeats 4000000 in
theorem index_gs {x : List UInt8} (hM : os.length = M) (hM0 : M ≤ 1000000) (H : Lies G A F σ (.sl 9 1 w M (rowX celS os) :: L)) : WC G Tryd.prog 100 #[w, .string ⟨x.toArray⟩] σ fun v σ' => ∃ r : Int, v = .int .i64 r ∧ -1 ≤ r ∧ decide (r ≥ 0) = decide (x ∈ os) ∧ Lies G A F σ' (.sl 9 1 w M (rowX celS os) :: L) := by
 refine WC.enter (fn := Tryd.f100) Tryd.func100 rfl ?_
 refine W.rg [(0, w), (1, .string ⟨x.toArray⟩)] fun TA => ?_
 refine W.seq (W.region ?_)
 refine RW.v ?_
 refine RW.nil ?_
 refine W.rg [(0, w), (1, .string ⟨x.toArray⟩)] fun TA => ?_
 refine W.seq ?_
 refine W.seq (W.region ?_)
 refine RW.v ?_
 refine RW.len (by kernel_rfl) (by kernel_rfl) rfl rfl rfl rfl ((H.sl 0 rfl).len (by kernel_rfl)) (by kernel_rfl) ?_
 refine RW.v ?_
 refine RW.nil ?_
 refine W.rg [(0, w), (1, .string ⟨x.toArray⟩), (7, .int .i64 ((M : Nat) : Int)), (8, .int .i64 0)] fun TA => ?_
 refine W.block ?_
 refine W.loop (fun mm ta σ => ∃ (i : Nat), (mm + i = M) ∧ (decide (x ∈ os) = decide (x ∈ os.drop i)) ∧ Lies G A F σ (.sl 9 1 w M (rowX celS os) :: (L)) ∧ ta 0 = w ∧ ta 1 = .string ⟨x.toArray⟩ ∧ ta 7 = .int .i64 ((M : Nat) : Int) ∧ ta 8 = .int .i64 ((i : Nat) : Int)) M ?_ ?_
 ·exact ⟨0, (by omega), rfl, H, rfl, rfl, rfl, rfl⟩
 clear H
 rintro mm ta _ ⟨i, hm, hT, H, e0, e1, e7, e8⟩
 refine W.rst [(0, w), (1, .string ⟨x.toArray⟩), (7, .int .i64 ((M : Nat) : Int)), (8, .int .i64 ((i : Nat) : Int))] ⟨e0, e1, e7, e8, trivial⟩ fun TA => ?_
 clear e0 e1 e7 e8
 refine W.seq (W.region ?_)
 refine RW.v ?_
 refine RW.nil ?_
 refine W.rg [(0, w), (1, .string ⟨x.toArray⟩), (7, .int .i64 ((M : Nat) : Int)), (8, .int .i64 ((i : Nat) : Int)), (9, .bool (decide (((i : Nat) : Int) < ((M : Nat) : Int))))] fun TA => ?_
 refine W.seq ?_
 refine W.cond rfl (fun hc1 => ?_) (fun hc1 => ?_)
 ·have hc1b := hc1
  have hc1 := of_decide_eq_true hc1
  refine W.skip ?_
  refine W.seq ?_
  refine W.block ?_
  refine W.seq (W.region ?_)
  iterate 2 refine RW.v ?_
  refine RW.nil ?_
  refine W.rg [(0, w), (1, .string ⟨x.toArray⟩), (5, .int .i64 ((i : Nat) : Int)), (7, .int .i64 ((M : Nat) : Int)), (8, .int .i64 ((i : Nat) : Int))] fun TA => ?_
  refine W.seq (W.region ?_)
  iterate 3 refine RW.v ?_
  refine RW.idxG H 0 rfl (by kernel_rfl) (by kernel_rfl) rfl Tryd.underlying22 (by kernel_rfl) rfl rfl ⟨by omega, by omega⟩ (by kernel_rfl) ?_
  intro b2 q3 r4 hF5 hE6
  rw [rowS_at (xs := os) (j := i) (i := ((i : Nat) : Int)) (by omega) (by first | omega | (simp only [List.length_set]; omega))] at hE6
  refine RW.loads 1 (by kernel_rfl) (by kernel_rfl) rfl rfl (hF5) hE6 rfl (by kernel_rfl) ?_
  refine RW.vop (v := .bool (x == (gD os i))) (by kernel_rfl) (by kernel_rfl) (vop_sEq rfl rfl rfl rfl) (by kernel_rfl) ?_
  refine RW.nil ?_
  refine W.rg [(0, w), (1, .string ⟨x.toArray⟩), (5, .int .i64 ((i : Nat) : Int)), (7, .int .i64 ((M : Nat) : Int)), (8, .int .i64 ((i : Nat) : Int)), (16, .bool (x == (gD os i)))] fun TA => ?_
  refine W.cond rfl (fun hc7 => ?_) (fun hc7 => ?_)
  ·have hc7b := hc7
   have hc7 := eq_of_beq hc7
   refine W.seq (W.region ?_)
   iterate 2 refine RW.v ?_
   refine RW.nil ?_
   refine W.ret ?_
   refine blkQ_ret ?_
   refine seqQ_ret ?_
   refine rndQ_ret ?_
   refine blkQ_ret ?_
   refine seqQ_ret ?_
   refine endG (by rfl) (by exact resL_tmp rfl) ?_
   exact ⟨_, rfl, by omega, by rw [hT, mem_hit (show i < os.length by omega) hc7b]; exact decide_eq_true (by omega), H⟩
  ·have hc7b := hc7
   have hc7 := ne_of_beq_false hc7
   refine W.skip ?_
   refine bQn ?_
   refine W.region ?_
   refine RW.valE (v' := .int .i64 (((i : Nat) : Int) + 1)) (by kernel_rfl) (by kernel_rfl) rfl (congrArg (Value.int .i64) (wrap_in (by omega) (by omega))) (by kernel_rfl) ?_
   refine RW.v ?_
   refine RW.nil ?_
   exact ⟨rfl, mm - 1, by omega, i + 1, (by omega), (by rw [hT, mem_skip (show i < os.length by omega) hc7b]), H, rfl, rfl, rfl, rfl⟩
 ·have hc1b := hc1
  have hc1 := of_decide_eq_false hc1
  refine W.exit _ ?_
  refine seqQ_exit ?_
  refine rndQ_exit ?_
  refine blkQ_here ?_
  refine W.seq (W.region ?_)
  refine RW.v ?_
  refine RW.nil ?_
  refine W.ret ?_
  refine endG (by rfl) (by exact resL_tmp rfl) ?_
  exact ⟨_, rfl, by decide, by rw [hT, List.drop_eq_nil_of_le (by omega), decide_eq_false (List.not_mem_nil)]; rfl, H⟩
set_option maxHeartbeats 4000000 in
theorem contains_gs {x : List UInt8} (hM : os.length = M) (hM0 : M ≤ 1000000) (H : Lies G A F σ (.sl 9 1 w M (rowX celS os) :: L)) : WC G Tryd.prog 75 #[w, .string ⟨x.toArray⟩] σ fun v σ' => v = .bool (decide (x ∈ os)) ∧ Lies G A F σ' (.sl 9 1 w M (rowX celS os) :: L) := by
 refine WC.enter (fn := Tryd.f75) Tryd.func75 rfl ?_
 refine W.rg [(0, w), (1, .string ⟨x.toArray⟩)] fun TA => ?_
 refine W.seq (W.region ?_)
 refine RW.v ?_
 refine RW.nil ?_
 refine W.rg [(0, w), (1, .string ⟨x.toArray⟩)] fun TA => ?_
 refine W.seq (W.region ?_)
 iterate 2 refine RW.v ?_
 refine RW.cl ?_
 refine ((index_gs (x := x) hM hM0 H).mono ?_)
 clear H
 rintro _ _ ⟨r, rfl, hr1, hr2, H⟩
 refine RW.valE (v' := .bool (decide (x ∈ os))) (by kernel_rfl) (by kernel_rfl) rfl (congrArg Value.bool hr2) (by kernel_rfl) ?_
 refine RW.v ?_
 refine RW.nil ?_
 refine W.ret ?_
 refine endG (by rfl) (by exact resL_tmp rfl) ?_
 exact ⟨rfl, H⟩
set_option maxHeartbeats 4000000 in
theorem cl_in1 {x : List UInt8} {b6 : Nat} (hM : os.length = M) (hM0 : M ≤ 1000000) (H : Lies G A F σ (.at_ b6 (.row ⟨[w], 22, false⟩) :: .sl 9 1 w M (rowX celS os) :: L)) : WC G Tryd.prog 74 #[.string ⟨x.toArray⟩, .pointer (some ⟨b6, 0, none⟩)] σ fun v σ' => v = .bool (decide (x ∈ os)) ∧ Lies G A F σ' (.at_ b6 (.row ⟨[w], 22, false⟩) :: .sl 9 1 w M (rowX celS os) :: L) := by
 refine WC.enter (fn := Tryd.f74) Tryd.func74 rfl ?_
 refine W.rg [(0, .string ⟨x.toArray⟩), (1, .pointer (some ⟨b6, 0, none⟩))] fun TA => ?_
 refine W.seq (W.region ?_)
 refine RW.v ?_
 refine RW.nil ?_
 refine W.rg [(0, .string ⟨x.toArray⟩), (1, .pointer (some ⟨b6, 0, none⟩))] fun TA => ?_
 refine W.seq (W.region ?_)
 refine RW.ld H 0 1 ?_
 refine RW.v ?_
 replace H := H.front 1 rfl
 dsimp only [setL, delL] at H
 refine RW.cl ?_
 refine ((contains_gs (x := x) hM hM0 H).mono ?_)
 clear H
 rintro _ _ ⟨rfl, H⟩
 refine RW.v ?_
 refine RW.nil ?_
 refine W.ret ?_
 refine endG (by rfl) (by exact resL_tmp rfl) ?_
 replace H := H.front 1 rfl
 dsimp only [setL, delL] at H
 exact ⟨rfl, H⟩
set_option maxHeartbeats 4000000 in
theorem cl_in2 {x : List UInt8} {b6 : Nat} (hM : os.length = M) (hM0 : M ≤ 1000000) (H : Lies G A F σ (.at_ b6 (.row ⟨[w], 22, false⟩) :: .sl 9 1 w M (rowX celS os) :: L)) : WC G Tryd.prog 77 #[.string ⟨x.toArray⟩, .pointer (some ⟨b6, 0, none⟩)] σ fun v σ' => v = .bool (decide (x ∈ os)) ∧ Lies G A F σ' (.at_ b6 (.row ⟨[w], 22, false⟩) :: .sl 9 1 w M (rowX celS os) :: L) := by
 refine WC.enter (fn := Tryd.f77) Tryd.func77 rfl ?_
 refine W.rg [(0, .string ⟨x.toArray⟩), (1, .pointer (some ⟨b6, 0, none⟩))] fun TA => ?_
 refine W.seq (W.region ?_)
 refine RW.v ?_
 refine RW.nil ?_
 refine W.rg [(0, .string ⟨x.toArray⟩), (1, .pointer (some ⟨b6, 0, none⟩))] fun TA => ?_
 refine W.seq (W.region ?_)
 refine RW.ld H 0 1 ?_
 refine RW.v ?_
 replace H := H.front 1 rfl
 dsimp only [setL, delL] at H
 refine RW.cl ?_
 refine ((contains_gs (x := x) hM hM0 H).mono ?_)
 clear H
 rintro _ _ ⟨rfl, H⟩
 refine RW.v ?_
 refine RW.nil ?_
 refine W.ret ?_
 refine endG (by rfl) (by exact resL_tmp rfl) ?_
 replace H := H.front 1 rfl
 dsimp only [setL, delL] at H
 exact ⟨rfl, H⟩
set_option maxHeartbeats 8000000 in
theorem delS_wc {v : Value} {N b6 : Nat} {l : List (List UInt8)} (hM : os.length = M) (hM0 : M ≤ 1000000) (hl : l.length = N) (hN0 : N ≤ 1000000) (H : Lies G A F σ (.sl 9 1 v N (rowX celS l) :: .at_ b6 (.row ⟨[w], 22, false⟩) :: .sl 9 1 w M (rowX celS os) :: L)) : WC G Tryd.prog 76 #[v, .func (.func 77) #[] #[.pointer (some ⟨b6, 0, none⟩)]] σ fun r σ' => ∃ n', n' = (l.filter fun y => !decide (y ∈ os)).length ∧ Lies G A F σ' (.sl 9 1 r n' (rowX celS (l.filter fun y => !decide (y ∈ os))) :: .at_ b6 (.row ⟨[w], 22, false⟩) :: .sl 9 1 w M (rowX celS os) :: L) := by
 refine WC.enter (fn := Tryd.f76) Tryd.func76 rfl ?_
 refine W.rg [(0, v), (1, .func (.func 77) #[] #[.pointer (some ⟨b6, 0, none⟩)])] fun TA => ?_
 refine W.seq (W.region ?_)
 refine RW.v ?_
 refine RW.nil ?_
 refine W.rg [(0, v), (1, .func (.func 77) #[] #[.pointer (some ⟨b6, 0, none⟩)])] fun TA => ?_
 refine W.seq (W.region ?_)
 iterate 2 refine RW.v ?_
 refine RW.cl ?_
 refine WC.enter (fn := Tryd.f97) Tryd.func97 rfl ?_
 refine W.rg [(0, v), (1, .func (.func 77) #[] #[.pointer (some ⟨b6, 0, none⟩)])] fun TA => ?_
 refine W.seq (W.region ?_)
 refine RW.v ?_
 refine RW.nil ?_
 refine W.rg [(0, v), (1, .func (.func 77) #[] #[.pointer (some ⟨b6, 0, none⟩)])] fun TA => ?_
 refine W.seq ?_
 refine W.seq (W.region ?_)
 refine RW.v ?_
 refine RW.len (by kernel_rfl) (by kernel_rfl) rfl rfl rfl rfl ((H.sl 0 rfl).len (by kernel_rfl)) (by kernel_rfl) ?_
 refine RW.v ?_
 refine RW.nil ?_
 refine W.rg [(0, v), (1, .func (.func 77) #[] #[.pointer (some ⟨b6, 0, none⟩)]), (7, .int .i64 ((N : Nat) : Int)), (8, .int .i64 0)] fun TA => ?_
 refine W.block ?_
 replace H := H.front 2 rfl
 dsimp only [setL, delL] at H
 replace H := H.front 2 rfl
 dsimp only [setL, delL] at H
 replace H := H.front 2 rfl
 dsimp only [setL, delL] at H
 refine W.loop (fun mm ta σ => ∃ (i : Nat), (mm + i = N) ∧ (∀ y ∈ l.take i, (fun y => decide (y ∈ os)) y = false) ∧ Lies G A F σ (.sl 9 1 v N (rowX celS l) :: .at_ b6 (.row ⟨[w], 22, false⟩) :: .sl 9 1 w M (rowX celS os) :: (L)) ∧ ta 0 = v ∧ ta 1 = .func (.func 77) #[] #[.pointer (some ⟨b6, 0, none⟩)] ∧ ta 7 = .int .i64 ((N : Nat) : Int) ∧ ta 8 = .int .i64 ((i : Nat) : Int)) N ?_ ?_
 ·exact ⟨0, (by omega), (fun y hy => by simp at hy), H, rfl, rfl, rfl, rfl⟩
 clear H
 rintro mm ta _ ⟨i, hm, hN, H, e0, e1, e7, e8⟩
 refine W.rst [(0, v), (1, .func (.func 77) #[] #[.pointer (some ⟨b6, 0, none⟩)]), (7, .int .i64 ((N : Nat) : Int)), (8, .int .i64 ((i : Nat) : Int))] ⟨e0, e1, e7, e8, trivial⟩ fun TA => ?_
 clear e0 e1 e7 e8
 refine W.seq (W.region ?_)
 refine RW.v ?_
 refine RW.nil ?_
 refine W.rg [(0, v), (1, .func (.func 77) #[] #[.pointer (some ⟨b6, 0, none⟩)]), (7, .int .i64 ((N : Nat) : Int)), (8, .int .i64 ((i : Nat) : Int)), (9, .bool (decide (((i : Nat) : Int) < ((N : Nat) : Int))))] fun TA => ?_
 refine W.seq ?_
 refine W.cond rfl (fun hc1 => ?_) (fun hc1 => ?_)
 ·have hc1b := hc1
  have hc1 := of_decide_eq_true hc1
  refine W.skip ?_
  refine W.seq ?_
  refine W.block ?_
  refine W.seq (W.region ?_)
  iterate 2 refine RW.v ?_
  refine RW.nil ?_
  refine W.rg [(0, v), (1, .func (.func 77) #[] #[.pointer (some ⟨b6, 0, none⟩)]), (5, .int .i64 ((i : Nat) : Int)), (7, .int .i64 ((N : Nat) : Int)), (8, .int .i64 ((i : Nat) : Int))] fun TA => ?_
  refine W.seq (W.region ?_)
  iterate 3 refine RW.v ?_
  refine RW.idxG H 0 rfl (by kernel_rfl) (by kernel_rfl) rfl Tryd.underlying22 (by kernel_rfl) rfl rfl ⟨by omega, by omega⟩ (by kernel_rfl) ?_
  intro b2 q3 r4 hF5 hE6
  rw [rowS_at (xs := l) (j := i) (i := ((i : Nat) : Int)) (by omega) (by first | omega | (simp only [List.length_set]; omega))] at hE6
  refine RW.loads 1 (by kernel_rfl) (by kernel_rfl) rfl rfl (hF5) hE6 rfl (by kernel_rfl) ?_
  replace H := H.front 2 rfl
  dsimp only [setL, delL] at H
  replace H := H.front 2 rfl
  dsimp only [setL, delL] at H
  refine RW.cl ?_
  refine ((cl_in2 (x := (gD l i)) hM hM0 H).mono ?_)
  clear H
  rintro _ _ ⟨rfl, H⟩
  refine RW.nil ?_
  refine W.rg [(0, v), (1, .func (.func 77) #[] #[.pointer (some ⟨b6, 0, none⟩)]), (5, .int .i64 ((i : Nat) : Int)), (7, .int .i64 ((N : Nat) : Int)), (8, .int .i64 ((i : Nat) : Int)), (16, .bool (decide ((gD l i) ∈ os)))] fun TA => ?_
  refine W.cond rfl (fun hc7 => ?_) (fun hc7 => ?_)
  ·have hc7b := hc7
   have hc7 := of_decide_eq_true hc7
   refine W.seq (W.region ?_)
   iterate 2 refine RW.v ?_
   refine RW.nil ?_
   refine W.ret ?_
   refine blkQ_ret ?_
   refine seqQ_ret ?_
   refine rndQ_ret ?_
   refine blkQ_ret ?_
   refine seqQ_ret ?_
   refine endG (by rfl) (by exact resL_tmp rfl) ?_
   refine RW.v ?_
   refine RW.nil ?_
   refine W.rg [(0, v), (1, .func (.func 77) #[] #[.pointer (some ⟨b6, 0, none⟩)]), (5, .int .i64 ((i : Nat) : Int))] fun TA => ?_
   refine W.seq ?_
   refine W.seq (W.region ?_)
   refine RW.v ?_
   refine RW.valE (v' := .bool false) (by kernel_rfl) (by kernel_rfl) rfl (congrArg Value.bool (beq_eq_false_iff_ne.2 (by omega))) (by kernel_rfl) ?_
   refine RW.nil ?_
   refine W.c0 ?_
   refine W.skip ?_
   refine W.seq ?_
   refine W.seq (W.region ?_)
   refine RW.v ?_
   refine RW.valE (v' := .int .i64 (((i : Nat) : Int) + 1)) (by kernel_rfl) (by kernel_rfl) rfl (congrArg (Value.int .i64) (wrap_in (by omega) (by omega))) (by kernel_rfl) ?_
   refine RW.v ?_
   refine RW.nil ?_
   refine W.rg [(0, v), (1, .func (.func 77) #[] #[.pointer (some ⟨b6, 0, none⟩)]), (5, .int .i64 ((i : Nat) : Int)), (6, .int .i64 (((i : Nat) : Int) + 1))] fun TA => ?_
   refine W.block ?_
   replace H := H.front 1 rfl
   dsimp only [setL, delL] at H
   replace H := H.front 1 rfl
   dsimp only [setL, delL] at H
   replace H := H.front 2 rfl
   dsimp only [setL, delL] at H
   refine W.loop (fun mm2 ta σ => ∃ (a : Nat) (j : Nat) (arr : List (List UInt8)), (mm2 + j = N) ∧ (a < j) ∧ (arr.take a = (l.take j).filter fun y => !(fun y => decide (y ∈ os)) y) ∧ (arr.drop j = l.drop j) ∧ (arr.length = N) ∧ Lies G A F σ (.sl 9 1 v N (rowX celS arr) :: .at_ b6 (.row ⟨[w], 22, false⟩) :: .sl 9 1 w M (rowX celS os) :: (L)) ∧ ta 0 = v ∧ ta 1 = .func (.func 77) #[] #[.pointer (some ⟨b6, 0, none⟩)] ∧ ta 5 = .int .i64 ((a : Nat) : Int) ∧ ta 6 = .int .i64 ((j : Nat) : Int)) (N - (i + 1)) ?_ ?_
   ·exact ⟨i, i + 1, l, (by omega), (by omega), (delT_start (p := (fun y => decide (y ∈ os))) (by omega) hN (decide_eq_true hc7)), rfl, hl, H, rfl, rfl, rfl, rfl⟩
   clear H
   rintro mm2 ta _ ⟨a, j, arr, hm2, haj, hA, hD, hL, H, e0, e1, e5, e6⟩
   refine W.rst [(0, v), (1, .func (.func 77) #[] #[.pointer (some ⟨b6, 0, none⟩)]), (5, .int .i64 ((a : Nat) : Int)), (6, .int .i64 ((j : Nat) : Int))] ⟨e0, e1, e5, e6, trivial⟩ fun TA => ?_
   clear e0 e1 e5 e6
   refine W.seq ?_
   refine W.seq (W.region ?_)
   iterate 2 refine RW.v ?_
   refine RW.len (by kernel_rfl) (by kernel_rfl) rfl rfl rfl rfl ((H.sl 0 rfl).len (by kernel_rfl)) (by kernel_rfl) ?_
   refine RW.v ?_
   refine RW.nil ?_
   refine W.rg [(0, v), (1, .func (.func 77) #[] #[.pointer (some ⟨b6, 0, none⟩)]), (5, .int .i64 ((a : Nat) : Int)), (6, .int .i64 ((j : Nat) : Int)), (19, .bool (decide (((j : Nat) : Int) < ((N : Nat) : Int))))] fun TA => ?_
   refine W.cond rfl (fun hc8 => ?_) (fun hc8 => ?_)
   ·have hc8b := hc8
    have hc8 := of_decide_eq_true hc8
    refine W.skip ?_
    refine W.seq ?_
    refine W.block ?_
    refine W.seq (W.region ?_)
    iterate 2 refine RW.v ?_
    refine RW.idxG H 0 rfl (by kernel_rfl) (by kernel_rfl) rfl Tryd.underlying22 (by kernel_rfl) rfl rfl ⟨by omega, by omega⟩ (by kernel_rfl) ?_
    intro b9 q10 r11 hF12 hE13
    rw [rowS_at (xs := arr) (j := j) (i := ((j : Nat) : Int)) (by omega) (by first | omega | (simp only [List.length_set]; omega))] at hE13
    refine RW.loads 1 (by kernel_rfl) (by kernel_rfl) rfl rfl (hF12) hE13 rfl (by kernel_rfl) ?_
    refine RW.v ?_
    refine RW.nil ?_
    refine W.rg [(0, v), (1, .func (.func 77) #[] #[.pointer (some ⟨b6, 0, none⟩)]), (5, .int .i64 ((a : Nat) : Int)), (6, .int .i64 ((j : Nat) : Int)), (7, .string ⟨(gD arr j).toArray⟩)] fun TA => ?_
    refine W.seq (W.region ?_)
    iterate 2 refine RW.v ?_
    replace H := H.front 2 rfl
    dsimp only [setL, delL] at H
    replace H := H.front 2 rfl
    dsimp only [setL, delL] at H
    refine RW.cl ?_
    refine ((cl_in2 (x := (gD arr j)) hM hM0 H).mono ?_)
    clear H
    rintro _ _ ⟨rfl, H⟩
    refine RW.v ?_
    refine RW.nil ?_
    refine W.rg [(0, v), (1, .func (.func 77) #[] #[.pointer (some ⟨b6, 0, none⟩)]), (5, .int .i64 ((a : Nat) : Int)), (6, .int .i64 ((j : Nat) : Int)), (7, .string ⟨(gD arr j).toArray⟩), (29, .bool (!(decide ((gD arr j) ∈ os))))] fun TA => ?_
    refine W.cond rfl (fun hc14 => ?_) (fun hc14 => ?_)
    ·have hc14b := hc14
     refine W.seq (W.region ?_)
     iterate 3 refine RW.v ?_
     refine RW.idxGS H 2 rfl (by kernel_rfl) (by kernel_rfl) rfl Tryd.underlying22 (by kernel_rfl) rfl rfl ⟨by omega, by omega⟩ (by kernel_rfl) ?_
     intro b15 q16 hb17 hq18
     refine RW.stG H 2 rfl hb17 (vs := [.string ⟨(gD arr j).toArray⟩]) (by subst hq18; simp only [List.length_cons, List.length_nil]; omega) (by kernel_rfl) (by kernel_rfl) rfl rfl rfl rfl (by kernel_rfl) (by kernel_rfl) ?_
     clear H; intro _ H
     dsimp only [setL, delL] at H
     rw [rowS_set hq18 (i := ((a : Nat) : Int)) (j := a) (by omega) (by first | omega | (simp only [List.length_set]; omega)) (gD arr j)] at H
     refine RW.nil ?_
     refine W.rg [(0, v), (1, .func (.func 77) #[] #[.pointer (some ⟨b6, 0, none⟩)]), (5, .int .i64 ((a : Nat) : Int)), (6, .int .i64 ((j : Nat) : Int))] fun TA => ?_
     refine W.region ?_
     refine RW.v ?_
     refine RW.valE (v' := .int .i64 (((a : Nat) : Int) + 1)) (by kernel_rfl) (by kernel_rfl) rfl (congrArg (Value.int .i64) (wrap_in (by omega) (by omega))) (by kernel_rfl) ?_
     refine RW.v ?_
     refine RW.nil ?_
     refine bQn ?_
     refine W.rg [(0, v), (1, .func (.func 77) #[] #[.pointer (some ⟨b6, 0, none⟩)]), (5, .int .i64 (((a : Nat) : Int) + 1)), (6, .int .i64 ((j : Nat) : Int))] fun TA => ?_
     refine W.region ?_
     refine RW.v ?_
     refine RW.valE (v' := .int .i64 (((j : Nat) : Int) + 1)) (by kernel_rfl) (by kernel_rfl) rfl (congrArg (Value.int .i64) (wrap_in (by omega) (by omega))) (by kernel_rfl) ?_
     refine RW.v ?_
     refine RW.nil ?_
     replace H := H.front 1 rfl
     dsimp only [setL, delL] at H
     replace H := H.front 1 rfl
     dsimp only [setL, delL] at H
     replace H := H.front 2 rfl
     dsimp only [setL, delL] at H
     exact ⟨rfl, mm2 - 1, by omega, a + 1, j + 1, (arr.set a (gD arr j)), (by omega), (by omega), (delT_keep (p := (fun y => decide (y ∈ os))) hA hD (by omega) (by omega) (by omega) (by simpa using hc14b)), (delT_rest hD (by omega)), (by rw [List.length_set]; exact hL), H, rfl, rfl, rfl, rfl⟩
    ·have hc14b := hc14
     refine W.skip ?_
     refine bQn ?_
     refine W.region ?_
     refine RW.v ?_
     refine RW.valE (v' := .int .i64 (((j : Nat) : Int) + 1)) (by kernel_rfl) (by kernel_rfl) rfl (congrArg (Value.int .i64) (wrap_in (by omega) (by omega))) (by kernel_rfl) ?_
     refine RW.v ?_
     refine RW.nil ?_
     replace H := H.front 1 rfl
     dsimp only [setL, delL] at H
     replace H := H.front 1 rfl
     dsimp only [setL, delL] at H
     replace H := H.front 2 rfl
     dsimp only [setL, delL] at H
     exact ⟨rfl, mm2 - 1, by omega, a, j + 1, arr, (by omega), (by omega), (delT_drop (p := (fun y => decide (y ∈ os))) hA hD (by omega) (by omega) (by simpa using hc14b)), (delT_next hD), hL, H, rfl, rfl, rfl, rfl⟩
   ·have hc8b := hc8
    have hc8 := of_decide_eq_false hc8
    refine W.exit _ ?_
    refine seqQ_exit ?_
    refine rndQ_exit ?_
    refine blkQ_here ?_
    refine W.seq (W.region ?_)
    iterate 2 refine RW.v ?_
    obtain rfl : j = N := by omega
    obtain ⟨vB, hvB⟩ := grow_someG (P := Tryd.prog) (t := 22) (i := a) (H.sl 0 rfl) (by omega) (by kernel_rfl) (by kernel_rfl)
    refine RW.vop (v := vB) (by kernel_rfl) (by kernel_rfl) (vop_slice rfl hvB) (by kernel_rfl) ?_
    refine RW.clearG H 0 (i := a) (z := .string ByteArray.empty) rfl (by omega) (by kernel_rfl) (by kernel_rfl) (by kernel_rfl) (by kernel_rfl) rfl rfl (by decide) hvB (by kernel_rfl) (by kernel_rfl) rfl rfl rfl rfl rfl (by kernel_rfl) ?_
    clear H; intro _ zs hzs H
    dsimp only [setL, delL] at H
    refine RW.nil ?_
    refine W.rg [(0, v), (5, .int .i64 ((a : Nat) : Int))] fun TA => ?_
    refine W.seq (W.region ?_)
    iterate 2 refine RW.v ?_
    obtain ⟨vC, hvC, H⟩ := H.cutSl (P := Tryd.prog) (t := 22) (i := a) 0 rfl (by omega) (by kernel_rfl) (by kernel_rfl)
    dsimp only [setL, delL] at H
    refine RW.vop (v := vC) (by kernel_rfl) (by kernel_rfl) (vop_slice rfl hvC) (by kernel_rfl) ?_
    refine RW.v ?_
    refine RW.nil ?_
    refine W.ret ?_
    refine endG (by rfl) (by exact resL_tmp rfl) ?_
    replace H := H.front 2 rfl
    dsimp only [setL, delL] at H
    replace H := H.front 2 rfl
    dsimp only [setL, delL] at H
    replace H := H.front 2 rfl
    dsimp only [setL, delL] at H
    have K := H
    rw [delT_cells hA hL (by omega)] at K
    exact ⟨a, delT_len hA hL (by omega), K⟩
  ·have hc7b := hc7
   have hc7 := of_decide_eq_false hc7
   refine W.skip ?_
   refine bQn ?_
   refine W.region ?_
   refine RW.valE (v' := .int .i64 (((i : Nat) : Int) + 1)) (by kernel_rfl) (by kernel_rfl) rfl (congrArg (Value.int .i64) (wrap_in (by omega) (by omega))) (by kernel_rfl) ?_
   refine RW.v ?_
   refine RW.nil ?_
   replace H := H.front 1 rfl
   dsimp only [setL, delL] at H
   replace H := H.front 1 rfl
   dsimp only [setL, delL] at H
   replace H := H.front 2 rfl
   dsimp only [setL, delL] at H
   exact ⟨rfl, mm - 1, by omega, i + 1, (by omega), (delT_not (by omega) hN (decide_eq_false hc7)), H, rfl, rfl, rfl, rfl⟩
 ·have hc1b := hc1
  have hc1 := of_decide_eq_false hc1
  refine W.exit _ ?_
  refine seqQ_exit ?_
  refine rndQ_exit ?_
  refine blkQ_here ?_
  refine W.seq (W.region ?_)
  refine RW.v ?_
  refine RW.nil ?_
  refine W.ret ?_
  refine endG (by rfl) (by exact resL_tmp rfl) ?_
  refine RW.v ?_
  refine RW.nil ?_
  refine W.rg [(0, v), (1, .func (.func 77) #[] #[.pointer (some ⟨b6, 0, none⟩)]), (5, .int .i64 (-1))] fun TA => ?_
  refine W.seq ?_
  refine W.seq (W.region ?_)
  iterate 2 refine RW.v ?_
  refine RW.nil ?_
  refine W.c1 ?_
  refine W.seq (W.region ?_)
  iterate 2 refine RW.v ?_
  refine RW.nil ?_
  refine W.ret ?_
  refine seqQ_ret ?_
  refine endG (by rfl) (by exact resL_tmp rfl) ?_
  replace H := H.front 2 rfl
  dsimp only [setL, delL] at H
  replace H := H.front 2 rfl
  dsimp only [setL, delL] at H
  replace H := H.front 2 rfl
  dsimp only [setL, delL] at H
  have K := H
  rw [← delT_none (p := (fun y => decide (y ∈ os))) hN (by omega)] at K
  exact ⟨N, by rw [← hl]; exact (congrArg List.length (delT_none (p := (fun y => decide (y ∈ os))) hN (by omega))).symm, K⟩
end
end Go.Proofs.YtjcmdifpkafdkaaDoor
