/-
 Words, values and depth lists of the laws of hooks. Conditions: the heap lies there as HeapAt says.
 Add where a depth list may hold what is no entry, and where it fails. Conditions: the heap lies there as HeapAt says.
 Add for any depth, where a depth list may hold what is no entry. Conditions: the heap lies there as HeapAt says.
-/
import Derived.Test.YtaaebeiigkhcjaaGreatDoorHre
import Derived.Test.YtaaebeiigkhcjaaGreatDoorHoe
namespace Go.Proofs.YtaaebeiigkhcjaaGreatDoor
set_option maxRecDepth 100000
theorem ext_push {m : HM} (hf : m.free = []) (o : HObj) : ExtH m (m.push o) 1 := ⟨finds_push m o, rfl, hf, by rw [HM.many_push]; exact Nat.le_refl _⟩
theorem good_built (m : HM) (k : Int) : Good (built m [((1, 7) : Wd), ((0, k) : Wd)] (1, 0)).1 (built m [((1, 7) : Wd), ((0, k) : Wd)] (1, 0)).2 := by
 obtain ⟨h1, h2⟩ := chain_built m [((1, 7) : Wd), ((0, k) : Wd)]
 have w := built_word m [((1, 7) : Wd), ((0, k) : Wd)] (1, 0)
 obtain ⟨c, hc⟩ : ∃ c, c = consOf m [((1, 7) : Wd), ((0, k) : Wd)] (1, 0) := ⟨_, rfl⟩
 rw [← hc] at h1 h2 w
 have k0 := h2.kind (j := 0) (by simp)
 have k1 := h2.kind (j := 1) (by simp)
 have f0 := h2 0 (by simp)
 have f1 := h2 1 (by simp)
 have e2 : c 2 = (1, 0) := h1
 rw [show c (1 + 1) = (1, 0) from e2] at f1
 rw [w]
 have c0 : c 0 = (2, (c 0).2) := Prod.ext k0 rfl
 have c1 : c 1 = (2, (c 1).2) := Prod.ext k1 rfl
 rw [c0]
 rw [c0, show c (0 + 1) = (2, (c 1).2) from c1] at f0
 rw [c1] at f1
 exact .lam f0 f1
theorem Good.dep {m : HM} {x : Wd} (h : Good m x) : DepE m x := by
 cases h with
 | atom h => exact .atom h
 | lam h1 h2 => exact .pair h1 (.atom (.inr rfl))
theorem DepE.mono {m m' : HM} {x : Wd} (h : DepE m x) (f : FindsAll m m') : DepE m' x := by
 cases h with
 | atom h => exact .atom h
 | pair h g => exact .pair (f _ _ h) (Good.mono f g).1
section
variable {h : Nat} {m : HM} {σ0 : Mem}
end
end Go.Proofs.YtaaebeiigkhcjaaGreatDoor
namespace Go.Proofs.YtaaebeiigkhcjaaGreatDoor
set_option maxRecDepth 100000
section
variable {h : Nat} {m : HM} {σ0 : Mem}
theorem depthF_wc {x : Wd} {es : List Wd} {fs : List Rk} {v : Value} (hfs : fs = es.filterMap (entO m)) (hG : G66 ≤ σ0.next) (ha : σ0.abs = heapAbs h m) (hlo : 0 < m.limit) (hn : es.length ≤ 65536) (hs : SlF σ0.get 2 v es.length (wdC es)) (gx : Good m x) (hes : ∀ y ∈ es, DepE m y) :
  WC G66 Tryz.prog 44 #[pp h, v, wdV x] σ0 fun r σ' => r = .tuple #[.int .i64 (depOf m x fs), .int .i64 0] ∧ Lies G66 (heapAbs h m) σ0.get σ' [] := by
 subst hfs
 exact depthE_wc hG ha hlo hn hs gx hes
end
end Go.Proofs.YtaaebeiigkhcjaaGreatDoor
namespace Go.Proofs.YtaaebeiigkhcjaaGreatDoor
set_option maxRecDepth 100000
section
variable {A : Abs} {F : Nat → Option Blk2} {σ : Mem} {L : List Ent} {v : Value} {n b q : Nat} {h : Nat} {m : HM} {σ0 : Mem}
theorem insert_q {f : Wd} {d : Int} {l : List Rk} (h1 : 0 < d → q = n) (h2 : ¬ 0 < d → q = 0) (hn : n ≤ 1000) (H : Lies G66 A F σ (.at_ b (.row ⟨[.int .i64 f.1, .int .i64 f.2, .int .i64 d], 79, false⟩) :: .sl 79 3 v n (rkC l) :: L)) :
  WC G66 Tryz.prog 45 #[v, .int .i64 ((q : Nat) : Int), .slice (some ⟨b, 0, none⟩) 1 1] σ fun r σ' => Lies G66 A F σ' (.sl 79 3 r (n + 1) (rkC (if 0 < d then l ++ [(f, d)] else (f, d) :: l)) :: L) := by
 by_cases h0 : 0 < d
 ·rw [h1 h0, if_pos h0]
  exact insert_end (x := (f, d)) hn H
 ·rw [h2 h0, if_neg h0]
  exact insert_zero (x := (f, d)) hn H
set_option maxHeartbeats 16000000 in
theorem addJ {vw p f : Wd} {c : Nat → Wd} {ws es : List Wd} {fs : List Rk} {d : Int} (hG : G66 ≤ σ0.next) (ha : σ0.abs = heapAbs h m) (hlo : 0 < m.limit) (hN : GNull σ0.get) (E : Elems G66 h m vw ws) (hx : c 0 = p) (hp : Chain m c es) (hn : es.length ≤ 65536) (hw12 : ws.length ≤ 12) (gf : Good m f) (hf0 : (f.1 == 1 && f.2 == 0) = false) (gws : ∀ y ∈ ws, Good m y) (hF : hasW m f ws = false) (hfs : fs = es.filterMap (entO m)) (hes : ∀ y ∈ es, DepE m y) (hf : m.free = []) (hr : m.many + ws.length + 3 ≤ m.limit) (hlim : m.limit ≤ 65536) (h1 : -100 ≤ d) (h2 : d ≤ 100) :
  WC G66 Tryz.prog 11 #[pp h, wdV vw, wdV p, wdV f, .int .i64 d] σ0 fun r σ' => ∃ ys, StabR (if 0 < d then ws.map (rkOf m fs) ++ [(f, d)] else (f, d) :: ws.map (rkOf m fs)) ys ∧ ((d = 0 ∧ r = .tuple #[wdV (built m (ys.map Prod.fst) (1, 0)).2, wdV p, .int .i64 0] ∧ Lies G66 (heapAbs h (built m (ys.map Prod.fst) (1, 0)).1) σ0.get σ' []) ∨ (d ≠ 0 ∧ r = .tuple #[wdV (built m (ys.map Prod.fst) (1, 0)).2, wdV (2, (((built m (ys.map Prod.fst) (1, 0)).1.push (.pair f (0, d))).objs.length : Int)), .int .i64 0] ∧ Lies G66 (heapAbs h (((built m (ys.map Prod.fst) (1, 0)).1.push (.pair f (0, d))).push (.pair (2, ((built m (ys.map Prod.fst) (1, 0)).1.objs.length : Int)) p))) σ0.get σ' [])) := by
 obtain ⟨tN, gN, hN⟩ := hN
 have hnw : ws.length ≤ 65536 := by omega
 have H := Lies.start hG ha
 generalize σ0.get = F at H hN ⊢
 refine WC.enter (fn := Tryz.f11) Tryz.func11 rfl ?_
 refine W.rg [(0, pp h), (1, .agg #[.int .i64 vw.1, .int .i64 vw.2]), (2, .agg #[.int .i64 p.1, .int .i64 p.2]), (3, .agg #[.int .i64 f.1, .int .i64 f.2]), (4, .int .i64 d)] fun TA => ?_
 refine W.seq (W.region ?_)
 refine RW.mk H (.row ⟨[.int .i64 vw.1, .int .i64 vw.2], 27, false⟩) ?_
 clear H; intro _ b1 _ H
 refine RW.mk H (.row ⟨[.int .i64 p.1, .int .i64 p.2], 27, false⟩) ?_
 clear H; intro _ b2 _ H
 refine RW.mk H (.row ⟨[.int .i64 f.1, .int .i64 f.2], 27, false⟩) ?_
 clear H; intro _ b3 _ H
 refine RW.mk H (.row ⟨[.int .i64 0, .int .i64 0], 27, false⟩) ?_
 clear H; intro _ b4 _ H
 refine RW.mk H (.row ⟨[.int .i64 0, .int .i64 0], 27, false⟩) ?_
 clear H; intro _ b5 _ H
 refine RW.v ?_
 refine RW.nil ?_
 refine W.rg [(0, pp h), (4, .int .i64 d), (6, pp b1), (7, pp b2), (8, pp b3), (10, pp b4), (11, pp b5)] fun TA => ?_
 refine W.seq (W.region ?_)
 refine RW.v ?_
 refine RW.nil ?_
 refine W.rg [(0, pp h), (4, .int .i64 d), (6, pp b1), (7, pp b2), (8, pp b3), (10, pp b4), (11, pp b5), (13, .func (.func 40) #[] #[])] fun TA => ?_
 refine W.seq ?_
 refine W.block ?_
 refine W.seq (W.region ?_)
 refine RW.v ?_
 refine RW.cl ?_
 refine WC.enter (fn := Tryz.f41) Tryz.func41 rfl ?_
 refine W.rg [(0, pp h)] fun TA => ?_
 refine W.seq (W.region ?_)
 refine RW.v ?_
 refine RW.nil ?_
 refine W.rg [(0, pp h)] fun TA => ?_
 refine W.seq (W.region ?_)
 refine RW.v ?_
 refine RW.cl ?_
 refine ⟨_, _, (s_limit (G := G66) H.abs), ?_⟩
 refine RW.valE (v' := .bool true) (by kernel_rfl) (by kernel_rfl) rfl (congrArg Value.bool (decide_eq_true (by omega))) (by kernel_rfl) ?_
 refine RW.v ?_
 refine RW.nil ?_
 refine W.ret ?_
 refine endG (by rfl) (by exact resL_tmp rfl) ?_
 iterate 2 refine RW.v ?_
 refine RW.nil ?_
 refine W.c0 ?_
 refine W.seq (W.region ?_)
 refine RW.v ?_
 refine RW.valE (v' := .bool false) (by kernel_rfl) (by kernel_rfl) rfl (congrArg Value.bool (decide_eq_false (by omega))) (by kernel_rfl) ?_
 refine RW.v ?_
 refine RW.val (by rfl) (by kernel_rfl) rfl (by kernel_rfl) ?_
 refine RW.valE (v' := .bool false) (by rfl) (by kernel_rfl) rfl (congrArg Value.bool (decide_eq_false (by omega))) (by kernel_rfl) ?_
 iterate 2 refine RW.v ?_
 refine RW.nil ?_
 refine W.c0 ?_
 refine W.seq (W.region ?_)
 refine RW.ld H 2 2 ?_
 refine RW.loads 2 (by kernel_rfl) (by kernel_rfl) rfl rfl (H.old _ _ hN) rfl rfl (by kernel_rfl) ?_
 refine RW.vop (v := .bool false) (by kernel_rfl) (by kernel_rfl) (vop_eqS (b := false) (r := false) rfl (.inl ⟨rfl, rfl⟩) rfl rfl rfl rfl (by kernel_rfl) (fun w => (eqWd _ _ _ _ w).trans (by (first | refine congrArg (Result.ok · w) ?_ | skip); exact hf0))) (by kernel_rfl) ?_
 refine RW.v ?_
 refine RW.nil ?_
 refine W.c0 ?_
 refine W.skip ?_
 refine blkQ_normal ?_
 refine W.seq (W.region ?_)
 refine RW.v ?_
 refine RW.ld H 4 2 ?_
 refine RW.ld H 3 2 ?_
 refine RW.cl ?_
 refine WC.enter (fn := Tryz.f42) Tryz.func42 rfl ?_
 refine W.rg [(0, pp h), (1, .agg #[.int .i64 vw.1, .int .i64 vw.2]), (2, .agg #[.int .i64 p.1, .int .i64 p.2])] fun TA => ?_
 refine W.seq (W.region ?_)
 refine RW.mk H (.row ⟨[.int .i64 vw.1, .int .i64 vw.2], 27, false⟩) ?_
 clear H; intro _ b6 _ H
 refine RW.mk H (.row ⟨[.int .i64 p.1, .int .i64 p.2], 27, false⟩) ?_
 clear H; intro _ b7 _ H
 iterate 3 refine RW.v ?_
 refine RW.nil ?_
 refine W.rg [(0, pp h), (4, pp b6), (5, pp b7), (7, .slice none 0 0)] fun TA => ?_
 refine W.seq ?_
 refine W.seq (W.region ?_)
 refine RW.v ?_
 refine RW.ld H 1 2 ?_
 refine RW.cl ?_
 refine ((E _ H.gn H.abs ⟨_, _, H.old _ _ hN⟩).mono ?_)
 rintro _ _ ⟨slV, rfl, LV, K, fz⟩
 obtain ⟨F, leV, hSV, H⟩ := fz _ _ _ _ (H.then K)
 clear K fz
 replace hN := leV _ _ hN
 iterate 5 refine RW.v ?_
 refine RW.nil ?_
 replace H := (H.del 1)
 dsimp only [setL, delL] at H
 refine W.rg [(0, pp h), (5, pp b7), (6, slV), (7, .slice none 0 0), (8, .int .i64 0)] fun TA => ?_
 refine W.seq (W.region ?_)
 iterate 2 refine RW.v ?_
 refine RW.nil ?_
 refine W.c1 ?_
 refine W.region ?_
 refine RW.v ?_
 refine RW.ld H 0 2 ?_
 refine RW.cl ?_
 refine ((slice_k (h := h) (m := m) hx H.gn H.abs hlo hp hn).mono ?_)
 rintro _ _ ⟨slE, rfl, K⟩
 replace H := H.then K
 clear K
 dsimp only [List.nil_append, List.cons_append] at H
 obtain ⟨F, leE, hSE, H⟩ := H.freezeSl 0 rfl
 dsimp only [setL, delL] at H
 replace hSV := hSV.le leE
 replace hN := leE _ _ hN
 iterate 5 refine RW.v ?_
 refine RW.nil ?_
 replace H := (H.del 0)
 dsimp only [setL, delL] at H
 refine W.rg [(6, slV), (7, slE), (8, .int .i64 0)] fun TA => ?_
 refine W.seq (W.region ?_)
 iterate 6 refine RW.v ?_
 refine RW.nil ?_
 refine W.ret ?_
 refine endG (by rfl) (by exact resL_tmp (by exact resL_tmp (by exact resL_tmp rfl))) ?_
 iterate 7 refine RW.v ?_
 refine RW.nil ?_
 refine W.rg [(0, pp h), (4, .int .i64 d), (6, pp b1), (7, pp b2), (8, pp b3), (10, pp b4), (11, pp b5), (13, .func (.func 40) #[] #[]), (14, slV), (15, slE), (16, .int .i64 0)] fun TA => ?_
 refine W.seq ?_
 refine W.seq (W.region ?_)
 iterate 2 refine RW.v ?_
 refine RW.nil ?_
 refine W.c0 ?_
 refine W.skip ?_
 refine W.seq ?_
 refine W.seq (W.region ?_)
 iterate 2 refine RW.v ?_
 refine RW.ld H 2 2 ?_
 refine RW.cl ?_
 refine ((find_wc H.gn H.abs hlo hnw (hSV.le H.old) gf gws).mono ?_)
 rintro _ _ ⟨e, K⟩
 rw [hF] at e
 subst e
 replace H := H.then K
 clear K
 dsimp only [List.nil_append, List.cons_append] at H
 iterate 5 refine RW.v ?_
 refine RW.nil ?_
 refine W.rg [(0, pp h), (4, .int .i64 d), (6, pp b1), (7, pp b2), (8, pp b3), (10, pp b4), (11, pp b5), (13, .func (.func 40) #[] #[]), (14, slV), (15, slE), (17, .bool false), (18, .int .i64 0)] fun TA => ?_
 refine W.block ?_
 refine W.seq (W.region ?_)
 iterate 3 refine RW.v ?_
 refine RW.nil ?_
 refine W.c0 ?_
 refine W.seq (W.region ?_)
 iterate 2 refine RW.v ?_
 refine RW.nil ?_
 refine W.c0 ?_
 refine W.skip ?_
 refine blkQ_normal ?_
 refine W.seq (W.region ?_)
 refine RW.v ?_
 refine RW.nil ?_
 replace H := (H.del 4)
 dsimp only [setL, delL] at H
 refine W.rg [(0, pp h), (4, .int .i64 d), (7, pp b2), (8, pp b3), (10, pp b4), (11, pp b5), (13, .func (.func 40) #[] #[]), (14, slV), (15, slE), (19, .slice none 0 0)] fun TA => ?_
 refine W.seq ?_
 refine W.seq (W.region ?_)
 refine RW.v ?_
 refine RW.len (by kernel_rfl) (by kernel_rfl) rfl rfl rfl rfl (hSV.len (e := 27) (by kernel_rfl)) (by kernel_rfl) ?_
 refine RW.v ?_
 refine RW.nil ?_
 refine W.rg [(0, pp h), (4, .int .i64 d), (7, pp b2), (8, pp b3), (10, pp b4), (11, pp b5), (13, .func (.func 40) #[] #[]), (15, slE), (19, .slice none 0 0), (99, slV), (100, .int .i64 (ws.length : Int)), (101, .int .i64 0)] fun TA => ?_
 refine W.block ?_
 replace H := H.nilSl 79 3
 refine W.loop (fun mm ta σ => ∃ (i : Nat) (u : Value), (mm + i = ws.length) ∧ Lies G66 (heapAbs h m) F σ [.sl 79 3 u i (rkC ((ws.take i).map (rkOf m fs))), .at_ b5 (.row ⟨[.int .i64 0, .int .i64 0], 27, false⟩), .at_ b4 (.row ⟨[.int .i64 0, .int .i64 0], 27, false⟩), .at_ b3 (.row ⟨[.int .i64 f.1, .int .i64 f.2], 27, false⟩), .at_ b2 (.row ⟨[.int .i64 p.1, .int .i64 p.2], 27, false⟩)] ∧ ta 0 = .pointer (some ⟨h, 0, none⟩) ∧ ta 4 = .int .i64 d ∧ ta 7 = .pointer (some ⟨b2, 0, none⟩) ∧ ta 8 = .pointer (some ⟨b3, 0, none⟩) ∧ ta 10 = .pointer (some ⟨b4, 0, none⟩) ∧ ta 11 = .pointer (some ⟨b5, 0, none⟩) ∧ ta 13 = .func (.func 40) #[] #[] ∧ ta 15 = slE ∧ ta 19 = u ∧ ta 99 = slV ∧ ta 100 = .int .i64 (ws.length : Int) ∧ ta 101 = .int .i64 ((i : Nat) : Int)) ws.length ?_ ?_
 ·exact ⟨0, .slice none 0 0, (by omega), H, rfl, rfl, rfl, rfl, rfl, rfl, rfl, rfl, rfl, rfl, rfl, rfl⟩
 clear H
 rintro mm ta _ ⟨i, u, hm, H, e0, e4, e7, e8, e10, e11, e13, e15, e19, e99, e100, e101⟩
 refine W.rst [(0, .pointer (some ⟨h, 0, none⟩)), (4, .int .i64 d), (7, .pointer (some ⟨b2, 0, none⟩)), (8, .pointer (some ⟨b3, 0, none⟩)), (10, .pointer (some ⟨b4, 0, none⟩)), (11, .pointer (some ⟨b5, 0, none⟩)), (13, .func (.func 40) #[] #[]), (15, slE), (19, u), (99, slV), (100, .int .i64 (ws.length : Int)), (101, .int .i64 ((i : Nat) : Int))] ⟨e0, e4, e7, e8, e10, e11, e13, e15, e19, e99, e100, e101, trivial⟩ fun TA => ?_
 clear e0 e4 e7 e8 e10 e11 e13 e15 e19 e99 e100 e101
 refine W.seq (W.region ?_)
 refine RW.v ?_
 refine RW.nil ?_
 refine W.rg [(0, pp h), (4, .int .i64 d), (7, pp b2), (8, pp b3), (10, pp b4), (11, pp b5), (13, .func (.func 40) #[] #[]), (15, slE), (19, u), (99, slV), (100, .int .i64 (ws.length : Int)), (101, .int .i64 ((i : Nat) : Int)), (102, .bool (decide (((i : Nat) : Int) < (ws.length : Int))))] fun TA => ?_
 refine W.seq ?_
 refine W.cond rfl (fun hc8 => ?_) (fun hc8 => ?_)
 ·have hc8b := hc8
  have hc8 := of_decide_eq_true hc8
  have hi : i < ws.length := by omega
  refine W.skip ?_
  refine W.seq ?_
  refine W.block ?_
  refine W.seq (W.region ?_)
  refine RW.idxF hSV (by kernel_rfl) (by kernel_rfl) rfl Tryz.underlying33 (by kernel_rfl) rfl rfl ⟨by omega, by omega⟩ (by kernel_rfl) ?_
  intro b9 q10 r11 hF12 hE13
  rw [wdC_at (l := ws) (j := i) (by omega)] at hE13
  refine RW.loads 2 (by kernel_rfl) (by kernel_rfl) rfl rfl (H.old _ _ hF12) hE13 rfl (by kernel_rfl) ?_
  refine RW.mk H (.row ⟨[.int .i64 0, .int .i64 0], 27, false⟩) ?_
  clear H; intro _ b14 _ H
  refine RW.st H 0 [.int .i64 ((ws.getD i (0, 0)).1), .int .i64 ((ws.getD i (0, 0)).2)] [.int .i64 ((ws.getD i (0, 0)).1), .int .i64 ((ws.getD i (0, 0)).2)] ?_
  clear H; intro _ _ H; dsimp only [setL, delL] at H
  refine RW.nil ?_
  refine W.rg [(0, pp h), (4, .int .i64 d), (7, pp b2), (8, pp b3), (10, pp b4), (11, pp b5), (13, .func (.func 40) #[] #[]), (15, slE), (19, u), (21, pp b14), (99, slV), (100, .int .i64 (ws.length : Int)), (101, .int .i64 ((i : Nat) : Int))] fun TA => ?_
  refine W.seq (W.region ?_)
  iterate 2 refine RW.v ?_
  refine RW.ld H 0 2 ?_
  refine RW.cl ?_
  refine ((depthF_wc hfs H.gn H.abs hlo hn (hSE.le H.old) (gws _ (getW_mem (l := ws) (by omega))) hes).mono ?_)
  rintro _ _ ⟨rfl, K⟩
  replace H := H.then K
  clear K
  dsimp only [List.nil_append, List.cons_append] at H
  iterate 5 refine RW.v ?_
  refine RW.nil ?_
  refine W.rg [(0, pp h), (4, .int .i64 d), (7, pp b2), (8, pp b3), (10, pp b4), (11, pp b5), (13, .func (.func 40) #[] #[]), (15, slE), (19, u), (21, pp b14), (22, .int .i64 (depOf m (ws.getD i (0, 0)) fs)), (23, .int .i64 0), (99, slV), (100, .int .i64 (ws.length : Int)), (101, .int .i64 ((i : Nat) : Int))] fun TA => ?_
  refine W.seq ?_
  refine W.seq (W.region ?_)
  iterate 2 refine RW.v ?_
  refine RW.nil ?_
  refine W.c0 ?_
  refine W.skip ?_
  refine W.region ?_
  refine RW.v ?_
  refine RW.ld H 0 2 ?_
  refine RW.v ?_
  refine RW.val (v := .agg #[.int .i64 ((ws.getD i (0, 0)).1), .int .i64 ((ws.getD i (0, 0)).2), .int .i64 (depOf m (ws.getD i (0, 0)) fs)]) (by kernel_rfl) (by kernel_rfl) (by kernel_rfl) (by kernel_rfl) ?_
  refine RW.mkL H (x := .row ⟨[.int .i64 ((ws.getD i (0, 0)).1), .int .i64 ((ws.getD i (0, 0)).2), .int .i64 (depOf m (ws.getD i (0, 0)) fs)], 79, false⟩) (fm := fun b => .slice (some ⟨b, 0, none⟩) 1 1) (by kernel_rfl) (by kernel_rfl) (by kernel_rfl) (by kernel_rfl) ?_
  clear H; intro _ b15 _ H
  refine RW.appL H 2 0 (n := 1) (e2 := 79) (by kernel_rfl) (by kernel_rfl) rfl rfl rfl rfl rfl rfl rfl rfl (by kernel_rfl) (by kernel_rfl) (by kernel_rfl) (by decide) (by decide) rfl rfl (by omega) (by kernel_rfl) ?_
  clear H; intro _ v16 _ H
  dsimp only [setL, delL] at H
  refine RW.v ?_
  refine RW.nil ?_
  replace H := (H.del 0)
  dsimp only [setL, delL] at H
  refine blkQ_normal ?_
  refine W.rg [(0, pp h), (4, .int .i64 d), (7, pp b2), (8, pp b3), (10, pp b4), (11, pp b5), (13, .func (.func 40) #[] #[]), (15, slE), (19, v16), (99, slV), (100, .int .i64 (ws.length : Int)), (101, .int .i64 ((i : Nat) : Int))] fun TA => ?_
  refine W.region ?_
  refine RW.valE (v' := .int .i64 (((i : Nat) : Int) + 1)) (by kernel_rfl) (by kernel_rfl) rfl (congrArg (Value.int .i64) (wrap_in (by omega) (by omega))) (by kernel_rfl) ?_
  refine RW.v ?_
  refine RW.nil ?_
  rw [rks_snoc hi] at H
  exact ⟨rfl, mm - 1, by omega, i + 1, v16, (by omega), H, rfl, rfl, rfl, rfl, rfl, rfl, rfl, rfl, rfl, rfl, rfl, rfl⟩
 ·have hc8b := hc8
  have hc8 := of_decide_eq_false hc8
  obtain rfl : i = ws.length := by omega
  refine W.exit _ ?_
  refine seqQ_exit ?_
  refine rndQ_exit ?_
  rw [List.take_length] at H
  refine blkQ_here ?_
  refine W.seq (W.region ?_)
  refine RW.v ?_
  refine RW.nil ?_
  refine W.rg [(0, pp h), (4, .int .i64 d), (7, pp b2), (8, pp b3), (10, pp b4), (11, pp b5), (13, .func (.func 40) #[] #[]), (19, u), (24, .int .i64 0)] fun TA => ?_
  refine W.join (fun ta σ => ∃ (q : Nat), (0 < d → q = ws.length) ∧ (¬ 0 < d → q = 0) ∧ Lies G66 (heapAbs h m) F σ [.sl 79 3 u ws.length (rkC (ws.map (rkOf m fs))), .at_ b5 (.row ⟨[.int .i64 0, .int .i64 0], 27, false⟩), .at_ b4 (.row ⟨[.int .i64 0, .int .i64 0], 27, false⟩), .at_ b3 (.row ⟨[.int .i64 f.1, .int .i64 f.2], 27, false⟩), .at_ b2 (.row ⟨[.int .i64 p.1, .int .i64 p.2], 27, false⟩)] ∧ ta 0 = .pointer (some ⟨h, 0, none⟩) ∧ ta 4 = .int .i64 d ∧ ta 7 = .pointer (some ⟨b2, 0, none⟩) ∧ ta 8 = .pointer (some ⟨b3, 0, none⟩) ∧ ta 10 = .pointer (some ⟨b4, 0, none⟩) ∧ ta 11 = .pointer (some ⟨b5, 0, none⟩) ∧ ta 13 = .func (.func 40) #[] #[] ∧ ta 19 = u ∧ ta 24 = .int .i64 ((q : Nat) : Int)) ?_ ?_
  ·refine W.seq (W.region ?_)
   iterate 2 refine RW.v ?_
   refine RW.nil ?_
   refine W.rg [(0, pp h), (4, .int .i64 d), (7, pp b2), (8, pp b3), (10, pp b4), (11, pp b5), (13, .func (.func 40) #[] #[]), (19, u), (24, .int .i64 0), (128, .bool (decide (d > 0)))] fun TA => ?_
   refine W.cond rfl (fun hc17 => ?_) (fun hc17 => ?_)
   ·have hc17b := hc17
    have hc17 := of_decide_eq_true hc17
    refine W.region ?_
    refine RW.v ?_
    refine RW.len (by kernel_rfl) (by kernel_rfl) rfl rfl rfl rfl ((H.sl 0 rfl).len (by kernel_rfl)) (by kernel_rfl) ?_
    refine RW.v ?_
    refine RW.nil ?_
    exact ⟨rfl, rfl, ws.length, (fun _ => rfl), (fun h => by omega), H, rfl, rfl, rfl, rfl, rfl, rfl, rfl, rfl, rfl⟩
   ·have hc17b := hc17
    have hc17 := of_decide_eq_false hc17
    refine W.skip ?_
    exact ⟨rfl, rfl, 0, (fun h => by omega), (fun _ => rfl), H, rfl, rfl, rfl, rfl, rfl, rfl, rfl, rfl, rfl⟩
  clear H
  rintro ta _ ⟨q, hq1, hq2, H, e0, e4, e7, e8, e10, e11, e13, e19, e24⟩
  refine W.rst [(0, .pointer (some ⟨h, 0, none⟩)), (4, .int .i64 d), (7, .pointer (some ⟨b2, 0, none⟩)), (8, .pointer (some ⟨b3, 0, none⟩)), (10, .pointer (some ⟨b4, 0, none⟩)), (11, .pointer (some ⟨b5, 0, none⟩)), (13, .func (.func 40) #[] #[]), (19, u), (24, .int .i64 ((q : Nat) : Int))] ⟨e0, e4, e7, e8, e10, e11, e13, e19, e24, trivial⟩ fun TA => ?_
  clear e0 e4 e7 e8 e10 e11 e13 e19 e24
  refine W.seq (W.region ?_)
  iterate 2 refine RW.v ?_
  refine RW.ld H 3 2 ?_
  refine RW.v ?_
  refine RW.val (v := .agg #[.int .i64 f.1, .int .i64 f.2, .int .i64 d]) (by kernel_rfl) (by kernel_rfl) (by kernel_rfl) (by kernel_rfl) ?_
  refine RW.mkL H (x := .row ⟨[.int .i64 f.1, .int .i64 f.2, .int .i64 d], 79, false⟩) (fm := fun b => .slice (some ⟨b, 0, none⟩) 1 1) (by kernel_rfl) (by kernel_rfl) (by kernel_rfl) (by kernel_rfl) ?_
  clear H; intro _ b18 _ H
  replace H := H.front 1 rfl
  dsimp only [setL, delL] at H
  replace H := H.front 1 rfl
  dsimp only [setL, delL] at H
  refine RW.cl ?_
  refine ((insert_q (f := f) (d := d) (l := (ws.map (rkOf m fs))) hq1 hq2 (by omega) H).mono ?_)
  clear H
  rintro v2 _ H
  refine RW.v ?_
  refine RW.nil ?_
  refine W.rg [(0, pp h), (4, .int .i64 d), (7, pp b2), (8, pp b3), (10, pp b4), (11, pp b5), (13, .func (.func 40) #[] #[]), (19, v2)] fun TA => ?_
  refine W.seq (W.region ?_)
  refine RW.v ?_
  refine RW.cl ?_
  refine ((sort_wc (all := (if 0 < d then (ws.map (rkOf m fs)) ++ [(f, d)] else (f, d) :: (ws.map (rkOf m fs)))) (by split <;> simp) (by omega) (by omega) H).mono ?_)
  clear H
  rintro _ _ ⟨rfl, ys, hys, H⟩
  have hyl : ys.length = ws.length + 1 := by rw [hys.len]; split <;> simp
  refine RW.nil ?_
  refine W.rg [(0, pp h), (4, .int .i64 d), (7, pp b2), (8, pp b3), (10, pp b4), (11, pp b5), (13, .func (.func 40) #[] #[]), (19, v2)] fun TA => ?_
  refine W.seq (W.region ?_)
  refine RW.v ?_
  refine RW.cl ?_
  refine ⟨_, _, (s_limit (G := G66) H.abs), ?_⟩
  refine RW.v ?_
  refine RW.cl ?_
  refine ⟨_, _, (s_many (G := G66) H.abs), ?_⟩
  refine RW.valE (v' := .int .i64 ((m.limit : Int) - (m.many : Int))) (by kernel_rfl) (by kernel_rfl) rfl (congrArg (Value.int .i64) (wrap_in (by omega) (by omega))) (by kernel_rfl) ?_
  refine RW.v ?_
  refine RW.len (by kernel_rfl) (by kernel_rfl) rfl rfl rfl rfl ((H.sl 0 rfl).len (by kernel_rfl)) (by kernel_rfl) ?_
  refine RW.valE (v' := .int .i64 (((m.limit : Int) - (m.many : Int)) - ((ws.length + 1 : Nat) : Int))) (by kernel_rfl) (by kernel_rfl) rfl (congrArg (Value.int .i64) (wrap_in (by omega) (by omega))) (by kernel_rfl) ?_
  refine RW.v ?_
  refine RW.nil ?_
  refine W.rg [(0, pp h), (4, .int .i64 d), (7, pp b2), (8, pp b3), (10, pp b4), (11, pp b5), (13, .func (.func 40) #[] #[]), (19, v2), (25, .int .i64 (((m.limit : Int) - (m.many : Int)) - ((ws.length + 1 : Nat) : Int)))] fun TA => ?_
  refine W.seq ?_
  refine W.seq (W.region ?_)
  refine RW.v ?_
  refine RW.len (by kernel_rfl) (by kernel_rfl) rfl rfl rfl rfl ((H.sl 0 rfl).len (by kernel_rfl)) (by kernel_rfl) ?_
  refine RW.valE (v' := .bool false) (by kernel_rfl) (by kernel_rfl) rfl (congrArg Value.bool (decide_eq_false (by omega))) (by kernel_rfl) ?_
  refine RW.v ?_
  refine RW.val (by rfl) (by kernel_rfl) rfl (by kernel_rfl) ?_
  refine RW.valE (v' := .bool false) (by rfl) (by kernel_rfl) rfl (congrArg Value.bool (decide_eq_false (by omega))) (by kernel_rfl) ?_
  iterate 2 refine RW.v ?_
  refine RW.val (by rfl) (by kernel_rfl) rfl (by kernel_rfl) ?_
  refine RW.val (by rfl) (by kernel_rfl) rfl (by kernel_rfl) ?_
  refine RW.val (by rfl) (by kernel_rfl) rfl (by kernel_rfl) ?_
  refine RW.both _ _ rfl rfl rfl (fun hc19 => ?_) (fun hc19 => ?_)
  ·have hc19b := hc19
   have hc19 := bne_iff_ne.1 hc19
   refine RW.val (by rfl) (by kernel_rfl) rfl (by kernel_rfl) ?_
   refine RW.valE (v' := .bool false) (by rfl) (by kernel_rfl) rfl (congrArg Value.bool (decide_eq_false (by omega))) (by kernel_rfl) ?_
   refine RW.val (by rfl) (by kernel_rfl) rfl (by kernel_rfl) ?_
   refine RW.v ?_
   refine RW.nil ?_
   refine W.c0 ?_
   refine W.skip ?_
   refine W.seq (W.region ?_)
   refine RW.v ?_
   refine RW.nil ?_
   refine W.rg [(0, pp h), (4, .int .i64 d), (7, pp b2), (8, pp b3), (10, pp b4), (11, pp b5), (19, v2), (26, .slice none 0 0)] fun TA => ?_
   refine W.seq ?_
   refine W.seq (W.region ?_)
   refine RW.v ?_
   refine RW.len (by kernel_rfl) (by kernel_rfl) rfl rfl rfl rfl ((H.sl 0 rfl).len (by kernel_rfl)) (by kernel_rfl) ?_
   refine RW.v ?_
   refine RW.nil ?_
   refine W.rg [(0, pp h), (4, .int .i64 d), (7, pp b2), (8, pp b3), (10, pp b4), (11, pp b5), (26, .slice none 0 0), (168, v2), (169, .int .i64 ((ws.length + 1 : Nat) : Int)), (170, .int .i64 0)] fun TA => ?_
   refine W.block ?_
   replace H := H.nilSl 27 2
   refine W.loop (fun mm2 ta σ => ∃ (j : Nat) (u2 : Value), (mm2 + j = ws.length + 1) ∧ Lies G66 (heapAbs h m) F σ [.sl 27 2 u2 j (wdC ((ys.take j).map Prod.fst)), .sl 79 3 v2 (ws.length + 1) (rkC ys), .at_ b5 (.row ⟨[.int .i64 0, .int .i64 0], 27, false⟩), .at_ b4 (.row ⟨[.int .i64 0, .int .i64 0], 27, false⟩), .at_ b3 (.row ⟨[.int .i64 f.1, .int .i64 f.2], 27, false⟩), .at_ b2 (.row ⟨[.int .i64 p.1, .int .i64 p.2], 27, false⟩)] ∧ ta 0 = .pointer (some ⟨h, 0, none⟩) ∧ ta 4 = .int .i64 d ∧ ta 7 = .pointer (some ⟨b2, 0, none⟩) ∧ ta 8 = .pointer (some ⟨b3, 0, none⟩) ∧ ta 10 = .pointer (some ⟨b4, 0, none⟩) ∧ ta 11 = .pointer (some ⟨b5, 0, none⟩) ∧ ta 26 = u2 ∧ ta 168 = v2 ∧ ta 169 = .int .i64 ((ws.length + 1 : Nat) : Int) ∧ ta 170 = .int .i64 ((j : Nat) : Int)) (ws.length + 1) ?_ ?_
   ·exact ⟨0, .slice none 0 0, (by omega), H, rfl, rfl, rfl, rfl, rfl, rfl, rfl, rfl, rfl, rfl⟩
   clear H
   rintro mm2 ta _ ⟨j, u2, hm2, H, e0, e4, e7, e8, e10, e11, e26, e168, e169, e170⟩
   refine W.rst [(0, .pointer (some ⟨h, 0, none⟩)), (4, .int .i64 d), (7, .pointer (some ⟨b2, 0, none⟩)), (8, .pointer (some ⟨b3, 0, none⟩)), (10, .pointer (some ⟨b4, 0, none⟩)), (11, .pointer (some ⟨b5, 0, none⟩)), (26, u2), (168, v2), (169, .int .i64 ((ws.length + 1 : Nat) : Int)), (170, .int .i64 ((j : Nat) : Int))] ⟨e0, e4, e7, e8, e10, e11, e26, e168, e169, e170, trivial⟩ fun TA => ?_
   clear e0 e4 e7 e8 e10 e11 e26 e168 e169 e170
   refine W.seq (W.region ?_)
   refine RW.v ?_
   refine RW.nil ?_
   refine W.rg [(0, pp h), (4, .int .i64 d), (7, pp b2), (8, pp b3), (10, pp b4), (11, pp b5), (26, u2), (168, v2), (169, .int .i64 ((ws.length + 1 : Nat) : Int)), (170, .int .i64 ((j : Nat) : Int)), (171, .bool (decide (((j : Nat) : Int) < ((ws.length + 1 : Nat) : Int))))] fun TA => ?_
   refine W.seq ?_
   refine W.cond rfl (fun hc20 => ?_) (fun hc20 => ?_)
   ·have hc20b := hc20
    have hc20 := of_decide_eq_true hc20
    have hj : j < ys.length := by omega
    refine W.skip ?_
    refine W.seq ?_
    refine W.block ?_
    refine W.seq (W.region ?_)
    refine RW.idxG H 1 rfl (by kernel_rfl) (by kernel_rfl) rfl Tryz.underlying76 (by kernel_rfl) rfl rfl ⟨by omega, by omega⟩ (by kernel_rfl) ?_
    intro b21 q22 r23 hF24 hE25
    rw [rkC_at (l := ys) (j := j) (by omega)] at hE25
    refine RW.loads 3 (by kernel_rfl) (by kernel_rfl) rfl rfl (hF24) hE25 rfl (by kernel_rfl) ?_
    refine RW.mk H (.row ⟨[.int .i64 0, .int .i64 0, .int .i64 0], 79, false⟩) ?_
    clear H; intro _ b26 _ H
    refine RW.st H 0 [.int .i64 ((ys.getD j rk0).1.1), .int .i64 ((ys.getD j rk0).1.2), .int .i64 ((ys.getD j rk0).2)] [.int .i64 ((ys.getD j rk0).1.1), .int .i64 ((ys.getD j rk0).1.2), .int .i64 ((ys.getD j rk0).2)] ?_
    clear H; intro _ _ H; dsimp only [setL, delL] at H
    refine RW.nil ?_
    refine W.rg [(0, pp h), (4, .int .i64 d), (7, pp b2), (8, pp b3), (10, pp b4), (11, pp b5), (26, u2), (28, pp b26), (168, v2), (169, .int .i64 ((ws.length + 1 : Nat) : Int)), (170, .int .i64 ((j : Nat) : Int))] fun TA => ?_
    refine W.region ?_
    iterate 2 refine RW.v ?_
    refine RW.ld H 0 2 ?_
    refine RW.mkL H (x := .row ⟨[.int .i64 ((ys.getD j rk0).1.1), .int .i64 ((ys.getD j rk0).1.2)], 27, false⟩) (fm := fun b => .slice (some ⟨b, 0, none⟩) 1 1) (by kernel_rfl) (by kernel_rfl) (by kernel_rfl) (by kernel_rfl) ?_
    clear H; intro _ b27 _ H
    refine RW.appL H 2 0 (n := 1) (e2 := 27) (by kernel_rfl) (by kernel_rfl) rfl rfl rfl rfl rfl rfl rfl rfl (by kernel_rfl) (by kernel_rfl) (by kernel_rfl) (by decide) (by decide) rfl rfl (by omega) (by kernel_rfl) ?_
    clear H; intro _ v28 _ H
    dsimp only [setL, delL] at H
    refine RW.v ?_
    refine RW.nil ?_
    replace H := (H.del 0)
    dsimp only [setL, delL] at H
    refine blkQ_normal ?_
    refine W.rg [(0, pp h), (4, .int .i64 d), (7, pp b2), (8, pp b3), (10, pp b4), (11, pp b5), (26, v28), (168, v2), (169, .int .i64 ((ws.length + 1 : Nat) : Int)), (170, .int .i64 ((j : Nat) : Int))] fun TA => ?_
    refine W.region ?_
    refine RW.valE (v' := .int .i64 (((j : Nat) : Int) + 1)) (by kernel_rfl) (by kernel_rfl) rfl (congrArg (Value.int .i64) (wrap_in (by omega) (by omega))) (by kernel_rfl) ?_
    refine RW.v ?_
    refine RW.nil ?_
    rw [outs_snoc hj] at H
    exact ⟨rfl, mm2 - 1, by omega, j + 1, v28, (by omega), H, rfl, rfl, rfl, rfl, rfl, rfl, rfl, rfl, rfl, rfl⟩
   ·have hc20b := hc20
    have hc20 := of_decide_eq_false hc20
    refine W.exit _ ?_
    refine seqQ_exit ?_
    refine rndQ_exit ?_
    rw [List.take_of_length_le (by omega)] at H
    obtain rfl : j = (ys.map Prod.fst).length := by rw [List.length_map]; omega
    refine blkQ_here ?_
    refine W.seq (W.region ?_)
    iterate 2 refine RW.v ?_
    refine RW.cl ?_
    refine ((make_lies (h := h) (m := m) (l := ys.map Prod.fst) H (grow_vw (H.sl 0 rfl)) (H.sl 0 rfl).one hf (by rw [List.length_map]; omega) hlo hlim).mono ?_)
    clear H
    rintro _ _ ⟨rfl, H⟩
    obtain ⟨bt, hbt⟩ : ∃ bt, bt = built m (ys.map Prod.fst) (1, 0) := ⟨_, rfl⟩
    rw [← hbt] at H ⊢
    have B : ExtH m bt.1 (ws.length + 1) := by rw [hbt]; exact (ext_built hf _ _).le (by rw [List.length_map]; omega)
    have Bm := B.many
    have Bl := B.lim
    iterate 3 refine RW.v ?_
    refine RW.mk H (.row ⟨[.int .i64 0, .int .i64 0], 27, false⟩) ?_
    clear H; intro _ b29 _ H
    refine RW.st H 0 [.int .i64 bt.2.1, .int .i64 bt.2.2] [.int .i64 bt.2.1, .int .i64 bt.2.2] ?_
    clear H; intro _ _ H; dsimp only [setL, delL] at H
    refine RW.v ?_
    refine RW.nil ?_
    replace H := ((H.del 2).del 1)
    dsimp only [setL, delL] at H
    refine W.rg [(0, pp h), (4, .int .i64 d), (7, pp b2), (8, pp b3), (10, pp b4), (11, pp b5), (29, pp b29)] fun TA => ?_
    refine W.seq ?_
    refine W.seq (W.region ?_)
    refine RW.v ?_
    refine RW.valE (v' := .bool true) (by kernel_rfl) (by kernel_rfl) rfl (congrArg Value.bool (bne_iff_ne.2 (by omega))) (by kernel_rfl) ?_
    refine RW.nil ?_
    refine W.c1 ?_
    refine W.seq (W.region ?_)
    refine RW.v ?_
    refine RW.ld H 3 2 ?_
    refine RW.v ?_
    refine RW.val (v := .agg #[.int .i64 0, .int .i64 d]) (by kernel_rfl) (by kernel_rfl) (by kernel_rfl) (by kernel_rfl) ?_
    refine RW.cl ?_
    refine ((cons_lies (h := h) (m := bt.1) ((f.1, f.2) : Wd) ((0, d) : Wd) H (by show _ < bt.1.limit; omega) B.free).mono ?_)
    clear H
    rintro _ _ ⟨rfl, H⟩
    iterate 3 refine RW.v ?_
    refine RW.mk H (.row ⟨[.int .i64 0, .int .i64 0], 27, false⟩) ?_
    clear H; intro _ b30 _ H
    refine RW.st H 0 [.int .i64 2, .int .i64 (bt.1.objs.length : Int)] [.int .i64 2, .int .i64 (bt.1.objs.length : Int)] ?_
    clear H; intro _ _ H; dsimp only [setL, delL] at H
    refine RW.v ?_
    refine RW.nil ?_
    replace H := (H.del 4)
    dsimp only [setL, delL] at H
    refine W.rg [(0, pp h), (7, pp b2), (10, pp b4), (11, pp b5), (29, pp b29), (31, pp b30)] fun TA => ?_
    refine W.region ?_
    refine RW.v ?_
    refine RW.ld H 0 2 ?_
    refine RW.ld H 4 2 ?_
    refine RW.cl ?_
    refine ((cons_lies (h := h) (m := (bt.1.push (.pair ((f.1, f.2) : Wd) ((0, d) : Wd)))) ((2, (bt.1.objs.length : Int)) : Wd) ((p.1, p.2) : Wd) H (by rw [HM.many_push]; show _ < bt.1.limit; omega) B.free).mono ?_)
    clear H
    rintro _ _ ⟨rfl, H⟩
    iterate 3 refine RW.v ?_
    refine RW.st H 4 [.int .i64 2, .int .i64 ((bt.1.push (.pair ((f.1, f.2) : Wd) ((0, d) : Wd))).objs.length : Int)] [.int .i64 2, .int .i64 ((bt.1.push (.pair ((f.1, f.2) : Wd) ((0, d) : Wd))).objs.length : Int)] ?_
    clear H; intro _ _ H; dsimp only [setL, delL] at H
    refine RW.nil ?_
    replace H := (H.del 0)
    dsimp only [setL, delL] at H
    refine W.rg [(7, pp b2), (10, pp b4), (11, pp b5), (29, pp b29)] fun TA => ?_
    refine W.seq ?_
    refine W.drawn (by kernel_rfl) (by kernel_rfl) H.gn ?_
    have H31 := H
    refine RW.ld H31 0 2 ?_
    refine RW.ld H31 3 2 ?_
    refine RW.stD H31 2 (vs := [.int .i64 bt.2.1, .int .i64 bt.2.2]) (cs' := [.int .i64 bt.2.1, .int .i64 bt.2.2]) (by kernel_rfl) (by kernel_rfl) rfl rfl rfl rfl rfl (by kernel_rfl) (Nat.le_of_ble_eq_true rfl) rfl (by kernel_rfl) ?_
    intro _ H32
    dsimp only [setL, delL] at H32
    refine RW.stD H32 1 (vs := [.int .i64 2, .int .i64 ((bt.1.push (.pair ((f.1, f.2) : Wd) ((0, d) : Wd))).objs.length : Int)]) (cs' := [.int .i64 2, .int .i64 ((bt.1.push (.pair ((f.1, f.2) : Wd) ((0, d) : Wd))).objs.length : Int)]) (by kernel_rfl) (by kernel_rfl) rfl rfl rfl rfl rfl (by kernel_rfl) (Nat.le_of_ble_eq_true rfl) rfl (by kernel_rfl) ?_
    intro _ H33
    dsimp only [setL, delL] at H33
    refine RW.v ?_
    refine RW.nil ?_
    refine ⟨⟨by kernel_rfl, ⟨dyn_row (H31.get 0 rfl) (H33.get 0 rfl) ⟨fun h => Bool.noConfusion h, fun h => Bool.noConfusion h, fun _ => H31.get 0 rfl, fun _ => H32.get 0 rfl, fun h => Bool.noConfusion h, trivial⟩, dyn_row (H31.get 3 rfl) (H33.get 3 rfl) ⟨fun h => Bool.noConfusion h, fun h => Bool.noConfusion h, fun _ => H31.get 3 rfl, fun _ => H32.get 3 rfl, fun h => Bool.noConfusion h, trivial⟩, trivial, trivial, trivial, trivial⟩⟩, ?_⟩
    replace H := H33
    clear H31 H32 H33
    replace H := ((H.del 3).del 0)
    dsimp only [setL, delL] at H
    refine W.ret ?_
    refine endG (by rfl) (by exact resL_cell rfl (H.get 1 rfl) (by rw [uT_eq]; exact Tryz.underlying27) (by kernel_rfl) rfl rfl (by exact resL_cell rfl (H.get 0 rfl) (by rw [uT_eq]; exact Tryz.underlying27) (by kernel_rfl) rfl rfl (by exact resL_tmp rfl))) ?_
    subst hbt
    exact ⟨ys, hys, .inr ⟨hc19, rfl, ((H.del 1).del 0).back (leV.trans leE)⟩⟩
  ·have hc19b := hc19
   have hc19 := (bne_eq_false_iff_eq.1) hc19
   refine RW.skip (by rfl) (by kernel_rfl) ?_
   refine RW.skip (by rfl) (by kernel_rfl) ?_
   refine RW.val (by rfl) (by kernel_rfl) rfl (by kernel_rfl) ?_
   refine RW.v ?_
   refine RW.nil ?_
   refine W.c0 ?_
   refine W.skip ?_
   refine W.seq (W.region ?_)
   refine RW.v ?_
   refine RW.nil ?_
   refine W.rg [(0, pp h), (4, .int .i64 d), (7, pp b2), (8, pp b3), (10, pp b4), (11, pp b5), (19, v2), (26, .slice none 0 0)] fun TA => ?_
   refine W.seq ?_
   refine W.seq (W.region ?_)
   refine RW.v ?_
   refine RW.len (by kernel_rfl) (by kernel_rfl) rfl rfl rfl rfl ((H.sl 0 rfl).len (by kernel_rfl)) (by kernel_rfl) ?_
   refine RW.v ?_
   refine RW.nil ?_
   refine W.rg [(0, pp h), (4, .int .i64 d), (7, pp b2), (8, pp b3), (10, pp b4), (11, pp b5), (26, .slice none 0 0), (168, v2), (169, .int .i64 ((ws.length + 1 : Nat) : Int)), (170, .int .i64 0)] fun TA => ?_
   refine W.block ?_
   replace H := H.nilSl 27 2
   refine W.loop (fun mm2 ta σ => ∃ (j : Nat) (u2 : Value), (mm2 + j = ws.length + 1) ∧ Lies G66 (heapAbs h m) F σ [.sl 27 2 u2 j (wdC ((ys.take j).map Prod.fst)), .sl 79 3 v2 (ws.length + 1) (rkC ys), .at_ b5 (.row ⟨[.int .i64 0, .int .i64 0], 27, false⟩), .at_ b4 (.row ⟨[.int .i64 0, .int .i64 0], 27, false⟩), .at_ b3 (.row ⟨[.int .i64 f.1, .int .i64 f.2], 27, false⟩), .at_ b2 (.row ⟨[.int .i64 p.1, .int .i64 p.2], 27, false⟩)] ∧ ta 0 = .pointer (some ⟨h, 0, none⟩) ∧ ta 4 = .int .i64 d ∧ ta 7 = .pointer (some ⟨b2, 0, none⟩) ∧ ta 8 = .pointer (some ⟨b3, 0, none⟩) ∧ ta 10 = .pointer (some ⟨b4, 0, none⟩) ∧ ta 11 = .pointer (some ⟨b5, 0, none⟩) ∧ ta 26 = u2 ∧ ta 168 = v2 ∧ ta 169 = .int .i64 ((ws.length + 1 : Nat) : Int) ∧ ta 170 = .int .i64 ((j : Nat) : Int)) (ws.length + 1) ?_ ?_
   ·exact ⟨0, .slice none 0 0, (by omega), H, rfl, rfl, rfl, rfl, rfl, rfl, rfl, rfl, rfl, rfl⟩
   clear H
   rintro mm2 ta _ ⟨j, u2, hm2, H, e0, e4, e7, e8, e10, e11, e26, e168, e169, e170⟩
   refine W.rst [(0, .pointer (some ⟨h, 0, none⟩)), (4, .int .i64 d), (7, .pointer (some ⟨b2, 0, none⟩)), (8, .pointer (some ⟨b3, 0, none⟩)), (10, .pointer (some ⟨b4, 0, none⟩)), (11, .pointer (some ⟨b5, 0, none⟩)), (26, u2), (168, v2), (169, .int .i64 ((ws.length + 1 : Nat) : Int)), (170, .int .i64 ((j : Nat) : Int))] ⟨e0, e4, e7, e8, e10, e11, e26, e168, e169, e170, trivial⟩ fun TA => ?_
   clear e0 e4 e7 e8 e10 e11 e26 e168 e169 e170
   refine W.seq (W.region ?_)
   refine RW.v ?_
   refine RW.nil ?_
   refine W.rg [(0, pp h), (4, .int .i64 d), (7, pp b2), (8, pp b3), (10, pp b4), (11, pp b5), (26, u2), (168, v2), (169, .int .i64 ((ws.length + 1 : Nat) : Int)), (170, .int .i64 ((j : Nat) : Int)), (171, .bool (decide (((j : Nat) : Int) < ((ws.length + 1 : Nat) : Int))))] fun TA => ?_
   refine W.seq ?_
   refine W.cond rfl (fun hc34 => ?_) (fun hc34 => ?_)
   ·have hc34b := hc34
    have hc34 := of_decide_eq_true hc34
    have hj : j < ys.length := by omega
    refine W.skip ?_
    refine W.seq ?_
    refine W.block ?_
    refine W.seq (W.region ?_)
    refine RW.idxG H 1 rfl (by kernel_rfl) (by kernel_rfl) rfl Tryz.underlying76 (by kernel_rfl) rfl rfl ⟨by omega, by omega⟩ (by kernel_rfl) ?_
    intro b35 q36 r37 hF38 hE39
    rw [rkC_at (l := ys) (j := j) (by omega)] at hE39
    refine RW.loads 3 (by kernel_rfl) (by kernel_rfl) rfl rfl (hF38) hE39 rfl (by kernel_rfl) ?_
    refine RW.mk H (.row ⟨[.int .i64 0, .int .i64 0, .int .i64 0], 79, false⟩) ?_
    clear H; intro _ b40 _ H
    refine RW.st H 0 [.int .i64 ((ys.getD j rk0).1.1), .int .i64 ((ys.getD j rk0).1.2), .int .i64 ((ys.getD j rk0).2)] [.int .i64 ((ys.getD j rk0).1.1), .int .i64 ((ys.getD j rk0).1.2), .int .i64 ((ys.getD j rk0).2)] ?_
    clear H; intro _ _ H; dsimp only [setL, delL] at H
    refine RW.nil ?_
    refine W.rg [(0, pp h), (4, .int .i64 d), (7, pp b2), (8, pp b3), (10, pp b4), (11, pp b5), (26, u2), (28, pp b40), (168, v2), (169, .int .i64 ((ws.length + 1 : Nat) : Int)), (170, .int .i64 ((j : Nat) : Int))] fun TA => ?_
    refine W.region ?_
    iterate 2 refine RW.v ?_
    refine RW.ld H 0 2 ?_
    refine RW.mkL H (x := .row ⟨[.int .i64 ((ys.getD j rk0).1.1), .int .i64 ((ys.getD j rk0).1.2)], 27, false⟩) (fm := fun b => .slice (some ⟨b, 0, none⟩) 1 1) (by kernel_rfl) (by kernel_rfl) (by kernel_rfl) (by kernel_rfl) ?_
    clear H; intro _ b41 _ H
    refine RW.appL H 2 0 (n := 1) (e2 := 27) (by kernel_rfl) (by kernel_rfl) rfl rfl rfl rfl rfl rfl rfl rfl (by kernel_rfl) (by kernel_rfl) (by kernel_rfl) (by decide) (by decide) rfl rfl (by omega) (by kernel_rfl) ?_
    clear H; intro _ v42 _ H
    dsimp only [setL, delL] at H
    refine RW.v ?_
    refine RW.nil ?_
    replace H := (H.del 0)
    dsimp only [setL, delL] at H
    refine blkQ_normal ?_
    refine W.rg [(0, pp h), (4, .int .i64 d), (7, pp b2), (8, pp b3), (10, pp b4), (11, pp b5), (26, v42), (168, v2), (169, .int .i64 ((ws.length + 1 : Nat) : Int)), (170, .int .i64 ((j : Nat) : Int))] fun TA => ?_
    refine W.region ?_
    refine RW.valE (v' := .int .i64 (((j : Nat) : Int) + 1)) (by kernel_rfl) (by kernel_rfl) rfl (congrArg (Value.int .i64) (wrap_in (by omega) (by omega))) (by kernel_rfl) ?_
    refine RW.v ?_
    refine RW.nil ?_
    rw [outs_snoc hj] at H
    exact ⟨rfl, mm2 - 1, by omega, j + 1, v42, (by omega), H, rfl, rfl, rfl, rfl, rfl, rfl, rfl, rfl, rfl, rfl⟩
   ·have hc34b := hc34
    have hc34 := of_decide_eq_false hc34
    refine W.exit _ ?_
    refine seqQ_exit ?_
    refine rndQ_exit ?_
    rw [List.take_of_length_le (by omega)] at H
    obtain rfl : j = (ys.map Prod.fst).length := by rw [List.length_map]; omega
    refine blkQ_here ?_
    refine W.seq (W.region ?_)
    iterate 2 refine RW.v ?_
    refine RW.cl ?_
    refine ((make_lies (h := h) (m := m) (l := ys.map Prod.fst) H (grow_vw (H.sl 0 rfl)) (H.sl 0 rfl).one hf (by rw [List.length_map]; omega) hlo hlim).mono ?_)
    clear H
    rintro _ _ ⟨rfl, H⟩
    obtain ⟨bt, hbt⟩ : ∃ bt, bt = built m (ys.map Prod.fst) (1, 0) := ⟨_, rfl⟩
    rw [← hbt] at H ⊢
    have B : ExtH m bt.1 (ws.length + 1) := by rw [hbt]; exact (ext_built hf _ _).le (by rw [List.length_map]; omega)
    have Bm := B.many
    have Bl := B.lim
    iterate 3 refine RW.v ?_
    refine RW.mk H (.row ⟨[.int .i64 0, .int .i64 0], 27, false⟩) ?_
    clear H; intro _ b43 _ H
    refine RW.st H 0 [.int .i64 bt.2.1, .int .i64 bt.2.2] [.int .i64 bt.2.1, .int .i64 bt.2.2] ?_
    clear H; intro _ _ H; dsimp only [setL, delL] at H
    refine RW.v ?_
    refine RW.nil ?_
    replace H := ((H.del 2).del 1)
    dsimp only [setL, delL] at H
    refine W.rg [(0, pp h), (4, .int .i64 d), (7, pp b2), (8, pp b3), (10, pp b4), (11, pp b5), (29, pp b43)] fun TA => ?_
    refine W.seq ?_
    refine W.seq (W.region ?_)
    refine RW.v ?_
    refine RW.valE (v' := .bool false) (by kernel_rfl) (by kernel_rfl) rfl (congrArg Value.bool (bne_eq_false_iff_eq.2 (by omega))) (by kernel_rfl) ?_
    refine RW.nil ?_
    refine W.c0 ?_
    refine W.skip ?_
    refine W.seq ?_
    refine W.drawn (by kernel_rfl) (by kernel_rfl) H.gn ?_
    have H44 := H
    refine RW.ld H44 0 2 ?_
    refine RW.ld H44 4 2 ?_
    refine RW.stD H44 2 (vs := [.int .i64 bt.2.1, .int .i64 bt.2.2]) (cs' := [.int .i64 bt.2.1, .int .i64 bt.2.2]) (by kernel_rfl) (by kernel_rfl) rfl rfl rfl rfl rfl (by kernel_rfl) (Nat.le_of_ble_eq_true rfl) rfl (by kernel_rfl) ?_
    intro _ H45
    dsimp only [setL, delL] at H45
    refine RW.stD H45 1 (vs := [.int .i64 p.1, .int .i64 p.2]) (cs' := [.int .i64 p.1, .int .i64 p.2]) (by kernel_rfl) (by kernel_rfl) rfl rfl rfl rfl rfl (by kernel_rfl) (Nat.le_of_ble_eq_true rfl) rfl (by kernel_rfl) ?_
    intro _ H46
    dsimp only [setL, delL] at H46
    refine RW.v ?_
    refine RW.nil ?_
    refine ⟨⟨by kernel_rfl, ⟨dyn_row (H44.get 0 rfl) (H46.get 0 rfl) ⟨fun h => Bool.noConfusion h, fun h => Bool.noConfusion h, fun _ => H44.get 0 rfl, fun _ => H45.get 0 rfl, fun h => Bool.noConfusion h, trivial⟩, dyn_row (H44.get 4 rfl) (H46.get 4 rfl) ⟨fun h => Bool.noConfusion h, fun h => Bool.noConfusion h, fun _ => H44.get 4 rfl, fun _ => H45.get 4 rfl, fun h => Bool.noConfusion h, trivial⟩, trivial, trivial, trivial, trivial⟩⟩, ?_⟩
    replace H := H46
    clear H44 H45 H46
    replace H := (((H.del 4).del 3).del 0)
    dsimp only [setL, delL] at H
    refine W.ret ?_
    refine endG (by rfl) (by exact resL_cell rfl (H.get 1 rfl) (by rw [uT_eq]; exact Tryz.underlying27) (by kernel_rfl) rfl rfl (by exact resL_cell rfl (H.get 0 rfl) (by rw [uT_eq]; exact Tryz.underlying27) (by kernel_rfl) rfl rfl (by exact resL_tmp rfl))) ?_
    subst hbt
    exact ⟨ys, hys, .inl ⟨hc19, rfl, ((H.del 1).del 0).back (leV.trans leE)⟩⟩
end
end Go.Proofs.YtaaebeiigkhcjaaGreatDoor
