/-
 Values of hooks, single or lists; Has and Depth. Conditions: the heap lies there as HeapAt says.
 What Add and Remove do to functions and depths, by keys. Conditions: the heap lies there as HeapAt says.
-/
import Derived.Test.YtaaebeiigkhcjaaGreatDoorR2
import Derived.Test.YtaaebeiigkhcjaaGreatDoorHrh
namespace Go.Proofs.YtaaebeiigkhcjaaGreatDoor
set_option maxRecDepth 100000
section
variable {m m' : HM} {w x : Wd} {ws : List Wd} {h : Nat} {σ0 : Mem}
set_option maxHeartbeats 4000000 in
theorem elems_one (g : Good m x) (h0 : (x.1 == 1 && x.2 == 0) = false) (_hlo : 0 < m.limit) : Elems G66 h m x [x] := by
 intro σ0 hG ha hN
 obtain ⟨tN, gN, hN⟩ := hN
 cases g with
 | atom hk =>
  have H := Lies.start hG ha
  generalize σ0.get = F at H hN ⊢
  refine WC.enter (fn := Tryz.f61) Tryz.func61 rfl ?_
  refine W.rg [(0, pp h), (1, .agg #[.int .i64 x.1, .int .i64 x.2])] fun TA => ?_
  refine W.seq (W.region ?_)
  refine RW.mk H (.row ⟨[.int .i64 x.1, .int .i64 x.2], 27, false⟩) ?_
  clear H; intro _ b1 _ H
  iterate 2 refine RW.v ?_
  refine RW.nil ?_
  refine W.rg [(0, pp h), (3, pp b1)] fun TA => ?_
  refine W.seq ?_
  refine W.seq (W.region ?_)
  refine RW.ld H 0 2 ?_
  refine RW.loads 2 (by kernel_rfl) (by kernel_rfl) rfl rfl (H.old _ _ hN) rfl rfl (by kernel_rfl) ?_
  refine RW.vop (v := .bool true) (by kernel_rfl) (by kernel_rfl) (vop_eqS (b := false) (r := true) rfl (.inr ⟨rfl, rfl⟩) rfl rfl rfl rfl (by kernel_rfl) (fun w => (eqWd _ _ _ _ w).trans (by (first | refine congrArg (Result.ok · w) ?_ | skip); exact h0))) (by kernel_rfl) ?_
  refine RW.v ?_
  refine RW.val (by rfl) (by kernel_rfl) rfl (by kernel_rfl) ?_
  refine RW.ldL H 0 2 (by rfl) (by kernel_rfl) rfl rfl rfl rfl rfl (by kernel_rfl) ?_
  refine RW.cl (hw := by rfl) ?_
  refine WC.enter (fn := Tryz.f85) Tryz.func85 rfl ?_
  refine W.rg [(0, pp h), (1, .agg #[.int .i64 x.1, .int .i64 x.2])] fun TA => ?_
  refine W.seq (W.region ?_)
  refine RW.mk H (.row ⟨[.int .i64 x.1, .int .i64 x.2], 27, false⟩) ?_
  clear H; intro _ b2 _ H
  refine RW.v ?_
  refine RW.nil ?_
  refine W.rg [(0, pp h), (3, pp b2)] fun TA => ?_
  refine W.seq (W.region ?_)
  refine RW.v ?_
  refine RW.ld H 0 1 ?_
  refine RW.valE (v' := .bool false) (by kernel_rfl) (by kernel_rfl) rfl (congrArg Value.bool (beq_eq_false_iff_ne.2 (by omega))) (by kernel_rfl) ?_
  refine RW.v ?_
  refine RW.skip (by rfl) (by kernel_rfl) ?_
  refine RW.skip (by rfl) (by kernel_rfl) ?_
  refine RW.skip (by rfl) (by kernel_rfl) ?_
  iterate 2 refine RW.v ?_
  refine RW.nil ?_
  replace H := (H.del 0)
  dsimp only [setL, delL] at H
  refine W.ret ?_
  refine endG (by rfl) (by exact resL_tmp rfl) ?_
  refine RW.val (by rfl) (by kernel_rfl) rfl (by kernel_rfl) ?_
  refine RW.v ?_
  refine RW.nil ?_
  refine W.c1 ?_
  refine W.seq (W.region ?_)
  refine RW.ld H 0 2 ?_
  refine RW.mkL H (x := .row ⟨[.int .i64 x.1, .int .i64 x.2], 27, false⟩) (fm := fun b => .slice (some ⟨b, 0, none⟩) 1 1) (by kernel_rfl) (by kernel_rfl) (by kernel_rfl) (by kernel_rfl) ?_
  clear H; intro _ b3 _ H
  iterate 2 refine RW.v ?_
  refine RW.nil ?_
  replace H := (H.del 1)
  dsimp only [setL, delL] at H
  refine W.ret ?_
  refine seqQ_ret ?_
  refine endG (by rfl) (by exact resL_tmp (by exact resL_tmp rfl)) ?_
  exact ⟨_, rfl, _, H, fun A2 F2 σ2 L2 H2 => by obtain ⟨F', h1, h2, h3⟩ := H2.freeze 0 rfl; exact ⟨F', h1, .some h2 rfl rfl, h3⟩⟩
 | @lam i j k h1 h2 =>
  have H := Lies.start hG ha
  generalize σ0.get = F at H hN ⊢
  refine WC.enter (fn := Tryz.f61) Tryz.func61 rfl ?_
  refine W.rg [(0, pp h), (1, .agg #[.int .i64 2, .int .i64 i])] fun TA => ?_
  refine W.seq (W.region ?_)
  refine RW.mk H (.row ⟨[.int .i64 2, .int .i64 i], 27, false⟩) ?_
  clear H; intro _ b1 _ H
  iterate 2 refine RW.v ?_
  refine RW.nil ?_
  refine W.rg [(0, pp h), (3, pp b1)] fun TA => ?_
  refine W.seq ?_
  refine W.seq (W.region ?_)
  refine RW.ld H 0 2 ?_
  refine RW.loads 2 (by kernel_rfl) (by kernel_rfl) rfl rfl (H.old _ _ hN) rfl rfl (by kernel_rfl) ?_
  refine RW.vop (v := .bool true) (by kernel_rfl) (by kernel_rfl) (vop_eqS (b := false) (r := true) rfl (.inr ⟨rfl, rfl⟩) rfl rfl rfl rfl (by kernel_rfl) (fun w => (eqWd _ _ _ _ w).trans (by simp))) (by kernel_rfl) ?_
  refine RW.v ?_
  refine RW.val (by rfl) (by kernel_rfl) rfl (by kernel_rfl) ?_
  refine RW.ldL H 0 2 (by rfl) (by kernel_rfl) rfl rfl rfl rfl rfl (by kernel_rfl) ?_
  refine RW.cl (hw := by rfl) ?_
  refine WC.enter (fn := Tryz.f85) Tryz.func85 rfl ?_
  refine W.rg [(0, pp h), (1, .agg #[.int .i64 2, .int .i64 i])] fun TA => ?_
  refine W.seq (W.region ?_)
  refine RW.mk H (.row ⟨[.int .i64 2, .int .i64 i], 27, false⟩) ?_
  clear H; intro _ b2 _ H
  refine RW.v ?_
  refine RW.nil ?_
  refine W.rg [(0, pp h), (3, pp b2)] fun TA => ?_
  refine W.seq (W.region ?_)
  refine RW.v ?_
  refine RW.ld H 0 1 ?_
  iterate 2 refine RW.v ?_
  refine RW.val (by rfl) (by kernel_rfl) rfl (by kernel_rfl) ?_
  refine RW.ldL H 0 2 (by rfl) (by kernel_rfl) rfl rfl rfl rfl rfl (by kernel_rfl) ?_
  refine RW.cl (hw := by rfl) ?_
  refine ⟨_, _, (liveY_call (G := G66) H.abs h1), ?_⟩
  iterate 2 refine RW.v ?_
  refine RW.nil ?_
  replace H := (H.del 0)
  dsimp only [setL, delL] at H
  refine W.ret ?_
  refine endG (by rfl) (by exact resL_tmp rfl) ?_
  refine RW.val (by rfl) (by kernel_rfl) rfl (by kernel_rfl) ?_
  refine RW.v ?_
  refine RW.nil ?_
  refine W.c0 ?_
  refine W.skip ?_
  refine W.seq ?_
  refine W.seq (W.region ?_)
  refine RW.v ?_
  refine RW.ld H 0 2 ?_
  refine RW.cl ?_
  refine ⟨_, _, (carY_call (G := G66) H.abs h1), ?_⟩
  iterate 3 refine RW.v ?_
  refine RW.mk H (.row ⟨[.int .i64 0, .int .i64 0], 27, false⟩) ?_
  clear H; intro _ b3 _ H
  refine RW.st H 0 [.int .i64 1, .int .i64 7] [.int .i64 1, .int .i64 7] ?_
  clear H; intro _ _ H; dsimp only [setL, delL] at H
  refine RW.v ?_
  refine RW.nil ?_
  refine W.rg [(0, pp h), (3, pp b1), (6, pp b3)] fun TA => ?_
  refine W.seq (W.region ?_)
  refine RW.v ?_
  refine RW.ld H 0 1 ?_
  iterate 2 refine RW.v ?_
  refine RW.val (by rfl) (by kernel_rfl) rfl (by kernel_rfl) ?_
  refine RW.ldL H 0 1 (by rfl) (by kernel_rfl) rfl rfl rfl rfl rfl (by kernel_rfl) ?_
  refine RW.val (by rfl) (by kernel_rfl) rfl (by kernel_rfl) ?_
  refine RW.val (by rfl) (by kernel_rfl) rfl (by kernel_rfl) ?_
  refine RW.skip (by rfl) (by kernel_rfl) ?_
  refine RW.skip (by rfl) (by kernel_rfl) ?_
  refine RW.skip (by rfl) (by kernel_rfl) ?_
  refine RW.val (by rfl) (by kernel_rfl) rfl (by kernel_rfl) ?_
  refine RW.v ?_
  refine RW.nil ?_
  replace H := (H.del 0)
  dsimp only [setL, delL] at H
  refine W.c1 ?_
  refine W.seq (W.region ?_)
  refine RW.ld H 0 2 ?_
  refine RW.mkL H (x := .row ⟨[.int .i64 2, .int .i64 i], 27, false⟩) (fm := fun b => .slice (some ⟨b, 0, none⟩) 1 1) (by kernel_rfl) (by kernel_rfl) (by kernel_rfl) (by kernel_rfl) ?_
  clear H; intro _ b4 _ H
  iterate 2 refine RW.v ?_
  refine RW.nil ?_
  replace H := (H.del 1)
  dsimp only [setL, delL] at H
  refine W.ret ?_
  refine seqQ_ret ?_
  refine endG (by rfl) (by exact resL_tmp (by exact resL_tmp rfl)) ?_
  exact ⟨_, rfl, _, H, fun A2 F2 σ2 L2 H2 => by obtain ⟨F', h1, h2, h3⟩ := H2.freeze 0 rfl; exact ⟨F', h1, .some h2 rfl rfl, h3⟩⟩
inductive ElemR (m : HM) : Wd → List Wd → Prop
 | list {w : Wd} {ws : List Wd} {c : Nat → Wd} (hx : c 0 = w) (hp : Chain m c ws) (hf : ∀ x ∈ ws, Fine x) : ElemR m w ws
 | one {w : Wd} (g : Good m w) (h0 : (w.1 == 1 && w.2 == 0) = false) : ElemR m w [w]
def ListR (m : HM) (w : Wd) (l : List Wd) : Prop := ∃ c : Nat → Wd, c 0 = w ∧ Chain m c l
theorem ListR.mono {l : List Wd} (h : ListR m w l) (f : FindsAll m m') : ListR m' w l := by
 obtain ⟨c, h1, h2⟩ := h
 exact ⟨c, h1, h2.mono f⟩
theorem ListR.built {l : List Wd} : ListR (built m l (1, 0)).1 (built m l (1, 0)).2 l := ⟨consOf m l (1, 0), (built_word m l (1, 0)).symm, chain_built m l⟩
theorem ListR.elem {l : List Wd} (h : ListR m w l) (hf : ∀ x ∈ l, Fine x) : ElemR m w l := by
 obtain ⟨c, h1, h2⟩ := h
 exact .list h1 h2 hf
theorem ElemR.mono (h : ElemR m w ws) (f : FindsAll m m') : ElemR m' w ws := by
 cases h with
 | list hx hp hf => exact .list hx (hp.mono f) hf
 | one g h0 => exact .one (Good.mono f g).1 h0
theorem ElemR.nil (h : ElemR m w ws) (e : ws = []) : w = (1, 0) := by
 cases h with
 | list hx hp hf => subst e; exact hx.symm.trans hp.1
 | one g h0 => cases e
theorem ElemR.elems (r : ElemR m w ws) (hlo : 0 < m.limit) (hn : ws.length ≤ 65536) : Elems G66 h m w ws := by
 cases r with
 | list hx hp hf => exact elems_list hx hp hlo hn hf
 | one g h0 => exact elems_one g h0 hlo
theorem elemR_nil (m : HM) : ElemR m (1, 0) [] := .list (c := fun _ => (1, 0)) rfl ⟨rfl, fun j hj => absurd hj (Nat.not_lt_zero _)⟩ (fun _ h => by cases h)
set_option maxHeartbeats 4000000 in
theorem has_wc {vw : Wd} (hG : G66 ≤ σ0.next) (ha : σ0.abs = heapAbs h m) (hlo : 0 < m.limit) (hN : GNull σ0.get) (E : Elems G66 h m vw ws) (hnw : ws.length ≤ 65536) (gx : Good m x) (gws : ∀ y ∈ ws, Good m y) :
  WC G66 Tryz.prog 17 #[pp h, wdV vw, wdV x] σ0 fun r σ' => r = .tuple #[.bool (hasW m x ws), .int .i64 0] ∧ Lies G66 (heapAbs h m) σ0.get σ' [] := by
 obtain ⟨tN, gN, hN⟩ := hN
 have H := Lies.start hG ha
 generalize σ0.get = F at H hN ⊢
 refine WC.enter (fn := Tryz.f17) Tryz.func17 rfl ?_
 refine W.rg [(0, pp h), (1, .agg #[.int .i64 vw.1, .int .i64 vw.2]), (2, .agg #[.int .i64 x.1, .int .i64 x.2])] fun TA => ?_
 refine W.seq (W.region ?_)
 refine RW.mk H (.row ⟨[.int .i64 vw.1, .int .i64 vw.2], 27, false⟩) ?_
 clear H; intro _ b1 _ H
 refine RW.mk H (.row ⟨[.int .i64 x.1, .int .i64 x.2], 27, false⟩) ?_
 clear H; intro _ b2 _ H
 iterate 2 refine RW.v ?_
 refine RW.nil ?_
 refine W.rg [(0, pp h), (4, pp b1), (5, pp b2)] fun TA => ?_
 refine W.seq ?_
 refine W.seq (W.region ?_)
 refine RW.v ?_
 refine RW.cl ?_
 refine WC.enter (fn := Tryz.f41) Tryz.func41 rfl ?_
 refine W.rg [(0, pp h)] fun TA => ?_
 refine W.seq (W.region ?_)
 refine RW.v ?_
 refine RW.nil ?_
 refine W.rg [(0, pp h)] fun TA => ?_
 refine W.seq (W.region ?_)
 refine RW.v ?_
 refine RW.cl ?_
 refine ⟨_, _, (s_limit (G := G66) H.abs), ?_⟩
 refine RW.valE (v' := .bool true) (by kernel_rfl) (by kernel_rfl) rfl (congrArg Value.bool (decide_eq_true (by omega))) (by kernel_rfl) ?_
 refine RW.v ?_
 refine RW.nil ?_
 refine W.ret ?_
 refine endG (by rfl) (by exact resL_tmp rfl) ?_
 refine RW.v ?_
 refine RW.nil ?_
 refine W.c0 ?_
 refine W.skip ?_
 refine W.seq (W.region ?_)
 refine RW.v ?_
 refine RW.ld H 1 2 ?_
 refine RW.cl ?_
 refine ((E _ H.gn H.abs ⟨_, _, H.old _ _ hN⟩).mono ?_)
 rintro _ _ ⟨slV, rfl, LV, K, fz⟩
 obtain ⟨F, leV, hSV, H⟩ := fz _ _ _ _ (H.then K)
 clear K fz
 replace hN := leV _ _ hN
 iterate 5 refine RW.v ?_
 refine RW.nil ?_
 replace H := (H.del 1)
 dsimp only [setL, delL] at H
 refine W.rg [(0, pp h), (5, pp b2), (8, slV), (9, .int .i64 0)] fun TA => ?_
 refine W.seq ?_
 refine W.seq (W.region ?_)
 iterate 2 refine RW.v ?_
 refine RW.nil ?_
 refine W.c0 ?_
 refine W.skip ?_
 refine W.seq (W.region ?_)
 iterate 2 refine RW.v ?_
 refine RW.ld H 0 2 ?_
 refine RW.cl ?_
 refine ((find_wc H.gn H.abs hlo hnw (hSV.le H.old) gx gws).mono ?_)
 rintro _ _ ⟨rfl, K⟩
 replace H := H.then K
 clear K
 dsimp only [List.nil_append, List.cons_append] at H
 iterate 4 refine RW.v ?_
 refine RW.nil ?_
 replace H := (H.del 0)
 dsimp only [setL, delL] at H
 refine W.ret ?_
 refine endG (by rfl) (by exact resL_tmp (by exact resL_tmp rfl)) ?_
 exact ⟨rfl, H.back leV⟩
def kN (n : Int) : Wd := if pickOf n 8 = 0 ∨ pickOf n 8 = 1 then (1, pickOf n 8) else if pickOf n 8 = 5 ∨ pickOf n 8 = 6 then (2, pickOf n 8) else if pickOf n 8 = 7 then (0, 9) else (1, 68 + pickOf n 8)
theorem key_built (m : HM) (k : Int) : keyW (built m [((1, 7) : Wd), ((0, k) : Wd)] (1, 0)).1 (built m [((1, 7) : Wd), ((0, k) : Wd)] (1, 0)).2 = (2, k) := by
 obtain ⟨h1, h2⟩ := chain_built m [((1, 7) : Wd), ((0, k) : Wd)]
 have w := built_word m [((1, 7) : Wd), ((0, k) : Wd)] (1, 0)
 obtain ⟨c, hc⟩ : ∃ c, c = consOf m [((1, 7) : Wd), ((0, k) : Wd)] (1, 0) := ⟨_, rfl⟩
 rw [← hc] at h1 h2 w
 have k0 := h2.kind (j := 0) (by simp)
 have k1 := h2.kind (j := 1) (by simp)
 have f0 := h2 0 (by simp)
 have f1 := h2 1 (by simp)
 have e2 : c 2 = (1, 0) := h1
 rw [show c (1 + 1) = (1, 0) from e2] at f1
 rw [w]
 have c0 : c 0 = (2, (c 0).2) := Prod.ext k0 rfl
 have c1 : c 1 = (2, (c 1).2) := Prod.ext k1 rfl
 rw [c0]
 rw [c0, show c (0 + 1) = (2, (c 1).2) from c1] at f0
 rw [c1] at f1
 exact keyW_lam f0 f1
set_option maxHeartbeats 4000000 in
theorem word3_wc (n : Int) (hG : G66 ≤ σ0.next) (ha : σ0.abs = heapAbs h m) (hf : m.free = []) (hr : m.many + 2 ≤ m.limit) (hlim : m.limit ≤ 65536) (hn1 : -9223372036854775808 ≤ n) (hn2 : n ≤ 9223372036854775807) :
  WC G66 Tryz.prog 10 #[pp h, .int .i64 n] σ0 fun v σ' => ∃ m' w, v = wdV w ∧ ExtH m m' 2 ∧ Fine w ∧ Good m' w ∧ keyW m' w = kN n ∧ Lies G66 (heapAbs h m') σ0.get σ' [] := by
 have H := Lies.start hG ha
 generalize σ0.get = F at H ⊢
 refine WC.enter (fn := Tryz.f10) Tryz.func10 rfl ?_
 refine W.rg [(0, pp h), (1, .int .i64 n)] fun TA => ?_
 refine W.seq (W.region ?_)
 refine RW.mk H (.row ⟨[.int .i64 0, .int .i64 0], 27, false⟩) ?_
 clear H; intro _ b1 _ H
 refine RW.nil ?_
 refine W.rg [(0, pp h), (1, .int .i64 n), (4, pp b1)] fun TA => ?_
 refine W.seq (W.region ?_)
 refine RW.v ?_
 refine RW.cl ?_
 refine ⟨_, _, (s_pick (G := G66) (n) 8 (by omega) (by omega) (by decide) (by decide)), ?_⟩
 have hp2 := pickOf_in n (show (0 : Int) < 8 by decide)
 refine RW.v ?_
 refine RW.nil ?_
 refine W.rg [(0, pp h), (4, pp b1), (5, .int .i64 (pickOf n 8))] fun TA => ?_
 refine W.seq (W.region ?_)
 refine RW.v ?_
 refine RW.nil ?_
 refine W.rg [(0, pp h), (4, pp b1), (5, .int .i64 (pickOf n 8)), (10, .int .i64 (pickOf n 8))] fun TA => ?_
 refine W.block ?_
 refine W.seq ?_
 refine W.seq (W.region ?_)
 iterate 2 refine RW.v ?_
 refine RW.nil ?_
 refine W.rg [(0, pp h), (4, pp b1), (5, .int .i64 (pickOf n 8)), (10, .int .i64 (pickOf n 8)), (14, .bool ((pickOf n 8) == 0))] fun TA => ?_
 refine W.cond rfl (fun hc3 => ?_) (fun hc3 => ?_)
 ·have hc3b := hc3
  have hc3 := eq_of_beq hc3
  refine W.skip ?_
  refine W.cond (b := true) (congrArg Value.bool hc3b) (fun _ => ?_) (fun h => by cases h)
  refine W.seq (W.region ?_)
  refine RW.v ?_
  refine RW.cl ?_
  refine WC.enter (fn := Tryz.f15) Tryz.func15 rfl ?_
  refine W.rg [(0, .int .i64 (pickOf n 8))] fun TA => ?_
  refine W.seq (W.region ?_)
  refine RW.mk H (.row ⟨[.int .i64 0, .int .i64 0], 27, false⟩) ?_
  clear H; intro _ b4 _ H
  refine RW.nil ?_
  refine W.rg [(0, .int .i64 (pickOf n 8)), (2, pp b4)] fun TA => ?_
  refine W.seq (W.region ?_)
  refine RW.v ?_
  refine RW.val (v := .agg #[.int .i64 1, .int .i64 (pickOf n 8)]) (by kernel_rfl) (by kernel_rfl) (by kernel_rfl) (by kernel_rfl) ?_
  refine RW.st H 0 [.int .i64 1, .int .i64 (pickOf n 8)] [.int .i64 1, .int .i64 (pickOf n 8)] ?_
  clear H; intro _ _ H; dsimp only [setL, delL] at H
  refine RW.nil ?_
  refine W.ret ?_
  refine endG (by rfl) (by exact resL_cell rfl (H.get 0 rfl) (by rw [uT_eq]; exact Tryz.underlying27) (by kernel_rfl) rfl rfl rfl) ?_
  refine RW.st H 1 [.int .i64 1, .int .i64 (pickOf n 8)] [.int .i64 1, .int .i64 (pickOf n 8)] ?_
  clear H; intro _ _ H; dsimp only [setL, delL] at H
  refine RW.nil ?_
  replace H := (H.del 0)
  dsimp only [setL, delL] at H
  refine W.ret ?_
  refine blkQ_ret ?_
  refine endG (by rfl) (by exact resL_cell rfl (H.get 0 rfl) (by rw [uT_eq]; exact Tryz.underlying27) (by kernel_rfl) rfl rfl rfl) ?_
  exact ⟨m, ((1, pickOf n 8) : Wd), rfl, ((ExtH.refl hf).le (by omega)), fun _ => (by dsimp only; omega), .atom (.inr rfl), (by rw [keyW_atom (.inr rfl)]; unfold kN; (repeat' split) <;> first | rfl | (exfalso; omega)), (H.del 0)⟩
 ·have hc3b := hc3
  have hc3 := ne_of_beq_false hc3
  refine W.region ?_
  iterate 2 refine RW.v ?_
  refine RW.nil ?_
  refine W.rg [(0, pp h), (4, pp b1), (5, .int .i64 (pickOf n 8)), (10, .int .i64 (pickOf n 8)), (14, .bool ((pickOf n 8) == 1))] fun TA => ?_
  refine W.cond rfl (fun hc5 => ?_) (fun hc5 => ?_)
  ·have hc5b := hc5
   have hc5 := eq_of_beq hc5
   refine W.seq (W.region ?_)
   refine RW.v ?_
   refine RW.cl ?_
   refine WC.enter (fn := Tryz.f15) Tryz.func15 rfl ?_
   refine W.rg [(0, .int .i64 (pickOf n 8))] fun TA => ?_
   refine W.seq (W.region ?_)
   refine RW.mk H (.row ⟨[.int .i64 0, .int .i64 0], 27, false⟩) ?_
   clear H; intro _ b6 _ H
   refine RW.nil ?_
   refine W.rg [(0, .int .i64 (pickOf n 8)), (2, pp b6)] fun TA => ?_
   refine W.seq (W.region ?_)
   refine RW.v ?_
   refine RW.val (v := .agg #[.int .i64 1, .int .i64 (pickOf n 8)]) (by kernel_rfl) (by kernel_rfl) (by kernel_rfl) (by kernel_rfl) ?_
   refine RW.st H 0 [.int .i64 1, .int .i64 (pickOf n 8)] [.int .i64 1, .int .i64 (pickOf n 8)] ?_
   clear H; intro _ _ H; dsimp only [setL, delL] at H
   refine RW.nil ?_
   refine W.ret ?_
   refine endG (by rfl) (by exact resL_cell rfl (H.get 0 rfl) (by rw [uT_eq]; exact Tryz.underlying27) (by kernel_rfl) rfl rfl rfl) ?_
   refine RW.st H 1 [.int .i64 1, .int .i64 (pickOf n 8)] [.int .i64 1, .int .i64 (pickOf n 8)] ?_
   clear H; intro _ _ H; dsimp only [setL, delL] at H
   refine RW.nil ?_
   replace H := (H.del 0)
   dsimp only [setL, delL] at H
   refine W.ret ?_
   refine blkQ_ret ?_
   refine endG (by rfl) (by exact resL_cell rfl (H.get 0 rfl) (by rw [uT_eq]; exact Tryz.underlying27) (by kernel_rfl) rfl rfl rfl) ?_
   exact ⟨m, ((1, pickOf n 8) : Wd), rfl, ((ExtH.refl hf).le (by omega)), fun _ => (by dsimp only; omega), .atom (.inr rfl), (by rw [keyW_atom (.inr rfl)]; unfold kN; (repeat' split) <;> first | rfl | (exfalso; omega)), (H.del 0)⟩
  ·have hc5b := hc5
   have hc5 := ne_of_beq_false hc5
   refine W.seq ?_
   refine W.seq (W.region ?_)
   iterate 2 refine RW.v ?_
   refine RW.nil ?_
   refine W.rg [(0, pp h), (4, pp b1), (5, .int .i64 (pickOf n 8)), (10, .int .i64 (pickOf n 8)), (19, .bool ((pickOf n 8) == 5))] fun TA => ?_
   refine W.cond rfl (fun hc7 => ?_) (fun hc7 => ?_)
   ·have hc7b := hc7
    have hc7 := eq_of_beq hc7
    refine W.skip ?_
    refine W.cond (b := true) (congrArg Value.bool hc7b) (fun _ => ?_) (fun h => by cases h)
    refine W.seq (W.region ?_)
    refine RW.v ?_
    refine RW.cl ?_
    refine WC.enter (fn := Tryz.f15) Tryz.func15 rfl ?_
    refine W.rg [(0, .int .i64 7)] fun TA => ?_
    refine W.seq (W.region ?_)
    refine RW.mk H (.row ⟨[.int .i64 0, .int .i64 0], 27, false⟩) ?_
    clear H; intro _ b8 _ H
    refine RW.nil ?_
    refine W.rg [(0, .int .i64 7), (2, pp b8)] fun TA => ?_
    refine W.seq (W.region ?_)
    refine RW.v ?_
    refine RW.val (v := .agg #[.int .i64 1, .int .i64 7]) (by kernel_rfl) (by kernel_rfl) (by kernel_rfl) (by kernel_rfl) ?_
    refine RW.st H 0 [.int .i64 1, .int .i64 7] [.int .i64 1, .int .i64 7] ?_
    clear H; intro _ _ H; dsimp only [setL, delL] at H
    refine RW.nil ?_
    refine W.ret ?_
    refine endG (by rfl) (by exact resL_cell rfl (H.get 0 rfl) (by rw [uT_eq]; exact Tryz.underlying27) (by kernel_rfl) rfl rfl rfl) ?_
    refine RW.v ?_
    refine RW.cl ?_
    refine ⟨_, _, (s_int (G := G66) (pickOf n 8)), ?_⟩
    refine RW.mkL H (x := .row ⟨[.int .i64 1, .int .i64 7, .int .i64 0, .int .i64 (pickOf n 8)], 27, false⟩) (fm := fun b => .slice (some ⟨b, 0, none⟩) 2 2) (by kernel_rfl) (by kernel_rfl) (by kernel_rfl) (by kernel_rfl) ?_
    clear H; intro _ b9 _ H
    refine RW.cl ?_
    refine ((make_lies (G := G66) (h := h) (m := m) (l := [((1, 7) : Wd), ((0, pickOf n 8) : Wd)]) H (row_vw (x := ((1, 7) : Wd)) (y := ((0, pickOf n 8) : Wd)) (H.get 0 rfl)) rfl hf (by show _ + 2 ≤ _; omega) (by omega) hlim).mono ?_)
    clear H
    rintro _ _ ⟨rfl, H⟩
    iterate 3 refine RW.v ?_
    refine RW.mk H (.row ⟨[.int .i64 0, .int .i64 0], 27, false⟩) ?_
    clear H; intro _ b10 _ H
    refine RW.st H 0 [.int .i64 ((built m [((1, 7) : Wd), ((0, pickOf n 8) : Wd)] (1, 0)).2.1), .int .i64 ((built m [((1, 7) : Wd), ((0, pickOf n 8) : Wd)] (1, 0)).2.2)] [.int .i64 ((built m [((1, 7) : Wd), ((0, pickOf n 8) : Wd)] (1, 0)).2.1), .int .i64 ((built m [((1, 7) : Wd), ((0, pickOf n 8) : Wd)] (1, 0)).2.2)] ?_
    clear H; intro _ _ H; dsimp only [setL, delL] at H
    refine RW.v ?_
    refine RW.nil ?_
    replace H := ((H.del 2).del 1)
    dsimp only [setL, delL] at H
    refine W.rg [(4, pp b1), (6, pp b10)] fun TA => ?_
    refine W.seq (W.region ?_)
    refine RW.ld H 0 2 ?_
    refine RW.st H 1 [.int .i64 ((built m [((1, 7) : Wd), ((0, pickOf n 8) : Wd)] (1, 0)).2.1), .int .i64 ((built m [((1, 7) : Wd), ((0, pickOf n 8) : Wd)] (1, 0)).2.2)] [.int .i64 ((built m [((1, 7) : Wd), ((0, pickOf n 8) : Wd)] (1, 0)).2.1), .int .i64 ((built m [((1, 7) : Wd), ((0, pickOf n 8) : Wd)] (1, 0)).2.2)] ?_
    clear H; intro _ _ H; dsimp only [setL, delL] at H
    refine RW.nil ?_
    replace H := (H.del 0)
    dsimp only [setL, delL] at H
    refine W.ret ?_
    refine blkQ_ret ?_
    refine endG (by rfl) (by exact resL_cell rfl (H.get 0 rfl) (by rw [uT_eq]; exact Tryz.underlying27) (by kernel_rfl) rfl rfl rfl) ?_
    exact ⟨(built m [((1, 7) : Wd), ((0, pickOf n 8) : Wd)] (1, 0)).1, (((built m [((1, 7) : Wd), ((0, pickOf n 8) : Wd)] (1, 0)).2.1, (built m [((1, 7) : Wd), ((0, pickOf n 8) : Wd)] (1, 0)).2.2) : Wd), rfl, (ext_built hf [((1, 7) : Wd), ((0, pickOf n 8) : Wd)] (1, 0)), fun e => absurd (e.symm.trans built_kind) (by decide), good_built _ _, ((key_built _ _).trans (by unfold kN; (repeat' split) <;> first | rfl | (exfalso; omega))), (H.del 0)⟩
   ·have hc7b := hc7
    have hc7 := ne_of_beq_false hc7
    refine W.region ?_
    iterate 2 refine RW.v ?_
    refine RW.nil ?_
    refine W.rg [(0, pp h), (4, pp b1), (5, .int .i64 (pickOf n 8)), (10, .int .i64 (pickOf n 8)), (19, .bool ((pickOf n 8) == 6))] fun TA => ?_
    refine W.cond rfl (fun hc11 => ?_) (fun hc11 => ?_)
    ·have hc11b := hc11
     have hc11 := eq_of_beq hc11
     refine W.seq (W.region ?_)
     refine RW.v ?_
     refine RW.cl ?_
     refine WC.enter (fn := Tryz.f15) Tryz.func15 rfl ?_
     refine W.rg [(0, .int .i64 7)] fun TA => ?_
     refine W.seq (W.region ?_)
     refine RW.mk H (.row ⟨[.int .i64 0, .int .i64 0], 27, false⟩) ?_
     clear H; intro _ b12 _ H
     refine RW.nil ?_
     refine W.rg [(0, .int .i64 7), (2, pp b12)] fun TA => ?_
     refine W.seq (W.region ?_)
     refine RW.v ?_
     refine RW.val (v := .agg #[.int .i64 1, .int .i64 7]) (by kernel_rfl) (by kernel_rfl) (by kernel_rfl) (by kernel_rfl) ?_
     refine RW.st H 0 [.int .i64 1, .int .i64 7] [.int .i64 1, .int .i64 7] ?_
     clear H; intro _ _ H; dsimp only [setL, delL] at H
     refine RW.nil ?_
     refine W.ret ?_
     refine endG (by rfl) (by exact resL_cell rfl (H.get 0 rfl) (by rw [uT_eq]; exact Tryz.underlying27) (by kernel_rfl) rfl rfl rfl) ?_
     refine RW.v ?_
     refine RW.cl ?_
     refine ⟨_, _, (s_int (G := G66) (pickOf n 8)), ?_⟩
     refine RW.mkL H (x := .row ⟨[.int .i64 1, .int .i64 7, .int .i64 0, .int .i64 (pickOf n 8)], 27, false⟩) (fm := fun b => .slice (some ⟨b, 0, none⟩) 2 2) (by kernel_rfl) (by kernel_rfl) (by kernel_rfl) (by kernel_rfl) ?_
     clear H; intro _ b13 _ H
     refine RW.cl ?_
     refine ((make_lies (G := G66) (h := h) (m := m) (l := [((1, 7) : Wd), ((0, pickOf n 8) : Wd)]) H (row_vw (x := ((1, 7) : Wd)) (y := ((0, pickOf n 8) : Wd)) (H.get 0 rfl)) rfl hf (by show _ + 2 ≤ _; omega) (by omega) hlim).mono ?_)
     clear H
     rintro _ _ ⟨rfl, H⟩
     iterate 3 refine RW.v ?_
     refine RW.mk H (.row ⟨[.int .i64 0, .int .i64 0], 27, false⟩) ?_
     clear H; intro _ b14 _ H
     refine RW.st H 0 [.int .i64 ((built m [((1, 7) : Wd), ((0, pickOf n 8) : Wd)] (1, 0)).2.1), .int .i64 ((built m [((1, 7) : Wd), ((0, pickOf n 8) : Wd)] (1, 0)).2.2)] [.int .i64 ((built m [((1, 7) : Wd), ((0, pickOf n 8) : Wd)] (1, 0)).2.1), .int .i64 ((built m [((1, 7) : Wd), ((0, pickOf n 8) : Wd)] (1, 0)).2.2)] ?_
     clear H; intro _ _ H; dsimp only [setL, delL] at H
     refine RW.v ?_
     refine RW.nil ?_
     replace H := ((H.del 2).del 1)
     dsimp only [setL, delL] at H
     refine W.rg [(4, pp b1), (6, pp b14)] fun TA => ?_
     refine W.seq (W.region ?_)
     refine RW.ld H 0 2 ?_
     refine RW.st H 1 [.int .i64 ((built m [((1, 7) : Wd), ((0, pickOf n 8) : Wd)] (1, 0)).2.1), .int .i64 ((built m [((1, 7) : Wd), ((0, pickOf n 8) : Wd)] (1, 0)).2.2)] [.int .i64 ((built m [((1, 7) : Wd), ((0, pickOf n 8) : Wd)] (1, 0)).2.1), .int .i64 ((built m [((1, 7) : Wd), ((0, pickOf n 8) : Wd)] (1, 0)).2.2)] ?_
     clear H; intro _ _ H; dsimp only [setL, delL] at H
     refine RW.nil ?_
     replace H := (H.del 0)
     dsimp only [setL, delL] at H
     refine W.ret ?_
     refine blkQ_ret ?_
     refine endG (by rfl) (by exact resL_cell rfl (H.get 0 rfl) (by rw [uT_eq]; exact Tryz.underlying27) (by kernel_rfl) rfl rfl rfl) ?_
     exact ⟨(built m [((1, 7) : Wd), ((0, pickOf n 8) : Wd)] (1, 0)).1, (((built m [((1, 7) : Wd), ((0, pickOf n 8) : Wd)] (1, 0)).2.1, (built m [((1, 7) : Wd), ((0, pickOf n 8) : Wd)] (1, 0)).2.2) : Wd), rfl, (ext_built hf [((1, 7) : Wd), ((0, pickOf n 8) : Wd)] (1, 0)), fun e => absurd (e.symm.trans built_kind) (by decide), good_built _ _, ((key_built _ _).trans (by unfold kN; (repeat' split) <;> first | rfl | (exfalso; omega))), (H.del 0)⟩
    ·have hc11b := hc11
     have hc11 := ne_of_beq_false hc11
     refine W.seq (W.region ?_)
     iterate 2 refine RW.v ?_
     refine RW.nil ?_
     refine W.rg [(4, pp b1), (5, .int .i64 (pickOf n 8)), (32, .bool ((pickOf n 8) == 7))] fun TA => ?_
     refine W.cond rfl (fun hc15 => ?_) (fun hc15 => ?_)
     ·have hc15b := hc15
      have hc15 := eq_of_beq hc15
      refine W.seq (W.region ?_)
      refine RW.cl ?_
      refine ⟨_, _, (s_int (G := G66) (9)), ?_⟩
      refine RW.st H 0 [.int .i64 0, .int .i64 9] [.int .i64 0, .int .i64 9] ?_
      clear H; intro _ _ H; dsimp only [setL, delL] at H
      refine RW.nil ?_
      refine W.ret ?_
      refine blkQ_ret ?_
      refine endG (by rfl) (by exact resL_cell rfl (H.get 0 rfl) (by rw [uT_eq]; exact Tryz.underlying27) (by kernel_rfl) rfl rfl rfl) ?_
      exact ⟨m, ((0, 9) : Wd), rfl, ((ExtH.refl hf).le (by omega)), fun e => absurd e (by decide), .atom (.inl rfl), (by rw [keyW_atom (.inl rfl)]; unfold kN; (repeat' split) <;> first | rfl | (exfalso; omega)), (H.del 0)⟩
     ·have hc15b := hc15
      have hc15 := ne_of_beq_false hc15
      refine W.seq (W.region ?_)
      refine RW.v ?_
      refine RW.valE (v' := .int .i64 (68 + (pickOf n 8))) (by kernel_rfl) (by kernel_rfl) rfl (congrArg (Value.int .i64) (wrap_in (by omega) (by omega))) (by kernel_rfl) ?_
      refine RW.cl ?_
      refine WC.enter (fn := Tryz.f15) Tryz.func15 rfl ?_
      refine W.rg [(0, .int .i64 (68 + (pickOf n 8)))] fun TA => ?_
      refine W.seq (W.region ?_)
      refine RW.mk H (.row ⟨[.int .i64 0, .int .i64 0], 27, false⟩) ?_
      clear H; intro _ b16 _ H
      refine RW.nil ?_
      refine W.rg [(0, .int .i64 (68 + (pickOf n 8))), (2, pp b16)] fun TA => ?_
      refine W.seq (W.region ?_)
      refine RW.v ?_
      refine RW.val (v := .agg #[.int .i64 1, .int .i64 (68 + (pickOf n 8))]) (by kernel_rfl) (by kernel_rfl) (by kernel_rfl) (by kernel_rfl) ?_
      refine RW.st H 0 [.int .i64 1, .int .i64 (68 + (pickOf n 8))] [.int .i64 1, .int .i64 (68 + (pickOf n 8))] ?_
      clear H; intro _ _ H; dsimp only [setL, delL] at H
      refine RW.nil ?_
      refine W.ret ?_
      refine endG (by rfl) (by exact resL_cell rfl (H.get 0 rfl) (by rw [uT_eq]; exact Tryz.underlying27) (by kernel_rfl) rfl rfl rfl) ?_
      refine RW.st H 1 [.int .i64 1, .int .i64 (68 + (pickOf n 8))] [.int .i64 1, .int .i64 (68 + (pickOf n 8))] ?_
      clear H; intro _ _ H; dsimp only [setL, delL] at H
      refine RW.nil ?_
      replace H := (H.del 0)
      dsimp only [setL, delL] at H
      refine W.ret ?_
      refine blkQ_ret ?_
      refine endG (by rfl) (by exact resL_cell rfl (H.get 0 rfl) (by rw [uT_eq]; exact Tryz.underlying27) (by kernel_rfl) rfl rfl rfl) ?_
      exact ⟨m, ((1, 68 + (pickOf n 8)) : Wd), rfl, ((ExtH.refl hf).le (by omega)), fun _ => (by dsimp only; omega), .atom (.inr rfl), (by rw [keyW_atom (.inr rfl)]; unfold kN; (repeat' split) <;> first | rfl | (exfalso; omega)), (H.del 0)⟩
end
end Go.Proofs.YtaaebeiigkhcjaaGreatDoor
namespace Go.Proofs.YtaaebeiigkhcjaaGreatDoor
set_option maxRecDepth 100000
def keysE (m : HM) (es : List Wd) : List (Wd × Int) := (es.filterMap (entO m)).map fun y => (keyW m y.1, y.2)
section
variable {m m' : HM} {x f : Wd} {es : List Wd}
structure AddX (m : HM) (f : Wd) (ws es xs : List Wd) : Prop where
 mem : f ∈ xs
 all : ∀ y ∈ xs, y = f ∨ y ∈ ws
 perm : (xs.filter fun y => !decide (keyW m f = keyW m y)).Perm ws
 nil : es = [] → xs.filter (fun y => !decide (keyW m f = keyW m y)) = ws
 len : xs.length = ws.length + 1
structure AddQ (m m' : HM) (f : Wd) (es qs : List Wd) : Prop where
 keys : keysE m' qs = keysE m es ∨ ∃ d, keysE m' qs = (keyW m f, d) :: keysE m es
 dep : ∀ y ∈ qs, DepE m' y
 len : qs.length ≤ es.length + 1
end
section
variable {h : Nat} {m : HM} {σ0 : Mem}
theorem remP_list {m : HM} {w : Wd} {ws : List Wd} {p : Wd → Bool} (E : ListR m w ws) : ListR (remP m w ws (ws.filter p)).1 (remP m w ws (ws.filter p)).2 (ws.filter p) := by
 by_cases e : (ws.filter p).length < ws.length
 ·rw [remP_yes e]
  exact ListR.built
 ·rw [remP_no e, List.filter_sublist.eq_of_length_le (by omega)]
  exact E
end
end Go.Proofs.YtaaebeiigkhcjaaGreatDoor
