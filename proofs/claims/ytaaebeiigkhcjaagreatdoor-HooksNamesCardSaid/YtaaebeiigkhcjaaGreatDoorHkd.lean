/-
 The functions of a hook. Conditions: the heap lies there as HeapAt says.
-/
import Derived.Test.YtaaebeiigkhcjaaGreatDoorHka
namespace Go.Proofs.YtaaebeiigkhcjaaGreatDoor
set_option maxRecDepth 100000
section
variable {h : Nat} {m : HM} {σ0 : Mem}
set_option maxHeartbeats 8000000 in
theorem functions_wc {lw gw : Wd} {ws us : List Wd} (hG : G66 ≤ σ0.next) (ha : σ0.abs = heapAbs h m) (hlo : 0 < m.limit) (E1 : Elems G66 h m lw ws) (E2 : Elems G66 h m gw us) (h1 : ws.length ≤ 12) (h2 : us.length ≤ 12) (hN : GNull σ0.get) (hTee : GTee σ0.get) :
  WC G66 Tryz.prog 16 #[pp h, wdV lw, wdV gw] σ0 fun v σ' => ∃ sl, v = .tuple #[sl, .int .i64 0] ∧ Lies G66 (heapAbs h m) σ0.get σ' [.sl 27 2 sl (flatL ws us).length (wdC (flatL ws us))] := by
 obtain ⟨tN, gN, hN⟩ := hN
 obtain ⟨tT, gT, hTee⟩ := hTee
 have H := Lies.start hG ha
 generalize σ0.get = F at H hN hTee ⊢
 refine WC.enterD (fn := Tryz.f16) Tryz.func16 rfl ?_
 refine W.rg [(0, pp h), (1, .agg #[.int .i64 lw.1, .int .i64 lw.2]), (2, .agg #[.int .i64 gw.1, .int .i64 gw.2])] fun TA => ?_
 refine W.seq ?_
 refine W.region ?_
 refine RW.mk H (.row ⟨[.int .i64 lw.1, .int .i64 lw.2], 27, false⟩) ?_
 clear H; intro _ b1 _ H
 refine RW.mk H (.row ⟨[.int .i64 gw.1, .int .i64 gw.2], 27, false⟩) ?_
 clear H; intro _ b2 _ H
 refine RW.mk H (.row ⟨[.slice none 0 0], 33, false⟩) ?_
 clear H; intro _ b3 _ H
 refine RW.mk H (.row ⟨[.int .i64 0], 30, false⟩) ?_
 clear H; intro _ b4 _ H
 refine RW.nil ?_
 refine W.rg [(0, pp h), (4, pp b1), (5, pp b2), (6, pp b3), (7, pp b4)] fun TA => ?_
 refine W.seq ?_
 refine W.seq ?_
 refine W.region ?_
 refine RW.v ?_
 refine RW.cl ?_
 refine WC.enter (fn := Tryz.f41) Tryz.func41 rfl ?_
 refine W.rg [(0, pp h)] fun TA => ?_
 refine W.seq ?_
 refine W.region ?_
 refine RW.v ?_
 refine RW.nil ?_
 refine W.rg [(0, pp h)] fun TA => ?_
 refine W.seq ?_
 refine W.region ?_
 refine RW.v ?_
 refine RW.cl ?_
 refine ⟨_, _, (s_limit (G := G66) H.abs), ?_⟩
 refine RW.valE (v' := .bool true) (by kernel_rfl) (by kernel_rfl) rfl (congrArg Value.bool (decide_eq_true (by omega))) (by kernel_rfl) ?_
 refine RW.v ?_
 refine RW.nil ?_
 refine W.ret ?_
 refine endG (by rfl) (by exact resL_tmp rfl) ?_
 refine RW.v ?_
 refine RW.nil ?_
 refine W.c0 ?_
 refine W.skip ?_
 refine W.seq ?_
 refine W.region ?_
 refine RW.v ?_
 refine RW.ld H 3 2 ?_
 refine RW.cl ?_
 refine ((E1 _ H.gn H.abs ⟨_, _, H.old _ _ hN⟩).mono ?_)
 rintro _ _ ⟨sl1, rfl, L1, K, fz⟩
 obtain ⟨F, le1, hS1, H⟩ := fz _ _ _ _ (H.then K)
 clear K fz
 replace hN := le1 _ _ hN
 replace hTee := le1 _ _ hTee
 refine RW.v ?_
 refine RW.v ?_
 refine RW.v ?_
 refine RW.v ?_
 refine RW.v ?_
 refine RW.nil ?_
 replace H := (H.del 3)
 dsimp only [setL, delL] at H
 refine W.rg [(0, pp h), (5, pp b2), (6, pp b3), (7, pp b4), (8, sl1), (9, .int .i64 0)] fun TA => ?_
 refine W.seq ?_
 refine W.seq ?_
 refine W.region ?_
 refine RW.v ?_
 refine RW.v ?_
 refine RW.nil ?_
 refine W.c0 ?_
 refine W.skip ?_
 refine W.seq ?_
 refine W.region ?_
 refine RW.v ?_
 refine RW.ld H 2 2 ?_
 refine RW.cl ?_
 refine ((E2 _ H.gn H.abs ⟨_, _, H.old _ _ hN⟩).mono ?_)
 rintro _ _ ⟨sl2, rfl, L2, K, fz⟩
 obtain ⟨F, le2, hS2, H⟩ := fz _ _ _ _ (H.then K)
 clear K fz
 replace hS1 := hS1.le le2
 replace hN := le2 _ _ hN
 replace hTee := le2 _ _ hTee
 refine RW.v ?_
 refine RW.v ?_
 refine RW.v ?_
 refine RW.mk H (.row ⟨[.slice none 0 0], 33, false⟩) ?_
 clear H; intro _ b5 _ H
 refine RW.stL H 0 (vs := [sl2]) (cs' := [sl2]) (by kernel_rfl) (by kernel_rfl) rfl rfl rfl (slf_one hS2) (slf_all hS2) (by kernel_rfl) (Nat.le_of_ble_eq_true rfl) rfl (by kernel_rfl) ?_
 clear H; intro _ _ H
 dsimp only [setL, delL] at H
 refine RW.v ?_
 refine RW.nil ?_
 replace H := (H.del 3)
 dsimp only [setL, delL] at H
 refine W.rg [(6, pp b3), (7, pp b4), (8, sl1), (9, .int .i64 0), (10, pp b5)] fun TA => ?_
 refine W.seq ?_
 refine W.seq ?_
 refine W.region ?_
 refine RW.v ?_
 refine RW.v ?_
 refine RW.nil ?_
 refine W.c0 ?_
 refine W.skip ?_
 refine W.seq ?_
 refine W.region ?_
 refine RW.mk H (.row ⟨[.slice none 0 0], 33, false⟩) ?_
 clear H; intro _ b6 _ H
 refine RW.nil ?_
 refine W.rg [(6, pp b3), (7, pp b4), (8, sl1), (10, pp b5), (11, pp b6)] fun TA => ?_
 refine W.seq ?_
 refine W.seq ?_
 refine W.region ?_
 refine RW.v ?_
 refine RW.cl ?_
 refine WC.enter (fn := Tryz.f62) Tryz.func62 rfl ?_
 refine W.rg [(0, sl1)] fun TA => ?_
 refine W.seq ?_
 refine W.region ?_
 refine RW.mk H (.row ⟨(sl1).cells.toList, 33, false⟩) ?_
 clear H; intro _ b7 _ H
 rw [(slf_one hS1)] at H
 refine RW.v ?_
 refine RW.nil ?_
 refine W.rg [(1, pp b7)] fun TA => ?_
 refine W.seq ?_
 refine W.region ?_
 refine RW.val (v := .func (.func 87) #[] #[.pointer (some ⟨b7, 0, none⟩)]) (by kernel_rfl) (by kernel_rfl) (by kernel_rfl) (by kernel_rfl) ?_
 refine RW.v ?_
 refine RW.nil ?_
 refine W.ret ?_
 refine endG (by rfl) (by exact resL_tmp rfl) ?_
 refine RW.nil ?_
 refine W.rg [(6, pp b3), (7, pp b4), (10, pp b5), (11, pp b6), (36, .func (.func 87) #[] #[pp b7])] fun TA => ?_
 refine W.block ?_
 refine W.rst [(6, .pointer (some ⟨b3, 0, none⟩)), (7, .pointer (some ⟨b4, 0, none⟩)), (10, .pointer (some ⟨b5, 0, none⟩)), (11, .pointer (some ⟨b6, 0, none⟩)), (36, .func (.func 87) #[] #[.pointer (some ⟨b7, 0, none⟩)])] ⟨rfl, rfl, rfl, rfl, rfl, trivial⟩ fun TL12 => ?_
 refine W.rangeL H rfl (fun _ h => nomatch h) (fun _ h => nomatch h) (by kernel_rfl) fun _ d8 b9 lp10 hl11 H => ?_
 refine WC.enter (fn := Tryz.f87) Tryz.func87 rfl ?_
 refine W.rg [(0, .func (.yield b9) #[] #[]), (1, pp b7)] fun TA => ?_
 refine W.seq ?_
 refine W.region ?_
 refine RW.ld H 2 1 ?_
 refine RW.len (by kernel_rfl) (by kernel_rfl) rfl rfl rfl rfl (hS1.len (e := 27) (by kernel_rfl)) (by kernel_rfl) ?_
 refine RW.v ?_
 refine RW.nil ?_
 refine W.rg [(0, .func (.yield b9) #[] #[]), (5, sl1), (6, .int .i64 (ws.length : Int)), (7, .int .i64 0)] fun TA => ?_
 refine W.block ?_
 replace H := H.nilSl 27 2
 refine W.loop (fun mm ta σ => ∃ (j : Nat) (u : Value), (mm + j = ws.length) ∧ (j ≤ ws.length) ∧ Lies G66 (heapAbs h m) F σ [.sl 27 2 u ((flatL (ws.take j) us).length) (wdC (flatL (ws.take j) us)), .at_ b9 lp10, .at_ d8 (.defs true), .at_ b7 (.row ⟨[sl1], 33, false⟩), .at_ b6 (.row ⟨[u], 33, false⟩), .at_ b5 (.row ⟨[sl2], 33, false⟩), .at_ b4 (.row ⟨[.int .i64 0], 30, false⟩), .at_ b3 (.row ⟨[.slice none 0 0], 33, false⟩)] ∧ ta 0 = .func (.yield b9) #[] #[] ∧ ta 5 = sl1 ∧ ta 6 = .int .i64 (ws.length : Int) ∧ ta 7 = .int .i64 ((j : Nat) : Int)) ws.length ?_ ?_
 ·exact ⟨0, .slice none 0 0, (by omega), (by omega), H, rfl, rfl, rfl, rfl⟩
 clear H
 rintro mm ta _ ⟨j, u, hm, hjl, H, e0, e5, e6, e7⟩
 refine W.rst [(0, .func (.yield b9) #[] #[]), (5, sl1), (6, .int .i64 (ws.length : Int)), (7, .int .i64 ((j : Nat) : Int))] ⟨e0, e5, e6, e7, trivial⟩ fun TA => ?_
 clear e0 e5 e6 e7
 have hbd := flat_le h1 h2 j
 refine W.seq ?_
 refine W.region ?_
 refine RW.v ?_
 refine RW.nil ?_
 refine W.rg [(0, .func (.yield b9) #[] #[]), (5, sl1), (6, .int .i64 (ws.length : Int)), (7, .int .i64 ((j : Nat) : Int)), (8, .bool (decide (((j : Nat) : Int) < (ws.length : Int))))] fun TA => ?_
 refine W.seq ?_
 refine W.cond rfl (fun hc13 => ?_) (fun hc13 => ?_)
 ·have hc13b := hc13
  have hc13 := of_decide_eq_true hc13
  have hj : j < ws.length := by omega
  refine W.skip ?_
  refine W.seq ?_
  refine W.block ?_
  refine W.seq ?_
  refine W.region ?_
  refine RW.idxF hS1 (by kernel_rfl) (by kernel_rfl) rfl Tryz.underlying33 (by kernel_rfl) rfl rfl ⟨by omega, by omega⟩ (by kernel_rfl) ?_
  intro b14 q15 r16 hF17 hE18
  rw [wdC_at (l := ws) (j := j) (by omega)] at hE18
  refine RW.loads 2 (by kernel_rfl) (by kernel_rfl) rfl rfl (H.old _ _ hF17) hE18 rfl (by kernel_rfl) ?_
  refine RW.mk H (.row ⟨[.int .i64 0, .int .i64 0], 27, false⟩) ?_
  clear H; intro _ b19 _ H
  refine RW.st H 0 [.int .i64 ((ws.getD j (0, 0)).1), .int .i64 ((ws.getD j (0, 0)).2)] [.int .i64 ((ws.getD j (0, 0)).1), .int .i64 ((ws.getD j (0, 0)).2)] ?_
  clear H; intro _ _ H
  dsimp only [setL, delL] at H
  refine RW.nil ?_
  refine W.rg [(0, .func (.yield b9) #[] #[]), (4, pp b19), (5, sl1), (6, .int .i64 (ws.length : Int)), (7, .int .i64 ((j : Nat) : Int))] fun TA => ?_
  refine W.seq ?_
  refine W.region ?_
  refine RW.ld H 0 2 ?_
  refine RW.loads 2 (by kernel_rfl) (by kernel_rfl) rfl rfl (H.old _ _ hN) rfl rfl (by kernel_rfl) ?_
  refine RW.vop (v := .bool (!(((ws.getD j (0, 0)).1) == 1 && ((ws.getD j (0, 0)).2) == 0))) (by kernel_rfl) (by kernel_rfl) (vop_eqS (b := (((ws.getD j (0, 0)).1) == 1 && ((ws.getD j (0, 0)).2) == 0)) (r := !(((ws.getD j (0, 0)).1) == 1 && ((ws.getD j (0, 0)).2) == 0)) rfl (.inr ⟨rfl, rfl⟩) rfl rfl rfl rfl (by kernel_rfl) (fun w => eqWd _ _ _ _ w)) (by kernel_rfl) ?_
  refine RW.v ?_
  refine RW.both _ _ rfl rfl rfl (fun hc20 => ?_) (fun hc20 => ?_)
  ·have hc20b := hc20
   refine RW.val (by rfl) (by kernel_rfl) rfl (by kernel_rfl) ?_
   refine RW.ldL H 0 2 (by rfl) (by kernel_rfl) rfl rfl rfl rfl rfl (by kernel_rfl) ?_
   refine RW.yieldL H 2 rfl hl11 (by rfl) (by kernel_rfl) rfl rfl rfl rfl rfl (by kernel_rfl) ?_
   refine W.rg [(6, pp b3), (7, pp b4), (10, pp b5), (11, pp b6), (36, .func (.func 87) #[] #[pp b7]), (37, .agg #[.int .i64 ((ws.getD j (0, 0)).1), .int .i64 ((ws.getD j (0, 0)).2)])] fun TA => ?_
   refine W.region ?_
   refine RW.mk H (.row ⟨[.int .i64 0, .int .i64 0], 27, false⟩) ?_
   clear H; intro _ b21 _ H
   refine RW.st H 0 [.int .i64 ((ws.getD j (0, 0)).1), .int .i64 ((ws.getD j (0, 0)).2)] [.int .i64 ((ws.getD j (0, 0)).1), .int .i64 ((ws.getD j (0, 0)).2)] ?_
   clear H; intro _ _ H
   dsimp only [setL, delL] at H
   refine RW.nil ?_
   refine ⟨rfl, _, _, _, 3, H, rfl, ?_⟩
   clear H; intro _ lq22 hq23 H
   dsimp only [setL, delL] at H
   refine W.rg [(6, pp b3), (7, pp b4), (10, pp b5), (11, pp b6), (12, pp b21), (36, .func (.func 87) #[] #[pp b7]), (37, .agg #[.int .i64 ((ws.getD j (0, 0)).1), .int .i64 ((ws.getD j (0, 0)).2)])] fun TA => ?_
   refine W.block ?_
   refine W.seq ?_
   refine W.seq ?_
   refine W.region ?_
   refine RW.ld H 0 2 ?_
   refine RW.loads 2 (by kernel_rfl) (by kernel_rfl) rfl rfl (H.old _ _ hTee) rfl rfl (by kernel_rfl) ?_
   refine RW.vop (v := .bool (!(((ws.getD j (0, 0)).1) == 1 && ((ws.getD j (0, 0)).2) == 1))) (by kernel_rfl) (by kernel_rfl) (vop_eqS (b := (((ws.getD j (0, 0)).1) == 1 && ((ws.getD j (0, 0)).2) == 1)) (r := !(((ws.getD j (0, 0)).1) == 1 && ((ws.getD j (0, 0)).2) == 1)) rfl (.inr ⟨rfl, rfl⟩) rfl rfl rfl rfl (by kernel_rfl) (fun w => eqWd _ _ _ _ w)) (by kernel_rfl) ?_
   refine RW.nil ?_
   refine W.rg [(6, pp b3), (7, pp b4), (10, pp b5), (11, pp b6), (12, pp b21), (36, .func (.func 87) #[] #[pp b7]), (37, .agg #[.int .i64 ((ws.getD j (0, 0)).1), .int .i64 ((ws.getD j (0, 0)).2)]), (40, .bool (!(((ws.getD j (0, 0)).1) == 1 && ((ws.getD j (0, 0)).2) == 1)))] fun TA => ?_
   refine W.cond rfl (fun hc24 => ?_) (fun hc24 => ?_)
   ·have hc24b := hc24
    refine W.region ?_
    refine RW.ld H 6 1 ?_
    refine RW.ld H 0 2 ?_
    refine RW.mkL H (x := .row ⟨[.int .i64 ((ws.getD j (0, 0)).1), .int .i64 ((ws.getD j (0, 0)).2)], 27, false⟩) (fm := fun b => .slice (some ⟨b, 0, none⟩) 1 1) (by kernel_rfl) (by kernel_rfl) (by kernel_rfl) (by kernel_rfl) ?_
    clear H; intro _ b25 _ H
    refine RW.appL H 3 0 (n := 1) (e2 := 27) (by kernel_rfl) (by kernel_rfl) rfl rfl rfl rfl rfl rfl rfl rfl (by kernel_rfl) (by kernel_rfl) (by kernel_rfl) (by decide) (by decide) rfl rfl (by omega) (by kernel_rfl) ?_
    clear H; intro _ v26 _ H
    dsimp only [setL, delL] at H
    refine RW.stL H 6 (vs := [v26]) (cs' := [v26]) (by kernel_rfl) (by kernel_rfl) rfl rfl rfl (H.sl 2 rfl).one (gr_all (H.sl 2 rfl)) (by kernel_rfl) (Nat.le_of_ble_eq_true rfl) rfl (by kernel_rfl) ?_
    clear H; intro _ _ H
    dsimp only [setL, delL] at H
    refine RW.nil ?_
    replace H := (H.del 0)
    dsimp only [setL, delL] at H
    refine W.rg [(6, pp b3), (7, pp b4), (10, pp b5), (11, pp b6), (36, .func (.func 87) #[] #[pp b7]), (37, .agg #[.int .i64 ((ws.getD j (0, 0)).1), .int .i64 ((ws.getD j (0, 0)).2)])] fun TA => ?_
    refine W.seq ?_
    refine W.region ?_
    refine RW.ld H 5 1 ?_
    refine RW.len (by kernel_rfl) (by kernel_rfl) rfl rfl rfl rfl ((H.sl 1 rfl).len (by kernel_rfl)) (by kernel_rfl) ?_
    refine RW.valE (v' := .bool false) (by kernel_rfl) (by kernel_rfl) rfl (congrArg Value.bool (decide_eq_false (by omega))) (by kernel_rfl) ?_
    refine RW.nil ?_
    refine W.c0 ?_
    refine W.skip ?_
    refine blkQ_normal ?_
    refine ⟨_, _, _, 2, true, .ready, none, H, rfl, rfl, ?_⟩
    clear H; intro _ lr27 _ hr28 H
    dsimp only [setL, delL] at H
    refine RW.val (by rfl) (by kernel_rfl) rfl (by kernel_rfl) ?_
    refine RW.v ?_
    refine RW.nil ?_
    replace H := (H.del 0)
    dsimp only [setL, delL] at H
    refine W.c0 ?_
    refine W.skip ?_
    refine blkQ_normal ?_
    refine W.region ?_
    refine RW.valE (v' := .int .i64 (((j : Nat) : Int) + 1)) (by kernel_rfl) (by kernel_rfl) rfl (congrArg (Value.int .i64) (wrap_in (by omega) (by omega))) (by kernel_rfl) ?_
    refine RW.v ?_
    refine RW.nil ?_
    rw [show lr27 = lp10 from hr28.trans hl11.symm] at H
    rw [wdC_snoc (flatL (ws.take j) us) (ws.getD j (0, 0)), len_snoc (flatL (ws.take j) us) (ws.getD j (0, 0)), ← flat_one hj (okW_yes hc20) (isT_no hc24)] at H
    exact ⟨rfl, mm - 1, by omega, j + 1, v26, (by omega), (by omega), H, rfl, rfl, rfl, rfl⟩
   ·have hc24b := hc24
    refine W.seq ?_
    refine W.region ?_
    refine RW.ld H 7 1 ?_
    refine RW.cl ?_
    refine WC.enter (fn := Tryz.f62) Tryz.func62 rfl ?_
    refine W.rg [(0, sl2)] fun TA => ?_
    refine W.seq ?_
    refine W.region ?_
    refine RW.mk H (.row ⟨(sl2).cells.toList, 33, false⟩) ?_
    clear H; intro _ b29 _ H
    rw [(slf_one hS2)] at H
    refine RW.v ?_
    refine RW.nil ?_
    refine W.rg [(1, pp b29)] fun TA => ?_
    refine W.seq ?_
    refine W.region ?_
    refine RW.val (v := .func (.func 87) #[] #[.pointer (some ⟨b29, 0, none⟩)]) (by kernel_rfl) (by kernel_rfl) (by kernel_rfl) (by kernel_rfl) ?_
    refine RW.v ?_
    refine RW.nil ?_
    refine W.ret ?_
    refine endG (by rfl) (by exact resL_tmp rfl) ?_
    refine RW.nil ?_
    replace H := (H.del 1)
    dsimp only [setL, delL] at H
    refine W.rg [(6, pp b3), (7, pp b4), (10, pp b5), (11, pp b6), (36, .func (.func 87) #[] #[pp b7]), (37, .agg #[.int .i64 ((ws.getD j (0, 0)).1), .int .i64 ((ws.getD j (0, 0)).2)]), (46, .func (.func 87) #[] #[pp b29])] fun TA => ?_
    refine W.block ?_
    refine W.rst [(6, .pointer (some ⟨b3, 0, none⟩)), (7, .pointer (some ⟨b4, 0, none⟩)), (10, .pointer (some ⟨b5, 0, none⟩)), (11, .pointer (some ⟨b6, 0, none⟩)), (36, .func (.func 87) #[] #[.pointer (some ⟨b7, 0, none⟩)]), (37, .agg #[.int .i64 ((ws.getD j (0, 0)).1), .int .i64 ((ws.getD j (0, 0)).2)]), (46, .func (.func 87) #[] #[.pointer (some ⟨b29, 0, none⟩)])] ⟨rfl, rfl, rfl, rfl, rfl, rfl, rfl, trivial⟩ fun TL34 => ?_
    refine W.rangeInL H 3 rfl hq23 rfl (fun _ h => nomatch h) (fun _ h => nomatch h) (by kernel_rfl) fun _ b31 lp32 hl33 H => ?_
    refine WC.enter (fn := Tryz.f87) Tryz.func87 rfl ?_
    refine W.rg [(0, .func (.yield b31) #[] #[]), (1, pp b29)] fun TA => ?_
    refine W.seq ?_
    refine W.region ?_
    refine RW.ld H 1 1 ?_
    refine RW.len (by kernel_rfl) (by kernel_rfl) rfl rfl rfl rfl (hS2.len (e := 27) (by kernel_rfl)) (by kernel_rfl) ?_
    refine RW.v ?_
    refine RW.nil ?_
    refine W.rg [(0, .func (.yield b31) #[] #[]), (5, sl2), (6, .int .i64 (us.length : Int)), (7, .int .i64 0)] fun TA => ?_
    refine W.block ?_
    rw [show (flatL (ws.take j) us) = (flatL (ws.take j) us) ++ glob (us.take 0) from (List.append_nil _).symm] at H
    refine W.loop (fun mm2 ta σ => ∃ (k : Nat) (u2 : Value), (mm2 + k = us.length) ∧ (k ≤ us.length) ∧ Lies G66 (heapAbs h m) F σ [.at_ b31 lp32, .at_ b29 (.row ⟨[sl2], 33, false⟩), .at_ b19 (.row ⟨[.int .i64 ((ws.getD j (0, 0)).1), .int .i64 ((ws.getD j (0, 0)).2)], 27, false⟩), .sl 27 2 u2 ((flatL (ws.take j) us ++ glob (us.take k)).length) (wdC (flatL (ws.take j) us ++ glob (us.take k))), .at_ b9 lq22, .at_ d8 (.defs true), .at_ b7 (.row ⟨[sl1], 33, false⟩), .at_ b6 (.row ⟨[u2], 33, false⟩), .at_ b5 (.row ⟨[sl2], 33, false⟩), .at_ b4 (.row ⟨[.int .i64 0], 30, false⟩), .at_ b3 (.row ⟨[.slice none 0 0], 33, false⟩)] ∧ ta 0 = .func (.yield b31) #[] #[] ∧ ta 5 = sl2 ∧ ta 6 = .int .i64 (us.length : Int) ∧ ta 7 = .int .i64 ((k : Nat) : Int)) us.length ?_ ?_
    ·exact ⟨0, u, (by omega), (by omega), H, rfl, rfl, rfl, rfl⟩
    clear H
    rintro mm2 ta _ ⟨k, u2, hm2, hkl, H, e0, e5, e6, e7⟩
    refine W.rst [(0, .func (.yield b31) #[] #[]), (5, sl2), (6, .int .i64 (us.length : Int)), (7, .int .i64 ((k : Nat) : Int))] ⟨e0, e5, e6, e7, trivial⟩ fun TA => ?_
    clear e0 e5 e6 e7
    have hbd2 := flat_glob_le h1 h2 j k
    refine W.seq ?_
    refine W.region ?_
    refine RW.v ?_
    refine RW.nil ?_
    refine W.rg [(0, .func (.yield b31) #[] #[]), (5, sl2), (6, .int .i64 (us.length : Int)), (7, .int .i64 ((k : Nat) : Int)), (8, .bool (decide (((k : Nat) : Int) < (us.length : Int))))] fun TA => ?_
    refine W.seq ?_
    refine W.cond rfl (fun hc35 => ?_) (fun hc35 => ?_)
    ·have hc35b := hc35
     have hc35 := of_decide_eq_true hc35
     have hk : k < us.length := by omega
     refine W.skip ?_
     refine W.seq ?_
     refine W.block ?_
     refine W.seq ?_
     refine W.region ?_
     refine RW.idxF hS2 (by kernel_rfl) (by kernel_rfl) rfl Tryz.underlying33 (by kernel_rfl) rfl rfl ⟨by omega, by omega⟩ (by kernel_rfl) ?_
     intro b36 q37 r38 hF39 hE40
     rw [wdC_at (l := us) (j := k) (by omega)] at hE40
     refine RW.loads 2 (by kernel_rfl) (by kernel_rfl) rfl rfl (H.old _ _ hF39) hE40 rfl (by kernel_rfl) ?_
     refine RW.mk H (.row ⟨[.int .i64 0, .int .i64 0], 27, false⟩) ?_
     clear H; intro _ b41 _ H
     refine RW.st H 0 [.int .i64 ((us.getD k (0, 0)).1), .int .i64 ((us.getD k (0, 0)).2)] [.int .i64 ((us.getD k (0, 0)).1), .int .i64 ((us.getD k (0, 0)).2)] ?_
     clear H; intro _ _ H
     dsimp only [setL, delL] at H
     refine RW.nil ?_
     refine W.rg [(0, .func (.yield b31) #[] #[]), (4, pp b41), (5, sl2), (6, .int .i64 (us.length : Int)), (7, .int .i64 ((k : Nat) : Int))] fun TA => ?_
     refine W.seq ?_
     refine W.region ?_
     refine RW.ld H 0 2 ?_
     refine RW.loads 2 (by kernel_rfl) (by kernel_rfl) rfl rfl (H.old _ _ hN) rfl rfl (by kernel_rfl) ?_
     refine RW.vop (v := .bool (!(((us.getD k (0, 0)).1) == 1 && ((us.getD k (0, 0)).2) == 0))) (by kernel_rfl) (by kernel_rfl) (vop_eqS (b := (((us.getD k (0, 0)).1) == 1 && ((us.getD k (0, 0)).2) == 0)) (r := !(((us.getD k (0, 0)).1) == 1 && ((us.getD k (0, 0)).2) == 0)) rfl (.inr ⟨rfl, rfl⟩) rfl rfl rfl rfl (by kernel_rfl) (fun w => eqWd _ _ _ _ w)) (by kernel_rfl) ?_
     refine RW.v ?_
     refine RW.both _ _ rfl rfl rfl (fun hc42 => ?_) (fun hc42 => ?_)
     ·have hc42b := hc42
      refine RW.val (by rfl) (by kernel_rfl) rfl (by kernel_rfl) ?_
      refine RW.ldL H 0 2 (by rfl) (by kernel_rfl) rfl rfl rfl rfl rfl (by kernel_rfl) ?_
      refine RW.yieldL H 1 rfl hl33 (by rfl) (by kernel_rfl) rfl rfl rfl rfl rfl (by kernel_rfl) ?_
      refine W.rg [(6, pp b3), (7, pp b4), (10, pp b5), (11, pp b6), (36, .func (.func 87) #[] #[pp b7]), (37, .agg #[.int .i64 ((ws.getD j (0, 0)).1), .int .i64 ((ws.getD j (0, 0)).2)]), (46, .func (.func 87) #[] #[pp b29]), (47, .agg #[.int .i64 ((us.getD k (0, 0)).1), .int .i64 ((us.getD k (0, 0)).2)])] fun TA => ?_
      refine W.region ?_
      refine RW.mk H (.row ⟨[.int .i64 0, .int .i64 0], 27, false⟩) ?_
      clear H; intro _ b43 _ H
      refine RW.st H 0 [.int .i64 ((us.getD k (0, 0)).1), .int .i64 ((us.getD k (0, 0)).2)] [.int .i64 ((us.getD k (0, 0)).1), .int .i64 ((us.getD k (0, 0)).2)] ?_
      clear H; intro _ _ H
      dsimp only [setL, delL] at H
      refine RW.nil ?_
      refine ⟨rfl, _, _, _, 2, H, rfl, ?_⟩
      clear H; intro _ lq44 hq45 H
      dsimp only [setL, delL] at H
      refine W.rg [(6, pp b3), (7, pp b4), (10, pp b5), (11, pp b6), (13, pp b43), (36, .func (.func 87) #[] #[pp b7]), (37, .agg #[.int .i64 ((ws.getD j (0, 0)).1), .int .i64 ((ws.getD j (0, 0)).2)]), (46, .func (.func 87) #[] #[pp b29]), (47, .agg #[.int .i64 ((us.getD k (0, 0)).1), .int .i64 ((us.getD k (0, 0)).2)])] fun TA => ?_
      refine W.block ?_
      refine W.seq ?_
      refine W.region ?_
      refine RW.ld H 0 2 ?_
      refine RW.loads 2 (by kernel_rfl) (by kernel_rfl) rfl rfl (H.old _ _ hTee) rfl rfl (by kernel_rfl) ?_
      refine RW.vop (v := .bool (!(((us.getD k (0, 0)).1) == 1 && ((us.getD k (0, 0)).2) == 1))) (by kernel_rfl) (by kernel_rfl) (vop_eqS (b := (((us.getD k (0, 0)).1) == 1 && ((us.getD k (0, 0)).2) == 1)) (r := !(((us.getD k (0, 0)).1) == 1 && ((us.getD k (0, 0)).2) == 1)) rfl (.inr ⟨rfl, rfl⟩) rfl rfl rfl rfl (by kernel_rfl) (fun w => eqWd _ _ _ _ w)) (by kernel_rfl) ?_
      refine RW.nil ?_
      refine W.rg [(6, pp b3), (7, pp b4), (10, pp b5), (11, pp b6), (13, pp b43), (36, .func (.func 87) #[] #[pp b7]), (37, .agg #[.int .i64 ((ws.getD j (0, 0)).1), .int .i64 ((ws.getD j (0, 0)).2)]), (46, .func (.func 87) #[] #[pp b29]), (47, .agg #[.int .i64 ((us.getD k (0, 0)).1), .int .i64 ((us.getD k (0, 0)).2)]), (50, .bool (!(((us.getD k (0, 0)).1) == 1 && ((us.getD k (0, 0)).2) == 1)))] fun TA => ?_
      refine W.cond rfl (fun hc46 => ?_) (fun hc46 => ?_)
      ·have hc46b := hc46
       refine W.region ?_
       refine RW.ld H 9 1 ?_
       refine RW.ld H 0 2 ?_
       refine RW.mkL H (x := .row ⟨[.int .i64 ((us.getD k (0, 0)).1), .int .i64 ((us.getD k (0, 0)).2)], 27, false⟩) (fm := fun b => .slice (some ⟨b, 0, none⟩) 1 1) (by kernel_rfl) (by kernel_rfl) (by kernel_rfl) (by kernel_rfl) ?_
       clear H; intro _ b47 _ H
       refine RW.appL H 6 0 (n := 1) (e2 := 27) (by kernel_rfl) (by kernel_rfl) rfl rfl rfl rfl rfl rfl rfl rfl (by kernel_rfl) (by kernel_rfl) (by kernel_rfl) (by decide) (by decide) rfl rfl (by omega) (by kernel_rfl) ?_
       clear H; intro _ v48 _ H
       dsimp only [setL, delL] at H
       refine RW.stL H 9 (vs := [v48]) (cs' := [v48]) (by kernel_rfl) (by kernel_rfl) rfl rfl rfl (H.sl 5 rfl).one (gr_all (H.sl 5 rfl)) (by kernel_rfl) (Nat.le_of_ble_eq_true rfl) rfl (by kernel_rfl) ?_
       clear H; intro _ _ H
       dsimp only [setL, delL] at H
       refine RW.nil ?_
       replace H := (H.del 0)
       dsimp only [setL, delL] at H
       refine blkQ_normal ?_
       refine ⟨_, _, _, 1, true, .ready, none, H, rfl, rfl, ?_⟩
       clear H; intro _ lr49 _ hr50 H
       dsimp only [setL, delL] at H
       refine RW.val (by rfl) (by kernel_rfl) rfl (by kernel_rfl) ?_
       refine RW.v ?_
       refine RW.nil ?_
       replace H := (H.del 0)
       dsimp only [setL, delL] at H
       refine W.c0 ?_
       refine W.skip ?_
       refine blkQ_normal ?_
       refine W.region ?_
       refine RW.valE (v' := .int .i64 (((k : Nat) : Int) + 1)) (by kernel_rfl) (by kernel_rfl) rfl (congrArg (Value.int .i64) (wrap_in (by omega) (by omega))) (by kernel_rfl) ?_
       refine RW.v ?_
       refine RW.nil ?_
       rw [show lr49 = lp32 from hr50.trans hl33.symm] at H
       rw [wdC_snoc (flatL (ws.take j) us ++ glob (us.take k)) (us.getD k (0, 0)), len_snoc (flatL (ws.take j) us ++ glob (us.take k)) (us.getD k (0, 0)), List.append_assoc, ← glob_one hk (okW_yes hc42) (isT_no hc46)] at H
       exact ⟨rfl, mm2 - 1, by omega, k + 1, v48, (by omega), (by omega), H, rfl, rfl, rfl, rfl⟩
      ·have hc46b := hc46
       refine W.skip ?_
       refine blkQ_normal ?_
       refine ⟨_, _, _, 2, true, .ready, none, H, rfl, rfl, ?_⟩
       clear H; intro _ lr51 _ hr52 H
       dsimp only [setL, delL] at H
       refine RW.val (by rfl) (by kernel_rfl) rfl (by kernel_rfl) ?_
       refine RW.v ?_
       refine RW.nil ?_
       replace H := ((H.del 1).del 0)
       dsimp only [setL, delL] at H
       refine W.c0 ?_
       refine W.skip ?_
       refine blkQ_normal ?_
       refine W.region ?_
       refine RW.valE (v' := .int .i64 (((k : Nat) : Int) + 1)) (by kernel_rfl) (by kernel_rfl) rfl (congrArg (Value.int .i64) (wrap_in (by omega) (by omega))) (by kernel_rfl) ?_
       refine RW.v ?_
       refine RW.nil ?_
       rw [show lr51 = lp32 from hr52.trans hl33.symm] at H
       rw [← glob_no hk (.inr (isT_yes hc46))] at H
       exact ⟨rfl, mm2 - 1, by omega, k + 1, u2, (by omega), (by omega), H, rfl, rfl, rfl, rfl⟩
     ·have hc42b := hc42
      refine RW.skip (by rfl) (by kernel_rfl) ?_
      refine RW.skip (by rfl) (by kernel_rfl) ?_
      refine RW.skip (by rfl) (by kernel_rfl) ?_
      refine RW.skip (by rfl) (by kernel_rfl) ?_
      refine RW.v ?_
      refine RW.nil ?_
      replace H := (H.del 0)
      dsimp only [setL, delL] at H
      refine W.c0 ?_
      refine W.skip ?_
      refine blkQ_normal ?_
      refine W.region ?_
      refine RW.valE (v' := .int .i64 (((k : Nat) : Int) + 1)) (by kernel_rfl) (by kernel_rfl) rfl (congrArg (Value.int .i64) (wrap_in (by omega) (by omega))) (by kernel_rfl) ?_
      refine RW.v ?_
      refine RW.nil ?_
      rw [← glob_no hk (.inl (okW_no hc42))] at H
      exact ⟨rfl, mm2 - 1, by omega, k + 1, u2, (by omega), (by omega), H, rfl, rfl, rfl, rfl⟩
    ·have hc35b := hc35
     have hc35 := of_decide_eq_false hc35
     obtain rfl : k = us.length := by omega
     refine W.exit _ ?_
     refine seqQ_exit ?_
     refine rndQ_exit ?_
     refine blkQ_here ?_
     refine endG (by rfl) (by exact rfl) ?_
     refine ⟨_, _, _, 0, _, _, _, _, H, rfl, hl33, rfl, rfl, ?_⟩
     clear H; intro _ H
     dsimp only [setL, delL] at H
     refine blkQ_normal ?_
     refine W.seq ?_
     refine W.region ?_
     refine RW.ld H 6 1 ?_
     refine RW.len (by kernel_rfl) (by kernel_rfl) rfl rfl rfl rfl ((H.sl 2 rfl).len (by kernel_rfl)) (by kernel_rfl) ?_
     refine RW.valE (v' := .bool false) (by kernel_rfl) (by kernel_rfl) rfl (congrArg Value.bool (decide_eq_false (by omega))) (by kernel_rfl) ?_
     refine RW.nil ?_
     replace H := (H.del 0)
     dsimp only [setL, delL] at H
     refine W.c0 ?_
     refine W.skip ?_
     refine blkQ_normal ?_
     refine ⟨_, _, _, 2, true, .ready, none, H, rfl, rfl, ?_⟩
     clear H; intro _ lr53 _ hr54 H
     dsimp only [setL, delL] at H
     refine RW.val (by rfl) (by kernel_rfl) rfl (by kernel_rfl) ?_
     refine RW.v ?_
     refine RW.nil ?_
     replace H := (H.del 0)
     dsimp only [setL, delL] at H
     refine W.c0 ?_
     refine W.skip ?_
     refine blkQ_normal ?_
     refine W.region ?_
     refine RW.valE (v' := .int .i64 (((j : Nat) : Int) + 1)) (by kernel_rfl) (by kernel_rfl) rfl (congrArg (Value.int .i64) (wrap_in (by omega) (by omega))) (by kernel_rfl) ?_
     refine RW.v ?_
     refine RW.nil ?_
     rw [show lr53 = lp10 from hr54.trans hl11.symm] at H
     rw [glob_all, ← flat_teeAt hj (okW_yes hc20) (isT_yes hc24)] at H
     exact ⟨rfl, mm - 1, by omega, j + 1, u2, (by omega), (by omega), H, rfl, rfl, rfl, rfl⟩
  ·have hc20b := hc20
   refine RW.skip (by rfl) (by kernel_rfl) ?_
   refine RW.skip (by rfl) (by kernel_rfl) ?_
   refine RW.skip (by rfl) (by kernel_rfl) ?_
   refine RW.skip (by rfl) (by kernel_rfl) ?_
   refine RW.v ?_
   refine RW.nil ?_
   replace H := (H.del 0)
   dsimp only [setL, delL] at H
   refine W.c0 ?_
   refine W.skip ?_
   refine blkQ_normal ?_
   refine W.region ?_
   refine RW.valE (v' := .int .i64 (((j : Nat) : Int) + 1)) (by kernel_rfl) (by kernel_rfl) rfl (congrArg (Value.int .i64) (wrap_in (by omega) (by omega))) (by kernel_rfl) ?_
   refine RW.v ?_
   refine RW.nil ?_
   rw [← flat_no hj (okW_no hc20)] at H
   exact ⟨rfl, mm - 1, by omega, j + 1, u, (by omega), (by omega), H, rfl, rfl, rfl, rfl⟩
 ·have hc13b := hc13
  have hc13 := of_decide_eq_false hc13
  obtain rfl : j = ws.length := by omega
  refine W.exit _ ?_
  refine seqQ_exit ?_
  refine rndQ_exit ?_
  refine blkQ_here ?_
  refine endG (by rfl) (by exact rfl) ?_
  refine ⟨_, _, _, 1, _, _, _, _, H, rfl, hl11, rfl, rfl, ?_⟩
  clear H; intro _ H
  dsimp only [setL, delL] at H
  refine blkQ_normal ?_
  refine W.seq ?_
  refine W.region ?_
  refine RW.ld H 3 1 ?_
  refine RW.stL H 6 (vs := [u]) (cs' := [u]) (by kernel_rfl) (by kernel_rfl) rfl rfl rfl (H.sl 0 rfl).one (gr_all (H.sl 0 rfl)) (by kernel_rfl) (Nat.le_of_ble_eq_true rfl) rfl (by kernel_rfl) ?_
  clear H; intro _ _ H
  dsimp only [setL, delL] at H
  refine RW.st H 5 [.int .i64 0] [.int .i64 0] ?_
  clear H; intro _ _ H
  dsimp only [setL, delL] at H
  refine RW.nil ?_
  replace H := (((H.del 4).del 3).del 2)
  dsimp only [setL, delL] at H
  refine W.ret ?_
  refine endMark H 1 rfl fun _ H => ?_
  dsimp only [setL, delL] at H
  refine endGD0 (by rfl) (by exact resL_cell rfl (H.get 2 rfl) (by rw [uT_eq]; exact Tryz.underlying33) (by kernel_rfl) rfl rfl (by exact resL_cell rfl (H.get 1 rfl) (by rw [uT_eq]; exact Tryz.underlying30) (by kernel_rfl) rfl rfl rfl)) ?_
  rw [flat_all] at H
  exact ⟨_, rfl, ((H.del 2).del 1).back (le1.trans le2)⟩
end
end Go.Proofs.YtaaebeiigkhcjaaGreatDoor
