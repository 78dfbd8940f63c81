/-
 HooksKept in the second memory. Conditions: the heap lies there as HeapAt says.
-/
import Derived.Test.YtaaebeiigkhcjaaGreatDoorHrh
namespace Go.Proofs.YtaaebeiigkhcjaaGreatDoor
set_option maxRecDepth 100000
set_option maxHeartbeats 16000000 in
theorem kept_wc {σ0 : Mem} {v1 v2 : Value} {l : List Int} {d : List Dk} {fi dp : Int} (hG : G66 ≤ σ0.next) (h16 : 16 ≤ G66) (hno : σ0.abs = Abs.no) (hR : RowsAt rowsH σ0) (hl : SlF σ0.get 1 v1 l.length (l.map (Value.int .i64))) (hd : SlF σ0.get 3 v2 d.length (dpC d)) (bl : ∀ x ∈ l, -9223372036854775808 ≤ x ∧ x ≤ 9223372036854775807) (bd : ∀ x ∈ d, (-9223372036854775808 ≤ x.1 ∧ x.1 ≤ 9223372036854775807) ∧ -9223372036854775808 ≤ x.2.1 ∧ x.2.1 ≤ 9223372036854775807) (lo0 : -9223372036854775808 ≤ fi) (hi0 : fi ≤ 9223372036854775807) (lo1 : -9223372036854775808 ≤ dp) (hi1 : dp ≤ 9223372036854775807) (hN : GNull σ0.get) (hTee : GTee σ0.get) :
  WC G66 Tryz.prog 6 #[v1, v2, .int .i64 fi, .int .i64 dp] σ0 fun v _ => v = .bool true := by
 have H := Lies.start hG hno
 have CL := s_lives h16 σ0 hR
 generalize σ0.get = F at H hl hd hN hTee
 refine WC.enter (fn := Tryz.f6) Tryz.func6 rfl ?_
 refine W.rg [(0, v1), (1, v2), (2, .int .i64 fi), (3, .int .i64 dp)] fun TA => ?_
 refine W.seq (W.region ?_)
 refine RW.v ?_
 refine RW.nil ?_
 refine W.rg [(0, v1), (1, v2), (2, .int .i64 fi), (3, .int .i64 dp)] fun TA => ?_
 refine W.seq ?_
 refine W.seq (W.region ?_)
 refine RW.cl ?_
 refine ⟨_, _, CL, ?_⟩
 clear CL
 refine RW.v ?_
 refine RW.nil ?_
 refine W.c0 ?_
 refine W.skip ?_
 refine W.seq ?_
 refine W.seq (W.region ?_)
 iterate 2 refine RW.v ?_
 refine RW.mkL H (x := .row ⟨[v1], 44, false⟩) (fm := fun b => .slice (some ⟨b, 0, none⟩) 1 1) (by kernel_rfl) (by kernel_rfl) (by rcases slf_forms hl with rfl | ⟨_, rfl⟩ | ⟨_, _, _, _, _, rfl⟩ <;> kernel_rfl) (by kernel_rfl) ?_
 clear H; intro _ b1 _ H
 refine RW.cl ?_
 refine WC.enter (fn := Tryz.f19) Tryz.func19 rfl ?_
 refine W.rg [(0, v2), (1, .slice (some ⟨b1, 0, none⟩) 1 1)] fun TA => ?_
 refine W.seq (W.region ?_)
 refine RW.v ?_
 refine RW.nil ?_
 refine W.rg [(0, v2), (1, .slice (some ⟨b1, 0, none⟩) 1 1)] fun TA => ?_
 refine W.seq ?_
 refine W.seq (W.region ?_)
 refine RW.v ?_
 refine RW.nil ?_
 refine W.rg [(0, v2), (1, .slice (some ⟨b1, 0, none⟩) 1 1), (5, .int .i64 0)] fun TA => ?_
 refine W.block ?_
 refine W.unroll (WL.once ?_)
 refine W.seq ?_
 refine W.seq (W.region ?_)
 iterate 4 refine RW.v ?_
 refine RW.nil ?_
 refine W.c1 ?_
 refine W.skip ?_
 refine W.seq ?_
 refine W.block ?_
 refine W.seq (W.region ?_)
 iterate 2 refine RW.v ?_
 refine RW.idx (s := 1) (by kernel_rfl) (by kernel_rfl) rfl Tryz.underlying99 (by kernel_rfl) rfl rfl ⟨by decide, by decide⟩ (by kernel_rfl) ?_
 refine RW.ld H 0 1 ?_
 refine RW.len (by kernel_rfl) (by kernel_rfl) rfl rfl rfl rfl (hl.len (e := 3) (by kernel_rfl)) (by kernel_rfl) ?_
 refine RW.v ?_
 refine RW.nil ?_
 refine W.rg [(0, v2), (1, .slice (some ⟨b1, 0, none⟩) 1 1), (5, .int .i64 0), (17, .bool (decide ((l.length : Int) > 12)))] fun TA => ?_
 refine W.cond rfl (fun hc2 => ?_) (fun hc2 => ?_)
 ·have hc2b := hc2
  have hc2 := of_decide_eq_true hc2
  refine W.seq (W.region ?_)
  refine RW.v ?_
  refine RW.nil ?_
  refine W.ret ?_
  refine blkQ_ret ?_
  refine seqQ_ret ?_
  refine onceQ_ret ?_
  refine blkQ_ret ?_
  refine seqQ_ret ?_
  refine endG (by rfl) (by exact resL_tmp rfl) ?_
  refine RW.v ?_
  refine RW.nil ?_
  replace H := (H.del 0)
  dsimp only [setL, delL] at H
  refine W.c1 ?_
  refine W.seq (W.region ?_)
  refine RW.v ?_
  refine RW.nil ?_
  refine W.ret ?_
  refine seqQ_ret ?_
  refine endG (by rfl) (by exact resL_tmp rfl) ?_
  exact rfl
 ·have hc2b := hc2
  have hc2 := of_decide_eq_false hc2
  refine W.skip ?_
  refine blkQ_normal ?_
  refine W.region ?_
  iterate 3 refine RW.v ?_
  refine RW.nil ?_
  refine WL.once ?_
  refine W.rg [(0, v2), (1, .slice (some ⟨b1, 0, none⟩) 1 1), (5, .int .i64 1)] fun TA => ?_
  refine W.seq ?_
  refine W.seq (W.region ?_)
  iterate 4 refine RW.v ?_
  refine RW.nil ?_
  refine W.c0 ?_
  refine W.exit _ ?_
  refine seqQ_exit ?_
  refine onceQ_exit ?_
  refine blkQ_here ?_
  refine W.seq (W.region ?_)
  refine RW.v ?_
  refine RW.len (by kernel_rfl) (by kernel_rfl) rfl rfl rfl rfl (hd.len (e := 110) (by kernel_rfl)) (by kernel_rfl) ?_
  iterate 2 refine RW.v ?_
  refine RW.nil ?_
  refine W.ret ?_
  refine endG (by rfl) (by exact resL_tmp rfl) ?_
  refine RW.v ?_
  refine RW.nil ?_
  replace H := (H.del 0)
  dsimp only [setL, delL] at H
  refine W.rg [(0, v1), (1, v2), (2, .int .i64 fi), (3, .int .i64 dp), (40, .bool (!(decide ((d.length : Int) ≤ 12))))] fun TA => ?_
  refine W.cond rfl (fun hc3 => ?_) (fun hc3 => ?_)
  ·have hc3b := hc3
   refine W.seq (W.region ?_)
   refine RW.v ?_
   refine RW.nil ?_
   refine W.ret ?_
   refine seqQ_ret ?_
   refine endG (by rfl) (by exact resL_tmp rfl) ?_
   exact rfl
  ·have hc3b := hc3
   have hdl : d.length ≤ 12 := by have := hc3b; simp at this; omega
   refine W.skip ?_
   refine W.seq (W.region ?_)
   refine RW.cl ?_
   refine WC.enter (fn := Tryz.f7) Tryz.func7 rfl ?_
   refine W.rg [] fun TA => ?_
   refine W.seq (W.region ?_)
   iterate 2 refine RW.v ?_
   refine RW.nil ?_
   refine W.rg [] fun TA => ?_
   refine W.seq (W.region ?_)
   refine RW.cl ?_
   refine ((new_lies (G := G66) 2000 (by decide) (by decide) H).mono ?_)
   clear H
   rintro _ _ ⟨h, rfl, H⟩
   iterate 5 refine RW.v ?_
   refine RW.nil ?_
   refine W.rg [(2, pp h), (3, .int .i64 0)] fun TA => ?_
   refine W.seq (W.region ?_)
   iterate 5 refine RW.v ?_
   refine RW.nil ?_
   refine W.ret ?_
   refine endG (by rfl) (by exact resL_tmp (by exact resL_tmp rfl)) ?_
   iterate 5 refine RW.v ?_
   refine RW.nil ?_
   refine W.rg [(0, v1), (1, v2), (2, .int .i64 fi), (3, .int .i64 dp), (9, pp h), (10, .bool true)] fun TA => ?_
   refine W.seq ?_
   refine W.seq (W.region ?_)
   iterate 2 refine RW.v ?_
   refine RW.nil ?_
   refine W.c0 ?_
   refine W.skip ?_
   refine W.seq (W.region ?_)
   iterate 2 refine RW.v ?_
   refine RW.cl ?_
   refine ((value2_wc (h := h) (m := hm0 2000) (l := l) H.gn H.abs rfl (by rw [hm0_many]; show 0 + 3 * l.length ≤ 2000; omega) (by decide) (by decide) (hl.le H.old) bl (by omega)).mono ?_)
   rintro _ _ ⟨m1, vw, ws, c1, rfl, E1, hc1, hp1, hlw, hfg, K⟩
   replace H := H.then K
   clear K
   dsimp only [List.nil_append, List.cons_append] at H
   have M1 : m1.many ≤ 36 := by have := E1.many; rw [hm0_many] at this; omega
   have L1 : m1.limit = 2000 := E1.lim
   iterate 2 refine RW.v ?_
   refine RW.cl ?_
   refine ((deep_wc (h := h) (m := m1) (l := d) H.gn H.abs E1.free (by omega) (by omega) (by omega) (hd.le H.old) bd (by omega)).mono ?_)
   rintro _ _ ⟨m2, p, es, c2, rfl, E2, hc2, hp2, hle, hde, K⟩
   replace H := H.then K
   clear K
   dsimp only [List.nil_append, List.cons_append] at H
   have M2 : m2.many ≤ 84 := by have := E2.many; omega
   have L2 : m2.limit = 2000 := E2.lim.trans L1
   iterate 2 refine RW.v ?_
   refine RW.cl ?_
   refine ((word2_wc (h := h) (m := m2) fi H.gn H.abs E2.free (by omega) (by omega) lo0 hi0).mono ?_)
   rintro _ _ ⟨m3, w, rfl, E3, hw, gw, K⟩
   replace H := H.then K
   clear K
   dsimp only [List.nil_append, List.cons_append] at H
   have M3 : m3.many ≤ 86 := by have := E3.many; omega
   have L3 : m3.limit = 2000 := E3.lim.trans L2
   have lo3 : 0 < m3.limit := by omega
   replace hp1 := hp1.mono (E2.finds.trans E3.finds)
   replace hp2 := hp2.mono E3.finds
   have gws : ∀ y ∈ ws, Good m3 y := fun y hy => ((hfg y hy).2.mono' (E2.finds.trans E3.finds)).1
   have hes : ∀ y ∈ es, DepE m3 y := fun y hy => (hde y hy).mono E3.finds
   have hfi : ∀ y ∈ ws, Fine y := fun y hy => (hfg y hy).1
   have hz : ws = [] → vw = (1, 0) := fun e => by have := hp1.1; rw [e] at this; exact hc1.symm.trans this
   have hF3 := E3.free
   clear hfg hde
   refine RW.mk H (.row ⟨[.int .i64 0, .int .i64 0], 27, false⟩) ?_
   clear H; intro _ b4 _ H
   refine RW.mk H (.row ⟨[.int .i64 0, .int .i64 0], 27, false⟩) ?_
   clear H; intro _ b5 _ H
   refine RW.mk H (.row ⟨[.int .i64 0, .int .i64 0], 27, false⟩) ?_
   clear H; intro _ b6 _ H
   refine RW.st H 2 [.int .i64 vw.1, .int .i64 vw.2] [.int .i64 vw.1, .int .i64 vw.2] ?_
   clear H; intro _ _ H; dsimp only [setL, delL] at H
   refine RW.st H 1 [.int .i64 p.1, .int .i64 p.2] [.int .i64 p.1, .int .i64 p.2] ?_
   clear H; intro _ _ H; dsimp only [setL, delL] at H
   refine RW.st H 0 [.int .i64 w.1, .int .i64 w.2] [.int .i64 w.1, .int .i64 w.2] ?_
   clear H; intro _ _ H; dsimp only [setL, delL] at H
   refine RW.nil ?_
   refine W.rg [(3, .int .i64 dp), (9, pp h), (11, pp b4), (12, pp b5), (13, pp b6)] fun TA => ?_
   refine W.seq (W.region ?_)
   refine RW.v ?_
   refine RW.ld H 2 2 ?_
   refine RW.cl ?_
   refine ((slice_k (h := h) (m := m3) hc1 H.gn H.abs lo3 hp1 (by omega)).mono ?_)
   rintro _ _ ⟨slw3, rfl, K⟩
   replace H := H.then K
   clear K
   dsimp only [List.nil_append, List.cons_append] at H
   obtain ⟨F, leslw3, hSslw3, H⟩ := H.freezeSl 0 rfl
   dsimp only [setL, delL] at H
   replace hl := hl.le leslw3
   replace hd := hd.le leslw3
   replace hN := hN.le leslw3
   replace hTee := hTee.le leslw3
   clear leslw3
   iterate 5 refine RW.v ?_
   refine RW.nil ?_
   refine W.rg [(3, .int .i64 dp), (9, pp h), (11, pp b4), (12, pp b5), (13, pp b6), (14, slw3)] fun TA => ?_
   refine W.seq (W.region ?_)
   refine RW.v ?_
   refine RW.ld H 1 2 ?_
   refine RW.cl ?_
   refine ((slice_k (h := h) (m := m3) hc2 H.gn H.abs lo3 hp2 (by omega)).mono ?_)
   rintro _ _ ⟨sle3, rfl, K⟩
   replace H := H.then K
   clear K
   dsimp only [List.nil_append, List.cons_append] at H
   obtain ⟨F, lesle3, hSsle3, H⟩ := H.freezeSl 0 rfl
   dsimp only [setL, delL] at H
   replace hl := hl.le lesle3
   replace hd := hd.le lesle3
   replace hN := hN.le lesle3
   replace hTee := hTee.le lesle3
   replace hSslw3 := hSslw3.le lesle3
   clear lesle3
   iterate 5 refine RW.v ?_
   refine RW.nil ?_
   refine W.rg [(3, .int .i64 dp), (9, pp h), (11, pp b4), (12, pp b5), (13, pp b6), (14, slw3), (16, sle3)] fun TA => ?_
   refine W.seq (W.region ?_)
   refine RW.v ?_
   refine RW.ld H 2 2 ?_
   refine RW.ld H 1 2 ?_
   refine RW.ld H 0 2 ?_
   refine RW.v ?_
   refine RW.cl ?_
   refine ((add_any H.gn H.abs lo3 (hN.le H.old) (elems_list hc1 hp1 lo3 (by omega) hfi) hc2 hp2 (by omega) (by omega) gw gws hes hF3 (by omega) (by omega)).mono ?_)
   rintro r4 _ ⟨m4, E4, K⟩
   replace H := H.then K
   clear K
   dsimp only [List.nil_append, List.cons_append] at H
   have M4 : m4.many ≤ 101 := by have := E4.many; omega
   have L4 : m4.limit = 2000 := E4.lim.trans L3
   have lo4 : 0 < m4.limit := by omega
   replace hp1 := hp1.mono E4.finds
   replace hp2 := hp2.mono E4.finds
   replace gws : ∀ y ∈ ws, Good m4 y := fun y hy => ((gws y hy).mono' E4.finds).1
   replace hes : ∀ y ∈ es, DepE m4 y := fun y hy => (hes y hy).mono E4.finds
   replace gw := (gw.mono' E4.finds).1
   have hF4 := E4.free
   refine RW.nil ?_
   refine W.rg [(3, .int .i64 dp), (9, pp h), (11, pp b4), (12, pp b5), (13, pp b6), (14, slw3), (16, sle3)] fun TA => ?_
   refine W.seq (W.region ?_)
   refine RW.v ?_
   refine RW.ld H 2 2 ?_
   refine RW.ld H 1 2 ?_
   refine RW.ld H 0 2 ?_
   refine RW.cl ?_
   refine ((remove_any H.gn H.abs lo4 (hN.le H.old) (elems_list hc1 hp1 lo4 (by omega) hfi) hz hc2 hp2 (by omega) (by omega) gw gws hes hF4 (by omega) (by omega)).mono ?_)
   rintro r5 _ ⟨m5, E5, K⟩
   replace H := H.then K
   clear K
   dsimp only [List.nil_append, List.cons_append] at H
   have M5 : m5.many ≤ 125 := by have := E5.many; omega
   have L5 : m5.limit = 2000 := E5.lim.trans L4
   have lo5 : 0 < m5.limit := by omega
   replace hp1 := hp1.mono E5.finds
   replace hp2 := hp2.mono E5.finds
   replace gws : ∀ y ∈ ws, Good m5 y := fun y hy => ((gws y hy).mono' E5.finds).1
   replace hes : ∀ y ∈ es, DepE m5 y := fun y hy => (hes y hy).mono E5.finds
   replace gw := (gw.mono' E5.finds).1
   have hF5 := E5.free
   refine RW.nil ?_
   refine W.rg [(3, .int .i64 dp), (9, pp h), (11, pp b4), (12, pp b5), (13, pp b6), (14, slw3), (16, sle3)] fun TA => ?_
   refine W.seq (W.region ?_)
   refine RW.v ?_
   refine RW.ld H 2 2 ?_
   refine RW.ld H 2 2 ?_
   refine RW.cl ?_
   refine ((functions_wc (h := h) (m := m5) (ws := ws) (us := ws) H.gn H.abs lo5 (elems_list hc1 hp1 lo5 (by omega) hfi) (elems_list hc1 hp1 lo5 (by omega) hfi) (by omega) (by omega) (hN.le H.old) (hTee.le H.old)).mono ?_)
   rintro _ _ ⟨slf, rfl, K⟩
   replace H := H.then K
   clear K
   dsimp only [List.nil_append, List.cons_append] at H
   refine RW.nil ?_
   replace H := (H.del 0)
   dsimp only [setL, delL] at H
   refine W.rg [(3, .int .i64 dp), (9, pp h), (11, pp b4), (12, pp b5), (13, pp b6), (14, slw3), (16, sle3)] fun TA => ?_
   refine W.seq (W.region ?_)
   refine RW.v ?_
   refine RW.ld H 2 2 ?_
   refine RW.cl ?_
   refine ((slice_k (h := h) (m := m5) hc1 H.gn H.abs lo5 hp1 (by omega)).mono ?_)
   rintro _ _ ⟨slw5, rfl, K⟩
   replace H := H.then K
   clear K
   dsimp only [List.nil_append, List.cons_append] at H
   obtain ⟨F, leslw5, hSslw5, H⟩ := H.freezeSl 0 rfl
   dsimp only [setL, delL] at H
   replace hl := hl.le leslw5
   replace hd := hd.le leslw5
   replace hN := hN.le leslw5
   replace hTee := hTee.le leslw5
   replace hSslw3 := hSslw3.le leslw5
   replace hSsle3 := hSsle3.le leslw5
   clear leslw5
   iterate 5 refine RW.v ?_
   refine RW.nil ?_
   refine W.rg [(3, .int .i64 dp), (9, pp h), (11, pp b4), (12, pp b5), (13, pp b6), (14, slw3), (16, sle3), (18, slw5)] fun TA => ?_
   refine W.seq (W.region ?_)
   refine RW.v ?_
   refine RW.ld H 1 2 ?_
   refine RW.cl ?_
   refine ((slice_k (h := h) (m := m5) hc2 H.gn H.abs lo5 hp2 (by omega)).mono ?_)
   rintro _ _ ⟨sle5, rfl, K⟩
   replace H := H.then K
   clear K
   dsimp only [List.nil_append, List.cons_append] at H
   obtain ⟨F, lesle5, hSsle5, H⟩ := H.freezeSl 0 rfl
   dsimp only [setL, delL] at H
   replace hl := hl.le lesle5
   replace hd := hd.le lesle5
   replace hN := hN.le lesle5
   replace hTee := hTee.le lesle5
   replace hSslw3 := hSslw3.le lesle5
   replace hSsle3 := hSsle3.le lesle5
   replace hSslw5 := hSslw5.le lesle5
   clear lesle5
   iterate 5 refine RW.v ?_
   refine RW.nil ?_
   refine W.rg [(3, .int .i64 dp), (11, pp b4), (12, pp b5), (13, pp b6), (14, slw3), (16, sle3), (18, slw5), (20, sle5)] fun TA => ?_
   refine W.seq (W.region ?_)
   refine RW.ld H 2 2 ?_
   refine RW.ld H 1 2 ?_
   refine RW.cl ?_
   refine WC.enterD (fn := Tryz.f16) Tryz.func16 rfl ?_
   refine W.rg [(0, .pointer none), (1, .agg #[.int .i64 vw.1, .int .i64 vw.2]), (2, .agg #[.int .i64 p.1, .int .i64 p.2])] fun TA => ?_
   refine W.seq (W.region ?_)
   refine RW.mk H (.row ⟨[.int .i64 vw.1, .int .i64 vw.2], 27, false⟩) ?_
   clear H; intro _ b7 _ H
   refine RW.mk H (.row ⟨[.int .i64 p.1, .int .i64 p.2], 27, false⟩) ?_
   clear H; intro _ b8 _ H
   refine RW.mk H (.row ⟨[.slice none 0 0], 33, false⟩) ?_
   clear H; intro _ b9 _ H
   refine RW.mk H (.row ⟨[.int .i64 0], 30, false⟩) ?_
   clear H; intro _ b10 _ H
   refine RW.nil ?_
   refine W.rg [(0, .pointer none), (4, pp b7), (5, pp b8), (6, pp b9), (7, pp b10)] fun TA => ?_
   refine W.seq ?_
   refine W.seq (W.region ?_)
   refine RW.v ?_
   refine RW.cl ?_
   refine WC.enter (fn := Tryz.f41) Tryz.func41 rfl ?_
   refine W.rg [(0, .pointer none)] fun TA => ?_
   refine W.seq (W.region ?_)
   refine RW.v ?_
   refine RW.nil ?_
   refine W.rg [(0, .pointer none)] fun TA => ?_
   refine W.seq (W.region ?_)
   refine RW.v ?_
   refine RW.cl ?_
   refine ⟨_, _, (s_limitNil _), ?_⟩
   iterate 2 refine RW.v ?_
   refine RW.nil ?_
   refine W.ret ?_
   refine endG (by rfl) (by exact resL_tmp rfl) ?_
   refine RW.v ?_
   refine RW.nil ?_
   refine W.c1 ?_
   refine W.seq (W.region ?_)
   refine RW.st H 1 [.slice none 0 0] [.slice none 0 0] ?_
   clear H; intro _ _ H; dsimp only [setL, delL] at H
   refine RW.st H 0 [.int .i64 1] [.int .i64 1] ?_
   clear H; intro _ _ H; dsimp only [setL, delL] at H
   refine RW.nil ?_
   replace H := ((H.del 3).del 2)
   dsimp only [setL, delL] at H
   refine W.ret ?_
   refine seqQ_ret ?_
   refine endGD0 (by rfl) (by exact resL_cell rfl (H.get 1 rfl) (by rw [uT_eq]; exact Tryz.underlying33) (by kernel_rfl) rfl rfl (by exact resL_cell rfl (H.get 0 rfl) (by rw [uT_eq]; exact Tryz.underlying30) (by kernel_rfl) rfl rfl rfl)) ?_
   iterate 5 refine RW.v ?_
   refine RW.nil ?_
   replace H := ((H.del 1).del 0)
   dsimp only [setL, delL] at H
   refine W.rg [(3, .int .i64 dp), (11, pp b4), (12, pp b5), (13, pp b6), (14, slw3), (16, sle3), (18, slw5), (20, sle5), (23, .int .i64 1)] fun TA => ?_
   refine W.seq (W.region ?_)
   refine RW.ld H 2 2 ?_
   refine RW.ld H 1 2 ?_
   refine RW.ld H 0 2 ?_
   refine RW.v ?_
   refine RW.cl ?_
   refine WC.enter (fn := Tryz.f11) Tryz.func11 rfl ?_
   refine W.rg [(0, .pointer none), (1, .agg #[.int .i64 vw.1, .int .i64 vw.2]), (2, .agg #[.int .i64 p.1, .int .i64 p.2]), (3, .agg #[.int .i64 w.1, .int .i64 w.2]), (4, .int .i64 dp)] fun TA => ?_
   refine W.seq (W.region ?_)
   refine RW.mk H (.row ⟨[.int .i64 vw.1, .int .i64 vw.2], 27, false⟩) ?_
   clear H; intro _ b11 _ H
   refine RW.mk H (.row ⟨[.int .i64 p.1, .int .i64 p.2], 27, false⟩) ?_
   clear H; intro _ b12 _ H
   refine RW.mk H (.row ⟨[.int .i64 w.1, .int .i64 w.2], 27, false⟩) ?_
   clear H; intro _ b13 _ H
   refine RW.mk H (.row ⟨[.int .i64 0, .int .i64 0], 27, false⟩) ?_
   clear H; intro _ b14 _ H
   refine RW.mk H (.row ⟨[.int .i64 0, .int .i64 0], 27, false⟩) ?_
   clear H; intro _ b15 _ H
   refine RW.v ?_
   refine RW.nil ?_
   refine W.rg [(0, .pointer none), (4, .int .i64 dp), (6, pp b11), (7, pp b12), (8, pp b13), (10, pp b14), (11, pp b15)] fun TA => ?_
   refine W.seq (W.region ?_)
   refine RW.v ?_
   refine RW.nil ?_
   refine W.rg [(0, .pointer none), (4, .int .i64 dp), (6, pp b11), (7, pp b12), (8, pp b13), (10, pp b14), (11, pp b15), (13, .func (.func 40) #[] #[])] fun TA => ?_
   refine W.seq ?_
   refine W.block ?_
   refine W.seq (W.region ?_)
   refine RW.v ?_
   refine RW.cl ?_
   refine WC.enter (fn := Tryz.f41) Tryz.func41 rfl ?_
   refine W.rg [(0, .pointer none)] fun TA => ?_
   refine W.seq (W.region ?_)
   refine RW.v ?_
   refine RW.nil ?_
   refine W.rg [(0, .pointer none)] fun TA => ?_
   refine W.seq (W.region ?_)
   refine RW.v ?_
   refine RW.cl ?_
   refine ⟨_, _, (s_limitNil _), ?_⟩
   iterate 2 refine RW.v ?_
   refine RW.nil ?_
   refine W.ret ?_
   refine endG (by rfl) (by exact resL_tmp rfl) ?_
   iterate 2 refine RW.v ?_
   refine RW.nil ?_
   refine W.c1 ?_
   refine W.seq (W.region ?_)
   refine RW.v ?_
   refine RW.cl ?_
   refine WC.enter (fn := Tryz.f40) Tryz.func40 rfl ?_
   refine W.rg [(0, .int .i64 1)] fun TA => ?_
   refine W.seq (W.region ?_)
   refine RW.mk H (.row ⟨[.int .i64 0, .int .i64 0], 27, false⟩) ?_
   clear H; intro _ b16 _ H
   refine RW.mk H (.row ⟨[.int .i64 0, .int .i64 0], 27, false⟩) ?_
   clear H; intro _ b17 _ H
   refine RW.v ?_
   refine RW.nil ?_
   refine W.rg [(0, .int .i64 1), (2, pp b16), (3, pp b17)] fun TA => ?_
   refine W.seq (W.region ?_)
   refine RW.val (v := .agg #[.int .i64 0, .int .i64 0]) (by kernel_rfl) (by kernel_rfl) (by kernel_rfl) (by kernel_rfl) ?_
   refine RW.val (v := .agg #[.int .i64 0, .int .i64 0]) (by kernel_rfl) (by kernel_rfl) (by kernel_rfl) (by kernel_rfl) ?_
   refine RW.v ?_
   refine RW.st H 1 [.int .i64 0, .int .i64 0] [.int .i64 0, .int .i64 0] ?_
   clear H; intro _ _ H; dsimp only [setL, delL] at H
   refine RW.st H 0 [.int .i64 0, .int .i64 0] [.int .i64 0, .int .i64 0] ?_
   clear H; intro _ _ H; dsimp only [setL, delL] at H
   refine RW.v ?_
   refine RW.nil ?_
   refine W.ret ?_
   refine endG (by rfl) (by exact resL_cell rfl (H.get 1 rfl) (by rw [uT_eq]; exact Tryz.underlying27) (by kernel_rfl) rfl rfl (by exact resL_cell rfl (H.get 0 rfl) (by rw [uT_eq]; exact Tryz.underlying27) (by kernel_rfl) rfl rfl (by exact resL_tmp rfl))) ?_
   iterate 3 refine RW.v ?_
   refine RW.st H 3 [.int .i64 0, .int .i64 0] [.int .i64 0, .int .i64 0] ?_
   clear H; intro _ _ H; dsimp only [setL, delL] at H
   refine RW.st H 2 [.int .i64 0, .int .i64 0] [.int .i64 0, .int .i64 0] ?_
   clear H; intro _ _ H; dsimp only [setL, delL] at H
   refine RW.v ?_
   refine RW.nil ?_
   replace H := (((((H.del 6).del 5).del 4).del 1).del 0)
   dsimp only [setL, delL] at H
   refine W.ret ?_
   refine blkQ_ret ?_
   refine seqQ_ret ?_
   refine endG (by rfl) (by exact resL_cell rfl (H.get 1 rfl) (by rw [uT_eq]; exact Tryz.underlying27) (by kernel_rfl) rfl rfl (by exact resL_cell rfl (H.get 0 rfl) (by rw [uT_eq]; exact Tryz.underlying27) (by kernel_rfl) rfl rfl (by exact resL_tmp rfl))) ?_
   iterate 4 refine RW.v ?_
   refine RW.mk H (.row ⟨[.int .i64 0, .int .i64 0], 27, false⟩) ?_
   clear H; intro _ b18 _ H
   refine RW.mk H (.row ⟨[.int .i64 0, .int .i64 0], 27, false⟩) ?_
   clear H; intro _ b19 _ H
   refine RW.st H 1 [.int .i64 0, .int .i64 0] [.int .i64 0, .int .i64 0] ?_
   clear H; intro _ _ H; dsimp only [setL, delL] at H
   refine RW.st H 0 [.int .i64 0, .int .i64 0] [.int .i64 0, .int .i64 0] ?_
   clear H; intro _ _ H; dsimp only [setL, delL] at H
   refine RW.v ?_
   refine RW.nil ?_
   replace H := ((((H.del 3).del 2).del 1).del 0)
   dsimp only [setL, delL] at H
   refine W.rg [(11, pp b4), (12, pp b5), (13, pp b6), (14, slw3), (16, sle3), (18, slw5), (20, sle5), (23, .int .i64 1), (26, .int .i64 1)] fun TA => ?_
   refine W.seq (W.region ?_)
   refine RW.ld H 2 2 ?_
   refine RW.ld H 1 2 ?_
   refine RW.ld H 0 2 ?_
   refine RW.cl ?_
   refine WC.enter (fn := Tryz.f13) Tryz.func13 rfl ?_
   refine W.rg [(0, .pointer none), (1, .agg #[.int .i64 vw.1, .int .i64 vw.2]), (2, .agg #[.int .i64 p.1, .int .i64 p.2]), (3, .agg #[.int .i64 w.1, .int .i64 w.2])] fun TA => ?_
   refine W.seq (W.region ?_)
   refine RW.mk H (.row ⟨[.pointer none], 22, false⟩) ?_
   clear H; intro _ b20 _ H
   refine RW.mk H (.row ⟨[.int .i64 vw.1, .int .i64 vw.2], 27, false⟩) ?_
   clear H; intro _ b21 _ H
   refine RW.mk H (.row ⟨[.int .i64 p.1, .int .i64 p.2], 27, false⟩) ?_
   clear H; intro _ b22 _ H
   refine RW.mk H (.row ⟨[.int .i64 w.1, .int .i64 w.2], 27, false⟩) ?_
   clear H; intro _ b23 _ H
   refine RW.mk H (.row ⟨[.int .i64 0, .int .i64 0], 27, false⟩) ?_
   clear H; intro _ b24 _ H
   refine RW.mk H (.row ⟨[.int .i64 0, .int .i64 0], 27, false⟩) ?_
   clear H; intro _ b25 _ H
   refine RW.v ?_
   refine RW.nil ?_
   refine W.rg [(4, pp b20), (5, pp b21), (6, pp b22), (7, pp b23), (8, pp b24), (9, pp b25)] fun TA => ?_
   refine W.seq ?_
   refine W.seq (W.region ?_)
   refine RW.ld H 5 1 ?_
   refine RW.cl ?_
   refine WC.enter (fn := Tryz.f41) Tryz.func41 rfl ?_
   refine W.rg [(0, .pointer none)] fun TA => ?_
   refine W.seq (W.region ?_)
   refine RW.v ?_
   refine RW.nil ?_
   refine W.rg [(0, .pointer none)] fun TA => ?_
   refine W.seq (W.region ?_)
   refine RW.v ?_
   refine RW.cl ?_
   refine ⟨_, _, (s_limitNil _), ?_⟩
   iterate 2 refine RW.v ?_
   refine RW.nil ?_
   refine W.ret ?_
   refine endG (by rfl) (by exact resL_tmp rfl) ?_
   refine RW.v ?_
   refine RW.nil ?_
   refine W.c1 ?_
   refine W.seq (W.region ?_)
   refine RW.val (v := .agg #[.int .i64 0, .int .i64 0]) (by kernel_rfl) (by kernel_rfl) (by kernel_rfl) (by kernel_rfl) ?_
   refine RW.val (v := .agg #[.int .i64 0, .int .i64 0]) (by kernel_rfl) (by kernel_rfl) (by kernel_rfl) (by kernel_rfl) ?_
   refine RW.st H 1 [.int .i64 0, .int .i64 0] [.int .i64 0, .int .i64 0] ?_
   clear H; intro _ _ H; dsimp only [setL, delL] at H
   refine RW.st H 0 [.int .i64 0, .int .i64 0] [.int .i64 0, .int .i64 0] ?_
   clear H; intro _ _ H; dsimp only [setL, delL] at H
   refine RW.v ?_
   refine RW.nil ?_
   replace H := ((((H.del 5).del 4).del 3).del 2)
   dsimp only [setL, delL] at H
   refine W.ret ?_
   refine seqQ_ret ?_
   refine endG (by rfl) (by exact resL_cell rfl (H.get 1 rfl) (by rw [uT_eq]; exact Tryz.underlying27) (by kernel_rfl) rfl rfl (by exact resL_cell rfl (H.get 0 rfl) (by rw [uT_eq]; exact Tryz.underlying27) (by kernel_rfl) rfl rfl (by exact resL_tmp rfl))) ?_
   iterate 4 refine RW.v ?_
   refine RW.mk H (.row ⟨[.int .i64 0, .int .i64 0], 27, false⟩) ?_
   clear H; intro _ b26 _ H
   refine RW.mk H (.row ⟨[.int .i64 0, .int .i64 0], 27, false⟩) ?_
   clear H; intro _ b27 _ H
   refine RW.st H 1 [.int .i64 0, .int .i64 0] [.int .i64 0, .int .i64 0] ?_
   clear H; intro _ _ H; dsimp only [setL, delL] at H
   refine RW.st H 0 [.int .i64 0, .int .i64 0] [.int .i64 0, .int .i64 0] ?_
   clear H; intro _ _ H; dsimp only [setL, delL] at H
   refine RW.v ?_
   refine RW.nil ?_
   replace H := ((((H.del 3).del 2).del 1).del 0)
   dsimp only [setL, delL] at H
   refine W.rg [(11, pp b4), (12, pp b5), (13, pp b6), (14, slw3), (16, sle3), (18, slw5), (20, sle5), (23, .int .i64 1), (26, .int .i64 1), (29, .int .i64 1)] fun TA => ?_
   refine W.seq (W.region ?_)
   refine RW.ld H 2 2 ?_
   refine RW.ld H 0 2 ?_
   refine RW.cl ?_
   refine WC.enter (fn := Tryz.f17) Tryz.func17 rfl ?_
   refine W.rg [(0, .pointer none), (1, .agg #[.int .i64 vw.1, .int .i64 vw.2]), (2, .agg #[.int .i64 w.1, .int .i64 w.2])] fun TA => ?_
   refine W.seq (W.region ?_)
   refine RW.mk H (.row ⟨[.int .i64 vw.1, .int .i64 vw.2], 27, false⟩) ?_
   clear H; intro _ b28 _ H
   refine RW.mk H (.row ⟨[.int .i64 w.1, .int .i64 w.2], 27, false⟩) ?_
   clear H; intro _ b29 _ H
   iterate 2 refine RW.v ?_
   refine RW.nil ?_
   refine W.rg [(0, .pointer none), (4, pp b28), (5, pp b29)] fun TA => ?_
   refine W.seq ?_
   refine W.seq (W.region ?_)
   refine RW.v ?_
   refine RW.cl ?_
   refine WC.enter (fn := Tryz.f41) Tryz.func41 rfl ?_
   refine W.rg [(0, .pointer none)] fun TA => ?_
   refine W.seq (W.region ?_)
   refine RW.v ?_
   refine RW.nil ?_
   refine W.rg [(0, .pointer none)] fun TA => ?_
   refine W.seq (W.region ?_)
   refine RW.v ?_
   refine RW.cl ?_
   refine ⟨_, _, (s_limitNil _), ?_⟩
   iterate 2 refine RW.v ?_
   refine RW.nil ?_
   refine W.ret ?_
   refine endG (by rfl) (by exact resL_tmp rfl) ?_
   refine RW.v ?_
   refine RW.nil ?_
   refine W.c1 ?_
   refine W.seq (W.region ?_)
   iterate 2 refine RW.v ?_
   refine RW.nil ?_
   replace H := ((H.del 1).del 0)
   dsimp only [setL, delL] at H
   refine W.ret ?_
   refine seqQ_ret ?_
   refine endG (by rfl) (by exact resL_tmp (by exact resL_tmp rfl)) ?_
   iterate 5 refine RW.v ?_
   refine RW.nil ?_
   replace H := (H.del 2)
   dsimp only [setL, delL] at H
   refine W.rg [(12, pp b5), (13, pp b6), (14, slw3), (16, sle3), (18, slw5), (20, sle5), (23, .int .i64 1), (26, .int .i64 1), (29, .int .i64 1), (31, .int .i64 1)] fun TA => ?_
   refine W.seq (W.region ?_)
   refine RW.ld H 1 2 ?_
   refine RW.ld H 0 2 ?_
   refine RW.cl ?_
   refine WC.enter (fn := Tryz.f28) Tryz.func28 rfl ?_
   refine W.rg [(0, .pointer none), (1, .agg #[.int .i64 p.1, .int .i64 p.2]), (2, .agg #[.int .i64 w.1, .int .i64 w.2])] fun TA => ?_
   refine W.seq (W.region ?_)
   refine RW.mk H (.row ⟨[.int .i64 p.1, .int .i64 p.2], 27, false⟩) ?_
   clear H; intro _ b30 _ H
   refine RW.mk H (.row ⟨[.int .i64 w.1, .int .i64 w.2], 27, false⟩) ?_
   clear H; intro _ b31 _ H
   iterate 2 refine RW.v ?_
   refine RW.nil ?_
   refine W.rg [(0, .pointer none), (4, pp b30), (5, pp b31)] fun TA => ?_
   refine W.seq ?_
   refine W.seq (W.region ?_)
   refine RW.v ?_
   refine RW.cl ?_
   refine WC.enter (fn := Tryz.f41) Tryz.func41 rfl ?_
   refine W.rg [(0, .pointer none)] fun TA => ?_
   refine W.seq (W.region ?_)
   refine RW.v ?_
   refine RW.nil ?_
   refine W.rg [(0, .pointer none)] fun TA => ?_
   refine W.seq (W.region ?_)
   refine RW.v ?_
   refine RW.cl ?_
   refine ⟨_, _, (s_limitNil _), ?_⟩
   iterate 2 refine RW.v ?_
   refine RW.nil ?_
   refine W.ret ?_
   refine endG (by rfl) (by exact resL_tmp rfl) ?_
   refine RW.v ?_
   refine RW.nil ?_
   refine W.c1 ?_
   refine W.seq (W.region ?_)
   iterate 2 refine RW.v ?_
   refine RW.nil ?_
   replace H := ((H.del 1).del 0)
   dsimp only [setL, delL] at H
   refine W.ret ?_
   refine seqQ_ret ?_
   refine endG (by rfl) (by exact resL_tmp (by exact resL_tmp rfl)) ?_
   iterate 5 refine RW.v ?_
   refine RW.nil ?_
   replace H := ((H.del 1).del 0)
   dsimp only [setL, delL] at H
   refine W.rg [(14, slw3), (16, sle3), (18, slw5), (20, sle5), (23, .int .i64 1), (26, .int .i64 1), (29, .int .i64 1), (31, .int .i64 1), (32, .int .i64 0), (33, .int .i64 1)] fun TA => ?_
   refine W.seq (W.region ?_)
   iterate 2 refine RW.v ?_
   refine RW.cl ?_
   refine ((same_lies (G := G66) (l1 := ws) (l2 := ws) H (hSslw5) (hSslw3) rfl (by omega)).mono ?_)
   rintro _ _ ⟨rfl, e⟩
   subst e
   refine RW.v ?_
   refine RW.val (by rfl) (by kernel_rfl) rfl (by kernel_rfl) ?_
   refine RW.val (by rfl) (by kernel_rfl) rfl (by kernel_rfl) ?_
   refine RW.cl (hw := by rfl) ?_
   refine ((same_lies (G := G66) (l1 := es) (l2 := es) H (hSsle5) (hSsle3) rfl (by omega)).mono ?_)
   rintro _ _ ⟨rfl, e⟩
   subst e
   iterate 2 refine RW.v ?_
   refine RW.val (by rfl) (by kernel_rfl) rfl (by kernel_rfl) ?_
   refine RW.val (by rfl) (by kernel_rfl) rfl (by kernel_rfl) ?_
   iterate 2 refine RW.v ?_
   refine RW.val (by rfl) (by kernel_rfl) rfl (by kernel_rfl) ?_
   refine RW.val (by rfl) (by kernel_rfl) rfl (by kernel_rfl) ?_
   iterate 2 refine RW.v ?_
   refine RW.val (by rfl) (by kernel_rfl) rfl (by kernel_rfl) ?_
   refine RW.val (by rfl) (by kernel_rfl) rfl (by kernel_rfl) ?_
   iterate 2 refine RW.v ?_
   refine RW.val (by rfl) (by kernel_rfl) rfl (by kernel_rfl) ?_
   refine RW.val (by rfl) (by kernel_rfl) rfl (by kernel_rfl) ?_
   iterate 2 refine RW.v ?_
   refine RW.val (by rfl) (by kernel_rfl) rfl (by kernel_rfl) ?_
   refine RW.val (by rfl) (by kernel_rfl) rfl (by kernel_rfl) ?_
   iterate 2 refine RW.v ?_
   refine RW.val (by rfl) (by kernel_rfl) rfl (by kernel_rfl) ?_
   refine RW.val (by rfl) (by kernel_rfl) rfl (by kernel_rfl) ?_
   iterate 2 refine RW.v ?_
   refine RW.nil ?_
   refine W.ret ?_
   refine endG (by rfl) (by exact resL_tmp rfl) ?_
   exact rfl
end Go.Proofs.YtaaebeiigkhcjaaGreatDoor
