/-
 What elements makes of lists, and of t. Conditions: the heap lies there as HeapAt says.
-/
import Derived.Test.YtaaebeiigkhcjaaGreatDoorHka
namespace Go.Proofs.YtaaebeiigkhcjaaGreatDoor
set_option maxRecDepth 100000
section
variable {h : Nat} {m : HM} {σ0 : Mem}
set_option maxHeartbeats 2000000 in
theorem elems_nil {c : Nat → Wd} (hx : c 0 = (1, 0)) (hp : Chain m c []) (hlo : 0 < m.limit) : Elems G66 h m (1, 0) [] := by
 intro σ0 hG ha hN
 obtain ⟨tN, gN, hN⟩ := hN
 have hn : ([] : List Wd).length ≤ 65536 := by decide
 have H := Lies.start hG ha
 generalize σ0.get = F at H hN ⊢
 refine WC.enter (fn := Tryz.f61) Tryz.func61 rfl ?_
 refine W.rg [(0, pp h), (1, .agg #[.int .i64 1, .int .i64 0])] fun TA => ?_
 refine W.seq ?_
 refine W.region ?_
 refine RW.mk H (.row ⟨[.int .i64 1, .int .i64 0], 27, false⟩) ?_
 clear H; intro _ b1 _ H
 refine RW.v ?_
 refine RW.v ?_
 refine RW.nil ?_
 refine W.rg [(0, pp h), (3, pp b1)] fun TA => ?_
 refine W.seq ?_
 refine W.seq ?_
 refine W.region ?_
 refine RW.ld H 0 2 ?_
 refine RW.loads 2 (by kernel_rfl) (by kernel_rfl) rfl rfl (H.old _ _ hN) rfl rfl (by kernel_rfl) ?_
 refine RW.vop (v := .bool false) (by kernel_rfl) (by kernel_rfl) (vop_eqS (b := true) (r := false) rfl (.inr ⟨rfl, rfl⟩) rfl rfl rfl rfl (by kernel_rfl) (fun w => (eqWd _ _ _ _ w).trans (by simp))) (by kernel_rfl) ?_
 refine RW.v ?_
 refine RW.skip (by rfl) (by kernel_rfl) ?_
 refine RW.skip (by rfl) (by kernel_rfl) ?_
 refine RW.skip (by rfl) (by kernel_rfl) ?_
 refine RW.skip (by rfl) (by kernel_rfl) ?_
 refine RW.v ?_
 refine RW.nil ?_
 refine W.c0 ?_
 refine W.skip ?_
 refine W.seq ?_
 refine W.seq ?_
 refine W.region ?_
 refine RW.v ?_
 refine RW.ld H 0 2 ?_
 refine RW.cl ?_
 refine ⟨_, _, (carN_call (G := G66) H.abs), ?_⟩
 refine RW.v ?_
 refine RW.v ?_
 refine RW.v ?_
 refine RW.mk H (.row ⟨[.int .i64 0, .int .i64 0], 27, false⟩) ?_
 clear H; intro _ b2 _ H
 refine RW.st H 0 [.int .i64 1, .int .i64 0] [.int .i64 1, .int .i64 0] ?_
 clear H; intro _ _ H
 dsimp only [setL, delL] at H
 refine RW.v ?_
 refine RW.nil ?_
 refine W.rg [(0, pp h), (3, pp b1), (6, pp b2)] fun TA => ?_
 refine W.seq ?_
 refine W.region ?_
 refine RW.v ?_
 refine RW.ld H 0 1 ?_
 refine RW.v ?_
 refine RW.v ?_
 refine RW.val (by rfl) (by kernel_rfl) rfl (by kernel_rfl) ?_
 refine RW.ldL H 0 1 (by rfl) (by kernel_rfl) rfl rfl rfl rfl rfl (by kernel_rfl) ?_
 refine RW.val (by rfl) (by kernel_rfl) rfl (by kernel_rfl) ?_
 refine RW.val (by rfl) (by kernel_rfl) rfl (by kernel_rfl) ?_
 refine RW.val (by rfl) (by kernel_rfl) rfl (by kernel_rfl) ?_
 refine RW.ldL H 0 1 (by rfl) (by kernel_rfl) rfl rfl rfl rfl rfl (by kernel_rfl) ?_
 refine RW.val (by rfl) (by kernel_rfl) rfl (by kernel_rfl) ?_
 refine RW.val (by rfl) (by kernel_rfl) rfl (by kernel_rfl) ?_
 refine RW.v ?_
 refine RW.nil ?_
 replace H := (H.del 0)
 dsimp only [setL, delL] at H
 refine W.c0 ?_
 refine W.skip ?_
 refine W.seq ?_
 refine W.region ?_
 refine RW.v ?_
 refine RW.ld H 0 2 ?_
 refine RW.cl ?_
 refine ((slice_k (G := G66) (h := h) (m := m) hx H.gn H.abs hlo hp hn).mono ?_)
 rintro _ _ ⟨sl, rfl, K⟩
 replace H := H.then K
 clear K
 dsimp only [List.nil_append, List.cons_append] at H
 refine RW.v ?_
 refine RW.v ?_
 refine RW.v ?_
 refine RW.v ?_
 refine RW.nil ?_
 replace H := (H.del 1)
 dsimp only [setL, delL] at H
 refine W.ret ?_
 refine endG (by rfl) (by exact resL_tmp (by exact resL_tmp rfl)) ?_
 exact ⟨_, rfl, _, H, fun A2 F2 σ2 L2 H2 => H2.freezeSl 0 rfl⟩
set_option maxHeartbeats 2000000 in
theorem elems_cons {c : Nat → Wd} {x0 : Wd} {l : List Wd} {k : Int} {d : Wd} (hx : c 0 = (2, k)) (hp : Chain m c (x0 :: l)) (hd : m.find (2, k) = some (.pair x0 d)) (hlo : 0 < m.limit) (hn : (x0 :: l).length ≤ 65536) (hfine : Fine x0) : Elems G66 h m (2, k) (x0 :: l) := by
 intro σ0 hG ha hN
 obtain ⟨tN, gN, hN⟩ := hN
 have H := Lies.start hG ha
 generalize σ0.get = F at H hN ⊢
 refine WC.enter (fn := Tryz.f61) Tryz.func61 rfl ?_
 refine W.rg [(0, pp h), (1, .agg #[.int .i64 2, .int .i64 k])] fun TA => ?_
 refine W.seq ?_
 refine W.region ?_
 refine RW.mk H (.row ⟨[.int .i64 2, .int .i64 k], 27, false⟩) ?_
 clear H; intro _ b1 _ H
 refine RW.v ?_
 refine RW.v ?_
 refine RW.nil ?_
 refine W.rg [(0, pp h), (3, pp b1)] fun TA => ?_
 refine W.seq ?_
 refine W.seq ?_
 refine W.region ?_
 refine RW.ld H 0 2 ?_
 refine RW.loads 2 (by kernel_rfl) (by kernel_rfl) rfl rfl (H.old _ _ hN) rfl rfl (by kernel_rfl) ?_
 refine RW.vop (v := .bool true) (by kernel_rfl) (by kernel_rfl) (vop_eqS (b := false) (r := true) rfl (.inr ⟨rfl, rfl⟩) rfl rfl rfl rfl (by kernel_rfl) (fun w => (eqWd _ _ _ _ w).trans (by simp))) (by kernel_rfl) ?_
 refine RW.v ?_
 refine RW.val (by rfl) (by kernel_rfl) rfl (by kernel_rfl) ?_
 refine RW.ldL H 0 2 (by rfl) (by kernel_rfl) rfl rfl rfl rfl rfl (by kernel_rfl) ?_
 refine RW.cl (hw := by rfl) ?_
 refine WC.enter (fn := Tryz.f85) Tryz.func85 rfl ?_
 refine W.rg [(0, pp h), (1, .agg #[.int .i64 2, .int .i64 k])] fun TA => ?_
 refine W.seq ?_
 refine W.region ?_
 refine RW.mk H (.row ⟨[.int .i64 2, .int .i64 k], 27, false⟩) ?_
 clear H; intro _ b2 _ H
 refine RW.v ?_
 refine RW.nil ?_
 refine W.rg [(0, pp h), (3, pp b2)] fun TA => ?_
 refine W.seq ?_
 refine W.region ?_
 refine RW.v ?_
 refine RW.ld H 0 1 ?_
 refine RW.v ?_
 refine RW.v ?_
 refine RW.val (by rfl) (by kernel_rfl) rfl (by kernel_rfl) ?_
 refine RW.ldL H 0 2 (by rfl) (by kernel_rfl) rfl rfl rfl rfl rfl (by kernel_rfl) ?_
 refine RW.cl (hw := by rfl) ?_
 refine ⟨_, _, (liveY_call (G := G66) H.abs hd), ?_⟩
 refine RW.v ?_
 refine RW.v ?_
 refine RW.nil ?_
 replace H := (H.del 0)
 dsimp only [setL, delL] at H
 refine W.ret ?_
 refine endG (by rfl) (by exact resL_tmp rfl) ?_
 refine RW.val (by rfl) (by kernel_rfl) rfl (by kernel_rfl) ?_
 refine RW.v ?_
 refine RW.nil ?_
 refine W.c0 ?_
 refine W.skip ?_
 refine W.seq ?_
 refine W.seq ?_
 refine W.region ?_
 refine RW.v ?_
 refine RW.ld H 0 2 ?_
 refine RW.cl ?_
 refine ⟨_, _, (carY_call (G := G66) H.abs hd), ?_⟩
 refine RW.v ?_
 refine RW.v ?_
 refine RW.v ?_
 refine RW.mk H (.row ⟨[.int .i64 0, .int .i64 0], 27, false⟩) ?_
 clear H; intro _ b3 _ H
 refine RW.st H 0 [.int .i64 x0.1, .int .i64 x0.2] [.int .i64 x0.1, .int .i64 x0.2] ?_
 clear H; intro _ _ H
 dsimp only [setL, delL] at H
 refine RW.v ?_
 refine RW.nil ?_
 refine W.rg [(0, pp h), (3, pp b1), (6, pp b3)] fun TA => ?_
 refine W.seq ?_
 refine W.region ?_
 refine RW.v ?_
 refine RW.ld H 0 1 ?_
 refine RW.v ?_
 refine RW.v ?_
 refine RW.both _ _ rfl rfl rfl (fun hc4 => ?_) (fun hc4 => ?_)
 ·have hc4b := hc4
  have hc4 := eq_of_beq hc4
  refine RW.val (by rfl) (by kernel_rfl) rfl (by kernel_rfl) ?_
  refine RW.ldL H 0 1 (by rfl) (by kernel_rfl) rfl rfl rfl rfl rfl (by kernel_rfl) ?_
  refine RW.val (by rfl) (by kernel_rfl) rfl (by kernel_rfl) ?_
  refine RW.val (by rfl) (by kernel_rfl) rfl (by kernel_rfl) ?_
  refine RW.both _ _ rfl rfl rfl (fun hc5 => ?_) (fun hc5 => ?_)
  ·have hc5b := hc5
   have hc5 := eq_of_beq hc5
   exact absurd hc5 (hfine (by assumption)).1
  ·have hc5b := hc5
   have hc5 := ne_of_beq_false hc5
   refine RW.val (by rfl) (by kernel_rfl) rfl (by kernel_rfl) ?_
   refine RW.ldL H 0 1 (by rfl) (by kernel_rfl) rfl rfl rfl rfl rfl (by kernel_rfl) ?_
   refine RW.val (by rfl) (by kernel_rfl) rfl (by kernel_rfl) ?_
   refine RW.val (by rfl) (by kernel_rfl) rfl (by kernel_rfl) ?_
   refine RW.v ?_
   refine RW.nil ?_
   replace H := (H.del 0)
   dsimp only [setL, delL] at H
   refine W.rg [(0, pp h), (3, pp b1), (37, .bool (x0.2 == 8))] fun TA => ?_
   refine W.cond rfl (fun hc6 => ?_) (fun hc6 => ?_)
   ·have hc6b := hc6
    have hc6 := eq_of_beq hc6
    exact absurd hc6 (hfine (by assumption)).2
   ·have hc6b := hc6
    have hc6 := ne_of_beq_false hc6
    refine W.skip ?_
    refine W.seq ?_
    refine W.region ?_
    refine RW.v ?_
    refine RW.ld H 0 2 ?_
    refine RW.cl ?_
    refine ((slice_k (G := G66) (h := h) (m := m) hx H.gn H.abs hlo hp hn).mono ?_)
    rintro _ _ ⟨sl, rfl, K⟩
    replace H := H.then K
    clear K
    dsimp only [List.nil_append, List.cons_append] at H
    refine RW.v ?_
    refine RW.v ?_
    refine RW.v ?_
    refine RW.v ?_
    refine RW.nil ?_
    replace H := (H.del 1)
    dsimp only [setL, delL] at H
    refine W.ret ?_
    refine endG (by rfl) (by exact resL_tmp (by exact resL_tmp rfl)) ?_
    exact ⟨_, rfl, _, H, fun A2 F2 σ2 L2 H2 => H2.freezeSl 0 rfl⟩
 ·have hc4b := hc4
  have hc4 := ne_of_beq_false hc4
  refine RW.skip (by rfl) (by kernel_rfl) ?_
  refine RW.skip (by rfl) (by kernel_rfl) ?_
  refine RW.skip (by rfl) (by kernel_rfl) ?_
  refine RW.skip (by rfl) (by kernel_rfl) ?_
  refine RW.skip (by rfl) (by kernel_rfl) ?_
  refine RW.skip (by rfl) (by kernel_rfl) ?_
  refine RW.skip (by rfl) (by kernel_rfl) ?_
  refine RW.skip (by rfl) (by kernel_rfl) ?_
  refine RW.v ?_
  refine RW.nil ?_
  replace H := (H.del 0)
  dsimp only [setL, delL] at H
  refine W.c0 ?_
  refine W.skip ?_
  refine W.seq ?_
  refine W.region ?_
  refine RW.v ?_
  refine RW.ld H 0 2 ?_
  refine RW.cl ?_
  refine ((slice_k (G := G66) (h := h) (m := m) hx H.gn H.abs hlo hp hn).mono ?_)
  rintro _ _ ⟨sl, rfl, K⟩
  replace H := H.then K
  clear K
  dsimp only [List.nil_append, List.cons_append] at H
  refine RW.v ?_
  refine RW.v ?_
  refine RW.v ?_
  refine RW.v ?_
  refine RW.nil ?_
  replace H := (H.del 1)
  dsimp only [setL, delL] at H
  refine W.ret ?_
  refine endG (by rfl) (by exact resL_tmp (by exact resL_tmp rfl)) ?_
  exact ⟨_, rfl, _, H, fun A2 F2 σ2 L2 H2 => H2.freezeSl 0 rfl⟩
theorem elems_list {c : Nat → Wd} {ws : List Wd} {w : Wd} (hx : c 0 = w) (hp : Chain m c ws) (hlo : 0 < m.limit) (hn : ws.length ≤ 65536) (hf : ∀ x ∈ ws, Fine x) : Elems G66 h m w ws := by
 subst hx
 cases ws with
 | nil =>
  have h0 : c 0 = (1, 0) := hp.1
  rw [h0]
  exact elems_nil h0 hp hlo
 | cons x0 l =>
  have h0 := hp.2 0 (by simp)
  have h1 := hp.2.kind (j := 0) (by simp)
  obtain ⟨k, hk⟩ : ∃ k, c 0 = (2, k) := ⟨(c 0).2, Prod.ext h1 rfl⟩
  rw [hk] at h0 ⊢
  exact elems_cons hk hp h0 hlo hn (hf x0 (by simp))
set_option maxHeartbeats 2000000 in
theorem elems_T (_hlo : 0 < m.limit) : Elems G66 h m (1, 1) [(1, 1)] := by
 intro σ0 hG ha hN
 obtain ⟨tN, gN, hN⟩ := hN
 have H := Lies.start hG ha
 generalize σ0.get = F at H hN ⊢
 refine WC.enter (fn := Tryz.f61) Tryz.func61 rfl ?_
 refine W.rg [(0, pp h), (1, .agg #[.int .i64 1, .int .i64 1])] fun TA => ?_
 refine W.seq ?_
 refine W.region ?_
 refine RW.mk H (.row ⟨[.int .i64 1, .int .i64 1], 27, false⟩) ?_
 clear H; intro _ b1 _ H
 refine RW.v ?_
 refine RW.v ?_
 refine RW.nil ?_
 refine W.rg [(0, pp h), (3, pp b1)] fun TA => ?_
 refine W.seq ?_
 refine W.seq ?_
 refine W.region ?_
 refine RW.ld H 0 2 ?_
 refine RW.loads 2 (by kernel_rfl) (by kernel_rfl) rfl rfl (H.old _ _ hN) rfl rfl (by kernel_rfl) ?_
 refine RW.vop (v := .bool true) (by kernel_rfl) (by kernel_rfl) (vop_eqS (b := false) (r := true) rfl (.inr ⟨rfl, rfl⟩) rfl rfl rfl rfl (by kernel_rfl) (fun w => (eqWd _ _ _ _ w).trans (by simp))) (by kernel_rfl) ?_
 refine RW.v ?_
 refine RW.val (by rfl) (by kernel_rfl) rfl (by kernel_rfl) ?_
 refine RW.ldL H 0 2 (by rfl) (by kernel_rfl) rfl rfl rfl rfl rfl (by kernel_rfl) ?_
 refine RW.cl (hw := by rfl) ?_
 refine WC.enter (fn := Tryz.f85) Tryz.func85 rfl ?_
 refine W.rg [(0, pp h), (1, .agg #[.int .i64 1, .int .i64 1])] fun TA => ?_
 refine W.seq ?_
 refine W.region ?_
 refine RW.mk H (.row ⟨[.int .i64 1, .int .i64 1], 27, false⟩) ?_
 clear H; intro _ b2 _ H
 refine RW.v ?_
 refine RW.nil ?_
 refine W.rg [(0, pp h), (3, pp b2)] fun TA => ?_
 refine W.seq ?_
 refine W.region ?_
 refine RW.v ?_
 refine RW.ld H 0 1 ?_
 refine RW.v ?_
 refine RW.v ?_
 refine RW.skip (by rfl) (by kernel_rfl) ?_
 refine RW.skip (by rfl) (by kernel_rfl) ?_
 refine RW.skip (by rfl) (by kernel_rfl) ?_
 refine RW.v ?_
 refine RW.v ?_
 refine RW.nil ?_
 replace H := (H.del 0)
 dsimp only [setL, delL] at H
 refine W.ret ?_
 refine endG (by rfl) (by exact resL_tmp rfl) ?_
 refine RW.val (by rfl) (by kernel_rfl) rfl (by kernel_rfl) ?_
 refine RW.v ?_
 refine RW.nil ?_
 refine W.c1 ?_
 refine W.seq ?_
 refine W.region ?_
 refine RW.ld H 0 2 ?_
 refine RW.mkL H (x := .row ⟨[.int .i64 1, .int .i64 1], 27, false⟩) (fm := fun b => .slice (some ⟨b, 0, none⟩) 1 1) (by kernel_rfl) (by kernel_rfl) (by kernel_rfl) (by kernel_rfl) ?_
 clear H; intro _ b3 _ H
 refine RW.v ?_
 refine RW.v ?_
 refine RW.nil ?_
 replace H := (H.del 1)
 dsimp only [setL, delL] at H
 refine W.ret ?_
 refine seqQ_ret ?_
 refine endG (by rfl) (by exact resL_tmp (by exact resL_tmp rfl)) ?_
 exact ⟨_, rfl, _, H, fun A2 F2 σ2 L2 H2 => by obtain ⟨F', h1, h2, h3⟩ := H2.freeze 0 rfl; exact ⟨F', h1, .some h2 rfl rfl, h3⟩⟩
end
end Go.Proofs.YtaaebeiigkhcjaaGreatDoor
