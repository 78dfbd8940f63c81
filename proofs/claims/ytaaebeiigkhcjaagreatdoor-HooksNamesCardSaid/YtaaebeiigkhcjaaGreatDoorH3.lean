/-
 Calls of hooks on given words; an improper list. Conditions: the heap lies there as HeapAt says.
 HooksNames in the second memory. Conditions: the heap lies there as HeapAt says.
 HooksNames answers true in every world. Conditions: the variables null and tee lie as laid.
-/
import Derived.Test.YtaaebeiigkhcjaaGreatDoorB2
import Derived.Test.YtaaebeiigkhcjaaGreatDoorS3
namespace Go.Proofs.YtaaebeiigkhcjaaGreatDoor
set_option maxRecDepth 100000
theorem good_atom {m : HM} {w : Wd} {c : Int} (g : Good m w) (h : keyW m w = (1, c)) : w = (1, c) := by
 cases g with
 | atom h0 => rwa [keyW_atom h0] at h
 | lam h1 h2 => rw [keyW_lam h1 h2] at h; cases h
theorem good_lam {m : HM} {w : Wd} {c : Int} (g : Good m w) (h : keyW m w = (2, c)) : ∃ i j, w = (2, i) ∧ m.find (2, i) = some (.pair (1, 7) (2, j)) ∧ m.find (2, j) = some (.pair (0, c) (1, 0)) := by
 cases g with
 | atom h0 => rw [keyW_atom h0] at h; rw [h] at h0; rcases h0 with h0 | h0 <;> cases h0
 | @lam i j k h1 h2 =>
  rw [keyW_lam h1 h2] at h
  cases h
  exact ⟨i, j, rfl, h1, h2⟩
section
variable {h : Nat} {m : HM} {σ0 : Mem}
theorem word5_wc (hG : G66 ≤ σ0.next) (ha : σ0.abs = heapAbs h m) (hf : m.free = []) (hr : m.many + 2 ≤ m.limit) (hlim : m.limit ≤ 65536) :
  WC G66 Tryz.prog 10 #[pp h, .int .i64 5] σ0 fun v σ' => ∃ m' i j, v = wdV (2, i) ∧ ExtH m m' 2 ∧ m'.find (2, i) = some (.pair (1, 7) (2, j)) ∧ m'.find (2, j) = some (.pair (0, 5) (1, 0)) ∧ Lies G66 (heapAbs h m') σ0.get σ' [] := by
 refine (word3_wc 5 hG ha hf hr hlim (by decide) (by decide)).mono fun v σ' ⟨m', w, e, E, _, g, kw, K⟩ => ?_
 obtain ⟨i, j, rfl, h1, h2⟩ := good_lam (c := 5) g (kw.trans (by decide))
 exact ⟨m', i, j, e, E, h1, h2, K⟩
theorem word2s_wc (hG : G66 ≤ σ0.next) (ha : σ0.abs = heapAbs h m) (hf : m.free = []) (hr : m.many + 2 ≤ m.limit) (hlim : m.limit ≤ 65536) :
  WC G66 Tryz.prog 10 #[pp h, .int .i64 2] σ0 fun v σ' => ∃ m', v = wdV (1, 70) ∧ ExtH m m' 2 ∧ Lies G66 (heapAbs h m') σ0.get σ' [] := by
 refine (word3_wc 2 hG ha hf hr hlim (by decide) (by decide)).mono fun v σ' ⟨m', w, e, E, _, g, kw, K⟩ => ?_
 obtain rfl := good_atom (c := 70) g (kw.trans (by decide))
 exact ⟨m', e, E, K⟩
theorem add0_wc {vw f : Wd} {ws : List Wd} (hG : G66 ≤ σ0.next) (ha : σ0.abs = heapAbs h m) (hlo : 0 < m.limit) (hN : GNull σ0.get) (E : ElemR m vw ws) (hw12 : ws.length ≤ 12) (gf : Good m f) (hf0 : (f.1 == 1 && f.2 == 0) = false) (gws : ∀ y ∈ ws, Good m y) (hF : hasW m f ws = false) (hf : m.free = []) (hr : m.many + ws.length + 3 ≤ m.limit) (hlim : m.limit ≤ 65536) :
  WC G66 Tryz.prog 11 #[pp h, wdV vw, wdV (1, 0), wdV f, .int .i64 0] σ0 fun r σ' => r = .tuple #[wdV (built m (f :: ws) (1, 0)).2, wdV (1, 0), .int .i64 0] ∧ Lies G66 (heapAbs h (built m (f :: ws) (1, 0)).1) σ0.get σ' [] := by
 refine (addJ (es := []) (fs := []) (c := fun _ => (1, 0)) (p := (1, 0)) hG ha hlo hN (E.elems hlo (by omega)) rfl ⟨rfl, fun j hj => absurd hj (Nat.not_lt_zero _)⟩ (by decide) hw12 gf hf0 gws hF rfl (fun _ h => by cases h) hf hr hlim (by decide) (by decide)).mono fun r σ' ⟨ys, hys, hh⟩ => ?_
 have e : ys = (f, (0 : Int)) :: ws.map (rkOf m []) := by
  refine stab_unique hys.sorted ?_ hys.same
  unfold SortedR
  rw [List.pairwise_cons, List.pairwise_map]
  refine ⟨fun a ha => ?_, List.pairwise_of_forall fun a b => Int.le_refl _⟩
  obtain ⟨z, _, rfl⟩ := List.mem_map.1 ha
  exact Int.le_refl _
 have e2 : ys.map Prod.fst = f :: ws := by
  rw [e, List.map_cons, List.map_map]
  exact congrArg (f :: ·) (List.map_id _)
 rw [e2] at hh
 rcases hh with ⟨_, k⟩ | ⟨k, _⟩
 ·exact k
 ·exact absurd rfl k
theorem removeL {vw p f : Wd} {ws es : List Wd} (hG : G66 ≤ σ0.next) (ha : σ0.abs = heapAbs h m) (hlo : 0 < m.limit) (hN : GNull σ0.get) (E : ListR m vw ws) (Q : ListR m p es) (hn : es.length ≤ 65536) (hnw : ws.length ≤ 65536) (gf : Good m f) (gws : ∀ y ∈ ws, Fine y ∧ Good m y) (hes : ∀ y ∈ es, DepE m y) (hf : m.free = []) (hr : m.many + ws.length + es.length ≤ m.limit) (hlim : m.limit ≤ 65536) :
  WC G66 Tryz.prog 13 #[pp h, wdV vw, wdV p, wdV f] σ0 fun r σ' => ∃ m' y q, r = .tuple #[wdV y, wdV q, .int .i64 0] ∧ ExtH m m' (ws.length + es.length) ∧ ListR m' y (ws.filter fun y => !decide (keyW m f = keyW m y)) ∧ ListR m' q (es.filter fun y => !selE m f y) ∧ Lies G66 (heapAbs h m') σ0.get σ' [] := by
 obtain ⟨c, hx, hp⟩ := Q
 have E1 := E.elem fun y hy => (gws y hy).1
 refine (remove_wc hG ha hlo hN (E1.elems hlo hnw) E1.nil hx hp hn hnw gf (fun y hy => (gws y hy).2) hes hf hr hlim).mono fun r σ' ⟨e, K⟩ => ?_
 have X1 := ext_remP (m := m) (w := vw) (ws := ws) (xs := ws.filter fun y => !decide (keyW m f = keyW m y)) hf
 have X2 := ext_remP (m := (remP m vw ws (ws.filter fun y => !decide (keyW m f = keyW m y))).1) (w := p) (ws := es) (xs := es.filter fun y => !selE m f y) X1.free
 exact ⟨_, _, _, e, X1.trans X2, (remP_list E).mono X2.finds, remP_list ⟨c, hx, hp.mono X1.finds⟩, K⟩
theorem ListR.nil_eq {w : Wd} (h : ListR m w []) : w = (1, 0) := by
 obtain ⟨c, h1, h2⟩ := h
 exact h1.symm.trans h2.1
set_option maxHeartbeats 4000000 in
theorem add_null0 (hG : G66 ≤ σ0.next) (ha : σ0.abs = heapAbs h m) (hlo : 0 < m.limit) (hN : GNull σ0.get) :
  WC G66 Tryz.prog 11 #[pp h, wdV (1, 0), wdV (1, 0), wdV (1, 0), .int .i64 0] σ0 fun r σ' => r = .tuple #[.agg #[.int .i64 0, .int .i64 0], .agg #[.int .i64 0, .int .i64 0], .int .i64 6] ∧ Lies G66 (heapAbs h m) σ0.get σ' [] := by
 obtain ⟨tN, gN, hN⟩ := hN
 have H := Lies.start hG ha
 generalize σ0.get = F at H hN ⊢
 refine WC.enter (fn := Tryz.f11) Tryz.func11 rfl ?_
 refine W.rg [(0, pp h), (1, .agg #[.int .i64 1, .int .i64 0]), (2, .agg #[.int .i64 1, .int .i64 0]), (3, .agg #[.int .i64 1, .int .i64 0]), (4, .int .i64 0)] fun TA => ?_
 refine W.seq (W.region ?_)
 refine RW.mk H (.row ⟨[.int .i64 1, .int .i64 0], 27, false⟩) ?_
 clear H; intro _ b1 _ H
 refine RW.mk H (.row ⟨[.int .i64 1, .int .i64 0], 27, false⟩) ?_
 clear H; intro _ b2 _ H
 refine RW.mk H (.row ⟨[.int .i64 1, .int .i64 0], 27, false⟩) ?_
 clear H; intro _ b3 _ H
 refine RW.mk H (.row ⟨[.int .i64 0, .int .i64 0], 27, false⟩) ?_
 clear H; intro _ b4 _ H
 refine RW.mk H (.row ⟨[.int .i64 0, .int .i64 0], 27, false⟩) ?_
 clear H; intro _ b5 _ H
 refine RW.v ?_
 refine RW.nil ?_
 refine W.rg [(0, pp h), (4, .int .i64 0), (6, pp b1), (7, pp b2), (8, pp b3), (10, pp b4), (11, pp b5)] fun TA => ?_
 refine W.seq (W.region ?_)
 refine RW.v ?_
 refine RW.nil ?_
 refine W.rg [(0, pp h), (4, .int .i64 0), (6, pp b1), (7, pp b2), (8, pp b3), (10, pp b4), (11, pp b5), (13, .func (.func 40) #[] #[])] fun TA => ?_
 refine W.seq ?_
 refine W.block ?_
 refine W.seq (W.region ?_)
 refine RW.v ?_
 refine RW.cl ?_
 refine WC.enter (fn := Tryz.f41) Tryz.func41 rfl ?_
 refine W.rg [(0, pp h)] fun TA => ?_
 refine W.seq (W.region ?_)
 refine RW.v ?_
 refine RW.nil ?_
 refine W.rg [(0, pp h)] fun TA => ?_
 refine W.seq (W.region ?_)
 refine RW.v ?_
 refine RW.cl ?_
 refine ⟨_, _, (s_limit (G := G66) H.abs), ?_⟩
 refine RW.valE (v' := .bool true) (by kernel_rfl) (by kernel_rfl) rfl (congrArg Value.bool (decide_eq_true (by omega))) (by kernel_rfl) ?_
 refine RW.v ?_
 refine RW.nil ?_
 refine W.ret ?_
 refine endG (by rfl) (by exact resL_tmp rfl) ?_
 iterate 2 refine RW.v ?_
 refine RW.nil ?_
 refine W.c0 ?_
 refine W.seq (W.region ?_)
 iterate 3 refine RW.v ?_
 refine RW.val (by rfl) (by kernel_rfl) rfl (by kernel_rfl) ?_
 refine RW.val (by rfl) (by kernel_rfl) rfl (by kernel_rfl) ?_
 iterate 2 refine RW.v ?_
 refine RW.nil ?_
 refine W.c0 ?_
 refine W.seq (W.region ?_)
 refine RW.ld H 2 2 ?_
 refine RW.loads 2 (by kernel_rfl) (by kernel_rfl) rfl rfl (H.old _ _ hN) rfl rfl (by kernel_rfl) ?_
 refine RW.vop (v := .bool true) (by kernel_rfl) (by kernel_rfl) (vop_eqS (b := true) (r := true) rfl (.inl ⟨rfl, rfl⟩) rfl rfl rfl rfl (by kernel_rfl) (fun w => (eqWd _ _ _ _ w).trans (by simp))) (by kernel_rfl) ?_
 refine RW.v ?_
 refine RW.nil ?_
 refine W.c1 ?_
 refine W.seq (W.region ?_)
 refine RW.v ?_
 refine RW.cl ?_
 refine WC.enter (fn := Tryz.f40) Tryz.func40 rfl ?_
 refine W.rg [(0, .int .i64 6)] fun TA => ?_
 refine W.seq (W.region ?_)
 refine RW.mk H (.row ⟨[.int .i64 0, .int .i64 0], 27, false⟩) ?_
 clear H; intro _ b6 _ H
 refine RW.mk H (.row ⟨[.int .i64 0, .int .i64 0], 27, false⟩) ?_
 clear H; intro _ b7 _ H
 refine RW.v ?_
 refine RW.nil ?_
 refine W.rg [(0, .int .i64 6), (2, pp b6), (3, pp b7)] fun TA => ?_
 refine W.seq (W.region ?_)
 refine RW.val (v := .agg #[.int .i64 0, .int .i64 0]) (by kernel_rfl) (by kernel_rfl) (by kernel_rfl) (by kernel_rfl) ?_
 refine RW.val (v := .agg #[.int .i64 0, .int .i64 0]) (by kernel_rfl) (by kernel_rfl) (by kernel_rfl) (by kernel_rfl) ?_
 refine RW.v ?_
 refine RW.st H 1 [.int .i64 0, .int .i64 0] [.int .i64 0, .int .i64 0] ?_
 clear H; intro _ _ H; dsimp only [setL, delL] at H
 refine RW.st H 0 [.int .i64 0, .int .i64 0] [.int .i64 0, .int .i64 0] ?_
 clear H; intro _ _ H; dsimp only [setL, delL] at H
 refine RW.v ?_
 refine RW.nil ?_
 refine W.ret ?_
 refine endG (by rfl) (by exact resL_cell rfl (H.get 1 rfl) (by rw [uT_eq]; exact Tryz.underlying27) (by kernel_rfl) rfl rfl (by exact resL_cell rfl (H.get 0 rfl) (by rw [uT_eq]; exact Tryz.underlying27) (by kernel_rfl) rfl rfl (by exact resL_tmp rfl))) ?_
 iterate 3 refine RW.v ?_
 refine RW.st H 3 [.int .i64 0, .int .i64 0] [.int .i64 0, .int .i64 0] ?_
 clear H; intro _ _ H; dsimp only [setL, delL] at H
 refine RW.st H 2 [.int .i64 0, .int .i64 0] [.int .i64 0, .int .i64 0] ?_
 clear H; intro _ _ H; dsimp only [setL, delL] at H
 refine RW.v ?_
 refine RW.nil ?_
 replace H := (((((H.del 6).del 5).del 4).del 1).del 0)
 dsimp only [setL, delL] at H
 refine W.ret ?_
 refine blkQ_ret ?_
 refine seqQ_ret ?_
 refine endG (by rfl) (by exact resL_cell rfl (H.get 1 rfl) (by rw [uT_eq]; exact Tryz.underlying27) (by kernel_rfl) rfl rfl (by exact resL_cell rfl (H.get 0 rfl) (by rw [uT_eq]; exact Tryz.underlying27) (by kernel_rfl) rfl rfl (by exact resL_tmp rfl))) ?_
 exact ⟨rfl, ((H.del 1).del 0)⟩
set_option maxHeartbeats 4000000 in
theorem add_high0 {f : Wd} (hG : G66 ≤ σ0.next) (ha : σ0.abs = heapAbs h m) (hlo : 0 < m.limit) (hN : GNull σ0.get) :
  WC G66 Tryz.prog 11 #[pp h, wdV (1, 0), wdV (1, 0), wdV f, .int .i64 101] σ0 fun r σ' => r = .tuple #[.agg #[.int .i64 0, .int .i64 0], .agg #[.int .i64 0, .int .i64 0], .int .i64 2] ∧ Lies G66 (heapAbs h m) σ0.get σ' [] := by
 obtain ⟨tN, gN, hN⟩ := hN
 have H := Lies.start hG ha
 generalize σ0.get = F at H hN ⊢
 refine WC.enter (fn := Tryz.f11) Tryz.func11 rfl ?_
 refine W.rg [(0, pp h), (1, .agg #[.int .i64 1, .int .i64 0]), (2, .agg #[.int .i64 1, .int .i64 0]), (3, .agg #[.int .i64 f.1, .int .i64 f.2]), (4, .int .i64 101)] fun TA => ?_
 refine W.seq (W.region ?_)
 refine RW.mk H (.row ⟨[.int .i64 1, .int .i64 0], 27, false⟩) ?_
 clear H; intro _ b1 _ H
 refine RW.mk H (.row ⟨[.int .i64 1, .int .i64 0], 27, false⟩) ?_
 clear H; intro _ b2 _ H
 refine RW.mk H (.row ⟨[.int .i64 f.1, .int .i64 f.2], 27, false⟩) ?_
 clear H; intro _ b3 _ H
 refine RW.mk H (.row ⟨[.int .i64 0, .int .i64 0], 27, false⟩) ?_
 clear H; intro _ b4 _ H
 refine RW.mk H (.row ⟨[.int .i64 0, .int .i64 0], 27, false⟩) ?_
 clear H; intro _ b5 _ H
 refine RW.v ?_
 refine RW.nil ?_
 refine W.rg [(0, pp h), (4, .int .i64 101), (6, pp b1), (7, pp b2), (8, pp b3), (10, pp b4), (11, pp b5)] fun TA => ?_
 refine W.seq (W.region ?_)
 refine RW.v ?_
 refine RW.nil ?_
 refine W.rg [(0, pp h), (4, .int .i64 101), (6, pp b1), (7, pp b2), (8, pp b3), (10, pp b4), (11, pp b5), (13, .func (.func 40) #[] #[])] fun TA => ?_
 refine W.seq ?_
 refine W.block ?_
 refine W.seq (W.region ?_)
 refine RW.v ?_
 refine RW.cl ?_
 refine WC.enter (fn := Tryz.f41) Tryz.func41 rfl ?_
 refine W.rg [(0, pp h)] fun TA => ?_
 refine W.seq (W.region ?_)
 refine RW.v ?_
 refine RW.nil ?_
 refine W.rg [(0, pp h)] fun TA => ?_
 refine W.seq (W.region ?_)
 refine RW.v ?_
 refine RW.cl ?_
 refine ⟨_, _, (s_limit (G := G66) H.abs), ?_⟩
 refine RW.valE (v' := .bool true) (by kernel_rfl) (by kernel_rfl) rfl (congrArg Value.bool (decide_eq_true (by omega))) (by kernel_rfl) ?_
 refine RW.v ?_
 refine RW.nil ?_
 refine W.ret ?_
 refine endG (by rfl) (by exact resL_tmp rfl) ?_
 iterate 2 refine RW.v ?_
 refine RW.nil ?_
 refine W.c0 ?_
 refine W.seq (W.region ?_)
 iterate 3 refine RW.v ?_
 refine RW.val (by rfl) (by kernel_rfl) rfl (by kernel_rfl) ?_
 refine RW.val (by rfl) (by kernel_rfl) rfl (by kernel_rfl) ?_
 iterate 2 refine RW.v ?_
 refine RW.nil ?_
 refine W.c1 ?_
 refine W.seq (W.region ?_)
 refine RW.v ?_
 refine RW.cl ?_
 refine WC.enter (fn := Tryz.f40) Tryz.func40 rfl ?_
 refine W.rg [(0, .int .i64 2)] fun TA => ?_
 refine W.seq (W.region ?_)
 refine RW.mk H (.row ⟨[.int .i64 0, .int .i64 0], 27, false⟩) ?_
 clear H; intro _ b6 _ H
 refine RW.mk H (.row ⟨[.int .i64 0, .int .i64 0], 27, false⟩) ?_
 clear H; intro _ b7 _ H
 refine RW.v ?_
 refine RW.nil ?_
 refine W.rg [(0, .int .i64 2), (2, pp b6), (3, pp b7)] fun TA => ?_
 refine W.seq (W.region ?_)
 refine RW.val (v := .agg #[.int .i64 0, .int .i64 0]) (by kernel_rfl) (by kernel_rfl) (by kernel_rfl) (by kernel_rfl) ?_
 refine RW.val (v := .agg #[.int .i64 0, .int .i64 0]) (by kernel_rfl) (by kernel_rfl) (by kernel_rfl) (by kernel_rfl) ?_
 refine RW.v ?_
 refine RW.st H 1 [.int .i64 0, .int .i64 0] [.int .i64 0, .int .i64 0] ?_
 clear H; intro _ _ H; dsimp only [setL, delL] at H
 refine RW.st H 0 [.int .i64 0, .int .i64 0] [.int .i64 0, .int .i64 0] ?_
 clear H; intro _ _ H; dsimp only [setL, delL] at H
 refine RW.v ?_
 refine RW.nil ?_
 refine W.ret ?_
 refine endG (by rfl) (by exact resL_cell rfl (H.get 1 rfl) (by rw [uT_eq]; exact Tryz.underlying27) (by kernel_rfl) rfl rfl (by exact resL_cell rfl (H.get 0 rfl) (by rw [uT_eq]; exact Tryz.underlying27) (by kernel_rfl) rfl rfl (by exact resL_tmp rfl))) ?_
 iterate 3 refine RW.v ?_
 refine RW.st H 3 [.int .i64 0, .int .i64 0] [.int .i64 0, .int .i64 0] ?_
 clear H; intro _ _ H; dsimp only [setL, delL] at H
 refine RW.st H 2 [.int .i64 0, .int .i64 0] [.int .i64 0, .int .i64 0] ?_
 clear H; intro _ _ H; dsimp only [setL, delL] at H
 refine RW.v ?_
 refine RW.nil ?_
 replace H := (((((H.del 6).del 5).del 4).del 1).del 0)
 dsimp only [setL, delL] at H
 refine W.ret ?_
 refine blkQ_ret ?_
 refine seqQ_ret ?_
 refine endG (by rfl) (by exact resL_cell rfl (H.get 1 rfl) (by rw [uT_eq]; exact Tryz.underlying27) (by kernel_rfl) rfl rfl (by exact resL_cell rfl (H.get 0 rfl) (by rw [uT_eq]; exact Tryz.underlying27) (by kernel_rfl) rfl rfl (by exact resL_tmp rfl))) ?_
 exact ⟨rfl, ((H.del 1).del 0)⟩
set_option maxHeartbeats 8000000 in
theorem fun_bad {k : Int} (hf : m.find (2, k) = some (.pair (1, 70) (1, 71))) (hG : G66 ≤ σ0.next) (ha : σ0.abs = heapAbs h m) (hlo : 0 < m.limit) (hN : GNull σ0.get) :
  WC G66 Tryz.prog 16 #[.pointer (some ⟨h, 0, none⟩), .agg #[.int .i64 2, .int .i64 k], .agg #[.int .i64 1, .int .i64 0]] σ0 fun r σ' => r = .tuple #[.slice none 0 0, .int .i64 6] ∧ Lies G66 (heapAbs h m) σ0.get σ' [] := by
 obtain ⟨tN, gN, hN⟩ := hN
 have H := Lies.start hG ha
 generalize σ0.get = F at H hN ⊢
 refine WC.enterD (fn := Tryz.f16) Tryz.func16 rfl ?_
 refine W.rg [(0, pp h), (1, .agg #[.int .i64 2, .int .i64 k]), (2, .agg #[.int .i64 1, .int .i64 0])] fun TA => ?_
 refine W.seq (W.region ?_)
 refine RW.mk H (.row ⟨[.int .i64 2, .int .i64 k], 27, false⟩) ?_
 clear H; intro _ b1 _ H
 refine RW.mk H (.row ⟨[.int .i64 1, .int .i64 0], 27, false⟩) ?_
 clear H; intro _ b2 _ H
 refine RW.mk H (.row ⟨[.slice none 0 0], 33, false⟩) ?_
 clear H; intro _ b3 _ H
 refine RW.mk H (.row ⟨[.int .i64 0], 30, false⟩) ?_
 clear H; intro _ b4 _ H
 refine RW.nil ?_
 refine W.rg [(0, pp h), (4, pp b1), (5, pp b2), (6, pp b3), (7, pp b4)] fun TA => ?_
 refine W.seq ?_
 refine W.seq (W.region ?_)
 refine RW.v ?_
 refine RW.cl ?_
 refine WC.enter (fn := Tryz.f41) Tryz.func41 rfl ?_
 refine W.rg [(0, pp h)] fun TA => ?_
 refine W.seq (W.region ?_)
 refine RW.v ?_
 refine RW.nil ?_
 refine W.rg [(0, pp h)] fun TA => ?_
 refine W.seq (W.region ?_)
 refine RW.v ?_
 refine RW.cl ?_
 refine ⟨_, _, (s_limit (G := G66) H.abs), ?_⟩
 refine RW.valE (v' := .bool true) (by kernel_rfl) (by kernel_rfl) rfl (congrArg Value.bool (decide_eq_true (by omega))) (by kernel_rfl) ?_
 refine RW.v ?_
 refine RW.nil ?_
 refine W.ret ?_
 refine endG (by rfl) (by exact resL_tmp rfl) ?_
 refine RW.v ?_
 refine RW.nil ?_
 refine W.c0 ?_
 refine W.skip ?_
 refine W.seq (W.region ?_)
 refine RW.v ?_
 refine RW.ld H 3 2 ?_
 refine RW.cl ?_
 refine WC.enter (fn := Tryz.f61) Tryz.func61 rfl ?_
 refine W.rg [(0, pp h), (1, .agg #[.int .i64 2, .int .i64 k])] fun TA => ?_
 refine W.seq (W.region ?_)
 refine RW.mk H (.row ⟨[.int .i64 2, .int .i64 k], 27, false⟩) ?_
 clear H; intro _ b5 _ H
 iterate 2 refine RW.v ?_
 refine RW.nil ?_
 refine W.rg [(0, pp h), (3, pp b5)] fun TA => ?_
 refine W.seq ?_
 refine W.seq (W.region ?_)
 refine RW.ld H 0 2 ?_
 refine RW.loads 2 (by kernel_rfl) (by kernel_rfl) rfl rfl (H.old _ _ hN) rfl rfl (by kernel_rfl) ?_
 refine RW.vop (v := .bool true) (by kernel_rfl) (by kernel_rfl) (vop_eqS (b := false) (r := true) rfl (.inr ⟨rfl, rfl⟩) rfl rfl rfl rfl (by kernel_rfl) (fun w => (eqWd _ _ _ _ w).trans (by simp))) (by kernel_rfl) ?_
 refine RW.v ?_
 refine RW.val (by rfl) (by kernel_rfl) rfl (by kernel_rfl) ?_
 refine RW.ldL H 0 2 (by rfl) (by kernel_rfl) rfl rfl rfl rfl rfl (by kernel_rfl) ?_
 refine RW.cl (hw := by rfl) ?_
 refine WC.enter (fn := Tryz.f85) Tryz.func85 rfl ?_
 refine W.rg [(0, pp h), (1, .agg #[.int .i64 2, .int .i64 k])] fun TA => ?_
 refine W.seq (W.region ?_)
 refine RW.mk H (.row ⟨[.int .i64 2, .int .i64 k], 27, false⟩) ?_
 clear H; intro _ b6 _ H
 refine RW.v ?_
 refine RW.nil ?_
 refine W.rg [(0, pp h), (3, pp b6)] fun TA => ?_
 refine W.seq (W.region ?_)
 refine RW.v ?_
 refine RW.ld H 0 1 ?_
 iterate 2 refine RW.v ?_
 refine RW.val (by rfl) (by kernel_rfl) rfl (by kernel_rfl) ?_
 refine RW.ldL H 0 2 (by rfl) (by kernel_rfl) rfl rfl rfl rfl rfl (by kernel_rfl) ?_
 refine RW.cl (hw := by rfl) ?_
 refine ⟨_, _, (liveY_call (G := G66) H.abs hf), ?_⟩
 iterate 2 refine RW.v ?_
 refine RW.nil ?_
 replace H := (H.del 0)
 dsimp only [setL, delL] at H
 refine W.ret ?_
 refine endG (by rfl) (by exact resL_tmp rfl) ?_
 refine RW.val (by rfl) (by kernel_rfl) rfl (by kernel_rfl) ?_
 refine RW.v ?_
 refine RW.nil ?_
 refine W.c0 ?_
 refine W.skip ?_
 refine W.seq ?_
 refine W.seq (W.region ?_)
 refine RW.v ?_
 refine RW.ld H 0 2 ?_
 refine RW.cl ?_
 refine ⟨_, _, (carY_call (G := G66) H.abs hf), ?_⟩
 iterate 3 refine RW.v ?_
 refine RW.mk H (.row ⟨[.int .i64 0, .int .i64 0], 27, false⟩) ?_
 clear H; intro _ b7 _ H
 refine RW.st H 0 [.int .i64 1, .int .i64 70] [.int .i64 1, .int .i64 70] ?_
 clear H; intro _ _ H; dsimp only [setL, delL] at H
 refine RW.v ?_
 refine RW.nil ?_
 refine W.rg [(0, pp h), (3, pp b5), (6, pp b7)] fun TA => ?_
 refine W.seq (W.region ?_)
 refine RW.v ?_
 refine RW.ld H 0 1 ?_
 iterate 2 refine RW.v ?_
 refine RW.val (by rfl) (by kernel_rfl) rfl (by kernel_rfl) ?_
 refine RW.ldL H 0 1 (by rfl) (by kernel_rfl) rfl rfl rfl rfl rfl (by kernel_rfl) ?_
 refine RW.val (by rfl) (by kernel_rfl) rfl (by kernel_rfl) ?_
 refine RW.val (by rfl) (by kernel_rfl) rfl (by kernel_rfl) ?_
 refine RW.val (by rfl) (by kernel_rfl) rfl (by kernel_rfl) ?_
 refine RW.ldL H 0 1 (by rfl) (by kernel_rfl) rfl rfl rfl rfl rfl (by kernel_rfl) ?_
 refine RW.val (by rfl) (by kernel_rfl) rfl (by kernel_rfl) ?_
 refine RW.val (by rfl) (by kernel_rfl) rfl (by kernel_rfl) ?_
 refine RW.v ?_
 refine RW.nil ?_
 replace H := (H.del 0)
 dsimp only [setL, delL] at H
 refine W.c0 ?_
 refine W.skip ?_
 refine W.seq (W.region ?_)
 refine RW.v ?_
 refine RW.ld H 0 2 ?_
 refine RW.cl ?_
 refine WC.enterD (fn := Tryz.f12) Tryz.func12 rfl ?_
 refine W.rg [(0, pp h), (1, .agg #[.int .i64 2, .int .i64 k])] fun TA => ?_
 refine W.seq (W.region ?_)
 refine RW.mk H (.row ⟨[.int .i64 2, .int .i64 k], 27, false⟩) ?_
 clear H; intro _ b8 _ H
 refine RW.mk H (.row ⟨[.slice none 0 0], 33, false⟩) ?_
 clear H; intro _ b9 _ H
 refine RW.mk H (.row ⟨[.int .i64 0], 30, false⟩) ?_
 clear H; intro _ b10 _ H
 refine RW.nil ?_
 refine W.rg [(0, pp h), (3, pp b8), (4, pp b9), (5, pp b10)] fun TA => ?_
 refine W.seq ?_
 refine W.seq (W.region ?_)
 refine RW.v ?_
 refine RW.cl ?_
 refine WC.enter (fn := Tryz.f50) Tryz.func50 rfl ?_
 refine W.rg [(0, pp h)] fun TA => ?_
 refine W.seq (W.region ?_)
 refine RW.v ?_
 refine RW.nil ?_
 refine W.rg [(0, pp h)] fun TA => ?_
 refine W.seq (W.region ?_)
 refine RW.v ?_
 refine RW.cl ?_
 refine ⟨_, _, (s_limit (G := G66) H.abs), ?_⟩
 refine RW.valE (v' := .bool true) (by kernel_rfl) (by kernel_rfl) rfl (congrArg Value.bool (decide_eq_true (by omega))) (by kernel_rfl) ?_
 refine RW.v ?_
 refine RW.nil ?_
 refine W.ret ?_
 refine endG (by rfl) (by exact resL_tmp rfl) ?_
 refine RW.v ?_
 refine RW.nil ?_
 refine W.c0 ?_
 refine W.skip ?_
 refine W.seq (W.region ?_)
 refine RW.mk H (.row ⟨[.slice none 0 0], 33, false⟩) ?_
 clear H; intro _ b11 _ H
 refine RW.nil ?_
 refine W.rg [(0, pp h), (3, pp b8), (4, pp b9), (5, pp b10), (6, pp b11)] fun TA => ?_
 refine W.seq (W.region ?_)
 refine RW.ld H 3 2 ?_
 refine RW.mk H (.row ⟨[.int .i64 0, .int .i64 0], 27, false⟩) ?_
 clear H; intro _ b12 _ H
 refine RW.st H 0 [.int .i64 2, .int .i64 k] [.int .i64 2, .int .i64 k] ?_
 clear H; intro _ _ H; dsimp only [setL, delL] at H
 refine RW.nil ?_
 refine W.rg [(0, pp h), (3, pp b8), (4, pp b9), (5, pp b10), (6, pp b11), (7, pp b12)] fun TA => ?_
 refine W.seq ?_
 refine W.seq (W.region ?_)
 refine RW.v ?_
 refine RW.ld H 4 2 ?_
 refine RW.cl ?_
 refine WC.enter (fn := Tryz.f51) Tryz.func51 rfl ?_
 refine W.rg [(0, pp h), (1, .agg #[.int .i64 2, .int .i64 k]), (2, pp b12)] fun TA => ?_
 refine W.seq (W.region ?_)
 refine RW.mk H (.row ⟨[pt h], 22, false⟩) ?_
 clear H; intro _ b13 _ H
 refine RW.mk H (.row ⟨[.int .i64 2, .int .i64 k], 27, false⟩) ?_
 clear H; intro _ b14 _ H
 refine RW.mk H (.row ⟨[pt b12], 86, false⟩) ?_
 clear H; intro _ b15 _ H
 refine RW.v ?_
 refine RW.nil ?_
 refine W.rg [(3, pp b13), (4, pp b14), (5, pp b15)] fun TA => ?_
 refine W.seq (W.region ?_)
 refine RW.val (v := .func (.func 79) #[] #[.pointer (some ⟨b13, 0, none⟩), .pointer (some ⟨b14, 0, none⟩), .pointer (some ⟨b15, 0, none⟩)]) (by kernel_rfl) (by kernel_rfl) (by kernel_rfl) (by kernel_rfl) ?_
 refine RW.v ?_
 refine RW.nil ?_
 refine W.ret ?_
 refine endG (by rfl) (by exact resL_tmp rfl) ?_
 refine RW.nil ?_
 replace H := (H.del 7)
 dsimp only [setL, delL] at H
 refine W.rg [(4, pp b9), (5, pp b10), (6, pp b11), (7, pp b12), (16, .func (.func 79) #[] #[pp b13, pp b14, pp b15])] fun TA => ?_
 refine W.block ?_
 refine W.rst [(4, .pointer (some ⟨b9, 0, none⟩)), (5, .pointer (some ⟨b10, 0, none⟩)), (6, .pointer (some ⟨b11, 0, none⟩)), (7, .pointer (some ⟨b12, 0, none⟩)), (16, .func (.func 79) #[] #[.pointer (some ⟨b13, 0, none⟩), .pointer (some ⟨b14, 0, none⟩), .pointer (some ⟨b15, 0, none⟩)])] ⟨rfl, rfl, rfl, rfl, rfl, trivial⟩ fun TL20 => ?_
 refine W.rangeL H rfl (fun _ h => nomatch h) (fun _ h => nomatch h) (by kernel_rfl) fun _ d16 b17 lp18 hl19 H => ?_
 refine WC.enter (fn := Tryz.f79) Tryz.func79 rfl ?_
 refine W.rg [(0, .func (.yield b17) #[] #[]), (1, pp b13), (2, pp b14), (3, pp b15)] fun TA => ?_
 refine W.seq ?_
 refine W.block ?_
 refine W.unroll (WL.once ?_)
 refine W.seq ?_
 refine W.seq (W.region ?_)
 refine RW.ld H 4 1 ?_
 refine RW.ld H 3 2 ?_
 refine RW.cl ?_
 refine WC.enter (fn := Tryz.f80) Tryz.func80 rfl ?_
 refine W.rg [(0, pp h), (1, .agg #[.int .i64 2, .int .i64 k])] fun TA => ?_
 refine W.seq (W.region ?_)
 refine RW.mk H (.row ⟨[.int .i64 2, .int .i64 k], 27, false⟩) ?_
 clear H; intro _ b21 _ H
 refine RW.v ?_
 refine RW.nil ?_
 refine W.rg [(0, pp h), (3, pp b21)] fun TA => ?_
 refine W.seq (W.region ?_)
 refine RW.v ?_
 refine RW.ld H 0 1 ?_
 iterate 2 refine RW.v ?_
 refine RW.val (by rfl) (by kernel_rfl) rfl (by kernel_rfl) ?_
 refine RW.ldL H 0 2 (by rfl) (by kernel_rfl) rfl rfl rfl rfl rfl (by kernel_rfl) ?_
 refine RW.cl (hw := by rfl) ?_
 refine ⟨_, _, (liveY_call (G := G66) H.abs hf), ?_⟩
 iterate 2 refine RW.v ?_
 refine RW.nil ?_
 replace H := (H.del 0)
 dsimp only [setL, delL] at H
 refine W.ret ?_
 refine endG (by rfl) (by exact resL_tmp rfl) ?_
 refine RW.nil ?_
 refine W.c1 ?_
 refine W.skip ?_
 refine W.block ?_
 refine W.seq (W.region ?_)
 refine RW.ld H 4 1 ?_
 refine RW.ld H 3 2 ?_
 refine RW.cl ?_
 refine ⟨_, _, (carY_call (G := G66) H.abs hf), ?_⟩
 iterate 3 refine RW.v ?_
 refine RW.mk H (.row ⟨[.int .i64 0, .int .i64 0], 27, false⟩) ?_
 clear H; intro _ b22 _ H
 refine RW.st H 0 [.int .i64 1, .int .i64 70] [.int .i64 1, .int .i64 70] ?_
 clear H; intro _ _ H; dsimp only [setL, delL] at H
 refine RW.v ?_
 refine RW.nil ?_
 refine W.rg [(0, .func (.yield b17) #[] #[]), (1, pp b13), (2, pp b14), (3, pp b15), (5, pp b22)] fun TA => ?_
 refine W.seq ?_
 refine W.seq (W.region ?_)
 refine RW.v ?_
 refine RW.ld H 4 2 ?_
 refine RW.ld H 0 2 ?_
 refine RW.yieldL H 1 rfl hl19 (by kernel_rfl) (by kernel_rfl) rfl rfl rfl rfl rfl (by kernel_rfl) ?_
 refine W.rg [(4, pp b9), (5, pp b10), (6, pp b11), (7, pp b12), (16, .func (.func 79) #[] #[pp b13, pp b14, pp b15]), (17, .agg #[.int .i64 2, .int .i64 k]), (18, .agg #[.int .i64 1, .int .i64 70])] fun TA => ?_
 refine W.region ?_
 refine RW.mk H (.row ⟨[.int .i64 0, .int .i64 0], 27, false⟩) ?_
 clear H; intro _ b23 _ H
 refine RW.st H 0 [.int .i64 1, .int .i64 70] [.int .i64 1, .int .i64 70] ?_
 clear H; intro _ _ H; dsimp only [setL, delL] at H
 refine RW.nil ?_
 refine ⟨rfl, _, _, _, 2, H, rfl, ?_⟩
 clear H; intro _ lq24 hq25 H
 dsimp only [setL, delL] at H
 refine W.rg [(4, pp b9), (5, pp b10), (6, pp b11), (7, pp b12), (9, pp b23), (16, .func (.func 79) #[] #[pp b13, pp b14, pp b15]), (18, .agg #[.int .i64 1, .int .i64 70])] fun TA => ?_
 refine W.block ?_
 refine W.seq ?_
 refine W.seq (W.region ?_)
 refine RW.ld H 8 1 ?_
 iterate 2 refine RW.v ?_
 refine RW.nil ?_
 refine W.c0 ?_
 refine W.skip ?_
 refine W.region ?_
 refine RW.ld H 8 1 ?_
 refine RW.ld H 0 2 ?_
 refine RW.mkL H (x := .row ⟨[.int .i64 1, .int .i64 70], 27, false⟩) (fm := fun b => .slice (some ⟨b, 0, none⟩) 1 1) (by kernel_rfl) (by kernel_rfl) (by kernel_rfl) (by kernel_rfl) ?_
 clear H; intro _ b26 _ H
 replace H := H.nilSl 27 2
 refine RW.appL H 0 1 (n := 1) (e2 := 27) (by kernel_rfl) (by kernel_rfl) rfl rfl rfl rfl rfl rfl rfl rfl (by kernel_rfl) (by kernel_rfl) (by kernel_rfl) (by decide) (by decide) rfl rfl (by omega) (by kernel_rfl) ?_
 clear H; intro _ v27 _ H
 dsimp only [setL, delL] at H
 refine RW.stL H 9 (vs := [v27]) (cs' := [v27]) (by kernel_rfl) (by kernel_rfl) rfl rfl rfl (H.sl 0 rfl).one (gr_all (H.sl 0 rfl)) (by kernel_rfl) (Nat.le_of_ble_eq_true rfl) rfl (by kernel_rfl) ?_
 clear H; intro _ _ H; dsimp only [setL, delL] at H
 refine RW.nil ?_
 replace H := (H.del 1)
 dsimp only [setL, delL] at H
 refine blkQ_normal ?_
 refine ⟨_, _, _, 2, true, .ready, none, H, rfl, rfl, ?_⟩
 clear H; intro _ lr28 _ hr29 H
 dsimp only [setL, delL] at H
 refine RW.v ?_
 refine RW.nil ?_
 replace H := (H.del 1)
 dsimp only [setL, delL] at H
 refine W.c0 ?_
 refine W.skip ?_
 refine W.region ?_
 refine RW.ld H 5 1 ?_
 refine RW.ld H 4 2 ?_
 refine RW.cl ?_
 refine ⟨_, _, (cdrY_call H.abs hf), ?_⟩
 iterate 3 refine RW.v ?_
 refine RW.st H 4 [.int .i64 1, .int .i64 71] [.int .i64 1, .int .i64 71] ?_
 clear H; intro _ _ H; dsimp only [setL, delL] at H
 refine RW.nil ?_
 refine blkQ_normal ?_
 refine WL.once ?_
 refine W.rg [(0, .func (.yield b17) #[] #[]), (1, pp b13), (2, pp b14), (3, pp b15)] fun TA => ?_
 refine W.seq ?_
 refine W.seq (W.region ?_)
 refine RW.ld H 5 1 ?_
 refine RW.ld H 4 2 ?_
 refine RW.cl ?_
 refine WC.enter (fn := Tryz.f80) Tryz.func80 rfl ?_
 refine W.rg [(0, pp h), (1, .agg #[.int .i64 1, .int .i64 71])] fun TA => ?_
 refine W.seq (W.region ?_)
 refine RW.mk H (.row ⟨[.int .i64 1, .int .i64 71], 27, false⟩) ?_
 clear H; intro _ b30 _ H
 refine RW.v ?_
 refine RW.nil ?_
 refine W.rg [(0, pp h), (3, pp b30)] fun TA => ?_
 refine W.seq (W.region ?_)
 refine RW.v ?_
 refine RW.ld H 0 1 ?_
 iterate 2 refine RW.v ?_
 refine RW.skip (by rfl) (by kernel_rfl) ?_
 refine RW.skip (by rfl) (by kernel_rfl) ?_
 refine RW.skip (by rfl) (by kernel_rfl) ?_
 iterate 2 refine RW.v ?_
 refine RW.nil ?_
 replace H := (H.del 0)
 dsimp only [setL, delL] at H
 refine W.ret ?_
 refine endG (by rfl) (by exact resL_tmp rfl) ?_
 refine RW.nil ?_
 refine W.c0 ?_
 refine W.exit _ ?_
 refine seqQ_exit ?_
 refine onceQ_exit ?_
 refine blkQ_here ?_
 refine W.region ?_
 refine RW.ld H 3 1 ?_
 refine RW.ld H 4 2 ?_
 refine RW.v ?_
 refine RW.st H 6 [.int .i64 1, .int .i64 71] [.int .i64 1, .int .i64 71] ?_
 clear H; intro _ _ H; dsimp only [setL, delL] at H
 refine RW.nil ?_
 refine endG (by rfl) (by exact rfl) ?_
 refine ⟨_, _, _, 1, _, _, _, _, H, rfl, hr29, rfl, rfl, ?_⟩
 clear H; intro _ H
 dsimp only [setL, delL] at H
 refine blkQ_normal ?_
 refine W.rg [(4, pp b9), (5, pp b10), (6, pp b11), (7, pp b12), (16, .func (.func 79) #[] #[pp b13, pp b14, pp b15])] fun TA => ?_
 refine W.seq ?_
 refine W.seq (W.region ?_)
 refine RW.ld H 5 2 ?_
 refine RW.cl ?_
 refine WC.enter (fn := Tryz.f52) Tryz.func52 rfl ?_
 refine W.rg [(0, .agg #[.int .i64 1, .int .i64 71])] fun TA => ?_
 refine W.seq (W.region ?_)
 refine RW.mk H (.row ⟨[.int .i64 1, .int .i64 71], 27, false⟩) ?_
 clear H; intro _ b31 _ H
 refine RW.v ?_
 refine RW.nil ?_
 refine W.rg [(1, pp b31)] fun TA => ?_
 refine W.seq ?_
 refine W.drawn (by kernel_rfl) (by kernel_rfl) H.gn ?_
 have H32 := H
 refine RW.ld H32 0 2 ?_
 refine RW.cl ?_
 refine WC.enter (fn := Tryz.f74) Tryz.func74 rfl ?_
 replace H := H32
 refine W.rg [] fun TA => ?_
 refine W.seq (W.region ?_)
 refine RW.mk H (.row ⟨[.int .i64 0, .int .i64 0], 27, false⟩) ?_
 clear H; intro _ b33 _ H
 refine RW.nil ?_
 refine W.rg [(0, pp b33)] fun TA => ?_
 refine W.seq (W.region ?_)
 refine RW.val (v := .agg #[.int .i64 1, .int .i64 0]) (by kernel_rfl) (by kernel_rfl) (by kernel_rfl) (by kernel_rfl) ?_
 refine RW.st H 0 [.int .i64 1, .int .i64 0] [.int .i64 1, .int .i64 0] ?_
 clear H; intro _ _ H; dsimp only [setL, delL] at H
 refine RW.nil ?_
 refine W.ret ?_
 refine endG (by rfl) (by exact resL_cell rfl (H.get 0 rfl) (by rw [uT_eq]; exact Tryz.underlying27) (by kernel_rfl) rfl rfl rfl) ?_
 have H34 := H
 refine RW.vop (v := .bool false) (by kernel_rfl) (by kernel_rfl) (vop_eqS (b := false) (r := false) rfl (.inl ⟨rfl, rfl⟩) rfl rfl rfl rfl (by kernel_rfl) (fun w => (eqWd _ _ _ _ w).trans (by simp))) (by kernel_rfl) ?_
 refine RW.v ?_
 refine RW.nil ?_
 refine ⟨⟨by kernel_rfl, ⟨dyn_row (H32.get 0 rfl) (H34.get 1 rfl) ⟨fun h => Bool.noConfusion h, fun _ => H32.get 0 rfl, fun h => Bool.noConfusion h, fun h => Bool.noConfusion h, trivial⟩, trivial, trivial, trivial, trivial⟩⟩, ?_⟩
 replace H := H34
 clear H32 H34
 replace H := ((H.del 1).del 0)
 dsimp only [setL, delL] at H
 refine W.ret ?_
 refine endG (by rfl) (by exact resL_tmp rfl) ?_
 refine RW.v ?_
 refine RW.nil ?_
 replace H := ((((H.del 5).del 4).del 3).del 2)
 dsimp only [setL, delL] at H
 refine W.c1 ?_
 refine W.seq (W.region ?_)
 refine RW.st H 4 [.slice none 0 0] [.slice none 0 0] ?_
 clear H; intro _ _ H; dsimp only [setL, delL] at H
 refine RW.st H 3 [.int .i64 6] [.int .i64 6] ?_
 clear H; intro _ _ H; dsimp only [setL, delL] at H
 refine RW.nil ?_
 replace H := ((H.del 2).del 0)
 dsimp only [setL, delL] at H
 refine W.ret ?_
 refine seqQ_ret ?_
 refine endMark H 0 rfl fun _ H => ?_
 dsimp only [setL, delL] at H
 refine endGD0 (by rfl) (by exact resL_cell rfl (H.get 1 rfl) (by rw [uT_eq]; exact Tryz.underlying33) (by kernel_rfl) rfl rfl (by exact resL_cell rfl (H.get 0 rfl) (by rw [uT_eq]; exact Tryz.underlying30) (by kernel_rfl) rfl rfl rfl)) ?_
 iterate 4 refine RW.v ?_
 refine RW.nil ?_
 replace H := (((H.del 2).del 1).del 0)
 dsimp only [setL, delL] at H
 refine W.ret ?_
 refine endG (by rfl) (by exact resL_tmp (by exact resL_tmp rfl)) ?_
 iterate 5 refine RW.v ?_
 refine RW.nil ?_
 replace H := (H.del 3)
 dsimp only [setL, delL] at H
 refine W.rg [(0, pp h), (5, pp b2), (6, pp b3), (7, pp b4), (8, .slice none 0 0), (9, .int .i64 6)] fun TA => ?_
 refine W.seq ?_
 refine W.seq (W.region ?_)
 iterate 2 refine RW.v ?_
 refine RW.nil ?_
 refine W.c1 ?_
 refine W.seq (W.region ?_)
 refine RW.v ?_
 refine RW.st H 1 [.slice none 0 0] [.slice none 0 0] ?_
 clear H; intro _ _ H; dsimp only [setL, delL] at H
 refine RW.st H 0 [.int .i64 6] [.int .i64 6] ?_
 clear H; intro _ _ H; dsimp only [setL, delL] at H
 refine RW.nil ?_
 replace H := (H.del 2)
 dsimp only [setL, delL] at H
 refine W.ret ?_
 refine seqQ_ret ?_
 refine endGD0 (by rfl) (by exact resL_cell rfl (H.get 1 rfl) (by rw [uT_eq]; exact Tryz.underlying33) (by kernel_rfl) rfl rfl (by exact resL_cell rfl (H.get 0 rfl) (by rw [uT_eq]; exact Tryz.underlying30) (by kernel_rfl) rfl rfl rfl)) ?_
 exact ⟨rfl, ((H.del 1).del 0)⟩
set_option maxHeartbeats 8000000 in
theorem rem_bad {w : Wd} {k : Int} (hf : m.find (2, k) = some (.pair (1, 70) (1, 71))) (hG : G66 ≤ σ0.next) (ha : σ0.abs = heapAbs h m) (hlo : 0 < m.limit) (hN : GNull σ0.get) :
  WC G66 Tryz.prog 13 #[.pointer (some ⟨h, 0, none⟩), .agg #[.int .i64 1, .int .i64 0], .agg #[.int .i64 2, .int .i64 k], .agg #[.int .i64 w.1, .int .i64 w.2]] σ0 fun r σ' => r = .tuple #[.agg #[.int .i64 0, .int .i64 0], .agg #[.int .i64 0, .int .i64 0], .int .i64 6] ∧ Lies G66 (heapAbs h m) σ0.get σ' [] := by
 obtain ⟨tN, gN, hN⟩ := hN
 have H := Lies.start hG ha
 generalize σ0.get = F at H hN ⊢
 refine WC.enter (fn := Tryz.f13) Tryz.func13 rfl ?_
 refine W.rg [(0, pp h), (1, .agg #[.int .i64 1, .int .i64 0]), (2, .agg #[.int .i64 2, .int .i64 k]), (3, .agg #[.int .i64 w.1, .int .i64 w.2])] fun TA => ?_
 refine W.seq (W.region ?_)
 refine RW.mk H (.row ⟨[pt h], 22, false⟩) ?_
 clear H; intro _ b1 _ H
 refine RW.mk H (.row ⟨[.int .i64 1, .int .i64 0], 27, false⟩) ?_
 clear H; intro _ b2 _ H
 refine RW.mk H (.row ⟨[.int .i64 2, .int .i64 k], 27, false⟩) ?_
 clear H; intro _ b3 _ H
 refine RW.mk H (.row ⟨[.int .i64 w.1, .int .i64 w.2], 27, false⟩) ?_
 clear H; intro _ b4 _ H
 refine RW.mk H (.row ⟨[.int .i64 0, .int .i64 0], 27, false⟩) ?_
 clear H; intro _ b5 _ H
 refine RW.mk H (.row ⟨[.int .i64 0, .int .i64 0], 27, false⟩) ?_
 clear H; intro _ b6 _ H
 refine RW.v ?_
 refine RW.nil ?_
 refine W.rg [(4, pp b1), (5, pp b2), (6, pp b3), (7, pp b4), (8, pp b5), (9, pp b6)] fun TA => ?_
 refine W.seq ?_
 refine W.seq (W.region ?_)
 refine RW.ld H 5 1 ?_
 refine RW.cl ?_
 refine WC.enter (fn := Tryz.f41) Tryz.func41 rfl ?_
 refine W.rg [(0, pp h)] fun TA => ?_
 refine W.seq (W.region ?_)
 refine RW.v ?_
 refine RW.nil ?_
 refine W.rg [(0, pp h)] fun TA => ?_
 refine W.seq (W.region ?_)
 refine RW.v ?_
 refine RW.cl ?_
 refine ⟨_, _, (s_limit (G := G66) H.abs), ?_⟩
 refine RW.valE (v' := .bool true) (by kernel_rfl) (by kernel_rfl) rfl (congrArg Value.bool (decide_eq_true (by omega))) (by kernel_rfl) ?_
 refine RW.v ?_
 refine RW.nil ?_
 refine W.ret ?_
 refine endG (by rfl) (by exact resL_tmp rfl) ?_
 refine RW.v ?_
 refine RW.nil ?_
 refine W.c0 ?_
 refine W.skip ?_
 refine W.seq (W.region ?_)
 refine RW.ld H 5 1 ?_
 refine RW.ld H 4 2 ?_
 refine RW.ld H 3 2 ?_
 refine RW.cl ?_
 refine WC.enter (fn := Tryz.f42) Tryz.func42 rfl ?_
 refine W.rg [(0, pp h), (1, .agg #[.int .i64 1, .int .i64 0]), (2, .agg #[.int .i64 2, .int .i64 k])] fun TA => ?_
 refine W.seq (W.region ?_)
 refine RW.mk H (.row ⟨[.int .i64 1, .int .i64 0], 27, false⟩) ?_
 clear H; intro _ b7 _ H
 refine RW.mk H (.row ⟨[.int .i64 2, .int .i64 k], 27, false⟩) ?_
 clear H; intro _ b8 _ H
 iterate 3 refine RW.v ?_
 refine RW.nil ?_
 refine W.rg [(0, pp h), (4, pp b7), (5, pp b8), (7, .slice none 0 0)] fun TA => ?_
 refine W.seq ?_
 refine W.seq (W.region ?_)
 refine RW.v ?_
 refine RW.ld H 1 2 ?_
 refine RW.cl ?_
 refine (((elemR_nil m).elems hlo (by decide) _ H.gn H.abs ⟨_, _, H.old _ _ hN⟩).mono ?_)
 rintro _ _ ⟨slV, rfl, LV, K, fz⟩
 obtain ⟨F, leV, hSV, H⟩ := fz _ _ _ _ (H.then K)
 clear K fz
 replace hN := leV _ _ hN
 iterate 5 refine RW.v ?_
 refine RW.nil ?_
 replace H := (H.del 1)
 dsimp only [setL, delL] at H
 refine W.rg [(0, pp h), (5, pp b8), (6, slV), (7, .slice none 0 0), (8, .int .i64 0)] fun TA => ?_
 refine W.seq (W.region ?_)
 iterate 2 refine RW.v ?_
 refine RW.nil ?_
 refine W.c1 ?_
 refine W.region ?_
 refine RW.v ?_
 refine RW.ld H 0 2 ?_
 refine RW.cl ?_
 refine WC.enterD (fn := Tryz.f12) Tryz.func12 rfl ?_
 refine W.rg [(0, pp h), (1, .agg #[.int .i64 2, .int .i64 k])] fun TA => ?_
 refine W.seq (W.region ?_)
 refine RW.mk H (.row ⟨[.int .i64 2, .int .i64 k], 27, false⟩) ?_
 clear H; intro _ b9 _ H
 refine RW.mk H (.row ⟨[.slice none 0 0], 33, false⟩) ?_
 clear H; intro _ b10 _ H
 refine RW.mk H (.row ⟨[.int .i64 0], 30, false⟩) ?_
 clear H; intro _ b11 _ H
 refine RW.nil ?_
 refine W.rg [(0, pp h), (3, pp b9), (4, pp b10), (5, pp b11)] fun TA => ?_
 refine W.seq ?_
 refine W.seq (W.region ?_)
 refine RW.v ?_
 refine RW.cl ?_
 refine WC.enter (fn := Tryz.f50) Tryz.func50 rfl ?_
 refine W.rg [(0, pp h)] fun TA => ?_
 refine W.seq (W.region ?_)
 refine RW.v ?_
 refine RW.nil ?_
 refine W.rg [(0, pp h)] fun TA => ?_
 refine W.seq (W.region ?_)
 refine RW.v ?_
 refine RW.cl ?_
 refine ⟨_, _, (s_limit (G := G66) H.abs), ?_⟩
 refine RW.valE (v' := .bool true) (by kernel_rfl) (by kernel_rfl) rfl (congrArg Value.bool (decide_eq_true (by omega))) (by kernel_rfl) ?_
 refine RW.v ?_
 refine RW.nil ?_
 refine W.ret ?_
 refine endG (by rfl) (by exact resL_tmp rfl) ?_
 refine RW.v ?_
 refine RW.nil ?_
 refine W.c0 ?_
 refine W.skip ?_
 refine W.seq (W.region ?_)
 refine RW.mk H (.row ⟨[.slice none 0 0], 33, false⟩) ?_
 clear H; intro _ b12 _ H
 refine RW.nil ?_
 refine W.rg [(0, pp h), (3, pp b9), (4, pp b10), (5, pp b11), (6, pp b12)] fun TA => ?_
 refine W.seq (W.region ?_)
 refine RW.ld H 3 2 ?_
 refine RW.mk H (.row ⟨[.int .i64 0, .int .i64 0], 27, false⟩) ?_
 clear H; intro _ b13 _ H
 refine RW.st H 0 [.int .i64 2, .int .i64 k] [.int .i64 2, .int .i64 k] ?_
 clear H; intro _ _ H; dsimp only [setL, delL] at H
 refine RW.nil ?_
 refine W.rg [(0, pp h), (3, pp b9), (4, pp b10), (5, pp b11), (6, pp b12), (7, pp b13)] fun TA => ?_
 refine W.seq ?_
 refine W.seq (W.region ?_)
 refine RW.v ?_
 refine RW.ld H 4 2 ?_
 refine RW.cl ?_
 refine WC.enter (fn := Tryz.f51) Tryz.func51 rfl ?_
 refine W.rg [(0, pp h), (1, .agg #[.int .i64 2, .int .i64 k]), (2, pp b13)] fun TA => ?_
 refine W.seq (W.region ?_)
 refine RW.mk H (.row ⟨[pt h], 22, false⟩) ?_
 clear H; intro _ b14 _ H
 refine RW.mk H (.row ⟨[.int .i64 2, .int .i64 k], 27, false⟩) ?_
 clear H; intro _ b15 _ H
 refine RW.mk H (.row ⟨[pt b13], 86, false⟩) ?_
 clear H; intro _ b16 _ H
 refine RW.v ?_
 refine RW.nil ?_
 refine W.rg [(3, pp b14), (4, pp b15), (5, pp b16)] fun TA => ?_
 refine W.seq (W.region ?_)
 refine RW.val (v := .func (.func 79) #[] #[.pointer (some ⟨b14, 0, none⟩), .pointer (some ⟨b15, 0, none⟩), .pointer (some ⟨b16, 0, none⟩)]) (by kernel_rfl) (by kernel_rfl) (by kernel_rfl) (by kernel_rfl) ?_
 refine RW.v ?_
 refine RW.nil ?_
 refine W.ret ?_
 refine endG (by rfl) (by exact resL_tmp rfl) ?_
 refine RW.nil ?_
 replace H := (H.del 7)
 dsimp only [setL, delL] at H
 refine W.rg [(4, pp b10), (5, pp b11), (6, pp b12), (7, pp b13), (16, .func (.func 79) #[] #[pp b14, pp b15, pp b16])] fun TA => ?_
 refine W.block ?_
 refine W.rst [(4, .pointer (some ⟨b10, 0, none⟩)), (5, .pointer (some ⟨b11, 0, none⟩)), (6, .pointer (some ⟨b12, 0, none⟩)), (7, .pointer (some ⟨b13, 0, none⟩)), (16, .func (.func 79) #[] #[.pointer (some ⟨b14, 0, none⟩), .pointer (some ⟨b15, 0, none⟩), .pointer (some ⟨b16, 0, none⟩)])] ⟨rfl, rfl, rfl, rfl, rfl, trivial⟩ fun TL21 => ?_
 refine W.rangeL H rfl (fun _ h => nomatch h) (fun _ h => nomatch h) (by kernel_rfl) fun _ d17 b18 lp19 hl20 H => ?_
 refine WC.enter (fn := Tryz.f79) Tryz.func79 rfl ?_
 refine W.rg [(0, .func (.yield b18) #[] #[]), (1, pp b14), (2, pp b15), (3, pp b16)] fun TA => ?_
 refine W.seq ?_
 refine W.block ?_
 refine W.unroll (WL.once ?_)
 refine W.seq ?_
 refine W.seq (W.region ?_)
 refine RW.ld H 4 1 ?_
 refine RW.ld H 3 2 ?_
 refine RW.cl ?_
 refine WC.enter (fn := Tryz.f80) Tryz.func80 rfl ?_
 refine W.rg [(0, pp h), (1, .agg #[.int .i64 2, .int .i64 k])] fun TA => ?_
 refine W.seq (W.region ?_)
 refine RW.mk H (.row ⟨[.int .i64 2, .int .i64 k], 27, false⟩) ?_
 clear H; intro _ b22 _ H
 refine RW.v ?_
 refine RW.nil ?_
 refine W.rg [(0, pp h), (3, pp b22)] fun TA => ?_
 refine W.seq (W.region ?_)
 refine RW.v ?_
 refine RW.ld H 0 1 ?_
 iterate 2 refine RW.v ?_
 refine RW.val (by rfl) (by kernel_rfl) rfl (by kernel_rfl) ?_
 refine RW.ldL H 0 2 (by rfl) (by kernel_rfl) rfl rfl rfl rfl rfl (by kernel_rfl) ?_
 refine RW.cl (hw := by rfl) ?_
 refine ⟨_, _, (liveY_call (G := G66) H.abs hf), ?_⟩
 iterate 2 refine RW.v ?_
 refine RW.nil ?_
 replace H := (H.del 0)
 dsimp only [setL, delL] at H
 refine W.ret ?_
 refine endG (by rfl) (by exact resL_tmp rfl) ?_
 refine RW.nil ?_
 refine W.c1 ?_
 refine W.skip ?_
 refine W.block ?_
 refine W.seq (W.region ?_)
 refine RW.ld H 4 1 ?_
 refine RW.ld H 3 2 ?_
 refine RW.cl ?_
 refine ⟨_, _, (carY_call (G := G66) H.abs hf), ?_⟩
 iterate 3 refine RW.v ?_
 refine RW.mk H (.row ⟨[.int .i64 0, .int .i64 0], 27, false⟩) ?_
 clear H; intro _ b23 _ H
 refine RW.st H 0 [.int .i64 1, .int .i64 70] [.int .i64 1, .int .i64 70] ?_
 clear H; intro _ _ H; dsimp only [setL, delL] at H
 refine RW.v ?_
 refine RW.nil ?_
 refine W.rg [(0, .func (.yield b18) #[] #[]), (1, pp b14), (2, pp b15), (3, pp b16), (5, pp b23)] fun TA => ?_
 refine W.seq ?_
 refine W.seq (W.region ?_)
 refine RW.v ?_
 refine RW.ld H 4 2 ?_
 refine RW.ld H 0 2 ?_
 refine RW.yieldL H 1 rfl hl20 (by kernel_rfl) (by kernel_rfl) rfl rfl rfl rfl rfl (by kernel_rfl) ?_
 refine W.rg [(4, pp b10), (5, pp b11), (6, pp b12), (7, pp b13), (16, .func (.func 79) #[] #[pp b14, pp b15, pp b16]), (17, .agg #[.int .i64 2, .int .i64 k]), (18, .agg #[.int .i64 1, .int .i64 70])] fun TA => ?_
 refine W.region ?_
 refine RW.mk H (.row ⟨[.int .i64 0, .int .i64 0], 27, false⟩) ?_
 clear H; intro _ b24 _ H
 refine RW.st H 0 [.int .i64 1, .int .i64 70] [.int .i64 1, .int .i64 70] ?_
 clear H; intro _ _ H; dsimp only [setL, delL] at H
 refine RW.nil ?_
 refine ⟨rfl, _, _, _, 2, H, rfl, ?_⟩
 clear H; intro _ lq25 hq26 H
 dsimp only [setL, delL] at H
 refine W.rg [(4, pp b10), (5, pp b11), (6, pp b12), (7, pp b13), (9, pp b24), (16, .func (.func 79) #[] #[pp b14, pp b15, pp b16]), (18, .agg #[.int .i64 1, .int .i64 70])] fun TA => ?_
 refine W.block ?_
 refine W.seq ?_
 refine W.seq (W.region ?_)
 refine RW.ld H 8 1 ?_
 iterate 2 refine RW.v ?_
 refine RW.nil ?_
 refine W.c0 ?_
 refine W.skip ?_
 refine W.region ?_
 refine RW.ld H 8 1 ?_
 refine RW.ld H 0 2 ?_
 refine RW.mkL H (x := .row ⟨[.int .i64 1, .int .i64 70], 27, false⟩) (fm := fun b => .slice (some ⟨b, 0, none⟩) 1 1) (by kernel_rfl) (by kernel_rfl) (by kernel_rfl) (by kernel_rfl) ?_
 clear H; intro _ b27 _ H
 replace H := H.nilSl 27 2
 refine RW.appL H 0 1 (n := 1) (e2 := 27) (by kernel_rfl) (by kernel_rfl) rfl rfl rfl rfl rfl rfl rfl rfl (by kernel_rfl) (by kernel_rfl) (by kernel_rfl) (by decide) (by decide) rfl rfl (by omega) (by kernel_rfl) ?_
 clear H; intro _ v28 _ H
 dsimp only [setL, delL] at H
 refine RW.stL H 9 (vs := [v28]) (cs' := [v28]) (by kernel_rfl) (by kernel_rfl) rfl rfl rfl (H.sl 0 rfl).one (gr_all (H.sl 0 rfl)) (by kernel_rfl) (Nat.le_of_ble_eq_true rfl) rfl (by kernel_rfl) ?_
 clear H; intro _ _ H; dsimp only [setL, delL] at H
 refine RW.nil ?_
 replace H := (H.del 1)
 dsimp only [setL, delL] at H
 refine blkQ_normal ?_
 refine ⟨_, _, _, 2, true, .ready, none, H, rfl, rfl, ?_⟩
 clear H; intro _ lr29 _ hr30 H
 dsimp only [setL, delL] at H
 refine RW.v ?_
 refine RW.nil ?_
 replace H := (H.del 1)
 dsimp only [setL, delL] at H
 refine W.c0 ?_
 refine W.skip ?_
 refine W.region ?_
 refine RW.ld H 5 1 ?_
 refine RW.ld H 4 2 ?_
 refine RW.cl ?_
 refine ⟨_, _, (cdrY_call H.abs hf), ?_⟩
 iterate 3 refine RW.v ?_
 refine RW.st H 4 [.int .i64 1, .int .i64 71] [.int .i64 1, .int .i64 71] ?_
 clear H; intro _ _ H; dsimp only [setL, delL] at H
 refine RW.nil ?_
 refine blkQ_normal ?_
 refine WL.once ?_
 refine W.rg [(0, .func (.yield b18) #[] #[]), (1, pp b14), (2, pp b15), (3, pp b16)] fun TA => ?_
 refine W.seq ?_
 refine W.seq (W.region ?_)
 refine RW.ld H 5 1 ?_
 refine RW.ld H 4 2 ?_
 refine RW.cl ?_
 refine WC.enter (fn := Tryz.f80) Tryz.func80 rfl ?_
 refine W.rg [(0, pp h), (1, .agg #[.int .i64 1, .int .i64 71])] fun TA => ?_
 refine W.seq (W.region ?_)
 refine RW.mk H (.row ⟨[.int .i64 1, .int .i64 71], 27, false⟩) ?_
 clear H; intro _ b31 _ H
 refine RW.v ?_
 refine RW.nil ?_
 refine W.rg [(0, pp h), (3, pp b31)] fun TA => ?_
 refine W.seq (W.region ?_)
 refine RW.v ?_
 refine RW.ld H 0 1 ?_
 iterate 2 refine RW.v ?_
 refine RW.skip (by rfl) (by kernel_rfl) ?_
 refine RW.skip (by rfl) (by kernel_rfl) ?_
 refine RW.skip (by rfl) (by kernel_rfl) ?_
 iterate 2 refine RW.v ?_
 refine RW.nil ?_
 replace H := (H.del 0)
 dsimp only [setL, delL] at H
 refine W.ret ?_
 refine endG (by rfl) (by exact resL_tmp rfl) ?_
 refine RW.nil ?_
 refine W.c0 ?_
 refine W.exit _ ?_
 refine seqQ_exit ?_
 refine onceQ_exit ?_
 refine blkQ_here ?_
 refine W.region ?_
 refine RW.ld H 3 1 ?_
 refine RW.ld H 4 2 ?_
 refine RW.v ?_
 refine RW.st H 6 [.int .i64 1, .int .i64 71] [.int .i64 1, .int .i64 71] ?_
 clear H; intro _ _ H; dsimp only [setL, delL] at H
 refine RW.nil ?_
 refine endG (by rfl) (by exact rfl) ?_
 refine ⟨_, _, _, 1, _, _, _, _, H, rfl, hr30, rfl, rfl, ?_⟩
 clear H; intro _ H
 dsimp only [setL, delL] at H
 refine blkQ_normal ?_
 refine W.rg [(4, pp b10), (5, pp b11), (6, pp b12), (7, pp b13), (16, .func (.func 79) #[] #[pp b14, pp b15, pp b16])] fun TA => ?_
 refine W.seq ?_
 refine W.seq (W.region ?_)
 refine RW.ld H 5 2 ?_
 refine RW.cl ?_
 refine WC.enter (fn := Tryz.f52) Tryz.func52 rfl ?_
 refine W.rg [(0, .agg #[.int .i64 1, .int .i64 71])] fun TA => ?_
 refine W.seq (W.region ?_)
 refine RW.mk H (.row ⟨[.int .i64 1, .int .i64 71], 27, false⟩) ?_
 clear H; intro _ b32 _ H
 refine RW.v ?_
 refine RW.nil ?_
 refine W.rg [(1, pp b32)] fun TA => ?_
 refine W.seq ?_
 refine W.drawn (by kernel_rfl) (by kernel_rfl) H.gn ?_
 have H33 := H
 refine RW.ld H33 0 2 ?_
 refine RW.cl ?_
 refine WC.enter (fn := Tryz.f74) Tryz.func74 rfl ?_
 replace H := H33
 refine W.rg [] fun TA => ?_
 refine W.seq (W.region ?_)
 refine RW.mk H (.row ⟨[.int .i64 0, .int .i64 0], 27, false⟩) ?_
 clear H; intro _ b34 _ H
 refine RW.nil ?_
 refine W.rg [(0, pp b34)] fun TA => ?_
 refine W.seq (W.region ?_)
 refine RW.val (v := .agg #[.int .i64 1, .int .i64 0]) (by kernel_rfl) (by kernel_rfl) (by kernel_rfl) (by kernel_rfl) ?_
 refine RW.st H 0 [.int .i64 1, .int .i64 0] [.int .i64 1, .int .i64 0] ?_
 clear H; intro _ _ H; dsimp only [setL, delL] at H
 refine RW.nil ?_
 refine W.ret ?_
 refine endG (by rfl) (by exact resL_cell rfl (H.get 0 rfl) (by rw [uT_eq]; exact Tryz.underlying27) (by kernel_rfl) rfl rfl rfl) ?_
 have H35 := H
 refine RW.vop (v := .bool false) (by kernel_rfl) (by kernel_rfl) (vop_eqS (b := false) (r := false) rfl (.inl ⟨rfl, rfl⟩) rfl rfl rfl rfl (by kernel_rfl) (fun w => (eqWd _ _ _ _ w).trans (by simp))) (by kernel_rfl) ?_
 refine RW.v ?_
 refine RW.nil ?_
 refine ⟨⟨by kernel_rfl, ⟨dyn_row (H33.get 0 rfl) (H35.get 1 rfl) ⟨fun h => Bool.noConfusion h, fun _ => H33.get 0 rfl, fun h => Bool.noConfusion h, fun h => Bool.noConfusion h, trivial⟩, trivial, trivial, trivial, trivial⟩⟩, ?_⟩
 replace H := H35
 clear H33 H35
 replace H := ((H.del 1).del 0)
 dsimp only [setL, delL] at H
 refine W.ret ?_
 refine endG (by rfl) (by exact resL_tmp rfl) ?_
 refine RW.v ?_
 refine RW.nil ?_
 replace H := ((((H.del 5).del 4).del 3).del 2)
 dsimp only [setL, delL] at H
 refine W.c1 ?_
 refine W.seq (W.region ?_)
 refine RW.st H 4 [.slice none 0 0] [.slice none 0 0] ?_
 clear H; intro _ _ H; dsimp only [setL, delL] at H
 refine RW.st H 3 [.int .i64 6] [.int .i64 6] ?_
 clear H; intro _ _ H; dsimp only [setL, delL] at H
 refine RW.nil ?_
 replace H := ((H.del 2).del 0)
 dsimp only [setL, delL] at H
 refine W.ret ?_
 refine seqQ_ret ?_
 refine endMark H 0 rfl fun _ H => ?_
 dsimp only [setL, delL] at H
 refine endGD0 (by rfl) (by exact resL_cell rfl (H.get 1 rfl) (by rw [uT_eq]; exact Tryz.underlying33) (by kernel_rfl) rfl rfl (by exact resL_cell rfl (H.get 0 rfl) (by rw [uT_eq]; exact Tryz.underlying30) (by kernel_rfl) rfl rfl rfl)) ?_
 iterate 5 refine RW.v ?_
 refine RW.nil ?_
 replace H := (((H.del 2).del 1).del 0)
 dsimp only [setL, delL] at H
 refine W.rg [(6, slV), (7, .slice none 0 0), (8, .int .i64 6)] fun TA => ?_
 refine W.seq (W.region ?_)
 iterate 6 refine RW.v ?_
 refine RW.nil ?_
 refine W.ret ?_
 refine endG (by rfl) (by exact resL_tmp (by exact resL_tmp (by exact resL_tmp rfl))) ?_
 iterate 4 refine RW.v ?_
 refine RW.mk H (.row ⟨[.int .i64 0], 30, false⟩) ?_
 clear H; intro _ b36 _ H
 iterate 2 refine RW.v ?_
 refine RW.st H 0 [.int .i64 6] [.int .i64 6] ?_
 clear H; intro _ _ H; dsimp only [setL, delL] at H
 refine RW.nil ?_
 refine W.rg [(4, pp b1), (5, pp b2), (6, pp b3), (7, pp b4), (8, pp b5), (9, pp b6), (11, slV), (12, .slice none 0 0), (13, pp b36)] fun TA => ?_
 refine W.seq ?_
 refine W.seq (W.region ?_)
 refine RW.ld H 0 1 ?_
 refine RW.v ?_
 refine RW.nil ?_
 refine W.c1 ?_
 refine W.seq ?_
 refine W.drawn (by kernel_rfl) (by kernel_rfl) H.gn ?_
 have H37 := H
 refine RW.val (v := .agg #[.int .i64 0, .int .i64 0]) (by kernel_rfl) (by kernel_rfl) (by kernel_rfl) (by kernel_rfl) ?_
 refine RW.val (v := .agg #[.int .i64 0, .int .i64 0]) (by kernel_rfl) (by kernel_rfl) (by kernel_rfl) (by kernel_rfl) ?_
 refine RW.ld H37 0 1 ?_
 refine RW.stD H37 2 (vs := [.int .i64 0, .int .i64 0]) (cs' := [.int .i64 0, .int .i64 0]) (by kernel_rfl) (by kernel_rfl) rfl rfl rfl rfl rfl (by kernel_rfl) (Nat.le_of_ble_eq_true rfl) rfl (by kernel_rfl) ?_
 intro _ H38
 dsimp only [setL, delL] at H38
 refine RW.stD H38 1 (vs := [.int .i64 0, .int .i64 0]) (cs' := [.int .i64 0, .int .i64 0]) (by kernel_rfl) (by kernel_rfl) rfl rfl rfl rfl rfl (by kernel_rfl) (Nat.le_of_ble_eq_true rfl) rfl (by kernel_rfl) ?_
 intro _ H39
 dsimp only [setL, delL] at H39
 refine RW.v ?_
 refine RW.nil ?_
 refine ⟨⟨by kernel_rfl, ⟨trivial, trivial, dyn_row (H37.get 0 rfl) (H39.get 0 rfl) ⟨fun h => Bool.noConfusion h, fun h => Bool.noConfusion h, fun h => Bool.noConfusion h, fun _ => H37.get 0 rfl, fun _ => H38.get 0 rfl, fun h => Bool.noConfusion h, trivial⟩, trivial, trivial, trivial, trivial⟩⟩, ?_⟩
 replace H := H39
 clear H37 H38 H39
 replace H := (((((H.del 6).del 5).del 4).del 3).del 0)
 dsimp only [setL, delL] at H
 refine W.ret ?_
 refine seqQ_ret ?_
 refine endG (by rfl) (by exact resL_cell rfl (H.get 1 rfl) (by rw [uT_eq]; exact Tryz.underlying27) (by kernel_rfl) rfl rfl (by exact resL_cell rfl (H.get 0 rfl) (by rw [uT_eq]; exact Tryz.underlying27) (by kernel_rfl) rfl rfl (by exact resL_tmp rfl))) ?_
 exact ⟨rfl, ((H.del 1).del 0).back leV⟩
end
end Go.Proofs.YtaaebeiigkhcjaaGreatDoor
namespace Go.Proofs.YtaaebeiigkhcjaaGreatDoor
set_option maxRecDepth 100000
theorem row_vw1 {σ : Mem} {b : Nat} {x : Wd} {t : TypeId} {g : Bool} (H : σ.get b = some (.row ⟨[.int .i64 x.1, .int .i64 x.2], t, g⟩)) : Vw σ (.slice (some ⟨b, 0, none⟩) 1 1) [x] :=
 ⟨by kernel_rfl, fun _ => .some H rfl fun i z hi => by rw [Nat.zero_add]; exact hi⟩
theorem rowsH_at {σ : Mem} (h1 : GNull σ.get) (h2 : GTee σ.get) : RowsAt rowsH σ := fun g cs hm => by
 unfold rowsH at hm
 simp only [List.mem_cons, Prod.mk.injEq, List.mem_nil_iff, or_false] at hm
 rcases hm with ⟨rfl, rfl⟩ | ⟨rfl, rfl⟩
 ·exact h1
 ·exact h2
set_option maxHeartbeats 16000000 in
theorem names_wc {σ0 : Mem} (hG : G66 ≤ σ0.next) (h16 : 16 ≤ G66) (hno : σ0.abs = Abs.no) (hN : GNull σ0.get) (hTee : GTee σ0.get) :
  WC G66 Tryz.prog 3 #[] σ0 fun v _ => v = .bool true := by
 have H := Lies.start hG hno
 generalize σ0.get = F at H hN hTee
 refine WC.enter (fn := Tryz.f3) Tryz.func3 rfl ?_
 refine W.rg [] fun TA => ?_
 refine W.seq (W.region ?_)
 refine RW.v ?_
 refine RW.nil ?_
 refine W.rg [] fun TA => ?_
 refine W.seq (W.region ?_)
 refine RW.cl ?_
 refine WC.enter (fn := Tryz.f7) Tryz.func7 rfl ?_
 refine W.rg [] fun TA => ?_
 refine W.seq (W.region ?_)
 iterate 2 refine RW.v ?_
 refine RW.nil ?_
 refine W.rg [] fun TA => ?_
 refine W.seq (W.region ?_)
 refine RW.cl ?_
 refine ((new_lies (G := G66) 2000 (by decide) (by decide) H).mono ?_)
 clear H
 rintro _ _ ⟨h, rfl, H⟩
 obtain ⟨m0, hm⟩ : ∃ m, m = hm0 2000 := ⟨_, rfl⟩
 rw [← hm] at H
 have M0 : m0.many ≤ 0 := by rw [hm, hm0_many]; exact Nat.le_refl _
 have L0 : m0.limit = 2000 := by rw [hm]
 have F0 : m0.free = [] := by rw [hm]
 clear hm
 iterate 5 refine RW.v ?_
 refine RW.nil ?_
 refine W.rg [(2, pp h), (3, .int .i64 0)] fun TA => ?_
 refine W.seq (W.region ?_)
 iterate 5 refine RW.v ?_
 refine RW.nil ?_
 refine W.ret ?_
 refine endG (by rfl) (by exact resL_tmp (by exact resL_tmp rfl)) ?_
 iterate 5 refine RW.v ?_
 refine RW.nil ?_
 refine W.rg [(1, pp h), (2, .bool true)] fun TA => ?_
 refine W.seq ?_
 refine W.seq (W.region ?_)
 refine RW.cl ?_
 refine ⟨_, _, (s_lives h16 _ (rowsH_at (hN.le H.old) (hTee.le H.old))), ?_⟩
 iterate 2 refine RW.v ?_
 refine RW.val (by rfl) (by kernel_rfl) rfl (by kernel_rfl) ?_
 refine RW.val (by rfl) (by kernel_rfl) rfl (by kernel_rfl) ?_
 refine RW.v ?_
 refine RW.nil ?_
 refine W.c0 ?_
 refine W.skip ?_
 refine W.seq (W.region ?_)
 refine RW.cl ?_
 refine ⟨_, _, s_nilK (G := G66), ?_⟩
 refine RW.mk H (.row ⟨[.int .i64 0, .int .i64 0], 27, false⟩) ?_
 clear H; intro _ b1 _ H
 refine RW.st H 0 [.int .i64 1, .int .i64 0] [.int .i64 1, .int .i64 0] ?_
 clear H; intro _ _ H; dsimp only [setL, delL] at H
 refine RW.nil ?_
 refine W.rg [(1, pp h), (3, pp b1)] fun TA => ?_
 refine W.seq (W.region ?_)
 refine RW.v ?_
 refine RW.cl ?_
 refine ((word5_wc (h := h) (m := m0) H.gn H.abs F0 (by omega) (by omega)).mono ?_)
 rintro _ _ ⟨m1, i0, j0, rfl, E1, fa0, fb0, K⟩
 replace H := H.then K
 clear K
 dsimp only [List.nil_append, List.cons_append] at H
 have M1 : m1.many ≤ 2 := by have := E1.many; (try simp only [List.length_cons, List.length_nil] at this); omega
 have L1 : m1.limit = 2000 := E1.lim.trans L0
 have lo1 : 0 < m1.limit := by omega
 have F1 := E1.free
 refine RW.mk H (.row ⟨[.int .i64 0, .int .i64 0], 27, false⟩) ?_
 clear H; intro _ b2 _ H
 refine RW.st H 0 [.int .i64 2, .int .i64 i0] [.int .i64 2, .int .i64 i0] ?_
 clear H; intro _ _ H; dsimp only [setL, delL] at H
 refine RW.nil ?_
 refine W.rg [(1, pp h), (3, pp b1), (4, pp b2)] fun TA => ?_
 refine W.seq ?_
 refine W.drawn (by kernel_rfl) (by kernel_rfl) H.gn ?_
 have H3 := H
 refine RW.v ?_
 refine RW.ld H3 0 2 ?_
 refine RW.ld H3 1 2 ?_
 refine RW.v ?_
 refine RW.cl ?_
 refine ((word2s_wc (h := h) (m := m1) H3.gn H3.abs F1 (by omega) (by omega)).mono ?_)
 rintro _ _ ⟨m2, rfl, E2, K4⟩
 have H5 := H3.then K4
 dsimp only [List.nil_append, List.cons_append] at H5
 have M2 : m2.many ≤ 4 := by have := E2.many; (try simp only [List.length_cons, List.length_nil] at this); omega
 have L2 : m2.limit = 2000 := E2.lim.trans L1
 have lo2 : 0 < m2.limit := by omega
 have F2 := E2.free
 replace fa0 := E2.finds _ _ fa0
 replace fb0 := E2.finds _ _ fb0
 refine RW.cl ?_
 refine ((add0_wc (vw := ((2, i0) : Wd)) (f := (1, 70)) (ws := [((2, i0) : Wd)]) (h := h) (m := m2) H5.gn H5.abs lo2 (hN.le H5.old) (.one (Good.lam fa0 fb0) rfl) (Nat.le_of_ble_eq_true rfl) (.atom (.inr rfl)) rfl (fun y hy => by rcases List.mem_singleton.1 hy with rfl; exact (Good.lam fa0 fb0)) (has_false fun y hy => by rcases List.mem_singleton.1 hy with rfl; rw [keyW_atom (.inr rfl), keyW_lam fa0 fb0]; decide) F2 (by show _ + 1 + 3 ≤ _; omega) (by omega)).mono ?_)
 rintro _ _ ⟨rfl, K6⟩
 have H7 := H5.then K6
 dsimp only [List.nil_append, List.cons_append] at H7
 obtain ⟨m3, hmx⟩ : ∃ x, x = (built m2 [(1, 70), ((2, i0) : Wd)] (1, 0)).1 := ⟨_, rfl⟩
 obtain ⟨av, hav⟩ : ∃ x, x = (built m2 [(1, 70), ((2, i0) : Wd)] (1, 0)).2 := ⟨_, rfl⟩
 have E3 : ExtH m2 m3 2 := hmx ▸ ext_built F2 [(1, 70), ((2, i0) : Wd)] (1, 0)
 have hA : ListR m3 av [(1, 70), ((2, i0) : Wd)] := by rw [hmx, hav]; exact .built
 rw [← hmx] at H7
 rw [← hav]
 clear hmx hav
 have M3 : m3.many ≤ 6 := by have := E3.many; (try simp only [List.length_cons, List.length_nil] at this); omega
 have L3 : m3.limit = 2000 := E3.lim.trans L2
 have lo3 : 0 < m3.limit := by omega
 have F3 := E3.free
 replace fa0 := E3.finds _ _ fa0
 replace fb0 := E3.finds _ _ fb0
 iterate 4 refine RW.v ?_
 refine RW.mkD H7 (x := .row ⟨[.int .i64 0, .int .i64 0], 27, false⟩) (fm := fun b => .pointer (some ⟨b, 0, none⟩)) (by kernel_rfl) (by kernel_rfl) (by kernel_rfl) (by kernel_rfl) ?_
 intro _ b8 H9
 refine RW.mkD H9 (x := .row ⟨[.int .i64 0, .int .i64 0], 27, false⟩) (fm := fun b => .pointer (some ⟨b, 0, none⟩)) (by kernel_rfl) (by kernel_rfl) (by kernel_rfl) (by kernel_rfl) ?_
 intro _ b10 H11
 refine RW.stD H11 1 (vs := [.int .i64 av.1, .int .i64 av.2]) (cs' := [.int .i64 av.1, .int .i64 av.2]) (by kernel_rfl) (by kernel_rfl) rfl rfl rfl rfl rfl (by kernel_rfl) (Nat.le_of_ble_eq_true rfl) rfl (by kernel_rfl) ?_
 intro _ H12
 dsimp only [setL, delL] at H12
 refine RW.stD H12 0 (vs := [.int .i64 1, .int .i64 0]) (cs' := [.int .i64 1, .int .i64 0]) (by kernel_rfl) (by kernel_rfl) rfl rfl rfl rfl rfl (by kernel_rfl) (Nat.le_of_ble_eq_true rfl) rfl (by kernel_rfl) ?_
 intro _ H13
 dsimp only [setL, delL] at H13
 refine RW.v ?_
 refine RW.nil ?_
 refine ⟨⟨by kernel_rfl, ⟨trivial, dyn_row (H3.get 0 rfl) (H13.get 2 rfl) ⟨fun h => Bool.noConfusion h, fun h => Bool.noConfusion h, fun h => Bool.noConfusion h, fun h => Bool.noConfusion h, fun _ => H3.get 0 rfl, fun _ => H5.get 0 rfl, fun h => Bool.noConfusion h, fun h => Bool.noConfusion h, fun h => Bool.noConfusion h, fun h => Bool.noConfusion h, fun h => Bool.noConfusion h, fun h => Bool.noConfusion h, fun _ => H11.get 2 rfl, fun _ => H12.get 2 rfl, fun h => Bool.noConfusion h, trivial⟩, dyn_row (H3.get 1 rfl) (H13.get 3 rfl) ⟨fun h => Bool.noConfusion h, fun h => Bool.noConfusion h, fun h => Bool.noConfusion h, fun h => Bool.noConfusion h, fun _ => H3.get 1 rfl, fun _ => H5.get 1 rfl, fun h => Bool.noConfusion h, fun h => Bool.noConfusion h, fun h => Bool.noConfusion h, fun h => Bool.noConfusion h, fun h => Bool.noConfusion h, fun h => Bool.noConfusion h, fun _ => H11.get 3 rfl, fun _ => H12.get 3 rfl, fun h => Bool.noConfusion h, trivial⟩, trivial, trivial, trivial, trivial, trivial, trivial, trivial, Or.inl (by kernel_rfl), Or.inl (by kernel_rfl), trivial, trivial, trivial, trivial⟩⟩, ?_⟩
 replace H := H13
 clear H3 H5 H7 H9 H11 H12 H13
 refine W.rg [(1, pp h), (3, pp b1), (4, pp b2), (5, pp b8), (6, pp b10), (7, .int .i64 0)] fun TA => ?_
 refine W.seq (W.region ?_)
 refine RW.v ?_
 refine RW.ld H 1 2 ?_
 refine RW.cl ?_
 refine ((slice_k (l := [(1, 70), ((2, i0) : Wd)]) (h := h) (m := m3) hA.choose_spec.1 H.gn H.abs lo3 hA.choose_spec.2 (Nat.le_of_ble_eq_true rfl)).mono ?_)
 rintro _ _ ⟨sa, rfl, K⟩
 replace H := H.then K
 clear K
 dsimp only [List.nil_append, List.cons_append] at H
 obtain ⟨F, lesa, hSsa, H⟩ := H.freezeSl 0 rfl
 dsimp only [setL, delL] at H
 replace hN := hN.le lesa
 replace hTee := hTee.le lesa
 clear lesa
 iterate 5 refine RW.v ?_
 refine RW.nil ?_
 refine W.rg [(1, pp h), (3, pp b1), (4, pp b2), (5, pp b8), (6, pp b10), (7, .int .i64 0), (8, sa)] fun TA => ?_
 refine W.seq ?_
 refine W.drawn (by kernel_rfl) (by kernel_rfl) H.gn ?_
 have H14 := H
 refine RW.v ?_
 refine RW.ld H14 1 2 ?_
 refine RW.ld H14 0 2 ?_
 refine RW.v ?_
 refine RW.cl ?_
 refine ((word5_wc (h := h) (m := m3) H14.gn H14.abs F3 (by omega) (by omega)).mono ?_)
 rintro _ _ ⟨m4, i1, j1, rfl, E4, fa1, fb1, K15⟩
 have H16 := H14.then K15
 dsimp only [List.nil_append, List.cons_append] at H16
 have M4 : m4.many ≤ 8 := by have := E4.many; (try simp only [List.length_cons, List.length_nil] at this); omega
 have L4 : m4.limit = 2000 := E4.lim.trans L3
 have lo4 : 0 < m4.limit := by omega
 have F4 := E4.free
 replace fa0 := E4.finds _ _ fa0
 replace fb0 := E4.finds _ _ fb0
 replace hA := hA.mono E4.finds
 refine RW.cl ?_
 refine ((add_found (vw := av) (p := (1, 0)) (f := (2, i1)) (fs := []) (c := fun _ => (1, 0)) (ws := [(1, 70), ((2, i0) : Wd)]) (es := []) (h := h) (m := m4) H16.gn H16.abs lo4 (hN.le H16.old) ((hA.elem fun y hy => ((show ∀ y ∈ ([(1, 70), ((2, i0) : Wd)] : List Wd), Fine y ∧ Good m4 y from fun y hy => by rcases List.mem_cons.1 hy with rfl | hy; exact ⟨fun _ => (by decide), .atom (.inr rfl)⟩; rcases List.mem_singleton.1 hy with rfl; exact ⟨fun e => absurd e (by show ¬ (2 : Int) = 1; decide), (Good.lam fa0 fb0)⟩) y hy).1).elems lo4 (Nat.le_of_ble_eq_true rfl)) rfl ⟨rfl, fun j hj => absurd hj (Nat.not_lt_zero _)⟩ (by decide) (Nat.le_of_ble_eq_true rfl) (Good.lam fa1 fb1) rfl (fun y hy => ((show ∀ y ∈ ([(1, 70), ((2, i0) : Wd)] : List Wd), Fine y ∧ Good m4 y from fun y hy => by rcases List.mem_cons.1 hy with rfl | hy; exact ⟨fun _ => (by decide), .atom (.inr rfl)⟩; rcases List.mem_singleton.1 hy with rfl; exact ⟨fun e => absurd e (by show ¬ (2 : Int) = 1; decide), (Good.lam fa0 fb0)⟩) y hy).2) (by decide) (by decide) (has_true (y := ((2, i0) : Wd)) (by simp) (by rw [keyW_lam fa1 fb1, keyW_lam fa0 fb0]))).mono ?_)
 rintro _ _ ⟨rfl, K17⟩
 have H18 := H16.then K17
 dsimp only [List.nil_append, List.cons_append] at H18
 iterate 4 refine RW.v ?_
 refine RW.mkD H18 (x := .row ⟨[.int .i64 0, .int .i64 0], 27, false⟩) (fm := fun b => .pointer (some ⟨b, 0, none⟩)) (by kernel_rfl) (by kernel_rfl) (by kernel_rfl) (by kernel_rfl) ?_
 intro _ b19 H20
 refine RW.mkD H20 (x := .row ⟨[.int .i64 0, .int .i64 0], 27, false⟩) (fm := fun b => .pointer (some ⟨b, 0, none⟩)) (by kernel_rfl) (by kernel_rfl) (by kernel_rfl) (by kernel_rfl) ?_
 intro _ b21 H22
 refine RW.stD H22 1 (vs := [.int .i64 av.1, .int .i64 av.2]) (cs' := [.int .i64 av.1, .int .i64 av.2]) (by kernel_rfl) (by kernel_rfl) rfl rfl rfl rfl rfl (by kernel_rfl) (Nat.le_of_ble_eq_true rfl) rfl (by kernel_rfl) ?_
 intro _ H23
 dsimp only [setL, delL] at H23
 refine RW.stD H23 0 (vs := [.int .i64 1, .int .i64 0]) (cs' := [.int .i64 1, .int .i64 0]) (by kernel_rfl) (by kernel_rfl) rfl rfl rfl rfl rfl (by kernel_rfl) (Nat.le_of_ble_eq_true rfl) rfl (by kernel_rfl) ?_
 intro _ H24
 dsimp only [setL, delL] at H24
 refine RW.v ?_
 refine RW.nil ?_
 refine ⟨⟨by kernel_rfl, ⟨trivial, dyn_row (H14.get 1 rfl) (H24.get 3 rfl) ⟨fun h => Bool.noConfusion h, fun h => Bool.noConfusion h, fun h => Bool.noConfusion h, fun h => Bool.noConfusion h, fun _ => H14.get 1 rfl, fun _ => H16.get 1 rfl, fun h => Bool.noConfusion h, fun h => Bool.noConfusion h, fun h => Bool.noConfusion h, fun h => Bool.noConfusion h, fun h => Bool.noConfusion h, fun h => Bool.noConfusion h, fun _ => H22.get 3 rfl, fun _ => H23.get 3 rfl, fun h => Bool.noConfusion h, trivial⟩, dyn_row (H14.get 0 rfl) (H24.get 2 rfl) ⟨fun h => Bool.noConfusion h, fun h => Bool.noConfusion h, fun h => Bool.noConfusion h, fun h => Bool.noConfusion h, fun _ => H14.get 0 rfl, fun _ => H16.get 0 rfl, fun h => Bool.noConfusion h, fun h => Bool.noConfusion h, fun h => Bool.noConfusion h, fun h => Bool.noConfusion h, fun h => Bool.noConfusion h, fun h => Bool.noConfusion h, fun _ => H22.get 2 rfl, fun _ => H23.get 2 rfl, fun h => Bool.noConfusion h, trivial⟩, trivial, trivial, trivial, trivial, trivial, trivial, trivial, Or.inl (by kernel_rfl), Or.inl (by kernel_rfl), trivial, trivial, trivial, trivial⟩⟩, ?_⟩
 replace H := H24
 clear H14 H16 H18 H20 H22 H23 H24
 refine W.rg [(1, pp h), (3, pp b1), (4, pp b2), (5, pp b8), (6, pp b10), (7, .int .i64 0), (8, sa), (10, pp b19), (11, pp b21), (12, .int .i64 0)] fun TA => ?_
 refine W.seq ?_
 refine W.drawn (by kernel_rfl) (by kernel_rfl) H.gn ?_
 have H25 := H
 refine RW.v ?_
 refine RW.ld H25 3 2 ?_
 refine RW.ld H25 2 2 ?_
 refine RW.v ?_
 refine RW.cl ?_
 refine ((word5_wc (h := h) (m := m4) H25.gn H25.abs F4 (by omega) (by omega)).mono ?_)
 rintro _ _ ⟨m5, i2, j2, rfl, E5, fa2, fb2, K26⟩
 have H27 := H25.then K26
 dsimp only [List.nil_append, List.cons_append] at H27
 have M5 : m5.many ≤ 10 := by have := E5.many; (try simp only [List.length_cons, List.length_nil] at this); omega
 have L5 : m5.limit = 2000 := E5.lim.trans L4
 have lo5 : 0 < m5.limit := by omega
 have F5 := E5.free
 replace fa0 := E5.finds _ _ fa0
 replace fb0 := E5.finds _ _ fb0
 replace fa1 := E5.finds _ _ fa1
 replace fb1 := E5.finds _ _ fb1
 replace hA := hA.mono E5.finds
 refine RW.cl ?_
 refine ((removeL (f := (2, i2)) (es := []) (h := h) (m := m5) H27.gn H27.abs lo5 (hN.le H27.old) hA ⟨fun _ => (1, 0), rfl, rfl, fun j hj => absurd hj (Nat.not_lt_zero _)⟩ (by decide) (Nat.le_of_ble_eq_true rfl) (Good.lam fa2 fb2) (show ∀ y ∈ ([(1, 70), ((2, i0) : Wd)] : List Wd), Fine y ∧ Good m5 y from fun y hy => by rcases List.mem_cons.1 hy with rfl | hy; exact ⟨fun _ => (by decide), .atom (.inr rfl)⟩; rcases List.mem_singleton.1 hy with rfl; exact ⟨fun e => absurd e (by show ¬ (2 : Int) = 1; decide), (Good.lam fa0 fb0)⟩) (fun _ h => by cases h) F5 (by show _ + 2 + 0 ≤ _; omega) (by omega)).mono ?_)
 rintro _ _ ⟨m6, cv, dq, rfl, E6, hC, hD, K28⟩
 have H29 := H27.then K28
 dsimp only [List.nil_append, List.cons_append] at H29
 have M6 : m6.many ≤ 12 := by have := E6.many; (try simp only [List.length_cons, List.length_nil] at this); omega
 have L6 : m6.limit = 2000 := E6.lim.trans L5
 have lo6 : 0 < m6.limit := by omega
 have F6 := E6.free
 obtain rfl := ListR.nil_eq hD
 rw [show ([(1, 70), ((2, i0) : Wd)] : List Wd).filter (fun y => !decide (keyW m5 (2, i2) = keyW m5 y)) = [(1, 70)] by simp [keyW_lam fa2 fb2, keyW_lam fa0 fb0, keyW_atom (m := m5) (x := (1, 70)) (.inr rfl)]] at hC
 replace fa0 := E6.finds _ _ fa0
 replace fb0 := E6.finds _ _ fb0
 replace fa1 := E6.finds _ _ fa1
 replace fb1 := E6.finds _ _ fb1
 replace fa2 := E6.finds _ _ fa2
 replace fb2 := E6.finds _ _ fb2
 replace hA := hA.mono E6.finds
 iterate 4 refine RW.v ?_
 refine RW.mkD H29 (x := .row ⟨[.int .i64 0, .int .i64 0], 27, false⟩) (fm := fun b => .pointer (some ⟨b, 0, none⟩)) (by kernel_rfl) (by kernel_rfl) (by kernel_rfl) (by kernel_rfl) ?_
 intro _ b30 H31
 refine RW.mkD H31 (x := .row ⟨[.int .i64 0, .int .i64 0], 27, false⟩) (fm := fun b => .pointer (some ⟨b, 0, none⟩)) (by kernel_rfl) (by kernel_rfl) (by kernel_rfl) (by kernel_rfl) ?_
 intro _ b32 H33
 refine RW.stD H33 1 (vs := [.int .i64 cv.1, .int .i64 cv.2]) (cs' := [.int .i64 cv.1, .int .i64 cv.2]) (by kernel_rfl) (by kernel_rfl) rfl rfl rfl rfl rfl (by kernel_rfl) (Nat.le_of_ble_eq_true rfl) rfl (by kernel_rfl) ?_
 intro _ H34
 dsimp only [setL, delL] at H34
 refine RW.stD H34 0 (vs := [.int .i64 1, .int .i64 0]) (cs' := [.int .i64 1, .int .i64 0]) (by kernel_rfl) (by kernel_rfl) rfl rfl rfl rfl rfl (by kernel_rfl) (Nat.le_of_ble_eq_true rfl) rfl (by kernel_rfl) ?_
 intro _ H35
 dsimp only [setL, delL] at H35
 refine RW.v ?_
 refine RW.nil ?_
 refine ⟨⟨by kernel_rfl, ⟨trivial, dyn_row (H25.get 3 rfl) (H35.get 5 rfl) ⟨fun h => Bool.noConfusion h, fun h => Bool.noConfusion h, fun h => Bool.noConfusion h, fun h => Bool.noConfusion h, fun _ => H25.get 3 rfl, fun _ => H27.get 3 rfl, fun h => Bool.noConfusion h, fun h => Bool.noConfusion h, fun h => Bool.noConfusion h, fun h => Bool.noConfusion h, fun h => Bool.noConfusion h, fun h => Bool.noConfusion h, fun _ => H33.get 5 rfl, fun _ => H34.get 5 rfl, fun h => Bool.noConfusion h, trivial⟩, dyn_row (H25.get 2 rfl) (H35.get 4 rfl) ⟨fun h => Bool.noConfusion h, fun h => Bool.noConfusion h, fun h => Bool.noConfusion h, fun h => Bool.noConfusion h, fun _ => H25.get 2 rfl, fun _ => H27.get 2 rfl, fun h => Bool.noConfusion h, fun h => Bool.noConfusion h, fun h => Bool.noConfusion h, fun h => Bool.noConfusion h, fun h => Bool.noConfusion h, fun h => Bool.noConfusion h, fun _ => H33.get 4 rfl, fun _ => H34.get 4 rfl, fun h => Bool.noConfusion h, trivial⟩, trivial, trivial, trivial, trivial, trivial, trivial, trivial, Or.inl (by kernel_rfl), Or.inl (by kernel_rfl), trivial, trivial, trivial, trivial⟩⟩, ?_⟩
 replace H := H35
 clear H25 H27 H29 H31 H33 H34 H35
 refine W.rg [(1, pp h), (3, pp b1), (4, pp b2), (5, pp b8), (6, pp b10), (7, .int .i64 0), (8, sa), (10, pp b19), (11, pp b21), (12, .int .i64 0), (13, pp b30), (14, pp b32), (15, .int .i64 0)] fun TA => ?_
 refine W.seq (W.region ?_)
 refine RW.v ?_
 refine RW.ld H 1 2 ?_
 refine RW.cl ?_
 refine ((slice_k (l := [(1, 70)]) (h := h) (m := m6) hC.choose_spec.1 H.gn H.abs lo6 hC.choose_spec.2 (Nat.le_of_ble_eq_true rfl)).mono ?_)
 rintro _ _ ⟨sc, rfl, K⟩
 replace H := H.then K
 clear K
 dsimp only [List.nil_append, List.cons_append] at H
 obtain ⟨F, lesc, hSsc, H⟩ := H.freezeSl 0 rfl
 dsimp only [setL, delL] at H
 replace hN := hN.le lesc
 replace hTee := hTee.le lesc
 replace hSsa := hSsa.le lesc
 clear lesc
 iterate 5 refine RW.v ?_
 refine RW.nil ?_
 replace H := (H.del 1)
 dsimp only [setL, delL] at H
 refine W.rg [(1, pp h), (3, pp b1), (4, pp b2), (5, pp b8), (6, pp b10), (7, .int .i64 0), (8, sa), (10, pp b19), (11, pp b21), (12, .int .i64 0), (14, pp b32), (15, .int .i64 0), (16, sc)] fun TA => ?_
 refine W.seq (W.region ?_)
 refine RW.v ?_
 refine RW.ld H 6 2 ?_
 refine RW.ld H 6 2 ?_
 refine RW.ld H 6 2 ?_
 refine RW.cl ?_
 refine ((add_null0 (h := h) (m := m6) H.gn H.abs lo6 (hN.le H.old)).mono ?_)
 rintro _ _ ⟨rfl, K⟩
 replace H := H.then K
 clear K
 dsimp only [List.nil_append, List.cons_append] at H
 iterate 4 refine RW.v ?_
 refine RW.mk H (.row ⟨[.int .i64 0, .int .i64 0], 27, false⟩) ?_
 clear H; intro _ b36 _ H
 refine RW.mk H (.row ⟨[.int .i64 0, .int .i64 0], 27, false⟩) ?_
 clear H; intro _ b37 _ H
 refine RW.st H 1 [.int .i64 0, .int .i64 0] [.int .i64 0, .int .i64 0] ?_
 clear H; intro _ _ H; dsimp only [setL, delL] at H
 refine RW.st H 0 [.int .i64 0, .int .i64 0] [.int .i64 0, .int .i64 0] ?_
 clear H; intro _ _ H; dsimp only [setL, delL] at H
 refine RW.v ?_
 refine RW.nil ?_
 replace H := ((H.del 1).del 0)
 dsimp only [setL, delL] at H
 refine W.rg [(1, pp h), (3, pp b1), (4, pp b2), (5, pp b8), (6, pp b10), (7, .int .i64 0), (8, sa), (10, pp b19), (11, pp b21), (12, .int .i64 0), (14, pp b32), (15, .int .i64 0), (16, sc), (20, .int .i64 6)] fun TA => ?_
 refine W.seq (W.region ?_)
 refine RW.v ?_
 refine RW.ld H 6 2 ?_
 refine RW.ld H 6 2 ?_
 refine RW.ld H 5 2 ?_
 refine RW.cl ?_
 refine ((add_high0 (f := ((2, i0) : Wd)) (h := h) (m := m6) H.gn H.abs lo6 (hN.le H.old)).mono ?_)
 rintro _ _ ⟨rfl, K⟩
 replace H := H.then K
 clear K
 dsimp only [List.nil_append, List.cons_append] at H
 iterate 4 refine RW.v ?_
 refine RW.mk H (.row ⟨[.int .i64 0, .int .i64 0], 27, false⟩) ?_
 clear H; intro _ b38 _ H
 refine RW.mk H (.row ⟨[.int .i64 0, .int .i64 0], 27, false⟩) ?_
 clear H; intro _ b39 _ H
 refine RW.st H 1 [.int .i64 0, .int .i64 0] [.int .i64 0, .int .i64 0] ?_
 clear H; intro _ _ H; dsimp only [setL, delL] at H
 refine RW.st H 0 [.int .i64 0, .int .i64 0] [.int .i64 0, .int .i64 0] ?_
 clear H; intro _ _ H; dsimp only [setL, delL] at H
 refine RW.v ?_
 refine RW.nil ?_
 replace H := ((H.del 1).del 0)
 dsimp only [setL, delL] at H
 refine W.rg [(1, pp h), (3, pp b1), (4, pp b2), (5, pp b8), (6, pp b10), (7, .int .i64 0), (8, sa), (10, pp b19), (11, pp b21), (12, .int .i64 0), (14, pp b32), (15, .int .i64 0), (16, sc), (20, .int .i64 6), (23, .int .i64 2)] fun TA => ?_
 refine W.seq (W.region ?_)
 refine RW.v ?_
 refine RW.cl ?_
 refine WC.enter (fn := Tryz.f15) Tryz.func15 rfl ?_
 refine W.rg [(0, .int .i64 70)] fun TA => ?_
 refine W.seq (W.region ?_)
 refine RW.mk H (.row ⟨[.int .i64 0, .int .i64 0], 27, false⟩) ?_
 clear H; intro _ b40 _ H
 refine RW.nil ?_
 refine W.rg [(0, .int .i64 70), (2, pp b40)] fun TA => ?_
 refine W.seq (W.region ?_)
 refine RW.v ?_
 refine RW.val (v := .agg #[.int .i64 1, .int .i64 70]) (by kernel_rfl) (by kernel_rfl) (by kernel_rfl) (by kernel_rfl) ?_
 refine RW.st H 0 [.int .i64 1, .int .i64 70] [.int .i64 1, .int .i64 70] ?_
 clear H; intro _ _ H; dsimp only [setL, delL] at H
 refine RW.nil ?_
 refine W.ret ?_
 refine endG (by rfl) (by exact resL_cell rfl (H.get 0 rfl) (by rw [uT_eq]; exact Tryz.underlying27) (by kernel_rfl) rfl rfl rfl) ?_
 refine RW.cl ?_
 refine WC.enter (fn := Tryz.f15) Tryz.func15 rfl ?_
 refine W.rg [(0, .int .i64 71)] fun TA => ?_
 refine W.seq (W.region ?_)
 refine RW.mk H (.row ⟨[.int .i64 0, .int .i64 0], 27, false⟩) ?_
 clear H; intro _ b41 _ H
 refine RW.nil ?_
 replace H := (H.del 1)
 dsimp only [setL, delL] at H
 refine W.rg [(0, .int .i64 71), (2, pp b41)] fun TA => ?_
 refine W.seq (W.region ?_)
 refine RW.v ?_
 refine RW.val (v := .agg #[.int .i64 1, .int .i64 71]) (by kernel_rfl) (by kernel_rfl) (by kernel_rfl) (by kernel_rfl) ?_
 refine RW.st H 0 [.int .i64 1, .int .i64 71] [.int .i64 1, .int .i64 71] ?_
 clear H; intro _ _ H; dsimp only [setL, delL] at H
 refine RW.nil ?_
 refine W.ret ?_
 refine endG (by rfl) (by exact resL_cell rfl (H.get 0 rfl) (by rw [uT_eq]; exact Tryz.underlying27) (by kernel_rfl) rfl rfl rfl) ?_
 refine RW.cl ?_
 refine ((cons_lies (h := h) (m := m6) (1, 70) (1, 71) H (by omega) F6).mono ?_)
 clear H
 rintro _ _ ⟨rfl, H⟩
 obtain ⟨m7, hmx⟩ : ∃ x, x = m6.push (.pair (1, 70) (1, 71)) := ⟨_, rfl⟩
 obtain ⟨kb, hkb⟩ : ∃ x : Int, x = (m6.objs.length : Int) := ⟨_, rfl⟩
 have E7 : ExtH m6 m7 1 := hmx ▸ ext_push F6 _
 have hbad : m7.find (2, kb) = some (.pair (1, 70) (1, 71)) := by rw [hmx, hkb]; exact find_pushed _ _ _
 rw [← hmx] at H
 rw [← hkb]
 clear hmx hkb
 have M7 : m7.many ≤ 13 := by have := E7.many; (try simp only [List.length_cons, List.length_nil] at this); omega
 have L7 : m7.limit = 2000 := E7.lim.trans L6
 have lo7 : 0 < m7.limit := by omega
 have F7 := E7.free
 replace fa0 := E7.finds _ _ fa0
 replace fb0 := E7.finds _ _ fb0
 replace fa1 := E7.finds _ _ fa1
 replace fb1 := E7.finds _ _ fb1
 replace fa2 := E7.finds _ _ fa2
 replace fb2 := E7.finds _ _ fb2
 replace hA := hA.mono E7.finds
 replace hC := hC.mono E7.finds
 iterate 3 refine RW.v ?_
 refine RW.mk H (.row ⟨[.int .i64 0, .int .i64 0], 27, false⟩) ?_
 clear H; intro _ b42 _ H
 refine RW.st H 0 [.int .i64 2, .int .i64 kb] [.int .i64 2, .int .i64 kb] ?_
 clear H; intro _ _ H; dsimp only [setL, delL] at H
 refine RW.v ?_
 refine RW.nil ?_
 replace H := (H.del 1)
 dsimp only [setL, delL] at H
 refine W.rg [(1, pp h), (3, pp b1), (4, pp b2), (5, pp b8), (6, pp b10), (7, .int .i64 0), (8, sa), (10, pp b19), (11, pp b21), (12, .int .i64 0), (14, pp b32), (15, .int .i64 0), (16, sc), (20, .int .i64 6), (23, .int .i64 2), (24, pp b42)] fun TA => ?_
 refine W.seq (W.region ?_)
 refine RW.v ?_
 refine RW.ld H 0 2 ?_
 refine RW.ld H 7 2 ?_
 refine RW.cl ?_
 refine ((fun_bad (h := h) (m := m7) hbad H.gn H.abs lo7 (hN.le H.old)).mono ?_)
 rintro _ _ ⟨rfl, K⟩
 replace H := H.then K
 clear K
 dsimp only [List.nil_append, List.cons_append] at H
 iterate 5 refine RW.v ?_
 refine RW.nil ?_
 refine W.rg [(1, pp h), (3, pp b1), (4, pp b2), (5, pp b8), (6, pp b10), (7, .int .i64 0), (8, sa), (10, pp b19), (11, pp b21), (12, .int .i64 0), (14, pp b32), (15, .int .i64 0), (16, sc), (20, .int .i64 6), (23, .int .i64 2), (24, pp b42), (27, .int .i64 6)] fun TA => ?_
 refine W.seq (W.region ?_)
 refine RW.v ?_
 refine RW.ld H 7 2 ?_
 refine RW.ld H 0 2 ?_
 refine RW.ld H 6 2 ?_
 refine RW.cl ?_
 refine ((rem_bad (w := ((2, i0) : Wd)) (h := h) (m := m7) hbad H.gn H.abs lo7 (hN.le H.old)).mono ?_)
 rintro _ _ ⟨rfl, K⟩
 replace H := H.then K
 clear K
 dsimp only [List.nil_append, List.cons_append] at H
 iterate 4 refine RW.v ?_
 refine RW.mk H (.row ⟨[.int .i64 0, .int .i64 0], 27, false⟩) ?_
 clear H; intro _ b43 _ H
 refine RW.mk H (.row ⟨[.int .i64 0, .int .i64 0], 27, false⟩) ?_
 clear H; intro _ b44 _ H
 refine RW.st H 1 [.int .i64 0, .int .i64 0] [.int .i64 0, .int .i64 0] ?_
 clear H; intro _ _ H; dsimp only [setL, delL] at H
 refine RW.st H 0 [.int .i64 0, .int .i64 0] [.int .i64 0, .int .i64 0] ?_
 clear H; intro _ _ H; dsimp only [setL, delL] at H
 refine RW.v ?_
 refine RW.nil ?_
 replace H := (((H.del 2).del 1).del 0)
 dsimp only [setL, delL] at H
 refine W.rg [(1, pp h), (3, pp b1), (4, pp b2), (5, pp b8), (6, pp b10), (7, .int .i64 0), (8, sa), (10, pp b19), (11, pp b21), (12, .int .i64 0), (14, pp b32), (15, .int .i64 0), (16, sc), (20, .int .i64 6), (23, .int .i64 2), (27, .int .i64 6), (30, .int .i64 6)] fun TA => ?_
 refine W.seq ?_
 refine W.drawn (by kernel_rfl) (by kernel_rfl) H.gn ?_
 have H45 := H
 refine RW.v ?_
 refine RW.ld H45 4 2 ?_
 refine RW.v ?_
 refine RW.cl ?_
 refine ((word5_wc (h := h) (m := m7) H45.gn H45.abs F7 (by omega) (by omega)).mono ?_)
 rintro _ _ ⟨m8, i3, j3, rfl, E8, fa3, fb3, K46⟩
 have H47 := H45.then K46
 dsimp only [List.nil_append, List.cons_append] at H47
 have M8 : m8.many ≤ 15 := by have := E8.many; (try simp only [List.length_cons, List.length_nil] at this); omega
 have L8 : m8.limit = 2000 := E8.lim.trans L7
 have lo8 : 0 < m8.limit := by omega
 have F8 := E8.free
 replace fa0 := E8.finds _ _ fa0
 replace fb0 := E8.finds _ _ fb0
 replace fa1 := E8.finds _ _ fa1
 replace fb1 := E8.finds _ _ fb1
 replace fa2 := E8.finds _ _ fa2
 replace fb2 := E8.finds _ _ fb2
 replace hbad := E8.finds _ _ hbad
 replace hA := hA.mono E8.finds
 replace hC := hC.mono E8.finds
 refine RW.cl ?_
 refine ((has_wc (x := (2, i3)) (ws := [(1, 70), ((2, i0) : Wd)]) (h := h) (m := m8) H47.gn H47.abs lo8 (hN.le H47.old) ((hA.elem fun y hy => ((show ∀ y ∈ ([(1, 70), ((2, i0) : Wd)] : List Wd), Fine y ∧ Good m8 y from fun y hy => by rcases List.mem_cons.1 hy with rfl | hy; exact ⟨fun _ => (by decide), .atom (.inr rfl)⟩; rcases List.mem_singleton.1 hy with rfl; exact ⟨fun e => absurd e (by show ¬ (2 : Int) = 1; decide), (Good.lam fa0 fb0)⟩) y hy).1).elems lo8 (Nat.le_of_ble_eq_true rfl)) (Nat.le_of_ble_eq_true rfl) (Good.lam fa3 fb3) (fun y hy => ((show ∀ y ∈ ([(1, 70), ((2, i0) : Wd)] : List Wd), Fine y ∧ Good m8 y from fun y hy => by rcases List.mem_cons.1 hy with rfl | hy; exact ⟨fun _ => (by decide), .atom (.inr rfl)⟩; rcases List.mem_singleton.1 hy with rfl; exact ⟨fun e => absurd e (by show ¬ (2 : Int) = 1; decide), (Good.lam fa0 fb0)⟩) y hy).2)).mono ?_)
 rw [show hasW m8 (2, i3) [(1, 70), ((2, i0) : Wd)] = true from has_true (y := ((2, i0) : Wd)) (by simp) (by rw [keyW_lam fa3 fb3, keyW_lam fa0 fb0])]
 rintro _ _ ⟨rfl, K48⟩
 have H49 := H47.then K48
 dsimp only [List.nil_append, List.cons_append] at H49
 iterate 5 refine RW.v ?_
 refine RW.nil ?_
 refine ⟨⟨by kernel_rfl, ⟨trivial, dyn_row (H45.get 4 rfl) (H49.get 4 rfl) ⟨fun h => Bool.noConfusion h, fun h => Bool.noConfusion h, fun h => Bool.noConfusion h, fun _ => H45.get 4 rfl, fun _ => H47.get 4 rfl, fun h => Bool.noConfusion h, fun h => Bool.noConfusion h, fun h => Bool.noConfusion h, fun h => Bool.noConfusion h, fun h => Bool.noConfusion h, trivial⟩, trivial, trivial, trivial, trivial, trivial, trivial, trivial, trivial, trivial⟩⟩, ?_⟩
 replace H := H49
 clear H45 H47 H49
 refine W.rg [(1, pp h), (3, pp b1), (4, pp b2), (5, pp b8), (6, pp b10), (7, .int .i64 0), (8, sa), (10, pp b19), (11, pp b21), (12, .int .i64 0), (14, pp b32), (15, .int .i64 0), (16, sc), (20, .int .i64 6), (23, .int .i64 2), (27, .int .i64 6), (30, .int .i64 6), (31, .bool true), (32, .int .i64 0)] fun TA => ?_
 refine W.seq ?_
 refine W.drawn (by kernel_rfl) (by kernel_rfl) H.gn ?_
 have H50 := H
 refine RW.v ?_
 refine RW.cl ?_
 refine WC.enter (fn := Tryz.f15) Tryz.func15 rfl ?_
 replace H := H50
 refine W.rg [(0, .int .i64 1)] fun TA => ?_
 refine W.seq (W.region ?_)
 refine RW.mk H (.row ⟨[.int .i64 0, .int .i64 0], 27, false⟩) ?_
 clear H; intro _ b51 _ H
 refine RW.nil ?_
 refine W.rg [(0, .int .i64 1), (2, pp b51)] fun TA => ?_
 refine W.seq (W.region ?_)
 refine RW.v ?_
 refine RW.val (v := .agg #[.int .i64 1, .int .i64 1]) (by kernel_rfl) (by kernel_rfl) (by kernel_rfl) (by kernel_rfl) ?_
 refine RW.st H 0 [.int .i64 1, .int .i64 1] [.int .i64 1, .int .i64 1] ?_
 clear H; intro _ _ H; dsimp only [setL, delL] at H
 refine RW.nil ?_
 refine W.ret ?_
 refine endG (by rfl) (by exact resL_cell rfl (H.get 0 rfl) (by rw [uT_eq]; exact Tryz.underlying27) (by kernel_rfl) rfl rfl rfl) ?_
 have H52 := H
 refine RW.ld H52 6 2 ?_
 refine RW.cl ?_
 refine ((functions_wc (h := h) (m := m8) (lw := (1, 1)) (gw := ((2, i0) : Wd)) (ws := [(1, 1)]) (us := [((2, i0) : Wd)]) H52.gn H52.abs lo8 (elems_T lo8) (elems_one (Good.lam fa0 fb0) rfl lo8) (Nat.le_of_ble_eq_true rfl) (Nat.le_of_ble_eq_true rfl) (hN.le H52.old) (hTee.le H52.old)).mono ?_)
 rintro _ _ ⟨sq, rfl, K53⟩
 have H54 := H52.then K53
 dsimp only [List.nil_append, List.cons_append] at H54
 replace H54 : Lies G66 (heapAbs h m8) F _ [.sl 27 2 sq (([((2, i0) : Wd)] : List Wd).length) (wdC [((2, i0) : Wd)]), .at_ b51 (.row ⟨[.int .i64 1, .int .i64 1], 27, false⟩), .at_ b32 (.row ⟨[.int .i64 1, .int .i64 0], 27, false⟩), .at_ b21 (.row ⟨[.int .i64 1, .int .i64 0], 27, false⟩), .at_ b19 (.row ⟨[.int .i64 av.1, .int .i64 av.2], 27, false⟩), .at_ b10 (.row ⟨[.int .i64 1, .int .i64 0], 27, false⟩), .at_ b8 (.row ⟨[.int .i64 av.1, .int .i64 av.2], 27, false⟩), .at_ b2 (.row ⟨[.int .i64 2, .int .i64 i0], 27, false⟩), .at_ b1 (.row ⟨[.int .i64 1, .int .i64 0], 27, false⟩)] := H54
 iterate 5 refine RW.v ?_
 refine RW.nil ?_
 refine ⟨⟨by kernel_rfl, ⟨trivial, trivial, dyn_row (H52.get 6 rfl) (H54.get 7 rfl) ⟨fun h => Bool.noConfusion h, fun _ => H50.get 5 rfl, fun h => Bool.noConfusion h, fun _ => H52.get 6 rfl, fun h => Bool.noConfusion h, fun h => Bool.noConfusion h, fun h => Bool.noConfusion h, fun h => Bool.noConfusion h, fun h => Bool.noConfusion h, trivial⟩, trivial, trivial, trivial, trivial, trivial, trivial, trivial⟩⟩, ?_⟩
 replace H := H54
 clear H50 H52 H54
 obtain ⟨F, lesq, hSsq, H⟩ := H.freezeSl 0 rfl
 dsimp only [setL, delL] at H
 replace hN := hN.le lesq
 replace hTee := hTee.le lesq
 replace hSsa := hSsa.le lesq
 replace hSsc := hSsc.le lesq
 clear lesq
 replace H := (H.del 0)
 dsimp only [setL, delL] at H
 refine W.rg [(3, pp b1), (4, pp b2), (5, pp b8), (6, pp b10), (7, .int .i64 0), (8, sa), (10, pp b19), (11, pp b21), (12, .int .i64 0), (14, pp b32), (15, .int .i64 0), (16, sc), (20, .int .i64 6), (23, .int .i64 2), (27, .int .i64 6), (30, .int .i64 6), (31, .bool true), (32, .int .i64 0), (33, sq), (34, .int .i64 0)] fun TA => ?_
 refine W.seq ?_
 refine W.drawn (by kernel_rfl) (by kernel_rfl) H.gn ?_
 have H55 := H
 iterate 3 refine RW.v ?_
 refine RW.val (by rfl) (by kernel_rfl) rfl (by kernel_rfl) ?_
 refine RW.cl (hw := by rfl) ?_
 refine WC.enter (fn := Tryz.f15) Tryz.func15 rfl ?_
 replace H := H55
 refine W.rg [(0, .int .i64 70)] fun TA => ?_
 refine W.seq (W.region ?_)
 refine RW.mk H (.row ⟨[.int .i64 0, .int .i64 0], 27, false⟩) ?_
 clear H; intro _ b56 _ H
 refine RW.nil ?_
 refine W.rg [(0, .int .i64 70), (2, pp b56)] fun TA => ?_
 refine W.seq (W.region ?_)
 refine RW.v ?_
 refine RW.val (v := .agg #[.int .i64 1, .int .i64 70]) (by kernel_rfl) (by kernel_rfl) (by kernel_rfl) (by kernel_rfl) ?_
 refine RW.st H 0 [.int .i64 1, .int .i64 70] [.int .i64 1, .int .i64 70] ?_
 clear H; intro _ _ H; dsimp only [setL, delL] at H
 refine RW.nil ?_
 refine W.ret ?_
 refine endG (by rfl) (by exact resL_cell rfl (H.get 0 rfl) (by rw [uT_eq]; exact Tryz.underlying27) (by kernel_rfl) rfl rfl rfl) ?_
 have H57 := H
 refine RW.ldL H57 6 2 (by rfl) (by kernel_rfl) rfl rfl rfl rfl rfl (by kernel_rfl) ?_
 refine RW.mkD H57 (x := .row ⟨[.int .i64 1, .int .i64 70, .int .i64 2, .int .i64 i0], 27, false⟩) (fm := fun b => .slice (some ⟨b, 0, none⟩) 2 2) (by rfl) (by kernel_rfl) (by kernel_rfl) (by kernel_rfl) ?_
 intro _ b58 H59
 refine RW.cl (hw := by rfl) ?_
 refine ((same_c rfl H59.gn (slf_vw (l := [(1, 70), ((2, i0) : Wd)]) hSsa H59) (row_vw (x := ((1, 70) : Wd)) (y := ((2, i0) : Wd)) (H59.get 0 rfl)) (Nat.le_of_ble_eq_true rfl)).mono ?_)
 rintro _ _ ⟨rfl, e⟩
 subst e
 iterate 2 refine RW.v ?_
 refine RW.val (by rfl) (by kernel_rfl) rfl (by kernel_rfl) ?_
 refine RW.val (by rfl) (by kernel_rfl) rfl (by kernel_rfl) ?_
 iterate 2 refine RW.v ?_
 refine RW.ldL H59 4 2 (by rfl) (by kernel_rfl) rfl rfl rfl rfl rfl (by kernel_rfl) ?_
 refine RW.ldL H59 6 2 (by rfl) (by kernel_rfl) rfl rfl rfl rfl rfl (by kernel_rfl) ?_
 refine RW.vop (v := .bool true) (by rfl) (by kernel_rfl) (vop_eqS (b := true) (r := true) rfl (.inl ⟨rfl, rfl⟩) rfl rfl rfl rfl (by kernel_rfl) (fun w => (eqWd _ _ _ _ w).trans (by simp))) (by kernel_rfl) ?_
 iterate 2 refine RW.v ?_
 refine RW.ldL H59 3 2 (by rfl) (by kernel_rfl) rfl rfl rfl rfl rfl (by kernel_rfl) ?_
 refine RW.ldL H59 5 2 (by rfl) (by kernel_rfl) rfl rfl rfl rfl rfl (by kernel_rfl) ?_
 refine RW.vop (v := .bool true) (by rfl) (by kernel_rfl) (vop_eqS (b := true) (r := true) rfl (.inl ⟨rfl, rfl⟩) rfl rfl rfl rfl (by kernel_rfl) (fun w => (eqWd _ _ _ _ w).trans (by simp))) (by kernel_rfl) ?_
 iterate 2 refine RW.v ?_
 refine RW.val (by rfl) (by kernel_rfl) rfl (by kernel_rfl) ?_
 refine RW.val (by rfl) (by kernel_rfl) rfl (by kernel_rfl) ?_
 iterate 2 refine RW.v ?_
 refine RW.ldL H59 2 2 (by rfl) (by kernel_rfl) rfl rfl rfl rfl rfl (by kernel_rfl) ?_
 refine RW.ldL H59 8 2 (by rfl) (by kernel_rfl) rfl rfl rfl rfl rfl (by kernel_rfl) ?_
 refine RW.vop (v := .bool true) (by rfl) (by kernel_rfl) (vop_eqS (b := true) (r := true) rfl (.inl ⟨rfl, rfl⟩) rfl rfl rfl rfl (by kernel_rfl) (fun w => (eqWd _ _ _ _ w).trans (by simp))) (by kernel_rfl) ?_
 iterate 2 refine RW.v ?_
 refine RW.val (by rfl) (by kernel_rfl) rfl (by kernel_rfl) ?_
 refine RW.cl (hw := by rfl) ?_
 refine WC.enter (fn := Tryz.f15) Tryz.func15 rfl ?_
 replace H := H59
 refine W.rg [(0, .int .i64 70)] fun TA => ?_
 refine W.seq (W.region ?_)
 refine RW.mk H (.row ⟨[.int .i64 0, .int .i64 0], 27, false⟩) ?_
 clear H; intro _ b60 _ H
 refine RW.nil ?_
 replace H := (H.del 2)
 dsimp only [setL, delL] at H
 refine W.rg [(0, .int .i64 70), (2, pp b60)] fun TA => ?_
 refine W.seq (W.region ?_)
 refine RW.v ?_
 refine RW.val (v := .agg #[.int .i64 1, .int .i64 70]) (by kernel_rfl) (by kernel_rfl) (by kernel_rfl) (by kernel_rfl) ?_
 refine RW.st H 0 [.int .i64 1, .int .i64 70] [.int .i64 1, .int .i64 70] ?_
 clear H; intro _ _ H; dsimp only [setL, delL] at H
 refine RW.nil ?_
 refine W.ret ?_
 refine endG (by rfl) (by exact resL_cell rfl (H.get 0 rfl) (by rw [uT_eq]; exact Tryz.underlying27) (by kernel_rfl) rfl rfl rfl) ?_
 have H61 := H
 refine RW.mkD H61 (x := .row ⟨[.int .i64 1, .int .i64 70], 27, false⟩) (fm := fun b => .slice (some ⟨b, 0, none⟩) 1 1) (by rfl) (by kernel_rfl) (by kernel_rfl) (by kernel_rfl) ?_
 intro _ b62 H63
 refine RW.cl (hw := by rfl) ?_
 refine ((same_c rfl H63.gn (slf_vw (l := [(1, 70)]) hSsc H63) (row_vw1 (x := ((1, 70) : Wd)) (H63.get 0 rfl)) (Nat.le_of_ble_eq_true rfl)).mono ?_)
 rintro _ _ ⟨rfl, e⟩
 subst e
 iterate 2 refine RW.v ?_
 refine RW.val (by rfl) (by kernel_rfl) rfl (by kernel_rfl) ?_
 refine RW.val (by rfl) (by kernel_rfl) rfl (by kernel_rfl) ?_
 iterate 2 refine RW.v ?_
 refine RW.val (by rfl) (by kernel_rfl) rfl (by kernel_rfl) ?_
 refine RW.val (by rfl) (by kernel_rfl) rfl (by kernel_rfl) ?_
 iterate 2 refine RW.v ?_
 refine RW.val (by rfl) (by kernel_rfl) rfl (by kernel_rfl) ?_
 refine RW.val (by rfl) (by kernel_rfl) rfl (by kernel_rfl) ?_
 iterate 2 refine RW.v ?_
 refine RW.val (by rfl) (by kernel_rfl) rfl (by kernel_rfl) ?_
 refine RW.val (by rfl) (by kernel_rfl) rfl (by kernel_rfl) ?_
 iterate 2 refine RW.v ?_
 refine RW.val (by rfl) (by kernel_rfl) rfl (by kernel_rfl) ?_
 refine RW.val (by rfl) (by kernel_rfl) rfl (by kernel_rfl) ?_
 iterate 2 refine RW.v ?_
 refine RW.val (by rfl) (by kernel_rfl) rfl (by kernel_rfl) ?_
 iterate 2 refine RW.v ?_
 refine RW.val (by rfl) (by kernel_rfl) rfl (by kernel_rfl) ?_
 refine RW.val (by rfl) (by kernel_rfl) rfl (by kernel_rfl) ?_
 iterate 2 refine RW.v ?_
 refine RW.val (by rfl) (by kernel_rfl) rfl (by kernel_rfl) ?_
 refine RW.ldL H63 8 2 (by rfl) (by kernel_rfl) rfl rfl rfl rfl rfl (by kernel_rfl) ?_
 refine RW.mkD H63 (x := .row ⟨[.int .i64 2, .int .i64 i0], 27, false⟩) (fm := fun b => .slice (some ⟨b, 0, none⟩) 1 1) (by rfl) (by kernel_rfl) (by kernel_rfl) (by kernel_rfl) ?_
 intro _ b64 H65
 refine RW.cl (hw := by rfl) ?_
 refine ((same_c rfl H65.gn (slf_vw (l := [((2, i0) : Wd)]) hSsq H65) (row_vw1 (x := ((2, i0) : Wd)) (H65.get 0 rfl)) (Nat.le_of_ble_eq_true rfl)).mono ?_)
 rintro _ _ ⟨rfl, e⟩
 subst e
 iterate 2 refine RW.v ?_
 refine RW.nil ?_
 refine ⟨⟨by kernel_rfl, ⟨trivial, trivial, trivial, trivial, trivial, dyn_row (H57.get 6 rfl) (H65.get 9 rfl) ⟨fun h => Bool.noConfusion h, fun h => Bool.noConfusion h, fun h => Bool.noConfusion h, fun h => Bool.noConfusion h, fun _ => H55.get 5 rfl, fun h => Bool.noConfusion h, fun h => Bool.noConfusion h, fun _ => H59.get 7 rfl, fun h => Bool.noConfusion h, fun h => Bool.noConfusion h, fun h => Bool.noConfusion h, fun h => Bool.noConfusion h, fun h => Bool.noConfusion h, fun h => Bool.noConfusion h, fun h => Bool.noConfusion h, fun h => Bool.noConfusion h, fun h => Bool.noConfusion h, fun h => Bool.noConfusion h, fun h => Bool.noConfusion h, fun h => Bool.noConfusion h, fun h => Bool.noConfusion h, fun h => Bool.noConfusion h, fun h => Bool.noConfusion h, fun h => Bool.noConfusion h, fun h => Bool.noConfusion h, fun h => Bool.noConfusion h, fun h => Bool.noConfusion h, fun h => Bool.noConfusion h, fun h => Bool.noConfusion h, fun h => Bool.noConfusion h, fun h => Bool.noConfusion h, fun h => Bool.noConfusion h, fun h => Bool.noConfusion h, fun h => Bool.noConfusion h, fun _ => H59.get 7 rfl, fun h => Bool.noConfusion h, fun _ => H63.get 8 rfl, fun h => Bool.noConfusion h, fun h => Bool.noConfusion h, fun h => Bool.noConfusion h, fun h => Bool.noConfusion h, fun h => Bool.noConfusion h, fun h => Bool.noConfusion h, fun h => Bool.noConfusion h, fun h => Bool.noConfusion h, fun h => Bool.noConfusion h, fun h => Bool.noConfusion h, fun h => Bool.noConfusion h, fun h => Bool.noConfusion h, fun h => Bool.noConfusion h, fun h => Bool.noConfusion h, fun h => Bool.noConfusion h, fun h => Bool.noConfusion h, fun h => Bool.noConfusion h, fun h => Bool.noConfusion h, fun h => Bool.noConfusion h, fun h => Bool.noConfusion h, fun h => Bool.noConfusion h, fun h => Bool.noConfusion h, fun h => Bool.noConfusion h, fun h => Bool.noConfusion h, fun h => Bool.noConfusion h, fun h => Bool.noConfusion h, fun h => Bool.noConfusion h, fun h => Bool.noConfusion h, fun h => Bool.noConfusion h, fun h => Bool.noConfusion h, fun h => Bool.noConfusion h, fun h => Bool.noConfusion h, fun _ => H65.get 9 rfl, fun h => Bool.noConfusion h, fun h => Bool.noConfusion h, trivial⟩, Or.inl (by kernel_rfl), trivial, trivial, trivial, trivial, trivial, trivial, trivial, dyn_row (H59.get 4 rfl) (H65.get 6 rfl) ⟨fun h => Bool.noConfusion h, fun h => Bool.noConfusion h, fun h => Bool.noConfusion h, fun h => Bool.noConfusion h, fun _ => H55.get 2 rfl, fun h => Bool.noConfusion h, fun h => Bool.noConfusion h, fun _ => H59.get 4 rfl, fun h => Bool.noConfusion h, fun h => Bool.noConfusion h, fun h => Bool.noConfusion h, fun h => Bool.noConfusion h, fun h => Bool.noConfusion h, fun h => Bool.noConfusion h, fun h => Bool.noConfusion h, fun h => Bool.noConfusion h, fun h => Bool.noConfusion h, fun h => Bool.noConfusion h, fun h => Bool.noConfusion h, fun h => Bool.noConfusion h, fun h => Bool.noConfusion h, fun h => Bool.noConfusion h, fun h => Bool.noConfusion h, fun h => Bool.noConfusion h, fun h => Bool.noConfusion h, fun h => Bool.noConfusion h, fun h => Bool.noConfusion h, fun h => Bool.noConfusion h, fun h => Bool.noConfusion h, fun h => Bool.noConfusion h, fun h => Bool.noConfusion h, fun h => Bool.noConfusion h, fun h => Bool.noConfusion h, fun h => Bool.noConfusion h, fun _ => H59.get 4 rfl, fun h => Bool.noConfusion h, fun _ => H63.get 5 rfl, fun h => Bool.noConfusion h, fun h => Bool.noConfusion h, fun h => Bool.noConfusion h, fun h => Bool.noConfusion h, fun h => Bool.noConfusion h, fun h => Bool.noConfusion h, fun h => Bool.noConfusion h, fun h => Bool.noConfusion h, fun h => Bool.noConfusion h, fun h => Bool.noConfusion h, fun h => Bool.noConfusion h, fun h => Bool.noConfusion h, fun h => Bool.noConfusion h, fun h => Bool.noConfusion h, fun h => Bool.noConfusion h, fun h => Bool.noConfusion h, fun h => Bool.noConfusion h, fun h => Bool.noConfusion h, fun h => Bool.noConfusion h, fun h => Bool.noConfusion h, fun h => Bool.noConfusion h, fun h => Bool.noConfusion h, fun h => Bool.noConfusion h, fun h => Bool.noConfusion h, fun h => Bool.noConfusion h, fun h => Bool.noConfusion h, fun h => Bool.noConfusion h, fun h => Bool.noConfusion h, fun h => Bool.noConfusion h, fun h => Bool.noConfusion h, fun h => Bool.noConfusion h, fun h => Bool.noConfusion h, fun _ => H65.get 6 rfl, fun h => Bool.noConfusion h, fun h => Bool.noConfusion h, trivial⟩, dyn_row (H59.get 6 rfl) (H65.get 8 rfl) ⟨fun h => Bool.noConfusion h, fun h => Bool.noConfusion h, fun h => Bool.noConfusion h, fun h => Bool.noConfusion h, fun _ => H55.get 4 rfl, fun h => Bool.noConfusion h, fun h => Bool.noConfusion h, fun _ => H59.get 6 rfl, fun h => Bool.noConfusion h, fun h => Bool.noConfusion h, fun h => Bool.noConfusion h, fun h => Bool.noConfusion h, fun h => Bool.noConfusion h, fun h => Bool.noConfusion h, fun h => Bool.noConfusion h, fun h => Bool.noConfusion h, fun h => Bool.noConfusion h, fun h => Bool.noConfusion h, fun h => Bool.noConfusion h, fun h => Bool.noConfusion h, fun h => Bool.noConfusion h, fun h => Bool.noConfusion h, fun h => Bool.noConfusion h, fun h => Bool.noConfusion h, fun h => Bool.noConfusion h, fun h => Bool.noConfusion h, fun h => Bool.noConfusion h, fun h => Bool.noConfusion h, fun h => Bool.noConfusion h, fun h => Bool.noConfusion h, fun h => Bool.noConfusion h, fun h => Bool.noConfusion h, fun h => Bool.noConfusion h, fun h => Bool.noConfusion h, fun _ => H59.get 6 rfl, fun h => Bool.noConfusion h, fun _ => H63.get 7 rfl, fun h => Bool.noConfusion h, fun h => Bool.noConfusion h, fun h => Bool.noConfusion h, fun h => Bool.noConfusion h, fun h => Bool.noConfusion h, fun h => Bool.noConfusion h, fun h => Bool.noConfusion h, fun h => Bool.noConfusion h, fun h => Bool.noConfusion h, fun h => Bool.noConfusion h, fun h => Bool.noConfusion h, fun h => Bool.noConfusion h, fun h => Bool.noConfusion h, fun h => Bool.noConfusion h, fun h => Bool.noConfusion h, fun h => Bool.noConfusion h, fun h => Bool.noConfusion h, fun h => Bool.noConfusion h, fun h => Bool.noConfusion h, fun h => Bool.noConfusion h, fun h => Bool.noConfusion h, fun h => Bool.noConfusion h, fun h => Bool.noConfusion h, fun h => Bool.noConfusion h, fun h => Bool.noConfusion h, fun h => Bool.noConfusion h, fun h => Bool.noConfusion h, fun h => Bool.noConfusion h, fun h => Bool.noConfusion h, fun h => Bool.noConfusion h, fun h => Bool.noConfusion h, fun h => Bool.noConfusion h, fun _ => H65.get 8 rfl, fun h => Bool.noConfusion h, fun h => Bool.noConfusion h, trivial⟩, trivial, trivial, trivial, dyn_row (H59.get 3 rfl) (H65.get 5 rfl) ⟨fun h => Bool.noConfusion h, fun h => Bool.noConfusion h, fun h => Bool.noConfusion h, fun h => Bool.noConfusion h, fun _ => H55.get 1 rfl, fun h => Bool.noConfusion h, fun h => Bool.noConfusion h, fun _ => H59.get 3 rfl, fun h => Bool.noConfusion h, fun h => Bool.noConfusion h, fun h => Bool.noConfusion h, fun h => Bool.noConfusion h, fun h => Bool.noConfusion h, fun h => Bool.noConfusion h, fun h => Bool.noConfusion h, fun h => Bool.noConfusion h, fun h => Bool.noConfusion h, fun h => Bool.noConfusion h, fun h => Bool.noConfusion h, fun h => Bool.noConfusion h, fun h => Bool.noConfusion h, fun h => Bool.noConfusion h, fun h => Bool.noConfusion h, fun h => Bool.noConfusion h, fun h => Bool.noConfusion h, fun h => Bool.noConfusion h, fun h => Bool.noConfusion h, fun h => Bool.noConfusion h, fun h => Bool.noConfusion h, fun h => Bool.noConfusion h, fun h => Bool.noConfusion h, fun h => Bool.noConfusion h, fun h => Bool.noConfusion h, fun h => Bool.noConfusion h, fun _ => H59.get 3 rfl, fun h => Bool.noConfusion h, fun _ => H63.get 4 rfl, fun h => Bool.noConfusion h, fun h => Bool.noConfusion h, fun h => Bool.noConfusion h, fun h => Bool.noConfusion h, fun h => Bool.noConfusion h, fun h => Bool.noConfusion h, fun h => Bool.noConfusion h, fun h => Bool.noConfusion h, fun h => Bool.noConfusion h, fun h => Bool.noConfusion h, fun h => Bool.noConfusion h, fun h => Bool.noConfusion h, fun h => Bool.noConfusion h, fun h => Bool.noConfusion h, fun h => Bool.noConfusion h, fun h => Bool.noConfusion h, fun h => Bool.noConfusion h, fun h => Bool.noConfusion h, fun h => Bool.noConfusion h, fun h => Bool.noConfusion h, fun h => Bool.noConfusion h, fun h => Bool.noConfusion h, fun h => Bool.noConfusion h, fun h => Bool.noConfusion h, fun h => Bool.noConfusion h, fun h => Bool.noConfusion h, fun h => Bool.noConfusion h, fun h => Bool.noConfusion h, fun h => Bool.noConfusion h, fun h => Bool.noConfusion h, fun h => Bool.noConfusion h, fun h => Bool.noConfusion h, fun _ => H65.get 5 rfl, fun h => Bool.noConfusion h, fun h => Bool.noConfusion h, trivial⟩, dyn_row (H59.get 5 rfl) (H65.get 7 rfl) ⟨fun h => Bool.noConfusion h, fun h => Bool.noConfusion h, fun h => Bool.noConfusion h, fun h => Bool.noConfusion h, fun _ => H55.get 3 rfl, fun h => Bool.noConfusion h, fun h => Bool.noConfusion h, fun _ => H59.get 5 rfl, fun h => Bool.noConfusion h, fun h => Bool.noConfusion h, fun h => Bool.noConfusion h, fun h => Bool.noConfusion h, fun h => Bool.noConfusion h, fun h => Bool.noConfusion h, fun h => Bool.noConfusion h, fun h => Bool.noConfusion h, fun h => Bool.noConfusion h, fun h => Bool.noConfusion h, fun h => Bool.noConfusion h, fun h => Bool.noConfusion h, fun h => Bool.noConfusion h, fun h => Bool.noConfusion h, fun h => Bool.noConfusion h, fun h => Bool.noConfusion h, fun h => Bool.noConfusion h, fun h => Bool.noConfusion h, fun h => Bool.noConfusion h, fun h => Bool.noConfusion h, fun h => Bool.noConfusion h, fun h => Bool.noConfusion h, fun h => Bool.noConfusion h, fun h => Bool.noConfusion h, fun h => Bool.noConfusion h, fun h => Bool.noConfusion h, fun _ => H59.get 5 rfl, fun h => Bool.noConfusion h, fun _ => H63.get 6 rfl, fun h => Bool.noConfusion h, fun h => Bool.noConfusion h, fun h => Bool.noConfusion h, fun h => Bool.noConfusion h, fun h => Bool.noConfusion h, fun h => Bool.noConfusion h, fun h => Bool.noConfusion h, fun h => Bool.noConfusion h, fun h => Bool.noConfusion h, fun h => Bool.noConfusion h, fun h => Bool.noConfusion h, fun h => Bool.noConfusion h, fun h => Bool.noConfusion h, fun h => Bool.noConfusion h, fun h => Bool.noConfusion h, fun h => Bool.noConfusion h, fun h => Bool.noConfusion h, fun h => Bool.noConfusion h, fun h => Bool.noConfusion h, fun h => Bool.noConfusion h, fun h => Bool.noConfusion h, fun h => Bool.noConfusion h, fun h => Bool.noConfusion h, fun h => Bool.noConfusion h, fun h => Bool.noConfusion h, fun h => Bool.noConfusion h, fun h => Bool.noConfusion h, fun h => Bool.noConfusion h, fun h => Bool.noConfusion h, fun h => Bool.noConfusion h, fun h => Bool.noConfusion h, fun h => Bool.noConfusion h, fun _ => H65.get 7 rfl, fun h => Bool.noConfusion h, fun h => Bool.noConfusion h, trivial⟩, trivial, trivial, trivial, trivial, trivial, trivial, trivial, dyn_row (H59.get 2 rfl) (H65.get 4 rfl) ⟨fun h => Bool.noConfusion h, fun h => Bool.noConfusion h, fun h => Bool.noConfusion h, fun h => Bool.noConfusion h, fun _ => H55.get 0 rfl, fun h => Bool.noConfusion h, fun h => Bool.noConfusion h, fun _ => H59.get 2 rfl, fun h => Bool.noConfusion h, fun h => Bool.noConfusion h, fun h => Bool.noConfusion h, fun h => Bool.noConfusion h, fun h => Bool.noConfusion h, fun h => Bool.noConfusion h, fun h => Bool.noConfusion h, fun h => Bool.noConfusion h, fun h => Bool.noConfusion h, fun h => Bool.noConfusion h, fun h => Bool.noConfusion h, fun h => Bool.noConfusion h, fun h => Bool.noConfusion h, fun h => Bool.noConfusion h, fun h => Bool.noConfusion h, fun h => Bool.noConfusion h, fun h => Bool.noConfusion h, fun h => Bool.noConfusion h, fun h => Bool.noConfusion h, fun h => Bool.noConfusion h, fun h => Bool.noConfusion h, fun h => Bool.noConfusion h, fun h => Bool.noConfusion h, fun h => Bool.noConfusion h, fun h => Bool.noConfusion h, fun h => Bool.noConfusion h, fun _ => H59.get 2 rfl, fun h => Bool.noConfusion h, fun _ => H63.get 3 rfl, fun h => Bool.noConfusion h, fun h => Bool.noConfusion h, fun h => Bool.noConfusion h, fun h => Bool.noConfusion h, fun h => Bool.noConfusion h, fun h => Bool.noConfusion h, fun h => Bool.noConfusion h, fun h => Bool.noConfusion h, fun h => Bool.noConfusion h, fun h => Bool.noConfusion h, fun h => Bool.noConfusion h, fun h => Bool.noConfusion h, fun h => Bool.noConfusion h, fun h => Bool.noConfusion h, fun h => Bool.noConfusion h, fun h => Bool.noConfusion h, fun h => Bool.noConfusion h, fun h => Bool.noConfusion h, fun h => Bool.noConfusion h, fun h => Bool.noConfusion h, fun h => Bool.noConfusion h, fun h => Bool.noConfusion h, fun h => Bool.noConfusion h, fun h => Bool.noConfusion h, fun h => Bool.noConfusion h, fun h => Bool.noConfusion h, fun h => Bool.noConfusion h, fun h => Bool.noConfusion h, fun h => Bool.noConfusion h, fun h => Bool.noConfusion h, fun h => Bool.noConfusion h, fun h => Bool.noConfusion h, fun _ => H65.get 4 rfl, fun h => Bool.noConfusion h, fun h => Bool.noConfusion h, trivial⟩, dyn_row (H59.get 8 rfl) (H65.get 10 rfl) ⟨fun h => Bool.noConfusion h, fun h => Bool.noConfusion h, fun h => Bool.noConfusion h, fun h => Bool.noConfusion h, fun _ => H55.get 6 rfl, fun h => Bool.noConfusion h, fun h => Bool.noConfusion h, fun _ => H59.get 8 rfl, fun h => Bool.noConfusion h, fun h => Bool.noConfusion h, fun h => Bool.noConfusion h, fun h => Bool.noConfusion h, fun h => Bool.noConfusion h, fun h => Bool.noConfusion h, fun h => Bool.noConfusion h, fun h => Bool.noConfusion h, fun h => Bool.noConfusion h, fun h => Bool.noConfusion h, fun h => Bool.noConfusion h, fun h => Bool.noConfusion h, fun h => Bool.noConfusion h, fun h => Bool.noConfusion h, fun h => Bool.noConfusion h, fun h => Bool.noConfusion h, fun h => Bool.noConfusion h, fun h => Bool.noConfusion h, fun h => Bool.noConfusion h, fun h => Bool.noConfusion h, fun h => Bool.noConfusion h, fun h => Bool.noConfusion h, fun h => Bool.noConfusion h, fun h => Bool.noConfusion h, fun h => Bool.noConfusion h, fun h => Bool.noConfusion h, fun _ => H59.get 8 rfl, fun h => Bool.noConfusion h, fun _ => H63.get 9 rfl, fun h => Bool.noConfusion h, fun h => Bool.noConfusion h, fun h => Bool.noConfusion h, fun h => Bool.noConfusion h, fun h => Bool.noConfusion h, fun h => Bool.noConfusion h, fun h => Bool.noConfusion h, fun h => Bool.noConfusion h, fun h => Bool.noConfusion h, fun h => Bool.noConfusion h, fun h => Bool.noConfusion h, fun h => Bool.noConfusion h, fun h => Bool.noConfusion h, fun h => Bool.noConfusion h, fun h => Bool.noConfusion h, fun h => Bool.noConfusion h, fun h => Bool.noConfusion h, fun h => Bool.noConfusion h, fun h => Bool.noConfusion h, fun h => Bool.noConfusion h, fun h => Bool.noConfusion h, fun h => Bool.noConfusion h, fun h => Bool.noConfusion h, fun h => Bool.noConfusion h, fun h => Bool.noConfusion h, fun h => Bool.noConfusion h, fun h => Bool.noConfusion h, fun h => Bool.noConfusion h, fun h => Bool.noConfusion h, fun h => Bool.noConfusion h, fun h => Bool.noConfusion h, fun h => Bool.noConfusion h, fun _ => H65.get 10 rfl, fun h => Bool.noConfusion h, fun h => Bool.noConfusion h, trivial⟩, trivial, trivial, trivial, trivial, trivial, Or.inl (by kernel_rfl), trivial, trivial, trivial, trivial, trivial, trivial, trivial, trivial, trivial, trivial, trivial, trivial, trivial, trivial, trivial, trivial, trivial, trivial, trivial, trivial, trivial, trivial, trivial, trivial, trivial, trivial, trivial, trivial, trivial, trivial, trivial, dyn_row (H63.get 8 rfl) (H65.get 9 rfl) ⟨fun h => Bool.noConfusion h, fun h => Bool.noConfusion h, fun h => Bool.noConfusion h, fun h => Bool.noConfusion h, fun _ => H55.get 5 rfl, fun h => Bool.noConfusion h, fun h => Bool.noConfusion h, fun _ => H59.get 7 rfl, fun h => Bool.noConfusion h, fun h => Bool.noConfusion h, fun h => Bool.noConfusion h, fun h => Bool.noConfusion h, fun h => Bool.noConfusion h, fun h => Bool.noConfusion h, fun h => Bool.noConfusion h, fun h => Bool.noConfusion h, fun h => Bool.noConfusion h, fun h => Bool.noConfusion h, fun h => Bool.noConfusion h, fun h => Bool.noConfusion h, fun h => Bool.noConfusion h, fun h => Bool.noConfusion h, fun h => Bool.noConfusion h, fun h => Bool.noConfusion h, fun h => Bool.noConfusion h, fun h => Bool.noConfusion h, fun h => Bool.noConfusion h, fun h => Bool.noConfusion h, fun h => Bool.noConfusion h, fun h => Bool.noConfusion h, fun h => Bool.noConfusion h, fun h => Bool.noConfusion h, fun h => Bool.noConfusion h, fun h => Bool.noConfusion h, fun _ => H59.get 7 rfl, fun h => Bool.noConfusion h, fun _ => H63.get 8 rfl, fun h => Bool.noConfusion h, fun h => Bool.noConfusion h, fun h => Bool.noConfusion h, fun h => Bool.noConfusion h, fun h => Bool.noConfusion h, fun h => Bool.noConfusion h, fun h => Bool.noConfusion h, fun h => Bool.noConfusion h, fun h => Bool.noConfusion h, fun h => Bool.noConfusion h, fun h => Bool.noConfusion h, fun h => Bool.noConfusion h, fun h => Bool.noConfusion h, fun h => Bool.noConfusion h, fun h => Bool.noConfusion h, fun h => Bool.noConfusion h, fun h => Bool.noConfusion h, fun h => Bool.noConfusion h, fun h => Bool.noConfusion h, fun h => Bool.noConfusion h, fun h => Bool.noConfusion h, fun h => Bool.noConfusion h, fun h => Bool.noConfusion h, fun h => Bool.noConfusion h, fun h => Bool.noConfusion h, fun h => Bool.noConfusion h, fun h => Bool.noConfusion h, fun h => Bool.noConfusion h, fun h => Bool.noConfusion h, fun h => Bool.noConfusion h, fun h => Bool.noConfusion h, fun h => Bool.noConfusion h, fun _ => H65.get 9 rfl, fun h => Bool.noConfusion h, fun h => Bool.noConfusion h, trivial⟩, Or.inl (by kernel_rfl), trivial, trivial, trivial, trivial⟩⟩, ?_⟩
 replace H := H65
 clear H55 H57 H59 H61 H63 H65
 replace H := (((((((((((H.del 10).del 9).del 8).del 7).del 6).del 5).del 4).del 3).del 2).del 1).del 0)
 dsimp only [setL, delL] at H
 refine W.ret ?_
 refine endG (by rfl) (by exact resL_tmp rfl) ?_
 exact rfl
end Go.Proofs.YtaaebeiigkhcjaaGreatDoor
namespace Go.Proofs.YtaaebeiigkhcjaaGreatDoor
open Go.RowKit
set_option maxRecDepth 100000
theorem names_any (w : World) (hT : TabsH w) :
  Calls Tryz.prog 3 #[] w fun e w' => e = .returned (.bool true) ∧ Below w.heap.size w w' := by
 have h64 : ∀ g cs, (g, cs) ∈ rowsH → g < 64 := fun g cs hm => Nat.lt_of_lt_of_le (rowsH_low g cs hm) (by decide)
 have hnd : (rowsH.map (·.1)).Nodup := by unfold rowsH; simp
 have hR : RowsAt rowsH (argMem rowsH [⟨0, 0, []⟩, ⟨0, 0, []⟩]) := argMem_tab hnd h64
 obtain ⟨v, σ', hS, rfl⟩ := names_wc (σ0 := argMem rowsH [⟨0, 0, []⟩, ⟨0, 0, []⟩]) (Nat.le_refl _) (by decide) rfl (hR _ _ (by simp [rowsH])) (hR _ _ (by simp [rowsH]))
 refine arg_calls (rows := [⟨0, 0, []⟩, ⟨0, 0, []⟩]) (args := #[]) (cargs := #[]) hT h64 (fun k r hr i u hu => ?_) ⟨rfl, fun i x x' h1 h2 => ?_⟩ hS rfl
 ·match k, hr with
  | 0, hr => cases hr; simp at hu
  | 1, hr => cases hr; simp at hu
  | k + 2, hr => simp at hr
 ·simp at h1
end Go.Proofs.YtaaebeiigkhcjaaGreatDoor
