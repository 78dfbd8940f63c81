/-
 Remove of the package hooks. Conditions: the heap lies there as HeapAt says.
-/
import Derived.Test.YtaaebeiigkhcjaaGreatDoorR1
namespace Go.Proofs.YtaaebeiigkhcjaaGreatDoor
set_option maxRecDepth 100000
def remP (m : HM) (w : Wd) (ws xs : List Wd) : HM × Wd := if xs.length < ws.length then built m xs (1, 0) else (m, w)
theorem remP_yes {m : HM} {w : Wd} {ws xs : List Wd} (h : xs.length < ws.length) : remP m w ws xs = built m xs (1, 0) := if_pos h
theorem remP_no {m : HM} {w : Wd} {ws xs : List Wd} (h : ¬ xs.length < ws.length) : remP m w ws xs = (m, w) := if_neg h
section
variable {σ0 : Mem} {h : Nat} {m : HM}
set_option maxHeartbeats 16000000 in
theorem remove_wc {vw p f : Wd} {c : Nat → Wd} {ws es : List Wd} (hG : G66 ≤ σ0.next) (ha : σ0.abs = heapAbs h m) (hlo : 0 < m.limit) (hN : GNull σ0.get) (E : Elems G66 h m vw ws) (hz : ws = [] → vw = (1, 0)) (hx : c 0 = p) (hp : Chain m c es) (hn : es.length ≤ 65536) (hnw : ws.length ≤ 65536) (gf : Good m f) (gws : ∀ y ∈ ws, Good m y) (hes : ∀ y ∈ es, DepE m y) (hf : m.free = []) (hr : m.many + ws.length + es.length ≤ m.limit) (hlim : m.limit ≤ 65536) :
  WC G66 Tryz.prog 13 #[pp h, wdV vw, wdV p, wdV f] σ0 fun r σ' => r = .tuple #[wdV (remP m vw ws (ws.filter fun y => !(fun y => decide (keyW m f = keyW m y)) y)).2, wdV (remP (remP m vw ws (ws.filter fun y => !(fun y => decide (keyW m f = keyW m y)) y)).1 p es (es.filter fun y => !(selE m f) y)).2, .int .i64 0] ∧ Lies G66 (heapAbs h (remP (remP m vw ws (ws.filter fun y => !(fun y => decide (keyW m f = keyW m y)) y)).1 p es (es.filter fun y => !(selE m f) y)).1) σ0.get σ' [] := by
 obtain ⟨tN, gN, hN⟩ := hN
 have H := Lies.start hG ha
 generalize σ0.get = F at H hN ⊢
 refine WC.enter (fn := Tryz.f13) Tryz.func13 rfl ?_
 refine W.rg [(0, pp h), (1, .agg #[.int .i64 vw.1, .int .i64 vw.2]), (2, .agg #[.int .i64 p.1, .int .i64 p.2]), (3, .agg #[.int .i64 f.1, .int .i64 f.2])] fun TA => ?_
 refine W.seq (W.region ?_)
 refine RW.mk H (.row ⟨[pt h], 22, false⟩) ?_
 clear H; intro _ b1 _ H
 refine RW.mk H (.row ⟨[.int .i64 vw.1, .int .i64 vw.2], 27, false⟩) ?_
 clear H; intro _ b2 _ H
 refine RW.mk H (.row ⟨[.int .i64 p.1, .int .i64 p.2], 27, false⟩) ?_
 clear H; intro _ b3 _ H
 refine RW.mk H (.row ⟨[.int .i64 f.1, .int .i64 f.2], 27, false⟩) ?_
 clear H; intro _ b4 _ H
 refine RW.mk H (.row ⟨[.int .i64 0, .int .i64 0], 27, false⟩) ?_
 clear H; intro _ b5 _ H
 refine RW.mk H (.row ⟨[.int .i64 0, .int .i64 0], 27, false⟩) ?_
 clear H; intro _ b6 _ H
 refine RW.v ?_
 refine RW.nil ?_
 refine W.rg [(4, pp b1), (5, pp b2), (6, pp b3), (7, pp b4), (8, pp b5), (9, pp b6)] fun TA => ?_
 refine W.seq ?_
 refine W.seq (W.region ?_)
 refine RW.ld H 5 1 ?_
 refine RW.cl ?_
 refine WC.enter (fn := Tryz.f41) Tryz.func41 rfl ?_
 refine W.rg [(0, pp h)] fun TA => ?_
 refine W.seq (W.region ?_)
 refine RW.v ?_
 refine RW.nil ?_
 refine W.rg [(0, pp h)] fun TA => ?_
 refine W.seq (W.region ?_)
 refine RW.v ?_
 refine RW.cl ?_
 refine ⟨_, _, (s_limit (G := G66) H.abs), ?_⟩
 refine RW.valE (v' := .bool true) (by kernel_rfl) (by kernel_rfl) rfl (congrArg Value.bool (decide_eq_true (by omega))) (by kernel_rfl) ?_
 refine RW.v ?_
 refine RW.nil ?_
 refine W.ret ?_
 refine endG (by rfl) (by exact resL_tmp rfl) ?_
 refine RW.v ?_
 refine RW.nil ?_
 refine W.c0 ?_
 refine W.skip ?_
 refine W.seq (W.region ?_)
 refine RW.ld H 5 1 ?_
 refine RW.ld H 4 2 ?_
 refine RW.ld H 3 2 ?_
 refine RW.cl ?_
 refine WC.enter (fn := Tryz.f42) Tryz.func42 rfl ?_
 refine W.rg [(0, pp h), (1, .agg #[.int .i64 vw.1, .int .i64 vw.2]), (2, .agg #[.int .i64 p.1, .int .i64 p.2])] fun TA => ?_
 refine W.seq (W.region ?_)
 refine RW.mk H (.row ⟨[.int .i64 vw.1, .int .i64 vw.2], 27, false⟩) ?_
 clear H; intro _ b7 _ H
 refine RW.mk H (.row ⟨[.int .i64 p.1, .int .i64 p.2], 27, false⟩) ?_
 clear H; intro _ b8 _ H
 iterate 3 refine RW.v ?_
 refine RW.nil ?_
 refine W.rg [(0, pp h), (4, pp b7), (5, pp b8), (7, .slice none 0 0)] fun TA => ?_
 refine W.seq ?_
 refine W.seq (W.region ?_)
 refine RW.v ?_
 refine RW.ld H 1 2 ?_
 refine RW.cl ?_
 refine ((elems_z E hz hlo H.gn H.abs ⟨_, _, H.old _ _ hN⟩).mono ?_)
 rintro _ _ ⟨slV, rfl, hvV, LV, K, fz⟩
 obtain ⟨F, leV, hSV, H⟩ := fz _ _ _ _ (H.then K)
 clear K fz
 replace hN := leV _ _ hN
 iterate 5 refine RW.v ?_
 refine RW.nil ?_
 replace H := (H.del 1)
 dsimp only [setL, delL] at H
 refine W.rg [(0, pp h), (5, pp b8), (6, slV), (7, .slice none 0 0), (8, .int .i64 0)] fun TA => ?_
 refine W.seq (W.region ?_)
 iterate 2 refine RW.v ?_
 refine RW.nil ?_
 refine W.c1 ?_
 refine W.region ?_
 refine RW.v ?_
 refine RW.ld H 0 2 ?_
 refine RW.cl ?_
 refine ((slice_z hx hlo hp hn H.gn H.abs).mono ?_)
 rintro _ _ ⟨slE, rfl, hvE, K⟩
 replace H := H.then K
 clear K
 dsimp only [List.nil_append, List.cons_append] at H
 obtain ⟨F, leE, hSE, H⟩ := H.freezeSl 0 rfl
 dsimp only [setL, delL] at H
 replace hSV := hSV.le leE
 replace hN := leE _ _ hN
 iterate 5 refine RW.v ?_
 refine RW.nil ?_
 replace H := (H.del 0)
 dsimp only [setL, delL] at H
 refine W.rg [(6, slV), (7, slE), (8, .int .i64 0)] fun TA => ?_
 refine W.seq (W.region ?_)
 iterate 6 refine RW.v ?_
 refine RW.nil ?_
 refine W.ret ?_
 refine endG (by rfl) (by exact resL_tmp (by exact resL_tmp (by exact resL_tmp rfl))) ?_
 iterate 4 refine RW.v ?_
 refine RW.mk H (.row ⟨[.int .i64 0], 30, false⟩) ?_
 clear H; intro _ b9 _ H
 iterate 2 refine RW.v ?_
 refine RW.st H 0 [.int .i64 0] [.int .i64 0] ?_
 clear H; intro _ _ H; dsimp only [setL, delL] at H
 refine RW.nil ?_
 refine W.rg [(4, pp b1), (5, pp b2), (6, pp b3), (7, pp b4), (8, pp b5), (9, pp b6), (11, slV), (12, slE), (13, pp b9)] fun TA => ?_
 refine W.seq ?_
 refine W.seq (W.region ?_)
 refine RW.ld H 0 1 ?_
 refine RW.v ?_
 refine RW.nil ?_
 refine W.c0 ?_
 refine W.skip ?_
 refine W.seq (W.region ?_)
 refine RW.val (v := .func (.func 53) #[] #[.pointer (some ⟨b9, 0, none⟩), .pointer (some ⟨b1, 0, none⟩), .pointer (some ⟨b4, 0, none⟩)]) (by kernel_rfl) (by kernel_rfl) (by kernel_rfl) (by kernel_rfl) ?_
 refine RW.mk H (.row ⟨[.nilFunc], 87, false⟩) ?_
 clear H; intro _ b10 _ H
 refine RW.st H 0 [.func (.func 53) #[] #[pt b9, pt b1, pt b4]] [.func (.func 53) #[] #[pt b9, pt b1, pt b4]] ?_
 clear H; intro _ _ H; dsimp only [setL, delL] at H
 refine RW.nil ?_
 refine W.rg [(4, pp b1), (5, pp b2), (6, pp b3), (8, pp b5), (9, pp b6), (11, slV), (12, slE), (13, pp b9), (14, pp b10)] fun TA => ?_
 refine W.seq ?_
 refine W.drawn (by kernel_rfl) (by kernel_rfl) H.gn ?_
 have H11 := H
 refine RW.v ?_
 refine RW.cl ?_
 refine ((clone_wc (l := ws) (by omega) (hSV.le H11.old) rfl hvV H11.gn H11.abs).mono ?_)
 rintro vX _ K12
 have H13 := H11.then K12
 dsimp only [List.nil_append, List.cons_append] at H13
 refine RW.ld H13 1 1 ?_
 have H14 : Lies G66 (heapAbs h m) F _ [.at_ b4 (.row ⟨[.int .i64 f.1, .int .i64 f.2], 27, false⟩), .sl 27 2 vX ws.length (wdC ws), .at_ b10 (.row ⟨[.func (.func 53) #[] #[.pointer (some ⟨b9, 0, none⟩), .pointer (some ⟨b1, 0, none⟩), .pointer (some ⟨b4, 0, none⟩)]], 87, false⟩), .at_ b9 (.row ⟨[.int .i64 0], 30, false⟩), .at_ b6 (.row ⟨[.int .i64 0, .int .i64 0], 27, false⟩), .at_ b5 (.row ⟨[.int .i64 0, .int .i64 0], 27, false⟩), .at_ b3 (.row ⟨[.int .i64 p.1, .int .i64 p.2], 27, false⟩), .at_ b2 (.row ⟨[.int .i64 vw.1, .int .i64 vw.2], 27, false⟩), .at_ b1 (.row ⟨[.pointer (some ⟨h, 0, none⟩)], 22, false⟩)] := H13.perm (List.perm_middle (l₁ := ([.sl 27 2 vX ws.length (wdC ws), .at_ b10 (.row ⟨[.func (.func 53) #[] #[.pointer (some ⟨b9, 0, none⟩), .pointer (some ⟨b1, 0, none⟩), .pointer (some ⟨b4, 0, none⟩)]], 87, false⟩), .at_ b9 (.row ⟨[.int .i64 0], 30, false⟩), .at_ b6 (.row ⟨[.int .i64 0, .int .i64 0], 27, false⟩), .at_ b5 (.row ⟨[.int .i64 0, .int .i64 0], 27, false⟩)] : List Ent)))
 have H15 : Lies G66 (heapAbs h m) F _ [.at_ b1 (.row ⟨[.pointer (some ⟨h, 0, none⟩)], 22, false⟩), .at_ b4 (.row ⟨[.int .i64 f.1, .int .i64 f.2], 27, false⟩), .sl 27 2 vX ws.length (wdC ws), .at_ b10 (.row ⟨[.func (.func 53) #[] #[.pointer (some ⟨b9, 0, none⟩), .pointer (some ⟨b1, 0, none⟩), .pointer (some ⟨b4, 0, none⟩)]], 87, false⟩), .at_ b9 (.row ⟨[.int .i64 0], 30, false⟩), .at_ b6 (.row ⟨[.int .i64 0, .int .i64 0], 27, false⟩), .at_ b5 (.row ⟨[.int .i64 0, .int .i64 0], 27, false⟩), .at_ b3 (.row ⟨[.int .i64 p.1, .int .i64 p.2], 27, false⟩), .at_ b2 (.row ⟨[.int .i64 vw.1, .int .i64 vw.2], 27, false⟩)] := H14.perm (List.perm_middle (l₁ := ([.at_ b4 (.row ⟨[.int .i64 f.1, .int .i64 f.2], 27, false⟩), .sl 27 2 vX ws.length (wdC ws), .at_ b10 (.row ⟨[.func (.func 53) #[] #[.pointer (some ⟨b9, 0, none⟩), .pointer (some ⟨b1, 0, none⟩), .pointer (some ⟨b4, 0, none⟩)]], 87, false⟩), .at_ b9 (.row ⟨[.int .i64 0], 30, false⟩), .at_ b6 (.row ⟨[.int .i64 0, .int .i64 0], 27, false⟩), .at_ b5 (.row ⟨[.int .i64 0, .int .i64 0], 27, false⟩), .at_ b3 (.row ⟨[.int .i64 p.1, .int .i64 p.2], 27, false⟩), .at_ b2 (.row ⟨[.int .i64 vw.1, .int .i64 vw.2], 27, false⟩)] : List Ent)))
 have H16 : Lies G66 (heapAbs h m) F _ [.at_ b9 (.row ⟨[.int .i64 0], 30, false⟩), .at_ b1 (.row ⟨[.pointer (some ⟨h, 0, none⟩)], 22, false⟩), .at_ b4 (.row ⟨[.int .i64 f.1, .int .i64 f.2], 27, false⟩), .sl 27 2 vX ws.length (wdC ws), .at_ b10 (.row ⟨[.func (.func 53) #[] #[.pointer (some ⟨b9, 0, none⟩), .pointer (some ⟨b1, 0, none⟩), .pointer (some ⟨b4, 0, none⟩)]], 87, false⟩), .at_ b6 (.row ⟨[.int .i64 0, .int .i64 0], 27, false⟩), .at_ b5 (.row ⟨[.int .i64 0, .int .i64 0], 27, false⟩), .at_ b3 (.row ⟨[.int .i64 p.1, .int .i64 p.2], 27, false⟩), .at_ b2 (.row ⟨[.int .i64 vw.1, .int .i64 vw.2], 27, false⟩)] := H15.perm (List.perm_middle (l₁ := ([.at_ b1 (.row ⟨[.pointer (some ⟨h, 0, none⟩)], 22, false⟩), .at_ b4 (.row ⟨[.int .i64 f.1, .int .i64 f.2], 27, false⟩), .sl 27 2 vX ws.length (wdC ws), .at_ b10 (.row ⟨[.func (.func 53) #[] #[.pointer (some ⟨b9, 0, none⟩), .pointer (some ⟨b1, 0, none⟩), .pointer (some ⟨b4, 0, none⟩)]], 87, false⟩)] : List Ent)))
 have H17 : Lies G66 (heapAbs h m) F _ [.sl 27 2 vX ws.length (wdC ws), .at_ b9 (.row ⟨[.int .i64 0], 30, false⟩), .at_ b1 (.row ⟨[.pointer (some ⟨h, 0, none⟩)], 22, false⟩), .at_ b4 (.row ⟨[.int .i64 f.1, .int .i64 f.2], 27, false⟩), .at_ b10 (.row ⟨[.func (.func 53) #[] #[.pointer (some ⟨b9, 0, none⟩), .pointer (some ⟨b1, 0, none⟩), .pointer (some ⟨b4, 0, none⟩)]], 87, false⟩), .at_ b6 (.row ⟨[.int .i64 0, .int .i64 0], 27, false⟩), .at_ b5 (.row ⟨[.int .i64 0, .int .i64 0], 27, false⟩), .at_ b3 (.row ⟨[.int .i64 p.1, .int .i64 p.2], 27, false⟩), .at_ b2 (.row ⟨[.int .i64 vw.1, .int .i64 vw.2], 27, false⟩)] := H16.perm (List.perm_middle (l₁ := ([.at_ b9 (.row ⟨[.int .i64 0], 30, false⟩), .at_ b1 (.row ⟨[.pointer (some ⟨h, 0, none⟩)], 22, false⟩), .at_ b4 (.row ⟨[.int .i64 f.1, .int .i64 f.2], 27, false⟩)] : List Ent)))
 refine RW.cl ?_
 refine ((del1_wc gf gws hlo rfl (by omega) H17).mono ?_)
 rintro x1 _ ⟨_, rfl, H18⟩
 obtain ⟨xs, hxs⟩ : ∃ z, z = ws.filter fun y => !(fun y => decide (keyW m f = keyW m y)) y := ⟨_, rfl⟩
 rw [← hxs] at H18
 have lxs : xs.length ≤ ws.length := by rw [hxs]; exact List.length_filter_le _ _
 refine RW.v ?_
 refine RW.nil ?_
 refine ⟨⟨by kernel_rfl, ⟨trivial, trivial, dyn_row (H13.get 1 rfl) (H18.get 4 rfl) ⟨fun h => Bool.noConfusion h, fun _ => H11.get 0 rfl, fun h => Bool.noConfusion h, fun _ => H17.get 4 rfl, fun h => Bool.noConfusion h, trivial⟩, trivial, trivial, trivial⟩⟩, ?_⟩
 replace H := H18
 clear H11 H13 H14 H15 H16 H17 H18
 refine W.rg [(4, pp b1), (5, pp b2), (6, pp b3), (8, pp b5), (9, pp b6), (11, slV), (12, slE), (13, pp b9), (14, pp b10), (15, x1)] fun TA => ?_
 refine W.seq (W.region ?_)
 refine RW.v ?_
 refine RW.cl ?_
 refine ((clone_wc (l := es) (by omega) (hSE.le H.old) rfl hvE H.gn H.abs).mono ?_)
 rintro vY _ K19
 replace H := H.then K19
 clear K19
 dsimp only [List.nil_append, List.cons_append] at H
 refine RW.val (v := .func (.func 57) #[] #[.pointer (some ⟨b1, 0, none⟩), .pointer (some ⟨b10, 0, none⟩)]) (by kernel_rfl) (by kernel_rfl) (by kernel_rfl) (by kernel_rfl) ?_
 replace H := H.front 4 rfl
 dsimp only [setL, delL] at H
 replace H := H.front 4 rfl
 dsimp only [setL, delL] at H
 replace H := H.front 4 rfl
 dsimp only [setL, delL] at H
 replace H := H.front 5 rfl
 dsimp only [setL, delL] at H
 replace H := H.front 4 rfl
 dsimp only [setL, delL] at H
 refine RW.cl ?_
 refine ((del2_wc gf hes hlo rfl (by omega) H).mono ?_)
 clear H
 rintro y1 _ ⟨_, rfl, H⟩
 obtain ⟨ys, hys⟩ : ∃ z, z = es.filter fun y => !(selE m f) y := ⟨_, rfl⟩
 rw [← hys] at H
 have lys : ys.length ≤ es.length := by rw [hys]; exact List.length_filter_le _ _
 refine RW.v ?_
 refine RW.nil ?_
 replace H := ((H.del 4).del 1)
 dsimp only [setL, delL] at H
 refine W.rg [(4, pp b1), (5, pp b2), (6, pp b3), (8, pp b5), (9, pp b6), (11, slV), (12, slE), (13, pp b9), (15, x1), (16, y1)] fun TA => ?_
 refine W.seq ?_
 refine W.seq (W.region ?_)
 refine RW.ld H 1 1 ?_
 refine RW.v ?_
 refine RW.nil ?_
 refine W.c0 ?_
 refine W.skip ?_
 refine W.seq (W.region ?_)
 refine RW.v ?_
 refine RW.nil ?_
 replace H := (H.del 1)
 dsimp only [setL, delL] at H
 refine W.rg [(4, pp b1), (5, pp b2), (6, pp b3), (8, pp b5), (9, pp b6), (11, slV), (12, slE), (15, x1), (16, y1), (17, .int .i64 0)] fun TA => ?_
 refine W.seq ?_
 refine W.seq (W.region ?_)
 refine RW.v ?_
 refine RW.len (by kernel_rfl) (by kernel_rfl) rfl rfl rfl rfl ((H.sl 2 rfl).len (by kernel_rfl)) (by kernel_rfl) ?_
 refine RW.v ?_
 refine RW.len (by kernel_rfl) (by kernel_rfl) rfl rfl rfl rfl (hSV.len (e := 27) (by kernel_rfl)) (by kernel_rfl) ?_
 refine RW.v ?_
 refine RW.nil ?_
 refine W.rg [(4, pp b1), (5, pp b2), (6, pp b3), (8, pp b5), (9, pp b6), (11, slV), (12, slE), (15, x1), (16, y1), (17, .int .i64 0), (54, .bool (decide (((xs.length : Nat) : Int) < (ws.length : Int))))] fun TA => ?_
 refine W.cond rfl (fun hc20 => ?_) (fun hc20 => ?_)
 ·have hc20b := hc20
  have hc20 := of_decide_eq_true hc20
  refine W.region ?_
  iterate 2 refine RW.v ?_
  refine RW.len (by kernel_rfl) (by kernel_rfl) rfl rfl rfl rfl ((H.sl 2 rfl).len (by kernel_rfl)) (by kernel_rfl) ?_
  refine RW.valE (v' := .int .i64 (0 + ((xs.length : Nat) : Int))) (by kernel_rfl) (by kernel_rfl) rfl (congrArg (Value.int .i64) (wrap_in (by omega) (by omega))) (by kernel_rfl) ?_
  refine RW.v ?_
  refine RW.nil ?_
  refine W.rg [(4, pp b1), (5, pp b2), (6, pp b3), (8, pp b5), (9, pp b6), (11, slV), (12, slE), (15, x1), (16, y1), (17, .int .i64 (0 + ((xs.length : Nat) : Int)))] fun TA => ?_
  refine W.seq ?_
  refine W.seq (W.region ?_)
  refine RW.v ?_
  refine RW.len (by kernel_rfl) (by kernel_rfl) rfl rfl rfl rfl ((H.sl 0 rfl).len (by kernel_rfl)) (by kernel_rfl) ?_
  refine RW.v ?_
  refine RW.len (by kernel_rfl) (by kernel_rfl) rfl rfl rfl rfl (hSE.len (e := 27) (by kernel_rfl)) (by kernel_rfl) ?_
  refine RW.v ?_
  refine RW.nil ?_
  refine W.rg [(4, pp b1), (5, pp b2), (6, pp b3), (8, pp b5), (9, pp b6), (11, slV), (12, slE), (15, x1), (16, y1), (17, .int .i64 (0 + ((xs.length : Nat) : Int))), (63, .bool (decide (((ys.length : Nat) : Int) < (es.length : Int))))] fun TA => ?_
  refine W.cond rfl (fun hc21 => ?_) (fun hc21 => ?_)
  ·have hc21b := hc21
   have hc21 := of_decide_eq_true hc21
   refine W.region ?_
   iterate 2 refine RW.v ?_
   refine RW.len (by kernel_rfl) (by kernel_rfl) rfl rfl rfl rfl ((H.sl 0 rfl).len (by kernel_rfl)) (by kernel_rfl) ?_
   refine RW.valE (v' := .int .i64 ((0 + ((xs.length : Nat) : Int)) + ((ys.length : Nat) : Int))) (by kernel_rfl) (by kernel_rfl) rfl (congrArg (Value.int .i64) (wrap_in (by omega) (by omega))) (by kernel_rfl) ?_
   refine RW.v ?_
   refine RW.nil ?_
   refine W.rg [(4, pp b1), (5, pp b2), (6, pp b3), (8, pp b5), (9, pp b6), (11, slV), (12, slE), (15, x1), (16, y1), (17, .int .i64 ((0 + ((xs.length : Nat) : Int)) + ((ys.length : Nat) : Int)))] fun TA => ?_
   refine W.seq ?_
   refine W.seq ?_
   refine W.drawn (by kernel_rfl) (by kernel_rfl) H.gn ?_
   have H22 := H
   refine RW.v ?_
   refine RW.ld H22 1 1 ?_
   refine RW.cl ?_
   refine ⟨_, _, (s_limit (G := G66) H22.abs), ?_⟩
   refine RW.ld H22 1 1 ?_
   refine RW.cl ?_
   refine ⟨_, _, (s_many (G := G66) H22.abs), ?_⟩
   refine RW.valE (v' := .int .i64 ((m.limit : Int) - (m.many : Int))) (by kernel_rfl) (by kernel_rfl) rfl (congrArg (Value.int .i64) (wrap_in (by omega) (by omega))) (by kernel_rfl) ?_
   refine RW.valE (v' := .bool false) (by kernel_rfl) (by kernel_rfl) rfl (congrArg Value.bool (decide_eq_false (by omega))) (by kernel_rfl) ?_
   refine RW.nil ?_
   refine ⟨⟨by kernel_rfl, ⟨trivial, dyn_row (H22.get 1 rfl) (H22.get 1 rfl) ⟨fun h => Bool.noConfusion h, fun h => Bool.noConfusion h, fun _ => H22.get 1 rfl, fun h => Bool.noConfusion h, fun _ => H22.get 1 rfl, fun h => Bool.noConfusion h, fun h => Bool.noConfusion h, trivial⟩, trivial, dyn_row (H22.get 1 rfl) (H22.get 1 rfl) ⟨fun h => Bool.noConfusion h, fun h => Bool.noConfusion h, fun _ => H22.get 1 rfl, fun h => Bool.noConfusion h, fun _ => H22.get 1 rfl, fun h => Bool.noConfusion h, fun h => Bool.noConfusion h, trivial⟩, trivial, trivial, trivial, trivial⟩⟩, ?_⟩
   replace H := H22
   clear H22
   refine W.c0 ?_
   refine W.skip ?_
   refine W.seq ?_
   refine W.seq (W.region ?_)
   refine RW.v ?_
   refine RW.len (by kernel_rfl) (by kernel_rfl) rfl rfl rfl rfl ((H.sl 2 rfl).len (by kernel_rfl)) (by kernel_rfl) ?_
   refine RW.v ?_
   refine RW.len (by kernel_rfl) (by kernel_rfl) rfl rfl rfl rfl (hSV.len (e := 27) (by kernel_rfl)) (by kernel_rfl) ?_
   refine RW.valE (v' := .bool true) (by kernel_rfl) (by kernel_rfl) rfl (congrArg Value.bool (decide_eq_true (by omega))) (by kernel_rfl) ?_
   refine RW.nil ?_
   refine W.c1 ?_
   refine W.region ?_
   refine RW.ld H 1 1 ?_
   refine RW.v ?_
   refine RW.cl ?_
   refine ((make_lies (h := h) (m := m) (l := xs) H (grow_vw (H.sl 2 rfl)) (H.sl 2 rfl).one hf (by omega) hlo hlim).mono ?_)
   clear H
   rintro _ _ ⟨rfl, H⟩
   iterate 3 refine RW.v ?_
   refine RW.st H 6 [.int .i64 ((built m xs (1, 0)).2.1), .int .i64 ((built m xs (1, 0)).2.2)] [.int .i64 ((built m xs (1, 0)).2.1), .int .i64 ((built m xs (1, 0)).2.2)] ?_
   clear H; intro _ _ H; dsimp only [setL, delL] at H
   refine RW.nil ?_
   replace H := (H.del 2)
   dsimp only [setL, delL] at H
   refine W.rg [(4, pp b1), (5, pp b2), (6, pp b3), (8, pp b5), (9, pp b6), (12, slE), (16, y1)] fun TA => ?_
   refine W.seq ?_
   refine W.seq (W.region ?_)
   refine RW.v ?_
   refine RW.len (by kernel_rfl) (by kernel_rfl) rfl rfl rfl rfl ((H.sl 0 rfl).len (by kernel_rfl)) (by kernel_rfl) ?_
   refine RW.v ?_
   refine RW.len (by kernel_rfl) (by kernel_rfl) rfl rfl rfl rfl (hSE.len (e := 27) (by kernel_rfl)) (by kernel_rfl) ?_
   refine RW.valE (v' := .bool true) (by kernel_rfl) (by kernel_rfl) rfl (congrArg Value.bool (decide_eq_true (by omega))) (by kernel_rfl) ?_
   refine RW.nil ?_
   refine W.c1 ?_
   refine W.region ?_
   refine RW.ld H 1 1 ?_
   refine RW.v ?_
   refine RW.cl ?_
   refine ((make_lies (h := h) (m := (built m xs (1, 0)).1) (l := ys) H (grow_vw (H.sl 0 rfl)) (H.sl 0 rfl).one (ext_built hf xs (1, 0)).free (by have := (ext_built hf xs (1, 0)).many; rw [(ext_built hf xs (1, 0)).lim]; omega) (by rw [(ext_built hf xs (1, 0)).lim]; exact hlo) (by rw [(ext_built hf xs (1, 0)).lim]; exact hlim)).mono ?_)
   clear H
   rintro _ _ ⟨rfl, H⟩
   iterate 3 refine RW.v ?_
   refine RW.st H 4 [.int .i64 ((built (built m xs (1, 0)).1 ys (1, 0)).2.1), .int .i64 ((built (built m xs (1, 0)).1 ys (1, 0)).2.2)] [.int .i64 ((built (built m xs (1, 0)).1 ys (1, 0)).2.1), .int .i64 ((built (built m xs (1, 0)).1 ys (1, 0)).2.2)] ?_
   clear H; intro _ _ H; dsimp only [setL, delL] at H
   refine RW.nil ?_
   replace H := ((H.del 1).del 0)
   dsimp only [setL, delL] at H
   refine W.rg [(5, pp b2), (6, pp b3), (8, pp b5), (9, pp b6)] fun TA => ?_
   refine W.seq ?_
   refine W.drawn (by kernel_rfl) (by kernel_rfl) H.gn ?_
   have H23 := H
   refine RW.ld H23 3 2 ?_
   refine RW.ld H23 2 2 ?_
   refine RW.stD H23 1 (vs := [.int .i64 ((built m xs (1, 0)).2.1), .int .i64 ((built m xs (1, 0)).2.2)]) (cs' := [.int .i64 ((built m xs (1, 0)).2.1), .int .i64 ((built m xs (1, 0)).2.2)]) (by kernel_rfl) (by kernel_rfl) rfl rfl rfl rfl rfl (by kernel_rfl) (Nat.le_of_ble_eq_true rfl) rfl (by kernel_rfl) ?_
   intro _ H24
   dsimp only [setL, delL] at H24
   refine RW.stD H24 0 (vs := [.int .i64 ((built (built m xs (1, 0)).1 ys (1, 0)).2.1), .int .i64 ((built (built m xs (1, 0)).1 ys (1, 0)).2.2)]) (cs' := [.int .i64 ((built (built m xs (1, 0)).1 ys (1, 0)).2.1), .int .i64 ((built (built m xs (1, 0)).1 ys (1, 0)).2.2)]) (by kernel_rfl) (by kernel_rfl) rfl rfl rfl rfl rfl (by kernel_rfl) (Nat.le_of_ble_eq_true rfl) rfl (by kernel_rfl) ?_
   intro _ H25
   dsimp only [setL, delL] at H25
   refine RW.v ?_
   refine RW.nil ?_
   refine ⟨⟨by kernel_rfl, ⟨dyn_row (H23.get 3 rfl) (H25.get 3 rfl) ⟨fun h => Bool.noConfusion h, fun h => Bool.noConfusion h, fun _ => H23.get 3 rfl, fun _ => H24.get 3 rfl, fun h => Bool.noConfusion h, trivial⟩, dyn_row (H23.get 2 rfl) (H25.get 2 rfl) ⟨fun h => Bool.noConfusion h, fun h => Bool.noConfusion h, fun _ => H23.get 2 rfl, fun _ => H24.get 2 rfl, fun h => Bool.noConfusion h, trivial⟩, trivial, trivial, trivial, trivial⟩⟩, ?_⟩
   replace H := H25
   clear H23 H24 H25
   replace H := ((H.del 3).del 2)
   dsimp only [setL, delL] at H
   refine W.ret ?_
   refine endG (by rfl) (by exact resL_cell rfl (H.get 1 rfl) (by rw [uT_eq]; exact Tryz.underlying27) (by kernel_rfl) rfl rfl (by exact resL_cell rfl (H.get 0 rfl) (by rw [uT_eq]; exact Tryz.underlying27) (by kernel_rfl) rfl rfl (by exact resL_tmp rfl))) ?_
   rw [← hxs, ← hys, remP_yes (show xs.length < ws.length by omega), remP_yes (show ys.length < es.length by omega)]
   exact ⟨rfl, ((H.del 1).del 0).back (leV.trans leE)⟩
  ·have hc21b := hc21
   have hc21 := of_decide_eq_false hc21
   refine W.skip ?_
   refine W.seq ?_
   refine W.seq ?_
   refine W.drawn (by kernel_rfl) (by kernel_rfl) H.gn ?_
   have H26 := H
   refine RW.v ?_
   refine RW.ld H26 1 1 ?_
   refine RW.cl ?_
   refine ⟨_, _, (s_limit (G := G66) H26.abs), ?_⟩
   refine RW.ld H26 1 1 ?_
   refine RW.cl ?_
   refine ⟨_, _, (s_many (G := G66) H26.abs), ?_⟩
   refine RW.valE (v' := .int .i64 ((m.limit : Int) - (m.many : Int))) (by kernel_rfl) (by kernel_rfl) rfl (congrArg (Value.int .i64) (wrap_in (by omega) (by omega))) (by kernel_rfl) ?_
   refine RW.valE (v' := .bool false) (by kernel_rfl) (by kernel_rfl) rfl (congrArg Value.bool (decide_eq_false (by omega))) (by kernel_rfl) ?_
   refine RW.nil ?_
   refine ⟨⟨by kernel_rfl, ⟨trivial, dyn_row (H26.get 1 rfl) (H26.get 1 rfl) ⟨fun h => Bool.noConfusion h, fun h => Bool.noConfusion h, fun _ => H26.get 1 rfl, fun h => Bool.noConfusion h, fun _ => H26.get 1 rfl, fun h => Bool.noConfusion h, fun h => Bool.noConfusion h, trivial⟩, trivial, dyn_row (H26.get 1 rfl) (H26.get 1 rfl) ⟨fun h => Bool.noConfusion h, fun h => Bool.noConfusion h, fun _ => H26.get 1 rfl, fun h => Bool.noConfusion h, fun _ => H26.get 1 rfl, fun h => Bool.noConfusion h, fun h => Bool.noConfusion h, trivial⟩, trivial, trivial, trivial, trivial⟩⟩, ?_⟩
   replace H := H26
   clear H26
   refine W.c0 ?_
   refine W.skip ?_
   refine W.seq ?_
   refine W.seq (W.region ?_)
   refine RW.v ?_
   refine RW.len (by kernel_rfl) (by kernel_rfl) rfl rfl rfl rfl ((H.sl 2 rfl).len (by kernel_rfl)) (by kernel_rfl) ?_
   refine RW.v ?_
   refine RW.len (by kernel_rfl) (by kernel_rfl) rfl rfl rfl rfl (hSV.len (e := 27) (by kernel_rfl)) (by kernel_rfl) ?_
   refine RW.valE (v' := .bool true) (by kernel_rfl) (by kernel_rfl) rfl (congrArg Value.bool (decide_eq_true (by omega))) (by kernel_rfl) ?_
   refine RW.nil ?_
   refine W.c1 ?_
   refine W.region ?_
   refine RW.ld H 1 1 ?_
   refine RW.v ?_
   refine RW.cl ?_
   refine ((make_lies (h := h) (m := m) (l := xs) H (grow_vw (H.sl 2 rfl)) (H.sl 2 rfl).one hf (by omega) hlo hlim).mono ?_)
   clear H
   rintro _ _ ⟨rfl, H⟩
   iterate 3 refine RW.v ?_
   refine RW.st H 6 [.int .i64 ((built m xs (1, 0)).2.1), .int .i64 ((built m xs (1, 0)).2.2)] [.int .i64 ((built m xs (1, 0)).2.1), .int .i64 ((built m xs (1, 0)).2.2)] ?_
   clear H; intro _ _ H; dsimp only [setL, delL] at H
   refine RW.nil ?_
   replace H := (H.del 2)
   dsimp only [setL, delL] at H
   refine W.rg [(4, pp b1), (5, pp b2), (6, pp b3), (8, pp b5), (9, pp b6), (12, slE), (16, y1)] fun TA => ?_
   refine W.seq ?_
   refine W.seq (W.region ?_)
   refine RW.v ?_
   refine RW.len (by kernel_rfl) (by kernel_rfl) rfl rfl rfl rfl ((H.sl 0 rfl).len (by kernel_rfl)) (by kernel_rfl) ?_
   refine RW.v ?_
   refine RW.len (by kernel_rfl) (by kernel_rfl) rfl rfl rfl rfl (hSE.len (e := 27) (by kernel_rfl)) (by kernel_rfl) ?_
   refine RW.valE (v' := .bool false) (by kernel_rfl) (by kernel_rfl) rfl (congrArg Value.bool (decide_eq_false (by omega))) (by kernel_rfl) ?_
   refine RW.nil ?_
   refine W.c0 ?_
   refine W.skip ?_
   refine W.seq ?_
   refine W.drawn (by kernel_rfl) (by kernel_rfl) H.gn ?_
   have H27 := H
   refine RW.ld H27 5 2 ?_
   refine RW.ld H27 4 2 ?_
   refine RW.stD H27 3 (vs := [.int .i64 ((built m xs (1, 0)).2.1), .int .i64 ((built m xs (1, 0)).2.2)]) (cs' := [.int .i64 ((built m xs (1, 0)).2.1), .int .i64 ((built m xs (1, 0)).2.2)]) (by kernel_rfl) (by kernel_rfl) rfl rfl rfl rfl rfl (by kernel_rfl) (Nat.le_of_ble_eq_true rfl) rfl (by kernel_rfl) ?_
   intro _ H28
   dsimp only [setL, delL] at H28
   refine RW.stD H28 2 (vs := [.int .i64 p.1, .int .i64 p.2]) (cs' := [.int .i64 p.1, .int .i64 p.2]) (by kernel_rfl) (by kernel_rfl) rfl rfl rfl rfl rfl (by kernel_rfl) (Nat.le_of_ble_eq_true rfl) rfl (by kernel_rfl) ?_
   intro _ H29
   dsimp only [setL, delL] at H29
   refine RW.v ?_
   refine RW.nil ?_
   refine ⟨⟨by kernel_rfl, ⟨dyn_row (H27.get 5 rfl) (H29.get 5 rfl) ⟨fun h => Bool.noConfusion h, fun h => Bool.noConfusion h, fun _ => H27.get 5 rfl, fun _ => H28.get 5 rfl, fun h => Bool.noConfusion h, trivial⟩, dyn_row (H27.get 4 rfl) (H29.get 4 rfl) ⟨fun h => Bool.noConfusion h, fun h => Bool.noConfusion h, fun _ => H27.get 4 rfl, fun _ => H28.get 4 rfl, fun h => Bool.noConfusion h, trivial⟩, trivial, trivial, trivial, trivial⟩⟩, ?_⟩
   replace H := H29
   clear H27 H28 H29
   replace H := ((((H.del 5).del 4).del 1).del 0)
   dsimp only [setL, delL] at H
   refine W.ret ?_
   refine endG (by rfl) (by exact resL_cell rfl (H.get 1 rfl) (by rw [uT_eq]; exact Tryz.underlying27) (by kernel_rfl) rfl rfl (by exact resL_cell rfl (H.get 0 rfl) (by rw [uT_eq]; exact Tryz.underlying27) (by kernel_rfl) rfl rfl (by exact resL_tmp rfl))) ?_
   rw [← hxs, ← hys, remP_yes (show xs.length < ws.length by omega), remP_no (show ¬ ys.length < es.length by omega)]
   exact ⟨rfl, ((H.del 1).del 0).back (leV.trans leE)⟩
 ·have hc20b := hc20
  have hc20 := of_decide_eq_false hc20
  refine W.skip ?_
  refine W.seq ?_
  refine W.seq (W.region ?_)
  refine RW.v ?_
  refine RW.len (by kernel_rfl) (by kernel_rfl) rfl rfl rfl rfl ((H.sl 0 rfl).len (by kernel_rfl)) (by kernel_rfl) ?_
  refine RW.v ?_
  refine RW.len (by kernel_rfl) (by kernel_rfl) rfl rfl rfl rfl (hSE.len (e := 27) (by kernel_rfl)) (by kernel_rfl) ?_
  refine RW.v ?_
  refine RW.nil ?_
  refine W.rg [(4, pp b1), (5, pp b2), (6, pp b3), (8, pp b5), (9, pp b6), (11, slV), (12, slE), (15, x1), (16, y1), (17, .int .i64 0), (63, .bool (decide (((ys.length : Nat) : Int) < (es.length : Int))))] fun TA => ?_
  refine W.cond rfl (fun hc30 => ?_) (fun hc30 => ?_)
  ·have hc30b := hc30
   have hc30 := of_decide_eq_true hc30
   refine W.region ?_
   iterate 2 refine RW.v ?_
   refine RW.len (by kernel_rfl) (by kernel_rfl) rfl rfl rfl rfl ((H.sl 0 rfl).len (by kernel_rfl)) (by kernel_rfl) ?_
   refine RW.valE (v' := .int .i64 (0 + ((ys.length : Nat) : Int))) (by kernel_rfl) (by kernel_rfl) rfl (congrArg (Value.int .i64) (wrap_in (by omega) (by omega))) (by kernel_rfl) ?_
   refine RW.v ?_
   refine RW.nil ?_
   refine W.rg [(4, pp b1), (5, pp b2), (6, pp b3), (8, pp b5), (9, pp b6), (11, slV), (12, slE), (15, x1), (16, y1), (17, .int .i64 (0 + ((ys.length : Nat) : Int)))] fun TA => ?_
   refine W.seq ?_
   refine W.seq ?_
   refine W.drawn (by kernel_rfl) (by kernel_rfl) H.gn ?_
   have H31 := H
   refine RW.v ?_
   refine RW.ld H31 1 1 ?_
   refine RW.cl ?_
   refine ⟨_, _, (s_limit (G := G66) H31.abs), ?_⟩
   refine RW.ld H31 1 1 ?_
   refine RW.cl ?_
   refine ⟨_, _, (s_many (G := G66) H31.abs), ?_⟩
   refine RW.valE (v' := .int .i64 ((m.limit : Int) - (m.many : Int))) (by kernel_rfl) (by kernel_rfl) rfl (congrArg (Value.int .i64) (wrap_in (by omega) (by omega))) (by kernel_rfl) ?_
   refine RW.valE (v' := .bool false) (by kernel_rfl) (by kernel_rfl) rfl (congrArg Value.bool (decide_eq_false (by omega))) (by kernel_rfl) ?_
   refine RW.nil ?_
   refine ⟨⟨by kernel_rfl, ⟨trivial, dyn_row (H31.get 1 rfl) (H31.get 1 rfl) ⟨fun h => Bool.noConfusion h, fun h => Bool.noConfusion h, fun _ => H31.get 1 rfl, fun h => Bool.noConfusion h, fun _ => H31.get 1 rfl, fun h => Bool.noConfusion h, fun h => Bool.noConfusion h, trivial⟩, trivial, dyn_row (H31.get 1 rfl) (H31.get 1 rfl) ⟨fun h => Bool.noConfusion h, fun h => Bool.noConfusion h, fun _ => H31.get 1 rfl, fun h => Bool.noConfusion h, fun _ => H31.get 1 rfl, fun h => Bool.noConfusion h, fun h => Bool.noConfusion h, trivial⟩, trivial, trivial, trivial, trivial⟩⟩, ?_⟩
   replace H := H31
   clear H31
   refine W.c0 ?_
   refine W.skip ?_
   refine W.seq ?_
   refine W.seq (W.region ?_)
   refine RW.v ?_
   refine RW.len (by kernel_rfl) (by kernel_rfl) rfl rfl rfl rfl ((H.sl 2 rfl).len (by kernel_rfl)) (by kernel_rfl) ?_
   refine RW.v ?_
   refine RW.len (by kernel_rfl) (by kernel_rfl) rfl rfl rfl rfl (hSV.len (e := 27) (by kernel_rfl)) (by kernel_rfl) ?_
   refine RW.valE (v' := .bool false) (by kernel_rfl) (by kernel_rfl) rfl (congrArg Value.bool (decide_eq_false (by omega))) (by kernel_rfl) ?_
   refine RW.nil ?_
   refine W.c0 ?_
   refine W.skip ?_
   refine W.seq ?_
   refine W.seq (W.region ?_)
   refine RW.v ?_
   refine RW.len (by kernel_rfl) (by kernel_rfl) rfl rfl rfl rfl ((H.sl 0 rfl).len (by kernel_rfl)) (by kernel_rfl) ?_
   refine RW.v ?_
   refine RW.len (by kernel_rfl) (by kernel_rfl) rfl rfl rfl rfl (hSE.len (e := 27) (by kernel_rfl)) (by kernel_rfl) ?_
   refine RW.valE (v' := .bool true) (by kernel_rfl) (by kernel_rfl) rfl (congrArg Value.bool (decide_eq_true (by omega))) (by kernel_rfl) ?_
   refine RW.nil ?_
   replace H := (H.del 2)
   dsimp only [setL, delL] at H
   refine W.c1 ?_
   refine W.region ?_
   refine RW.ld H 1 1 ?_
   refine RW.v ?_
   refine RW.cl ?_
   refine ((make_lies (h := h) (m := m) (l := ys) H (grow_vw (H.sl 0 rfl)) (H.sl 0 rfl).one hf (by omega) hlo hlim).mono ?_)
   clear H
   rintro _ _ ⟨rfl, H⟩
   iterate 3 refine RW.v ?_
   refine RW.st H 4 [.int .i64 ((built m ys (1, 0)).2.1), .int .i64 ((built m ys (1, 0)).2.2)] [.int .i64 ((built m ys (1, 0)).2.1), .int .i64 ((built m ys (1, 0)).2.2)] ?_
   clear H; intro _ _ H; dsimp only [setL, delL] at H
   refine RW.nil ?_
   replace H := ((H.del 1).del 0)
   dsimp only [setL, delL] at H
   refine W.rg [(5, pp b2), (6, pp b3), (8, pp b5), (9, pp b6)] fun TA => ?_
   refine W.seq ?_
   refine W.drawn (by kernel_rfl) (by kernel_rfl) H.gn ?_
   have H32 := H
   refine RW.ld H32 3 2 ?_
   refine RW.ld H32 2 2 ?_
   refine RW.stD H32 1 (vs := [.int .i64 vw.1, .int .i64 vw.2]) (cs' := [.int .i64 vw.1, .int .i64 vw.2]) (by kernel_rfl) (by kernel_rfl) rfl rfl rfl rfl rfl (by kernel_rfl) (Nat.le_of_ble_eq_true rfl) rfl (by kernel_rfl) ?_
   intro _ H33
   dsimp only [setL, delL] at H33
   refine RW.stD H33 0 (vs := [.int .i64 ((built m ys (1, 0)).2.1), .int .i64 ((built m ys (1, 0)).2.2)]) (cs' := [.int .i64 ((built m ys (1, 0)).2.1), .int .i64 ((built m ys (1, 0)).2.2)]) (by kernel_rfl) (by kernel_rfl) rfl rfl rfl rfl rfl (by kernel_rfl) (Nat.le_of_ble_eq_true rfl) rfl (by kernel_rfl) ?_
   intro _ H34
   dsimp only [setL, delL] at H34
   refine RW.v ?_
   refine RW.nil ?_
   refine ⟨⟨by kernel_rfl, ⟨dyn_row (H32.get 3 rfl) (H34.get 3 rfl) ⟨fun h => Bool.noConfusion h, fun h => Bool.noConfusion h, fun _ => H32.get 3 rfl, fun _ => H33.get 3 rfl, fun h => Bool.noConfusion h, trivial⟩, dyn_row (H32.get 2 rfl) (H34.get 2 rfl) ⟨fun h => Bool.noConfusion h, fun h => Bool.noConfusion h, fun _ => H32.get 2 rfl, fun _ => H33.get 2 rfl, fun h => Bool.noConfusion h, trivial⟩, trivial, trivial, trivial, trivial⟩⟩, ?_⟩
   replace H := H34
   clear H32 H33 H34
   replace H := ((H.del 3).del 2)
   dsimp only [setL, delL] at H
   refine W.ret ?_
   refine endG (by rfl) (by exact resL_cell rfl (H.get 1 rfl) (by rw [uT_eq]; exact Tryz.underlying27) (by kernel_rfl) rfl rfl (by exact resL_cell rfl (H.get 0 rfl) (by rw [uT_eq]; exact Tryz.underlying27) (by kernel_rfl) rfl rfl (by exact resL_tmp rfl))) ?_
   rw [← hxs, ← hys, remP_no (show ¬ xs.length < ws.length by omega), remP_yes (show ys.length < es.length by omega)]
   exact ⟨rfl, ((H.del 1).del 0).back (leV.trans leE)⟩
  ·have hc30b := hc30
   have hc30 := of_decide_eq_false hc30
   refine W.skip ?_
   refine W.seq ?_
   refine W.seq ?_
   refine W.drawn (by kernel_rfl) (by kernel_rfl) H.gn ?_
   have H35 := H
   refine RW.v ?_
   refine RW.ld H35 1 1 ?_
   refine RW.cl ?_
   refine ⟨_, _, (s_limit (G := G66) H35.abs), ?_⟩
   refine RW.ld H35 1 1 ?_
   refine RW.cl ?_
   refine ⟨_, _, (s_many (G := G66) H35.abs), ?_⟩
   refine RW.valE (v' := .int .i64 ((m.limit : Int) - (m.many : Int))) (by kernel_rfl) (by kernel_rfl) rfl (congrArg (Value.int .i64) (wrap_in (by omega) (by omega))) (by kernel_rfl) ?_
   refine RW.valE (v' := .bool false) (by kernel_rfl) (by kernel_rfl) rfl (congrArg Value.bool (decide_eq_false (by omega))) (by kernel_rfl) ?_
   refine RW.nil ?_
   refine ⟨⟨by kernel_rfl, ⟨trivial, dyn_row (H35.get 1 rfl) (H35.get 1 rfl) ⟨fun h => Bool.noConfusion h, fun h => Bool.noConfusion h, fun _ => H35.get 1 rfl, fun h => Bool.noConfusion h, fun _ => H35.get 1 rfl, fun h => Bool.noConfusion h, fun h => Bool.noConfusion h, trivial⟩, trivial, dyn_row (H35.get 1 rfl) (H35.get 1 rfl) ⟨fun h => Bool.noConfusion h, fun h => Bool.noConfusion h, fun _ => H35.get 1 rfl, fun h => Bool.noConfusion h, fun _ => H35.get 1 rfl, fun h => Bool.noConfusion h, fun h => Bool.noConfusion h, trivial⟩, trivial, trivial, trivial, trivial⟩⟩, ?_⟩
   replace H := H35
   clear H35
   refine W.c0 ?_
   refine W.skip ?_
   refine W.seq ?_
   refine W.seq (W.region ?_)
   refine RW.v ?_
   refine RW.len (by kernel_rfl) (by kernel_rfl) rfl rfl rfl rfl ((H.sl 2 rfl).len (by kernel_rfl)) (by kernel_rfl) ?_
   refine RW.v ?_
   refine RW.len (by kernel_rfl) (by kernel_rfl) rfl rfl rfl rfl (hSV.len (e := 27) (by kernel_rfl)) (by kernel_rfl) ?_
   refine RW.valE (v' := .bool false) (by kernel_rfl) (by kernel_rfl) rfl (congrArg Value.bool (decide_eq_false (by omega))) (by kernel_rfl) ?_
   refine RW.nil ?_
   refine W.c0 ?_
   refine W.skip ?_
   refine W.seq ?_
   refine W.seq (W.region ?_)
   refine RW.v ?_
   refine RW.len (by kernel_rfl) (by kernel_rfl) rfl rfl rfl rfl ((H.sl 0 rfl).len (by kernel_rfl)) (by kernel_rfl) ?_
   refine RW.v ?_
   refine RW.len (by kernel_rfl) (by kernel_rfl) rfl rfl rfl rfl (hSE.len (e := 27) (by kernel_rfl)) (by kernel_rfl) ?_
   refine RW.valE (v' := .bool false) (by kernel_rfl) (by kernel_rfl) rfl (congrArg Value.bool (decide_eq_false (by omega))) (by kernel_rfl) ?_
   refine RW.nil ?_
   replace H := (H.del 2)
   dsimp only [setL, delL] at H
   refine W.c0 ?_
   refine W.skip ?_
   refine W.seq ?_
   refine W.drawn (by kernel_rfl) (by kernel_rfl) H.gn ?_
   have H36 := H
   refine RW.ld H36 5 2 ?_
   refine RW.ld H36 4 2 ?_
   refine RW.stD H36 3 (vs := [.int .i64 vw.1, .int .i64 vw.2]) (cs' := [.int .i64 vw.1, .int .i64 vw.2]) (by kernel_rfl) (by kernel_rfl) rfl rfl rfl rfl rfl (by kernel_rfl) (Nat.le_of_ble_eq_true rfl) rfl (by kernel_rfl) ?_
   intro _ H37
   dsimp only [setL, delL] at H37
   refine RW.stD H37 2 (vs := [.int .i64 p.1, .int .i64 p.2]) (cs' := [.int .i64 p.1, .int .i64 p.2]) (by kernel_rfl) (by kernel_rfl) rfl rfl rfl rfl rfl (by kernel_rfl) (Nat.le_of_ble_eq_true rfl) rfl (by kernel_rfl) ?_
   intro _ H38
   dsimp only [setL, delL] at H38
   refine RW.v ?_
   refine RW.nil ?_
   refine ⟨⟨by kernel_rfl, ⟨dyn_row (H36.get 5 rfl) (H38.get 5 rfl) ⟨fun h => Bool.noConfusion h, fun h => Bool.noConfusion h, fun _ => H36.get 5 rfl, fun _ => H37.get 5 rfl, fun h => Bool.noConfusion h, trivial⟩, dyn_row (H36.get 4 rfl) (H38.get 4 rfl) ⟨fun h => Bool.noConfusion h, fun h => Bool.noConfusion h, fun _ => H36.get 4 rfl, fun _ => H37.get 4 rfl, fun h => Bool.noConfusion h, trivial⟩, trivial, trivial, trivial, trivial⟩⟩, ?_⟩
   replace H := H38
   clear H36 H37 H38
   replace H := ((((H.del 5).del 4).del 1).del 0)
   dsimp only [setL, delL] at H
   refine W.ret ?_
   refine endG (by rfl) (by exact resL_cell rfl (H.get 1 rfl) (by rw [uT_eq]; exact Tryz.underlying27) (by kernel_rfl) rfl rfl (by exact resL_cell rfl (H.get 0 rfl) (by rw [uT_eq]; exact Tryz.underlying27) (by kernel_rfl) rfl rfl (by exact resL_tmp rfl))) ?_
   rw [← hxs, ← hys, remP_no (show ¬ xs.length < ws.length by omega), remP_no (show ¬ ys.length < es.length by omega)]
   exact ⟨rfl, ((H.del 1).del 0).back (leV.trans leE)⟩
end
end Go.Proofs.YtaaebeiigkhcjaaGreatDoor
