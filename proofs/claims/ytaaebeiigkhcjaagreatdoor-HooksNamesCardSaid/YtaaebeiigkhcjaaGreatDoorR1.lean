/-
 The parts of Remove. Conditions: the heap lies there as HeapAt says.
 entry and depth where a list of depths may hold what is no entry. Conditions: the heap lies there as HeapAt says.
 slices.DeleteFunc with the two closures of Remove. Conditions: the heap lies there as HeapAt says.
 Slice, elements and Clone, where there is nothing. Conditions: the heap lies there as HeapAt says.
-/
import Derived.Test.YtaaebeiigkhcjaaGreatDoorHod
import Derived.Test.YtaaebeiigkhcjaaGreatDoorD1
import Derived.Test.YtaaebeiigkhcjaaGreatDoorHkc
namespace Go.Proofs.YtaaebeiigkhcjaaGreatDoor
set_option maxRecDepth 100000
section
variable {A : Abs} {F : Nat → Option Blk2} {σ σ0 : Mem} {L : List Ent} {v : Value} {n : Nat} {h : Nat} {m : HM}
theorem clone_row {l : List Wd} {b p c : Nat} {SP : Option Nat} (hn0 : 0 < n) (hn : n ≤ 65536) (hs : SlF σ0.get 2 (.slice (some ⟨b, p, SP⟩) n c) n (wdC l)) (hG : G66 ≤ σ0.next) (ha : σ0.abs = A) : WC G66 Tryz.prog 56 #[.slice (some ⟨b, p, SP⟩) n c] σ0 fun r σ' => Lies G66 A σ0.get σ' [.sl 27 2 r n (wdC l)] := by
 have H := Lies.start hG ha
 generalize σ0.get = F at H hs ⊢
 refine WC.enter (fn := Tryz.f56) Tryz.func56 rfl ?_
 refine W.rg [(0, .slice (some ⟨b, p, SP⟩) n c)] fun TA => ?_
 refine W.seq (W.region ?_)
 refine RW.v ?_
 refine RW.nil ?_
 refine W.rg [(0, .slice (some ⟨b, p, SP⟩) n c)] fun TA => ?_
 refine W.seq ?_
 refine W.seq (W.region ?_)
 iterate 2 refine RW.v ?_
 refine RW.nil ?_
 refine W.c0 ?_
 refine W.skip ?_
 refine W.seq (W.region ?_)
 refine RW.mkL H (x := .row ⟨[], 27, false⟩) (fm := fun b => .slice (some ⟨b, 0, none⟩) 0 0) (by kernel_rfl) (by kernel_rfl) (by kernel_rfl) (by kernel_rfl) ?_
 clear H; intro _ b1 _ H
 refine RW.v ?_
 replace H := H.nilSl 27 2
 refine RW.appFD H 0 (e2 := 27) hs (by kernel_rfl) (by kernel_rfl) rfl rfl rfl rfl rfl rfl rfl (.inr ⟨hn0, rfl, _, _, _, rfl, H.get 1 rfl⟩) (by kernel_rfl) (by kernel_rfl) (by kernel_rfl) (by decide) (wdC_ones _) (by omega) (by kernel_rfl) ?_
 clear H; intro _ v2 H
 dsimp only [setL, delL] at H
 refine RW.v ?_
 refine RW.nil ?_
 replace H := (H.del 1)
 dsimp only [setL, delL] at H
 refine W.ret ?_
 refine endG (by rfl) (by exact resL_tmp rfl) ?_
 have K := H
 rw [Nat.zero_add, List.nil_append] at K
 exact K
theorem eq1_wc {f y : Wd} {be bh bf : Nat} (gf : Good m f) (gy : Good m y) (hlo : 0 < m.limit) (H : Lies G66 (heapAbs h m) F σ (.at_ be (.row ⟨[.int .i64 0], 30, false⟩) :: .at_ bh (.row ⟨[pp h], 22, false⟩) :: .at_ bf (.row ⟨[.int .i64 f.1, .int .i64 f.2], 27, false⟩) :: L)) :
  WC G66 Tryz.prog 53 #[wdV y, pp be, pp bh, pp bf] σ fun r σ' => r = .bool (decide (keyW m f = keyW m y)) ∧ Lies G66 (heapAbs h m) F σ' (.at_ be (.row ⟨[.int .i64 0], 30, false⟩) :: .at_ bh (.row ⟨[pp h], 22, false⟩) :: .at_ bf (.row ⟨[.int .i64 f.1, .int .i64 f.2], 27, false⟩) :: L) := by
 refine WC.enter (fn := Tryz.f53) Tryz.func53 rfl ?_
 refine W.rg [(0, .agg #[.int .i64 y.1, .int .i64 y.2]), (1, pp be), (2, pp bh), (3, pp bf)] fun TA => ?_
 refine W.seq (W.region ?_)
 refine RW.mk H (.row ⟨[.int .i64 y.1, .int .i64 y.2], 27, false⟩) ?_
 clear H; intro _ b1 _ H
 refine RW.v ?_
 refine RW.nil ?_
 refine W.rg [(1, pp be), (2, pp bh), (3, pp bf), (4, pp b1)] fun TA => ?_
 refine W.seq ?_
 refine W.seq (W.region ?_)
 refine RW.ld H 1 1 ?_
 refine RW.v ?_
 refine RW.nil ?_
 refine W.c0 ?_
 refine W.skip ?_
 refine W.seq (W.region ?_)
 refine RW.ld H 2 1 ?_
 refine RW.ld H 3 2 ?_
 refine RW.ld H 0 2 ?_
 refine RW.cl ?_
 refine ((Equal_hw gf gy hlo H).mono ?_)
 clear H
 rintro _ _ ⟨rfl, H⟩
 iterate 5 refine RW.v ?_
 refine RW.nil ?_
 replace H := (H.del 0)
 dsimp only [setL, delL] at H
 refine W.rg [(1, pp be), (6, .bool (decide (keyW m f = keyW m y))), (7, .int .i64 0)] fun TA => ?_
 refine W.seq (W.region ?_)
 refine RW.v ?_
 refine RW.st H 0 [.int .i64 0] [.int .i64 0] ?_
 clear H; intro _ _ H; dsimp only [setL, delL] at H
 refine RW.nil ?_
 refine W.rg [(6, .bool (decide (keyW m f = keyW m y))), (7, .int .i64 0)] fun TA => ?_
 refine W.seq (W.region ?_)
 iterate 2 refine RW.v ?_
 refine RW.both _ _ rfl rfl rfl (fun hc2 => ?_) (fun hc2 => ?_)
 ·have hc2b := hc2
  have hc2 := of_decide_eq_true hc2
  refine RW.val (by rfl) (by kernel_rfl) rfl (by kernel_rfl) ?_
  refine RW.val (by rfl) (by kernel_rfl) rfl (by kernel_rfl) ?_
  iterate 2 refine RW.v ?_
  refine RW.nil ?_
  refine W.ret ?_
  refine endG (by rfl) (by exact resL_tmp rfl) ?_
  replace H := H.front 2 rfl
  dsimp only [setL, delL] at H
  replace H := H.front 2 rfl
  dsimp only [setL, delL] at H
  replace H := H.front 2 rfl
  dsimp only [setL, delL] at H
  exact ⟨congrArg Value.bool hc2b.symm, H⟩
 ·have hc2b := hc2
  have hc2 := of_decide_eq_false hc2
  refine RW.skip (by rfl) (by kernel_rfl) ?_
  refine RW.skip (by rfl) (by kernel_rfl) ?_
  iterate 2 refine RW.v ?_
  refine RW.nil ?_
  refine W.ret ?_
  refine endG (by rfl) (by exact resL_tmp rfl) ?_
  replace H := H.front 2 rfl
  dsimp only [setL, delL] at H
  replace H := H.front 2 rfl
  dsimp only [setL, delL] at H
  replace H := H.front 2 rfl
  dsimp only [setL, delL] at H
  exact ⟨congrArg Value.bool hc2b.symm, H⟩
end
end Go.Proofs.YtaaebeiigkhcjaaGreatDoor
namespace Go.Proofs.YtaaebeiigkhcjaaGreatDoor
set_option maxRecDepth 100000
def entO (m : HM) (e : Wd) : Option Rk := match m.find e with
 | some (.pair g d) => if d.1 = 0 then some (g, d.2) else none
 | _ => none
inductive DepE (m : HM) : Wd → Prop
 | atom {e : Wd} (h : e.1 = 0 ∨ e.1 = 1) : DepE m e
 | pair {k : Int} {g d : Wd} (hf : m.find (2, k) = some (.pair g d)) (gg : Good m g) : DepE m (2, k)
def depE (m : HM) (x : Wd) (es : List Wd) : Int := depOf m x (es.filterMap (entO m))
section
variable {m : HM} {x : Wd} {es : List Wd} {i : Nat} {g : Wd} {d : Int}
theorem takeE_some (hi : i < es.length) (he : entO m (es.getD i (0, 0)) = some (g, d)) : (es.take (i + 1)).filterMap (entO m) = (es.take i).filterMap (entO m) ++ [(g, d)] := by
 rw [take_snoc hi, List.filterMap_append, List.filterMap_cons, he]
 rfl
theorem takeE_none (hi : i < es.length) (he : entO m (es.getD i (0, 0)) = none) : (es.take (i + 1)).filterMap (entO m) = (es.take i).filterMap (entO m) := by
 rw [take_snoc hi, List.filterMap_append, List.filterMap_cons, he]
 exact List.append_nil _
theorem notE_some (hi : i < es.length) (hN : ∀ y ∈ (es.take i).filterMap (entO m), keyW m x ≠ keyW m y.1) (he : entO m (es.getD i (0, 0)) = some (g, d)) (h : ¬ keyW m x = keyW m g) : ∀ y ∈ (es.take (i + 1)).filterMap (entO m), keyW m x ≠ keyW m y.1 := by
 rw [takeE_some hi he]
 intro y hy
 rcases List.mem_append.1 hy with e | e
 ·exact hN y e
 ·rw [List.mem_singleton.1 e]; exact h
theorem notE_none (hi : i < es.length) (hN : ∀ y ∈ (es.take i).filterMap (entO m), keyW m x ≠ keyW m y.1) (he : entO m (es.getD i (0, 0)) = none) : ∀ y ∈ (es.take (i + 1)).filterMap (entO m), keyW m x ≠ keyW m y.1 := by
 rw [takeE_none hi he]
 exact hN
theorem depE_no (hN : ∀ y ∈ (es.take i).filterMap (entO m), keyW m x ≠ keyW m y.1) (hi : es.length ≤ i) : Value.tuple #[.int .i64 0, .int .i64 0] = .tuple #[.int .i64 (depE m x es), .int .i64 0] := by
 rw [List.take_of_length_le hi] at hN
 unfold depE
 rw [depOf_no hN]
theorem depE_yes (hi : i < es.length) (hN : ∀ y ∈ (es.take i).filterMap (entO m), keyW m x ≠ keyW m y.1) (he : entO m (es.getD i (0, 0)) = some (g, d)) (h : keyW m x = keyW m g) : Value.tuple #[.int .i64 d, .int .i64 0] = .tuple #[.int .i64 (depE m x es), .int .i64 0] := by
 have hsp : es.filterMap (entO m) = (es.take i).filterMap (entO m) ++ (g, d) :: (es.drop (i + 1)).filterMap (entO m) := by
  have e1 : es = es.take i ++ es.getD i (0, 0) :: es.drop (i + 1) := by
   rw [List.getD_eq_getElem?_getD, List.getElem?_eq_getElem hi]
   show es = es.take i ++ es[i] :: es.drop (i + 1)
   rw [← List.drop_eq_getElem_cons hi, List.take_append_drop]
  conv => lhs; rw [e1]
  rw [List.filterMap_append, List.filterMap_cons, he]
 unfold depE
 rw [hsp]
 have hl := depOf_yes (m := m) (x := x) (fs := (es.take i).filterMap (entO m) ++ (g, d) :: (es.drop (i + 1)).filterMap (entO m)) (i := ((es.take i).filterMap (entO m)).length) (by simp) (by rw [List.take_left]; exact hN)
 have hg : ((es.take i).filterMap (entO m) ++ (g, d) :: (es.drop (i + 1)).filterMap (entO m)).getD ((es.take i).filterMap (entO m)).length rk0 = (g, d) := by
  rw [List.getD_eq_getElem?_getD, List.getElem?_append_right (Nat.le_refl _), Nat.sub_self]
  rfl
 rw [hg] at hl
 rw [hl h]
end
section
variable {h : Nat} {m : HM} {σ0 : Mem}
theorem entA_wc {e : Wd} (he : e.1 = 0 ∨ e.1 = 1) (hG : G66 ≤ σ0.next) (ha : σ0.abs = heapAbs h m) :
  WC G66 Tryz.prog 58 #[pp h, wdV e] σ0 fun r σ' => r = .tuple #[wdV (0, 0), .int .i64 0, .bool false] ∧ Lies G66 (heapAbs h m) σ0.get σ' [] := by
 have H := Lies.start hG ha
 generalize σ0.get = F at H ⊢
 refine WC.enter (fn := Tryz.f58) Tryz.func58 rfl ?_
 refine W.rg [(0, pp h), (1, .agg #[.int .i64 e.1, .int .i64 e.2])] fun TA => ?_
 refine W.seq (W.region ?_)
 refine RW.mk H (.row ⟨[.int .i64 e.1, .int .i64 e.2], 27, false⟩) ?_
 clear H; intro _ b1 _ H
 refine RW.mk H (.row ⟨[.int .i64 0, .int .i64 0], 27, false⟩) ?_
 clear H; intro _ b2 _ H
 iterate 2 refine RW.v ?_
 refine RW.nil ?_
 refine W.rg [(0, pp h), (3, pp b1), (4, pp b2)] fun TA => ?_
 refine W.seq ?_
 refine W.seq (W.region ?_)
 refine RW.v ?_
 refine RW.ld H 1 2 ?_
 refine RW.cl ?_
 refine WC.enter (fn := Tryz.f85) Tryz.func85 rfl ?_
 refine W.rg [(0, pp h), (1, .agg #[.int .i64 e.1, .int .i64 e.2])] fun TA => ?_
 refine W.seq (W.region ?_)
 refine RW.mk H (.row ⟨[.int .i64 e.1, .int .i64 e.2], 27, false⟩) ?_
 clear H; intro _ b3 _ H
 refine RW.v ?_
 refine RW.nil ?_
 refine W.rg [(0, pp h), (3, pp b3)] fun TA => ?_
 refine W.seq (W.region ?_)
 refine RW.v ?_
 refine RW.ld H 0 1 ?_
 refine RW.valE (v' := .bool false) (by kernel_rfl) (by kernel_rfl) rfl (congrArg Value.bool (beq_eq_false_iff_ne.2 (by omega))) (by kernel_rfl) ?_
 refine RW.v ?_
 refine RW.skip (by rfl) (by kernel_rfl) ?_
 refine RW.skip (by rfl) (by kernel_rfl) ?_
 refine RW.skip (by rfl) (by kernel_rfl) ?_
 iterate 2 refine RW.v ?_
 refine RW.nil ?_
 replace H := (H.del 0)
 dsimp only [setL, delL] at H
 refine W.ret ?_
 refine endG (by rfl) (by exact resL_tmp rfl) ?_
 refine RW.v ?_
 refine RW.nil ?_
 refine W.c1 ?_
 refine W.seq (W.region ?_)
 refine RW.ld H 0 2 ?_
 refine RW.st H 0 [.int .i64 0, .int .i64 0] [.int .i64 0, .int .i64 0] ?_
 clear H; intro _ _ H; dsimp only [setL, delL] at H
 iterate 2 refine RW.v ?_
 refine RW.nil ?_
 replace H := (H.del 1)
 dsimp only [setL, delL] at H
 refine W.ret ?_
 refine seqQ_ret ?_
 refine endG (by rfl) (by exact resL_cell rfl (H.get 0 rfl) (by rw [uT_eq]; exact Tryz.underlying27) (by kernel_rfl) rfl rfl (by exact resL_tmp (by exact resL_tmp rfl))) ?_
 exact ⟨rfl, (H.del 0)⟩
theorem entP_wc {k : Int} {g d : Wd} (hf : m.find (2, k) = some (.pair g d)) (hG : G66 ≤ σ0.next) (ha : σ0.abs = heapAbs h m) :
  WC G66 Tryz.prog 58 #[pp h, wdV (2, k)] σ0 fun r σ' => r = .tuple #[wdV g, .int .i64 d.2, .bool (d.1 == 0)] ∧ Lies G66 (heapAbs h m) σ0.get σ' [] := by
 have H := Lies.start hG ha
 generalize σ0.get = F at H ⊢
 refine WC.enter (fn := Tryz.f58) Tryz.func58 rfl ?_
 refine W.rg [(0, pp h), (1, .agg #[.int .i64 2, .int .i64 k])] fun TA => ?_
 refine W.seq (W.region ?_)
 refine RW.mk H (.row ⟨[.int .i64 2, .int .i64 k], 27, false⟩) ?_
 clear H; intro _ b1 _ H
 refine RW.mk H (.row ⟨[.int .i64 0, .int .i64 0], 27, false⟩) ?_
 clear H; intro _ b2 _ H
 iterate 2 refine RW.v ?_
 refine RW.nil ?_
 refine W.rg [(0, pp h), (3, pp b1), (4, pp b2)] fun TA => ?_
 refine W.seq ?_
 refine W.seq (W.region ?_)
 refine RW.v ?_
 refine RW.ld H 1 2 ?_
 refine RW.cl ?_
 refine WC.enter (fn := Tryz.f85) Tryz.func85 rfl ?_
 refine W.rg [(0, pp h), (1, .agg #[.int .i64 2, .int .i64 k])] fun TA => ?_
 refine W.seq (W.region ?_)
 refine RW.mk H (.row ⟨[.int .i64 2, .int .i64 k], 27, false⟩) ?_
 clear H; intro _ b3 _ H
 refine RW.v ?_
 refine RW.nil ?_
 refine W.rg [(0, pp h), (3, pp b3)] fun TA => ?_
 refine W.seq (W.region ?_)
 refine RW.v ?_
 refine RW.ld H 0 1 ?_
 iterate 2 refine RW.v ?_
 refine RW.val (by rfl) (by kernel_rfl) rfl (by kernel_rfl) ?_
 refine RW.ldL H 0 2 (by rfl) (by kernel_rfl) rfl rfl rfl rfl rfl (by kernel_rfl) ?_
 refine RW.cl (hw := by rfl) ?_
 refine ⟨_, _, (liveY_call (G := G66) H.abs hf), ?_⟩
 iterate 2 refine RW.v ?_
 refine RW.nil ?_
 replace H := (H.del 0)
 dsimp only [setL, delL] at H
 refine W.ret ?_
 refine endG (by rfl) (by exact resL_tmp rfl) ?_
 refine RW.v ?_
 refine RW.nil ?_
 refine W.c0 ?_
 refine W.skip ?_
 refine W.seq (W.region ?_)
 refine RW.v ?_
 refine RW.ld H 1 2 ?_
 refine RW.cl ?_
 refine ⟨_, _, (carY_call (G := G66) H.abs hf), ?_⟩
 iterate 3 refine RW.v ?_
 refine RW.st H 0 [.int .i64 g.1, .int .i64 g.2] [.int .i64 g.1, .int .i64 g.2] ?_
 clear H; intro _ _ H; dsimp only [setL, delL] at H
 refine RW.nil ?_
 refine W.rg [(0, pp h), (3, pp b1), (4, pp b2)] fun TA => ?_
 refine W.seq (W.region ?_)
 refine RW.v ?_
 refine RW.ld H 1 2 ?_
 refine RW.cl ?_
 refine ⟨_, _, (cdrY_call H.abs hf), ?_⟩
 iterate 3 refine RW.v ?_
 refine RW.mk H (.row ⟨[.int .i64 0, .int .i64 0], 27, false⟩) ?_
 clear H; intro _ b4 _ H
 refine RW.st H 0 [.int .i64 d.1, .int .i64 d.2] [.int .i64 d.1, .int .i64 d.2] ?_
 clear H; intro _ _ H; dsimp only [setL, delL] at H
 refine RW.v ?_
 refine RW.nil ?_
 replace H := (H.del 2)
 dsimp only [setL, delL] at H
 refine W.rg [(4, pp b2), (7, pp b4)] fun TA => ?_
 refine W.seq ?_
 refine W.drawn (by kernel_rfl) (by kernel_rfl) H.gn ?_
 have H5 := H
 refine RW.ld H5 1 2 ?_
 refine RW.v ?_
 refine RW.ld H5 0 1 ?_
 refine RW.v ?_
 refine RW.ld H5 0 1 ?_
 refine RW.v ?_
 refine RW.stD H5 1 (vs := [.int .i64 g.1, .int .i64 g.2]) (cs' := [.int .i64 g.1, .int .i64 g.2]) (by kernel_rfl) (by kernel_rfl) rfl rfl rfl rfl rfl (by kernel_rfl) (Nat.le_of_ble_eq_true rfl) rfl (by kernel_rfl) ?_
 intro _ H6
 dsimp only [setL, delL] at H6
 iterate 2 refine RW.v ?_
 refine RW.nil ?_
 refine ⟨⟨by kernel_rfl, ⟨dyn_row (H5.get 1 rfl) (H6.get 1 rfl) ⟨fun h => Bool.noConfusion h, fun h => Bool.noConfusion h, fun h => Bool.noConfusion h, fun h => Bool.noConfusion h, fun h => Bool.noConfusion h, fun h => Bool.noConfusion h, fun _ => H5.get 1 rfl, fun h => Bool.noConfusion h, fun h => Bool.noConfusion h, trivial⟩, trivial, dyn_row (H5.get 0 rfl) (H6.get 0 rfl) ⟨fun h => Bool.noConfusion h, fun h => Bool.noConfusion h, fun h => Bool.noConfusion h, fun h => Bool.noConfusion h, fun h => Bool.noConfusion h, fun h => Bool.noConfusion h, fun _ => H5.get 0 rfl, fun h => Bool.noConfusion h, fun h => Bool.noConfusion h, trivial⟩, trivial, dyn_row (H5.get 0 rfl) (H6.get 0 rfl) ⟨fun h => Bool.noConfusion h, fun h => Bool.noConfusion h, fun h => Bool.noConfusion h, fun h => Bool.noConfusion h, fun h => Bool.noConfusion h, fun h => Bool.noConfusion h, fun _ => H5.get 0 rfl, fun h => Bool.noConfusion h, fun h => Bool.noConfusion h, trivial⟩, trivial, trivial, trivial, trivial, trivial⟩⟩, ?_⟩
 replace H := H6
 clear H5 H6
 replace H := (H.del 0)
 dsimp only [setL, delL] at H
 refine W.ret ?_
 refine endG (by rfl) (by exact resL_cell rfl (H.get 0 rfl) (by rw [uT_eq]; exact Tryz.underlying27) (by kernel_rfl) rfl rfl (by exact resL_tmp (by exact resL_tmp rfl))) ?_
 exact ⟨rfl, (H.del 0)⟩
theorem entE_wc {e : Wd} (he : DepE m e) (hG : G66 ≤ σ0.next) (ha : σ0.abs = heapAbs h m) :
  WC G66 Tryz.prog 58 #[pp h, wdV e] σ0 fun r σ' => ∃ g d ok, r = .tuple #[wdV g, .int .i64 d, .bool ok] ∧ Good m g ∧ ((ok = true → entO m e = some (g, d)) ∧ (ok = false → entO m e = none)) ∧ Lies G66 (heapAbs h m) σ0.get σ' [] := by
 cases he with
 | atom he => exact (entA_wc he hG ha).mono fun r σ' ⟨e1, K⟩ => ⟨_, _, _, e1, .atom (.inl rfl), ⟨fun e => (by cases e), fun _ => by unfold entO; rw [find_atom he]⟩, K⟩
 | @pair k g d hf gg =>
  refine (entP_wc hf hG ha).mono fun r σ' ⟨e1, K⟩ => ⟨_, _, _, e1, gg, ⟨fun e => ?_, fun e => ?_⟩, K⟩
  ·unfold entO
   rw [hf]
   exact if_pos (by simpa using e)
  ·unfold entO
   rw [hf]
   exact if_neg (by simpa using e)
set_option maxHeartbeats 4000000 in
theorem depthE_wc {x : Wd} {es : List Wd} {v : Value} (hG : G66 ≤ σ0.next) (ha : σ0.abs = heapAbs h m) (hlo : 0 < m.limit) (hn : es.length ≤ 65536) (hs : SlF σ0.get 2 v es.length (wdC es)) (gx : Good m x) (hes : ∀ y ∈ es, DepE m y) :
  WC G66 Tryz.prog 44 #[pp h, v, wdV x] σ0 fun r σ' => r = .tuple #[.int .i64 (depE m x es), .int .i64 0] ∧ Lies G66 (heapAbs h m) σ0.get σ' [] := by
 have H := Lies.start hG ha
 generalize σ0.get = F at H hs ⊢
 refine WC.enter (fn := Tryz.f44) Tryz.func44 rfl ?_
 refine W.rg [(0, pp h), (1, v), (2, .agg #[.int .i64 x.1, .int .i64 x.2])] fun TA => ?_
 refine W.seq (W.region ?_)
 refine RW.mk H (.row ⟨[.int .i64 x.1, .int .i64 x.2], 27, false⟩) ?_
 clear H; intro _ b1 _ H
 iterate 2 refine RW.v ?_
 refine RW.nil ?_
 refine W.rg [(0, pp h), (1, v), (5, pp b1)] fun TA => ?_
 refine W.seq ?_
 refine W.seq (W.region ?_)
 refine RW.v ?_
 refine RW.len (by kernel_rfl) (by kernel_rfl) rfl rfl rfl rfl (hs.len (e := 27) (by kernel_rfl)) (by kernel_rfl) ?_
 refine RW.v ?_
 refine RW.nil ?_
 refine W.rg [(0, pp h), (5, pp b1), (15, v), (16, .int .i64 (es.length : Int)), (17, .int .i64 0)] fun TA => ?_
 refine W.block ?_
 refine W.loop (fun mm ta σ => ∃ (i : Nat), (mm + i = es.length) ∧ (∀ y ∈ (es.take i).filterMap (entO m), keyW m x ≠ keyW m y.1) ∧ Lies G66 (heapAbs h m) F σ [.at_ b1 (.row ⟨[.int .i64 x.1, .int .i64 x.2], 27, false⟩)] ∧ ta 0 = .pointer (some ⟨h, 0, none⟩) ∧ ta 5 = .pointer (some ⟨b1, 0, none⟩) ∧ ta 15 = v ∧ ta 16 = .int .i64 (es.length : Int) ∧ ta 17 = .int .i64 ((i : Nat) : Int)) es.length ?_ ?_
 ·exact ⟨0, (by omega), (fun y hy => by simp at hy), H, rfl, rfl, rfl, rfl, rfl⟩
 clear H
 rintro mm ta _ ⟨i, hm, hN, H, e0, e5, e15, e16, e17⟩
 refine W.rst [(0, .pointer (some ⟨h, 0, none⟩)), (5, .pointer (some ⟨b1, 0, none⟩)), (15, v), (16, .int .i64 (es.length : Int)), (17, .int .i64 ((i : Nat) : Int))] ⟨e0, e5, e15, e16, e17, trivial⟩ fun TA => ?_
 clear e0 e5 e15 e16 e17
 refine W.seq (W.region ?_)
 refine RW.v ?_
 refine RW.nil ?_
 refine W.rg [(0, pp h), (5, pp b1), (15, v), (16, .int .i64 (es.length : Int)), (17, .int .i64 ((i : Nat) : Int)), (18, .bool (decide (((i : Nat) : Int) < (es.length : Int))))] fun TA => ?_
 refine W.seq ?_
 refine W.cond rfl (fun hc2 => ?_) (fun hc2 => ?_)
 ·have hc2b := hc2
  have hc2 := of_decide_eq_true hc2
  refine W.skip ?_
  refine W.seq ?_
  refine W.block ?_
  refine W.seq (W.region ?_)
  refine RW.idxF hs (by kernel_rfl) (by kernel_rfl) rfl Tryz.underlying33 (by kernel_rfl) rfl rfl ⟨by omega, by omega⟩ (by kernel_rfl) ?_
  intro b3 q4 r5 hF6 hE7
  rw [wdC_at (l := es) (j := i) (by omega)] at hE7
  refine RW.loads 2 (by kernel_rfl) (by kernel_rfl) rfl rfl (H.old _ _ hF6) hE7 rfl (by kernel_rfl) ?_
  refine RW.mk H (.row ⟨[.int .i64 0, .int .i64 0], 27, false⟩) ?_
  clear H; intro _ b8 _ H
  refine RW.st H 0 [.int .i64 ((es.getD i (0, 0)).1), .int .i64 ((es.getD i (0, 0)).2)] [.int .i64 ((es.getD i (0, 0)).1), .int .i64 ((es.getD i (0, 0)).2)] ?_
  clear H; intro _ _ H; dsimp only [setL, delL] at H
  refine RW.nil ?_
  refine W.rg [(0, pp h), (5, pp b1), (9, pp b8), (15, v), (16, .int .i64 (es.length : Int)), (17, .int .i64 ((i : Nat) : Int))] fun TA => ?_
  refine W.seq (W.region ?_)
  refine RW.v ?_
  refine RW.ld H 0 2 ?_
  refine RW.cl ?_
  refine ((entE_wc (hes _ (getW_mem (l := es) (j := i) (by omega))) H.gn H.abs).mono ?_)
  rintro _ _ ⟨g, d, ok, rfl, gg, hok, K⟩
  replace H := H.then K
  clear K
  dsimp only [List.nil_append, List.cons_append] at H
  iterate 4 refine RW.v ?_
  refine RW.mk H (.row ⟨[.int .i64 0, .int .i64 0], 27, false⟩) ?_
  clear H; intro _ b9 _ H
  refine RW.st H 0 [.int .i64 g.1, .int .i64 g.2] [.int .i64 g.1, .int .i64 g.2] ?_
  clear H; intro _ _ H; dsimp only [setL, delL] at H
  iterate 2 refine RW.v ?_
  refine RW.nil ?_
  replace H := (H.del 1)
  dsimp only [setL, delL] at H
  refine W.rg [(0, pp h), (5, pp b1), (10, pp b9), (11, .int .i64 d), (12, .bool ok), (15, v), (16, .int .i64 (es.length : Int)), (17, .int .i64 ((i : Nat) : Int))] fun TA => ?_
  refine W.seq ?_
  refine W.seq (W.region ?_)
  iterate 2 refine RW.v ?_
  refine RW.nil ?_
  refine W.rg [(0, pp h), (5, pp b1), (10, pp b9), (11, .int .i64 d), (15, v), (16, .int .i64 (es.length : Int)), (17, .int .i64 ((i : Nat) : Int)), (29, .bool (!ok))] fun TA => ?_
  refine W.cond rfl (fun hc10 => ?_) (fun hc10 => ?_)
  ·have hc10b := hc10
   have hs1 : (!ok) = false → entO m (es.getD i (0, 0)) = some (g, d) := fun e => hok.1 (by simpa using e)
   have hs0 : (!ok) = true → entO m (es.getD i (0, 0)) = none := fun e => hok.2 (by simpa using e)
   refine W.exit _ ?_
   refine seqQ_exit ?_
   refine blkQ_here ?_
   refine W.region ?_
   refine RW.valE (v' := .int .i64 (((i : Nat) : Int) + 1)) (by kernel_rfl) (by kernel_rfl) rfl (congrArg (Value.int .i64) (wrap_in (by omega) (by omega))) (by kernel_rfl) ?_
   refine RW.v ?_
   refine RW.nil ?_
   replace H := (H.del 0)
   dsimp only [setL, delL] at H
   exact ⟨rfl, mm - 1, by omega, i + 1, (by omega), (notE_none (by omega) hN (hs0 hc10b)), H, rfl, rfl, rfl, rfl, rfl⟩
  ·have hc10b := hc10
   have hs1 : (!ok) = false → entO m (es.getD i (0, 0)) = some (g, d) := fun e => hok.1 (by simpa using e)
   have hs0 : (!ok) = true → entO m (es.getD i (0, 0)) = none := fun e => hok.2 (by simpa using e)
   refine W.skip ?_
   refine W.seq (W.region ?_)
   refine RW.v ?_
   refine RW.ld H 1 2 ?_
   refine RW.ld H 0 2 ?_
   refine RW.cl ?_
   refine ((Equal_hw gx gg hlo H).mono ?_)
   clear H
   rintro _ _ ⟨rfl, H⟩
   iterate 5 refine RW.v ?_
   refine RW.nil ?_
   replace H := (H.del 0)
   dsimp only [setL, delL] at H
   refine W.rg [(0, pp h), (5, pp b1), (11, .int .i64 d), (13, .bool (decide (keyW m x = keyW m g))), (14, .int .i64 0), (15, v), (16, .int .i64 (es.length : Int)), (17, .int .i64 ((i : Nat) : Int))] fun TA => ?_
   refine W.seq ?_
   refine W.seq (W.region ?_)
   iterate 2 refine RW.v ?_
   refine RW.nil ?_
   refine W.c0 ?_
   refine W.skip ?_
   refine W.seq (W.region ?_)
   refine RW.v ?_
   refine RW.nil ?_
   refine W.rg [(0, pp h), (5, pp b1), (11, .int .i64 d), (15, v), (16, .int .i64 (es.length : Int)), (17, .int .i64 ((i : Nat) : Int)), (40, .bool (decide (keyW m x = keyW m g)))] fun TA => ?_
   refine W.cond rfl (fun hc11 => ?_) (fun hc11 => ?_)
   ·have hc11b := hc11
    have hc11 := of_decide_eq_true hc11
    refine W.seq (W.region ?_)
    iterate 3 refine RW.v ?_
    refine RW.nil ?_
    replace H := (H.del 0)
    dsimp only [setL, delL] at H
    refine W.ret ?_
    refine blkQ_ret ?_
    refine seqQ_ret ?_
    refine rndQ_ret ?_
    refine blkQ_ret ?_
    refine seqQ_ret ?_
    refine endG (by rfl) (by exact resL_tmp (by exact resL_tmp rfl)) ?_
    exact ⟨depE_yes (by omega) hN (hs1 hc10b) hc11, H⟩
   ·have hc11b := hc11
    have hc11 := of_decide_eq_false hc11
    refine W.skip ?_
    refine blkQ_normal ?_
    refine W.region ?_
    refine RW.valE (v' := .int .i64 (((i : Nat) : Int) + 1)) (by kernel_rfl) (by kernel_rfl) rfl (congrArg (Value.int .i64) (wrap_in (by omega) (by omega))) (by kernel_rfl) ?_
    refine RW.v ?_
    refine RW.nil ?_
    exact ⟨rfl, mm - 1, by omega, i + 1, (by omega), (notE_some (by omega) hN (hs1 hc10b) hc11), H, rfl, rfl, rfl, rfl, rfl⟩
 ·have hc2b := hc2
  have hc2 := of_decide_eq_false hc2
  refine W.exit _ ?_
  refine seqQ_exit ?_
  refine rndQ_exit ?_
  refine blkQ_here ?_
  refine W.seq (W.region ?_)
  iterate 2 refine RW.v ?_
  refine RW.nil ?_
  replace H := (H.del 0)
  dsimp only [setL, delL] at H
  refine W.ret ?_
  refine endG (by rfl) (by exact resL_tmp (by exact resL_tmp rfl)) ?_
  exact ⟨depE_no hN (by omega), H⟩
end
end Go.Proofs.YtaaebeiigkhcjaaGreatDoor
namespace Go.Proofs.YtaaebeiigkhcjaaGreatDoor
set_option maxRecDepth 100000
def selE (m : HM) (f e : Wd) : Bool := match entO m e with
 | some y => decide (keyW m f = keyW m y.1)
 | none => false
theorem selE_yes {m : HM} {f e g : Wd} {d : Int} (h : entO m e = some (g, d)) : selE m f e = decide (keyW m f = keyW m g) := by unfold selE; rw [h]
theorem selE_no {m : HM} {f e : Wd} (h : entO m e = none) : selE m f e = false := by unfold selE; rw [h]
section
variable {p : Wd → Bool} {l arr : List Wd} {i j a n : Nat}
theorem getD_drop (h : arr.drop j = l.drop j) (h1 : j < arr.length) (h2 : j < l.length) : arr.getD j (0, 0) = l.getD j (0, 0) := by
 rw [List.getD_eq_getElem?_getD, List.getD_eq_getElem?_getD, List.getElem?_eq_getElem h1, List.getElem?_eq_getElem h2]
 rw [List.drop_eq_getElem_cons h1, List.drop_eq_getElem_cons h2] at h
 exact (List.cons.inj h).1
theorem drop_next (h : arr.drop j = l.drop j) : arr.drop (j + 1) = l.drop (j + 1) := by
 rw [← List.drop_drop, ← List.drop_drop, h]
theorem del_not (hi : i < l.length) (hN : ∀ y ∈ l.take i, p y = false) (h : p (l.getD i (0, 0)) = false) : ∀ y ∈ l.take (i + 1), p y = false := by
 rw [take_snoc hi]
 intro y hy
 rcases List.mem_append.1 hy with e | e
 ·exact hN y e
 ·rw [List.mem_singleton.1 e]; exact h
theorem del_none (hN : ∀ y ∈ l.take i, p y = false) (hi : l.length ≤ i) : (l.filter fun y => !p y) = l := by
 rw [List.take_of_length_le hi] at hN
 exact List.filter_eq_self.2 fun y hy => by rw [hN y hy]; rfl
theorem del_start (hi : i < l.length) (hN : ∀ y ∈ l.take i, p y = false) (h : p (l.getD i (0, 0)) = true) : l.take i = (l.take (i + 1)).filter fun y => !p y := by
 rw [take_snoc hi, List.filter_append, List.filter_eq_self.2 fun y hy => by rw [hN y hy]; rfl, List.filter_cons_of_neg (by rw [h]; decide)]
 exact (List.append_nil _).symm
theorem del_drop (hA : arr.take a = (l.take j).filter fun y => !p y) (hD : arr.drop j = l.drop j) (h1 : j < arr.length) (h2 : j < l.length) (h : p (arr.getD j (0, 0)) = true) : arr.take a = (l.take (j + 1)).filter fun y => !p y := by
 rw [getD_drop hD h1 h2] at h
 rw [take_snoc h2, List.filter_append, List.filter_cons_of_neg (by rw [h]; decide), hA]
 exact (List.append_nil _).symm
theorem del_keep (hA : arr.take a = (l.take j).filter fun y => !p y) (hD : arr.drop j = l.drop j) (haj : a < j) (h1 : j < arr.length) (h2 : j < l.length) (h : p (arr.getD j (0, 0)) = false) : (arr.set a (arr.getD j (0, 0))).take (a + 1) = (l.take (j + 1)).filter fun y => !p y := by
 have e : (arr.set a (arr.getD j (0, 0))).take (a + 1) = arr.take a ++ [arr.getD j (0, 0)] := by
  rw [List.take_add_one, List.getElem?_set_self (by omega), List.take_set_of_le (Nat.le_refl _)]
  rfl
 rw [getD_drop hD h1 h2] at h e ⊢
 rw [e, take_snoc h2, List.filter_append, List.filter_cons_of_pos (by rw [h]; rfl), hA]
 rfl
theorem del_rest {x : Wd} (hD : arr.drop j = l.drop j) (haj : a < j + 1) : (arr.set a x).drop (j + 1) = l.drop (j + 1) := by
 rw [List.drop_set_of_lt haj]
 exact drop_next hD
theorem setW_cells {x : Wd} {q : Nat} (ha : a < arr.length) (hq : q = ((a : Nat) : Int).toNat * 2) : overL (wdC arr) q [.int .i64 x.1, .int .i64 x.2] = wdC (arr.set a x) := by
 rw [Int.toNat_natCast] at hq
 subst hq
 unfold overL
 induction arr generalizing a with
 | nil => cases ha
 | cons y l ih =>
  cases a with
  | zero => rfl
  | succ a =>
   have := ih (a := a) (by simpa using ha)
   rw [show (a + 1) * 2 = a * 2 + 2 by omega]
   show .int .i64 y.1 :: .int .i64 y.2 :: (List.take (a * 2) (wdC l)) ++ [.int .i64 x.1, .int .i64 x.2] ++ List.drop (a * 2 + 2 + 2) (wdC (y :: l)) = .int .i64 y.1 :: .int .i64 y.2 :: wdC (l.set a x)
   rw [← this]
   rfl
theorem wdC_lenR : ∀ l : List Wd, (wdC l).length = l.length * 2
 | [] => rfl
 | x :: l => by
  rw [show wdC (x :: l) = [.int .i64 x.1, .int .i64 x.2] ++ wdC l from rfl, List.length_append, wdC_lenR l]
  show 2 + l.length * 2 = (l.length + 1) * 2
  omega
theorem wdC_takeR : ∀ (l : List Wd) (q : Nat), (wdC l).take (q * 2) = wdC (l.take q)
 | _, 0 => by simp [wdC]
 | [], q + 1 => by simp [wdC]
 | x :: l, q + 1 => by
  have := wdC_takeR l q
  rw [show (q + 1) * 2 = q * 2 + 1 + 1 by omega, List.take_succ_cons]
  show List.take (q * 2 + 1 + 1) (.int .i64 x.1 :: .int .i64 x.2 :: wdC l) = .int .i64 x.1 :: .int .i64 x.2 :: wdC (l.take q)
  rw [List.take_succ_cons, List.take_succ_cons, this]
theorem del_cells {zs : List Value} (hA : arr.take a = (l.take n).filter fun y => !p y) (hL : arr.length = n) (hn : a ≤ n ∧ l.length = n) : ((wdC arr).take (a * 2) ++ zs).take (a * 2) = wdC (l.filter fun y => !p y) := by
 rw [List.take_of_length_le (l := l) (by omega)] at hA
 have hl : ((wdC arr).take (a * 2)).length = a * 2 := by rw [List.length_take, wdC_lenR]; omega
 rw [List.take_left' hl, wdC_takeR, hA]
theorem del_len (hA : arr.take a = (l.take n).filter fun y => !p y) (hL : arr.length = n) (hn : a ≤ n ∧ l.length = n) : a = (l.filter fun y => !p y).length := by
 rw [List.take_of_length_le (l := l) (by omega)] at hA
 rw [← hA, List.length_take]
 omega
end
theorem grow_some {P : Program} {σ : Mem} {t e s n i : Nat} {v : Value} {xs : List Value} (h : GRow G66 σ e s v n xs) (hi : i ≤ n) (ht : uT P t = some (.slice e)) (hz : sizeT P e = some s) : ∃ v', sliceF P t v (some (.int .i64 ((i : Nat) : Int))) none none = some v' := by
 rcases grow_rest h hi ht hz with ⟨_, _, e⟩ | ⟨_, _, _, e⟩ <;> exact ⟨_, e⟩
section
variable {F : Nat → Option Blk2} {σ : Mem} {L : List Ent} {v : Value} {n : Nat} {h : Nat} {m : HM}
theorem eq2_wc {f e : Wd} {bc be bh bf : Nat} (gf : Good m f) (he : DepE m e) (hlo : 0 < m.limit) (H : Lies G66 (heapAbs h m) F σ (.at_ bc (.row ⟨[.func (.func 53) #[] #[.pointer (some ⟨be, 0, none⟩), .pointer (some ⟨bh, 0, none⟩), .pointer (some ⟨bf, 0, none⟩)]], 87, false⟩) :: .at_ be (.row ⟨[.int .i64 0], 30, false⟩) :: .at_ bh (.row ⟨[.pointer (some ⟨h, 0, none⟩)], 22, false⟩) :: .at_ bf (.row ⟨[.int .i64 f.1, .int .i64 f.2], 27, false⟩) :: L)) :
  WC G66 Tryz.prog 57 #[wdV e, pp bh, pp bc] σ fun r σ' => r = .bool (selE m f e) ∧ Lies G66 (heapAbs h m) F σ' (.at_ bc (.row ⟨[.func (.func 53) #[] #[.pointer (some ⟨be, 0, none⟩), .pointer (some ⟨bh, 0, none⟩), .pointer (some ⟨bf, 0, none⟩)]], 87, false⟩) :: .at_ be (.row ⟨[.int .i64 0], 30, false⟩) :: .at_ bh (.row ⟨[.pointer (some ⟨h, 0, none⟩)], 22, false⟩) :: .at_ bf (.row ⟨[.int .i64 f.1, .int .i64 f.2], 27, false⟩) :: L) := by
 refine WC.enter (fn := Tryz.f57) Tryz.func57 rfl ?_
 refine W.rg [(0, .agg #[.int .i64 e.1, .int .i64 e.2]), (1, pp bh), (2, pp bc)] fun TA => ?_
 refine W.seq (W.region ?_)
 refine RW.mk H (.row ⟨[.int .i64 e.1, .int .i64 e.2], 27, false⟩) ?_
 clear H; intro _ b1 _ H
 refine RW.v ?_
 refine RW.nil ?_
 refine W.rg [(1, pp bh), (2, pp bc), (3, pp b1)] fun TA => ?_
 refine W.seq (W.region ?_)
 refine RW.ld H 3 1 ?_
 refine RW.ld H 0 2 ?_
 refine RW.cl ?_
 refine ((entE_wc he H.gn H.abs).mono ?_)
 rintro _ _ ⟨g, d, ok, rfl, gg, hok, K⟩
 replace H := H.then K
 clear K
 dsimp only [List.nil_append, List.cons_append] at H
 iterate 4 refine RW.v ?_
 refine RW.mk H (.row ⟨[.int .i64 0, .int .i64 0], 27, false⟩) ?_
 clear H; intro _ b2 _ H
 refine RW.st H 0 [.int .i64 g.1, .int .i64 g.2] [.int .i64 g.1, .int .i64 g.2] ?_
 clear H; intro _ _ H; dsimp only [setL, delL] at H
 iterate 2 refine RW.v ?_
 refine RW.nil ?_
 replace H := (H.del 1)
 dsimp only [setL, delL] at H
 refine W.rg [(2, pp bc), (5, pp b2), (7, .bool ok)] fun TA => ?_
 refine W.seq (W.region ?_)
 iterate 2 refine RW.v ?_
 refine RW.both _ _ rfl rfl rfl (fun hc3 => ?_) (fun hc3 => ?_)
 ·have hc3b := hc3
  refine RW.ldL H 1 1 (by rfl) (by kernel_rfl) rfl rfl rfl rfl rfl (by kernel_rfl) ?_
  refine RW.ldL H 0 2 (by rfl) (by kernel_rfl) rfl rfl rfl rfl rfl (by kernel_rfl) ?_
  replace H := H.front 4 rfl
  dsimp only [setL, delL] at H
  replace H := H.front 4 rfl
  dsimp only [setL, delL] at H
  replace H := H.front 4 rfl
  dsimp only [setL, delL] at H
  refine RW.cl (hw := by rfl) ?_
  refine ((eq1_wc gf gg hlo H).mono ?_)
  clear H
  rintro _ _ ⟨rfl, H⟩
  iterate 2 refine RW.v ?_
  refine RW.nil ?_
  replace H := (H.del 3)
  dsimp only [setL, delL] at H
  refine W.ret ?_
  refine endG (by rfl) (by exact resL_tmp rfl) ?_
  replace H := H.front 2 rfl
  dsimp only [setL, delL] at H
  replace H := H.front 2 rfl
  dsimp only [setL, delL] at H
  replace H := H.front 2 rfl
  dsimp only [setL, delL] at H
  replace H := H.front 3 rfl
  dsimp only [setL, delL] at H
  exact ⟨congrArg Value.bool (selE_yes (hok.1 hc3b)).symm, H⟩
 ·have hc3b := hc3
  refine RW.skip (by rfl) (by kernel_rfl) ?_
  refine RW.skip (by rfl) (by kernel_rfl) ?_
  refine RW.skip (by rfl) (by kernel_rfl) ?_
  iterate 2 refine RW.v ?_
  refine RW.nil ?_
  replace H := (H.del 0)
  dsimp only [setL, delL] at H
  refine W.ret ?_
  refine endG (by rfl) (by exact resL_tmp rfl) ?_
  replace H := H.front 3 rfl
  dsimp only [setL, delL] at H
  replace H := H.front 3 rfl
  dsimp only [setL, delL] at H
  replace H := H.front 3 rfl
  dsimp only [setL, delL] at H
  replace H := H.front 3 rfl
  dsimp only [setL, delL] at H
  exact ⟨congrArg Value.bool (selE_no (hok.2 hc3b)).symm, H⟩
set_option maxHeartbeats 8000000 in
theorem del1_wc {f : Wd} {l : List Wd} {be bh bf : Nat} (gf : Good m f) (gl : ∀ y ∈ l, Good m y) (hlo : 0 < m.limit) (hl : l.length = n) (hn : n ≤ 65536) (H : Lies G66 (heapAbs h m) F σ (.sl 27 2 v n (wdC l) :: .at_ be (.row ⟨[.int .i64 0], 30, false⟩) :: .at_ bh (.row ⟨[.pointer (some ⟨h, 0, none⟩)], 22, false⟩) :: .at_ bf (.row ⟨[.int .i64 f.1, .int .i64 f.2], 27, false⟩) :: L)) :
  WC G66 Tryz.prog 55 #[v, .func (.func 53) #[] #[.pointer (some ⟨be, 0, none⟩), .pointer (some ⟨bh, 0, none⟩), .pointer (some ⟨bf, 0, none⟩)]] σ fun r σ' => ∃ n', n' = (l.filter fun y => !(fun y => decide (keyW m f = keyW m y)) y).length ∧ Lies G66 (heapAbs h m) F σ' (.sl 27 2 r n' (wdC (l.filter fun y => !(fun y => decide (keyW m f = keyW m y)) y)) :: .at_ be (.row ⟨[.int .i64 0], 30, false⟩) :: .at_ bh (.row ⟨[.pointer (some ⟨h, 0, none⟩)], 22, false⟩) :: .at_ bf (.row ⟨[.int .i64 f.1, .int .i64 f.2], 27, false⟩) :: L) := by
 refine WC.enter (fn := Tryz.f55) Tryz.func55 rfl ?_
 refine W.rg [(0, v), (1, .func (.func 53) #[] #[pp be, pp bh, pp bf])] fun TA => ?_
 refine W.seq (W.region ?_)
 refine RW.v ?_
 refine RW.nil ?_
 refine W.rg [(0, v), (1, .func (.func 53) #[] #[pp be, pp bh, pp bf])] fun TA => ?_
 refine W.seq (W.region ?_)
 iterate 2 refine RW.v ?_
 refine RW.cl ?_
 refine WC.enter (fn := Tryz.f84) Tryz.func84 rfl ?_
 refine W.rg [(0, v), (1, .func (.func 53) #[] #[pp be, pp bh, pp bf])] fun TA => ?_
 refine W.seq (W.region ?_)
 refine RW.v ?_
 refine RW.nil ?_
 refine W.rg [(0, v), (1, .func (.func 53) #[] #[pp be, pp bh, pp bf])] fun TA => ?_
 refine W.seq ?_
 refine W.seq (W.region ?_)
 refine RW.v ?_
 refine RW.len (by kernel_rfl) (by kernel_rfl) rfl rfl rfl rfl ((H.sl 0 rfl).len (by kernel_rfl)) (by kernel_rfl) ?_
 refine RW.v ?_
 refine RW.nil ?_
 refine W.rg [(0, v), (1, .func (.func 53) #[] #[pp be, pp bh, pp bf]), (7, .int .i64 ((n : Nat) : Int)), (8, .int .i64 0)] fun TA => ?_
 refine W.block ?_
 refine W.loop (fun mm ta σ => ∃ (i : Nat), (mm + i = n) ∧ (∀ y ∈ l.take i, (fun y => decide (keyW m f = keyW m y)) y = false) ∧ Lies G66 (heapAbs h m) F σ (.sl 27 2 v n (wdC l) :: .at_ be (.row ⟨[.int .i64 0], 30, false⟩) :: .at_ bh (.row ⟨[.pointer (some ⟨h, 0, none⟩)], 22, false⟩) :: .at_ bf (.row ⟨[.int .i64 f.1, .int .i64 f.2], 27, false⟩) :: (L)) ∧ ta 0 = v ∧ ta 1 = .func (.func 53) #[] #[.pointer (some ⟨be, 0, none⟩), .pointer (some ⟨bh, 0, none⟩), .pointer (some ⟨bf, 0, none⟩)] ∧ ta 7 = .int .i64 ((n : Nat) : Int) ∧ ta 8 = .int .i64 ((i : Nat) : Int)) n ?_ ?_
 ·exact ⟨0, (by omega), (fun y hy => by simp at hy), H, rfl, rfl, rfl, rfl⟩
 clear H
 rintro mm ta _ ⟨i, hm, hN, H, e0, e1, e7, e8⟩
 refine W.rst [(0, v), (1, .func (.func 53) #[] #[.pointer (some ⟨be, 0, none⟩), .pointer (some ⟨bh, 0, none⟩), .pointer (some ⟨bf, 0, none⟩)]), (7, .int .i64 ((n : Nat) : Int)), (8, .int .i64 ((i : Nat) : Int))] ⟨e0, e1, e7, e8, trivial⟩ fun TA => ?_
 clear e0 e1 e7 e8
 refine W.seq (W.region ?_)
 refine RW.v ?_
 refine RW.nil ?_
 refine W.rg [(0, v), (1, .func (.func 53) #[] #[pp be, pp bh, pp bf]), (7, .int .i64 ((n : Nat) : Int)), (8, .int .i64 ((i : Nat) : Int)), (9, .bool (decide (((i : Nat) : Int) < ((n : Nat) : Int))))] fun TA => ?_
 refine W.seq ?_
 refine W.cond rfl (fun hc1 => ?_) (fun hc1 => ?_)
 ·have hc1b := hc1
  have hc1 := of_decide_eq_true hc1
  refine W.skip ?_
  refine W.seq ?_
  refine W.block ?_
  refine W.seq (W.region ?_)
  iterate 2 refine RW.v ?_
  refine RW.nil ?_
  refine W.rg [(0, v), (1, .func (.func 53) #[] #[pp be, pp bh, pp bf]), (5, .int .i64 ((i : Nat) : Int)), (7, .int .i64 ((n : Nat) : Int)), (8, .int .i64 ((i : Nat) : Int))] fun TA => ?_
  refine W.seq (W.region ?_)
  iterate 3 refine RW.v ?_
  refine RW.idxG H 0 rfl (by kernel_rfl) (by kernel_rfl) rfl Tryz.underlying33 (by kernel_rfl) rfl rfl ⟨by omega, by omega⟩ (by kernel_rfl) ?_
  intro b2 q3 r4 hF5 hE6
  rw [wdC_at (l := l) (j := i) (by omega)] at hE6
  refine RW.loads 2 (by kernel_rfl) (by kernel_rfl) rfl rfl (hF5) hE6 rfl (by kernel_rfl) ?_
  replace H := H.front 3 rfl
  dsimp only [setL, delL] at H
  replace H := H.front 3 rfl
  dsimp only [setL, delL] at H
  replace H := H.front 3 rfl
  dsimp only [setL, delL] at H
  refine RW.cl ?_
  refine ((eq1_wc gf (gl _ (getW_mem (by omega))) hlo H).mono ?_)
  clear H
  rintro _ _ ⟨rfl, H⟩
  refine RW.nil ?_
  refine W.rg [(0, v), (1, .func (.func 53) #[] #[pp be, pp bh, pp bf]), (5, .int .i64 ((i : Nat) : Int)), (7, .int .i64 ((n : Nat) : Int)), (8, .int .i64 ((i : Nat) : Int)), (16, .bool (decide (keyW m f = keyW m (l.getD i (0, 0)))))] fun TA => ?_
  refine W.cond rfl (fun hc7 => ?_) (fun hc7 => ?_)
  ·have hc7b := hc7
   have hc7 := of_decide_eq_true hc7
   refine W.seq (W.region ?_)
   iterate 2 refine RW.v ?_
   refine RW.nil ?_
   refine W.ret ?_
   refine blkQ_ret ?_
   refine seqQ_ret ?_
   refine rndQ_ret ?_
   refine blkQ_ret ?_
   refine seqQ_ret ?_
   refine endG (by rfl) (by exact resL_tmp rfl) ?_
   refine RW.v ?_
   refine RW.nil ?_
   refine W.rg [(0, v), (1, .func (.func 53) #[] #[pp be, pp bh, pp bf]), (5, .int .i64 ((i : Nat) : Int))] fun TA => ?_
   refine W.seq ?_
   refine W.seq (W.region ?_)
   refine RW.v ?_
   refine RW.valE (v' := .bool false) (by kernel_rfl) (by kernel_rfl) rfl (congrArg Value.bool (beq_eq_false_iff_ne.2 (by omega))) (by kernel_rfl) ?_
   refine RW.nil ?_
   refine W.c0 ?_
   refine W.skip ?_
   refine W.seq ?_
   refine W.seq (W.region ?_)
   refine RW.v ?_
   refine RW.valE (v' := .int .i64 (((i : Nat) : Int) + 1)) (by kernel_rfl) (by kernel_rfl) rfl (congrArg (Value.int .i64) (wrap_in (by omega) (by omega))) (by kernel_rfl) ?_
   refine RW.v ?_
   refine RW.nil ?_
   refine W.rg [(0, v), (1, .func (.func 53) #[] #[pp be, pp bh, pp bf]), (5, .int .i64 ((i : Nat) : Int)), (6, .int .i64 (((i : Nat) : Int) + 1))] fun TA => ?_
   refine W.block ?_
   replace H := H.front 2 rfl
   dsimp only [setL, delL] at H
   replace H := H.front 2 rfl
   dsimp only [setL, delL] at H
   replace H := H.front 2 rfl
   dsimp only [setL, delL] at H
   replace H := H.front 3 rfl
   dsimp only [setL, delL] at H
   refine W.loop (fun mm2 ta σ => ∃ (a : Nat) (j : Nat) (arr : List Wd), (mm2 + j = n) ∧ (a < j) ∧ (arr.take a = (l.take j).filter fun y => !(fun y => decide (keyW m f = keyW m y)) y) ∧ (arr.drop j = l.drop j) ∧ (arr.length = n) ∧ Lies G66 (heapAbs h m) F σ (.sl 27 2 v n (wdC arr) :: .at_ be (.row ⟨[.int .i64 0], 30, false⟩) :: .at_ bh (.row ⟨[.pointer (some ⟨h, 0, none⟩)], 22, false⟩) :: .at_ bf (.row ⟨[.int .i64 f.1, .int .i64 f.2], 27, false⟩) :: (L)) ∧ ta 0 = v ∧ ta 1 = .func (.func 53) #[] #[.pointer (some ⟨be, 0, none⟩), .pointer (some ⟨bh, 0, none⟩), .pointer (some ⟨bf, 0, none⟩)] ∧ ta 5 = .int .i64 ((a : Nat) : Int) ∧ ta 6 = .int .i64 ((j : Nat) : Int)) (n - (i + 1)) ?_ ?_
   ·exact ⟨i, i + 1, l, (by omega), (by omega), (del_start (p := (fun y => decide (keyW m f = keyW m y))) (by omega) hN hc7b), rfl, hl, H, rfl, rfl, rfl, rfl⟩
   clear H
   rintro mm2 ta _ ⟨a, j, arr, hm2, haj, hA, hD, hL, H, e0, e1, e5, e6⟩
   refine W.rst [(0, v), (1, .func (.func 53) #[] #[.pointer (some ⟨be, 0, none⟩), .pointer (some ⟨bh, 0, none⟩), .pointer (some ⟨bf, 0, none⟩)]), (5, .int .i64 ((a : Nat) : Int)), (6, .int .i64 ((j : Nat) : Int))] ⟨e0, e1, e5, e6, trivial⟩ fun TA => ?_
   clear e0 e1 e5 e6
   refine W.seq ?_
   refine W.seq (W.region ?_)
   iterate 2 refine RW.v ?_
   refine RW.len (by kernel_rfl) (by kernel_rfl) rfl rfl rfl rfl ((H.sl 0 rfl).len (by kernel_rfl)) (by kernel_rfl) ?_
   refine RW.v ?_
   refine RW.nil ?_
   refine W.rg [(0, v), (1, .func (.func 53) #[] #[pp be, pp bh, pp bf]), (5, .int .i64 ((a : Nat) : Int)), (6, .int .i64 ((j : Nat) : Int)), (19, .bool (decide (((j : Nat) : Int) < ((n : Nat) : Int))))] fun TA => ?_
   refine W.cond rfl (fun hc8 => ?_) (fun hc8 => ?_)
   ·have hc8b := hc8
    have hc8 := of_decide_eq_true hc8
    refine W.skip ?_
    refine W.seq ?_
    refine W.block ?_
    refine W.seq (W.region ?_)
    iterate 2 refine RW.v ?_
    refine RW.idxG H 0 rfl (by kernel_rfl) (by kernel_rfl) rfl Tryz.underlying33 (by kernel_rfl) rfl rfl ⟨by omega, by omega⟩ (by kernel_rfl) ?_
    intro b9 q10 r11 hF12 hE13
    rw [wdC_at (l := arr) (j := j) (by omega)] at hE13
    refine RW.loads 2 (by kernel_rfl) (by kernel_rfl) rfl rfl (hF12) hE13 rfl (by kernel_rfl) ?_
    refine RW.mk H (.row ⟨[.int .i64 0, .int .i64 0], 27, false⟩) ?_
    clear H; intro _ b14 _ H
    refine RW.st H 0 [.int .i64 ((arr.getD j (0, 0)).1), .int .i64 ((arr.getD j (0, 0)).2)] [.int .i64 ((arr.getD j (0, 0)).1), .int .i64 ((arr.getD j (0, 0)).2)] ?_
    clear H; intro _ _ H; dsimp only [setL, delL] at H
    refine RW.nil ?_
    refine W.rg [(0, v), (1, .func (.func 53) #[] #[pp be, pp bh, pp bf]), (5, .int .i64 ((a : Nat) : Int)), (6, .int .i64 ((j : Nat) : Int)), (7, pp b14)] fun TA => ?_
    refine W.seq (W.region ?_)
    refine RW.v ?_
    refine RW.ld H 0 2 ?_
    replace H := H.front 4 rfl
    dsimp only [setL, delL] at H
    replace H := H.front 4 rfl
    dsimp only [setL, delL] at H
    replace H := H.front 4 rfl
    dsimp only [setL, delL] at H
    refine RW.cl ?_
    refine ((eq1_wc gf (by rw [getD_drop hD (by omega) (by omega)]; exact gl _ (getW_mem (by omega))) hlo H).mono ?_)
    clear H
    rintro _ _ ⟨rfl, H⟩
    refine RW.v ?_
    refine RW.nil ?_
    refine W.rg [(0, v), (1, .func (.func 53) #[] #[pp be, pp bh, pp bf]), (5, .int .i64 ((a : Nat) : Int)), (6, .int .i64 ((j : Nat) : Int)), (7, pp b14), (29, .bool (!(decide (keyW m f = keyW m (arr.getD j (0, 0))))))] fun TA => ?_
    refine W.cond rfl (fun hc15 => ?_) (fun hc15 => ?_)
    ·have hc15b := hc15
     refine W.seq (W.region ?_)
     iterate 2 refine RW.v ?_
     refine RW.ld H 3 2 ?_
     refine RW.idxGS H 4 rfl (by kernel_rfl) (by kernel_rfl) rfl Tryz.underlying33 (by kernel_rfl) rfl rfl ⟨by omega, by omega⟩ (by kernel_rfl) ?_
     intro b16 q17 hb18 hq19
     refine RW.stG H 4 rfl hb18 (vs := [.int .i64 ((arr.getD j (0, 0)).1), .int .i64 ((arr.getD j (0, 0)).2)]) (by subst hq19; simp only [List.length_cons, List.length_nil]; omega) (by kernel_rfl) (by kernel_rfl) rfl rfl rfl rfl (by kernel_rfl) (by kernel_rfl) ?_
     clear H; intro _ H
     dsimp only [setL, delL] at H
     refine RW.nil ?_
     replace H := (H.del 3)
     dsimp only [setL, delL] at H
     refine W.rg [(0, v), (1, .func (.func 53) #[] #[pp be, pp bh, pp bf]), (5, .int .i64 ((a : Nat) : Int)), (6, .int .i64 ((j : Nat) : Int))] fun TA => ?_
     refine W.region ?_
     refine RW.v ?_
     refine RW.valE (v' := .int .i64 (((a : Nat) : Int) + 1)) (by kernel_rfl) (by kernel_rfl) rfl (congrArg (Value.int .i64) (wrap_in (by omega) (by omega))) (by kernel_rfl) ?_
     refine RW.v ?_
     refine RW.nil ?_
     refine blkQ_normal ?_
     refine W.rg [(0, v), (1, .func (.func 53) #[] #[pp be, pp bh, pp bf]), (5, .int .i64 (((a : Nat) : Int) + 1)), (6, .int .i64 ((j : Nat) : Int))] fun TA => ?_
     refine W.region ?_
     refine RW.v ?_
     refine RW.valE (v' := .int .i64 (((j : Nat) : Int) + 1)) (by kernel_rfl) (by kernel_rfl) rfl (congrArg (Value.int .i64) (wrap_in (by omega) (by omega))) (by kernel_rfl) ?_
     refine RW.v ?_
     refine RW.nil ?_
     replace H := H.front 3 rfl
     dsimp only [setL, delL] at H
     rw [setW_cells (x := (arr.getD j (0, 0))) (show a < arr.length by omega) hq19] at H
     exact ⟨rfl, mm2 - 1, by omega, a + 1, j + 1, arr.set a (arr.getD j (0, 0)), (by omega), (by omega), (del_keep (p := (fun y => decide (keyW m f = keyW m y))) hA hD (by omega) (by omega) (by omega) (by simpa using hc15b)), (del_rest hD (by omega)), (by rw [List.length_set]; exact hL), H, rfl, rfl, rfl, rfl⟩
    ·have hc15b := hc15
     refine W.skip ?_
     refine blkQ_normal ?_
     refine W.region ?_
     refine RW.v ?_
     refine RW.valE (v' := .int .i64 (((j : Nat) : Int) + 1)) (by kernel_rfl) (by kernel_rfl) rfl (congrArg (Value.int .i64) (wrap_in (by omega) (by omega))) (by kernel_rfl) ?_
     refine RW.v ?_
     refine RW.nil ?_
     replace H := (H.del 3)
     dsimp only [setL, delL] at H
     replace H := H.front 3 rfl
     dsimp only [setL, delL] at H
     exact ⟨rfl, mm2 - 1, by omega, a, j + 1, arr, (by omega), (by omega), (del_drop (p := (fun y => decide (keyW m f = keyW m y))) hA hD (by omega) (by omega) (by simpa using hc15b)), (drop_next hD), hL, H, rfl, rfl, rfl, rfl⟩
   ·have hc8b := hc8
    have hc8 := of_decide_eq_false hc8
    refine W.exit _ ?_
    refine seqQ_exit ?_
    refine rndQ_exit ?_
    refine blkQ_here ?_
    refine W.seq (W.region ?_)
    iterate 2 refine RW.v ?_
    obtain rfl : j = n := by omega
    obtain ⟨vB, hvB⟩ := grow_some (P := Tryz.prog) (t := 33) (i := a) (H.sl 0 rfl) (by omega) (by kernel_rfl) (by kernel_rfl)
    refine RW.vop (v := vB) (by kernel_rfl) (by kernel_rfl) (vop_slice rfl hvB) (by kernel_rfl) ?_
    refine RW.clearG H 0 (i := a) (z := .agg #[.int .i64 0, .int .i64 0]) rfl (by omega) (by kernel_rfl) (by kernel_rfl) (by kernel_rfl) (by kernel_rfl) rfl rfl (by decide) hvB (by kernel_rfl) (by kernel_rfl) rfl rfl rfl rfl rfl (by kernel_rfl) ?_
    clear H; intro _ zs hzs H
    dsimp only [setL, delL] at H
    refine RW.nil ?_
    refine W.rg [(0, v), (5, .int .i64 ((a : Nat) : Int))] fun TA => ?_
    refine W.seq (W.region ?_)
    iterate 2 refine RW.v ?_
    obtain ⟨vC, hvC, H⟩ := H.cutSl (P := Tryz.prog) (t := 33) (i := a) 0 rfl (by omega) (by kernel_rfl) (by kernel_rfl)
    dsimp only [setL, delL] at H
    refine RW.vop (v := vC) (by kernel_rfl) (by kernel_rfl) (vop_slice rfl hvC) (by kernel_rfl) ?_
    refine RW.v ?_
    refine RW.nil ?_
    refine W.ret ?_
    refine endG (by rfl) (by exact resL_tmp rfl) ?_
    replace H := H.front 3 rfl
    dsimp only [setL, delL] at H
    replace H := H.front 3 rfl
    dsimp only [setL, delL] at H
    replace H := H.front 3 rfl
    dsimp only [setL, delL] at H
    replace H := H.front 3 rfl
    dsimp only [setL, delL] at H
    have K := H
    rw [del_cells hA hL (by omega)] at K
    exact ⟨a, del_len hA hL (by omega), K⟩
  ·have hc7b := hc7
   have hc7 := of_decide_eq_false hc7
   refine W.skip ?_
   refine blkQ_normal ?_
   refine W.region ?_
   refine RW.valE (v' := .int .i64 (((i : Nat) : Int) + 1)) (by kernel_rfl) (by kernel_rfl) rfl (congrArg (Value.int .i64) (wrap_in (by omega) (by omega))) (by kernel_rfl) ?_
   refine RW.v ?_
   refine RW.nil ?_
   replace H := H.front 3 rfl
   dsimp only [setL, delL] at H
   exact ⟨rfl, mm - 1, by omega, i + 1, (by omega), (del_not (by omega) hN hc7b), H, rfl, rfl, rfl, rfl⟩
 ·have hc1b := hc1
  have hc1 := of_decide_eq_false hc1
  refine W.exit _ ?_
  refine seqQ_exit ?_
  refine rndQ_exit ?_
  refine blkQ_here ?_
  refine W.seq (W.region ?_)
  refine RW.v ?_
  refine RW.nil ?_
  refine W.ret ?_
  refine endG (by rfl) (by exact resL_tmp rfl) ?_
  refine RW.v ?_
  refine RW.nil ?_
  refine W.rg [(0, v), (1, .func (.func 53) #[] #[pp be, pp bh, pp bf]), (5, .int .i64 (-1))] fun TA => ?_
  refine W.seq ?_
  refine W.seq (W.region ?_)
  iterate 2 refine RW.v ?_
  refine RW.nil ?_
  refine W.c1 ?_
  refine W.seq (W.region ?_)
  iterate 2 refine RW.v ?_
  refine RW.nil ?_
  refine W.ret ?_
  refine seqQ_ret ?_
  refine endG (by rfl) (by exact resL_tmp rfl) ?_
  replace H := H.front 3 rfl
  dsimp only [setL, delL] at H
  replace H := H.front 3 rfl
  dsimp only [setL, delL] at H
  replace H := H.front 3 rfl
  dsimp only [setL, delL] at H
  replace H := H.front 3 rfl
  dsimp only [setL, delL] at H
  have K := H
  rw [← del_none (p := (fun y => decide (keyW m f = keyW m y))) hN (by omega)] at K
  exact ⟨n, by rw [← hl]; exact (congrArg List.length (del_none (p := (fun y => decide (keyW m f = keyW m y))) hN (by omega))).symm, K⟩
set_option maxHeartbeats 8000000 in
theorem del2_wc {f : Wd} {l : List Wd} {bc be bh bf : Nat} (gf : Good m f) (gl : ∀ y ∈ l, DepE m y) (hlo : 0 < m.limit) (hl : l.length = n) (hn : n ≤ 65536) (H : Lies G66 (heapAbs h m) F σ (.sl 27 2 v n (wdC l) :: .at_ bc (.row ⟨[.func (.func 53) #[] #[.pointer (some ⟨be, 0, none⟩), .pointer (some ⟨bh, 0, none⟩), .pointer (some ⟨bf, 0, none⟩)]], 87, false⟩) :: .at_ be (.row ⟨[.int .i64 0], 30, false⟩) :: .at_ bh (.row ⟨[.pointer (some ⟨h, 0, none⟩)], 22, false⟩) :: .at_ bf (.row ⟨[.int .i64 f.1, .int .i64 f.2], 27, false⟩) :: L)) :
  WC G66 Tryz.prog 55 #[v, .func (.func 57) #[] #[.pointer (some ⟨bh, 0, none⟩), .pointer (some ⟨bc, 0, none⟩)]] σ fun r σ' => ∃ n', n' = (l.filter fun y => !(selE m f) y).length ∧ Lies G66 (heapAbs h m) F σ' (.sl 27 2 r n' (wdC (l.filter fun y => !(selE m f) y)) :: .at_ bc (.row ⟨[.func (.func 53) #[] #[.pointer (some ⟨be, 0, none⟩), .pointer (some ⟨bh, 0, none⟩), .pointer (some ⟨bf, 0, none⟩)]], 87, false⟩) :: .at_ be (.row ⟨[.int .i64 0], 30, false⟩) :: .at_ bh (.row ⟨[.pointer (some ⟨h, 0, none⟩)], 22, false⟩) :: .at_ bf (.row ⟨[.int .i64 f.1, .int .i64 f.2], 27, false⟩) :: L) := by
 refine WC.enter (fn := Tryz.f55) Tryz.func55 rfl ?_
 refine W.rg [(0, v), (1, .func (.func 57) #[] #[pp bh, pp bc])] fun TA => ?_
 refine W.seq (W.region ?_)
 refine RW.v ?_
 refine RW.nil ?_
 refine W.rg [(0, v), (1, .func (.func 57) #[] #[pp bh, pp bc])] fun TA => ?_
 refine W.seq (W.region ?_)
 iterate 2 refine RW.v ?_
 refine RW.cl ?_
 refine WC.enter (fn := Tryz.f84) Tryz.func84 rfl ?_
 refine W.rg [(0, v), (1, .func (.func 57) #[] #[pp bh, pp bc])] fun TA => ?_
 refine W.seq (W.region ?_)
 refine RW.v ?_
 refine RW.nil ?_
 refine W.rg [(0, v), (1, .func (.func 57) #[] #[pp bh, pp bc])] fun TA => ?_
 refine W.seq ?_
 refine W.seq (W.region ?_)
 refine RW.v ?_
 refine RW.len (by kernel_rfl) (by kernel_rfl) rfl rfl rfl rfl ((H.sl 0 rfl).len (by kernel_rfl)) (by kernel_rfl) ?_
 refine RW.v ?_
 refine RW.nil ?_
 refine W.rg [(0, v), (1, .func (.func 57) #[] #[pp bh, pp bc]), (7, .int .i64 ((n : Nat) : Int)), (8, .int .i64 0)] fun TA => ?_
 refine W.block ?_
 refine W.loop (fun mm ta σ => ∃ (i : Nat), (mm + i = n) ∧ (∀ y ∈ l.take i, (selE m f) y = false) ∧ Lies G66 (heapAbs h m) F σ (.sl 27 2 v n (wdC l) :: .at_ bc (.row ⟨[.func (.func 53) #[] #[.pointer (some ⟨be, 0, none⟩), .pointer (some ⟨bh, 0, none⟩), .pointer (some ⟨bf, 0, none⟩)]], 87, false⟩) :: .at_ be (.row ⟨[.int .i64 0], 30, false⟩) :: .at_ bh (.row ⟨[.pointer (some ⟨h, 0, none⟩)], 22, false⟩) :: .at_ bf (.row ⟨[.int .i64 f.1, .int .i64 f.2], 27, false⟩) :: (L)) ∧ ta 0 = v ∧ ta 1 = .func (.func 57) #[] #[.pointer (some ⟨bh, 0, none⟩), .pointer (some ⟨bc, 0, none⟩)] ∧ ta 7 = .int .i64 ((n : Nat) : Int) ∧ ta 8 = .int .i64 ((i : Nat) : Int)) n ?_ ?_
 ·exact ⟨0, (by omega), (fun y hy => by simp at hy), H, rfl, rfl, rfl, rfl⟩
 clear H
 rintro mm ta _ ⟨i, hm, hN, H, e0, e1, e7, e8⟩
 refine W.rst [(0, v), (1, .func (.func 57) #[] #[.pointer (some ⟨bh, 0, none⟩), .pointer (some ⟨bc, 0, none⟩)]), (7, .int .i64 ((n : Nat) : Int)), (8, .int .i64 ((i : Nat) : Int))] ⟨e0, e1, e7, e8, trivial⟩ fun TA => ?_
 clear e0 e1 e7 e8
 refine W.seq (W.region ?_)
 refine RW.v ?_
 refine RW.nil ?_
 refine W.rg [(0, v), (1, .func (.func 57) #[] #[pp bh, pp bc]), (7, .int .i64 ((n : Nat) : Int)), (8, .int .i64 ((i : Nat) : Int)), (9, .bool (decide (((i : Nat) : Int) < ((n : Nat) : Int))))] fun TA => ?_
 refine W.seq ?_
 refine W.cond rfl (fun hc1 => ?_) (fun hc1 => ?_)
 ·have hc1b := hc1
  have hc1 := of_decide_eq_true hc1
  refine W.skip ?_
  refine W.seq ?_
  refine W.block ?_
  refine W.seq (W.region ?_)
  iterate 2 refine RW.v ?_
  refine RW.nil ?_
  refine W.rg [(0, v), (1, .func (.func 57) #[] #[pp bh, pp bc]), (5, .int .i64 ((i : Nat) : Int)), (7, .int .i64 ((n : Nat) : Int)), (8, .int .i64 ((i : Nat) : Int))] fun TA => ?_
  refine W.seq (W.region ?_)
  iterate 3 refine RW.v ?_
  refine RW.idxG H 0 rfl (by kernel_rfl) (by kernel_rfl) rfl Tryz.underlying33 (by kernel_rfl) rfl rfl ⟨by omega, by omega⟩ (by kernel_rfl) ?_
  intro b2 q3 r4 hF5 hE6
  rw [wdC_at (l := l) (j := i) (by omega)] at hE6
  refine RW.loads 2 (by kernel_rfl) (by kernel_rfl) rfl rfl (hF5) hE6 rfl (by kernel_rfl) ?_
  replace H := H.front 4 rfl
  dsimp only [setL, delL] at H
  replace H := H.front 4 rfl
  dsimp only [setL, delL] at H
  replace H := H.front 4 rfl
  dsimp only [setL, delL] at H
  replace H := H.front 4 rfl
  dsimp only [setL, delL] at H
  refine RW.cl ?_
  refine ((eq2_wc gf (gl _ (getW_mem (by omega))) hlo H).mono ?_)
  clear H
  rintro _ _ ⟨rfl, H⟩
  refine RW.nil ?_
  refine W.rg [(0, v), (1, .func (.func 57) #[] #[pp bh, pp bc]), (5, .int .i64 ((i : Nat) : Int)), (7, .int .i64 ((n : Nat) : Int)), (8, .int .i64 ((i : Nat) : Int)), (16, .bool (selE m f (l.getD i (0, 0))))] fun TA => ?_
  refine W.cond rfl (fun hc7 => ?_) (fun hc7 => ?_)
  ·have hc7b := hc7
   refine W.seq (W.region ?_)
   iterate 2 refine RW.v ?_
   refine RW.nil ?_
   refine W.ret ?_
   refine blkQ_ret ?_
   refine seqQ_ret ?_
   refine rndQ_ret ?_
   refine blkQ_ret ?_
   refine seqQ_ret ?_
   refine endG (by rfl) (by exact resL_tmp rfl) ?_
   refine RW.v ?_
   refine RW.nil ?_
   refine W.rg [(0, v), (1, .func (.func 57) #[] #[pp bh, pp bc]), (5, .int .i64 ((i : Nat) : Int))] fun TA => ?_
   refine W.seq ?_
   refine W.seq (W.region ?_)
   refine RW.v ?_
   refine RW.valE (v' := .bool false) (by kernel_rfl) (by kernel_rfl) rfl (congrArg Value.bool (beq_eq_false_iff_ne.2 (by omega))) (by kernel_rfl) ?_
   refine RW.nil ?_
   refine W.c0 ?_
   refine W.skip ?_
   refine W.seq ?_
   refine W.seq (W.region ?_)
   refine RW.v ?_
   refine RW.valE (v' := .int .i64 (((i : Nat) : Int) + 1)) (by kernel_rfl) (by kernel_rfl) rfl (congrArg (Value.int .i64) (wrap_in (by omega) (by omega))) (by kernel_rfl) ?_
   refine RW.v ?_
   refine RW.nil ?_
   refine W.rg [(0, v), (1, .func (.func 57) #[] #[pp bh, pp bc]), (5, .int .i64 ((i : Nat) : Int)), (6, .int .i64 (((i : Nat) : Int) + 1))] fun TA => ?_
   refine W.block ?_
   replace H := H.front 3 rfl
   dsimp only [setL, delL] at H
   replace H := H.front 3 rfl
   dsimp only [setL, delL] at H
   replace H := H.front 3 rfl
   dsimp only [setL, delL] at H
   replace H := H.front 3 rfl
   dsimp only [setL, delL] at H
   replace H := H.front 4 rfl
   dsimp only [setL, delL] at H
   refine W.loop (fun mm2 ta σ => ∃ (a : Nat) (j : Nat) (arr : List Wd), (mm2 + j = n) ∧ (a < j) ∧ (arr.take a = (l.take j).filter fun y => !(selE m f) y) ∧ (arr.drop j = l.drop j) ∧ (arr.length = n) ∧ Lies G66 (heapAbs h m) F σ (.sl 27 2 v n (wdC arr) :: .at_ bc (.row ⟨[.func (.func 53) #[] #[.pointer (some ⟨be, 0, none⟩), .pointer (some ⟨bh, 0, none⟩), .pointer (some ⟨bf, 0, none⟩)]], 87, false⟩) :: .at_ be (.row ⟨[.int .i64 0], 30, false⟩) :: .at_ bh (.row ⟨[.pointer (some ⟨h, 0, none⟩)], 22, false⟩) :: .at_ bf (.row ⟨[.int .i64 f.1, .int .i64 f.2], 27, false⟩) :: (L)) ∧ ta 0 = v ∧ ta 1 = .func (.func 57) #[] #[.pointer (some ⟨bh, 0, none⟩), .pointer (some ⟨bc, 0, none⟩)] ∧ ta 5 = .int .i64 ((a : Nat) : Int) ∧ ta 6 = .int .i64 ((j : Nat) : Int)) (n - (i + 1)) ?_ ?_
   ·exact ⟨i, i + 1, l, (by omega), (by omega), (del_start (p := (selE m f)) (by omega) hN hc7b), rfl, hl, H, rfl, rfl, rfl, rfl⟩
   clear H
   rintro mm2 ta _ ⟨a, j, arr, hm2, haj, hA, hD, hL, H, e0, e1, e5, e6⟩
   refine W.rst [(0, v), (1, .func (.func 57) #[] #[.pointer (some ⟨bh, 0, none⟩), .pointer (some ⟨bc, 0, none⟩)]), (5, .int .i64 ((a : Nat) : Int)), (6, .int .i64 ((j : Nat) : Int))] ⟨e0, e1, e5, e6, trivial⟩ fun TA => ?_
   clear e0 e1 e5 e6
   refine W.seq ?_
   refine W.seq (W.region ?_)
   iterate 2 refine RW.v ?_
   refine RW.len (by kernel_rfl) (by kernel_rfl) rfl rfl rfl rfl ((H.sl 0 rfl).len (by kernel_rfl)) (by kernel_rfl) ?_
   refine RW.v ?_
   refine RW.nil ?_
   refine W.rg [(0, v), (1, .func (.func 57) #[] #[pp bh, pp bc]), (5, .int .i64 ((a : Nat) : Int)), (6, .int .i64 ((j : Nat) : Int)), (19, .bool (decide (((j : Nat) : Int) < ((n : Nat) : Int))))] fun TA => ?_
   refine W.cond rfl (fun hc8 => ?_) (fun hc8 => ?_)
   ·have hc8b := hc8
    have hc8 := of_decide_eq_true hc8
    refine W.skip ?_
    refine W.seq ?_
    refine W.block ?_
    refine W.seq (W.region ?_)
    iterate 2 refine RW.v ?_
    refine RW.idxG H 0 rfl (by kernel_rfl) (by kernel_rfl) rfl Tryz.underlying33 (by kernel_rfl) rfl rfl ⟨by omega, by omega⟩ (by kernel_rfl) ?_
    intro b9 q10 r11 hF12 hE13
    rw [wdC_at (l := arr) (j := j) (by omega)] at hE13
    refine RW.loads 2 (by kernel_rfl) (by kernel_rfl) rfl rfl (hF12) hE13 rfl (by kernel_rfl) ?_
    refine RW.mk H (.row ⟨[.int .i64 0, .int .i64 0], 27, false⟩) ?_
    clear H; intro _ b14 _ H
    refine RW.st H 0 [.int .i64 ((arr.getD j (0, 0)).1), .int .i64 ((arr.getD j (0, 0)).2)] [.int .i64 ((arr.getD j (0, 0)).1), .int .i64 ((arr.getD j (0, 0)).2)] ?_
    clear H; intro _ _ H; dsimp only [setL, delL] at H
    refine RW.nil ?_
    refine W.rg [(0, v), (1, .func (.func 57) #[] #[pp bh, pp bc]), (5, .int .i64 ((a : Nat) : Int)), (6, .int .i64 ((j : Nat) : Int)), (7, pp b14)] fun TA => ?_
    refine W.seq (W.region ?_)
    refine RW.v ?_
    refine RW.ld H 0 2 ?_
    replace H := H.front 5 rfl
    dsimp only [setL, delL] at H
    replace H := H.front 5 rfl
    dsimp only [setL, delL] at H
    replace H := H.front 5 rfl
    dsimp only [setL, delL] at H
    replace H := H.front 5 rfl
    dsimp only [setL, delL] at H
    refine RW.cl ?_
    refine ((eq2_wc gf (by rw [getD_drop hD (by omega) (by omega)]; exact gl _ (getW_mem (by omega))) hlo H).mono ?_)
    clear H
    rintro _ _ ⟨rfl, H⟩
    refine RW.v ?_
    refine RW.nil ?_
    refine W.rg [(0, v), (1, .func (.func 57) #[] #[pp bh, pp bc]), (5, .int .i64 ((a : Nat) : Int)), (6, .int .i64 ((j : Nat) : Int)), (7, pp b14), (29, .bool (!(selE m f (arr.getD j (0, 0)))))] fun TA => ?_
    refine W.cond rfl (fun hc15 => ?_) (fun hc15 => ?_)
    ·have hc15b := hc15
     refine W.seq (W.region ?_)
     iterate 2 refine RW.v ?_
     refine RW.ld H 4 2 ?_
     refine RW.idxGS H 5 rfl (by kernel_rfl) (by kernel_rfl) rfl Tryz.underlying33 (by kernel_rfl) rfl rfl ⟨by omega, by omega⟩ (by kernel_rfl) ?_
     intro b16 q17 hb18 hq19
     refine RW.stG H 5 rfl hb18 (vs := [.int .i64 ((arr.getD j (0, 0)).1), .int .i64 ((arr.getD j (0, 0)).2)]) (by subst hq19; simp only [List.length_cons, List.length_nil]; omega) (by kernel_rfl) (by kernel_rfl) rfl rfl rfl rfl (by kernel_rfl) (by kernel_rfl) ?_
     clear H; intro _ H
     dsimp only [setL, delL] at H
     refine RW.nil ?_
     replace H := (H.del 4)
     dsimp only [setL, delL] at H
     refine W.rg [(0, v), (1, .func (.func 57) #[] #[pp bh, pp bc]), (5, .int .i64 ((a : Nat) : Int)), (6, .int .i64 ((j : Nat) : Int))] fun TA => ?_
     refine W.region ?_
     refine RW.v ?_
     refine RW.valE (v' := .int .i64 (((a : Nat) : Int) + 1)) (by kernel_rfl) (by kernel_rfl) rfl (congrArg (Value.int .i64) (wrap_in (by omega) (by omega))) (by kernel_rfl) ?_
     refine RW.v ?_
     refine RW.nil ?_
     refine blkQ_normal ?_
     refine W.rg [(0, v), (1, .func (.func 57) #[] #[pp bh, pp bc]), (5, .int .i64 (((a : Nat) : Int) + 1)), (6, .int .i64 ((j : Nat) : Int))] fun TA => ?_
     refine W.region ?_
     refine RW.v ?_
     refine RW.valE (v' := .int .i64 (((j : Nat) : Int) + 1)) (by kernel_rfl) (by kernel_rfl) rfl (congrArg (Value.int .i64) (wrap_in (by omega) (by omega))) (by kernel_rfl) ?_
     refine RW.v ?_
     refine RW.nil ?_
     replace H := H.front 4 rfl
     dsimp only [setL, delL] at H
     rw [setW_cells (x := (arr.getD j (0, 0))) (show a < arr.length by omega) hq19] at H
     exact ⟨rfl, mm2 - 1, by omega, a + 1, j + 1, arr.set a (arr.getD j (0, 0)), (by omega), (by omega), (del_keep (p := (selE m f)) hA hD (by omega) (by omega) (by omega) (by simpa using hc15b)), (del_rest hD (by omega)), (by rw [List.length_set]; exact hL), H, rfl, rfl, rfl, rfl⟩
    ·have hc15b := hc15
     refine W.skip ?_
     refine blkQ_normal ?_
     refine W.region ?_
     refine RW.v ?_
     refine RW.valE (v' := .int .i64 (((j : Nat) : Int) + 1)) (by kernel_rfl) (by kernel_rfl) rfl (congrArg (Value.int .i64) (wrap_in (by omega) (by omega))) (by kernel_rfl) ?_
     refine RW.v ?_
     refine RW.nil ?_
     replace H := (H.del 4)
     dsimp only [setL, delL] at H
     replace H := H.front 4 rfl
     dsimp only [setL, delL] at H
     exact ⟨rfl, mm2 - 1, by omega, a, j + 1, arr, (by omega), (by omega), (del_drop (p := (selE m f)) hA hD (by omega) (by omega) (by simpa using hc15b)), (drop_next hD), hL, H, rfl, rfl, rfl, rfl⟩
   ·have hc8b := hc8
    have hc8 := of_decide_eq_false hc8
    refine W.exit _ ?_
    refine seqQ_exit ?_
    refine rndQ_exit ?_
    refine blkQ_here ?_
    refine W.seq (W.region ?_)
    iterate 2 refine RW.v ?_
    obtain rfl : j = n := by omega
    obtain ⟨vB, hvB⟩ := grow_some (P := Tryz.prog) (t := 33) (i := a) (H.sl 0 rfl) (by omega) (by kernel_rfl) (by kernel_rfl)
    refine RW.vop (v := vB) (by kernel_rfl) (by kernel_rfl) (vop_slice rfl hvB) (by kernel_rfl) ?_
    refine RW.clearG H 0 (i := a) (z := .agg #[.int .i64 0, .int .i64 0]) rfl (by omega) (by kernel_rfl) (by kernel_rfl) (by kernel_rfl) (by kernel_rfl) rfl rfl (by decide) hvB (by kernel_rfl) (by kernel_rfl) rfl rfl rfl rfl rfl (by kernel_rfl) ?_
    clear H; intro _ zs hzs H
    dsimp only [setL, delL] at H
    refine RW.nil ?_
    refine W.rg [(0, v), (5, .int .i64 ((a : Nat) : Int))] fun TA => ?_
    refine W.seq (W.region ?_)
    iterate 2 refine RW.v ?_
    obtain ⟨vC, hvC, H⟩ := H.cutSl (P := Tryz.prog) (t := 33) (i := a) 0 rfl (by omega) (by kernel_rfl) (by kernel_rfl)
    dsimp only [setL, delL] at H
    refine RW.vop (v := vC) (by kernel_rfl) (by kernel_rfl) (vop_slice rfl hvC) (by kernel_rfl) ?_
    refine RW.v ?_
    refine RW.nil ?_
    refine W.ret ?_
    refine endG (by rfl) (by exact resL_tmp rfl) ?_
    replace H := H.front 4 rfl
    dsimp only [setL, delL] at H
    replace H := H.front 4 rfl
    dsimp only [setL, delL] at H
    replace H := H.front 4 rfl
    dsimp only [setL, delL] at H
    replace H := H.front 4 rfl
    dsimp only [setL, delL] at H
    replace H := H.front 4 rfl
    dsimp only [setL, delL] at H
    have K := H
    rw [del_cells hA hL (by omega)] at K
    exact ⟨a, del_len hA hL (by omega), K⟩
  ·have hc7b := hc7
   refine W.skip ?_
   refine blkQ_normal ?_
   refine W.region ?_
   refine RW.valE (v' := .int .i64 (((i : Nat) : Int) + 1)) (by kernel_rfl) (by kernel_rfl) rfl (congrArg (Value.int .i64) (wrap_in (by omega) (by omega))) (by kernel_rfl) ?_
   refine RW.v ?_
   refine RW.nil ?_
   replace H := H.front 4 rfl
   dsimp only [setL, delL] at H
   exact ⟨rfl, mm - 1, by omega, i + 1, (by omega), (del_not (by omega) hN hc7b), H, rfl, rfl, rfl, rfl⟩
 ·have hc1b := hc1
  have hc1 := of_decide_eq_false hc1
  refine W.exit _ ?_
  refine seqQ_exit ?_
  refine rndQ_exit ?_
  refine blkQ_here ?_
  refine W.seq (W.region ?_)
  refine RW.v ?_
  refine RW.nil ?_
  refine W.ret ?_
  refine endG (by rfl) (by exact resL_tmp rfl) ?_
  refine RW.v ?_
  refine RW.nil ?_
  refine W.rg [(0, v), (1, .func (.func 57) #[] #[pp bh, pp bc]), (5, .int .i64 (-1))] fun TA => ?_
  refine W.seq ?_
  refine W.seq (W.region ?_)
  iterate 2 refine RW.v ?_
  refine RW.nil ?_
  refine W.c1 ?_
  refine W.seq (W.region ?_)
  iterate 2 refine RW.v ?_
  refine RW.nil ?_
  refine W.ret ?_
  refine seqQ_ret ?_
  refine endG (by rfl) (by exact resL_tmp rfl) ?_
  replace H := H.front 4 rfl
  dsimp only [setL, delL] at H
  replace H := H.front 4 rfl
  dsimp only [setL, delL] at H
  replace H := H.front 4 rfl
  dsimp only [setL, delL] at H
  replace H := H.front 4 rfl
  dsimp only [setL, delL] at H
  replace H := H.front 4 rfl
  dsimp only [setL, delL] at H
  have K := H
  rw [← del_none (p := (selE m f)) hN (by omega)] at K
  exact ⟨n, by rw [← hl]; exact (congrArg List.length (del_none (p := (selE m f)) hN (by omega))).symm, K⟩
end
end Go.Proofs.YtaaebeiigkhcjaaGreatDoor
namespace Go.Proofs.YtaaebeiigkhcjaaGreatDoor
set_option maxRecDepth 100000
section
variable {A : Abs} {σ0 : Mem} {v : Value} {n : Nat} {h : Nat} {m : HM}
theorem slice_nil (hlo : 0 < m.limit) (hG : G66 ≤ σ0.next) (ha : σ0.abs = heapAbs h m) : WC G66 Tryz.prog 12 #[pp h, wdV (1, 0)] σ0 fun r σ' => r = .tuple #[.slice none 0 0, .int .i64 0] ∧ Lies G66 (heapAbs h m) σ0.get σ' [] := by
 have H := Lies.start hG ha
 generalize σ0.get = F at H ⊢
 refine WC.enterD (fn := Tryz.f12) Tryz.func12 rfl ?_
 refine W.rg [(0, pp h), (1, .agg #[.int .i64 1, .int .i64 0])] fun TA => ?_
 refine W.seq (W.region ?_)
 refine RW.mk H (.row ⟨[.int .i64 1, .int .i64 0], 27, false⟩) ?_
 clear H; intro _ b1 _ H
 refine RW.mk H (.row ⟨[.slice none 0 0], 33, false⟩) ?_
 clear H; intro _ b2 _ H
 refine RW.mk H (.row ⟨[.int .i64 0], 30, false⟩) ?_
 clear H; intro _ b3 _ H
 refine RW.nil ?_
 refine W.rg [(0, pp h), (3, pp b1), (4, pp b2), (5, pp b3)] fun TA => ?_
 refine W.seq ?_
 refine W.seq (W.region ?_)
 refine RW.v ?_
 refine RW.cl ?_
 refine WC.enter (fn := Tryz.f50) Tryz.func50 rfl ?_
 refine W.rg [(0, pp h)] fun TA => ?_
 refine W.seq (W.region ?_)
 refine RW.v ?_
 refine RW.nil ?_
 refine W.rg [(0, pp h)] fun TA => ?_
 refine W.seq (W.region ?_)
 refine RW.v ?_
 refine RW.cl ?_
 refine ⟨_, _, (s_limit (G := G66) H.abs), ?_⟩
 refine RW.valE (v' := .bool true) (by kernel_rfl) (by kernel_rfl) rfl (congrArg Value.bool (decide_eq_true (by omega))) (by kernel_rfl) ?_
 refine RW.v ?_
 refine RW.nil ?_
 refine W.ret ?_
 refine endG (by rfl) (by exact resL_tmp rfl) ?_
 refine RW.v ?_
 refine RW.nil ?_
 refine W.c0 ?_
 refine W.skip ?_
 refine W.seq (W.region ?_)
 refine RW.mk H (.row ⟨[.slice none 0 0], 33, false⟩) ?_
 clear H; intro _ b4 _ H
 refine RW.nil ?_
 refine W.rg [(0, pp h), (3, pp b1), (4, pp b2), (5, pp b3), (6, pp b4)] fun TA => ?_
 refine W.seq (W.region ?_)
 refine RW.ld H 3 2 ?_
 refine RW.mk H (.row ⟨[.int .i64 0, .int .i64 0], 27, false⟩) ?_
 clear H; intro _ b5 _ H
 refine RW.st H 0 [.int .i64 1, .int .i64 0] [.int .i64 1, .int .i64 0] ?_
 clear H; intro _ _ H; dsimp only [setL, delL] at H
 refine RW.nil ?_
 refine W.rg [(0, pp h), (3, pp b1), (4, pp b2), (5, pp b3), (6, pp b4), (7, pp b5)] fun TA => ?_
 refine W.seq ?_
 refine W.seq (W.region ?_)
 refine RW.v ?_
 refine RW.ld H 4 2 ?_
 refine RW.cl ?_
 refine WC.enter (fn := Tryz.f51) Tryz.func51 rfl ?_
 refine W.rg [(0, pp h), (1, .agg #[.int .i64 1, .int .i64 0]), (2, pp b5)] fun TA => ?_
 refine W.seq (W.region ?_)
 refine RW.mk H (.row ⟨[pt h], 22, false⟩) ?_
 clear H; intro _ b6 _ H
 refine RW.mk H (.row ⟨[.int .i64 1, .int .i64 0], 27, false⟩) ?_
 clear H; intro _ b7 _ H
 refine RW.mk H (.row ⟨[pt b5], 86, false⟩) ?_
 clear H; intro _ b8 _ H
 refine RW.v ?_
 refine RW.nil ?_
 refine W.rg [(3, pp b6), (4, pp b7), (5, pp b8)] fun TA => ?_
 refine W.seq (W.region ?_)
 refine RW.val (v := .func (.func 79) #[] #[.pointer (some ⟨b6, 0, none⟩), .pointer (some ⟨b7, 0, none⟩), .pointer (some ⟨b8, 0, none⟩)]) (by kernel_rfl) (by kernel_rfl) (by kernel_rfl) (by kernel_rfl) ?_
 refine RW.v ?_
 refine RW.nil ?_
 refine W.ret ?_
 refine endG (by rfl) (by exact resL_tmp rfl) ?_
 refine RW.nil ?_
 replace H := (H.del 7)
 dsimp only [setL, delL] at H
 refine W.rg [(4, pp b2), (5, pp b3), (6, pp b4), (7, pp b5), (16, .func (.func 79) #[] #[pp b6, pp b7, pp b8])] fun TA => ?_
 refine W.block ?_
 refine W.rst [(4, .pointer (some ⟨b2, 0, none⟩)), (5, .pointer (some ⟨b3, 0, none⟩)), (6, .pointer (some ⟨b4, 0, none⟩)), (7, .pointer (some ⟨b5, 0, none⟩)), (16, .func (.func 79) #[] #[.pointer (some ⟨b6, 0, none⟩), .pointer (some ⟨b7, 0, none⟩), .pointer (some ⟨b8, 0, none⟩)])] ⟨rfl, rfl, rfl, rfl, rfl, trivial⟩ fun TL13 => ?_
 refine W.rangeL H rfl (fun _ h => nomatch h) (fun _ h => nomatch h) (by kernel_rfl) fun _ d9 b10 lp11 hl12 H => ?_
 refine WC.enter (fn := Tryz.f79) Tryz.func79 rfl ?_
 refine W.rg [(0, .func (.yield b10) #[] #[]), (1, pp b6), (2, pp b7), (3, pp b8)] fun TA => ?_
 refine W.seq ?_
 refine W.block ?_
 refine W.unroll (WL.once ?_)
 refine W.seq ?_
 refine W.seq (W.region ?_)
 refine RW.ld H 4 1 ?_
 refine RW.ld H 3 2 ?_
 refine RW.cl ?_
 refine WC.enter (fn := Tryz.f80) Tryz.func80 rfl ?_
 refine W.rg [(0, pp h), (1, .agg #[.int .i64 1, .int .i64 0])] fun TA => ?_
 refine W.seq (W.region ?_)
 refine RW.mk H (.row ⟨[.int .i64 1, .int .i64 0], 27, false⟩) ?_
 clear H; intro _ b14 _ H
 refine RW.v ?_
 refine RW.nil ?_
 refine W.rg [(0, pp h), (3, pp b14)] fun TA => ?_
 refine W.seq (W.region ?_)
 refine RW.v ?_
 refine RW.ld H 0 1 ?_
 iterate 2 refine RW.v ?_
 refine RW.skip (by rfl) (by kernel_rfl) ?_
 refine RW.skip (by rfl) (by kernel_rfl) ?_
 refine RW.skip (by rfl) (by kernel_rfl) ?_
 iterate 2 refine RW.v ?_
 refine RW.nil ?_
 replace H := (H.del 0)
 dsimp only [setL, delL] at H
 refine W.ret ?_
 refine endG (by rfl) (by exact resL_tmp rfl) ?_
 refine RW.nil ?_
 refine W.c0 ?_
 refine W.exit _ ?_
 refine seqQ_exit ?_
 refine onceQ_exit ?_
 refine blkQ_here ?_
 refine W.region ?_
 refine RW.ld H 2 1 ?_
 refine RW.ld H 3 2 ?_
 refine RW.v ?_
 refine RW.st H 5 [.int .i64 1, .int .i64 0] [.int .i64 1, .int .i64 0] ?_
 clear H; intro _ _ H; dsimp only [setL, delL] at H
 refine RW.nil ?_
 refine endG (by rfl) (by exact rfl) ?_
 refine ⟨_, _, _, 0, _, _, _, _, H, rfl, hl12, rfl, rfl, ?_⟩
 clear H; intro _ H
 dsimp only [setL, delL] at H
 refine blkQ_normal ?_
 refine W.rg [(4, pp b2), (5, pp b3), (6, pp b4), (7, pp b5), (16, .func (.func 79) #[] #[pp b6, pp b7, pp b8])] fun TA => ?_
 refine W.seq ?_
 refine W.seq (W.region ?_)
 refine RW.ld H 4 2 ?_
 refine RW.cl ?_
 refine WC.enter (fn := Tryz.f52) Tryz.func52 rfl ?_
 refine W.rg [(0, .agg #[.int .i64 1, .int .i64 0])] fun TA => ?_
 refine W.seq (W.region ?_)
 refine RW.mk H (.row ⟨[.int .i64 1, .int .i64 0], 27, false⟩) ?_
 clear H; intro _ b15 _ H
 refine RW.v ?_
 refine RW.nil ?_
 refine W.rg [(1, pp b15)] fun TA => ?_
 refine W.seq ?_
 refine W.drawn (by kernel_rfl) (by kernel_rfl) H.gn ?_
 have H16 := H
 refine RW.ld H16 0 2 ?_
 refine RW.cl ?_
 refine WC.enter (fn := Tryz.f74) Tryz.func74 rfl ?_
 replace H := H16
 refine W.rg [] fun TA => ?_
 refine W.seq (W.region ?_)
 refine RW.mk H (.row ⟨[.int .i64 0, .int .i64 0], 27, false⟩) ?_
 clear H; intro _ b17 _ H
 refine RW.nil ?_
 refine W.rg [(0, pp b17)] fun TA => ?_
 refine W.seq (W.region ?_)
 refine RW.val (v := .agg #[.int .i64 1, .int .i64 0]) (by kernel_rfl) (by kernel_rfl) (by kernel_rfl) (by kernel_rfl) ?_
 refine RW.st H 0 [.int .i64 1, .int .i64 0] [.int .i64 1, .int .i64 0] ?_
 clear H; intro _ _ H; dsimp only [setL, delL] at H
 refine RW.nil ?_
 refine W.ret ?_
 refine endG (by rfl) (by exact resL_cell rfl (H.get 0 rfl) (by rw [uT_eq]; exact Tryz.underlying27) (by kernel_rfl) rfl rfl rfl) ?_
 have H18 := H
 refine RW.vop (v := .bool true) (by kernel_rfl) (by kernel_rfl) (vop_eqS (b := true) (r := true) rfl (.inl ⟨rfl, rfl⟩) rfl rfl rfl rfl (by kernel_rfl) (fun w => (eqWd _ _ _ _ w).trans (by simp))) (by kernel_rfl) ?_
 refine RW.v ?_
 refine RW.nil ?_
 refine ⟨⟨by kernel_rfl, ⟨dyn_row (H16.get 0 rfl) (H18.get 1 rfl) ⟨fun h => Bool.noConfusion h, fun _ => H16.get 0 rfl, fun h => Bool.noConfusion h, fun h => Bool.noConfusion h, trivial⟩, trivial, trivial, trivial, trivial⟩⟩, ?_⟩
 replace H := H18
 clear H16 H18
 replace H := ((H.del 1).del 0)
 dsimp only [setL, delL] at H
 refine W.ret ?_
 refine endG (by rfl) (by exact resL_tmp rfl) ?_
 refine RW.v ?_
 refine RW.nil ?_
 replace H := ((((H.del 4).del 3).del 2).del 1)
 dsimp only [setL, delL] at H
 refine W.c0 ?_
 refine W.skip ?_
 refine W.seq (W.region ?_)
 refine RW.ld H 1 1 ?_
 refine RW.st H 3 [.slice none 0 0] [.slice none 0 0] ?_
 clear H; intro _ _ H; dsimp only [setL, delL] at H
 refine RW.st H 2 [.int .i64 0] [.int .i64 0] ?_
 clear H; intro _ _ H; dsimp only [setL, delL] at H
 refine RW.nil ?_
 replace H := (H.del 1)
 dsimp only [setL, delL] at H
 refine W.ret ?_
 refine endMark H 0 rfl fun _ H => ?_
 dsimp only [setL, delL] at H
 refine endGD0 (by rfl) (by exact resL_cell rfl (H.get 1 rfl) (by rw [uT_eq]; exact Tryz.underlying33) (by kernel_rfl) rfl rfl (by exact resL_cell rfl (H.get 0 rfl) (by rw [uT_eq]; exact Tryz.underlying30) (by kernel_rfl) rfl rfl rfl)) ?_
 exact ⟨rfl, ((H.del 1).del 0)⟩
theorem elems_nilZ (hlo : 0 < m.limit) (hG : G66 ≤ σ0.next) (ha : σ0.abs = heapAbs h m) (hN : GNull σ0.get) : WC G66 Tryz.prog 61 #[pp h, wdV (1, 0)] σ0 fun r σ' => r = .tuple #[.slice none 0 0, .int .i64 0] ∧ Lies G66 (heapAbs h m) σ0.get σ' [] := by
 obtain ⟨tN, gN, hN⟩ := hN
 have H := Lies.start hG ha
 generalize σ0.get = F at H hN ⊢
 refine WC.enter (fn := Tryz.f61) Tryz.func61 rfl ?_
 refine W.rg [(0, pp h), (1, .agg #[.int .i64 1, .int .i64 0])] fun TA => ?_
 refine W.seq (W.region ?_)
 refine RW.mk H (.row ⟨[.int .i64 1, .int .i64 0], 27, false⟩) ?_
 clear H; intro _ b1 _ H
 iterate 2 refine RW.v ?_
 refine RW.nil ?_
 refine W.rg [(0, pp h), (3, pp b1)] fun TA => ?_
 refine W.seq ?_
 refine W.seq (W.region ?_)
 refine RW.ld H 0 2 ?_
 refine RW.loads 2 (by kernel_rfl) (by kernel_rfl) rfl rfl (H.old _ _ hN) rfl rfl (by kernel_rfl) ?_
 refine RW.vop (v := .bool false) (by kernel_rfl) (by kernel_rfl) (vop_eqS (b := true) (r := false) rfl (.inr ⟨rfl, rfl⟩) rfl rfl rfl rfl (by kernel_rfl) (fun w => (eqWd _ _ _ _ w).trans (by simp))) (by kernel_rfl) ?_
 refine RW.v ?_
 refine RW.skip (by rfl) (by kernel_rfl) ?_
 refine RW.skip (by rfl) (by kernel_rfl) ?_
 refine RW.skip (by rfl) (by kernel_rfl) ?_
 refine RW.skip (by rfl) (by kernel_rfl) ?_
 refine RW.v ?_
 refine RW.nil ?_
 refine W.c0 ?_
 refine W.skip ?_
 refine W.seq ?_
 refine W.seq (W.region ?_)
 refine RW.v ?_
 refine RW.ld H 0 2 ?_
 refine RW.cl ?_
 refine ⟨_, _, (carN_call (G := G66) H.abs), ?_⟩
 iterate 3 refine RW.v ?_
 refine RW.mk H (.row ⟨[.int .i64 0, .int .i64 0], 27, false⟩) ?_
 clear H; intro _ b2 _ H
 refine RW.st H 0 [.int .i64 1, .int .i64 0] [.int .i64 1, .int .i64 0] ?_
 clear H; intro _ _ H; dsimp only [setL, delL] at H
 refine RW.v ?_
 refine RW.nil ?_
 refine W.rg [(0, pp h), (3, pp b1), (6, pp b2)] fun TA => ?_
 refine W.seq (W.region ?_)
 refine RW.v ?_
 refine RW.ld H 0 1 ?_
 iterate 2 refine RW.v ?_
 refine RW.val (by rfl) (by kernel_rfl) rfl (by kernel_rfl) ?_
 refine RW.ldL H 0 1 (by rfl) (by kernel_rfl) rfl rfl rfl rfl rfl (by kernel_rfl) ?_
 refine RW.val (by rfl) (by kernel_rfl) rfl (by kernel_rfl) ?_
 refine RW.val (by rfl) (by kernel_rfl) rfl (by kernel_rfl) ?_
 refine RW.val (by rfl) (by kernel_rfl) rfl (by kernel_rfl) ?_
 refine RW.ldL H 0 1 (by rfl) (by kernel_rfl) rfl rfl rfl rfl rfl (by kernel_rfl) ?_
 refine RW.val (by rfl) (by kernel_rfl) rfl (by kernel_rfl) ?_
 refine RW.val (by rfl) (by kernel_rfl) rfl (by kernel_rfl) ?_
 refine RW.v ?_
 refine RW.nil ?_
 replace H := (H.del 0)
 dsimp only [setL, delL] at H
 refine W.c0 ?_
 refine W.skip ?_
 refine W.seq (W.region ?_)
 refine RW.v ?_
 refine RW.ld H 0 2 ?_
 refine RW.cl ?_
 refine ((slice_nil hlo H.gn H.abs).mono ?_)
 rintro _ _ ⟨rfl, K⟩
 replace H := H.then K
 clear K
 dsimp only [List.nil_append, List.cons_append] at H
 iterate 4 refine RW.v ?_
 refine RW.nil ?_
 replace H := (H.del 0)
 dsimp only [setL, delL] at H
 refine W.ret ?_
 refine endG (by rfl) (by exact resL_tmp (by exact resL_tmp rfl)) ?_
 exact ⟨rfl, H⟩
theorem clone_nil (hG : G66 ≤ σ0.next) (ha : σ0.abs = A) : WC G66 Tryz.prog 56 #[.slice none 0 0] σ0 fun r σ' => Lies G66 A σ0.get σ' [.sl 27 2 r 0 []] := by
 have H := Lies.start hG ha
 generalize σ0.get = F at H ⊢
 refine WC.enter (fn := Tryz.f56) Tryz.func56 rfl ?_
 refine W.rg [(0, .slice none 0 0)] fun TA => ?_
 refine W.seq (W.region ?_)
 refine RW.v ?_
 refine RW.nil ?_
 refine W.rg [(0, .slice none 0 0)] fun TA => ?_
 refine W.seq ?_
 refine W.seq (W.region ?_)
 iterate 2 refine RW.v ?_
 refine RW.nil ?_
 refine W.c1 ?_
 refine W.seq (W.region ?_)
 refine RW.v ?_
 refine RW.nil ?_
 refine W.ret ?_
 refine seqQ_ret ?_
 refine endG (by rfl) (by exact resL_tmp rfl) ?_
 exact (H).nilSl 27 2
theorem clone_wc {l : List Wd} (hn : n ≤ 65536) (hs : SlF σ0.get 2 v n (wdC l)) (hl : l.length = n) (hv : n = 0 → v = .slice none 0 0) (hG : G66 ≤ σ0.next) (ha : σ0.abs = A) : WC G66 Tryz.prog 56 #[v] σ0 fun r σ' => Lies G66 A σ0.get σ' [.sl 27 2 r n (wdC l)] := by
 rcases Nat.eq_zero_or_pos n with h0 | h0
 ·obtain rfl := hv h0
  subst h0
  obtain rfl : l = [] := List.eq_nil_of_length_eq_zero hl
  exact clone_nil hG ha
 ·cases hs with
  | nil _ _ => cases h0
  | void _ _ _ => cases h0
  | some hr hx hc => exact clone_row h0 hn (.some hr hx hc) hG ha
theorem slice_z {c : Nat → Wd} {l : List Wd} {x : Wd} (hx : c 0 = x) (hlo : 0 < m.limit) (hp : Chain m c l) (hn : l.length ≤ 65536) (hG : G66 ≤ σ0.next) (ha : σ0.abs = heapAbs h m) :
  WC G66 Tryz.prog 12 #[pp h, wdV x] σ0 fun v σ' => ∃ sl, v = .tuple #[sl, .int .i64 0] ∧ (l.length = 0 → sl = .slice none 0 0) ∧ Lies G66 (heapAbs h m) σ0.get σ' [.sl 27 2 sl l.length (wdC l)] := by
 cases l with
 | nil =>
  have h0 : x = (1, 0) := hx.symm.trans hp.1
  subst h0
  exact (slice_nil hlo hG ha).mono fun r σ' ⟨e, K⟩ => ⟨_, e, fun _ => rfl, K.nilSl _ _⟩
 | cons y l => exact (slice_k hx hG ha hlo hp hn).mono fun r σ' ⟨sl, e, K⟩ => ⟨sl, e, fun e => (by cases e), K⟩
theorem elems_z {vw : Wd} {ws : List Wd} (E : Elems G66 h m vw ws) (hz : ws = [] → vw = (1, 0)) (hlo : 0 < m.limit) (hG : G66 ≤ σ0.next) (ha : σ0.abs = heapAbs h m) (hN : GNull σ0.get) :
  WC G66 Tryz.prog 61 #[pp h, wdV vw] σ0 fun v σ' => ∃ sl, v = .tuple #[sl, .int .i64 0] ∧ (ws.length = 0 → sl = .slice none 0 0) ∧ ∃ L', Lies G66 (heapAbs h m) σ0.get σ' L' ∧ ∀ A2 F2 σ2 L2, Lies G66 A2 F2 σ2 (L' ++ L2) → ∃ F', Le F2 F' ∧ SlF F' 2 sl ws.length (wdC ws) ∧ Lies G66 A2 F' σ2 L2 := by
 cases ws with
 | nil =>
  have h0 := hz rfl
  subst h0
  exact (elems_nilZ hlo hG ha hN).mono fun r σ' ⟨e, K⟩ => ⟨_, e, fun _ => rfl, [], K, fun A2 F2 σ2 L2 H2 => ⟨F2, Le.refl _, .nil _ rfl, H2⟩⟩
 | cons y l => exact (E _ hG ha hN).mono fun r σ' ⟨sl, e, K⟩ => ⟨sl, e, fun e => (by cases e), K⟩
end
end Go.Proofs.YtaaebeiigkhcjaaGreatDoor
