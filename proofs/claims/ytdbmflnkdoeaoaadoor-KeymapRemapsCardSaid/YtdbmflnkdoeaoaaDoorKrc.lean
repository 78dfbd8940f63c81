/-
 Define on the heaps of KeymapRemaps. Conditions: the heap lies there as HeapAt says.
-/
import Derived.Test.YtdbmflnkdoeaoaaDoorKrb
namespace Go.Proofs.YtdbmflnkdoeaoaaDoor
set_option maxRecDepth 100000
section
variable {h T : Nat} {m : HM} {σ0 : Mem}
set_option maxHeartbeats 4000000 in
theorem at_wc (hlo : 0 < m.limit) (hG : G65 ≤ σ0.next) (ha : σ0.abs = heapAbs h m) (hT : TabF σ0.get T) : WC G65 Tryd.prog 30 #[pp h, pp T] σ0 fun v σ' => v = .tuple #[.agg #[.pointer (some ⟨h, 0, none⟩), .pointer (some ⟨T, 0, none⟩), .int .i64 1, .int .i64 66], .bool true] ∧ Lies G65 (heapAbs h m) σ0.get σ' [] := by
 have H := Lies.start hG ha
 generalize σ0.get = F at H hT ⊢
 refine WC.enter (fn := Tryd.f30) Tryd.func30 rfl ?_
 refine W.rg [(0, pp h), (1, pp T)] fun TA => ?_
 refine W.seq (W.region ?_)
 refine RW.mk H (.row ⟨[.pointer none, .pointer none, .int .i64 0, .int .i64 0], 65, false⟩) ?_
 clear H; intro _ b1 _ H
 refine RW.v ?_
 refine RW.nil ?_
 refine W.rg [(0, pp h), (1, pp T), (4, pp b1)] fun TA => ?_
 refine W.seq (W.region ?_)
 iterate 2 refine RW.v ?_
 refine RW.val (v := .agg #[.pointer (some ⟨h, 0, none⟩), .pointer (some ⟨T, 0, none⟩), .int .i64 0, .int .i64 0]) (by kernel_rfl) (by kernel_rfl) (by kernel_rfl) (by kernel_rfl) ?_
 refine RW.mk H (.row ⟨[.pointer none, .pointer none, .int .i64 0, .int .i64 0], 65, false⟩) ?_
 clear H; intro _ b2 _ H
 refine RW.st H 0 [pt h, pt T, .int .i64 0, .int .i64 0] [pt h, pt T, .int .i64 0, .int .i64 0] ?_
 clear H; intro _ _ H; dsimp only [setL, delL] at H
 refine RW.nil ?_
 refine W.rg [(0, pp h), (1, pp T), (4, pp b1), (6, pp b2)] fun TA => ?_
 refine W.seq (W.region ?_)
 refine RW.v ?_
 refine RW.val (v := .func (.func 45) #[.pointer (some ⟨T, 0, none⟩)] #[]) (by kernel_rfl) (by kernel_rfl) (by kernel_rfl) (by kernel_rfl) ?_
 refine RW.v ?_
 refine RW.nil ?_
 refine W.rg [(0, pp h), (1, pp T), (4, pp b1), (6, pp b2), (7, .func (.func 45) #[pp T] #[])] fun TA => ?_
 refine W.seq ?_
 refine W.seq (W.region ?_)
 refine RW.v ?_
 refine RW.cl ?_
 refine ((find66_wc H.gn H.abs (hT.le H.old)).mono ?_)
 rintro _ _ ⟨rfl, K⟩
 replace H := H.then K
 clear K
 dsimp only [List.nil_append, List.cons_append] at H
 iterate 5 refine RW.v ?_
 refine RW.nil ?_
 refine W.rg [(0, pp h), (1, pp T), (4, pp b1), (6, pp b2), (8, .int .i64 66), (9, .bool true)] fun TA => ?_
 refine W.seq (W.region ?_)
 refine RW.v ?_
 refine RW.nil ?_
 refine W.c1 ?_
 refine W.region ?_
 refine RW.v ?_
 refine RW.cl ?_
 refine WC.enter (fn := Tryd.f32) Tryd.func32 rfl ?_
 refine W.rg [(0, .int .i64 66)] fun TA => ?_
 refine W.seq (W.region ?_)
 refine RW.mk H (.row ⟨[.int .i64 0, .int .i64 0], 28, false⟩) ?_
 clear H; intro _ b3 _ H
 refine RW.nil ?_
 refine W.rg [(0, .int .i64 66), (2, pp b3)] fun TA => ?_
 refine W.seq (W.region ?_)
 refine RW.v ?_
 refine RW.val (v := .agg #[.int .i64 1, .int .i64 66]) (by kernel_rfl) (by kernel_rfl) (by kernel_rfl) (by kernel_rfl) ?_
 refine RW.st H 0 [.int .i64 1, .int .i64 66] [.int .i64 1, .int .i64 66] ?_
 clear H; intro _ _ H; dsimp only [setL, delL] at H
 refine RW.nil ?_
 refine W.ret ?_
 refine endG (by rfl) (by exact resL_cell rfl (H.get 0 rfl) (by rw [uT_eq]; exact Tryd.underlying28) (by kernel_rfl) rfl rfl rfl) ?_
 refine RW.v ?_
 refine RW.st H 1 [.int .i64 1, .int .i64 66] [pt h, pt T, .int .i64 1, .int .i64 66] ?_
 clear H; intro _ _ H; dsimp only [setL, delL] at H
 refine RW.nil ?_
 replace H := (H.del 0)
 dsimp only [setL, delL] at H
 refine W.rg [(0, pp h), (1, pp T), (4, pp b1), (6, pp b2)] fun TA => ?_
 refine W.seq ?_
 refine W.drawn (by kernel_rfl) (by kernel_rfl) H.gn ?_
 have H4 := H
 refine RW.ld H4 0 4 ?_
 refine RW.v ?_
 refine RW.cl ?_
 refine ⟨_, _, (s_limit (G := G65) H4.abs), ?_⟩
 refine RW.valE (v' := .bool true) (by kernel_rfl) (by kernel_rfl) rfl (congrArg Value.bool (decide_eq_true (by omega))) (by kernel_rfl) ?_
 refine RW.v ?_
 refine RW.val (by rfl) (by kernel_rfl) rfl (by kernel_rfl) ?_
 refine RW.cl (hw := by rfl) ?_
 refine ((many_wc H4.gn H4.abs (hT.le H4.old)).mono ?_)
 rintro _ _ ⟨rfl, K5⟩
 have H6 := H4.then K5
 dsimp only [List.nil_append, List.cons_append] at H6
 refine RW.val (by rfl) (by kernel_rfl) rfl (by kernel_rfl) ?_
 refine RW.v ?_
 refine RW.stD H6 1 (vs := [.pointer (some ⟨h, 0, none⟩), .pointer (some ⟨T, 0, none⟩), .int .i64 1, .int .i64 66]) (cs' := [.pointer (some ⟨h, 0, none⟩), .pointer (some ⟨T, 0, none⟩), .int .i64 1, .int .i64 66]) (by kernel_rfl) (by kernel_rfl) rfl rfl rfl rfl rfl (by kernel_rfl) (Nat.le_of_ble_eq_true rfl) rfl (by kernel_rfl) ?_
 intro _ H7
 dsimp only [setL, delL] at H7
 refine RW.v ?_
 refine RW.nil ?_
 refine ⟨⟨by kernel_rfl, ⟨dyn_row (H4.get 0 rfl) (H7.get 0 rfl) ⟨fun h => Bool.noConfusion h, fun h => Bool.noConfusion h, fun _ => H4.get 0 rfl, fun h => Bool.noConfusion h, fun h => Bool.noConfusion h, fun h => Bool.noConfusion h, fun _ => H4.get 0 rfl, fun h => Bool.noConfusion h, fun h => Bool.noConfusion h, fun _ => H6.get 0 rfl, fun h => Bool.noConfusion h, trivial⟩, trivial, trivial, trivial, trivial, trivial, trivial, trivial, trivial, trivial, trivial, trivial⟩⟩, ?_⟩
 replace H := H7
 clear H4 H6 H7
 replace H := (H.del 0)
 dsimp only [setL, delL] at H
 refine W.ret ?_
 refine endG (by rfl) (by exact resL_cell rfl (H.get 0 rfl) (by rw [uT_eq]; exact Tryd.underlying65) (by kernel_rfl) rfl rfl (by exact resL_tmp rfl)) ?_
 exact ⟨rfl, (H.del 0)⟩
theorem mp0 : MapC (hmP [(((1, 66) : Wd), ((1, 0) : Wd)), (((1, 66) : Wd), ((1, 0) : Wd))]) (2, 0) (fun j => ([] : List Wd).getD j (1, 0)) [] := ⟨rfl, rfl, fun j hj => by match j, hj with  | j + 0, hj => exact absurd hj (by simp), fun j hj => by match j, hj with  | j + 0, hj => exact absurd hj (by simp)⟩
theorem mp1 {a xn : Int} : MapC (hmP [(((1, 66) : Wd), ((2, 3) : Wd)), (((1, 66) : Wd), ((1, 0) : Wd)), (((0, a) : Wd), ((1, xn) : Wd)), (((2, 2) : Wd), ((1, 0) : Wd))]) (2, 1) (fun j => ([] : List Wd).getD j (1, 0)) [] := ⟨rfl, rfl, fun j hj => by match j, hj with  | j + 0, hj => exact absurd hj (by simp), fun j hj => by match j, hj with  | j + 0, hj => exact absurd hj (by simp)⟩
theorem mp2 {a xn : Int} : MapC (hmP [(((1, 66) : Wd), ((2, 3) : Wd)), (((1, 66) : Wd), ((2, 6) : Wd)), (((0, a) : Wd), ((1, xn) : Wd)), (((2, 2) : Wd), ((1, 0) : Wd)), (((1, 66) : Wd), ((1, 0) : Wd)), (((1, 65) : Wd), ((2, 4) : Wd)), (((2, 5) : Wd), ((1, 0) : Wd))]) (2, 4) (fun j => ([] : List Wd).getD j (1, 0)) [] := ⟨rfl, rfl, fun j hj => by match j, hj with  | j + 0, hj => exact absurd hj (by simp), fun j hj => by match j, hj with  | j + 0, hj => exact absurd hj (by simp)⟩
theorem mp3 {a xn yn : Int} : MapC (hmP [(((1, 66) : Wd), ((2, 3) : Wd)), (((1, 66) : Wd), ((2, 6) : Wd)), (((0, a) : Wd), ((1, xn) : Wd)), (((2, 2) : Wd), ((1, 0) : Wd)), (((1, 66) : Wd), ((2, 8) : Wd)), (((1, 65) : Wd), ((2, 4) : Wd)), (((2, 5) : Wd), ((1, 0) : Wd)), (((1, xn) : Wd), ((1, yn) : Wd)), (((2, 7) : Wd), ((1, 0) : Wd))]) (2, 1) (fun j => ([((2, 6) : Wd)] : List Wd).getD j (1, 0)) [(((1, 65) : Wd), ((2, 4) : Wd), 5)] := ⟨rfl, rfl, fun j hj => by match j, hj with | 0, _ => exact rfl | j + 1, hj => exact absurd hj (by simp), fun j hj => by match j, hj with | 0, _ => exact rfl | j + 1, hj => exact absurd hj (by simp)⟩
theorem mp4 {a xn yn : Int} : MapC (hmP [(((1, 66) : Wd), ((2, 3) : Wd)), (((1, 66) : Wd), ((2, 6) : Wd)), (((0, a) : Wd), ((1, xn) : Wd)), (((2, 2) : Wd), ((1, 0) : Wd)), (((1, 66) : Wd), ((2, 8) : Wd)), (((1, 65) : Wd), ((2, 4) : Wd)), (((2, 5) : Wd), ((1, 0) : Wd)), (((1, xn) : Wd), ((1, yn) : Wd)), (((2, 7) : Wd), ((1, 0) : Wd))]) (2, 4) (fun j => ([((2, 8) : Wd)] : List Wd).getD j (1, 0)) [(((1, xn) : Wd), ((1, yn) : Wd), 7)] := ⟨rfl, rfl, fun j hj => by match j, hj with | 0, _ => exact rfl | j + 1, hj => exact absurd hj (by simp), fun j hj => by match j, hj with | 0, _ => exact rfl | j + 1, hj => exact absurd hj (by simp)⟩
theorem mp5 {a xn yn zn : Int} : MapC (hmP [(((1, 66) : Wd), ((2, 3) : Wd)), (((1, 66) : Wd), ((2, 6) : Wd)), (((0, a) : Wd), ((1, xn) : Wd)), (((2, 2) : Wd), ((1, 0) : Wd)), (((1, 66) : Wd), ((2, 10) : Wd)), (((1, 65) : Wd), ((2, 4) : Wd)), (((2, 5) : Wd), ((1, 0) : Wd)), (((1, xn) : Wd), ((1, yn) : Wd)), (((2, 7) : Wd), ((1, 0) : Wd)), (((1, yn) : Wd), ((1, zn) : Wd)), (((2, 9) : Wd), ((2, 8) : Wd))]) (2, 0) (fun j => ([((2, 3) : Wd)] : List Wd).getD j (1, 0)) [(((0, a) : Wd), ((1, xn) : Wd), 2)] := ⟨rfl, rfl, fun j hj => by match j, hj with | 0, _ => exact rfl | j + 1, hj => exact absurd hj (by simp), fun j hj => by match j, hj with | 0, _ => exact rfl | j + 1, hj => exact absurd hj (by simp)⟩
theorem mp6 {a xn yn zn : Int} : MapC (hmP [(((1, 66) : Wd), ((2, 3) : Wd)), (((1, 66) : Wd), ((2, 6) : Wd)), (((0, a) : Wd), ((1, xn) : Wd)), (((2, 2) : Wd), ((1, 0) : Wd)), (((1, 66) : Wd), ((2, 10) : Wd)), (((1, 65) : Wd), ((2, 4) : Wd)), (((2, 5) : Wd), ((1, 0) : Wd)), (((1, xn) : Wd), ((1, yn) : Wd)), (((2, 7) : Wd), ((1, 0) : Wd)), (((1, yn) : Wd), ((1, zn) : Wd)), (((2, 9) : Wd), ((2, 8) : Wd))]) (2, 1) (fun j => ([((2, 6) : Wd)] : List Wd).getD j (1, 0)) [(((1, 65) : Wd), ((2, 4) : Wd), 5)] := ⟨rfl, rfl, fun j hj => by match j, hj with | 0, _ => exact rfl | j + 1, hj => exact absurd hj (by simp), fun j hj => by match j, hj with | 0, _ => exact rfl | j + 1, hj => exact absurd hj (by simp)⟩
theorem mp7 {a xn yn zn : Int} : MapC (hmP [(((1, 66) : Wd), ((2, 3) : Wd)), (((1, 66) : Wd), ((2, 6) : Wd)), (((0, a) : Wd), ((1, xn) : Wd)), (((2, 2) : Wd), ((1, 0) : Wd)), (((1, 66) : Wd), ((2, 10) : Wd)), (((1, 65) : Wd), ((2, 4) : Wd)), (((2, 5) : Wd), ((1, 0) : Wd)), (((1, xn) : Wd), ((1, yn) : Wd)), (((2, 7) : Wd), ((1, 0) : Wd)), (((1, yn) : Wd), ((1, zn) : Wd)), (((2, 9) : Wd), ((2, 8) : Wd))]) (2, 4) (fun j => ([((2, 10) : Wd), ((2, 8) : Wd)] : List Wd).getD j (1, 0)) [(((1, yn) : Wd), ((1, zn) : Wd), 9), (((1, xn) : Wd), ((1, yn) : Wd), 7)] := ⟨rfl, rfl, fun j hj => by match j, hj with | 0, _ => exact rfl | 1, _ => exact rfl | j + 2, hj => exact absurd hj (by simp), fun j hj => by match j, hj with | 0, _ => exact rfl | 1, _ => exact rfl | j + 2, hj => exact absurd hj (by simp)⟩
set_option maxHeartbeats 16000000 in
theorem def1_wc {a : Int} {xn : Int} (x0 : 62 ≤ xn) (x1 : xn ≤ 64) {eb : Nat} (hG : G65 ≤ σ0.next) (ha : σ0.abs = heapAbs h (hmP [(((1, 66) : Wd), ((1, 0) : Wd)), (((1, 66) : Wd), ((1, 0) : Wd))])) (hT : TabF σ0.get T) {thE : TypeId} {ghE : Bool} (hE : σ0.get eb = some (.row ⟨[.int .i64 0, .int .i64 a], thE, ghE⟩)) : WC G65 Tryd.prog 12 #[.pointer (some ⟨h, 0, none⟩), .pointer (some ⟨T, 0, none⟩), .agg #[.int .i64 2, .int .i64 0], .slice (some ⟨eb, 0, none⟩) 1 1, .agg #[.int .i64 1, .int .i64 xn]] σ0 fun v σ' => v = .int .i64 0 ∧ Lies G65 (heapAbs h (hmP [(((1, 66) : Wd), ((2, 3) : Wd)), (((1, 66) : Wd), ((1, 0) : Wd)), (((0, a) : Wd), ((1, xn) : Wd)), (((2, 2) : Wd), ((1, 0) : Wd))])) σ0.get σ' [] := by
 have H := Lies.start hG ha
 generalize σ0.get = F at H hT hE ⊢
 refine WC.enter (fn := Tryd.f12) Tryd.func12 rfl ?_
 refine W.rg [(0, pp h), (1, pp T), (2, .agg #[.int .i64 2, .int .i64 0]), (3, .slice (some ⟨eb, 0, none⟩) 1 1), (4, .agg #[.int .i64 1, .int .i64 xn])] fun TA => ?_
 refine W.seq (W.region ?_)
 refine RW.mk H (.row ⟨[.int .i64 2, .int .i64 0], 28, false⟩) ?_
 clear H; intro _ b1 _ H
 refine RW.mk H (.row ⟨[.int .i64 1, .int .i64 xn], 28, false⟩) ?_
 clear H; intro _ b2 _ H
 refine RW.v ?_
 refine RW.nil ?_
 refine W.rg [(0, pp h), (1, pp T), (3, .slice (some ⟨eb, 0, none⟩) 1 1), (7, pp b1), (9, pp b2)] fun TA => ?_
 refine W.seq (W.region ?_)
 iterate 2 refine RW.v ?_
 refine RW.cl ?_
 refine ((at_wc (Nat.le_of_ble_eq_true rfl) H.gn H.abs (hT.le H.old)).mono ?_)
 rintro _ _ ⟨rfl, K⟩
 replace H := H.then K
 clear K
 dsimp only [List.nil_append, List.cons_append] at H
 iterate 3 refine RW.v ?_
 refine RW.mk H (.row ⟨[.pointer none, .pointer none, .int .i64 0, .int .i64 0], 65, false⟩) ?_
 clear H; intro _ b3 _ H
 refine RW.st H 0 [pt h, pt T, .int .i64 1, .int .i64 66] [pt h, pt T, .int .i64 1, .int .i64 66] ?_
 clear H; intro _ _ H; dsimp only [setL, delL] at H
 refine RW.v ?_
 refine RW.nil ?_
 refine W.rg [(0, pp h), (3, .slice (some ⟨eb, 0, none⟩) 1 1), (7, pp b1), (9, pp b2), (11, pp b3), (12, .bool true)] fun TA => ?_
 refine W.seq ?_
 refine W.block ?_
 refine W.seq (W.region ?_)
 iterate 3 refine RW.v ?_
 refine RW.nil ?_
 refine W.c0 ?_
 refine W.seq (W.region ?_)
 refine RW.ld H 0 4 ?_
 refine RW.ld H 2 2 ?_
 refine RW.cl ?_
 refine ((isMap_y (h := h) (T := T) (w := (2, 0)) (d := ((1, 0) : Wd)) rfl H).mono ?_)
 clear H
 rintro _ _ ⟨rfl, H⟩
 iterate 2 refine RW.v ?_
 refine RW.nil ?_
 refine W.c0 ?_
 refine W.seq (W.region ?_)
 refine RW.v ?_
 refine RW.cl ?_
 refine WC.enter (fn := Tryd.f36) Tryd.func36 rfl ?_
 refine W.rg [(0, .slice (some ⟨eb, 0, none⟩) 1 1)] fun TA => ?_
 refine W.seq (W.region ?_)
 refine RW.v ?_
 refine RW.nil ?_
 refine W.rg [(0, .slice (some ⟨eb, 0, none⟩) 1 1)] fun TA => ?_
 refine W.seq ?_
 refine W.seq (W.region ?_)
 iterate 3 refine RW.v ?_
 refine RW.nil ?_
 refine W.rg [(0, .slice (some ⟨eb, 0, none⟩) 1 1), (5, .slice (some ⟨eb, 0, none⟩) 1 1), (6, .int .i64 1), (7, .int .i64 0)] fun TA => ?_
 refine W.block ?_
 refine W.unroll (WL.once ?_)
 refine W.seq (W.region ?_)
 refine RW.v ?_
 refine RW.nil ?_
 refine W.rg [(0, .slice (some ⟨eb, 0, none⟩) 1 1), (5, .slice (some ⟨eb, 0, none⟩) 1 1), (6, .int .i64 1), (7, .int .i64 0), (8, .bool true)] fun TA => ?_
 refine W.seq ?_
 refine W.c1 ?_
 refine W.skip ?_
 refine W.seq ?_
 refine W.block ?_
 refine W.seq (W.region ?_)
 refine RW.idx (s := 2) (by kernel_rfl) (by kernel_rfl) rfl Tryd.underlying35 (by kernel_rfl) rfl rfl ⟨by decide, by decide⟩ (by kernel_rfl) ?_
 refine RW.loads 2 (by kernel_rfl) (by kernel_rfl) rfl rfl (H.old _ _ hE) rfl rfl (by kernel_rfl) ?_
 refine RW.mk H (.row ⟨[.int .i64 0, .int .i64 0], 28, false⟩) ?_
 clear H; intro _ b4 _ H
 refine RW.st H 0 [.int .i64 0, .int .i64 a] [.int .i64 0, .int .i64 a] ?_
 clear H; intro _ _ H; dsimp only [setL, delL] at H
 refine RW.nil ?_
 refine W.rg [(0, .slice (some ⟨eb, 0, none⟩) 1 1), (4, pp b4), (5, .slice (some ⟨eb, 0, none⟩) 1 1), (6, .int .i64 1), (7, .int .i64 0)] fun TA => ?_
 refine W.seq (W.region ?_)
 refine RW.v ?_
 refine RW.ld H 0 1 ?_
 iterate 2 refine RW.v ?_
 refine RW.skip (by rfl) (by kernel_rfl) ?_
 refine RW.skip (by rfl) (by kernel_rfl) ?_
 refine RW.skip (by rfl) (by kernel_rfl) ?_
 refine RW.v ?_
 refine RW.nil ?_
 replace H := (H.del 0)
 dsimp only [setL, delL] at H
 refine W.c0 ?_
 refine W.skip ?_
 refine blkQ_normal ?_
 refine W.region ?_
 iterate 2 refine RW.v ?_
 refine RW.nil ?_
 refine WL.once ?_
 refine W.rg [(0, .slice (some ⟨eb, 0, none⟩) 1 1), (5, .slice (some ⟨eb, 0, none⟩) 1 1), (6, .int .i64 1), (7, .int .i64 1)] fun TA => ?_
 refine W.seq (W.region ?_)
 refine RW.v ?_
 refine RW.nil ?_
 refine W.rg [(0, .slice (some ⟨eb, 0, none⟩) 1 1), (5, .slice (some ⟨eb, 0, none⟩) 1 1), (6, .int .i64 1), (7, .int .i64 1), (8, .bool false)] fun TA => ?_
 refine W.seq ?_
 refine W.c0 ?_
 refine W.exit _ ?_
 refine seqQ_exit ?_
 refine onceQ_exit ?_
 refine blkQ_here ?_
 refine W.seq (W.region ?_)
 iterate 4 refine RW.v ?_
 refine RW.val (by rfl) (by kernel_rfl) rfl (by kernel_rfl) ?_
 refine RW.val (by rfl) (by kernel_rfl) rfl (by kernel_rfl) ?_
 refine RW.val (by rfl) (by kernel_rfl) rfl (by kernel_rfl) ?_
 iterate 2 refine RW.v ?_
 refine RW.nil ?_
 refine W.ret ?_
 refine endG (by rfl) (by exact resL_tmp rfl) ?_
 iterate 2 refine RW.v ?_
 refine RW.nil ?_
 refine W.c0 ?_
 refine W.skip ?_
 refine blkQ_normal ?_
 refine W.seq (W.region ?_)
 iterate 4 refine RW.v ?_
 refine RW.nil ?_
 refine W.rg [(0, pp h), (3, .slice (some ⟨eb, 0, none⟩) 1 1), (7, pp b1), (9, pp b2), (11, pp b3), (13, .int .i64 0)] fun TA => ?_
 refine W.seq ?_
 refine W.seq (W.region ?_)
 iterate 2 refine RW.v ?_
 refine RW.val (v := .slice (some ⟨eb, 0, none⟩) 0 1) (by kernel_rfl) (by kernel_rfl) (by kernel_rfl) (by kernel_rfl) ?_
 iterate 2 refine RW.v ?_
 refine RW.nil ?_
 refine W.rg [(0, pp h), (3, .slice (some ⟨eb, 0, none⟩) 1 1), (7, pp b1), (9, pp b2), (11, pp b3), (13, .int .i64 0), (43, .slice (some ⟨eb, 0, none⟩) 0 1), (44, .int .i64 0), (45, .int .i64 0)] fun TA => ?_
 refine W.block ?_
 refine W.unroll (WL.once ?_)
 refine W.seq (W.region ?_)
 refine RW.v ?_
 refine RW.nil ?_
 refine W.rg [(0, pp h), (3, .slice (some ⟨eb, 0, none⟩) 1 1), (7, pp b1), (9, pp b2), (11, pp b3), (13, .int .i64 0), (43, .slice (some ⟨eb, 0, none⟩) 0 1), (44, .int .i64 0), (45, .int .i64 0), (46, .bool false)] fun TA => ?_
 refine W.seq ?_
 refine W.c0 ?_
 refine W.exit _ ?_
 refine seqQ_exit ?_
 refine onceQ_exit ?_
 refine blkQ_here ?_
 refine W.seq ?_
 refine W.seq ?_
 refine W.drawn (by kernel_rfl) (by kernel_rfl) H.gn ?_
 have H5 := H
 refine RW.ld H5 0 4 ?_
 refine RW.ld H5 2 2 ?_
 iterate 2 refine RW.v ?_
 refine RW.idx (s := 2) (by kernel_rfl) (by kernel_rfl) rfl Tryd.underlying35 (by kernel_rfl) rfl rfl ⟨by decide, by decide⟩ (by kernel_rfl) ?_
 refine RW.loads 2 (by kernel_rfl) (by kernel_rfl) rfl rfl (H5.old _ _ hE) rfl rfl (by kernel_rfl) ?_
 refine RW.cl ?_
 refine ((ownA_wc (h := h) (T := T) (ev := ((0, a) : Wd)) mp0 (Nat.le_of_ble_eq_true rfl) H5.gn H5.abs).mono ?_)
 rintro _ _ ⟨e, K6⟩
 have H7 := H5.then K6
 dsimp only [List.nil_append, List.cons_append] at H7
 replace e := e.trans (show _ = .tuple #[.agg #[.int .i64 0, .int .i64 0, .int .i64 0, .int .i64 0, .int .i64 0, .int .i64 0], .bool false] from ownV_nil)
 subst e
 iterate 3 refine RW.v ?_
 refine RW.mkD H7 (x := .row ⟨[.int .i64 0, .int .i64 0, .int .i64 0, .int .i64 0, .int .i64 0, .int .i64 0], 73, false⟩) (fm := fun b => .pointer (some ⟨b, 0, none⟩)) (by kernel_rfl) (by kernel_rfl) (by kernel_rfl) (by kernel_rfl) ?_
 intro _ b8 H9
 refine RW.stD H9 0 (vs := [.int .i64 0, .int .i64 0, .int .i64 0, .int .i64 0, .int .i64 0, .int .i64 0]) (cs' := [.int .i64 0, .int .i64 0, .int .i64 0, .int .i64 0, .int .i64 0, .int .i64 0]) (by kernel_rfl) (by kernel_rfl) rfl rfl rfl rfl rfl (by kernel_rfl) (Nat.le_of_ble_eq_true rfl) rfl (by kernel_rfl) ?_
 intro _ H10
 dsimp only [setL, delL] at H10
 refine RW.v ?_
 refine RW.nil ?_
 refine ⟨⟨by kernel_rfl, ⟨dyn_row (H5.get 0 rfl) (H10.get 1 rfl) ⟨fun h => Bool.noConfusion h, fun h => Bool.noConfusion h, fun h => Bool.noConfusion h, fun h => Bool.noConfusion h, fun h => Bool.noConfusion h, fun h => Bool.noConfusion h, fun _ => H5.get 0 rfl, fun h => Bool.noConfusion h, fun h => Bool.noConfusion h, fun h => Bool.noConfusion h, fun h => Bool.noConfusion h, fun _ => H9.get 1 rfl, fun h => Bool.noConfusion h, trivial⟩, dyn_row (H5.get 2 rfl) (H10.get 3 rfl) ⟨fun h => Bool.noConfusion h, fun h => Bool.noConfusion h, fun h => Bool.noConfusion h, fun h => Bool.noConfusion h, fun h => Bool.noConfusion h, fun h => Bool.noConfusion h, fun _ => H5.get 2 rfl, fun h => Bool.noConfusion h, fun h => Bool.noConfusion h, fun h => Bool.noConfusion h, fun h => Bool.noConfusion h, fun _ => H9.get 3 rfl, fun h => Bool.noConfusion h, trivial⟩, trivial, trivial, trivial, dyn_row (H5.old _ _ hE) (H10.old _ _ hE) ⟨fun h => Bool.noConfusion h, fun h => Bool.noConfusion h, fun h => Bool.noConfusion h, fun h => Bool.noConfusion h, fun h => Bool.noConfusion h, fun h => Bool.noConfusion h, fun _ => H5.old _ _ hE, fun h => Bool.noConfusion h, fun h => Bool.noConfusion h, fun h => Bool.noConfusion h, fun h => Bool.noConfusion h, fun _ => H9.old _ _ hE, fun h => Bool.noConfusion h, trivial⟩, trivial, trivial, trivial, trivial, Or.inl (by kernel_rfl), trivial, trivial, trivial⟩⟩, ?_⟩
 replace H := H10
 clear H5 H7 H9 H10
 refine W.rg [(0, pp h), (3, .slice (some ⟨eb, 0, none⟩) 1 1), (7, pp b1), (9, pp b2), (11, pp b3), (13, .int .i64 0), (18, pp b8), (19, .bool false)] fun TA => ?_
 refine W.seq (W.region ?_)
 refine RW.v ?_
 refine RW.nil ?_
 refine W.c0 ?_
 refine W.skip ?_
 refine W.seq ?_
 refine W.drawn (by kernel_rfl) (by kernel_rfl) H.gn ?_
 have H11 := H
 refine RW.ld H11 1 4 ?_
 refine RW.ld H11 3 2 ?_
 iterate 2 refine RW.v ?_
 refine RW.idx (s := 2) (by kernel_rfl) (by kernel_rfl) rfl Tryd.underlying35 (by kernel_rfl) rfl rfl ⟨by decide, by decide⟩ (by kernel_rfl) ?_
 refine RW.loads 2 (by kernel_rfl) (by kernel_rfl) rfl rfl (H11.old _ _ hE) rfl rfl (by kernel_rfl) ?_
 refine RW.ld H11 2 2 ?_
 refine RW.cl ?_
 refine WC.enter (fn := Tryd.f41) Tryd.func41 rfl ?_
 replace H := H11
 refine W.rg [(0, .agg #[pp h, pp T, .int .i64 1, .int .i64 66]), (1, .agg #[.int .i64 2, .int .i64 0]), (2, .agg #[.int .i64 0, .int .i64 a]), (3, .agg #[.int .i64 1, .int .i64 xn])] fun TA => ?_
 refine W.seq (W.region ?_)
 refine RW.mk H (.row ⟨[pt h, pt T, .int .i64 1, .int .i64 66], 65, false⟩) ?_
 clear H; intro _ b12 _ H
 refine RW.mk H (.row ⟨[.int .i64 2, .int .i64 0], 28, false⟩) ?_
 clear H; intro _ b13 _ H
 refine RW.mk H (.row ⟨[.int .i64 0, .int .i64 a], 28, false⟩) ?_
 clear H; intro _ b14 _ H
 refine RW.mk H (.row ⟨[.int .i64 1, .int .i64 xn], 28, false⟩) ?_
 clear H; intro _ b15 _ H
 refine RW.v ?_
 refine RW.nil ?_
 refine W.rg [(4, pp b12), (5, pp b13), (6, pp b14), (7, pp b15)] fun TA => ?_
 refine W.seq (W.region ?_)
 refine RW.v ?_
 refine RW.ld H 3 1 ?_
 refine RW.ld H 1 2 ?_
 refine RW.ld H 0 2 ?_
 refine RW.cl ?_
 refine ((consP (h := h) (k := 2) ((0, a) : Wd) ((1, xn) : Wd) H (Nat.le_of_ble_eq_true rfl) rfl).mono ?_)
 clear H
 rintro _ _ ⟨rfl, H⟩
 replace H : Lies G65 (heapAbs h (hmP [(((1, 66) : Wd), ((1, 0) : Wd)), (((1, 66) : Wd), ((1, 0) : Wd)), (((0, a) : Wd), ((1, xn) : Wd))])) F _ [.at_ b15 (.row ⟨[.int .i64 1, .int .i64 xn], 28, false⟩), .at_ b14 (.row ⟨[.int .i64 0, .int .i64 a], 28, false⟩), .at_ b13 (.row ⟨[.int .i64 2, .int .i64 0], 28, false⟩), .at_ b12 (.row ⟨[.pointer (some ⟨h, 0, none⟩), .pointer (some ⟨T, 0, none⟩), .int .i64 1, .int .i64 66], 65, false⟩), .at_ b8 (.row ⟨[.int .i64 0, .int .i64 0, .int .i64 0, .int .i64 0, .int .i64 0, .int .i64 0], 73, false⟩), .at_ b3 (.row ⟨[.pointer (some ⟨h, 0, none⟩), .pointer (some ⟨T, 0, none⟩), .int .i64 1, .int .i64 66], 65, false⟩), .at_ b2 (.row ⟨[.int .i64 1, .int .i64 xn], 28, false⟩), .at_ b1 (.row ⟨[.int .i64 2, .int .i64 0], 28, false⟩)] := H
 iterate 3 refine RW.v ?_
 refine RW.mk H (.row ⟨[.int .i64 0, .int .i64 0], 28, false⟩) ?_
 clear H; intro _ b16 _ H
 refine RW.st H 0 [.int .i64 2, .int .i64 2] [.int .i64 2, .int .i64 2] ?_
 clear H; intro _ _ H; dsimp only [setL, delL] at H
 refine RW.v ?_
 refine RW.nil ?_
 replace H := ((H.del 2).del 1)
 dsimp only [setL, delL] at H
 refine W.rg [(4, pp b12), (5, pp b13), (9, pp b16), (10, .int .i64 0)] fun TA => ?_
 refine W.seq ?_
 refine W.seq (W.region ?_)
 iterate 2 refine RW.v ?_
 refine RW.nil ?_
 refine W.c0 ?_
 refine W.skip ?_
 refine W.seq (W.region ?_)
 refine RW.ld H 2 4 ?_
 refine RW.ld H 1 2 ?_
 refine RW.cl ?_
 refine ((cons_y (h := h) (T := T) (w := (2, 0)) (a := ((1, 66) : Wd)) (d := ((1, 0) : Wd)) rfl H).mono ?_)
 clear H
 rintro _ _ ⟨rfl, H⟩
 iterate 4 refine RW.v ?_
 refine RW.mk H (.row ⟨[.int .i64 0, .int .i64 0], 28, false⟩) ?_
 clear H; intro _ b17 _ H
 refine RW.mk H (.row ⟨[.int .i64 0, .int .i64 0], 28, false⟩) ?_
 clear H; intro _ b18 _ H
 refine RW.st H 1 [.int .i64 1, .int .i64 66] [.int .i64 1, .int .i64 66] ?_
 clear H; intro _ _ H; dsimp only [setL, delL] at H
 refine RW.st H 0 [.int .i64 1, .int .i64 0] [.int .i64 1, .int .i64 0] ?_
 clear H; intro _ _ H; dsimp only [setL, delL] at H
 refine RW.v ?_
 refine RW.nil ?_
 replace H := (H.del 1)
 dsimp only [setL, delL] at H
 refine W.rg [(4, pp b12), (5, pp b13), (9, pp b16), (12, pp b18)] fun TA => ?_
 refine W.seq (W.region ?_)
 refine RW.v ?_
 refine RW.ld H 3 1 ?_
 refine RW.ld H 1 2 ?_
 refine RW.ld H 0 2 ?_
 refine RW.cl ?_
 refine ((consP (h := h) (k := 3) ((2, 2) : Wd) ((1, 0) : Wd) H (Nat.le_of_ble_eq_true rfl) rfl).mono ?_)
 clear H
 rintro _ _ ⟨rfl, H⟩
 replace H : Lies G65 (heapAbs h (hmP [(((1, 66) : Wd), ((1, 0) : Wd)), (((1, 66) : Wd), ((1, 0) : Wd)), (((0, a) : Wd), ((1, xn) : Wd)), (((2, 2) : Wd), ((1, 0) : Wd))])) F _ [.at_ b18 (.row ⟨[.int .i64 1, .int .i64 0], 28, false⟩), .at_ b16 (.row ⟨[.int .i64 2, .int .i64 2], 28, false⟩), .at_ b13 (.row ⟨[.int .i64 2, .int .i64 0], 28, false⟩), .at_ b12 (.row ⟨[.pointer (some ⟨h, 0, none⟩), .pointer (some ⟨T, 0, none⟩), .int .i64 1, .int .i64 66], 65, false⟩), .at_ b8 (.row ⟨[.int .i64 0, .int .i64 0, .int .i64 0, .int .i64 0, .int .i64 0, .int .i64 0], 73, false⟩), .at_ b3 (.row ⟨[.pointer (some ⟨h, 0, none⟩), .pointer (some ⟨T, 0, none⟩), .int .i64 1, .int .i64 66], 65, false⟩), .at_ b2 (.row ⟨[.int .i64 1, .int .i64 xn], 28, false⟩), .at_ b1 (.row ⟨[.int .i64 2, .int .i64 0], 28, false⟩)] := H
 iterate 3 refine RW.v ?_
 refine RW.mk H (.row ⟨[.int .i64 0, .int .i64 0], 28, false⟩) ?_
 clear H; intro _ b19 _ H
 refine RW.st H 0 [.int .i64 2, .int .i64 3] [.int .i64 2, .int .i64 3] ?_
 clear H; intro _ _ H; dsimp only [setL, delL] at H
 refine RW.v ?_
 refine RW.nil ?_
 replace H := ((H.del 2).del 1)
 dsimp only [setL, delL] at H
 refine W.rg [(4, pp b12), (5, pp b13), (10, .int .i64 0), (14, pp b19)] fun TA => ?_
 refine W.seq ?_
 refine W.seq (W.region ?_)
 iterate 2 refine RW.v ?_
 refine RW.nil ?_
 refine W.c0 ?_
 refine W.skip ?_
 refine W.seq (W.region ?_)
 refine RW.v ?_
 refine RW.ld H 2 1 ?_
 refine RW.ld H 1 2 ?_
 refine RW.ld H 0 2 ?_
 refine RW.cl ?_
 refine ((setCdrP (h := h) (l' := [(((1, 66) : Wd), ((2, 3) : Wd)), (((1, 66) : Wd), ((1, 0) : Wd)), (((0, a) : Wd), ((1, xn) : Wd)), (((2, 2) : Wd), ((1, 0) : Wd))]) (2, 0) ((2, 3) : Wd) rfl H).mono ?_)
 clear H
 rintro _ _ ⟨rfl, H⟩
 refine RW.v ?_
 refine RW.nil ?_
 replace H := (((H.del 2).del 1).del 0)
 dsimp only [setL, delL] at H
 refine W.ret ?_
 refine endG (by rfl) (by exact resL_tmp rfl) ?_
 have H20 := H
 refine RW.v ?_
 refine RW.nil ?_
 refine ⟨⟨by kernel_rfl, ⟨dyn_row (H11.get 1 rfl) (H20.get 1 rfl) ⟨fun h => Bool.noConfusion h, fun h => Bool.noConfusion h, fun h => Bool.noConfusion h, fun h => Bool.noConfusion h, fun h => Bool.noConfusion h, fun h => Bool.noConfusion h, fun h => Bool.noConfusion h, fun _ => H11.get 1 rfl, fun h => Bool.noConfusion h, trivial⟩, dyn_row (H11.get 3 rfl) (H20.get 3 rfl) ⟨fun h => Bool.noConfusion h, fun h => Bool.noConfusion h, fun h => Bool.noConfusion h, fun h => Bool.noConfusion h, fun h => Bool.noConfusion h, fun h => Bool.noConfusion h, fun h => Bool.noConfusion h, fun _ => H11.get 3 rfl, fun h => Bool.noConfusion h, trivial⟩, trivial, trivial, trivial, dyn_row (H11.old _ _ hE) (H20.old _ _ hE) ⟨fun h => Bool.noConfusion h, fun h => Bool.noConfusion h, fun h => Bool.noConfusion h, fun h => Bool.noConfusion h, fun h => Bool.noConfusion h, fun h => Bool.noConfusion h, fun h => Bool.noConfusion h, fun _ => H11.old _ _ hE, fun h => Bool.noConfusion h, trivial⟩, dyn_row (H11.get 2 rfl) (H20.get 2 rfl) ⟨fun h => Bool.noConfusion h, fun h => Bool.noConfusion h, fun h => Bool.noConfusion h, fun h => Bool.noConfusion h, fun h => Bool.noConfusion h, fun h => Bool.noConfusion h, fun h => Bool.noConfusion h, fun _ => H11.get 2 rfl, fun h => Bool.noConfusion h, trivial⟩, trivial, trivial, trivial⟩⟩, ?_⟩
 replace H := H20
 clear H11 H20
 replace H := ((((H.del 3).del 2).del 1).del 0)
 dsimp only [setL, delL] at H
 refine W.ret ?_
 refine endG (by rfl) (by exact resL_tmp rfl) ?_
 exact ⟨rfl, H⟩
set_option maxHeartbeats 16000000 in
theorem def2_wc {a : Int} {xn : Int} (x0 : 62 ≤ xn) (x1 : xn ≤ 64) {yn : Int} (y0 : 2 ≤ yn) (y1 : yn ≤ 61) {eb : Nat} (hG : G65 ≤ σ0.next) (ha : σ0.abs = heapAbs h (hmP [(((1, 66) : Wd), ((2, 3) : Wd)), (((1, 66) : Wd), ((1, 0) : Wd)), (((0, a) : Wd), ((1, xn) : Wd)), (((2, 2) : Wd), ((1, 0) : Wd))])) (hT : TabF σ0.get T) {thE : TypeId} {ghE : Bool} (hE : σ0.get eb = some (.row ⟨[.int .i64 1, .int .i64 65, .int .i64 1, .int .i64 xn], thE, ghE⟩)) : WC G65 Tryd.prog 12 #[.pointer (some ⟨h, 0, none⟩), .pointer (some ⟨T, 0, none⟩), .agg #[.int .i64 2, .int .i64 1], .slice (some ⟨eb, 0, none⟩) 2 2, .agg #[.int .i64 1, .int .i64 yn]] σ0 fun v σ' => v = .int .i64 0 ∧ Lies G65 (heapAbs h (hmP [(((1, 66) : Wd), ((2, 3) : Wd)), (((1, 66) : Wd), ((2, 6) : Wd)), (((0, a) : Wd), ((1, xn) : Wd)), (((2, 2) : Wd), ((1, 0) : Wd)), (((1, 66) : Wd), ((2, 8) : Wd)), (((1, 65) : Wd), ((2, 4) : Wd)), (((2, 5) : Wd), ((1, 0) : Wd)), (((1, xn) : Wd), ((1, yn) : Wd)), (((2, 7) : Wd), ((1, 0) : Wd))])) σ0.get σ' [] := by
 have H := Lies.start hG ha
 generalize σ0.get = F at H hT hE ⊢
 refine WC.enter (fn := Tryd.f12) Tryd.func12 rfl ?_
 refine W.rg [(0, pp h), (1, pp T), (2, .agg #[.int .i64 2, .int .i64 1]), (3, .slice (some ⟨eb, 0, none⟩) 2 2), (4, .agg #[.int .i64 1, .int .i64 yn])] fun TA => ?_
 refine W.seq (W.region ?_)
 refine RW.mk H (.row ⟨[.int .i64 2, .int .i64 1], 28, false⟩) ?_
 clear H; intro _ b1 _ H
 refine RW.mk H (.row ⟨[.int .i64 1, .int .i64 yn], 28, false⟩) ?_
 clear H; intro _ b2 _ H
 refine RW.v ?_
 refine RW.nil ?_
 refine W.rg [(0, pp h), (1, pp T), (3, .slice (some ⟨eb, 0, none⟩) 2 2), (7, pp b1), (9, pp b2)] fun TA => ?_
 refine W.seq (W.region ?_)
 iterate 2 refine RW.v ?_
 refine RW.cl ?_
 refine ((at_wc (Nat.le_of_ble_eq_true rfl) H.gn H.abs (hT.le H.old)).mono ?_)
 rintro _ _ ⟨rfl, K⟩
 replace H := H.then K
 clear K
 dsimp only [List.nil_append, List.cons_append] at H
 iterate 3 refine RW.v ?_
 refine RW.mk H (.row ⟨[.pointer none, .pointer none, .int .i64 0, .int .i64 0], 65, false⟩) ?_
 clear H; intro _ b3 _ H
 refine RW.st H 0 [pt h, pt T, .int .i64 1, .int .i64 66] [pt h, pt T, .int .i64 1, .int .i64 66] ?_
 clear H; intro _ _ H; dsimp only [setL, delL] at H
 refine RW.v ?_
 refine RW.nil ?_
 refine W.rg [(0, pp h), (3, .slice (some ⟨eb, 0, none⟩) 2 2), (7, pp b1), (9, pp b2), (11, pp b3), (12, .bool true)] fun TA => ?_
 refine W.seq ?_
 refine W.block ?_
 refine W.seq (W.region ?_)
 iterate 3 refine RW.v ?_
 refine RW.nil ?_
 refine W.c0 ?_
 refine W.seq (W.region ?_)
 refine RW.ld H 0 4 ?_
 refine RW.ld H 2 2 ?_
 refine RW.cl ?_
 refine ((isMap_y (h := h) (T := T) (w := (2, 1)) (d := ((1, 0) : Wd)) rfl H).mono ?_)
 clear H
 rintro _ _ ⟨rfl, H⟩
 iterate 2 refine RW.v ?_
 refine RW.nil ?_
 refine W.c0 ?_
 refine W.seq (W.region ?_)
 refine RW.v ?_
 refine RW.cl ?_
 refine WC.enter (fn := Tryd.f36) Tryd.func36 rfl ?_
 refine W.rg [(0, .slice (some ⟨eb, 0, none⟩) 2 2)] fun TA => ?_
 refine W.seq (W.region ?_)
 refine RW.v ?_
 refine RW.nil ?_
 refine W.rg [(0, .slice (some ⟨eb, 0, none⟩) 2 2)] fun TA => ?_
 refine W.seq ?_
 refine W.seq (W.region ?_)
 iterate 3 refine RW.v ?_
 refine RW.nil ?_
 refine W.rg [(0, .slice (some ⟨eb, 0, none⟩) 2 2), (5, .slice (some ⟨eb, 0, none⟩) 2 2), (6, .int .i64 2), (7, .int .i64 0)] fun TA => ?_
 refine W.block ?_
 refine W.unroll (WL.once ?_)
 refine W.seq (W.region ?_)
 refine RW.v ?_
 refine RW.nil ?_
 refine W.rg [(0, .slice (some ⟨eb, 0, none⟩) 2 2), (5, .slice (some ⟨eb, 0, none⟩) 2 2), (6, .int .i64 2), (7, .int .i64 0), (8, .bool true)] fun TA => ?_
 refine W.seq ?_
 refine W.c1 ?_
 refine W.skip ?_
 refine W.seq ?_
 refine W.block ?_
 refine W.seq (W.region ?_)
 refine RW.idx (s := 2) (by kernel_rfl) (by kernel_rfl) rfl Tryd.underlying35 (by kernel_rfl) rfl rfl ⟨by decide, by decide⟩ (by kernel_rfl) ?_
 refine RW.loads 2 (by kernel_rfl) (by kernel_rfl) rfl rfl (H.old _ _ hE) rfl rfl (by kernel_rfl) ?_
 refine RW.mk H (.row ⟨[.int .i64 0, .int .i64 0], 28, false⟩) ?_
 clear H; intro _ b4 _ H
 refine RW.st H 0 [.int .i64 1, .int .i64 65] [.int .i64 1, .int .i64 65] ?_
 clear H; intro _ _ H; dsimp only [setL, delL] at H
 refine RW.nil ?_
 refine W.rg [(0, .slice (some ⟨eb, 0, none⟩) 2 2), (4, pp b4), (5, .slice (some ⟨eb, 0, none⟩) 2 2), (6, .int .i64 2), (7, .int .i64 0)] fun TA => ?_
 refine W.seq (W.region ?_)
 refine RW.v ?_
 refine RW.ld H 0 1 ?_
 iterate 2 refine RW.v ?_
 refine RW.val (by rfl) (by kernel_rfl) rfl (by kernel_rfl) ?_
 refine RW.ldL H 0 1 (by rfl) (by kernel_rfl) rfl rfl rfl rfl rfl (by kernel_rfl) ?_
 refine RW.val (by rfl) (by kernel_rfl) rfl (by kernel_rfl) ?_
 refine RW.v ?_
 refine RW.nil ?_
 replace H := (H.del 0)
 dsimp only [setL, delL] at H
 refine W.c0 ?_
 refine W.skip ?_
 refine blkQ_normal ?_
 refine W.region ?_
 iterate 2 refine RW.v ?_
 refine RW.nil ?_
 refine WL.once ?_
 refine W.rg [(0, .slice (some ⟨eb, 0, none⟩) 2 2), (5, .slice (some ⟨eb, 0, none⟩) 2 2), (6, .int .i64 2), (7, .int .i64 1)] fun TA => ?_
 refine W.seq (W.region ?_)
 refine RW.v ?_
 refine RW.nil ?_
 refine W.rg [(0, .slice (some ⟨eb, 0, none⟩) 2 2), (5, .slice (some ⟨eb, 0, none⟩) 2 2), (6, .int .i64 2), (7, .int .i64 1), (8, .bool true)] fun TA => ?_
 refine W.seq ?_
 refine W.c1 ?_
 refine W.skip ?_
 refine W.seq ?_
 refine W.block ?_
 refine W.seq (W.region ?_)
 refine RW.idx (s := 2) (by kernel_rfl) (by kernel_rfl) rfl Tryd.underlying35 (by kernel_rfl) rfl rfl ⟨by decide, by decide⟩ (by kernel_rfl) ?_
 refine RW.loads 2 (by kernel_rfl) (by kernel_rfl) rfl rfl (H.old _ _ hE) rfl rfl (by kernel_rfl) ?_
 refine RW.mk H (.row ⟨[.int .i64 0, .int .i64 0], 28, false⟩) ?_
 clear H; intro _ b5 _ H
 refine RW.st H 0 [.int .i64 1, .int .i64 xn] [.int .i64 1, .int .i64 xn] ?_
 clear H; intro _ _ H; dsimp only [setL, delL] at H
 refine RW.nil ?_
 refine W.rg [(0, .slice (some ⟨eb, 0, none⟩) 2 2), (4, pp b5), (5, .slice (some ⟨eb, 0, none⟩) 2 2), (6, .int .i64 2), (7, .int .i64 1)] fun TA => ?_
 refine W.seq (W.region ?_)
 refine RW.v ?_
 refine RW.ld H 0 1 ?_
 iterate 2 refine RW.v ?_
 refine RW.val (by rfl) (by kernel_rfl) rfl (by kernel_rfl) ?_
 refine RW.ldL H 0 1 (by rfl) (by kernel_rfl) rfl rfl rfl rfl rfl (by kernel_rfl) ?_
 refine RW.val (by rfl) (by kernel_rfl) rfl (by kernel_rfl) ?_
 refine RW.v ?_
 refine RW.nil ?_
 replace H := (H.del 0)
 dsimp only [setL, delL] at H
 refine W.c0 ?_
 refine W.skip ?_
 refine blkQ_normal ?_
 refine W.region ?_
 iterate 2 refine RW.v ?_
 refine RW.nil ?_
 refine WL.once ?_
 refine W.rg [(0, .slice (some ⟨eb, 0, none⟩) 2 2), (5, .slice (some ⟨eb, 0, none⟩) 2 2), (6, .int .i64 2), (7, .int .i64 2)] fun TA => ?_
 refine W.seq (W.region ?_)
 refine RW.v ?_
 refine RW.nil ?_
 refine W.rg [(0, .slice (some ⟨eb, 0, none⟩) 2 2), (5, .slice (some ⟨eb, 0, none⟩) 2 2), (6, .int .i64 2), (7, .int .i64 2), (8, .bool false)] fun TA => ?_
 refine W.seq ?_
 refine W.c0 ?_
 refine W.exit _ ?_
 refine seqQ_exit ?_
 refine onceQ_exit ?_
 refine blkQ_here ?_
 refine W.seq (W.region ?_)
 iterate 4 refine RW.v ?_
 refine RW.val (by rfl) (by kernel_rfl) rfl (by kernel_rfl) ?_
 refine RW.val (by rfl) (by kernel_rfl) rfl (by kernel_rfl) ?_
 refine RW.val (by rfl) (by kernel_rfl) rfl (by kernel_rfl) ?_
 iterate 2 refine RW.v ?_
 refine RW.nil ?_
 refine W.ret ?_
 refine endG (by rfl) (by exact resL_tmp rfl) ?_
 iterate 2 refine RW.v ?_
 refine RW.nil ?_
 refine W.c0 ?_
 refine W.skip ?_
 refine blkQ_normal ?_
 refine W.seq (W.region ?_)
 iterate 4 refine RW.v ?_
 refine RW.nil ?_
 refine W.rg [(0, pp h), (3, .slice (some ⟨eb, 0, none⟩) 2 2), (7, pp b1), (9, pp b2), (11, pp b3), (13, .int .i64 1)] fun TA => ?_
 refine W.seq ?_
 refine W.seq (W.region ?_)
 iterate 2 refine RW.v ?_
 refine RW.val (v := .slice (some ⟨eb, 0, none⟩) 1 2) (by kernel_rfl) (by kernel_rfl) (by kernel_rfl) (by kernel_rfl) ?_
 iterate 2 refine RW.v ?_
 refine RW.nil ?_
 refine W.rg [(0, pp h), (3, .slice (some ⟨eb, 0, none⟩) 2 2), (7, pp b1), (9, pp b2), (11, pp b3), (13, .int .i64 1), (43, .slice (some ⟨eb, 0, none⟩) 1 2), (44, .int .i64 1), (45, .int .i64 0)] fun TA => ?_
 refine W.block ?_
 refine W.unroll (WL.once ?_)
 refine W.seq (W.region ?_)
 refine RW.v ?_
 refine RW.nil ?_
 refine W.rg [(0, pp h), (3, .slice (some ⟨eb, 0, none⟩) 2 2), (7, pp b1), (9, pp b2), (11, pp b3), (13, .int .i64 1), (43, .slice (some ⟨eb, 0, none⟩) 1 2), (44, .int .i64 1), (45, .int .i64 0), (46, .bool true)] fun TA => ?_
 refine W.seq ?_
 refine W.c1 ?_
 refine W.skip ?_
 refine W.seq ?_
 refine W.block ?_
 refine W.seq (W.region ?_)
 refine RW.idx (s := 2) (by kernel_rfl) (by kernel_rfl) rfl Tryd.underlying35 (by kernel_rfl) rfl rfl ⟨by decide, by decide⟩ (by kernel_rfl) ?_
 refine RW.loads 2 (by kernel_rfl) (by kernel_rfl) rfl rfl (H.old _ _ hE) rfl rfl (by kernel_rfl) ?_
 refine RW.mk H (.row ⟨[.int .i64 0, .int .i64 0], 28, false⟩) ?_
 clear H; intro _ b6 _ H
 refine RW.st H 0 [.int .i64 1, .int .i64 65] [.int .i64 1, .int .i64 65] ?_
 clear H; intro _ _ H; dsimp only [setL, delL] at H
 refine RW.nil ?_
 refine W.rg [(0, pp h), (3, .slice (some ⟨eb, 0, none⟩) 2 2), (7, pp b1), (9, pp b2), (11, pp b3), (13, .int .i64 1), (15, pp b6), (43, .slice (some ⟨eb, 0, none⟩) 1 2), (44, .int .i64 1), (45, .int .i64 0)] fun TA => ?_
 refine W.seq (W.region ?_)
 refine RW.ld H 1 4 ?_
 refine RW.ld H 3 2 ?_
 refine RW.ld H 0 2 ?_
 refine RW.cl ?_
 refine WC.enter (fn := Tryd.f37) Tryd.func37 rfl ?_
 refine W.rg [(0, .agg #[pp h, pp T, .int .i64 1, .int .i64 66]), (1, .agg #[.int .i64 2, .int .i64 1]), (2, .agg #[.int .i64 1, .int .i64 65])] fun TA => ?_
 refine W.seq (W.region ?_)
 refine RW.mk H (.row ⟨[pt h, pt T, .int .i64 1, .int .i64 66], 65, false⟩) ?_
 clear H; intro _ b7 _ H
 refine RW.mk H (.row ⟨[.int .i64 2, .int .i64 1], 28, false⟩) ?_
 clear H; intro _ b8 _ H
 refine RW.mk H (.row ⟨[.int .i64 1, .int .i64 65], 28, false⟩) ?_
 clear H; intro _ b9 _ H
 refine RW.mk H (.row ⟨[.int .i64 0, .int .i64 0], 28, false⟩) ?_
 clear H; intro _ b10 _ H
 refine RW.v ?_
 refine RW.nil ?_
 refine W.rg [(3, pp b7), (4, pp b8), (5, pp b9), (6, pp b10)] fun TA => ?_
 refine W.seq (W.region ?_)
 refine RW.ld H 3 4 ?_
 refine RW.ld H 2 2 ?_
 refine RW.ld H 1 2 ?_
 refine RW.cl ?_
 refine ((ownB_wc (h := h) (T := T) (ev := ((1, 65) : Wd)) mp1 (Nat.le_of_ble_eq_true rfl) H.gn H.abs).mono ?_)
 rintro _ _ ⟨e, K⟩
 replace H := H.then K
 clear K
 dsimp only [List.nil_append, List.cons_append] at H
 replace e := e.trans (show _ = .tuple #[.agg #[.int .i64 0, .int .i64 0, .int .i64 0, .int .i64 0, .int .i64 0, .int .i64 0], .bool false] from ownV_nil)
 subst e
 iterate 3 refine RW.v ?_
 refine RW.mk H (.row ⟨[.int .i64 0, .int .i64 0, .int .i64 0, .int .i64 0, .int .i64 0, .int .i64 0], 73, false⟩) ?_
 clear H; intro _ b11 _ H
 refine RW.st H 0 [.int .i64 0, .int .i64 0, .int .i64 0, .int .i64 0, .int .i64 0, .int .i64 0] [.int .i64 0, .int .i64 0, .int .i64 0, .int .i64 0, .int .i64 0, .int .i64 0] ?_
 clear H; intro _ _ H; dsimp only [setL, delL] at H
 refine RW.v ?_
 refine RW.nil ?_
 refine W.rg [(3, pp b7), (4, pp b8), (5, pp b9), (6, pp b10), (8, pp b11), (9, .bool false)] fun TA => ?_
 refine W.seq ?_
 refine W.seq (W.region ?_)
 refine RW.v ?_
 refine RW.nil ?_
 refine W.c0 ?_
 refine W.skip ?_
 refine W.seq (W.region ?_)
 refine RW.v ?_
 refine RW.ld H 4 1 ?_
 refine RW.v ?_
 refine RW.ld H 4 1 ?_
 refine RW.cl ?_
 refine WC.enter (fn := Tryd.f9) Tryd.func9 rfl ?_
 refine W.rg [(0, pp h), (1, pp T)] fun TA => ?_
 refine W.seq (W.region ?_)
 refine RW.mk H (.row ⟨[.int .i64 0, .int .i64 0], 28, false⟩) ?_
 clear H; intro _ b12 _ H
 refine RW.v ?_
 refine RW.nil ?_
 refine W.rg [(0, pp h), (1, pp T), (4, pp b12)] fun TA => ?_
 refine W.seq ?_
 refine W.seq (W.region ?_)
 iterate 2 refine RW.v ?_
 refine RW.cl ?_
 refine ((at_wc (Nat.le_of_ble_eq_true rfl) H.gn H.abs (hT.le H.old)).mono ?_)
 rintro _ _ ⟨rfl, K⟩
 replace H := H.then K
 clear K
 dsimp only [List.nil_append, List.cons_append] at H
 iterate 3 refine RW.v ?_
 refine RW.mk H (.row ⟨[.pointer none, .pointer none, .int .i64 0, .int .i64 0], 65, false⟩) ?_
 clear H; intro _ b13 _ H
 refine RW.st H 0 [pt h, pt T, .int .i64 1, .int .i64 66] [pt h, pt T, .int .i64 1, .int .i64 66] ?_
 clear H; intro _ _ H; dsimp only [setL, delL] at H
 refine RW.v ?_
 refine RW.nil ?_
 replace H := (H.del 0)
 dsimp only [setL, delL] at H
 refine W.rg [(0, pp h), (1, pp T), (4, pp b12), (7, .bool true)] fun TA => ?_
 refine W.seq (W.region ?_)
 iterate 2 refine RW.v ?_
 refine RW.nil ?_
 refine W.c0 ?_
 refine W.skip ?_
 refine W.seq (W.region ?_)
 refine RW.v ?_
 refine RW.cl ?_
 refine ((intern66_wc H.gn H.abs (hT.le H.old)).mono ?_)
 rintro _ _ ⟨rfl, K⟩
 replace H := H.then K
 clear K
 dsimp only [List.nil_append, List.cons_append] at H
 iterate 5 refine RW.v ?_
 refine RW.nil ?_
 refine W.rg [(0, pp h), (4, pp b12), (8, .int .i64 66), (9, .int .i64 0)] fun TA => ?_
 refine W.seq ?_
 refine W.seq (W.region ?_)
 iterate 2 refine RW.v ?_
 refine RW.nil ?_
 refine W.c0 ?_
 refine W.skip ?_
 refine W.seq (W.region ?_)
 iterate 2 refine RW.v ?_
 refine RW.cl ?_
 refine WC.enter (fn := Tryd.f32) Tryd.func32 rfl ?_
 refine W.rg [(0, .int .i64 66)] fun TA => ?_
 refine W.seq (W.region ?_)
 refine RW.mk H (.row ⟨[.int .i64 0, .int .i64 0], 28, false⟩) ?_
 clear H; intro _ b14 _ H
 refine RW.nil ?_
 refine W.rg [(0, .int .i64 66), (2, pp b14)] fun TA => ?_
 refine W.seq (W.region ?_)
 refine RW.v ?_
 refine RW.val (v := .agg #[.int .i64 1, .int .i64 66]) (by kernel_rfl) (by kernel_rfl) (by kernel_rfl) (by kernel_rfl) ?_
 refine RW.st H 0 [.int .i64 1, .int .i64 66] [.int .i64 1, .int .i64 66] ?_
 clear H; intro _ _ H; dsimp only [setL, delL] at H
 refine RW.nil ?_
 refine W.ret ?_
 refine endG (by rfl) (by exact resL_cell rfl (H.get 0 rfl) (by rw [uT_eq]; exact Tryd.underlying28) (by kernel_rfl) rfl rfl rfl) ?_
 refine RW.cl ?_
 refine WC.enter (fn := Tryd.f33) Tryd.func33 rfl ?_
 refine W.rg [] fun TA => ?_
 refine W.seq (W.region ?_)
 refine RW.mk H (.row ⟨[.int .i64 0, .int .i64 0], 28, false⟩) ?_
 clear H; intro _ b15 _ H
 refine RW.nil ?_
 replace H := (H.del 1)
 dsimp only [setL, delL] at H
 refine W.rg [(0, pp b15)] fun TA => ?_
 refine W.seq (W.region ?_)
 refine RW.cl ?_
 refine WC.enter (fn := Tryd.f32) Tryd.func32 rfl ?_
 refine W.rg [(0, .int .i64 0)] fun TA => ?_
 refine W.seq (W.region ?_)
 refine RW.mk H (.row ⟨[.int .i64 0, .int .i64 0], 28, false⟩) ?_
 clear H; intro _ b16 _ H
 refine RW.nil ?_
 refine W.rg [(0, .int .i64 0), (2, pp b16)] fun TA => ?_
 refine W.seq (W.region ?_)
 refine RW.v ?_
 refine RW.val (v := .agg #[.int .i64 1, .int .i64 0]) (by kernel_rfl) (by kernel_rfl) (by kernel_rfl) (by kernel_rfl) ?_
 refine RW.st H 0 [.int .i64 1, .int .i64 0] [.int .i64 1, .int .i64 0] ?_
 clear H; intro _ _ H; dsimp only [setL, delL] at H
 refine RW.nil ?_
 refine W.ret ?_
 refine endG (by rfl) (by exact resL_cell rfl (H.get 0 rfl) (by rw [uT_eq]; exact Tryd.underlying28) (by kernel_rfl) rfl rfl rfl) ?_
 refine RW.st H 1 [.int .i64 1, .int .i64 0] [.int .i64 1, .int .i64 0] ?_
 clear H; intro _ _ H; dsimp only [setL, delL] at H
 refine RW.nil ?_
 replace H := (H.del 0)
 dsimp only [setL, delL] at H
 refine W.ret ?_
 refine endG (by rfl) (by exact resL_cell rfl (H.get 0 rfl) (by rw [uT_eq]; exact Tryd.underlying28) (by kernel_rfl) rfl rfl rfl) ?_
 refine RW.cl ?_
 refine ((consP (h := h) (k := 4) ((1, 66) : Wd) ((1, 0) : Wd) H (Nat.le_of_ble_eq_true rfl) rfl).mono ?_)
 clear H
 rintro _ _ ⟨rfl, H⟩
 replace H : Lies G65 (heapAbs h (hmP [(((1, 66) : Wd), ((2, 3) : Wd)), (((1, 66) : Wd), ((1, 0) : Wd)), (((0, a) : Wd), ((1, xn) : Wd)), (((2, 2) : Wd), ((1, 0) : Wd)), (((1, 66) : Wd), ((1, 0) : Wd))])) F _ [.at_ b15 (.row ⟨[.int .i64 1, .int .i64 0], 28, false⟩), .at_ b12 (.row ⟨[.int .i64 0, .int .i64 0], 28, false⟩), .at_ b11 (.row ⟨[.int .i64 0, .int .i64 0, .int .i64 0, .int .i64 0, .int .i64 0, .int .i64 0], 73, false⟩), .at_ b10 (.row ⟨[.int .i64 0, .int .i64 0], 28, false⟩), .at_ b9 (.row ⟨[.int .i64 1, .int .i64 65], 28, false⟩), .at_ b8 (.row ⟨[.int .i64 2, .int .i64 1], 28, false⟩), .at_ b7 (.row ⟨[.pointer (some ⟨h, 0, none⟩), .pointer (some ⟨T, 0, none⟩), .int .i64 1, .int .i64 66], 65, false⟩), .at_ b6 (.row ⟨[.int .i64 1, .int .i64 65], 28, false⟩), .at_ b3 (.row ⟨[.pointer (some ⟨h, 0, none⟩), .pointer (some ⟨T, 0, none⟩), .int .i64 1, .int .i64 66], 65, false⟩), .at_ b2 (.row ⟨[.int .i64 1, .int .i64 yn], 28, false⟩), .at_ b1 (.row ⟨[.int .i64 2, .int .i64 1], 28, false⟩)] := H
 iterate 2 refine RW.v ?_
 refine RW.st H 1 [.int .i64 2, .int .i64 4] [.int .i64 2, .int .i64 4] ?_
 clear H; intro _ _ H; dsimp only [setL, delL] at H
 refine RW.v ?_
 refine RW.nil ?_
 replace H := (H.del 0)
 dsimp only [setL, delL] at H
 refine W.ret ?_
 refine endG (by rfl) (by exact resL_cell rfl (H.get 0 rfl) (by rw [uT_eq]; exact Tryd.underlying28) (by kernel_rfl) rfl rfl (by exact resL_tmp rfl)) ?_
 iterate 3 refine RW.v ?_
 refine RW.mk H (.row ⟨[.int .i64 0, .int .i64 0], 28, false⟩) ?_
 clear H; intro _ b17 _ H
 refine RW.st H 0 [.int .i64 2, .int .i64 4] [.int .i64 2, .int .i64 4] ?_
 clear H; intro _ _ H; dsimp only [setL, delL] at H
 refine RW.v ?_
 refine RW.nil ?_
 replace H := ((H.del 2).del 1)
 dsimp only [setL, delL] at H
 refine W.rg [(3, pp b7), (4, pp b8), (5, pp b9), (6, pp b10), (12, pp b17), (13, .int .i64 0)] fun TA => ?_
 refine W.seq ?_
 refine W.seq (W.region ?_)
 iterate 2 refine RW.v ?_
 refine RW.nil ?_
 refine W.c0 ?_
 refine W.skip ?_
 refine W.seq ?_
 refine W.drawn (by kernel_rfl) (by kernel_rfl) H.gn ?_
 have H18 := H
 refine RW.ld H18 0 2 ?_
 refine RW.ld H18 4 4 ?_
 refine RW.ld H18 3 2 ?_
 refine RW.ld H18 2 2 ?_
 refine RW.ld H18 0 2 ?_
 refine RW.cl ?_
 refine WC.enter (fn := Tryd.f41) Tryd.func41 rfl ?_
 replace H := H18
 refine W.rg [(0, .agg #[pp h, pp T, .int .i64 1, .int .i64 66]), (1, .agg #[.int .i64 2, .int .i64 1]), (2, .agg #[.int .i64 1, .int .i64 65]), (3, .agg #[.int .i64 2, .int .i64 4])] fun TA => ?_
 refine W.seq (W.region ?_)
 refine RW.mk H (.row ⟨[pt h, pt T, .int .i64 1, .int .i64 66], 65, false⟩) ?_
 clear H; intro _ b19 _ H
 refine RW.mk H (.row ⟨[.int .i64 2, .int .i64 1], 28, false⟩) ?_
 clear H; intro _ b20 _ H
 refine RW.mk H (.row ⟨[.int .i64 1, .int .i64 65], 28, false⟩) ?_
 clear H; intro _ b21 _ H
 refine RW.mk H (.row ⟨[.int .i64 2, .int .i64 4], 28, false⟩) ?_
 clear H; intro _ b22 _ H
 refine RW.v ?_
 refine RW.nil ?_
 refine W.rg [(4, pp b19), (5, pp b20), (6, pp b21), (7, pp b22)] fun TA => ?_
 refine W.seq (W.region ?_)
 refine RW.v ?_
 refine RW.ld H 3 1 ?_
 refine RW.ld H 1 2 ?_
 refine RW.ld H 0 2 ?_
 refine RW.cl ?_
 refine ((consP (h := h) (k := 5) ((1, 65) : Wd) ((2, 4) : Wd) H (Nat.le_of_ble_eq_true rfl) rfl).mono ?_)
 clear H
 rintro _ _ ⟨rfl, H⟩
 replace H : Lies G65 (heapAbs h (hmP [(((1, 66) : Wd), ((2, 3) : Wd)), (((1, 66) : Wd), ((1, 0) : Wd)), (((0, a) : Wd), ((1, xn) : Wd)), (((2, 2) : Wd), ((1, 0) : Wd)), (((1, 66) : Wd), ((1, 0) : Wd)), (((1, 65) : Wd), ((2, 4) : Wd))])) F _ [.at_ b22 (.row ⟨[.int .i64 2, .int .i64 4], 28, false⟩), .at_ b21 (.row ⟨[.int .i64 1, .int .i64 65], 28, false⟩), .at_ b20 (.row ⟨[.int .i64 2, .int .i64 1], 28, false⟩), .at_ b19 (.row ⟨[.pointer (some ⟨h, 0, none⟩), .pointer (some ⟨T, 0, none⟩), .int .i64 1, .int .i64 66], 65, false⟩), .at_ b17 (.row ⟨[.int .i64 2, .int .i64 4], 28, false⟩), .at_ b10 (.row ⟨[.int .i64 0, .int .i64 0], 28, false⟩), .at_ b9 (.row ⟨[.int .i64 1, .int .i64 65], 28, false⟩), .at_ b8 (.row ⟨[.int .i64 2, .int .i64 1], 28, false⟩), .at_ b7 (.row ⟨[.pointer (some ⟨h, 0, none⟩), .pointer (some ⟨T, 0, none⟩), .int .i64 1, .int .i64 66], 65, false⟩), .at_ b6 (.row ⟨[.int .i64 1, .int .i64 65], 28, false⟩), .at_ b3 (.row ⟨[.pointer (some ⟨h, 0, none⟩), .pointer (some ⟨T, 0, none⟩), .int .i64 1, .int .i64 66], 65, false⟩), .at_ b2 (.row ⟨[.int .i64 1, .int .i64 yn], 28, false⟩), .at_ b1 (.row ⟨[.int .i64 2, .int .i64 1], 28, false⟩)] := H
 iterate 3 refine RW.v ?_
 refine RW.mk H (.row ⟨[.int .i64 0, .int .i64 0], 28, false⟩) ?_
 clear H; intro _ b23 _ H
 refine RW.st H 0 [.int .i64 2, .int .i64 5] [.int .i64 2, .int .i64 5] ?_
 clear H; intro _ _ H; dsimp only [setL, delL] at H
 refine RW.v ?_
 refine RW.nil ?_
 replace H := ((H.del 2).del 1)
 dsimp only [setL, delL] at H
 refine W.rg [(4, pp b19), (5, pp b20), (9, pp b23), (10, .int .i64 0)] fun TA => ?_
 refine W.seq ?_
 refine W.seq (W.region ?_)
 iterate 2 refine RW.v ?_
 refine RW.nil ?_
 refine W.c0 ?_
 refine W.skip ?_
 refine W.seq (W.region ?_)
 refine RW.ld H 2 4 ?_
 refine RW.ld H 1 2 ?_
 refine RW.cl ?_
 refine ((cons_y (h := h) (T := T) (w := (2, 1)) (a := ((1, 66) : Wd)) (d := ((1, 0) : Wd)) rfl H).mono ?_)
 clear H
 rintro _ _ ⟨rfl, H⟩
 iterate 4 refine RW.v ?_
 refine RW.mk H (.row ⟨[.int .i64 0, .int .i64 0], 28, false⟩) ?_
 clear H; intro _ b24 _ H
 refine RW.mk H (.row ⟨[.int .i64 0, .int .i64 0], 28, false⟩) ?_
 clear H; intro _ b25 _ H
 refine RW.st H 1 [.int .i64 1, .int .i64 66] [.int .i64 1, .int .i64 66] ?_
 clear H; intro _ _ H; dsimp only [setL, delL] at H
 refine RW.st H 0 [.int .i64 1, .int .i64 0] [.int .i64 1, .int .i64 0] ?_
 clear H; intro _ _ H; dsimp only [setL, delL] at H
 refine RW.v ?_
 refine RW.nil ?_
 replace H := (H.del 1)
 dsimp only [setL, delL] at H
 refine W.rg [(4, pp b19), (5, pp b20), (9, pp b23), (12, pp b25)] fun TA => ?_
 refine W.seq (W.region ?_)
 refine RW.v ?_
 refine RW.ld H 3 1 ?_
 refine RW.ld H 1 2 ?_
 refine RW.ld H 0 2 ?_
 refine RW.cl ?_
 refine ((consP (h := h) (k := 6) ((2, 5) : Wd) ((1, 0) : Wd) H (Nat.le_of_ble_eq_true rfl) rfl).mono ?_)
 clear H
 rintro _ _ ⟨rfl, H⟩
 replace H : Lies G65 (heapAbs h (hmP [(((1, 66) : Wd), ((2, 3) : Wd)), (((1, 66) : Wd), ((1, 0) : Wd)), (((0, a) : Wd), ((1, xn) : Wd)), (((2, 2) : Wd), ((1, 0) : Wd)), (((1, 66) : Wd), ((1, 0) : Wd)), (((1, 65) : Wd), ((2, 4) : Wd)), (((2, 5) : Wd), ((1, 0) : Wd))])) F _ [.at_ b25 (.row ⟨[.int .i64 1, .int .i64 0], 28, false⟩), .at_ b23 (.row ⟨[.int .i64 2, .int .i64 5], 28, false⟩), .at_ b20 (.row ⟨[.int .i64 2, .int .i64 1], 28, false⟩), .at_ b19 (.row ⟨[.pointer (some ⟨h, 0, none⟩), .pointer (some ⟨T, 0, none⟩), .int .i64 1, .int .i64 66], 65, false⟩), .at_ b17 (.row ⟨[.int .i64 2, .int .i64 4], 28, false⟩), .at_ b10 (.row ⟨[.int .i64 0, .int .i64 0], 28, false⟩), .at_ b9 (.row ⟨[.int .i64 1, .int .i64 65], 28, false⟩), .at_ b8 (.row ⟨[.int .i64 2, .int .i64 1], 28, false⟩), .at_ b7 (.row ⟨[.pointer (some ⟨h, 0, none⟩), .pointer (some ⟨T, 0, none⟩), .int .i64 1, .int .i64 66], 65, false⟩), .at_ b6 (.row ⟨[.int .i64 1, .int .i64 65], 28, false⟩), .at_ b3 (.row ⟨[.pointer (some ⟨h, 0, none⟩), .pointer (some ⟨T, 0, none⟩), .int .i64 1, .int .i64 66], 65, false⟩), .at_ b2 (.row ⟨[.int .i64 1, .int .i64 yn], 28, false⟩), .at_ b1 (.row ⟨[.int .i64 2, .int .i64 1], 28, false⟩)] := H
 iterate 3 refine RW.v ?_
 refine RW.mk H (.row ⟨[.int .i64 0, .int .i64 0], 28, false⟩) ?_
 clear H; intro _ b26 _ H
 refine RW.st H 0 [.int .i64 2, .int .i64 6] [.int .i64 2, .int .i64 6] ?_
 clear H; intro _ _ H; dsimp only [setL, delL] at H
 refine RW.v ?_
 refine RW.nil ?_
 replace H := ((H.del 2).del 1)
 dsimp only [setL, delL] at H
 refine W.rg [(4, pp b19), (5, pp b20), (10, .int .i64 0), (14, pp b26)] fun TA => ?_
 refine W.seq ?_
 refine W.seq (W.region ?_)
 iterate 2 refine RW.v ?_
 refine RW.nil ?_
 refine W.c0 ?_
 refine W.skip ?_
 refine W.seq (W.region ?_)
 refine RW.v ?_
 refine RW.ld H 2 1 ?_
 refine RW.ld H 1 2 ?_
 refine RW.ld H 0 2 ?_
 refine RW.cl ?_
 refine ((setCdrP (h := h) (l' := [(((1, 66) : Wd), ((2, 3) : Wd)), (((1, 66) : Wd), ((2, 6) : Wd)), (((0, a) : Wd), ((1, xn) : Wd)), (((2, 2) : Wd), ((1, 0) : Wd)), (((1, 66) : Wd), ((1, 0) : Wd)), (((1, 65) : Wd), ((2, 4) : Wd)), (((2, 5) : Wd), ((1, 0) : Wd))]) (2, 1) ((2, 6) : Wd) rfl H).mono ?_)
 clear H
 rintro _ _ ⟨rfl, H⟩
 refine RW.v ?_
 refine RW.nil ?_
 replace H := (((H.del 2).del 1).del 0)
 dsimp only [setL, delL] at H
 refine W.ret ?_
 refine endG (by rfl) (by exact resL_tmp rfl) ?_
 have H27 := H
 refine RW.stD H27 1 (vs := [.int .i64 2, .int .i64 4]) (cs' := [.int .i64 2, .int .i64 4]) (by kernel_rfl) (by kernel_rfl) rfl rfl rfl rfl rfl (by kernel_rfl) (Nat.le_of_ble_eq_true rfl) rfl (by kernel_rfl) ?_
 intro _ H28
 dsimp only [setL, delL] at H28
 refine RW.v ?_
 refine RW.nil ?_
 refine ⟨⟨by kernel_rfl, ⟨dyn_row (H18.get 0 rfl) (H28.get 0 rfl) ⟨fun h => Bool.noConfusion h, fun h => Bool.noConfusion h, fun h => Bool.noConfusion h, fun h => Bool.noConfusion h, fun h => Bool.noConfusion h, fun _ => H18.get 0 rfl, fun _ => H27.get 0 rfl, fun h => Bool.noConfusion h, trivial⟩, dyn_row (H18.get 4 rfl) (H28.get 4 rfl) ⟨fun h => Bool.noConfusion h, fun h => Bool.noConfusion h, fun h => Bool.noConfusion h, fun h => Bool.noConfusion h, fun h => Bool.noConfusion h, fun _ => H18.get 4 rfl, fun _ => H27.get 4 rfl, fun h => Bool.noConfusion h, trivial⟩, dyn_row (H18.get 3 rfl) (H28.get 3 rfl) ⟨fun h => Bool.noConfusion h, fun h => Bool.noConfusion h, fun h => Bool.noConfusion h, fun h => Bool.noConfusion h, fun h => Bool.noConfusion h, fun _ => H18.get 3 rfl, fun _ => H27.get 3 rfl, fun h => Bool.noConfusion h, trivial⟩, dyn_row (H18.get 2 rfl) (H28.get 2 rfl) ⟨fun h => Bool.noConfusion h, fun h => Bool.noConfusion h, fun h => Bool.noConfusion h, fun h => Bool.noConfusion h, fun h => Bool.noConfusion h, fun _ => H18.get 2 rfl, fun _ => H27.get 2 rfl, fun h => Bool.noConfusion h, trivial⟩, dyn_row (H18.get 0 rfl) (H28.get 0 rfl) ⟨fun h => Bool.noConfusion h, fun h => Bool.noConfusion h, fun h => Bool.noConfusion h, fun h => Bool.noConfusion h, fun h => Bool.noConfusion h, fun _ => H18.get 0 rfl, fun _ => H27.get 0 rfl, fun h => Bool.noConfusion h, trivial⟩, trivial, trivial, trivial, trivial⟩⟩, ?_⟩
 replace H := H28
 clear H18 H27 H28
 replace H := ((((H.del 4).del 3).del 2).del 0)
 dsimp only [setL, delL] at H
 refine W.ret ?_
 refine endG (by rfl) (by exact resL_cell rfl (H.get 0 rfl) (by rw [uT_eq]; exact Tryd.underlying28) (by kernel_rfl) rfl rfl (by exact resL_tmp rfl)) ?_
 iterate 3 refine RW.v ?_
 refine RW.mk H (.row ⟨[.int .i64 0, .int .i64 0], 28, false⟩) ?_
 clear H; intro _ b29 _ H
 refine RW.st H 0 [.int .i64 2, .int .i64 4] [.int .i64 2, .int .i64 4] ?_
 clear H; intro _ _ H; dsimp only [setL, delL] at H
 refine RW.v ?_
 refine RW.nil ?_
 replace H := ((H.del 2).del 1)
 dsimp only [setL, delL] at H
 refine W.rg [(0, pp h), (3, .slice (some ⟨eb, 0, none⟩) 2 2), (7, pp b1), (9, pp b2), (11, pp b3), (13, .int .i64 1), (16, pp b29), (17, .int .i64 0), (43, .slice (some ⟨eb, 0, none⟩) 1 2), (44, .int .i64 1), (45, .int .i64 0)] fun TA => ?_
 refine W.seq ?_
 refine W.seq (W.region ?_)
 iterate 2 refine RW.v ?_
 refine RW.nil ?_
 refine W.c0 ?_
 refine W.skip ?_
 refine W.region ?_
 refine RW.ld H 0 2 ?_
 refine RW.st H 3 [.int .i64 2, .int .i64 4] [.int .i64 2, .int .i64 4] ?_
 clear H; intro _ _ H; dsimp only [setL, delL] at H
 refine RW.nil ?_
 replace H := (H.del 0)
 dsimp only [setL, delL] at H
 refine blkQ_normal ?_
 refine W.rg [(0, pp h), (3, .slice (some ⟨eb, 0, none⟩) 2 2), (7, pp b1), (9, pp b2), (11, pp b3), (13, .int .i64 1), (43, .slice (some ⟨eb, 0, none⟩) 1 2), (44, .int .i64 1), (45, .int .i64 0)] fun TA => ?_
 refine W.region ?_
 iterate 2 refine RW.v ?_
 refine RW.nil ?_
 refine WL.once ?_
 refine W.rg [(0, pp h), (3, .slice (some ⟨eb, 0, none⟩) 2 2), (7, pp b1), (9, pp b2), (11, pp b3), (13, .int .i64 1), (43, .slice (some ⟨eb, 0, none⟩) 1 2), (44, .int .i64 1), (45, .int .i64 1)] fun TA => ?_
 refine W.seq (W.region ?_)
 refine RW.v ?_
 refine RW.nil ?_
 refine W.rg [(0, pp h), (3, .slice (some ⟨eb, 0, none⟩) 2 2), (7, pp b1), (9, pp b2), (11, pp b3), (13, .int .i64 1), (43, .slice (some ⟨eb, 0, none⟩) 1 2), (44, .int .i64 1), (45, .int .i64 1), (46, .bool false)] fun TA => ?_
 refine W.seq ?_
 refine W.c0 ?_
 refine W.exit _ ?_
 refine seqQ_exit ?_
 refine onceQ_exit ?_
 refine blkQ_here ?_
 refine W.seq ?_
 refine W.seq ?_
 refine W.drawn (by kernel_rfl) (by kernel_rfl) H.gn ?_
 have H30 := H
 refine RW.ld H30 0 4 ?_
 refine RW.ld H30 2 2 ?_
 iterate 2 refine RW.v ?_
 refine RW.idx (s := 2) (by kernel_rfl) (by kernel_rfl) rfl Tryd.underlying35 (by kernel_rfl) rfl rfl ⟨by decide, by decide⟩ (by kernel_rfl) ?_
 refine RW.loads 2 (by kernel_rfl) (by kernel_rfl) rfl rfl (H30.old _ _ hE) rfl rfl (by kernel_rfl) ?_
 refine RW.cl ?_
 refine ((ownA_wc (h := h) (T := T) (ev := ((1, xn) : Wd)) mp2 (Nat.le_of_ble_eq_true rfl) H30.gn H30.abs).mono ?_)
 rintro _ _ ⟨e, K31⟩
 have H32 := H30.then K31
 dsimp only [List.nil_append, List.cons_append] at H32
 replace e := e.trans (show _ = .tuple #[.agg #[.int .i64 0, .int .i64 0, .int .i64 0, .int .i64 0, .int .i64 0, .int .i64 0], .bool false] from ownV_nil)
 subst e
 iterate 3 refine RW.v ?_
 refine RW.mkD H32 (x := .row ⟨[.int .i64 0, .int .i64 0, .int .i64 0, .int .i64 0, .int .i64 0, .int .i64 0], 73, false⟩) (fm := fun b => .pointer (some ⟨b, 0, none⟩)) (by kernel_rfl) (by kernel_rfl) (by kernel_rfl) (by kernel_rfl) ?_
 intro _ b33 H34
 refine RW.stD H34 0 (vs := [.int .i64 0, .int .i64 0, .int .i64 0, .int .i64 0, .int .i64 0, .int .i64 0]) (cs' := [.int .i64 0, .int .i64 0, .int .i64 0, .int .i64 0, .int .i64 0, .int .i64 0]) (by kernel_rfl) (by kernel_rfl) rfl rfl rfl rfl rfl (by kernel_rfl) (Nat.le_of_ble_eq_true rfl) rfl (by kernel_rfl) ?_
 intro _ H35
 dsimp only [setL, delL] at H35
 refine RW.v ?_
 refine RW.nil ?_
 refine ⟨⟨by kernel_rfl, ⟨dyn_row (H30.get 0 rfl) (H35.get 1 rfl) ⟨fun h => Bool.noConfusion h, fun h => Bool.noConfusion h, fun h => Bool.noConfusion h, fun h => Bool.noConfusion h, fun h => Bool.noConfusion h, fun h => Bool.noConfusion h, fun _ => H30.get 0 rfl, fun h => Bool.noConfusion h, fun h => Bool.noConfusion h, fun h => Bool.noConfusion h, fun h => Bool.noConfusion h, fun _ => H34.get 1 rfl, fun h => Bool.noConfusion h, trivial⟩, dyn_row (H30.get 2 rfl) (H35.get 3 rfl) ⟨fun h => Bool.noConfusion h, fun h => Bool.noConfusion h, fun h => Bool.noConfusion h, fun h => Bool.noConfusion h, fun h => Bool.noConfusion h, fun h => Bool.noConfusion h, fun _ => H30.get 2 rfl, fun h => Bool.noConfusion h, fun h => Bool.noConfusion h, fun h => Bool.noConfusion h, fun h => Bool.noConfusion h, fun _ => H34.get 3 rfl, fun h => Bool.noConfusion h, trivial⟩, trivial, trivial, trivial, dyn_row (H30.old _ _ hE) (H35.old _ _ hE) ⟨fun h => Bool.noConfusion h, fun h => Bool.noConfusion h, fun h => Bool.noConfusion h, fun h => Bool.noConfusion h, fun h => Bool.noConfusion h, fun h => Bool.noConfusion h, fun _ => H30.old _ _ hE, fun h => Bool.noConfusion h, fun h => Bool.noConfusion h, fun h => Bool.noConfusion h, fun h => Bool.noConfusion h, fun _ => H34.old _ _ hE, fun h => Bool.noConfusion h, trivial⟩, trivial, trivial, trivial, trivial, Or.inl (by kernel_rfl), trivial, trivial, trivial⟩⟩, ?_⟩
 replace H := H35
 clear H30 H32 H34 H35
 refine W.rg [(0, pp h), (3, .slice (some ⟨eb, 0, none⟩) 2 2), (7, pp b1), (9, pp b2), (11, pp b3), (13, .int .i64 1), (18, pp b33), (19, .bool false)] fun TA => ?_
 refine W.seq (W.region ?_)
 refine RW.v ?_
 refine RW.nil ?_
 refine W.c0 ?_
 refine W.skip ?_
 refine W.seq ?_
 refine W.drawn (by kernel_rfl) (by kernel_rfl) H.gn ?_
 have H36 := H
 refine RW.ld H36 1 4 ?_
 refine RW.ld H36 3 2 ?_
 iterate 2 refine RW.v ?_
 refine RW.idx (s := 2) (by kernel_rfl) (by kernel_rfl) rfl Tryd.underlying35 (by kernel_rfl) rfl rfl ⟨by decide, by decide⟩ (by kernel_rfl) ?_
 refine RW.loads 2 (by kernel_rfl) (by kernel_rfl) rfl rfl (H36.old _ _ hE) rfl rfl (by kernel_rfl) ?_
 refine RW.ld H36 2 2 ?_
 refine RW.cl ?_
 refine WC.enter (fn := Tryd.f41) Tryd.func41 rfl ?_
 replace H := H36
 refine W.rg [(0, .agg #[pp h, pp T, .int .i64 1, .int .i64 66]), (1, .agg #[.int .i64 2, .int .i64 4]), (2, .agg #[.int .i64 1, .int .i64 xn]), (3, .agg #[.int .i64 1, .int .i64 yn])] fun TA => ?_
 refine W.seq (W.region ?_)
 refine RW.mk H (.row ⟨[pt h, pt T, .int .i64 1, .int .i64 66], 65, false⟩) ?_
 clear H; intro _ b37 _ H
 refine RW.mk H (.row ⟨[.int .i64 2, .int .i64 4], 28, false⟩) ?_
 clear H; intro _ b38 _ H
 refine RW.mk H (.row ⟨[.int .i64 1, .int .i64 xn], 28, false⟩) ?_
 clear H; intro _ b39 _ H
 refine RW.mk H (.row ⟨[.int .i64 1, .int .i64 yn], 28, false⟩) ?_
 clear H; intro _ b40 _ H
 refine RW.v ?_
 refine RW.nil ?_
 refine W.rg [(4, pp b37), (5, pp b38), (6, pp b39), (7, pp b40)] fun TA => ?_
 refine W.seq (W.region ?_)
 refine RW.v ?_
 refine RW.ld H 3 1 ?_
 refine RW.ld H 1 2 ?_
 refine RW.ld H 0 2 ?_
 refine RW.cl ?_
 refine ((consP (h := h) (k := 7) ((1, xn) : Wd) ((1, yn) : Wd) H (Nat.le_of_ble_eq_true rfl) rfl).mono ?_)
 clear H
 rintro _ _ ⟨rfl, H⟩
 replace H : Lies G65 (heapAbs h (hmP [(((1, 66) : Wd), ((2, 3) : Wd)), (((1, 66) : Wd), ((2, 6) : Wd)), (((0, a) : Wd), ((1, xn) : Wd)), (((2, 2) : Wd), ((1, 0) : Wd)), (((1, 66) : Wd), ((1, 0) : Wd)), (((1, 65) : Wd), ((2, 4) : Wd)), (((2, 5) : Wd), ((1, 0) : Wd)), (((1, xn) : Wd), ((1, yn) : Wd))])) F _ [.at_ b40 (.row ⟨[.int .i64 1, .int .i64 yn], 28, false⟩), .at_ b39 (.row ⟨[.int .i64 1, .int .i64 xn], 28, false⟩), .at_ b38 (.row ⟨[.int .i64 2, .int .i64 4], 28, false⟩), .at_ b37 (.row ⟨[.pointer (some ⟨h, 0, none⟩), .pointer (some ⟨T, 0, none⟩), .int .i64 1, .int .i64 66], 65, false⟩), .at_ b33 (.row ⟨[.int .i64 0, .int .i64 0, .int .i64 0, .int .i64 0, .int .i64 0, .int .i64 0], 73, false⟩), .at_ b3 (.row ⟨[.pointer (some ⟨h, 0, none⟩), .pointer (some ⟨T, 0, none⟩), .int .i64 1, .int .i64 66], 65, false⟩), .at_ b2 (.row ⟨[.int .i64 1, .int .i64 yn], 28, false⟩), .at_ b1 (.row ⟨[.int .i64 2, .int .i64 4], 28, false⟩)] := H
 iterate 3 refine RW.v ?_
 refine RW.mk H (.row ⟨[.int .i64 0, .int .i64 0], 28, false⟩) ?_
 clear H; intro _ b41 _ H
 refine RW.st H 0 [.int .i64 2, .int .i64 7] [.int .i64 2, .int .i64 7] ?_
 clear H; intro _ _ H; dsimp only [setL, delL] at H
 refine RW.v ?_
 refine RW.nil ?_
 replace H := ((H.del 2).del 1)
 dsimp only [setL, delL] at H
 refine W.rg [(4, pp b37), (5, pp b38), (9, pp b41), (10, .int .i64 0)] fun TA => ?_
 refine W.seq ?_
 refine W.seq (W.region ?_)
 iterate 2 refine RW.v ?_
 refine RW.nil ?_
 refine W.c0 ?_
 refine W.skip ?_
 refine W.seq (W.region ?_)
 refine RW.ld H 2 4 ?_
 refine RW.ld H 1 2 ?_
 refine RW.cl ?_
 refine ((cons_y (h := h) (T := T) (w := (2, 4)) (a := ((1, 66) : Wd)) (d := ((1, 0) : Wd)) rfl H).mono ?_)
 clear H
 rintro _ _ ⟨rfl, H⟩
 iterate 4 refine RW.v ?_
 refine RW.mk H (.row ⟨[.int .i64 0, .int .i64 0], 28, false⟩) ?_
 clear H; intro _ b42 _ H
 refine RW.mk H (.row ⟨[.int .i64 0, .int .i64 0], 28, false⟩) ?_
 clear H; intro _ b43 _ H
 refine RW.st H 1 [.int .i64 1, .int .i64 66] [.int .i64 1, .int .i64 66] ?_
 clear H; intro _ _ H; dsimp only [setL, delL] at H
 refine RW.st H 0 [.int .i64 1, .int .i64 0] [.int .i64 1, .int .i64 0] ?_
 clear H; intro _ _ H; dsimp only [setL, delL] at H
 refine RW.v ?_
 refine RW.nil ?_
 replace H := (H.del 1)
 dsimp only [setL, delL] at H
 refine W.rg [(4, pp b37), (5, pp b38), (9, pp b41), (12, pp b43)] fun TA => ?_
 refine W.seq (W.region ?_)
 refine RW.v ?_
 refine RW.ld H 3 1 ?_
 refine RW.ld H 1 2 ?_
 refine RW.ld H 0 2 ?_
 refine RW.cl ?_
 refine ((consP (h := h) (k := 8) ((2, 7) : Wd) ((1, 0) : Wd) H (Nat.le_of_ble_eq_true rfl) rfl).mono ?_)
 clear H
 rintro _ _ ⟨rfl, H⟩
 replace H : Lies G65 (heapAbs h (hmP [(((1, 66) : Wd), ((2, 3) : Wd)), (((1, 66) : Wd), ((2, 6) : Wd)), (((0, a) : Wd), ((1, xn) : Wd)), (((2, 2) : Wd), ((1, 0) : Wd)), (((1, 66) : Wd), ((1, 0) : Wd)), (((1, 65) : Wd), ((2, 4) : Wd)), (((2, 5) : Wd), ((1, 0) : Wd)), (((1, xn) : Wd), ((1, yn) : Wd)), (((2, 7) : Wd), ((1, 0) : Wd))])) F _ [.at_ b43 (.row ⟨[.int .i64 1, .int .i64 0], 28, false⟩), .at_ b41 (.row ⟨[.int .i64 2, .int .i64 7], 28, false⟩), .at_ b38 (.row ⟨[.int .i64 2, .int .i64 4], 28, false⟩), .at_ b37 (.row ⟨[.pointer (some ⟨h, 0, none⟩), .pointer (some ⟨T, 0, none⟩), .int .i64 1, .int .i64 66], 65, false⟩), .at_ b33 (.row ⟨[.int .i64 0, .int .i64 0, .int .i64 0, .int .i64 0, .int .i64 0, .int .i64 0], 73, false⟩), .at_ b3 (.row ⟨[.pointer (some ⟨h, 0, none⟩), .pointer (some ⟨T, 0, none⟩), .int .i64 1, .int .i64 66], 65, false⟩), .at_ b2 (.row ⟨[.int .i64 1, .int .i64 yn], 28, false⟩), .at_ b1 (.row ⟨[.int .i64 2, .int .i64 4], 28, false⟩)] := H
 iterate 3 refine RW.v ?_
 refine RW.mk H (.row ⟨[.int .i64 0, .int .i64 0], 28, false⟩) ?_
 clear H; intro _ b44 _ H
 refine RW.st H 0 [.int .i64 2, .int .i64 8] [.int .i64 2, .int .i64 8] ?_
 clear H; intro _ _ H; dsimp only [setL, delL] at H
 refine RW.v ?_
 refine RW.nil ?_
 replace H := ((H.del 2).del 1)
 dsimp only [setL, delL] at H
 refine W.rg [(4, pp b37), (5, pp b38), (10, .int .i64 0), (14, pp b44)] fun TA => ?_
 refine W.seq ?_
 refine W.seq (W.region ?_)
 iterate 2 refine RW.v ?_
 refine RW.nil ?_
 refine W.c0 ?_
 refine W.skip ?_
 refine W.seq (W.region ?_)
 refine RW.v ?_
 refine RW.ld H 2 1 ?_
 refine RW.ld H 1 2 ?_
 refine RW.ld H 0 2 ?_
 refine RW.cl ?_
 refine ((setCdrP (h := h) (l' := [(((1, 66) : Wd), ((2, 3) : Wd)), (((1, 66) : Wd), ((2, 6) : Wd)), (((0, a) : Wd), ((1, xn) : Wd)), (((2, 2) : Wd), ((1, 0) : Wd)), (((1, 66) : Wd), ((2, 8) : Wd)), (((1, 65) : Wd), ((2, 4) : Wd)), (((2, 5) : Wd), ((1, 0) : Wd)), (((1, xn) : Wd), ((1, yn) : Wd)), (((2, 7) : Wd), ((1, 0) : Wd))]) (2, 4) ((2, 8) : Wd) rfl H).mono ?_)
 clear H
 rintro _ _ ⟨rfl, H⟩
 refine RW.v ?_
 refine RW.nil ?_
 replace H := (((H.del 2).del 1).del 0)
 dsimp only [setL, delL] at H
 refine W.ret ?_
 refine endG (by rfl) (by exact resL_tmp rfl) ?_
 have H45 := H
 refine RW.v ?_
 refine RW.nil ?_
 refine ⟨⟨by kernel_rfl, ⟨dyn_row (H36.get 1 rfl) (H45.get 1 rfl) ⟨fun h => Bool.noConfusion h, fun h => Bool.noConfusion h, fun h => Bool.noConfusion h, fun h => Bool.noConfusion h, fun h => Bool.noConfusion h, fun h => Bool.noConfusion h, fun h => Bool.noConfusion h, fun _ => H36.get 1 rfl, fun h => Bool.noConfusion h, trivial⟩, dyn_row (H36.get 3 rfl) (H45.get 3 rfl) ⟨fun h => Bool.noConfusion h, fun h => Bool.noConfusion h, fun h => Bool.noConfusion h, fun h => Bool.noConfusion h, fun h => Bool.noConfusion h, fun h => Bool.noConfusion h, fun h => Bool.noConfusion h, fun _ => H36.get 3 rfl, fun h => Bool.noConfusion h, trivial⟩, trivial, trivial, trivial, dyn_row (H36.old _ _ hE) (H45.old _ _ hE) ⟨fun h => Bool.noConfusion h, fun h => Bool.noConfusion h, fun h => Bool.noConfusion h, fun h => Bool.noConfusion h, fun h => Bool.noConfusion h, fun h => Bool.noConfusion h, fun h => Bool.noConfusion h, fun _ => H36.old _ _ hE, fun h => Bool.noConfusion h, trivial⟩, dyn_row (H36.get 2 rfl) (H45.get 2 rfl) ⟨fun h => Bool.noConfusion h, fun h => Bool.noConfusion h, fun h => Bool.noConfusion h, fun h => Bool.noConfusion h, fun h => Bool.noConfusion h, fun h => Bool.noConfusion h, fun h => Bool.noConfusion h, fun _ => H36.get 2 rfl, fun h => Bool.noConfusion h, trivial⟩, trivial, trivial, trivial⟩⟩, ?_⟩
 replace H := H45
 clear H36 H45
 replace H := ((((H.del 3).del 2).del 1).del 0)
 dsimp only [setL, delL] at H
 refine W.ret ?_
 refine endG (by rfl) (by exact resL_tmp rfl) ?_
 exact ⟨rfl, H⟩
set_option maxHeartbeats 16000000 in
theorem def3_wc {a : Int} {xn : Int} (x0 : 62 ≤ xn) (x1 : xn ≤ 64) {yn : Int} (y0 : 2 ≤ yn) (y1 : yn ≤ 61) {zn : Int} (z0 : 2 ≤ zn) (z1 : zn ≤ 61) {eb : Nat} (hG : G65 ≤ σ0.next) (ha : σ0.abs = heapAbs h (hmP [(((1, 66) : Wd), ((2, 3) : Wd)), (((1, 66) : Wd), ((2, 6) : Wd)), (((0, a) : Wd), ((1, xn) : Wd)), (((2, 2) : Wd), ((1, 0) : Wd)), (((1, 66) : Wd), ((2, 8) : Wd)), (((1, 65) : Wd), ((2, 4) : Wd)), (((2, 5) : Wd), ((1, 0) : Wd)), (((1, xn) : Wd), ((1, yn) : Wd)), (((2, 7) : Wd), ((1, 0) : Wd))])) (hT : TabF σ0.get T) {thE : TypeId} {ghE : Bool} (hE : σ0.get eb = some (.row ⟨[.int .i64 1, .int .i64 65, .int .i64 1, .int .i64 yn], thE, ghE⟩)) : WC G65 Tryd.prog 12 #[.pointer (some ⟨h, 0, none⟩), .pointer (some ⟨T, 0, none⟩), .agg #[.int .i64 2, .int .i64 1], .slice (some ⟨eb, 0, none⟩) 2 2, .agg #[.int .i64 1, .int .i64 zn]] σ0 fun v σ' => v = .int .i64 0 ∧ Lies G65 (heapAbs h (hmP [(((1, 66) : Wd), ((2, 3) : Wd)), (((1, 66) : Wd), ((2, 6) : Wd)), (((0, a) : Wd), ((1, xn) : Wd)), (((2, 2) : Wd), ((1, 0) : Wd)), (((1, 66) : Wd), ((2, 10) : Wd)), (((1, 65) : Wd), ((2, 4) : Wd)), (((2, 5) : Wd), ((1, 0) : Wd)), (((1, xn) : Wd), ((1, yn) : Wd)), (((2, 7) : Wd), ((1, 0) : Wd)), (((1, yn) : Wd), ((1, zn) : Wd)), (((2, 9) : Wd), ((2, 8) : Wd))])) σ0.get σ' [] := by
 have H := Lies.start hG ha
 generalize σ0.get = F at H hT hE ⊢
 refine WC.enter (fn := Tryd.f12) Tryd.func12 rfl ?_
 refine W.rg [(0, pp h), (1, pp T), (2, .agg #[.int .i64 2, .int .i64 1]), (3, .slice (some ⟨eb, 0, none⟩) 2 2), (4, .agg #[.int .i64 1, .int .i64 zn])] fun TA => ?_
 refine W.seq (W.region ?_)
 refine RW.mk H (.row ⟨[.int .i64 2, .int .i64 1], 28, false⟩) ?_
 clear H; intro _ b1 _ H
 refine RW.mk H (.row ⟨[.int .i64 1, .int .i64 zn], 28, false⟩) ?_
 clear H; intro _ b2 _ H
 refine RW.v ?_
 refine RW.nil ?_
 refine W.rg [(0, pp h), (1, pp T), (3, .slice (some ⟨eb, 0, none⟩) 2 2), (7, pp b1), (9, pp b2)] fun TA => ?_
 refine W.seq (W.region ?_)
 iterate 2 refine RW.v ?_
 refine RW.cl ?_
 refine ((at_wc (Nat.le_of_ble_eq_true rfl) H.gn H.abs (hT.le H.old)).mono ?_)
 rintro _ _ ⟨rfl, K⟩
 replace H := H.then K
 clear K
 dsimp only [List.nil_append, List.cons_append] at H
 iterate 3 refine RW.v ?_
 refine RW.mk H (.row ⟨[.pointer none, .pointer none, .int .i64 0, .int .i64 0], 65, false⟩) ?_
 clear H; intro _ b3 _ H
 refine RW.st H 0 [pt h, pt T, .int .i64 1, .int .i64 66] [pt h, pt T, .int .i64 1, .int .i64 66] ?_
 clear H; intro _ _ H; dsimp only [setL, delL] at H
 refine RW.v ?_
 refine RW.nil ?_
 refine W.rg [(0, pp h), (3, .slice (some ⟨eb, 0, none⟩) 2 2), (7, pp b1), (9, pp b2), (11, pp b3), (12, .bool true)] fun TA => ?_
 refine W.seq ?_
 refine W.block ?_
 refine W.seq (W.region ?_)
 iterate 3 refine RW.v ?_
 refine RW.nil ?_
 refine W.c0 ?_
 refine W.seq (W.region ?_)
 refine RW.ld H 0 4 ?_
 refine RW.ld H 2 2 ?_
 refine RW.cl ?_
 refine ((isMap_y (h := h) (T := T) (w := (2, 1)) (d := ((2, 6) : Wd)) rfl H).mono ?_)
 clear H
 rintro _ _ ⟨rfl, H⟩
 iterate 2 refine RW.v ?_
 refine RW.nil ?_
 refine W.c0 ?_
 refine W.seq (W.region ?_)
 refine RW.v ?_
 refine RW.cl ?_
 refine WC.enter (fn := Tryd.f36) Tryd.func36 rfl ?_
 refine W.rg [(0, .slice (some ⟨eb, 0, none⟩) 2 2)] fun TA => ?_
 refine W.seq (W.region ?_)
 refine RW.v ?_
 refine RW.nil ?_
 refine W.rg [(0, .slice (some ⟨eb, 0, none⟩) 2 2)] fun TA => ?_
 refine W.seq ?_
 refine W.seq (W.region ?_)
 iterate 3 refine RW.v ?_
 refine RW.nil ?_
 refine W.rg [(0, .slice (some ⟨eb, 0, none⟩) 2 2), (5, .slice (some ⟨eb, 0, none⟩) 2 2), (6, .int .i64 2), (7, .int .i64 0)] fun TA => ?_
 refine W.block ?_
 refine W.unroll (WL.once ?_)
 refine W.seq (W.region ?_)
 refine RW.v ?_
 refine RW.nil ?_
 refine W.rg [(0, .slice (some ⟨eb, 0, none⟩) 2 2), (5, .slice (some ⟨eb, 0, none⟩) 2 2), (6, .int .i64 2), (7, .int .i64 0), (8, .bool true)] fun TA => ?_
 refine W.seq ?_
 refine W.c1 ?_
 refine W.skip ?_
 refine W.seq ?_
 refine W.block ?_
 refine W.seq (W.region ?_)
 refine RW.idx (s := 2) (by kernel_rfl) (by kernel_rfl) rfl Tryd.underlying35 (by kernel_rfl) rfl rfl ⟨by decide, by decide⟩ (by kernel_rfl) ?_
 refine RW.loads 2 (by kernel_rfl) (by kernel_rfl) rfl rfl (H.old _ _ hE) rfl rfl (by kernel_rfl) ?_
 refine RW.mk H (.row ⟨[.int .i64 0, .int .i64 0], 28, false⟩) ?_
 clear H; intro _ b4 _ H
 refine RW.st H 0 [.int .i64 1, .int .i64 65] [.int .i64 1, .int .i64 65] ?_
 clear H; intro _ _ H; dsimp only [setL, delL] at H
 refine RW.nil ?_
 refine W.rg [(0, .slice (some ⟨eb, 0, none⟩) 2 2), (4, pp b4), (5, .slice (some ⟨eb, 0, none⟩) 2 2), (6, .int .i64 2), (7, .int .i64 0)] fun TA => ?_
 refine W.seq (W.region ?_)
 refine RW.v ?_
 refine RW.ld H 0 1 ?_
 iterate 2 refine RW.v ?_
 refine RW.val (by rfl) (by kernel_rfl) rfl (by kernel_rfl) ?_
 refine RW.ldL H 0 1 (by rfl) (by kernel_rfl) rfl rfl rfl rfl rfl (by kernel_rfl) ?_
 refine RW.val (by rfl) (by kernel_rfl) rfl (by kernel_rfl) ?_
 refine RW.v ?_
 refine RW.nil ?_
 replace H := (H.del 0)
 dsimp only [setL, delL] at H
 refine W.c0 ?_
 refine W.skip ?_
 refine blkQ_normal ?_
 refine W.region ?_
 iterate 2 refine RW.v ?_
 refine RW.nil ?_
 refine WL.once ?_
 refine W.rg [(0, .slice (some ⟨eb, 0, none⟩) 2 2), (5, .slice (some ⟨eb, 0, none⟩) 2 2), (6, .int .i64 2), (7, .int .i64 1)] fun TA => ?_
 refine W.seq (W.region ?_)
 refine RW.v ?_
 refine RW.nil ?_
 refine W.rg [(0, .slice (some ⟨eb, 0, none⟩) 2 2), (5, .slice (some ⟨eb, 0, none⟩) 2 2), (6, .int .i64 2), (7, .int .i64 1), (8, .bool true)] fun TA => ?_
 refine W.seq ?_
 refine W.c1 ?_
 refine W.skip ?_
 refine W.seq ?_
 refine W.block ?_
 refine W.seq (W.region ?_)
 refine RW.idx (s := 2) (by kernel_rfl) (by kernel_rfl) rfl Tryd.underlying35 (by kernel_rfl) rfl rfl ⟨by decide, by decide⟩ (by kernel_rfl) ?_
 refine RW.loads 2 (by kernel_rfl) (by kernel_rfl) rfl rfl (H.old _ _ hE) rfl rfl (by kernel_rfl) ?_
 refine RW.mk H (.row ⟨[.int .i64 0, .int .i64 0], 28, false⟩) ?_
 clear H; intro _ b5 _ H
 refine RW.st H 0 [.int .i64 1, .int .i64 yn] [.int .i64 1, .int .i64 yn] ?_
 clear H; intro _ _ H; dsimp only [setL, delL] at H
 refine RW.nil ?_
 refine W.rg [(0, .slice (some ⟨eb, 0, none⟩) 2 2), (4, pp b5), (5, .slice (some ⟨eb, 0, none⟩) 2 2), (6, .int .i64 2), (7, .int .i64 1)] fun TA => ?_
 refine W.seq (W.region ?_)
 refine RW.v ?_
 refine RW.ld H 0 1 ?_
 iterate 2 refine RW.v ?_
 refine RW.val (by rfl) (by kernel_rfl) rfl (by kernel_rfl) ?_
 refine RW.ldL H 0 1 (by rfl) (by kernel_rfl) rfl rfl rfl rfl rfl (by kernel_rfl) ?_
 refine RW.val (by rfl) (by kernel_rfl) rfl (by kernel_rfl) ?_
 refine RW.v ?_
 refine RW.nil ?_
 replace H := (H.del 0)
 dsimp only [setL, delL] at H
 refine W.c0 ?_
 refine W.skip ?_
 refine blkQ_normal ?_
 refine W.region ?_
 iterate 2 refine RW.v ?_
 refine RW.nil ?_
 refine WL.once ?_
 refine W.rg [(0, .slice (some ⟨eb, 0, none⟩) 2 2), (5, .slice (some ⟨eb, 0, none⟩) 2 2), (6, .int .i64 2), (7, .int .i64 2)] fun TA => ?_
 refine W.seq (W.region ?_)
 refine RW.v ?_
 refine RW.nil ?_
 refine W.rg [(0, .slice (some ⟨eb, 0, none⟩) 2 2), (5, .slice (some ⟨eb, 0, none⟩) 2 2), (6, .int .i64 2), (7, .int .i64 2), (8, .bool false)] fun TA => ?_
 refine W.seq ?_
 refine W.c0 ?_
 refine W.exit _ ?_
 refine seqQ_exit ?_
 refine onceQ_exit ?_
 refine blkQ_here ?_
 refine W.seq (W.region ?_)
 iterate 4 refine RW.v ?_
 refine RW.val (by rfl) (by kernel_rfl) rfl (by kernel_rfl) ?_
 refine RW.val (by rfl) (by kernel_rfl) rfl (by kernel_rfl) ?_
 refine RW.val (by rfl) (by kernel_rfl) rfl (by kernel_rfl) ?_
 iterate 2 refine RW.v ?_
 refine RW.nil ?_
 refine W.ret ?_
 refine endG (by rfl) (by exact resL_tmp rfl) ?_
 iterate 2 refine RW.v ?_
 refine RW.nil ?_
 refine W.c0 ?_
 refine W.skip ?_
 refine blkQ_normal ?_
 refine W.seq (W.region ?_)
 iterate 4 refine RW.v ?_
 refine RW.nil ?_
 refine W.rg [(0, pp h), (3, .slice (some ⟨eb, 0, none⟩) 2 2), (7, pp b1), (9, pp b2), (11, pp b3), (13, .int .i64 1)] fun TA => ?_
 refine W.seq ?_
 refine W.seq (W.region ?_)
 iterate 2 refine RW.v ?_
 refine RW.val (v := .slice (some ⟨eb, 0, none⟩) 1 2) (by kernel_rfl) (by kernel_rfl) (by kernel_rfl) (by kernel_rfl) ?_
 iterate 2 refine RW.v ?_
 refine RW.nil ?_
 refine W.rg [(0, pp h), (3, .slice (some ⟨eb, 0, none⟩) 2 2), (7, pp b1), (9, pp b2), (11, pp b3), (13, .int .i64 1), (43, .slice (some ⟨eb, 0, none⟩) 1 2), (44, .int .i64 1), (45, .int .i64 0)] fun TA => ?_
 refine W.block ?_
 refine W.unroll (WL.once ?_)
 refine W.seq (W.region ?_)
 refine RW.v ?_
 refine RW.nil ?_
 refine W.rg [(0, pp h), (3, .slice (some ⟨eb, 0, none⟩) 2 2), (7, pp b1), (9, pp b2), (11, pp b3), (13, .int .i64 1), (43, .slice (some ⟨eb, 0, none⟩) 1 2), (44, .int .i64 1), (45, .int .i64 0), (46, .bool true)] fun TA => ?_
 refine W.seq ?_
 refine W.c1 ?_
 refine W.skip ?_
 refine W.seq ?_
 refine W.block ?_
 refine W.seq (W.region ?_)
 refine RW.idx (s := 2) (by kernel_rfl) (by kernel_rfl) rfl Tryd.underlying35 (by kernel_rfl) rfl rfl ⟨by decide, by decide⟩ (by kernel_rfl) ?_
 refine RW.loads 2 (by kernel_rfl) (by kernel_rfl) rfl rfl (H.old _ _ hE) rfl rfl (by kernel_rfl) ?_
 refine RW.mk H (.row ⟨[.int .i64 0, .int .i64 0], 28, false⟩) ?_
 clear H; intro _ b6 _ H
 refine RW.st H 0 [.int .i64 1, .int .i64 65] [.int .i64 1, .int .i64 65] ?_
 clear H; intro _ _ H; dsimp only [setL, delL] at H
 refine RW.nil ?_
 refine W.rg [(0, pp h), (3, .slice (some ⟨eb, 0, none⟩) 2 2), (7, pp b1), (9, pp b2), (11, pp b3), (13, .int .i64 1), (15, pp b6), (43, .slice (some ⟨eb, 0, none⟩) 1 2), (44, .int .i64 1), (45, .int .i64 0)] fun TA => ?_
 refine W.seq (W.region ?_)
 refine RW.ld H 1 4 ?_
 refine RW.ld H 3 2 ?_
 refine RW.ld H 0 2 ?_
 refine RW.cl ?_
 refine WC.enter (fn := Tryd.f37) Tryd.func37 rfl ?_
 refine W.rg [(0, .agg #[pp h, pp T, .int .i64 1, .int .i64 66]), (1, .agg #[.int .i64 2, .int .i64 1]), (2, .agg #[.int .i64 1, .int .i64 65])] fun TA => ?_
 refine W.seq (W.region ?_)
 refine RW.mk H (.row ⟨[pt h, pt T, .int .i64 1, .int .i64 66], 65, false⟩) ?_
 clear H; intro _ b7 _ H
 refine RW.mk H (.row ⟨[.int .i64 2, .int .i64 1], 28, false⟩) ?_
 clear H; intro _ b8 _ H
 refine RW.mk H (.row ⟨[.int .i64 1, .int .i64 65], 28, false⟩) ?_
 clear H; intro _ b9 _ H
 refine RW.mk H (.row ⟨[.int .i64 0, .int .i64 0], 28, false⟩) ?_
 clear H; intro _ b10 _ H
 refine RW.v ?_
 refine RW.nil ?_
 refine W.rg [(3, pp b7), (4, pp b8), (5, pp b9), (6, pp b10)] fun TA => ?_
 refine W.seq (W.region ?_)
 refine RW.ld H 3 4 ?_
 refine RW.ld H 2 2 ?_
 refine RW.ld H 1 2 ?_
 refine RW.cl ?_
 refine ((ownB_wc (h := h) (T := T) (ev := ((1, 65) : Wd)) mp3 (Nat.le_of_ble_eq_true rfl) H.gn H.abs).mono ?_)
 rintro _ _ ⟨e, K⟩
 replace H := H.then K
 clear K
 dsimp only [List.nil_append, List.cons_append] at H
 replace e := e.trans (show _ = .tuple #[.agg #[.int .i64 1, .int .i64 65, .int .i64 2, .int .i64 4, .int .i64 2, .int .i64 5], .bool true] from (ownV_yes (by simp [pB] <;> omega)))
 subst e
 iterate 3 refine RW.v ?_
 refine RW.mk H (.row ⟨[.int .i64 0, .int .i64 0, .int .i64 0, .int .i64 0, .int .i64 0, .int .i64 0], 73, false⟩) ?_
 clear H; intro _ b11 _ H
 refine RW.st H 0 [.int .i64 1, .int .i64 65, .int .i64 2, .int .i64 4, .int .i64 2, .int .i64 5] [.int .i64 1, .int .i64 65, .int .i64 2, .int .i64 4, .int .i64 2, .int .i64 5] ?_
 clear H; intro _ _ H; dsimp only [setL, delL] at H
 refine RW.v ?_
 refine RW.nil ?_
 refine W.rg [(3, pp b7), (4, pp b8), (5, pp b9), (6, pp b10), (8, pp b11), (9, .bool true)] fun TA => ?_
 refine W.seq ?_
 refine W.seq (W.region ?_)
 refine RW.v ?_
 refine RW.nil ?_
 refine W.c1 ?_
 refine W.seq (W.region ?_)
 refine RW.ld H 4 4 ?_
 iterate 2 refine RW.v ?_
 refine RW.ld H 0 2 ?_
 refine RW.cl ?_
 refine WC.enter (fn := Tryd.f52) Tryd.func52 rfl ?_
 refine W.rg [(0, .agg #[pp h, pp T, .int .i64 1, .int .i64 66]), (1, .agg #[.int .i64 2, .int .i64 4])] fun TA => ?_
 refine W.seq (W.region ?_)
 refine RW.mk H (.row ⟨[pt h, pt T, .int .i64 1, .int .i64 66], 65, false⟩) ?_
 clear H; intro _ b12 _ H
 refine RW.mk H (.row ⟨[.int .i64 2, .int .i64 4], 28, false⟩) ?_
 clear H; intro _ b13 _ H
 refine RW.mk H (.row ⟨[.int .i64 0, .int .i64 0], 28, false⟩) ?_
 clear H; intro _ b14 _ H
 refine RW.v ?_
 refine RW.nil ?_
 refine W.rg [(2, pp b12), (3, pp b13), (4, pp b14)] fun TA => ?_
 refine W.seq ?_
 refine W.seq (W.region ?_)
 refine RW.v ?_
 refine RW.ld H 1 1 ?_
 refine RW.v ?_
 refine RW.nil ?_
 refine W.c0 ?_
 refine W.skip ?_
 refine W.seq ?_
 refine W.drawn (by kernel_rfl) (by kernel_rfl) H.gn ?_
 have H15 := H
 refine RW.ld H15 1 2 ?_
 refine RW.ld H15 2 4 ?_
 refine RW.ld H15 1 2 ?_
 refine RW.cl ?_
 refine ((isMap_y (h := h) (T := T) (w := (2, 4)) (d := ((2, 8) : Wd)) rfl H15).mono ?_)
 rintro _ _ ⟨rfl, H16⟩
 refine RW.stD H16 0 (vs := [.int .i64 2, .int .i64 4]) (cs' := [.int .i64 2, .int .i64 4]) (by kernel_rfl) (by kernel_rfl) rfl rfl rfl rfl rfl (by kernel_rfl) (Nat.le_of_ble_eq_true rfl) rfl (by kernel_rfl) ?_
 intro _ H17
 dsimp only [setL, delL] at H17
 refine RW.v ?_
 refine RW.nil ?_
 refine ⟨⟨by kernel_rfl, ⟨dyn_row (H15.get 1 rfl) (H17.get 1 rfl) ⟨fun h => Bool.noConfusion h, fun h => Bool.noConfusion h, fun h => Bool.noConfusion h, fun _ => H15.get 1 rfl, fun _ => H16.get 1 rfl, fun h => Bool.noConfusion h, trivial⟩, dyn_row (H15.get 2 rfl) (H17.get 2 rfl) ⟨fun h => Bool.noConfusion h, fun h => Bool.noConfusion h, fun h => Bool.noConfusion h, fun _ => H15.get 2 rfl, fun _ => H16.get 2 rfl, fun h => Bool.noConfusion h, trivial⟩, dyn_row (H15.get 1 rfl) (H17.get 1 rfl) ⟨fun h => Bool.noConfusion h, fun h => Bool.noConfusion h, fun h => Bool.noConfusion h, fun _ => H15.get 1 rfl, fun _ => H16.get 1 rfl, fun h => Bool.noConfusion h, trivial⟩, trivial, trivial, trivial, trivial⟩⟩, ?_⟩
 replace H := H17
 clear H15 H16 H17
 replace H := ((H.del 2).del 1)
 dsimp only [setL, delL] at H
 refine W.ret ?_
 refine endG (by rfl) (by exact resL_cell rfl (H.get 0 rfl) (by rw [uT_eq]; exact Tryd.underlying28) (by kernel_rfl) rfl rfl (by exact resL_tmp rfl)) ?_
 iterate 3 refine RW.v ?_
 refine RW.mk H (.row ⟨[.int .i64 0, .int .i64 0], 28, false⟩) ?_
 clear H; intro _ b18 _ H
 refine RW.st H 0 [.int .i64 2, .int .i64 4] [.int .i64 2, .int .i64 4] ?_
 clear H; intro _ _ H; dsimp only [setL, delL] at H
 refine RW.v ?_
 refine RW.nil ?_
 replace H := (((((H.del 6).del 5).del 4).del 2).del 1)
 dsimp only [setL, delL] at H
 refine W.rg [(6, pp b10), (10, pp b18), (11, .bool true)] fun TA => ?_
 refine W.seq ?_
 refine W.seq (W.region ?_)
 iterate 2 refine RW.v ?_
 refine RW.nil ?_
 refine W.c0 ?_
 refine W.skip ?_
 refine W.seq (W.region ?_)
 refine RW.ld H 0 2 ?_
 refine RW.st H 1 [.int .i64 2, .int .i64 4] [.int .i64 2, .int .i64 4] ?_
 clear H; intro _ _ H; dsimp only [setL, delL] at H
 refine RW.v ?_
 refine RW.nil ?_
 replace H := (H.del 0)
 dsimp only [setL, delL] at H
 refine W.ret ?_
 refine seqQ_ret ?_
 refine endG (by rfl) (by exact resL_cell rfl (H.get 0 rfl) (by rw [uT_eq]; exact Tryd.underlying28) (by kernel_rfl) rfl rfl (by exact resL_tmp rfl)) ?_
 iterate 3 refine RW.v ?_
 refine RW.mk H (.row ⟨[.int .i64 0, .int .i64 0], 28, false⟩) ?_
 clear H; intro _ b19 _ H
 refine RW.st H 0 [.int .i64 2, .int .i64 4] [.int .i64 2, .int .i64 4] ?_
 clear H; intro _ _ H; dsimp only [setL, delL] at H
 refine RW.v ?_
 refine RW.nil ?_
 replace H := ((H.del 2).del 1)
 dsimp only [setL, delL] at H
 refine W.rg [(0, pp h), (3, .slice (some ⟨eb, 0, none⟩) 2 2), (7, pp b1), (9, pp b2), (11, pp b3), (13, .int .i64 1), (16, pp b19), (17, .int .i64 0), (43, .slice (some ⟨eb, 0, none⟩) 1 2), (44, .int .i64 1), (45, .int .i64 0)] fun TA => ?_
 refine W.seq ?_
 refine W.seq (W.region ?_)
 iterate 2 refine RW.v ?_
 refine RW.nil ?_
 refine W.c0 ?_
 refine W.skip ?_
 refine W.region ?_
 refine RW.ld H 0 2 ?_
 refine RW.st H 3 [.int .i64 2, .int .i64 4] [.int .i64 2, .int .i64 4] ?_
 clear H; intro _ _ H; dsimp only [setL, delL] at H
 refine RW.nil ?_
 replace H := (H.del 0)
 dsimp only [setL, delL] at H
 refine blkQ_normal ?_
 refine W.rg [(0, pp h), (3, .slice (some ⟨eb, 0, none⟩) 2 2), (7, pp b1), (9, pp b2), (11, pp b3), (13, .int .i64 1), (43, .slice (some ⟨eb, 0, none⟩) 1 2), (44, .int .i64 1), (45, .int .i64 0)] fun TA => ?_
 refine W.region ?_
 iterate 2 refine RW.v ?_
 refine RW.nil ?_
 refine WL.once ?_
 refine W.rg [(0, pp h), (3, .slice (some ⟨eb, 0, none⟩) 2 2), (7, pp b1), (9, pp b2), (11, pp b3), (13, .int .i64 1), (43, .slice (some ⟨eb, 0, none⟩) 1 2), (44, .int .i64 1), (45, .int .i64 1)] fun TA => ?_
 refine W.seq (W.region ?_)
 refine RW.v ?_
 refine RW.nil ?_
 refine W.rg [(0, pp h), (3, .slice (some ⟨eb, 0, none⟩) 2 2), (7, pp b1), (9, pp b2), (11, pp b3), (13, .int .i64 1), (43, .slice (some ⟨eb, 0, none⟩) 1 2), (44, .int .i64 1), (45, .int .i64 1), (46, .bool false)] fun TA => ?_
 refine W.seq ?_
 refine W.c0 ?_
 refine W.exit _ ?_
 refine seqQ_exit ?_
 refine onceQ_exit ?_
 refine blkQ_here ?_
 refine W.seq ?_
 refine W.seq ?_
 refine W.drawn (by kernel_rfl) (by kernel_rfl) H.gn ?_
 have H20 := H
 refine RW.ld H20 0 4 ?_
 refine RW.ld H20 2 2 ?_
 iterate 2 refine RW.v ?_
 refine RW.idx (s := 2) (by kernel_rfl) (by kernel_rfl) rfl Tryd.underlying35 (by kernel_rfl) rfl rfl ⟨by decide, by decide⟩ (by kernel_rfl) ?_
 refine RW.loads 2 (by kernel_rfl) (by kernel_rfl) rfl rfl (H20.old _ _ hE) rfl rfl (by kernel_rfl) ?_
 refine RW.cl ?_
 refine ((ownA_wc (h := h) (T := T) (ev := ((1, yn) : Wd)) mp4 (Nat.le_of_ble_eq_true rfl) H20.gn H20.abs).mono ?_)
 rintro _ _ ⟨e, K21⟩
 have H22 := H20.then K21
 dsimp only [List.nil_append, List.cons_append] at H22
 replace e := e.trans (show _ = .tuple #[.agg #[.int .i64 0, .int .i64 0, .int .i64 0, .int .i64 0, .int .i64 0, .int .i64 0], .bool false] from ((ownV_no (by simp [pA] <;> omega)).trans ownV_nil))
 subst e
 iterate 3 refine RW.v ?_
 refine RW.mkD H22 (x := .row ⟨[.int .i64 0, .int .i64 0, .int .i64 0, .int .i64 0, .int .i64 0, .int .i64 0], 73, false⟩) (fm := fun b => .pointer (some ⟨b, 0, none⟩)) (by kernel_rfl) (by kernel_rfl) (by kernel_rfl) (by kernel_rfl) ?_
 intro _ b23 H24
 refine RW.stD H24 0 (vs := [.int .i64 0, .int .i64 0, .int .i64 0, .int .i64 0, .int .i64 0, .int .i64 0]) (cs' := [.int .i64 0, .int .i64 0, .int .i64 0, .int .i64 0, .int .i64 0, .int .i64 0]) (by kernel_rfl) (by kernel_rfl) rfl rfl rfl rfl rfl (by kernel_rfl) (Nat.le_of_ble_eq_true rfl) rfl (by kernel_rfl) ?_
 intro _ H25
 dsimp only [setL, delL] at H25
 refine RW.v ?_
 refine RW.nil ?_
 refine ⟨⟨by kernel_rfl, ⟨dyn_row (H20.get 0 rfl) (H25.get 1 rfl) ⟨fun h => Bool.noConfusion h, fun h => Bool.noConfusion h, fun h => Bool.noConfusion h, fun h => Bool.noConfusion h, fun h => Bool.noConfusion h, fun h => Bool.noConfusion h, fun _ => H20.get 0 rfl, fun h => Bool.noConfusion h, fun h => Bool.noConfusion h, fun h => Bool.noConfusion h, fun h => Bool.noConfusion h, fun _ => H24.get 1 rfl, fun h => Bool.noConfusion h, trivial⟩, dyn_row (H20.get 2 rfl) (H25.get 3 rfl) ⟨fun h => Bool.noConfusion h, fun h => Bool.noConfusion h, fun h => Bool.noConfusion h, fun h => Bool.noConfusion h, fun h => Bool.noConfusion h, fun h => Bool.noConfusion h, fun _ => H20.get 2 rfl, fun h => Bool.noConfusion h, fun h => Bool.noConfusion h, fun h => Bool.noConfusion h, fun h => Bool.noConfusion h, fun _ => H24.get 3 rfl, fun h => Bool.noConfusion h, trivial⟩, trivial, trivial, trivial, dyn_row (H20.old _ _ hE) (H25.old _ _ hE) ⟨fun h => Bool.noConfusion h, fun h => Bool.noConfusion h, fun h => Bool.noConfusion h, fun h => Bool.noConfusion h, fun h => Bool.noConfusion h, fun h => Bool.noConfusion h, fun _ => H20.old _ _ hE, fun h => Bool.noConfusion h, fun h => Bool.noConfusion h, fun h => Bool.noConfusion h, fun h => Bool.noConfusion h, fun _ => H24.old _ _ hE, fun h => Bool.noConfusion h, trivial⟩, trivial, trivial, trivial, trivial, Or.inl (by kernel_rfl), trivial, trivial, trivial⟩⟩, ?_⟩
 replace H := H25
 clear H20 H22 H24 H25
 refine W.rg [(0, pp h), (3, .slice (some ⟨eb, 0, none⟩) 2 2), (7, pp b1), (9, pp b2), (11, pp b3), (13, .int .i64 1), (18, pp b23), (19, .bool false)] fun TA => ?_
 refine W.seq (W.region ?_)
 refine RW.v ?_
 refine RW.nil ?_
 refine W.c0 ?_
 refine W.skip ?_
 refine W.seq ?_
 refine W.drawn (by kernel_rfl) (by kernel_rfl) H.gn ?_
 have H26 := H
 refine RW.ld H26 1 4 ?_
 refine RW.ld H26 3 2 ?_
 iterate 2 refine RW.v ?_
 refine RW.idx (s := 2) (by kernel_rfl) (by kernel_rfl) rfl Tryd.underlying35 (by kernel_rfl) rfl rfl ⟨by decide, by decide⟩ (by kernel_rfl) ?_
 refine RW.loads 2 (by kernel_rfl) (by kernel_rfl) rfl rfl (H26.old _ _ hE) rfl rfl (by kernel_rfl) ?_
 refine RW.ld H26 2 2 ?_
 refine RW.cl ?_
 refine WC.enter (fn := Tryd.f41) Tryd.func41 rfl ?_
 replace H := H26
 refine W.rg [(0, .agg #[pp h, pp T, .int .i64 1, .int .i64 66]), (1, .agg #[.int .i64 2, .int .i64 4]), (2, .agg #[.int .i64 1, .int .i64 yn]), (3, .agg #[.int .i64 1, .int .i64 zn])] fun TA => ?_
 refine W.seq (W.region ?_)
 refine RW.mk H (.row ⟨[pt h, pt T, .int .i64 1, .int .i64 66], 65, false⟩) ?_
 clear H; intro _ b27 _ H
 refine RW.mk H (.row ⟨[.int .i64 2, .int .i64 4], 28, false⟩) ?_
 clear H; intro _ b28 _ H
 refine RW.mk H (.row ⟨[.int .i64 1, .int .i64 yn], 28, false⟩) ?_
 clear H; intro _ b29 _ H
 refine RW.mk H (.row ⟨[.int .i64 1, .int .i64 zn], 28, false⟩) ?_
 clear H; intro _ b30 _ H
 refine RW.v ?_
 refine RW.nil ?_
 refine W.rg [(4, pp b27), (5, pp b28), (6, pp b29), (7, pp b30)] fun TA => ?_
 refine W.seq (W.region ?_)
 refine RW.v ?_
 refine RW.ld H 3 1 ?_
 refine RW.ld H 1 2 ?_
 refine RW.ld H 0 2 ?_
 refine RW.cl ?_
 refine ((consP (h := h) (k := 9) ((1, yn) : Wd) ((1, zn) : Wd) H (Nat.le_of_ble_eq_true rfl) rfl).mono ?_)
 clear H
 rintro _ _ ⟨rfl, H⟩
 replace H : Lies G65 (heapAbs h (hmP [(((1, 66) : Wd), ((2, 3) : Wd)), (((1, 66) : Wd), ((2, 6) : Wd)), (((0, a) : Wd), ((1, xn) : Wd)), (((2, 2) : Wd), ((1, 0) : Wd)), (((1, 66) : Wd), ((2, 8) : Wd)), (((1, 65) : Wd), ((2, 4) : Wd)), (((2, 5) : Wd), ((1, 0) : Wd)), (((1, xn) : Wd), ((1, yn) : Wd)), (((2, 7) : Wd), ((1, 0) : Wd)), (((1, yn) : Wd), ((1, zn) : Wd))])) F _ [.at_ b30 (.row ⟨[.int .i64 1, .int .i64 zn], 28, false⟩), .at_ b29 (.row ⟨[.int .i64 1, .int .i64 yn], 28, false⟩), .at_ b28 (.row ⟨[.int .i64 2, .int .i64 4], 28, false⟩), .at_ b27 (.row ⟨[.pointer (some ⟨h, 0, none⟩), .pointer (some ⟨T, 0, none⟩), .int .i64 1, .int .i64 66], 65, false⟩), .at_ b23 (.row ⟨[.int .i64 0, .int .i64 0, .int .i64 0, .int .i64 0, .int .i64 0, .int .i64 0], 73, false⟩), .at_ b3 (.row ⟨[.pointer (some ⟨h, 0, none⟩), .pointer (some ⟨T, 0, none⟩), .int .i64 1, .int .i64 66], 65, false⟩), .at_ b2 (.row ⟨[.int .i64 1, .int .i64 zn], 28, false⟩), .at_ b1 (.row ⟨[.int .i64 2, .int .i64 4], 28, false⟩)] := H
 iterate 3 refine RW.v ?_
 refine RW.mk H (.row ⟨[.int .i64 0, .int .i64 0], 28, false⟩) ?_
 clear H; intro _ b31 _ H
 refine RW.st H 0 [.int .i64 2, .int .i64 9] [.int .i64 2, .int .i64 9] ?_
 clear H; intro _ _ H; dsimp only [setL, delL] at H
 refine RW.v ?_
 refine RW.nil ?_
 replace H := ((H.del 2).del 1)
 dsimp only [setL, delL] at H
 refine W.rg [(4, pp b27), (5, pp b28), (9, pp b31), (10, .int .i64 0)] fun TA => ?_
 refine W.seq ?_
 refine W.seq (W.region ?_)
 iterate 2 refine RW.v ?_
 refine RW.nil ?_
 refine W.c0 ?_
 refine W.skip ?_
 refine W.seq (W.region ?_)
 refine RW.ld H 2 4 ?_
 refine RW.ld H 1 2 ?_
 refine RW.cl ?_
 refine ((cons_y (h := h) (T := T) (w := (2, 4)) (a := ((1, 66) : Wd)) (d := ((2, 8) : Wd)) rfl H).mono ?_)
 clear H
 rintro _ _ ⟨rfl, H⟩
 iterate 4 refine RW.v ?_
 refine RW.mk H (.row ⟨[.int .i64 0, .int .i64 0], 28, false⟩) ?_
 clear H; intro _ b32 _ H
 refine RW.mk H (.row ⟨[.int .i64 0, .int .i64 0], 28, false⟩) ?_
 clear H; intro _ b33 _ H
 refine RW.st H 1 [.int .i64 1, .int .i64 66] [.int .i64 1, .int .i64 66] ?_
 clear H; intro _ _ H; dsimp only [setL, delL] at H
 refine RW.st H 0 [.int .i64 2, .int .i64 8] [.int .i64 2, .int .i64 8] ?_
 clear H; intro _ _ H; dsimp only [setL, delL] at H
 refine RW.v ?_
 refine RW.nil ?_
 replace H := (H.del 1)
 dsimp only [setL, delL] at H
 refine W.rg [(4, pp b27), (5, pp b28), (9, pp b31), (12, pp b33)] fun TA => ?_
 refine W.seq (W.region ?_)
 refine RW.v ?_
 refine RW.ld H 3 1 ?_
 refine RW.ld H 1 2 ?_
 refine RW.ld H 0 2 ?_
 refine RW.cl ?_
 refine ((consP (h := h) (k := 10) ((2, 9) : Wd) ((2, 8) : Wd) H (Nat.le_of_ble_eq_true rfl) rfl).mono ?_)
 clear H
 rintro _ _ ⟨rfl, H⟩
 replace H : Lies G65 (heapAbs h (hmP [(((1, 66) : Wd), ((2, 3) : Wd)), (((1, 66) : Wd), ((2, 6) : Wd)), (((0, a) : Wd), ((1, xn) : Wd)), (((2, 2) : Wd), ((1, 0) : Wd)), (((1, 66) : Wd), ((2, 8) : Wd)), (((1, 65) : Wd), ((2, 4) : Wd)), (((2, 5) : Wd), ((1, 0) : Wd)), (((1, xn) : Wd), ((1, yn) : Wd)), (((2, 7) : Wd), ((1, 0) : Wd)), (((1, yn) : Wd), ((1, zn) : Wd)), (((2, 9) : Wd), ((2, 8) : Wd))])) F _ [.at_ b33 (.row ⟨[.int .i64 2, .int .i64 8], 28, false⟩), .at_ b31 (.row ⟨[.int .i64 2, .int .i64 9], 28, false⟩), .at_ b28 (.row ⟨[.int .i64 2, .int .i64 4], 28, false⟩), .at_ b27 (.row ⟨[.pointer (some ⟨h, 0, none⟩), .pointer (some ⟨T, 0, none⟩), .int .i64 1, .int .i64 66], 65, false⟩), .at_ b23 (.row ⟨[.int .i64 0, .int .i64 0, .int .i64 0, .int .i64 0, .int .i64 0, .int .i64 0], 73, false⟩), .at_ b3 (.row ⟨[.pointer (some ⟨h, 0, none⟩), .pointer (some ⟨T, 0, none⟩), .int .i64 1, .int .i64 66], 65, false⟩), .at_ b2 (.row ⟨[.int .i64 1, .int .i64 zn], 28, false⟩), .at_ b1 (.row ⟨[.int .i64 2, .int .i64 4], 28, false⟩)] := H
 iterate 3 refine RW.v ?_
 refine RW.mk H (.row ⟨[.int .i64 0, .int .i64 0], 28, false⟩) ?_
 clear H; intro _ b34 _ H
 refine RW.st H 0 [.int .i64 2, .int .i64 10] [.int .i64 2, .int .i64 10] ?_
 clear H; intro _ _ H; dsimp only [setL, delL] at H
 refine RW.v ?_
 refine RW.nil ?_
 replace H := ((H.del 2).del 1)
 dsimp only [setL, delL] at H
 refine W.rg [(4, pp b27), (5, pp b28), (10, .int .i64 0), (14, pp b34)] fun TA => ?_
 refine W.seq ?_
 refine W.seq (W.region ?_)
 iterate 2 refine RW.v ?_
 refine RW.nil ?_
 refine W.c0 ?_
 refine W.skip ?_
 refine W.seq (W.region ?_)
 refine RW.v ?_
 refine RW.ld H 2 1 ?_
 refine RW.ld H 1 2 ?_
 refine RW.ld H 0 2 ?_
 refine RW.cl ?_
 refine ((setCdrP (h := h) (l' := [(((1, 66) : Wd), ((2, 3) : Wd)), (((1, 66) : Wd), ((2, 6) : Wd)), (((0, a) : Wd), ((1, xn) : Wd)), (((2, 2) : Wd), ((1, 0) : Wd)), (((1, 66) : Wd), ((2, 10) : Wd)), (((1, 65) : Wd), ((2, 4) : Wd)), (((2, 5) : Wd), ((1, 0) : Wd)), (((1, xn) : Wd), ((1, yn) : Wd)), (((2, 7) : Wd), ((1, 0) : Wd)), (((1, yn) : Wd), ((1, zn) : Wd)), (((2, 9) : Wd), ((2, 8) : Wd))]) (2, 4) ((2, 10) : Wd) rfl H).mono ?_)
 clear H
 rintro _ _ ⟨rfl, H⟩
 refine RW.v ?_
 refine RW.nil ?_
 replace H := (((H.del 2).del 1).del 0)
 dsimp only [setL, delL] at H
 refine W.ret ?_
 refine endG (by rfl) (by exact resL_tmp rfl) ?_
 have H35 := H
 refine RW.v ?_
 refine RW.nil ?_
 refine ⟨⟨by kernel_rfl, ⟨dyn_row (H26.get 1 rfl) (H35.get 1 rfl) ⟨fun h => Bool.noConfusion h, fun h => Bool.noConfusion h, fun h => Bool.noConfusion h, fun h => Bool.noConfusion h, fun h => Bool.noConfusion h, fun h => Bool.noConfusion h, fun h => Bool.noConfusion h, fun _ => H26.get 1 rfl, fun h => Bool.noConfusion h, trivial⟩, dyn_row (H26.get 3 rfl) (H35.get 3 rfl) ⟨fun h => Bool.noConfusion h, fun h => Bool.noConfusion h, fun h => Bool.noConfusion h, fun h => Bool.noConfusion h, fun h => Bool.noConfusion h, fun h => Bool.noConfusion h, fun h => Bool.noConfusion h, fun _ => H26.get 3 rfl, fun h => Bool.noConfusion h, trivial⟩, trivial, trivial, trivial, dyn_row (H26.old _ _ hE) (H35.old _ _ hE) ⟨fun h => Bool.noConfusion h, fun h => Bool.noConfusion h, fun h => Bool.noConfusion h, fun h => Bool.noConfusion h, fun h => Bool.noConfusion h, fun h => Bool.noConfusion h, fun h => Bool.noConfusion h, fun _ => H26.old _ _ hE, fun h => Bool.noConfusion h, trivial⟩, dyn_row (H26.get 2 rfl) (H35.get 2 rfl) ⟨fun h => Bool.noConfusion h, fun h => Bool.noConfusion h, fun h => Bool.noConfusion h, fun h => Bool.noConfusion h, fun h => Bool.noConfusion h, fun h => Bool.noConfusion h, fun h => Bool.noConfusion h, fun _ => H26.get 2 rfl, fun h => Bool.noConfusion h, trivial⟩, trivial, trivial, trivial⟩⟩, ?_⟩
 replace H := H35
 clear H26 H35
 replace H := ((((H.del 3).del 2).del 1).del 0)
 dsimp only [setL, delL] at H
 refine W.ret ?_
 refine endG (by rfl) (by exact resL_tmp rfl) ?_
 exact ⟨rfl, H⟩
end
end Go.Proofs.YtdbmflnkdoeaoaaDoor
