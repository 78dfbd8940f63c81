/-
 Active on the heaps of KeymapRemaps. Conditions: the heap lies there as HeapAt says.
-/
import Derived.Test.YtdbmflnkdoeaoaaDoorKrc
namespace Go.Proofs.YtdbmflnkdoeaoaaDoor
set_option maxRecDepth 100000
section
variable {h T : Nat} {m : HM} {σ0 : Mem}
set_option maxHeartbeats 16000000 in
theorem act1_wc {a : Int} {xn : Int} (x0 : 62 ≤ xn) (x1 : xn ≤ 64) {yn : Int} (y0 : 2 ≤ yn) (y1 : yn ≤ 61) {zn : Int} (z0 : 2 ≤ zn) (z1 : zn ≤ 61) {mb : Nat} {eb : Nat} (hG : G65 ≤ σ0.next) (ha : σ0.abs = heapAbs h (hmP [(((1, 66) : Wd), ((2, 3) : Wd)), (((1, 66) : Wd), ((2, 6) : Wd)), (((0, a) : Wd), ((1, xn) : Wd)), (((2, 2) : Wd), ((1, 0) : Wd)), (((1, 66) : Wd), ((2, 10) : Wd)), (((1, 65) : Wd), ((2, 4) : Wd)), (((2, 5) : Wd), ((1, 0) : Wd)), (((1, xn) : Wd), ((1, yn) : Wd)), (((2, 7) : Wd), ((1, 0) : Wd)), (((1, yn) : Wd), ((1, zn) : Wd)), (((2, 9) : Wd), ((2, 8) : Wd))])) (hT : TabF σ0.get T) {thM : TypeId} {ghM : Bool} (hM : σ0.get mb = some (.row ⟨[.int .i64 2, .int .i64 0, .int .i64 2, .int .i64 1], thM, ghM⟩)) {thE : TypeId} {ghE : Bool} (hE : σ0.get eb = some (.row ⟨[.int .i64 0, .int .i64 a], thE, ghE⟩)) : WC G65 Tryd.prog 14 #[.pointer (some ⟨h, 0, none⟩), .pointer (some ⟨T, 0, none⟩), .slice (some ⟨mb, 0, none⟩) 2 2, .slice (some ⟨eb, 0, none⟩) 1 1] σ0 fun v σ' => v = .tuple #[.agg #[.int .i64 1, .int .i64 yn], .int .i64 1, .bool false] ∧ Lies G65 (heapAbs h (hmP [(((1, 66) : Wd), ((2, 3) : Wd)), (((1, 66) : Wd), ((2, 6) : Wd)), (((0, a) : Wd), ((1, xn) : Wd)), (((2, 2) : Wd), ((1, 0) : Wd)), (((1, 66) : Wd), ((2, 10) : Wd)), (((1, 65) : Wd), ((2, 4) : Wd)), (((2, 5) : Wd), ((1, 0) : Wd)), (((1, xn) : Wd), ((1, yn) : Wd)), (((2, 7) : Wd), ((1, 0) : Wd)), (((1, yn) : Wd), ((1, zn) : Wd)), (((2, 9) : Wd), ((2, 8) : Wd))])) σ0.get σ' [] := by
 have H := Lies.start hG ha
 generalize σ0.get = F at H hT hM hE ⊢
 refine WC.enter (fn := Tryd.f14) Tryd.func14 rfl ?_
 refine W.rg [(0, pp h), (1, pp T), (2, .slice (some ⟨mb, 0, none⟩) 2 2), (3, .slice (some ⟨eb, 0, none⟩) 1 1)] fun TA => ?_
 refine W.seq (W.region ?_)
 refine RW.mk H (.row ⟨[.int .i64 0, .int .i64 0], 28, false⟩) ?_
 clear H; intro _ b1 _ H
 iterate 2 refine RW.v ?_
 refine RW.nil ?_
 refine W.rg [(0, pp h), (1, pp T), (2, .slice (some ⟨mb, 0, none⟩) 2 2), (3, .slice (some ⟨eb, 0, none⟩) 1 1), (8, pp b1)] fun TA => ?_
 refine W.seq (W.region ?_)
 iterate 2 refine RW.v ?_
 refine RW.cl ?_
 refine ((at_wc (Nat.le_of_ble_eq_true rfl) H.gn H.abs (hT.le H.old)).mono ?_)
 rintro _ _ ⟨rfl, K⟩
 replace H := H.then K
 clear K
 dsimp only [List.nil_append, List.cons_append] at H
 iterate 3 refine RW.v ?_
 refine RW.mk H (.row ⟨[.pointer none, .pointer none, .int .i64 0, .int .i64 0], 65, false⟩) ?_
 clear H; intro _ b2 _ H
 refine RW.st H 0 [pt h, pt T, .int .i64 1, .int .i64 66] [pt h, pt T, .int .i64 1, .int .i64 66] ?_
 clear H; intro _ _ H; dsimp only [setL, delL] at H
 refine RW.v ?_
 refine RW.nil ?_
 refine W.rg [(1, pp T), (2, .slice (some ⟨mb, 0, none⟩) 2 2), (3, .slice (some ⟨eb, 0, none⟩) 1 1), (8, pp b1), (11, pp b2), (12, .bool true)] fun TA => ?_
 refine W.seq ?_
 refine W.seq (W.region ?_)
 iterate 2 refine RW.v ?_
 refine RW.nil ?_
 refine W.c0 ?_
 refine W.skip ?_
 refine W.seq (W.region ?_)
 refine RW.ld H 0 4 ?_
 refine RW.v ?_
 refine RW.cl ?_
 refine WC.enter (fn := Tryd.f43) Tryd.func43 rfl ?_
 refine W.rg [(0, .agg #[pp h, pp T, .int .i64 1, .int .i64 66]), (1, .slice (some ⟨mb, 0, none⟩) 2 2)] fun TA => ?_
 refine W.seq (W.region ?_)
 refine RW.mk H (.row ⟨[pt h, pt T, .int .i64 1, .int .i64 66], 65, false⟩) ?_
 clear H; intro _ b3 _ H
 refine RW.v ?_
 refine RW.nil ?_
 refine W.rg [(1, .slice (some ⟨mb, 0, none⟩) 2 2), (2, pp b3)] fun TA => ?_
 refine W.seq (W.region ?_)
 refine RW.v ?_
 refine RW.cl ?_
 refine WC.enter (fn := Tryd.f55) Tryd.func55 rfl ?_
 refine W.rg [(0, .slice (some ⟨mb, 0, none⟩) 2 2)] fun TA => ?_
 refine W.seq (W.region ?_)
 refine RW.v ?_
 refine RW.nil ?_
 refine W.rg [(0, .slice (some ⟨mb, 0, none⟩) 2 2)] fun TA => ?_
 refine W.seq ?_
 refine W.seq (W.region ?_)
 iterate 2 refine RW.v ?_
 refine RW.nil ?_
 refine W.c0 ?_
 refine W.skip ?_
 refine W.seq (W.region ?_)
 refine RW.mkL H (x := .row ⟨[], 28, false⟩) (fm := fun b => .slice (some ⟨b, 0, none⟩) 0 0) (by kernel_rfl) (by kernel_rfl) (by kernel_rfl) (by kernel_rfl) ?_
 clear H; intro _ b4 _ H
 refine RW.v ?_
 replace H := H.nilSl 28 2
 refine RW.appFD H 0 (n := 2) (ys := [.int .i64 2, .int .i64 0, .int .i64 2, .int .i64 1]) (e2 := 28) (SlF.some hM rfl rfl) (by kernel_rfl) (by kernel_rfl) rfl rfl rfl rfl rfl rfl rfl (.inr ⟨by decide, rfl, _, _, _, rfl, H.get 1 rfl⟩) (by kernel_rfl) (by kernel_rfl) (by kernel_rfl) (by decide) (by kernel_rfl) (by omega) (by kernel_rfl) ?_
 clear H; intro _ v5 H
 replace H : Lies G65 (heapAbs h (hmP [(((1, 66) : Wd), ((2, 3) : Wd)), (((1, 66) : Wd), ((2, 6) : Wd)), (((0, a) : Wd), ((1, xn) : Wd)), (((2, 2) : Wd), ((1, 0) : Wd)), (((1, 66) : Wd), ((2, 10) : Wd)), (((1, 65) : Wd), ((2, 4) : Wd)), (((2, 5) : Wd), ((1, 0) : Wd)), (((1, xn) : Wd), ((1, yn) : Wd)), (((2, 7) : Wd), ((1, 0) : Wd)), (((1, yn) : Wd), ((1, zn) : Wd)), (((2, 9) : Wd), ((2, 8) : Wd))])) F _ [.sl 28 2 v5 2 [.int .i64 2, .int .i64 0, .int .i64 2, .int .i64 1], .at_ b4 (.row ⟨[], 28, false⟩), .at_ b3 (.row ⟨[.pointer (some ⟨h, 0, none⟩), .pointer (some ⟨T, 0, none⟩), .int .i64 1, .int .i64 66], 65, false⟩), .at_ b2 (.row ⟨[.pointer (some ⟨h, 0, none⟩), .pointer (some ⟨T, 0, none⟩), .int .i64 1, .int .i64 66], 65, false⟩), .at_ b1 (.row ⟨[.int .i64 0, .int .i64 0], 28, false⟩)] := H
 refine RW.v ?_
 refine RW.nil ?_
 replace H := (H.del 1)
 dsimp only [setL, delL] at H
 refine W.ret ?_
 refine endG (by rfl) (by exact resL_tmp rfl) ?_
 refine RW.val (v := .func (.func 68) #[] #[.pointer (some ⟨b3, 0, none⟩)]) (by kernel_rfl) (by kernel_rfl) (by kernel_rfl) (by kernel_rfl) ?_
 refine RW.cl ?_
 refine WC.enter (fn := Tryd.f67) Tryd.func67 rfl ?_
 refine W.rg [(0, v5), (1, .func (.func 68) #[] #[pp b3])] fun TA => ?_
 refine W.seq (W.region ?_)
 refine RW.v ?_
 refine RW.nil ?_
 refine W.rg [(0, v5), (1, .func (.func 68) #[] #[pp b3])] fun TA => ?_
 refine W.seq (W.region ?_)
 iterate 2 refine RW.v ?_
 refine RW.cl ?_
 refine WC.enter (fn := Tryd.f81) Tryd.func81 rfl ?_
 refine W.rg [(0, v5), (1, .func (.func 68) #[] #[pp b3])] fun TA => ?_
 refine W.seq (W.region ?_)
 refine RW.v ?_
 refine RW.nil ?_
 refine W.rg [(0, v5), (1, .func (.func 68) #[] #[pp b3])] fun TA => ?_
 refine W.seq ?_
 refine W.seq (W.region ?_)
 refine RW.v ?_
 refine RW.len (by kernel_rfl) (by kernel_rfl) rfl rfl rfl rfl ((H.sl 0 rfl).len (by kernel_rfl)) (by kernel_rfl) ?_
 refine RW.v ?_
 refine RW.nil ?_
 refine W.rg [(0, v5), (1, .func (.func 68) #[] #[pp b3]), (7, .int .i64 2), (8, .int .i64 0)] fun TA => ?_
 refine W.block ?_
 refine W.unroll (WL.once ?_)
 refine W.seq (W.region ?_)
 refine RW.v ?_
 refine RW.nil ?_
 refine W.rg [(0, v5), (1, .func (.func 68) #[] #[pp b3]), (7, .int .i64 2), (8, .int .i64 0), (9, .bool true)] fun TA => ?_
 refine W.seq ?_
 refine W.c1 ?_
 refine W.skip ?_
 refine W.seq ?_
 refine W.block ?_
 refine W.seq (W.region ?_)
 iterate 2 refine RW.v ?_
 refine RW.nil ?_
 refine W.rg [(0, v5), (1, .func (.func 68) #[] #[pp b3]), (5, .int .i64 0), (7, .int .i64 2), (8, .int .i64 0)] fun TA => ?_
 refine W.seq (W.region ?_)
 iterate 3 refine RW.v ?_
 refine RW.idxG H 0 rfl (by kernel_rfl) (by kernel_rfl) rfl Tryd.underlying35 (by kernel_rfl) rfl rfl ⟨by decide, by decide⟩ (by kernel_rfl) ?_
 intro b6 q7 r8 hF9 hE10
 replace hE10 : (r8.cs.drop q7).take 2 = [.int .i64 2, .int .i64 0] := hE10.trans (by kernel_rfl)
 refine RW.loads 2 (by kernel_rfl) (by kernel_rfl) rfl rfl (hF9) hE10 rfl (by kernel_rfl) ?_
 refine RW.cl ?_
 refine WC.enter (fn := Tryd.f68) Tryd.func68 rfl ?_
 refine W.rg [(0, .agg #[.int .i64 2, .int .i64 0]), (1, pp b3)] fun TA => ?_
 refine W.seq (W.region ?_)
 refine RW.mk H (.row ⟨[.int .i64 2, .int .i64 0], 28, false⟩) ?_
 clear H; intro _ b11 _ H
 refine RW.v ?_
 refine RW.nil ?_
 refine W.rg [(1, pp b3), (2, pp b11)] fun TA => ?_
 refine W.seq (W.region ?_)
 refine RW.ld H 2 4 ?_
 refine RW.ld H 0 2 ?_
 refine RW.cl ?_
 refine ((isMap_y (h := h) (T := T) (w := (2, 0)) (d := ((2, 3) : Wd)) rfl H).mono ?_)
 clear H
 rintro _ _ ⟨rfl, H⟩
 iterate 2 refine RW.v ?_
 refine RW.nil ?_
 replace H := (H.del 0)
 dsimp only [setL, delL] at H
 refine W.ret ?_
 refine endG (by rfl) (by exact resL_tmp rfl) ?_
 refine RW.nil ?_
 refine W.c0 ?_
 refine W.skip ?_
 refine blkQ_normal ?_
 refine W.region ?_
 iterate 2 refine RW.v ?_
 refine RW.nil ?_
 refine WL.once ?_
 refine W.rg [(0, v5), (1, .func (.func 68) #[] #[pp b3]), (7, .int .i64 2), (8, .int .i64 1)] fun TA => ?_
 refine W.seq (W.region ?_)
 refine RW.v ?_
 refine RW.nil ?_
 refine W.rg [(0, v5), (1, .func (.func 68) #[] #[pp b3]), (7, .int .i64 2), (8, .int .i64 1), (9, .bool true)] fun TA => ?_
 refine W.seq ?_
 refine W.c1 ?_
 refine W.skip ?_
 refine W.seq ?_
 refine W.block ?_
 refine W.seq (W.region ?_)
 iterate 2 refine RW.v ?_
 refine RW.nil ?_
 refine W.rg [(0, v5), (1, .func (.func 68) #[] #[pp b3]), (5, .int .i64 1), (7, .int .i64 2), (8, .int .i64 1)] fun TA => ?_
 refine W.seq (W.region ?_)
 iterate 3 refine RW.v ?_
 refine RW.idxG H 0 rfl (by kernel_rfl) (by kernel_rfl) rfl Tryd.underlying35 (by kernel_rfl) rfl rfl ⟨by decide, by decide⟩ (by kernel_rfl) ?_
 intro b12 q13 r14 hF15 hE16
 replace hE16 : (r14.cs.drop q13).take 2 = [.int .i64 2, .int .i64 1] := hE16.trans (by kernel_rfl)
 refine RW.loads 2 (by kernel_rfl) (by kernel_rfl) rfl rfl (hF15) hE16 rfl (by kernel_rfl) ?_
 refine RW.cl ?_
 refine WC.enter (fn := Tryd.f68) Tryd.func68 rfl ?_
 refine W.rg [(0, .agg #[.int .i64 2, .int .i64 1]), (1, pp b3)] fun TA => ?_
 refine W.seq (W.region ?_)
 refine RW.mk H (.row ⟨[.int .i64 2, .int .i64 1], 28, false⟩) ?_
 clear H; intro _ b17 _ H
 refine RW.v ?_
 refine RW.nil ?_
 refine W.rg [(1, pp b3), (2, pp b17)] fun TA => ?_
 refine W.seq (W.region ?_)
 refine RW.ld H 2 4 ?_
 refine RW.ld H 0 2 ?_
 refine RW.cl ?_
 refine ((isMap_y (h := h) (T := T) (w := (2, 1)) (d := ((2, 6) : Wd)) rfl H).mono ?_)
 clear H
 rintro _ _ ⟨rfl, H⟩
 iterate 2 refine RW.v ?_
 refine RW.nil ?_
 replace H := (H.del 0)
 dsimp only [setL, delL] at H
 refine W.ret ?_
 refine endG (by rfl) (by exact resL_tmp rfl) ?_
 refine RW.nil ?_
 refine W.c0 ?_
 refine W.skip ?_
 refine blkQ_normal ?_
 refine W.region ?_
 iterate 2 refine RW.v ?_
 refine RW.nil ?_
 refine WL.once ?_
 refine W.rg [(0, v5), (1, .func (.func 68) #[] #[pp b3]), (7, .int .i64 2), (8, .int .i64 2)] fun TA => ?_
 refine W.seq (W.region ?_)
 refine RW.v ?_
 refine RW.nil ?_
 refine W.rg [(0, v5), (1, .func (.func 68) #[] #[pp b3]), (7, .int .i64 2), (8, .int .i64 2), (9, .bool false)] fun TA => ?_
 refine W.seq ?_
 refine W.c0 ?_
 refine W.exit _ ?_
 refine seqQ_exit ?_
 refine onceQ_exit ?_
 refine blkQ_here ?_
 refine W.seq (W.region ?_)
 refine RW.v ?_
 refine RW.nil ?_
 refine W.ret ?_
 refine endG (by rfl) (by exact resL_tmp rfl) ?_
 refine RW.v ?_
 refine RW.nil ?_
 refine W.rg [(0, v5), (1, .func (.func 68) #[] #[pp b3]), (5, .int .i64 (-1))] fun TA => ?_
 refine W.seq ?_
 refine W.seq (W.region ?_)
 iterate 2 refine RW.v ?_
 refine RW.nil ?_
 refine W.c1 ?_
 refine W.seq (W.region ?_)
 iterate 2 refine RW.v ?_
 refine RW.nil ?_
 refine W.ret ?_
 refine seqQ_ret ?_
 refine endG (by rfl) (by exact resL_tmp rfl) ?_
 refine RW.v ?_
 refine RW.nil ?_
 replace H := (H.del 1)
 dsimp only [setL, delL] at H
 refine W.ret ?_
 refine endG (by rfl) (by exact resL_tmp rfl) ?_
 refine RW.v ?_
 refine RW.nil ?_
 refine W.rg [(1, pp T), (2, v5), (3, .slice (some ⟨eb, 0, none⟩) 1 1), (8, pp b1), (11, pp b2)] fun TA => ?_
 refine W.seq ?_
 refine W.seq (W.region ?_)
 refine RW.v ?_
 refine RW.len (by kernel_rfl) (by kernel_rfl) rfl rfl rfl rfl ((H.sl 0 rfl).len (by kernel_rfl)) (by kernel_rfl) ?_
 refine RW.v ?_
 refine RW.nil ?_
 refine W.c0 ?_
 refine W.skip ?_
 refine W.seq (W.region ?_)
 refine RW.ld H 1 4 ?_
 iterate 2 refine RW.v ?_
 refine RW.cl ?_
 refine WC.enter (fn := Tryd.f44) Tryd.func44 rfl ?_
 refine W.rg [(0, .agg #[pp h, pp T, .int .i64 1, .int .i64 66]), (1, v5), (2, .slice (some ⟨eb, 0, none⟩) 1 1)] fun TA => ?_
 refine W.seq (W.region ?_)
 refine RW.mk H (.row ⟨[pt h, pt T, .int .i64 1, .int .i64 66], 65, false⟩) ?_
 clear H; intro _ b18 _ H
 refine RW.mk H (.row ⟨[.int .i64 0, .int .i64 0], 28, false⟩) ?_
 clear H; intro _ b19 _ H
 iterate 2 refine RW.v ?_
 refine RW.nil ?_
 refine W.rg [(1, v5), (2, .slice (some ⟨eb, 0, none⟩) 1 1), (3, pp b18), (6, pp b19)] fun TA => ?_
 refine W.seq ?_
 refine W.seq (W.region ?_)
 iterate 3 refine RW.v ?_
 refine RW.nil ?_
 refine W.rg [(1, v5), (2, .slice (some ⟨eb, 0, none⟩) 1 1), (3, pp b18), (6, pp b19), (13, .slice (some ⟨eb, 0, none⟩) 1 1), (14, .int .i64 1), (15, .int .i64 0)] fun TA => ?_
 refine W.block ?_
 refine W.unroll (WL.once ?_)
 refine W.seq (W.region ?_)
 refine RW.v ?_
 refine RW.nil ?_
 refine W.rg [(1, v5), (2, .slice (some ⟨eb, 0, none⟩) 1 1), (3, pp b18), (6, pp b19), (13, .slice (some ⟨eb, 0, none⟩) 1 1), (14, .int .i64 1), (15, .int .i64 0), (16, .bool true)] fun TA => ?_
 refine W.seq ?_
 refine W.c1 ?_
 refine W.skip ?_
 refine W.seq ?_
 refine W.block ?_
 refine W.seq (W.region ?_)
 refine RW.v ?_
 refine RW.idx (s := 2) (by kernel_rfl) (by kernel_rfl) rfl Tryd.underlying35 (by kernel_rfl) rfl rfl ⟨by decide, by decide⟩ (by kernel_rfl) ?_
 refine RW.loads 2 (by kernel_rfl) (by kernel_rfl) rfl rfl (H.old _ _ hE) rfl rfl (by kernel_rfl) ?_
 refine RW.mk H (.row ⟨[.int .i64 0, .int .i64 0], 28, false⟩) ?_
 clear H; intro _ b20 _ H
 refine RW.v ?_
 refine RW.st H 0 [.int .i64 0, .int .i64 a] [.int .i64 0, .int .i64 a] ?_
 clear H; intro _ _ H; dsimp only [setL, delL] at H
 refine RW.nil ?_
 refine W.rg [(1, v5), (2, .slice (some ⟨eb, 0, none⟩) 1 1), (3, pp b18), (6, pp b19), (9, .int .i64 0), (10, pp b20), (13, .slice (some ⟨eb, 0, none⟩) 1 1), (14, .int .i64 1), (15, .int .i64 0)] fun TA => ?_
 refine W.seq (W.region ?_)
 refine RW.ld H 2 4 ?_
 refine RW.v ?_
 refine RW.ld H 0 2 ?_
 refine RW.cl ?_
 refine WC.enter (fn := Tryd.f56) Tryd.func56 rfl ?_
 refine W.rg [(0, .agg #[pp h, pp T, .int .i64 1, .int .i64 66]), (1, v5), (2, .agg #[.int .i64 0, .int .i64 a])] fun TA => ?_
 refine W.seq (W.region ?_)
 refine RW.mk H (.row ⟨[pt h, pt T, .int .i64 1, .int .i64 66], 65, false⟩) ?_
 clear H; intro _ b21 _ H
 refine RW.mk H (.row ⟨[.int .i64 0, .int .i64 a], 28, false⟩) ?_
 clear H; intro _ b22 _ H
 refine RW.mk H (.row ⟨[.int .i64 0, .int .i64 0], 28, false⟩) ?_
 clear H; intro _ b23 _ H
 refine RW.v ?_
 refine RW.nil ?_
 refine W.rg [(1, v5), (3, pp b21), (5, pp b22), (6, pp b23)] fun TA => ?_
 refine W.seq (W.region ?_)
 refine RW.cl ?_
 refine WC.enter (fn := Tryd.f33) Tryd.func33 rfl ?_
 refine W.rg [] fun TA => ?_
 refine W.seq (W.region ?_)
 refine RW.mk H (.row ⟨[.int .i64 0, .int .i64 0], 28, false⟩) ?_
 clear H; intro _ b24 _ H
 refine RW.nil ?_
 refine W.rg [(0, pp b24)] fun TA => ?_
 refine W.seq (W.region ?_)
 refine RW.cl ?_
 refine WC.enter (fn := Tryd.f32) Tryd.func32 rfl ?_
 refine W.rg [(0, .int .i64 0)] fun TA => ?_
 refine W.seq (W.region ?_)
 refine RW.mk H (.row ⟨[.int .i64 0, .int .i64 0], 28, false⟩) ?_
 clear H; intro _ b25 _ H
 refine RW.nil ?_
 refine W.rg [(0, .int .i64 0), (2, pp b25)] fun TA => ?_
 refine W.seq (W.region ?_)
 refine RW.v ?_
 refine RW.val (v := .agg #[.int .i64 1, .int .i64 0]) (by kernel_rfl) (by kernel_rfl) (by kernel_rfl) (by kernel_rfl) ?_
 refine RW.st H 0 [.int .i64 1, .int .i64 0] [.int .i64 1, .int .i64 0] ?_
 clear H; intro _ _ H; dsimp only [setL, delL] at H
 refine RW.nil ?_
 refine W.ret ?_
 refine endG (by rfl) (by exact resL_cell rfl (H.get 0 rfl) (by rw [uT_eq]; exact Tryd.underlying28) (by kernel_rfl) rfl rfl rfl) ?_
 refine RW.st H 1 [.int .i64 1, .int .i64 0] [.int .i64 1, .int .i64 0] ?_
 clear H; intro _ _ H; dsimp only [setL, delL] at H
 refine RW.nil ?_
 replace H := (H.del 0)
 dsimp only [setL, delL] at H
 refine W.ret ?_
 refine endG (by rfl) (by exact resL_cell rfl (H.get 0 rfl) (by rw [uT_eq]; exact Tryd.underlying28) (by kernel_rfl) rfl rfl rfl) ?_
 refine RW.mk H (.row ⟨[.int .i64 0, .int .i64 0], 28, false⟩) ?_
 clear H; intro _ b26 _ H
 refine RW.st H 0 [.int .i64 1, .int .i64 0] [.int .i64 1, .int .i64 0] ?_
 clear H; intro _ _ H; dsimp only [setL, delL] at H
 refine RW.nil ?_
 replace H := (H.del 1)
 dsimp only [setL, delL] at H
 refine W.rg [(1, v5), (3, pp b21), (5, pp b22), (6, pp b23), (8, pp b26)] fun TA => ?_
 refine W.seq (W.region ?_)
 refine RW.v ?_
 refine RW.nil ?_
 refine W.rg [(1, v5), (3, pp b21), (5, pp b22), (6, pp b23), (8, pp b26), (9, .slice none 0 0)] fun TA => ?_
 refine W.seq ?_
 refine W.seq (W.region ?_)
 refine RW.v ?_
 refine RW.len (by kernel_rfl) (by kernel_rfl) rfl rfl rfl rfl ((H.sl 7 rfl).len (by kernel_rfl)) (by kernel_rfl) ?_
 refine RW.v ?_
 refine RW.nil ?_
 refine W.rg [(3, pp b21), (5, pp b22), (6, pp b23), (8, pp b26), (9, .slice none 0 0), (16, v5), (17, .int .i64 2), (18, .int .i64 0)] fun TA => ?_
 refine W.block ?_
 refine W.unroll (WL.once ?_)
 refine W.seq (W.region ?_)
 refine RW.v ?_
 refine RW.nil ?_
 refine W.rg [(3, pp b21), (5, pp b22), (6, pp b23), (8, pp b26), (9, .slice none 0 0), (16, v5), (17, .int .i64 2), (18, .int .i64 0), (19, .bool true)] fun TA => ?_
 refine W.seq ?_
 refine W.c1 ?_
 refine W.skip ?_
 refine W.seq ?_
 refine W.block ?_
 refine W.seq (W.region ?_)
 refine RW.idxG H 7 rfl (by kernel_rfl) (by kernel_rfl) rfl Tryd.underlying35 (by kernel_rfl) rfl rfl ⟨by decide, by decide⟩ (by kernel_rfl) ?_
 intro b27 q28 r29 hF30 hE31
 replace hE31 : (r29.cs.drop q28).take 2 = [.int .i64 2, .int .i64 0] := hE31.trans (by kernel_rfl)
 refine RW.loads 2 (by kernel_rfl) (by kernel_rfl) rfl rfl (hF30) hE31 rfl (by kernel_rfl) ?_
 refine RW.mk H (.row ⟨[.int .i64 0, .int .i64 0], 28, false⟩) ?_
 clear H; intro _ b32 _ H
 refine RW.st H 0 [.int .i64 2, .int .i64 0] [.int .i64 2, .int .i64 0] ?_
 clear H; intro _ _ H; dsimp only [setL, delL] at H
 refine RW.nil ?_
 refine W.rg [(3, pp b21), (5, pp b22), (6, pp b23), (8, pp b26), (9, .slice none 0 0), (11, pp b32), (16, v5), (17, .int .i64 2), (18, .int .i64 0)] fun TA => ?_
 refine W.seq (W.region ?_)
 refine RW.ld H 4 4 ?_
 refine RW.ld H 0 2 ?_
 refine RW.ld H 3 2 ?_
 refine RW.cl ?_
 refine ((bound_wc (h := h) (T := T) (ev := ((0, a) : Wd)) mp5 (Nat.le_of_ble_eq_true rfl) (fun j hj => by match j, hj with | 0, _ => (simp <;> omega) | j + 1, hj => exact absurd hj (by simp)) H.gn H.abs).mono ?_)
 rintro _ _ ⟨e, K⟩
 replace H := H.then K
 clear K
 dsimp only [List.nil_append, List.cons_append] at H
 replace e := e.trans (congrArg wdV (show _ = ((1, xn) : Wd) from (boundP_yes (by simp [pB] <;> omega))))
 subst e
 refine RW.mk H (.row ⟨[.int .i64 0, .int .i64 0], 28, false⟩) ?_
 clear H; intro _ b33 _ H
 refine RW.st H 0 [.int .i64 1, .int .i64 xn] [.int .i64 1, .int .i64 xn] ?_
 clear H; intro _ _ H; dsimp only [setL, delL] at H
 refine RW.nil ?_
 replace H := (H.del 1)
 dsimp only [setL, delL] at H
 refine W.rg [(3, pp b21), (5, pp b22), (6, pp b23), (8, pp b26), (9, .slice none 0 0), (12, pp b33), (16, v5), (17, .int .i64 2), (18, .int .i64 0)] fun TA => ?_
 refine W.seq ?_
 refine W.seq ?_
 refine W.drawn (by kernel_rfl) (by kernel_rfl) H.gn ?_
 have H34 := H
 refine RW.ld H34 0 2 ?_
 refine RW.cl ?_
 refine WC.enter (fn := Tryd.f33) Tryd.func33 rfl ?_
 replace H := H34
 refine W.rg [] fun TA => ?_
 refine W.seq (W.region ?_)
 refine RW.mk H (.row ⟨[.int .i64 0, .int .i64 0], 28, false⟩) ?_
 clear H; intro _ b35 _ H
 refine RW.nil ?_
 refine W.rg [(0, pp b35)] fun TA => ?_
 refine W.seq (W.region ?_)
 refine RW.cl ?_
 refine WC.enter (fn := Tryd.f32) Tryd.func32 rfl ?_
 refine W.rg [(0, .int .i64 0)] fun TA => ?_
 refine W.seq (W.region ?_)
 refine RW.mk H (.row ⟨[.int .i64 0, .int .i64 0], 28, false⟩) ?_
 clear H; intro _ b36 _ H
 refine RW.nil ?_
 refine W.rg [(0, .int .i64 0), (2, pp b36)] fun TA => ?_
 refine W.seq (W.region ?_)
 refine RW.v ?_
 refine RW.val (v := .agg #[.int .i64 1, .int .i64 0]) (by kernel_rfl) (by kernel_rfl) (by kernel_rfl) (by kernel_rfl) ?_
 refine RW.st H 0 [.int .i64 1, .int .i64 0] [.int .i64 1, .int .i64 0] ?_
 clear H; intro _ _ H; dsimp only [setL, delL] at H
 refine RW.nil ?_
 refine W.ret ?_
 refine endG (by rfl) (by exact resL_cell rfl (H.get 0 rfl) (by rw [uT_eq]; exact Tryd.underlying28) (by kernel_rfl) rfl rfl rfl) ?_
 refine RW.st H 1 [.int .i64 1, .int .i64 0] [.int .i64 1, .int .i64 0] ?_
 clear H; intro _ _ H; dsimp only [setL, delL] at H
 refine RW.nil ?_
 replace H := (H.del 0)
 dsimp only [setL, delL] at H
 refine W.ret ?_
 refine endG (by rfl) (by exact resL_cell rfl (H.get 0 rfl) (by rw [uT_eq]; exact Tryd.underlying28) (by kernel_rfl) rfl rfl rfl) ?_
 have H37 := H
 refine RW.vop (v := .bool false) (by kernel_rfl) (by kernel_rfl) (vop_eqS (b := false) (r := false) rfl (.inl ⟨rfl, rfl⟩) rfl rfl rfl rfl (by kernel_rfl) (fun w => (eqWd _ _ _ _ w).trans (by simp <;> omega))) (by kernel_rfl) ?_
 refine RW.nil ?_
 refine ⟨⟨by kernel_rfl, ⟨dyn_row (H34.get 0 rfl) (H37.get 1 rfl) ⟨fun h => Bool.noConfusion h, fun _ => H34.get 0 rfl, fun h => Bool.noConfusion h, trivial⟩, trivial, trivial, trivial⟩⟩, ?_⟩
 replace H := H37
 clear H34 H37
 replace H := (H.del 0)
 dsimp only [setL, delL] at H
 refine W.c0 ?_
 refine W.skip ?_
 refine W.seq (W.region ?_)
 refine RW.ld H 4 4 ?_
 refine RW.ld H 0 2 ?_
 refine RW.cl ?_
 refine WC.enter (fn := Tryd.f52) Tryd.func52 rfl ?_
 refine W.rg [(0, .agg #[pp h, pp T, .int .i64 1, .int .i64 66]), (1, .agg #[.int .i64 1, .int .i64 xn])] fun TA => ?_
 refine W.seq (W.region ?_)
 refine RW.mk H (.row ⟨[pt h, pt T, .int .i64 1, .int .i64 66], 65, false⟩) ?_
 clear H; intro _ b38 _ H
 refine RW.mk H (.row ⟨[.int .i64 1, .int .i64 xn], 28, false⟩) ?_
 clear H; intro _ b39 _ H
 refine RW.mk H (.row ⟨[.int .i64 0, .int .i64 0], 28, false⟩) ?_
 clear H; intro _ b40 _ H
 refine RW.v ?_
 refine RW.nil ?_
 refine W.rg [(2, pp b38), (3, pp b39), (4, pp b40)] fun TA => ?_
 refine W.seq ?_
 refine W.seq (W.region ?_)
 refine RW.v ?_
 refine RW.ld H 1 1 ?_
 refine RW.v ?_
 refine RW.nil ?_
 refine W.c1 ?_
 refine W.region ?_
 refine RW.v ?_
 refine RW.ld H 2 1 ?_
 refine RW.v ?_
 refine RW.ld H 1 1 ?_
 refine RW.cl ?_
 refine ((func_wc (n := xn) (by omega) (by omega) H.gn H.abs (hT.le H.old)).mono ?_)
 rintro _ _ ⟨rfl, K⟩
 replace H := H.then K
 clear K
 dsimp only [List.nil_append, List.cons_append] at H
 iterate 3 refine RW.v ?_
 refine RW.st H 1 [.int .i64 0, .int .i64 0] [.int .i64 0, .int .i64 0] ?_
 clear H; intro _ _ H; dsimp only [setL, delL] at H
 refine RW.nil ?_
 refine W.rg [(2, pp b38), (3, pp b39), (4, pp b40)] fun TA => ?_
 refine W.seq ?_
 refine W.drawn (by kernel_rfl) (by kernel_rfl) H.gn ?_
 have H41 := H
 refine RW.ld H41 1 2 ?_
 refine RW.ld H41 2 4 ?_
 refine RW.ld H41 1 2 ?_
 refine RW.cl ?_
 refine ((isMap_n (h := h) (T := T) (w := ((0, 0) : Wd)) (by decide) H41).mono ?_)
 rintro _ _ ⟨rfl, H42⟩
 refine RW.stD H42 0 (vs := [.int .i64 0, .int .i64 0]) (cs' := [.int .i64 0, .int .i64 0]) (by kernel_rfl) (by kernel_rfl) rfl rfl rfl rfl rfl (by kernel_rfl) (Nat.le_of_ble_eq_true rfl) rfl (by kernel_rfl) ?_
 intro _ H43
 dsimp only [setL, delL] at H43
 refine RW.v ?_
 refine RW.nil ?_
 refine ⟨⟨by kernel_rfl, ⟨dyn_row (H41.get 1 rfl) (H43.get 1 rfl) ⟨fun h => Bool.noConfusion h, fun h => Bool.noConfusion h, fun h => Bool.noConfusion h, fun _ => H41.get 1 rfl, fun _ => H42.get 1 rfl, fun h => Bool.noConfusion h, trivial⟩, dyn_row (H41.get 2 rfl) (H43.get 2 rfl) ⟨fun h => Bool.noConfusion h, fun h => Bool.noConfusion h, fun h => Bool.noConfusion h, fun _ => H41.get 2 rfl, fun _ => H42.get 2 rfl, fun h => Bool.noConfusion h, trivial⟩, dyn_row (H41.get 1 rfl) (H43.get 1 rfl) ⟨fun h => Bool.noConfusion h, fun h => Bool.noConfusion h, fun h => Bool.noConfusion h, fun _ => H41.get 1 rfl, fun _ => H42.get 1 rfl, fun h => Bool.noConfusion h, trivial⟩, trivial, trivial, trivial, trivial⟩⟩, ?_⟩
 replace H := H43
 clear H41 H42 H43
 replace H := ((H.del 2).del 1)
 dsimp only [setL, delL] at H
 refine W.ret ?_
 refine endG (by rfl) (by exact resL_cell rfl (H.get 0 rfl) (by rw [uT_eq]; exact Tryd.underlying28) (by kernel_rfl) rfl rfl (by exact resL_tmp rfl)) ?_
 iterate 3 refine RW.v ?_
 refine RW.mk H (.row ⟨[.int .i64 0, .int .i64 0], 28, false⟩) ?_
 clear H; intro _ b44 _ H
 refine RW.st H 0 [.int .i64 0, .int .i64 0] [.int .i64 0, .int .i64 0] ?_
 clear H; intro _ _ H; dsimp only [setL, delL] at H
 refine RW.v ?_
 refine RW.nil ?_
 replace H := (H.del 1)
 dsimp only [setL, delL] at H
 refine W.rg [(3, pp b21), (5, pp b22), (6, pp b23), (8, pp b26), (9, .slice none 0 0), (12, pp b33), (13, pp b44), (14, .bool false), (16, v5), (17, .int .i64 2), (18, .int .i64 0)] fun TA => ?_
 refine W.seq ?_
 refine W.seq ?_
 refine W.drawn (by kernel_rfl) (by kernel_rfl) H.gn ?_
 have H45 := H
 refine RW.ld H45 2 2 ?_
 refine RW.cl ?_
 refine WC.enter (fn := Tryd.f33) Tryd.func33 rfl ?_
 replace H := H45
 refine W.rg [] fun TA => ?_
 refine W.seq (W.region ?_)
 refine RW.mk H (.row ⟨[.int .i64 0, .int .i64 0], 28, false⟩) ?_
 clear H; intro _ b46 _ H
 refine RW.nil ?_
 refine W.rg [(0, pp b46)] fun TA => ?_
 refine W.seq (W.region ?_)
 refine RW.cl ?_
 refine WC.enter (fn := Tryd.f32) Tryd.func32 rfl ?_
 refine W.rg [(0, .int .i64 0)] fun TA => ?_
 refine W.seq (W.region ?_)
 refine RW.mk H (.row ⟨[.int .i64 0, .int .i64 0], 28, false⟩) ?_
 clear H; intro _ b47 _ H
 refine RW.nil ?_
 refine W.rg [(0, .int .i64 0), (2, pp b47)] fun TA => ?_
 refine W.seq (W.region ?_)
 refine RW.v ?_
 refine RW.val (v := .agg #[.int .i64 1, .int .i64 0]) (by kernel_rfl) (by kernel_rfl) (by kernel_rfl) (by kernel_rfl) ?_
 refine RW.st H 0 [.int .i64 1, .int .i64 0] [.int .i64 1, .int .i64 0] ?_
 clear H; intro _ _ H; dsimp only [setL, delL] at H
 refine RW.nil ?_
 refine W.ret ?_
 refine endG (by rfl) (by exact resL_cell rfl (H.get 0 rfl) (by rw [uT_eq]; exact Tryd.underlying28) (by kernel_rfl) rfl rfl rfl) ?_
 refine RW.st H 1 [.int .i64 1, .int .i64 0] [.int .i64 1, .int .i64 0] ?_
 clear H; intro _ _ H; dsimp only [setL, delL] at H
 refine RW.nil ?_
 replace H := (H.del 0)
 dsimp only [setL, delL] at H
 refine W.ret ?_
 refine endG (by rfl) (by exact resL_cell rfl (H.get 0 rfl) (by rw [uT_eq]; exact Tryd.underlying28) (by kernel_rfl) rfl rfl rfl) ?_
 have H48 := H
 refine RW.vop (v := .bool true) (by kernel_rfl) (by kernel_rfl) (vop_eqS (b := true) (r := true) rfl (.inl ⟨rfl, rfl⟩) rfl rfl rfl rfl (by kernel_rfl) (fun w => (eqWd _ _ _ _ w).trans (by simp))) (by kernel_rfl) ?_
 refine RW.nil ?_
 refine ⟨⟨by kernel_rfl, ⟨dyn_row (H45.get 2 rfl) (H48.get 3 rfl) ⟨fun h => Bool.noConfusion h, fun _ => H45.get 2 rfl, fun h => Bool.noConfusion h, trivial⟩, trivial, trivial, trivial⟩⟩, ?_⟩
 replace H := H48
 clear H45 H48
 replace H := (H.del 0)
 dsimp only [setL, delL] at H
 refine W.c1 ?_
 refine W.seq (W.region ?_)
 refine RW.ld H 1 2 ?_
 refine RW.st H 2 [.int .i64 1, .int .i64 xn] [.int .i64 1, .int .i64 xn] ?_
 clear H; intro _ _ H; dsimp only [setL, delL] at H
 refine RW.nil ?_
 replace H := (H.del 1)
 dsimp only [setL, delL] at H
 refine W.rg [(3, pp b21), (5, pp b22), (6, pp b23), (8, pp b26), (9, .slice none 0 0), (13, pp b44), (14, .bool false), (16, v5), (17, .int .i64 2), (18, .int .i64 0)] fun TA => ?_
 refine W.seq (W.region ?_)
 iterate 2 refine RW.v ?_
 refine RW.nil ?_
 refine W.c1 ?_
 refine W.seq (W.region ?_)
 refine RW.ld H 1 2 ?_
 refine RW.st H 2 [.int .i64 1, .int .i64 xn] [.int .i64 1, .int .i64 xn] ?_
 clear H; intro _ _ H; dsimp only [setL, delL] at H
 refine RW.v ?_
 refine RW.nil ?_
 replace H := ((((H.del 4).del 3).del 1).del 0)
 dsimp only [setL, delL] at H
 refine W.ret ?_
 refine seqQ_ret ?_
 refine blkQ_ret ?_
 refine seqQ_ret ?_
 refine onceQ_ret ?_
 refine blkQ_ret ?_
 refine seqQ_ret ?_
 refine endG (by rfl) (by exact resL_cell rfl (H.get 0 rfl) (by rw [uT_eq]; exact Tryd.underlying28) (by kernel_rfl) rfl rfl (by exact resL_tmp rfl)) ?_
 iterate 3 refine RW.v ?_
 refine RW.mk H (.row ⟨[.int .i64 0, .int .i64 0], 28, false⟩) ?_
 clear H; intro _ b49 _ H
 refine RW.st H 0 [.int .i64 1, .int .i64 xn] [.int .i64 1, .int .i64 xn] ?_
 clear H; intro _ _ H; dsimp only [setL, delL] at H
 refine RW.v ?_
 refine RW.nil ?_
 replace H := ((H.del 2).del 1)
 dsimp only [setL, delL] at H
 refine W.rg [(2, .slice (some ⟨eb, 0, none⟩) 1 1), (3, pp b18), (6, pp b19), (9, .int .i64 0), (11, pp b49), (12, .slice none 0 0), (13, .slice (some ⟨eb, 0, none⟩) 1 1), (14, .int .i64 1), (15, .int .i64 0)] fun TA => ?_
 refine W.seq ?_
 refine W.seq (W.region ?_)
 iterate 3 refine RW.v ?_
 refine RW.nil ?_
 refine W.c1 ?_
 refine W.seq (W.region ?_)
 refine RW.ld H 0 2 ?_
 iterate 2 refine RW.v ?_
 refine RW.st H 1 [.int .i64 1, .int .i64 xn] [.int .i64 1, .int .i64 xn] ?_
 clear H; intro _ _ H; dsimp only [setL, delL] at H
 iterate 2 refine RW.v ?_
 refine RW.nil ?_
 replace H := ((H.del 2).del 0)
 dsimp only [setL, delL] at H
 refine W.ret ?_
 refine seqQ_ret ?_
 refine blkQ_ret ?_
 refine seqQ_ret ?_
 refine onceQ_ret ?_
 refine blkQ_ret ?_
 refine seqQ_ret ?_
 refine endG (by rfl) (by exact resL_cell rfl (H.get 0 rfl) (by rw [uT_eq]; exact Tryd.underlying28) (by kernel_rfl) rfl rfl (by exact resL_tmp (by exact resL_tmp rfl))) ?_
 iterate 4 refine RW.v ?_
 refine RW.mk H (.row ⟨[.int .i64 0, .int .i64 0], 28, false⟩) ?_
 clear H; intro _ b50 _ H
 refine RW.st H 0 [.int .i64 1, .int .i64 xn] [.int .i64 1, .int .i64 xn] ?_
 clear H; intro _ _ H; dsimp only [setL, delL] at H
 iterate 2 refine RW.v ?_
 refine RW.nil ?_
 replace H := (H.del 1)
 dsimp only [setL, delL] at H
 refine W.rg [(1, pp T), (2, v5), (8, pp b1), (9, .int .i64 1), (10, .bool false), (11, pp b2), (13, pp b50)] fun TA => ?_
 refine W.seq (W.region ?_)
 refine RW.v ?_
 refine RW.cl ?_
 refine ((find65_wc H.gn H.abs (hT.le H.old)).mono ?_)
 rintro _ _ ⟨rfl, K⟩
 replace H := H.then K
 clear K
 dsimp only [List.nil_append, List.cons_append] at H
 iterate 5 refine RW.v ?_
 refine RW.nil ?_
 refine W.rg [(2, v5), (8, pp b1), (9, .int .i64 1), (10, .bool false), (11, pp b2), (13, pp b50), (14, .int .i64 65), (15, .bool true)] fun TA => ?_
 refine W.seq ?_
 refine W.seq ?_
 refine W.drawn (by kernel_rfl) (by kernel_rfl) H.gn ?_
 have H51 := H
 iterate 2 refine RW.v ?_
 refine RW.val (by rfl) (by kernel_rfl) rfl (by kernel_rfl) ?_
 refine RW.ldL H51 0 1 (by rfl) (by kernel_rfl) rfl rfl rfl rfl rfl (by kernel_rfl) ?_
 refine RW.val (by rfl) (by kernel_rfl) rfl (by kernel_rfl) ?_
 iterate 2 refine RW.v ?_
 refine RW.ldL H51 0 2 (by rfl) (by kernel_rfl) rfl rfl rfl rfl rfl (by kernel_rfl) ?_
 refine RW.cl (hw := by rfl) ?_
 refine WC.enter (fn := Tryd.f33) Tryd.func33 rfl ?_
 replace H := H51
 refine W.rg [] fun TA => ?_
 refine W.seq (W.region ?_)
 refine RW.mk H (.row ⟨[.int .i64 0, .int .i64 0], 28, false⟩) ?_
 clear H; intro _ b52 _ H
 refine RW.nil ?_
 refine W.rg [(0, pp b52)] fun TA => ?_
 refine W.seq (W.region ?_)
 refine RW.cl ?_
 refine WC.enter (fn := Tryd.f32) Tryd.func32 rfl ?_
 refine W.rg [(0, .int .i64 0)] fun TA => ?_
 refine W.seq (W.region ?_)
 refine RW.mk H (.row ⟨[.int .i64 0, .int .i64 0], 28, false⟩) ?_
 clear H; intro _ b53 _ H
 refine RW.nil ?_
 refine W.rg [(0, .int .i64 0), (2, pp b53)] fun TA => ?_
 refine W.seq (W.region ?_)
 refine RW.v ?_
 refine RW.val (v := .agg #[.int .i64 1, .int .i64 0]) (by kernel_rfl) (by kernel_rfl) (by kernel_rfl) (by kernel_rfl) ?_
 refine RW.st H 0 [.int .i64 1, .int .i64 0] [.int .i64 1, .int .i64 0] ?_
 clear H; intro _ _ H; dsimp only [setL, delL] at H
 refine RW.nil ?_
 refine W.ret ?_
 refine endG (by rfl) (by exact resL_cell rfl (H.get 0 rfl) (by rw [uT_eq]; exact Tryd.underlying28) (by kernel_rfl) rfl rfl rfl) ?_
 refine RW.st H 1 [.int .i64 1, .int .i64 0] [.int .i64 1, .int .i64 0] ?_
 clear H; intro _ _ H; dsimp only [setL, delL] at H
 refine RW.nil ?_
 replace H := (H.del 0)
 dsimp only [setL, delL] at H
 refine W.ret ?_
 refine endG (by rfl) (by exact resL_cell rfl (H.get 0 rfl) (by rw [uT_eq]; exact Tryd.underlying28) (by kernel_rfl) rfl rfl rfl) ?_
 have H54 := H
 refine RW.vop (v := .bool false) (by rfl) (by kernel_rfl) (vop_eqS (b := false) (r := false) rfl (.inl ⟨rfl, rfl⟩) rfl rfl rfl rfl (by kernel_rfl) (fun w => (eqWd _ _ _ _ w).trans (by simp <;> omega))) (by kernel_rfl) ?_
 iterate 2 refine RW.v ?_
 refine RW.val (by rfl) (by kernel_rfl) rfl (by kernel_rfl) ?_
 refine RW.val (by rfl) (by kernel_rfl) rfl (by kernel_rfl) ?_
 refine RW.v ?_
 refine RW.nil ?_
 refine ⟨⟨by kernel_rfl, ⟨trivial, trivial, trivial, dyn_row (H51.get 0 rfl) (H54.get 1 rfl) ⟨fun h => Bool.noConfusion h, fun h => Bool.noConfusion h, fun h => Bool.noConfusion h, fun h => Bool.noConfusion h, fun h => Bool.noConfusion h, fun h => Bool.noConfusion h, fun h => Bool.noConfusion h, fun h => Bool.noConfusion h, fun _ => H51.get 0 rfl, fun h => Bool.noConfusion h, fun h => Bool.noConfusion h, fun h => Bool.noConfusion h, fun h => Bool.noConfusion h, fun h => Bool.noConfusion h, fun h => Bool.noConfusion h, trivial⟩, trivial, trivial, trivial, dyn_row (H51.get 0 rfl) (H54.get 1 rfl) ⟨fun h => Bool.noConfusion h, fun h => Bool.noConfusion h, fun h => Bool.noConfusion h, fun h => Bool.noConfusion h, fun h => Bool.noConfusion h, fun h => Bool.noConfusion h, fun h => Bool.noConfusion h, fun h => Bool.noConfusion h, fun _ => H51.get 0 rfl, fun h => Bool.noConfusion h, fun h => Bool.noConfusion h, fun h => Bool.noConfusion h, fun h => Bool.noConfusion h, fun h => Bool.noConfusion h, fun h => Bool.noConfusion h, trivial⟩, trivial, trivial, trivial, trivial, trivial, trivial, trivial, trivial⟩⟩, ?_⟩
 replace H := H54
 clear H51 H54
 replace H := (H.del 0)
 dsimp only [setL, delL] at H
 refine W.c0 ?_
 refine W.skip ?_
 refine W.seq ?_
 refine W.seq ?_
 refine W.drawn (by kernel_rfl) (by kernel_rfl) H.gn ?_
 have H55 := H
 refine RW.ld H55 2 4 ?_
 iterate 2 refine RW.v ?_
 refine RW.cl ?_
 refine WC.enter (fn := Tryd.f32) Tryd.func32 rfl ?_
 replace H := H55
 refine W.rg [(0, .int .i64 65)] fun TA => ?_
 refine W.seq (W.region ?_)
 refine RW.mk H (.row ⟨[.int .i64 0, .int .i64 0], 28, false⟩) ?_
 clear H; intro _ b56 _ H
 refine RW.nil ?_
 refine W.rg [(0, .int .i64 65), (2, pp b56)] fun TA => ?_
 refine W.seq (W.region ?_)
 refine RW.v ?_
 refine RW.val (v := .agg #[.int .i64 1, .int .i64 65]) (by kernel_rfl) (by kernel_rfl) (by kernel_rfl) (by kernel_rfl) ?_
 refine RW.st H 0 [.int .i64 1, .int .i64 65] [.int .i64 1, .int .i64 65] ?_
 clear H; intro _ _ H; dsimp only [setL, delL] at H
 refine RW.nil ?_
 refine W.ret ?_
 refine endG (by rfl) (by exact resL_cell rfl (H.get 0 rfl) (by rw [uT_eq]; exact Tryd.underlying28) (by kernel_rfl) rfl rfl rfl) ?_
 have H57 := H
 refine RW.ld H57 1 2 ?_
 refine RW.mkD H57 (x := .row ⟨[.int .i64 1, .int .i64 65, .int .i64 1, .int .i64 xn], 28, false⟩) (fm := fun b => .slice (some ⟨b, 0, none⟩) 2 2) (by kernel_rfl) (by kernel_rfl) (by kernel_rfl) (by kernel_rfl) ?_
 intro _ b58 H59
 refine RW.cl ?_
 refine WC.enter (fn := Tryd.f44) Tryd.func44 rfl ?_
 replace H := H59
 refine W.rg [(0, .agg #[pp h, pp T, .int .i64 1, .int .i64 66]), (1, v5), (2, .slice (some ⟨b58, 0, none⟩) 2 2)] fun TA => ?_
 refine W.seq (W.region ?_)
 refine RW.mk H (.row ⟨[pt h, pt T, .int .i64 1, .int .i64 66], 65, false⟩) ?_
 clear H; intro _ b60 _ H
 refine RW.mk H (.row ⟨[.int .i64 0, .int .i64 0], 28, false⟩) ?_
 clear H; intro _ b61 _ H
 iterate 2 refine RW.v ?_
 refine RW.nil ?_
 replace H := (H.del 3)
 dsimp only [setL, delL] at H
 refine W.rg [(1, v5), (2, .slice (some ⟨b58, 0, none⟩) 2 2), (3, pp b60), (6, pp b61)] fun TA => ?_
 refine W.seq ?_
 refine W.seq (W.region ?_)
 iterate 3 refine RW.v ?_
 refine RW.nil ?_
 refine W.rg [(1, v5), (2, .slice (some ⟨b58, 0, none⟩) 2 2), (3, pp b60), (6, pp b61), (13, .slice (some ⟨b58, 0, none⟩) 2 2), (14, .int .i64 2), (15, .int .i64 0)] fun TA => ?_
 refine W.block ?_
 refine W.unroll (WL.once ?_)
 refine W.seq (W.region ?_)
 refine RW.v ?_
 refine RW.nil ?_
 refine W.rg [(1, v5), (2, .slice (some ⟨b58, 0, none⟩) 2 2), (3, pp b60), (6, pp b61), (13, .slice (some ⟨b58, 0, none⟩) 2 2), (14, .int .i64 2), (15, .int .i64 0), (16, .bool true)] fun TA => ?_
 refine W.seq ?_
 refine W.c1 ?_
 refine W.skip ?_
 refine W.seq ?_
 refine W.block ?_
 refine W.seq (W.region ?_)
 refine RW.v ?_
 refine RW.idx (s := 2) (by kernel_rfl) (by kernel_rfl) rfl Tryd.underlying35 (by kernel_rfl) rfl rfl ⟨by decide, by decide⟩ (by kernel_rfl) ?_
 refine RW.ld H 2 2 ?_
 refine RW.mk H (.row ⟨[.int .i64 0, .int .i64 0], 28, false⟩) ?_
 clear H; intro _ b62 _ H
 refine RW.v ?_
 refine RW.st H 0 [.int .i64 1, .int .i64 65] [.int .i64 1, .int .i64 65] ?_
 clear H; intro _ _ H; dsimp only [setL, delL] at H
 refine RW.nil ?_
 refine W.rg [(1, v5), (2, .slice (some ⟨b58, 0, none⟩) 2 2), (3, pp b60), (6, pp b61), (9, .int .i64 0), (10, pp b62), (13, .slice (some ⟨b58, 0, none⟩) 2 2), (14, .int .i64 2), (15, .int .i64 0)] fun TA => ?_
 refine W.seq (W.region ?_)
 refine RW.ld H 2 4 ?_
 refine RW.v ?_
 refine RW.ld H 0 2 ?_
 refine RW.cl ?_
 refine WC.enter (fn := Tryd.f56) Tryd.func56 rfl ?_
 refine W.rg [(0, .agg #[pp h, pp T, .int .i64 1, .int .i64 66]), (1, v5), (2, .agg #[.int .i64 1, .int .i64 65])] fun TA => ?_
 refine W.seq (W.region ?_)
 refine RW.mk H (.row ⟨[pt h, pt T, .int .i64 1, .int .i64 66], 65, false⟩) ?_
 clear H; intro _ b63 _ H
 refine RW.mk H (.row ⟨[.int .i64 1, .int .i64 65], 28, false⟩) ?_
 clear H; intro _ b64 _ H
 refine RW.mk H (.row ⟨[.int .i64 0, .int .i64 0], 28, false⟩) ?_
 clear H; intro _ b65 _ H
 refine RW.v ?_
 refine RW.nil ?_
 refine W.rg [(1, v5), (3, pp b63), (5, pp b64), (6, pp b65)] fun TA => ?_
 refine W.seq (W.region ?_)
 refine RW.cl ?_
 refine WC.enter (fn := Tryd.f33) Tryd.func33 rfl ?_
 refine W.rg [] fun TA => ?_
 refine W.seq (W.region ?_)
 refine RW.mk H (.row ⟨[.int .i64 0, .int .i64 0], 28, false⟩) ?_
 clear H; intro _ b66 _ H
 refine RW.nil ?_
 refine W.rg [(0, pp b66)] fun TA => ?_
 refine W.seq (W.region ?_)
 refine RW.cl ?_
 refine WC.enter (fn := Tryd.f32) Tryd.func32 rfl ?_
 refine W.rg [(0, .int .i64 0)] fun TA => ?_
 refine W.seq (W.region ?_)
 refine RW.mk H (.row ⟨[.int .i64 0, .int .i64 0], 28, false⟩) ?_
 clear H; intro _ b67 _ H
 refine RW.nil ?_
 refine W.rg [(0, .int .i64 0), (2, pp b67)] fun TA => ?_
 refine W.seq (W.region ?_)
 refine RW.v ?_
 refine RW.val (v := .agg #[.int .i64 1, .int .i64 0]) (by kernel_rfl) (by kernel_rfl) (by kernel_rfl) (by kernel_rfl) ?_
 refine RW.st H 0 [.int .i64 1, .int .i64 0] [.int .i64 1, .int .i64 0] ?_
 clear H; intro _ _ H; dsimp only [setL, delL] at H
 refine RW.nil ?_
 refine W.ret ?_
 refine endG (by rfl) (by exact resL_cell rfl (H.get 0 rfl) (by rw [uT_eq]; exact Tryd.underlying28) (by kernel_rfl) rfl rfl rfl) ?_
 refine RW.st H 1 [.int .i64 1, .int .i64 0] [.int .i64 1, .int .i64 0] ?_
 clear H; intro _ _ H; dsimp only [setL, delL] at H
 refine RW.nil ?_
 replace H := (H.del 0)
 dsimp only [setL, delL] at H
 refine W.ret ?_
 refine endG (by rfl) (by exact resL_cell rfl (H.get 0 rfl) (by rw [uT_eq]; exact Tryd.underlying28) (by kernel_rfl) rfl rfl rfl) ?_
 refine RW.mk H (.row ⟨[.int .i64 0, .int .i64 0], 28, false⟩) ?_
 clear H; intro _ b68 _ H
 refine RW.st H 0 [.int .i64 1, .int .i64 0] [.int .i64 1, .int .i64 0] ?_
 clear H; intro _ _ H; dsimp only [setL, delL] at H
 refine RW.nil ?_
 replace H := (H.del 1)
 dsimp only [setL, delL] at H
 refine W.rg [(1, v5), (3, pp b63), (5, pp b64), (6, pp b65), (8, pp b68)] fun TA => ?_
 refine W.seq (W.region ?_)
 refine RW.v ?_
 refine RW.nil ?_
 refine W.rg [(1, v5), (3, pp b63), (5, pp b64), (6, pp b65), (8, pp b68), (9, .slice none 0 0)] fun TA => ?_
 refine W.seq ?_
 refine W.seq (W.region ?_)
 refine RW.v ?_
 refine RW.len (by kernel_rfl) (by kernel_rfl) rfl rfl rfl rfl ((H.sl 9 rfl).len (by kernel_rfl)) (by kernel_rfl) ?_
 refine RW.v ?_
 refine RW.nil ?_
 refine W.rg [(3, pp b63), (5, pp b64), (6, pp b65), (8, pp b68), (9, .slice none 0 0), (16, v5), (17, .int .i64 2), (18, .int .i64 0)] fun TA => ?_
 refine W.block ?_
 refine W.unroll (WL.once ?_)
 refine W.seq (W.region ?_)
 refine RW.v ?_
 refine RW.nil ?_
 refine W.rg [(3, pp b63), (5, pp b64), (6, pp b65), (8, pp b68), (9, .slice none 0 0), (16, v5), (17, .int .i64 2), (18, .int .i64 0), (19, .bool true)] fun TA => ?_
 refine W.seq ?_
 refine W.c1 ?_
 refine W.skip ?_
 refine W.seq ?_
 refine W.block ?_
 refine W.seq (W.region ?_)
 refine RW.idxG H 9 rfl (by kernel_rfl) (by kernel_rfl) rfl Tryd.underlying35 (by kernel_rfl) rfl rfl ⟨by decide, by decide⟩ (by kernel_rfl) ?_
 intro b69 q70 r71 hF72 hE73
 replace hE73 : (r71.cs.drop q70).take 2 = [.int .i64 2, .int .i64 0] := hE73.trans (by kernel_rfl)
 refine RW.loads 2 (by kernel_rfl) (by kernel_rfl) rfl rfl (hF72) hE73 rfl (by kernel_rfl) ?_
 refine RW.mk H (.row ⟨[.int .i64 0, .int .i64 0], 28, false⟩) ?_
 clear H; intro _ b74 _ H
 refine RW.st H 0 [.int .i64 2, .int .i64 0] [.int .i64 2, .int .i64 0] ?_
 clear H; intro _ _ H; dsimp only [setL, delL] at H
 refine RW.nil ?_
 refine W.rg [(3, pp b63), (5, pp b64), (6, pp b65), (8, pp b68), (9, .slice none 0 0), (11, pp b74), (16, v5), (17, .int .i64 2), (18, .int .i64 0)] fun TA => ?_
 refine W.seq (W.region ?_)
 refine RW.ld H 4 4 ?_
 refine RW.ld H 0 2 ?_
 refine RW.ld H 3 2 ?_
 refine RW.cl ?_
 refine ((bound_wc (h := h) (T := T) (ev := ((1, 65) : Wd)) mp5 (Nat.le_of_ble_eq_true rfl) (fun j hj => by match j, hj with | 0, _ => (simp <;> omega) | j + 1, hj => exact absurd hj (by simp)) H.gn H.abs).mono ?_)
 rintro _ _ ⟨e, K⟩
 replace H := H.then K
 clear K
 dsimp only [List.nil_append, List.cons_append] at H
 replace e := e.trans (congrArg wdV (show _ = ((1, 0) : Wd) from ((boundP_no (by simp [pB] <;> omega)).trans boundP_nil)))
 subst e
 refine RW.mk H (.row ⟨[.int .i64 0, .int .i64 0], 28, false⟩) ?_
 clear H; intro _ b75 _ H
 refine RW.st H 0 [.int .i64 1, .int .i64 0] [.int .i64 1, .int .i64 0] ?_
 clear H; intro _ _ H; dsimp only [setL, delL] at H
 refine RW.nil ?_
 replace H := (H.del 1)
 dsimp only [setL, delL] at H
 refine W.rg [(3, pp b63), (5, pp b64), (6, pp b65), (8, pp b68), (9, .slice none 0 0), (12, pp b75), (16, v5), (17, .int .i64 2), (18, .int .i64 0)] fun TA => ?_
 refine W.seq ?_
 refine W.seq ?_
 refine W.drawn (by kernel_rfl) (by kernel_rfl) H.gn ?_
 have H76 := H
 refine RW.ld H76 0 2 ?_
 refine RW.cl ?_
 refine WC.enter (fn := Tryd.f33) Tryd.func33 rfl ?_
 replace H := H76
 refine W.rg [] fun TA => ?_
 refine W.seq (W.region ?_)
 refine RW.mk H (.row ⟨[.int .i64 0, .int .i64 0], 28, false⟩) ?_
 clear H; intro _ b77 _ H
 refine RW.nil ?_
 refine W.rg [(0, pp b77)] fun TA => ?_
 refine W.seq (W.region ?_)
 refine RW.cl ?_
 refine WC.enter (fn := Tryd.f32) Tryd.func32 rfl ?_
 refine W.rg [(0, .int .i64 0)] fun TA => ?_
 refine W.seq (W.region ?_)
 refine RW.mk H (.row ⟨[.int .i64 0, .int .i64 0], 28, false⟩) ?_
 clear H; intro _ b78 _ H
 refine RW.nil ?_
 refine W.rg [(0, .int .i64 0), (2, pp b78)] fun TA => ?_
 refine W.seq (W.region ?_)
 refine RW.v ?_
 refine RW.val (v := .agg #[.int .i64 1, .int .i64 0]) (by kernel_rfl) (by kernel_rfl) (by kernel_rfl) (by kernel_rfl) ?_
 refine RW.st H 0 [.int .i64 1, .int .i64 0] [.int .i64 1, .int .i64 0] ?_
 clear H; intro _ _ H; dsimp only [setL, delL] at H
 refine RW.nil ?_
 refine W.ret ?_
 refine endG (by rfl) (by exact resL_cell rfl (H.get 0 rfl) (by rw [uT_eq]; exact Tryd.underlying28) (by kernel_rfl) rfl rfl rfl) ?_
 refine RW.st H 1 [.int .i64 1, .int .i64 0] [.int .i64 1, .int .i64 0] ?_
 clear H; intro _ _ H; dsimp only [setL, delL] at H
 refine RW.nil ?_
 replace H := (H.del 0)
 dsimp only [setL, delL] at H
 refine W.ret ?_
 refine endG (by rfl) (by exact resL_cell rfl (H.get 0 rfl) (by rw [uT_eq]; exact Tryd.underlying28) (by kernel_rfl) rfl rfl rfl) ?_
 have H79 := H
 refine RW.vop (v := .bool true) (by kernel_rfl) (by kernel_rfl) (vop_eqS (b := true) (r := true) rfl (.inl ⟨rfl, rfl⟩) rfl rfl rfl rfl (by kernel_rfl) (fun w => (eqWd _ _ _ _ w).trans (by simp))) (by kernel_rfl) ?_
 refine RW.nil ?_
 refine ⟨⟨by kernel_rfl, ⟨dyn_row (H76.get 0 rfl) (H79.get 1 rfl) ⟨fun h => Bool.noConfusion h, fun _ => H76.get 0 rfl, fun h => Bool.noConfusion h, trivial⟩, trivial, trivial, trivial⟩⟩, ?_⟩
 replace H := H79
 clear H76 H79
 replace H := (H.del 0)
 dsimp only [setL, delL] at H
 refine W.c1 ?_
 refine W.exit _ ?_
 refine seqQ_exit ?_
 refine blkQ_here ?_
 refine W.region ?_
 iterate 2 refine RW.v ?_
 refine RW.nil ?_
 replace H := (H.del 0)
 dsimp only [setL, delL] at H
 refine WL.once ?_
 refine W.rg [(3, pp b63), (5, pp b64), (6, pp b65), (8, pp b68), (9, .slice none 0 0), (16, v5), (17, .int .i64 2), (18, .int .i64 1)] fun TA => ?_
 refine W.seq (W.region ?_)
 refine RW.v ?_
 refine RW.nil ?_
 refine W.rg [(3, pp b63), (5, pp b64), (6, pp b65), (8, pp b68), (9, .slice none 0 0), (16, v5), (17, .int .i64 2), (18, .int .i64 1), (19, .bool true)] fun TA => ?_
 refine W.seq ?_
 refine W.c1 ?_
 refine W.skip ?_
 refine W.seq ?_
 refine W.block ?_
 refine W.seq (W.region ?_)
 refine RW.idxG H 9 rfl (by kernel_rfl) (by kernel_rfl) rfl Tryd.underlying35 (by kernel_rfl) rfl rfl ⟨by decide, by decide⟩ (by kernel_rfl) ?_
 intro b80 q81 r82 hF83 hE84
 replace hE84 : (r82.cs.drop q81).take 2 = [.int .i64 2, .int .i64 1] := hE84.trans (by kernel_rfl)
 refine RW.loads 2 (by kernel_rfl) (by kernel_rfl) rfl rfl (hF83) hE84 rfl (by kernel_rfl) ?_
 refine RW.mk H (.row ⟨[.int .i64 0, .int .i64 0], 28, false⟩) ?_
 clear H; intro _ b85 _ H
 refine RW.st H 0 [.int .i64 2, .int .i64 1] [.int .i64 2, .int .i64 1] ?_
 clear H; intro _ _ H; dsimp only [setL, delL] at H
 refine RW.nil ?_
 refine W.rg [(3, pp b63), (5, pp b64), (6, pp b65), (8, pp b68), (9, .slice none 0 0), (11, pp b85), (16, v5), (17, .int .i64 2), (18, .int .i64 1)] fun TA => ?_
 refine W.seq (W.region ?_)
 refine RW.ld H 4 4 ?_
 refine RW.ld H 0 2 ?_
 refine RW.ld H 3 2 ?_
 refine RW.cl ?_
 refine ((bound_wc (h := h) (T := T) (ev := ((1, 65) : Wd)) mp6 (Nat.le_of_ble_eq_true rfl) (fun j hj => by match j, hj with | 0, _ => (simp <;> omega) | j + 1, hj => exact absurd hj (by simp)) H.gn H.abs).mono ?_)
 rintro _ _ ⟨e, K⟩
 replace H := H.then K
 clear K
 dsimp only [List.nil_append, List.cons_append] at H
 replace e := e.trans (congrArg wdV (show _ = ((2, 4) : Wd) from (boundP_yes (by simp [pB] <;> omega))))
 subst e
 refine RW.mk H (.row ⟨[.int .i64 0, .int .i64 0], 28, false⟩) ?_
 clear H; intro _ b86 _ H
 refine RW.st H 0 [.int .i64 2, .int .i64 4] [.int .i64 2, .int .i64 4] ?_
 clear H; intro _ _ H; dsimp only [setL, delL] at H
 refine RW.nil ?_
 replace H := (H.del 1)
 dsimp only [setL, delL] at H
 refine W.rg [(3, pp b63), (5, pp b64), (6, pp b65), (8, pp b68), (9, .slice none 0 0), (12, pp b86), (16, v5), (17, .int .i64 2), (18, .int .i64 1)] fun TA => ?_
 refine W.seq ?_
 refine W.seq ?_
 refine W.drawn (by kernel_rfl) (by kernel_rfl) H.gn ?_
 have H87 := H
 refine RW.ld H87 0 2 ?_
 refine RW.cl ?_
 refine WC.enter (fn := Tryd.f33) Tryd.func33 rfl ?_
 replace H := H87
 refine W.rg [] fun TA => ?_
 refine W.seq (W.region ?_)
 refine RW.mk H (.row ⟨[.int .i64 0, .int .i64 0], 28, false⟩) ?_
 clear H; intro _ b88 _ H
 refine RW.nil ?_
 refine W.rg [(0, pp b88)] fun TA => ?_
 refine W.seq (W.region ?_)
 refine RW.cl ?_
 refine WC.enter (fn := Tryd.f32) Tryd.func32 rfl ?_
 refine W.rg [(0, .int .i64 0)] fun TA => ?_
 refine W.seq (W.region ?_)
 refine RW.mk H (.row ⟨[.int .i64 0, .int .i64 0], 28, false⟩) ?_
 clear H; intro _ b89 _ H
 refine RW.nil ?_
 refine W.rg [(0, .int .i64 0), (2, pp b89)] fun TA => ?_
 refine W.seq (W.region ?_)
 refine RW.v ?_
 refine RW.val (v := .agg #[.int .i64 1, .int .i64 0]) (by kernel_rfl) (by kernel_rfl) (by kernel_rfl) (by kernel_rfl) ?_
 refine RW.st H 0 [.int .i64 1, .int .i64 0] [.int .i64 1, .int .i64 0] ?_
 clear H; intro _ _ H; dsimp only [setL, delL] at H
 refine RW.nil ?_
 refine W.ret ?_
 refine endG (by rfl) (by exact resL_cell rfl (H.get 0 rfl) (by rw [uT_eq]; exact Tryd.underlying28) (by kernel_rfl) rfl rfl rfl) ?_
 refine RW.st H 1 [.int .i64 1, .int .i64 0] [.int .i64 1, .int .i64 0] ?_
 clear H; intro _ _ H; dsimp only [setL, delL] at H
 refine RW.nil ?_
 replace H := (H.del 0)
 dsimp only [setL, delL] at H
 refine W.ret ?_
 refine endG (by rfl) (by exact resL_cell rfl (H.get 0 rfl) (by rw [uT_eq]; exact Tryd.underlying28) (by kernel_rfl) rfl rfl rfl) ?_
 have H90 := H
 refine RW.vop (v := .bool false) (by kernel_rfl) (by kernel_rfl) (vop_eqS (b := false) (r := false) rfl (.inl ⟨rfl, rfl⟩) rfl rfl rfl rfl (by kernel_rfl) (fun w => (eqWd _ _ _ _ w).trans (by simp))) (by kernel_rfl) ?_
 refine RW.nil ?_
 refine ⟨⟨by kernel_rfl, ⟨dyn_row (H87.get 0 rfl) (H90.get 1 rfl) ⟨fun h => Bool.noConfusion h, fun _ => H87.get 0 rfl, fun h => Bool.noConfusion h, trivial⟩, trivial, trivial, trivial⟩⟩, ?_⟩
 replace H := H90
 clear H87 H90
 replace H := (H.del 0)
 dsimp only [setL, delL] at H
 refine W.c0 ?_
 refine W.skip ?_
 refine W.seq (W.region ?_)
 refine RW.ld H 4 4 ?_
 refine RW.ld H 0 2 ?_
 refine RW.cl ?_
 refine WC.enter (fn := Tryd.f52) Tryd.func52 rfl ?_
 refine W.rg [(0, .agg #[pp h, pp T, .int .i64 1, .int .i64 66]), (1, .agg #[.int .i64 2, .int .i64 4])] fun TA => ?_
 refine W.seq (W.region ?_)
 refine RW.mk H (.row ⟨[pt h, pt T, .int .i64 1, .int .i64 66], 65, false⟩) ?_
 clear H; intro _ b91 _ H
 refine RW.mk H (.row ⟨[.int .i64 2, .int .i64 4], 28, false⟩) ?_
 clear H; intro _ b92 _ H
 refine RW.mk H (.row ⟨[.int .i64 0, .int .i64 0], 28, false⟩) ?_
 clear H; intro _ b93 _ H
 refine RW.v ?_
 refine RW.nil ?_
 refine W.rg [(2, pp b91), (3, pp b92), (4, pp b93)] fun TA => ?_
 refine W.seq ?_
 refine W.seq (W.region ?_)
 refine RW.v ?_
 refine RW.ld H 1 1 ?_
 refine RW.v ?_
 refine RW.nil ?_
 refine W.c0 ?_
 refine W.skip ?_
 refine W.seq ?_
 refine W.drawn (by kernel_rfl) (by kernel_rfl) H.gn ?_
 have H94 := H
 refine RW.ld H94 1 2 ?_
 refine RW.ld H94 2 4 ?_
 refine RW.ld H94 1 2 ?_
 refine RW.cl ?_
 refine ((isMap_y (h := h) (T := T) (w := (2, 4)) (d := ((2, 10) : Wd)) rfl H94).mono ?_)
 rintro _ _ ⟨rfl, H95⟩
 refine RW.stD H95 0 (vs := [.int .i64 2, .int .i64 4]) (cs' := [.int .i64 2, .int .i64 4]) (by kernel_rfl) (by kernel_rfl) rfl rfl rfl rfl rfl (by kernel_rfl) (Nat.le_of_ble_eq_true rfl) rfl (by kernel_rfl) ?_
 intro _ H96
 dsimp only [setL, delL] at H96
 refine RW.v ?_
 refine RW.nil ?_
 refine ⟨⟨by kernel_rfl, ⟨dyn_row (H94.get 1 rfl) (H96.get 1 rfl) ⟨fun h => Bool.noConfusion h, fun h => Bool.noConfusion h, fun h => Bool.noConfusion h, fun _ => H94.get 1 rfl, fun _ => H95.get 1 rfl, fun h => Bool.noConfusion h, trivial⟩, dyn_row (H94.get 2 rfl) (H96.get 2 rfl) ⟨fun h => Bool.noConfusion h, fun h => Bool.noConfusion h, fun h => Bool.noConfusion h, fun _ => H94.get 2 rfl, fun _ => H95.get 2 rfl, fun h => Bool.noConfusion h, trivial⟩, dyn_row (H94.get 1 rfl) (H96.get 1 rfl) ⟨fun h => Bool.noConfusion h, fun h => Bool.noConfusion h, fun h => Bool.noConfusion h, fun _ => H94.get 1 rfl, fun _ => H95.get 1 rfl, fun h => Bool.noConfusion h, trivial⟩, trivial, trivial, trivial, trivial⟩⟩, ?_⟩
 replace H := H96
 clear H94 H95 H96
 replace H := ((H.del 2).del 1)
 dsimp only [setL, delL] at H
 refine W.ret ?_
 refine endG (by rfl) (by exact resL_cell rfl (H.get 0 rfl) (by rw [uT_eq]; exact Tryd.underlying28) (by kernel_rfl) rfl rfl (by exact resL_tmp rfl)) ?_
 iterate 3 refine RW.v ?_
 refine RW.mk H (.row ⟨[.int .i64 0, .int .i64 0], 28, false⟩) ?_
 clear H; intro _ b97 _ H
 refine RW.st H 0 [.int .i64 2, .int .i64 4] [.int .i64 2, .int .i64 4] ?_
 clear H; intro _ _ H; dsimp only [setL, delL] at H
 refine RW.v ?_
 refine RW.nil ?_
 replace H := (H.del 1)
 dsimp only [setL, delL] at H
 refine W.rg [(3, pp b63), (5, pp b64), (6, pp b65), (8, pp b68), (9, .slice none 0 0), (12, pp b86), (13, pp b97), (14, .bool true), (16, v5), (17, .int .i64 2), (18, .int .i64 1)] fun TA => ?_
 refine W.seq ?_
 refine W.seq ?_
 refine W.drawn (by kernel_rfl) (by kernel_rfl) H.gn ?_
 have H98 := H
 refine RW.ld H98 2 2 ?_
 refine RW.cl ?_
 refine WC.enter (fn := Tryd.f33) Tryd.func33 rfl ?_
 replace H := H98
 refine W.rg [] fun TA => ?_
 refine W.seq (W.region ?_)
 refine RW.mk H (.row ⟨[.int .i64 0, .int .i64 0], 28, false⟩) ?_
 clear H; intro _ b99 _ H
 refine RW.nil ?_
 refine W.rg [(0, pp b99)] fun TA => ?_
 refine W.seq (W.region ?_)
 refine RW.cl ?_
 refine WC.enter (fn := Tryd.f32) Tryd.func32 rfl ?_
 refine W.rg [(0, .int .i64 0)] fun TA => ?_
 refine W.seq (W.region ?_)
 refine RW.mk H (.row ⟨[.int .i64 0, .int .i64 0], 28, false⟩) ?_
 clear H; intro _ b100 _ H
 refine RW.nil ?_
 refine W.rg [(0, .int .i64 0), (2, pp b100)] fun TA => ?_
 refine W.seq (W.region ?_)
 refine RW.v ?_
 refine RW.val (v := .agg #[.int .i64 1, .int .i64 0]) (by kernel_rfl) (by kernel_rfl) (by kernel_rfl) (by kernel_rfl) ?_
 refine RW.st H 0 [.int .i64 1, .int .i64 0] [.int .i64 1, .int .i64 0] ?_
 clear H; intro _ _ H; dsimp only [setL, delL] at H
 refine RW.nil ?_
 refine W.ret ?_
 refine endG (by rfl) (by exact resL_cell rfl (H.get 0 rfl) (by rw [uT_eq]; exact Tryd.underlying28) (by kernel_rfl) rfl rfl rfl) ?_
 refine RW.st H 1 [.int .i64 1, .int .i64 0] [.int .i64 1, .int .i64 0] ?_
 clear H; intro _ _ H; dsimp only [setL, delL] at H
 refine RW.nil ?_
 replace H := (H.del 0)
 dsimp only [setL, delL] at H
 refine W.ret ?_
 refine endG (by rfl) (by exact resL_cell rfl (H.get 0 rfl) (by rw [uT_eq]; exact Tryd.underlying28) (by kernel_rfl) rfl rfl rfl) ?_
 have H101 := H
 refine RW.vop (v := .bool true) (by kernel_rfl) (by kernel_rfl) (vop_eqS (b := true) (r := true) rfl (.inl ⟨rfl, rfl⟩) rfl rfl rfl rfl (by kernel_rfl) (fun w => (eqWd _ _ _ _ w).trans (by simp))) (by kernel_rfl) ?_
 refine RW.nil ?_
 refine ⟨⟨by kernel_rfl, ⟨dyn_row (H98.get 2 rfl) (H101.get 3 rfl) ⟨fun h => Bool.noConfusion h, fun _ => H98.get 2 rfl, fun h => Bool.noConfusion h, trivial⟩, trivial, trivial, trivial⟩⟩, ?_⟩
 replace H := H101
 clear H98 H101
 replace H := (H.del 0)
 dsimp only [setL, delL] at H
 refine W.c1 ?_
 refine W.seq (W.region ?_)
 refine RW.ld H 1 2 ?_
 refine RW.st H 2 [.int .i64 2, .int .i64 4] [.int .i64 2, .int .i64 4] ?_
 clear H; intro _ _ H; dsimp only [setL, delL] at H
 refine RW.nil ?_
 replace H := (H.del 1)
 dsimp only [setL, delL] at H
 refine W.rg [(3, pp b63), (5, pp b64), (6, pp b65), (8, pp b68), (9, .slice none 0 0), (13, pp b97), (14, .bool true), (16, v5), (17, .int .i64 2), (18, .int .i64 1)] fun TA => ?_
 refine W.seq (W.region ?_)
 iterate 2 refine RW.v ?_
 refine RW.nil ?_
 refine W.c0 ?_
 refine W.skip ?_
 refine W.seq (W.region ?_)
 refine RW.v ?_
 refine RW.nil ?_
 refine W.c1 ?_
 refine W.region ?_
 refine RW.v ?_
 refine RW.ld H 0 2 ?_
 refine RW.mkL H (x := .row ⟨[.int .i64 2, .int .i64 4], 28, false⟩) (fm := fun b => .slice (some ⟨b, 0, none⟩) 1 1) (by kernel_rfl) (by kernel_rfl) (by kernel_rfl) (by kernel_rfl) ?_
 clear H; intro _ b102 _ H
 replace H := H.nilSl 28 2
 refine RW.appL H 0 1 (n := 1) (e2 := 28) (by kernel_rfl) (by kernel_rfl) rfl rfl rfl rfl rfl rfl rfl rfl (by kernel_rfl) (by kernel_rfl) (by kernel_rfl) (by decide) (by decide) rfl rfl (by omega) (by kernel_rfl) ?_
 clear H; intro _ v103 _ H
 dsimp only [setL, delL] at H
 refine RW.v ?_
 refine RW.nil ?_
 replace H := (H.del 1)
 dsimp only [setL, delL] at H
 refine blkQ_normal ?_
 refine W.rg [(3, pp b63), (5, pp b64), (6, pp b65), (8, pp b68), (9, v103), (16, v5), (17, .int .i64 2), (18, .int .i64 1)] fun TA => ?_
 refine W.region ?_
 iterate 2 refine RW.v ?_
 refine RW.nil ?_
 refine WL.once ?_
 refine W.rg [(3, pp b63), (5, pp b64), (6, pp b65), (8, pp b68), (9, v103), (16, v5), (17, .int .i64 2), (18, .int .i64 2)] fun TA => ?_
 refine W.seq (W.region ?_)
 refine RW.v ?_
 refine RW.nil ?_
 refine W.rg [(3, pp b63), (5, pp b64), (6, pp b65), (8, pp b68), (9, v103), (16, v5), (17, .int .i64 2), (18, .int .i64 2), (19, .bool false)] fun TA => ?_
 refine W.seq ?_
 refine W.c0 ?_
 refine W.exit _ ?_
 refine seqQ_exit ?_
 refine onceQ_exit ?_
 refine blkQ_here ?_
 refine W.seq (W.region ?_)
 refine RW.ld H 1 2 ?_
 refine RW.v ?_
 refine RW.st H 2 [.int .i64 2, .int .i64 4] [.int .i64 2, .int .i64 4] ?_
 clear H; intro _ _ H; dsimp only [setL, delL] at H
 refine RW.v ?_
 refine RW.nil ?_
 replace H := (((H.del 4).del 3).del 1)
 dsimp only [setL, delL] at H
 refine W.ret ?_
 refine endG (by rfl) (by exact resL_cell rfl (H.get 1 rfl) (by rw [uT_eq]; exact Tryd.underlying28) (by kernel_rfl) rfl rfl (by exact resL_tmp rfl)) ?_
 iterate 3 refine RW.v ?_
 refine RW.mk H (.row ⟨[.int .i64 0, .int .i64 0], 28, false⟩) ?_
 clear H; intro _ b104 _ H
 refine RW.st H 0 [.int .i64 2, .int .i64 4] [.int .i64 2, .int .i64 4] ?_
 clear H; intro _ _ H; dsimp only [setL, delL] at H
 refine RW.v ?_
 refine RW.nil ?_
 replace H := ((H.del 3).del 2)
 dsimp only [setL, delL] at H
 refine W.rg [(2, .slice (some ⟨b58, 0, none⟩) 2 2), (3, pp b60), (6, pp b61), (9, .int .i64 0), (11, pp b104), (12, v103), (13, .slice (some ⟨b58, 0, none⟩) 2 2), (14, .int .i64 2), (15, .int .i64 0)] fun TA => ?_
 refine W.seq ?_
 refine W.seq (W.region ?_)
 refine RW.v ?_
 refine RW.len (by kernel_rfl) (by kernel_rfl) rfl rfl rfl rfl ((H.sl 1 rfl).len (by kernel_rfl)) (by kernel_rfl) ?_
 refine RW.v ?_
 refine RW.nil ?_
 refine W.c0 ?_
 refine W.skip ?_
 refine W.region ?_
 iterate 2 refine RW.v ?_
 refine RW.nil ?_
 replace H := (H.del 0)
 dsimp only [setL, delL] at H
 refine blkQ_normal ?_
 refine W.rg [(1, v103), (2, .slice (some ⟨b58, 0, none⟩) 2 2), (3, pp b60), (6, pp b61), (13, .slice (some ⟨b58, 0, none⟩) 2 2), (14, .int .i64 2), (15, .int .i64 0)] fun TA => ?_
 refine W.region ?_
 iterate 2 refine RW.v ?_
 refine RW.nil ?_
 refine WL.once ?_
 refine W.rg [(1, v103), (2, .slice (some ⟨b58, 0, none⟩) 2 2), (3, pp b60), (6, pp b61), (13, .slice (some ⟨b58, 0, none⟩) 2 2), (14, .int .i64 2), (15, .int .i64 1)] fun TA => ?_
 refine W.seq (W.region ?_)
 refine RW.v ?_
 refine RW.nil ?_
 refine W.rg [(1, v103), (2, .slice (some ⟨b58, 0, none⟩) 2 2), (3, pp b60), (6, pp b61), (13, .slice (some ⟨b58, 0, none⟩) 2 2), (14, .int .i64 2), (15, .int .i64 1), (16, .bool true)] fun TA => ?_
 refine W.seq ?_
 refine W.c1 ?_
 refine W.skip ?_
 refine W.seq ?_
 refine W.block ?_
 refine W.seq (W.region ?_)
 refine RW.v ?_
 refine RW.idx (s := 2) (by kernel_rfl) (by kernel_rfl) rfl Tryd.underlying35 (by kernel_rfl) rfl rfl ⟨by decide, by decide⟩ (by kernel_rfl) ?_
 refine RW.ld H 3 2 ?_
 refine RW.mk H (.row ⟨[.int .i64 0, .int .i64 0], 28, false⟩) ?_
 clear H; intro _ b105 _ H
 refine RW.v ?_
 refine RW.st H 0 [.int .i64 1, .int .i64 xn] [.int .i64 1, .int .i64 xn] ?_
 clear H; intro _ _ H; dsimp only [setL, delL] at H
 refine RW.nil ?_
 refine W.rg [(1, v103), (2, .slice (some ⟨b58, 0, none⟩) 2 2), (3, pp b60), (6, pp b61), (9, .int .i64 1), (10, pp b105), (13, .slice (some ⟨b58, 0, none⟩) 2 2), (14, .int .i64 2), (15, .int .i64 1)] fun TA => ?_
 refine W.seq (W.region ?_)
 refine RW.ld H 3 4 ?_
 refine RW.v ?_
 refine RW.ld H 0 2 ?_
 refine RW.cl ?_
 refine WC.enter (fn := Tryd.f56) Tryd.func56 rfl ?_
 refine W.rg [(0, .agg #[pp h, pp T, .int .i64 1, .int .i64 66]), (1, v103), (2, .agg #[.int .i64 1, .int .i64 xn])] fun TA => ?_
 refine W.seq (W.region ?_)
 refine RW.mk H (.row ⟨[pt h, pt T, .int .i64 1, .int .i64 66], 65, false⟩) ?_
 clear H; intro _ b106 _ H
 refine RW.mk H (.row ⟨[.int .i64 1, .int .i64 xn], 28, false⟩) ?_
 clear H; intro _ b107 _ H
 refine RW.mk H (.row ⟨[.int .i64 0, .int .i64 0], 28, false⟩) ?_
 clear H; intro _ b108 _ H
 refine RW.v ?_
 refine RW.nil ?_
 refine W.rg [(1, v103), (3, pp b106), (5, pp b107), (6, pp b108)] fun TA => ?_
 refine W.seq (W.region ?_)
 refine RW.cl ?_
 refine WC.enter (fn := Tryd.f33) Tryd.func33 rfl ?_
 refine W.rg [] fun TA => ?_
 refine W.seq (W.region ?_)
 refine RW.mk H (.row ⟨[.int .i64 0, .int .i64 0], 28, false⟩) ?_
 clear H; intro _ b109 _ H
 refine RW.nil ?_
 refine W.rg [(0, pp b109)] fun TA => ?_
 refine W.seq (W.region ?_)
 refine RW.cl ?_
 refine WC.enter (fn := Tryd.f32) Tryd.func32 rfl ?_
 refine W.rg [(0, .int .i64 0)] fun TA => ?_
 refine W.seq (W.region ?_)
 refine RW.mk H (.row ⟨[.int .i64 0, .int .i64 0], 28, false⟩) ?_
 clear H; intro _ b110 _ H
 refine RW.nil ?_
 refine W.rg [(0, .int .i64 0), (2, pp b110)] fun TA => ?_
 refine W.seq (W.region ?_)
 refine RW.v ?_
 refine RW.val (v := .agg #[.int .i64 1, .int .i64 0]) (by kernel_rfl) (by kernel_rfl) (by kernel_rfl) (by kernel_rfl) ?_
 refine RW.st H 0 [.int .i64 1, .int .i64 0] [.int .i64 1, .int .i64 0] ?_
 clear H; intro _ _ H; dsimp only [setL, delL] at H
 refine RW.nil ?_
 refine W.ret ?_
 refine endG (by rfl) (by exact resL_cell rfl (H.get 0 rfl) (by rw [uT_eq]; exact Tryd.underlying28) (by kernel_rfl) rfl rfl rfl) ?_
 refine RW.st H 1 [.int .i64 1, .int .i64 0] [.int .i64 1, .int .i64 0] ?_
 clear H; intro _ _ H; dsimp only [setL, delL] at H
 refine RW.nil ?_
 replace H := (H.del 0)
 dsimp only [setL, delL] at H
 refine W.ret ?_
 refine endG (by rfl) (by exact resL_cell rfl (H.get 0 rfl) (by rw [uT_eq]; exact Tryd.underlying28) (by kernel_rfl) rfl rfl rfl) ?_
 refine RW.mk H (.row ⟨[.int .i64 0, .int .i64 0], 28, false⟩) ?_
 clear H; intro _ b111 _ H
 refine RW.st H 0 [.int .i64 1, .int .i64 0] [.int .i64 1, .int .i64 0] ?_
 clear H; intro _ _ H; dsimp only [setL, delL] at H
 refine RW.nil ?_
 replace H := (H.del 1)
 dsimp only [setL, delL] at H
 refine W.rg [(1, v103), (3, pp b106), (5, pp b107), (6, pp b108), (8, pp b111)] fun TA => ?_
 refine W.seq (W.region ?_)
 refine RW.v ?_
 refine RW.nil ?_
 refine W.rg [(1, v103), (3, pp b106), (5, pp b107), (6, pp b108), (8, pp b111), (9, .slice none 0 0)] fun TA => ?_
 refine W.seq ?_
 refine W.seq (W.region ?_)
 refine RW.v ?_
 refine RW.len (by kernel_rfl) (by kernel_rfl) rfl rfl rfl rfl ((H.sl 5 rfl).len (by kernel_rfl)) (by kernel_rfl) ?_
 refine RW.v ?_
 refine RW.nil ?_
 refine W.rg [(3, pp b106), (5, pp b107), (6, pp b108), (8, pp b111), (9, .slice none 0 0), (16, v103), (17, .int .i64 1), (18, .int .i64 0)] fun TA => ?_
 refine W.block ?_
 refine W.unroll (WL.once ?_)
 refine W.seq (W.region ?_)
 refine RW.v ?_
 refine RW.nil ?_
 refine W.rg [(3, pp b106), (5, pp b107), (6, pp b108), (8, pp b111), (9, .slice none 0 0), (16, v103), (17, .int .i64 1), (18, .int .i64 0), (19, .bool true)] fun TA => ?_
 refine W.seq ?_
 refine W.c1 ?_
 refine W.skip ?_
 refine W.seq ?_
 refine W.block ?_
 refine W.seq (W.region ?_)
 refine RW.idxG H 5 rfl (by kernel_rfl) (by kernel_rfl) rfl Tryd.underlying35 (by kernel_rfl) rfl rfl ⟨by decide, by decide⟩ (by kernel_rfl) ?_
 intro b112 q113 r114 hF115 hE116
 replace hE116 : (r114.cs.drop q113).take 2 = [.int .i64 2, .int .i64 4] := hE116.trans (by kernel_rfl)
 refine RW.loads 2 (by kernel_rfl) (by kernel_rfl) rfl rfl (hF115) hE116 rfl (by kernel_rfl) ?_
 refine RW.mk H (.row ⟨[.int .i64 0, .int .i64 0], 28, false⟩) ?_
 clear H; intro _ b117 _ H
 refine RW.st H 0 [.int .i64 2, .int .i64 4] [.int .i64 2, .int .i64 4] ?_
 clear H; intro _ _ H; dsimp only [setL, delL] at H
 refine RW.nil ?_
 refine W.rg [(3, pp b106), (5, pp b107), (6, pp b108), (8, pp b111), (9, .slice none 0 0), (11, pp b117), (16, v103), (17, .int .i64 1), (18, .int .i64 0)] fun TA => ?_
 refine W.seq (W.region ?_)
 refine RW.ld H 4 4 ?_
 refine RW.ld H 0 2 ?_
 refine RW.ld H 3 2 ?_
 refine RW.cl ?_
 refine ((bound_wc (h := h) (T := T) (ev := ((1, xn) : Wd)) mp7 (Nat.le_of_ble_eq_true rfl) (fun j hj => by match j, hj with | 0, _ => (simp <;> omega) | 1, _ => (simp <;> omega) | j + 2, hj => exact absurd hj (by simp)) H.gn H.abs).mono ?_)
 rintro _ _ ⟨e, K⟩
 replace H := H.then K
 clear K
 dsimp only [List.nil_append, List.cons_append] at H
 replace e := e.trans (congrArg wdV (show _ = ((1, yn) : Wd) from ((boundP_no (by simp [pB] <;> omega)).trans (boundP_yes (by simp [pB] <;> omega)))))
 subst e
 refine RW.mk H (.row ⟨[.int .i64 0, .int .i64 0], 28, false⟩) ?_
 clear H; intro _ b118 _ H
 refine RW.st H 0 [.int .i64 1, .int .i64 yn] [.int .i64 1, .int .i64 yn] ?_
 clear H; intro _ _ H; dsimp only [setL, delL] at H
 refine RW.nil ?_
 replace H := (H.del 1)
 dsimp only [setL, delL] at H
 refine W.rg [(3, pp b106), (5, pp b107), (6, pp b108), (8, pp b111), (9, .slice none 0 0), (12, pp b118), (16, v103), (17, .int .i64 1), (18, .int .i64 0)] fun TA => ?_
 refine W.seq ?_
 refine W.seq ?_
 refine W.drawn (by kernel_rfl) (by kernel_rfl) H.gn ?_
 have H119 := H
 refine RW.ld H119 0 2 ?_
 refine RW.cl ?_
 refine WC.enter (fn := Tryd.f33) Tryd.func33 rfl ?_
 replace H := H119
 refine W.rg [] fun TA => ?_
 refine W.seq (W.region ?_)
 refine RW.mk H (.row ⟨[.int .i64 0, .int .i64 0], 28, false⟩) ?_
 clear H; intro _ b120 _ H
 refine RW.nil ?_
 refine W.rg [(0, pp b120)] fun TA => ?_
 refine W.seq (W.region ?_)
 refine RW.cl ?_
 refine WC.enter (fn := Tryd.f32) Tryd.func32 rfl ?_
 refine W.rg [(0, .int .i64 0)] fun TA => ?_
 refine W.seq (W.region ?_)
 refine RW.mk H (.row ⟨[.int .i64 0, .int .i64 0], 28, false⟩) ?_
 clear H; intro _ b121 _ H
 refine RW.nil ?_
 refine W.rg [(0, .int .i64 0), (2, pp b121)] fun TA => ?_
 refine W.seq (W.region ?_)
 refine RW.v ?_
 refine RW.val (v := .agg #[.int .i64 1, .int .i64 0]) (by kernel_rfl) (by kernel_rfl) (by kernel_rfl) (by kernel_rfl) ?_
 refine RW.st H 0 [.int .i64 1, .int .i64 0] [.int .i64 1, .int .i64 0] ?_
 clear H; intro _ _ H; dsimp only [setL, delL] at H
 refine RW.nil ?_
 refine W.ret ?_
 refine endG (by rfl) (by exact resL_cell rfl (H.get 0 rfl) (by rw [uT_eq]; exact Tryd.underlying28) (by kernel_rfl) rfl rfl rfl) ?_
 refine RW.st H 1 [.int .i64 1, .int .i64 0] [.int .i64 1, .int .i64 0] ?_
 clear H; intro _ _ H; dsimp only [setL, delL] at H
 refine RW.nil ?_
 replace H := (H.del 0)
 dsimp only [setL, delL] at H
 refine W.ret ?_
 refine endG (by rfl) (by exact resL_cell rfl (H.get 0 rfl) (by rw [uT_eq]; exact Tryd.underlying28) (by kernel_rfl) rfl rfl rfl) ?_
 have H122 := H
 refine RW.vop (v := .bool false) (by kernel_rfl) (by kernel_rfl) (vop_eqS (b := false) (r := false) rfl (.inl ⟨rfl, rfl⟩) rfl rfl rfl rfl (by kernel_rfl) (fun w => (eqWd _ _ _ _ w).trans (by simp <;> omega))) (by kernel_rfl) ?_
 refine RW.nil ?_
 refine ⟨⟨by kernel_rfl, ⟨dyn_row (H119.get 0 rfl) (H122.get 1 rfl) ⟨fun h => Bool.noConfusion h, fun _ => H119.get 0 rfl, fun h => Bool.noConfusion h, trivial⟩, trivial, trivial, trivial⟩⟩, ?_⟩
 replace H := H122
 clear H119 H122
 replace H := (H.del 0)
 dsimp only [setL, delL] at H
 refine W.c0 ?_
 refine W.skip ?_
 refine W.seq (W.region ?_)
 refine RW.ld H 4 4 ?_
 refine RW.ld H 0 2 ?_
 refine RW.cl ?_
 refine WC.enter (fn := Tryd.f52) Tryd.func52 rfl ?_
 refine W.rg [(0, .agg #[pp h, pp T, .int .i64 1, .int .i64 66]), (1, .agg #[.int .i64 1, .int .i64 yn])] fun TA => ?_
 refine W.seq (W.region ?_)
 refine RW.mk H (.row ⟨[pt h, pt T, .int .i64 1, .int .i64 66], 65, false⟩) ?_
 clear H; intro _ b123 _ H
 refine RW.mk H (.row ⟨[.int .i64 1, .int .i64 yn], 28, false⟩) ?_
 clear H; intro _ b124 _ H
 refine RW.mk H (.row ⟨[.int .i64 0, .int .i64 0], 28, false⟩) ?_
 clear H; intro _ b125 _ H
 refine RW.v ?_
 refine RW.nil ?_
 refine W.rg [(2, pp b123), (3, pp b124), (4, pp b125)] fun TA => ?_
 refine W.seq ?_
 refine W.seq (W.region ?_)
 refine RW.v ?_
 refine RW.ld H 1 1 ?_
 refine RW.v ?_
 refine RW.nil ?_
 refine W.c1 ?_
 refine W.region ?_
 refine RW.v ?_
 refine RW.ld H 2 1 ?_
 refine RW.v ?_
 refine RW.ld H 1 1 ?_
 refine RW.cl ?_
 refine ((func_wc (n := yn) (by omega) (by omega) H.gn H.abs (hT.le H.old)).mono ?_)
 rintro _ _ ⟨rfl, K⟩
 replace H := H.then K
 clear K
 dsimp only [List.nil_append, List.cons_append] at H
 iterate 3 refine RW.v ?_
 refine RW.st H 1 [.int .i64 0, .int .i64 0] [.int .i64 0, .int .i64 0] ?_
 clear H; intro _ _ H; dsimp only [setL, delL] at H
 refine RW.nil ?_
 refine W.rg [(2, pp b123), (3, pp b124), (4, pp b125)] fun TA => ?_
 refine W.seq ?_
 refine W.drawn (by kernel_rfl) (by kernel_rfl) H.gn ?_
 have H126 := H
 refine RW.ld H126 1 2 ?_
 refine RW.ld H126 2 4 ?_
 refine RW.ld H126 1 2 ?_
 refine RW.cl ?_
 refine ((isMap_n (h := h) (T := T) (w := ((0, 0) : Wd)) (by decide) H126).mono ?_)
 rintro _ _ ⟨rfl, H127⟩
 refine RW.stD H127 0 (vs := [.int .i64 0, .int .i64 0]) (cs' := [.int .i64 0, .int .i64 0]) (by kernel_rfl) (by kernel_rfl) rfl rfl rfl rfl rfl (by kernel_rfl) (Nat.le_of_ble_eq_true rfl) rfl (by kernel_rfl) ?_
 intro _ H128
 dsimp only [setL, delL] at H128
 refine RW.v ?_
 refine RW.nil ?_
 refine ⟨⟨by kernel_rfl, ⟨dyn_row (H126.get 1 rfl) (H128.get 1 rfl) ⟨fun h => Bool.noConfusion h, fun h => Bool.noConfusion h, fun h => Bool.noConfusion h, fun _ => H126.get 1 rfl, fun _ => H127.get 1 rfl, fun h => Bool.noConfusion h, trivial⟩, dyn_row (H126.get 2 rfl) (H128.get 2 rfl) ⟨fun h => Bool.noConfusion h, fun h => Bool.noConfusion h, fun h => Bool.noConfusion h, fun _ => H126.get 2 rfl, fun _ => H127.get 2 rfl, fun h => Bool.noConfusion h, trivial⟩, dyn_row (H126.get 1 rfl) (H128.get 1 rfl) ⟨fun h => Bool.noConfusion h, fun h => Bool.noConfusion h, fun h => Bool.noConfusion h, fun _ => H126.get 1 rfl, fun _ => H127.get 1 rfl, fun h => Bool.noConfusion h, trivial⟩, trivial, trivial, trivial, trivial⟩⟩, ?_⟩
 replace H := H128
 clear H126 H127 H128
 replace H := ((H.del 2).del 1)
 dsimp only [setL, delL] at H
 refine W.ret ?_
 refine endG (by rfl) (by exact resL_cell rfl (H.get 0 rfl) (by rw [uT_eq]; exact Tryd.underlying28) (by kernel_rfl) rfl rfl (by exact resL_tmp rfl)) ?_
 iterate 3 refine RW.v ?_
 refine RW.mk H (.row ⟨[.int .i64 0, .int .i64 0], 28, false⟩) ?_
 clear H; intro _ b129 _ H
 refine RW.st H 0 [.int .i64 0, .int .i64 0] [.int .i64 0, .int .i64 0] ?_
 clear H; intro _ _ H; dsimp only [setL, delL] at H
 refine RW.v ?_
 refine RW.nil ?_
 replace H := (H.del 1)
 dsimp only [setL, delL] at H
 refine W.rg [(3, pp b106), (5, pp b107), (6, pp b108), (8, pp b111), (9, .slice none 0 0), (12, pp b118), (13, pp b129), (14, .bool false), (16, v103), (17, .int .i64 1), (18, .int .i64 0)] fun TA => ?_
 refine W.seq ?_
 refine W.seq ?_
 refine W.drawn (by kernel_rfl) (by kernel_rfl) H.gn ?_
 have H130 := H
 refine RW.ld H130 2 2 ?_
 refine RW.cl ?_
 refine WC.enter (fn := Tryd.f33) Tryd.func33 rfl ?_
 replace H := H130
 refine W.rg [] fun TA => ?_
 refine W.seq (W.region ?_)
 refine RW.mk H (.row ⟨[.int .i64 0, .int .i64 0], 28, false⟩) ?_
 clear H; intro _ b131 _ H
 refine RW.nil ?_
 refine W.rg [(0, pp b131)] fun TA => ?_
 refine W.seq (W.region ?_)
 refine RW.cl ?_
 refine WC.enter (fn := Tryd.f32) Tryd.func32 rfl ?_
 refine W.rg [(0, .int .i64 0)] fun TA => ?_
 refine W.seq (W.region ?_)
 refine RW.mk H (.row ⟨[.int .i64 0, .int .i64 0], 28, false⟩) ?_
 clear H; intro _ b132 _ H
 refine RW.nil ?_
 refine W.rg [(0, .int .i64 0), (2, pp b132)] fun TA => ?_
 refine W.seq (W.region ?_)
 refine RW.v ?_
 refine RW.val (v := .agg #[.int .i64 1, .int .i64 0]) (by kernel_rfl) (by kernel_rfl) (by kernel_rfl) (by kernel_rfl) ?_
 refine RW.st H 0 [.int .i64 1, .int .i64 0] [.int .i64 1, .int .i64 0] ?_
 clear H; intro _ _ H; dsimp only [setL, delL] at H
 refine RW.nil ?_
 refine W.ret ?_
 refine endG (by rfl) (by exact resL_cell rfl (H.get 0 rfl) (by rw [uT_eq]; exact Tryd.underlying28) (by kernel_rfl) rfl rfl rfl) ?_
 refine RW.st H 1 [.int .i64 1, .int .i64 0] [.int .i64 1, .int .i64 0] ?_
 clear H; intro _ _ H; dsimp only [setL, delL] at H
 refine RW.nil ?_
 replace H := (H.del 0)
 dsimp only [setL, delL] at H
 refine W.ret ?_
 refine endG (by rfl) (by exact resL_cell rfl (H.get 0 rfl) (by rw [uT_eq]; exact Tryd.underlying28) (by kernel_rfl) rfl rfl rfl) ?_
 have H133 := H
 refine RW.vop (v := .bool true) (by kernel_rfl) (by kernel_rfl) (vop_eqS (b := true) (r := true) rfl (.inl ⟨rfl, rfl⟩) rfl rfl rfl rfl (by kernel_rfl) (fun w => (eqWd _ _ _ _ w).trans (by simp))) (by kernel_rfl) ?_
 refine RW.nil ?_
 refine ⟨⟨by kernel_rfl, ⟨dyn_row (H130.get 2 rfl) (H133.get 3 rfl) ⟨fun h => Bool.noConfusion h, fun _ => H130.get 2 rfl, fun h => Bool.noConfusion h, trivial⟩, trivial, trivial, trivial⟩⟩, ?_⟩
 replace H := H133
 clear H130 H133
 replace H := (H.del 0)
 dsimp only [setL, delL] at H
 refine W.c1 ?_
 refine W.seq (W.region ?_)
 refine RW.ld H 1 2 ?_
 refine RW.st H 2 [.int .i64 1, .int .i64 yn] [.int .i64 1, .int .i64 yn] ?_
 clear H; intro _ _ H; dsimp only [setL, delL] at H
 refine RW.nil ?_
 replace H := (H.del 1)
 dsimp only [setL, delL] at H
 refine W.rg [(3, pp b106), (5, pp b107), (6, pp b108), (8, pp b111), (9, .slice none 0 0), (13, pp b129), (14, .bool false), (16, v103), (17, .int .i64 1), (18, .int .i64 0)] fun TA => ?_
 refine W.seq (W.region ?_)
 iterate 2 refine RW.v ?_
 refine RW.nil ?_
 refine W.c1 ?_
 refine W.seq (W.region ?_)
 refine RW.ld H 1 2 ?_
 refine RW.st H 2 [.int .i64 1, .int .i64 yn] [.int .i64 1, .int .i64 yn] ?_
 clear H; intro _ _ H; dsimp only [setL, delL] at H
 refine RW.v ?_
 refine RW.nil ?_
 replace H := ((((H.del 4).del 3).del 1).del 0)
 dsimp only [setL, delL] at H
 refine W.ret ?_
 refine seqQ_ret ?_
 refine blkQ_ret ?_
 refine seqQ_ret ?_
 refine onceQ_ret ?_
 refine blkQ_ret ?_
 refine seqQ_ret ?_
 refine endG (by rfl) (by exact resL_cell rfl (H.get 0 rfl) (by rw [uT_eq]; exact Tryd.underlying28) (by kernel_rfl) rfl rfl (by exact resL_tmp rfl)) ?_
 iterate 3 refine RW.v ?_
 refine RW.mk H (.row ⟨[.int .i64 0, .int .i64 0], 28, false⟩) ?_
 clear H; intro _ b134 _ H
 refine RW.st H 0 [.int .i64 1, .int .i64 yn] [.int .i64 1, .int .i64 yn] ?_
 clear H; intro _ _ H; dsimp only [setL, delL] at H
 refine RW.v ?_
 refine RW.nil ?_
 replace H := (((H.del 3).del 2).del 1)
 dsimp only [setL, delL] at H
 refine W.rg [(2, .slice (some ⟨b58, 0, none⟩) 2 2), (3, pp b60), (6, pp b61), (9, .int .i64 1), (11, pp b134), (12, .slice none 0 0), (13, .slice (some ⟨b58, 0, none⟩) 2 2), (14, .int .i64 2), (15, .int .i64 1)] fun TA => ?_
 refine W.seq ?_
 refine W.seq (W.region ?_)
 iterate 3 refine RW.v ?_
 refine RW.nil ?_
 refine W.c1 ?_
 refine W.seq (W.region ?_)
 refine RW.ld H 0 2 ?_
 iterate 2 refine RW.v ?_
 refine RW.st H 1 [.int .i64 1, .int .i64 yn] [.int .i64 1, .int .i64 yn] ?_
 clear H; intro _ _ H; dsimp only [setL, delL] at H
 iterate 2 refine RW.v ?_
 refine RW.nil ?_
 replace H := ((H.del 2).del 0)
 dsimp only [setL, delL] at H
 refine W.ret ?_
 refine seqQ_ret ?_
 refine blkQ_ret ?_
 refine seqQ_ret ?_
 refine onceQ_ret ?_
 refine blkQ_ret ?_
 refine seqQ_ret ?_
 refine endG (by rfl) (by exact resL_cell rfl (H.get 0 rfl) (by rw [uT_eq]; exact Tryd.underlying28) (by kernel_rfl) rfl rfl (by exact resL_tmp (by exact resL_tmp rfl))) ?_
 have H135 := H
 iterate 4 refine RW.v ?_
 refine RW.mkD H135 (x := .row ⟨[.int .i64 0, .int .i64 0], 28, false⟩) (fm := fun b => .pointer (some ⟨b, 0, none⟩)) (by kernel_rfl) (by kernel_rfl) (by kernel_rfl) (by kernel_rfl) ?_
 intro _ b136 H137
 refine RW.stD H137 0 (vs := [.int .i64 1, .int .i64 yn]) (cs' := [.int .i64 1, .int .i64 yn]) (by kernel_rfl) (by kernel_rfl) rfl rfl rfl rfl rfl (by kernel_rfl) (Nat.le_of_ble_eq_true rfl) rfl (by kernel_rfl) ?_
 intro _ H138
 dsimp only [setL, delL] at H138
 iterate 2 refine RW.v ?_
 refine RW.nil ?_
 refine ⟨⟨by kernel_rfl, ⟨dyn_row (H55.get 2 rfl) (H138.get 5 rfl) ⟨fun h => Bool.noConfusion h, fun h => Bool.noConfusion h, fun h => Bool.noConfusion h, fun _ => H55.get 2 rfl, fun h => Bool.noConfusion h, fun h => Bool.noConfusion h, fun _ => H59.get 4 rfl, fun h => Bool.noConfusion h, fun h => Bool.noConfusion h, fun h => Bool.noConfusion h, fun h => Bool.noConfusion h, fun h => Bool.noConfusion h, fun _ => H137.get 5 rfl, fun h => Bool.noConfusion h, fun h => Bool.noConfusion h, trivial⟩, trivial, trivial, trivial, dyn_row (H57.get 1 rfl) (H138.get 3 rfl) ⟨fun h => Bool.noConfusion h, fun h => Bool.noConfusion h, fun h => Bool.noConfusion h, fun _ => H55.get 0 rfl, fun h => Bool.noConfusion h, fun h => Bool.noConfusion h, fun _ => H59.get 2 rfl, fun h => Bool.noConfusion h, fun h => Bool.noConfusion h, fun h => Bool.noConfusion h, fun h => Bool.noConfusion h, fun h => Bool.noConfusion h, fun _ => H137.get 3 rfl, fun h => Bool.noConfusion h, fun h => Bool.noConfusion h, trivial⟩, Or.inl (by kernel_rfl), trivial, trivial, trivial, trivial, trivial, Or.inl (by kernel_rfl), trivial, trivial, trivial, trivial⟩⟩, ?_⟩
 replace H := H138
 clear H55 H57 H59 H135 H137 H138
 replace H := ((((H.del 5).del 4).del 2).del 1)
 dsimp only [setL, delL] at H
 refine W.rg [(8, pp b1), (9, .int .i64 1), (13, pp b50), (16, pp b136), (17, .int .i64 2), (18, .bool false)] fun TA => ?_
 refine W.seq ?_
 refine W.drawn (by kernel_rfl) (by kernel_rfl) H.gn ?_
 have H139 := H
 iterate 3 refine RW.v ?_
 refine RW.val (by rfl) (by kernel_rfl) rfl (by kernel_rfl) ?_
 refine RW.val (by rfl) (by kernel_rfl) rfl (by kernel_rfl) ?_
 iterate 2 refine RW.v ?_
 refine RW.ldL H139 0 2 (by rfl) (by kernel_rfl) rfl rfl rfl rfl rfl (by kernel_rfl) ?_
 refine RW.cl (hw := by rfl) ?_
 refine WC.enter (fn := Tryd.f33) Tryd.func33 rfl ?_
 replace H := H139
 refine W.rg [] fun TA => ?_
 refine W.seq (W.region ?_)
 refine RW.mk H (.row ⟨[.int .i64 0, .int .i64 0], 28, false⟩) ?_
 clear H; intro _ b140 _ H
 refine RW.nil ?_
 refine W.rg [(0, pp b140)] fun TA => ?_
 refine W.seq (W.region ?_)
 refine RW.cl ?_
 refine WC.enter (fn := Tryd.f32) Tryd.func32 rfl ?_
 refine W.rg [(0, .int .i64 0)] fun TA => ?_
 refine W.seq (W.region ?_)
 refine RW.mk H (.row ⟨[.int .i64 0, .int .i64 0], 28, false⟩) ?_
 clear H; intro _ b141 _ H
 refine RW.nil ?_
 refine W.rg [(0, .int .i64 0), (2, pp b141)] fun TA => ?_
 refine W.seq (W.region ?_)
 refine RW.v ?_
 refine RW.val (v := .agg #[.int .i64 1, .int .i64 0]) (by kernel_rfl) (by kernel_rfl) (by kernel_rfl) (by kernel_rfl) ?_
 refine RW.st H 0 [.int .i64 1, .int .i64 0] [.int .i64 1, .int .i64 0] ?_
 clear H; intro _ _ H; dsimp only [setL, delL] at H
 refine RW.nil ?_
 refine W.ret ?_
 refine endG (by rfl) (by exact resL_cell rfl (H.get 0 rfl) (by rw [uT_eq]; exact Tryd.underlying28) (by kernel_rfl) rfl rfl rfl) ?_
 refine RW.st H 1 [.int .i64 1, .int .i64 0] [.int .i64 1, .int .i64 0] ?_
 clear H; intro _ _ H; dsimp only [setL, delL] at H
 refine RW.nil ?_
 replace H := (H.del 0)
 dsimp only [setL, delL] at H
 refine W.ret ?_
 refine endG (by rfl) (by exact resL_cell rfl (H.get 0 rfl) (by rw [uT_eq]; exact Tryd.underlying28) (by kernel_rfl) rfl rfl rfl) ?_
 have H142 := H
 refine RW.vop (v := .bool true) (by rfl) (by kernel_rfl) (vop_eqS (b := false) (r := true) rfl (.inr ⟨rfl, rfl⟩) rfl rfl rfl rfl (by kernel_rfl) (fun w => (eqWd _ _ _ _ w).trans (by simp <;> omega))) (by kernel_rfl) ?_
 refine RW.v ?_
 refine RW.nil ?_
 refine ⟨⟨by kernel_rfl, ⟨trivial, trivial, trivial, trivial, trivial, trivial, trivial, dyn_row (H139.get 0 rfl) (H142.get 1 rfl) ⟨fun h => Bool.noConfusion h, fun h => Bool.noConfusion h, fun h => Bool.noConfusion h, fun h => Bool.noConfusion h, fun h => Bool.noConfusion h, fun h => Bool.noConfusion h, fun h => Bool.noConfusion h, fun h => Bool.noConfusion h, fun _ => H139.get 0 rfl, fun h => Bool.noConfusion h, fun h => Bool.noConfusion h, trivial⟩, trivial, trivial, trivial, trivial⟩⟩, ?_⟩
 replace H := H142
 clear H139 H142
 replace H := (H.del 0)
 dsimp only [setL, delL] at H
 refine W.c1 ?_
 refine W.region ?_
 refine RW.ld H 0 2 ?_
 refine RW.st H 1 [.int .i64 1, .int .i64 yn] [.int .i64 1, .int .i64 yn] ?_
 clear H; intro _ _ H; dsimp only [setL, delL] at H
 refine RW.nil ?_
 replace H := (H.del 0)
 dsimp only [setL, delL] at H
 refine W.rg [(8, pp b1), (9, .int .i64 1), (13, pp b50)] fun TA => ?_
 refine W.seq (W.region ?_)
 refine RW.ld H 0 2 ?_
 refine RW.v ?_
 refine RW.st H 1 [.int .i64 1, .int .i64 yn] [.int .i64 1, .int .i64 yn] ?_
 clear H; intro _ _ H; dsimp only [setL, delL] at H
 iterate 2 refine RW.v ?_
 refine RW.nil ?_
 replace H := (H.del 0)
 dsimp only [setL, delL] at H
 refine W.ret ?_
 refine endG (by rfl) (by exact resL_cell rfl (H.get 0 rfl) (by rw [uT_eq]; exact Tryd.underlying28) (by kernel_rfl) rfl rfl (by exact resL_tmp (by exact resL_tmp rfl))) ?_
 exact ⟨rfl, (H.del 0)⟩
set_option maxHeartbeats 16000000 in
theorem act2_wc {a : Int} {xn : Int} (x0 : 62 ≤ xn) (x1 : xn ≤ 64) {yn : Int} (y0 : 2 ≤ yn) (y1 : yn ≤ 61) {zn : Int} (z0 : 2 ≤ zn) (z1 : zn ≤ 61) {mb : Nat} {eb : Nat} (hG : G65 ≤ σ0.next) (ha : σ0.abs = heapAbs h (hmP [(((1, 66) : Wd), ((2, 3) : Wd)), (((1, 66) : Wd), ((2, 6) : Wd)), (((0, a) : Wd), ((1, xn) : Wd)), (((2, 2) : Wd), ((1, 0) : Wd)), (((1, 66) : Wd), ((2, 10) : Wd)), (((1, 65) : Wd), ((2, 4) : Wd)), (((2, 5) : Wd), ((1, 0) : Wd)), (((1, xn) : Wd), ((1, yn) : Wd)), (((2, 7) : Wd), ((1, 0) : Wd)), (((1, yn) : Wd), ((1, zn) : Wd)), (((2, 9) : Wd), ((2, 8) : Wd))])) (hT : TabF σ0.get T) {thM : TypeId} {ghM : Bool} (hM : σ0.get mb = some (.row ⟨[.int .i64 2, .int .i64 0], thM, ghM⟩)) {thE : TypeId} {ghE : Bool} (hE : σ0.get eb = some (.row ⟨[.int .i64 0, .int .i64 a], thE, ghE⟩)) : WC G65 Tryd.prog 14 #[.pointer (some ⟨h, 0, none⟩), .pointer (some ⟨T, 0, none⟩), .slice (some ⟨mb, 0, none⟩) 1 1, .slice (some ⟨eb, 0, none⟩) 1 1] σ0 fun v σ' => v = .tuple #[.agg #[.int .i64 1, .int .i64 xn], .int .i64 1, .bool false] ∧ Lies G65 (heapAbs h (hmP [(((1, 66) : Wd), ((2, 3) : Wd)), (((1, 66) : Wd), ((2, 6) : Wd)), (((0, a) : Wd), ((1, xn) : Wd)), (((2, 2) : Wd), ((1, 0) : Wd)), (((1, 66) : Wd), ((2, 10) : Wd)), (((1, 65) : Wd), ((2, 4) : Wd)), (((2, 5) : Wd), ((1, 0) : Wd)), (((1, xn) : Wd), ((1, yn) : Wd)), (((2, 7) : Wd), ((1, 0) : Wd)), (((1, yn) : Wd), ((1, zn) : Wd)), (((2, 9) : Wd), ((2, 8) : Wd))])) σ0.get σ' [] := by
 have H := Lies.start hG ha
 generalize σ0.get = F at H hT hM hE ⊢
 refine WC.enter (fn := Tryd.f14) Tryd.func14 rfl ?_
 refine W.rg [(0, pp h), (1, pp T), (2, .slice (some ⟨mb, 0, none⟩) 1 1), (3, .slice (some ⟨eb, 0, none⟩) 1 1)] fun TA => ?_
 refine W.seq (W.region ?_)
 refine RW.mk H (.row ⟨[.int .i64 0, .int .i64 0], 28, false⟩) ?_
 clear H; intro _ b1 _ H
 iterate 2 refine RW.v ?_
 refine RW.nil ?_
 refine W.rg [(0, pp h), (1, pp T), (2, .slice (some ⟨mb, 0, none⟩) 1 1), (3, .slice (some ⟨eb, 0, none⟩) 1 1), (8, pp b1)] fun TA => ?_
 refine W.seq (W.region ?_)
 iterate 2 refine RW.v ?_
 refine RW.cl ?_
 refine ((at_wc (Nat.le_of_ble_eq_true rfl) H.gn H.abs (hT.le H.old)).mono ?_)
 rintro _ _ ⟨rfl, K⟩
 replace H := H.then K
 clear K
 dsimp only [List.nil_append, List.cons_append] at H
 iterate 3 refine RW.v ?_
 refine RW.mk H (.row ⟨[.pointer none, .pointer none, .int .i64 0, .int .i64 0], 65, false⟩) ?_
 clear H; intro _ b2 _ H
 refine RW.st H 0 [pt h, pt T, .int .i64 1, .int .i64 66] [pt h, pt T, .int .i64 1, .int .i64 66] ?_
 clear H; intro _ _ H; dsimp only [setL, delL] at H
 refine RW.v ?_
 refine RW.nil ?_
 refine W.rg [(1, pp T), (2, .slice (some ⟨mb, 0, none⟩) 1 1), (3, .slice (some ⟨eb, 0, none⟩) 1 1), (8, pp b1), (11, pp b2), (12, .bool true)] fun TA => ?_
 refine W.seq ?_
 refine W.seq (W.region ?_)
 iterate 2 refine RW.v ?_
 refine RW.nil ?_
 refine W.c0 ?_
 refine W.skip ?_
 refine W.seq (W.region ?_)
 refine RW.ld H 0 4 ?_
 refine RW.v ?_
 refine RW.cl ?_
 refine WC.enter (fn := Tryd.f43) Tryd.func43 rfl ?_
 refine W.rg [(0, .agg #[pp h, pp T, .int .i64 1, .int .i64 66]), (1, .slice (some ⟨mb, 0, none⟩) 1 1)] fun TA => ?_
 refine W.seq (W.region ?_)
 refine RW.mk H (.row ⟨[pt h, pt T, .int .i64 1, .int .i64 66], 65, false⟩) ?_
 clear H; intro _ b3 _ H
 refine RW.v ?_
 refine RW.nil ?_
 refine W.rg [(1, .slice (some ⟨mb, 0, none⟩) 1 1), (2, pp b3)] fun TA => ?_
 refine W.seq (W.region ?_)
 refine RW.v ?_
 refine RW.cl ?_
 refine WC.enter (fn := Tryd.f55) Tryd.func55 rfl ?_
 refine W.rg [(0, .slice (some ⟨mb, 0, none⟩) 1 1)] fun TA => ?_
 refine W.seq (W.region ?_)
 refine RW.v ?_
 refine RW.nil ?_
 refine W.rg [(0, .slice (some ⟨mb, 0, none⟩) 1 1)] fun TA => ?_
 refine W.seq ?_
 refine W.seq (W.region ?_)
 iterate 2 refine RW.v ?_
 refine RW.nil ?_
 refine W.c0 ?_
 refine W.skip ?_
 refine W.seq (W.region ?_)
 refine RW.mkL H (x := .row ⟨[], 28, false⟩) (fm := fun b => .slice (some ⟨b, 0, none⟩) 0 0) (by kernel_rfl) (by kernel_rfl) (by kernel_rfl) (by kernel_rfl) ?_
 clear H; intro _ b4 _ H
 refine RW.v ?_
 replace H := H.nilSl 28 2
 refine RW.appFD H 0 (n := 1) (ys := [.int .i64 2, .int .i64 0]) (e2 := 28) (SlF.some hM rfl rfl) (by kernel_rfl) (by kernel_rfl) rfl rfl rfl rfl rfl rfl rfl (.inr ⟨by decide, rfl, _, _, _, rfl, H.get 1 rfl⟩) (by kernel_rfl) (by kernel_rfl) (by kernel_rfl) (by decide) (by kernel_rfl) (by omega) (by kernel_rfl) ?_
 clear H; intro _ v5 H
 replace H : Lies G65 (heapAbs h (hmP [(((1, 66) : Wd), ((2, 3) : Wd)), (((1, 66) : Wd), ((2, 6) : Wd)), (((0, a) : Wd), ((1, xn) : Wd)), (((2, 2) : Wd), ((1, 0) : Wd)), (((1, 66) : Wd), ((2, 10) : Wd)), (((1, 65) : Wd), ((2, 4) : Wd)), (((2, 5) : Wd), ((1, 0) : Wd)), (((1, xn) : Wd), ((1, yn) : Wd)), (((2, 7) : Wd), ((1, 0) : Wd)), (((1, yn) : Wd), ((1, zn) : Wd)), (((2, 9) : Wd), ((2, 8) : Wd))])) F _ [.sl 28 2 v5 1 [.int .i64 2, .int .i64 0], .at_ b4 (.row ⟨[], 28, false⟩), .at_ b3 (.row ⟨[.pointer (some ⟨h, 0, none⟩), .pointer (some ⟨T, 0, none⟩), .int .i64 1, .int .i64 66], 65, false⟩), .at_ b2 (.row ⟨[.pointer (some ⟨h, 0, none⟩), .pointer (some ⟨T, 0, none⟩), .int .i64 1, .int .i64 66], 65, false⟩), .at_ b1 (.row ⟨[.int .i64 0, .int .i64 0], 28, false⟩)] := H
 refine RW.v ?_
 refine RW.nil ?_
 replace H := (H.del 1)
 dsimp only [setL, delL] at H
 refine W.ret ?_
 refine endG (by rfl) (by exact resL_tmp rfl) ?_
 refine RW.val (v := .func (.func 68) #[] #[.pointer (some ⟨b3, 0, none⟩)]) (by kernel_rfl) (by kernel_rfl) (by kernel_rfl) (by kernel_rfl) ?_
 refine RW.cl ?_
 refine WC.enter (fn := Tryd.f67) Tryd.func67 rfl ?_
 refine W.rg [(0, v5), (1, .func (.func 68) #[] #[pp b3])] fun TA => ?_
 refine W.seq (W.region ?_)
 refine RW.v ?_
 refine RW.nil ?_
 refine W.rg [(0, v5), (1, .func (.func 68) #[] #[pp b3])] fun TA => ?_
 refine W.seq (W.region ?_)
 iterate 2 refine RW.v ?_
 refine RW.cl ?_
 refine WC.enter (fn := Tryd.f81) Tryd.func81 rfl ?_
 refine W.rg [(0, v5), (1, .func (.func 68) #[] #[pp b3])] fun TA => ?_
 refine W.seq (W.region ?_)
 refine RW.v ?_
 refine RW.nil ?_
 refine W.rg [(0, v5), (1, .func (.func 68) #[] #[pp b3])] fun TA => ?_
 refine W.seq ?_
 refine W.seq (W.region ?_)
 refine RW.v ?_
 refine RW.len (by kernel_rfl) (by kernel_rfl) rfl rfl rfl rfl ((H.sl 0 rfl).len (by kernel_rfl)) (by kernel_rfl) ?_
 refine RW.v ?_
 refine RW.nil ?_
 refine W.rg [(0, v5), (1, .func (.func 68) #[] #[pp b3]), (7, .int .i64 1), (8, .int .i64 0)] fun TA => ?_
 refine W.block ?_
 refine W.unroll (WL.once ?_)
 refine W.seq (W.region ?_)
 refine RW.v ?_
 refine RW.nil ?_
 refine W.rg [(0, v5), (1, .func (.func 68) #[] #[pp b3]), (7, .int .i64 1), (8, .int .i64 0), (9, .bool true)] fun TA => ?_
 refine W.seq ?_
 refine W.c1 ?_
 refine W.skip ?_
 refine W.seq ?_
 refine W.block ?_
 refine W.seq (W.region ?_)
 iterate 2 refine RW.v ?_
 refine RW.nil ?_
 refine W.rg [(0, v5), (1, .func (.func 68) #[] #[pp b3]), (5, .int .i64 0), (7, .int .i64 1), (8, .int .i64 0)] fun TA => ?_
 refine W.seq (W.region ?_)
 iterate 3 refine RW.v ?_
 refine RW.idxG H 0 rfl (by kernel_rfl) (by kernel_rfl) rfl Tryd.underlying35 (by kernel_rfl) rfl rfl ⟨by decide, by decide⟩ (by kernel_rfl) ?_
 intro b6 q7 r8 hF9 hE10
 replace hE10 : (r8.cs.drop q7).take 2 = [.int .i64 2, .int .i64 0] := hE10.trans (by kernel_rfl)
 refine RW.loads 2 (by kernel_rfl) (by kernel_rfl) rfl rfl (hF9) hE10 rfl (by kernel_rfl) ?_
 refine RW.cl ?_
 refine WC.enter (fn := Tryd.f68) Tryd.func68 rfl ?_
 refine W.rg [(0, .agg #[.int .i64 2, .int .i64 0]), (1, pp b3)] fun TA => ?_
 refine W.seq (W.region ?_)
 refine RW.mk H (.row ⟨[.int .i64 2, .int .i64 0], 28, false⟩) ?_
 clear H; intro _ b11 _ H
 refine RW.v ?_
 refine RW.nil ?_
 refine W.rg [(1, pp b3), (2, pp b11)] fun TA => ?_
 refine W.seq (W.region ?_)
 refine RW.ld H 2 4 ?_
 refine RW.ld H 0 2 ?_
 refine RW.cl ?_
 refine ((isMap_y (h := h) (T := T) (w := (2, 0)) (d := ((2, 3) : Wd)) rfl H).mono ?_)
 clear H
 rintro _ _ ⟨rfl, H⟩
 iterate 2 refine RW.v ?_
 refine RW.nil ?_
 replace H := (H.del 0)
 dsimp only [setL, delL] at H
 refine W.ret ?_
 refine endG (by rfl) (by exact resL_tmp rfl) ?_
 refine RW.nil ?_
 refine W.c0 ?_
 refine W.skip ?_
 refine blkQ_normal ?_
 refine W.region ?_
 iterate 2 refine RW.v ?_
 refine RW.nil ?_
 refine WL.once ?_
 refine W.rg [(0, v5), (1, .func (.func 68) #[] #[pp b3]), (7, .int .i64 1), (8, .int .i64 1)] fun TA => ?_
 refine W.seq (W.region ?_)
 refine RW.v ?_
 refine RW.nil ?_
 refine W.rg [(0, v5), (1, .func (.func 68) #[] #[pp b3]), (7, .int .i64 1), (8, .int .i64 1), (9, .bool false)] fun TA => ?_
 refine W.seq ?_
 refine W.c0 ?_
 refine W.exit _ ?_
 refine seqQ_exit ?_
 refine onceQ_exit ?_
 refine blkQ_here ?_
 refine W.seq (W.region ?_)
 refine RW.v ?_
 refine RW.nil ?_
 refine W.ret ?_
 refine endG (by rfl) (by exact resL_tmp rfl) ?_
 refine RW.v ?_
 refine RW.nil ?_
 refine W.rg [(0, v5), (1, .func (.func 68) #[] #[pp b3]), (5, .int .i64 (-1))] fun TA => ?_
 refine W.seq ?_
 refine W.seq (W.region ?_)
 iterate 2 refine RW.v ?_
 refine RW.nil ?_
 refine W.c1 ?_
 refine W.seq (W.region ?_)
 iterate 2 refine RW.v ?_
 refine RW.nil ?_
 refine W.ret ?_
 refine seqQ_ret ?_
 refine endG (by rfl) (by exact resL_tmp rfl) ?_
 refine RW.v ?_
 refine RW.nil ?_
 replace H := (H.del 1)
 dsimp only [setL, delL] at H
 refine W.ret ?_
 refine endG (by rfl) (by exact resL_tmp rfl) ?_
 refine RW.v ?_
 refine RW.nil ?_
 refine W.rg [(1, pp T), (2, v5), (3, .slice (some ⟨eb, 0, none⟩) 1 1), (8, pp b1), (11, pp b2)] fun TA => ?_
 refine W.seq ?_
 refine W.seq (W.region ?_)
 refine RW.v ?_
 refine RW.len (by kernel_rfl) (by kernel_rfl) rfl rfl rfl rfl ((H.sl 0 rfl).len (by kernel_rfl)) (by kernel_rfl) ?_
 refine RW.v ?_
 refine RW.nil ?_
 refine W.c0 ?_
 refine W.skip ?_
 refine W.seq (W.region ?_)
 refine RW.ld H 1 4 ?_
 iterate 2 refine RW.v ?_
 refine RW.cl ?_
 refine WC.enter (fn := Tryd.f44) Tryd.func44 rfl ?_
 refine W.rg [(0, .agg #[pp h, pp T, .int .i64 1, .int .i64 66]), (1, v5), (2, .slice (some ⟨eb, 0, none⟩) 1 1)] fun TA => ?_
 refine W.seq (W.region ?_)
 refine RW.mk H (.row ⟨[pt h, pt T, .int .i64 1, .int .i64 66], 65, false⟩) ?_
 clear H; intro _ b12 _ H
 refine RW.mk H (.row ⟨[.int .i64 0, .int .i64 0], 28, false⟩) ?_
 clear H; intro _ b13 _ H
 iterate 2 refine RW.v ?_
 refine RW.nil ?_
 refine W.rg [(1, v5), (2, .slice (some ⟨eb, 0, none⟩) 1 1), (3, pp b12), (6, pp b13)] fun TA => ?_
 refine W.seq ?_
 refine W.seq (W.region ?_)
 iterate 3 refine RW.v ?_
 refine RW.nil ?_
 refine W.rg [(1, v5), (2, .slice (some ⟨eb, 0, none⟩) 1 1), (3, pp b12), (6, pp b13), (13, .slice (some ⟨eb, 0, none⟩) 1 1), (14, .int .i64 1), (15, .int .i64 0)] fun TA => ?_
 refine W.block ?_
 refine W.unroll (WL.once ?_)
 refine W.seq (W.region ?_)
 refine RW.v ?_
 refine RW.nil ?_
 refine W.rg [(1, v5), (2, .slice (some ⟨eb, 0, none⟩) 1 1), (3, pp b12), (6, pp b13), (13, .slice (some ⟨eb, 0, none⟩) 1 1), (14, .int .i64 1), (15, .int .i64 0), (16, .bool true)] fun TA => ?_
 refine W.seq ?_
 refine W.c1 ?_
 refine W.skip ?_
 refine W.seq ?_
 refine W.block ?_
 refine W.seq (W.region ?_)
 refine RW.v ?_
 refine RW.idx (s := 2) (by kernel_rfl) (by kernel_rfl) rfl Tryd.underlying35 (by kernel_rfl) rfl rfl ⟨by decide, by decide⟩ (by kernel_rfl) ?_
 refine RW.loads 2 (by kernel_rfl) (by kernel_rfl) rfl rfl (H.old _ _ hE) rfl rfl (by kernel_rfl) ?_
 refine RW.mk H (.row ⟨[.int .i64 0, .int .i64 0], 28, false⟩) ?_
 clear H; intro _ b14 _ H
 refine RW.v ?_
 refine RW.st H 0 [.int .i64 0, .int .i64 a] [.int .i64 0, .int .i64 a] ?_
 clear H; intro _ _ H; dsimp only [setL, delL] at H
 refine RW.nil ?_
 refine W.rg [(1, v5), (2, .slice (some ⟨eb, 0, none⟩) 1 1), (3, pp b12), (6, pp b13), (9, .int .i64 0), (10, pp b14), (13, .slice (some ⟨eb, 0, none⟩) 1 1), (14, .int .i64 1), (15, .int .i64 0)] fun TA => ?_
 refine W.seq (W.region ?_)
 refine RW.ld H 2 4 ?_
 refine RW.v ?_
 refine RW.ld H 0 2 ?_
 refine RW.cl ?_
 refine WC.enter (fn := Tryd.f56) Tryd.func56 rfl ?_
 refine W.rg [(0, .agg #[pp h, pp T, .int .i64 1, .int .i64 66]), (1, v5), (2, .agg #[.int .i64 0, .int .i64 a])] fun TA => ?_
 refine W.seq (W.region ?_)
 refine RW.mk H (.row ⟨[pt h, pt T, .int .i64 1, .int .i64 66], 65, false⟩) ?_
 clear H; intro _ b15 _ H
 refine RW.mk H (.row ⟨[.int .i64 0, .int .i64 a], 28, false⟩) ?_
 clear H; intro _ b16 _ H
 refine RW.mk H (.row ⟨[.int .i64 0, .int .i64 0], 28, false⟩) ?_
 clear H; intro _ b17 _ H
 refine RW.v ?_
 refine RW.nil ?_
 refine W.rg [(1, v5), (3, pp b15), (5, pp b16), (6, pp b17)] fun TA => ?_
 refine W.seq (W.region ?_)
 refine RW.cl ?_
 refine WC.enter (fn := Tryd.f33) Tryd.func33 rfl ?_
 refine W.rg [] fun TA => ?_
 refine W.seq (W.region ?_)
 refine RW.mk H (.row ⟨[.int .i64 0, .int .i64 0], 28, false⟩) ?_
 clear H; intro _ b18 _ H
 refine RW.nil ?_
 refine W.rg [(0, pp b18)] fun TA => ?_
 refine W.seq (W.region ?_)
 refine RW.cl ?_
 refine WC.enter (fn := Tryd.f32) Tryd.func32 rfl ?_
 refine W.rg [(0, .int .i64 0)] fun TA => ?_
 refine W.seq (W.region ?_)
 refine RW.mk H (.row ⟨[.int .i64 0, .int .i64 0], 28, false⟩) ?_
 clear H; intro _ b19 _ H
 refine RW.nil ?_
 refine W.rg [(0, .int .i64 0), (2, pp b19)] fun TA => ?_
 refine W.seq (W.region ?_)
 refine RW.v ?_
 refine RW.val (v := .agg #[.int .i64 1, .int .i64 0]) (by kernel_rfl) (by kernel_rfl) (by kernel_rfl) (by kernel_rfl) ?_
 refine RW.st H 0 [.int .i64 1, .int .i64 0] [.int .i64 1, .int .i64 0] ?_
 clear H; intro _ _ H; dsimp only [setL, delL] at H
 refine RW.nil ?_
 refine W.ret ?_
 refine endG (by rfl) (by exact resL_cell rfl (H.get 0 rfl) (by rw [uT_eq]; exact Tryd.underlying28) (by kernel_rfl) rfl rfl rfl) ?_
 refine RW.st H 1 [.int .i64 1, .int .i64 0] [.int .i64 1, .int .i64 0] ?_
 clear H; intro _ _ H; dsimp only [setL, delL] at H
 refine RW.nil ?_
 replace H := (H.del 0)
 dsimp only [setL, delL] at H
 refine W.ret ?_
 refine endG (by rfl) (by exact resL_cell rfl (H.get 0 rfl) (by rw [uT_eq]; exact Tryd.underlying28) (by kernel_rfl) rfl rfl rfl) ?_
 refine RW.mk H (.row ⟨[.int .i64 0, .int .i64 0], 28, false⟩) ?_
 clear H; intro _ b20 _ H
 refine RW.st H 0 [.int .i64 1, .int .i64 0] [.int .i64 1, .int .i64 0] ?_
 clear H; intro _ _ H; dsimp only [setL, delL] at H
 refine RW.nil ?_
 replace H := (H.del 1)
 dsimp only [setL, delL] at H
 refine W.rg [(1, v5), (3, pp b15), (5, pp b16), (6, pp b17), (8, pp b20)] fun TA => ?_
 refine W.seq (W.region ?_)
 refine RW.v ?_
 refine RW.nil ?_
 refine W.rg [(1, v5), (3, pp b15), (5, pp b16), (6, pp b17), (8, pp b20), (9, .slice none 0 0)] fun TA => ?_
 refine W.seq ?_
 refine W.seq (W.region ?_)
 refine RW.v ?_
 refine RW.len (by kernel_rfl) (by kernel_rfl) rfl rfl rfl rfl ((H.sl 7 rfl).len (by kernel_rfl)) (by kernel_rfl) ?_
 refine RW.v ?_
 refine RW.nil ?_
 refine W.rg [(3, pp b15), (5, pp b16), (6, pp b17), (8, pp b20), (9, .slice none 0 0), (16, v5), (17, .int .i64 1), (18, .int .i64 0)] fun TA => ?_
 refine W.block ?_
 refine W.unroll (WL.once ?_)
 refine W.seq (W.region ?_)
 refine RW.v ?_
 refine RW.nil ?_
 refine W.rg [(3, pp b15), (5, pp b16), (6, pp b17), (8, pp b20), (9, .slice none 0 0), (16, v5), (17, .int .i64 1), (18, .int .i64 0), (19, .bool true)] fun TA => ?_
 refine W.seq ?_
 refine W.c1 ?_
 refine W.skip ?_
 refine W.seq ?_
 refine W.block ?_
 refine W.seq (W.region ?_)
 refine RW.idxG H 7 rfl (by kernel_rfl) (by kernel_rfl) rfl Tryd.underlying35 (by kernel_rfl) rfl rfl ⟨by decide, by decide⟩ (by kernel_rfl) ?_
 intro b21 q22 r23 hF24 hE25
 replace hE25 : (r23.cs.drop q22).take 2 = [.int .i64 2, .int .i64 0] := hE25.trans (by kernel_rfl)
 refine RW.loads 2 (by kernel_rfl) (by kernel_rfl) rfl rfl (hF24) hE25 rfl (by kernel_rfl) ?_
 refine RW.mk H (.row ⟨[.int .i64 0, .int .i64 0], 28, false⟩) ?_
 clear H; intro _ b26 _ H
 refine RW.st H 0 [.int .i64 2, .int .i64 0] [.int .i64 2, .int .i64 0] ?_
 clear H; intro _ _ H; dsimp only [setL, delL] at H
 refine RW.nil ?_
 refine W.rg [(3, pp b15), (5, pp b16), (6, pp b17), (8, pp b20), (9, .slice none 0 0), (11, pp b26), (16, v5), (17, .int .i64 1), (18, .int .i64 0)] fun TA => ?_
 refine W.seq (W.region ?_)
 refine RW.ld H 4 4 ?_
 refine RW.ld H 0 2 ?_
 refine RW.ld H 3 2 ?_
 refine RW.cl ?_
 refine ((bound_wc (h := h) (T := T) (ev := ((0, a) : Wd)) mp5 (Nat.le_of_ble_eq_true rfl) (fun j hj => by match j, hj with | 0, _ => (simp <;> omega) | j + 1, hj => exact absurd hj (by simp)) H.gn H.abs).mono ?_)
 rintro _ _ ⟨e, K⟩
 replace H := H.then K
 clear K
 dsimp only [List.nil_append, List.cons_append] at H
 replace e := e.trans (congrArg wdV (show _ = ((1, xn) : Wd) from (boundP_yes (by simp [pB] <;> omega))))
 subst e
 refine RW.mk H (.row ⟨[.int .i64 0, .int .i64 0], 28, false⟩) ?_
 clear H; intro _ b27 _ H
 refine RW.st H 0 [.int .i64 1, .int .i64 xn] [.int .i64 1, .int .i64 xn] ?_
 clear H; intro _ _ H; dsimp only [setL, delL] at H
 refine RW.nil ?_
 replace H := (H.del 1)
 dsimp only [setL, delL] at H
 refine W.rg [(3, pp b15), (5, pp b16), (6, pp b17), (8, pp b20), (9, .slice none 0 0), (12, pp b27), (16, v5), (17, .int .i64 1), (18, .int .i64 0)] fun TA => ?_
 refine W.seq ?_
 refine W.seq ?_
 refine W.drawn (by kernel_rfl) (by kernel_rfl) H.gn ?_
 have H28 := H
 refine RW.ld H28 0 2 ?_
 refine RW.cl ?_
 refine WC.enter (fn := Tryd.f33) Tryd.func33 rfl ?_
 replace H := H28
 refine W.rg [] fun TA => ?_
 refine W.seq (W.region ?_)
 refine RW.mk H (.row ⟨[.int .i64 0, .int .i64 0], 28, false⟩) ?_
 clear H; intro _ b29 _ H
 refine RW.nil ?_
 refine W.rg [(0, pp b29)] fun TA => ?_
 refine W.seq (W.region ?_)
 refine RW.cl ?_
 refine WC.enter (fn := Tryd.f32) Tryd.func32 rfl ?_
 refine W.rg [(0, .int .i64 0)] fun TA => ?_
 refine W.seq (W.region ?_)
 refine RW.mk H (.row ⟨[.int .i64 0, .int .i64 0], 28, false⟩) ?_
 clear H; intro _ b30 _ H
 refine RW.nil ?_
 refine W.rg [(0, .int .i64 0), (2, pp b30)] fun TA => ?_
 refine W.seq (W.region ?_)
 refine RW.v ?_
 refine RW.val (v := .agg #[.int .i64 1, .int .i64 0]) (by kernel_rfl) (by kernel_rfl) (by kernel_rfl) (by kernel_rfl) ?_
 refine RW.st H 0 [.int .i64 1, .int .i64 0] [.int .i64 1, .int .i64 0] ?_
 clear H; intro _ _ H; dsimp only [setL, delL] at H
 refine RW.nil ?_
 refine W.ret ?_
 refine endG (by rfl) (by exact resL_cell rfl (H.get 0 rfl) (by rw [uT_eq]; exact Tryd.underlying28) (by kernel_rfl) rfl rfl rfl) ?_
 refine RW.st H 1 [.int .i64 1, .int .i64 0] [.int .i64 1, .int .i64 0] ?_
 clear H; intro _ _ H; dsimp only [setL, delL] at H
 refine RW.nil ?_
 replace H := (H.del 0)
 dsimp only [setL, delL] at H
 refine W.ret ?_
 refine endG (by rfl) (by exact resL_cell rfl (H.get 0 rfl) (by rw [uT_eq]; exact Tryd.underlying28) (by kernel_rfl) rfl rfl rfl) ?_
 have H31 := H
 refine RW.vop (v := .bool false) (by kernel_rfl) (by kernel_rfl) (vop_eqS (b := false) (r := false) rfl (.inl ⟨rfl, rfl⟩) rfl rfl rfl rfl (by kernel_rfl) (fun w => (eqWd _ _ _ _ w).trans (by simp <;> omega))) (by kernel_rfl) ?_
 refine RW.nil ?_
 refine ⟨⟨by kernel_rfl, ⟨dyn_row (H28.get 0 rfl) (H31.get 1 rfl) ⟨fun h => Bool.noConfusion h, fun _ => H28.get 0 rfl, fun h => Bool.noConfusion h, trivial⟩, trivial, trivial, trivial⟩⟩, ?_⟩
 replace H := H31
 clear H28 H31
 replace H := (H.del 0)
 dsimp only [setL, delL] at H
 refine W.c0 ?_
 refine W.skip ?_
 refine W.seq (W.region ?_)
 refine RW.ld H 4 4 ?_
 refine RW.ld H 0 2 ?_
 refine RW.cl ?_
 refine WC.enter (fn := Tryd.f52) Tryd.func52 rfl ?_
 refine W.rg [(0, .agg #[pp h, pp T, .int .i64 1, .int .i64 66]), (1, .agg #[.int .i64 1, .int .i64 xn])] fun TA => ?_
 refine W.seq (W.region ?_)
 refine RW.mk H (.row ⟨[pt h, pt T, .int .i64 1, .int .i64 66], 65, false⟩) ?_
 clear H; intro _ b32 _ H
 refine RW.mk H (.row ⟨[.int .i64 1, .int .i64 xn], 28, false⟩) ?_
 clear H; intro _ b33 _ H
 refine RW.mk H (.row ⟨[.int .i64 0, .int .i64 0], 28, false⟩) ?_
 clear H; intro _ b34 _ H
 refine RW.v ?_
 refine RW.nil ?_
 refine W.rg [(2, pp b32), (3, pp b33), (4, pp b34)] fun TA => ?_
 refine W.seq ?_
 refine W.seq (W.region ?_)
 refine RW.v ?_
 refine RW.ld H 1 1 ?_
 refine RW.v ?_
 refine RW.nil ?_
 refine W.c1 ?_
 refine W.region ?_
 refine RW.v ?_
 refine RW.ld H 2 1 ?_
 refine RW.v ?_
 refine RW.ld H 1 1 ?_
 refine RW.cl ?_
 refine ((func_wc (n := xn) (by omega) (by omega) H.gn H.abs (hT.le H.old)).mono ?_)
 rintro _ _ ⟨rfl, K⟩
 replace H := H.then K
 clear K
 dsimp only [List.nil_append, List.cons_append] at H
 iterate 3 refine RW.v ?_
 refine RW.st H 1 [.int .i64 0, .int .i64 0] [.int .i64 0, .int .i64 0] ?_
 clear H; intro _ _ H; dsimp only [setL, delL] at H
 refine RW.nil ?_
 refine W.rg [(2, pp b32), (3, pp b33), (4, pp b34)] fun TA => ?_
 refine W.seq ?_
 refine W.drawn (by kernel_rfl) (by kernel_rfl) H.gn ?_
 have H35 := H
 refine RW.ld H35 1 2 ?_
 refine RW.ld H35 2 4 ?_
 refine RW.ld H35 1 2 ?_
 refine RW.cl ?_
 refine ((isMap_n (h := h) (T := T) (w := ((0, 0) : Wd)) (by decide) H35).mono ?_)
 rintro _ _ ⟨rfl, H36⟩
 refine RW.stD H36 0 (vs := [.int .i64 0, .int .i64 0]) (cs' := [.int .i64 0, .int .i64 0]) (by kernel_rfl) (by kernel_rfl) rfl rfl rfl rfl rfl (by kernel_rfl) (Nat.le_of_ble_eq_true rfl) rfl (by kernel_rfl) ?_
 intro _ H37
 dsimp only [setL, delL] at H37
 refine RW.v ?_
 refine RW.nil ?_
 refine ⟨⟨by kernel_rfl, ⟨dyn_row (H35.get 1 rfl) (H37.get 1 rfl) ⟨fun h => Bool.noConfusion h, fun h => Bool.noConfusion h, fun h => Bool.noConfusion h, fun _ => H35.get 1 rfl, fun _ => H36.get 1 rfl, fun h => Bool.noConfusion h, trivial⟩, dyn_row (H35.get 2 rfl) (H37.get 2 rfl) ⟨fun h => Bool.noConfusion h, fun h => Bool.noConfusion h, fun h => Bool.noConfusion h, fun _ => H35.get 2 rfl, fun _ => H36.get 2 rfl, fun h => Bool.noConfusion h, trivial⟩, dyn_row (H35.get 1 rfl) (H37.get 1 rfl) ⟨fun h => Bool.noConfusion h, fun h => Bool.noConfusion h, fun h => Bool.noConfusion h, fun _ => H35.get 1 rfl, fun _ => H36.get 1 rfl, fun h => Bool.noConfusion h, trivial⟩, trivial, trivial, trivial, trivial⟩⟩, ?_⟩
 replace H := H37
 clear H35 H36 H37
 replace H := ((H.del 2).del 1)
 dsimp only [setL, delL] at H
 refine W.ret ?_
 refine endG (by rfl) (by exact resL_cell rfl (H.get 0 rfl) (by rw [uT_eq]; exact Tryd.underlying28) (by kernel_rfl) rfl rfl (by exact resL_tmp rfl)) ?_
 iterate 3 refine RW.v ?_
 refine RW.mk H (.row ⟨[.int .i64 0, .int .i64 0], 28, false⟩) ?_
 clear H; intro _ b38 _ H
 refine RW.st H 0 [.int .i64 0, .int .i64 0] [.int .i64 0, .int .i64 0] ?_
 clear H; intro _ _ H; dsimp only [setL, delL] at H
 refine RW.v ?_
 refine RW.nil ?_
 replace H := (H.del 1)
 dsimp only [setL, delL] at H
 refine W.rg [(3, pp b15), (5, pp b16), (6, pp b17), (8, pp b20), (9, .slice none 0 0), (12, pp b27), (13, pp b38), (14, .bool false), (16, v5), (17, .int .i64 1), (18, .int .i64 0)] fun TA => ?_
 refine W.seq ?_
 refine W.seq ?_
 refine W.drawn (by kernel_rfl) (by kernel_rfl) H.gn ?_
 have H39 := H
 refine RW.ld H39 2 2 ?_
 refine RW.cl ?_
 refine WC.enter (fn := Tryd.f33) Tryd.func33 rfl ?_
 replace H := H39
 refine W.rg [] fun TA => ?_
 refine W.seq (W.region ?_)
 refine RW.mk H (.row ⟨[.int .i64 0, .int .i64 0], 28, false⟩) ?_
 clear H; intro _ b40 _ H
 refine RW.nil ?_
 refine W.rg [(0, pp b40)] fun TA => ?_
 refine W.seq (W.region ?_)
 refine RW.cl ?_
 refine WC.enter (fn := Tryd.f32) Tryd.func32 rfl ?_
 refine W.rg [(0, .int .i64 0)] fun TA => ?_
 refine W.seq (W.region ?_)
 refine RW.mk H (.row ⟨[.int .i64 0, .int .i64 0], 28, false⟩) ?_
 clear H; intro _ b41 _ H
 refine RW.nil ?_
 refine W.rg [(0, .int .i64 0), (2, pp b41)] fun TA => ?_
 refine W.seq (W.region ?_)
 refine RW.v ?_
 refine RW.val (v := .agg #[.int .i64 1, .int .i64 0]) (by kernel_rfl) (by kernel_rfl) (by kernel_rfl) (by kernel_rfl) ?_
 refine RW.st H 0 [.int .i64 1, .int .i64 0] [.int .i64 1, .int .i64 0] ?_
 clear H; intro _ _ H; dsimp only [setL, delL] at H
 refine RW.nil ?_
 refine W.ret ?_
 refine endG (by rfl) (by exact resL_cell rfl (H.get 0 rfl) (by rw [uT_eq]; exact Tryd.underlying28) (by kernel_rfl) rfl rfl rfl) ?_
 refine RW.st H 1 [.int .i64 1, .int .i64 0] [.int .i64 1, .int .i64 0] ?_
 clear H; intro _ _ H; dsimp only [setL, delL] at H
 refine RW.nil ?_
 replace H := (H.del 0)
 dsimp only [setL, delL] at H
 refine W.ret ?_
 refine endG (by rfl) (by exact resL_cell rfl (H.get 0 rfl) (by rw [uT_eq]; exact Tryd.underlying28) (by kernel_rfl) rfl rfl rfl) ?_
 have H42 := H
 refine RW.vop (v := .bool true) (by kernel_rfl) (by kernel_rfl) (vop_eqS (b := true) (r := true) rfl (.inl ⟨rfl, rfl⟩) rfl rfl rfl rfl (by kernel_rfl) (fun w => (eqWd _ _ _ _ w).trans (by simp))) (by kernel_rfl) ?_
 refine RW.nil ?_
 refine ⟨⟨by kernel_rfl, ⟨dyn_row (H39.get 2 rfl) (H42.get 3 rfl) ⟨fun h => Bool.noConfusion h, fun _ => H39.get 2 rfl, fun h => Bool.noConfusion h, trivial⟩, trivial, trivial, trivial⟩⟩, ?_⟩
 replace H := H42
 clear H39 H42
 replace H := (H.del 0)
 dsimp only [setL, delL] at H
 refine W.c1 ?_
 refine W.seq (W.region ?_)
 refine RW.ld H 1 2 ?_
 refine RW.st H 2 [.int .i64 1, .int .i64 xn] [.int .i64 1, .int .i64 xn] ?_
 clear H; intro _ _ H; dsimp only [setL, delL] at H
 refine RW.nil ?_
 replace H := (H.del 1)
 dsimp only [setL, delL] at H
 refine W.rg [(3, pp b15), (5, pp b16), (6, pp b17), (8, pp b20), (9, .slice none 0 0), (13, pp b38), (14, .bool false), (16, v5), (17, .int .i64 1), (18, .int .i64 0)] fun TA => ?_
 refine W.seq (W.region ?_)
 iterate 2 refine RW.v ?_
 refine RW.nil ?_
 refine W.c1 ?_
 refine W.seq (W.region ?_)
 refine RW.ld H 1 2 ?_
 refine RW.st H 2 [.int .i64 1, .int .i64 xn] [.int .i64 1, .int .i64 xn] ?_
 clear H; intro _ _ H; dsimp only [setL, delL] at H
 refine RW.v ?_
 refine RW.nil ?_
 replace H := ((((H.del 4).del 3).del 1).del 0)
 dsimp only [setL, delL] at H
 refine W.ret ?_
 refine seqQ_ret ?_
 refine blkQ_ret ?_
 refine seqQ_ret ?_
 refine onceQ_ret ?_
 refine blkQ_ret ?_
 refine seqQ_ret ?_
 refine endG (by rfl) (by exact resL_cell rfl (H.get 0 rfl) (by rw [uT_eq]; exact Tryd.underlying28) (by kernel_rfl) rfl rfl (by exact resL_tmp rfl)) ?_
 iterate 3 refine RW.v ?_
 refine RW.mk H (.row ⟨[.int .i64 0, .int .i64 0], 28, false⟩) ?_
 clear H; intro _ b43 _ H
 refine RW.st H 0 [.int .i64 1, .int .i64 xn] [.int .i64 1, .int .i64 xn] ?_
 clear H; intro _ _ H; dsimp only [setL, delL] at H
 refine RW.v ?_
 refine RW.nil ?_
 replace H := ((H.del 2).del 1)
 dsimp only [setL, delL] at H
 refine W.rg [(2, .slice (some ⟨eb, 0, none⟩) 1 1), (3, pp b12), (6, pp b13), (9, .int .i64 0), (11, pp b43), (12, .slice none 0 0), (13, .slice (some ⟨eb, 0, none⟩) 1 1), (14, .int .i64 1), (15, .int .i64 0)] fun TA => ?_
 refine W.seq ?_
 refine W.seq (W.region ?_)
 iterate 3 refine RW.v ?_
 refine RW.nil ?_
 refine W.c1 ?_
 refine W.seq (W.region ?_)
 refine RW.ld H 0 2 ?_
 iterate 2 refine RW.v ?_
 refine RW.st H 1 [.int .i64 1, .int .i64 xn] [.int .i64 1, .int .i64 xn] ?_
 clear H; intro _ _ H; dsimp only [setL, delL] at H
 iterate 2 refine RW.v ?_
 refine RW.nil ?_
 replace H := ((H.del 2).del 0)
 dsimp only [setL, delL] at H
 refine W.ret ?_
 refine seqQ_ret ?_
 refine blkQ_ret ?_
 refine seqQ_ret ?_
 refine onceQ_ret ?_
 refine blkQ_ret ?_
 refine seqQ_ret ?_
 refine endG (by rfl) (by exact resL_cell rfl (H.get 0 rfl) (by rw [uT_eq]; exact Tryd.underlying28) (by kernel_rfl) rfl rfl (by exact resL_tmp (by exact resL_tmp rfl))) ?_
 iterate 4 refine RW.v ?_
 refine RW.mk H (.row ⟨[.int .i64 0, .int .i64 0], 28, false⟩) ?_
 clear H; intro _ b44 _ H
 refine RW.st H 0 [.int .i64 1, .int .i64 xn] [.int .i64 1, .int .i64 xn] ?_
 clear H; intro _ _ H; dsimp only [setL, delL] at H
 iterate 2 refine RW.v ?_
 refine RW.nil ?_
 replace H := (H.del 1)
 dsimp only [setL, delL] at H
 refine W.rg [(1, pp T), (2, v5), (8, pp b1), (9, .int .i64 1), (10, .bool false), (11, pp b2), (13, pp b44)] fun TA => ?_
 refine W.seq (W.region ?_)
 refine RW.v ?_
 refine RW.cl ?_
 refine ((find65_wc H.gn H.abs (hT.le H.old)).mono ?_)
 rintro _ _ ⟨rfl, K⟩
 replace H := H.then K
 clear K
 dsimp only [List.nil_append, List.cons_append] at H
 iterate 5 refine RW.v ?_
 refine RW.nil ?_
 refine W.rg [(2, v5), (8, pp b1), (9, .int .i64 1), (10, .bool false), (11, pp b2), (13, pp b44), (14, .int .i64 65), (15, .bool true)] fun TA => ?_
 refine W.seq ?_
 refine W.seq ?_
 refine W.drawn (by kernel_rfl) (by kernel_rfl) H.gn ?_
 have H45 := H
 iterate 2 refine RW.v ?_
 refine RW.val (by rfl) (by kernel_rfl) rfl (by kernel_rfl) ?_
 refine RW.ldL H45 0 1 (by rfl) (by kernel_rfl) rfl rfl rfl rfl rfl (by kernel_rfl) ?_
 refine RW.val (by rfl) (by kernel_rfl) rfl (by kernel_rfl) ?_
 iterate 2 refine RW.v ?_
 refine RW.ldL H45 0 2 (by rfl) (by kernel_rfl) rfl rfl rfl rfl rfl (by kernel_rfl) ?_
 refine RW.cl (hw := by rfl) ?_
 refine WC.enter (fn := Tryd.f33) Tryd.func33 rfl ?_
 replace H := H45
 refine W.rg [] fun TA => ?_
 refine W.seq (W.region ?_)
 refine RW.mk H (.row ⟨[.int .i64 0, .int .i64 0], 28, false⟩) ?_
 clear H; intro _ b46 _ H
 refine RW.nil ?_
 refine W.rg [(0, pp b46)] fun TA => ?_
 refine W.seq (W.region ?_)
 refine RW.cl ?_
 refine WC.enter (fn := Tryd.f32) Tryd.func32 rfl ?_
 refine W.rg [(0, .int .i64 0)] fun TA => ?_
 refine W.seq (W.region ?_)
 refine RW.mk H (.row ⟨[.int .i64 0, .int .i64 0], 28, false⟩) ?_
 clear H; intro _ b47 _ H
 refine RW.nil ?_
 refine W.rg [(0, .int .i64 0), (2, pp b47)] fun TA => ?_
 refine W.seq (W.region ?_)
 refine RW.v ?_
 refine RW.val (v := .agg #[.int .i64 1, .int .i64 0]) (by kernel_rfl) (by kernel_rfl) (by kernel_rfl) (by kernel_rfl) ?_
 refine RW.st H 0 [.int .i64 1, .int .i64 0] [.int .i64 1, .int .i64 0] ?_
 clear H; intro _ _ H; dsimp only [setL, delL] at H
 refine RW.nil ?_
 refine W.ret ?_
 refine endG (by rfl) (by exact resL_cell rfl (H.get 0 rfl) (by rw [uT_eq]; exact Tryd.underlying28) (by kernel_rfl) rfl rfl rfl) ?_
 refine RW.st H 1 [.int .i64 1, .int .i64 0] [.int .i64 1, .int .i64 0] ?_
 clear H; intro _ _ H; dsimp only [setL, delL] at H
 refine RW.nil ?_
 replace H := (H.del 0)
 dsimp only [setL, delL] at H
 refine W.ret ?_
 refine endG (by rfl) (by exact resL_cell rfl (H.get 0 rfl) (by rw [uT_eq]; exact Tryd.underlying28) (by kernel_rfl) rfl rfl rfl) ?_
 have H48 := H
 refine RW.vop (v := .bool false) (by rfl) (by kernel_rfl) (vop_eqS (b := false) (r := false) rfl (.inl ⟨rfl, rfl⟩) rfl rfl rfl rfl (by kernel_rfl) (fun w => (eqWd _ _ _ _ w).trans (by simp <;> omega))) (by kernel_rfl) ?_
 iterate 2 refine RW.v ?_
 refine RW.val (by rfl) (by kernel_rfl) rfl (by kernel_rfl) ?_
 refine RW.val (by rfl) (by kernel_rfl) rfl (by kernel_rfl) ?_
 refine RW.v ?_
 refine RW.nil ?_
 refine ⟨⟨by kernel_rfl, ⟨trivial, trivial, trivial, dyn_row (H45.get 0 rfl) (H48.get 1 rfl) ⟨fun h => Bool.noConfusion h, fun h => Bool.noConfusion h, fun h => Bool.noConfusion h, fun h => Bool.noConfusion h, fun h => Bool.noConfusion h, fun h => Bool.noConfusion h, fun h => Bool.noConfusion h, fun h => Bool.noConfusion h, fun _ => H45.get 0 rfl, fun h => Bool.noConfusion h, fun h => Bool.noConfusion h, fun h => Bool.noConfusion h, fun h => Bool.noConfusion h, fun h => Bool.noConfusion h, fun h => Bool.noConfusion h, trivial⟩, trivial, trivial, trivial, dyn_row (H45.get 0 rfl) (H48.get 1 rfl) ⟨fun h => Bool.noConfusion h, fun h => Bool.noConfusion h, fun h => Bool.noConfusion h, fun h => Bool.noConfusion h, fun h => Bool.noConfusion h, fun h => Bool.noConfusion h, fun h => Bool.noConfusion h, fun h => Bool.noConfusion h, fun _ => H45.get 0 rfl, fun h => Bool.noConfusion h, fun h => Bool.noConfusion h, fun h => Bool.noConfusion h, fun h => Bool.noConfusion h, fun h => Bool.noConfusion h, fun h => Bool.noConfusion h, trivial⟩, trivial, trivial, trivial, trivial, trivial, trivial, trivial, trivial⟩⟩, ?_⟩
 replace H := H48
 clear H45 H48
 replace H := (H.del 0)
 dsimp only [setL, delL] at H
 refine W.c0 ?_
 refine W.skip ?_
 refine W.seq ?_
 refine W.seq ?_
 refine W.drawn (by kernel_rfl) (by kernel_rfl) H.gn ?_
 have H49 := H
 refine RW.ld H49 2 4 ?_
 iterate 2 refine RW.v ?_
 refine RW.cl ?_
 refine WC.enter (fn := Tryd.f32) Tryd.func32 rfl ?_
 replace H := H49
 refine W.rg [(0, .int .i64 65)] fun TA => ?_
 refine W.seq (W.region ?_)
 refine RW.mk H (.row ⟨[.int .i64 0, .int .i64 0], 28, false⟩) ?_
 clear H; intro _ b50 _ H
 refine RW.nil ?_
 refine W.rg [(0, .int .i64 65), (2, pp b50)] fun TA => ?_
 refine W.seq (W.region ?_)
 refine RW.v ?_
 refine RW.val (v := .agg #[.int .i64 1, .int .i64 65]) (by kernel_rfl) (by kernel_rfl) (by kernel_rfl) (by kernel_rfl) ?_
 refine RW.st H 0 [.int .i64 1, .int .i64 65] [.int .i64 1, .int .i64 65] ?_
 clear H; intro _ _ H; dsimp only [setL, delL] at H
 refine RW.nil ?_
 refine W.ret ?_
 refine endG (by rfl) (by exact resL_cell rfl (H.get 0 rfl) (by rw [uT_eq]; exact Tryd.underlying28) (by kernel_rfl) rfl rfl rfl) ?_
 have H51 := H
 refine RW.ld H51 1 2 ?_
 refine RW.mkD H51 (x := .row ⟨[.int .i64 1, .int .i64 65, .int .i64 1, .int .i64 xn], 28, false⟩) (fm := fun b => .slice (some ⟨b, 0, none⟩) 2 2) (by kernel_rfl) (by kernel_rfl) (by kernel_rfl) (by kernel_rfl) ?_
 intro _ b52 H53
 refine RW.cl ?_
 refine WC.enter (fn := Tryd.f44) Tryd.func44 rfl ?_
 replace H := H53
 refine W.rg [(0, .agg #[pp h, pp T, .int .i64 1, .int .i64 66]), (1, v5), (2, .slice (some ⟨b52, 0, none⟩) 2 2)] fun TA => ?_
 refine W.seq (W.region ?_)
 refine RW.mk H (.row ⟨[pt h, pt T, .int .i64 1, .int .i64 66], 65, false⟩) ?_
 clear H; intro _ b54 _ H
 refine RW.mk H (.row ⟨[.int .i64 0, .int .i64 0], 28, false⟩) ?_
 clear H; intro _ b55 _ H
 iterate 2 refine RW.v ?_
 refine RW.nil ?_
 replace H := (H.del 3)
 dsimp only [setL, delL] at H
 refine W.rg [(1, v5), (2, .slice (some ⟨b52, 0, none⟩) 2 2), (3, pp b54), (6, pp b55)] fun TA => ?_
 refine W.seq ?_
 refine W.seq (W.region ?_)
 iterate 3 refine RW.v ?_
 refine RW.nil ?_
 refine W.rg [(1, v5), (2, .slice (some ⟨b52, 0, none⟩) 2 2), (3, pp b54), (6, pp b55), (13, .slice (some ⟨b52, 0, none⟩) 2 2), (14, .int .i64 2), (15, .int .i64 0)] fun TA => ?_
 refine W.block ?_
 refine W.unroll (WL.once ?_)
 refine W.seq (W.region ?_)
 refine RW.v ?_
 refine RW.nil ?_
 refine W.rg [(1, v5), (2, .slice (some ⟨b52, 0, none⟩) 2 2), (3, pp b54), (6, pp b55), (13, .slice (some ⟨b52, 0, none⟩) 2 2), (14, .int .i64 2), (15, .int .i64 0), (16, .bool true)] fun TA => ?_
 refine W.seq ?_
 refine W.c1 ?_
 refine W.skip ?_
 refine W.seq ?_
 refine W.block ?_
 refine W.seq (W.region ?_)
 refine RW.v ?_
 refine RW.idx (s := 2) (by kernel_rfl) (by kernel_rfl) rfl Tryd.underlying35 (by kernel_rfl) rfl rfl ⟨by decide, by decide⟩ (by kernel_rfl) ?_
 refine RW.ld H 2 2 ?_
 refine RW.mk H (.row ⟨[.int .i64 0, .int .i64 0], 28, false⟩) ?_
 clear H; intro _ b56 _ H
 refine RW.v ?_
 refine RW.st H 0 [.int .i64 1, .int .i64 65] [.int .i64 1, .int .i64 65] ?_
 clear H; intro _ _ H; dsimp only [setL, delL] at H
 refine RW.nil ?_
 refine W.rg [(1, v5), (2, .slice (some ⟨b52, 0, none⟩) 2 2), (3, pp b54), (6, pp b55), (9, .int .i64 0), (10, pp b56), (13, .slice (some ⟨b52, 0, none⟩) 2 2), (14, .int .i64 2), (15, .int .i64 0)] fun TA => ?_
 refine W.seq (W.region ?_)
 refine RW.ld H 2 4 ?_
 refine RW.v ?_
 refine RW.ld H 0 2 ?_
 refine RW.cl ?_
 refine WC.enter (fn := Tryd.f56) Tryd.func56 rfl ?_
 refine W.rg [(0, .agg #[pp h, pp T, .int .i64 1, .int .i64 66]), (1, v5), (2, .agg #[.int .i64 1, .int .i64 65])] fun TA => ?_
 refine W.seq (W.region ?_)
 refine RW.mk H (.row ⟨[pt h, pt T, .int .i64 1, .int .i64 66], 65, false⟩) ?_
 clear H; intro _ b57 _ H
 refine RW.mk H (.row ⟨[.int .i64 1, .int .i64 65], 28, false⟩) ?_
 clear H; intro _ b58 _ H
 refine RW.mk H (.row ⟨[.int .i64 0, .int .i64 0], 28, false⟩) ?_
 clear H; intro _ b59 _ H
 refine RW.v ?_
 refine RW.nil ?_
 refine W.rg [(1, v5), (3, pp b57), (5, pp b58), (6, pp b59)] fun TA => ?_
 refine W.seq (W.region ?_)
 refine RW.cl ?_
 refine WC.enter (fn := Tryd.f33) Tryd.func33 rfl ?_
 refine W.rg [] fun TA => ?_
 refine W.seq (W.region ?_)
 refine RW.mk H (.row ⟨[.int .i64 0, .int .i64 0], 28, false⟩) ?_
 clear H; intro _ b60 _ H
 refine RW.nil ?_
 refine W.rg [(0, pp b60)] fun TA => ?_
 refine W.seq (W.region ?_)
 refine RW.cl ?_
 refine WC.enter (fn := Tryd.f32) Tryd.func32 rfl ?_
 refine W.rg [(0, .int .i64 0)] fun TA => ?_
 refine W.seq (W.region ?_)
 refine RW.mk H (.row ⟨[.int .i64 0, .int .i64 0], 28, false⟩) ?_
 clear H; intro _ b61 _ H
 refine RW.nil ?_
 refine W.rg [(0, .int .i64 0), (2, pp b61)] fun TA => ?_
 refine W.seq (W.region ?_)
 refine RW.v ?_
 refine RW.val (v := .agg #[.int .i64 1, .int .i64 0]) (by kernel_rfl) (by kernel_rfl) (by kernel_rfl) (by kernel_rfl) ?_
 refine RW.st H 0 [.int .i64 1, .int .i64 0] [.int .i64 1, .int .i64 0] ?_
 clear H; intro _ _ H; dsimp only [setL, delL] at H
 refine RW.nil ?_
 refine W.ret ?_
 refine endG (by rfl) (by exact resL_cell rfl (H.get 0 rfl) (by rw [uT_eq]; exact Tryd.underlying28) (by kernel_rfl) rfl rfl rfl) ?_
 refine RW.st H 1 [.int .i64 1, .int .i64 0] [.int .i64 1, .int .i64 0] ?_
 clear H; intro _ _ H; dsimp only [setL, delL] at H
 refine RW.nil ?_
 replace H := (H.del 0)
 dsimp only [setL, delL] at H
 refine W.ret ?_
 refine endG (by rfl) (by exact resL_cell rfl (H.get 0 rfl) (by rw [uT_eq]; exact Tryd.underlying28) (by kernel_rfl) rfl rfl rfl) ?_
 refine RW.mk H (.row ⟨[.int .i64 0, .int .i64 0], 28, false⟩) ?_
 clear H; intro _ b62 _ H
 refine RW.st H 0 [.int .i64 1, .int .i64 0] [.int .i64 1, .int .i64 0] ?_
 clear H; intro _ _ H; dsimp only [setL, delL] at H
 refine RW.nil ?_
 replace H := (H.del 1)
 dsimp only [setL, delL] at H
 refine W.rg [(1, v5), (3, pp b57), (5, pp b58), (6, pp b59), (8, pp b62)] fun TA => ?_
 refine W.seq (W.region ?_)
 refine RW.v ?_
 refine RW.nil ?_
 refine W.rg [(1, v5), (3, pp b57), (5, pp b58), (6, pp b59), (8, pp b62), (9, .slice none 0 0)] fun TA => ?_
 refine W.seq ?_
 refine W.seq (W.region ?_)
 refine RW.v ?_
 refine RW.len (by kernel_rfl) (by kernel_rfl) rfl rfl rfl rfl ((H.sl 9 rfl).len (by kernel_rfl)) (by kernel_rfl) ?_
 refine RW.v ?_
 refine RW.nil ?_
 refine W.rg [(3, pp b57), (5, pp b58), (6, pp b59), (8, pp b62), (9, .slice none 0 0), (16, v5), (17, .int .i64 1), (18, .int .i64 0)] fun TA => ?_
 refine W.block ?_
 refine W.unroll (WL.once ?_)
 refine W.seq (W.region ?_)
 refine RW.v ?_
 refine RW.nil ?_
 refine W.rg [(3, pp b57), (5, pp b58), (6, pp b59), (8, pp b62), (9, .slice none 0 0), (16, v5), (17, .int .i64 1), (18, .int .i64 0), (19, .bool true)] fun TA => ?_
 refine W.seq ?_
 refine W.c1 ?_
 refine W.skip ?_
 refine W.seq ?_
 refine W.block ?_
 refine W.seq (W.region ?_)
 refine RW.idxG H 9 rfl (by kernel_rfl) (by kernel_rfl) rfl Tryd.underlying35 (by kernel_rfl) rfl rfl ⟨by decide, by decide⟩ (by kernel_rfl) ?_
 intro b63 q64 r65 hF66 hE67
 replace hE67 : (r65.cs.drop q64).take 2 = [.int .i64 2, .int .i64 0] := hE67.trans (by kernel_rfl)
 refine RW.loads 2 (by kernel_rfl) (by kernel_rfl) rfl rfl (hF66) hE67 rfl (by kernel_rfl) ?_
 refine RW.mk H (.row ⟨[.int .i64 0, .int .i64 0], 28, false⟩) ?_
 clear H; intro _ b68 _ H
 refine RW.st H 0 [.int .i64 2, .int .i64 0] [.int .i64 2, .int .i64 0] ?_
 clear H; intro _ _ H; dsimp only [setL, delL] at H
 refine RW.nil ?_
 refine W.rg [(3, pp b57), (5, pp b58), (6, pp b59), (8, pp b62), (9, .slice none 0 0), (11, pp b68), (16, v5), (17, .int .i64 1), (18, .int .i64 0)] fun TA => ?_
 refine W.seq (W.region ?_)
 refine RW.ld H 4 4 ?_
 refine RW.ld H 0 2 ?_
 refine RW.ld H 3 2 ?_
 refine RW.cl ?_
 refine ((bound_wc (h := h) (T := T) (ev := ((1, 65) : Wd)) mp5 (Nat.le_of_ble_eq_true rfl) (fun j hj => by match j, hj with | 0, _ => (simp <;> omega) | j + 1, hj => exact absurd hj (by simp)) H.gn H.abs).mono ?_)
 rintro _ _ ⟨e, K⟩
 replace H := H.then K
 clear K
 dsimp only [List.nil_append, List.cons_append] at H
 replace e := e.trans (congrArg wdV (show _ = ((1, 0) : Wd) from ((boundP_no (by simp [pB] <;> omega)).trans boundP_nil)))
 subst e
 refine RW.mk H (.row ⟨[.int .i64 0, .int .i64 0], 28, false⟩) ?_
 clear H; intro _ b69 _ H
 refine RW.st H 0 [.int .i64 1, .int .i64 0] [.int .i64 1, .int .i64 0] ?_
 clear H; intro _ _ H; dsimp only [setL, delL] at H
 refine RW.nil ?_
 replace H := (H.del 1)
 dsimp only [setL, delL] at H
 refine W.rg [(3, pp b57), (5, pp b58), (6, pp b59), (8, pp b62), (9, .slice none 0 0), (12, pp b69), (16, v5), (17, .int .i64 1), (18, .int .i64 0)] fun TA => ?_
 refine W.seq ?_
 refine W.seq ?_
 refine W.drawn (by kernel_rfl) (by kernel_rfl) H.gn ?_
 have H70 := H
 refine RW.ld H70 0 2 ?_
 refine RW.cl ?_
 refine WC.enter (fn := Tryd.f33) Tryd.func33 rfl ?_
 replace H := H70
 refine W.rg [] fun TA => ?_
 refine W.seq (W.region ?_)
 refine RW.mk H (.row ⟨[.int .i64 0, .int .i64 0], 28, false⟩) ?_
 clear H; intro _ b71 _ H
 refine RW.nil ?_
 refine W.rg [(0, pp b71)] fun TA => ?_
 refine W.seq (W.region ?_)
 refine RW.cl ?_
 refine WC.enter (fn := Tryd.f32) Tryd.func32 rfl ?_
 refine W.rg [(0, .int .i64 0)] fun TA => ?_
 refine W.seq (W.region ?_)
 refine RW.mk H (.row ⟨[.int .i64 0, .int .i64 0], 28, false⟩) ?_
 clear H; intro _ b72 _ H
 refine RW.nil ?_
 refine W.rg [(0, .int .i64 0), (2, pp b72)] fun TA => ?_
 refine W.seq (W.region ?_)
 refine RW.v ?_
 refine RW.val (v := .agg #[.int .i64 1, .int .i64 0]) (by kernel_rfl) (by kernel_rfl) (by kernel_rfl) (by kernel_rfl) ?_
 refine RW.st H 0 [.int .i64 1, .int .i64 0] [.int .i64 1, .int .i64 0] ?_
 clear H; intro _ _ H; dsimp only [setL, delL] at H
 refine RW.nil ?_
 refine W.ret ?_
 refine endG (by rfl) (by exact resL_cell rfl (H.get 0 rfl) (by rw [uT_eq]; exact Tryd.underlying28) (by kernel_rfl) rfl rfl rfl) ?_
 refine RW.st H 1 [.int .i64 1, .int .i64 0] [.int .i64 1, .int .i64 0] ?_
 clear H; intro _ _ H; dsimp only [setL, delL] at H
 refine RW.nil ?_
 replace H := (H.del 0)
 dsimp only [setL, delL] at H
 refine W.ret ?_
 refine endG (by rfl) (by exact resL_cell rfl (H.get 0 rfl) (by rw [uT_eq]; exact Tryd.underlying28) (by kernel_rfl) rfl rfl rfl) ?_
 have H73 := H
 refine RW.vop (v := .bool true) (by kernel_rfl) (by kernel_rfl) (vop_eqS (b := true) (r := true) rfl (.inl ⟨rfl, rfl⟩) rfl rfl rfl rfl (by kernel_rfl) (fun w => (eqWd _ _ _ _ w).trans (by simp))) (by kernel_rfl) ?_
 refine RW.nil ?_
 refine ⟨⟨by kernel_rfl, ⟨dyn_row (H70.get 0 rfl) (H73.get 1 rfl) ⟨fun h => Bool.noConfusion h, fun _ => H70.get 0 rfl, fun h => Bool.noConfusion h, trivial⟩, trivial, trivial, trivial⟩⟩, ?_⟩
 replace H := H73
 clear H70 H73
 replace H := (H.del 0)
 dsimp only [setL, delL] at H
 refine W.c1 ?_
 refine W.exit _ ?_
 refine seqQ_exit ?_
 refine blkQ_here ?_
 refine W.region ?_
 iterate 2 refine RW.v ?_
 refine RW.nil ?_
 replace H := (H.del 0)
 dsimp only [setL, delL] at H
 refine WL.once ?_
 refine W.rg [(3, pp b57), (5, pp b58), (6, pp b59), (8, pp b62), (9, .slice none 0 0), (16, v5), (17, .int .i64 1), (18, .int .i64 1)] fun TA => ?_
 refine W.seq (W.region ?_)
 refine RW.v ?_
 refine RW.nil ?_
 refine W.rg [(3, pp b57), (5, pp b58), (6, pp b59), (8, pp b62), (9, .slice none 0 0), (16, v5), (17, .int .i64 1), (18, .int .i64 1), (19, .bool false)] fun TA => ?_
 refine W.seq ?_
 refine W.c0 ?_
 refine W.exit _ ?_
 refine seqQ_exit ?_
 refine onceQ_exit ?_
 refine blkQ_here ?_
 refine W.seq (W.region ?_)
 refine RW.ld H 0 2 ?_
 refine RW.v ?_
 refine RW.st H 1 [.int .i64 1, .int .i64 0] [.int .i64 1, .int .i64 0] ?_
 clear H; intro _ _ H; dsimp only [setL, delL] at H
 refine RW.v ?_
 refine RW.nil ?_
 replace H := (((H.del 3).del 2).del 0)
 dsimp only [setL, delL] at H
 refine W.ret ?_
 refine endG (by rfl) (by exact resL_cell rfl (H.get 0 rfl) (by rw [uT_eq]; exact Tryd.underlying28) (by kernel_rfl) rfl rfl (by exact resL_tmp rfl)) ?_
 iterate 3 refine RW.v ?_
 refine RW.mk H (.row ⟨[.int .i64 0, .int .i64 0], 28, false⟩) ?_
 clear H; intro _ b74 _ H
 refine RW.st H 0 [.int .i64 1, .int .i64 0] [.int .i64 1, .int .i64 0] ?_
 clear H; intro _ _ H; dsimp only [setL, delL] at H
 refine RW.v ?_
 refine RW.nil ?_
 replace H := ((H.del 2).del 1)
 dsimp only [setL, delL] at H
 refine W.rg [(2, .slice (some ⟨b52, 0, none⟩) 2 2), (3, pp b54), (6, pp b55), (9, .int .i64 0), (11, pp b74), (12, .slice none 0 0), (13, .slice (some ⟨b52, 0, none⟩) 2 2), (14, .int .i64 2), (15, .int .i64 0)] fun TA => ?_
 refine W.seq ?_
 refine W.seq (W.region ?_)
 iterate 3 refine RW.v ?_
 refine RW.nil ?_
 refine W.c1 ?_
 refine W.seq (W.region ?_)
 refine RW.ld H 0 2 ?_
 iterate 2 refine RW.v ?_
 refine RW.st H 1 [.int .i64 1, .int .i64 0] [.int .i64 1, .int .i64 0] ?_
 clear H; intro _ _ H; dsimp only [setL, delL] at H
 iterate 2 refine RW.v ?_
 refine RW.nil ?_
 replace H := ((H.del 2).del 0)
 dsimp only [setL, delL] at H
 refine W.ret ?_
 refine seqQ_ret ?_
 refine blkQ_ret ?_
 refine seqQ_ret ?_
 refine onceQ_ret ?_
 refine blkQ_ret ?_
 refine seqQ_ret ?_
 refine endG (by rfl) (by exact resL_cell rfl (H.get 0 rfl) (by rw [uT_eq]; exact Tryd.underlying28) (by kernel_rfl) rfl rfl (by exact resL_tmp (by exact resL_tmp rfl))) ?_
 have H75 := H
 iterate 4 refine RW.v ?_
 refine RW.mkD H75 (x := .row ⟨[.int .i64 0, .int .i64 0], 28, false⟩) (fm := fun b => .pointer (some ⟨b, 0, none⟩)) (by kernel_rfl) (by kernel_rfl) (by kernel_rfl) (by kernel_rfl) ?_
 intro _ b76 H77
 refine RW.stD H77 0 (vs := [.int .i64 1, .int .i64 0]) (cs' := [.int .i64 1, .int .i64 0]) (by kernel_rfl) (by kernel_rfl) rfl rfl rfl rfl rfl (by kernel_rfl) (Nat.le_of_ble_eq_true rfl) rfl (by kernel_rfl) ?_
 intro _ H78
 dsimp only [setL, delL] at H78
 iterate 2 refine RW.v ?_
 refine RW.nil ?_
 refine ⟨⟨by kernel_rfl, ⟨dyn_row (H49.get 2 rfl) (H78.get 5 rfl) ⟨fun h => Bool.noConfusion h, fun h => Bool.noConfusion h, fun h => Bool.noConfusion h, fun _ => H49.get 2 rfl, fun h => Bool.noConfusion h, fun h => Bool.noConfusion h, fun _ => H53.get 4 rfl, fun h => Bool.noConfusion h, fun h => Bool.noConfusion h, fun h => Bool.noConfusion h, fun h => Bool.noConfusion h, fun h => Bool.noConfusion h, fun _ => H77.get 5 rfl, fun h => Bool.noConfusion h, fun h => Bool.noConfusion h, trivial⟩, trivial, trivial, trivial, dyn_row (H51.get 1 rfl) (H78.get 3 rfl) ⟨fun h => Bool.noConfusion h, fun h => Bool.noConfusion h, fun h => Bool.noConfusion h, fun _ => H49.get 0 rfl, fun h => Bool.noConfusion h, fun h => Bool.noConfusion h, fun _ => H53.get 2 rfl, fun h => Bool.noConfusion h, fun h => Bool.noConfusion h, fun h => Bool.noConfusion h, fun h => Bool.noConfusion h, fun h => Bool.noConfusion h, fun _ => H77.get 3 rfl, fun h => Bool.noConfusion h, fun h => Bool.noConfusion h, trivial⟩, Or.inl (by kernel_rfl), trivial, trivial, trivial, trivial, trivial, Or.inl (by kernel_rfl), trivial, trivial, trivial, trivial⟩⟩, ?_⟩
 replace H := H78
 clear H49 H51 H53 H75 H77 H78
 replace H := ((((H.del 5).del 4).del 2).del 1)
 dsimp only [setL, delL] at H
 refine W.rg [(8, pp b1), (9, .int .i64 1), (13, pp b44), (16, pp b76), (17, .int .i64 1), (18, .bool false)] fun TA => ?_
 refine W.seq ?_
 refine W.drawn (by kernel_rfl) (by kernel_rfl) H.gn ?_
 have H79 := H
 iterate 3 refine RW.v ?_
 refine RW.val (by rfl) (by kernel_rfl) rfl (by kernel_rfl) ?_
 refine RW.val (by rfl) (by kernel_rfl) rfl (by kernel_rfl) ?_
 iterate 2 refine RW.v ?_
 refine RW.skip (by rfl) (by kernel_rfl) ?_
 refine RW.skip (by rfl) (by kernel_rfl) ?_
 refine RW.skip (by rfl) (by kernel_rfl) ?_
 refine RW.v ?_
 refine RW.nil ?_
 refine ⟨⟨by kernel_rfl, ⟨trivial, trivial, trivial, trivial, trivial, trivial, trivial, trivial, trivial, trivial, trivial, trivial⟩⟩, ?_⟩
 replace H := H79
 clear H79
 refine W.c0 ?_
 refine W.skip ?_
 refine W.seq (W.region ?_)
 refine RW.ld H 1 2 ?_
 refine RW.v ?_
 refine RW.st H 2 [.int .i64 1, .int .i64 xn] [.int .i64 1, .int .i64 xn] ?_
 clear H; intro _ _ H; dsimp only [setL, delL] at H
 iterate 2 refine RW.v ?_
 refine RW.nil ?_
 replace H := ((H.del 1).del 0)
 dsimp only [setL, delL] at H
 refine W.ret ?_
 refine endG (by rfl) (by exact resL_cell rfl (H.get 0 rfl) (by rw [uT_eq]; exact Tryd.underlying28) (by kernel_rfl) rfl rfl (by exact resL_tmp (by exact resL_tmp rfl))) ?_
 exact ⟨rfl, (H.del 0)⟩
set_option maxHeartbeats 16000000 in
theorem act3_wc {a : Int} {e : Int} {xn : Int} (x0 : 62 ≤ xn) (x1 : xn ≤ 64) {yn : Int} (y0 : 2 ≤ yn) (y1 : yn ≤ 61) {zn : Int} (z0 : 2 ≤ zn) (z1 : zn ≤ 61) {mb : Nat} {eb : Nat} (hG : G65 ≤ σ0.next) (ha : σ0.abs = heapAbs h (hmP [(((1, 66) : Wd), ((2, 3) : Wd)), (((1, 66) : Wd), ((2, 6) : Wd)), (((0, a) : Wd), ((1, xn) : Wd)), (((2, 2) : Wd), ((1, 0) : Wd)), (((1, 66) : Wd), ((2, 10) : Wd)), (((1, 65) : Wd), ((2, 4) : Wd)), (((2, 5) : Wd), ((1, 0) : Wd)), (((1, xn) : Wd), ((1, yn) : Wd)), (((2, 7) : Wd), ((1, 0) : Wd)), (((1, yn) : Wd), ((1, zn) : Wd)), (((2, 9) : Wd), ((2, 8) : Wd))])) (hT : TabF σ0.get T) {thM : TypeId} {ghM : Bool} (hM : σ0.get mb = some (.row ⟨[.int .i64 2, .int .i64 0, .int .i64 2, .int .i64 1], thM, ghM⟩)) {thE : TypeId} {ghE : Bool} (hE : σ0.get eb = some (.row ⟨[.int .i64 0, .int .i64 e, .int .i64 0, .int .i64 a], thE, ghE⟩)) (he : ¬ a = e) : WC G65 Tryd.prog 14 #[.pointer (some ⟨h, 0, none⟩), .pointer (some ⟨T, 0, none⟩), .slice (some ⟨mb, 0, none⟩) 2 2, .slice (some ⟨eb, 0, none⟩) 2 2] σ0 fun v σ' => v = .tuple #[.agg #[.int .i64 1, .int .i64 0], .int .i64 1, .bool false] ∧ Lies G65 (heapAbs h (hmP [(((1, 66) : Wd), ((2, 3) : Wd)), (((1, 66) : Wd), ((2, 6) : Wd)), (((0, a) : Wd), ((1, xn) : Wd)), (((2, 2) : Wd), ((1, 0) : Wd)), (((1, 66) : Wd), ((2, 10) : Wd)), (((1, 65) : Wd), ((2, 4) : Wd)), (((2, 5) : Wd), ((1, 0) : Wd)), (((1, xn) : Wd), ((1, yn) : Wd)), (((2, 7) : Wd), ((1, 0) : Wd)), (((1, yn) : Wd), ((1, zn) : Wd)), (((2, 9) : Wd), ((2, 8) : Wd))])) σ0.get σ' [] := by
 have H := Lies.start hG ha
 generalize σ0.get = F at H hT hM hE ⊢
 refine WC.enter (fn := Tryd.f14) Tryd.func14 rfl ?_
 refine W.rg [(0, pp h), (1, pp T), (2, .slice (some ⟨mb, 0, none⟩) 2 2), (3, .slice (some ⟨eb, 0, none⟩) 2 2)] fun TA => ?_
 refine W.seq (W.region ?_)
 refine RW.mk H (.row ⟨[.int .i64 0, .int .i64 0], 28, false⟩) ?_
 clear H; intro _ b1 _ H
 iterate 2 refine RW.v ?_
 refine RW.nil ?_
 refine W.rg [(0, pp h), (1, pp T), (2, .slice (some ⟨mb, 0, none⟩) 2 2), (3, .slice (some ⟨eb, 0, none⟩) 2 2), (8, pp b1)] fun TA => ?_
 refine W.seq (W.region ?_)
 iterate 2 refine RW.v ?_
 refine RW.cl ?_
 refine ((at_wc (Nat.le_of_ble_eq_true rfl) H.gn H.abs (hT.le H.old)).mono ?_)
 rintro _ _ ⟨rfl, K⟩
 replace H := H.then K
 clear K
 dsimp only [List.nil_append, List.cons_append] at H
 iterate 3 refine RW.v ?_
 refine RW.mk H (.row ⟨[.pointer none, .pointer none, .int .i64 0, .int .i64 0], 65, false⟩) ?_
 clear H; intro _ b2 _ H
 refine RW.st H 0 [pt h, pt T, .int .i64 1, .int .i64 66] [pt h, pt T, .int .i64 1, .int .i64 66] ?_
 clear H; intro _ _ H; dsimp only [setL, delL] at H
 refine RW.v ?_
 refine RW.nil ?_
 refine W.rg [(1, pp T), (2, .slice (some ⟨mb, 0, none⟩) 2 2), (3, .slice (some ⟨eb, 0, none⟩) 2 2), (8, pp b1), (11, pp b2), (12, .bool true)] fun TA => ?_
 refine W.seq ?_
 refine W.seq (W.region ?_)
 iterate 2 refine RW.v ?_
 refine RW.nil ?_
 refine W.c0 ?_
 refine W.skip ?_
 refine W.seq (W.region ?_)
 refine RW.ld H 0 4 ?_
 refine RW.v ?_
 refine RW.cl ?_
 refine WC.enter (fn := Tryd.f43) Tryd.func43 rfl ?_
 refine W.rg [(0, .agg #[pp h, pp T, .int .i64 1, .int .i64 66]), (1, .slice (some ⟨mb, 0, none⟩) 2 2)] fun TA => ?_
 refine W.seq (W.region ?_)
 refine RW.mk H (.row ⟨[pt h, pt T, .int .i64 1, .int .i64 66], 65, false⟩) ?_
 clear H; intro _ b3 _ H
 refine RW.v ?_
 refine RW.nil ?_
 refine W.rg [(1, .slice (some ⟨mb, 0, none⟩) 2 2), (2, pp b3)] fun TA => ?_
 refine W.seq (W.region ?_)
 refine RW.v ?_
 refine RW.cl ?_
 refine WC.enter (fn := Tryd.f55) Tryd.func55 rfl ?_
 refine W.rg [(0, .slice (some ⟨mb, 0, none⟩) 2 2)] fun TA => ?_
 refine W.seq (W.region ?_)
 refine RW.v ?_
 refine RW.nil ?_
 refine W.rg [(0, .slice (some ⟨mb, 0, none⟩) 2 2)] fun TA => ?_
 refine W.seq ?_
 refine W.seq (W.region ?_)
 iterate 2 refine RW.v ?_
 refine RW.nil ?_
 refine W.c0 ?_
 refine W.skip ?_
 refine W.seq (W.region ?_)
 refine RW.mkL H (x := .row ⟨[], 28, false⟩) (fm := fun b => .slice (some ⟨b, 0, none⟩) 0 0) (by kernel_rfl) (by kernel_rfl) (by kernel_rfl) (by kernel_rfl) ?_
 clear H; intro _ b4 _ H
 refine RW.v ?_
 replace H := H.nilSl 28 2
 refine RW.appFD H 0 (n := 2) (ys := [.int .i64 2, .int .i64 0, .int .i64 2, .int .i64 1]) (e2 := 28) (SlF.some hM rfl rfl) (by kernel_rfl) (by kernel_rfl) rfl rfl rfl rfl rfl rfl rfl (.inr ⟨by decide, rfl, _, _, _, rfl, H.get 1 rfl⟩) (by kernel_rfl) (by kernel_rfl) (by kernel_rfl) (by decide) (by kernel_rfl) (by omega) (by kernel_rfl) ?_
 clear H; intro _ v5 H
 replace H : Lies G65 (heapAbs h (hmP [(((1, 66) : Wd), ((2, 3) : Wd)), (((1, 66) : Wd), ((2, 6) : Wd)), (((0, a) : Wd), ((1, xn) : Wd)), (((2, 2) : Wd), ((1, 0) : Wd)), (((1, 66) : Wd), ((2, 10) : Wd)), (((1, 65) : Wd), ((2, 4) : Wd)), (((2, 5) : Wd), ((1, 0) : Wd)), (((1, xn) : Wd), ((1, yn) : Wd)), (((2, 7) : Wd), ((1, 0) : Wd)), (((1, yn) : Wd), ((1, zn) : Wd)), (((2, 9) : Wd), ((2, 8) : Wd))])) F _ [.sl 28 2 v5 2 [.int .i64 2, .int .i64 0, .int .i64 2, .int .i64 1], .at_ b4 (.row ⟨[], 28, false⟩), .at_ b3 (.row ⟨[.pointer (some ⟨h, 0, none⟩), .pointer (some ⟨T, 0, none⟩), .int .i64 1, .int .i64 66], 65, false⟩), .at_ b2 (.row ⟨[.pointer (some ⟨h, 0, none⟩), .pointer (some ⟨T, 0, none⟩), .int .i64 1, .int .i64 66], 65, false⟩), .at_ b1 (.row ⟨[.int .i64 0, .int .i64 0], 28, false⟩)] := H
 refine RW.v ?_
 refine RW.nil ?_
 replace H := (H.del 1)
 dsimp only [setL, delL] at H
 refine W.ret ?_
 refine endG (by rfl) (by exact resL_tmp rfl) ?_
 refine RW.val (v := .func (.func 68) #[] #[.pointer (some ⟨b3, 0, none⟩)]) (by kernel_rfl) (by kernel_rfl) (by kernel_rfl) (by kernel_rfl) ?_
 refine RW.cl ?_
 refine WC.enter (fn := Tryd.f67) Tryd.func67 rfl ?_
 refine W.rg [(0, v5), (1, .func (.func 68) #[] #[pp b3])] fun TA => ?_
 refine W.seq (W.region ?_)
 refine RW.v ?_
 refine RW.nil ?_
 refine W.rg [(0, v5), (1, .func (.func 68) #[] #[pp b3])] fun TA => ?_
 refine W.seq (W.region ?_)
 iterate 2 refine RW.v ?_
 refine RW.cl ?_
 refine WC.enter (fn := Tryd.f81) Tryd.func81 rfl ?_
 refine W.rg [(0, v5), (1, .func (.func 68) #[] #[pp b3])] fun TA => ?_
 refine W.seq (W.region ?_)
 refine RW.v ?_
 refine RW.nil ?_
 refine W.rg [(0, v5), (1, .func (.func 68) #[] #[pp b3])] fun TA => ?_
 refine W.seq ?_
 refine W.seq (W.region ?_)
 refine RW.v ?_
 refine RW.len (by kernel_rfl) (by kernel_rfl) rfl rfl rfl rfl ((H.sl 0 rfl).len (by kernel_rfl)) (by kernel_rfl) ?_
 refine RW.v ?_
 refine RW.nil ?_
 refine W.rg [(0, v5), (1, .func (.func 68) #[] #[pp b3]), (7, .int .i64 2), (8, .int .i64 0)] fun TA => ?_
 refine W.block ?_
 refine W.unroll (WL.once ?_)
 refine W.seq (W.region ?_)
 refine RW.v ?_
 refine RW.nil ?_
 refine W.rg [(0, v5), (1, .func (.func 68) #[] #[pp b3]), (7, .int .i64 2), (8, .int .i64 0), (9, .bool true)] fun TA => ?_
 refine W.seq ?_
 refine W.c1 ?_
 refine W.skip ?_
 refine W.seq ?_
 refine W.block ?_
 refine W.seq (W.region ?_)
 iterate 2 refine RW.v ?_
 refine RW.nil ?_
 refine W.rg [(0, v5), (1, .func (.func 68) #[] #[pp b3]), (5, .int .i64 0), (7, .int .i64 2), (8, .int .i64 0)] fun TA => ?_
 refine W.seq (W.region ?_)
 iterate 3 refine RW.v ?_
 refine RW.idxG H 0 rfl (by kernel_rfl) (by kernel_rfl) rfl Tryd.underlying35 (by kernel_rfl) rfl rfl ⟨by decide, by decide⟩ (by kernel_rfl) ?_
 intro b6 q7 r8 hF9 hE10
 replace hE10 : (r8.cs.drop q7).take 2 = [.int .i64 2, .int .i64 0] := hE10.trans (by kernel_rfl)
 refine RW.loads 2 (by kernel_rfl) (by kernel_rfl) rfl rfl (hF9) hE10 rfl (by kernel_rfl) ?_
 refine RW.cl ?_
 refine WC.enter (fn := Tryd.f68) Tryd.func68 rfl ?_
 refine W.rg [(0, .agg #[.int .i64 2, .int .i64 0]), (1, pp b3)] fun TA => ?_
 refine W.seq (W.region ?_)
 refine RW.mk H (.row ⟨[.int .i64 2, .int .i64 0], 28, false⟩) ?_
 clear H; intro _ b11 _ H
 refine RW.v ?_
 refine RW.nil ?_
 refine W.rg [(1, pp b3), (2, pp b11)] fun TA => ?_
 refine W.seq (W.region ?_)
 refine RW.ld H 2 4 ?_
 refine RW.ld H 0 2 ?_
 refine RW.cl ?_
 refine ((isMap_y (h := h) (T := T) (w := (2, 0)) (d := ((2, 3) : Wd)) rfl H).mono ?_)
 clear H
 rintro _ _ ⟨rfl, H⟩
 iterate 2 refine RW.v ?_
 refine RW.nil ?_
 replace H := (H.del 0)
 dsimp only [setL, delL] at H
 refine W.ret ?_
 refine endG (by rfl) (by exact resL_tmp rfl) ?_
 refine RW.nil ?_
 refine W.c0 ?_
 refine W.skip ?_
 refine blkQ_normal ?_
 refine W.region ?_
 iterate 2 refine RW.v ?_
 refine RW.nil ?_
 refine WL.once ?_
 refine W.rg [(0, v5), (1, .func (.func 68) #[] #[pp b3]), (7, .int .i64 2), (8, .int .i64 1)] fun TA => ?_
 refine W.seq (W.region ?_)
 refine RW.v ?_
 refine RW.nil ?_
 refine W.rg [(0, v5), (1, .func (.func 68) #[] #[pp b3]), (7, .int .i64 2), (8, .int .i64 1), (9, .bool true)] fun TA => ?_
 refine W.seq ?_
 refine W.c1 ?_
 refine W.skip ?_
 refine W.seq ?_
 refine W.block ?_
 refine W.seq (W.region ?_)
 iterate 2 refine RW.v ?_
 refine RW.nil ?_
 refine W.rg [(0, v5), (1, .func (.func 68) #[] #[pp b3]), (5, .int .i64 1), (7, .int .i64 2), (8, .int .i64 1)] fun TA => ?_
 refine W.seq (W.region ?_)
 iterate 3 refine RW.v ?_
 refine RW.idxG H 0 rfl (by kernel_rfl) (by kernel_rfl) rfl Tryd.underlying35 (by kernel_rfl) rfl rfl ⟨by decide, by decide⟩ (by kernel_rfl) ?_
 intro b12 q13 r14 hF15 hE16
 replace hE16 : (r14.cs.drop q13).take 2 = [.int .i64 2, .int .i64 1] := hE16.trans (by kernel_rfl)
 refine RW.loads 2 (by kernel_rfl) (by kernel_rfl) rfl rfl (hF15) hE16 rfl (by kernel_rfl) ?_
 refine RW.cl ?_
 refine WC.enter (fn := Tryd.f68) Tryd.func68 rfl ?_
 refine W.rg [(0, .agg #[.int .i64 2, .int .i64 1]), (1, pp b3)] fun TA => ?_
 refine W.seq (W.region ?_)
 refine RW.mk H (.row ⟨[.int .i64 2, .int .i64 1], 28, false⟩) ?_
 clear H; intro _ b17 _ H
 refine RW.v ?_
 refine RW.nil ?_
 refine W.rg [(1, pp b3), (2, pp b17)] fun TA => ?_
 refine W.seq (W.region ?_)
 refine RW.ld H 2 4 ?_
 refine RW.ld H 0 2 ?_
 refine RW.cl ?_
 refine ((isMap_y (h := h) (T := T) (w := (2, 1)) (d := ((2, 6) : Wd)) rfl H).mono ?_)
 clear H
 rintro _ _ ⟨rfl, H⟩
 iterate 2 refine RW.v ?_
 refine RW.nil ?_
 replace H := (H.del 0)
 dsimp only [setL, delL] at H
 refine W.ret ?_
 refine endG (by rfl) (by exact resL_tmp rfl) ?_
 refine RW.nil ?_
 refine W.c0 ?_
 refine W.skip ?_
 refine blkQ_normal ?_
 refine W.region ?_
 iterate 2 refine RW.v ?_
 refine RW.nil ?_
 refine WL.once ?_
 refine W.rg [(0, v5), (1, .func (.func 68) #[] #[pp b3]), (7, .int .i64 2), (8, .int .i64 2)] fun TA => ?_
 refine W.seq (W.region ?_)
 refine RW.v ?_
 refine RW.nil ?_
 refine W.rg [(0, v5), (1, .func (.func 68) #[] #[pp b3]), (7, .int .i64 2), (8, .int .i64 2), (9, .bool false)] fun TA => ?_
 refine W.seq ?_
 refine W.c0 ?_
 refine W.exit _ ?_
 refine seqQ_exit ?_
 refine onceQ_exit ?_
 refine blkQ_here ?_
 refine W.seq (W.region ?_)
 refine RW.v ?_
 refine RW.nil ?_
 refine W.ret ?_
 refine endG (by rfl) (by exact resL_tmp rfl) ?_
 refine RW.v ?_
 refine RW.nil ?_
 refine W.rg [(0, v5), (1, .func (.func 68) #[] #[pp b3]), (5, .int .i64 (-1))] fun TA => ?_
 refine W.seq ?_
 refine W.seq (W.region ?_)
 iterate 2 refine RW.v ?_
 refine RW.nil ?_
 refine W.c1 ?_
 refine W.seq (W.region ?_)
 iterate 2 refine RW.v ?_
 refine RW.nil ?_
 refine W.ret ?_
 refine seqQ_ret ?_
 refine endG (by rfl) (by exact resL_tmp rfl) ?_
 refine RW.v ?_
 refine RW.nil ?_
 replace H := (H.del 1)
 dsimp only [setL, delL] at H
 refine W.ret ?_
 refine endG (by rfl) (by exact resL_tmp rfl) ?_
 refine RW.v ?_
 refine RW.nil ?_
 refine W.rg [(1, pp T), (2, v5), (3, .slice (some ⟨eb, 0, none⟩) 2 2), (8, pp b1), (11, pp b2)] fun TA => ?_
 refine W.seq ?_
 refine W.seq (W.region ?_)
 refine RW.v ?_
 refine RW.len (by kernel_rfl) (by kernel_rfl) rfl rfl rfl rfl ((H.sl 0 rfl).len (by kernel_rfl)) (by kernel_rfl) ?_
 refine RW.v ?_
 refine RW.nil ?_
 refine W.c0 ?_
 refine W.skip ?_
 refine W.seq (W.region ?_)
 refine RW.ld H 1 4 ?_
 iterate 2 refine RW.v ?_
 refine RW.cl ?_
 refine WC.enter (fn := Tryd.f44) Tryd.func44 rfl ?_
 refine W.rg [(0, .agg #[pp h, pp T, .int .i64 1, .int .i64 66]), (1, v5), (2, .slice (some ⟨eb, 0, none⟩) 2 2)] fun TA => ?_
 refine W.seq (W.region ?_)
 refine RW.mk H (.row ⟨[pt h, pt T, .int .i64 1, .int .i64 66], 65, false⟩) ?_
 clear H; intro _ b18 _ H
 refine RW.mk H (.row ⟨[.int .i64 0, .int .i64 0], 28, false⟩) ?_
 clear H; intro _ b19 _ H
 iterate 2 refine RW.v ?_
 refine RW.nil ?_
 refine W.rg [(1, v5), (2, .slice (some ⟨eb, 0, none⟩) 2 2), (3, pp b18), (6, pp b19)] fun TA => ?_
 refine W.seq ?_
 refine W.seq (W.region ?_)
 iterate 3 refine RW.v ?_
 refine RW.nil ?_
 refine W.rg [(1, v5), (2, .slice (some ⟨eb, 0, none⟩) 2 2), (3, pp b18), (6, pp b19), (13, .slice (some ⟨eb, 0, none⟩) 2 2), (14, .int .i64 2), (15, .int .i64 0)] fun TA => ?_
 refine W.block ?_
 refine W.unroll (WL.once ?_)
 refine W.seq (W.region ?_)
 refine RW.v ?_
 refine RW.nil ?_
 refine W.rg [(1, v5), (2, .slice (some ⟨eb, 0, none⟩) 2 2), (3, pp b18), (6, pp b19), (13, .slice (some ⟨eb, 0, none⟩) 2 2), (14, .int .i64 2), (15, .int .i64 0), (16, .bool true)] fun TA => ?_
 refine W.seq ?_
 refine W.c1 ?_
 refine W.skip ?_
 refine W.seq ?_
 refine W.block ?_
 refine W.seq (W.region ?_)
 refine RW.v ?_
 refine RW.idx (s := 2) (by kernel_rfl) (by kernel_rfl) rfl Tryd.underlying35 (by kernel_rfl) rfl rfl ⟨by decide, by decide⟩ (by kernel_rfl) ?_
 refine RW.loads 2 (by kernel_rfl) (by kernel_rfl) rfl rfl (H.old _ _ hE) rfl rfl (by kernel_rfl) ?_
 refine RW.mk H (.row ⟨[.int .i64 0, .int .i64 0], 28, false⟩) ?_
 clear H; intro _ b20 _ H
 refine RW.v ?_
 refine RW.st H 0 [.int .i64 0, .int .i64 e] [.int .i64 0, .int .i64 e] ?_
 clear H; intro _ _ H; dsimp only [setL, delL] at H
 refine RW.nil ?_
 refine W.rg [(1, v5), (2, .slice (some ⟨eb, 0, none⟩) 2 2), (3, pp b18), (6, pp b19), (9, .int .i64 0), (10, pp b20), (13, .slice (some ⟨eb, 0, none⟩) 2 2), (14, .int .i64 2), (15, .int .i64 0)] fun TA => ?_
 refine W.seq (W.region ?_)
 refine RW.ld H 2 4 ?_
 refine RW.v ?_
 refine RW.ld H 0 2 ?_
 refine RW.cl ?_
 refine WC.enter (fn := Tryd.f56) Tryd.func56 rfl ?_
 refine W.rg [(0, .agg #[pp h, pp T, .int .i64 1, .int .i64 66]), (1, v5), (2, .agg #[.int .i64 0, .int .i64 e])] fun TA => ?_
 refine W.seq (W.region ?_)
 refine RW.mk H (.row ⟨[pt h, pt T, .int .i64 1, .int .i64 66], 65, false⟩) ?_
 clear H; intro _ b21 _ H
 refine RW.mk H (.row ⟨[.int .i64 0, .int .i64 e], 28, false⟩) ?_
 clear H; intro _ b22 _ H
 refine RW.mk H (.row ⟨[.int .i64 0, .int .i64 0], 28, false⟩) ?_
 clear H; intro _ b23 _ H
 refine RW.v ?_
 refine RW.nil ?_
 refine W.rg [(1, v5), (3, pp b21), (5, pp b22), (6, pp b23)] fun TA => ?_
 refine W.seq (W.region ?_)
 refine RW.cl ?_
 refine WC.enter (fn := Tryd.f33) Tryd.func33 rfl ?_
 refine W.rg [] fun TA => ?_
 refine W.seq (W.region ?_)
 refine RW.mk H (.row ⟨[.int .i64 0, .int .i64 0], 28, false⟩) ?_
 clear H; intro _ b24 _ H
 refine RW.nil ?_
 refine W.rg [(0, pp b24)] fun TA => ?_
 refine W.seq (W.region ?_)
 refine RW.cl ?_
 refine WC.enter (fn := Tryd.f32) Tryd.func32 rfl ?_
 refine W.rg [(0, .int .i64 0)] fun TA => ?_
 refine W.seq (W.region ?_)
 refine RW.mk H (.row ⟨[.int .i64 0, .int .i64 0], 28, false⟩) ?_
 clear H; intro _ b25 _ H
 refine RW.nil ?_
 refine W.rg [(0, .int .i64 0), (2, pp b25)] fun TA => ?_
 refine W.seq (W.region ?_)
 refine RW.v ?_
 refine RW.val (v := .agg #[.int .i64 1, .int .i64 0]) (by kernel_rfl) (by kernel_rfl) (by kernel_rfl) (by kernel_rfl) ?_
 refine RW.st H 0 [.int .i64 1, .int .i64 0] [.int .i64 1, .int .i64 0] ?_
 clear H; intro _ _ H; dsimp only [setL, delL] at H
 refine RW.nil ?_
 refine W.ret ?_
 refine endG (by rfl) (by exact resL_cell rfl (H.get 0 rfl) (by rw [uT_eq]; exact Tryd.underlying28) (by kernel_rfl) rfl rfl rfl) ?_
 refine RW.st H 1 [.int .i64 1, .int .i64 0] [.int .i64 1, .int .i64 0] ?_
 clear H; intro _ _ H; dsimp only [setL, delL] at H
 refine RW.nil ?_
 replace H := (H.del 0)
 dsimp only [setL, delL] at H
 refine W.ret ?_
 refine endG (by rfl) (by exact resL_cell rfl (H.get 0 rfl) (by rw [uT_eq]; exact Tryd.underlying28) (by kernel_rfl) rfl rfl rfl) ?_
 refine RW.mk H (.row ⟨[.int .i64 0, .int .i64 0], 28, false⟩) ?_
 clear H; intro _ b26 _ H
 refine RW.st H 0 [.int .i64 1, .int .i64 0] [.int .i64 1, .int .i64 0] ?_
 clear H; intro _ _ H; dsimp only [setL, delL] at H
 refine RW.nil ?_
 replace H := (H.del 1)
 dsimp only [setL, delL] at H
 refine W.rg [(1, v5), (3, pp b21), (5, pp b22), (6, pp b23), (8, pp b26)] fun TA => ?_
 refine W.seq (W.region ?_)
 refine RW.v ?_
 refine RW.nil ?_
 refine W.rg [(1, v5), (3, pp b21), (5, pp b22), (6, pp b23), (8, pp b26), (9, .slice none 0 0)] fun TA => ?_
 refine W.seq ?_
 refine W.seq (W.region ?_)
 refine RW.v ?_
 refine RW.len (by kernel_rfl) (by kernel_rfl) rfl rfl rfl rfl ((H.sl 7 rfl).len (by kernel_rfl)) (by kernel_rfl) ?_
 refine RW.v ?_
 refine RW.nil ?_
 refine W.rg [(3, pp b21), (5, pp b22), (6, pp b23), (8, pp b26), (9, .slice none 0 0), (16, v5), (17, .int .i64 2), (18, .int .i64 0)] fun TA => ?_
 refine W.block ?_
 refine W.unroll (WL.once ?_)
 refine W.seq (W.region ?_)
 refine RW.v ?_
 refine RW.nil ?_
 refine W.rg [(3, pp b21), (5, pp b22), (6, pp b23), (8, pp b26), (9, .slice none 0 0), (16, v5), (17, .int .i64 2), (18, .int .i64 0), (19, .bool true)] fun TA => ?_
 refine W.seq ?_
 refine W.c1 ?_
 refine W.skip ?_
 refine W.seq ?_
 refine W.block ?_
 refine W.seq (W.region ?_)
 refine RW.idxG H 7 rfl (by kernel_rfl) (by kernel_rfl) rfl Tryd.underlying35 (by kernel_rfl) rfl rfl ⟨by decide, by decide⟩ (by kernel_rfl) ?_
 intro b27 q28 r29 hF30 hE31
 replace hE31 : (r29.cs.drop q28).take 2 = [.int .i64 2, .int .i64 0] := hE31.trans (by kernel_rfl)
 refine RW.loads 2 (by kernel_rfl) (by kernel_rfl) rfl rfl (hF30) hE31 rfl (by kernel_rfl) ?_
 refine RW.mk H (.row ⟨[.int .i64 0, .int .i64 0], 28, false⟩) ?_
 clear H; intro _ b32 _ H
 refine RW.st H 0 [.int .i64 2, .int .i64 0] [.int .i64 2, .int .i64 0] ?_
 clear H; intro _ _ H; dsimp only [setL, delL] at H
 refine RW.nil ?_
 refine W.rg [(3, pp b21), (5, pp b22), (6, pp b23), (8, pp b26), (9, .slice none 0 0), (11, pp b32), (16, v5), (17, .int .i64 2), (18, .int .i64 0)] fun TA => ?_
 refine W.seq (W.region ?_)
 refine RW.ld H 4 4 ?_
 refine RW.ld H 0 2 ?_
 refine RW.ld H 3 2 ?_
 refine RW.cl ?_
 refine ((bound_wc (h := h) (T := T) (ev := ((0, e) : Wd)) mp5 (Nat.le_of_ble_eq_true rfl) (fun j hj => by match j, hj with | 0, _ => (simp <;> omega) | j + 1, hj => exact absurd hj (by simp)) H.gn H.abs).mono ?_)
 rintro _ _ ⟨e, K⟩
 replace H := H.then K
 clear K
 dsimp only [List.nil_append, List.cons_append] at H
 replace e := e.trans (congrArg wdV (show _ = ((1, 0) : Wd) from ((boundP_no (by simp [pB] <;> omega)).trans boundP_nil)))
 subst e
 refine RW.mk H (.row ⟨[.int .i64 0, .int .i64 0], 28, false⟩) ?_
 clear H; intro _ b33 _ H
 refine RW.st H 0 [.int .i64 1, .int .i64 0] [.int .i64 1, .int .i64 0] ?_
 clear H; intro _ _ H; dsimp only [setL, delL] at H
 refine RW.nil ?_
 replace H := (H.del 1)
 dsimp only [setL, delL] at H
 refine W.rg [(3, pp b21), (5, pp b22), (6, pp b23), (8, pp b26), (9, .slice none 0 0), (12, pp b33), (16, v5), (17, .int .i64 2), (18, .int .i64 0)] fun TA => ?_
 refine W.seq ?_
 refine W.seq ?_
 refine W.drawn (by kernel_rfl) (by kernel_rfl) H.gn ?_
 have H34 := H
 refine RW.ld H34 0 2 ?_
 refine RW.cl ?_
 refine WC.enter (fn := Tryd.f33) Tryd.func33 rfl ?_
 replace H := H34
 refine W.rg [] fun TA => ?_
 refine W.seq (W.region ?_)
 refine RW.mk H (.row ⟨[.int .i64 0, .int .i64 0], 28, false⟩) ?_
 clear H; intro _ b35 _ H
 refine RW.nil ?_
 refine W.rg [(0, pp b35)] fun TA => ?_
 refine W.seq (W.region ?_)
 refine RW.cl ?_
 refine WC.enter (fn := Tryd.f32) Tryd.func32 rfl ?_
 refine W.rg [(0, .int .i64 0)] fun TA => ?_
 refine W.seq (W.region ?_)
 refine RW.mk H (.row ⟨[.int .i64 0, .int .i64 0], 28, false⟩) ?_
 clear H; intro _ b36 _ H
 refine RW.nil ?_
 refine W.rg [(0, .int .i64 0), (2, pp b36)] fun TA => ?_
 refine W.seq (W.region ?_)
 refine RW.v ?_
 refine RW.val (v := .agg #[.int .i64 1, .int .i64 0]) (by kernel_rfl) (by kernel_rfl) (by kernel_rfl) (by kernel_rfl) ?_
 refine RW.st H 0 [.int .i64 1, .int .i64 0] [.int .i64 1, .int .i64 0] ?_
 clear H; intro _ _ H; dsimp only [setL, delL] at H
 refine RW.nil ?_
 refine W.ret ?_
 refine endG (by rfl) (by exact resL_cell rfl (H.get 0 rfl) (by rw [uT_eq]; exact Tryd.underlying28) (by kernel_rfl) rfl rfl rfl) ?_
 refine RW.st H 1 [.int .i64 1, .int .i64 0] [.int .i64 1, .int .i64 0] ?_
 clear H; intro _ _ H; dsimp only [setL, delL] at H
 refine RW.nil ?_
 replace H := (H.del 0)
 dsimp only [setL, delL] at H
 refine W.ret ?_
 refine endG (by rfl) (by exact resL_cell rfl (H.get 0 rfl) (by rw [uT_eq]; exact Tryd.underlying28) (by kernel_rfl) rfl rfl rfl) ?_
 have H37 := H
 refine RW.vop (v := .bool true) (by kernel_rfl) (by kernel_rfl) (vop_eqS (b := true) (r := true) rfl (.inl ⟨rfl, rfl⟩) rfl rfl rfl rfl (by kernel_rfl) (fun w => (eqWd _ _ _ _ w).trans (by simp))) (by kernel_rfl) ?_
 refine RW.nil ?_
 refine ⟨⟨by kernel_rfl, ⟨dyn_row (H34.get 0 rfl) (H37.get 1 rfl) ⟨fun h => Bool.noConfusion h, fun _ => H34.get 0 rfl, fun h => Bool.noConfusion h, trivial⟩, trivial, trivial, trivial⟩⟩, ?_⟩
 replace H := H37
 clear H34 H37
 replace H := (H.del 0)
 dsimp only [setL, delL] at H
 refine W.c1 ?_
 refine W.exit _ ?_
 refine seqQ_exit ?_
 refine blkQ_here ?_
 refine W.region ?_
 iterate 2 refine RW.v ?_
 refine RW.nil ?_
 replace H := (H.del 0)
 dsimp only [setL, delL] at H
 refine WL.once ?_
 refine W.rg [(3, pp b21), (5, pp b22), (6, pp b23), (8, pp b26), (9, .slice none 0 0), (16, v5), (17, .int .i64 2), (18, .int .i64 1)] fun TA => ?_
 refine W.seq (W.region ?_)
 refine RW.v ?_
 refine RW.nil ?_
 refine W.rg [(3, pp b21), (5, pp b22), (6, pp b23), (8, pp b26), (9, .slice none 0 0), (16, v5), (17, .int .i64 2), (18, .int .i64 1), (19, .bool true)] fun TA => ?_
 refine W.seq ?_
 refine W.c1 ?_
 refine W.skip ?_
 refine W.seq ?_
 refine W.block ?_
 refine W.seq (W.region ?_)
 refine RW.idxG H 7 rfl (by kernel_rfl) (by kernel_rfl) rfl Tryd.underlying35 (by kernel_rfl) rfl rfl ⟨by decide, by decide⟩ (by kernel_rfl) ?_
 intro b38 q39 r40 hF41 hE42
 replace hE42 : (r40.cs.drop q39).take 2 = [.int .i64 2, .int .i64 1] := hE42.trans (by kernel_rfl)
 refine RW.loads 2 (by kernel_rfl) (by kernel_rfl) rfl rfl (hF41) hE42 rfl (by kernel_rfl) ?_
 refine RW.mk H (.row ⟨[.int .i64 0, .int .i64 0], 28, false⟩) ?_
 clear H; intro _ b43 _ H
 refine RW.st H 0 [.int .i64 2, .int .i64 1] [.int .i64 2, .int .i64 1] ?_
 clear H; intro _ _ H; dsimp only [setL, delL] at H
 refine RW.nil ?_
 refine W.rg [(3, pp b21), (5, pp b22), (6, pp b23), (8, pp b26), (9, .slice none 0 0), (11, pp b43), (16, v5), (17, .int .i64 2), (18, .int .i64 1)] fun TA => ?_
 refine W.seq (W.region ?_)
 refine RW.ld H 4 4 ?_
 refine RW.ld H 0 2 ?_
 refine RW.ld H 3 2 ?_
 refine RW.cl ?_
 refine ((bound_wc (h := h) (T := T) (ev := ((0, e) : Wd)) mp6 (Nat.le_of_ble_eq_true rfl) (fun j hj => by match j, hj with | 0, _ => (simp <;> omega) | j + 1, hj => exact absurd hj (by simp)) H.gn H.abs).mono ?_)
 rintro _ _ ⟨e, K⟩
 replace H := H.then K
 clear K
 dsimp only [List.nil_append, List.cons_append] at H
 replace e := e.trans (congrArg wdV (show _ = ((1, 0) : Wd) from ((boundP_no (by simp [pB] <;> omega)).trans boundP_nil)))
 subst e
 refine RW.mk H (.row ⟨[.int .i64 0, .int .i64 0], 28, false⟩) ?_
 clear H; intro _ b44 _ H
 refine RW.st H 0 [.int .i64 1, .int .i64 0] [.int .i64 1, .int .i64 0] ?_
 clear H; intro _ _ H; dsimp only [setL, delL] at H
 refine RW.nil ?_
 replace H := (H.del 1)
 dsimp only [setL, delL] at H
 refine W.rg [(3, pp b21), (5, pp b22), (6, pp b23), (8, pp b26), (9, .slice none 0 0), (12, pp b44), (16, v5), (17, .int .i64 2), (18, .int .i64 1)] fun TA => ?_
 refine W.seq ?_
 refine W.seq ?_
 refine W.drawn (by kernel_rfl) (by kernel_rfl) H.gn ?_
 have H45 := H
 refine RW.ld H45 0 2 ?_
 refine RW.cl ?_
 refine WC.enter (fn := Tryd.f33) Tryd.func33 rfl ?_
 replace H := H45
 refine W.rg [] fun TA => ?_
 refine W.seq (W.region ?_)
 refine RW.mk H (.row ⟨[.int .i64 0, .int .i64 0], 28, false⟩) ?_
 clear H; intro _ b46 _ H
 refine RW.nil ?_
 refine W.rg [(0, pp b46)] fun TA => ?_
 refine W.seq (W.region ?_)
 refine RW.cl ?_
 refine WC.enter (fn := Tryd.f32) Tryd.func32 rfl ?_
 refine W.rg [(0, .int .i64 0)] fun TA => ?_
 refine W.seq (W.region ?_)
 refine RW.mk H (.row ⟨[.int .i64 0, .int .i64 0], 28, false⟩) ?_
 clear H; intro _ b47 _ H
 refine RW.nil ?_
 refine W.rg [(0, .int .i64 0), (2, pp b47)] fun TA => ?_
 refine W.seq (W.region ?_)
 refine RW.v ?_
 refine RW.val (v := .agg #[.int .i64 1, .int .i64 0]) (by kernel_rfl) (by kernel_rfl) (by kernel_rfl) (by kernel_rfl) ?_
 refine RW.st H 0 [.int .i64 1, .int .i64 0] [.int .i64 1, .int .i64 0] ?_
 clear H; intro _ _ H; dsimp only [setL, delL] at H
 refine RW.nil ?_
 refine W.ret ?_
 refine endG (by rfl) (by exact resL_cell rfl (H.get 0 rfl) (by rw [uT_eq]; exact Tryd.underlying28) (by kernel_rfl) rfl rfl rfl) ?_
 refine RW.st H 1 [.int .i64 1, .int .i64 0] [.int .i64 1, .int .i64 0] ?_
 clear H; intro _ _ H; dsimp only [setL, delL] at H
 refine RW.nil ?_
 replace H := (H.del 0)
 dsimp only [setL, delL] at H
 refine W.ret ?_
 refine endG (by rfl) (by exact resL_cell rfl (H.get 0 rfl) (by rw [uT_eq]; exact Tryd.underlying28) (by kernel_rfl) rfl rfl rfl) ?_
 have H48 := H
 refine RW.vop (v := .bool true) (by kernel_rfl) (by kernel_rfl) (vop_eqS (b := true) (r := true) rfl (.inl ⟨rfl, rfl⟩) rfl rfl rfl rfl (by kernel_rfl) (fun w => (eqWd _ _ _ _ w).trans (by simp))) (by kernel_rfl) ?_
 refine RW.nil ?_
 refine ⟨⟨by kernel_rfl, ⟨dyn_row (H45.get 0 rfl) (H48.get 1 rfl) ⟨fun h => Bool.noConfusion h, fun _ => H45.get 0 rfl, fun h => Bool.noConfusion h, trivial⟩, trivial, trivial, trivial⟩⟩, ?_⟩
 replace H := H48
 clear H45 H48
 replace H := (H.del 0)
 dsimp only [setL, delL] at H
 refine W.c1 ?_
 refine W.exit _ ?_
 refine seqQ_exit ?_
 refine blkQ_here ?_
 refine W.region ?_
 iterate 2 refine RW.v ?_
 refine RW.nil ?_
 replace H := (H.del 0)
 dsimp only [setL, delL] at H
 refine WL.once ?_
 refine W.rg [(3, pp b21), (5, pp b22), (6, pp b23), (8, pp b26), (9, .slice none 0 0), (16, v5), (17, .int .i64 2), (18, .int .i64 2)] fun TA => ?_
 refine W.seq (W.region ?_)
 refine RW.v ?_
 refine RW.nil ?_
 refine W.rg [(3, pp b21), (5, pp b22), (6, pp b23), (8, pp b26), (9, .slice none 0 0), (16, v5), (17, .int .i64 2), (18, .int .i64 2), (19, .bool false)] fun TA => ?_
 refine W.seq ?_
 refine W.c0 ?_
 refine W.exit _ ?_
 refine seqQ_exit ?_
 refine onceQ_exit ?_
 refine blkQ_here ?_
 refine W.seq (W.region ?_)
 refine RW.ld H 0 2 ?_
 refine RW.v ?_
 refine RW.st H 1 [.int .i64 1, .int .i64 0] [.int .i64 1, .int .i64 0] ?_
 clear H; intro _ _ H; dsimp only [setL, delL] at H
 refine RW.v ?_
 refine RW.nil ?_
 replace H := (((H.del 3).del 2).del 0)
 dsimp only [setL, delL] at H
 refine W.ret ?_
 refine endG (by rfl) (by exact resL_cell rfl (H.get 0 rfl) (by rw [uT_eq]; exact Tryd.underlying28) (by kernel_rfl) rfl rfl (by exact resL_tmp rfl)) ?_
 iterate 3 refine RW.v ?_
 refine RW.mk H (.row ⟨[.int .i64 0, .int .i64 0], 28, false⟩) ?_
 clear H; intro _ b49 _ H
 refine RW.st H 0 [.int .i64 1, .int .i64 0] [.int .i64 1, .int .i64 0] ?_
 clear H; intro _ _ H; dsimp only [setL, delL] at H
 refine RW.v ?_
 refine RW.nil ?_
 replace H := ((H.del 2).del 1)
 dsimp only [setL, delL] at H
 refine W.rg [(2, .slice (some ⟨eb, 0, none⟩) 2 2), (3, pp b18), (6, pp b19), (9, .int .i64 0), (11, pp b49), (12, .slice none 0 0), (13, .slice (some ⟨eb, 0, none⟩) 2 2), (14, .int .i64 2), (15, .int .i64 0)] fun TA => ?_
 refine W.seq ?_
 refine W.seq (W.region ?_)
 iterate 3 refine RW.v ?_
 refine RW.nil ?_
 refine W.c1 ?_
 refine W.seq (W.region ?_)
 refine RW.ld H 0 2 ?_
 iterate 2 refine RW.v ?_
 refine RW.st H 1 [.int .i64 1, .int .i64 0] [.int .i64 1, .int .i64 0] ?_
 clear H; intro _ _ H; dsimp only [setL, delL] at H
 iterate 2 refine RW.v ?_
 refine RW.nil ?_
 replace H := ((H.del 2).del 0)
 dsimp only [setL, delL] at H
 refine W.ret ?_
 refine seqQ_ret ?_
 refine blkQ_ret ?_
 refine seqQ_ret ?_
 refine onceQ_ret ?_
 refine blkQ_ret ?_
 refine seqQ_ret ?_
 refine endG (by rfl) (by exact resL_cell rfl (H.get 0 rfl) (by rw [uT_eq]; exact Tryd.underlying28) (by kernel_rfl) rfl rfl (by exact resL_tmp (by exact resL_tmp rfl))) ?_
 iterate 4 refine RW.v ?_
 refine RW.mk H (.row ⟨[.int .i64 0, .int .i64 0], 28, false⟩) ?_
 clear H; intro _ b50 _ H
 refine RW.st H 0 [.int .i64 1, .int .i64 0] [.int .i64 1, .int .i64 0] ?_
 clear H; intro _ _ H; dsimp only [setL, delL] at H
 iterate 2 refine RW.v ?_
 refine RW.nil ?_
 replace H := (H.del 1)
 dsimp only [setL, delL] at H
 refine W.rg [(1, pp T), (2, v5), (8, pp b1), (9, .int .i64 1), (10, .bool false), (11, pp b2), (13, pp b50)] fun TA => ?_
 refine W.seq (W.region ?_)
 refine RW.v ?_
 refine RW.cl ?_
 refine ((find65_wc H.gn H.abs (hT.le H.old)).mono ?_)
 rintro _ _ ⟨rfl, K⟩
 replace H := H.then K
 clear K
 dsimp only [List.nil_append, List.cons_append] at H
 iterate 5 refine RW.v ?_
 refine RW.nil ?_
 refine W.rg [(2, v5), (8, pp b1), (9, .int .i64 1), (10, .bool false), (11, pp b2), (13, pp b50), (14, .int .i64 65), (15, .bool true)] fun TA => ?_
 refine W.seq ?_
 refine W.seq ?_
 refine W.drawn (by kernel_rfl) (by kernel_rfl) H.gn ?_
 have H51 := H
 iterate 2 refine RW.v ?_
 refine RW.val (by rfl) (by kernel_rfl) rfl (by kernel_rfl) ?_
 refine RW.ldL H51 0 1 (by rfl) (by kernel_rfl) rfl rfl rfl rfl rfl (by kernel_rfl) ?_
 refine RW.val (by rfl) (by kernel_rfl) rfl (by kernel_rfl) ?_
 iterate 2 refine RW.v ?_
 refine RW.ldL H51 0 2 (by rfl) (by kernel_rfl) rfl rfl rfl rfl rfl (by kernel_rfl) ?_
 refine RW.cl (hw := by rfl) ?_
 refine WC.enter (fn := Tryd.f33) Tryd.func33 rfl ?_
 replace H := H51
 refine W.rg [] fun TA => ?_
 refine W.seq (W.region ?_)
 refine RW.mk H (.row ⟨[.int .i64 0, .int .i64 0], 28, false⟩) ?_
 clear H; intro _ b52 _ H
 refine RW.nil ?_
 refine W.rg [(0, pp b52)] fun TA => ?_
 refine W.seq (W.region ?_)
 refine RW.cl ?_
 refine WC.enter (fn := Tryd.f32) Tryd.func32 rfl ?_
 refine W.rg [(0, .int .i64 0)] fun TA => ?_
 refine W.seq (W.region ?_)
 refine RW.mk H (.row ⟨[.int .i64 0, .int .i64 0], 28, false⟩) ?_
 clear H; intro _ b53 _ H
 refine RW.nil ?_
 refine W.rg [(0, .int .i64 0), (2, pp b53)] fun TA => ?_
 refine W.seq (W.region ?_)
 refine RW.v ?_
 refine RW.val (v := .agg #[.int .i64 1, .int .i64 0]) (by kernel_rfl) (by kernel_rfl) (by kernel_rfl) (by kernel_rfl) ?_
 refine RW.st H 0 [.int .i64 1, .int .i64 0] [.int .i64 1, .int .i64 0] ?_
 clear H; intro _ _ H; dsimp only [setL, delL] at H
 refine RW.nil ?_
 refine W.ret ?_
 refine endG (by rfl) (by exact resL_cell rfl (H.get 0 rfl) (by rw [uT_eq]; exact Tryd.underlying28) (by kernel_rfl) rfl rfl rfl) ?_
 refine RW.st H 1 [.int .i64 1, .int .i64 0] [.int .i64 1, .int .i64 0] ?_
 clear H; intro _ _ H; dsimp only [setL, delL] at H
 refine RW.nil ?_
 replace H := (H.del 0)
 dsimp only [setL, delL] at H
 refine W.ret ?_
 refine endG (by rfl) (by exact resL_cell rfl (H.get 0 rfl) (by rw [uT_eq]; exact Tryd.underlying28) (by kernel_rfl) rfl rfl rfl) ?_
 have H54 := H
 refine RW.vop (v := .bool true) (by rfl) (by kernel_rfl) (vop_eqS (b := true) (r := true) rfl (.inl ⟨rfl, rfl⟩) rfl rfl rfl rfl (by kernel_rfl) (fun w => (eqWd _ _ _ _ w).trans (by simp))) (by kernel_rfl) ?_
 iterate 2 refine RW.v ?_
 refine RW.skip (by rfl) (by kernel_rfl) ?_
 refine RW.skip (by rfl) (by kernel_rfl) ?_
 refine RW.v ?_
 refine RW.nil ?_
 refine ⟨⟨by kernel_rfl, ⟨trivial, trivial, trivial, dyn_row (H51.get 0 rfl) (H54.get 1 rfl) ⟨fun h => Bool.noConfusion h, fun h => Bool.noConfusion h, fun h => Bool.noConfusion h, fun h => Bool.noConfusion h, fun h => Bool.noConfusion h, fun h => Bool.noConfusion h, fun h => Bool.noConfusion h, fun h => Bool.noConfusion h, fun _ => H51.get 0 rfl, fun h => Bool.noConfusion h, fun h => Bool.noConfusion h, fun h => Bool.noConfusion h, fun h => Bool.noConfusion h, fun h => Bool.noConfusion h, fun h => Bool.noConfusion h, trivial⟩, trivial, trivial, trivial, dyn_row (H51.get 0 rfl) (H54.get 1 rfl) ⟨fun h => Bool.noConfusion h, fun h => Bool.noConfusion h, fun h => Bool.noConfusion h, fun h => Bool.noConfusion h, fun h => Bool.noConfusion h, fun h => Bool.noConfusion h, fun h => Bool.noConfusion h, fun h => Bool.noConfusion h, fun _ => H51.get 0 rfl, fun h => Bool.noConfusion h, fun h => Bool.noConfusion h, fun h => Bool.noConfusion h, fun h => Bool.noConfusion h, fun h => Bool.noConfusion h, fun h => Bool.noConfusion h, trivial⟩, trivial, trivial, trivial, trivial, trivial, trivial, trivial, trivial⟩⟩, ?_⟩
 replace H := H54
 clear H51 H54
 replace H := (H.del 0)
 dsimp only [setL, delL] at H
 refine W.c1 ?_
 refine W.seq (W.region ?_)
 refine RW.ld H 0 2 ?_
 iterate 2 refine RW.v ?_
 refine RW.st H 3 [.int .i64 1, .int .i64 0] [.int .i64 1, .int .i64 0] ?_
 clear H; intro _ _ H; dsimp only [setL, delL] at H
 iterate 2 refine RW.v ?_
 refine RW.nil ?_
 replace H := (((H.del 2).del 1).del 0)
 dsimp only [setL, delL] at H
 refine W.ret ?_
 refine seqQ_ret ?_
 refine endG (by rfl) (by exact resL_cell rfl (H.get 0 rfl) (by rw [uT_eq]; exact Tryd.underlying28) (by kernel_rfl) rfl rfl (by exact resL_tmp (by exact resL_tmp rfl))) ?_
 exact ⟨rfl, (H.del 0)⟩
set_option maxHeartbeats 16000000 in
theorem act4_wc {a : Int} {e : Int} {xn : Int} (x0 : 62 ≤ xn) (x1 : xn ≤ 64) {yn : Int} (y0 : 2 ≤ yn) (y1 : yn ≤ 61) {zn : Int} (z0 : 2 ≤ zn) (z1 : zn ≤ 61) {mb : Nat} {eb : Nat} (hG : G65 ≤ σ0.next) (ha : σ0.abs = heapAbs h (hmP [(((1, 66) : Wd), ((2, 3) : Wd)), (((1, 66) : Wd), ((2, 6) : Wd)), (((0, a) : Wd), ((1, xn) : Wd)), (((2, 2) : Wd), ((1, 0) : Wd)), (((1, 66) : Wd), ((2, 10) : Wd)), (((1, 65) : Wd), ((2, 4) : Wd)), (((2, 5) : Wd), ((1, 0) : Wd)), (((1, xn) : Wd), ((1, yn) : Wd)), (((2, 7) : Wd), ((1, 0) : Wd)), (((1, yn) : Wd), ((1, zn) : Wd)), (((2, 9) : Wd), ((2, 8) : Wd))])) (hT : TabF σ0.get T) {thM : TypeId} {ghM : Bool} (hM : σ0.get mb = some (.row ⟨[.int .i64 2, .int .i64 0, .int .i64 2, .int .i64 1], thM, ghM⟩)) {thE : TypeId} {ghE : Bool} (hE : σ0.get eb = some (.row ⟨[.int .i64 0, .int .i64 e, .int .i64 0, .int .i64 a], thE, ghE⟩)) (he : a = e) : WC G65 Tryd.prog 14 #[.pointer (some ⟨h, 0, none⟩), .pointer (some ⟨T, 0, none⟩), .slice (some ⟨mb, 0, none⟩) 2 2, .slice (some ⟨eb, 0, none⟩) 2 2] σ0 fun v σ' => v = .tuple #[.agg #[.int .i64 1, .int .i64 yn], .int .i64 1, .bool false] ∧ Lies G65 (heapAbs h (hmP [(((1, 66) : Wd), ((2, 3) : Wd)), (((1, 66) : Wd), ((2, 6) : Wd)), (((0, a) : Wd), ((1, xn) : Wd)), (((2, 2) : Wd), ((1, 0) : Wd)), (((1, 66) : Wd), ((2, 10) : Wd)), (((1, 65) : Wd), ((2, 4) : Wd)), (((2, 5) : Wd), ((1, 0) : Wd)), (((1, xn) : Wd), ((1, yn) : Wd)), (((2, 7) : Wd), ((1, 0) : Wd)), (((1, yn) : Wd), ((1, zn) : Wd)), (((2, 9) : Wd), ((2, 8) : Wd))])) σ0.get σ' [] := by
 have H := Lies.start hG ha
 generalize σ0.get = F at H hT hM hE ⊢
 refine WC.enter (fn := Tryd.f14) Tryd.func14 rfl ?_
 refine W.rg [(0, pp h), (1, pp T), (2, .slice (some ⟨mb, 0, none⟩) 2 2), (3, .slice (some ⟨eb, 0, none⟩) 2 2)] fun TA => ?_
 refine W.seq (W.region ?_)
 refine RW.mk H (.row ⟨[.int .i64 0, .int .i64 0], 28, false⟩) ?_
 clear H; intro _ b1 _ H
 iterate 2 refine RW.v ?_
 refine RW.nil ?_
 refine W.rg [(0, pp h), (1, pp T), (2, .slice (some ⟨mb, 0, none⟩) 2 2), (3, .slice (some ⟨eb, 0, none⟩) 2 2), (8, pp b1)] fun TA => ?_
 refine W.seq (W.region ?_)
 iterate 2 refine RW.v ?_
 refine RW.cl ?_
 refine ((at_wc (Nat.le_of_ble_eq_true rfl) H.gn H.abs (hT.le H.old)).mono ?_)
 rintro _ _ ⟨rfl, K⟩
 replace H := H.then K
 clear K
 dsimp only [List.nil_append, List.cons_append] at H
 iterate 3 refine RW.v ?_
 refine RW.mk H (.row ⟨[.pointer none, .pointer none, .int .i64 0, .int .i64 0], 65, false⟩) ?_
 clear H; intro _ b2 _ H
 refine RW.st H 0 [pt h, pt T, .int .i64 1, .int .i64 66] [pt h, pt T, .int .i64 1, .int .i64 66] ?_
 clear H; intro _ _ H; dsimp only [setL, delL] at H
 refine RW.v ?_
 refine RW.nil ?_
 refine W.rg [(1, pp T), (2, .slice (some ⟨mb, 0, none⟩) 2 2), (3, .slice (some ⟨eb, 0, none⟩) 2 2), (8, pp b1), (11, pp b2), (12, .bool true)] fun TA => ?_
 refine W.seq ?_
 refine W.seq (W.region ?_)
 iterate 2 refine RW.v ?_
 refine RW.nil ?_
 refine W.c0 ?_
 refine W.skip ?_
 refine W.seq (W.region ?_)
 refine RW.ld H 0 4 ?_
 refine RW.v ?_
 refine RW.cl ?_
 refine WC.enter (fn := Tryd.f43) Tryd.func43 rfl ?_
 refine W.rg [(0, .agg #[pp h, pp T, .int .i64 1, .int .i64 66]), (1, .slice (some ⟨mb, 0, none⟩) 2 2)] fun TA => ?_
 refine W.seq (W.region ?_)
 refine RW.mk H (.row ⟨[pt h, pt T, .int .i64 1, .int .i64 66], 65, false⟩) ?_
 clear H; intro _ b3 _ H
 refine RW.v ?_
 refine RW.nil ?_
 refine W.rg [(1, .slice (some ⟨mb, 0, none⟩) 2 2), (2, pp b3)] fun TA => ?_
 refine W.seq (W.region ?_)
 refine RW.v ?_
 refine RW.cl ?_
 refine WC.enter (fn := Tryd.f55) Tryd.func55 rfl ?_
 refine W.rg [(0, .slice (some ⟨mb, 0, none⟩) 2 2)] fun TA => ?_
 refine W.seq (W.region ?_)
 refine RW.v ?_
 refine RW.nil ?_
 refine W.rg [(0, .slice (some ⟨mb, 0, none⟩) 2 2)] fun TA => ?_
 refine W.seq ?_
 refine W.seq (W.region ?_)
 iterate 2 refine RW.v ?_
 refine RW.nil ?_
 refine W.c0 ?_
 refine W.skip ?_
 refine W.seq (W.region ?_)
 refine RW.mkL H (x := .row ⟨[], 28, false⟩) (fm := fun b => .slice (some ⟨b, 0, none⟩) 0 0) (by kernel_rfl) (by kernel_rfl) (by kernel_rfl) (by kernel_rfl) ?_
 clear H; intro _ b4 _ H
 refine RW.v ?_
 replace H := H.nilSl 28 2
 refine RW.appFD H 0 (n := 2) (ys := [.int .i64 2, .int .i64 0, .int .i64 2, .int .i64 1]) (e2 := 28) (SlF.some hM rfl rfl) (by kernel_rfl) (by kernel_rfl) rfl rfl rfl rfl rfl rfl rfl (.inr ⟨by decide, rfl, _, _, _, rfl, H.get 1 rfl⟩) (by kernel_rfl) (by kernel_rfl) (by kernel_rfl) (by decide) (by kernel_rfl) (by omega) (by kernel_rfl) ?_
 clear H; intro _ v5 H
 replace H : Lies G65 (heapAbs h (hmP [(((1, 66) : Wd), ((2, 3) : Wd)), (((1, 66) : Wd), ((2, 6) : Wd)), (((0, a) : Wd), ((1, xn) : Wd)), (((2, 2) : Wd), ((1, 0) : Wd)), (((1, 66) : Wd), ((2, 10) : Wd)), (((1, 65) : Wd), ((2, 4) : Wd)), (((2, 5) : Wd), ((1, 0) : Wd)), (((1, xn) : Wd), ((1, yn) : Wd)), (((2, 7) : Wd), ((1, 0) : Wd)), (((1, yn) : Wd), ((1, zn) : Wd)), (((2, 9) : Wd), ((2, 8) : Wd))])) F _ [.sl 28 2 v5 2 [.int .i64 2, .int .i64 0, .int .i64 2, .int .i64 1], .at_ b4 (.row ⟨[], 28, false⟩), .at_ b3 (.row ⟨[.pointer (some ⟨h, 0, none⟩), .pointer (some ⟨T, 0, none⟩), .int .i64 1, .int .i64 66], 65, false⟩), .at_ b2 (.row ⟨[.pointer (some ⟨h, 0, none⟩), .pointer (some ⟨T, 0, none⟩), .int .i64 1, .int .i64 66], 65, false⟩), .at_ b1 (.row ⟨[.int .i64 0, .int .i64 0], 28, false⟩)] := H
 refine RW.v ?_
 refine RW.nil ?_
 replace H := (H.del 1)
 dsimp only [setL, delL] at H
 refine W.ret ?_
 refine endG (by rfl) (by exact resL_tmp rfl) ?_
 refine RW.val (v := .func (.func 68) #[] #[.pointer (some ⟨b3, 0, none⟩)]) (by kernel_rfl) (by kernel_rfl) (by kernel_rfl) (by kernel_rfl) ?_
 refine RW.cl ?_
 refine WC.enter (fn := Tryd.f67) Tryd.func67 rfl ?_
 refine W.rg [(0, v5), (1, .func (.func 68) #[] #[pp b3])] fun TA => ?_
 refine W.seq (W.region ?_)
 refine RW.v ?_
 refine RW.nil ?_
 refine W.rg [(0, v5), (1, .func (.func 68) #[] #[pp b3])] fun TA => ?_
 refine W.seq (W.region ?_)
 iterate 2 refine RW.v ?_
 refine RW.cl ?_
 refine WC.enter (fn := Tryd.f81) Tryd.func81 rfl ?_
 refine W.rg [(0, v5), (1, .func (.func 68) #[] #[pp b3])] fun TA => ?_
 refine W.seq (W.region ?_)
 refine RW.v ?_
 refine RW.nil ?_
 refine W.rg [(0, v5), (1, .func (.func 68) #[] #[pp b3])] fun TA => ?_
 refine W.seq ?_
 refine W.seq (W.region ?_)
 refine RW.v ?_
 refine RW.len (by kernel_rfl) (by kernel_rfl) rfl rfl rfl rfl ((H.sl 0 rfl).len (by kernel_rfl)) (by kernel_rfl) ?_
 refine RW.v ?_
 refine RW.nil ?_
 refine W.rg [(0, v5), (1, .func (.func 68) #[] #[pp b3]), (7, .int .i64 2), (8, .int .i64 0)] fun TA => ?_
 refine W.block ?_
 refine W.unroll (WL.once ?_)
 refine W.seq (W.region ?_)
 refine RW.v ?_
 refine RW.nil ?_
 refine W.rg [(0, v5), (1, .func (.func 68) #[] #[pp b3]), (7, .int .i64 2), (8, .int .i64 0), (9, .bool true)] fun TA => ?_
 refine W.seq ?_
 refine W.c1 ?_
 refine W.skip ?_
 refine W.seq ?_
 refine W.block ?_
 refine W.seq (W.region ?_)
 iterate 2 refine RW.v ?_
 refine RW.nil ?_
 refine W.rg [(0, v5), (1, .func (.func 68) #[] #[pp b3]), (5, .int .i64 0), (7, .int .i64 2), (8, .int .i64 0)] fun TA => ?_
 refine W.seq (W.region ?_)
 iterate 3 refine RW.v ?_
 refine RW.idxG H 0 rfl (by kernel_rfl) (by kernel_rfl) rfl Tryd.underlying35 (by kernel_rfl) rfl rfl ⟨by decide, by decide⟩ (by kernel_rfl) ?_
 intro b6 q7 r8 hF9 hE10
 replace hE10 : (r8.cs.drop q7).take 2 = [.int .i64 2, .int .i64 0] := hE10.trans (by kernel_rfl)
 refine RW.loads 2 (by kernel_rfl) (by kernel_rfl) rfl rfl (hF9) hE10 rfl (by kernel_rfl) ?_
 refine RW.cl ?_
 refine WC.enter (fn := Tryd.f68) Tryd.func68 rfl ?_
 refine W.rg [(0, .agg #[.int .i64 2, .int .i64 0]), (1, pp b3)] fun TA => ?_
 refine W.seq (W.region ?_)
 refine RW.mk H (.row ⟨[.int .i64 2, .int .i64 0], 28, false⟩) ?_
 clear H; intro _ b11 _ H
 refine RW.v ?_
 refine RW.nil ?_
 refine W.rg [(1, pp b3), (2, pp b11)] fun TA => ?_
 refine W.seq (W.region ?_)
 refine RW.ld H 2 4 ?_
 refine RW.ld H 0 2 ?_
 refine RW.cl ?_
 refine ((isMap_y (h := h) (T := T) (w := (2, 0)) (d := ((2, 3) : Wd)) rfl H).mono ?_)
 clear H
 rintro _ _ ⟨rfl, H⟩
 iterate 2 refine RW.v ?_
 refine RW.nil ?_
 replace H := (H.del 0)
 dsimp only [setL, delL] at H
 refine W.ret ?_
 refine endG (by rfl) (by exact resL_tmp rfl) ?_
 refine RW.nil ?_
 refine W.c0 ?_
 refine W.skip ?_
 refine blkQ_normal ?_
 refine W.region ?_
 iterate 2 refine RW.v ?_
 refine RW.nil ?_
 refine WL.once ?_
 refine W.rg [(0, v5), (1, .func (.func 68) #[] #[pp b3]), (7, .int .i64 2), (8, .int .i64 1)] fun TA => ?_
 refine W.seq (W.region ?_)
 refine RW.v ?_
 refine RW.nil ?_
 refine W.rg [(0, v5), (1, .func (.func 68) #[] #[pp b3]), (7, .int .i64 2), (8, .int .i64 1), (9, .bool true)] fun TA => ?_
 refine W.seq ?_
 refine W.c1 ?_
 refine W.skip ?_
 refine W.seq ?_
 refine W.block ?_
 refine W.seq (W.region ?_)
 iterate 2 refine RW.v ?_
 refine RW.nil ?_
 refine W.rg [(0, v5), (1, .func (.func 68) #[] #[pp b3]), (5, .int .i64 1), (7, .int .i64 2), (8, .int .i64 1)] fun TA => ?_
 refine W.seq (W.region ?_)
 iterate 3 refine RW.v ?_
 refine RW.idxG H 0 rfl (by kernel_rfl) (by kernel_rfl) rfl Tryd.underlying35 (by kernel_rfl) rfl rfl ⟨by decide, by decide⟩ (by kernel_rfl) ?_
 intro b12 q13 r14 hF15 hE16
 replace hE16 : (r14.cs.drop q13).take 2 = [.int .i64 2, .int .i64 1] := hE16.trans (by kernel_rfl)
 refine RW.loads 2 (by kernel_rfl) (by kernel_rfl) rfl rfl (hF15) hE16 rfl (by kernel_rfl) ?_
 refine RW.cl ?_
 refine WC.enter (fn := Tryd.f68) Tryd.func68 rfl ?_
 refine W.rg [(0, .agg #[.int .i64 2, .int .i64 1]), (1, pp b3)] fun TA => ?_
 refine W.seq (W.region ?_)
 refine RW.mk H (.row ⟨[.int .i64 2, .int .i64 1], 28, false⟩) ?_
 clear H; intro _ b17 _ H
 refine RW.v ?_
 refine RW.nil ?_
 refine W.rg [(1, pp b3), (2, pp b17)] fun TA => ?_
 refine W.seq (W.region ?_)
 refine RW.ld H 2 4 ?_
 refine RW.ld H 0 2 ?_
 refine RW.cl ?_
 refine ((isMap_y (h := h) (T := T) (w := (2, 1)) (d := ((2, 6) : Wd)) rfl H).mono ?_)
 clear H
 rintro _ _ ⟨rfl, H⟩
 iterate 2 refine RW.v ?_
 refine RW.nil ?_
 replace H := (H.del 0)
 dsimp only [setL, delL] at H
 refine W.ret ?_
 refine endG (by rfl) (by exact resL_tmp rfl) ?_
 refine RW.nil ?_
 refine W.c0 ?_
 refine W.skip ?_
 refine blkQ_normal ?_
 refine W.region ?_
 iterate 2 refine RW.v ?_
 refine RW.nil ?_
 refine WL.once ?_
 refine W.rg [(0, v5), (1, .func (.func 68) #[] #[pp b3]), (7, .int .i64 2), (8, .int .i64 2)] fun TA => ?_
 refine W.seq (W.region ?_)
 refine RW.v ?_
 refine RW.nil ?_
 refine W.rg [(0, v5), (1, .func (.func 68) #[] #[pp b3]), (7, .int .i64 2), (8, .int .i64 2), (9, .bool false)] fun TA => ?_
 refine W.seq ?_
 refine W.c0 ?_
 refine W.exit _ ?_
 refine seqQ_exit ?_
 refine onceQ_exit ?_
 refine blkQ_here ?_
 refine W.seq (W.region ?_)
 refine RW.v ?_
 refine RW.nil ?_
 refine W.ret ?_
 refine endG (by rfl) (by exact resL_tmp rfl) ?_
 refine RW.v ?_
 refine RW.nil ?_
 refine W.rg [(0, v5), (1, .func (.func 68) #[] #[pp b3]), (5, .int .i64 (-1))] fun TA => ?_
 refine W.seq ?_
 refine W.seq (W.region ?_)
 iterate 2 refine RW.v ?_
 refine RW.nil ?_
 refine W.c1 ?_
 refine W.seq (W.region ?_)
 iterate 2 refine RW.v ?_
 refine RW.nil ?_
 refine W.ret ?_
 refine seqQ_ret ?_
 refine endG (by rfl) (by exact resL_tmp rfl) ?_
 refine RW.v ?_
 refine RW.nil ?_
 replace H := (H.del 1)
 dsimp only [setL, delL] at H
 refine W.ret ?_
 refine endG (by rfl) (by exact resL_tmp rfl) ?_
 refine RW.v ?_
 refine RW.nil ?_
 refine W.rg [(1, pp T), (2, v5), (3, .slice (some ⟨eb, 0, none⟩) 2 2), (8, pp b1), (11, pp b2)] fun TA => ?_
 refine W.seq ?_
 refine W.seq (W.region ?_)
 refine RW.v ?_
 refine RW.len (by kernel_rfl) (by kernel_rfl) rfl rfl rfl rfl ((H.sl 0 rfl).len (by kernel_rfl)) (by kernel_rfl) ?_
 refine RW.v ?_
 refine RW.nil ?_
 refine W.c0 ?_
 refine W.skip ?_
 refine W.seq (W.region ?_)
 refine RW.ld H 1 4 ?_
 iterate 2 refine RW.v ?_
 refine RW.cl ?_
 refine WC.enter (fn := Tryd.f44) Tryd.func44 rfl ?_
 refine W.rg [(0, .agg #[pp h, pp T, .int .i64 1, .int .i64 66]), (1, v5), (2, .slice (some ⟨eb, 0, none⟩) 2 2)] fun TA => ?_
 refine W.seq (W.region ?_)
 refine RW.mk H (.row ⟨[pt h, pt T, .int .i64 1, .int .i64 66], 65, false⟩) ?_
 clear H; intro _ b18 _ H
 refine RW.mk H (.row ⟨[.int .i64 0, .int .i64 0], 28, false⟩) ?_
 clear H; intro _ b19 _ H
 iterate 2 refine RW.v ?_
 refine RW.nil ?_
 refine W.rg [(1, v5), (2, .slice (some ⟨eb, 0, none⟩) 2 2), (3, pp b18), (6, pp b19)] fun TA => ?_
 refine W.seq ?_
 refine W.seq (W.region ?_)
 iterate 3 refine RW.v ?_
 refine RW.nil ?_
 refine W.rg [(1, v5), (2, .slice (some ⟨eb, 0, none⟩) 2 2), (3, pp b18), (6, pp b19), (13, .slice (some ⟨eb, 0, none⟩) 2 2), (14, .int .i64 2), (15, .int .i64 0)] fun TA => ?_
 refine W.block ?_
 refine W.unroll (WL.once ?_)
 refine W.seq (W.region ?_)
 refine RW.v ?_
 refine RW.nil ?_
 refine W.rg [(1, v5), (2, .slice (some ⟨eb, 0, none⟩) 2 2), (3, pp b18), (6, pp b19), (13, .slice (some ⟨eb, 0, none⟩) 2 2), (14, .int .i64 2), (15, .int .i64 0), (16, .bool true)] fun TA => ?_
 refine W.seq ?_
 refine W.c1 ?_
 refine W.skip ?_
 refine W.seq ?_
 refine W.block ?_
 refine W.seq (W.region ?_)
 refine RW.v ?_
 refine RW.idx (s := 2) (by kernel_rfl) (by kernel_rfl) rfl Tryd.underlying35 (by kernel_rfl) rfl rfl ⟨by decide, by decide⟩ (by kernel_rfl) ?_
 refine RW.loads 2 (by kernel_rfl) (by kernel_rfl) rfl rfl (H.old _ _ hE) rfl rfl (by kernel_rfl) ?_
 refine RW.mk H (.row ⟨[.int .i64 0, .int .i64 0], 28, false⟩) ?_
 clear H; intro _ b20 _ H
 refine RW.v ?_
 refine RW.st H 0 [.int .i64 0, .int .i64 e] [.int .i64 0, .int .i64 e] ?_
 clear H; intro _ _ H; dsimp only [setL, delL] at H
 refine RW.nil ?_
 refine W.rg [(1, v5), (2, .slice (some ⟨eb, 0, none⟩) 2 2), (3, pp b18), (6, pp b19), (9, .int .i64 0), (10, pp b20), (13, .slice (some ⟨eb, 0, none⟩) 2 2), (14, .int .i64 2), (15, .int .i64 0)] fun TA => ?_
 refine W.seq (W.region ?_)
 refine RW.ld H 2 4 ?_
 refine RW.v ?_
 refine RW.ld H 0 2 ?_
 refine RW.cl ?_
 refine WC.enter (fn := Tryd.f56) Tryd.func56 rfl ?_
 refine W.rg [(0, .agg #[pp h, pp T, .int .i64 1, .int .i64 66]), (1, v5), (2, .agg #[.int .i64 0, .int .i64 e])] fun TA => ?_
 refine W.seq (W.region ?_)
 refine RW.mk H (.row ⟨[pt h, pt T, .int .i64 1, .int .i64 66], 65, false⟩) ?_
 clear H; intro _ b21 _ H
 refine RW.mk H (.row ⟨[.int .i64 0, .int .i64 e], 28, false⟩) ?_
 clear H; intro _ b22 _ H
 refine RW.mk H (.row ⟨[.int .i64 0, .int .i64 0], 28, false⟩) ?_
 clear H; intro _ b23 _ H
 refine RW.v ?_
 refine RW.nil ?_
 refine W.rg [(1, v5), (3, pp b21), (5, pp b22), (6, pp b23)] fun TA => ?_
 refine W.seq (W.region ?_)
 refine RW.cl ?_
 refine WC.enter (fn := Tryd.f33) Tryd.func33 rfl ?_
 refine W.rg [] fun TA => ?_
 refine W.seq (W.region ?_)
 refine RW.mk H (.row ⟨[.int .i64 0, .int .i64 0], 28, false⟩) ?_
 clear H; intro _ b24 _ H
 refine RW.nil ?_
 refine W.rg [(0, pp b24)] fun TA => ?_
 refine W.seq (W.region ?_)
 refine RW.cl ?_
 refine WC.enter (fn := Tryd.f32) Tryd.func32 rfl ?_
 refine W.rg [(0, .int .i64 0)] fun TA => ?_
 refine W.seq (W.region ?_)
 refine RW.mk H (.row ⟨[.int .i64 0, .int .i64 0], 28, false⟩) ?_
 clear H; intro _ b25 _ H
 refine RW.nil ?_
 refine W.rg [(0, .int .i64 0), (2, pp b25)] fun TA => ?_
 refine W.seq (W.region ?_)
 refine RW.v ?_
 refine RW.val (v := .agg #[.int .i64 1, .int .i64 0]) (by kernel_rfl) (by kernel_rfl) (by kernel_rfl) (by kernel_rfl) ?_
 refine RW.st H 0 [.int .i64 1, .int .i64 0] [.int .i64 1, .int .i64 0] ?_
 clear H; intro _ _ H; dsimp only [setL, delL] at H
 refine RW.nil ?_
 refine W.ret ?_
 refine endG (by rfl) (by exact resL_cell rfl (H.get 0 rfl) (by rw [uT_eq]; exact Tryd.underlying28) (by kernel_rfl) rfl rfl rfl) ?_
 refine RW.st H 1 [.int .i64 1, .int .i64 0] [.int .i64 1, .int .i64 0] ?_
 clear H; intro _ _ H; dsimp only [setL, delL] at H
 refine RW.nil ?_
 replace H := (H.del 0)
 dsimp only [setL, delL] at H
 refine W.ret ?_
 refine endG (by rfl) (by exact resL_cell rfl (H.get 0 rfl) (by rw [uT_eq]; exact Tryd.underlying28) (by kernel_rfl) rfl rfl rfl) ?_
 refine RW.mk H (.row ⟨[.int .i64 0, .int .i64 0], 28, false⟩) ?_
 clear H; intro _ b26 _ H
 refine RW.st H 0 [.int .i64 1, .int .i64 0] [.int .i64 1, .int .i64 0] ?_
 clear H; intro _ _ H; dsimp only [setL, delL] at H
 refine RW.nil ?_
 replace H := (H.del 1)
 dsimp only [setL, delL] at H
 refine W.rg [(1, v5), (3, pp b21), (5, pp b22), (6, pp b23), (8, pp b26)] fun TA => ?_
 refine W.seq (W.region ?_)
 refine RW.v ?_
 refine RW.nil ?_
 refine W.rg [(1, v5), (3, pp b21), (5, pp b22), (6, pp b23), (8, pp b26), (9, .slice none 0 0)] fun TA => ?_
 refine W.seq ?_
 refine W.seq (W.region ?_)
 refine RW.v ?_
 refine RW.len (by kernel_rfl) (by kernel_rfl) rfl rfl rfl rfl ((H.sl 7 rfl).len (by kernel_rfl)) (by kernel_rfl) ?_
 refine RW.v ?_
 refine RW.nil ?_
 refine W.rg [(3, pp b21), (5, pp b22), (6, pp b23), (8, pp b26), (9, .slice none 0 0), (16, v5), (17, .int .i64 2), (18, .int .i64 0)] fun TA => ?_
 refine W.block ?_
 refine W.unroll (WL.once ?_)
 refine W.seq (W.region ?_)
 refine RW.v ?_
 refine RW.nil ?_
 refine W.rg [(3, pp b21), (5, pp b22), (6, pp b23), (8, pp b26), (9, .slice none 0 0), (16, v5), (17, .int .i64 2), (18, .int .i64 0), (19, .bool true)] fun TA => ?_
 refine W.seq ?_
 refine W.c1 ?_
 refine W.skip ?_
 refine W.seq ?_
 refine W.block ?_
 refine W.seq (W.region ?_)
 refine RW.idxG H 7 rfl (by kernel_rfl) (by kernel_rfl) rfl Tryd.underlying35 (by kernel_rfl) rfl rfl ⟨by decide, by decide⟩ (by kernel_rfl) ?_
 intro b27 q28 r29 hF30 hE31
 replace hE31 : (r29.cs.drop q28).take 2 = [.int .i64 2, .int .i64 0] := hE31.trans (by kernel_rfl)
 refine RW.loads 2 (by kernel_rfl) (by kernel_rfl) rfl rfl (hF30) hE31 rfl (by kernel_rfl) ?_
 refine RW.mk H (.row ⟨[.int .i64 0, .int .i64 0], 28, false⟩) ?_
 clear H; intro _ b32 _ H
 refine RW.st H 0 [.int .i64 2, .int .i64 0] [.int .i64 2, .int .i64 0] ?_
 clear H; intro _ _ H; dsimp only [setL, delL] at H
 refine RW.nil ?_
 refine W.rg [(3, pp b21), (5, pp b22), (6, pp b23), (8, pp b26), (9, .slice none 0 0), (11, pp b32), (16, v5), (17, .int .i64 2), (18, .int .i64 0)] fun TA => ?_
 refine W.seq (W.region ?_)
 refine RW.ld H 4 4 ?_
 refine RW.ld H 0 2 ?_
 refine RW.ld H 3 2 ?_
 refine RW.cl ?_
 refine ((bound_wc (h := h) (T := T) (ev := ((0, e) : Wd)) mp5 (Nat.le_of_ble_eq_true rfl) (fun j hj => by match j, hj with | 0, _ => (simp <;> omega) | j + 1, hj => exact absurd hj (by simp)) H.gn H.abs).mono ?_)
 rintro _ _ ⟨e, K⟩
 replace H := H.then K
 clear K
 dsimp only [List.nil_append, List.cons_append] at H
 replace e := e.trans (congrArg wdV (show _ = ((1, xn) : Wd) from (boundP_yes (by simp [pB] <;> omega))))
 subst e
 refine RW.mk H (.row ⟨[.int .i64 0, .int .i64 0], 28, false⟩) ?_
 clear H; intro _ b33 _ H
 refine RW.st H 0 [.int .i64 1, .int .i64 xn] [.int .i64 1, .int .i64 xn] ?_
 clear H; intro _ _ H; dsimp only [setL, delL] at H
 refine RW.nil ?_
 replace H := (H.del 1)
 dsimp only [setL, delL] at H
 refine W.rg [(3, pp b21), (5, pp b22), (6, pp b23), (8, pp b26), (9, .slice none 0 0), (12, pp b33), (16, v5), (17, .int .i64 2), (18, .int .i64 0)] fun TA => ?_
 refine W.seq ?_
 refine W.seq ?_
 refine W.drawn (by kernel_rfl) (by kernel_rfl) H.gn ?_
 have H34 := H
 refine RW.ld H34 0 2 ?_
 refine RW.cl ?_
 refine WC.enter (fn := Tryd.f33) Tryd.func33 rfl ?_
 replace H := H34
 refine W.rg [] fun TA => ?_
 refine W.seq (W.region ?_)
 refine RW.mk H (.row ⟨[.int .i64 0, .int .i64 0], 28, false⟩) ?_
 clear H; intro _ b35 _ H
 refine RW.nil ?_
 refine W.rg [(0, pp b35)] fun TA => ?_
 refine W.seq (W.region ?_)
 refine RW.cl ?_
 refine WC.enter (fn := Tryd.f32) Tryd.func32 rfl ?_
 refine W.rg [(0, .int .i64 0)] fun TA => ?_
 refine W.seq (W.region ?_)
 refine RW.mk H (.row ⟨[.int .i64 0, .int .i64 0], 28, false⟩) ?_
 clear H; intro _ b36 _ H
 refine RW.nil ?_
 refine W.rg [(0, .int .i64 0), (2, pp b36)] fun TA => ?_
 refine W.seq (W.region ?_)
 refine RW.v ?_
 refine RW.val (v := .agg #[.int .i64 1, .int .i64 0]) (by kernel_rfl) (by kernel_rfl) (by kernel_rfl) (by kernel_rfl) ?_
 refine RW.st H 0 [.int .i64 1, .int .i64 0] [.int .i64 1, .int .i64 0] ?_
 clear H; intro _ _ H; dsimp only [setL, delL] at H
 refine RW.nil ?_
 refine W.ret ?_
 refine endG (by rfl) (by exact resL_cell rfl (H.get 0 rfl) (by rw [uT_eq]; exact Tryd.underlying28) (by kernel_rfl) rfl rfl rfl) ?_
 refine RW.st H 1 [.int .i64 1, .int .i64 0] [.int .i64 1, .int .i64 0] ?_
 clear H; intro _ _ H; dsimp only [setL, delL] at H
 refine RW.nil ?_
 replace H := (H.del 0)
 dsimp only [setL, delL] at H
 refine W.ret ?_
 refine endG (by rfl) (by exact resL_cell rfl (H.get 0 rfl) (by rw [uT_eq]; exact Tryd.underlying28) (by kernel_rfl) rfl rfl rfl) ?_
 have H37 := H
 refine RW.vop (v := .bool false) (by kernel_rfl) (by kernel_rfl) (vop_eqS (b := false) (r := false) rfl (.inl ⟨rfl, rfl⟩) rfl rfl rfl rfl (by kernel_rfl) (fun w => (eqWd _ _ _ _ w).trans (by simp <;> omega))) (by kernel_rfl) ?_
 refine RW.nil ?_
 refine ⟨⟨by kernel_rfl, ⟨dyn_row (H34.get 0 rfl) (H37.get 1 rfl) ⟨fun h => Bool.noConfusion h, fun _ => H34.get 0 rfl, fun h => Bool.noConfusion h, trivial⟩, trivial, trivial, trivial⟩⟩, ?_⟩
 replace H := H37
 clear H34 H37
 replace H := (H.del 0)
 dsimp only [setL, delL] at H
 refine W.c0 ?_
 refine W.skip ?_
 refine W.seq (W.region ?_)
 refine RW.ld H 4 4 ?_
 refine RW.ld H 0 2 ?_
 refine RW.cl ?_
 refine WC.enter (fn := Tryd.f52) Tryd.func52 rfl ?_
 refine W.rg [(0, .agg #[pp h, pp T, .int .i64 1, .int .i64 66]), (1, .agg #[.int .i64 1, .int .i64 xn])] fun TA => ?_
 refine W.seq (W.region ?_)
 refine RW.mk H (.row ⟨[pt h, pt T, .int .i64 1, .int .i64 66], 65, false⟩) ?_
 clear H; intro _ b38 _ H
 refine RW.mk H (.row ⟨[.int .i64 1, .int .i64 xn], 28, false⟩) ?_
 clear H; intro _ b39 _ H
 refine RW.mk H (.row ⟨[.int .i64 0, .int .i64 0], 28, false⟩) ?_
 clear H; intro _ b40 _ H
 refine RW.v ?_
 refine RW.nil ?_
 refine W.rg [(2, pp b38), (3, pp b39), (4, pp b40)] fun TA => ?_
 refine W.seq ?_
 refine W.seq (W.region ?_)
 refine RW.v ?_
 refine RW.ld H 1 1 ?_
 refine RW.v ?_
 refine RW.nil ?_
 refine W.c1 ?_
 refine W.region ?_
 refine RW.v ?_
 refine RW.ld H 2 1 ?_
 refine RW.v ?_
 refine RW.ld H 1 1 ?_
 refine RW.cl ?_
 refine ((func_wc (n := xn) (by omega) (by omega) H.gn H.abs (hT.le H.old)).mono ?_)
 rintro _ _ ⟨rfl, K⟩
 replace H := H.then K
 clear K
 dsimp only [List.nil_append, List.cons_append] at H
 iterate 3 refine RW.v ?_
 refine RW.st H 1 [.int .i64 0, .int .i64 0] [.int .i64 0, .int .i64 0] ?_
 clear H; intro _ _ H; dsimp only [setL, delL] at H
 refine RW.nil ?_
 refine W.rg [(2, pp b38), (3, pp b39), (4, pp b40)] fun TA => ?_
 refine W.seq ?_
 refine W.drawn (by kernel_rfl) (by kernel_rfl) H.gn ?_
 have H41 := H
 refine RW.ld H41 1 2 ?_
 refine RW.ld H41 2 4 ?_
 refine RW.ld H41 1 2 ?_
 refine RW.cl ?_
 refine ((isMap_n (h := h) (T := T) (w := ((0, 0) : Wd)) (by decide) H41).mono ?_)
 rintro _ _ ⟨rfl, H42⟩
 refine RW.stD H42 0 (vs := [.int .i64 0, .int .i64 0]) (cs' := [.int .i64 0, .int .i64 0]) (by kernel_rfl) (by kernel_rfl) rfl rfl rfl rfl rfl (by kernel_rfl) (Nat.le_of_ble_eq_true rfl) rfl (by kernel_rfl) ?_
 intro _ H43
 dsimp only [setL, delL] at H43
 refine RW.v ?_
 refine RW.nil ?_
 refine ⟨⟨by kernel_rfl, ⟨dyn_row (H41.get 1 rfl) (H43.get 1 rfl) ⟨fun h => Bool.noConfusion h, fun h => Bool.noConfusion h, fun h => Bool.noConfusion h, fun _ => H41.get 1 rfl, fun _ => H42.get 1 rfl, fun h => Bool.noConfusion h, trivial⟩, dyn_row (H41.get 2 rfl) (H43.get 2 rfl) ⟨fun h => Bool.noConfusion h, fun h => Bool.noConfusion h, fun h => Bool.noConfusion h, fun _ => H41.get 2 rfl, fun _ => H42.get 2 rfl, fun h => Bool.noConfusion h, trivial⟩, dyn_row (H41.get 1 rfl) (H43.get 1 rfl) ⟨fun h => Bool.noConfusion h, fun h => Bool.noConfusion h, fun h => Bool.noConfusion h, fun _ => H41.get 1 rfl, fun _ => H42.get 1 rfl, fun h => Bool.noConfusion h, trivial⟩, trivial, trivial, trivial, trivial⟩⟩, ?_⟩
 replace H := H43
 clear H41 H42 H43
 replace H := ((H.del 2).del 1)
 dsimp only [setL, delL] at H
 refine W.ret ?_
 refine endG (by rfl) (by exact resL_cell rfl (H.get 0 rfl) (by rw [uT_eq]; exact Tryd.underlying28) (by kernel_rfl) rfl rfl (by exact resL_tmp rfl)) ?_
 iterate 3 refine RW.v ?_
 refine RW.mk H (.row ⟨[.int .i64 0, .int .i64 0], 28, false⟩) ?_
 clear H; intro _ b44 _ H
 refine RW.st H 0 [.int .i64 0, .int .i64 0] [.int .i64 0, .int .i64 0] ?_
 clear H; intro _ _ H; dsimp only [setL, delL] at H
 refine RW.v ?_
 refine RW.nil ?_
 replace H := (H.del 1)
 dsimp only [setL, delL] at H
 refine W.rg [(3, pp b21), (5, pp b22), (6, pp b23), (8, pp b26), (9, .slice none 0 0), (12, pp b33), (13, pp b44), (14, .bool false), (16, v5), (17, .int .i64 2), (18, .int .i64 0)] fun TA => ?_
 refine W.seq ?_
 refine W.seq ?_
 refine W.drawn (by kernel_rfl) (by kernel_rfl) H.gn ?_
 have H45 := H
 refine RW.ld H45 2 2 ?_
 refine RW.cl ?_
 refine WC.enter (fn := Tryd.f33) Tryd.func33 rfl ?_
 replace H := H45
 refine W.rg [] fun TA => ?_
 refine W.seq (W.region ?_)
 refine RW.mk H (.row ⟨[.int .i64 0, .int .i64 0], 28, false⟩) ?_
 clear H; intro _ b46 _ H
 refine RW.nil ?_
 refine W.rg [(0, pp b46)] fun TA => ?_
 refine W.seq (W.region ?_)
 refine RW.cl ?_
 refine WC.enter (fn := Tryd.f32) Tryd.func32 rfl ?_
 refine W.rg [(0, .int .i64 0)] fun TA => ?_
 refine W.seq (W.region ?_)
 refine RW.mk H (.row ⟨[.int .i64 0, .int .i64 0], 28, false⟩) ?_
 clear H; intro _ b47 _ H
 refine RW.nil ?_
 refine W.rg [(0, .int .i64 0), (2, pp b47)] fun TA => ?_
 refine W.seq (W.region ?_)
 refine RW.v ?_
 refine RW.val (v := .agg #[.int .i64 1, .int .i64 0]) (by kernel_rfl) (by kernel_rfl) (by kernel_rfl) (by kernel_rfl) ?_
 refine RW.st H 0 [.int .i64 1, .int .i64 0] [.int .i64 1, .int .i64 0] ?_
 clear H; intro _ _ H; dsimp only [setL, delL] at H
 refine RW.nil ?_
 refine W.ret ?_
 refine endG (by rfl) (by exact resL_cell rfl (H.get 0 rfl) (by rw [uT_eq]; exact Tryd.underlying28) (by kernel_rfl) rfl rfl rfl) ?_
 refine RW.st H 1 [.int .i64 1, .int .i64 0] [.int .i64 1, .int .i64 0] ?_
 clear H; intro _ _ H; dsimp only [setL, delL] at H
 refine RW.nil ?_
 replace H := (H.del 0)
 dsimp only [setL, delL] at H
 refine W.ret ?_
 refine endG (by rfl) (by exact resL_cell rfl (H.get 0 rfl) (by rw [uT_eq]; exact Tryd.underlying28) (by kernel_rfl) rfl rfl rfl) ?_
 have H48 := H
 refine RW.vop (v := .bool true) (by kernel_rfl) (by kernel_rfl) (vop_eqS (b := true) (r := true) rfl (.inl ⟨rfl, rfl⟩) rfl rfl rfl rfl (by kernel_rfl) (fun w => (eqWd _ _ _ _ w).trans (by simp))) (by kernel_rfl) ?_
 refine RW.nil ?_
 refine ⟨⟨by kernel_rfl, ⟨dyn_row (H45.get 2 rfl) (H48.get 3 rfl) ⟨fun h => Bool.noConfusion h, fun _ => H45.get 2 rfl, fun h => Bool.noConfusion h, trivial⟩, trivial, trivial, trivial⟩⟩, ?_⟩
 replace H := H48
 clear H45 H48
 replace H := (H.del 0)
 dsimp only [setL, delL] at H
 refine W.c1 ?_
 refine W.seq (W.region ?_)
 refine RW.ld H 1 2 ?_
 refine RW.st H 2 [.int .i64 1, .int .i64 xn] [.int .i64 1, .int .i64 xn] ?_
 clear H; intro _ _ H; dsimp only [setL, delL] at H
 refine RW.nil ?_
 replace H := (H.del 1)
 dsimp only [setL, delL] at H
 refine W.rg [(3, pp b21), (5, pp b22), (6, pp b23), (8, pp b26), (9, .slice none 0 0), (13, pp b44), (14, .bool false), (16, v5), (17, .int .i64 2), (18, .int .i64 0)] fun TA => ?_
 refine W.seq (W.region ?_)
 iterate 2 refine RW.v ?_
 refine RW.nil ?_
 refine W.c1 ?_
 refine W.seq (W.region ?_)
 refine RW.ld H 1 2 ?_
 refine RW.st H 2 [.int .i64 1, .int .i64 xn] [.int .i64 1, .int .i64 xn] ?_
 clear H; intro _ _ H; dsimp only [setL, delL] at H
 refine RW.v ?_
 refine RW.nil ?_
 replace H := ((((H.del 4).del 3).del 1).del 0)
 dsimp only [setL, delL] at H
 refine W.ret ?_
 refine seqQ_ret ?_
 refine blkQ_ret ?_
 refine seqQ_ret ?_
 refine onceQ_ret ?_
 refine blkQ_ret ?_
 refine seqQ_ret ?_
 refine endG (by rfl) (by exact resL_cell rfl (H.get 0 rfl) (by rw [uT_eq]; exact Tryd.underlying28) (by kernel_rfl) rfl rfl (by exact resL_tmp rfl)) ?_
 iterate 3 refine RW.v ?_
 refine RW.mk H (.row ⟨[.int .i64 0, .int .i64 0], 28, false⟩) ?_
 clear H; intro _ b49 _ H
 refine RW.st H 0 [.int .i64 1, .int .i64 xn] [.int .i64 1, .int .i64 xn] ?_
 clear H; intro _ _ H; dsimp only [setL, delL] at H
 refine RW.v ?_
 refine RW.nil ?_
 replace H := ((H.del 2).del 1)
 dsimp only [setL, delL] at H
 refine W.rg [(2, .slice (some ⟨eb, 0, none⟩) 2 2), (3, pp b18), (6, pp b19), (9, .int .i64 0), (11, pp b49), (12, .slice none 0 0), (13, .slice (some ⟨eb, 0, none⟩) 2 2), (14, .int .i64 2), (15, .int .i64 0)] fun TA => ?_
 refine W.seq ?_
 refine W.seq (W.region ?_)
 iterate 3 refine RW.v ?_
 refine RW.nil ?_
 refine W.c1 ?_
 refine W.seq (W.region ?_)
 refine RW.ld H 0 2 ?_
 iterate 2 refine RW.v ?_
 refine RW.st H 1 [.int .i64 1, .int .i64 xn] [.int .i64 1, .int .i64 xn] ?_
 clear H; intro _ _ H; dsimp only [setL, delL] at H
 iterate 2 refine RW.v ?_
 refine RW.nil ?_
 replace H := ((H.del 2).del 0)
 dsimp only [setL, delL] at H
 refine W.ret ?_
 refine seqQ_ret ?_
 refine blkQ_ret ?_
 refine seqQ_ret ?_
 refine onceQ_ret ?_
 refine blkQ_ret ?_
 refine seqQ_ret ?_
 refine endG (by rfl) (by exact resL_cell rfl (H.get 0 rfl) (by rw [uT_eq]; exact Tryd.underlying28) (by kernel_rfl) rfl rfl (by exact resL_tmp (by exact resL_tmp rfl))) ?_
 iterate 4 refine RW.v ?_
 refine RW.mk H (.row ⟨[.int .i64 0, .int .i64 0], 28, false⟩) ?_
 clear H; intro _ b50 _ H
 refine RW.st H 0 [.int .i64 1, .int .i64 xn] [.int .i64 1, .int .i64 xn] ?_
 clear H; intro _ _ H; dsimp only [setL, delL] at H
 iterate 2 refine RW.v ?_
 refine RW.nil ?_
 replace H := (H.del 1)
 dsimp only [setL, delL] at H
 refine W.rg [(1, pp T), (2, v5), (8, pp b1), (9, .int .i64 1), (10, .bool false), (11, pp b2), (13, pp b50)] fun TA => ?_
 refine W.seq (W.region ?_)
 refine RW.v ?_
 refine RW.cl ?_
 refine ((find65_wc H.gn H.abs (hT.le H.old)).mono ?_)
 rintro _ _ ⟨rfl, K⟩
 replace H := H.then K
 clear K
 dsimp only [List.nil_append, List.cons_append] at H
 iterate 5 refine RW.v ?_
 refine RW.nil ?_
 refine W.rg [(2, v5), (8, pp b1), (9, .int .i64 1), (10, .bool false), (11, pp b2), (13, pp b50), (14, .int .i64 65), (15, .bool true)] fun TA => ?_
 refine W.seq ?_
 refine W.seq ?_
 refine W.drawn (by kernel_rfl) (by kernel_rfl) H.gn ?_
 have H51 := H
 iterate 2 refine RW.v ?_
 refine RW.val (by rfl) (by kernel_rfl) rfl (by kernel_rfl) ?_
 refine RW.ldL H51 0 1 (by rfl) (by kernel_rfl) rfl rfl rfl rfl rfl (by kernel_rfl) ?_
 refine RW.val (by rfl) (by kernel_rfl) rfl (by kernel_rfl) ?_
 iterate 2 refine RW.v ?_
 refine RW.ldL H51 0 2 (by rfl) (by kernel_rfl) rfl rfl rfl rfl rfl (by kernel_rfl) ?_
 refine RW.cl (hw := by rfl) ?_
 refine WC.enter (fn := Tryd.f33) Tryd.func33 rfl ?_
 replace H := H51
 refine W.rg [] fun TA => ?_
 refine W.seq (W.region ?_)
 refine RW.mk H (.row ⟨[.int .i64 0, .int .i64 0], 28, false⟩) ?_
 clear H; intro _ b52 _ H
 refine RW.nil ?_
 refine W.rg [(0, pp b52)] fun TA => ?_
 refine W.seq (W.region ?_)
 refine RW.cl ?_
 refine WC.enter (fn := Tryd.f32) Tryd.func32 rfl ?_
 refine W.rg [(0, .int .i64 0)] fun TA => ?_
 refine W.seq (W.region ?_)
 refine RW.mk H (.row ⟨[.int .i64 0, .int .i64 0], 28, false⟩) ?_
 clear H; intro _ b53 _ H
 refine RW.nil ?_
 refine W.rg [(0, .int .i64 0), (2, pp b53)] fun TA => ?_
 refine W.seq (W.region ?_)
 refine RW.v ?_
 refine RW.val (v := .agg #[.int .i64 1, .int .i64 0]) (by kernel_rfl) (by kernel_rfl) (by kernel_rfl) (by kernel_rfl) ?_
 refine RW.st H 0 [.int .i64 1, .int .i64 0] [.int .i64 1, .int .i64 0] ?_
 clear H; intro _ _ H; dsimp only [setL, delL] at H
 refine RW.nil ?_
 refine W.ret ?_
 refine endG (by rfl) (by exact resL_cell rfl (H.get 0 rfl) (by rw [uT_eq]; exact Tryd.underlying28) (by kernel_rfl) rfl rfl rfl) ?_
 refine RW.st H 1 [.int .i64 1, .int .i64 0] [.int .i64 1, .int .i64 0] ?_
 clear H; intro _ _ H; dsimp only [setL, delL] at H
 refine RW.nil ?_
 replace H := (H.del 0)
 dsimp only [setL, delL] at H
 refine W.ret ?_
 refine endG (by rfl) (by exact resL_cell rfl (H.get 0 rfl) (by rw [uT_eq]; exact Tryd.underlying28) (by kernel_rfl) rfl rfl rfl) ?_
 have H54 := H
 refine RW.vop (v := .bool false) (by rfl) (by kernel_rfl) (vop_eqS (b := false) (r := false) rfl (.inl ⟨rfl, rfl⟩) rfl rfl rfl rfl (by kernel_rfl) (fun w => (eqWd _ _ _ _ w).trans (by simp <;> omega))) (by kernel_rfl) ?_
 iterate 2 refine RW.v ?_
 refine RW.val (by rfl) (by kernel_rfl) rfl (by kernel_rfl) ?_
 refine RW.val (by rfl) (by kernel_rfl) rfl (by kernel_rfl) ?_
 refine RW.v ?_
 refine RW.nil ?_
 refine ⟨⟨by kernel_rfl, ⟨trivial, trivial, trivial, dyn_row (H51.get 0 rfl) (H54.get 1 rfl) ⟨fun h => Bool.noConfusion h, fun h => Bool.noConfusion h, fun h => Bool.noConfusion h, fun h => Bool.noConfusion h, fun h => Bool.noConfusion h, fun h => Bool.noConfusion h, fun h => Bool.noConfusion h, fun h => Bool.noConfusion h, fun _ => H51.get 0 rfl, fun h => Bool.noConfusion h, fun h => Bool.noConfusion h, fun h => Bool.noConfusion h, fun h => Bool.noConfusion h, fun h => Bool.noConfusion h, fun h => Bool.noConfusion h, trivial⟩, trivial, trivial, trivial, dyn_row (H51.get 0 rfl) (H54.get 1 rfl) ⟨fun h => Bool.noConfusion h, fun h => Bool.noConfusion h, fun h => Bool.noConfusion h, fun h => Bool.noConfusion h, fun h => Bool.noConfusion h, fun h => Bool.noConfusion h, fun h => Bool.noConfusion h, fun h => Bool.noConfusion h, fun _ => H51.get 0 rfl, fun h => Bool.noConfusion h, fun h => Bool.noConfusion h, fun h => Bool.noConfusion h, fun h => Bool.noConfusion h, fun h => Bool.noConfusion h, fun h => Bool.noConfusion h, trivial⟩, trivial, trivial, trivial, trivial, trivial, trivial, trivial, trivial⟩⟩, ?_⟩
 replace H := H54
 clear H51 H54
 replace H := (H.del 0)
 dsimp only [setL, delL] at H
 refine W.c0 ?_
 refine W.skip ?_
 refine W.seq ?_
 refine W.seq ?_
 refine W.drawn (by kernel_rfl) (by kernel_rfl) H.gn ?_
 have H55 := H
 refine RW.ld H55 2 4 ?_
 iterate 2 refine RW.v ?_
 refine RW.cl ?_
 refine WC.enter (fn := Tryd.f32) Tryd.func32 rfl ?_
 replace H := H55
 refine W.rg [(0, .int .i64 65)] fun TA => ?_
 refine W.seq (W.region ?_)
 refine RW.mk H (.row ⟨[.int .i64 0, .int .i64 0], 28, false⟩) ?_
 clear H; intro _ b56 _ H
 refine RW.nil ?_
 refine W.rg [(0, .int .i64 65), (2, pp b56)] fun TA => ?_
 refine W.seq (W.region ?_)
 refine RW.v ?_
 refine RW.val (v := .agg #[.int .i64 1, .int .i64 65]) (by kernel_rfl) (by kernel_rfl) (by kernel_rfl) (by kernel_rfl) ?_
 refine RW.st H 0 [.int .i64 1, .int .i64 65] [.int .i64 1, .int .i64 65] ?_
 clear H; intro _ _ H; dsimp only [setL, delL] at H
 refine RW.nil ?_
 refine W.ret ?_
 refine endG (by rfl) (by exact resL_cell rfl (H.get 0 rfl) (by rw [uT_eq]; exact Tryd.underlying28) (by kernel_rfl) rfl rfl rfl) ?_
 have H57 := H
 refine RW.ld H57 1 2 ?_
 refine RW.mkD H57 (x := .row ⟨[.int .i64 1, .int .i64 65, .int .i64 1, .int .i64 xn], 28, false⟩) (fm := fun b => .slice (some ⟨b, 0, none⟩) 2 2) (by kernel_rfl) (by kernel_rfl) (by kernel_rfl) (by kernel_rfl) ?_
 intro _ b58 H59
 refine RW.cl ?_
 refine WC.enter (fn := Tryd.f44) Tryd.func44 rfl ?_
 replace H := H59
 refine W.rg [(0, .agg #[pp h, pp T, .int .i64 1, .int .i64 66]), (1, v5), (2, .slice (some ⟨b58, 0, none⟩) 2 2)] fun TA => ?_
 refine W.seq (W.region ?_)
 refine RW.mk H (.row ⟨[pt h, pt T, .int .i64 1, .int .i64 66], 65, false⟩) ?_
 clear H; intro _ b60 _ H
 refine RW.mk H (.row ⟨[.int .i64 0, .int .i64 0], 28, false⟩) ?_
 clear H; intro _ b61 _ H
 iterate 2 refine RW.v ?_
 refine RW.nil ?_
 replace H := (H.del 3)
 dsimp only [setL, delL] at H
 refine W.rg [(1, v5), (2, .slice (some ⟨b58, 0, none⟩) 2 2), (3, pp b60), (6, pp b61)] fun TA => ?_
 refine W.seq ?_
 refine W.seq (W.region ?_)
 iterate 3 refine RW.v ?_
 refine RW.nil ?_
 refine W.rg [(1, v5), (2, .slice (some ⟨b58, 0, none⟩) 2 2), (3, pp b60), (6, pp b61), (13, .slice (some ⟨b58, 0, none⟩) 2 2), (14, .int .i64 2), (15, .int .i64 0)] fun TA => ?_
 refine W.block ?_
 refine W.unroll (WL.once ?_)
 refine W.seq (W.region ?_)
 refine RW.v ?_
 refine RW.nil ?_
 refine W.rg [(1, v5), (2, .slice (some ⟨b58, 0, none⟩) 2 2), (3, pp b60), (6, pp b61), (13, .slice (some ⟨b58, 0, none⟩) 2 2), (14, .int .i64 2), (15, .int .i64 0), (16, .bool true)] fun TA => ?_
 refine W.seq ?_
 refine W.c1 ?_
 refine W.skip ?_
 refine W.seq ?_
 refine W.block ?_
 refine W.seq (W.region ?_)
 refine RW.v ?_
 refine RW.idx (s := 2) (by kernel_rfl) (by kernel_rfl) rfl Tryd.underlying35 (by kernel_rfl) rfl rfl ⟨by decide, by decide⟩ (by kernel_rfl) ?_
 refine RW.ld H 2 2 ?_
 refine RW.mk H (.row ⟨[.int .i64 0, .int .i64 0], 28, false⟩) ?_
 clear H; intro _ b62 _ H
 refine RW.v ?_
 refine RW.st H 0 [.int .i64 1, .int .i64 65] [.int .i64 1, .int .i64 65] ?_
 clear H; intro _ _ H; dsimp only [setL, delL] at H
 refine RW.nil ?_
 refine W.rg [(1, v5), (2, .slice (some ⟨b58, 0, none⟩) 2 2), (3, pp b60), (6, pp b61), (9, .int .i64 0), (10, pp b62), (13, .slice (some ⟨b58, 0, none⟩) 2 2), (14, .int .i64 2), (15, .int .i64 0)] fun TA => ?_
 refine W.seq (W.region ?_)
 refine RW.ld H 2 4 ?_
 refine RW.v ?_
 refine RW.ld H 0 2 ?_
 refine RW.cl ?_
 refine WC.enter (fn := Tryd.f56) Tryd.func56 rfl ?_
 refine W.rg [(0, .agg #[pp h, pp T, .int .i64 1, .int .i64 66]), (1, v5), (2, .agg #[.int .i64 1, .int .i64 65])] fun TA => ?_
 refine W.seq (W.region ?_)
 refine RW.mk H (.row ⟨[pt h, pt T, .int .i64 1, .int .i64 66], 65, false⟩) ?_
 clear H; intro _ b63 _ H
 refine RW.mk H (.row ⟨[.int .i64 1, .int .i64 65], 28, false⟩) ?_
 clear H; intro _ b64 _ H
 refine RW.mk H (.row ⟨[.int .i64 0, .int .i64 0], 28, false⟩) ?_
 clear H; intro _ b65 _ H
 refine RW.v ?_
 refine RW.nil ?_
 refine W.rg [(1, v5), (3, pp b63), (5, pp b64), (6, pp b65)] fun TA => ?_
 refine W.seq (W.region ?_)
 refine RW.cl ?_
 refine WC.enter (fn := Tryd.f33) Tryd.func33 rfl ?_
 refine W.rg [] fun TA => ?_
 refine W.seq (W.region ?_)
 refine RW.mk H (.row ⟨[.int .i64 0, .int .i64 0], 28, false⟩) ?_
 clear H; intro _ b66 _ H
 refine RW.nil ?_
 refine W.rg [(0, pp b66)] fun TA => ?_
 refine W.seq (W.region ?_)
 refine RW.cl ?_
 refine WC.enter (fn := Tryd.f32) Tryd.func32 rfl ?_
 refine W.rg [(0, .int .i64 0)] fun TA => ?_
 refine W.seq (W.region ?_)
 refine RW.mk H (.row ⟨[.int .i64 0, .int .i64 0], 28, false⟩) ?_
 clear H; intro _ b67 _ H
 refine RW.nil ?_
 refine W.rg [(0, .int .i64 0), (2, pp b67)] fun TA => ?_
 refine W.seq (W.region ?_)
 refine RW.v ?_
 refine RW.val (v := .agg #[.int .i64 1, .int .i64 0]) (by kernel_rfl) (by kernel_rfl) (by kernel_rfl) (by kernel_rfl) ?_
 refine RW.st H 0 [.int .i64 1, .int .i64 0] [.int .i64 1, .int .i64 0] ?_
 clear H; intro _ _ H; dsimp only [setL, delL] at H
 refine RW.nil ?_
 refine W.ret ?_
 refine endG (by rfl) (by exact resL_cell rfl (H.get 0 rfl) (by rw [uT_eq]; exact Tryd.underlying28) (by kernel_rfl) rfl rfl rfl) ?_
 refine RW.st H 1 [.int .i64 1, .int .i64 0] [.int .i64 1, .int .i64 0] ?_
 clear H; intro _ _ H; dsimp only [setL, delL] at H
 refine RW.nil ?_
 replace H := (H.del 0)
 dsimp only [setL, delL] at H
 refine W.ret ?_
 refine endG (by rfl) (by exact resL_cell rfl (H.get 0 rfl) (by rw [uT_eq]; exact Tryd.underlying28) (by kernel_rfl) rfl rfl rfl) ?_
 refine RW.mk H (.row ⟨[.int .i64 0, .int .i64 0], 28, false⟩) ?_
 clear H; intro _ b68 _ H
 refine RW.st H 0 [.int .i64 1, .int .i64 0] [.int .i64 1, .int .i64 0] ?_
 clear H; intro _ _ H; dsimp only [setL, delL] at H
 refine RW.nil ?_
 replace H := (H.del 1)
 dsimp only [setL, delL] at H
 refine W.rg [(1, v5), (3, pp b63), (5, pp b64), (6, pp b65), (8, pp b68)] fun TA => ?_
 refine W.seq (W.region ?_)
 refine RW.v ?_
 refine RW.nil ?_
 refine W.rg [(1, v5), (3, pp b63), (5, pp b64), (6, pp b65), (8, pp b68), (9, .slice none 0 0)] fun TA => ?_
 refine W.seq ?_
 refine W.seq (W.region ?_)
 refine RW.v ?_
 refine RW.len (by kernel_rfl) (by kernel_rfl) rfl rfl rfl rfl ((H.sl 9 rfl).len (by kernel_rfl)) (by kernel_rfl) ?_
 refine RW.v ?_
 refine RW.nil ?_
 refine W.rg [(3, pp b63), (5, pp b64), (6, pp b65), (8, pp b68), (9, .slice none 0 0), (16, v5), (17, .int .i64 2), (18, .int .i64 0)] fun TA => ?_
 refine W.block ?_
 refine W.unroll (WL.once ?_)
 refine W.seq (W.region ?_)
 refine RW.v ?_
 refine RW.nil ?_
 refine W.rg [(3, pp b63), (5, pp b64), (6, pp b65), (8, pp b68), (9, .slice none 0 0), (16, v5), (17, .int .i64 2), (18, .int .i64 0), (19, .bool true)] fun TA => ?_
 refine W.seq ?_
 refine W.c1 ?_
 refine W.skip ?_
 refine W.seq ?_
 refine W.block ?_
 refine W.seq (W.region ?_)
 refine RW.idxG H 9 rfl (by kernel_rfl) (by kernel_rfl) rfl Tryd.underlying35 (by kernel_rfl) rfl rfl ⟨by decide, by decide⟩ (by kernel_rfl) ?_
 intro b69 q70 r71 hF72 hE73
 replace hE73 : (r71.cs.drop q70).take 2 = [.int .i64 2, .int .i64 0] := hE73.trans (by kernel_rfl)
 refine RW.loads 2 (by kernel_rfl) (by kernel_rfl) rfl rfl (hF72) hE73 rfl (by kernel_rfl) ?_
 refine RW.mk H (.row ⟨[.int .i64 0, .int .i64 0], 28, false⟩) ?_
 clear H; intro _ b74 _ H
 refine RW.st H 0 [.int .i64 2, .int .i64 0] [.int .i64 2, .int .i64 0] ?_
 clear H; intro _ _ H; dsimp only [setL, delL] at H
 refine RW.nil ?_
 refine W.rg [(3, pp b63), (5, pp b64), (6, pp b65), (8, pp b68), (9, .slice none 0 0), (11, pp b74), (16, v5), (17, .int .i64 2), (18, .int .i64 0)] fun TA => ?_
 refine W.seq (W.region ?_)
 refine RW.ld H 4 4 ?_
 refine RW.ld H 0 2 ?_
 refine RW.ld H 3 2 ?_
 refine RW.cl ?_
 refine ((bound_wc (h := h) (T := T) (ev := ((1, 65) : Wd)) mp5 (Nat.le_of_ble_eq_true rfl) (fun j hj => by match j, hj with | 0, _ => (simp <;> omega) | j + 1, hj => exact absurd hj (by simp)) H.gn H.abs).mono ?_)
 rintro _ _ ⟨e, K⟩
 replace H := H.then K
 clear K
 dsimp only [List.nil_append, List.cons_append] at H
 replace e := e.trans (congrArg wdV (show _ = ((1, 0) : Wd) from ((boundP_no (by simp [pB] <;> omega)).trans boundP_nil)))
 subst e
 refine RW.mk H (.row ⟨[.int .i64 0, .int .i64 0], 28, false⟩) ?_
 clear H; intro _ b75 _ H
 refine RW.st H 0 [.int .i64 1, .int .i64 0] [.int .i64 1, .int .i64 0] ?_
 clear H; intro _ _ H; dsimp only [setL, delL] at H
 refine RW.nil ?_
 replace H := (H.del 1)
 dsimp only [setL, delL] at H
 refine W.rg [(3, pp b63), (5, pp b64), (6, pp b65), (8, pp b68), (9, .slice none 0 0), (12, pp b75), (16, v5), (17, .int .i64 2), (18, .int .i64 0)] fun TA => ?_
 refine W.seq ?_
 refine W.seq ?_
 refine W.drawn (by kernel_rfl) (by kernel_rfl) H.gn ?_
 have H76 := H
 refine RW.ld H76 0 2 ?_
 refine RW.cl ?_
 refine WC.enter (fn := Tryd.f33) Tryd.func33 rfl ?_
 replace H := H76
 refine W.rg [] fun TA => ?_
 refine W.seq (W.region ?_)
 refine RW.mk H (.row ⟨[.int .i64 0, .int .i64 0], 28, false⟩) ?_
 clear H; intro _ b77 _ H
 refine RW.nil ?_
 refine W.rg [(0, pp b77)] fun TA => ?_
 refine W.seq (W.region ?_)
 refine RW.cl ?_
 refine WC.enter (fn := Tryd.f32) Tryd.func32 rfl ?_
 refine W.rg [(0, .int .i64 0)] fun TA => ?_
 refine W.seq (W.region ?_)
 refine RW.mk H (.row ⟨[.int .i64 0, .int .i64 0], 28, false⟩) ?_
 clear H; intro _ b78 _ H
 refine RW.nil ?_
 refine W.rg [(0, .int .i64 0), (2, pp b78)] fun TA => ?_
 refine W.seq (W.region ?_)
 refine RW.v ?_
 refine RW.val (v := .agg #[.int .i64 1, .int .i64 0]) (by kernel_rfl) (by kernel_rfl) (by kernel_rfl) (by kernel_rfl) ?_
 refine RW.st H 0 [.int .i64 1, .int .i64 0] [.int .i64 1, .int .i64 0] ?_
 clear H; intro _ _ H; dsimp only [setL, delL] at H
 refine RW.nil ?_
 refine W.ret ?_
 refine endG (by rfl) (by exact resL_cell rfl (H.get 0 rfl) (by rw [uT_eq]; exact Tryd.underlying28) (by kernel_rfl) rfl rfl rfl) ?_
 refine RW.st H 1 [.int .i64 1, .int .i64 0] [.int .i64 1, .int .i64 0] ?_
 clear H; intro _ _ H; dsimp only [setL, delL] at H
 refine RW.nil ?_
 replace H := (H.del 0)
 dsimp only [setL, delL] at H
 refine W.ret ?_
 refine endG (by rfl) (by exact resL_cell rfl (H.get 0 rfl) (by rw [uT_eq]; exact Tryd.underlying28) (by kernel_rfl) rfl rfl rfl) ?_
 have H79 := H
 refine RW.vop (v := .bool true) (by kernel_rfl) (by kernel_rfl) (vop_eqS (b := true) (r := true) rfl (.inl ⟨rfl, rfl⟩) rfl rfl rfl rfl (by kernel_rfl) (fun w => (eqWd _ _ _ _ w).trans (by simp))) (by kernel_rfl) ?_
 refine RW.nil ?_
 refine ⟨⟨by kernel_rfl, ⟨dyn_row (H76.get 0 rfl) (H79.get 1 rfl) ⟨fun h => Bool.noConfusion h, fun _ => H76.get 0 rfl, fun h => Bool.noConfusion h, trivial⟩, trivial, trivial, trivial⟩⟩, ?_⟩
 replace H := H79
 clear H76 H79
 replace H := (H.del 0)
 dsimp only [setL, delL] at H
 refine W.c1 ?_
 refine W.exit _ ?_
 refine seqQ_exit ?_
 refine blkQ_here ?_
 refine W.region ?_
 iterate 2 refine RW.v ?_
 refine RW.nil ?_
 replace H := (H.del 0)
 dsimp only [setL, delL] at H
 refine WL.once ?_
 refine W.rg [(3, pp b63), (5, pp b64), (6, pp b65), (8, pp b68), (9, .slice none 0 0), (16, v5), (17, .int .i64 2), (18, .int .i64 1)] fun TA => ?_
 refine W.seq (W.region ?_)
 refine RW.v ?_
 refine RW.nil ?_
 refine W.rg [(3, pp b63), (5, pp b64), (6, pp b65), (8, pp b68), (9, .slice none 0 0), (16, v5), (17, .int .i64 2), (18, .int .i64 1), (19, .bool true)] fun TA => ?_
 refine W.seq ?_
 refine W.c1 ?_
 refine W.skip ?_
 refine W.seq ?_
 refine W.block ?_
 refine W.seq (W.region ?_)
 refine RW.idxG H 9 rfl (by kernel_rfl) (by kernel_rfl) rfl Tryd.underlying35 (by kernel_rfl) rfl rfl ⟨by decide, by decide⟩ (by kernel_rfl) ?_
 intro b80 q81 r82 hF83 hE84
 replace hE84 : (r82.cs.drop q81).take 2 = [.int .i64 2, .int .i64 1] := hE84.trans (by kernel_rfl)
 refine RW.loads 2 (by kernel_rfl) (by kernel_rfl) rfl rfl (hF83) hE84 rfl (by kernel_rfl) ?_
 refine RW.mk H (.row ⟨[.int .i64 0, .int .i64 0], 28, false⟩) ?_
 clear H; intro _ b85 _ H
 refine RW.st H 0 [.int .i64 2, .int .i64 1] [.int .i64 2, .int .i64 1] ?_
 clear H; intro _ _ H; dsimp only [setL, delL] at H
 refine RW.nil ?_
 refine W.rg [(3, pp b63), (5, pp b64), (6, pp b65), (8, pp b68), (9, .slice none 0 0), (11, pp b85), (16, v5), (17, .int .i64 2), (18, .int .i64 1)] fun TA => ?_
 refine W.seq (W.region ?_)
 refine RW.ld H 4 4 ?_
 refine RW.ld H 0 2 ?_
 refine RW.ld H 3 2 ?_
 refine RW.cl ?_
 refine ((bound_wc (h := h) (T := T) (ev := ((1, 65) : Wd)) mp6 (Nat.le_of_ble_eq_true rfl) (fun j hj => by match j, hj with | 0, _ => (simp <;> omega) | j + 1, hj => exact absurd hj (by simp)) H.gn H.abs).mono ?_)
 rintro _ _ ⟨e, K⟩
 replace H := H.then K
 clear K
 dsimp only [List.nil_append, List.cons_append] at H
 replace e := e.trans (congrArg wdV (show _ = ((2, 4) : Wd) from (boundP_yes (by simp [pB] <;> omega))))
 subst e
 refine RW.mk H (.row ⟨[.int .i64 0, .int .i64 0], 28, false⟩) ?_
 clear H; intro _ b86 _ H
 refine RW.st H 0 [.int .i64 2, .int .i64 4] [.int .i64 2, .int .i64 4] ?_
 clear H; intro _ _ H; dsimp only [setL, delL] at H
 refine RW.nil ?_
 replace H := (H.del 1)
 dsimp only [setL, delL] at H
 refine W.rg [(3, pp b63), (5, pp b64), (6, pp b65), (8, pp b68), (9, .slice none 0 0), (12, pp b86), (16, v5), (17, .int .i64 2), (18, .int .i64 1)] fun TA => ?_
 refine W.seq ?_
 refine W.seq ?_
 refine W.drawn (by kernel_rfl) (by kernel_rfl) H.gn ?_
 have H87 := H
 refine RW.ld H87 0 2 ?_
 refine RW.cl ?_
 refine WC.enter (fn := Tryd.f33) Tryd.func33 rfl ?_
 replace H := H87
 refine W.rg [] fun TA => ?_
 refine W.seq (W.region ?_)
 refine RW.mk H (.row ⟨[.int .i64 0, .int .i64 0], 28, false⟩) ?_
 clear H; intro _ b88 _ H
 refine RW.nil ?_
 refine W.rg [(0, pp b88)] fun TA => ?_
 refine W.seq (W.region ?_)
 refine RW.cl ?_
 refine WC.enter (fn := Tryd.f32) Tryd.func32 rfl ?_
 refine W.rg [(0, .int .i64 0)] fun TA => ?_
 refine W.seq (W.region ?_)
 refine RW.mk H (.row ⟨[.int .i64 0, .int .i64 0], 28, false⟩) ?_
 clear H; intro _ b89 _ H
 refine RW.nil ?_
 refine W.rg [(0, .int .i64 0), (2, pp b89)] fun TA => ?_
 refine W.seq (W.region ?_)
 refine RW.v ?_
 refine RW.val (v := .agg #[.int .i64 1, .int .i64 0]) (by kernel_rfl) (by kernel_rfl) (by kernel_rfl) (by kernel_rfl) ?_
 refine RW.st H 0 [.int .i64 1, .int .i64 0] [.int .i64 1, .int .i64 0] ?_
 clear H; intro _ _ H; dsimp only [setL, delL] at H
 refine RW.nil ?_
 refine W.ret ?_
 refine endG (by rfl) (by exact resL_cell rfl (H.get 0 rfl) (by rw [uT_eq]; exact Tryd.underlying28) (by kernel_rfl) rfl rfl rfl) ?_
 refine RW.st H 1 [.int .i64 1, .int .i64 0] [.int .i64 1, .int .i64 0] ?_
 clear H; intro _ _ H; dsimp only [setL, delL] at H
 refine RW.nil ?_
 replace H := (H.del 0)
 dsimp only [setL, delL] at H
 refine W.ret ?_
 refine endG (by rfl) (by exact resL_cell rfl (H.get 0 rfl) (by rw [uT_eq]; exact Tryd.underlying28) (by kernel_rfl) rfl rfl rfl) ?_
 have H90 := H
 refine RW.vop (v := .bool false) (by kernel_rfl) (by kernel_rfl) (vop_eqS (b := false) (r := false) rfl (.inl ⟨rfl, rfl⟩) rfl rfl rfl rfl (by kernel_rfl) (fun w => (eqWd _ _ _ _ w).trans (by simp))) (by kernel_rfl) ?_
 refine RW.nil ?_
 refine ⟨⟨by kernel_rfl, ⟨dyn_row (H87.get 0 rfl) (H90.get 1 rfl) ⟨fun h => Bool.noConfusion h, fun _ => H87.get 0 rfl, fun h => Bool.noConfusion h, trivial⟩, trivial, trivial, trivial⟩⟩, ?_⟩
 replace H := H90
 clear H87 H90
 replace H := (H.del 0)
 dsimp only [setL, delL] at H
 refine W.c0 ?_
 refine W.skip ?_
 refine W.seq (W.region ?_)
 refine RW.ld H 4 4 ?_
 refine RW.ld H 0 2 ?_
 refine RW.cl ?_
 refine WC.enter (fn := Tryd.f52) Tryd.func52 rfl ?_
 refine W.rg [(0, .agg #[pp h, pp T, .int .i64 1, .int .i64 66]), (1, .agg #[.int .i64 2, .int .i64 4])] fun TA => ?_
 refine W.seq (W.region ?_)
 refine RW.mk H (.row ⟨[pt h, pt T, .int .i64 1, .int .i64 66], 65, false⟩) ?_
 clear H; intro _ b91 _ H
 refine RW.mk H (.row ⟨[.int .i64 2, .int .i64 4], 28, false⟩) ?_
 clear H; intro _ b92 _ H
 refine RW.mk H (.row ⟨[.int .i64 0, .int .i64 0], 28, false⟩) ?_
 clear H; intro _ b93 _ H
 refine RW.v ?_
 refine RW.nil ?_
 refine W.rg [(2, pp b91), (3, pp b92), (4, pp b93)] fun TA => ?_
 refine W.seq ?_
 refine W.seq (W.region ?_)
 refine RW.v ?_
 refine RW.ld H 1 1 ?_
 refine RW.v ?_
 refine RW.nil ?_
 refine W.c0 ?_
 refine W.skip ?_
 refine W.seq ?_
 refine W.drawn (by kernel_rfl) (by kernel_rfl) H.gn ?_
 have H94 := H
 refine RW.ld H94 1 2 ?_
 refine RW.ld H94 2 4 ?_
 refine RW.ld H94 1 2 ?_
 refine RW.cl ?_
 refine ((isMap_y (h := h) (T := T) (w := (2, 4)) (d := ((2, 10) : Wd)) rfl H94).mono ?_)
 rintro _ _ ⟨rfl, H95⟩
 refine RW.stD H95 0 (vs := [.int .i64 2, .int .i64 4]) (cs' := [.int .i64 2, .int .i64 4]) (by kernel_rfl) (by kernel_rfl) rfl rfl rfl rfl rfl (by kernel_rfl) (Nat.le_of_ble_eq_true rfl) rfl (by kernel_rfl) ?_
 intro _ H96
 dsimp only [setL, delL] at H96
 refine RW.v ?_
 refine RW.nil ?_
 refine ⟨⟨by kernel_rfl, ⟨dyn_row (H94.get 1 rfl) (H96.get 1 rfl) ⟨fun h => Bool.noConfusion h, fun h => Bool.noConfusion h, fun h => Bool.noConfusion h, fun _ => H94.get 1 rfl, fun _ => H95.get 1 rfl, fun h => Bool.noConfusion h, trivial⟩, dyn_row (H94.get 2 rfl) (H96.get 2 rfl) ⟨fun h => Bool.noConfusion h, fun h => Bool.noConfusion h, fun h => Bool.noConfusion h, fun _ => H94.get 2 rfl, fun _ => H95.get 2 rfl, fun h => Bool.noConfusion h, trivial⟩, dyn_row (H94.get 1 rfl) (H96.get 1 rfl) ⟨fun h => Bool.noConfusion h, fun h => Bool.noConfusion h, fun h => Bool.noConfusion h, fun _ => H94.get 1 rfl, fun _ => H95.get 1 rfl, fun h => Bool.noConfusion h, trivial⟩, trivial, trivial, trivial, trivial⟩⟩, ?_⟩
 replace H := H96
 clear H94 H95 H96
 replace H := ((H.del 2).del 1)
 dsimp only [setL, delL] at H
 refine W.ret ?_
 refine endG (by rfl) (by exact resL_cell rfl (H.get 0 rfl) (by rw [uT_eq]; exact Tryd.underlying28) (by kernel_rfl) rfl rfl (by exact resL_tmp rfl)) ?_
 iterate 3 refine RW.v ?_
 refine RW.mk H (.row ⟨[.int .i64 0, .int .i64 0], 28, false⟩) ?_
 clear H; intro _ b97 _ H
 refine RW.st H 0 [.int .i64 2, .int .i64 4] [.int .i64 2, .int .i64 4] ?_
 clear H; intro _ _ H; dsimp only [setL, delL] at H
 refine RW.v ?_
 refine RW.nil ?_
 replace H := (H.del 1)
 dsimp only [setL, delL] at H
 refine W.rg [(3, pp b63), (5, pp b64), (6, pp b65), (8, pp b68), (9, .slice none 0 0), (12, pp b86), (13, pp b97), (14, .bool true), (16, v5), (17, .int .i64 2), (18, .int .i64 1)] fun TA => ?_
 refine W.seq ?_
 refine W.seq ?_
 refine W.drawn (by kernel_rfl) (by kernel_rfl) H.gn ?_
 have H98 := H
 refine RW.ld H98 2 2 ?_
 refine RW.cl ?_
 refine WC.enter (fn := Tryd.f33) Tryd.func33 rfl ?_
 replace H := H98
 refine W.rg [] fun TA => ?_
 refine W.seq (W.region ?_)
 refine RW.mk H (.row ⟨[.int .i64 0, .int .i64 0], 28, false⟩) ?_
 clear H; intro _ b99 _ H
 refine RW.nil ?_
 refine W.rg [(0, pp b99)] fun TA => ?_
 refine W.seq (W.region ?_)
 refine RW.cl ?_
 refine WC.enter (fn := Tryd.f32) Tryd.func32 rfl ?_
 refine W.rg [(0, .int .i64 0)] fun TA => ?_
 refine W.seq (W.region ?_)
 refine RW.mk H (.row ⟨[.int .i64 0, .int .i64 0], 28, false⟩) ?_
 clear H; intro _ b100 _ H
 refine RW.nil ?_
 refine W.rg [(0, .int .i64 0), (2, pp b100)] fun TA => ?_
 refine W.seq (W.region ?_)
 refine RW.v ?_
 refine RW.val (v := .agg #[.int .i64 1, .int .i64 0]) (by kernel_rfl) (by kernel_rfl) (by kernel_rfl) (by kernel_rfl) ?_
 refine RW.st H 0 [.int .i64 1, .int .i64 0] [.int .i64 1, .int .i64 0] ?_
 clear H; intro _ _ H; dsimp only [setL, delL] at H
 refine RW.nil ?_
 refine W.ret ?_
 refine endG (by rfl) (by exact resL_cell rfl (H.get 0 rfl) (by rw [uT_eq]; exact Tryd.underlying28) (by kernel_rfl) rfl rfl rfl) ?_
 refine RW.st H 1 [.int .i64 1, .int .i64 0] [.int .i64 1, .int .i64 0] ?_
 clear H; intro _ _ H; dsimp only [setL, delL] at H
 refine RW.nil ?_
 replace H := (H.del 0)
 dsimp only [setL, delL] at H
 refine W.ret ?_
 refine endG (by rfl) (by exact resL_cell rfl (H.get 0 rfl) (by rw [uT_eq]; exact Tryd.underlying28) (by kernel_rfl) rfl rfl rfl) ?_
 have H101 := H
 refine RW.vop (v := .bool true) (by kernel_rfl) (by kernel_rfl) (vop_eqS (b := true) (r := true) rfl (.inl ⟨rfl, rfl⟩) rfl rfl rfl rfl (by kernel_rfl) (fun w => (eqWd _ _ _ _ w).trans (by simp))) (by kernel_rfl) ?_
 refine RW.nil ?_
 refine ⟨⟨by kernel_rfl, ⟨dyn_row (H98.get 2 rfl) (H101.get 3 rfl) ⟨fun h => Bool.noConfusion h, fun _ => H98.get 2 rfl, fun h => Bool.noConfusion h, trivial⟩, trivial, trivial, trivial⟩⟩, ?_⟩
 replace H := H101
 clear H98 H101
 replace H := (H.del 0)
 dsimp only [setL, delL] at H
 refine W.c1 ?_
 refine W.seq (W.region ?_)
 refine RW.ld H 1 2 ?_
 refine RW.st H 2 [.int .i64 2, .int .i64 4] [.int .i64 2, .int .i64 4] ?_
 clear H; intro _ _ H; dsimp only [setL, delL] at H
 refine RW.nil ?_
 replace H := (H.del 1)
 dsimp only [setL, delL] at H
 refine W.rg [(3, pp b63), (5, pp b64), (6, pp b65), (8, pp b68), (9, .slice none 0 0), (13, pp b97), (14, .bool true), (16, v5), (17, .int .i64 2), (18, .int .i64 1)] fun TA => ?_
 refine W.seq (W.region ?_)
 iterate 2 refine RW.v ?_
 refine RW.nil ?_
 refine W.c0 ?_
 refine W.skip ?_
 refine W.seq (W.region ?_)
 refine RW.v ?_
 refine RW.nil ?_
 refine W.c1 ?_
 refine W.region ?_
 refine RW.v ?_
 refine RW.ld H 0 2 ?_
 refine RW.mkL H (x := .row ⟨[.int .i64 2, .int .i64 4], 28, false⟩) (fm := fun b => .slice (some ⟨b, 0, none⟩) 1 1) (by kernel_rfl) (by kernel_rfl) (by kernel_rfl) (by kernel_rfl) ?_
 clear H; intro _ b102 _ H
 replace H := H.nilSl 28 2
 refine RW.appL H 0 1 (n := 1) (e2 := 28) (by kernel_rfl) (by kernel_rfl) rfl rfl rfl rfl rfl rfl rfl rfl (by kernel_rfl) (by kernel_rfl) (by kernel_rfl) (by decide) (by decide) rfl rfl (by omega) (by kernel_rfl) ?_
 clear H; intro _ v103 _ H
 dsimp only [setL, delL] at H
 refine RW.v ?_
 refine RW.nil ?_
 replace H := (H.del 1)
 dsimp only [setL, delL] at H
 refine blkQ_normal ?_
 refine W.rg [(3, pp b63), (5, pp b64), (6, pp b65), (8, pp b68), (9, v103), (16, v5), (17, .int .i64 2), (18, .int .i64 1)] fun TA => ?_
 refine W.region ?_
 iterate 2 refine RW.v ?_
 refine RW.nil ?_
 refine WL.once ?_
 refine W.rg [(3, pp b63), (5, pp b64), (6, pp b65), (8, pp b68), (9, v103), (16, v5), (17, .int .i64 2), (18, .int .i64 2)] fun TA => ?_
 refine W.seq (W.region ?_)
 refine RW.v ?_
 refine RW.nil ?_
 refine W.rg [(3, pp b63), (5, pp b64), (6, pp b65), (8, pp b68), (9, v103), (16, v5), (17, .int .i64 2), (18, .int .i64 2), (19, .bool false)] fun TA => ?_
 refine W.seq ?_
 refine W.c0 ?_
 refine W.exit _ ?_
 refine seqQ_exit ?_
 refine onceQ_exit ?_
 refine blkQ_here ?_
 refine W.seq (W.region ?_)
 refine RW.ld H 1 2 ?_
 refine RW.v ?_
 refine RW.st H 2 [.int .i64 2, .int .i64 4] [.int .i64 2, .int .i64 4] ?_
 clear H; intro _ _ H; dsimp only [setL, delL] at H
 refine RW.v ?_
 refine RW.nil ?_
 replace H := (((H.del 4).del 3).del 1)
 dsimp only [setL, delL] at H
 refine W.ret ?_
 refine endG (by rfl) (by exact resL_cell rfl (H.get 1 rfl) (by rw [uT_eq]; exact Tryd.underlying28) (by kernel_rfl) rfl rfl (by exact resL_tmp rfl)) ?_
 iterate 3 refine RW.v ?_
 refine RW.mk H (.row ⟨[.int .i64 0, .int .i64 0], 28, false⟩) ?_
 clear H; intro _ b104 _ H
 refine RW.st H 0 [.int .i64 2, .int .i64 4] [.int .i64 2, .int .i64 4] ?_
 clear H; intro _ _ H; dsimp only [setL, delL] at H
 refine RW.v ?_
 refine RW.nil ?_
 replace H := ((H.del 3).del 2)
 dsimp only [setL, delL] at H
 refine W.rg [(2, .slice (some ⟨b58, 0, none⟩) 2 2), (3, pp b60), (6, pp b61), (9, .int .i64 0), (11, pp b104), (12, v103), (13, .slice (some ⟨b58, 0, none⟩) 2 2), (14, .int .i64 2), (15, .int .i64 0)] fun TA => ?_
 refine W.seq ?_
 refine W.seq (W.region ?_)
 refine RW.v ?_
 refine RW.len (by kernel_rfl) (by kernel_rfl) rfl rfl rfl rfl ((H.sl 1 rfl).len (by kernel_rfl)) (by kernel_rfl) ?_
 refine RW.v ?_
 refine RW.nil ?_
 refine W.c0 ?_
 refine W.skip ?_
 refine W.region ?_
 iterate 2 refine RW.v ?_
 refine RW.nil ?_
 replace H := (H.del 0)
 dsimp only [setL, delL] at H
 refine blkQ_normal ?_
 refine W.rg [(1, v103), (2, .slice (some ⟨b58, 0, none⟩) 2 2), (3, pp b60), (6, pp b61), (13, .slice (some ⟨b58, 0, none⟩) 2 2), (14, .int .i64 2), (15, .int .i64 0)] fun TA => ?_
 refine W.region ?_
 iterate 2 refine RW.v ?_
 refine RW.nil ?_
 refine WL.once ?_
 refine W.rg [(1, v103), (2, .slice (some ⟨b58, 0, none⟩) 2 2), (3, pp b60), (6, pp b61), (13, .slice (some ⟨b58, 0, none⟩) 2 2), (14, .int .i64 2), (15, .int .i64 1)] fun TA => ?_
 refine W.seq (W.region ?_)
 refine RW.v ?_
 refine RW.nil ?_
 refine W.rg [(1, v103), (2, .slice (some ⟨b58, 0, none⟩) 2 2), (3, pp b60), (6, pp b61), (13, .slice (some ⟨b58, 0, none⟩) 2 2), (14, .int .i64 2), (15, .int .i64 1), (16, .bool true)] fun TA => ?_
 refine W.seq ?_
 refine W.c1 ?_
 refine W.skip ?_
 refine W.seq ?_
 refine W.block ?_
 refine W.seq (W.region ?_)
 refine RW.v ?_
 refine RW.idx (s := 2) (by kernel_rfl) (by kernel_rfl) rfl Tryd.underlying35 (by kernel_rfl) rfl rfl ⟨by decide, by decide⟩ (by kernel_rfl) ?_
 refine RW.ld H 3 2 ?_
 refine RW.mk H (.row ⟨[.int .i64 0, .int .i64 0], 28, false⟩) ?_
 clear H; intro _ b105 _ H
 refine RW.v ?_
 refine RW.st H 0 [.int .i64 1, .int .i64 xn] [.int .i64 1, .int .i64 xn] ?_
 clear H; intro _ _ H; dsimp only [setL, delL] at H
 refine RW.nil ?_
 refine W.rg [(1, v103), (2, .slice (some ⟨b58, 0, none⟩) 2 2), (3, pp b60), (6, pp b61), (9, .int .i64 1), (10, pp b105), (13, .slice (some ⟨b58, 0, none⟩) 2 2), (14, .int .i64 2), (15, .int .i64 1)] fun TA => ?_
 refine W.seq (W.region ?_)
 refine RW.ld H 3 4 ?_
 refine RW.v ?_
 refine RW.ld H 0 2 ?_
 refine RW.cl ?_
 refine WC.enter (fn := Tryd.f56) Tryd.func56 rfl ?_
 refine W.rg [(0, .agg #[pp h, pp T, .int .i64 1, .int .i64 66]), (1, v103), (2, .agg #[.int .i64 1, .int .i64 xn])] fun TA => ?_
 refine W.seq (W.region ?_)
 refine RW.mk H (.row ⟨[pt h, pt T, .int .i64 1, .int .i64 66], 65, false⟩) ?_
 clear H; intro _ b106 _ H
 refine RW.mk H (.row ⟨[.int .i64 1, .int .i64 xn], 28, false⟩) ?_
 clear H; intro _ b107 _ H
 refine RW.mk H (.row ⟨[.int .i64 0, .int .i64 0], 28, false⟩) ?_
 clear H; intro _ b108 _ H
 refine RW.v ?_
 refine RW.nil ?_
 refine W.rg [(1, v103), (3, pp b106), (5, pp b107), (6, pp b108)] fun TA => ?_
 refine W.seq (W.region ?_)
 refine RW.cl ?_
 refine WC.enter (fn := Tryd.f33) Tryd.func33 rfl ?_
 refine W.rg [] fun TA => ?_
 refine W.seq (W.region ?_)
 refine RW.mk H (.row ⟨[.int .i64 0, .int .i64 0], 28, false⟩) ?_
 clear H; intro _ b109 _ H
 refine RW.nil ?_
 refine W.rg [(0, pp b109)] fun TA => ?_
 refine W.seq (W.region ?_)
 refine RW.cl ?_
 refine WC.enter (fn := Tryd.f32) Tryd.func32 rfl ?_
 refine W.rg [(0, .int .i64 0)] fun TA => ?_
 refine W.seq (W.region ?_)
 refine RW.mk H (.row ⟨[.int .i64 0, .int .i64 0], 28, false⟩) ?_
 clear H; intro _ b110 _ H
 refine RW.nil ?_
 refine W.rg [(0, .int .i64 0), (2, pp b110)] fun TA => ?_
 refine W.seq (W.region ?_)
 refine RW.v ?_
 refine RW.val (v := .agg #[.int .i64 1, .int .i64 0]) (by kernel_rfl) (by kernel_rfl) (by kernel_rfl) (by kernel_rfl) ?_
 refine RW.st H 0 [.int .i64 1, .int .i64 0] [.int .i64 1, .int .i64 0] ?_
 clear H; intro _ _ H; dsimp only [setL, delL] at H
 refine RW.nil ?_
 refine W.ret ?_
 refine endG (by rfl) (by exact resL_cell rfl (H.get 0 rfl) (by rw [uT_eq]; exact Tryd.underlying28) (by kernel_rfl) rfl rfl rfl) ?_
 refine RW.st H 1 [.int .i64 1, .int .i64 0] [.int .i64 1, .int .i64 0] ?_
 clear H; intro _ _ H; dsimp only [setL, delL] at H
 refine RW.nil ?_
 replace H := (H.del 0)
 dsimp only [setL, delL] at H
 refine W.ret ?_
 refine endG (by rfl) (by exact resL_cell rfl (H.get 0 rfl) (by rw [uT_eq]; exact Tryd.underlying28) (by kernel_rfl) rfl rfl rfl) ?_
 refine RW.mk H (.row ⟨[.int .i64 0, .int .i64 0], 28, false⟩) ?_
 clear H; intro _ b111 _ H
 refine RW.st H 0 [.int .i64 1, .int .i64 0] [.int .i64 1, .int .i64 0] ?_
 clear H; intro _ _ H; dsimp only [setL, delL] at H
 refine RW.nil ?_
 replace H := (H.del 1)
 dsimp only [setL, delL] at H
 refine W.rg [(1, v103), (3, pp b106), (5, pp b107), (6, pp b108), (8, pp b111)] fun TA => ?_
 refine W.seq (W.region ?_)
 refine RW.v ?_
 refine RW.nil ?_
 refine W.rg [(1, v103), (3, pp b106), (5, pp b107), (6, pp b108), (8, pp b111), (9, .slice none 0 0)] fun TA => ?_
 refine W.seq ?_
 refine W.seq (W.region ?_)
 refine RW.v ?_
 refine RW.len (by kernel_rfl) (by kernel_rfl) rfl rfl rfl rfl ((H.sl 5 rfl).len (by kernel_rfl)) (by kernel_rfl) ?_
 refine RW.v ?_
 refine RW.nil ?_
 refine W.rg [(3, pp b106), (5, pp b107), (6, pp b108), (8, pp b111), (9, .slice none 0 0), (16, v103), (17, .int .i64 1), (18, .int .i64 0)] fun TA => ?_
 refine W.block ?_
 refine W.unroll (WL.once ?_)
 refine W.seq (W.region ?_)
 refine RW.v ?_
 refine RW.nil ?_
 refine W.rg [(3, pp b106), (5, pp b107), (6, pp b108), (8, pp b111), (9, .slice none 0 0), (16, v103), (17, .int .i64 1), (18, .int .i64 0), (19, .bool true)] fun TA => ?_
 refine W.seq ?_
 refine W.c1 ?_
 refine W.skip ?_
 refine W.seq ?_
 refine W.block ?_
 refine W.seq (W.region ?_)
 refine RW.idxG H 5 rfl (by kernel_rfl) (by kernel_rfl) rfl Tryd.underlying35 (by kernel_rfl) rfl rfl ⟨by decide, by decide⟩ (by kernel_rfl) ?_
 intro b112 q113 r114 hF115 hE116
 replace hE116 : (r114.cs.drop q113).take 2 = [.int .i64 2, .int .i64 4] := hE116.trans (by kernel_rfl)
 refine RW.loads 2 (by kernel_rfl) (by kernel_rfl) rfl rfl (hF115) hE116 rfl (by kernel_rfl) ?_
 refine RW.mk H (.row ⟨[.int .i64 0, .int .i64 0], 28, false⟩) ?_
 clear H; intro _ b117 _ H
 refine RW.st H 0 [.int .i64 2, .int .i64 4] [.int .i64 2, .int .i64 4] ?_
 clear H; intro _ _ H; dsimp only [setL, delL] at H
 refine RW.nil ?_
 refine W.rg [(3, pp b106), (5, pp b107), (6, pp b108), (8, pp b111), (9, .slice none 0 0), (11, pp b117), (16, v103), (17, .int .i64 1), (18, .int .i64 0)] fun TA => ?_
 refine W.seq (W.region ?_)
 refine RW.ld H 4 4 ?_
 refine RW.ld H 0 2 ?_
 refine RW.ld H 3 2 ?_
 refine RW.cl ?_
 refine ((bound_wc (h := h) (T := T) (ev := ((1, xn) : Wd)) mp7 (Nat.le_of_ble_eq_true rfl) (fun j hj => by match j, hj with | 0, _ => (simp <;> omega) | 1, _ => (simp <;> omega) | j + 2, hj => exact absurd hj (by simp)) H.gn H.abs).mono ?_)
 rintro _ _ ⟨e, K⟩
 replace H := H.then K
 clear K
 dsimp only [List.nil_append, List.cons_append] at H
 replace e := e.trans (congrArg wdV (show _ = ((1, yn) : Wd) from ((boundP_no (by simp [pB] <;> omega)).trans (boundP_yes (by simp [pB] <;> omega)))))
 subst e
 refine RW.mk H (.row ⟨[.int .i64 0, .int .i64 0], 28, false⟩) ?_
 clear H; intro _ b118 _ H
 refine RW.st H 0 [.int .i64 1, .int .i64 yn] [.int .i64 1, .int .i64 yn] ?_
 clear H; intro _ _ H; dsimp only [setL, delL] at H
 refine RW.nil ?_
 replace H := (H.del 1)
 dsimp only [setL, delL] at H
 refine W.rg [(3, pp b106), (5, pp b107), (6, pp b108), (8, pp b111), (9, .slice none 0 0), (12, pp b118), (16, v103), (17, .int .i64 1), (18, .int .i64 0)] fun TA => ?_
 refine W.seq ?_
 refine W.seq ?_
 refine W.drawn (by kernel_rfl) (by kernel_rfl) H.gn ?_
 have H119 := H
 refine RW.ld H119 0 2 ?_
 refine RW.cl ?_
 refine WC.enter (fn := Tryd.f33) Tryd.func33 rfl ?_
 replace H := H119
 refine W.rg [] fun TA => ?_
 refine W.seq (W.region ?_)
 refine RW.mk H (.row ⟨[.int .i64 0, .int .i64 0], 28, false⟩) ?_
 clear H; intro _ b120 _ H
 refine RW.nil ?_
 refine W.rg [(0, pp b120)] fun TA => ?_
 refine W.seq (W.region ?_)
 refine RW.cl ?_
 refine WC.enter (fn := Tryd.f32) Tryd.func32 rfl ?_
 refine W.rg [(0, .int .i64 0)] fun TA => ?_
 refine W.seq (W.region ?_)
 refine RW.mk H (.row ⟨[.int .i64 0, .int .i64 0], 28, false⟩) ?_
 clear H; intro _ b121 _ H
 refine RW.nil ?_
 refine W.rg [(0, .int .i64 0), (2, pp b121)] fun TA => ?_
 refine W.seq (W.region ?_)
 refine RW.v ?_
 refine RW.val (v := .agg #[.int .i64 1, .int .i64 0]) (by kernel_rfl) (by kernel_rfl) (by kernel_rfl) (by kernel_rfl) ?_
 refine RW.st H 0 [.int .i64 1, .int .i64 0] [.int .i64 1, .int .i64 0] ?_
 clear H; intro _ _ H; dsimp only [setL, delL] at H
 refine RW.nil ?_
 refine W.ret ?_
 refine endG (by rfl) (by exact resL_cell rfl (H.get 0 rfl) (by rw [uT_eq]; exact Tryd.underlying28) (by kernel_rfl) rfl rfl rfl) ?_
 refine RW.st H 1 [.int .i64 1, .int .i64 0] [.int .i64 1, .int .i64 0] ?_
 clear H; intro _ _ H; dsimp only [setL, delL] at H
 refine RW.nil ?_
 replace H := (H.del 0)
 dsimp only [setL, delL] at H
 refine W.ret ?_
 refine endG (by rfl) (by exact resL_cell rfl (H.get 0 rfl) (by rw [uT_eq]; exact Tryd.underlying28) (by kernel_rfl) rfl rfl rfl) ?_
 have H122 := H
 refine RW.vop (v := .bool false) (by kernel_rfl) (by kernel_rfl) (vop_eqS (b := false) (r := false) rfl (.inl ⟨rfl, rfl⟩) rfl rfl rfl rfl (by kernel_rfl) (fun w => (eqWd _ _ _ _ w).trans (by simp <;> omega))) (by kernel_rfl) ?_
 refine RW.nil ?_
 refine ⟨⟨by kernel_rfl, ⟨dyn_row (H119.get 0 rfl) (H122.get 1 rfl) ⟨fun h => Bool.noConfusion h, fun _ => H119.get 0 rfl, fun h => Bool.noConfusion h, trivial⟩, trivial, trivial, trivial⟩⟩, ?_⟩
 replace H := H122
 clear H119 H122
 replace H := (H.del 0)
 dsimp only [setL, delL] at H
 refine W.c0 ?_
 refine W.skip ?_
 refine W.seq (W.region ?_)
 refine RW.ld H 4 4 ?_
 refine RW.ld H 0 2 ?_
 refine RW.cl ?_
 refine WC.enter (fn := Tryd.f52) Tryd.func52 rfl ?_
 refine W.rg [(0, .agg #[pp h, pp T, .int .i64 1, .int .i64 66]), (1, .agg #[.int .i64 1, .int .i64 yn])] fun TA => ?_
 refine W.seq (W.region ?_)
 refine RW.mk H (.row ⟨[pt h, pt T, .int .i64 1, .int .i64 66], 65, false⟩) ?_
 clear H; intro _ b123 _ H
 refine RW.mk H (.row ⟨[.int .i64 1, .int .i64 yn], 28, false⟩) ?_
 clear H; intro _ b124 _ H
 refine RW.mk H (.row ⟨[.int .i64 0, .int .i64 0], 28, false⟩) ?_
 clear H; intro _ b125 _ H
 refine RW.v ?_
 refine RW.nil ?_
 refine W.rg [(2, pp b123), (3, pp b124), (4, pp b125)] fun TA => ?_
 refine W.seq ?_
 refine W.seq (W.region ?_)
 refine RW.v ?_
 refine RW.ld H 1 1 ?_
 refine RW.v ?_
 refine RW.nil ?_
 refine W.c1 ?_
 refine W.region ?_
 refine RW.v ?_
 refine RW.ld H 2 1 ?_
 refine RW.v ?_
 refine RW.ld H 1 1 ?_
 refine RW.cl ?_
 refine ((func_wc (n := yn) (by omega) (by omega) H.gn H.abs (hT.le H.old)).mono ?_)
 rintro _ _ ⟨rfl, K⟩
 replace H := H.then K
 clear K
 dsimp only [List.nil_append, List.cons_append] at H
 iterate 3 refine RW.v ?_
 refine RW.st H 1 [.int .i64 0, .int .i64 0] [.int .i64 0, .int .i64 0] ?_
 clear H; intro _ _ H; dsimp only [setL, delL] at H
 refine RW.nil ?_
 refine W.rg [(2, pp b123), (3, pp b124), (4, pp b125)] fun TA => ?_
 refine W.seq ?_
 refine W.drawn (by kernel_rfl) (by kernel_rfl) H.gn ?_
 have H126 := H
 refine RW.ld H126 1 2 ?_
 refine RW.ld H126 2 4 ?_
 refine RW.ld H126 1 2 ?_
 refine RW.cl ?_
 refine ((isMap_n (h := h) (T := T) (w := ((0, 0) : Wd)) (by decide) H126).mono ?_)
 rintro _ _ ⟨rfl, H127⟩
 refine RW.stD H127 0 (vs := [.int .i64 0, .int .i64 0]) (cs' := [.int .i64 0, .int .i64 0]) (by kernel_rfl) (by kernel_rfl) rfl rfl rfl rfl rfl (by kernel_rfl) (Nat.le_of_ble_eq_true rfl) rfl (by kernel_rfl) ?_
 intro _ H128
 dsimp only [setL, delL] at H128
 refine RW.v ?_
 refine RW.nil ?_
 refine ⟨⟨by kernel_rfl, ⟨dyn_row (H126.get 1 rfl) (H128.get 1 rfl) ⟨fun h => Bool.noConfusion h, fun h => Bool.noConfusion h, fun h => Bool.noConfusion h, fun _ => H126.get 1 rfl, fun _ => H127.get 1 rfl, fun h => Bool.noConfusion h, trivial⟩, dyn_row (H126.get 2 rfl) (H128.get 2 rfl) ⟨fun h => Bool.noConfusion h, fun h => Bool.noConfusion h, fun h => Bool.noConfusion h, fun _ => H126.get 2 rfl, fun _ => H127.get 2 rfl, fun h => Bool.noConfusion h, trivial⟩, dyn_row (H126.get 1 rfl) (H128.get 1 rfl) ⟨fun h => Bool.noConfusion h, fun h => Bool.noConfusion h, fun h => Bool.noConfusion h, fun _ => H126.get 1 rfl, fun _ => H127.get 1 rfl, fun h => Bool.noConfusion h, trivial⟩, trivial, trivial, trivial, trivial⟩⟩, ?_⟩
 replace H := H128
 clear H126 H127 H128
 replace H := ((H.del 2).del 1)
 dsimp only [setL, delL] at H
 refine W.ret ?_
 refine endG (by rfl) (by exact resL_cell rfl (H.get 0 rfl) (by rw [uT_eq]; exact Tryd.underlying28) (by kernel_rfl) rfl rfl (by exact resL_tmp rfl)) ?_
 iterate 3 refine RW.v ?_
 refine RW.mk H (.row ⟨[.int .i64 0, .int .i64 0], 28, false⟩) ?_
 clear H; intro _ b129 _ H
 refine RW.st H 0 [.int .i64 0, .int .i64 0] [.int .i64 0, .int .i64 0] ?_
 clear H; intro _ _ H; dsimp only [setL, delL] at H
 refine RW.v ?_
 refine RW.nil ?_
 replace H := (H.del 1)
 dsimp only [setL, delL] at H
 refine W.rg [(3, pp b106), (5, pp b107), (6, pp b108), (8, pp b111), (9, .slice none 0 0), (12, pp b118), (13, pp b129), (14, .bool false), (16, v103), (17, .int .i64 1), (18, .int .i64 0)] fun TA => ?_
 refine W.seq ?_
 refine W.seq ?_
 refine W.drawn (by kernel_rfl) (by kernel_rfl) H.gn ?_
 have H130 := H
 refine RW.ld H130 2 2 ?_
 refine RW.cl ?_
 refine WC.enter (fn := Tryd.f33) Tryd.func33 rfl ?_
 replace H := H130
 refine W.rg [] fun TA => ?_
 refine W.seq (W.region ?_)
 refine RW.mk H (.row ⟨[.int .i64 0, .int .i64 0], 28, false⟩) ?_
 clear H; intro _ b131 _ H
 refine RW.nil ?_
 refine W.rg [(0, pp b131)] fun TA => ?_
 refine W.seq (W.region ?_)
 refine RW.cl ?_
 refine WC.enter (fn := Tryd.f32) Tryd.func32 rfl ?_
 refine W.rg [(0, .int .i64 0)] fun TA => ?_
 refine W.seq (W.region ?_)
 refine RW.mk H (.row ⟨[.int .i64 0, .int .i64 0], 28, false⟩) ?_
 clear H; intro _ b132 _ H
 refine RW.nil ?_
 refine W.rg [(0, .int .i64 0), (2, pp b132)] fun TA => ?_
 refine W.seq (W.region ?_)
 refine RW.v ?_
 refine RW.val (v := .agg #[.int .i64 1, .int .i64 0]) (by kernel_rfl) (by kernel_rfl) (by kernel_rfl) (by kernel_rfl) ?_
 refine RW.st H 0 [.int .i64 1, .int .i64 0] [.int .i64 1, .int .i64 0] ?_
 clear H; intro _ _ H; dsimp only [setL, delL] at H
 refine RW.nil ?_
 refine W.ret ?_
 refine endG (by rfl) (by exact resL_cell rfl (H.get 0 rfl) (by rw [uT_eq]; exact Tryd.underlying28) (by kernel_rfl) rfl rfl rfl) ?_
 refine RW.st H 1 [.int .i64 1, .int .i64 0] [.int .i64 1, .int .i64 0] ?_
 clear H; intro _ _ H; dsimp only [setL, delL] at H
 refine RW.nil ?_
 replace H := (H.del 0)
 dsimp only [setL, delL] at H
 refine W.ret ?_
 refine endG (by rfl) (by exact resL_cell rfl (H.get 0 rfl) (by rw [uT_eq]; exact Tryd.underlying28) (by kernel_rfl) rfl rfl rfl) ?_
 have H133 := H
 refine RW.vop (v := .bool true) (by kernel_rfl) (by kernel_rfl) (vop_eqS (b := true) (r := true) rfl (.inl ⟨rfl, rfl⟩) rfl rfl rfl rfl (by kernel_rfl) (fun w => (eqWd _ _ _ _ w).trans (by simp))) (by kernel_rfl) ?_
 refine RW.nil ?_
 refine ⟨⟨by kernel_rfl, ⟨dyn_row (H130.get 2 rfl) (H133.get 3 rfl) ⟨fun h => Bool.noConfusion h, fun _ => H130.get 2 rfl, fun h => Bool.noConfusion h, trivial⟩, trivial, trivial, trivial⟩⟩, ?_⟩
 replace H := H133
 clear H130 H133
 replace H := (H.del 0)
 dsimp only [setL, delL] at H
 refine W.c1 ?_
 refine W.seq (W.region ?_)
 refine RW.ld H 1 2 ?_
 refine RW.st H 2 [.int .i64 1, .int .i64 yn] [.int .i64 1, .int .i64 yn] ?_
 clear H; intro _ _ H; dsimp only [setL, delL] at H
 refine RW.nil ?_
 replace H := (H.del 1)
 dsimp only [setL, delL] at H
 refine W.rg [(3, pp b106), (5, pp b107), (6, pp b108), (8, pp b111), (9, .slice none 0 0), (13, pp b129), (14, .bool false), (16, v103), (17, .int .i64 1), (18, .int .i64 0)] fun TA => ?_
 refine W.seq (W.region ?_)
 iterate 2 refine RW.v ?_
 refine RW.nil ?_
 refine W.c1 ?_
 refine W.seq (W.region ?_)
 refine RW.ld H 1 2 ?_
 refine RW.st H 2 [.int .i64 1, .int .i64 yn] [.int .i64 1, .int .i64 yn] ?_
 clear H; intro _ _ H; dsimp only [setL, delL] at H
 refine RW.v ?_
 refine RW.nil ?_
 replace H := ((((H.del 4).del 3).del 1).del 0)
 dsimp only [setL, delL] at H
 refine W.ret ?_
 refine seqQ_ret ?_
 refine blkQ_ret ?_
 refine seqQ_ret ?_
 refine onceQ_ret ?_
 refine blkQ_ret ?_
 refine seqQ_ret ?_
 refine endG (by rfl) (by exact resL_cell rfl (H.get 0 rfl) (by rw [uT_eq]; exact Tryd.underlying28) (by kernel_rfl) rfl rfl (by exact resL_tmp rfl)) ?_
 iterate 3 refine RW.v ?_
 refine RW.mk H (.row ⟨[.int .i64 0, .int .i64 0], 28, false⟩) ?_
 clear H; intro _ b134 _ H
 refine RW.st H 0 [.int .i64 1, .int .i64 yn] [.int .i64 1, .int .i64 yn] ?_
 clear H; intro _ _ H; dsimp only [setL, delL] at H
 refine RW.v ?_
 refine RW.nil ?_
 replace H := (((H.del 3).del 2).del 1)
 dsimp only [setL, delL] at H
 refine W.rg [(2, .slice (some ⟨b58, 0, none⟩) 2 2), (3, pp b60), (6, pp b61), (9, .int .i64 1), (11, pp b134), (12, .slice none 0 0), (13, .slice (some ⟨b58, 0, none⟩) 2 2), (14, .int .i64 2), (15, .int .i64 1)] fun TA => ?_
 refine W.seq ?_
 refine W.seq (W.region ?_)
 iterate 3 refine RW.v ?_
 refine RW.nil ?_
 refine W.c1 ?_
 refine W.seq (W.region ?_)
 refine RW.ld H 0 2 ?_
 iterate 2 refine RW.v ?_
 refine RW.st H 1 [.int .i64 1, .int .i64 yn] [.int .i64 1, .int .i64 yn] ?_
 clear H; intro _ _ H; dsimp only [setL, delL] at H
 iterate 2 refine RW.v ?_
 refine RW.nil ?_
 replace H := ((H.del 2).del 0)
 dsimp only [setL, delL] at H
 refine W.ret ?_
 refine seqQ_ret ?_
 refine blkQ_ret ?_
 refine seqQ_ret ?_
 refine onceQ_ret ?_
 refine blkQ_ret ?_
 refine seqQ_ret ?_
 refine endG (by rfl) (by exact resL_cell rfl (H.get 0 rfl) (by rw [uT_eq]; exact Tryd.underlying28) (by kernel_rfl) rfl rfl (by exact resL_tmp (by exact resL_tmp rfl))) ?_
 have H135 := H
 iterate 4 refine RW.v ?_
 refine RW.mkD H135 (x := .row ⟨[.int .i64 0, .int .i64 0], 28, false⟩) (fm := fun b => .pointer (some ⟨b, 0, none⟩)) (by kernel_rfl) (by kernel_rfl) (by kernel_rfl) (by kernel_rfl) ?_
 intro _ b136 H137
 refine RW.stD H137 0 (vs := [.int .i64 1, .int .i64 yn]) (cs' := [.int .i64 1, .int .i64 yn]) (by kernel_rfl) (by kernel_rfl) rfl rfl rfl rfl rfl (by kernel_rfl) (Nat.le_of_ble_eq_true rfl) rfl (by kernel_rfl) ?_
 intro _ H138
 dsimp only [setL, delL] at H138
 iterate 2 refine RW.v ?_
 refine RW.nil ?_
 refine ⟨⟨by kernel_rfl, ⟨dyn_row (H55.get 2 rfl) (H138.get 5 rfl) ⟨fun h => Bool.noConfusion h, fun h => Bool.noConfusion h, fun h => Bool.noConfusion h, fun _ => H55.get 2 rfl, fun h => Bool.noConfusion h, fun h => Bool.noConfusion h, fun _ => H59.get 4 rfl, fun h => Bool.noConfusion h, fun h => Bool.noConfusion h, fun h => Bool.noConfusion h, fun h => Bool.noConfusion h, fun h => Bool.noConfusion h, fun _ => H137.get 5 rfl, fun h => Bool.noConfusion h, fun h => Bool.noConfusion h, trivial⟩, trivial, trivial, trivial, dyn_row (H57.get 1 rfl) (H138.get 3 rfl) ⟨fun h => Bool.noConfusion h, fun h => Bool.noConfusion h, fun h => Bool.noConfusion h, fun _ => H55.get 0 rfl, fun h => Bool.noConfusion h, fun h => Bool.noConfusion h, fun _ => H59.get 2 rfl, fun h => Bool.noConfusion h, fun h => Bool.noConfusion h, fun h => Bool.noConfusion h, fun h => Bool.noConfusion h, fun h => Bool.noConfusion h, fun _ => H137.get 3 rfl, fun h => Bool.noConfusion h, fun h => Bool.noConfusion h, trivial⟩, Or.inl (by kernel_rfl), trivial, trivial, trivial, trivial, trivial, Or.inl (by kernel_rfl), trivial, trivial, trivial, trivial⟩⟩, ?_⟩
 replace H := H138
 clear H55 H57 H59 H135 H137 H138
 replace H := ((((H.del 5).del 4).del 2).del 1)
 dsimp only [setL, delL] at H
 refine W.rg [(8, pp b1), (9, .int .i64 1), (13, pp b50), (16, pp b136), (17, .int .i64 2), (18, .bool false)] fun TA => ?_
 refine W.seq ?_
 refine W.drawn (by kernel_rfl) (by kernel_rfl) H.gn ?_
 have H139 := H
 iterate 3 refine RW.v ?_
 refine RW.val (by rfl) (by kernel_rfl) rfl (by kernel_rfl) ?_
 refine RW.val (by rfl) (by kernel_rfl) rfl (by kernel_rfl) ?_
 iterate 2 refine RW.v ?_
 refine RW.ldL H139 0 2 (by rfl) (by kernel_rfl) rfl rfl rfl rfl rfl (by kernel_rfl) ?_
 refine RW.cl (hw := by rfl) ?_
 refine WC.enter (fn := Tryd.f33) Tryd.func33 rfl ?_
 replace H := H139
 refine W.rg [] fun TA => ?_
 refine W.seq (W.region ?_)
 refine RW.mk H (.row ⟨[.int .i64 0, .int .i64 0], 28, false⟩) ?_
 clear H; intro _ b140 _ H
 refine RW.nil ?_
 refine W.rg [(0, pp b140)] fun TA => ?_
 refine W.seq (W.region ?_)
 refine RW.cl ?_
 refine WC.enter (fn := Tryd.f32) Tryd.func32 rfl ?_
 refine W.rg [(0, .int .i64 0)] fun TA => ?_
 refine W.seq (W.region ?_)
 refine RW.mk H (.row ⟨[.int .i64 0, .int .i64 0], 28, false⟩) ?_
 clear H; intro _ b141 _ H
 refine RW.nil ?_
 refine W.rg [(0, .int .i64 0), (2, pp b141)] fun TA => ?_
 refine W.seq (W.region ?_)
 refine RW.v ?_
 refine RW.val (v := .agg #[.int .i64 1, .int .i64 0]) (by kernel_rfl) (by kernel_rfl) (by kernel_rfl) (by kernel_rfl) ?_
 refine RW.st H 0 [.int .i64 1, .int .i64 0] [.int .i64 1, .int .i64 0] ?_
 clear H; intro _ _ H; dsimp only [setL, delL] at H
 refine RW.nil ?_
 refine W.ret ?_
 refine endG (by rfl) (by exact resL_cell rfl (H.get 0 rfl) (by rw [uT_eq]; exact Tryd.underlying28) (by kernel_rfl) rfl rfl rfl) ?_
 refine RW.st H 1 [.int .i64 1, .int .i64 0] [.int .i64 1, .int .i64 0] ?_
 clear H; intro _ _ H; dsimp only [setL, delL] at H
 refine RW.nil ?_
 replace H := (H.del 0)
 dsimp only [setL, delL] at H
 refine W.ret ?_
 refine endG (by rfl) (by exact resL_cell rfl (H.get 0 rfl) (by rw [uT_eq]; exact Tryd.underlying28) (by kernel_rfl) rfl rfl rfl) ?_
 have H142 := H
 refine RW.vop (v := .bool true) (by rfl) (by kernel_rfl) (vop_eqS (b := false) (r := true) rfl (.inr ⟨rfl, rfl⟩) rfl rfl rfl rfl (by kernel_rfl) (fun w => (eqWd _ _ _ _ w).trans (by simp <;> omega))) (by kernel_rfl) ?_
 refine RW.v ?_
 refine RW.nil ?_
 refine ⟨⟨by kernel_rfl, ⟨trivial, trivial, trivial, trivial, trivial, trivial, trivial, dyn_row (H139.get 0 rfl) (H142.get 1 rfl) ⟨fun h => Bool.noConfusion h, fun h => Bool.noConfusion h, fun h => Bool.noConfusion h, fun h => Bool.noConfusion h, fun h => Bool.noConfusion h, fun h => Bool.noConfusion h, fun h => Bool.noConfusion h, fun h => Bool.noConfusion h, fun _ => H139.get 0 rfl, fun h => Bool.noConfusion h, fun h => Bool.noConfusion h, trivial⟩, trivial, trivial, trivial, trivial⟩⟩, ?_⟩
 replace H := H142
 clear H139 H142
 replace H := (H.del 0)
 dsimp only [setL, delL] at H
 refine W.c1 ?_
 refine W.region ?_
 refine RW.ld H 0 2 ?_
 refine RW.st H 1 [.int .i64 1, .int .i64 yn] [.int .i64 1, .int .i64 yn] ?_
 clear H; intro _ _ H; dsimp only [setL, delL] at H
 refine RW.nil ?_
 replace H := (H.del 0)
 dsimp only [setL, delL] at H
 refine W.rg [(8, pp b1), (9, .int .i64 1), (13, pp b50)] fun TA => ?_
 refine W.seq (W.region ?_)
 refine RW.ld H 0 2 ?_
 refine RW.v ?_
 refine RW.st H 1 [.int .i64 1, .int .i64 yn] [.int .i64 1, .int .i64 yn] ?_
 clear H; intro _ _ H; dsimp only [setL, delL] at H
 iterate 2 refine RW.v ?_
 refine RW.nil ?_
 replace H := (H.del 0)
 dsimp only [setL, delL] at H
 refine W.ret ?_
 refine endG (by rfl) (by exact resL_cell rfl (H.get 0 rfl) (by rw [uT_eq]; exact Tryd.underlying28) (by kernel_rfl) rfl rfl (by exact resL_tmp (by exact resL_tmp rfl))) ?_
 exact ⟨rfl, (H.del 0)⟩
end
end Go.Proofs.YtdbmflnkdoeaoaaDoor
