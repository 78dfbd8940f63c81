/-
 KeymapRemaps in the second memory. Conditions: the tables.
-/
import Derived.Test.YtdbmflnkdoeaoaaDoorKrg
import Derived.Test.YtdbmflnkdoeaoaaDoorK1
namespace Go.Proofs.YtdbmflnkdoeaoaaDoor
set_option maxRecDepth 100000
section
variable {σ : Mem} {F : Nat → Option Blk2} {L : List Ent} {A : Abs}
theorem sym_wc {n : Int} (H : Lies G65 A F σ L) : WC G65 Tryd.prog 10 #[.int .i64 n] σ fun v σ' => v = wdV (1, n) ∧ Lies G65 A F σ' L := by
 refine WC.enter (fn := Tryd.f10) Tryd.func10 rfl ?_
 refine W.rg [(0, .int .i64 n)] fun TA => ?_
 refine W.seq (W.region ?_)
 refine RW.mk H (.row ⟨[.int .i64 0, .int .i64 0], 28, false⟩) ?_
 clear H; intro _ b1 _ H
 refine RW.nil ?_
 refine W.rg [(0, .int .i64 n), (2, pp b1)] fun TA => ?_
 refine W.seq (W.region ?_)
 refine RW.v ?_
 refine RW.cl ?_
 refine WC.enter (fn := Tryd.f34) Tryd.func34 rfl ?_
 refine W.rg [(0, .int .i64 n)] fun TA => ?_
 refine W.seq (W.region ?_)
 refine RW.mk H (.row ⟨[.int .i64 0, .int .i64 0], 28, false⟩) ?_
 clear H; intro _ b2 _ H
 refine RW.nil ?_
 refine W.rg [(0, .int .i64 n), (2, pp b2)] fun TA => ?_
 refine W.seq (W.region ?_)
 refine RW.v ?_
 refine RW.val (v := .agg #[.int .i64 1, .int .i64 n]) (by kernel_rfl) (by kernel_rfl) (by kernel_rfl) (by kernel_rfl) ?_
 refine RW.st H 0 [.int .i64 1, .int .i64 n] [.int .i64 1, .int .i64 n] ?_
 clear H; intro _ _ H; dsimp only [setL, delL] at H
 refine RW.nil ?_
 refine W.ret ?_
 refine endG (by rfl) (by exact resL_cell rfl (H.get 0 rfl) (by rw [uT_eq]; exact Tryd.underlying28) (by kernel_rfl) rfl rfl rfl) ?_
 refine RW.st H 1 [.int .i64 1, .int .i64 n] [.int .i64 1, .int .i64 n] ?_
 clear H; intro _ _ H; dsimp only [setL, delL] at H
 refine RW.nil ?_
 replace H := (H.del 0)
 dsimp only [setL, delL] at H
 refine W.ret ?_
 refine endG (by rfl) (by exact resL_cell rfl (H.get 0 rfl) (by rw [uT_eq]; exact Tryd.underlying28) (by kernel_rfl) rfl rfl rfl) ?_
 exact ⟨rfl, (H.del 0)⟩
theorem symE {n x : Int} (e : x = n) (H : Lies G65 A F σ L) : WC G65 Tryd.prog 10 #[.int .i64 n] σ fun v σ' => v = wdV (1, x) ∧ Lies G65 A F σ' L := by
 subst e
 exact sym_wc H
theorem num_wc {n : Int} (H : Lies G65 A F σ L) : WC G65 Tryd.prog 13 #[.int .i64 n] σ fun v σ' => v = wdV (0, n) ∧ Lies G65 A F σ' L := by
 refine WC.enter (fn := Tryd.f13) Tryd.func13 rfl ?_
 refine W.rg [(0, .int .i64 n)] fun TA => ?_
 refine W.seq (W.region ?_)
 refine RW.mk H (.row ⟨[.int .i64 0, .int .i64 0], 28, false⟩) ?_
 clear H; intro _ b1 _ H
 refine RW.nil ?_
 refine W.rg [(0, .int .i64 n), (2, pp b1)] fun TA => ?_
 refine W.seq (W.region ?_)
 refine RW.v ?_
 refine RW.cl ?_
 refine WC.enter (fn := Tryd.f42) Tryd.func42 rfl ?_
 refine W.rg [(0, .int .i64 n)] fun TA => ?_
 refine W.seq (W.region ?_)
 refine RW.mk H (.row ⟨[.int .i64 0, .int .i64 0], 28, false⟩) ?_
 clear H; intro _ b2 _ H
 refine RW.nil ?_
 refine W.rg [(0, .int .i64 n), (2, pp b2)] fun TA => ?_
 refine W.seq (W.region ?_)
 refine RW.v ?_
 refine RW.val (v := .agg #[.int .i64 0, .int .i64 n]) (by kernel_rfl) (by kernel_rfl) (by kernel_rfl) (by kernel_rfl) ?_
 refine RW.st H 0 [.int .i64 0, .int .i64 n] [.int .i64 0, .int .i64 n] ?_
 clear H; intro _ _ H; dsimp only [setL, delL] at H
 refine RW.nil ?_
 refine W.ret ?_
 refine endG (by rfl) (by exact resL_cell rfl (H.get 0 rfl) (by rw [uT_eq]; exact Tryd.underlying28) (by kernel_rfl) rfl rfl rfl) ?_
 refine RW.st H 1 [.int .i64 0, .int .i64 n] [.int .i64 0, .int .i64 n] ?_
 clear H; intro _ _ H; dsimp only [setL, delL] at H
 refine RW.nil ?_
 replace H := (H.del 0)
 dsimp only [setL, delL] at H
 refine W.ret ?_
 refine endG (by rfl) (by exact resL_cell rfl (H.get 0 rfl) (by rw [uT_eq]; exact Tryd.underlying28) (by kernel_rfl) rfl rfl rfl) ?_
 exact ⟨rfl, (H.del 0)⟩
end
set_option maxHeartbeats 16000000 in
theorem remaps_wc {σ0 : Mem} {a b c d : Int} (hG : G65 ≤ σ0.next) (h16 : 16 ≤ G65) (hno : σ0.abs = Abs.no) (hR : RowsAt rowsU σ0) (lb : -9223372036854775808 ≤ b) (ub : b ≤ 9223372036854775807) (lc : -9223372036854775808 ≤ c) (uc : c ≤ 9223372036854775807) (ld : -9223372036854775808 ≤ d) (ud : d ≤ 9223372036854775807) :
  WC G65 Tryd.prog 3 #[.int .i64 a, .int .i64 b, .int .i64 c, .int .i64 d] σ0 fun v _ => v = .bool true := by
 have H := Lies.start hG hno
 have CL := s_lives h16 σ0 hR
 generalize σ0.get = F at H
 obtain ⟨e, hfe⟩ : ∃ e, fastBin .quo .i64 a 2 = some (.int .i64 e) := ⟨_, rfl⟩
 refine WC.enter (fn := Tryd.f3) Tryd.func3 rfl ?_
 refine W.rg [(0, .int .i64 a), (1, .int .i64 b), (2, .int .i64 c), (3, .int .i64 d)] fun TA => ?_
 refine W.seq (W.region ?_)
 refine RW.v ?_
 refine RW.nil ?_
 refine W.rg [(0, .int .i64 a), (1, .int .i64 b), (2, .int .i64 c), (3, .int .i64 d)] fun TA => ?_
 refine W.seq ?_
 refine W.seq (W.region ?_)
 refine RW.cl ?_
 refine ⟨_, _, CL, ?_⟩
 clear CL
 refine RW.v ?_
 refine RW.nil ?_
 refine W.c0 ?_
 refine W.skip ?_
 refine W.seq (W.region ?_)
 refine RW.cl ?_
 refine ((fresh_wc H.gn H.abs).mono ?_)
 clear H
 rintro _ _ ⟨h, T, F, rfl, -, hT, H⟩
 iterate 5 refine RW.v ?_
 refine RW.nil ?_
 refine W.rg [(0, .int .i64 a), (1, .int .i64 b), (2, .int .i64 c), (3, .int .i64 d), (9, pp h), (10, pp T)] fun TA => ?_
 refine W.seq (W.region ?_)
 iterate 2 refine RW.v ?_
 refine RW.cl ?_
 refine WC.enter (fn := Tryd.f9) Tryd.func9 rfl ?_
 refine W.rg [(0, pp h), (1, pp T)] fun TA => ?_
 refine W.seq (W.region ?_)
 refine RW.mk H (.row ⟨[.int .i64 0, .int .i64 0], 28, false⟩) ?_
 clear H; intro _ b1 _ H
 refine RW.v ?_
 refine RW.nil ?_
 refine W.rg [(0, pp h), (1, pp T), (4, pp b1)] fun TA => ?_
 refine W.seq ?_
 refine W.seq (W.region ?_)
 iterate 2 refine RW.v ?_
 refine RW.cl ?_
 refine ((at_wc (Nat.le_of_ble_eq_true rfl) H.gn H.abs (hT.le H.old)).mono ?_)
 rintro _ _ ⟨rfl, K⟩
 replace H := H.then K
 clear K
 dsimp only [List.nil_append, List.cons_append] at H
 iterate 3 refine RW.v ?_
 refine RW.mk H (.row ⟨[.pointer none, .pointer none, .int .i64 0, .int .i64 0], 65, false⟩) ?_
 clear H; intro _ b2 _ H
 refine RW.st H 0 [pt h, pt T, .int .i64 1, .int .i64 66] [pt h, pt T, .int .i64 1, .int .i64 66] ?_
 clear H; intro _ _ H; dsimp only [setL, delL] at H
 refine RW.v ?_
 refine RW.nil ?_
 replace H := (H.del 0)
 dsimp only [setL, delL] at H
 refine W.rg [(0, pp h), (1, pp T), (4, pp b1), (7, .bool true)] fun TA => ?_
 refine W.seq (W.region ?_)
 iterate 2 refine RW.v ?_
 refine RW.nil ?_
 refine W.c0 ?_
 refine W.skip ?_
 refine W.seq (W.region ?_)
 refine RW.v ?_
 refine RW.cl ?_
 refine ((intern66_wc H.gn H.abs (hT.le H.old)).mono ?_)
 rintro _ _ ⟨rfl, K⟩
 replace H := H.then K
 clear K
 dsimp only [List.nil_append, List.cons_append] at H
 iterate 5 refine RW.v ?_
 refine RW.nil ?_
 refine W.rg [(0, pp h), (4, pp b1), (8, .int .i64 66), (9, .int .i64 0)] fun TA => ?_
 refine W.seq ?_
 refine W.seq (W.region ?_)
 iterate 2 refine RW.v ?_
 refine RW.nil ?_
 refine W.c0 ?_
 refine W.skip ?_
 refine W.seq (W.region ?_)
 iterate 2 refine RW.v ?_
 refine RW.cl ?_
 refine WC.enter (fn := Tryd.f32) Tryd.func32 rfl ?_
 refine W.rg [(0, .int .i64 66)] fun TA => ?_
 refine W.seq (W.region ?_)
 refine RW.mk H (.row ⟨[.int .i64 0, .int .i64 0], 28, false⟩) ?_
 clear H; intro _ b3 _ H
 refine RW.nil ?_
 refine W.rg [(0, .int .i64 66), (2, pp b3)] fun TA => ?_
 refine W.seq (W.region ?_)
 refine RW.v ?_
 refine RW.val (v := .agg #[.int .i64 1, .int .i64 66]) (by kernel_rfl) (by kernel_rfl) (by kernel_rfl) (by kernel_rfl) ?_
 refine RW.st H 0 [.int .i64 1, .int .i64 66] [.int .i64 1, .int .i64 66] ?_
 clear H; intro _ _ H; dsimp only [setL, delL] at H
 refine RW.nil ?_
 refine W.ret ?_
 refine endG (by rfl) (by exact resL_cell rfl (H.get 0 rfl) (by rw [uT_eq]; exact Tryd.underlying28) (by kernel_rfl) rfl rfl rfl) ?_
 refine RW.cl ?_
 refine WC.enter (fn := Tryd.f33) Tryd.func33 rfl ?_
 refine W.rg [] fun TA => ?_
 refine W.seq (W.region ?_)
 refine RW.mk H (.row ⟨[.int .i64 0, .int .i64 0], 28, false⟩) ?_
 clear H; intro _ b4 _ H
 refine RW.nil ?_
 replace H := (H.del 1)
 dsimp only [setL, delL] at H
 refine W.rg [(0, pp b4)] fun TA => ?_
 refine W.seq (W.region ?_)
 refine RW.cl ?_
 refine WC.enter (fn := Tryd.f32) Tryd.func32 rfl ?_
 refine W.rg [(0, .int .i64 0)] fun TA => ?_
 refine W.seq (W.region ?_)
 refine RW.mk H (.row ⟨[.int .i64 0, .int .i64 0], 28, false⟩) ?_
 clear H; intro _ b5 _ H
 refine RW.nil ?_
 refine W.rg [(0, .int .i64 0), (2, pp b5)] fun TA => ?_
 refine W.seq (W.region ?_)
 refine RW.v ?_
 refine RW.val (v := .agg #[.int .i64 1, .int .i64 0]) (by kernel_rfl) (by kernel_rfl) (by kernel_rfl) (by kernel_rfl) ?_
 refine RW.st H 0 [.int .i64 1, .int .i64 0] [.int .i64 1, .int .i64 0] ?_
 clear H; intro _ _ H; dsimp only [setL, delL] at H
 refine RW.nil ?_
 refine W.ret ?_
 refine endG (by rfl) (by exact resL_cell rfl (H.get 0 rfl) (by rw [uT_eq]; exact Tryd.underlying28) (by kernel_rfl) rfl rfl rfl) ?_
 refine RW.st H 1 [.int .i64 1, .int .i64 0] [.int .i64 1, .int .i64 0] ?_
 clear H; intro _ _ H; dsimp only [setL, delL] at H
 refine RW.nil ?_
 replace H := (H.del 0)
 dsimp only [setL, delL] at H
 refine W.ret ?_
 refine endG (by rfl) (by exact resL_cell rfl (H.get 0 rfl) (by rw [uT_eq]; exact Tryd.underlying28) (by kernel_rfl) rfl rfl rfl) ?_
 refine RW.cl ?_
 refine ((consP (h := h) (k := 0) ((1, 66) : Wd) ((1, 0) : Wd) H (Nat.le_of_ble_eq_true rfl) rfl).mono ?_)
 clear H
 rintro _ _ ⟨rfl, H⟩
 replace H : Lies G65 (heapAbs h (hmP [(((1, 66) : Wd), ((1, 0) : Wd))])) F _ [.at_ b4 (.row ⟨[.int .i64 1, .int .i64 0], 28, false⟩), .at_ b1 (.row ⟨[.int .i64 0, .int .i64 0], 28, false⟩)] := H
 iterate 2 refine RW.v ?_
 refine RW.st H 1 [.int .i64 2, .int .i64 0] [.int .i64 2, .int .i64 0] ?_
 clear H; intro _ _ H; dsimp only [setL, delL] at H
 refine RW.v ?_
 refine RW.nil ?_
 replace H := (H.del 0)
 dsimp only [setL, delL] at H
 refine W.ret ?_
 refine endG (by rfl) (by exact resL_cell rfl (H.get 0 rfl) (by rw [uT_eq]; exact Tryd.underlying28) (by kernel_rfl) rfl rfl (by exact resL_tmp rfl)) ?_
 iterate 3 refine RW.v ?_
 refine RW.mk H (.row ⟨[.int .i64 0, .int .i64 0], 28, false⟩) ?_
 clear H; intro _ b6 _ H
 refine RW.st H 0 [.int .i64 2, .int .i64 0] [.int .i64 2, .int .i64 0] ?_
 clear H; intro _ _ H; dsimp only [setL, delL] at H
 refine RW.v ?_
 refine RW.nil ?_
 replace H := (H.del 1)
 dsimp only [setL, delL] at H
 refine W.rg [(0, .int .i64 a), (1, .int .i64 b), (2, .int .i64 c), (3, .int .i64 d), (9, pp h), (10, pp T), (11, pp b6)] fun TA => ?_
 refine W.seq (W.region ?_)
 iterate 2 refine RW.v ?_
 refine RW.cl ?_
 refine WC.enter (fn := Tryd.f9) Tryd.func9 rfl ?_
 refine W.rg [(0, pp h), (1, pp T)] fun TA => ?_
 refine W.seq (W.region ?_)
 refine RW.mk H (.row ⟨[.int .i64 0, .int .i64 0], 28, false⟩) ?_
 clear H; intro _ b7 _ H
 refine RW.v ?_
 refine RW.nil ?_
 refine W.rg [(0, pp h), (1, pp T), (4, pp b7)] fun TA => ?_
 refine W.seq ?_
 refine W.seq (W.region ?_)
 iterate 2 refine RW.v ?_
 refine RW.cl ?_
 refine ((at_wc (Nat.le_of_ble_eq_true rfl) H.gn H.abs (hT.le H.old)).mono ?_)
 rintro _ _ ⟨rfl, K⟩
 replace H := H.then K
 clear K
 dsimp only [List.nil_append, List.cons_append] at H
 iterate 3 refine RW.v ?_
 refine RW.mk H (.row ⟨[.pointer none, .pointer none, .int .i64 0, .int .i64 0], 65, false⟩) ?_
 clear H; intro _ b8 _ H
 refine RW.st H 0 [pt h, pt T, .int .i64 1, .int .i64 66] [pt h, pt T, .int .i64 1, .int .i64 66] ?_
 clear H; intro _ _ H; dsimp only [setL, delL] at H
 refine RW.v ?_
 refine RW.nil ?_
 replace H := (H.del 0)
 dsimp only [setL, delL] at H
 refine W.rg [(0, pp h), (1, pp T), (4, pp b7), (7, .bool true)] fun TA => ?_
 refine W.seq (W.region ?_)
 iterate 2 refine RW.v ?_
 refine RW.nil ?_
 refine W.c0 ?_
 refine W.skip ?_
 refine W.seq (W.region ?_)
 refine RW.v ?_
 refine RW.cl ?_
 refine ((intern66_wc H.gn H.abs (hT.le H.old)).mono ?_)
 rintro _ _ ⟨rfl, K⟩
 replace H := H.then K
 clear K
 dsimp only [List.nil_append, List.cons_append] at H
 iterate 5 refine RW.v ?_
 refine RW.nil ?_
 refine W.rg [(0, pp h), (4, pp b7), (8, .int .i64 66), (9, .int .i64 0)] fun TA => ?_
 refine W.seq ?_
 refine W.seq (W.region ?_)
 iterate 2 refine RW.v ?_
 refine RW.nil ?_
 refine W.c0 ?_
 refine W.skip ?_
 refine W.seq (W.region ?_)
 iterate 2 refine RW.v ?_
 refine RW.cl ?_
 refine WC.enter (fn := Tryd.f32) Tryd.func32 rfl ?_
 refine W.rg [(0, .int .i64 66)] fun TA => ?_
 refine W.seq (W.region ?_)
 refine RW.mk H (.row ⟨[.int .i64 0, .int .i64 0], 28, false⟩) ?_
 clear H; intro _ b9 _ H
 refine RW.nil ?_
 refine W.rg [(0, .int .i64 66), (2, pp b9)] fun TA => ?_
 refine W.seq (W.region ?_)
 refine RW.v ?_
 refine RW.val (v := .agg #[.int .i64 1, .int .i64 66]) (by kernel_rfl) (by kernel_rfl) (by kernel_rfl) (by kernel_rfl) ?_
 refine RW.st H 0 [.int .i64 1, .int .i64 66] [.int .i64 1, .int .i64 66] ?_
 clear H; intro _ _ H; dsimp only [setL, delL] at H
 refine RW.nil ?_
 refine W.ret ?_
 refine endG (by rfl) (by exact resL_cell rfl (H.get 0 rfl) (by rw [uT_eq]; exact Tryd.underlying28) (by kernel_rfl) rfl rfl rfl) ?_
 refine RW.cl ?_
 refine WC.enter (fn := Tryd.f33) Tryd.func33 rfl ?_
 refine W.rg [] fun TA => ?_
 refine W.seq (W.region ?_)
 refine RW.mk H (.row ⟨[.int .i64 0, .int .i64 0], 28, false⟩) ?_
 clear H; intro _ b10 _ H
 refine RW.nil ?_
 replace H := (H.del 1)
 dsimp only [setL, delL] at H
 refine W.rg [(0, pp b10)] fun TA => ?_
 refine W.seq (W.region ?_)
 refine RW.cl ?_
 refine WC.enter (fn := Tryd.f32) Tryd.func32 rfl ?_
 refine W.rg [(0, .int .i64 0)] fun TA => ?_
 refine W.seq (W.region ?_)
 refine RW.mk H (.row ⟨[.int .i64 0, .int .i64 0], 28, false⟩) ?_
 clear H; intro _ b11 _ H
 refine RW.nil ?_
 refine W.rg [(0, .int .i64 0), (2, pp b11)] fun TA => ?_
 refine W.seq (W.region ?_)
 refine RW.v ?_
 refine RW.val (v := .agg #[.int .i64 1, .int .i64 0]) (by kernel_rfl) (by kernel_rfl) (by kernel_rfl) (by kernel_rfl) ?_
 refine RW.st H 0 [.int .i64 1, .int .i64 0] [.int .i64 1, .int .i64 0] ?_
 clear H; intro _ _ H; dsimp only [setL, delL] at H
 refine RW.nil ?_
 refine W.ret ?_
 refine endG (by rfl) (by exact resL_cell rfl (H.get 0 rfl) (by rw [uT_eq]; exact Tryd.underlying28) (by kernel_rfl) rfl rfl rfl) ?_
 refine RW.st H 1 [.int .i64 1, .int .i64 0] [.int .i64 1, .int .i64 0] ?_
 clear H; intro _ _ H; dsimp only [setL, delL] at H
 refine RW.nil ?_
 replace H := (H.del 0)
 dsimp only [setL, delL] at H
 refine W.ret ?_
 refine endG (by rfl) (by exact resL_cell rfl (H.get 0 rfl) (by rw [uT_eq]; exact Tryd.underlying28) (by kernel_rfl) rfl rfl rfl) ?_
 refine RW.cl ?_
 refine ((consP (h := h) (k := 1) ((1, 66) : Wd) ((1, 0) : Wd) H (Nat.le_of_ble_eq_true rfl) rfl).mono ?_)
 clear H
 rintro _ _ ⟨rfl, H⟩
 replace H : Lies G65 (heapAbs h (hmP [(((1, 66) : Wd), ((1, 0) : Wd)), (((1, 66) : Wd), ((1, 0) : Wd))])) F _ [.at_ b10 (.row ⟨[.int .i64 1, .int .i64 0], 28, false⟩), .at_ b7 (.row ⟨[.int .i64 0, .int .i64 0], 28, false⟩), .at_ b6 (.row ⟨[.int .i64 2, .int .i64 0], 28, false⟩)] := H
 iterate 2 refine RW.v ?_
 refine RW.st H 1 [.int .i64 2, .int .i64 1] [.int .i64 2, .int .i64 1] ?_
 clear H; intro _ _ H; dsimp only [setL, delL] at H
 refine RW.v ?_
 refine RW.nil ?_
 replace H := (H.del 0)
 dsimp only [setL, delL] at H
 refine W.ret ?_
 refine endG (by rfl) (by exact resL_cell rfl (H.get 0 rfl) (by rw [uT_eq]; exact Tryd.underlying28) (by kernel_rfl) rfl rfl (by exact resL_tmp rfl)) ?_
 iterate 3 refine RW.v ?_
 refine RW.mk H (.row ⟨[.int .i64 0, .int .i64 0], 28, false⟩) ?_
 clear H; intro _ b12 _ H
 refine RW.st H 0 [.int .i64 2, .int .i64 1] [.int .i64 2, .int .i64 1] ?_
 clear H; intro _ _ H; dsimp only [setL, delL] at H
 refine RW.v ?_
 refine RW.nil ?_
 replace H := (H.del 1)
 dsimp only [setL, delL] at H
 refine W.rg [(0, .int .i64 a), (1, .int .i64 b), (2, .int .i64 c), (3, .int .i64 d), (9, pp h), (10, pp T), (11, pp b6), (13, pp b12)] fun TA => ?_
 refine W.seq (W.region ?_)
 refine RW.v ?_
 refine RW.cl ?_
 refine ⟨_, _, (s_pick (G := G65) (b) 3 (by omega) (by omega) (by decide) (by decide)), ?_⟩
 have hp13 := pickOf_in b (show (0 : Int) < 3 by decide)
 refine RW.valE (v' := .int .i64 (62 + (pickOf b 3))) (by kernel_rfl) (by kernel_rfl) rfl (congrArg (Value.int .i64) (wrap_in (by omega) (by omega))) (by kernel_rfl) ?_
 obtain ⟨xn, hx⟩ : ∃ x : Int, x = 62 + (pickOf b 3) := ⟨_, rfl⟩
 have x0 : 62 ≤ xn := by omega
 have x1 : xn ≤ 64 := by omega
 refine RW.cl ?_
 refine ((symE (L := [.at_ b12 (.row ⟨[.int .i64 2, .int .i64 1], 28, false⟩), .at_ b6 (.row ⟨[.int .i64 2, .int .i64 0], 28, false⟩)]) hx H).mono ?_)
 clear H
 rintro _ _ ⟨rfl, H⟩
 refine RW.v ?_
 refine RW.cl ?_
 refine ⟨_, _, (s_pick (G := G65) (c) 60 (by omega) (by omega) (by decide) (by decide)), ?_⟩
 have hp14 := pickOf_in c (show (0 : Int) < 60 by decide)
 refine RW.valE (v' := .int .i64 (2 + (pickOf c 60))) (by kernel_rfl) (by kernel_rfl) rfl (congrArg (Value.int .i64) (wrap_in (by omega) (by omega))) (by kernel_rfl) ?_
 obtain ⟨yn, hy⟩ : ∃ x : Int, x = 2 + (pickOf c 60) := ⟨_, rfl⟩
 have y0 : 2 ≤ yn := by omega
 have y1 : yn ≤ 61 := by omega
 refine RW.cl ?_
 refine ((symE (L := [.at_ b12 (.row ⟨[.int .i64 2, .int .i64 1], 28, false⟩), .at_ b6 (.row ⟨[.int .i64 2, .int .i64 0], 28, false⟩)]) hy H).mono ?_)
 clear H
 rintro _ _ ⟨rfl, H⟩
 refine RW.v ?_
 refine RW.cl ?_
 refine ⟨_, _, (s_pick (G := G65) (d) 60 (by omega) (by omega) (by decide) (by decide)), ?_⟩
 have hp15 := pickOf_in d (show (0 : Int) < 60 by decide)
 refine RW.valE (v' := .int .i64 (2 + (pickOf d 60))) (by kernel_rfl) (by kernel_rfl) rfl (congrArg (Value.int .i64) (wrap_in (by omega) (by omega))) (by kernel_rfl) ?_
 obtain ⟨zn, hz⟩ : ∃ x : Int, x = 2 + (pickOf d 60) := ⟨_, rfl⟩
 have z0 : 2 ≤ zn := by omega
 have z1 : zn ≤ 61 := by omega
 refine RW.cl ?_
 refine ((symE (L := [.at_ b12 (.row ⟨[.int .i64 2, .int .i64 1], 28, false⟩), .at_ b6 (.row ⟨[.int .i64 2, .int .i64 0], 28, false⟩)]) hz H).mono ?_)
 clear H
 rintro _ _ ⟨rfl, H⟩
 refine RW.mk H (.row ⟨[.int .i64 0, .int .i64 0], 28, false⟩) ?_
 clear H; intro _ b16 _ H
 refine RW.mk H (.row ⟨[.int .i64 0, .int .i64 0], 28, false⟩) ?_
 clear H; intro _ b17 _ H
 refine RW.mk H (.row ⟨[.int .i64 0, .int .i64 0], 28, false⟩) ?_
 clear H; intro _ b18 _ H
 refine RW.st H 2 [.int .i64 1, .int .i64 xn] [.int .i64 1, .int .i64 xn] ?_
 clear H; intro _ _ H; dsimp only [setL, delL] at H
 refine RW.st H 1 [.int .i64 1, .int .i64 yn] [.int .i64 1, .int .i64 yn] ?_
 clear H; intro _ _ H; dsimp only [setL, delL] at H
 refine RW.st H 0 [.int .i64 1, .int .i64 zn] [.int .i64 1, .int .i64 zn] ?_
 clear H; intro _ _ H; dsimp only [setL, delL] at H
 refine RW.nil ?_
 refine W.rg [(0, .int .i64 a), (9, pp h), (10, pp T), (11, pp b6), (13, pp b12), (15, pp b16), (16, pp b17), (17, pp b18)] fun TA => ?_
 refine W.seq ?_
 refine W.drawn (by kernel_rfl) (by kernel_rfl) H.gn ?_
 have H19 := H
 iterate 2 refine RW.v ?_
 refine RW.ld H19 4 2 ?_
 refine RW.v ?_
 refine RW.cl ?_
 refine ((num_wc (n := a) H19).mono ?_)
 rintro _ _ ⟨rfl, H20⟩
 refine RW.mkD H20 (x := .row ⟨[.int .i64 0, .int .i64 a], 28, false⟩) (fm := fun b => .slice (some ⟨b, 0, none⟩) 1 1) (by kernel_rfl) (by kernel_rfl) (by kernel_rfl) (by kernel_rfl) ?_
 intro _ b21 H22
 refine RW.ld H22 3 2 ?_
 refine RW.cl ?_
 refine ((def1_wc x0 x1 H22.gn H22.abs (hT.le H22.old) (H22.get 0 rfl)).mono ?_)
 rintro _ _ ⟨rfl, K23⟩
 have H24 := H22.then K23
 dsimp only [List.nil_append, List.cons_append] at H24
 refine RW.nil ?_
 refine ⟨⟨by kernel_rfl, ⟨trivial, trivial, dyn_row (H19.get 4 rfl) (H24.get 5 rfl) ⟨fun h => Bool.noConfusion h, fun h => Bool.noConfusion h, fun h => Bool.noConfusion h, fun h => Bool.noConfusion h, fun _ => H19.get 4 rfl, fun h => Bool.noConfusion h, fun h => Bool.noConfusion h, fun _ => H22.get 5 rfl, trivial⟩, trivial, trivial, Or.inl (by kernel_rfl), dyn_row (H22.get 3 rfl) (H24.get 3 rfl) ⟨fun h => Bool.noConfusion h, fun h => Bool.noConfusion h, fun h => Bool.noConfusion h, fun h => Bool.noConfusion h, fun _ => H19.get 2 rfl, fun h => Bool.noConfusion h, fun h => Bool.noConfusion h, fun _ => H22.get 3 rfl, trivial⟩, trivial, trivial⟩⟩, ?_⟩
 replace H := H24
 clear H19 H20 H22 H24
 replace H := (H.del 0)
 dsimp only [setL, delL] at H
 refine W.rg [(0, .int .i64 a), (9, pp h), (10, pp T), (11, pp b6), (13, pp b12), (15, pp b16), (16, pp b17), (17, pp b18)] fun TA => ?_
 refine W.seq ?_
 refine W.drawn (by kernel_rfl) (by kernel_rfl) H.gn ?_
 have H25 := H
 iterate 2 refine RW.v ?_
 refine RW.ld H25 3 2 ?_
 refine RW.cl ?_
 refine ((symE rfl H25).mono ?_)
 rintro _ _ ⟨rfl, H26⟩
 refine RW.ld H26 2 2 ?_
 refine RW.mkD H26 (x := .row ⟨[.int .i64 1, .int .i64 65, .int .i64 1, .int .i64 xn], 28, false⟩) (fm := fun b => .slice (some ⟨b, 0, none⟩) 2 2) (by kernel_rfl) (by kernel_rfl) (by kernel_rfl) (by kernel_rfl) ?_
 intro _ b27 H28
 refine RW.ld H28 2 2 ?_
 refine RW.cl ?_
 refine ((def2_wc x0 x1 y0 y1 H28.gn H28.abs (hT.le H28.old) (H28.get 0 rfl)).mono ?_)
 rintro _ _ ⟨rfl, K29⟩
 have H30 := H28.then K29
 dsimp only [List.nil_append, List.cons_append] at H30
 refine RW.nil ?_
 refine ⟨⟨by kernel_rfl, ⟨trivial, trivial, dyn_row (H25.get 3 rfl) (H30.get 4 rfl) ⟨fun h => Bool.noConfusion h, fun h => Bool.noConfusion h, fun h => Bool.noConfusion h, fun _ => H25.get 3 rfl, fun h => Bool.noConfusion h, fun h => Bool.noConfusion h, fun h => Bool.noConfusion h, fun _ => H28.get 4 rfl, trivial⟩, trivial, dyn_row (H26.get 2 rfl) (H30.get 3 rfl) ⟨fun h => Bool.noConfusion h, fun h => Bool.noConfusion h, fun h => Bool.noConfusion h, fun _ => H25.get 2 rfl, fun h => Bool.noConfusion h, fun h => Bool.noConfusion h, fun h => Bool.noConfusion h, fun _ => H28.get 3 rfl, trivial⟩, Or.inl (by kernel_rfl), dyn_row (H28.get 2 rfl) (H30.get 2 rfl) ⟨fun h => Bool.noConfusion h, fun h => Bool.noConfusion h, fun h => Bool.noConfusion h, fun _ => H25.get 1 rfl, fun h => Bool.noConfusion h, fun h => Bool.noConfusion h, fun h => Bool.noConfusion h, fun _ => H28.get 2 rfl, trivial⟩, trivial, trivial⟩⟩, ?_⟩
 replace H := H30
 clear H25 H26 H28 H30
 replace H := (H.del 0)
 dsimp only [setL, delL] at H
 refine W.rg [(0, .int .i64 a), (9, pp h), (10, pp T), (11, pp b6), (13, pp b12), (15, pp b16), (16, pp b17), (17, pp b18)] fun TA => ?_
 refine W.seq ?_
 refine W.seq (W.region ?_)
 refine RW.ld H 1 2 ?_
 refine RW.ld H 2 2 ?_
 refine RW.vop (v := .bool true) (by kernel_rfl) (by kernel_rfl) (vop_eqS (b := false) (r := true) rfl (.inr ⟨rfl, rfl⟩) rfl rfl rfl rfl (by kernel_rfl) (fun w => (eqWd _ _ _ _ w).trans (by simp <;> omega))) (by kernel_rfl) ?_
 refine RW.nil ?_
 refine W.c1 ?_
 refine W.drawn (by kernel_rfl) (by kernel_rfl) H.gn ?_
 have H31 := H
 iterate 2 refine RW.v ?_
 refine RW.ld H31 3 2 ?_
 refine RW.cl ?_
 refine ((symE rfl H31).mono ?_)
 rintro _ _ ⟨rfl, H32⟩
 refine RW.ld H32 1 2 ?_
 refine RW.mkD H32 (x := .row ⟨[.int .i64 1, .int .i64 65, .int .i64 1, .int .i64 yn], 28, false⟩) (fm := fun b => .slice (some ⟨b, 0, none⟩) 2 2) (by kernel_rfl) (by kernel_rfl) (by kernel_rfl) (by kernel_rfl) ?_
 intro _ b33 H34
 refine RW.ld H34 1 2 ?_
 refine RW.cl ?_
 refine ((def3_wc x0 x1 y0 y1 z0 z1 H34.gn H34.abs (hT.le H34.old) (H34.get 0 rfl)).mono ?_)
 rintro _ _ ⟨rfl, K35⟩
 have H36 := H34.then K35
 dsimp only [List.nil_append, List.cons_append] at H36
 refine RW.nil ?_
 refine ⟨⟨by kernel_rfl, ⟨trivial, trivial, dyn_row (H31.get 3 rfl) (H36.get 4 rfl) ⟨fun h => Bool.noConfusion h, fun h => Bool.noConfusion h, fun h => Bool.noConfusion h, fun _ => H31.get 3 rfl, fun h => Bool.noConfusion h, fun h => Bool.noConfusion h, fun h => Bool.noConfusion h, fun _ => H34.get 4 rfl, trivial⟩, trivial, dyn_row (H32.get 1 rfl) (H36.get 2 rfl) ⟨fun h => Bool.noConfusion h, fun h => Bool.noConfusion h, fun h => Bool.noConfusion h, fun _ => H31.get 1 rfl, fun h => Bool.noConfusion h, fun h => Bool.noConfusion h, fun h => Bool.noConfusion h, fun _ => H34.get 2 rfl, trivial⟩, Or.inl (by kernel_rfl), dyn_row (H34.get 1 rfl) (H36.get 1 rfl) ⟨fun h => Bool.noConfusion h, fun h => Bool.noConfusion h, fun h => Bool.noConfusion h, fun _ => H31.get 0 rfl, fun h => Bool.noConfusion h, fun h => Bool.noConfusion h, fun h => Bool.noConfusion h, fun _ => H34.get 1 rfl, trivial⟩, trivial, trivial⟩⟩, ?_⟩
 replace H := H36
 clear H31 H32 H34 H36
 replace H := ((H.del 1).del 0)
 dsimp only [setL, delL] at H
 refine W.rg [(0, .int .i64 a), (9, pp h), (10, pp T), (11, pp b6), (13, pp b12), (15, pp b16), (16, pp b17)] fun TA => ?_
 refine W.seq ?_
 refine W.drawn (by kernel_rfl) (by kernel_rfl) H.gn ?_
 have H37 := H
 iterate 2 refine RW.v ?_
 refine RW.ld H37 3 2 ?_
 refine RW.ld H37 2 2 ?_
 refine RW.mkE H37 (x := .row ⟨[.int .i64 2, .int .i64 0, .int .i64 2, .int .i64 1], 28, false⟩) (fm := fun b => .slice (some ⟨b, 0, none⟩) 2 2) (by kernel_rfl) (by kernel_rfl) (by kernel_rfl) (by kernel_rfl) ?_
 intro _ b38 hb39 H40
 refine RW.v ?_
 refine RW.cl ?_
 refine ((num_wc (n := a) H40).mono ?_)
 rintro _ _ ⟨rfl, H41⟩
 refine RW.mkD H41 (x := .row ⟨[.int .i64 0, .int .i64 a], 28, false⟩) (fm := fun b => .slice (some ⟨b, 0, none⟩) 1 1) (by kernel_rfl) (by kernel_rfl) (by kernel_rfl) (by kernel_rfl) ?_
 intro _ b42 H43
 refine RW.cl ?_
 refine ((act1_wc x0 x1 y0 y1 z0 z1 H43.gn H43.abs (hT.le H43.old) (H43.get 1 rfl) (H43.get 0 rfl)).mono ?_)
 rintro _ _ ⟨rfl, K44⟩
 have H45 := H43.then K44
 dsimp only [List.nil_append, List.cons_append] at H45
 iterate 4 refine RW.v ?_
 refine RW.mkD H45 (x := .row ⟨[.int .i64 0, .int .i64 0], 28, false⟩) (fm := fun b => .pointer (some ⟨b, 0, none⟩)) (by kernel_rfl) (by kernel_rfl) (by kernel_rfl) (by kernel_rfl) ?_
 intro _ b46 H47
 refine RW.stD H47 0 (vs := [.int .i64 1, .int .i64 yn]) (cs' := [.int .i64 1, .int .i64 yn]) (by kernel_rfl) (by kernel_rfl) rfl rfl rfl rfl rfl (by kernel_rfl) (Nat.le_of_ble_eq_true rfl) rfl (by kernel_rfl) ?_
 intro _ H48
 dsimp only [setL, delL] at H48
 iterate 2 refine RW.v ?_
 refine RW.nil ?_
 refine ⟨⟨by kernel_rfl, ⟨trivial, trivial, dyn_row (H37.get 3 rfl) (H48.get 6 rfl) ⟨fun h => Bool.noConfusion h, fun h => Bool.noConfusion h, fun h => Bool.noConfusion h, fun h => Bool.noConfusion h, fun h => Bool.noConfusion h, fun h => Bool.noConfusion h, fun _ => H40.get 4 rfl, fun h => Bool.noConfusion h, fun _ => H43.get 5 rfl, fun h => Bool.noConfusion h, fun h => Bool.noConfusion h, fun h => Bool.noConfusion h, fun h => Bool.noConfusion h, fun h => Bool.noConfusion h, fun _ => H47.get 6 rfl, fun h => Bool.noConfusion h, fun h => Bool.noConfusion h, trivial⟩, dyn_row (H37.get 2 rfl) (H48.get 5 rfl) ⟨fun h => Bool.noConfusion h, fun h => Bool.noConfusion h, fun h => Bool.noConfusion h, fun h => Bool.noConfusion h, fun h => Bool.noConfusion h, fun h => Bool.noConfusion h, fun _ => H40.get 3 rfl, fun h => Bool.noConfusion h, fun _ => H43.get 4 rfl, fun h => Bool.noConfusion h, fun h => Bool.noConfusion h, fun h => Bool.noConfusion h, fun h => Bool.noConfusion h, fun h => Bool.noConfusion h, fun _ => H47.get 5 rfl, fun h => Bool.noConfusion h, fun h => Bool.noConfusion h, trivial⟩, dyn_makeM hb39 (Or.inl (by kernel_rfl)) ⟨fun h => Bool.noConfusion h, fun h => Bool.noConfusion h, fun h => Bool.noConfusion h, fun h => Bool.noConfusion h, fun h => Bool.noConfusion h, fun h => Bool.noConfusion h, fun _ => Or.inr (Or.inr (H40.get 0 rfl)), fun h => Bool.noConfusion h, fun _ => Or.inr (Or.inr (H43.get 1 rfl)), fun h => Bool.noConfusion h, fun h => Bool.noConfusion h, fun h => Bool.noConfusion h, fun h => Bool.noConfusion h, fun h => Bool.noConfusion h, fun _ => Or.inr (Or.inl (by kernel_rfl)), fun h => Bool.noConfusion h, fun h => Bool.noConfusion h, trivial⟩, trivial, trivial, Or.inl (by kernel_rfl), trivial, trivial, trivial, trivial, trivial, Or.inl (by kernel_rfl), trivial, trivial, trivial, trivial⟩⟩, ?_⟩
 replace H := H48
 clear H37 H40 H41 H43 H45 H47 H48
 replace H := ((H.del 2).del 1)
 dsimp only [setL, delL] at H
 refine W.rg [(0, .int .i64 a), (9, pp h), (10, pp T), (11, pp b6), (13, pp b12), (15, pp b16), (16, pp b17), (18, pp b46), (19, .int .i64 1), (20, .bool false)] fun TA => ?_
 refine W.seq ?_
 refine W.drawn (by kernel_rfl) (by kernel_rfl) H.gn ?_
 have H49 := H
 iterate 2 refine RW.v ?_
 refine RW.ld H49 4 2 ?_
 refine RW.mkE H49 (x := .row ⟨[.int .i64 2, .int .i64 0], 28, false⟩) (fm := fun b => .slice (some ⟨b, 0, none⟩) 1 1) (by kernel_rfl) (by kernel_rfl) (by kernel_rfl) (by kernel_rfl) ?_
 intro _ b50 hb51 H52
 refine RW.v ?_
 refine RW.cl ?_
 refine ((num_wc (n := a) H52).mono ?_)
 rintro _ _ ⟨rfl, H53⟩
 refine RW.mkD H53 (x := .row ⟨[.int .i64 0, .int .i64 a], 28, false⟩) (fm := fun b => .slice (some ⟨b, 0, none⟩) 1 1) (by kernel_rfl) (by kernel_rfl) (by kernel_rfl) (by kernel_rfl) ?_
 intro _ b54 H55
 refine RW.cl ?_
 refine ((act2_wc x0 x1 y0 y1 z0 z1 H55.gn H55.abs (hT.le H55.old) (H55.get 1 rfl) (H55.get 0 rfl)).mono ?_)
 rintro _ _ ⟨rfl, K56⟩
 have H57 := H55.then K56
 dsimp only [List.nil_append, List.cons_append] at H57
 iterate 4 refine RW.v ?_
 refine RW.mkD H57 (x := .row ⟨[.int .i64 0, .int .i64 0], 28, false⟩) (fm := fun b => .pointer (some ⟨b, 0, none⟩)) (by kernel_rfl) (by kernel_rfl) (by kernel_rfl) (by kernel_rfl) ?_
 intro _ b58 H59
 refine RW.stD H59 0 (vs := [.int .i64 1, .int .i64 xn]) (cs' := [.int .i64 1, .int .i64 xn]) (by kernel_rfl) (by kernel_rfl) rfl rfl rfl rfl rfl (by kernel_rfl) (Nat.le_of_ble_eq_true rfl) rfl (by kernel_rfl) ?_
 intro _ H60
 dsimp only [setL, delL] at H60
 iterate 2 refine RW.v ?_
 refine RW.nil ?_
 refine ⟨⟨by kernel_rfl, ⟨trivial, trivial, dyn_row (H49.get 4 rfl) (H60.get 7 rfl) ⟨fun h => Bool.noConfusion h, fun h => Bool.noConfusion h, fun h => Bool.noConfusion h, fun h => Bool.noConfusion h, fun h => Bool.noConfusion h, fun _ => H52.get 5 rfl, fun h => Bool.noConfusion h, fun _ => H55.get 6 rfl, fun h => Bool.noConfusion h, fun h => Bool.noConfusion h, fun h => Bool.noConfusion h, fun h => Bool.noConfusion h, fun h => Bool.noConfusion h, fun _ => H59.get 7 rfl, fun h => Bool.noConfusion h, fun h => Bool.noConfusion h, trivial⟩, dyn_makeM hb51 (Or.inl (by kernel_rfl)) ⟨fun h => Bool.noConfusion h, fun h => Bool.noConfusion h, fun h => Bool.noConfusion h, fun h => Bool.noConfusion h, fun h => Bool.noConfusion h, fun _ => Or.inr (Or.inr (H52.get 0 rfl)), fun h => Bool.noConfusion h, fun _ => Or.inr (Or.inr (H55.get 1 rfl)), fun h => Bool.noConfusion h, fun h => Bool.noConfusion h, fun h => Bool.noConfusion h, fun h => Bool.noConfusion h, fun h => Bool.noConfusion h, fun _ => Or.inr (Or.inl (by kernel_rfl)), fun h => Bool.noConfusion h, fun h => Bool.noConfusion h, trivial⟩, trivial, trivial, Or.inl (by kernel_rfl), trivial, trivial, trivial, trivial, trivial, Or.inl (by kernel_rfl), trivial, trivial, trivial, trivial⟩⟩, ?_⟩
 replace H := H60
 clear H49 H52 H53 H55 H57 H59 H60
 replace H := ((H.del 2).del 1)
 dsimp only [setL, delL] at H
 refine W.rg [(0, .int .i64 a), (9, pp h), (10, pp T), (11, pp b6), (13, pp b12), (15, pp b16), (16, pp b17), (18, pp b46), (19, .int .i64 1), (20, .bool false), (21, pp b58)] fun TA => ?_
 refine W.seq ?_
 refine W.drawn (by kernel_rfl) (by kernel_rfl) H.gn ?_
 have H61 := H
 iterate 2 refine RW.v ?_
 refine RW.ld H61 5 2 ?_
 refine RW.ld H61 4 2 ?_
 refine RW.mkE H61 (x := .row ⟨[.int .i64 2, .int .i64 0, .int .i64 2, .int .i64 1], 28, false⟩) (fm := fun b => .slice (some ⟨b, 0, none⟩) 2 2) (by kernel_rfl) (by kernel_rfl) (by kernel_rfl) (by kernel_rfl) ?_
 intro _ b62 hb63 H64
 refine RW.v ?_
 refine RW.vop (v := .int .i64 e) (by kernel_rfl) (by kernel_rfl) (vop_fastBin rfl rfl rfl hfe) (by kernel_rfl) ?_
 refine RW.cl ?_
 refine ((num_wc (n := e) H64).mono ?_)
 rintro _ _ ⟨rfl, H65⟩
 refine RW.v ?_
 refine RW.cl ?_
 refine ((num_wc (n := a) H65).mono ?_)
 rintro _ _ ⟨rfl, H66⟩
 refine RW.mkD H66 (x := .row ⟨[.int .i64 0, .int .i64 e, .int .i64 0, .int .i64 a], 28, false⟩) (fm := fun b => .slice (some ⟨b, 0, none⟩) 2 2) (by kernel_rfl) (by kernel_rfl) (by kernel_rfl) (by kernel_rfl) ?_
 intro _ b67 H68
 by_cases he : a = e
 ·refine RW.cl ?_
  refine ((act4_wc x0 x1 y0 y1 z0 z1 H68.gn H68.abs (hT.le H68.old) (H68.get 1 rfl) (H68.get 0 rfl) he).mono ?_)
  rintro _ _ ⟨rfl, K69⟩
  have H70 := H68.then K69
  dsimp only [List.nil_append, List.cons_append] at H70
  iterate 4 refine RW.v ?_
  refine RW.mkD H70 (x := .row ⟨[.int .i64 0, .int .i64 0], 28, false⟩) (fm := fun b => .pointer (some ⟨b, 0, none⟩)) (by kernel_rfl) (by kernel_rfl) (by kernel_rfl) (by kernel_rfl) ?_
  intro _ b71 H72
  refine RW.stD H72 0 (vs := [.int .i64 1, .int .i64 yn]) (cs' := [.int .i64 1, .int .i64 yn]) (by kernel_rfl) (by kernel_rfl) rfl rfl rfl rfl rfl (by kernel_rfl) (Nat.le_of_ble_eq_true rfl) rfl (by kernel_rfl) ?_
  intro _ H73
  dsimp only [setL, delL] at H73
  iterate 2 refine RW.v ?_
  refine RW.nil ?_
  refine ⟨⟨by kernel_rfl, ⟨trivial, trivial, dyn_row (H61.get 5 rfl) (H73.get 8 rfl) ⟨fun h => Bool.noConfusion h, fun h => Bool.noConfusion h, fun h => Bool.noConfusion h, fun h => Bool.noConfusion h, fun h => Bool.noConfusion h, fun h => Bool.noConfusion h, fun h => Bool.noConfusion h, fun _ => H64.get 6 rfl, fun h => Bool.noConfusion h, fun _ => H65.get 6 rfl, fun h => Bool.noConfusion h, fun _ => H68.get 7 rfl, fun h => Bool.noConfusion h, fun h => Bool.noConfusion h, fun h => Bool.noConfusion h, fun h => Bool.noConfusion h, fun h => Bool.noConfusion h, fun _ => H72.get 8 rfl, fun h => Bool.noConfusion h, fun h => Bool.noConfusion h, trivial⟩, dyn_row (H61.get 4 rfl) (H73.get 7 rfl) ⟨fun h => Bool.noConfusion h, fun h => Bool.noConfusion h, fun h => Bool.noConfusion h, fun h => Bool.noConfusion h, fun h => Bool.noConfusion h, fun h => Bool.noConfusion h, fun h => Bool.noConfusion h, fun _ => H64.get 5 rfl, fun h => Bool.noConfusion h, fun _ => H65.get 5 rfl, fun h => Bool.noConfusion h, fun _ => H68.get 6 rfl, fun h => Bool.noConfusion h, fun h => Bool.noConfusion h, fun h => Bool.noConfusion h, fun h => Bool.noConfusion h, fun h => Bool.noConfusion h, fun _ => H72.get 7 rfl, fun h => Bool.noConfusion h, fun h => Bool.noConfusion h, trivial⟩, dyn_makeM hb63 (Or.inl (by kernel_rfl)) ⟨fun h => Bool.noConfusion h, fun h => Bool.noConfusion h, fun h => Bool.noConfusion h, fun h => Bool.noConfusion h, fun h => Bool.noConfusion h, fun h => Bool.noConfusion h, fun h => Bool.noConfusion h, fun _ => Or.inr (Or.inr (H64.get 0 rfl)), fun h => Bool.noConfusion h, fun _ => Or.inr (Or.inr (H65.get 0 rfl)), fun h => Bool.noConfusion h, fun _ => Or.inr (Or.inr (H68.get 1 rfl)), fun h => Bool.noConfusion h, fun h => Bool.noConfusion h, fun h => Bool.noConfusion h, fun h => Bool.noConfusion h, fun h => Bool.noConfusion h, fun _ => Or.inr (Or.inl (by kernel_rfl)), fun h => Bool.noConfusion h, fun h => Bool.noConfusion h, trivial⟩, trivial, trivial, trivial, trivial, trivial, Or.inl (by kernel_rfl), trivial, trivial, trivial, trivial, trivial, Or.inl (by kernel_rfl), trivial, trivial, trivial, trivial⟩⟩, ?_⟩
  replace H := H73
  clear H61 H64 H65 H66 H68 H70 H72 H73
  replace H := ((((H.del 8).del 7).del 2).del 1)
  dsimp only [setL, delL] at H
  refine W.rg [(0, .int .i64 a), (15, pp b16), (16, pp b17), (18, pp b46), (19, .int .i64 1), (20, .bool false), (21, pp b58), (24, pp b71), (25, .int .i64 1), (26, .bool false)] fun TA => ?_
  refine W.seq ?_
  refine W.seq (W.region ?_)
  refine RW.v ?_
  refine RW.vop (v := .int .i64 e) (by kernel_rfl) (by kernel_rfl) (vop_fastBin rfl rfl rfl hfe) (by kernel_rfl) ?_
  refine RW.v ?_
  refine RW.valE (v' := .bool true) (by kernel_rfl) (by kernel_rfl) rfl (congrArg Value.bool (beq_iff_eq.2 (by omega))) (by kernel_rfl) ?_
  refine RW.nil ?_
  refine W.c1 ?_
  refine W.region ?_
  refine RW.cl ?_
  refine ⟨_, _, s_nilK (G := G65), ?_⟩
  refine RW.st H 0 [.int .i64 1, .int .i64 0] [.int .i64 1, .int .i64 0] ?_
  clear H; intro _ _ H; dsimp only [setL, delL] at H
  refine RW.v ?_
  refine RW.nil ?_
  refine W.rg [(15, pp b16), (16, pp b17), (18, pp b46), (19, .int .i64 1), (20, .bool false), (21, pp b58), (24, pp b71), (25, .int .i64 1), (26, .bool false)] fun TA => ?_
  refine W.seq ?_
  refine W.drawn (by kernel_rfl) (by kernel_rfl) H.gn ?_
  have H74 := H
  refine RW.ld H74 2 2 ?_
  refine RW.ld H74 3 2 ?_
  refine RW.vop (v := .bool true) (by kernel_rfl) (by kernel_rfl) (vop_eqS (b := true) (r := true) rfl (.inl ⟨rfl, rfl⟩) rfl rfl rfl rfl (by kernel_rfl) (fun w => (eqWd _ _ _ _ w).trans (by simp))) (by kernel_rfl) ?_
  refine RW.v ?_
  refine RW.val (by rfl) (by kernel_rfl) rfl (by kernel_rfl) ?_
  refine RW.val (by rfl) (by kernel_rfl) rfl (by kernel_rfl) ?_
  iterate 2 refine RW.v ?_
  refine RW.val (by rfl) (by kernel_rfl) rfl (by kernel_rfl) ?_
  refine RW.val (by rfl) (by kernel_rfl) rfl (by kernel_rfl) ?_
  iterate 2 refine RW.v ?_
  refine RW.ldL H74 1 2 (by rfl) (by kernel_rfl) rfl rfl rfl rfl rfl (by kernel_rfl) ?_
  refine RW.ldL H74 4 2 (by rfl) (by kernel_rfl) rfl rfl rfl rfl rfl (by kernel_rfl) ?_
  refine RW.vop (v := .bool true) (by rfl) (by kernel_rfl) (vop_eqS (b := true) (r := true) rfl (.inl ⟨rfl, rfl⟩) rfl rfl rfl rfl (by kernel_rfl) (fun w => (eqWd _ _ _ _ w).trans (by simp))) (by kernel_rfl) ?_
  iterate 2 refine RW.v ?_
  refine RW.ldL H74 0 2 (by rfl) (by kernel_rfl) rfl rfl rfl rfl rfl (by kernel_rfl) ?_
  refine RW.cl (hw := by rfl) ?_
  refine ⟨_, _, s_nilK (G := G65), ?_⟩
  refine RW.vop (v := .bool true) (by rfl) (by kernel_rfl) (vop_eqS (b := true) (r := true) rfl (.inl ⟨rfl, rfl⟩) rfl rfl rfl rfl (by kernel_rfl) (fun w => (eqWd _ _ _ _ w).trans (by simp))) (by kernel_rfl) ?_
  iterate 2 refine RW.v ?_
  refine RW.val (by rfl) (by kernel_rfl) rfl (by kernel_rfl) ?_
  refine RW.val (by rfl) (by kernel_rfl) rfl (by kernel_rfl) ?_
  iterate 2 refine RW.v ?_
  refine RW.val (by rfl) (by kernel_rfl) rfl (by kernel_rfl) ?_
  refine RW.val (by rfl) (by kernel_rfl) rfl (by kernel_rfl) ?_
  iterate 2 refine RW.v ?_
  refine RW.nil ?_
  refine ⟨⟨by kernel_rfl, ⟨dyn_row (H74.get 2 rfl) (H74.get 2 rfl) ⟨fun h => Bool.noConfusion h, fun h => Bool.noConfusion h, fun h => Bool.noConfusion h, fun h => Bool.noConfusion h, fun h => Bool.noConfusion h, fun h => Bool.noConfusion h, fun h => Bool.noConfusion h, fun h => Bool.noConfusion h, fun h => Bool.noConfusion h, fun h => Bool.noConfusion h, fun h => Bool.noConfusion h, fun h => Bool.noConfusion h, fun h => Bool.noConfusion h, fun h => Bool.noConfusion h, fun h => Bool.noConfusion h, fun h => Bool.noConfusion h, fun h => Bool.noConfusion h, fun h => Bool.noConfusion h, fun _ => H74.get 2 rfl, fun h => Bool.noConfusion h, fun h => Bool.noConfusion h, fun h => Bool.noConfusion h, fun h => Bool.noConfusion h, fun h => Bool.noConfusion h, fun h => Bool.noConfusion h, fun h => Bool.noConfusion h, fun h => Bool.noConfusion h, fun h => Bool.noConfusion h, fun h => Bool.noConfusion h, fun h => Bool.noConfusion h, trivial⟩, dyn_row (H74.get 3 rfl) (H74.get 3 rfl) ⟨fun h => Bool.noConfusion h, fun h => Bool.noConfusion h, fun h => Bool.noConfusion h, fun h => Bool.noConfusion h, fun h => Bool.noConfusion h, fun h => Bool.noConfusion h, fun h => Bool.noConfusion h, fun h => Bool.noConfusion h, fun h => Bool.noConfusion h, fun h => Bool.noConfusion h, fun h => Bool.noConfusion h, fun h => Bool.noConfusion h, fun h => Bool.noConfusion h, fun h => Bool.noConfusion h, fun h => Bool.noConfusion h, fun h => Bool.noConfusion h, fun h => Bool.noConfusion h, fun h => Bool.noConfusion h, fun _ => H74.get 3 rfl, fun h => Bool.noConfusion h, fun h => Bool.noConfusion h, fun h => Bool.noConfusion h, fun h => Bool.noConfusion h, fun h => Bool.noConfusion h, fun h => Bool.noConfusion h, fun h => Bool.noConfusion h, fun h => Bool.noConfusion h, fun h => Bool.noConfusion h, fun h => Bool.noConfusion h, fun h => Bool.noConfusion h, trivial⟩, trivial, trivial, trivial, trivial, trivial, trivial, trivial, trivial, trivial, trivial, dyn_row (H74.get 1 rfl) (H74.get 1 rfl) ⟨fun h => Bool.noConfusion h, fun h => Bool.noConfusion h, fun h => Bool.noConfusion h, fun h => Bool.noConfusion h, fun h => Bool.noConfusion h, fun h => Bool.noConfusion h, fun h => Bool.noConfusion h, fun h => Bool.noConfusion h, fun h => Bool.noConfusion h, fun h => Bool.noConfusion h, fun h => Bool.noConfusion h, fun h => Bool.noConfusion h, fun h => Bool.noConfusion h, fun h => Bool.noConfusion h, fun h => Bool.noConfusion h, fun h => Bool.noConfusion h, fun h => Bool.noConfusion h, fun h => Bool.noConfusion h, fun _ => H74.get 1 rfl, fun h => Bool.noConfusion h, fun h => Bool.noConfusion h, fun h => Bool.noConfusion h, fun h => Bool.noConfusion h, fun h => Bool.noConfusion h, fun h => Bool.noConfusion h, fun h => Bool.noConfusion h, fun h => Bool.noConfusion h, fun h => Bool.noConfusion h, fun h => Bool.noConfusion h, fun h => Bool.noConfusion h, trivial⟩, dyn_row (H74.get 4 rfl) (H74.get 4 rfl) ⟨fun h => Bool.noConfusion h, fun h => Bool.noConfusion h, fun h => Bool.noConfusion h, fun h => Bool.noConfusion h, fun h => Bool.noConfusion h, fun h => Bool.noConfusion h, fun h => Bool.noConfusion h, fun h => Bool.noConfusion h, fun h => Bool.noConfusion h, fun h => Bool.noConfusion h, fun h => Bool.noConfusion h, fun h => Bool.noConfusion h, fun h => Bool.noConfusion h, fun h => Bool.noConfusion h, fun h => Bool.noConfusion h, fun h => Bool.noConfusion h, fun h => Bool.noConfusion h, fun h => Bool.noConfusion h, fun _ => H74.get 4 rfl, fun h => Bool.noConfusion h, fun h => Bool.noConfusion h, fun h => Bool.noConfusion h, fun h => Bool.noConfusion h, fun h => Bool.noConfusion h, fun h => Bool.noConfusion h, fun h => Bool.noConfusion h, fun h => Bool.noConfusion h, fun h => Bool.noConfusion h, fun h => Bool.noConfusion h, fun h => Bool.noConfusion h, trivial⟩, trivial, trivial, trivial, dyn_row (H74.get 0 rfl) (H74.get 0 rfl) ⟨fun h => Bool.noConfusion h, fun h => Bool.noConfusion h, fun h => Bool.noConfusion h, fun h => Bool.noConfusion h, fun h => Bool.noConfusion h, fun h => Bool.noConfusion h, fun h => Bool.noConfusion h, fun h => Bool.noConfusion h, fun h => Bool.noConfusion h, fun h => Bool.noConfusion h, fun h => Bool.noConfusion h, fun h => Bool.noConfusion h, fun h => Bool.noConfusion h, fun h => Bool.noConfusion h, fun h => Bool.noConfusion h, fun h => Bool.noConfusion h, fun h => Bool.noConfusion h, fun h => Bool.noConfusion h, fun _ => H74.get 0 rfl, fun h => Bool.noConfusion h, fun h => Bool.noConfusion h, fun h => Bool.noConfusion h, fun h => Bool.noConfusion h, fun h => Bool.noConfusion h, fun h => Bool.noConfusion h, fun h => Bool.noConfusion h, fun h => Bool.noConfusion h, fun h => Bool.noConfusion h, fun h => Bool.noConfusion h, fun h => Bool.noConfusion h, trivial⟩, trivial, trivial, trivial, trivial, trivial, trivial, trivial, trivial, trivial, trivial, trivial, trivial, trivial⟩⟩, ?_⟩
  replace H := H74
  clear H74
  replace H := (((((H.del 4).del 3).del 2).del 1).del 0)
  dsimp only [setL, delL] at H
  refine W.ret ?_
  refine endG (by rfl) (by exact resL_tmp rfl) ?_
  exact rfl
 ·refine RW.cl ?_
  refine ((act3_wc x0 x1 y0 y1 z0 z1 H68.gn H68.abs (hT.le H68.old) (H68.get 1 rfl) (H68.get 0 rfl) he).mono ?_)
  rintro _ _ ⟨rfl, K75⟩
  have H76 := H68.then K75
  dsimp only [List.nil_append, List.cons_append] at H76
  iterate 4 refine RW.v ?_
  refine RW.mkD H76 (x := .row ⟨[.int .i64 0, .int .i64 0], 28, false⟩) (fm := fun b => .pointer (some ⟨b, 0, none⟩)) (by kernel_rfl) (by kernel_rfl) (by kernel_rfl) (by kernel_rfl) ?_
  intro _ b77 H78
  refine RW.stD H78 0 (vs := [.int .i64 1, .int .i64 0]) (cs' := [.int .i64 1, .int .i64 0]) (by kernel_rfl) (by kernel_rfl) rfl rfl rfl rfl rfl (by kernel_rfl) (Nat.le_of_ble_eq_true rfl) rfl (by kernel_rfl) ?_
  intro _ H79
  dsimp only [setL, delL] at H79
  iterate 2 refine RW.v ?_
  refine RW.nil ?_
  refine ⟨⟨by kernel_rfl, ⟨trivial, trivial, dyn_row (H61.get 5 rfl) (H79.get 8 rfl) ⟨fun h => Bool.noConfusion h, fun h => Bool.noConfusion h, fun h => Bool.noConfusion h, fun h => Bool.noConfusion h, fun h => Bool.noConfusion h, fun h => Bool.noConfusion h, fun h => Bool.noConfusion h, fun _ => H64.get 6 rfl, fun h => Bool.noConfusion h, fun _ => H65.get 6 rfl, fun h => Bool.noConfusion h, fun _ => H68.get 7 rfl, fun h => Bool.noConfusion h, fun h => Bool.noConfusion h, fun h => Bool.noConfusion h, fun h => Bool.noConfusion h, fun h => Bool.noConfusion h, fun _ => H78.get 8 rfl, fun h => Bool.noConfusion h, fun h => Bool.noConfusion h, trivial⟩, dyn_row (H61.get 4 rfl) (H79.get 7 rfl) ⟨fun h => Bool.noConfusion h, fun h => Bool.noConfusion h, fun h => Bool.noConfusion h, fun h => Bool.noConfusion h, fun h => Bool.noConfusion h, fun h => Bool.noConfusion h, fun h => Bool.noConfusion h, fun _ => H64.get 5 rfl, fun h => Bool.noConfusion h, fun _ => H65.get 5 rfl, fun h => Bool.noConfusion h, fun _ => H68.get 6 rfl, fun h => Bool.noConfusion h, fun h => Bool.noConfusion h, fun h => Bool.noConfusion h, fun h => Bool.noConfusion h, fun h => Bool.noConfusion h, fun _ => H78.get 7 rfl, fun h => Bool.noConfusion h, fun h => Bool.noConfusion h, trivial⟩, dyn_makeM hb63 (Or.inl (by kernel_rfl)) ⟨fun h => Bool.noConfusion h, fun h => Bool.noConfusion h, fun h => Bool.noConfusion h, fun h => Bool.noConfusion h, fun h => Bool.noConfusion h, fun h => Bool.noConfusion h, fun h => Bool.noConfusion h, fun _ => Or.inr (Or.inr (H64.get 0 rfl)), fun h => Bool.noConfusion h, fun _ => Or.inr (Or.inr (H65.get 0 rfl)), fun h => Bool.noConfusion h, fun _ => Or.inr (Or.inr (H68.get 1 rfl)), fun h => Bool.noConfusion h, fun h => Bool.noConfusion h, fun h => Bool.noConfusion h, fun h => Bool.noConfusion h, fun h => Bool.noConfusion h, fun _ => Or.inr (Or.inl (by kernel_rfl)), fun h => Bool.noConfusion h, fun h => Bool.noConfusion h, trivial⟩, trivial, trivial, trivial, trivial, trivial, Or.inl (by kernel_rfl), trivial, trivial, trivial, trivial, trivial, Or.inl (by kernel_rfl), trivial, trivial, trivial, trivial⟩⟩, ?_⟩
  replace H := H79
  clear H61 H64 H65 H66 H68 H76 H78 H79
  replace H := ((((H.del 8).del 7).del 2).del 1)
  dsimp only [setL, delL] at H
  refine W.rg [(0, .int .i64 a), (15, pp b16), (16, pp b17), (18, pp b46), (19, .int .i64 1), (20, .bool false), (21, pp b58), (24, pp b77), (25, .int .i64 1), (26, .bool false)] fun TA => ?_
  refine W.seq ?_
  refine W.seq (W.region ?_)
  refine RW.v ?_
  refine RW.vop (v := .int .i64 e) (by kernel_rfl) (by kernel_rfl) (vop_fastBin rfl rfl rfl hfe) (by kernel_rfl) ?_
  refine RW.v ?_
  refine RW.valE (v' := .bool false) (by kernel_rfl) (by kernel_rfl) rfl (congrArg Value.bool (beq_eq_false_iff_ne.2 (by omega))) (by kernel_rfl) ?_
  refine RW.nil ?_
  refine W.c0 ?_
  refine W.skip ?_
  refine W.seq ?_
  refine W.drawn (by kernel_rfl) (by kernel_rfl) H.gn ?_
  have H80 := H
  refine RW.ld H80 2 2 ?_
  refine RW.ld H80 3 2 ?_
  refine RW.vop (v := .bool true) (by kernel_rfl) (by kernel_rfl) (vop_eqS (b := true) (r := true) rfl (.inl ⟨rfl, rfl⟩) rfl rfl rfl rfl (by kernel_rfl) (fun w => (eqWd _ _ _ _ w).trans (by simp))) (by kernel_rfl) ?_
  refine RW.v ?_
  refine RW.val (by rfl) (by kernel_rfl) rfl (by kernel_rfl) ?_
  refine RW.val (by rfl) (by kernel_rfl) rfl (by kernel_rfl) ?_
  iterate 2 refine RW.v ?_
  refine RW.val (by rfl) (by kernel_rfl) rfl (by kernel_rfl) ?_
  refine RW.val (by rfl) (by kernel_rfl) rfl (by kernel_rfl) ?_
  iterate 2 refine RW.v ?_
  refine RW.ldL H80 1 2 (by rfl) (by kernel_rfl) rfl rfl rfl rfl rfl (by kernel_rfl) ?_
  refine RW.ldL H80 4 2 (by rfl) (by kernel_rfl) rfl rfl rfl rfl rfl (by kernel_rfl) ?_
  refine RW.vop (v := .bool true) (by rfl) (by kernel_rfl) (vop_eqS (b := true) (r := true) rfl (.inl ⟨rfl, rfl⟩) rfl rfl rfl rfl (by kernel_rfl) (fun w => (eqWd _ _ _ _ w).trans (by simp))) (by kernel_rfl) ?_
  iterate 2 refine RW.v ?_
  refine RW.ldL H80 0 2 (by rfl) (by kernel_rfl) rfl rfl rfl rfl rfl (by kernel_rfl) ?_
  refine RW.cl (hw := by rfl) ?_
  refine ⟨_, _, s_nilK (G := G65), ?_⟩
  refine RW.vop (v := .bool true) (by rfl) (by kernel_rfl) (vop_eqS (b := true) (r := true) rfl (.inl ⟨rfl, rfl⟩) rfl rfl rfl rfl (by kernel_rfl) (fun w => (eqWd _ _ _ _ w).trans (by simp))) (by kernel_rfl) ?_
  iterate 2 refine RW.v ?_
  refine RW.val (by rfl) (by kernel_rfl) rfl (by kernel_rfl) ?_
  refine RW.val (by rfl) (by kernel_rfl) rfl (by kernel_rfl) ?_
  iterate 2 refine RW.v ?_
  refine RW.val (by rfl) (by kernel_rfl) rfl (by kernel_rfl) ?_
  refine RW.val (by rfl) (by kernel_rfl) rfl (by kernel_rfl) ?_
  iterate 2 refine RW.v ?_
  refine RW.nil ?_
  refine ⟨⟨by kernel_rfl, ⟨dyn_row (H80.get 2 rfl) (H80.get 2 rfl) ⟨fun h => Bool.noConfusion h, fun h => Bool.noConfusion h, fun h => Bool.noConfusion h, fun h => Bool.noConfusion h, fun h => Bool.noConfusion h, fun h => Bool.noConfusion h, fun h => Bool.noConfusion h, fun h => Bool.noConfusion h, fun h => Bool.noConfusion h, fun h => Bool.noConfusion h, fun h => Bool.noConfusion h, fun h => Bool.noConfusion h, fun h => Bool.noConfusion h, fun h => Bool.noConfusion h, fun h => Bool.noConfusion h, fun h => Bool.noConfusion h, fun h => Bool.noConfusion h, fun h => Bool.noConfusion h, fun _ => H80.get 2 rfl, fun h => Bool.noConfusion h, fun h => Bool.noConfusion h, fun h => Bool.noConfusion h, fun h => Bool.noConfusion h, fun h => Bool.noConfusion h, fun h => Bool.noConfusion h, fun h => Bool.noConfusion h, fun h => Bool.noConfusion h, fun h => Bool.noConfusion h, fun h => Bool.noConfusion h, fun h => Bool.noConfusion h, trivial⟩, dyn_row (H80.get 3 rfl) (H80.get 3 rfl) ⟨fun h => Bool.noConfusion h, fun h => Bool.noConfusion h, fun h => Bool.noConfusion h, fun h => Bool.noConfusion h, fun h => Bool.noConfusion h, fun h => Bool.noConfusion h, fun h => Bool.noConfusion h, fun h => Bool.noConfusion h, fun h => Bool.noConfusion h, fun h => Bool.noConfusion h, fun h => Bool.noConfusion h, fun h => Bool.noConfusion h, fun h => Bool.noConfusion h, fun h => Bool.noConfusion h, fun h => Bool.noConfusion h, fun h => Bool.noConfusion h, fun h => Bool.noConfusion h, fun h => Bool.noConfusion h, fun _ => H80.get 3 rfl, fun h => Bool.noConfusion h, fun h => Bool.noConfusion h, fun h => Bool.noConfusion h, fun h => Bool.noConfusion h, fun h => Bool.noConfusion h, fun h => Bool.noConfusion h, fun h => Bool.noConfusion h, fun h => Bool.noConfusion h, fun h => Bool.noConfusion h, fun h => Bool.noConfusion h, fun h => Bool.noConfusion h, trivial⟩, trivial, trivial, trivial, trivial, trivial, trivial, trivial, trivial, trivial, trivial, dyn_row (H80.get 1 rfl) (H80.get 1 rfl) ⟨fun h => Bool.noConfusion h, fun h => Bool.noConfusion h, fun h => Bool.noConfusion h, fun h => Bool.noConfusion h, fun h => Bool.noConfusion h, fun h => Bool.noConfusion h, fun h => Bool.noConfusion h, fun h => Bool.noConfusion h, fun h => Bool.noConfusion h, fun h => Bool.noConfusion h, fun h => Bool.noConfusion h, fun h => Bool.noConfusion h, fun h => Bool.noConfusion h, fun h => Bool.noConfusion h, fun h => Bool.noConfusion h, fun h => Bool.noConfusion h, fun h => Bool.noConfusion h, fun h => Bool.noConfusion h, fun _ => H80.get 1 rfl, fun h => Bool.noConfusion h, fun h => Bool.noConfusion h, fun h => Bool.noConfusion h, fun h => Bool.noConfusion h, fun h => Bool.noConfusion h, fun h => Bool.noConfusion h, fun h => Bool.noConfusion h, fun h => Bool.noConfusion h, fun h => Bool.noConfusion h, fun h => Bool.noConfusion h, fun h => Bool.noConfusion h, trivial⟩, dyn_row (H80.get 4 rfl) (H80.get 4 rfl) ⟨fun h => Bool.noConfusion h, fun h => Bool.noConfusion h, fun h => Bool.noConfusion h, fun h => Bool.noConfusion h, fun h => Bool.noConfusion h, fun h => Bool.noConfusion h, fun h => Bool.noConfusion h, fun h => Bool.noConfusion h, fun h => Bool.noConfusion h, fun h => Bool.noConfusion h, fun h => Bool.noConfusion h, fun h => Bool.noConfusion h, fun h => Bool.noConfusion h, fun h => Bool.noConfusion h, fun h => Bool.noConfusion h, fun h => Bool.noConfusion h, fun h => Bool.noConfusion h, fun h => Bool.noConfusion h, fun _ => H80.get 4 rfl, fun h => Bool.noConfusion h, fun h => Bool.noConfusion h, fun h => Bool.noConfusion h, fun h => Bool.noConfusion h, fun h => Bool.noConfusion h, fun h => Bool.noConfusion h, fun h => Bool.noConfusion h, fun h => Bool.noConfusion h, fun h => Bool.noConfusion h, fun h => Bool.noConfusion h, fun h => Bool.noConfusion h, trivial⟩, trivial, trivial, trivial, dyn_row (H80.get 0 rfl) (H80.get 0 rfl) ⟨fun h => Bool.noConfusion h, fun h => Bool.noConfusion h, fun h => Bool.noConfusion h, fun h => Bool.noConfusion h, fun h => Bool.noConfusion h, fun h => Bool.noConfusion h, fun h => Bool.noConfusion h, fun h => Bool.noConfusion h, fun h => Bool.noConfusion h, fun h => Bool.noConfusion h, fun h => Bool.noConfusion h, fun h => Bool.noConfusion h, fun h => Bool.noConfusion h, fun h => Bool.noConfusion h, fun h => Bool.noConfusion h, fun h => Bool.noConfusion h, fun h => Bool.noConfusion h, fun h => Bool.noConfusion h, fun _ => H80.get 0 rfl, fun h => Bool.noConfusion h, fun h => Bool.noConfusion h, fun h => Bool.noConfusion h, fun h => Bool.noConfusion h, fun h => Bool.noConfusion h, fun h => Bool.noConfusion h, fun h => Bool.noConfusion h, fun h => Bool.noConfusion h, fun h => Bool.noConfusion h, fun h => Bool.noConfusion h, fun h => Bool.noConfusion h, trivial⟩, trivial, trivial, trivial, trivial, trivial, trivial, trivial, trivial, trivial, trivial, trivial, trivial, trivial⟩⟩, ?_⟩
  replace H := H80
  clear H80
  replace H := (((((H.del 4).del 3).del 2).del 1).del 0)
  dsimp only [setL, delL] at H
  refine W.ret ?_
  refine endG (by rfl) (by exact resL_tmp rfl) ?_
  exact rfl
end Go.Proofs.YtdbmflnkdoeaoaaDoor
