/-
  counts (ListsNames) in the second memory. Conditions: nothing else lies there.
-/
import Derived.Test.YtehcckhdppdkcaaGreatDoorNd
import Derived.Test.YtehcckhdppdkcaaGreatDoorNe
import Derived.Test.YtehcckhdppdkcaaGreatDoorNf
namespace Go.Proofs.YtehcckhdppdkcaaGreatDoor
set_option maxRecDepth 100000
set_option maxHeartbeats 8000000 in
theorem counts_wc {G : Nat} {σ0 : Mem} (hG : G ≤ σ0.next) (hno : σ0.abs = Abs.no) : WC G Tryz.prog 39 #[] σ0 fun v _ => v = .bool true := by
  obtain ⟨h, hh⟩ : ∃ h, h = σ0.next := ⟨_, rfl⟩
  have H := Lies.start hG hno
  generalize σ0.get = F at H
  refine WC.enter (fn := Tryz.f39) Tryz.func39 rfl ?_
  refine W.rg [] fun TA => ?_
  refine W.seq ?_
  refine W.region ?_
  refine RW.v ?_
  refine RW.nil ?_
  refine W.rg [] fun TA => ?_
  refine W.seq ?_
  refine W.region ?_
  refine RW.call (by kernel_rfl) (by kernel_rfl) rfl rfl rfl (by kernel_rfl) (by kernel_rfl) ⟨_, _, (c_new (G := G) hh H.abs), ?_⟩
  replace H := Lies.made hh H
  refine RW.v ?_
  refine RW.v ?_
  refine RW.v ?_
  refine RW.v ?_
  refine RW.v ?_
  refine RW.nil ?_
  refine W.rg [(1, pt h)] fun TA => ?_
  refine W.seq ?_
  refine W.region ?_
  refine RW.cl ?_
  refine WC.enter (fn := Tryz.f32) Tryz.func32 rfl ?_
  refine W.rg [] fun TA => ?_
  refine W.seq ?_
  refine W.region ?_
  refine RW.mk H (.row ⟨[.int .i64 0, .int .i64 0], 37, false⟩) ?_
  clear H; intro _ b1 _ H
  refine RW.nil ?_
  refine W.rg [(0, pt b1)] fun TA => ?_
  refine W.seq ?_
  refine W.region ?_
  refine RW.cl ?_
  refine WC.enter (fn := Tryz.f31) Tryz.func31 rfl ?_
  refine W.rg [(0, .int .i64 0)] fun TA => ?_
  refine W.seq ?_
  refine W.region ?_
  refine RW.mk H (.row ⟨[.int .i64 0, .int .i64 0], 37, false⟩) ?_
  clear H; intro _ b2 _ H
  refine RW.nil ?_
  refine W.rg [(0, .int .i64 0), (2, pt b2)] fun TA => ?_
  refine W.seq ?_
  refine W.region ?_
  refine RW.v ?_
  refine RW.val (v := .agg #[.int .i64 1, .int .i64 0]) (by kernel_rfl) (by kernel_rfl) (by kernel_rfl) (by kernel_rfl) ?_
  refine RW.st H 0 [.int .i64 1, .int .i64 0] [.int .i64 1, .int .i64 0] ?_
  clear H; intro _ _ H
  dsimp only [setL, delL] at H
  refine RW.nil ?_
  refine W.rg [(2, pt b2)] fun TA => ?_
  refine W.ret ?_
  refine endG (by rfl) (by exact resL_cell rfl (H.get 0 rfl) (by rw [uT_eq]; exact Tryz.underlying37) (by kernel_rfl) rfl rfl rfl) ?_
  refine RW.st H 1 [.int .i64 1, .int .i64 0] [.int .i64 1, .int .i64 0] ?_
  clear H; intro _ _ H
  dsimp only [setL, delL] at H
  refine RW.nil ?_
  replace H := (H.del 0)
  dsimp only [setL, delL] at H
  refine W.rg [(0, pt b1)] fun TA => ?_
  refine W.ret ?_
  refine endG (by rfl) (by exact resL_cell rfl (H.get 0 rfl) (by rw [uT_eq]; exact Tryz.underlying37) (by kernel_rfl) rfl rfl rfl) ?_
  refine RW.cl ?_
  refine WC.enter (fn := Tryz.f32) Tryz.func32 rfl ?_
  refine W.rg [] fun TA => ?_
  refine W.seq ?_
  refine W.region ?_
  refine RW.mk H (.row ⟨[.int .i64 0, .int .i64 0], 37, false⟩) ?_
  clear H; intro _ b3 _ H
  refine RW.nil ?_
  replace H := (H.del 1)
  dsimp only [setL, delL] at H
  refine W.rg [(0, pt b3)] fun TA => ?_
  refine W.seq ?_
  refine W.region ?_
  refine RW.cl ?_
  refine WC.enter (fn := Tryz.f31) Tryz.func31 rfl ?_
  refine W.rg [(0, .int .i64 0)] fun TA => ?_
  refine W.seq ?_
  refine W.region ?_
  refine RW.mk H (.row ⟨[.int .i64 0, .int .i64 0], 37, false⟩) ?_
  clear H; intro _ b4 _ H
  refine RW.nil ?_
  refine W.rg [(0, .int .i64 0), (2, pt b4)] fun TA => ?_
  refine W.seq ?_
  refine W.region ?_
  refine RW.v ?_
  refine RW.val (v := .agg #[.int .i64 1, .int .i64 0]) (by kernel_rfl) (by kernel_rfl) (by kernel_rfl) (by kernel_rfl) ?_
  refine RW.st H 0 [.int .i64 1, .int .i64 0] [.int .i64 1, .int .i64 0] ?_
  clear H; intro _ _ H
  dsimp only [setL, delL] at H
  refine RW.nil ?_
  refine W.rg [(2, pt b4)] fun TA => ?_
  refine W.ret ?_
  refine endG (by rfl) (by exact resL_cell rfl (H.get 0 rfl) (by rw [uT_eq]; exact Tryz.underlying37) (by kernel_rfl) rfl rfl rfl) ?_
  refine RW.st H 1 [.int .i64 1, .int .i64 0] [.int .i64 1, .int .i64 0] ?_
  clear H; intro _ _ H
  dsimp only [setL, delL] at H
  refine RW.nil ?_
  replace H := (H.del 0)
  dsimp only [setL, delL] at H
  refine W.rg [(0, pt b3)] fun TA => ?_
  refine W.ret ?_
  refine endG (by rfl) (by exact resL_cell rfl (H.get 0 rfl) (by rw [uT_eq]; exact Tryz.underlying37) (by kernel_rfl) rfl rfl rfl) ?_
  refine RW.cl ?_
  refine WC.enter (fn := Tryz.f23) Tryz.func23 rfl ?_
  refine W.rg [(0, .int .i64 1)] fun TA => ?_
  refine W.seq ?_
  refine W.region ?_
  refine RW.mk H (.row ⟨[.int .i64 0, .int .i64 0], 37, false⟩) ?_
  clear H; intro _ b5 _ H
  refine RW.nil ?_
  replace H := (H.del 1)
  dsimp only [setL, delL] at H
  refine W.rg [(0, .int .i64 1), (2, pt b5)] fun TA => ?_
  refine W.seq ?_
  refine W.region ?_
  refine RW.v ?_
  refine RW.val (v := .agg #[.int .i64 0, .int .i64 1]) (by kernel_rfl) (by kernel_rfl) (by kernel_rfl) (by kernel_rfl) ?_
  refine RW.st H 0 [.int .i64 0, .int .i64 1] [.int .i64 0, .int .i64 1] ?_
  clear H; intro _ _ H
  dsimp only [setL, delL] at H
  refine RW.nil ?_
  refine W.rg [(2, pt b5)] fun TA => ?_
  refine W.ret ?_
  refine endG (by rfl) (by exact resL_cell rfl (H.get 0 rfl) (by rw [uT_eq]; exact Tryz.underlying37) (by kernel_rfl) rfl rfl rfl) ?_
  refine RW.mk H (.row ⟨[.int .i64 0, .int .i64 0], 37, false⟩) ?_
  clear H; intro _ b6 _ H
  refine RW.mk H (.row ⟨[.int .i64 0, .int .i64 0], 37, false⟩) ?_
  clear H; intro _ b7 _ H
  refine RW.mk H (.row ⟨[.int .i64 0, .int .i64 0], 37, false⟩) ?_
  clear H; intro _ b8 _ H
  refine RW.st H 2 [.int .i64 1, .int .i64 0] [.int .i64 1, .int .i64 0] ?_
  clear H; intro _ _ H
  dsimp only [setL, delL] at H
  refine RW.st H 1 [.int .i64 1, .int .i64 0] [.int .i64 1, .int .i64 0] ?_
  clear H; intro _ _ H
  dsimp only [setL, delL] at H
  refine RW.st H 0 [.int .i64 0, .int .i64 1] [.int .i64 0, .int .i64 1] ?_
  clear H; intro _ _ H
  dsimp only [setL, delL] at H
  refine RW.nil ?_
  replace H := (H.del 3)
  dsimp only [setL, delL] at H
  refine W.rg [(1, pt h), (3, pt b6), (4, pt b7), (5, pt b8)] fun TA => ?_
  refine W.seq ?_
  refine W.seq ?_
  refine W.region ?_
  refine RW.v ?_
  refine RW.nil ?_
  refine W.rg [(1, pt h), (3, pt b6), (4, pt b7), (5, pt b8), (6, .int .i64 0)] fun TA => ?_
  refine W.block ?_
  refine W.loop (fun mm ta σ => ∃ (i : Nat), (mm + i = 16) ∧ Lies G (heapAbs h (hmN (3 * i))) F σ [.at_ b8 (.row ⟨[.int .i64 ((wC i).1), .int .i64 ((wC i).2)], 37, false⟩), .at_ b7 (.row ⟨[.int .i64 ((wB i).1), .int .i64 ((wB i).2)], 37, false⟩), .at_ b6 (.row ⟨[.int .i64 ((wA i).1), .int .i64 ((wA i).2)], 37, false⟩)] ∧ ta 1 = .pointer (some ⟨h, 0, none⟩) ∧ ta 3 = .pointer (some ⟨b6, 0, none⟩) ∧ ta 4 = .pointer (some ⟨b7, 0, none⟩) ∧ ta 5 = .pointer (some ⟨b8, 0, none⟩) ∧ ta 6 = .int .i64 (i : Int)) 16 ?_ ?_
  · exact ⟨0, rfl, H, rfl, rfl, rfl, rfl, rfl⟩
  clear H
  rintro mm ta _ ⟨i, hm, H, e1, e3, e4, e5, e6⟩
  refine W.rst [(1, .pointer (some ⟨h, 0, none⟩)), (3, .pointer (some ⟨b6, 0, none⟩)), (4, .pointer (some ⟨b7, 0, none⟩)), (5, .pointer (some ⟨b8, 0, none⟩)), (6, .int .i64 (i : Int))] ⟨e1, e3, e4, e5, e6, trivial⟩ fun TA => ?_
  clear e1 e3 e4 e5 e6
  refine W.seq ?_
  refine W.seq ?_
  refine W.region ?_
  refine RW.v ?_
  refine RW.v ?_
  refine RW.nil ?_
  refine W.rg [(1, pt h), (3, pt b6), (4, pt b7), (5, pt b8), (6, .int .i64 (i : Int)), (37, .bool (decide ((i : Int) < 16)))] fun TA => ?_
  refine W.cond rfl (fun hc9 => ?_) (fun hc9 => ?_)
  · have hc9b := hc9
    have hc9 := of_decide_eq_true hc9
    have hi : i < 16 := by omega
    refine W.skip ?_
    refine W.seq ?_
    refine W.block ?_
    refine W.seq ?_
    refine W.region ?_
    refine RW.v ?_
    refine RW.ld H 1 2 ?_
    refine RW.ld H 0 2 ?_
    refine RW.call (by kernel_rfl) (by kernel_rfl) rfl rfl rfl (by kernel_rfl) (by kernel_rfl) ⟨_, _, (c_cons (G := G) (3 * i) (((wB i).1, (wB i).2) : Wd) (((wC i).1, (wC i).2) : Wd) H.abs (objN_0 i (by omega)) (by omega)), ?_⟩
    replace H := H.heap (A' := heapAbs h (hmN (3 * i + 1)))
    refine RW.v ?_
    refine RW.v ?_
    refine RW.v ?_
    refine RW.st H 0 [.int .i64 2, .int .i64 ((3 * i : Nat) : Int)] [.int .i64 2, .int .i64 ((3 * i : Nat) : Int)] ?_
    clear H; intro _ _ H
    dsimp only [setL, delL] at H
    refine RW.nil ?_
    refine W.rg [(1, pt h), (3, pt b6), (4, pt b7), (5, pt b8), (6, .int .i64 (i : Int))] fun TA => ?_
    refine W.seq ?_
    refine W.region ?_
    refine RW.v ?_
    refine RW.ld H 2 2 ?_
    refine RW.ld H 2 2 ?_
    refine RW.call (by kernel_rfl) (by kernel_rfl) rfl rfl rfl (by kernel_rfl) (by kernel_rfl) ⟨_, _, (c_cons (G := G) (3 * i + 1) (((wA i).1, (wA i).2) : Wd) (((wA i).1, (wA i).2) : Wd) H.abs (objN_1 i (by omega)) (by omega)), ?_⟩
    replace H := H.heap (A' := heapAbs h (hmN (3 * i + 1 + 1)))
    refine RW.v ?_
    refine RW.v ?_
    refine RW.v ?_
    refine RW.st H 2 [.int .i64 2, .int .i64 ((3 * i + 1 : Nat) : Int)] [.int .i64 2, .int .i64 ((3 * i + 1 : Nat) : Int)] ?_
    clear H; intro _ _ H
    dsimp only [setL, delL] at H
    refine RW.nil ?_
    refine W.rg [(1, pt h), (3, pt b6), (4, pt b7), (5, pt b8), (6, .int .i64 (i : Int))] fun TA => ?_
    refine W.region ?_
    refine RW.v ?_
    refine RW.ld H 1 2 ?_
    refine RW.ld H 1 2 ?_
    refine RW.call (by kernel_rfl) (by kernel_rfl) rfl rfl rfl (by kernel_rfl) (by kernel_rfl) ⟨_, _, (c_cons (G := G) (3 * i + 1 + 1) (((wB i).1, (wB i).2) : Wd) (((wB i).1, (wB i).2) : Wd) H.abs (objN_2 i (by omega)) (by omega)), ?_⟩
    replace H := H.heap (A' := heapAbs h (hmN (3 * i + 1 + 1 + 1)))
    refine RW.v ?_
    refine RW.v ?_
    refine RW.v ?_
    refine RW.st H 1 [.int .i64 2, .int .i64 ((3 * i + 1 + 1 : Nat) : Int)] [.int .i64 2, .int .i64 ((3 * i + 1 + 1 : Nat) : Int)] ?_
    clear H; intro _ _ H
    dsimp only [setL, delL] at H
    refine RW.nil ?_
    refine blkQ_normal ?_
    refine W.rg [(1, pt h), (3, pt b6), (4, pt b7), (5, pt b8), (6, .int .i64 (i : Int))] fun TA => ?_
    refine W.region ?_
    refine RW.v ?_
    refine RW.valE (v' := .int .i64 ((i : Int) + 1)) (by kernel_rfl) (by kernel_rfl) rfl (congrArg (Value.int .i64) (wrap_in (by omega) (by omega))) (by kernel_rfl) ?_
    refine RW.v ?_
    refine RW.nil ?_
    exact ⟨rfl, mm - 1, by omega, i + 1, by omega, H, rfl, rfl, rfl, rfl, rfl⟩
  · have hc9b := hc9
    have hc9 := of_decide_eq_false hc9
    obtain rfl : i = 16 := by omega
    replace H : Lies G (heapAbs h (hmN 48)) F _ [.at_ b8 (.row ⟨[.int .i64 2, .int .i64 45], 37, false⟩), .at_ b7 (.row ⟨[.int .i64 2, .int .i64 47], 37, false⟩), .at_ b6 (.row ⟨[.int .i64 2, .int .i64 46], 37, false⟩)] := H
    refine W.exit _ ?_
    refine seqQ_exit ?_
    refine rndQ_exit ?_
    refine blkQ_here ?_
    refine W.seq ?_
    refine W.region ?_
    refine RW.v ?_
    refine RW.ld H 2 2 ?_
    refine RW.ld H 1 2 ?_
    refine RW.cl ?_
    refine WC.enter (fn := Tryz.f12) Tryz.func12 rfl ?_
    refine W.rg [(0, pt h), (1, .agg #[.int .i64 2, .int .i64 46]), (2, .agg #[.int .i64 2, .int .i64 47])] fun TA => ?_
    refine W.seq ?_
    refine W.region ?_
    refine RW.mk H (.row ⟨[.int .i64 2, .int .i64 46], 37, false⟩) ?_
    clear H; intro _ b10 _ H
    refine RW.mk H (.row ⟨[.int .i64 2, .int .i64 47], 37, false⟩) ?_
    clear H; intro _ b11 _ H
    refine RW.v ?_
    refine RW.v ?_
    refine RW.nil ?_
    refine W.rg [(0, pt h), (4, pt b10), (5, pt b11)] fun TA => ?_
    refine W.seq ?_
    refine W.drawn (by kernel_rfl) (by kernel_rfl) H.gn ?_
    have H12 := H
    refine RW.cl ?_
    refine WC.enter (fn := Tryz.f50) Tryz.func50 rfl ?_
    replace H := H12
    refine W.rg [] fun TA => ?_
    refine W.seq ?_
    refine W.region ?_
    refine RW.v ?_
    refine RW.nil ?_
    refine W.rg [] fun TA => ?_
    refine W.seq ?_
    refine W.region ?_
    refine RW.mk H (.row ⟨[.int .i64 0], 3, false⟩) ?_
    clear H; intro _ b13 _ H
    refine RW.st H 0 [.int .i64 200000] [.int .i64 200000] ?_
    clear H; intro _ _ H
    dsimp only [setL, delL] at H
    refine RW.nil ?_
    refine W.rg [(1, pt b13)] fun TA => ?_
    refine W.seq ?_
    refine W.region ?_
    refine RW.val (v := .func (.func 81) #[] #[.pointer (some ⟨b13, 0, none⟩)]) (by kernel_rfl) (by kernel_rfl) (by kernel_rfl) (by kernel_rfl) ?_
    refine RW.v ?_
    refine RW.nil ?_
    refine W.rg [(0, .func (.func 81) #[] #[pt b13])] fun TA => ?_
    refine W.ret ?_
    refine endG (by rfl) (by exact resL_tmp rfl) ?_
    have H14 := H
    refine RW.v ?_
    refine RW.ld H14 2 2 ?_
    refine RW.ld H14 1 2 ?_
    refine RW.cl ?_
    refine WC.enter (fn := Tryz.f81) Tryz.func81 rfl ?_
    replace H := H14
    refine W.rg [(0, pt h), (1, .agg #[.int .i64 2, .int .i64 46]), (2, .agg #[.int .i64 2, .int .i64 47]), (3, pt b13)] fun TA => ?_
    refine W.seq ?_
    refine W.region ?_
    refine RW.mk H (.row ⟨[.int .i64 2, .int .i64 46], 37, false⟩) ?_
    clear H; intro _ b15 _ H
    refine RW.mk H (.row ⟨[.int .i64 2, .int .i64 47], 37, false⟩) ?_
    clear H; intro _ b16 _ H
    refine RW.v ?_
    refine RW.v ?_
    refine RW.nil ?_
    refine W.rg [(0, pt h), (3, pt b13), (5, pt b15), (6, pt b16)] fun TA => ?_
    refine W.seq ?_
    refine W.region ?_
    refine RW.v ?_
    refine RW.ld H 1 2 ?_
    refine RW.ld H 0 2 ?_
    refine RW.call (by kernel_rfl) (by kernel_rfl) rfl rfl rfl (by kernel_rfl) (by kernel_rfl) ((equal_ok (G := G) (h := h) (r := true) (d := 16) (n := 200000) (n' := 68929) (k := 2) (Lp := b13) (a := ((2, 46) : Wd)) (b := ((2, 47) : Wd)) H rfl (T_ab (n := 48) (by decide) 16 (by decide)) (by decide) (by decide) (by rw [cost16]) (by decide)).mono ?_)
    clear H
    rintro _ _ ⟨rfl, H⟩
    dsimp only [setL, delL] at H
    refine RW.v ?_
    refine RW.v ?_
    refine RW.v ?_
    refine RW.v ?_
    refine RW.nil ?_
    replace H := ((H.del 1).del 0)
    dsimp only [setL, delL] at H
    refine W.rg [(7, .bool true), (8, .int .i64 0)] fun TA => ?_
    refine W.ret ?_
    refine endG (by rfl) (by exact resL_tmp (by exact resL_tmp rfl)) ?_
    have H17 := H
    refine RW.v ?_
    refine RW.v ?_
    refine RW.v ?_
    refine RW.v ?_
    refine RW.nil ?_
    refine ⟨⟨by kernel_rfl, ⟨trivial, trivial, dyn_row (H14.get 2 rfl) (H17.get 2 rfl) ⟨fun _ => H12.get 1 rfl, fun h => Bool.noConfusion h, fun h => Bool.noConfusion h, fun h => Bool.noConfusion h, fun _ => H14.get 2 rfl, fun h => Bool.noConfusion h, fun h => Bool.noConfusion h, fun h => Bool.noConfusion h, fun h => Bool.noConfusion h, trivial⟩, dyn_row (H14.get 1 rfl) (H17.get 1 rfl) ⟨fun _ => H12.get 0 rfl, fun h => Bool.noConfusion h, fun h => Bool.noConfusion h, fun h => Bool.noConfusion h, fun _ => H14.get 1 rfl, fun h => Bool.noConfusion h, fun h => Bool.noConfusion h, fun h => Bool.noConfusion h, fun h => Bool.noConfusion h, trivial⟩, trivial, trivial, trivial, trivial, trivial, trivial⟩⟩, ?_⟩
    replace H := H17
    clear H12 H14 H17
    replace H := (((H.del 2).del 1).del 0)
    dsimp only [setL, delL] at H
    refine W.rg [(6, .bool true), (7, .int .i64 0)] fun TA => ?_
    refine W.ret ?_
    refine endG (by rfl) (by exact resL_tmp (by exact resL_tmp rfl)) ?_
    refine RW.v ?_
    refine RW.v ?_
    refine RW.v ?_
    refine RW.v ?_
    refine RW.v ?_
    refine RW.nil ?_
    refine W.rg [(1, pt h), (3, pt b6), (4, pt b7), (5, pt b8), (7, .bool true), (8, .int .i64 0)] fun TA => ?_
    refine W.seq ?_
    refine W.region ?_
    refine RW.v ?_
    refine RW.ld H 0 2 ?_
    refine RW.mkL H (x := .row ⟨[.int .i64 2, .int .i64 45], 37, false⟩) (fm := fun b => .slice (some ⟨b, 0, none⟩) 1 1) (by kernel_rfl) (by kernel_rfl) (by kernel_rfl) (by kernel_rfl) ?_
    clear H; intro _ b18 _ H
    refine RW.call (by kernel_rfl) (by kernel_rfl) rfl rfl rfl (by kernel_rfl) (by kernel_rfl) ((make_once (G := G) (h := h) H).mono ?_)
    clear H
    rintro _ _ ⟨rfl, H⟩
    refine RW.v ?_
    refine RW.v ?_
    refine RW.v ?_
    refine RW.mk H (.row ⟨[.int .i64 0, .int .i64 0], 37, false⟩) ?_
    clear H; intro _ b19 _ H
    refine RW.st H 0 [.int .i64 2, .int .i64 48] [.int .i64 2, .int .i64 48] ?_
    clear H; intro _ _ H
    dsimp only [setL, delL] at H
    refine RW.v ?_
    refine RW.nil ?_
    replace H := (H.del 1)
    dsimp only [setL, delL] at H
    refine W.rg [(1, pt h), (3, pt b6), (4, pt b7), (5, pt b8), (7, .bool true), (8, .int .i64 0), (9, pt b19)] fun TA => ?_
    refine W.seq ?_
    refine W.region ?_
    refine RW.v ?_
    refine RW.ld H 1 2 ?_
    refine RW.ld H 1 2 ?_
    refine RW.ld H 3 2 ?_
    refine RW.mkL H (x := .row ⟨[.int .i64 2, .int .i64 45, .int .i64 2, .int .i64 45, .int .i64 2, .int .i64 46], 37, false⟩) (fm := fun b => .slice (some ⟨b, 0, none⟩) 3 3) (by kernel_rfl) (by kernel_rfl) (by kernel_rfl) (by kernel_rfl) ?_
    clear H; intro _ b20 _ H
    refine RW.call (by kernel_rfl) (by kernel_rfl) rfl rfl rfl (by kernel_rfl) (by kernel_rfl) ((make_twice (G := G) (h := h) H).mono ?_)
    clear H
    rintro _ _ ⟨rfl, H⟩
    refine RW.v ?_
    refine RW.v ?_
    refine RW.v ?_
    refine RW.mk H (.row ⟨[.int .i64 0, .int .i64 0], 37, false⟩) ?_
    clear H; intro _ b21 _ H
    refine RW.st H 0 [.int .i64 2, .int .i64 51] [.int .i64 2, .int .i64 51] ?_
    clear H; intro _ _ H
    dsimp only [setL, delL] at H
    refine RW.v ?_
    refine RW.nil ?_
    replace H := (H.del 1)
    dsimp only [setL, delL] at H
    refine W.rg [(1, pt h), (3, pt b6), (4, pt b7), (5, pt b8), (7, .bool true), (8, .int .i64 0), (9, pt b19), (11, pt b21)] fun TA => ?_
    refine W.seq ?_
    refine W.region ?_
    refine RW.v ?_
    refine RW.ld H 4 2 ?_
    refine RW.ld H 1 2 ?_
    refine RW.call (by kernel_rfl) (by kernel_rfl) rfl rfl rfl (by kernel_rfl) (by kernel_rfl) ((member_once (G := G) (h := h) H).mono ?_)
    clear H
    rintro _ _ ⟨rfl, H⟩
    refine RW.v ?_
    refine RW.v ?_
    refine RW.v ?_
    refine RW.mk H (.row ⟨[.int .i64 0, .int .i64 0], 37, false⟩) ?_
    clear H; intro _ b22 _ H
    refine RW.st H 0 [.int .i64 1, .int .i64 0] [.int .i64 1, .int .i64 0] ?_
    clear H; intro _ _ H
    dsimp only [setL, delL] at H
    refine RW.v ?_
    refine RW.nil ?_
    refine W.rg [(1, pt h), (3, pt b6), (4, pt b7), (5, pt b8), (7, .bool true), (8, .int .i64 0), (9, pt b19), (11, pt b21), (13, pt b22), (14, .int .i64 0)] fun TA => ?_
    refine W.seq ?_
    refine W.region ?_
    refine RW.v ?_
    refine RW.ld H 5 2 ?_
    refine RW.ld H 1 2 ?_
    refine RW.call (by kernel_rfl) (by kernel_rfl) rfl rfl rfl (by kernel_rfl) (by kernel_rfl) ((member_twice (G := G) (h := h) H).mono ?_)
    clear H
    rintro _ _ ⟨rfl, H⟩
    refine RW.v ?_
    refine RW.v ?_
    refine RW.v ?_
    refine RW.mk H (.row ⟨[.int .i64 0, .int .i64 0], 37, false⟩) ?_
    clear H; intro _ b23 _ H
    refine RW.st H 0 [.int .i64 0, .int .i64 0] [.int .i64 0, .int .i64 0] ?_
    clear H; intro _ _ H
    dsimp only [setL, delL] at H
    refine RW.v ?_
    refine RW.nil ?_
    replace H := (H.del 0)
    dsimp only [setL, delL] at H
    refine W.rg [(1, pt h), (3, pt b6), (4, pt b7), (5, pt b8), (7, .bool true), (8, .int .i64 0), (9, pt b19), (11, pt b21), (13, pt b22), (14, .int .i64 0), (16, .int .i64 22)] fun TA => ?_
    refine W.seq ?_
    refine W.region ?_
    refine RW.v ?_
    refine RW.ld H 5 2 ?_
    refine RW.ld H 1 2 ?_
    refine RW.call (by kernel_rfl) (by kernel_rfl) rfl rfl rfl (by kernel_rfl) (by kernel_rfl) ((remove_twice (G := G) (h := h) H).mono ?_)
    clear H
    rintro _ _ ⟨rfl, H⟩
    refine RW.v ?_
    refine RW.v ?_
    refine RW.v ?_
    refine RW.mk H (.row ⟨[.int .i64 0, .int .i64 0], 37, false⟩) ?_
    clear H; intro _ b24 _ H
    refine RW.st H 0 [.int .i64 0, .int .i64 0] [.int .i64 0, .int .i64 0] ?_
    clear H; intro _ _ H
    dsimp only [setL, delL] at H
    refine RW.v ?_
    refine RW.nil ?_
    replace H := (H.del 0)
    dsimp only [setL, delL] at H
    refine W.rg [(1, pt h), (3, pt b6), (4, pt b7), (5, pt b8), (7, .bool true), (8, .int .i64 0), (9, pt b19), (11, pt b21), (13, pt b22), (14, .int .i64 0), (16, .int .i64 22), (18, .int .i64 22)] fun TA => ?_
    refine W.seq ?_
    refine W.region ?_
    refine RW.v ?_
    refine RW.ld H 5 2 ?_
    refine RW.ld H 1 2 ?_
    refine RW.call (by kernel_rfl) (by kernel_rfl) rfl rfl rfl (by kernel_rfl) (by kernel_rfl) ((delete_twice (G := G) (h := h) H).mono ?_)
    clear H
    rintro _ _ ⟨rfl, H⟩
    refine RW.v ?_
    refine RW.v ?_
    refine RW.v ?_
    refine RW.mk H (.row ⟨[.int .i64 0, .int .i64 0], 37, false⟩) ?_
    clear H; intro _ b25 _ H
    refine RW.st H 0 [.int .i64 0, .int .i64 0] [.int .i64 0, .int .i64 0] ?_
    clear H; intro _ _ H
    dsimp only [setL, delL] at H
    refine RW.v ?_
    refine RW.nil ?_
    replace H := ((H.del 2).del 0)
    dsimp only [setL, delL] at H
    refine W.rg [(1, pt h), (3, pt b6), (4, pt b7), (5, pt b8), (7, .bool true), (8, .int .i64 0), (9, pt b19), (13, pt b22), (14, .int .i64 0), (16, .int .i64 22), (18, .int .i64 22), (20, .int .i64 22)] fun TA => ?_
    refine W.seq ?_
    refine W.region ?_
    refine RW.v ?_
    refine RW.ld H 2 2 ?_
    refine RW.ld H 1 2 ?_
    refine RW.call (by kernel_rfl) (by kernel_rfl) rfl rfl rfl (by kernel_rfl) (by kernel_rfl) ((delete_once (G := G) (h := h) H).mono ?_)
    clear H
    rintro _ _ ⟨rfl, H⟩
    refine RW.v ?_
    refine RW.v ?_
    refine RW.v ?_
    refine RW.mk H (.row ⟨[.int .i64 0, .int .i64 0], 37, false⟩) ?_
    clear H; intro _ b26 _ H
    refine RW.st H 0 [.int .i64 1, .int .i64 0] [.int .i64 1, .int .i64 0] ?_
    clear H; intro _ _ H
    dsimp only [setL, delL] at H
    refine RW.v ?_
    refine RW.nil ?_
    replace H := ((H.del 3).del 2)
    dsimp only [setL, delL] at H
    refine W.rg [(1, pt h), (3, pt b6), (4, pt b7), (7, .bool true), (8, .int .i64 0), (13, pt b22), (14, .int .i64 0), (16, .int .i64 22), (18, .int .i64 22), (20, .int .i64 22), (21, pt b26), (22, .int .i64 0)] fun TA => ?_
    refine W.seq ?_
    refine W.region ?_
    refine RW.v ?_
    refine RW.ld H 3 2 ?_
    refine RW.ld H 3 2 ?_
    refine RW.call (by kernel_rfl) (by kernel_rfl) rfl rfl rfl (by kernel_rfl) (by kernel_rfl) ⟨_, _, (c_cons (G := G) (52) ((2, 46) : Wd) ((2, 46) : Wd) H.abs rfl (by decide)), ?_⟩
    replace H := H.heap (A' := heapAbs h (hmN (53)))
    refine RW.v ?_
    refine RW.v ?_
    refine RW.v ?_
    refine RW.mk H (.row ⟨[.int .i64 0, .int .i64 0], 37, false⟩) ?_
    clear H; intro _ b27 _ H
    refine RW.st H 0 [.int .i64 2, .int .i64 52] [.int .i64 2, .int .i64 52] ?_
    clear H; intro _ _ H
    dsimp only [setL, delL] at H
    refine RW.v ?_
    refine RW.nil ?_
    replace H := (H.del 4)
    dsimp only [setL, delL] at H
    refine W.rg [(1, pt h), (4, pt b7), (7, .bool true), (8, .int .i64 0), (13, pt b22), (14, .int .i64 0), (16, .int .i64 22), (18, .int .i64 22), (20, .int .i64 22), (21, pt b26), (22, .int .i64 0), (23, pt b27)] fun TA => ?_
    refine W.seq ?_
    refine W.region ?_
    refine RW.v ?_
    refine RW.ld H 3 2 ?_
    refine RW.ld H 3 2 ?_
    refine RW.call (by kernel_rfl) (by kernel_rfl) rfl rfl rfl (by kernel_rfl) (by kernel_rfl) ⟨_, _, (c_cons (G := G) (53) ((2, 47) : Wd) ((2, 47) : Wd) H.abs rfl (by decide)), ?_⟩
    replace H := H.heap (A' := heapAbs h (hmN (54)))
    refine RW.v ?_
    refine RW.v ?_
    refine RW.v ?_
    refine RW.mk H (.row ⟨[.int .i64 0, .int .i64 0], 37, false⟩) ?_
    clear H; intro _ b28 _ H
    refine RW.st H 0 [.int .i64 2, .int .i64 53] [.int .i64 2, .int .i64 53] ?_
    clear H; intro _ _ H
    dsimp only [setL, delL] at H
    refine RW.v ?_
    refine RW.nil ?_
    replace H := (H.del 4)
    dsimp only [setL, delL] at H
    refine W.rg [(1, pt h), (7, .bool true), (8, .int .i64 0), (13, pt b22), (14, .int .i64 0), (16, .int .i64 22), (18, .int .i64 22), (20, .int .i64 22), (21, pt b26), (22, .int .i64 0), (23, pt b27), (25, pt b28)] fun TA => ?_
    refine W.seq ?_
    refine W.region ?_
    refine RW.v ?_
    refine RW.ld H 1 2 ?_
    refine RW.ld H 0 2 ?_
    refine RW.cl ?_
    refine WC.enter (fn := Tryz.f12) Tryz.func12 rfl ?_
    refine W.rg [(0, pt h), (1, .agg #[.int .i64 2, .int .i64 52]), (2, .agg #[.int .i64 2, .int .i64 53])] fun TA => ?_
    refine W.seq ?_
    refine W.region ?_
    refine RW.mk H (.row ⟨[.int .i64 2, .int .i64 52], 37, false⟩) ?_
    clear H; intro _ b29 _ H
    refine RW.mk H (.row ⟨[.int .i64 2, .int .i64 53], 37, false⟩) ?_
    clear H; intro _ b30 _ H
    refine RW.v ?_
    refine RW.v ?_
    refine RW.nil ?_
    refine W.rg [(0, pt h), (4, pt b29), (5, pt b30)] fun TA => ?_
    refine W.seq ?_
    refine W.drawn (by kernel_rfl) (by kernel_rfl) H.gn ?_
    have H31 := H
    refine RW.cl ?_
    refine WC.enter (fn := Tryz.f50) Tryz.func50 rfl ?_
    replace H := H31
    refine W.rg [] fun TA => ?_
    refine W.seq ?_
    refine W.region ?_
    refine RW.v ?_
    refine RW.nil ?_
    refine W.rg [] fun TA => ?_
    refine W.seq ?_
    refine W.region ?_
    refine RW.mk H (.row ⟨[.int .i64 0], 3, false⟩) ?_
    clear H; intro _ b32 _ H
    refine RW.st H 0 [.int .i64 200000] [.int .i64 200000] ?_
    clear H; intro _ _ H
    dsimp only [setL, delL] at H
    refine RW.nil ?_
    refine W.rg [(1, pt b32)] fun TA => ?_
    refine W.seq ?_
    refine W.region ?_
    refine RW.val (v := .func (.func 81) #[] #[.pointer (some ⟨b32, 0, none⟩)]) (by kernel_rfl) (by kernel_rfl) (by kernel_rfl) (by kernel_rfl) ?_
    refine RW.v ?_
    refine RW.nil ?_
    refine W.rg [(0, .func (.func 81) #[] #[pt b32])] fun TA => ?_
    refine W.ret ?_
    refine endG (by rfl) (by exact resL_tmp rfl) ?_
    have H33 := H
    refine RW.v ?_
    refine RW.ld H33 2 2 ?_
    refine RW.ld H33 1 2 ?_
    refine RW.cl ?_
    refine WC.enter (fn := Tryz.f81) Tryz.func81 rfl ?_
    replace H := H33
    refine W.rg [(0, pt h), (1, .agg #[.int .i64 2, .int .i64 52]), (2, .agg #[.int .i64 2, .int .i64 53]), (3, pt b32)] fun TA => ?_
    refine W.seq ?_
    refine W.region ?_
    refine RW.mk H (.row ⟨[.int .i64 2, .int .i64 52], 37, false⟩) ?_
    clear H; intro _ b34 _ H
    refine RW.mk H (.row ⟨[.int .i64 2, .int .i64 53], 37, false⟩) ?_
    clear H; intro _ b35 _ H
    refine RW.v ?_
    refine RW.v ?_
    refine RW.nil ?_
    refine W.rg [(0, pt h), (3, pt b32), (5, pt b34), (6, pt b35)] fun TA => ?_
    refine W.seq ?_
    refine W.region ?_
    refine RW.v ?_
    refine RW.ld H 1 2 ?_
    refine RW.ld H 0 2 ?_
    refine RW.call (by kernel_rfl) (by kernel_rfl) rfl rfl rfl (by kernel_rfl) (by kernel_rfl) ((equal_fuel (G := G) (h := h) (r := true) (d := 17) (n := 200000) (k := 2) (Lp := b32) (a := ((2, 52) : Wd)) (b := ((2, 53) : Wd)) H rfl (T_xy (n := 54) (by decide)) (by decide) (by decide) (by rw [cost17]; decide) (by decide)).mono ?_)
    clear H
    rintro _ _ ⟨rfl, H⟩
    dsimp only [setL, delL] at H
    refine RW.v ?_
    refine RW.v ?_
    refine RW.v ?_
    refine RW.v ?_
    refine RW.nil ?_
    replace H := ((H.del 1).del 0)
    dsimp only [setL, delL] at H
    refine W.rg [(7, .bool false), (8, .int .i64 22)] fun TA => ?_
    refine W.ret ?_
    refine endG (by rfl) (by exact resL_tmp (by exact resL_tmp rfl)) ?_
    have H36 := H
    refine RW.v ?_
    refine RW.v ?_
    refine RW.v ?_
    refine RW.v ?_
    refine RW.nil ?_
    refine ⟨⟨by kernel_rfl, ⟨trivial, trivial, dyn_row (H33.get 2 rfl) (H36.get 2 rfl) ⟨fun _ => H31.get 1 rfl, fun h => Bool.noConfusion h, fun h => Bool.noConfusion h, fun h => Bool.noConfusion h, fun _ => H33.get 2 rfl, fun h => Bool.noConfusion h, fun h => Bool.noConfusion h, fun h => Bool.noConfusion h, fun h => Bool.noConfusion h, trivial⟩, dyn_row (H33.get 1 rfl) (H36.get 1 rfl) ⟨fun _ => H31.get 0 rfl, fun h => Bool.noConfusion h, fun h => Bool.noConfusion h, fun h => Bool.noConfusion h, fun _ => H33.get 1 rfl, fun h => Bool.noConfusion h, fun h => Bool.noConfusion h, fun h => Bool.noConfusion h, fun h => Bool.noConfusion h, trivial⟩, trivial, trivial, trivial, trivial, trivial, trivial⟩⟩, ?_⟩
    replace H := H36
    clear H31 H33 H36
    replace H := (((H.del 2).del 1).del 0)
    dsimp only [setL, delL] at H
    refine W.rg [(6, .bool false), (7, .int .i64 22)] fun TA => ?_
    refine W.ret ?_
    refine endG (by rfl) (by exact resL_tmp (by exact resL_tmp rfl)) ?_
    refine RW.v ?_
    refine RW.v ?_
    refine RW.v ?_
    refine RW.v ?_
    refine RW.v ?_
    refine RW.nil ?_
    replace H := ((H.del 1).del 0)
    dsimp only [setL, delL] at H
    refine W.rg [(7, .bool true), (8, .int .i64 0), (13, pt b22), (14, .int .i64 0), (16, .int .i64 22), (18, .int .i64 22), (20, .int .i64 22), (21, pt b26), (22, .int .i64 0), (28, .int .i64 22)] fun TA => ?_
    refine W.seq ?_
    refine W.drawn (by kernel_rfl) (by kernel_rfl) H.gn ?_
    have H37 := H
    refine RW.v ?_
    refine RW.v ?_
    refine RW.val (by rfl) (by kernel_rfl) rfl (by kernel_rfl) ?_
    refine RW.val (by rfl) (by kernel_rfl) rfl (by kernel_rfl) ?_
    refine RW.v ?_
    refine RW.v ?_
    refine RW.ldL H37 1 2 (by rfl) (by kernel_rfl) rfl rfl rfl rfl rfl (by kernel_rfl) ?_
    refine RW.call (by rfl) (by kernel_rfl) rfl rfl rfl (by kernel_rfl) (by kernel_rfl) ?_
    refine WC.enter (fn := Tryz.f32) Tryz.func32 rfl ?_
    replace H := H37
    refine W.rg [] fun TA => ?_
    refine W.seq ?_
    refine W.region ?_
    refine RW.mk H (.row ⟨[.int .i64 0, .int .i64 0], 37, false⟩) ?_
    clear H; intro _ b38 _ H
    refine RW.nil ?_
    refine W.rg [(0, pt b38)] fun TA => ?_
    refine W.seq ?_
    refine W.region ?_
    refine RW.cl ?_
    refine WC.enter (fn := Tryz.f31) Tryz.func31 rfl ?_
    refine W.rg [(0, .int .i64 0)] fun TA => ?_
    refine W.seq ?_
    refine W.region ?_
    refine RW.mk H (.row ⟨[.int .i64 0, .int .i64 0], 37, false⟩) ?_
    clear H; intro _ b39 _ H
    refine RW.nil ?_
    refine W.rg [(0, .int .i64 0), (2, pt b39)] fun TA => ?_
    refine W.seq ?_
    refine W.region ?_
    refine RW.v ?_
    refine RW.val (v := .agg #[.int .i64 1, .int .i64 0]) (by kernel_rfl) (by kernel_rfl) (by kernel_rfl) (by kernel_rfl) ?_
    refine RW.st H 0 [.int .i64 1, .int .i64 0] [.int .i64 1, .int .i64 0] ?_
    clear H; intro _ _ H
    dsimp only [setL, delL] at H
    refine RW.nil ?_
    refine W.rg [(2, pt b39)] fun TA => ?_
    refine W.ret ?_
    refine endG (by rfl) (by exact resL_cell rfl (H.get 0 rfl) (by rw [uT_eq]; exact Tryz.underlying37) (by kernel_rfl) rfl rfl rfl) ?_
    refine RW.st H 1 [.int .i64 1, .int .i64 0] [.int .i64 1, .int .i64 0] ?_
    clear H; intro _ _ H
    dsimp only [setL, delL] at H
    refine RW.nil ?_
    replace H := (H.del 0)
    dsimp only [setL, delL] at H
    refine W.rg [(0, pt b38)] fun TA => ?_
    refine W.ret ?_
    refine endG (by rfl) (by exact resL_cell rfl (H.get 0 rfl) (by rw [uT_eq]; exact Tryz.underlying37) (by kernel_rfl) rfl rfl rfl) ?_
    have H40 := H
    refine RW.vop (v := .bool true) (by rfl) (by kernel_rfl) (vop_eqS (b := true) (r := true) rfl (.inl ⟨rfl, rfl⟩) rfl rfl rfl rfl (by kernel_rfl) (fun w => (eqWd _ _ _ _ w).trans (by simp))) (by kernel_rfl) ?_
    refine RW.v ?_
    refine RW.v ?_
    refine RW.val (by rfl) (by kernel_rfl) rfl (by kernel_rfl) ?_
    refine RW.val (by rfl) (by kernel_rfl) rfl (by kernel_rfl) ?_
    refine RW.v ?_
    refine RW.v ?_
    refine RW.val (by rfl) (by kernel_rfl) rfl (by kernel_rfl) ?_
    refine RW.val (by rfl) (by kernel_rfl) rfl (by kernel_rfl) ?_
    refine RW.v ?_
    refine RW.v ?_
    refine RW.val (by rfl) (by kernel_rfl) rfl (by kernel_rfl) ?_
    refine RW.val (by rfl) (by kernel_rfl) rfl (by kernel_rfl) ?_
    refine RW.v ?_
    refine RW.v ?_
    refine RW.val (by rfl) (by kernel_rfl) rfl (by kernel_rfl) ?_
    refine RW.val (by rfl) (by kernel_rfl) rfl (by kernel_rfl) ?_
    refine RW.v ?_
    refine RW.v ?_
    refine RW.ldL H40 1 2 (by rfl) (by kernel_rfl) rfl rfl rfl rfl rfl (by kernel_rfl) ?_
    refine RW.call (by rfl) (by kernel_rfl) rfl rfl rfl (by kernel_rfl) (by kernel_rfl) ?_
    refine WC.enter (fn := Tryz.f32) Tryz.func32 rfl ?_
    replace H := H40
    refine W.rg [] fun TA => ?_
    refine W.seq ?_
    refine W.region ?_
    refine RW.mk H (.row ⟨[.int .i64 0, .int .i64 0], 37, false⟩) ?_
    clear H; intro _ b41 _ H
    refine RW.nil ?_
    replace H := (H.del 1)
    dsimp only [setL, delL] at H
    refine W.rg [(0, pt b41)] fun TA => ?_
    refine W.seq ?_
    refine W.region ?_
    refine RW.cl ?_
    refine WC.enter (fn := Tryz.f31) Tryz.func31 rfl ?_
    refine W.rg [(0, .int .i64 0)] fun TA => ?_
    refine W.seq ?_
    refine W.region ?_
    refine RW.mk H (.row ⟨[.int .i64 0, .int .i64 0], 37, false⟩) ?_
    clear H; intro _ b42 _ H
    refine RW.nil ?_
    refine W.rg [(0, .int .i64 0), (2, pt b42)] fun TA => ?_
    refine W.seq ?_
    refine W.region ?_
    refine RW.v ?_
    refine RW.val (v := .agg #[.int .i64 1, .int .i64 0]) (by kernel_rfl) (by kernel_rfl) (by kernel_rfl) (by kernel_rfl) ?_
    refine RW.st H 0 [.int .i64 1, .int .i64 0] [.int .i64 1, .int .i64 0] ?_
    clear H; intro _ _ H
    dsimp only [setL, delL] at H
    refine RW.nil ?_
    refine W.rg [(2, pt b42)] fun TA => ?_
    refine W.ret ?_
    refine endG (by rfl) (by exact resL_cell rfl (H.get 0 rfl) (by rw [uT_eq]; exact Tryz.underlying37) (by kernel_rfl) rfl rfl rfl) ?_
    refine RW.st H 1 [.int .i64 1, .int .i64 0] [.int .i64 1, .int .i64 0] ?_
    clear H; intro _ _ H
    dsimp only [setL, delL] at H
    refine RW.nil ?_
    replace H := (H.del 0)
    dsimp only [setL, delL] at H
    refine W.rg [(0, pt b41)] fun TA => ?_
    refine W.ret ?_
    refine endG (by rfl) (by exact resL_cell rfl (H.get 0 rfl) (by rw [uT_eq]; exact Tryz.underlying37) (by kernel_rfl) rfl rfl rfl) ?_
    have H43 := H
    refine RW.vop (v := .bool true) (by rfl) (by kernel_rfl) (vop_eqS (b := true) (r := true) rfl (.inl ⟨rfl, rfl⟩) rfl rfl rfl rfl (by kernel_rfl) (fun w => (eqWd _ _ _ _ w).trans (by simp))) (by kernel_rfl) ?_
    refine RW.v ?_
    refine RW.v ?_
    refine RW.val (by rfl) (by kernel_rfl) rfl (by kernel_rfl) ?_
    refine RW.val (by rfl) (by kernel_rfl) rfl (by kernel_rfl) ?_
    refine RW.v ?_
    refine RW.v ?_
    refine RW.val (by rfl) (by kernel_rfl) rfl (by kernel_rfl) ?_
    refine RW.val (by rfl) (by kernel_rfl) rfl (by kernel_rfl) ?_
    refine RW.v ?_
    refine RW.v ?_
    refine RW.nil ?_
    refine ⟨⟨by kernel_rfl, ⟨trivial, trivial, trivial, trivial, trivial, trivial, dyn_row (H37.get 1 rfl) (H43.get 2 rfl) ⟨fun h => Bool.noConfusion h, fun h => Bool.noConfusion h, fun h => Bool.noConfusion h, fun h => Bool.noConfusion h, fun h => Bool.noConfusion h, fun h => Bool.noConfusion h, fun h => Bool.noConfusion h, fun _ => H37.get 1 rfl, fun h => Bool.noConfusion h, fun h => Bool.noConfusion h, fun h => Bool.noConfusion h, fun h => Bool.noConfusion h, fun h => Bool.noConfusion h, fun h => Bool.noConfusion h, fun h => Bool.noConfusion h, fun h => Bool.noConfusion h, fun h => Bool.noConfusion h, fun h => Bool.noConfusion h, fun h => Bool.noConfusion h, fun h => Bool.noConfusion h, fun h => Bool.noConfusion h, fun h => Bool.noConfusion h, fun h => Bool.noConfusion h, fun h => Bool.noConfusion h, fun h => Bool.noConfusion h, fun h => Bool.noConfusion h, fun h => Bool.noConfusion h, fun h => Bool.noConfusion h, fun _ => H40.get 2 rfl, fun h => Bool.noConfusion h, fun h => Bool.noConfusion h, fun h => Bool.noConfusion h, fun h => Bool.noConfusion h, fun h => Bool.noConfusion h, fun h => Bool.noConfusion h, fun h => Bool.noConfusion h, fun h => Bool.noConfusion h, fun h => Bool.noConfusion h, fun h => Bool.noConfusion h, fun h => Bool.noConfusion h, trivial⟩, trivial, trivial, trivial, trivial, trivial, trivial, trivial, trivial, trivial, trivial, trivial, trivial, trivial, trivial, trivial, trivial, trivial, trivial, trivial, trivial, dyn_row (H40.get 1 rfl) (H43.get 1 rfl) ⟨fun h => Bool.noConfusion h, fun h => Bool.noConfusion h, fun h => Bool.noConfusion h, fun h => Bool.noConfusion h, fun h => Bool.noConfusion h, fun h => Bool.noConfusion h, fun h => Bool.noConfusion h, fun _ => H37.get 0 rfl, fun h => Bool.noConfusion h, fun h => Bool.noConfusion h, fun h => Bool.noConfusion h, fun h => Bool.noConfusion h, fun h => Bool.noConfusion h, fun h => Bool.noConfusion h, fun h => Bool.noConfusion h, fun h => Bool.noConfusion h, fun h => Bool.noConfusion h, fun h => Bool.noConfusion h, fun h => Bool.noConfusion h, fun h => Bool.noConfusion h, fun h => Bool.noConfusion h, fun h => Bool.noConfusion h, fun h => Bool.noConfusion h, fun h => Bool.noConfusion h, fun h => Bool.noConfusion h, fun h => Bool.noConfusion h, fun h => Bool.noConfusion h, fun h => Bool.noConfusion h, fun _ => H40.get 1 rfl, fun h => Bool.noConfusion h, fun h => Bool.noConfusion h, fun h => Bool.noConfusion h, fun h => Bool.noConfusion h, fun h => Bool.noConfusion h, fun h => Bool.noConfusion h, fun h => Bool.noConfusion h, fun h => Bool.noConfusion h, fun h => Bool.noConfusion h, fun h => Bool.noConfusion h, fun h => Bool.noConfusion h, trivial⟩, trivial, trivial, trivial, trivial, trivial, trivial, trivial, trivial, trivial, trivial, trivial, trivial, trivial⟩⟩, ?_⟩
    replace H := H43
    clear H37 H40 H43
    replace H := (((H.del 2).del 1).del 0)
    dsimp only [setL, delL] at H
    refine W.rg [(0, .bool true)] fun TA => ?_
    refine W.ret ?_
    exact endG rfl (resL_tmp rfl) rfl
end Go.Proofs.YtehcckhdppdkcaaGreatDoor
