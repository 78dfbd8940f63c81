/-
  Make on counts' rows (ListsNames). Conditions: the heap lies there as HeapAt says.
-/
import Derived.Test.YtehcckhdppdkcaaGreatDoorNc
import Derived.Test.YtehcckhdppdkcaaGreatDoorWq
namespace Go.Proofs.YtehcckhdppdkcaaGreatDoor
set_option maxRecDepth 100000
section
variable {G h : Nat} {σ : Mem} {F : Nat → Option Blk2} {L : List Ent}
set_option maxHeartbeats 4000000 in
theorem make_once {b : Nat} (H : Lies G (heapAbs h (hmN 48)) F σ (.at_ b (.row ⟨[.int .i64 2, .int .i64 45], 37, false⟩) :: L)) : WC G Tryz.prog 15 #[.pointer (some ⟨h, 0, none⟩), .slice (some ⟨b, 0, none⟩) 1 1] σ fun v σ' => v = .tuple #[.agg #[.int .i64 2, .int .i64 48], .int .i64 0] ∧ Lies G (heapAbs h (hmN 49)) F σ' (.at_ b (.row ⟨[.int .i64 2, .int .i64 45], 37, false⟩) :: L) := by
  refine WC.enter (fn := Tryz.f15) Tryz.func15 rfl ?_
  refine W.rg [(0, pt h), (1, .slice (some ⟨b, 0, none⟩) 1 1)] fun TA => ?_
  refine W.seq ?_
  refine W.region ?_
  refine RW.mk H (.row ⟨[.int .i64 0, .int .i64 0], 37, false⟩) ?_
  clear H; intro _ b1 _ H
  refine RW.v ?_
  refine RW.nil ?_
  refine W.rg [(0, pt h), (1, .slice (some ⟨b, 0, none⟩) 1 1), (4, pt b1)] fun TA => ?_
  refine W.seq ?_
  refine W.block ?_
  refine W.seq ?_
  refine W.region ?_
  refine RW.v ?_
  refine RW.cl ?_
  refine WC.enter (fn := Tryz.f51) Tryz.func51 rfl ?_
  refine W.rg [(0, pt h)] fun TA => ?_
  refine W.seq ?_
  refine W.region ?_
  refine RW.v ?_
  refine RW.nil ?_
  refine W.rg [(0, pt h)] fun TA => ?_
  refine W.seq ?_
  refine W.region ?_
  refine RW.v ?_
  refine RW.call (by kernel_rfl) (by kernel_rfl) rfl rfl rfl (by kernel_rfl) (by kernel_rfl) ⟨_, _, (c_limit (G := G) (n := 48) H.abs), ?_⟩
  refine RW.v ?_
  refine RW.v ?_
  refine RW.nil ?_
  refine W.rg [(2, .bool true)] fun TA => ?_
  refine W.ret ?_
  refine endG (by rfl) (by exact resL_tmp rfl) ?_
  refine RW.v ?_
  refine RW.v ?_
  refine RW.nil ?_
  refine W.rg [(0, pt h), (1, .slice (some ⟨b, 0, none⟩) 1 1), (4, pt b1), (6, .bool false)] fun TA => ?_
  refine W.c0 ?_
  refine W.seq ?_
  refine W.region ?_
  refine RW.v ?_
  refine RW.v ?_
  refine RW.v ?_
  refine RW.v ?_
  refine RW.nil ?_
  refine W.rg [(0, pt h), (1, .slice (some ⟨b, 0, none⟩) 1 1), (4, pt b1), (11, .bool false)] fun TA => ?_
  refine W.c0 ?_
  refine W.skip ?_
  refine blkQ_normal ?_
  refine W.seq ?_
  refine W.region ?_
  refine RW.v ?_
  refine RW.v ?_
  refine RW.cl ?_
  refine WC.enter (fn := Tryz.f54) Tryz.func54 rfl ?_
  refine W.rg [] fun TA => ?_
  refine W.seq ?_
  refine W.region ?_
  refine RW.mk H (.row ⟨[.int .i64 0, .int .i64 0], 37, false⟩) ?_
  clear H; intro _ b2 _ H
  refine RW.nil ?_
  refine W.rg [(0, pt b2)] fun TA => ?_
  refine W.seq ?_
  refine W.region ?_
  refine RW.val (v := .agg #[.int .i64 1, .int .i64 0]) (by kernel_rfl) (by kernel_rfl) (by kernel_rfl) (by kernel_rfl) ?_
  refine RW.st H 0 [.int .i64 1, .int .i64 0] [.int .i64 1, .int .i64 0] ?_
  clear H; intro _ _ H
  dsimp only [setL, delL] at H
  refine RW.nil ?_
  refine W.rg [(0, pt b2)] fun TA => ?_
  refine W.ret ?_
  refine endG (by rfl) (by exact resL_cell rfl (H.get 0 rfl) (by rw [uT_eq]; exact Tryz.underlying37) (by kernel_rfl) rfl rfl rfl) ?_
  refine RW.cl ?_
  refine WC.enterD (fn := Tryz.f53) Tryz.func53 rfl ?_
  refine W.rg [(0, pt h), (1, .slice (some ⟨b, 0, none⟩) 1 1), (2, .agg #[.int .i64 1, .int .i64 0])] fun TA => ?_
  refine W.seq ?_
  refine W.region ?_
  refine RW.mk H (.row ⟨[pt h], 23, false⟩) ?_
  clear H; intro _ b3 _ H
  refine RW.mk H (.row ⟨[.int .i64 1, .int .i64 0], 37, false⟩) ?_
  clear H; intro _ b4 _ H
  refine RW.mk H (.row ⟨[.int .i64 0, .int .i64 0], 37, false⟩) ?_
  clear H; intro _ b5 _ H
  refine RW.v ?_
  refine RW.nil ?_
  replace H := (H.del 3)
  dsimp only [setL, delL] at H
  refine W.rg [(1, .slice (some ⟨b, 0, none⟩) 1 1), (3, pt b3), (5, pt b4), (6, pt b5)] fun TA => ?_
  refine W.seq ?_
  refine W.seq ?_
  refine W.drawn (by kernel_rfl) (by kernel_rfl) H.gn ?_
  have H6 := H
  refine RW.v ?_
  refine RW.v ?_
  refine RW.ld H6 2 1 ?_
  refine RW.call (by kernel_rfl) (by kernel_rfl) rfl rfl rfl (by kernel_rfl) (by kernel_rfl) ⟨_, _, (c_limit (G := G) (n := 48) H6.abs), ?_⟩
  refine RW.ld H6 2 1 ?_
  refine RW.call (by kernel_rfl) (by kernel_rfl) rfl rfl rfl (by kernel_rfl) (by kernel_rfl) ⟨_, _, (c_many (G := G) (n := 48) H6.abs), ?_⟩
  refine RW.v ?_
  refine RW.v ?_
  refine RW.nil ?_
  refine ⟨⟨by kernel_rfl, ⟨trivial, trivial, dyn_row (H6.get 2 rfl) (H6.get 2 rfl) ⟨fun h => Bool.noConfusion h, fun h => Bool.noConfusion h, fun h => Bool.noConfusion h, fun _ => H6.get 2 rfl, fun h => Bool.noConfusion h, fun _ => H6.get 2 rfl, fun h => Bool.noConfusion h, fun h => Bool.noConfusion h, trivial⟩, trivial, dyn_row (H6.get 2 rfl) (H6.get 2 rfl) ⟨fun h => Bool.noConfusion h, fun h => Bool.noConfusion h, fun h => Bool.noConfusion h, fun _ => H6.get 2 rfl, fun h => Bool.noConfusion h, fun _ => H6.get 2 rfl, fun h => Bool.noConfusion h, fun h => Bool.noConfusion h, trivial⟩, trivial, trivial, trivial, trivial⟩⟩, ?_⟩
  replace H := H6
  clear H6
  refine W.rg [(1, .slice (some ⟨b, 0, none⟩) 1 1), (3, pt b3), (5, pt b4), (6, pt b5), (17, .bool false)] fun TA => ?_
  refine W.c0 ?_
  refine W.skip ?_
  refine W.seq ?_
  refine W.seq ?_
  refine W.region ?_
  refine RW.v ?_
  refine RW.cl ?_
  refine WC.enter (fn := Tryz.f86) Tryz.func86 rfl ?_
  refine W.rg [(0, .slice (some ⟨b, 0, none⟩) 1 1)] fun TA => ?_
  refine W.seq ?_
  refine W.region ?_
  refine RW.mk H (.row ⟨[.slice (some ⟨b, 0, none⟩) 1 1], 29, false⟩) ?_
  clear H; intro _ b7 _ H
  refine RW.v ?_
  refine RW.nil ?_
  refine W.rg [(1, pt b7)] fun TA => ?_
  refine W.seq ?_
  refine W.region ?_
  refine RW.val (v := .func (.func 115) #[] #[.pointer (some ⟨b7, 0, none⟩)]) (by kernel_rfl) (by kernel_rfl) (by kernel_rfl) (by kernel_rfl) ?_
  refine RW.v ?_
  refine RW.nil ?_
  refine W.rg [(2, .func (.func 115) #[] #[pt b7])] fun TA => ?_
  refine W.ret ?_
  refine endG (by rfl) (by exact resL_tmp rfl) ?_
  refine RW.nil ?_
  refine W.rg [(3, pt b3), (5, pt b4), (6, pt b5), (20, .func (.func 115) #[] #[pt b7])] fun TA => ?_
  refine W.block ?_
  refine W.rst [(3, .pointer (some ⟨b3, 0, none⟩)), (5, .pointer (some ⟨b4, 0, none⟩)), (6, .pointer (some ⟨b5, 0, none⟩)), (20, .func (.func 115) #[] #[.pointer (some ⟨b7, 0, none⟩)])] ⟨rfl, rfl, rfl, rfl, trivial⟩ fun TL12 => ?_
  refine W.rangeL H rfl (fun _ h => nomatch h) (fun _ h => nomatch h) (by kernel_rfl) fun _ d8 b9 lp10 hl11 H => ?_
  refine WC.enter (fn := Tryz.f115) Tryz.func115 rfl ?_
  refine W.rg [(0, .func (.yield b9) #[] #[]), (1, pt b7)] fun TA => ?_
  refine W.seq ?_
  refine W.region ?_
  refine RW.ld H 2 1 ?_
  refine RW.v ?_
  refine RW.v ?_
  refine RW.v ?_
  refine RW.nil ?_
  refine W.rg [(0, .func (.yield b9) #[] #[]), (1, pt b7), (3, .int .i64 0)] fun TA => ?_
  refine W.block ?_
  refine W.unroll (WL.once ?_)
  refine W.seq ?_
  refine W.seq ?_
  refine W.region ?_
  refine RW.v ?_
  refine RW.v ?_
  refine RW.nil ?_
  refine W.rg [(0, .func (.yield b9) #[] #[]), (1, pt b7), (3, .int .i64 0), (8, .bool true)] fun TA => ?_
  refine W.c1 ?_
  refine W.skip ?_
  refine W.seq ?_
  refine W.block ?_
  refine W.seq ?_
  refine W.region ?_
  refine RW.v ?_
  refine RW.v ?_
  refine RW.ld H 2 1 ?_
  refine RW.v ?_
  refine RW.idx (s := 2) (by kernel_rfl) (by kernel_rfl) rfl Tryz.underlying29 (by kernel_rfl) rfl rfl ⟨by decide, by decide⟩ (by kernel_rfl) ?_
  refine RW.ld H 7 2 ?_
  refine RW.yieldL H 0 rfl hl11 (by kernel_rfl) (by kernel_rfl) rfl rfl rfl rfl rfl (by kernel_rfl) ?_
  refine W.rg [(3, pt b3), (5, pt b4), (6, pt b5), (20, .func (.func 115) #[] #[pt b7]), (21, .int .i64 0), (22, .agg #[.int .i64 2, .int .i64 45])] fun TA => ?_
  refine W.region ?_
  refine RW.mk H (.row ⟨[.int .i64 0, .int .i64 0], 37, false⟩) ?_
  clear H; intro _ b13 _ H
  refine RW.st H 0 [.int .i64 2, .int .i64 45] [.int .i64 2, .int .i64 45] ?_
  clear H; intro _ _ H
  dsimp only [setL, delL] at H
  refine RW.nil ?_
  refine ⟨rfl, _, _, _, 1, H, rfl, ?_⟩
  clear H; intro _ lq14 hq15 H
  dsimp only [setL, delL] at H
  refine W.rg [(3, pt b3), (5, pt b4), (6, pt b5), (9, pt b13), (20, .func (.func 115) #[] #[pt b7]), (22, .agg #[.int .i64 2, .int .i64 45])] fun TA => ?_
  refine W.block ?_
  refine W.region ?_
  refine RW.ld H 6 1 ?_
  refine RW.ld H 0 2 ?_
  refine RW.ld H 5 2 ?_
  refine RW.call (by kernel_rfl) (by kernel_rfl) rfl rfl rfl (by kernel_rfl) (by kernel_rfl) ⟨_, _, (c_cons (G := G) (48) ((2, 45) : Wd) ((1, 0) : Wd) H.abs rfl (by decide)), ?_⟩
  replace H := H.heap (A' := heapAbs h (hmN (49)))
  refine RW.v ?_
  refine RW.v ?_
  refine RW.v ?_
  refine RW.st H 5 [.int .i64 2, .int .i64 48] [.int .i64 2, .int .i64 48] ?_
  clear H; intro _ _ H
  dsimp only [setL, delL] at H
  refine RW.nil ?_
  replace H := (H.del 0)
  dsimp only [setL, delL] at H
  refine blkQ_normal ?_
  refine ⟨_, _, _, 0, true, .ready, none, H, rfl, rfl, ?_⟩
  clear H; intro _ lr16 _ hr17 H
  dsimp only [setL, delL] at H
  refine RW.v ?_
  refine RW.nil ?_
  refine W.rg [(0, .func (.yield b9) #[] #[]), (1, pt b7), (3, .int .i64 0), (18, .bool false)] fun TA => ?_
  refine W.c0 ?_
  refine W.skip ?_
  refine blkQ_normal ?_
  refine W.region ?_
  refine RW.v ?_
  refine RW.v ?_
  refine RW.v ?_
  refine RW.nil ?_
  refine WL.once ?_
  refine W.rg [(0, .func (.yield b9) #[] #[]), (1, pt b7), (3, .int .i64 (-1))] fun TA => ?_
  refine W.seq ?_
  refine W.seq ?_
  refine W.region ?_
  refine RW.v ?_
  refine RW.v ?_
  refine RW.nil ?_
  refine W.rg [(0, .func (.yield b9) #[] #[]), (1, pt b7), (3, .int .i64 (-1)), (8, .bool false)] fun TA => ?_
  refine W.c0 ?_
  refine W.exit _ ?_
  refine seqQ_exit ?_
  refine onceQ_exit ?_
  refine blkQ_here ?_
  refine endG (by rfl) (by exact rfl) ?_
  refine ⟨_, _, _, 0, _, _, _, _, H, rfl, hr17, rfl, rfl, ?_⟩
  clear H; intro _ H
  dsimp only [setL, delL] at H
  refine blkQ_normal ?_
  refine W.seq ?_
  refine W.region ?_
  refine RW.ld H 3 2 ?_
  refine RW.st H 2 [.int .i64 2, .int .i64 48] [.int .i64 2, .int .i64 48] ?_
  clear H; intro _ _ H
  dsimp only [setL, delL] at H
  refine RW.v ?_
  refine RW.nil ?_
  replace H := (((H.del 4).del 3).del 1)
  dsimp only [setL, delL] at H
  refine W.rg [(6, pt b5), (7, .int .i64 0)] fun TA => ?_
  refine W.ret ?_
  refine endMark H 0 rfl fun _ H => ?_
  dsimp only [setL, delL] at H
  refine endGD0 (by rfl) (by exact resL_cell rfl (H.get 0 rfl) (by rw [uT_eq]; exact Tryz.underlying37) (by kernel_rfl) rfl rfl (by exact resL_tmp rfl)) ?_
  refine RW.v ?_
  refine RW.v ?_
  refine RW.st H 1 [.int .i64 2, .int .i64 48] [.int .i64 2, .int .i64 48] ?_
  clear H; intro _ _ H
  dsimp only [setL, delL] at H
  refine RW.v ?_
  refine RW.nil ?_
  replace H := (H.del 0)
  dsimp only [setL, delL] at H
  refine W.rg [(4, pt b1), (5, .int .i64 0)] fun TA => ?_
  refine W.ret ?_
  refine endG (by rfl) (by exact resL_cell rfl (H.get 0 rfl) (by rw [uT_eq]; exact Tryz.underlying37) (by kernel_rfl) rfl rfl (by exact resL_tmp rfl)) ?_
  exact ⟨rfl, (H.del 0)⟩
set_option maxHeartbeats 4000000 in
theorem make_twice {b : Nat} (H : Lies G (heapAbs h (hmN 49)) F σ (.at_ b (.row ⟨[.int .i64 2, .int .i64 45, .int .i64 2, .int .i64 45, .int .i64 2, .int .i64 46], 37, false⟩) :: L)) : WC G Tryz.prog 15 #[.pointer (some ⟨h, 0, none⟩), .slice (some ⟨b, 0, none⟩) 3 3] σ fun v σ' => v = .tuple #[.agg #[.int .i64 2, .int .i64 51], .int .i64 0] ∧ Lies G (heapAbs h (hmN 52)) F σ' (.at_ b (.row ⟨[.int .i64 2, .int .i64 45, .int .i64 2, .int .i64 45, .int .i64 2, .int .i64 46], 37, false⟩) :: L) := by
  refine WC.enter (fn := Tryz.f15) Tryz.func15 rfl ?_
  refine W.rg [(0, pt h), (1, .slice (some ⟨b, 0, none⟩) 3 3)] fun TA => ?_
  refine W.seq ?_
  refine W.region ?_
  refine RW.mk H (.row ⟨[.int .i64 0, .int .i64 0], 37, false⟩) ?_
  clear H; intro _ b1 _ H
  refine RW.v ?_
  refine RW.nil ?_
  refine W.rg [(0, pt h), (1, .slice (some ⟨b, 0, none⟩) 3 3), (4, pt b1)] fun TA => ?_
  refine W.seq ?_
  refine W.block ?_
  refine W.seq ?_
  refine W.region ?_
  refine RW.v ?_
  refine RW.cl ?_
  refine WC.enter (fn := Tryz.f51) Tryz.func51 rfl ?_
  refine W.rg [(0, pt h)] fun TA => ?_
  refine W.seq ?_
  refine W.region ?_
  refine RW.v ?_
  refine RW.nil ?_
  refine W.rg [(0, pt h)] fun TA => ?_
  refine W.seq ?_
  refine W.region ?_
  refine RW.v ?_
  refine RW.call (by kernel_rfl) (by kernel_rfl) rfl rfl rfl (by kernel_rfl) (by kernel_rfl) ⟨_, _, (c_limit (G := G) (n := 49) H.abs), ?_⟩
  refine RW.v ?_
  refine RW.v ?_
  refine RW.nil ?_
  refine W.rg [(2, .bool true)] fun TA => ?_
  refine W.ret ?_
  refine endG (by rfl) (by exact resL_tmp rfl) ?_
  refine RW.v ?_
  refine RW.v ?_
  refine RW.nil ?_
  refine W.rg [(0, pt h), (1, .slice (some ⟨b, 0, none⟩) 3 3), (4, pt b1), (6, .bool false)] fun TA => ?_
  refine W.c0 ?_
  refine W.seq ?_
  refine W.region ?_
  refine RW.v ?_
  refine RW.v ?_
  refine RW.v ?_
  refine RW.v ?_
  refine RW.nil ?_
  refine W.rg [(0, pt h), (1, .slice (some ⟨b, 0, none⟩) 3 3), (4, pt b1), (11, .bool false)] fun TA => ?_
  refine W.c0 ?_
  refine W.skip ?_
  refine blkQ_normal ?_
  refine W.seq ?_
  refine W.region ?_
  refine RW.v ?_
  refine RW.v ?_
  refine RW.cl ?_
  refine WC.enter (fn := Tryz.f54) Tryz.func54 rfl ?_
  refine W.rg [] fun TA => ?_
  refine W.seq ?_
  refine W.region ?_
  refine RW.mk H (.row ⟨[.int .i64 0, .int .i64 0], 37, false⟩) ?_
  clear H; intro _ b2 _ H
  refine RW.nil ?_
  refine W.rg [(0, pt b2)] fun TA => ?_
  refine W.seq ?_
  refine W.region ?_
  refine RW.val (v := .agg #[.int .i64 1, .int .i64 0]) (by kernel_rfl) (by kernel_rfl) (by kernel_rfl) (by kernel_rfl) ?_
  refine RW.st H 0 [.int .i64 1, .int .i64 0] [.int .i64 1, .int .i64 0] ?_
  clear H; intro _ _ H
  dsimp only [setL, delL] at H
  refine RW.nil ?_
  refine W.rg [(0, pt b2)] fun TA => ?_
  refine W.ret ?_
  refine endG (by rfl) (by exact resL_cell rfl (H.get 0 rfl) (by rw [uT_eq]; exact Tryz.underlying37) (by kernel_rfl) rfl rfl rfl) ?_
  refine RW.cl ?_
  refine WC.enterD (fn := Tryz.f53) Tryz.func53 rfl ?_
  refine W.rg [(0, pt h), (1, .slice (some ⟨b, 0, none⟩) 3 3), (2, .agg #[.int .i64 1, .int .i64 0])] fun TA => ?_
  refine W.seq ?_
  refine W.region ?_
  refine RW.mk H (.row ⟨[pt h], 23, false⟩) ?_
  clear H; intro _ b3 _ H
  refine RW.mk H (.row ⟨[.int .i64 1, .int .i64 0], 37, false⟩) ?_
  clear H; intro _ b4 _ H
  refine RW.mk H (.row ⟨[.int .i64 0, .int .i64 0], 37, false⟩) ?_
  clear H; intro _ b5 _ H
  refine RW.v ?_
  refine RW.nil ?_
  replace H := (H.del 3)
  dsimp only [setL, delL] at H
  refine W.rg [(1, .slice (some ⟨b, 0, none⟩) 3 3), (3, pt b3), (5, pt b4), (6, pt b5)] fun TA => ?_
  refine W.seq ?_
  refine W.seq ?_
  refine W.drawn (by kernel_rfl) (by kernel_rfl) H.gn ?_
  have H6 := H
  refine RW.v ?_
  refine RW.v ?_
  refine RW.ld H6 2 1 ?_
  refine RW.call (by kernel_rfl) (by kernel_rfl) rfl rfl rfl (by kernel_rfl) (by kernel_rfl) ⟨_, _, (c_limit (G := G) (n := 49) H6.abs), ?_⟩
  refine RW.ld H6 2 1 ?_
  refine RW.call (by kernel_rfl) (by kernel_rfl) rfl rfl rfl (by kernel_rfl) (by kernel_rfl) ⟨_, _, (c_many (G := G) (n := 49) H6.abs), ?_⟩
  refine RW.v ?_
  refine RW.v ?_
  refine RW.nil ?_
  refine ⟨⟨by kernel_rfl, ⟨trivial, trivial, dyn_row (H6.get 2 rfl) (H6.get 2 rfl) ⟨fun h => Bool.noConfusion h, fun h => Bool.noConfusion h, fun h => Bool.noConfusion h, fun _ => H6.get 2 rfl, fun h => Bool.noConfusion h, fun _ => H6.get 2 rfl, fun h => Bool.noConfusion h, fun h => Bool.noConfusion h, trivial⟩, trivial, dyn_row (H6.get 2 rfl) (H6.get 2 rfl) ⟨fun h => Bool.noConfusion h, fun h => Bool.noConfusion h, fun h => Bool.noConfusion h, fun _ => H6.get 2 rfl, fun h => Bool.noConfusion h, fun _ => H6.get 2 rfl, fun h => Bool.noConfusion h, fun h => Bool.noConfusion h, trivial⟩, trivial, trivial, trivial, trivial⟩⟩, ?_⟩
  replace H := H6
  clear H6
  refine W.rg [(1, .slice (some ⟨b, 0, none⟩) 3 3), (3, pt b3), (5, pt b4), (6, pt b5), (17, .bool false)] fun TA => ?_
  refine W.c0 ?_
  refine W.skip ?_
  refine W.seq ?_
  refine W.seq ?_
  refine W.region ?_
  refine RW.v ?_
  refine RW.cl ?_
  refine WC.enter (fn := Tryz.f86) Tryz.func86 rfl ?_
  refine W.rg [(0, .slice (some ⟨b, 0, none⟩) 3 3)] fun TA => ?_
  refine W.seq ?_
  refine W.region ?_
  refine RW.mk H (.row ⟨[.slice (some ⟨b, 0, none⟩) 3 3], 29, false⟩) ?_
  clear H; intro _ b7 _ H
  refine RW.v ?_
  refine RW.nil ?_
  refine W.rg [(1, pt b7)] fun TA => ?_
  refine W.seq ?_
  refine W.region ?_
  refine RW.val (v := .func (.func 115) #[] #[.pointer (some ⟨b7, 0, none⟩)]) (by kernel_rfl) (by kernel_rfl) (by kernel_rfl) (by kernel_rfl) ?_
  refine RW.v ?_
  refine RW.nil ?_
  refine W.rg [(2, .func (.func 115) #[] #[pt b7])] fun TA => ?_
  refine W.ret ?_
  refine endG (by rfl) (by exact resL_tmp rfl) ?_
  refine RW.nil ?_
  refine W.rg [(3, pt b3), (5, pt b4), (6, pt b5), (20, .func (.func 115) #[] #[pt b7])] fun TA => ?_
  refine W.block ?_
  refine W.rst [(3, .pointer (some ⟨b3, 0, none⟩)), (5, .pointer (some ⟨b4, 0, none⟩)), (6, .pointer (some ⟨b5, 0, none⟩)), (20, .func (.func 115) #[] #[.pointer (some ⟨b7, 0, none⟩)])] ⟨rfl, rfl, rfl, rfl, trivial⟩ fun TL12 => ?_
  refine W.rangeL H rfl (fun _ h => nomatch h) (fun _ h => nomatch h) (by kernel_rfl) fun _ d8 b9 lp10 hl11 H => ?_
  refine WC.enter (fn := Tryz.f115) Tryz.func115 rfl ?_
  refine W.rg [(0, .func (.yield b9) #[] #[]), (1, pt b7)] fun TA => ?_
  refine W.seq ?_
  refine W.region ?_
  refine RW.ld H 2 1 ?_
  refine RW.v ?_
  refine RW.v ?_
  refine RW.v ?_
  refine RW.nil ?_
  refine W.rg [(0, .func (.yield b9) #[] #[]), (1, pt b7), (3, .int .i64 2)] fun TA => ?_
  refine W.block ?_
  refine W.unroll (WL.once ?_)
  refine W.seq ?_
  refine W.seq ?_
  refine W.region ?_
  refine RW.v ?_
  refine RW.v ?_
  refine RW.nil ?_
  refine W.rg [(0, .func (.yield b9) #[] #[]), (1, pt b7), (3, .int .i64 2), (8, .bool true)] fun TA => ?_
  refine W.c1 ?_
  refine W.skip ?_
  refine W.seq ?_
  refine W.block ?_
  refine W.seq ?_
  refine W.region ?_
  refine RW.v ?_
  refine RW.v ?_
  refine RW.ld H 2 1 ?_
  refine RW.v ?_
  refine RW.idx (s := 2) (by kernel_rfl) (by kernel_rfl) rfl Tryz.underlying29 (by kernel_rfl) rfl rfl ⟨by decide, by decide⟩ (by kernel_rfl) ?_
  refine RW.ld H 7 2 ?_
  refine RW.yieldL H 0 rfl hl11 (by kernel_rfl) (by kernel_rfl) rfl rfl rfl rfl rfl (by kernel_rfl) ?_
  refine W.rg [(3, pt b3), (5, pt b4), (6, pt b5), (20, .func (.func 115) #[] #[pt b7]), (21, .int .i64 2), (22, .agg #[.int .i64 2, .int .i64 46])] fun TA => ?_
  refine W.region ?_
  refine RW.mk H (.row ⟨[.int .i64 0, .int .i64 0], 37, false⟩) ?_
  clear H; intro _ b13 _ H
  refine RW.st H 0 [.int .i64 2, .int .i64 46] [.int .i64 2, .int .i64 46] ?_
  clear H; intro _ _ H
  dsimp only [setL, delL] at H
  refine RW.nil ?_
  refine ⟨rfl, _, _, _, 1, H, rfl, ?_⟩
  clear H; intro _ lq14 hq15 H
  dsimp only [setL, delL] at H
  refine W.rg [(3, pt b3), (5, pt b4), (6, pt b5), (9, pt b13), (20, .func (.func 115) #[] #[pt b7]), (22, .agg #[.int .i64 2, .int .i64 46])] fun TA => ?_
  refine W.block ?_
  refine W.region ?_
  refine RW.ld H 6 1 ?_
  refine RW.ld H 0 2 ?_
  refine RW.ld H 5 2 ?_
  refine RW.call (by kernel_rfl) (by kernel_rfl) rfl rfl rfl (by kernel_rfl) (by kernel_rfl) ⟨_, _, (c_cons (G := G) (49) ((2, 46) : Wd) ((1, 0) : Wd) H.abs rfl (by decide)), ?_⟩
  replace H := H.heap (A' := heapAbs h (hmN (50)))
  refine RW.v ?_
  refine RW.v ?_
  refine RW.v ?_
  refine RW.st H 5 [.int .i64 2, .int .i64 49] [.int .i64 2, .int .i64 49] ?_
  clear H; intro _ _ H
  dsimp only [setL, delL] at H
  refine RW.nil ?_
  replace H := (H.del 0)
  dsimp only [setL, delL] at H
  refine blkQ_normal ?_
  refine ⟨_, _, _, 0, true, .ready, none, H, rfl, rfl, ?_⟩
  clear H; intro _ lr16 _ hr17 H
  dsimp only [setL, delL] at H
  refine RW.v ?_
  refine RW.nil ?_
  refine W.rg [(0, .func (.yield b9) #[] #[]), (1, pt b7), (3, .int .i64 2), (18, .bool false)] fun TA => ?_
  refine W.c0 ?_
  refine W.skip ?_
  refine blkQ_normal ?_
  refine W.region ?_
  refine RW.v ?_
  refine RW.v ?_
  refine RW.v ?_
  refine RW.nil ?_
  refine WL.once ?_
  refine W.rg [(0, .func (.yield b9) #[] #[]), (1, pt b7), (3, .int .i64 1)] fun TA => ?_
  refine W.seq ?_
  refine W.seq ?_
  refine W.region ?_
  refine RW.v ?_
  refine RW.v ?_
  refine RW.nil ?_
  refine W.rg [(0, .func (.yield b9) #[] #[]), (1, pt b7), (3, .int .i64 1), (8, .bool true)] fun TA => ?_
  refine W.c1 ?_
  refine W.skip ?_
  refine W.seq ?_
  refine W.block ?_
  refine W.seq ?_
  refine W.region ?_
  refine RW.v ?_
  refine RW.v ?_
  refine RW.ld H 2 1 ?_
  refine RW.v ?_
  refine RW.idx (s := 2) (by kernel_rfl) (by kernel_rfl) rfl Tryz.underlying29 (by kernel_rfl) rfl rfl ⟨by decide, by decide⟩ (by kernel_rfl) ?_
  refine RW.ld H 7 2 ?_
  refine RW.yieldL H 0 rfl hr17 (by kernel_rfl) (by kernel_rfl) rfl rfl rfl rfl rfl (by kernel_rfl) ?_
  refine W.rg [(3, pt b3), (5, pt b4), (6, pt b5), (20, .func (.func 115) #[] #[pt b7]), (21, .int .i64 1), (22, .agg #[.int .i64 2, .int .i64 45])] fun TA => ?_
  refine W.region ?_
  refine RW.mk H (.row ⟨[.int .i64 0, .int .i64 0], 37, false⟩) ?_
  clear H; intro _ b18 _ H
  refine RW.st H 0 [.int .i64 2, .int .i64 45] [.int .i64 2, .int .i64 45] ?_
  clear H; intro _ _ H
  dsimp only [setL, delL] at H
  refine RW.nil ?_
  refine ⟨rfl, _, _, _, 1, H, rfl, ?_⟩
  clear H; intro _ lq19 hq20 H
  dsimp only [setL, delL] at H
  refine W.rg [(3, pt b3), (5, pt b4), (6, pt b5), (9, pt b18), (20, .func (.func 115) #[] #[pt b7]), (22, .agg #[.int .i64 2, .int .i64 45])] fun TA => ?_
  refine W.block ?_
  refine W.region ?_
  refine RW.ld H 6 1 ?_
  refine RW.ld H 0 2 ?_
  refine RW.ld H 5 2 ?_
  refine RW.call (by kernel_rfl) (by kernel_rfl) rfl rfl rfl (by kernel_rfl) (by kernel_rfl) ⟨_, _, (c_cons (G := G) (50) ((2, 45) : Wd) ((2, 49) : Wd) H.abs rfl (by decide)), ?_⟩
  replace H := H.heap (A' := heapAbs h (hmN (51)))
  refine RW.v ?_
  refine RW.v ?_
  refine RW.v ?_
  refine RW.st H 5 [.int .i64 2, .int .i64 50] [.int .i64 2, .int .i64 50] ?_
  clear H; intro _ _ H
  dsimp only [setL, delL] at H
  refine RW.nil ?_
  replace H := (H.del 0)
  dsimp only [setL, delL] at H
  refine blkQ_normal ?_
  refine ⟨_, _, _, 0, true, .ready, none, H, rfl, rfl, ?_⟩
  clear H; intro _ lr21 _ hr22 H
  dsimp only [setL, delL] at H
  refine RW.v ?_
  refine RW.nil ?_
  refine W.rg [(0, .func (.yield b9) #[] #[]), (1, pt b7), (3, .int .i64 1), (18, .bool false)] fun TA => ?_
  refine W.c0 ?_
  refine W.skip ?_
  refine blkQ_normal ?_
  refine W.region ?_
  refine RW.v ?_
  refine RW.v ?_
  refine RW.v ?_
  refine RW.nil ?_
  refine WL.once ?_
  refine W.rg [(0, .func (.yield b9) #[] #[]), (1, pt b7), (3, .int .i64 0)] fun TA => ?_
  refine W.seq ?_
  refine W.seq ?_
  refine W.region ?_
  refine RW.v ?_
  refine RW.v ?_
  refine RW.nil ?_
  refine W.rg [(0, .func (.yield b9) #[] #[]), (1, pt b7), (3, .int .i64 0), (8, .bool true)] fun TA => ?_
  refine W.c1 ?_
  refine W.skip ?_
  refine W.seq ?_
  refine W.block ?_
  refine W.seq ?_
  refine W.region ?_
  refine RW.v ?_
  refine RW.v ?_
  refine RW.ld H 2 1 ?_
  refine RW.v ?_
  refine RW.idx (s := 2) (by kernel_rfl) (by kernel_rfl) rfl Tryz.underlying29 (by kernel_rfl) rfl rfl ⟨by decide, by decide⟩ (by kernel_rfl) ?_
  refine RW.ld H 7 2 ?_
  refine RW.yieldL H 0 rfl hr22 (by kernel_rfl) (by kernel_rfl) rfl rfl rfl rfl rfl (by kernel_rfl) ?_
  refine W.rg [(3, pt b3), (5, pt b4), (6, pt b5), (20, .func (.func 115) #[] #[pt b7]), (21, .int .i64 0), (22, .agg #[.int .i64 2, .int .i64 45])] fun TA => ?_
  refine W.region ?_
  refine RW.mk H (.row ⟨[.int .i64 0, .int .i64 0], 37, false⟩) ?_
  clear H; intro _ b23 _ H
  refine RW.st H 0 [.int .i64 2, .int .i64 45] [.int .i64 2, .int .i64 45] ?_
  clear H; intro _ _ H
  dsimp only [setL, delL] at H
  refine RW.nil ?_
  refine ⟨rfl, _, _, _, 1, H, rfl, ?_⟩
  clear H; intro _ lq24 hq25 H
  dsimp only [setL, delL] at H
  refine W.rg [(3, pt b3), (5, pt b4), (6, pt b5), (9, pt b23), (20, .func (.func 115) #[] #[pt b7]), (22, .agg #[.int .i64 2, .int .i64 45])] fun TA => ?_
  refine W.block ?_
  refine W.region ?_
  refine RW.ld H 6 1 ?_
  refine RW.ld H 0 2 ?_
  refine RW.ld H 5 2 ?_
  refine RW.call (by kernel_rfl) (by kernel_rfl) rfl rfl rfl (by kernel_rfl) (by kernel_rfl) ⟨_, _, (c_cons (G := G) (51) ((2, 45) : Wd) ((2, 50) : Wd) H.abs rfl (by decide)), ?_⟩
  replace H := H.heap (A' := heapAbs h (hmN (52)))
  refine RW.v ?_
  refine RW.v ?_
  refine RW.v ?_
  refine RW.st H 5 [.int .i64 2, .int .i64 51] [.int .i64 2, .int .i64 51] ?_
  clear H; intro _ _ H
  dsimp only [setL, delL] at H
  refine RW.nil ?_
  replace H := (H.del 0)
  dsimp only [setL, delL] at H
  refine blkQ_normal ?_
  refine ⟨_, _, _, 0, true, .ready, none, H, rfl, rfl, ?_⟩
  clear H; intro _ lr26 _ hr27 H
  dsimp only [setL, delL] at H
  refine RW.v ?_
  refine RW.nil ?_
  refine W.rg [(0, .func (.yield b9) #[] #[]), (1, pt b7), (3, .int .i64 0), (18, .bool false)] fun TA => ?_
  refine W.c0 ?_
  refine W.skip ?_
  refine blkQ_normal ?_
  refine W.region ?_
  refine RW.v ?_
  refine RW.v ?_
  refine RW.v ?_
  refine RW.nil ?_
  refine WL.once ?_
  refine W.rg [(0, .func (.yield b9) #[] #[]), (1, pt b7), (3, .int .i64 (-1))] fun TA => ?_
  refine W.seq ?_
  refine W.seq ?_
  refine W.region ?_
  refine RW.v ?_
  refine RW.v ?_
  refine RW.nil ?_
  refine W.rg [(0, .func (.yield b9) #[] #[]), (1, pt b7), (3, .int .i64 (-1)), (8, .bool false)] fun TA => ?_
  refine W.c0 ?_
  refine W.exit _ ?_
  refine seqQ_exit ?_
  refine onceQ_exit ?_
  refine blkQ_here ?_
  refine endG (by rfl) (by exact rfl) ?_
  refine ⟨_, _, _, 0, _, _, _, _, H, rfl, hr27, rfl, rfl, ?_⟩
  clear H; intro _ H
  dsimp only [setL, delL] at H
  refine blkQ_normal ?_
  refine W.seq ?_
  refine W.region ?_
  refine RW.ld H 3 2 ?_
  refine RW.st H 2 [.int .i64 2, .int .i64 51] [.int .i64 2, .int .i64 51] ?_
  clear H; intro _ _ H
  dsimp only [setL, delL] at H
  refine RW.v ?_
  refine RW.nil ?_
  replace H := (((H.del 4).del 3).del 1)
  dsimp only [setL, delL] at H
  refine W.rg [(6, pt b5), (7, .int .i64 0)] fun TA => ?_
  refine W.ret ?_
  refine endMark H 0 rfl fun _ H => ?_
  dsimp only [setL, delL] at H
  refine endGD0 (by rfl) (by exact resL_cell rfl (H.get 0 rfl) (by rw [uT_eq]; exact Tryz.underlying37) (by kernel_rfl) rfl rfl (by exact resL_tmp rfl)) ?_
  refine RW.v ?_
  refine RW.v ?_
  refine RW.st H 1 [.int .i64 2, .int .i64 51] [.int .i64 2, .int .i64 51] ?_
  clear H; intro _ _ H
  dsimp only [setL, delL] at H
  refine RW.v ?_
  refine RW.nil ?_
  replace H := (H.del 0)
  dsimp only [setL, delL] at H
  refine W.rg [(4, pt b1), (5, .int .i64 0)] fun TA => ?_
  refine W.ret ?_
  refine endG (by rfl) (by exact resL_cell rfl (H.get 0 rfl) (by rw [uT_eq]; exact Tryz.underlying37) (by kernel_rfl) rfl rfl (by exact resL_tmp rfl)) ?_
  exact ⟨rfl, (H.del 0)⟩
end
end Go.Proofs.YtehcckhdppdkcaaGreatDoor
