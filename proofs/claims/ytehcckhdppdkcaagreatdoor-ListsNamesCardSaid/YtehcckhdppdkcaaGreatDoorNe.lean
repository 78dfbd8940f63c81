/-
  Remove and Delete on counts' lists (ListsNames). Conditions: the heap lies there as HeapAt says.
-/
import Derived.Test.YtehcckhdppdkcaaGreatDoorNc
import Derived.Test.YtehcckhdppdkcaaGreatDoorWq
namespace Go.Proofs.YtehcckhdppdkcaaGreatDoor
set_option maxRecDepth 100000
section
variable {G h : Nat} {σ : Mem} {F : Nat → Option Blk2} {L : List Ent}
set_option maxHeartbeats 4000000 in
theorem remove_twice  (H : Lies G (heapAbs h (hmN 52)) F σ (L)) : WC G Tryz.prog 37 #[.pointer (some ⟨h, 0, none⟩), .agg #[.int .i64 2, .int .i64 46], .agg #[.int .i64 2, .int .i64 51]] σ fun v σ' => v = .tuple #[.agg #[.int .i64 0, .int .i64 0], .int .i64 22] ∧ Lies G (heapAbs h (hmN 52)) F σ' (L) := by
  refine WC.enter (fn := Tryz.f37) Tryz.func37 rfl ?_
  refine W.rg [(0, pt h), (1, .agg #[.int .i64 2, .int .i64 46]), (2, .agg #[.int .i64 2, .int .i64 51])] fun TA => ?_
  refine W.seq ?_
  refine W.region ?_
  refine RW.mk H (.row ⟨[.int .i64 2, .int .i64 46], 37, false⟩) ?_
  clear H; intro _ b1 _ H
  refine RW.mk H (.row ⟨[.int .i64 2, .int .i64 51], 37, false⟩) ?_
  clear H; intro _ b2 _ H
  refine RW.mk H (.row ⟨[.int .i64 0, .int .i64 0], 37, false⟩) ?_
  clear H; intro _ b3 _ H
  refine RW.v ?_
  refine RW.nil ?_
  refine W.rg [(0, pt h), (4, pt b1), (5, pt b2), (6, pt b3)] fun TA => ?_
  refine W.seq ?_
  refine W.region ?_
  refine RW.v ?_
  refine RW.ld H 1 2 ?_
  refine RW.cl ?_
  refine WC.enterD (fn := Tryz.f18) Tryz.func18 rfl ?_
  refine W.rg [(0, pt h), (1, .agg #[.int .i64 2, .int .i64 51])] fun TA => ?_
  refine W.seq ?_
  refine W.region ?_
  refine RW.mk H (.row ⟨[.int .i64 2, .int .i64 51], 37, false⟩) ?_
  clear H; intro _ b4 _ H
  refine RW.mk H (.row ⟨[.slice none 0 0], 29, false⟩) ?_
  clear H; intro _ b5 _ H
  refine RW.mk H (.row ⟨[.int .i64 0], 24, false⟩) ?_
  clear H; intro _ b6 _ H
  refine RW.nil ?_
  refine W.rg [(0, pt h), (3, pt b4), (4, pt b5), (5, pt b6)] fun TA => ?_
  refine W.seq ?_
  refine W.seq ?_
  refine W.region ?_
  refine RW.v ?_
  refine RW.cl ?_
  refine WC.enter (fn := Tryz.f51) Tryz.func51 rfl ?_
  refine W.rg [(0, pt h)] fun TA => ?_
  refine W.seq ?_
  refine W.region ?_
  refine RW.v ?_
  refine RW.nil ?_
  refine W.rg [(0, pt h)] fun TA => ?_
  refine W.seq ?_
  refine W.region ?_
  refine RW.v ?_
  refine RW.call (by kernel_rfl) (by kernel_rfl) rfl rfl rfl (by kernel_rfl) (by kernel_rfl) ⟨_, _, (c_limit (G := G) (n := 52) H.abs), ?_⟩
  refine RW.v ?_
  refine RW.v ?_
  refine RW.nil ?_
  refine W.rg [(2, .bool true)] fun TA => ?_
  refine W.ret ?_
  refine endG (by rfl) (by exact resL_tmp rfl) ?_
  refine RW.v ?_
  refine RW.nil ?_
  refine W.rg [(0, pt h), (3, pt b4), (4, pt b5), (5, pt b6), (12, .bool false)] fun TA => ?_
  refine W.c0 ?_
  refine W.skip ?_
  refine W.seq ?_
  refine W.region ?_
  refine RW.mk H (.row ⟨[.slice none 0 0], 29, false⟩) ?_
  clear H; intro _ b7 _ H
  refine RW.nil ?_
  refine W.rg [(0, pt h), (3, pt b4), (4, pt b5), (5, pt b6), (6, pt b7)] fun TA => ?_
  refine W.seq ?_
  refine W.region ?_
  refine RW.ld H 3 2 ?_
  refine RW.mk H (.row ⟨[.int .i64 0, .int .i64 0], 37, false⟩) ?_
  clear H; intro _ b8 _ H
  refine RW.st H 0 [.int .i64 2, .int .i64 51] [.int .i64 2, .int .i64 51] ?_
  clear H; intro _ _ H
  dsimp only [setL, delL] at H
  refine RW.nil ?_
  refine W.rg [(0, pt h), (3, pt b4), (4, pt b5), (5, pt b6), (6, pt b7), (7, pt b8)] fun TA => ?_
  refine W.seq ?_
  refine W.seq ?_
  refine W.region ?_
  refine RW.v ?_
  refine RW.ld H 4 2 ?_
  refine RW.cl ?_
  refine WC.enter (fn := Tryz.f56) Tryz.func56 rfl ?_
  refine W.rg [(0, pt h), (1, .agg #[.int .i64 2, .int .i64 51]), (2, pt b8)] fun TA => ?_
  refine W.seq ?_
  refine W.region ?_
  refine RW.mk H (.row ⟨[pt h], 23, false⟩) ?_
  clear H; intro _ b9 _ H
  refine RW.mk H (.row ⟨[.int .i64 2, .int .i64 51], 37, false⟩) ?_
  clear H; intro _ b10 _ H
  refine RW.mk H (.row ⟨[pt b8], 94, false⟩) ?_
  clear H; intro _ b11 _ H
  refine RW.v ?_
  refine RW.nil ?_
  refine W.rg [(3, pt b9), (4, pt b10), (5, pt b11)] fun TA => ?_
  refine W.seq ?_
  refine W.region ?_
  refine RW.val (v := .func (.func 87) #[] #[.pointer (some ⟨b9, 0, none⟩), .pointer (some ⟨b10, 0, none⟩), .pointer (some ⟨b11, 0, none⟩)]) (by kernel_rfl) (by kernel_rfl) (by kernel_rfl) (by kernel_rfl) ?_
  refine RW.v ?_
  refine RW.nil ?_
  refine W.rg [(6, .func (.func 87) #[] #[pt b9, pt b10, pt b11])] fun TA => ?_
  refine W.ret ?_
  refine endG (by rfl) (by exact resL_tmp rfl) ?_
  refine RW.nil ?_
  replace H := (H.del 7)
  dsimp only [setL, delL] at H
  refine W.rg [(4, pt b5), (5, pt b6), (6, pt b7), (7, pt b8), (16, .func (.func 87) #[] #[pt b9, pt b10, pt b11])] fun TA => ?_
  refine W.block ?_
  refine W.rst [(4, .pointer (some ⟨b5, 0, none⟩)), (5, .pointer (some ⟨b6, 0, none⟩)), (6, .pointer (some ⟨b7, 0, none⟩)), (7, .pointer (some ⟨b8, 0, none⟩)), (16, .func (.func 87) #[] #[.pointer (some ⟨b9, 0, none⟩), .pointer (some ⟨b10, 0, none⟩), .pointer (some ⟨b11, 0, none⟩)])] ⟨rfl, rfl, rfl, rfl, rfl, trivial⟩ fun TL16 => ?_
  refine W.rangeL H rfl (fun _ h => nomatch h) (fun _ h => nomatch h) (by kernel_rfl) fun _ d12 b13 lp14 hl15 H => ?_
  refine WC.enter (fn := Tryz.f87) Tryz.func87 rfl ?_
  refine W.rg [(0, .func (.yield b13) #[] #[]), (1, pt b9), (2, pt b10), (3, pt b11)] fun TA => ?_
  refine W.seq ?_
  refine W.block ?_
  refine W.unroll (WL.once ?_)
  refine W.seq ?_
  refine W.seq ?_
  refine W.region ?_
  refine RW.ld H 4 1 ?_
  refine RW.ld H 3 2 ?_
  refine RW.cl ?_
  refine WC.enter (fn := Tryz.f88) Tryz.func88 rfl ?_
  refine W.rg [(0, pt h), (1, .agg #[.int .i64 2, .int .i64 51])] fun TA => ?_
  refine W.seq ?_
  refine W.region ?_
  refine RW.mk H (.row ⟨[.int .i64 2, .int .i64 51], 37, false⟩) ?_
  clear H; intro _ b17 _ H
  refine RW.v ?_
  refine RW.nil ?_
  refine W.rg [(0, pt h), (3, pt b17)] fun TA => ?_
  refine W.seq ?_
  refine W.region ?_
  refine RW.v ?_
  refine RW.ld H 0 1 ?_
  refine RW.v ?_
  refine RW.v ?_
  refine RW.val (by rfl) (by kernel_rfl) rfl (by kernel_rfl) ?_
  refine RW.ldL H 0 2 (by rfl) (by kernel_rfl) rfl rfl rfl rfl rfl (by kernel_rfl) ?_
  refine RW.call (by rfl) (by kernel_rfl) rfl rfl rfl (by kernel_rfl) (by kernel_rfl) ⟨_, _, (c_live (G := G) (n := 52) (k := 51) (a := ((2, 45) : Wd)) (d := ((2, 50) : Wd)) H.abs (by decide) rfl), ?_⟩
  refine RW.v ?_
  refine RW.v ?_
  refine RW.nil ?_
  replace H := (H.del 0)
  dsimp only [setL, delL] at H
  refine W.rg [(4, .bool true)] fun TA => ?_
  refine W.ret ?_
  refine endG (by rfl) (by exact resL_tmp rfl) ?_
  refine RW.nil ?_
  refine W.rg [(0, .func (.yield b13) #[] #[]), (1, pt b9), (2, pt b10), (3, pt b11), (9, .bool true)] fun TA => ?_
  refine W.c1 ?_
  refine W.skip ?_
  refine W.block ?_
  refine W.seq ?_
  refine W.region ?_
  refine RW.ld H 4 1 ?_
  refine RW.ld H 3 2 ?_
  refine RW.call (by kernel_rfl) (by kernel_rfl) rfl rfl rfl (by kernel_rfl) (by kernel_rfl) ⟨_, _, (c_car (G := G) (n := 52) (k := 51) (a := ((2, 45) : Wd)) (d := ((2, 50) : Wd)) H.abs (by decide) rfl), ?_⟩
  refine RW.v ?_
  refine RW.v ?_
  refine RW.v ?_
  refine RW.mk H (.row ⟨[.int .i64 0, .int .i64 0], 37, false⟩) ?_
  clear H; intro _ b18 _ H
  refine RW.st H 0 [.int .i64 2, .int .i64 45] [.int .i64 2, .int .i64 45] ?_
  clear H; intro _ _ H
  dsimp only [setL, delL] at H
  refine RW.v ?_
  refine RW.nil ?_
  refine W.rg [(0, .func (.yield b13) #[] #[]), (1, pt b9), (2, pt b10), (3, pt b11), (5, pt b18)] fun TA => ?_
  refine W.seq ?_
  refine W.seq ?_
  refine W.region ?_
  refine RW.v ?_
  refine RW.ld H 4 2 ?_
  refine RW.ld H 0 2 ?_
  refine RW.yieldL H 1 rfl hl15 (by kernel_rfl) (by kernel_rfl) rfl rfl rfl rfl rfl (by kernel_rfl) ?_
  refine W.rg [(4, pt b5), (5, pt b6), (6, pt b7), (7, pt b8), (16, .func (.func 87) #[] #[pt b9, pt b10, pt b11]), (17, .agg #[.int .i64 2, .int .i64 51]), (18, .agg #[.int .i64 2, .int .i64 45])] fun TA => ?_
  refine W.region ?_
  refine RW.mk H (.row ⟨[.int .i64 0, .int .i64 0], 37, false⟩) ?_
  clear H; intro _ b19 _ H
  refine RW.st H 0 [.int .i64 2, .int .i64 45] [.int .i64 2, .int .i64 45] ?_
  clear H; intro _ _ H
  dsimp only [setL, delL] at H
  refine RW.nil ?_
  refine ⟨rfl, _, _, _, 2, H, rfl, ?_⟩
  clear H; intro _ lq20 hq21 H
  dsimp only [setL, delL] at H
  refine W.rg [(4, pt b5), (5, pt b6), (6, pt b7), (7, pt b8), (9, pt b19), (16, .func (.func 87) #[] #[pt b9, pt b10, pt b11]), (18, .agg #[.int .i64 2, .int .i64 45])] fun TA => ?_
  refine W.block ?_
  refine W.seq ?_
  refine W.seq ?_
  refine W.region ?_
  refine RW.ld H 8 1 ?_
  refine RW.v ?_
  refine RW.v ?_
  refine RW.nil ?_
  refine W.rg [(4, pt b5), (5, pt b6), (6, pt b7), (7, pt b8), (9, pt b19), (16, .func (.func 87) #[] #[pt b9, pt b10, pt b11]), (18, .agg #[.int .i64 2, .int .i64 45]), (21, .bool false)] fun TA => ?_
  refine W.c0 ?_
  refine W.skip ?_
  refine W.region ?_
  refine RW.ld H 8 1 ?_
  refine RW.ld H 0 2 ?_
  refine RW.mkL H (x := .row ⟨[.int .i64 2, .int .i64 45], 37, false⟩) (fm := fun b => .slice (some ⟨b, 0, none⟩) 1 1) (by kernel_rfl) (by kernel_rfl) (by kernel_rfl) (by kernel_rfl) ?_
  clear H; intro _ b22 _ H
  replace H := H.nilSl 37 2
  refine RW.appL H 0 1 (n := 1) (e2 := 37) (by kernel_rfl) (by kernel_rfl) rfl rfl rfl rfl rfl rfl rfl rfl (by kernel_rfl) (by kernel_rfl) (by kernel_rfl) (by decide) (by decide) rfl rfl (by omega) (by kernel_rfl) ?_
  clear H; intro _ v23 _ H
  dsimp only [setL, delL] at H
  refine RW.stL H 9 (vs := [v23]) (cs' := [v23]) (by kernel_rfl) (by kernel_rfl) rfl rfl rfl (H.sl 0 rfl).one (gr_all (H.sl 0 rfl)) (by kernel_rfl) (Nat.le_of_ble_eq_true rfl) rfl (by kernel_rfl) ?_
  clear H; intro _ _ H
  dsimp only [setL, delL] at H
  refine RW.nil ?_
  replace H := (H.del 1)
  dsimp only [setL, delL] at H
  refine blkQ_normal ?_
  refine ⟨_, _, _, 2, true, .ready, none, H, rfl, rfl, ?_⟩
  clear H; intro _ lr24 _ hr25 H
  dsimp only [setL, delL] at H
  refine RW.v ?_
  refine RW.nil ?_
  replace H := (H.del 1)
  dsimp only [setL, delL] at H
  refine W.rg [(0, .func (.yield b13) #[] #[]), (1, pt b9), (2, pt b10), (3, pt b11), (20, .bool false)] fun TA => ?_
  refine W.c0 ?_
  refine W.skip ?_
  refine W.region ?_
  refine RW.ld H 5 1 ?_
  refine RW.ld H 4 2 ?_
  refine RW.call (by kernel_rfl) (by kernel_rfl) rfl rfl rfl (by kernel_rfl) (by kernel_rfl) ⟨_, _, (c_cdr (G := G) (n := 52) (k := 51) (a := ((2, 45) : Wd)) (d := ((2, 50) : Wd)) H.abs (by decide) rfl), ?_⟩
  refine RW.v ?_
  refine RW.v ?_
  refine RW.v ?_
  refine RW.st H 4 [.int .i64 2, .int .i64 50] [.int .i64 2, .int .i64 50] ?_
  clear H; intro _ _ H
  dsimp only [setL, delL] at H
  refine RW.nil ?_
  refine blkQ_normal ?_
  refine WL.once ?_
  refine W.rg [(0, .func (.yield b13) #[] #[]), (1, pt b9), (2, pt b10), (3, pt b11)] fun TA => ?_
  refine W.seq ?_
  refine W.seq ?_
  refine W.region ?_
  refine RW.ld H 5 1 ?_
  refine RW.ld H 4 2 ?_
  refine RW.cl ?_
  refine WC.enter (fn := Tryz.f88) Tryz.func88 rfl ?_
  refine W.rg [(0, pt h), (1, .agg #[.int .i64 2, .int .i64 50])] fun TA => ?_
  refine W.seq ?_
  refine W.region ?_
  refine RW.mk H (.row ⟨[.int .i64 2, .int .i64 50], 37, false⟩) ?_
  clear H; intro _ b26 _ H
  refine RW.v ?_
  refine RW.nil ?_
  refine W.rg [(0, pt h), (3, pt b26)] fun TA => ?_
  refine W.seq ?_
  refine W.region ?_
  refine RW.v ?_
  refine RW.ld H 0 1 ?_
  refine RW.v ?_
  refine RW.v ?_
  refine RW.val (by rfl) (by kernel_rfl) rfl (by kernel_rfl) ?_
  refine RW.ldL H 0 2 (by rfl) (by kernel_rfl) rfl rfl rfl rfl rfl (by kernel_rfl) ?_
  refine RW.call (by rfl) (by kernel_rfl) rfl rfl rfl (by kernel_rfl) (by kernel_rfl) ⟨_, _, (c_live (G := G) (n := 52) (k := 50) (a := ((2, 45) : Wd)) (d := ((2, 49) : Wd)) H.abs (by decide) rfl), ?_⟩
  refine RW.v ?_
  refine RW.v ?_
  refine RW.nil ?_
  replace H := (H.del 0)
  dsimp only [setL, delL] at H
  refine W.rg [(4, .bool true)] fun TA => ?_
  refine W.ret ?_
  refine endG (by rfl) (by exact resL_tmp rfl) ?_
  refine RW.nil ?_
  refine W.rg [(0, .func (.yield b13) #[] #[]), (1, pt b9), (2, pt b10), (3, pt b11), (9, .bool true)] fun TA => ?_
  refine W.c1 ?_
  refine W.skip ?_
  refine W.block ?_
  refine W.seq ?_
  refine W.region ?_
  refine RW.ld H 5 1 ?_
  refine RW.ld H 4 2 ?_
  refine RW.call (by kernel_rfl) (by kernel_rfl) rfl rfl rfl (by kernel_rfl) (by kernel_rfl) ⟨_, _, (c_car (G := G) (n := 52) (k := 50) (a := ((2, 45) : Wd)) (d := ((2, 49) : Wd)) H.abs (by decide) rfl), ?_⟩
  refine RW.v ?_
  refine RW.v ?_
  refine RW.v ?_
  refine RW.mk H (.row ⟨[.int .i64 0, .int .i64 0], 37, false⟩) ?_
  clear H; intro _ b27 _ H
  refine RW.st H 0 [.int .i64 2, .int .i64 45] [.int .i64 2, .int .i64 45] ?_
  clear H; intro _ _ H
  dsimp only [setL, delL] at H
  refine RW.v ?_
  refine RW.nil ?_
  refine W.rg [(0, .func (.yield b13) #[] #[]), (1, pt b9), (2, pt b10), (3, pt b11), (5, pt b27)] fun TA => ?_
  refine W.seq ?_
  refine W.seq ?_
  refine W.region ?_
  refine RW.v ?_
  refine RW.ld H 5 2 ?_
  refine RW.ld H 0 2 ?_
  refine RW.yieldL H 2 rfl hr25 (by kernel_rfl) (by kernel_rfl) rfl rfl rfl rfl rfl (by kernel_rfl) ?_
  refine W.rg [(4, pt b5), (5, pt b6), (6, pt b7), (7, pt b8), (16, .func (.func 87) #[] #[pt b9, pt b10, pt b11]), (17, .agg #[.int .i64 2, .int .i64 50]), (18, .agg #[.int .i64 2, .int .i64 45])] fun TA => ?_
  refine W.region ?_
  refine RW.mk H (.row ⟨[.int .i64 0, .int .i64 0], 37, false⟩) ?_
  clear H; intro _ b28 _ H
  refine RW.st H 0 [.int .i64 2, .int .i64 45] [.int .i64 2, .int .i64 45] ?_
  clear H; intro _ _ H
  dsimp only [setL, delL] at H
  refine RW.nil ?_
  refine ⟨rfl, _, _, _, 3, H, rfl, ?_⟩
  clear H; intro _ lq29 hq30 H
  dsimp only [setL, delL] at H
  refine W.rg [(4, pt b5), (5, pt b6), (6, pt b7), (7, pt b8), (9, pt b28), (16, .func (.func 87) #[] #[pt b9, pt b10, pt b11]), (18, .agg #[.int .i64 2, .int .i64 45])] fun TA => ?_
  refine W.block ?_
  refine W.seq ?_
  refine W.seq ?_
  refine W.region ?_
  refine RW.ld H 9 1 ?_
  refine RW.len (by kernel_rfl) (by kernel_rfl) rfl rfl rfl rfl ((H.sl 2 rfl).len (by kernel_rfl)) (by kernel_rfl) ?_
  refine RW.v ?_
  refine RW.nil ?_
  refine W.rg [(4, pt b5), (5, pt b6), (6, pt b7), (7, pt b8), (9, pt b28), (16, .func (.func 87) #[] #[pt b9, pt b10, pt b11]), (18, .agg #[.int .i64 2, .int .i64 45]), (21, .bool false)] fun TA => ?_
  refine W.c0 ?_
  refine W.skip ?_
  refine W.region ?_
  refine RW.ld H 9 1 ?_
  refine RW.ld H 0 2 ?_
  refine RW.mkL H (x := .row ⟨[.int .i64 2, .int .i64 45], 37, false⟩) (fm := fun b => .slice (some ⟨b, 0, none⟩) 1 1) (by kernel_rfl) (by kernel_rfl) (by kernel_rfl) (by kernel_rfl) ?_
  clear H; intro _ b31 _ H
  refine RW.appL H 3 0 (n := 1) (e2 := 37) (by kernel_rfl) (by kernel_rfl) rfl rfl rfl rfl rfl rfl rfl rfl (by kernel_rfl) (by kernel_rfl) (by kernel_rfl) (by decide) (by decide) rfl rfl (by omega) (by kernel_rfl) ?_
  clear H; intro _ v32 _ H
  dsimp only [setL, delL] at H
  refine RW.stL H 9 (vs := [v32]) (cs' := [v32]) (by kernel_rfl) (by kernel_rfl) rfl rfl rfl (H.sl 2 rfl).one (gr_all (H.sl 2 rfl)) (by kernel_rfl) (Nat.le_of_ble_eq_true rfl) rfl (by kernel_rfl) ?_
  clear H; intro _ _ H
  dsimp only [setL, delL] at H
  refine RW.nil ?_
  replace H := (H.del 0)
  dsimp only [setL, delL] at H
  refine blkQ_normal ?_
  refine ⟨_, _, _, 2, true, .ready, none, H, rfl, rfl, ?_⟩
  clear H; intro _ lr33 _ hr34 H
  dsimp only [setL, delL] at H
  refine RW.v ?_
  refine RW.nil ?_
  replace H := (H.del 0)
  dsimp only [setL, delL] at H
  refine W.rg [(0, .func (.yield b13) #[] #[]), (1, pt b9), (2, pt b10), (3, pt b11), (20, .bool false)] fun TA => ?_
  refine W.c0 ?_
  refine W.skip ?_
  refine W.region ?_
  refine RW.ld H 5 1 ?_
  refine RW.ld H 4 2 ?_
  refine RW.call (by kernel_rfl) (by kernel_rfl) rfl rfl rfl (by kernel_rfl) (by kernel_rfl) ⟨_, _, (c_cdr (G := G) (n := 52) (k := 50) (a := ((2, 45) : Wd)) (d := ((2, 49) : Wd)) H.abs (by decide) rfl), ?_⟩
  refine RW.v ?_
  refine RW.v ?_
  refine RW.v ?_
  refine RW.st H 4 [.int .i64 2, .int .i64 49] [.int .i64 2, .int .i64 49] ?_
  clear H; intro _ _ H
  dsimp only [setL, delL] at H
  refine RW.nil ?_
  refine blkQ_normal ?_
  refine WL.once ?_
  refine W.rg [(0, .func (.yield b13) #[] #[]), (1, pt b9), (2, pt b10), (3, pt b11)] fun TA => ?_
  refine W.seq ?_
  refine W.seq ?_
  refine W.region ?_
  refine RW.ld H 5 1 ?_
  refine RW.ld H 4 2 ?_
  refine RW.cl ?_
  refine WC.enter (fn := Tryz.f88) Tryz.func88 rfl ?_
  refine W.rg [(0, pt h), (1, .agg #[.int .i64 2, .int .i64 49])] fun TA => ?_
  refine W.seq ?_
  refine W.region ?_
  refine RW.mk H (.row ⟨[.int .i64 2, .int .i64 49], 37, false⟩) ?_
  clear H; intro _ b35 _ H
  refine RW.v ?_
  refine RW.nil ?_
  refine W.rg [(0, pt h), (3, pt b35)] fun TA => ?_
  refine W.seq ?_
  refine W.region ?_
  refine RW.v ?_
  refine RW.ld H 0 1 ?_
  refine RW.v ?_
  refine RW.v ?_
  refine RW.val (by rfl) (by kernel_rfl) rfl (by kernel_rfl) ?_
  refine RW.ldL H 0 2 (by rfl) (by kernel_rfl) rfl rfl rfl rfl rfl (by kernel_rfl) ?_
  refine RW.call (by rfl) (by kernel_rfl) rfl rfl rfl (by kernel_rfl) (by kernel_rfl) ⟨_, _, (c_live (G := G) (n := 52) (k := 49) (a := ((2, 46) : Wd)) (d := ((1, 0) : Wd)) H.abs (by decide) rfl), ?_⟩
  refine RW.v ?_
  refine RW.v ?_
  refine RW.nil ?_
  replace H := (H.del 0)
  dsimp only [setL, delL] at H
  refine W.rg [(4, .bool true)] fun TA => ?_
  refine W.ret ?_
  refine endG (by rfl) (by exact resL_tmp rfl) ?_
  refine RW.nil ?_
  refine W.rg [(0, .func (.yield b13) #[] #[]), (1, pt b9), (2, pt b10), (3, pt b11), (9, .bool true)] fun TA => ?_
  refine W.c1 ?_
  refine W.skip ?_
  refine W.block ?_
  refine W.seq ?_
  refine W.region ?_
  refine RW.ld H 5 1 ?_
  refine RW.ld H 4 2 ?_
  refine RW.call (by kernel_rfl) (by kernel_rfl) rfl rfl rfl (by kernel_rfl) (by kernel_rfl) ⟨_, _, (c_car (G := G) (n := 52) (k := 49) (a := ((2, 46) : Wd)) (d := ((1, 0) : Wd)) H.abs (by decide) rfl), ?_⟩
  refine RW.v ?_
  refine RW.v ?_
  refine RW.v ?_
  refine RW.mk H (.row ⟨[.int .i64 0, .int .i64 0], 37, false⟩) ?_
  clear H; intro _ b36 _ H
  refine RW.st H 0 [.int .i64 2, .int .i64 46] [.int .i64 2, .int .i64 46] ?_
  clear H; intro _ _ H
  dsimp only [setL, delL] at H
  refine RW.v ?_
  refine RW.nil ?_
  refine W.rg [(0, .func (.yield b13) #[] #[]), (1, pt b9), (2, pt b10), (3, pt b11), (5, pt b36)] fun TA => ?_
  refine W.seq ?_
  refine W.seq ?_
  refine W.region ?_
  refine RW.v ?_
  refine RW.ld H 5 2 ?_
  refine RW.ld H 0 2 ?_
  refine RW.yieldL H 2 rfl hr34 (by kernel_rfl) (by kernel_rfl) rfl rfl rfl rfl rfl (by kernel_rfl) ?_
  refine W.rg [(4, pt b5), (5, pt b6), (6, pt b7), (7, pt b8), (16, .func (.func 87) #[] #[pt b9, pt b10, pt b11]), (17, .agg #[.int .i64 2, .int .i64 49]), (18, .agg #[.int .i64 2, .int .i64 46])] fun TA => ?_
  refine W.region ?_
  refine RW.mk H (.row ⟨[.int .i64 0, .int .i64 0], 37, false⟩) ?_
  clear H; intro _ b37 _ H
  refine RW.st H 0 [.int .i64 2, .int .i64 46] [.int .i64 2, .int .i64 46] ?_
  clear H; intro _ _ H
  dsimp only [setL, delL] at H
  refine RW.nil ?_
  refine ⟨rfl, _, _, _, 3, H, rfl, ?_⟩
  clear H; intro _ lq38 hq39 H
  dsimp only [setL, delL] at H
  refine W.rg [(4, pt b5), (5, pt b6), (6, pt b7), (7, pt b8), (9, pt b37), (16, .func (.func 87) #[] #[pt b9, pt b10, pt b11]), (18, .agg #[.int .i64 2, .int .i64 46])] fun TA => ?_
  refine W.block ?_
  refine W.seq ?_
  refine W.seq ?_
  refine W.region ?_
  refine RW.ld H 9 1 ?_
  refine RW.len (by kernel_rfl) (by kernel_rfl) rfl rfl rfl rfl ((H.sl 2 rfl).len (by kernel_rfl)) (by kernel_rfl) ?_
  refine RW.v ?_
  refine RW.nil ?_
  refine W.rg [(4, pt b5), (5, pt b6), (6, pt b7), (7, pt b8), (9, pt b37), (16, .func (.func 87) #[] #[pt b9, pt b10, pt b11]), (18, .agg #[.int .i64 2, .int .i64 46]), (21, .bool false)] fun TA => ?_
  refine W.c0 ?_
  refine W.skip ?_
  refine W.region ?_
  refine RW.ld H 9 1 ?_
  refine RW.ld H 0 2 ?_
  refine RW.mkL H (x := .row ⟨[.int .i64 2, .int .i64 46], 37, false⟩) (fm := fun b => .slice (some ⟨b, 0, none⟩) 1 1) (by kernel_rfl) (by kernel_rfl) (by kernel_rfl) (by kernel_rfl) ?_
  clear H; intro _ b40 _ H
  refine RW.appL H 3 0 (n := 1) (e2 := 37) (by kernel_rfl) (by kernel_rfl) rfl rfl rfl rfl rfl rfl rfl rfl (by kernel_rfl) (by kernel_rfl) (by kernel_rfl) (by decide) (by decide) rfl rfl (by omega) (by kernel_rfl) ?_
  clear H; intro _ v41 _ H
  dsimp only [setL, delL] at H
  refine RW.stL H 9 (vs := [v41]) (cs' := [v41]) (by kernel_rfl) (by kernel_rfl) rfl rfl rfl (H.sl 2 rfl).one (gr_all (H.sl 2 rfl)) (by kernel_rfl) (Nat.le_of_ble_eq_true rfl) rfl (by kernel_rfl) ?_
  clear H; intro _ _ H
  dsimp only [setL, delL] at H
  refine RW.nil ?_
  replace H := (H.del 0)
  dsimp only [setL, delL] at H
  refine blkQ_normal ?_
  refine ⟨_, _, _, 2, true, .ready, none, H, rfl, rfl, ?_⟩
  clear H; intro _ lr42 _ hr43 H
  dsimp only [setL, delL] at H
  refine RW.v ?_
  refine RW.nil ?_
  replace H := (H.del 0)
  dsimp only [setL, delL] at H
  refine W.rg [(0, .func (.yield b13) #[] #[]), (1, pt b9), (2, pt b10), (3, pt b11), (20, .bool false)] fun TA => ?_
  refine W.c0 ?_
  refine W.skip ?_
  refine W.region ?_
  refine RW.ld H 5 1 ?_
  refine RW.ld H 4 2 ?_
  refine RW.call (by kernel_rfl) (by kernel_rfl) rfl rfl rfl (by kernel_rfl) (by kernel_rfl) ⟨_, _, (c_cdr (G := G) (n := 52) (k := 49) (a := ((2, 46) : Wd)) (d := ((1, 0) : Wd)) H.abs (by decide) rfl), ?_⟩
  refine RW.v ?_
  refine RW.v ?_
  refine RW.v ?_
  refine RW.st H 4 [.int .i64 1, .int .i64 0] [.int .i64 1, .int .i64 0] ?_
  clear H; intro _ _ H
  dsimp only [setL, delL] at H
  refine RW.nil ?_
  refine blkQ_normal ?_
  refine WL.once ?_
  refine W.rg [(0, .func (.yield b13) #[] #[]), (1, pt b9), (2, pt b10), (3, pt b11)] fun TA => ?_
  refine W.seq ?_
  refine W.seq ?_
  refine W.region ?_
  refine RW.ld H 5 1 ?_
  refine RW.ld H 4 2 ?_
  refine RW.cl ?_
  refine WC.enter (fn := Tryz.f88) Tryz.func88 rfl ?_
  refine W.rg [(0, pt h), (1, .agg #[.int .i64 1, .int .i64 0])] fun TA => ?_
  refine W.seq ?_
  refine W.region ?_
  refine RW.mk H (.row ⟨[.int .i64 1, .int .i64 0], 37, false⟩) ?_
  clear H; intro _ b44 _ H
  refine RW.v ?_
  refine RW.nil ?_
  refine W.rg [(0, pt h), (3, pt b44)] fun TA => ?_
  refine W.seq ?_
  refine W.region ?_
  refine RW.v ?_
  refine RW.ld H 0 1 ?_
  refine RW.v ?_
  refine RW.v ?_
  refine RW.skip (by rfl) (by kernel_rfl) ?_
  refine RW.skip (by rfl) (by kernel_rfl) ?_
  refine RW.skip (by rfl) (by kernel_rfl) ?_
  refine RW.v ?_
  refine RW.v ?_
  refine RW.nil ?_
  replace H := (H.del 0)
  dsimp only [setL, delL] at H
  refine W.rg [(4, .bool false)] fun TA => ?_
  refine W.ret ?_
  refine endG (by rfl) (by exact resL_tmp rfl) ?_
  refine RW.nil ?_
  refine W.rg [(0, .func (.yield b13) #[] #[]), (1, pt b9), (2, pt b10), (3, pt b11), (9, .bool false)] fun TA => ?_
  refine W.c0 ?_
  refine W.exit _ ?_
  refine seqQ_exit ?_
  refine onceQ_exit ?_
  refine blkQ_here ?_
  refine W.region ?_
  refine RW.ld H 3 1 ?_
  refine RW.ld H 4 2 ?_
  refine RW.v ?_
  refine RW.st H 6 [.int .i64 1, .int .i64 0] [.int .i64 1, .int .i64 0] ?_
  clear H; intro _ _ H
  dsimp only [setL, delL] at H
  refine RW.nil ?_
  refine endG (by rfl) (by exact rfl) ?_
  refine ⟨_, _, _, 1, _, _, _, _, H, rfl, hr43, rfl, rfl, ?_⟩
  clear H; intro _ H
  dsimp only [setL, delL] at H
  refine blkQ_normal ?_
  refine W.rg [(4, pt b5), (5, pt b6), (6, pt b7), (7, pt b8), (16, .func (.func 87) #[] #[pt b9, pt b10, pt b11])] fun TA => ?_
  refine W.seq ?_
  refine W.seq ?_
  refine W.region ?_
  refine RW.ld H 5 2 ?_
  refine RW.cl ?_
  refine WC.enter (fn := Tryz.f57) Tryz.func57 rfl ?_
  refine W.rg [(0, .agg #[.int .i64 1, .int .i64 0])] fun TA => ?_
  refine W.seq ?_
  refine W.region ?_
  refine RW.mk H (.row ⟨[.int .i64 1, .int .i64 0], 37, false⟩) ?_
  clear H; intro _ b45 _ H
  refine RW.v ?_
  refine RW.nil ?_
  refine W.rg [(1, pt b45)] fun TA => ?_
  refine W.seq ?_
  refine W.drawn (by kernel_rfl) (by kernel_rfl) H.gn ?_
  have H46 := H
  refine RW.ld H46 0 2 ?_
  refine RW.cl ?_
  refine WC.enter (fn := Tryz.f54) Tryz.func54 rfl ?_
  replace H := H46
  refine W.rg [] fun TA => ?_
  refine W.seq ?_
  refine W.region ?_
  refine RW.mk H (.row ⟨[.int .i64 0, .int .i64 0], 37, false⟩) ?_
  clear H; intro _ b47 _ H
  refine RW.nil ?_
  refine W.rg [(0, pt b47)] fun TA => ?_
  refine W.seq ?_
  refine W.region ?_
  refine RW.val (v := .agg #[.int .i64 1, .int .i64 0]) (by kernel_rfl) (by kernel_rfl) (by kernel_rfl) (by kernel_rfl) ?_
  refine RW.st H 0 [.int .i64 1, .int .i64 0] [.int .i64 1, .int .i64 0] ?_
  clear H; intro _ _ H
  dsimp only [setL, delL] at H
  refine RW.nil ?_
  refine W.rg [(0, pt b47)] fun TA => ?_
  refine W.ret ?_
  refine endG (by rfl) (by exact resL_cell rfl (H.get 0 rfl) (by rw [uT_eq]; exact Tryz.underlying37) (by kernel_rfl) rfl rfl rfl) ?_
  have H48 := H
  refine RW.vop (v := .bool true) (by kernel_rfl) (by kernel_rfl) (vop_eqS (b := true) (r := true) rfl (.inl ⟨rfl, rfl⟩) rfl rfl rfl rfl (by kernel_rfl) (fun w => (eqWd _ _ _ _ w).trans (by simp))) (by kernel_rfl) ?_
  refine RW.v ?_
  refine RW.nil ?_
  refine ⟨⟨by kernel_rfl, ⟨dyn_row (H46.get 0 rfl) (H48.get 1 rfl) ⟨fun h => Bool.noConfusion h, fun _ => H46.get 0 rfl, fun h => Bool.noConfusion h, fun h => Bool.noConfusion h, trivial⟩, trivial, trivial, trivial, trivial⟩⟩, ?_⟩
  replace H := H48
  clear H46 H48
  replace H := ((H.del 1).del 0)
  dsimp only [setL, delL] at H
  refine W.rg [(2, .bool true)] fun TA => ?_
  refine W.ret ?_
  refine endG (by rfl) (by exact resL_tmp rfl) ?_
  refine RW.v ?_
  refine RW.nil ?_
  replace H := ((((H.del 5).del 4).del 3).del 2)
  dsimp only [setL, delL] at H
  refine W.rg [(4, pt b5), (5, pt b6), (6, pt b7), (28, .bool false)] fun TA => ?_
  refine W.c0 ?_
  refine W.skip ?_
  refine W.seq ?_
  refine W.region ?_
  refine RW.ld H 2 1 ?_
  refine RW.stL H 4 (vs := [v41]) (cs' := [v41]) (by kernel_rfl) (by kernel_rfl) rfl rfl rfl (H.sl 0 rfl).one (gr_all (H.sl 0 rfl)) (by kernel_rfl) (Nat.le_of_ble_eq_true rfl) rfl (by kernel_rfl) ?_
  clear H; intro _ _ H
  dsimp only [setL, delL] at H
  refine RW.st H 3 [.int .i64 0] [.int .i64 0] ?_
  clear H; intro _ _ H
  dsimp only [setL, delL] at H
  refine RW.nil ?_
  replace H := (H.del 2)
  dsimp only [setL, delL] at H
  refine W.rg [(4, pt b5), (5, pt b6)] fun TA => ?_
  refine W.ret ?_
  refine endMark H 1 rfl fun _ H => ?_
  dsimp only [setL, delL] at H
  refine endGD0 (by rfl) (by exact resL_cell rfl (H.get 2 rfl) (by rw [uT_eq]; exact Tryz.underlying29) (by kernel_rfl) rfl rfl (by exact resL_cell rfl (H.get 1 rfl) (by rw [uT_eq]; exact Tryz.underlying24) (by kernel_rfl) rfl rfl rfl)) ?_
  refine RW.v ?_
  refine RW.v ?_
  refine RW.v ?_
  refine RW.v ?_
  refine RW.v ?_
  refine RW.nil ?_
  replace H := (((H.del 4).del 2).del 1)
  dsimp only [setL, delL] at H
  refine W.rg [(0, pt h), (4, pt b1), (6, pt b3), (8, v41), (9, .int .i64 0)] fun TA => ?_
  refine W.seq ?_
  refine W.seq ?_
  refine W.region ?_
  refine RW.v ?_
  refine RW.v ?_
  refine RW.nil ?_
  refine W.rg [(0, pt h), (4, pt b1), (6, pt b3), (8, v41), (9, .int .i64 0), (23, .bool false)] fun TA => ?_
  refine W.c0 ?_
  refine W.skip ?_
  refine W.seq ?_
  refine W.region ?_
  refine RW.v ?_
  refine RW.nil ?_
  refine W.rg [(0, pt h), (4, pt b1), (6, pt b3), (8, v41), (10, .slice none 0 0)] fun TA => ?_
  refine W.seq ?_
  refine W.region ?_
  refine RW.cl ?_
  refine WC.enter (fn := Tryz.f50) Tryz.func50 rfl ?_
  refine W.rg [] fun TA => ?_
  refine W.seq ?_
  refine W.region ?_
  refine RW.v ?_
  refine RW.nil ?_
  refine W.rg [] fun TA => ?_
  refine W.seq ?_
  refine W.region ?_
  refine RW.mk H (.row ⟨[.int .i64 0], 3, false⟩) ?_
  clear H; intro _ b49 _ H
  refine RW.st H 0 [.int .i64 200000] [.int .i64 200000] ?_
  clear H; intro _ _ H
  dsimp only [setL, delL] at H
  refine RW.nil ?_
  refine W.rg [(1, pt b49)] fun TA => ?_
  refine W.seq ?_
  refine W.region ?_
  refine RW.val (v := .func (.func 81) #[] #[.pointer (some ⟨b49, 0, none⟩)]) (by kernel_rfl) (by kernel_rfl) (by kernel_rfl) (by kernel_rfl) ?_
  refine RW.v ?_
  refine RW.nil ?_
  refine W.rg [(0, .func (.func 81) #[] #[pt b49])] fun TA => ?_
  refine W.ret ?_
  refine endG (by rfl) (by exact resL_tmp rfl) ?_
  refine RW.v ?_
  refine RW.nil ?_
  refine W.rg [(0, pt h), (4, pt b1), (6, pt b3), (8, v41), (10, .slice none 0 0), (11, .func (.func 81) #[] #[pt b49])] fun TA => ?_
  refine W.seq ?_
  refine W.seq ?_
  refine W.region ?_
  refine RW.v ?_
  refine RW.len (by kernel_rfl) (by kernel_rfl) rfl rfl rfl rfl ((H.sl 1 rfl).len (by kernel_rfl)) (by kernel_rfl) ?_
  refine RW.v ?_
  refine RW.nil ?_
  refine W.rg [(0, pt h), (4, pt b1), (6, pt b3), (10, .slice none 0 0), (11, .func (.func 81) #[] #[pt b49]), (27, v41), (28, .int .i64 3), (29, .int .i64 0)] fun TA => ?_
  refine W.block ?_
  refine W.unroll (WL.once ?_)
  refine W.seq ?_
  refine W.region ?_
  refine RW.v ?_
  refine RW.nil ?_
  refine W.rg [(0, pt h), (4, pt b1), (6, pt b3), (10, .slice none 0 0), (11, .func (.func 81) #[] #[pt b49]), (27, v41), (28, .int .i64 3), (29, .int .i64 0), (30, .bool true)] fun TA => ?_
  refine W.seq ?_
  refine W.c1 ?_
  refine W.skip ?_
  refine W.seq ?_
  refine W.block ?_
  refine W.seq ?_
  refine W.region ?_
  refine RW.idxG H 1 rfl (by kernel_rfl) (by kernel_rfl) rfl Tryz.underlying29 (by kernel_rfl) rfl rfl ⟨by decide, by decide⟩ (by kernel_rfl) ?_
  intro b50 q51 r52 hF53 hE54
  replace hE54 : (r52.cs.drop q51).take 2 = [.int .i64 2, .int .i64 45] := hE54
  refine RW.loads 2 (by kernel_rfl) (by kernel_rfl) rfl rfl (hF53) hE54 rfl (by kernel_rfl) ?_
  refine RW.mk H (.row ⟨[.int .i64 0, .int .i64 0], 37, false⟩) ?_
  clear H; intro _ b55 _ H
  refine RW.st H 0 [.int .i64 2, .int .i64 45] [.int .i64 2, .int .i64 45] ?_
  clear H; intro _ _ H
  dsimp only [setL, delL] at H
  refine RW.nil ?_
  refine W.rg [(0, pt h), (4, pt b1), (6, pt b3), (10, .slice none 0 0), (11, .func (.func 81) #[] #[pt b49]), (13, pt b55), (27, v41), (28, .int .i64 3), (29, .int .i64 0)] fun TA => ?_
  refine W.seq ?_
  refine W.region ?_
  refine RW.v ?_
  refine RW.v ?_
  refine RW.ld H 4 2 ?_
  refine RW.ld H 0 2 ?_
  refine RW.cl ?_
  refine WC.enter (fn := Tryz.f81) Tryz.func81 rfl ?_
  refine W.rg [(0, pt h), (1, .agg #[.int .i64 2, .int .i64 46]), (2, .agg #[.int .i64 2, .int .i64 45]), (3, pt b49)] fun TA => ?_
  refine W.seq ?_
  refine W.region ?_
  refine RW.mk H (.row ⟨[.int .i64 2, .int .i64 46], 37, false⟩) ?_
  clear H; intro _ b56 _ H
  refine RW.mk H (.row ⟨[.int .i64 2, .int .i64 45], 37, false⟩) ?_
  clear H; intro _ b57 _ H
  refine RW.v ?_
  refine RW.v ?_
  refine RW.nil ?_
  refine W.rg [(0, pt h), (3, pt b49), (5, pt b56), (6, pt b57)] fun TA => ?_
  refine W.seq ?_
  refine W.region ?_
  refine RW.v ?_
  refine RW.ld H 1 2 ?_
  refine RW.ld H 0 2 ?_
  refine RW.call (by kernel_rfl) (by kernel_rfl) rfl rfl rfl (by kernel_rfl) (by kernel_rfl) ((equal_ok (G := G) (h := h) (r := false) (d := 16) (n := 200000) (n' := 68929) (k := 3) (Lp := b49) (a := ((2, 46) : Wd)) (b := ((2, 45) : Wd)) H rfl (T_ac (n := 52) (by decide) 16 (by decide)) (by decide) (by decide) (by rw [cost16]) (by decide)).mono ?_)
  clear H
  rintro _ _ ⟨rfl, H⟩
  dsimp only [setL, delL] at H
  refine RW.v ?_
  refine RW.v ?_
  refine RW.v ?_
  refine RW.v ?_
  refine RW.nil ?_
  replace H := ((H.del 1).del 0)
  dsimp only [setL, delL] at H
  refine W.rg [(7, .bool false), (8, .int .i64 0)] fun TA => ?_
  refine W.ret ?_
  refine endG (by rfl) (by exact resL_tmp (by exact resL_tmp rfl)) ?_
  refine RW.v ?_
  refine RW.v ?_
  refine RW.v ?_
  refine RW.v ?_
  refine RW.v ?_
  refine RW.nil ?_
  refine W.rg [(0, pt h), (4, pt b1), (6, pt b3), (10, .slice none 0 0), (11, .func (.func 81) #[] #[pt b49]), (13, pt b55), (14, .bool false), (15, .int .i64 0), (27, v41), (28, .int .i64 3), (29, .int .i64 0)] fun TA => ?_
  refine W.seq ?_
  refine W.seq ?_
  refine W.region ?_
  refine RW.v ?_
  refine RW.v ?_
  refine RW.nil ?_
  refine W.rg [(0, pt h), (4, pt b1), (6, pt b3), (10, .slice none 0 0), (11, .func (.func 81) #[] #[pt b49]), (13, pt b55), (14, .bool false), (15, .int .i64 0), (27, v41), (28, .int .i64 3), (29, .int .i64 0), (42, .bool false)] fun TA => ?_
  refine W.c0 ?_
  refine W.skip ?_
  refine W.seq ?_
  refine W.region ?_
  refine RW.v ?_
  refine RW.v ?_
  refine RW.nil ?_
  refine W.rg [(0, pt h), (4, pt b1), (6, pt b3), (10, .slice none 0 0), (11, .func (.func 81) #[] #[pt b49]), (13, pt b55), (27, v41), (28, .int .i64 3), (29, .int .i64 0), (46, .bool true)] fun TA => ?_
  refine W.c1 ?_
  refine W.region ?_
  refine RW.v ?_
  refine RW.ld H 0 2 ?_
  refine RW.mkL H (x := .row ⟨[.int .i64 2, .int .i64 45], 37, false⟩) (fm := fun b => .slice (some ⟨b, 0, none⟩) 1 1) (by kernel_rfl) (by kernel_rfl) (by kernel_rfl) (by kernel_rfl) ?_
  clear H; intro _ b58 _ H
  replace H := H.nilSl 37 2
  refine RW.appL H 0 1 (n := 1) (e2 := 37) (by kernel_rfl) (by kernel_rfl) rfl rfl rfl rfl rfl rfl rfl rfl (by kernel_rfl) (by kernel_rfl) (by kernel_rfl) (by decide) (by decide) rfl rfl (by omega) (by kernel_rfl) ?_
  clear H; intro _ v59 _ H
  dsimp only [setL, delL] at H
  refine RW.v ?_
  refine RW.nil ?_
  replace H := (H.del 1)
  dsimp only [setL, delL] at H
  refine blkQ_normal ?_
  refine W.rg [(0, pt h), (4, pt b1), (6, pt b3), (10, v59), (11, .func (.func 81) #[] #[pt b49]), (27, v41), (28, .int .i64 3), (29, .int .i64 0)] fun TA => ?_
  refine W.region ?_
  refine RW.v ?_
  refine RW.v ?_
  refine RW.nil ?_
  refine WL.once ?_
  refine W.rg [(0, pt h), (4, pt b1), (6, pt b3), (10, v59), (11, .func (.func 81) #[] #[pt b49]), (27, v41), (28, .int .i64 3), (29, .int .i64 1)] fun TA => ?_
  refine W.seq ?_
  refine W.region ?_
  refine RW.v ?_
  refine RW.nil ?_
  refine W.rg [(0, pt h), (4, pt b1), (6, pt b3), (10, v59), (11, .func (.func 81) #[] #[pt b49]), (27, v41), (28, .int .i64 3), (29, .int .i64 1), (30, .bool true)] fun TA => ?_
  refine W.seq ?_
  refine W.c1 ?_
  refine W.skip ?_
  refine W.seq ?_
  refine W.block ?_
  refine W.seq ?_
  refine W.region ?_
  refine RW.idxG H 2 rfl (by kernel_rfl) (by kernel_rfl) rfl Tryz.underlying29 (by kernel_rfl) rfl rfl ⟨by decide, by decide⟩ (by kernel_rfl) ?_
  intro b60 q61 r62 hF63 hE64
  replace hE64 : (r62.cs.drop q61).take 2 = [.int .i64 2, .int .i64 45] := hE64
  refine RW.loads 2 (by kernel_rfl) (by kernel_rfl) rfl rfl (hF63) hE64 rfl (by kernel_rfl) ?_
  refine RW.mk H (.row ⟨[.int .i64 0, .int .i64 0], 37, false⟩) ?_
  clear H; intro _ b65 _ H
  refine RW.st H 0 [.int .i64 2, .int .i64 45] [.int .i64 2, .int .i64 45] ?_
  clear H; intro _ _ H
  dsimp only [setL, delL] at H
  refine RW.nil ?_
  refine W.rg [(0, pt h), (4, pt b1), (6, pt b3), (10, v59), (11, .func (.func 81) #[] #[pt b49]), (13, pt b65), (27, v41), (28, .int .i64 3), (29, .int .i64 1)] fun TA => ?_
  refine W.seq ?_
  refine W.region ?_
  refine RW.v ?_
  refine RW.v ?_
  refine RW.ld H 5 2 ?_
  refine RW.ld H 0 2 ?_
  refine RW.cl ?_
  refine WC.enter (fn := Tryz.f81) Tryz.func81 rfl ?_
  refine W.rg [(0, pt h), (1, .agg #[.int .i64 2, .int .i64 46]), (2, .agg #[.int .i64 2, .int .i64 45]), (3, pt b49)] fun TA => ?_
  refine W.seq ?_
  refine W.region ?_
  refine RW.mk H (.row ⟨[.int .i64 2, .int .i64 46], 37, false⟩) ?_
  clear H; intro _ b66 _ H
  refine RW.mk H (.row ⟨[.int .i64 2, .int .i64 45], 37, false⟩) ?_
  clear H; intro _ b67 _ H
  refine RW.v ?_
  refine RW.v ?_
  refine RW.nil ?_
  refine W.rg [(0, pt h), (3, pt b49), (5, pt b66), (6, pt b67)] fun TA => ?_
  refine W.seq ?_
  refine W.region ?_
  refine RW.v ?_
  refine RW.ld H 1 2 ?_
  refine RW.ld H 0 2 ?_
  refine RW.call (by kernel_rfl) (by kernel_rfl) rfl rfl rfl (by kernel_rfl) (by kernel_rfl) ((equal_fuel (G := G) (h := h) (r := false) (d := 16) (n := 68929) (k := 4) (Lp := b49) (a := ((2, 46) : Wd)) (b := ((2, 45) : Wd)) H rfl (T_ac (n := 52) (by decide) 16 (by decide)) (by decide) (by decide) (by rw [cost16]; decide) (by decide)).mono ?_)
  clear H
  rintro _ _ ⟨rfl, H⟩
  dsimp only [setL, delL] at H
  refine RW.v ?_
  refine RW.v ?_
  refine RW.v ?_
  refine RW.v ?_
  refine RW.nil ?_
  replace H := ((H.del 1).del 0)
  dsimp only [setL, delL] at H
  refine W.rg [(7, .bool false), (8, .int .i64 22)] fun TA => ?_
  refine W.ret ?_
  refine endG (by rfl) (by exact resL_tmp (by exact resL_tmp rfl)) ?_
  refine RW.v ?_
  refine RW.v ?_
  refine RW.v ?_
  refine RW.v ?_
  refine RW.v ?_
  refine RW.nil ?_
  refine W.rg [(0, pt h), (4, pt b1), (6, pt b3), (10, v59), (11, .func (.func 81) #[] #[pt b49]), (13, pt b65), (14, .bool false), (15, .int .i64 22), (27, v41), (28, .int .i64 3), (29, .int .i64 1)] fun TA => ?_
  refine W.seq ?_
  refine W.seq ?_
  refine W.region ?_
  refine RW.v ?_
  refine RW.v ?_
  refine RW.nil ?_
  refine W.rg [(0, pt h), (4, pt b1), (6, pt b3), (10, v59), (11, .func (.func 81) #[] #[pt b49]), (13, pt b65), (14, .bool false), (15, .int .i64 22), (27, v41), (28, .int .i64 3), (29, .int .i64 1), (42, .bool true)] fun TA => ?_
  refine W.c1 ?_
  refine W.seq ?_
  refine W.region ?_
  refine RW.val (v := .agg #[.int .i64 0, .int .i64 0]) (by kernel_rfl) (by kernel_rfl) (by kernel_rfl) (by kernel_rfl) ?_
  refine RW.v ?_
  refine RW.st H 4 [.int .i64 0, .int .i64 0] [.int .i64 0, .int .i64 0] ?_
  clear H; intro _ _ H
  dsimp only [setL, delL] at H
  refine RW.v ?_
  refine RW.nil ?_
  replace H := (((((H.del 5).del 3).del 2).del 1).del 0)
  dsimp only [setL, delL] at H
  refine W.rg [(6, pt b3), (7, .int .i64 22)] fun TA => ?_
  refine W.ret ?_
  refine seqQ_ret ?_
  refine blkQ_ret ?_
  refine seqQ_ret ?_
  refine onceQ_ret ?_
  refine blkQ_ret ?_
  refine seqQ_ret ?_
  refine endG (by rfl) (by exact resL_cell rfl (H.get 0 rfl) (by rw [uT_eq]; exact Tryz.underlying37) (by kernel_rfl) rfl rfl (by exact resL_tmp rfl)) ?_
  exact ⟨rfl, (H.del 0)⟩
set_option maxHeartbeats 4000000 in
theorem delete_twice  (H : Lies G (heapAbs h (hmN 52)) F σ (L)) : WC G Tryz.prog 66 #[.pointer (some ⟨h, 0, none⟩), .agg #[.int .i64 2, .int .i64 46], .agg #[.int .i64 2, .int .i64 51]] σ fun v σ' => v = .tuple #[.agg #[.int .i64 0, .int .i64 0], .int .i64 22] ∧ Lies G (heapAbs h (hmN 52)) F σ' (L) := by
  refine WC.enter (fn := Tryz.f66) Tryz.func66 rfl ?_
  refine W.rg [(0, pt h), (1, .agg #[.int .i64 2, .int .i64 46]), (2, .agg #[.int .i64 2, .int .i64 51])] fun TA => ?_
  refine W.seq ?_
  refine W.region ?_
  refine RW.mk H (.row ⟨[.int .i64 2, .int .i64 46], 37, false⟩) ?_
  clear H; intro _ b1 _ H
  refine RW.mk H (.row ⟨[.int .i64 2, .int .i64 51], 37, false⟩) ?_
  clear H; intro _ b2 _ H
  refine RW.mk H (.row ⟨[.int .i64 0, .int .i64 0], 37, false⟩) ?_
  clear H; intro _ b3 _ H
  refine RW.v ?_
  refine RW.nil ?_
  refine W.rg [(0, pt h), (4, pt b1), (5, pt b2), (6, pt b3)] fun TA => ?_
  refine W.seq ?_
  refine W.drawn (by kernel_rfl) (by kernel_rfl) H.gn ?_
  have H4 := H
  refine RW.v ?_
  refine RW.ld H4 2 2 ?_
  refine RW.ld H4 1 2 ?_
  refine RW.cl ?_
  refine WC.enter (fn := Tryz.f50) Tryz.func50 rfl ?_
  replace H := H4
  refine W.rg [] fun TA => ?_
  refine W.seq ?_
  refine W.region ?_
  refine RW.v ?_
  refine RW.nil ?_
  refine W.rg [] fun TA => ?_
  refine W.seq ?_
  refine W.region ?_
  refine RW.mk H (.row ⟨[.int .i64 0], 3, false⟩) ?_
  clear H; intro _ b5 _ H
  refine RW.st H 0 [.int .i64 200000] [.int .i64 200000] ?_
  clear H; intro _ _ H
  dsimp only [setL, delL] at H
  refine RW.nil ?_
  refine W.rg [(1, pt b5)] fun TA => ?_
  refine W.seq ?_
  refine W.region ?_
  refine RW.val (v := .func (.func 81) #[] #[.pointer (some ⟨b5, 0, none⟩)]) (by kernel_rfl) (by kernel_rfl) (by kernel_rfl) (by kernel_rfl) ?_
  refine RW.v ?_
  refine RW.nil ?_
  refine W.rg [(0, .func (.func 81) #[] #[pt b5])] fun TA => ?_
  refine W.ret ?_
  refine endG (by rfl) (by exact resL_tmp rfl) ?_
  have H6 := H
  refine RW.cl ?_
  refine WC.enterD (fn := Tryz.f65) Tryz.func65 rfl ?_
  replace H := H6
  refine W.rg [(0, pt h), (1, .agg #[.int .i64 2, .int .i64 46]), (2, .agg #[.int .i64 2, .int .i64 51]), (3, .func (.func 81) #[] #[pt b5])] fun TA => ?_
  refine W.seq ?_
  refine W.region ?_
  refine RW.mk H (.row ⟨[pt h], 23, false⟩) ?_
  clear H; intro _ b7 _ H
  refine RW.mk H (.row ⟨[.int .i64 2, .int .i64 46], 37, false⟩) ?_
  clear H; intro _ b8 _ H
  refine RW.mk H (.row ⟨[.int .i64 2, .int .i64 51], 37, false⟩) ?_
  clear H; intro _ b9 _ H
  refine RW.mk H (.row ⟨[.func (.func 81) #[] #[pt b5]], 35, false⟩) ?_
  clear H; intro _ b10 _ H
  refine RW.mk H (.row ⟨[.int .i64 0, .int .i64 0], 37, false⟩) ?_
  clear H; intro _ b11 _ H
  refine RW.mk H (.row ⟨[.int .i64 0], 24, false⟩) ?_
  clear H; intro _ b12 _ H
  refine RW.nil ?_
  refine W.rg [(4, pt b7), (5, pt b8), (6, pt b9), (7, pt b10), (8, pt b11), (9, pt b12)] fun TA => ?_
  refine W.seq ?_
  refine W.seq ?_
  refine W.region ?_
  refine RW.ld H 5 1 ?_
  refine RW.ld H 3 2 ?_
  refine RW.cl ?_
  refine WC.enterD (fn := Tryz.f18) Tryz.func18 rfl ?_
  refine W.rg [(0, pt h), (1, .agg #[.int .i64 2, .int .i64 51])] fun TA => ?_
  refine W.seq ?_
  refine W.region ?_
  refine RW.mk H (.row ⟨[.int .i64 2, .int .i64 51], 37, false⟩) ?_
  clear H; intro _ b13 _ H
  refine RW.mk H (.row ⟨[.slice none 0 0], 29, false⟩) ?_
  clear H; intro _ b14 _ H
  refine RW.mk H (.row ⟨[.int .i64 0], 24, false⟩) ?_
  clear H; intro _ b15 _ H
  refine RW.nil ?_
  refine W.rg [(0, pt h), (3, pt b13), (4, pt b14), (5, pt b15)] fun TA => ?_
  refine W.seq ?_
  refine W.seq ?_
  refine W.region ?_
  refine RW.v ?_
  refine RW.cl ?_
  refine WC.enter (fn := Tryz.f51) Tryz.func51 rfl ?_
  refine W.rg [(0, pt h)] fun TA => ?_
  refine W.seq ?_
  refine W.region ?_
  refine RW.v ?_
  refine RW.nil ?_
  refine W.rg [(0, pt h)] fun TA => ?_
  refine W.seq ?_
  refine W.region ?_
  refine RW.v ?_
  refine RW.call (by kernel_rfl) (by kernel_rfl) rfl rfl rfl (by kernel_rfl) (by kernel_rfl) ⟨_, _, (c_limit (G := G) (n := 52) H.abs), ?_⟩
  refine RW.v ?_
  refine RW.v ?_
  refine RW.nil ?_
  refine W.rg [(2, .bool true)] fun TA => ?_
  refine W.ret ?_
  refine endG (by rfl) (by exact resL_tmp rfl) ?_
  refine RW.v ?_
  refine RW.nil ?_
  refine W.rg [(0, pt h), (3, pt b13), (4, pt b14), (5, pt b15), (12, .bool false)] fun TA => ?_
  refine W.c0 ?_
  refine W.skip ?_
  refine W.seq ?_
  refine W.region ?_
  refine RW.mk H (.row ⟨[.slice none 0 0], 29, false⟩) ?_
  clear H; intro _ b16 _ H
  refine RW.nil ?_
  refine W.rg [(0, pt h), (3, pt b13), (4, pt b14), (5, pt b15), (6, pt b16)] fun TA => ?_
  refine W.seq ?_
  refine W.region ?_
  refine RW.ld H 3 2 ?_
  refine RW.mk H (.row ⟨[.int .i64 0, .int .i64 0], 37, false⟩) ?_
  clear H; intro _ b17 _ H
  refine RW.st H 0 [.int .i64 2, .int .i64 51] [.int .i64 2, .int .i64 51] ?_
  clear H; intro _ _ H
  dsimp only [setL, delL] at H
  refine RW.nil ?_
  refine W.rg [(0, pt h), (3, pt b13), (4, pt b14), (5, pt b15), (6, pt b16), (7, pt b17)] fun TA => ?_
  refine W.seq ?_
  refine W.seq ?_
  refine W.region ?_
  refine RW.v ?_
  refine RW.ld H 4 2 ?_
  refine RW.cl ?_
  refine WC.enter (fn := Tryz.f56) Tryz.func56 rfl ?_
  refine W.rg [(0, pt h), (1, .agg #[.int .i64 2, .int .i64 51]), (2, pt b17)] fun TA => ?_
  refine W.seq ?_
  refine W.region ?_
  refine RW.mk H (.row ⟨[pt h], 23, false⟩) ?_
  clear H; intro _ b18 _ H
  refine RW.mk H (.row ⟨[.int .i64 2, .int .i64 51], 37, false⟩) ?_
  clear H; intro _ b19 _ H
  refine RW.mk H (.row ⟨[pt b17], 94, false⟩) ?_
  clear H; intro _ b20 _ H
  refine RW.v ?_
  refine RW.nil ?_
  refine W.rg [(3, pt b18), (4, pt b19), (5, pt b20)] fun TA => ?_
  refine W.seq ?_
  refine W.region ?_
  refine RW.val (v := .func (.func 87) #[] #[.pointer (some ⟨b18, 0, none⟩), .pointer (some ⟨b19, 0, none⟩), .pointer (some ⟨b20, 0, none⟩)]) (by kernel_rfl) (by kernel_rfl) (by kernel_rfl) (by kernel_rfl) ?_
  refine RW.v ?_
  refine RW.nil ?_
  refine W.rg [(6, .func (.func 87) #[] #[pt b18, pt b19, pt b20])] fun TA => ?_
  refine W.ret ?_
  refine endG (by rfl) (by exact resL_tmp rfl) ?_
  refine RW.nil ?_
  replace H := (H.del 7)
  dsimp only [setL, delL] at H
  refine W.rg [(4, pt b14), (5, pt b15), (6, pt b16), (7, pt b17), (16, .func (.func 87) #[] #[pt b18, pt b19, pt b20])] fun TA => ?_
  refine W.block ?_
  refine W.rst [(4, .pointer (some ⟨b14, 0, none⟩)), (5, .pointer (some ⟨b15, 0, none⟩)), (6, .pointer (some ⟨b16, 0, none⟩)), (7, .pointer (some ⟨b17, 0, none⟩)), (16, .func (.func 87) #[] #[.pointer (some ⟨b18, 0, none⟩), .pointer (some ⟨b19, 0, none⟩), .pointer (some ⟨b20, 0, none⟩)])] ⟨rfl, rfl, rfl, rfl, rfl, trivial⟩ fun TL25 => ?_
  refine W.rangeL H rfl (fun _ h => nomatch h) (fun _ h => nomatch h) (by kernel_rfl) fun _ d21 b22 lp23 hl24 H => ?_
  refine WC.enter (fn := Tryz.f87) Tryz.func87 rfl ?_
  refine W.rg [(0, .func (.yield b22) #[] #[]), (1, pt b18), (2, pt b19), (3, pt b20)] fun TA => ?_
  refine W.seq ?_
  refine W.block ?_
  refine W.unroll (WL.once ?_)
  refine W.seq ?_
  refine W.seq ?_
  refine W.region ?_
  refine RW.ld H 4 1 ?_
  refine RW.ld H 3 2 ?_
  refine RW.cl ?_
  refine WC.enter (fn := Tryz.f88) Tryz.func88 rfl ?_
  refine W.rg [(0, pt h), (1, .agg #[.int .i64 2, .int .i64 51])] fun TA => ?_
  refine W.seq ?_
  refine W.region ?_
  refine RW.mk H (.row ⟨[.int .i64 2, .int .i64 51], 37, false⟩) ?_
  clear H; intro _ b26 _ H
  refine RW.v ?_
  refine RW.nil ?_
  refine W.rg [(0, pt h), (3, pt b26)] fun TA => ?_
  refine W.seq ?_
  refine W.region ?_
  refine RW.v ?_
  refine RW.ld H 0 1 ?_
  refine RW.v ?_
  refine RW.v ?_
  refine RW.val (by rfl) (by kernel_rfl) rfl (by kernel_rfl) ?_
  refine RW.ldL H 0 2 (by rfl) (by kernel_rfl) rfl rfl rfl rfl rfl (by kernel_rfl) ?_
  refine RW.call (by rfl) (by kernel_rfl) rfl rfl rfl (by kernel_rfl) (by kernel_rfl) ⟨_, _, (c_live (G := G) (n := 52) (k := 51) (a := ((2, 45) : Wd)) (d := ((2, 50) : Wd)) H.abs (by decide) rfl), ?_⟩
  refine RW.v ?_
  refine RW.v ?_
  refine RW.nil ?_
  replace H := (H.del 0)
  dsimp only [setL, delL] at H
  refine W.rg [(4, .bool true)] fun TA => ?_
  refine W.ret ?_
  refine endG (by rfl) (by exact resL_tmp rfl) ?_
  refine RW.nil ?_
  refine W.rg [(0, .func (.yield b22) #[] #[]), (1, pt b18), (2, pt b19), (3, pt b20), (9, .bool true)] fun TA => ?_
  refine W.c1 ?_
  refine W.skip ?_
  refine W.block ?_
  refine W.seq ?_
  refine W.region ?_
  refine RW.ld H 4 1 ?_
  refine RW.ld H 3 2 ?_
  refine RW.call (by kernel_rfl) (by kernel_rfl) rfl rfl rfl (by kernel_rfl) (by kernel_rfl) ⟨_, _, (c_car (G := G) (n := 52) (k := 51) (a := ((2, 45) : Wd)) (d := ((2, 50) : Wd)) H.abs (by decide) rfl), ?_⟩
  refine RW.v ?_
  refine RW.v ?_
  refine RW.v ?_
  refine RW.mk H (.row ⟨[.int .i64 0, .int .i64 0], 37, false⟩) ?_
  clear H; intro _ b27 _ H
  refine RW.st H 0 [.int .i64 2, .int .i64 45] [.int .i64 2, .int .i64 45] ?_
  clear H; intro _ _ H
  dsimp only [setL, delL] at H
  refine RW.v ?_
  refine RW.nil ?_
  refine W.rg [(0, .func (.yield b22) #[] #[]), (1, pt b18), (2, pt b19), (3, pt b20), (5, pt b27)] fun TA => ?_
  refine W.seq ?_
  refine W.seq ?_
  refine W.region ?_
  refine RW.v ?_
  refine RW.ld H 4 2 ?_
  refine RW.ld H 0 2 ?_
  refine RW.yieldL H 1 rfl hl24 (by kernel_rfl) (by kernel_rfl) rfl rfl rfl rfl rfl (by kernel_rfl) ?_
  refine W.rg [(4, pt b14), (5, pt b15), (6, pt b16), (7, pt b17), (16, .func (.func 87) #[] #[pt b18, pt b19, pt b20]), (17, .agg #[.int .i64 2, .int .i64 51]), (18, .agg #[.int .i64 2, .int .i64 45])] fun TA => ?_
  refine W.region ?_
  refine RW.mk H (.row ⟨[.int .i64 0, .int .i64 0], 37, false⟩) ?_
  clear H; intro _ b28 _ H
  refine RW.st H 0 [.int .i64 2, .int .i64 45] [.int .i64 2, .int .i64 45] ?_
  clear H; intro _ _ H
  dsimp only [setL, delL] at H
  refine RW.nil ?_
  refine ⟨rfl, _, _, _, 2, H, rfl, ?_⟩
  clear H; intro _ lq29 hq30 H
  dsimp only [setL, delL] at H
  refine W.rg [(4, pt b14), (5, pt b15), (6, pt b16), (7, pt b17), (9, pt b28), (16, .func (.func 87) #[] #[pt b18, pt b19, pt b20]), (18, .agg #[.int .i64 2, .int .i64 45])] fun TA => ?_
  refine W.block ?_
  refine W.seq ?_
  refine W.seq ?_
  refine W.region ?_
  refine RW.ld H 8 1 ?_
  refine RW.v ?_
  refine RW.v ?_
  refine RW.nil ?_
  refine W.rg [(4, pt b14), (5, pt b15), (6, pt b16), (7, pt b17), (9, pt b28), (16, .func (.func 87) #[] #[pt b18, pt b19, pt b20]), (18, .agg #[.int .i64 2, .int .i64 45]), (21, .bool false)] fun TA => ?_
  refine W.c0 ?_
  refine W.skip ?_
  refine W.region ?_
  refine RW.ld H 8 1 ?_
  refine RW.ld H 0 2 ?_
  refine RW.mkL H (x := .row ⟨[.int .i64 2, .int .i64 45], 37, false⟩) (fm := fun b => .slice (some ⟨b, 0, none⟩) 1 1) (by kernel_rfl) (by kernel_rfl) (by kernel_rfl) (by kernel_rfl) ?_
  clear H; intro _ b31 _ H
  replace H := H.nilSl 37 2
  refine RW.appL H 0 1 (n := 1) (e2 := 37) (by kernel_rfl) (by kernel_rfl) rfl rfl rfl rfl rfl rfl rfl rfl (by kernel_rfl) (by kernel_rfl) (by kernel_rfl) (by decide) (by decide) rfl rfl (by omega) (by kernel_rfl) ?_
  clear H; intro _ v32 _ H
  dsimp only [setL, delL] at H
  refine RW.stL H 9 (vs := [v32]) (cs' := [v32]) (by kernel_rfl) (by kernel_rfl) rfl rfl rfl (H.sl 0 rfl).one (gr_all (H.sl 0 rfl)) (by kernel_rfl) (Nat.le_of_ble_eq_true rfl) rfl (by kernel_rfl) ?_
  clear H; intro _ _ H
  dsimp only [setL, delL] at H
  refine RW.nil ?_
  replace H := (H.del 1)
  dsimp only [setL, delL] at H
  refine blkQ_normal ?_
  refine ⟨_, _, _, 2, true, .ready, none, H, rfl, rfl, ?_⟩
  clear H; intro _ lr33 _ hr34 H
  dsimp only [setL, delL] at H
  refine RW.v ?_
  refine RW.nil ?_
  replace H := (H.del 1)
  dsimp only [setL, delL] at H
  refine W.rg [(0, .func (.yield b22) #[] #[]), (1, pt b18), (2, pt b19), (3, pt b20), (20, .bool false)] fun TA => ?_
  refine W.c0 ?_
  refine W.skip ?_
  refine W.region ?_
  refine RW.ld H 5 1 ?_
  refine RW.ld H 4 2 ?_
  refine RW.call (by kernel_rfl) (by kernel_rfl) rfl rfl rfl (by kernel_rfl) (by kernel_rfl) ⟨_, _, (c_cdr (G := G) (n := 52) (k := 51) (a := ((2, 45) : Wd)) (d := ((2, 50) : Wd)) H.abs (by decide) rfl), ?_⟩
  refine RW.v ?_
  refine RW.v ?_
  refine RW.v ?_
  refine RW.st H 4 [.int .i64 2, .int .i64 50] [.int .i64 2, .int .i64 50] ?_
  clear H; intro _ _ H
  dsimp only [setL, delL] at H
  refine RW.nil ?_
  refine blkQ_normal ?_
  refine WL.once ?_
  refine W.rg [(0, .func (.yield b22) #[] #[]), (1, pt b18), (2, pt b19), (3, pt b20)] fun TA => ?_
  refine W.seq ?_
  refine W.seq ?_
  refine W.region ?_
  refine RW.ld H 5 1 ?_
  refine RW.ld H 4 2 ?_
  refine RW.cl ?_
  refine WC.enter (fn := Tryz.f88) Tryz.func88 rfl ?_
  refine W.rg [(0, pt h), (1, .agg #[.int .i64 2, .int .i64 50])] fun TA => ?_
  refine W.seq ?_
  refine W.region ?_
  refine RW.mk H (.row ⟨[.int .i64 2, .int .i64 50], 37, false⟩) ?_
  clear H; intro _ b35 _ H
  refine RW.v ?_
  refine RW.nil ?_
  refine W.rg [(0, pt h), (3, pt b35)] fun TA => ?_
  refine W.seq ?_
  refine W.region ?_
  refine RW.v ?_
  refine RW.ld H 0 1 ?_
  refine RW.v ?_
  refine RW.v ?_
  refine RW.val (by rfl) (by kernel_rfl) rfl (by kernel_rfl) ?_
  refine RW.ldL H 0 2 (by rfl) (by kernel_rfl) rfl rfl rfl rfl rfl (by kernel_rfl) ?_
  refine RW.call (by rfl) (by kernel_rfl) rfl rfl rfl (by kernel_rfl) (by kernel_rfl) ⟨_, _, (c_live (G := G) (n := 52) (k := 50) (a := ((2, 45) : Wd)) (d := ((2, 49) : Wd)) H.abs (by decide) rfl), ?_⟩
  refine RW.v ?_
  refine RW.v ?_
  refine RW.nil ?_
  replace H := (H.del 0)
  dsimp only [setL, delL] at H
  refine W.rg [(4, .bool true)] fun TA => ?_
  refine W.ret ?_
  refine endG (by rfl) (by exact resL_tmp rfl) ?_
  refine RW.nil ?_
  refine W.rg [(0, .func (.yield b22) #[] #[]), (1, pt b18), (2, pt b19), (3, pt b20), (9, .bool true)] fun TA => ?_
  refine W.c1 ?_
  refine W.skip ?_
  refine W.block ?_
  refine W.seq ?_
  refine W.region ?_
  refine RW.ld H 5 1 ?_
  refine RW.ld H 4 2 ?_
  refine RW.call (by kernel_rfl) (by kernel_rfl) rfl rfl rfl (by kernel_rfl) (by kernel_rfl) ⟨_, _, (c_car (G := G) (n := 52) (k := 50) (a := ((2, 45) : Wd)) (d := ((2, 49) : Wd)) H.abs (by decide) rfl), ?_⟩
  refine RW.v ?_
  refine RW.v ?_
  refine RW.v ?_
  refine RW.mk H (.row ⟨[.int .i64 0, .int .i64 0], 37, false⟩) ?_
  clear H; intro _ b36 _ H
  refine RW.st H 0 [.int .i64 2, .int .i64 45] [.int .i64 2, .int .i64 45] ?_
  clear H; intro _ _ H
  dsimp only [setL, delL] at H
  refine RW.v ?_
  refine RW.nil ?_
  refine W.rg [(0, .func (.yield b22) #[] #[]), (1, pt b18), (2, pt b19), (3, pt b20), (5, pt b36)] fun TA => ?_
  refine W.seq ?_
  refine W.seq ?_
  refine W.region ?_
  refine RW.v ?_
  refine RW.ld H 5 2 ?_
  refine RW.ld H 0 2 ?_
  refine RW.yieldL H 2 rfl hr34 (by kernel_rfl) (by kernel_rfl) rfl rfl rfl rfl rfl (by kernel_rfl) ?_
  refine W.rg [(4, pt b14), (5, pt b15), (6, pt b16), (7, pt b17), (16, .func (.func 87) #[] #[pt b18, pt b19, pt b20]), (17, .agg #[.int .i64 2, .int .i64 50]), (18, .agg #[.int .i64 2, .int .i64 45])] fun TA => ?_
  refine W.region ?_
  refine RW.mk H (.row ⟨[.int .i64 0, .int .i64 0], 37, false⟩) ?_
  clear H; intro _ b37 _ H
  refine RW.st H 0 [.int .i64 2, .int .i64 45] [.int .i64 2, .int .i64 45] ?_
  clear H; intro _ _ H
  dsimp only [setL, delL] at H
  refine RW.nil ?_
  refine ⟨rfl, _, _, _, 3, H, rfl, ?_⟩
  clear H; intro _ lq38 hq39 H
  dsimp only [setL, delL] at H
  refine W.rg [(4, pt b14), (5, pt b15), (6, pt b16), (7, pt b17), (9, pt b37), (16, .func (.func 87) #[] #[pt b18, pt b19, pt b20]), (18, .agg #[.int .i64 2, .int .i64 45])] fun TA => ?_
  refine W.block ?_
  refine W.seq ?_
  refine W.seq ?_
  refine W.region ?_
  refine RW.ld H 9 1 ?_
  refine RW.len (by kernel_rfl) (by kernel_rfl) rfl rfl rfl rfl ((H.sl 2 rfl).len (by kernel_rfl)) (by kernel_rfl) ?_
  refine RW.v ?_
  refine RW.nil ?_
  refine W.rg [(4, pt b14), (5, pt b15), (6, pt b16), (7, pt b17), (9, pt b37), (16, .func (.func 87) #[] #[pt b18, pt b19, pt b20]), (18, .agg #[.int .i64 2, .int .i64 45]), (21, .bool false)] fun TA => ?_
  refine W.c0 ?_
  refine W.skip ?_
  refine W.region ?_
  refine RW.ld H 9 1 ?_
  refine RW.ld H 0 2 ?_
  refine RW.mkL H (x := .row ⟨[.int .i64 2, .int .i64 45], 37, false⟩) (fm := fun b => .slice (some ⟨b, 0, none⟩) 1 1) (by kernel_rfl) (by kernel_rfl) (by kernel_rfl) (by kernel_rfl) ?_
  clear H; intro _ b40 _ H
  refine RW.appL H 3 0 (n := 1) (e2 := 37) (by kernel_rfl) (by kernel_rfl) rfl rfl rfl rfl rfl rfl rfl rfl (by kernel_rfl) (by kernel_rfl) (by kernel_rfl) (by decide) (by decide) rfl rfl (by omega) (by kernel_rfl) ?_
  clear H; intro _ v41 _ H
  dsimp only [setL, delL] at H
  refine RW.stL H 9 (vs := [v41]) (cs' := [v41]) (by kernel_rfl) (by kernel_rfl) rfl rfl rfl (H.sl 2 rfl).one (gr_all (H.sl 2 rfl)) (by kernel_rfl) (Nat.le_of_ble_eq_true rfl) rfl (by kernel_rfl) ?_
  clear H; intro _ _ H
  dsimp only [setL, delL] at H
  refine RW.nil ?_
  replace H := (H.del 0)
  dsimp only [setL, delL] at H
  refine blkQ_normal ?_
  refine ⟨_, _, _, 2, true, .ready, none, H, rfl, rfl, ?_⟩
  clear H; intro _ lr42 _ hr43 H
  dsimp only [setL, delL] at H
  refine RW.v ?_
  refine RW.nil ?_
  replace H := (H.del 0)
  dsimp only [setL, delL] at H
  refine W.rg [(0, .func (.yield b22) #[] #[]), (1, pt b18), (2, pt b19), (3, pt b20), (20, .bool false)] fun TA => ?_
  refine W.c0 ?_
  refine W.skip ?_
  refine W.region ?_
  refine RW.ld H 5 1 ?_
  refine RW.ld H 4 2 ?_
  refine RW.call (by kernel_rfl) (by kernel_rfl) rfl rfl rfl (by kernel_rfl) (by kernel_rfl) ⟨_, _, (c_cdr (G := G) (n := 52) (k := 50) (a := ((2, 45) : Wd)) (d := ((2, 49) : Wd)) H.abs (by decide) rfl), ?_⟩
  refine RW.v ?_
  refine RW.v ?_
  refine RW.v ?_
  refine RW.st H 4 [.int .i64 2, .int .i64 49] [.int .i64 2, .int .i64 49] ?_
  clear H; intro _ _ H
  dsimp only [setL, delL] at H
  refine RW.nil ?_
  refine blkQ_normal ?_
  refine WL.once ?_
  refine W.rg [(0, .func (.yield b22) #[] #[]), (1, pt b18), (2, pt b19), (3, pt b20)] fun TA => ?_
  refine W.seq ?_
  refine W.seq ?_
  refine W.region ?_
  refine RW.ld H 5 1 ?_
  refine RW.ld H 4 2 ?_
  refine RW.cl ?_
  refine WC.enter (fn := Tryz.f88) Tryz.func88 rfl ?_
  refine W.rg [(0, pt h), (1, .agg #[.int .i64 2, .int .i64 49])] fun TA => ?_
  refine W.seq ?_
  refine W.region ?_
  refine RW.mk H (.row ⟨[.int .i64 2, .int .i64 49], 37, false⟩) ?_
  clear H; intro _ b44 _ H
  refine RW.v ?_
  refine RW.nil ?_
  refine W.rg [(0, pt h), (3, pt b44)] fun TA => ?_
  refine W.seq ?_
  refine W.region ?_
  refine RW.v ?_
  refine RW.ld H 0 1 ?_
  refine RW.v ?_
  refine RW.v ?_
  refine RW.val (by rfl) (by kernel_rfl) rfl (by kernel_rfl) ?_
  refine RW.ldL H 0 2 (by rfl) (by kernel_rfl) rfl rfl rfl rfl rfl (by kernel_rfl) ?_
  refine RW.call (by rfl) (by kernel_rfl) rfl rfl rfl (by kernel_rfl) (by kernel_rfl) ⟨_, _, (c_live (G := G) (n := 52) (k := 49) (a := ((2, 46) : Wd)) (d := ((1, 0) : Wd)) H.abs (by decide) rfl), ?_⟩
  refine RW.v ?_
  refine RW.v ?_
  refine RW.nil ?_
  replace H := (H.del 0)
  dsimp only [setL, delL] at H
  refine W.rg [(4, .bool true)] fun TA => ?_
  refine W.ret ?_
  refine endG (by rfl) (by exact resL_tmp rfl) ?_
  refine RW.nil ?_
  refine W.rg [(0, .func (.yield b22) #[] #[]), (1, pt b18), (2, pt b19), (3, pt b20), (9, .bool true)] fun TA => ?_
  refine W.c1 ?_
  refine W.skip ?_
  refine W.block ?_
  refine W.seq ?_
  refine W.region ?_
  refine RW.ld H 5 1 ?_
  refine RW.ld H 4 2 ?_
  refine RW.call (by kernel_rfl) (by kernel_rfl) rfl rfl rfl (by kernel_rfl) (by kernel_rfl) ⟨_, _, (c_car (G := G) (n := 52) (k := 49) (a := ((2, 46) : Wd)) (d := ((1, 0) : Wd)) H.abs (by decide) rfl), ?_⟩
  refine RW.v ?_
  refine RW.v ?_
  refine RW.v ?_
  refine RW.mk H (.row ⟨[.int .i64 0, .int .i64 0], 37, false⟩) ?_
  clear H; intro _ b45 _ H
  refine RW.st H 0 [.int .i64 2, .int .i64 46] [.int .i64 2, .int .i64 46] ?_
  clear H; intro _ _ H
  dsimp only [setL, delL] at H
  refine RW.v ?_
  refine RW.nil ?_
  refine W.rg [(0, .func (.yield b22) #[] #[]), (1, pt b18), (2, pt b19), (3, pt b20), (5, pt b45)] fun TA => ?_
  refine W.seq ?_
  refine W.seq ?_
  refine W.region ?_
  refine RW.v ?_
  refine RW.ld H 5 2 ?_
  refine RW.ld H 0 2 ?_
  refine RW.yieldL H 2 rfl hr43 (by kernel_rfl) (by kernel_rfl) rfl rfl rfl rfl rfl (by kernel_rfl) ?_
  refine W.rg [(4, pt b14), (5, pt b15), (6, pt b16), (7, pt b17), (16, .func (.func 87) #[] #[pt b18, pt b19, pt b20]), (17, .agg #[.int .i64 2, .int .i64 49]), (18, .agg #[.int .i64 2, .int .i64 46])] fun TA => ?_
  refine W.region ?_
  refine RW.mk H (.row ⟨[.int .i64 0, .int .i64 0], 37, false⟩) ?_
  clear H; intro _ b46 _ H
  refine RW.st H 0 [.int .i64 2, .int .i64 46] [.int .i64 2, .int .i64 46] ?_
  clear H; intro _ _ H
  dsimp only [setL, delL] at H
  refine RW.nil ?_
  refine ⟨rfl, _, _, _, 3, H, rfl, ?_⟩
  clear H; intro _ lq47 hq48 H
  dsimp only [setL, delL] at H
  refine W.rg [(4, pt b14), (5, pt b15), (6, pt b16), (7, pt b17), (9, pt b46), (16, .func (.func 87) #[] #[pt b18, pt b19, pt b20]), (18, .agg #[.int .i64 2, .int .i64 46])] fun TA => ?_
  refine W.block ?_
  refine W.seq ?_
  refine W.seq ?_
  refine W.region ?_
  refine RW.ld H 9 1 ?_
  refine RW.len (by kernel_rfl) (by kernel_rfl) rfl rfl rfl rfl ((H.sl 2 rfl).len (by kernel_rfl)) (by kernel_rfl) ?_
  refine RW.v ?_
  refine RW.nil ?_
  refine W.rg [(4, pt b14), (5, pt b15), (6, pt b16), (7, pt b17), (9, pt b46), (16, .func (.func 87) #[] #[pt b18, pt b19, pt b20]), (18, .agg #[.int .i64 2, .int .i64 46]), (21, .bool false)] fun TA => ?_
  refine W.c0 ?_
  refine W.skip ?_
  refine W.region ?_
  refine RW.ld H 9 1 ?_
  refine RW.ld H 0 2 ?_
  refine RW.mkL H (x := .row ⟨[.int .i64 2, .int .i64 46], 37, false⟩) (fm := fun b => .slice (some ⟨b, 0, none⟩) 1 1) (by kernel_rfl) (by kernel_rfl) (by kernel_rfl) (by kernel_rfl) ?_
  clear H; intro _ b49 _ H
  refine RW.appL H 3 0 (n := 1) (e2 := 37) (by kernel_rfl) (by kernel_rfl) rfl rfl rfl rfl rfl rfl rfl rfl (by kernel_rfl) (by kernel_rfl) (by kernel_rfl) (by decide) (by decide) rfl rfl (by omega) (by kernel_rfl) ?_
  clear H; intro _ v50 _ H
  dsimp only [setL, delL] at H
  refine RW.stL H 9 (vs := [v50]) (cs' := [v50]) (by kernel_rfl) (by kernel_rfl) rfl rfl rfl (H.sl 2 rfl).one (gr_all (H.sl 2 rfl)) (by kernel_rfl) (Nat.le_of_ble_eq_true rfl) rfl (by kernel_rfl) ?_
  clear H; intro _ _ H
  dsimp only [setL, delL] at H
  refine RW.nil ?_
  replace H := (H.del 0)
  dsimp only [setL, delL] at H
  refine blkQ_normal ?_
  refine ⟨_, _, _, 2, true, .ready, none, H, rfl, rfl, ?_⟩
  clear H; intro _ lr51 _ hr52 H
  dsimp only [setL, delL] at H
  refine RW.v ?_
  refine RW.nil ?_
  replace H := (H.del 0)
  dsimp only [setL, delL] at H
  refine W.rg [(0, .func (.yield b22) #[] #[]), (1, pt b18), (2, pt b19), (3, pt b20), (20, .bool false)] fun TA => ?_
  refine W.c0 ?_
  refine W.skip ?_
  refine W.region ?_
  refine RW.ld H 5 1 ?_
  refine RW.ld H 4 2 ?_
  refine RW.call (by kernel_rfl) (by kernel_rfl) rfl rfl rfl (by kernel_rfl) (by kernel_rfl) ⟨_, _, (c_cdr (G := G) (n := 52) (k := 49) (a := ((2, 46) : Wd)) (d := ((1, 0) : Wd)) H.abs (by decide) rfl), ?_⟩
  refine RW.v ?_
  refine RW.v ?_
  refine RW.v ?_
  refine RW.st H 4 [.int .i64 1, .int .i64 0] [.int .i64 1, .int .i64 0] ?_
  clear H; intro _ _ H
  dsimp only [setL, delL] at H
  refine RW.nil ?_
  refine blkQ_normal ?_
  refine WL.once ?_
  refine W.rg [(0, .func (.yield b22) #[] #[]), (1, pt b18), (2, pt b19), (3, pt b20)] fun TA => ?_
  refine W.seq ?_
  refine W.seq ?_
  refine W.region ?_
  refine RW.ld H 5 1 ?_
  refine RW.ld H 4 2 ?_
  refine RW.cl ?_
  refine WC.enter (fn := Tryz.f88) Tryz.func88 rfl ?_
  refine W.rg [(0, pt h), (1, .agg #[.int .i64 1, .int .i64 0])] fun TA => ?_
  refine W.seq ?_
  refine W.region ?_
  refine RW.mk H (.row ⟨[.int .i64 1, .int .i64 0], 37, false⟩) ?_
  clear H; intro _ b53 _ H
  refine RW.v ?_
  refine RW.nil ?_
  refine W.rg [(0, pt h), (3, pt b53)] fun TA => ?_
  refine W.seq ?_
  refine W.region ?_
  refine RW.v ?_
  refine RW.ld H 0 1 ?_
  refine RW.v ?_
  refine RW.v ?_
  refine RW.skip (by rfl) (by kernel_rfl) ?_
  refine RW.skip (by rfl) (by kernel_rfl) ?_
  refine RW.skip (by rfl) (by kernel_rfl) ?_
  refine RW.v ?_
  refine RW.v ?_
  refine RW.nil ?_
  replace H := (H.del 0)
  dsimp only [setL, delL] at H
  refine W.rg [(4, .bool false)] fun TA => ?_
  refine W.ret ?_
  refine endG (by rfl) (by exact resL_tmp rfl) ?_
  refine RW.nil ?_
  refine W.rg [(0, .func (.yield b22) #[] #[]), (1, pt b18), (2, pt b19), (3, pt b20), (9, .bool false)] fun TA => ?_
  refine W.c0 ?_
  refine W.exit _ ?_
  refine seqQ_exit ?_
  refine onceQ_exit ?_
  refine blkQ_here ?_
  refine W.region ?_
  refine RW.ld H 3 1 ?_
  refine RW.ld H 4 2 ?_
  refine RW.v ?_
  refine RW.st H 6 [.int .i64 1, .int .i64 0] [.int .i64 1, .int .i64 0] ?_
  clear H; intro _ _ H
  dsimp only [setL, delL] at H
  refine RW.nil ?_
  refine endG (by rfl) (by exact rfl) ?_
  refine ⟨_, _, _, 1, _, _, _, _, H, rfl, hr52, rfl, rfl, ?_⟩
  clear H; intro _ H
  dsimp only [setL, delL] at H
  refine blkQ_normal ?_
  refine W.rg [(4, pt b14), (5, pt b15), (6, pt b16), (7, pt b17), (16, .func (.func 87) #[] #[pt b18, pt b19, pt b20])] fun TA => ?_
  refine W.seq ?_
  refine W.seq ?_
  refine W.region ?_
  refine RW.ld H 5 2 ?_
  refine RW.cl ?_
  refine WC.enter (fn := Tryz.f57) Tryz.func57 rfl ?_
  refine W.rg [(0, .agg #[.int .i64 1, .int .i64 0])] fun TA => ?_
  refine W.seq ?_
  refine W.region ?_
  refine RW.mk H (.row ⟨[.int .i64 1, .int .i64 0], 37, false⟩) ?_
  clear H; intro _ b54 _ H
  refine RW.v ?_
  refine RW.nil ?_
  refine W.rg [(1, pt b54)] fun TA => ?_
  refine W.seq ?_
  refine W.drawn (by kernel_rfl) (by kernel_rfl) H.gn ?_
  have H55 := H
  refine RW.ld H55 0 2 ?_
  refine RW.cl ?_
  refine WC.enter (fn := Tryz.f54) Tryz.func54 rfl ?_
  replace H := H55
  refine W.rg [] fun TA => ?_
  refine W.seq ?_
  refine W.region ?_
  refine RW.mk H (.row ⟨[.int .i64 0, .int .i64 0], 37, false⟩) ?_
  clear H; intro _ b56 _ H
  refine RW.nil ?_
  refine W.rg [(0, pt b56)] fun TA => ?_
  refine W.seq ?_
  refine W.region ?_
  refine RW.val (v := .agg #[.int .i64 1, .int .i64 0]) (by kernel_rfl) (by kernel_rfl) (by kernel_rfl) (by kernel_rfl) ?_
  refine RW.st H 0 [.int .i64 1, .int .i64 0] [.int .i64 1, .int .i64 0] ?_
  clear H; intro _ _ H
  dsimp only [setL, delL] at H
  refine RW.nil ?_
  refine W.rg [(0, pt b56)] fun TA => ?_
  refine W.ret ?_
  refine endG (by rfl) (by exact resL_cell rfl (H.get 0 rfl) (by rw [uT_eq]; exact Tryz.underlying37) (by kernel_rfl) rfl rfl rfl) ?_
  have H57 := H
  refine RW.vop (v := .bool true) (by kernel_rfl) (by kernel_rfl) (vop_eqS (b := true) (r := true) rfl (.inl ⟨rfl, rfl⟩) rfl rfl rfl rfl (by kernel_rfl) (fun w => (eqWd _ _ _ _ w).trans (by simp))) (by kernel_rfl) ?_
  refine RW.v ?_
  refine RW.nil ?_
  refine ⟨⟨by kernel_rfl, ⟨dyn_row (H55.get 0 rfl) (H57.get 1 rfl) ⟨fun h => Bool.noConfusion h, fun _ => H55.get 0 rfl, fun h => Bool.noConfusion h, fun h => Bool.noConfusion h, trivial⟩, trivial, trivial, trivial, trivial⟩⟩, ?_⟩
  replace H := H57
  clear H55 H57
  replace H := ((H.del 1).del 0)
  dsimp only [setL, delL] at H
  refine W.rg [(2, .bool true)] fun TA => ?_
  refine W.ret ?_
  refine endG (by rfl) (by exact resL_tmp rfl) ?_
  refine RW.v ?_
  refine RW.nil ?_
  replace H := ((((H.del 5).del 4).del 3).del 2)
  dsimp only [setL, delL] at H
  refine W.rg [(4, pt b14), (5, pt b15), (6, pt b16), (28, .bool false)] fun TA => ?_
  refine W.c0 ?_
  refine W.skip ?_
  refine W.seq ?_
  refine W.region ?_
  refine RW.ld H 2 1 ?_
  refine RW.stL H 4 (vs := [v50]) (cs' := [v50]) (by kernel_rfl) (by kernel_rfl) rfl rfl rfl (H.sl 0 rfl).one (gr_all (H.sl 0 rfl)) (by kernel_rfl) (Nat.le_of_ble_eq_true rfl) rfl (by kernel_rfl) ?_
  clear H; intro _ _ H
  dsimp only [setL, delL] at H
  refine RW.st H 3 [.int .i64 0] [.int .i64 0] ?_
  clear H; intro _ _ H
  dsimp only [setL, delL] at H
  refine RW.nil ?_
  replace H := (H.del 2)
  dsimp only [setL, delL] at H
  refine W.rg [(4, pt b14), (5, pt b15)] fun TA => ?_
  refine W.ret ?_
  refine endMark H 1 rfl fun _ H => ?_
  dsimp only [setL, delL] at H
  refine endGD0 (by rfl) (by exact resL_cell rfl (H.get 2 rfl) (by rw [uT_eq]; exact Tryz.underlying29) (by kernel_rfl) rfl rfl (by exact resL_cell rfl (H.get 1 rfl) (by rw [uT_eq]; exact Tryz.underlying24) (by kernel_rfl) rfl rfl rfl)) ?_
  refine RW.v ?_
  refine RW.v ?_
  refine RW.v ?_
  refine RW.v ?_
  refine RW.v ?_
  refine RW.nil ?_
  replace H := (((H.del 2).del 1).del 0)
  dsimp only [setL, delL] at H
  refine W.rg [(4, pt b7), (5, pt b8), (6, pt b9), (7, pt b10), (8, pt b11), (9, pt b12), (11, .int .i64 0)] fun TA => ?_
  refine W.seq ?_
  refine W.region ?_
  refine RW.v ?_
  refine RW.v ?_
  refine RW.nil ?_
  refine W.rg [(4, pt b7), (5, pt b8), (6, pt b9), (7, pt b10), (8, pt b11), (9, pt b12), (11, .int .i64 0), (28, .bool false)] fun TA => ?_
  refine W.c0 ?_
  refine W.skip ?_
  refine W.seq ?_
  refine W.region ?_
  refine RW.mk H (.row ⟨[.slice none 0 0], 29, false⟩) ?_
  clear H; intro _ b58 _ H
  refine RW.nil ?_
  refine W.rg [(4, pt b7), (5, pt b8), (6, pt b9), (7, pt b10), (8, pt b11), (9, pt b12), (12, pt b58)] fun TA => ?_
  refine W.seq ?_
  refine W.region ?_
  refine RW.ld H 4 2 ?_
  refine RW.mk H (.row ⟨[.int .i64 0, .int .i64 0], 37, false⟩) ?_
  clear H; intro _ b59 _ H
  refine RW.st H 0 [.int .i64 2, .int .i64 51] [.int .i64 2, .int .i64 51] ?_
  clear H; intro _ _ H
  dsimp only [setL, delL] at H
  refine RW.nil ?_
  refine W.rg [(4, pt b7), (5, pt b8), (6, pt b9), (7, pt b10), (8, pt b11), (9, pt b12), (12, pt b58), (13, pt b59)] fun TA => ?_
  refine W.seq ?_
  refine W.seq ?_
  refine W.region ?_
  refine RW.ld H 7 1 ?_
  refine RW.ld H 5 2 ?_
  refine RW.cl ?_
  refine WC.enter (fn := Tryz.f56) Tryz.func56 rfl ?_
  refine W.rg [(0, pt h), (1, .agg #[.int .i64 2, .int .i64 51]), (2, pt b59)] fun TA => ?_
  refine W.seq ?_
  refine W.region ?_
  refine RW.mk H (.row ⟨[pt h], 23, false⟩) ?_
  clear H; intro _ b60 _ H
  refine RW.mk H (.row ⟨[.int .i64 2, .int .i64 51], 37, false⟩) ?_
  clear H; intro _ b61 _ H
  refine RW.mk H (.row ⟨[pt b59], 94, false⟩) ?_
  clear H; intro _ b62 _ H
  refine RW.v ?_
  refine RW.nil ?_
  refine W.rg [(3, pt b60), (4, pt b61), (5, pt b62)] fun TA => ?_
  refine W.seq ?_
  refine W.region ?_
  refine RW.val (v := .func (.func 87) #[] #[.pointer (some ⟨b60, 0, none⟩), .pointer (some ⟨b61, 0, none⟩), .pointer (some ⟨b62, 0, none⟩)]) (by kernel_rfl) (by kernel_rfl) (by kernel_rfl) (by kernel_rfl) ?_
  refine RW.v ?_
  refine RW.nil ?_
  refine W.rg [(6, .func (.func 87) #[] #[pt b60, pt b61, pt b62])] fun TA => ?_
  refine W.ret ?_
  refine endG (by rfl) (by exact resL_tmp rfl) ?_
  refine RW.nil ?_
  replace H := (H.del 8)
  dsimp only [setL, delL] at H
  refine W.rg [(4, pt b7), (5, pt b8), (7, pt b10), (8, pt b11), (9, pt b12), (12, pt b58), (34, .func (.func 87) #[] #[pt b60, pt b61, pt b62])] fun TA => ?_
  refine W.block ?_
  refine W.rst [(4, .pointer (some ⟨b7, 0, none⟩)), (5, .pointer (some ⟨b8, 0, none⟩)), (7, .pointer (some ⟨b10, 0, none⟩)), (8, .pointer (some ⟨b11, 0, none⟩)), (9, .pointer (some ⟨b12, 0, none⟩)), (12, .pointer (some ⟨b58, 0, none⟩)), (34, .func (.func 87) #[] #[.pointer (some ⟨b60, 0, none⟩), .pointer (some ⟨b61, 0, none⟩), .pointer (some ⟨b62, 0, none⟩)])] ⟨rfl, rfl, rfl, rfl, rfl, rfl, rfl, trivial⟩ fun TL67 => ?_
  refine W.rangeL H rfl (fun _ h => nomatch h) (fun _ h => nomatch h) (by kernel_rfl) fun _ d63 b64 lp65 hl66 H => ?_
  refine WC.enter (fn := Tryz.f87) Tryz.func87 rfl ?_
  refine W.rg [(0, .func (.yield b64) #[] #[]), (1, pt b60), (2, pt b61), (3, pt b62)] fun TA => ?_
  refine W.seq ?_
  refine W.block ?_
  refine W.unroll (WL.once ?_)
  refine W.seq ?_
  refine W.seq ?_
  refine W.region ?_
  refine RW.ld H 4 1 ?_
  refine RW.ld H 3 2 ?_
  refine RW.cl ?_
  refine WC.enter (fn := Tryz.f88) Tryz.func88 rfl ?_
  refine W.rg [(0, pt h), (1, .agg #[.int .i64 2, .int .i64 51])] fun TA => ?_
  refine W.seq ?_
  refine W.region ?_
  refine RW.mk H (.row ⟨[.int .i64 2, .int .i64 51], 37, false⟩) ?_
  clear H; intro _ b68 _ H
  refine RW.v ?_
  refine RW.nil ?_
  refine W.rg [(0, pt h), (3, pt b68)] fun TA => ?_
  refine W.seq ?_
  refine W.region ?_
  refine RW.v ?_
  refine RW.ld H 0 1 ?_
  refine RW.v ?_
  refine RW.v ?_
  refine RW.val (by rfl) (by kernel_rfl) rfl (by kernel_rfl) ?_
  refine RW.ldL H 0 2 (by rfl) (by kernel_rfl) rfl rfl rfl rfl rfl (by kernel_rfl) ?_
  refine RW.call (by rfl) (by kernel_rfl) rfl rfl rfl (by kernel_rfl) (by kernel_rfl) ⟨_, _, (c_live (G := G) (n := 52) (k := 51) (a := ((2, 45) : Wd)) (d := ((2, 50) : Wd)) H.abs (by decide) rfl), ?_⟩
  refine RW.v ?_
  refine RW.v ?_
  refine RW.nil ?_
  replace H := (H.del 0)
  dsimp only [setL, delL] at H
  refine W.rg [(4, .bool true)] fun TA => ?_
  refine W.ret ?_
  refine endG (by rfl) (by exact resL_tmp rfl) ?_
  refine RW.nil ?_
  refine W.rg [(0, .func (.yield b64) #[] #[]), (1, pt b60), (2, pt b61), (3, pt b62), (9, .bool true)] fun TA => ?_
  refine W.c1 ?_
  refine W.skip ?_
  refine W.block ?_
  refine W.seq ?_
  refine W.region ?_
  refine RW.ld H 4 1 ?_
  refine RW.ld H 3 2 ?_
  refine RW.call (by kernel_rfl) (by kernel_rfl) rfl rfl rfl (by kernel_rfl) (by kernel_rfl) ⟨_, _, (c_car (G := G) (n := 52) (k := 51) (a := ((2, 45) : Wd)) (d := ((2, 50) : Wd)) H.abs (by decide) rfl), ?_⟩
  refine RW.v ?_
  refine RW.v ?_
  refine RW.v ?_
  refine RW.mk H (.row ⟨[.int .i64 0, .int .i64 0], 37, false⟩) ?_
  clear H; intro _ b69 _ H
  refine RW.st H 0 [.int .i64 2, .int .i64 45] [.int .i64 2, .int .i64 45] ?_
  clear H; intro _ _ H
  dsimp only [setL, delL] at H
  refine RW.v ?_
  refine RW.nil ?_
  refine W.rg [(0, .func (.yield b64) #[] #[]), (1, pt b60), (2, pt b61), (3, pt b62), (5, pt b69)] fun TA => ?_
  refine W.seq ?_
  refine W.seq ?_
  refine W.region ?_
  refine RW.v ?_
  refine RW.ld H 4 2 ?_
  refine RW.ld H 0 2 ?_
  refine RW.yieldL H 1 rfl hl66 (by kernel_rfl) (by kernel_rfl) rfl rfl rfl rfl rfl (by kernel_rfl) ?_
  refine W.rg [(4, pt b7), (5, pt b8), (7, pt b10), (8, pt b11), (9, pt b12), (12, pt b58), (34, .func (.func 87) #[] #[pt b60, pt b61, pt b62]), (35, .agg #[.int .i64 2, .int .i64 51]), (36, .agg #[.int .i64 2, .int .i64 45])] fun TA => ?_
  refine W.seq ?_
  refine W.region ?_
  refine RW.mk H (.row ⟨[.int .i64 0, .int .i64 0], 37, false⟩) ?_
  clear H; intro _ b70 _ H
  refine RW.st H 0 [.int .i64 2, .int .i64 51] [.int .i64 2, .int .i64 51] ?_
  clear H; intro _ _ H
  dsimp only [setL, delL] at H
  refine RW.nil ?_
  refine W.rg [(4, pt b7), (5, pt b8), (7, pt b10), (8, pt b11), (9, pt b12), (12, pt b58), (14, pt b70), (34, .func (.func 87) #[] #[pt b60, pt b61, pt b62]), (35, .agg #[.int .i64 2, .int .i64 51]), (36, .agg #[.int .i64 2, .int .i64 45])] fun TA => ?_
  refine W.region ?_
  refine RW.mk H (.row ⟨[.int .i64 0, .int .i64 0], 37, false⟩) ?_
  clear H; intro _ b71 _ H
  refine RW.st H 0 [.int .i64 2, .int .i64 45] [.int .i64 2, .int .i64 45] ?_
  clear H; intro _ _ H
  dsimp only [setL, delL] at H
  refine RW.nil ?_
  refine ⟨rfl, _, _, _, 3, H, rfl, ?_⟩
  clear H; intro _ lq72 hq73 H
  dsimp only [setL, delL] at H
  refine W.rg [(4, pt b7), (5, pt b8), (7, pt b10), (8, pt b11), (9, pt b12), (12, pt b58), (14, pt b70), (15, pt b71), (34, .func (.func 87) #[] #[pt b60, pt b61, pt b62]), (35, .agg #[.int .i64 2, .int .i64 51]), (36, .agg #[.int .i64 2, .int .i64 45])] fun TA => ?_
  refine W.block ?_
  refine W.seq ?_
  refine W.region ?_
  refine RW.ld H 12 1 ?_
  refine RW.ld H 14 1 ?_
  refine RW.ld H 13 2 ?_
  refine RW.ld H 0 2 ?_
  refine RW.cl ?_
  refine WC.enter (fn := Tryz.f81) Tryz.func81 rfl ?_
  refine W.rg [(0, pt h), (1, .agg #[.int .i64 2, .int .i64 46]), (2, .agg #[.int .i64 2, .int .i64 45]), (3, pt b5)] fun TA => ?_
  refine W.seq ?_
  refine W.region ?_
  refine RW.mk H (.row ⟨[.int .i64 2, .int .i64 46], 37, false⟩) ?_
  clear H; intro _ b74 _ H
  refine RW.mk H (.row ⟨[.int .i64 2, .int .i64 45], 37, false⟩) ?_
  clear H; intro _ b75 _ H
  refine RW.v ?_
  refine RW.v ?_
  refine RW.nil ?_
  refine W.rg [(0, pt h), (3, pt b5), (5, pt b74), (6, pt b75)] fun TA => ?_
  refine W.seq ?_
  refine W.region ?_
  refine RW.v ?_
  refine RW.ld H 1 2 ?_
  refine RW.ld H 0 2 ?_
  refine RW.call (by kernel_rfl) (by kernel_rfl) rfl rfl rfl (by kernel_rfl) (by kernel_rfl) ((equal_ok (G := G) (h := h) (r := false) (d := 16) (n := 200000) (n' := 68929) (k := 17) (Lp := b5) (a := ((2, 46) : Wd)) (b := ((2, 45) : Wd)) H rfl (T_ac (n := 52) (by decide) 16 (by decide)) (by decide) (by decide) (by rw [cost16]) (by decide)).mono ?_)
  clear H
  rintro _ _ ⟨rfl, H⟩
  dsimp only [setL, delL] at H
  refine RW.v ?_
  refine RW.v ?_
  refine RW.v ?_
  refine RW.v ?_
  refine RW.nil ?_
  replace H := ((H.del 1).del 0)
  dsimp only [setL, delL] at H
  refine W.rg [(7, .bool false), (8, .int .i64 0)] fun TA => ?_
  refine W.ret ?_
  refine endG (by rfl) (by exact resL_tmp (by exact resL_tmp rfl)) ?_
  refine RW.v ?_
  refine RW.v ?_
  refine RW.v ?_
  refine RW.v ?_
  refine RW.v ?_
  refine RW.nil ?_
  replace H := (H.del 0)
  dsimp only [setL, delL] at H
  refine W.rg [(4, pt b7), (5, pt b8), (7, pt b10), (8, pt b11), (9, pt b12), (12, pt b58), (14, pt b70), (16, .bool false), (17, .int .i64 0), (34, .func (.func 87) #[] #[pt b60, pt b61, pt b62]), (35, .agg #[.int .i64 2, .int .i64 51]), (36, .agg #[.int .i64 2, .int .i64 45])] fun TA => ?_
  refine W.seq ?_
  refine W.seq ?_
  refine W.region ?_
  refine RW.v ?_
  refine RW.v ?_
  refine RW.nil ?_
  refine W.rg [(4, pt b7), (5, pt b8), (7, pt b10), (8, pt b11), (9, pt b12), (12, pt b58), (14, pt b70), (16, .bool false), (17, .int .i64 0), (34, .func (.func 87) #[] #[pt b60, pt b61, pt b62]), (35, .agg #[.int .i64 2, .int .i64 51]), (36, .agg #[.int .i64 2, .int .i64 45]), (46, .bool false)] fun TA => ?_
  refine W.c0 ?_
  refine W.skip ?_
  refine W.seq ?_
  refine W.region ?_
  refine RW.v ?_
  refine RW.v ?_
  refine RW.nil ?_
  refine W.rg [(4, pt b7), (5, pt b8), (7, pt b10), (8, pt b11), (9, pt b12), (12, pt b58), (14, pt b70), (34, .func (.func 87) #[] #[pt b60, pt b61, pt b62]), (35, .agg #[.int .i64 2, .int .i64 51]), (36, .agg #[.int .i64 2, .int .i64 45]), (50, .bool true)] fun TA => ?_
  refine W.c1 ?_
  refine W.region ?_
  refine RW.ld H 8 1 ?_
  refine RW.ld H 0 2 ?_
  refine RW.mkL H (x := .row ⟨[.int .i64 2, .int .i64 51], 37, false⟩) (fm := fun b => .slice (some ⟨b, 0, none⟩) 1 1) (by kernel_rfl) (by kernel_rfl) (by kernel_rfl) (by kernel_rfl) ?_
  clear H; intro _ b76 _ H
  replace H := H.nilSl 37 2
  refine RW.appL H 0 1 (n := 1) (e2 := 37) (by kernel_rfl) (by kernel_rfl) rfl rfl rfl rfl rfl rfl rfl rfl (by kernel_rfl) (by kernel_rfl) (by kernel_rfl) (by decide) (by decide) rfl rfl (by omega) (by kernel_rfl) ?_
  clear H; intro _ v77 _ H
  dsimp only [setL, delL] at H
  refine RW.stL H 9 (vs := [v77]) (cs' := [v77]) (by kernel_rfl) (by kernel_rfl) rfl rfl rfl (H.sl 0 rfl).one (gr_all (H.sl 0 rfl)) (by kernel_rfl) (Nat.le_of_ble_eq_true rfl) rfl (by kernel_rfl) ?_
  clear H; intro _ _ H
  dsimp only [setL, delL] at H
  refine RW.nil ?_
  replace H := (H.del 1)
  dsimp only [setL, delL] at H
  refine blkQ_normal ?_
  refine ⟨_, _, _, 2, true, .ready, none, H, rfl, rfl, ?_⟩
  clear H; intro _ lr78 _ hr79 H
  dsimp only [setL, delL] at H
  refine RW.v ?_
  refine RW.nil ?_
  replace H := (H.del 1)
  dsimp only [setL, delL] at H
  refine W.rg [(0, .func (.yield b64) #[] #[]), (1, pt b60), (2, pt b61), (3, pt b62), (20, .bool false)] fun TA => ?_
  refine W.c0 ?_
  refine W.skip ?_
  refine W.region ?_
  refine RW.ld H 5 1 ?_
  refine RW.ld H 4 2 ?_
  refine RW.call (by kernel_rfl) (by kernel_rfl) rfl rfl rfl (by kernel_rfl) (by kernel_rfl) ⟨_, _, (c_cdr (G := G) (n := 52) (k := 51) (a := ((2, 45) : Wd)) (d := ((2, 50) : Wd)) H.abs (by decide) rfl), ?_⟩
  refine RW.v ?_
  refine RW.v ?_
  refine RW.v ?_
  refine RW.st H 4 [.int .i64 2, .int .i64 50] [.int .i64 2, .int .i64 50] ?_
  clear H; intro _ _ H
  dsimp only [setL, delL] at H
  refine RW.nil ?_
  refine blkQ_normal ?_
  refine WL.once ?_
  refine W.rg [(0, .func (.yield b64) #[] #[]), (1, pt b60), (2, pt b61), (3, pt b62)] fun TA => ?_
  refine W.seq ?_
  refine W.seq ?_
  refine W.region ?_
  refine RW.ld H 5 1 ?_
  refine RW.ld H 4 2 ?_
  refine RW.cl ?_
  refine WC.enter (fn := Tryz.f88) Tryz.func88 rfl ?_
  refine W.rg [(0, pt h), (1, .agg #[.int .i64 2, .int .i64 50])] fun TA => ?_
  refine W.seq ?_
  refine W.region ?_
  refine RW.mk H (.row ⟨[.int .i64 2, .int .i64 50], 37, false⟩) ?_
  clear H; intro _ b80 _ H
  refine RW.v ?_
  refine RW.nil ?_
  refine W.rg [(0, pt h), (3, pt b80)] fun TA => ?_
  refine W.seq ?_
  refine W.region ?_
  refine RW.v ?_
  refine RW.ld H 0 1 ?_
  refine RW.v ?_
  refine RW.v ?_
  refine RW.val (by rfl) (by kernel_rfl) rfl (by kernel_rfl) ?_
  refine RW.ldL H 0 2 (by rfl) (by kernel_rfl) rfl rfl rfl rfl rfl (by kernel_rfl) ?_
  refine RW.call (by rfl) (by kernel_rfl) rfl rfl rfl (by kernel_rfl) (by kernel_rfl) ⟨_, _, (c_live (G := G) (n := 52) (k := 50) (a := ((2, 45) : Wd)) (d := ((2, 49) : Wd)) H.abs (by decide) rfl), ?_⟩
  refine RW.v ?_
  refine RW.v ?_
  refine RW.nil ?_
  replace H := (H.del 0)
  dsimp only [setL, delL] at H
  refine W.rg [(4, .bool true)] fun TA => ?_
  refine W.ret ?_
  refine endG (by rfl) (by exact resL_tmp rfl) ?_
  refine RW.nil ?_
  refine W.rg [(0, .func (.yield b64) #[] #[]), (1, pt b60), (2, pt b61), (3, pt b62), (9, .bool true)] fun TA => ?_
  refine W.c1 ?_
  refine W.skip ?_
  refine W.block ?_
  refine W.seq ?_
  refine W.region ?_
  refine RW.ld H 5 1 ?_
  refine RW.ld H 4 2 ?_
  refine RW.call (by kernel_rfl) (by kernel_rfl) rfl rfl rfl (by kernel_rfl) (by kernel_rfl) ⟨_, _, (c_car (G := G) (n := 52) (k := 50) (a := ((2, 45) : Wd)) (d := ((2, 49) : Wd)) H.abs (by decide) rfl), ?_⟩
  refine RW.v ?_
  refine RW.v ?_
  refine RW.v ?_
  refine RW.mk H (.row ⟨[.int .i64 0, .int .i64 0], 37, false⟩) ?_
  clear H; intro _ b81 _ H
  refine RW.st H 0 [.int .i64 2, .int .i64 45] [.int .i64 2, .int .i64 45] ?_
  clear H; intro _ _ H
  dsimp only [setL, delL] at H
  refine RW.v ?_
  refine RW.nil ?_
  refine W.rg [(0, .func (.yield b64) #[] #[]), (1, pt b60), (2, pt b61), (3, pt b62), (5, pt b81)] fun TA => ?_
  refine W.seq ?_
  refine W.seq ?_
  refine W.region ?_
  refine RW.v ?_
  refine RW.ld H 5 2 ?_
  refine RW.ld H 0 2 ?_
  refine RW.yieldL H 2 rfl hr79 (by kernel_rfl) (by kernel_rfl) rfl rfl rfl rfl rfl (by kernel_rfl) ?_
  refine W.rg [(4, pt b7), (5, pt b8), (7, pt b10), (8, pt b11), (9, pt b12), (12, pt b58), (34, .func (.func 87) #[] #[pt b60, pt b61, pt b62]), (35, .agg #[.int .i64 2, .int .i64 50]), (36, .agg #[.int .i64 2, .int .i64 45])] fun TA => ?_
  refine W.seq ?_
  refine W.region ?_
  refine RW.mk H (.row ⟨[.int .i64 0, .int .i64 0], 37, false⟩) ?_
  clear H; intro _ b82 _ H
  refine RW.st H 0 [.int .i64 2, .int .i64 50] [.int .i64 2, .int .i64 50] ?_
  clear H; intro _ _ H
  dsimp only [setL, delL] at H
  refine RW.nil ?_
  refine W.rg [(4, pt b7), (5, pt b8), (7, pt b10), (8, pt b11), (9, pt b12), (12, pt b58), (14, pt b82), (34, .func (.func 87) #[] #[pt b60, pt b61, pt b62]), (35, .agg #[.int .i64 2, .int .i64 50]), (36, .agg #[.int .i64 2, .int .i64 45])] fun TA => ?_
  refine W.region ?_
  refine RW.mk H (.row ⟨[.int .i64 0, .int .i64 0], 37, false⟩) ?_
  clear H; intro _ b83 _ H
  refine RW.st H 0 [.int .i64 2, .int .i64 45] [.int .i64 2, .int .i64 45] ?_
  clear H; intro _ _ H
  dsimp only [setL, delL] at H
  refine RW.nil ?_
  refine ⟨rfl, _, _, _, 4, H, rfl, ?_⟩
  clear H; intro _ lq84 hq85 H
  dsimp only [setL, delL] at H
  refine W.rg [(4, pt b7), (5, pt b8), (7, pt b10), (8, pt b11), (9, pt b12), (12, pt b58), (14, pt b82), (15, pt b83), (34, .func (.func 87) #[] #[pt b60, pt b61, pt b62]), (35, .agg #[.int .i64 2, .int .i64 50]), (36, .agg #[.int .i64 2, .int .i64 45])] fun TA => ?_
  refine W.block ?_
  refine W.seq ?_
  refine W.region ?_
  refine RW.ld H 13 1 ?_
  refine RW.ld H 15 1 ?_
  refine RW.ld H 14 2 ?_
  refine RW.ld H 0 2 ?_
  refine RW.cl ?_
  refine WC.enter (fn := Tryz.f81) Tryz.func81 rfl ?_
  refine W.rg [(0, pt h), (1, .agg #[.int .i64 2, .int .i64 46]), (2, .agg #[.int .i64 2, .int .i64 45]), (3, pt b5)] fun TA => ?_
  refine W.seq ?_
  refine W.region ?_
  refine RW.mk H (.row ⟨[.int .i64 2, .int .i64 46], 37, false⟩) ?_
  clear H; intro _ b86 _ H
  refine RW.mk H (.row ⟨[.int .i64 2, .int .i64 45], 37, false⟩) ?_
  clear H; intro _ b87 _ H
  refine RW.v ?_
  refine RW.v ?_
  refine RW.nil ?_
  refine W.rg [(0, pt h), (3, pt b5), (5, pt b86), (6, pt b87)] fun TA => ?_
  refine W.seq ?_
  refine W.region ?_
  refine RW.v ?_
  refine RW.ld H 1 2 ?_
  refine RW.ld H 0 2 ?_
  refine RW.call (by kernel_rfl) (by kernel_rfl) rfl rfl rfl (by kernel_rfl) (by kernel_rfl) ((equal_fuel (G := G) (h := h) (r := false) (d := 16) (n := 68929) (k := 18) (Lp := b5) (a := ((2, 46) : Wd)) (b := ((2, 45) : Wd)) H rfl (T_ac (n := 52) (by decide) 16 (by decide)) (by decide) (by decide) (by rw [cost16]; decide) (by decide)).mono ?_)
  clear H
  rintro _ _ ⟨rfl, H⟩
  dsimp only [setL, delL] at H
  refine RW.v ?_
  refine RW.v ?_
  refine RW.v ?_
  refine RW.v ?_
  refine RW.nil ?_
  replace H := ((H.del 1).del 0)
  dsimp only [setL, delL] at H
  refine W.rg [(7, .bool false), (8, .int .i64 22)] fun TA => ?_
  refine W.ret ?_
  refine endG (by rfl) (by exact resL_tmp (by exact resL_tmp rfl)) ?_
  refine RW.v ?_
  refine RW.v ?_
  refine RW.v ?_
  refine RW.v ?_
  refine RW.v ?_
  refine RW.nil ?_
  replace H := (H.del 0)
  dsimp only [setL, delL] at H
  refine W.rg [(4, pt b7), (5, pt b8), (7, pt b10), (8, pt b11), (9, pt b12), (12, pt b58), (14, pt b82), (16, .bool false), (17, .int .i64 22), (34, .func (.func 87) #[] #[pt b60, pt b61, pt b62]), (35, .agg #[.int .i64 2, .int .i64 50]), (36, .agg #[.int .i64 2, .int .i64 45])] fun TA => ?_
  refine W.seq ?_
  refine W.seq ?_
  refine W.region ?_
  refine RW.v ?_
  refine RW.v ?_
  refine RW.nil ?_
  refine W.rg [(4, pt b7), (5, pt b8), (7, pt b10), (8, pt b11), (9, pt b12), (12, pt b58), (14, pt b82), (16, .bool false), (17, .int .i64 22), (34, .func (.func 87) #[] #[pt b60, pt b61, pt b62]), (35, .agg #[.int .i64 2, .int .i64 50]), (36, .agg #[.int .i64 2, .int .i64 45]), (46, .bool true)] fun TA => ?_
  refine W.c1 ?_
  refine W.seq ?_
  refine W.region ?_
  refine RW.val (v := .agg #[.int .i64 0, .int .i64 0]) (by kernel_rfl) (by kernel_rfl) (by kernel_rfl) (by kernel_rfl) ?_
  refine RW.v ?_
  refine RW.st H 11 [.int .i64 0, .int .i64 0] [.int .i64 0, .int .i64 0] ?_
  clear H; intro _ _ H
  dsimp only [setL, delL] at H
  refine RW.st H 10 [.int .i64 22] [.int .i64 22] ?_
  clear H; intro _ _ H
  dsimp only [setL, delL] at H
  refine RW.nil ?_
  replace H := (H.del 0)
  dsimp only [setL, delL] at H
  refine W.rg [(8, pt b11), (9, pt b12)] fun TA => ?_
  refine W.ret ?_
  refine seqQ_ret ?_
  refine blkQ_ret ?_
  refine ⟨_, _, _, 2, false, .done, (some .ret), H, rfl, rfl, ?_⟩
  clear H; intro _ lr88 _ hr89 H
  dsimp only [setL, delL] at H
  refine RW.v ?_
  refine RW.nil ?_
  replace H := (H.del 0)
  dsimp only [setL, delL] at H
  refine W.rg [(0, .func (.yield b64) #[] #[]), (1, pt b60), (2, pt b61), (3, pt b62), (20, .bool true)] fun TA => ?_
  refine W.c1 ?_
  refine W.ret ?_
  refine seqQ_ret ?_
  refine blkQ_ret ?_
  refine onceQ_ret ?_
  refine blkQ_ret ?_
  refine seqQ_ret ?_
  refine endG (by rfl) (by exact rfl) ?_
  refine ⟨_, _, _, 1, _, _, _, _, H, rfl, hr89, rfl, rfl, ?_⟩
  clear H; intro _ H
  dsimp only [setL, delL] at H
  refine blkQ_ret ?_
  refine seqQ_ret ?_
  refine endMark H 1 rfl fun _ H => ?_
  dsimp only [setL, delL] at H
  refine endGD0 (by rfl) (by exact resL_cell rfl (H.get 7 rfl) (by rw [uT_eq]; exact Tryz.underlying37) (by kernel_rfl) rfl rfl (by exact resL_cell rfl (H.get 6 rfl) (by rw [uT_eq]; exact Tryz.underlying24) (by kernel_rfl) rfl rfl rfl)) ?_
  have H90 := H
  refine RW.v ?_
  refine RW.v ?_
  refine RW.stD H90 12 (vs := [.int .i64 0, .int .i64 0]) (cs' := [.int .i64 0, .int .i64 0]) (by kernel_rfl) (by kernel_rfl) rfl rfl rfl rfl rfl (by kernel_rfl) (Nat.le_of_ble_eq_true rfl) rfl (by kernel_rfl) ?_
  intro _ H91
  dsimp only [setL, delL] at H91
  refine RW.v ?_
  refine RW.nil ?_
  refine ⟨⟨by kernel_rfl, ⟨trivial, dyn_row (H4.get 2 rfl) (H91.get 14 rfl) ⟨fun h => Bool.noConfusion h, fun h => Bool.noConfusion h, fun h => Bool.noConfusion h, fun _ => H4.get 2 rfl, fun _ => H6.get 3 rfl, fun h => Bool.noConfusion h, fun h => Bool.noConfusion h, fun _ => H90.get 14 rfl, fun h => Bool.noConfusion h, trivial⟩, dyn_row (H4.get 1 rfl) (H91.get 13 rfl) ⟨fun h => Bool.noConfusion h, fun h => Bool.noConfusion h, fun h => Bool.noConfusion h, fun _ => H4.get 1 rfl, fun _ => H6.get 2 rfl, fun h => Bool.noConfusion h, fun h => Bool.noConfusion h, fun _ => H90.get 13 rfl, fun h => Bool.noConfusion h, trivial⟩, trivial, trivial, trivial, trivial, trivial, trivial, trivial⟩⟩, ?_⟩
  replace H := H91
  clear H4 H6 H90 H91
  replace H := ((((((((((((((H.del 14).del 13).del 11).del 10).del 9).del 8).del 7).del 6).del 5).del 4).del 3).del 2).del 1).del 0)
  dsimp only [setL, delL] at H
  refine W.rg [(6, pt b3), (7, .int .i64 22)] fun TA => ?_
  refine W.ret ?_
  refine endG (by rfl) (by exact resL_cell rfl (H.get 0 rfl) (by rw [uT_eq]; exact Tryz.underlying37) (by kernel_rfl) rfl rfl (by exact resL_tmp rfl)) ?_
  exact ⟨rfl, (H.del 0)⟩
set_option maxHeartbeats 4000000 in
theorem delete_once  (H : Lies G (heapAbs h (hmN 52)) F σ (L)) : WC G Tryz.prog 66 #[.pointer (some ⟨h, 0, none⟩), .agg #[.int .i64 2, .int .i64 45], .agg #[.int .i64 2, .int .i64 48]] σ fun v σ' => v = .tuple #[.agg #[.int .i64 1, .int .i64 0], .int .i64 0] ∧ Lies G (heapAbs h (hmN 52)) F σ' (L) := by
  refine WC.enter (fn := Tryz.f66) Tryz.func66 rfl ?_
  refine W.rg [(0, pt h), (1, .agg #[.int .i64 2, .int .i64 45]), (2, .agg #[.int .i64 2, .int .i64 48])] fun TA => ?_
  refine W.seq ?_
  refine W.region ?_
  refine RW.mk H (.row ⟨[.int .i64 2, .int .i64 45], 37, false⟩) ?_
  clear H; intro _ b1 _ H
  refine RW.mk H (.row ⟨[.int .i64 2, .int .i64 48], 37, false⟩) ?_
  clear H; intro _ b2 _ H
  refine RW.mk H (.row ⟨[.int .i64 0, .int .i64 0], 37, false⟩) ?_
  clear H; intro _ b3 _ H
  refine RW.v ?_
  refine RW.nil ?_
  refine W.rg [(0, pt h), (4, pt b1), (5, pt b2), (6, pt b3)] fun TA => ?_
  refine W.seq ?_
  refine W.drawn (by kernel_rfl) (by kernel_rfl) H.gn ?_
  have H4 := H
  refine RW.v ?_
  refine RW.ld H4 2 2 ?_
  refine RW.ld H4 1 2 ?_
  refine RW.cl ?_
  refine WC.enter (fn := Tryz.f50) Tryz.func50 rfl ?_
  replace H := H4
  refine W.rg [] fun TA => ?_
  refine W.seq ?_
  refine W.region ?_
  refine RW.v ?_
  refine RW.nil ?_
  refine W.rg [] fun TA => ?_
  refine W.seq ?_
  refine W.region ?_
  refine RW.mk H (.row ⟨[.int .i64 0], 3, false⟩) ?_
  clear H; intro _ b5 _ H
  refine RW.st H 0 [.int .i64 200000] [.int .i64 200000] ?_
  clear H; intro _ _ H
  dsimp only [setL, delL] at H
  refine RW.nil ?_
  refine W.rg [(1, pt b5)] fun TA => ?_
  refine W.seq ?_
  refine W.region ?_
  refine RW.val (v := .func (.func 81) #[] #[.pointer (some ⟨b5, 0, none⟩)]) (by kernel_rfl) (by kernel_rfl) (by kernel_rfl) (by kernel_rfl) ?_
  refine RW.v ?_
  refine RW.nil ?_
  refine W.rg [(0, .func (.func 81) #[] #[pt b5])] fun TA => ?_
  refine W.ret ?_
  refine endG (by rfl) (by exact resL_tmp rfl) ?_
  have H6 := H
  refine RW.cl ?_
  refine WC.enterD (fn := Tryz.f65) Tryz.func65 rfl ?_
  replace H := H6
  refine W.rg [(0, pt h), (1, .agg #[.int .i64 2, .int .i64 45]), (2, .agg #[.int .i64 2, .int .i64 48]), (3, .func (.func 81) #[] #[pt b5])] fun TA => ?_
  refine W.seq ?_
  refine W.region ?_
  refine RW.mk H (.row ⟨[pt h], 23, false⟩) ?_
  clear H; intro _ b7 _ H
  refine RW.mk H (.row ⟨[.int .i64 2, .int .i64 45], 37, false⟩) ?_
  clear H; intro _ b8 _ H
  refine RW.mk H (.row ⟨[.int .i64 2, .int .i64 48], 37, false⟩) ?_
  clear H; intro _ b9 _ H
  refine RW.mk H (.row ⟨[.func (.func 81) #[] #[pt b5]], 35, false⟩) ?_
  clear H; intro _ b10 _ H
  refine RW.mk H (.row ⟨[.int .i64 0, .int .i64 0], 37, false⟩) ?_
  clear H; intro _ b11 _ H
  refine RW.mk H (.row ⟨[.int .i64 0], 24, false⟩) ?_
  clear H; intro _ b12 _ H
  refine RW.nil ?_
  refine W.rg [(4, pt b7), (5, pt b8), (6, pt b9), (7, pt b10), (8, pt b11), (9, pt b12)] fun TA => ?_
  refine W.seq ?_
  refine W.seq ?_
  refine W.region ?_
  refine RW.ld H 5 1 ?_
  refine RW.ld H 3 2 ?_
  refine RW.cl ?_
  refine WC.enterD (fn := Tryz.f18) Tryz.func18 rfl ?_
  refine W.rg [(0, pt h), (1, .agg #[.int .i64 2, .int .i64 48])] fun TA => ?_
  refine W.seq ?_
  refine W.region ?_
  refine RW.mk H (.row ⟨[.int .i64 2, .int .i64 48], 37, false⟩) ?_
  clear H; intro _ b13 _ H
  refine RW.mk H (.row ⟨[.slice none 0 0], 29, false⟩) ?_
  clear H; intro _ b14 _ H
  refine RW.mk H (.row ⟨[.int .i64 0], 24, false⟩) ?_
  clear H; intro _ b15 _ H
  refine RW.nil ?_
  refine W.rg [(0, pt h), (3, pt b13), (4, pt b14), (5, pt b15)] fun TA => ?_
  refine W.seq ?_
  refine W.seq ?_
  refine W.region ?_
  refine RW.v ?_
  refine RW.cl ?_
  refine WC.enter (fn := Tryz.f51) Tryz.func51 rfl ?_
  refine W.rg [(0, pt h)] fun TA => ?_
  refine W.seq ?_
  refine W.region ?_
  refine RW.v ?_
  refine RW.nil ?_
  refine W.rg [(0, pt h)] fun TA => ?_
  refine W.seq ?_
  refine W.region ?_
  refine RW.v ?_
  refine RW.call (by kernel_rfl) (by kernel_rfl) rfl rfl rfl (by kernel_rfl) (by kernel_rfl) ⟨_, _, (c_limit (G := G) (n := 52) H.abs), ?_⟩
  refine RW.v ?_
  refine RW.v ?_
  refine RW.nil ?_
  refine W.rg [(2, .bool true)] fun TA => ?_
  refine W.ret ?_
  refine endG (by rfl) (by exact resL_tmp rfl) ?_
  refine RW.v ?_
  refine RW.nil ?_
  refine W.rg [(0, pt h), (3, pt b13), (4, pt b14), (5, pt b15), (12, .bool false)] fun TA => ?_
  refine W.c0 ?_
  refine W.skip ?_
  refine W.seq ?_
  refine W.region ?_
  refine RW.mk H (.row ⟨[.slice none 0 0], 29, false⟩) ?_
  clear H; intro _ b16 _ H
  refine RW.nil ?_
  refine W.rg [(0, pt h), (3, pt b13), (4, pt b14), (5, pt b15), (6, pt b16)] fun TA => ?_
  refine W.seq ?_
  refine W.region ?_
  refine RW.ld H 3 2 ?_
  refine RW.mk H (.row ⟨[.int .i64 0, .int .i64 0], 37, false⟩) ?_
  clear H; intro _ b17 _ H
  refine RW.st H 0 [.int .i64 2, .int .i64 48] [.int .i64 2, .int .i64 48] ?_
  clear H; intro _ _ H
  dsimp only [setL, delL] at H
  refine RW.nil ?_
  refine W.rg [(0, pt h), (3, pt b13), (4, pt b14), (5, pt b15), (6, pt b16), (7, pt b17)] fun TA => ?_
  refine W.seq ?_
  refine W.seq ?_
  refine W.region ?_
  refine RW.v ?_
  refine RW.ld H 4 2 ?_
  refine RW.cl ?_
  refine WC.enter (fn := Tryz.f56) Tryz.func56 rfl ?_
  refine W.rg [(0, pt h), (1, .agg #[.int .i64 2, .int .i64 48]), (2, pt b17)] fun TA => ?_
  refine W.seq ?_
  refine W.region ?_
  refine RW.mk H (.row ⟨[pt h], 23, false⟩) ?_
  clear H; intro _ b18 _ H
  refine RW.mk H (.row ⟨[.int .i64 2, .int .i64 48], 37, false⟩) ?_
  clear H; intro _ b19 _ H
  refine RW.mk H (.row ⟨[pt b17], 94, false⟩) ?_
  clear H; intro _ b20 _ H
  refine RW.v ?_
  refine RW.nil ?_
  refine W.rg [(3, pt b18), (4, pt b19), (5, pt b20)] fun TA => ?_
  refine W.seq ?_
  refine W.region ?_
  refine RW.val (v := .func (.func 87) #[] #[.pointer (some ⟨b18, 0, none⟩), .pointer (some ⟨b19, 0, none⟩), .pointer (some ⟨b20, 0, none⟩)]) (by kernel_rfl) (by kernel_rfl) (by kernel_rfl) (by kernel_rfl) ?_
  refine RW.v ?_
  refine RW.nil ?_
  refine W.rg [(6, .func (.func 87) #[] #[pt b18, pt b19, pt b20])] fun TA => ?_
  refine W.ret ?_
  refine endG (by rfl) (by exact resL_tmp rfl) ?_
  refine RW.nil ?_
  replace H := (H.del 7)
  dsimp only [setL, delL] at H
  refine W.rg [(4, pt b14), (5, pt b15), (6, pt b16), (7, pt b17), (16, .func (.func 87) #[] #[pt b18, pt b19, pt b20])] fun TA => ?_
  refine W.block ?_
  refine W.rst [(4, .pointer (some ⟨b14, 0, none⟩)), (5, .pointer (some ⟨b15, 0, none⟩)), (6, .pointer (some ⟨b16, 0, none⟩)), (7, .pointer (some ⟨b17, 0, none⟩)), (16, .func (.func 87) #[] #[.pointer (some ⟨b18, 0, none⟩), .pointer (some ⟨b19, 0, none⟩), .pointer (some ⟨b20, 0, none⟩)])] ⟨rfl, rfl, rfl, rfl, rfl, trivial⟩ fun TL25 => ?_
  refine W.rangeL H rfl (fun _ h => nomatch h) (fun _ h => nomatch h) (by kernel_rfl) fun _ d21 b22 lp23 hl24 H => ?_
  refine WC.enter (fn := Tryz.f87) Tryz.func87 rfl ?_
  refine W.rg [(0, .func (.yield b22) #[] #[]), (1, pt b18), (2, pt b19), (3, pt b20)] fun TA => ?_
  refine W.seq ?_
  refine W.block ?_
  refine W.unroll (WL.once ?_)
  refine W.seq ?_
  refine W.seq ?_
  refine W.region ?_
  refine RW.ld H 4 1 ?_
  refine RW.ld H 3 2 ?_
  refine RW.cl ?_
  refine WC.enter (fn := Tryz.f88) Tryz.func88 rfl ?_
  refine W.rg [(0, pt h), (1, .agg #[.int .i64 2, .int .i64 48])] fun TA => ?_
  refine W.seq ?_
  refine W.region ?_
  refine RW.mk H (.row ⟨[.int .i64 2, .int .i64 48], 37, false⟩) ?_
  clear H; intro _ b26 _ H
  refine RW.v ?_
  refine RW.nil ?_
  refine W.rg [(0, pt h), (3, pt b26)] fun TA => ?_
  refine W.seq ?_
  refine W.region ?_
  refine RW.v ?_
  refine RW.ld H 0 1 ?_
  refine RW.v ?_
  refine RW.v ?_
  refine RW.val (by rfl) (by kernel_rfl) rfl (by kernel_rfl) ?_
  refine RW.ldL H 0 2 (by rfl) (by kernel_rfl) rfl rfl rfl rfl rfl (by kernel_rfl) ?_
  refine RW.call (by rfl) (by kernel_rfl) rfl rfl rfl (by kernel_rfl) (by kernel_rfl) ⟨_, _, (c_live (G := G) (n := 52) (k := 48) (a := ((2, 45) : Wd)) (d := ((1, 0) : Wd)) H.abs (by decide) rfl), ?_⟩
  refine RW.v ?_
  refine RW.v ?_
  refine RW.nil ?_
  replace H := (H.del 0)
  dsimp only [setL, delL] at H
  refine W.rg [(4, .bool true)] fun TA => ?_
  refine W.ret ?_
  refine endG (by rfl) (by exact resL_tmp rfl) ?_
  refine RW.nil ?_
  refine W.rg [(0, .func (.yield b22) #[] #[]), (1, pt b18), (2, pt b19), (3, pt b20), (9, .bool true)] fun TA => ?_
  refine W.c1 ?_
  refine W.skip ?_
  refine W.block ?_
  refine W.seq ?_
  refine W.region ?_
  refine RW.ld H 4 1 ?_
  refine RW.ld H 3 2 ?_
  refine RW.call (by kernel_rfl) (by kernel_rfl) rfl rfl rfl (by kernel_rfl) (by kernel_rfl) ⟨_, _, (c_car (G := G) (n := 52) (k := 48) (a := ((2, 45) : Wd)) (d := ((1, 0) : Wd)) H.abs (by decide) rfl), ?_⟩
  refine RW.v ?_
  refine RW.v ?_
  refine RW.v ?_
  refine RW.mk H (.row ⟨[.int .i64 0, .int .i64 0], 37, false⟩) ?_
  clear H; intro _ b27 _ H
  refine RW.st H 0 [.int .i64 2, .int .i64 45] [.int .i64 2, .int .i64 45] ?_
  clear H; intro _ _ H
  dsimp only [setL, delL] at H
  refine RW.v ?_
  refine RW.nil ?_
  refine W.rg [(0, .func (.yield b22) #[] #[]), (1, pt b18), (2, pt b19), (3, pt b20), (5, pt b27)] fun TA => ?_
  refine W.seq ?_
  refine W.seq ?_
  refine W.region ?_
  refine RW.v ?_
  refine RW.ld H 4 2 ?_
  refine RW.ld H 0 2 ?_
  refine RW.yieldL H 1 rfl hl24 (by kernel_rfl) (by kernel_rfl) rfl rfl rfl rfl rfl (by kernel_rfl) ?_
  refine W.rg [(4, pt b14), (5, pt b15), (6, pt b16), (7, pt b17), (16, .func (.func 87) #[] #[pt b18, pt b19, pt b20]), (17, .agg #[.int .i64 2, .int .i64 48]), (18, .agg #[.int .i64 2, .int .i64 45])] fun TA => ?_
  refine W.region ?_
  refine RW.mk H (.row ⟨[.int .i64 0, .int .i64 0], 37, false⟩) ?_
  clear H; intro _ b28 _ H
  refine RW.st H 0 [.int .i64 2, .int .i64 45] [.int .i64 2, .int .i64 45] ?_
  clear H; intro _ _ H
  dsimp only [setL, delL] at H
  refine RW.nil ?_
  refine ⟨rfl, _, _, _, 2, H, rfl, ?_⟩
  clear H; intro _ lq29 hq30 H
  dsimp only [setL, delL] at H
  refine W.rg [(4, pt b14), (5, pt b15), (6, pt b16), (7, pt b17), (9, pt b28), (16, .func (.func 87) #[] #[pt b18, pt b19, pt b20]), (18, .agg #[.int .i64 2, .int .i64 45])] fun TA => ?_
  refine W.block ?_
  refine W.seq ?_
  refine W.seq ?_
  refine W.region ?_
  refine RW.ld H 8 1 ?_
  refine RW.v ?_
  refine RW.v ?_
  refine RW.nil ?_
  refine W.rg [(4, pt b14), (5, pt b15), (6, pt b16), (7, pt b17), (9, pt b28), (16, .func (.func 87) #[] #[pt b18, pt b19, pt b20]), (18, .agg #[.int .i64 2, .int .i64 45]), (21, .bool false)] fun TA => ?_
  refine W.c0 ?_
  refine W.skip ?_
  refine W.region ?_
  refine RW.ld H 8 1 ?_
  refine RW.ld H 0 2 ?_
  refine RW.mkL H (x := .row ⟨[.int .i64 2, .int .i64 45], 37, false⟩) (fm := fun b => .slice (some ⟨b, 0, none⟩) 1 1) (by kernel_rfl) (by kernel_rfl) (by kernel_rfl) (by kernel_rfl) ?_
  clear H; intro _ b31 _ H
  replace H := H.nilSl 37 2
  refine RW.appL H 0 1 (n := 1) (e2 := 37) (by kernel_rfl) (by kernel_rfl) rfl rfl rfl rfl rfl rfl rfl rfl (by kernel_rfl) (by kernel_rfl) (by kernel_rfl) (by decide) (by decide) rfl rfl (by omega) (by kernel_rfl) ?_
  clear H; intro _ v32 _ H
  dsimp only [setL, delL] at H
  refine RW.stL H 9 (vs := [v32]) (cs' := [v32]) (by kernel_rfl) (by kernel_rfl) rfl rfl rfl (H.sl 0 rfl).one (gr_all (H.sl 0 rfl)) (by kernel_rfl) (Nat.le_of_ble_eq_true rfl) rfl (by kernel_rfl) ?_
  clear H; intro _ _ H
  dsimp only [setL, delL] at H
  refine RW.nil ?_
  replace H := (H.del 1)
  dsimp only [setL, delL] at H
  refine blkQ_normal ?_
  refine ⟨_, _, _, 2, true, .ready, none, H, rfl, rfl, ?_⟩
  clear H; intro _ lr33 _ hr34 H
  dsimp only [setL, delL] at H
  refine RW.v ?_
  refine RW.nil ?_
  replace H := (H.del 1)
  dsimp only [setL, delL] at H
  refine W.rg [(0, .func (.yield b22) #[] #[]), (1, pt b18), (2, pt b19), (3, pt b20), (20, .bool false)] fun TA => ?_
  refine W.c0 ?_
  refine W.skip ?_
  refine W.region ?_
  refine RW.ld H 5 1 ?_
  refine RW.ld H 4 2 ?_
  refine RW.call (by kernel_rfl) (by kernel_rfl) rfl rfl rfl (by kernel_rfl) (by kernel_rfl) ⟨_, _, (c_cdr (G := G) (n := 52) (k := 48) (a := ((2, 45) : Wd)) (d := ((1, 0) : Wd)) H.abs (by decide) rfl), ?_⟩
  refine RW.v ?_
  refine RW.v ?_
  refine RW.v ?_
  refine RW.st H 4 [.int .i64 1, .int .i64 0] [.int .i64 1, .int .i64 0] ?_
  clear H; intro _ _ H
  dsimp only [setL, delL] at H
  refine RW.nil ?_
  refine blkQ_normal ?_
  refine WL.once ?_
  refine W.rg [(0, .func (.yield b22) #[] #[]), (1, pt b18), (2, pt b19), (3, pt b20)] fun TA => ?_
  refine W.seq ?_
  refine W.seq ?_
  refine W.region ?_
  refine RW.ld H 5 1 ?_
  refine RW.ld H 4 2 ?_
  refine RW.cl ?_
  refine WC.enter (fn := Tryz.f88) Tryz.func88 rfl ?_
  refine W.rg [(0, pt h), (1, .agg #[.int .i64 1, .int .i64 0])] fun TA => ?_
  refine W.seq ?_
  refine W.region ?_
  refine RW.mk H (.row ⟨[.int .i64 1, .int .i64 0], 37, false⟩) ?_
  clear H; intro _ b35 _ H
  refine RW.v ?_
  refine RW.nil ?_
  refine W.rg [(0, pt h), (3, pt b35)] fun TA => ?_
  refine W.seq ?_
  refine W.region ?_
  refine RW.v ?_
  refine RW.ld H 0 1 ?_
  refine RW.v ?_
  refine RW.v ?_
  refine RW.skip (by rfl) (by kernel_rfl) ?_
  refine RW.skip (by rfl) (by kernel_rfl) ?_
  refine RW.skip (by rfl) (by kernel_rfl) ?_
  refine RW.v ?_
  refine RW.v ?_
  refine RW.nil ?_
  replace H := (H.del 0)
  dsimp only [setL, delL] at H
  refine W.rg [(4, .bool false)] fun TA => ?_
  refine W.ret ?_
  refine endG (by rfl) (by exact resL_tmp rfl) ?_
  refine RW.nil ?_
  refine W.rg [(0, .func (.yield b22) #[] #[]), (1, pt b18), (2, pt b19), (3, pt b20), (9, .bool false)] fun TA => ?_
  refine W.c0 ?_
  refine W.exit _ ?_
  refine seqQ_exit ?_
  refine onceQ_exit ?_
  refine blkQ_here ?_
  refine W.region ?_
  refine RW.ld H 3 1 ?_
  refine RW.ld H 4 2 ?_
  refine RW.v ?_
  refine RW.st H 6 [.int .i64 1, .int .i64 0] [.int .i64 1, .int .i64 0] ?_
  clear H; intro _ _ H
  dsimp only [setL, delL] at H
  refine RW.nil ?_
  refine endG (by rfl) (by exact rfl) ?_
  refine ⟨_, _, _, 1, _, _, _, _, H, rfl, hr34, rfl, rfl, ?_⟩
  clear H; intro _ H
  dsimp only [setL, delL] at H
  refine blkQ_normal ?_
  refine W.rg [(4, pt b14), (5, pt b15), (6, pt b16), (7, pt b17), (16, .func (.func 87) #[] #[pt b18, pt b19, pt b20])] fun TA => ?_
  refine W.seq ?_
  refine W.seq ?_
  refine W.region ?_
  refine RW.ld H 5 2 ?_
  refine RW.cl ?_
  refine WC.enter (fn := Tryz.f57) Tryz.func57 rfl ?_
  refine W.rg [(0, .agg #[.int .i64 1, .int .i64 0])] fun TA => ?_
  refine W.seq ?_
  refine W.region ?_
  refine RW.mk H (.row ⟨[.int .i64 1, .int .i64 0], 37, false⟩) ?_
  clear H; intro _ b36 _ H
  refine RW.v ?_
  refine RW.nil ?_
  refine W.rg [(1, pt b36)] fun TA => ?_
  refine W.seq ?_
  refine W.drawn (by kernel_rfl) (by kernel_rfl) H.gn ?_
  have H37 := H
  refine RW.ld H37 0 2 ?_
  refine RW.cl ?_
  refine WC.enter (fn := Tryz.f54) Tryz.func54 rfl ?_
  replace H := H37
  refine W.rg [] fun TA => ?_
  refine W.seq ?_
  refine W.region ?_
  refine RW.mk H (.row ⟨[.int .i64 0, .int .i64 0], 37, false⟩) ?_
  clear H; intro _ b38 _ H
  refine RW.nil ?_
  refine W.rg [(0, pt b38)] fun TA => ?_
  refine W.seq ?_
  refine W.region ?_
  refine RW.val (v := .agg #[.int .i64 1, .int .i64 0]) (by kernel_rfl) (by kernel_rfl) (by kernel_rfl) (by kernel_rfl) ?_
  refine RW.st H 0 [.int .i64 1, .int .i64 0] [.int .i64 1, .int .i64 0] ?_
  clear H; intro _ _ H
  dsimp only [setL, delL] at H
  refine RW.nil ?_
  refine W.rg [(0, pt b38)] fun TA => ?_
  refine W.ret ?_
  refine endG (by rfl) (by exact resL_cell rfl (H.get 0 rfl) (by rw [uT_eq]; exact Tryz.underlying37) (by kernel_rfl) rfl rfl rfl) ?_
  have H39 := H
  refine RW.vop (v := .bool true) (by kernel_rfl) (by kernel_rfl) (vop_eqS (b := true) (r := true) rfl (.inl ⟨rfl, rfl⟩) rfl rfl rfl rfl (by kernel_rfl) (fun w => (eqWd _ _ _ _ w).trans (by simp))) (by kernel_rfl) ?_
  refine RW.v ?_
  refine RW.nil ?_
  refine ⟨⟨by kernel_rfl, ⟨dyn_row (H37.get 0 rfl) (H39.get 1 rfl) ⟨fun h => Bool.noConfusion h, fun _ => H37.get 0 rfl, fun h => Bool.noConfusion h, fun h => Bool.noConfusion h, trivial⟩, trivial, trivial, trivial, trivial⟩⟩, ?_⟩
  replace H := H39
  clear H37 H39
  replace H := ((H.del 1).del 0)
  dsimp only [setL, delL] at H
  refine W.rg [(2, .bool true)] fun TA => ?_
  refine W.ret ?_
  refine endG (by rfl) (by exact resL_tmp rfl) ?_
  refine RW.v ?_
  refine RW.nil ?_
  replace H := ((((H.del 5).del 4).del 3).del 2)
  dsimp only [setL, delL] at H
  refine W.rg [(4, pt b14), (5, pt b15), (6, pt b16), (28, .bool false)] fun TA => ?_
  refine W.c0 ?_
  refine W.skip ?_
  refine W.seq ?_
  refine W.region ?_
  refine RW.ld H 2 1 ?_
  refine RW.stL H 4 (vs := [v32]) (cs' := [v32]) (by kernel_rfl) (by kernel_rfl) rfl rfl rfl (H.sl 0 rfl).one (gr_all (H.sl 0 rfl)) (by kernel_rfl) (Nat.le_of_ble_eq_true rfl) rfl (by kernel_rfl) ?_
  clear H; intro _ _ H
  dsimp only [setL, delL] at H
  refine RW.st H 3 [.int .i64 0] [.int .i64 0] ?_
  clear H; intro _ _ H
  dsimp only [setL, delL] at H
  refine RW.nil ?_
  replace H := (H.del 2)
  dsimp only [setL, delL] at H
  refine W.rg [(4, pt b14), (5, pt b15)] fun TA => ?_
  refine W.ret ?_
  refine endMark H 1 rfl fun _ H => ?_
  dsimp only [setL, delL] at H
  refine endGD0 (by rfl) (by exact resL_cell rfl (H.get 2 rfl) (by rw [uT_eq]; exact Tryz.underlying29) (by kernel_rfl) rfl rfl (by exact resL_cell rfl (H.get 1 rfl) (by rw [uT_eq]; exact Tryz.underlying24) (by kernel_rfl) rfl rfl rfl)) ?_
  refine RW.v ?_
  refine RW.v ?_
  refine RW.v ?_
  refine RW.v ?_
  refine RW.v ?_
  refine RW.nil ?_
  replace H := (((H.del 2).del 1).del 0)
  dsimp only [setL, delL] at H
  refine W.rg [(4, pt b7), (5, pt b8), (6, pt b9), (7, pt b10), (8, pt b11), (9, pt b12), (11, .int .i64 0)] fun TA => ?_
  refine W.seq ?_
  refine W.region ?_
  refine RW.v ?_
  refine RW.v ?_
  refine RW.nil ?_
  refine W.rg [(4, pt b7), (5, pt b8), (6, pt b9), (7, pt b10), (8, pt b11), (9, pt b12), (11, .int .i64 0), (28, .bool false)] fun TA => ?_
  refine W.c0 ?_
  refine W.skip ?_
  refine W.seq ?_
  refine W.region ?_
  refine RW.mk H (.row ⟨[.slice none 0 0], 29, false⟩) ?_
  clear H; intro _ b40 _ H
  refine RW.nil ?_
  refine W.rg [(4, pt b7), (5, pt b8), (6, pt b9), (7, pt b10), (8, pt b11), (9, pt b12), (12, pt b40)] fun TA => ?_
  refine W.seq ?_
  refine W.region ?_
  refine RW.ld H 4 2 ?_
  refine RW.mk H (.row ⟨[.int .i64 0, .int .i64 0], 37, false⟩) ?_
  clear H; intro _ b41 _ H
  refine RW.st H 0 [.int .i64 2, .int .i64 48] [.int .i64 2, .int .i64 48] ?_
  clear H; intro _ _ H
  dsimp only [setL, delL] at H
  refine RW.nil ?_
  refine W.rg [(4, pt b7), (5, pt b8), (6, pt b9), (7, pt b10), (8, pt b11), (9, pt b12), (12, pt b40), (13, pt b41)] fun TA => ?_
  refine W.seq ?_
  refine W.seq ?_
  refine W.region ?_
  refine RW.ld H 7 1 ?_
  refine RW.ld H 5 2 ?_
  refine RW.cl ?_
  refine WC.enter (fn := Tryz.f56) Tryz.func56 rfl ?_
  refine W.rg [(0, pt h), (1, .agg #[.int .i64 2, .int .i64 48]), (2, pt b41)] fun TA => ?_
  refine W.seq ?_
  refine W.region ?_
  refine RW.mk H (.row ⟨[pt h], 23, false⟩) ?_
  clear H; intro _ b42 _ H
  refine RW.mk H (.row ⟨[.int .i64 2, .int .i64 48], 37, false⟩) ?_
  clear H; intro _ b43 _ H
  refine RW.mk H (.row ⟨[pt b41], 94, false⟩) ?_
  clear H; intro _ b44 _ H
  refine RW.v ?_
  refine RW.nil ?_
  refine W.rg [(3, pt b42), (4, pt b43), (5, pt b44)] fun TA => ?_
  refine W.seq ?_
  refine W.region ?_
  refine RW.val (v := .func (.func 87) #[] #[.pointer (some ⟨b42, 0, none⟩), .pointer (some ⟨b43, 0, none⟩), .pointer (some ⟨b44, 0, none⟩)]) (by kernel_rfl) (by kernel_rfl) (by kernel_rfl) (by kernel_rfl) ?_
  refine RW.v ?_
  refine RW.nil ?_
  refine W.rg [(6, .func (.func 87) #[] #[pt b42, pt b43, pt b44])] fun TA => ?_
  refine W.ret ?_
  refine endG (by rfl) (by exact resL_tmp rfl) ?_
  refine RW.nil ?_
  replace H := (H.del 8)
  dsimp only [setL, delL] at H
  refine W.rg [(4, pt b7), (5, pt b8), (7, pt b10), (8, pt b11), (9, pt b12), (12, pt b40), (34, .func (.func 87) #[] #[pt b42, pt b43, pt b44])] fun TA => ?_
  refine W.block ?_
  refine W.rst [(4, .pointer (some ⟨b7, 0, none⟩)), (5, .pointer (some ⟨b8, 0, none⟩)), (7, .pointer (some ⟨b10, 0, none⟩)), (8, .pointer (some ⟨b11, 0, none⟩)), (9, .pointer (some ⟨b12, 0, none⟩)), (12, .pointer (some ⟨b40, 0, none⟩)), (34, .func (.func 87) #[] #[.pointer (some ⟨b42, 0, none⟩), .pointer (some ⟨b43, 0, none⟩), .pointer (some ⟨b44, 0, none⟩)])] ⟨rfl, rfl, rfl, rfl, rfl, rfl, rfl, trivial⟩ fun TL49 => ?_
  refine W.rangeL H rfl (fun _ h => nomatch h) (fun _ h => nomatch h) (by kernel_rfl) fun _ d45 b46 lp47 hl48 H => ?_
  refine WC.enter (fn := Tryz.f87) Tryz.func87 rfl ?_
  refine W.rg [(0, .func (.yield b46) #[] #[]), (1, pt b42), (2, pt b43), (3, pt b44)] fun TA => ?_
  refine W.seq ?_
  refine W.block ?_
  refine W.unroll (WL.once ?_)
  refine W.seq ?_
  refine W.seq ?_
  refine W.region ?_
  refine RW.ld H 4 1 ?_
  refine RW.ld H 3 2 ?_
  refine RW.cl ?_
  refine WC.enter (fn := Tryz.f88) Tryz.func88 rfl ?_
  refine W.rg [(0, pt h), (1, .agg #[.int .i64 2, .int .i64 48])] fun TA => ?_
  refine W.seq ?_
  refine W.region ?_
  refine RW.mk H (.row ⟨[.int .i64 2, .int .i64 48], 37, false⟩) ?_
  clear H; intro _ b50 _ H
  refine RW.v ?_
  refine RW.nil ?_
  refine W.rg [(0, pt h), (3, pt b50)] fun TA => ?_
  refine W.seq ?_
  refine W.region ?_
  refine RW.v ?_
  refine RW.ld H 0 1 ?_
  refine RW.v ?_
  refine RW.v ?_
  refine RW.val (by rfl) (by kernel_rfl) rfl (by kernel_rfl) ?_
  refine RW.ldL H 0 2 (by rfl) (by kernel_rfl) rfl rfl rfl rfl rfl (by kernel_rfl) ?_
  refine RW.call (by rfl) (by kernel_rfl) rfl rfl rfl (by kernel_rfl) (by kernel_rfl) ⟨_, _, (c_live (G := G) (n := 52) (k := 48) (a := ((2, 45) : Wd)) (d := ((1, 0) : Wd)) H.abs (by decide) rfl), ?_⟩
  refine RW.v ?_
  refine RW.v ?_
  refine RW.nil ?_
  replace H := (H.del 0)
  dsimp only [setL, delL] at H
  refine W.rg [(4, .bool true)] fun TA => ?_
  refine W.ret ?_
  refine endG (by rfl) (by exact resL_tmp rfl) ?_
  refine RW.nil ?_
  refine W.rg [(0, .func (.yield b46) #[] #[]), (1, pt b42), (2, pt b43), (3, pt b44), (9, .bool true)] fun TA => ?_
  refine W.c1 ?_
  refine W.skip ?_
  refine W.block ?_
  refine W.seq ?_
  refine W.region ?_
  refine RW.ld H 4 1 ?_
  refine RW.ld H 3 2 ?_
  refine RW.call (by kernel_rfl) (by kernel_rfl) rfl rfl rfl (by kernel_rfl) (by kernel_rfl) ⟨_, _, (c_car (G := G) (n := 52) (k := 48) (a := ((2, 45) : Wd)) (d := ((1, 0) : Wd)) H.abs (by decide) rfl), ?_⟩
  refine RW.v ?_
  refine RW.v ?_
  refine RW.v ?_
  refine RW.mk H (.row ⟨[.int .i64 0, .int .i64 0], 37, false⟩) ?_
  clear H; intro _ b51 _ H
  refine RW.st H 0 [.int .i64 2, .int .i64 45] [.int .i64 2, .int .i64 45] ?_
  clear H; intro _ _ H
  dsimp only [setL, delL] at H
  refine RW.v ?_
  refine RW.nil ?_
  refine W.rg [(0, .func (.yield b46) #[] #[]), (1, pt b42), (2, pt b43), (3, pt b44), (5, pt b51)] fun TA => ?_
  refine W.seq ?_
  refine W.seq ?_
  refine W.region ?_
  refine RW.v ?_
  refine RW.ld H 4 2 ?_
  refine RW.ld H 0 2 ?_
  refine RW.yieldL H 1 rfl hl48 (by kernel_rfl) (by kernel_rfl) rfl rfl rfl rfl rfl (by kernel_rfl) ?_
  refine W.rg [(4, pt b7), (5, pt b8), (7, pt b10), (8, pt b11), (9, pt b12), (12, pt b40), (34, .func (.func 87) #[] #[pt b42, pt b43, pt b44]), (35, .agg #[.int .i64 2, .int .i64 48]), (36, .agg #[.int .i64 2, .int .i64 45])] fun TA => ?_
  refine W.seq ?_
  refine W.region ?_
  refine RW.mk H (.row ⟨[.int .i64 0, .int .i64 0], 37, false⟩) ?_
  clear H; intro _ b52 _ H
  refine RW.st H 0 [.int .i64 2, .int .i64 48] [.int .i64 2, .int .i64 48] ?_
  clear H; intro _ _ H
  dsimp only [setL, delL] at H
  refine RW.nil ?_
  refine W.rg [(4, pt b7), (5, pt b8), (7, pt b10), (8, pt b11), (9, pt b12), (12, pt b40), (14, pt b52), (34, .func (.func 87) #[] #[pt b42, pt b43, pt b44]), (35, .agg #[.int .i64 2, .int .i64 48]), (36, .agg #[.int .i64 2, .int .i64 45])] fun TA => ?_
  refine W.region ?_
  refine RW.mk H (.row ⟨[.int .i64 0, .int .i64 0], 37, false⟩) ?_
  clear H; intro _ b53 _ H
  refine RW.st H 0 [.int .i64 2, .int .i64 45] [.int .i64 2, .int .i64 45] ?_
  clear H; intro _ _ H
  dsimp only [setL, delL] at H
  refine RW.nil ?_
  refine ⟨rfl, _, _, _, 3, H, rfl, ?_⟩
  clear H; intro _ lq54 hq55 H
  dsimp only [setL, delL] at H
  refine W.rg [(4, pt b7), (5, pt b8), (7, pt b10), (8, pt b11), (9, pt b12), (12, pt b40), (14, pt b52), (15, pt b53), (34, .func (.func 87) #[] #[pt b42, pt b43, pt b44]), (35, .agg #[.int .i64 2, .int .i64 48]), (36, .agg #[.int .i64 2, .int .i64 45])] fun TA => ?_
  refine W.block ?_
  refine W.seq ?_
  refine W.region ?_
  refine RW.ld H 12 1 ?_
  refine RW.ld H 14 1 ?_
  refine RW.ld H 13 2 ?_
  refine RW.ld H 0 2 ?_
  refine RW.cl ?_
  refine WC.enter (fn := Tryz.f81) Tryz.func81 rfl ?_
  refine W.rg [(0, pt h), (1, .agg #[.int .i64 2, .int .i64 45]), (2, .agg #[.int .i64 2, .int .i64 45]), (3, pt b5)] fun TA => ?_
  refine W.seq ?_
  refine W.region ?_
  refine RW.mk H (.row ⟨[.int .i64 2, .int .i64 45], 37, false⟩) ?_
  clear H; intro _ b56 _ H
  refine RW.mk H (.row ⟨[.int .i64 2, .int .i64 45], 37, false⟩) ?_
  clear H; intro _ b57 _ H
  refine RW.v ?_
  refine RW.v ?_
  refine RW.nil ?_
  refine W.rg [(0, pt h), (3, pt b5), (5, pt b56), (6, pt b57)] fun TA => ?_
  refine W.seq ?_
  refine W.region ?_
  refine RW.v ?_
  refine RW.ld H 1 2 ?_
  refine RW.ld H 0 2 ?_
  refine RW.call (by kernel_rfl) (by kernel_rfl) rfl rfl rfl (by kernel_rfl) (by kernel_rfl) ((equal_ok (G := G) (h := h) (r := true) (d := 0) (n := 200000) (n' := 199999) (k := 17) (Lp := b5) (a := ((2, 45) : Wd)) (b := ((2, 45) : Wd)) H rfl (.inl ⟨rfl, rfl⟩) (by decide) (by decide) (by rw [(show costT 0 = 1 from rfl)]) (by decide)).mono ?_)
  clear H
  rintro _ _ ⟨rfl, H⟩
  dsimp only [setL, delL] at H
  refine RW.v ?_
  refine RW.v ?_
  refine RW.v ?_
  refine RW.v ?_
  refine RW.nil ?_
  replace H := ((H.del 1).del 0)
  dsimp only [setL, delL] at H
  refine W.rg [(7, .bool true), (8, .int .i64 0)] fun TA => ?_
  refine W.ret ?_
  refine endG (by rfl) (by exact resL_tmp (by exact resL_tmp rfl)) ?_
  refine RW.v ?_
  refine RW.v ?_
  refine RW.v ?_
  refine RW.v ?_
  refine RW.v ?_
  refine RW.nil ?_
  replace H := (H.del 0)
  dsimp only [setL, delL] at H
  refine W.rg [(4, pt b7), (5, pt b8), (7, pt b10), (8, pt b11), (9, pt b12), (12, pt b40), (14, pt b52), (16, .bool true), (17, .int .i64 0), (34, .func (.func 87) #[] #[pt b42, pt b43, pt b44]), (35, .agg #[.int .i64 2, .int .i64 48]), (36, .agg #[.int .i64 2, .int .i64 45])] fun TA => ?_
  refine W.seq ?_
  refine W.seq ?_
  refine W.region ?_
  refine RW.v ?_
  refine RW.v ?_
  refine RW.nil ?_
  refine W.rg [(4, pt b7), (5, pt b8), (7, pt b10), (8, pt b11), (9, pt b12), (12, pt b40), (14, pt b52), (16, .bool true), (17, .int .i64 0), (34, .func (.func 87) #[] #[pt b42, pt b43, pt b44]), (35, .agg #[.int .i64 2, .int .i64 48]), (36, .agg #[.int .i64 2, .int .i64 45]), (46, .bool false)] fun TA => ?_
  refine W.c0 ?_
  refine W.skip ?_
  refine W.seq ?_
  refine W.region ?_
  refine RW.v ?_
  refine RW.v ?_
  refine RW.nil ?_
  refine W.rg [(4, pt b7), (5, pt b8), (7, pt b10), (8, pt b11), (9, pt b12), (12, pt b40), (14, pt b52), (34, .func (.func 87) #[] #[pt b42, pt b43, pt b44]), (35, .agg #[.int .i64 2, .int .i64 48]), (36, .agg #[.int .i64 2, .int .i64 45]), (50, .bool false)] fun TA => ?_
  refine W.c0 ?_
  refine W.skip ?_
  refine blkQ_normal ?_
  refine ⟨_, _, _, 2, true, .ready, none, H, rfl, rfl, ?_⟩
  clear H; intro _ lr58 _ hr59 H
  dsimp only [setL, delL] at H
  refine RW.v ?_
  refine RW.nil ?_
  replace H := ((H.del 1).del 0)
  dsimp only [setL, delL] at H
  refine W.rg [(0, .func (.yield b46) #[] #[]), (1, pt b42), (2, pt b43), (3, pt b44), (20, .bool false)] fun TA => ?_
  refine W.c0 ?_
  refine W.skip ?_
  refine W.region ?_
  refine RW.ld H 4 1 ?_
  refine RW.ld H 3 2 ?_
  refine RW.call (by kernel_rfl) (by kernel_rfl) rfl rfl rfl (by kernel_rfl) (by kernel_rfl) ⟨_, _, (c_cdr (G := G) (n := 52) (k := 48) (a := ((2, 45) : Wd)) (d := ((1, 0) : Wd)) H.abs (by decide) rfl), ?_⟩
  refine RW.v ?_
  refine RW.v ?_
  refine RW.v ?_
  refine RW.st H 3 [.int .i64 1, .int .i64 0] [.int .i64 1, .int .i64 0] ?_
  clear H; intro _ _ H
  dsimp only [setL, delL] at H
  refine RW.nil ?_
  refine blkQ_normal ?_
  refine WL.once ?_
  refine W.rg [(0, .func (.yield b46) #[] #[]), (1, pt b42), (2, pt b43), (3, pt b44)] fun TA => ?_
  refine W.seq ?_
  refine W.seq ?_
  refine W.region ?_
  refine RW.ld H 4 1 ?_
  refine RW.ld H 3 2 ?_
  refine RW.cl ?_
  refine WC.enter (fn := Tryz.f88) Tryz.func88 rfl ?_
  refine W.rg [(0, pt h), (1, .agg #[.int .i64 1, .int .i64 0])] fun TA => ?_
  refine W.seq ?_
  refine W.region ?_
  refine RW.mk H (.row ⟨[.int .i64 1, .int .i64 0], 37, false⟩) ?_
  clear H; intro _ b60 _ H
  refine RW.v ?_
  refine RW.nil ?_
  refine W.rg [(0, pt h), (3, pt b60)] fun TA => ?_
  refine W.seq ?_
  refine W.region ?_
  refine RW.v ?_
  refine RW.ld H 0 1 ?_
  refine RW.v ?_
  refine RW.v ?_
  refine RW.skip (by rfl) (by kernel_rfl) ?_
  refine RW.skip (by rfl) (by kernel_rfl) ?_
  refine RW.skip (by rfl) (by kernel_rfl) ?_
  refine RW.v ?_
  refine RW.v ?_
  refine RW.nil ?_
  replace H := (H.del 0)
  dsimp only [setL, delL] at H
  refine W.rg [(4, .bool false)] fun TA => ?_
  refine W.ret ?_
  refine endG (by rfl) (by exact resL_tmp rfl) ?_
  refine RW.nil ?_
  refine W.rg [(0, .func (.yield b46) #[] #[]), (1, pt b42), (2, pt b43), (3, pt b44), (9, .bool false)] fun TA => ?_
  refine W.c0 ?_
  refine W.exit _ ?_
  refine seqQ_exit ?_
  refine onceQ_exit ?_
  refine blkQ_here ?_
  refine W.region ?_
  refine RW.ld H 2 1 ?_
  refine RW.ld H 3 2 ?_
  refine RW.v ?_
  refine RW.st H 5 [.int .i64 1, .int .i64 0] [.int .i64 1, .int .i64 0] ?_
  clear H; intro _ _ H
  dsimp only [setL, delL] at H
  refine RW.nil ?_
  refine endG (by rfl) (by exact rfl) ?_
  refine ⟨_, _, _, 0, _, _, _, _, H, rfl, hr59, rfl, rfl, ?_⟩
  clear H; intro _ H
  dsimp only [setL, delL] at H
  refine blkQ_normal ?_
  refine W.rg [(4, pt b7), (5, pt b8), (7, pt b10), (8, pt b11), (9, pt b12), (12, pt b40), (34, .func (.func 87) #[] #[pt b42, pt b43, pt b44])] fun TA => ?_
  refine W.seq ?_
  refine W.region ?_
  refine RW.cl ?_
  refine WC.enter (fn := Tryz.f54) Tryz.func54 rfl ?_
  refine W.rg [] fun TA => ?_
  refine W.seq ?_
  refine W.region ?_
  refine RW.mk H (.row ⟨[.int .i64 0, .int .i64 0], 37, false⟩) ?_
  clear H; intro _ b61 _ H
  refine RW.nil ?_
  refine W.rg [(0, pt b61)] fun TA => ?_
  refine W.seq ?_
  refine W.region ?_
  refine RW.val (v := .agg #[.int .i64 1, .int .i64 0]) (by kernel_rfl) (by kernel_rfl) (by kernel_rfl) (by kernel_rfl) ?_
  refine RW.st H 0 [.int .i64 1, .int .i64 0] [.int .i64 1, .int .i64 0] ?_
  clear H; intro _ _ H
  dsimp only [setL, delL] at H
  refine RW.nil ?_
  refine W.rg [(0, pt b61)] fun TA => ?_
  refine W.ret ?_
  refine endG (by rfl) (by exact resL_cell rfl (H.get 0 rfl) (by rw [uT_eq]; exact Tryz.underlying37) (by kernel_rfl) rfl rfl rfl) ?_
  refine RW.mk H (.row ⟨[.int .i64 0, .int .i64 0], 37, false⟩) ?_
  clear H; intro _ b62 _ H
  refine RW.st H 0 [.int .i64 1, .int .i64 0] [.int .i64 1, .int .i64 0] ?_
  clear H; intro _ _ H
  dsimp only [setL, delL] at H
  refine RW.nil ?_
  replace H := (((((((H.del 11).del 10).del 6).del 5).del 4).del 3).del 1)
  dsimp only [setL, delL] at H
  refine W.rg [(4, pt b7), (8, pt b11), (9, pt b12), (12, pt b40), (18, pt b62)] fun TA => ?_
  refine W.seq ?_
  refine W.seq ?_
  refine W.region ?_
  refine RW.ld H 2 1 ?_
  refine RW.cl ?_
  refine WC.enter (fn := Tryz.f86) Tryz.func86 rfl ?_
  refine W.rg [(0, .slice none 0 0)] fun TA => ?_
  refine W.seq ?_
  refine W.region ?_
  refine RW.mk H (.row ⟨[.slice none 0 0], 29, false⟩) ?_
  clear H; intro _ b63 _ H
  refine RW.v ?_
  refine RW.nil ?_
  refine W.rg [(1, pt b63)] fun TA => ?_
  refine W.seq ?_
  refine W.region ?_
  refine RW.val (v := .func (.func 115) #[] #[.pointer (some ⟨b63, 0, none⟩)]) (by kernel_rfl) (by kernel_rfl) (by kernel_rfl) (by kernel_rfl) ?_
  refine RW.v ?_
  refine RW.nil ?_
  refine W.rg [(2, .func (.func 115) #[] #[pt b63])] fun TA => ?_
  refine W.ret ?_
  refine endG (by rfl) (by exact resL_tmp rfl) ?_
  refine RW.nil ?_
  replace H := (H.del 3)
  dsimp only [setL, delL] at H
  refine W.rg [(4, pt b7), (8, pt b11), (9, pt b12), (18, pt b62), (57, .func (.func 115) #[] #[pt b63])] fun TA => ?_
  refine W.block ?_
  refine W.rst [(4, .pointer (some ⟨b7, 0, none⟩)), (8, .pointer (some ⟨b11, 0, none⟩)), (9, .pointer (some ⟨b12, 0, none⟩)), (18, .pointer (some ⟨b62, 0, none⟩)), (57, .func (.func 115) #[] #[.pointer (some ⟨b63, 0, none⟩)])] ⟨rfl, rfl, rfl, rfl, rfl, trivial⟩ fun TL68 => ?_
  refine W.rangeL H rfl (fun _ h => nomatch h) (fun _ h => nomatch h) (by kernel_rfl) fun _ d64 b65 lp66 hl67 H => ?_
  refine WC.enter (fn := Tryz.f115) Tryz.func115 rfl ?_
  refine W.rg [(0, .func (.yield b65) #[] #[]), (1, pt b63)] fun TA => ?_
  refine W.seq ?_
  refine W.region ?_
  refine RW.ld H 2 1 ?_
  refine RW.v ?_
  refine RW.v ?_
  refine RW.v ?_
  refine RW.nil ?_
  refine W.rg [(0, .func (.yield b65) #[] #[]), (1, pt b63), (3, .int .i64 (-1))] fun TA => ?_
  refine W.block ?_
  refine W.unroll (WL.once ?_)
  refine W.seq ?_
  refine W.seq ?_
  refine W.region ?_
  refine RW.v ?_
  refine RW.v ?_
  refine RW.nil ?_
  refine W.rg [(0, .func (.yield b65) #[] #[]), (1, pt b63), (3, .int .i64 (-1)), (8, .bool false)] fun TA => ?_
  refine W.c0 ?_
  refine W.exit _ ?_
  refine seqQ_exit ?_
  refine onceQ_exit ?_
  refine blkQ_here ?_
  refine endG (by rfl) (by exact rfl) ?_
  refine ⟨_, _, _, 0, _, _, _, _, H, rfl, hl67, rfl, rfl, ?_⟩
  clear H; intro _ H
  dsimp only [setL, delL] at H
  refine blkQ_normal ?_
  refine W.seq ?_
  refine W.region ?_
  refine RW.ld H 2 2 ?_
  refine RW.st H 5 [.int .i64 1, .int .i64 0] [.int .i64 1, .int .i64 0] ?_
  clear H; intro _ _ H
  dsimp only [setL, delL] at H
  refine RW.st H 4 [.int .i64 0] [.int .i64 0] ?_
  clear H; intro _ _ H
  dsimp only [setL, delL] at H
  refine RW.nil ?_
  replace H := (((H.del 6).del 2).del 1)
  dsimp only [setL, delL] at H
  refine W.rg [(8, pt b11), (9, pt b12)] fun TA => ?_
  refine W.ret ?_
  refine endMark H 0 rfl fun _ H => ?_
  dsimp only [setL, delL] at H
  refine endMark H 0 rfl fun _ H => ?_
  dsimp only [setL, delL] at H
  refine endGD0 (by rfl) (by exact resL_cell rfl (H.get 1 rfl) (by rw [uT_eq]; exact Tryz.underlying37) (by kernel_rfl) rfl rfl (by exact resL_cell rfl (H.get 0 rfl) (by rw [uT_eq]; exact Tryz.underlying24) (by kernel_rfl) rfl rfl rfl)) ?_
  have H69 := H
  refine RW.v ?_
  refine RW.v ?_
  refine RW.stD H69 3 (vs := [.int .i64 1, .int .i64 0]) (cs' := [.int .i64 1, .int .i64 0]) (by kernel_rfl) (by kernel_rfl) rfl rfl rfl rfl rfl (by kernel_rfl) (Nat.le_of_ble_eq_true rfl) rfl (by kernel_rfl) ?_
  intro _ H70
  dsimp only [setL, delL] at H70
  refine RW.v ?_
  refine RW.nil ?_
  refine ⟨⟨by kernel_rfl, ⟨trivial, dyn_row (H4.get 2 rfl) (H70.get 5 rfl) ⟨fun h => Bool.noConfusion h, fun h => Bool.noConfusion h, fun h => Bool.noConfusion h, fun _ => H4.get 2 rfl, fun _ => H6.get 3 rfl, fun h => Bool.noConfusion h, fun h => Bool.noConfusion h, fun _ => H69.get 5 rfl, fun h => Bool.noConfusion h, trivial⟩, dyn_row (H4.get 1 rfl) (H70.get 4 rfl) ⟨fun h => Bool.noConfusion h, fun h => Bool.noConfusion h, fun h => Bool.noConfusion h, fun _ => H4.get 1 rfl, fun _ => H6.get 2 rfl, fun h => Bool.noConfusion h, fun h => Bool.noConfusion h, fun _ => H69.get 4 rfl, fun h => Bool.noConfusion h, trivial⟩, trivial, trivial, trivial, trivial, trivial, trivial, trivial⟩⟩, ?_⟩
  replace H := H70
  clear H4 H6 H69 H70
  replace H := (((((H.del 5).del 4).del 2).del 1).del 0)
  dsimp only [setL, delL] at H
  refine W.rg [(6, pt b3), (7, .int .i64 0)] fun TA => ?_
  refine W.ret ?_
  refine endG (by rfl) (by exact resL_cell rfl (H.get 0 rfl) (by rw [uT_eq]; exact Tryz.underlying37) (by kernel_rfl) rfl rfl (by exact resL_tmp rfl)) ?_
  exact ⟨rfl, (H.del 0)⟩
end
end Go.Proofs.YtehcckhdppdkcaaGreatDoor
