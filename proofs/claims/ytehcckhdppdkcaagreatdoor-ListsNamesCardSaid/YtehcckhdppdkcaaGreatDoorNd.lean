/-
  Member on counts' lists (ListsNames). Conditions: the heap lies there as HeapAt says.
-/
import Derived.Test.YtehcckhdppdkcaaGreatDoorNc
import Derived.Test.YtehcckhdppdkcaaGreatDoorWq
namespace Go.Proofs.YtehcckhdppdkcaaGreatDoor
set_option maxRecDepth 100000
section
variable {G h : Nat} {σ : Mem} {F : Nat → Option Blk2} {L : List Ent}
set_option maxHeartbeats 4000000 in
theorem member_once  (H : Lies G (heapAbs h (hmN 52)) F σ (L)) : WC G Tryz.prog 35 #[.pointer (some ⟨h, 0, none⟩), .agg #[.int .i64 2, .int .i64 46], .agg #[.int .i64 2, .int .i64 48]] σ fun v σ' => v = .tuple #[.agg #[.int .i64 1, .int .i64 0], .int .i64 0] ∧ Lies G (heapAbs h (hmN 52)) F σ' (L) := by
  refine WC.enter (fn := Tryz.f35) Tryz.func35 rfl ?_
  refine W.rg [(0, pt h), (1, .agg #[.int .i64 2, .int .i64 46]), (2, .agg #[.int .i64 2, .int .i64 48])] fun TA => ?_
  refine W.seq ?_
  refine W.region ?_
  refine RW.mk H (.row ⟨[.int .i64 2, .int .i64 46], 37, false⟩) ?_
  clear H; intro _ b1 _ H
  refine RW.mk H (.row ⟨[.int .i64 2, .int .i64 48], 37, false⟩) ?_
  clear H; intro _ b2 _ H
  refine RW.mk H (.row ⟨[.int .i64 0, .int .i64 0], 37, false⟩) ?_
  clear H; intro _ b3 _ H
  refine RW.v ?_
  refine RW.nil ?_
  refine W.rg [(0, pt h), (4, pt b1), (5, pt b2), (6, pt b3)] fun TA => ?_
  refine W.seq ?_
  refine W.drawn (by kernel_rfl) (by kernel_rfl) H.gn ?_
  have H4 := H
  refine RW.v ?_
  refine RW.ld H4 2 2 ?_
  refine RW.ld H4 1 2 ?_
  refine RW.cl ?_
  refine WC.enter (fn := Tryz.f50) Tryz.func50 rfl ?_
  replace H := H4
  refine W.rg [] fun TA => ?_
  refine W.seq ?_
  refine W.region ?_
  refine RW.v ?_
  refine RW.nil ?_
  refine W.rg [] fun TA => ?_
  refine W.seq ?_
  refine W.region ?_
  refine RW.mk H (.row ⟨[.int .i64 0], 3, false⟩) ?_
  clear H; intro _ b5 _ H
  refine RW.st H 0 [.int .i64 200000] [.int .i64 200000] ?_
  clear H; intro _ _ H
  dsimp only [setL, delL] at H
  refine RW.nil ?_
  refine W.rg [(1, pt b5)] fun TA => ?_
  refine W.seq ?_
  refine W.region ?_
  refine RW.val (v := .func (.func 81) #[] #[.pointer (some ⟨b5, 0, none⟩)]) (by kernel_rfl) (by kernel_rfl) (by kernel_rfl) (by kernel_rfl) ?_
  refine RW.v ?_
  refine RW.nil ?_
  refine W.rg [(0, .func (.func 81) #[] #[pt b5])] fun TA => ?_
  refine W.ret ?_
  refine endG (by rfl) (by exact resL_tmp rfl) ?_
  have H6 := H
  refine RW.cl ?_
  refine WC.enterD (fn := Tryz.f60) Tryz.func60 rfl ?_
  replace H := H6
  refine W.rg [(0, pt h), (1, .agg #[.int .i64 2, .int .i64 46]), (2, .agg #[.int .i64 2, .int .i64 48]), (3, .func (.func 81) #[] #[pt b5]), (4, .bool false)] fun TA => ?_
  refine W.seq ?_
  refine W.region ?_
  refine RW.mk H (.row ⟨[pt h], 23, false⟩) ?_
  clear H; intro _ b7 _ H
  refine RW.mk H (.row ⟨[.int .i64 2, .int .i64 46], 37, false⟩) ?_
  clear H; intro _ b8 _ H
  refine RW.mk H (.row ⟨[.int .i64 2, .int .i64 48], 37, false⟩) ?_
  clear H; intro _ b9 _ H
  refine RW.mk H (.row ⟨[.func (.func 81) #[] #[pt b5]], 35, false⟩) ?_
  clear H; intro _ b10 _ H
  refine RW.mk H (.row ⟨[.bool false], 4, false⟩) ?_
  clear H; intro _ b11 _ H
  refine RW.mk H (.row ⟨[.int .i64 0, .int .i64 0], 37, false⟩) ?_
  clear H; intro _ b12 _ H
  refine RW.mk H (.row ⟨[.int .i64 0], 24, false⟩) ?_
  clear H; intro _ b13 _ H
  refine RW.nil ?_
  refine W.rg [(5, pt b7), (6, pt b8), (7, pt b9), (8, pt b10), (9, pt b11), (10, pt b12), (11, pt b13)] fun TA => ?_
  refine W.seq ?_
  refine W.seq ?_
  refine W.region ?_
  refine RW.ld H 6 1 ?_
  refine RW.cl ?_
  refine WC.enter (fn := Tryz.f51) Tryz.func51 rfl ?_
  refine W.rg [(0, pt h)] fun TA => ?_
  refine W.seq ?_
  refine W.region ?_
  refine RW.v ?_
  refine RW.nil ?_
  refine W.rg [(0, pt h)] fun TA => ?_
  refine W.seq ?_
  refine W.region ?_
  refine RW.v ?_
  refine RW.call (by kernel_rfl) (by kernel_rfl) rfl rfl rfl (by kernel_rfl) (by kernel_rfl) ⟨_, _, (c_limit (G := G) (n := 52) H.abs), ?_⟩
  refine RW.v ?_
  refine RW.v ?_
  refine RW.nil ?_
  refine W.rg [(2, .bool true)] fun TA => ?_
  refine W.ret ?_
  refine endG (by rfl) (by exact resL_tmp rfl) ?_
  refine RW.v ?_
  refine RW.nil ?_
  refine W.rg [(5, pt b7), (6, pt b8), (7, pt b9), (8, pt b10), (9, pt b11), (10, pt b12), (11, pt b13), (21, .bool false)] fun TA => ?_
  refine W.c0 ?_
  refine W.skip ?_
  refine W.seq ?_
  refine W.drawn (by kernel_rfl) (by kernel_rfl) H.gn ?_
  have H14 := H
  refine RW.ld H14 4 2 ?_
  refine RW.mkD H14 (x := .row ⟨[.int .i64 0], 3, false⟩) (fm := fun b => .pointer (some ⟨b, 0, none⟩)) (by kernel_rfl) (by kernel_rfl) (by kernel_rfl) (by kernel_rfl) ?_
  intro _ b15 H16
  refine RW.mkD H16 (x := .row ⟨[.int .i64 0, .int .i64 0], 37, false⟩) (fm := fun b => .pointer (some ⟨b, 0, none⟩)) (by kernel_rfl) (by kernel_rfl) (by kernel_rfl) (by kernel_rfl) ?_
  intro _ b17 H18
  refine RW.stD H18 1 (vs := [.int .i64 0]) (cs' := [.int .i64 0]) (by kernel_rfl) (by kernel_rfl) rfl rfl rfl rfl rfl (by kernel_rfl) (Nat.le_of_ble_eq_true rfl) rfl (by kernel_rfl) ?_
  intro _ H19
  dsimp only [setL, delL] at H19
  refine RW.stD H19 0 (vs := [.int .i64 2, .int .i64 48]) (cs' := [.int .i64 2, .int .i64 48]) (by kernel_rfl) (by kernel_rfl) rfl rfl rfl rfl rfl (by kernel_rfl) (Nat.le_of_ble_eq_true rfl) rfl (by kernel_rfl) ?_
  intro _ H20
  dsimp only [setL, delL] at H20
  refine RW.nil ?_
  refine ⟨⟨by kernel_rfl, ⟨dyn_row (H14.get 4 rfl) (H20.get 6 rfl) ⟨fun h => Bool.noConfusion h, fun h => Bool.noConfusion h, fun h => Bool.noConfusion h, fun _ => H18.get 6 rfl, fun _ => H19.get 6 rfl, trivial⟩, Or.inl (by kernel_rfl), Or.inl (by kernel_rfl), trivial, trivial, trivial⟩⟩, ?_⟩
  replace H := H20
  clear H14 H16 H18 H19 H20
  refine W.rg [(5, pt b7), (6, pt b8), (7, pt b9), (8, pt b10), (9, pt b11), (10, pt b12), (11, pt b13), (12, pt b15), (13, pt b17)] fun TA => ?_
  refine W.seq ?_
  refine W.seq ?_
  refine W.region ?_
  refine RW.ld H 8 1 ?_
  refine RW.ld H 6 2 ?_
  refine RW.cl ?_
  refine WC.enter (fn := Tryz.f56) Tryz.func56 rfl ?_
  refine W.rg [(0, pt h), (1, .agg #[.int .i64 2, .int .i64 48]), (2, pt b17)] fun TA => ?_
  refine W.seq ?_
  refine W.region ?_
  refine RW.mk H (.row ⟨[pt h], 23, false⟩) ?_
  clear H; intro _ b21 _ H
  refine RW.mk H (.row ⟨[.int .i64 2, .int .i64 48], 37, false⟩) ?_
  clear H; intro _ b22 _ H
  refine RW.mk H (.row ⟨[pt b17], 94, false⟩) ?_
  clear H; intro _ b23 _ H
  refine RW.v ?_
  refine RW.nil ?_
  refine W.rg [(3, pt b21), (4, pt b22), (5, pt b23)] fun TA => ?_
  refine W.seq ?_
  refine W.region ?_
  refine RW.val (v := .func (.func 87) #[] #[.pointer (some ⟨b21, 0, none⟩), .pointer (some ⟨b22, 0, none⟩), .pointer (some ⟨b23, 0, none⟩)]) (by kernel_rfl) (by kernel_rfl) (by kernel_rfl) (by kernel_rfl) ?_
  refine RW.v ?_
  refine RW.nil ?_
  refine W.rg [(6, .func (.func 87) #[] #[pt b21, pt b22, pt b23])] fun TA => ?_
  refine W.ret ?_
  refine endG (by rfl) (by exact resL_tmp rfl) ?_
  refine RW.nil ?_
  replace H := (H.del 9)
  dsimp only [setL, delL] at H
  refine W.rg [(5, pt b7), (6, pt b8), (8, pt b10), (9, pt b11), (10, pt b12), (11, pt b13), (12, pt b15), (13, pt b17), (26, .func (.func 87) #[] #[pt b21, pt b22, pt b23])] fun TA => ?_
  refine W.block ?_
  refine W.rst [(5, .pointer (some ⟨b7, 0, none⟩)), (6, .pointer (some ⟨b8, 0, none⟩)), (8, .pointer (some ⟨b10, 0, none⟩)), (9, .pointer (some ⟨b11, 0, none⟩)), (10, .pointer (some ⟨b12, 0, none⟩)), (11, .pointer (some ⟨b13, 0, none⟩)), (12, .pointer (some ⟨b15, 0, none⟩)), (13, .pointer (some ⟨b17, 0, none⟩)), (26, .func (.func 87) #[] #[.pointer (some ⟨b21, 0, none⟩), .pointer (some ⟨b22, 0, none⟩), .pointer (some ⟨b23, 0, none⟩)])] ⟨rfl, rfl, rfl, rfl, rfl, rfl, rfl, rfl, rfl, trivial⟩ fun TL28 => ?_
  refine W.rangeL H rfl (fun _ h => nomatch h) (fun _ h => nomatch h) (by kernel_rfl) fun _ d24 b25 lp26 hl27 H => ?_
  refine WC.enter (fn := Tryz.f87) Tryz.func87 rfl ?_
  refine W.rg [(0, .func (.yield b25) #[] #[]), (1, pt b21), (2, pt b22), (3, pt b23)] fun TA => ?_
  refine W.seq ?_
  refine W.block ?_
  refine W.unroll (WL.once ?_)
  refine W.seq ?_
  refine W.seq ?_
  refine W.region ?_
  refine RW.ld H 4 1 ?_
  refine RW.ld H 3 2 ?_
  refine RW.cl ?_
  refine WC.enter (fn := Tryz.f88) Tryz.func88 rfl ?_
  refine W.rg [(0, pt h), (1, .agg #[.int .i64 2, .int .i64 48])] fun TA => ?_
  refine W.seq ?_
  refine W.region ?_
  refine RW.mk H (.row ⟨[.int .i64 2, .int .i64 48], 37, false⟩) ?_
  clear H; intro _ b29 _ H
  refine RW.v ?_
  refine RW.nil ?_
  refine W.rg [(0, pt h), (3, pt b29)] fun TA => ?_
  refine W.seq ?_
  refine W.region ?_
  refine RW.v ?_
  refine RW.ld H 0 1 ?_
  refine RW.v ?_
  refine RW.v ?_
  refine RW.val (by rfl) (by kernel_rfl) rfl (by kernel_rfl) ?_
  refine RW.ldL H 0 2 (by rfl) (by kernel_rfl) rfl rfl rfl rfl rfl (by kernel_rfl) ?_
  refine RW.call (by rfl) (by kernel_rfl) rfl rfl rfl (by kernel_rfl) (by kernel_rfl) ⟨_, _, (c_live (G := G) (n := 52) (k := 48) (a := ((2, 45) : Wd)) (d := ((1, 0) : Wd)) H.abs (by decide) rfl), ?_⟩
  refine RW.v ?_
  refine RW.v ?_
  refine RW.nil ?_
  replace H := (H.del 0)
  dsimp only [setL, delL] at H
  refine W.rg [(4, .bool true)] fun TA => ?_
  refine W.ret ?_
  refine endG (by rfl) (by exact resL_tmp rfl) ?_
  refine RW.nil ?_
  refine W.rg [(0, .func (.yield b25) #[] #[]), (1, pt b21), (2, pt b22), (3, pt b23), (9, .bool true)] fun TA => ?_
  refine W.c1 ?_
  refine W.skip ?_
  refine W.block ?_
  refine W.seq ?_
  refine W.region ?_
  refine RW.ld H 4 1 ?_
  refine RW.ld H 3 2 ?_
  refine RW.call (by kernel_rfl) (by kernel_rfl) rfl rfl rfl (by kernel_rfl) (by kernel_rfl) ⟨_, _, (c_car (G := G) (n := 52) (k := 48) (a := ((2, 45) : Wd)) (d := ((1, 0) : Wd)) H.abs (by decide) rfl), ?_⟩
  refine RW.v ?_
  refine RW.v ?_
  refine RW.v ?_
  refine RW.mk H (.row ⟨[.int .i64 0, .int .i64 0], 37, false⟩) ?_
  clear H; intro _ b30 _ H
  refine RW.st H 0 [.int .i64 2, .int .i64 45] [.int .i64 2, .int .i64 45] ?_
  clear H; intro _ _ H
  dsimp only [setL, delL] at H
  refine RW.v ?_
  refine RW.nil ?_
  refine W.rg [(0, .func (.yield b25) #[] #[]), (1, pt b21), (2, pt b22), (3, pt b23), (5, pt b30)] fun TA => ?_
  refine W.seq ?_
  refine W.seq ?_
  refine W.region ?_
  refine RW.v ?_
  refine RW.ld H 4 2 ?_
  refine RW.ld H 0 2 ?_
  refine RW.yieldL H 1 rfl hl27 (by kernel_rfl) (by kernel_rfl) rfl rfl rfl rfl rfl (by kernel_rfl) ?_
  refine W.rg [(5, pt b7), (6, pt b8), (8, pt b10), (9, pt b11), (10, pt b12), (11, pt b13), (12, pt b15), (13, pt b17), (26, .func (.func 87) #[] #[pt b21, pt b22, pt b23]), (27, .agg #[.int .i64 2, .int .i64 48]), (28, .agg #[.int .i64 2, .int .i64 45])] fun TA => ?_
  refine W.seq ?_
  refine W.region ?_
  refine RW.mk H (.row ⟨[.int .i64 0, .int .i64 0], 37, false⟩) ?_
  clear H; intro _ b31 _ H
  refine RW.st H 0 [.int .i64 2, .int .i64 48] [.int .i64 2, .int .i64 48] ?_
  clear H; intro _ _ H
  dsimp only [setL, delL] at H
  refine RW.nil ?_
  refine W.rg [(5, pt b7), (6, pt b8), (8, pt b10), (9, pt b11), (10, pt b12), (11, pt b13), (12, pt b15), (13, pt b17), (14, pt b31), (26, .func (.func 87) #[] #[pt b21, pt b22, pt b23]), (27, .agg #[.int .i64 2, .int .i64 48]), (28, .agg #[.int .i64 2, .int .i64 45])] fun TA => ?_
  refine W.region ?_
  refine RW.mk H (.row ⟨[.int .i64 0, .int .i64 0], 37, false⟩) ?_
  clear H; intro _ b32 _ H
  refine RW.st H 0 [.int .i64 2, .int .i64 45] [.int .i64 2, .int .i64 45] ?_
  clear H; intro _ _ H
  dsimp only [setL, delL] at H
  refine RW.nil ?_
  refine ⟨rfl, _, _, _, 3, H, rfl, ?_⟩
  clear H; intro _ lq33 hq34 H
  dsimp only [setL, delL] at H
  refine W.rg [(5, pt b7), (6, pt b8), (8, pt b10), (9, pt b11), (10, pt b12), (11, pt b13), (12, pt b15), (13, pt b17), (14, pt b31), (15, pt b32), (26, .func (.func 87) #[] #[pt b21, pt b22, pt b23]), (27, .agg #[.int .i64 2, .int .i64 48]), (28, .agg #[.int .i64 2, .int .i64 45])] fun TA => ?_
  refine W.block ?_
  refine W.seq ?_
  refine W.seq ?_
  refine W.region ?_
  refine RW.ld H 9 1 ?_
  refine RW.v ?_
  refine RW.st H 9 [.int .i64 1] [.int .i64 1] ?_
  clear H; intro _ _ H
  dsimp only [setL, delL] at H
  refine RW.nil ?_
  refine W.rg [(5, pt b7), (6, pt b8), (8, pt b10), (9, pt b11), (10, pt b12), (11, pt b13), (12, pt b15), (13, pt b17), (14, pt b31), (15, pt b32), (26, .func (.func 87) #[] #[pt b21, pt b22, pt b23]), (27, .agg #[.int .i64 2, .int .i64 48]), (28, .agg #[.int .i64 2, .int .i64 45])] fun TA => ?_
  refine W.seq ?_
  refine W.region ?_
  refine RW.ld H 9 1 ?_
  refine RW.v ?_
  refine RW.nil ?_
  refine W.rg [(5, pt b7), (6, pt b8), (8, pt b10), (9, pt b11), (10, pt b12), (11, pt b13), (12, pt b15), (13, pt b17), (14, pt b31), (15, pt b32), (26, .func (.func 87) #[] #[pt b21, pt b22, pt b23]), (27, .agg #[.int .i64 2, .int .i64 48]), (28, .agg #[.int .i64 2, .int .i64 45]), (32, .bool false)] fun TA => ?_
  refine W.c0 ?_
  refine W.skip ?_
  refine W.seq ?_
  refine W.region ?_
  refine RW.ld H 1 2 ?_
  refine RW.mk H (.row ⟨[.int .i64 0, .int .i64 0], 37, false⟩) ?_
  clear H; intro _ b35 _ H
  refine RW.st H 0 [.int .i64 2, .int .i64 48] [.int .i64 2, .int .i64 48] ?_
  clear H; intro _ _ H
  dsimp only [setL, delL] at H
  refine RW.nil ?_
  replace H := (H.del 2)
  dsimp only [setL, delL] at H
  refine W.rg [(5, pt b7), (6, pt b8), (8, pt b10), (9, pt b11), (10, pt b12), (11, pt b13), (12, pt b15), (13, pt b17), (15, pt b32), (16, pt b35), (26, .func (.func 87) #[] #[pt b21, pt b22, pt b23]), (27, .agg #[.int .i64 2, .int .i64 48]), (28, .agg #[.int .i64 2, .int .i64 45])] fun TA => ?_
  refine W.seq ?_
  refine W.seq ?_
  refine W.region ?_
  refine RW.ld H 12 1 ?_
  refine RW.nil ?_
  refine W.rg [(5, pt b7), (6, pt b8), (8, pt b10), (9, pt b11), (10, pt b12), (11, pt b13), (12, pt b15), (13, pt b17), (15, pt b32), (16, pt b35), (26, .func (.func 87) #[] #[pt b21, pt b22, pt b23]), (27, .agg #[.int .i64 2, .int .i64 48]), (28, .agg #[.int .i64 2, .int .i64 45]), (35, .bool false)] fun TA => ?_
  refine W.c0 ?_
  refine W.skip ?_
  refine W.seq ?_
  refine W.region ?_
  refine RW.ld H 13 1 ?_
  refine RW.ld H 15 1 ?_
  refine RW.ld H 14 2 ?_
  refine RW.ld H 1 2 ?_
  refine RW.cl ?_
  refine WC.enter (fn := Tryz.f81) Tryz.func81 rfl ?_
  refine W.rg [(0, pt h), (1, .agg #[.int .i64 2, .int .i64 46]), (2, .agg #[.int .i64 2, .int .i64 45]), (3, pt b5)] fun TA => ?_
  refine W.seq ?_
  refine W.region ?_
  refine RW.mk H (.row ⟨[.int .i64 2, .int .i64 46], 37, false⟩) ?_
  clear H; intro _ b36 _ H
  refine RW.mk H (.row ⟨[.int .i64 2, .int .i64 45], 37, false⟩) ?_
  clear H; intro _ b37 _ H
  refine RW.v ?_
  refine RW.v ?_
  refine RW.nil ?_
  refine W.rg [(0, pt h), (3, pt b5), (5, pt b36), (6, pt b37)] fun TA => ?_
  refine W.seq ?_
  refine W.region ?_
  refine RW.v ?_
  refine RW.ld H 1 2 ?_
  refine RW.ld H 0 2 ?_
  refine RW.call (by kernel_rfl) (by kernel_rfl) rfl rfl rfl (by kernel_rfl) (by kernel_rfl) ((equal_ok (G := G) (h := h) (r := false) (d := 16) (n := 200000) (n' := 68929) (k := 18) (Lp := b5) (a := ((2, 46) : Wd)) (b := ((2, 45) : Wd)) H rfl (T_ac (n := 52) (by decide) 16 (by decide)) (by decide) (by decide) (by rw [cost16]) (by decide)).mono ?_)
  clear H
  rintro _ _ ⟨rfl, H⟩
  dsimp only [setL, delL] at H
  refine RW.v ?_
  refine RW.v ?_
  refine RW.v ?_
  refine RW.v ?_
  refine RW.nil ?_
  replace H := ((H.del 1).del 0)
  dsimp only [setL, delL] at H
  refine W.rg [(7, .bool false), (8, .int .i64 0)] fun TA => ?_
  refine W.ret ?_
  refine endG (by rfl) (by exact resL_tmp (by exact resL_tmp rfl)) ?_
  refine RW.v ?_
  refine RW.v ?_
  refine RW.v ?_
  refine RW.v ?_
  refine RW.v ?_
  refine RW.nil ?_
  replace H := (H.del 1)
  dsimp only [setL, delL] at H
  refine W.rg [(5, pt b7), (6, pt b8), (8, pt b10), (9, pt b11), (10, pt b12), (11, pt b13), (12, pt b15), (13, pt b17), (16, pt b35), (17, .bool false), (18, .int .i64 0), (26, .func (.func 87) #[] #[pt b21, pt b22, pt b23]), (27, .agg #[.int .i64 2, .int .i64 48]), (28, .agg #[.int .i64 2, .int .i64 45])] fun TA => ?_
  refine W.block ?_
  refine W.seq ?_
  refine W.region ?_
  refine RW.v ?_
  refine RW.v ?_
  refine RW.v ?_
  refine RW.nil ?_
  refine W.rg [(5, pt b7), (6, pt b8), (8, pt b10), (9, pt b11), (10, pt b12), (11, pt b13), (12, pt b15), (13, pt b17), (16, pt b35), (17, .bool false), (18, .int .i64 0), (26, .func (.func 87) #[] #[pt b21, pt b22, pt b23]), (27, .agg #[.int .i64 2, .int .i64 48]), (28, .agg #[.int .i64 2, .int .i64 45]), (55, .bool false)] fun TA => ?_
  refine W.c0 ?_
  refine W.seq ?_
  refine W.region ?_
  refine RW.v ?_
  refine RW.v ?_
  refine RW.nil ?_
  refine W.rg [(5, pt b7), (6, pt b8), (8, pt b10), (9, pt b11), (10, pt b12), (11, pt b13), (12, pt b15), (13, pt b17), (16, pt b35), (26, .func (.func 87) #[] #[pt b21, pt b22, pt b23]), (27, .agg #[.int .i64 2, .int .i64 48]), (28, .agg #[.int .i64 2, .int .i64 45]), (60, .bool false)] fun TA => ?_
  refine W.c0 ?_
  refine W.skip ?_
  refine blkQ_normal ?_
  refine blkQ_normal ?_
  refine ⟨_, _, _, 2, true, .ready, none, H, rfl, rfl, ?_⟩
  clear H; intro _ lr38 _ hr39 H
  dsimp only [setL, delL] at H
  refine RW.v ?_
  refine RW.nil ?_
  replace H := ((H.del 1).del 0)
  dsimp only [setL, delL] at H
  refine W.rg [(0, .func (.yield b25) #[] #[]), (1, pt b21), (2, pt b22), (3, pt b23), (20, .bool false)] fun TA => ?_
  refine W.c0 ?_
  refine W.skip ?_
  refine W.region ?_
  refine RW.ld H 4 1 ?_
  refine RW.ld H 3 2 ?_
  refine RW.call (by kernel_rfl) (by kernel_rfl) rfl rfl rfl (by kernel_rfl) (by kernel_rfl) ⟨_, _, (c_cdr (G := G) (n := 52) (k := 48) (a := ((2, 45) : Wd)) (d := ((1, 0) : Wd)) H.abs (by decide) rfl), ?_⟩
  refine RW.v ?_
  refine RW.v ?_
  refine RW.v ?_
  refine RW.st H 3 [.int .i64 1, .int .i64 0] [.int .i64 1, .int .i64 0] ?_
  clear H; intro _ _ H
  dsimp only [setL, delL] at H
  refine RW.nil ?_
  refine blkQ_normal ?_
  refine WL.once ?_
  refine W.rg [(0, .func (.yield b25) #[] #[]), (1, pt b21), (2, pt b22), (3, pt b23)] fun TA => ?_
  refine W.seq ?_
  refine W.seq ?_
  refine W.region ?_
  refine RW.ld H 4 1 ?_
  refine RW.ld H 3 2 ?_
  refine RW.cl ?_
  refine WC.enter (fn := Tryz.f88) Tryz.func88 rfl ?_
  refine W.rg [(0, pt h), (1, .agg #[.int .i64 1, .int .i64 0])] fun TA => ?_
  refine W.seq ?_
  refine W.region ?_
  refine RW.mk H (.row ⟨[.int .i64 1, .int .i64 0], 37, false⟩) ?_
  clear H; intro _ b40 _ H
  refine RW.v ?_
  refine RW.nil ?_
  refine W.rg [(0, pt h), (3, pt b40)] fun TA => ?_
  refine W.seq ?_
  refine W.region ?_
  refine RW.v ?_
  refine RW.ld H 0 1 ?_
  refine RW.v ?_
  refine RW.v ?_
  refine RW.skip (by rfl) (by kernel_rfl) ?_
  refine RW.skip (by rfl) (by kernel_rfl) ?_
  refine RW.skip (by rfl) (by kernel_rfl) ?_
  refine RW.v ?_
  refine RW.v ?_
  refine RW.nil ?_
  replace H := (H.del 0)
  dsimp only [setL, delL] at H
  refine W.rg [(4, .bool false)] fun TA => ?_
  refine W.ret ?_
  refine endG (by rfl) (by exact resL_tmp rfl) ?_
  refine RW.nil ?_
  refine W.rg [(0, .func (.yield b25) #[] #[]), (1, pt b21), (2, pt b22), (3, pt b23), (9, .bool false)] fun TA => ?_
  refine W.c0 ?_
  refine W.exit _ ?_
  refine seqQ_exit ?_
  refine onceQ_exit ?_
  refine blkQ_here ?_
  refine W.region ?_
  refine RW.ld H 2 1 ?_
  refine RW.ld H 3 2 ?_
  refine RW.v ?_
  refine RW.st H 5 [.int .i64 1, .int .i64 0] [.int .i64 1, .int .i64 0] ?_
  clear H; intro _ _ H
  dsimp only [setL, delL] at H
  refine RW.nil ?_
  refine endG (by rfl) (by exact rfl) ?_
  refine ⟨_, _, _, 0, _, _, _, _, H, rfl, hr39, rfl, rfl, ?_⟩
  clear H; intro _ H
  dsimp only [setL, delL] at H
  refine blkQ_normal ?_
  refine W.rg [(5, pt b7), (6, pt b8), (8, pt b10), (9, pt b11), (10, pt b12), (11, pt b13), (12, pt b15), (13, pt b17), (26, .func (.func 87) #[] #[pt b21, pt b22, pt b23])] fun TA => ?_
  refine W.seq ?_
  refine W.seq ?_
  refine W.region ?_
  refine RW.ld H 4 2 ?_
  refine RW.cl ?_
  refine WC.enter (fn := Tryz.f57) Tryz.func57 rfl ?_
  refine W.rg [(0, .agg #[.int .i64 1, .int .i64 0])] fun TA => ?_
  refine W.seq ?_
  refine W.region ?_
  refine RW.mk H (.row ⟨[.int .i64 1, .int .i64 0], 37, false⟩) ?_
  clear H; intro _ b41 _ H
  refine RW.v ?_
  refine RW.nil ?_
  refine W.rg [(1, pt b41)] fun TA => ?_
  refine W.seq ?_
  refine W.drawn (by kernel_rfl) (by kernel_rfl) H.gn ?_
  have H42 := H
  refine RW.ld H42 0 2 ?_
  refine RW.cl ?_
  refine WC.enter (fn := Tryz.f54) Tryz.func54 rfl ?_
  replace H := H42
  refine W.rg [] fun TA => ?_
  refine W.seq ?_
  refine W.region ?_
  refine RW.mk H (.row ⟨[.int .i64 0, .int .i64 0], 37, false⟩) ?_
  clear H; intro _ b43 _ H
  refine RW.nil ?_
  refine W.rg [(0, pt b43)] fun TA => ?_
  refine W.seq ?_
  refine W.region ?_
  refine RW.val (v := .agg #[.int .i64 1, .int .i64 0]) (by kernel_rfl) (by kernel_rfl) (by kernel_rfl) (by kernel_rfl) ?_
  refine RW.st H 0 [.int .i64 1, .int .i64 0] [.int .i64 1, .int .i64 0] ?_
  clear H; intro _ _ H
  dsimp only [setL, delL] at H
  refine RW.nil ?_
  refine W.rg [(0, pt b43)] fun TA => ?_
  refine W.ret ?_
  refine endG (by rfl) (by exact resL_cell rfl (H.get 0 rfl) (by rw [uT_eq]; exact Tryz.underlying37) (by kernel_rfl) rfl rfl rfl) ?_
  have H44 := H
  refine RW.vop (v := .bool true) (by kernel_rfl) (by kernel_rfl) (vop_eqS (b := true) (r := true) rfl (.inl ⟨rfl, rfl⟩) rfl rfl rfl rfl (by kernel_rfl) (fun w => (eqWd _ _ _ _ w).trans (by simp))) (by kernel_rfl) ?_
  refine RW.v ?_
  refine RW.nil ?_
  refine ⟨⟨by kernel_rfl, ⟨dyn_row (H42.get 0 rfl) (H44.get 1 rfl) ⟨fun h => Bool.noConfusion h, fun _ => H42.get 0 rfl, fun h => Bool.noConfusion h, fun h => Bool.noConfusion h, trivial⟩, trivial, trivial, trivial, trivial⟩⟩, ?_⟩
  replace H := H44
  clear H42 H44
  replace H := ((H.del 1).del 0)
  dsimp only [setL, delL] at H
  refine W.rg [(2, .bool true)] fun TA => ?_
  refine W.ret ?_
  refine endG (by rfl) (by exact resL_tmp rfl) ?_
  refine RW.v ?_
  refine RW.nil ?_
  replace H := (((((((((H.del 11).del 10).del 9).del 8).del 5).del 4).del 3).del 2).del 1)
  dsimp only [setL, delL] at H
  refine W.rg [(10, pt b12), (11, pt b13), (65, .bool false)] fun TA => ?_
  refine W.c0 ?_
  refine W.skip ?_
  refine W.seq ?_
  refine W.region ?_
  refine RW.cl ?_
  refine WC.enter (fn := Tryz.f54) Tryz.func54 rfl ?_
  refine W.rg [] fun TA => ?_
  refine W.seq ?_
  refine W.region ?_
  refine RW.mk H (.row ⟨[.int .i64 0, .int .i64 0], 37, false⟩) ?_
  clear H; intro _ b45 _ H
  refine RW.nil ?_
  refine W.rg [(0, pt b45)] fun TA => ?_
  refine W.seq ?_
  refine W.region ?_
  refine RW.val (v := .agg #[.int .i64 1, .int .i64 0]) (by kernel_rfl) (by kernel_rfl) (by kernel_rfl) (by kernel_rfl) ?_
  refine RW.st H 0 [.int .i64 1, .int .i64 0] [.int .i64 1, .int .i64 0] ?_
  clear H; intro _ _ H
  dsimp only [setL, delL] at H
  refine RW.nil ?_
  refine W.rg [(0, pt b45)] fun TA => ?_
  refine W.ret ?_
  refine endG (by rfl) (by exact resL_cell rfl (H.get 0 rfl) (by rw [uT_eq]; exact Tryz.underlying37) (by kernel_rfl) rfl rfl rfl) ?_
  refine RW.st H 3 [.int .i64 1, .int .i64 0] [.int .i64 1, .int .i64 0] ?_
  clear H; intro _ _ H
  dsimp only [setL, delL] at H
  refine RW.st H 2 [.int .i64 0] [.int .i64 0] ?_
  clear H; intro _ _ H
  dsimp only [setL, delL] at H
  refine RW.nil ?_
  replace H := (H.del 0)
  dsimp only [setL, delL] at H
  refine W.rg [(10, pt b12), (11, pt b13)] fun TA => ?_
  refine W.ret ?_
  refine endMark H 0 rfl fun _ H => ?_
  dsimp only [setL, delL] at H
  refine endGD0 (by rfl) (by exact resL_cell rfl (H.get 1 rfl) (by rw [uT_eq]; exact Tryz.underlying37) (by kernel_rfl) rfl rfl (by exact resL_cell rfl (H.get 0 rfl) (by rw [uT_eq]; exact Tryz.underlying24) (by kernel_rfl) rfl rfl rfl)) ?_
  have H46 := H
  refine RW.v ?_
  refine RW.v ?_
  refine RW.stD H46 3 (vs := [.int .i64 1, .int .i64 0]) (cs' := [.int .i64 1, .int .i64 0]) (by kernel_rfl) (by kernel_rfl) rfl rfl rfl rfl rfl (by kernel_rfl) (Nat.le_of_ble_eq_true rfl) rfl (by kernel_rfl) ?_
  intro _ H47
  dsimp only [setL, delL] at H47
  refine RW.v ?_
  refine RW.nil ?_
  refine ⟨⟨by kernel_rfl, ⟨trivial, dyn_row (H4.get 2 rfl) (H47.get 5 rfl) ⟨fun h => Bool.noConfusion h, fun h => Bool.noConfusion h, fun h => Bool.noConfusion h, fun _ => H4.get 2 rfl, fun _ => H6.get 3 rfl, fun h => Bool.noConfusion h, fun h => Bool.noConfusion h, fun _ => H46.get 5 rfl, fun h => Bool.noConfusion h, trivial⟩, dyn_row (H4.get 1 rfl) (H47.get 4 rfl) ⟨fun h => Bool.noConfusion h, fun h => Bool.noConfusion h, fun h => Bool.noConfusion h, fun _ => H4.get 1 rfl, fun _ => H6.get 2 rfl, fun h => Bool.noConfusion h, fun h => Bool.noConfusion h, fun _ => H46.get 4 rfl, fun h => Bool.noConfusion h, trivial⟩, trivial, trivial, trivial, trivial, trivial, trivial, trivial⟩⟩, ?_⟩
  replace H := H47
  clear H4 H6 H46 H47
  replace H := (((((H.del 5).del 4).del 2).del 1).del 0)
  dsimp only [setL, delL] at H
  refine W.rg [(6, pt b3), (7, .int .i64 0)] fun TA => ?_
  refine W.ret ?_
  refine endG (by rfl) (by exact resL_cell rfl (H.get 0 rfl) (by rw [uT_eq]; exact Tryz.underlying37) (by kernel_rfl) rfl rfl (by exact resL_tmp rfl)) ?_
  exact ⟨rfl, (H.del 0)⟩
set_option maxHeartbeats 4000000 in
theorem member_twice  (H : Lies G (heapAbs h (hmN 52)) F σ (L)) : WC G Tryz.prog 35 #[.pointer (some ⟨h, 0, none⟩), .agg #[.int .i64 2, .int .i64 46], .agg #[.int .i64 2, .int .i64 51]] σ fun v σ' => v = .tuple #[.agg #[.int .i64 0, .int .i64 0], .int .i64 22] ∧ Lies G (heapAbs h (hmN 52)) F σ' (L) := by
  refine WC.enter (fn := Tryz.f35) Tryz.func35 rfl ?_
  refine W.rg [(0, pt h), (1, .agg #[.int .i64 2, .int .i64 46]), (2, .agg #[.int .i64 2, .int .i64 51])] fun TA => ?_
  refine W.seq ?_
  refine W.region ?_
  refine RW.mk H (.row ⟨[.int .i64 2, .int .i64 46], 37, false⟩) ?_
  clear H; intro _ b1 _ H
  refine RW.mk H (.row ⟨[.int .i64 2, .int .i64 51], 37, false⟩) ?_
  clear H; intro _ b2 _ H
  refine RW.mk H (.row ⟨[.int .i64 0, .int .i64 0], 37, false⟩) ?_
  clear H; intro _ b3 _ H
  refine RW.v ?_
  refine RW.nil ?_
  refine W.rg [(0, pt h), (4, pt b1), (5, pt b2), (6, pt b3)] fun TA => ?_
  refine W.seq ?_
  refine W.drawn (by kernel_rfl) (by kernel_rfl) H.gn ?_
  have H4 := H
  refine RW.v ?_
  refine RW.ld H4 2 2 ?_
  refine RW.ld H4 1 2 ?_
  refine RW.cl ?_
  refine WC.enter (fn := Tryz.f50) Tryz.func50 rfl ?_
  replace H := H4
  refine W.rg [] fun TA => ?_
  refine W.seq ?_
  refine W.region ?_
  refine RW.v ?_
  refine RW.nil ?_
  refine W.rg [] fun TA => ?_
  refine W.seq ?_
  refine W.region ?_
  refine RW.mk H (.row ⟨[.int .i64 0], 3, false⟩) ?_
  clear H; intro _ b5 _ H
  refine RW.st H 0 [.int .i64 200000] [.int .i64 200000] ?_
  clear H; intro _ _ H
  dsimp only [setL, delL] at H
  refine RW.nil ?_
  refine W.rg [(1, pt b5)] fun TA => ?_
  refine W.seq ?_
  refine W.region ?_
  refine RW.val (v := .func (.func 81) #[] #[.pointer (some ⟨b5, 0, none⟩)]) (by kernel_rfl) (by kernel_rfl) (by kernel_rfl) (by kernel_rfl) ?_
  refine RW.v ?_
  refine RW.nil ?_
  refine W.rg [(0, .func (.func 81) #[] #[pt b5])] fun TA => ?_
  refine W.ret ?_
  refine endG (by rfl) (by exact resL_tmp rfl) ?_
  have H6 := H
  refine RW.cl ?_
  refine WC.enterD (fn := Tryz.f60) Tryz.func60 rfl ?_
  replace H := H6
  refine W.rg [(0, pt h), (1, .agg #[.int .i64 2, .int .i64 46]), (2, .agg #[.int .i64 2, .int .i64 51]), (3, .func (.func 81) #[] #[pt b5]), (4, .bool false)] fun TA => ?_
  refine W.seq ?_
  refine W.region ?_
  refine RW.mk H (.row ⟨[pt h], 23, false⟩) ?_
  clear H; intro _ b7 _ H
  refine RW.mk H (.row ⟨[.int .i64 2, .int .i64 46], 37, false⟩) ?_
  clear H; intro _ b8 _ H
  refine RW.mk H (.row ⟨[.int .i64 2, .int .i64 51], 37, false⟩) ?_
  clear H; intro _ b9 _ H
  refine RW.mk H (.row ⟨[.func (.func 81) #[] #[pt b5]], 35, false⟩) ?_
  clear H; intro _ b10 _ H
  refine RW.mk H (.row ⟨[.bool false], 4, false⟩) ?_
  clear H; intro _ b11 _ H
  refine RW.mk H (.row ⟨[.int .i64 0, .int .i64 0], 37, false⟩) ?_
  clear H; intro _ b12 _ H
  refine RW.mk H (.row ⟨[.int .i64 0], 24, false⟩) ?_
  clear H; intro _ b13 _ H
  refine RW.nil ?_
  refine W.rg [(5, pt b7), (6, pt b8), (7, pt b9), (8, pt b10), (9, pt b11), (10, pt b12), (11, pt b13)] fun TA => ?_
  refine W.seq ?_
  refine W.seq ?_
  refine W.region ?_
  refine RW.ld H 6 1 ?_
  refine RW.cl ?_
  refine WC.enter (fn := Tryz.f51) Tryz.func51 rfl ?_
  refine W.rg [(0, pt h)] fun TA => ?_
  refine W.seq ?_
  refine W.region ?_
  refine RW.v ?_
  refine RW.nil ?_
  refine W.rg [(0, pt h)] fun TA => ?_
  refine W.seq ?_
  refine W.region ?_
  refine RW.v ?_
  refine RW.call (by kernel_rfl) (by kernel_rfl) rfl rfl rfl (by kernel_rfl) (by kernel_rfl) ⟨_, _, (c_limit (G := G) (n := 52) H.abs), ?_⟩
  refine RW.v ?_
  refine RW.v ?_
  refine RW.nil ?_
  refine W.rg [(2, .bool true)] fun TA => ?_
  refine W.ret ?_
  refine endG (by rfl) (by exact resL_tmp rfl) ?_
  refine RW.v ?_
  refine RW.nil ?_
  refine W.rg [(5, pt b7), (6, pt b8), (7, pt b9), (8, pt b10), (9, pt b11), (10, pt b12), (11, pt b13), (21, .bool false)] fun TA => ?_
  refine W.c0 ?_
  refine W.skip ?_
  refine W.seq ?_
  refine W.drawn (by kernel_rfl) (by kernel_rfl) H.gn ?_
  have H14 := H
  refine RW.ld H14 4 2 ?_
  refine RW.mkD H14 (x := .row ⟨[.int .i64 0], 3, false⟩) (fm := fun b => .pointer (some ⟨b, 0, none⟩)) (by kernel_rfl) (by kernel_rfl) (by kernel_rfl) (by kernel_rfl) ?_
  intro _ b15 H16
  refine RW.mkD H16 (x := .row ⟨[.int .i64 0, .int .i64 0], 37, false⟩) (fm := fun b => .pointer (some ⟨b, 0, none⟩)) (by kernel_rfl) (by kernel_rfl) (by kernel_rfl) (by kernel_rfl) ?_
  intro _ b17 H18
  refine RW.stD H18 1 (vs := [.int .i64 0]) (cs' := [.int .i64 0]) (by kernel_rfl) (by kernel_rfl) rfl rfl rfl rfl rfl (by kernel_rfl) (Nat.le_of_ble_eq_true rfl) rfl (by kernel_rfl) ?_
  intro _ H19
  dsimp only [setL, delL] at H19
  refine RW.stD H19 0 (vs := [.int .i64 2, .int .i64 51]) (cs' := [.int .i64 2, .int .i64 51]) (by kernel_rfl) (by kernel_rfl) rfl rfl rfl rfl rfl (by kernel_rfl) (Nat.le_of_ble_eq_true rfl) rfl (by kernel_rfl) ?_
  intro _ H20
  dsimp only [setL, delL] at H20
  refine RW.nil ?_
  refine ⟨⟨by kernel_rfl, ⟨dyn_row (H14.get 4 rfl) (H20.get 6 rfl) ⟨fun h => Bool.noConfusion h, fun h => Bool.noConfusion h, fun h => Bool.noConfusion h, fun _ => H18.get 6 rfl, fun _ => H19.get 6 rfl, trivial⟩, Or.inl (by kernel_rfl), Or.inl (by kernel_rfl), trivial, trivial, trivial⟩⟩, ?_⟩
  replace H := H20
  clear H14 H16 H18 H19 H20
  refine W.rg [(5, pt b7), (6, pt b8), (7, pt b9), (8, pt b10), (9, pt b11), (10, pt b12), (11, pt b13), (12, pt b15), (13, pt b17)] fun TA => ?_
  refine W.seq ?_
  refine W.seq ?_
  refine W.region ?_
  refine RW.ld H 8 1 ?_
  refine RW.ld H 6 2 ?_
  refine RW.cl ?_
  refine WC.enter (fn := Tryz.f56) Tryz.func56 rfl ?_
  refine W.rg [(0, pt h), (1, .agg #[.int .i64 2, .int .i64 51]), (2, pt b17)] fun TA => ?_
  refine W.seq ?_
  refine W.region ?_
  refine RW.mk H (.row ⟨[pt h], 23, false⟩) ?_
  clear H; intro _ b21 _ H
  refine RW.mk H (.row ⟨[.int .i64 2, .int .i64 51], 37, false⟩) ?_
  clear H; intro _ b22 _ H
  refine RW.mk H (.row ⟨[pt b17], 94, false⟩) ?_
  clear H; intro _ b23 _ H
  refine RW.v ?_
  refine RW.nil ?_
  refine W.rg [(3, pt b21), (4, pt b22), (5, pt b23)] fun TA => ?_
  refine W.seq ?_
  refine W.region ?_
  refine RW.val (v := .func (.func 87) #[] #[.pointer (some ⟨b21, 0, none⟩), .pointer (some ⟨b22, 0, none⟩), .pointer (some ⟨b23, 0, none⟩)]) (by kernel_rfl) (by kernel_rfl) (by kernel_rfl) (by kernel_rfl) ?_
  refine RW.v ?_
  refine RW.nil ?_
  refine W.rg [(6, .func (.func 87) #[] #[pt b21, pt b22, pt b23])] fun TA => ?_
  refine W.ret ?_
  refine endG (by rfl) (by exact resL_tmp rfl) ?_
  refine RW.nil ?_
  replace H := (H.del 9)
  dsimp only [setL, delL] at H
  refine W.rg [(5, pt b7), (6, pt b8), (8, pt b10), (9, pt b11), (10, pt b12), (11, pt b13), (12, pt b15), (13, pt b17), (26, .func (.func 87) #[] #[pt b21, pt b22, pt b23])] fun TA => ?_
  refine W.block ?_
  refine W.rst [(5, .pointer (some ⟨b7, 0, none⟩)), (6, .pointer (some ⟨b8, 0, none⟩)), (8, .pointer (some ⟨b10, 0, none⟩)), (9, .pointer (some ⟨b11, 0, none⟩)), (10, .pointer (some ⟨b12, 0, none⟩)), (11, .pointer (some ⟨b13, 0, none⟩)), (12, .pointer (some ⟨b15, 0, none⟩)), (13, .pointer (some ⟨b17, 0, none⟩)), (26, .func (.func 87) #[] #[.pointer (some ⟨b21, 0, none⟩), .pointer (some ⟨b22, 0, none⟩), .pointer (some ⟨b23, 0, none⟩)])] ⟨rfl, rfl, rfl, rfl, rfl, rfl, rfl, rfl, rfl, trivial⟩ fun TL28 => ?_
  refine W.rangeL H rfl (fun _ h => nomatch h) (fun _ h => nomatch h) (by kernel_rfl) fun _ d24 b25 lp26 hl27 H => ?_
  refine WC.enter (fn := Tryz.f87) Tryz.func87 rfl ?_
  refine W.rg [(0, .func (.yield b25) #[] #[]), (1, pt b21), (2, pt b22), (3, pt b23)] fun TA => ?_
  refine W.seq ?_
  refine W.block ?_
  refine W.unroll (WL.once ?_)
  refine W.seq ?_
  refine W.seq ?_
  refine W.region ?_
  refine RW.ld H 4 1 ?_
  refine RW.ld H 3 2 ?_
  refine RW.cl ?_
  refine WC.enter (fn := Tryz.f88) Tryz.func88 rfl ?_
  refine W.rg [(0, pt h), (1, .agg #[.int .i64 2, .int .i64 51])] fun TA => ?_
  refine W.seq ?_
  refine W.region ?_
  refine RW.mk H (.row ⟨[.int .i64 2, .int .i64 51], 37, false⟩) ?_
  clear H; intro _ b29 _ H
  refine RW.v ?_
  refine RW.nil ?_
  refine W.rg [(0, pt h), (3, pt b29)] fun TA => ?_
  refine W.seq ?_
  refine W.region ?_
  refine RW.v ?_
  refine RW.ld H 0 1 ?_
  refine RW.v ?_
  refine RW.v ?_
  refine RW.val (by rfl) (by kernel_rfl) rfl (by kernel_rfl) ?_
  refine RW.ldL H 0 2 (by rfl) (by kernel_rfl) rfl rfl rfl rfl rfl (by kernel_rfl) ?_
  refine RW.call (by rfl) (by kernel_rfl) rfl rfl rfl (by kernel_rfl) (by kernel_rfl) ⟨_, _, (c_live (G := G) (n := 52) (k := 51) (a := ((2, 45) : Wd)) (d := ((2, 50) : Wd)) H.abs (by decide) rfl), ?_⟩
  refine RW.v ?_
  refine RW.v ?_
  refine RW.nil ?_
  replace H := (H.del 0)
  dsimp only [setL, delL] at H
  refine W.rg [(4, .bool true)] fun TA => ?_
  refine W.ret ?_
  refine endG (by rfl) (by exact resL_tmp rfl) ?_
  refine RW.nil ?_
  refine W.rg [(0, .func (.yield b25) #[] #[]), (1, pt b21), (2, pt b22), (3, pt b23), (9, .bool true)] fun TA => ?_
  refine W.c1 ?_
  refine W.skip ?_
  refine W.block ?_
  refine W.seq ?_
  refine W.region ?_
  refine RW.ld H 4 1 ?_
  refine RW.ld H 3 2 ?_
  refine RW.call (by kernel_rfl) (by kernel_rfl) rfl rfl rfl (by kernel_rfl) (by kernel_rfl) ⟨_, _, (c_car (G := G) (n := 52) (k := 51) (a := ((2, 45) : Wd)) (d := ((2, 50) : Wd)) H.abs (by decide) rfl), ?_⟩
  refine RW.v ?_
  refine RW.v ?_
  refine RW.v ?_
  refine RW.mk H (.row ⟨[.int .i64 0, .int .i64 0], 37, false⟩) ?_
  clear H; intro _ b30 _ H
  refine RW.st H 0 [.int .i64 2, .int .i64 45] [.int .i64 2, .int .i64 45] ?_
  clear H; intro _ _ H
  dsimp only [setL, delL] at H
  refine RW.v ?_
  refine RW.nil ?_
  refine W.rg [(0, .func (.yield b25) #[] #[]), (1, pt b21), (2, pt b22), (3, pt b23), (5, pt b30)] fun TA => ?_
  refine W.seq ?_
  refine W.seq ?_
  refine W.region ?_
  refine RW.v ?_
  refine RW.ld H 4 2 ?_
  refine RW.ld H 0 2 ?_
  refine RW.yieldL H 1 rfl hl27 (by kernel_rfl) (by kernel_rfl) rfl rfl rfl rfl rfl (by kernel_rfl) ?_
  refine W.rg [(5, pt b7), (6, pt b8), (8, pt b10), (9, pt b11), (10, pt b12), (11, pt b13), (12, pt b15), (13, pt b17), (26, .func (.func 87) #[] #[pt b21, pt b22, pt b23]), (27, .agg #[.int .i64 2, .int .i64 51]), (28, .agg #[.int .i64 2, .int .i64 45])] fun TA => ?_
  refine W.seq ?_
  refine W.region ?_
  refine RW.mk H (.row ⟨[.int .i64 0, .int .i64 0], 37, false⟩) ?_
  clear H; intro _ b31 _ H
  refine RW.st H 0 [.int .i64 2, .int .i64 51] [.int .i64 2, .int .i64 51] ?_
  clear H; intro _ _ H
  dsimp only [setL, delL] at H
  refine RW.nil ?_
  refine W.rg [(5, pt b7), (6, pt b8), (8, pt b10), (9, pt b11), (10, pt b12), (11, pt b13), (12, pt b15), (13, pt b17), (14, pt b31), (26, .func (.func 87) #[] #[pt b21, pt b22, pt b23]), (27, .agg #[.int .i64 2, .int .i64 51]), (28, .agg #[.int .i64 2, .int .i64 45])] fun TA => ?_
  refine W.region ?_
  refine RW.mk H (.row ⟨[.int .i64 0, .int .i64 0], 37, false⟩) ?_
  clear H; intro _ b32 _ H
  refine RW.st H 0 [.int .i64 2, .int .i64 45] [.int .i64 2, .int .i64 45] ?_
  clear H; intro _ _ H
  dsimp only [setL, delL] at H
  refine RW.nil ?_
  refine ⟨rfl, _, _, _, 3, H, rfl, ?_⟩
  clear H; intro _ lq33 hq34 H
  dsimp only [setL, delL] at H
  refine W.rg [(5, pt b7), (6, pt b8), (8, pt b10), (9, pt b11), (10, pt b12), (11, pt b13), (12, pt b15), (13, pt b17), (14, pt b31), (15, pt b32), (26, .func (.func 87) #[] #[pt b21, pt b22, pt b23]), (27, .agg #[.int .i64 2, .int .i64 51]), (28, .agg #[.int .i64 2, .int .i64 45])] fun TA => ?_
  refine W.block ?_
  refine W.seq ?_
  refine W.seq ?_
  refine W.region ?_
  refine RW.ld H 9 1 ?_
  refine RW.v ?_
  refine RW.st H 9 [.int .i64 1] [.int .i64 1] ?_
  clear H; intro _ _ H
  dsimp only [setL, delL] at H
  refine RW.nil ?_
  refine W.rg [(5, pt b7), (6, pt b8), (8, pt b10), (9, pt b11), (10, pt b12), (11, pt b13), (12, pt b15), (13, pt b17), (14, pt b31), (15, pt b32), (26, .func (.func 87) #[] #[pt b21, pt b22, pt b23]), (27, .agg #[.int .i64 2, .int .i64 51]), (28, .agg #[.int .i64 2, .int .i64 45])] fun TA => ?_
  refine W.seq ?_
  refine W.region ?_
  refine RW.ld H 9 1 ?_
  refine RW.v ?_
  refine RW.nil ?_
  refine W.rg [(5, pt b7), (6, pt b8), (8, pt b10), (9, pt b11), (10, pt b12), (11, pt b13), (12, pt b15), (13, pt b17), (14, pt b31), (15, pt b32), (26, .func (.func 87) #[] #[pt b21, pt b22, pt b23]), (27, .agg #[.int .i64 2, .int .i64 51]), (28, .agg #[.int .i64 2, .int .i64 45]), (32, .bool false)] fun TA => ?_
  refine W.c0 ?_
  refine W.skip ?_
  refine W.seq ?_
  refine W.region ?_
  refine RW.ld H 1 2 ?_
  refine RW.mk H (.row ⟨[.int .i64 0, .int .i64 0], 37, false⟩) ?_
  clear H; intro _ b35 _ H
  refine RW.st H 0 [.int .i64 2, .int .i64 51] [.int .i64 2, .int .i64 51] ?_
  clear H; intro _ _ H
  dsimp only [setL, delL] at H
  refine RW.nil ?_
  replace H := (H.del 2)
  dsimp only [setL, delL] at H
  refine W.rg [(5, pt b7), (6, pt b8), (8, pt b10), (9, pt b11), (10, pt b12), (11, pt b13), (12, pt b15), (13, pt b17), (15, pt b32), (16, pt b35), (26, .func (.func 87) #[] #[pt b21, pt b22, pt b23]), (27, .agg #[.int .i64 2, .int .i64 51]), (28, .agg #[.int .i64 2, .int .i64 45])] fun TA => ?_
  refine W.seq ?_
  refine W.seq ?_
  refine W.region ?_
  refine RW.ld H 12 1 ?_
  refine RW.nil ?_
  refine W.rg [(5, pt b7), (6, pt b8), (8, pt b10), (9, pt b11), (10, pt b12), (11, pt b13), (12, pt b15), (13, pt b17), (15, pt b32), (16, pt b35), (26, .func (.func 87) #[] #[pt b21, pt b22, pt b23]), (27, .agg #[.int .i64 2, .int .i64 51]), (28, .agg #[.int .i64 2, .int .i64 45]), (35, .bool false)] fun TA => ?_
  refine W.c0 ?_
  refine W.skip ?_
  refine W.seq ?_
  refine W.region ?_
  refine RW.ld H 13 1 ?_
  refine RW.ld H 15 1 ?_
  refine RW.ld H 14 2 ?_
  refine RW.ld H 1 2 ?_
  refine RW.cl ?_
  refine WC.enter (fn := Tryz.f81) Tryz.func81 rfl ?_
  refine W.rg [(0, pt h), (1, .agg #[.int .i64 2, .int .i64 46]), (2, .agg #[.int .i64 2, .int .i64 45]), (3, pt b5)] fun TA => ?_
  refine W.seq ?_
  refine W.region ?_
  refine RW.mk H (.row ⟨[.int .i64 2, .int .i64 46], 37, false⟩) ?_
  clear H; intro _ b36 _ H
  refine RW.mk H (.row ⟨[.int .i64 2, .int .i64 45], 37, false⟩) ?_
  clear H; intro _ b37 _ H
  refine RW.v ?_
  refine RW.v ?_
  refine RW.nil ?_
  refine W.rg [(0, pt h), (3, pt b5), (5, pt b36), (6, pt b37)] fun TA => ?_
  refine W.seq ?_
  refine W.region ?_
  refine RW.v ?_
  refine RW.ld H 1 2 ?_
  refine RW.ld H 0 2 ?_
  refine RW.call (by kernel_rfl) (by kernel_rfl) rfl rfl rfl (by kernel_rfl) (by kernel_rfl) ((equal_ok (G := G) (h := h) (r := false) (d := 16) (n := 200000) (n' := 68929) (k := 18) (Lp := b5) (a := ((2, 46) : Wd)) (b := ((2, 45) : Wd)) H rfl (T_ac (n := 52) (by decide) 16 (by decide)) (by decide) (by decide) (by rw [cost16]) (by decide)).mono ?_)
  clear H
  rintro _ _ ⟨rfl, H⟩
  dsimp only [setL, delL] at H
  refine RW.v ?_
  refine RW.v ?_
  refine RW.v ?_
  refine RW.v ?_
  refine RW.nil ?_
  replace H := ((H.del 1).del 0)
  dsimp only [setL, delL] at H
  refine W.rg [(7, .bool false), (8, .int .i64 0)] fun TA => ?_
  refine W.ret ?_
  refine endG (by rfl) (by exact resL_tmp (by exact resL_tmp rfl)) ?_
  refine RW.v ?_
  refine RW.v ?_
  refine RW.v ?_
  refine RW.v ?_
  refine RW.v ?_
  refine RW.nil ?_
  replace H := (H.del 1)
  dsimp only [setL, delL] at H
  refine W.rg [(5, pt b7), (6, pt b8), (8, pt b10), (9, pt b11), (10, pt b12), (11, pt b13), (12, pt b15), (13, pt b17), (16, pt b35), (17, .bool false), (18, .int .i64 0), (26, .func (.func 87) #[] #[pt b21, pt b22, pt b23]), (27, .agg #[.int .i64 2, .int .i64 51]), (28, .agg #[.int .i64 2, .int .i64 45])] fun TA => ?_
  refine W.block ?_
  refine W.seq ?_
  refine W.region ?_
  refine RW.v ?_
  refine RW.v ?_
  refine RW.v ?_
  refine RW.nil ?_
  refine W.rg [(5, pt b7), (6, pt b8), (8, pt b10), (9, pt b11), (10, pt b12), (11, pt b13), (12, pt b15), (13, pt b17), (16, pt b35), (17, .bool false), (18, .int .i64 0), (26, .func (.func 87) #[] #[pt b21, pt b22, pt b23]), (27, .agg #[.int .i64 2, .int .i64 51]), (28, .agg #[.int .i64 2, .int .i64 45]), (55, .bool false)] fun TA => ?_
  refine W.c0 ?_
  refine W.seq ?_
  refine W.region ?_
  refine RW.v ?_
  refine RW.v ?_
  refine RW.nil ?_
  refine W.rg [(5, pt b7), (6, pt b8), (8, pt b10), (9, pt b11), (10, pt b12), (11, pt b13), (12, pt b15), (13, pt b17), (16, pt b35), (26, .func (.func 87) #[] #[pt b21, pt b22, pt b23]), (27, .agg #[.int .i64 2, .int .i64 51]), (28, .agg #[.int .i64 2, .int .i64 45]), (60, .bool false)] fun TA => ?_
  refine W.c0 ?_
  refine W.skip ?_
  refine blkQ_normal ?_
  refine blkQ_normal ?_
  refine ⟨_, _, _, 2, true, .ready, none, H, rfl, rfl, ?_⟩
  clear H; intro _ lr38 _ hr39 H
  dsimp only [setL, delL] at H
  refine RW.v ?_
  refine RW.nil ?_
  replace H := ((H.del 1).del 0)
  dsimp only [setL, delL] at H
  refine W.rg [(0, .func (.yield b25) #[] #[]), (1, pt b21), (2, pt b22), (3, pt b23), (20, .bool false)] fun TA => ?_
  refine W.c0 ?_
  refine W.skip ?_
  refine W.region ?_
  refine RW.ld H 4 1 ?_
  refine RW.ld H 3 2 ?_
  refine RW.call (by kernel_rfl) (by kernel_rfl) rfl rfl rfl (by kernel_rfl) (by kernel_rfl) ⟨_, _, (c_cdr (G := G) (n := 52) (k := 51) (a := ((2, 45) : Wd)) (d := ((2, 50) : Wd)) H.abs (by decide) rfl), ?_⟩
  refine RW.v ?_
  refine RW.v ?_
  refine RW.v ?_
  refine RW.st H 3 [.int .i64 2, .int .i64 50] [.int .i64 2, .int .i64 50] ?_
  clear H; intro _ _ H
  dsimp only [setL, delL] at H
  refine RW.nil ?_
  refine blkQ_normal ?_
  refine WL.once ?_
  refine W.rg [(0, .func (.yield b25) #[] #[]), (1, pt b21), (2, pt b22), (3, pt b23)] fun TA => ?_
  refine W.seq ?_
  refine W.seq ?_
  refine W.region ?_
  refine RW.ld H 4 1 ?_
  refine RW.ld H 3 2 ?_
  refine RW.cl ?_
  refine WC.enter (fn := Tryz.f88) Tryz.func88 rfl ?_
  refine W.rg [(0, pt h), (1, .agg #[.int .i64 2, .int .i64 50])] fun TA => ?_
  refine W.seq ?_
  refine W.region ?_
  refine RW.mk H (.row ⟨[.int .i64 2, .int .i64 50], 37, false⟩) ?_
  clear H; intro _ b40 _ H
  refine RW.v ?_
  refine RW.nil ?_
  refine W.rg [(0, pt h), (3, pt b40)] fun TA => ?_
  refine W.seq ?_
  refine W.region ?_
  refine RW.v ?_
  refine RW.ld H 0 1 ?_
  refine RW.v ?_
  refine RW.v ?_
  refine RW.val (by rfl) (by kernel_rfl) rfl (by kernel_rfl) ?_
  refine RW.ldL H 0 2 (by rfl) (by kernel_rfl) rfl rfl rfl rfl rfl (by kernel_rfl) ?_
  refine RW.call (by rfl) (by kernel_rfl) rfl rfl rfl (by kernel_rfl) (by kernel_rfl) ⟨_, _, (c_live (G := G) (n := 52) (k := 50) (a := ((2, 45) : Wd)) (d := ((2, 49) : Wd)) H.abs (by decide) rfl), ?_⟩
  refine RW.v ?_
  refine RW.v ?_
  refine RW.nil ?_
  replace H := (H.del 0)
  dsimp only [setL, delL] at H
  refine W.rg [(4, .bool true)] fun TA => ?_
  refine W.ret ?_
  refine endG (by rfl) (by exact resL_tmp rfl) ?_
  refine RW.nil ?_
  refine W.rg [(0, .func (.yield b25) #[] #[]), (1, pt b21), (2, pt b22), (3, pt b23), (9, .bool true)] fun TA => ?_
  refine W.c1 ?_
  refine W.skip ?_
  refine W.block ?_
  refine W.seq ?_
  refine W.region ?_
  refine RW.ld H 4 1 ?_
  refine RW.ld H 3 2 ?_
  refine RW.call (by kernel_rfl) (by kernel_rfl) rfl rfl rfl (by kernel_rfl) (by kernel_rfl) ⟨_, _, (c_car (G := G) (n := 52) (k := 50) (a := ((2, 45) : Wd)) (d := ((2, 49) : Wd)) H.abs (by decide) rfl), ?_⟩
  refine RW.v ?_
  refine RW.v ?_
  refine RW.v ?_
  refine RW.mk H (.row ⟨[.int .i64 0, .int .i64 0], 37, false⟩) ?_
  clear H; intro _ b41 _ H
  refine RW.st H 0 [.int .i64 2, .int .i64 45] [.int .i64 2, .int .i64 45] ?_
  clear H; intro _ _ H
  dsimp only [setL, delL] at H
  refine RW.v ?_
  refine RW.nil ?_
  refine W.rg [(0, .func (.yield b25) #[] #[]), (1, pt b21), (2, pt b22), (3, pt b23), (5, pt b41)] fun TA => ?_
  refine W.seq ?_
  refine W.seq ?_
  refine W.region ?_
  refine RW.v ?_
  refine RW.ld H 4 2 ?_
  refine RW.ld H 0 2 ?_
  refine RW.yieldL H 1 rfl hr39 (by kernel_rfl) (by kernel_rfl) rfl rfl rfl rfl rfl (by kernel_rfl) ?_
  refine W.rg [(5, pt b7), (6, pt b8), (8, pt b10), (9, pt b11), (10, pt b12), (11, pt b13), (12, pt b15), (13, pt b17), (26, .func (.func 87) #[] #[pt b21, pt b22, pt b23]), (27, .agg #[.int .i64 2, .int .i64 50]), (28, .agg #[.int .i64 2, .int .i64 45])] fun TA => ?_
  refine W.seq ?_
  refine W.region ?_
  refine RW.mk H (.row ⟨[.int .i64 0, .int .i64 0], 37, false⟩) ?_
  clear H; intro _ b42 _ H
  refine RW.st H 0 [.int .i64 2, .int .i64 50] [.int .i64 2, .int .i64 50] ?_
  clear H; intro _ _ H
  dsimp only [setL, delL] at H
  refine RW.nil ?_
  refine W.rg [(5, pt b7), (6, pt b8), (8, pt b10), (9, pt b11), (10, pt b12), (11, pt b13), (12, pt b15), (13, pt b17), (14, pt b42), (26, .func (.func 87) #[] #[pt b21, pt b22, pt b23]), (27, .agg #[.int .i64 2, .int .i64 50]), (28, .agg #[.int .i64 2, .int .i64 45])] fun TA => ?_
  refine W.region ?_
  refine RW.mk H (.row ⟨[.int .i64 0, .int .i64 0], 37, false⟩) ?_
  clear H; intro _ b43 _ H
  refine RW.st H 0 [.int .i64 2, .int .i64 45] [.int .i64 2, .int .i64 45] ?_
  clear H; intro _ _ H
  dsimp only [setL, delL] at H
  refine RW.nil ?_
  refine ⟨rfl, _, _, _, 3, H, rfl, ?_⟩
  clear H; intro _ lq44 hq45 H
  dsimp only [setL, delL] at H
  refine W.rg [(5, pt b7), (6, pt b8), (8, pt b10), (9, pt b11), (10, pt b12), (11, pt b13), (12, pt b15), (13, pt b17), (14, pt b42), (15, pt b43), (26, .func (.func 87) #[] #[pt b21, pt b22, pt b23]), (27, .agg #[.int .i64 2, .int .i64 50]), (28, .agg #[.int .i64 2, .int .i64 45])] fun TA => ?_
  refine W.block ?_
  refine W.seq ?_
  refine W.seq ?_
  refine W.region ?_
  refine RW.ld H 9 1 ?_
  refine RW.v ?_
  refine RW.st H 9 [.int .i64 2] [.int .i64 2] ?_
  clear H; intro _ _ H
  dsimp only [setL, delL] at H
  refine RW.nil ?_
  refine W.rg [(5, pt b7), (6, pt b8), (8, pt b10), (9, pt b11), (10, pt b12), (11, pt b13), (12, pt b15), (13, pt b17), (14, pt b42), (15, pt b43), (26, .func (.func 87) #[] #[pt b21, pt b22, pt b23]), (27, .agg #[.int .i64 2, .int .i64 50]), (28, .agg #[.int .i64 2, .int .i64 45])] fun TA => ?_
  refine W.seq ?_
  refine W.region ?_
  refine RW.ld H 9 1 ?_
  refine RW.v ?_
  refine RW.nil ?_
  refine W.rg [(5, pt b7), (6, pt b8), (8, pt b10), (9, pt b11), (10, pt b12), (11, pt b13), (12, pt b15), (13, pt b17), (14, pt b42), (15, pt b43), (26, .func (.func 87) #[] #[pt b21, pt b22, pt b23]), (27, .agg #[.int .i64 2, .int .i64 50]), (28, .agg #[.int .i64 2, .int .i64 45]), (32, .bool false)] fun TA => ?_
  refine W.c0 ?_
  refine W.skip ?_
  refine W.seq ?_
  refine W.region ?_
  refine RW.ld H 1 2 ?_
  refine RW.mk H (.row ⟨[.int .i64 0, .int .i64 0], 37, false⟩) ?_
  clear H; intro _ b46 _ H
  refine RW.st H 0 [.int .i64 2, .int .i64 50] [.int .i64 2, .int .i64 50] ?_
  clear H; intro _ _ H
  dsimp only [setL, delL] at H
  refine RW.nil ?_
  replace H := (H.del 2)
  dsimp only [setL, delL] at H
  refine W.rg [(5, pt b7), (6, pt b8), (8, pt b10), (9, pt b11), (10, pt b12), (11, pt b13), (12, pt b15), (13, pt b17), (15, pt b43), (16, pt b46), (26, .func (.func 87) #[] #[pt b21, pt b22, pt b23]), (27, .agg #[.int .i64 2, .int .i64 50]), (28, .agg #[.int .i64 2, .int .i64 45])] fun TA => ?_
  refine W.seq ?_
  refine W.seq ?_
  refine W.region ?_
  refine RW.ld H 12 1 ?_
  refine RW.nil ?_
  refine W.rg [(5, pt b7), (6, pt b8), (8, pt b10), (9, pt b11), (10, pt b12), (11, pt b13), (12, pt b15), (13, pt b17), (15, pt b43), (16, pt b46), (26, .func (.func 87) #[] #[pt b21, pt b22, pt b23]), (27, .agg #[.int .i64 2, .int .i64 50]), (28, .agg #[.int .i64 2, .int .i64 45]), (35, .bool false)] fun TA => ?_
  refine W.c0 ?_
  refine W.skip ?_
  refine W.seq ?_
  refine W.region ?_
  refine RW.ld H 13 1 ?_
  refine RW.ld H 15 1 ?_
  refine RW.ld H 14 2 ?_
  refine RW.ld H 1 2 ?_
  refine RW.cl ?_
  refine WC.enter (fn := Tryz.f81) Tryz.func81 rfl ?_
  refine W.rg [(0, pt h), (1, .agg #[.int .i64 2, .int .i64 46]), (2, .agg #[.int .i64 2, .int .i64 45]), (3, pt b5)] fun TA => ?_
  refine W.seq ?_
  refine W.region ?_
  refine RW.mk H (.row ⟨[.int .i64 2, .int .i64 46], 37, false⟩) ?_
  clear H; intro _ b47 _ H
  refine RW.mk H (.row ⟨[.int .i64 2, .int .i64 45], 37, false⟩) ?_
  clear H; intro _ b48 _ H
  refine RW.v ?_
  refine RW.v ?_
  refine RW.nil ?_
  refine W.rg [(0, pt h), (3, pt b5), (5, pt b47), (6, pt b48)] fun TA => ?_
  refine W.seq ?_
  refine W.region ?_
  refine RW.v ?_
  refine RW.ld H 1 2 ?_
  refine RW.ld H 0 2 ?_
  refine RW.call (by kernel_rfl) (by kernel_rfl) rfl rfl rfl (by kernel_rfl) (by kernel_rfl) ((equal_fuel (G := G) (h := h) (r := false) (d := 16) (n := 68929) (k := 18) (Lp := b5) (a := ((2, 46) : Wd)) (b := ((2, 45) : Wd)) H rfl (T_ac (n := 52) (by decide) 16 (by decide)) (by decide) (by decide) (by rw [cost16]; decide) (by decide)).mono ?_)
  clear H
  rintro _ _ ⟨rfl, H⟩
  dsimp only [setL, delL] at H
  refine RW.v ?_
  refine RW.v ?_
  refine RW.v ?_
  refine RW.v ?_
  refine RW.nil ?_
  replace H := ((H.del 1).del 0)
  dsimp only [setL, delL] at H
  refine W.rg [(7, .bool false), (8, .int .i64 22)] fun TA => ?_
  refine W.ret ?_
  refine endG (by rfl) (by exact resL_tmp (by exact resL_tmp rfl)) ?_
  refine RW.v ?_
  refine RW.v ?_
  refine RW.v ?_
  refine RW.v ?_
  refine RW.v ?_
  refine RW.nil ?_
  replace H := (H.del 1)
  dsimp only [setL, delL] at H
  refine W.rg [(5, pt b7), (6, pt b8), (8, pt b10), (9, pt b11), (10, pt b12), (11, pt b13), (12, pt b15), (13, pt b17), (16, pt b46), (17, .bool false), (18, .int .i64 22), (26, .func (.func 87) #[] #[pt b21, pt b22, pt b23]), (27, .agg #[.int .i64 2, .int .i64 50]), (28, .agg #[.int .i64 2, .int .i64 45])] fun TA => ?_
  refine W.block ?_
  refine W.seq ?_
  refine W.region ?_
  refine RW.v ?_
  refine RW.v ?_
  refine RW.v ?_
  refine RW.nil ?_
  refine W.rg [(5, pt b7), (6, pt b8), (8, pt b10), (9, pt b11), (10, pt b12), (11, pt b13), (12, pt b15), (13, pt b17), (16, pt b46), (17, .bool false), (18, .int .i64 22), (26, .func (.func 87) #[] #[pt b21, pt b22, pt b23]), (27, .agg #[.int .i64 2, .int .i64 50]), (28, .agg #[.int .i64 2, .int .i64 45]), (55, .bool true)] fun TA => ?_
  refine W.c1 ?_
  refine W.seq ?_
  refine W.region ?_
  refine RW.val (v := .agg #[.int .i64 0, .int .i64 0]) (by kernel_rfl) (by kernel_rfl) (by kernel_rfl) (by kernel_rfl) ?_
  refine RW.v ?_
  refine RW.st H 10 [.int .i64 0, .int .i64 0] [.int .i64 0, .int .i64 0] ?_
  clear H; intro _ _ H
  dsimp only [setL, delL] at H
  refine RW.st H 9 [.int .i64 22] [.int .i64 22] ?_
  clear H; intro _ _ H
  dsimp only [setL, delL] at H
  refine RW.nil ?_
  replace H := (H.del 0)
  dsimp only [setL, delL] at H
  refine W.rg [(10, pt b12), (11, pt b13)] fun TA => ?_
  refine W.ret ?_
  refine blkQ_ret ?_
  refine blkQ_ret ?_
  refine ⟨_, _, _, 1, false, .done, (some .ret), H, rfl, rfl, ?_⟩
  clear H; intro _ lr49 _ hr50 H
  dsimp only [setL, delL] at H
  refine RW.v ?_
  refine RW.nil ?_
  replace H := (H.del 0)
  dsimp only [setL, delL] at H
  refine W.rg [(0, .func (.yield b25) #[] #[]), (1, pt b21), (2, pt b22), (3, pt b23), (20, .bool true)] fun TA => ?_
  refine W.c1 ?_
  refine W.ret ?_
  refine seqQ_ret ?_
  refine blkQ_ret ?_
  refine onceQ_ret ?_
  refine blkQ_ret ?_
  refine seqQ_ret ?_
  refine endG (by rfl) (by exact rfl) ?_
  refine ⟨_, _, _, 0, _, _, _, _, H, rfl, hr50, rfl, rfl, ?_⟩
  clear H; intro _ H
  dsimp only [setL, delL] at H
  refine blkQ_ret ?_
  refine seqQ_ret ?_
  refine endMark H 0 rfl fun _ H => ?_
  dsimp only [setL, delL] at H
  refine endGD0 (by rfl) (by exact resL_cell rfl (H.get 6 rfl) (by rw [uT_eq]; exact Tryz.underlying37) (by kernel_rfl) rfl rfl (by exact resL_cell rfl (H.get 5 rfl) (by rw [uT_eq]; exact Tryz.underlying24) (by kernel_rfl) rfl rfl rfl)) ?_
  have H51 := H
  refine RW.v ?_
  refine RW.v ?_
  refine RW.stD H51 12 (vs := [.int .i64 0, .int .i64 0]) (cs' := [.int .i64 0, .int .i64 0]) (by kernel_rfl) (by kernel_rfl) rfl rfl rfl rfl rfl (by kernel_rfl) (Nat.le_of_ble_eq_true rfl) rfl (by kernel_rfl) ?_
  intro _ H52
  dsimp only [setL, delL] at H52
  refine RW.v ?_
  refine RW.nil ?_
  refine ⟨⟨by kernel_rfl, ⟨trivial, dyn_row (H4.get 2 rfl) (H52.get 14 rfl) ⟨fun h => Bool.noConfusion h, fun h => Bool.noConfusion h, fun h => Bool.noConfusion h, fun _ => H4.get 2 rfl, fun _ => H6.get 3 rfl, fun h => Bool.noConfusion h, fun h => Bool.noConfusion h, fun _ => H51.get 14 rfl, fun h => Bool.noConfusion h, trivial⟩, dyn_row (H4.get 1 rfl) (H52.get 13 rfl) ⟨fun h => Bool.noConfusion h, fun h => Bool.noConfusion h, fun h => Bool.noConfusion h, fun _ => H4.get 1 rfl, fun _ => H6.get 2 rfl, fun h => Bool.noConfusion h, fun h => Bool.noConfusion h, fun _ => H51.get 13 rfl, fun h => Bool.noConfusion h, trivial⟩, trivial, trivial, trivial, trivial, trivial, trivial, trivial⟩⟩, ?_⟩
  replace H := H52
  clear H4 H6 H51 H52
  replace H := ((((((((((((((H.del 14).del 13).del 11).del 10).del 9).del 8).del 7).del 6).del 5).del 4).del 3).del 2).del 1).del 0)
  dsimp only [setL, delL] at H
  refine W.rg [(6, pt b3), (7, .int .i64 22)] fun TA => ?_
  refine W.ret ?_
  refine endG (by rfl) (by exact resL_cell rfl (H.get 0 rfl) (by rw [uT_eq]; exact Tryz.underlying37) (by kernel_rfl) rfl rfl (by exact resL_tmp rfl)) ?_
  exact ⟨rfl, (H.del 0)⟩
end
end Go.Proofs.YtehcckhdppdkcaaGreatDoor
