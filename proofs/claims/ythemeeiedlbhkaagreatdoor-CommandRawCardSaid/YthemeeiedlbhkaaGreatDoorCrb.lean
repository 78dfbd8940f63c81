/-
  Universal, Digit, Minus and Value of prefix arguments. Conditions: none.
-/
import Derived.Test.YthemeeiedlbhkaaGreatDoorC1
namespace Go.Proofs.YthemeeiedlbhkaaGreatDoor
set_option maxRecDepth 100000
section
variable {G : Nat} {A : Abs} {σ0 : Mem} {k n : Int} {c : Bool}
end
section
variable {G : Nat} {A : Abs} {σ : Mem} {F : Nat → Option Blk2} {L : List Ent} {k n : Int} {c : Bool}
set_option maxHeartbeats 4000000 in
theorem valid_wc (hp : Pfx k n c) (H : Lies G A F σ L) : WC G Tryz.prog 80 #[preV k n c] σ fun v σ' => v = preV k n c ∧ Lies G A F σ' L := by
  rcases hp with ⟨rfl, rfl, rfl⟩ | ⟨rfl, h1, h2, rfl⟩ | ⟨rfl, rfl, rfl⟩ | ⟨rfl, h1, h2⟩
  · refine WC.enter (fn := Tryz.f80) Tryz.func80 rfl ?_
    refine W.rg [(0, .agg #[.int .i64 0, .int .i64 0, .bool false])] fun TA => ?_
    refine W.seq (W.region ?_)
    refine RW.mk H (.row ⟨[.int .i64 0, .int .i64 0, .bool false], 70, false⟩) ?_
    clear H; intro _ b1 _ H
    refine RW.mk H (.row ⟨[.int .i64 0, .int .i64 0, .bool false], 70, false⟩) ?_
    clear H; intro _ b2 _ H
    refine RW.nil ?_
    refine W.rg [(1, .pointer (some ⟨b1, 0, none⟩)), (2, .pointer (some ⟨b2, 0, none⟩))] fun TA => ?_
    refine W.seq (W.region ?_)
    refine RW.v ?_
    refine RW.ld H 1 1 ?_
    refine RW.valE (v' := .bool true) (by kernel_rfl) (by kernel_rfl) rfl (by kernel_rfl) (by kernel_rfl) ?_
    refine RW.v ?_
    refine RW.val (by rfl) (by kernel_rfl) rfl (by kernel_rfl) ?_
    refine RW.ldL H 1 1 (by rfl) (by kernel_rfl) rfl rfl rfl rfl rfl (by kernel_rfl) ?_
    refine RW.valE (v' := .bool true) (by rfl) (by kernel_rfl) rfl (by kernel_rfl) (by kernel_rfl) ?_
    iterate 2 refine RW.v ?_
    refine RW.nil ?_
    refine W.rg [(1, .pointer (some ⟨b1, 0, none⟩)), (2, .pointer (some ⟨b2, 0, none⟩)), (3, .bool true)] fun TA => ?_
    refine W.seq ?_
    refine W.seq (W.region ?_)
    refine RW.v ?_
    refine RW.ld H 1 1 ?_
    refine RW.nil ?_
    refine W.rg [(1, .pointer (some ⟨b1, 0, none⟩)), (2, .pointer (some ⟨b2, 0, none⟩)), (3, .bool true), (13, .int .i64 0)] fun TA => ?_
    refine W.block ?_
    refine W.seq ?_
    refine W.seq (W.region ?_)
    iterate 2 refine RW.v ?_
    refine RW.nil ?_
    refine W.rg [(1, .pointer (some ⟨b1, 0, none⟩)), (2, .pointer (some ⟨b2, 0, none⟩)), (3, .bool true), (13, .int .i64 0), (14, .bool true)] fun TA => ?_
    refine W.c1 ?_
    refine W.skip ?_
    refine W.c1 ?_
    refine W.region ?_
    refine RW.v ?_
    refine RW.ld H 1 1 ?_
    iterate 2 refine RW.v ?_
    refine RW.nil ?_
    refine blkQ_normal ?_
    refine W.rg [(1, .pointer (some ⟨b1, 0, none⟩)), (2, .pointer (some ⟨b2, 0, none⟩)), (3, .bool true)] fun TA => ?_
    refine W.seq ?_
    refine W.seq (W.region ?_)
    iterate 2 refine RW.v ?_
    refine RW.nil ?_
    refine W.rg [(1, .pointer (some ⟨b1, 0, none⟩)), (2, .pointer (some ⟨b2, 0, none⟩)), (24, .bool false)] fun TA => ?_
    refine W.c0 ?_
    refine W.skip ?_
    refine W.seq (W.region ?_)
    refine RW.ld H 1 3 ?_
    refine RW.st H 0 [.int .i64 0, .int .i64 0, .bool false] [.int .i64 0, .int .i64 0, .bool false] ?_
    clear H; intro _ _ H; dsimp only [setL, delL] at H
    refine RW.nil ?_
    replace H := (H.del 1)
    dsimp only [setL, delL] at H
    refine W.rg [(2, .pointer (some ⟨b2, 0, none⟩))] fun TA => ?_
    refine W.ret ?_
    refine endG (by rfl) (by exact resL_cell rfl (H.get 0 rfl) (by rw [uT_eq]; exact Tryz.underlying70) (by kernel_rfl) rfl rfl rfl) ?_
    exact ⟨rfl, (H.del 0)⟩
  · refine WC.enter (fn := Tryz.f80) Tryz.func80 rfl ?_
    refine W.rg [(0, .agg #[.int .i64 1, .int .i64 n, .bool false])] fun TA => ?_
    refine W.seq (W.region ?_)
    refine RW.mk H (.row ⟨[.int .i64 1, .int .i64 n, .bool false], 70, false⟩) ?_
    clear H; intro _ b3 _ H
    refine RW.mk H (.row ⟨[.int .i64 0, .int .i64 0, .bool false], 70, false⟩) ?_
    clear H; intro _ b4 _ H
    refine RW.nil ?_
    refine W.rg [(1, .pointer (some ⟨b3, 0, none⟩)), (2, .pointer (some ⟨b4, 0, none⟩))] fun TA => ?_
    refine W.seq (W.region ?_)
    refine RW.v ?_
    refine RW.ld H 1 1 ?_
    refine RW.valE (v' := .bool true) (by kernel_rfl) (by kernel_rfl) rfl (congrArg Value.bool (decide_eq_true (by omega))) (by kernel_rfl) ?_
    refine RW.v ?_
    refine RW.val (by rfl) (by kernel_rfl) rfl (by kernel_rfl) ?_
    refine RW.ldL H 1 1 (by rfl) (by kernel_rfl) rfl rfl rfl rfl rfl (by kernel_rfl) ?_
    refine RW.valE (v' := .bool true) (by rfl) (by kernel_rfl) rfl (congrArg Value.bool (decide_eq_true (by omega))) (by kernel_rfl) ?_
    iterate 2 refine RW.v ?_
    refine RW.nil ?_
    refine W.rg [(1, .pointer (some ⟨b3, 0, none⟩)), (2, .pointer (some ⟨b4, 0, none⟩)), (3, .bool true)] fun TA => ?_
    refine W.seq ?_
    refine W.seq (W.region ?_)
    refine RW.v ?_
    refine RW.ld H 1 1 ?_
    refine RW.nil ?_
    refine W.rg [(1, .pointer (some ⟨b3, 0, none⟩)), (2, .pointer (some ⟨b4, 0, none⟩)), (3, .bool true), (13, .int .i64 1)] fun TA => ?_
    refine W.block ?_
    refine W.seq ?_
    refine W.seq (W.region ?_)
    iterate 2 refine RW.v ?_
    refine RW.nil ?_
    refine W.rg [(1, .pointer (some ⟨b3, 0, none⟩)), (2, .pointer (some ⟨b4, 0, none⟩)), (3, .bool true), (13, .int .i64 1), (14, .bool false)] fun TA => ?_
    refine W.c0 ?_
    refine W.region ?_
    iterate 2 refine RW.v ?_
    refine RW.nil ?_
    refine W.rg [(1, .pointer (some ⟨b3, 0, none⟩)), (2, .pointer (some ⟨b4, 0, none⟩)), (3, .bool true), (13, .int .i64 1), (14, .bool false)] fun TA => ?_
    refine W.c0 ?_
    refine W.seq ?_
    refine W.seq (W.region ?_)
    iterate 2 refine RW.v ?_
    refine RW.nil ?_
    refine W.rg [(1, .pointer (some ⟨b3, 0, none⟩)), (2, .pointer (some ⟨b4, 0, none⟩)), (3, .bool true), (13, .int .i64 1), (20, .bool true)] fun TA => ?_
    refine W.c1 ?_
    refine W.skip ?_
    refine W.c1 ?_
    refine W.skip ?_
    refine blkQ_normal ?_
    refine W.seq ?_
    refine W.seq (W.region ?_)
    iterate 2 refine RW.v ?_
    refine RW.nil ?_
    refine W.rg [(1, .pointer (some ⟨b3, 0, none⟩)), (2, .pointer (some ⟨b4, 0, none⟩)), (24, .bool false)] fun TA => ?_
    refine W.c0 ?_
    refine W.skip ?_
    refine W.seq (W.region ?_)
    refine RW.ld H 1 3 ?_
    refine RW.st H 0 [.int .i64 1, .int .i64 n, .bool false] [.int .i64 1, .int .i64 n, .bool false] ?_
    clear H; intro _ _ H; dsimp only [setL, delL] at H
    refine RW.nil ?_
    replace H := (H.del 1)
    dsimp only [setL, delL] at H
    refine W.rg [(2, .pointer (some ⟨b4, 0, none⟩))] fun TA => ?_
    refine W.ret ?_
    refine endG (by rfl) (by exact resL_cell rfl (H.get 0 rfl) (by rw [uT_eq]; exact Tryz.underlying70) (by kernel_rfl) rfl rfl rfl) ?_
    exact ⟨rfl, (H.del 0)⟩
  · refine WC.enter (fn := Tryz.f80) Tryz.func80 rfl ?_
    refine W.rg [(0, .agg #[.int .i64 2, .int .i64 0, .bool false])] fun TA => ?_
    refine W.seq (W.region ?_)
    refine RW.mk H (.row ⟨[.int .i64 2, .int .i64 0, .bool false], 70, false⟩) ?_
    clear H; intro _ b5 _ H
    refine RW.mk H (.row ⟨[.int .i64 0, .int .i64 0, .bool false], 70, false⟩) ?_
    clear H; intro _ b6 _ H
    refine RW.nil ?_
    refine W.rg [(1, .pointer (some ⟨b5, 0, none⟩)), (2, .pointer (some ⟨b6, 0, none⟩))] fun TA => ?_
    refine W.seq (W.region ?_)
    refine RW.v ?_
    refine RW.ld H 1 1 ?_
    refine RW.valE (v' := .bool true) (by kernel_rfl) (by kernel_rfl) rfl (by kernel_rfl) (by kernel_rfl) ?_
    refine RW.v ?_
    refine RW.val (by rfl) (by kernel_rfl) rfl (by kernel_rfl) ?_
    refine RW.ldL H 1 1 (by rfl) (by kernel_rfl) rfl rfl rfl rfl rfl (by kernel_rfl) ?_
    refine RW.valE (v' := .bool true) (by rfl) (by kernel_rfl) rfl (by kernel_rfl) (by kernel_rfl) ?_
    iterate 2 refine RW.v ?_
    refine RW.nil ?_
    refine W.rg [(1, .pointer (some ⟨b5, 0, none⟩)), (2, .pointer (some ⟨b6, 0, none⟩)), (3, .bool true)] fun TA => ?_
    refine W.seq ?_
    refine W.seq (W.region ?_)
    refine RW.v ?_
    refine RW.ld H 1 1 ?_
    refine RW.nil ?_
    refine W.rg [(1, .pointer (some ⟨b5, 0, none⟩)), (2, .pointer (some ⟨b6, 0, none⟩)), (3, .bool true), (13, .int .i64 2)] fun TA => ?_
    refine W.block ?_
    refine W.seq ?_
    refine W.seq (W.region ?_)
    iterate 2 refine RW.v ?_
    refine RW.nil ?_
    refine W.rg [(1, .pointer (some ⟨b5, 0, none⟩)), (2, .pointer (some ⟨b6, 0, none⟩)), (3, .bool true), (13, .int .i64 2), (14, .bool false)] fun TA => ?_
    refine W.c0 ?_
    refine W.region ?_
    iterate 2 refine RW.v ?_
    refine RW.nil ?_
    refine W.rg [(1, .pointer (some ⟨b5, 0, none⟩)), (2, .pointer (some ⟨b6, 0, none⟩)), (3, .bool true), (13, .int .i64 2), (14, .bool true)] fun TA => ?_
    refine W.c1 ?_
    refine W.region ?_
    refine RW.v ?_
    refine RW.ld H 1 1 ?_
    iterate 2 refine RW.v ?_
    refine RW.nil ?_
    refine blkQ_normal ?_
    refine W.rg [(1, .pointer (some ⟨b5, 0, none⟩)), (2, .pointer (some ⟨b6, 0, none⟩)), (3, .bool true)] fun TA => ?_
    refine W.seq ?_
    refine W.seq (W.region ?_)
    iterate 2 refine RW.v ?_
    refine RW.nil ?_
    refine W.rg [(1, .pointer (some ⟨b5, 0, none⟩)), (2, .pointer (some ⟨b6, 0, none⟩)), (24, .bool false)] fun TA => ?_
    refine W.c0 ?_
    refine W.skip ?_
    refine W.seq (W.region ?_)
    refine RW.ld H 1 3 ?_
    refine RW.st H 0 [.int .i64 2, .int .i64 0, .bool false] [.int .i64 2, .int .i64 0, .bool false] ?_
    clear H; intro _ _ H; dsimp only [setL, delL] at H
    refine RW.nil ?_
    replace H := (H.del 1)
    dsimp only [setL, delL] at H
    refine W.rg [(2, .pointer (some ⟨b6, 0, none⟩))] fun TA => ?_
    refine W.ret ?_
    refine endG (by rfl) (by exact resL_cell rfl (H.get 0 rfl) (by rw [uT_eq]; exact Tryz.underlying70) (by kernel_rfl) rfl rfl rfl) ?_
    exact ⟨rfl, (H.del 0)⟩
  · cases c
    · refine WC.enter (fn := Tryz.f80) Tryz.func80 rfl ?_
      refine W.rg [(0, .agg #[.int .i64 3, .int .i64 n, .bool false])] fun TA => ?_
      refine W.seq (W.region ?_)
      refine RW.mk H (.row ⟨[.int .i64 3, .int .i64 n, .bool false], 70, false⟩) ?_
      clear H; intro _ b7 _ H
      refine RW.mk H (.row ⟨[.int .i64 0, .int .i64 0, .bool false], 70, false⟩) ?_
      clear H; intro _ b8 _ H
      refine RW.nil ?_
      refine W.rg [(1, .pointer (some ⟨b7, 0, none⟩)), (2, .pointer (some ⟨b8, 0, none⟩))] fun TA => ?_
      refine W.seq (W.region ?_)
      refine RW.v ?_
      refine RW.ld H 1 1 ?_
      refine RW.valE (v' := .bool true) (by kernel_rfl) (by kernel_rfl) rfl (congrArg Value.bool (decide_eq_true (by omega))) (by kernel_rfl) ?_
      refine RW.v ?_
      refine RW.val (by rfl) (by kernel_rfl) rfl (by kernel_rfl) ?_
      refine RW.ldL H 1 1 (by rfl) (by kernel_rfl) rfl rfl rfl rfl rfl (by kernel_rfl) ?_
      refine RW.valE (v' := .bool true) (by rfl) (by kernel_rfl) rfl (congrArg Value.bool (decide_eq_true (by omega))) (by kernel_rfl) ?_
      iterate 2 refine RW.v ?_
      refine RW.nil ?_
      refine W.rg [(1, .pointer (some ⟨b7, 0, none⟩)), (2, .pointer (some ⟨b8, 0, none⟩)), (3, .bool true)] fun TA => ?_
      refine W.seq ?_
      refine W.seq (W.region ?_)
      refine RW.v ?_
      refine RW.ld H 1 1 ?_
      refine RW.nil ?_
      refine W.rg [(1, .pointer (some ⟨b7, 0, none⟩)), (2, .pointer (some ⟨b8, 0, none⟩)), (3, .bool true), (13, .int .i64 3)] fun TA => ?_
      refine W.block ?_
      refine W.seq ?_
      refine W.seq (W.region ?_)
      iterate 2 refine RW.v ?_
      refine RW.nil ?_
      refine W.rg [(1, .pointer (some ⟨b7, 0, none⟩)), (2, .pointer (some ⟨b8, 0, none⟩)), (3, .bool true), (13, .int .i64 3), (14, .bool false)] fun TA => ?_
      refine W.c0 ?_
      refine W.region ?_
      iterate 2 refine RW.v ?_
      refine RW.nil ?_
      refine W.rg [(1, .pointer (some ⟨b7, 0, none⟩)), (2, .pointer (some ⟨b8, 0, none⟩)), (3, .bool true), (13, .int .i64 3), (14, .bool false)] fun TA => ?_
      refine W.c0 ?_
      refine W.seq ?_
      refine W.seq (W.region ?_)
      iterate 2 refine RW.v ?_
      refine RW.nil ?_
      refine W.rg [(1, .pointer (some ⟨b7, 0, none⟩)), (2, .pointer (some ⟨b8, 0, none⟩)), (3, .bool true), (13, .int .i64 3), (20, .bool false)] fun TA => ?_
      refine W.c0 ?_
      refine W.region ?_
      iterate 2 refine RW.v ?_
      refine RW.nil ?_
      refine W.rg [(1, .pointer (some ⟨b7, 0, none⟩)), (2, .pointer (some ⟨b8, 0, none⟩)), (3, .bool true), (20, .bool true)] fun TA => ?_
      refine W.c1 ?_
      refine W.skip ?_
      refine blkQ_normal ?_
      refine W.seq ?_
      refine W.seq (W.region ?_)
      iterate 2 refine RW.v ?_
      refine RW.nil ?_
      refine W.rg [(1, .pointer (some ⟨b7, 0, none⟩)), (2, .pointer (some ⟨b8, 0, none⟩)), (24, .bool false)] fun TA => ?_
      refine W.c0 ?_
      refine W.skip ?_
      refine W.seq (W.region ?_)
      refine RW.ld H 1 3 ?_
      refine RW.st H 0 [.int .i64 3, .int .i64 n, .bool false] [.int .i64 3, .int .i64 n, .bool false] ?_
      clear H; intro _ _ H; dsimp only [setL, delL] at H
      refine RW.nil ?_
      replace H := (H.del 1)
      dsimp only [setL, delL] at H
      refine W.rg [(2, .pointer (some ⟨b8, 0, none⟩))] fun TA => ?_
      refine W.ret ?_
      refine endG (by rfl) (by exact resL_cell rfl (H.get 0 rfl) (by rw [uT_eq]; exact Tryz.underlying70) (by kernel_rfl) rfl rfl rfl) ?_
      exact ⟨rfl, (H.del 0)⟩
    · refine WC.enter (fn := Tryz.f80) Tryz.func80 rfl ?_
      refine W.rg [(0, .agg #[.int .i64 3, .int .i64 n, .bool true])] fun TA => ?_
      refine W.seq (W.region ?_)
      refine RW.mk H (.row ⟨[.int .i64 3, .int .i64 n, .bool true], 70, false⟩) ?_
      clear H; intro _ b9 _ H
      refine RW.mk H (.row ⟨[.int .i64 0, .int .i64 0, .bool false], 70, false⟩) ?_
      clear H; intro _ b10 _ H
      refine RW.nil ?_
      refine W.rg [(1, .pointer (some ⟨b9, 0, none⟩)), (2, .pointer (some ⟨b10, 0, none⟩))] fun TA => ?_
      refine W.seq (W.region ?_)
      refine RW.v ?_
      refine RW.ld H 1 1 ?_
      refine RW.valE (v' := .bool true) (by kernel_rfl) (by kernel_rfl) rfl (congrArg Value.bool (decide_eq_true (by omega))) (by kernel_rfl) ?_
      refine RW.v ?_
      refine RW.val (by rfl) (by kernel_rfl) rfl (by kernel_rfl) ?_
      refine RW.ldL H 1 1 (by rfl) (by kernel_rfl) rfl rfl rfl rfl rfl (by kernel_rfl) ?_
      refine RW.valE (v' := .bool true) (by rfl) (by kernel_rfl) rfl (congrArg Value.bool (decide_eq_true (by omega))) (by kernel_rfl) ?_
      iterate 2 refine RW.v ?_
      refine RW.nil ?_
      refine W.rg [(1, .pointer (some ⟨b9, 0, none⟩)), (2, .pointer (some ⟨b10, 0, none⟩)), (3, .bool true)] fun TA => ?_
      refine W.seq ?_
      refine W.seq (W.region ?_)
      refine RW.v ?_
      refine RW.ld H 1 1 ?_
      refine RW.nil ?_
      refine W.rg [(1, .pointer (some ⟨b9, 0, none⟩)), (2, .pointer (some ⟨b10, 0, none⟩)), (3, .bool true), (13, .int .i64 3)] fun TA => ?_
      refine W.block ?_
      refine W.seq ?_
      refine W.seq (W.region ?_)
      iterate 2 refine RW.v ?_
      refine RW.nil ?_
      refine W.rg [(1, .pointer (some ⟨b9, 0, none⟩)), (2, .pointer (some ⟨b10, 0, none⟩)), (3, .bool true), (13, .int .i64 3), (14, .bool false)] fun TA => ?_
      refine W.c0 ?_
      refine W.region ?_
      iterate 2 refine RW.v ?_
      refine RW.nil ?_
      refine W.rg [(1, .pointer (some ⟨b9, 0, none⟩)), (2, .pointer (some ⟨b10, 0, none⟩)), (3, .bool true), (13, .int .i64 3), (14, .bool false)] fun TA => ?_
      refine W.c0 ?_
      refine W.seq ?_
      refine W.seq (W.region ?_)
      iterate 2 refine RW.v ?_
      refine RW.nil ?_
      refine W.rg [(1, .pointer (some ⟨b9, 0, none⟩)), (2, .pointer (some ⟨b10, 0, none⟩)), (3, .bool true), (13, .int .i64 3), (20, .bool false)] fun TA => ?_
      refine W.c0 ?_
      refine W.region ?_
      iterate 2 refine RW.v ?_
      refine RW.nil ?_
      refine W.rg [(1, .pointer (some ⟨b9, 0, none⟩)), (2, .pointer (some ⟨b10, 0, none⟩)), (3, .bool true), (20, .bool true)] fun TA => ?_
      refine W.c1 ?_
      refine W.skip ?_
      refine blkQ_normal ?_
      refine W.seq ?_
      refine W.seq (W.region ?_)
      iterate 2 refine RW.v ?_
      refine RW.nil ?_
      refine W.rg [(1, .pointer (some ⟨b9, 0, none⟩)), (2, .pointer (some ⟨b10, 0, none⟩)), (24, .bool false)] fun TA => ?_
      refine W.c0 ?_
      refine W.skip ?_
      refine W.seq (W.region ?_)
      refine RW.ld H 1 3 ?_
      refine RW.st H 0 [.int .i64 3, .int .i64 n, .bool true] [.int .i64 3, .int .i64 n, .bool true] ?_
      clear H; intro _ _ H; dsimp only [setL, delL] at H
      refine RW.nil ?_
      replace H := (H.del 1)
      dsimp only [setL, delL] at H
      refine W.rg [(2, .pointer (some ⟨b10, 0, none⟩))] fun TA => ?_
      refine W.ret ?_
      refine endG (by rfl) (by exact resL_cell rfl (H.get 0 rfl) (by rw [uT_eq]; exact Tryz.underlying70) (by kernel_rfl) rfl rfl rfl) ?_
      exact ⟨rfl, (H.del 0)⟩
set_option maxHeartbeats 2000000 in
theorem univ_wc  (H : Lies G (A) F σ (L)) : WC G Tryz.prog 81 #[] σ fun v σ' => ∃ (c1 : Nat), v = .map (some c1) ∧ Lies G (A) F σ' (.at_ c1 (.ents [(.int .i64 0, .func (.func 114) #[] #[]), (.int .i64 1, .func (.func 115) #[] #[]), (.int .i64 2, .func (.func 117) #[] #[]), (.int .i64 3, .func (.func 118) #[] #[])] 4) :: L) := by
  refine WC.enter (fn := Tryz.f81) Tryz.func81 rfl ?_
  refine W.rg [] fun TA => ?_
  refine W.seq (W.region ?_)
  refine RW.v ?_
  refine RW.nil ?_
  refine W.rg [] fun TA => ?_
  refine W.seq (W.region ?_)
  refine RW.mkM H ?_
  clear H; intro _ b1 _ H
  refine RW.upL H 0 [(.int .i64 0, .func (.func 114) #[] #[])] 1 ?_
  clear H; intro _ _ H; dsimp only [setL, delL] at H
  refine RW.upL H 0 [(.int .i64 0, .func (.func 114) #[] #[]), (.int .i64 1, .func (.func 115) #[] #[])] 2 ?_
  clear H; intro _ _ H; dsimp only [setL, delL] at H
  refine RW.upL H 0 [(.int .i64 0, .func (.func 114) #[] #[]), (.int .i64 1, .func (.func 115) #[] #[]), (.int .i64 2, .func (.func 117) #[] #[])] 3 ?_
  clear H; intro _ _ H; dsimp only [setL, delL] at H
  refine RW.upL H 0 [(.int .i64 0, .func (.func 114) #[] #[]), (.int .i64 1, .func (.func 115) #[] #[]), (.int .i64 2, .func (.func 117) #[] #[]), (.int .i64 3, .func (.func 118) #[] #[])] 4 ?_
  clear H; intro _ _ H; dsimp only [setL, delL] at H
  iterate 2 refine RW.v ?_
  refine RW.nil ?_
  refine W.rg [(0, .map (some b1))] fun TA => ?_
  refine W.ret ?_
  refine endG (by rfl) (by exact resL_tmp rfl) ?_
  exact ⟨_, rfl, H⟩
set_option maxHeartbeats 2000000 in
theorem digs_wc  {d : Int} (H : Lies G (A) F σ (L)) : WC G Tryz.prog 82 #[.int .i64 d] σ fun v σ' => ∃ (c1 : Nat) (c2 : Nat) (c3 : Nat), v = .map (some c1) ∧ Lies G (A) F σ' (.at_ c1 (.ents [(.int .i64 0, .func (.func 120) #[] #[.pointer (some ⟨c2, 0, none⟩), .pointer (some ⟨c3, 0, none⟩)]), (.int .i64 1, .func (.func 121) #[] #[.pointer (some ⟨c2, 0, none⟩), .pointer (some ⟨c3, 0, none⟩)]), (.int .i64 2, .func (.func 122) #[] #[.pointer (some ⟨c3, 0, none⟩), .pointer (some ⟨c2, 0, none⟩)]), (.int .i64 3, .func (.func 123) #[] #[.pointer (some ⟨c2, 0, none⟩), .pointer (some ⟨c3, 0, none⟩)])] 4) :: .at_ c2 (.row ⟨[.func (.func 119) #[] #[]], 140, false⟩) :: .at_ c3 (.row ⟨[.int .i64 d], 3, false⟩) :: L) := by
  refine WC.enter (fn := Tryz.f82) Tryz.func82 rfl ?_
  refine W.rg [(0, .int .i64 d)] fun TA => ?_
  refine W.seq (W.region ?_)
  refine RW.mk H (.row ⟨[.int .i64 d], 3, false⟩) ?_
  clear H; intro _ b1 _ H
  refine RW.v ?_
  refine RW.nil ?_
  refine W.rg [(1, .pointer (some ⟨b1, 0, none⟩))] fun TA => ?_
  refine W.seq (W.region ?_)
  refine RW.mk H (.row ⟨[.nilFunc], 140, false⟩) ?_
  clear H; intro _ b2 _ H
  refine RW.st H 0 [.func (.func 119) #[] #[]] [.func (.func 119) #[] #[]] ?_
  clear H; intro _ _ H; dsimp only [setL, delL] at H
  refine RW.nil ?_
  refine W.rg [(1, .pointer (some ⟨b1, 0, none⟩)), (3, .pointer (some ⟨b2, 0, none⟩))] fun TA => ?_
  refine W.seq (W.region ?_)
  refine RW.mkM H ?_
  clear H; intro _ b3 _ H
  refine RW.val (v := .func (.func 120) #[] #[.pointer (some ⟨b2, 0, none⟩), .pointer (some ⟨b1, 0, none⟩)]) (by kernel_rfl) (by kernel_rfl) (by kernel_rfl) (by kernel_rfl) ?_
  refine RW.upL H 0 [(.int .i64 0, .func (.func 120) #[] #[.pointer (some ⟨b2, 0, none⟩), .pointer (some ⟨b1, 0, none⟩)])] 1 ?_
  clear H; intro _ _ H; dsimp only [setL, delL] at H
  refine RW.val (v := .func (.func 121) #[] #[.pointer (some ⟨b2, 0, none⟩), .pointer (some ⟨b1, 0, none⟩)]) (by kernel_rfl) (by kernel_rfl) (by kernel_rfl) (by kernel_rfl) ?_
  refine RW.upL H 0 [(.int .i64 0, .func (.func 120) #[] #[.pointer (some ⟨b2, 0, none⟩), .pointer (some ⟨b1, 0, none⟩)]), (.int .i64 1, .func (.func 121) #[] #[.pointer (some ⟨b2, 0, none⟩), .pointer (some ⟨b1, 0, none⟩)])] 2 ?_
  clear H; intro _ _ H; dsimp only [setL, delL] at H
  refine RW.val (v := .func (.func 122) #[] #[.pointer (some ⟨b1, 0, none⟩), .pointer (some ⟨b2, 0, none⟩)]) (by kernel_rfl) (by kernel_rfl) (by kernel_rfl) (by kernel_rfl) ?_
  refine RW.upL H 0 [(.int .i64 0, .func (.func 120) #[] #[.pointer (some ⟨b2, 0, none⟩), .pointer (some ⟨b1, 0, none⟩)]), (.int .i64 1, .func (.func 121) #[] #[.pointer (some ⟨b2, 0, none⟩), .pointer (some ⟨b1, 0, none⟩)]), (.int .i64 2, .func (.func 122) #[] #[.pointer (some ⟨b1, 0, none⟩), .pointer (some ⟨b2, 0, none⟩)])] 3 ?_
  clear H; intro _ _ H; dsimp only [setL, delL] at H
  refine RW.val (v := .func (.func 123) #[] #[.pointer (some ⟨b2, 0, none⟩), .pointer (some ⟨b1, 0, none⟩)]) (by kernel_rfl) (by kernel_rfl) (by kernel_rfl) (by kernel_rfl) ?_
  refine RW.upL H 0 [(.int .i64 0, .func (.func 120) #[] #[.pointer (some ⟨b2, 0, none⟩), .pointer (some ⟨b1, 0, none⟩)]), (.int .i64 1, .func (.func 121) #[] #[.pointer (some ⟨b2, 0, none⟩), .pointer (some ⟨b1, 0, none⟩)]), (.int .i64 2, .func (.func 122) #[] #[.pointer (some ⟨b1, 0, none⟩), .pointer (some ⟨b2, 0, none⟩)]), (.int .i64 3, .func (.func 123) #[] #[.pointer (some ⟨b2, 0, none⟩), .pointer (some ⟨b1, 0, none⟩)])] 4 ?_
  clear H; intro _ _ H; dsimp only [setL, delL] at H
  iterate 2 refine RW.v ?_
  refine RW.nil ?_
  refine W.rg [(2, .map (some b3))] fun TA => ?_
  refine W.ret ?_
  refine endG (by rfl) (by exact resL_tmp rfl) ?_
  exact ⟨_, _, _, rfl, H⟩
end
section
variable {G : Nat} {A : Abs} {σ0 : Mem} {k n : Int} {c : Bool}
set_option maxHeartbeats 4000000 in
theorem uni_wc (hG : G ≤ σ0.next) (ha : σ0.abs = A) (hp : Pfx k n c) : WC G Tryz.prog 34 #[preV k n c] σ0 fun v σ' => ∃ k' n' c', v = preV k' n' c' ∧ Pfx k' n' c' ∧ Lies G A σ0.get σ' [] := by
  rcases hp with ⟨rfl, rfl, rfl⟩ | ⟨rfl, h1, h2, rfl⟩ | ⟨rfl, rfl, rfl⟩ | ⟨rfl, h1, h2⟩
  · have H := Lies.start hG ha
    generalize σ0.get = F at H ⊢
    refine WC.enter (fn := Tryz.f34) Tryz.func34 rfl ?_
    refine W.rg [(0, .agg #[.int .i64 0, .int .i64 0, .bool false])] fun TA => ?_
    refine W.seq (W.region ?_)
    refine RW.mk H (.row ⟨[.int .i64 0, .int .i64 0, .bool false], 70, false⟩) ?_
    clear H; intro _ b1 _ H
    refine RW.mk H (.row ⟨[.int .i64 0, .int .i64 0, .bool false], 70, false⟩) ?_
    clear H; intro _ b2 _ H
    refine RW.nil ?_
    refine W.rg [(1, .pointer (some ⟨b1, 0, none⟩)), (2, .pointer (some ⟨b2, 0, none⟩))] fun TA => ?_
    refine W.seq (W.region ?_)
    refine RW.ld H 1 3 ?_
    refine RW.call (by kernel_rfl) (by kernel_rfl) rfl rfl rfl (by kernel_rfl) (by kernel_rfl) ((valid_wc (G := G) (k := 0) (n := 0) (c := false) (.inl ⟨rfl, rfl, rfl⟩) H).mono ?_)
    clear H
    rintro _ _ ⟨rfl, H⟩
    refine RW.st H 1 [.int .i64 0, .int .i64 0, .bool false] [.int .i64 0, .int .i64 0, .bool false] ?_
    clear H; intro _ _ H; dsimp only [setL, delL] at H
    refine RW.nil ?_
    refine W.rg [(1, .pointer (some ⟨b1, 0, none⟩)), (2, .pointer (some ⟨b2, 0, none⟩))] fun TA => ?_
    refine W.seq ?_
    refine W.seq (W.region ?_)
    refine RW.v ?_
    refine RW.ld H 1 1 ?_
    refine RW.nil ?_
    refine W.rg [(1, .pointer (some ⟨b1, 0, none⟩)), (2, .pointer (some ⟨b2, 0, none⟩)), (6, .bool false)] fun TA => ?_
    refine W.c0 ?_
    refine W.skip ?_
    refine W.seq ?_
    refine W.drawn (by kernel_rfl) (by kernel_rfl) H.gn ?_
    have H3 := H
    refine RW.call (by kernel_rfl) (by kernel_rfl) rfl rfl rfl (by kernel_rfl) (by kernel_rfl) ((univ_wc (G := G)  H3).mono ?_)
    rintro _ _ ⟨b4, rfl, H5⟩
    refine RW.v ?_
    refine RW.ld H5 2 1 ?_
    refine RW.lkL H5 0 (.func (.func 114) #[] #[]) ?_
    refine RW.v ?_
    refine RW.ld H5 2 1 ?_
    refine RW.cl ?_
    refine WC.enter (fn := Tryz.f114) Tryz.func114 rfl ?_
    replace H := H5
    refine W.rg [(0, .int .i64 0)] fun TA => ?_
    refine W.seq (W.region ?_)
    refine RW.mk H (.row ⟨[.int .i64 0, .int .i64 0, .bool false], 70, false⟩) ?_
    clear H; intro _ b6 _ H
    refine RW.nil ?_
    refine W.rg [(2, .pointer (some ⟨b6, 0, none⟩))] fun TA => ?_
    refine W.seq (W.region ?_)
    refine RW.val (v := .agg #[.int .i64 1, .int .i64 4, .bool false]) (by kernel_rfl) (by kernel_rfl) (by kernel_rfl) (by kernel_rfl) ?_
    refine RW.st H 0 [.int .i64 1, .int .i64 4, .bool false] [.int .i64 1, .int .i64 4, .bool false] ?_
    clear H; intro _ _ H; dsimp only [setL, delL] at H
    refine RW.nil ?_
    refine W.rg [(2, .pointer (some ⟨b6, 0, none⟩))] fun TA => ?_
    refine W.ret ?_
    refine endG (by rfl) (by exact resL_cell rfl (H.get 0 rfl) (by rw [uT_eq]; exact Tryz.underlying70) (by kernel_rfl) rfl rfl rfl) ?_
    have H7 := H
    refine RW.stD H7 2 (vs := [.int .i64 1, .int .i64 4, .bool false]) (cs' := [.int .i64 1, .int .i64 4, .bool false]) (by kernel_rfl) (by kernel_rfl) rfl rfl rfl rfl rfl (by kernel_rfl) (Nat.le_of_ble_eq_true rfl) rfl (by kernel_rfl) ?_
    intro _ H8
    dsimp only [setL, delL] at H8
    refine RW.nil ?_
    refine ⟨⟨by kernel_rfl, ⟨trivial, trivial, dyn_row (H5.get 2 rfl) (H8.get 3 rfl) ⟨fun _ => H3.get 1 rfl, fun h => Bool.noConfusion h, fun h => Bool.noConfusion h, fun _ => H5.get 2 rfl, fun h => Bool.noConfusion h, fun h => Bool.noConfusion h, fun _ => H5.get 2 rfl, fun _ => H7.get 3 rfl, trivial⟩, trivial, trivial, dyn_row (H5.get 2 rfl) (H8.get 3 rfl) ⟨fun _ => H3.get 1 rfl, fun h => Bool.noConfusion h, fun h => Bool.noConfusion h, fun _ => H5.get 2 rfl, fun h => Bool.noConfusion h, fun h => Bool.noConfusion h, fun _ => H5.get 2 rfl, fun _ => H7.get 3 rfl, trivial⟩, trivial, trivial, trivial⟩⟩, ?_⟩
    replace H := H8
    clear H3 H5 H7 H8
    replace H := (((H.del 3).del 1).del 0)
    dsimp only [setL, delL] at H
    refine W.rg [(2, .pointer (some ⟨b2, 0, none⟩))] fun TA => ?_
    refine W.ret ?_
    refine endG (by rfl) (by exact resL_cell rfl (H.get 0 rfl) (by rw [uT_eq]; exact Tryz.underlying70) (by kernel_rfl) rfl rfl rfl) ?_
    exact ⟨1, 4, false, rfl, .inr (.inl ⟨rfl, by omega, by omega, rfl⟩), (H.del 0)⟩
  · have H := Lies.start hG ha
    generalize σ0.get = F at H ⊢
    refine WC.enter (fn := Tryz.f34) Tryz.func34 rfl ?_
    refine W.rg [(0, .agg #[.int .i64 1, .int .i64 n, .bool false])] fun TA => ?_
    refine W.seq (W.region ?_)
    refine RW.mk H (.row ⟨[.int .i64 1, .int .i64 n, .bool false], 70, false⟩) ?_
    clear H; intro _ b9 _ H
    refine RW.mk H (.row ⟨[.int .i64 0, .int .i64 0, .bool false], 70, false⟩) ?_
    clear H; intro _ b10 _ H
    refine RW.nil ?_
    refine W.rg [(1, .pointer (some ⟨b9, 0, none⟩)), (2, .pointer (some ⟨b10, 0, none⟩))] fun TA => ?_
    refine W.seq (W.region ?_)
    refine RW.ld H 1 3 ?_
    refine RW.call (by kernel_rfl) (by kernel_rfl) rfl rfl rfl (by kernel_rfl) (by kernel_rfl) ((valid_wc (G := G) (k := 1) (n := n) (c := false) (.inr (.inl ⟨rfl, by omega, by omega, rfl⟩)) H).mono ?_)
    clear H
    rintro _ _ ⟨rfl, H⟩
    refine RW.st H 1 [.int .i64 1, .int .i64 n, .bool false] [.int .i64 1, .int .i64 n, .bool false] ?_
    clear H; intro _ _ H; dsimp only [setL, delL] at H
    refine RW.nil ?_
    refine W.rg [(1, .pointer (some ⟨b9, 0, none⟩)), (2, .pointer (some ⟨b10, 0, none⟩))] fun TA => ?_
    refine W.seq ?_
    refine W.seq (W.region ?_)
    refine RW.v ?_
    refine RW.ld H 1 1 ?_
    refine RW.nil ?_
    refine W.rg [(1, .pointer (some ⟨b9, 0, none⟩)), (2, .pointer (some ⟨b10, 0, none⟩)), (6, .bool false)] fun TA => ?_
    refine W.c0 ?_
    refine W.skip ?_
    refine W.seq ?_
    refine W.drawn (by kernel_rfl) (by kernel_rfl) H.gn ?_
    have H11 := H
    refine RW.call (by kernel_rfl) (by kernel_rfl) rfl rfl rfl (by kernel_rfl) (by kernel_rfl) ((univ_wc (G := G)  H11).mono ?_)
    rintro _ _ ⟨b12, rfl, H13⟩
    refine RW.v ?_
    refine RW.ld H13 2 1 ?_
    refine RW.lkL H13 0 (.func (.func 115) #[] #[]) ?_
    refine RW.v ?_
    refine RW.ld H13 2 1 ?_
    refine RW.cl ?_
    refine WC.enter (fn := Tryz.f115) Tryz.func115 rfl ?_
    replace H := H13
    refine W.rg [(0, .int .i64 n)] fun TA => ?_
    refine W.seq (W.region ?_)
    refine RW.mk H (.row ⟨[.int .i64 0, .int .i64 0, .bool false], 70, false⟩) ?_
    clear H; intro _ b14 _ H
    refine RW.nil ?_
    refine W.rg [(0, .int .i64 n), (2, .pointer (some ⟨b14, 0, none⟩))] fun TA => ?_
    refine W.seq (W.region ?_)
    refine RW.v ?_
    refine RW.cl ?_
    refine WC.enter (fn := Tryz.f116) Tryz.func116 rfl ?_
    refine W.rg [(0, .int .i64 n), (1, .int .i64 4)] fun TA => ?_
    refine W.seq (W.region ?_)
    refine RW.v ?_
    refine RW.nil ?_
    refine W.rg [(0, .int .i64 n), (1, .int .i64 4)] fun TA => ?_
    refine W.seq ?_
    refine W.seq (W.region ?_)
    iterate 2 refine RW.v ?_
    refine RW.valE (v' := .int .i64 576460752303423487) (by kernel_rfl) (by kernel_rfl) rfl (by kernel_rfl) (by kernel_rfl) ?_
    iterate 2 refine RW.v ?_
    refine RW.both _ _ rfl rfl rfl (fun hc15 => ?_) (fun hc15 => ?_)
    · have hc15b := hc15
      have hc15 := of_decide_eq_true hc15
      refine RW.skip (by rfl) (by kernel_rfl) ?_
      refine RW.skip (by rfl) (by kernel_rfl) ?_
      refine RW.skip (by rfl) (by kernel_rfl) ?_
      refine RW.skip (by rfl) (by kernel_rfl) ?_
      refine RW.v ?_
      refine RW.nil ?_
      refine W.rg [(0, .int .i64 n), (1, .int .i64 4), (14, .bool true)] fun TA => ?_
      refine W.c1 ?_
      refine W.seq ?_
      refine W.seq (W.region ?_)
      iterate 2 refine RW.v ?_
      refine RW.nil ?_
      refine W.rg [(16, .bool (decide (n > 0)))] fun TA => ?_
      refine W.cond rfl (fun hc16 => ?_) (fun hc16 => ?_)
      · have hc16b := hc16
        have hc16 := of_decide_eq_true hc16
        refine W.seq (W.region ?_)
        refine RW.v ?_
        refine RW.nil ?_
        refine W.rg [(4, .int .i64 2305843009213693951)] fun TA => ?_
        refine W.ret ?_
        refine seqQ_ret ?_
        refine seqQ_ret ?_
        refine endG (by rfl) (by exact resL_tmp rfl) ?_
        refine RW.val (v := .agg #[.int .i64 1, .int .i64 2305843009213693951, .bool false]) (by kernel_rfl) (by kernel_rfl) (by kernel_rfl) (by kernel_rfl) ?_
        refine RW.st H 0 [.int .i64 1, .int .i64 2305843009213693951, .bool false] [.int .i64 1, .int .i64 2305843009213693951, .bool false] ?_
        clear H; intro _ _ H; dsimp only [setL, delL] at H
        refine RW.nil ?_
        refine W.rg [(2, .pointer (some ⟨b14, 0, none⟩))] fun TA => ?_
        refine W.ret ?_
        refine endG (by rfl) (by exact resL_cell rfl (H.get 0 rfl) (by rw [uT_eq]; exact Tryz.underlying70) (by kernel_rfl) rfl rfl rfl) ?_
        have H17 := H
        refine RW.stD H17 2 (vs := [.int .i64 1, .int .i64 2305843009213693951, .bool false]) (cs' := [.int .i64 1, .int .i64 2305843009213693951, .bool false]) (by kernel_rfl) (by kernel_rfl) rfl rfl rfl rfl rfl (by kernel_rfl) (Nat.le_of_ble_eq_true rfl) rfl (by kernel_rfl) ?_
        intro _ H18
        dsimp only [setL, delL] at H18
        refine RW.nil ?_
        refine ⟨⟨by kernel_rfl, ⟨trivial, trivial, dyn_row (H13.get 2 rfl) (H18.get 3 rfl) ⟨fun _ => H11.get 1 rfl, fun h => Bool.noConfusion h, fun h => Bool.noConfusion h, fun _ => H13.get 2 rfl, fun h => Bool.noConfusion h, fun h => Bool.noConfusion h, fun _ => H13.get 2 rfl, fun _ => H17.get 3 rfl, trivial⟩, trivial, trivial, dyn_row (H13.get 2 rfl) (H18.get 3 rfl) ⟨fun _ => H11.get 1 rfl, fun h => Bool.noConfusion h, fun h => Bool.noConfusion h, fun _ => H13.get 2 rfl, fun h => Bool.noConfusion h, fun h => Bool.noConfusion h, fun _ => H13.get 2 rfl, fun _ => H17.get 3 rfl, trivial⟩, trivial, trivial, trivial⟩⟩, ?_⟩
        replace H := H18
        clear H11 H13 H17 H18
        replace H := (((H.del 3).del 1).del 0)
        dsimp only [setL, delL] at H
        refine W.rg [(2, .pointer (some ⟨b10, 0, none⟩))] fun TA => ?_
        refine W.ret ?_
        refine endG (by rfl) (by exact resL_cell rfl (H.get 0 rfl) (by rw [uT_eq]; exact Tryz.underlying70) (by kernel_rfl) rfl rfl rfl) ?_
        exact ⟨1, 2305843009213693951, false, rfl, .inr (.inl ⟨rfl, by omega, by omega, rfl⟩), (H.del 0)⟩
      · have hc16b := hc16
        have hc16 := of_decide_eq_false hc16
        refine W.skip ?_
        refine W.seq (W.region ?_)
        refine RW.v ?_
        refine RW.nil ?_
        refine W.rg [(4, .int .i64 (-2305843009213693952))] fun TA => ?_
        refine W.ret ?_
        refine seqQ_ret ?_
        refine endG (by rfl) (by exact resL_tmp rfl) ?_
        refine RW.val (v := .agg #[.int .i64 1, .int .i64 (-2305843009213693952), .bool false]) (by kernel_rfl) (by kernel_rfl) (by kernel_rfl) (by kernel_rfl) ?_
        refine RW.st H 0 [.int .i64 1, .int .i64 (-2305843009213693952), .bool false] [.int .i64 1, .int .i64 (-2305843009213693952), .bool false] ?_
        clear H; intro _ _ H; dsimp only [setL, delL] at H
        refine RW.nil ?_
        refine W.rg [(2, .pointer (some ⟨b14, 0, none⟩))] fun TA => ?_
        refine W.ret ?_
        refine endG (by rfl) (by exact resL_cell rfl (H.get 0 rfl) (by rw [uT_eq]; exact Tryz.underlying70) (by kernel_rfl) rfl rfl rfl) ?_
        have H19 := H
        refine RW.stD H19 2 (vs := [.int .i64 1, .int .i64 (-2305843009213693952), .bool false]) (cs' := [.int .i64 1, .int .i64 (-2305843009213693952), .bool false]) (by kernel_rfl) (by kernel_rfl) rfl rfl rfl rfl rfl (by kernel_rfl) (Nat.le_of_ble_eq_true rfl) rfl (by kernel_rfl) ?_
        intro _ H20
        dsimp only [setL, delL] at H20
        refine RW.nil ?_
        refine ⟨⟨by kernel_rfl, ⟨trivial, trivial, dyn_row (H13.get 2 rfl) (H20.get 3 rfl) ⟨fun _ => H11.get 1 rfl, fun h => Bool.noConfusion h, fun h => Bool.noConfusion h, fun _ => H13.get 2 rfl, fun h => Bool.noConfusion h, fun h => Bool.noConfusion h, fun _ => H13.get 2 rfl, fun _ => H19.get 3 rfl, trivial⟩, trivial, trivial, dyn_row (H13.get 2 rfl) (H20.get 3 rfl) ⟨fun _ => H11.get 1 rfl, fun h => Bool.noConfusion h, fun h => Bool.noConfusion h, fun _ => H13.get 2 rfl, fun h => Bool.noConfusion h, fun h => Bool.noConfusion h, fun _ => H13.get 2 rfl, fun _ => H19.get 3 rfl, trivial⟩, trivial, trivial, trivial⟩⟩, ?_⟩
        replace H := H20
        clear H11 H13 H19 H20
        replace H := (((H.del 3).del 1).del 0)
        dsimp only [setL, delL] at H
        refine W.rg [(2, .pointer (some ⟨b10, 0, none⟩))] fun TA => ?_
        refine W.ret ?_
        refine endG (by rfl) (by exact resL_cell rfl (H.get 0 rfl) (by rw [uT_eq]; exact Tryz.underlying70) (by kernel_rfl) rfl rfl rfl) ?_
        exact ⟨1, (-2305843009213693952), false, rfl, .inr (.inl ⟨rfl, by omega, by omega, rfl⟩), (H.del 0)⟩
    · have hc15b := hc15
      have hc15 := of_decide_eq_false hc15
      refine RW.val (by rfl) (by kernel_rfl) rfl (by kernel_rfl) ?_
      refine RW.val (by rfl) (by kernel_rfl) rfl (by kernel_rfl) ?_
      refine RW.valE (v' := .int .i64 (-576460752303423488)) (by rfl) (by kernel_rfl) rfl (by kernel_rfl) (by kernel_rfl) ?_
      refine RW.val (by rfl) (by kernel_rfl) rfl (by kernel_rfl) ?_
      refine RW.v ?_
      refine RW.nil ?_
      refine W.rg [(0, .int .i64 n), (1, .int .i64 4), (14, .bool (decide (n < (-576460752303423488))))] fun TA => ?_
      refine W.cond rfl (fun hc21 => ?_) (fun hc21 => ?_)
      · have hc21b := hc21
        have hc21 := of_decide_eq_true hc21
        refine W.seq ?_
        refine W.seq (W.region ?_)
        iterate 2 refine RW.v ?_
        refine RW.nil ?_
        refine W.rg [(16, .bool (decide (n > 0)))] fun TA => ?_
        refine W.cond rfl (fun hc22 => ?_) (fun hc22 => ?_)
        · have hc22b := hc22
          have hc22 := of_decide_eq_true hc22
          refine W.seq (W.region ?_)
          refine RW.v ?_
          refine RW.nil ?_
          refine W.rg [(4, .int .i64 2305843009213693951)] fun TA => ?_
          refine W.ret ?_
          refine seqQ_ret ?_
          refine seqQ_ret ?_
          refine endG (by rfl) (by exact resL_tmp rfl) ?_
          refine RW.val (v := .agg #[.int .i64 1, .int .i64 2305843009213693951, .bool false]) (by kernel_rfl) (by kernel_rfl) (by kernel_rfl) (by kernel_rfl) ?_
          refine RW.st H 0 [.int .i64 1, .int .i64 2305843009213693951, .bool false] [.int .i64 1, .int .i64 2305843009213693951, .bool false] ?_
          clear H; intro _ _ H; dsimp only [setL, delL] at H
          refine RW.nil ?_
          refine W.rg [(2, .pointer (some ⟨b14, 0, none⟩))] fun TA => ?_
          refine W.ret ?_
          refine endG (by rfl) (by exact resL_cell rfl (H.get 0 rfl) (by rw [uT_eq]; exact Tryz.underlying70) (by kernel_rfl) rfl rfl rfl) ?_
          have H23 := H
          refine RW.stD H23 2 (vs := [.int .i64 1, .int .i64 2305843009213693951, .bool false]) (cs' := [.int .i64 1, .int .i64 2305843009213693951, .bool false]) (by kernel_rfl) (by kernel_rfl) rfl rfl rfl rfl rfl (by kernel_rfl) (Nat.le_of_ble_eq_true rfl) rfl (by kernel_rfl) ?_
          intro _ H24
          dsimp only [setL, delL] at H24
          refine RW.nil ?_
          refine ⟨⟨by kernel_rfl, ⟨trivial, trivial, dyn_row (H13.get 2 rfl) (H24.get 3 rfl) ⟨fun _ => H11.get 1 rfl, fun h => Bool.noConfusion h, fun h => Bool.noConfusion h, fun _ => H13.get 2 rfl, fun h => Bool.noConfusion h, fun h => Bool.noConfusion h, fun _ => H13.get 2 rfl, fun _ => H23.get 3 rfl, trivial⟩, trivial, trivial, dyn_row (H13.get 2 rfl) (H24.get 3 rfl) ⟨fun _ => H11.get 1 rfl, fun h => Bool.noConfusion h, fun h => Bool.noConfusion h, fun _ => H13.get 2 rfl, fun h => Bool.noConfusion h, fun h => Bool.noConfusion h, fun _ => H13.get 2 rfl, fun _ => H23.get 3 rfl, trivial⟩, trivial, trivial, trivial⟩⟩, ?_⟩
          replace H := H24
          clear H11 H13 H23 H24
          replace H := (((H.del 3).del 1).del 0)
          dsimp only [setL, delL] at H
          refine W.rg [(2, .pointer (some ⟨b10, 0, none⟩))] fun TA => ?_
          refine W.ret ?_
          refine endG (by rfl) (by exact resL_cell rfl (H.get 0 rfl) (by rw [uT_eq]; exact Tryz.underlying70) (by kernel_rfl) rfl rfl rfl) ?_
          exact ⟨1, 2305843009213693951, false, rfl, .inr (.inl ⟨rfl, by omega, by omega, rfl⟩), (H.del 0)⟩
        · have hc22b := hc22
          have hc22 := of_decide_eq_false hc22
          refine W.skip ?_
          refine W.seq (W.region ?_)
          refine RW.v ?_
          refine RW.nil ?_
          refine W.rg [(4, .int .i64 (-2305843009213693952))] fun TA => ?_
          refine W.ret ?_
          refine seqQ_ret ?_
          refine endG (by rfl) (by exact resL_tmp rfl) ?_
          refine RW.val (v := .agg #[.int .i64 1, .int .i64 (-2305843009213693952), .bool false]) (by kernel_rfl) (by kernel_rfl) (by kernel_rfl) (by kernel_rfl) ?_
          refine RW.st H 0 [.int .i64 1, .int .i64 (-2305843009213693952), .bool false] [.int .i64 1, .int .i64 (-2305843009213693952), .bool false] ?_
          clear H; intro _ _ H; dsimp only [setL, delL] at H
          refine RW.nil ?_
          refine W.rg [(2, .pointer (some ⟨b14, 0, none⟩))] fun TA => ?_
          refine W.ret ?_
          refine endG (by rfl) (by exact resL_cell rfl (H.get 0 rfl) (by rw [uT_eq]; exact Tryz.underlying70) (by kernel_rfl) rfl rfl rfl) ?_
          have H25 := H
          refine RW.stD H25 2 (vs := [.int .i64 1, .int .i64 (-2305843009213693952), .bool false]) (cs' := [.int .i64 1, .int .i64 (-2305843009213693952), .bool false]) (by kernel_rfl) (by kernel_rfl) rfl rfl rfl rfl rfl (by kernel_rfl) (Nat.le_of_ble_eq_true rfl) rfl (by kernel_rfl) ?_
          intro _ H26
          dsimp only [setL, delL] at H26
          refine RW.nil ?_
          refine ⟨⟨by kernel_rfl, ⟨trivial, trivial, dyn_row (H13.get 2 rfl) (H26.get 3 rfl) ⟨fun _ => H11.get 1 rfl, fun h => Bool.noConfusion h, fun h => Bool.noConfusion h, fun _ => H13.get 2 rfl, fun h => Bool.noConfusion h, fun h => Bool.noConfusion h, fun _ => H13.get 2 rfl, fun _ => H25.get 3 rfl, trivial⟩, trivial, trivial, dyn_row (H13.get 2 rfl) (H26.get 3 rfl) ⟨fun _ => H11.get 1 rfl, fun h => Bool.noConfusion h, fun h => Bool.noConfusion h, fun _ => H13.get 2 rfl, fun h => Bool.noConfusion h, fun h => Bool.noConfusion h, fun _ => H13.get 2 rfl, fun _ => H25.get 3 rfl, trivial⟩, trivial, trivial, trivial⟩⟩, ?_⟩
          replace H := H26
          clear H11 H13 H25 H26
          replace H := (((H.del 3).del 1).del 0)
          dsimp only [setL, delL] at H
          refine W.rg [(2, .pointer (some ⟨b10, 0, none⟩))] fun TA => ?_
          refine W.ret ?_
          refine endG (by rfl) (by exact resL_cell rfl (H.get 0 rfl) (by rw [uT_eq]; exact Tryz.underlying70) (by kernel_rfl) rfl rfl rfl) ?_
          exact ⟨1, (-2305843009213693952), false, rfl, .inr (.inl ⟨rfl, by omega, by omega, rfl⟩), (H.del 0)⟩
      · have hc21b := hc21
        have hc21 := of_decide_eq_false hc21
        refine W.skip ?_
        refine W.seq (W.region ?_)
        iterate 2 refine RW.v ?_
        refine RW.valE (v' := .int .i64 (n * 4)) (by kernel_rfl) (by kernel_rfl) rfl (congrArg (Value.int .i64) (wrap_in (by omega) (by omega))) (by kernel_rfl) ?_
        refine RW.v ?_
        refine RW.nil ?_
        refine W.rg [(4, .int .i64 (n * 4))] fun TA => ?_
        refine W.ret ?_
        refine endG (by rfl) (by exact resL_tmp rfl) ?_
        refine RW.val (v := .agg #[.int .i64 1, .int .i64 (n * 4), .bool false]) (by kernel_rfl) (by kernel_rfl) (by kernel_rfl) (by kernel_rfl) ?_
        refine RW.st H 0 [.int .i64 1, .int .i64 (n * 4), .bool false] [.int .i64 1, .int .i64 (n * 4), .bool false] ?_
        clear H; intro _ _ H; dsimp only [setL, delL] at H
        refine RW.nil ?_
        refine W.rg [(2, .pointer (some ⟨b14, 0, none⟩))] fun TA => ?_
        refine W.ret ?_
        refine endG (by rfl) (by exact resL_cell rfl (H.get 0 rfl) (by rw [uT_eq]; exact Tryz.underlying70) (by kernel_rfl) rfl rfl rfl) ?_
        have H27 := H
        refine RW.stD H27 2 (vs := [.int .i64 1, .int .i64 (n * 4), .bool false]) (cs' := [.int .i64 1, .int .i64 (n * 4), .bool false]) (by kernel_rfl) (by kernel_rfl) rfl rfl rfl rfl rfl (by kernel_rfl) (Nat.le_of_ble_eq_true rfl) rfl (by kernel_rfl) ?_
        intro _ H28
        dsimp only [setL, delL] at H28
        refine RW.nil ?_
        refine ⟨⟨by kernel_rfl, ⟨trivial, trivial, dyn_row (H13.get 2 rfl) (H28.get 3 rfl) ⟨fun _ => H11.get 1 rfl, fun h => Bool.noConfusion h, fun h => Bool.noConfusion h, fun _ => H13.get 2 rfl, fun h => Bool.noConfusion h, fun h => Bool.noConfusion h, fun _ => H13.get 2 rfl, fun _ => H27.get 3 rfl, trivial⟩, trivial, trivial, dyn_row (H13.get 2 rfl) (H28.get 3 rfl) ⟨fun _ => H11.get 1 rfl, fun h => Bool.noConfusion h, fun h => Bool.noConfusion h, fun _ => H13.get 2 rfl, fun h => Bool.noConfusion h, fun h => Bool.noConfusion h, fun _ => H13.get 2 rfl, fun _ => H27.get 3 rfl, trivial⟩, trivial, trivial, trivial⟩⟩, ?_⟩
        replace H := H28
        clear H11 H13 H27 H28
        replace H := (((H.del 3).del 1).del 0)
        dsimp only [setL, delL] at H
        refine W.rg [(2, .pointer (some ⟨b10, 0, none⟩))] fun TA => ?_
        refine W.ret ?_
        refine endG (by rfl) (by exact resL_cell rfl (H.get 0 rfl) (by rw [uT_eq]; exact Tryz.underlying70) (by kernel_rfl) rfl rfl rfl) ?_
        exact ⟨1, n * 4, false, rfl, .inr (.inl ⟨rfl, by omega, by omega, rfl⟩), (H.del 0)⟩
  · have H := Lies.start hG ha
    generalize σ0.get = F at H ⊢
    refine WC.enter (fn := Tryz.f34) Tryz.func34 rfl ?_
    refine W.rg [(0, .agg #[.int .i64 2, .int .i64 0, .bool false])] fun TA => ?_
    refine W.seq (W.region ?_)
    refine RW.mk H (.row ⟨[.int .i64 2, .int .i64 0, .bool false], 70, false⟩) ?_
    clear H; intro _ b29 _ H
    refine RW.mk H (.row ⟨[.int .i64 0, .int .i64 0, .bool false], 70, false⟩) ?_
    clear H; intro _ b30 _ H
    refine RW.nil ?_
    refine W.rg [(1, .pointer (some ⟨b29, 0, none⟩)), (2, .pointer (some ⟨b30, 0, none⟩))] fun TA => ?_
    refine W.seq (W.region ?_)
    refine RW.ld H 1 3 ?_
    refine RW.call (by kernel_rfl) (by kernel_rfl) rfl rfl rfl (by kernel_rfl) (by kernel_rfl) ((valid_wc (G := G) (k := 2) (n := 0) (c := false) (.inr (.inr (.inl ⟨rfl, rfl, rfl⟩))) H).mono ?_)
    clear H
    rintro _ _ ⟨rfl, H⟩
    refine RW.st H 1 [.int .i64 2, .int .i64 0, .bool false] [.int .i64 2, .int .i64 0, .bool false] ?_
    clear H; intro _ _ H; dsimp only [setL, delL] at H
    refine RW.nil ?_
    refine W.rg [(1, .pointer (some ⟨b29, 0, none⟩)), (2, .pointer (some ⟨b30, 0, none⟩))] fun TA => ?_
    refine W.seq ?_
    refine W.seq (W.region ?_)
    refine RW.v ?_
    refine RW.ld H 1 1 ?_
    refine RW.nil ?_
    refine W.rg [(1, .pointer (some ⟨b29, 0, none⟩)), (2, .pointer (some ⟨b30, 0, none⟩)), (6, .bool false)] fun TA => ?_
    refine W.c0 ?_
    refine W.skip ?_
    refine W.seq ?_
    refine W.drawn (by kernel_rfl) (by kernel_rfl) H.gn ?_
    have H31 := H
    refine RW.call (by kernel_rfl) (by kernel_rfl) rfl rfl rfl (by kernel_rfl) (by kernel_rfl) ((univ_wc (G := G)  H31).mono ?_)
    rintro _ _ ⟨b32, rfl, H33⟩
    refine RW.v ?_
    refine RW.ld H33 2 1 ?_
    refine RW.lkL H33 0 (.func (.func 117) #[] #[]) ?_
    refine RW.v ?_
    refine RW.ld H33 2 1 ?_
    refine RW.cl ?_
    refine WC.enter (fn := Tryz.f117) Tryz.func117 rfl ?_
    replace H := H33
    refine W.rg [(0, .int .i64 0)] fun TA => ?_
    refine W.seq (W.region ?_)
    refine RW.mk H (.row ⟨[.int .i64 0, .int .i64 0, .bool false], 70, false⟩) ?_
    clear H; intro _ b34 _ H
    refine RW.nil ?_
    refine W.rg [(2, .pointer (some ⟨b34, 0, none⟩))] fun TA => ?_
    refine W.seq (W.region ?_)
    refine RW.val (v := .agg #[.int .i64 1, .int .i64 (-4), .bool false]) (by kernel_rfl) (by kernel_rfl) (by kernel_rfl) (by kernel_rfl) ?_
    refine RW.st H 0 [.int .i64 1, .int .i64 (-4), .bool false] [.int .i64 1, .int .i64 (-4), .bool false] ?_
    clear H; intro _ _ H; dsimp only [setL, delL] at H
    refine RW.nil ?_
    refine W.rg [(2, .pointer (some ⟨b34, 0, none⟩))] fun TA => ?_
    refine W.ret ?_
    refine endG (by rfl) (by exact resL_cell rfl (H.get 0 rfl) (by rw [uT_eq]; exact Tryz.underlying70) (by kernel_rfl) rfl rfl rfl) ?_
    have H35 := H
    refine RW.stD H35 2 (vs := [.int .i64 1, .int .i64 (-4), .bool false]) (cs' := [.int .i64 1, .int .i64 (-4), .bool false]) (by kernel_rfl) (by kernel_rfl) rfl rfl rfl rfl rfl (by kernel_rfl) (Nat.le_of_ble_eq_true rfl) rfl (by kernel_rfl) ?_
    intro _ H36
    dsimp only [setL, delL] at H36
    refine RW.nil ?_
    refine ⟨⟨by kernel_rfl, ⟨trivial, trivial, dyn_row (H33.get 2 rfl) (H36.get 3 rfl) ⟨fun _ => H31.get 1 rfl, fun h => Bool.noConfusion h, fun h => Bool.noConfusion h, fun _ => H33.get 2 rfl, fun h => Bool.noConfusion h, fun h => Bool.noConfusion h, fun _ => H33.get 2 rfl, fun _ => H35.get 3 rfl, trivial⟩, trivial, trivial, dyn_row (H33.get 2 rfl) (H36.get 3 rfl) ⟨fun _ => H31.get 1 rfl, fun h => Bool.noConfusion h, fun h => Bool.noConfusion h, fun _ => H33.get 2 rfl, fun h => Bool.noConfusion h, fun h => Bool.noConfusion h, fun _ => H33.get 2 rfl, fun _ => H35.get 3 rfl, trivial⟩, trivial, trivial, trivial⟩⟩, ?_⟩
    replace H := H36
    clear H31 H33 H35 H36
    replace H := (((H.del 3).del 1).del 0)
    dsimp only [setL, delL] at H
    refine W.rg [(2, .pointer (some ⟨b30, 0, none⟩))] fun TA => ?_
    refine W.ret ?_
    refine endG (by rfl) (by exact resL_cell rfl (H.get 0 rfl) (by rw [uT_eq]; exact Tryz.underlying70) (by kernel_rfl) rfl rfl rfl) ?_
    exact ⟨1, (-4), false, rfl, .inr (.inl ⟨rfl, by omega, by omega, rfl⟩), (H.del 0)⟩
  · cases c
    · have H := Lies.start hG ha
      generalize σ0.get = F at H ⊢
      refine WC.enter (fn := Tryz.f34) Tryz.func34 rfl ?_
      refine W.rg [(0, .agg #[.int .i64 3, .int .i64 n, .bool false])] fun TA => ?_
      refine W.seq (W.region ?_)
      refine RW.mk H (.row ⟨[.int .i64 3, .int .i64 n, .bool false], 70, false⟩) ?_
      clear H; intro _ b37 _ H
      refine RW.mk H (.row ⟨[.int .i64 0, .int .i64 0, .bool false], 70, false⟩) ?_
      clear H; intro _ b38 _ H
      refine RW.nil ?_
      refine W.rg [(1, .pointer (some ⟨b37, 0, none⟩)), (2, .pointer (some ⟨b38, 0, none⟩))] fun TA => ?_
      refine W.seq (W.region ?_)
      refine RW.ld H 1 3 ?_
      refine RW.call (by kernel_rfl) (by kernel_rfl) rfl rfl rfl (by kernel_rfl) (by kernel_rfl) ((valid_wc (G := G) (k := 3) (n := n) (c := false) (.inr (.inr (.inr ⟨rfl, by omega, by omega⟩))) H).mono ?_)
      clear H
      rintro _ _ ⟨rfl, H⟩
      refine RW.st H 1 [.int .i64 3, .int .i64 n, .bool false] [.int .i64 3, .int .i64 n, .bool false] ?_
      clear H; intro _ _ H; dsimp only [setL, delL] at H
      refine RW.nil ?_
      refine W.rg [(1, .pointer (some ⟨b37, 0, none⟩)), (2, .pointer (some ⟨b38, 0, none⟩))] fun TA => ?_
      refine W.seq ?_
      refine W.seq (W.region ?_)
      refine RW.v ?_
      refine RW.ld H 1 1 ?_
      refine RW.nil ?_
      refine W.rg [(1, .pointer (some ⟨b37, 0, none⟩)), (2, .pointer (some ⟨b38, 0, none⟩)), (6, .bool false)] fun TA => ?_
      refine W.c0 ?_
      refine W.skip ?_
      refine W.seq ?_
      refine W.drawn (by kernel_rfl) (by kernel_rfl) H.gn ?_
      have H39 := H
      refine RW.call (by kernel_rfl) (by kernel_rfl) rfl rfl rfl (by kernel_rfl) (by kernel_rfl) ((univ_wc (G := G)  H39).mono ?_)
      rintro _ _ ⟨b40, rfl, H41⟩
      refine RW.v ?_
      refine RW.ld H41 2 1 ?_
      refine RW.lkL H41 0 (.func (.func 118) #[] #[]) ?_
      refine RW.v ?_
      refine RW.ld H41 2 1 ?_
      refine RW.cl ?_
      refine WC.enter (fn := Tryz.f118) Tryz.func118 rfl ?_
      replace H := H41
      refine W.rg [(0, .int .i64 n)] fun TA => ?_
      refine W.seq (W.region ?_)
      refine RW.mk H (.row ⟨[.int .i64 0, .int .i64 0, .bool false], 70, false⟩) ?_
      clear H; intro _ b42 _ H
      refine RW.nil ?_
      refine W.rg [(0, .int .i64 n), (2, .pointer (some ⟨b42, 0, none⟩))] fun TA => ?_
      refine W.seq (W.region ?_)
      refine RW.v ?_
      refine RW.val (v := .agg #[.int .i64 3, .int .i64 n, .bool true]) (by kernel_rfl) (by kernel_rfl) (by kernel_rfl) (by kernel_rfl) ?_
      refine RW.st H 0 [.int .i64 3, .int .i64 n, .bool true] [.int .i64 3, .int .i64 n, .bool true] ?_
      clear H; intro _ _ H; dsimp only [setL, delL] at H
      refine RW.nil ?_
      refine W.rg [(2, .pointer (some ⟨b42, 0, none⟩))] fun TA => ?_
      refine W.ret ?_
      refine endG (by rfl) (by exact resL_cell rfl (H.get 0 rfl) (by rw [uT_eq]; exact Tryz.underlying70) (by kernel_rfl) rfl rfl rfl) ?_
      have H43 := H
      refine RW.stD H43 2 (vs := [.int .i64 3, .int .i64 n, .bool true]) (cs' := [.int .i64 3, .int .i64 n, .bool true]) (by kernel_rfl) (by kernel_rfl) rfl rfl rfl rfl rfl (by kernel_rfl) (Nat.le_of_ble_eq_true rfl) rfl (by kernel_rfl) ?_
      intro _ H44
      dsimp only [setL, delL] at H44
      refine RW.nil ?_
      refine ⟨⟨by kernel_rfl, ⟨trivial, trivial, dyn_row (H41.get 2 rfl) (H44.get 3 rfl) ⟨fun _ => H39.get 1 rfl, fun h => Bool.noConfusion h, fun h => Bool.noConfusion h, fun _ => H41.get 2 rfl, fun h => Bool.noConfusion h, fun h => Bool.noConfusion h, fun _ => H41.get 2 rfl, fun _ => H43.get 3 rfl, trivial⟩, trivial, trivial, dyn_row (H41.get 2 rfl) (H44.get 3 rfl) ⟨fun _ => H39.get 1 rfl, fun h => Bool.noConfusion h, fun h => Bool.noConfusion h, fun _ => H41.get 2 rfl, fun h => Bool.noConfusion h, fun h => Bool.noConfusion h, fun _ => H41.get 2 rfl, fun _ => H43.get 3 rfl, trivial⟩, trivial, trivial, trivial⟩⟩, ?_⟩
      replace H := H44
      clear H39 H41 H43 H44
      replace H := (((H.del 3).del 1).del 0)
      dsimp only [setL, delL] at H
      refine W.rg [(2, .pointer (some ⟨b38, 0, none⟩))] fun TA => ?_
      refine W.ret ?_
      refine endG (by rfl) (by exact resL_cell rfl (H.get 0 rfl) (by rw [uT_eq]; exact Tryz.underlying70) (by kernel_rfl) rfl rfl rfl) ?_
      exact ⟨3, n, true, rfl, .inr (.inr (.inr ⟨rfl, by omega, by omega⟩)), (H.del 0)⟩
    · have H := Lies.start hG ha
      generalize σ0.get = F at H ⊢
      refine WC.enter (fn := Tryz.f34) Tryz.func34 rfl ?_
      refine W.rg [(0, .agg #[.int .i64 3, .int .i64 n, .bool true])] fun TA => ?_
      refine W.seq (W.region ?_)
      refine RW.mk H (.row ⟨[.int .i64 3, .int .i64 n, .bool true], 70, false⟩) ?_
      clear H; intro _ b45 _ H
      refine RW.mk H (.row ⟨[.int .i64 0, .int .i64 0, .bool false], 70, false⟩) ?_
      clear H; intro _ b46 _ H
      refine RW.nil ?_
      refine W.rg [(1, .pointer (some ⟨b45, 0, none⟩)), (2, .pointer (some ⟨b46, 0, none⟩))] fun TA => ?_
      refine W.seq (W.region ?_)
      refine RW.ld H 1 3 ?_
      refine RW.call (by kernel_rfl) (by kernel_rfl) rfl rfl rfl (by kernel_rfl) (by kernel_rfl) ((valid_wc (G := G) (k := 3) (n := n) (c := true) (.inr (.inr (.inr ⟨rfl, by omega, by omega⟩))) H).mono ?_)
      clear H
      rintro _ _ ⟨rfl, H⟩
      refine RW.st H 1 [.int .i64 3, .int .i64 n, .bool true] [.int .i64 3, .int .i64 n, .bool true] ?_
      clear H; intro _ _ H; dsimp only [setL, delL] at H
      refine RW.nil ?_
      refine W.rg [(1, .pointer (some ⟨b45, 0, none⟩)), (2, .pointer (some ⟨b46, 0, none⟩))] fun TA => ?_
      refine W.seq ?_
      refine W.seq (W.region ?_)
      refine RW.v ?_
      refine RW.ld H 1 1 ?_
      refine RW.nil ?_
      refine W.rg [(1, .pointer (some ⟨b45, 0, none⟩)), (2, .pointer (some ⟨b46, 0, none⟩)), (6, .bool true)] fun TA => ?_
      refine W.c1 ?_
      refine W.seq (W.region ?_)
      refine RW.ld H 1 3 ?_
      refine RW.st H 0 [.int .i64 3, .int .i64 n, .bool true] [.int .i64 3, .int .i64 n, .bool true] ?_
      clear H; intro _ _ H; dsimp only [setL, delL] at H
      refine RW.nil ?_
      replace H := (H.del 1)
      dsimp only [setL, delL] at H
      refine W.rg [(2, .pointer (some ⟨b46, 0, none⟩))] fun TA => ?_
      refine W.ret ?_
      refine seqQ_ret ?_
      refine endG (by rfl) (by exact resL_cell rfl (H.get 0 rfl) (by rw [uT_eq]; exact Tryz.underlying70) (by kernel_rfl) rfl rfl rfl) ?_
      exact ⟨3, n, true, rfl, .inr (.inr (.inr ⟨rfl, by omega, by omega⟩)), (H.del 0)⟩
set_option maxHeartbeats 4000000 in
theorem digit_wc (hG : G ≤ σ0.next) (ha : σ0.abs = A) (hp : Pfx k n c) {d : Int} (d0 : 0 ≤ d) (d9 : d ≤ 9) : WC G Tryz.prog 35 #[preV k n c, .int .i64 d] σ0 fun v σ' => ∃ k' n' c' b, v = .tuple #[preV k' n' c', .bool b] ∧ Pfx k' n' c' ∧ Lies G A σ0.get σ' [] := by
  rcases hp with ⟨rfl, rfl, rfl⟩ | ⟨rfl, h1, h2, rfl⟩ | ⟨rfl, rfl, rfl⟩ | ⟨rfl, h1, h2⟩
  · have H := Lies.start hG ha
    generalize σ0.get = F at H ⊢
    refine WC.enter (fn := Tryz.f35) Tryz.func35 rfl ?_
    refine W.rg [(0, .agg #[.int .i64 0, .int .i64 0, .bool false]), (1, .int .i64 d)] fun TA => ?_
    refine W.seq (W.region ?_)
    refine RW.mk H (.row ⟨[.int .i64 0, .int .i64 0, .bool false], 70, false⟩) ?_
    clear H; intro _ b1 _ H
    refine RW.mk H (.row ⟨[.int .i64 0, .int .i64 0, .bool false], 70, false⟩) ?_
    clear H; intro _ b2 _ H
    refine RW.v ?_
    refine RW.nil ?_
    refine W.rg [(1, .int .i64 d), (2, .pointer (some ⟨b1, 0, none⟩)), (4, .pointer (some ⟨b2, 0, none⟩))] fun TA => ?_
    refine W.seq (W.region ?_)
    refine RW.ld H 1 3 ?_
    refine RW.call (by kernel_rfl) (by kernel_rfl) rfl rfl rfl (by kernel_rfl) (by kernel_rfl) ((valid_wc (G := G) (k := 0) (n := 0) (c := false) (.inl ⟨rfl, rfl, rfl⟩) H).mono ?_)
    clear H
    rintro _ _ ⟨rfl, H⟩
    refine RW.mk H (.row ⟨[.int .i64 0, .int .i64 0, .bool false], 70, false⟩) ?_
    clear H; intro _ b3 _ H
    refine RW.st H 0 [.int .i64 0, .int .i64 0, .bool false] [.int .i64 0, .int .i64 0, .bool false] ?_
    clear H; intro _ _ H; dsimp only [setL, delL] at H
    refine RW.nil ?_
    refine W.rg [(1, .int .i64 d), (2, .pointer (some ⟨b1, 0, none⟩)), (4, .pointer (some ⟨b2, 0, none⟩)), (6, .pointer (some ⟨b3, 0, none⟩))] fun TA => ?_
    refine W.seq ?_
    refine W.seq (W.region ?_)
    refine RW.v ?_
    refine RW.ld H 0 1 ?_
    refine RW.v ?_
    refine RW.val (by rfl) (by kernel_rfl) rfl (by kernel_rfl) ?_
    refine RW.val (by rfl) (by kernel_rfl) rfl (by kernel_rfl) ?_
    iterate 2 refine RW.v ?_
    refine RW.both _ _ rfl rfl rfl (fun hc4 => ?_) (fun hc4 => ?_)
    · have hc4b := hc4
      have hc4 := of_decide_eq_true hc4
      refine RW.skip (by rfl) (by kernel_rfl) ?_
      refine RW.skip (by rfl) (by kernel_rfl) ?_
      refine RW.v ?_
      refine RW.nil ?_
      refine W.rg [(1, .int .i64 d), (2, .pointer (some ⟨b1, 0, none⟩)), (4, .pointer (some ⟨b2, 0, none⟩)), (6, .pointer (some ⟨b3, 0, none⟩)), (18, .bool true)] fun TA => ?_
      refine W.c1 ?_
      refine W.seq (W.region ?_)
      refine RW.ld H 2 3 ?_
      refine RW.st H 1 [.int .i64 0, .int .i64 0, .bool false] [.int .i64 0, .int .i64 0, .bool false] ?_
      clear H; intro _ _ H; dsimp only [setL, delL] at H
      refine RW.v ?_
      refine RW.nil ?_
      replace H := ((H.del 2).del 0)
      dsimp only [setL, delL] at H
      refine W.rg [(4, .pointer (some ⟨b2, 0, none⟩)), (5, .bool false)] fun TA => ?_
      refine W.ret ?_
      refine seqQ_ret ?_
      refine endG (by rfl) (by exact resL_cell rfl (H.get 0 rfl) (by rw [uT_eq]; exact Tryz.underlying70) (by kernel_rfl) rfl rfl (by exact resL_tmp rfl)) ?_
      exact ⟨0, 0, false, false, rfl, .inl ⟨rfl, rfl, rfl⟩, (H.del 0)⟩
    · have hc4b := hc4
      have hc4 := of_decide_eq_false hc4
      refine RW.val (by rfl) (by kernel_rfl) rfl (by kernel_rfl) ?_
      refine RW.val (by rfl) (by kernel_rfl) rfl (by kernel_rfl) ?_
      refine RW.v ?_
      refine RW.nil ?_
      refine W.rg [(1, .int .i64 d), (2, .pointer (some ⟨b1, 0, none⟩)), (4, .pointer (some ⟨b2, 0, none⟩)), (6, .pointer (some ⟨b3, 0, none⟩)), (18, .bool (decide (d > 9)))] fun TA => ?_
      refine W.cond rfl (fun hc5 => ?_) (fun hc5 => ?_)
      · have hc5b := hc5
        have hc5 := of_decide_eq_true hc5
        refine W.seq (W.region ?_)
        refine RW.ld H 2 3 ?_
        refine RW.st H 1 [.int .i64 0, .int .i64 0, .bool false] [.int .i64 0, .int .i64 0, .bool false] ?_
        clear H; intro _ _ H; dsimp only [setL, delL] at H
        refine RW.v ?_
        refine RW.nil ?_
        replace H := ((H.del 2).del 0)
        dsimp only [setL, delL] at H
        refine W.rg [(4, .pointer (some ⟨b2, 0, none⟩)), (5, .bool false)] fun TA => ?_
        refine W.ret ?_
        refine seqQ_ret ?_
        refine endG (by rfl) (by exact resL_cell rfl (H.get 0 rfl) (by rw [uT_eq]; exact Tryz.underlying70) (by kernel_rfl) rfl rfl (by exact resL_tmp rfl)) ?_
        exact ⟨0, 0, false, false, rfl, .inl ⟨rfl, rfl, rfl⟩, (H.del 0)⟩
      · have hc5b := hc5
        have hc5 := of_decide_eq_false hc5
        refine W.skip ?_
        refine W.seq ?_
        refine W.drawn (by kernel_rfl) (by kernel_rfl) H.gn ?_
        have H6 := H
        refine RW.v ?_
        refine RW.call (by kernel_rfl) (by kernel_rfl) rfl rfl rfl (by kernel_rfl) (by kernel_rfl) ((digs_wc (G := G)  H6).mono ?_)
        rintro _ _ ⟨b7, b8, b9, rfl, H10⟩
        refine RW.v ?_
        refine RW.ld H10 3 1 ?_
        refine RW.lkL H10 0 (.func (.func 120) #[] #[.pointer (some ⟨b8, 0, none⟩), .pointer (some ⟨b9, 0, none⟩)]) ?_
        refine RW.v ?_
        refine RW.ld H10 3 1 ?_
        refine RW.cl ?_
        refine WC.enter (fn := Tryz.f120) Tryz.func120 rfl ?_
        replace H := H10
        refine W.rg [(0, .int .i64 0), (1, .pointer (some ⟨b8, 0, none⟩)), (2, .pointer (some ⟨b9, 0, none⟩))] fun TA => ?_
        refine W.seq (W.region ?_)
        refine RW.mk H (.row ⟨[.int .i64 0, .int .i64 0, .bool false], 70, false⟩) ?_
        clear H; intro _ b11 _ H
        refine RW.nil ?_
        refine W.rg [(1, .pointer (some ⟨b8, 0, none⟩)), (2, .pointer (some ⟨b9, 0, none⟩)), (4, .pointer (some ⟨b11, 0, none⟩))] fun TA => ?_
        refine W.seq (W.region ?_)
        refine RW.ld H 2 1 ?_
        refine RW.ld H 3 1 ?_
        refine RW.cl ?_
        refine WC.enter (fn := Tryz.f119) Tryz.func119 rfl ?_
        refine W.rg [(0, .int .i64 d)] fun TA => ?_
        refine W.seq (W.region ?_)
        refine RW.mk H (.row ⟨[.int .i64 0, .int .i64 0, .bool false], 70, false⟩) ?_
        clear H; intro _ b12 _ H
        refine RW.nil ?_
        refine W.rg [(0, .int .i64 d), (2, .pointer (some ⟨b12, 0, none⟩))] fun TA => ?_
        refine W.seq (W.region ?_)
        refine RW.v ?_
        refine RW.cl ?_
        refine WC.enter (fn := Tryz.f83) Tryz.func83 rfl ?_
        refine W.rg [(0, .int .i64 d)] fun TA => ?_
        refine W.seq (W.region ?_)
        refine RW.v ?_
        refine RW.nil ?_
        refine W.rg [(0, .int .i64 d)] fun TA => ?_
        refine W.seq (W.region ?_)
        refine RW.v ?_
        refine RW.vop (v := .int .i64 (min d 2305843009213693951)) (by kernel_rfl) (by kernel_rfl) (vop_min rfl rfl rfl rfl rfl) (by kernel_rfl) ?_
        refine RW.vop (v := .int .i64 (max (-2305843009213693952) (min d 2305843009213693951))) (by kernel_rfl) (by kernel_rfl) (vop_max rfl rfl rfl rfl rfl) (by kernel_rfl) ?_
        refine RW.v ?_
        refine RW.nil ?_
        refine W.rg [(2, .int .i64 (max (-2305843009213693952) (min d 2305843009213693951)))] fun TA => ?_
        refine W.ret ?_
        refine endG (by rfl) (by exact resL_tmp rfl) ?_
        refine RW.val (v := .agg #[.int .i64 3, .int .i64 (max (-2305843009213693952) (min d 2305843009213693951)), .bool false]) (by kernel_rfl) (by kernel_rfl) (by kernel_rfl) (by kernel_rfl) ?_
        refine RW.st H 0 [.int .i64 3, .int .i64 (max (-2305843009213693952) (min d 2305843009213693951)), .bool false] [.int .i64 3, .int .i64 (max (-2305843009213693952) (min d 2305843009213693951)), .bool false] ?_
        clear H; intro _ _ H; dsimp only [setL, delL] at H
        refine RW.nil ?_
        refine W.rg [(2, .pointer (some ⟨b12, 0, none⟩))] fun TA => ?_
        refine W.ret ?_
        refine endG (by rfl) (by exact resL_cell rfl (H.get 0 rfl) (by rw [uT_eq]; exact Tryz.underlying70) (by kernel_rfl) rfl rfl rfl) ?_
        refine RW.st H 1 [.int .i64 3, .int .i64 (max (-2305843009213693952) (min d 2305843009213693951)), .bool false] [.int .i64 3, .int .i64 (max (-2305843009213693952) (min d 2305843009213693951)), .bool false] ?_
        clear H; intro _ _ H; dsimp only [setL, delL] at H
        refine RW.nil ?_
        replace H := (H.del 0)
        dsimp only [setL, delL] at H
        refine W.rg [(4, .pointer (some ⟨b11, 0, none⟩))] fun TA => ?_
        refine W.ret ?_
        refine endG (by rfl) (by exact resL_cell rfl (H.get 0 rfl) (by rw [uT_eq]; exact Tryz.underlying70) (by kernel_rfl) rfl rfl rfl) ?_
        have H13 := H
        refine RW.stD H13 5 (vs := [.int .i64 3, .int .i64 (max (-2305843009213693952) (min d 2305843009213693951)), .bool false]) (cs' := [.int .i64 3, .int .i64 (max (-2305843009213693952) (min d 2305843009213693951)), .bool false]) (by kernel_rfl) (by kernel_rfl) rfl rfl rfl rfl rfl (by kernel_rfl) (Nat.le_of_ble_eq_true rfl) rfl (by kernel_rfl) ?_
        intro _ H14
        dsimp only [setL, delL] at H14
        refine RW.v ?_
        refine RW.nil ?_
        refine ⟨⟨by kernel_rfl, ⟨trivial, trivial, trivial, dyn_row (H10.get 3 rfl) (H14.get 4 rfl) ⟨fun h => Bool.noConfusion h, fun _ => H6.get 0 rfl, fun h => Bool.noConfusion h, fun h => Bool.noConfusion h, fun _ => H10.get 3 rfl, fun h => Bool.noConfusion h, fun h => Bool.noConfusion h, fun _ => H10.get 3 rfl, fun _ => H13.get 4 rfl, fun h => Bool.noConfusion h, trivial⟩, trivial, trivial, dyn_row (H10.get 3 rfl) (H14.get 4 rfl) ⟨fun h => Bool.noConfusion h, fun _ => H6.get 0 rfl, fun h => Bool.noConfusion h, fun h => Bool.noConfusion h, fun _ => H10.get 3 rfl, fun h => Bool.noConfusion h, fun h => Bool.noConfusion h, fun _ => H10.get 3 rfl, fun _ => H13.get 4 rfl, fun h => Bool.noConfusion h, trivial⟩, trivial, trivial, trivial, trivial⟩⟩, ?_⟩
        replace H := H14
        clear H6 H10 H13 H14
        replace H := ((((((H.del 6).del 4).del 3).del 2).del 1).del 0)
        dsimp only [setL, delL] at H
        refine W.rg [(4, .pointer (some ⟨b2, 0, none⟩)), (5, .bool true)] fun TA => ?_
        refine W.ret ?_
        refine endG (by rfl) (by exact resL_cell rfl (H.get 0 rfl) (by rw [uT_eq]; exact Tryz.underlying70) (by kernel_rfl) rfl rfl (by exact resL_tmp rfl)) ?_
        exact ⟨3, max (-2305843009213693952) (min d 2305843009213693951), false, true, rfl, .inr (.inr (.inr ⟨rfl, by omega, by omega⟩)), (H.del 0)⟩
  · have H := Lies.start hG ha
    generalize σ0.get = F at H ⊢
    refine WC.enter (fn := Tryz.f35) Tryz.func35 rfl ?_
    refine W.rg [(0, .agg #[.int .i64 1, .int .i64 n, .bool false]), (1, .int .i64 d)] fun TA => ?_
    refine W.seq (W.region ?_)
    refine RW.mk H (.row ⟨[.int .i64 1, .int .i64 n, .bool false], 70, false⟩) ?_
    clear H; intro _ b15 _ H
    refine RW.mk H (.row ⟨[.int .i64 0, .int .i64 0, .bool false], 70, false⟩) ?_
    clear H; intro _ b16 _ H
    refine RW.v ?_
    refine RW.nil ?_
    refine W.rg [(1, .int .i64 d), (2, .pointer (some ⟨b15, 0, none⟩)), (4, .pointer (some ⟨b16, 0, none⟩))] fun TA => ?_
    refine W.seq (W.region ?_)
    refine RW.ld H 1 3 ?_
    refine RW.call (by kernel_rfl) (by kernel_rfl) rfl rfl rfl (by kernel_rfl) (by kernel_rfl) ((valid_wc (G := G) (k := 1) (n := n) (c := false) (.inr (.inl ⟨rfl, by omega, by omega, rfl⟩)) H).mono ?_)
    clear H
    rintro _ _ ⟨rfl, H⟩
    refine RW.mk H (.row ⟨[.int .i64 0, .int .i64 0, .bool false], 70, false⟩) ?_
    clear H; intro _ b17 _ H
    refine RW.st H 0 [.int .i64 1, .int .i64 n, .bool false] [.int .i64 1, .int .i64 n, .bool false] ?_
    clear H; intro _ _ H; dsimp only [setL, delL] at H
    refine RW.nil ?_
    refine W.rg [(1, .int .i64 d), (2, .pointer (some ⟨b15, 0, none⟩)), (4, .pointer (some ⟨b16, 0, none⟩)), (6, .pointer (some ⟨b17, 0, none⟩))] fun TA => ?_
    refine W.seq ?_
    refine W.seq (W.region ?_)
    refine RW.v ?_
    refine RW.ld H 0 1 ?_
    refine RW.v ?_
    refine RW.val (by rfl) (by kernel_rfl) rfl (by kernel_rfl) ?_
    refine RW.val (by rfl) (by kernel_rfl) rfl (by kernel_rfl) ?_
    iterate 2 refine RW.v ?_
    refine RW.both _ _ rfl rfl rfl (fun hc18 => ?_) (fun hc18 => ?_)
    · have hc18b := hc18
      have hc18 := of_decide_eq_true hc18
      refine RW.skip (by rfl) (by kernel_rfl) ?_
      refine RW.skip (by rfl) (by kernel_rfl) ?_
      refine RW.v ?_
      refine RW.nil ?_
      refine W.rg [(1, .int .i64 d), (2, .pointer (some ⟨b15, 0, none⟩)), (4, .pointer (some ⟨b16, 0, none⟩)), (6, .pointer (some ⟨b17, 0, none⟩)), (18, .bool true)] fun TA => ?_
      refine W.c1 ?_
      refine W.seq (W.region ?_)
      refine RW.ld H 2 3 ?_
      refine RW.st H 1 [.int .i64 1, .int .i64 n, .bool false] [.int .i64 1, .int .i64 n, .bool false] ?_
      clear H; intro _ _ H; dsimp only [setL, delL] at H
      refine RW.v ?_
      refine RW.nil ?_
      replace H := ((H.del 2).del 0)
      dsimp only [setL, delL] at H
      refine W.rg [(4, .pointer (some ⟨b16, 0, none⟩)), (5, .bool false)] fun TA => ?_
      refine W.ret ?_
      refine seqQ_ret ?_
      refine endG (by rfl) (by exact resL_cell rfl (H.get 0 rfl) (by rw [uT_eq]; exact Tryz.underlying70) (by kernel_rfl) rfl rfl (by exact resL_tmp rfl)) ?_
      exact ⟨1, n, false, false, rfl, .inr (.inl ⟨rfl, by omega, by omega, rfl⟩), (H.del 0)⟩
    · have hc18b := hc18
      have hc18 := of_decide_eq_false hc18
      refine RW.val (by rfl) (by kernel_rfl) rfl (by kernel_rfl) ?_
      refine RW.val (by rfl) (by kernel_rfl) rfl (by kernel_rfl) ?_
      refine RW.v ?_
      refine RW.nil ?_
      refine W.rg [(1, .int .i64 d), (2, .pointer (some ⟨b15, 0, none⟩)), (4, .pointer (some ⟨b16, 0, none⟩)), (6, .pointer (some ⟨b17, 0, none⟩)), (18, .bool (decide (d > 9)))] fun TA => ?_
      refine W.cond rfl (fun hc19 => ?_) (fun hc19 => ?_)
      · have hc19b := hc19
        have hc19 := of_decide_eq_true hc19
        refine W.seq (W.region ?_)
        refine RW.ld H 2 3 ?_
        refine RW.st H 1 [.int .i64 1, .int .i64 n, .bool false] [.int .i64 1, .int .i64 n, .bool false] ?_
        clear H; intro _ _ H; dsimp only [setL, delL] at H
        refine RW.v ?_
        refine RW.nil ?_
        replace H := ((H.del 2).del 0)
        dsimp only [setL, delL] at H
        refine W.rg [(4, .pointer (some ⟨b16, 0, none⟩)), (5, .bool false)] fun TA => ?_
        refine W.ret ?_
        refine seqQ_ret ?_
        refine endG (by rfl) (by exact resL_cell rfl (H.get 0 rfl) (by rw [uT_eq]; exact Tryz.underlying70) (by kernel_rfl) rfl rfl (by exact resL_tmp rfl)) ?_
        exact ⟨1, n, false, false, rfl, .inr (.inl ⟨rfl, by omega, by omega, rfl⟩), (H.del 0)⟩
      · have hc19b := hc19
        have hc19 := of_decide_eq_false hc19
        refine W.skip ?_
        refine W.seq ?_
        refine W.drawn (by kernel_rfl) (by kernel_rfl) H.gn ?_
        have H20 := H
        refine RW.v ?_
        refine RW.call (by kernel_rfl) (by kernel_rfl) rfl rfl rfl (by kernel_rfl) (by kernel_rfl) ((digs_wc (G := G)  H20).mono ?_)
        rintro _ _ ⟨b21, b22, b23, rfl, H24⟩
        refine RW.v ?_
        refine RW.ld H24 3 1 ?_
        refine RW.lkL H24 0 (.func (.func 121) #[] #[.pointer (some ⟨b22, 0, none⟩), .pointer (some ⟨b23, 0, none⟩)]) ?_
        refine RW.v ?_
        refine RW.ld H24 3 1 ?_
        refine RW.cl ?_
        refine WC.enter (fn := Tryz.f121) Tryz.func121 rfl ?_
        replace H := H24
        refine W.rg [(0, .int .i64 n), (1, .pointer (some ⟨b22, 0, none⟩)), (2, .pointer (some ⟨b23, 0, none⟩))] fun TA => ?_
        refine W.seq (W.region ?_)
        refine RW.mk H (.row ⟨[.int .i64 0, .int .i64 0, .bool false], 70, false⟩) ?_
        clear H; intro _ b25 _ H
        refine RW.nil ?_
        refine W.rg [(1, .pointer (some ⟨b22, 0, none⟩)), (2, .pointer (some ⟨b23, 0, none⟩)), (4, .pointer (some ⟨b25, 0, none⟩))] fun TA => ?_
        refine W.seq (W.region ?_)
        refine RW.ld H 2 1 ?_
        refine RW.ld H 3 1 ?_
        refine RW.cl ?_
        refine WC.enter (fn := Tryz.f119) Tryz.func119 rfl ?_
        refine W.rg [(0, .int .i64 d)] fun TA => ?_
        refine W.seq (W.region ?_)
        refine RW.mk H (.row ⟨[.int .i64 0, .int .i64 0, .bool false], 70, false⟩) ?_
        clear H; intro _ b26 _ H
        refine RW.nil ?_
        refine W.rg [(0, .int .i64 d), (2, .pointer (some ⟨b26, 0, none⟩))] fun TA => ?_
        refine W.seq (W.region ?_)
        refine RW.v ?_
        refine RW.cl ?_
        refine WC.enter (fn := Tryz.f83) Tryz.func83 rfl ?_
        refine W.rg [(0, .int .i64 d)] fun TA => ?_
        refine W.seq (W.region ?_)
        refine RW.v ?_
        refine RW.nil ?_
        refine W.rg [(0, .int .i64 d)] fun TA => ?_
        refine W.seq (W.region ?_)
        refine RW.v ?_
        refine RW.vop (v := .int .i64 (min d 2305843009213693951)) (by kernel_rfl) (by kernel_rfl) (vop_min rfl rfl rfl rfl rfl) (by kernel_rfl) ?_
        refine RW.vop (v := .int .i64 (max (-2305843009213693952) (min d 2305843009213693951))) (by kernel_rfl) (by kernel_rfl) (vop_max rfl rfl rfl rfl rfl) (by kernel_rfl) ?_
        refine RW.v ?_
        refine RW.nil ?_
        refine W.rg [(2, .int .i64 (max (-2305843009213693952) (min d 2305843009213693951)))] fun TA => ?_
        refine W.ret ?_
        refine endG (by rfl) (by exact resL_tmp rfl) ?_
        refine RW.val (v := .agg #[.int .i64 3, .int .i64 (max (-2305843009213693952) (min d 2305843009213693951)), .bool false]) (by kernel_rfl) (by kernel_rfl) (by kernel_rfl) (by kernel_rfl) ?_
        refine RW.st H 0 [.int .i64 3, .int .i64 (max (-2305843009213693952) (min d 2305843009213693951)), .bool false] [.int .i64 3, .int .i64 (max (-2305843009213693952) (min d 2305843009213693951)), .bool false] ?_
        clear H; intro _ _ H; dsimp only [setL, delL] at H
        refine RW.nil ?_
        refine W.rg [(2, .pointer (some ⟨b26, 0, none⟩))] fun TA => ?_
        refine W.ret ?_
        refine endG (by rfl) (by exact resL_cell rfl (H.get 0 rfl) (by rw [uT_eq]; exact Tryz.underlying70) (by kernel_rfl) rfl rfl rfl) ?_
        refine RW.st H 1 [.int .i64 3, .int .i64 (max (-2305843009213693952) (min d 2305843009213693951)), .bool false] [.int .i64 3, .int .i64 (max (-2305843009213693952) (min d 2305843009213693951)), .bool false] ?_
        clear H; intro _ _ H; dsimp only [setL, delL] at H
        refine RW.nil ?_
        replace H := (H.del 0)
        dsimp only [setL, delL] at H
        refine W.rg [(4, .pointer (some ⟨b25, 0, none⟩))] fun TA => ?_
        refine W.ret ?_
        refine endG (by rfl) (by exact resL_cell rfl (H.get 0 rfl) (by rw [uT_eq]; exact Tryz.underlying70) (by kernel_rfl) rfl rfl rfl) ?_
        have H27 := H
        refine RW.stD H27 5 (vs := [.int .i64 3, .int .i64 (max (-2305843009213693952) (min d 2305843009213693951)), .bool false]) (cs' := [.int .i64 3, .int .i64 (max (-2305843009213693952) (min d 2305843009213693951)), .bool false]) (by kernel_rfl) (by kernel_rfl) rfl rfl rfl rfl rfl (by kernel_rfl) (Nat.le_of_ble_eq_true rfl) rfl (by kernel_rfl) ?_
        intro _ H28
        dsimp only [setL, delL] at H28
        refine RW.v ?_
        refine RW.nil ?_
        refine ⟨⟨by kernel_rfl, ⟨trivial, trivial, trivial, dyn_row (H24.get 3 rfl) (H28.get 4 rfl) ⟨fun h => Bool.noConfusion h, fun _ => H20.get 0 rfl, fun h => Bool.noConfusion h, fun h => Bool.noConfusion h, fun _ => H24.get 3 rfl, fun h => Bool.noConfusion h, fun h => Bool.noConfusion h, fun _ => H24.get 3 rfl, fun _ => H27.get 4 rfl, fun h => Bool.noConfusion h, trivial⟩, trivial, trivial, dyn_row (H24.get 3 rfl) (H28.get 4 rfl) ⟨fun h => Bool.noConfusion h, fun _ => H20.get 0 rfl, fun h => Bool.noConfusion h, fun h => Bool.noConfusion h, fun _ => H24.get 3 rfl, fun h => Bool.noConfusion h, fun h => Bool.noConfusion h, fun _ => H24.get 3 rfl, fun _ => H27.get 4 rfl, fun h => Bool.noConfusion h, trivial⟩, trivial, trivial, trivial, trivial⟩⟩, ?_⟩
        replace H := H28
        clear H20 H24 H27 H28
        replace H := ((((((H.del 6).del 4).del 3).del 2).del 1).del 0)
        dsimp only [setL, delL] at H
        refine W.rg [(4, .pointer (some ⟨b16, 0, none⟩)), (5, .bool true)] fun TA => ?_
        refine W.ret ?_
        refine endG (by rfl) (by exact resL_cell rfl (H.get 0 rfl) (by rw [uT_eq]; exact Tryz.underlying70) (by kernel_rfl) rfl rfl (by exact resL_tmp rfl)) ?_
        exact ⟨3, max (-2305843009213693952) (min d 2305843009213693951), false, true, rfl, .inr (.inr (.inr ⟨rfl, by omega, by omega⟩)), (H.del 0)⟩
  · have H := Lies.start hG ha
    generalize σ0.get = F at H ⊢
    refine WC.enter (fn := Tryz.f35) Tryz.func35 rfl ?_
    refine W.rg [(0, .agg #[.int .i64 2, .int .i64 0, .bool false]), (1, .int .i64 d)] fun TA => ?_
    refine W.seq (W.region ?_)
    refine RW.mk H (.row ⟨[.int .i64 2, .int .i64 0, .bool false], 70, false⟩) ?_
    clear H; intro _ b29 _ H
    refine RW.mk H (.row ⟨[.int .i64 0, .int .i64 0, .bool false], 70, false⟩) ?_
    clear H; intro _ b30 _ H
    refine RW.v ?_
    refine RW.nil ?_
    refine W.rg [(1, .int .i64 d), (2, .pointer (some ⟨b29, 0, none⟩)), (4, .pointer (some ⟨b30, 0, none⟩))] fun TA => ?_
    refine W.seq (W.region ?_)
    refine RW.ld H 1 3 ?_
    refine RW.call (by kernel_rfl) (by kernel_rfl) rfl rfl rfl (by kernel_rfl) (by kernel_rfl) ((valid_wc (G := G) (k := 2) (n := 0) (c := false) (.inr (.inr (.inl ⟨rfl, rfl, rfl⟩))) H).mono ?_)
    clear H
    rintro _ _ ⟨rfl, H⟩
    refine RW.mk H (.row ⟨[.int .i64 0, .int .i64 0, .bool false], 70, false⟩) ?_
    clear H; intro _ b31 _ H
    refine RW.st H 0 [.int .i64 2, .int .i64 0, .bool false] [.int .i64 2, .int .i64 0, .bool false] ?_
    clear H; intro _ _ H; dsimp only [setL, delL] at H
    refine RW.nil ?_
    refine W.rg [(1, .int .i64 d), (2, .pointer (some ⟨b29, 0, none⟩)), (4, .pointer (some ⟨b30, 0, none⟩)), (6, .pointer (some ⟨b31, 0, none⟩))] fun TA => ?_
    refine W.seq ?_
    refine W.seq (W.region ?_)
    refine RW.v ?_
    refine RW.ld H 0 1 ?_
    refine RW.v ?_
    refine RW.val (by rfl) (by kernel_rfl) rfl (by kernel_rfl) ?_
    refine RW.val (by rfl) (by kernel_rfl) rfl (by kernel_rfl) ?_
    iterate 2 refine RW.v ?_
    refine RW.both _ _ rfl rfl rfl (fun hc32 => ?_) (fun hc32 => ?_)
    · have hc32b := hc32
      have hc32 := of_decide_eq_true hc32
      refine RW.skip (by rfl) (by kernel_rfl) ?_
      refine RW.skip (by rfl) (by kernel_rfl) ?_
      refine RW.v ?_
      refine RW.nil ?_
      refine W.rg [(1, .int .i64 d), (2, .pointer (some ⟨b29, 0, none⟩)), (4, .pointer (some ⟨b30, 0, none⟩)), (6, .pointer (some ⟨b31, 0, none⟩)), (18, .bool true)] fun TA => ?_
      refine W.c1 ?_
      refine W.seq (W.region ?_)
      refine RW.ld H 2 3 ?_
      refine RW.st H 1 [.int .i64 2, .int .i64 0, .bool false] [.int .i64 2, .int .i64 0, .bool false] ?_
      clear H; intro _ _ H; dsimp only [setL, delL] at H
      refine RW.v ?_
      refine RW.nil ?_
      replace H := ((H.del 2).del 0)
      dsimp only [setL, delL] at H
      refine W.rg [(4, .pointer (some ⟨b30, 0, none⟩)), (5, .bool false)] fun TA => ?_
      refine W.ret ?_
      refine seqQ_ret ?_
      refine endG (by rfl) (by exact resL_cell rfl (H.get 0 rfl) (by rw [uT_eq]; exact Tryz.underlying70) (by kernel_rfl) rfl rfl (by exact resL_tmp rfl)) ?_
      exact ⟨2, 0, false, false, rfl, .inr (.inr (.inl ⟨rfl, rfl, rfl⟩)), (H.del 0)⟩
    · have hc32b := hc32
      have hc32 := of_decide_eq_false hc32
      refine RW.val (by rfl) (by kernel_rfl) rfl (by kernel_rfl) ?_
      refine RW.val (by rfl) (by kernel_rfl) rfl (by kernel_rfl) ?_
      refine RW.v ?_
      refine RW.nil ?_
      refine W.rg [(1, .int .i64 d), (2, .pointer (some ⟨b29, 0, none⟩)), (4, .pointer (some ⟨b30, 0, none⟩)), (6, .pointer (some ⟨b31, 0, none⟩)), (18, .bool (decide (d > 9)))] fun TA => ?_
      refine W.cond rfl (fun hc33 => ?_) (fun hc33 => ?_)
      · have hc33b := hc33
        have hc33 := of_decide_eq_true hc33
        refine W.seq (W.region ?_)
        refine RW.ld H 2 3 ?_
        refine RW.st H 1 [.int .i64 2, .int .i64 0, .bool false] [.int .i64 2, .int .i64 0, .bool false] ?_
        clear H; intro _ _ H; dsimp only [setL, delL] at H
        refine RW.v ?_
        refine RW.nil ?_
        replace H := ((H.del 2).del 0)
        dsimp only [setL, delL] at H
        refine W.rg [(4, .pointer (some ⟨b30, 0, none⟩)), (5, .bool false)] fun TA => ?_
        refine W.ret ?_
        refine seqQ_ret ?_
        refine endG (by rfl) (by exact resL_cell rfl (H.get 0 rfl) (by rw [uT_eq]; exact Tryz.underlying70) (by kernel_rfl) rfl rfl (by exact resL_tmp rfl)) ?_
        exact ⟨2, 0, false, false, rfl, .inr (.inr (.inl ⟨rfl, rfl, rfl⟩)), (H.del 0)⟩
      · have hc33b := hc33
        have hc33 := of_decide_eq_false hc33
        refine W.skip ?_
        refine W.seq ?_
        refine W.drawn (by kernel_rfl) (by kernel_rfl) H.gn ?_
        have H34 := H
        refine RW.v ?_
        refine RW.call (by kernel_rfl) (by kernel_rfl) rfl rfl rfl (by kernel_rfl) (by kernel_rfl) ((digs_wc (G := G)  H34).mono ?_)
        rintro _ _ ⟨b35, b36, b37, rfl, H38⟩
        refine RW.v ?_
        refine RW.ld H38 3 1 ?_
        refine RW.lkL H38 0 (.func (.func 122) #[] #[.pointer (some ⟨b37, 0, none⟩), .pointer (some ⟨b36, 0, none⟩)]) ?_
        refine RW.v ?_
        refine RW.ld H38 3 1 ?_
        refine RW.cl ?_
        refine WC.enter (fn := Tryz.f122) Tryz.func122 rfl ?_
        replace H := H38
        refine W.rg [(0, .int .i64 0), (1, .pointer (some ⟨b37, 0, none⟩)), (2, .pointer (some ⟨b36, 0, none⟩))] fun TA => ?_
        refine W.seq (W.region ?_)
        refine RW.mk H (.row ⟨[.int .i64 0, .int .i64 0, .bool false], 70, false⟩) ?_
        clear H; intro _ b39 _ H
        refine RW.nil ?_
        refine W.rg [(1, .pointer (some ⟨b37, 0, none⟩)), (2, .pointer (some ⟨b36, 0, none⟩)), (4, .pointer (some ⟨b39, 0, none⟩))] fun TA => ?_
        refine W.seq ?_
        refine W.seq (W.region ?_)
        refine RW.ld H 3 1 ?_
        refine RW.v ?_
        refine RW.nil ?_
        refine W.rg [(1, .pointer (some ⟨b37, 0, none⟩)), (2, .pointer (some ⟨b36, 0, none⟩)), (4, .pointer (some ⟨b39, 0, none⟩)), (6, .bool (d == 0))] fun TA => ?_
        refine W.cond rfl (fun hc40 => ?_) (fun hc40 => ?_)
        · have hc40b := hc40
          have hc40 := eq_of_beq hc40
          refine W.seq (W.region ?_)
          refine RW.val (v := .agg #[.int .i64 2, .int .i64 0, .bool false]) (by kernel_rfl) (by kernel_rfl) (by kernel_rfl) (by kernel_rfl) ?_
          refine RW.st H 0 [.int .i64 2, .int .i64 0, .bool false] [.int .i64 2, .int .i64 0, .bool false] ?_
          clear H; intro _ _ H; dsimp only [setL, delL] at H
          refine RW.nil ?_
          refine W.rg [(4, .pointer (some ⟨b39, 0, none⟩))] fun TA => ?_
          refine W.ret ?_
          refine seqQ_ret ?_
          refine endG (by rfl) (by exact resL_cell rfl (H.get 0 rfl) (by rw [uT_eq]; exact Tryz.underlying70) (by kernel_rfl) rfl rfl rfl) ?_
          have H41 := H
          refine RW.stD H41 5 (vs := [.int .i64 2, .int .i64 0, .bool false]) (cs' := [.int .i64 2, .int .i64 0, .bool false]) (by kernel_rfl) (by kernel_rfl) rfl rfl rfl rfl rfl (by kernel_rfl) (Nat.le_of_ble_eq_true rfl) rfl (by kernel_rfl) ?_
          intro _ H42
          dsimp only [setL, delL] at H42
          refine RW.v ?_
          refine RW.nil ?_
          refine ⟨⟨by kernel_rfl, ⟨trivial, trivial, trivial, dyn_row (H38.get 3 rfl) (H42.get 4 rfl) ⟨fun h => Bool.noConfusion h, fun _ => H34.get 0 rfl, fun h => Bool.noConfusion h, fun h => Bool.noConfusion h, fun _ => H38.get 3 rfl, fun h => Bool.noConfusion h, fun h => Bool.noConfusion h, fun _ => H38.get 3 rfl, fun _ => H41.get 4 rfl, fun h => Bool.noConfusion h, trivial⟩, trivial, trivial, dyn_row (H38.get 3 rfl) (H42.get 4 rfl) ⟨fun h => Bool.noConfusion h, fun _ => H34.get 0 rfl, fun h => Bool.noConfusion h, fun h => Bool.noConfusion h, fun _ => H38.get 3 rfl, fun h => Bool.noConfusion h, fun h => Bool.noConfusion h, fun _ => H38.get 3 rfl, fun _ => H41.get 4 rfl, fun h => Bool.noConfusion h, trivial⟩, trivial, trivial, trivial, trivial⟩⟩, ?_⟩
          replace H := H42
          clear H34 H38 H41 H42
          replace H := ((((((H.del 6).del 4).del 3).del 2).del 1).del 0)
          dsimp only [setL, delL] at H
          refine W.rg [(4, .pointer (some ⟨b30, 0, none⟩)), (5, .bool true)] fun TA => ?_
          refine W.ret ?_
          refine endG (by rfl) (by exact resL_cell rfl (H.get 0 rfl) (by rw [uT_eq]; exact Tryz.underlying70) (by kernel_rfl) rfl rfl (by exact resL_tmp rfl)) ?_
          exact ⟨2, 0, false, true, rfl, .inr (.inr (.inl ⟨rfl, rfl, rfl⟩)), (H.del 0)⟩
        · have hc40b := hc40
          have hc40 := ne_of_beq_false hc40
          refine W.skip ?_
          refine W.seq (W.region ?_)
          refine RW.ld H 2 1 ?_
          refine RW.ld H 3 1 ?_
          refine RW.valE (v' := .int .i64 (0 - d)) (by kernel_rfl) (by kernel_rfl) rfl (congrArg (Value.int .i64) (wrap_in (by omega) (by omega))) (by kernel_rfl) ?_
          refine RW.cl ?_
          refine WC.enter (fn := Tryz.f119) Tryz.func119 rfl ?_
          refine W.rg [(0, .int .i64 (0 - d))] fun TA => ?_
          refine W.seq (W.region ?_)
          refine RW.mk H (.row ⟨[.int .i64 0, .int .i64 0, .bool false], 70, false⟩) ?_
          clear H; intro _ b43 _ H
          refine RW.nil ?_
          refine W.rg [(0, .int .i64 (0 - d)), (2, .pointer (some ⟨b43, 0, none⟩))] fun TA => ?_
          refine W.seq (W.region ?_)
          refine RW.v ?_
          refine RW.cl ?_
          refine WC.enter (fn := Tryz.f83) Tryz.func83 rfl ?_
          refine W.rg [(0, .int .i64 (0 - d))] fun TA => ?_
          refine W.seq (W.region ?_)
          refine RW.v ?_
          refine RW.nil ?_
          refine W.rg [(0, .int .i64 (0 - d))] fun TA => ?_
          refine W.seq (W.region ?_)
          refine RW.v ?_
          refine RW.vop (v := .int .i64 (min (0 - d) 2305843009213693951)) (by kernel_rfl) (by kernel_rfl) (vop_min rfl rfl rfl rfl rfl) (by kernel_rfl) ?_
          refine RW.vop (v := .int .i64 (max (-2305843009213693952) (min (0 - d) 2305843009213693951))) (by kernel_rfl) (by kernel_rfl) (vop_max rfl rfl rfl rfl rfl) (by kernel_rfl) ?_
          refine RW.v ?_
          refine RW.nil ?_
          refine W.rg [(2, .int .i64 (max (-2305843009213693952) (min (0 - d) 2305843009213693951)))] fun TA => ?_
          refine W.ret ?_
          refine endG (by rfl) (by exact resL_tmp rfl) ?_
          refine RW.val (v := .agg #[.int .i64 3, .int .i64 (max (-2305843009213693952) (min (0 - d) 2305843009213693951)), .bool false]) (by kernel_rfl) (by kernel_rfl) (by kernel_rfl) (by kernel_rfl) ?_
          refine RW.st H 0 [.int .i64 3, .int .i64 (max (-2305843009213693952) (min (0 - d) 2305843009213693951)), .bool false] [.int .i64 3, .int .i64 (max (-2305843009213693952) (min (0 - d) 2305843009213693951)), .bool false] ?_
          clear H; intro _ _ H; dsimp only [setL, delL] at H
          refine RW.nil ?_
          refine W.rg [(2, .pointer (some ⟨b43, 0, none⟩))] fun TA => ?_
          refine W.ret ?_
          refine endG (by rfl) (by exact resL_cell rfl (H.get 0 rfl) (by rw [uT_eq]; exact Tryz.underlying70) (by kernel_rfl) rfl rfl rfl) ?_
          refine RW.st H 1 [.int .i64 3, .int .i64 (max (-2305843009213693952) (min (0 - d) 2305843009213693951)), .bool false] [.int .i64 3, .int .i64 (max (-2305843009213693952) (min (0 - d) 2305843009213693951)), .bool false] ?_
          clear H; intro _ _ H; dsimp only [setL, delL] at H
          refine RW.nil ?_
          replace H := (H.del 0)
          dsimp only [setL, delL] at H
          refine W.rg [(4, .pointer (some ⟨b39, 0, none⟩))] fun TA => ?_
          refine W.ret ?_
          refine endG (by rfl) (by exact resL_cell rfl (H.get 0 rfl) (by rw [uT_eq]; exact Tryz.underlying70) (by kernel_rfl) rfl rfl rfl) ?_
          have H44 := H
          refine RW.stD H44 5 (vs := [.int .i64 3, .int .i64 (max (-2305843009213693952) (min (0 - d) 2305843009213693951)), .bool false]) (cs' := [.int .i64 3, .int .i64 (max (-2305843009213693952) (min (0 - d) 2305843009213693951)), .bool false]) (by kernel_rfl) (by kernel_rfl) rfl rfl rfl rfl rfl (by kernel_rfl) (Nat.le_of_ble_eq_true rfl) rfl (by kernel_rfl) ?_
          intro _ H45
          dsimp only [setL, delL] at H45
          refine RW.v ?_
          refine RW.nil ?_
          refine ⟨⟨by kernel_rfl, ⟨trivial, trivial, trivial, dyn_row (H38.get 3 rfl) (H45.get 4 rfl) ⟨fun h => Bool.noConfusion h, fun _ => H34.get 0 rfl, fun h => Bool.noConfusion h, fun h => Bool.noConfusion h, fun _ => H38.get 3 rfl, fun h => Bool.noConfusion h, fun h => Bool.noConfusion h, fun _ => H38.get 3 rfl, fun _ => H44.get 4 rfl, fun h => Bool.noConfusion h, trivial⟩, trivial, trivial, dyn_row (H38.get 3 rfl) (H45.get 4 rfl) ⟨fun h => Bool.noConfusion h, fun _ => H34.get 0 rfl, fun h => Bool.noConfusion h, fun h => Bool.noConfusion h, fun _ => H38.get 3 rfl, fun h => Bool.noConfusion h, fun h => Bool.noConfusion h, fun _ => H38.get 3 rfl, fun _ => H44.get 4 rfl, fun h => Bool.noConfusion h, trivial⟩, trivial, trivial, trivial, trivial⟩⟩, ?_⟩
          replace H := H45
          clear H34 H38 H44 H45
          replace H := ((((((H.del 6).del 4).del 3).del 2).del 1).del 0)
          dsimp only [setL, delL] at H
          refine W.rg [(4, .pointer (some ⟨b30, 0, none⟩)), (5, .bool true)] fun TA => ?_
          refine W.ret ?_
          refine endG (by rfl) (by exact resL_cell rfl (H.get 0 rfl) (by rw [uT_eq]; exact Tryz.underlying70) (by kernel_rfl) rfl rfl (by exact resL_tmp rfl)) ?_
          exact ⟨3, max (-2305843009213693952) (min (0 - d) 2305843009213693951), false, true, rfl, .inr (.inr (.inr ⟨rfl, by omega, by omega⟩)), (H.del 0)⟩
  · cases c
    · have H := Lies.start hG ha
      generalize σ0.get = F at H ⊢
      refine WC.enter (fn := Tryz.f35) Tryz.func35 rfl ?_
      refine W.rg [(0, .agg #[.int .i64 3, .int .i64 n, .bool false]), (1, .int .i64 d)] fun TA => ?_
      refine W.seq (W.region ?_)
      refine RW.mk H (.row ⟨[.int .i64 3, .int .i64 n, .bool false], 70, false⟩) ?_
      clear H; intro _ b46 _ H
      refine RW.mk H (.row ⟨[.int .i64 0, .int .i64 0, .bool false], 70, false⟩) ?_
      clear H; intro _ b47 _ H
      refine RW.v ?_
      refine RW.nil ?_
      refine W.rg [(1, .int .i64 d), (2, .pointer (some ⟨b46, 0, none⟩)), (4, .pointer (some ⟨b47, 0, none⟩))] fun TA => ?_
      refine W.seq (W.region ?_)
      refine RW.ld H 1 3 ?_
      refine RW.call (by kernel_rfl) (by kernel_rfl) rfl rfl rfl (by kernel_rfl) (by kernel_rfl) ((valid_wc (G := G) (k := 3) (n := n) (c := false) (.inr (.inr (.inr ⟨rfl, by omega, by omega⟩))) H).mono ?_)
      clear H
      rintro _ _ ⟨rfl, H⟩
      refine RW.mk H (.row ⟨[.int .i64 0, .int .i64 0, .bool false], 70, false⟩) ?_
      clear H; intro _ b48 _ H
      refine RW.st H 0 [.int .i64 3, .int .i64 n, .bool false] [.int .i64 3, .int .i64 n, .bool false] ?_
      clear H; intro _ _ H; dsimp only [setL, delL] at H
      refine RW.nil ?_
      refine W.rg [(1, .int .i64 d), (2, .pointer (some ⟨b46, 0, none⟩)), (4, .pointer (some ⟨b47, 0, none⟩)), (6, .pointer (some ⟨b48, 0, none⟩))] fun TA => ?_
      refine W.seq ?_
      refine W.seq (W.region ?_)
      refine RW.v ?_
      refine RW.ld H 0 1 ?_
      refine RW.v ?_
      refine RW.val (by rfl) (by kernel_rfl) rfl (by kernel_rfl) ?_
      refine RW.val (by rfl) (by kernel_rfl) rfl (by kernel_rfl) ?_
      iterate 2 refine RW.v ?_
      refine RW.both _ _ rfl rfl rfl (fun hc49 => ?_) (fun hc49 => ?_)
      · have hc49b := hc49
        have hc49 := of_decide_eq_true hc49
        refine RW.skip (by rfl) (by kernel_rfl) ?_
        refine RW.skip (by rfl) (by kernel_rfl) ?_
        refine RW.v ?_
        refine RW.nil ?_
        refine W.rg [(1, .int .i64 d), (2, .pointer (some ⟨b46, 0, none⟩)), (4, .pointer (some ⟨b47, 0, none⟩)), (6, .pointer (some ⟨b48, 0, none⟩)), (18, .bool true)] fun TA => ?_
        refine W.c1 ?_
        refine W.seq (W.region ?_)
        refine RW.ld H 2 3 ?_
        refine RW.st H 1 [.int .i64 3, .int .i64 n, .bool false] [.int .i64 3, .int .i64 n, .bool false] ?_
        clear H; intro _ _ H; dsimp only [setL, delL] at H
        refine RW.v ?_
        refine RW.nil ?_
        replace H := ((H.del 2).del 0)
        dsimp only [setL, delL] at H
        refine W.rg [(4, .pointer (some ⟨b47, 0, none⟩)), (5, .bool false)] fun TA => ?_
        refine W.ret ?_
        refine seqQ_ret ?_
        refine endG (by rfl) (by exact resL_cell rfl (H.get 0 rfl) (by rw [uT_eq]; exact Tryz.underlying70) (by kernel_rfl) rfl rfl (by exact resL_tmp rfl)) ?_
        exact ⟨3, n, false, false, rfl, .inr (.inr (.inr ⟨rfl, by omega, by omega⟩)), (H.del 0)⟩
      · have hc49b := hc49
        have hc49 := of_decide_eq_false hc49
        refine RW.val (by rfl) (by kernel_rfl) rfl (by kernel_rfl) ?_
        refine RW.val (by rfl) (by kernel_rfl) rfl (by kernel_rfl) ?_
        refine RW.v ?_
        refine RW.nil ?_
        refine W.rg [(1, .int .i64 d), (2, .pointer (some ⟨b46, 0, none⟩)), (4, .pointer (some ⟨b47, 0, none⟩)), (6, .pointer (some ⟨b48, 0, none⟩)), (18, .bool (decide (d > 9)))] fun TA => ?_
        refine W.cond rfl (fun hc50 => ?_) (fun hc50 => ?_)
        · have hc50b := hc50
          have hc50 := of_decide_eq_true hc50
          refine W.seq (W.region ?_)
          refine RW.ld H 2 3 ?_
          refine RW.st H 1 [.int .i64 3, .int .i64 n, .bool false] [.int .i64 3, .int .i64 n, .bool false] ?_
          clear H; intro _ _ H; dsimp only [setL, delL] at H
          refine RW.v ?_
          refine RW.nil ?_
          replace H := ((H.del 2).del 0)
          dsimp only [setL, delL] at H
          refine W.rg [(4, .pointer (some ⟨b47, 0, none⟩)), (5, .bool false)] fun TA => ?_
          refine W.ret ?_
          refine seqQ_ret ?_
          refine endG (by rfl) (by exact resL_cell rfl (H.get 0 rfl) (by rw [uT_eq]; exact Tryz.underlying70) (by kernel_rfl) rfl rfl (by exact resL_tmp rfl)) ?_
          exact ⟨3, n, false, false, rfl, .inr (.inr (.inr ⟨rfl, by omega, by omega⟩)), (H.del 0)⟩
        · have hc50b := hc50
          have hc50 := of_decide_eq_false hc50
          refine W.skip ?_
          refine W.seq ?_
          refine W.drawn (by kernel_rfl) (by kernel_rfl) H.gn ?_
          have H51 := H
          refine RW.v ?_
          refine RW.call (by kernel_rfl) (by kernel_rfl) rfl rfl rfl (by kernel_rfl) (by kernel_rfl) ((digs_wc (G := G)  H51).mono ?_)
          rintro _ _ ⟨b52, b53, b54, rfl, H55⟩
          refine RW.v ?_
          refine RW.ld H55 3 1 ?_
          refine RW.lkL H55 0 (.func (.func 123) #[] #[.pointer (some ⟨b53, 0, none⟩), .pointer (some ⟨b54, 0, none⟩)]) ?_
          refine RW.v ?_
          refine RW.ld H55 3 1 ?_
          refine RW.cl ?_
          refine WC.enter (fn := Tryz.f123) Tryz.func123 rfl ?_
          replace H := H55
          refine W.rg [(0, .int .i64 n), (1, .pointer (some ⟨b53, 0, none⟩)), (2, .pointer (some ⟨b54, 0, none⟩))] fun TA => ?_
          refine W.seq (W.region ?_)
          refine RW.mk H (.row ⟨[.int .i64 0, .int .i64 0, .bool false], 70, false⟩) ?_
          clear H; intro _ b56 _ H
          refine RW.nil ?_
          refine W.rg [(0, .int .i64 n), (1, .pointer (some ⟨b53, 0, none⟩)), (2, .pointer (some ⟨b54, 0, none⟩)), (4, .pointer (some ⟨b56, 0, none⟩))] fun TA => ?_
          refine W.seq ?_
          refine W.seq (W.region ?_)
          iterate 2 refine RW.v ?_
          refine RW.nil ?_
          refine W.rg [(0, .int .i64 n), (1, .pointer (some ⟨b53, 0, none⟩)), (2, .pointer (some ⟨b54, 0, none⟩)), (4, .pointer (some ⟨b56, 0, none⟩)), (6, .bool (decide (n < 0)))] fun TA => ?_
          refine W.cond rfl (fun hc57 => ?_) (fun hc57 => ?_)
          · have hc57b := hc57
            have hc57 := of_decide_eq_true hc57
            refine W.seq ?_
            refine W.drawn (by kernel_rfl) (by kernel_rfl) H.gn ?_
            have H58 := H
            refine RW.ld H58 2 1 ?_
            refine RW.v ?_
            refine RW.cl ?_
            refine WC.enter (fn := Tryz.f116) Tryz.func116 rfl ?_
            replace H := H58
            refine W.rg [(0, .int .i64 n), (1, .int .i64 10)] fun TA => ?_
            refine W.seq (W.region ?_)
            refine RW.v ?_
            refine RW.nil ?_
            refine W.rg [(0, .int .i64 n), (1, .int .i64 10)] fun TA => ?_
            refine W.seq ?_
            refine W.seq (W.region ?_)
            iterate 2 refine RW.v ?_
            refine RW.valE (v' := .int .i64 230584300921369395) (by kernel_rfl) (by kernel_rfl) rfl (by kernel_rfl) (by kernel_rfl) ?_
            iterate 2 refine RW.v ?_
            refine RW.both _ _ rfl rfl rfl (fun hc59 => ?_) (fun hc59 => ?_)
            · have hc59b := hc59
              have hc59 := of_decide_eq_true hc59
              refine RW.skip (by rfl) (by kernel_rfl) ?_
              refine RW.skip (by rfl) (by kernel_rfl) ?_
              refine RW.skip (by rfl) (by kernel_rfl) ?_
              refine RW.skip (by rfl) (by kernel_rfl) ?_
              refine RW.v ?_
              refine RW.nil ?_
              refine W.rg [(0, .int .i64 n), (1, .int .i64 10), (14, .bool true)] fun TA => ?_
              refine W.c1 ?_
              refine W.seq ?_
              refine W.seq (W.region ?_)
              iterate 2 refine RW.v ?_
              refine RW.nil ?_
              refine W.rg [(16, .bool (decide (n > 0)))] fun TA => ?_
              refine W.cond rfl (fun hc60 => ?_) (fun hc60 => ?_)
              · have hc60b := hc60
                have hc60 := of_decide_eq_true hc60
                refine W.seq (W.region ?_)
                refine RW.v ?_
                refine RW.nil ?_
                refine W.rg [(4, .int .i64 2305843009213693951)] fun TA => ?_
                refine W.ret ?_
                refine seqQ_ret ?_
                refine seqQ_ret ?_
                refine endG (by rfl) (by exact resL_tmp rfl) ?_
                have H61 := H
                refine RW.ld H61 3 1 ?_
                refine RW.valE (v' := .int .i64 (2305843009213693951 - d)) (by kernel_rfl) (by kernel_rfl) rfl (congrArg (Value.int .i64) (wrap_in (by omega) (by omega))) (by kernel_rfl) ?_
                refine RW.cl ?_
                refine WC.enter (fn := Tryz.f119) Tryz.func119 rfl ?_
                replace H := H61
                refine W.rg [(0, .int .i64 (2305843009213693951 - d))] fun TA => ?_
                refine W.seq (W.region ?_)
                refine RW.mk H (.row ⟨[.int .i64 0, .int .i64 0, .bool false], 70, false⟩) ?_
                clear H; intro _ b62 _ H
                refine RW.nil ?_
                refine W.rg [(0, .int .i64 (2305843009213693951 - d)), (2, .pointer (some ⟨b62, 0, none⟩))] fun TA => ?_
                refine W.seq (W.region ?_)
                refine RW.v ?_
                refine RW.cl ?_
                refine WC.enter (fn := Tryz.f83) Tryz.func83 rfl ?_
                refine W.rg [(0, .int .i64 (2305843009213693951 - d))] fun TA => ?_
                refine W.seq (W.region ?_)
                refine RW.v ?_
                refine RW.nil ?_
                refine W.rg [(0, .int .i64 (2305843009213693951 - d))] fun TA => ?_
                refine W.seq (W.region ?_)
                refine RW.v ?_
                refine RW.vop (v := .int .i64 (min (2305843009213693951 - d) 2305843009213693951)) (by kernel_rfl) (by kernel_rfl) (vop_min rfl rfl rfl rfl rfl) (by kernel_rfl) ?_
                refine RW.vop (v := .int .i64 (max (-2305843009213693952) (min (2305843009213693951 - d) 2305843009213693951))) (by kernel_rfl) (by kernel_rfl) (vop_max rfl rfl rfl rfl rfl) (by kernel_rfl) ?_
                refine RW.v ?_
                refine RW.nil ?_
                refine W.rg [(2, .int .i64 (max (-2305843009213693952) (min (2305843009213693951 - d) 2305843009213693951)))] fun TA => ?_
                refine W.ret ?_
                refine endG (by rfl) (by exact resL_tmp rfl) ?_
                refine RW.val (v := .agg #[.int .i64 3, .int .i64 (max (-2305843009213693952) (min (2305843009213693951 - d) 2305843009213693951)), .bool false]) (by kernel_rfl) (by kernel_rfl) (by kernel_rfl) (by kernel_rfl) ?_
                refine RW.st H 0 [.int .i64 3, .int .i64 (max (-2305843009213693952) (min (2305843009213693951 - d) 2305843009213693951)), .bool false] [.int .i64 3, .int .i64 (max (-2305843009213693952) (min (2305843009213693951 - d) 2305843009213693951)), .bool false] ?_
                clear H; intro _ _ H; dsimp only [setL, delL] at H
                refine RW.nil ?_
                refine W.rg [(2, .pointer (some ⟨b62, 0, none⟩))] fun TA => ?_
                refine W.ret ?_
                refine endG (by rfl) (by exact resL_cell rfl (H.get 0 rfl) (by rw [uT_eq]; exact Tryz.underlying70) (by kernel_rfl) rfl rfl rfl) ?_
                have H63 := H
                refine RW.stD H63 1 (vs := [.int .i64 3, .int .i64 (max (-2305843009213693952) (min (2305843009213693951 - d) 2305843009213693951)), .bool false]) (cs' := [.int .i64 3, .int .i64 (max (-2305843009213693952) (min (2305843009213693951 - d) 2305843009213693951)), .bool false]) (by kernel_rfl) (by kernel_rfl) rfl rfl rfl rfl rfl (by kernel_rfl) (Nat.le_of_ble_eq_true rfl) rfl (by kernel_rfl) ?_
                intro _ H64
                dsimp only [setL, delL] at H64
                refine RW.nil ?_
                refine ⟨⟨by kernel_rfl, ⟨dyn_row (H58.get 2 rfl) (H64.get 3 rfl) ⟨fun h => Bool.noConfusion h, fun h => Bool.noConfusion h, fun _ => H58.get 2 rfl, fun h => Bool.noConfusion h, fun h => Bool.noConfusion h, fun _ => H61.get 2 rfl, fun _ => H63.get 3 rfl, trivial⟩, trivial, trivial, dyn_row (H61.get 3 rfl) (H64.get 4 rfl) ⟨fun h => Bool.noConfusion h, fun h => Bool.noConfusion h, fun _ => H58.get 3 rfl, fun h => Bool.noConfusion h, fun h => Bool.noConfusion h, fun _ => H61.get 3 rfl, fun _ => H63.get 4 rfl, trivial⟩, trivial, trivial, trivial, trivial⟩⟩, ?_⟩
                replace H := H64
                clear H58 H61 H63 H64
                replace H := (H.del 0)
                dsimp only [setL, delL] at H
                refine W.rg [(4, .pointer (some ⟨b56, 0, none⟩))] fun TA => ?_
                refine W.ret ?_
                refine seqQ_ret ?_
                refine endG (by rfl) (by exact resL_cell rfl (H.get 0 rfl) (by rw [uT_eq]; exact Tryz.underlying70) (by kernel_rfl) rfl rfl rfl) ?_
                have H65 := H
                refine RW.stD H65 5 (vs := [.int .i64 3, .int .i64 (max (-2305843009213693952) (min (2305843009213693951 - d) 2305843009213693951)), .bool false]) (cs' := [.int .i64 3, .int .i64 (max (-2305843009213693952) (min (2305843009213693951 - d) 2305843009213693951)), .bool false]) (by kernel_rfl) (by kernel_rfl) rfl rfl rfl rfl rfl (by kernel_rfl) (Nat.le_of_ble_eq_true rfl) rfl (by kernel_rfl) ?_
                intro _ H66
                dsimp only [setL, delL] at H66
                refine RW.v ?_
                refine RW.nil ?_
                refine ⟨⟨by kernel_rfl, ⟨trivial, trivial, trivial, dyn_row (H55.get 3 rfl) (H66.get 4 rfl) ⟨fun h => Bool.noConfusion h, fun _ => H51.get 0 rfl, fun h => Bool.noConfusion h, fun h => Bool.noConfusion h, fun _ => H55.get 3 rfl, fun h => Bool.noConfusion h, fun h => Bool.noConfusion h, fun _ => H55.get 3 rfl, fun _ => H65.get 4 rfl, fun h => Bool.noConfusion h, trivial⟩, trivial, trivial, dyn_row (H55.get 3 rfl) (H66.get 4 rfl) ⟨fun h => Bool.noConfusion h, fun _ => H51.get 0 rfl, fun h => Bool.noConfusion h, fun h => Bool.noConfusion h, fun _ => H55.get 3 rfl, fun h => Bool.noConfusion h, fun h => Bool.noConfusion h, fun _ => H55.get 3 rfl, fun _ => H65.get 4 rfl, fun h => Bool.noConfusion h, trivial⟩, trivial, trivial, trivial, trivial⟩⟩, ?_⟩
                replace H := H66
                clear H51 H55 H65 H66
                replace H := ((((((H.del 6).del 4).del 3).del 2).del 1).del 0)
                dsimp only [setL, delL] at H
                refine W.rg [(4, .pointer (some ⟨b47, 0, none⟩)), (5, .bool true)] fun TA => ?_
                refine W.ret ?_
                refine endG (by rfl) (by exact resL_cell rfl (H.get 0 rfl) (by rw [uT_eq]; exact Tryz.underlying70) (by kernel_rfl) rfl rfl (by exact resL_tmp rfl)) ?_
                exact ⟨3, max (-2305843009213693952) (min (2305843009213693951 - d) 2305843009213693951), false, true, rfl, .inr (.inr (.inr ⟨rfl, by omega, by omega⟩)), (H.del 0)⟩
              · have hc60b := hc60
                have hc60 := of_decide_eq_false hc60
                refine W.skip ?_
                refine W.seq (W.region ?_)
                refine RW.v ?_
                refine RW.nil ?_
                refine W.rg [(4, .int .i64 (-2305843009213693952))] fun TA => ?_
                refine W.ret ?_
                refine seqQ_ret ?_
                refine endG (by rfl) (by exact resL_tmp rfl) ?_
                have H67 := H
                refine RW.ld H67 3 1 ?_
                refine RW.valE (v' := .int .i64 ((-2305843009213693952) - d)) (by kernel_rfl) (by kernel_rfl) rfl (congrArg (Value.int .i64) (wrap_in (by omega) (by omega))) (by kernel_rfl) ?_
                refine RW.cl ?_
                refine WC.enter (fn := Tryz.f119) Tryz.func119 rfl ?_
                replace H := H67
                refine W.rg [(0, .int .i64 ((-2305843009213693952) - d))] fun TA => ?_
                refine W.seq (W.region ?_)
                refine RW.mk H (.row ⟨[.int .i64 0, .int .i64 0, .bool false], 70, false⟩) ?_
                clear H; intro _ b68 _ H
                refine RW.nil ?_
                refine W.rg [(0, .int .i64 ((-2305843009213693952) - d)), (2, .pointer (some ⟨b68, 0, none⟩))] fun TA => ?_
                refine W.seq (W.region ?_)
                refine RW.v ?_
                refine RW.cl ?_
                refine WC.enter (fn := Tryz.f83) Tryz.func83 rfl ?_
                refine W.rg [(0, .int .i64 ((-2305843009213693952) - d))] fun TA => ?_
                refine W.seq (W.region ?_)
                refine RW.v ?_
                refine RW.nil ?_
                refine W.rg [(0, .int .i64 ((-2305843009213693952) - d))] fun TA => ?_
                refine W.seq (W.region ?_)
                refine RW.v ?_
                refine RW.vop (v := .int .i64 (min ((-2305843009213693952) - d) 2305843009213693951)) (by kernel_rfl) (by kernel_rfl) (vop_min rfl rfl rfl rfl rfl) (by kernel_rfl) ?_
                refine RW.vop (v := .int .i64 (max (-2305843009213693952) (min ((-2305843009213693952) - d) 2305843009213693951))) (by kernel_rfl) (by kernel_rfl) (vop_max rfl rfl rfl rfl rfl) (by kernel_rfl) ?_
                refine RW.v ?_
                refine RW.nil ?_
                refine W.rg [(2, .int .i64 (max (-2305843009213693952) (min ((-2305843009213693952) - d) 2305843009213693951)))] fun TA => ?_
                refine W.ret ?_
                refine endG (by rfl) (by exact resL_tmp rfl) ?_
                refine RW.val (v := .agg #[.int .i64 3, .int .i64 (max (-2305843009213693952) (min ((-2305843009213693952) - d) 2305843009213693951)), .bool false]) (by kernel_rfl) (by kernel_rfl) (by kernel_rfl) (by kernel_rfl) ?_
                refine RW.st H 0 [.int .i64 3, .int .i64 (max (-2305843009213693952) (min ((-2305843009213693952) - d) 2305843009213693951)), .bool false] [.int .i64 3, .int .i64 (max (-2305843009213693952) (min ((-2305843009213693952) - d) 2305843009213693951)), .bool false] ?_
                clear H; intro _ _ H; dsimp only [setL, delL] at H
                refine RW.nil ?_
                refine W.rg [(2, .pointer (some ⟨b68, 0, none⟩))] fun TA => ?_
                refine W.ret ?_
                refine endG (by rfl) (by exact resL_cell rfl (H.get 0 rfl) (by rw [uT_eq]; exact Tryz.underlying70) (by kernel_rfl) rfl rfl rfl) ?_
                have H69 := H
                refine RW.stD H69 1 (vs := [.int .i64 3, .int .i64 (max (-2305843009213693952) (min ((-2305843009213693952) - d) 2305843009213693951)), .bool false]) (cs' := [.int .i64 3, .int .i64 (max (-2305843009213693952) (min ((-2305843009213693952) - d) 2305843009213693951)), .bool false]) (by kernel_rfl) (by kernel_rfl) rfl rfl rfl rfl rfl (by kernel_rfl) (Nat.le_of_ble_eq_true rfl) rfl (by kernel_rfl) ?_
                intro _ H70
                dsimp only [setL, delL] at H70
                refine RW.nil ?_
                refine ⟨⟨by kernel_rfl, ⟨dyn_row (H58.get 2 rfl) (H70.get 3 rfl) ⟨fun h => Bool.noConfusion h, fun h => Bool.noConfusion h, fun _ => H58.get 2 rfl, fun h => Bool.noConfusion h, fun h => Bool.noConfusion h, fun _ => H67.get 2 rfl, fun _ => H69.get 3 rfl, trivial⟩, trivial, trivial, dyn_row (H67.get 3 rfl) (H70.get 4 rfl) ⟨fun h => Bool.noConfusion h, fun h => Bool.noConfusion h, fun _ => H58.get 3 rfl, fun h => Bool.noConfusion h, fun h => Bool.noConfusion h, fun _ => H67.get 3 rfl, fun _ => H69.get 4 rfl, trivial⟩, trivial, trivial, trivial, trivial⟩⟩, ?_⟩
                replace H := H70
                clear H58 H67 H69 H70
                replace H := (H.del 0)
                dsimp only [setL, delL] at H
                refine W.rg [(4, .pointer (some ⟨b56, 0, none⟩))] fun TA => ?_
                refine W.ret ?_
                refine seqQ_ret ?_
                refine endG (by rfl) (by exact resL_cell rfl (H.get 0 rfl) (by rw [uT_eq]; exact Tryz.underlying70) (by kernel_rfl) rfl rfl rfl) ?_
                have H71 := H
                refine RW.stD H71 5 (vs := [.int .i64 3, .int .i64 (max (-2305843009213693952) (min ((-2305843009213693952) - d) 2305843009213693951)), .bool false]) (cs' := [.int .i64 3, .int .i64 (max (-2305843009213693952) (min ((-2305843009213693952) - d) 2305843009213693951)), .bool false]) (by kernel_rfl) (by kernel_rfl) rfl rfl rfl rfl rfl (by kernel_rfl) (Nat.le_of_ble_eq_true rfl) rfl (by kernel_rfl) ?_
                intro _ H72
                dsimp only [setL, delL] at H72
                refine RW.v ?_
                refine RW.nil ?_
                refine ⟨⟨by kernel_rfl, ⟨trivial, trivial, trivial, dyn_row (H55.get 3 rfl) (H72.get 4 rfl) ⟨fun h => Bool.noConfusion h, fun _ => H51.get 0 rfl, fun h => Bool.noConfusion h, fun h => Bool.noConfusion h, fun _ => H55.get 3 rfl, fun h => Bool.noConfusion h, fun h => Bool.noConfusion h, fun _ => H55.get 3 rfl, fun _ => H71.get 4 rfl, fun h => Bool.noConfusion h, trivial⟩, trivial, trivial, dyn_row (H55.get 3 rfl) (H72.get 4 rfl) ⟨fun h => Bool.noConfusion h, fun _ => H51.get 0 rfl, fun h => Bool.noConfusion h, fun h => Bool.noConfusion h, fun _ => H55.get 3 rfl, fun h => Bool.noConfusion h, fun h => Bool.noConfusion h, fun _ => H55.get 3 rfl, fun _ => H71.get 4 rfl, fun h => Bool.noConfusion h, trivial⟩, trivial, trivial, trivial, trivial⟩⟩, ?_⟩
                replace H := H72
                clear H51 H55 H71 H72
                replace H := ((((((H.del 6).del 4).del 3).del 2).del 1).del 0)
                dsimp only [setL, delL] at H
                refine W.rg [(4, .pointer (some ⟨b47, 0, none⟩)), (5, .bool true)] fun TA => ?_
                refine W.ret ?_
                refine endG (by rfl) (by exact resL_cell rfl (H.get 0 rfl) (by rw [uT_eq]; exact Tryz.underlying70) (by kernel_rfl) rfl rfl (by exact resL_tmp rfl)) ?_
                exact ⟨3, max (-2305843009213693952) (min ((-2305843009213693952) - d) 2305843009213693951), false, true, rfl, .inr (.inr (.inr ⟨rfl, by omega, by omega⟩)), (H.del 0)⟩
            · have hc59b := hc59
              have hc59 := of_decide_eq_false hc59
              refine RW.val (by rfl) (by kernel_rfl) rfl (by kernel_rfl) ?_
              refine RW.val (by rfl) (by kernel_rfl) rfl (by kernel_rfl) ?_
              refine RW.valE (v' := .int .i64 (-230584300921369395)) (by rfl) (by kernel_rfl) rfl (by kernel_rfl) (by kernel_rfl) ?_
              refine RW.val (by rfl) (by kernel_rfl) rfl (by kernel_rfl) ?_
              refine RW.v ?_
              refine RW.nil ?_
              refine W.rg [(0, .int .i64 n), (1, .int .i64 10), (14, .bool (decide (n < (-230584300921369395))))] fun TA => ?_
              refine W.cond rfl (fun hc73 => ?_) (fun hc73 => ?_)
              · have hc73b := hc73
                have hc73 := of_decide_eq_true hc73
                refine W.seq ?_
                refine W.seq (W.region ?_)
                iterate 2 refine RW.v ?_
                refine RW.nil ?_
                refine W.rg [(16, .bool (decide (n > 0)))] fun TA => ?_
                refine W.cond rfl (fun hc74 => ?_) (fun hc74 => ?_)
                · have hc74b := hc74
                  have hc74 := of_decide_eq_true hc74
                  refine W.seq (W.region ?_)
                  refine RW.v ?_
                  refine RW.nil ?_
                  refine W.rg [(4, .int .i64 2305843009213693951)] fun TA => ?_
                  refine W.ret ?_
                  refine seqQ_ret ?_
                  refine seqQ_ret ?_
                  refine endG (by rfl) (by exact resL_tmp rfl) ?_
                  have H75 := H
                  refine RW.ld H75 3 1 ?_
                  refine RW.valE (v' := .int .i64 (2305843009213693951 - d)) (by kernel_rfl) (by kernel_rfl) rfl (congrArg (Value.int .i64) (wrap_in (by omega) (by omega))) (by kernel_rfl) ?_
                  refine RW.cl ?_
                  refine WC.enter (fn := Tryz.f119) Tryz.func119 rfl ?_
                  replace H := H75
                  refine W.rg [(0, .int .i64 (2305843009213693951 - d))] fun TA => ?_
                  refine W.seq (W.region ?_)
                  refine RW.mk H (.row ⟨[.int .i64 0, .int .i64 0, .bool false], 70, false⟩) ?_
                  clear H; intro _ b76 _ H
                  refine RW.nil ?_
                  refine W.rg [(0, .int .i64 (2305843009213693951 - d)), (2, .pointer (some ⟨b76, 0, none⟩))] fun TA => ?_
                  refine W.seq (W.region ?_)
                  refine RW.v ?_
                  refine RW.cl ?_
                  refine WC.enter (fn := Tryz.f83) Tryz.func83 rfl ?_
                  refine W.rg [(0, .int .i64 (2305843009213693951 - d))] fun TA => ?_
                  refine W.seq (W.region ?_)
                  refine RW.v ?_
                  refine RW.nil ?_
                  refine W.rg [(0, .int .i64 (2305843009213693951 - d))] fun TA => ?_
                  refine W.seq (W.region ?_)
                  refine RW.v ?_
                  refine RW.vop (v := .int .i64 (min (2305843009213693951 - d) 2305843009213693951)) (by kernel_rfl) (by kernel_rfl) (vop_min rfl rfl rfl rfl rfl) (by kernel_rfl) ?_
                  refine RW.vop (v := .int .i64 (max (-2305843009213693952) (min (2305843009213693951 - d) 2305843009213693951))) (by kernel_rfl) (by kernel_rfl) (vop_max rfl rfl rfl rfl rfl) (by kernel_rfl) ?_
                  refine RW.v ?_
                  refine RW.nil ?_
                  refine W.rg [(2, .int .i64 (max (-2305843009213693952) (min (2305843009213693951 - d) 2305843009213693951)))] fun TA => ?_
                  refine W.ret ?_
                  refine endG (by rfl) (by exact resL_tmp rfl) ?_
                  refine RW.val (v := .agg #[.int .i64 3, .int .i64 (max (-2305843009213693952) (min (2305843009213693951 - d) 2305843009213693951)), .bool false]) (by kernel_rfl) (by kernel_rfl) (by kernel_rfl) (by kernel_rfl) ?_
                  refine RW.st H 0 [.int .i64 3, .int .i64 (max (-2305843009213693952) (min (2305843009213693951 - d) 2305843009213693951)), .bool false] [.int .i64 3, .int .i64 (max (-2305843009213693952) (min (2305843009213693951 - d) 2305843009213693951)), .bool false] ?_
                  clear H; intro _ _ H; dsimp only [setL, delL] at H
                  refine RW.nil ?_
                  refine W.rg [(2, .pointer (some ⟨b76, 0, none⟩))] fun TA => ?_
                  refine W.ret ?_
                  refine endG (by rfl) (by exact resL_cell rfl (H.get 0 rfl) (by rw [uT_eq]; exact Tryz.underlying70) (by kernel_rfl) rfl rfl rfl) ?_
                  have H77 := H
                  refine RW.stD H77 1 (vs := [.int .i64 3, .int .i64 (max (-2305843009213693952) (min (2305843009213693951 - d) 2305843009213693951)), .bool false]) (cs' := [.int .i64 3, .int .i64 (max (-2305843009213693952) (min (2305843009213693951 - d) 2305843009213693951)), .bool false]) (by kernel_rfl) (by kernel_rfl) rfl rfl rfl rfl rfl (by kernel_rfl) (Nat.le_of_ble_eq_true rfl) rfl (by kernel_rfl) ?_
                  intro _ H78
                  dsimp only [setL, delL] at H78
                  refine RW.nil ?_
                  refine ⟨⟨by kernel_rfl, ⟨dyn_row (H58.get 2 rfl) (H78.get 3 rfl) ⟨fun h => Bool.noConfusion h, fun h => Bool.noConfusion h, fun _ => H58.get 2 rfl, fun h => Bool.noConfusion h, fun h => Bool.noConfusion h, fun _ => H75.get 2 rfl, fun _ => H77.get 3 rfl, trivial⟩, trivial, trivial, dyn_row (H75.get 3 rfl) (H78.get 4 rfl) ⟨fun h => Bool.noConfusion h, fun h => Bool.noConfusion h, fun _ => H58.get 3 rfl, fun h => Bool.noConfusion h, fun h => Bool.noConfusion h, fun _ => H75.get 3 rfl, fun _ => H77.get 4 rfl, trivial⟩, trivial, trivial, trivial, trivial⟩⟩, ?_⟩
                  replace H := H78
                  clear H58 H75 H77 H78
                  replace H := (H.del 0)
                  dsimp only [setL, delL] at H
                  refine W.rg [(4, .pointer (some ⟨b56, 0, none⟩))] fun TA => ?_
                  refine W.ret ?_
                  refine seqQ_ret ?_
                  refine endG (by rfl) (by exact resL_cell rfl (H.get 0 rfl) (by rw [uT_eq]; exact Tryz.underlying70) (by kernel_rfl) rfl rfl rfl) ?_
                  have H79 := H
                  refine RW.stD H79 5 (vs := [.int .i64 3, .int .i64 (max (-2305843009213693952) (min (2305843009213693951 - d) 2305843009213693951)), .bool false]) (cs' := [.int .i64 3, .int .i64 (max (-2305843009213693952) (min (2305843009213693951 - d) 2305843009213693951)), .bool false]) (by kernel_rfl) (by kernel_rfl) rfl rfl rfl rfl rfl (by kernel_rfl) (Nat.le_of_ble_eq_true rfl) rfl (by kernel_rfl) ?_
                  intro _ H80
                  dsimp only [setL, delL] at H80
                  refine RW.v ?_
                  refine RW.nil ?_
                  refine ⟨⟨by kernel_rfl, ⟨trivial, trivial, trivial, dyn_row (H55.get 3 rfl) (H80.get 4 rfl) ⟨fun h => Bool.noConfusion h, fun _ => H51.get 0 rfl, fun h => Bool.noConfusion h, fun h => Bool.noConfusion h, fun _ => H55.get 3 rfl, fun h => Bool.noConfusion h, fun h => Bool.noConfusion h, fun _ => H55.get 3 rfl, fun _ => H79.get 4 rfl, fun h => Bool.noConfusion h, trivial⟩, trivial, trivial, dyn_row (H55.get 3 rfl) (H80.get 4 rfl) ⟨fun h => Bool.noConfusion h, fun _ => H51.get 0 rfl, fun h => Bool.noConfusion h, fun h => Bool.noConfusion h, fun _ => H55.get 3 rfl, fun h => Bool.noConfusion h, fun h => Bool.noConfusion h, fun _ => H55.get 3 rfl, fun _ => H79.get 4 rfl, fun h => Bool.noConfusion h, trivial⟩, trivial, trivial, trivial, trivial⟩⟩, ?_⟩
                  replace H := H80
                  clear H51 H55 H79 H80
                  replace H := ((((((H.del 6).del 4).del 3).del 2).del 1).del 0)
                  dsimp only [setL, delL] at H
                  refine W.rg [(4, .pointer (some ⟨b47, 0, none⟩)), (5, .bool true)] fun TA => ?_
                  refine W.ret ?_
                  refine endG (by rfl) (by exact resL_cell rfl (H.get 0 rfl) (by rw [uT_eq]; exact Tryz.underlying70) (by kernel_rfl) rfl rfl (by exact resL_tmp rfl)) ?_
                  exact ⟨3, max (-2305843009213693952) (min (2305843009213693951 - d) 2305843009213693951), false, true, rfl, .inr (.inr (.inr ⟨rfl, by omega, by omega⟩)), (H.del 0)⟩
                · have hc74b := hc74
                  have hc74 := of_decide_eq_false hc74
                  refine W.skip ?_
                  refine W.seq (W.region ?_)
                  refine RW.v ?_
                  refine RW.nil ?_
                  refine W.rg [(4, .int .i64 (-2305843009213693952))] fun TA => ?_
                  refine W.ret ?_
                  refine seqQ_ret ?_
                  refine endG (by rfl) (by exact resL_tmp rfl) ?_
                  have H81 := H
                  refine RW.ld H81 3 1 ?_
                  refine RW.valE (v' := .int .i64 ((-2305843009213693952) - d)) (by kernel_rfl) (by kernel_rfl) rfl (congrArg (Value.int .i64) (wrap_in (by omega) (by omega))) (by kernel_rfl) ?_
                  refine RW.cl ?_
                  refine WC.enter (fn := Tryz.f119) Tryz.func119 rfl ?_
                  replace H := H81
                  refine W.rg [(0, .int .i64 ((-2305843009213693952) - d))] fun TA => ?_
                  refine W.seq (W.region ?_)
                  refine RW.mk H (.row ⟨[.int .i64 0, .int .i64 0, .bool false], 70, false⟩) ?_
                  clear H; intro _ b82 _ H
                  refine RW.nil ?_
                  refine W.rg [(0, .int .i64 ((-2305843009213693952) - d)), (2, .pointer (some ⟨b82, 0, none⟩))] fun TA => ?_
                  refine W.seq (W.region ?_)
                  refine RW.v ?_
                  refine RW.cl ?_
                  refine WC.enter (fn := Tryz.f83) Tryz.func83 rfl ?_
                  refine W.rg [(0, .int .i64 ((-2305843009213693952) - d))] fun TA => ?_
                  refine W.seq (W.region ?_)
                  refine RW.v ?_
                  refine RW.nil ?_
                  refine W.rg [(0, .int .i64 ((-2305843009213693952) - d))] fun TA => ?_
                  refine W.seq (W.region ?_)
                  refine RW.v ?_
                  refine RW.vop (v := .int .i64 (min ((-2305843009213693952) - d) 2305843009213693951)) (by kernel_rfl) (by kernel_rfl) (vop_min rfl rfl rfl rfl rfl) (by kernel_rfl) ?_
                  refine RW.vop (v := .int .i64 (max (-2305843009213693952) (min ((-2305843009213693952) - d) 2305843009213693951))) (by kernel_rfl) (by kernel_rfl) (vop_max rfl rfl rfl rfl rfl) (by kernel_rfl) ?_
                  refine RW.v ?_
                  refine RW.nil ?_
                  refine W.rg [(2, .int .i64 (max (-2305843009213693952) (min ((-2305843009213693952) - d) 2305843009213693951)))] fun TA => ?_
                  refine W.ret ?_
                  refine endG (by rfl) (by exact resL_tmp rfl) ?_
                  refine RW.val (v := .agg #[.int .i64 3, .int .i64 (max (-2305843009213693952) (min ((-2305843009213693952) - d) 2305843009213693951)), .bool false]) (by kernel_rfl) (by kernel_rfl) (by kernel_rfl) (by kernel_rfl) ?_
                  refine RW.st H 0 [.int .i64 3, .int .i64 (max (-2305843009213693952) (min ((-2305843009213693952) - d) 2305843009213693951)), .bool false] [.int .i64 3, .int .i64 (max (-2305843009213693952) (min ((-2305843009213693952) - d) 2305843009213693951)), .bool false] ?_
                  clear H; intro _ _ H; dsimp only [setL, delL] at H
                  refine RW.nil ?_
                  refine W.rg [(2, .pointer (some ⟨b82, 0, none⟩))] fun TA => ?_
                  refine W.ret ?_
                  refine endG (by rfl) (by exact resL_cell rfl (H.get 0 rfl) (by rw [uT_eq]; exact Tryz.underlying70) (by kernel_rfl) rfl rfl rfl) ?_
                  have H83 := H
                  refine RW.stD H83 1 (vs := [.int .i64 3, .int .i64 (max (-2305843009213693952) (min ((-2305843009213693952) - d) 2305843009213693951)), .bool false]) (cs' := [.int .i64 3, .int .i64 (max (-2305843009213693952) (min ((-2305843009213693952) - d) 2305843009213693951)), .bool false]) (by kernel_rfl) (by kernel_rfl) rfl rfl rfl rfl rfl (by kernel_rfl) (Nat.le_of_ble_eq_true rfl) rfl (by kernel_rfl) ?_
                  intro _ H84
                  dsimp only [setL, delL] at H84
                  refine RW.nil ?_
                  refine ⟨⟨by kernel_rfl, ⟨dyn_row (H58.get 2 rfl) (H84.get 3 rfl) ⟨fun h => Bool.noConfusion h, fun h => Bool.noConfusion h, fun _ => H58.get 2 rfl, fun h => Bool.noConfusion h, fun h => Bool.noConfusion h, fun _ => H81.get 2 rfl, fun _ => H83.get 3 rfl, trivial⟩, trivial, trivial, dyn_row (H81.get 3 rfl) (H84.get 4 rfl) ⟨fun h => Bool.noConfusion h, fun h => Bool.noConfusion h, fun _ => H58.get 3 rfl, fun h => Bool.noConfusion h, fun h => Bool.noConfusion h, fun _ => H81.get 3 rfl, fun _ => H83.get 4 rfl, trivial⟩, trivial, trivial, trivial, trivial⟩⟩, ?_⟩
                  replace H := H84
                  clear H58 H81 H83 H84
                  replace H := (H.del 0)
                  dsimp only [setL, delL] at H
                  refine W.rg [(4, .pointer (some ⟨b56, 0, none⟩))] fun TA => ?_
                  refine W.ret ?_
                  refine seqQ_ret ?_
                  refine endG (by rfl) (by exact resL_cell rfl (H.get 0 rfl) (by rw [uT_eq]; exact Tryz.underlying70) (by kernel_rfl) rfl rfl rfl) ?_
                  have H85 := H
                  refine RW.stD H85 5 (vs := [.int .i64 3, .int .i64 (max (-2305843009213693952) (min ((-2305843009213693952) - d) 2305843009213693951)), .bool false]) (cs' := [.int .i64 3, .int .i64 (max (-2305843009213693952) (min ((-2305843009213693952) - d) 2305843009213693951)), .bool false]) (by kernel_rfl) (by kernel_rfl) rfl rfl rfl rfl rfl (by kernel_rfl) (Nat.le_of_ble_eq_true rfl) rfl (by kernel_rfl) ?_
                  intro _ H86
                  dsimp only [setL, delL] at H86
                  refine RW.v ?_
                  refine RW.nil ?_
                  refine ⟨⟨by kernel_rfl, ⟨trivial, trivial, trivial, dyn_row (H55.get 3 rfl) (H86.get 4 rfl) ⟨fun h => Bool.noConfusion h, fun _ => H51.get 0 rfl, fun h => Bool.noConfusion h, fun h => Bool.noConfusion h, fun _ => H55.get 3 rfl, fun h => Bool.noConfusion h, fun h => Bool.noConfusion h, fun _ => H55.get 3 rfl, fun _ => H85.get 4 rfl, fun h => Bool.noConfusion h, trivial⟩, trivial, trivial, dyn_row (H55.get 3 rfl) (H86.get 4 rfl) ⟨fun h => Bool.noConfusion h, fun _ => H51.get 0 rfl, fun h => Bool.noConfusion h, fun h => Bool.noConfusion h, fun _ => H55.get 3 rfl, fun h => Bool.noConfusion h, fun h => Bool.noConfusion h, fun _ => H55.get 3 rfl, fun _ => H85.get 4 rfl, fun h => Bool.noConfusion h, trivial⟩, trivial, trivial, trivial, trivial⟩⟩, ?_⟩
                  replace H := H86
                  clear H51 H55 H85 H86
                  replace H := ((((((H.del 6).del 4).del 3).del 2).del 1).del 0)
                  dsimp only [setL, delL] at H
                  refine W.rg [(4, .pointer (some ⟨b47, 0, none⟩)), (5, .bool true)] fun TA => ?_
                  refine W.ret ?_
                  refine endG (by rfl) (by exact resL_cell rfl (H.get 0 rfl) (by rw [uT_eq]; exact Tryz.underlying70) (by kernel_rfl) rfl rfl (by exact resL_tmp rfl)) ?_
                  exact ⟨3, max (-2305843009213693952) (min ((-2305843009213693952) - d) 2305843009213693951), false, true, rfl, .inr (.inr (.inr ⟨rfl, by omega, by omega⟩)), (H.del 0)⟩
              · have hc73b := hc73
                have hc73 := of_decide_eq_false hc73
                refine W.skip ?_
                refine W.seq (W.region ?_)
                iterate 2 refine RW.v ?_
                refine RW.valE (v' := .int .i64 (n * 10)) (by kernel_rfl) (by kernel_rfl) rfl (congrArg (Value.int .i64) (wrap_in (by omega) (by omega))) (by kernel_rfl) ?_
                refine RW.v ?_
                refine RW.nil ?_
                refine W.rg [(4, .int .i64 (n * 10))] fun TA => ?_
                refine W.ret ?_
                refine endG (by rfl) (by exact resL_tmp rfl) ?_
                have H87 := H
                refine RW.ld H87 3 1 ?_
                refine RW.valE (v' := .int .i64 ((n * 10) - d)) (by kernel_rfl) (by kernel_rfl) rfl (congrArg (Value.int .i64) (wrap_in (by omega) (by omega))) (by kernel_rfl) ?_
                refine RW.cl ?_
                refine WC.enter (fn := Tryz.f119) Tryz.func119 rfl ?_
                replace H := H87
                refine W.rg [(0, .int .i64 ((n * 10) - d))] fun TA => ?_
                refine W.seq (W.region ?_)
                refine RW.mk H (.row ⟨[.int .i64 0, .int .i64 0, .bool false], 70, false⟩) ?_
                clear H; intro _ b88 _ H
                refine RW.nil ?_
                refine W.rg [(0, .int .i64 ((n * 10) - d)), (2, .pointer (some ⟨b88, 0, none⟩))] fun TA => ?_
                refine W.seq (W.region ?_)
                refine RW.v ?_
                refine RW.cl ?_
                refine WC.enter (fn := Tryz.f83) Tryz.func83 rfl ?_
                refine W.rg [(0, .int .i64 ((n * 10) - d))] fun TA => ?_
                refine W.seq (W.region ?_)
                refine RW.v ?_
                refine RW.nil ?_
                refine W.rg [(0, .int .i64 ((n * 10) - d))] fun TA => ?_
                refine W.seq (W.region ?_)
                refine RW.v ?_
                refine RW.vop (v := .int .i64 (min ((n * 10) - d) 2305843009213693951)) (by kernel_rfl) (by kernel_rfl) (vop_min rfl rfl rfl rfl rfl) (by kernel_rfl) ?_
                refine RW.vop (v := .int .i64 (max (-2305843009213693952) (min ((n * 10) - d) 2305843009213693951))) (by kernel_rfl) (by kernel_rfl) (vop_max rfl rfl rfl rfl rfl) (by kernel_rfl) ?_
                refine RW.v ?_
                refine RW.nil ?_
                refine W.rg [(2, .int .i64 (max (-2305843009213693952) (min ((n * 10) - d) 2305843009213693951)))] fun TA => ?_
                refine W.ret ?_
                refine endG (by rfl) (by exact resL_tmp rfl) ?_
                refine RW.val (v := .agg #[.int .i64 3, .int .i64 (max (-2305843009213693952) (min ((n * 10) - d) 2305843009213693951)), .bool false]) (by kernel_rfl) (by kernel_rfl) (by kernel_rfl) (by kernel_rfl) ?_
                refine RW.st H 0 [.int .i64 3, .int .i64 (max (-2305843009213693952) (min ((n * 10) - d) 2305843009213693951)), .bool false] [.int .i64 3, .int .i64 (max (-2305843009213693952) (min ((n * 10) - d) 2305843009213693951)), .bool false] ?_
                clear H; intro _ _ H; dsimp only [setL, delL] at H
                refine RW.nil ?_
                refine W.rg [(2, .pointer (some ⟨b88, 0, none⟩))] fun TA => ?_
                refine W.ret ?_
                refine endG (by rfl) (by exact resL_cell rfl (H.get 0 rfl) (by rw [uT_eq]; exact Tryz.underlying70) (by kernel_rfl) rfl rfl rfl) ?_
                have H89 := H
                refine RW.stD H89 1 (vs := [.int .i64 3, .int .i64 (max (-2305843009213693952) (min ((n * 10) - d) 2305843009213693951)), .bool false]) (cs' := [.int .i64 3, .int .i64 (max (-2305843009213693952) (min ((n * 10) - d) 2305843009213693951)), .bool false]) (by kernel_rfl) (by kernel_rfl) rfl rfl rfl rfl rfl (by kernel_rfl) (Nat.le_of_ble_eq_true rfl) rfl (by kernel_rfl) ?_
                intro _ H90
                dsimp only [setL, delL] at H90
                refine RW.nil ?_
                refine ⟨⟨by kernel_rfl, ⟨dyn_row (H58.get 2 rfl) (H90.get 3 rfl) ⟨fun h => Bool.noConfusion h, fun h => Bool.noConfusion h, fun _ => H58.get 2 rfl, fun h => Bool.noConfusion h, fun h => Bool.noConfusion h, fun _ => H87.get 2 rfl, fun _ => H89.get 3 rfl, trivial⟩, trivial, trivial, dyn_row (H87.get 3 rfl) (H90.get 4 rfl) ⟨fun h => Bool.noConfusion h, fun h => Bool.noConfusion h, fun _ => H58.get 3 rfl, fun h => Bool.noConfusion h, fun h => Bool.noConfusion h, fun _ => H87.get 3 rfl, fun _ => H89.get 4 rfl, trivial⟩, trivial, trivial, trivial, trivial⟩⟩, ?_⟩
                replace H := H90
                clear H58 H87 H89 H90
                replace H := (H.del 0)
                dsimp only [setL, delL] at H
                refine W.rg [(4, .pointer (some ⟨b56, 0, none⟩))] fun TA => ?_
                refine W.ret ?_
                refine seqQ_ret ?_
                refine endG (by rfl) (by exact resL_cell rfl (H.get 0 rfl) (by rw [uT_eq]; exact Tryz.underlying70) (by kernel_rfl) rfl rfl rfl) ?_
                have H91 := H
                refine RW.stD H91 5 (vs := [.int .i64 3, .int .i64 (max (-2305843009213693952) (min ((n * 10) - d) 2305843009213693951)), .bool false]) (cs' := [.int .i64 3, .int .i64 (max (-2305843009213693952) (min ((n * 10) - d) 2305843009213693951)), .bool false]) (by kernel_rfl) (by kernel_rfl) rfl rfl rfl rfl rfl (by kernel_rfl) (Nat.le_of_ble_eq_true rfl) rfl (by kernel_rfl) ?_
                intro _ H92
                dsimp only [setL, delL] at H92
                refine RW.v ?_
                refine RW.nil ?_
                refine ⟨⟨by kernel_rfl, ⟨trivial, trivial, trivial, dyn_row (H55.get 3 rfl) (H92.get 4 rfl) ⟨fun h => Bool.noConfusion h, fun _ => H51.get 0 rfl, fun h => Bool.noConfusion h, fun h => Bool.noConfusion h, fun _ => H55.get 3 rfl, fun h => Bool.noConfusion h, fun h => Bool.noConfusion h, fun _ => H55.get 3 rfl, fun _ => H91.get 4 rfl, fun h => Bool.noConfusion h, trivial⟩, trivial, trivial, dyn_row (H55.get 3 rfl) (H92.get 4 rfl) ⟨fun h => Bool.noConfusion h, fun _ => H51.get 0 rfl, fun h => Bool.noConfusion h, fun h => Bool.noConfusion h, fun _ => H55.get 3 rfl, fun h => Bool.noConfusion h, fun h => Bool.noConfusion h, fun _ => H55.get 3 rfl, fun _ => H91.get 4 rfl, fun h => Bool.noConfusion h, trivial⟩, trivial, trivial, trivial, trivial⟩⟩, ?_⟩
                replace H := H92
                clear H51 H55 H91 H92
                replace H := ((((((H.del 6).del 4).del 3).del 2).del 1).del 0)
                dsimp only [setL, delL] at H
                refine W.rg [(4, .pointer (some ⟨b47, 0, none⟩)), (5, .bool true)] fun TA => ?_
                refine W.ret ?_
                refine endG (by rfl) (by exact resL_cell rfl (H.get 0 rfl) (by rw [uT_eq]; exact Tryz.underlying70) (by kernel_rfl) rfl rfl (by exact resL_tmp rfl)) ?_
                exact ⟨3, max (-2305843009213693952) (min ((n * 10) - d) 2305843009213693951), false, true, rfl, .inr (.inr (.inr ⟨rfl, by omega, by omega⟩)), (H.del 0)⟩
          · have hc57b := hc57
            have hc57 := of_decide_eq_false hc57
            refine W.skip ?_
            refine W.seq ?_
            refine W.drawn (by kernel_rfl) (by kernel_rfl) H.gn ?_
            have H93 := H
            refine RW.ld H93 2 1 ?_
            refine RW.v ?_
            refine RW.cl ?_
            refine WC.enter (fn := Tryz.f116) Tryz.func116 rfl ?_
            replace H := H93
            refine W.rg [(0, .int .i64 n), (1, .int .i64 10)] fun TA => ?_
            refine W.seq (W.region ?_)
            refine RW.v ?_
            refine RW.nil ?_
            refine W.rg [(0, .int .i64 n), (1, .int .i64 10)] fun TA => ?_
            refine W.seq ?_
            refine W.seq (W.region ?_)
            iterate 2 refine RW.v ?_
            refine RW.valE (v' := .int .i64 230584300921369395) (by kernel_rfl) (by kernel_rfl) rfl (by kernel_rfl) (by kernel_rfl) ?_
            iterate 2 refine RW.v ?_
            refine RW.both _ _ rfl rfl rfl (fun hc94 => ?_) (fun hc94 => ?_)
            · have hc94b := hc94
              have hc94 := of_decide_eq_true hc94
              refine RW.skip (by rfl) (by kernel_rfl) ?_
              refine RW.skip (by rfl) (by kernel_rfl) ?_
              refine RW.skip (by rfl) (by kernel_rfl) ?_
              refine RW.skip (by rfl) (by kernel_rfl) ?_
              refine RW.v ?_
              refine RW.nil ?_
              refine W.rg [(0, .int .i64 n), (1, .int .i64 10), (14, .bool true)] fun TA => ?_
              refine W.c1 ?_
              refine W.seq ?_
              refine W.seq (W.region ?_)
              iterate 2 refine RW.v ?_
              refine RW.nil ?_
              refine W.rg [(16, .bool (decide (n > 0)))] fun TA => ?_
              refine W.cond rfl (fun hc95 => ?_) (fun hc95 => ?_)
              · have hc95b := hc95
                have hc95 := of_decide_eq_true hc95
                refine W.seq (W.region ?_)
                refine RW.v ?_
                refine RW.nil ?_
                refine W.rg [(4, .int .i64 2305843009213693951)] fun TA => ?_
                refine W.ret ?_
                refine seqQ_ret ?_
                refine seqQ_ret ?_
                refine endG (by rfl) (by exact resL_tmp rfl) ?_
                have H96 := H
                refine RW.ld H96 3 1 ?_
                refine RW.valE (v' := .int .i64 (2305843009213693951 + d)) (by kernel_rfl) (by kernel_rfl) rfl (congrArg (Value.int .i64) (wrap_in (by omega) (by omega))) (by kernel_rfl) ?_
                refine RW.cl ?_
                refine WC.enter (fn := Tryz.f119) Tryz.func119 rfl ?_
                replace H := H96
                refine W.rg [(0, .int .i64 (2305843009213693951 + d))] fun TA => ?_
                refine W.seq (W.region ?_)
                refine RW.mk H (.row ⟨[.int .i64 0, .int .i64 0, .bool false], 70, false⟩) ?_
                clear H; intro _ b97 _ H
                refine RW.nil ?_
                refine W.rg [(0, .int .i64 (2305843009213693951 + d)), (2, .pointer (some ⟨b97, 0, none⟩))] fun TA => ?_
                refine W.seq (W.region ?_)
                refine RW.v ?_
                refine RW.cl ?_
                refine WC.enter (fn := Tryz.f83) Tryz.func83 rfl ?_
                refine W.rg [(0, .int .i64 (2305843009213693951 + d))] fun TA => ?_
                refine W.seq (W.region ?_)
                refine RW.v ?_
                refine RW.nil ?_
                refine W.rg [(0, .int .i64 (2305843009213693951 + d))] fun TA => ?_
                refine W.seq (W.region ?_)
                refine RW.v ?_
                refine RW.vop (v := .int .i64 (min (2305843009213693951 + d) 2305843009213693951)) (by kernel_rfl) (by kernel_rfl) (vop_min rfl rfl rfl rfl rfl) (by kernel_rfl) ?_
                refine RW.vop (v := .int .i64 (max (-2305843009213693952) (min (2305843009213693951 + d) 2305843009213693951))) (by kernel_rfl) (by kernel_rfl) (vop_max rfl rfl rfl rfl rfl) (by kernel_rfl) ?_
                refine RW.v ?_
                refine RW.nil ?_
                refine W.rg [(2, .int .i64 (max (-2305843009213693952) (min (2305843009213693951 + d) 2305843009213693951)))] fun TA => ?_
                refine W.ret ?_
                refine endG (by rfl) (by exact resL_tmp rfl) ?_
                refine RW.val (v := .agg #[.int .i64 3, .int .i64 (max (-2305843009213693952) (min (2305843009213693951 + d) 2305843009213693951)), .bool false]) (by kernel_rfl) (by kernel_rfl) (by kernel_rfl) (by kernel_rfl) ?_
                refine RW.st H 0 [.int .i64 3, .int .i64 (max (-2305843009213693952) (min (2305843009213693951 + d) 2305843009213693951)), .bool false] [.int .i64 3, .int .i64 (max (-2305843009213693952) (min (2305843009213693951 + d) 2305843009213693951)), .bool false] ?_
                clear H; intro _ _ H; dsimp only [setL, delL] at H
                refine RW.nil ?_
                refine W.rg [(2, .pointer (some ⟨b97, 0, none⟩))] fun TA => ?_
                refine W.ret ?_
                refine endG (by rfl) (by exact resL_cell rfl (H.get 0 rfl) (by rw [uT_eq]; exact Tryz.underlying70) (by kernel_rfl) rfl rfl rfl) ?_
                have H98 := H
                refine RW.stD H98 1 (vs := [.int .i64 3, .int .i64 (max (-2305843009213693952) (min (2305843009213693951 + d) 2305843009213693951)), .bool false]) (cs' := [.int .i64 3, .int .i64 (max (-2305843009213693952) (min (2305843009213693951 + d) 2305843009213693951)), .bool false]) (by kernel_rfl) (by kernel_rfl) rfl rfl rfl rfl rfl (by kernel_rfl) (Nat.le_of_ble_eq_true rfl) rfl (by kernel_rfl) ?_
                intro _ H99
                dsimp only [setL, delL] at H99
                refine RW.nil ?_
                refine ⟨⟨by kernel_rfl, ⟨dyn_row (H93.get 2 rfl) (H99.get 3 rfl) ⟨fun h => Bool.noConfusion h, fun h => Bool.noConfusion h, fun _ => H93.get 2 rfl, fun h => Bool.noConfusion h, fun h => Bool.noConfusion h, fun _ => H96.get 2 rfl, fun _ => H98.get 3 rfl, trivial⟩, trivial, trivial, dyn_row (H96.get 3 rfl) (H99.get 4 rfl) ⟨fun h => Bool.noConfusion h, fun h => Bool.noConfusion h, fun _ => H93.get 3 rfl, fun h => Bool.noConfusion h, fun h => Bool.noConfusion h, fun _ => H96.get 3 rfl, fun _ => H98.get 4 rfl, trivial⟩, trivial, trivial, trivial, trivial⟩⟩, ?_⟩
                replace H := H99
                clear H93 H96 H98 H99
                replace H := (H.del 0)
                dsimp only [setL, delL] at H
                refine W.rg [(4, .pointer (some ⟨b56, 0, none⟩))] fun TA => ?_
                refine W.ret ?_
                refine endG (by rfl) (by exact resL_cell rfl (H.get 0 rfl) (by rw [uT_eq]; exact Tryz.underlying70) (by kernel_rfl) rfl rfl rfl) ?_
                have H100 := H
                refine RW.stD H100 5 (vs := [.int .i64 3, .int .i64 (max (-2305843009213693952) (min (2305843009213693951 + d) 2305843009213693951)), .bool false]) (cs' := [.int .i64 3, .int .i64 (max (-2305843009213693952) (min (2305843009213693951 + d) 2305843009213693951)), .bool false]) (by kernel_rfl) (by kernel_rfl) rfl rfl rfl rfl rfl (by kernel_rfl) (Nat.le_of_ble_eq_true rfl) rfl (by kernel_rfl) ?_
                intro _ H101
                dsimp only [setL, delL] at H101
                refine RW.v ?_
                refine RW.nil ?_
                refine ⟨⟨by kernel_rfl, ⟨trivial, trivial, trivial, dyn_row (H55.get 3 rfl) (H101.get 4 rfl) ⟨fun h => Bool.noConfusion h, fun _ => H51.get 0 rfl, fun h => Bool.noConfusion h, fun h => Bool.noConfusion h, fun _ => H55.get 3 rfl, fun h => Bool.noConfusion h, fun h => Bool.noConfusion h, fun _ => H55.get 3 rfl, fun _ => H100.get 4 rfl, fun h => Bool.noConfusion h, trivial⟩, trivial, trivial, dyn_row (H55.get 3 rfl) (H101.get 4 rfl) ⟨fun h => Bool.noConfusion h, fun _ => H51.get 0 rfl, fun h => Bool.noConfusion h, fun h => Bool.noConfusion h, fun _ => H55.get 3 rfl, fun h => Bool.noConfusion h, fun h => Bool.noConfusion h, fun _ => H55.get 3 rfl, fun _ => H100.get 4 rfl, fun h => Bool.noConfusion h, trivial⟩, trivial, trivial, trivial, trivial⟩⟩, ?_⟩
                replace H := H101
                clear H51 H55 H100 H101
                replace H := ((((((H.del 6).del 4).del 3).del 2).del 1).del 0)
                dsimp only [setL, delL] at H
                refine W.rg [(4, .pointer (some ⟨b47, 0, none⟩)), (5, .bool true)] fun TA => ?_
                refine W.ret ?_
                refine endG (by rfl) (by exact resL_cell rfl (H.get 0 rfl) (by rw [uT_eq]; exact Tryz.underlying70) (by kernel_rfl) rfl rfl (by exact resL_tmp rfl)) ?_
                exact ⟨3, max (-2305843009213693952) (min (2305843009213693951 + d) 2305843009213693951), false, true, rfl, .inr (.inr (.inr ⟨rfl, by omega, by omega⟩)), (H.del 0)⟩
              · have hc95b := hc95
                have hc95 := of_decide_eq_false hc95
                refine W.skip ?_
                refine W.seq (W.region ?_)
                refine RW.v ?_
                refine RW.nil ?_
                refine W.rg [(4, .int .i64 (-2305843009213693952))] fun TA => ?_
                refine W.ret ?_
                refine seqQ_ret ?_
                refine endG (by rfl) (by exact resL_tmp rfl) ?_
                have H102 := H
                refine RW.ld H102 3 1 ?_
                refine RW.valE (v' := .int .i64 ((-2305843009213693952) + d)) (by kernel_rfl) (by kernel_rfl) rfl (congrArg (Value.int .i64) (wrap_in (by omega) (by omega))) (by kernel_rfl) ?_
                refine RW.cl ?_
                refine WC.enter (fn := Tryz.f119) Tryz.func119 rfl ?_
                replace H := H102
                refine W.rg [(0, .int .i64 ((-2305843009213693952) + d))] fun TA => ?_
                refine W.seq (W.region ?_)
                refine RW.mk H (.row ⟨[.int .i64 0, .int .i64 0, .bool false], 70, false⟩) ?_
                clear H; intro _ b103 _ H
                refine RW.nil ?_
                refine W.rg [(0, .int .i64 ((-2305843009213693952) + d)), (2, .pointer (some ⟨b103, 0, none⟩))] fun TA => ?_
                refine W.seq (W.region ?_)
                refine RW.v ?_
                refine RW.cl ?_
                refine WC.enter (fn := Tryz.f83) Tryz.func83 rfl ?_
                refine W.rg [(0, .int .i64 ((-2305843009213693952) + d))] fun TA => ?_
                refine W.seq (W.region ?_)
                refine RW.v ?_
                refine RW.nil ?_
                refine W.rg [(0, .int .i64 ((-2305843009213693952) + d))] fun TA => ?_
                refine W.seq (W.region ?_)
                refine RW.v ?_
                refine RW.vop (v := .int .i64 (min ((-2305843009213693952) + d) 2305843009213693951)) (by kernel_rfl) (by kernel_rfl) (vop_min rfl rfl rfl rfl rfl) (by kernel_rfl) ?_
                refine RW.vop (v := .int .i64 (max (-2305843009213693952) (min ((-2305843009213693952) + d) 2305843009213693951))) (by kernel_rfl) (by kernel_rfl) (vop_max rfl rfl rfl rfl rfl) (by kernel_rfl) ?_
                refine RW.v ?_
                refine RW.nil ?_
                refine W.rg [(2, .int .i64 (max (-2305843009213693952) (min ((-2305843009213693952) + d) 2305843009213693951)))] fun TA => ?_
                refine W.ret ?_
                refine endG (by rfl) (by exact resL_tmp rfl) ?_
                refine RW.val (v := .agg #[.int .i64 3, .int .i64 (max (-2305843009213693952) (min ((-2305843009213693952) + d) 2305843009213693951)), .bool false]) (by kernel_rfl) (by kernel_rfl) (by kernel_rfl) (by kernel_rfl) ?_
                refine RW.st H 0 [.int .i64 3, .int .i64 (max (-2305843009213693952) (min ((-2305843009213693952) + d) 2305843009213693951)), .bool false] [.int .i64 3, .int .i64 (max (-2305843009213693952) (min ((-2305843009213693952) + d) 2305843009213693951)), .bool false] ?_
                clear H; intro _ _ H; dsimp only [setL, delL] at H
                refine RW.nil ?_
                refine W.rg [(2, .pointer (some ⟨b103, 0, none⟩))] fun TA => ?_
                refine W.ret ?_
                refine endG (by rfl) (by exact resL_cell rfl (H.get 0 rfl) (by rw [uT_eq]; exact Tryz.underlying70) (by kernel_rfl) rfl rfl rfl) ?_
                have H104 := H
                refine RW.stD H104 1 (vs := [.int .i64 3, .int .i64 (max (-2305843009213693952) (min ((-2305843009213693952) + d) 2305843009213693951)), .bool false]) (cs' := [.int .i64 3, .int .i64 (max (-2305843009213693952) (min ((-2305843009213693952) + d) 2305843009213693951)), .bool false]) (by kernel_rfl) (by kernel_rfl) rfl rfl rfl rfl rfl (by kernel_rfl) (Nat.le_of_ble_eq_true rfl) rfl (by kernel_rfl) ?_
                intro _ H105
                dsimp only [setL, delL] at H105
                refine RW.nil ?_
                refine ⟨⟨by kernel_rfl, ⟨dyn_row (H93.get 2 rfl) (H105.get 3 rfl) ⟨fun h => Bool.noConfusion h, fun h => Bool.noConfusion h, fun _ => H93.get 2 rfl, fun h => Bool.noConfusion h, fun h => Bool.noConfusion h, fun _ => H102.get 2 rfl, fun _ => H104.get 3 rfl, trivial⟩, trivial, trivial, dyn_row (H102.get 3 rfl) (H105.get 4 rfl) ⟨fun h => Bool.noConfusion h, fun h => Bool.noConfusion h, fun _ => H93.get 3 rfl, fun h => Bool.noConfusion h, fun h => Bool.noConfusion h, fun _ => H102.get 3 rfl, fun _ => H104.get 4 rfl, trivial⟩, trivial, trivial, trivial, trivial⟩⟩, ?_⟩
                replace H := H105
                clear H93 H102 H104 H105
                replace H := (H.del 0)
                dsimp only [setL, delL] at H
                refine W.rg [(4, .pointer (some ⟨b56, 0, none⟩))] fun TA => ?_
                refine W.ret ?_
                refine endG (by rfl) (by exact resL_cell rfl (H.get 0 rfl) (by rw [uT_eq]; exact Tryz.underlying70) (by kernel_rfl) rfl rfl rfl) ?_
                have H106 := H
                refine RW.stD H106 5 (vs := [.int .i64 3, .int .i64 (max (-2305843009213693952) (min ((-2305843009213693952) + d) 2305843009213693951)), .bool false]) (cs' := [.int .i64 3, .int .i64 (max (-2305843009213693952) (min ((-2305843009213693952) + d) 2305843009213693951)), .bool false]) (by kernel_rfl) (by kernel_rfl) rfl rfl rfl rfl rfl (by kernel_rfl) (Nat.le_of_ble_eq_true rfl) rfl (by kernel_rfl) ?_
                intro _ H107
                dsimp only [setL, delL] at H107
                refine RW.v ?_
                refine RW.nil ?_
                refine ⟨⟨by kernel_rfl, ⟨trivial, trivial, trivial, dyn_row (H55.get 3 rfl) (H107.get 4 rfl) ⟨fun h => Bool.noConfusion h, fun _ => H51.get 0 rfl, fun h => Bool.noConfusion h, fun h => Bool.noConfusion h, fun _ => H55.get 3 rfl, fun h => Bool.noConfusion h, fun h => Bool.noConfusion h, fun _ => H55.get 3 rfl, fun _ => H106.get 4 rfl, fun h => Bool.noConfusion h, trivial⟩, trivial, trivial, dyn_row (H55.get 3 rfl) (H107.get 4 rfl) ⟨fun h => Bool.noConfusion h, fun _ => H51.get 0 rfl, fun h => Bool.noConfusion h, fun h => Bool.noConfusion h, fun _ => H55.get 3 rfl, fun h => Bool.noConfusion h, fun h => Bool.noConfusion h, fun _ => H55.get 3 rfl, fun _ => H106.get 4 rfl, fun h => Bool.noConfusion h, trivial⟩, trivial, trivial, trivial, trivial⟩⟩, ?_⟩
                replace H := H107
                clear H51 H55 H106 H107
                replace H := ((((((H.del 6).del 4).del 3).del 2).del 1).del 0)
                dsimp only [setL, delL] at H
                refine W.rg [(4, .pointer (some ⟨b47, 0, none⟩)), (5, .bool true)] fun TA => ?_
                refine W.ret ?_
                refine endG (by rfl) (by exact resL_cell rfl (H.get 0 rfl) (by rw [uT_eq]; exact Tryz.underlying70) (by kernel_rfl) rfl rfl (by exact resL_tmp rfl)) ?_
                exact ⟨3, max (-2305843009213693952) (min ((-2305843009213693952) + d) 2305843009213693951), false, true, rfl, .inr (.inr (.inr ⟨rfl, by omega, by omega⟩)), (H.del 0)⟩
            · have hc94b := hc94
              have hc94 := of_decide_eq_false hc94
              refine RW.val (by rfl) (by kernel_rfl) rfl (by kernel_rfl) ?_
              refine RW.val (by rfl) (by kernel_rfl) rfl (by kernel_rfl) ?_
              refine RW.valE (v' := .int .i64 (-230584300921369395)) (by rfl) (by kernel_rfl) rfl (by kernel_rfl) (by kernel_rfl) ?_
              refine RW.val (by rfl) (by kernel_rfl) rfl (by kernel_rfl) ?_
              refine RW.v ?_
              refine RW.nil ?_
              refine W.rg [(0, .int .i64 n), (1, .int .i64 10), (14, .bool (decide (n < (-230584300921369395))))] fun TA => ?_
              refine W.cond rfl (fun hc108 => ?_) (fun hc108 => ?_)
              · have hc108b := hc108
                have hc108 := of_decide_eq_true hc108
                refine W.seq ?_
                refine W.seq (W.region ?_)
                iterate 2 refine RW.v ?_
                refine RW.nil ?_
                refine W.rg [(16, .bool (decide (n > 0)))] fun TA => ?_
                refine W.cond rfl (fun hc109 => ?_) (fun hc109 => ?_)
                · have hc109b := hc109
                  have hc109 := of_decide_eq_true hc109
                  refine W.seq (W.region ?_)
                  refine RW.v ?_
                  refine RW.nil ?_
                  refine W.rg [(4, .int .i64 2305843009213693951)] fun TA => ?_
                  refine W.ret ?_
                  refine seqQ_ret ?_
                  refine seqQ_ret ?_
                  refine endG (by rfl) (by exact resL_tmp rfl) ?_
                  have H110 := H
                  refine RW.ld H110 3 1 ?_
                  refine RW.valE (v' := .int .i64 (2305843009213693951 + d)) (by kernel_rfl) (by kernel_rfl) rfl (congrArg (Value.int .i64) (wrap_in (by omega) (by omega))) (by kernel_rfl) ?_
                  refine RW.cl ?_
                  refine WC.enter (fn := Tryz.f119) Tryz.func119 rfl ?_
                  replace H := H110
                  refine W.rg [(0, .int .i64 (2305843009213693951 + d))] fun TA => ?_
                  refine W.seq (W.region ?_)
                  refine RW.mk H (.row ⟨[.int .i64 0, .int .i64 0, .bool false], 70, false⟩) ?_
                  clear H; intro _ b111 _ H
                  refine RW.nil ?_
                  refine W.rg [(0, .int .i64 (2305843009213693951 + d)), (2, .pointer (some ⟨b111, 0, none⟩))] fun TA => ?_
                  refine W.seq (W.region ?_)
                  refine RW.v ?_
                  refine RW.cl ?_
                  refine WC.enter (fn := Tryz.f83) Tryz.func83 rfl ?_
                  refine W.rg [(0, .int .i64 (2305843009213693951 + d))] fun TA => ?_
                  refine W.seq (W.region ?_)
                  refine RW.v ?_
                  refine RW.nil ?_
                  refine W.rg [(0, .int .i64 (2305843009213693951 + d))] fun TA => ?_
                  refine W.seq (W.region ?_)
                  refine RW.v ?_
                  refine RW.vop (v := .int .i64 (min (2305843009213693951 + d) 2305843009213693951)) (by kernel_rfl) (by kernel_rfl) (vop_min rfl rfl rfl rfl rfl) (by kernel_rfl) ?_
                  refine RW.vop (v := .int .i64 (max (-2305843009213693952) (min (2305843009213693951 + d) 2305843009213693951))) (by kernel_rfl) (by kernel_rfl) (vop_max rfl rfl rfl rfl rfl) (by kernel_rfl) ?_
                  refine RW.v ?_
                  refine RW.nil ?_
                  refine W.rg [(2, .int .i64 (max (-2305843009213693952) (min (2305843009213693951 + d) 2305843009213693951)))] fun TA => ?_
                  refine W.ret ?_
                  refine endG (by rfl) (by exact resL_tmp rfl) ?_
                  refine RW.val (v := .agg #[.int .i64 3, .int .i64 (max (-2305843009213693952) (min (2305843009213693951 + d) 2305843009213693951)), .bool false]) (by kernel_rfl) (by kernel_rfl) (by kernel_rfl) (by kernel_rfl) ?_
                  refine RW.st H 0 [.int .i64 3, .int .i64 (max (-2305843009213693952) (min (2305843009213693951 + d) 2305843009213693951)), .bool false] [.int .i64 3, .int .i64 (max (-2305843009213693952) (min (2305843009213693951 + d) 2305843009213693951)), .bool false] ?_
                  clear H; intro _ _ H; dsimp only [setL, delL] at H
                  refine RW.nil ?_
                  refine W.rg [(2, .pointer (some ⟨b111, 0, none⟩))] fun TA => ?_
                  refine W.ret ?_
                  refine endG (by rfl) (by exact resL_cell rfl (H.get 0 rfl) (by rw [uT_eq]; exact Tryz.underlying70) (by kernel_rfl) rfl rfl rfl) ?_
                  have H112 := H
                  refine RW.stD H112 1 (vs := [.int .i64 3, .int .i64 (max (-2305843009213693952) (min (2305843009213693951 + d) 2305843009213693951)), .bool false]) (cs' := [.int .i64 3, .int .i64 (max (-2305843009213693952) (min (2305843009213693951 + d) 2305843009213693951)), .bool false]) (by kernel_rfl) (by kernel_rfl) rfl rfl rfl rfl rfl (by kernel_rfl) (Nat.le_of_ble_eq_true rfl) rfl (by kernel_rfl) ?_
                  intro _ H113
                  dsimp only [setL, delL] at H113
                  refine RW.nil ?_
                  refine ⟨⟨by kernel_rfl, ⟨dyn_row (H93.get 2 rfl) (H113.get 3 rfl) ⟨fun h => Bool.noConfusion h, fun h => Bool.noConfusion h, fun _ => H93.get 2 rfl, fun h => Bool.noConfusion h, fun h => Bool.noConfusion h, fun _ => H110.get 2 rfl, fun _ => H112.get 3 rfl, trivial⟩, trivial, trivial, dyn_row (H110.get 3 rfl) (H113.get 4 rfl) ⟨fun h => Bool.noConfusion h, fun h => Bool.noConfusion h, fun _ => H93.get 3 rfl, fun h => Bool.noConfusion h, fun h => Bool.noConfusion h, fun _ => H110.get 3 rfl, fun _ => H112.get 4 rfl, trivial⟩, trivial, trivial, trivial, trivial⟩⟩, ?_⟩
                  replace H := H113
                  clear H93 H110 H112 H113
                  replace H := (H.del 0)
                  dsimp only [setL, delL] at H
                  refine W.rg [(4, .pointer (some ⟨b56, 0, none⟩))] fun TA => ?_
                  refine W.ret ?_
                  refine endG (by rfl) (by exact resL_cell rfl (H.get 0 rfl) (by rw [uT_eq]; exact Tryz.underlying70) (by kernel_rfl) rfl rfl rfl) ?_
                  have H114 := H
                  refine RW.stD H114 5 (vs := [.int .i64 3, .int .i64 (max (-2305843009213693952) (min (2305843009213693951 + d) 2305843009213693951)), .bool false]) (cs' := [.int .i64 3, .int .i64 (max (-2305843009213693952) (min (2305843009213693951 + d) 2305843009213693951)), .bool false]) (by kernel_rfl) (by kernel_rfl) rfl rfl rfl rfl rfl (by kernel_rfl) (Nat.le_of_ble_eq_true rfl) rfl (by kernel_rfl) ?_
                  intro _ H115
                  dsimp only [setL, delL] at H115
                  refine RW.v ?_
                  refine RW.nil ?_
                  refine ⟨⟨by kernel_rfl, ⟨trivial, trivial, trivial, dyn_row (H55.get 3 rfl) (H115.get 4 rfl) ⟨fun h => Bool.noConfusion h, fun _ => H51.get 0 rfl, fun h => Bool.noConfusion h, fun h => Bool.noConfusion h, fun _ => H55.get 3 rfl, fun h => Bool.noConfusion h, fun h => Bool.noConfusion h, fun _ => H55.get 3 rfl, fun _ => H114.get 4 rfl, fun h => Bool.noConfusion h, trivial⟩, trivial, trivial, dyn_row (H55.get 3 rfl) (H115.get 4 rfl) ⟨fun h => Bool.noConfusion h, fun _ => H51.get 0 rfl, fun h => Bool.noConfusion h, fun h => Bool.noConfusion h, fun _ => H55.get 3 rfl, fun h => Bool.noConfusion h, fun h => Bool.noConfusion h, fun _ => H55.get 3 rfl, fun _ => H114.get 4 rfl, fun h => Bool.noConfusion h, trivial⟩, trivial, trivial, trivial, trivial⟩⟩, ?_⟩
                  replace H := H115
                  clear H51 H55 H114 H115
                  replace H := ((((((H.del 6).del 4).del 3).del 2).del 1).del 0)
                  dsimp only [setL, delL] at H
                  refine W.rg [(4, .pointer (some ⟨b47, 0, none⟩)), (5, .bool true)] fun TA => ?_
                  refine W.ret ?_
                  refine endG (by rfl) (by exact resL_cell rfl (H.get 0 rfl) (by rw [uT_eq]; exact Tryz.underlying70) (by kernel_rfl) rfl rfl (by exact resL_tmp rfl)) ?_
                  exact ⟨3, max (-2305843009213693952) (min (2305843009213693951 + d) 2305843009213693951), false, true, rfl, .inr (.inr (.inr ⟨rfl, by omega, by omega⟩)), (H.del 0)⟩
                · have hc109b := hc109
                  have hc109 := of_decide_eq_false hc109
                  refine W.skip ?_
                  refine W.seq (W.region ?_)
                  refine RW.v ?_
                  refine RW.nil ?_
                  refine W.rg [(4, .int .i64 (-2305843009213693952))] fun TA => ?_
                  refine W.ret ?_
                  refine seqQ_ret ?_
                  refine endG (by rfl) (by exact resL_tmp rfl) ?_
                  have H116 := H
                  refine RW.ld H116 3 1 ?_
                  refine RW.valE (v' := .int .i64 ((-2305843009213693952) + d)) (by kernel_rfl) (by kernel_rfl) rfl (congrArg (Value.int .i64) (wrap_in (by omega) (by omega))) (by kernel_rfl) ?_
                  refine RW.cl ?_
                  refine WC.enter (fn := Tryz.f119) Tryz.func119 rfl ?_
                  replace H := H116
                  refine W.rg [(0, .int .i64 ((-2305843009213693952) + d))] fun TA => ?_
                  refine W.seq (W.region ?_)
                  refine RW.mk H (.row ⟨[.int .i64 0, .int .i64 0, .bool false], 70, false⟩) ?_
                  clear H; intro _ b117 _ H
                  refine RW.nil ?_
                  refine W.rg [(0, .int .i64 ((-2305843009213693952) + d)), (2, .pointer (some ⟨b117, 0, none⟩))] fun TA => ?_
                  refine W.seq (W.region ?_)
                  refine RW.v ?_
                  refine RW.cl ?_
                  refine WC.enter (fn := Tryz.f83) Tryz.func83 rfl ?_
                  refine W.rg [(0, .int .i64 ((-2305843009213693952) + d))] fun TA => ?_
                  refine W.seq (W.region ?_)
                  refine RW.v ?_
                  refine RW.nil ?_
                  refine W.rg [(0, .int .i64 ((-2305843009213693952) + d))] fun TA => ?_
                  refine W.seq (W.region ?_)
                  refine RW.v ?_
                  refine RW.vop (v := .int .i64 (min ((-2305843009213693952) + d) 2305843009213693951)) (by kernel_rfl) (by kernel_rfl) (vop_min rfl rfl rfl rfl rfl) (by kernel_rfl) ?_
                  refine RW.vop (v := .int .i64 (max (-2305843009213693952) (min ((-2305843009213693952) + d) 2305843009213693951))) (by kernel_rfl) (by kernel_rfl) (vop_max rfl rfl rfl rfl rfl) (by kernel_rfl) ?_
                  refine RW.v ?_
                  refine RW.nil ?_
                  refine W.rg [(2, .int .i64 (max (-2305843009213693952) (min ((-2305843009213693952) + d) 2305843009213693951)))] fun TA => ?_
                  refine W.ret ?_
                  refine endG (by rfl) (by exact resL_tmp rfl) ?_
                  refine RW.val (v := .agg #[.int .i64 3, .int .i64 (max (-2305843009213693952) (min ((-2305843009213693952) + d) 2305843009213693951)), .bool false]) (by kernel_rfl) (by kernel_rfl) (by kernel_rfl) (by kernel_rfl) ?_
                  refine RW.st H 0 [.int .i64 3, .int .i64 (max (-2305843009213693952) (min ((-2305843009213693952) + d) 2305843009213693951)), .bool false] [.int .i64 3, .int .i64 (max (-2305843009213693952) (min ((-2305843009213693952) + d) 2305843009213693951)), .bool false] ?_
                  clear H; intro _ _ H; dsimp only [setL, delL] at H
                  refine RW.nil ?_
                  refine W.rg [(2, .pointer (some ⟨b117, 0, none⟩))] fun TA => ?_
                  refine W.ret ?_
                  refine endG (by rfl) (by exact resL_cell rfl (H.get 0 rfl) (by rw [uT_eq]; exact Tryz.underlying70) (by kernel_rfl) rfl rfl rfl) ?_
                  have H118 := H
                  refine RW.stD H118 1 (vs := [.int .i64 3, .int .i64 (max (-2305843009213693952) (min ((-2305843009213693952) + d) 2305843009213693951)), .bool false]) (cs' := [.int .i64 3, .int .i64 (max (-2305843009213693952) (min ((-2305843009213693952) + d) 2305843009213693951)), .bool false]) (by kernel_rfl) (by kernel_rfl) rfl rfl rfl rfl rfl (by kernel_rfl) (Nat.le_of_ble_eq_true rfl) rfl (by kernel_rfl) ?_
                  intro _ H119
                  dsimp only [setL, delL] at H119
                  refine RW.nil ?_
                  refine ⟨⟨by kernel_rfl, ⟨dyn_row (H93.get 2 rfl) (H119.get 3 rfl) ⟨fun h => Bool.noConfusion h, fun h => Bool.noConfusion h, fun _ => H93.get 2 rfl, fun h => Bool.noConfusion h, fun h => Bool.noConfusion h, fun _ => H116.get 2 rfl, fun _ => H118.get 3 rfl, trivial⟩, trivial, trivial, dyn_row (H116.get 3 rfl) (H119.get 4 rfl) ⟨fun h => Bool.noConfusion h, fun h => Bool.noConfusion h, fun _ => H93.get 3 rfl, fun h => Bool.noConfusion h, fun h => Bool.noConfusion h, fun _ => H116.get 3 rfl, fun _ => H118.get 4 rfl, trivial⟩, trivial, trivial, trivial, trivial⟩⟩, ?_⟩
                  replace H := H119
                  clear H93 H116 H118 H119
                  replace H := (H.del 0)
                  dsimp only [setL, delL] at H
                  refine W.rg [(4, .pointer (some ⟨b56, 0, none⟩))] fun TA => ?_
                  refine W.ret ?_
                  refine endG (by rfl) (by exact resL_cell rfl (H.get 0 rfl) (by rw [uT_eq]; exact Tryz.underlying70) (by kernel_rfl) rfl rfl rfl) ?_
                  have H120 := H
                  refine RW.stD H120 5 (vs := [.int .i64 3, .int .i64 (max (-2305843009213693952) (min ((-2305843009213693952) + d) 2305843009213693951)), .bool false]) (cs' := [.int .i64 3, .int .i64 (max (-2305843009213693952) (min ((-2305843009213693952) + d) 2305843009213693951)), .bool false]) (by kernel_rfl) (by kernel_rfl) rfl rfl rfl rfl rfl (by kernel_rfl) (Nat.le_of_ble_eq_true rfl) rfl (by kernel_rfl) ?_
                  intro _ H121
                  dsimp only [setL, delL] at H121
                  refine RW.v ?_
                  refine RW.nil ?_
                  refine ⟨⟨by kernel_rfl, ⟨trivial, trivial, trivial, dyn_row (H55.get 3 rfl) (H121.get 4 rfl) ⟨fun h => Bool.noConfusion h, fun _ => H51.get 0 rfl, fun h => Bool.noConfusion h, fun h => Bool.noConfusion h, fun _ => H55.get 3 rfl, fun h => Bool.noConfusion h, fun h => Bool.noConfusion h, fun _ => H55.get 3 rfl, fun _ => H120.get 4 rfl, fun h => Bool.noConfusion h, trivial⟩, trivial, trivial, dyn_row (H55.get 3 rfl) (H121.get 4 rfl) ⟨fun h => Bool.noConfusion h, fun _ => H51.get 0 rfl, fun h => Bool.noConfusion h, fun h => Bool.noConfusion h, fun _ => H55.get 3 rfl, fun h => Bool.noConfusion h, fun h => Bool.noConfusion h, fun _ => H55.get 3 rfl, fun _ => H120.get 4 rfl, fun h => Bool.noConfusion h, trivial⟩, trivial, trivial, trivial, trivial⟩⟩, ?_⟩
                  replace H := H121
                  clear H51 H55 H120 H121
                  replace H := ((((((H.del 6).del 4).del 3).del 2).del 1).del 0)
                  dsimp only [setL, delL] at H
                  refine W.rg [(4, .pointer (some ⟨b47, 0, none⟩)), (5, .bool true)] fun TA => ?_
                  refine W.ret ?_
                  refine endG (by rfl) (by exact resL_cell rfl (H.get 0 rfl) (by rw [uT_eq]; exact Tryz.underlying70) (by kernel_rfl) rfl rfl (by exact resL_tmp rfl)) ?_
                  exact ⟨3, max (-2305843009213693952) (min ((-2305843009213693952) + d) 2305843009213693951), false, true, rfl, .inr (.inr (.inr ⟨rfl, by omega, by omega⟩)), (H.del 0)⟩
              · have hc108b := hc108
                have hc108 := of_decide_eq_false hc108
                refine W.skip ?_
                refine W.seq (W.region ?_)
                iterate 2 refine RW.v ?_
                refine RW.valE (v' := .int .i64 (n * 10)) (by kernel_rfl) (by kernel_rfl) rfl (congrArg (Value.int .i64) (wrap_in (by omega) (by omega))) (by kernel_rfl) ?_
                refine RW.v ?_
                refine RW.nil ?_
                refine W.rg [(4, .int .i64 (n * 10))] fun TA => ?_
                refine W.ret ?_
                refine endG (by rfl) (by exact resL_tmp rfl) ?_
                have H122 := H
                refine RW.ld H122 3 1 ?_
                refine RW.valE (v' := .int .i64 ((n * 10) + d)) (by kernel_rfl) (by kernel_rfl) rfl (congrArg (Value.int .i64) (wrap_in (by omega) (by omega))) (by kernel_rfl) ?_
                refine RW.cl ?_
                refine WC.enter (fn := Tryz.f119) Tryz.func119 rfl ?_
                replace H := H122
                refine W.rg [(0, .int .i64 ((n * 10) + d))] fun TA => ?_
                refine W.seq (W.region ?_)
                refine RW.mk H (.row ⟨[.int .i64 0, .int .i64 0, .bool false], 70, false⟩) ?_
                clear H; intro _ b123 _ H
                refine RW.nil ?_
                refine W.rg [(0, .int .i64 ((n * 10) + d)), (2, .pointer (some ⟨b123, 0, none⟩))] fun TA => ?_
                refine W.seq (W.region ?_)
                refine RW.v ?_
                refine RW.cl ?_
                refine WC.enter (fn := Tryz.f83) Tryz.func83 rfl ?_
                refine W.rg [(0, .int .i64 ((n * 10) + d))] fun TA => ?_
                refine W.seq (W.region ?_)
                refine RW.v ?_
                refine RW.nil ?_
                refine W.rg [(0, .int .i64 ((n * 10) + d))] fun TA => ?_
                refine W.seq (W.region ?_)
                refine RW.v ?_
                refine RW.vop (v := .int .i64 (min ((n * 10) + d) 2305843009213693951)) (by kernel_rfl) (by kernel_rfl) (vop_min rfl rfl rfl rfl rfl) (by kernel_rfl) ?_
                refine RW.vop (v := .int .i64 (max (-2305843009213693952) (min ((n * 10) + d) 2305843009213693951))) (by kernel_rfl) (by kernel_rfl) (vop_max rfl rfl rfl rfl rfl) (by kernel_rfl) ?_
                refine RW.v ?_
                refine RW.nil ?_
                refine W.rg [(2, .int .i64 (max (-2305843009213693952) (min ((n * 10) + d) 2305843009213693951)))] fun TA => ?_
                refine W.ret ?_
                refine endG (by rfl) (by exact resL_tmp rfl) ?_
                refine RW.val (v := .agg #[.int .i64 3, .int .i64 (max (-2305843009213693952) (min ((n * 10) + d) 2305843009213693951)), .bool false]) (by kernel_rfl) (by kernel_rfl) (by kernel_rfl) (by kernel_rfl) ?_
                refine RW.st H 0 [.int .i64 3, .int .i64 (max (-2305843009213693952) (min ((n * 10) + d) 2305843009213693951)), .bool false] [.int .i64 3, .int .i64 (max (-2305843009213693952) (min ((n * 10) + d) 2305843009213693951)), .bool false] ?_
                clear H; intro _ _ H; dsimp only [setL, delL] at H
                refine RW.nil ?_
                refine W.rg [(2, .pointer (some ⟨b123, 0, none⟩))] fun TA => ?_
                refine W.ret ?_
                refine endG (by rfl) (by exact resL_cell rfl (H.get 0 rfl) (by rw [uT_eq]; exact Tryz.underlying70) (by kernel_rfl) rfl rfl rfl) ?_
                have H124 := H
                refine RW.stD H124 1 (vs := [.int .i64 3, .int .i64 (max (-2305843009213693952) (min ((n * 10) + d) 2305843009213693951)), .bool false]) (cs' := [.int .i64 3, .int .i64 (max (-2305843009213693952) (min ((n * 10) + d) 2305843009213693951)), .bool false]) (by kernel_rfl) (by kernel_rfl) rfl rfl rfl rfl rfl (by kernel_rfl) (Nat.le_of_ble_eq_true rfl) rfl (by kernel_rfl) ?_
                intro _ H125
                dsimp only [setL, delL] at H125
                refine RW.nil ?_
                refine ⟨⟨by kernel_rfl, ⟨dyn_row (H93.get 2 rfl) (H125.get 3 rfl) ⟨fun h => Bool.noConfusion h, fun h => Bool.noConfusion h, fun _ => H93.get 2 rfl, fun h => Bool.noConfusion h, fun h => Bool.noConfusion h, fun _ => H122.get 2 rfl, fun _ => H124.get 3 rfl, trivial⟩, trivial, trivial, dyn_row (H122.get 3 rfl) (H125.get 4 rfl) ⟨fun h => Bool.noConfusion h, fun h => Bool.noConfusion h, fun _ => H93.get 3 rfl, fun h => Bool.noConfusion h, fun h => Bool.noConfusion h, fun _ => H122.get 3 rfl, fun _ => H124.get 4 rfl, trivial⟩, trivial, trivial, trivial, trivial⟩⟩, ?_⟩
                replace H := H125
                clear H93 H122 H124 H125
                replace H := (H.del 0)
                dsimp only [setL, delL] at H
                refine W.rg [(4, .pointer (some ⟨b56, 0, none⟩))] fun TA => ?_
                refine W.ret ?_
                refine endG (by rfl) (by exact resL_cell rfl (H.get 0 rfl) (by rw [uT_eq]; exact Tryz.underlying70) (by kernel_rfl) rfl rfl rfl) ?_
                have H126 := H
                refine RW.stD H126 5 (vs := [.int .i64 3, .int .i64 (max (-2305843009213693952) (min ((n * 10) + d) 2305843009213693951)), .bool false]) (cs' := [.int .i64 3, .int .i64 (max (-2305843009213693952) (min ((n * 10) + d) 2305843009213693951)), .bool false]) (by kernel_rfl) (by kernel_rfl) rfl rfl rfl rfl rfl (by kernel_rfl) (Nat.le_of_ble_eq_true rfl) rfl (by kernel_rfl) ?_
                intro _ H127
                dsimp only [setL, delL] at H127
                refine RW.v ?_
                refine RW.nil ?_
                refine ⟨⟨by kernel_rfl, ⟨trivial, trivial, trivial, dyn_row (H55.get 3 rfl) (H127.get 4 rfl) ⟨fun h => Bool.noConfusion h, fun _ => H51.get 0 rfl, fun h => Bool.noConfusion h, fun h => Bool.noConfusion h, fun _ => H55.get 3 rfl, fun h => Bool.noConfusion h, fun h => Bool.noConfusion h, fun _ => H55.get 3 rfl, fun _ => H126.get 4 rfl, fun h => Bool.noConfusion h, trivial⟩, trivial, trivial, dyn_row (H55.get 3 rfl) (H127.get 4 rfl) ⟨fun h => Bool.noConfusion h, fun _ => H51.get 0 rfl, fun h => Bool.noConfusion h, fun h => Bool.noConfusion h, fun _ => H55.get 3 rfl, fun h => Bool.noConfusion h, fun h => Bool.noConfusion h, fun _ => H55.get 3 rfl, fun _ => H126.get 4 rfl, fun h => Bool.noConfusion h, trivial⟩, trivial, trivial, trivial, trivial⟩⟩, ?_⟩
                replace H := H127
                clear H51 H55 H126 H127
                replace H := ((((((H.del 6).del 4).del 3).del 2).del 1).del 0)
                dsimp only [setL, delL] at H
                refine W.rg [(4, .pointer (some ⟨b47, 0, none⟩)), (5, .bool true)] fun TA => ?_
                refine W.ret ?_
                refine endG (by rfl) (by exact resL_cell rfl (H.get 0 rfl) (by rw [uT_eq]; exact Tryz.underlying70) (by kernel_rfl) rfl rfl (by exact resL_tmp rfl)) ?_
                exact ⟨3, max (-2305843009213693952) (min ((n * 10) + d) 2305843009213693951), false, true, rfl, .inr (.inr (.inr ⟨rfl, by omega, by omega⟩)), (H.del 0)⟩
    · have H := Lies.start hG ha
      generalize σ0.get = F at H ⊢
      refine WC.enter (fn := Tryz.f35) Tryz.func35 rfl ?_
      refine W.rg [(0, .agg #[.int .i64 3, .int .i64 n, .bool true]), (1, .int .i64 d)] fun TA => ?_
      refine W.seq (W.region ?_)
      refine RW.mk H (.row ⟨[.int .i64 3, .int .i64 n, .bool true], 70, false⟩) ?_
      clear H; intro _ b128 _ H
      refine RW.mk H (.row ⟨[.int .i64 0, .int .i64 0, .bool false], 70, false⟩) ?_
      clear H; intro _ b129 _ H
      refine RW.v ?_
      refine RW.nil ?_
      refine W.rg [(1, .int .i64 d), (2, .pointer (some ⟨b128, 0, none⟩)), (4, .pointer (some ⟨b129, 0, none⟩))] fun TA => ?_
      refine W.seq (W.region ?_)
      refine RW.ld H 1 3 ?_
      refine RW.call (by kernel_rfl) (by kernel_rfl) rfl rfl rfl (by kernel_rfl) (by kernel_rfl) ((valid_wc (G := G) (k := 3) (n := n) (c := true) (.inr (.inr (.inr ⟨rfl, by omega, by omega⟩))) H).mono ?_)
      clear H
      rintro _ _ ⟨rfl, H⟩
      refine RW.mk H (.row ⟨[.int .i64 0, .int .i64 0, .bool false], 70, false⟩) ?_
      clear H; intro _ b130 _ H
      refine RW.st H 0 [.int .i64 3, .int .i64 n, .bool true] [.int .i64 3, .int .i64 n, .bool true] ?_
      clear H; intro _ _ H; dsimp only [setL, delL] at H
      refine RW.nil ?_
      refine W.rg [(1, .int .i64 d), (2, .pointer (some ⟨b128, 0, none⟩)), (4, .pointer (some ⟨b129, 0, none⟩)), (6, .pointer (some ⟨b130, 0, none⟩))] fun TA => ?_
      refine W.seq ?_
      refine W.seq (W.region ?_)
      refine RW.v ?_
      refine RW.ld H 0 1 ?_
      refine RW.v ?_
      refine RW.skip (by rfl) (by kernel_rfl) ?_
      refine RW.skip (by rfl) (by kernel_rfl) ?_
      iterate 2 refine RW.v ?_
      refine RW.skip (by rfl) (by kernel_rfl) ?_
      refine RW.skip (by rfl) (by kernel_rfl) ?_
      refine RW.v ?_
      refine RW.nil ?_
      refine W.rg [(1, .int .i64 d), (2, .pointer (some ⟨b128, 0, none⟩)), (4, .pointer (some ⟨b129, 0, none⟩)), (6, .pointer (some ⟨b130, 0, none⟩)), (18, .bool true)] fun TA => ?_
      refine W.c1 ?_
      refine W.seq (W.region ?_)
      refine RW.ld H 2 3 ?_
      refine RW.st H 1 [.int .i64 3, .int .i64 n, .bool true] [.int .i64 3, .int .i64 n, .bool true] ?_
      clear H; intro _ _ H; dsimp only [setL, delL] at H
      refine RW.v ?_
      refine RW.nil ?_
      replace H := ((H.del 2).del 0)
      dsimp only [setL, delL] at H
      refine W.rg [(4, .pointer (some ⟨b129, 0, none⟩)), (5, .bool false)] fun TA => ?_
      refine W.ret ?_
      refine seqQ_ret ?_
      refine endG (by rfl) (by exact resL_cell rfl (H.get 0 rfl) (by rw [uT_eq]; exact Tryz.underlying70) (by kernel_rfl) rfl rfl (by exact resL_tmp rfl)) ?_
      exact ⟨3, n, true, false, rfl, .inr (.inr (.inr ⟨rfl, by omega, by omega⟩)), (H.del 0)⟩
set_option maxHeartbeats 4000000 in
theorem minus_wc (hG : G ≤ σ0.next) (ha : σ0.abs = A) (hp : Pfx k n c) : WC G Tryz.prog 36 #[preV k n c] σ0 fun v σ' => ∃ k' n' c' b, v = .tuple #[preV k' n' c', .bool b] ∧ Pfx k' n' c' ∧ Lies G A σ0.get σ' [] := by
  rcases hp with ⟨rfl, rfl, rfl⟩ | ⟨rfl, h1, h2, rfl⟩ | ⟨rfl, rfl, rfl⟩ | ⟨rfl, h1, h2⟩
  · have H := Lies.start hG ha
    generalize σ0.get = F at H ⊢
    refine WC.enter (fn := Tryz.f36) Tryz.func36 rfl ?_
    refine W.rg [(0, .agg #[.int .i64 0, .int .i64 0, .bool false])] fun TA => ?_
    refine W.seq (W.region ?_)
    refine RW.mk H (.row ⟨[.int .i64 0, .int .i64 0, .bool false], 70, false⟩) ?_
    clear H; intro _ b1 _ H
    refine RW.mk H (.row ⟨[.int .i64 0, .int .i64 0, .bool false], 70, false⟩) ?_
    clear H; intro _ b2 _ H
    refine RW.v ?_
    refine RW.nil ?_
    refine W.rg [(1, .pointer (some ⟨b1, 0, none⟩)), (2, .pointer (some ⟨b2, 0, none⟩))] fun TA => ?_
    refine W.seq (W.region ?_)
    refine RW.ld H 1 3 ?_
    refine RW.call (by kernel_rfl) (by kernel_rfl) rfl rfl rfl (by kernel_rfl) (by kernel_rfl) ((valid_wc (G := G) (k := 0) (n := 0) (c := false) (.inl ⟨rfl, rfl, rfl⟩) H).mono ?_)
    clear H
    rintro _ _ ⟨rfl, H⟩
    refine RW.mk H (.row ⟨[.int .i64 0, .int .i64 0, .bool false], 70, false⟩) ?_
    clear H; intro _ b3 _ H
    refine RW.st H 0 [.int .i64 0, .int .i64 0, .bool false] [.int .i64 0, .int .i64 0, .bool false] ?_
    clear H; intro _ _ H; dsimp only [setL, delL] at H
    refine RW.nil ?_
    refine W.rg [(1, .pointer (some ⟨b1, 0, none⟩)), (2, .pointer (some ⟨b2, 0, none⟩)), (4, .pointer (some ⟨b3, 0, none⟩))] fun TA => ?_
    refine W.seq ?_
    refine W.seq (W.region ?_)
    refine RW.v ?_
    refine RW.ld H 0 1 ?_
    refine RW.nil ?_
    refine W.rg [(1, .pointer (some ⟨b1, 0, none⟩)), (2, .pointer (some ⟨b2, 0, none⟩)), (4, .pointer (some ⟨b3, 0, none⟩)), (8, .bool false)] fun TA => ?_
    refine W.c0 ?_
    refine W.skip ?_
    refine W.seq ?_
    refine W.seq (W.region ?_)
    refine RW.v ?_
    refine RW.ld H 0 1 ?_
    refine RW.nil ?_
    replace H := (H.del 2)
    dsimp only [setL, delL] at H
    refine W.rg [(2, .pointer (some ⟨b2, 0, none⟩)), (4, .pointer (some ⟨b3, 0, none⟩)), (11, .int .i64 0)] fun TA => ?_
    refine W.block ?_
    refine W.seq (W.region ?_)
    iterate 2 refine RW.v ?_
    refine RW.nil ?_
    refine W.rg [(2, .pointer (some ⟨b2, 0, none⟩)), (4, .pointer (some ⟨b3, 0, none⟩)), (11, .int .i64 0), (12, .bool false)] fun TA => ?_
    refine W.c0 ?_
    refine W.seq (W.region ?_)
    iterate 2 refine RW.v ?_
    refine RW.nil ?_
    replace H := (H.del 0)
    dsimp only [setL, delL] at H
    refine W.rg [(2, .pointer (some ⟨b2, 0, none⟩)), (19, .bool false)] fun TA => ?_
    refine W.c0 ?_
    refine W.skip ?_
    refine blkQ_normal ?_
    refine W.seq (W.region ?_)
    refine RW.val (v := .agg #[.int .i64 2, .int .i64 0, .bool false]) (by kernel_rfl) (by kernel_rfl) (by kernel_rfl) (by kernel_rfl) ?_
    refine RW.st H 0 [.int .i64 2, .int .i64 0, .bool false] [.int .i64 2, .int .i64 0, .bool false] ?_
    clear H; intro _ _ H; dsimp only [setL, delL] at H
    refine RW.v ?_
    refine RW.nil ?_
    refine W.rg [(2, .pointer (some ⟨b2, 0, none⟩)), (3, .bool true)] fun TA => ?_
    refine W.ret ?_
    refine endG (by rfl) (by exact resL_cell rfl (H.get 0 rfl) (by rw [uT_eq]; exact Tryz.underlying70) (by kernel_rfl) rfl rfl (by exact resL_tmp rfl)) ?_
    exact ⟨2, 0, false, true, rfl, .inr (.inr (.inl ⟨rfl, rfl, rfl⟩)), (H.del 0)⟩
  · have H := Lies.start hG ha
    generalize σ0.get = F at H ⊢
    refine WC.enter (fn := Tryz.f36) Tryz.func36 rfl ?_
    refine W.rg [(0, .agg #[.int .i64 1, .int .i64 n, .bool false])] fun TA => ?_
    refine W.seq (W.region ?_)
    refine RW.mk H (.row ⟨[.int .i64 1, .int .i64 n, .bool false], 70, false⟩) ?_
    clear H; intro _ b4 _ H
    refine RW.mk H (.row ⟨[.int .i64 0, .int .i64 0, .bool false], 70, false⟩) ?_
    clear H; intro _ b5 _ H
    refine RW.v ?_
    refine RW.nil ?_
    refine W.rg [(1, .pointer (some ⟨b4, 0, none⟩)), (2, .pointer (some ⟨b5, 0, none⟩))] fun TA => ?_
    refine W.seq (W.region ?_)
    refine RW.ld H 1 3 ?_
    refine RW.call (by kernel_rfl) (by kernel_rfl) rfl rfl rfl (by kernel_rfl) (by kernel_rfl) ((valid_wc (G := G) (k := 1) (n := n) (c := false) (.inr (.inl ⟨rfl, by omega, by omega, rfl⟩)) H).mono ?_)
    clear H
    rintro _ _ ⟨rfl, H⟩
    refine RW.mk H (.row ⟨[.int .i64 0, .int .i64 0, .bool false], 70, false⟩) ?_
    clear H; intro _ b6 _ H
    refine RW.st H 0 [.int .i64 1, .int .i64 n, .bool false] [.int .i64 1, .int .i64 n, .bool false] ?_
    clear H; intro _ _ H; dsimp only [setL, delL] at H
    refine RW.nil ?_
    refine W.rg [(1, .pointer (some ⟨b4, 0, none⟩)), (2, .pointer (some ⟨b5, 0, none⟩)), (4, .pointer (some ⟨b6, 0, none⟩))] fun TA => ?_
    refine W.seq ?_
    refine W.seq (W.region ?_)
    refine RW.v ?_
    refine RW.ld H 0 1 ?_
    refine RW.nil ?_
    refine W.rg [(1, .pointer (some ⟨b4, 0, none⟩)), (2, .pointer (some ⟨b5, 0, none⟩)), (4, .pointer (some ⟨b6, 0, none⟩)), (8, .bool false)] fun TA => ?_
    refine W.c0 ?_
    refine W.skip ?_
    refine W.seq ?_
    refine W.seq (W.region ?_)
    refine RW.v ?_
    refine RW.ld H 0 1 ?_
    refine RW.nil ?_
    replace H := (H.del 2)
    dsimp only [setL, delL] at H
    refine W.rg [(2, .pointer (some ⟨b5, 0, none⟩)), (4, .pointer (some ⟨b6, 0, none⟩)), (11, .int .i64 1)] fun TA => ?_
    refine W.block ?_
    refine W.seq (W.region ?_)
    iterate 2 refine RW.v ?_
    refine RW.nil ?_
    refine W.rg [(2, .pointer (some ⟨b5, 0, none⟩)), (4, .pointer (some ⟨b6, 0, none⟩)), (11, .int .i64 1), (12, .bool false)] fun TA => ?_
    refine W.c0 ?_
    refine W.seq (W.region ?_)
    iterate 2 refine RW.v ?_
    refine RW.nil ?_
    replace H := (H.del 0)
    dsimp only [setL, delL] at H
    refine W.rg [(2, .pointer (some ⟨b5, 0, none⟩)), (19, .bool false)] fun TA => ?_
    refine W.c0 ?_
    refine W.skip ?_
    refine blkQ_normal ?_
    refine W.seq (W.region ?_)
    refine RW.val (v := .agg #[.int .i64 2, .int .i64 0, .bool false]) (by kernel_rfl) (by kernel_rfl) (by kernel_rfl) (by kernel_rfl) ?_
    refine RW.st H 0 [.int .i64 2, .int .i64 0, .bool false] [.int .i64 2, .int .i64 0, .bool false] ?_
    clear H; intro _ _ H; dsimp only [setL, delL] at H
    refine RW.v ?_
    refine RW.nil ?_
    refine W.rg [(2, .pointer (some ⟨b5, 0, none⟩)), (3, .bool true)] fun TA => ?_
    refine W.ret ?_
    refine endG (by rfl) (by exact resL_cell rfl (H.get 0 rfl) (by rw [uT_eq]; exact Tryz.underlying70) (by kernel_rfl) rfl rfl (by exact resL_tmp rfl)) ?_
    exact ⟨2, 0, false, true, rfl, .inr (.inr (.inl ⟨rfl, rfl, rfl⟩)), (H.del 0)⟩
  · have H := Lies.start hG ha
    generalize σ0.get = F at H ⊢
    refine WC.enter (fn := Tryz.f36) Tryz.func36 rfl ?_
    refine W.rg [(0, .agg #[.int .i64 2, .int .i64 0, .bool false])] fun TA => ?_
    refine W.seq (W.region ?_)
    refine RW.mk H (.row ⟨[.int .i64 2, .int .i64 0, .bool false], 70, false⟩) ?_
    clear H; intro _ b7 _ H
    refine RW.mk H (.row ⟨[.int .i64 0, .int .i64 0, .bool false], 70, false⟩) ?_
    clear H; intro _ b8 _ H
    refine RW.v ?_
    refine RW.nil ?_
    refine W.rg [(1, .pointer (some ⟨b7, 0, none⟩)), (2, .pointer (some ⟨b8, 0, none⟩))] fun TA => ?_
    refine W.seq (W.region ?_)
    refine RW.ld H 1 3 ?_
    refine RW.call (by kernel_rfl) (by kernel_rfl) rfl rfl rfl (by kernel_rfl) (by kernel_rfl) ((valid_wc (G := G) (k := 2) (n := 0) (c := false) (.inr (.inr (.inl ⟨rfl, rfl, rfl⟩))) H).mono ?_)
    clear H
    rintro _ _ ⟨rfl, H⟩
    refine RW.mk H (.row ⟨[.int .i64 0, .int .i64 0, .bool false], 70, false⟩) ?_
    clear H; intro _ b9 _ H
    refine RW.st H 0 [.int .i64 2, .int .i64 0, .bool false] [.int .i64 2, .int .i64 0, .bool false] ?_
    clear H; intro _ _ H; dsimp only [setL, delL] at H
    refine RW.nil ?_
    refine W.rg [(1, .pointer (some ⟨b7, 0, none⟩)), (2, .pointer (some ⟨b8, 0, none⟩)), (4, .pointer (some ⟨b9, 0, none⟩))] fun TA => ?_
    refine W.seq ?_
    refine W.seq (W.region ?_)
    refine RW.v ?_
    refine RW.ld H 0 1 ?_
    refine RW.nil ?_
    refine W.rg [(1, .pointer (some ⟨b7, 0, none⟩)), (2, .pointer (some ⟨b8, 0, none⟩)), (4, .pointer (some ⟨b9, 0, none⟩)), (8, .bool false)] fun TA => ?_
    refine W.c0 ?_
    refine W.skip ?_
    refine W.seq ?_
    refine W.seq (W.region ?_)
    refine RW.v ?_
    refine RW.ld H 0 1 ?_
    refine RW.nil ?_
    replace H := (H.del 2)
    dsimp only [setL, delL] at H
    refine W.rg [(2, .pointer (some ⟨b8, 0, none⟩)), (4, .pointer (some ⟨b9, 0, none⟩)), (11, .int .i64 2)] fun TA => ?_
    refine W.block ?_
    refine W.seq (W.region ?_)
    iterate 2 refine RW.v ?_
    refine RW.nil ?_
    refine W.rg [(2, .pointer (some ⟨b8, 0, none⟩)), (4, .pointer (some ⟨b9, 0, none⟩)), (11, .int .i64 2), (12, .bool false)] fun TA => ?_
    refine W.c0 ?_
    refine W.seq (W.region ?_)
    iterate 2 refine RW.v ?_
    refine RW.nil ?_
    replace H := (H.del 0)
    dsimp only [setL, delL] at H
    refine W.rg [(2, .pointer (some ⟨b8, 0, none⟩)), (19, .bool true)] fun TA => ?_
    refine W.c1 ?_
    refine W.seq (W.region ?_)
    refine RW.val (v := .agg #[.int .i64 0, .int .i64 0, .bool false]) (by kernel_rfl) (by kernel_rfl) (by kernel_rfl) (by kernel_rfl) ?_
    refine RW.st H 0 [.int .i64 0, .int .i64 0, .bool false] [.int .i64 0, .int .i64 0, .bool false] ?_
    clear H; intro _ _ H; dsimp only [setL, delL] at H
    refine RW.v ?_
    refine RW.nil ?_
    refine W.rg [(2, .pointer (some ⟨b8, 0, none⟩)), (3, .bool true)] fun TA => ?_
    refine W.ret ?_
    refine blkQ_ret ?_
    refine seqQ_ret ?_
    refine endG (by rfl) (by exact resL_cell rfl (H.get 0 rfl) (by rw [uT_eq]; exact Tryz.underlying70) (by kernel_rfl) rfl rfl (by exact resL_tmp rfl)) ?_
    exact ⟨0, 0, false, true, rfl, .inl ⟨rfl, rfl, rfl⟩, (H.del 0)⟩
  · cases c
    · have H := Lies.start hG ha
      generalize σ0.get = F at H ⊢
      refine WC.enter (fn := Tryz.f36) Tryz.func36 rfl ?_
      refine W.rg [(0, .agg #[.int .i64 3, .int .i64 n, .bool false])] fun TA => ?_
      refine W.seq (W.region ?_)
      refine RW.mk H (.row ⟨[.int .i64 3, .int .i64 n, .bool false], 70, false⟩) ?_
      clear H; intro _ b10 _ H
      refine RW.mk H (.row ⟨[.int .i64 0, .int .i64 0, .bool false], 70, false⟩) ?_
      clear H; intro _ b11 _ H
      refine RW.v ?_
      refine RW.nil ?_
      refine W.rg [(1, .pointer (some ⟨b10, 0, none⟩)), (2, .pointer (some ⟨b11, 0, none⟩))] fun TA => ?_
      refine W.seq (W.region ?_)
      refine RW.ld H 1 3 ?_
      refine RW.call (by kernel_rfl) (by kernel_rfl) rfl rfl rfl (by kernel_rfl) (by kernel_rfl) ((valid_wc (G := G) (k := 3) (n := n) (c := false) (.inr (.inr (.inr ⟨rfl, by omega, by omega⟩))) H).mono ?_)
      clear H
      rintro _ _ ⟨rfl, H⟩
      refine RW.mk H (.row ⟨[.int .i64 0, .int .i64 0, .bool false], 70, false⟩) ?_
      clear H; intro _ b12 _ H
      refine RW.st H 0 [.int .i64 3, .int .i64 n, .bool false] [.int .i64 3, .int .i64 n, .bool false] ?_
      clear H; intro _ _ H; dsimp only [setL, delL] at H
      refine RW.nil ?_
      refine W.rg [(1, .pointer (some ⟨b10, 0, none⟩)), (2, .pointer (some ⟨b11, 0, none⟩)), (4, .pointer (some ⟨b12, 0, none⟩))] fun TA => ?_
      refine W.seq ?_
      refine W.seq (W.region ?_)
      refine RW.v ?_
      refine RW.ld H 0 1 ?_
      refine RW.nil ?_
      refine W.rg [(1, .pointer (some ⟨b10, 0, none⟩)), (2, .pointer (some ⟨b11, 0, none⟩)), (4, .pointer (some ⟨b12, 0, none⟩)), (8, .bool false)] fun TA => ?_
      refine W.c0 ?_
      refine W.skip ?_
      refine W.seq ?_
      refine W.seq (W.region ?_)
      refine RW.v ?_
      refine RW.ld H 0 1 ?_
      refine RW.nil ?_
      replace H := (H.del 2)
      dsimp only [setL, delL] at H
      refine W.rg [(2, .pointer (some ⟨b11, 0, none⟩)), (4, .pointer (some ⟨b12, 0, none⟩)), (11, .int .i64 3)] fun TA => ?_
      refine W.block ?_
      refine W.seq (W.region ?_)
      iterate 2 refine RW.v ?_
      refine RW.nil ?_
      refine W.rg [(2, .pointer (some ⟨b11, 0, none⟩)), (4, .pointer (some ⟨b12, 0, none⟩)), (11, .int .i64 3), (12, .bool true)] fun TA => ?_
      refine W.c1 ?_
      refine W.seq (W.region ?_)
      refine RW.v ?_
      refine RW.ld H 0 1 ?_
      refine RW.valE (v' := .int .i64 (0 - n)) (by kernel_rfl) (by kernel_rfl) rfl (congrArg (Value.int .i64) (wrap_in (by omega) (by omega))) (by kernel_rfl) ?_
      refine RW.cl ?_
      refine WC.enter (fn := Tryz.f83) Tryz.func83 rfl ?_
      refine W.rg [(0, .int .i64 (0 - n))] fun TA => ?_
      refine W.seq (W.region ?_)
      refine RW.v ?_
      refine RW.nil ?_
      refine W.rg [(0, .int .i64 (0 - n))] fun TA => ?_
      refine W.seq (W.region ?_)
      refine RW.v ?_
      refine RW.vop (v := .int .i64 (min (0 - n) 2305843009213693951)) (by kernel_rfl) (by kernel_rfl) (vop_min rfl rfl rfl rfl rfl) (by kernel_rfl) ?_
      refine RW.vop (v := .int .i64 (max (-2305843009213693952) (min (0 - n) 2305843009213693951))) (by kernel_rfl) (by kernel_rfl) (vop_max rfl rfl rfl rfl rfl) (by kernel_rfl) ?_
      refine RW.v ?_
      refine RW.nil ?_
      refine W.rg [(2, .int .i64 (max (-2305843009213693952) (min (0 - n) 2305843009213693951)))] fun TA => ?_
      refine W.ret ?_
      refine endG (by rfl) (by exact resL_tmp rfl) ?_
      refine RW.val (v := .agg #[.int .i64 3, .int .i64 (max (-2305843009213693952) (min (0 - n) 2305843009213693951)), .bool false]) (by kernel_rfl) (by kernel_rfl) (by kernel_rfl) (by kernel_rfl) ?_
      refine RW.st H 1 [.int .i64 3, .int .i64 (max (-2305843009213693952) (min (0 - n) 2305843009213693951)), .bool false] [.int .i64 3, .int .i64 (max (-2305843009213693952) (min (0 - n) 2305843009213693951)), .bool false] ?_
      clear H; intro _ _ H; dsimp only [setL, delL] at H
      refine RW.v ?_
      refine RW.nil ?_
      replace H := (H.del 0)
      dsimp only [setL, delL] at H
      refine W.rg [(2, .pointer (some ⟨b11, 0, none⟩)), (3, .bool true)] fun TA => ?_
      refine W.ret ?_
      refine blkQ_ret ?_
      refine seqQ_ret ?_
      refine endG (by rfl) (by exact resL_cell rfl (H.get 0 rfl) (by rw [uT_eq]; exact Tryz.underlying70) (by kernel_rfl) rfl rfl (by exact resL_tmp rfl)) ?_
      exact ⟨3, max (-2305843009213693952) (min (0 - n) 2305843009213693951), false, true, rfl, .inr (.inr (.inr ⟨rfl, by omega, by omega⟩)), (H.del 0)⟩
    · have H := Lies.start hG ha
      generalize σ0.get = F at H ⊢
      refine WC.enter (fn := Tryz.f36) Tryz.func36 rfl ?_
      refine W.rg [(0, .agg #[.int .i64 3, .int .i64 n, .bool true])] fun TA => ?_
      refine W.seq (W.region ?_)
      refine RW.mk H (.row ⟨[.int .i64 3, .int .i64 n, .bool true], 70, false⟩) ?_
      clear H; intro _ b13 _ H
      refine RW.mk H (.row ⟨[.int .i64 0, .int .i64 0, .bool false], 70, false⟩) ?_
      clear H; intro _ b14 _ H
      refine RW.v ?_
      refine RW.nil ?_
      refine W.rg [(1, .pointer (some ⟨b13, 0, none⟩)), (2, .pointer (some ⟨b14, 0, none⟩))] fun TA => ?_
      refine W.seq (W.region ?_)
      refine RW.ld H 1 3 ?_
      refine RW.call (by kernel_rfl) (by kernel_rfl) rfl rfl rfl (by kernel_rfl) (by kernel_rfl) ((valid_wc (G := G) (k := 3) (n := n) (c := true) (.inr (.inr (.inr ⟨rfl, by omega, by omega⟩))) H).mono ?_)
      clear H
      rintro _ _ ⟨rfl, H⟩
      refine RW.mk H (.row ⟨[.int .i64 0, .int .i64 0, .bool false], 70, false⟩) ?_
      clear H; intro _ b15 _ H
      refine RW.st H 0 [.int .i64 3, .int .i64 n, .bool true] [.int .i64 3, .int .i64 n, .bool true] ?_
      clear H; intro _ _ H; dsimp only [setL, delL] at H
      refine RW.nil ?_
      refine W.rg [(1, .pointer (some ⟨b13, 0, none⟩)), (2, .pointer (some ⟨b14, 0, none⟩)), (4, .pointer (some ⟨b15, 0, none⟩))] fun TA => ?_
      refine W.seq ?_
      refine W.seq (W.region ?_)
      refine RW.v ?_
      refine RW.ld H 0 1 ?_
      refine RW.nil ?_
      refine W.rg [(1, .pointer (some ⟨b13, 0, none⟩)), (2, .pointer (some ⟨b14, 0, none⟩)), (4, .pointer (some ⟨b15, 0, none⟩)), (8, .bool true)] fun TA => ?_
      refine W.c1 ?_
      refine W.seq (W.region ?_)
      refine RW.ld H 2 3 ?_
      refine RW.st H 1 [.int .i64 3, .int .i64 n, .bool true] [.int .i64 3, .int .i64 n, .bool true] ?_
      clear H; intro _ _ H; dsimp only [setL, delL] at H
      refine RW.v ?_
      refine RW.nil ?_
      replace H := ((H.del 2).del 0)
      dsimp only [setL, delL] at H
      refine W.rg [(2, .pointer (some ⟨b14, 0, none⟩)), (3, .bool false)] fun TA => ?_
      refine W.ret ?_
      refine seqQ_ret ?_
      refine endG (by rfl) (by exact resL_cell rfl (H.get 0 rfl) (by rw [uT_eq]; exact Tryz.underlying70) (by kernel_rfl) rfl rfl (by exact resL_tmp rfl)) ?_
      exact ⟨3, n, true, false, rfl, .inr (.inr (.inr ⟨rfl, by omega, by omega⟩)), (H.del 0)⟩
set_option maxHeartbeats 4000000 in
theorem value_wc (hG : G ≤ σ0.next) (ha : σ0.abs = A) (hp : Pfx k n c) : WC G Tryz.prog 39 #[preV k n c] σ0 fun v σ' => v = .int .i64 (valP k n) ∧ Lies G A σ0.get σ' [] := by
  rcases hp with ⟨rfl, rfl, rfl⟩ | ⟨rfl, h1, h2, rfl⟩ | ⟨rfl, rfl, rfl⟩ | ⟨rfl, h1, h2⟩
  · have H := Lies.start hG ha
    generalize σ0.get = F at H ⊢
    refine WC.enter (fn := Tryz.f39) Tryz.func39 rfl ?_
    refine W.rg [(0, .agg #[.int .i64 0, .int .i64 0, .bool false])] fun TA => ?_
    refine W.seq (W.region ?_)
    refine RW.mk H (.row ⟨[.int .i64 0, .int .i64 0, .bool false], 70, false⟩) ?_
    clear H; intro _ b1 _ H
    refine RW.v ?_
    refine RW.nil ?_
    refine W.rg [(1, .pointer (some ⟨b1, 0, none⟩))] fun TA => ?_
    refine W.seq (W.region ?_)
    refine RW.ld H 0 3 ?_
    refine RW.call (by kernel_rfl) (by kernel_rfl) rfl rfl rfl (by kernel_rfl) (by kernel_rfl) ((valid_wc (G := G) (k := 0) (n := 0) (c := false) (.inl ⟨rfl, rfl, rfl⟩) H).mono ?_)
    clear H
    rintro _ _ ⟨rfl, H⟩
    refine RW.st H 0 [.int .i64 0, .int .i64 0, .bool false] [.int .i64 0, .int .i64 0, .bool false] ?_
    clear H; intro _ _ H; dsimp only [setL, delL] at H
    refine RW.nil ?_
    refine W.rg [(1, .pointer (some ⟨b1, 0, none⟩))] fun TA => ?_
    refine W.seq ?_
    refine W.seq (W.region ?_)
    refine RW.v ?_
    refine RW.ld H 0 1 ?_
    refine RW.nil ?_
    refine W.rg [(1, .pointer (some ⟨b1, 0, none⟩)), (6, .int .i64 0)] fun TA => ?_
    refine W.block ?_
    refine W.seq (W.region ?_)
    iterate 2 refine RW.v ?_
    refine RW.nil ?_
    refine W.rg [(1, .pointer (some ⟨b1, 0, none⟩)), (6, .int .i64 0), (7, .bool true)] fun TA => ?_
    refine W.c1 ?_
    refine W.seq (W.region ?_)
    refine RW.v ?_
    refine RW.nil ?_
    replace H := (H.del 0)
    dsimp only [setL, delL] at H
    refine W.rg [(2, .int .i64 1)] fun TA => ?_
    refine W.ret ?_
    refine blkQ_ret ?_
    refine seqQ_ret ?_
    refine endG (by rfl) (by exact resL_tmp rfl) ?_
    exact ⟨rfl, H⟩
  · have H := Lies.start hG ha
    generalize σ0.get = F at H ⊢
    refine WC.enter (fn := Tryz.f39) Tryz.func39 rfl ?_
    refine W.rg [(0, .agg #[.int .i64 1, .int .i64 n, .bool false])] fun TA => ?_
    refine W.seq (W.region ?_)
    refine RW.mk H (.row ⟨[.int .i64 1, .int .i64 n, .bool false], 70, false⟩) ?_
    clear H; intro _ b2 _ H
    refine RW.v ?_
    refine RW.nil ?_
    refine W.rg [(1, .pointer (some ⟨b2, 0, none⟩))] fun TA => ?_
    refine W.seq (W.region ?_)
    refine RW.ld H 0 3 ?_
    refine RW.call (by kernel_rfl) (by kernel_rfl) rfl rfl rfl (by kernel_rfl) (by kernel_rfl) ((valid_wc (G := G) (k := 1) (n := n) (c := false) (.inr (.inl ⟨rfl, by omega, by omega, rfl⟩)) H).mono ?_)
    clear H
    rintro _ _ ⟨rfl, H⟩
    refine RW.st H 0 [.int .i64 1, .int .i64 n, .bool false] [.int .i64 1, .int .i64 n, .bool false] ?_
    clear H; intro _ _ H; dsimp only [setL, delL] at H
    refine RW.nil ?_
    refine W.rg [(1, .pointer (some ⟨b2, 0, none⟩))] fun TA => ?_
    refine W.seq ?_
    refine W.seq (W.region ?_)
    refine RW.v ?_
    refine RW.ld H 0 1 ?_
    refine RW.nil ?_
    refine W.rg [(1, .pointer (some ⟨b2, 0, none⟩)), (6, .int .i64 1)] fun TA => ?_
    refine W.block ?_
    refine W.seq (W.region ?_)
    iterate 2 refine RW.v ?_
    refine RW.nil ?_
    refine W.rg [(1, .pointer (some ⟨b2, 0, none⟩)), (6, .int .i64 1), (7, .bool false)] fun TA => ?_
    refine W.c0 ?_
    refine W.seq (W.region ?_)
    iterate 2 refine RW.v ?_
    refine RW.nil ?_
    refine W.rg [(1, .pointer (some ⟨b2, 0, none⟩)), (9, .bool false)] fun TA => ?_
    refine W.c0 ?_
    refine W.skip ?_
    refine blkQ_normal ?_
    refine W.seq (W.region ?_)
    refine RW.v ?_
    refine RW.ld H 0 1 ?_
    refine RW.v ?_
    refine RW.nil ?_
    replace H := (H.del 0)
    dsimp only [setL, delL] at H
    refine W.rg [(2, .int .i64 n)] fun TA => ?_
    refine W.ret ?_
    refine endG (by rfl) (by exact resL_tmp rfl) ?_
    exact ⟨rfl, H⟩
  · have H := Lies.start hG ha
    generalize σ0.get = F at H ⊢
    refine WC.enter (fn := Tryz.f39) Tryz.func39 rfl ?_
    refine W.rg [(0, .agg #[.int .i64 2, .int .i64 0, .bool false])] fun TA => ?_
    refine W.seq (W.region ?_)
    refine RW.mk H (.row ⟨[.int .i64 2, .int .i64 0, .bool false], 70, false⟩) ?_
    clear H; intro _ b3 _ H
    refine RW.v ?_
    refine RW.nil ?_
    refine W.rg [(1, .pointer (some ⟨b3, 0, none⟩))] fun TA => ?_
    refine W.seq (W.region ?_)
    refine RW.ld H 0 3 ?_
    refine RW.call (by kernel_rfl) (by kernel_rfl) rfl rfl rfl (by kernel_rfl) (by kernel_rfl) ((valid_wc (G := G) (k := 2) (n := 0) (c := false) (.inr (.inr (.inl ⟨rfl, rfl, rfl⟩))) H).mono ?_)
    clear H
    rintro _ _ ⟨rfl, H⟩
    refine RW.st H 0 [.int .i64 2, .int .i64 0, .bool false] [.int .i64 2, .int .i64 0, .bool false] ?_
    clear H; intro _ _ H; dsimp only [setL, delL] at H
    refine RW.nil ?_
    refine W.rg [(1, .pointer (some ⟨b3, 0, none⟩))] fun TA => ?_
    refine W.seq ?_
    refine W.seq (W.region ?_)
    refine RW.v ?_
    refine RW.ld H 0 1 ?_
    refine RW.nil ?_
    refine W.rg [(1, .pointer (some ⟨b3, 0, none⟩)), (6, .int .i64 2)] fun TA => ?_
    refine W.block ?_
    refine W.seq (W.region ?_)
    iterate 2 refine RW.v ?_
    refine RW.nil ?_
    refine W.rg [(1, .pointer (some ⟨b3, 0, none⟩)), (6, .int .i64 2), (7, .bool false)] fun TA => ?_
    refine W.c0 ?_
    refine W.seq (W.region ?_)
    iterate 2 refine RW.v ?_
    refine RW.nil ?_
    refine W.rg [(1, .pointer (some ⟨b3, 0, none⟩)), (9, .bool true)] fun TA => ?_
    refine W.c1 ?_
    refine W.seq (W.region ?_)
    refine RW.v ?_
    refine RW.nil ?_
    replace H := (H.del 0)
    dsimp only [setL, delL] at H
    refine W.rg [(2, .int .i64 (-1))] fun TA => ?_
    refine W.ret ?_
    refine blkQ_ret ?_
    refine seqQ_ret ?_
    refine endG (by rfl) (by exact resL_tmp rfl) ?_
    exact ⟨rfl, H⟩
  · cases c
    · have H := Lies.start hG ha
      generalize σ0.get = F at H ⊢
      refine WC.enter (fn := Tryz.f39) Tryz.func39 rfl ?_
      refine W.rg [(0, .agg #[.int .i64 3, .int .i64 n, .bool false])] fun TA => ?_
      refine W.seq (W.region ?_)
      refine RW.mk H (.row ⟨[.int .i64 3, .int .i64 n, .bool false], 70, false⟩) ?_
      clear H; intro _ b4 _ H
      refine RW.v ?_
      refine RW.nil ?_
      refine W.rg [(1, .pointer (some ⟨b4, 0, none⟩))] fun TA => ?_
      refine W.seq (W.region ?_)
      refine RW.ld H 0 3 ?_
      refine RW.call (by kernel_rfl) (by kernel_rfl) rfl rfl rfl (by kernel_rfl) (by kernel_rfl) ((valid_wc (G := G) (k := 3) (n := n) (c := false) (.inr (.inr (.inr ⟨rfl, by omega, by omega⟩))) H).mono ?_)
      clear H
      rintro _ _ ⟨rfl, H⟩
      refine RW.st H 0 [.int .i64 3, .int .i64 n, .bool false] [.int .i64 3, .int .i64 n, .bool false] ?_
      clear H; intro _ _ H; dsimp only [setL, delL] at H
      refine RW.nil ?_
      refine W.rg [(1, .pointer (some ⟨b4, 0, none⟩))] fun TA => ?_
      refine W.seq ?_
      refine W.seq (W.region ?_)
      refine RW.v ?_
      refine RW.ld H 0 1 ?_
      refine RW.nil ?_
      refine W.rg [(1, .pointer (some ⟨b4, 0, none⟩)), (6, .int .i64 3)] fun TA => ?_
      refine W.block ?_
      refine W.seq (W.region ?_)
      iterate 2 refine RW.v ?_
      refine RW.nil ?_
      refine W.rg [(1, .pointer (some ⟨b4, 0, none⟩)), (6, .int .i64 3), (7, .bool false)] fun TA => ?_
      refine W.c0 ?_
      refine W.seq (W.region ?_)
      iterate 2 refine RW.v ?_
      refine RW.nil ?_
      refine W.rg [(1, .pointer (some ⟨b4, 0, none⟩)), (9, .bool false)] fun TA => ?_
      refine W.c0 ?_
      refine W.skip ?_
      refine blkQ_normal ?_
      refine W.seq (W.region ?_)
      refine RW.v ?_
      refine RW.ld H 0 1 ?_
      refine RW.v ?_
      refine RW.nil ?_
      replace H := (H.del 0)
      dsimp only [setL, delL] at H
      refine W.rg [(2, .int .i64 n)] fun TA => ?_
      refine W.ret ?_
      refine endG (by rfl) (by exact resL_tmp rfl) ?_
      exact ⟨rfl, H⟩
    · have H := Lies.start hG ha
      generalize σ0.get = F at H ⊢
      refine WC.enter (fn := Tryz.f39) Tryz.func39 rfl ?_
      refine W.rg [(0, .agg #[.int .i64 3, .int .i64 n, .bool true])] fun TA => ?_
      refine W.seq (W.region ?_)
      refine RW.mk H (.row ⟨[.int .i64 3, .int .i64 n, .bool true], 70, false⟩) ?_
      clear H; intro _ b5 _ H
      refine RW.v ?_
      refine RW.nil ?_
      refine W.rg [(1, .pointer (some ⟨b5, 0, none⟩))] fun TA => ?_
      refine W.seq (W.region ?_)
      refine RW.ld H 0 3 ?_
      refine RW.call (by kernel_rfl) (by kernel_rfl) rfl rfl rfl (by kernel_rfl) (by kernel_rfl) ((valid_wc (G := G) (k := 3) (n := n) (c := true) (.inr (.inr (.inr ⟨rfl, by omega, by omega⟩))) H).mono ?_)
      clear H
      rintro _ _ ⟨rfl, H⟩
      refine RW.st H 0 [.int .i64 3, .int .i64 n, .bool true] [.int .i64 3, .int .i64 n, .bool true] ?_
      clear H; intro _ _ H; dsimp only [setL, delL] at H
      refine RW.nil ?_
      refine W.rg [(1, .pointer (some ⟨b5, 0, none⟩))] fun TA => ?_
      refine W.seq ?_
      refine W.seq (W.region ?_)
      refine RW.v ?_
      refine RW.ld H 0 1 ?_
      refine RW.nil ?_
      refine W.rg [(1, .pointer (some ⟨b5, 0, none⟩)), (6, .int .i64 3)] fun TA => ?_
      refine W.block ?_
      refine W.seq (W.region ?_)
      iterate 2 refine RW.v ?_
      refine RW.nil ?_
      refine W.rg [(1, .pointer (some ⟨b5, 0, none⟩)), (6, .int .i64 3), (7, .bool false)] fun TA => ?_
      refine W.c0 ?_
      refine W.seq (W.region ?_)
      iterate 2 refine RW.v ?_
      refine RW.nil ?_
      refine W.rg [(1, .pointer (some ⟨b5, 0, none⟩)), (9, .bool false)] fun TA => ?_
      refine W.c0 ?_
      refine W.skip ?_
      refine blkQ_normal ?_
      refine W.seq (W.region ?_)
      refine RW.v ?_
      refine RW.ld H 0 1 ?_
      refine RW.v ?_
      refine RW.nil ?_
      replace H := (H.del 0)
      dsimp only [setL, delL] at H
      refine W.rg [(2, .int .i64 n)] fun TA => ?_
      refine W.ret ?_
      refine endG (by rfl) (by exact resL_tmp rfl) ?_
      exact ⟨rfl, H⟩
end
end Go.Proofs.YthemeeiedlbhkaaGreatDoor
