/-
  Words and values of the laws of hooks. Conditions: the heap lies there as HeapAt says.
-/
import Derived.Test.YtaaebeiigkhcjaaDoorHka
namespace Go.Proofs.YtaaebeiigkhcjaaDoor
set_option maxRecDepth 100000
section
variable {G h : Nat} {m : HM} {σ0 : Mem}
set_option maxHeartbeats 2000000 in
theorem word_wc (n : Int) (hG : G ≤ σ0.next) (ha : σ0.abs = heapAbs h m) (hf : m.free = []) (hr : m.many + 2 ≤ m.limit) (hlim : m.limit ≤ 65536) (hn1 : -9223372036854775808 ≤ n) (hn2 : n ≤ 9223372036854775807) :
    WC G Tryd.prog 18 #[pp h, .int .i64 n] σ0 fun v σ' => ∃ m' w, v = wdV w ∧ ExtH m m' 2 ∧ Fine w ∧ Lies G (heapAbs h m') σ0.get σ' [] := by
  have H := Lies.start hG ha
  generalize σ0.get = F at H ⊢
  refine WC.enter (fn := Tryd.f18) Tryd.func18 rfl ?_
  refine W.rg [(0, .pointer (some ⟨h, 0, none⟩)), (1, .int .i64 n)] fun TA => ?_
  refine W.seq ?_
  refine W.region ?_
  refine RW.mk H (.row ⟨[.int .i64 0, .int .i64 0], 28, false⟩) ?_
  clear H; intro _ b1 _ H
  refine RW.nil ?_
  refine W.rg [(0, .pointer (some ⟨h, 0, none⟩)), (1, .int .i64 n), (4, .pointer (some ⟨b1, 0, none⟩))] fun TA => ?_
  refine W.seq ?_
  refine W.region ?_
  refine RW.v ?_
  refine RW.call (by kernel_rfl) (by kernel_rfl) rfl rfl rfl (by kernel_rfl) (by kernel_rfl) ⟨_, _, (s_pick (G := G) (n) 8 (by omega) (by omega) (by decide) (by decide)), ?_⟩
  have hp2 := pickOf_in n (show (0 : Int) < 8 by decide)
  refine RW.v ?_
  refine RW.nil ?_
  refine W.rg [(0, .pointer (some ⟨h, 0, none⟩)), (4, .pointer (some ⟨b1, 0, none⟩)), (5, .int .i64 (pickOf n 8))] fun TA => ?_
  refine W.seq ?_
  refine W.region ?_
  refine RW.v ?_
  refine RW.nil ?_
  refine W.rg [(0, .pointer (some ⟨h, 0, none⟩)), (4, .pointer (some ⟨b1, 0, none⟩)), (5, .int .i64 (pickOf n 8)), (10, .int .i64 (pickOf n 8))] fun TA => ?_
  refine W.block ?_
  refine W.seq ?_
  refine W.seq ?_
  refine W.region ?_
  refine RW.v ?_
  refine RW.v ?_
  refine RW.nil ?_
  refine W.rg [(0, .pointer (some ⟨h, 0, none⟩)), (4, .pointer (some ⟨b1, 0, none⟩)), (5, .int .i64 (pickOf n 8)), (10, .int .i64 (pickOf n 8)), (14, .bool ((pickOf n 8) == 0))] fun TA => ?_
  refine W.cond rfl (fun hc3 => ?_) (fun hc3 => ?_)
  · have hc3b := hc3
    have hc3 := eq_of_beq hc3
    refine W.skip ?_
    refine W.cond (b := true) (congrArg Value.bool hc3b) (fun _ => ?_) (fun h => by cases h)
    refine W.seq ?_
    refine W.region ?_
    refine RW.v ?_
    refine RW.cl ?_
    refine WC.enter (fn := Tryd.f10) Tryd.func10 rfl ?_
    refine W.rg [(0, .int .i64 (pickOf n 8))] fun TA => ?_
    refine W.seq ?_
    refine W.region ?_
    refine RW.mk H (.row ⟨[.int .i64 0, .int .i64 0], 28, false⟩) ?_
    clear H; intro _ b4 _ H
    refine RW.nil ?_
    refine W.rg [(0, .int .i64 (pickOf n 8)), (2, .pointer (some ⟨b4, 0, none⟩))] fun TA => ?_
    refine W.seq ?_
    refine W.region ?_
    refine RW.v ?_
    refine RW.val (v := .agg #[.int .i64 1, .int .i64 (pickOf n 8)]) (by kernel_rfl) (by kernel_rfl) (by kernel_rfl) (by kernel_rfl) ?_
    refine RW.st H 0 [.int .i64 1, .int .i64 (pickOf n 8)] [.int .i64 1, .int .i64 (pickOf n 8)] ?_
    clear H; intro _ _ H
    dsimp only [setL, delL] at H
    refine RW.nil ?_
    refine W.rg [(2, .pointer (some ⟨b4, 0, none⟩))] fun TA => ?_
    refine W.ret ?_
    refine endG (by rfl) (by exact resL_cell rfl (H.get 0 rfl) (by rw [uT_eq]; exact Tryd.underlying28) (by kernel_rfl) rfl rfl rfl) ?_
    refine RW.st H 1 [.int .i64 1, .int .i64 (pickOf n 8)] [.int .i64 1, .int .i64 (pickOf n 8)] ?_
    clear H; intro _ _ H
    dsimp only [setL, delL] at H
    refine RW.nil ?_
    replace H := (H.del 0)
    dsimp only [setL, delL] at H
    refine W.rg [(4, .pointer (some ⟨b1, 0, none⟩))] fun TA => ?_
    refine W.ret ?_
    refine blkQ_ret ?_
    refine endG (by rfl) (by exact resL_cell rfl (H.get 0 rfl) (by rw [uT_eq]; exact Tryd.underlying28) (by kernel_rfl) rfl rfl rfl) ?_
    exact ⟨m, ((1, pickOf n 8) : Wd), rfl, ((ExtH.refl hf).le (by omega)), fun _ => (by dsimp only; omega), (H.del 0)⟩
  · have hc3b := hc3
    have hc3 := ne_of_beq_false hc3
    refine W.region ?_
    refine RW.v ?_
    refine RW.v ?_
    refine RW.nil ?_
    refine W.rg [(0, .pointer (some ⟨h, 0, none⟩)), (4, .pointer (some ⟨b1, 0, none⟩)), (5, .int .i64 (pickOf n 8)), (10, .int .i64 (pickOf n 8)), (14, .bool ((pickOf n 8) == 1))] fun TA => ?_
    refine W.cond rfl (fun hc5 => ?_) (fun hc5 => ?_)
    · have hc5b := hc5
      have hc5 := eq_of_beq hc5
      refine W.seq ?_
      refine W.region ?_
      refine RW.v ?_
      refine RW.cl ?_
      refine WC.enter (fn := Tryd.f10) Tryd.func10 rfl ?_
      refine W.rg [(0, .int .i64 (pickOf n 8))] fun TA => ?_
      refine W.seq ?_
      refine W.region ?_
      refine RW.mk H (.row ⟨[.int .i64 0, .int .i64 0], 28, false⟩) ?_
      clear H; intro _ b6 _ H
      refine RW.nil ?_
      refine W.rg [(0, .int .i64 (pickOf n 8)), (2, .pointer (some ⟨b6, 0, none⟩))] fun TA => ?_
      refine W.seq ?_
      refine W.region ?_
      refine RW.v ?_
      refine RW.val (v := .agg #[.int .i64 1, .int .i64 (pickOf n 8)]) (by kernel_rfl) (by kernel_rfl) (by kernel_rfl) (by kernel_rfl) ?_
      refine RW.st H 0 [.int .i64 1, .int .i64 (pickOf n 8)] [.int .i64 1, .int .i64 (pickOf n 8)] ?_
      clear H; intro _ _ H
      dsimp only [setL, delL] at H
      refine RW.nil ?_
      refine W.rg [(2, .pointer (some ⟨b6, 0, none⟩))] fun TA => ?_
      refine W.ret ?_
      refine endG (by rfl) (by exact resL_cell rfl (H.get 0 rfl) (by rw [uT_eq]; exact Tryd.underlying28) (by kernel_rfl) rfl rfl rfl) ?_
      refine RW.st H 1 [.int .i64 1, .int .i64 (pickOf n 8)] [.int .i64 1, .int .i64 (pickOf n 8)] ?_
      clear H; intro _ _ H
      dsimp only [setL, delL] at H
      refine RW.nil ?_
      replace H := (H.del 0)
      dsimp only [setL, delL] at H
      refine W.rg [(4, .pointer (some ⟨b1, 0, none⟩))] fun TA => ?_
      refine W.ret ?_
      refine blkQ_ret ?_
      refine endG (by rfl) (by exact resL_cell rfl (H.get 0 rfl) (by rw [uT_eq]; exact Tryd.underlying28) (by kernel_rfl) rfl rfl rfl) ?_
      exact ⟨m, ((1, pickOf n 8) : Wd), rfl, ((ExtH.refl hf).le (by omega)), fun _ => (by dsimp only; omega), (H.del 0)⟩
    · have hc5b := hc5
      have hc5 := ne_of_beq_false hc5
      refine W.seq ?_
      refine W.seq ?_
      refine W.region ?_
      refine RW.v ?_
      refine RW.v ?_
      refine RW.nil ?_
      refine W.rg [(0, .pointer (some ⟨h, 0, none⟩)), (4, .pointer (some ⟨b1, 0, none⟩)), (5, .int .i64 (pickOf n 8)), (10, .int .i64 (pickOf n 8)), (19, .bool ((pickOf n 8) == 5))] fun TA => ?_
      refine W.cond rfl (fun hc7 => ?_) (fun hc7 => ?_)
      · have hc7b := hc7
        have hc7 := eq_of_beq hc7
        refine W.skip ?_
        refine W.cond (b := true) (congrArg Value.bool hc7b) (fun _ => ?_) (fun h => by cases h)
        refine W.seq ?_
        refine W.region ?_
        refine RW.v ?_
        refine RW.cl ?_
        refine WC.enter (fn := Tryd.f10) Tryd.func10 rfl ?_
        refine W.rg [(0, .int .i64 7)] fun TA => ?_
        refine W.seq ?_
        refine W.region ?_
        refine RW.mk H (.row ⟨[.int .i64 0, .int .i64 0], 28, false⟩) ?_
        clear H; intro _ b8 _ H
        refine RW.nil ?_
        refine W.rg [(0, .int .i64 7), (2, .pointer (some ⟨b8, 0, none⟩))] fun TA => ?_
        refine W.seq ?_
        refine W.region ?_
        refine RW.v ?_
        refine RW.val (v := .agg #[.int .i64 1, .int .i64 7]) (by kernel_rfl) (by kernel_rfl) (by kernel_rfl) (by kernel_rfl) ?_
        refine RW.st H 0 [.int .i64 1, .int .i64 7] [.int .i64 1, .int .i64 7] ?_
        clear H; intro _ _ H
        dsimp only [setL, delL] at H
        refine RW.nil ?_
        refine W.rg [(2, .pointer (some ⟨b8, 0, none⟩))] fun TA => ?_
        refine W.ret ?_
        refine endG (by rfl) (by exact resL_cell rfl (H.get 0 rfl) (by rw [uT_eq]; exact Tryd.underlying28) (by kernel_rfl) rfl rfl rfl) ?_
        refine RW.v ?_
        refine RW.call (by kernel_rfl) (by kernel_rfl) rfl rfl rfl (by kernel_rfl) (by kernel_rfl) ⟨_, _, (s_int (G := G) (pickOf n 8)), ?_⟩
        refine RW.mkL H (x := .row ⟨[.int .i64 1, .int .i64 7, .int .i64 0, .int .i64 (pickOf n 8)], 28, false⟩) (fm := fun b => .slice (some ⟨b, 0, none⟩) 2 2) (by kernel_rfl) (by kernel_rfl) (by kernel_rfl) (by kernel_rfl) ?_
        clear H; intro _ b9 _ H
        refine RW.call (by kernel_rfl) (by kernel_rfl) rfl rfl rfl (by kernel_rfl) (by kernel_rfl) ((make_lies (G := G) (h := h) (m := m) (l := [((1, 7) : Wd), ((0, pickOf n 8) : Wd)]) H (row_vw (x := ((1, 7) : Wd)) (y := ((0, pickOf n 8) : Wd)) (H.get 0 rfl)) rfl hf (by show _ + 2 ≤ _; omega) (by omega) hlim).mono ?_)
        clear H
        rintro _ _ ⟨rfl, H⟩
        refine RW.v ?_
        refine RW.v ?_
        refine RW.v ?_
        refine RW.mk H (.row ⟨[.int .i64 0, .int .i64 0], 28, false⟩) ?_
        clear H; intro _ b10 _ H
        refine RW.st H 0 [.int .i64 ((built m [((1, 7) : Wd), ((0, pickOf n 8) : Wd)] (1, 0)).2.1), .int .i64 ((built m [((1, 7) : Wd), ((0, pickOf n 8) : Wd)] (1, 0)).2.2)] [.int .i64 ((built m [((1, 7) : Wd), ((0, pickOf n 8) : Wd)] (1, 0)).2.1), .int .i64 ((built m [((1, 7) : Wd), ((0, pickOf n 8) : Wd)] (1, 0)).2.2)] ?_
        clear H; intro _ _ H
        dsimp only [setL, delL] at H
        refine RW.v ?_
        refine RW.nil ?_
        replace H := ((H.del 2).del 1)
        dsimp only [setL, delL] at H
        refine W.rg [(4, .pointer (some ⟨b1, 0, none⟩)), (6, .pointer (some ⟨b10, 0, none⟩))] fun TA => ?_
        refine W.seq ?_
        refine W.region ?_
        refine RW.ld H 0 2 ?_
        refine RW.st H 1 [.int .i64 ((built m [((1, 7) : Wd), ((0, pickOf n 8) : Wd)] (1, 0)).2.1), .int .i64 ((built m [((1, 7) : Wd), ((0, pickOf n 8) : Wd)] (1, 0)).2.2)] [.int .i64 ((built m [((1, 7) : Wd), ((0, pickOf n 8) : Wd)] (1, 0)).2.1), .int .i64 ((built m [((1, 7) : Wd), ((0, pickOf n 8) : Wd)] (1, 0)).2.2)] ?_
        clear H; intro _ _ H
        dsimp only [setL, delL] at H
        refine RW.nil ?_
        replace H := (H.del 0)
        dsimp only [setL, delL] at H
        refine W.rg [(4, .pointer (some ⟨b1, 0, none⟩))] fun TA => ?_
        refine W.ret ?_
        refine blkQ_ret ?_
        refine endG (by rfl) (by exact resL_cell rfl (H.get 0 rfl) (by rw [uT_eq]; exact Tryd.underlying28) (by kernel_rfl) rfl rfl rfl) ?_
        exact ⟨(built m [((1, 7) : Wd), ((0, pickOf n 8) : Wd)] (1, 0)).1, (((built m [((1, 7) : Wd), ((0, pickOf n 8) : Wd)] (1, 0)).2.1, (built m [((1, 7) : Wd), ((0, pickOf n 8) : Wd)] (1, 0)).2.2) : Wd), rfl, (ext_built hf [((1, 7) : Wd), ((0, pickOf n 8) : Wd)] (1, 0)), fun e => absurd (e.symm.trans built_kind) (by decide), (H.del 0)⟩
      · have hc7b := hc7
        have hc7 := ne_of_beq_false hc7
        refine W.region ?_
        refine RW.v ?_
        refine RW.v ?_
        refine RW.nil ?_
        refine W.rg [(0, .pointer (some ⟨h, 0, none⟩)), (4, .pointer (some ⟨b1, 0, none⟩)), (5, .int .i64 (pickOf n 8)), (10, .int .i64 (pickOf n 8)), (19, .bool ((pickOf n 8) == 6))] fun TA => ?_
        refine W.cond rfl (fun hc11 => ?_) (fun hc11 => ?_)
        · have hc11b := hc11
          have hc11 := eq_of_beq hc11
          refine W.seq ?_
          refine W.region ?_
          refine RW.v ?_
          refine RW.cl ?_
          refine WC.enter (fn := Tryd.f10) Tryd.func10 rfl ?_
          refine W.rg [(0, .int .i64 7)] fun TA => ?_
          refine W.seq ?_
          refine W.region ?_
          refine RW.mk H (.row ⟨[.int .i64 0, .int .i64 0], 28, false⟩) ?_
          clear H; intro _ b12 _ H
          refine RW.nil ?_
          refine W.rg [(0, .int .i64 7), (2, .pointer (some ⟨b12, 0, none⟩))] fun TA => ?_
          refine W.seq ?_
          refine W.region ?_
          refine RW.v ?_
          refine RW.val (v := .agg #[.int .i64 1, .int .i64 7]) (by kernel_rfl) (by kernel_rfl) (by kernel_rfl) (by kernel_rfl) ?_
          refine RW.st H 0 [.int .i64 1, .int .i64 7] [.int .i64 1, .int .i64 7] ?_
          clear H; intro _ _ H
          dsimp only [setL, delL] at H
          refine RW.nil ?_
          refine W.rg [(2, .pointer (some ⟨b12, 0, none⟩))] fun TA => ?_
          refine W.ret ?_
          refine endG (by rfl) (by exact resL_cell rfl (H.get 0 rfl) (by rw [uT_eq]; exact Tryd.underlying28) (by kernel_rfl) rfl rfl rfl) ?_
          refine RW.v ?_
          refine RW.call (by kernel_rfl) (by kernel_rfl) rfl rfl rfl (by kernel_rfl) (by kernel_rfl) ⟨_, _, (s_int (G := G) (pickOf n 8)), ?_⟩
          refine RW.mkL H (x := .row ⟨[.int .i64 1, .int .i64 7, .int .i64 0, .int .i64 (pickOf n 8)], 28, false⟩) (fm := fun b => .slice (some ⟨b, 0, none⟩) 2 2) (by kernel_rfl) (by kernel_rfl) (by kernel_rfl) (by kernel_rfl) ?_
          clear H; intro _ b13 _ H
          refine RW.call (by kernel_rfl) (by kernel_rfl) rfl rfl rfl (by kernel_rfl) (by kernel_rfl) ((make_lies (G := G) (h := h) (m := m) (l := [((1, 7) : Wd), ((0, pickOf n 8) : Wd)]) H (row_vw (x := ((1, 7) : Wd)) (y := ((0, pickOf n 8) : Wd)) (H.get 0 rfl)) rfl hf (by show _ + 2 ≤ _; omega) (by omega) hlim).mono ?_)
          clear H
          rintro _ _ ⟨rfl, H⟩
          refine RW.v ?_
          refine RW.v ?_
          refine RW.v ?_
          refine RW.mk H (.row ⟨[.int .i64 0, .int .i64 0], 28, false⟩) ?_
          clear H; intro _ b14 _ H
          refine RW.st H 0 [.int .i64 ((built m [((1, 7) : Wd), ((0, pickOf n 8) : Wd)] (1, 0)).2.1), .int .i64 ((built m [((1, 7) : Wd), ((0, pickOf n 8) : Wd)] (1, 0)).2.2)] [.int .i64 ((built m [((1, 7) : Wd), ((0, pickOf n 8) : Wd)] (1, 0)).2.1), .int .i64 ((built m [((1, 7) : Wd), ((0, pickOf n 8) : Wd)] (1, 0)).2.2)] ?_
          clear H; intro _ _ H
          dsimp only [setL, delL] at H
          refine RW.v ?_
          refine RW.nil ?_
          replace H := ((H.del 2).del 1)
          dsimp only [setL, delL] at H
          refine W.rg [(4, .pointer (some ⟨b1, 0, none⟩)), (6, .pointer (some ⟨b14, 0, none⟩))] fun TA => ?_
          refine W.seq ?_
          refine W.region ?_
          refine RW.ld H 0 2 ?_
          refine RW.st H 1 [.int .i64 ((built m [((1, 7) : Wd), ((0, pickOf n 8) : Wd)] (1, 0)).2.1), .int .i64 ((built m [((1, 7) : Wd), ((0, pickOf n 8) : Wd)] (1, 0)).2.2)] [.int .i64 ((built m [((1, 7) : Wd), ((0, pickOf n 8) : Wd)] (1, 0)).2.1), .int .i64 ((built m [((1, 7) : Wd), ((0, pickOf n 8) : Wd)] (1, 0)).2.2)] ?_
          clear H; intro _ _ H
          dsimp only [setL, delL] at H
          refine RW.nil ?_
          replace H := (H.del 0)
          dsimp only [setL, delL] at H
          refine W.rg [(4, .pointer (some ⟨b1, 0, none⟩))] fun TA => ?_
          refine W.ret ?_
          refine blkQ_ret ?_
          refine endG (by rfl) (by exact resL_cell rfl (H.get 0 rfl) (by rw [uT_eq]; exact Tryd.underlying28) (by kernel_rfl) rfl rfl rfl) ?_
          exact ⟨(built m [((1, 7) : Wd), ((0, pickOf n 8) : Wd)] (1, 0)).1, (((built m [((1, 7) : Wd), ((0, pickOf n 8) : Wd)] (1, 0)).2.1, (built m [((1, 7) : Wd), ((0, pickOf n 8) : Wd)] (1, 0)).2.2) : Wd), rfl, (ext_built hf [((1, 7) : Wd), ((0, pickOf n 8) : Wd)] (1, 0)), fun e => absurd (e.symm.trans built_kind) (by decide), (H.del 0)⟩
        · have hc11b := hc11
          have hc11 := ne_of_beq_false hc11
          refine W.seq ?_
          refine W.region ?_
          refine RW.v ?_
          refine RW.v ?_
          refine RW.nil ?_
          refine W.rg [(4, .pointer (some ⟨b1, 0, none⟩)), (5, .int .i64 (pickOf n 8)), (32, .bool ((pickOf n 8) == 7))] fun TA => ?_
          refine W.cond rfl (fun hc15 => ?_) (fun hc15 => ?_)
          · have hc15b := hc15
            have hc15 := eq_of_beq hc15
            refine W.seq ?_
            refine W.region ?_
            refine RW.call (by kernel_rfl) (by kernel_rfl) rfl rfl rfl (by kernel_rfl) (by kernel_rfl) ⟨_, _, (s_int (G := G) (9)), ?_⟩
            refine RW.st H 0 [.int .i64 0, .int .i64 9] [.int .i64 0, .int .i64 9] ?_
            clear H; intro _ _ H
            dsimp only [setL, delL] at H
            refine RW.nil ?_
            refine W.rg [(4, .pointer (some ⟨b1, 0, none⟩))] fun TA => ?_
            refine W.ret ?_
            refine blkQ_ret ?_
            refine endG (by rfl) (by exact resL_cell rfl (H.get 0 rfl) (by rw [uT_eq]; exact Tryd.underlying28) (by kernel_rfl) rfl rfl rfl) ?_
            exact ⟨m, ((0, 9) : Wd), rfl, ((ExtH.refl hf).le (by omega)), fun e => absurd e (by decide), (H.del 0)⟩
          · have hc15b := hc15
            have hc15 := ne_of_beq_false hc15
            refine W.seq ?_
            refine W.region ?_
            refine RW.v ?_
            refine RW.valE (v' := .int .i64 (68 + (pickOf n 8))) (by kernel_rfl) (by kernel_rfl) rfl (congrArg (Value.int .i64) (wrap_in (by omega) (by omega))) (by kernel_rfl) ?_
            refine RW.cl ?_
            refine WC.enter (fn := Tryd.f10) Tryd.func10 rfl ?_
            refine W.rg [(0, .int .i64 (68 + (pickOf n 8)))] fun TA => ?_
            refine W.seq ?_
            refine W.region ?_
            refine RW.mk H (.row ⟨[.int .i64 0, .int .i64 0], 28, false⟩) ?_
            clear H; intro _ b16 _ H
            refine RW.nil ?_
            refine W.rg [(0, .int .i64 (68 + (pickOf n 8))), (2, .pointer (some ⟨b16, 0, none⟩))] fun TA => ?_
            refine W.seq ?_
            refine W.region ?_
            refine RW.v ?_
            refine RW.val (v := .agg #[.int .i64 1, .int .i64 (68 + (pickOf n 8))]) (by kernel_rfl) (by kernel_rfl) (by kernel_rfl) (by kernel_rfl) ?_
            refine RW.st H 0 [.int .i64 1, .int .i64 (68 + (pickOf n 8))] [.int .i64 1, .int .i64 (68 + (pickOf n 8))] ?_
            clear H; intro _ _ H
            dsimp only [setL, delL] at H
            refine RW.nil ?_
            refine W.rg [(2, .pointer (some ⟨b16, 0, none⟩))] fun TA => ?_
            refine W.ret ?_
            refine endG (by rfl) (by exact resL_cell rfl (H.get 0 rfl) (by rw [uT_eq]; exact Tryd.underlying28) (by kernel_rfl) rfl rfl rfl) ?_
            refine RW.st H 1 [.int .i64 1, .int .i64 (68 + (pickOf n 8))] [.int .i64 1, .int .i64 (68 + (pickOf n 8))] ?_
            clear H; intro _ _ H
            dsimp only [setL, delL] at H
            refine RW.nil ?_
            replace H := (H.del 0)
            dsimp only [setL, delL] at H
            refine W.rg [(4, .pointer (some ⟨b1, 0, none⟩))] fun TA => ?_
            refine W.ret ?_
            refine blkQ_ret ?_
            refine endG (by rfl) (by exact resL_cell rfl (H.get 0 rfl) (by rw [uT_eq]; exact Tryd.underlying28) (by kernel_rfl) rfl rfl rfl) ?_
            exact ⟨m, ((1, 68 + (pickOf n 8)) : Wd), rfl, ((ExtH.refl hf).le (by omega)), fun _ => (by dsimp only; omega), (H.del 0)⟩
set_option maxHeartbeats 2000000 in
theorem value_wc {l : List Int} {v : Value} (hG : G ≤ σ0.next) (ha : σ0.abs = heapAbs h m) (hf : m.free = []) (hr : m.many + 3 * l.length ≤ m.limit) (hlim : m.limit ≤ 65536) (hlo : 0 < m.limit) (hs : SlF σ0.get 1 v l.length (l.map (Value.int .i64))) (hb : ∀ x ∈ l, -9223372036854775808 ≤ x ∧ x ≤ 9223372036854775807) (hl : l.length ≤ 12) :
    WC G Tryd.prog 14 #[pp h, v, .bool false] σ0 fun r σ' => ∃ m' w ws c, r = wdV w ∧ ExtH m m' (3 * l.length) ∧ c 0 = w ∧ Chain m' c ws ∧ ws.length = l.length ∧ (∀ x ∈ ws, Fine x) ∧ Lies G (heapAbs h m') σ0.get σ' [] := by
  have H := Lies.start hG ha
  generalize σ0.get = F at H hs ⊢
  refine WC.enter (fn := Tryd.f14) Tryd.func14 rfl ?_
  refine W.rg [(0, .pointer (some ⟨h, 0, none⟩)), (1, v), (2, .bool false)] fun TA => ?_
  refine W.seq ?_
  refine W.region ?_
  refine RW.mk H (.row ⟨[.int .i64 0, .int .i64 0], 28, false⟩) ?_
  clear H; intro _ b1 _ H
  refine RW.nil ?_
  refine W.rg [(0, .pointer (some ⟨h, 0, none⟩)), (1, v), (2, .bool false), (6, .pointer (some ⟨b1, 0, none⟩))] fun TA => ?_
  refine W.seq ?_
  refine W.region ?_
  refine RW.v ?_
  refine RW.nil ?_
  refine W.rg [(0, .pointer (some ⟨h, 0, none⟩)), (1, v), (2, .bool false), (6, .pointer (some ⟨b1, 0, none⟩)), (7, .slice none 0 0)] fun TA => ?_
  refine W.seq ?_
  refine W.seq ?_
  refine W.region ?_
  refine RW.v ?_
  refine RW.nil ?_
  refine W.rg [(0, .pointer (some ⟨h, 0, none⟩)), (1, v), (2, .bool false), (6, .pointer (some ⟨b1, 0, none⟩)), (7, .slice none 0 0), (8, .int .i64 0)] fun TA => ?_
  refine W.block ?_
  replace H := H.nilSl 28 2
  refine W.loop (fun mm ta σ => ∃ (i : Nat) (m1 : HM) (ws : List Wd) (u : Value), (mm + i = l.length) ∧ (ws.length = i) ∧ (ExtH m m1 (2 * i)) ∧ (∀ x ∈ ws, Fine x) ∧ Lies G (heapAbs h m1) F σ [.sl 28 2 u i (wdC ws), .at_ b1 (.row ⟨[.int .i64 0, .int .i64 0], 28, false⟩)] ∧ ta 0 = .pointer (some ⟨h, 0, none⟩) ∧ ta 1 = v ∧ ta 2 = .bool false ∧ ta 6 = .pointer (some ⟨b1, 0, none⟩) ∧ ta 7 = u ∧ ta 8 = .int .i64 ((i : Nat) : Int)) l.length ?_ ?_
  · exact ⟨0, m, [], .slice none 0 0, (by omega), rfl, ((ExtH.refl hf).le (by omega)), (fun _ h => by cases h), H, rfl, rfl, rfl, rfl, rfl, rfl⟩
  clear H
  rintro mm ta _ ⟨i, m1, ws, u, hm, hi, E, hws, H, e0, e1, e2, e6, e7, e8⟩
  refine W.rst [(0, .pointer (some ⟨h, 0, none⟩)), (1, v), (2, .bool false), (6, .pointer (some ⟨b1, 0, none⟩)), (7, u), (8, .int .i64 ((i : Nat) : Int))] ⟨e0, e1, e2, e6, e7, e8, trivial⟩ fun TA => ?_
  clear e0 e1 e2 e6 e7 e8
  refine W.seq ?_
  refine W.seq ?_
  refine W.region ?_
  refine RW.v ?_
  refine RW.v ?_
  refine RW.len (by kernel_rfl) (by kernel_rfl) rfl rfl rfl rfl (hs.len (e := 3) (by kernel_rfl)) (by kernel_rfl) ?_
  refine RW.v ?_
  refine RW.nil ?_
  refine W.rg [(0, .pointer (some ⟨h, 0, none⟩)), (1, v), (2, .bool false), (6, .pointer (some ⟨b1, 0, none⟩)), (7, u), (8, .int .i64 ((i : Nat) : Int)), (14, .bool (decide (((i : Nat) : Int) < (l.length : Int))))] fun TA => ?_
  refine W.cond rfl (fun hc2 => ?_) (fun hc2 => ?_)
  · have hc2b := hc2
    have hc2 := of_decide_eq_true hc2
    have hil : i < l.length := by omega
    have hx := hb _ (getD_mem hil)
    refine W.skip ?_
    refine W.seq ?_
    refine W.block ?_
    refine W.region ?_
    refine RW.v ?_
    refine RW.v ?_
    refine RW.v ?_
    refine RW.v ?_
    refine RW.idxF hs (by kernel_rfl) (by kernel_rfl) rfl Tryd.underlying43 (by kernel_rfl) rfl rfl ⟨by omega, by omega⟩ (by kernel_rfl) ?_
    intro b3 q4 r5 hF6 hE7
    rw [ints_at (l := l) (j := i) (by omega)] at hE7
    refine RW.loads 1 (by kernel_rfl) (by kernel_rfl) rfl rfl (H.old _ _ hF6) hE7 rfl (by kernel_rfl) ?_
    refine RW.call (by kernel_rfl) (by kernel_rfl) rfl rfl rfl (by kernel_rfl) (by kernel_rfl) ((word_wc (G := G) (h := h) (m := m1) (l.getD i 0) H.gn H.abs E.free (by have := E.many; rw [E.lim]; omega) (by rw [E.lim]; exact hlim) hx.1 hx.2).mono ?_)
    rintro _ _ ⟨m2, w, rfl, E2, hw, K⟩
    replace H := H.then K
    clear K
    dsimp only [List.nil_append, List.cons_append] at H
    refine RW.mkL H (x := .row ⟨[.int .i64 w.1, .int .i64 w.2], 28, false⟩) (fm := fun b => .slice (some ⟨b, 0, none⟩) 1 1) (by kernel_rfl) (by kernel_rfl) (by kernel_rfl) (by kernel_rfl) ?_
    clear H; intro _ b8 _ H
    refine RW.appL H 1 0 (n := 1) (e2 := 28) (by kernel_rfl) (by kernel_rfl) rfl rfl rfl rfl rfl rfl rfl rfl (by kernel_rfl) (by kernel_rfl) (by kernel_rfl) (by decide) (by decide) rfl rfl (by omega) (by kernel_rfl) ?_
    clear H; intro _ v9 _ H
    dsimp only [setL, delL] at H
    refine RW.v ?_
    refine RW.nil ?_
    refine blkQ_normal ?_
    refine W.rg [(0, .pointer (some ⟨h, 0, none⟩)), (1, v), (2, .bool false), (6, .pointer (some ⟨b1, 0, none⟩)), (7, v9), (8, .int .i64 ((i : Nat) : Int))] fun TA => ?_
    refine W.region ?_
    refine RW.v ?_
    refine RW.valE (v' := .int .i64 (((i : Nat) : Int) + 1)) (by kernel_rfl) (by kernel_rfl) rfl (congrArg (Value.int .i64) (wrap_in (by omega) (by omega))) (by kernel_rfl) ?_
    refine RW.v ?_
    refine RW.nil ?_
    rw [wdC_snoc ws w] at H
    exact ⟨rfl, mm - 1, by omega, i + 1, m2, ws ++ [w], v9, (by omega), (by simp [hi]), ((E.trans E2).le (by omega)), (fun x hx => by exact (List.mem_append.1 hx).elim (hws x) (fun h => (List.mem_singleton.1 h) ▸ hw)), H, rfl, rfl, rfl, rfl, rfl, rfl⟩
  · have hc2b := hc2
    have hc2 := of_decide_eq_false hc2
    refine W.exit _ ?_
    refine seqQ_exit ?_
    refine rndQ_exit ?_
    refine blkQ_here ?_
    refine W.seq ?_
    refine W.seq ?_
    refine W.region ?_
    refine RW.v ?_
    refine RW.v ?_
    refine RW.skip (by rfl) (by kernel_rfl) ?_
    refine RW.skip (by rfl) (by kernel_rfl) ?_
    refine RW.skip (by rfl) (by kernel_rfl) ?_
    refine RW.v ?_
    refine RW.nil ?_
    refine W.rg [(0, .pointer (some ⟨h, 0, none⟩)), (6, .pointer (some ⟨b1, 0, none⟩)), (7, u), (31, .bool false)] fun TA => ?_
    refine W.c0 ?_
    refine W.skip ?_
    refine W.seq ?_
    refine W.region ?_
    refine RW.v ?_
    refine RW.v ?_
    obtain rfl : i = ws.length := by omega
    refine RW.call (by kernel_rfl) (by kernel_rfl) rfl rfl rfl (by kernel_rfl) (by kernel_rfl) ((make_lies (G := G) (h := h) (m := m1) (l := ws) H (grow_vw (H.sl 0 rfl)) (H.sl 0 rfl).one E.free (by rw [E.lim]; have := E.many; omega) (by rw [E.lim]; omega) (by rw [E.lim]; exact hlim)).mono ?_)
    clear H
    rintro _ _ ⟨rfl, H⟩
    refine RW.v ?_
    refine RW.v ?_
    refine RW.v ?_
    refine RW.mk H (.row ⟨[.int .i64 0, .int .i64 0], 28, false⟩) ?_
    clear H; intro _ b10 _ H
    refine RW.st H 0 [.int .i64 ((built m1 ws (1, 0)).2.1), .int .i64 ((built m1 ws (1, 0)).2.2)] [.int .i64 ((built m1 ws (1, 0)).2.1), .int .i64 ((built m1 ws (1, 0)).2.2)] ?_
    clear H; intro _ _ H
    dsimp only [setL, delL] at H
    refine RW.v ?_
    refine RW.nil ?_
    replace H := (H.del 1)
    dsimp only [setL, delL] at H
    refine W.rg [(6, .pointer (some ⟨b1, 0, none⟩)), (9, .pointer (some ⟨b10, 0, none⟩))] fun TA => ?_
    refine W.seq ?_
    refine W.region ?_
    refine RW.ld H 0 2 ?_
    refine RW.st H 1 [.int .i64 ((built m1 ws (1, 0)).2.1), .int .i64 ((built m1 ws (1, 0)).2.2)] [.int .i64 ((built m1 ws (1, 0)).2.1), .int .i64 ((built m1 ws (1, 0)).2.2)] ?_
    clear H; intro _ _ H
    dsimp only [setL, delL] at H
    refine RW.nil ?_
    replace H := (H.del 0)
    dsimp only [setL, delL] at H
    refine W.rg [(6, .pointer (some ⟨b1, 0, none⟩))] fun TA => ?_
    refine W.ret ?_
    refine endG (by rfl) (by exact resL_cell rfl (H.get 0 rfl) (by rw [uT_eq]; exact Tryd.underlying28) (by kernel_rfl) rfl rfl rfl) ?_
    exact ⟨(built m1 ws (1, 0)).1, _, ws, consOf m1 ws (1, 0), rfl, (E.trans (ext_built E.free ws (1, 0))).le (by omega), (built_word m1 ws (1, 0)).symm, chain_built m1 ws, by omega, hws, (H.del 0)⟩
end
end Go.Proofs.YtaaebeiigkhcjaaDoor
