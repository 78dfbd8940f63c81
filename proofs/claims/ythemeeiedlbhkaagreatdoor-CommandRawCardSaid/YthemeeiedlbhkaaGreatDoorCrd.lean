/-
  CommandRaw in the second memory. Conditions: the variable none as laid.
-/
import Derived.Test.YthemeeiedlbhkaaGreatDoorCrc
namespace Go.Proofs.YthemeeiedlbhkaaGreatDoor
set_option maxRecDepth 100000
theorem val_in {k n : Int} {c : Bool} (h : Pfx k n c) : -2305843009213693952 ≤ valP k n ∧ valP k n ≤ 2305843009213693951 := by
  unfold valP
  rcases h with ⟨rfl, rfl, _⟩ | ⟨rfl, h1, h2, _⟩ | ⟨rfl, rfl, _⟩ | ⟨rfl, h1, h2⟩ <;> simp <;> omega
theorem pre_open {k n : Int} {c : Bool} (h : Pfx k n c) : Pfx k n false := by
  rcases h with ⟨h1, h2, _⟩ | ⟨h1, h2, h3, _⟩ | ⟨h1, h2, _⟩ | ⟨h1, h2, h3⟩
  · exact .inl ⟨h1, h2, rfl⟩
  · exact .inr (.inl ⟨h1, h2, h3, rfl⟩)
  · exact .inr (.inr (.inl ⟨h1, h2, rfl⟩))
  · exact .inr (.inr (.inr ⟨h1, h2, h3⟩))
theorem getW_mem {l : List Wd} {j : Nat} (h : j < l.length) : l.getD j (0, 0) ∈ l := by
  rw [List.getD_eq_getElem?_getD, List.getElem?_eq_getElem h]
  exact List.getElem_mem h
set_option maxHeartbeats 16000000 in
theorem raw_law {σ0 : Mem} {v1 : Value} {l : List Wd} (hG : G65 ≤ σ0.next) (hno : σ0.abs = Abs.no) (CK : SCall G65 Tryz.prog 4 #[] σ0 (.bool true) σ0) (hl : SlF σ0.get 2 v1 l.length (wdC l)) (hb : ∀ x ∈ l, (-9223372036854775808 ≤ x.1 ∧ x.1 ≤ 9223372036854775807) ∧ (-9223372036854775808 ≤ x.2 ∧ x.2 ≤ 9223372036854775807)) {tN : TypeId} {gN : Bool} (hN : σ0.get 0 = some (.row ⟨[.int .i64 1, .int .i64 0], tN, gN⟩)) :
    WC G65 Tryz.prog 7 #[v1] σ0 fun v _ => v = .bool true := by
  have H := Lies.start hG hno
  generalize σ0.get = F at H hl hN
  refine WC.enter (fn := Tryz.f7) Tryz.func7 rfl ?_
  refine W.rg [(0, v1)] fun TA => ?_
  refine W.seq (W.region ?_)
  refine RW.v ?_
  refine RW.nil ?_
  refine W.rg [(0, v1)] fun TA => ?_
  refine W.seq (W.region ?_)
  refine RW.call (by kernel_rfl) (by kernel_rfl) rfl rfl rfl (by kernel_rfl) (by kernel_rfl) ⟨_, _, CK, ?_⟩
  clear CK
  refine RW.v ?_
  refine RW.nil ?_
  refine W.rg [(0, v1), (3, .bool true)] fun TA => ?_
  refine W.seq ?_
  refine W.seq (W.region ?_)
  refine RW.v ?_
  refine RW.len (by kernel_rfl) (by kernel_rfl) rfl rfl rfl rfl (hl.len (e := 71) (by kernel_rfl)) (by kernel_rfl) ?_
  refine RW.v ?_
  refine RW.nil ?_
  refine W.rg [(0, v1), (3, .bool true), (16, .bool (decide ((l.length : Int) > 60)))] fun TA => ?_
  refine W.cond rfl (fun hc1 => ?_) (fun hc1 => ?_)
  · have hc1b := hc1
    have hc1 := of_decide_eq_true hc1
    refine W.seq (W.region ?_)
    iterate 2 refine RW.v ?_
    refine RW.nil ?_
    refine W.rg [(2, .bool true)] fun TA => ?_
    refine W.ret ?_
    refine seqQ_ret ?_
    refine endG (by rfl) (by exact resL_tmp rfl) ?_
    exact rfl
  · have hc1b := hc1
    have hc1 := of_decide_eq_false hc1
    refine W.skip ?_
    refine W.seq (W.region ?_)
    refine RW.call (by kernel_rfl) (by kernel_rfl) rfl rfl rfl (by kernel_rfl) (by kernel_rfl) ((new_lies (G := G65) 200 (by decide) (by decide) H).mono ?_)
    clear H
    rintro _ _ ⟨h, rfl, H⟩
    iterate 5 refine RW.v ?_
    refine RW.nil ?_
    refine W.rg [(0, v1), (3, .bool true), (4, .pointer (some ⟨h, 0, none⟩)), (5, .int .i64 0)] fun TA => ?_
    refine W.seq ?_
    refine W.seq (W.region ?_)
    iterate 2 refine RW.v ?_
    refine RW.nil ?_
    refine W.rg [(0, v1), (3, .bool true), (4, .pointer (some ⟨h, 0, none⟩)), (23, .bool false)] fun TA => ?_
    refine W.c0 ?_
    refine W.skip ?_
    refine W.seq (W.region ?_)
    refine RW.call (by kernel_rfl) (by kernel_rfl) rfl rfl rfl (by kernel_rfl) (by kernel_rfl) ((new_wc H.gn H.abs).mono ?_)
    rintro _ _ ⟨T, M, u0, rfl, K⟩
    replace H := H.then K
    clear K
    refine RW.v ?_
    refine RW.nil ?_
    refine W.rg [(0, v1), (3, .bool true), (4, .pointer (some ⟨h, 0, none⟩)), (6, .pointer (some ⟨T, 0, none⟩))] fun TA => ?_
    refine W.seq (W.region ?_)
    refine RW.val (v := .agg #[.int .i64 0, .int .i64 0, .bool false]) (by kernel_rfl) (by kernel_rfl) (by kernel_rfl) (by kernel_rfl) ?_
    refine RW.mk H (.row ⟨[.int .i64 0, .int .i64 0, .bool false], 70, false⟩) ?_
    clear H; intro _ b2 _ H
    refine RW.st H 0 [.int .i64 0, .int .i64 0, .bool false] [.int .i64 0, .int .i64 0, .bool false] ?_
    clear H; intro _ _ H; dsimp only [setL, delL] at H
    refine RW.nil ?_
    refine W.rg [(0, v1), (3, .bool true), (4, .pointer (some ⟨h, 0, none⟩)), (6, .pointer (some ⟨T, 0, none⟩)), (7, .pointer (some ⟨b2, 0, none⟩))] fun TA => ?_
    refine W.seq ?_
    refine W.seq (W.region ?_)
    refine RW.v ?_
    refine RW.nil ?_
    refine W.rg [(0, v1), (3, .bool true), (4, .pointer (some ⟨h, 0, none⟩)), (6, .pointer (some ⟨T, 0, none⟩)), (7, .pointer (some ⟨b2, 0, none⟩)), (8, .int .i64 0)] fun TA => ?_
    refine W.block ?_
    refine W.loop (fun mm ta σ => ∃ (j : Nat) (m1 : HM) (k : Int) (n : Int) (c : Bool) (u : Value) (d : Bool), (mm + j = l.length) ∧ (ExtH (hm0 200) m1 j) ∧ (Pfx k n c) ∧ Lies G65 (heapAbs h m1) F σ (.at_ b2 (.row ⟨[.int .i64 k, .int .i64 n, .bool c], 70, false⟩) :: (tabL T M u d ++ [])) ∧ ta 0 = v1 ∧ ta 3 = .bool true ∧ ta 4 = .pointer (some ⟨h, 0, none⟩) ∧ ta 6 = .pointer (some ⟨T, 0, none⟩) ∧ ta 7 = .pointer (some ⟨b2, 0, none⟩) ∧ ta 8 = .int .i64 ((j : Nat) : Int)) l.length ?_ ?_
    · exact ⟨0, hm0 200, 0, 0, false, u0, false, (by omega), ((ExtH.refl rfl).le (by omega)), (.inl ⟨rfl, rfl, rfl⟩), H, rfl, rfl, rfl, rfl, rfl, rfl⟩
    clear H
    rintro mm ta _ ⟨j, m1, k, n, c, u, d, hm, E, hp, H, e0, e3, e4, e6, e7, e8⟩
    refine W.rst [(0, v1), (3, .bool true), (4, .pointer (some ⟨h, 0, none⟩)), (6, .pointer (some ⟨T, 0, none⟩)), (7, .pointer (some ⟨b2, 0, none⟩)), (8, .int .i64 ((j : Nat) : Int))] ⟨e0, e3, e4, e6, e7, e8, trivial⟩ fun TA => ?_
    clear e0 e3 e4 e6 e7 e8
    refine W.seq ?_
    refine W.seq (W.region ?_)
    iterate 2 refine RW.v ?_
    refine RW.len (by kernel_rfl) (by kernel_rfl) rfl rfl rfl rfl (hl.len (e := 71) (by kernel_rfl)) (by kernel_rfl) ?_
    refine RW.v ?_
    refine RW.nil ?_
    refine W.rg [(0, v1), (3, .bool true), (4, .pointer (some ⟨h, 0, none⟩)), (6, .pointer (some ⟨T, 0, none⟩)), (7, .pointer (some ⟨b2, 0, none⟩)), (8, .int .i64 ((j : Nat) : Int)), (29, .bool (decide (((j : Nat) : Int) < (l.length : Int))))] fun TA => ?_
    refine W.cond rfl (fun hc3 => ?_) (fun hc3 => ?_)
    · have hc3b := hc3
      have hc3 := of_decide_eq_true hc3
      have hj : j < l.length := by omega
      have hx := hb _ (getW_mem hj)
      refine W.skip ?_
      refine W.seq ?_
      refine W.block ?_
      refine W.seq ?_
      refine W.seq (W.region ?_)
      iterate 2 refine RW.v ?_
      refine RW.idxF hl (by kernel_rfl) (by kernel_rfl) rfl Tryz.underlying63 (by kernel_rfl) rfl rfl ⟨by omega, by omega⟩ (by kernel_rfl) ?_
      intro b4 q5 r6 hF7 hE8
      rw [wdC_at (l := l) (j := j) (by omega)] at hE8
      refine RW.v ?_
      refine RW.loads 1 (by kernel_rfl) (by kernel_rfl) rfl rfl (H.old _ _ hF7) (sub_take hE8 0 1 (by decide)) rfl (by kernel_rfl) ?_
      refine RW.call (by kernel_rfl) (by kernel_rfl) rfl rfl rfl (by kernel_rfl) (by kernel_rfl) ⟨_, _, (s_pick (G := G65) ((l.getD j (0, 0)).1) 3 (by omega) (by omega) (by decide) (by decide)), ?_⟩
      have hp9 := pickOf_in ((l.getD j (0, 0)).1) (show (0 : Int) < 3 by decide)
      refine RW.nil ?_
      refine W.rg [(0, v1), (3, .bool true), (4, .pointer (some ⟨h, 0, none⟩)), (6, .pointer (some ⟨T, 0, none⟩)), (7, .pointer (some ⟨b2, 0, none⟩)), (8, .int .i64 ((j : Nat) : Int)), (37, .int .i64 (pickOf ((l.getD j (0, 0)).1) 3))] fun TA => ?_
      refine W.block ?_
      refine W.seq (W.region ?_)
      iterate 2 refine RW.v ?_
      refine RW.nil ?_
      refine W.rg [(0, v1), (3, .bool true), (4, .pointer (some ⟨h, 0, none⟩)), (6, .pointer (some ⟨T, 0, none⟩)), (7, .pointer (some ⟨b2, 0, none⟩)), (8, .int .i64 ((j : Nat) : Int)), (37, .int .i64 (pickOf ((l.getD j (0, 0)).1) 3)), (43, .bool ((pickOf ((l.getD j (0, 0)).1) 3) == 0))] fun TA => ?_
      refine W.cond rfl (fun hc10 => ?_) (fun hc10 => ?_)
      · have hc10b := hc10
        have hc10 := eq_of_beq hc10
        refine W.region ?_
        refine RW.ld H 0 3 ?_
        refine RW.call (by kernel_rfl) (by kernel_rfl) rfl rfl rfl (by kernel_rfl) (by kernel_rfl) ((uni_wc (G := G65) (k := k) (n := n) (c := c) H.gn H.abs hp).mono ?_)
        rintro _ _ ⟨k0', n0', c0', rfl, hp0', K⟩
        replace H := H.then K
        clear K
        replace H : Lies G65 (heapAbs h m1) F _ (.at_ b2 (.row ⟨[.int .i64 k, .int .i64 n, .bool c], 70, false⟩) :: (tabL T M u d ++ [])) := H
        refine RW.st H 0 [.int .i64 k0', .int .i64 n0', .bool c0'] [.int .i64 k0', .int .i64 n0', .bool c0'] ?_
        clear H; intro _ _ H; dsimp only [setL, delL] at H
        refine RW.nil ?_
        refine blkQ_normal ?_
        refine W.rg [(0, v1), (3, .bool true), (4, .pointer (some ⟨h, 0, none⟩)), (6, .pointer (some ⟨T, 0, none⟩)), (7, .pointer (some ⟨b2, 0, none⟩)), (8, .int .i64 ((j : Nat) : Int))] fun TA => ?_
        refine W.seq (W.region ?_)
        iterate 2 refine RW.v ?_
        refine RW.ld H 0 3 ?_
        replace H := H.rot (B := [.at_ b2 (.row ⟨[.int .i64 k0', .int .i64 n0', .bool c0'], 70, false⟩)]) (X := tabL T M u d) (L := [])
        have hN' := hN
        refine RW.call (by kernel_rfl) (by kernel_rfl) rfl rfl rfl (by kernel_rfl) (by kernel_rfl) ((raw_wc (k := k0') (n := n0') (c := c0') hp0' hN' E.free (by have := E.many; rw [hm0_many] at this; rw [E.lim]; show _ + 1 ≤ 200; omega) (by rw [E.lim]; decide) H).mono ?_)
        clear H
        rintro _ _ ⟨m2, u2, d2, w, rfl, hR, E2, H⟩
        replace H : Lies G65 (heapAbs h m2) F _ (.at_ b2 (.row ⟨[.int .i64 k0', .int .i64 n0', .bool c0'], 70, false⟩) :: (tabL T M u2 d2 ++ [])) := H.rot (B := tabL T M u2 d2) (X := [.at_ b2 (.row ⟨[.int .i64 k0', .int .i64 n0', .bool c0'], 70, false⟩)]) (L := [])
        iterate 3 refine RW.v ?_
        refine RW.mk H (.row ⟨[.int .i64 0, .int .i64 0], 76, false⟩) ?_
        clear H; intro _ b11 _ H
        refine RW.st H 0 [.int .i64 w.1, .int .i64 w.2] [.int .i64 w.1, .int .i64 w.2] ?_
        clear H; intro _ _ H; dsimp only [setL, delL] at H
        refine RW.v ?_
        refine RW.nil ?_
        refine W.rg [(0, v1), (3, .bool true), (4, .pointer (some ⟨h, 0, none⟩)), (6, .pointer (some ⟨T, 0, none⟩)), (7, .pointer (some ⟨b2, 0, none⟩)), (8, .int .i64 ((j : Nat) : Int)), (9, .pointer (some ⟨b11, 0, none⟩)), (10, .int .i64 0)] fun TA => ?_
        refine W.seq (W.region ?_)
        iterate 2 refine RW.v ?_
        refine RW.ld H 0 2 ?_
        replace H := H.rot (B := [.at_ b11 (.row ⟨[.int .i64 w.1, .int .i64 w.2], 76, false⟩), .at_ b2 (.row ⟨[.int .i64 k0', .int .i64 n0', .bool c0'], 70, false⟩)]) (X := tabL T M u2 d2) (L := [])
        refine RW.call (by kernel_rfl) (by kernel_rfl) rfl rfl rfl (by kernel_rfl) (by kernel_rfl) ((from_wc (k := k0') (n := n0') (c := c0') hp0' hR H).mono ?_)
        clear H
        rintro _ _ ⟨rfl, u3, H⟩
        replace H : Lies G65 (heapAbs h m2) F _ (.at_ b11 (.row ⟨[.int .i64 w.1, .int .i64 w.2], 76, false⟩) :: .at_ b2 (.row ⟨[.int .i64 k0', .int .i64 n0', .bool c0'], 70, false⟩) :: (tabL T M u3 d2 ++ [])) := H.rot (B := tabL T M u3 d2) (X := [.at_ b11 (.row ⟨[.int .i64 w.1, .int .i64 w.2], 76, false⟩), .at_ b2 (.row ⟨[.int .i64 k0', .int .i64 n0', .bool c0'], 70, false⟩)]) (L := [])
        have hq := pre_open hp0'
        have hv := val_in hp0'
        refine RW.mk H (.row ⟨[.int .i64 0, .int .i64 0, .bool false], 70, false⟩) ?_
        clear H; intro _ b12 _ H
        refine RW.st H 0 [.int .i64 k0', .int .i64 n0', .bool false] [.int .i64 k0', .int .i64 n0', .bool false] ?_
        clear H; intro _ _ H; dsimp only [setL, delL] at H
        refine RW.nil ?_
        replace H := (H.del 1)
        dsimp only [setL, delL] at H
        refine W.rg [(0, v1), (3, .bool true), (4, .pointer (some ⟨h, 0, none⟩)), (6, .pointer (some ⟨T, 0, none⟩)), (7, .pointer (some ⟨b2, 0, none⟩)), (8, .int .i64 ((j : Nat) : Int)), (10, .int .i64 0), (11, .pointer (some ⟨b12, 0, none⟩))] fun TA => ?_
        refine W.seq (W.region ?_)
        refine RW.ld H 1 3 ?_
        refine RW.call (by kernel_rfl) (by kernel_rfl) rfl rfl rfl (by kernel_rfl) (by kernel_rfl) ((value_wc (G := G65) (k := k0') (n := n0') (c := c0') H.gn H.abs hp0').mono ?_)
        rintro _ _ ⟨rfl, K⟩
        replace H := H.then K
        clear K
        replace H : Lies G65 (heapAbs h m2) F _ (.at_ b12 (.row ⟨[.int .i64 k0', .int .i64 n0', .bool false], 70, false⟩) :: .at_ b2 (.row ⟨[.int .i64 k0', .int .i64 n0', .bool c0'], 70, false⟩) :: (tabL T M u3 d2 ++ [])) := H
        refine RW.v ?_
        refine RW.nil ?_
        refine W.rg [(0, v1), (3, .bool true), (4, .pointer (some ⟨h, 0, none⟩)), (6, .pointer (some ⟨T, 0, none⟩)), (7, .pointer (some ⟨b2, 0, none⟩)), (8, .int .i64 ((j : Nat) : Int)), (10, .int .i64 0), (11, .pointer (some ⟨b12, 0, none⟩)), (12, .int .i64 (valP k0' n0'))] fun TA => ?_
        refine W.seq (W.region ?_)
        iterate 3 refine RW.v ?_
        refine RW.val (by rfl) (by kernel_rfl) rfl (by kernel_rfl) ?_
        refine RW.ldL H 0 1 (by rfl) (by kernel_rfl) rfl rfl rfl rfl rfl (by kernel_rfl) ?_
        refine RW.val (by rfl) (by kernel_rfl) rfl (by kernel_rfl) ?_
        refine RW.ldL H 1 1 (by rfl) (by kernel_rfl) rfl rfl rfl rfl rfl (by kernel_rfl) ?_
        refine RW.valE (v' := .bool false) (by rfl) (by kernel_rfl) rfl (congrArg Value.bool (bne_eq_false_iff_eq.2 (by rfl))) (by kernel_rfl) ?_
        iterate 2 refine RW.v ?_
        refine RW.val (by rfl) (by kernel_rfl) rfl (by kernel_rfl) ?_
        refine RW.ldL H 0 1 (by rfl) (by kernel_rfl) rfl rfl rfl rfl rfl (by kernel_rfl) ?_
        refine RW.val (by rfl) (by kernel_rfl) rfl (by kernel_rfl) ?_
        refine RW.ldL H 1 1 (by rfl) (by kernel_rfl) rfl rfl rfl rfl rfl (by kernel_rfl) ?_
        refine RW.valE (v' := .bool false) (by rfl) (by kernel_rfl) rfl (congrArg Value.bool (bne_eq_false_iff_eq.2 (by rfl))) (by kernel_rfl) ?_
        iterate 2 refine RW.v ?_
        refine RW.val (by rfl) (by kernel_rfl) rfl (by kernel_rfl) ?_
        refine RW.ldL H 0 1 (by rfl) (by kernel_rfl) rfl rfl rfl rfl rfl (by kernel_rfl) ?_
        iterate 2 refine RW.v ?_
        refine RW.val (by rfl) (by kernel_rfl) rfl (by kernel_rfl) ?_
        refine RW.valE (v' := .bool false) (by rfl) (by kernel_rfl) rfl (congrArg Value.bool (decide_eq_false (by omega))) (by kernel_rfl) ?_
        iterate 2 refine RW.v ?_
        refine RW.val (by rfl) (by kernel_rfl) rfl (by kernel_rfl) ?_
        refine RW.valE (v' := .bool false) (by rfl) (by kernel_rfl) rfl (congrArg Value.bool (decide_eq_false (by omega))) (by kernel_rfl) ?_
        iterate 2 refine RW.v ?_
        refine RW.ldL H 0 3 (by rfl) (by kernel_rfl) rfl rfl rfl rfl rfl (by kernel_rfl) ?_
        refine RW.call (by rfl) (by kernel_rfl) rfl rfl rfl (by kernel_rfl) (by kernel_rfl) ((value_wc (G := G65) (k := k0') (n := n0') (c := false) H.gn H.abs hq).mono ?_)
        rintro _ _ ⟨rfl, K⟩
        replace H := H.then K
        clear K
        replace H : Lies G65 (heapAbs h m2) F _ (.at_ b12 (.row ⟨[.int .i64 k0', .int .i64 n0', .bool false], 70, false⟩) :: .at_ b2 (.row ⟨[.int .i64 k0', .int .i64 n0', .bool c0'], 70, false⟩) :: (tabL T M u3 d2 ++ [])) := H
        refine RW.val (by rfl) (by kernel_rfl) rfl (by kernel_rfl) ?_
        refine RW.valE (v' := .bool false) (by rfl) (by kernel_rfl) rfl (congrArg Value.bool (bne_eq_false_iff_eq.2 (by rfl))) (by kernel_rfl) ?_
        refine RW.v ?_
        refine RW.nil ?_
        replace H := (H.del 0)
        dsimp only [setL, delL] at H
        refine W.rg [(0, v1), (3, .bool true), (4, .pointer (some ⟨h, 0, none⟩)), (6, .pointer (some ⟨T, 0, none⟩)), (7, .pointer (some ⟨b2, 0, none⟩)), (8, .int .i64 ((j : Nat) : Int)), (106, .bool false)] fun TA => ?_
        refine W.c0 ?_
        refine W.skip ?_
        refine blkQ_normal ?_
        refine W.region ?_
        refine RW.v ?_
        refine RW.valE (v' := .int .i64 (((j : Nat) : Int) + 1)) (by kernel_rfl) (by kernel_rfl) rfl (congrArg (Value.int .i64) (wrap_in (by omega) (by omega))) (by kernel_rfl) ?_
        refine RW.v ?_
        refine RW.nil ?_
        exact ⟨rfl, mm - 1, by omega, j + 1, m2, k0', n0', c0', u3, d2, (by omega), ((E.trans E2).le (by omega)), hp0', H, rfl, rfl, rfl, rfl, rfl, rfl⟩
      · have hc10b := hc10
        have hc10 := ne_of_beq_false hc10
        refine W.seq (W.region ?_)
        iterate 2 refine RW.v ?_
        refine RW.nil ?_
        refine W.rg [(0, v1), (3, .bool true), (4, .pointer (some ⟨h, 0, none⟩)), (6, .pointer (some ⟨T, 0, none⟩)), (7, .pointer (some ⟨b2, 0, none⟩)), (8, .int .i64 ((j : Nat) : Int)), (47, .bool ((pickOf ((l.getD j (0, 0)).1) 3) == 1))] fun TA => ?_
        refine W.cond rfl (fun hc13 => ?_) (fun hc13 => ?_)
        · have hc13b := hc13
          have hc13 := eq_of_beq hc13
          refine W.drawn (by kernel_rfl) (by kernel_rfl) H.gn ?_
          have H14 := H
          refine RW.ld H14 0 3 ?_
          iterate 2 refine RW.v ?_
          refine RW.idxF hl (by kernel_rfl) (by kernel_rfl) rfl Tryz.underlying63 (by kernel_rfl) rfl rfl ⟨by omega, by omega⟩ (by kernel_rfl) ?_
          intro b15 q16 r17 hF18 hE19
          rw [wdC_at (l := l) (j := j) (by omega)] at hE19
          refine RW.v ?_
          refine RW.loads 1 (by kernel_rfl) (by kernel_rfl) rfl rfl (H14.old _ _ hF18) (sub_take hE19 1 1 (by decide)) rfl (by kernel_rfl) ?_
          refine RW.call (by kernel_rfl) (by kernel_rfl) rfl rfl rfl (by kernel_rfl) (by kernel_rfl) ⟨_, _, (s_pick (G := G65) ((l.getD j (0, 0)).2) 10 (by omega) (by omega) (by decide) (by decide)), ?_⟩
          have hp20 := pickOf_in ((l.getD j (0, 0)).2) (show (0 : Int) < 10 by decide)
          refine RW.call (by kernel_rfl) (by kernel_rfl) rfl rfl rfl (by kernel_rfl) (by kernel_rfl) ((digit_wc (G := G65) (k := k) (n := n) (c := c) H14.gn H14.abs hp (d := pickOf ((l.getD j (0, 0)).2) 10) (by omega) (by omega)).mono ?_)
          rintro _ _ ⟨k1', n1', c1', b1', rfl, hp1', K⟩
          have H21 := H14.then K
          clear K
          dsimp only [List.nil_append, List.cons_append] at H21
          replace H21 : Lies G65 (heapAbs h m1) F _ (.at_ b2 (.row ⟨[.int .i64 k, .int .i64 n, .bool c], 70, false⟩) :: (tabL T M u d ++ [])) := H21
          iterate 3 refine RW.v ?_
          refine RW.stD H21 0 (vs := [.int .i64 k1', .int .i64 n1', .bool c1']) (cs' := [.int .i64 k1', .int .i64 n1', .bool c1']) (by kernel_rfl) (by kernel_rfl) rfl rfl rfl rfl rfl (by kernel_rfl) (Nat.le_of_ble_eq_true rfl) rfl (by kernel_rfl) ?_
          intro _ H22
          dsimp only [setL, delL] at H22
          refine RW.nil ?_
          refine ⟨⟨by kernel_rfl, ⟨dyn_rowM (H14.get 0 rfl) (Or.inl (by kernel_rfl)) ⟨fun h => Bool.noConfusion h, fun h => Bool.noConfusion h, fun h => Bool.noConfusion h, fun h => Bool.noConfusion h, fun h => Bool.noConfusion h, fun h => Bool.noConfusion h, fun _ => Or.inr (H14.get 0 rfl), fun _ => Or.inr (H14.get 0 rfl), fun h => Bool.noConfusion h, fun h => Bool.noConfusion h, fun h => Bool.noConfusion h, fun _ => Or.inl (by kernel_rfl), trivial⟩, trivial, trivial, trivial, trivial, dyn_row (H14.old _ _ hF18) (H22.old _ _ hF18) ⟨fun h => Bool.noConfusion h, fun h => Bool.noConfusion h, fun h => Bool.noConfusion h, fun h => Bool.noConfusion h, fun h => Bool.noConfusion h, fun h => Bool.noConfusion h, fun _ => H14.old _ _ hF18, fun _ => H14.old _ _ hF18, fun h => Bool.noConfusion h, fun h => Bool.noConfusion h, fun h => Bool.noConfusion h, fun _ => H21.old _ _ hF18, trivial⟩, trivial, trivial, trivial, trivial, trivial, trivial, trivial⟩⟩, ?_⟩
          replace H := H22
          clear H14 H21 H22
          refine blkQ_normal ?_
          refine W.rg [(0, v1), (3, .bool true), (4, .pointer (some ⟨h, 0, none⟩)), (6, .pointer (some ⟨T, 0, none⟩)), (7, .pointer (some ⟨b2, 0, none⟩)), (8, .int .i64 ((j : Nat) : Int))] fun TA => ?_
          refine W.seq (W.region ?_)
          iterate 2 refine RW.v ?_
          refine RW.ld H 0 3 ?_
          replace H := H.rot (B := [.at_ b2 (.row ⟨[.int .i64 k1', .int .i64 n1', .bool c1'], 70, false⟩)]) (X := tabL T M u d) (L := [])
          have hN' := hN
          refine RW.call (by kernel_rfl) (by kernel_rfl) rfl rfl rfl (by kernel_rfl) (by kernel_rfl) ((raw_wc (k := k1') (n := n1') (c := c1') hp1' hN' E.free (by have := E.many; rw [hm0_many] at this; rw [E.lim]; show _ + 1 ≤ 200; omega) (by rw [E.lim]; decide) H).mono ?_)
          clear H
          rintro _ _ ⟨m2, u2, d2, w, rfl, hR, E2, H⟩
          replace H : Lies G65 (heapAbs h m2) F _ (.at_ b2 (.row ⟨[.int .i64 k1', .int .i64 n1', .bool c1'], 70, false⟩) :: (tabL T M u2 d2 ++ [])) := H.rot (B := tabL T M u2 d2) (X := [.at_ b2 (.row ⟨[.int .i64 k1', .int .i64 n1', .bool c1'], 70, false⟩)]) (L := [])
          iterate 3 refine RW.v ?_
          refine RW.mk H (.row ⟨[.int .i64 0, .int .i64 0], 76, false⟩) ?_
          clear H; intro _ b23 _ H
          refine RW.st H 0 [.int .i64 w.1, .int .i64 w.2] [.int .i64 w.1, .int .i64 w.2] ?_
          clear H; intro _ _ H; dsimp only [setL, delL] at H
          refine RW.v ?_
          refine RW.nil ?_
          refine W.rg [(0, v1), (3, .bool true), (4, .pointer (some ⟨h, 0, none⟩)), (6, .pointer (some ⟨T, 0, none⟩)), (7, .pointer (some ⟨b2, 0, none⟩)), (8, .int .i64 ((j : Nat) : Int)), (9, .pointer (some ⟨b23, 0, none⟩)), (10, .int .i64 0)] fun TA => ?_
          refine W.seq (W.region ?_)
          iterate 2 refine RW.v ?_
          refine RW.ld H 0 2 ?_
          replace H := H.rot (B := [.at_ b23 (.row ⟨[.int .i64 w.1, .int .i64 w.2], 76, false⟩), .at_ b2 (.row ⟨[.int .i64 k1', .int .i64 n1', .bool c1'], 70, false⟩)]) (X := tabL T M u2 d2) (L := [])
          refine RW.call (by kernel_rfl) (by kernel_rfl) rfl rfl rfl (by kernel_rfl) (by kernel_rfl) ((from_wc (k := k1') (n := n1') (c := c1') hp1' hR H).mono ?_)
          clear H
          rintro _ _ ⟨rfl, u3, H⟩
          replace H : Lies G65 (heapAbs h m2) F _ (.at_ b23 (.row ⟨[.int .i64 w.1, .int .i64 w.2], 76, false⟩) :: .at_ b2 (.row ⟨[.int .i64 k1', .int .i64 n1', .bool c1'], 70, false⟩) :: (tabL T M u3 d2 ++ [])) := H.rot (B := tabL T M u3 d2) (X := [.at_ b23 (.row ⟨[.int .i64 w.1, .int .i64 w.2], 76, false⟩), .at_ b2 (.row ⟨[.int .i64 k1', .int .i64 n1', .bool c1'], 70, false⟩)]) (L := [])
          have hq := pre_open hp1'
          have hv := val_in hp1'
          refine RW.mk H (.row ⟨[.int .i64 0, .int .i64 0, .bool false], 70, false⟩) ?_
          clear H; intro _ b24 _ H
          refine RW.st H 0 [.int .i64 k1', .int .i64 n1', .bool false] [.int .i64 k1', .int .i64 n1', .bool false] ?_
          clear H; intro _ _ H; dsimp only [setL, delL] at H
          refine RW.nil ?_
          replace H := (H.del 1)
          dsimp only [setL, delL] at H
          refine W.rg [(0, v1), (3, .bool true), (4, .pointer (some ⟨h, 0, none⟩)), (6, .pointer (some ⟨T, 0, none⟩)), (7, .pointer (some ⟨b2, 0, none⟩)), (8, .int .i64 ((j : Nat) : Int)), (10, .int .i64 0), (11, .pointer (some ⟨b24, 0, none⟩))] fun TA => ?_
          refine W.seq (W.region ?_)
          refine RW.ld H 1 3 ?_
          refine RW.call (by kernel_rfl) (by kernel_rfl) rfl rfl rfl (by kernel_rfl) (by kernel_rfl) ((value_wc (G := G65) (k := k1') (n := n1') (c := c1') H.gn H.abs hp1').mono ?_)
          rintro _ _ ⟨rfl, K⟩
          replace H := H.then K
          clear K
          replace H : Lies G65 (heapAbs h m2) F _ (.at_ b24 (.row ⟨[.int .i64 k1', .int .i64 n1', .bool false], 70, false⟩) :: .at_ b2 (.row ⟨[.int .i64 k1', .int .i64 n1', .bool c1'], 70, false⟩) :: (tabL T M u3 d2 ++ [])) := H
          refine RW.v ?_
          refine RW.nil ?_
          refine W.rg [(0, v1), (3, .bool true), (4, .pointer (some ⟨h, 0, none⟩)), (6, .pointer (some ⟨T, 0, none⟩)), (7, .pointer (some ⟨b2, 0, none⟩)), (8, .int .i64 ((j : Nat) : Int)), (10, .int .i64 0), (11, .pointer (some ⟨b24, 0, none⟩)), (12, .int .i64 (valP k1' n1'))] fun TA => ?_
          refine W.seq (W.region ?_)
          iterate 3 refine RW.v ?_
          refine RW.val (by rfl) (by kernel_rfl) rfl (by kernel_rfl) ?_
          refine RW.ldL H 0 1 (by rfl) (by kernel_rfl) rfl rfl rfl rfl rfl (by kernel_rfl) ?_
          refine RW.val (by rfl) (by kernel_rfl) rfl (by kernel_rfl) ?_
          refine RW.ldL H 1 1 (by rfl) (by kernel_rfl) rfl rfl rfl rfl rfl (by kernel_rfl) ?_
          refine RW.valE (v' := .bool false) (by rfl) (by kernel_rfl) rfl (congrArg Value.bool (bne_eq_false_iff_eq.2 (by rfl))) (by kernel_rfl) ?_
          iterate 2 refine RW.v ?_
          refine RW.val (by rfl) (by kernel_rfl) rfl (by kernel_rfl) ?_
          refine RW.ldL H 0 1 (by rfl) (by kernel_rfl) rfl rfl rfl rfl rfl (by kernel_rfl) ?_
          refine RW.val (by rfl) (by kernel_rfl) rfl (by kernel_rfl) ?_
          refine RW.ldL H 1 1 (by rfl) (by kernel_rfl) rfl rfl rfl rfl rfl (by kernel_rfl) ?_
          refine RW.valE (v' := .bool false) (by rfl) (by kernel_rfl) rfl (congrArg Value.bool (bne_eq_false_iff_eq.2 (by rfl))) (by kernel_rfl) ?_
          iterate 2 refine RW.v ?_
          refine RW.val (by rfl) (by kernel_rfl) rfl (by kernel_rfl) ?_
          refine RW.ldL H 0 1 (by rfl) (by kernel_rfl) rfl rfl rfl rfl rfl (by kernel_rfl) ?_
          iterate 2 refine RW.v ?_
          refine RW.val (by rfl) (by kernel_rfl) rfl (by kernel_rfl) ?_
          refine RW.valE (v' := .bool false) (by rfl) (by kernel_rfl) rfl (congrArg Value.bool (decide_eq_false (by omega))) (by kernel_rfl) ?_
          iterate 2 refine RW.v ?_
          refine RW.val (by rfl) (by kernel_rfl) rfl (by kernel_rfl) ?_
          refine RW.valE (v' := .bool false) (by rfl) (by kernel_rfl) rfl (congrArg Value.bool (decide_eq_false (by omega))) (by kernel_rfl) ?_
          iterate 2 refine RW.v ?_
          refine RW.ldL H 0 3 (by rfl) (by kernel_rfl) rfl rfl rfl rfl rfl (by kernel_rfl) ?_
          refine RW.call (by rfl) (by kernel_rfl) rfl rfl rfl (by kernel_rfl) (by kernel_rfl) ((value_wc (G := G65) (k := k1') (n := n1') (c := false) H.gn H.abs hq).mono ?_)
          rintro _ _ ⟨rfl, K⟩
          replace H := H.then K
          clear K
          replace H : Lies G65 (heapAbs h m2) F _ (.at_ b24 (.row ⟨[.int .i64 k1', .int .i64 n1', .bool false], 70, false⟩) :: .at_ b2 (.row ⟨[.int .i64 k1', .int .i64 n1', .bool c1'], 70, false⟩) :: (tabL T M u3 d2 ++ [])) := H
          refine RW.val (by rfl) (by kernel_rfl) rfl (by kernel_rfl) ?_
          refine RW.valE (v' := .bool false) (by rfl) (by kernel_rfl) rfl (congrArg Value.bool (bne_eq_false_iff_eq.2 (by rfl))) (by kernel_rfl) ?_
          refine RW.v ?_
          refine RW.nil ?_
          replace H := (H.del 0)
          dsimp only [setL, delL] at H
          refine W.rg [(0, v1), (3, .bool true), (4, .pointer (some ⟨h, 0, none⟩)), (6, .pointer (some ⟨T, 0, none⟩)), (7, .pointer (some ⟨b2, 0, none⟩)), (8, .int .i64 ((j : Nat) : Int)), (106, .bool false)] fun TA => ?_
          refine W.c0 ?_
          refine W.skip ?_
          refine blkQ_normal ?_
          refine W.region ?_
          refine RW.v ?_
          refine RW.valE (v' := .int .i64 (((j : Nat) : Int) + 1)) (by kernel_rfl) (by kernel_rfl) rfl (congrArg (Value.int .i64) (wrap_in (by omega) (by omega))) (by kernel_rfl) ?_
          refine RW.v ?_
          refine RW.nil ?_
          exact ⟨rfl, mm - 1, by omega, j + 1, m2, k1', n1', c1', u3, d2, (by omega), ((E.trans E2).le (by omega)), hp1', H, rfl, rfl, rfl, rfl, rfl, rfl⟩
        · have hc13b := hc13
          have hc13 := ne_of_beq_false hc13
          refine W.region ?_
          refine RW.ld H 0 3 ?_
          refine RW.call (by kernel_rfl) (by kernel_rfl) rfl rfl rfl (by kernel_rfl) (by kernel_rfl) ((minus_wc (G := G65) (k := k) (n := n) (c := c) H.gn H.abs hp).mono ?_)
          rintro _ _ ⟨k2', n2', c2', b2', rfl, hp2', K⟩
          replace H := H.then K
          clear K
          replace H : Lies G65 (heapAbs h m1) F _ (.at_ b2 (.row ⟨[.int .i64 k, .int .i64 n, .bool c], 70, false⟩) :: (tabL T M u d ++ [])) := H
          iterate 3 refine RW.v ?_
          refine RW.st H 0 [.int .i64 k2', .int .i64 n2', .bool c2'] [.int .i64 k2', .int .i64 n2', .bool c2'] ?_
          clear H; intro _ _ H; dsimp only [setL, delL] at H
          refine RW.nil ?_
          refine blkQ_normal ?_
          refine W.rg [(0, v1), (3, .bool true), (4, .pointer (some ⟨h, 0, none⟩)), (6, .pointer (some ⟨T, 0, none⟩)), (7, .pointer (some ⟨b2, 0, none⟩)), (8, .int .i64 ((j : Nat) : Int))] fun TA => ?_
          refine W.seq (W.region ?_)
          iterate 2 refine RW.v ?_
          refine RW.ld H 0 3 ?_
          replace H := H.rot (B := [.at_ b2 (.row ⟨[.int .i64 k2', .int .i64 n2', .bool c2'], 70, false⟩)]) (X := tabL T M u d) (L := [])
          have hN' := hN
          refine RW.call (by kernel_rfl) (by kernel_rfl) rfl rfl rfl (by kernel_rfl) (by kernel_rfl) ((raw_wc (k := k2') (n := n2') (c := c2') hp2' hN' E.free (by have := E.many; rw [hm0_many] at this; rw [E.lim]; show _ + 1 ≤ 200; omega) (by rw [E.lim]; decide) H).mono ?_)
          clear H
          rintro _ _ ⟨m2, u2, d2, w, rfl, hR, E2, H⟩
          replace H : Lies G65 (heapAbs h m2) F _ (.at_ b2 (.row ⟨[.int .i64 k2', .int .i64 n2', .bool c2'], 70, false⟩) :: (tabL T M u2 d2 ++ [])) := H.rot (B := tabL T M u2 d2) (X := [.at_ b2 (.row ⟨[.int .i64 k2', .int .i64 n2', .bool c2'], 70, false⟩)]) (L := [])
          iterate 3 refine RW.v ?_
          refine RW.mk H (.row ⟨[.int .i64 0, .int .i64 0], 76, false⟩) ?_
          clear H; intro _ b25 _ H
          refine RW.st H 0 [.int .i64 w.1, .int .i64 w.2] [.int .i64 w.1, .int .i64 w.2] ?_
          clear H; intro _ _ H; dsimp only [setL, delL] at H
          refine RW.v ?_
          refine RW.nil ?_
          refine W.rg [(0, v1), (3, .bool true), (4, .pointer (some ⟨h, 0, none⟩)), (6, .pointer (some ⟨T, 0, none⟩)), (7, .pointer (some ⟨b2, 0, none⟩)), (8, .int .i64 ((j : Nat) : Int)), (9, .pointer (some ⟨b25, 0, none⟩)), (10, .int .i64 0)] fun TA => ?_
          refine W.seq (W.region ?_)
          iterate 2 refine RW.v ?_
          refine RW.ld H 0 2 ?_
          replace H := H.rot (B := [.at_ b25 (.row ⟨[.int .i64 w.1, .int .i64 w.2], 76, false⟩), .at_ b2 (.row ⟨[.int .i64 k2', .int .i64 n2', .bool c2'], 70, false⟩)]) (X := tabL T M u2 d2) (L := [])
          refine RW.call (by kernel_rfl) (by kernel_rfl) rfl rfl rfl (by kernel_rfl) (by kernel_rfl) ((from_wc (k := k2') (n := n2') (c := c2') hp2' hR H).mono ?_)
          clear H
          rintro _ _ ⟨rfl, u3, H⟩
          replace H : Lies G65 (heapAbs h m2) F _ (.at_ b25 (.row ⟨[.int .i64 w.1, .int .i64 w.2], 76, false⟩) :: .at_ b2 (.row ⟨[.int .i64 k2', .int .i64 n2', .bool c2'], 70, false⟩) :: (tabL T M u3 d2 ++ [])) := H.rot (B := tabL T M u3 d2) (X := [.at_ b25 (.row ⟨[.int .i64 w.1, .int .i64 w.2], 76, false⟩), .at_ b2 (.row ⟨[.int .i64 k2', .int .i64 n2', .bool c2'], 70, false⟩)]) (L := [])
          have hq := pre_open hp2'
          have hv := val_in hp2'
          refine RW.mk H (.row ⟨[.int .i64 0, .int .i64 0, .bool false], 70, false⟩) ?_
          clear H; intro _ b26 _ H
          refine RW.st H 0 [.int .i64 k2', .int .i64 n2', .bool false] [.int .i64 k2', .int .i64 n2', .bool false] ?_
          clear H; intro _ _ H; dsimp only [setL, delL] at H
          refine RW.nil ?_
          replace H := (H.del 1)
          dsimp only [setL, delL] at H
          refine W.rg [(0, v1), (3, .bool true), (4, .pointer (some ⟨h, 0, none⟩)), (6, .pointer (some ⟨T, 0, none⟩)), (7, .pointer (some ⟨b2, 0, none⟩)), (8, .int .i64 ((j : Nat) : Int)), (10, .int .i64 0), (11, .pointer (some ⟨b26, 0, none⟩))] fun TA => ?_
          refine W.seq (W.region ?_)
          refine RW.ld H 1 3 ?_
          refine RW.call (by kernel_rfl) (by kernel_rfl) rfl rfl rfl (by kernel_rfl) (by kernel_rfl) ((value_wc (G := G65) (k := k2') (n := n2') (c := c2') H.gn H.abs hp2').mono ?_)
          rintro _ _ ⟨rfl, K⟩
          replace H := H.then K
          clear K
          replace H : Lies G65 (heapAbs h m2) F _ (.at_ b26 (.row ⟨[.int .i64 k2', .int .i64 n2', .bool false], 70, false⟩) :: .at_ b2 (.row ⟨[.int .i64 k2', .int .i64 n2', .bool c2'], 70, false⟩) :: (tabL T M u3 d2 ++ [])) := H
          refine RW.v ?_
          refine RW.nil ?_
          refine W.rg [(0, v1), (3, .bool true), (4, .pointer (some ⟨h, 0, none⟩)), (6, .pointer (some ⟨T, 0, none⟩)), (7, .pointer (some ⟨b2, 0, none⟩)), (8, .int .i64 ((j : Nat) : Int)), (10, .int .i64 0), (11, .pointer (some ⟨b26, 0, none⟩)), (12, .int .i64 (valP k2' n2'))] fun TA => ?_
          refine W.seq (W.region ?_)
          iterate 3 refine RW.v ?_
          refine RW.val (by rfl) (by kernel_rfl) rfl (by kernel_rfl) ?_
          refine RW.ldL H 0 1 (by rfl) (by kernel_rfl) rfl rfl rfl rfl rfl (by kernel_rfl) ?_
          refine RW.val (by rfl) (by kernel_rfl) rfl (by kernel_rfl) ?_
          refine RW.ldL H 1 1 (by rfl) (by kernel_rfl) rfl rfl rfl rfl rfl (by kernel_rfl) ?_
          refine RW.valE (v' := .bool false) (by rfl) (by kernel_rfl) rfl (congrArg Value.bool (bne_eq_false_iff_eq.2 (by rfl))) (by kernel_rfl) ?_
          iterate 2 refine RW.v ?_
          refine RW.val (by rfl) (by kernel_rfl) rfl (by kernel_rfl) ?_
          refine RW.ldL H 0 1 (by rfl) (by kernel_rfl) rfl rfl rfl rfl rfl (by kernel_rfl) ?_
          refine RW.val (by rfl) (by kernel_rfl) rfl (by kernel_rfl) ?_
          refine RW.ldL H 1 1 (by rfl) (by kernel_rfl) rfl rfl rfl rfl rfl (by kernel_rfl) ?_
          refine RW.valE (v' := .bool false) (by rfl) (by kernel_rfl) rfl (congrArg Value.bool (bne_eq_false_iff_eq.2 (by rfl))) (by kernel_rfl) ?_
          iterate 2 refine RW.v ?_
          refine RW.val (by rfl) (by kernel_rfl) rfl (by kernel_rfl) ?_
          refine RW.ldL H 0 1 (by rfl) (by kernel_rfl) rfl rfl rfl rfl rfl (by kernel_rfl) ?_
          iterate 2 refine RW.v ?_
          refine RW.val (by rfl) (by kernel_rfl) rfl (by kernel_rfl) ?_
          refine RW.valE (v' := .bool false) (by rfl) (by kernel_rfl) rfl (congrArg Value.bool (decide_eq_false (by omega))) (by kernel_rfl) ?_
          iterate 2 refine RW.v ?_
          refine RW.val (by rfl) (by kernel_rfl) rfl (by kernel_rfl) ?_
          refine RW.valE (v' := .bool false) (by rfl) (by kernel_rfl) rfl (congrArg Value.bool (decide_eq_false (by omega))) (by kernel_rfl) ?_
          iterate 2 refine RW.v ?_
          refine RW.ldL H 0 3 (by rfl) (by kernel_rfl) rfl rfl rfl rfl rfl (by kernel_rfl) ?_
          refine RW.call (by rfl) (by kernel_rfl) rfl rfl rfl (by kernel_rfl) (by kernel_rfl) ((value_wc (G := G65) (k := k2') (n := n2') (c := false) H.gn H.abs hq).mono ?_)
          rintro _ _ ⟨rfl, K⟩
          replace H := H.then K
          clear K
          replace H : Lies G65 (heapAbs h m2) F _ (.at_ b26 (.row ⟨[.int .i64 k2', .int .i64 n2', .bool false], 70, false⟩) :: .at_ b2 (.row ⟨[.int .i64 k2', .int .i64 n2', .bool c2'], 70, false⟩) :: (tabL T M u3 d2 ++ [])) := H
          refine RW.val (by rfl) (by kernel_rfl) rfl (by kernel_rfl) ?_
          refine RW.valE (v' := .bool false) (by rfl) (by kernel_rfl) rfl (congrArg Value.bool (bne_eq_false_iff_eq.2 (by rfl))) (by kernel_rfl) ?_
          refine RW.v ?_
          refine RW.nil ?_
          replace H := (H.del 0)
          dsimp only [setL, delL] at H
          refine W.rg [(0, v1), (3, .bool true), (4, .pointer (some ⟨h, 0, none⟩)), (6, .pointer (some ⟨T, 0, none⟩)), (7, .pointer (some ⟨b2, 0, none⟩)), (8, .int .i64 ((j : Nat) : Int)), (106, .bool false)] fun TA => ?_
          refine W.c0 ?_
          refine W.skip ?_
          refine blkQ_normal ?_
          refine W.region ?_
          refine RW.v ?_
          refine RW.valE (v' := .int .i64 (((j : Nat) : Int) + 1)) (by kernel_rfl) (by kernel_rfl) rfl (congrArg (Value.int .i64) (wrap_in (by omega) (by omega))) (by kernel_rfl) ?_
          refine RW.v ?_
          refine RW.nil ?_
          exact ⟨rfl, mm - 1, by omega, j + 1, m2, k2', n2', c2', u3, d2, (by omega), ((E.trans E2).le (by omega)), hp2', H, rfl, rfl, rfl, rfl, rfl, rfl⟩
    · have hc3b := hc3
      have hc3 := of_decide_eq_false hc3
      refine W.exit _ ?_
      refine seqQ_exit ?_
      refine rndQ_exit ?_
      refine blkQ_here ?_
      refine W.seq (W.region ?_)
      iterate 2 refine RW.v ?_
      refine RW.nil ?_
      replace H := (H.del 0)
      dsimp only [setL, delL] at H
      refine W.rg [(2, .bool true)] fun TA => ?_
      refine W.ret ?_
      refine endG (by rfl) (by exact resL_tmp rfl) ?_
      exact rfl
end Go.Proofs.YthemeeiedlbhkaaGreatDoor
