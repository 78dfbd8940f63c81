/-
  HooksOrder in the second memory. Conditions: the heap lies there as HeapAt says.
-/
import Derived.Test.YtaaebeiigkhcjaaDoorHof
import Derived.Test.YtaaebeiigkhcjaaDoorApp
import Derived.Test.YtaaebeiigkhcjaaDoorHkRun
namespace Go.Proofs.YtaaebeiigkhcjaaDoor
set_option maxRecDepth 100000
theorem wdC_take : ∀ (l : List Wd) (q : Nat), (wdC l).take (q * 2) = wdC (l.take q)
  | _, 0 => by simp [wdC]
  | [], q + 1 => by simp [wdC]
  | x :: l, q + 1 => by
    have := wdC_take l q
    rw [show (q + 1) * 2 = q * 2 + 1 + 1 by omega, List.take_succ_cons]
    show List.take (q * 2 + 1 + 1) (.int .i64 x.1 :: .int .i64 x.2 :: wdC l) = .int .i64 x.1 :: .int .i64 x.2 :: wdC (l.take q)
    rw [List.take_succ_cons, List.take_succ_cons, this]
theorem wdC_drop : ∀ (l : List Wd) (q : Nat), (wdC l).drop (q * 2) = wdC (l.drop q)
  | l, 0 => by simp
  | [], q + 1 => by simp [wdC]
  | x :: l, q + 1 => by
    have := wdC_drop l q
    rw [show (q + 1) * 2 = q * 2 + 1 + 1 by omega, List.drop_succ_cons]
    show List.drop (q * 2 + 1 + 1) (.int .i64 x.1 :: .int .i64 x.2 :: wdC l) = wdC (l.drop q)
    rw [List.drop_succ_cons, List.drop_succ_cons, this]
theorem drop_take_self {d : Int} (ml : List Wd) (k : Nat) : ∀ y ∈ (ml.take (k + 1)).drop (k + 1), ltM d y = false := fun y hy => by
  rw [List.drop_of_length_le (by rw [List.length_take]; omega)] at hy
  cases hy
theorem nlt_next {ml : List Wd} {d : Int} {k q : Nat} (hk : k < ml.length) (hq : q ≤ k) (h : ∀ y ∈ (ml.take k).drop q, ltM d y = false) (hn : ltM d (ml.getD k (0, 0)) = false) : ∀ y ∈ (ml.take (k + 1)).drop q, ltM d y = false := fun y hy => by
  rw [take_snoc hk, List.drop_append_of_le_length (by rw [List.length_take]; omega)] at hy
  rcases List.mem_append.1 hy with e | e
  · exact h y e
  · rw [List.mem_singleton.1 e]; exact hn
theorem hasM_snoc {ml : List Wd} {f : Int} {k : Nat} (hk : k < ml.length) : hasM (ml.take (k + 1)) f = (hasM (ml.take k) f || ((ml.getD k (0, 0)).1 == f)) := by
  rw [take_snoc hk]
  unfold hasM
  rw [List.any_append]
  simp
  rfl
theorem hasM_t {ml : List Wd} {f : Int} {k : Nat} {th : Bool} (h : th = hasM (ml.take k) f) (ht : th = true) : true = hasM (ml.take (k + 1)) f := by
  rw [ht] at h
  obtain ⟨y, hy, e⟩ := hasM_yes.1 h.symm
  refine (hasM_yes.2 ⟨y, ?_, e⟩).symm
  rw [List.take_add_one]
  exact List.mem_append_left _ hy
theorem hasM_f {ml : List Wd} {f : Int} {k : Nat} {th : Bool} (hk : k < ml.length) (h : th = hasM (ml.take k) f) (ht : th = false) : ((ml.getD k (0, 0)).1 == f) = hasM (ml.take (k + 1)) f := by
  rw [hasM_snoc hk, ← h, ht, Bool.false_or]
theorem parts_pos {ml : List Wd} {f d : Int} {q : Nat} (hno : hasM ml f = false) (h1 : ∀ y ∈ ml.take q, ltM d y = true) (h2 : ∀ y ∈ ml.drop q, ltM d y = false) : [] ++ wdC (ml.take q) ++ [.int .i64 f, .int .i64 d] ++ wdC (ml.drop q) = wdC (addM ml f d) := by
  rw [← addM_at hno h1 h2, wdC_app, List.nil_append, List.append_assoc]
  rfl
theorem parts_zero {ml : List Wd} {f d : Int} {q : Nat} (hq : q = 0) (hno : hasM ml f = false) (h1 : ∀ y ∈ ml.take q, ltM d y = true) (h2 : ∀ y ∈ ml.drop q, ltM d y = false) : [] ++ [.int .i64 f, .int .i64 d] ++ wdC (ml.drop q) = wdC (addM ml f d) := by
  rw [← addM_at hno h1 h2, hq]
  rfl
theorem addM_len {ml : List Wd} {f d : Int} (hno : hasM ml f = false) : (addM ml f d).length = ml.length + 1 := (addM_perm hno).length_eq
theorem addM_yes {ml : List Wd} {f d : Int} (h : hasM ml f = true) : addM ml f d = ml := by
  unfold addM
  rw [h]
  rfl
theorem sym_wc {A : Abs} {σ0 : Mem} (n : Int) (hG : G66 ≤ σ0.next) (ha : σ0.abs = A) : WC G66 Tryd.prog 10 #[.int .i64 n] σ0 fun v σ' => v = wdV (1, n) ∧ Lies G66 A σ0.get σ' [] := by
  have H := Lies.start hG ha
  generalize σ0.get = F at H ⊢
  refine WC.enter (fn := Tryd.f10) Tryd.func10 rfl ?_
  refine W.rg [(0, .int .i64 n)] fun TA => ?_
  refine W.seq (W.region ?_)
  refine RW.mk H (.row ⟨[.int .i64 0, .int .i64 0], 28, false⟩) ?_
  clear H; intro _ b1 _ H
  refine RW.nil ?_
  refine W.rg [(0, .int .i64 n), (2, .pointer (some ⟨b1, 0, none⟩))] fun TA => ?_
  refine W.seq (W.region ?_)
  refine RW.v ?_
  refine RW.val (v := .agg #[.int .i64 1, .int .i64 n]) (by kernel_rfl) (by kernel_rfl) (by kernel_rfl) (by kernel_rfl) ?_
  refine RW.st H 0 [.int .i64 1, .int .i64 n] [.int .i64 1, .int .i64 n] ?_
  clear H; intro _ _ H; dsimp only [setL, delL] at H
  refine RW.nil ?_
  refine W.rg [(2, .pointer (some ⟨b1, 0, none⟩))] fun TA => ?_
  refine W.ret ?_
  refine endG (by rfl) (by exact resL_cell rfl (H.get 0 rfl) (by rw [uT_eq]; exact Tryd.underlying28) (by kernel_rfl) rfl rfl rfl) ?_
  exact ⟨rfl, (H.del 0)⟩
set_option maxHeartbeats 16000000 in
theorem order_wc {σ0 : Mem} {v1 : Value} {l : List Wd} (hG : G66 ≤ σ0.next) (h16 : 16 ≤ G66) (hno : σ0.abs = Abs.no) (hR : RowsAt rowsH σ0) (hl : SlF σ0.get 2 v1 l.length (wdC l)) (bl : ∀ x ∈ l, (-9223372036854775808 ≤ x.1 ∧ x.1 ≤ 9223372036854775807) ∧ -9223372036854775808 ≤ x.2 ∧ x.2 ≤ 9223372036854775807) (hN : GNull σ0.get) (hTee : GTee σ0.get) :
    WC G66 Tryd.prog 3 #[v1] σ0 fun v _ => v = .bool true := by
  have H := Lies.start hG hno
  have CL := s_lives h16 σ0 hR
  generalize σ0.get = F at H hl hN hTee
  refine WC.enter (fn := Tryd.f3) Tryd.func3 rfl ?_
  refine W.rg [(0, v1)] fun TA => ?_
  refine W.seq (W.region ?_)
  refine RW.v ?_
  refine RW.nil ?_
  refine W.rg [(0, v1)] fun TA => ?_
  refine W.seq ?_
  refine W.seq (W.region ?_)
  refine RW.call (by kernel_rfl) (by kernel_rfl) rfl rfl rfl (by kernel_rfl) (by kernel_rfl) ⟨_, _, CL, ?_⟩
  clear CL
  refine RW.v ?_
  refine RW.nil ?_
  refine W.rg [(0, v1), (22, .bool false)] fun TA => ?_
  refine W.c0 ?_
  refine W.skip ?_
  refine W.seq ?_
  refine W.seq (W.region ?_)
  refine RW.v ?_
  refine RW.len (by kernel_rfl) (by kernel_rfl) rfl rfl rfl rfl (hl.len (e := 32) (by kernel_rfl)) (by kernel_rfl) ?_
  refine RW.v ?_
  refine RW.nil ?_
  refine W.rg [(0, v1), (25, .bool (decide ((l.length : Int) > 30)))] fun TA => ?_
  refine W.cond rfl (fun hc1 => ?_) (fun hc1 => ?_)
  · have hc1b := hc1
    have hc1 := of_decide_eq_true hc1
    refine W.seq (W.region ?_)
    refine RW.v ?_
    refine RW.nil ?_
    refine W.rg [(2, .bool true)] fun TA => ?_
    refine W.ret ?_
    refine seqQ_ret ?_
    refine endG (by rfl) (by exact resL_tmp rfl) ?_
    exact rfl
  · have hc1b := hc1
    have hc1 := of_decide_eq_false hc1
    refine W.skip ?_
    refine W.seq (W.region ?_)
    refine RW.cl ?_
    refine WC.enter (fn := Tryd.f6) Tryd.func6 rfl ?_
    refine W.rg [] fun TA => ?_
    refine W.seq (W.region ?_)
    iterate 2 refine RW.v ?_
    refine RW.nil ?_
    refine W.rg [] fun TA => ?_
    refine W.seq (W.region ?_)
    refine RW.call (by kernel_rfl) (by kernel_rfl) rfl rfl rfl (by kernel_rfl) (by kernel_rfl) ((new_lies (G := G66) 2000 (by decide) (by decide) H).mono ?_)
    clear H
    rintro _ _ ⟨h, rfl, H⟩
    iterate 5 refine RW.v ?_
    refine RW.nil ?_
    refine W.rg [(2, .pointer (some ⟨h, 0, none⟩)), (3, .int .i64 0)] fun TA => ?_
    refine W.seq (W.region ?_)
    iterate 5 refine RW.v ?_
    refine RW.nil ?_
    refine W.rg [(0, .pointer (some ⟨h, 0, none⟩)), (1, .bool true)] fun TA => ?_
    refine W.ret ?_
    refine endG (by rfl) (by exact resL_tmp (by exact resL_tmp rfl)) ?_
    iterate 5 refine RW.v ?_
    refine RW.nil ?_
    refine W.rg [(0, v1), (3, .pointer (some ⟨h, 0, none⟩)), (4, .bool true)] fun TA => ?_
    refine W.seq ?_
    refine W.seq (W.region ?_)
    iterate 2 refine RW.v ?_
    refine RW.nil ?_
    refine W.rg [(0, v1), (3, .pointer (some ⟨h, 0, none⟩)), (31, .bool false)] fun TA => ?_
    refine W.c0 ?_
    refine W.skip ?_
    refine W.seq (W.region ?_)
    refine RW.call (by kernel_rfl) (by kernel_rfl) rfl rfl rfl (by kernel_rfl) (by kernel_rfl) ⟨_, _, s_nilK (G := G66), ?_⟩
    refine RW.call (by kernel_rfl) (by kernel_rfl) rfl rfl rfl (by kernel_rfl) (by kernel_rfl) ⟨_, _, s_nilK (G := G66), ?_⟩
    refine RW.mk H (.row ⟨[.int .i64 0, .int .i64 0], 28, false⟩) ?_
    clear H; intro _ b2 _ H
    refine RW.mk H (.row ⟨[.int .i64 0, .int .i64 0], 28, false⟩) ?_
    clear H; intro _ b3 _ H
    refine RW.st H 1 [.int .i64 1, .int .i64 0] [.int .i64 1, .int .i64 0] ?_
    clear H; intro _ _ H; dsimp only [setL, delL] at H
    refine RW.st H 0 [.int .i64 1, .int .i64 0] [.int .i64 1, .int .i64 0] ?_
    clear H; intro _ _ H; dsimp only [setL, delL] at H
    refine RW.nil ?_
    refine W.rg [(0, v1), (3, .pointer (some ⟨h, 0, none⟩)), (5, .pointer (some ⟨b2, 0, none⟩)), (6, .pointer (some ⟨b3, 0, none⟩))] fun TA => ?_
    refine W.seq (W.region ?_)
    refine RW.v ?_
    refine RW.nil ?_
    refine W.rg [(0, v1), (3, .pointer (some ⟨h, 0, none⟩)), (5, .pointer (some ⟨b2, 0, none⟩)), (6, .pointer (some ⟨b3, 0, none⟩)), (7, .slice none 0 0)] fun TA => ?_
    refine W.seq ?_
    refine W.seq (W.region ?_)
    refine RW.v ?_
    refine RW.nil ?_
    refine W.rg [(0, v1), (3, .pointer (some ⟨h, 0, none⟩)), (5, .pointer (some ⟨b2, 0, none⟩)), (6, .pointer (some ⟨b3, 0, none⟩)), (7, .slice none 0 0), (8, .int .i64 0)] fun TA => ?_
    refine W.block ?_
    replace H : Lies G66 (heapAbs h (hm0 2000)) F _ [.at_ b2 (.row ⟨[.int .i64 1, .int .i64 0], 28, false⟩), .at_ b3 (.row ⟨[.int .i64 1, .int .i64 0], 28, false⟩)] := H.perm (List.perm_middle (l₁ := ([.at_ b3 (.row ⟨[.int .i64 1, .int .i64 0], 28, false⟩)] : List Ent)))
    replace H := H.nilSl 32 2
    refine W.loop (fun mm ta σ => ∃ (i : Nat) (m : HM) (vw : Wd) (p : Wd) (ml : List Wd) (u : Value), (mm + i = l.length) ∧ (HInv i m vw p ml) ∧ Lies G66 (heapAbs h m) F σ [.sl 32 2 u ml.length (wdC ml), .at_ b2 (.row ⟨[.int .i64 vw.1, .int .i64 vw.2], 28, false⟩), .at_ b3 (.row ⟨[.int .i64 p.1, .int .i64 p.2], 28, false⟩)] ∧ ta 0 = v1 ∧ ta 3 = .pointer (some ⟨h, 0, none⟩) ∧ ta 5 = .pointer (some ⟨b2, 0, none⟩) ∧ ta 6 = .pointer (some ⟨b3, 0, none⟩) ∧ ta 7 = u ∧ ta 8 = .int .i64 ((i : Nat) : Int)) l.length ?_ ?_
    · exact ⟨0, (hm0 2000), (1, 0), (1, 0), [], .slice none 0 0, (by omega), (HInv.start rfl rfl (hm0_many _)), H, rfl, rfl, rfl, rfl, rfl, rfl⟩
    clear H
    rintro mm ta _ ⟨i, m, vw, p, ml, u, hm, HI, H, e0, e3, e5, e6, e7, e8⟩
    refine W.rst [(0, v1), (3, .pointer (some ⟨h, 0, none⟩)), (5, .pointer (some ⟨b2, 0, none⟩)), (6, .pointer (some ⟨b3, 0, none⟩)), (7, u), (8, .int .i64 ((i : Nat) : Int))] ⟨e0, e3, e5, e6, e7, e8, trivial⟩ fun TA => ?_
    clear e0 e3 e5 e6 e7 e8
    have hml := HI.len
    refine W.seq ?_
    refine W.seq (W.region ?_)
    iterate 2 refine RW.v ?_
    refine RW.len (by kernel_rfl) (by kernel_rfl) rfl rfl rfl rfl (hl.len (e := 32) (by kernel_rfl)) (by kernel_rfl) ?_
    refine RW.v ?_
    refine RW.nil ?_
    refine W.rg [(0, v1), (3, .pointer (some ⟨h, 0, none⟩)), (5, .pointer (some ⟨b2, 0, none⟩)), (6, .pointer (some ⟨b3, 0, none⟩)), (7, u), (8, .int .i64 ((i : Nat) : Int)), (37, .bool (decide (((i : Nat) : Int) < (l.length : Int))))] fun TA => ?_
    refine W.cond rfl (fun hc4 => ?_) (fun hc4 => ?_)
    · have hc4b := hc4
      have hc4 := of_decide_eq_true hc4
      have hb := bl _ (getW_mem (l := l) (j := i) (by omega))
      refine W.skip ?_
      refine W.seq ?_
      refine W.block ?_
      refine W.seq ?_
      refine W.drawn (by kernel_rfl) (by kernel_rfl) H.gn ?_
      have H5 := H
      iterate 2 refine RW.v ?_
      refine RW.idxF hl (by kernel_rfl) (by kernel_rfl) rfl Tryd.underlying22 (by kernel_rfl) rfl rfl ⟨by omega, by omega⟩ (by kernel_rfl) ?_
      intro b6 q7 r8 hF9 hE10
      rw [wdC_at (l := l) (j := i) (by omega)] at hE10
      refine RW.v ?_
      refine RW.loads 1 (by kernel_rfl) (by kernel_rfl) rfl rfl (H5.old _ _ hF9) (sub_take hE10 0 1 (by decide)) rfl (by kernel_rfl) ?_
      refine RW.call (by kernel_rfl) (by kernel_rfl) rfl rfl rfl (by kernel_rfl) (by kernel_rfl) ⟨_, _, (s_pick (G := G66) ((l.getD i (0, 0)).1) 12 (by omega) (by omega) (by decide) (by decide)), ?_⟩
      have hp11 := pickOf_in ((l.getD i (0, 0)).1) (show (0 : Int) < 12 by decide)
      iterate 2 refine RW.v ?_
      refine RW.idxF hl (by kernel_rfl) (by kernel_rfl) rfl Tryd.underlying22 (by kernel_rfl) rfl rfl ⟨by omega, by omega⟩ (by kernel_rfl) ?_
      intro b12 q13 r14 hF15 hE16
      rw [wdC_at (l := l) (j := i) (by omega)] at hE16
      refine RW.v ?_
      refine RW.loads 1 (by kernel_rfl) (by kernel_rfl) rfl rfl (H5.old _ _ hF15) (sub_take hE16 1 1 (by decide)) rfl (by kernel_rfl) ?_
      refine RW.call (by kernel_rfl) (by kernel_rfl) rfl rfl rfl (by kernel_rfl) (by kernel_rfl) ⟨_, _, (s_pick (G := G66) ((l.getD i (0, 0)).2) 7 (by omega) (by omega) (by decide) (by decide)), ?_⟩
      have hp17 := pickOf_in ((l.getD i (0, 0)).2) (show (0 : Int) < 7 by decide)
      refine RW.valE (v' := .int .i64 ((pickOf ((l.getD i (0, 0)).2) 7) - 3)) (by kernel_rfl) (by kernel_rfl) rfl (congrArg (Value.int .i64) (wrap_in (by omega) (by omega))) (by kernel_rfl) ?_
      iterate 2 refine RW.v ?_
      refine RW.nil ?_
      refine ⟨⟨by kernel_rfl, ⟨trivial, trivial, trivial, trivial, dyn_row (H5.old _ _ hF9) (H5.old _ _ hF9) ⟨fun h => Bool.noConfusion h, fun h => Bool.noConfusion h, fun h => Bool.noConfusion h, fun h => Bool.noConfusion h, fun h => Bool.noConfusion h, fun _ => H5.old _ _ hF9, fun h => Bool.noConfusion h, fun h => Bool.noConfusion h, fun h => Bool.noConfusion h, fun h => Bool.noConfusion h, fun h => Bool.noConfusion h, fun _ => H5.old _ _ hF9, fun h => Bool.noConfusion h, fun h => Bool.noConfusion h, fun h => Bool.noConfusion h, trivial⟩, trivial, trivial, trivial, trivial, trivial, dyn_row (H5.old _ _ hF15) (H5.old _ _ hF15) ⟨fun h => Bool.noConfusion h, fun h => Bool.noConfusion h, fun h => Bool.noConfusion h, fun h => Bool.noConfusion h, fun h => Bool.noConfusion h, fun _ => H5.old _ _ hF15, fun h => Bool.noConfusion h, fun h => Bool.noConfusion h, fun h => Bool.noConfusion h, fun h => Bool.noConfusion h, fun h => Bool.noConfusion h, fun _ => H5.old _ _ hF15, fun h => Bool.noConfusion h, fun h => Bool.noConfusion h, fun h => Bool.noConfusion h, trivial⟩, trivial, trivial, trivial, trivial, trivial⟩⟩, ?_⟩
      replace H := H5
      clear H5
      have hd : -3 ≤ (pickOf ((l.getD i (0, 0)).2) 7) - 3 ∧ (pickOf ((l.getD i (0, 0)).2) 7) - 3 ≤ 3 := by omega
      generalize (pickOf ((l.getD i (0, 0)).2) 7) - 3 = d at hd ⊢
      have hf : 0 ≤ pickOf ((l.getD i (0, 0)).1) 12 ∧ pickOf ((l.getD i (0, 0)).1) 12 < 12 := hp11
      clear hp11 hp17
      generalize pickOf ((l.getD i (0, 0)).1) 12 = f at hf ⊢
      refine W.rg [(0, v1), (3, .pointer (some ⟨h, 0, none⟩)), (5, .pointer (some ⟨b2, 0, none⟩)), (6, .pointer (some ⟨b3, 0, none⟩)), (7, u), (8, .int .i64 ((i : Nat) : Int)), (9, .int .i64 f), (10, .int .i64 d)] fun TA => ?_
      refine W.seq ?_
      refine W.drawn (by kernel_rfl) (by kernel_rfl) H.gn ?_
      have H18 := H
      refine RW.v ?_
      refine RW.ld H18 1 2 ?_
      refine RW.ld H18 2 2 ?_
      refine RW.v ?_
      refine RW.valE (v' := .int .i64 (70 + f)) (by kernel_rfl) (by kernel_rfl) rfl (congrArg (Value.int .i64) (wrap_in (by omega) (by omega))) (by kernel_rfl) ?_
      refine RW.call (by kernel_rfl) (by kernel_rfl) rfl rfl rfl (by kernel_rfl) (by kernel_rfl) ((sym_wc (70 + f) H18.gn H18.abs).mono ?_)
      rintro _ _ ⟨rfl, K19⟩
      have H20 := H18.then K19
      dsimp only [List.nil_append, List.cons_append] at H20
      refine RW.v ?_
      refine RW.call (by kernel_rfl) (by kernel_rfl) rfl rfl rfl (by kernel_rfl) (by kernel_rfl) ((add_step (f := f) (d := d) HI (by omega) hf hd H20.gn H20.abs (hN.le H20.old)).mono ?_)
      rintro _ _ ⟨m2, v2, p2, rfl, HI2, K21⟩
      have H22 := H20.then K21
      dsimp only [List.nil_append, List.cons_append] at H22
      iterate 4 refine RW.v ?_
      refine RW.mkD H22 (x := .row ⟨[.int .i64 0, .int .i64 0], 28, false⟩) (fm := fun b => .pointer (some ⟨b, 0, none⟩)) (by kernel_rfl) (by kernel_rfl) (by kernel_rfl) (by kernel_rfl) ?_
      intro _ b23 H24
      refine RW.mkD H24 (x := .row ⟨[.int .i64 0, .int .i64 0], 28, false⟩) (fm := fun b => .pointer (some ⟨b, 0, none⟩)) (by kernel_rfl) (by kernel_rfl) (by kernel_rfl) (by kernel_rfl) ?_
      intro _ b25 H26
      refine RW.stD H26 1 (vs := [.int .i64 v2.1, .int .i64 v2.2]) (cs' := [.int .i64 v2.1, .int .i64 v2.2]) (by kernel_rfl) (by kernel_rfl) rfl rfl rfl rfl rfl (by kernel_rfl) (Nat.le_of_ble_eq_true rfl) rfl (by kernel_rfl) ?_
      intro _ H27
      dsimp only [setL, delL] at H27
      refine RW.stD H27 0 (vs := [.int .i64 p2.1, .int .i64 p2.2]) (cs' := [.int .i64 p2.1, .int .i64 p2.2]) (by kernel_rfl) (by kernel_rfl) rfl rfl rfl rfl rfl (by kernel_rfl) (Nat.le_of_ble_eq_true rfl) rfl (by kernel_rfl) ?_
      intro _ H28
      dsimp only [setL, delL] at H28
      refine RW.v ?_
      refine RW.nil ?_
      refine ⟨⟨by kernel_rfl, ⟨trivial, dyn_row (H18.get 1 rfl) (H28.get 3 rfl) ⟨fun h => Bool.noConfusion h, fun h => Bool.noConfusion h, fun h => Bool.noConfusion h, fun h => Bool.noConfusion h, fun h => Bool.noConfusion h, fun _ => H18.get 1 rfl, fun h => Bool.noConfusion h, fun _ => H20.get 1 rfl, fun h => Bool.noConfusion h, fun h => Bool.noConfusion h, fun h => Bool.noConfusion h, fun h => Bool.noConfusion h, fun h => Bool.noConfusion h, fun h => Bool.noConfusion h, fun _ => H26.get 3 rfl, fun _ => H27.get 3 rfl, fun h => Bool.noConfusion h, trivial⟩, dyn_row (H18.get 2 rfl) (H28.get 4 rfl) ⟨fun h => Bool.noConfusion h, fun h => Bool.noConfusion h, fun h => Bool.noConfusion h, fun h => Bool.noConfusion h, fun h => Bool.noConfusion h, fun _ => H18.get 2 rfl, fun h => Bool.noConfusion h, fun _ => H20.get 2 rfl, fun h => Bool.noConfusion h, fun h => Bool.noConfusion h, fun h => Bool.noConfusion h, fun h => Bool.noConfusion h, fun h => Bool.noConfusion h, fun h => Bool.noConfusion h, fun _ => H26.get 4 rfl, fun _ => H27.get 4 rfl, fun h => Bool.noConfusion h, trivial⟩, trivial, trivial, trivial, trivial, trivial, trivial, trivial, trivial, trivial, Or.inl (by kernel_rfl), Or.inl (by kernel_rfl), trivial, trivial, trivial, trivial⟩⟩, ?_⟩
      replace H := H28
      clear H18 H20 H22 H24 H26 H27 H28
      refine W.rg [(0, v1), (3, .pointer (some ⟨h, 0, none⟩)), (5, .pointer (some ⟨b2, 0, none⟩)), (6, .pointer (some ⟨b3, 0, none⟩)), (7, u), (8, .int .i64 ((i : Nat) : Int)), (9, .int .i64 f), (10, .int .i64 d), (11, .pointer (some ⟨b23, 0, none⟩)), (12, .pointer (some ⟨b25, 0, none⟩)), (13, .int .i64 0)] fun TA => ?_
      refine W.seq ?_
      refine W.seq (W.region ?_)
      iterate 2 refine RW.v ?_
      refine RW.nil ?_
      refine W.rg [(0, v1), (3, .pointer (some ⟨h, 0, none⟩)), (5, .pointer (some ⟨b2, 0, none⟩)), (6, .pointer (some ⟨b3, 0, none⟩)), (7, u), (8, .int .i64 ((i : Nat) : Int)), (9, .int .i64 f), (10, .int .i64 d), (11, .pointer (some ⟨b23, 0, none⟩)), (12, .pointer (some ⟨b25, 0, none⟩)), (66, .bool false)] fun TA => ?_
      refine W.c0 ?_
      refine W.skip ?_
      refine W.seq ?_
      refine W.drawn (by kernel_rfl) (by kernel_rfl) H.gn ?_
      have H29 := H
      refine RW.ld H29 1 2 ?_
      refine RW.ld H29 0 2 ?_
      refine RW.stD H29 3 (vs := [.int .i64 v2.1, .int .i64 v2.2]) (cs' := [.int .i64 v2.1, .int .i64 v2.2]) (by kernel_rfl) (by kernel_rfl) rfl rfl rfl rfl rfl (by kernel_rfl) (Nat.le_of_ble_eq_true rfl) rfl (by kernel_rfl) ?_
      intro _ H30
      dsimp only [setL, delL] at H30
      refine RW.stD H30 4 (vs := [.int .i64 p2.1, .int .i64 p2.2]) (cs' := [.int .i64 p2.1, .int .i64 p2.2]) (by kernel_rfl) (by kernel_rfl) rfl rfl rfl rfl rfl (by kernel_rfl) (Nat.le_of_ble_eq_true rfl) rfl (by kernel_rfl) ?_
      intro _ H31
      dsimp only [setL, delL] at H31
      refine RW.nil ?_
      refine ⟨⟨by kernel_rfl, ⟨dyn_row (H29.get 1 rfl) (H31.get 1 rfl) ⟨fun h => Bool.noConfusion h, fun h => Bool.noConfusion h, fun _ => H29.get 1 rfl, fun _ => H30.get 1 rfl, trivial⟩, dyn_row (H29.get 0 rfl) (H31.get 0 rfl) ⟨fun h => Bool.noConfusion h, fun h => Bool.noConfusion h, fun _ => H29.get 0 rfl, fun _ => H30.get 0 rfl, trivial⟩, trivial, trivial, trivial⟩⟩, ?_⟩
      replace H := H31
      clear H29 H30 H31
      replace H := ((H.del 1).del 0)
      dsimp only [setL, delL] at H
      refine W.rg [(0, v1), (3, .pointer (some ⟨h, 0, none⟩)), (5, .pointer (some ⟨b2, 0, none⟩)), (6, .pointer (some ⟨b3, 0, none⟩)), (7, u), (8, .int .i64 ((i : Nat) : Int)), (9, .int .i64 f), (10, .int .i64 d)] fun TA => ?_
      refine W.seq (W.region ?_)
      iterate 2 refine RW.v ?_
      refine RW.nil ?_
      refine W.rg [(0, v1), (3, .pointer (some ⟨h, 0, none⟩)), (5, .pointer (some ⟨b2, 0, none⟩)), (6, .pointer (some ⟨b3, 0, none⟩)), (7, u), (8, .int .i64 ((i : Nat) : Int)), (9, .int .i64 f), (10, .int .i64 d), (14, .bool false), (15, .int .i64 0)] fun TA => ?_
      refine W.seq ?_
      refine W.seq (W.region ?_)
      refine RW.v ?_
      refine RW.nil ?_
      refine W.rg [(0, v1), (3, .pointer (some ⟨h, 0, none⟩)), (5, .pointer (some ⟨b2, 0, none⟩)), (6, .pointer (some ⟨b3, 0, none⟩)), (7, u), (8, .int .i64 ((i : Nat) : Int)), (9, .int .i64 f), (10, .int .i64 d), (14, .bool false), (15, .int .i64 0), (16, .int .i64 0)] fun TA => ?_
      refine W.block ?_
      refine W.loop (fun mm2 ta σ => ∃ (k : Nat) (th : Bool) (q : Nat), (mm2 + k = ml.length) ∧ (th = hasM (ml.take k) f) ∧ (∀ y ∈ ml.take q, ltM d y = true) ∧ (∀ y ∈ (ml.take k).drop q, ltM d y = false) ∧ (q ≤ k) ∧ Lies G66 (heapAbs h m2) F σ [.sl 32 2 u ml.length (wdC ml), .at_ b2 (.row ⟨[.int .i64 v2.1, .int .i64 v2.2], 28, false⟩), .at_ b3 (.row ⟨[.int .i64 p2.1, .int .i64 p2.2], 28, false⟩)] ∧ ta 0 = v1 ∧ ta 3 = .pointer (some ⟨h, 0, none⟩) ∧ ta 5 = .pointer (some ⟨b2, 0, none⟩) ∧ ta 6 = .pointer (some ⟨b3, 0, none⟩) ∧ ta 7 = u ∧ ta 8 = .int .i64 ((i : Nat) : Int) ∧ ta 9 = .int .i64 f ∧ ta 10 = .int .i64 d ∧ ta 14 = .bool th ∧ ta 15 = .int .i64 ((q : Nat) : Int) ∧ ta 16 = .int .i64 ((k : Nat) : Int)) ml.length ?_ ?_
      · exact ⟨0, false, 0, (by omega), rfl, (fun y hy => by simp at hy), (fun y hy => by simp at hy), (Nat.le_refl _), H, rfl, rfl, rfl, rfl, rfl, rfl, rfl, rfl, rfl, rfl, rfl⟩
      clear H
      rintro mm2 ta _ ⟨k, th, q, hm2, hth, hq1, hq2, hqk, H, e0, e3, e5, e6, e7, e8, e9, e10, e14, e15, e16⟩
      refine W.rst [(0, v1), (3, .pointer (some ⟨h, 0, none⟩)), (5, .pointer (some ⟨b2, 0, none⟩)), (6, .pointer (some ⟨b3, 0, none⟩)), (7, u), (8, .int .i64 ((i : Nat) : Int)), (9, .int .i64 f), (10, .int .i64 d), (14, .bool th), (15, .int .i64 ((q : Nat) : Int)), (16, .int .i64 ((k : Nat) : Int))] ⟨e0, e3, e5, e6, e7, e8, e9, e10, e14, e15, e16, trivial⟩ fun TA => ?_
      clear e0 e3 e5 e6 e7 e8 e9 e10 e14 e15 e16
      refine W.seq ?_
      refine W.seq (W.region ?_)
      iterate 2 refine RW.v ?_
      refine RW.len (by kernel_rfl) (by kernel_rfl) rfl rfl rfl rfl ((H.sl 0 rfl).len (by kernel_rfl)) (by kernel_rfl) ?_
      refine RW.v ?_
      refine RW.nil ?_
      refine W.rg [(0, v1), (3, .pointer (some ⟨h, 0, none⟩)), (5, .pointer (some ⟨b2, 0, none⟩)), (6, .pointer (some ⟨b3, 0, none⟩)), (7, u), (8, .int .i64 ((i : Nat) : Int)), (9, .int .i64 f), (10, .int .i64 d), (14, .bool th), (15, .int .i64 ((q : Nat) : Int)), (16, .int .i64 ((k : Nat) : Int)), (72, .bool (decide (((k : Nat) : Int) < ((ml.length : Nat) : Int))))] fun TA => ?_
      refine W.cond rfl (fun hc32 => ?_) (fun hc32 => ?_)
      · have hc32b := hc32
        have hc32 := of_decide_eq_true hc32
        have hk : k < ml.length := by omega
        refine W.skip ?_
        refine W.seq ?_
        refine W.block ?_
        refine W.seq (W.region ?_)
        iterate 2 refine RW.v ?_
        refine RW.both _ _ rfl rfl rfl (fun hc33 => ?_) (fun hc33 => ?_)
        · have hc33b := hc33
          refine RW.skip (by rfl) (by kernel_rfl) ?_
          refine RW.skip (by rfl) (by kernel_rfl) ?_
          refine RW.skip (by rfl) (by kernel_rfl) ?_
          refine RW.skip (by rfl) (by kernel_rfl) ?_
          refine RW.skip (by rfl) (by kernel_rfl) ?_
          refine RW.skip (by rfl) (by kernel_rfl) ?_
          refine RW.skip (by rfl) (by kernel_rfl) ?_
          iterate 2 refine RW.v ?_
          refine RW.nil ?_
          refine W.rg [(0, v1), (3, .pointer (some ⟨h, 0, none⟩)), (5, .pointer (some ⟨b2, 0, none⟩)), (6, .pointer (some ⟨b3, 0, none⟩)), (7, u), (8, .int .i64 ((i : Nat) : Int)), (9, .int .i64 f), (10, .int .i64 d), (14, .bool true), (15, .int .i64 ((q : Nat) : Int)), (16, .int .i64 ((k : Nat) : Int))] fun TA => ?_
          refine W.seq (W.region ?_)
          iterate 2 refine RW.v ?_
          refine RW.idxG H 0 rfl (by kernel_rfl) (by kernel_rfl) rfl Tryd.underlying22 (by kernel_rfl) rfl rfl ⟨by omega, by omega⟩ (by kernel_rfl) ?_
          intro b34 q35 r36 hF37 hE38
          rw [wdC_at (l := ml) (j := k) (by omega)] at hE38
          refine RW.v ?_
          refine RW.loads 1 (by kernel_rfl) (by kernel_rfl) rfl rfl (hF37) (sub_take hE38 1 1 (by decide)) rfl (by kernel_rfl) ?_
          iterate 3 refine RW.v ?_
          refine RW.both _ _ rfl rfl rfl (fun hc39 => ?_) (fun hc39 => ?_)
          · have hc39b := hc39
            have hc39 := of_decide_eq_true hc39
            refine RW.skip (by rfl) (by kernel_rfl) ?_
            refine RW.skip (by rfl) (by kernel_rfl) ?_
            refine RW.skip (by rfl) (by kernel_rfl) ?_
            refine RW.skip (by rfl) (by kernel_rfl) ?_
            refine RW.skip (by rfl) (by kernel_rfl) ?_
            refine RW.skip (by rfl) (by kernel_rfl) ?_
            refine RW.skip (by rfl) (by kernel_rfl) ?_
            refine RW.skip (by rfl) (by kernel_rfl) ?_
            refine RW.skip (by rfl) (by kernel_rfl) ?_
            refine RW.skip (by rfl) (by kernel_rfl) ?_
            refine RW.skip (by rfl) (by kernel_rfl) ?_
            refine RW.v ?_
            refine RW.nil ?_
            refine W.rg [(0, v1), (3, .pointer (some ⟨h, 0, none⟩)), (5, .pointer (some ⟨b2, 0, none⟩)), (6, .pointer (some ⟨b3, 0, none⟩)), (7, u), (8, .int .i64 ((i : Nat) : Int)), (9, .int .i64 f), (10, .int .i64 d), (14, .bool true), (15, .int .i64 ((q : Nat) : Int)), (16, .int .i64 ((k : Nat) : Int)), (104, .bool true)] fun TA => ?_
            refine W.c1 ?_
            refine W.region ?_
            refine RW.v ?_
            refine RW.valE (v' := .int .i64 (((k : Nat) : Int) + 1)) (by kernel_rfl) (by kernel_rfl) rfl (congrArg (Value.int .i64) (wrap_in (by omega) (by omega))) (by kernel_rfl) ?_
            refine RW.v ?_
            refine RW.nil ?_
            refine blkQ_normal ?_
            refine W.rg [(0, v1), (3, .pointer (some ⟨h, 0, none⟩)), (5, .pointer (some ⟨b2, 0, none⟩)), (6, .pointer (some ⟨b3, 0, none⟩)), (7, u), (8, .int .i64 ((i : Nat) : Int)), (9, .int .i64 f), (10, .int .i64 d), (14, .bool true), (15, .int .i64 (((k : Nat) : Int) + 1)), (16, .int .i64 ((k : Nat) : Int))] fun TA => ?_
            refine W.region ?_
            refine RW.v ?_
            refine RW.valE (v' := .int .i64 (((k : Nat) : Int) + 1)) (by kernel_rfl) (by kernel_rfl) rfl (congrArg (Value.int .i64) (wrap_in (by omega) (by omega))) (by kernel_rfl) ?_
            refine RW.v ?_
            refine RW.nil ?_
            exact ⟨rfl, mm2 - 1, by omega, k + 1, true, k + 1, (by omega), (hasM_t hth hc33), (lt_before HI.sorted hk (ltM_of (by omega))), (drop_take_self _ _), (by omega), H, rfl, rfl, rfl, rfl, rfl, rfl, rfl, rfl, rfl, rfl, rfl⟩
          · have hc39b := hc39
            have hc39 := of_decide_eq_false hc39
            refine RW.val (by rfl) (by kernel_rfl) rfl (by kernel_rfl) ?_
            refine RW.val (by rfl) (by kernel_rfl) rfl (by kernel_rfl) ?_
            refine RW.idxG H 0 rfl (by rfl) (by kernel_rfl) rfl Tryd.underlying22 (by kernel_rfl) rfl rfl ⟨by omega, by omega⟩ (by kernel_rfl) ?_
            intro b40 q41 r42 hF43 hE44
            rw [wdC_at (l := ml) (j := k) (by omega)] at hE44
            refine RW.val (by rfl) (by kernel_rfl) rfl (by kernel_rfl) ?_
            refine RW.loads 1 (by rfl) (by kernel_rfl) rfl rfl (hF43) (sub_take hE44 1 1 (by decide)) rfl (by kernel_rfl) ?_
            refine RW.val (by rfl) (by kernel_rfl) rfl (by kernel_rfl) ?_
            refine RW.val (by rfl) (by kernel_rfl) rfl (by kernel_rfl) ?_
            refine RW.val (by rfl) (by kernel_rfl) rfl (by kernel_rfl) ?_
            refine RW.both _ _ rfl rfl rfl (fun hc45 => ?_) (fun hc45 => ?_)
            · have hc45b := hc45
              have hc45 := eq_of_beq hc45
              refine RW.val (by rfl) (by kernel_rfl) rfl (by kernel_rfl) ?_
              refine RW.val (by rfl) (by kernel_rfl) rfl (by kernel_rfl) ?_
              refine RW.val (by rfl) (by kernel_rfl) rfl (by kernel_rfl) ?_
              refine RW.v ?_
              refine RW.nil ?_
              refine W.rg [(0, v1), (3, .pointer (some ⟨h, 0, none⟩)), (5, .pointer (some ⟨b2, 0, none⟩)), (6, .pointer (some ⟨b3, 0, none⟩)), (7, u), (8, .int .i64 ((i : Nat) : Int)), (9, .int .i64 f), (10, .int .i64 d), (14, .bool true), (15, .int .i64 ((q : Nat) : Int)), (16, .int .i64 ((k : Nat) : Int)), (104, .bool (decide (d > 0)))] fun TA => ?_
              refine W.cond rfl (fun hc46 => ?_) (fun hc46 => ?_)
              · have hc46b := hc46
                have hc46 := of_decide_eq_true hc46
                refine W.region ?_
                refine RW.v ?_
                refine RW.valE (v' := .int .i64 (((k : Nat) : Int) + 1)) (by kernel_rfl) (by kernel_rfl) rfl (congrArg (Value.int .i64) (wrap_in (by omega) (by omega))) (by kernel_rfl) ?_
                refine RW.v ?_
                refine RW.nil ?_
                refine blkQ_normal ?_
                refine W.rg [(0, v1), (3, .pointer (some ⟨h, 0, none⟩)), (5, .pointer (some ⟨b2, 0, none⟩)), (6, .pointer (some ⟨b3, 0, none⟩)), (7, u), (8, .int .i64 ((i : Nat) : Int)), (9, .int .i64 f), (10, .int .i64 d), (14, .bool true), (15, .int .i64 (((k : Nat) : Int) + 1)), (16, .int .i64 ((k : Nat) : Int))] fun TA => ?_
                refine W.region ?_
                refine RW.v ?_
                refine RW.valE (v' := .int .i64 (((k : Nat) : Int) + 1)) (by kernel_rfl) (by kernel_rfl) rfl (congrArg (Value.int .i64) (wrap_in (by omega) (by omega))) (by kernel_rfl) ?_
                refine RW.v ?_
                refine RW.nil ?_
                exact ⟨rfl, mm2 - 1, by omega, k + 1, true, k + 1, (by omega), (hasM_t hth hc33), (lt_before HI.sorted hk (ltM_of (by omega))), (drop_take_self _ _), (by omega), H, rfl, rfl, rfl, rfl, rfl, rfl, rfl, rfl, rfl, rfl, rfl⟩
              · have hc46b := hc46
                have hc46 := of_decide_eq_false hc46
                refine W.skip ?_
                refine blkQ_normal ?_
                refine W.region ?_
                refine RW.v ?_
                refine RW.valE (v' := .int .i64 (((k : Nat) : Int) + 1)) (by kernel_rfl) (by kernel_rfl) rfl (congrArg (Value.int .i64) (wrap_in (by omega) (by omega))) (by kernel_rfl) ?_
                refine RW.v ?_
                refine RW.nil ?_
                exact ⟨rfl, mm2 - 1, by omega, k + 1, true, q, (by omega), (hasM_t hth hc33), hq1, (nlt_next hk hqk hq2 (ltM_not (by omega))), (by omega), H, rfl, rfl, rfl, rfl, rfl, rfl, rfl, rfl, rfl, rfl, rfl⟩
            · have hc45b := hc45
              have hc45 := ne_of_beq_false hc45
              refine RW.skip (by rfl) (by kernel_rfl) ?_
              refine RW.skip (by rfl) (by kernel_rfl) ?_
              refine RW.val (by rfl) (by kernel_rfl) rfl (by kernel_rfl) ?_
              refine RW.v ?_
              refine RW.nil ?_
              refine W.rg [(0, v1), (3, .pointer (some ⟨h, 0, none⟩)), (5, .pointer (some ⟨b2, 0, none⟩)), (6, .pointer (some ⟨b3, 0, none⟩)), (7, u), (8, .int .i64 ((i : Nat) : Int)), (9, .int .i64 f), (10, .int .i64 d), (14, .bool true), (15, .int .i64 ((q : Nat) : Int)), (16, .int .i64 ((k : Nat) : Int)), (104, .bool false)] fun TA => ?_
              refine W.c0 ?_
              refine W.skip ?_
              refine blkQ_normal ?_
              refine W.region ?_
              refine RW.v ?_
              refine RW.valE (v' := .int .i64 (((k : Nat) : Int) + 1)) (by kernel_rfl) (by kernel_rfl) rfl (congrArg (Value.int .i64) (wrap_in (by omega) (by omega))) (by kernel_rfl) ?_
              refine RW.v ?_
              refine RW.nil ?_
              exact ⟨rfl, mm2 - 1, by omega, k + 1, true, q, (by omega), (hasM_t hth hc33), hq1, (nlt_next hk hqk hq2 (ltM_not (by omega))), (by omega), H, rfl, rfl, rfl, rfl, rfl, rfl, rfl, rfl, rfl, rfl, rfl⟩
        · have hc33b := hc33
          refine RW.val (by rfl) (by kernel_rfl) rfl (by kernel_rfl) ?_
          refine RW.val (by rfl) (by kernel_rfl) rfl (by kernel_rfl) ?_
          refine RW.idxG H 0 rfl (by rfl) (by kernel_rfl) rfl Tryd.underlying22 (by kernel_rfl) rfl rfl ⟨by omega, by omega⟩ (by kernel_rfl) ?_
          intro b47 q48 r49 hF50 hE51
          rw [wdC_at (l := ml) (j := k) (by omega)] at hE51
          refine RW.val (by rfl) (by kernel_rfl) rfl (by kernel_rfl) ?_
          refine RW.loads 1 (by rfl) (by kernel_rfl) rfl rfl (hF50) (sub_take hE51 0 1 (by decide)) rfl (by kernel_rfl) ?_
          refine RW.val (by rfl) (by kernel_rfl) rfl (by kernel_rfl) ?_
          refine RW.val (by rfl) (by kernel_rfl) rfl (by kernel_rfl) ?_
          iterate 2 refine RW.v ?_
          refine RW.nil ?_
          refine W.rg [(0, v1), (3, .pointer (some ⟨h, 0, none⟩)), (5, .pointer (some ⟨b2, 0, none⟩)), (6, .pointer (some ⟨b3, 0, none⟩)), (7, u), (8, .int .i64 ((i : Nat) : Int)), (9, .int .i64 f), (10, .int .i64 d), (14, .bool (((ml.getD k (0, 0)).1) == f)), (15, .int .i64 ((q : Nat) : Int)), (16, .int .i64 ((k : Nat) : Int))] fun TA => ?_
          refine W.seq (W.region ?_)
          iterate 2 refine RW.v ?_
          refine RW.idxG H 0 rfl (by kernel_rfl) (by kernel_rfl) rfl Tryd.underlying22 (by kernel_rfl) rfl rfl ⟨by omega, by omega⟩ (by kernel_rfl) ?_
          intro b52 q53 r54 hF55 hE56
          rw [wdC_at (l := ml) (j := k) (by omega)] at hE56
          refine RW.v ?_
          refine RW.loads 1 (by kernel_rfl) (by kernel_rfl) rfl rfl (hF55) (sub_take hE56 1 1 (by decide)) rfl (by kernel_rfl) ?_
          iterate 3 refine RW.v ?_
          refine RW.both _ _ rfl rfl rfl (fun hc57 => ?_) (fun hc57 => ?_)
          · have hc57b := hc57
            have hc57 := of_decide_eq_true hc57
            refine RW.skip (by rfl) (by kernel_rfl) ?_
            refine RW.skip (by rfl) (by kernel_rfl) ?_
            refine RW.skip (by rfl) (by kernel_rfl) ?_
            refine RW.skip (by rfl) (by kernel_rfl) ?_
            refine RW.skip (by rfl) (by kernel_rfl) ?_
            refine RW.skip (by rfl) (by kernel_rfl) ?_
            refine RW.skip (by rfl) (by kernel_rfl) ?_
            refine RW.skip (by rfl) (by kernel_rfl) ?_
            refine RW.skip (by rfl) (by kernel_rfl) ?_
            refine RW.skip (by rfl) (by kernel_rfl) ?_
            refine RW.skip (by rfl) (by kernel_rfl) ?_
            refine RW.v ?_
            refine RW.nil ?_
            refine W.rg [(0, v1), (3, .pointer (some ⟨h, 0, none⟩)), (5, .pointer (some ⟨b2, 0, none⟩)), (6, .pointer (some ⟨b3, 0, none⟩)), (7, u), (8, .int .i64 ((i : Nat) : Int)), (9, .int .i64 f), (10, .int .i64 d), (14, .bool (((ml.getD k (0, 0)).1) == f)), (15, .int .i64 ((q : Nat) : Int)), (16, .int .i64 ((k : Nat) : Int)), (104, .bool true)] fun TA => ?_
            refine W.c1 ?_
            refine W.region ?_
            refine RW.v ?_
            refine RW.valE (v' := .int .i64 (((k : Nat) : Int) + 1)) (by kernel_rfl) (by kernel_rfl) rfl (congrArg (Value.int .i64) (wrap_in (by omega) (by omega))) (by kernel_rfl) ?_
            refine RW.v ?_
            refine RW.nil ?_
            refine blkQ_normal ?_
            refine W.rg [(0, v1), (3, .pointer (some ⟨h, 0, none⟩)), (5, .pointer (some ⟨b2, 0, none⟩)), (6, .pointer (some ⟨b3, 0, none⟩)), (7, u), (8, .int .i64 ((i : Nat) : Int)), (9, .int .i64 f), (10, .int .i64 d), (14, .bool (((ml.getD k (0, 0)).1) == f)), (15, .int .i64 (((k : Nat) : Int) + 1)), (16, .int .i64 ((k : Nat) : Int))] fun TA => ?_
            refine W.region ?_
            refine RW.v ?_
            refine RW.valE (v' := .int .i64 (((k : Nat) : Int) + 1)) (by kernel_rfl) (by kernel_rfl) rfl (congrArg (Value.int .i64) (wrap_in (by omega) (by omega))) (by kernel_rfl) ?_
            refine RW.v ?_
            refine RW.nil ?_
            exact ⟨rfl, mm2 - 1, by omega, k + 1, ((ml.getD k (0, 0)).1) == f, k + 1, (by omega), (hasM_f hk hth hc33), (lt_before HI.sorted hk (ltM_of (by omega))), (drop_take_self _ _), (by omega), H, rfl, rfl, rfl, rfl, rfl, rfl, rfl, rfl, rfl, rfl, rfl⟩
          · have hc57b := hc57
            have hc57 := of_decide_eq_false hc57
            refine RW.val (by rfl) (by kernel_rfl) rfl (by kernel_rfl) ?_
            refine RW.val (by rfl) (by kernel_rfl) rfl (by kernel_rfl) ?_
            refine RW.idxG H 0 rfl (by rfl) (by kernel_rfl) rfl Tryd.underlying22 (by kernel_rfl) rfl rfl ⟨by omega, by omega⟩ (by kernel_rfl) ?_
            intro b58 q59 r60 hF61 hE62
            rw [wdC_at (l := ml) (j := k) (by omega)] at hE62
            refine RW.val (by rfl) (by kernel_rfl) rfl (by kernel_rfl) ?_
            refine RW.loads 1 (by rfl) (by kernel_rfl) rfl rfl (hF61) (sub_take hE62 1 1 (by decide)) rfl (by kernel_rfl) ?_
            refine RW.val (by rfl) (by kernel_rfl) rfl (by kernel_rfl) ?_
            refine RW.val (by rfl) (by kernel_rfl) rfl (by kernel_rfl) ?_
            refine RW.val (by rfl) (by kernel_rfl) rfl (by kernel_rfl) ?_
            refine RW.both _ _ rfl rfl rfl (fun hc63 => ?_) (fun hc63 => ?_)
            · have hc63b := hc63
              have hc63 := eq_of_beq hc63
              refine RW.val (by rfl) (by kernel_rfl) rfl (by kernel_rfl) ?_
              refine RW.val (by rfl) (by kernel_rfl) rfl (by kernel_rfl) ?_
              refine RW.val (by rfl) (by kernel_rfl) rfl (by kernel_rfl) ?_
              refine RW.v ?_
              refine RW.nil ?_
              refine W.rg [(0, v1), (3, .pointer (some ⟨h, 0, none⟩)), (5, .pointer (some ⟨b2, 0, none⟩)), (6, .pointer (some ⟨b3, 0, none⟩)), (7, u), (8, .int .i64 ((i : Nat) : Int)), (9, .int .i64 f), (10, .int .i64 d), (14, .bool (((ml.getD k (0, 0)).1) == f)), (15, .int .i64 ((q : Nat) : Int)), (16, .int .i64 ((k : Nat) : Int)), (104, .bool (decide (d > 0)))] fun TA => ?_
              refine W.cond rfl (fun hc64 => ?_) (fun hc64 => ?_)
              · have hc64b := hc64
                have hc64 := of_decide_eq_true hc64
                refine W.region ?_
                refine RW.v ?_
                refine RW.valE (v' := .int .i64 (((k : Nat) : Int) + 1)) (by kernel_rfl) (by kernel_rfl) rfl (congrArg (Value.int .i64) (wrap_in (by omega) (by omega))) (by kernel_rfl) ?_
                refine RW.v ?_
                refine RW.nil ?_
                refine blkQ_normal ?_
                refine W.rg [(0, v1), (3, .pointer (some ⟨h, 0, none⟩)), (5, .pointer (some ⟨b2, 0, none⟩)), (6, .pointer (some ⟨b3, 0, none⟩)), (7, u), (8, .int .i64 ((i : Nat) : Int)), (9, .int .i64 f), (10, .int .i64 d), (14, .bool (((ml.getD k (0, 0)).1) == f)), (15, .int .i64 (((k : Nat) : Int) + 1)), (16, .int .i64 ((k : Nat) : Int))] fun TA => ?_
                refine W.region ?_
                refine RW.v ?_
                refine RW.valE (v' := .int .i64 (((k : Nat) : Int) + 1)) (by kernel_rfl) (by kernel_rfl) rfl (congrArg (Value.int .i64) (wrap_in (by omega) (by omega))) (by kernel_rfl) ?_
                refine RW.v ?_
                refine RW.nil ?_
                exact ⟨rfl, mm2 - 1, by omega, k + 1, ((ml.getD k (0, 0)).1) == f, k + 1, (by omega), (hasM_f hk hth hc33), (lt_before HI.sorted hk (ltM_of (by omega))), (drop_take_self _ _), (by omega), H, rfl, rfl, rfl, rfl, rfl, rfl, rfl, rfl, rfl, rfl, rfl⟩
              · have hc64b := hc64
                have hc64 := of_decide_eq_false hc64
                refine W.skip ?_
                refine blkQ_normal ?_
                refine W.region ?_
                refine RW.v ?_
                refine RW.valE (v' := .int .i64 (((k : Nat) : Int) + 1)) (by kernel_rfl) (by kernel_rfl) rfl (congrArg (Value.int .i64) (wrap_in (by omega) (by omega))) (by kernel_rfl) ?_
                refine RW.v ?_
                refine RW.nil ?_
                exact ⟨rfl, mm2 - 1, by omega, k + 1, ((ml.getD k (0, 0)).1) == f, q, (by omega), (hasM_f hk hth hc33), hq1, (nlt_next hk hqk hq2 (ltM_not (by omega))), (by omega), H, rfl, rfl, rfl, rfl, rfl, rfl, rfl, rfl, rfl, rfl, rfl⟩
            · have hc63b := hc63
              have hc63 := ne_of_beq_false hc63
              refine RW.skip (by rfl) (by kernel_rfl) ?_
              refine RW.skip (by rfl) (by kernel_rfl) ?_
              refine RW.val (by rfl) (by kernel_rfl) rfl (by kernel_rfl) ?_
              refine RW.v ?_
              refine RW.nil ?_
              refine W.rg [(0, v1), (3, .pointer (some ⟨h, 0, none⟩)), (5, .pointer (some ⟨b2, 0, none⟩)), (6, .pointer (some ⟨b3, 0, none⟩)), (7, u), (8, .int .i64 ((i : Nat) : Int)), (9, .int .i64 f), (10, .int .i64 d), (14, .bool (((ml.getD k (0, 0)).1) == f)), (15, .int .i64 ((q : Nat) : Int)), (16, .int .i64 ((k : Nat) : Int)), (104, .bool false)] fun TA => ?_
              refine W.c0 ?_
              refine W.skip ?_
              refine blkQ_normal ?_
              refine W.region ?_
              refine RW.v ?_
              refine RW.valE (v' := .int .i64 (((k : Nat) : Int) + 1)) (by kernel_rfl) (by kernel_rfl) rfl (congrArg (Value.int .i64) (wrap_in (by omega) (by omega))) (by kernel_rfl) ?_
              refine RW.v ?_
              refine RW.nil ?_
              exact ⟨rfl, mm2 - 1, by omega, k + 1, ((ml.getD k (0, 0)).1) == f, q, (by omega), (hasM_f hk hth hc33), hq1, (nlt_next hk hqk hq2 (ltM_not (by omega))), (by omega), H, rfl, rfl, rfl, rfl, rfl, rfl, rfl, rfl, rfl, rfl, rfl⟩
      · have hc32b := hc32
        have hc32 := of_decide_eq_false hc32
        refine W.exit _ ?_
        refine seqQ_exit ?_
        refine rndQ_exit ?_
        obtain rfl : k = ml.length := by omega
        rw [List.take_length] at hth hq2
        refine blkQ_here ?_
        refine W.seq ?_
        refine W.seq (W.region ?_)
        iterate 2 refine RW.v ?_
        refine RW.nil ?_
        refine W.rg [(0, v1), (3, .pointer (some ⟨h, 0, none⟩)), (5, .pointer (some ⟨b2, 0, none⟩)), (6, .pointer (some ⟨b3, 0, none⟩)), (7, u), (8, .int .i64 ((i : Nat) : Int)), (9, .int .i64 f), (10, .int .i64 d), (15, .int .i64 ((q : Nat) : Int)), (108, .bool (!th))] fun TA => ?_
        refine W.cond rfl (fun hc65 => ?_) (fun hc65 => ?_)
        · have hc65b := hc65
          have hno : hasM ml f = false := by rw [← hth]; simpa using hc65b
          have hgr := H.sl 0 rfl
          obtain ⟨F, leM, hSM, H⟩ := H.freezeSl 0 rfl
          dsimp only [setL, delL] at H
          replace hl := hl.le leM
          replace hN := hN.le leM
          replace hTee := hTee.le leM
          obtain ⟨vA, hcA, hSA⟩ := slf_cut (P := Tryd.prog) (t := 22) hgr hSM (by kernel_rfl) (by kernel_rfl) (show q ≤ ml.length by omega)
          obtain ⟨vB, hcB, hSB⟩ := slf_rest (P := Tryd.prog) (t := 22) hgr hSM (by kernel_rfl) (by kernel_rfl) (show q ≤ ml.length by omega)
          rw [wdC_take] at hSA
          rw [wdC_drop] at hSB
          have hSA0 := hSA
          rcases Nat.eq_zero_or_pos q with hq0 | hq0
          · rw [hq0] at hSA0
            refine W.drawn (by kernel_rfl) (by kernel_rfl) H.gn ?_
            have H66 := H
            refine RW.mkD H66 (x := .row ⟨[], 32, false⟩) (fm := fun b => .slice (some ⟨b, 0, none⟩) 0 0) (by kernel_rfl) (by kernel_rfl) (by kernel_rfl) (by kernel_rfl) ?_
            intro _ b67 H68
            iterate 2 refine RW.v ?_
            refine RW.vop (v := vA) (by kernel_rfl) (by kernel_rfl) (vop_slice rfl hcA) (by kernel_rfl) ?_
            refine RW.appZ H68 (e := 32) (e2 := 32) (s := 2) hSA0 (by kernel_rfl) (by kernel_rfl) rfl rfl rfl rfl rfl rfl (by kernel_rfl) (by kernel_rfl) (by kernel_rfl) (by decide) (by kernel_rfl) ?_
            iterate 2 refine RW.v ?_
            refine RW.val (v := .agg #[.int .i64 f, .int .i64 d]) (by kernel_rfl) (by kernel_rfl) (by kernel_rfl) (by kernel_rfl) ?_
            refine RW.mkD H68 (x := .row ⟨[.int .i64 f, .int .i64 d], 32, false⟩) (fm := fun b => .slice (some ⟨b, 0, none⟩) 1 1) (by kernel_rfl) (by kernel_rfl) (by kernel_rfl) (by kernel_rfl) ?_
            intro _ b69 H70
            have H71 := H70.nilSl 32 2
            refine RW.appLD H71 0 1 (n := 1) (e2 := 32) (by kernel_rfl) (by kernel_rfl) rfl rfl rfl rfl rfl rfl rfl (.inr ⟨rfl, _, _, _, rfl, H71.get 2 rfl⟩) rfl (by kernel_rfl) (by kernel_rfl) (by kernel_rfl) (by decide) (by decide) rfl rfl (by omega) (by kernel_rfl) ?_
            intro _ v72 H73
            dsimp only [setL, delL] at H73
            iterate 2 refine RW.v ?_
            refine RW.vop (v := vB) (by kernel_rfl) (by kernel_rfl) (vop_slice rfl hcB) (by kernel_rfl) ?_
            refine RW.appFD H73 0 (e2 := 32) hSB (by kernel_rfl) (by kernel_rfl) rfl rfl rfl rfl rfl rfl rfl (.inl rfl) (by kernel_rfl) (by kernel_rfl) (by kernel_rfl) (by decide) (wdC_ones _) (by omega) (by kernel_rfl) ?_
            intro _ v74 H75
            dsimp only [setL, delL] at H75
            refine RW.v ?_
            refine RW.nil ?_
            refine ⟨⟨by kernel_rfl, ⟨Or.inl (by kernel_rfl), trivial, trivial, trivial, trivial, trivial, trivial, trivial, Or.inl (by kernel_rfl), trivial, trivial, trivial, trivial, trivial, trivial, trivial⟩⟩, ?_⟩
            replace H := H75
            clear H66 H68 H70 H71 H73 H75
            replace H := (H.del 1)
            dsimp only [setL, delL] at H
            refine W.rg [(0, v1), (3, .pointer (some ⟨h, 0, none⟩)), (5, .pointer (some ⟨b2, 0, none⟩)), (6, .pointer (some ⟨b3, 0, none⟩)), (7, v74), (8, .int .i64 ((i : Nat) : Int))] fun TA => ?_
            refine W.seq ?_
            rw [show [] ++ [.int .i64 f, .int .i64 d] ++ wdC (ml.drop q) = wdC (addM ml f d) from parts_zero hq0 hno hq1 hq2, show 0 + 1 + (ml.length - q) = (addM ml f d).length from by rw [addM_len hno]; omega] at H
            generalize addM ml f d = ml2 at H HI2
            have hml2 := HI2.len
            refine W.drawn (by kernel_rfl) (by kernel_rfl) H.gn ?_
            have H76 := H
            refine RW.v ?_
            refine RW.ld H76 1 2 ?_
            refine RW.call (by kernel_rfl) (by kernel_rfl) rfl rfl rfl (by kernel_rfl) (by kernel_rfl) ⟨_, _, s_nilK (G := G66), ?_⟩
            refine RW.call (by kernel_rfl) (by kernel_rfl) rfl rfl rfl (by kernel_rfl) (by kernel_rfl) ((funs_step HI2 H76.gn H76.abs (hN.le H76.old) (hTee.le H76.old)).mono ?_)
            rintro _ _ ⟨slr, rfl, K77⟩
            have H78 := H76.then K77
            dsimp only [List.nil_append, List.cons_append] at H78
            iterate 5 refine RW.v ?_
            refine RW.nil ?_
            refine ⟨⟨by kernel_rfl, ⟨trivial, dyn_row (H76.get 1 rfl) (H78.get 2 rfl) ⟨fun h => Bool.noConfusion h, fun h => Bool.noConfusion h, fun _ => H76.get 1 rfl, fun _ => H76.get 1 rfl, fun h => Bool.noConfusion h, fun h => Bool.noConfusion h, fun h => Bool.noConfusion h, fun h => Bool.noConfusion h, fun h => Bool.noConfusion h, trivial⟩, trivial, trivial, trivial, trivial, trivial, trivial, trivial, trivial⟩⟩, ?_⟩
            replace H := H78
            clear H76 H78
            refine W.rg [(0, v1), (3, .pointer (some ⟨h, 0, none⟩)), (5, .pointer (some ⟨b2, 0, none⟩)), (6, .pointer (some ⟨b3, 0, none⟩)), (7, v74), (8, .int .i64 ((i : Nat) : Int)), (13, .int .i64 0), (17, slr)] fun TA => ?_
            refine W.seq ?_
            refine W.seq (W.region ?_)
            iterate 3 refine RW.v ?_
            refine RW.val (by rfl) (by kernel_rfl) rfl (by kernel_rfl) ?_
            refine RW.len (by rfl) (by kernel_rfl) rfl rfl rfl rfl ((H.sl 0 rfl).len (by kernel_rfl)) (by kernel_rfl) ?_
            refine RW.val (by rfl) (by kernel_rfl) rfl (by kernel_rfl) ?_
            refine RW.len (by rfl) (by kernel_rfl) rfl rfl rfl rfl ((H.sl 1 rfl).len (by kernel_rfl)) (by kernel_rfl) ?_
            refine RW.valE (v' := .bool false) (by rfl) (by kernel_rfl) rfl (congrArg Value.bool (bne_eq_false_iff_eq.2 (by rfl))) (by kernel_rfl) ?_
            refine RW.v ?_
            refine RW.nil ?_
            refine W.rg [(0, v1), (3, .pointer (some ⟨h, 0, none⟩)), (5, .pointer (some ⟨b2, 0, none⟩)), (6, .pointer (some ⟨b3, 0, none⟩)), (7, v74), (8, .int .i64 ((i : Nat) : Int)), (17, slr), (138, .bool false)] fun TA => ?_
            refine W.c0 ?_
            refine W.skip ?_
            refine W.seq (W.region ?_)
            refine RW.v ?_
            refine RW.nil ?_
            refine W.rg [(0, v1), (3, .pointer (some ⟨h, 0, none⟩)), (5, .pointer (some ⟨b2, 0, none⟩)), (6, .pointer (some ⟨b3, 0, none⟩)), (7, v74), (8, .int .i64 ((i : Nat) : Int)), (17, slr), (18, .int .i64 0)] fun TA => ?_
            refine W.block ?_
            refine W.loop (fun mm3 ta σ => ∃ (r : Nat), (mm3 + r = ml2.length) ∧ Lies G66 (heapAbs h m2) F σ [.sl 28 2 slr ml2.length (wdC (ml2.map symW)), .sl 32 2 v74 ml2.length (wdC ml2), .at_ b2 (.row ⟨[.int .i64 v2.1, .int .i64 v2.2], 28, false⟩), .at_ b3 (.row ⟨[.int .i64 p2.1, .int .i64 p2.2], 28, false⟩)] ∧ ta 0 = v1 ∧ ta 3 = .pointer (some ⟨h, 0, none⟩) ∧ ta 5 = .pointer (some ⟨b2, 0, none⟩) ∧ ta 6 = .pointer (some ⟨b3, 0, none⟩) ∧ ta 7 = v74 ∧ ta 8 = .int .i64 ((i : Nat) : Int) ∧ ta 17 = slr ∧ ta 18 = .int .i64 ((r : Nat) : Int)) ml2.length ?_ ?_
            · exact ⟨0, (by omega), H, rfl, rfl, rfl, rfl, rfl, rfl, rfl, rfl⟩
            clear H
            rintro mm3 ta _ ⟨r, hm3, H, e0, e3, e5, e6, e7, e8, e17, e18⟩
            refine W.rst [(0, v1), (3, .pointer (some ⟨h, 0, none⟩)), (5, .pointer (some ⟨b2, 0, none⟩)), (6, .pointer (some ⟨b3, 0, none⟩)), (7, v74), (8, .int .i64 ((i : Nat) : Int)), (17, slr), (18, .int .i64 ((r : Nat) : Int))] ⟨e0, e3, e5, e6, e7, e8, e17, e18, trivial⟩ fun TA => ?_
            clear e0 e3 e5 e6 e7 e8 e17 e18
            refine W.seq ?_
            refine W.seq (W.region ?_)
            iterate 2 refine RW.v ?_
            refine RW.len (by kernel_rfl) (by kernel_rfl) rfl rfl rfl rfl ((H.sl 0 rfl).len (by kernel_rfl)) (by kernel_rfl) ?_
            refine RW.v ?_
            refine RW.nil ?_
            refine W.rg [(0, v1), (3, .pointer (some ⟨h, 0, none⟩)), (5, .pointer (some ⟨b2, 0, none⟩)), (6, .pointer (some ⟨b3, 0, none⟩)), (7, v74), (8, .int .i64 ((i : Nat) : Int)), (17, slr), (18, .int .i64 ((r : Nat) : Int)), (142, .bool (decide (((r : Nat) : Int) < ((ml2.length : Nat) : Int))))] fun TA => ?_
            refine W.cond rfl (fun hc79 => ?_) (fun hc79 => ?_)
            · have hc79b := hc79
              have hc79 := of_decide_eq_true hc79
              have hrg := HI2.range _ (getW_mem (l := ml2) (j := r) (by omega))
              refine W.skip ?_
              refine W.seq ?_
              refine W.block ?_
              refine W.seq ?_
              refine W.drawn (by kernel_rfl) (by kernel_rfl) H.gn ?_
              have H80 := H
              refine RW.v ?_
              refine RW.ld H80 3 2 ?_
              iterate 2 refine RW.v ?_
              refine RW.idxG H80 0 rfl (by kernel_rfl) (by kernel_rfl) rfl Tryd.underlying37 (by kernel_rfl) rfl rfl ⟨by omega, by omega⟩ (by kernel_rfl) ?_
              intro b81 q82 r83 hF84 hE85
              rw [sym_at (ml := ml2) (k := r) (by omega)] at hE85
              refine RW.loads 2 (by kernel_rfl) (by kernel_rfl) rfl rfl (hF84) hE85 rfl (by kernel_rfl) ?_
              refine RW.call (by kernel_rfl) (by kernel_rfl) rfl rfl rfl (by kernel_rfl) (by kernel_rfl) ((depth_step (k := r) HI2 (by omega) (by omega) H80.gn H80.abs).mono ?_)
              rintro _ _ ⟨rfl, K86⟩
              have H87 := H80.then K86
              dsimp only [List.nil_append, List.cons_append] at H87
              iterate 5 refine RW.v ?_
              refine RW.nil ?_
              refine ⟨⟨by kernel_rfl, ⟨trivial, dyn_row (H80.get 3 rfl) (H87.get 3 rfl) ⟨fun h => Bool.noConfusion h, fun h => Bool.noConfusion h, fun h => Bool.noConfusion h, fun h => Bool.noConfusion h, fun h => Bool.noConfusion h, fun h => Bool.noConfusion h, fun _ => H80.get 3 rfl, fun h => Bool.noConfusion h, fun h => Bool.noConfusion h, fun h => Bool.noConfusion h, fun h => Bool.noConfusion h, fun h => Bool.noConfusion h, trivial⟩, trivial, trivial, trivial, dyn_row (hF84) ((K86.old _ _ hF84)) ⟨fun h => Bool.noConfusion h, fun h => Bool.noConfusion h, fun h => Bool.noConfusion h, fun h => Bool.noConfusion h, fun h => Bool.noConfusion h, fun h => Bool.noConfusion h, fun _ => hF84, fun h => Bool.noConfusion h, fun h => Bool.noConfusion h, fun h => Bool.noConfusion h, fun h => Bool.noConfusion h, fun h => Bool.noConfusion h, trivial⟩, trivial, trivial, trivial, trivial, trivial, trivial, trivial⟩⟩, ?_⟩
              replace H := H87
              clear H80 H87
              refine W.rg [(0, v1), (3, .pointer (some ⟨h, 0, none⟩)), (5, .pointer (some ⟨b2, 0, none⟩)), (6, .pointer (some ⟨b3, 0, none⟩)), (7, v74), (8, .int .i64 ((i : Nat) : Int)), (17, slr), (18, .int .i64 ((r : Nat) : Int)), (19, .int .i64 ((ml2.getD r (0, 0)).2)), (20, .int .i64 0)] fun TA => ?_
              refine W.seq ?_
              refine W.drawn (by kernel_rfl) (by kernel_rfl) H.gn ?_
              have H88 := H
              iterate 3 refine RW.v ?_
              refine RW.val (by rfl) (by kernel_rfl) rfl (by kernel_rfl) ?_
              refine RW.val (by rfl) (by kernel_rfl) rfl (by kernel_rfl) ?_
              refine RW.idxG H88 0 rfl (by rfl) (by kernel_rfl) rfl Tryd.underlying37 (by kernel_rfl) rfl rfl ⟨by omega, by omega⟩ (by kernel_rfl) ?_
              intro b89 q90 r91 hF92 hE93
              rw [sym_at (ml := ml2) (k := r) (by omega)] at hE93
              refine RW.loads 2 (by rfl) (by kernel_rfl) rfl rfl (hF92) hE93 rfl (by kernel_rfl) ?_
              refine RW.val (by rfl) (by kernel_rfl) rfl (by kernel_rfl) ?_
              refine RW.val (by rfl) (by kernel_rfl) rfl (by kernel_rfl) ?_
              refine RW.idxG H88 1 rfl (by rfl) (by kernel_rfl) rfl Tryd.underlying22 (by kernel_rfl) rfl rfl ⟨by omega, by omega⟩ (by kernel_rfl) ?_
              intro b94 q95 r96 hF97 hE98
              rw [wdC_at (l := ml2) (j := r) (by omega)] at hE98
              refine RW.val (by rfl) (by kernel_rfl) rfl (by kernel_rfl) ?_
              refine RW.loads 1 (by rfl) (by kernel_rfl) rfl rfl (hF97) (sub_take hE98 0 1 (by decide)) rfl (by kernel_rfl) ?_
              refine RW.valE (v' := .int .i64 (70 + ((ml2.getD r (0, 0)).1))) (by rfl) (by kernel_rfl) rfl (congrArg (Value.int .i64) (wrap_in (by omega) (by omega))) (by kernel_rfl) ?_
              refine RW.call (by rfl) (by kernel_rfl) rfl rfl rfl (by kernel_rfl) (by kernel_rfl) ((sym_wc (70 + ((ml2.getD r (0, 0)).1)) H88.gn H88.abs).mono ?_)
              rintro _ _ ⟨rfl, K99⟩
              have H100 := H88.then K99
              dsimp only [List.nil_append, List.cons_append] at H100
              refine RW.vop (v := .bool false) (by rfl) (by kernel_rfl) (vop_eqS (b := true) (r := false) rfl (.inr ⟨rfl, rfl⟩) rfl rfl rfl rfl (by kernel_rfl) (fun w => (eqWd _ _ _ _ w).trans (by simp))) (by kernel_rfl) ?_
              iterate 2 refine RW.v ?_
              refine RW.val (by rfl) (by kernel_rfl) rfl (by kernel_rfl) ?_
              refine RW.val (by rfl) (by kernel_rfl) rfl (by kernel_rfl) ?_
              refine RW.val (by rfl) (by kernel_rfl) rfl (by kernel_rfl) ?_
              refine RW.idxG H100 1 rfl (by rfl) (by kernel_rfl) rfl Tryd.underlying22 (by kernel_rfl) rfl rfl ⟨by omega, by omega⟩ (by kernel_rfl) ?_
              intro b101 q102 r103 hF104 hE105
              rw [wdC_at (l := ml2) (j := r) (by omega)] at hE105
              refine RW.val (by rfl) (by kernel_rfl) rfl (by kernel_rfl) ?_
              refine RW.loads 1 (by rfl) (by kernel_rfl) rfl rfl (hF104) (sub_take hE105 1 1 (by decide)) rfl (by kernel_rfl) ?_
              refine RW.valE (v' := .bool false) (by rfl) (by kernel_rfl) rfl (congrArg Value.bool (bne_eq_false_iff_eq.2 (by rfl))) (by kernel_rfl) ?_
              refine RW.v ?_
              refine RW.nil ?_
              refine ⟨⟨by kernel_rfl, ⟨trivial, trivial, trivial, trivial, trivial, trivial, dyn_row (hF92) ((K99.old _ _ hF92)) ⟨fun h => Bool.noConfusion h, fun h => Bool.noConfusion h, fun h => Bool.noConfusion h, fun h => Bool.noConfusion h, fun h => Bool.noConfusion h, fun h => Bool.noConfusion h, fun h => Bool.noConfusion h, fun h => Bool.noConfusion h, fun h => Bool.noConfusion h, fun h => Bool.noConfusion h, fun h => Bool.noConfusion h, fun h => Bool.noConfusion h, fun h => Bool.noConfusion h, fun _ => hF92, fun h => Bool.noConfusion h, fun h => Bool.noConfusion h, fun h => Bool.noConfusion h, fun h => Bool.noConfusion h, fun h => Bool.noConfusion h, fun h => Bool.noConfusion h, fun h => Bool.noConfusion h, fun h => Bool.noConfusion h, fun h => Bool.noConfusion h, fun h => Bool.noConfusion h, fun h => Bool.noConfusion h, trivial⟩, trivial, trivial, trivial, trivial, dyn_row (hF97) ((K99.old _ _ hF97)) ⟨fun h => Bool.noConfusion h, fun h => Bool.noConfusion h, fun h => Bool.noConfusion h, fun h => Bool.noConfusion h, fun h => Bool.noConfusion h, fun h => Bool.noConfusion h, fun h => Bool.noConfusion h, fun h => Bool.noConfusion h, fun h => Bool.noConfusion h, fun h => Bool.noConfusion h, fun h => Bool.noConfusion h, fun h => Bool.noConfusion h, fun h => Bool.noConfusion h, fun _ => hF97, fun h => Bool.noConfusion h, fun h => Bool.noConfusion h, fun h => Bool.noConfusion h, fun h => Bool.noConfusion h, fun h => Bool.noConfusion h, fun h => Bool.noConfusion h, fun h => Bool.noConfusion h, fun h => Bool.noConfusion h, fun h => Bool.noConfusion h, fun h => Bool.noConfusion h, fun h => Bool.noConfusion h, trivial⟩, trivial, trivial, trivial, trivial, trivial, trivial, trivial, trivial, trivial, trivial, Or.inl (by kernel_rfl), trivial, trivial, trivial⟩⟩, ?_⟩
              replace H := H100
              clear H88 H100
              refine W.rg [(0, v1), (3, .pointer (some ⟨h, 0, none⟩)), (5, .pointer (some ⟨b2, 0, none⟩)), (6, .pointer (some ⟨b3, 0, none⟩)), (7, v74), (8, .int .i64 ((i : Nat) : Int)), (17, slr), (18, .int .i64 ((r : Nat) : Int)), (179, .bool false)] fun TA => ?_
              refine W.c0 ?_
              refine W.skip ?_
              refine blkQ_normal ?_
              refine W.region ?_
              refine RW.v ?_
              refine RW.valE (v' := .int .i64 (((r : Nat) : Int) + 1)) (by kernel_rfl) (by kernel_rfl) rfl (congrArg (Value.int .i64) (wrap_in (by omega) (by omega))) (by kernel_rfl) ?_
              refine RW.v ?_
              refine RW.nil ?_
              exact ⟨rfl, mm3 - 1, by omega, r + 1, (by omega), H, rfl, rfl, rfl, rfl, rfl, rfl, rfl, rfl⟩
            · have hc79b := hc79
              have hc79 := of_decide_eq_false hc79
              refine W.exit _ ?_
              refine seqQ_exit ?_
              refine rndQ_exit ?_
              refine blkQ_here ?_
              refine blkQ_normal ?_
              refine W.region ?_
              refine RW.v ?_
              refine RW.valE (v' := .int .i64 (((i : Nat) : Int) + 1)) (by kernel_rfl) (by kernel_rfl) rfl (congrArg (Value.int .i64) (wrap_in (by omega) (by omega))) (by kernel_rfl) ?_
              refine RW.v ?_
              refine RW.nil ?_
              replace H := (H.del 0)
              dsimp only [setL, delL] at H
              replace H : Lies G66 (heapAbs h m2) F _ [.at_ b3 (.row ⟨[.int .i64 p2.1, .int .i64 p2.2], 28, false⟩), .sl 32 2 v74 ml2.length (wdC ml2), .at_ b2 (.row ⟨[.int .i64 v2.1, .int .i64 v2.2], 28, false⟩)] := H.perm (List.perm_middle (l₁ := ([.sl 32 2 v74 ml2.length (wdC ml2), .at_ b2 (.row ⟨[.int .i64 v2.1, .int .i64 v2.2], 28, false⟩)] : List Ent)))
              replace H : Lies G66 (heapAbs h m2) F _ [.at_ b2 (.row ⟨[.int .i64 v2.1, .int .i64 v2.2], 28, false⟩), .at_ b3 (.row ⟨[.int .i64 p2.1, .int .i64 p2.2], 28, false⟩), .sl 32 2 v74 ml2.length (wdC ml2)] := H.perm (List.perm_middle (l₁ := ([.at_ b3 (.row ⟨[.int .i64 p2.1, .int .i64 p2.2], 28, false⟩), .sl 32 2 v74 ml2.length (wdC ml2)] : List Ent)))
              replace H : Lies G66 (heapAbs h m2) F _ [.sl 32 2 v74 ml2.length (wdC ml2), .at_ b2 (.row ⟨[.int .i64 v2.1, .int .i64 v2.2], 28, false⟩), .at_ b3 (.row ⟨[.int .i64 p2.1, .int .i64 p2.2], 28, false⟩)] := H.perm (List.perm_middle (l₁ := ([.at_ b2 (.row ⟨[.int .i64 v2.1, .int .i64 v2.2], 28, false⟩), .at_ b3 (.row ⟨[.int .i64 p2.1, .int .i64 p2.2], 28, false⟩)] : List Ent)))
              replace H := H.back leM
              exact ⟨rfl, mm - 1, by omega, i + 1, m2, v2, p2, ml2, v74, (by omega), HI2, H, rfl, rfl, rfl, rfl, rfl, rfl⟩
          · refine W.drawn (by kernel_rfl) (by kernel_rfl) H.gn ?_
            have H106 := H
            refine RW.mkD H106 (x := .row ⟨[], 32, false⟩) (fm := fun b => .slice (some ⟨b, 0, none⟩) 0 0) (by kernel_rfl) (by kernel_rfl) (by kernel_rfl) (by kernel_rfl) ?_
            intro _ b107 H108
            iterate 2 refine RW.v ?_
            refine RW.vop (v := vA) (by kernel_rfl) (by kernel_rfl) (vop_slice rfl hcA) (by kernel_rfl) ?_
            have H109 := H108.nilSl 32 2
            refine RW.appFD H109 0 (e2 := 32) hSA (by kernel_rfl) (by kernel_rfl) rfl rfl rfl rfl rfl rfl rfl (.inr ⟨hq0, rfl, _, _, _, rfl, H109.get 1 rfl⟩) (by kernel_rfl) (by kernel_rfl) (by kernel_rfl) (by decide) (wdC_ones _) (by omega) (by kernel_rfl) ?_
            intro _ v110 H111
            dsimp only [setL, delL] at H111
            iterate 2 refine RW.v ?_
            refine RW.val (v := .agg #[.int .i64 f, .int .i64 d]) (by kernel_rfl) (by kernel_rfl) (by kernel_rfl) (by kernel_rfl) ?_
            refine RW.mkD H111 (x := .row ⟨[.int .i64 f, .int .i64 d], 32, false⟩) (fm := fun b => .slice (some ⟨b, 0, none⟩) 1 1) (by kernel_rfl) (by kernel_rfl) (by kernel_rfl) (by kernel_rfl) ?_
            intro _ b112 H113
            refine RW.appLD H113 1 0 (n := 1) (e2 := 32) (by kernel_rfl) (by kernel_rfl) rfl rfl rfl rfl rfl rfl rfl (.inl rfl) rfl (by kernel_rfl) (by kernel_rfl) (by kernel_rfl) (by decide) (by decide) rfl rfl (by omega) (by kernel_rfl) ?_
            intro _ v114 H115
            dsimp only [setL, delL] at H115
            iterate 2 refine RW.v ?_
            refine RW.vop (v := vB) (by kernel_rfl) (by kernel_rfl) (vop_slice rfl hcB) (by kernel_rfl) ?_
            refine RW.appFD H115 0 (e2 := 32) hSB (by kernel_rfl) (by kernel_rfl) rfl rfl rfl rfl rfl rfl rfl (.inl rfl) (by kernel_rfl) (by kernel_rfl) (by kernel_rfl) (by decide) (wdC_ones _) (by omega) (by kernel_rfl) ?_
            intro _ v116 H117
            dsimp only [setL, delL] at H117
            refine RW.v ?_
            refine RW.nil ?_
            refine ⟨⟨by kernel_rfl, ⟨Or.inl (by kernel_rfl), trivial, trivial, trivial, trivial, trivial, trivial, trivial, Or.inl (by kernel_rfl), trivial, trivial, trivial, trivial, trivial, trivial, trivial⟩⟩, ?_⟩
            replace H := H117
            clear H106 H108 H109 H111 H113 H115 H117
            replace H := (H.del 1)
            dsimp only [setL, delL] at H
            refine W.rg [(0, v1), (3, .pointer (some ⟨h, 0, none⟩)), (5, .pointer (some ⟨b2, 0, none⟩)), (6, .pointer (some ⟨b3, 0, none⟩)), (7, v116), (8, .int .i64 ((i : Nat) : Int))] fun TA => ?_
            refine W.seq ?_
            rw [show [] ++ wdC (ml.take q) ++ [.int .i64 f, .int .i64 d] ++ wdC (ml.drop q) = wdC (addM ml f d) from parts_pos hno hq1 hq2, show 0 + q + 1 + (ml.length - q) = (addM ml f d).length from by rw [addM_len hno]; omega] at H
            generalize addM ml f d = ml2 at H HI2
            have hml2 := HI2.len
            refine W.drawn (by kernel_rfl) (by kernel_rfl) H.gn ?_
            have H118 := H
            refine RW.v ?_
            refine RW.ld H118 1 2 ?_
            refine RW.call (by kernel_rfl) (by kernel_rfl) rfl rfl rfl (by kernel_rfl) (by kernel_rfl) ⟨_, _, s_nilK (G := G66), ?_⟩
            refine RW.call (by kernel_rfl) (by kernel_rfl) rfl rfl rfl (by kernel_rfl) (by kernel_rfl) ((funs_step HI2 H118.gn H118.abs (hN.le H118.old) (hTee.le H118.old)).mono ?_)
            rintro _ _ ⟨slr, rfl, K119⟩
            have H120 := H118.then K119
            dsimp only [List.nil_append, List.cons_append] at H120
            iterate 5 refine RW.v ?_
            refine RW.nil ?_
            refine ⟨⟨by kernel_rfl, ⟨trivial, dyn_row (H118.get 1 rfl) (H120.get 2 rfl) ⟨fun h => Bool.noConfusion h, fun h => Bool.noConfusion h, fun _ => H118.get 1 rfl, fun _ => H118.get 1 rfl, fun h => Bool.noConfusion h, fun h => Bool.noConfusion h, fun h => Bool.noConfusion h, fun h => Bool.noConfusion h, fun h => Bool.noConfusion h, trivial⟩, trivial, trivial, trivial, trivial, trivial, trivial, trivial, trivial⟩⟩, ?_⟩
            replace H := H120
            clear H118 H120
            refine W.rg [(0, v1), (3, .pointer (some ⟨h, 0, none⟩)), (5, .pointer (some ⟨b2, 0, none⟩)), (6, .pointer (some ⟨b3, 0, none⟩)), (7, v116), (8, .int .i64 ((i : Nat) : Int)), (13, .int .i64 0), (17, slr)] fun TA => ?_
            refine W.seq ?_
            refine W.seq (W.region ?_)
            iterate 3 refine RW.v ?_
            refine RW.val (by rfl) (by kernel_rfl) rfl (by kernel_rfl) ?_
            refine RW.len (by rfl) (by kernel_rfl) rfl rfl rfl rfl ((H.sl 0 rfl).len (by kernel_rfl)) (by kernel_rfl) ?_
            refine RW.val (by rfl) (by kernel_rfl) rfl (by kernel_rfl) ?_
            refine RW.len (by rfl) (by kernel_rfl) rfl rfl rfl rfl ((H.sl 1 rfl).len (by kernel_rfl)) (by kernel_rfl) ?_
            refine RW.valE (v' := .bool false) (by rfl) (by kernel_rfl) rfl (congrArg Value.bool (bne_eq_false_iff_eq.2 (by rfl))) (by kernel_rfl) ?_
            refine RW.v ?_
            refine RW.nil ?_
            refine W.rg [(0, v1), (3, .pointer (some ⟨h, 0, none⟩)), (5, .pointer (some ⟨b2, 0, none⟩)), (6, .pointer (some ⟨b3, 0, none⟩)), (7, v116), (8, .int .i64 ((i : Nat) : Int)), (17, slr), (138, .bool false)] fun TA => ?_
            refine W.c0 ?_
            refine W.skip ?_
            refine W.seq (W.region ?_)
            refine RW.v ?_
            refine RW.nil ?_
            refine W.rg [(0, v1), (3, .pointer (some ⟨h, 0, none⟩)), (5, .pointer (some ⟨b2, 0, none⟩)), (6, .pointer (some ⟨b3, 0, none⟩)), (7, v116), (8, .int .i64 ((i : Nat) : Int)), (17, slr), (18, .int .i64 0)] fun TA => ?_
            refine W.block ?_
            refine W.loop (fun mm3 ta σ => ∃ (r : Nat), (mm3 + r = ml2.length) ∧ Lies G66 (heapAbs h m2) F σ [.sl 28 2 slr ml2.length (wdC (ml2.map symW)), .sl 32 2 v116 ml2.length (wdC ml2), .at_ b2 (.row ⟨[.int .i64 v2.1, .int .i64 v2.2], 28, false⟩), .at_ b3 (.row ⟨[.int .i64 p2.1, .int .i64 p2.2], 28, false⟩)] ∧ ta 0 = v1 ∧ ta 3 = .pointer (some ⟨h, 0, none⟩) ∧ ta 5 = .pointer (some ⟨b2, 0, none⟩) ∧ ta 6 = .pointer (some ⟨b3, 0, none⟩) ∧ ta 7 = v116 ∧ ta 8 = .int .i64 ((i : Nat) : Int) ∧ ta 17 = slr ∧ ta 18 = .int .i64 ((r : Nat) : Int)) ml2.length ?_ ?_
            · exact ⟨0, (by omega), H, rfl, rfl, rfl, rfl, rfl, rfl, rfl, rfl⟩
            clear H
            rintro mm3 ta _ ⟨r, hm3, H, e0, e3, e5, e6, e7, e8, e17, e18⟩
            refine W.rst [(0, v1), (3, .pointer (some ⟨h, 0, none⟩)), (5, .pointer (some ⟨b2, 0, none⟩)), (6, .pointer (some ⟨b3, 0, none⟩)), (7, v116), (8, .int .i64 ((i : Nat) : Int)), (17, slr), (18, .int .i64 ((r : Nat) : Int))] ⟨e0, e3, e5, e6, e7, e8, e17, e18, trivial⟩ fun TA => ?_
            clear e0 e3 e5 e6 e7 e8 e17 e18
            refine W.seq ?_
            refine W.seq (W.region ?_)
            iterate 2 refine RW.v ?_
            refine RW.len (by kernel_rfl) (by kernel_rfl) rfl rfl rfl rfl ((H.sl 0 rfl).len (by kernel_rfl)) (by kernel_rfl) ?_
            refine RW.v ?_
            refine RW.nil ?_
            refine W.rg [(0, v1), (3, .pointer (some ⟨h, 0, none⟩)), (5, .pointer (some ⟨b2, 0, none⟩)), (6, .pointer (some ⟨b3, 0, none⟩)), (7, v116), (8, .int .i64 ((i : Nat) : Int)), (17, slr), (18, .int .i64 ((r : Nat) : Int)), (142, .bool (decide (((r : Nat) : Int) < ((ml2.length : Nat) : Int))))] fun TA => ?_
            refine W.cond rfl (fun hc121 => ?_) (fun hc121 => ?_)
            · have hc121b := hc121
              have hc121 := of_decide_eq_true hc121
              have hrg := HI2.range _ (getW_mem (l := ml2) (j := r) (by omega))
              refine W.skip ?_
              refine W.seq ?_
              refine W.block ?_
              refine W.seq ?_
              refine W.drawn (by kernel_rfl) (by kernel_rfl) H.gn ?_
              have H122 := H
              refine RW.v ?_
              refine RW.ld H122 3 2 ?_
              iterate 2 refine RW.v ?_
              refine RW.idxG H122 0 rfl (by kernel_rfl) (by kernel_rfl) rfl Tryd.underlying37 (by kernel_rfl) rfl rfl ⟨by omega, by omega⟩ (by kernel_rfl) ?_
              intro b123 q124 r125 hF126 hE127
              rw [sym_at (ml := ml2) (k := r) (by omega)] at hE127
              refine RW.loads 2 (by kernel_rfl) (by kernel_rfl) rfl rfl (hF126) hE127 rfl (by kernel_rfl) ?_
              refine RW.call (by kernel_rfl) (by kernel_rfl) rfl rfl rfl (by kernel_rfl) (by kernel_rfl) ((depth_step (k := r) HI2 (by omega) (by omega) H122.gn H122.abs).mono ?_)
              rintro _ _ ⟨rfl, K128⟩
              have H129 := H122.then K128
              dsimp only [List.nil_append, List.cons_append] at H129
              iterate 5 refine RW.v ?_
              refine RW.nil ?_
              refine ⟨⟨by kernel_rfl, ⟨trivial, dyn_row (H122.get 3 rfl) (H129.get 3 rfl) ⟨fun h => Bool.noConfusion h, fun h => Bool.noConfusion h, fun h => Bool.noConfusion h, fun h => Bool.noConfusion h, fun h => Bool.noConfusion h, fun h => Bool.noConfusion h, fun _ => H122.get 3 rfl, fun h => Bool.noConfusion h, fun h => Bool.noConfusion h, fun h => Bool.noConfusion h, fun h => Bool.noConfusion h, fun h => Bool.noConfusion h, trivial⟩, trivial, trivial, trivial, dyn_row (hF126) ((K128.old _ _ hF126)) ⟨fun h => Bool.noConfusion h, fun h => Bool.noConfusion h, fun h => Bool.noConfusion h, fun h => Bool.noConfusion h, fun h => Bool.noConfusion h, fun h => Bool.noConfusion h, fun _ => hF126, fun h => Bool.noConfusion h, fun h => Bool.noConfusion h, fun h => Bool.noConfusion h, fun h => Bool.noConfusion h, fun h => Bool.noConfusion h, trivial⟩, trivial, trivial, trivial, trivial, trivial, trivial, trivial⟩⟩, ?_⟩
              replace H := H129
              clear H122 H129
              refine W.rg [(0, v1), (3, .pointer (some ⟨h, 0, none⟩)), (5, .pointer (some ⟨b2, 0, none⟩)), (6, .pointer (some ⟨b3, 0, none⟩)), (7, v116), (8, .int .i64 ((i : Nat) : Int)), (17, slr), (18, .int .i64 ((r : Nat) : Int)), (19, .int .i64 ((ml2.getD r (0, 0)).2)), (20, .int .i64 0)] fun TA => ?_
              refine W.seq ?_
              refine W.drawn (by kernel_rfl) (by kernel_rfl) H.gn ?_
              have H130 := H
              iterate 3 refine RW.v ?_
              refine RW.val (by rfl) (by kernel_rfl) rfl (by kernel_rfl) ?_
              refine RW.val (by rfl) (by kernel_rfl) rfl (by kernel_rfl) ?_
              refine RW.idxG H130 0 rfl (by rfl) (by kernel_rfl) rfl Tryd.underlying37 (by kernel_rfl) rfl rfl ⟨by omega, by omega⟩ (by kernel_rfl) ?_
              intro b131 q132 r133 hF134 hE135
              rw [sym_at (ml := ml2) (k := r) (by omega)] at hE135
              refine RW.loads 2 (by rfl) (by kernel_rfl) rfl rfl (hF134) hE135 rfl (by kernel_rfl) ?_
              refine RW.val (by rfl) (by kernel_rfl) rfl (by kernel_rfl) ?_
              refine RW.val (by rfl) (by kernel_rfl) rfl (by kernel_rfl) ?_
              refine RW.idxG H130 1 rfl (by rfl) (by kernel_rfl) rfl Tryd.underlying22 (by kernel_rfl) rfl rfl ⟨by omega, by omega⟩ (by kernel_rfl) ?_
              intro b136 q137 r138 hF139 hE140
              rw [wdC_at (l := ml2) (j := r) (by omega)] at hE140
              refine RW.val (by rfl) (by kernel_rfl) rfl (by kernel_rfl) ?_
              refine RW.loads 1 (by rfl) (by kernel_rfl) rfl rfl (hF139) (sub_take hE140 0 1 (by decide)) rfl (by kernel_rfl) ?_
              refine RW.valE (v' := .int .i64 (70 + ((ml2.getD r (0, 0)).1))) (by rfl) (by kernel_rfl) rfl (congrArg (Value.int .i64) (wrap_in (by omega) (by omega))) (by kernel_rfl) ?_
              refine RW.call (by rfl) (by kernel_rfl) rfl rfl rfl (by kernel_rfl) (by kernel_rfl) ((sym_wc (70 + ((ml2.getD r (0, 0)).1)) H130.gn H130.abs).mono ?_)
              rintro _ _ ⟨rfl, K141⟩
              have H142 := H130.then K141
              dsimp only [List.nil_append, List.cons_append] at H142
              refine RW.vop (v := .bool false) (by rfl) (by kernel_rfl) (vop_eqS (b := true) (r := false) rfl (.inr ⟨rfl, rfl⟩) rfl rfl rfl rfl (by kernel_rfl) (fun w => (eqWd _ _ _ _ w).trans (by simp))) (by kernel_rfl) ?_
              iterate 2 refine RW.v ?_
              refine RW.val (by rfl) (by kernel_rfl) rfl (by kernel_rfl) ?_
              refine RW.val (by rfl) (by kernel_rfl) rfl (by kernel_rfl) ?_
              refine RW.val (by rfl) (by kernel_rfl) rfl (by kernel_rfl) ?_
              refine RW.idxG H142 1 rfl (by rfl) (by kernel_rfl) rfl Tryd.underlying22 (by kernel_rfl) rfl rfl ⟨by omega, by omega⟩ (by kernel_rfl) ?_
              intro b143 q144 r145 hF146 hE147
              rw [wdC_at (l := ml2) (j := r) (by omega)] at hE147
              refine RW.val (by rfl) (by kernel_rfl) rfl (by kernel_rfl) ?_
              refine RW.loads 1 (by rfl) (by kernel_rfl) rfl rfl (hF146) (sub_take hE147 1 1 (by decide)) rfl (by kernel_rfl) ?_
              refine RW.valE (v' := .bool false) (by rfl) (by kernel_rfl) rfl (congrArg Value.bool (bne_eq_false_iff_eq.2 (by rfl))) (by kernel_rfl) ?_
              refine RW.v ?_
              refine RW.nil ?_
              refine ⟨⟨by kernel_rfl, ⟨trivial, trivial, trivial, trivial, trivial, trivial, dyn_row (hF134) ((K141.old _ _ hF134)) ⟨fun h => Bool.noConfusion h, fun h => Bool.noConfusion h, fun h => Bool.noConfusion h, fun h => Bool.noConfusion h, fun h => Bool.noConfusion h, fun h => Bool.noConfusion h, fun h => Bool.noConfusion h, fun h => Bool.noConfusion h, fun h => Bool.noConfusion h, fun h => Bool.noConfusion h, fun h => Bool.noConfusion h, fun h => Bool.noConfusion h, fun h => Bool.noConfusion h, fun _ => hF134, fun h => Bool.noConfusion h, fun h => Bool.noConfusion h, fun h => Bool.noConfusion h, fun h => Bool.noConfusion h, fun h => Bool.noConfusion h, fun h => Bool.noConfusion h, fun h => Bool.noConfusion h, fun h => Bool.noConfusion h, fun h => Bool.noConfusion h, fun h => Bool.noConfusion h, fun h => Bool.noConfusion h, trivial⟩, trivial, trivial, trivial, trivial, dyn_row (hF139) ((K141.old _ _ hF139)) ⟨fun h => Bool.noConfusion h, fun h => Bool.noConfusion h, fun h => Bool.noConfusion h, fun h => Bool.noConfusion h, fun h => Bool.noConfusion h, fun h => Bool.noConfusion h, fun h => Bool.noConfusion h, fun h => Bool.noConfusion h, fun h => Bool.noConfusion h, fun h => Bool.noConfusion h, fun h => Bool.noConfusion h, fun h => Bool.noConfusion h, fun h => Bool.noConfusion h, fun _ => hF139, fun h => Bool.noConfusion h, fun h => Bool.noConfusion h, fun h => Bool.noConfusion h, fun h => Bool.noConfusion h, fun h => Bool.noConfusion h, fun h => Bool.noConfusion h, fun h => Bool.noConfusion h, fun h => Bool.noConfusion h, fun h => Bool.noConfusion h, fun h => Bool.noConfusion h, fun h => Bool.noConfusion h, trivial⟩, trivial, trivial, trivial, trivial, trivial, trivial, trivial, trivial, trivial, trivial, Or.inl (by kernel_rfl), trivial, trivial, trivial⟩⟩, ?_⟩
              replace H := H142
              clear H130 H142
              refine W.rg [(0, v1), (3, .pointer (some ⟨h, 0, none⟩)), (5, .pointer (some ⟨b2, 0, none⟩)), (6, .pointer (some ⟨b3, 0, none⟩)), (7, v116), (8, .int .i64 ((i : Nat) : Int)), (17, slr), (18, .int .i64 ((r : Nat) : Int)), (179, .bool false)] fun TA => ?_
              refine W.c0 ?_
              refine W.skip ?_
              refine blkQ_normal ?_
              refine W.region ?_
              refine RW.v ?_
              refine RW.valE (v' := .int .i64 (((r : Nat) : Int) + 1)) (by kernel_rfl) (by kernel_rfl) rfl (congrArg (Value.int .i64) (wrap_in (by omega) (by omega))) (by kernel_rfl) ?_
              refine RW.v ?_
              refine RW.nil ?_
              exact ⟨rfl, mm3 - 1, by omega, r + 1, (by omega), H, rfl, rfl, rfl, rfl, rfl, rfl, rfl, rfl⟩
            · have hc121b := hc121
              have hc121 := of_decide_eq_false hc121
              refine W.exit _ ?_
              refine seqQ_exit ?_
              refine rndQ_exit ?_
              refine blkQ_here ?_
              refine blkQ_normal ?_
              refine W.region ?_
              refine RW.v ?_
              refine RW.valE (v' := .int .i64 (((i : Nat) : Int) + 1)) (by kernel_rfl) (by kernel_rfl) rfl (congrArg (Value.int .i64) (wrap_in (by omega) (by omega))) (by kernel_rfl) ?_
              refine RW.v ?_
              refine RW.nil ?_
              replace H := (H.del 0)
              dsimp only [setL, delL] at H
              replace H : Lies G66 (heapAbs h m2) F _ [.at_ b3 (.row ⟨[.int .i64 p2.1, .int .i64 p2.2], 28, false⟩), .sl 32 2 v116 ml2.length (wdC ml2), .at_ b2 (.row ⟨[.int .i64 v2.1, .int .i64 v2.2], 28, false⟩)] := H.perm (List.perm_middle (l₁ := ([.sl 32 2 v116 ml2.length (wdC ml2), .at_ b2 (.row ⟨[.int .i64 v2.1, .int .i64 v2.2], 28, false⟩)] : List Ent)))
              replace H : Lies G66 (heapAbs h m2) F _ [.at_ b2 (.row ⟨[.int .i64 v2.1, .int .i64 v2.2], 28, false⟩), .at_ b3 (.row ⟨[.int .i64 p2.1, .int .i64 p2.2], 28, false⟩), .sl 32 2 v116 ml2.length (wdC ml2)] := H.perm (List.perm_middle (l₁ := ([.at_ b3 (.row ⟨[.int .i64 p2.1, .int .i64 p2.2], 28, false⟩), .sl 32 2 v116 ml2.length (wdC ml2)] : List Ent)))
              replace H : Lies G66 (heapAbs h m2) F _ [.sl 32 2 v116 ml2.length (wdC ml2), .at_ b2 (.row ⟨[.int .i64 v2.1, .int .i64 v2.2], 28, false⟩), .at_ b3 (.row ⟨[.int .i64 p2.1, .int .i64 p2.2], 28, false⟩)] := H.perm (List.perm_middle (l₁ := ([.at_ b2 (.row ⟨[.int .i64 v2.1, .int .i64 v2.2], 28, false⟩), .at_ b3 (.row ⟨[.int .i64 p2.1, .int .i64 p2.2], 28, false⟩)] : List Ent)))
              replace H := H.back leM
              exact ⟨rfl, mm - 1, by omega, i + 1, m2, v2, p2, ml2, v116, (by omega), HI2, H, rfl, rfl, rfl, rfl, rfl, rfl⟩
        · have hc65b := hc65
          have hyes : hasM ml f = true := by rw [← hth]; simpa using hc65b
          refine W.skip ?_
          refine W.seq ?_
          rw [addM_yes hyes] at HI2
          have hml2 := HI2.len
          refine W.drawn (by kernel_rfl) (by kernel_rfl) H.gn ?_
          have H148 := H
          refine RW.v ?_
          refine RW.ld H148 1 2 ?_
          refine RW.call (by kernel_rfl) (by kernel_rfl) rfl rfl rfl (by kernel_rfl) (by kernel_rfl) ⟨_, _, s_nilK (G := G66), ?_⟩
          refine RW.call (by kernel_rfl) (by kernel_rfl) rfl rfl rfl (by kernel_rfl) (by kernel_rfl) ((funs_step HI2 H148.gn H148.abs (hN.le H148.old) (hTee.le H148.old)).mono ?_)
          rintro _ _ ⟨slr, rfl, K149⟩
          have H150 := H148.then K149
          dsimp only [List.nil_append, List.cons_append] at H150
          iterate 5 refine RW.v ?_
          refine RW.nil ?_
          refine ⟨⟨by kernel_rfl, ⟨trivial, dyn_row (H148.get 1 rfl) (H150.get 2 rfl) ⟨fun h => Bool.noConfusion h, fun h => Bool.noConfusion h, fun _ => H148.get 1 rfl, fun _ => H148.get 1 rfl, fun h => Bool.noConfusion h, fun h => Bool.noConfusion h, fun h => Bool.noConfusion h, fun h => Bool.noConfusion h, fun h => Bool.noConfusion h, trivial⟩, trivial, trivial, trivial, trivial, trivial, trivial, trivial, trivial⟩⟩, ?_⟩
          replace H := H150
          clear H148 H150
          refine W.rg [(0, v1), (3, .pointer (some ⟨h, 0, none⟩)), (5, .pointer (some ⟨b2, 0, none⟩)), (6, .pointer (some ⟨b3, 0, none⟩)), (7, u), (8, .int .i64 ((i : Nat) : Int)), (13, .int .i64 0), (17, slr)] fun TA => ?_
          refine W.seq ?_
          refine W.seq (W.region ?_)
          iterate 3 refine RW.v ?_
          refine RW.val (by rfl) (by kernel_rfl) rfl (by kernel_rfl) ?_
          refine RW.len (by rfl) (by kernel_rfl) rfl rfl rfl rfl ((H.sl 0 rfl).len (by kernel_rfl)) (by kernel_rfl) ?_
          refine RW.val (by rfl) (by kernel_rfl) rfl (by kernel_rfl) ?_
          refine RW.len (by rfl) (by kernel_rfl) rfl rfl rfl rfl ((H.sl 1 rfl).len (by kernel_rfl)) (by kernel_rfl) ?_
          refine RW.valE (v' := .bool false) (by rfl) (by kernel_rfl) rfl (congrArg Value.bool (bne_eq_false_iff_eq.2 (by rfl))) (by kernel_rfl) ?_
          refine RW.v ?_
          refine RW.nil ?_
          refine W.rg [(0, v1), (3, .pointer (some ⟨h, 0, none⟩)), (5, .pointer (some ⟨b2, 0, none⟩)), (6, .pointer (some ⟨b3, 0, none⟩)), (7, u), (8, .int .i64 ((i : Nat) : Int)), (17, slr), (138, .bool false)] fun TA => ?_
          refine W.c0 ?_
          refine W.skip ?_
          refine W.seq (W.region ?_)
          refine RW.v ?_
          refine RW.nil ?_
          refine W.rg [(0, v1), (3, .pointer (some ⟨h, 0, none⟩)), (5, .pointer (some ⟨b2, 0, none⟩)), (6, .pointer (some ⟨b3, 0, none⟩)), (7, u), (8, .int .i64 ((i : Nat) : Int)), (17, slr), (18, .int .i64 0)] fun TA => ?_
          refine W.block ?_
          refine W.loop (fun mm3 ta σ => ∃ (r : Nat), (mm3 + r = ml.length) ∧ Lies G66 (heapAbs h m2) F σ [.sl 28 2 slr ml.length (wdC (ml.map symW)), .sl 32 2 u ml.length (wdC ml), .at_ b2 (.row ⟨[.int .i64 v2.1, .int .i64 v2.2], 28, false⟩), .at_ b3 (.row ⟨[.int .i64 p2.1, .int .i64 p2.2], 28, false⟩)] ∧ ta 0 = v1 ∧ ta 3 = .pointer (some ⟨h, 0, none⟩) ∧ ta 5 = .pointer (some ⟨b2, 0, none⟩) ∧ ta 6 = .pointer (some ⟨b3, 0, none⟩) ∧ ta 7 = u ∧ ta 8 = .int .i64 ((i : Nat) : Int) ∧ ta 17 = slr ∧ ta 18 = .int .i64 ((r : Nat) : Int)) ml.length ?_ ?_
          · exact ⟨0, (by omega), H, rfl, rfl, rfl, rfl, rfl, rfl, rfl, rfl⟩
          clear H
          rintro mm3 ta _ ⟨r, hm3, H, e0, e3, e5, e6, e7, e8, e17, e18⟩
          refine W.rst [(0, v1), (3, .pointer (some ⟨h, 0, none⟩)), (5, .pointer (some ⟨b2, 0, none⟩)), (6, .pointer (some ⟨b3, 0, none⟩)), (7, u), (8, .int .i64 ((i : Nat) : Int)), (17, slr), (18, .int .i64 ((r : Nat) : Int))] ⟨e0, e3, e5, e6, e7, e8, e17, e18, trivial⟩ fun TA => ?_
          clear e0 e3 e5 e6 e7 e8 e17 e18
          refine W.seq ?_
          refine W.seq (W.region ?_)
          iterate 2 refine RW.v ?_
          refine RW.len (by kernel_rfl) (by kernel_rfl) rfl rfl rfl rfl ((H.sl 0 rfl).len (by kernel_rfl)) (by kernel_rfl) ?_
          refine RW.v ?_
          refine RW.nil ?_
          refine W.rg [(0, v1), (3, .pointer (some ⟨h, 0, none⟩)), (5, .pointer (some ⟨b2, 0, none⟩)), (6, .pointer (some ⟨b3, 0, none⟩)), (7, u), (8, .int .i64 ((i : Nat) : Int)), (17, slr), (18, .int .i64 ((r : Nat) : Int)), (142, .bool (decide (((r : Nat) : Int) < ((ml.length : Nat) : Int))))] fun TA => ?_
          refine W.cond rfl (fun hc151 => ?_) (fun hc151 => ?_)
          · have hc151b := hc151
            have hc151 := of_decide_eq_true hc151
            have hrg := HI2.range _ (getW_mem (l := ml) (j := r) (by omega))
            refine W.skip ?_
            refine W.seq ?_
            refine W.block ?_
            refine W.seq ?_
            refine W.drawn (by kernel_rfl) (by kernel_rfl) H.gn ?_
            have H152 := H
            refine RW.v ?_
            refine RW.ld H152 3 2 ?_
            iterate 2 refine RW.v ?_
            refine RW.idxG H152 0 rfl (by kernel_rfl) (by kernel_rfl) rfl Tryd.underlying37 (by kernel_rfl) rfl rfl ⟨by omega, by omega⟩ (by kernel_rfl) ?_
            intro b153 q154 r155 hF156 hE157
            rw [sym_at (ml := ml) (k := r) (by omega)] at hE157
            refine RW.loads 2 (by kernel_rfl) (by kernel_rfl) rfl rfl (hF156) hE157 rfl (by kernel_rfl) ?_
            refine RW.call (by kernel_rfl) (by kernel_rfl) rfl rfl rfl (by kernel_rfl) (by kernel_rfl) ((depth_step (k := r) HI2 (by omega) (by omega) H152.gn H152.abs).mono ?_)
            rintro _ _ ⟨rfl, K158⟩
            have H159 := H152.then K158
            dsimp only [List.nil_append, List.cons_append] at H159
            iterate 5 refine RW.v ?_
            refine RW.nil ?_
            refine ⟨⟨by kernel_rfl, ⟨trivial, dyn_row (H152.get 3 rfl) (H159.get 3 rfl) ⟨fun h => Bool.noConfusion h, fun h => Bool.noConfusion h, fun h => Bool.noConfusion h, fun h => Bool.noConfusion h, fun h => Bool.noConfusion h, fun h => Bool.noConfusion h, fun _ => H152.get 3 rfl, fun h => Bool.noConfusion h, fun h => Bool.noConfusion h, fun h => Bool.noConfusion h, fun h => Bool.noConfusion h, fun h => Bool.noConfusion h, trivial⟩, trivial, trivial, trivial, dyn_row (hF156) ((K158.old _ _ hF156)) ⟨fun h => Bool.noConfusion h, fun h => Bool.noConfusion h, fun h => Bool.noConfusion h, fun h => Bool.noConfusion h, fun h => Bool.noConfusion h, fun h => Bool.noConfusion h, fun _ => hF156, fun h => Bool.noConfusion h, fun h => Bool.noConfusion h, fun h => Bool.noConfusion h, fun h => Bool.noConfusion h, fun h => Bool.noConfusion h, trivial⟩, trivial, trivial, trivial, trivial, trivial, trivial, trivial⟩⟩, ?_⟩
            replace H := H159
            clear H152 H159
            refine W.rg [(0, v1), (3, .pointer (some ⟨h, 0, none⟩)), (5, .pointer (some ⟨b2, 0, none⟩)), (6, .pointer (some ⟨b3, 0, none⟩)), (7, u), (8, .int .i64 ((i : Nat) : Int)), (17, slr), (18, .int .i64 ((r : Nat) : Int)), (19, .int .i64 ((ml.getD r (0, 0)).2)), (20, .int .i64 0)] fun TA => ?_
            refine W.seq ?_
            refine W.drawn (by kernel_rfl) (by kernel_rfl) H.gn ?_
            have H160 := H
            iterate 3 refine RW.v ?_
            refine RW.val (by rfl) (by kernel_rfl) rfl (by kernel_rfl) ?_
            refine RW.val (by rfl) (by kernel_rfl) rfl (by kernel_rfl) ?_
            refine RW.idxG H160 0 rfl (by rfl) (by kernel_rfl) rfl Tryd.underlying37 (by kernel_rfl) rfl rfl ⟨by omega, by omega⟩ (by kernel_rfl) ?_
            intro b161 q162 r163 hF164 hE165
            rw [sym_at (ml := ml) (k := r) (by omega)] at hE165
            refine RW.loads 2 (by rfl) (by kernel_rfl) rfl rfl (hF164) hE165 rfl (by kernel_rfl) ?_
            refine RW.val (by rfl) (by kernel_rfl) rfl (by kernel_rfl) ?_
            refine RW.val (by rfl) (by kernel_rfl) rfl (by kernel_rfl) ?_
            refine RW.idxG H160 1 rfl (by rfl) (by kernel_rfl) rfl Tryd.underlying22 (by kernel_rfl) rfl rfl ⟨by omega, by omega⟩ (by kernel_rfl) ?_
            intro b166 q167 r168 hF169 hE170
            rw [wdC_at (l := ml) (j := r) (by omega)] at hE170
            refine RW.val (by rfl) (by kernel_rfl) rfl (by kernel_rfl) ?_
            refine RW.loads 1 (by rfl) (by kernel_rfl) rfl rfl (hF169) (sub_take hE170 0 1 (by decide)) rfl (by kernel_rfl) ?_
            refine RW.valE (v' := .int .i64 (70 + ((ml.getD r (0, 0)).1))) (by rfl) (by kernel_rfl) rfl (congrArg (Value.int .i64) (wrap_in (by omega) (by omega))) (by kernel_rfl) ?_
            refine RW.call (by rfl) (by kernel_rfl) rfl rfl rfl (by kernel_rfl) (by kernel_rfl) ((sym_wc (70 + ((ml.getD r (0, 0)).1)) H160.gn H160.abs).mono ?_)
            rintro _ _ ⟨rfl, K171⟩
            have H172 := H160.then K171
            dsimp only [List.nil_append, List.cons_append] at H172
            refine RW.vop (v := .bool false) (by rfl) (by kernel_rfl) (vop_eqS (b := true) (r := false) rfl (.inr ⟨rfl, rfl⟩) rfl rfl rfl rfl (by kernel_rfl) (fun w => (eqWd _ _ _ _ w).trans (by simp))) (by kernel_rfl) ?_
            iterate 2 refine RW.v ?_
            refine RW.val (by rfl) (by kernel_rfl) rfl (by kernel_rfl) ?_
            refine RW.val (by rfl) (by kernel_rfl) rfl (by kernel_rfl) ?_
            refine RW.val (by rfl) (by kernel_rfl) rfl (by kernel_rfl) ?_
            refine RW.idxG H172 1 rfl (by rfl) (by kernel_rfl) rfl Tryd.underlying22 (by kernel_rfl) rfl rfl ⟨by omega, by omega⟩ (by kernel_rfl) ?_
            intro b173 q174 r175 hF176 hE177
            rw [wdC_at (l := ml) (j := r) (by omega)] at hE177
            refine RW.val (by rfl) (by kernel_rfl) rfl (by kernel_rfl) ?_
            refine RW.loads 1 (by rfl) (by kernel_rfl) rfl rfl (hF176) (sub_take hE177 1 1 (by decide)) rfl (by kernel_rfl) ?_
            refine RW.valE (v' := .bool false) (by rfl) (by kernel_rfl) rfl (congrArg Value.bool (bne_eq_false_iff_eq.2 (by rfl))) (by kernel_rfl) ?_
            refine RW.v ?_
            refine RW.nil ?_
            refine ⟨⟨by kernel_rfl, ⟨trivial, trivial, trivial, trivial, trivial, trivial, dyn_row (hF164) ((K171.old _ _ hF164)) ⟨fun h => Bool.noConfusion h, fun h => Bool.noConfusion h, fun h => Bool.noConfusion h, fun h => Bool.noConfusion h, fun h => Bool.noConfusion h, fun h => Bool.noConfusion h, fun h => Bool.noConfusion h, fun h => Bool.noConfusion h, fun h => Bool.noConfusion h, fun h => Bool.noConfusion h, fun h => Bool.noConfusion h, fun h => Bool.noConfusion h, fun h => Bool.noConfusion h, fun _ => hF164, fun h => Bool.noConfusion h, fun h => Bool.noConfusion h, fun h => Bool.noConfusion h, fun h => Bool.noConfusion h, fun h => Bool.noConfusion h, fun h => Bool.noConfusion h, fun h => Bool.noConfusion h, fun h => Bool.noConfusion h, fun h => Bool.noConfusion h, fun h => Bool.noConfusion h, fun h => Bool.noConfusion h, trivial⟩, trivial, trivial, trivial, trivial, dyn_row (hF169) ((K171.old _ _ hF169)) ⟨fun h => Bool.noConfusion h, fun h => Bool.noConfusion h, fun h => Bool.noConfusion h, fun h => Bool.noConfusion h, fun h => Bool.noConfusion h, fun h => Bool.noConfusion h, fun h => Bool.noConfusion h, fun h => Bool.noConfusion h, fun h => Bool.noConfusion h, fun h => Bool.noConfusion h, fun h => Bool.noConfusion h, fun h => Bool.noConfusion h, fun h => Bool.noConfusion h, fun _ => hF169, fun h => Bool.noConfusion h, fun h => Bool.noConfusion h, fun h => Bool.noConfusion h, fun h => Bool.noConfusion h, fun h => Bool.noConfusion h, fun h => Bool.noConfusion h, fun h => Bool.noConfusion h, fun h => Bool.noConfusion h, fun h => Bool.noConfusion h, fun h => Bool.noConfusion h, fun h => Bool.noConfusion h, trivial⟩, trivial, trivial, trivial, trivial, trivial, trivial, trivial, trivial, trivial, trivial, Or.inl (by kernel_rfl), trivial, trivial, trivial⟩⟩, ?_⟩
            replace H := H172
            clear H160 H172
            refine W.rg [(0, v1), (3, .pointer (some ⟨h, 0, none⟩)), (5, .pointer (some ⟨b2, 0, none⟩)), (6, .pointer (some ⟨b3, 0, none⟩)), (7, u), (8, .int .i64 ((i : Nat) : Int)), (17, slr), (18, .int .i64 ((r : Nat) : Int)), (179, .bool false)] fun TA => ?_
            refine W.c0 ?_
            refine W.skip ?_
            refine blkQ_normal ?_
            refine W.region ?_
            refine RW.v ?_
            refine RW.valE (v' := .int .i64 (((r : Nat) : Int) + 1)) (by kernel_rfl) (by kernel_rfl) rfl (congrArg (Value.int .i64) (wrap_in (by omega) (by omega))) (by kernel_rfl) ?_
            refine RW.v ?_
            refine RW.nil ?_
            exact ⟨rfl, mm3 - 1, by omega, r + 1, (by omega), H, rfl, rfl, rfl, rfl, rfl, rfl, rfl, rfl⟩
          · have hc151b := hc151
            have hc151 := of_decide_eq_false hc151
            refine W.exit _ ?_
            refine seqQ_exit ?_
            refine rndQ_exit ?_
            refine blkQ_here ?_
            refine blkQ_normal ?_
            refine W.region ?_
            refine RW.v ?_
            refine RW.valE (v' := .int .i64 (((i : Nat) : Int) + 1)) (by kernel_rfl) (by kernel_rfl) rfl (congrArg (Value.int .i64) (wrap_in (by omega) (by omega))) (by kernel_rfl) ?_
            refine RW.v ?_
            refine RW.nil ?_
            replace H := (H.del 0)
            dsimp only [setL, delL] at H
            replace H : Lies G66 (heapAbs h m2) F _ [.at_ b3 (.row ⟨[.int .i64 p2.1, .int .i64 p2.2], 28, false⟩), .sl 32 2 u ml.length (wdC ml), .at_ b2 (.row ⟨[.int .i64 v2.1, .int .i64 v2.2], 28, false⟩)] := H.perm (List.perm_middle (l₁ := ([.sl 32 2 u ml.length (wdC ml), .at_ b2 (.row ⟨[.int .i64 v2.1, .int .i64 v2.2], 28, false⟩)] : List Ent)))
            replace H : Lies G66 (heapAbs h m2) F _ [.at_ b2 (.row ⟨[.int .i64 v2.1, .int .i64 v2.2], 28, false⟩), .at_ b3 (.row ⟨[.int .i64 p2.1, .int .i64 p2.2], 28, false⟩), .sl 32 2 u ml.length (wdC ml)] := H.perm (List.perm_middle (l₁ := ([.at_ b3 (.row ⟨[.int .i64 p2.1, .int .i64 p2.2], 28, false⟩), .sl 32 2 u ml.length (wdC ml)] : List Ent)))
            replace H : Lies G66 (heapAbs h m2) F _ [.sl 32 2 u ml.length (wdC ml), .at_ b2 (.row ⟨[.int .i64 v2.1, .int .i64 v2.2], 28, false⟩), .at_ b3 (.row ⟨[.int .i64 p2.1, .int .i64 p2.2], 28, false⟩)] := H.perm (List.perm_middle (l₁ := ([.at_ b2 (.row ⟨[.int .i64 v2.1, .int .i64 v2.2], 28, false⟩), .at_ b3 (.row ⟨[.int .i64 p2.1, .int .i64 p2.2], 28, false⟩)] : List Ent)))
            exact ⟨rfl, mm - 1, by omega, i + 1, m2, v2, p2, ml, u, (by omega), HI2, H, rfl, rfl, rfl, rfl, rfl, rfl⟩
    · have hc4b := hc4
      have hc4 := of_decide_eq_false hc4
      refine W.exit _ ?_
      refine seqQ_exit ?_
      refine rndQ_exit ?_
      refine blkQ_here ?_
      refine W.seq (W.region ?_)
      refine RW.v ?_
      refine RW.nil ?_
      replace H := (((H.del 2).del 1).del 0)
      dsimp only [setL, delL] at H
      refine W.rg [(2, .bool true)] fun TA => ?_
      refine W.ret ?_
      refine endG (by rfl) (by exact resL_tmp rfl) ?_
      exact rfl
end Go.Proofs.YtaaebeiigkhcjaaDoor
