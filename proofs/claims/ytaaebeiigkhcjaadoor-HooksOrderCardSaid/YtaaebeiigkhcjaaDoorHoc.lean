/-
  find, entry, depth of the package hooks. Conditions: the heap lies there as HeapAt says.
-/
import Derived.Test.YtaaebeiigkhcjaaDoorHob
import Derived.Test.YtaaebeiigkhcjaaDoorHq
namespace Go.Proofs.YtaaebeiigkhcjaaDoor
set_option maxRecDepth 100000
/-- Whether a list has the like of a word. -/
def hasW (m : HM) (x : Wd) (xs : List Wd) : Bool := xs.any fun y => decide (keyW m x = keyW m y)
/-- The depth that a list gives a word. -/
def depOf (m : HM) (x : Wd) (fs : List Rk) : Int := match fs.find? (fun y => decide (keyW m x = keyW m y.1)) with
  | some y => y.2
  | none => 0
/-- What stands in a list of depths. -/
def Deps (m : HM) (es : List Wd) (fs : List Rk) : Prop := es.length = fs.length ∧ ∀ i, i < es.length → (es.getD i (0, 0)).1 = 2 ∧ m.find (es.getD i (0, 0)) = some (.pair (fs.getD i rk0).1 (0, (fs.getD i rk0).2))
theorem getW_mem {l : List Wd} {j : Nat} (h : j < l.length) : l.getD j (0, 0) ∈ l := by
  rw [List.getD_eq_getElem?_getD, List.getElem?_eq_getElem h]
  exact List.getElem_mem h
theorem getR_mem {l : List Rk} {j : Nat} (h : j < l.length) : l.getD j rk0 ∈ l := by
  rw [List.getD_eq_getElem?_getD, List.getElem?_eq_getElem h]
  exact List.getElem_mem h
section
variable {m : HM} {x : Wd} {xs : List Wd} {fs : List Rk} {i : Nat}
theorem notW_next (hi : i < xs.length) (hN : ∀ y ∈ xs.take i, keyW m x ≠ keyW m y) (h : ¬ keyW m x = keyW m (xs.getD i (0, 0))) : ∀ y ∈ xs.take (i + 1), keyW m x ≠ keyW m y := by
  rw [take_snoc hi]
  intro y hy
  rcases List.mem_append.1 hy with e | e
  · exact hN y e
  · rw [List.mem_singleton.1 e]; exact h
theorem takeR_snoc (hi : i < fs.length) : fs.take (i + 1) = fs.take i ++ [fs.getD i rk0] := by
  rw [List.take_add_one, List.getElem?_eq_getElem hi, List.getD_eq_getElem?_getD, List.getElem?_eq_getElem hi]
  rfl
theorem notR_next (hi : i < fs.length) (hN : ∀ y ∈ fs.take i, keyW m x ≠ keyW m y.1) (h : ¬ keyW m x = keyW m (fs.getD i rk0).1) : ∀ y ∈ fs.take (i + 1), keyW m x ≠ keyW m y.1 := by
  rw [takeR_snoc hi]
  intro y hy
  rcases List.mem_append.1 hy with e | e
  · exact hN y e
  · rw [List.mem_singleton.1 e]; exact h
theorem has_false (h : ∀ y ∈ xs, keyW m x ≠ keyW m y) : hasW m x xs = false := by
  unfold hasW
  rw [List.any_eq_false]
  intro y hy
  rw [decide_eq_true_eq]
  exact h y hy
theorem has_true {y : Wd} (hy : y ∈ xs) (h : keyW m x = keyW m y) : hasW m x xs = true := List.any_eq_true.2 ⟨y, hy, decide_eq_true h⟩
theorem has_no (hN : ∀ y ∈ xs.take i, keyW m x ≠ keyW m y) (hi : xs.length ≤ i) : Value.tuple #[.bool false, .int .i64 0] = .tuple #[.bool (hasW m x xs), .int .i64 0] := by
  rw [List.take_of_length_le hi] at hN
  rw [has_false hN]
theorem has_yes (hi : i < xs.length) (h : keyW m x = keyW m (xs.getD i (0, 0))) : Value.tuple #[.bool (decide (keyW m x = keyW m (xs.getD i (0, 0)))), .int .i64 0] = .tuple #[.bool (hasW m x xs), .int .i64 0] := by
  rw [decide_eq_true h, has_true (getW_mem hi) h]
theorem depOf_no (h : ∀ y ∈ fs, keyW m x ≠ keyW m y.1) : depOf m x fs = 0 := by
  unfold depOf
  rw [List.find?_eq_none.2 fun y hy => by rw [decide_eq_true_eq]; exact h y hy]
theorem depOf_yes : ∀ {fs : List Rk} {i : Nat}, i < fs.length → (∀ y ∈ fs.take i, keyW m x ≠ keyW m y.1) → keyW m x = keyW m (fs.getD i rk0).1 → depOf m x fs = (fs.getD i rk0).2
  | [], _, hi, _, _ => absurd hi (Nat.not_lt_zero _)
  | y :: l, 0, _, _, h => by
    unfold depOf
    rw [List.find?_cons_of_pos (by exact decide_eq_true h)]
    rfl
  | y :: l, i + 1, hi, hN, h => by
    have h1 : keyW m x ≠ keyW m y.1 := hN y (by rw [List.take_succ_cons]; exact List.mem_cons_self ..)
    have := depOf_yes (fs := l) (i := i) (by simpa using hi) (fun z hz => hN z (by rw [List.take_succ_cons]; exact List.mem_cons_of_mem _ hz)) h
    unfold depOf at this ⊢
    rw [List.find?_cons_of_neg (by rw [decide_eq_true_eq]; exact h1)]
    exact this
theorem dep_no (hN : ∀ y ∈ fs.take i, keyW m x ≠ keyW m y.1) (hi : fs.length ≤ i) : Value.tuple #[.int .i64 0, .int .i64 0] = .tuple #[.int .i64 (depOf m x fs), .int .i64 0] := by
  rw [List.take_of_length_le hi] at hN
  rw [depOf_no hN]
theorem dep_yes (hi : i < fs.length) (hN : ∀ y ∈ fs.take i, keyW m x ≠ keyW m y.1) (h : keyW m x = keyW m (fs.getD i rk0).1) : Value.tuple #[.int .i64 (fs.getD i rk0).2, .int .i64 0] = .tuple #[.int .i64 (depOf m x fs), .int .i64 0] := by
  rw [depOf_yes hi hN h]
end
section
variable {h : Nat} {m : HM} {σ0 : Mem}
set_option maxHeartbeats 4000000 in
theorem find_wc {x : Wd} {xs : List Wd} {v : Value} (hG : G66 ≤ σ0.next) (ha : σ0.abs = heapAbs h m) (hlo : 0 < m.limit) (hn : xs.length ≤ 65536) (hs : SlF σ0.get 2 v xs.length (wdC xs)) (gx : Good m x) (gxs : ∀ y ∈ xs, Good m y) :
    WC G66 Tryd.prog 25 #[pp h, v, wdV x] σ0 fun r σ' => r = .tuple #[.bool (hasW m x xs), .int .i64 0] ∧ Lies G66 (heapAbs h m) σ0.get σ' [] := by
  have H := Lies.start hG ha
  generalize σ0.get = F at H hs ⊢
  refine WC.enter (fn := Tryd.f25) Tryd.func25 rfl ?_
  refine W.rg [(0, .pointer (some ⟨h, 0, none⟩)), (1, v), (2, .agg #[.int .i64 x.1, .int .i64 x.2])] fun TA => ?_
  refine W.seq (W.region ?_)
  refine RW.mk H (.row ⟨[.int .i64 x.1, .int .i64 x.2], 28, false⟩) ?_
  clear H; intro _ b1 _ H
  iterate 2 refine RW.v ?_
  refine RW.nil ?_
  refine W.rg [(0, .pointer (some ⟨h, 0, none⟩)), (1, v), (5, .pointer (some ⟨b1, 0, none⟩))] fun TA => ?_
  refine W.seq ?_
  refine W.seq (W.region ?_)
  refine RW.v ?_
  refine RW.len (by kernel_rfl) (by kernel_rfl) rfl rfl rfl rfl (hs.len (e := 28) (by kernel_rfl)) (by kernel_rfl) ?_
  refine RW.v ?_
  refine RW.nil ?_
  refine W.rg [(0, .pointer (some ⟨h, 0, none⟩)), (5, .pointer (some ⟨b1, 0, none⟩)), (12, v), (13, .int .i64 (xs.length : Int)), (14, .int .i64 0)] fun TA => ?_
  refine W.block ?_
  refine W.loop (fun mm ta σ => ∃ (i : Nat), (mm + i = xs.length) ∧ (∀ y ∈ xs.take i, keyW m x ≠ keyW m y) ∧ Lies G66 (heapAbs h m) F σ [.at_ b1 (.row ⟨[.int .i64 x.1, .int .i64 x.2], 28, false⟩)] ∧ ta 0 = .pointer (some ⟨h, 0, none⟩) ∧ ta 5 = .pointer (some ⟨b1, 0, none⟩) ∧ ta 12 = v ∧ ta 13 = .int .i64 (xs.length : Int) ∧ ta 14 = .int .i64 ((i : Nat) : Int)) xs.length ?_ ?_
  · exact ⟨0, (by omega), (fun y hy => by simp at hy), H, rfl, rfl, rfl, rfl, rfl⟩
  clear H
  rintro mm ta _ ⟨i, hm, hN, H, e0, e5, e12, e13, e14⟩
  refine W.rst [(0, .pointer (some ⟨h, 0, none⟩)), (5, .pointer (some ⟨b1, 0, none⟩)), (12, v), (13, .int .i64 (xs.length : Int)), (14, .int .i64 ((i : Nat) : Int))] ⟨e0, e5, e12, e13, e14, trivial⟩ fun TA => ?_
  clear e0 e5 e12 e13 e14
  refine W.seq (W.region ?_)
  refine RW.v ?_
  refine RW.nil ?_
  refine W.rg [(0, .pointer (some ⟨h, 0, none⟩)), (5, .pointer (some ⟨b1, 0, none⟩)), (12, v), (13, .int .i64 (xs.length : Int)), (14, .int .i64 ((i : Nat) : Int)), (15, .bool (decide (((i : Nat) : Int) < (xs.length : Int))))] fun TA => ?_
  refine W.seq ?_
  refine W.cond rfl (fun hc2 => ?_) (fun hc2 => ?_)
  · have hc2b := hc2
    have hc2 := of_decide_eq_true hc2
    refine W.skip ?_
    refine W.seq ?_
    refine W.block ?_
    refine W.seq (W.region ?_)
    refine RW.idxF hs (by kernel_rfl) (by kernel_rfl) rfl Tryd.underlying37 (by kernel_rfl) rfl rfl ⟨by omega, by omega⟩ (by kernel_rfl) ?_
    intro b3 q4 r5 hF6 hE7
    rw [wdC_at (l := xs) (j := i) (by omega)] at hE7
    refine RW.loads 2 (by kernel_rfl) (by kernel_rfl) rfl rfl (H.old _ _ hF6) hE7 rfl (by kernel_rfl) ?_
    refine RW.mk H (.row ⟨[.int .i64 0, .int .i64 0], 28, false⟩) ?_
    clear H; intro _ b8 _ H
    refine RW.st H 0 [.int .i64 ((xs.getD i (0, 0)).1), .int .i64 ((xs.getD i (0, 0)).2)] [.int .i64 ((xs.getD i (0, 0)).1), .int .i64 ((xs.getD i (0, 0)).2)] ?_
    clear H; intro _ _ H; dsimp only [setL, delL] at H
    refine RW.nil ?_
    refine W.rg [(0, .pointer (some ⟨h, 0, none⟩)), (5, .pointer (some ⟨b1, 0, none⟩)), (9, .pointer (some ⟨b8, 0, none⟩)), (12, v), (13, .int .i64 (xs.length : Int)), (14, .int .i64 ((i : Nat) : Int))] fun TA => ?_
    refine W.seq (W.region ?_)
    refine RW.v ?_
    refine RW.ld H 1 2 ?_
    refine RW.ld H 0 2 ?_
    refine RW.call (by kernel_rfl) (by kernel_rfl) rfl rfl rfl (by kernel_rfl) (by kernel_rfl) ((Equal_hw gx (gxs _ (getW_mem (l := xs) (by omega))) hlo H).mono ?_)
    clear H
    rintro _ _ ⟨rfl, H⟩
    iterate 5 refine RW.v ?_
    refine RW.nil ?_
    replace H := (H.del 0)
    dsimp only [setL, delL] at H
    refine W.rg [(0, .pointer (some ⟨h, 0, none⟩)), (5, .pointer (some ⟨b1, 0, none⟩)), (10, .bool (decide (keyW m x = keyW m (xs.getD i (0, 0))))), (11, .int .i64 0), (12, v), (13, .int .i64 (xs.length : Int)), (14, .int .i64 ((i : Nat) : Int))] fun TA => ?_
    refine W.seq (W.region ?_)
    iterate 3 refine RW.v ?_
    refine RW.val (by rfl) (by kernel_rfl) rfl (by kernel_rfl) ?_
    refine RW.v ?_
    refine RW.nil ?_
    refine W.rg [(0, .pointer (some ⟨h, 0, none⟩)), (5, .pointer (some ⟨b1, 0, none⟩)), (10, .bool (decide (keyW m x = keyW m (xs.getD i (0, 0))))), (11, .int .i64 0), (12, v), (13, .int .i64 (xs.length : Int)), (14, .int .i64 ((i : Nat) : Int)), (29, .bool (decide (keyW m x = keyW m (xs.getD i (0, 0)))))] fun TA => ?_
    refine W.cond rfl (fun hc9 => ?_) (fun hc9 => ?_)
    · have hc9b := hc9
      have hc9 := of_decide_eq_true hc9
      refine W.seq (W.region ?_)
      iterate 4 refine RW.v ?_
      refine RW.nil ?_
      replace H := (H.del 0)
      dsimp only [setL, delL] at H
      refine W.rg [(6, .bool (decide (keyW m x = keyW m (xs.getD i (0, 0))))), (7, .int .i64 0)] fun TA => ?_
      refine W.ret ?_
      refine blkQ_ret ?_
      refine seqQ_ret ?_
      refine rndQ_ret ?_
      refine blkQ_ret ?_
      refine seqQ_ret ?_
      refine endG (by rfl) (by exact resL_tmp (by exact resL_tmp rfl)) ?_
      exact ⟨has_yes (by omega) hc9, H⟩
    · have hc9b := hc9
      have hc9 := of_decide_eq_false hc9
      refine W.skip ?_
      refine blkQ_normal ?_
      refine W.region ?_
      refine RW.valE (v' := .int .i64 (((i : Nat) : Int) + 1)) (by kernel_rfl) (by kernel_rfl) rfl (congrArg (Value.int .i64) (wrap_in (by omega) (by omega))) (by kernel_rfl) ?_
      refine RW.v ?_
      refine RW.nil ?_
      exact ⟨rfl, mm - 1, by omega, i + 1, (by omega), (notW_next (by omega) hN hc9), H, rfl, rfl, rfl, rfl, rfl⟩
  · have hc2b := hc2
    have hc2 := of_decide_eq_false hc2
    refine W.exit _ ?_
    refine seqQ_exit ?_
    refine rndQ_exit ?_
    refine blkQ_here ?_
    refine W.seq (W.region ?_)
    iterate 2 refine RW.v ?_
    refine RW.nil ?_
    replace H := (H.del 0)
    dsimp only [setL, delL] at H
    refine W.rg [(6, .bool false), (7, .int .i64 0)] fun TA => ?_
    refine W.ret ?_
    refine endG (by rfl) (by exact resL_tmp (by exact resL_tmp rfl)) ?_
    exact ⟨has_no hN (by omega), H⟩
set_option maxHeartbeats 4000000 in
theorem entry_wc {e f : Wd} {d : Int} (he : e.1 = 2) (hf : m.find e = some (.pair f (0, d))) (hG : G66 ≤ σ0.next) (ha : σ0.abs = heapAbs h m) :
    WC G66 Tryd.prog 41 #[pp h, wdV e] σ0 fun r σ' => r = .tuple #[wdV f, .int .i64 d, .bool true] ∧ Lies G66 (heapAbs h m) σ0.get σ' [] := by
  obtain ⟨k2, k⟩ := e
  obtain rfl : k2 = 2 := he
  have H := Lies.start hG ha
  generalize σ0.get = F at H ⊢
  refine WC.enter (fn := Tryd.f41) Tryd.func41 rfl ?_
  refine W.rg [(0, .pointer (some ⟨h, 0, none⟩)), (1, .agg #[.int .i64 2, .int .i64 k])] fun TA => ?_
  refine W.seq (W.region ?_)
  refine RW.mk H (.row ⟨[.int .i64 2, .int .i64 k], 28, false⟩) ?_
  clear H; intro _ b1 _ H
  refine RW.mk H (.row ⟨[.int .i64 0, .int .i64 0], 28, false⟩) ?_
  clear H; intro _ b2 _ H
  iterate 2 refine RW.v ?_
  refine RW.nil ?_
  refine W.rg [(0, .pointer (some ⟨h, 0, none⟩)), (3, .pointer (some ⟨b1, 0, none⟩)), (4, .pointer (some ⟨b2, 0, none⟩))] fun TA => ?_
  refine W.seq ?_
  refine W.seq (W.region ?_)
  refine RW.v ?_
  refine RW.ld H 1 2 ?_
  refine RW.cl ?_
  refine WC.enter (fn := Tryd.f50) Tryd.func50 rfl ?_
  refine W.rg [(0, .pointer (some ⟨h, 0, none⟩)), (1, .agg #[.int .i64 2, .int .i64 k])] fun TA => ?_
  refine W.seq (W.region ?_)
  refine RW.mk H (.row ⟨[.int .i64 2, .int .i64 k], 28, false⟩) ?_
  clear H; intro _ b3 _ H
  refine RW.v ?_
  refine RW.nil ?_
  refine W.rg [(0, .pointer (some ⟨h, 0, none⟩)), (3, .pointer (some ⟨b3, 0, none⟩))] fun TA => ?_
  refine W.seq (W.region ?_)
  refine RW.v ?_
  refine RW.ld H 0 1 ?_
  iterate 2 refine RW.v ?_
  refine RW.val (by rfl) (by kernel_rfl) rfl (by kernel_rfl) ?_
  refine RW.ldL H 0 2 (by rfl) (by kernel_rfl) rfl rfl rfl rfl rfl (by kernel_rfl) ?_
  refine RW.call (by rfl) (by kernel_rfl) rfl rfl rfl (by kernel_rfl) (by kernel_rfl) ⟨_, _, (liveY_call (G := G66) H.abs hf), ?_⟩
  iterate 2 refine RW.v ?_
  refine RW.nil ?_
  replace H := (H.del 0)
  dsimp only [setL, delL] at H
  refine W.rg [(4, .bool true)] fun TA => ?_
  refine W.ret ?_
  refine endG (by rfl) (by exact resL_tmp rfl) ?_
  refine RW.v ?_
  refine RW.nil ?_
  refine W.rg [(0, .pointer (some ⟨h, 0, none⟩)), (3, .pointer (some ⟨b1, 0, none⟩)), (4, .pointer (some ⟨b2, 0, none⟩)), (12, .bool false)] fun TA => ?_
  refine W.c0 ?_
  refine W.skip ?_
  refine W.seq (W.region ?_)
  refine RW.v ?_
  refine RW.ld H 1 2 ?_
  refine RW.call (by kernel_rfl) (by kernel_rfl) rfl rfl rfl (by kernel_rfl) (by kernel_rfl) ⟨_, _, (carY_call (G := G66) H.abs hf), ?_⟩
  iterate 3 refine RW.v ?_
  refine RW.st H 0 [.int .i64 f.1, .int .i64 f.2] [.int .i64 f.1, .int .i64 f.2] ?_
  clear H; intro _ _ H; dsimp only [setL, delL] at H
  refine RW.nil ?_
  refine W.rg [(0, .pointer (some ⟨h, 0, none⟩)), (3, .pointer (some ⟨b1, 0, none⟩)), (4, .pointer (some ⟨b2, 0, none⟩))] fun TA => ?_
  refine W.seq (W.region ?_)
  refine RW.v ?_
  refine RW.ld H 1 2 ?_
  refine RW.call (by kernel_rfl) (by kernel_rfl) rfl rfl rfl (by kernel_rfl) (by kernel_rfl) ⟨_, _, (cdrY_call H.abs hf), ?_⟩
  iterate 3 refine RW.v ?_
  refine RW.mk H (.row ⟨[.int .i64 0, .int .i64 0], 28, false⟩) ?_
  clear H; intro _ b4 _ H
  refine RW.st H 0 [.int .i64 0, .int .i64 d] [.int .i64 0, .int .i64 d] ?_
  clear H; intro _ _ H; dsimp only [setL, delL] at H
  refine RW.v ?_
  refine RW.nil ?_
  replace H := (H.del 2)
  dsimp only [setL, delL] at H
  refine W.rg [(4, .pointer (some ⟨b2, 0, none⟩)), (7, .pointer (some ⟨b4, 0, none⟩))] fun TA => ?_
  refine W.seq ?_
  refine W.drawn (by kernel_rfl) (by kernel_rfl) H.gn ?_
  have H5 := H
  refine RW.ld H5 1 2 ?_
  refine RW.v ?_
  refine RW.ld H5 0 1 ?_
  refine RW.v ?_
  refine RW.ld H5 0 1 ?_
  refine RW.v ?_
  refine RW.stD H5 1 (vs := [.int .i64 f.1, .int .i64 f.2]) (cs' := [.int .i64 f.1, .int .i64 f.2]) (by kernel_rfl) (by kernel_rfl) rfl rfl rfl rfl rfl (by kernel_rfl) (Nat.le_of_ble_eq_true rfl) rfl (by kernel_rfl) ?_
  intro _ H6
  dsimp only [setL, delL] at H6
  iterate 2 refine RW.v ?_
  refine RW.nil ?_
  refine ⟨⟨by kernel_rfl, ⟨dyn_row (H5.get 1 rfl) (H6.get 1 rfl) ⟨fun h => Bool.noConfusion h, fun h => Bool.noConfusion h, fun h => Bool.noConfusion h, fun h => Bool.noConfusion h, fun h => Bool.noConfusion h, fun h => Bool.noConfusion h, fun _ => H5.get 1 rfl, fun h => Bool.noConfusion h, fun h => Bool.noConfusion h, trivial⟩, trivial, dyn_row (H5.get 0 rfl) (H6.get 0 rfl) ⟨fun h => Bool.noConfusion h, fun h => Bool.noConfusion h, fun h => Bool.noConfusion h, fun h => Bool.noConfusion h, fun h => Bool.noConfusion h, fun h => Bool.noConfusion h, fun _ => H5.get 0 rfl, fun h => Bool.noConfusion h, fun h => Bool.noConfusion h, trivial⟩, trivial, dyn_row (H5.get 0 rfl) (H6.get 0 rfl) ⟨fun h => Bool.noConfusion h, fun h => Bool.noConfusion h, fun h => Bool.noConfusion h, fun h => Bool.noConfusion h, fun h => Bool.noConfusion h, fun h => Bool.noConfusion h, fun _ => H5.get 0 rfl, fun h => Bool.noConfusion h, fun h => Bool.noConfusion h, trivial⟩, trivial, trivial, trivial, trivial, trivial⟩⟩, ?_⟩
  replace H := H6
  clear H5 H6
  replace H := (H.del 0)
  dsimp only [setL, delL] at H
  refine W.rg [(4, .pointer (some ⟨b2, 0, none⟩)), (5, .int .i64 d), (6, .bool true)] fun TA => ?_
  refine W.ret ?_
  refine endG (by rfl) (by exact resL_cell rfl (H.get 0 rfl) (by rw [uT_eq]; exact Tryd.underlying28) (by kernel_rfl) rfl rfl (by exact resL_tmp (by exact resL_tmp rfl))) ?_
  exact ⟨rfl, (H.del 0)⟩
set_option maxHeartbeats 4000000 in
theorem depth_wc {x : Wd} {es : List Wd} {fs : List Rk} {v : Value} (hG : G66 ≤ σ0.next) (ha : σ0.abs = heapAbs h m) (hlo : 0 < m.limit) (hn : es.length ≤ 65536) (hs : SlF σ0.get 2 v es.length (wdC es)) (gx : Good m x) (gfs : ∀ y ∈ fs, Good m y.1) (hdp : Deps m es fs) :
    WC G66 Tryd.prog 26 #[pp h, v, wdV x] σ0 fun r σ' => r = .tuple #[.int .i64 (depOf m x fs), .int .i64 0] ∧ Lies G66 (heapAbs h m) σ0.get σ' [] := by
  have hfl := hdp.1
  have H := Lies.start hG ha
  generalize σ0.get = F at H hs ⊢
  refine WC.enter (fn := Tryd.f26) Tryd.func26 rfl ?_
  refine W.rg [(0, .pointer (some ⟨h, 0, none⟩)), (1, v), (2, .agg #[.int .i64 x.1, .int .i64 x.2])] fun TA => ?_
  refine W.seq (W.region ?_)
  refine RW.mk H (.row ⟨[.int .i64 x.1, .int .i64 x.2], 28, false⟩) ?_
  clear H; intro _ b1 _ H
  iterate 2 refine RW.v ?_
  refine RW.nil ?_
  refine W.rg [(0, .pointer (some ⟨h, 0, none⟩)), (1, v), (5, .pointer (some ⟨b1, 0, none⟩))] fun TA => ?_
  refine W.seq ?_
  refine W.seq (W.region ?_)
  refine RW.v ?_
  refine RW.len (by kernel_rfl) (by kernel_rfl) rfl rfl rfl rfl (hs.len (e := 28) (by kernel_rfl)) (by kernel_rfl) ?_
  refine RW.v ?_
  refine RW.nil ?_
  refine W.rg [(0, .pointer (some ⟨h, 0, none⟩)), (5, .pointer (some ⟨b1, 0, none⟩)), (15, v), (16, .int .i64 (es.length : Int)), (17, .int .i64 0)] fun TA => ?_
  refine W.block ?_
  refine W.loop (fun mm ta σ => ∃ (i : Nat), (mm + i = es.length) ∧ (∀ y ∈ fs.take i, keyW m x ≠ keyW m y.1) ∧ Lies G66 (heapAbs h m) F σ [.at_ b1 (.row ⟨[.int .i64 x.1, .int .i64 x.2], 28, false⟩)] ∧ ta 0 = .pointer (some ⟨h, 0, none⟩) ∧ ta 5 = .pointer (some ⟨b1, 0, none⟩) ∧ ta 15 = v ∧ ta 16 = .int .i64 (es.length : Int) ∧ ta 17 = .int .i64 ((i : Nat) : Int)) es.length ?_ ?_
  · exact ⟨0, (by omega), (fun y hy => by simp at hy), H, rfl, rfl, rfl, rfl, rfl⟩
  clear H
  rintro mm ta _ ⟨i, hm, hN, H, e0, e5, e15, e16, e17⟩
  refine W.rst [(0, .pointer (some ⟨h, 0, none⟩)), (5, .pointer (some ⟨b1, 0, none⟩)), (15, v), (16, .int .i64 (es.length : Int)), (17, .int .i64 ((i : Nat) : Int))] ⟨e0, e5, e15, e16, e17, trivial⟩ fun TA => ?_
  clear e0 e5 e15 e16 e17
  refine W.seq (W.region ?_)
  refine RW.v ?_
  refine RW.nil ?_
  refine W.rg [(0, .pointer (some ⟨h, 0, none⟩)), (5, .pointer (some ⟨b1, 0, none⟩)), (15, v), (16, .int .i64 (es.length : Int)), (17, .int .i64 ((i : Nat) : Int)), (18, .bool (decide (((i : Nat) : Int) < (es.length : Int))))] fun TA => ?_
  refine W.seq ?_
  refine W.cond rfl (fun hc2 => ?_) (fun hc2 => ?_)
  · have hc2b := hc2
    have hc2 := of_decide_eq_true hc2
    refine W.skip ?_
    refine W.seq ?_
    refine W.block ?_
    refine W.seq (W.region ?_)
    refine RW.idxF hs (by kernel_rfl) (by kernel_rfl) rfl Tryd.underlying37 (by kernel_rfl) rfl rfl ⟨by omega, by omega⟩ (by kernel_rfl) ?_
    intro b3 q4 r5 hF6 hE7
    rw [wdC_at (l := es) (j := i) (by omega)] at hE7
    refine RW.loads 2 (by kernel_rfl) (by kernel_rfl) rfl rfl (H.old _ _ hF6) hE7 rfl (by kernel_rfl) ?_
    refine RW.mk H (.row ⟨[.int .i64 0, .int .i64 0], 28, false⟩) ?_
    clear H; intro _ b8 _ H
    refine RW.st H 0 [.int .i64 ((es.getD i (0, 0)).1), .int .i64 ((es.getD i (0, 0)).2)] [.int .i64 ((es.getD i (0, 0)).1), .int .i64 ((es.getD i (0, 0)).2)] ?_
    clear H; intro _ _ H; dsimp only [setL, delL] at H
    refine RW.nil ?_
    refine W.rg [(0, .pointer (some ⟨h, 0, none⟩)), (5, .pointer (some ⟨b1, 0, none⟩)), (9, .pointer (some ⟨b8, 0, none⟩)), (15, v), (16, .int .i64 (es.length : Int)), (17, .int .i64 ((i : Nat) : Int))] fun TA => ?_
    refine W.seq (W.region ?_)
    refine RW.v ?_
    refine RW.ld H 0 2 ?_
    refine RW.call (by kernel_rfl) (by kernel_rfl) rfl rfl rfl (by kernel_rfl) (by kernel_rfl) ((entry_wc (hdp.2 i (by omega)).1 (hdp.2 i (by omega)).2 H.gn H.abs).mono ?_)
    rintro _ _ ⟨rfl, K⟩
    replace H := H.then K
    clear K
    dsimp only [List.nil_append, List.cons_append] at H
    iterate 4 refine RW.v ?_
    refine RW.mk H (.row ⟨[.int .i64 0, .int .i64 0], 28, false⟩) ?_
    clear H; intro _ b9 _ H
    refine RW.st H 0 [.int .i64 ((fs.getD i rk0).1.1), .int .i64 ((fs.getD i rk0).1.2)] [.int .i64 ((fs.getD i rk0).1.1), .int .i64 ((fs.getD i rk0).1.2)] ?_
    clear H; intro _ _ H; dsimp only [setL, delL] at H
    iterate 2 refine RW.v ?_
    refine RW.nil ?_
    replace H := (H.del 1)
    dsimp only [setL, delL] at H
    refine W.rg [(0, .pointer (some ⟨h, 0, none⟩)), (5, .pointer (some ⟨b1, 0, none⟩)), (10, .pointer (some ⟨b9, 0, none⟩)), (11, .int .i64 ((fs.getD i rk0).2)), (12, .bool true), (15, v), (16, .int .i64 (es.length : Int)), (17, .int .i64 ((i : Nat) : Int))] fun TA => ?_
    refine W.seq ?_
    refine W.seq (W.region ?_)
    iterate 2 refine RW.v ?_
    refine RW.nil ?_
    refine W.rg [(0, .pointer (some ⟨h, 0, none⟩)), (5, .pointer (some ⟨b1, 0, none⟩)), (10, .pointer (some ⟨b9, 0, none⟩)), (11, .int .i64 ((fs.getD i rk0).2)), (15, v), (16, .int .i64 (es.length : Int)), (17, .int .i64 ((i : Nat) : Int)), (29, .bool false)] fun TA => ?_
    refine W.c0 ?_
    refine W.skip ?_
    refine W.seq (W.region ?_)
    refine RW.v ?_
    refine RW.ld H 1 2 ?_
    refine RW.ld H 0 2 ?_
    refine RW.call (by kernel_rfl) (by kernel_rfl) rfl rfl rfl (by kernel_rfl) (by kernel_rfl) ((Equal_hw gx (gfs _ (getR_mem (l := fs) (by omega))) hlo H).mono ?_)
    clear H
    rintro _ _ ⟨rfl, H⟩
    iterate 5 refine RW.v ?_
    refine RW.nil ?_
    replace H := (H.del 0)
    dsimp only [setL, delL] at H
    refine W.rg [(0, .pointer (some ⟨h, 0, none⟩)), (5, .pointer (some ⟨b1, 0, none⟩)), (11, .int .i64 ((fs.getD i rk0).2)), (13, .bool (decide (keyW m x = keyW m (fs.getD i rk0).1))), (14, .int .i64 0), (15, v), (16, .int .i64 (es.length : Int)), (17, .int .i64 ((i : Nat) : Int))] fun TA => ?_
    refine W.seq ?_
    refine W.seq (W.region ?_)
    iterate 2 refine RW.v ?_
    refine RW.nil ?_
    refine W.rg [(0, .pointer (some ⟨h, 0, none⟩)), (5, .pointer (some ⟨b1, 0, none⟩)), (11, .int .i64 ((fs.getD i rk0).2)), (13, .bool (decide (keyW m x = keyW m (fs.getD i rk0).1))), (14, .int .i64 0), (15, v), (16, .int .i64 (es.length : Int)), (17, .int .i64 ((i : Nat) : Int)), (38, .bool false)] fun TA => ?_
    refine W.c0 ?_
    refine W.skip ?_
    refine W.seq (W.region ?_)
    refine RW.v ?_
    refine RW.nil ?_
    refine W.rg [(0, .pointer (some ⟨h, 0, none⟩)), (5, .pointer (some ⟨b1, 0, none⟩)), (11, .int .i64 ((fs.getD i rk0).2)), (15, v), (16, .int .i64 (es.length : Int)), (17, .int .i64 ((i : Nat) : Int)), (40, .bool (decide (keyW m x = keyW m (fs.getD i rk0).1)))] fun TA => ?_
    refine W.cond rfl (fun hc10 => ?_) (fun hc10 => ?_)
    · have hc10b := hc10
      have hc10 := of_decide_eq_true hc10
      refine W.seq (W.region ?_)
      iterate 3 refine RW.v ?_
      refine RW.nil ?_
      replace H := (H.del 0)
      dsimp only [setL, delL] at H
      refine W.rg [(6, .int .i64 ((fs.getD i rk0).2)), (7, .int .i64 0)] fun TA => ?_
      refine W.ret ?_
      refine blkQ_ret ?_
      refine seqQ_ret ?_
      refine rndQ_ret ?_
      refine blkQ_ret ?_
      refine seqQ_ret ?_
      refine endG (by rfl) (by exact resL_tmp (by exact resL_tmp rfl)) ?_
      exact ⟨dep_yes (by omega) hN hc10, H⟩
    · have hc10b := hc10
      have hc10 := of_decide_eq_false hc10
      refine W.skip ?_
      refine blkQ_normal ?_
      refine W.region ?_
      refine RW.valE (v' := .int .i64 (((i : Nat) : Int) + 1)) (by kernel_rfl) (by kernel_rfl) rfl (congrArg (Value.int .i64) (wrap_in (by omega) (by omega))) (by kernel_rfl) ?_
      refine RW.v ?_
      refine RW.nil ?_
      exact ⟨rfl, mm - 1, by omega, i + 1, (by omega), (notR_next (by omega) hN hc10), H, rfl, rfl, rfl, rfl, rfl⟩
  · have hc2b := hc2
    have hc2 := of_decide_eq_false hc2
    refine W.exit _ ?_
    refine seqQ_exit ?_
    refine rndQ_exit ?_
    refine blkQ_here ?_
    refine W.seq (W.region ?_)
    iterate 2 refine RW.v ?_
    refine RW.nil ?_
    replace H := (H.del 0)
    dsimp only [setL, delL] at H
    refine W.rg [(6, .int .i64 0), (7, .int .i64 0)] fun TA => ?_
    refine W.ret ?_
    refine endG (by rfl) (by exact resL_tmp (by exact resL_tmp rfl)) ?_
    exact ⟨dep_no hN (by omega), H⟩
set_option maxHeartbeats 4000000 in
theorem Depth_wc {x p : Wd} {c : Nat → Wd} {es : List Wd} {fs : List Rk} (hG : G66 ≤ σ0.next) (ha : σ0.abs = heapAbs h m) (hlo : 0 < m.limit) (hn : es.length ≤ 65536) (hx : c 0 = p) (hp : Chain m c es) (gx : Good m x) (gfs : ∀ y ∈ fs, Good m y.1) (hdp : Deps m es fs) :
    WC G66 Tryd.prog 12 #[pp h, wdV p, wdV x] σ0 fun r σ' => r = .tuple #[.int .i64 (depOf m x fs), .int .i64 0] ∧ Lies G66 (heapAbs h m) σ0.get σ' [] := by
  have H := Lies.start hG ha
  generalize σ0.get = F at H ⊢
  refine WC.enter (fn := Tryd.f12) Tryd.func12 rfl ?_
  refine W.rg [(0, .pointer (some ⟨h, 0, none⟩)), (1, .agg #[.int .i64 p.1, .int .i64 p.2]), (2, .agg #[.int .i64 x.1, .int .i64 x.2])] fun TA => ?_
  refine W.seq (W.region ?_)
  refine RW.mk H (.row ⟨[.int .i64 p.1, .int .i64 p.2], 28, false⟩) ?_
  clear H; intro _ b1 _ H
  refine RW.mk H (.row ⟨[.int .i64 x.1, .int .i64 x.2], 28, false⟩) ?_
  clear H; intro _ b2 _ H
  iterate 2 refine RW.v ?_
  refine RW.nil ?_
  refine W.rg [(0, .pointer (some ⟨h, 0, none⟩)), (4, .pointer (some ⟨b1, 0, none⟩)), (5, .pointer (some ⟨b2, 0, none⟩))] fun TA => ?_
  refine W.seq ?_
  refine W.seq (W.region ?_)
  refine RW.v ?_
  refine RW.cl ?_
  refine WC.enter (fn := Tryd.f23) Tryd.func23 rfl ?_
  refine W.rg [(0, .pointer (some ⟨h, 0, none⟩))] fun TA => ?_
  refine W.seq (W.region ?_)
  refine RW.v ?_
  refine RW.nil ?_
  refine W.rg [(0, .pointer (some ⟨h, 0, none⟩))] fun TA => ?_
  refine W.seq (W.region ?_)
  refine RW.v ?_
  refine RW.call (by kernel_rfl) (by kernel_rfl) rfl rfl rfl (by kernel_rfl) (by kernel_rfl) ⟨_, _, (s_limit (G := G66) H.abs), ?_⟩
  refine RW.valE (v' := .bool true) (by kernel_rfl) (by kernel_rfl) rfl (congrArg Value.bool (decide_eq_true (by omega))) (by kernel_rfl) ?_
  refine RW.v ?_
  refine RW.nil ?_
  refine W.rg [(2, .bool true)] fun TA => ?_
  refine W.ret ?_
  refine endG (by rfl) (by exact resL_tmp rfl) ?_
  refine RW.v ?_
  refine RW.nil ?_
  refine W.rg [(0, .pointer (some ⟨h, 0, none⟩)), (4, .pointer (some ⟨b1, 0, none⟩)), (5, .pointer (some ⟨b2, 0, none⟩)), (12, .bool false)] fun TA => ?_
  refine W.c0 ?_
  refine W.skip ?_
  refine W.seq (W.region ?_)
  refine RW.v ?_
  refine RW.ld H 1 2 ?_
  refine RW.call (by kernel_rfl) (by kernel_rfl) rfl rfl rfl (by kernel_rfl) (by kernel_rfl) ((slice_k (h := h) (m := m) hx H.gn H.abs hlo hp hn).mono ?_)
  rintro _ _ ⟨slE, rfl, K⟩
  replace H := H.then K
  clear K
  dsimp only [List.nil_append, List.cons_append] at H
  obtain ⟨F, leE, hSE, H⟩ := H.freezeSl 0 rfl
  dsimp only [setL, delL] at H
  iterate 5 refine RW.v ?_
  refine RW.nil ?_
  replace H := (H.del 1)
  dsimp only [setL, delL] at H
  refine W.rg [(0, .pointer (some ⟨h, 0, none⟩)), (5, .pointer (some ⟨b2, 0, none⟩)), (8, slE), (9, .int .i64 0)] fun TA => ?_
  refine W.seq ?_
  refine W.seq (W.region ?_)
  iterate 2 refine RW.v ?_
  refine RW.nil ?_
  refine W.rg [(0, .pointer (some ⟨h, 0, none⟩)), (5, .pointer (some ⟨b2, 0, none⟩)), (8, slE), (9, .int .i64 0), (20, .bool false)] fun TA => ?_
  refine W.c0 ?_
  refine W.skip ?_
  refine W.seq (W.region ?_)
  iterate 2 refine RW.v ?_
  refine RW.ld H 0 2 ?_
  refine RW.call (by kernel_rfl) (by kernel_rfl) rfl rfl rfl (by kernel_rfl) (by kernel_rfl) ((depth_wc H.gn H.abs hlo hn (hSE.le H.old) gx gfs hdp).mono ?_)
  rintro _ _ ⟨rfl, K⟩
  replace H := H.then K
  clear K
  dsimp only [List.nil_append, List.cons_append] at H
  iterate 4 refine RW.v ?_
  refine RW.nil ?_
  replace H := (H.del 0)
  dsimp only [setL, delL] at H
  refine W.rg [(6, .int .i64 (depOf m x fs)), (7, .int .i64 0)] fun TA => ?_
  refine W.ret ?_
  refine endG (by rfl) (by exact resL_tmp (by exact resL_tmp rfl)) ?_
  exact ⟨rfl, H.back leE⟩
end
end Go.Proofs.YtaaebeiigkhcjaaDoor
