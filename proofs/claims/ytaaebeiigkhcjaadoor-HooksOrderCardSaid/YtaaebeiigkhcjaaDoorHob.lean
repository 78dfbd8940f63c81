/-
  lists.Equal on the words of the laws of hooks. Conditions: the heap lies there as HeapAt says. Conditions: the heap lies there as HeapAt says.
-/
import Derived.Test.YtaaebeiigkhcjaaDoorHka
import Derived.Test.YtaaebeiigkhcjaaDoorMa
import Derived.Test.YtaaebeiigkhcjaaDoorS4
namespace Go.Proofs.YtaaebeiigkhcjaaDoor
set_option maxRecDepth 100000
/-- What a word is held against others by. -/
def keyW (m : HM) (x : Wd) : Wd := match m.find x with
  | some (.pair _ d) => (match m.find d with
    | some (.pair e _) => (2, e.2)
    | _ => x)
  | _ => x
/-- The words of the laws of hooks: symbols, numbers, lambda forms. -/
inductive Good (m : HM) : Wd → Prop
  | atom {x : Wd} (h : x.1 = 0 ∨ x.1 = 1) : Good m x
  | lam {i j k : Int} (h1 : m.find (2, i) = some (.pair (1, 7) (2, j))) (h2 : m.find (2, j) = some (.pair (0, k) (1, 0))) : Good m (2, i)
theorem find_atom {m : HM} {x : Wd} (h : x.1 = 0 ∨ x.1 = 1) : m.find x = none := by
  cases e : m.find x with
  | none => rfl
  | some o => have := (HM.find_mem e).2.2; cases o <;> (simp only [HObj.kind] at this; omega)
theorem keyW_atom {m : HM} {x : Wd} (h : x.1 = 0 ∨ x.1 = 1) : keyW m x = x := by unfold keyW; rw [find_atom h]
theorem keyW_lam {m : HM} {i j k : Int} (h1 : m.find (2, i) = some (.pair (1, 7) (2, j))) (h2 : m.find (2, j) = some (.pair (0, k) (1, 0))) : keyW m (2, i) = (2, k) := by unfold keyW; rw [h1]; simp only [h2]
theorem lam_same {m : HM} {j j' k k' : Int} (h : j = j') (h2 : m.find (2, j) = some (.pair (0, k) (1, 0))) (h2' : m.find (2, j') = some (.pair (0, k') (1, 0))) : ((2, k) : Wd) = (2, k') := by
  subst h
  rw [h2] at h2'
  cases h2'
  rfl
theorem Good.mono {m m' : HM} (f : FindsAll m m') {x : Wd} (h : Good m x) : Good m' x ∧ keyW m' x = keyW m x := by
  cases h with
  | atom h => exact ⟨.atom h, by rw [keyW_atom h, keyW_atom h]⟩
  | lam h1 h2 => exact ⟨.lam (f _ _ h1) (f _ _ h2), by rw [keyW_lam h1 h2, keyW_lam (f _ _ h1) (f _ _ h2)]⟩
theorem wd_eq {a b : Wd} (h : (a.1 == b.1 && a.2 == b.2) = true) : a = b := by
  rw [Bool.and_eq_true, beq_iff_eq, beq_iff_eq] at h
  exact Prod.ext h.1 h.2
theorem wd_ne {a b : Wd} (h : (a.1 == b.1 && a.2 == b.2) = false) : a ≠ b := fun e => by
  subst e
  simp at h
theorem dec_yes {a b : Wd} (h : a = b) : Value.tuple #[.bool true, .int .i64 0] = .tuple #[.bool (decide (a = b)), .int .i64 0] := by rw [decide_eq_true h]
theorem dec_no {a b : Wd} (h : a ≠ b) : Value.tuple #[.bool false, .int .i64 0] = .tuple #[.bool (decide (a = b)), .int .i64 0] := by rw [decide_eq_false h]
section
variable {h : Nat} {m : HM} {σ : Mem} {F : Nat → Option Blk2} {L : List Ent}
theorem s_textNo (x : Wd) (hx : x.1 = 0 ∨ x.1 = 1) (ha : σ.abs = heapAbs h m) : SCall G66 Tryd.prog 76 #[pp h, wdV x] σ (.tuple #[.string ByteArray.empty, .int .i64 6]) σ := by
  have e1 : m.textOf x = (ByteArray.empty, 6) := by unfold HM.textOf; rw [find_atom hx]; rfl
  exact heap_read (l := [wdV x]) ha rfl rfl fun w p S hH => by have := textOf_heap S p m x w hH; rwa [e1] at this
theorem s_vecNo (x : Wd) (hx : x.1 = 0 ∨ x.1 = 1) (ha : σ.abs = heapAbs h m) : SCall G66 Tryd.prog 77 #[pp h, wdV x] σ (.tuple #[.slice none 0 0, .int .i64 6]) σ :=
  heap_read (l := [wdV x]) ha rfl rfl fun w p S hH => vecOf_heap_no S p m x w hH fun l e => by rw [find_atom hx] at e; cases e
theorem cdrY_call {k : Int} {a d : Wd} (ha : σ.abs = heapAbs h m) (hf : m.find (2, k) = some (.pair a d)) : SCall G66 Tryd.prog 55 #[.pointer (some ⟨h, 0, none⟩), .agg #[.int .i64 2, .int .i64 k]] σ (.tuple #[.agg #[.int .i64 d.1, .int .i64 d.2], .int .i64 0]) σ := by
  have := s_cdr (G := G66) (2, k) ha
  have e : m.cdr (2, k) = (d, 0) := by simp [HM.cdr, hf]
  rwa [e] at this
set_option maxHeartbeats 16000000 in
theorem equal_hw {a b : Wd} {Lp : Nat} (ga : Good m a) (gb : Good m b) (hlim : 0 < m.limit) (H : Lies G66 (heapAbs h m) F σ (.at_ Lp (.row ⟨[.int .i64 200000], 3, false⟩) :: L)) :
    WC G66 Tryd.prog 66 #[pp h, wdV a, wdV b, pp Lp] σ fun v σ' => v = .tuple #[.bool (decide (keyW m a = keyW m b)), .int .i64 0] ∧ ∃ n, Lies G66 (heapAbs h m) F σ' (.at_ Lp (.row ⟨[.int .i64 n], 3, false⟩) :: L) := by
  cases ga with
  | atom ha =>
    cases gb with
    | atom hb =>
      refine WC.enterD (fn := Tryd.f66) Tryd.func66 rfl ?_
      refine W.rg [(0, .pointer (some ⟨h, 0, none⟩)), (1, .agg #[.int .i64 a.1, .int .i64 a.2]), (2, .agg #[.int .i64 b.1, .int .i64 b.2]), (3, .pointer (some ⟨Lp, 0, none⟩))] fun TA => ?_
      refine W.seq (W.region ?_)
      refine RW.mk H (.row ⟨[.int .i64 a.1, .int .i64 a.2], 28, false⟩) ?_
      clear H; intro _ b1 _ H
      refine RW.mk H (.row ⟨[.int .i64 b.1, .int .i64 b.2], 28, false⟩) ?_
      clear H; intro _ b2 _ H
      refine RW.mk H (.row ⟨[.bool false], 4, false⟩) ?_
      clear H; intro _ b3 _ H
      refine RW.mk H (.row ⟨[.int .i64 0], 33, false⟩) ?_
      clear H; intro _ b4 _ H
      refine RW.nil ?_
      refine W.rg [(0, .pointer (some ⟨h, 0, none⟩)), (3, .pointer (some ⟨Lp, 0, none⟩)), (5, .pointer (some ⟨b1, 0, none⟩)), (6, .pointer (some ⟨b2, 0, none⟩)), (8, .pointer (some ⟨b3, 0, none⟩)), (9, .pointer (some ⟨b4, 0, none⟩))] fun TA => ?_
      refine W.seq ?_
      refine W.seq (W.region ?_)
      refine RW.v ?_
      refine RW.call (by kernel_rfl) (by kernel_rfl) rfl rfl rfl (by kernel_rfl) (by kernel_rfl) ((made_wc (G := G66) (h := h) H.abs hlim).mono ?_)
      rintro _ σ5 ⟨rfl, hσ⟩
      obtain rfl := hσ.symm
      refine RW.v ?_
      refine RW.nil ?_
      refine W.rg [(0, .pointer (some ⟨h, 0, none⟩)), (3, .pointer (some ⟨Lp, 0, none⟩)), (5, .pointer (some ⟨b1, 0, none⟩)), (6, .pointer (some ⟨b2, 0, none⟩)), (8, .pointer (some ⟨b3, 0, none⟩)), (9, .pointer (some ⟨b4, 0, none⟩)), (12, .bool false)] fun TA => ?_
      refine W.c0 ?_
      refine W.skip ?_
      refine W.seq ?_
      refine W.deferred (f := 72) (fa := #[]) (as_ := #[]) (ca := #[.pointer (some ⟨b3, 0, none⟩), .pointer (some ⟨b4, 0, none⟩)]) [_] rfl rfl rfl rfl rfl (by kernel_rfl) ?_
      refine RW.v ?_
      refine RW.nil ?_
      refine ⟨by kernel_rfl, by kernel_rfl, ?_⟩
      refine W.rg [(0, .pointer (some ⟨h, 0, none⟩)), (3, .pointer (some ⟨Lp, 0, none⟩)), (5, .pointer (some ⟨b1, 0, none⟩)), (6, .pointer (some ⟨b2, 0, none⟩)), (8, .pointer (some ⟨b3, 0, none⟩)), (9, .pointer (some ⟨b4, 0, none⟩))] fun TA => ?_
      refine W.seq (W.region ?_)
      refine RW.v ?_
      refine RW.ld H 3 2 ?_
      refine RW.ld H 2 2 ?_
      refine RW.v ?_
      refine RW.cl ?_
      refine WC.enter (fn := Tryd.f73) Tryd.func73 rfl ?_
      refine W.rg [(0, .pointer (some ⟨h, 0, none⟩)), (1, .agg #[.int .i64 a.1, .int .i64 a.2]), (2, .agg #[.int .i64 b.1, .int .i64 b.2]), (3, .int .i64 0), (4, .pointer (some ⟨Lp, 0, none⟩))] fun TA => ?_
      refine W.seq (W.region ?_)
      refine RW.mk H (.row ⟨[.int .i64 a.1, .int .i64 a.2], 28, false⟩) ?_
      clear H; intro _ b6 _ H
      refine RW.mk H (.row ⟨[.int .i64 b.1, .int .i64 b.2], 28, false⟩) ?_
      clear H; intro _ b7 _ H
      refine RW.v ?_
      refine RW.nil ?_
      refine W.rg [(0, .pointer (some ⟨h, 0, none⟩)), (3, .int .i64 0), (4, .pointer (some ⟨Lp, 0, none⟩)), (6, .pointer (some ⟨b6, 0, none⟩)), (7, .pointer (some ⟨b7, 0, none⟩))] fun TA => ?_
      refine W.seq ?_
      refine W.seq (W.region ?_)
      iterate 2 refine RW.v ?_
      refine RW.nil ?_
      refine W.rg [(0, .pointer (some ⟨h, 0, none⟩)), (3, .int .i64 0), (4, .pointer (some ⟨Lp, 0, none⟩)), (6, .pointer (some ⟨b6, 0, none⟩)), (7, .pointer (some ⟨b7, 0, none⟩)), (17, .bool false)] fun TA => ?_
      refine W.c0 ?_
      refine W.skip ?_
      refine W.seq (W.region ?_)
      refine RW.v ?_
      refine RW.nil ?_
      refine W.rg [(0, .pointer (some ⟨h, 0, none⟩)), (3, .int .i64 0), (4, .pointer (some ⟨Lp, 0, none⟩)), (6, .pointer (some ⟨b6, 0, none⟩)), (7, .pointer (some ⟨b7, 0, none⟩)), (11, .int .i64 0)] fun TA => ?_
      refine W.block ?_
      refine W.unroll (WL.once ?_)
      refine W.seq ?_
      refine W.block ?_
      refine W.seq ?_
      refine W.block ?_
      refine W.seq (W.region ?_)
      iterate 2 refine RW.v ?_
      refine RW.ld H 6 1 ?_
      iterate 2 refine RW.v ?_
      refine RW.nil ?_
      refine W.rg [(0, .pointer (some ⟨h, 0, none⟩)), (3, .int .i64 0), (4, .pointer (some ⟨Lp, 0, none⟩)), (6, .pointer (some ⟨b6, 0, none⟩)), (7, .pointer (some ⟨b7, 0, none⟩)), (11, .int .i64 0), (22, .bool false)] fun TA => ?_
      refine W.c0 ?_
      refine W.seq (W.region ?_)
      iterate 3 refine RW.v ?_
      refine RW.nil ?_
      refine W.rg [(0, .pointer (some ⟨h, 0, none⟩)), (3, .int .i64 0), (4, .pointer (some ⟨Lp, 0, none⟩)), (6, .pointer (some ⟨b6, 0, none⟩)), (7, .pointer (some ⟨b7, 0, none⟩)), (11, .int .i64 0), (29, .bool false)] fun TA => ?_
      refine W.c0 ?_
      refine W.skip ?_
      refine blkQ_normal ?_
      refine W.seq (W.region ?_)
      iterate 2 refine RW.v ?_
      refine RW.ld H 6 1 ?_
      iterate 2 refine RW.v ?_
      refine RW.st H 6 [.int .i64 199999] [.int .i64 199999] ?_
      clear H; intro _ _ H; dsimp only [setL, delL] at H
      refine RW.nil ?_
      refine W.rg [(0, .pointer (some ⟨h, 0, none⟩)), (3, .int .i64 0), (4, .pointer (some ⟨Lp, 0, none⟩)), (6, .pointer (some ⟨b6, 0, none⟩)), (7, .pointer (some ⟨b7, 0, none⟩)), (11, .int .i64 0)] fun TA => ?_
      refine W.seq ?_
      refine W.block ?_
      refine W.seq (W.region ?_)
      refine RW.ld H 1 2 ?_
      refine RW.ld H 0 2 ?_
      refine RW.vop (v := .bool (a.1 == b.1 && a.2 == b.2)) (by kernel_rfl) (by kernel_rfl) (vop_eqS (b := (a.1 == b.1 && a.2 == b.2)) (r := (a.1 == b.1 && a.2 == b.2)) rfl (.inl ⟨rfl, rfl⟩) rfl rfl rfl rfl (by kernel_rfl) (fun w => eqWd _ _ _ _ w)) (by kernel_rfl) ?_
      refine RW.v ?_
      refine RW.nil ?_
      refine W.rg [(0, .pointer (some ⟨h, 0, none⟩)), (3, .int .i64 0), (4, .pointer (some ⟨Lp, 0, none⟩)), (6, .pointer (some ⟨b6, 0, none⟩)), (7, .pointer (some ⟨b7, 0, none⟩)), (11, .int .i64 0), (39, .bool (a.1 == b.1 && a.2 == b.2))] fun TA => ?_
      refine W.cond rfl (fun hc8 => ?_) (fun hc8 => ?_)
      · have hc8b := hc8
        have hk : keyW m a = keyW m b := by rw [wd_eq hc8]
        refine W.seq (W.region ?_)
        refine RW.v ?_
        refine RW.nil ?_
        replace H := ((H.del 1).del 0)
        dsimp only [setL, delL] at H
        refine W.rg [(10, .bool true)] fun TA => ?_
        refine W.ret ?_
        refine blkQ_ret ?_
        refine seqQ_ret ?_
        refine blkQ_ret ?_
        refine seqQ_ret ?_
        refine onceQ_ret ?_
        refine blkQ_ret ?_
        refine endG (by rfl) (by exact resL_tmp rfl) ?_
        refine RW.st H 1 [.bool true] [.bool true] ?_
        clear H; intro _ _ H; dsimp only [setL, delL] at H
        refine RW.st H 0 [.int .i64 0] [.int .i64 0] ?_
        clear H; intro _ _ H; dsimp only [setL, delL] at H
        refine RW.nil ?_
        replace H := ((H.del 3).del 2)
        dsimp only [setL, delL] at H
        refine W.rg [(8, .pointer (some ⟨b3, 0, none⟩)), (9, .pointer (some ⟨b4, 0, none⟩))] fun TA => ?_
        refine W.ret ?_
        obtain ⟨σ8, hd, hσ⟩ := rec_call (G := G66) b3 b4
        obtain rfl := hσ
        exact ⟨rfl, _, Shut.one (by kernel_rfl) hd (.nil _), _, resL_cell rfl (H.get 1 rfl) (by rw [uT_eq]; exact Tryd.underlying4) (by kernel_rfl) rfl rfl (by exact resL_cell rfl (H.get 0 rfl) (by rw [uT_eq]; exact Tryd.underlying33) (by kernel_rfl) rfl rfl rfl), (by exact dec_yes hk), _, ((H.del 1).del 0)⟩
      · have hc8b := hc8
        have hk : keyW m a ≠ keyW m b := by rw [keyW_atom ha, keyW_atom hb]; exact wd_ne hc8
        refine W.seq (W.region ?_)
        refine RW.v ?_
        refine RW.ld H 1 2 ?_
        refine RW.cl ?_
        refine WC.enter (fn := Tryd.f54) Tryd.func54 rfl ?_
        refine W.rg [(0, .pointer (some ⟨h, 0, none⟩)), (1, .agg #[.int .i64 a.1, .int .i64 a.2])] fun TA => ?_
        refine W.seq (W.region ?_)
        refine RW.mk H (.row ⟨[.int .i64 a.1, .int .i64 a.2], 28, false⟩) ?_
        clear H; intro _ b9 _ H
        refine RW.v ?_
        refine RW.nil ?_
        refine W.rg [(0, .pointer (some ⟨h, 0, none⟩)), (3, .pointer (some ⟨b9, 0, none⟩))] fun TA => ?_
        refine W.seq (W.region ?_)
        refine RW.v ?_
        refine RW.ld H 0 1 ?_
        refine RW.valE (v' := .bool false) (by kernel_rfl) (by kernel_rfl) rfl (congrArg Value.bool (beq_eq_false_iff_ne.2 (by omega))) (by kernel_rfl) ?_
        refine RW.v ?_
        refine RW.skip (by rfl) (by kernel_rfl) ?_
        refine RW.skip (by rfl) (by kernel_rfl) ?_
        refine RW.skip (by rfl) (by kernel_rfl) ?_
        iterate 2 refine RW.v ?_
        refine RW.nil ?_
        replace H := (H.del 0)
        dsimp only [setL, delL] at H
        refine W.rg [(4, .bool false)] fun TA => ?_
        refine W.ret ?_
        refine endG (by rfl) (by exact resL_tmp rfl) ?_
        iterate 2 refine RW.v ?_
        refine RW.skip (by rfl) (by kernel_rfl) ?_
        refine RW.skip (by rfl) (by kernel_rfl) ?_
        refine RW.skip (by rfl) (by kernel_rfl) ?_
        refine RW.skip (by rfl) (by kernel_rfl) ?_
        iterate 2 refine RW.v ?_
        refine RW.nil ?_
        refine W.rg [(0, .pointer (some ⟨h, 0, none⟩)), (3, .int .i64 0), (4, .pointer (some ⟨Lp, 0, none⟩)), (6, .pointer (some ⟨b6, 0, none⟩)), (7, .pointer (some ⟨b7, 0, none⟩)), (11, .int .i64 0), (43, .bool true)] fun TA => ?_
        refine W.c1 ?_
        refine W.seq (W.region ?_)
        refine RW.v ?_
        refine RW.ld H 1 2 ?_
        refine RW.ld H 0 2 ?_
        iterate 2 refine RW.v ?_
        refine RW.cl ?_
        refine WC.enter (fn := Tryd.f75) Tryd.func75 rfl ?_
        refine W.rg [(0, .pointer (some ⟨h, 0, none⟩)), (1, .agg #[.int .i64 a.1, .int .i64 a.2]), (2, .agg #[.int .i64 b.1, .int .i64 b.2]), (3, .int .i64 0), (4, .pointer (some ⟨Lp, 0, none⟩))] fun TA => ?_
        refine W.seq (W.region ?_)
        refine RW.mk H (.row ⟨[.int .i64 a.1, .int .i64 a.2], 28, false⟩) ?_
        clear H; intro _ b10 _ H
        refine RW.mk H (.row ⟨[.int .i64 b.1, .int .i64 b.2], 28, false⟩) ?_
        clear H; intro _ b11 _ H
        refine RW.v ?_
        refine RW.nil ?_
        refine W.rg [(0, .pointer (some ⟨h, 0, none⟩)), (3, .int .i64 0), (4, .pointer (some ⟨Lp, 0, none⟩)), (6, .pointer (some ⟨b10, 0, none⟩)), (7, .pointer (some ⟨b11, 0, none⟩))] fun TA => ?_
        refine W.seq ?_
        refine W.seq (W.region ?_)
        refine RW.v ?_
        refine RW.ld H 1 1 ?_
        refine RW.v ?_
        refine RW.ld H 0 1 ?_
        refine RW.v ?_
        refine RW.nil ?_
        refine W.rg [(0, .pointer (some ⟨h, 0, none⟩)), (3, .int .i64 0), (4, .pointer (some ⟨Lp, 0, none⟩)), (6, .pointer (some ⟨b10, 0, none⟩)), (7, .pointer (some ⟨b11, 0, none⟩)), (22, .bool (a.1 != b.1))] fun TA => ?_
        refine W.cond rfl (fun hc12 => ?_) (fun hc12 => ?_)
        · have hc12b := hc12
          have hc12 := bne_iff_ne.1 hc12
          refine W.seq (W.region ?_)
          refine RW.v ?_
          refine RW.nil ?_
          replace H := ((H.del 1).del 0)
          dsimp only [setL, delL] at H
          refine W.rg [(10, .bool false)] fun TA => ?_
          refine W.ret ?_
          refine seqQ_ret ?_
          refine endG (by rfl) (by exact resL_tmp rfl) ?_
          refine RW.v ?_
          refine RW.nil ?_
          replace H := ((H.del 1).del 0)
          dsimp only [setL, delL] at H
          refine W.rg [(10, .bool false)] fun TA => ?_
          refine W.ret ?_
          refine blkQ_ret ?_
          refine seqQ_ret ?_
          refine blkQ_ret ?_
          refine seqQ_ret ?_
          refine onceQ_ret ?_
          refine blkQ_ret ?_
          refine endG (by rfl) (by exact resL_tmp rfl) ?_
          refine RW.st H 1 [.bool false] [.bool false] ?_
          clear H; intro _ _ H; dsimp only [setL, delL] at H
          refine RW.st H 0 [.int .i64 0] [.int .i64 0] ?_
          clear H; intro _ _ H; dsimp only [setL, delL] at H
          refine RW.nil ?_
          replace H := ((H.del 3).del 2)
          dsimp only [setL, delL] at H
          refine W.rg [(8, .pointer (some ⟨b3, 0, none⟩)), (9, .pointer (some ⟨b4, 0, none⟩))] fun TA => ?_
          refine W.ret ?_
          obtain ⟨σ8, hd, hσ⟩ := rec_call (G := G66) b3 b4
          obtain rfl := hσ
          exact ⟨rfl, _, Shut.one (by kernel_rfl) hd (.nil _), _, resL_cell rfl (H.get 1 rfl) (by rw [uT_eq]; exact Tryd.underlying4) (by kernel_rfl) rfl rfl (by exact resL_cell rfl (H.get 0 rfl) (by rw [uT_eq]; exact Tryd.underlying33) (by kernel_rfl) rfl rfl rfl), (by exact dec_no hk), _, ((H.del 1).del 0)⟩
        · have hc12b := hc12
          have hc12 := (bne_eq_false_iff_eq.1) hc12
          refine W.skip ?_
          refine W.seq (W.region ?_)
          refine RW.v ?_
          refine RW.ld H 1 2 ?_
          refine RW.call (by kernel_rfl) (by kernel_rfl) rfl rfl rfl (by kernel_rfl) (by kernel_rfl) ⟨_, _, (s_textNo ((a.1, a.2) : Wd) ha H.abs), ?_⟩
          iterate 5 refine RW.v ?_
          refine RW.nil ?_
          refine W.rg [(0, .pointer (some ⟨h, 0, none⟩)), (3, .int .i64 0), (4, .pointer (some ⟨Lp, 0, none⟩)), (6, .pointer (some ⟨b10, 0, none⟩)), (7, .pointer (some ⟨b11, 0, none⟩)), (11, .string ByteArray.empty), (12, .int .i64 6)] fun TA => ?_
          refine W.seq (W.region ?_)
          refine RW.v ?_
          refine RW.ld H 0 2 ?_
          refine RW.call (by kernel_rfl) (by kernel_rfl) rfl rfl rfl (by kernel_rfl) (by kernel_rfl) ⟨_, _, (s_textNo ((b.1, b.2) : Wd) hb H.abs), ?_⟩
          iterate 5 refine RW.v ?_
          refine RW.nil ?_
          refine W.rg [(0, .pointer (some ⟨h, 0, none⟩)), (3, .int .i64 0), (4, .pointer (some ⟨Lp, 0, none⟩)), (6, .pointer (some ⟨b10, 0, none⟩)), (7, .pointer (some ⟨b11, 0, none⟩)), (11, .string ByteArray.empty), (12, .int .i64 6), (13, .string ByteArray.empty), (14, .int .i64 6)] fun TA => ?_
          refine W.seq ?_
          refine W.seq (W.region ?_)
          iterate 3 refine RW.v ?_
          refine RW.skip (by rfl) (by kernel_rfl) ?_
          refine RW.skip (by rfl) (by kernel_rfl) ?_
          refine RW.v ?_
          refine RW.nil ?_
          refine W.rg [(0, .pointer (some ⟨h, 0, none⟩)), (3, .int .i64 0), (4, .pointer (some ⟨Lp, 0, none⟩)), (6, .pointer (some ⟨b10, 0, none⟩)), (7, .pointer (some ⟨b11, 0, none⟩)), (11, .string ByteArray.empty), (13, .string ByteArray.empty), (40, .bool false)] fun TA => ?_
          refine W.c0 ?_
          refine W.skip ?_
          refine W.seq (W.region ?_)
          refine RW.v ?_
          refine RW.ld H 1 2 ?_
          refine RW.call (by kernel_rfl) (by kernel_rfl) rfl rfl rfl (by kernel_rfl) (by kernel_rfl) ⟨_, _, (s_vecNo ((a.1, a.2) : Wd) ha H.abs), ?_⟩
          iterate 5 refine RW.v ?_
          refine RW.nil ?_
          replace H := (H.del 1)
          dsimp only [setL, delL] at H
          refine W.rg [(0, .pointer (some ⟨h, 0, none⟩)), (3, .int .i64 0), (4, .pointer (some ⟨Lp, 0, none⟩)), (7, .pointer (some ⟨b11, 0, none⟩)), (12, .int .i64 6), (15, .slice none 0 0)] fun TA => ?_
          refine W.seq (W.region ?_)
          refine RW.v ?_
          refine RW.ld H 0 2 ?_
          refine RW.call (by kernel_rfl) (by kernel_rfl) rfl rfl rfl (by kernel_rfl) (by kernel_rfl) ⟨_, _, (s_vecNo ((b.1, b.2) : Wd) hb H.abs), ?_⟩
          iterate 5 refine RW.v ?_
          refine RW.nil ?_
          replace H := (H.del 0)
          dsimp only [setL, delL] at H
          refine W.rg [(0, .pointer (some ⟨h, 0, none⟩)), (3, .int .i64 0), (4, .pointer (some ⟨Lp, 0, none⟩)), (12, .int .i64 6), (14, .int .i64 6), (15, .slice none 0 0), (16, .slice none 0 0)] fun TA => ?_
          refine W.seq ?_
          refine W.seq (W.region ?_)
          iterate 3 refine RW.v ?_
          refine RW.skip (by rfl) (by kernel_rfl) ?_
          refine RW.skip (by rfl) (by kernel_rfl) ?_
          iterate 2 refine RW.v ?_
          refine RW.skip (by rfl) (by kernel_rfl) ?_
          refine RW.skip (by rfl) (by kernel_rfl) ?_
          refine RW.skip (by rfl) (by kernel_rfl) ?_
          refine RW.skip (by rfl) (by kernel_rfl) ?_
          refine RW.skip (by rfl) (by kernel_rfl) ?_
          refine RW.v ?_
          refine RW.nil ?_
          refine W.rg [(0, .pointer (some ⟨h, 0, none⟩)), (3, .int .i64 0), (4, .pointer (some ⟨Lp, 0, none⟩)), (15, .slice none 0 0), (16, .slice none 0 0), (68, .bool true)] fun TA => ?_
          refine W.c1 ?_
          refine W.seq (W.region ?_)
          refine RW.v ?_
          refine RW.nil ?_
          refine W.rg [(10, .bool false)] fun TA => ?_
          refine W.ret ?_
          refine seqQ_ret ?_
          refine endG (by rfl) (by exact resL_tmp rfl) ?_
          refine RW.v ?_
          refine RW.nil ?_
          replace H := ((H.del 1).del 0)
          dsimp only [setL, delL] at H
          refine W.rg [(10, .bool false)] fun TA => ?_
          refine W.ret ?_
          refine blkQ_ret ?_
          refine seqQ_ret ?_
          refine blkQ_ret ?_
          refine seqQ_ret ?_
          refine onceQ_ret ?_
          refine blkQ_ret ?_
          refine endG (by rfl) (by exact resL_tmp rfl) ?_
          refine RW.st H 1 [.bool false] [.bool false] ?_
          clear H; intro _ _ H; dsimp only [setL, delL] at H
          refine RW.st H 0 [.int .i64 0] [.int .i64 0] ?_
          clear H; intro _ _ H; dsimp only [setL, delL] at H
          refine RW.nil ?_
          replace H := ((H.del 3).del 2)
          dsimp only [setL, delL] at H
          refine W.rg [(8, .pointer (some ⟨b3, 0, none⟩)), (9, .pointer (some ⟨b4, 0, none⟩))] fun TA => ?_
          refine W.ret ?_
          obtain ⟨σ8, hd, hσ⟩ := rec_call (G := G66) b3 b4
          obtain rfl := hσ
          exact ⟨rfl, _, Shut.one (by kernel_rfl) hd (.nil _), _, resL_cell rfl (H.get 1 rfl) (by rw [uT_eq]; exact Tryd.underlying4) (by kernel_rfl) rfl rfl (by exact resL_cell rfl (H.get 0 rfl) (by rw [uT_eq]; exact Tryd.underlying33) (by kernel_rfl) rfl rfl rfl), (by exact dec_no hk), _, ((H.del 1).del 0)⟩
    | @lam i' j' k' h1' h2' =>
      refine WC.enterD (fn := Tryd.f66) Tryd.func66 rfl ?_
      refine W.rg [(0, .pointer (some ⟨h, 0, none⟩)), (1, .agg #[.int .i64 a.1, .int .i64 a.2]), (2, .agg #[.int .i64 2, .int .i64 i']), (3, .pointer (some ⟨Lp, 0, none⟩))] fun TA => ?_
      have hk : keyW m a ≠ keyW m (2, i') := by rw [keyW_atom ha, keyW_lam h1' h2']; exact fun e => by rw [e] at ha; rcases ha with h | h <;> cases h
      refine W.seq (W.region ?_)
      refine RW.mk H (.row ⟨[.int .i64 a.1, .int .i64 a.2], 28, false⟩) ?_
      clear H; intro _ b1 _ H
      refine RW.mk H (.row ⟨[.int .i64 2, .int .i64 i'], 28, false⟩) ?_
      clear H; intro _ b2 _ H
      refine RW.mk H (.row ⟨[.bool false], 4, false⟩) ?_
      clear H; intro _ b3 _ H
      refine RW.mk H (.row ⟨[.int .i64 0], 33, false⟩) ?_
      clear H; intro _ b4 _ H
      refine RW.nil ?_
      refine W.rg [(0, .pointer (some ⟨h, 0, none⟩)), (3, .pointer (some ⟨Lp, 0, none⟩)), (5, .pointer (some ⟨b1, 0, none⟩)), (6, .pointer (some ⟨b2, 0, none⟩)), (8, .pointer (some ⟨b3, 0, none⟩)), (9, .pointer (some ⟨b4, 0, none⟩))] fun TA => ?_
      refine W.seq ?_
      refine W.seq (W.region ?_)
      refine RW.v ?_
      refine RW.call (by kernel_rfl) (by kernel_rfl) rfl rfl rfl (by kernel_rfl) (by kernel_rfl) ((made_wc (G := G66) (h := h) H.abs hlim).mono ?_)
      rintro _ σ5 ⟨rfl, hσ⟩
      obtain rfl := hσ.symm
      refine RW.v ?_
      refine RW.nil ?_
      refine W.rg [(0, .pointer (some ⟨h, 0, none⟩)), (3, .pointer (some ⟨Lp, 0, none⟩)), (5, .pointer (some ⟨b1, 0, none⟩)), (6, .pointer (some ⟨b2, 0, none⟩)), (8, .pointer (some ⟨b3, 0, none⟩)), (9, .pointer (some ⟨b4, 0, none⟩)), (12, .bool false)] fun TA => ?_
      refine W.c0 ?_
      refine W.skip ?_
      refine W.seq ?_
      refine W.deferred (f := 72) (fa := #[]) (as_ := #[]) (ca := #[.pointer (some ⟨b3, 0, none⟩), .pointer (some ⟨b4, 0, none⟩)]) [_] rfl rfl rfl rfl rfl (by kernel_rfl) ?_
      refine RW.v ?_
      refine RW.nil ?_
      refine ⟨by kernel_rfl, by kernel_rfl, ?_⟩
      refine W.rg [(0, .pointer (some ⟨h, 0, none⟩)), (3, .pointer (some ⟨Lp, 0, none⟩)), (5, .pointer (some ⟨b1, 0, none⟩)), (6, .pointer (some ⟨b2, 0, none⟩)), (8, .pointer (some ⟨b3, 0, none⟩)), (9, .pointer (some ⟨b4, 0, none⟩))] fun TA => ?_
      refine W.seq (W.region ?_)
      refine RW.v ?_
      refine RW.ld H 3 2 ?_
      refine RW.ld H 2 2 ?_
      refine RW.v ?_
      refine RW.cl ?_
      refine WC.enter (fn := Tryd.f73) Tryd.func73 rfl ?_
      refine W.rg [(0, .pointer (some ⟨h, 0, none⟩)), (1, .agg #[.int .i64 a.1, .int .i64 a.2]), (2, .agg #[.int .i64 2, .int .i64 i']), (3, .int .i64 0), (4, .pointer (some ⟨Lp, 0, none⟩))] fun TA => ?_
      refine W.seq (W.region ?_)
      refine RW.mk H (.row ⟨[.int .i64 a.1, .int .i64 a.2], 28, false⟩) ?_
      clear H; intro _ b6 _ H
      refine RW.mk H (.row ⟨[.int .i64 2, .int .i64 i'], 28, false⟩) ?_
      clear H; intro _ b7 _ H
      refine RW.v ?_
      refine RW.nil ?_
      refine W.rg [(0, .pointer (some ⟨h, 0, none⟩)), (3, .int .i64 0), (4, .pointer (some ⟨Lp, 0, none⟩)), (6, .pointer (some ⟨b6, 0, none⟩)), (7, .pointer (some ⟨b7, 0, none⟩))] fun TA => ?_
      refine W.seq ?_
      refine W.seq (W.region ?_)
      iterate 2 refine RW.v ?_
      refine RW.nil ?_
      refine W.rg [(0, .pointer (some ⟨h, 0, none⟩)), (3, .int .i64 0), (4, .pointer (some ⟨Lp, 0, none⟩)), (6, .pointer (some ⟨b6, 0, none⟩)), (7, .pointer (some ⟨b7, 0, none⟩)), (17, .bool false)] fun TA => ?_
      refine W.c0 ?_
      refine W.skip ?_
      refine W.seq (W.region ?_)
      refine RW.v ?_
      refine RW.nil ?_
      refine W.rg [(0, .pointer (some ⟨h, 0, none⟩)), (3, .int .i64 0), (4, .pointer (some ⟨Lp, 0, none⟩)), (6, .pointer (some ⟨b6, 0, none⟩)), (7, .pointer (some ⟨b7, 0, none⟩)), (11, .int .i64 0)] fun TA => ?_
      refine W.block ?_
      refine W.unroll (WL.once ?_)
      refine W.seq ?_
      refine W.block ?_
      refine W.seq ?_
      refine W.block ?_
      refine W.seq (W.region ?_)
      iterate 2 refine RW.v ?_
      refine RW.ld H 6 1 ?_
      iterate 2 refine RW.v ?_
      refine RW.nil ?_
      refine W.rg [(0, .pointer (some ⟨h, 0, none⟩)), (3, .int .i64 0), (4, .pointer (some ⟨Lp, 0, none⟩)), (6, .pointer (some ⟨b6, 0, none⟩)), (7, .pointer (some ⟨b7, 0, none⟩)), (11, .int .i64 0), (22, .bool false)] fun TA => ?_
      refine W.c0 ?_
      refine W.seq (W.region ?_)
      iterate 3 refine RW.v ?_
      refine RW.nil ?_
      refine W.rg [(0, .pointer (some ⟨h, 0, none⟩)), (3, .int .i64 0), (4, .pointer (some ⟨Lp, 0, none⟩)), (6, .pointer (some ⟨b6, 0, none⟩)), (7, .pointer (some ⟨b7, 0, none⟩)), (11, .int .i64 0), (29, .bool false)] fun TA => ?_
      refine W.c0 ?_
      refine W.skip ?_
      refine blkQ_normal ?_
      refine W.seq (W.region ?_)
      iterate 2 refine RW.v ?_
      refine RW.ld H 6 1 ?_
      iterate 2 refine RW.v ?_
      refine RW.st H 6 [.int .i64 199999] [.int .i64 199999] ?_
      clear H; intro _ _ H; dsimp only [setL, delL] at H
      refine RW.nil ?_
      refine W.rg [(0, .pointer (some ⟨h, 0, none⟩)), (3, .int .i64 0), (4, .pointer (some ⟨Lp, 0, none⟩)), (6, .pointer (some ⟨b6, 0, none⟩)), (7, .pointer (some ⟨b7, 0, none⟩)), (11, .int .i64 0)] fun TA => ?_
      refine W.seq ?_
      refine W.block ?_
      refine W.seq (W.region ?_)
      refine RW.ld H 1 2 ?_
      refine RW.ld H 0 2 ?_
      refine RW.vop (v := .bool false) (by kernel_rfl) (by kernel_rfl) (vop_eqS (b := false) (r := false) rfl (.inl ⟨rfl, rfl⟩) rfl rfl rfl rfl (by kernel_rfl) (fun w => (eqWd _ _ _ _ w).trans (by (first | refine congrArg (Result.ok · w) ?_ | skip); rw [Bool.and_eq_false_iff]; left; rw [beq_eq_false_iff_ne]; omega))) (by kernel_rfl) ?_
      refine RW.v ?_
      refine RW.nil ?_
      refine W.rg [(0, .pointer (some ⟨h, 0, none⟩)), (3, .int .i64 0), (4, .pointer (some ⟨Lp, 0, none⟩)), (6, .pointer (some ⟨b6, 0, none⟩)), (7, .pointer (some ⟨b7, 0, none⟩)), (11, .int .i64 0), (39, .bool false)] fun TA => ?_
      refine W.c0 ?_
      refine W.seq (W.region ?_)
      refine RW.v ?_
      refine RW.ld H 1 2 ?_
      refine RW.cl ?_
      refine WC.enter (fn := Tryd.f54) Tryd.func54 rfl ?_
      refine W.rg [(0, .pointer (some ⟨h, 0, none⟩)), (1, .agg #[.int .i64 a.1, .int .i64 a.2])] fun TA => ?_
      refine W.seq (W.region ?_)
      refine RW.mk H (.row ⟨[.int .i64 a.1, .int .i64 a.2], 28, false⟩) ?_
      clear H; intro _ b8 _ H
      refine RW.v ?_
      refine RW.nil ?_
      refine W.rg [(0, .pointer (some ⟨h, 0, none⟩)), (3, .pointer (some ⟨b8, 0, none⟩))] fun TA => ?_
      refine W.seq (W.region ?_)
      refine RW.v ?_
      refine RW.ld H 0 1 ?_
      refine RW.valE (v' := .bool false) (by kernel_rfl) (by kernel_rfl) rfl (congrArg Value.bool (beq_eq_false_iff_ne.2 (by omega))) (by kernel_rfl) ?_
      refine RW.v ?_
      refine RW.skip (by rfl) (by kernel_rfl) ?_
      refine RW.skip (by rfl) (by kernel_rfl) ?_
      refine RW.skip (by rfl) (by kernel_rfl) ?_
      iterate 2 refine RW.v ?_
      refine RW.nil ?_
      replace H := (H.del 0)
      dsimp only [setL, delL] at H
      refine W.rg [(4, .bool false)] fun TA => ?_
      refine W.ret ?_
      refine endG (by rfl) (by exact resL_tmp rfl) ?_
      iterate 2 refine RW.v ?_
      refine RW.skip (by rfl) (by kernel_rfl) ?_
      refine RW.skip (by rfl) (by kernel_rfl) ?_
      refine RW.skip (by rfl) (by kernel_rfl) ?_
      refine RW.skip (by rfl) (by kernel_rfl) ?_
      iterate 2 refine RW.v ?_
      refine RW.nil ?_
      refine W.rg [(0, .pointer (some ⟨h, 0, none⟩)), (3, .int .i64 0), (4, .pointer (some ⟨Lp, 0, none⟩)), (6, .pointer (some ⟨b6, 0, none⟩)), (7, .pointer (some ⟨b7, 0, none⟩)), (11, .int .i64 0), (43, .bool true)] fun TA => ?_
      refine W.c1 ?_
      refine W.seq (W.region ?_)
      refine RW.v ?_
      refine RW.ld H 1 2 ?_
      refine RW.ld H 0 2 ?_
      iterate 2 refine RW.v ?_
      refine RW.cl ?_
      refine WC.enter (fn := Tryd.f75) Tryd.func75 rfl ?_
      refine W.rg [(0, .pointer (some ⟨h, 0, none⟩)), (1, .agg #[.int .i64 a.1, .int .i64 a.2]), (2, .agg #[.int .i64 2, .int .i64 i']), (3, .int .i64 0), (4, .pointer (some ⟨Lp, 0, none⟩))] fun TA => ?_
      refine W.seq (W.region ?_)
      refine RW.mk H (.row ⟨[.int .i64 a.1, .int .i64 a.2], 28, false⟩) ?_
      clear H; intro _ b9 _ H
      refine RW.mk H (.row ⟨[.int .i64 2, .int .i64 i'], 28, false⟩) ?_
      clear H; intro _ b10 _ H
      refine RW.v ?_
      refine RW.nil ?_
      refine W.rg [(0, .pointer (some ⟨h, 0, none⟩)), (3, .int .i64 0), (4, .pointer (some ⟨Lp, 0, none⟩)), (6, .pointer (some ⟨b9, 0, none⟩)), (7, .pointer (some ⟨b10, 0, none⟩))] fun TA => ?_
      refine W.seq ?_
      refine W.seq (W.region ?_)
      refine RW.v ?_
      refine RW.ld H 1 1 ?_
      refine RW.v ?_
      refine RW.ld H 0 1 ?_
      refine RW.valE (v' := .bool true) (by kernel_rfl) (by kernel_rfl) rfl (congrArg Value.bool (bne_iff_ne.2 (by omega))) (by kernel_rfl) ?_
      refine RW.nil ?_
      refine W.rg [(0, .pointer (some ⟨h, 0, none⟩)), (3, .int .i64 0), (4, .pointer (some ⟨Lp, 0, none⟩)), (6, .pointer (some ⟨b9, 0, none⟩)), (7, .pointer (some ⟨b10, 0, none⟩)), (22, .bool true)] fun TA => ?_
      refine W.c1 ?_
      refine W.seq (W.region ?_)
      refine RW.v ?_
      refine RW.nil ?_
      replace H := ((H.del 1).del 0)
      dsimp only [setL, delL] at H
      refine W.rg [(10, .bool false)] fun TA => ?_
      refine W.ret ?_
      refine seqQ_ret ?_
      refine endG (by rfl) (by exact resL_tmp rfl) ?_
      refine RW.v ?_
      refine RW.nil ?_
      replace H := ((H.del 1).del 0)
      dsimp only [setL, delL] at H
      refine W.rg [(10, .bool false)] fun TA => ?_
      refine W.ret ?_
      refine blkQ_ret ?_
      refine seqQ_ret ?_
      refine blkQ_ret ?_
      refine seqQ_ret ?_
      refine onceQ_ret ?_
      refine blkQ_ret ?_
      refine endG (by rfl) (by exact resL_tmp rfl) ?_
      refine RW.st H 1 [.bool false] [.bool false] ?_
      clear H; intro _ _ H; dsimp only [setL, delL] at H
      refine RW.st H 0 [.int .i64 0] [.int .i64 0] ?_
      clear H; intro _ _ H; dsimp only [setL, delL] at H
      refine RW.nil ?_
      replace H := ((H.del 3).del 2)
      dsimp only [setL, delL] at H
      refine W.rg [(8, .pointer (some ⟨b3, 0, none⟩)), (9, .pointer (some ⟨b4, 0, none⟩))] fun TA => ?_
      refine W.ret ?_
      obtain ⟨σ8, hd, hσ⟩ := rec_call (G := G66) b3 b4
      obtain rfl := hσ
      exact ⟨rfl, _, Shut.one (by kernel_rfl) hd (.nil _), _, resL_cell rfl (H.get 1 rfl) (by rw [uT_eq]; exact Tryd.underlying4) (by kernel_rfl) rfl rfl (by exact resL_cell rfl (H.get 0 rfl) (by rw [uT_eq]; exact Tryd.underlying33) (by kernel_rfl) rfl rfl rfl), (by exact dec_no hk), _, ((H.del 1).del 0)⟩
  | @lam i j k h1 h2 =>
    cases gb with
    | atom hb =>
      refine WC.enterD (fn := Tryd.f66) Tryd.func66 rfl ?_
      refine W.rg [(0, .pointer (some ⟨h, 0, none⟩)), (1, .agg #[.int .i64 2, .int .i64 i]), (2, .agg #[.int .i64 b.1, .int .i64 b.2]), (3, .pointer (some ⟨Lp, 0, none⟩))] fun TA => ?_
      have hk : keyW m (2, i) ≠ keyW m b := by rw [keyW_atom hb, keyW_lam h1 h2]; exact fun e => by rw [← e] at hb; rcases hb with h | h <;> cases h
      refine W.seq (W.region ?_)
      refine RW.mk H (.row ⟨[.int .i64 2, .int .i64 i], 28, false⟩) ?_
      clear H; intro _ b1 _ H
      refine RW.mk H (.row ⟨[.int .i64 b.1, .int .i64 b.2], 28, false⟩) ?_
      clear H; intro _ b2 _ H
      refine RW.mk H (.row ⟨[.bool false], 4, false⟩) ?_
      clear H; intro _ b3 _ H
      refine RW.mk H (.row ⟨[.int .i64 0], 33, false⟩) ?_
      clear H; intro _ b4 _ H
      refine RW.nil ?_
      refine W.rg [(0, .pointer (some ⟨h, 0, none⟩)), (3, .pointer (some ⟨Lp, 0, none⟩)), (5, .pointer (some ⟨b1, 0, none⟩)), (6, .pointer (some ⟨b2, 0, none⟩)), (8, .pointer (some ⟨b3, 0, none⟩)), (9, .pointer (some ⟨b4, 0, none⟩))] fun TA => ?_
      refine W.seq ?_
      refine W.seq (W.region ?_)
      refine RW.v ?_
      refine RW.call (by kernel_rfl) (by kernel_rfl) rfl rfl rfl (by kernel_rfl) (by kernel_rfl) ((made_wc (G := G66) (h := h) H.abs hlim).mono ?_)
      rintro _ σ5 ⟨rfl, hσ⟩
      obtain rfl := hσ.symm
      refine RW.v ?_
      refine RW.nil ?_
      refine W.rg [(0, .pointer (some ⟨h, 0, none⟩)), (3, .pointer (some ⟨Lp, 0, none⟩)), (5, .pointer (some ⟨b1, 0, none⟩)), (6, .pointer (some ⟨b2, 0, none⟩)), (8, .pointer (some ⟨b3, 0, none⟩)), (9, .pointer (some ⟨b4, 0, none⟩)), (12, .bool false)] fun TA => ?_
      refine W.c0 ?_
      refine W.skip ?_
      refine W.seq ?_
      refine W.deferred (f := 72) (fa := #[]) (as_ := #[]) (ca := #[.pointer (some ⟨b3, 0, none⟩), .pointer (some ⟨b4, 0, none⟩)]) [_] rfl rfl rfl rfl rfl (by kernel_rfl) ?_
      refine RW.v ?_
      refine RW.nil ?_
      refine ⟨by kernel_rfl, by kernel_rfl, ?_⟩
      refine W.rg [(0, .pointer (some ⟨h, 0, none⟩)), (3, .pointer (some ⟨Lp, 0, none⟩)), (5, .pointer (some ⟨b1, 0, none⟩)), (6, .pointer (some ⟨b2, 0, none⟩)), (8, .pointer (some ⟨b3, 0, none⟩)), (9, .pointer (some ⟨b4, 0, none⟩))] fun TA => ?_
      refine W.seq (W.region ?_)
      refine RW.v ?_
      refine RW.ld H 3 2 ?_
      refine RW.ld H 2 2 ?_
      refine RW.v ?_
      refine RW.cl ?_
      refine WC.enter (fn := Tryd.f73) Tryd.func73 rfl ?_
      refine W.rg [(0, .pointer (some ⟨h, 0, none⟩)), (1, .agg #[.int .i64 2, .int .i64 i]), (2, .agg #[.int .i64 b.1, .int .i64 b.2]), (3, .int .i64 0), (4, .pointer (some ⟨Lp, 0, none⟩))] fun TA => ?_
      refine W.seq (W.region ?_)
      refine RW.mk H (.row ⟨[.int .i64 2, .int .i64 i], 28, false⟩) ?_
      clear H; intro _ b6 _ H
      refine RW.mk H (.row ⟨[.int .i64 b.1, .int .i64 b.2], 28, false⟩) ?_
      clear H; intro _ b7 _ H
      refine RW.v ?_
      refine RW.nil ?_
      refine W.rg [(0, .pointer (some ⟨h, 0, none⟩)), (3, .int .i64 0), (4, .pointer (some ⟨Lp, 0, none⟩)), (6, .pointer (some ⟨b6, 0, none⟩)), (7, .pointer (some ⟨b7, 0, none⟩))] fun TA => ?_
      refine W.seq ?_
      refine W.seq (W.region ?_)
      iterate 2 refine RW.v ?_
      refine RW.nil ?_
      refine W.rg [(0, .pointer (some ⟨h, 0, none⟩)), (3, .int .i64 0), (4, .pointer (some ⟨Lp, 0, none⟩)), (6, .pointer (some ⟨b6, 0, none⟩)), (7, .pointer (some ⟨b7, 0, none⟩)), (17, .bool false)] fun TA => ?_
      refine W.c0 ?_
      refine W.skip ?_
      refine W.seq (W.region ?_)
      refine RW.v ?_
      refine RW.nil ?_
      refine W.rg [(0, .pointer (some ⟨h, 0, none⟩)), (3, .int .i64 0), (4, .pointer (some ⟨Lp, 0, none⟩)), (6, .pointer (some ⟨b6, 0, none⟩)), (7, .pointer (some ⟨b7, 0, none⟩)), (11, .int .i64 0)] fun TA => ?_
      refine W.block ?_
      refine W.unroll (WL.once ?_)
      refine W.seq ?_
      refine W.block ?_
      refine W.seq ?_
      refine W.block ?_
      refine W.seq (W.region ?_)
      iterate 2 refine RW.v ?_
      refine RW.ld H 6 1 ?_
      iterate 2 refine RW.v ?_
      refine RW.nil ?_
      refine W.rg [(0, .pointer (some ⟨h, 0, none⟩)), (3, .int .i64 0), (4, .pointer (some ⟨Lp, 0, none⟩)), (6, .pointer (some ⟨b6, 0, none⟩)), (7, .pointer (some ⟨b7, 0, none⟩)), (11, .int .i64 0), (22, .bool false)] fun TA => ?_
      refine W.c0 ?_
      refine W.seq (W.region ?_)
      iterate 3 refine RW.v ?_
      refine RW.nil ?_
      refine W.rg [(0, .pointer (some ⟨h, 0, none⟩)), (3, .int .i64 0), (4, .pointer (some ⟨Lp, 0, none⟩)), (6, .pointer (some ⟨b6, 0, none⟩)), (7, .pointer (some ⟨b7, 0, none⟩)), (11, .int .i64 0), (29, .bool false)] fun TA => ?_
      refine W.c0 ?_
      refine W.skip ?_
      refine blkQ_normal ?_
      refine W.seq (W.region ?_)
      iterate 2 refine RW.v ?_
      refine RW.ld H 6 1 ?_
      iterate 2 refine RW.v ?_
      refine RW.st H 6 [.int .i64 199999] [.int .i64 199999] ?_
      clear H; intro _ _ H; dsimp only [setL, delL] at H
      refine RW.nil ?_
      refine W.rg [(0, .pointer (some ⟨h, 0, none⟩)), (3, .int .i64 0), (4, .pointer (some ⟨Lp, 0, none⟩)), (6, .pointer (some ⟨b6, 0, none⟩)), (7, .pointer (some ⟨b7, 0, none⟩)), (11, .int .i64 0)] fun TA => ?_
      refine W.seq ?_
      refine W.block ?_
      refine W.seq (W.region ?_)
      refine RW.ld H 1 2 ?_
      refine RW.ld H 0 2 ?_
      refine RW.vop (v := .bool false) (by kernel_rfl) (by kernel_rfl) (vop_eqS (b := false) (r := false) rfl (.inl ⟨rfl, rfl⟩) rfl rfl rfl rfl (by kernel_rfl) (fun w => (eqWd _ _ _ _ w).trans (by (first | refine congrArg (Result.ok · w) ?_ | skip); rw [Bool.and_eq_false_iff]; left; rw [beq_eq_false_iff_ne]; omega))) (by kernel_rfl) ?_
      refine RW.v ?_
      refine RW.nil ?_
      refine W.rg [(0, .pointer (some ⟨h, 0, none⟩)), (3, .int .i64 0), (4, .pointer (some ⟨Lp, 0, none⟩)), (6, .pointer (some ⟨b6, 0, none⟩)), (7, .pointer (some ⟨b7, 0, none⟩)), (11, .int .i64 0), (39, .bool false)] fun TA => ?_
      refine W.c0 ?_
      refine W.seq (W.region ?_)
      refine RW.v ?_
      refine RW.ld H 1 2 ?_
      refine RW.cl ?_
      refine WC.enter (fn := Tryd.f54) Tryd.func54 rfl ?_
      refine W.rg [(0, .pointer (some ⟨h, 0, none⟩)), (1, .agg #[.int .i64 2, .int .i64 i])] fun TA => ?_
      refine W.seq (W.region ?_)
      refine RW.mk H (.row ⟨[.int .i64 2, .int .i64 i], 28, false⟩) ?_
      clear H; intro _ b8 _ H
      refine RW.v ?_
      refine RW.nil ?_
      refine W.rg [(0, .pointer (some ⟨h, 0, none⟩)), (3, .pointer (some ⟨b8, 0, none⟩))] fun TA => ?_
      refine W.seq (W.region ?_)
      refine RW.v ?_
      refine RW.ld H 0 1 ?_
      iterate 2 refine RW.v ?_
      refine RW.val (by rfl) (by kernel_rfl) rfl (by kernel_rfl) ?_
      refine RW.ldL H 0 2 (by rfl) (by kernel_rfl) rfl rfl rfl rfl rfl (by kernel_rfl) ?_
      refine RW.call (by rfl) (by kernel_rfl) rfl rfl rfl (by kernel_rfl) (by kernel_rfl) ⟨_, _, (liveY_call (G := G66) H.abs h1), ?_⟩
      iterate 2 refine RW.v ?_
      refine RW.nil ?_
      replace H := (H.del 0)
      dsimp only [setL, delL] at H
      refine W.rg [(4, .bool true)] fun TA => ?_
      refine W.ret ?_
      refine endG (by rfl) (by exact resL_tmp rfl) ?_
      iterate 2 refine RW.v ?_
      refine RW.val (by rfl) (by kernel_rfl) rfl (by kernel_rfl) ?_
      refine RW.ldL H 0 2 (by rfl) (by kernel_rfl) rfl rfl rfl rfl rfl (by kernel_rfl) ?_
      refine RW.call (by rfl) (by kernel_rfl) rfl rfl rfl (by kernel_rfl) (by kernel_rfl) ?_
      refine WC.enter (fn := Tryd.f54) Tryd.func54 rfl ?_
      refine W.rg [(0, .pointer (some ⟨h, 0, none⟩)), (1, .agg #[.int .i64 b.1, .int .i64 b.2])] fun TA => ?_
      refine W.seq (W.region ?_)
      refine RW.mk H (.row ⟨[.int .i64 b.1, .int .i64 b.2], 28, false⟩) ?_
      clear H; intro _ b9 _ H
      refine RW.v ?_
      refine RW.nil ?_
      refine W.rg [(0, .pointer (some ⟨h, 0, none⟩)), (3, .pointer (some ⟨b9, 0, none⟩))] fun TA => ?_
      refine W.seq (W.region ?_)
      refine RW.v ?_
      refine RW.ld H 0 1 ?_
      refine RW.valE (v' := .bool false) (by kernel_rfl) (by kernel_rfl) rfl (congrArg Value.bool (beq_eq_false_iff_ne.2 (by omega))) (by kernel_rfl) ?_
      refine RW.v ?_
      refine RW.skip (by rfl) (by kernel_rfl) ?_
      refine RW.skip (by rfl) (by kernel_rfl) ?_
      refine RW.skip (by rfl) (by kernel_rfl) ?_
      iterate 2 refine RW.v ?_
      refine RW.nil ?_
      replace H := (H.del 0)
      dsimp only [setL, delL] at H
      refine W.rg [(4, .bool false)] fun TA => ?_
      refine W.ret ?_
      refine endG (by rfl) (by exact resL_tmp rfl) ?_
      refine RW.val (by rfl) (by kernel_rfl) rfl (by kernel_rfl) ?_
      iterate 2 refine RW.v ?_
      refine RW.nil ?_
      refine W.rg [(0, .pointer (some ⟨h, 0, none⟩)), (3, .int .i64 0), (4, .pointer (some ⟨Lp, 0, none⟩)), (6, .pointer (some ⟨b6, 0, none⟩)), (7, .pointer (some ⟨b7, 0, none⟩)), (11, .int .i64 0), (43, .bool true)] fun TA => ?_
      refine W.c1 ?_
      refine W.seq (W.region ?_)
      refine RW.v ?_
      refine RW.ld H 1 2 ?_
      refine RW.ld H 0 2 ?_
      iterate 2 refine RW.v ?_
      refine RW.cl ?_
      refine WC.enter (fn := Tryd.f75) Tryd.func75 rfl ?_
      refine W.rg [(0, .pointer (some ⟨h, 0, none⟩)), (1, .agg #[.int .i64 2, .int .i64 i]), (2, .agg #[.int .i64 b.1, .int .i64 b.2]), (3, .int .i64 0), (4, .pointer (some ⟨Lp, 0, none⟩))] fun TA => ?_
      refine W.seq (W.region ?_)
      refine RW.mk H (.row ⟨[.int .i64 2, .int .i64 i], 28, false⟩) ?_
      clear H; intro _ b10 _ H
      refine RW.mk H (.row ⟨[.int .i64 b.1, .int .i64 b.2], 28, false⟩) ?_
      clear H; intro _ b11 _ H
      refine RW.v ?_
      refine RW.nil ?_
      refine W.rg [(0, .pointer (some ⟨h, 0, none⟩)), (3, .int .i64 0), (4, .pointer (some ⟨Lp, 0, none⟩)), (6, .pointer (some ⟨b10, 0, none⟩)), (7, .pointer (some ⟨b11, 0, none⟩))] fun TA => ?_
      refine W.seq ?_
      refine W.seq (W.region ?_)
      refine RW.v ?_
      refine RW.ld H 1 1 ?_
      refine RW.v ?_
      refine RW.ld H 0 1 ?_
      refine RW.valE (v' := .bool true) (by kernel_rfl) (by kernel_rfl) rfl (congrArg Value.bool (bne_iff_ne.2 (by omega))) (by kernel_rfl) ?_
      refine RW.nil ?_
      refine W.rg [(0, .pointer (some ⟨h, 0, none⟩)), (3, .int .i64 0), (4, .pointer (some ⟨Lp, 0, none⟩)), (6, .pointer (some ⟨b10, 0, none⟩)), (7, .pointer (some ⟨b11, 0, none⟩)), (22, .bool true)] fun TA => ?_
      refine W.c1 ?_
      refine W.seq (W.region ?_)
      refine RW.v ?_
      refine RW.nil ?_
      replace H := ((H.del 1).del 0)
      dsimp only [setL, delL] at H
      refine W.rg [(10, .bool false)] fun TA => ?_
      refine W.ret ?_
      refine seqQ_ret ?_
      refine endG (by rfl) (by exact resL_tmp rfl) ?_
      refine RW.v ?_
      refine RW.nil ?_
      replace H := ((H.del 1).del 0)
      dsimp only [setL, delL] at H
      refine W.rg [(10, .bool false)] fun TA => ?_
      refine W.ret ?_
      refine blkQ_ret ?_
      refine seqQ_ret ?_
      refine blkQ_ret ?_
      refine seqQ_ret ?_
      refine onceQ_ret ?_
      refine blkQ_ret ?_
      refine endG (by rfl) (by exact resL_tmp rfl) ?_
      refine RW.st H 1 [.bool false] [.bool false] ?_
      clear H; intro _ _ H; dsimp only [setL, delL] at H
      refine RW.st H 0 [.int .i64 0] [.int .i64 0] ?_
      clear H; intro _ _ H; dsimp only [setL, delL] at H
      refine RW.nil ?_
      replace H := ((H.del 3).del 2)
      dsimp only [setL, delL] at H
      refine W.rg [(8, .pointer (some ⟨b3, 0, none⟩)), (9, .pointer (some ⟨b4, 0, none⟩))] fun TA => ?_
      refine W.ret ?_
      obtain ⟨σ8, hd, hσ⟩ := rec_call (G := G66) b3 b4
      obtain rfl := hσ
      exact ⟨rfl, _, Shut.one (by kernel_rfl) hd (.nil _), _, resL_cell rfl (H.get 1 rfl) (by rw [uT_eq]; exact Tryd.underlying4) (by kernel_rfl) rfl rfl (by exact resL_cell rfl (H.get 0 rfl) (by rw [uT_eq]; exact Tryd.underlying33) (by kernel_rfl) rfl rfl rfl), (by exact dec_no hk), _, ((H.del 1).del 0)⟩
    | @lam i' j' k' h1' h2' =>
      refine WC.enterD (fn := Tryd.f66) Tryd.func66 rfl ?_
      refine W.rg [(0, .pointer (some ⟨h, 0, none⟩)), (1, .agg #[.int .i64 2, .int .i64 i]), (2, .agg #[.int .i64 2, .int .i64 i']), (3, .pointer (some ⟨Lp, 0, none⟩))] fun TA => ?_
      refine W.seq (W.region ?_)
      refine RW.mk H (.row ⟨[.int .i64 2, .int .i64 i], 28, false⟩) ?_
      clear H; intro _ b1 _ H
      refine RW.mk H (.row ⟨[.int .i64 2, .int .i64 i'], 28, false⟩) ?_
      clear H; intro _ b2 _ H
      refine RW.mk H (.row ⟨[.bool false], 4, false⟩) ?_
      clear H; intro _ b3 _ H
      refine RW.mk H (.row ⟨[.int .i64 0], 33, false⟩) ?_
      clear H; intro _ b4 _ H
      refine RW.nil ?_
      refine W.rg [(0, .pointer (some ⟨h, 0, none⟩)), (3, .pointer (some ⟨Lp, 0, none⟩)), (5, .pointer (some ⟨b1, 0, none⟩)), (6, .pointer (some ⟨b2, 0, none⟩)), (8, .pointer (some ⟨b3, 0, none⟩)), (9, .pointer (some ⟨b4, 0, none⟩))] fun TA => ?_
      refine W.seq ?_
      refine W.seq (W.region ?_)
      refine RW.v ?_
      refine RW.call (by kernel_rfl) (by kernel_rfl) rfl rfl rfl (by kernel_rfl) (by kernel_rfl) ((made_wc (G := G66) (h := h) H.abs hlim).mono ?_)
      rintro _ σ5 ⟨rfl, hσ⟩
      obtain rfl := hσ.symm
      refine RW.v ?_
      refine RW.nil ?_
      refine W.rg [(0, .pointer (some ⟨h, 0, none⟩)), (3, .pointer (some ⟨Lp, 0, none⟩)), (5, .pointer (some ⟨b1, 0, none⟩)), (6, .pointer (some ⟨b2, 0, none⟩)), (8, .pointer (some ⟨b3, 0, none⟩)), (9, .pointer (some ⟨b4, 0, none⟩)), (12, .bool false)] fun TA => ?_
      refine W.c0 ?_
      refine W.skip ?_
      refine W.seq ?_
      refine W.deferred (f := 72) (fa := #[]) (as_ := #[]) (ca := #[.pointer (some ⟨b3, 0, none⟩), .pointer (some ⟨b4, 0, none⟩)]) [_] rfl rfl rfl rfl rfl (by kernel_rfl) ?_
      refine RW.v ?_
      refine RW.nil ?_
      refine ⟨by kernel_rfl, by kernel_rfl, ?_⟩
      refine W.rg [(0, .pointer (some ⟨h, 0, none⟩)), (3, .pointer (some ⟨Lp, 0, none⟩)), (5, .pointer (some ⟨b1, 0, none⟩)), (6, .pointer (some ⟨b2, 0, none⟩)), (8, .pointer (some ⟨b3, 0, none⟩)), (9, .pointer (some ⟨b4, 0, none⟩))] fun TA => ?_
      refine W.seq (W.region ?_)
      refine RW.v ?_
      refine RW.ld H 3 2 ?_
      refine RW.ld H 2 2 ?_
      refine RW.v ?_
      refine RW.cl ?_
      refine WC.enter (fn := Tryd.f73) Tryd.func73 rfl ?_
      refine W.rg [(0, .pointer (some ⟨h, 0, none⟩)), (1, .agg #[.int .i64 2, .int .i64 i]), (2, .agg #[.int .i64 2, .int .i64 i']), (3, .int .i64 0), (4, .pointer (some ⟨Lp, 0, none⟩))] fun TA => ?_
      refine W.seq (W.region ?_)
      refine RW.mk H (.row ⟨[.int .i64 2, .int .i64 i], 28, false⟩) ?_
      clear H; intro _ b6 _ H
      refine RW.mk H (.row ⟨[.int .i64 2, .int .i64 i'], 28, false⟩) ?_
      clear H; intro _ b7 _ H
      refine RW.v ?_
      refine RW.nil ?_
      refine W.rg [(0, .pointer (some ⟨h, 0, none⟩)), (3, .int .i64 0), (4, .pointer (some ⟨Lp, 0, none⟩)), (6, .pointer (some ⟨b6, 0, none⟩)), (7, .pointer (some ⟨b7, 0, none⟩))] fun TA => ?_
      refine W.seq ?_
      refine W.seq (W.region ?_)
      iterate 2 refine RW.v ?_
      refine RW.nil ?_
      refine W.rg [(0, .pointer (some ⟨h, 0, none⟩)), (3, .int .i64 0), (4, .pointer (some ⟨Lp, 0, none⟩)), (6, .pointer (some ⟨b6, 0, none⟩)), (7, .pointer (some ⟨b7, 0, none⟩)), (17, .bool false)] fun TA => ?_
      refine W.c0 ?_
      refine W.skip ?_
      refine W.seq (W.region ?_)
      refine RW.v ?_
      refine RW.nil ?_
      refine W.rg [(0, .pointer (some ⟨h, 0, none⟩)), (3, .int .i64 0), (4, .pointer (some ⟨Lp, 0, none⟩)), (6, .pointer (some ⟨b6, 0, none⟩)), (7, .pointer (some ⟨b7, 0, none⟩)), (11, .int .i64 0)] fun TA => ?_
      refine W.block ?_
      refine W.unroll (WL.once ?_)
      refine W.seq ?_
      refine W.block ?_
      refine W.seq ?_
      refine W.block ?_
      refine W.seq (W.region ?_)
      iterate 2 refine RW.v ?_
      refine RW.ld H 6 1 ?_
      iterate 2 refine RW.v ?_
      refine RW.nil ?_
      refine W.rg [(0, .pointer (some ⟨h, 0, none⟩)), (3, .int .i64 0), (4, .pointer (some ⟨Lp, 0, none⟩)), (6, .pointer (some ⟨b6, 0, none⟩)), (7, .pointer (some ⟨b7, 0, none⟩)), (11, .int .i64 0), (22, .bool false)] fun TA => ?_
      refine W.c0 ?_
      refine W.seq (W.region ?_)
      iterate 3 refine RW.v ?_
      refine RW.nil ?_
      refine W.rg [(0, .pointer (some ⟨h, 0, none⟩)), (3, .int .i64 0), (4, .pointer (some ⟨Lp, 0, none⟩)), (6, .pointer (some ⟨b6, 0, none⟩)), (7, .pointer (some ⟨b7, 0, none⟩)), (11, .int .i64 0), (29, .bool false)] fun TA => ?_
      refine W.c0 ?_
      refine W.skip ?_
      refine blkQ_normal ?_
      refine W.seq (W.region ?_)
      iterate 2 refine RW.v ?_
      refine RW.ld H 6 1 ?_
      iterate 2 refine RW.v ?_
      refine RW.st H 6 [.int .i64 199999] [.int .i64 199999] ?_
      clear H; intro _ _ H; dsimp only [setL, delL] at H
      refine RW.nil ?_
      refine W.rg [(0, .pointer (some ⟨h, 0, none⟩)), (3, .int .i64 0), (4, .pointer (some ⟨Lp, 0, none⟩)), (6, .pointer (some ⟨b6, 0, none⟩)), (7, .pointer (some ⟨b7, 0, none⟩)), (11, .int .i64 0)] fun TA => ?_
      refine W.seq ?_
      refine W.block ?_
      refine W.seq (W.region ?_)
      refine RW.ld H 1 2 ?_
      refine RW.ld H 0 2 ?_
      refine RW.vop (v := .bool (2 == 2 && i == i')) (by kernel_rfl) (by kernel_rfl) (vop_eqS (b := (2 == 2 && i == i')) (r := (2 == 2 && i == i')) rfl (.inl ⟨rfl, rfl⟩) rfl rfl rfl rfl (by kernel_rfl) (fun w => eqWd _ _ _ _ w)) (by kernel_rfl) ?_
      refine RW.v ?_
      refine RW.nil ?_
      refine W.rg [(0, .pointer (some ⟨h, 0, none⟩)), (3, .int .i64 0), (4, .pointer (some ⟨Lp, 0, none⟩)), (6, .pointer (some ⟨b6, 0, none⟩)), (7, .pointer (some ⟨b7, 0, none⟩)), (11, .int .i64 0), (39, .bool (2 == 2 && i == i'))] fun TA => ?_
      refine W.cond rfl (fun hc8 => ?_) (fun hc8 => ?_)
      · have hc8b := hc8
        have hk : keyW m (2, i) = keyW m (2, i') := by rw [show i = i' by simpa using hc8]
        refine W.seq (W.region ?_)
        refine RW.v ?_
        refine RW.nil ?_
        replace H := ((H.del 1).del 0)
        dsimp only [setL, delL] at H
        refine W.rg [(10, .bool true)] fun TA => ?_
        refine W.ret ?_
        refine blkQ_ret ?_
        refine seqQ_ret ?_
        refine blkQ_ret ?_
        refine seqQ_ret ?_
        refine onceQ_ret ?_
        refine blkQ_ret ?_
        refine endG (by rfl) (by exact resL_tmp rfl) ?_
        refine RW.st H 1 [.bool true] [.bool true] ?_
        clear H; intro _ _ H; dsimp only [setL, delL] at H
        refine RW.st H 0 [.int .i64 0] [.int .i64 0] ?_
        clear H; intro _ _ H; dsimp only [setL, delL] at H
        refine RW.nil ?_
        replace H := ((H.del 3).del 2)
        dsimp only [setL, delL] at H
        refine W.rg [(8, .pointer (some ⟨b3, 0, none⟩)), (9, .pointer (some ⟨b4, 0, none⟩))] fun TA => ?_
        refine W.ret ?_
        obtain ⟨σ8, hd, hσ⟩ := rec_call (G := G66) b3 b4
        obtain rfl := hσ
        exact ⟨rfl, _, Shut.one (by kernel_rfl) hd (.nil _), _, resL_cell rfl (H.get 1 rfl) (by rw [uT_eq]; exact Tryd.underlying4) (by kernel_rfl) rfl rfl (by exact resL_cell rfl (H.get 0 rfl) (by rw [uT_eq]; exact Tryd.underlying33) (by kernel_rfl) rfl rfl rfl), (by exact dec_yes hk), _, ((H.del 1).del 0)⟩
      · have hc8b := hc8
        refine W.seq (W.region ?_)
        refine RW.v ?_
        refine RW.ld H 1 2 ?_
        refine RW.cl ?_
        refine WC.enter (fn := Tryd.f54) Tryd.func54 rfl ?_
        refine W.rg [(0, .pointer (some ⟨h, 0, none⟩)), (1, .agg #[.int .i64 2, .int .i64 i])] fun TA => ?_
        refine W.seq (W.region ?_)
        refine RW.mk H (.row ⟨[.int .i64 2, .int .i64 i], 28, false⟩) ?_
        clear H; intro _ b9 _ H
        refine RW.v ?_
        refine RW.nil ?_
        refine W.rg [(0, .pointer (some ⟨h, 0, none⟩)), (3, .pointer (some ⟨b9, 0, none⟩))] fun TA => ?_
        refine W.seq (W.region ?_)
        refine RW.v ?_
        refine RW.ld H 0 1 ?_
        iterate 2 refine RW.v ?_
        refine RW.val (by rfl) (by kernel_rfl) rfl (by kernel_rfl) ?_
        refine RW.ldL H 0 2 (by rfl) (by kernel_rfl) rfl rfl rfl rfl rfl (by kernel_rfl) ?_
        refine RW.call (by rfl) (by kernel_rfl) rfl rfl rfl (by kernel_rfl) (by kernel_rfl) ⟨_, _, (liveY_call (G := G66) H.abs h1), ?_⟩
        iterate 2 refine RW.v ?_
        refine RW.nil ?_
        replace H := (H.del 0)
        dsimp only [setL, delL] at H
        refine W.rg [(4, .bool true)] fun TA => ?_
        refine W.ret ?_
        refine endG (by rfl) (by exact resL_tmp rfl) ?_
        iterate 2 refine RW.v ?_
        refine RW.val (by rfl) (by kernel_rfl) rfl (by kernel_rfl) ?_
        refine RW.ldL H 0 2 (by rfl) (by kernel_rfl) rfl rfl rfl rfl rfl (by kernel_rfl) ?_
        refine RW.call (by rfl) (by kernel_rfl) rfl rfl rfl (by kernel_rfl) (by kernel_rfl) ?_
        refine WC.enter (fn := Tryd.f54) Tryd.func54 rfl ?_
        refine W.rg [(0, .pointer (some ⟨h, 0, none⟩)), (1, .agg #[.int .i64 2, .int .i64 i'])] fun TA => ?_
        refine W.seq (W.region ?_)
        refine RW.mk H (.row ⟨[.int .i64 2, .int .i64 i'], 28, false⟩) ?_
        clear H; intro _ b10 _ H
        refine RW.v ?_
        refine RW.nil ?_
        refine W.rg [(0, .pointer (some ⟨h, 0, none⟩)), (3, .pointer (some ⟨b10, 0, none⟩))] fun TA => ?_
        refine W.seq (W.region ?_)
        refine RW.v ?_
        refine RW.ld H 0 1 ?_
        iterate 2 refine RW.v ?_
        refine RW.val (by rfl) (by kernel_rfl) rfl (by kernel_rfl) ?_
        refine RW.ldL H 0 2 (by rfl) (by kernel_rfl) rfl rfl rfl rfl rfl (by kernel_rfl) ?_
        refine RW.call (by rfl) (by kernel_rfl) rfl rfl rfl (by kernel_rfl) (by kernel_rfl) ⟨_, _, (liveY_call (G := G66) H.abs h1'), ?_⟩
        iterate 2 refine RW.v ?_
        refine RW.nil ?_
        replace H := (H.del 0)
        dsimp only [setL, delL] at H
        refine W.rg [(4, .bool true)] fun TA => ?_
        refine W.ret ?_
        refine endG (by rfl) (by exact resL_tmp rfl) ?_
        refine RW.val (by rfl) (by kernel_rfl) rfl (by kernel_rfl) ?_
        iterate 2 refine RW.v ?_
        refine RW.nil ?_
        refine W.rg [(0, .pointer (some ⟨h, 0, none⟩)), (3, .int .i64 0), (4, .pointer (some ⟨Lp, 0, none⟩)), (6, .pointer (some ⟨b6, 0, none⟩)), (7, .pointer (some ⟨b7, 0, none⟩)), (11, .int .i64 0), (43, .bool false)] fun TA => ?_
        refine W.c0 ?_
        refine W.skip ?_
        refine blkQ_normal ?_
        refine W.seq (W.region ?_)
        refine RW.v ?_
        refine RW.ld H 1 2 ?_
        refine RW.call (by kernel_rfl) (by kernel_rfl) rfl rfl rfl (by kernel_rfl) (by kernel_rfl) ⟨_, _, (carY_call (G := G66) H.abs h1), ?_⟩
        iterate 3 refine RW.v ?_
        refine RW.mk H (.row ⟨[.int .i64 0, .int .i64 0], 28, false⟩) ?_
        clear H; intro _ b11 _ H
        refine RW.st H 0 [.int .i64 1, .int .i64 7] [.int .i64 1, .int .i64 7] ?_
        clear H; intro _ _ H; dsimp only [setL, delL] at H
        refine RW.v ?_
        refine RW.nil ?_
        refine W.rg [(0, .pointer (some ⟨h, 0, none⟩)), (3, .int .i64 0), (4, .pointer (some ⟨Lp, 0, none⟩)), (6, .pointer (some ⟨b6, 0, none⟩)), (7, .pointer (some ⟨b7, 0, none⟩)), (11, .int .i64 0), (12, .pointer (some ⟨b11, 0, none⟩))] fun TA => ?_
        refine W.seq (W.region ?_)
        refine RW.v ?_
        refine RW.ld H 1 2 ?_
        refine RW.call (by kernel_rfl) (by kernel_rfl) rfl rfl rfl (by kernel_rfl) (by kernel_rfl) ⟨_, _, (carY_call (G := G66) H.abs h1'), ?_⟩
        iterate 3 refine RW.v ?_
        refine RW.mk H (.row ⟨[.int .i64 0, .int .i64 0], 28, false⟩) ?_
        clear H; intro _ b12 _ H
        refine RW.st H 0 [.int .i64 1, .int .i64 7] [.int .i64 1, .int .i64 7] ?_
        clear H; intro _ _ H; dsimp only [setL, delL] at H
        refine RW.v ?_
        refine RW.nil ?_
        refine W.rg [(0, .pointer (some ⟨h, 0, none⟩)), (3, .int .i64 0), (4, .pointer (some ⟨Lp, 0, none⟩)), (6, .pointer (some ⟨b6, 0, none⟩)), (7, .pointer (some ⟨b7, 0, none⟩)), (11, .int .i64 0), (12, .pointer (some ⟨b11, 0, none⟩)), (14, .pointer (some ⟨b12, 0, none⟩))] fun TA => ?_
        refine W.seq ?_
        refine W.seq (W.region ?_)
        refine RW.v ?_
        refine RW.ld H 1 2 ?_
        refine RW.ld H 0 2 ?_
        iterate 3 refine RW.v ?_
        refine RW.cl ?_
        refine WC.enter (fn := Tryd.f73) Tryd.func73 rfl ?_
        refine W.rg [(0, .pointer (some ⟨h, 0, none⟩)), (1, .agg #[.int .i64 1, .int .i64 7]), (2, .agg #[.int .i64 1, .int .i64 7]), (3, .int .i64 1), (4, .pointer (some ⟨Lp, 0, none⟩))] fun TA => ?_
        refine W.seq (W.region ?_)
        refine RW.mk H (.row ⟨[.int .i64 1, .int .i64 7], 28, false⟩) ?_
        clear H; intro _ b13 _ H
        refine RW.mk H (.row ⟨[.int .i64 1, .int .i64 7], 28, false⟩) ?_
        clear H; intro _ b14 _ H
        refine RW.v ?_
        refine RW.nil ?_
        refine W.rg [(0, .pointer (some ⟨h, 0, none⟩)), (3, .int .i64 1), (4, .pointer (some ⟨Lp, 0, none⟩)), (6, .pointer (some ⟨b13, 0, none⟩)), (7, .pointer (some ⟨b14, 0, none⟩))] fun TA => ?_
        refine W.seq ?_
        refine W.seq (W.region ?_)
        iterate 2 refine RW.v ?_
        refine RW.nil ?_
        refine W.rg [(0, .pointer (some ⟨h, 0, none⟩)), (3, .int .i64 1), (4, .pointer (some ⟨Lp, 0, none⟩)), (6, .pointer (some ⟨b13, 0, none⟩)), (7, .pointer (some ⟨b14, 0, none⟩)), (17, .bool false)] fun TA => ?_
        refine W.c0 ?_
        refine W.skip ?_
        refine W.seq (W.region ?_)
        refine RW.v ?_
        refine RW.nil ?_
        refine W.rg [(0, .pointer (some ⟨h, 0, none⟩)), (3, .int .i64 1), (4, .pointer (some ⟨Lp, 0, none⟩)), (6, .pointer (some ⟨b13, 0, none⟩)), (7, .pointer (some ⟨b14, 0, none⟩)), (11, .int .i64 0)] fun TA => ?_
        refine W.block ?_
        refine W.unroll (WL.once ?_)
        refine W.seq ?_
        refine W.block ?_
        refine W.seq ?_
        refine W.block ?_
        refine W.seq (W.region ?_)
        iterate 2 refine RW.v ?_
        refine RW.ld H 10 1 ?_
        iterate 2 refine RW.v ?_
        refine RW.nil ?_
        refine W.rg [(0, .pointer (some ⟨h, 0, none⟩)), (3, .int .i64 1), (4, .pointer (some ⟨Lp, 0, none⟩)), (6, .pointer (some ⟨b13, 0, none⟩)), (7, .pointer (some ⟨b14, 0, none⟩)), (11, .int .i64 0), (22, .bool false)] fun TA => ?_
        refine W.c0 ?_
        refine W.seq (W.region ?_)
        iterate 3 refine RW.v ?_
        refine RW.nil ?_
        refine W.rg [(0, .pointer (some ⟨h, 0, none⟩)), (3, .int .i64 1), (4, .pointer (some ⟨Lp, 0, none⟩)), (6, .pointer (some ⟨b13, 0, none⟩)), (7, .pointer (some ⟨b14, 0, none⟩)), (11, .int .i64 0), (29, .bool false)] fun TA => ?_
        refine W.c0 ?_
        refine W.skip ?_
        refine blkQ_normal ?_
        refine W.seq (W.region ?_)
        iterate 2 refine RW.v ?_
        refine RW.ld H 10 1 ?_
        iterate 2 refine RW.v ?_
        refine RW.st H 10 [.int .i64 199998] [.int .i64 199998] ?_
        clear H; intro _ _ H; dsimp only [setL, delL] at H
        refine RW.nil ?_
        refine W.rg [(0, .pointer (some ⟨h, 0, none⟩)), (3, .int .i64 1), (4, .pointer (some ⟨Lp, 0, none⟩)), (6, .pointer (some ⟨b13, 0, none⟩)), (7, .pointer (some ⟨b14, 0, none⟩)), (11, .int .i64 0)] fun TA => ?_
        refine W.seq ?_
        refine W.block ?_
        refine W.seq (W.region ?_)
        refine RW.ld H 1 2 ?_
        refine RW.ld H 0 2 ?_
        refine RW.vop (v := .bool true) (by kernel_rfl) (by kernel_rfl) (vop_eqS (b := true) (r := true) rfl (.inl ⟨rfl, rfl⟩) rfl rfl rfl rfl (by kernel_rfl) (fun w => (eqWd _ _ _ _ w).trans (by simp))) (by kernel_rfl) ?_
        refine RW.v ?_
        refine RW.nil ?_
        refine W.rg [(0, .pointer (some ⟨h, 0, none⟩)), (3, .int .i64 1), (4, .pointer (some ⟨Lp, 0, none⟩)), (6, .pointer (some ⟨b13, 0, none⟩)), (7, .pointer (some ⟨b14, 0, none⟩)), (11, .int .i64 0), (39, .bool true)] fun TA => ?_
        refine W.c1 ?_
        refine W.seq (W.region ?_)
        refine RW.v ?_
        refine RW.nil ?_
        replace H := ((H.del 1).del 0)
        dsimp only [setL, delL] at H
        refine W.rg [(10, .bool true)] fun TA => ?_
        refine W.ret ?_
        refine blkQ_ret ?_
        refine seqQ_ret ?_
        refine blkQ_ret ?_
        refine seqQ_ret ?_
        refine onceQ_ret ?_
        refine blkQ_ret ?_
        refine endG (by rfl) (by exact resL_tmp rfl) ?_
        refine RW.v ?_
        refine RW.nil ?_
        replace H := ((H.del 1).del 0)
        dsimp only [setL, delL] at H
        refine W.rg [(0, .pointer (some ⟨h, 0, none⟩)), (3, .int .i64 0), (4, .pointer (some ⟨Lp, 0, none⟩)), (6, .pointer (some ⟨b6, 0, none⟩)), (7, .pointer (some ⟨b7, 0, none⟩)), (11, .int .i64 0), (79, .bool false)] fun TA => ?_
        refine W.c0 ?_
        refine W.skip ?_
        refine W.seq (W.region ?_)
        refine RW.v ?_
        refine RW.ld H 1 2 ?_
        refine RW.call (by kernel_rfl) (by kernel_rfl) rfl rfl rfl (by kernel_rfl) (by kernel_rfl) ⟨_, _, (cdrY_call H.abs h1), ?_⟩
        iterate 3 refine RW.v ?_
        refine RW.st H 1 [.int .i64 2, .int .i64 j] [.int .i64 2, .int .i64 j] ?_
        clear H; intro _ _ H; dsimp only [setL, delL] at H
        refine RW.nil ?_
        refine W.rg [(0, .pointer (some ⟨h, 0, none⟩)), (3, .int .i64 0), (4, .pointer (some ⟨Lp, 0, none⟩)), (6, .pointer (some ⟨b6, 0, none⟩)), (7, .pointer (some ⟨b7, 0, none⟩)), (11, .int .i64 0)] fun TA => ?_
        refine W.region ?_
        refine RW.v ?_
        refine RW.ld H 0 2 ?_
        refine RW.call (by kernel_rfl) (by kernel_rfl) rfl rfl rfl (by kernel_rfl) (by kernel_rfl) ⟨_, _, (cdrY_call H.abs h1'), ?_⟩
        iterate 3 refine RW.v ?_
        refine RW.st H 0 [.int .i64 2, .int .i64 j'] [.int .i64 2, .int .i64 j'] ?_
        clear H; intro _ _ H; dsimp only [setL, delL] at H
        refine RW.nil ?_
        refine blkQ_normal ?_
        refine W.rg [(0, .pointer (some ⟨h, 0, none⟩)), (3, .int .i64 0), (4, .pointer (some ⟨Lp, 0, none⟩)), (6, .pointer (some ⟨b6, 0, none⟩)), (7, .pointer (some ⟨b7, 0, none⟩)), (11, .int .i64 0)] fun TA => ?_
        refine W.region ?_
        iterate 3 refine RW.v ?_
        refine RW.nil ?_
        refine WL.once ?_
        refine W.rg [(0, .pointer (some ⟨h, 0, none⟩)), (3, .int .i64 0), (4, .pointer (some ⟨Lp, 0, none⟩)), (6, .pointer (some ⟨b6, 0, none⟩)), (7, .pointer (some ⟨b7, 0, none⟩)), (11, .int .i64 1)] fun TA => ?_
        refine W.seq ?_
        refine W.block ?_
        refine W.seq ?_
        refine W.block ?_
        refine W.seq (W.region ?_)
        iterate 2 refine RW.v ?_
        refine RW.ld H 6 1 ?_
        iterate 2 refine RW.v ?_
        refine RW.nil ?_
        refine W.rg [(0, .pointer (some ⟨h, 0, none⟩)), (3, .int .i64 0), (4, .pointer (some ⟨Lp, 0, none⟩)), (6, .pointer (some ⟨b6, 0, none⟩)), (7, .pointer (some ⟨b7, 0, none⟩)), (11, .int .i64 1), (22, .bool false)] fun TA => ?_
        refine W.c0 ?_
        refine W.seq (W.region ?_)
        iterate 3 refine RW.v ?_
        refine RW.nil ?_
        refine W.rg [(0, .pointer (some ⟨h, 0, none⟩)), (3, .int .i64 0), (4, .pointer (some ⟨Lp, 0, none⟩)), (6, .pointer (some ⟨b6, 0, none⟩)), (7, .pointer (some ⟨b7, 0, none⟩)), (11, .int .i64 1), (29, .bool false)] fun TA => ?_
        refine W.c0 ?_
        refine W.skip ?_
        refine blkQ_normal ?_
        refine W.seq (W.region ?_)
        iterate 2 refine RW.v ?_
        refine RW.ld H 6 1 ?_
        iterate 2 refine RW.v ?_
        refine RW.st H 6 [.int .i64 199997] [.int .i64 199997] ?_
        clear H; intro _ _ H; dsimp only [setL, delL] at H
        refine RW.nil ?_
        refine W.rg [(0, .pointer (some ⟨h, 0, none⟩)), (3, .int .i64 0), (4, .pointer (some ⟨Lp, 0, none⟩)), (6, .pointer (some ⟨b6, 0, none⟩)), (7, .pointer (some ⟨b7, 0, none⟩)), (11, .int .i64 1)] fun TA => ?_
        refine W.seq ?_
        refine W.block ?_
        refine W.seq (W.region ?_)
        refine RW.ld H 1 2 ?_
        refine RW.ld H 0 2 ?_
        refine RW.vop (v := .bool (2 == 2 && j == j')) (by kernel_rfl) (by kernel_rfl) (vop_eqS (b := (2 == 2 && j == j')) (r := (2 == 2 && j == j')) rfl (.inl ⟨rfl, rfl⟩) rfl rfl rfl rfl (by kernel_rfl) (fun w => eqWd _ _ _ _ w)) (by kernel_rfl) ?_
        refine RW.v ?_
        refine RW.nil ?_
        refine W.rg [(0, .pointer (some ⟨h, 0, none⟩)), (3, .int .i64 0), (4, .pointer (some ⟨Lp, 0, none⟩)), (6, .pointer (some ⟨b6, 0, none⟩)), (7, .pointer (some ⟨b7, 0, none⟩)), (11, .int .i64 1), (39, .bool (2 == 2 && j == j'))] fun TA => ?_
        refine W.cond rfl (fun hc15 => ?_) (fun hc15 => ?_)
        · have hc15b := hc15
          have hk : keyW m (2, i) = keyW m (2, i') := by rw [keyW_lam h1 h2, keyW_lam h1' h2']; exact lam_same (show j = j' by simpa using hc15) h2 h2'
          refine W.seq (W.region ?_)
          refine RW.v ?_
          refine RW.nil ?_
          replace H := ((H.del 1).del 0)
          dsimp only [setL, delL] at H
          refine W.rg [(10, .bool true)] fun TA => ?_
          refine W.ret ?_
          refine blkQ_ret ?_
          refine seqQ_ret ?_
          refine blkQ_ret ?_
          refine seqQ_ret ?_
          refine onceQ_ret ?_
          refine blkQ_ret ?_
          refine endG (by rfl) (by exact resL_tmp rfl) ?_
          refine RW.st H 1 [.bool true] [.bool true] ?_
          clear H; intro _ _ H; dsimp only [setL, delL] at H
          refine RW.st H 0 [.int .i64 0] [.int .i64 0] ?_
          clear H; intro _ _ H; dsimp only [setL, delL] at H
          refine RW.nil ?_
          replace H := ((H.del 3).del 2)
          dsimp only [setL, delL] at H
          refine W.rg [(8, .pointer (some ⟨b3, 0, none⟩)), (9, .pointer (some ⟨b4, 0, none⟩))] fun TA => ?_
          refine W.ret ?_
          obtain ⟨σ8, hd, hσ⟩ := rec_call (G := G66) b3 b4
          obtain rfl := hσ
          exact ⟨rfl, _, Shut.one (by kernel_rfl) hd (.nil _), _, resL_cell rfl (H.get 1 rfl) (by rw [uT_eq]; exact Tryd.underlying4) (by kernel_rfl) rfl rfl (by exact resL_cell rfl (H.get 0 rfl) (by rw [uT_eq]; exact Tryd.underlying33) (by kernel_rfl) rfl rfl rfl), (by exact dec_yes hk), _, ((H.del 1).del 0)⟩
        · have hc15b := hc15
          refine W.seq (W.region ?_)
          refine RW.v ?_
          refine RW.ld H 1 2 ?_
          refine RW.cl ?_
          refine WC.enter (fn := Tryd.f54) Tryd.func54 rfl ?_
          refine W.rg [(0, .pointer (some ⟨h, 0, none⟩)), (1, .agg #[.int .i64 2, .int .i64 j])] fun TA => ?_
          refine W.seq (W.region ?_)
          refine RW.mk H (.row ⟨[.int .i64 2, .int .i64 j], 28, false⟩) ?_
          clear H; intro _ b16 _ H
          refine RW.v ?_
          refine RW.nil ?_
          refine W.rg [(0, .pointer (some ⟨h, 0, none⟩)), (3, .pointer (some ⟨b16, 0, none⟩))] fun TA => ?_
          refine W.seq (W.region ?_)
          refine RW.v ?_
          refine RW.ld H 0 1 ?_
          iterate 2 refine RW.v ?_
          refine RW.val (by rfl) (by kernel_rfl) rfl (by kernel_rfl) ?_
          refine RW.ldL H 0 2 (by rfl) (by kernel_rfl) rfl rfl rfl rfl rfl (by kernel_rfl) ?_
          refine RW.call (by rfl) (by kernel_rfl) rfl rfl rfl (by kernel_rfl) (by kernel_rfl) ⟨_, _, (liveY_call (G := G66) H.abs h2), ?_⟩
          iterate 2 refine RW.v ?_
          refine RW.nil ?_
          replace H := (H.del 0)
          dsimp only [setL, delL] at H
          refine W.rg [(4, .bool true)] fun TA => ?_
          refine W.ret ?_
          refine endG (by rfl) (by exact resL_tmp rfl) ?_
          iterate 2 refine RW.v ?_
          refine RW.val (by rfl) (by kernel_rfl) rfl (by kernel_rfl) ?_
          refine RW.ldL H 0 2 (by rfl) (by kernel_rfl) rfl rfl rfl rfl rfl (by kernel_rfl) ?_
          refine RW.call (by rfl) (by kernel_rfl) rfl rfl rfl (by kernel_rfl) (by kernel_rfl) ?_
          refine WC.enter (fn := Tryd.f54) Tryd.func54 rfl ?_
          refine W.rg [(0, .pointer (some ⟨h, 0, none⟩)), (1, .agg #[.int .i64 2, .int .i64 j'])] fun TA => ?_
          refine W.seq (W.region ?_)
          refine RW.mk H (.row ⟨[.int .i64 2, .int .i64 j'], 28, false⟩) ?_
          clear H; intro _ b17 _ H
          refine RW.v ?_
          refine RW.nil ?_
          refine W.rg [(0, .pointer (some ⟨h, 0, none⟩)), (3, .pointer (some ⟨b17, 0, none⟩))] fun TA => ?_
          refine W.seq (W.region ?_)
          refine RW.v ?_
          refine RW.ld H 0 1 ?_
          iterate 2 refine RW.v ?_
          refine RW.val (by rfl) (by kernel_rfl) rfl (by kernel_rfl) ?_
          refine RW.ldL H 0 2 (by rfl) (by kernel_rfl) rfl rfl rfl rfl rfl (by kernel_rfl) ?_
          refine RW.call (by rfl) (by kernel_rfl) rfl rfl rfl (by kernel_rfl) (by kernel_rfl) ⟨_, _, (liveY_call (G := G66) H.abs h2'), ?_⟩
          iterate 2 refine RW.v ?_
          refine RW.nil ?_
          replace H := (H.del 0)
          dsimp only [setL, delL] at H
          refine W.rg [(4, .bool true)] fun TA => ?_
          refine W.ret ?_
          refine endG (by rfl) (by exact resL_tmp rfl) ?_
          refine RW.val (by rfl) (by kernel_rfl) rfl (by kernel_rfl) ?_
          iterate 2 refine RW.v ?_
          refine RW.nil ?_
          refine W.rg [(0, .pointer (some ⟨h, 0, none⟩)), (3, .int .i64 0), (4, .pointer (some ⟨Lp, 0, none⟩)), (6, .pointer (some ⟨b6, 0, none⟩)), (7, .pointer (some ⟨b7, 0, none⟩)), (11, .int .i64 1), (43, .bool false)] fun TA => ?_
          refine W.c0 ?_
          refine W.skip ?_
          refine blkQ_normal ?_
          refine W.seq (W.region ?_)
          refine RW.v ?_
          refine RW.ld H 1 2 ?_
          refine RW.call (by kernel_rfl) (by kernel_rfl) rfl rfl rfl (by kernel_rfl) (by kernel_rfl) ⟨_, _, (carY_call (G := G66) H.abs h2), ?_⟩
          iterate 3 refine RW.v ?_
          refine RW.mk H (.row ⟨[.int .i64 0, .int .i64 0], 28, false⟩) ?_
          clear H; intro _ b18 _ H
          refine RW.st H 0 [.int .i64 0, .int .i64 k] [.int .i64 0, .int .i64 k] ?_
          clear H; intro _ _ H; dsimp only [setL, delL] at H
          refine RW.v ?_
          refine RW.nil ?_
          refine W.rg [(0, .pointer (some ⟨h, 0, none⟩)), (3, .int .i64 0), (4, .pointer (some ⟨Lp, 0, none⟩)), (6, .pointer (some ⟨b6, 0, none⟩)), (7, .pointer (some ⟨b7, 0, none⟩)), (11, .int .i64 1), (12, .pointer (some ⟨b18, 0, none⟩))] fun TA => ?_
          refine W.seq (W.region ?_)
          refine RW.v ?_
          refine RW.ld H 1 2 ?_
          refine RW.call (by kernel_rfl) (by kernel_rfl) rfl rfl rfl (by kernel_rfl) (by kernel_rfl) ⟨_, _, (carY_call (G := G66) H.abs h2'), ?_⟩
          iterate 3 refine RW.v ?_
          refine RW.mk H (.row ⟨[.int .i64 0, .int .i64 0], 28, false⟩) ?_
          clear H; intro _ b19 _ H
          refine RW.st H 0 [.int .i64 0, .int .i64 k'] [.int .i64 0, .int .i64 k'] ?_
          clear H; intro _ _ H; dsimp only [setL, delL] at H
          refine RW.v ?_
          refine RW.nil ?_
          refine W.rg [(0, .pointer (some ⟨h, 0, none⟩)), (3, .int .i64 0), (4, .pointer (some ⟨Lp, 0, none⟩)), (6, .pointer (some ⟨b6, 0, none⟩)), (7, .pointer (some ⟨b7, 0, none⟩)), (11, .int .i64 1), (12, .pointer (some ⟨b18, 0, none⟩)), (14, .pointer (some ⟨b19, 0, none⟩))] fun TA => ?_
          refine W.seq ?_
          refine W.seq (W.region ?_)
          refine RW.v ?_
          refine RW.ld H 1 2 ?_
          refine RW.ld H 0 2 ?_
          iterate 3 refine RW.v ?_
          refine RW.cl ?_
          refine WC.enter (fn := Tryd.f73) Tryd.func73 rfl ?_
          refine W.rg [(0, .pointer (some ⟨h, 0, none⟩)), (1, .agg #[.int .i64 0, .int .i64 k]), (2, .agg #[.int .i64 0, .int .i64 k']), (3, .int .i64 1), (4, .pointer (some ⟨Lp, 0, none⟩))] fun TA => ?_
          refine W.seq (W.region ?_)
          refine RW.mk H (.row ⟨[.int .i64 0, .int .i64 k], 28, false⟩) ?_
          clear H; intro _ b20 _ H
          refine RW.mk H (.row ⟨[.int .i64 0, .int .i64 k'], 28, false⟩) ?_
          clear H; intro _ b21 _ H
          refine RW.v ?_
          refine RW.nil ?_
          refine W.rg [(0, .pointer (some ⟨h, 0, none⟩)), (3, .int .i64 1), (4, .pointer (some ⟨Lp, 0, none⟩)), (6, .pointer (some ⟨b20, 0, none⟩)), (7, .pointer (some ⟨b21, 0, none⟩))] fun TA => ?_
          refine W.seq ?_
          refine W.seq (W.region ?_)
          iterate 2 refine RW.v ?_
          refine RW.nil ?_
          refine W.rg [(0, .pointer (some ⟨h, 0, none⟩)), (3, .int .i64 1), (4, .pointer (some ⟨Lp, 0, none⟩)), (6, .pointer (some ⟨b20, 0, none⟩)), (7, .pointer (some ⟨b21, 0, none⟩)), (17, .bool false)] fun TA => ?_
          refine W.c0 ?_
          refine W.skip ?_
          refine W.seq (W.region ?_)
          refine RW.v ?_
          refine RW.nil ?_
          refine W.rg [(0, .pointer (some ⟨h, 0, none⟩)), (3, .int .i64 1), (4, .pointer (some ⟨Lp, 0, none⟩)), (6, .pointer (some ⟨b20, 0, none⟩)), (7, .pointer (some ⟨b21, 0, none⟩)), (11, .int .i64 0)] fun TA => ?_
          refine W.block ?_
          refine W.unroll (WL.once ?_)
          refine W.seq ?_
          refine W.block ?_
          refine W.seq ?_
          refine W.block ?_
          refine W.seq (W.region ?_)
          iterate 2 refine RW.v ?_
          refine RW.ld H 10 1 ?_
          iterate 2 refine RW.v ?_
          refine RW.nil ?_
          refine W.rg [(0, .pointer (some ⟨h, 0, none⟩)), (3, .int .i64 1), (4, .pointer (some ⟨Lp, 0, none⟩)), (6, .pointer (some ⟨b20, 0, none⟩)), (7, .pointer (some ⟨b21, 0, none⟩)), (11, .int .i64 0), (22, .bool false)] fun TA => ?_
          refine W.c0 ?_
          refine W.seq (W.region ?_)
          iterate 3 refine RW.v ?_
          refine RW.nil ?_
          refine W.rg [(0, .pointer (some ⟨h, 0, none⟩)), (3, .int .i64 1), (4, .pointer (some ⟨Lp, 0, none⟩)), (6, .pointer (some ⟨b20, 0, none⟩)), (7, .pointer (some ⟨b21, 0, none⟩)), (11, .int .i64 0), (29, .bool false)] fun TA => ?_
          refine W.c0 ?_
          refine W.skip ?_
          refine blkQ_normal ?_
          refine W.seq (W.region ?_)
          iterate 2 refine RW.v ?_
          refine RW.ld H 10 1 ?_
          iterate 2 refine RW.v ?_
          refine RW.st H 10 [.int .i64 199996] [.int .i64 199996] ?_
          clear H; intro _ _ H; dsimp only [setL, delL] at H
          refine RW.nil ?_
          refine W.rg [(0, .pointer (some ⟨h, 0, none⟩)), (3, .int .i64 1), (4, .pointer (some ⟨Lp, 0, none⟩)), (6, .pointer (some ⟨b20, 0, none⟩)), (7, .pointer (some ⟨b21, 0, none⟩)), (11, .int .i64 0)] fun TA => ?_
          refine W.seq ?_
          refine W.block ?_
          refine W.seq (W.region ?_)
          refine RW.ld H 1 2 ?_
          refine RW.ld H 0 2 ?_
          refine RW.vop (v := .bool (0 == 0 && k == k')) (by kernel_rfl) (by kernel_rfl) (vop_eqS (b := (0 == 0 && k == k')) (r := (0 == 0 && k == k')) rfl (.inl ⟨rfl, rfl⟩) rfl rfl rfl rfl (by kernel_rfl) (fun w => eqWd _ _ _ _ w)) (by kernel_rfl) ?_
          refine RW.v ?_
          refine RW.nil ?_
          refine W.rg [(0, .pointer (some ⟨h, 0, none⟩)), (3, .int .i64 1), (4, .pointer (some ⟨Lp, 0, none⟩)), (6, .pointer (some ⟨b20, 0, none⟩)), (7, .pointer (some ⟨b21, 0, none⟩)), (11, .int .i64 0), (39, .bool (0 == 0 && k == k'))] fun TA => ?_
          refine W.cond rfl (fun hc22 => ?_) (fun hc22 => ?_)
          · have hc22b := hc22
            have hk : keyW m (2, i) = keyW m (2, i') := by rw [keyW_lam h1 h2, keyW_lam h1' h2', show k = k' by simpa using hc22]
            refine W.seq (W.region ?_)
            refine RW.v ?_
            refine RW.nil ?_
            replace H := ((H.del 1).del 0)
            dsimp only [setL, delL] at H
            refine W.rg [(10, .bool true)] fun TA => ?_
            refine W.ret ?_
            refine blkQ_ret ?_
            refine seqQ_ret ?_
            refine blkQ_ret ?_
            refine seqQ_ret ?_
            refine onceQ_ret ?_
            refine blkQ_ret ?_
            refine endG (by rfl) (by exact resL_tmp rfl) ?_
            refine RW.v ?_
            refine RW.nil ?_
            replace H := ((H.del 1).del 0)
            dsimp only [setL, delL] at H
            refine W.rg [(0, .pointer (some ⟨h, 0, none⟩)), (3, .int .i64 0), (4, .pointer (some ⟨Lp, 0, none⟩)), (6, .pointer (some ⟨b6, 0, none⟩)), (7, .pointer (some ⟨b7, 0, none⟩)), (11, .int .i64 1), (79, .bool false)] fun TA => ?_
            refine W.c0 ?_
            refine W.skip ?_
            refine W.seq (W.region ?_)
            refine RW.v ?_
            refine RW.ld H 1 2 ?_
            refine RW.call (by kernel_rfl) (by kernel_rfl) rfl rfl rfl (by kernel_rfl) (by kernel_rfl) ⟨_, _, (cdrY_call H.abs h2), ?_⟩
            iterate 3 refine RW.v ?_
            refine RW.st H 1 [.int .i64 1, .int .i64 0] [.int .i64 1, .int .i64 0] ?_
            clear H; intro _ _ H; dsimp only [setL, delL] at H
            refine RW.nil ?_
            refine W.rg [(0, .pointer (some ⟨h, 0, none⟩)), (3, .int .i64 0), (4, .pointer (some ⟨Lp, 0, none⟩)), (6, .pointer (some ⟨b6, 0, none⟩)), (7, .pointer (some ⟨b7, 0, none⟩)), (11, .int .i64 1)] fun TA => ?_
            refine W.region ?_
            refine RW.v ?_
            refine RW.ld H 0 2 ?_
            refine RW.call (by kernel_rfl) (by kernel_rfl) rfl rfl rfl (by kernel_rfl) (by kernel_rfl) ⟨_, _, (cdrY_call H.abs h2'), ?_⟩
            iterate 3 refine RW.v ?_
            refine RW.st H 0 [.int .i64 1, .int .i64 0] [.int .i64 1, .int .i64 0] ?_
            clear H; intro _ _ H; dsimp only [setL, delL] at H
            refine RW.nil ?_
            refine blkQ_normal ?_
            refine W.rg [(0, .pointer (some ⟨h, 0, none⟩)), (3, .int .i64 0), (4, .pointer (some ⟨Lp, 0, none⟩)), (6, .pointer (some ⟨b6, 0, none⟩)), (7, .pointer (some ⟨b7, 0, none⟩)), (11, .int .i64 1)] fun TA => ?_
            refine W.region ?_
            iterate 3 refine RW.v ?_
            refine RW.nil ?_
            refine WL.once ?_
            refine W.rg [(0, .pointer (some ⟨h, 0, none⟩)), (3, .int .i64 0), (4, .pointer (some ⟨Lp, 0, none⟩)), (6, .pointer (some ⟨b6, 0, none⟩)), (7, .pointer (some ⟨b7, 0, none⟩)), (11, .int .i64 2)] fun TA => ?_
            refine W.seq ?_
            refine W.block ?_
            refine W.seq ?_
            refine W.block ?_
            refine W.seq (W.region ?_)
            iterate 2 refine RW.v ?_
            refine RW.ld H 6 1 ?_
            iterate 2 refine RW.v ?_
            refine RW.nil ?_
            refine W.rg [(0, .pointer (some ⟨h, 0, none⟩)), (3, .int .i64 0), (4, .pointer (some ⟨Lp, 0, none⟩)), (6, .pointer (some ⟨b6, 0, none⟩)), (7, .pointer (some ⟨b7, 0, none⟩)), (11, .int .i64 2), (22, .bool false)] fun TA => ?_
            refine W.c0 ?_
            refine W.seq (W.region ?_)
            iterate 3 refine RW.v ?_
            refine RW.nil ?_
            refine W.rg [(0, .pointer (some ⟨h, 0, none⟩)), (3, .int .i64 0), (4, .pointer (some ⟨Lp, 0, none⟩)), (6, .pointer (some ⟨b6, 0, none⟩)), (7, .pointer (some ⟨b7, 0, none⟩)), (11, .int .i64 2), (29, .bool false)] fun TA => ?_
            refine W.c0 ?_
            refine W.skip ?_
            refine blkQ_normal ?_
            refine W.seq (W.region ?_)
            iterate 2 refine RW.v ?_
            refine RW.ld H 6 1 ?_
            iterate 2 refine RW.v ?_
            refine RW.st H 6 [.int .i64 199995] [.int .i64 199995] ?_
            clear H; intro _ _ H; dsimp only [setL, delL] at H
            refine RW.nil ?_
            refine W.rg [(0, .pointer (some ⟨h, 0, none⟩)), (3, .int .i64 0), (4, .pointer (some ⟨Lp, 0, none⟩)), (6, .pointer (some ⟨b6, 0, none⟩)), (7, .pointer (some ⟨b7, 0, none⟩)), (11, .int .i64 2)] fun TA => ?_
            refine W.seq ?_
            refine W.block ?_
            refine W.seq (W.region ?_)
            refine RW.ld H 1 2 ?_
            refine RW.ld H 0 2 ?_
            refine RW.vop (v := .bool true) (by kernel_rfl) (by kernel_rfl) (vop_eqS (b := true) (r := true) rfl (.inl ⟨rfl, rfl⟩) rfl rfl rfl rfl (by kernel_rfl) (fun w => (eqWd _ _ _ _ w).trans (by simp))) (by kernel_rfl) ?_
            refine RW.v ?_
            refine RW.nil ?_
            refine W.rg [(0, .pointer (some ⟨h, 0, none⟩)), (3, .int .i64 0), (4, .pointer (some ⟨Lp, 0, none⟩)), (6, .pointer (some ⟨b6, 0, none⟩)), (7, .pointer (some ⟨b7, 0, none⟩)), (11, .int .i64 2), (39, .bool true)] fun TA => ?_
            refine W.c1 ?_
            refine W.seq (W.region ?_)
            refine RW.v ?_
            refine RW.nil ?_
            replace H := ((H.del 1).del 0)
            dsimp only [setL, delL] at H
            refine W.rg [(10, .bool true)] fun TA => ?_
            refine W.ret ?_
            refine blkQ_ret ?_
            refine seqQ_ret ?_
            refine blkQ_ret ?_
            refine seqQ_ret ?_
            refine onceQ_ret ?_
            refine blkQ_ret ?_
            refine endG (by rfl) (by exact resL_tmp rfl) ?_
            refine RW.st H 1 [.bool true] [.bool true] ?_
            clear H; intro _ _ H; dsimp only [setL, delL] at H
            refine RW.st H 0 [.int .i64 0] [.int .i64 0] ?_
            clear H; intro _ _ H; dsimp only [setL, delL] at H
            refine RW.nil ?_
            replace H := ((H.del 3).del 2)
            dsimp only [setL, delL] at H
            refine W.rg [(8, .pointer (some ⟨b3, 0, none⟩)), (9, .pointer (some ⟨b4, 0, none⟩))] fun TA => ?_
            refine W.ret ?_
            obtain ⟨σ8, hd, hσ⟩ := rec_call (G := G66) b3 b4
            obtain rfl := hσ
            exact ⟨rfl, _, Shut.one (by kernel_rfl) hd (.nil _), _, resL_cell rfl (H.get 1 rfl) (by rw [uT_eq]; exact Tryd.underlying4) (by kernel_rfl) rfl rfl (by exact resL_cell rfl (H.get 0 rfl) (by rw [uT_eq]; exact Tryd.underlying33) (by kernel_rfl) rfl rfl rfl), (by exact dec_yes hk), _, ((H.del 1).del 0)⟩
          · have hc22b := hc22
            have hk : keyW m (2, i) ≠ keyW m (2, i') := by rw [keyW_lam h1 h2, keyW_lam h1' h2']; intro e; have := congrArg Prod.snd e; simp at hc22; exact hc22 this
            refine W.seq (W.region ?_)
            refine RW.v ?_
            refine RW.ld H 1 2 ?_
            refine RW.cl ?_
            refine WC.enter (fn := Tryd.f54) Tryd.func54 rfl ?_
            refine W.rg [(0, .pointer (some ⟨h, 0, none⟩)), (1, .agg #[.int .i64 0, .int .i64 k])] fun TA => ?_
            refine W.seq (W.region ?_)
            refine RW.mk H (.row ⟨[.int .i64 0, .int .i64 k], 28, false⟩) ?_
            clear H; intro _ b23 _ H
            refine RW.v ?_
            refine RW.nil ?_
            refine W.rg [(0, .pointer (some ⟨h, 0, none⟩)), (3, .pointer (some ⟨b23, 0, none⟩))] fun TA => ?_
            refine W.seq (W.region ?_)
            refine RW.v ?_
            refine RW.ld H 0 1 ?_
            iterate 2 refine RW.v ?_
            refine RW.skip (by rfl) (by kernel_rfl) ?_
            refine RW.skip (by rfl) (by kernel_rfl) ?_
            refine RW.skip (by rfl) (by kernel_rfl) ?_
            iterate 2 refine RW.v ?_
            refine RW.nil ?_
            replace H := (H.del 0)
            dsimp only [setL, delL] at H
            refine W.rg [(4, .bool false)] fun TA => ?_
            refine W.ret ?_
            refine endG (by rfl) (by exact resL_tmp rfl) ?_
            iterate 2 refine RW.v ?_
            refine RW.skip (by rfl) (by kernel_rfl) ?_
            refine RW.skip (by rfl) (by kernel_rfl) ?_
            refine RW.skip (by rfl) (by kernel_rfl) ?_
            refine RW.skip (by rfl) (by kernel_rfl) ?_
            iterate 2 refine RW.v ?_
            refine RW.nil ?_
            refine W.rg [(0, .pointer (some ⟨h, 0, none⟩)), (3, .int .i64 1), (4, .pointer (some ⟨Lp, 0, none⟩)), (6, .pointer (some ⟨b20, 0, none⟩)), (7, .pointer (some ⟨b21, 0, none⟩)), (11, .int .i64 0), (43, .bool true)] fun TA => ?_
            refine W.c1 ?_
            refine W.seq (W.region ?_)
            refine RW.v ?_
            refine RW.ld H 1 2 ?_
            refine RW.ld H 0 2 ?_
            iterate 2 refine RW.v ?_
            refine RW.cl ?_
            refine WC.enter (fn := Tryd.f75) Tryd.func75 rfl ?_
            refine W.rg [(0, .pointer (some ⟨h, 0, none⟩)), (1, .agg #[.int .i64 0, .int .i64 k]), (2, .agg #[.int .i64 0, .int .i64 k']), (3, .int .i64 1), (4, .pointer (some ⟨Lp, 0, none⟩))] fun TA => ?_
            refine W.seq (W.region ?_)
            refine RW.mk H (.row ⟨[.int .i64 0, .int .i64 k], 28, false⟩) ?_
            clear H; intro _ b24 _ H
            refine RW.mk H (.row ⟨[.int .i64 0, .int .i64 k'], 28, false⟩) ?_
            clear H; intro _ b25 _ H
            refine RW.v ?_
            refine RW.nil ?_
            refine W.rg [(0, .pointer (some ⟨h, 0, none⟩)), (3, .int .i64 1), (4, .pointer (some ⟨Lp, 0, none⟩)), (6, .pointer (some ⟨b24, 0, none⟩)), (7, .pointer (some ⟨b25, 0, none⟩))] fun TA => ?_
            refine W.seq ?_
            refine W.seq (W.region ?_)
            refine RW.v ?_
            refine RW.ld H 1 1 ?_
            refine RW.v ?_
            refine RW.ld H 0 1 ?_
            refine RW.v ?_
            refine RW.nil ?_
            refine W.rg [(0, .pointer (some ⟨h, 0, none⟩)), (3, .int .i64 1), (4, .pointer (some ⟨Lp, 0, none⟩)), (6, .pointer (some ⟨b24, 0, none⟩)), (7, .pointer (some ⟨b25, 0, none⟩)), (22, .bool false)] fun TA => ?_
            refine W.c0 ?_
            refine W.skip ?_
            refine W.seq (W.region ?_)
            refine RW.v ?_
            refine RW.ld H 1 2 ?_
            refine RW.call (by kernel_rfl) (by kernel_rfl) rfl rfl rfl (by kernel_rfl) (by kernel_rfl) ⟨_, _, (s_textNo ((0, k) : Wd) (.inl rfl) H.abs), ?_⟩
            iterate 5 refine RW.v ?_
            refine RW.nil ?_
            refine W.rg [(0, .pointer (some ⟨h, 0, none⟩)), (3, .int .i64 1), (4, .pointer (some ⟨Lp, 0, none⟩)), (6, .pointer (some ⟨b24, 0, none⟩)), (7, .pointer (some ⟨b25, 0, none⟩)), (11, .string ByteArray.empty), (12, .int .i64 6)] fun TA => ?_
            refine W.seq (W.region ?_)
            refine RW.v ?_
            refine RW.ld H 0 2 ?_
            refine RW.call (by kernel_rfl) (by kernel_rfl) rfl rfl rfl (by kernel_rfl) (by kernel_rfl) ⟨_, _, (s_textNo ((0, k') : Wd) (.inl rfl) H.abs), ?_⟩
            iterate 5 refine RW.v ?_
            refine RW.nil ?_
            refine W.rg [(0, .pointer (some ⟨h, 0, none⟩)), (3, .int .i64 1), (4, .pointer (some ⟨Lp, 0, none⟩)), (6, .pointer (some ⟨b24, 0, none⟩)), (7, .pointer (some ⟨b25, 0, none⟩)), (11, .string ByteArray.empty), (12, .int .i64 6), (13, .string ByteArray.empty), (14, .int .i64 6)] fun TA => ?_
            refine W.seq ?_
            refine W.seq (W.region ?_)
            iterate 3 refine RW.v ?_
            refine RW.skip (by rfl) (by kernel_rfl) ?_
            refine RW.skip (by rfl) (by kernel_rfl) ?_
            refine RW.v ?_
            refine RW.nil ?_
            refine W.rg [(0, .pointer (some ⟨h, 0, none⟩)), (3, .int .i64 1), (4, .pointer (some ⟨Lp, 0, none⟩)), (6, .pointer (some ⟨b24, 0, none⟩)), (7, .pointer (some ⟨b25, 0, none⟩)), (11, .string ByteArray.empty), (13, .string ByteArray.empty), (40, .bool false)] fun TA => ?_
            refine W.c0 ?_
            refine W.skip ?_
            refine W.seq (W.region ?_)
            refine RW.v ?_
            refine RW.ld H 1 2 ?_
            refine RW.call (by kernel_rfl) (by kernel_rfl) rfl rfl rfl (by kernel_rfl) (by kernel_rfl) ⟨_, _, (s_vecNo ((0, k) : Wd) (.inl rfl) H.abs), ?_⟩
            iterate 5 refine RW.v ?_
            refine RW.nil ?_
            replace H := (H.del 1)
            dsimp only [setL, delL] at H
            refine W.rg [(0, .pointer (some ⟨h, 0, none⟩)), (3, .int .i64 1), (4, .pointer (some ⟨Lp, 0, none⟩)), (7, .pointer (some ⟨b25, 0, none⟩)), (12, .int .i64 6), (15, .slice none 0 0)] fun TA => ?_
            refine W.seq (W.region ?_)
            refine RW.v ?_
            refine RW.ld H 0 2 ?_
            refine RW.call (by kernel_rfl) (by kernel_rfl) rfl rfl rfl (by kernel_rfl) (by kernel_rfl) ⟨_, _, (s_vecNo ((0, k') : Wd) (.inl rfl) H.abs), ?_⟩
            iterate 5 refine RW.v ?_
            refine RW.nil ?_
            replace H := (H.del 0)
            dsimp only [setL, delL] at H
            refine W.rg [(0, .pointer (some ⟨h, 0, none⟩)), (3, .int .i64 1), (4, .pointer (some ⟨Lp, 0, none⟩)), (12, .int .i64 6), (14, .int .i64 6), (15, .slice none 0 0), (16, .slice none 0 0)] fun TA => ?_
            refine W.seq ?_
            refine W.seq (W.region ?_)
            iterate 3 refine RW.v ?_
            refine RW.skip (by rfl) (by kernel_rfl) ?_
            refine RW.skip (by rfl) (by kernel_rfl) ?_
            iterate 2 refine RW.v ?_
            refine RW.skip (by rfl) (by kernel_rfl) ?_
            refine RW.skip (by rfl) (by kernel_rfl) ?_
            refine RW.skip (by rfl) (by kernel_rfl) ?_
            refine RW.skip (by rfl) (by kernel_rfl) ?_
            refine RW.skip (by rfl) (by kernel_rfl) ?_
            refine RW.v ?_
            refine RW.nil ?_
            refine W.rg [(0, .pointer (some ⟨h, 0, none⟩)), (3, .int .i64 1), (4, .pointer (some ⟨Lp, 0, none⟩)), (15, .slice none 0 0), (16, .slice none 0 0), (68, .bool true)] fun TA => ?_
            refine W.c1 ?_
            refine W.seq (W.region ?_)
            refine RW.v ?_
            refine RW.nil ?_
            refine W.rg [(10, .bool false)] fun TA => ?_
            refine W.ret ?_
            refine seqQ_ret ?_
            refine endG (by rfl) (by exact resL_tmp rfl) ?_
            refine RW.v ?_
            refine RW.nil ?_
            replace H := ((H.del 1).del 0)
            dsimp only [setL, delL] at H
            refine W.rg [(10, .bool false)] fun TA => ?_
            refine W.ret ?_
            refine blkQ_ret ?_
            refine seqQ_ret ?_
            refine blkQ_ret ?_
            refine seqQ_ret ?_
            refine onceQ_ret ?_
            refine blkQ_ret ?_
            refine endG (by rfl) (by exact resL_tmp rfl) ?_
            refine RW.v ?_
            refine RW.nil ?_
            replace H := ((H.del 1).del 0)
            dsimp only [setL, delL] at H
            refine W.rg [(0, .pointer (some ⟨h, 0, none⟩)), (3, .int .i64 0), (4, .pointer (some ⟨Lp, 0, none⟩)), (6, .pointer (some ⟨b6, 0, none⟩)), (7, .pointer (some ⟨b7, 0, none⟩)), (11, .int .i64 1), (79, .bool true)] fun TA => ?_
            refine W.c1 ?_
            refine W.seq (W.region ?_)
            refine RW.v ?_
            refine RW.nil ?_
            replace H := ((H.del 1).del 0)
            dsimp only [setL, delL] at H
            refine W.rg [(10, .bool false)] fun TA => ?_
            refine W.ret ?_
            refine seqQ_ret ?_
            refine blkQ_ret ?_
            refine seqQ_ret ?_
            refine onceQ_ret ?_
            refine blkQ_ret ?_
            refine endG (by rfl) (by exact resL_tmp rfl) ?_
            refine RW.st H 1 [.bool false] [.bool false] ?_
            clear H; intro _ _ H; dsimp only [setL, delL] at H
            refine RW.st H 0 [.int .i64 0] [.int .i64 0] ?_
            clear H; intro _ _ H; dsimp only [setL, delL] at H
            refine RW.nil ?_
            replace H := ((H.del 3).del 2)
            dsimp only [setL, delL] at H
            refine W.rg [(8, .pointer (some ⟨b3, 0, none⟩)), (9, .pointer (some ⟨b4, 0, none⟩))] fun TA => ?_
            refine W.ret ?_
            obtain ⟨σ8, hd, hσ⟩ := rec_call (G := G66) b3 b4
            obtain rfl := hσ
            exact ⟨rfl, _, Shut.one (by kernel_rfl) hd (.nil _), _, resL_cell rfl (H.get 1 rfl) (by rw [uT_eq]; exact Tryd.underlying4) (by kernel_rfl) rfl rfl (by exact resL_cell rfl (H.get 0 rfl) (by rw [uT_eq]; exact Tryd.underlying33) (by kernel_rfl) rfl rfl rfl), (by exact dec_no hk), _, ((H.del 1).del 0)⟩
set_option maxHeartbeats 4000000 in
theorem Equal_hw {a b : Wd} (ga : Good m a) (gb : Good m b) (hlim : 0 < m.limit) (H : Lies G66 (heapAbs h m) F σ L) :
    WC G66 Tryd.prog 40 #[pp h, wdV a, wdV b] σ fun v σ' => v = .tuple #[.bool (decide (keyW m a = keyW m b)), .int .i64 0] ∧ Lies G66 (heapAbs h m) F σ' L := by
  refine WC.enter (fn := Tryd.f40) Tryd.func40 rfl ?_
  refine W.rg [(0, .pointer (some ⟨h, 0, none⟩)), (1, .agg #[.int .i64 a.1, .int .i64 a.2]), (2, .agg #[.int .i64 b.1, .int .i64 b.2])] fun TA => ?_
  refine W.seq (W.region ?_)
  refine RW.mk H (.row ⟨[.int .i64 a.1, .int .i64 a.2], 28, false⟩) ?_
  clear H; intro _ b1 _ H
  refine RW.mk H (.row ⟨[.int .i64 b.1, .int .i64 b.2], 28, false⟩) ?_
  clear H; intro _ b2 _ H
  iterate 2 refine RW.v ?_
  refine RW.nil ?_
  refine W.rg [(0, .pointer (some ⟨h, 0, none⟩)), (4, .pointer (some ⟨b1, 0, none⟩)), (5, .pointer (some ⟨b2, 0, none⟩))] fun TA => ?_
  refine W.seq ?_
  refine W.drawn (by kernel_rfl) (by kernel_rfl) H.gn ?_
  have H3 := H
  refine RW.cl ?_
  refine WC.enter (fn := Tryd.f56) Tryd.func56 rfl ?_
  replace H := H3
  refine W.rg [] fun TA => ?_
  refine W.seq (W.region ?_)
  refine RW.v ?_
  refine RW.nil ?_
  refine W.rg [] fun TA => ?_
  refine W.seq (W.region ?_)
  refine RW.mk H (.row ⟨[.int .i64 0], 3, false⟩) ?_
  clear H; intro _ b4 _ H
  refine RW.st H 0 [.int .i64 200000] [.int .i64 200000] ?_
  clear H; intro _ _ H; dsimp only [setL, delL] at H
  refine RW.nil ?_
  refine W.rg [(1, .pointer (some ⟨b4, 0, none⟩))] fun TA => ?_
  refine W.seq (W.region ?_)
  refine RW.val (v := .func (.func 65) #[] #[.pointer (some ⟨b4, 0, none⟩)]) (by kernel_rfl) (by kernel_rfl) (by kernel_rfl) (by kernel_rfl) ?_
  refine RW.v ?_
  refine RW.nil ?_
  refine W.rg [(0, .func (.func 65) #[] #[.pointer (some ⟨b4, 0, none⟩)])] fun TA => ?_
  refine W.ret ?_
  refine endG (by rfl) (by exact resL_tmp rfl) ?_
  have H5 := H
  refine RW.v ?_
  refine RW.ld H5 2 2 ?_
  refine RW.ld H5 1 2 ?_
  refine RW.cl ?_
  refine WC.enter (fn := Tryd.f65) Tryd.func65 rfl ?_
  replace H := H5
  refine W.rg [(0, .pointer (some ⟨h, 0, none⟩)), (1, .agg #[.int .i64 a.1, .int .i64 a.2]), (2, .agg #[.int .i64 b.1, .int .i64 b.2]), (3, .pointer (some ⟨b4, 0, none⟩))] fun TA => ?_
  refine W.seq (W.region ?_)
  refine RW.mk H (.row ⟨[.int .i64 a.1, .int .i64 a.2], 28, false⟩) ?_
  clear H; intro _ b6 _ H
  refine RW.mk H (.row ⟨[.int .i64 b.1, .int .i64 b.2], 28, false⟩) ?_
  clear H; intro _ b7 _ H
  iterate 2 refine RW.v ?_
  refine RW.nil ?_
  refine W.rg [(0, .pointer (some ⟨h, 0, none⟩)), (3, .pointer (some ⟨b4, 0, none⟩)), (5, .pointer (some ⟨b6, 0, none⟩)), (6, .pointer (some ⟨b7, 0, none⟩))] fun TA => ?_
  refine W.seq (W.region ?_)
  refine RW.v ?_
  refine RW.ld H 1 2 ?_
  refine RW.ld H 0 2 ?_
  replace H : Lies G66 (heapAbs h m) F _ (.at_ b4 (.row ⟨[.int .i64 200000], 3, false⟩) :: .at_ b7 (.row ⟨[.int .i64 b.1, .int .i64 b.2], 28, false⟩) :: .at_ b6 (.row ⟨[.int .i64 a.1, .int .i64 a.2], 28, false⟩) :: .at_ b2 (.row ⟨[.int .i64 b.1, .int .i64 b.2], 28, false⟩) :: .at_ b1 (.row ⟨[.int .i64 a.1, .int .i64 a.2], 28, false⟩) :: (L)) := H.perm (List.perm_middle (l₁ := ([.at_ b7 (.row ⟨[.int .i64 b.1, .int .i64 b.2], 28, false⟩), .at_ b6 (.row ⟨[.int .i64 a.1, .int .i64 a.2], 28, false⟩)] : List Ent)))
  refine RW.call (by kernel_rfl) (by kernel_rfl) rfl rfl rfl (by kernel_rfl) (by kernel_rfl) ((equal_hw ga gb hlim H).mono ?_)
  clear H
  rintro _ _ ⟨rfl, n8, H⟩
  iterate 4 refine RW.v ?_
  refine RW.nil ?_
  replace H := ((H.del 2).del 1)
  dsimp only [setL, delL] at H
  refine W.rg [(7, .bool (decide (keyW m a = keyW m b))), (8, .int .i64 0)] fun TA => ?_
  refine W.ret ?_
  refine endG (by rfl) (by exact resL_tmp (by exact resL_tmp rfl)) ?_
  have H9 := H
  iterate 4 refine RW.v ?_
  refine RW.nil ?_
  refine ⟨⟨by kernel_rfl, ⟨trivial, trivial, dyn_row (H5.get 2 rfl) (H9.get 2 rfl) ⟨fun _ => H3.get 1 rfl, fun h => Bool.noConfusion h, fun h => Bool.noConfusion h, fun h => Bool.noConfusion h, fun _ => H5.get 2 rfl, fun h => Bool.noConfusion h, fun h => Bool.noConfusion h, fun h => Bool.noConfusion h, fun h => Bool.noConfusion h, trivial⟩, dyn_row (H5.get 1 rfl) (H9.get 1 rfl) ⟨fun _ => H3.get 0 rfl, fun h => Bool.noConfusion h, fun h => Bool.noConfusion h, fun h => Bool.noConfusion h, fun _ => H5.get 1 rfl, fun h => Bool.noConfusion h, fun h => Bool.noConfusion h, fun h => Bool.noConfusion h, fun h => Bool.noConfusion h, trivial⟩, trivial, trivial, trivial, trivial, trivial, trivial⟩⟩, ?_⟩
  replace H := H9
  clear H3 H5 H9
  replace H := (((H.del 2).del 1).del 0)
  dsimp only [setL, delL] at H
  refine W.rg [(6, .bool (decide (keyW m a = keyW m b))), (7, .int .i64 0)] fun TA => ?_
  refine W.ret ?_
  refine endG (by rfl) (by exact resL_tmp (by exact resL_tmp rfl)) ?_
  exact ⟨rfl, H⟩
end
end Go.Proofs.YtaaebeiigkhcjaaDoor
