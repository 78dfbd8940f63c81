/-
 lists.Equal on the words of the laws of hooks. Conditions: the heap lies there as HeapAt says. Conditions: the heap lies there as HeapAt says.
 find, entry, depth of the package hooks. Conditions: the heap lies there as HeapAt says.
-/
import Derived.Test.YtaaebeiigkhcjaaGreatDoorHka
import Derived.Test.YtaaebeiigkhcjaaGreatDoorMa
import Derived.Test.YtaaebeiigkhcjaaGreatDoorS4
import Derived.Test.YtaaebeiigkhcjaaGreatDoorHq
namespace Go.Proofs.YtaaebeiigkhcjaaGreatDoor
set_option maxRecDepth 100000
def keyW (m : HM) (x : Wd) : Wd := match m.find x with
 | some (.pair _ d) => (match m.find d with
  | some (.pair e _) => (2, e.2)
  | _ => x)
 | _ => x
inductive Good (m : HM) : Wd → Prop
 | atom {x : Wd} (h : x.1 = 0 ∨ x.1 = 1) : Good m x
 | lam {i j k : Int} (h1 : m.find (2, i) = some (.pair (1, 7) (2, j))) (h2 : m.find (2, j) = some (.pair (0, k) (1, 0))) : Good m (2, i)
theorem find_atom {m : HM} {x : Wd} (h : x.1 = 0 ∨ x.1 = 1) : m.find x = none := by
 cases e : m.find x with
 | none => rfl
 | some o => have := (HM.find_mem e).2.2; cases o <;> (simp only [HObj.kind] at this; omega)
theorem keyW_atom {m : HM} {x : Wd} (h : x.1 = 0 ∨ x.1 = 1) : keyW m x = x := by unfold keyW; rw [find_atom h]
theorem keyW_lam {m : HM} {i j k : Int} (h1 : m.find (2, i) = some (.pair (1, 7) (2, j))) (h2 : m.find (2, j) = some (.pair (0, k) (1, 0))) : keyW m (2, i) = (2, k) := by unfold keyW; rw [h1]; simp only [h2]
theorem lam_same {m : HM} {j j' k k' : Int} (h : j = j') (h2 : m.find (2, j) = some (.pair (0, k) (1, 0))) (h2' : m.find (2, j') = some (.pair (0, k') (1, 0))) : ((2, k) : Wd) = (2, k') := by
 subst h
 rw [h2] at h2'
 cases h2'
 rfl
theorem Good.mono {m m' : HM} (f : FindsAll m m') {x : Wd} (h : Good m x) : Good m' x ∧ keyW m' x = keyW m x := by
 cases h with
 | atom h => exact ⟨.atom h, by rw [keyW_atom h, keyW_atom h]⟩
 | lam h1 h2 => exact ⟨.lam (f _ _ h1) (f _ _ h2), by rw [keyW_lam h1 h2, keyW_lam (f _ _ h1) (f _ _ h2)]⟩
theorem wd_eq {a b : Wd} (h : (a.1 == b.1 && a.2 == b.2) = true) : a = b := by
 rw [Bool.and_eq_true, beq_iff_eq, beq_iff_eq] at h
 exact Prod.ext h.1 h.2
theorem wd_ne {a b : Wd} (h : (a.1 == b.1 && a.2 == b.2) = false) : a ≠ b := fun e => by
 subst e
 simp at h
theorem dec_yes {a b : Wd} (h : a = b) : Value.tuple #[.bool true, .int .i64 0] = .tuple #[.bool (decide (a = b)), .int .i64 0] := by rw [decide_eq_true h]
theorem dec_no {a b : Wd} (h : a ≠ b) : Value.tuple #[.bool false, .int .i64 0] = .tuple #[.bool (decide (a = b)), .int .i64 0] := by rw [decide_eq_false h]
section
variable {h : Nat} {m : HM} {σ : Mem} {F : Nat → Option Blk2} {L : List Ent}
theorem s_textNo (x : Wd) (hx : x.1 = 0 ∨ x.1 = 1) (ha : σ.abs = heapAbs h m) : SCall G66 Tryz.prog 126 #[pp h, wdV x] σ (.tuple #[.string ByteArray.empty, .int .i64 6]) σ := by
 have e1 : m.textOf x = (ByteArray.empty, 6) := by unfold HM.textOf; rw [find_atom hx]; rfl
 exact heap_read (l := [wdV x]) ha rfl rfl fun w p S hH => by have := textOf_heap S p m x w hH; rwa [e1] at this
theorem s_vecNo (x : Wd) (hx : x.1 = 0 ∨ x.1 = 1) (ha : σ.abs = heapAbs h m) : SCall G66 Tryz.prog 127 #[pp h, wdV x] σ (.tuple #[.slice none 0 0, .int .i64 6]) σ :=
 heap_read (l := [wdV x]) ha rfl rfl fun w p S hH => vecOf_heap_no S p m x w hH fun l e => by rw [find_atom hx] at e; cases e
theorem cdrY_call {k : Int} {a d : Wd} (ha : σ.abs = heapAbs h m) (hf : m.find (2, k) = some (.pair a d)) : SCall G66 Tryz.prog 82 #[.pointer (some ⟨h, 0, none⟩), .agg #[.int .i64 2, .int .i64 k]] σ (.tuple #[.agg #[.int .i64 d.1, .int .i64 d.2], .int .i64 0]) σ := by
 have := s_cdr (G := G66) (2, k) ha
 have e : m.cdr (2, k) = (d, 0) := by simp [HM.cdr, hf]
 rwa [e] at this
set_option maxHeartbeats 16000000 in
theorem equal_hw {a b : Wd} {Lp : Nat} (ga : Good m a) (gb : Good m b) (hlim : 0 < m.limit) (H : Lies G66 (heapAbs h m) F σ (.at_ Lp (.row ⟨[.int .i64 200000], 3, false⟩) :: L)) :
  WC G66 Tryz.prog 104 #[pp h, wdV a, wdV b, pp Lp] σ fun v σ' => v = .tuple #[.bool (decide (keyW m a = keyW m b)), .int .i64 0] ∧ ∃ n, Lies G66 (heapAbs h m) F σ' (.at_ Lp (.row ⟨[.int .i64 n], 3, false⟩) :: L) := by
 cases ga with
 | atom ha =>
  cases gb with
  | atom hb =>
   refine WC.enterD (fn := Tryz.f104) Tryz.func104 rfl ?_
   refine W.rg [(0, pp h), (1, .agg #[.int .i64 a.1, .int .i64 a.2]), (2, .agg #[.int .i64 b.1, .int .i64 b.2]), (3, pp Lp)] fun TA => ?_
   refine W.seq (W.region ?_)
   refine RW.mk H (.row ⟨[.int .i64 a.1, .int .i64 a.2], 27, false⟩) ?_
   clear H; intro _ b1 _ H
   refine RW.mk H (.row ⟨[.int .i64 b.1, .int .i64 b.2], 27, false⟩) ?_
   clear H; intro _ b2 _ H
   refine RW.mk H (.row ⟨[.bool false], 4, false⟩) ?_
   clear H; intro _ b3 _ H
   refine RW.mk H (.row ⟨[.int .i64 0], 30, false⟩) ?_
   clear H; intro _ b4 _ H
   refine RW.nil ?_
   refine W.rg [(0, pp h), (3, pp Lp), (5, pp b1), (6, pp b2), (8, pp b3), (9, pp b4)] fun TA => ?_
   refine W.seq ?_
   refine W.seq (W.region ?_)
   refine RW.v ?_
   refine RW.cl ?_
   refine ((made_wc (G := G66) (h := h) H.abs hlim).mono ?_)
   rintro _ σ5 ⟨rfl, hσ⟩
   obtain rfl := hσ.symm
   refine RW.v ?_
   refine RW.nil ?_
   refine W.c0 ?_
   refine W.skip ?_
   refine W.seq ?_
   refine W.deferred (f := 115) (fa := #[]) (as_ := #[]) (ca := #[.pointer (some ⟨b3, 0, none⟩), .pointer (some ⟨b4, 0, none⟩)]) [_] rfl rfl rfl rfl rfl (by kernel_rfl) ?_
   refine RW.v ?_
   refine RW.nil ?_
   refine ⟨by kernel_rfl, by kernel_rfl, ?_⟩
   refine W.rg [(0, pp h), (3, pp Lp), (5, pp b1), (6, pp b2), (8, pp b3), (9, pp b4)] fun TA => ?_
   refine W.seq (W.region ?_)
   refine RW.v ?_
   refine RW.ld H 3 2 ?_
   refine RW.ld H 2 2 ?_
   refine RW.v ?_
   refine RW.cl ?_
   refine WC.enter (fn := Tryz.f116) Tryz.func116 rfl ?_
   refine W.rg [(0, pp h), (1, .agg #[.int .i64 a.1, .int .i64 a.2]), (2, .agg #[.int .i64 b.1, .int .i64 b.2]), (3, .int .i64 0), (4, pp Lp)] fun TA => ?_
   refine W.seq (W.region ?_)
   refine RW.mk H (.row ⟨[.int .i64 a.1, .int .i64 a.2], 27, false⟩) ?_
   clear H; intro _ b6 _ H
   refine RW.mk H (.row ⟨[.int .i64 b.1, .int .i64 b.2], 27, false⟩) ?_
   clear H; intro _ b7 _ H
   refine RW.v ?_
   refine RW.nil ?_
   refine W.rg [(0, pp h), (3, .int .i64 0), (4, pp Lp), (6, pp b6), (7, pp b7)] fun TA => ?_
   refine W.seq ?_
   refine W.seq (W.region ?_)
   iterate 2 refine RW.v ?_
   refine RW.nil ?_
   refine W.c0 ?_
   refine W.skip ?_
   refine W.seq (W.region ?_)
   refine RW.v ?_
   refine RW.nil ?_
   refine W.rg [(0, pp h), (3, .int .i64 0), (4, pp Lp), (6, pp b6), (7, pp b7), (11, .int .i64 0)] fun TA => ?_
   refine W.block ?_
   refine W.unroll (WL.once ?_)
   refine W.seq ?_
   refine W.block ?_
   refine W.seq ?_
   refine W.block ?_
   refine W.seq (W.region ?_)
   iterate 2 refine RW.v ?_
   refine RW.ld H 6 1 ?_
   iterate 2 refine RW.v ?_
   refine RW.nil ?_
   refine W.c0 ?_
   refine W.seq (W.region ?_)
   iterate 3 refine RW.v ?_
   refine RW.nil ?_
   refine W.c0 ?_
   refine W.skip ?_
   refine blkQ_normal ?_
   refine W.seq (W.region ?_)
   iterate 2 refine RW.v ?_
   refine RW.ld H 6 1 ?_
   iterate 2 refine RW.v ?_
   refine RW.st H 6 [.int .i64 199999] [.int .i64 199999] ?_
   clear H; intro _ _ H; dsimp only [setL, delL] at H
   refine RW.nil ?_
   refine W.rg [(0, pp h), (3, .int .i64 0), (4, pp Lp), (6, pp b6), (7, pp b7), (11, .int .i64 0)] fun TA => ?_
   refine W.seq ?_
   refine W.block ?_
   refine W.seq (W.region ?_)
   refine RW.ld H 1 2 ?_
   refine RW.ld H 0 2 ?_
   refine RW.vop (v := .bool (a.1 == b.1 && a.2 == b.2)) (by kernel_rfl) (by kernel_rfl) (vop_eqS (b := (a.1 == b.1 && a.2 == b.2)) (r := (a.1 == b.1 && a.2 == b.2)) rfl (.inl ⟨rfl, rfl⟩) rfl rfl rfl rfl (by kernel_rfl) (fun w => eqWd _ _ _ _ w)) (by kernel_rfl) ?_
   refine RW.v ?_
   refine RW.nil ?_
   refine W.rg [(0, pp h), (3, .int .i64 0), (4, pp Lp), (6, pp b6), (7, pp b7), (11, .int .i64 0), (39, .bool (a.1 == b.1 && a.2 == b.2))] fun TA => ?_
   refine W.cond rfl (fun hc8 => ?_) (fun hc8 => ?_)
   ·have hc8b := hc8
    have hk : keyW m a = keyW m b := by rw [wd_eq hc8]
    refine W.seq (W.region ?_)
    refine RW.v ?_
    refine RW.nil ?_
    replace H := ((H.del 1).del 0)
    dsimp only [setL, delL] at H
    refine W.ret ?_
    refine blkQ_ret ?_
    refine seqQ_ret ?_
    refine blkQ_ret ?_
    refine seqQ_ret ?_
    refine onceQ_ret ?_
    refine blkQ_ret ?_
    refine endG (by rfl) (by exact resL_tmp rfl) ?_
    refine RW.st H 1 [.bool true] [.bool true] ?_
    clear H; intro _ _ H; dsimp only [setL, delL] at H
    refine RW.st H 0 [.int .i64 0] [.int .i64 0] ?_
    clear H; intro _ _ H; dsimp only [setL, delL] at H
    refine RW.nil ?_
    replace H := ((H.del 3).del 2)
    dsimp only [setL, delL] at H
    refine W.ret ?_
    obtain ⟨σ8, hd, hσ⟩ := rec_call (G := G66) b3 b4
    obtain rfl := hσ
    exact ⟨rfl, _, Shut.one (by kernel_rfl) hd (.nil _), _, resL_cell rfl (H.get 1 rfl) (by rw [uT_eq]; exact Tryz.underlying4) (by kernel_rfl) rfl rfl (by exact resL_cell rfl (H.get 0 rfl) (by rw [uT_eq]; exact Tryz.underlying30) (by kernel_rfl) rfl rfl rfl), (by exact dec_yes hk), _, ((H.del 1).del 0)⟩
   ·have hc8b := hc8
    have hk : keyW m a ≠ keyW m b := by rw [keyW_atom ha, keyW_atom hb]; exact wd_ne hc8
    refine W.seq (W.region ?_)
    refine RW.v ?_
    refine RW.ld H 1 2 ?_
    refine RW.cl ?_
    refine WC.enter (fn := Tryz.f80) Tryz.func80 rfl ?_
    refine W.rg [(0, pp h), (1, .agg #[.int .i64 a.1, .int .i64 a.2])] fun TA => ?_
    refine W.seq (W.region ?_)
    refine RW.mk H (.row ⟨[.int .i64 a.1, .int .i64 a.2], 27, false⟩) ?_
    clear H; intro _ b9 _ H
    refine RW.v ?_
    refine RW.nil ?_
    refine W.rg [(0, pp h), (3, pp b9)] fun TA => ?_
    refine W.seq (W.region ?_)
    refine RW.v ?_
    refine RW.ld H 0 1 ?_
    refine RW.valE (v' := .bool false) (by kernel_rfl) (by kernel_rfl) rfl (congrArg Value.bool (beq_eq_false_iff_ne.2 (by omega))) (by kernel_rfl) ?_
    refine RW.v ?_
    refine RW.skip (by rfl) (by kernel_rfl) ?_
    refine RW.skip (by rfl) (by kernel_rfl) ?_
    refine RW.skip (by rfl) (by kernel_rfl) ?_
    iterate 2 refine RW.v ?_
    refine RW.nil ?_
    replace H := (H.del 0)
    dsimp only [setL, delL] at H
    refine W.ret ?_
    refine endG (by rfl) (by exact resL_tmp rfl) ?_
    iterate 2 refine RW.v ?_
    refine RW.skip (by rfl) (by kernel_rfl) ?_
    refine RW.skip (by rfl) (by kernel_rfl) ?_
    refine RW.skip (by rfl) (by kernel_rfl) ?_
    refine RW.skip (by rfl) (by kernel_rfl) ?_
    iterate 2 refine RW.v ?_
    refine RW.nil ?_
    refine W.c1 ?_
    refine W.seq (W.region ?_)
    refine RW.v ?_
    refine RW.ld H 1 2 ?_
    refine RW.ld H 0 2 ?_
    iterate 2 refine RW.v ?_
    refine RW.cl ?_
    refine WC.enter (fn := Tryz.f123) Tryz.func123 rfl ?_
    refine W.rg [(0, pp h), (1, .agg #[.int .i64 a.1, .int .i64 a.2]), (2, .agg #[.int .i64 b.1, .int .i64 b.2]), (3, .int .i64 0), (4, pp Lp)] fun TA => ?_
    refine W.seq (W.region ?_)
    refine RW.mk H (.row ⟨[.int .i64 a.1, .int .i64 a.2], 27, false⟩) ?_
    clear H; intro _ b10 _ H
    refine RW.mk H (.row ⟨[.int .i64 b.1, .int .i64 b.2], 27, false⟩) ?_
    clear H; intro _ b11 _ H
    refine RW.v ?_
    refine RW.nil ?_
    refine W.rg [(0, pp h), (3, .int .i64 0), (4, pp Lp), (6, pp b10), (7, pp b11)] fun TA => ?_
    refine W.seq ?_
    refine W.seq (W.region ?_)
    refine RW.v ?_
    refine RW.ld H 1 1 ?_
    refine RW.v ?_
    refine RW.ld H 0 1 ?_
    refine RW.v ?_
    refine RW.nil ?_
    refine W.rg [(0, pp h), (3, .int .i64 0), (4, pp Lp), (6, pp b10), (7, pp b11), (22, .bool (a.1 != b.1))] fun TA => ?_
    refine W.cond rfl (fun hc12 => ?_) (fun hc12 => ?_)
    ·have hc12b := hc12
     have hc12 := bne_iff_ne.1 hc12
     refine W.seq (W.region ?_)
     refine RW.v ?_
     refine RW.nil ?_
     replace H := ((H.del 1).del 0)
     dsimp only [setL, delL] at H
     refine W.ret ?_
     refine seqQ_ret ?_
     refine endG (by rfl) (by exact resL_tmp rfl) ?_
     refine RW.v ?_
     refine RW.nil ?_
     replace H := ((H.del 1).del 0)
     dsimp only [setL, delL] at H
     refine W.ret ?_
     refine blkQ_ret ?_
     refine seqQ_ret ?_
     refine blkQ_ret ?_
     refine seqQ_ret ?_
     refine onceQ_ret ?_
     refine blkQ_ret ?_
     refine endG (by rfl) (by exact resL_tmp rfl) ?_
     refine RW.st H 1 [.bool false] [.bool false] ?_
     clear H; intro _ _ H; dsimp only [setL, delL] at H
     refine RW.st H 0 [.int .i64 0] [.int .i64 0] ?_
     clear H; intro _ _ H; dsimp only [setL, delL] at H
     refine RW.nil ?_
     replace H := ((H.del 3).del 2)
     dsimp only [setL, delL] at H
     refine W.ret ?_
     obtain ⟨σ8, hd, hσ⟩ := rec_call (G := G66) b3 b4
     obtain rfl := hσ
     exact ⟨rfl, _, Shut.one (by kernel_rfl) hd (.nil _), _, resL_cell rfl (H.get 1 rfl) (by rw [uT_eq]; exact Tryz.underlying4) (by kernel_rfl) rfl rfl (by exact resL_cell rfl (H.get 0 rfl) (by rw [uT_eq]; exact Tryz.underlying30) (by kernel_rfl) rfl rfl rfl), (by exact dec_no hk), _, ((H.del 1).del 0)⟩
    ·have hc12b := hc12
     have hc12 := (bne_eq_false_iff_eq.1) hc12
     refine W.skip ?_
     refine W.seq (W.region ?_)
     refine RW.v ?_
     refine RW.ld H 1 2 ?_
     refine RW.cl ?_
     refine ⟨_, _, (s_textNo ((a.1, a.2) : Wd) ha H.abs), ?_⟩
     iterate 5 refine RW.v ?_
     refine RW.nil ?_
     refine W.rg [(0, pp h), (3, .int .i64 0), (4, pp Lp), (6, pp b10), (7, pp b11), (11, .string ByteArray.empty), (12, .int .i64 6)] fun TA => ?_
     refine W.seq (W.region ?_)
     refine RW.v ?_
     refine RW.ld H 0 2 ?_
     refine RW.cl ?_
     refine ⟨_, _, (s_textNo ((b.1, b.2) : Wd) hb H.abs), ?_⟩
     iterate 5 refine RW.v ?_
     refine RW.nil ?_
     refine W.rg [(0, pp h), (3, .int .i64 0), (4, pp Lp), (6, pp b10), (7, pp b11), (11, .string ByteArray.empty), (12, .int .i64 6), (13, .string ByteArray.empty), (14, .int .i64 6)] fun TA => ?_
     refine W.seq ?_
     refine W.seq (W.region ?_)
     iterate 3 refine RW.v ?_
     refine RW.skip (by rfl) (by kernel_rfl) ?_
     refine RW.skip (by rfl) (by kernel_rfl) ?_
     refine RW.v ?_
     refine RW.nil ?_
     refine W.c0 ?_
     refine W.skip ?_
     refine W.seq (W.region ?_)
     refine RW.v ?_
     refine RW.ld H 1 2 ?_
     refine RW.cl ?_
     refine ⟨_, _, (s_vecNo ((a.1, a.2) : Wd) ha H.abs), ?_⟩
     iterate 5 refine RW.v ?_
     refine RW.nil ?_
     replace H := (H.del 1)
     dsimp only [setL, delL] at H
     refine W.rg [(0, pp h), (3, .int .i64 0), (4, pp Lp), (7, pp b11), (12, .int .i64 6), (15, .slice none 0 0)] fun TA => ?_
     refine W.seq (W.region ?_)
     refine RW.v ?_
     refine RW.ld H 0 2 ?_
     refine RW.cl ?_
     refine ⟨_, _, (s_vecNo ((b.1, b.2) : Wd) hb H.abs), ?_⟩
     iterate 5 refine RW.v ?_
     refine RW.nil ?_
     replace H := (H.del 0)
     dsimp only [setL, delL] at H
     refine W.rg [(0, pp h), (3, .int .i64 0), (4, pp Lp), (12, .int .i64 6), (14, .int .i64 6), (15, .slice none 0 0), (16, .slice none 0 0)] fun TA => ?_
     refine W.seq ?_
     refine W.seq (W.region ?_)
     iterate 3 refine RW.v ?_
     refine RW.skip (by rfl) (by kernel_rfl) ?_
     refine RW.skip (by rfl) (by kernel_rfl) ?_
     iterate 2 refine RW.v ?_
     refine RW.skip (by rfl) (by kernel_rfl) ?_
     refine RW.skip (by rfl) (by kernel_rfl) ?_
     refine RW.skip (by rfl) (by kernel_rfl) ?_
     refine RW.skip (by rfl) (by kernel_rfl) ?_
     refine RW.skip (by rfl) (by kernel_rfl) ?_
     refine RW.v ?_
     refine RW.nil ?_
     refine W.c1 ?_
     refine W.seq (W.region ?_)
     refine RW.v ?_
     refine RW.nil ?_
     refine W.ret ?_
     refine seqQ_ret ?_
     refine endG (by rfl) (by exact resL_tmp rfl) ?_
     refine RW.v ?_
     refine RW.nil ?_
     replace H := ((H.del 1).del 0)
     dsimp only [setL, delL] at H
     refine W.ret ?_
     refine blkQ_ret ?_
     refine seqQ_ret ?_
     refine blkQ_ret ?_
     refine seqQ_ret ?_
     refine onceQ_ret ?_
     refine blkQ_ret ?_
     refine endG (by rfl) (by exact resL_tmp rfl) ?_
     refine RW.st H 1 [.bool false] [.bool false] ?_
     clear H; intro _ _ H; dsimp only [setL, delL] at H
     refine RW.st H 0 [.int .i64 0] [.int .i64 0] ?_
     clear H; intro _ _ H; dsimp only [setL, delL] at H
     refine RW.nil ?_
     replace H := ((H.del 3).del 2)
     dsimp only [setL, delL] at H
     refine W.ret ?_
     obtain ⟨σ8, hd, hσ⟩ := rec_call (G := G66) b3 b4
     obtain rfl := hσ
     exact ⟨rfl, _, Shut.one (by kernel_rfl) hd (.nil _), _, resL_cell rfl (H.get 1 rfl) (by rw [uT_eq]; exact Tryz.underlying4) (by kernel_rfl) rfl rfl (by exact resL_cell rfl (H.get 0 rfl) (by rw [uT_eq]; exact Tryz.underlying30) (by kernel_rfl) rfl rfl rfl), (by exact dec_no hk), _, ((H.del 1).del 0)⟩
  | @lam i' j' k' h1' h2' =>
   refine WC.enterD (fn := Tryz.f104) Tryz.func104 rfl ?_
   refine W.rg [(0, pp h), (1, .agg #[.int .i64 a.1, .int .i64 a.2]), (2, .agg #[.int .i64 2, .int .i64 i']), (3, pp Lp)] fun TA => ?_
   have hk : keyW m a ≠ keyW m (2, i') := by rw [keyW_atom ha, keyW_lam h1' h2']; exact fun e => by rw [e] at ha; rcases ha with h | h <;> cases h
   refine W.seq (W.region ?_)
   refine RW.mk H (.row ⟨[.int .i64 a.1, .int .i64 a.2], 27, false⟩) ?_
   clear H; intro _ b1 _ H
   refine RW.mk H (.row ⟨[.int .i64 2, .int .i64 i'], 27, false⟩) ?_
   clear H; intro _ b2 _ H
   refine RW.mk H (.row ⟨[.bool false], 4, false⟩) ?_
   clear H; intro _ b3 _ H
   refine RW.mk H (.row ⟨[.int .i64 0], 30, false⟩) ?_
   clear H; intro _ b4 _ H
   refine RW.nil ?_
   refine W.rg [(0, pp h), (3, pp Lp), (5, pp b1), (6, pp b2), (8, pp b3), (9, pp b4)] fun TA => ?_
   refine W.seq ?_
   refine W.seq (W.region ?_)
   refine RW.v ?_
   refine RW.cl ?_
   refine ((made_wc (G := G66) (h := h) H.abs hlim).mono ?_)
   rintro _ σ5 ⟨rfl, hσ⟩
   obtain rfl := hσ.symm
   refine RW.v ?_
   refine RW.nil ?_
   refine W.c0 ?_
   refine W.skip ?_
   refine W.seq ?_
   refine W.deferred (f := 115) (fa := #[]) (as_ := #[]) (ca := #[.pointer (some ⟨b3, 0, none⟩), .pointer (some ⟨b4, 0, none⟩)]) [_] rfl rfl rfl rfl rfl (by kernel_rfl) ?_
   refine RW.v ?_
   refine RW.nil ?_
   refine ⟨by kernel_rfl, by kernel_rfl, ?_⟩
   refine W.rg [(0, pp h), (3, pp Lp), (5, pp b1), (6, pp b2), (8, pp b3), (9, pp b4)] fun TA => ?_
   refine W.seq (W.region ?_)
   refine RW.v ?_
   refine RW.ld H 3 2 ?_
   refine RW.ld H 2 2 ?_
   refine RW.v ?_
   refine RW.cl ?_
   refine WC.enter (fn := Tryz.f116) Tryz.func116 rfl ?_
   refine W.rg [(0, pp h), (1, .agg #[.int .i64 a.1, .int .i64 a.2]), (2, .agg #[.int .i64 2, .int .i64 i']), (3, .int .i64 0), (4, pp Lp)] fun TA => ?_
   refine W.seq (W.region ?_)
   refine RW.mk H (.row ⟨[.int .i64 a.1, .int .i64 a.2], 27, false⟩) ?_
   clear H; intro _ b6 _ H
   refine RW.mk H (.row ⟨[.int .i64 2, .int .i64 i'], 27, false⟩) ?_
   clear H; intro _ b7 _ H
   refine RW.v ?_
   refine RW.nil ?_
   refine W.rg [(0, pp h), (3, .int .i64 0), (4, pp Lp), (6, pp b6), (7, pp b7)] fun TA => ?_
   refine W.seq ?_
   refine W.seq (W.region ?_)
   iterate 2 refine RW.v ?_
   refine RW.nil ?_
   refine W.c0 ?_
   refine W.skip ?_
   refine W.seq (W.region ?_)
   refine RW.v ?_
   refine RW.nil ?_
   refine W.rg [(0, pp h), (3, .int .i64 0), (4, pp Lp), (6, pp b6), (7, pp b7), (11, .int .i64 0)] fun TA => ?_
   refine W.block ?_
   refine W.unroll (WL.once ?_)
   refine W.seq ?_
   refine W.block ?_
   refine W.seq ?_
   refine W.block ?_
   refine W.seq (W.region ?_)
   iterate 2 refine RW.v ?_
   refine RW.ld H 6 1 ?_
   iterate 2 refine RW.v ?_
   refine RW.nil ?_
   refine W.c0 ?_
   refine W.seq (W.region ?_)
   iterate 3 refine RW.v ?_
   refine RW.nil ?_
   refine W.c0 ?_
   refine W.skip ?_
   refine blkQ_normal ?_
   refine W.seq (W.region ?_)
   iterate 2 refine RW.v ?_
   refine RW.ld H 6 1 ?_
   iterate 2 refine RW.v ?_
   refine RW.st H 6 [.int .i64 199999] [.int .i64 199999] ?_
   clear H; intro _ _ H; dsimp only [setL, delL] at H
   refine RW.nil ?_
   refine W.rg [(0, pp h), (3, .int .i64 0), (4, pp Lp), (6, pp b6), (7, pp b7), (11, .int .i64 0)] fun TA => ?_
   refine W.seq ?_
   refine W.block ?_
   refine W.seq (W.region ?_)
   refine RW.ld H 1 2 ?_
   refine RW.ld H 0 2 ?_
   refine RW.vop (v := .bool false) (by kernel_rfl) (by kernel_rfl) (vop_eqS (b := false) (r := false) rfl (.inl ⟨rfl, rfl⟩) rfl rfl rfl rfl (by kernel_rfl) (fun w => (eqWd _ _ _ _ w).trans (by (first | refine congrArg (Result.ok · w) ?_ | skip); rw [Bool.and_eq_false_iff]; left; rw [beq_eq_false_iff_ne]; omega))) (by kernel_rfl) ?_
   refine RW.v ?_
   refine RW.nil ?_
   refine W.c0 ?_
   refine W.seq (W.region ?_)
   refine RW.v ?_
   refine RW.ld H 1 2 ?_
   refine RW.cl ?_
   refine WC.enter (fn := Tryz.f80) Tryz.func80 rfl ?_
   refine W.rg [(0, pp h), (1, .agg #[.int .i64 a.1, .int .i64 a.2])] fun TA => ?_
   refine W.seq (W.region ?_)
   refine RW.mk H (.row ⟨[.int .i64 a.1, .int .i64 a.2], 27, false⟩) ?_
   clear H; intro _ b8 _ H
   refine RW.v ?_
   refine RW.nil ?_
   refine W.rg [(0, pp h), (3, pp b8)] fun TA => ?_
   refine W.seq (W.region ?_)
   refine RW.v ?_
   refine RW.ld H 0 1 ?_
   refine RW.valE (v' := .bool false) (by kernel_rfl) (by kernel_rfl) rfl (congrArg Value.bool (beq_eq_false_iff_ne.2 (by omega))) (by kernel_rfl) ?_
   refine RW.v ?_
   refine RW.skip (by rfl) (by kernel_rfl) ?_
   refine RW.skip (by rfl) (by kernel_rfl) ?_
   refine RW.skip (by rfl) (by kernel_rfl) ?_
   iterate 2 refine RW.v ?_
   refine RW.nil ?_
   replace H := (H.del 0)
   dsimp only [setL, delL] at H
   refine W.ret ?_
   refine endG (by rfl) (by exact resL_tmp rfl) ?_
   iterate 2 refine RW.v ?_
   refine RW.skip (by rfl) (by kernel_rfl) ?_
   refine RW.skip (by rfl) (by kernel_rfl) ?_
   refine RW.skip (by rfl) (by kernel_rfl) ?_
   refine RW.skip (by rfl) (by kernel_rfl) ?_
   iterate 2 refine RW.v ?_
   refine RW.nil ?_
   refine W.c1 ?_
   refine W.seq (W.region ?_)
   refine RW.v ?_
   refine RW.ld H 1 2 ?_
   refine RW.ld H 0 2 ?_
   iterate 2 refine RW.v ?_
   refine RW.cl ?_
   refine WC.enter (fn := Tryz.f123) Tryz.func123 rfl ?_
   refine W.rg [(0, pp h), (1, .agg #[.int .i64 a.1, .int .i64 a.2]), (2, .agg #[.int .i64 2, .int .i64 i']), (3, .int .i64 0), (4, pp Lp)] fun TA => ?_
   refine W.seq (W.region ?_)
   refine RW.mk H (.row ⟨[.int .i64 a.1, .int .i64 a.2], 27, false⟩) ?_
   clear H; intro _ b9 _ H
   refine RW.mk H (.row ⟨[.int .i64 2, .int .i64 i'], 27, false⟩) ?_
   clear H; intro _ b10 _ H
   refine RW.v ?_
   refine RW.nil ?_
   refine W.rg [(0, pp h), (3, .int .i64 0), (4, pp Lp), (6, pp b9), (7, pp b10)] fun TA => ?_
   refine W.seq ?_
   refine W.seq (W.region ?_)
   refine RW.v ?_
   refine RW.ld H 1 1 ?_
   refine RW.v ?_
   refine RW.ld H 0 1 ?_
   refine RW.valE (v' := .bool true) (by kernel_rfl) (by kernel_rfl) rfl (congrArg Value.bool (bne_iff_ne.2 (by omega))) (by kernel_rfl) ?_
   refine RW.nil ?_
   refine W.c1 ?_
   refine W.seq (W.region ?_)
   refine RW.v ?_
   refine RW.nil ?_
   replace H := ((H.del 1).del 0)
   dsimp only [setL, delL] at H
   refine W.ret ?_
   refine seqQ_ret ?_
   refine endG (by rfl) (by exact resL_tmp rfl) ?_
   refine RW.v ?_
   refine RW.nil ?_
   replace H := ((H.del 1).del 0)
   dsimp only [setL, delL] at H
   refine W.ret ?_
   refine blkQ_ret ?_
   refine seqQ_ret ?_
   refine blkQ_ret ?_
   refine seqQ_ret ?_
   refine onceQ_ret ?_
   refine blkQ_ret ?_
   refine endG (by rfl) (by exact resL_tmp rfl) ?_
   refine RW.st H 1 [.bool false] [.bool false] ?_
   clear H; intro _ _ H; dsimp only [setL, delL] at H
   refine RW.st H 0 [.int .i64 0] [.int .i64 0] ?_
   clear H; intro _ _ H; dsimp only [setL, delL] at H
   refine RW.nil ?_
   replace H := ((H.del 3).del 2)
   dsimp only [setL, delL] at H
   refine W.ret ?_
   obtain ⟨σ8, hd, hσ⟩ := rec_call (G := G66) b3 b4
   obtain rfl := hσ
   exact ⟨rfl, _, Shut.one (by kernel_rfl) hd (.nil _), _, resL_cell rfl (H.get 1 rfl) (by rw [uT_eq]; exact Tryz.underlying4) (by kernel_rfl) rfl rfl (by exact resL_cell rfl (H.get 0 rfl) (by rw [uT_eq]; exact Tryz.underlying30) (by kernel_rfl) rfl rfl rfl), (by exact dec_no hk), _, ((H.del 1).del 0)⟩
 | @lam i j k h1 h2 =>
  cases gb with
  | atom hb =>
   refine WC.enterD (fn := Tryz.f104) Tryz.func104 rfl ?_
   refine W.rg [(0, pp h), (1, .agg #[.int .i64 2, .int .i64 i]), (2, .agg #[.int .i64 b.1, .int .i64 b.2]), (3, pp Lp)] fun TA => ?_
   have hk : keyW m (2, i) ≠ keyW m b := by rw [keyW_atom hb, keyW_lam h1 h2]; exact fun e => by rw [← e] at hb; rcases hb with h | h <;> cases h
   refine W.seq (W.region ?_)
   refine RW.mk H (.row ⟨[.int .i64 2, .int .i64 i], 27, false⟩) ?_
   clear H; intro _ b1 _ H
   refine RW.mk H (.row ⟨[.int .i64 b.1, .int .i64 b.2], 27, false⟩) ?_
   clear H; intro _ b2 _ H
   refine RW.mk H (.row ⟨[.bool false], 4, false⟩) ?_
   clear H; intro _ b3 _ H
   refine RW.mk H (.row ⟨[.int .i64 0], 30, false⟩) ?_
   clear H; intro _ b4 _ H
   refine RW.nil ?_
   refine W.rg [(0, pp h), (3, pp Lp), (5, pp b1), (6, pp b2), (8, pp b3), (9, pp b4)] fun TA => ?_
   refine W.seq ?_
   refine W.seq (W.region ?_)
   refine RW.v ?_
   refine RW.cl ?_
   refine ((made_wc (G := G66) (h := h) H.abs hlim).mono ?_)
   rintro _ σ5 ⟨rfl, hσ⟩
   obtain rfl := hσ.symm
   refine RW.v ?_
   refine RW.nil ?_
   refine W.c0 ?_
   refine W.skip ?_
   refine W.seq ?_
   refine W.deferred (f := 115) (fa := #[]) (as_ := #[]) (ca := #[.pointer (some ⟨b3, 0, none⟩), .pointer (some ⟨b4, 0, none⟩)]) [_] rfl rfl rfl rfl rfl (by kernel_rfl) ?_
   refine RW.v ?_
   refine RW.nil ?_
   refine ⟨by kernel_rfl, by kernel_rfl, ?_⟩
   refine W.rg [(0, pp h), (3, pp Lp), (5, pp b1), (6, pp b2), (8, pp b3), (9, pp b4)] fun TA => ?_
   refine W.seq (W.region ?_)
   refine RW.v ?_
   refine RW.ld H 3 2 ?_
   refine RW.ld H 2 2 ?_
   refine RW.v ?_
   refine RW.cl ?_
   refine WC.enter (fn := Tryz.f116) Tryz.func116 rfl ?_
   refine W.rg [(0, pp h), (1, .agg #[.int .i64 2, .int .i64 i]), (2, .agg #[.int .i64 b.1, .int .i64 b.2]), (3, .int .i64 0), (4, pp Lp)] fun TA => ?_
   refine W.seq (W.region ?_)
   refine RW.mk H (.row ⟨[.int .i64 2, .int .i64 i], 27, false⟩) ?_
   clear H; intro _ b6 _ H
   refine RW.mk H (.row ⟨[.int .i64 b.1, .int .i64 b.2], 27, false⟩) ?_
   clear H; intro _ b7 _ H
   refine RW.v ?_
   refine RW.nil ?_
   refine W.rg [(0, pp h), (3, .int .i64 0), (4, pp Lp), (6, pp b6), (7, pp b7)] fun TA => ?_
   refine W.seq ?_
   refine W.seq (W.region ?_)
   iterate 2 refine RW.v ?_
   refine RW.nil ?_
   refine W.c0 ?_
   refine W.skip ?_
   refine W.seq (W.region ?_)
   refine RW.v ?_
   refine RW.nil ?_
   refine W.rg [(0, pp h), (3, .int .i64 0), (4, pp Lp), (6, pp b6), (7, pp b7), (11, .int .i64 0)] fun TA => ?_
   refine W.block ?_
   refine W.unroll (WL.once ?_)
   refine W.seq ?_
   refine W.block ?_
   refine W.seq ?_
   refine W.block ?_
   refine W.seq (W.region ?_)
   iterate 2 refine RW.v ?_
   refine RW.ld H 6 1 ?_
   iterate 2 refine RW.v ?_
   refine RW.nil ?_
   refine W.c0 ?_
   refine W.seq (W.region ?_)
   iterate 3 refine RW.v ?_
   refine RW.nil ?_
   refine W.c0 ?_
   refine W.skip ?_
   refine blkQ_normal ?_
   refine W.seq (W.region ?_)
   iterate 2 refine RW.v ?_
   refine RW.ld H 6 1 ?_
   iterate 2 refine RW.v ?_
   refine RW.st H 6 [.int .i64 199999] [.int .i64 199999] ?_
   clear H; intro _ _ H; dsimp only [setL, delL] at H
   refine RW.nil ?_
   refine W.rg [(0, pp h), (3, .int .i64 0), (4, pp Lp), (6, pp b6), (7, pp b7), (11, .int .i64 0)] fun TA => ?_
   refine W.seq ?_
   refine W.block ?_
   refine W.seq (W.region ?_)
   refine RW.ld H 1 2 ?_
   refine RW.ld H 0 2 ?_
   refine RW.vop (v := .bool false) (by kernel_rfl) (by kernel_rfl) (vop_eqS (b := false) (r := false) rfl (.inl ⟨rfl, rfl⟩) rfl rfl rfl rfl (by kernel_rfl) (fun w => (eqWd _ _ _ _ w).trans (by (first | refine congrArg (Result.ok · w) ?_ | skip); rw [Bool.and_eq_false_iff]; left; rw [beq_eq_false_iff_ne]; omega))) (by kernel_rfl) ?_
   refine RW.v ?_
   refine RW.nil ?_
   refine W.c0 ?_
   refine W.seq (W.region ?_)
   refine RW.v ?_
   refine RW.ld H 1 2 ?_
   refine RW.cl ?_
   refine WC.enter (fn := Tryz.f80) Tryz.func80 rfl ?_
   refine W.rg [(0, pp h), (1, .agg #[.int .i64 2, .int .i64 i])] fun TA => ?_
   refine W.seq (W.region ?_)
   refine RW.mk H (.row ⟨[.int .i64 2, .int .i64 i], 27, false⟩) ?_
   clear H; intro _ b8 _ H
   refine RW.v ?_
   refine RW.nil ?_
   refine W.rg [(0, pp h), (3, pp b8)] fun TA => ?_
   refine W.seq (W.region ?_)
   refine RW.v ?_
   refine RW.ld H 0 1 ?_
   iterate 2 refine RW.v ?_
   refine RW.val (by rfl) (by kernel_rfl) rfl (by kernel_rfl) ?_
   refine RW.ldL H 0 2 (by rfl) (by kernel_rfl) rfl rfl rfl rfl rfl (by kernel_rfl) ?_
   refine RW.cl (hw := by rfl) ?_
   refine ⟨_, _, (liveY_call (G := G66) H.abs h1), ?_⟩
   iterate 2 refine RW.v ?_
   refine RW.nil ?_
   replace H := (H.del 0)
   dsimp only [setL, delL] at H
   refine W.ret ?_
   refine endG (by rfl) (by exact resL_tmp rfl) ?_
   iterate 2 refine RW.v ?_
   refine RW.val (by rfl) (by kernel_rfl) rfl (by kernel_rfl) ?_
   refine RW.ldL H 0 2 (by rfl) (by kernel_rfl) rfl rfl rfl rfl rfl (by kernel_rfl) ?_
   refine RW.cl (hw := by rfl) ?_
   refine WC.enter (fn := Tryz.f80) Tryz.func80 rfl ?_
   refine W.rg [(0, pp h), (1, .agg #[.int .i64 b.1, .int .i64 b.2])] fun TA => ?_
   refine W.seq (W.region ?_)
   refine RW.mk H (.row ⟨[.int .i64 b.1, .int .i64 b.2], 27, false⟩) ?_
   clear H; intro _ b9 _ H
   refine RW.v ?_
   refine RW.nil ?_
   refine W.rg [(0, pp h), (3, pp b9)] fun TA => ?_
   refine W.seq (W.region ?_)
   refine RW.v ?_
   refine RW.ld H 0 1 ?_
   refine RW.valE (v' := .bool false) (by kernel_rfl) (by kernel_rfl) rfl (congrArg Value.bool (beq_eq_false_iff_ne.2 (by omega))) (by kernel_rfl) ?_
   refine RW.v ?_
   refine RW.skip (by rfl) (by kernel_rfl) ?_
   refine RW.skip (by rfl) (by kernel_rfl) ?_
   refine RW.skip (by rfl) (by kernel_rfl) ?_
   iterate 2 refine RW.v ?_
   refine RW.nil ?_
   replace H := (H.del 0)
   dsimp only [setL, delL] at H
   refine W.ret ?_
   refine endG (by rfl) (by exact resL_tmp rfl) ?_
   refine RW.val (by rfl) (by kernel_rfl) rfl (by kernel_rfl) ?_
   iterate 2 refine RW.v ?_
   refine RW.nil ?_
   refine W.c1 ?_
   refine W.seq (W.region ?_)
   refine RW.v ?_
   refine RW.ld H 1 2 ?_
   refine RW.ld H 0 2 ?_
   iterate 2 refine RW.v ?_
   refine RW.cl ?_
   refine WC.enter (fn := Tryz.f123) Tryz.func123 rfl ?_
   refine W.rg [(0, pp h), (1, .agg #[.int .i64 2, .int .i64 i]), (2, .agg #[.int .i64 b.1, .int .i64 b.2]), (3, .int .i64 0), (4, pp Lp)] fun TA => ?_
   refine W.seq (W.region ?_)
   refine RW.mk H (.row ⟨[.int .i64 2, .int .i64 i], 27, false⟩) ?_
   clear H; intro _ b10 _ H
   refine RW.mk H (.row ⟨[.int .i64 b.1, .int .i64 b.2], 27, false⟩) ?_
   clear H; intro _ b11 _ H
   refine RW.v ?_
   refine RW.nil ?_
   refine W.rg [(0, pp h), (3, .int .i64 0), (4, pp Lp), (6, pp b10), (7, pp b11)] fun TA => ?_
   refine W.seq ?_
   refine W.seq (W.region ?_)
   refine RW.v ?_
   refine RW.ld H 1 1 ?_
   refine RW.v ?_
   refine RW.ld H 0 1 ?_
   refine RW.valE (v' := .bool true) (by kernel_rfl) (by kernel_rfl) rfl (congrArg Value.bool (bne_iff_ne.2 (by omega))) (by kernel_rfl) ?_
   refine RW.nil ?_
   refine W.c1 ?_
   refine W.seq (W.region ?_)
   refine RW.v ?_
   refine RW.nil ?_
   replace H := ((H.del 1).del 0)
   dsimp only [setL, delL] at H
   refine W.ret ?_
   refine seqQ_ret ?_
   refine endG (by rfl) (by exact resL_tmp rfl) ?_
   refine RW.v ?_
   refine RW.nil ?_
   replace H := ((H.del 1).del 0)
   dsimp only [setL, delL] at H
   refine W.ret ?_
   refine blkQ_ret ?_
   refine seqQ_ret ?_
   refine blkQ_ret ?_
   refine seqQ_ret ?_
   refine onceQ_ret ?_
   refine blkQ_ret ?_
   refine endG (by rfl) (by exact resL_tmp rfl) ?_
   refine RW.st H 1 [.bool false] [.bool false] ?_
   clear H; intro _ _ H; dsimp only [setL, delL] at H
   refine RW.st H 0 [.int .i64 0] [.int .i64 0] ?_
   clear H; intro _ _ H; dsimp only [setL, delL] at H
   refine RW.nil ?_
   replace H := ((H.del 3).del 2)
   dsimp only [setL, delL] at H
   refine W.ret ?_
   obtain ⟨σ8, hd, hσ⟩ := rec_call (G := G66) b3 b4
   obtain rfl := hσ
   exact ⟨rfl, _, Shut.one (by kernel_rfl) hd (.nil _), _, resL_cell rfl (H.get 1 rfl) (by rw [uT_eq]; exact Tryz.underlying4) (by kernel_rfl) rfl rfl (by exact resL_cell rfl (H.get 0 rfl) (by rw [uT_eq]; exact Tryz.underlying30) (by kernel_rfl) rfl rfl rfl), (by exact dec_no hk), _, ((H.del 1).del 0)⟩
  | @lam i' j' k' h1' h2' =>
   refine WC.enterD (fn := Tryz.f104) Tryz.func104 rfl ?_
   refine W.rg [(0, pp h), (1, .agg #[.int .i64 2, .int .i64 i]), (2, .agg #[.int .i64 2, .int .i64 i']), (3, pp Lp)] fun TA => ?_
   refine W.seq (W.region ?_)
   refine RW.mk H (.row ⟨[.int .i64 2, .int .i64 i], 27, false⟩) ?_
   clear H; intro _ b1 _ H
   refine RW.mk H (.row ⟨[.int .i64 2, .int .i64 i'], 27, false⟩) ?_
   clear H; intro _ b2 _ H
   refine RW.mk H (.row ⟨[.bool false], 4, false⟩) ?_
   clear H; intro _ b3 _ H
   refine RW.mk H (.row ⟨[.int .i64 0], 30, false⟩) ?_
   clear H; intro _ b4 _ H
   refine RW.nil ?_
   refine W.rg [(0, pp h), (3, pp Lp), (5, pp b1), (6, pp b2), (8, pp b3), (9, pp b4)] fun TA => ?_
   refine W.seq ?_
   refine W.seq (W.region ?_)
   refine RW.v ?_
   refine RW.cl ?_
   refine ((made_wc (G := G66) (h := h) H.abs hlim).mono ?_)
   rintro _ σ5 ⟨rfl, hσ⟩
   obtain rfl := hσ.symm
   refine RW.v ?_
   refine RW.nil ?_
   refine W.c0 ?_
   refine W.skip ?_
   refine W.seq ?_
   refine W.deferred (f := 115) (fa := #[]) (as_ := #[]) (ca := #[.pointer (some ⟨b3, 0, none⟩), .pointer (some ⟨b4, 0, none⟩)]) [_] rfl rfl rfl rfl rfl (by kernel_rfl) ?_
   refine RW.v ?_
   refine RW.nil ?_
   refine ⟨by kernel_rfl, by kernel_rfl, ?_⟩
   refine W.rg [(0, pp h), (3, pp Lp), (5, pp b1), (6, pp b2), (8, pp b3), (9, pp b4)] fun TA => ?_
   refine W.seq (W.region ?_)
   refine RW.v ?_
   refine RW.ld H 3 2 ?_
   refine RW.ld H 2 2 ?_
   refine RW.v ?_
   refine RW.cl ?_
   refine WC.enter (fn := Tryz.f116) Tryz.func116 rfl ?_
   refine W.rg [(0, pp h), (1, .agg #[.int .i64 2, .int .i64 i]), (2, .agg #[.int .i64 2, .int .i64 i']), (3, .int .i64 0), (4, pp Lp)] fun TA => ?_
   refine W.seq (W.region ?_)
   refine RW.mk H (.row ⟨[.int .i64 2, .int .i64 i], 27, false⟩) ?_
   clear H; intro _ b6 _ H
   refine RW.mk H (.row ⟨[.int .i64 2, .int .i64 i'], 27, false⟩) ?_
   clear H; intro _ b7 _ H
   refine RW.v ?_
   refine RW.nil ?_
   refine W.rg [(0, pp h), (3, .int .i64 0), (4, pp Lp), (6, pp b6), (7, pp b7)] fun TA => ?_
   refine W.seq ?_
   refine W.seq (W.region ?_)
   iterate 2 refine RW.v ?_
   refine RW.nil ?_
   refine W.c0 ?_
   refine W.skip ?_
   refine W.seq (W.region ?_)
   refine RW.v ?_
   refine RW.nil ?_
   refine W.rg [(0, pp h), (3, .int .i64 0), (4, pp Lp), (6, pp b6), (7, pp b7), (11, .int .i64 0)] fun TA => ?_
   refine W.block ?_
   refine W.unroll (WL.once ?_)
   refine W.seq ?_
   refine W.block ?_
   refine W.seq ?_
   refine W.block ?_
   refine W.seq (W.region ?_)
   iterate 2 refine RW.v ?_
   refine RW.ld H 6 1 ?_
   iterate 2 refine RW.v ?_
   refine RW.nil ?_
   refine W.c0 ?_
   refine W.seq (W.region ?_)
   iterate 3 refine RW.v ?_
   refine RW.nil ?_
   refine W.c0 ?_
   refine W.skip ?_
   refine blkQ_normal ?_
   refine W.seq (W.region ?_)
   iterate 2 refine RW.v ?_
   refine RW.ld H 6 1 ?_
   iterate 2 refine RW.v ?_
   refine RW.st H 6 [.int .i64 199999] [.int .i64 199999] ?_
   clear H; intro _ _ H; dsimp only [setL, delL] at H
   refine RW.nil ?_
   refine W.rg [(0, pp h), (3, .int .i64 0), (4, pp Lp), (6, pp b6), (7, pp b7), (11, .int .i64 0)] fun TA => ?_
   refine W.seq ?_
   refine W.block ?_
   refine W.seq (W.region ?_)
   refine RW.ld H 1 2 ?_
   refine RW.ld H 0 2 ?_
   refine RW.vop (v := .bool (2 == 2 && i == i')) (by kernel_rfl) (by kernel_rfl) (vop_eqS (b := (2 == 2 && i == i')) (r := (2 == 2 && i == i')) rfl (.inl ⟨rfl, rfl⟩) rfl rfl rfl rfl (by kernel_rfl) (fun w => eqWd _ _ _ _ w)) (by kernel_rfl) ?_
   refine RW.v ?_
   refine RW.nil ?_
   refine W.rg [(0, pp h), (3, .int .i64 0), (4, pp Lp), (6, pp b6), (7, pp b7), (11, .int .i64 0), (39, .bool (2 == 2 && i == i'))] fun TA => ?_
   refine W.cond rfl (fun hc8 => ?_) (fun hc8 => ?_)
   ·have hc8b := hc8
    have hk : keyW m (2, i) = keyW m (2, i') := by rw [show i = i' by simpa using hc8]
    refine W.seq (W.region ?_)
    refine RW.v ?_
    refine RW.nil ?_
    replace H := ((H.del 1).del 0)
    dsimp only [setL, delL] at H
    refine W.ret ?_
    refine blkQ_ret ?_
    refine seqQ_ret ?_
    refine blkQ_ret ?_
    refine seqQ_ret ?_
    refine onceQ_ret ?_
    refine blkQ_ret ?_
    refine endG (by rfl) (by exact resL_tmp rfl) ?_
    refine RW.st H 1 [.bool true] [.bool true] ?_
    clear H; intro _ _ H; dsimp only [setL, delL] at H
    refine RW.st H 0 [.int .i64 0] [.int .i64 0] ?_
    clear H; intro _ _ H; dsimp only [setL, delL] at H
    refine RW.nil ?_
    replace H := ((H.del 3).del 2)
    dsimp only [setL, delL] at H
    refine W.ret ?_
    obtain ⟨σ8, hd, hσ⟩ := rec_call (G := G66) b3 b4
    obtain rfl := hσ
    exact ⟨rfl, _, Shut.one (by kernel_rfl) hd (.nil _), _, resL_cell rfl (H.get 1 rfl) (by rw [uT_eq]; exact Tryz.underlying4) (by kernel_rfl) rfl rfl (by exact resL_cell rfl (H.get 0 rfl) (by rw [uT_eq]; exact Tryz.underlying30) (by kernel_rfl) rfl rfl rfl), (by exact dec_yes hk), _, ((H.del 1).del 0)⟩
   ·have hc8b := hc8
    refine W.seq (W.region ?_)
    refine RW.v ?_
    refine RW.ld H 1 2 ?_
    refine RW.cl ?_
    refine WC.enter (fn := Tryz.f80) Tryz.func80 rfl ?_
    refine W.rg [(0, pp h), (1, .agg #[.int .i64 2, .int .i64 i])] fun TA => ?_
    refine W.seq (W.region ?_)
    refine RW.mk H (.row ⟨[.int .i64 2, .int .i64 i], 27, false⟩) ?_
    clear H; intro _ b9 _ H
    refine RW.v ?_
    refine RW.nil ?_
    refine W.rg [(0, pp h), (3, pp b9)] fun TA => ?_
    refine W.seq (W.region ?_)
    refine RW.v ?_
    refine RW.ld H 0 1 ?_
    iterate 2 refine RW.v ?_
    refine RW.val (by rfl) (by kernel_rfl) rfl (by kernel_rfl) ?_
    refine RW.ldL H 0 2 (by rfl) (by kernel_rfl) rfl rfl rfl rfl rfl (by kernel_rfl) ?_
    refine RW.cl (hw := by rfl) ?_
    refine ⟨_, _, (liveY_call (G := G66) H.abs h1), ?_⟩
    iterate 2 refine RW.v ?_
    refine RW.nil ?_
    replace H := (H.del 0)
    dsimp only [setL, delL] at H
    refine W.ret ?_
    refine endG (by rfl) (by exact resL_tmp rfl) ?_
    iterate 2 refine RW.v ?_
    refine RW.val (by rfl) (by kernel_rfl) rfl (by kernel_rfl) ?_
    refine RW.ldL H 0 2 (by rfl) (by kernel_rfl) rfl rfl rfl rfl rfl (by kernel_rfl) ?_
    refine RW.cl (hw := by rfl) ?_
    refine WC.enter (fn := Tryz.f80) Tryz.func80 rfl ?_
    refine W.rg [(0, pp h), (1, .agg #[.int .i64 2, .int .i64 i'])] fun TA => ?_
    refine W.seq (W.region ?_)
    refine RW.mk H (.row ⟨[.int .i64 2, .int .i64 i'], 27, false⟩) ?_
    clear H; intro _ b10 _ H
    refine RW.v ?_
    refine RW.nil ?_
    refine W.rg [(0, pp h), (3, pp b10)] fun TA => ?_
    refine W.seq (W.region ?_)
    refine RW.v ?_
    refine RW.ld H 0 1 ?_
    iterate 2 refine RW.v ?_
    refine RW.val (by rfl) (by kernel_rfl) rfl (by kernel_rfl) ?_
    refine RW.ldL H 0 2 (by rfl) (by kernel_rfl) rfl rfl rfl rfl rfl (by kernel_rfl) ?_
    refine RW.cl (hw := by rfl) ?_
    refine ⟨_, _, (liveY_call (G := G66) H.abs h1'), ?_⟩
    iterate 2 refine RW.v ?_
    refine RW.nil ?_
    replace H := (H.del 0)
    dsimp only [setL, delL] at H
    refine W.ret ?_
    refine endG (by rfl) (by exact resL_tmp rfl) ?_
    refine RW.val (by rfl) (by kernel_rfl) rfl (by kernel_rfl) ?_
    iterate 2 refine RW.v ?_
    refine RW.nil ?_
    refine W.c0 ?_
    refine W.skip ?_
    refine blkQ_normal ?_
    refine W.seq (W.region ?_)
    refine RW.v ?_
    refine RW.ld H 1 2 ?_
    refine RW.cl ?_
    refine ⟨_, _, (carY_call (G := G66) H.abs h1), ?_⟩
    iterate 3 refine RW.v ?_
    refine RW.mk H (.row ⟨[.int .i64 0, .int .i64 0], 27, false⟩) ?_
    clear H; intro _ b11 _ H
    refine RW.st H 0 [.int .i64 1, .int .i64 7] [.int .i64 1, .int .i64 7] ?_
    clear H; intro _ _ H; dsimp only [setL, delL] at H
    refine RW.v ?_
    refine RW.nil ?_
    refine W.rg [(0, pp h), (3, .int .i64 0), (4, pp Lp), (6, pp b6), (7, pp b7), (11, .int .i64 0), (12, pp b11)] fun TA => ?_
    refine W.seq (W.region ?_)
    refine RW.v ?_
    refine RW.ld H 1 2 ?_
    refine RW.cl ?_
    refine ⟨_, _, (carY_call (G := G66) H.abs h1'), ?_⟩
    iterate 3 refine RW.v ?_
    refine RW.mk H (.row ⟨[.int .i64 0, .int .i64 0], 27, false⟩) ?_
    clear H; intro _ b12 _ H
    refine RW.st H 0 [.int .i64 1, .int .i64 7] [.int .i64 1, .int .i64 7] ?_
    clear H; intro _ _ H; dsimp only [setL, delL] at H
    refine RW.v ?_
    refine RW.nil ?_
    refine W.rg [(0, pp h), (3, .int .i64 0), (4, pp Lp), (6, pp b6), (7, pp b7), (11, .int .i64 0), (12, pp b11), (14, pp b12)] fun TA => ?_
    refine W.seq ?_
    refine W.seq (W.region ?_)
    refine RW.v ?_
    refine RW.ld H 1 2 ?_
    refine RW.ld H 0 2 ?_
    iterate 3 refine RW.v ?_
    refine RW.cl ?_
    refine WC.enter (fn := Tryz.f116) Tryz.func116 rfl ?_
    refine W.rg [(0, pp h), (1, .agg #[.int .i64 1, .int .i64 7]), (2, .agg #[.int .i64 1, .int .i64 7]), (3, .int .i64 1), (4, pp Lp)] fun TA => ?_
    refine W.seq (W.region ?_)
    refine RW.mk H (.row ⟨[.int .i64 1, .int .i64 7], 27, false⟩) ?_
    clear H; intro _ b13 _ H
    refine RW.mk H (.row ⟨[.int .i64 1, .int .i64 7], 27, false⟩) ?_
    clear H; intro _ b14 _ H
    refine RW.v ?_
    refine RW.nil ?_
    refine W.rg [(0, pp h), (3, .int .i64 1), (4, pp Lp), (6, pp b13), (7, pp b14)] fun TA => ?_
    refine W.seq ?_
    refine W.seq (W.region ?_)
    iterate 2 refine RW.v ?_
    refine RW.nil ?_
    refine W.c0 ?_
    refine W.skip ?_
    refine W.seq (W.region ?_)
    refine RW.v ?_
    refine RW.nil ?_
    refine W.rg [(0, pp h), (3, .int .i64 1), (4, pp Lp), (6, pp b13), (7, pp b14), (11, .int .i64 0)] fun TA => ?_
    refine W.block ?_
    refine W.unroll (WL.once ?_)
    refine W.seq ?_
    refine W.block ?_
    refine W.seq ?_
    refine W.block ?_
    refine W.seq (W.region ?_)
    iterate 2 refine RW.v ?_
    refine RW.ld H 10 1 ?_
    iterate 2 refine RW.v ?_
    refine RW.nil ?_
    refine W.c0 ?_
    refine W.seq (W.region ?_)
    iterate 3 refine RW.v ?_
    refine RW.nil ?_
    refine W.c0 ?_
    refine W.skip ?_
    refine blkQ_normal ?_
    refine W.seq (W.region ?_)
    iterate 2 refine RW.v ?_
    refine RW.ld H 10 1 ?_
    iterate 2 refine RW.v ?_
    refine RW.st H 10 [.int .i64 199998] [.int .i64 199998] ?_
    clear H; intro _ _ H; dsimp only [setL, delL] at H
    refine RW.nil ?_
    refine W.rg [(0, pp h), (3, .int .i64 1), (4, pp Lp), (6, pp b13), (7, pp b14), (11, .int .i64 0)] fun TA => ?_
    refine W.seq ?_
    refine W.block ?_
    refine W.seq (W.region ?_)
    refine RW.ld H 1 2 ?_
    refine RW.ld H 0 2 ?_
    refine RW.vop (v := .bool true) (by kernel_rfl) (by kernel_rfl) (vop_eqS (b := true) (r := true) rfl (.inl ⟨rfl, rfl⟩) rfl rfl rfl rfl (by kernel_rfl) (fun w => (eqWd _ _ _ _ w).trans (by simp))) (by kernel_rfl) ?_
    refine RW.v ?_
    refine RW.nil ?_
    refine W.c1 ?_
    refine W.seq (W.region ?_)
    refine RW.v ?_
    refine RW.nil ?_
    replace H := ((H.del 1).del 0)
    dsimp only [setL, delL] at H
    refine W.ret ?_
    refine blkQ_ret ?_
    refine seqQ_ret ?_
    refine blkQ_ret ?_
    refine seqQ_ret ?_
    refine onceQ_ret ?_
    refine blkQ_ret ?_
    refine endG (by rfl) (by exact resL_tmp rfl) ?_
    refine RW.v ?_
    refine RW.nil ?_
    replace H := ((H.del 1).del 0)
    dsimp only [setL, delL] at H
    refine W.c0 ?_
    refine W.skip ?_
    refine W.seq (W.region ?_)
    refine RW.v ?_
    refine RW.ld H 1 2 ?_
    refine RW.cl ?_
    refine ⟨_, _, (cdrY_call H.abs h1), ?_⟩
    iterate 3 refine RW.v ?_
    refine RW.st H 1 [.int .i64 2, .int .i64 j] [.int .i64 2, .int .i64 j] ?_
    clear H; intro _ _ H; dsimp only [setL, delL] at H
    refine RW.nil ?_
    refine W.rg [(0, pp h), (3, .int .i64 0), (4, pp Lp), (6, pp b6), (7, pp b7), (11, .int .i64 0)] fun TA => ?_
    refine W.region ?_
    refine RW.v ?_
    refine RW.ld H 0 2 ?_
    refine RW.cl ?_
    refine ⟨_, _, (cdrY_call H.abs h1'), ?_⟩
    iterate 3 refine RW.v ?_
    refine RW.st H 0 [.int .i64 2, .int .i64 j'] [.int .i64 2, .int .i64 j'] ?_
    clear H; intro _ _ H; dsimp only [setL, delL] at H
    refine RW.nil ?_
    refine blkQ_normal ?_
    refine W.rg [(0, pp h), (3, .int .i64 0), (4, pp Lp), (6, pp b6), (7, pp b7), (11, .int .i64 0)] fun TA => ?_
    refine W.region ?_
    iterate 3 refine RW.v ?_
    refine RW.nil ?_
    refine WL.once ?_
    refine W.rg [(0, pp h), (3, .int .i64 0), (4, pp Lp), (6, pp b6), (7, pp b7), (11, .int .i64 1)] fun TA => ?_
    refine W.seq ?_
    refine W.block ?_
    refine W.seq ?_
    refine W.block ?_
    refine W.seq (W.region ?_)
    iterate 2 refine RW.v ?_
    refine RW.ld H 6 1 ?_
    iterate 2 refine RW.v ?_
    refine RW.nil ?_
    refine W.c0 ?_
    refine W.seq (W.region ?_)
    iterate 3 refine RW.v ?_
    refine RW.nil ?_
    refine W.c0 ?_
    refine W.skip ?_
    refine blkQ_normal ?_
    refine W.seq (W.region ?_)
    iterate 2 refine RW.v ?_
    refine RW.ld H 6 1 ?_
    iterate 2 refine RW.v ?_
    refine RW.st H 6 [.int .i64 199997] [.int .i64 199997] ?_
    clear H; intro _ _ H; dsimp only [setL, delL] at H
    refine RW.nil ?_
    refine W.rg [(0, pp h), (3, .int .i64 0), (4, pp Lp), (6, pp b6), (7, pp b7), (11, .int .i64 1)] fun TA => ?_
    refine W.seq ?_
    refine W.block ?_
    refine W.seq (W.region ?_)
    refine RW.ld H 1 2 ?_
    refine RW.ld H 0 2 ?_
    refine RW.vop (v := .bool (2 == 2 && j == j')) (by kernel_rfl) (by kernel_rfl) (vop_eqS (b := (2 == 2 && j == j')) (r := (2 == 2 && j == j')) rfl (.inl ⟨rfl, rfl⟩) rfl rfl rfl rfl (by kernel_rfl) (fun w => eqWd _ _ _ _ w)) (by kernel_rfl) ?_
    refine RW.v ?_
    refine RW.nil ?_
    refine W.rg [(0, pp h), (3, .int .i64 0), (4, pp Lp), (6, pp b6), (7, pp b7), (11, .int .i64 1), (39, .bool (2 == 2 && j == j'))] fun TA => ?_
    refine W.cond rfl (fun hc15 => ?_) (fun hc15 => ?_)
    ·have hc15b := hc15
     have hk : keyW m (2, i) = keyW m (2, i') := by rw [keyW_lam h1 h2, keyW_lam h1' h2']; exact lam_same (show j = j' by simpa using hc15) h2 h2'
     refine W.seq (W.region ?_)
     refine RW.v ?_
     refine RW.nil ?_
     replace H := ((H.del 1).del 0)
     dsimp only [setL, delL] at H
     refine W.ret ?_
     refine blkQ_ret ?_
     refine seqQ_ret ?_
     refine blkQ_ret ?_
     refine seqQ_ret ?_
     refine onceQ_ret ?_
     refine blkQ_ret ?_
     refine endG (by rfl) (by exact resL_tmp rfl) ?_
     refine RW.st H 1 [.bool true] [.bool true] ?_
     clear H; intro _ _ H; dsimp only [setL, delL] at H
     refine RW.st H 0 [.int .i64 0] [.int .i64 0] ?_
     clear H; intro _ _ H; dsimp only [setL, delL] at H
     refine RW.nil ?_
     replace H := ((H.del 3).del 2)
     dsimp only [setL, delL] at H
     refine W.ret ?_
     obtain ⟨σ8, hd, hσ⟩ := rec_call (G := G66) b3 b4
     obtain rfl := hσ
     exact ⟨rfl, _, Shut.one (by kernel_rfl) hd (.nil _), _, resL_cell rfl (H.get 1 rfl) (by rw [uT_eq]; exact Tryz.underlying4) (by kernel_rfl) rfl rfl (by exact resL_cell rfl (H.get 0 rfl) (by rw [uT_eq]; exact Tryz.underlying30) (by kernel_rfl) rfl rfl rfl), (by exact dec_yes hk), _, ((H.del 1).del 0)⟩
    ·have hc15b := hc15
     refine W.seq (W.region ?_)
     refine RW.v ?_
     refine RW.ld H 1 2 ?_
     refine RW.cl ?_
     refine WC.enter (fn := Tryz.f80) Tryz.func80 rfl ?_
     refine W.rg [(0, pp h), (1, .agg #[.int .i64 2, .int .i64 j])] fun TA => ?_
     refine W.seq (W.region ?_)
     refine RW.mk H (.row ⟨[.int .i64 2, .int .i64 j], 27, false⟩) ?_
     clear H; intro _ b16 _ H
     refine RW.v ?_
     refine RW.nil ?_
     refine W.rg [(0, pp h), (3, pp b16)] fun TA => ?_
     refine W.seq (W.region ?_)
     refine RW.v ?_
     refine RW.ld H 0 1 ?_
     iterate 2 refine RW.v ?_
     refine RW.val (by rfl) (by kernel_rfl) rfl (by kernel_rfl) ?_
     refine RW.ldL H 0 2 (by rfl) (by kernel_rfl) rfl rfl rfl rfl rfl (by kernel_rfl) ?_
     refine RW.cl (hw := by rfl) ?_
     refine ⟨_, _, (liveY_call (G := G66) H.abs h2), ?_⟩
     iterate 2 refine RW.v ?_
     refine RW.nil ?_
     replace H := (H.del 0)
     dsimp only [setL, delL] at H
     refine W.ret ?_
     refine endG (by rfl) (by exact resL_tmp rfl) ?_
     iterate 2 refine RW.v ?_
     refine RW.val (by rfl) (by kernel_rfl) rfl (by kernel_rfl) ?_
     refine RW.ldL H 0 2 (by rfl) (by kernel_rfl) rfl rfl rfl rfl rfl (by kernel_rfl) ?_
     refine RW.cl (hw := by rfl) ?_
     refine WC.enter (fn := Tryz.f80) Tryz.func80 rfl ?_
     refine W.rg [(0, pp h), (1, .agg #[.int .i64 2, .int .i64 j'])] fun TA => ?_
     refine W.seq (W.region ?_)
     refine RW.mk H (.row ⟨[.int .i64 2, .int .i64 j'], 27, false⟩) ?_
     clear H; intro _ b17 _ H
     refine RW.v ?_
     refine RW.nil ?_
     refine W.rg [(0, pp h), (3, pp b17)] fun TA => ?_
     refine W.seq (W.region ?_)
     refine RW.v ?_
     refine RW.ld H 0 1 ?_
     iterate 2 refine RW.v ?_
     refine RW.val (by rfl) (by kernel_rfl) rfl (by kernel_rfl) ?_
     refine RW.ldL H 0 2 (by rfl) (by kernel_rfl) rfl rfl rfl rfl rfl (by kernel_rfl) ?_
     refine RW.cl (hw := by rfl) ?_
     refine ⟨_, _, (liveY_call (G := G66) H.abs h2'), ?_⟩
     iterate 2 refine RW.v ?_
     refine RW.nil ?_
     replace H := (H.del 0)
     dsimp only [setL, delL] at H
     refine W.ret ?_
     refine endG (by rfl) (by exact resL_tmp rfl) ?_
     refine RW.val (by rfl) (by kernel_rfl) rfl (by kernel_rfl) ?_
     iterate 2 refine RW.v ?_
     refine RW.nil ?_
     refine W.c0 ?_
     refine W.skip ?_
     refine blkQ_normal ?_
     refine W.seq (W.region ?_)
     refine RW.v ?_
     refine RW.ld H 1 2 ?_
     refine RW.cl ?_
     refine ⟨_, _, (carY_call (G := G66) H.abs h2), ?_⟩
     iterate 3 refine RW.v ?_
     refine RW.mk H (.row ⟨[.int .i64 0, .int .i64 0], 27, false⟩) ?_
     clear H; intro _ b18 _ H
     refine RW.st H 0 [.int .i64 0, .int .i64 k] [.int .i64 0, .int .i64 k] ?_
     clear H; intro _ _ H; dsimp only [setL, delL] at H
     refine RW.v ?_
     refine RW.nil ?_
     refine W.rg [(0, pp h), (3, .int .i64 0), (4, pp Lp), (6, pp b6), (7, pp b7), (11, .int .i64 1), (12, pp b18)] fun TA => ?_
     refine W.seq (W.region ?_)
     refine RW.v ?_
     refine RW.ld H 1 2 ?_
     refine RW.cl ?_
     refine ⟨_, _, (carY_call (G := G66) H.abs h2'), ?_⟩
     iterate 3 refine RW.v ?_
     refine RW.mk H (.row ⟨[.int .i64 0, .int .i64 0], 27, false⟩) ?_
     clear H; intro _ b19 _ H
     refine RW.st H 0 [.int .i64 0, .int .i64 k'] [.int .i64 0, .int .i64 k'] ?_
     clear H; intro _ _ H; dsimp only [setL, delL] at H
     refine RW.v ?_
     refine RW.nil ?_
     refine W.rg [(0, pp h), (3, .int .i64 0), (4, pp Lp), (6, pp b6), (7, pp b7), (11, .int .i64 1), (12, pp b18), (14, pp b19)] fun TA => ?_
     refine W.seq ?_
     refine W.seq (W.region ?_)
     refine RW.v ?_
     refine RW.ld H 1 2 ?_
     refine RW.ld H 0 2 ?_
     iterate 3 refine RW.v ?_
     refine RW.cl ?_
     refine WC.enter (fn := Tryz.f116) Tryz.func116 rfl ?_
     refine W.rg [(0, pp h), (1, .agg #[.int .i64 0, .int .i64 k]), (2, .agg #[.int .i64 0, .int .i64 k']), (3, .int .i64 1), (4, pp Lp)] fun TA => ?_
     refine W.seq (W.region ?_)
     refine RW.mk H (.row ⟨[.int .i64 0, .int .i64 k], 27, false⟩) ?_
     clear H; intro _ b20 _ H
     refine RW.mk H (.row ⟨[.int .i64 0, .int .i64 k'], 27, false⟩) ?_
     clear H; intro _ b21 _ H
     refine RW.v ?_
     refine RW.nil ?_
     refine W.rg [(0, pp h), (3, .int .i64 1), (4, pp Lp), (6, pp b20), (7, pp b21)] fun TA => ?_
     refine W.seq ?_
     refine W.seq (W.region ?_)
     iterate 2 refine RW.v ?_
     refine RW.nil ?_
     refine W.c0 ?_
     refine W.skip ?_
     refine W.seq (W.region ?_)
     refine RW.v ?_
     refine RW.nil ?_
     refine W.rg [(0, pp h), (3, .int .i64 1), (4, pp Lp), (6, pp b20), (7, pp b21), (11, .int .i64 0)] fun TA => ?_
     refine W.block ?_
     refine W.unroll (WL.once ?_)
     refine W.seq ?_
     refine W.block ?_
     refine W.seq ?_
     refine W.block ?_
     refine W.seq (W.region ?_)
     iterate 2 refine RW.v ?_
     refine RW.ld H 10 1 ?_
     iterate 2 refine RW.v ?_
     refine RW.nil ?_
     refine W.c0 ?_
     refine W.seq (W.region ?_)
     iterate 3 refine RW.v ?_
     refine RW.nil ?_
     refine W.c0 ?_
     refine W.skip ?_
     refine blkQ_normal ?_
     refine W.seq (W.region ?_)
     iterate 2 refine RW.v ?_
     refine RW.ld H 10 1 ?_
     iterate 2 refine RW.v ?_
     refine RW.st H 10 [.int .i64 199996] [.int .i64 199996] ?_
     clear H; intro _ _ H; dsimp only [setL, delL] at H
     refine RW.nil ?_
     refine W.rg [(0, pp h), (3, .int .i64 1), (4, pp Lp), (6, pp b20), (7, pp b21), (11, .int .i64 0)] fun TA => ?_
     refine W.seq ?_
     refine W.block ?_
     refine W.seq (W.region ?_)
     refine RW.ld H 1 2 ?_
     refine RW.ld H 0 2 ?_
     refine RW.vop (v := .bool (0 == 0 && k == k')) (by kernel_rfl) (by kernel_rfl) (vop_eqS (b := (0 == 0 && k == k')) (r := (0 == 0 && k == k')) rfl (.inl ⟨rfl, rfl⟩) rfl rfl rfl rfl (by kernel_rfl) (fun w => eqWd _ _ _ _ w)) (by kernel_rfl) ?_
     refine RW.v ?_
     refine RW.nil ?_
     refine W.rg [(0, pp h), (3, .int .i64 1), (4, pp Lp), (6, pp b20), (7, pp b21), (11, .int .i64 0), (39, .bool (0 == 0 && k == k'))] fun TA => ?_
     refine W.cond rfl (fun hc22 => ?_) (fun hc22 => ?_)
     ·have hc22b := hc22
      have hk : keyW m (2, i) = keyW m (2, i') := by rw [keyW_lam h1 h2, keyW_lam h1' h2', show k = k' by simpa using hc22]
      refine W.seq (W.region ?_)
      refine RW.v ?_
      refine RW.nil ?_
      replace H := ((H.del 1).del 0)
      dsimp only [setL, delL] at H
      refine W.ret ?_
      refine blkQ_ret ?_
      refine seqQ_ret ?_
      refine blkQ_ret ?_
      refine seqQ_ret ?_
      refine onceQ_ret ?_
      refine blkQ_ret ?_
      refine endG (by rfl) (by exact resL_tmp rfl) ?_
      refine RW.v ?_
      refine RW.nil ?_
      replace H := ((H.del 1).del 0)
      dsimp only [setL, delL] at H
      refine W.c0 ?_
      refine W.skip ?_
      refine W.seq (W.region ?_)
      refine RW.v ?_
      refine RW.ld H 1 2 ?_
      refine RW.cl ?_
      refine ⟨_, _, (cdrY_call H.abs h2), ?_⟩
      iterate 3 refine RW.v ?_
      refine RW.st H 1 [.int .i64 1, .int .i64 0] [.int .i64 1, .int .i64 0] ?_
      clear H; intro _ _ H; dsimp only [setL, delL] at H
      refine RW.nil ?_
      refine W.rg [(0, pp h), (3, .int .i64 0), (4, pp Lp), (6, pp b6), (7, pp b7), (11, .int .i64 1)] fun TA => ?_
      refine W.region ?_
      refine RW.v ?_
      refine RW.ld H 0 2 ?_
      refine RW.cl ?_
      refine ⟨_, _, (cdrY_call H.abs h2'), ?_⟩
      iterate 3 refine RW.v ?_
      refine RW.st H 0 [.int .i64 1, .int .i64 0] [.int .i64 1, .int .i64 0] ?_
      clear H; intro _ _ H; dsimp only [setL, delL] at H
      refine RW.nil ?_
      refine blkQ_normal ?_
      refine W.rg [(0, pp h), (3, .int .i64 0), (4, pp Lp), (6, pp b6), (7, pp b7), (11, .int .i64 1)] fun TA => ?_
      refine W.region ?_
      iterate 3 refine RW.v ?_
      refine RW.nil ?_
      refine WL.once ?_
      refine W.rg [(0, pp h), (3, .int .i64 0), (4, pp Lp), (6, pp b6), (7, pp b7), (11, .int .i64 2)] fun TA => ?_
      refine W.seq ?_
      refine W.block ?_
      refine W.seq ?_
      refine W.block ?_
      refine W.seq (W.region ?_)
      iterate 2 refine RW.v ?_
      refine RW.ld H 6 1 ?_
      iterate 2 refine RW.v ?_
      refine RW.nil ?_
      refine W.c0 ?_
      refine W.seq (W.region ?_)
      iterate 3 refine RW.v ?_
      refine RW.nil ?_
      refine W.c0 ?_
      refine W.skip ?_
      refine blkQ_normal ?_
      refine W.seq (W.region ?_)
      iterate 2 refine RW.v ?_
      refine RW.ld H 6 1 ?_
      iterate 2 refine RW.v ?_
      refine RW.st H 6 [.int .i64 199995] [.int .i64 199995] ?_
      clear H; intro _ _ H; dsimp only [setL, delL] at H
      refine RW.nil ?_
      refine W.rg [(0, pp h), (3, .int .i64 0), (4, pp Lp), (6, pp b6), (7, pp b7), (11, .int .i64 2)] fun TA => ?_
      refine W.seq ?_
      refine W.block ?_
      refine W.seq (W.region ?_)
      refine RW.ld H 1 2 ?_
      refine RW.ld H 0 2 ?_
      refine RW.vop (v := .bool true) (by kernel_rfl) (by kernel_rfl) (vop_eqS (b := true) (r := true) rfl (.inl ⟨rfl, rfl⟩) rfl rfl rfl rfl (by kernel_rfl) (fun w => (eqWd _ _ _ _ w).trans (by simp))) (by kernel_rfl) ?_
      refine RW.v ?_
      refine RW.nil ?_
      refine W.c1 ?_
      refine W.seq (W.region ?_)
      refine RW.v ?_
      refine RW.nil ?_
      replace H := ((H.del 1).del 0)
      dsimp only [setL, delL] at H
      refine W.ret ?_
      refine blkQ_ret ?_
      refine seqQ_ret ?_
      refine blkQ_ret ?_
      refine seqQ_ret ?_
      refine onceQ_ret ?_
      refine blkQ_ret ?_
      refine endG (by rfl) (by exact resL_tmp rfl) ?_
      refine RW.st H 1 [.bool true] [.bool true] ?_
      clear H; intro _ _ H; dsimp only [setL, delL] at H
      refine RW.st H 0 [.int .i64 0] [.int .i64 0] ?_
      clear H; intro _ _ H; dsimp only [setL, delL] at H
      refine RW.nil ?_
      replace H := ((H.del 3).del 2)
      dsimp only [setL, delL] at H
      refine W.ret ?_
      obtain ⟨σ8, hd, hσ⟩ := rec_call (G := G66) b3 b4
      obtain rfl := hσ
      exact ⟨rfl, _, Shut.one (by kernel_rfl) hd (.nil _), _, resL_cell rfl (H.get 1 rfl) (by rw [uT_eq]; exact Tryz.underlying4) (by kernel_rfl) rfl rfl (by exact resL_cell rfl (H.get 0 rfl) (by rw [uT_eq]; exact Tryz.underlying30) (by kernel_rfl) rfl rfl rfl), (by exact dec_yes hk), _, ((H.del 1).del 0)⟩
     ·have hc22b := hc22
      have hk : keyW m (2, i) ≠ keyW m (2, i') := by rw [keyW_lam h1 h2, keyW_lam h1' h2']; intro e; have := congrArg Prod.snd e; simp at hc22; exact hc22 this
      refine W.seq (W.region ?_)
      refine RW.v ?_
      refine RW.ld H 1 2 ?_
      refine RW.cl ?_
      refine WC.enter (fn := Tryz.f80) Tryz.func80 rfl ?_
      refine W.rg [(0, pp h), (1, .agg #[.int .i64 0, .int .i64 k])] fun TA => ?_
      refine W.seq (W.region ?_)
      refine RW.mk H (.row ⟨[.int .i64 0, .int .i64 k], 27, false⟩) ?_
      clear H; intro _ b23 _ H
      refine RW.v ?_
      refine RW.nil ?_
      refine W.rg [(0, pp h), (3, pp b23)] fun TA => ?_
      refine W.seq (W.region ?_)
      refine RW.v ?_
      refine RW.ld H 0 1 ?_
      iterate 2 refine RW.v ?_
      refine RW.skip (by rfl) (by kernel_rfl) ?_
      refine RW.skip (by rfl) (by kernel_rfl) ?_
      refine RW.skip (by rfl) (by kernel_rfl) ?_
      iterate 2 refine RW.v ?_
      refine RW.nil ?_
      replace H := (H.del 0)
      dsimp only [setL, delL] at H
      refine W.ret ?_
      refine endG (by rfl) (by exact resL_tmp rfl) ?_
      iterate 2 refine RW.v ?_
      refine RW.skip (by rfl) (by kernel_rfl) ?_
      refine RW.skip (by rfl) (by kernel_rfl) ?_
      refine RW.skip (by rfl) (by kernel_rfl) ?_
      refine RW.skip (by rfl) (by kernel_rfl) ?_
      iterate 2 refine RW.v ?_
      refine RW.nil ?_
      refine W.c1 ?_
      refine W.seq (W.region ?_)
      refine RW.v ?_
      refine RW.ld H 1 2 ?_
      refine RW.ld H 0 2 ?_
      iterate 2 refine RW.v ?_
      refine RW.cl ?_
      refine WC.enter (fn := Tryz.f123) Tryz.func123 rfl ?_
      refine W.rg [(0, pp h), (1, .agg #[.int .i64 0, .int .i64 k]), (2, .agg #[.int .i64 0, .int .i64 k']), (3, .int .i64 1), (4, pp Lp)] fun TA => ?_
      refine W.seq (W.region ?_)
      refine RW.mk H (.row ⟨[.int .i64 0, .int .i64 k], 27, false⟩) ?_
      clear H; intro _ b24 _ H
      refine RW.mk H (.row ⟨[.int .i64 0, .int .i64 k'], 27, false⟩) ?_
      clear H; intro _ b25 _ H
      refine RW.v ?_
      refine RW.nil ?_
      refine W.rg [(0, pp h), (3, .int .i64 1), (4, pp Lp), (6, pp b24), (7, pp b25)] fun TA => ?_
      refine W.seq ?_
      refine W.seq (W.region ?_)
      refine RW.v ?_
      refine RW.ld H 1 1 ?_
      refine RW.v ?_
      refine RW.ld H 0 1 ?_
      refine RW.v ?_
      refine RW.nil ?_
      refine W.c0 ?_
      refine W.skip ?_
      refine W.seq (W.region ?_)
      refine RW.v ?_
      refine RW.ld H 1 2 ?_
      refine RW.cl ?_
      refine ⟨_, _, (s_textNo ((0, k) : Wd) (.inl rfl) H.abs), ?_⟩
      iterate 5 refine RW.v ?_
      refine RW.nil ?_
      refine W.rg [(0, pp h), (3, .int .i64 1), (4, pp Lp), (6, pp b24), (7, pp b25), (11, .string ByteArray.empty), (12, .int .i64 6)] fun TA => ?_
      refine W.seq (W.region ?_)
      refine RW.v ?_
      refine RW.ld H 0 2 ?_
      refine RW.cl ?_
      refine ⟨_, _, (s_textNo ((0, k') : Wd) (.inl rfl) H.abs), ?_⟩
      iterate 5 refine RW.v ?_
      refine RW.nil ?_
      refine W.rg [(0, pp h), (3, .int .i64 1), (4, pp Lp), (6, pp b24), (7, pp b25), (11, .string ByteArray.empty), (12, .int .i64 6), (13, .string ByteArray.empty), (14, .int .i64 6)] fun TA => ?_
      refine W.seq ?_
      refine W.seq (W.region ?_)
      iterate 3 refine RW.v ?_
      refine RW.skip (by rfl) (by kernel_rfl) ?_
      refine RW.skip (by rfl) (by kernel_rfl) ?_
      refine RW.v ?_
      refine RW.nil ?_
      refine W.c0 ?_
      refine W.skip ?_
      refine W.seq (W.region ?_)
      refine RW.v ?_
      refine RW.ld H 1 2 ?_
      refine RW.cl ?_
      refine ⟨_, _, (s_vecNo ((0, k) : Wd) (.inl rfl) H.abs), ?_⟩
      iterate 5 refine RW.v ?_
      refine RW.nil ?_
      replace H := (H.del 1)
      dsimp only [setL, delL] at H
      refine W.rg [(0, pp h), (3, .int .i64 1), (4, pp Lp), (7, pp b25), (12, .int .i64 6), (15, .slice none 0 0)] fun TA => ?_
      refine W.seq (W.region ?_)
      refine RW.v ?_
      refine RW.ld H 0 2 ?_
      refine RW.cl ?_
      refine ⟨_, _, (s_vecNo ((0, k') : Wd) (.inl rfl) H.abs), ?_⟩
      iterate 5 refine RW.v ?_
      refine RW.nil ?_
      replace H := (H.del 0)
      dsimp only [setL, delL] at H
      refine W.rg [(0, pp h), (3, .int .i64 1), (4, pp Lp), (12, .int .i64 6), (14, .int .i64 6), (15, .slice none 0 0), (16, .slice none 0 0)] fun TA => ?_
      refine W.seq ?_
      refine W.seq (W.region ?_)
      iterate 3 refine RW.v ?_
      refine RW.skip (by rfl) (by kernel_rfl) ?_
      refine RW.skip (by rfl) (by kernel_rfl) ?_
      iterate 2 refine RW.v ?_
      refine RW.skip (by rfl) (by kernel_rfl) ?_
      refine RW.skip (by rfl) (by kernel_rfl) ?_
      refine RW.skip (by rfl) (by kernel_rfl) ?_
      refine RW.skip (by rfl) (by kernel_rfl) ?_
      refine RW.skip (by rfl) (by kernel_rfl) ?_
      refine RW.v ?_
      refine RW.nil ?_
      refine W.c1 ?_
      refine W.seq (W.region ?_)
      refine RW.v ?_
      refine RW.nil ?_
      refine W.ret ?_
      refine seqQ_ret ?_
      refine endG (by rfl) (by exact resL_tmp rfl) ?_
      refine RW.v ?_
      refine RW.nil ?_
      replace H := ((H.del 1).del 0)
      dsimp only [setL, delL] at H
      refine W.ret ?_
      refine blkQ_ret ?_
      refine seqQ_ret ?_
      refine blkQ_ret ?_
      refine seqQ_ret ?_
      refine onceQ_ret ?_
      refine blkQ_ret ?_
      refine endG (by rfl) (by exact resL_tmp rfl) ?_
      refine RW.v ?_
      refine RW.nil ?_
      replace H := ((H.del 1).del 0)
      dsimp only [setL, delL] at H
      refine W.c1 ?_
      refine W.seq (W.region ?_)
      refine RW.v ?_
      refine RW.nil ?_
      replace H := ((H.del 1).del 0)
      dsimp only [setL, delL] at H
      refine W.ret ?_
      refine seqQ_ret ?_
      refine blkQ_ret ?_
      refine seqQ_ret ?_
      refine onceQ_ret ?_
      refine blkQ_ret ?_
      refine endG (by rfl) (by exact resL_tmp rfl) ?_
      refine RW.st H 1 [.bool false] [.bool false] ?_
      clear H; intro _ _ H; dsimp only [setL, delL] at H
      refine RW.st H 0 [.int .i64 0] [.int .i64 0] ?_
      clear H; intro _ _ H; dsimp only [setL, delL] at H
      refine RW.nil ?_
      replace H := ((H.del 3).del 2)
      dsimp only [setL, delL] at H
      refine W.ret ?_
      obtain ⟨σ8, hd, hσ⟩ := rec_call (G := G66) b3 b4
      obtain rfl := hσ
      exact ⟨rfl, _, Shut.one (by kernel_rfl) hd (.nil _), _, resL_cell rfl (H.get 1 rfl) (by rw [uT_eq]; exact Tryz.underlying4) (by kernel_rfl) rfl rfl (by exact resL_cell rfl (H.get 0 rfl) (by rw [uT_eq]; exact Tryz.underlying30) (by kernel_rfl) rfl rfl rfl), (by exact dec_no hk), _, ((H.del 1).del 0)⟩
set_option maxHeartbeats 4000000 in
theorem Equal_hw {a b : Wd} (ga : Good m a) (gb : Good m b) (hlim : 0 < m.limit) (H : Lies G66 (heapAbs h m) F σ L) :
  WC G66 Tryz.prog 54 #[pp h, wdV a, wdV b] σ fun v σ' => v = .tuple #[.bool (decide (keyW m a = keyW m b)), .int .i64 0] ∧ Lies G66 (heapAbs h m) F σ' L := by
 refine WC.enter (fn := Tryz.f54) Tryz.func54 rfl ?_
 refine W.rg [(0, pp h), (1, .agg #[.int .i64 a.1, .int .i64 a.2]), (2, .agg #[.int .i64 b.1, .int .i64 b.2])] fun TA => ?_
 refine W.seq (W.region ?_)
 refine RW.mk H (.row ⟨[.int .i64 a.1, .int .i64 a.2], 27, false⟩) ?_
 clear H; intro _ b1 _ H
 refine RW.mk H (.row ⟨[.int .i64 b.1, .int .i64 b.2], 27, false⟩) ?_
 clear H; intro _ b2 _ H
 iterate 2 refine RW.v ?_
 refine RW.nil ?_
 refine W.rg [(0, pp h), (4, pp b1), (5, pp b2)] fun TA => ?_
 refine W.seq ?_
 refine W.drawn (by kernel_rfl) (by kernel_rfl) H.gn ?_
 have H3 := H
 refine RW.cl ?_
 refine WC.enter (fn := Tryz.f83) Tryz.func83 rfl ?_
 replace H := H3
 refine W.rg [] fun TA => ?_
 refine W.seq (W.region ?_)
 refine RW.v ?_
 refine RW.nil ?_
 refine W.rg [] fun TA => ?_
 refine W.seq (W.region ?_)
 refine RW.mk H (.row ⟨[.int .i64 0], 3, false⟩) ?_
 clear H; intro _ b4 _ H
 refine RW.st H 0 [.int .i64 200000] [.int .i64 200000] ?_
 clear H; intro _ _ H; dsimp only [setL, delL] at H
 refine RW.nil ?_
 refine W.rg [(1, pp b4)] fun TA => ?_
 refine W.seq (W.region ?_)
 refine RW.val (v := .func (.func 103) #[] #[.pointer (some ⟨b4, 0, none⟩)]) (by kernel_rfl) (by kernel_rfl) (by kernel_rfl) (by kernel_rfl) ?_
 refine RW.v ?_
 refine RW.nil ?_
 refine W.ret ?_
 refine endG (by rfl) (by exact resL_tmp rfl) ?_
 have H5 := H
 refine RW.v ?_
 refine RW.ld H5 2 2 ?_
 refine RW.ld H5 1 2 ?_
 refine RW.cl ?_
 refine WC.enter (fn := Tryz.f103) Tryz.func103 rfl ?_
 replace H := H5
 refine W.rg [(0, pp h), (1, .agg #[.int .i64 a.1, .int .i64 a.2]), (2, .agg #[.int .i64 b.1, .int .i64 b.2]), (3, pp b4)] fun TA => ?_
 refine W.seq (W.region ?_)
 refine RW.mk H (.row ⟨[.int .i64 a.1, .int .i64 a.2], 27, false⟩) ?_
 clear H; intro _ b6 _ H
 refine RW.mk H (.row ⟨[.int .i64 b.1, .int .i64 b.2], 27, false⟩) ?_
 clear H; intro _ b7 _ H
 iterate 2 refine RW.v ?_
 refine RW.nil ?_
 refine W.rg [(0, pp h), (3, pp b4), (5, pp b6), (6, pp b7)] fun TA => ?_
 refine W.seq (W.region ?_)
 refine RW.v ?_
 refine RW.ld H 1 2 ?_
 refine RW.ld H 0 2 ?_
 replace H := H.front 2 rfl
 dsimp only [setL, delL] at H
 refine RW.cl ?_
 refine ((equal_hw ga gb hlim H).mono ?_)
 clear H
 rintro _ _ ⟨rfl, n8, H⟩
 iterate 4 refine RW.v ?_
 refine RW.nil ?_
 replace H := ((H.del 2).del 1)
 dsimp only [setL, delL] at H
 refine W.ret ?_
 refine endG (by rfl) (by exact resL_tmp (by exact resL_tmp rfl)) ?_
 have H9 := H
 iterate 4 refine RW.v ?_
 refine RW.nil ?_
 refine ⟨⟨by kernel_rfl, ⟨trivial, trivial, dyn_row (H5.get 2 rfl) (H9.get 2 rfl) ⟨fun _ => H3.get 1 rfl, fun h => Bool.noConfusion h, fun h => Bool.noConfusion h, fun h => Bool.noConfusion h, fun _ => H5.get 2 rfl, fun h => Bool.noConfusion h, fun h => Bool.noConfusion h, fun h => Bool.noConfusion h, fun h => Bool.noConfusion h, trivial⟩, dyn_row (H5.get 1 rfl) (H9.get 1 rfl) ⟨fun _ => H3.get 0 rfl, fun h => Bool.noConfusion h, fun h => Bool.noConfusion h, fun h => Bool.noConfusion h, fun _ => H5.get 1 rfl, fun h => Bool.noConfusion h, fun h => Bool.noConfusion h, fun h => Bool.noConfusion h, fun h => Bool.noConfusion h, trivial⟩, trivial, trivial, trivial, trivial, trivial, trivial⟩⟩, ?_⟩
 replace H := H9
 clear H3 H5 H9
 replace H := (((H.del 2).del 1).del 0)
 dsimp only [setL, delL] at H
 refine W.ret ?_
 refine endG (by rfl) (by exact resL_tmp (by exact resL_tmp rfl)) ?_
 exact ⟨rfl, H⟩
end
end Go.Proofs.YtaaebeiigkhcjaaGreatDoor
namespace Go.Proofs.YtaaebeiigkhcjaaGreatDoor
set_option maxRecDepth 100000
def hasW (m : HM) (x : Wd) (xs : List Wd) : Bool := xs.any fun y => decide (keyW m x = keyW m y)
def depOf (m : HM) (x : Wd) (fs : List Rk) : Int := match fs.find? (fun y => decide (keyW m x = keyW m y.1)) with
 | some y => y.2
 | none => 0
def Deps (m : HM) (es : List Wd) (fs : List Rk) : Prop := es.length = fs.length ∧ ∀ i, i < es.length → (es.getD i (0, 0)).1 = 2 ∧ m.find (es.getD i (0, 0)) = some (.pair (fs.getD i rk0).1 (0, (fs.getD i rk0).2))
theorem getW_mem {l : List Wd} {j : Nat} (h : j < l.length) : l.getD j (0, 0) ∈ l := by
 rw [List.getD_eq_getElem?_getD, List.getElem?_eq_getElem h]
 exact List.getElem_mem h
theorem getR_mem {l : List Rk} {j : Nat} (h : j < l.length) : l.getD j rk0 ∈ l := by
 rw [List.getD_eq_getElem?_getD, List.getElem?_eq_getElem h]
 exact List.getElem_mem h
section
variable {m : HM} {x : Wd} {xs : List Wd} {fs : List Rk} {i : Nat}
theorem notW_next (hi : i < xs.length) (hN : ∀ y ∈ xs.take i, keyW m x ≠ keyW m y) (h : ¬ keyW m x = keyW m (xs.getD i (0, 0))) : ∀ y ∈ xs.take (i + 1), keyW m x ≠ keyW m y := by
 rw [take_snoc hi]
 intro y hy
 rcases List.mem_append.1 hy with e | e
 ·exact hN y e
 ·rw [List.mem_singleton.1 e]; exact h
theorem takeR_snoc (hi : i < fs.length) : fs.take (i + 1) = fs.take i ++ [fs.getD i rk0] := by
 rw [List.take_add_one, List.getElem?_eq_getElem hi, List.getD_eq_getElem?_getD, List.getElem?_eq_getElem hi]
 rfl
theorem notR_next (hi : i < fs.length) (hN : ∀ y ∈ fs.take i, keyW m x ≠ keyW m y.1) (h : ¬ keyW m x = keyW m (fs.getD i rk0).1) : ∀ y ∈ fs.take (i + 1), keyW m x ≠ keyW m y.1 := by
 rw [takeR_snoc hi]
 intro y hy
 rcases List.mem_append.1 hy with e | e
 ·exact hN y e
 ·rw [List.mem_singleton.1 e]; exact h
theorem has_false (h : ∀ y ∈ xs, keyW m x ≠ keyW m y) : hasW m x xs = false := by
 unfold hasW
 rw [List.any_eq_false]
 intro y hy
 rw [decide_eq_true_eq]
 exact h y hy
theorem has_true {y : Wd} (hy : y ∈ xs) (h : keyW m x = keyW m y) : hasW m x xs = true := List.any_eq_true.2 ⟨y, hy, decide_eq_true h⟩
theorem has_no (hN : ∀ y ∈ xs.take i, keyW m x ≠ keyW m y) (hi : xs.length ≤ i) : Value.tuple #[.bool false, .int .i64 0] = .tuple #[.bool (hasW m x xs), .int .i64 0] := by
 rw [List.take_of_length_le hi] at hN
 rw [has_false hN]
theorem has_yes (hi : i < xs.length) (h : keyW m x = keyW m (xs.getD i (0, 0))) : Value.tuple #[.bool (decide (keyW m x = keyW m (xs.getD i (0, 0)))), .int .i64 0] = .tuple #[.bool (hasW m x xs), .int .i64 0] := by
 rw [decide_eq_true h, has_true (getW_mem hi) h]
theorem depOf_no (h : ∀ y ∈ fs, keyW m x ≠ keyW m y.1) : depOf m x fs = 0 := by
 unfold depOf
 rw [List.find?_eq_none.2 fun y hy => by rw [decide_eq_true_eq]; exact h y hy]
theorem depOf_yes : ∀ {fs : List Rk} {i : Nat}, i < fs.length → (∀ y ∈ fs.take i, keyW m x ≠ keyW m y.1) → keyW m x = keyW m (fs.getD i rk0).1 → depOf m x fs = (fs.getD i rk0).2
 | [], _, hi, _, _ => absurd hi (Nat.not_lt_zero _)
 | y :: l, 0, _, _, h => by
  unfold depOf
  rw [List.find?_cons_of_pos (by exact decide_eq_true h)]
  rfl
 | y :: l, i + 1, hi, hN, h => by
  have h1 : keyW m x ≠ keyW m y.1 := hN y (by rw [List.take_succ_cons]; exact List.mem_cons_self ..)
  have := depOf_yes (fs := l) (i := i) (by simpa using hi) (fun z hz => hN z (by rw [List.take_succ_cons]; exact List.mem_cons_of_mem _ hz)) h
  unfold depOf at this ⊢
  rw [List.find?_cons_of_neg (by rw [decide_eq_true_eq]; exact h1)]
  exact this
theorem dep_no (hN : ∀ y ∈ fs.take i, keyW m x ≠ keyW m y.1) (hi : fs.length ≤ i) : Value.tuple #[.int .i64 0, .int .i64 0] = .tuple #[.int .i64 (depOf m x fs), .int .i64 0] := by
 rw [List.take_of_length_le hi] at hN
 rw [depOf_no hN]
theorem dep_yes (hi : i < fs.length) (hN : ∀ y ∈ fs.take i, keyW m x ≠ keyW m y.1) (h : keyW m x = keyW m (fs.getD i rk0).1) : Value.tuple #[.int .i64 (fs.getD i rk0).2, .int .i64 0] = .tuple #[.int .i64 (depOf m x fs), .int .i64 0] := by
 rw [depOf_yes hi hN h]
end
section
variable {h : Nat} {m : HM} {σ0 : Mem}
set_option maxHeartbeats 4000000 in
theorem find_wc {x : Wd} {xs : List Wd} {v : Value} (hG : G66 ≤ σ0.next) (ha : σ0.abs = heapAbs h m) (hlo : 0 < m.limit) (hn : xs.length ≤ 65536) (hs : SlF σ0.get 2 v xs.length (wdC xs)) (gx : Good m x) (gxs : ∀ y ∈ xs, Good m y) :
  WC G66 Tryz.prog 43 #[pp h, v, wdV x] σ0 fun r σ' => r = .tuple #[.bool (hasW m x xs), .int .i64 0] ∧ Lies G66 (heapAbs h m) σ0.get σ' [] := by
 have H := Lies.start hG ha
 generalize σ0.get = F at H hs ⊢
 refine WC.enter (fn := Tryz.f43) Tryz.func43 rfl ?_
 refine W.rg [(0, pp h), (1, v), (2, .agg #[.int .i64 x.1, .int .i64 x.2])] fun TA => ?_
 refine W.seq (W.region ?_)
 refine RW.mk H (.row ⟨[.int .i64 x.1, .int .i64 x.2], 27, false⟩) ?_
 clear H; intro _ b1 _ H
 iterate 2 refine RW.v ?_
 refine RW.nil ?_
 refine W.rg [(0, pp h), (1, v), (5, pp b1)] fun TA => ?_
 refine W.seq ?_
 refine W.seq (W.region ?_)
 refine RW.v ?_
 refine RW.len (by kernel_rfl) (by kernel_rfl) rfl rfl rfl rfl (hs.len (e := 27) (by kernel_rfl)) (by kernel_rfl) ?_
 refine RW.v ?_
 refine RW.nil ?_
 refine W.rg [(0, pp h), (5, pp b1), (12, v), (13, .int .i64 (xs.length : Int)), (14, .int .i64 0)] fun TA => ?_
 refine W.block ?_
 refine W.loop (fun mm ta σ => ∃ (i : Nat), (mm + i = xs.length) ∧ (∀ y ∈ xs.take i, keyW m x ≠ keyW m y) ∧ Lies G66 (heapAbs h m) F σ [.at_ b1 (.row ⟨[.int .i64 x.1, .int .i64 x.2], 27, false⟩)] ∧ ta 0 = .pointer (some ⟨h, 0, none⟩) ∧ ta 5 = .pointer (some ⟨b1, 0, none⟩) ∧ ta 12 = v ∧ ta 13 = .int .i64 (xs.length : Int) ∧ ta 14 = .int .i64 ((i : Nat) : Int)) xs.length ?_ ?_
 ·exact ⟨0, (by omega), (fun y hy => by simp at hy), H, rfl, rfl, rfl, rfl, rfl⟩
 clear H
 rintro mm ta _ ⟨i, hm, hN, H, e0, e5, e12, e13, e14⟩
 refine W.rst [(0, .pointer (some ⟨h, 0, none⟩)), (5, .pointer (some ⟨b1, 0, none⟩)), (12, v), (13, .int .i64 (xs.length : Int)), (14, .int .i64 ((i : Nat) : Int))] ⟨e0, e5, e12, e13, e14, trivial⟩ fun TA => ?_
 clear e0 e5 e12 e13 e14
 refine W.seq (W.region ?_)
 refine RW.v ?_
 refine RW.nil ?_
 refine W.rg [(0, pp h), (5, pp b1), (12, v), (13, .int .i64 (xs.length : Int)), (14, .int .i64 ((i : Nat) : Int)), (15, .bool (decide (((i : Nat) : Int) < (xs.length : Int))))] fun TA => ?_
 refine W.seq ?_
 refine W.cond rfl (fun hc2 => ?_) (fun hc2 => ?_)
 ·have hc2b := hc2
  have hc2 := of_decide_eq_true hc2
  refine W.skip ?_
  refine W.seq ?_
  refine W.block ?_
  refine W.seq (W.region ?_)
  refine RW.idxF hs (by kernel_rfl) (by kernel_rfl) rfl Tryz.underlying33 (by kernel_rfl) rfl rfl ⟨by omega, by omega⟩ (by kernel_rfl) ?_
  intro b3 q4 r5 hF6 hE7
  rw [wdC_at (l := xs) (j := i) (by omega)] at hE7
  refine RW.loads 2 (by kernel_rfl) (by kernel_rfl) rfl rfl (H.old _ _ hF6) hE7 rfl (by kernel_rfl) ?_
  refine RW.mk H (.row ⟨[.int .i64 0, .int .i64 0], 27, false⟩) ?_
  clear H; intro _ b8 _ H
  refine RW.st H 0 [.int .i64 ((xs.getD i (0, 0)).1), .int .i64 ((xs.getD i (0, 0)).2)] [.int .i64 ((xs.getD i (0, 0)).1), .int .i64 ((xs.getD i (0, 0)).2)] ?_
  clear H; intro _ _ H; dsimp only [setL, delL] at H
  refine RW.nil ?_
  refine W.rg [(0, pp h), (5, pp b1), (9, pp b8), (12, v), (13, .int .i64 (xs.length : Int)), (14, .int .i64 ((i : Nat) : Int))] fun TA => ?_
  refine W.seq (W.region ?_)
  refine RW.v ?_
  refine RW.ld H 1 2 ?_
  refine RW.ld H 0 2 ?_
  refine RW.cl ?_
  refine ((Equal_hw gx (gxs _ (getW_mem (l := xs) (by omega))) hlo H).mono ?_)
  clear H
  rintro _ _ ⟨rfl, H⟩
  iterate 5 refine RW.v ?_
  refine RW.nil ?_
  replace H := (H.del 0)
  dsimp only [setL, delL] at H
  refine W.rg [(0, pp h), (5, pp b1), (10, .bool (decide (keyW m x = keyW m (xs.getD i (0, 0))))), (11, .int .i64 0), (12, v), (13, .int .i64 (xs.length : Int)), (14, .int .i64 ((i : Nat) : Int))] fun TA => ?_
  refine W.seq (W.region ?_)
  iterate 3 refine RW.v ?_
  refine RW.val (by rfl) (by kernel_rfl) rfl (by kernel_rfl) ?_
  refine RW.v ?_
  refine RW.nil ?_
  refine W.rg [(0, pp h), (5, pp b1), (10, .bool (decide (keyW m x = keyW m (xs.getD i (0, 0))))), (11, .int .i64 0), (12, v), (13, .int .i64 (xs.length : Int)), (14, .int .i64 ((i : Nat) : Int)), (29, .bool (decide (keyW m x = keyW m (xs.getD i (0, 0)))))] fun TA => ?_
  refine W.cond rfl (fun hc9 => ?_) (fun hc9 => ?_)
  ·have hc9b := hc9
   have hc9 := of_decide_eq_true hc9
   refine W.seq (W.region ?_)
   iterate 4 refine RW.v ?_
   refine RW.nil ?_
   replace H := (H.del 0)
   dsimp only [setL, delL] at H
   refine W.ret ?_
   refine blkQ_ret ?_
   refine seqQ_ret ?_
   refine rndQ_ret ?_
   refine blkQ_ret ?_
   refine seqQ_ret ?_
   refine endG (by rfl) (by exact resL_tmp (by exact resL_tmp rfl)) ?_
   exact ⟨has_yes (by omega) hc9, H⟩
  ·have hc9b := hc9
   have hc9 := of_decide_eq_false hc9
   refine W.skip ?_
   refine blkQ_normal ?_
   refine W.region ?_
   refine RW.valE (v' := .int .i64 (((i : Nat) : Int) + 1)) (by kernel_rfl) (by kernel_rfl) rfl (congrArg (Value.int .i64) (wrap_in (by omega) (by omega))) (by kernel_rfl) ?_
   refine RW.v ?_
   refine RW.nil ?_
   exact ⟨rfl, mm - 1, by omega, i + 1, (by omega), (notW_next (by omega) hN hc9), H, rfl, rfl, rfl, rfl, rfl⟩
 ·have hc2b := hc2
  have hc2 := of_decide_eq_false hc2
  refine W.exit _ ?_
  refine seqQ_exit ?_
  refine rndQ_exit ?_
  refine blkQ_here ?_
  refine W.seq (W.region ?_)
  iterate 2 refine RW.v ?_
  refine RW.nil ?_
  replace H := (H.del 0)
  dsimp only [setL, delL] at H
  refine W.ret ?_
  refine endG (by rfl) (by exact resL_tmp (by exact resL_tmp rfl)) ?_
  exact ⟨has_no hN (by omega), H⟩
set_option maxHeartbeats 4000000 in
theorem entry_wc {e f : Wd} {d : Int} (he : e.1 = 2) (hf : m.find e = some (.pair f (0, d))) (hG : G66 ≤ σ0.next) (ha : σ0.abs = heapAbs h m) :
  WC G66 Tryz.prog 58 #[pp h, wdV e] σ0 fun r σ' => r = .tuple #[wdV f, .int .i64 d, .bool true] ∧ Lies G66 (heapAbs h m) σ0.get σ' [] := by
 obtain ⟨k2, k⟩ := e
 obtain rfl : k2 = 2 := he
 have H := Lies.start hG ha
 generalize σ0.get = F at H ⊢
 refine WC.enter (fn := Tryz.f58) Tryz.func58 rfl ?_
 refine W.rg [(0, pp h), (1, .agg #[.int .i64 2, .int .i64 k])] fun TA => ?_
 refine W.seq (W.region ?_)
 refine RW.mk H (.row ⟨[.int .i64 2, .int .i64 k], 27, false⟩) ?_
 clear H; intro _ b1 _ H
 refine RW.mk H (.row ⟨[.int .i64 0, .int .i64 0], 27, false⟩) ?_
 clear H; intro _ b2 _ H
 iterate 2 refine RW.v ?_
 refine RW.nil ?_
 refine W.rg [(0, pp h), (3, pp b1), (4, pp b2)] fun TA => ?_
 refine W.seq ?_
 refine W.seq (W.region ?_)
 refine RW.v ?_
 refine RW.ld H 1 2 ?_
 refine RW.cl ?_
 refine WC.enter (fn := Tryz.f85) Tryz.func85 rfl ?_
 refine W.rg [(0, pp h), (1, .agg #[.int .i64 2, .int .i64 k])] fun TA => ?_
 refine W.seq (W.region ?_)
 refine RW.mk H (.row ⟨[.int .i64 2, .int .i64 k], 27, false⟩) ?_
 clear H; intro _ b3 _ H
 refine RW.v ?_
 refine RW.nil ?_
 refine W.rg [(0, pp h), (3, pp b3)] fun TA => ?_
 refine W.seq (W.region ?_)
 refine RW.v ?_
 refine RW.ld H 0 1 ?_
 iterate 2 refine RW.v ?_
 refine RW.val (by rfl) (by kernel_rfl) rfl (by kernel_rfl) ?_
 refine RW.ldL H 0 2 (by rfl) (by kernel_rfl) rfl rfl rfl rfl rfl (by kernel_rfl) ?_
 refine RW.cl (hw := by rfl) ?_
 refine ⟨_, _, (liveY_call (G := G66) H.abs hf), ?_⟩
 iterate 2 refine RW.v ?_
 refine RW.nil ?_
 replace H := (H.del 0)
 dsimp only [setL, delL] at H
 refine W.ret ?_
 refine endG (by rfl) (by exact resL_tmp rfl) ?_
 refine RW.v ?_
 refine RW.nil ?_
 refine W.c0 ?_
 refine W.skip ?_
 refine W.seq (W.region ?_)
 refine RW.v ?_
 refine RW.ld H 1 2 ?_
 refine RW.cl ?_
 refine ⟨_, _, (carY_call (G := G66) H.abs hf), ?_⟩
 iterate 3 refine RW.v ?_
 refine RW.st H 0 [.int .i64 f.1, .int .i64 f.2] [.int .i64 f.1, .int .i64 f.2] ?_
 clear H; intro _ _ H; dsimp only [setL, delL] at H
 refine RW.nil ?_
 refine W.rg [(0, pp h), (3, pp b1), (4, pp b2)] fun TA => ?_
 refine W.seq (W.region ?_)
 refine RW.v ?_
 refine RW.ld H 1 2 ?_
 refine RW.cl ?_
 refine ⟨_, _, (cdrY_call H.abs hf), ?_⟩
 iterate 3 refine RW.v ?_
 refine RW.mk H (.row ⟨[.int .i64 0, .int .i64 0], 27, false⟩) ?_
 clear H; intro _ b4 _ H
 refine RW.st H 0 [.int .i64 0, .int .i64 d] [.int .i64 0, .int .i64 d] ?_
 clear H; intro _ _ H; dsimp only [setL, delL] at H
 refine RW.v ?_
 refine RW.nil ?_
 replace H := (H.del 2)
 dsimp only [setL, delL] at H
 refine W.rg [(4, pp b2), (7, pp b4)] fun TA => ?_
 refine W.seq ?_
 refine W.drawn (by kernel_rfl) (by kernel_rfl) H.gn ?_
 have H5 := H
 refine RW.ld H5 1 2 ?_
 refine RW.v ?_
 refine RW.ld H5 0 1 ?_
 refine RW.v ?_
 refine RW.ld H5 0 1 ?_
 refine RW.v ?_
 refine RW.stD H5 1 (vs := [.int .i64 f.1, .int .i64 f.2]) (cs' := [.int .i64 f.1, .int .i64 f.2]) (by kernel_rfl) (by kernel_rfl) rfl rfl rfl rfl rfl (by kernel_rfl) (Nat.le_of_ble_eq_true rfl) rfl (by kernel_rfl) ?_
 intro _ H6
 dsimp only [setL, delL] at H6
 iterate 2 refine RW.v ?_
 refine RW.nil ?_
 refine ⟨⟨by kernel_rfl, ⟨dyn_row (H5.get 1 rfl) (H6.get 1 rfl) ⟨fun h => Bool.noConfusion h, fun h => Bool.noConfusion h, fun h => Bool.noConfusion h, fun h => Bool.noConfusion h, fun h => Bool.noConfusion h, fun h => Bool.noConfusion h, fun _ => H5.get 1 rfl, fun h => Bool.noConfusion h, fun h => Bool.noConfusion h, trivial⟩, trivial, dyn_row (H5.get 0 rfl) (H6.get 0 rfl) ⟨fun h => Bool.noConfusion h, fun h => Bool.noConfusion h, fun h => Bool.noConfusion h, fun h => Bool.noConfusion h, fun h => Bool.noConfusion h, fun h => Bool.noConfusion h, fun _ => H5.get 0 rfl, fun h => Bool.noConfusion h, fun h => Bool.noConfusion h, trivial⟩, trivial, dyn_row (H5.get 0 rfl) (H6.get 0 rfl) ⟨fun h => Bool.noConfusion h, fun h => Bool.noConfusion h, fun h => Bool.noConfusion h, fun h => Bool.noConfusion h, fun h => Bool.noConfusion h, fun h => Bool.noConfusion h, fun _ => H5.get 0 rfl, fun h => Bool.noConfusion h, fun h => Bool.noConfusion h, trivial⟩, trivial, trivial, trivial, trivial, trivial⟩⟩, ?_⟩
 replace H := H6
 clear H5 H6
 replace H := (H.del 0)
 dsimp only [setL, delL] at H
 refine W.ret ?_
 refine endG (by rfl) (by exact resL_cell rfl (H.get 0 rfl) (by rw [uT_eq]; exact Tryz.underlying27) (by kernel_rfl) rfl rfl (by exact resL_tmp (by exact resL_tmp rfl))) ?_
 exact ⟨rfl, (H.del 0)⟩
set_option maxHeartbeats 4000000 in
theorem depth_wc {x : Wd} {es : List Wd} {fs : List Rk} {v : Value} (hG : G66 ≤ σ0.next) (ha : σ0.abs = heapAbs h m) (hlo : 0 < m.limit) (hn : es.length ≤ 65536) (hs : SlF σ0.get 2 v es.length (wdC es)) (gx : Good m x) (gfs : ∀ y ∈ fs, Good m y.1) (hdp : Deps m es fs) :
  WC G66 Tryz.prog 44 #[pp h, v, wdV x] σ0 fun r σ' => r = .tuple #[.int .i64 (depOf m x fs), .int .i64 0] ∧ Lies G66 (heapAbs h m) σ0.get σ' [] := by
 have hfl := hdp.1
 have H := Lies.start hG ha
 generalize σ0.get = F at H hs ⊢
 refine WC.enter (fn := Tryz.f44) Tryz.func44 rfl ?_
 refine W.rg [(0, pp h), (1, v), (2, .agg #[.int .i64 x.1, .int .i64 x.2])] fun TA => ?_
 refine W.seq (W.region ?_)
 refine RW.mk H (.row ⟨[.int .i64 x.1, .int .i64 x.2], 27, false⟩) ?_
 clear H; intro _ b1 _ H
 iterate 2 refine RW.v ?_
 refine RW.nil ?_
 refine W.rg [(0, pp h), (1, v), (5, pp b1)] fun TA => ?_
 refine W.seq ?_
 refine W.seq (W.region ?_)
 refine RW.v ?_
 refine RW.len (by kernel_rfl) (by kernel_rfl) rfl rfl rfl rfl (hs.len (e := 27) (by kernel_rfl)) (by kernel_rfl) ?_
 refine RW.v ?_
 refine RW.nil ?_
 refine W.rg [(0, pp h), (5, pp b1), (15, v), (16, .int .i64 (es.length : Int)), (17, .int .i64 0)] fun TA => ?_
 refine W.block ?_
 refine W.loop (fun mm ta σ => ∃ (i : Nat), (mm + i = es.length) ∧ (∀ y ∈ fs.take i, keyW m x ≠ keyW m y.1) ∧ Lies G66 (heapAbs h m) F σ [.at_ b1 (.row ⟨[.int .i64 x.1, .int .i64 x.2], 27, false⟩)] ∧ ta 0 = .pointer (some ⟨h, 0, none⟩) ∧ ta 5 = .pointer (some ⟨b1, 0, none⟩) ∧ ta 15 = v ∧ ta 16 = .int .i64 (es.length : Int) ∧ ta 17 = .int .i64 ((i : Nat) : Int)) es.length ?_ ?_
 ·exact ⟨0, (by omega), (fun y hy => by simp at hy), H, rfl, rfl, rfl, rfl, rfl⟩
 clear H
 rintro mm ta _ ⟨i, hm, hN, H, e0, e5, e15, e16, e17⟩
 refine W.rst [(0, .pointer (some ⟨h, 0, none⟩)), (5, .pointer (some ⟨b1, 0, none⟩)), (15, v), (16, .int .i64 (es.length : Int)), (17, .int .i64 ((i : Nat) : Int))] ⟨e0, e5, e15, e16, e17, trivial⟩ fun TA => ?_
 clear e0 e5 e15 e16 e17
 refine W.seq (W.region ?_)
 refine RW.v ?_
 refine RW.nil ?_
 refine W.rg [(0, pp h), (5, pp b1), (15, v), (16, .int .i64 (es.length : Int)), (17, .int .i64 ((i : Nat) : Int)), (18, .bool (decide (((i : Nat) : Int) < (es.length : Int))))] fun TA => ?_
 refine W.seq ?_
 refine W.cond rfl (fun hc2 => ?_) (fun hc2 => ?_)
 ·have hc2b := hc2
  have hc2 := of_decide_eq_true hc2
  refine W.skip ?_
  refine W.seq ?_
  refine W.block ?_
  refine W.seq (W.region ?_)
  refine RW.idxF hs (by kernel_rfl) (by kernel_rfl) rfl Tryz.underlying33 (by kernel_rfl) rfl rfl ⟨by omega, by omega⟩ (by kernel_rfl) ?_
  intro b3 q4 r5 hF6 hE7
  rw [wdC_at (l := es) (j := i) (by omega)] at hE7
  refine RW.loads 2 (by kernel_rfl) (by kernel_rfl) rfl rfl (H.old _ _ hF6) hE7 rfl (by kernel_rfl) ?_
  refine RW.mk H (.row ⟨[.int .i64 0, .int .i64 0], 27, false⟩) ?_
  clear H; intro _ b8 _ H
  refine RW.st H 0 [.int .i64 ((es.getD i (0, 0)).1), .int .i64 ((es.getD i (0, 0)).2)] [.int .i64 ((es.getD i (0, 0)).1), .int .i64 ((es.getD i (0, 0)).2)] ?_
  clear H; intro _ _ H; dsimp only [setL, delL] at H
  refine RW.nil ?_
  refine W.rg [(0, pp h), (5, pp b1), (9, pp b8), (15, v), (16, .int .i64 (es.length : Int)), (17, .int .i64 ((i : Nat) : Int))] fun TA => ?_
  refine W.seq (W.region ?_)
  refine RW.v ?_
  refine RW.ld H 0 2 ?_
  refine RW.cl ?_
  refine ((entry_wc (hdp.2 i (by omega)).1 (hdp.2 i (by omega)).2 H.gn H.abs).mono ?_)
  rintro _ _ ⟨rfl, K⟩
  replace H := H.then K
  clear K
  dsimp only [List.nil_append, List.cons_append] at H
  iterate 4 refine RW.v ?_
  refine RW.mk H (.row ⟨[.int .i64 0, .int .i64 0], 27, false⟩) ?_
  clear H; intro _ b9 _ H
  refine RW.st H 0 [.int .i64 ((fs.getD i rk0).1.1), .int .i64 ((fs.getD i rk0).1.2)] [.int .i64 ((fs.getD i rk0).1.1), .int .i64 ((fs.getD i rk0).1.2)] ?_
  clear H; intro _ _ H; dsimp only [setL, delL] at H
  iterate 2 refine RW.v ?_
  refine RW.nil ?_
  replace H := (H.del 1)
  dsimp only [setL, delL] at H
  refine W.rg [(0, pp h), (5, pp b1), (10, pp b9), (11, .int .i64 ((fs.getD i rk0).2)), (12, .bool true), (15, v), (16, .int .i64 (es.length : Int)), (17, .int .i64 ((i : Nat) : Int))] fun TA => ?_
  refine W.seq ?_
  refine W.seq (W.region ?_)
  iterate 2 refine RW.v ?_
  refine RW.nil ?_
  refine W.c0 ?_
  refine W.skip ?_
  refine W.seq (W.region ?_)
  refine RW.v ?_
  refine RW.ld H 1 2 ?_
  refine RW.ld H 0 2 ?_
  refine RW.cl ?_
  refine ((Equal_hw gx (gfs _ (getR_mem (l := fs) (by omega))) hlo H).mono ?_)
  clear H
  rintro _ _ ⟨rfl, H⟩
  iterate 5 refine RW.v ?_
  refine RW.nil ?_
  replace H := (H.del 0)
  dsimp only [setL, delL] at H
  refine W.rg [(0, pp h), (5, pp b1), (11, .int .i64 ((fs.getD i rk0).2)), (13, .bool (decide (keyW m x = keyW m (fs.getD i rk0).1))), (14, .int .i64 0), (15, v), (16, .int .i64 (es.length : Int)), (17, .int .i64 ((i : Nat) : Int))] fun TA => ?_
  refine W.seq ?_
  refine W.seq (W.region ?_)
  iterate 2 refine RW.v ?_
  refine RW.nil ?_
  refine W.c0 ?_
  refine W.skip ?_
  refine W.seq (W.region ?_)
  refine RW.v ?_
  refine RW.nil ?_
  refine W.rg [(0, pp h), (5, pp b1), (11, .int .i64 ((fs.getD i rk0).2)), (15, v), (16, .int .i64 (es.length : Int)), (17, .int .i64 ((i : Nat) : Int)), (40, .bool (decide (keyW m x = keyW m (fs.getD i rk0).1)))] fun TA => ?_
  refine W.cond rfl (fun hc10 => ?_) (fun hc10 => ?_)
  ·have hc10b := hc10
   have hc10 := of_decide_eq_true hc10
   refine W.seq (W.region ?_)
   iterate 3 refine RW.v ?_
   refine RW.nil ?_
   replace H := (H.del 0)
   dsimp only [setL, delL] at H
   refine W.ret ?_
   refine blkQ_ret ?_
   refine seqQ_ret ?_
   refine rndQ_ret ?_
   refine blkQ_ret ?_
   refine seqQ_ret ?_
   refine endG (by rfl) (by exact resL_tmp (by exact resL_tmp rfl)) ?_
   exact ⟨dep_yes (by omega) hN hc10, H⟩
  ·have hc10b := hc10
   have hc10 := of_decide_eq_false hc10
   refine W.skip ?_
   refine blkQ_normal ?_
   refine W.region ?_
   refine RW.valE (v' := .int .i64 (((i : Nat) : Int) + 1)) (by kernel_rfl) (by kernel_rfl) rfl (congrArg (Value.int .i64) (wrap_in (by omega) (by omega))) (by kernel_rfl) ?_
   refine RW.v ?_
   refine RW.nil ?_
   exact ⟨rfl, mm - 1, by omega, i + 1, (by omega), (notR_next (by omega) hN hc10), H, rfl, rfl, rfl, rfl, rfl⟩
 ·have hc2b := hc2
  have hc2 := of_decide_eq_false hc2
  refine W.exit _ ?_
  refine seqQ_exit ?_
  refine rndQ_exit ?_
  refine blkQ_here ?_
  refine W.seq (W.region ?_)
  iterate 2 refine RW.v ?_
  refine RW.nil ?_
  replace H := (H.del 0)
  dsimp only [setL, delL] at H
  refine W.ret ?_
  refine endG (by rfl) (by exact resL_tmp (by exact resL_tmp rfl)) ?_
  exact ⟨dep_no hN (by omega), H⟩
end
end Go.Proofs.YtaaebeiigkhcjaaGreatDoor
