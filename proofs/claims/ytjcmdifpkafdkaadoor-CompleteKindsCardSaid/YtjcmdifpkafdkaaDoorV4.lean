/-
 Comparison of candidates by length and by bytes. Conditions: none.
 Candidates by length and by their characters: an order, and the same by bytes. Plain. Conditions: none.
-/
import Derived.Test.YtjcmdifpkafdkaaDoorV1
import Derived.Test.YtjcmdifpkafdkaaDoorC2
namespace Go.Proofs.YtjcmdifpkafdkaaDoor
open Go.Lib
set_option maxRecDepth 100000
theorem vop_sLt {P : Program} {o : Oper} {ρ : Operand → Value} {t t' : TypeId} {x y : Operand} {a b : ByteArray} (ho : o.op = .binOp .lss t x y t') {r : Bool} (hx : ρ x = .string a) (hy : ρ y = .string b) (hr : (Op.bytesLess a.data.toList b.data.toList) = r) : VOp P o ρ (.bool r) := fun μ ρc hor => by
 rw [ho] at hor
 have h1 := hor x (by simp [Op.operands])
 have h2 := hor y (by simp [Op.operands])
 rw [hx] at h1
 rw [hy] at h2
 have h1 := flatV_eq rfl h1
 have h2 := flatV_eq rfl h2
 refine ⟨_, .flat _ rfl, fun w => ?_⟩
 unfold execOp
 simp only [ho, h1, h2]
 simp only [eqGuard, binOp, Op.stringOp, ByteArray.toList_eq, hr]
 rfl
theorem vop_sGt {P : Program} {o : Oper} {ρ : Operand → Value} {t t' : TypeId} {x y : Operand} {a b : ByteArray} (ho : o.op = .binOp .gtr t x y t') {r : Bool} (hx : ρ x = .string a) (hy : ρ y = .string b) (hr : (!(Op.bytesLess a.data.toList b.data.toList || a.data.toList == b.data.toList)) = r) : VOp P o ρ (.bool r) := fun μ ρc hor => by
 rw [ho] at hor
 have h1 := hor x (by simp [Op.operands])
 have h2 := hor y (by simp [Op.operands])
 rw [hx] at h1
 rw [hy] at h2
 have h1 := flatV_eq rfl h1
 have h2 := flatV_eq rfl h2
 refine ⟨_, .flat _ rfl, fun w => ?_⟩
 unfold execOp
 simp only [ho, h1, h2]
 simp only [eqGuard, binOp, Op.stringOp, ByteArray.toList_eq, hr]
 rfl
def cmpB (x y : List UInt8) : Int := if Op.bytesLess x y = true then -1 else if (!(Op.bytesLess x y || x == y)) = true then 1 else 0
def cmpS (x y : List UInt8) : Int := or2 (cmpI ((runes x).length : Int) ((runes y).length : Int)) (cmpB x y)
def ltS (x y : List UInt8) : Bool := decide (cmpS x y < 0)
theorem gD_small {zs : List (List UInt8)} (h : ∀ x ∈ zs, x.length ≤ 1000000) (j : Nat) : (gD zs j).length ≤ 1000000 := by
 by_cases hj : j < zs.length
 ·exact h _ (g_mem hj)
 ·unfold gD
  rw [List.getD_eq_getElem?_getD, List.getElem?_eq_none (by omega)]
  exact Nat.zero_le _
theorem swpD_small {zs : List (List UInt8)} {p q : Nat} (h : ∀ x ∈ zs, x.length ≤ 1000000) : ∀ x ∈ swpD zs p q, x.length ≤ 1000000 := fun x hx => by
 unfold swpD at hx
 rcases List.mem_or_eq_of_mem_set hx with hx | rfl
 ·rcases List.mem_or_eq_of_mem_set hx with hx | rfl
  ·exact h x hx
  ·exact gD_small h q
 ·exact gD_small h p
theorem swapR_small : ∀ (n : Nat) (zs : List (List UInt8)) (a b : Nat), (∀ x ∈ zs, x.length ≤ 1000000) → ∀ x ∈ swapR zs a b n, x.length ≤ 1000000
 | 0, _, _, _, h => h
 | n + 1, zs, a, b, h => swapR_small n _ _ _ (swpD_small h)
theorem rotG_small : ∀ (n : Nat) (zs : List (List UInt8)) (m i j : Nat), (∀ x ∈ zs, x.length ≤ 1000000) → ∀ x ∈ rotG n zs m i j, x.length ≤ 1000000
 | 0, _, _, _, _, h => h
 | n + 1, zs, m, i, j, h => by
  unfold rotG
  split
  ·exact swapR_small _ _ _ _ h
  ·split
   ·exact rotG_small n _ _ _ _ (swapR_small _ _ _ _ h)
   ·exact rotG_small n _ _ _ _ (swapR_small _ _ _ _ h)
theorem upM_small : ∀ (n : Nat) (zs : List (List UInt8)) (k : Nat), (∀ x ∈ zs, x.length ≤ 1000000) → ∀ x ∈ upM n zs k, x.length ≤ 1000000
 | 0, _, _, h => h
 | n + 1, _, _, h => upM_small n _ _ (swpD_small h)
theorem downM_small : ∀ (n : Nat) (zs : List (List UInt8)) (k : Nat), (∀ x ∈ zs, x.length ≤ 1000000) → ∀ x ∈ downM n zs k, x.length ≤ 1000000
 | 0, _, _, h => h
 | n + 1, _, _, h => downM_small n _ _ (swpD_small h)
theorem insI_small {lt : List UInt8 → List UInt8 → Bool} {a : Nat} : ∀ (j : Nat) (zs : List (List UInt8)), (∀ x ∈ zs, x.length ≤ 1000000) → ∀ x ∈ insI lt zs a j, x.length ≤ 1000000
 | 0, _, h => h
 | j + 1, zs, h => by
  unfold insI
  split
  ·exact insI_small j _ (swpD_small h)
  ·exact h
theorem insO_small {lt : List UInt8 → List UInt8 → Bool} {a : Nat} : ∀ (k : Nat) (zs : List (List UInt8)) (i : Nat), (∀ x ∈ zs, x.length ≤ 1000000) → ∀ x ∈ insO lt a k zs i, x.length ≤ 1000000
 | 0, _, _, h => h
 | k + 1, _, _, h => insO_small k _ _ (insI_small _ _ h)
theorem symM_small {lt : List UInt8 → List UInt8 → Bool} : ∀ (n : Nat) (zs : List (List UInt8)) (a m b : Nat), (∀ x ∈ zs, x.length ≤ 1000000) → ∀ x ∈ symM lt n zs a m b, x.length ≤ 1000000
 | 0, _, _, _, _, h => h
 | n + 1, zs, a, m, b, h => by
  unfold symM
  split
  ·exact upM_small _ _ _ h
  ·split
   ·exact downM_small _ _ _ h
   ·dsimp only
    have ih := symM_small (lt := lt) n
    have hr := rotG_small
    repeat' split
    all_goals first | exact h | exact hr _ _ _ _ _ h | exact ih _ _ _ _ h | exact ih _ _ _ _ (hr _ _ _ _ _ h) | exact ih _ _ _ _ (ih _ _ _ _ h) | exact ih _ _ _ _ (ih _ _ _ _ (hr _ _ _ _ _ h))
section
variable {G : Nat} {A : Abs} {σ : Mem} {F : Nat → Option Blk2} {L : List Ent}
set_option maxHeartbeats 4000000 in
theorem cmpB_wc {x y : List UInt8} (H : Lies G A F σ L) : WC G Tryd.prog 80 #[.string ⟨x.toArray⟩, .string ⟨y.toArray⟩] σ fun v σ' => v = .int .i64 (cmpB x y) ∧ Lies G A F σ' L := by
 refine WC.enter (fn := Tryd.f80) Tryd.func80 rfl ?_
 refine W.rg [(0, .string ⟨x.toArray⟩), (1, .string ⟨y.toArray⟩)] fun TA => ?_
 refine W.seq (W.region ?_)
 refine RW.v ?_
 refine RW.nil ?_
 refine W.rg [(0, .string ⟨x.toArray⟩), (1, .string ⟨y.toArray⟩)] fun TA => ?_
 refine W.seq (W.region ?_)
 refine RW.v ?_
 refine RW.cl ?_
 refine WC.enter (fn := Tryd.f102) Tryd.func102 rfl ?_
 refine W.rg [(0, .string ⟨x.toArray⟩)] fun TA => ?_
 refine W.seq (W.region ?_)
 refine RW.v ?_
 refine RW.nil ?_
 refine W.rg [(0, .string ⟨x.toArray⟩)] fun TA => ?_
 refine W.seq (W.region ?_)
 iterate 2 refine RW.v ?_
 refine RW.vop (v := .bool false) (by kernel_rfl) (by kernel_rfl) (vop_sNe rfl rfl rfl (by simp)) (by kernel_rfl) ?_
 refine RW.v ?_
 refine RW.nil ?_
 refine W.ret ?_
 refine endG (by rfl) (by exact resL_tmp rfl) ?_
 refine RW.v ?_
 refine RW.nil ?_
 refine W.rg [(0, .string ⟨x.toArray⟩), (1, .string ⟨y.toArray⟩), (5, .bool false)] fun TA => ?_
 refine W.seq (W.region ?_)
 refine RW.v ?_
 refine RW.cl ?_
 refine WC.enter (fn := Tryd.f102) Tryd.func102 rfl ?_
 refine W.rg [(0, .string ⟨y.toArray⟩)] fun TA => ?_
 refine W.seq (W.region ?_)
 refine RW.v ?_
 refine RW.nil ?_
 refine W.rg [(0, .string ⟨y.toArray⟩)] fun TA => ?_
 refine W.seq (W.region ?_)
 iterate 2 refine RW.v ?_
 refine RW.vop (v := .bool false) (by kernel_rfl) (by kernel_rfl) (vop_sNe rfl rfl rfl (by simp)) (by kernel_rfl) ?_
 refine RW.v ?_
 refine RW.nil ?_
 refine W.ret ?_
 refine endG (by rfl) (by exact resL_tmp rfl) ?_
 refine RW.v ?_
 refine RW.nil ?_
 refine W.rg [(0, .string ⟨x.toArray⟩), (1, .string ⟨y.toArray⟩), (5, .bool false), (6, .bool false)] fun TA => ?_
 refine W.seq ?_
 refine W.seq (W.region ?_)
 refine RW.v ?_
 refine RW.nil ?_
 refine W.c0 ?_
 refine W.skip ?_
 refine W.seq ?_
 refine W.seq (W.region ?_)
 refine RW.v ?_
 refine RW.nil ?_
 refine W.c0 ?_
 refine W.skip ?_
 refine W.seq ?_
 refine W.seq (W.region ?_)
 iterate 2 refine RW.v ?_
 refine RW.vop (v := .bool ((Op.bytesLess x y))) (by kernel_rfl) (by kernel_rfl) (vop_sLt rfl rfl rfl rfl) (by kernel_rfl) ?_
 refine RW.nil ?_
 refine W.rg [(0, .string ⟨x.toArray⟩), (1, .string ⟨y.toArray⟩), (16, .bool (Op.bytesLess x y))] fun TA => ?_
 refine W.cond rfl (fun hc1 => ?_) (fun hc1 => ?_)
 ·have hc1b := hc1
  refine W.seq (W.region ?_)
  refine RW.v ?_
  refine RW.nil ?_
  refine W.ret ?_
  refine seqQ_ret ?_
  refine endG (by rfl) (by exact resL_tmp rfl) ?_
  rw [show cmpB x y = (-1) by unfold cmpB; rw [if_pos hc1]]
  exact ⟨rfl, H⟩
 ·have hc1b := hc1
  refine W.skip ?_
  refine W.seq ?_
  refine W.seq (W.region ?_)
  iterate 2 refine RW.v ?_
  refine RW.vop (v := .bool (!(Op.bytesLess x y || x == y))) (by kernel_rfl) (by kernel_rfl) (vop_sGt rfl rfl rfl rfl) (by kernel_rfl) ?_
  refine RW.nil ?_
  refine W.rg [(19, .bool (!(Op.bytesLess x y || x == y)))] fun TA => ?_
  refine W.cond rfl (fun hc2 => ?_) (fun hc2 => ?_)
  ·have hc2b := hc2
   refine W.seq (W.region ?_)
   refine RW.v ?_
   refine RW.nil ?_
   refine W.ret ?_
   refine seqQ_ret ?_
   refine endG (by rfl) (by exact resL_tmp rfl) ?_
   rw [show cmpB x y = 1 by unfold cmpB; rw [if_neg (by rw [hc1]; exact Bool.noConfusion), if_pos hc2]]
   exact ⟨rfl, H⟩
  ·have hc2b := hc2
   refine W.skip ?_
   refine W.seq (W.region ?_)
   refine RW.v ?_
   refine RW.nil ?_
   refine W.ret ?_
   refine endG (by rfl) (by exact resL_tmp rfl) ?_
   rw [show cmpB x y = 0 by unfold cmpB; rw [if_neg (by rw [hc1]; exact Bool.noConfusion), if_neg (by rw [hc2]; exact Bool.noConfusion)]]
   exact ⟨rfl, H⟩
set_option maxHeartbeats 4000000 in
theorem cmpS_wc {x y : List UInt8} (hx : x.length ≤ 1000000) (hy : y.length ≤ 1000000) (H : Lies G A F σ L) : WC G Tryd.prog 79 #[.string ⟨x.toArray⟩, .string ⟨y.toArray⟩] σ fun v σ' => v = .int .i64 (cmpS x y) ∧ Lies G A F σ' L := by
 refine WC.enter (fn := Tryd.f79) Tryd.func79 rfl ?_
 refine W.rg [(0, .string ⟨x.toArray⟩), (1, .string ⟨y.toArray⟩)] fun TA => ?_
 refine W.seq (W.region ?_)
 refine RW.v ?_
 refine RW.nil ?_
 refine W.rg [(0, .string ⟨x.toArray⟩), (1, .string ⟨y.toArray⟩)] fun TA => ?_
 refine W.seq (W.region ?_)
 refine RW.v ?_
 refine RW.cl ?_
 refine ⟨_, _, (s_count (bs := x) hx), ?_⟩
 refine RW.v ?_
 refine RW.cl ?_
 refine ⟨_, _, (s_count (bs := y) hy), ?_⟩
 refine RW.cl ?_
 refine ((cmpI_wc (a := (((runes x).length : Nat) : Int)) (b := (((runes y).length : Nat) : Int)) H).mono ?_)
 clear H
 rintro _ _ ⟨rfl, H⟩
 iterate 2 refine RW.v ?_
 refine RW.cl ?_
 refine ((cmpB_wc (x := x) (y := y) H).mono ?_)
 clear H
 rintro _ _ ⟨rfl, H⟩
 refine RW.mkL H (x := .row ⟨[.int .i64 (cmpI (((runes x).length : Nat) : Int) (((runes y).length : Nat) : Int)), .int .i64 (cmpB x y)], 3, false⟩) (fm := fun b => .slice (some ⟨b, 0, none⟩) 2 2) (by kernel_rfl) (by kernel_rfl) (by kernel_rfl) (by kernel_rfl) ?_
 clear H; intro _ b1 _ H
 refine RW.cl ?_
 refine WC.enter (fn := Tryd.f72) Tryd.func72 rfl ?_
 refine W.rg [(0, .slice (some ⟨b1, 0, none⟩) 2 2)] fun TA => ?_
 refine W.seq (W.region ?_)
 refine RW.v ?_
 refine RW.nil ?_
 refine W.rg [(0, .slice (some ⟨b1, 0, none⟩) 2 2)] fun TA => ?_
 refine W.seq (W.region ?_)
 refine RW.v ?_
 refine RW.nil ?_
 refine W.rg [(0, .slice (some ⟨b1, 0, none⟩) 2 2), (3, .int .i64 0)] fun TA => ?_
 refine W.seq ?_
 refine W.seq (W.region ?_)
 iterate 3 refine RW.v ?_
 refine RW.nil ?_
 refine W.rg [(3, .int .i64 0), (6, .slice (some ⟨b1, 0, none⟩) 2 2), (7, .int .i64 2), (8, .int .i64 0)] fun TA => ?_
 refine W.block ?_
 refine W.unroll (WL.once ?_)
 refine W.seq (W.region ?_)
 refine RW.v ?_
 refine RW.nil ?_
 refine W.rg [(3, .int .i64 0), (6, .slice (some ⟨b1, 0, none⟩) 2 2), (7, .int .i64 2), (8, .int .i64 0), (9, .bool true)] fun TA => ?_
 refine W.seq ?_
 refine W.c1 ?_
 refine W.skip ?_
 refine W.seq ?_
 refine W.block ?_
 refine W.seq (W.region ?_)
 refine RW.idx (s := 1) (by kernel_rfl) (by kernel_rfl) rfl Tryd.underlying59 (by kernel_rfl) rfl rfl ⟨by decide, by decide⟩ (by kernel_rfl) ?_
 refine RW.ld H 0 1 ?_
 refine RW.v ?_
 refine RW.nil ?_
 refine W.rg [(3, .int .i64 0), (5, .int .i64 (cmpI (((runes x).length : Nat) : Int) (((runes y).length : Nat) : Int))), (6, .slice (some ⟨b1, 0, none⟩) 2 2), (7, .int .i64 2), (8, .int .i64 0)] fun TA => ?_
 refine W.seq (W.region ?_)
 iterate 3 refine RW.v ?_
 refine RW.nil ?_
 refine W.rg [(3, .int .i64 0), (5, .int .i64 (cmpI (((runes x).length : Nat) : Int) (((runes y).length : Nat) : Int))), (6, .slice (some ⟨b1, 0, none⟩) 2 2), (7, .int .i64 2), (8, .int .i64 0), (14, .bool ((cmpI (((runes x).length : Nat) : Int) (((runes y).length : Nat) : Int)) != 0))] fun TA => ?_
 refine W.cond rfl (fun hc2 => ?_) (fun hc2 => ?_)
 ·have hc2b := hc2
  have hc2 := bne_iff_ne.1 hc2
  refine W.seq (W.region ?_)
  iterate 2 refine RW.v ?_
  refine RW.nil ?_
  refine W.ret ?_
  refine blkQ_ret ?_
  refine seqQ_ret ?_
  refine onceQ_ret ?_
  refine blkQ_ret ?_
  refine seqQ_ret ?_
  refine endG (by rfl) (by exact resL_tmp rfl) ?_
  refine RW.v ?_
  refine RW.nil ?_
  replace H := (H.del 0)
  dsimp only [setL, delL] at H
  refine W.ret ?_
  refine endG (by rfl) (by exact resL_tmp rfl) ?_
  rw [show cmpS x y = (cmpI (((runes x).length : Nat) : Int) (((runes y).length : Nat) : Int)) by unfold cmpS or2; rw [if_pos hc2]]
  exact ⟨rfl, H⟩
 ·have hc2b := hc2
  have hc2 := (bne_eq_false_iff_eq.1) hc2
  refine W.skip ?_
  refine bQn ?_
  refine W.region ?_
  iterate 2 refine RW.v ?_
  refine RW.nil ?_
  refine WL.once ?_
  refine W.rg [(3, .int .i64 0), (6, .slice (some ⟨b1, 0, none⟩) 2 2), (7, .int .i64 2), (8, .int .i64 1)] fun TA => ?_
  refine W.seq (W.region ?_)
  refine RW.v ?_
  refine RW.nil ?_
  refine W.rg [(3, .int .i64 0), (6, .slice (some ⟨b1, 0, none⟩) 2 2), (7, .int .i64 2), (8, .int .i64 1), (9, .bool true)] fun TA => ?_
  refine W.seq ?_
  refine W.c1 ?_
  refine W.skip ?_
  refine W.seq ?_
  refine W.block ?_
  refine W.seq (W.region ?_)
  refine RW.idx (s := 1) (by kernel_rfl) (by kernel_rfl) rfl Tryd.underlying59 (by kernel_rfl) rfl rfl ⟨by decide, by decide⟩ (by kernel_rfl) ?_
  refine RW.ld H 0 1 ?_
  refine RW.v ?_
  refine RW.nil ?_
  refine W.rg [(3, .int .i64 0), (5, .int .i64 (cmpB x y)), (6, .slice (some ⟨b1, 0, none⟩) 2 2), (7, .int .i64 2), (8, .int .i64 1)] fun TA => ?_
  refine W.seq (W.region ?_)
  iterate 3 refine RW.v ?_
  refine RW.nil ?_
  refine W.rg [(3, .int .i64 0), (5, .int .i64 (cmpB x y)), (6, .slice (some ⟨b1, 0, none⟩) 2 2), (7, .int .i64 2), (8, .int .i64 1), (14, .bool ((cmpB x y) != 0))] fun TA => ?_
  refine W.cond rfl (fun hc3 => ?_) (fun hc3 => ?_)
  ·have hc3b := hc3
   have hc3 := bne_iff_ne.1 hc3
   refine W.seq (W.region ?_)
   iterate 2 refine RW.v ?_
   refine RW.nil ?_
   refine W.ret ?_
   refine blkQ_ret ?_
   refine seqQ_ret ?_
   refine onceQ_ret ?_
   refine blkQ_ret ?_
   refine seqQ_ret ?_
   refine endG (by rfl) (by exact resL_tmp rfl) ?_
   refine RW.v ?_
   refine RW.nil ?_
   replace H := (H.del 0)
   dsimp only [setL, delL] at H
   refine W.ret ?_
   refine endG (by rfl) (by exact resL_tmp rfl) ?_
   rw [show cmpS x y = (cmpB x y) by unfold cmpS or2; rw [if_neg (fun h => h hc2)]]
   exact ⟨rfl, H⟩
  ·have hc3b := hc3
   have hc3 := (bne_eq_false_iff_eq.1) hc3
   refine W.skip ?_
   refine bQn ?_
   refine W.region ?_
   iterate 2 refine RW.v ?_
   refine RW.nil ?_
   refine WL.once ?_
   refine W.rg [(3, .int .i64 0), (6, .slice (some ⟨b1, 0, none⟩) 2 2), (7, .int .i64 2), (8, .int .i64 2)] fun TA => ?_
   refine W.seq (W.region ?_)
   refine RW.v ?_
   refine RW.nil ?_
   refine W.rg [(3, .int .i64 0), (6, .slice (some ⟨b1, 0, none⟩) 2 2), (7, .int .i64 2), (8, .int .i64 2), (9, .bool false)] fun TA => ?_
   refine W.seq ?_
   refine W.c0 ?_
   refine W.exit _ ?_
   refine seqQ_exit ?_
   refine onceQ_exit ?_
   refine blkQ_here ?_
   refine W.seq (W.region ?_)
   iterate 2 refine RW.v ?_
   refine RW.nil ?_
   refine W.ret ?_
   refine endG (by rfl) (by exact resL_tmp rfl) ?_
   refine RW.v ?_
   refine RW.nil ?_
   replace H := (H.del 0)
   dsimp only [setL, delL] at H
   refine W.ret ?_
   refine endG (by rfl) (by exact resL_tmp rfl) ?_
   rw [show cmpS x y = 0 by unfold cmpS or2; rw [if_neg (fun h => h hc2), hc3]]
   exact ⟨rfl, H⟩
end
end Go.Proofs.YtjcmdifpkafdkaaDoor
namespace Go.Proofs.YtjcmdifpkafdkaaDoor
set_option maxRecDepth 100000
theorem less_iff {a b : UInt8} {x y : List UInt8} : Op.bytesLess (a :: x) (b :: y) = true ↔ a < b ∨ (a = b ∧ Op.bytesLess x y = true) := by
 rw [Op.bytesLess, Bool.or_eq_true, Bool.and_eq_true, decide_eq_true_iff, beq_iff_eq]
theorem less_asymm : ∀ {x y : List UInt8}, Op.bytesLess x y = true → Op.bytesLess y x = false
 | _, [], h => by cases h1 : ‹List UInt8› <;> simp [Op.bytesLess] at h
 | [], _ :: _, _ => rfl
 | a :: x, b :: y, h => by
  cases k : Op.bytesLess (b :: y) (a :: x) with
  | false => rfl
  | true =>
   rw [less_iff] at h k
   rcases h with h | ⟨h1, h2⟩ <;> rcases k with k | ⟨k1, k2⟩
   ·exact absurd (UInt8.lt_trans h k) (UInt8.lt_irrefl _)
   ·rw [k1] at h; exact absurd h (UInt8.lt_irrefl _)
   ·rw [h1] at k; exact absurd k (UInt8.lt_irrefl _)
   ·rw [less_asymm h2] at k2; cases k2
theorem less_tri : ∀ {x y : List UInt8}, Op.bytesLess x y = false → Op.bytesLess y x = false → x = y
 | [], [], _, _ => rfl
 | [], _ :: _, h, _ => by cases h
 | _ :: _, [], _, h => by cases h
 | a :: x, b :: y, h, k => by
  have h1 := mt less_iff.2 (Bool.eq_false_iff.1 h)
  have k1 := mt less_iff.2 (Bool.eq_false_iff.1 k)
  have e : a = b := by
   rcases Nat.lt_trichotomy a.toNat b.toNat with q | q | q
   ·exact absurd (.inl (UInt8.lt_iff_toNat_lt.2 q)) h1
   ·exact UInt8.toNat_inj.1 q
   ·exact absurd (.inl (UInt8.lt_iff_toNat_lt.2 q)) k1
  subst e
  rw [less_tri (x := x) (y := y) (Bool.eq_false_iff.2 fun q => h1 (.inr ⟨rfl, q⟩)) (Bool.eq_false_iff.2 fun q => k1 (.inr ⟨rfl, q⟩))]
theorem less_trans : ∀ {x y z : List UInt8}, Op.bytesLess x y = true → Op.bytesLess y z = true → Op.bytesLess x z = true
 | _, [], _, h, _ => by cases h1 : ‹List UInt8› <;> simp [Op.bytesLess] at h
 | _, _ :: _, [], _, k => by simp [Op.bytesLess] at k
 | [], _ :: _, _ :: _, _, _ => rfl
 | a :: x, b :: y, c :: z, h, k => by
  rw [less_iff] at h k ⊢
  rcases h with h | ⟨rfl, h2⟩ <;> rcases k with k | ⟨rfl, k2⟩
  ·exact .inl (UInt8.lt_trans h k)
  ·exact .inl h
  ·exact .inl k
  ·exact .inr ⟨rfl, less_trans h2 k2⟩
theorem cmpB_lt {x y : List UInt8} : cmpB x y < 0 ↔ Op.bytesLess x y = true := by
 unfold cmpB
 split
 ·exact ⟨fun _ => by assumption, fun _ => by decide⟩
 ·split
  ·exact ⟨fun h => absurd h (by decide), fun h => absurd h (by assumption)⟩
  ·exact ⟨fun h => absurd h (by decide), fun h => absurd h (by assumption)⟩
theorem ltS_iff {x y : List UInt8} : ltS x y = true ↔ (runes x).length < (runes y).length ∨ ((runes x).length = (runes y).length ∧ Op.bytesLess x y = true) := by
 unfold ltS cmpS or2
 rw [decide_eq_true_iff]
 by_cases h1 : (runes x).length = (runes y).length
 ·rw [if_neg (fun h => cmpI_ne.1 h (by omega)), cmpB_lt]
  exact ⟨fun h => .inr ⟨h1, h⟩, fun h => h.elim (fun h => by omega) fun h => h.2⟩
 ·rw [if_pos (cmpI_ne.2 (by omega)), cmpI_lt]
  exact ⟨fun h => .inl (by omega), fun h => h.elim (fun h => by omega) fun h => absurd h.1 h1⟩
theorem ltS_no {x y : List UInt8} : ltS x y = false ↔ ¬ ((runes x).length < (runes y).length ∨ ((runes x).length = (runes y).length ∧ Op.bytesLess x y = true)) := by
 rw [← ltS_iff, Bool.not_eq_true]
theorem ltS_ord : WOrd ltS where
 asymm a b h := by
  rw [ltS_iff] at h
  rw [ltS_no]
  rintro (k | ⟨k1, k2⟩) <;> rcases h with h | ⟨h1, h2⟩
  ·omega
  ·omega
  ·omega
  ·rw [less_asymm h2] at k2; cases k2
 ntrans a b c h k := by
  rw [ltS_no] at h k ⊢
  rintro (q | ⟨q1, q2⟩)
  ·have h1 : ¬ (runes a).length < (runes b).length := fun e => h (.inl e)
   have h2 : ¬ (runes b).length < (runes c).length := fun e => k (.inl e)
   omega
  ·have h1 : ¬ (runes a).length < (runes b).length := fun e => h (.inl e)
   have h2 : ¬ (runes b).length < (runes c).length := fun e => k (.inl e)
   have e1 : (runes a).length = (runes b).length := by omega
   have e2 : (runes b).length = (runes c).length := by omega
   have n1 : Op.bytesLess a b = false := Bool.eq_false_iff.2 fun e => h (.inr ⟨e1, e⟩)
   have n2 : Op.bytesLess b c = false := Bool.eq_false_iff.2 fun e => k (.inr ⟨e2, e⟩)
   cases m1 : Op.bytesLess b a with
   | true =>
    cases m2 : Op.bytesLess c b with
    | true => rw [less_asymm (less_trans m2 m1)] at q2; cases q2
    | false => rw [less_tri n2 m2] at m1; rw [less_asymm m1] at q2; cases q2
   | false => rw [less_tri n1 m1, n2] at q2; cases q2
end Go.Proofs.YtjcmdifpkafdkaaDoor
