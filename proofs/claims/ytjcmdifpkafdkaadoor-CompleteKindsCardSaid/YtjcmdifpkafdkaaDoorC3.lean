/-
 Completion by prefixes finds the longest extension. Plain. Conditions: none.
 Helpers of the laws of completion. Conditions: the tables of unicode/utf8 lie.
-/
import Derived.Test.YtjcmdifpkafdkaaDoorCpf
import Derived.Test.YtjcmdifpkafdkaaDoorC2
import Derived.Test.YtjcmdifpkafdkaaDoorL3
import Derived.Test.YtjcmdifpkafdkaaDoorL4
namespace Go.Proofs.YtjcmdifpkafdkaaDoor
open Go.Lib
set_option maxRecDepth 100000
theorem keyC_take (fold : Bool) (l : List Int) (n : Nat) : keyC fold (l.take n) = (keyC fold l).take n := List.map_take
theorem keyC_len (fold : Bool) (l : List Int) : (keyC fold l).length = l.length := List.length_map ..
theorem beg_iff {fold : Bool} {c s : List Int} : begC fold c s = true ↔ keyC fold s <+: keyC fold c := by
 unfold begC
 rw [Bool.and_eq_true, decide_eq_true_iff, beq_iff_eq, keyC_take, List.prefix_iff_eq_take, keyC_len]
 constructor
 ·rintro ⟨_, h⟩
  exact h.symm
 ·intro h
  refine ⟨?_, h.symm⟩
  have := congrArg List.length h
  rw [List.length_take, keyC_len, keyC_len] at this
  omega
section
variable {fold : Bool} {l : List (List UInt8)} {s : List UInt8}
structure ExtC (fold : Bool) (l : List (List UInt8)) (s t : List UInt8) (x : List UInt8) (N : Nat) : Prop where
 head : (allC fold l s).getD 0 [] = x
 mem : x ∈ allC fold l s
 vx : validD x = true
 vt : validD t = true
 rt : runes t = (runes x).take N
 len : N ≤ (runes x).length
 one : allC fold [t] s = [t]
 same : allC fold l t = allC fold l s
 again : allC fold (allC fold l s) t = allC fold l s
 more : N < (runes x).length → allC fold (allC fold l s) (encA ((runes x).take (N + 1))) ≠ allC fold l s
end
end Go.Proofs.YtjcmdifpkafdkaaDoor
namespace Go.Proofs.YtjcmdifpkafdkaaDoor
open Go.Lib
set_option maxRecDepth 100000
theorem same_go {l m : List (List UInt8)} {i : Nat} (h1 : i < l.length) (h2 : i < m.length) (h : l.getD i [] = m.getD i []) : (l.drop i = m.drop i) ↔ (l.drop (i + 1) = m.drop (i + 1)) := by
 rw [dropD (d := []) h1, dropD (d := []) h2, h]
 exact ⟨fun e => (List.cons.inj e).2, fun e => by rw [e]⟩
theorem same_stop {l m : List (List UInt8)} {i : Nat} (h1 : i < l.length) (h2 : i < m.length) (h : l.getD i [] ≠ m.getD i []) : ¬ l.drop i = m.drop i := by
 rw [dropD (d := []) h1, dropD (d := []) h2]
 exact fun e => h (List.cons.inj e).1
section
variable {G : Nat} {A : Abs} {σ : Mem} {F : Nat → Option Blk2} {L : List Ent} {l m : List (List UInt8)} {s : List UInt8} {v1 v2 : Value}
set_option maxHeartbeats 4000000 in
theorem lightTexts_wc (h1 : SlF F 1 v1 l.length (l.map strV)) (hl : l.length ≤ 9223372036854775807) (H : Lies G A F σ L) : WC G Tryd.prog 30 #[v1, .int .i64 40, .int .i64 60] σ fun v σ' => ∃ b, v = .bool b ∧ (b = true → l.length ≤ 40 ∧ ∀ x ∈ l, x.length ≤ 60) ∧ Lies G A F σ' L := by
 refine WC.enter (fn := Tryd.f30) Tryd.func30 rfl ?_
 refine W.rg [(0, v1), (1, .int .i64 40), (2, .int .i64 60)] fun TA => ?_
 refine W.seq (W.region ?_)
 refine RW.v ?_
 refine RW.nil ?_
 refine W.rg [(0, v1), (1, .int .i64 40), (2, .int .i64 60)] fun TA => ?_
 refine W.seq ?_
 refine W.seq (W.region ?_)
 refine RW.v ?_
 refine RW.nil ?_
 refine W.rg [(0, v1), (1, .int .i64 40), (2, .int .i64 60), (7, .int .i64 0)] fun TA => ?_
 refine W.block ?_
 refine W.loop (fun mm ta σ => ∃ (i : Nat), (mm + i = l.length) ∧ (∀ j, j < i → (l.getD j []).length ≤ 60) ∧ Lies G A F σ ((L)) ∧ ta 0 = v1 ∧ ta 1 = .int .i64 40 ∧ ta 2 = .int .i64 60 ∧ ta 7 = .int .i64 ((i : Nat) : Int)) l.length ?_ ?_
 ·exact ⟨0, (by omega), (fun j hj => absurd hj (Nat.not_lt_zero _)), H, rfl, rfl, rfl, rfl⟩
 clear H
 rintro mm ta _ ⟨i, hm, hT, H, e0, e1, e2, e7⟩
 refine W.rst [(0, v1), (1, .int .i64 40), (2, .int .i64 60), (7, .int .i64 ((i : Nat) : Int))] ⟨e0, e1, e2, e7, trivial⟩ fun TA => ?_
 clear e0 e1 e2 e7
 refine W.seq ?_
 refine W.seq (W.region ?_)
 iterate 2 refine RW.v ?_
 refine RW.len (by kernel_rfl) (by kernel_rfl) rfl rfl rfl rfl (h1.len (e := 9) (by kernel_rfl)) (by kernel_rfl) ?_
 refine RW.v ?_
 refine RW.nil ?_
 refine W.rg [(0, v1), (1, .int .i64 40), (2, .int .i64 60), (7, .int .i64 ((i : Nat) : Int)), (11, .bool (decide (((i : Nat) : Int) < (l.length : Int))))] fun TA => ?_
 refine W.cond rfl (fun hc1 => ?_) (fun hc1 => ?_)
 ·have hc1b := hc1
  have hc1 := of_decide_eq_true hc1
  refine W.skip ?_
  refine W.seq ?_
  refine W.block ?_
  refine W.seq (W.region ?_)
  iterate 2 refine RW.v ?_
  refine RW.idxF h1 (by kernel_rfl) (by kernel_rfl) rfl Tryd.underlying22 (by kernel_rfl) rfl rfl ⟨by omega, by omega⟩ (by kernel_rfl) ?_
  intro b2 q3 r4 hF5 hE6
  rw [strs_at (l := l) (j := i) (i := ((i : Nat) : Int)) (by omega) (by omega)] at hE6
  refine RW.loads 1 (by kernel_rfl) (by kernel_rfl) rfl rfl (H.old _ _ hF5) hE6 rfl (by kernel_rfl) ?_
  refine RW.vop (v := .int .i64 ((l.getD i []).length : Int)) (by kernel_rfl) (by kernel_rfl) (vop_sLenL rfl rfl rfl rfl Tryd.underlying9 rfl) (by kernel_rfl) ?_
  iterate 2 refine RW.v ?_
  refine RW.nil ?_
  refine W.rg [(0, v1), (1, .int .i64 40), (2, .int .i64 60), (7, .int .i64 ((i : Nat) : Int)), (20, .bool (decide (((l.getD i []).length : Int) > 60)))] fun TA => ?_
  refine W.cond rfl (fun hc7 => ?_) (fun hc7 => ?_)
  ·have hc7b := hc7
   have hc7 := of_decide_eq_true hc7
   refine W.seq (W.region ?_)
   refine RW.v ?_
   refine RW.nil ?_
   refine W.ret ?_
   refine blkQ_ret ?_
   refine seqQ_ret ?_
   refine rndQ_ret ?_
   refine blkQ_ret ?_
   refine seqQ_ret ?_
   refine endG (by rfl) (by exact resL_tmp rfl) ?_
   exact ⟨false, rfl, nB, H⟩
  ·have hc7b := hc7
   have hc7 := of_decide_eq_false hc7
   refine W.skip ?_
   refine bQn ?_
   refine W.region ?_
   refine RW.v ?_
   refine RW.valE (v' := .int .i64 (((i : Nat) : Int) + 1)) (by kernel_rfl) (by kernel_rfl) rfl (congrArg (Value.int .i64) (wrap_in (by omega) (by omega))) (by kernel_rfl) ?_
   refine RW.v ?_
   refine RW.nil ?_
   exact ⟨rfl, mm - 1, by omega, i + 1, (by omega), (fun j hj => by rcases Nat.lt_or_ge j i with h | h; exact hT j h; obtain rfl : j = i := (by omega); omega), H, rfl, rfl, rfl, rfl⟩
 ·have hc1b := hc1
  have hc1 := of_decide_eq_false hc1
  refine W.exit _ ?_
  refine seqQ_exit ?_
  refine rndQ_exit ?_
  refine blkQ_here ?_
  refine W.seq (W.region ?_)
  refine RW.v ?_
  refine RW.len (by kernel_rfl) (by kernel_rfl) rfl rfl rfl rfl (h1.len (e := 9) (by kernel_rfl)) (by kernel_rfl) ?_
  iterate 3 refine RW.v ?_
  refine RW.nil ?_
  refine W.ret ?_
  refine endG (by rfl) (by exact resL_tmp rfl) ?_
  exact ⟨_, rfl, fun h => ⟨by have := of_decide_eq_true h; omega, fun x hx => (by obtain ⟨j, hj, e⟩ := List.mem_iff_getElem.1 hx; have := hT j (by omega); rw [List.getD_eq_getElem?_getD, List.getElem?_eq_getElem hj, Option.getD_some, e] at this; exact this)⟩, H⟩
set_option maxHeartbeats 4000000 in
theorem light_wc (h1 : SlF F 1 v1 l.length (l.map strV)) (hl : l.length ≤ 9223372036854775807) (H : Lies G A F σ L) : WC G Tryd.prog 10 #[v1, .string ⟨s.toArray⟩] σ fun v σ' => ∃ b, v = .bool b ∧ (b = true → l.length ≤ 40 ∧ (∀ x ∈ l, x.length ≤ 60) ∧ s.length ≤ 60) ∧ Lies G A F σ' L := by
 refine WC.enter (fn := Tryd.f10) Tryd.func10 rfl ?_
 refine W.rg [(0, v1), (1, .string ⟨s.toArray⟩)] fun TA => ?_
 refine W.seq (W.region ?_)
 refine RW.v ?_
 refine RW.nil ?_
 refine W.rg [(0, v1), (1, .string ⟨s.toArray⟩)] fun TA => ?_
 refine W.seq (W.region ?_)
 refine RW.v ?_
 refine RW.cl ?_
 refine ((lightTexts_wc h1 hl H).mono ?_)
 clear H
 rintro _ _ ⟨b1, rfl, hb1, H⟩
 refine RW.v ?_
 refine RW.both _ _ rfl rfl rfl (fun hc1 => ?_) (fun hc1 => ?_)
 ·have hc1b := hc1
  refine RW.w ?_
  refine RW.vop (v := .int .i64 (s.length : Int)) (by rfl) (by kernel_rfl) (vop_sLenL rfl rfl rfl rfl Tryd.underlying9 rfl) (by kernel_rfl) ?_
  refine RW.w ?_
  iterate 2 refine RW.v ?_
  refine RW.nil ?_
  refine W.ret ?_
  refine endG (by rfl) (by exact resL_tmp rfl) ?_
  obtain ⟨g1, g2⟩ := hb1 hc1b
  exact ⟨_, rfl, fun h => ⟨g1, g2, by have := of_decide_eq_true h; omega⟩, H⟩
 ·have hc1b := hc1
  iterate 3 refine RW.s ?_
  iterate 2 refine RW.v ?_
  refine RW.nil ?_
  refine W.ret ?_
  refine endG (by rfl) (by exact resL_tmp rfl) ?_
  exact ⟨false, rfl, nB, H⟩
set_option maxHeartbeats 4000000 in
theorem same_wcS (h1 : SlF F 1 v1 l.length (l.map strV)) (h2 : SlF F 1 v2 m.length (m.map strV)) (hl : l.length ≤ 1000000) (H : Lies G A F σ L) : WC G Tryd.prog 17 #[v1, v2] σ fun v σ' => v = .bool (decide (l = m)) ∧ Lies G A F σ' L := by
 refine WC.enter (fn := Tryd.f17) Tryd.func17 rfl ?_
 refine W.rg [(0, v1), (1, v2)] fun TA => ?_
 refine W.seq (W.region ?_)
 refine RW.v ?_
 refine RW.nil ?_
 refine W.rg [(0, v1), (1, v2)] fun TA => ?_
 refine W.seq ?_
 refine W.seq (W.region ?_)
 refine RW.v ?_
 refine RW.len (by kernel_rfl) (by kernel_rfl) rfl rfl rfl rfl (h1.len (e := 9) (by kernel_rfl)) (by kernel_rfl) ?_
 refine RW.v ?_
 refine RW.len (by kernel_rfl) (by kernel_rfl) rfl rfl rfl rfl (h2.len (e := 9) (by kernel_rfl)) (by kernel_rfl) ?_
 refine RW.v ?_
 refine RW.nil ?_
 refine W.rg [(0, v1), (1, v2), (10, .bool ((l.length : Int) != (m.length : Int)))] fun TA => ?_
 refine W.cond rfl (fun hc1 => ?_) (fun hc1 => ?_)
 ·have hc1b := hc1
  have hc1 := bne_iff_ne.1 hc1
  refine W.seq (W.region ?_)
  refine RW.v ?_
  refine RW.nil ?_
  refine W.ret ?_
  refine seqQ_ret ?_
  refine endG (by rfl) (by exact resL_tmp rfl) ?_
  have es : decide (l = m) = false := decide_eq_false (fun h => by have := congrArg List.length h; omega)
  rw [es]
  exact ⟨rfl, H⟩
 ·have hc1b := hc1
  have hc1 := (bne_eq_false_iff_eq.1) hc1
  refine W.skip ?_
  refine W.seq ?_
  refine W.seq (W.region ?_)
  refine RW.v ?_
  refine RW.nil ?_
  refine W.rg [(0, v1), (1, v2), (5, .int .i64 0)] fun TA => ?_
  refine W.block ?_
  refine W.loop (fun mm ta σ => ∃ (i : Nat), (mm + i = l.length) ∧ ((l = m) ↔ (l.drop i = m.drop i)) ∧ Lies G A F σ ((L)) ∧ ta 0 = v1 ∧ ta 1 = v2 ∧ ta 5 = .int .i64 ((i : Nat) : Int)) l.length ?_ ?_
  ·exact ⟨0, (by omega), (by simp), H, rfl, rfl, rfl⟩
  clear H
  rintro mm ta _ ⟨i, hm, hT, H, e0, e1, e5⟩
  refine W.rst [(0, v1), (1, v2), (5, .int .i64 ((i : Nat) : Int))] ⟨e0, e1, e5, trivial⟩ fun TA => ?_
  clear e0 e1 e5
  refine W.seq ?_
  refine W.seq (W.region ?_)
  iterate 2 refine RW.v ?_
  refine RW.len (by kernel_rfl) (by kernel_rfl) rfl rfl rfl rfl (h1.len (e := 9) (by kernel_rfl)) (by kernel_rfl) ?_
  refine RW.v ?_
  refine RW.nil ?_
  refine W.rg [(0, v1), (1, v2), (5, .int .i64 ((i : Nat) : Int)), (14, .bool (decide (((i : Nat) : Int) < (l.length : Int))))] fun TA => ?_
  refine W.cond rfl (fun hc2 => ?_) (fun hc2 => ?_)
  ·have hc2b := hc2
   have hc2 := of_decide_eq_true hc2
   have hil : i < l.length := by omega
   have hil2 : i < m.length := by omega
   refine W.skip ?_
   refine W.seq ?_
   refine W.block ?_
   refine W.seq ?_
   refine W.drawn (by kernel_rfl) (by kernel_rfl) H.gn ?_
   have H3 := H
   iterate 2 refine RW.v ?_
   refine RW.idxF h1 (by kernel_rfl) (by kernel_rfl) rfl Tryd.underlying22 (by kernel_rfl) rfl rfl ⟨by omega, by omega⟩ (by kernel_rfl) ?_
   intro b4 q5 r6 hF7 hE8
   rw [strs_at (l := l) (j := i) (i := ((i : Nat) : Int)) (by omega) (by omega)] at hE8
   refine RW.loads 1 (by kernel_rfl) (by kernel_rfl) rfl rfl (H3.old _ _ hF7) hE8 rfl (by kernel_rfl) ?_
   iterate 2 refine RW.v ?_
   refine RW.idxF h2 (by kernel_rfl) (by kernel_rfl) rfl Tryd.underlying22 (by kernel_rfl) rfl rfl ⟨by omega, by omega⟩ (by kernel_rfl) ?_
   intro b9 q10 r11 hF12 hE13
   rw [strs_at (l := m) (j := i) (i := ((i : Nat) : Int)) (by omega) (by omega)] at hE13
   refine RW.loads 1 (by kernel_rfl) (by kernel_rfl) rfl rfl (H3.old _ _ hF12) hE13 rfl (by kernel_rfl) ?_
   refine RW.vop (v := .bool ((l.getD i []) != (m.getD i []))) (by kernel_rfl) (by kernel_rfl) (vop_sNe rfl rfl rfl rfl) (by kernel_rfl) ?_
   refine RW.nil ?_
   refine ⟨⟨by kernel_rfl, ⟨trivial, trivial, trivial, dyn_row (H3.old _ _ hF7) (H3.old _ _ hF7) ⟨nB, nB, nB, nB, nB, nB, nB, nB, nB, trivial⟩, trivial, trivial, trivial, dyn_row (H3.old _ _ hF12) (H3.old _ _ hF12) ⟨nB, nB, nB, nB, nB, nB, nB, nB, nB, trivial⟩, trivial, trivial⟩⟩, ?_⟩
   replace H := H3
   clear H3
   refine W.rg [(0, v1), (1, v2), (5, .int .i64 ((i : Nat) : Int)), (25, .bool ((l.getD i []) != (m.getD i [])))] fun TA => ?_
   refine W.cond rfl (fun hc14 => ?_) (fun hc14 => ?_)
   ·have hc14b := hc14
    have hc14 := bne_iff_ne.1 hc14
    refine W.seq (W.region ?_)
    refine RW.v ?_
    refine RW.nil ?_
    refine W.ret ?_
    refine blkQ_ret ?_
    refine seqQ_ret ?_
    refine rndQ_ret ?_
    refine blkQ_ret ?_
    refine seqQ_ret ?_
    refine endG (by rfl) (by exact resL_tmp rfl) ?_
    have es : decide (l = m) = false := decide_eq_false (fun h => same_stop hil hil2 hc14 (hT.1 h))
    rw [es]
    exact ⟨rfl, H⟩
   ·have hc14b := hc14
    have hc14 := (bne_eq_false_iff_eq.1) hc14
    refine W.skip ?_
    refine bQn ?_
    refine W.region ?_
    refine RW.v ?_
    refine RW.valE (v' := .int .i64 (((i : Nat) : Int) + 1)) (by kernel_rfl) (by kernel_rfl) rfl (congrArg (Value.int .i64) (wrap_in (by omega) (by omega))) (by kernel_rfl) ?_
    refine RW.v ?_
    refine RW.nil ?_
    exact ⟨rfl, mm - 1, by omega, i + 1, (by omega), (by rw [hT, same_go hil hil2 hc14]), H, rfl, rfl, rfl⟩
  ·have hc2b := hc2
   have hc2 := of_decide_eq_false hc2
   refine W.exit _ ?_
   refine seqQ_exit ?_
   refine rndQ_exit ?_
   refine blkQ_here ?_
   refine W.seq (W.region ?_)
   refine RW.v ?_
   refine RW.nil ?_
   refine W.ret ?_
   refine endG (by rfl) (by exact resL_tmp rfl) ?_
   have es : decide (l = m) = true := decide_eq_true (hT.2 (by rw [List.drop_eq_nil_of_le (by omega), List.drop_eq_nil_of_le (by omega)]))
   rw [es]
   exact ⟨rfl, H⟩
end
end Go.Proofs.YtjcmdifpkafdkaaDoor
