/-
 Completion by prefixes finds the longest extension. Plain. Conditions: none.
 Helpers of the laws of completion. Conditions: the tables of unicode/utf8 lie.
-/
import Derived.Test.YtjcmdifpkafdkaaDoorCpf
import Derived.Test.YtjcmdifpkafdkaaDoorC2
import Derived.Test.YtjcmdifpkafdkaaDoorL3
import Derived.Test.YtjcmdifpkafdkaaDoorL4
namespace Go.Proofs.YtjcmdifpkafdkaaDoor
open Go.Lib
set_option maxRecDepth 100000
theorem keyC_take (fold : Bool) (l : List Int) (n : Nat) : keyC fold (l.take n) = (keyC fold l).take n := List.map_take
theorem keyC_len (fold : Bool) (l : List Int) : (keyC fold l).length = l.length := List.length_map ..
theorem beg_iff {fold : Bool} {c s : List Int} : begC fold c s = true ↔ keyC fold s <+: keyC fold c := by
 unfold begC
 rw [Bool.and_eq_true, decide_eq_true_iff, beq_iff_eq, keyC_take, List.prefix_iff_eq_take, keyC_len]
 constructor
 ·rintro ⟨_, h⟩
  exact h.symm
 ·intro h
  refine ⟨?_, h.symm⟩
  have := congrArg List.length h
  rw [List.length_take, keyC_len, keyC_len] at this
  omega
theorem lcp_iff {fold : Bool} : ∀ {a b : List Int} {k : Nat}, k ≤ lcpC fold a b ↔ k ≤ a.length ∧ keyC fold (a.take k) <+: keyC fold b
 | a, b, 0 => by simp [keyC]
 | [], b, k + 1 => by simp [lcpC]
 | a :: u, [], k + 1 => by simp [lcpC, keyC]
 | a :: u, b :: v, k + 1 => by
  unfold lcpC
  rw [List.take_succ_cons]
  show _ ↔ _ ∧ (foldC fold a :: keyC fold (u.take k)) <+: (foldC fold b :: keyC fold v)
  rw [List.cons_prefix_cons]
  by_cases h : foldC fold a = foldC fold b
  ·rw [if_pos h, Nat.succ_le_succ_iff, lcp_iff (a := u) (b := v), List.length_cons, Nat.succ_le_succ_iff]
   exact ⟨fun ⟨h1, h2⟩ => ⟨h1, h, h2⟩, fun ⟨h1, _, h2⟩ => ⟨h1, h2⟩⟩
  ·rw [if_neg h]
   exact ⟨fun h => absurd h (by omega), fun ⟨_, h2, _⟩ => absurd h2 h⟩
section
variable {fold : Bool} {l : List (List UInt8)} {s : List UInt8}
theorem ext_all (hm : allC fold l s ≠ []) : ∃ (x : List UInt8) (N : Nat), (allC fold l s).getD 0 [] = x ∧ x ∈ allC fold l s ∧ commonC fold (allC fold l s) = encA ((runes x).take N) ∧ N ≤ (runes x).length ∧ (runes s).length ≤ N ∧
  (∀ n, n ≤ (runes x).length → ((∀ y ∈ allC fold l s, keyC fold ((runes x).take n) <+: keyC fold (runes y)) ↔ n ≤ N)) := by
 have hb : ∀ y ∈ allC fold l s, keyC fold (runes s) <+: keyC fold (runes y) := fun y hy => by
  unfold allC at hy
  split at hy
  ·exact beg_iff.1 (List.mem_filter.1 hy).2
  ·exact absurd hy (List.not_mem_nil)
 have hcom : commonC fold (allC fold l s) = encA (comC fold ((allC fold l s).map runes)) := by unfold commonC; rw [allC_filter]
 rw [hcom]
 cases hc : allC fold l s with
 | nil => exact absurd hc hm
 | cons x r =>
  rw [hc] at hb
  have hN : ∀ n, n ≤ (runes x).length → ((∀ y ∈ x :: r, keyC fold ((runes x).take n) <+: keyC fold (runes y)) ↔ n ≤ comN fold (runes x) (r.map runes)) := fun n hn => by
   unfold comN
   rw [foldl_min (f := fun y => lcpC fold (runes x) y)]
   constructor
   ·intro h
    refine ⟨hn, fun z hz => ?_⟩
    obtain ⟨y, hy, rfl⟩ := List.mem_map.1 hz
    exact lcp_iff.2 ⟨hn, h y (List.mem_cons_of_mem _ hy)⟩
   ·rintro ⟨_, h⟩ y hy
    rcases List.mem_cons.1 hy with rfl | hy
    ·rw [keyC_take]; exact List.take_prefix ..
    ·exact (lcp_iff.1 (h _ (List.mem_map.2 ⟨y, hy, rfl⟩))).2
  have hNl : comN fold (runes x) (r.map runes) ≤ (runes x).length := (foldl_min (f := fun y => lcpC fold (runes x) y) (l := r.map runes) (n := (runes x).length) (k := comN fold (runes x) (r.map runes))).1 (Nat.le_refl _) |>.1
  refine ⟨x, comN fold (runes x) (r.map runes), rfl, List.mem_cons_self .., rfl, hNl, ?_, hN⟩
  have hx := hb x (List.mem_cons_self ..)
  have hl : (runes s).length ≤ (runes x).length := by
   have := hx.length_le
   rw [keyC_len, keyC_len] at this
   exact this
  refine (hN _ hl).1 fun y hy => ?_
  have e : keyC fold ((runes x).take (runes s).length) = keyC fold (runes s) := by
   rw [keyC_take, List.prefix_iff_eq_take.1 hx, keyC_len]
  rw [e]
  exact hb y hy
theorem ext_valid (hm : allC fold l s ≠ []) : validD s = true := by
 cases h : validD s with
 | true => rfl
 | false =>
  refine absurd ?_ hm
  unfold allC
  rw [if_neg (by rw [h]; exact Bool.false_ne_true)]
theorem take_chars {x : List UInt8} (h : validD x = true) (n : Nat) : ∀ c ∈ (runes x).take n, chB c = true := fun c hc => runes_chars h c (List.mem_of_mem_take hc)
theorem allC_yes {l : List (List UInt8)} {t : List UInt8} (h : validD t = true) : allC fold l t = (distM l).filter fun c => begC fold (runes c) (runes t) := if_pos h
structure ExtC (fold : Bool) (l : List (List UInt8)) (s t : List UInt8) (x : List UInt8) (N : Nat) : Prop where
 head : (allC fold l s).getD 0 [] = x
 mem : x ∈ allC fold l s
 vx : validD x = true
 vt : validD t = true
 rt : runes t = (runes x).take N
 len : N ≤ (runes x).length
 one : allC fold [t] s = [t]
 same : allC fold l t = allC fold l s
 again : allC fold (allC fold l s) t = allC fold l s
 more : N < (runes x).length → allC fold (allC fold l s) (encA ((runes x).take (N + 1))) ≠ allC fold l s
theorem ext_ok (hm : allC fold l s ≠ []) : ∃ x N, ExtC fold l s (tryC fold l s) x N := by
 obtain ⟨x, N, hx, hxm, hc, hN, hs, hk⟩ := ext_all hm
 have hvs := ext_valid hm
 have hvx := (allC_good.1 x hxm).1
 have hch := take_chars hvx N
 have hb := enc_back hch
 have hvt : validD (tryC fold l s) = true := by unfold tryC; rw [hc]; exact hb.1
 have hrt : runes (tryC fold l s) = (runes x).take N := by unfold tryC; rw [hc]; exact hb.2
 have hall : ∀ y ∈ allC fold l s, keyC fold (runes (tryC fold l s)) <+: keyC fold (runes y) := by rw [hrt]; exact (hk N hN).2 (Nat.le_refl _)
 have hbeg : ∀ y ∈ allC fold l s, keyC fold (runes s) <+: keyC fold (runes y) := fun y hy => by
  unfold allC at hy
  rw [if_pos hvs] at hy
  exact beg_iff.1 (List.mem_filter.1 hy).2
 have hst : keyC fold (runes s) <+: keyC fold (runes (tryC fold l s)) := by
  refine List.prefix_of_prefix_length_le (hbeg x hxm) (hall x hxm) ?_
  rw [keyC_len, keyC_len, hrt, List.length_take]
  omega
 refine ⟨x, N, hx, hxm, hvx, hvt, hrt, hN, ?_, ?_, ?_, fun hlt h => ?_⟩
 ·have hd : distM [tryC fold l s] = [tryC fold l s] := distM_self (fun z hz => by rw [List.mem_singleton.1 hz]; exact hvt) (List.nodup_cons.2 ⟨List.not_mem_nil, List.nodup_nil⟩)
  unfold allC
  rw [if_pos hvs, hd]
  exact List.filter_cons_of_pos (beg_iff.2 hst)
 ·have e : allC fold l (tryC fold l s) = (distM l).filter fun c => begC fold (runes c) (runes (tryC fold l s)) := by
   conv => lhs; unfold allC
   rw [if_pos hvt]
  have e2 : allC fold l s = (distM l).filter fun c => begC fold (runes c) (runes s) := by
   conv => lhs; unfold allC
   rw [if_pos hvs]
  rw [e, e2]
  refine List.filter_congr fun c hc => ?_
  rw [Bool.eq_iff_iff, beg_iff, beg_iff]
  constructor
  ·exact fun h => hst.trans h
  ·intro h
   refine hall c ?_
   rw [e2]
   exact List.mem_filter.2 ⟨hc, beg_iff.2 h⟩
 ·rw [allC_yes (l := allC fold l s) hvt, allC_dist]
  exact List.filter_eq_self.2 fun c hc => beg_iff.2 (hall c hc)
 ·have hch2 := take_chars hvx (N + 1)
  have hb2 := enc_back hch2
  have hsub : ∀ y ∈ allC fold l s, keyC fold ((runes x).take (N + 1)) <+: keyC fold (runes y) := fun y hy => by
   rw [← h] at hy
   have hy := (allC_yes (l := allC fold l s) hb2.1) ▸ hy
   have := beg_iff.1 (List.mem_filter.1 hy).2
   rw [hb2.2] at this
   exact this
  have := (hk (N + 1) hlt).1 hsub
  omega
end
end Go.Proofs.YtjcmdifpkafdkaaDoor
namespace Go.Proofs.YtjcmdifpkafdkaaDoor
open Go.Lib
set_option maxRecDepth 100000
theorem same_go {l m : List (List UInt8)} {i : Nat} (h1 : i < l.length) (h2 : i < m.length) (h : l.getD i [] = m.getD i []) : (l.drop i = m.drop i) ↔ (l.drop (i + 1) = m.drop (i + 1)) := by
 rw [dropD (d := []) h1, dropD (d := []) h2, h]
 exact ⟨fun e => (List.cons.inj e).2, fun e => by rw [e]⟩
theorem same_stop {l m : List (List UInt8)} {i : Nat} (h1 : i < l.length) (h2 : i < m.length) (h : l.getD i [] ≠ m.getD i []) : ¬ l.drop i = m.drop i := by
 rw [dropD (d := []) h1, dropD (d := []) h2]
 exact fun e => h (List.cons.inj e).1
theorem st_none {F : Nat → Option Blk2} {l : List (List UInt8)} {b : Nat} {t : TypeId} {g : Bool} (h : l.length = 0) (hq : F b = some (.row ⟨[], t, g⟩)) : SlF F 1 (.slice (some ⟨b, 0, none⟩) 0 0) l.length (l.map strV) := by
 obtain rfl := List.eq_nil_of_length_eq_zero h
 exact .some hq rfl rfl
section
variable {G : Nat} {A : Abs} {σ : Mem} {F : Nat → Option Blk2} {L : List Ent} {l m : List (List UInt8)} {s : List UInt8} {v1 v2 : Value}
set_option maxHeartbeats 4000000 in
theorem lightTexts_wc (h1 : SlF F 1 v1 l.length (l.map strV)) (hl : l.length ≤ 9223372036854775807) (H : Lies G A F σ L) : WC G Tryd.prog 30 #[v1, .int .i64 40, .int .i64 60] σ fun v σ' => ∃ b, v = .bool b ∧ (b = true → l.length ≤ 40 ∧ ∀ x ∈ l, x.length ≤ 60) ∧ Lies G A F σ' L := by
 refine WC.enter (fn := Tryd.f30) Tryd.func30 rfl ?_
 refine W.rg [(0, v1), (1, .int .i64 40), (2, .int .i64 60)] fun TA => ?_
 refine W.seq (W.region ?_)
 refine RW.v ?_
 refine RW.nil ?_
 refine W.rg [(0, v1), (1, .int .i64 40), (2, .int .i64 60)] fun TA => ?_
 refine W.seq ?_
 refine W.seq (W.region ?_)
 refine RW.v ?_
 refine RW.nil ?_
 refine W.rg [(0, v1), (1, .int .i64 40), (2, .int .i64 60), (7, .int .i64 0)] fun TA => ?_
 refine W.block ?_
 refine W.loop (fun mm ta σ => ∃ (i : Nat), (mm + i = l.length) ∧ (∀ j, j < i → (l.getD j []).length ≤ 60) ∧ Lies G A F σ ((L)) ∧ ta 0 = v1 ∧ ta 1 = .int .i64 40 ∧ ta 2 = .int .i64 60 ∧ ta 7 = .int .i64 ((i : Nat) : Int)) l.length ?_ ?_
 ·exact ⟨0, (by omega), (fun j hj => absurd hj (Nat.not_lt_zero _)), H, rfl, rfl, rfl, rfl⟩
 clear H
 rintro mm ta _ ⟨i, hm, hT, H, e0, e1, e2, e7⟩
 refine W.rst [(0, v1), (1, .int .i64 40), (2, .int .i64 60), (7, .int .i64 ((i : Nat) : Int))] ⟨e0, e1, e2, e7, trivial⟩ fun TA => ?_
 clear e0 e1 e2 e7
 refine W.seq ?_
 refine W.seq (W.region ?_)
 iterate 2 refine RW.v ?_
 refine RW.len (by kernel_rfl) (by kernel_rfl) rfl rfl rfl rfl (h1.len (e := 9) (by kernel_rfl)) (by kernel_rfl) ?_
 refine RW.v ?_
 refine RW.nil ?_
 refine W.rg [(0, v1), (1, .int .i64 40), (2, .int .i64 60), (7, .int .i64 ((i : Nat) : Int)), (11, .bool (decide (((i : Nat) : Int) < (l.length : Int))))] fun TA => ?_
 refine W.cond rfl (fun hc1 => ?_) (fun hc1 => ?_)
 ·have hc1b := hc1
  have hc1 := of_decide_eq_true hc1
  refine W.skip ?_
  refine W.seq ?_
  refine W.block ?_
  refine W.seq (W.region ?_)
  iterate 2 refine RW.v ?_
  refine RW.idxF h1 (by kernel_rfl) (by kernel_rfl) rfl Tryd.underlying22 (by kernel_rfl) rfl rfl ⟨by omega, by omega⟩ (by kernel_rfl) ?_
  intro b2 q3 r4 hF5 hE6
  rw [strs_at (l := l) (j := i) (i := ((i : Nat) : Int)) (by omega) (by omega)] at hE6
  refine RW.loads 1 (by kernel_rfl) (by kernel_rfl) rfl rfl (H.old _ _ hF5) hE6 rfl (by kernel_rfl) ?_
  refine RW.vop (v := .int .i64 ((l.getD i []).length : Int)) (by kernel_rfl) (by kernel_rfl) (vop_sLenL rfl rfl rfl rfl Tryd.underlying9 rfl) (by kernel_rfl) ?_
  iterate 2 refine RW.v ?_
  refine RW.nil ?_
  refine W.rg [(0, v1), (1, .int .i64 40), (2, .int .i64 60), (7, .int .i64 ((i : Nat) : Int)), (20, .bool (decide (((l.getD i []).length : Int) > 60)))] fun TA => ?_
  refine W.cond rfl (fun hc7 => ?_) (fun hc7 => ?_)
  ·have hc7b := hc7
   have hc7 := of_decide_eq_true hc7
   refine W.seq (W.region ?_)
   refine RW.v ?_
   refine RW.nil ?_
   refine W.ret ?_
   refine blkQ_ret ?_
   refine seqQ_ret ?_
   refine rndQ_ret ?_
   refine blkQ_ret ?_
   refine seqQ_ret ?_
   refine endG (by rfl) (by exact resL_tmp rfl) ?_
   exact ⟨false, rfl, fun h => Bool.noConfusion h, H⟩
  ·have hc7b := hc7
   have hc7 := of_decide_eq_false hc7
   refine W.skip ?_
   refine blkQ_normal ?_
   refine W.region ?_
   refine RW.v ?_
   refine RW.valE (v' := .int .i64 (((i : Nat) : Int) + 1)) (by kernel_rfl) (by kernel_rfl) rfl (congrArg (Value.int .i64) (wrap_in (by omega) (by omega))) (by kernel_rfl) ?_
   refine RW.v ?_
   refine RW.nil ?_
   exact ⟨rfl, mm - 1, by omega, i + 1, (by omega), (fun j hj => by rcases Nat.lt_or_ge j i with h | h; exact hT j h; obtain rfl : j = i := (by omega); omega), H, rfl, rfl, rfl, rfl⟩
 ·have hc1b := hc1
  have hc1 := of_decide_eq_false hc1
  refine W.exit _ ?_
  refine seqQ_exit ?_
  refine rndQ_exit ?_
  refine blkQ_here ?_
  refine W.seq (W.region ?_)
  refine RW.v ?_
  refine RW.len (by kernel_rfl) (by kernel_rfl) rfl rfl rfl rfl (h1.len (e := 9) (by kernel_rfl)) (by kernel_rfl) ?_
  iterate 3 refine RW.v ?_
  refine RW.nil ?_
  refine W.ret ?_
  refine endG (by rfl) (by exact resL_tmp rfl) ?_
  exact ⟨_, rfl, fun h => ⟨by have := of_decide_eq_true h; omega, fun x hx => (by obtain ⟨j, hj, e⟩ := List.mem_iff_getElem.1 hx; have := hT j (by omega); rw [List.getD_eq_getElem?_getD, List.getElem?_eq_getElem hj, Option.getD_some, e] at this; exact this)⟩, H⟩
set_option maxHeartbeats 4000000 in
theorem light_wc (h1 : SlF F 1 v1 l.length (l.map strV)) (hl : l.length ≤ 9223372036854775807) (H : Lies G A F σ L) : WC G Tryd.prog 10 #[v1, .string ⟨s.toArray⟩] σ fun v σ' => ∃ b, v = .bool b ∧ (b = true → l.length ≤ 40 ∧ (∀ x ∈ l, x.length ≤ 60) ∧ s.length ≤ 60) ∧ Lies G A F σ' L := by
 refine WC.enter (fn := Tryd.f10) Tryd.func10 rfl ?_
 refine W.rg [(0, v1), (1, .string ⟨s.toArray⟩)] fun TA => ?_
 refine W.seq (W.region ?_)
 refine RW.v ?_
 refine RW.nil ?_
 refine W.rg [(0, v1), (1, .string ⟨s.toArray⟩)] fun TA => ?_
 refine W.seq (W.region ?_)
 refine RW.v ?_
 refine RW.cl ?_
 refine ((lightTexts_wc h1 hl H).mono ?_)
 clear H
 rintro _ _ ⟨b1, rfl, hb1, H⟩
 refine RW.v ?_
 refine RW.both _ _ rfl rfl rfl (fun hc1 => ?_) (fun hc1 => ?_)
 ·have hc1b := hc1
  refine RW.val (by rfl) (by kernel_rfl) rfl (by kernel_rfl) ?_
  refine RW.vop (v := .int .i64 (s.length : Int)) (by rfl) (by kernel_rfl) (vop_sLenL rfl rfl rfl rfl Tryd.underlying9 rfl) (by kernel_rfl) ?_
  refine RW.val (by rfl) (by kernel_rfl) rfl (by kernel_rfl) ?_
  iterate 2 refine RW.v ?_
  refine RW.nil ?_
  refine W.ret ?_
  refine endG (by rfl) (by exact resL_tmp rfl) ?_
  obtain ⟨g1, g2⟩ := hb1 hc1b
  exact ⟨_, rfl, fun h => ⟨g1, g2, by have := of_decide_eq_true h; omega⟩, H⟩
 ·have hc1b := hc1
  refine RW.skip (by rfl) (by kernel_rfl) ?_
  refine RW.skip (by rfl) (by kernel_rfl) ?_
  refine RW.skip (by rfl) (by kernel_rfl) ?_
  iterate 2 refine RW.v ?_
  refine RW.nil ?_
  refine W.ret ?_
  refine endG (by rfl) (by exact resL_tmp rfl) ?_
  exact ⟨false, rfl, fun h => Bool.noConfusion h, H⟩
set_option maxHeartbeats 4000000 in
theorem same_wcS (h1 : SlF F 1 v1 l.length (l.map strV)) (h2 : SlF F 1 v2 m.length (m.map strV)) (hl : l.length ≤ 1000000) (H : Lies G A F σ L) : WC G Tryd.prog 17 #[v1, v2] σ fun v σ' => v = .bool (decide (l = m)) ∧ Lies G A F σ' L := by
 refine WC.enter (fn := Tryd.f17) Tryd.func17 rfl ?_
 refine W.rg [(0, v1), (1, v2)] fun TA => ?_
 refine W.seq (W.region ?_)
 refine RW.v ?_
 refine RW.nil ?_
 refine W.rg [(0, v1), (1, v2)] fun TA => ?_
 refine W.seq ?_
 refine W.seq (W.region ?_)
 refine RW.v ?_
 refine RW.len (by kernel_rfl) (by kernel_rfl) rfl rfl rfl rfl (h1.len (e := 9) (by kernel_rfl)) (by kernel_rfl) ?_
 refine RW.v ?_
 refine RW.len (by kernel_rfl) (by kernel_rfl) rfl rfl rfl rfl (h2.len (e := 9) (by kernel_rfl)) (by kernel_rfl) ?_
 refine RW.v ?_
 refine RW.nil ?_
 refine W.rg [(0, v1), (1, v2), (10, .bool ((l.length : Int) != (m.length : Int)))] fun TA => ?_
 refine W.cond rfl (fun hc1 => ?_) (fun hc1 => ?_)
 ·have hc1b := hc1
  have hc1 := bne_iff_ne.1 hc1
  refine W.seq (W.region ?_)
  refine RW.v ?_
  refine RW.nil ?_
  refine W.ret ?_
  refine seqQ_ret ?_
  refine endG (by rfl) (by exact resL_tmp rfl) ?_
  have es : decide (l = m) = false := decide_eq_false (fun h => by have := congrArg List.length h; omega)
  rw [es]
  exact ⟨rfl, H⟩
 ·have hc1b := hc1
  have hc1 := (bne_eq_false_iff_eq.1) hc1
  refine W.skip ?_
  refine W.seq ?_
  refine W.seq (W.region ?_)
  refine RW.v ?_
  refine RW.nil ?_
  refine W.rg [(0, v1), (1, v2), (5, .int .i64 0)] fun TA => ?_
  refine W.block ?_
  refine W.loop (fun mm ta σ => ∃ (i : Nat), (mm + i = l.length) ∧ ((l = m) ↔ (l.drop i = m.drop i)) ∧ Lies G A F σ ((L)) ∧ ta 0 = v1 ∧ ta 1 = v2 ∧ ta 5 = .int .i64 ((i : Nat) : Int)) l.length ?_ ?_
  ·exact ⟨0, (by omega), (by simp), H, rfl, rfl, rfl⟩
  clear H
  rintro mm ta _ ⟨i, hm, hT, H, e0, e1, e5⟩
  refine W.rst [(0, v1), (1, v2), (5, .int .i64 ((i : Nat) : Int))] ⟨e0, e1, e5, trivial⟩ fun TA => ?_
  clear e0 e1 e5
  refine W.seq ?_
  refine W.seq (W.region ?_)
  iterate 2 refine RW.v ?_
  refine RW.len (by kernel_rfl) (by kernel_rfl) rfl rfl rfl rfl (h1.len (e := 9) (by kernel_rfl)) (by kernel_rfl) ?_
  refine RW.v ?_
  refine RW.nil ?_
  refine W.rg [(0, v1), (1, v2), (5, .int .i64 ((i : Nat) : Int)), (14, .bool (decide (((i : Nat) : Int) < (l.length : Int))))] fun TA => ?_
  refine W.cond rfl (fun hc2 => ?_) (fun hc2 => ?_)
  ·have hc2b := hc2
   have hc2 := of_decide_eq_true hc2
   have hil : i < l.length := by omega
   have hil2 : i < m.length := by omega
   refine W.skip ?_
   refine W.seq ?_
   refine W.block ?_
   refine W.seq ?_
   refine W.drawn (by kernel_rfl) (by kernel_rfl) H.gn ?_
   have H3 := H
   iterate 2 refine RW.v ?_
   refine RW.idxF h1 (by kernel_rfl) (by kernel_rfl) rfl Tryd.underlying22 (by kernel_rfl) rfl rfl ⟨by omega, by omega⟩ (by kernel_rfl) ?_
   intro b4 q5 r6 hF7 hE8
   rw [strs_at (l := l) (j := i) (i := ((i : Nat) : Int)) (by omega) (by omega)] at hE8
   refine RW.loads 1 (by kernel_rfl) (by kernel_rfl) rfl rfl (H3.old _ _ hF7) hE8 rfl (by kernel_rfl) ?_
   iterate 2 refine RW.v ?_
   refine RW.idxF h2 (by kernel_rfl) (by kernel_rfl) rfl Tryd.underlying22 (by kernel_rfl) rfl rfl ⟨by omega, by omega⟩ (by kernel_rfl) ?_
   intro b9 q10 r11 hF12 hE13
   rw [strs_at (l := m) (j := i) (i := ((i : Nat) : Int)) (by omega) (by omega)] at hE13
   refine RW.loads 1 (by kernel_rfl) (by kernel_rfl) rfl rfl (H3.old _ _ hF12) hE13 rfl (by kernel_rfl) ?_
   refine RW.vop (v := .bool ((l.getD i []) != (m.getD i []))) (by kernel_rfl) (by kernel_rfl) (vop_sNe rfl rfl rfl rfl) (by kernel_rfl) ?_
   refine RW.nil ?_
   refine ⟨⟨by kernel_rfl, ⟨trivial, trivial, trivial, dyn_row (H3.old _ _ hF7) (H3.old _ _ hF7) ⟨fun h => Bool.noConfusion h, fun h => Bool.noConfusion h, fun h => Bool.noConfusion h, fun h => Bool.noConfusion h, fun h => Bool.noConfusion h, fun h => Bool.noConfusion h, fun h => Bool.noConfusion h, fun h => Bool.noConfusion h, fun h => Bool.noConfusion h, trivial⟩, trivial, trivial, trivial, dyn_row (H3.old _ _ hF12) (H3.old _ _ hF12) ⟨fun h => Bool.noConfusion h, fun h => Bool.noConfusion h, fun h => Bool.noConfusion h, fun h => Bool.noConfusion h, fun h => Bool.noConfusion h, fun h => Bool.noConfusion h, fun h => Bool.noConfusion h, fun h => Bool.noConfusion h, fun h => Bool.noConfusion h, trivial⟩, trivial, trivial⟩⟩, ?_⟩
   replace H := H3
   clear H3
   refine W.rg [(0, v1), (1, v2), (5, .int .i64 ((i : Nat) : Int)), (25, .bool ((l.getD i []) != (m.getD i [])))] fun TA => ?_
   refine W.cond rfl (fun hc14 => ?_) (fun hc14 => ?_)
   ·have hc14b := hc14
    have hc14 := bne_iff_ne.1 hc14
    refine W.seq (W.region ?_)
    refine RW.v ?_
    refine RW.nil ?_
    refine W.ret ?_
    refine blkQ_ret ?_
    refine seqQ_ret ?_
    refine rndQ_ret ?_
    refine blkQ_ret ?_
    refine seqQ_ret ?_
    refine endG (by rfl) (by exact resL_tmp rfl) ?_
    have es : decide (l = m) = false := decide_eq_false (fun h => same_stop hil hil2 hc14 (hT.1 h))
    rw [es]
    exact ⟨rfl, H⟩
   ·have hc14b := hc14
    have hc14 := (bne_eq_false_iff_eq.1) hc14
    refine W.skip ?_
    refine blkQ_normal ?_
    refine W.region ?_
    refine RW.v ?_
    refine RW.valE (v' := .int .i64 (((i : Nat) : Int) + 1)) (by kernel_rfl) (by kernel_rfl) rfl (congrArg (Value.int .i64) (wrap_in (by omega) (by omega))) (by kernel_rfl) ?_
    refine RW.v ?_
    refine RW.nil ?_
    exact ⟨rfl, mm - 1, by omega, i + 1, (by omega), (by rw [hT, same_go hil hil2 hc14]), H, rfl, rfl, rfl⟩
  ·have hc2b := hc2
   have hc2 := of_decide_eq_false hc2
   refine W.exit _ ?_
   refine seqQ_exit ?_
   refine rndQ_exit ?_
   refine blkQ_here ?_
   refine W.seq (W.region ?_)
   refine RW.v ?_
   refine RW.nil ?_
   refine W.ret ?_
   refine endG (by rfl) (by exact resL_tmp rfl) ?_
   have es : decide (l = m) = true := decide_eq_true (hT.2 (by rw [List.drop_eq_nil_of_le (by omega), List.drop_eq_nil_of_le (by omega)]))
   rw [es]
   exact ⟨rfl, H⟩
set_option maxHeartbeats 4000000 in
theorem own_wcS (h1 : SlF F 1 v1 l.length (l.map strV)) (hl : l.length ≤ 1000000) (H : Lies G A F σ L) : WC G Tryd.prog 12 #[v1] σ fun v σ' => ∃ F', Le F F' ∧ SlF F' 1 v l.length (l.map strV) ∧ Lies G A F' σ' L := by
 refine WC.enter (fn := Tryd.f12) Tryd.func12 rfl ?_
 refine W.rg [(0, v1)] fun TA => ?_
 refine W.seq (W.region ?_)
 refine RW.v ?_
 refine RW.nil ?_
 refine W.rg [(0, v1)] fun TA => ?_
 refine W.seq (W.region ?_)
 refine RW.mkL H (x := .row ⟨[], 9, false⟩) (fm := fun b => .slice (some ⟨b, 0, none⟩) 0 0) (by kernel_rfl) (by kernel_rfl) (by kernel_rfl) (by kernel_rfl) ?_
 clear H; intro _ b1 _ H
 refine RW.v ?_
 rcases Nat.eq_zero_or_pos l.length with h0 | h0
 ·have hs0 : SlF F 1 v1 0 (l.map strV) := h0 ▸ h1
  refine RW.appN H (e := 9) (e2 := 9) hs0 (by kernel_rfl) (by kernel_rfl) rfl rfl rfl rfl rfl rfl (Nat.le_refl _) (by kernel_rfl) (by kernel_rfl) (by kernel_rfl) (by decide) (by kernel_rfl) ?_
  refine RW.v ?_
  refine RW.nil ?_
  refine W.ret ?_
  refine endG (by rfl) (by exact resL_tmp rfl) ?_
  obtain ⟨F', le, hq, H⟩ := H.freeze 0 rfl
  dsimp only [setL, delL] at H
  exact ⟨F', le, (st_none h0 hq), H⟩
 ·refine RW.appS H (e := 9) (e2 := 9) h1 (by kernel_rfl) (by kernel_rfl) rfl rfl rfl rfl rfl rfl (H.get 0 rfl) rfl h0 (by kernel_rfl) (by kernel_rfl) (by kernel_rfl) (by decide) (by omega) (by kernel_rfl) ?_
  clear H; intro _ v2 H
  refine RW.v ?_
  refine RW.nil ?_
  replace H := (H.del 1)
  dsimp only [setL, delL] at H
  refine W.ret ?_
  refine endG (by rfl) (by exact resL_tmp rfl) ?_
  obtain ⟨F', le, hq, H⟩ := H.freezeSl 0 rfl
  rw [Nat.zero_add, List.nil_append] at hq
  dsimp only [setL, delL] at H
  exact ⟨F', le, hq, H⟩
end
end Go.Proofs.YtjcmdifpkafdkaaDoor
