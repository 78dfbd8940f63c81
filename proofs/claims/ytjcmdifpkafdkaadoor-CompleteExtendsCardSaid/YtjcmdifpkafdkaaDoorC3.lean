/-
 Completion by prefixes finds the longest extension. Plain. Conditions: none.
 Helpers of the laws of completion. Conditions: the tables of unicode/utf8 lie.
 CompleteExtends in the second memory. Conditions: none.
-/
import Derived.Test.YtjcmdifpkafdkaaDoorCpf
import Derived.Test.YtjcmdifpkafdkaaDoorC2
import Derived.Test.YtjcmdifpkafdkaaDoorL3
import Derived.Test.YtjcmdifpkafdkaaDoorL4
namespace Go.Proofs.YtjcmdifpkafdkaaDoor
open Go.Lib
set_option maxRecDepth 100000
theorem keyC_take (fold : Bool) (l : List Int) (n : Nat) : keyC fold (l.take n) = (keyC fold l).take n := List.map_take
theorem keyC_len (fold : Bool) (l : List Int) : (keyC fold l).length = l.length := List.length_map ..
theorem beg_iff {fold : Bool} {c s : List Int} : begC fold c s = true ↔ keyC fold s <+: keyC fold c := by
 unfold begC
 rw [Bool.and_eq_true, decide_eq_true_iff, beq_iff_eq, keyC_take, List.prefix_iff_eq_take, keyC_len]
 constructor
 ·rintro ⟨_, h⟩
  exact h.symm
 ·intro h
  refine ⟨?_, h.symm⟩
  have := congrArg List.length h
  rw [List.length_take, keyC_len, keyC_len] at this
  omega
theorem lcp_iff {fold : Bool} : ∀ {a b : List Int} {k : Nat}, k ≤ lcpC fold a b ↔ k ≤ a.length ∧ keyC fold (a.take k) <+: keyC fold b
 | a, b, 0 => by simp [keyC]
 | [], b, k + 1 => by simp [lcpC]
 | a :: u, [], k + 1 => by simp [lcpC, keyC]
 | a :: u, b :: v, k + 1 => by
  unfold lcpC
  rw [List.take_succ_cons]
  show _ ↔ _ ∧ (foldC fold a :: keyC fold (u.take k)) <+: (foldC fold b :: keyC fold v)
  rw [List.cons_prefix_cons]
  by_cases h : foldC fold a = foldC fold b
  ·rw [if_pos h, Nat.succ_le_succ_iff, lcp_iff (a := u) (b := v), List.length_cons, Nat.succ_le_succ_iff]
   exact ⟨fun ⟨h1, h2⟩ => ⟨h1, h, h2⟩, fun ⟨h1, _, h2⟩ => ⟨h1, h2⟩⟩
  ·rw [if_neg h]
   exact ⟨fun h => absurd h (by omega), fun ⟨_, h2, _⟩ => absurd h2 h⟩
section
variable {fold : Bool} {l : List (List UInt8)} {s : List UInt8}
theorem ext_all (hm : allC fold l s ≠ []) : ∃ (x : List UInt8) (N : Nat), (allC fold l s).getD 0 [] = x ∧ x ∈ allC fold l s ∧ commonC fold (allC fold l s) = encA ((runes x).take N) ∧ N ≤ (runes x).length ∧ (runes s).length ≤ N ∧
  (∀ n, n ≤ (runes x).length → ((∀ y ∈ allC fold l s, keyC fold ((runes x).take n) <+: keyC fold (runes y)) ↔ n ≤ N)) := by
 have hb : ∀ y ∈ allC fold l s, keyC fold (runes s) <+: keyC fold (runes y) := fun y hy => by
  unfold allC at hy
  split at hy
  ·exact beg_iff.1 (List.mem_filter.1 hy).2
  ·exact absurd hy (List.not_mem_nil)
 have hcom : commonC fold (allC fold l s) = encA (comC fold ((allC fold l s).map runes)) := by unfold commonC; rw [allC_filter]
 rw [hcom]
 cases hc : allC fold l s with
 | nil => exact absurd hc hm
 | cons x r =>
  rw [hc] at hb
  have hN : ∀ n, n ≤ (runes x).length → ((∀ y ∈ x :: r, keyC fold ((runes x).take n) <+: keyC fold (runes y)) ↔ n ≤ comN fold (runes x) (r.map runes)) := fun n hn => by
   unfold comN
   rw [foldl_min (f := fun y => lcpC fold (runes x) y)]
   constructor
   ·intro h
    refine ⟨hn, fun z hz => ?_⟩
    obtain ⟨y, hy, rfl⟩ := List.mem_map.1 hz
    exact lcp_iff.2 ⟨hn, h y (List.mem_cons_of_mem _ hy)⟩
   ·rintro ⟨_, h⟩ y hy
    rcases List.mem_cons.1 hy with rfl | hy
    ·rw [keyC_take]; exact List.take_prefix ..
    ·exact (lcp_iff.1 (h _ (List.mem_map.2 ⟨y, hy, rfl⟩))).2
  have hNl : comN fold (runes x) (r.map runes) ≤ (runes x).length := (foldl_min (f := fun y => lcpC fold (runes x) y) (l := r.map runes) (n := (runes x).length) (k := comN fold (runes x) (r.map runes))).1 (Nat.le_refl _) |>.1
  refine ⟨x, comN fold (runes x) (r.map runes), rfl, List.mem_cons_self .., rfl, hNl, ?_, hN⟩
  have hx := hb x (List.mem_cons_self ..)
  have hl : (runes s).length ≤ (runes x).length := by
   have := hx.length_le
   rw [keyC_len, keyC_len] at this
   exact this
  refine (hN _ hl).1 fun y hy => ?_
  have e : keyC fold ((runes x).take (runes s).length) = keyC fold (runes s) := by
   rw [keyC_take, List.prefix_iff_eq_take.1 hx, keyC_len]
  rw [e]
  exact hb y hy
theorem ext_valid (hm : allC fold l s ≠ []) : validD s = true := by
 cases h : validD s with
 | true => rfl
 | false =>
  refine absurd ?_ hm
  unfold allC
  rw [if_neg (by rw [h]; exact Bool.false_ne_true)]
theorem take_chars {x : List UInt8} (h : validD x = true) (n : Nat) : ∀ c ∈ (runes x).take n, chB c = true := fun c hc => runes_chars h c (List.mem_of_mem_take hc)
theorem status_nil : statusC fold (allC fold l s) s = 0 ↔ allC fold l s = [] := by
 constructor
 ·intro h
  unfold statusC at h
  split at h
  ·assumption
  ·split at h
   ·exact absurd h (by decide)
   ·split at h <;> exact absurd h (by decide)
 ·intro h
  unfold statusC
  rw [if_pos h]
theorem allC_yes {l : List (List UInt8)} {t : List UInt8} (h : validD t = true) : allC fold l t = (distM l).filter fun c => begC fold (runes c) (runes t) := if_pos h
structure ExtC (fold : Bool) (l : List (List UInt8)) (s t : List UInt8) (x : List UInt8) (N : Nat) : Prop where
 head : (allC fold l s).getD 0 [] = x
 mem : x ∈ allC fold l s
 vx : validD x = true
 vt : validD t = true
 rt : runes t = (runes x).take N
 len : N ≤ (runes x).length
 one : allC fold [t] s = [t]
 same : allC fold l t = allC fold l s
 again : allC fold (allC fold l s) t = allC fold l s
 more : N < (runes x).length → allC fold (allC fold l s) (encA ((runes x).take (N + 1))) ≠ allC fold l s
theorem ext_ok (hm : allC fold l s ≠ []) : ∃ x N, ExtC fold l s (tryC fold l s) x N := by
 obtain ⟨x, N, hx, hxm, hc, hN, hs, hk⟩ := ext_all hm
 have hvs := ext_valid hm
 have hvx := (allC_good.1 x hxm).1
 have hch := take_chars hvx N
 have hb := enc_back hch
 have hvt : validD (tryC fold l s) = true := by unfold tryC; rw [hc]; exact hb.1
 have hrt : runes (tryC fold l s) = (runes x).take N := by unfold tryC; rw [hc]; exact hb.2
 have hall : ∀ y ∈ allC fold l s, keyC fold (runes (tryC fold l s)) <+: keyC fold (runes y) := by rw [hrt]; exact (hk N hN).2 (Nat.le_refl _)
 have hbeg : ∀ y ∈ allC fold l s, keyC fold (runes s) <+: keyC fold (runes y) := fun y hy => by
  unfold allC at hy
  rw [if_pos hvs] at hy
  exact beg_iff.1 (List.mem_filter.1 hy).2
 have hst : keyC fold (runes s) <+: keyC fold (runes (tryC fold l s)) := by
  refine List.prefix_of_prefix_length_le (hbeg x hxm) (hall x hxm) ?_
  rw [keyC_len, keyC_len, hrt, List.length_take]
  omega
 refine ⟨x, N, hx, hxm, hvx, hvt, hrt, hN, ?_, ?_, ?_, fun hlt h => ?_⟩
 ·have hd : distM [tryC fold l s] = [tryC fold l s] := distM_self (fun z hz => by rw [List.mem_singleton.1 hz]; exact hvt) (List.nodup_cons.2 ⟨List.not_mem_nil, List.nodup_nil⟩)
  unfold allC
  rw [if_pos hvs, hd]
  exact List.filter_cons_of_pos (beg_iff.2 hst)
 ·have e : allC fold l (tryC fold l s) = (distM l).filter fun c => begC fold (runes c) (runes (tryC fold l s)) := by
   conv => lhs; unfold allC
   rw [if_pos hvt]
  have e2 : allC fold l s = (distM l).filter fun c => begC fold (runes c) (runes s) := by
   conv => lhs; unfold allC
   rw [if_pos hvs]
  rw [e, e2]
  refine List.filter_congr fun c hc => ?_
  rw [Bool.eq_iff_iff, beg_iff, beg_iff]
  constructor
  ·exact fun h => hst.trans h
  ·intro h
   refine hall c ?_
   rw [e2]
   exact List.mem_filter.2 ⟨hc, beg_iff.2 h⟩
 ·rw [allC_yes (l := allC fold l s) hvt, allC_dist]
  exact List.filter_eq_self.2 fun c hc => beg_iff.2 (hall c hc)
 ·have hch2 := take_chars hvx (N + 1)
  have hb2 := enc_back hch2
  have hsub : ∀ y ∈ allC fold l s, keyC fold ((runes x).take (N + 1)) <+: keyC fold (runes y) := fun y hy => by
   rw [← h] at hy
   have hy := (allC_yes (l := allC fold l s) hb2.1) ▸ hy
   have := beg_iff.1 (List.mem_filter.1 hy).2
   rw [hb2.2] at this
   exact this
  have := (hk (N + 1) hlt).1 hsub
  omega
theorem eq_beg {a b : List Int} (h : begC fold a b = true) : eqC fold a b = decide (a.length = b.length) := by
 rw [eqC_key]
 have hp := beg_iff.1 h
 by_cases e : a.length = b.length
 ·rw [decide_eq_true e, beq_iff_eq]
  exact (hp.eq_of_length (by rw [keyC_len, keyC_len, e])).symm
 ·rw [decide_eq_false e, beq_eq_false_iff_ne]
  intro k
  have := congrArg List.length k
  rw [keyC_len, keyC_len] at this
  exact e this
theorem ext_any (hv : validD s = true) : testC fold l s = (allC fold l s).any fun c => eqC fold (runes c) (runes s) := by
 unfold testC allC
 rw [hv, Bool.true_and, if_pos rfl, Bool.eq_iff_iff, List.any_eq_true, List.any_eq_true]
 constructor
 ·rintro ⟨x, hx, he⟩
  refine ⟨x, List.mem_filter.2 ⟨hx, beg_iff.2 ?_⟩, he⟩
  rw [eqC_key, beq_iff_eq] at he
  rw [he]
  exact List.prefix_rfl
 ·rintro ⟨x, hx, he⟩
  exact ⟨x, (List.mem_filter.1 hx).1, he⟩
theorem ext_sole (hm : allC fold l s ≠ []) (h1 : (allC fold l s).length = 1) : (statusC fold (allC fold l s) s == 1) = ((((runes ((allC fold l s).getD 0 [])).length : Nat) : Int) == (((runes s).length : Nat) : Int)) := by
 obtain ⟨x, hx⟩ : ∃ x, allC fold l s = [x] := List.length_eq_one_iff.1 h1
 have hb : begC fold (runes x) (runes s) = true := by
  have hx2 : x ∈ allC fold l s := by rw [hx]; exact List.mem_singleton.2 rfl
  unfold allC at hx2
  split at hx2
  ·exact (List.mem_filter.1 hx2).2
  ·exact absurd hx2 (List.not_mem_nil)
 have he : ([x].any fun c => eqC fold (runes c) (runes s)) = decide ((runes x).length = (runes s).length) := by
  rw [List.any_cons, eq_beg hb]
  simp
 rw [hx]
 show (statusC fold [x] s == 1) = ((((runes x).length : Nat) : Int) == _)
 unfold statusC
 rw [if_neg (by simp), he]
 by_cases e : (runes x).length = (runes s).length
 ·rw [decide_eq_true e, if_neg (by decide), if_pos (show ([x] : List (List UInt8)).length = 1 from rfl), e, beq_self_eq_true, beq_self_eq_true]
 ·rw [decide_eq_false e, if_pos rfl, beq_eq_false_iff_ne.2 (show ((((runes x).length : Nat) : Int)) ≠ _ by omega)]
  rfl
theorem ext_many (h1 : (allC fold l s).length ≠ 1) : (statusC fold (allC fold l s) s == 1) = false := by
 rw [beq_eq_false_iff_ne]
 intro h
 unfold statusC at h
 split at h
 ·exact absurd h (by decide)
 ·split at h
  ·exact absurd h (by decide)
  ·first
   | exact absurd h (by decide)
   | (rw [if_neg h1] at h; exact absurd h (by decide))
theorem ext_test (hm : allC fold l s ≠ []) : testC fold l s = (statusC fold (allC fold l s) s == 1 || statusC fold (allC fold l s) s == 2) := by
 rw [ext_any (ext_valid hm)]
 unfold statusC
 rw [if_neg hm]
 cases h : (allC fold l s).any fun c => eqC fold (runes c) (runes s) with
 | true =>
  rw [if_neg (by decide)]
  split <;> rfl
 | false => rw [if_pos rfl]; rfl
end
end Go.Proofs.YtjcmdifpkafdkaaDoor
namespace Go.Proofs.YtjcmdifpkafdkaaDoor
open Go.Lib
set_option maxRecDepth 100000
theorem same_go {l m : List (List UInt8)} {i : Nat} (h1 : i < l.length) (h2 : i < m.length) (h : l.getD i [] = m.getD i []) : (l.drop i = m.drop i) ↔ (l.drop (i + 1) = m.drop (i + 1)) := by
 rw [dropD (d := []) h1, dropD (d := []) h2, h]
 exact ⟨fun e => (List.cons.inj e).2, fun e => by rw [e]⟩
theorem same_stop {l m : List (List UInt8)} {i : Nat} (h1 : i < l.length) (h2 : i < m.length) (h : l.getD i [] ≠ m.getD i []) : ¬ l.drop i = m.drop i := by
 rw [dropD (d := []) h1, dropD (d := []) h2]
 exact fun e => h (List.cons.inj e).1
section
variable {G : Nat} {A : Abs} {σ : Mem} {F : Nat → Option Blk2} {L : List Ent} {l m : List (List UInt8)} {s : List UInt8} {v1 v2 : Value}
theorem s_len {bs : List UInt8} (hU : U8F σ.get) (h16 : 16 ≤ G) (hs : bs.length ≤ 1000000) (hv : validD bs = true) : SCall G Tryd.prog 39 #[.string ⟨bs.toArray⟩] σ (.int .i64 (((runes bs).length : Nat) : Int)) σ :=
 below_callT hU.rows h16 rfl rfl fun w hT => by
  have := len_any ⟨bs.toArray⟩ w (by show bs.length ≤ _; omega) hT
  rw [show (⟨bs.toArray⟩ : ByteArray).data.toList = bs by simp, lenOf_yes hv] at this
  exact this
theorem s_cut {bs : List UInt8} {k : Nat} (hU : U8F σ.get) (h16 : 16 ≤ G) (hs : bs.length ≤ 1000000) (hv : validD bs = true) (hk : k ≤ (runes bs).length) : SCall G Tryd.prog 40 #[.string ⟨bs.toArray⟩, .int .i64 0, .int .i64 ((k : Nat) : Int)] σ (.tuple #[.string ⟨(encA ((runes bs).take k)).toArray⟩, .int .i64 0]) σ :=
 below_callT hU.rows h16 rfl rfl fun w hT => by
  have e0 : (⟨bs.toArray⟩ : ByteArray).data.toList = bs := by simp
  have := cut_yes ⟨bs.toArray⟩ 0 ((k : Nat) : Int) w (by show bs.length ≤ _; omega) hT (by rw [e0]; exact hv) (Int.le_refl _) (by omega) (by rw [e0]; omega)
  refine this.mono ?_
  rintro e w' ⟨t, rfl, ht, _, hb⟩
  rw [e0] at ht
  have e1 : t = ⟨(encA ((runes bs).take k)).toArray⟩ := by
   apply Go.WideShapes.bytes_inj
   rw [ht]
   simp [cutOf]
  rw [e1]
  exact ⟨rfl, hb⟩
set_option maxHeartbeats 4000000 in
theorem lightTexts_wc (h1 : SlF F 1 v1 l.length (l.map strV)) (hl : l.length ≤ 9223372036854775807) (H : Lies G A F σ L) : WC G Tryd.prog 30 #[v1, .int .i64 40, .int .i64 60] σ fun v σ' => ∃ b, v = .bool b ∧ (b = true → l.length ≤ 40 ∧ ∀ x ∈ l, x.length ≤ 60) ∧ Lies G A F σ' L := by
 refine WC.enter (fn := Tryd.f30) Tryd.func30 rfl ?_
 refine W.rg [(0, v1), (1, .int .i64 40), (2, .int .i64 60)] fun TA => ?_
 refine W.seq (W.region ?_)
 refine RW.v ?_
 refine RW.nil ?_
 refine W.rg [(0, v1), (1, .int .i64 40), (2, .int .i64 60)] fun TA => ?_
 refine W.seq ?_
 refine W.seq (W.region ?_)
 refine RW.v ?_
 refine RW.nil ?_
 refine W.rg [(0, v1), (1, .int .i64 40), (2, .int .i64 60), (7, .int .i64 0)] fun TA => ?_
 refine W.block ?_
 refine W.loop (fun mm ta σ => ∃ (i : Nat), (mm + i = l.length) ∧ (∀ j, j < i → (l.getD j []).length ≤ 60) ∧ Lies G A F σ ((L)) ∧ ta 0 = v1 ∧ ta 1 = .int .i64 40 ∧ ta 2 = .int .i64 60 ∧ ta 7 = .int .i64 ((i : Nat) : Int)) l.length ?_ ?_
 ·exact ⟨0, (by omega), (fun j hj => absurd hj (Nat.not_lt_zero _)), H, rfl, rfl, rfl, rfl⟩
 clear H
 rintro mm ta _ ⟨i, hm, hT, H, e0, e1, e2, e7⟩
 refine W.rst [(0, v1), (1, .int .i64 40), (2, .int .i64 60), (7, .int .i64 ((i : Nat) : Int))] ⟨e0, e1, e2, e7, trivial⟩ fun TA => ?_
 clear e0 e1 e2 e7
 refine W.seq ?_
 refine W.seq (W.region ?_)
 iterate 2 refine RW.v ?_
 refine RW.len (by kernel_rfl) (by kernel_rfl) rfl rfl rfl rfl (h1.len (e := 9) (by kernel_rfl)) (by kernel_rfl) ?_
 refine RW.v ?_
 refine RW.nil ?_
 refine W.rg [(0, v1), (1, .int .i64 40), (2, .int .i64 60), (7, .int .i64 ((i : Nat) : Int)), (11, .bool (decide (((i : Nat) : Int) < (l.length : Int))))] fun TA => ?_
 refine W.cond rfl (fun hc1 => ?_) (fun hc1 => ?_)
 ·have hc1b := hc1
  have hc1 := of_decide_eq_true hc1
  refine W.skip ?_
  refine W.seq ?_
  refine W.block ?_
  refine W.seq (W.region ?_)
  iterate 2 refine RW.v ?_
  refine RW.idxF h1 (by kernel_rfl) (by kernel_rfl) rfl Tryd.underlying22 (by kernel_rfl) rfl rfl ⟨by omega, by omega⟩ (by kernel_rfl) ?_
  intro b2 q3 r4 hF5 hE6
  rw [strs_at (l := l) (j := i) (i := ((i : Nat) : Int)) (by omega) (by omega)] at hE6
  refine RW.loads 1 (by kernel_rfl) (by kernel_rfl) rfl rfl (H.old _ _ hF5) hE6 rfl (by kernel_rfl) ?_
  refine RW.vop (v := .int .i64 ((l.getD i []).length : Int)) (by kernel_rfl) (by kernel_rfl) (vop_sLenL rfl rfl rfl rfl Tryd.underlying9 rfl) (by kernel_rfl) ?_
  iterate 2 refine RW.v ?_
  refine RW.nil ?_
  refine W.rg [(0, v1), (1, .int .i64 40), (2, .int .i64 60), (7, .int .i64 ((i : Nat) : Int)), (20, .bool (decide (((l.getD i []).length : Int) > 60)))] fun TA => ?_
  refine W.cond rfl (fun hc7 => ?_) (fun hc7 => ?_)
  ·have hc7b := hc7
   have hc7 := of_decide_eq_true hc7
   refine W.seq (W.region ?_)
   refine RW.v ?_
   refine RW.nil ?_
   refine W.ret ?_
   refine blkQ_ret ?_
   refine seqQ_ret ?_
   refine rndQ_ret ?_
   refine blkQ_ret ?_
   refine seqQ_ret ?_
   refine endG (by rfl) (by exact resL_tmp rfl) ?_
   exact ⟨false, rfl, fun h => Bool.noConfusion h, H⟩
  ·have hc7b := hc7
   have hc7 := of_decide_eq_false hc7
   refine W.skip ?_
   refine blkQ_normal ?_
   refine W.region ?_
   refine RW.v ?_
   refine RW.valE (v' := .int .i64 (((i : Nat) : Int) + 1)) (by kernel_rfl) (by kernel_rfl) rfl (congrArg (Value.int .i64) (wrap_in (by omega) (by omega))) (by kernel_rfl) ?_
   refine RW.v ?_
   refine RW.nil ?_
   exact ⟨rfl, mm - 1, by omega, i + 1, (by omega), (fun j hj => by rcases Nat.lt_or_ge j i with h | h; exact hT j h; obtain rfl : j = i := (by omega); omega), H, rfl, rfl, rfl, rfl⟩
 ·have hc1b := hc1
  have hc1 := of_decide_eq_false hc1
  refine W.exit _ ?_
  refine seqQ_exit ?_
  refine rndQ_exit ?_
  refine blkQ_here ?_
  refine W.seq (W.region ?_)
  refine RW.v ?_
  refine RW.len (by kernel_rfl) (by kernel_rfl) rfl rfl rfl rfl (h1.len (e := 9) (by kernel_rfl)) (by kernel_rfl) ?_
  iterate 3 refine RW.v ?_
  refine RW.nil ?_
  refine W.ret ?_
  refine endG (by rfl) (by exact resL_tmp rfl) ?_
  exact ⟨_, rfl, fun h => ⟨by have := of_decide_eq_true h; omega, fun x hx => (by obtain ⟨j, hj, e⟩ := List.mem_iff_getElem.1 hx; have := hT j (by omega); rw [List.getD_eq_getElem?_getD, List.getElem?_eq_getElem hj, Option.getD_some, e] at this; exact this)⟩, H⟩
set_option maxHeartbeats 4000000 in
theorem light_wc (h1 : SlF F 1 v1 l.length (l.map strV)) (hl : l.length ≤ 9223372036854775807) (H : Lies G A F σ L) : WC G Tryd.prog 10 #[v1, .string ⟨s.toArray⟩] σ fun v σ' => ∃ b, v = .bool b ∧ (b = true → l.length ≤ 40 ∧ (∀ x ∈ l, x.length ≤ 60) ∧ s.length ≤ 60) ∧ Lies G A F σ' L := by
 refine WC.enter (fn := Tryd.f10) Tryd.func10 rfl ?_
 refine W.rg [(0, v1), (1, .string ⟨s.toArray⟩)] fun TA => ?_
 refine W.seq (W.region ?_)
 refine RW.v ?_
 refine RW.nil ?_
 refine W.rg [(0, v1), (1, .string ⟨s.toArray⟩)] fun TA => ?_
 refine W.seq (W.region ?_)
 refine RW.v ?_
 refine RW.cl ?_
 refine ((lightTexts_wc h1 hl H).mono ?_)
 clear H
 rintro _ _ ⟨b1, rfl, hb1, H⟩
 refine RW.v ?_
 refine RW.both _ _ rfl rfl rfl (fun hc1 => ?_) (fun hc1 => ?_)
 ·have hc1b := hc1
  refine RW.val (by rfl) (by kernel_rfl) rfl (by kernel_rfl) ?_
  refine RW.vop (v := .int .i64 (s.length : Int)) (by rfl) (by kernel_rfl) (vop_sLenL rfl rfl rfl rfl Tryd.underlying9 rfl) (by kernel_rfl) ?_
  refine RW.val (by rfl) (by kernel_rfl) rfl (by kernel_rfl) ?_
  iterate 2 refine RW.v ?_
  refine RW.nil ?_
  refine W.ret ?_
  refine endG (by rfl) (by exact resL_tmp rfl) ?_
  obtain ⟨g1, g2⟩ := hb1 hc1b
  exact ⟨_, rfl, fun h => ⟨g1, g2, by have := of_decide_eq_true h; omega⟩, H⟩
 ·have hc1b := hc1
  refine RW.skip (by rfl) (by kernel_rfl) ?_
  refine RW.skip (by rfl) (by kernel_rfl) ?_
  refine RW.skip (by rfl) (by kernel_rfl) ?_
  iterate 2 refine RW.v ?_
  refine RW.nil ?_
  refine W.ret ?_
  refine endG (by rfl) (by exact resL_tmp rfl) ?_
  exact ⟨false, rfl, fun h => Bool.noConfusion h, H⟩
set_option maxHeartbeats 4000000 in
theorem same_wcS (h1 : SlF F 1 v1 l.length (l.map strV)) (h2 : SlF F 1 v2 m.length (m.map strV)) (hl : l.length ≤ 1000000) (H : Lies G A F σ L) : WC G Tryd.prog 17 #[v1, v2] σ fun v σ' => v = .bool (decide (l = m)) ∧ Lies G A F σ' L := by
 refine WC.enter (fn := Tryd.f17) Tryd.func17 rfl ?_
 refine W.rg [(0, v1), (1, v2)] fun TA => ?_
 refine W.seq (W.region ?_)
 refine RW.v ?_
 refine RW.nil ?_
 refine W.rg [(0, v1), (1, v2)] fun TA => ?_
 refine W.seq ?_
 refine W.seq (W.region ?_)
 refine RW.v ?_
 refine RW.len (by kernel_rfl) (by kernel_rfl) rfl rfl rfl rfl (h1.len (e := 9) (by kernel_rfl)) (by kernel_rfl) ?_
 refine RW.v ?_
 refine RW.len (by kernel_rfl) (by kernel_rfl) rfl rfl rfl rfl (h2.len (e := 9) (by kernel_rfl)) (by kernel_rfl) ?_
 refine RW.v ?_
 refine RW.nil ?_
 refine W.rg [(0, v1), (1, v2), (10, .bool ((l.length : Int) != (m.length : Int)))] fun TA => ?_
 refine W.cond rfl (fun hc1 => ?_) (fun hc1 => ?_)
 ·have hc1b := hc1
  have hc1 := bne_iff_ne.1 hc1
  refine W.seq (W.region ?_)
  refine RW.v ?_
  refine RW.nil ?_
  refine W.ret ?_
  refine seqQ_ret ?_
  refine endG (by rfl) (by exact resL_tmp rfl) ?_
  have es : decide (l = m) = false := decide_eq_false (fun h => by have := congrArg List.length h; omega)
  rw [es]
  exact ⟨rfl, H⟩
 ·have hc1b := hc1
  have hc1 := (bne_eq_false_iff_eq.1) hc1
  refine W.skip ?_
  refine W.seq ?_
  refine W.seq (W.region ?_)
  refine RW.v ?_
  refine RW.nil ?_
  refine W.rg [(0, v1), (1, v2), (5, .int .i64 0)] fun TA => ?_
  refine W.block ?_
  refine W.loop (fun mm ta σ => ∃ (i : Nat), (mm + i = l.length) ∧ ((l = m) ↔ (l.drop i = m.drop i)) ∧ Lies G A F σ ((L)) ∧ ta 0 = v1 ∧ ta 1 = v2 ∧ ta 5 = .int .i64 ((i : Nat) : Int)) l.length ?_ ?_
  ·exact ⟨0, (by omega), (by simp), H, rfl, rfl, rfl⟩
  clear H
  rintro mm ta _ ⟨i, hm, hT, H, e0, e1, e5⟩
  refine W.rst [(0, v1), (1, v2), (5, .int .i64 ((i : Nat) : Int))] ⟨e0, e1, e5, trivial⟩ fun TA => ?_
  clear e0 e1 e5
  refine W.seq ?_
  refine W.seq (W.region ?_)
  iterate 2 refine RW.v ?_
  refine RW.len (by kernel_rfl) (by kernel_rfl) rfl rfl rfl rfl (h1.len (e := 9) (by kernel_rfl)) (by kernel_rfl) ?_
  refine RW.v ?_
  refine RW.nil ?_
  refine W.rg [(0, v1), (1, v2), (5, .int .i64 ((i : Nat) : Int)), (14, .bool (decide (((i : Nat) : Int) < (l.length : Int))))] fun TA => ?_
  refine W.cond rfl (fun hc2 => ?_) (fun hc2 => ?_)
  ·have hc2b := hc2
   have hc2 := of_decide_eq_true hc2
   have hil : i < l.length := by omega
   have hil2 : i < m.length := by omega
   refine W.skip ?_
   refine W.seq ?_
   refine W.block ?_
   refine W.seq ?_
   refine W.drawn (by kernel_rfl) (by kernel_rfl) H.gn ?_
   have H3 := H
   iterate 2 refine RW.v ?_
   refine RW.idxF h1 (by kernel_rfl) (by kernel_rfl) rfl Tryd.underlying22 (by kernel_rfl) rfl rfl ⟨by omega, by omega⟩ (by kernel_rfl) ?_
   intro b4 q5 r6 hF7 hE8
   rw [strs_at (l := l) (j := i) (i := ((i : Nat) : Int)) (by omega) (by omega)] at hE8
   refine RW.loads 1 (by kernel_rfl) (by kernel_rfl) rfl rfl (H3.old _ _ hF7) hE8 rfl (by kernel_rfl) ?_
   iterate 2 refine RW.v ?_
   refine RW.idxF h2 (by kernel_rfl) (by kernel_rfl) rfl Tryd.underlying22 (by kernel_rfl) rfl rfl ⟨by omega, by omega⟩ (by kernel_rfl) ?_
   intro b9 q10 r11 hF12 hE13
   rw [strs_at (l := m) (j := i) (i := ((i : Nat) : Int)) (by omega) (by omega)] at hE13
   refine RW.loads 1 (by kernel_rfl) (by kernel_rfl) rfl rfl (H3.old _ _ hF12) hE13 rfl (by kernel_rfl) ?_
   refine RW.vop (v := .bool ((l.getD i []) != (m.getD i []))) (by kernel_rfl) (by kernel_rfl) (vop_sNe rfl rfl rfl rfl) (by kernel_rfl) ?_
   refine RW.nil ?_
   refine ⟨⟨by kernel_rfl, ⟨trivial, trivial, trivial, dyn_row (H3.old _ _ hF7) (H3.old _ _ hF7) ⟨fun h => Bool.noConfusion h, fun h => Bool.noConfusion h, fun h => Bool.noConfusion h, fun h => Bool.noConfusion h, fun h => Bool.noConfusion h, fun h => Bool.noConfusion h, fun h => Bool.noConfusion h, fun h => Bool.noConfusion h, fun h => Bool.noConfusion h, trivial⟩, trivial, trivial, trivial, dyn_row (H3.old _ _ hF12) (H3.old _ _ hF12) ⟨fun h => Bool.noConfusion h, fun h => Bool.noConfusion h, fun h => Bool.noConfusion h, fun h => Bool.noConfusion h, fun h => Bool.noConfusion h, fun h => Bool.noConfusion h, fun h => Bool.noConfusion h, fun h => Bool.noConfusion h, fun h => Bool.noConfusion h, trivial⟩, trivial, trivial⟩⟩, ?_⟩
   replace H := H3
   clear H3
   refine W.rg [(0, v1), (1, v2), (5, .int .i64 ((i : Nat) : Int)), (25, .bool ((l.getD i []) != (m.getD i [])))] fun TA => ?_
   refine W.cond rfl (fun hc14 => ?_) (fun hc14 => ?_)
   ·have hc14b := hc14
    have hc14 := bne_iff_ne.1 hc14
    refine W.seq (W.region ?_)
    refine RW.v ?_
    refine RW.nil ?_
    refine W.ret ?_
    refine blkQ_ret ?_
    refine seqQ_ret ?_
    refine rndQ_ret ?_
    refine blkQ_ret ?_
    refine seqQ_ret ?_
    refine endG (by rfl) (by exact resL_tmp rfl) ?_
    have es : decide (l = m) = false := decide_eq_false (fun h => same_stop hil hil2 hc14 (hT.1 h))
    rw [es]
    exact ⟨rfl, H⟩
   ·have hc14b := hc14
    have hc14 := (bne_eq_false_iff_eq.1) hc14
    refine W.skip ?_
    refine blkQ_normal ?_
    refine W.region ?_
    refine RW.v ?_
    refine RW.valE (v' := .int .i64 (((i : Nat) : Int) + 1)) (by kernel_rfl) (by kernel_rfl) rfl (congrArg (Value.int .i64) (wrap_in (by omega) (by omega))) (by kernel_rfl) ?_
    refine RW.v ?_
    refine RW.nil ?_
    exact ⟨rfl, mm - 1, by omega, i + 1, (by omega), (by rw [hT, same_go hil hil2 hc14]), H, rfl, rfl, rfl⟩
  ·have hc2b := hc2
   have hc2 := of_decide_eq_false hc2
   refine W.exit _ ?_
   refine seqQ_exit ?_
   refine rndQ_exit ?_
   refine blkQ_here ?_
   refine W.seq (W.region ?_)
   refine RW.v ?_
   refine RW.nil ?_
   refine W.ret ?_
   refine endG (by rfl) (by exact resL_tmp rfl) ?_
   have es : decide (l = m) = true := decide_eq_true (hT.2 (by rw [List.drop_eq_nil_of_le (by omega), List.drop_eq_nil_of_le (by omega)]))
   rw [es]
   exact ⟨rfl, H⟩
end
end Go.Proofs.YtjcmdifpkafdkaaDoor
namespace Go.Proofs.YtjcmdifpkafdkaaDoor
open Go.Lib
set_option maxRecDepth 100000
set_option maxHeartbeats 16000000 in
theorem extends_law {G : Nat} {σ0 : Mem} {v1 : Value} {l : List (List UInt8)} {s : List UInt8} {fold : Bool} (hG : G ≤ σ0.next) (hno : σ0.abs = Abs.no) (h16 : 16 ≤ G) (hU : U8F σ0.get) (CK : ∀ σ', (∀ b y, σ0.get b = some y → σ'.get b = some y) → SCall G Tryd.prog 6 #[] σ' (.bool true) σ') (hl0 : l.length ≤ 9223372036854775807) (h1 : SlF σ0.get 1 v1 l.length (l.map strV)) :
  WC G Tryd.prog 9 #[v1, .string ⟨s.toArray⟩, .bool fold] σ0 fun v _ => v = .bool true := by
 have H := Lies.start hG hno
 generalize σ0.get = F0 at H h1 hU CK
 obtain ⟨F, hF⟩ : ∃ F, F = F0 := ⟨_, rfl⟩
 have le0 : Le F0 F := fun b y h => hF ▸ h
 rw [← hF] at H
 clear hF
 refine WC.enter (fn := Tryd.f9) Tryd.func9 rfl ?_
 refine W.rg [(0, v1), (1, .string ⟨s.toArray⟩), (2, .bool fold)] fun TA => ?_
 refine W.seq (W.region ?_)
 refine RW.v ?_
 refine RW.nil ?_
 refine W.rg [(0, v1), (1, .string ⟨s.toArray⟩), (2, .bool fold)] fun TA => ?_
 refine W.seq (W.region ?_)
 refine RW.cl ?_
 refine ⟨_, _, (CK _ fun b y h => H.old _ _ (le0 b y h)), ?_⟩
 refine RW.v ?_
 refine RW.nil ?_
 refine W.rg [(0, v1), (1, .string ⟨s.toArray⟩), (2, .bool fold), (7, .bool true)] fun TA => ?_
 refine W.seq ?_
 refine W.seq (W.region ?_)
 iterate 2 refine RW.v ?_
 refine RW.cl ?_
 refine ((light_wc (h1.le le0) hl0 H).mono ?_)
 clear H
 rintro _ _ ⟨lb, rfl, hlb, H⟩
 refine RW.v ?_
 refine RW.nil ?_
 refine W.rg [(0, v1), (1, .string ⟨s.toArray⟩), (2, .bool fold), (7, .bool true), (19, .bool (!lb))] fun TA => ?_
 refine W.cond rfl (fun hc1 => ?_) (fun hc1 => ?_)
 ·have hc1b := hc1
  refine W.seq (W.region ?_)
  iterate 2 refine RW.v ?_
  refine RW.nil ?_
  refine W.ret ?_
  refine seqQ_ret ?_
  refine endG (by rfl) (by exact resL_tmp rfl) ?_
  exact rfl
 ·have hc1b := hc1
  obtain ⟨hl40, hx60, hs60⟩ := hlb (by simpa using hc1b)
  have hl : l.length ≤ 1000000 := by omega
  have hsm : ∀ x ∈ l, x.length ≤ 1000000 := fun x hx => Nat.le_trans (hx60 x hx) (by decide)
  have hs : s.length ≤ 1000000 := by omega
  refine W.skip ?_
  refine W.seq (W.region ?_)
  iterate 3 refine RW.v ?_
  refine RW.cl ?_
  refine ((Try_wc (fold := fold) (hU.le le0) h16 (h1.le le0) hl hsm hs H).mono ?_)
  clear H
  rintro _ _ ⟨rfl, H⟩
  obtain ⟨t, ht⟩ : ∃ t, t = tryC fold l s := ⟨_, rfl⟩
  obtain ⟨n, hn⟩ : ∃ n, n = statusC fold (allC fold l s) s := ⟨_, rfl⟩
  rw [← ht, ← hn]
  iterate 5 refine RW.v ?_
  refine RW.nil ?_
  refine W.rg [(0, v1), (1, .string ⟨s.toArray⟩), (2, .bool fold), (7, .bool true), (8, .string ⟨t.toArray⟩), (9, .int .i64 n)] fun TA => ?_
  refine W.seq (W.region ?_)
  iterate 3 refine RW.v ?_
  refine RW.cl ?_
  refine ((All_wc (fold := fold) (hU.le le0) h16 (h1.le le0) hl hsm hs H).mono ?_)
  clear H
  rintro u1 _ ⟨F, le, hm1, H⟩
  replace le0 := fun b y h => le b y (le0 b y h)
  obtain ⟨M, hM⟩ : ∃ M, M = allC fold l s := ⟨_, rfl⟩
  rw [← hM] at hm1
  have hMl : M.length ≤ 1000000 := by rw [hM]; exact Nat.le_trans allC_len hl
  have hMm : ∀ x ∈ M, x.length ≤ 1000000 := fun x hx => hsm x (allC_good.1 x (by rw [← hM]; exact hx)).2
  refine RW.v ?_
  refine RW.nil ?_
  refine W.rg [(0, v1), (1, .string ⟨s.toArray⟩), (2, .bool fold), (7, .bool true), (8, .string ⟨t.toArray⟩), (9, .int .i64 n), (10, u1)] fun TA => ?_
  refine W.seq ?_
  refine W.seq (W.region ?_)
  iterate 2 refine RW.v ?_
  refine RW.nil ?_
  refine W.rg [(0, v1), (1, .string ⟨s.toArray⟩), (2, .bool fold), (7, .bool true), (8, .string ⟨t.toArray⟩), (9, .int .i64 n), (10, u1), (33, .bool (n == 0))] fun TA => ?_
  refine W.cond rfl (fun hc2 => ?_) (fun hc2 => ?_)
  ·have hc2b := hc2
   have hc2 := eq_of_beq hc2
   have hM0 : M = [] := by rw [hM]; exact status_nil.1 (by rw [← hn]; exact hc2)
   have ht0 : t = [] := by rw [ht]; unfold tryC; rw [← hM, hM0]; rfl
   have hMz : M.length = 0 := by rw [hM0]; rfl
   refine W.seq (W.region ?_)
   iterate 2 refine RW.v ?_
   refine RW.val (by rfl) (by kernel_rfl) rfl (by kernel_rfl) ?_
   refine RW.vop (v := .bool true) (by rfl) (by kernel_rfl) (vop_sEq rfl rfl rfl (by rw [ht0]; rfl)) (by kernel_rfl) ?_
   iterate 2 refine RW.v ?_
   refine RW.val (by rfl) (by kernel_rfl) rfl (by kernel_rfl) ?_
   refine RW.len (by rfl) (by kernel_rfl) rfl rfl rfl rfl (hm1.len (e := 9) (by kernel_rfl)) (by kernel_rfl) ?_
   refine RW.valE (v' := .bool true) (by rfl) (by kernel_rfl) rfl (congrArg Value.bool (beq_iff_eq.2 (by omega))) (by kernel_rfl) ?_
   iterate 2 refine RW.v ?_
   refine RW.nil ?_
   refine W.ret ?_
   refine seqQ_ret ?_
   refine endG (by rfl) (by exact resL_tmp rfl) ?_
   exact rfl
  ·have hc2b := hc2
   have hc2 := ne_of_beq_false hc2
   have hne : allC fold l s ≠ [] := fun e => hc2 (by rw [hn]; exact status_nil.2 e)
   obtain ⟨x, N, E⟩ := ext_ok hne
   have hMp : 0 < M.length := by rw [hM]; exact List.length_pos_iff.2 hne
   have htl : t.length ≤ 1000000 := by rw [ht]; exact tryC_len hsm
   have hrl := runes_le t
   have hone := E.one
   have hsame := E.same
   have hagain := E.again
   have hvt := E.vt
   rw [← ht] at hone hsame hagain hvt
   rw [← hM] at hsame hagain
   have hvs := ext_valid hne
   have hv0 : validD (M.getD 0 []) = true := by rw [hM, E.head]; exact E.vx
   have hrt : (runes t).length = N ∧ N ≤ (runes (M.getD 0 [])).length := by rw [hM, E.head]; refine ⟨?_, E.len⟩; have h1 := E.rt; rw [← ht] at h1; rw [h1, List.length_take]; have := E.len; omega
   have htest := ext_test hne
   rw [← hn] at htest
   refine W.skip ?_
   refine W.seq ?_
   refine W.seq (W.region ?_)
   refine RW.v ?_
   refine RW.len (by kernel_rfl) (by kernel_rfl) rfl rfl rfl rfl (hm1.len (e := 9) (by kernel_rfl)) (by kernel_rfl) ?_
   refine RW.valE (v' := .bool false) (by kernel_rfl) (by kernel_rfl) rfl (congrArg Value.bool (beq_eq_false_iff_ne.2 (by omega))) (by kernel_rfl) ?_
   refine RW.v ?_
   refine RW.val (by rfl) (by kernel_rfl) rfl (by kernel_rfl) ?_
   refine RW.mkL H (x := .row ⟨[.string ⟨t.toArray⟩], 9, false⟩) (fm := fun b => .slice (some ⟨b, 0, none⟩) 1 1) (by rfl) (by kernel_rfl) (by kernel_rfl) (by kernel_rfl) ?_
   clear H; intro _ b3 _ H
   refine RW.val (by rfl) (by kernel_rfl) rfl (by kernel_rfl) ?_
   refine RW.val (by rfl) (by kernel_rfl) rfl (by kernel_rfl) ?_
   obtain ⟨F, le, hq1, H⟩ := H.freeze 0 rfl
   dsimp only [setL, delL] at H
   replace le0 := fun b y h => le b y (le0 b y h)
   replace hm1 := hm1.le le
   have ha1 : SlF F 1 (.slice (some ⟨b3, 0, none⟩) 1 1) ([t] : List (List UInt8)).length (([t] : List (List UInt8)).map strV) := .some hq1 rfl rfl
   refine RW.cl (hw := by rfl) ?_
   refine ((All_wc (fold := fold) (hU.le le0) h16 ha1 (show ([t] : List (List UInt8)).length ≤ 1000000 by simp) (fun x hx => by rw [List.mem_singleton.1 hx]; exact htl) hs H).mono ?_)
   clear H
   rintro u2 _ ⟨F, le, hm2, H⟩
   replace le0 := fun b y h => le b y (le0 b y h)
   replace hm1 := hm1.le le
   rw [hone] at hm2
   refine RW.len (by rfl) (by kernel_rfl) rfl rfl rfl rfl (hm2.len (e := 9) (by kernel_rfl)) (by kernel_rfl) ?_
   refine RW.valE (v' := .bool false) (by rfl) (by kernel_rfl) rfl (congrArg Value.bool (bne_eq_false_iff_eq.2 (by rfl))) (by kernel_rfl) ?_
   iterate 2 refine RW.v ?_
   refine RW.val (by rfl) (by kernel_rfl) rfl (by kernel_rfl) ?_
   refine RW.val (by rfl) (by kernel_rfl) rfl (by kernel_rfl) ?_
   refine RW.val (by rfl) (by kernel_rfl) rfl (by kernel_rfl) ?_
   refine RW.cl (hw := by rfl) ?_
   refine ((All_wc (fold := fold) (hU.le le0) h16 (h1.le le0) hl hsm htl H).mono ?_)
   clear H
   rintro u3 _ ⟨F, le, hm3, H⟩
   replace le0 := fun b y h => le b y (le0 b y h)
   replace hm1 := hm1.le le
   rw [hsame] at hm3
   refine RW.val (by rfl) (by kernel_rfl) rfl (by kernel_rfl) ?_
   refine RW.cl (hw := by rfl) ?_
   refine ((same_wcS hm3 hm1 hMl H).mono ?_)
   clear H
   rintro _ _ ⟨rfl, H⟩
   rw [decide_eq_true (rfl : M = M)]
   refine RW.val (by rfl) (by kernel_rfl) rfl (by kernel_rfl) ?_
   iterate 2 refine RW.v ?_
   refine RW.val (by rfl) (by kernel_rfl) rfl (by kernel_rfl) ?_
   refine RW.val (by rfl) (by kernel_rfl) rfl (by kernel_rfl) ?_
   refine RW.val (by rfl) (by kernel_rfl) rfl (by kernel_rfl) ?_
   refine RW.cl (hw := by rfl) ?_
   refine ((All_wc (fold := fold) (hU.le le0) h16 hm1 hMl hMm htl H).mono ?_)
   clear H
   rintro u4 _ ⟨F, le, hm4, H⟩
   replace le0 := fun b y h => le b y (le0 b y h)
   replace hm1 := hm1.le le
   rw [hagain] at hm4
   refine RW.val (by rfl) (by kernel_rfl) rfl (by kernel_rfl) ?_
   refine RW.cl (hw := by rfl) ?_
   refine ((same_wcS hm4 hm1 hMl H).mono ?_)
   clear H
   rintro _ _ ⟨rfl, H⟩
   rw [decide_eq_true (rfl : M = M)]
   refine RW.val (by rfl) (by kernel_rfl) rfl (by kernel_rfl) ?_
   refine RW.v ?_
   refine RW.nil ?_
   refine W.c0 ?_
   refine W.skip ?_
   refine W.seq (W.region ?_)
   refine RW.v ?_
   refine RW.cl ?_
   refine ⟨_, _, (s_len (hU.le (fun b y h => H.old _ _ (le0 b y h))) h16 htl hvt), ?_⟩
   refine RW.v ?_
   refine RW.nil ?_
   refine W.rg [(0, v1), (1, .string ⟨s.toArray⟩), (2, .bool fold), (7, .bool true), (9, .int .i64 n), (10, u1), (11, .int .i64 (((runes t).length : Nat) : Int))] fun TA => ?_
   refine W.seq ?_
   refine W.seq (W.region ?_)
   iterate 2 refine RW.v ?_
   refine RW.idxF hm1 (by kernel_rfl) (by kernel_rfl) rfl Tryd.underlying22 (by kernel_rfl) rfl rfl ⟨by omega, by omega⟩ (by kernel_rfl) ?_
   intro b4 q5 r6 hF7 hE8
   rw [strs_at (l := M) (j := 0) (i := 0) (by omega) (by omega)] at hE8
   refine RW.loads 1 (by kernel_rfl) (by kernel_rfl) rfl rfl (H.old _ _ hF7) hE8 rfl (by kernel_rfl) ?_
   refine RW.cl ?_
   refine ⟨_, _, (s_len (hU.le (fun b y h => H.old _ _ (le0 b y h))) h16 (hMm _ (mem_of (by omega))) hv0), ?_⟩
   refine RW.v ?_
   refine RW.nil ?_
   refine W.rg [(0, v1), (1, .string ⟨s.toArray⟩), (2, .bool fold), (7, .bool true), (9, .int .i64 n), (10, u1), (11, .int .i64 (((runes t).length : Nat) : Int)), (81, .bool (decide ((((runes t).length : Nat) : Int) < (((runes (M.getD 0 [])).length : Nat) : Int))))] fun TA => ?_
   refine W.cond rfl (fun hc9 => ?_) (fun hc9 => ?_)
   ·have hc9b := hc9
    have hc9 := of_decide_eq_true hc9
    have hmore := E.more (by have := hrt.1; have := hrt.2; rw [hM, E.head] at *; omega)
    rw [← hM, ← E.head, ← hM, ← hrt.1] at hmore
    have hgl : (encA ((runes (M.getD 0 [])).take ((runes t).length + 1))).length ≤ 1000000 := Nat.le_trans (encA_take_len rfl hv0 _) (hMm _ (mem_of (by omega)))
    refine W.seq (W.region ?_)
    refine RW.v ?_
    refine RW.idxF hm1 (by kernel_rfl) (by kernel_rfl) rfl Tryd.underlying22 (by kernel_rfl) rfl rfl ⟨by omega, by omega⟩ (by kernel_rfl) ?_
    intro b10 q11 r12 hF13 hE14
    rw [strs_at (l := M) (j := 0) (i := 0) (by omega) (by omega)] at hE14
    refine RW.loads 1 (by kernel_rfl) (by kernel_rfl) rfl rfl (H.old _ _ hF13) hE14 rfl (by kernel_rfl) ?_
    refine RW.v ?_
    refine RW.valE (v' := .int .i64 ((((runes t).length : Nat) : Int) + 1)) (by kernel_rfl) (by kernel_rfl) rfl (congrArg (Value.int .i64) (wrap_in (by omega) (by omega))) (by kernel_rfl) ?_
    refine RW.cl ?_
    refine ⟨_, _, (s_cut (bs := (M.getD 0 [])) (k := (runes t).length + 1) (hU.le (fun b y h => H.old _ _ (le0 b y h))) h16 (hMm _ (mem_of (by omega))) hv0 (by omega)), ?_⟩
    iterate 5 refine RW.v ?_
    refine RW.nil ?_
    refine W.rg [(0, v1), (1, .string ⟨s.toArray⟩), (2, .bool fold), (7, .bool true), (9, .int .i64 n), (10, u1), (12, .string ⟨(encA ((runes (M.getD 0 [])).take ((runes t).length + 1))).toArray⟩), (13, .int .i64 0)] fun TA => ?_
    refine W.seq (W.region ?_)
    iterate 3 refine RW.v ?_
    refine RW.val (by rfl) (by kernel_rfl) rfl (by kernel_rfl) ?_
    refine RW.val (by rfl) (by kernel_rfl) rfl (by kernel_rfl) ?_
    refine RW.val (by rfl) (by kernel_rfl) rfl (by kernel_rfl) ?_
    refine RW.cl (hw := by rfl) ?_
    refine ((All_wc (fold := fold) (hU.le le0) h16 hm1 hMl hMm hgl H).mono ?_)
    clear H
    rintro u5 _ ⟨F, le, hm5, H⟩
    replace le0 := fun b y h => le b y (le0 b y h)
    replace hm1 := hm1.le le
    obtain ⟨Z, hZ⟩ : ∃ Z, Z = allC fold M (encA ((runes (M.getD 0 [])).take ((runes t).length + 1))) := ⟨_, rfl⟩
    rw [← hZ] at hm5
    rw [← hZ] at hmore
    have hZl : Z.length ≤ 1000000 := by rw [hZ]; exact Nat.le_trans allC_len hMl
    refine RW.val (by rfl) (by kernel_rfl) rfl (by kernel_rfl) ?_
    refine RW.cl (hw := by rfl) ?_
    refine ((same_wcS hm5 hm1 hZl H).mono ?_)
    clear H
    rintro _ _ ⟨rfl, H⟩
    rw [decide_eq_false hmore]
    refine RW.v ?_
    refine RW.nil ?_
    refine W.c0 ?_
    refine W.skip ?_
    refine W.seq (W.region ?_)
    refine RW.v ?_
    refine RW.len (by kernel_rfl) (by kernel_rfl) rfl rfl rfl rfl (hm1.len (e := 9) (by kernel_rfl)) (by kernel_rfl) ?_
    iterate 2 refine RW.v ?_
    refine RW.both _ _ rfl rfl rfl (fun hc15 => ?_) (fun hc15 => ?_)
    ·have hc15b := hc15
     have hc15 := eq_of_beq hc15
     have hsl : (n == 1) = ((((runes (M.getD 0 [])).length : Nat) : Int) == (((runes s).length : Nat) : Int)) := by rw [hn, hM]; exact ext_sole hne (by rw [← hM]; omega)
     refine RW.val (by rfl) (by kernel_rfl) rfl (by kernel_rfl) ?_
     refine RW.idxF hm1 (by rfl) (by kernel_rfl) rfl Tryd.underlying22 (by kernel_rfl) rfl rfl ⟨by omega, by omega⟩ (by kernel_rfl) ?_
     intro b16 q17 r18 hF19 hE20
     rw [strs_at (l := M) (j := 0) (i := 0) (by omega) (by omega)] at hE20
     refine RW.loads 1 (by rfl) (by kernel_rfl) rfl rfl (H.old _ _ hF19) hE20 rfl (by kernel_rfl) ?_
     refine RW.cl (hw := by rfl) ?_
     refine ⟨_, _, (s_len (hU.le (fun b y h => H.old _ _ (le0 b y h))) h16 (hMm _ (mem_of (by omega))) hv0), ?_⟩
     refine RW.val (by rfl) (by kernel_rfl) rfl (by kernel_rfl) ?_
     refine RW.cl (hw := by rfl) ?_
     refine ⟨_, _, (s_len (hU.le (fun b y h => H.old _ _ (le0 b y h))) h16 hs hvs), ?_⟩
     refine RW.val (by rfl) (by kernel_rfl) rfl (by kernel_rfl) ?_
     iterate 2 refine RW.v ?_
     refine RW.nil ?_
     refine W.rg [(0, v1), (1, .string ⟨s.toArray⟩), (2, .bool fold), (7, .bool true), (9, .int .i64 n), (14, .bool ((((runes (M.getD 0 [])).length : Nat) : Int) == (((runes s).length : Nat) : Int)))] fun TA => ?_
     refine W.seq (W.region ?_)
     iterate 2 refine RW.v ?_
     refine RW.val (by rfl) (by kernel_rfl) rfl (by kernel_rfl) ?_
     refine RW.val (by rfl) (by kernel_rfl) rfl (by kernel_rfl) ?_
     refine RW.val (by rfl) (by kernel_rfl) rfl (by kernel_rfl) ?_
     refine RW.valE (v' := .bool true) (by rfl) (by kernel_rfl) rfl (congrArg Value.bool (beq_iff_eq.2 hsl)) (by kernel_rfl) ?_
     iterate 2 refine RW.v ?_
     refine RW.val (by rfl) (by kernel_rfl) rfl (by kernel_rfl) ?_
     refine RW.val (by rfl) (by kernel_rfl) rfl (by kernel_rfl) ?_
     refine RW.val (by rfl) (by kernel_rfl) rfl (by kernel_rfl) ?_
     refine RW.both _ _ rfl rfl rfl (fun hc21 => ?_) (fun hc21 => ?_)
     ·have hc21b := hc21
      have hc21 := eq_of_beq hc21
      have htt : (true == (n == 1 || n == 2)) = true := by rw [hc21b]; rfl
      refine RW.skip (by rfl) (by kernel_rfl) ?_
      refine RW.skip (by rfl) (by kernel_rfl) ?_
      refine RW.val (by rfl) (by kernel_rfl) rfl (by kernel_rfl) ?_
      refine RW.val (by rfl) (by kernel_rfl) rfl (by kernel_rfl) ?_
      refine RW.val (by rfl) (by kernel_rfl) rfl (by kernel_rfl) ?_
      refine RW.val (by rfl) (by kernel_rfl) rfl (by kernel_rfl) ?_
      refine RW.cl (hw := by rfl) ?_
      refine ((Test_wc (fold := fold) (hU.le le0) h16 (h1.le le0) hl hsm hs H).mono ?_)
      clear H
      rintro _ _ ⟨rfl, H⟩
      rw [htest]
      refine RW.valE (v' := .bool true) (by rfl) (by kernel_rfl) rfl (congrArg Value.bool (htt)) (by kernel_rfl) ?_
      iterate 2 refine RW.v ?_
      refine RW.nil ?_
      refine W.ret ?_
      refine endG (by rfl) (by exact resL_tmp rfl) ?_
      exact rfl
     ·have hc21b := hc21
      have hc21 := ne_of_beq_false hc21
      have htt : ((n == 2) == (n == 1 || n == 2)) = true := by rw [hc21b, Bool.false_or]; exact beq_self_eq_true _
      refine RW.val (by rfl) (by kernel_rfl) rfl (by kernel_rfl) ?_
      refine RW.val (by rfl) (by kernel_rfl) rfl (by kernel_rfl) ?_
      refine RW.val (by rfl) (by kernel_rfl) rfl (by kernel_rfl) ?_
      refine RW.val (by rfl) (by kernel_rfl) rfl (by kernel_rfl) ?_
      refine RW.val (by rfl) (by kernel_rfl) rfl (by kernel_rfl) ?_
      refine RW.val (by rfl) (by kernel_rfl) rfl (by kernel_rfl) ?_
      refine RW.cl (hw := by rfl) ?_
      refine ((Test_wc (fold := fold) (hU.le le0) h16 (h1.le le0) hl hsm hs H).mono ?_)
      clear H
      rintro _ _ ⟨rfl, H⟩
      rw [htest]
      refine RW.valE (v' := .bool true) (by rfl) (by kernel_rfl) rfl (congrArg Value.bool (htt)) (by kernel_rfl) ?_
      iterate 2 refine RW.v ?_
      refine RW.nil ?_
      refine W.ret ?_
      refine endG (by rfl) (by exact resL_tmp rfl) ?_
      exact rfl
    ·have hc15b := hc15
     have hc15 := ne_of_beq_false hc15
     have hsl : (n == 1) = false := by rw [hn]; exact ext_many (by rw [← hM]; omega)
     refine RW.skip (by rfl) (by kernel_rfl) ?_
     refine RW.skip (by rfl) (by kernel_rfl) ?_
     refine RW.skip (by rfl) (by kernel_rfl) ?_
     refine RW.skip (by rfl) (by kernel_rfl) ?_
     refine RW.skip (by rfl) (by kernel_rfl) ?_
     refine RW.skip (by rfl) (by kernel_rfl) ?_
     refine RW.skip (by rfl) (by kernel_rfl) ?_
     iterate 2 refine RW.v ?_
     refine RW.nil ?_
     refine W.rg [(0, v1), (1, .string ⟨s.toArray⟩), (2, .bool fold), (7, .bool true), (9, .int .i64 n), (14, .bool false)] fun TA => ?_
     refine W.seq (W.region ?_)
     iterate 2 refine RW.v ?_
     refine RW.val (by rfl) (by kernel_rfl) rfl (by kernel_rfl) ?_
     refine RW.val (by rfl) (by kernel_rfl) rfl (by kernel_rfl) ?_
     refine RW.val (by rfl) (by kernel_rfl) rfl (by kernel_rfl) ?_
     refine RW.valE (v' := .bool true) (by rfl) (by kernel_rfl) rfl (congrArg Value.bool (beq_iff_eq.2 hsl)) (by kernel_rfl) ?_
     iterate 2 refine RW.v ?_
     refine RW.val (by rfl) (by kernel_rfl) rfl (by kernel_rfl) ?_
     refine RW.val (by rfl) (by kernel_rfl) rfl (by kernel_rfl) ?_
     refine RW.val (by rfl) (by kernel_rfl) rfl (by kernel_rfl) ?_
     refine RW.both _ _ rfl rfl rfl (fun hc22 => ?_) (fun hc22 => ?_)
     ·have hc22b := hc22
      have hc22 := eq_of_beq hc22
      have htt : (true == (n == 1 || n == 2)) = true := by rw [hc22b]; rfl
      refine RW.skip (by rfl) (by kernel_rfl) ?_
      refine RW.skip (by rfl) (by kernel_rfl) ?_
      refine RW.val (by rfl) (by kernel_rfl) rfl (by kernel_rfl) ?_
      refine RW.val (by rfl) (by kernel_rfl) rfl (by kernel_rfl) ?_
      refine RW.val (by rfl) (by kernel_rfl) rfl (by kernel_rfl) ?_
      refine RW.val (by rfl) (by kernel_rfl) rfl (by kernel_rfl) ?_
      refine RW.cl (hw := by rfl) ?_
      refine ((Test_wc (fold := fold) (hU.le le0) h16 (h1.le le0) hl hsm hs H).mono ?_)
      clear H
      rintro _ _ ⟨rfl, H⟩
      rw [htest]
      refine RW.valE (v' := .bool true) (by rfl) (by kernel_rfl) rfl (congrArg Value.bool (htt)) (by kernel_rfl) ?_
      iterate 2 refine RW.v ?_
      refine RW.nil ?_
      refine W.ret ?_
      refine endG (by rfl) (by exact resL_tmp rfl) ?_
      exact rfl
     ·have hc22b := hc22
      have hc22 := ne_of_beq_false hc22
      have htt : ((n == 2) == (n == 1 || n == 2)) = true := by rw [hc22b, Bool.false_or]; exact beq_self_eq_true _
      refine RW.val (by rfl) (by kernel_rfl) rfl (by kernel_rfl) ?_
      refine RW.val (by rfl) (by kernel_rfl) rfl (by kernel_rfl) ?_
      refine RW.val (by rfl) (by kernel_rfl) rfl (by kernel_rfl) ?_
      refine RW.val (by rfl) (by kernel_rfl) rfl (by kernel_rfl) ?_
      refine RW.val (by rfl) (by kernel_rfl) rfl (by kernel_rfl) ?_
      refine RW.val (by rfl) (by kernel_rfl) rfl (by kernel_rfl) ?_
      refine RW.cl (hw := by rfl) ?_
      refine ((Test_wc (fold := fold) (hU.le le0) h16 (h1.le le0) hl hsm hs H).mono ?_)
      clear H
      rintro _ _ ⟨rfl, H⟩
      rw [htest]
      refine RW.valE (v' := .bool true) (by rfl) (by kernel_rfl) rfl (congrArg Value.bool (htt)) (by kernel_rfl) ?_
      iterate 2 refine RW.v ?_
      refine RW.nil ?_
      refine W.ret ?_
      refine endG (by rfl) (by exact resL_tmp rfl) ?_
      exact rfl
   ·have hc9b := hc9
    have hc9 := of_decide_eq_false hc9
    refine W.skip ?_
    refine W.seq (W.region ?_)
    refine RW.v ?_
    refine RW.len (by kernel_rfl) (by kernel_rfl) rfl rfl rfl rfl (hm1.len (e := 9) (by kernel_rfl)) (by kernel_rfl) ?_
    iterate 2 refine RW.v ?_
    refine RW.both _ _ rfl rfl rfl (fun hc23 => ?_) (fun hc23 => ?_)
    ·have hc23b := hc23
     have hc23 := eq_of_beq hc23
     have hsl : (n == 1) = ((((runes (M.getD 0 [])).length : Nat) : Int) == (((runes s).length : Nat) : Int)) := by rw [hn, hM]; exact ext_sole hne (by rw [← hM]; omega)
     refine RW.val (by rfl) (by kernel_rfl) rfl (by kernel_rfl) ?_
     refine RW.idxF hm1 (by rfl) (by kernel_rfl) rfl Tryd.underlying22 (by kernel_rfl) rfl rfl ⟨by omega, by omega⟩ (by kernel_rfl) ?_
     intro b24 q25 r26 hF27 hE28
     rw [strs_at (l := M) (j := 0) (i := 0) (by omega) (by omega)] at hE28
     refine RW.loads 1 (by rfl) (by kernel_rfl) rfl rfl (H.old _ _ hF27) hE28 rfl (by kernel_rfl) ?_
     refine RW.cl (hw := by rfl) ?_
     refine ⟨_, _, (s_len (hU.le (fun b y h => H.old _ _ (le0 b y h))) h16 (hMm _ (mem_of (by omega))) hv0), ?_⟩
     refine RW.val (by rfl) (by kernel_rfl) rfl (by kernel_rfl) ?_
     refine RW.cl (hw := by rfl) ?_
     refine ⟨_, _, (s_len (hU.le (fun b y h => H.old _ _ (le0 b y h))) h16 hs hvs), ?_⟩
     refine RW.val (by rfl) (by kernel_rfl) rfl (by kernel_rfl) ?_
     iterate 2 refine RW.v ?_
     refine RW.nil ?_
     refine W.rg [(0, v1), (1, .string ⟨s.toArray⟩), (2, .bool fold), (7, .bool true), (9, .int .i64 n), (14, .bool ((((runes (M.getD 0 [])).length : Nat) : Int) == (((runes s).length : Nat) : Int)))] fun TA => ?_
     refine W.seq (W.region ?_)
     iterate 2 refine RW.v ?_
     refine RW.val (by rfl) (by kernel_rfl) rfl (by kernel_rfl) ?_
     refine RW.val (by rfl) (by kernel_rfl) rfl (by kernel_rfl) ?_
     refine RW.val (by rfl) (by kernel_rfl) rfl (by kernel_rfl) ?_
     refine RW.valE (v' := .bool true) (by rfl) (by kernel_rfl) rfl (congrArg Value.bool (beq_iff_eq.2 hsl)) (by kernel_rfl) ?_
     iterate 2 refine RW.v ?_
     refine RW.val (by rfl) (by kernel_rfl) rfl (by kernel_rfl) ?_
     refine RW.val (by rfl) (by kernel_rfl) rfl (by kernel_rfl) ?_
     refine RW.val (by rfl) (by kernel_rfl) rfl (by kernel_rfl) ?_
     refine RW.both _ _ rfl rfl rfl (fun hc29 => ?_) (fun hc29 => ?_)
     ·have hc29b := hc29
      have hc29 := eq_of_beq hc29
      have htt : (true == (n == 1 || n == 2)) = true := by rw [hc29b]; rfl
      refine RW.skip (by rfl) (by kernel_rfl) ?_
      refine RW.skip (by rfl) (by kernel_rfl) ?_
      refine RW.val (by rfl) (by kernel_rfl) rfl (by kernel_rfl) ?_
      refine RW.val (by rfl) (by kernel_rfl) rfl (by kernel_rfl) ?_
      refine RW.val (by rfl) (by kernel_rfl) rfl (by kernel_rfl) ?_
      refine RW.val (by rfl) (by kernel_rfl) rfl (by kernel_rfl) ?_
      refine RW.cl (hw := by rfl) ?_
      refine ((Test_wc (fold := fold) (hU.le le0) h16 (h1.le le0) hl hsm hs H).mono ?_)
      clear H
      rintro _ _ ⟨rfl, H⟩
      rw [htest]
      refine RW.valE (v' := .bool true) (by rfl) (by kernel_rfl) rfl (congrArg Value.bool (htt)) (by kernel_rfl) ?_
      iterate 2 refine RW.v ?_
      refine RW.nil ?_
      refine W.ret ?_
      refine endG (by rfl) (by exact resL_tmp rfl) ?_
      exact rfl
     ·have hc29b := hc29
      have hc29 := ne_of_beq_false hc29
      have htt : ((n == 2) == (n == 1 || n == 2)) = true := by rw [hc29b, Bool.false_or]; exact beq_self_eq_true _
      refine RW.val (by rfl) (by kernel_rfl) rfl (by kernel_rfl) ?_
      refine RW.val (by rfl) (by kernel_rfl) rfl (by kernel_rfl) ?_
      refine RW.val (by rfl) (by kernel_rfl) rfl (by kernel_rfl) ?_
      refine RW.val (by rfl) (by kernel_rfl) rfl (by kernel_rfl) ?_
      refine RW.val (by rfl) (by kernel_rfl) rfl (by kernel_rfl) ?_
      refine RW.val (by rfl) (by kernel_rfl) rfl (by kernel_rfl) ?_
      refine RW.cl (hw := by rfl) ?_
      refine ((Test_wc (fold := fold) (hU.le le0) h16 (h1.le le0) hl hsm hs H).mono ?_)
      clear H
      rintro _ _ ⟨rfl, H⟩
      rw [htest]
      refine RW.valE (v' := .bool true) (by rfl) (by kernel_rfl) rfl (congrArg Value.bool (htt)) (by kernel_rfl) ?_
      iterate 2 refine RW.v ?_
      refine RW.nil ?_
      refine W.ret ?_
      refine endG (by rfl) (by exact resL_tmp rfl) ?_
      exact rfl
    ·have hc23b := hc23
     have hc23 := ne_of_beq_false hc23
     have hsl : (n == 1) = false := by rw [hn]; exact ext_many (by rw [← hM]; omega)
     refine RW.skip (by rfl) (by kernel_rfl) ?_
     refine RW.skip (by rfl) (by kernel_rfl) ?_
     refine RW.skip (by rfl) (by kernel_rfl) ?_
     refine RW.skip (by rfl) (by kernel_rfl) ?_
     refine RW.skip (by rfl) (by kernel_rfl) ?_
     refine RW.skip (by rfl) (by kernel_rfl) ?_
     refine RW.skip (by rfl) (by kernel_rfl) ?_
     iterate 2 refine RW.v ?_
     refine RW.nil ?_
     refine W.rg [(0, v1), (1, .string ⟨s.toArray⟩), (2, .bool fold), (7, .bool true), (9, .int .i64 n), (14, .bool false)] fun TA => ?_
     refine W.seq (W.region ?_)
     iterate 2 refine RW.v ?_
     refine RW.val (by rfl) (by kernel_rfl) rfl (by kernel_rfl) ?_
     refine RW.val (by rfl) (by kernel_rfl) rfl (by kernel_rfl) ?_
     refine RW.val (by rfl) (by kernel_rfl) rfl (by kernel_rfl) ?_
     refine RW.valE (v' := .bool true) (by rfl) (by kernel_rfl) rfl (congrArg Value.bool (beq_iff_eq.2 hsl)) (by kernel_rfl) ?_
     iterate 2 refine RW.v ?_
     refine RW.val (by rfl) (by kernel_rfl) rfl (by kernel_rfl) ?_
     refine RW.val (by rfl) (by kernel_rfl) rfl (by kernel_rfl) ?_
     refine RW.val (by rfl) (by kernel_rfl) rfl (by kernel_rfl) ?_
     refine RW.both _ _ rfl rfl rfl (fun hc30 => ?_) (fun hc30 => ?_)
     ·have hc30b := hc30
      have hc30 := eq_of_beq hc30
      have htt : (true == (n == 1 || n == 2)) = true := by rw [hc30b]; rfl
      refine RW.skip (by rfl) (by kernel_rfl) ?_
      refine RW.skip (by rfl) (by kernel_rfl) ?_
      refine RW.val (by rfl) (by kernel_rfl) rfl (by kernel_rfl) ?_
      refine RW.val (by rfl) (by kernel_rfl) rfl (by kernel_rfl) ?_
      refine RW.val (by rfl) (by kernel_rfl) rfl (by kernel_rfl) ?_
      refine RW.val (by rfl) (by kernel_rfl) rfl (by kernel_rfl) ?_
      refine RW.cl (hw := by rfl) ?_
      refine ((Test_wc (fold := fold) (hU.le le0) h16 (h1.le le0) hl hsm hs H).mono ?_)
      clear H
      rintro _ _ ⟨rfl, H⟩
      rw [htest]
      refine RW.valE (v' := .bool true) (by rfl) (by kernel_rfl) rfl (congrArg Value.bool (htt)) (by kernel_rfl) ?_
      iterate 2 refine RW.v ?_
      refine RW.nil ?_
      refine W.ret ?_
      refine endG (by rfl) (by exact resL_tmp rfl) ?_
      exact rfl
     ·have hc30b := hc30
      have hc30 := ne_of_beq_false hc30
      have htt : ((n == 2) == (n == 1 || n == 2)) = true := by rw [hc30b, Bool.false_or]; exact beq_self_eq_true _
      refine RW.val (by rfl) (by kernel_rfl) rfl (by kernel_rfl) ?_
      refine RW.val (by rfl) (by kernel_rfl) rfl (by kernel_rfl) ?_
      refine RW.val (by rfl) (by kernel_rfl) rfl (by kernel_rfl) ?_
      refine RW.val (by rfl) (by kernel_rfl) rfl (by kernel_rfl) ?_
      refine RW.val (by rfl) (by kernel_rfl) rfl (by kernel_rfl) ?_
      refine RW.val (by rfl) (by kernel_rfl) rfl (by kernel_rfl) ?_
      refine RW.cl (hw := by rfl) ?_
      refine ((Test_wc (fold := fold) (hU.le le0) h16 (h1.le le0) hl hsm hs H).mono ?_)
      clear H
      rintro _ _ ⟨rfl, H⟩
      rw [htest]
      refine RW.valE (v' := .bool true) (by rfl) (by kernel_rfl) rfl (congrArg Value.bool (htt)) (by kernel_rfl) ?_
      iterate 2 refine RW.v ?_
      refine RW.nil ?_
      refine W.ret ?_
      refine endG (by rfl) (by exact resL_tmp rfl) ?_
      exact rfl
end Go.Proofs.YtjcmdifpkafdkaaDoor
