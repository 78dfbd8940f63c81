/-
 The order of strings by their characters is that by their bytes; the recent candidates; what is left. Plain. Conditions: none.
 The reference: Sort. Conditions: none.
 CompleteOrders in the second memory. Conditions: none.
-/
import Derived.Test.YtjcmdifpkafdkaaDoorV4
import Derived.Test.YtjcmdifpkafdkaaDoorW2
import Derived.Test.YtjcmdifpkafdkaaDoorCwg
import Derived.Test.YtjcmdifpkafdkaaDoorC7
import Derived.Test.YtjcmdifpkafdkaaDoorC3
namespace Go.Proofs.YtjcmdifpkafdkaaDoor
open Go.Lib
set_option maxRecDepth 100000
def lexI : List Int → List Int → Bool
 | _, [] => false
 | [], _ :: _ => true
 | a :: x, b :: y => decide (a < b) || (a == b && lexI x y)
theorem lex_iff {a b : Int} {x y : List Int} : lexI (a :: x) (b :: y) = true ↔ a < b ∨ (a = b ∧ lexI x y = true) := by
 rw [lexI, Bool.or_eq_true, Bool.and_eq_true, decide_eq_true_iff, beq_iff_eq]
theorem lex_same : ∀ (e x y : List Int), lexI (e ++ x) (e ++ y) = lexI x y
 | [], _, _ => rfl
 | a :: e, x, y => by
  rw [List.cons_append, List.cons_append, lexI, decide_eq_false (Int.lt_irrefl a), beq_self_eq_true, Bool.false_or, Bool.true_and, lex_same e]
theorem lex_asymm : ∀ {x y : List Int}, lexI x y = true → lexI y x = false
 | [], [], h => by cases h
 | _ :: _, [], h => by cases h
 | [], _ :: _, _ => rfl
 | a :: x, b :: y, h => by
  cases k : lexI (b :: y) (a :: x) with
  | false => rfl
  | true =>
   rw [lex_iff] at h k
   rcases h with h | ⟨h1, h2⟩ <;> rcases k with k | ⟨k1, k2⟩
   ·omega
   ·omega
   ·omega
   ·rw [lex_asymm h2] at k2; cases k2
def byU (x : Int) : UInt8 := x.toNat.toUInt8
theorem less_lex : ∀ {x y : List Int}, (∀ c ∈ x, 0 ≤ c ∧ c < 256) → (∀ c ∈ y, 0 ≤ c ∧ c < 256) → Op.bytesLess (x.map byU) (y.map byU) = lexI x y
 | [], [], _, _ => rfl
 | _ :: _, [], _, _ => rfl
 | [], _ :: _, _, _ => rfl
 | a :: x, b :: y, h, k => by
  have ha := h a (List.mem_cons_self ..)
  have hb := k b (List.mem_cons_self ..)
  have ea : (byU a).toNat = a.toNat := byte_toNat a ha.1 ha.2
  have eb : (byU b).toNat = b.toNat := byte_toNat b hb.1 hb.2
  have ih := less_lex (x := x) (y := y) (fun c hc => h c (List.mem_cons_of_mem _ hc)) fun c hc => k c (List.mem_cons_of_mem _ hc)
  rw [List.map_cons, List.map_cons, Op.bytesLess, lexI, ih]
  have e1 : decide (byU a < byU b) = decide (a < b) := decide_eq_decide.2 (by rw [UInt8.lt_iff_toNat_lt, ea, eb]; omega)
  have e2 : (byU a == byU b) = (a == b) := by
   rw [Bool.eq_iff_iff, beq_iff_eq, beq_iff_eq, ← UInt8.toNat_inj, ea, eb]
   omega
  rw [e1, e2]
theorem enc_less {c d : Int} (hc : chB c = true) (hd : chB d = true) (h : c < d) (s t : List Int) : lexI (encodeRuneZ c ++ s) (encodeRuneZ d ++ t) = true := by
 obtain ⟨c0, c1, c2⟩ := chB_iff.1 hc
 obtain ⟨d0, d1, d2⟩ := chB_iff.1 hd
 have hC : (c ≤ 127 ∧ encodeRuneZ c = [c]) ∨ (128 ≤ c ∧ c ≤ 2047 ∧ encodeRuneZ c = [192 + c / 64, 128 + c % 64]) ∨ (2048 ≤ c ∧ c ≤ 65535 ∧ encodeRuneZ c = [224 + c / 4096, 128 + c / 64 % 64, 128 + c % 64]) ∨ (65536 ≤ c ∧ encodeRuneZ c = [240 + c / 262144, 128 + c / 4096 % 64, 128 + c / 64 % 64, 128 + c % 64]) := by
  by_cases q1 : c ≤ 127
  ·exact .inl ⟨q1, encodeRuneZ_one c0 q1⟩
  ·by_cases q2 : c ≤ 2047
   ·exact .inr (.inl ⟨by omega, q2, encodeRuneZ_two (by omega) q2⟩)
   ·by_cases q3 : c ≤ 65535
    ·exact .inr (.inr (.inl ⟨by omega, q3, encodeRuneZ_three (by omega)⟩))
    ·exact .inr (.inr (.inr ⟨by omega, encodeRuneZ_four (by omega) (by omega)⟩))
 have hD : (d ≤ 127 ∧ encodeRuneZ d = [d]) ∨ (128 ≤ d ∧ d ≤ 2047 ∧ encodeRuneZ d = [192 + d / 64, 128 + d % 64]) ∨ (2048 ≤ d ∧ d ≤ 65535 ∧ encodeRuneZ d = [224 + d / 4096, 128 + d / 64 % 64, 128 + d % 64]) ∨ (65536 ≤ d ∧ encodeRuneZ d = [240 + d / 262144, 128 + d / 4096 % 64, 128 + d / 64 % 64, 128 + d % 64]) := by
  by_cases q1 : d ≤ 127
  ·exact .inl ⟨q1, encodeRuneZ_one d0 q1⟩
  ·by_cases q2 : d ≤ 2047
   ·exact .inr (.inl ⟨by omega, q2, encodeRuneZ_two (by omega) q2⟩)
   ·by_cases q3 : d ≤ 65535
    ·exact .inr (.inr (.inl ⟨by omega, q3, encodeRuneZ_three (by omega)⟩))
    ·exact .inr (.inr (.inr ⟨by omega, encodeRuneZ_four (by omega) (by omega)⟩))
 rcases hC with ⟨a1, e⟩ | ⟨a1, a2, e⟩ | ⟨a1, a2, e⟩ | ⟨a1, e⟩ <;> rcases hD with ⟨b1, f⟩ | ⟨b1, b2, f⟩ | ⟨b1, b2, f⟩ | ⟨b1, f⟩ <;> rw [e, f] <;> simp only [List.cons_append, List.nil_append, lex_iff] <;> omega
theorem encZ_ne (c : Int) : ∃ x l, encodeRuneZ c = x :: l := by
 have := encodeRuneZ_length c
 cases h : encodeRuneZ c with
 | nil => rw [h] at this; simp at this
 | cons x l => exact ⟨x, l, rfl⟩
theorem lex_enc : ∀ {a b : List Int}, (∀ c ∈ a, chB c = true) → (∀ c ∈ b, chB c = true) → lexI (a.flatMap encodeRuneZ) (b.flatMap encodeRuneZ) = lexI a b
 | [], [], _, _ => rfl
 | c :: a, [], _, _ => by
  show lexI _ [] = lexI _ []
  cases a <;> rw [lexI, lexI]
 | [], d :: b, _, _ => by
  obtain ⟨x, l, e⟩ := encZ_ne d
  rw [List.flatMap_cons, e]
  rfl
 | c :: a, d :: b, ha, hb => by
  have hc := ha c (List.mem_cons_self ..)
  have hd := hb d (List.mem_cons_self ..)
  rw [List.flatMap_cons, List.flatMap_cons]
  rcases Int.lt_trichotomy c d with h | rfl | h
  ·rw [enc_less hc hd h, lexI, decide_eq_true h]
   rfl
  ·rw [lex_same, lex_enc (fun x hx => ha x (List.mem_cons_of_mem _ hx)) fun x hx => hb x (List.mem_cons_of_mem _ hx), lexI, decide_eq_false (Int.lt_irrefl c), beq_self_eq_true, Bool.false_or, Bool.true_and]
  ·rw [lex_asymm (enc_less hd hc h _ _), lexI, decide_eq_false (by omega), beq_eq_false_iff_ne.2 (by omega)]
   rfl
theorem encA_flat (a : List Int) : encA a = (a.flatMap encodeRuneZ).map byU := by
 induction a with
 | nil => rfl
 | cons c a ih => rw [encA_cons, ih, List.flatMap_cons, List.map_append]; rfl
theorem less_runes {x y : List UInt8} (hx : validD x = true) (hy : validD y = true) : Op.bytesLess x y = lexI (runes x) (runes y) := by
 have hb : ∀ l : List Int, ∀ c ∈ l.flatMap encodeRuneZ, 0 ≤ c ∧ c < 256 := fun l c hc => by
  obtain ⟨r, _, hr⟩ := List.mem_flatMap.1 hc
  exact encodeRuneZ_byte r c hr
 rw [← lex_enc (runes_chars hx) (runes_chars hy), ← less_lex (hb _) (hb _), ← encA_flat, ← encA_flat, valid_eq hx, valid_eq hy]
def aheadM (a b : List Int) : Bool := if a.length ≠ b.length then decide (a.length < b.length) else lexI a b
theorem ahead_lt {x y : List UInt8} (hx : validD x = true) (hy : validD y = true) : aheadM (runes x) (runes y) = ltS x y := by
 rw [Bool.eq_iff_iff, ltS_iff, less_runes hx hy]
 unfold aheadM
 by_cases h : (runes x).length = (runes y).length
 ·rw [if_neg (fun k => k h)]
  exact ⟨fun k => .inr ⟨h, k⟩, fun k => k.elim (fun k => by omega) fun k => k.2⟩
 ·rw [if_pos h, decide_eq_true_iff]
  exact ⟨.inl, fun k => k.elim id fun k => absurd k.1 h⟩
theorem lex_go {a b : List Int} {i : Nat} (h1 : i < a.length) (h2 : i < b.length) (h : a.getD i 0 = b.getD i 0) : lexI (a.drop i) (b.drop i) = lexI (a.drop (i + 1)) (b.drop (i + 1)) := by
 rw [dropD (d := 0) h1, dropD (d := 0) h2, lexI, h, decide_eq_false (Int.lt_irrefl _), beq_self_eq_true, Bool.false_or, Bool.true_and]
theorem lex_stop {a b : List Int} {i : Nat} (h1 : i < a.length) (h2 : i < b.length) (h : a.getD i 0 ≠ b.getD i 0) : lexI (a.drop i) (b.drop i) = decide (a.getD i 0 < b.getD i 0) := by
 rw [dropD (d := 0) h1, dropD (d := 0) h2, lexI, beq_eq_false_iff_ne.2 h, Bool.false_and, Bool.or_false]
/-! the recent ones -/
def recG (D : List (List UInt8)) : List (List UInt8) → List (List UInt8) → List (List UInt8)
 | acc, [] => acc
 | acc, x :: rc => if x ∈ D ∧ x ∉ acc then recG D (acc ++ [x]) rc else recG D acc rc
theorem rec_dist {D : List (List UInt8)} (hD : ∀ x ∈ D, validD x = true) : ∀ {rc acc seen : List (List UInt8)}, (∀ x ∈ D, x ∈ acc ↔ x ∈ seen) → recG D acc rc = acc ++ (distG seen rc).filter fun x => decide (x ∈ D)
 | [], acc, _, _ => (List.append_nil acc).symm
 | x :: rc, acc, seen, h => by
  unfold recG distG
  by_cases hs : x ∈ seen ∨ validD x = false
  ·rw [if_pos hs, if_neg (fun k => hs.elim (fun e => k.2 ((h x k.1).2 e)) fun e => by rw [hD x k.1] at e; cases e)]
   exact rec_dist hD h
  ·rw [if_neg hs]
   by_cases hx : x ∈ D
   ·rw [if_pos ⟨hx, fun e => hs (.inl ((h x hx).1 e))⟩, List.filter_cons_of_pos (p := fun x => decide (x ∈ D)) (decide_eq_true hx), rec_dist hD (acc := acc ++ [x]) (seen := seen ++ [x]) (fun y hy => by rw [List.mem_append, List.mem_append, h y hy]), List.append_assoc]
    rfl
   ·rw [if_neg (fun k => hx k.1), List.filter_cons_of_neg (p := fun x => decide (x ∈ D)) (by rw [decide_eq_false hx]; exact Bool.noConfusion)]
    refine rec_dist hD fun y hy => ?_
    rw [h y hy, List.mem_append, List.mem_singleton]
    exact ⟨.inl, fun k => k.elim id fun e => absurd (e ▸ hy) hx⟩
theorem rec_go {D acc rc : List (List UInt8)} {i : Nat} (h : i < rc.length) (k : rc.getD i [] ∈ D) (n : rc.getD i [] ∉ acc) : recG D acc (rc.drop i) = recG D (acc ++ [rc.getD i []]) (rc.drop (i + 1)) := by
 rw [dropD (d := []) h]
 conv => lhs; unfold recG
 rw [if_pos ⟨k, n⟩]
theorem rec_skip {D acc rc : List (List UInt8)} {i : Nat} (h : i < rc.length) (k : ¬ (rc.getD i [] ∈ D ∧ rc.getD i [] ∉ acc)) : recG D acc (rc.drop i) = recG D acc (rc.drop (i + 1)) := by
 rw [dropD (d := []) h]
 conv => lhs; unfold recG
 rw [if_neg k]
/-! what is left -/
def vS (D out : List (List UInt8)) (k : Nat) : Option (List UInt8) := if D.getD k [] ∈ out then none else some (D.getD k [])
theorem vS_rem (D out : List (List UInt8)) : remV (vS D out) D.length = D.filter fun y => !decide (y ∈ out) := by
 have e : vS D out = fun k => (fun x => if x ∈ out then none else some x) (D.getD k []) := rfl
 rw [e, remV_all (d := []) (f := fun x => if x ∈ out then none else some x) D]
 induction D with
 | nil => rfl
 | cons x D ih =>
  rw [List.filterMap_cons, List.filter_cons]
  by_cases h : x ∈ out
  ·rw [if_pos h, decide_eq_true h]; exact ih rfl
  ·rw [if_neg h, decide_eq_false h]; exact congrArg (x :: ·) (ih rfl)
theorem vS_in {D out : List (List UInt8)} {k : Nat} (h : D.getD k [] ∈ out) : vS D out k = none := if_pos h
theorem vS_out {D out : List (List UInt8)} {k : Nat} (h : D.getD k [] ∉ out) : vS D out k = some (D.getD k []) := if_neg h
theorem filt_len (p : List UInt8 → Bool) : ∀ l : List (List UInt8), (l.filter p).length + (l.filter fun y => !p y).length = l.length
 | [] => rfl
 | x :: l => by
  have := filt_len p l
  rw [List.filter_cons, List.filter_cons]
  cases p x <;> simp <;> omega
theorem out_len {D out : List (List UInt8)} (hD : D.Nodup) (ho : out.Nodup) (hs : ∀ x ∈ out, x ∈ D) : out.length + (D.filter fun y => !decide (y ∈ out)).length = D.length := by
 rw [← filt_len (fun y => decide (y ∈ out)) D]
 congr 1
 refine (List.Perm.length_eq ((List.perm_ext_iff_of_nodup ho (hD.filter _)).2 fun x => ?_))
 rw [List.mem_filter, decide_eq_true_iff]
 exact ⟨fun h => ⟨hs x h, h⟩, fun h => h.2⟩
end Go.Proofs.YtjcmdifpkafdkaaDoor
namespace Go.Proofs.YtjcmdifpkafdkaaDoor
open Go.Lib
set_option maxRecDepth 100000
def BestT (v : Nat → Option (List UInt8)) (D : List (List UInt8)) (i : Nat) (b : Int) : Prop := (b = -1 ∧ BestN v i) ∨ (0 ≤ b ∧ BestS ltS v i b.toNat (D.getD b.toNat []))
section
variable {v : Nat → Option (List UInt8)} {D : List (List UInt8)} {i : Nat} {b : Int}
theorem bestS_some (h : BestT v D i b) (k : ¬ b < 0) : 0 ≤ b ∧ BestS ltS v i b.toNat (D.getD b.toNat []) := h.resolve_left fun e => by omega
theorem bestS_none (h : BestT v D i b) (k : b < 0) : BestN v i := (h.resolve_right fun e => by omega).2
theorem bestS_skip2 (h : BestT v D i b) (k : v i = none) : BestT v D (i + 1) b := h.elim (fun e => .inl ⟨e.1, bestN_skip e.2 k⟩) fun e => .inr ⟨e.1, bestS_skip e.2 k⟩
theorem bestS_first2 (h : BestT v D i b) (k : b < 0) (e : v i = some (D.getD i [])) : BestT v D (i + 1) (i : Int) := .inr ⟨by omega, by rw [Int.toNat_natCast]; exact bestN_first (bestS_none h k) e⟩
theorem bestS_less2 (h : BestT v D i b) (k : ¬ b < 0) (e : v i = some (D.getD i [])) (hl : ltS (D.getD i []) (D.getD b.toNat []) = true) : BestT v D (i + 1) (i : Int) := .inr ⟨by omega, by rw [Int.toNat_natCast]; exact bestS_less ltS_ord (bestS_some h k).2 e hl⟩
theorem bestS_keep2 (h : BestT v D i b) (k : ¬ b < 0) (e : v i = some (D.getD i [])) (hl : ltS (D.getD i []) (D.getD b.toNat []) = false) : BestT v D (i + 1) b := .inr ⟨(bestS_some h k).1, bestS_keep (bestS_some h k).2 e hl⟩
end
theorem vS_ne {D acc : List (List UInt8)} {j k : Nat} (hD : D.Nodup) (hj : j < D.length) (hk : k < D.length) (h : k ≠ j) : vS D (acc ++ [D.getD j []]) k = vS D acc k := by
 unfold vS
 have hn : D.getD k [] ≠ D.getD j [] := fun e => h (by
  rw [List.getD_eq_getElem?_getD, List.getD_eq_getElem?_getD, List.getElem?_eq_getElem hk, List.getElem?_eq_getElem hj] at e
  exact (List.getElem_inj hD).1 e)
 by_cases hm : D.getD k [] ∈ acc
 ·rw [if_pos hm, if_pos (List.mem_append.2 (.inl hm))]
 ·rw [if_neg hm, if_neg fun e => (List.mem_append.1 e).elim hm fun e => hn (List.mem_singleton.1 e)]
section
variable {G : Nat} {A : Abs} {σ : Mem} {F : Nat → Option Blk2} {L : List Ent} {w v1 v2 : Value} {M : Nat} {os l rc : List (List UInt8)} {a b : List Int}
set_option maxHeartbeats 4000000 in
theorem r_amongG {x : List UInt8} (hM : os.length = M) (hM0 : M ≤ 1000000) (H : Lies G A F σ (.sl 9 1 w M (rowX celS os) :: L)) : WC G Tryd.prog 82 #[w, .string ⟨x.toArray⟩] σ fun v σ' => v = .bool (decide (x ∈ os)) ∧ Lies G A F σ' (.sl 9 1 w M (rowX celS os) :: L) := by
 refine WC.enter (fn := Tryd.f82) Tryd.func82 rfl ?_
 refine W.rg [(0, w), (1, .string ⟨x.toArray⟩)] fun TA => ?_
 refine W.seq (W.region ?_)
 refine RW.v ?_
 refine RW.nil ?_
 refine W.rg [(0, w), (1, .string ⟨x.toArray⟩)] fun TA => ?_
 refine W.seq ?_
 refine W.seq (W.region ?_)
 refine RW.v ?_
 refine RW.nil ?_
 refine W.rg [(0, w), (1, .string ⟨x.toArray⟩), (5, .int .i64 0)] fun TA => ?_
 refine W.block ?_
 refine W.loop (fun mm ta σ => ∃ (i : Nat), (mm + i = M) ∧ (decide (x ∈ os) = decide (x ∈ os.drop i)) ∧ Lies G A F σ (.sl 9 1 w M (rowX celS os) :: (L)) ∧ ta 0 = w ∧ ta 1 = .string ⟨x.toArray⟩ ∧ ta 5 = .int .i64 ((i : Nat) : Int)) M ?_ ?_
 ·exact ⟨0, (by omega), rfl, H, rfl, rfl, rfl⟩
 clear H
 rintro mm ta _ ⟨i, hm, hT, H, e0, e1, e5⟩
 refine W.rst [(0, w), (1, .string ⟨x.toArray⟩), (5, .int .i64 ((i : Nat) : Int))] ⟨e0, e1, e5, trivial⟩ fun TA => ?_
 clear e0 e1 e5
 refine W.seq ?_
 refine W.seq (W.region ?_)
 iterate 2 refine RW.v ?_
 refine RW.len (by kernel_rfl) (by kernel_rfl) rfl rfl rfl rfl ((H.sl 0 rfl).len (by kernel_rfl)) (by kernel_rfl) ?_
 refine RW.v ?_
 refine RW.nil ?_
 refine W.rg [(0, w), (1, .string ⟨x.toArray⟩), (5, .int .i64 ((i : Nat) : Int)), (9, .bool (decide (((i : Nat) : Int) < ((M : Nat) : Int))))] fun TA => ?_
 refine W.cond rfl (fun hc1 => ?_) (fun hc1 => ?_)
 ·have hc1b := hc1
  have hc1 := of_decide_eq_true hc1
  refine W.skip ?_
  refine W.seq ?_
  refine W.block ?_
  refine W.seq (W.region ?_)
  iterate 2 refine RW.v ?_
  refine RW.idxG H 0 rfl (by kernel_rfl) (by kernel_rfl) rfl Tryd.underlying22 (by kernel_rfl) rfl rfl ⟨by omega, by omega⟩ (by kernel_rfl) ?_
  intro b2 q3 r4 hF5 hE6
  rw [rowS_at (xs := os) (j := i) (i := ((i : Nat) : Int)) (by omega) (by first | omega | (simp only [List.length_set]; omega))] at hE6
  refine RW.loads 1 (by kernel_rfl) (by kernel_rfl) rfl rfl (hF5) hE6 rfl (by kernel_rfl) ?_
  refine RW.v ?_
  refine RW.vop (v := .bool ((gD os i) == x)) (by kernel_rfl) (by kernel_rfl) (vop_sEq rfl rfl rfl rfl) (by kernel_rfl) ?_
  refine RW.nil ?_
  refine W.rg [(0, w), (1, .string ⟨x.toArray⟩), (5, .int .i64 ((i : Nat) : Int)), (17, .bool ((gD os i) == x))] fun TA => ?_
  refine W.cond rfl (fun hc7 => ?_) (fun hc7 => ?_)
  ·have hc7b := hc7
   have hc7 := eq_of_beq hc7
   refine W.seq (W.region ?_)
   refine RW.v ?_
   refine RW.nil ?_
   refine W.ret ?_
   refine blkQ_ret ?_
   refine seqQ_ret ?_
   refine rndQ_ret ?_
   refine blkQ_ret ?_
   refine seqQ_ret ?_
   refine endG (by rfl) (by exact resL_tmp rfl) ?_
   rw [hT, mem_hit (show i < os.length by omega) (show (x == gD os i) = true by rw [Bool.beq_comm]; exact hc7b)]
   exact ⟨rfl, H⟩
  ·have hc7b := hc7
   have hc7 := ne_of_beq_false hc7
   refine W.skip ?_
   refine blkQ_normal ?_
   refine W.region ?_
   refine RW.v ?_
   refine RW.valE (v' := .int .i64 (((i : Nat) : Int) + 1)) (by kernel_rfl) (by kernel_rfl) rfl (congrArg (Value.int .i64) (wrap_in (by omega) (by omega))) (by kernel_rfl) ?_
   refine RW.v ?_
   refine RW.nil ?_
   exact ⟨rfl, mm - 1, by omega, i + 1, (by omega), (by rw [hT, mem_skip (show i < os.length by omega) (show (x == gD os i) = false by rw [Bool.beq_comm]; exact hc7b)]), H, rfl, rfl, rfl⟩
 ·have hc1b := hc1
  have hc1 := of_decide_eq_false hc1
  refine W.exit _ ?_
  refine seqQ_exit ?_
  refine rndQ_exit ?_
  refine blkQ_here ?_
  refine W.seq (W.region ?_)
  refine RW.v ?_
  refine RW.nil ?_
  refine W.ret ?_
  refine endG (by rfl) (by exact resL_tmp rfl) ?_
  rw [hT, List.drop_eq_nil_of_le (by omega), decide_eq_false (List.not_mem_nil)]
  exact ⟨rfl, H⟩
set_option maxHeartbeats 4000000 in
theorem r_ahead (h1 : SlF F 1 v1 a.length (a.map (Value.int .i64))) (h2 : SlF F 1 v2 b.length (b.map (Value.int .i64))) (hl : a.length ≤ 1000000) (H : Lies G A F σ L) : WC G Tryd.prog 83 #[v1, v2] σ fun v σ' => v = .bool (aheadM a b) ∧ Lies G A F σ' L := by
 refine WC.enter (fn := Tryd.f83) Tryd.func83 rfl ?_
 refine W.rg [(0, v1), (1, v2)] fun TA => ?_
 refine W.seq (W.region ?_)
 refine RW.v ?_
 refine RW.nil ?_
 refine W.rg [(0, v1), (1, v2)] fun TA => ?_
 refine W.seq ?_
 refine W.seq (W.region ?_)
 refine RW.v ?_
 refine RW.len (by kernel_rfl) (by kernel_rfl) rfl rfl rfl rfl (h1.len (e := 3) (by kernel_rfl)) (by kernel_rfl) ?_
 refine RW.v ?_
 refine RW.len (by kernel_rfl) (by kernel_rfl) rfl rfl rfl rfl (h2.len (e := 3) (by kernel_rfl)) (by kernel_rfl) ?_
 refine RW.v ?_
 refine RW.nil ?_
 refine W.rg [(0, v1), (1, v2), (10, .bool ((a.length : Int) != (b.length : Int)))] fun TA => ?_
 refine W.cond rfl (fun hc1 => ?_) (fun hc1 => ?_)
 ·have hc1b := hc1
  have hc1 := bne_iff_ne.1 hc1
  refine W.seq (W.region ?_)
  refine RW.v ?_
  refine RW.len (by kernel_rfl) (by kernel_rfl) rfl rfl rfl rfl (h1.len (e := 3) (by kernel_rfl)) (by kernel_rfl) ?_
  refine RW.v ?_
  refine RW.len (by kernel_rfl) (by kernel_rfl) rfl rfl rfl rfl (h2.len (e := 3) (by kernel_rfl)) (by kernel_rfl) ?_
  iterate 2 refine RW.v ?_
  refine RW.nil ?_
  refine W.ret ?_
  refine seqQ_ret ?_
  refine endG (by rfl) (by exact resL_tmp rfl) ?_
  rw [show aheadM a b = decide ((a.length : Int) < (b.length : Int)) from by unfold aheadM; rw [if_pos (by omega)]; exact decide_eq_decide.2 (by omega)]
  exact ⟨rfl, H⟩
 ·have hc1b := hc1
  have hc1 := (bne_eq_false_iff_eq.1) hc1
  refine W.skip ?_
  refine W.seq ?_
  refine W.seq (W.region ?_)
  refine RW.v ?_
  refine RW.nil ?_
  refine W.rg [(0, v1), (1, v2), (5, .int .i64 0)] fun TA => ?_
  refine W.block ?_
  refine W.loop (fun mm ta σ => ∃ (i : Nat), (mm + i = a.length) ∧ (lexI a b = lexI (a.drop i) (b.drop i)) ∧ Lies G A F σ ((L)) ∧ ta 0 = v1 ∧ ta 1 = v2 ∧ ta 5 = .int .i64 ((i : Nat) : Int)) a.length ?_ ?_
  ·exact ⟨0, (by omega), rfl, H, rfl, rfl, rfl⟩
  clear H
  rintro mm ta _ ⟨i, hm, hT, H, e0, e1, e5⟩
  refine W.rst [(0, v1), (1, v2), (5, .int .i64 ((i : Nat) : Int))] ⟨e0, e1, e5, trivial⟩ fun TA => ?_
  clear e0 e1 e5
  refine W.seq ?_
  refine W.seq (W.region ?_)
  iterate 2 refine RW.v ?_
  refine RW.len (by kernel_rfl) (by kernel_rfl) rfl rfl rfl rfl (h1.len (e := 3) (by kernel_rfl)) (by kernel_rfl) ?_
  refine RW.v ?_
  refine RW.nil ?_
  refine W.rg [(0, v1), (1, v2), (5, .int .i64 ((i : Nat) : Int)), (19, .bool (decide (((i : Nat) : Int) < (a.length : Int))))] fun TA => ?_
  refine W.cond rfl (fun hc2 => ?_) (fun hc2 => ?_)
  ·have hc2b := hc2
   have hc2 := of_decide_eq_true hc2
   refine W.skip ?_
   refine W.seq ?_
   refine W.block ?_
   refine W.seq ?_
   refine W.drawn (by kernel_rfl) (by kernel_rfl) H.gn ?_
   have H3 := H
   iterate 2 refine RW.v ?_
   refine RW.idxF h1 (by kernel_rfl) (by kernel_rfl) rfl Tryd.underlying59 (by kernel_rfl) rfl rfl ⟨by omega, by omega⟩ (by kernel_rfl) ?_
   intro b4 q5 r6 hF7 hE8
   rw [intz_at (l := a) (j := i) (i := ((i : Nat) : Int)) (by omega) (by omega)] at hE8
   refine RW.loads 1 (by kernel_rfl) (by kernel_rfl) rfl rfl (H3.old _ _ hF7) hE8 rfl (by kernel_rfl) ?_
   iterate 2 refine RW.v ?_
   refine RW.idxF h2 (by kernel_rfl) (by kernel_rfl) rfl Tryd.underlying59 (by kernel_rfl) rfl rfl ⟨by omega, by omega⟩ (by kernel_rfl) ?_
   intro b9 q10 r11 hF12 hE13
   rw [intz_at (l := b) (j := i) (i := ((i : Nat) : Int)) (by omega) (by omega)] at hE13
   refine RW.loads 1 (by kernel_rfl) (by kernel_rfl) rfl rfl (H3.old _ _ hF12) hE13 rfl (by kernel_rfl) ?_
   refine RW.v ?_
   refine RW.nil ?_
   refine ⟨⟨by kernel_rfl, ⟨trivial, trivial, trivial, dyn_row (H3.old _ _ hF7) (H3.old _ _ hF7) ⟨nB, nB, nB, nB, nB, nB, nB, nB, nB, trivial⟩, trivial, trivial, trivial, dyn_row (H3.old _ _ hF12) (H3.old _ _ hF12) ⟨nB, nB, nB, nB, nB, nB, nB, nB, nB, trivial⟩, trivial, trivial⟩⟩, ?_⟩
   replace H := H3
   clear H3
   refine W.rg [(0, v1), (1, v2), (5, .int .i64 ((i : Nat) : Int)), (30, .bool ((a.getD i 0) != (b.getD i 0)))] fun TA => ?_
   refine W.cond rfl (fun hc14 => ?_) (fun hc14 => ?_)
   ·have hc14b := hc14
    have hc14 := bne_iff_ne.1 hc14
    refine W.seq ?_
    refine W.drawn (by kernel_rfl) (by kernel_rfl) H.gn ?_
    have H15 := H
    iterate 2 refine RW.v ?_
    refine RW.idxF h1 (by kernel_rfl) (by kernel_rfl) rfl Tryd.underlying59 (by kernel_rfl) rfl rfl ⟨by omega, by omega⟩ (by kernel_rfl) ?_
    intro b16 q17 r18 hF19 hE20
    rw [intz_at (l := a) (j := i) (i := ((i : Nat) : Int)) (by omega) (by omega)] at hE20
    refine RW.loads 1 (by kernel_rfl) (by kernel_rfl) rfl rfl (H15.old _ _ hF19) hE20 rfl (by kernel_rfl) ?_
    iterate 2 refine RW.v ?_
    refine RW.idxF h2 (by kernel_rfl) (by kernel_rfl) rfl Tryd.underlying59 (by kernel_rfl) rfl rfl ⟨by omega, by omega⟩ (by kernel_rfl) ?_
    intro b21 q22 r23 hF24 hE25
    rw [intz_at (l := b) (j := i) (i := ((i : Nat) : Int)) (by omega) (by omega)] at hE25
    refine RW.loads 1 (by kernel_rfl) (by kernel_rfl) rfl rfl (H15.old _ _ hF24) hE25 rfl (by kernel_rfl) ?_
    iterate 2 refine RW.v ?_
    refine RW.nil ?_
    refine ⟨⟨by kernel_rfl, ⟨trivial, trivial, trivial, dyn_row (H15.old _ _ hF19) (H15.old _ _ hF19) ⟨nB, nB, nB, nB, nB, nB, nB, nB, nB, nB, trivial⟩, trivial, trivial, trivial, dyn_row (H15.old _ _ hF24) (H15.old _ _ hF24) ⟨nB, nB, nB, nB, nB, nB, nB, nB, nB, nB, trivial⟩, trivial, trivial, trivial⟩⟩, ?_⟩
    replace H := H15
    clear H15
    refine W.ret ?_
    refine blkQ_ret ?_
    refine seqQ_ret ?_
    refine rndQ_ret ?_
    refine blkQ_ret ?_
    refine seqQ_ret ?_
    refine endG (by rfl) (by exact resL_tmp rfl) ?_
    rw [show aheadM a b = decide ((a.getD i 0) < (b.getD i 0)) from by unfold aheadM; rw [if_neg (fun k => k (by omega)), hT, lex_stop (by omega) (by omega) hc14]]
    exact ⟨rfl, H⟩
   ·have hc14b := hc14
    have hc14 := (bne_eq_false_iff_eq.1) hc14
    refine W.skip ?_
    refine blkQ_normal ?_
    refine W.region ?_
    refine RW.v ?_
    refine RW.valE (v' := .int .i64 (((i : Nat) : Int) + 1)) (by kernel_rfl) (by kernel_rfl) rfl (congrArg (Value.int .i64) (wrap_in (by omega) (by omega))) (by kernel_rfl) ?_
    refine RW.v ?_
    refine RW.nil ?_
    exact ⟨rfl, mm - 1, by omega, i + 1, (by omega), (by rw [hT, lex_go (by omega) (by omega) hc14]), H, rfl, rfl, rfl⟩
  ·have hc2b := hc2
   have hc2 := of_decide_eq_false hc2
   refine W.exit _ ?_
   refine seqQ_exit ?_
   refine rndQ_exit ?_
   refine blkQ_here ?_
   refine W.seq (W.region ?_)
   refine RW.v ?_
   refine RW.nil ?_
   refine W.ret ?_
   refine endG (by rfl) (by exact resL_tmp rfl) ?_
   rw [show aheadM a b = false from by unfold aheadM; rw [if_neg (fun k => k (by omega)), hT, List.drop_eq_nil_of_le (show b.length ≤ i by omega)]; cases a.drop i <;> rfl]
   exact ⟨rfl, H⟩
set_option maxHeartbeats 16000000 in
theorem r_sortR (h1 : SlF F 1 v1 l.length (l.map strV)) (h2 : SlF F 1 v2 rc.length (rc.map strV)) (hl : l.length ≤ 1000000) (hlr : rc.length ≤ 1000000) (hsm : ∀ s ∈ l, s.length ≤ 60000) (H : Lies G A F σ L) : WC G Tryd.prog 34 #[v1, v2] σ fun v σ' => ∃ F', Le F F' ∧ SlF F' 1 v (sortC l rc).length ((sortC l rc).map strV) ∧ Lies G A F' σ' L := by
 obtain ⟨F0, hF⟩ : ∃ F0, F0 = F := ⟨_, rfl⟩
 have le0 : Le F0 F := fun b y h => hF ▸ h
 rw [← hF] at h1 h2 ⊢
 have hsmM : ∀ x ∈ l, x.length ≤ 1000000 := fun x hx => Nat.le_trans (hsm x hx) (by decide)
 refine WC.enter (fn := Tryd.f34) Tryd.func34 rfl ?_
 refine W.rg [(0, v1), (1, v2)] fun TA => ?_
 refine W.seq (W.region ?_)
 refine RW.v ?_
 refine RW.nil ?_
 refine W.rg [(0, v1), (1, v2)] fun TA => ?_
 refine W.seq (W.region ?_)
 refine RW.v ?_
 refine RW.cl ?_
 refine ((r_candidates (h1.le le0) hl hsmM H).mono ?_)
 clear H
 rintro du _ ⟨F, le, hcd, H⟩
 replace le0 := fun b y h => le b y (le0 b y h)
 obtain ⟨D, hD⟩ : ∃ D, D = distM l := ⟨_, rfl⟩
 rw [← hD] at hcd
 have hDl : D.length ≤ 1000000 := by rw [hD]; exact Nat.le_trans (distG_len l []) hl
 have hDm : ∀ x ∈ D, validD x = true ∧ x ∈ l := fun x hx => by rw [hD] at hx; have := distM_mem.1 hx; exact ⟨this.2, this.1⟩
 obtain ⟨FB, hFB⟩ : ∃ FB, FB = F := ⟨_, rfl⟩
 rw [← hFB] at hcd
 have leB : Le FB F := fun b y h => hFB ▸ h
 have hDn : D.Nodup := by rw [hD]; exact distG_nodup l []
 obtain ⟨O, hOd⟩ : ∃ O, O = (distM rc).filter (fun x => decide (x ∈ D)) := ⟨_, rfl⟩
 have hO0 : O = recG D [] (rc.drop 0) := by rw [hOd]; exact (rec_dist (fun x hx => (hDm x hx).1) (acc := []) (seen := []) fun x _ => Iff.rfl).symm
 obtain ⟨Q, hQ⟩ : ∃ Q, Q = D.filter (fun y => !decide (y ∈ O)) := ⟨_, rfl⟩
 have hOQ : O.length + (D.filter fun y => !decide (y ∈ O)).length = D.length := out_len hDn (by rw [hOd]; exact (distG_nodup rc []).filter _) (fun x hx => by rw [hOd] at hx; exact of_decide_eq_true (List.mem_filter.1 hx).2)
 refine RW.v ?_
 refine RW.nil ?_
 refine W.rg [(1, v2), (5, du)] fun TA => ?_
 refine W.seq (W.region ?_)
 refine RW.v ?_
 refine RW.nil ?_
 refine W.rg [(1, v2), (5, du), (6, .slice none 0 0)] fun TA => ?_
 refine W.seq ?_
 refine W.seq (W.region ?_)
 refine RW.v ?_
 refine RW.nil ?_
 refine W.rg [(1, v2), (5, du), (6, .slice none 0 0), (7, .int .i64 0)] fun TA => ?_
 refine W.block ?_
 replace H := H.nilSl 9 1
 refine W.loop (fun mm ta σ => ∃ (i : Nat) (acc : List (List UInt8)) (u : Value), (mm + i = rc.length) ∧ (acc.length ≤ i) ∧ (O = recG D acc (rc.drop i)) ∧ Lies G A F σ (.sl 9 1 u acc.length (rowX celS acc) :: (L)) ∧ ta 1 = v2 ∧ ta 5 = du ∧ ta 6 = u ∧ ta 7 = .int .i64 ((i : Nat) : Int)) rc.length ?_ ?_
 ·exact ⟨0, [], .slice none 0 0, (by omega), (Nat.zero_le _), hO0, H, rfl, rfl, rfl, rfl⟩
 clear H
 rintro mm ta _ ⟨i, acc, u, hm, hac, hT, H, e1, e5, e6, e7⟩
 refine W.rst [(1, v2), (5, du), (6, u), (7, .int .i64 ((i : Nat) : Int))] ⟨e1, e5, e6, e7, trivial⟩ fun TA => ?_
 clear e1 e5 e6 e7
 refine W.seq ?_
 refine W.seq (W.region ?_)
 iterate 2 refine RW.v ?_
 refine RW.len (by kernel_rfl) (by kernel_rfl) rfl rfl rfl rfl ((h2.le le0).len (e := 9) (by kernel_rfl)) (by kernel_rfl) ?_
 refine RW.v ?_
 refine RW.nil ?_
 refine W.rg [(1, v2), (5, du), (6, u), (7, .int .i64 ((i : Nat) : Int)), (15, .bool (decide (((i : Nat) : Int) < (rc.length : Int))))] fun TA => ?_
 refine W.cond rfl (fun hc1 => ?_) (fun hc1 => ?_)
 ·have hc1b := hc1
  have hc1 := of_decide_eq_true hc1
  have hir : i < rc.length := by omega
  refine W.skip ?_
  refine W.seq ?_
  refine W.block ?_
  refine W.seq (W.region ?_)
  iterate 3 refine RW.v ?_
  refine RW.idxF (h2.le le0) (by kernel_rfl) (by kernel_rfl) rfl Tryd.underlying22 (by kernel_rfl) rfl rfl ⟨by omega, by omega⟩ (by kernel_rfl) ?_
  intro b2 q3 r4 hF5 hE6
  rw [strs_at (l := rc) (j := i) (i := ((i : Nat) : Int)) (by omega) (by omega)] at hE6
  refine RW.loads 1 (by kernel_rfl) (by kernel_rfl) rfl rfl (H.old _ _ hF5) hE6 rfl (by kernel_rfl) ?_
  refine RW.cl ?_
  refine ((r_among (s := (rc.getD i [])) (hcd.le leB) hDl H).mono ?_)
  clear H
  rintro _ _ ⟨rfl, H⟩
  refine RW.v ?_
  refine RW.both _ _ rfl rfl rfl (fun hc7 => ?_) (fun hc7 => ?_)
  ·have hc7b := hc7
   have hc7 := of_decide_eq_true hc7
   iterate 3 refine RW.w ?_
   refine RW.idxF (h2.le le0) (by rfl) (by kernel_rfl) rfl Tryd.underlying22 (by kernel_rfl) rfl rfl ⟨by omega, by omega⟩ (by kernel_rfl) ?_
   intro b8 q9 r10 hF11 hE12
   rw [strs_at (l := rc) (j := i) (i := ((i : Nat) : Int)) (by omega) (by omega)] at hE12
   refine RW.loads 1 (by rfl) (by kernel_rfl) rfl rfl (H.old _ _ hF11) hE12 rfl (by kernel_rfl) ?_
   refine RW.cl (hw := by rfl) ?_
   refine ((r_amongG (x := (rc.getD i [])) rfl (by omega) H).mono ?_)
   clear H
   rintro _ _ ⟨rfl, H⟩
   refine RW.w ?_
   refine RW.v ?_
   refine RW.nil ?_
   refine W.rg [(1, v2), (5, du), (6, u), (7, .int .i64 ((i : Nat) : Int)), (32, .bool (!(decide ((rc.getD i []) ∈ acc))))] fun TA => ?_
   refine W.cond rfl (fun hc13 => ?_) (fun hc13 => ?_)
   ·have hc13b := hc13
    have hc13m : ¬ (rc.getD i []) ∈ acc := of_decide_eq_false (by simpa using hc13b)
    refine W.region ?_
    iterate 3 refine RW.v ?_
    refine RW.idxF (h2.le le0) (by kernel_rfl) (by kernel_rfl) rfl Tryd.underlying22 (by kernel_rfl) rfl rfl ⟨by omega, by omega⟩ (by kernel_rfl) ?_
    intro b14 q15 r16 hF17 hE18
    rw [strs_at (l := rc) (j := i) (i := ((i : Nat) : Int)) (by omega) (by omega)] at hE18
    refine RW.loads 1 (by kernel_rfl) (by kernel_rfl) rfl rfl (H.old _ _ hF17) hE18 rfl (by kernel_rfl) ?_
    refine RW.mkL H (x := .row ⟨[.string ⟨(rc.getD i []).toArray⟩], 9, false⟩) (fm := fun b => .slice (some ⟨b, 0, none⟩) 1 1) (by kernel_rfl) (by kernel_rfl) (by kernel_rfl) (by kernel_rfl) ?_
    clear H; intro _ b19 _ H
    refine RW.appL H 1 0 (n := 1) (e2 := 9) (by kernel_rfl) (by kernel_rfl) rfl rfl rfl rfl rfl rfl rfl rfl (by kernel_rfl) (by kernel_rfl) (by kernel_rfl) (by decide) (by decide) rfl rfl (by omega) (by kernel_rfl) ?_
    clear H; intro _ v20 _ H
    dsimp only [setL, delL] at H
    refine RW.v ?_
    refine RW.nil ?_
    refine blkQ_normal ?_
    refine W.rg [(1, v2), (5, du), (6, v20), (7, .int .i64 ((i : Nat) : Int))] fun TA => ?_
    refine W.region ?_
    refine RW.v ?_
    refine RW.valE (v' := .int .i64 (((i : Nat) : Int) + 1)) (by kernel_rfl) (by kernel_rfl) rfl (congrArg (Value.int .i64) (wrap_in (by omega) (by omega))) (by kernel_rfl) ?_
    refine RW.v ?_
    refine RW.nil ?_
    rw [show acc.length + 1 = (acc ++ [(rc.getD i [])]).length by rw [List.length_append]; rfl, show rowX celS acc ++ [.string ⟨((rc.getD i []) : List UInt8).toArray⟩] = rowX celS (acc ++ [(rc.getD i [])]) from (rowX_snoc acc (rc.getD i [])).symm] at H
    exact ⟨rfl, mm - 1, by omega, i + 1, (acc ++ [(rc.getD i [])]), v20, (by omega), (by rw [List.length_append, List.length_singleton]; omega), (by rw [hT, rec_go hir hc7 hc13m]), H, rfl, rfl, rfl, rfl⟩
   ·have hc13b := hc13
    have hc13m : (rc.getD i []) ∈ acc := of_decide_eq_true (by simpa using hc13b)
    refine W.skip ?_
    refine blkQ_normal ?_
    refine W.region ?_
    refine RW.v ?_
    refine RW.valE (v' := .int .i64 (((i : Nat) : Int) + 1)) (by kernel_rfl) (by kernel_rfl) rfl (congrArg (Value.int .i64) (wrap_in (by omega) (by omega))) (by kernel_rfl) ?_
    refine RW.v ?_
    refine RW.nil ?_
    exact ⟨rfl, mm - 1, by omega, i + 1, acc, u, (by omega), (by omega), (by rw [hT, rec_skip hir (fun k => k.2 hc13m)]), H, rfl, rfl, rfl, rfl⟩
  ·have hc7b := hc7
   have hc7 := of_decide_eq_false hc7
   iterate 7 refine RW.s ?_
   refine RW.v ?_
   refine RW.nil ?_
   refine W.c0 ?_
   refine W.skip ?_
   refine blkQ_normal ?_
   refine W.region ?_
   refine RW.v ?_
   refine RW.valE (v' := .int .i64 (((i : Nat) : Int) + 1)) (by kernel_rfl) (by kernel_rfl) rfl (congrArg (Value.int .i64) (wrap_in (by omega) (by omega))) (by kernel_rfl) ?_
   refine RW.v ?_
   refine RW.nil ?_
   exact ⟨rfl, mm - 1, by omega, i + 1, acc, u, (by omega), (by omega), (by rw [hT, rec_skip hir (fun k => hc7 k.1)]), H, rfl, rfl, rfl, rfl⟩
 ·have hc1b := hc1
  have hc1 := of_decide_eq_false hc1
  refine W.exit _ ?_
  refine seqQ_exit ?_
  refine rndQ_exit ?_
  have hO : O = acc := by rw [hT, List.drop_eq_nil_of_le (by omega)]; rfl
  rw [← hO] at H
  refine blkQ_here ?_
  refine W.seq ?_
  refine W.block ?_
  refine W.loop (fun mm ta σ => ∃ (acc : List (List UInt8)) (S : List (List UInt8)) (u : Value), (D.length ≤ mm + acc.length) ∧ (acc = O ++ S) ∧ (Taken ltS Q S (remV (vS D acc) D.length)) ∧ (acc.length + (remV (vS D acc) D.length).length = D.length) ∧ Lies G A F σ (.sl 9 1 u acc.length (rowX celS acc) :: (L)) ∧ ta 5 = du ∧ ta 6 = u) D.length ?_ ?_
  ·exact ⟨O, [], u, (by omega), (List.append_nil O).symm, (by rw [vS_rem, ← hQ]; exact Taken.start Q), (by rw [vS_rem]; exact hOQ), H, rfl, rfl⟩
  clear H
  rintro mm ta _ ⟨acc, S, u, hm, hS, hTk, hlen, H, e5, e6⟩
  refine W.rst [(5, du), (6, u)] ⟨e5, e6, trivial⟩ fun TA => ?_
  clear e5 e6
  refine W.seq ?_
  refine W.seq (W.region ?_)
  refine RW.v ?_
  refine RW.len (by kernel_rfl) (by kernel_rfl) rfl rfl rfl rfl ((H.sl 0 rfl).len (by kernel_rfl)) (by kernel_rfl) ?_
  refine RW.v ?_
  refine RW.len (by kernel_rfl) (by kernel_rfl) rfl rfl rfl rfl ((hcd.le leB).len (e := 9) (by kernel_rfl)) (by kernel_rfl) ?_
  refine RW.v ?_
  refine RW.nil ?_
  refine W.rg [(5, du), (6, u), (44, .bool (decide (((acc.length : Nat) : Int) < (D.length : Int))))] fun TA => ?_
  refine W.cond rfl (fun hc21 => ?_) (fun hc21 => ?_)
  ·have hc21b := hc21
   have hc21 := of_decide_eq_true hc21
   refine W.skip ?_
   refine W.block ?_
   refine W.seq (W.region ?_)
   refine RW.v ?_
   refine RW.nil ?_
   refine W.rg [(5, du), (6, u), (8, .int .i64 (-1))] fun TA => ?_
   refine W.seq ?_
   refine W.seq (W.region ?_)
   refine RW.v ?_
   refine RW.nil ?_
   refine W.rg [(5, du), (6, u), (8, .int .i64 (-1)), (9, .int .i64 0)] fun TA => ?_
   refine W.block ?_
   refine W.loop (fun mmi ta σ => ∃ (i : Nat) (b : Int), (mmi + i = D.length) ∧ (BestT (vS D acc) D i b) ∧ Lies G A F σ (.sl 9 1 u acc.length (rowX celS acc) :: (L)) ∧ ta 5 = du ∧ ta 6 = u ∧ ta 8 = .int .i64 b ∧ ta 9 = .int .i64 ((i : Nat) : Int)) D.length ?_ ?_
   ·exact ⟨0, (-1), (by omega), (.inl ⟨rfl, fun k hk => absurd hk (Nat.not_lt_zero _)⟩), H, rfl, rfl, rfl, rfl⟩
   clear H
   rintro mmi ta _ ⟨i, b, hmi, hbb, H, e5, e6, e8, e9⟩
   refine W.rst [(5, du), (6, u), (8, .int .i64 b), (9, .int .i64 ((i : Nat) : Int))] ⟨e5, e6, e8, e9, trivial⟩ fun TA => ?_
   clear e5 e6 e8 e9
   have leB : Le FB F := fun b y h => hFB ▸ h
   refine W.seq ?_
   refine W.seq (W.region ?_)
   iterate 2 refine RW.v ?_
   refine RW.len (by kernel_rfl) (by kernel_rfl) rfl rfl rfl rfl ((hcd.le leB).len (e := 9) (by kernel_rfl)) (by kernel_rfl) ?_
   refine RW.v ?_
   refine RW.nil ?_
   refine W.rg [(5, du), (6, u), (8, .int .i64 b), (9, .int .i64 ((i : Nat) : Int)), (48, .bool (decide (((i : Nat) : Int) < (D.length : Int))))] fun TA => ?_
   refine W.cond rfl (fun hc22 => ?_) (fun hc22 => ?_)
   ·have hc22b := hc22
    have hc22 := of_decide_eq_true hc22
    have hil : i < D.length := by omega
    have hXd := hDm _ (mem_of (l := D) (j := i) hil)
    refine W.skip ?_
    refine W.seq ?_
    refine W.block ?_
    refine W.seq ?_
    refine W.drawn (by kernel_rfl) (by kernel_rfl) H.gn ?_
    have H23 := H
    iterate 3 refine RW.v ?_
    refine RW.idxF (hcd.le leB) (by kernel_rfl) (by kernel_rfl) rfl Tryd.underlying22 (by kernel_rfl) rfl rfl ⟨by omega, by omega⟩ (by kernel_rfl) ?_
    intro b24 q25 r26 hF27 hE28
    rw [strs_at (l := D) (j := i) (i := ((i : Nat) : Int)) (by omega) (by omega)] at hE28
    refine RW.loads 1 (by kernel_rfl) (by kernel_rfl) rfl rfl (H23.old _ _ hF27) hE28 rfl (by kernel_rfl) ?_
    refine RW.cl ?_
    refine ((r_amongG (x := (D.getD i [])) rfl (by omega) H23).mono ?_)
    rintro _ _ ⟨rfl, H29⟩
    iterate 2 refine RW.v ?_
    refine RW.both _ _ rfl rfl rfl (fun hc30 => ?_) (fun hc30 => ?_)
    ·have hc30b := hc30
     have hc30m : ¬ (D.getD i []) ∈ acc := of_decide_eq_false (by simpa using hc30b)
     iterate 3 refine RW.w ?_
     refine RW.both _ _ rfl rfl rfl (fun hc31 => ?_) (fun hc31 => ?_)
     ·have hc31b := hc31
      have hc31 := of_decide_eq_true hc31
      have hcneg := hc31
      iterate 11 refine RW.s ?_
      refine RW.w ?_
      refine RW.v ?_
      refine RW.nil ?_
      refine ⟨⟨by kernel_rfl, ⟨trivial, trivial, trivial, trivial, dyn_row (H23.old _ _ hF27) (H29.old _ _ hF27) ⟨nB, nB, nB, nB, nB, fun _ => H23.old _ _ hF27, nB, nB, nB, nB, nB, nB, nB, nB, nB, nB, nB, nB, nB, nB, nB, nB, nB, nB, trivial⟩, trivial, trivial, trivial, trivial, trivial, trivial, trivial, trivial, trivial, trivial, trivial, trivial, trivial, trivial, trivial, trivial, trivial, trivial, trivial, trivial⟩⟩, ?_⟩
      replace H := H29
      clear H23 H29
      refine W.c1 ?_
      refine W.region ?_
      iterate 2 refine RW.v ?_
      refine RW.nil ?_
      refine blkQ_normal ?_
      refine W.rg [(5, du), (6, u), (8, .int .i64 ((i : Nat) : Int)), (9, .int .i64 ((i : Nat) : Int))] fun TA => ?_
      refine W.region ?_
      refine RW.v ?_
      refine RW.valE (v' := .int .i64 (((i : Nat) : Int) + 1)) (by kernel_rfl) (by kernel_rfl) rfl (congrArg (Value.int .i64) (wrap_in (by omega) (by omega))) (by kernel_rfl) ?_
      refine RW.v ?_
      refine RW.nil ?_
      replace H := H.back leB
      rw [hFB] at H
      exact ⟨rfl, mmi - 1, by omega, i + 1, (i : Int), (by omega), (bestS_first2 hbb hcneg (vS_out hc30m)), H, rfl, rfl, rfl, rfl⟩
     ·have hc31b := hc31
      have hc31 := of_decide_eq_false hc31
      have hcneg := hc31
      obtain ⟨hb0, hB⟩ := bestS_some hbb hcneg
      have hbl : b.toNat < D.length := by have := hB.1; omega
      have hXb := hDm _ (mem_of (l := D) (j := b.toNat) hbl)
      iterate 2 refine RW.w ?_
      refine RW.idxF (hcd.le leB) (by rfl) (by kernel_rfl) rfl Tryd.underlying22 (by kernel_rfl) rfl rfl ⟨by omega, by omega⟩ (by kernel_rfl) ?_
      intro b32 q33 r34 hF35 hE36
      rw [strs_at (l := D) (j := i) (i := ((i : Nat) : Int)) (by omega) (by omega)] at hE36
      refine RW.loads 1 (by rfl) (by kernel_rfl) rfl rfl (H29.old _ _ hF35) hE36 rfl (by kernel_rfl) ?_
      refine RW.cl (hw := by rfl) ?_
      refine ((r_chars (hsmM _ hXd.2) H29).mono ?_)
      rintro cu37 _ ⟨F, _, le, rfl, hu38, H39⟩
      have leBo40 := leB
      replace leB := fun b y h => le b y (leB b y h)
      rw [chars_yes hXd.1] at hu38
      have hF27o41 := hF27
      replace hF27 := le _ _ hF27
      have hF35o42 := hF35
      replace hF35 := le _ _ hF35
      iterate 2 refine RW.w ?_
      refine RW.idxF hcd (by rfl) (by kernel_rfl) rfl Tryd.underlying22 (by kernel_rfl) rfl rfl ⟨by omega, by omega⟩ (by kernel_rfl) ?_
      intro b43 q44 r45 hF46 hE47
      rw [strs_at (l := D) (j := (b).toNat) (i := b) (by omega) (by omega)] at hE47
      have hF46o48 := leBo40 _ _ hF46
      replace hF46 := leB _ _ hF46
      refine RW.loads 1 (by rfl) (by kernel_rfl) rfl rfl (H39.old _ _ hF46) hE47 rfl (by kernel_rfl) ?_
      refine RW.cl (hw := by rfl) ?_
      refine ((r_chars (hsmM _ hXb.2) H39).mono ?_)
      rintro cu49 _ ⟨F, _, le, rfl, hu50, H51⟩
      have leBo52 := leB
      replace leB := fun b y h => le b y (leB b y h)
      replace hu38 := hu38.le le
      rw [chars_yes hXb.1] at hu50
      have hF27o53 := hF27
      replace hF27 := le _ _ hF27
      have hF35o54 := hF35
      replace hF35 := le _ _ hF35
      have hF46o55 := hF46
      replace hF46 := le _ _ hF46
      refine RW.cl (hw := by rfl) ?_
      refine ((r_ahead (a := (runes (D.getD i []))) (b := (runes (D.getD ((b).toNat) []))) hu38.slf hu50.slf (Nat.le_trans (runes_le _) (hsmM _ hXd.2)) H51).mono ?_)
      rintro _ _ ⟨rfl, H56⟩
      refine RW.w ?_
      refine RW.v ?_
      refine RW.nil ?_
      refine ⟨⟨by kernel_rfl, ⟨trivial, trivial, trivial, trivial, dyn_row (H23.old _ _ hF27o41) (H56.old _ _ hF27) ⟨nB, nB, nB, nB, nB, fun _ => H23.old _ _ hF27o41, nB, nB, nB, nB, nB, nB, nB, nB, nB, fun _ => H29.old _ _ hF27o41, nB, nB, nB, nB, fun _ => H39.old _ _ hF27o53, fun _ => H51.old _ _ hF27, nB, nB, trivial⟩, trivial, trivial, trivial, trivial, trivial, trivial, trivial, trivial, trivial, dyn_row (H29.old _ _ hF35o42) (H56.old _ _ hF35) ⟨nB, nB, nB, nB, nB, fun _ => H23.old _ _ hF35o42, nB, nB, nB, nB, nB, nB, nB, nB, nB, fun _ => H29.old _ _ hF35o42, nB, nB, nB, nB, fun _ => H39.old _ _ hF35o54, fun _ => H51.old _ _ hF35, nB, nB, trivial⟩, trivial, trivial, trivial, trivial, dyn_row (H39.old _ _ hF46o55) (H56.old _ _ hF46) ⟨nB, nB, nB, nB, nB, fun _ => H23.old _ _ hF46o48, nB, nB, nB, nB, nB, nB, nB, nB, nB, fun _ => H29.old _ _ hF46o48, nB, nB, nB, nB, fun _ => H39.old _ _ hF46o55, fun _ => H51.old _ _ hF46, nB, nB, trivial⟩, trivial, trivial, trivial, trivial, trivial⟩⟩, ?_⟩
      replace H := H56
      clear H23 H29 H39 H51 H56
      refine W.rg [(5, du), (6, u), (8, .int .i64 b), (9, .int .i64 ((i : Nat) : Int)), (74, .bool (aheadM (runes (D.getD i [])) (runes (D.getD ((b).toNat) []))))] fun TA => ?_
      refine W.cond rfl (fun hc57 => ?_) (fun hc57 => ?_)
      ·have hc57b := hc57
       refine W.region ?_
       iterate 2 refine RW.v ?_
       refine RW.nil ?_
       refine blkQ_normal ?_
       refine W.rg [(5, du), (6, u), (8, .int .i64 ((i : Nat) : Int)), (9, .int .i64 ((i : Nat) : Int))] fun TA => ?_
       refine W.region ?_
       refine RW.v ?_
       refine RW.valE (v' := .int .i64 (((i : Nat) : Int) + 1)) (by kernel_rfl) (by kernel_rfl) rfl (congrArg (Value.int .i64) (wrap_in (by omega) (by omega))) (by kernel_rfl) ?_
       refine RW.v ?_
       refine RW.nil ?_
       replace H := H.back leB
       rw [hFB] at H
       exact ⟨rfl, mmi - 1, by omega, i + 1, (i : Int), (by omega), (bestS_less2 hbb hcneg (vS_out hc30m) (by rw [← ahead_lt hXd.1 hXb.1]; exact hc57b)), H, rfl, rfl, rfl, rfl⟩
      ·have hc57b := hc57
       refine W.skip ?_
       refine blkQ_normal ?_
       refine W.region ?_
       refine RW.v ?_
       refine RW.valE (v' := .int .i64 (((i : Nat) : Int) + 1)) (by kernel_rfl) (by kernel_rfl) rfl (congrArg (Value.int .i64) (wrap_in (by omega) (by omega))) (by kernel_rfl) ?_
       refine RW.v ?_
       refine RW.nil ?_
       replace H := H.back leB
       rw [hFB] at H
       exact ⟨rfl, mmi - 1, by omega, i + 1, b, (by omega), (bestS_keep2 hbb hcneg (vS_out hc30m) (by rw [← ahead_lt hXd.1 hXb.1]; exact hc57b)), H, rfl, rfl, rfl, rfl⟩
    ·have hc30b := hc30
     have hc30m : (D.getD i []) ∈ acc := of_decide_eq_true (by simpa using hc30b)
     iterate 15 refine RW.s ?_
     refine RW.v ?_
     refine RW.nil ?_
     refine ⟨⟨by kernel_rfl, ⟨trivial, trivial, trivial, trivial, dyn_row (H23.old _ _ hF27) (H29.old _ _ hF27) ⟨nB, nB, nB, nB, nB, fun _ => H23.old _ _ hF27, nB, nB, nB, nB, nB, nB, nB, nB, nB, nB, nB, nB, nB, nB, nB, nB, nB, nB, trivial⟩, trivial, trivial, trivial, trivial, trivial, trivial, trivial, trivial, trivial, trivial, trivial, trivial, trivial, trivial, trivial, trivial, trivial, trivial, trivial, trivial⟩⟩, ?_⟩
     replace H := H29
     clear H23 H29
     refine W.c0 ?_
     refine W.skip ?_
     refine blkQ_normal ?_
     refine W.region ?_
     refine RW.v ?_
     refine RW.valE (v' := .int .i64 (((i : Nat) : Int) + 1)) (by kernel_rfl) (by kernel_rfl) rfl (congrArg (Value.int .i64) (wrap_in (by omega) (by omega))) (by kernel_rfl) ?_
     refine RW.v ?_
     refine RW.nil ?_
     replace H := H.back leB
     rw [hFB] at H
     exact ⟨rfl, mmi - 1, by omega, i + 1, b, (by omega), (bestS_skip2 hbb (vS_in hc30m)), H, rfl, rfl, rfl, rfl⟩
   ·have hc22b := hc22
    have hc22 := of_decide_eq_false hc22
    refine W.exit _ ?_
    refine seqQ_exit ?_
    refine rndQ_exit ?_
    have hi0 : i = D.length := by omega
    rw [hi0] at hbb
    have hcneg : ¬ b < 0 := fun hb => by have := remV_none (bestS_none hbb hb); rw [this] at hlen; simp only [List.length_nil] at hlen; omega
    obtain ⟨hb0, hB⟩ := bestS_some hbb hcneg
    have hbl : b.toNat < D.length := by have := hB.1; omega
    have hXb := hDm _ (mem_of (l := D) (j := b.toNat) hbl)
    have hrd := remV_take ltS_ord hB (v' := vS D (acc ++ [D.getD b.toNat []])) (vS_in (List.mem_append.2 (.inr (List.mem_singleton.2 rfl)))) (fun k hkl hk => vS_ne hDn hbl hkl hk)
    have hrl := hrd.1.len
    rw [List.length_cons] at hrl
    refine blkQ_here ?_
    refine W.region ?_
    iterate 3 refine RW.v ?_
    refine RW.idxF (hcd.le leB) (by kernel_rfl) (by kernel_rfl) rfl Tryd.underlying22 (by kernel_rfl) rfl rfl ⟨by omega, by omega⟩ (by kernel_rfl) ?_
    intro b58 q59 r60 hF61 hE62
    rw [strs_at (l := D) (j := (b).toNat) (i := b) (by omega) (by omega)] at hE62
    refine RW.loads 1 (by kernel_rfl) (by kernel_rfl) rfl rfl (H.old _ _ hF61) hE62 rfl (by kernel_rfl) ?_
    refine RW.mkL H (x := .row ⟨[.string ⟨(D.getD ((b).toNat) []).toArray⟩], 9, false⟩) (fm := fun b => .slice (some ⟨b, 0, none⟩) 1 1) (by kernel_rfl) (by kernel_rfl) (by kernel_rfl) (by kernel_rfl) ?_
    clear H; intro _ b63 _ H
    refine RW.appL H 1 0 (n := 1) (e2 := 9) (by kernel_rfl) (by kernel_rfl) rfl rfl rfl rfl rfl rfl rfl rfl (by kernel_rfl) (by kernel_rfl) (by kernel_rfl) (by decide) (by decide) rfl rfl (by omega) (by kernel_rfl) ?_
    clear H; intro _ v64 _ H
    dsimp only [setL, delL] at H
    refine RW.v ?_
    refine RW.nil ?_
    refine blkQ_normal ?_
    rw [show acc.length + 1 = (acc ++ [(D.getD b.toNat [])]).length by rw [List.length_append]; rfl, show rowX celS acc ++ [.string ⟨((D.getD b.toNat []) : List UInt8).toArray⟩] = rowX celS (acc ++ [(D.getD b.toNat [])]) from (rowX_snoc acc (D.getD b.toNat [])).symm] at H
    exact ⟨rfl, mm - 1, by omega, (acc ++ [D.getD b.toNat []]), (S ++ [D.getD b.toNat []]), v64, (by rw [List.length_append, List.length_singleton]; omega), (by rw [hS, List.append_assoc]), (hTk.next hrd.1 hrd.2), (by rw [List.length_append, List.length_singleton]; omega), H, rfl, rfl⟩
  ·have hc21b := hc21
   have hc21 := of_decide_eq_false hc21
   refine W.exit _ ?_
   refine seqQ_exit ?_
   refine rndQ_exit ?_
   have hr0 : (remV (vS D acc) D.length).length = 0 := by omega
   rw [List.eq_nil_of_length_eq_zero hr0] at hTk
   refine blkQ_here ?_
   refine W.seq (W.region ?_)
   iterate 2 refine RW.v ?_
   refine RW.nil ?_
   refine W.ret ?_
   refine endG (by rfl) (by exact resL_tmp rfl) ?_
   have ea : sortC l rc = acc := by unfold sortC; rw [← hD, ← hOd, ← hQ, ← hTk.done ltS_ord, hS]
   rw [ea, ← rowS_map acc]
   obtain ⟨F', le, hv, H⟩ := H.freezeSl 0 rfl
   dsimp only [setL, delL] at H
   exact ⟨F', fun b y h => le b y (le0 b y h), hv, H⟩
end
end Go.Proofs.YtjcmdifpkafdkaaDoor
namespace Go.Proofs.YtjcmdifpkafdkaaDoor
open Go.Lib
set_option maxRecDepth 100000
theorem sortL_len {α : Type} {lt : α → α → Bool} (l : List α) : (sortL lt l).length = l.length := (sortL_stab l).len
theorem flexC_len {fold : Bool} {l : List (List UInt8)} {s : List UInt8} {n : Nat} (h : l.length ≤ n) : (flexC fold l s).length ≤ n := by
 unfold flexC
 split
 ·rw [List.length_map, sortL_len]
  unfold flexM
  exact Nat.le_trans (List.length_filterMap_le ..) (Nat.le_trans (distG_len l []) h)
 ·exact Nat.zero_le _
theorem sortC_len {l rc : List (List UInt8)} (h : l.length ≤ 1000000) (k : rc.length ≤ 1000000) : (sortC l rc).length ≤ 1000000 := by
 have e : (sortC l rc).length = (distM l).length := by
  unfold sortC
  rw [List.length_append, sortL_len]
  exact out_len (distG_nodup l []) ((distG_nodup rc []).filter _) fun x hx => of_decide_eq_true (List.mem_filter.1 hx).2
 rw [e]
 exact Nat.le_trans (distG_len l []) h
set_option maxHeartbeats 16000000 in
theorem corders_law {G : Nat} {σ0 : Mem} {v1 v2 : Value} {l rc : List (List UInt8)} {s : List UInt8} {fold : Bool} (hG : G ≤ σ0.next) (hno : σ0.abs = Abs.no) (h16 : 16 ≤ G) (hU : U8F σ0.get) (CK : ∀ σ', (∀ b y, σ0.get b = some y → σ'.get b = some y) → SCall G Tryd.prog 11 #[] σ' (.bool true) σ') (hl0 : l.length ≤ 9223372036854775807) (hr0 : rc.length ≤ 9223372036854775807) (h1 : SlF σ0.get 1 v1 l.length (l.map strV)) (h2 : SlF σ0.get 1 v2 rc.length (rc.map strV)) :
  WC G Tryd.prog 5 #[v1, v2, .string ⟨s.toArray⟩, .bool fold] σ0 fun v _ => v = .bool true := by
 have H := Lies.start hG hno
 generalize σ0.get = F0 at H h1 h2 hU CK
 obtain ⟨F, hF⟩ : ∃ F, F = F0 := ⟨_, rfl⟩
 have le0 : Le F0 F := fun b y h => hF ▸ h
 rw [← hF] at H
 clear hF
 refine WC.enter (fn := Tryd.f5) Tryd.func5 rfl ?_
 refine W.rg [(0, v1), (1, v2), (2, .string ⟨s.toArray⟩), (3, .bool fold)] fun TA => ?_
 refine W.seq (W.region ?_)
 refine RW.v ?_
 refine RW.nil ?_
 refine W.rg [(0, v1), (1, v2), (2, .string ⟨s.toArray⟩), (3, .bool fold)] fun TA => ?_
 refine W.seq ?_
 refine W.seq (W.region ?_)
 iterate 2 refine RW.v ?_
 refine RW.cl ?_
 refine ((light_wc (h1.le le0) hl0 H).mono ?_)
 clear H
 rintro _ _ ⟨lb, rfl, hlb, H⟩
 iterate 2 refine RW.v ?_
 refine RW.both _ _ rfl rfl rfl (fun hc1 => ?_) (fun hc1 => ?_)
 ·have hc1b := hc1
  iterate 3 refine RW.s ?_
  refine RW.v ?_
  refine RW.nil ?_
  refine W.c1 ?_
  refine W.seq (W.region ?_)
  refine RW.cl ?_
  refine ⟨_, _, (CK _ fun b y h => H.old _ _ (le0 b y h)), ?_⟩
  refine RW.v ?_
  refine RW.nil ?_
  refine W.ret ?_
  refine seqQ_ret ?_
  refine endG (by rfl) (by exact resL_tmp rfl) ?_
  exact rfl
 ·have hc1b := hc1
  refine RW.w ?_
  refine RW.cl (hw := by rfl) ?_
  refine ((lightTexts_wc (h2.le le0) hr0 H).mono ?_)
  clear H
  rintro _ _ ⟨rb, rfl, hrb, H⟩
  refine RW.w ?_
  refine RW.v ?_
  refine RW.nil ?_
  refine W.rg [(0, v1), (1, v2), (2, .string ⟨s.toArray⟩), (3, .bool fold), (21, .bool (!rb))] fun TA => ?_
  refine W.cond rfl (fun hc2 => ?_) (fun hc2 => ?_)
  ·have hc2b := hc2
   refine W.seq (W.region ?_)
   refine RW.cl ?_
   refine ⟨_, _, (CK _ fun b y h => H.old _ _ (le0 b y h)), ?_⟩
   refine RW.v ?_
   refine RW.nil ?_
   refine W.ret ?_
   refine seqQ_ret ?_
   refine endG (by rfl) (by exact resL_tmp rfl) ?_
   exact rfl
  ·have hc2b := hc2
   obtain ⟨hl40, hx60, hs60⟩ := hlb (by simpa using hc1b)
   have hl : l.length ≤ 1000000 := by omega
   have hsm : ∀ x ∈ l, x.length ≤ 1000000 := fun x hx => Nat.le_trans (hx60 x hx) (by decide)
   have hs : s.length ≤ 1000000 := by omega
   have hsmB : ∀ x ∈ l, x.length ≤ 60000 := fun x hx => Nat.le_trans (hx60 x hx) (by decide)
   have hsB : s.length ≤ 60000 := by omega
   obtain ⟨hr40, hr60⟩ := hrb (by simpa using hc2b)
   have hrl : rc.length ≤ 1000000 := by omega
   have hrm : ∀ x ∈ rc, x.length ≤ 1000000 := fun x hx => Nat.le_trans (hr60 x hx) (by decide)
   refine W.skip ?_
   refine W.seq (W.region ?_)
   refine RW.v ?_
   refine RW.cl ?_
   refine ((own_wcS (h1.le le0) hl H).mono ?_)
   clear H
   rintro iv _ ⟨F, le, hin, H⟩
   replace le0 := fun b y h => le b y (le0 b y h)
   obtain ⟨Z, hZ⟩ : ∃ Z, Z = flexC fold l s := ⟨_, rfl⟩
   have hZl : Z.length ≤ 1000000 := by rw [hZ]; exact flexC_len hl
   obtain ⟨Y, hY⟩ : ∃ Y, Y = sortC l rc := ⟨_, rfl⟩
   have hYl : Y.length ≤ 1000000 := by rw [hY]; exact sortC_len hl hrl
   refine RW.v ?_
   refine RW.cl ?_
   refine ((own_wcS (h2.le le0) hrl H).mono ?_)
   clear H
   rintro ov _ ⟨F, le, hov, H⟩
   replace le0 := fun b y h => le b y (le0 b y h)
   replace hin := hin.le le
   iterate 2 refine RW.v ?_
   refine RW.nil ?_
   refine W.rg [(0, v1), (1, v2), (2, .string ⟨s.toArray⟩), (3, .bool fold), (9, iv), (10, ov)] fun TA => ?_
   refine W.seq (W.region ?_)
   iterate 3 refine RW.v ?_
   refine RW.cl ?_
   refine ((Flex_wc (fold := fold) (hU.le le0) h16 hin hl40 hsm hs H).mono ?_)
   clear H
   rintro a1 _ ⟨F, le, ha1, H⟩
   replace ha1 := ha1.slf
   replace le0 := fun b y h => le b y (le0 b y h)
   replace hin := hin.le le
   replace hov := hov.le le
   rw [← hZ] at ha1
   iterate 2 refine RW.v ?_
   refine RW.cl ?_
   refine ((Sort_wc (hU.le le0) h16 hin hov hl40 hr40 hsm hrm H).mono ?_)
   clear H
   rintro b1 _ ⟨F, le, hb1, H⟩
   replace le0 := fun b y h => le b y (le0 b y h)
   replace hin := hin.le le
   replace hov := hov.le le
   replace ha1 := ha1.le le
   rw [← hY] at hb1
   iterate 2 refine RW.v ?_
   refine RW.nil ?_
   refine W.rg [(0, v1), (1, v2), (2, .string ⟨s.toArray⟩), (3, .bool fold), (9, iv), (10, ov), (11, a1), (12, b1)] fun TA => ?_
   refine W.seq (W.region ?_)
   iterate 4 refine RW.v ?_
   refine RW.cl ?_
   refine ((r_flexR (fold := fold) (h1.le le0) hl hsmB hsB H).mono ?_)
   clear H
   rintro a2 _ ⟨F, le, ha2, H⟩
   replace le0 := fun b y h => le b y (le0 b y h)
   replace hin := hin.le le
   replace hov := hov.le le
   replace ha1 := ha1.le le
   replace hb1 := hb1.le le
   rw [← hZ] at ha2
   refine RW.cl ?_
   refine ((same_wcS ha1 ha2 hZl H).mono ?_)
   clear H
   rintro vq _ ⟨hvq, H⟩
   replace hvq := hvq.trans (congrArg Value.bool (decide_eq_true (rfl : Z = Z)))
   subst hvq
   refine RW.v ?_
   iterate 3 refine RW.w ?_
   refine RW.cl (hw := by rfl) ?_
   refine ((r_sortR (h1.le le0) (h2.le le0) hl hrl hsmB H).mono ?_)
   clear H
   rintro b2 _ ⟨F, le, hb2, H⟩
   replace le0 := fun b y h => le b y (le0 b y h)
   replace hin := hin.le le
   replace hov := hov.le le
   replace ha1 := ha1.le le
   replace hb1 := hb1.le le
   replace ha2 := ha2.le le
   rw [← hY] at hb2
   refine RW.cl (hw := by rfl) ?_
   refine ((same_wcS hb1 hb2 hYl H).mono ?_)
   clear H
   rintro vq _ ⟨hvq, H⟩
   replace hvq := hvq.trans (congrArg Value.bool (decide_eq_true (rfl : Y = Y)))
   subst hvq
   iterate 2 refine RW.v ?_
   iterate 2 refine RW.w ?_
   refine RW.cl (hw := by rfl) ?_
   refine ((same_wcS hin (h1.le le0) hl H).mono ?_)
   clear H
   rintro vq _ ⟨hvq, H⟩
   replace hvq := hvq.trans (congrArg Value.bool (decide_eq_true (rfl : l = l)))
   subst hvq
   iterate 2 refine RW.v ?_
   iterate 2 refine RW.w ?_
   refine RW.cl (hw := by rfl) ?_
   refine ((same_wcS hov (h2.le le0) hrl H).mono ?_)
   clear H
   rintro vq _ ⟨hvq, H⟩
   replace hvq := hvq.trans (congrArg Value.bool (decide_eq_true (rfl : rc = rc)))
   subst hvq
   iterate 2 refine RW.v ?_
   refine RW.cl (hw := by rfl) ?_
   refine ⟨_, _, (CK _ fun b y h => H.old _ _ (le0 b y h)), ?_⟩
   iterate 2 refine RW.v ?_
   refine RW.nil ?_
   refine W.ret ?_
   refine endG (by rfl) (by exact resL_tmp rfl) ?_
   exact rfl
end Go.Proofs.YtjcmdifpkafdkaaDoor
