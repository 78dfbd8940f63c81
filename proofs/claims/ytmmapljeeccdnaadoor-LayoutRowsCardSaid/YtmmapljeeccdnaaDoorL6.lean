/-
 The reference: Check, List; units in cells. Conditions: none.
 The reference's rows in plain words, and that they are the program's. Plain. Conditions: none.
 The reference: units of a character, blanks, room. Conditions: none.
 The reference: a row. Conditions: none.
-/
import Derived.Test.YtmmapljeeccdnaaDoorL2
import Derived.Test.YtmmapljeeccdnaaDoorRefList
import Derived.Test.YtmmapljeeccdnaaDoorR1
namespace Go.Proofs.YtmmapljeeccdnaaDoor
set_option maxRecDepth 100000
open Go.Lib Go.RowKit
instance : Inhabited Un := ⟨⟨[], 0, false⟩⟩
def unV : List Value → List Un → List Value
 | c :: cs, u :: l => c :: .int .i64 u.pos :: .bool u.fd :: unV cs l
 | _, _ => []
theorem unV_at : ∀ {cs : List Value} {l : List Un} {j : Nat}, cs.length = l.length → j < l.length → ((unV cs l).drop (j * 3)).take 3 = [cs.getD j undef, .int .i64 (l.getD j default).pos, .bool (l.getD j default).fd]
 | [], [], _, _, h => absurd h (Nat.not_lt_zero _)
 | _ :: cs, _ :: l, 0, _, _ => rfl
 | _ :: cs, _ :: l, j + 1, h1, h => by
  rw [show (j + 1) * 3 = j * 3 + 3 by omega]
  exact unV_at (l := l) (j := j) (by simpa using h1) (by simpa using h)
theorem unV_ati {cs : List Value} {l : List Un} {j : Nat} (h1 : cs.length = l.length) (h : j < l.length) : ((unV cs l).drop (((j : Nat) : Int).toNat * 3)).take 3 = [cs.getD j undef, .int .i64 (l.getD j default).pos, .bool (l.getD j default).fd] := unV_at h1 h
theorem unV_app : ∀ {cs : List Value} {l : List Un} (c : Value) (u : Un), cs.length = l.length → unV (cs ++ [c]) (l ++ [u]) = unV cs l ++ [c, .int .i64 u.pos, .bool u.fd]
 | [], [], _, _, _ => rfl
 | _ :: cs, _ :: l, c, u, h => by
  show _ :: _ :: _ :: unV (cs ++ [c]) (l ++ [u]) = _ :: _ :: _ :: (unV cs l ++ _)
  rw [unV_app c u (by simpa using h)]
theorem unV_take : ∀ {cs : List Value} {l : List Un} {k : Nat}, cs.length = l.length → (unV cs l).take (k * 3) = unV (cs.take k) (l.take k)
 | [], [], k, _ => by simp [unV]
 | _ :: _, _ :: _, 0, _ => rfl
 | c :: cs, u :: l, k + 1, h => by
  rw [show (k + 1) * 3 = k * 3 + 1 + 1 + 1 by omega]
  show c :: _ :: _ :: (unV cs l).take (k * 3) = _
  rw [unV_take (by simpa using h)]
  rfl
theorem unV_drop : ∀ {cs : List Value} {l : List Un} {k : Nat}, cs.length = l.length → (unV cs l).drop (k * 3) = unV (cs.drop k) (l.drop k)
 | [], [], k, _ => by simp [unV]
 | _ :: _, _ :: _, 0, _ => rfl
 | c :: cs, u :: l, k + 1, h => by
  rw [show (k + 1) * 3 = k * 3 + 1 + 1 + 1 by omega]
  show (unV cs l).drop (k * 3) = _
  rw [unV_drop (by simpa using h)]
  rfl
def AllU (F : Nat → Option Blk2) (cs : List Value) (l : List Un) : Prop := cs.length = l.length ∧ ∀ j, j < l.length → SlF F 6 (cs.getD j undef) (l.getD j default).X.length (cC (l.getD j default).X)
theorem AllU.le {F F' : Nat → Option Blk2} {cs : List Value} {l : List Un} (h : AllU F cs l) (k : Le F F') : AllU F' cs l := ⟨h.1, fun j hj => (h.2 j hj).le k⟩
theorem AllU.nil {F : Nat → Option Blk2} : AllU F [] [] := ⟨rfl, fun j hj => absurd hj (Nat.not_lt_zero _)⟩
theorem AllU.snoc {F : Nat → Option Blk2} {cs : List Value} {l : List Un} {c : Value} {u : Un} (a : AllU F cs l) (h : SlF F 6 c u.X.length (cC u.X)) : AllU F (cs ++ [c]) (l ++ [u]) := by
 refine ⟨by rw [List.length_append, List.length_append, a.1]; rfl, fun j hj => ?_⟩
 rw [List.length_append, List.length_singleton] at hj
 have a1 := a.1
 rcases Nat.lt_or_ge j l.length with k | k
 ·rw [getD_left (by omega), getD_left k]
  exact a.2 j k
 ·obtain rfl : j = l.length := by omega
  rw [getD_last (show l.length = cs.length by omega), getD_last rfl]
  exact h
theorem AllU.take {F : Nat → Option Blk2} {cs : List Value} {l : List Un} (a : AllU F cs l) (k : Nat) : AllU F (cs.take k) (l.take k) := by
 refine ⟨by rw [List.length_take, List.length_take, a.1], fun j hj => ?_⟩
 rw [List.length_take] at hj
 rw [getD_take (by omega), getD_take (by omega)]
 exact a.2 j (by omega)
theorem getD_drop {α : Type} {l : List α} {j k : Nat} {d : α} : (l.drop k).getD j d = l.getD (k + j) d := by
 rw [List.getD_eq_getElem?_getD, List.getD_eq_getElem?_getD, List.getElem?_drop]
theorem AllU.drop {F : Nat → Option Blk2} {cs : List Value} {l : List Un} (a : AllU F cs l) (k : Nat) : AllU F (cs.drop k) (l.drop k) := by
 refine ⟨by rw [List.length_drop, List.length_drop, a.1], fun j hj => ?_⟩
 rw [List.length_drop] at hj
 rw [getD_drop, getD_drop]
 exact a.2 _ (by omega)
theorem dec_ok {l : List UInt8} (hne : l ≠ []) (hv : validD l = true) : ¬ ((decodeL l).1 = 65533 ∧ (decodeL l).2 = 1) ∧ (1 ≤ (decodeL l).2 ∧ (decodeL l).2 ≤ l.length) ∧ runes l = (((decodeL l).1 : Nat) : Int) :: runes (l.drop (decodeL l).2) ∧ validD (l.drop (decodeL l).2) = true := by
 have he := valid_eq hv
 have hc := valid_ch hv
 have hst := runes_step l hne
 rw [hst] at he hc
 have hch := hc _ (List.mem_cons_self ..)
 have hd : decodeL l = ((((decodeL l).1 : Nat) : Int).toNat, (encodeRune (((decodeL l).1 : Nat) : Int)).length) := by
  conv => lhs; rw [← he, encA_cons]
  exact decode_enc _ hch _
 have h2 : (decodeL l).2 = (encodeRune (((decodeL l).1 : Nat) : Int)).length := congrArg Prod.snd hd
 have hgood : ¬ ((decodeL l).1 = 65533 ∧ (decodeL l).2 = 1) := by
  have := enc_good _ hch
  rw [Int.toNat_natCast, ← h2] at this
  exact this
 have hl := enc_len (((decodeL l).1 : Nat) : Int)
 have hs := split_dec l hne hgood
 refine ⟨hgood, ⟨by omega, ?_⟩, hst, ?_⟩
 ·have := congrArg List.length hs
  rw [List.length_append, ← h2, List.length_drop] at this
  omega
 ·rw [hs, valid_enc _ hch] at hv
  exact hv
theorem ints_snoc {l : List Int} {x : Int} : l.map (Value.int .i64) ++ [.int .i64 x] = (l ++ [x]).map (Value.int .i64) := by simp
theorem ints_len {l : List Int} {x : Int} : l.length + 1 = (l ++ [x]).length := by simp
section
variable {G : Nat} {A : Abs} {σ : Mem} {F : Nat → Option Blk2} {L : List Ent} {fr to_ : Int}
theorem s_rvalid {bs : List UInt8} (hs : bs.length ≤ 1000000) : SCall G Tryd.prog 41 #[.string ⟨bs.toArray⟩] σ (.bool (validD bs)) σ :=
 below_call rfl rfl fun w => by
  have := ref_valid ⟨bs.toArray⟩ w (by show bs.length ≤ _; omega)
  simpa using this
theorem s_rlen {bs : List UInt8} (hs : bs.length ≤ 1000000) (hv : validD bs = true) : SCall G Tryd.prog 42 #[.string ⟨bs.toArray⟩] σ (.int .i64 (((runes bs).length : Nat) : Int)) σ :=
 below_call rfl rfl fun w => by
  have := ref_len ⟨bs.toArray⟩ w (by show bs.length ≤ _; omega)
  rw [lenOf_yes (by simpa using hv)] at this
  simpa using this
theorem s_rwidth (c : Int) : SCall G Tryd.prog 57 #[.int .i64 c] σ (.int .i64 (widthOf c)) σ :=
 below_call rfl rfl fun w => ref_width c w
theorem s_point {bs : List UInt8} (hs : bs.length ≤ 1000000) (hne : bs ≠ []) (hg : ¬ ((decodeL bs).1 = 65533 ∧ (decodeL bs).2 = 1)) : SCall G Tryd.prog 56 #[.string ⟨bs.toArray⟩] σ (.tuple #[.int .i64 (((decodeL bs).1 : Nat) : Int), .int .i64 (((decodeL bs).2 : Nat) : Int)]) σ :=
 below_call rfl rfl fun w => by
  have hl : 0 < bs.length := List.length_pos_iff.2 hne
  refine (point_any ⟨bs.toArray⟩ w (by show bs.length ≤ _; omega) (by show 0 < bs.length; exact hl)).mono ?_
  rintro e w' ⟨rfl, q, rfl⟩
  have hp : ptOf bs = decodeL bs := if_neg hg
  refine ⟨?_, below_drewN (Below.refl _ _) _⟩
  show _ = _
  rw [show (⟨bs.toArray⟩ : ByteArray).data.toList = bs by simp, hp]
set_option maxHeartbeats 8000000 in
theorem r_check {l : List Prt} {v1 : Value} (h1 : SlF F 9 v1 l.length (pC l)) (hl : l.length ≤ 1000000) (hsm : ∀ x ∈ l, x.s.length ≤ 1000000) (H : Lies G A F σ L) : WC G Tryd.prog 17 #[v1, .int .i64 fr, .int .i64 to_] σ fun v σ' => v = .int .i64 (checkM l fr to_) ∧ Lies G A F σ' L := by
 refine WC.enter (fn := Tryd.f17) Tryd.func17 rfl ?_
 refine W.rg [(0, v1), (1, .int .i64 fr), (2, .int .i64 to_)] fun TA => ?_
 refine W.seq (W.region ?_)
 refine RW.v ?_
 refine RW.nil ?_
 refine W.rg [(0, v1), (1, .int .i64 fr), (2, .int .i64 to_)] fun TA => ?_
 refine W.seq ?_
 refine W.seq (W.region ?_)
 iterate 3 refine RW.v ?_
 refine RW.both _ _ rfl rfl rfl (fun hc1 => ?_) (fun hc1 => ?_)
 ·have hc1b := hc1
  have hc1 := of_decide_eq_true hc1
  iterate 3 refine RW.s ?_
  iterate 2 refine RW.v ?_
  iterate 2 refine RW.s ?_
  refine RW.v ?_
  refine RW.nil ?_
  refine W.c1 ?_
  refine W.seq (W.region ?_)
  refine RW.v ?_
  refine RW.nil ?_
  refine W.ret ?_
  refine seqQ_ret ?_
  refine endG (by rfl) (by exact resL_tmp rfl) ?_
  refine ⟨?_, H⟩
  have em : checkM l fr to_ = 3 := by unfold checkM; rw [if_pos (by omega)]
  exact Eq.trans rfl (congrArg (Value.int .i64) em.symm)
 ·have hc1b := hc1
  have hc1 := of_decide_eq_false hc1
  iterate 3 refine RW.w ?_
  iterate 2 refine RW.v ?_
  refine RW.both _ _ rfl rfl rfl (fun hc2 => ?_) (fun hc2 => ?_)
  ·have hc2b := hc2
   have hc2 := of_decide_eq_true hc2
   iterate 2 refine RW.s ?_
   refine RW.v ?_
   refine RW.nil ?_
   refine W.c1 ?_
   refine W.seq (W.region ?_)
   refine RW.v ?_
   refine RW.nil ?_
   refine W.ret ?_
   refine seqQ_ret ?_
   refine endG (by rfl) (by exact resL_tmp rfl) ?_
   refine ⟨?_, H⟩
   have em : checkM l fr to_ = 3 := by unfold checkM; rw [if_pos (by omega)]
   exact Eq.trans rfl (congrArg (Value.int .i64) em.symm)
  ·have hc2b := hc2
   have hc2 := of_decide_eq_false hc2
   iterate 2 refine RW.w ?_
   refine RW.v ?_
   refine RW.nil ?_
   refine W.rg [(0, v1), (1, .int .i64 fr), (2, .int .i64 to_), (20, .bool (decide (to_ > 65537)))] fun TA => ?_
   refine W.cond rfl (fun hc3 => ?_) (fun hc3 => ?_)
   ·have hc3b := hc3
    have hc3 := of_decide_eq_true hc3
    refine W.seq (W.region ?_)
    refine RW.v ?_
    refine RW.nil ?_
    refine W.ret ?_
    refine seqQ_ret ?_
    refine endG (by rfl) (by exact resL_tmp rfl) ?_
    refine ⟨?_, H⟩
    have em : checkM l fr to_ = 3 := by unfold checkM; rw [if_pos (by omega)]
    exact Eq.trans rfl (congrArg (Value.int .i64) em.symm)
   ·have hc3b := hc3
    have hc3 := of_decide_eq_false hc3
    refine W.skip ?_
    refine W.seq (W.region ?_)
    iterate 2 refine RW.v ?_
    refine RW.nil ?_
    refine W.rg [(0, v1), (1, .int .i64 fr), (2, .int .i64 to_), (7, .int .i64 fr)] fun TA => ?_
    refine W.seq ?_
    refine W.seq (W.region ?_)
    refine RW.v ?_
    refine RW.nil ?_
    refine W.rg [(0, v1), (1, .int .i64 fr), (2, .int .i64 to_), (7, .int .i64 fr), (8, .int .i64 0)] fun TA => ?_
    refine W.block ?_
    refine W.loop (fun mm ta σ => ∃ (i : Nat) (z : Int), (mm + i = l.length) ∧ (checkL fr to_ fr l = checkL fr to_ z (l.drop i)) ∧ Lies G A F σ ((L)) ∧ ta 0 = v1 ∧ ta 1 = .int .i64 fr ∧ ta 2 = .int .i64 to_ ∧ ta 7 = .int .i64 z ∧ ta 8 = .int .i64 ((i : Nat) : Int)) l.length ?_ ?_
    ·exact ⟨0, fr, (by omega), rfl, H, rfl, rfl, rfl, rfl, rfl⟩
    clear H
    rintro mm ta _ ⟨i, z, hm, hT, H, e0, e1, e2, e7, e8⟩
    refine W.rst [(0, v1), (1, .int .i64 fr), (2, .int .i64 to_), (7, .int .i64 z), (8, .int .i64 ((i : Nat) : Int))] ⟨e0, e1, e2, e7, e8, trivial⟩ fun TA => ?_
    clear e0 e1 e2 e7 e8
    refine W.seq ?_
    refine W.seq (W.region ?_)
    iterate 2 refine RW.v ?_
    refine RW.len (by kernel_rfl) (by kernel_rfl) rfl rfl rfl rfl (h1.len (e := 52) (by kernel_rfl)) (by kernel_rfl) ?_
    refine RW.v ?_
    refine RW.nil ?_
    refine W.rg [(0, v1), (1, .int .i64 fr), (2, .int .i64 to_), (7, .int .i64 z), (8, .int .i64 ((i : Nat) : Int)), (25, .bool (decide (((i : Nat) : Int) < (l.length : Int))))] fun TA => ?_
    refine W.cond rfl (fun hc4 => ?_) (fun hc4 => ?_)
    ·have hc4b := hc4
     have hc4 := of_decide_eq_true hc4
     have hil : i < l.length := by omega
     have hrl := runes_le (l.getD i default).s
     have hsl := hsm _ (get_mem hil)
     refine W.skip ?_
     refine W.seq ?_
     refine W.block ?_
     refine W.seq (W.region ?_)
     iterate 2 refine RW.v ?_
     refine RW.idxF h1 (by kernel_rfl) (by kernel_rfl) rfl Tryd.underlying22 (by kernel_rfl) rfl rfl ⟨by omega, by omega⟩ (by kernel_rfl) ?_
     intro b5 q6 r7 hF8 hE9
     rw [pC_ati (l := l) (j := i) (by omega)] at hE9
     refine RW.loads 9 (by kernel_rfl) (by kernel_rfl) rfl rfl (H.old _ _ hF8) hE9 rfl (by kernel_rfl) ?_
     refine RW.mk H (.row ⟨[.int .i64 0, .int .i64 0, .int .i64 0, .string ByteArray.empty, .int .i64 0, .int .i64 0, .bool false, .bool false, .bool false], 52, false⟩) ?_
     clear H; intro _ b10 _ H
     refine RW.st H 0 [.int .i64 ((l.getD i default).k), .int .i64 ((l.getD i default).p), .int .i64 ((l.getD i default).t), .string ⟨((l.getD i default).s).toArray⟩, .int .i64 ((l.getD i default).b), .int .i64 ((l.getD i default).c), .bool ((l.getD i default).d), .bool ((l.getD i default).e), .bool ((l.getD i default).f)] [.int .i64 ((l.getD i default).k), .int .i64 ((l.getD i default).p), .int .i64 ((l.getD i default).t), .string ⟨((l.getD i default).s).toArray⟩, .int .i64 ((l.getD i default).b), .int .i64 ((l.getD i default).c), .bool ((l.getD i default).d), .bool ((l.getD i default).e), .bool ((l.getD i default).f)] ?_
     clear H; intro _ _ H; dsimp only [setL, delL] at H
     refine RW.nil ?_
     refine W.rg [(0, v1), (1, .int .i64 fr), (2, .int .i64 to_), (7, .int .i64 z), (8, .int .i64 ((i : Nat) : Int)), (9, .pointer (some ⟨b10, 0, none⟩))] fun TA => ?_
     refine W.seq ?_
     refine W.block ?_
     refine W.seq (W.region ?_)
     refine RW.v ?_
     refine RW.ld H 0 1 ?_
     iterate 2 refine RW.v ?_
     refine RW.both _ _ rfl rfl rfl (fun hc11 => ?_) (fun hc11 => ?_)
     ·have hc11b := hc11
      have hc11 := of_decide_eq_true hc11
      iterate 3 refine RW.s ?_
      iterate 2 refine RW.v ?_
      iterate 4 refine RW.s ?_
      iterate 2 refine RW.v ?_
      refine RW.nil ?_
      refine W.c1 ?_
      refine W.seq (W.region ?_)
      refine RW.v ?_
      refine RW.nil ?_
      replace H := (H.del 0)
      dsimp only [setL, delL] at H
      refine W.ret ?_
      refine blkQ_ret ?_
      refine seqQ_ret ?_
      refine blkQ_ret ?_
      refine seqQ_ret ?_
      refine rndQ_ret ?_
      refine blkQ_ret ?_
      refine seqQ_ret ?_
      refine endG (by rfl) (by exact resL_tmp rfl) ?_
      refine ⟨?_, H⟩
      have ec : checkP (l.getD i default) fr to_ z = 5 := by unfold checkP; (repeat' split) <;> first | rfl | (exfalso; omega) | (exfalso; simp_all)
      have em : checkM l fr to_ = 5 := by unfold checkM; rw [if_neg (by omega), hT, checkL_stop hil (by omega), ec]
      exact Eq.trans rfl (congrArg (Value.int .i64) em.symm)
     ·have hc11b := hc11
      have hc11 := of_decide_eq_false hc11
      refine RW.w ?_
      refine RW.ldL H 0 1 (by rfl) (by kernel_rfl) rfl rfl rfl rfl rfl (by kernel_rfl) ?_
      refine RW.w ?_
      iterate 2 refine RW.v ?_
      refine RW.both _ _ rfl rfl rfl (fun hc12 => ?_) (fun hc12 => ?_)
      ·have hc12b := hc12
       have hc12 := of_decide_eq_true hc12
       iterate 4 refine RW.s ?_
       iterate 2 refine RW.v ?_
       refine RW.nil ?_
       refine W.c1 ?_
       refine W.seq (W.region ?_)
       refine RW.v ?_
       refine RW.nil ?_
       replace H := (H.del 0)
       dsimp only [setL, delL] at H
       refine W.ret ?_
       refine blkQ_ret ?_
       refine seqQ_ret ?_
       refine blkQ_ret ?_
       refine seqQ_ret ?_
       refine rndQ_ret ?_
       refine blkQ_ret ?_
       refine seqQ_ret ?_
       refine endG (by rfl) (by exact resL_tmp rfl) ?_
       refine ⟨?_, H⟩
       have ec : checkP (l.getD i default) fr to_ z = 5 := by unfold checkP; (repeat' split) <;> first | rfl | (exfalso; omega) | (exfalso; simp_all)
       have em : checkM l fr to_ = 5 := by unfold checkM; rw [if_neg (by omega), hT, checkL_stop hil (by omega), ec]
       exact Eq.trans rfl (congrArg (Value.int .i64) em.symm)
      ·have hc12b := hc12
       have hc12 := of_decide_eq_false hc12
       refine RW.w ?_
       refine RW.ldL H 0 1 (by rfl) (by kernel_rfl) rfl rfl rfl rfl rfl (by kernel_rfl) ?_
       refine RW.cl (hw := by rfl) ?_
       refine ⟨_, _, (s_rvalid (by have := hsm _ (get_mem hil); omega)), ?_⟩
       refine RW.w ?_
       iterate 2 refine RW.v ?_
       refine RW.nil ?_
       refine W.rg [(0, v1), (1, .int .i64 fr), (2, .int .i64 to_), (7, .int .i64 z), (8, .int .i64 ((i : Nat) : Int)), (9, .pointer (some ⟨b10, 0, none⟩)), (32, .bool (!(validD (l.getD i default).s)))] fun TA => ?_
       refine W.cond rfl (fun hc13 => ?_) (fun hc13 => ?_)
       ·have hc13b := hc13
        have hvv : validD (l.getD i default).s = false := by simpa using hc13b
        refine W.seq (W.region ?_)
        refine RW.v ?_
        refine RW.nil ?_
        replace H := (H.del 0)
        dsimp only [setL, delL] at H
        refine W.ret ?_
        refine blkQ_ret ?_
        refine seqQ_ret ?_
        refine blkQ_ret ?_
        refine seqQ_ret ?_
        refine rndQ_ret ?_
        refine blkQ_ret ?_
        refine seqQ_ret ?_
        refine endG (by rfl) (by exact resL_tmp rfl) ?_
        refine ⟨?_, H⟩
        have ec : checkP (l.getD i default) fr to_ z = 5 := by unfold checkP; (repeat' split) <;> first | rfl | (exfalso; omega) | (exfalso; simp_all)
        have em : checkM l fr to_ = 5 := by unfold checkM; rw [if_neg (by omega), hT, checkL_stop hil (by omega), ec]
        exact Eq.trans rfl (congrArg (Value.int .i64) em.symm)
       ·have hc13b := hc13
        have hvv : validD (l.getD i default).s = true := by simpa using hc13b
        refine W.seq (W.region ?_)
        refine RW.v ?_
        refine RW.ld H 0 1 ?_
        iterate 3 refine RW.v ?_
        refine RW.both _ _ rfl rfl rfl (fun hc14 => ?_) (fun hc14 => ?_)
        ·have hc14b := hc14
         have hc14 := of_decide_eq_true hc14
         iterate 5 refine RW.s ?_
         iterate 2 refine RW.v ?_
         iterate 4 refine RW.s ?_
         iterate 2 refine RW.v ?_
         refine RW.nil ?_
         refine W.c1 ?_
         refine W.seq (W.region ?_)
         refine RW.v ?_
         refine RW.nil ?_
         replace H := (H.del 0)
         dsimp only [setL, delL] at H
         refine W.ret ?_
         refine blkQ_ret ?_
         refine seqQ_ret ?_
         refine blkQ_ret ?_
         refine seqQ_ret ?_
         refine rndQ_ret ?_
         refine blkQ_ret ?_
         refine seqQ_ret ?_
         refine endG (by rfl) (by exact resL_tmp rfl) ?_
         refine ⟨?_, H⟩
         have ec : checkP (l.getD i default) fr to_ z = 3 := by unfold checkP; (repeat' split) <;> first | rfl | (exfalso; omega) | (exfalso; simp_all)
         have em : checkM l fr to_ = 3 := by unfold checkM; rw [if_neg (by omega), hT, checkL_stop hil (by omega), ec]
         exact Eq.trans rfl (congrArg (Value.int .i64) em.symm)
        ·have hc14b := hc14
         have hc14 := of_decide_eq_false hc14
         refine RW.w ?_
         refine RW.ldL H 0 1 (by rfl) (by kernel_rfl) rfl rfl rfl rfl rfl (by kernel_rfl) ?_
         refine RW.w ?_
         refine RW.ldL H 0 1 (by rfl) (by kernel_rfl) rfl rfl rfl rfl rfl (by kernel_rfl) ?_
         refine RW.w ?_
         iterate 2 refine RW.v ?_
         refine RW.both _ _ rfl rfl rfl (fun hc15 => ?_) (fun hc15 => ?_)
         ·have hc15b := hc15
          have hc15 := of_decide_eq_true hc15
          iterate 4 refine RW.s ?_
          iterate 2 refine RW.v ?_
          refine RW.nil ?_
          refine W.c1 ?_
          refine W.seq (W.region ?_)
          refine RW.v ?_
          refine RW.nil ?_
          replace H := (H.del 0)
          dsimp only [setL, delL] at H
          refine W.ret ?_
          refine blkQ_ret ?_
          refine seqQ_ret ?_
          refine blkQ_ret ?_
          refine seqQ_ret ?_
          refine rndQ_ret ?_
          refine blkQ_ret ?_
          refine seqQ_ret ?_
          refine endG (by rfl) (by exact resL_tmp rfl) ?_
          refine ⟨?_, H⟩
          have ec : checkP (l.getD i default) fr to_ z = 3 := by unfold checkP; (repeat' split) <;> first | rfl | (exfalso; omega) | (exfalso; simp_all)
          have em : checkM l fr to_ = 3 := by unfold checkM; rw [if_neg (by omega), hT, checkL_stop hil (by omega), ec]
          exact Eq.trans rfl (congrArg (Value.int .i64) em.symm)
         ·have hc15b := hc15
          have hc15 := of_decide_eq_false hc15
          refine RW.w ?_
          refine RW.ldL H 0 1 (by rfl) (by kernel_rfl) rfl rfl rfl rfl rfl (by kernel_rfl) ?_
          iterate 2 refine RW.w ?_
          iterate 2 refine RW.v ?_
          refine RW.nil ?_
          refine W.rg [(0, v1), (1, .int .i64 fr), (2, .int .i64 to_), (7, .int .i64 z), (8, .int .i64 ((i : Nat) : Int)), (9, .pointer (some ⟨b10, 0, none⟩)), (47, .bool (decide (((l.getD i default).t) > to_)))] fun TA => ?_
          refine W.cond rfl (fun hc16 => ?_) (fun hc16 => ?_)
          ·have hc16b := hc16
           have hc16 := of_decide_eq_true hc16
           refine W.seq (W.region ?_)
           refine RW.v ?_
           refine RW.nil ?_
           replace H := (H.del 0)
           dsimp only [setL, delL] at H
           refine W.ret ?_
           refine blkQ_ret ?_
           refine seqQ_ret ?_
           refine blkQ_ret ?_
           refine seqQ_ret ?_
           refine rndQ_ret ?_
           refine blkQ_ret ?_
           refine seqQ_ret ?_
           refine endG (by rfl) (by exact resL_tmp rfl) ?_
           refine ⟨?_, H⟩
           have ec : checkP (l.getD i default) fr to_ z = 3 := by unfold checkP; (repeat' split) <;> first | rfl | (exfalso; omega) | (exfalso; simp_all)
           have em : checkM l fr to_ = 3 := by unfold checkM; rw [if_neg (by omega), hT, checkL_stop hil (by omega), ec]
           exact Eq.trans rfl (congrArg (Value.int .i64) em.symm)
          ·have hc16b := hc16
           have hc16 := of_decide_eq_false hc16
           refine W.seq ?_
           refine W.drawn (by kernel_rfl) (by kernel_rfl) H.gn ?_
           have H17 := H
           refine RW.v ?_
           refine RW.ld H17 0 1 ?_
           iterate 2 refine RW.v ?_
           refine RW.both _ _ rfl rfl rfl (fun hc18 => ?_) (fun hc18 => ?_)
           ·have hc18b := hc18
            have hc18 := eq_of_beq hc18
            refine RW.w ?_
            refine RW.ldL H17 0 1 (by rfl) (by kernel_rfl) rfl rfl rfl rfl rfl (by kernel_rfl) ?_
            refine RW.w ?_
            refine RW.ldL H17 0 1 (by rfl) (by kernel_rfl) rfl rfl rfl rfl rfl (by kernel_rfl) ?_
            refine RW.valE (v' := .int .i64 (((l.getD i default).t) - ((l.getD i default).p))) (by rfl) (by kernel_rfl) rfl (congrArg (Value.int .i64) (wrap_in (by omega) (by omega))) (by kernel_rfl) ?_
            refine RW.w ?_
            refine RW.ldL H17 0 1 (by rfl) (by kernel_rfl) rfl rfl rfl rfl rfl (by kernel_rfl) ?_
            have hv := hvv
            refine RW.cl (hw := by rfl) ?_
            refine ⟨_, _, (s_rlen (by have := hsm _ (get_mem hil); omega) hv), ?_⟩
            refine RW.w ?_
            iterate 2 refine RW.v ?_
            refine RW.both _ _ rfl rfl rfl (fun hc19 => ?_) (fun hc19 => ?_)
            ·have hc19b := hc19
             have hc19 := bne_iff_ne.1 hc19
             iterate 10 refine RW.s ?_
             iterate 2 refine RW.v ?_
             refine RW.nil ?_
             refine ⟨⟨by kernel_rfl, ⟨trivial, dyn_row (H17.get 0 rfl) (H17.get 0 rfl) ⟨nB, nB, nB, nB, nB, nB, nB, nB, nB, nB, nB, fun _ => H17.get 0 rfl, nB, nB, nB, nB, nB, nB, nB, nB, nB, nB, nB, nB, nB, nB, nB, trivial⟩, trivial, trivial, trivial, dyn_row (H17.get 0 rfl) (H17.get 0 rfl) ⟨nB, nB, nB, nB, nB, nB, nB, nB, nB, nB, nB, fun _ => H17.get 0 rfl, nB, nB, nB, nB, nB, nB, nB, nB, nB, nB, nB, nB, nB, nB, nB, trivial⟩, trivial, dyn_row (H17.get 0 rfl) (H17.get 0 rfl) ⟨nB, nB, nB, nB, nB, nB, nB, nB, nB, nB, nB, fun _ => H17.get 0 rfl, nB, nB, nB, nB, nB, nB, nB, nB, nB, nB, nB, nB, nB, nB, nB, trivial⟩, trivial, trivial, dyn_row (H17.get 0 rfl) (H17.get 0 rfl) ⟨nB, nB, nB, nB, nB, nB, nB, nB, nB, nB, nB, fun _ => H17.get 0 rfl, nB, nB, nB, nB, nB, nB, nB, nB, nB, nB, nB, nB, nB, nB, nB, trivial⟩, trivial, trivial, trivial, trivial, trivial, trivial, trivial, trivial, trivial, trivial, trivial, trivial, trivial, trivial, trivial, trivial, trivial⟩⟩, ?_⟩
             replace H := H17
             clear H17
             refine W.c1 ?_
             refine W.seq (W.region ?_)
             refine RW.v ?_
             refine RW.nil ?_
             replace H := (H.del 0)
             dsimp only [setL, delL] at H
             refine W.ret ?_
             refine blkQ_ret ?_
             refine seqQ_ret ?_
             refine blkQ_ret ?_
             refine seqQ_ret ?_
             refine rndQ_ret ?_
             refine blkQ_ret ?_
             refine seqQ_ret ?_
             refine endG (by rfl) (by exact resL_tmp rfl) ?_
             refine ⟨?_, H⟩
             have ec : checkP (l.getD i default) fr to_ z = 5 := by unfold checkP; (repeat' split) <;> first | rfl | (exfalso; omega) | (exfalso; simp_all)
             have em : checkM l fr to_ = 5 := by unfold checkM; rw [if_neg (by omega), hT, checkL_stop hil (by omega), ec]
             exact Eq.trans rfl (congrArg (Value.int .i64) em.symm)
            ·have hc19b := hc19
             have hc19 := (bne_eq_false_iff_eq.1) hc19
             refine RW.w ?_
             refine RW.ldL H17 0 1 (by rfl) (by kernel_rfl) rfl rfl rfl rfl rfl (by kernel_rfl) ?_
             iterate 2 refine RW.w ?_
             refine RW.both _ _ rfl rfl rfl (fun hc20 => ?_) (fun hc20 => ?_)
             ·have hc20b := hc20
              have hc20 := eq_of_beq hc20
              refine RW.w ?_
              refine RW.ldL H17 0 1 (by rfl) (by kernel_rfl) rfl rfl rfl rfl rfl (by kernel_rfl) ?_
              refine RW.w ?_
              refine RW.ldL H17 0 1 (by rfl) (by kernel_rfl) rfl rfl rfl rfl rfl (by kernel_rfl) ?_
              iterate 2 refine RW.w ?_
              iterate 2 refine RW.v ?_
              refine RW.nil ?_
              refine ⟨⟨by kernel_rfl, ⟨trivial, dyn_row (H17.get 0 rfl) (H17.get 0 rfl) ⟨nB, nB, nB, nB, nB, nB, nB, nB, nB, nB, nB, fun _ => H17.get 0 rfl, nB, nB, nB, nB, nB, nB, nB, nB, nB, nB, nB, nB, nB, nB, nB, trivial⟩, trivial, trivial, trivial, dyn_row (H17.get 0 rfl) (H17.get 0 rfl) ⟨nB, nB, nB, nB, nB, nB, nB, nB, nB, nB, nB, fun _ => H17.get 0 rfl, nB, nB, nB, nB, nB, nB, nB, nB, nB, nB, nB, nB, nB, nB, nB, trivial⟩, trivial, dyn_row (H17.get 0 rfl) (H17.get 0 rfl) ⟨nB, nB, nB, nB, nB, nB, nB, nB, nB, nB, nB, fun _ => H17.get 0 rfl, nB, nB, nB, nB, nB, nB, nB, nB, nB, nB, nB, nB, nB, nB, nB, trivial⟩, trivial, trivial, dyn_row (H17.get 0 rfl) (H17.get 0 rfl) ⟨nB, nB, nB, nB, nB, nB, nB, nB, nB, nB, nB, fun _ => H17.get 0 rfl, nB, nB, nB, nB, nB, nB, nB, nB, nB, nB, nB, nB, nB, nB, nB, trivial⟩, trivial, trivial, trivial, trivial, trivial, dyn_row (H17.get 0 rfl) (H17.get 0 rfl) ⟨nB, nB, nB, nB, nB, nB, nB, nB, nB, nB, nB, fun _ => H17.get 0 rfl, nB, nB, nB, nB, nB, nB, nB, nB, nB, nB, nB, nB, nB, nB, nB, trivial⟩, trivial, trivial, trivial, dyn_row (H17.get 0 rfl) (H17.get 0 rfl) ⟨nB, nB, nB, nB, nB, nB, nB, nB, nB, nB, nB, fun _ => H17.get 0 rfl, nB, nB, nB, nB, nB, nB, nB, nB, nB, nB, nB, nB, nB, nB, nB, trivial⟩, trivial, dyn_row (H17.get 0 rfl) (H17.get 0 rfl) ⟨nB, nB, nB, nB, nB, nB, nB, nB, nB, nB, nB, fun _ => H17.get 0 rfl, nB, nB, nB, nB, nB, nB, nB, nB, nB, nB, nB, nB, nB, nB, nB, trivial⟩, trivial, trivial, trivial, trivial, trivial⟩⟩, ?_⟩
              replace H := H17
              clear H17
              refine W.rg [(0, v1), (1, .int .i64 fr), (2, .int .i64 to_), (7, .int .i64 z), (8, .int .i64 ((i : Nat) : Int)), (9, .pointer (some ⟨b10, 0, none⟩)), (65, .bool (((l.getD i default).t) != ((l.getD i default).p)))] fun TA => ?_
              refine W.cond rfl (fun hc21 => ?_) (fun hc21 => ?_)
              ·have hc21b := hc21
               have hc21 := bne_iff_ne.1 hc21
               refine W.seq (W.region ?_)
               refine RW.v ?_
               refine RW.nil ?_
               replace H := (H.del 0)
               dsimp only [setL, delL] at H
               refine W.ret ?_
               refine blkQ_ret ?_
               refine seqQ_ret ?_
               refine blkQ_ret ?_
               refine seqQ_ret ?_
               refine rndQ_ret ?_
               refine blkQ_ret ?_
               refine seqQ_ret ?_
               refine endG (by rfl) (by exact resL_tmp rfl) ?_
               refine ⟨?_, H⟩
               have ec : checkP (l.getD i default) fr to_ z = 5 := by unfold checkP; (repeat' split) <;> first | rfl | (exfalso; omega) | (exfalso; simp_all)
               have em : checkM l fr to_ = 5 := by unfold checkM; rw [if_neg (by omega), hT, checkL_stop hil (by omega), ec]
               exact Eq.trans rfl (congrArg (Value.int .i64) em.symm)
              ·have hc21b := hc21
               have hc21 := (bne_eq_false_iff_eq.1) hc21
               refine W.seq (W.region ?_)
               refine RW.v ?_
               refine RW.ld H 0 1 ?_
               iterate 3 refine RW.v ?_
               refine RW.nil ?_
               refine W.rg [(0, v1), (1, .int .i64 fr), (2, .int .i64 to_), (8, .int .i64 ((i : Nat) : Int)), (9, .pointer (some ⟨b10, 0, none⟩)), (92, .bool (decide (((l.getD i default).p) < z)))] fun TA => ?_
               refine W.cond rfl (fun hc22 => ?_) (fun hc22 => ?_)
               ·have hc22b := hc22
                have hc22 := of_decide_eq_true hc22
                refine W.seq (W.region ?_)
                refine RW.v ?_
                refine RW.nil ?_
                replace H := (H.del 0)
                dsimp only [setL, delL] at H
                refine W.ret ?_
                refine blkQ_ret ?_
                refine seqQ_ret ?_
                refine blkQ_ret ?_
                refine seqQ_ret ?_
                refine rndQ_ret ?_
                refine blkQ_ret ?_
                refine seqQ_ret ?_
                refine endG (by rfl) (by exact resL_tmp rfl) ?_
                refine ⟨?_, H⟩
                have ec : checkP (l.getD i default) fr to_ z = 19 := by unfold checkP; (repeat' split) <;> first | rfl | (exfalso; omega) | (exfalso; simp_all)
                have em : checkM l fr to_ = 19 := by unfold checkM; rw [if_neg (by omega), hT, checkL_stop hil (by omega), ec]
                exact Eq.trans rfl (congrArg (Value.int .i64) em.symm)
               ·have hc22b := hc22
                have hc22 := of_decide_eq_false hc22
                refine W.skip ?_
                refine blkQ_normal ?_
                refine W.region ?_
                refine RW.v ?_
                refine RW.ld H 0 1 ?_
                refine RW.v ?_
                refine RW.nil ?_
                replace H := (H.del 0)
                dsimp only [setL, delL] at H
                refine blkQ_normal ?_
                refine W.rg [(0, v1), (1, .int .i64 fr), (2, .int .i64 to_), (7, .int .i64 ((l.getD i default).t)), (8, .int .i64 ((i : Nat) : Int))] fun TA => ?_
                refine W.region ?_
                refine RW.v ?_
                refine RW.valE (v' := .int .i64 (((i : Nat) : Int) + 1)) (by kernel_rfl) (by kernel_rfl) rfl (congrArg (Value.int .i64) (wrap_in (by omega) (by omega))) (by kernel_rfl) ?_
                refine RW.v ?_
                refine RW.nil ?_
                have ec : checkP (l.getD i default) fr to_ z = 0 := by unfold checkP; (repeat' split) <;> first | rfl | (exfalso; omega) | (exfalso; simp_all)
                exact ⟨rfl, mm - 1, by omega, i + 1, (l.getD i default).t, (by omega), (by rw [hT, checkL_go hil ec]), H, rfl, rfl, rfl, rfl, rfl⟩
             ·have hc20b := hc20
              have hc20 := ne_of_beq_false hc20
              iterate 5 refine RW.s ?_
              refine RW.w ?_
              iterate 2 refine RW.v ?_
              refine RW.nil ?_
              refine ⟨⟨by kernel_rfl, ⟨trivial, dyn_row (H17.get 0 rfl) (H17.get 0 rfl) ⟨nB, nB, nB, nB, nB, nB, nB, nB, nB, nB, nB, fun _ => H17.get 0 rfl, nB, nB, nB, nB, nB, nB, nB, nB, nB, nB, nB, nB, nB, nB, nB, trivial⟩, trivial, trivial, trivial, dyn_row (H17.get 0 rfl) (H17.get 0 rfl) ⟨nB, nB, nB, nB, nB, nB, nB, nB, nB, nB, nB, fun _ => H17.get 0 rfl, nB, nB, nB, nB, nB, nB, nB, nB, nB, nB, nB, nB, nB, nB, nB, trivial⟩, trivial, dyn_row (H17.get 0 rfl) (H17.get 0 rfl) ⟨nB, nB, nB, nB, nB, nB, nB, nB, nB, nB, nB, fun _ => H17.get 0 rfl, nB, nB, nB, nB, nB, nB, nB, nB, nB, nB, nB, nB, nB, nB, nB, trivial⟩, trivial, trivial, dyn_row (H17.get 0 rfl) (H17.get 0 rfl) ⟨nB, nB, nB, nB, nB, nB, nB, nB, nB, nB, nB, fun _ => H17.get 0 rfl, nB, nB, nB, nB, nB, nB, nB, nB, nB, nB, nB, nB, nB, nB, nB, trivial⟩, trivial, trivial, trivial, trivial, trivial, dyn_row (H17.get 0 rfl) (H17.get 0 rfl) ⟨nB, nB, nB, nB, nB, nB, nB, nB, nB, nB, nB, fun _ => H17.get 0 rfl, nB, nB, nB, nB, nB, nB, nB, nB, nB, nB, nB, nB, nB, nB, nB, trivial⟩, trivial, trivial, trivial, trivial, trivial, trivial, trivial, trivial, trivial, trivial, trivial⟩⟩, ?_⟩
              replace H := H17
              clear H17
              refine W.c0 ?_
              refine W.seq (W.region ?_)
              refine RW.v ?_
              refine RW.ld H 0 1 ?_
              iterate 3 refine RW.v ?_
              refine RW.nil ?_
              refine W.rg [(0, v1), (1, .int .i64 fr), (2, .int .i64 to_), (8, .int .i64 ((i : Nat) : Int)), (9, .pointer (some ⟨b10, 0, none⟩)), (92, .bool (decide (((l.getD i default).p) < z)))] fun TA => ?_
              refine W.cond rfl (fun hc23 => ?_) (fun hc23 => ?_)
              ·have hc23b := hc23
               have hc23 := of_decide_eq_true hc23
               refine W.seq (W.region ?_)
               refine RW.v ?_
               refine RW.nil ?_
               replace H := (H.del 0)
               dsimp only [setL, delL] at H
               refine W.ret ?_
               refine blkQ_ret ?_
               refine seqQ_ret ?_
               refine blkQ_ret ?_
               refine seqQ_ret ?_
               refine rndQ_ret ?_
               refine blkQ_ret ?_
               refine seqQ_ret ?_
               refine endG (by rfl) (by exact resL_tmp rfl) ?_
               refine ⟨?_, H⟩
               have ec : checkP (l.getD i default) fr to_ z = 19 := by unfold checkP; (repeat' split) <;> first | rfl | (exfalso; omega) | (exfalso; simp_all)
               have em : checkM l fr to_ = 19 := by unfold checkM; rw [if_neg (by omega), hT, checkL_stop hil (by omega), ec]
               exact Eq.trans rfl (congrArg (Value.int .i64) em.symm)
              ·have hc23b := hc23
               have hc23 := of_decide_eq_false hc23
               refine W.skip ?_
               refine blkQ_normal ?_
               refine W.region ?_
               refine RW.v ?_
               refine RW.ld H 0 1 ?_
               refine RW.v ?_
               refine RW.nil ?_
               replace H := (H.del 0)
               dsimp only [setL, delL] at H
               refine blkQ_normal ?_
               refine W.rg [(0, v1), (1, .int .i64 fr), (2, .int .i64 to_), (7, .int .i64 ((l.getD i default).t)), (8, .int .i64 ((i : Nat) : Int))] fun TA => ?_
               refine W.region ?_
               refine RW.v ?_
               refine RW.valE (v' := .int .i64 (((i : Nat) : Int) + 1)) (by kernel_rfl) (by kernel_rfl) rfl (congrArg (Value.int .i64) (wrap_in (by omega) (by omega))) (by kernel_rfl) ?_
               refine RW.v ?_
               refine RW.nil ?_
               have ec : checkP (l.getD i default) fr to_ z = 0 := by unfold checkP; (repeat' split) <;> first | rfl | (exfalso; omega) | (exfalso; simp_all)
               exact ⟨rfl, mm - 1, by omega, i + 1, (l.getD i default).t, (by omega), (by rw [hT, checkL_go hil ec]), H, rfl, rfl, rfl, rfl, rfl⟩
           ·have hc18b := hc18
            have hc18 := ne_of_beq_false hc18
            iterate 9 refine RW.s ?_
            iterate 2 refine RW.v ?_
            refine RW.w ?_
            refine RW.ldL H17 0 1 (by rfl) (by kernel_rfl) rfl rfl rfl rfl rfl (by kernel_rfl) ?_
            iterate 2 refine RW.w ?_
            refine RW.both _ _ rfl rfl rfl (fun hc24 => ?_) (fun hc24 => ?_)
            ·have hc24b := hc24
             have hc24 := eq_of_beq hc24
             refine RW.w ?_
             refine RW.ldL H17 0 1 (by rfl) (by kernel_rfl) rfl rfl rfl rfl rfl (by kernel_rfl) ?_
             refine RW.w ?_
             refine RW.ldL H17 0 1 (by rfl) (by kernel_rfl) rfl rfl rfl rfl rfl (by kernel_rfl) ?_
             iterate 2 refine RW.w ?_
             iterate 2 refine RW.v ?_
             refine RW.nil ?_
             refine ⟨⟨by kernel_rfl, ⟨trivial, dyn_row (H17.get 0 rfl) (H17.get 0 rfl) ⟨nB, nB, nB, nB, nB, nB, nB, nB, nB, nB, nB, nB, nB, nB, nB, nB, nB, nB, nB, nB, nB, nB, nB, nB, nB, nB, nB, trivial⟩, trivial, trivial, trivial, trivial, trivial, trivial, trivial, trivial, trivial, trivial, trivial, trivial, trivial, trivial, dyn_row (H17.get 0 rfl) (H17.get 0 rfl) ⟨nB, nB, nB, nB, nB, nB, nB, nB, nB, nB, nB, nB, nB, nB, nB, nB, nB, nB, nB, nB, nB, nB, nB, nB, nB, nB, nB, trivial⟩, trivial, trivial, trivial, dyn_row (H17.get 0 rfl) (H17.get 0 rfl) ⟨nB, nB, nB, nB, nB, nB, nB, nB, nB, nB, nB, nB, nB, nB, nB, nB, nB, nB, nB, nB, nB, nB, nB, nB, nB, nB, nB, trivial⟩, trivial, dyn_row (H17.get 0 rfl) (H17.get 0 rfl) ⟨nB, nB, nB, nB, nB, nB, nB, nB, nB, nB, nB, nB, nB, nB, nB, nB, nB, nB, nB, nB, nB, nB, nB, nB, nB, nB, nB, trivial⟩, trivial, trivial, trivial, trivial, trivial⟩⟩, ?_⟩
             replace H := H17
             clear H17
             refine W.rg [(0, v1), (1, .int .i64 fr), (2, .int .i64 to_), (7, .int .i64 z), (8, .int .i64 ((i : Nat) : Int)), (9, .pointer (some ⟨b10, 0, none⟩)), (65, .bool (((l.getD i default).t) != ((l.getD i default).p)))] fun TA => ?_
             refine W.cond rfl (fun hc25 => ?_) (fun hc25 => ?_)
             ·have hc25b := hc25
              have hc25 := bne_iff_ne.1 hc25
              refine W.seq (W.region ?_)
              refine RW.v ?_
              refine RW.nil ?_
              replace H := (H.del 0)
              dsimp only [setL, delL] at H
              refine W.ret ?_
              refine blkQ_ret ?_
              refine seqQ_ret ?_
              refine blkQ_ret ?_
              refine seqQ_ret ?_
              refine rndQ_ret ?_
              refine blkQ_ret ?_
              refine seqQ_ret ?_
              refine endG (by rfl) (by exact resL_tmp rfl) ?_
              refine ⟨?_, H⟩
              have ec : checkP (l.getD i default) fr to_ z = 5 := by unfold checkP; (repeat' split) <;> first | rfl | (exfalso; omega) | (exfalso; simp_all)
              have em : checkM l fr to_ = 5 := by unfold checkM; rw [if_neg (by omega), hT, checkL_stop hil (by omega), ec]
              exact Eq.trans rfl (congrArg (Value.int .i64) em.symm)
             ·have hc25b := hc25
              have hc25 := (bne_eq_false_iff_eq.1) hc25
              refine W.seq (W.region ?_)
              refine RW.v ?_
              refine RW.ld H 0 1 ?_
              iterate 3 refine RW.v ?_
              refine RW.nil ?_
              refine W.rg [(0, v1), (1, .int .i64 fr), (2, .int .i64 to_), (8, .int .i64 ((i : Nat) : Int)), (9, .pointer (some ⟨b10, 0, none⟩)), (92, .bool (decide (((l.getD i default).p) < z)))] fun TA => ?_
              refine W.cond rfl (fun hc26 => ?_) (fun hc26 => ?_)
              ·have hc26b := hc26
               have hc26 := of_decide_eq_true hc26
               refine W.seq (W.region ?_)
               refine RW.v ?_
               refine RW.nil ?_
               replace H := (H.del 0)
               dsimp only [setL, delL] at H
               refine W.ret ?_
               refine blkQ_ret ?_
               refine seqQ_ret ?_
               refine blkQ_ret ?_
               refine seqQ_ret ?_
               refine rndQ_ret ?_
               refine blkQ_ret ?_
               refine seqQ_ret ?_
               refine endG (by rfl) (by exact resL_tmp rfl) ?_
               refine ⟨?_, H⟩
               have ec : checkP (l.getD i default) fr to_ z = 19 := by unfold checkP; (repeat' split) <;> first | rfl | (exfalso; omega) | (exfalso; simp_all)
               have em : checkM l fr to_ = 19 := by unfold checkM; rw [if_neg (by omega), hT, checkL_stop hil (by omega), ec]
               exact Eq.trans rfl (congrArg (Value.int .i64) em.symm)
              ·have hc26b := hc26
               have hc26 := of_decide_eq_false hc26
               refine W.skip ?_
               refine blkQ_normal ?_
               refine W.region ?_
               refine RW.v ?_
               refine RW.ld H 0 1 ?_
               refine RW.v ?_
               refine RW.nil ?_
               replace H := (H.del 0)
               dsimp only [setL, delL] at H
               refine blkQ_normal ?_
               refine W.rg [(0, v1), (1, .int .i64 fr), (2, .int .i64 to_), (7, .int .i64 ((l.getD i default).t)), (8, .int .i64 ((i : Nat) : Int))] fun TA => ?_
               refine W.region ?_
               refine RW.v ?_
               refine RW.valE (v' := .int .i64 (((i : Nat) : Int) + 1)) (by kernel_rfl) (by kernel_rfl) rfl (congrArg (Value.int .i64) (wrap_in (by omega) (by omega))) (by kernel_rfl) ?_
               refine RW.v ?_
               refine RW.nil ?_
               have ec : checkP (l.getD i default) fr to_ z = 0 := by unfold checkP; (repeat' split) <;> first | rfl | (exfalso; omega) | (exfalso; simp_all)
               exact ⟨rfl, mm - 1, by omega, i + 1, (l.getD i default).t, (by omega), (by rw [hT, checkL_go hil ec]), H, rfl, rfl, rfl, rfl, rfl⟩
            ·have hc24b := hc24
             have hc24 := ne_of_beq_false hc24
             iterate 5 refine RW.s ?_
             refine RW.w ?_
             iterate 2 refine RW.v ?_
             refine RW.nil ?_
             refine ⟨⟨by kernel_rfl, ⟨trivial, dyn_row (H17.get 0 rfl) (H17.get 0 rfl) ⟨nB, nB, nB, nB, nB, nB, nB, nB, nB, nB, nB, nB, nB, nB, nB, nB, nB, nB, nB, nB, nB, nB, nB, nB, nB, nB, nB, trivial⟩, trivial, trivial, trivial, trivial, trivial, trivial, trivial, trivial, trivial, trivial, trivial, trivial, trivial, trivial, dyn_row (H17.get 0 rfl) (H17.get 0 rfl) ⟨nB, nB, nB, nB, nB, nB, nB, nB, nB, nB, nB, nB, nB, nB, nB, nB, nB, nB, nB, nB, nB, nB, nB, nB, nB, nB, nB, trivial⟩, trivial, trivial, trivial, trivial, trivial, trivial, trivial, trivial, trivial, trivial, trivial⟩⟩, ?_⟩
             replace H := H17
             clear H17
             refine W.c0 ?_
             refine W.seq (W.region ?_)
             refine RW.v ?_
             refine RW.ld H 0 1 ?_
             iterate 3 refine RW.v ?_
             refine RW.nil ?_
             refine W.rg [(0, v1), (1, .int .i64 fr), (2, .int .i64 to_), (8, .int .i64 ((i : Nat) : Int)), (9, .pointer (some ⟨b10, 0, none⟩)), (92, .bool (decide (((l.getD i default).p) < z)))] fun TA => ?_
             refine W.cond rfl (fun hc27 => ?_) (fun hc27 => ?_)
             ·have hc27b := hc27
              have hc27 := of_decide_eq_true hc27
              refine W.seq (W.region ?_)
              refine RW.v ?_
              refine RW.nil ?_
              replace H := (H.del 0)
              dsimp only [setL, delL] at H
              refine W.ret ?_
              refine blkQ_ret ?_
              refine seqQ_ret ?_
              refine blkQ_ret ?_
              refine seqQ_ret ?_
              refine rndQ_ret ?_
              refine blkQ_ret ?_
              refine seqQ_ret ?_
              refine endG (by rfl) (by exact resL_tmp rfl) ?_
              refine ⟨?_, H⟩
              have ec : checkP (l.getD i default) fr to_ z = 19 := by unfold checkP; (repeat' split) <;> first | rfl | (exfalso; omega) | (exfalso; simp_all)
              have em : checkM l fr to_ = 19 := by unfold checkM; rw [if_neg (by omega), hT, checkL_stop hil (by omega), ec]
              exact Eq.trans rfl (congrArg (Value.int .i64) em.symm)
             ·have hc27b := hc27
              have hc27 := of_decide_eq_false hc27
              refine W.skip ?_
              refine blkQ_normal ?_
              refine W.region ?_
              refine RW.v ?_
              refine RW.ld H 0 1 ?_
              refine RW.v ?_
              refine RW.nil ?_
              replace H := (H.del 0)
              dsimp only [setL, delL] at H
              refine blkQ_normal ?_
              refine W.rg [(0, v1), (1, .int .i64 fr), (2, .int .i64 to_), (7, .int .i64 ((l.getD i default).t)), (8, .int .i64 ((i : Nat) : Int))] fun TA => ?_
              refine W.region ?_
              refine RW.v ?_
              refine RW.valE (v' := .int .i64 (((i : Nat) : Int) + 1)) (by kernel_rfl) (by kernel_rfl) rfl (congrArg (Value.int .i64) (wrap_in (by omega) (by omega))) (by kernel_rfl) ?_
              refine RW.v ?_
              refine RW.nil ?_
              have ec : checkP (l.getD i default) fr to_ z = 0 := by unfold checkP; (repeat' split) <;> first | rfl | (exfalso; omega) | (exfalso; simp_all)
              exact ⟨rfl, mm - 1, by omega, i + 1, (l.getD i default).t, (by omega), (by rw [hT, checkL_go hil ec]), H, rfl, rfl, rfl, rfl, rfl⟩
    ·have hc4b := hc4
     have hc4 := of_decide_eq_false hc4
     refine W.exit _ ?_
     refine seqQ_exit ?_
     refine rndQ_exit ?_
     refine blkQ_here ?_
     refine W.seq (W.region ?_)
     refine RW.v ?_
     refine RW.nil ?_
     refine W.ret ?_
     refine endG (by rfl) (by exact resL_tmp rfl) ?_
     refine ⟨?_, H⟩
     have em : checkM l fr to_ = 0 := by unfold checkM; rw [if_neg (by omega), hT, List.drop_eq_nil_of_le (by omega)]; rfl
     exact Eq.trans rfl (congrArg (Value.int .i64) em.symm)
set_option maxHeartbeats 8000000 in
theorem r_list {bs : List UInt8} (hvb : validD bs = true) (hs : bs.length ≤ 1000000) (H : Lies G A F σ L) : WC G Tryd.prog 37 #[.string ⟨bs.toArray⟩] σ fun v σ' => ∃ F' u, Le F F' ∧ v = .tuple #[u, .int .i64 0] ∧ SlF F' 1 u (runes bs).length ((runes bs).map (Value.int .i64)) ∧ Lies G A F' σ' L := by
 refine WC.enter (fn := Tryd.f37) Tryd.func37 rfl ?_
 refine W.rg [(0, .string ⟨bs.toArray⟩)] fun TA => ?_
 refine W.seq (W.region ?_)
 iterate 2 refine RW.v ?_
 refine RW.nil ?_
 refine W.rg [(0, .string ⟨bs.toArray⟩)] fun TA => ?_
 refine W.seq (W.region ?_)
 refine RW.v ?_
 refine RW.nil ?_
 refine W.rg [(0, .string ⟨bs.toArray⟩), (4, .slice none 0 0)] fun TA => ?_
 refine W.seq ?_
 refine W.block ?_
 replace H := H.nilSl 3 1
 refine W.loop (fun mm ta σ => ∃ (rest : List UInt8) (acc : List Int) (u : Value), (rest.length ≤ mm) ∧ (rest.length ≤ bs.length) ∧ (validD rest = true) ∧ (acc ++ runes rest = runes bs) ∧ Lies G A F σ (.sl 3 1 u acc.length (acc.map (Value.int .i64)) :: (L)) ∧ ta 0 = .string ⟨rest.toArray⟩ ∧ ta 4 = u) bs.length ?_ ?_
 ·exact ⟨bs, [], .slice none 0 0, (Nat.le_refl _), (Nat.le_refl _), hvb, rfl, H, rfl, rfl⟩
 clear H
 rintro mm ta _ ⟨rest, acc, u, hm, hrb, hv, hacc, H, e0, e4⟩
 refine W.rst [(0, .string ⟨rest.toArray⟩), (4, u)] ⟨e0, e4, trivial⟩ fun TA => ?_
 clear e0 e4
 refine W.seq ?_
 refine W.seq (W.region ?_)
 refine RW.v ?_
 refine RW.vop (v := .int .i64 (rest.length : Int)) (by kernel_rfl) (by kernel_rfl) (vop_sLenL rfl rfl rfl rfl Tryd.underlying9 rfl) (by kernel_rfl) ?_
 refine RW.v ?_
 refine RW.nil ?_
 refine W.rg [(0, .string ⟨rest.toArray⟩), (4, u), (9, .bool (decide ((rest.length : Int) > 0)))] fun TA => ?_
 refine W.cond rfl (fun hc1 => ?_) (fun hc1 => ?_)
 ·have hc1b := hc1
  have hc1 := of_decide_eq_true hc1
  have hgt : 0 < rest.length := by omega
  have hal : acc.length ≤ (runes bs).length := by rw [← hacc, List.length_append]; omega
  have hrl := runes_le bs
  skip
  refine W.skip ?_
  refine W.block ?_
  refine W.seq (W.region ?_)
  refine RW.v ?_
  have hne : rest ≠ [] := fun e => by rw [e] at hgt; simp at hgt
  obtain ⟨d1, d2, d3, d4⟩ := dec_ok hne hv
  have hal2 : acc.length + 1 ≤ (runes bs).length := by rw [← hacc, d3, List.length_append, List.length_cons]; omega
  refine RW.cl ?_
  refine ⟨_, _, (s_point (by omega) hne d1), ?_⟩
  iterate 5 refine RW.v ?_
  refine RW.nil ?_
  refine W.rg [(0, .string ⟨rest.toArray⟩), (4, u), (5, .int .i64 (((decodeL rest).1 : Nat) : Int)), (6, .int .i64 (((decodeL rest).2 : Nat) : Int))] fun TA => ?_
  refine W.seq ?_
  refine W.seq (W.region ?_)
  refine RW.v ?_
  refine RW.valE (v' := .bool false) (by kernel_rfl) (by kernel_rfl) rfl (congrArg Value.bool (beq_eq_false_iff_ne.2 (by omega))) (by kernel_rfl) ?_
  refine RW.nil ?_
  refine W.c0 ?_
  refine W.skip ?_
  refine W.seq (W.region ?_)
  iterate 2 refine RW.v ?_
  refine RW.mkL H (x := .row ⟨[.int .i64 (((decodeL rest).1 : Nat) : Int)], 3, false⟩) (fm := fun b => .slice (some ⟨b, 0, none⟩) 1 1) (by kernel_rfl) (by kernel_rfl) (by kernel_rfl) (by kernel_rfl) ?_
  clear H; intro _ b2 _ H
  refine RW.appL H 1 0 (n := 1) (e2 := 3) (by kernel_rfl) (by kernel_rfl) rfl rfl rfl rfl rfl rfl rfl rfl (by kernel_rfl) (by kernel_rfl) (by kernel_rfl) (by decide) (by decide) rfl rfl (by omega) (by kernel_rfl) ?_
  clear H; intro _ v3 _ H
  dsimp only [setL, delL] at H
  refine RW.v ?_
  refine RW.nil ?_
  refine W.rg [(0, .string ⟨rest.toArray⟩), (4, v3), (6, .int .i64 (((decodeL rest).2 : Nat) : Int))] fun TA => ?_
  refine W.region ?_
  iterate 2 refine RW.v ?_
  refine RW.vop (v := .string ⟨(rest.drop ((decodeL rest).2)).toArray⟩) (by kernel_rfl) (by kernel_rfl) (vop_sTailL (a := rest) (j := (decodeL rest).2) rfl rfl rfl Tryd.underlying9 (by omega)) (by kernel_rfl) ?_
  refine RW.v ?_
  refine RW.nil ?_
  refine blkQ_normal ?_
  rw [ints_snoc, ints_len] at H
  exact ⟨rfl, mm - 1, by omega, (rest.drop (decodeL rest).2), (acc ++ [(((decodeL rest).1 : Nat) : Int)]), v3, (by rw [List.length_drop]; omega), (by rw [List.length_drop]; omega), d4, (by rw [List.append_assoc, ← hacc, d3]; rfl), H, rfl, rfl⟩
 ·have hc1b := hc1
  have hc1 := of_decide_eq_false hc1
  refine W.exit _ ?_
  refine seqQ_exit ?_
  refine rndQ_exit ?_
  obtain rfl : rest = [] := List.eq_nil_of_length_eq_zero (by omega)
  refine blkQ_here ?_
  refine W.seq (W.region ?_)
  iterate 3 refine RW.v ?_
  refine RW.nil ?_
  refine W.ret ?_
  refine endG (by rfl) (by exact resL_tmp (by exact resL_tmp rfl)) ?_
  have ea : acc = runes bs := by rw [← hacc]; exact (List.append_nil _).symm
  rw [ea] at H
  obtain ⟨F', le, hv2, H⟩ := H.freezeSl 0 rfl
  exact ⟨F', _, le, rfl, hv2, H⟩
end
end Go.Proofs.YtmmapljeeccdnaaDoor
namespace Go.Proofs.YtmmapljeeccdnaaDoor
open Go.Lib
set_option maxRecDepth 100000
def roomM (wd : Nat) : Nat → List Un → Nat
 | _, [] => 0
 | n, u :: l => if n + u.X.length ≤ wd - 1 then roomM wd (n + u.X.length) l + 1 else 0
def sumX : List Un → Nat
 | [] => 0
 | u :: l => u.X.length + sumX l
def putA (s : Fil) (u : Un) : Fil := ⟨overC s.C s.n u.X, overC s.P s.n (List.replicate u.X.length u.pos), s.n + u.X.length, if s.n = 0 then u.pos else s.fr, s.co⟩
def filA (wd : Nat) (us : List Un) : Fil := us.foldl putA (fil0 wd)
def lw (wd : Nat) (e : Int) : Nat → List Un → List RowV
 | 0, _ => []
 | n + 1, us => if roomM wd 0 us = us.length then [rowOf (endF (filA wd us) e)] else rowOf (wrapF (filA wd (us.take (roomM wd 0 us)))) :: lw wd e n (us.drop (roomM wd 0 us))
def laidR (wd : Nat) (wrap : Bool) (e : Int) (us : List Un) : List RowV :=
 if wrap = true then lw wd e (us.length + 1) us
 else if roomM wd 0 us = us.length then [rowOf (endF (filA wd us) e)] else [rowOf (markF (filA wd (us.take (roomM wd 0 us))) 36)]
structure RS where
 out : List RowV
 now : List Un
def uR (wd lim : Nat) (wrap : Bool) (s : RS) (u : Un) : RS :=
 if u.fd = true then ⟨s.out ++ laidR wd wrap u.pos s.now, []⟩ else if s.now.length < lim then ⟨s.out, s.now ++ [u]⟩ else s
def runR (wd lim : Nat) (wrap : Bool) : List Un → RS → RS
 | [], s => s
 | u :: l, s => runR wd lim wrap l (uR wd lim wrap s u)
def finR (to_ : Int) (wd : Nat) (wrap : Bool) (s : RS) : List RowV := s.out ++ laidR wd wrap to_ s.now
def uN (wd : Nat) (wrap : Bool) (s : RS) (u : Un) : RS :=
 if u.fd = true then ⟨s.out ++ laidR wd wrap u.pos s.now, []⟩ else ⟨s.out, s.now ++ [u]⟩
def runN (wd : Nat) (wrap : Bool) : List Un → RS → RS
 | [], s => s
 | u :: l, s => runN wd wrap l (uN wd wrap s u)
def GoodU (us : List Un) : Prop := ∀ u ∈ us, u.X.length ≤ 2 ∧ (u.fd = false → 1 ≤ u.X.length)
def NoFd (us : List Un) : Prop := ∀ u ∈ us, u.fd = false
theorem room_le (wd : Nat) : ∀ (n : Nat) (l : List Un), roomM wd n l ≤ l.length
 | _, [] => Nat.le_refl _
 | n, u :: l => by
  unfold roomM
  split
  ·exact Nat.succ_le_succ (room_le wd _ l)
  ·exact Nat.zero_le _
theorem room_sum (wd : Nat) : ∀ (n : Nat) (l : List Un), n ≤ wd - 1 → n + sumX (l.take (roomM wd n l)) ≤ wd - 1
 | n, [], h => by simpa [roomM, sumX] using h
 | n, u :: l, h => by
  unfold roomM
  split
  ·rename_i k
   have := room_sum wd _ l k
   rw [List.take_succ_cons]
   show n + (u.X.length + _) ≤ _
   omega
  ·simpa [sumX] using h
theorem room_cells {wd : Nat} : ∀ {n : Nat} {l : List Un}, GoodU l → NoFd l → n ≤ wd - 1 → n + roomM wd n l ≤ wd - 1
 | n, [], _, _, h => h
 | n, u :: l, g, f, h => by
  unfold roomM
  have h1 := (g u (by simp)).2 (f u (by simp))
  split
  ·rename_i k
   have := room_cells (n := n + u.X.length) (l := l) (fun x hx => g x (by simp [hx])) (fun x hx => f x (by simp [hx])) k
   omega
  ·omega
theorem room_pos {wd : Nat} {l : List Un} (h4 : 4 ≤ wd) (g : GoodU l) (h : l ≠ []) : 1 ≤ roomM wd 0 l := by
 cases l with
 | nil => exact absurd rfl h
 | cons u l =>
  have h1 := (g u (by simp)).1
  unfold roomM
  rw [if_pos (by omega)]
  omega
theorem room_take (wd : Nat) : ∀ (n m : Nat) (l : List Un), roomM wd n (l.take m) = min (roomM wd n l) m
 | n, 0, l => by
  rw [List.take_zero, Nat.min_zero]
  rfl
 | n, m + 1, [] => (Nat.zero_min _).symm
 | n, m + 1, u :: l => by
  rw [List.take_succ_cons]
  unfold roomM
  split
  ·rw [room_take wd _ m l]
   omega
  ·exact (Nat.zero_min _).symm
theorem goodU_take {us : List Un} (g : GoodU us) (k : Nat) : GoodU (us.take k) := fun u hu => g u (List.mem_of_mem_take hu)
theorem goodU_drop {us : List Un} (g : GoodU us) (k : Nat) : GoodU (us.drop k) := fun u hu => g u (List.mem_of_mem_drop hu)
theorem noFd_take {us : List Un} (g : NoFd us) (k : Nat) : NoFd (us.take k) := fun u hu => g u (List.mem_of_mem_take hu)
theorem noFd_drop {us : List Un} (g : NoFd us) (k : Nat) : NoFd (us.drop k) := fun u hu => g u (List.mem_of_mem_drop hu)
theorem filA_snoc (wd : Nat) (us : List Un) (u : Un) : filA wd (us ++ [u]) = putA (filA wd us) u := by
 unfold filA
 rw [List.foldl_append]
 rfl
theorem foldl_ok {wd : Nat} : ∀ {us : List Un} {s : Fil}, s.C.length = wd → s.P.length = wd → s.n + sumX us ≤ wd - 1 → (us.foldl putA s).C.length = wd ∧ (us.foldl putA s).P.length = wd ∧ (us.foldl putA s).n = s.n + sumX us ∧ (us.foldl putA s).co = s.co
 | [], s, h1, h2, _ => ⟨h1, h2, rfl, rfl⟩
 | u :: us, s, h1, h2, h3 => by
  have h3 : s.n + (u.X.length + sumX us) ≤ wd - 1 := h3
  have e1 : (putA s u).C.length = wd := (overC_len (by omega)).trans h1
  have e2 : (putA s u).P.length = wd := (overC_len (by rw [List.length_replicate]; omega)).trans h2
  have := foldl_ok (us := us) (s := putA s u) e1 e2 (by show s.n + u.X.length + _ ≤ _; omega)
  refine ⟨this.1, this.2.1, ?_, this.2.2.2⟩
  rw [List.foldl_cons, this.2.2.1]
  show s.n + u.X.length + sumX us = s.n + (u.X.length + sumX us)
  omega
theorem filA_ok {wd : Nat} {us : List Un} (h : sumX us ≤ wd - 1) (h1 : 1 ≤ wd) : (filA wd us).Ok wd ∧ (filA wd us).n = sumX us ∧ (filA wd us).co = false := by
 have := foldl_ok (wd := wd) (us := us) (s := fil0 wd) (List.length_replicate ..) (List.length_replicate ..) (by show 0 + _ ≤ _; omega)
 have e : (filA wd us).n = sumX us := this.2.2.1.trans (Nat.zero_add _)
 exact ⟨⟨this.1, this.2.1, by omega⟩, e, this.2.2.2⟩
theorem putF_yes {wd : Nat} {s : Fil} {u : Un} (h : s.n + u.X.length ≤ wd - 1) : putF wd s u.X u.pos = (putA s u, true) := by
 unfold putF
 rw [if_neg (by omega)]
 rfl
theorem putF_no2 {wd : Nat} {s : Fil} {u : Un} (h : ¬ s.n + u.X.length ≤ wd - 1) : (putF wd s u.X u.pos).2 = false := by
 unfold putF
 rw [if_pos (by omega)]
section
variable {wd : Nat} {e : Int}
theorem lw_fuel (h4 : 4 ≤ wd) : ∀ {n m : Nat} {us : List Un}, GoodU us → us.length < n → us.length < m → lw wd e n us = lw wd e m us
 | 0, _, _, _, h, _ => absurd h (Nat.not_lt_zero _)
 | _ + 1, 0, _, _, _, h => absurd h (Nat.not_lt_zero _)
 | n + 1, m + 1, us, g, h1, h2 => by
  unfold lw
  split
  ·rfl
  ·rename_i k
   have hne : us ≠ [] := fun e => k (by subst e; rfl)
   have := room_pos h4 g hne
   have := List.length_pos_iff.2 hne
   rw [lw_fuel h4 (n := n) (m := m) (goodU_drop g _) (by rw [List.length_drop]; omega) (by rw [List.length_drop]; omega)]
theorem lw_end {us : List Un} (h : roomM wd 0 us = us.length) : lw wd e (us.length + 1) us = [rowOf (endF (filA wd us) e)] := if_pos h
theorem lw_go (h4 : 4 ≤ wd) {us : List Un} (g : GoodU us) (h : roomM wd 0 us ≠ us.length) : lw wd e (us.length + 1) us = rowOf (wrapF (filA wd (us.take (roomM wd 0 us)))) :: lw wd e ((us.drop (roomM wd 0 us)).length + 1) (us.drop (roomM wd 0 us)) := by
 have hne : us ≠ [] := fun e => h (by subst e; rfl)
 have := room_pos h4 g hne
 have := List.length_pos_iff.2 hne
 show (if _ then _ else _) = _
 rw [if_neg h, lw_fuel h4 (n := us.length) (m := (us.drop (roomM wd 0 us)).length + 1) (goodU_drop g _) (by rw [List.length_drop]; omega) (by omega)]
theorem runI_app (wrap : Bool) : ∀ (a b : List Un) (s : LI), runI wd wrap (a ++ b) s = runI wd wrap b (runI wd wrap a s)
 | [], _, _ => rfl
 | u :: a, b, s => runI_app wrap a b (uI wd wrap s u)
theorem cut_run : ∀ {l us : List Un} {R : List RowV}, NoFd l → runI wd false l ⟨R, filA wd us, false⟩ = if roomM wd (filA wd us).n l = l.length then ⟨R, filA wd (us ++ l), false⟩ else ⟨R, markF (filA wd (us ++ l.take (roomM wd (filA wd us).n l))) 36, true⟩
 | [], us, R, _ => by
  rw [if_pos (show roomM wd (filA wd us).n [] = ([] : List Un).length from rfl), List.append_nil]
  rfl
 | u :: l, us, R, f => by
  have hf := f u (by simp)
  show runI wd false l (uI wd false ⟨R, filA wd us, false⟩ u) = _
  unfold uI roomM
  rw [if_neg (by rw [hf]; decide), if_neg Bool.false_ne_true]
  by_cases h : (filA wd us).n + u.X.length ≤ wd - 1
  ·dsimp only
   rw [putF_yes h, if_pos h, if_pos rfl]
   dsimp only
   rw [← filA_snoc, cut_run (us := us ++ [u]) (fun x hx => f x (by simp [hx])), show (filA wd (us ++ [u])).n = (filA wd us).n + u.X.length by rw [filA_snoc]; rfl, List.length_cons, List.take_succ_cons, List.append_assoc, List.append_assoc, List.singleton_append, List.singleton_append]
   by_cases h2 : roomM wd ((filA wd us).n + u.X.length) l = l.length
   ·rw [if_pos h2, if_pos (by omega)]
   ·rw [if_neg h2, if_neg (by omega)]
  ·dsimp only
   rw [putF_no2 h, if_neg Bool.false_ne_true, if_neg Bool.false_ne_true, if_neg h, if_neg (by simp), List.take_zero, List.append_nil]
   exact stay (l := l) (fun x hx => f x (by simp [hx])) ⟨R, markF (filA wd us) 36, true⟩
where stay : ∀ {l : List Un}, NoFd l → ∀ (s : LI), runI wd false l ⟨s.R, s.f, true⟩ = ⟨s.R, s.f, true⟩
 | [], _, _ => rfl
 | u :: l, f, s => by
  show runI wd false l (uI wd false ⟨s.R, s.f, true⟩ u) = _
  unfold uI
  rw [if_neg (by rw [f u (by simp)]; decide), if_pos rfl]
  exact stay (fun x hx => f x (by simp [hx])) s
theorem wrap_run (h4 : 4 ≤ wd) : ∀ {l us : List Un} {R : List RowV}, GoodU l → NoFd l → (runI wd true l ⟨R, filA wd us, false⟩).ov = false ∧ (runI wd true l ⟨R, filA wd us, false⟩).R ++ [rowOf (endF (runI wd true l ⟨R, filA wd us, false⟩).f e)] = R ++ (if roomM wd (filA wd us).n l = l.length then [rowOf (endF (filA wd (us ++ l)) e)] else rowOf (wrapF (filA wd (us ++ l.take (roomM wd (filA wd us).n l)))) :: lw wd e ((l.drop (roomM wd (filA wd us).n l)).length + 1) (l.drop (roomM wd (filA wd us).n l)))
 | [], us, R, _, _ => by
  rw [if_pos (show roomM wd (filA wd us).n [] = ([] : List Un).length from rfl), List.append_nil]
  exact ⟨rfl, rfl⟩
 | u :: l, us, R, g, f => by
  have hf := f u (by simp)
  have hg := g u (by simp)
  have g2 : GoodU l := fun x hx => g x (by simp [hx])
  have f2 : NoFd l := fun x hx => f x (by simp [hx])
  rw [show runI wd true (u :: l) ⟨R, filA wd us, false⟩ = runI wd true l (uI wd true ⟨R, filA wd us, false⟩ u) from rfl]
  unfold roomM
  by_cases h : (filA wd us).n + u.X.length ≤ wd - 1
  ·have eu : uI wd true ⟨R, filA wd us, false⟩ u = ⟨R, filA wd (us ++ [u]), false⟩ := by
    unfold uI
    rw [if_neg (by rw [hf]; decide), if_neg Bool.false_ne_true]
    dsimp only
    rw [putF_yes h, if_pos rfl, filA_snoc]
   rw [eu, if_pos h]
   have ih := wrap_run h4 (l := l) (us := us ++ [u]) (R := R) g2 f2
   refine ⟨ih.1, ih.2.trans ?_⟩
   rw [show (filA wd (us ++ [u])).n = (filA wd us).n + u.X.length by rw [filA_snoc]; rfl, List.length_cons, List.take_succ_cons, List.drop_succ_cons, List.append_assoc, List.append_assoc, List.singleton_append, List.singleton_append]
   by_cases h2 : roomM wd ((filA wd us).n + u.X.length) l = l.length
   ·rw [if_pos h2, if_pos (by omega)]
   ·rw [if_neg h2, if_neg (by omega)]
  ·have eu : uI wd true ⟨R, filA wd us, false⟩ u = ⟨R ++ [rowOf (wrapF (filA wd us))], filA wd [u], false⟩ := by
    unfold uI
    rw [if_neg (by rw [hf]; decide), if_neg Bool.false_ne_true]
    dsimp only
    rw [putF_no2 h, if_neg Bool.false_ne_true, if_pos rfl, putF_yes (show (fil0 wd).n + u.X.length ≤ wd - 1 by show 0 + _ ≤ _; omega)]
    rfl
   rw [eu, if_neg h]
   have ih := wrap_run h4 (l := l) (us := [u]) (R := R ++ [rowOf (wrapF (filA wd us))]) g2 f2
   refine ⟨ih.1, ih.2.trans ?_⟩
   rw [if_neg (show ¬ (0 = (u :: l).length) by rw [List.length_cons]; omega), List.take_zero, List.append_nil, List.drop_zero, List.append_assoc, List.singleton_append]
   congr 2
   have en : (filA wd [u]).n = 0 + u.X.length := rfl
   have er : roomM wd 0 (u :: l) = roomM wd (0 + u.X.length) l + 1 := by
    show (if _ then _ else _) = _
    rw [if_pos (by omega)]
   rw [en]
   by_cases h2 : roomM wd (0 + u.X.length) l = l.length
   ·rw [if_pos h2, lw_end (by rw [er, h2]; rfl)]
    rfl
   ·rw [if_neg h2, lw_go h4 g (by rw [er, List.length_cons]; omega), er, List.take_succ_cons, List.drop_succ_cons]
    rfl
theorem line_rows (h4 : 4 ≤ wd) {wrap : Bool} {l : List Un} {R : List RowV} (g : GoodU l) (f : NoFd l) : (runI wd wrap l ⟨R, fil0 wd, false⟩).R ++ [rowOf (endR (runI wd wrap l ⟨R, fil0 wd, false⟩) e)] = R ++ laidR wd wrap e l := by
 rw [show fil0 wd = filA wd [] from rfl]
 unfold laidR
 cases wrap with
 | true =>
  have h := wrap_run (e := e) h4 (us := []) (R := R) g f
  rw [if_pos rfl]
  unfold endR
  rw [h.1, if_neg Bool.false_ne_true]
  refine h.2.trans ?_
  rw [show (filA wd []).n = 0 from rfl, List.nil_append, List.nil_append]
  congr 1
  by_cases h2 : roomM wd 0 l = l.length
  ·rw [if_pos h2, lw_end h2]
  ·rw [if_neg h2, lw_go h4 g h2]
 | false =>
  rw [cut_run f, if_neg Bool.false_ne_true, show (filA wd []).n = 0 from rfl, List.nil_append, List.nil_append]
  by_cases h2 : roomM wd 0 l = l.length
  ·rw [if_pos h2, if_pos h2]
   rfl
  ·rw [if_neg h2, if_neg h2]
   rfl
theorem seq_rows (h4 : 4 ≤ wd) {wrap : Bool} : ∀ {us now : List Un} {out : List RowV}, GoodU us → GoodU now → NoFd now → (runI wd wrap us (runI wd wrap now ⟨out, fil0 wd, false⟩)).R ++ [rowOf (endR (runI wd wrap us (runI wd wrap now ⟨out, fil0 wd, false⟩)) e)] = finR e wd wrap (runN wd wrap us ⟨out, now⟩)
 | [], now, out, _, g, f => line_rows h4 g f
 | u :: us, now, out, gu, g, f => by
  have gu2 : GoodU us := fun x hx => gu x (by simp [hx])
  show (runI wd wrap us (uI wd wrap _ u)).R ++ [rowOf (endR (runI wd wrap us (uI wd wrap _ u)) e)] = finR e wd wrap (runN wd wrap us (uN wd wrap ⟨out, now⟩ u))
  by_cases hf : u.fd = true
  ·have e1 : uI wd wrap (runI wd wrap now ⟨out, fil0 wd, false⟩) u = runI wd wrap [] ⟨out ++ laidR wd wrap u.pos now, fil0 wd, false⟩ := by
    unfold uI
    rw [if_pos hf, line_rows h4 g f]
    rfl
   have e2 : uN wd wrap ⟨out, now⟩ u = ⟨out ++ laidR wd wrap u.pos now, []⟩ := if_pos hf
   rw [e1, e2]
   exact seq_rows h4 gu2 (fun _ h => by simp at h) (fun _ h => by simp at h)
  ·have e1 : uI wd wrap (runI wd wrap now ⟨out, fil0 wd, false⟩) u = runI wd wrap (now ++ [u]) ⟨out, fil0 wd, false⟩ := by
    rw [runI_app]
    rfl
   have e2 : uN wd wrap ⟨out, now⟩ u = ⟨out, now ++ [u]⟩ := if_neg hf
   rw [e1, e2]
   refine seq_rows h4 gu2 (fun x h => ?_) (fun x h => ?_)
   ·rcases List.mem_append.1 h with h | h
    ·exact g x h
    ·rw [List.mem_singleton.1 h]; exact gu u (by simp)
   ·rcases List.mem_append.1 h with h | h
    ·exact f x h
    ·rw [List.mem_singleton.1 h]; simpa using hf
theorem lw_lim (h4 : 4 ≤ wd) : ∀ {m lim : Nat} {us : List Un}, GoodU us → NoFd us → m * wd ≤ lim → (lw wd e ((us.take lim).length + 1) (us.take lim)).take m = (lw wd e (us.length + 1) us).take m
 | 0, _, _, _, _, _ => rfl
 | m + 1, lim, us, g, f, h => by
  rcases Nat.lt_or_ge lim us.length with k | k
  ·have hr := room_cells (wd := wd) (n := 0) g f (Nat.zero_le _)
   have hm : (m + 1) * wd = m * wd + wd := Nat.succ_mul _ _
   have hl : (us.take lim).length = lim := by rw [List.length_take]; omega
   have er : roomM wd 0 (us.take lim) = roomM wd 0 us := by rw [room_take]; omega
   rw [lw_go h4 (goodU_take g _) (by rw [er, hl]; omega), lw_go h4 g (by omega), er, List.take_succ_cons, List.take_succ_cons, List.take_take, Nat.min_eq_left (by omega)]
   congr 1
   rw [List.drop_take]
   exact lw_lim h4 (goodU_drop g _) (noFd_drop f _) (by omega)
  ·rw [List.take_of_length_le k]
def limM (wd most : Nat) (wrap : Bool) : Nat := if wrap = true then (most + 1) * wd else wd + 1
theorem laid_lim (h4 : 4 ≤ wd) {wrap : Bool} {most : Nat} {us : List Un} (g : GoodU us) (f : NoFd us) : (laidR wd wrap e (us.take (limM wd most wrap))).take (most + 1) = (laidR wd wrap e us).take (most + 1) := by
 unfold laidR limM
 cases wrap with
 | true =>
  rw [if_pos rfl, if_pos rfl, if_pos rfl]
  exact lw_lim h4 g f (Nat.le_refl _)
 | false =>
  rw [if_neg Bool.false_ne_true, if_neg Bool.false_ne_true, if_neg Bool.false_ne_true]
  rcases Nat.lt_or_ge (wd + 1) us.length with k | k
  ·have hr := room_cells (wd := wd) (n := 0) g f (Nat.zero_le _)
   have er : roomM wd 0 (us.take (wd + 1)) = roomM wd 0 us := by rw [room_take]; omega
   rw [er, if_neg (by rw [List.length_take]; omega), if_neg (by omega), List.take_take, Nat.min_eq_left (by omega)]
  ·rw [List.take_of_length_le k]
theorem take_app_eq {α : Type} {n : Nat} {a a' b b' : List α} (h1 : a.take n = a'.take n) (h2 : b.take n = b'.take n) : (a ++ b).take n = (a' ++ b').take n := by
 rcases Nat.lt_or_ge a.length n with k | k
 ·have ha : a' = a := by
   have hl := congrArg List.length h1
   rw [List.length_take, List.length_take] at hl
   rw [List.take_of_length_le (by omega), List.take_of_length_le (by omega)] at h1
   exact h1.symm
  subst ha
  rw [List.take_append, List.take_append]
  congr 1
  have := congrArg (List.take (n - a'.length)) h2
  rw [List.take_take, List.take_take, Nat.min_eq_left (by omega)] at this
  exact this
 ·have hl := congrArg List.length h1
  rw [List.length_take, List.length_take] at hl
  rw [List.take_append_of_le_length k, List.take_append_of_le_length (by omega), h1]
theorem run_lim (h4 : 4 ≤ wd) {wrap : Bool} {most : Nat} : ∀ {us : List Un} {s t : RS}, GoodU us → GoodU t.now → NoFd t.now → s.out.take (most + 1) = t.out.take (most + 1) → s.now = t.now.take (limM wd most wrap) →
  (finR e wd wrap (runR wd (limM wd most wrap) wrap us s)).take (most + 1) = (finR e wd wrap (runN wd wrap us t)).take (most + 1)
 | [], s, t, _, g, f, h1, h2 => by
  show (s.out ++ laidR wd wrap e s.now).take _ = (t.out ++ laidR wd wrap e t.now).take _
  rw [h2]
  exact take_app_eq h1 (laid_lim h4 g f)
 | u :: us, s, t, gu, g, f, h1, h2 => by
  have gu2 : GoodU us := fun x hx => gu x (by simp [hx])
  show (finR e wd wrap (runR wd _ wrap us (uR wd _ wrap s u))).take _ = (finR e wd wrap (runN wd wrap us (uN wd wrap t u))).take _
  by_cases hf : u.fd = true
  ·rw [show uN wd wrap t u = ⟨t.out ++ laidR wd wrap u.pos t.now, []⟩ from if_pos hf, show uR wd (limM wd most wrap) wrap s u = ⟨s.out ++ laidR wd wrap u.pos s.now, []⟩ from if_pos hf]
   refine run_lim h4 gu2 (fun _ h => by simp at h) (fun _ h => by simp at h) ?_ (by simp)
   show (s.out ++ laidR wd wrap u.pos s.now).take _ = (t.out ++ laidR wd wrap u.pos t.now).take _
   rw [h2]
   exact take_app_eq h1 (laid_lim h4 g f)
  ·rw [show uN wd wrap t u = ⟨t.out, t.now ++ [u]⟩ from if_neg hf]
   have g3 : GoodU (t.now ++ [u]) := fun x h => by
    rcases List.mem_append.1 h with h | h
    ·exact g x h
    ·rw [List.mem_singleton.1 h]; exact gu u (by simp)
   have f3 : NoFd (t.now ++ [u]) := fun x h => by
    rcases List.mem_append.1 h with h | h
    ·exact f x h
    ·rw [List.mem_singleton.1 h]; simpa using hf
   by_cases k : s.now.length < limM wd most wrap
   ·rw [show uR wd (limM wd most wrap) wrap s u = ⟨s.out, s.now ++ [u]⟩ from (if_neg hf).trans (if_pos k)]
    refine run_lim h4 gu2 g3 f3 h1 ?_
    show s.now ++ [u] = (t.now ++ [u]).take _
    rw [h2, List.length_take] at k
    rw [h2, List.take_of_length_le (l := t.now) (by omega), List.take_of_length_le (by rw [List.length_append, List.length_singleton]; omega)]
   ·rw [show uR wd (limM wd most wrap) wrap s u = s from (if_neg hf).trans (if_neg k)]
    refine run_lim h4 gu2 g3 f3 h1 ?_
    show s.now = (t.now ++ [u]).take _
    rw [h2, List.length_take] at k
    rw [h2, List.take_append_of_le_length (by omega)]
theorem tos_take_eq {X Y : List RowV} {most : Nat} {x : Int} (h : X.take (most + 1) = Y.take (most + 1)) : (tosX X x).take most = (tosX Y x).take most := by
 have hl := congrArg List.length h
 rw [List.length_take, List.length_take] at hl
 rcases Nat.lt_or_ge most X.length with k | k
 ·rw [tosX_take k, tosX_take (by omega)]
  have e1 : X.take most = Y.take most := by
   have := congrArg (List.take most) h
   rw [List.take_take, List.take_take, Nat.min_eq_left (by omega)] at this
   exact this
  have e2 : X.getD most default = Y.getD most default := by
   have := congrArg (fun l => l.getD most default) h
   rw [getD_take (by omega), getD_take (by omega)] at this
   exact this
  rw [e1, e2]
 ·rw [List.take_of_length_le (by omega), List.take_of_length_le (by omega)] at h
  rw [h]
theorem ref_rows (h4 : 4 ≤ wd) {wrap : Bool} {most : Nat} {us : List Un} (g : GoodU us) : (tosX (finR e wd wrap (runR wd (limM wd most wrap) wrap us ⟨[], []⟩)) e).take most = rowsM e wd wrap most us := by
 rw [rows_take]
 refine tos_take_eq ?_
 rw [run_lim h4 (t := ⟨[], []⟩) g (fun _ h => by simp at h) (fun _ h => by simp at h) rfl (by simp)]
 congr 1
 have := seq_rows (e := e) h4 (wrap := wrap) (now := []) (out := []) g (fun _ h => by simp at h) (fun _ h => by simp at h)
 exact this.symm
theorem uR_out (lim : Nat) (wrap : Bool) (s : RS) (u : Un) : ∃ Y, (uR wd lim wrap s u).out = s.out ++ Y := by
 unfold uR
 split
 ·exact ⟨_, rfl⟩
 ·split
  ·exact ⟨[], (List.append_nil _).symm⟩
  ·exact ⟨[], (List.append_nil _).symm⟩
theorem runR_out (lim : Nat) (wrap : Bool) : ∀ (l : List Un) (s : RS), ∃ Y, (runR wd lim wrap l s).out = s.out ++ Y
 | [], s => ⟨[], (List.append_nil _).symm⟩
 | u :: l, s => by
  obtain ⟨Y, hY⟩ := runR_out lim wrap l (uR wd lim wrap s u)
  obtain ⟨Z, hZ⟩ := uR_out (wd := wd) lim wrap s u
  exact ⟨Z ++ Y, by rw [show runR wd lim wrap (u :: l) s = runR wd lim wrap l (uR wd lim wrap s u) from rfl, hY, hZ, List.append_assoc]⟩
theorem runR_stop {lim most : Nat} {wrap : Bool} {l : List Un} {s : RS} (h : most < s.out.length) : s.out.take (most + 1) = (finR e wd wrap (runR wd lim wrap l s)).take (most + 1) := by
 obtain ⟨Y, hY⟩ := runR_out (wd := wd) lim wrap l s
 unfold finR
 rw [hY, List.append_assoc, List.take_append_of_le_length (by omega)]
theorem goodU_units (tab : Nat) : ∀ (col : Nat) (l : List (Int × Int × Prt)), GoodU (unitsM tab col l)
 | _, [] => fun _ h => by simp [unitsM] at h
 | col, h :: l => fun u hu => by
  rcases List.mem_append.1 hu with hu | hu
  ·have hu2 := List.eq_of_mem_replicate hu
   subst hu2
   refine ⟨unitX_len _ _, fun hf => ?_⟩
   have hn : unitN tab col h.1 h.2.2 ≠ 0 := fun k => by rw [k] at hu; simp at hu
   have h10 : ¬ h.1 = 10 := by simpa using hf
   show 1 ≤ (unitX h.1 h.2.2).length
   unfold unitN at hn
   unfold unitX
   rw [if_neg h10] at hn ⊢
   split
   ·exact Nat.le_refl _
   ·rename_i h9
    rw [if_neg h9] at hn
    split at hn
    ·exact absurd rfl hn
    ·rename_i hc
     exact List.length_pos_iff.2 hc
  ·exact goodU_units tab _ l u hu
end
end Go.Proofs.YtmmapljeeccdnaaDoor
namespace Go.Proofs.YtmmapljeeccdnaaDoor
set_option maxRecDepth 100000
open Go.Lib
theorem unV_ati2 {cs : List Value} {l : List Un} {j : Nat} {i : Int} (hi : i = ((j : Nat) : Int)) (h1 : cs.length = l.length) (h : j < l.length) : ((unV cs l).drop (i.toNat * 3)).take 3 = [cs.getD j undef, .int .i64 (l.getD j default).pos, .bool (l.getD j default).fd] := by
 subst hi
 exact unV_at h1 h
theorem rep_snoc {α : Type} {k : Nat} {x : α} : List.replicate k x ++ [x] = List.replicate (k + 1) x := List.replicate_succ'.symm
theorem tab_mod {tab col k : Nat} (ht : 0 < tab) (h : k ≤ tab - col % tab) : (col + k) % tab = if k = tab - col % tab then 0 else col % tab + k := by
 have hm := Nat.mod_lt col ht
 rw [Nat.add_mod]
 split
 ·rename_i e
  rcases Nat.lt_or_ge k tab with hk | hk
  ·rw [Nat.mod_eq_of_lt hk, show col % tab + k = tab by omega, Nat.mod_self]
  ·have e0 : col % tab = 0 := by omega
   rw [e0, Nat.zero_add, Nat.mod_mod, show k = tab by omega, Nat.mod_self]
 ·rename_i e
  rw [Nat.mod_eq_of_lt (a := k) (by omega), Nat.mod_eq_of_lt (by omega)]
theorem room_go {wd n i : Nat} {us : List Un} (h : i < us.length) (h2 : n + (us.getD i default).X.length ≤ wd - 1) : roomM wd n (us.drop i) = roomM wd (n + (us.getD i default).X.length) (us.drop (i + 1)) + 1 := by
 rw [drop_get h]
 exact if_pos h2
theorem room_no {wd n i : Nat} {us : List Un} (h : i < us.length) (h2 : ¬ n + (us.getD i default).X.length ≤ wd - 1) : roomM wd n (us.drop i) = 0 := by
 rw [drop_get h]
 exact if_neg h2
section
variable {G : Nat} {A : Abs} {σ : Mem} {F : Nat → Option Blk2} {L : List Ent} {c pos : Int} {col tab wd : Nat} {x : Prt}
set_option maxHeartbeats 8000000 in
theorem r_one (ht : 1 ≤ tab) (ht2 : tab ≤ 64) (hcol : col ≤ 1000000000) (H : Lies G A F σ L) : WC G Tryd.prog 38 #[.int .i64 c, .int .i64 ((col : Nat) : Int), .int .i64 ((tab : Nat) : Int), .int .i64 pos, .agg #[.int .i64 x.b, .int .i64 x.c, .bool x.d, .bool x.e, .bool x.f]] σ fun v σ' => ∃ F' cs, Le F F' ∧ SlF F' 3 v (List.replicate (unitN tab col c x) (⟨unitX c x, pos, decide (c = 10)⟩ : Un)).length (unV cs (List.replicate (unitN tab col c x) (⟨unitX c x, pos, decide (c = 10)⟩ : Un))) ∧ AllU F' cs (List.replicate (unitN tab col c x) (⟨unitX c x, pos, decide (c = 10)⟩ : Un)) ∧ Lies G A F' σ' L := by
 obtain ⟨F0, hF⟩ : ∃ F0, F0 = F := ⟨_, rfl⟩
 have le0 : Le F0 F := fun b y h => hF ▸ h
 rw [← hF]
 refine WC.enter (fn := Tryd.f38) Tryd.func38 rfl ?_
 refine W.rg [(0, .int .i64 c), (1, .int .i64 ((col : Nat) : Int)), (2, .int .i64 ((tab : Nat) : Int)), (3, .int .i64 pos), (4, .agg #[.int .i64 x.b, .int .i64 x.c, .bool x.d, .bool x.e, .bool x.f])] fun TA => ?_
 refine W.seq (W.region ?_)
 refine RW.mk H (.row ⟨[.int .i64 x.b, .int .i64 x.c, .bool x.d, .bool x.e, .bool x.f], 50, false⟩) ?_
 clear H; intro _ b1 _ H
 refine RW.v ?_
 refine RW.nil ?_
 refine W.rg [(0, .int .i64 c), (1, .int .i64 ((col : Nat) : Int)), (2, .int .i64 ((tab : Nat) : Int)), (3, .int .i64 pos), (9, .pointer (some ⟨b1, 0, none⟩))] fun TA => ?_
 refine W.seq ?_
 refine W.block ?_
 refine W.seq (W.region ?_)
 iterate 3 refine RW.v ?_
 refine RW.nil ?_
 refine W.rg [(0, .int .i64 c), (1, .int .i64 ((col : Nat) : Int)), (2, .int .i64 ((tab : Nat) : Int)), (3, .int .i64 pos), (9, .pointer (some ⟨b1, 0, none⟩)), (13, .bool (c == 10))] fun TA => ?_
 refine W.cond rfl (fun hc2 => ?_) (fun hc2 => ?_)
 ·have hc2b := hc2
  have hc2 := eq_of_beq hc2
  refine W.seq (W.region ?_)
  refine RW.v ?_
  refine RW.val (v := .agg #[.slice none 0 0, .int .i64 pos, .bool true]) (by kernel_rfl) (by kernel_rfl) (by kernel_rfl) (by kernel_rfl) ?_
  refine RW.mkL H (x := .row ⟨[.slice none 0 0, .int .i64 pos, .bool true], 73, false⟩) (fm := fun b => .slice (some ⟨b, 0, none⟩) 1 1) (by kernel_rfl) (by kernel_rfl) (by kernel_rfl) (by kernel_rfl) ?_
  clear H; intro _ b3 _ H
  refine RW.v ?_
  refine RW.nil ?_
  replace H := (H.del 1)
  dsimp only [setL, delL] at H
  refine W.ret ?_
  refine blkQ_ret ?_
  refine seqQ_ret ?_
  refine endG (by rfl) (by exact resL_tmp rfl) ?_
  have eu : List.replicate (unitN tab col c x) (⟨unitX c x, pos, decide (c = 10)⟩ : Un) = [⟨[], pos, true⟩] := by unfold unitN unitX; rw [if_pos hc2, if_pos hc2, decide_eq_true hc2]; rfl
  rw [eu]
  obtain ⟨F', le, hq, H⟩ := H.freeze 0 rfl
  dsimp only [setL, delL] at H
  exact ⟨F', [.slice none 0 0], fun b y h => le b y (le0 b y h), .some hq rfl rfl, AllU.snoc (u := ⟨[], pos, true⟩) AllU.nil (.nil _ rfl), H⟩
 ·have hc2b := hc2
  have hc2 := ne_of_beq_false hc2
  refine W.seq (W.region ?_)
  iterate 3 refine RW.v ?_
  refine RW.nil ?_
  refine W.rg [(0, .int .i64 c), (1, .int .i64 ((col : Nat) : Int)), (2, .int .i64 ((tab : Nat) : Int)), (3, .int .i64 pos), (9, .pointer (some ⟨b1, 0, none⟩)), (19, .bool (c == 9))] fun TA => ?_
  refine W.cond rfl (fun hc4 => ?_) (fun hc4 => ?_)
  ·have hc4b := hc4
   have hc4 := eq_of_beq hc4
   refine W.seq (W.region ?_)
   refine RW.v ?_
   refine RW.nil ?_
   refine W.rg [(1, .int .i64 ((col : Nat) : Int)), (2, .int .i64 ((tab : Nat) : Int)), (3, .int .i64 pos), (9, .pointer (some ⟨b1, 0, none⟩)), (11, .slice none 0 0)] fun TA => ?_
   refine W.seq ?_
   refine W.seq (W.region ?_)
   iterate 2 refine RW.v ?_
   refine RW.nil ?_
   refine W.rg [(1, .int .i64 ((col : Nat) : Int)), (2, .int .i64 ((tab : Nat) : Int)), (3, .int .i64 pos), (9, .pointer (some ⟨b1, 0, none⟩)), (11, .slice none 0 0), (12, .int .i64 ((col : Nat) : Int))] fun TA => ?_
   refine W.block ?_
   replace H := H.nilSl 73 3
   have htm := Nat.mod_lt col (show 0 < tab by omega)
   refine W.loop (fun mm ta σ => ∃ (k : Nat) (F : Nat → Option Blk2) (cs : List Value) (u : Value), (mm + k = tab - col % tab) ∧ (Le F0 F) ∧ (AllU F cs (List.replicate k (⟨[⟨32, x.b, x.c, x.d, x.e, x.f⟩], pos, false⟩ : Un))) ∧ Lies G A F σ (.sl 73 3 u k (unV cs (List.replicate k (⟨[⟨32, x.b, x.c, x.d, x.e, x.f⟩], pos, false⟩ : Un))) :: .at_ b1 (.row ⟨[.int .i64 x.b, .int .i64 x.c, .bool x.d, .bool x.e, .bool x.f], 50, false⟩) :: (L)) ∧ ta 1 = .int .i64 ((col : Nat) : Int) ∧ ta 2 = .int .i64 ((tab : Nat) : Int) ∧ ta 3 = .int .i64 pos ∧ ta 9 = .pointer (some ⟨b1, 0, none⟩) ∧ ta 11 = u ∧ ta 12 = .int .i64 (((col + k) : Nat) : Int)) (tab - col % tab) ?_ ?_
   ·exact ⟨0, F, [], .slice none 0 0, (by omega), le0, AllU.nil, H, rfl, rfl, rfl, rfl, rfl, rfl⟩
   clear H
   rintro mm ta _ ⟨k, F, cs, u, hm, le0, ac, H, e1, e2, e3, e9, e11, e12⟩
   refine W.rst [(1, .int .i64 ((col : Nat) : Int)), (2, .int .i64 ((tab : Nat) : Int)), (3, .int .i64 pos), (9, .pointer (some ⟨b1, 0, none⟩)), (11, u), (12, .int .i64 (((col + k) : Nat) : Int))] ⟨e1, e2, e3, e9, e11, e12, trivial⟩ fun TA => ?_
   clear e1 e2 e3 e9 e11 e12
   have hmk := tab_mod (col := col) (show 0 < tab by omega) (show k ≤ tab - col % tab by omega)
   refine W.seq ?_
   refine W.seq (W.region ?_)
   iterate 4 refine RW.v ?_
   refine RW.both _ _ rfl rfl rfl (fun hc5 => ?_) (fun hc5 => ?_)
   ·have hc5b := hc5
    have hc5 := eq_of_beq hc5
    iterate 4 refine RW.s ?_
    refine RW.v ?_
    refine RW.nil ?_
    refine W.c1 ?_
    refine W.skip ?_
    refine W.seq ?_
    refine W.block ?_
    refine W.region ?_
    refine RW.v ?_
    refine RW.ld H 1 5 ?_
    refine RW.val (v := .agg #[.int .i64 32, .int .i64 x.b, .int .i64 x.c, .bool x.d, .bool x.e, .bool x.f]) (by kernel_rfl) (by kernel_rfl) (by kernel_rfl) (by kernel_rfl) ?_
    refine RW.mkL H (x := .row ⟨[.int .i64 32, .int .i64 x.b, .int .i64 x.c, .bool x.d, .bool x.e, .bool x.f], 79, false⟩) (fm := fun b => .slice (some ⟨b, 0, none⟩) 1 1) (by kernel_rfl) (by kernel_rfl) (by kernel_rfl) (by kernel_rfl) ?_
    clear H; intro _ b6 _ H
    refine RW.v ?_
    refine RW.val (v := .agg #[.slice (some ⟨b6, 0, none⟩) 1 1, .int .i64 pos, .bool false]) (by kernel_rfl) (by kernel_rfl) (by kernel_rfl) (by kernel_rfl) ?_
    refine RW.mkL H (x := .row ⟨[.slice (some ⟨b6, 0, none⟩) 1 1, .int .i64 pos, .bool false], 73, false⟩) (fm := fun b => .slice (some ⟨b, 0, none⟩) 1 1) (by kernel_rfl) (by kernel_rfl) (by kernel_rfl) (by kernel_rfl) ?_
    clear H; intro _ b7 _ H
    refine RW.appL H 2 0 (n := 1) (e2 := 73) (by kernel_rfl) (by kernel_rfl) rfl rfl rfl rfl rfl rfl rfl rfl (by kernel_rfl) (by kernel_rfl) (by kernel_rfl) (by decide) (by decide) rfl rfl (by omega) (by kernel_rfl) ?_
    clear H; intro _ v8 _ H
    dsimp only [setL, delL] at H
    refine RW.v ?_
    refine RW.nil ?_
    obtain ⟨F, le, hq, H⟩ := H.freeze 0 rfl
    dsimp only [setL, delL] at H
    replace le0 := fun b y h => le b y (le0 b y h)
    refine blkQ_normal ?_
    refine W.rg [(1, .int .i64 ((col : Nat) : Int)), (2, .int .i64 ((tab : Nat) : Int)), (3, .int .i64 pos), (9, .pointer (some ⟨b1, 0, none⟩)), (11, v8), (12, .int .i64 (((col + k) : Nat) : Int))] fun TA => ?_
    refine W.region ?_
    refine RW.v ?_
    refine RW.valE (v' := .int .i64 ((((col + k) : Nat) : Int) + 1)) (by kernel_rfl) (by kernel_rfl) rfl (congrArg (Value.int .i64) (wrap_in (by omega) (by omega))) (by kernel_rfl) ?_
    refine RW.v ?_
    refine RW.nil ?_
    rw [← unV_app (.slice (some ⟨b6, 0, none⟩) 1 1) (⟨[⟨32, x.b, x.c, x.d, x.e, x.f⟩], pos, false⟩ : Un) ac.1, rep_snoc] at H
    have ac2 := (ac.le le).snoc (c := .slice (some ⟨b6, 0, none⟩) 1 1) (u := (⟨[⟨32, x.b, x.c, x.d, x.e, x.f⟩], pos, false⟩ : Un)) (.some hq rfl rfl)
    rw [rep_snoc] at ac2
    exact ⟨rfl, mm - 1, by omega, k + 1, F, cs ++ [.slice (some ⟨b6, 0, none⟩) 1 1], v8, (by omega), le0, ac2, H, rfl, rfl, rfl, rfl, rfl, rfl⟩
   ·have hc5b := hc5
    have hc5 := ne_of_beq_false hc5
    iterate 2 refine RW.w ?_
    have em : Int.tmod ((col + k : Nat) : Int) ((tab : Nat) : Int) = (((col + k) % tab : Nat) : Int) := (Int.ofNat_tmod _ _).symm
    refine RW.vop (v := .int .i64 (((col + k) % tab : Nat) : Int)) (by rfl) (by kernel_rfl) (vop_fastBin rfl rfl rfl ((rem_fastZ (by omega)).trans (congrArg (fun z => some (Value.int .i64 z)) em))) (by kernel_rfl) ?_
    refine RW.w ?_
    refine RW.v ?_
    refine RW.nil ?_
    refine W.rg [(1, .int .i64 ((col : Nat) : Int)), (2, .int .i64 ((tab : Nat) : Int)), (3, .int .i64 pos), (9, .pointer (some ⟨b1, 0, none⟩)), (11, u), (12, .int .i64 (((col + k) : Nat) : Int)), (31, .bool ((((col + k) % tab : Nat) : Int) != 0))] fun TA => ?_
    refine W.cond rfl (fun hc9 => ?_) (fun hc9 => ?_)
    ·have hc9b := hc9
     have hc9 := bne_iff_ne.1 hc9
     have hk1 : k < tab - col % tab := by rcases Nat.lt_or_ge k (tab - col % tab) with h | h; exact h; exfalso; rw [if_pos (by omega)] at hmk; omega
     refine W.skip ?_
     refine W.seq ?_
     refine W.block ?_
     refine W.region ?_
     refine RW.v ?_
     refine RW.ld H 1 5 ?_
     refine RW.val (v := .agg #[.int .i64 32, .int .i64 x.b, .int .i64 x.c, .bool x.d, .bool x.e, .bool x.f]) (by kernel_rfl) (by kernel_rfl) (by kernel_rfl) (by kernel_rfl) ?_
     refine RW.mkL H (x := .row ⟨[.int .i64 32, .int .i64 x.b, .int .i64 x.c, .bool x.d, .bool x.e, .bool x.f], 79, false⟩) (fm := fun b => .slice (some ⟨b, 0, none⟩) 1 1) (by kernel_rfl) (by kernel_rfl) (by kernel_rfl) (by kernel_rfl) ?_
     clear H; intro _ b10 _ H
     refine RW.v ?_
     refine RW.val (v := .agg #[.slice (some ⟨b10, 0, none⟩) 1 1, .int .i64 pos, .bool false]) (by kernel_rfl) (by kernel_rfl) (by kernel_rfl) (by kernel_rfl) ?_
     refine RW.mkL H (x := .row ⟨[.slice (some ⟨b10, 0, none⟩) 1 1, .int .i64 pos, .bool false], 73, false⟩) (fm := fun b => .slice (some ⟨b, 0, none⟩) 1 1) (by kernel_rfl) (by kernel_rfl) (by kernel_rfl) (by kernel_rfl) ?_
     clear H; intro _ b11 _ H
     refine RW.appL H 2 0 (n := 1) (e2 := 73) (by kernel_rfl) (by kernel_rfl) rfl rfl rfl rfl rfl rfl rfl rfl (by kernel_rfl) (by kernel_rfl) (by kernel_rfl) (by decide) (by decide) rfl rfl (by omega) (by kernel_rfl) ?_
     clear H; intro _ v12 _ H
     dsimp only [setL, delL] at H
     refine RW.v ?_
     refine RW.nil ?_
     obtain ⟨F, le, hq, H⟩ := H.freeze 0 rfl
     dsimp only [setL, delL] at H
     replace le0 := fun b y h => le b y (le0 b y h)
     refine blkQ_normal ?_
     refine W.rg [(1, .int .i64 ((col : Nat) : Int)), (2, .int .i64 ((tab : Nat) : Int)), (3, .int .i64 pos), (9, .pointer (some ⟨b1, 0, none⟩)), (11, v12), (12, .int .i64 (((col + k) : Nat) : Int))] fun TA => ?_
     refine W.region ?_
     refine RW.v ?_
     refine RW.valE (v' := .int .i64 ((((col + k) : Nat) : Int) + 1)) (by kernel_rfl) (by kernel_rfl) rfl (congrArg (Value.int .i64) (wrap_in (by omega) (by omega))) (by kernel_rfl) ?_
     refine RW.v ?_
     refine RW.nil ?_
     rw [← unV_app (.slice (some ⟨b10, 0, none⟩) 1 1) (⟨[⟨32, x.b, x.c, x.d, x.e, x.f⟩], pos, false⟩ : Un) ac.1, rep_snoc] at H
     have ac2 := (ac.le le).snoc (c := .slice (some ⟨b10, 0, none⟩) 1 1) (u := (⟨[⟨32, x.b, x.c, x.d, x.e, x.f⟩], pos, false⟩ : Un)) (.some hq rfl rfl)
     rw [rep_snoc] at ac2
     exact ⟨rfl, mm - 1, by omega, k + 1, F, cs ++ [.slice (some ⟨b10, 0, none⟩) 1 1], v12, (by omega), le0, ac2, H, rfl, rfl, rfl, rfl, rfl, rfl⟩
    ·have hc9b := hc9
     have hc9 := (bne_eq_false_iff_eq.1) hc9
     refine W.exit _ ?_
     refine seqQ_exit ?_
     refine rndQ_exit ?_
     refine blkQ_here ?_
     refine W.seq (W.region ?_)
     iterate 2 refine RW.v ?_
     refine RW.nil ?_
     replace H := (H.del 1)
     dsimp only [setL, delL] at H
     refine W.ret ?_
     refine blkQ_ret ?_
     refine seqQ_ret ?_
     refine endG (by rfl) (by exact resL_tmp rfl) ?_
     have hke : k = tab - col % tab := by by_cases h : k = tab - col % tab; exact h; exfalso; rw [if_neg h] at hmk; omega
     have eu : List.replicate (unitN tab col c x) (⟨unitX c x, pos, decide (c = 10)⟩ : Un) = List.replicate k (⟨[⟨32, x.b, x.c, x.d, x.e, x.f⟩], pos, false⟩ : Un) := by unfold unitN unitX; rw [if_neg hc2, if_pos hc4, if_neg hc2, if_pos hc4, decide_eq_false hc2, hke]
     rw [eu]
     obtain ⟨F', le, hv, H⟩ := H.freezeSl 0 rfl
     dsimp only [setL, delL] at H
     exact ⟨F', cs, fun b y h => le b y (le0 b y h), (by rw [List.length_replicate]; exact hv), ac.le le, H⟩
  ·have hc4b := hc4
   have hc4 := ne_of_beq_false hc4
   refine W.seq (W.region ?_)
   iterate 3 refine RW.v ?_
   refine RW.both _ _ rfl rfl rfl (fun hc13 => ?_) (fun hc13 => ?_)
   ·have hc13b := hc13
    have hc13 := of_decide_eq_true hc13
    iterate 2 refine RW.s ?_
    iterate 2 refine RW.v ?_
    refine RW.nil ?_
    refine W.c1 ?_
    refine W.seq (W.region ?_)
    refine RW.ld H 0 5 ?_
    refine RW.val (v := .agg #[.int .i64 94, .int .i64 x.b, .int .i64 x.c, .bool x.d, .bool x.e, .bool x.f]) (by kernel_rfl) (by kernel_rfl) (by kernel_rfl) (by kernel_rfl) ?_
    refine RW.v ?_
    refine RW.vop (v := .int .i64 (ctlI c)) (by kernel_rfl) (by kernel_rfl) (vop_fastBin rfl rfl rfl rfl) (by kernel_rfl) ?_
    refine RW.ld H 0 5 ?_
    refine RW.val (v := .agg #[.int .i64 (ctlI c), .int .i64 x.b, .int .i64 x.c, .bool x.d, .bool x.e, .bool x.f]) (by kernel_rfl) (by kernel_rfl) (by kernel_rfl) (by kernel_rfl) ?_
    refine RW.mkL H (x := .row ⟨[.int .i64 94, .int .i64 x.b, .int .i64 x.c, .bool x.d, .bool x.e, .bool x.f, .int .i64 (ctlI c), .int .i64 x.b, .int .i64 x.c, .bool x.d, .bool x.e, .bool x.f], 79, false⟩) (fm := fun b => .slice (some ⟨b, 0, none⟩) 2 2) (by kernel_rfl) (by kernel_rfl) (by kernel_rfl) (by kernel_rfl) ?_
    clear H; intro _ b14 _ H
    refine RW.v ?_
    refine RW.val (v := .agg #[.slice (some ⟨b14, 0, none⟩) 2 2, .int .i64 pos, .bool false]) (by kernel_rfl) (by kernel_rfl) (by kernel_rfl) (by kernel_rfl) ?_
    refine RW.mkL H (x := .row ⟨[.slice (some ⟨b14, 0, none⟩) 2 2, .int .i64 pos, .bool false], 73, false⟩) (fm := fun b => .slice (some ⟨b, 0, none⟩) 1 1) (by kernel_rfl) (by kernel_rfl) (by kernel_rfl) (by kernel_rfl) ?_
    clear H; intro _ b15 _ H
    refine RW.v ?_
    refine RW.nil ?_
    replace H := (H.del 2)
    dsimp only [setL, delL] at H
    refine W.ret ?_
    refine blkQ_ret ?_
    refine seqQ_ret ?_
    refine endG (by rfl) (by exact resL_tmp rfl) ?_
    have ec : cellsM c x = [⟨94, x.b, x.c, x.d, x.e, x.f⟩, ⟨(ctlI c), x.b, x.c, x.d, x.e, x.f⟩] := by unfold cellsM; rw [if_pos (by omega)]
    have eu : List.replicate (unitN tab col c x) (⟨unitX c x, pos, decide (c = 10)⟩ : Un) = [⟨[⟨94, x.b, x.c, x.d, x.e, x.f⟩, ⟨(ctlI c), x.b, x.c, x.d, x.e, x.f⟩], pos, false⟩] := by unfold unitN unitX; rw [if_neg hc2, if_neg hc4, if_neg hc2, if_neg hc4, decide_eq_false hc2, ec]; rfl
    rw [eu]
    obtain ⟨F, le1, hq1, H⟩ := H.freeze 1 rfl
    dsimp only [setL, delL] at H
    obtain ⟨F', le2, hq2, H⟩ := H.freeze 0 rfl
    dsimp only [setL, delL] at H
    exact ⟨F', [.slice (some ⟨b14, 0, none⟩) 2 2], fun b y h => le2 _ _ (le1 b y (le0 b y h)), .some hq2 rfl rfl, AllU.snoc (u := ⟨[⟨94, x.b, x.c, x.d, x.e, x.f⟩, ⟨(ctlI c), x.b, x.c, x.d, x.e, x.f⟩], pos, false⟩) AllU.nil (.some (le2 _ _ hq1) rfl rfl), H⟩
   ·have hc13b := hc13
    have hc13 := of_decide_eq_false hc13
    iterate 2 refine RW.w ?_
    iterate 2 refine RW.v ?_
    refine RW.nil ?_
    refine W.rg [(0, .int .i64 c), (3, .int .i64 pos), (9, .pointer (some ⟨b1, 0, none⟩)), (43, .bool (c == 127))] fun TA => ?_
    refine W.cond rfl (fun hc16 => ?_) (fun hc16 => ?_)
    ·have hc16b := hc16
     have hc16 := eq_of_beq hc16
     refine W.seq (W.region ?_)
     refine RW.ld H 0 5 ?_
     refine RW.val (v := .agg #[.int .i64 94, .int .i64 x.b, .int .i64 x.c, .bool x.d, .bool x.e, .bool x.f]) (by kernel_rfl) (by kernel_rfl) (by kernel_rfl) (by kernel_rfl) ?_
     refine RW.v ?_
     refine RW.vop (v := .int .i64 (ctlI c)) (by kernel_rfl) (by kernel_rfl) (vop_fastBin rfl rfl rfl rfl) (by kernel_rfl) ?_
     refine RW.ld H 0 5 ?_
     refine RW.val (v := .agg #[.int .i64 (ctlI c), .int .i64 x.b, .int .i64 x.c, .bool x.d, .bool x.e, .bool x.f]) (by kernel_rfl) (by kernel_rfl) (by kernel_rfl) (by kernel_rfl) ?_
     refine RW.mkL H (x := .row ⟨[.int .i64 94, .int .i64 x.b, .int .i64 x.c, .bool x.d, .bool x.e, .bool x.f, .int .i64 (ctlI c), .int .i64 x.b, .int .i64 x.c, .bool x.d, .bool x.e, .bool x.f], 79, false⟩) (fm := fun b => .slice (some ⟨b, 0, none⟩) 2 2) (by kernel_rfl) (by kernel_rfl) (by kernel_rfl) (by kernel_rfl) ?_
     clear H; intro _ b17 _ H
     refine RW.v ?_
     refine RW.val (v := .agg #[.slice (some ⟨b17, 0, none⟩) 2 2, .int .i64 pos, .bool false]) (by kernel_rfl) (by kernel_rfl) (by kernel_rfl) (by kernel_rfl) ?_
     refine RW.mkL H (x := .row ⟨[.slice (some ⟨b17, 0, none⟩) 2 2, .int .i64 pos, .bool false], 73, false⟩) (fm := fun b => .slice (some ⟨b, 0, none⟩) 1 1) (by kernel_rfl) (by kernel_rfl) (by kernel_rfl) (by kernel_rfl) ?_
     clear H; intro _ b18 _ H
     refine RW.v ?_
     refine RW.nil ?_
     replace H := (H.del 2)
     dsimp only [setL, delL] at H
     refine W.ret ?_
     refine blkQ_ret ?_
     refine seqQ_ret ?_
     refine endG (by rfl) (by exact resL_tmp rfl) ?_
     have ec : cellsM c x = [⟨94, x.b, x.c, x.d, x.e, x.f⟩, ⟨(ctlI c), x.b, x.c, x.d, x.e, x.f⟩] := by unfold cellsM; rw [if_pos (by omega)]
     have eu : List.replicate (unitN tab col c x) (⟨unitX c x, pos, decide (c = 10)⟩ : Un) = [⟨[⟨94, x.b, x.c, x.d, x.e, x.f⟩, ⟨(ctlI c), x.b, x.c, x.d, x.e, x.f⟩], pos, false⟩] := by unfold unitN unitX; rw [if_neg hc2, if_neg hc4, if_neg hc2, if_neg hc4, decide_eq_false hc2, ec]; rfl
     rw [eu]
     obtain ⟨F, le1, hq1, H⟩ := H.freeze 1 rfl
     dsimp only [setL, delL] at H
     obtain ⟨F', le2, hq2, H⟩ := H.freeze 0 rfl
     dsimp only [setL, delL] at H
     exact ⟨F', [.slice (some ⟨b17, 0, none⟩) 2 2], fun b y h => le2 _ _ (le1 b y (le0 b y h)), .some hq2 rfl rfl, AllU.snoc (u := ⟨[⟨94, x.b, x.c, x.d, x.e, x.f⟩, ⟨(ctlI c), x.b, x.c, x.d, x.e, x.f⟩], pos, false⟩) AllU.nil (.some (le2 _ _ hq1) rfl rfl), H⟩
    ·have hc16b := hc16
     have hc16 := ne_of_beq_false hc16
     refine W.seq (W.region ?_)
     refine RW.v ?_
     refine RW.cl ?_
     refine ⟨_, _, (s_rwidth _), ?_⟩
     iterate 2 refine RW.v ?_
     refine RW.nil ?_
     refine W.rg [(0, .int .i64 c), (3, .int .i64 pos), (9, .pointer (some ⟨b1, 0, none⟩)), (60, .bool ((widthOf c) == 0))] fun TA => ?_
     refine W.cond rfl (fun hc19 => ?_) (fun hc19 => ?_)
     ·have hc19b := hc19
      have hc19 := eq_of_beq hc19
      refine W.seq (W.region ?_)
      refine RW.v ?_
      refine RW.nil ?_
      replace H := (H.del 0)
      dsimp only [setL, delL] at H
      refine W.ret ?_
      refine blkQ_ret ?_
      refine seqQ_ret ?_
      refine endG (by rfl) (by exact resL_tmp rfl) ?_
      have hc0 : cellsM c x = [] := by unfold cellsM; rw [if_neg (by omega), if_pos (by omega)]
      have eu : List.replicate (unitN tab col c x) (⟨unitX c x, pos, decide (c = 10)⟩ : Un) = [] := by unfold unitN; rw [if_neg hc2, if_neg hc4, if_pos hc0]; rfl
      rw [eu]
      exact ⟨F, [], le0, .nil _ rfl, AllU.nil, H⟩
     ·have hc19b := hc19
      have hc19 := ne_of_beq_false hc19
      refine W.seq (W.region ?_)
      refine RW.v ?_
      refine RW.cl ?_
      refine ⟨_, _, (s_rwidth _), ?_⟩
      iterate 2 refine RW.v ?_
      refine RW.nil ?_
      refine W.rg [(0, .int .i64 c), (3, .int .i64 pos), (9, .pointer (some ⟨b1, 0, none⟩)), (64, .bool ((widthOf c) == 2))] fun TA => ?_
      refine W.cond rfl (fun hc20 => ?_) (fun hc20 => ?_)
      ·have hc20b := hc20
       have hc20 := eq_of_beq hc20
       refine W.seq (W.region ?_)
       refine RW.v ?_
       refine RW.ld H 0 5 ?_
       refine RW.val (v := .agg #[.int .i64 c, .int .i64 x.b, .int .i64 x.c, .bool x.d, .bool x.e, .bool x.f]) (by kernel_rfl) (by kernel_rfl) (by kernel_rfl) (by kernel_rfl) ?_
       refine RW.ld H 0 5 ?_
       refine RW.val (v := .agg #[.int .i64 (-1), .int .i64 x.b, .int .i64 x.c, .bool x.d, .bool x.e, .bool x.f]) (by kernel_rfl) (by kernel_rfl) (by kernel_rfl) (by kernel_rfl) ?_
       refine RW.mkL H (x := .row ⟨[.int .i64 c, .int .i64 x.b, .int .i64 x.c, .bool x.d, .bool x.e, .bool x.f, .int .i64 (-1), .int .i64 x.b, .int .i64 x.c, .bool x.d, .bool x.e, .bool x.f], 79, false⟩) (fm := fun b => .slice (some ⟨b, 0, none⟩) 2 2) (by kernel_rfl) (by kernel_rfl) (by kernel_rfl) (by kernel_rfl) ?_
       clear H; intro _ b21 _ H
       refine RW.v ?_
       refine RW.val (v := .agg #[.slice (some ⟨b21, 0, none⟩) 2 2, .int .i64 pos, .bool false]) (by kernel_rfl) (by kernel_rfl) (by kernel_rfl) (by kernel_rfl) ?_
       refine RW.mkL H (x := .row ⟨[.slice (some ⟨b21, 0, none⟩) 2 2, .int .i64 pos, .bool false], 73, false⟩) (fm := fun b => .slice (some ⟨b, 0, none⟩) 1 1) (by kernel_rfl) (by kernel_rfl) (by kernel_rfl) (by kernel_rfl) ?_
       clear H; intro _ b22 _ H
       refine RW.v ?_
       refine RW.nil ?_
       replace H := (H.del 2)
       dsimp only [setL, delL] at H
       refine W.ret ?_
       refine blkQ_ret ?_
       refine seqQ_ret ?_
       refine endG (by rfl) (by exact resL_tmp rfl) ?_
       have ec : cellsM c x = [⟨c, x.b, x.c, x.d, x.e, x.f⟩, ⟨-1, x.b, x.c, x.d, x.e, x.f⟩] := by unfold cellsM; rw [if_neg (by omega), if_neg (by omega), if_pos (by omega)]
       have eu : List.replicate (unitN tab col c x) (⟨unitX c x, pos, decide (c = 10)⟩ : Un) = [⟨[⟨c, x.b, x.c, x.d, x.e, x.f⟩, ⟨-1, x.b, x.c, x.d, x.e, x.f⟩], pos, false⟩] := by unfold unitN unitX; rw [if_neg hc2, if_neg hc4, if_neg hc2, if_neg hc4, decide_eq_false hc2, ec]; rfl
       rw [eu]
       obtain ⟨F, le1, hq1, H⟩ := H.freeze 1 rfl
       dsimp only [setL, delL] at H
       obtain ⟨F', le2, hq2, H⟩ := H.freeze 0 rfl
       dsimp only [setL, delL] at H
       exact ⟨F', [.slice (some ⟨b21, 0, none⟩) 2 2], fun b y h => le2 _ _ (le1 b y (le0 b y h)), .some hq2 rfl rfl, AllU.snoc (u := ⟨[⟨c, x.b, x.c, x.d, x.e, x.f⟩, ⟨-1, x.b, x.c, x.d, x.e, x.f⟩], pos, false⟩) AllU.nil (.some (le2 _ _ hq1) rfl rfl), H⟩
      ·have hc20b := hc20
       have hc20 := ne_of_beq_false hc20
       refine W.skip ?_
       refine blkQ_normal ?_
       refine W.seq (W.region ?_)
       refine RW.v ?_
       refine RW.ld H 0 5 ?_
       refine RW.val (v := .agg #[.int .i64 c, .int .i64 x.b, .int .i64 x.c, .bool x.d, .bool x.e, .bool x.f]) (by kernel_rfl) (by kernel_rfl) (by kernel_rfl) (by kernel_rfl) ?_
       refine RW.mkL H (x := .row ⟨[.int .i64 c, .int .i64 x.b, .int .i64 x.c, .bool x.d, .bool x.e, .bool x.f], 79, false⟩) (fm := fun b => .slice (some ⟨b, 0, none⟩) 1 1) (by kernel_rfl) (by kernel_rfl) (by kernel_rfl) (by kernel_rfl) ?_
       clear H; intro _ b23 _ H
       refine RW.v ?_
       refine RW.val (v := .agg #[.slice (some ⟨b23, 0, none⟩) 1 1, .int .i64 pos, .bool false]) (by kernel_rfl) (by kernel_rfl) (by kernel_rfl) (by kernel_rfl) ?_
       refine RW.mkL H (x := .row ⟨[.slice (some ⟨b23, 0, none⟩) 1 1, .int .i64 pos, .bool false], 73, false⟩) (fm := fun b => .slice (some ⟨b, 0, none⟩) 1 1) (by kernel_rfl) (by kernel_rfl) (by kernel_rfl) (by kernel_rfl) ?_
       clear H; intro _ b24 _ H
       refine RW.v ?_
       refine RW.nil ?_
       replace H := (H.del 2)
       dsimp only [setL, delL] at H
       refine W.ret ?_
       refine endG (by rfl) (by exact resL_tmp rfl) ?_
       have ec : cellsM c x = [⟨c, x.b, x.c, x.d, x.e, x.f⟩] := by unfold cellsM; rw [if_neg (by omega), if_neg (by omega), if_neg (by omega)]
       have eu : List.replicate (unitN tab col c x) (⟨unitX c x, pos, decide (c = 10)⟩ : Un) = [⟨[⟨c, x.b, x.c, x.d, x.e, x.f⟩], pos, false⟩] := by unfold unitN unitX; rw [if_neg hc2, if_neg hc4, if_neg hc2, if_neg hc4, decide_eq_false hc2, ec]; rfl
       rw [eu]
       obtain ⟨F, le1, hq1, H⟩ := H.freeze 1 rfl
       dsimp only [setL, delL] at H
       obtain ⟨F', le2, hq2, H⟩ := H.freeze 0 rfl
       dsimp only [setL, delL] at H
       exact ⟨F', [.slice (some ⟨b23, 0, none⟩) 1 1], fun b y h => le2 _ _ (le1 b y (le0 b y h)), .some hq2 rfl rfl, AllU.snoc (u := ⟨[⟨c, x.b, x.c, x.d, x.e, x.f⟩], pos, false⟩) AllU.nil (.some (le2 _ _ hq1) rfl rfl), H⟩
set_option maxHeartbeats 4000000 in
theorem r_blankG (hw : wd ≤ 1000) (H : Lies G A F σ L) : WC G Tryd.prog 27 #[.int .i64 ((wd : Nat) : Int)] σ fun v σ' => Lies G A F σ' (.sl 79 6 v wd (cC (List.replicate wd blk)) :: L) := by
 refine WC.enter (fn := Tryd.f27) Tryd.func27 rfl ?_
 refine W.rg [(0, .int .i64 ((wd : Nat) : Int))] fun TA => ?_
 refine W.seq (W.region ?_)
 refine RW.v ?_
 refine RW.nil ?_
 refine W.rg [(0, .int .i64 ((wd : Nat) : Int))] fun TA => ?_
 refine W.seq (W.region ?_)
 refine RW.v ?_
 refine RW.nil ?_
 refine W.rg [(0, .int .i64 ((wd : Nat) : Int)), (3, .slice none 0 0)] fun TA => ?_
 refine W.seq ?_
 refine W.seq (W.region ?_)
 refine RW.v ?_
 refine RW.nil ?_
 refine W.rg [(0, .int .i64 ((wd : Nat) : Int)), (3, .slice none 0 0), (4, .int .i64 0)] fun TA => ?_
 refine W.block ?_
 replace H := H.nilSl 79 6
 refine W.loop (fun mm ta σ => ∃ (i : Nat) (u : Value), (mm + i = wd) ∧ Lies G A F σ (.sl 79 6 u i (cC (List.replicate i blk)) :: (L)) ∧ ta 0 = .int .i64 ((wd : Nat) : Int) ∧ ta 3 = u ∧ ta 4 = .int .i64 ((i : Nat) : Int)) wd ?_ ?_
 ·exact ⟨0, .slice none 0 0, (by omega), H, rfl, rfl, rfl⟩
 clear H
 rintro mm ta _ ⟨i, u, hm, H, e0, e3, e4⟩
 refine W.rst [(0, .int .i64 ((wd : Nat) : Int)), (3, u), (4, .int .i64 ((i : Nat) : Int))] ⟨e0, e3, e4, trivial⟩ fun TA => ?_
 clear e0 e3 e4
 refine W.seq ?_
 refine W.seq (W.region ?_)
 iterate 3 refine RW.v ?_
 refine RW.nil ?_
 refine W.rg [(0, .int .i64 ((wd : Nat) : Int)), (3, u), (4, .int .i64 ((i : Nat) : Int)), (7, .bool (decide (((i : Nat) : Int) < ((wd : Nat) : Int))))] fun TA => ?_
 refine W.cond rfl (fun hc1 => ?_) (fun hc1 => ?_)
 ·have hc1b := hc1
  have hc1 := of_decide_eq_true hc1
  refine W.skip ?_
  refine W.seq ?_
  refine W.block ?_
  refine W.region ?_
  refine RW.v ?_
  refine RW.val (v := .agg #[.int .i64 32, .int .i64 0, .int .i64 0, .bool false, .bool false, .bool false]) (by kernel_rfl) (by kernel_rfl) (by kernel_rfl) (by kernel_rfl) ?_
  refine RW.mkL H (x := .row ⟨[.int .i64 32, .int .i64 0, .int .i64 0, .bool false, .bool false, .bool false], 79, false⟩) (fm := fun b => .slice (some ⟨b, 0, none⟩) 1 1) (by kernel_rfl) (by kernel_rfl) (by kernel_rfl) (by kernel_rfl) ?_
  clear H; intro _ b2 _ H
  refine RW.appL H 1 0 (n := 1) (e2 := 79) (by kernel_rfl) (by kernel_rfl) rfl rfl rfl rfl rfl rfl rfl rfl (by kernel_rfl) (by kernel_rfl) (by kernel_rfl) (by decide) (by decide) rfl rfl (by omega) (by kernel_rfl) ?_
  clear H; intro _ v3 _ H
  dsimp only [setL, delL] at H
  refine RW.v ?_
  refine RW.nil ?_
  refine blkQ_normal ?_
  refine W.rg [(0, .int .i64 ((wd : Nat) : Int)), (3, v3), (4, .int .i64 ((i : Nat) : Int))] fun TA => ?_
  refine W.region ?_
  refine RW.v ?_
  refine RW.valE (v' := .int .i64 (((i : Nat) : Int) + 1)) (by kernel_rfl) (by kernel_rfl) rfl (congrArg (Value.int .i64) (wrap_in (by omega) (by omega))) (by kernel_rfl) ?_
  refine RW.v ?_
  refine RW.nil ?_
  rw [blank_snoc] at H
  exact ⟨rfl, mm - 1, by omega, i + 1, v3, (by omega), H, rfl, rfl, rfl⟩
 ·have hc1b := hc1
  have hc1 := of_decide_eq_false hc1
  refine W.exit _ ?_
  refine seqQ_exit ?_
  refine rndQ_exit ?_
  refine blkQ_here ?_
  refine W.seq (W.region ?_)
  iterate 2 refine RW.v ?_
  refine RW.nil ?_
  refine W.ret ?_
  refine endG (by rfl) (by exact resL_tmp rfl) ?_
  obtain rfl : i = wd := by omega
  exact H
set_option maxHeartbeats 4000000 in
theorem r_room {us : List Un} {cs : List Value} {v : Value} (h4 : 4 ≤ wd) (h5 : wd ≤ 1000) (g : GoodU us) (hl : us.length ≤ 1000000) (hs : SlF F 3 v us.length (unV cs us)) (ac : AllU F cs us) (H : Lies G A F σ L) : WC G Tryd.prog 58 #[v, .int .i64 ((wd : Nat) : Int)] σ fun r σ' => r = .int .i64 ((roomM wd 0 us : Nat) : Int) ∧ Lies G A F σ' L := by
 refine WC.enter (fn := Tryd.f58) Tryd.func58 rfl ?_
 refine W.rg [(0, v), (1, .int .i64 ((wd : Nat) : Int))] fun TA => ?_
 refine W.seq (W.region ?_)
 refine RW.v ?_
 refine RW.nil ?_
 refine W.rg [(0, v), (1, .int .i64 ((wd : Nat) : Int))] fun TA => ?_
 refine W.seq (W.region ?_)
 iterate 2 refine RW.v ?_
 refine RW.nil ?_
 refine W.rg [(0, v), (1, .int .i64 ((wd : Nat) : Int)), (5, .int .i64 0), (6, .int .i64 0)] fun TA => ?_
 refine W.seq ?_
 refine W.block ?_
 refine W.loop (fun mm ta σ => ∃ (i : Nat) (n : Nat), (mm + i = us.length) ∧ (n ≤ wd - 1) ∧ (roomM wd 0 us = i + roomM wd n (us.drop i)) ∧ Lies G A F σ ((L)) ∧ ta 0 = v ∧ ta 1 = .int .i64 ((wd : Nat) : Int) ∧ ta 5 = .int .i64 ((n : Nat) : Int) ∧ ta 6 = .int .i64 ((i : Nat) : Int)) us.length ?_ ?_
 ·exact ⟨0, 0, (by omega), (by omega), (by simp), H, rfl, rfl, rfl, rfl⟩
 clear H
 rintro mm ta _ ⟨i, n, hm, hn, hT, H, e0, e1, e5, e6⟩
 refine W.rst [(0, v), (1, .int .i64 ((wd : Nat) : Int)), (5, .int .i64 ((n : Nat) : Int)), (6, .int .i64 ((i : Nat) : Int))] ⟨e0, e1, e5, e6, trivial⟩ fun TA => ?_
 clear e0 e1 e5 e6
 refine W.seq ?_
 refine W.seq (W.region ?_)
 iterate 2 refine RW.v ?_
 refine RW.len (by kernel_rfl) (by kernel_rfl) rfl rfl rfl rfl (hs.len (e := 73) (by kernel_rfl)) (by kernel_rfl) ?_
 iterate 2 refine RW.v ?_
 refine RW.both _ _ rfl rfl rfl (fun hc1 => ?_) (fun hc1 => ?_)
 ·have hc1b := hc1
  have hc1 := of_decide_eq_true hc1
  have hil : i < us.length := by omega
  have hgx := (g _ (get_mem hil)).1
  iterate 3 refine RW.w ?_
  refine RW.idxF hs (by rfl) (by kernel_rfl) rfl Tryd.underlying68 (by kernel_rfl) rfl rfl ⟨by omega, by omega⟩ (by kernel_rfl) ?_
  intro b2 q3 r4 hF5 hE6
  rw [unV_ati (cs := cs) (l := us) (j := i) ac.1 (by omega)] at hE6
  refine RW.w ?_
  refine RW.loads 1 (by rfl) (by kernel_rfl) rfl rfl (H.old _ _ hF5) (sub_take hE6 0 1 (by decide)) rfl (by kernel_rfl) ?_
  refine RW.len (by rfl) (by kernel_rfl) rfl rfl rfl rfl ((ac.2 i (by omega)).len (e := 79) (by kernel_rfl)) (by kernel_rfl) ?_
  refine RW.valE (v' := .int .i64 (((n : Nat) : Int) + ((us.getD i default).X.length : Int))) (by rfl) (by kernel_rfl) rfl (congrArg (Value.int .i64) (wrap_in (by omega) (by omega))) (by kernel_rfl) ?_
  refine RW.w ?_
  refine RW.valE (v' := .int .i64 (((wd : Nat) : Int) - 1)) (by rfl) (by kernel_rfl) rfl (congrArg (Value.int .i64) (wrap_in (by omega) (by omega))) (by kernel_rfl) ?_
  refine RW.w ?_
  refine RW.v ?_
  refine RW.nil ?_
  refine W.rg [(0, v), (1, .int .i64 ((wd : Nat) : Int)), (5, .int .i64 ((n : Nat) : Int)), (6, .int .i64 ((i : Nat) : Int)), (23, .bool (decide ((((n : Nat) : Int) + ((us.getD i default).X.length : Int)) ≤ (((wd : Nat) : Int) - 1))))] fun TA => ?_
  refine W.cond rfl (fun hc7 => ?_) (fun hc7 => ?_)
  ·have hc7b := hc7
   have hc7 := of_decide_eq_true hc7
   refine W.skip ?_
   refine W.block ?_
   refine W.seq (W.region ?_)
   iterate 3 refine RW.v ?_
   refine RW.idxF hs (by kernel_rfl) (by kernel_rfl) rfl Tryd.underlying68 (by kernel_rfl) rfl rfl ⟨by omega, by omega⟩ (by kernel_rfl) ?_
   intro b8 q9 r10 hF11 hE12
   rw [unV_ati (cs := cs) (l := us) (j := i) ac.1 (by omega)] at hE12
   refine RW.v ?_
   refine RW.loads 1 (by kernel_rfl) (by kernel_rfl) rfl rfl (H.old _ _ hF11) (sub_take hE12 0 1 (by decide)) rfl (by kernel_rfl) ?_
   refine RW.len (by kernel_rfl) (by kernel_rfl) rfl rfl rfl rfl ((ac.2 i (by omega)).len (e := 79) (by kernel_rfl)) (by kernel_rfl) ?_
   refine RW.valE (v' := .int .i64 (((n : Nat) : Int) + ((us.getD i default).X.length : Int))) (by kernel_rfl) (by kernel_rfl) rfl (congrArg (Value.int .i64) (wrap_in (by omega) (by omega))) (by kernel_rfl) ?_
   refine RW.v ?_
   refine RW.nil ?_
   refine W.rg [(0, v), (1, .int .i64 ((wd : Nat) : Int)), (5, .int .i64 (((n : Nat) : Int) + ((us.getD i default).X.length : Int))), (6, .int .i64 ((i : Nat) : Int))] fun TA => ?_
   refine W.region ?_
   refine RW.v ?_
   refine RW.valE (v' := .int .i64 (((i : Nat) : Int) + 1)) (by kernel_rfl) (by kernel_rfl) rfl (congrArg (Value.int .i64) (wrap_in (by omega) (by omega))) (by kernel_rfl) ?_
   refine RW.v ?_
   refine RW.nil ?_
   refine blkQ_normal ?_
   exact ⟨rfl, mm - 1, by omega, i + 1, n + (us.getD i default).X.length, (by omega), (by omega), (by rw [hT, room_go hil (by omega)]; omega), H, rfl, rfl, rfl, rfl⟩
  ·have hc7b := hc7
   have hc7 := of_decide_eq_false hc7
   refine W.exit _ ?_
   refine seqQ_exit ?_
   refine rndQ_exit ?_
   refine blkQ_here ?_
   refine W.seq (W.region ?_)
   iterate 2 refine RW.v ?_
   refine RW.nil ?_
   refine W.ret ?_
   refine endG (by rfl) (by exact resL_tmp rfl) ?_
   have er : roomM wd 0 us = i := by rw [hT, room_no hil (by omega)]; rfl
   rw [er]
   exact ⟨rfl, H⟩
 ·have hc1b := hc1
  have hc1 := of_decide_eq_false hc1
  iterate 11 refine RW.s ?_
  refine RW.v ?_
  refine RW.nil ?_
  refine W.c0 ?_
  refine W.exit _ ?_
  refine seqQ_exit ?_
  refine rndQ_exit ?_
  refine blkQ_here ?_
  refine W.seq (W.region ?_)
  iterate 2 refine RW.v ?_
  refine RW.nil ?_
  refine W.ret ?_
  refine endG (by rfl) (by exact resL_tmp rfl) ?_
  have er : roomM wd 0 us = i := by rw [hT, List.drop_of_length_le (show us.length ≤ i by omega)]; rfl
  rw [er]
  exact ⟨rfl, H⟩
end
end Go.Proofs.YtmmapljeeccdnaaDoor
namespace Go.Proofs.YtmmapljeeccdnaaDoor
set_option maxRecDepth 100000
open Go.Lib Go.RowKit
def rowK (wd : Nat) (us : List Un) (e mark : Int) : RowV := if mark = 0 then rowOf (endF (filA wd us) e) else rowOf (markF (filA wd us) mark)
theorem sumX_at {us : List Un} {i : Nat} (h : i < us.length) : sumX (us.drop i) = (us.getD i default).X.length + sumX (us.drop (i + 1)) := by
 rw [drop_get h]
 rfl
theorem putA_ok {wd i : Nat} {us : List Un} {s : Fil} (ok : s.C.length = wd ∧ s.P.length = wd) (hsum : s.n + sumX (us.drop i) ≤ wd - 1) (h : i < us.length) : ((putA s (us.getD i default)).C.length = wd ∧ (putA s (us.getD i default)).P.length = wd) ∧ (putA s (us.getD i default)).n + sumX (us.drop (i + 1)) ≤ wd - 1 := by
 have h1 := sumX_at h
 obtain ⟨h2, h3⟩ := ok
 refine ⟨⟨(overC_len (by omega)).trans h2, (overC_len (by rw [List.length_replicate]; omega)).trans h3⟩, ?_⟩
 show s.n + (us.getD i default).X.length + _ ≤ _
 omega
theorem fold_fr : ∀ {us : List Un} {s : Fil}, s.n ≠ 0 → (us.foldl putA s).fr = s.fr
 | [], _, _ => rfl
 | u :: us, s, h => by
  have e : (putA s u).fr = s.fr := if_neg h
  rw [List.foldl_cons, fold_fr (us := us) (by show s.n + u.X.length ≠ 0; omega), e]
theorem fil_fr {wd : Nat} {us : List Un} {e : Int} (g : GoodU us) (nf : NoFd us) : (if (filA wd us).n = 0 then e else (filA wd us).fr) = (if us = [] then e else (us.getD 0 default).pos) ∧ (us ≠ [] → (filA wd us).fr = (us.getD 0 default).pos) := by
 cases us with
 | nil => exact ⟨rfl, fun h => absurd rfl h⟩
 | cons u us =>
  have hX := (g u (by simp)).2 (nf u (by simp))
  have hn : (putA (fil0 wd) u).n ≠ 0 := by show 0 + u.X.length ≠ 0; omega
  have e1 : (filA wd (u :: us)).fr = u.pos := (fold_fr (us := us) hn).trans (by show (if 0 = 0 then u.pos else (0 : Int)) = u.pos; exact if_pos rfl)
  have hge : ∀ {us : List Un} {s : Fil}, s.n ≠ 0 → (us.foldl putA s).n ≠ 0 := by
   intro us
   induction us with
   | nil => exact fun h => h
   | cons u us ih => exact fun {s} h => ih (s := putA s u) (by show s.n + u.X.length ≠ 0; omega)
  have e2 : (filA wd (u :: us)).n ≠ 0 := hge (us := us) (s := putA (fil0 wd) u) hn
  rw [if_neg e2, if_neg (by simp)]
  exact ⟨e1, fun _ => e1⟩
section
variable {G : Nat} {A : Abs} {σ : Mem} {F : Nat → Option Blk2} {L : List Ent} {e mark : Int} {wd : Nat}
set_option maxHeartbeats 16000000 in
theorem r_row {us : List Un} {cs : List Value} {v : Value} (h4 : 4 ≤ wd) (h5 : wd ≤ 1000) (g : GoodU us) (nf : NoFd us) (hfit : sumX us ≤ wd - 1) (hl : us.length ≤ 1000000) (hmk : mark ≠ 0 → us ≠ []) (hs : SlF F 3 v us.length (unV cs us)) (ac : AllU F cs us) (H : Lies G A F σ L) : WC G Tryd.prog 59 #[v, .int .i64 ((wd : Nat) : Int), .int .i64 e, .int .i64 mark] σ fun r σ' => ∃ F' cv pv, Le F F' ∧ r = .agg #[cv, pv, .int .i64 (rowK wd us e mark).fr, .int .i64 0, .bool false] ∧ SlF F' 6 cv wd (cC (rowK wd us e mark).C) ∧ SlF F' 1 pv wd ((rowK wd us e mark).P.map (Value.int .i64)) ∧ Lies G A F' σ' L := by
 refine WC.enter (fn := Tryd.f59) Tryd.func59 rfl ?_
 refine W.rg [(0, v), (1, .int .i64 ((wd : Nat) : Int)), (2, .int .i64 e), (3, .int .i64 mark)] fun TA => ?_
 refine W.seq (W.region ?_)
 refine RW.mk H (.row ⟨[.slice none 0 0, .slice none 0 0, .int .i64 0, .int .i64 0, .bool false], 39, false⟩) ?_
 clear H; intro _ b1 _ H
 refine RW.nil ?_
 refine W.rg [(0, v), (1, .int .i64 ((wd : Nat) : Int)), (2, .int .i64 e), (3, .int .i64 mark), (8, .pointer (some ⟨b1, 0, none⟩))] fun TA => ?_
 refine W.seq (W.region ?_)
 refine RW.v ?_
 refine RW.cl ?_
 refine ((r_blankG (wd := wd) (by omega) H).mono ?_)
 clear H
 rintro u2 _ H
 refine RW.v ?_
 refine RW.val (v := .agg #[u2, .slice none 0 0, .int .i64 e, .int .i64 0, .bool false]) (by kernel_rfl) (by kernel_rfl) (by rcases gr_forms (H.sl 0 rfl) with rfl | ⟨_, _, _, rfl⟩ <;> kernel_rfl) (by kernel_rfl) ?_
 refine RW.mk H (.row ⟨[.slice none 0 0, .slice none 0 0, .int .i64 0, .int .i64 0, .bool false], 39, false⟩) ?_
 clear H; intro _ b3 _ H
 refine RW.stL H 0 (vs := [u2, .slice none 0 0, .int .i64 e, .int .i64 0, .bool false]) (cs' := [u2, .slice none 0 0, .int .i64 e, .int .i64 0, .bool false]) (by kernel_rfl) (by kernel_rfl) rfl rfl rfl (by rcases gr_forms (H.sl 1 rfl) with rfl | ⟨_, _, _, rfl⟩ <;> rfl) (by rcases gr_forms (H.sl 1 rfl) with rfl | ⟨_, _, _, rfl⟩ <;> rfl) (by kernel_rfl) (Nat.le_of_ble_eq_true rfl) rfl (by kernel_rfl) ?_
 clear H; intro _ _ H; dsimp only [setL, delL] at H
 refine RW.nil ?_
 refine W.rg [(0, v), (1, .int .i64 ((wd : Nat) : Int)), (2, .int .i64 e), (3, .int .i64 mark), (8, .pointer (some ⟨b1, 0, none⟩)), (9, .pointer (some ⟨b3, 0, none⟩))] fun TA => ?_
 refine W.seq ?_
 refine W.seq (W.region ?_)
 refine RW.v ?_
 refine RW.nil ?_
 refine W.rg [(0, v), (1, .int .i64 ((wd : Nat) : Int)), (2, .int .i64 e), (3, .int .i64 mark), (8, .pointer (some ⟨b1, 0, none⟩)), (9, .pointer (some ⟨b3, 0, none⟩)), (10, .int .i64 0)] fun TA => ?_
 refine W.block ?_
 replace H := H.nilSl 3 1
 refine W.loop (fun mm ta σ => ∃ (j : Nat) (pu : Value), (mm + j = wd) ∧ Lies G A F σ (.sl 3 1 pu j ((List.replicate j (-1)).map (Value.int .i64)) :: .at_ b3 (.row ⟨[u2, pu, .int .i64 e, .int .i64 0, .bool false], 39, false⟩) :: .sl 79 6 u2 wd (cC (List.replicate wd blk)) :: .at_ b1 (.row ⟨[.slice none 0 0, .slice none 0 0, .int .i64 0, .int .i64 0, .bool false], 39, false⟩) :: (L)) ∧ ta 0 = v ∧ ta 1 = .int .i64 ((wd : Nat) : Int) ∧ ta 2 = .int .i64 e ∧ ta 3 = .int .i64 mark ∧ ta 8 = .pointer (some ⟨b1, 0, none⟩) ∧ ta 9 = .pointer (some ⟨b3, 0, none⟩) ∧ ta 10 = .int .i64 ((j : Nat) : Int)) wd ?_ ?_
 ·exact ⟨0, .slice none 0 0, (by omega), H, rfl, rfl, rfl, rfl, rfl, rfl, rfl⟩
 clear H
 rintro mm ta _ ⟨j, pu, hm, H, e0, e1, e2, e3, e8, e9, e10⟩
 refine W.rst [(0, v), (1, .int .i64 ((wd : Nat) : Int)), (2, .int .i64 e), (3, .int .i64 mark), (8, .pointer (some ⟨b1, 0, none⟩)), (9, .pointer (some ⟨b3, 0, none⟩)), (10, .int .i64 ((j : Nat) : Int))] ⟨e0, e1, e2, e3, e8, e9, e10, trivial⟩ fun TA => ?_
 clear e0 e1 e2 e3 e8 e9 e10
 refine W.seq ?_
 refine W.seq (W.region ?_)
 iterate 3 refine RW.v ?_
 refine RW.nil ?_
 refine W.rg [(0, v), (1, .int .i64 ((wd : Nat) : Int)), (2, .int .i64 e), (3, .int .i64 mark), (8, .pointer (some ⟨b1, 0, none⟩)), (9, .pointer (some ⟨b3, 0, none⟩)), (10, .int .i64 ((j : Nat) : Int)), (20, .bool (decide (((j : Nat) : Int) < ((wd : Nat) : Int))))] fun TA => ?_
 refine W.cond rfl (fun hc4 => ?_) (fun hc4 => ?_)
 ·have hc4b := hc4
  have hc4 := of_decide_eq_true hc4
  refine W.skip ?_
  refine W.seq ?_
  refine W.block ?_
  refine W.region ?_
  refine RW.v ?_
  refine RW.ld H 1 1 ?_
  refine RW.mkL H (x := .row ⟨[.int .i64 (-1)], 3, false⟩) (fm := fun b => .slice (some ⟨b, 0, none⟩) 1 1) (by kernel_rfl) (by kernel_rfl) (by kernel_rfl) (by kernel_rfl) ?_
  clear H; intro _ b5 _ H
  refine RW.appL H 1 0 (n := 1) (e2 := 3) (by kernel_rfl) (by kernel_rfl) rfl rfl rfl rfl rfl rfl rfl rfl (by kernel_rfl) (by kernel_rfl) (by kernel_rfl) (by decide) (by decide) rfl rfl (by omega) (by kernel_rfl) ?_
  clear H; intro _ v6 _ H
  dsimp only [setL, delL] at H
  refine RW.v ?_
  refine RW.stL H 1 (vs := [v6]) (cs' := [u2, v6, .int .i64 e, .int .i64 0, .bool false]) (by kernel_rfl) (by kernel_rfl) rfl rfl rfl (H.sl 0 rfl).one (gr_all (H.sl 0 rfl)) (by kernel_rfl) (Nat.le_of_ble_eq_true rfl) rfl (by kernel_rfl) ?_
  clear H; intro _ _ H; dsimp only [setL, delL] at H
  refine RW.nil ?_
  refine blkQ_normal ?_
  refine W.rg [(0, v), (1, .int .i64 ((wd : Nat) : Int)), (2, .int .i64 e), (3, .int .i64 mark), (8, .pointer (some ⟨b1, 0, none⟩)), (9, .pointer (some ⟨b3, 0, none⟩)), (10, .int .i64 ((j : Nat) : Int))] fun TA => ?_
  refine W.region ?_
  refine RW.v ?_
  refine RW.valE (v' := .int .i64 (((j : Nat) : Int) + 1)) (by kernel_rfl) (by kernel_rfl) rfl (congrArg (Value.int .i64) (wrap_in (by omega) (by omega))) (by kernel_rfl) ?_
  refine RW.v ?_
  refine RW.nil ?_
  rw [ints_snoc, rep_snoc] at H
  exact ⟨rfl, mm - 1, by omega, j + 1, v6, (by omega), H, rfl, rfl, rfl, rfl, rfl, rfl, rfl⟩
 ·have hc4b := hc4
  have hc4 := of_decide_eq_false hc4
  refine W.exit _ ?_
  refine seqQ_exit ?_
  refine rndQ_exit ?_
  obtain rfl : wd = j := by omega
  refine blkQ_here ?_
  refine W.join (fun ta σ => ∃ (fr0 : Int), (fr0 = if us = [] then e else (us.getD 0 default).pos) ∧ Lies G A F σ (.sl 3 1 pu wd ((List.replicate wd (-1)).map (Value.int .i64)) :: .at_ b3 (.row ⟨[u2, pu, .int .i64 fr0, .int .i64 0, .bool false], 39, false⟩) :: .sl 79 6 u2 wd (cC (List.replicate wd blk)) :: .at_ b1 (.row ⟨[.slice none 0 0, .slice none 0 0, .int .i64 0, .int .i64 0, .bool false], 39, false⟩) :: (L)) ∧ ta 0 = v ∧ ta 1 = .int .i64 ((wd : Nat) : Int) ∧ ta 2 = .int .i64 e ∧ ta 3 = .int .i64 mark ∧ ta 8 = .pointer (some ⟨b1, 0, none⟩) ∧ ta 9 = .pointer (some ⟨b3, 0, none⟩)) ?_ ?_
  ·refine W.seq (W.region ?_)
   refine RW.v ?_
   refine RW.len (by kernel_rfl) (by kernel_rfl) rfl rfl rfl rfl (hs.len (e := 73) (by kernel_rfl)) (by kernel_rfl) ?_
   refine RW.v ?_
   refine RW.nil ?_
   refine W.rg [(0, v), (1, .int .i64 ((wd : Nat) : Int)), (2, .int .i64 e), (3, .int .i64 mark), (8, .pointer (some ⟨b1, 0, none⟩)), (9, .pointer (some ⟨b3, 0, none⟩)), (30, .bool (decide ((us.length : Int) > 0)))] fun TA => ?_
   refine W.cond rfl (fun hc7 => ?_) (fun hc7 => ?_)
   ·have hc7b := hc7
    have hc7 := of_decide_eq_true hc7
    refine W.region ?_
    refine RW.v ?_
    refine RW.idxF hs (by kernel_rfl) (by kernel_rfl) rfl Tryd.underlying68 (by kernel_rfl) rfl rfl ⟨by omega, by omega⟩ (by kernel_rfl) ?_
    intro b8 q9 r10 hF11 hE12
    rw [unV_ati2 (cs := cs) (l := us) (j := 0) (i := 0) (by omega) ac.1 (by omega)] at hE12
    refine RW.v ?_
    refine RW.loads 1 (by kernel_rfl) (by kernel_rfl) rfl rfl (H.old _ _ hF11) (sub_take hE12 1 1 (by decide)) rfl (by kernel_rfl) ?_
    refine RW.v ?_
    refine RW.st H 1 [.int .i64 ((us.getD 0 default).pos)] [u2, pu, .int .i64 ((us.getD 0 default).pos), .int .i64 0, .bool false] ?_
    clear H; intro _ _ H; dsimp only [setL, delL] at H
    refine RW.nil ?_
    exact ⟨rfl, rfl, (us.getD 0 default).pos, (by rw [if_neg (by rw [← List.length_eq_zero_iff]; omega)]), H, rfl, rfl, rfl, rfl, rfl, rfl⟩
   ·have hc7b := hc7
    have hc7 := of_decide_eq_false hc7
    refine W.skip ?_
    exact ⟨rfl, rfl, e, (by rw [if_pos (by rw [← List.length_eq_zero_iff]; omega)]), H, rfl, rfl, rfl, rfl, rfl, rfl⟩
  clear H
  rintro ta _ ⟨fr0, hfr, H, e0, e1, e2, e3, e8, e9⟩
  refine W.rst [(0, v), (1, .int .i64 ((wd : Nat) : Int)), (2, .int .i64 e), (3, .int .i64 mark), (8, .pointer (some ⟨b1, 0, none⟩)), (9, .pointer (some ⟨b3, 0, none⟩))] ⟨e0, e1, e2, e3, e8, e9, trivial⟩ fun TA => ?_
  clear e0 e1 e2 e3 e8 e9
  refine W.seq (W.region ?_)
  refine RW.v ?_
  refine RW.nil ?_
  refine W.rg [(0, v), (1, .int .i64 ((wd : Nat) : Int)), (2, .int .i64 e), (3, .int .i64 mark), (8, .pointer (some ⟨b1, 0, none⟩)), (9, .pointer (some ⟨b3, 0, none⟩)), (11, .int .i64 0)] fun TA => ?_
  refine W.seq ?_
  refine W.seq (W.region ?_)
  refine RW.v ?_
  refine RW.nil ?_
  refine W.rg [(0, v), (1, .int .i64 ((wd : Nat) : Int)), (2, .int .i64 e), (3, .int .i64 mark), (8, .pointer (some ⟨b1, 0, none⟩)), (9, .pointer (some ⟨b3, 0, none⟩)), (11, .int .i64 0), (12, .int .i64 0)] fun TA => ?_
  refine W.block ?_
  refine W.loop (fun mm ta σ => ∃ (i : Nat) (s : Fil), (mm + i = us.length) ∧ (s.C.length = wd ∧ s.P.length = wd) ∧ (s.n + sumX (us.drop i) ≤ wd - 1) ∧ (filA wd us = (us.drop i).foldl putA s) ∧ Lies G A F σ (.sl 3 1 pu wd (s.P.map (Value.int .i64)) :: .at_ b3 (.row ⟨[u2, pu, .int .i64 fr0, .int .i64 0, .bool false], 39, false⟩) :: .sl 79 6 u2 wd (cC s.C) :: .at_ b1 (.row ⟨[.slice none 0 0, .slice none 0 0, .int .i64 0, .int .i64 0, .bool false], 39, false⟩) :: (L)) ∧ ta 0 = v ∧ ta 1 = .int .i64 ((wd : Nat) : Int) ∧ ta 2 = .int .i64 e ∧ ta 3 = .int .i64 mark ∧ ta 8 = .pointer (some ⟨b1, 0, none⟩) ∧ ta 9 = .pointer (some ⟨b3, 0, none⟩) ∧ ta 11 = .int .i64 ((s.n : Nat) : Int) ∧ ta 12 = .int .i64 ((i : Nat) : Int)) us.length ?_ ?_
  ·exact ⟨0, fil0 wd, (by omega), ⟨List.length_replicate .., List.length_replicate ..⟩, (by show 0 + _ ≤ _; rw [List.drop_zero]; omega), rfl, H, rfl, rfl, rfl, rfl, rfl, rfl, rfl, rfl⟩
  clear H
  rintro mm ta _ ⟨i, s, hm, ok, hsum, hfs, H, e0, e1, e2, e3, e8, e9, e11, e12⟩
  refine W.rst [(0, v), (1, .int .i64 ((wd : Nat) : Int)), (2, .int .i64 e), (3, .int .i64 mark), (8, .pointer (some ⟨b1, 0, none⟩)), (9, .pointer (some ⟨b3, 0, none⟩)), (11, .int .i64 ((s.n : Nat) : Int)), (12, .int .i64 ((i : Nat) : Int))] ⟨e0, e1, e2, e3, e8, e9, e11, e12, trivial⟩ fun TA => ?_
  clear e0 e1 e2 e3 e8 e9 e11 e12
  refine W.seq ?_
  refine W.seq (W.region ?_)
  iterate 2 refine RW.v ?_
  refine RW.len (by kernel_rfl) (by kernel_rfl) rfl rfl rfl rfl (hs.len (e := 73) (by kernel_rfl)) (by kernel_rfl) ?_
  refine RW.v ?_
  refine RW.nil ?_
  refine W.rg [(0, v), (1, .int .i64 ((wd : Nat) : Int)), (2, .int .i64 e), (3, .int .i64 mark), (8, .pointer (some ⟨b1, 0, none⟩)), (9, .pointer (some ⟨b3, 0, none⟩)), (11, .int .i64 ((s.n : Nat) : Int)), (12, .int .i64 ((i : Nat) : Int)), (39, .bool (decide (((i : Nat) : Int) < (us.length : Int))))] fun TA => ?_
  refine W.cond rfl (fun hc13 => ?_) (fun hc13 => ?_)
  ·have hc13b := hc13
   have hc13 := of_decide_eq_true hc13
   have hil : i < us.length := by omega
   refine W.skip ?_
   refine W.seq ?_
   refine W.block ?_
   refine W.seq (W.region ?_)
   refine RW.v ?_
   refine RW.nil ?_
   refine W.rg [(0, v), (1, .int .i64 ((wd : Nat) : Int)), (2, .int .i64 e), (3, .int .i64 mark), (8, .pointer (some ⟨b1, 0, none⟩)), (9, .pointer (some ⟨b3, 0, none⟩)), (11, .int .i64 ((s.n : Nat) : Int)), (12, .int .i64 ((i : Nat) : Int)), (13, .int .i64 0)] fun TA => ?_
   refine W.block ?_
   have hx1 := sumX_at hil
   have hxb : s.n + (us.getD i default).X.length < wd := by omega
   rw [show cC s.C = cC (overC s.C s.n ((us.getD i default).X.take 0)) by rw [List.take_zero, overC_nil], show s.P = overC s.P s.n (List.replicate 0 (us.getD i default).pos) by rw [List.replicate_zero, overC_nil]] at H
   refine W.loop (fun mm2 ta σ => ∃ (j : Nat), (mm2 + j = (us.getD i default).X.length) ∧ Lies G A F σ (.sl 3 1 pu wd ((overC s.P s.n (List.replicate j (us.getD i default).pos)).map (Value.int .i64)) :: .at_ b3 (.row ⟨[u2, pu, .int .i64 fr0, .int .i64 0, .bool false], 39, false⟩) :: .sl 79 6 u2 wd (cC (overC s.C s.n ((us.getD i default).X.take j))) :: .at_ b1 (.row ⟨[.slice none 0 0, .slice none 0 0, .int .i64 0, .int .i64 0, .bool false], 39, false⟩) :: (L)) ∧ ta 0 = v ∧ ta 1 = .int .i64 ((wd : Nat) : Int) ∧ ta 2 = .int .i64 e ∧ ta 3 = .int .i64 mark ∧ ta 8 = .pointer (some ⟨b1, 0, none⟩) ∧ ta 9 = .pointer (some ⟨b3, 0, none⟩) ∧ ta 11 = .int .i64 (((s.n + j) : Nat) : Int) ∧ ta 12 = .int .i64 ((i : Nat) : Int) ∧ ta 13 = .int .i64 ((j : Nat) : Int)) ((us.getD i default).X.length) ?_ ?_
   ·exact ⟨0, (by omega), H, rfl, rfl, rfl, rfl, rfl, rfl, rfl, rfl, rfl⟩
   clear H
   rintro mm2 ta _ ⟨j, hm2, H, e0, e1, e2, e3, e8, e9, e11, e12, e13⟩
   refine W.rst [(0, v), (1, .int .i64 ((wd : Nat) : Int)), (2, .int .i64 e), (3, .int .i64 mark), (8, .pointer (some ⟨b1, 0, none⟩)), (9, .pointer (some ⟨b3, 0, none⟩)), (11, .int .i64 (((s.n + j) : Nat) : Int)), (12, .int .i64 ((i : Nat) : Int)), (13, .int .i64 ((j : Nat) : Int))] ⟨e0, e1, e2, e3, e8, e9, e11, e12, e13, trivial⟩ fun TA => ?_
   clear e0 e1 e2 e3 e8 e9 e11 e12 e13
   refine W.seq ?_
   refine W.seq (W.region ?_)
   iterate 3 refine RW.v ?_
   refine RW.idxF hs (by kernel_rfl) (by kernel_rfl) rfl Tryd.underlying68 (by kernel_rfl) rfl rfl ⟨by omega, by omega⟩ (by kernel_rfl) ?_
   intro b14 q15 r16 hF17 hE18
   rw [unV_ati (cs := cs) (l := us) (j := i) ac.1 (by omega)] at hE18
   refine RW.v ?_
   refine RW.loads 1 (by kernel_rfl) (by kernel_rfl) rfl rfl (H.old _ _ hF17) (sub_take hE18 0 1 (by decide)) rfl (by kernel_rfl) ?_
   refine RW.len (by kernel_rfl) (by kernel_rfl) rfl rfl rfl rfl ((ac.2 i (by omega)).len (e := 79) (by kernel_rfl)) (by kernel_rfl) ?_
   refine RW.v ?_
   refine RW.nil ?_
   refine W.rg [(0, v), (1, .int .i64 ((wd : Nat) : Int)), (2, .int .i64 e), (3, .int .i64 mark), (8, .pointer (some ⟨b1, 0, none⟩)), (9, .pointer (some ⟨b3, 0, none⟩)), (11, .int .i64 (((s.n + j) : Nat) : Int)), (12, .int .i64 ((i : Nat) : Int)), (13, .int .i64 ((j : Nat) : Int)), (49, .bool (decide (((j : Nat) : Int) < ((us.getD i default).X.length : Int))))] fun TA => ?_
   refine W.cond rfl (fun hc19 => ?_) (fun hc19 => ?_)
   ·have hc19b := hc19
    have hc19 := of_decide_eq_true hc19
    have hjl : j < (us.getD i default).X.length := by omega
    refine W.skip ?_
    refine W.seq ?_
    refine W.block ?_
    refine W.seq ?_
    refine W.drawn (by kernel_rfl) (by kernel_rfl) H.gn ?_
    have H20 := H
    refine RW.v ?_
    refine RW.ld H20 1 1 ?_
    iterate 3 refine RW.v ?_
    refine RW.idxF hs (by kernel_rfl) (by kernel_rfl) rfl Tryd.underlying68 (by kernel_rfl) rfl rfl ⟨by omega, by omega⟩ (by kernel_rfl) ?_
    intro b21 q22 r23 hF24 hE25
    rw [unV_ati (cs := cs) (l := us) (j := i) ac.1 (by omega)] at hE25
    refine RW.v ?_
    refine RW.loads 1 (by kernel_rfl) (by kernel_rfl) rfl rfl (H20.old _ _ hF24) (sub_take hE25 0 1 (by decide)) rfl (by kernel_rfl) ?_
    refine RW.v ?_
    refine RW.idxF (ac.2 i (by omega)) (by kernel_rfl) (by kernel_rfl) rfl Tryd.underlying36 (by kernel_rfl) rfl rfl ⟨by omega, by omega⟩ (by kernel_rfl) ?_
    intro b26 q27 r28 hF29 hE30
    rw [cC_ati (l := (us.getD i default).X) (j := j) (by omega)] at hE30
    refine RW.loads 6 (by kernel_rfl) (by kernel_rfl) rfl rfl (H20.old _ _ hF29) hE30 rfl (by kernel_rfl) ?_
    refine RW.idxGS H20 2 rfl (by kernel_rfl) (by kernel_rfl) rfl Tryd.underlying36 (by kernel_rfl) rfl rfl ⟨by omega, by omega⟩ (by kernel_rfl) ?_
    intro b31 q32 hb33 hq34
    refine RW.stG H20 2 rfl hb33 (vs := [.int .i64 (((us.getD i default).X.getD j default).a), .int .i64 (((us.getD i default).X.getD j default).b), .int .i64 (((us.getD i default).X.getD j default).c), .bool (((us.getD i default).X.getD j default).d), .bool (((us.getD i default).X.getD j default).e), .bool (((us.getD i default).X.getD j default).f)]) (by rw [hq34]; simp only [List.length_cons, List.length_nil]; omega) (by kernel_rfl) (by kernel_rfl) rfl rfl rfl rfl (by kernel_rfl) (by kernel_rfl) ?_
    intro _ H35
    dsimp only [setL, delL] at H35
    rw [show overL (cC (overC s.C s.n ((us.getD i default).X.take j))) q32 [.int .i64 (((us.getD i default).X.getD j default).a), .int .i64 (((us.getD i default).X.getD j default).b), .int .i64 (((us.getD i default).X.getD j default).c), .bool (((us.getD i default).X.getD j default).d), .bool (((us.getD i default).X.getD j default).e), .bool (((us.getD i default).X.getD j default).f)] = cC (overC s.C s.n ((us.getD i default).X.take (j + 1))) by rw [hq34]; exact put_cells hjl (by rw [ok.1]; exact hxb)] at H35
    refine RW.nil ?_
    refine ⟨⟨by kernel_rfl, ⟨trivial, dyn_row (H20.get 1 rfl) (H35.get 1 rfl) ⟨nB, nB, nB, nB, nB, nB, nB, nB, nB, nB, nB, nB, fun _ => H20.get 1 rfl, trivial⟩, trivial, trivial, trivial, trivial, trivial, dyn_row (H20.old _ _ hF24) (H35.old _ _ hF24) ⟨nB, nB, nB, nB, nB, nB, nB, nB, nB, nB, nB, nB, fun _ => H20.old _ _ hF24, trivial⟩, trivial, trivial, dyn_row (H20.old _ _ hF29) (H35.old _ _ hF29) ⟨nB, nB, nB, nB, nB, nB, nB, nB, nB, nB, nB, nB, fun _ => H20.old _ _ hF29, trivial⟩, trivial, trivial, trivial⟩⟩, ?_⟩
    replace H := H35
    clear H20 H35
    refine W.rg [(0, v), (1, .int .i64 ((wd : Nat) : Int)), (2, .int .i64 e), (3, .int .i64 mark), (8, .pointer (some ⟨b1, 0, none⟩)), (9, .pointer (some ⟨b3, 0, none⟩)), (11, .int .i64 (((s.n + j) : Nat) : Int)), (12, .int .i64 ((i : Nat) : Int)), (13, .int .i64 ((j : Nat) : Int))] fun TA => ?_
    refine W.seq ?_
    refine W.drawn (by kernel_rfl) (by kernel_rfl) H.gn ?_
    have H36 := H
    refine RW.v ?_
    refine RW.ld H36 1 1 ?_
    iterate 3 refine RW.v ?_
    refine RW.idxF hs (by kernel_rfl) (by kernel_rfl) rfl Tryd.underlying68 (by kernel_rfl) rfl rfl ⟨by omega, by omega⟩ (by kernel_rfl) ?_
    intro b37 q38 r39 hF40 hE41
    rw [unV_ati (cs := cs) (l := us) (j := i) ac.1 (by omega)] at hE41
    refine RW.v ?_
    refine RW.loads 1 (by kernel_rfl) (by kernel_rfl) rfl rfl (H36.old _ _ hF40) (sub_take hE41 1 1 (by decide)) rfl (by kernel_rfl) ?_
    refine RW.idxGS H36 0 rfl (by kernel_rfl) (by kernel_rfl) rfl Tryd.underlying37 (by kernel_rfl) rfl rfl ⟨by omega, by omega⟩ (by kernel_rfl) ?_
    intro b42 q43 hb44 hq45
    refine RW.stG H36 0 rfl hb44 (vs := [.int .i64 ((us.getD i default).pos)]) (by rw [hq45]; simp only [List.length_cons, List.length_nil]; omega) (by kernel_rfl) (by kernel_rfl) rfl rfl rfl rfl (by kernel_rfl) (by kernel_rfl) ?_
    intro _ H46
    dsimp only [setL, delL] at H46
    rw [show overL ((overC s.P s.n (List.replicate j (us.getD i default).pos)).map (Value.int .i64)) q43 [.int .i64 ((us.getD i default).pos)] = (overC s.P s.n (List.replicate (j + 1) (us.getD i default).pos)).map (Value.int .i64) by rw [hq45]; exact put_poss (by rw [ok.2]; omega)] at H46
    refine RW.nil ?_
    refine ⟨⟨by kernel_rfl, ⟨trivial, dyn_row (H36.get 1 rfl) (H46.get 1 rfl) ⟨nB, nB, nB, nB, nB, nB, nB, nB, nB, fun _ => H36.get 1 rfl, trivial⟩, trivial, trivial, trivial, trivial, trivial, dyn_row (H36.old _ _ hF40) (H46.old _ _ hF40) ⟨nB, nB, nB, nB, nB, nB, nB, nB, nB, fun _ => H36.old _ _ hF40, trivial⟩, trivial, trivial, trivial⟩⟩, ?_⟩
    replace H := H46
    clear H36 H46
    refine W.rg [(0, v), (1, .int .i64 ((wd : Nat) : Int)), (2, .int .i64 e), (3, .int .i64 mark), (8, .pointer (some ⟨b1, 0, none⟩)), (9, .pointer (some ⟨b3, 0, none⟩)), (11, .int .i64 (((s.n + j) : Nat) : Int)), (12, .int .i64 ((i : Nat) : Int)), (13, .int .i64 ((j : Nat) : Int))] fun TA => ?_
    refine W.region ?_
    refine RW.v ?_
    refine RW.valE (v' := .int .i64 ((((s.n + j) : Nat) : Int) + 1)) (by kernel_rfl) (by kernel_rfl) rfl (congrArg (Value.int .i64) (wrap_in (by omega) (by omega))) (by kernel_rfl) ?_
    refine RW.v ?_
    refine RW.nil ?_
    refine blkQ_normal ?_
    refine W.rg [(0, v), (1, .int .i64 ((wd : Nat) : Int)), (2, .int .i64 e), (3, .int .i64 mark), (8, .pointer (some ⟨b1, 0, none⟩)), (9, .pointer (some ⟨b3, 0, none⟩)), (11, .int .i64 ((((s.n + j) : Nat) : Int) + 1)), (12, .int .i64 ((i : Nat) : Int)), (13, .int .i64 ((j : Nat) : Int))] fun TA => ?_
    refine W.region ?_
    refine RW.v ?_
    refine RW.valE (v' := .int .i64 (((j : Nat) : Int) + 1)) (by kernel_rfl) (by kernel_rfl) rfl (congrArg (Value.int .i64) (wrap_in (by omega) (by omega))) (by kernel_rfl) ?_
    refine RW.v ?_
    refine RW.nil ?_
    skip
    exact ⟨rfl, mm2 - 1, by omega, j + 1, (by omega), H, rfl, rfl, rfl, rfl, rfl, rfl, rfl, rfl, rfl⟩
   ·have hc19b := hc19
    have hc19 := of_decide_eq_false hc19
    refine W.exit _ ?_
    refine seqQ_exit ?_
    refine rndQ_exit ?_
    have hj : j = (us.getD i default).X.length := by omega
    subst hj
    rw [List.take_length] at H
    refine blkQ_here ?_
    refine blkQ_normal ?_
    refine W.region ?_
    refine RW.v ?_
    refine RW.valE (v' := .int .i64 (((i : Nat) : Int) + 1)) (by kernel_rfl) (by kernel_rfl) rfl (congrArg (Value.int .i64) (wrap_in (by omega) (by omega))) (by kernel_rfl) ?_
    refine RW.v ?_
    refine RW.nil ?_
    exact ⟨rfl, mm - 1, by omega, i + 1, putA s (us.getD i default), (by omega), (putA_ok ok hsum hil).1, (putA_ok ok hsum hil).2, (by rw [hfs, drop_get hil]; rfl), H, rfl, rfl, rfl, rfl, rfl, rfl, rfl, rfl⟩
  ·have hc13b := hc13
   have hc13 := of_decide_eq_false hc13
   refine W.exit _ ?_
   refine seqQ_exit ?_
   refine rndQ_exit ?_
   have hfil : filA wd us = s := by rw [hfs, List.drop_eq_nil_of_le (by omega)]; rfl
   refine blkQ_here ?_
   refine W.seq ?_
   refine W.seq (W.region ?_)
   iterate 2 refine RW.v ?_
   refine RW.nil ?_
   refine W.rg [(1, .int .i64 ((wd : Nat) : Int)), (2, .int .i64 e), (3, .int .i64 mark), (8, .pointer (some ⟨b1, 0, none⟩)), (9, .pointer (some ⟨b3, 0, none⟩)), (11, .int .i64 ((s.n : Nat) : Int)), (76, .bool (mark == 0))] fun TA => ?_
   refine W.cond rfl (fun hc47 => ?_) (fun hc47 => ?_)
   ·have hc47b := hc47
    have hc47 := eq_of_beq hc47
    refine W.region ?_
    refine RW.v ?_
    refine RW.ld H 1 1 ?_
    iterate 2 refine RW.v ?_
    refine RW.idxGS H 0 rfl (by kernel_rfl) (by kernel_rfl) rfl Tryd.underlying37 (by kernel_rfl) rfl rfl ⟨by omega, by omega⟩ (by kernel_rfl) ?_
    intro b48 q49 hb50 hq51
    refine RW.stG H 0 rfl hb50 (vs := [.int .i64 e]) (by rw [hq51]; simp only [List.length_cons, List.length_nil]; omega) (by kernel_rfl) (by kernel_rfl) rfl rfl rfl rfl (by kernel_rfl) (by kernel_rfl) ?_
    clear H; intro _ H
    dsimp only [setL, delL] at H
    rw [show overL (s.P.map (Value.int .i64)) q49 [.int .i64 e] = (overC s.P s.n [e]).map (Value.int .i64) by rw [hq51, Int.toNat_natCast]; exact overL_map (Value.int .i64) s.P s.n e] at H
    refine RW.nil ?_
    refine W.rg [(8, .pointer (some ⟨b1, 0, none⟩)), (9, .pointer (some ⟨b3, 0, none⟩))] fun TA => ?_
    refine W.seq (W.region ?_)
    refine RW.ld H 1 5 ?_
    refine RW.stL H 3 (vs := [u2, pu, .int .i64 fr0, .int .i64 0, .bool false]) (cs' := [u2, pu, .int .i64 fr0, .int .i64 0, .bool false]) (by kernel_rfl) (by kernel_rfl) rfl rfl rfl (by rcases gr_forms (H.sl 2 rfl) with rfl | ⟨_, _, _, rfl⟩ <;> rcases gr_forms (H.sl 0 rfl) with rfl | ⟨_, _, _, rfl⟩ <;> rfl) (by rcases gr_forms (H.sl 2 rfl) with rfl | ⟨_, _, _, rfl⟩ <;> rcases gr_forms (H.sl 0 rfl) with rfl | ⟨_, _, _, rfl⟩ <;> rfl) (by kernel_rfl) (Nat.le_of_ble_eq_true rfl) rfl (by kernel_rfl) ?_
    clear H; intro _ _ H; dsimp only [setL, delL] at H
    refine RW.nil ?_
    replace H := (H.del 1)
    dsimp only [setL, delL] at H
    refine W.ret ?_
    refine endG (by rfl) (by exact resL_cell rfl (H.get 2 rfl) (by rw [uT_eq]; exact Tryd.underlying39) (by kernel_rfl) rfl rfl rfl) ?_
    obtain ⟨F1, le1, hc1, H⟩ := H.freezeSl 1 rfl
    dsimp only [setL, delL] at H
    obtain ⟨F2, le2, hc2, H⟩ := H.freezeSl 0 rfl
    dsimp only [setL, delL] at H
    have hn : s.n = sumX us := by rw [← hfil]; exact (filA_ok hfit (by omega)).2.1
    have hco : s.co = false := by rw [← hfil]; exact (filA_ok hfit (by omega)).2.2
    have hfz := fil_fr (wd := wd) (e := e) g nf
    rw [hfil] at hfz
    have er : rowK wd us e mark = ⟨s.C, overC s.P s.n [e], fr0, 0, false⟩ := by unfold rowK; rw [if_pos hc47, hfil]; show (⟨s.C, overC s.P s.n [e], if s.n = 0 then e else s.fr, 0, s.co⟩ : RowV) = _; rw [hco, hfz.1, ← hfr]
    rw [er]
    exact ⟨F2, _, _, fun b y h => le2 b y (le1 b y h), rfl, hc1.le le2, hc2, (H.del 0)⟩
   ·have hc47b := hc47
    have hc47 := ne_of_beq_false hc47
    refine W.region ?_
    refine RW.v ?_
    refine RW.ld H 1 1 ?_
    refine RW.v ?_
    refine RW.valE (v' := .int .i64 (((wd : Nat) : Int) - 1)) (by kernel_rfl) (by kernel_rfl) rfl (congrArg (Value.int .i64) (wrap_in (by omega) (by omega))) (by kernel_rfl) ?_
    refine RW.v ?_
    refine RW.idxGS H 2 rfl (by kernel_rfl) (by kernel_rfl) rfl Tryd.underlying36 (by kernel_rfl) rfl rfl ⟨by omega, by omega⟩ (by kernel_rfl) ?_
    intro b52 q53 hb54 hq55
    refine RW.v ?_
    refine RW.stG H 2 rfl hb54 (vs := [.int .i64 mark]) (by show q53 + 1 ≤ wd * 6; rw [hq55]; omega) (by kernel_rfl) (by kernel_rfl) rfl rfl rfl rfl (by kernel_rfl) (by kernel_rfl) ?_
    clear H; intro _ H
    dsimp only [setL, delL] at H
    replace H : Lies G A F _ (.sl 3 1 pu wd (s.P.map (Value.int .i64)) :: .at_ b3 (.row ⟨[u2, pu, .int .i64 fr0, .int .i64 0, .bool false], 39, false⟩) :: .sl 79 6 u2 wd (overL (cC s.C) q53 [.int .i64 mark]) :: .at_ b1 (.row ⟨[.slice none 0 0, .slice none 0 0, .int .i64 0, .int .i64 0, .bool false], 39, false⟩) :: (L)) := H
    rw [show overL (cC s.C) q53 [.int .i64 mark] = cC (markC s.C mark) by rw [hq55]; exact mark_cells (by omega) (by omega)] at H
    refine RW.nil ?_
    refine W.rg [(8, .pointer (some ⟨b1, 0, none⟩)), (9, .pointer (some ⟨b3, 0, none⟩))] fun TA => ?_
    refine W.seq (W.region ?_)
    refine RW.ld H 1 5 ?_
    refine RW.stL H 3 (vs := [u2, pu, .int .i64 fr0, .int .i64 0, .bool false]) (cs' := [u2, pu, .int .i64 fr0, .int .i64 0, .bool false]) (by kernel_rfl) (by kernel_rfl) rfl rfl rfl (by rcases gr_forms (H.sl 2 rfl) with rfl | ⟨_, _, _, rfl⟩ <;> rcases gr_forms (H.sl 0 rfl) with rfl | ⟨_, _, _, rfl⟩ <;> rfl) (by rcases gr_forms (H.sl 2 rfl) with rfl | ⟨_, _, _, rfl⟩ <;> rcases gr_forms (H.sl 0 rfl) with rfl | ⟨_, _, _, rfl⟩ <;> rfl) (by kernel_rfl) (Nat.le_of_ble_eq_true rfl) rfl (by kernel_rfl) ?_
    clear H; intro _ _ H; dsimp only [setL, delL] at H
    refine RW.nil ?_
    replace H := (H.del 1)
    dsimp only [setL, delL] at H
    refine W.ret ?_
    refine endG (by rfl) (by exact resL_cell rfl (H.get 2 rfl) (by rw [uT_eq]; exact Tryd.underlying39) (by kernel_rfl) rfl rfl rfl) ?_
    obtain ⟨F1, le1, hc1, H⟩ := H.freezeSl 1 rfl
    dsimp only [setL, delL] at H
    obtain ⟨F2, le2, hc2, H⟩ := H.freezeSl 0 rfl
    dsimp only [setL, delL] at H
    have hn : s.n = sumX us := by rw [← hfil]; exact (filA_ok hfit (by omega)).2.1
    have hco : s.co = false := by rw [← hfil]; exact (filA_ok hfit (by omega)).2.2
    have hfz := fil_fr (wd := wd) (e := e) g nf
    rw [hfil] at hfz
    have er : rowK wd us e mark = ⟨markC s.C mark, s.P, fr0, 0, false⟩ := by unfold rowK; rw [if_neg hc47, hfil]; show (⟨markC s.C mark, s.P, s.fr, 0, s.co⟩ : RowV) = _; rw [hco, hfz.2 (hmk hc47), hfr, if_neg (hmk hc47)]
    rw [er]
    exact ⟨F2, _, _, fun b y h => le2 b y (le1 b y h), rfl, hc1.le le2, hc2, (H.del 0)⟩
end
end Go.Proofs.YtmmapljeeccdnaaDoor
