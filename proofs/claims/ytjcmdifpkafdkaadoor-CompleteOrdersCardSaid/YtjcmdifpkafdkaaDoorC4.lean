/-
 The reference of completion: characters, candidates, common prefixes. Conditions: none.
-/
import Derived.Test.YtjcmdifpkafdkaaDoorCpf
import Derived.Test.YtjcmdifpkafdkaaDoorR2
import Derived.Test.YtjcmdifpkafdkaaDoorR1
namespace Go.Proofs.YtjcmdifpkafdkaaDoor
open Go.Lib
set_option maxRecDepth 100000
open Go.RowKit
theorem intz_at {l : List Int} {j : Nat} {i : Int} (hi : i = ((j : Nat) : Int)) (h : j < l.length) : ((l.map (Value.int .i64)).drop (i.toNat * 1)).take 1 = [.int .i64 (l.getD j 0)] := by
 subst hi
 rw [Int.toNat_natCast, Nat.mul_one, List.getD_eq_getElem?_getD, List.getElem?_eq_getElem h, List.drop_eq_getElem_cons (by simpa using h)]
 simp
theorem intz_snoc {l : List Int} {x : Int} : l.map (Value.int .i64) ++ [.int .i64 x] = (l ++ [x]).map (Value.int .i64) := by simp
theorem intz_len {l : List Int} {x : Int} : l.length + 1 = (l ++ [x]).length := by simp
theorem dec_ok {l : List UInt8} (hne : l ≠ []) (hv : validD l = true) : ¬ ((decodeL l).1 = 65533 ∧ (decodeL l).2 = 1) ∧ (1 ≤ (decodeL l).2 ∧ (decodeL l).2 ≤ l.length) ∧ runes l = (((decodeL l).1 : Nat) : Int) :: runes (l.drop (decodeL l).2) ∧ validD (l.drop (decodeL l).2) = true := by
 have he := valid_eq hv
 have hc := valid_ch hv
 have hst := runes_step l hne
 rw [hst] at he hc
 have hch := hc _ (List.mem_cons_self ..)
 have hd : decodeL l = ((((decodeL l).1 : Nat) : Int).toNat, (encodeRune (((decodeL l).1 : Nat) : Int)).length) := by
  conv => lhs; rw [← he, encA_cons]
  exact decode_enc _ hch _
 have h2 : (decodeL l).2 = (encodeRune (((decodeL l).1 : Nat) : Int)).length := congrArg Prod.snd hd
 have hgood : ¬ ((decodeL l).1 = 65533 ∧ (decodeL l).2 = 1) := by
  have := enc_good _ hch
  rw [Int.toNat_natCast, ← h2] at this
  exact this
 have hl := enc_len (((decodeL l).1 : Nat) : Int)
 have hs := split_dec l hne hgood
 refine ⟨hgood, ⟨by omega, ?_⟩, hst, ?_⟩
 ·have := congrArg List.length hs
  rw [List.length_append, ← h2, List.length_drop] at this
  omega
 ·rw [hs, valid_enc _ hch] at hv
  exact hv
def AllI (F : Nat → Option Blk2) (cs : List Value) (ls : List (List Int)) : Prop := cs.length = ls.length ∧ ∀ j, j < ls.length → SlK F 1 (cs.getD j undef) (ls.getD j []).length ((ls.getD j []).map (Value.int .i64))
theorem AllI.le {F F' : Nat → Option Blk2} {cs : List Value} {ls : List (List Int)} (h : AllI F cs ls) (k : Le F F') : AllI F' cs ls := ⟨h.1, fun j hj => (h.2 j hj).le k⟩
theorem AllI.nil {F : Nat → Option Blk2} : AllI F [] [] := ⟨rfl, fun j hj => absurd hj (Nat.not_lt_zero _)⟩
theorem AllI.drop {F : Nat → Option Blk2} {cs : List Value} {ls : List (List Int)} (a : AllI F cs ls) (k : Nat) : AllI F (cs.drop k) (ls.drop k) := by
 refine ⟨by rw [List.length_drop, List.length_drop, a.1], fun j hj => ?_⟩
 rw [List.length_drop] at hj
 rw [getD_dropR, getD_dropR]
 exact a.2 _ (by omega)
theorem gr_slkZ {G : Nat} {σ : Mem} {e s n : Nat} {v : Value} {xs : List Value} (h : GRow G σ e s v n xs) : SlK σ.get s v n xs := by
 have hlen := h.length
 cases h with
 | nil => exact .nil
 | row hq hr ht hc hl hx => exact .some hr hlen (by rw [List.drop_zero]; exact hx) hl (.inr rfl)
def charsM (s : List UInt8) : List Int := if validD s = true then runes s else []
theorem chars_yes {s : List UInt8} (h : validD s = true) : charsM s = runes s := if_pos h
theorem chars_no {s : List UInt8} (h : validD s = false) : charsM s = [] := if_neg (by rw [h]; exact Bool.false_ne_true)
section
variable {G : Nat} {A : Abs} {σ : Mem} {F : Nat → Option Blk2} {L : List Ent} {fold : Bool} {l : List (List UInt8)} {s bs : List UInt8} {xs ys : List Int} {ls : List (List Int)} {sls : List Value} {v1 v2 : Value} {a b : Int} {p : Nat}
theorem s_rvalid {bs : List UInt8} (hs : bs.length ≤ 1000000) : SCall G Tryd.prog 54 #[.string ⟨bs.toArray⟩] σ (.bool (validD bs)) σ :=
 below_call rfl rfl fun w => by
  have := ref_valid ⟨bs.toArray⟩ w (by show bs.length ≤ _; omega)
  simpa using this
theorem s_listno {bs : List UInt8} (hs : bs.length ≤ 1000000) (hv : validD bs = false) : SCall G Tryd.prog 89 #[.string ⟨bs.toArray⟩] σ (.tuple #[.slice none 0 0, .int .i64 5]) σ :=
 below_call rfl rfl fun w => ref_list_no ⟨bs.toArray⟩ w (by show bs.length ≤ _; omega) (by simpa using hv)
theorem s_rfold (c : Int) : SCall G Tryd.prog 106 #[.int .i64 c] σ (.int .i64 (foldOf c)) σ :=
 below_call rfl rfl fun w => ref_fold c w
theorem s_point {bs : List UInt8} (hs : bs.length ≤ 1000000) (hne : bs ≠ []) (hg : ¬ ((decodeL bs).1 = 65533 ∧ (decodeL bs).2 = 1)) : SCall G Tryd.prog 105 #[.string ⟨bs.toArray⟩] σ (.tuple #[.int .i64 (((decodeL bs).1 : Nat) : Int), .int .i64 (((decodeL bs).2 : Nat) : Int)]) σ :=
 below_call rfl rfl fun w => by
  have hl : 0 < bs.length := List.length_pos_iff.2 hne
  refine (point_any ⟨bs.toArray⟩ w (by show bs.length ≤ _; omega) (by show 0 < bs.length; exact hl)).mono ?_
  rintro e w' ⟨rfl, q, rfl⟩
  have hp : ptOf bs = decodeL bs := if_neg hg
  refine ⟨?_, below_drewN (Below.refl _ _) _⟩
  show _ = _
  rw [show (⟨bs.toArray⟩ : ByteArray).data.toList = bs by simp, hp]
set_option maxHeartbeats 8000000 in
theorem r_list {bs : List UInt8} (hvb : validD bs = true) (hs : bs.length ≤ 1000000) (H : Lies G A F σ L) : WC G Tryd.prog 89 #[.string ⟨bs.toArray⟩] σ fun v σ' => ∃ F' u, Le F F' ∧ v = .tuple #[u, .int .i64 0] ∧ SlK F' 1 u (runes bs).length ((runes bs).map (Value.int .i64)) ∧ Lies G A F' σ' L := by
 refine WC.enter (fn := Tryd.f89) Tryd.func89 rfl ?_
 refine W.rg [(0, .string ⟨bs.toArray⟩)] fun TA => ?_
 refine W.seq (W.region ?_)
 iterate 2 refine RW.v ?_
 refine RW.nil ?_
 refine W.rg [(0, .string ⟨bs.toArray⟩)] fun TA => ?_
 refine W.seq (W.region ?_)
 refine RW.v ?_
 refine RW.nil ?_
 refine W.rg [(0, .string ⟨bs.toArray⟩), (4, .slice none 0 0)] fun TA => ?_
 refine W.seq ?_
 refine W.block ?_
 replace H := H.nilSl 3 1
 refine W.loop (fun mm ta σ => ∃ (rest : List UInt8) (acc : List Int) (u : Value), (rest.length ≤ mm) ∧ (rest.length ≤ bs.length) ∧ (validD rest = true) ∧ (acc ++ runes rest = runes bs) ∧ Lies G A F σ (.sl 3 1 u acc.length (acc.map (Value.int .i64)) :: (L)) ∧ ta 0 = .string ⟨rest.toArray⟩ ∧ ta 4 = u) bs.length ?_ ?_
 ·exact ⟨bs, [], .slice none 0 0, (Nat.le_refl _), (Nat.le_refl _), hvb, rfl, H, rfl, rfl⟩
 clear H
 rintro mm ta _ ⟨rest, acc, u, hm, hrb, hv, hacc, H, e0, e4⟩
 refine W.rst [(0, .string ⟨rest.toArray⟩), (4, u)] ⟨e0, e4, trivial⟩ fun TA => ?_
 clear e0 e4
 refine W.seq ?_
 refine W.seq (W.region ?_)
 refine RW.v ?_
 refine RW.vop (v := .int .i64 (rest.length : Int)) (by kernel_rfl) (by kernel_rfl) (vop_sLenL rfl rfl rfl rfl Tryd.underlying9 rfl) (by kernel_rfl) ?_
 refine RW.v ?_
 refine RW.nil ?_
 refine W.rg [(0, .string ⟨rest.toArray⟩), (4, u), (9, .bool (decide ((rest.length : Int) > 0)))] fun TA => ?_
 refine W.cond rfl (fun hc1 => ?_) (fun hc1 => ?_)
 ·have hc1b := hc1
  have hc1 := of_decide_eq_true hc1
  have hgt : 0 < rest.length := by omega
  have hal : acc.length ≤ (runes bs).length := by rw [← hacc, List.length_append]; omega
  have hrl := runes_le bs
  refine W.skip ?_
  refine W.block ?_
  refine W.seq (W.region ?_)
  refine RW.v ?_
  have hne : rest ≠ [] := fun e => by rw [e] at hgt; simp at hgt
  obtain ⟨d1, d2, d3, d4⟩ := dec_ok hne hv
  have hal2 : acc.length + 1 ≤ (runes bs).length := by rw [← hacc, d3, List.length_append, List.length_cons]; omega
  refine RW.cl ?_
  refine ⟨_, _, (s_point (by omega) hne d1), ?_⟩
  iterate 5 refine RW.v ?_
  refine RW.nil ?_
  refine W.rg [(0, .string ⟨rest.toArray⟩), (4, u), (5, .int .i64 (((decodeL rest).1 : Nat) : Int)), (6, .int .i64 (((decodeL rest).2 : Nat) : Int))] fun TA => ?_
  refine W.seq ?_
  refine W.seq (W.region ?_)
  refine RW.v ?_
  refine RW.valE (v' := .bool false) (by kernel_rfl) (by kernel_rfl) rfl (congrArg Value.bool (beq_eq_false_iff_ne.2 (by omega))) (by kernel_rfl) ?_
  refine RW.nil ?_
  refine W.c0 ?_
  refine W.skip ?_
  refine W.seq (W.region ?_)
  iterate 2 refine RW.v ?_
  refine RW.mkL H (x := .row ⟨[.int .i64 (((decodeL rest).1 : Nat) : Int)], 3, false⟩) (fm := fun b => .slice (some ⟨b, 0, none⟩) 1 1) (by kernel_rfl) (by kernel_rfl) (by kernel_rfl) (by kernel_rfl) ?_
  clear H; intro _ b2 _ H
  refine RW.appL H 1 0 (n := 1) (e2 := 3) (by kernel_rfl) (by kernel_rfl) rfl rfl rfl rfl rfl rfl rfl rfl (by kernel_rfl) (by kernel_rfl) (by kernel_rfl) (by decide) (by decide) rfl rfl (by omega) (by kernel_rfl) ?_
  clear H; intro _ v3 _ H
  dsimp only [setL, delL] at H
  refine RW.v ?_
  refine RW.nil ?_
  refine W.rg [(0, .string ⟨rest.toArray⟩), (4, v3), (6, .int .i64 (((decodeL rest).2 : Nat) : Int))] fun TA => ?_
  refine W.region ?_
  iterate 2 refine RW.v ?_
  refine RW.vop (v := .string ⟨(rest.drop ((decodeL rest).2)).toArray⟩) (by kernel_rfl) (by kernel_rfl) (vop_sTailL (a := rest) (j := (decodeL rest).2) rfl rfl rfl Tryd.underlying9 (by omega)) (by kernel_rfl) ?_
  refine RW.v ?_
  refine RW.nil ?_
  refine blkQ_normal ?_
  rw [intz_snoc, intz_len] at H
  exact ⟨rfl, mm - 1, by omega, (rest.drop (decodeL rest).2), (acc ++ [(((decodeL rest).1 : Nat) : Int)]), v3, (by rw [List.length_drop]; omega), (by rw [List.length_drop]; omega), d4, (by rw [List.append_assoc, ← hacc, d3]; rfl), H, rfl, rfl⟩
 ·have hc1b := hc1
  have hc1 := of_decide_eq_false hc1
  refine W.exit _ ?_
  refine seqQ_exit ?_
  refine rndQ_exit ?_
  obtain rfl : rest = [] := List.eq_nil_of_length_eq_zero (by omega)
  refine blkQ_here ?_
  refine W.seq (W.region ?_)
  iterate 3 refine RW.v ?_
  refine RW.nil ?_
  refine W.ret ?_
  refine endG (by rfl) (by exact resL_tmp (by exact resL_tmp rfl)) ?_
  have ea : acc = runes bs := by rw [← hacc]; exact (List.append_nil _).symm
  rw [ea] at H
  obtain ⟨F', le, hv2, H⟩ := H.freezeK 0 rfl
  exact ⟨F', _, le, rfl, hv2, H⟩
set_option maxHeartbeats 8000000 in
theorem r_chars (hs : bs.length ≤ 1000000) (H : Lies G A F σ L) : WC G Tryd.prog 48 #[.string ⟨bs.toArray⟩] σ fun v σ' => ∃ F' u, Le F F' ∧ v = u ∧ SlK F' 1 u (charsM bs).length ((charsM bs).map (Value.int .i64)) ∧ Lies G A F' σ' L := by
 cases hv : validD bs with
 | true =>
  refine WC.enter (fn := Tryd.f48) Tryd.func48 rfl ?_
  refine W.rg [(0, .string ⟨bs.toArray⟩)] fun TA => ?_
  refine W.seq (W.region ?_)
  refine RW.v ?_
  refine RW.nil ?_
  refine W.rg [(0, .string ⟨bs.toArray⟩)] fun TA => ?_
  refine W.seq (W.region ?_)
  refine RW.v ?_
  refine RW.cl ?_
  refine ((r_list hv hs H).mono ?_)
  clear H
  rintro _ _ ⟨F', u, le, rfl, hu, H⟩
  iterate 5 refine RW.v ?_
  refine RW.nil ?_
  refine W.rg [(3, u)] fun TA => ?_
  refine W.seq (W.region ?_)
  iterate 2 refine RW.v ?_
  refine RW.nil ?_
  refine W.ret ?_
  refine endG (by rfl) (by exact resL_tmp rfl) ?_
  exact ⟨F', _, le, rfl, by rw [chars_yes hv]; exact hu, H⟩
 | false =>
  refine WC.enter (fn := Tryd.f48) Tryd.func48 rfl ?_
  refine W.rg [(0, .string ⟨bs.toArray⟩)] fun TA => ?_
  refine W.seq (W.region ?_)
  refine RW.v ?_
  refine RW.nil ?_
  refine W.rg [(0, .string ⟨bs.toArray⟩)] fun TA => ?_
  refine W.seq (W.region ?_)
  refine RW.v ?_
  refine RW.cl ?_
  refine ⟨_, _, (s_listno hs hv), ?_⟩
  iterate 5 refine RW.v ?_
  refine RW.nil ?_
  refine W.rg [(3, .slice none 0 0)] fun TA => ?_
  refine W.seq (W.region ?_)
  iterate 2 refine RW.v ?_
  refine RW.nil ?_
  refine W.ret ?_
  refine endG (by rfl) (by exact resL_tmp rfl) ?_
  exact ⟨F, _, fun _ _ h => h, rfl, by rw [chars_no hv]; exact .nil, H⟩
set_option maxHeartbeats 8000000 in
theorem r_same (H : Lies G A F σ L) : WC G Tryd.prog 90 #[.int .i64 a, .int .i64 b, .bool fold] σ fun v σ' => v = .bool (foldC fold a == foldC fold b) ∧ Lies G A F σ' L := by
 refine WC.enter (fn := Tryd.f90) Tryd.func90 rfl ?_
 refine W.rg [(0, .int .i64 a), (1, .int .i64 b), (2, .bool fold)] fun TA => ?_
 refine W.seq (W.region ?_)
 refine RW.v ?_
 refine RW.nil ?_
 refine W.rg [(0, .int .i64 a), (1, .int .i64 b), (2, .bool fold)] fun TA => ?_
 refine W.seq (W.region ?_)
 iterate 4 refine RW.v ?_
 refine RW.both _ _ rfl rfl rfl (fun hc1 => ?_) (fun hc1 => ?_)
 ·have hc1b := hc1
  have hc1 := eq_of_beq hc1
  iterate 8 refine RW.s ?_
  iterate 2 refine RW.v ?_
  refine RW.nil ?_
  refine W.ret ?_
  refine endG (by rfl) (by exact resL_tmp rfl) ?_
  have e : (foldC fold a == foldC fold b) = true := by rw [hc1]; exact beq_self_eq_true _
  rw [e]
  exact ⟨rfl, H⟩
 ·have hc1b := hc1
  have hc1 := ne_of_beq_false hc1
  iterate 2 refine RW.w ?_
  refine RW.both _ _ rfl rfl rfl (fun hc2 => ?_) (fun hc2 => ?_)
  ·have hc2b := hc2
   refine RW.w ?_
   refine RW.cl (hw := by rfl) ?_
   refine ⟨_, _, (s_rfold _), ?_⟩
   refine RW.w ?_
   refine RW.cl (hw := by rfl) ?_
   refine ⟨_, _, (s_rfold _), ?_⟩
   iterate 2 refine RW.w ?_
   iterate 2 refine RW.v ?_
   refine RW.nil ?_
   refine W.ret ?_
   refine endG (by rfl) (by exact resL_tmp rfl) ?_
   have e : (foldC fold a == foldC fold b) = (foldOf a == foldOf b) := by rw [hc2b]; rfl
   rw [e]
   exact ⟨rfl, H⟩
  ·have hc2b := hc2
   iterate 5 refine RW.s ?_
   refine RW.w ?_
   iterate 2 refine RW.v ?_
   refine RW.nil ?_
   refine W.ret ?_
   refine endG (by rfl) (by exact resL_tmp rfl) ?_
   have e : (foldC fold a == foldC fold b) = false := by rw [hc2b]; exact beq_eq_false_iff_ne.2 hc1
   rw [e]
   exact ⟨rfl, H⟩
set_option maxHeartbeats 4000000 in
theorem r_among (h1 : SlF F 1 v1 l.length (l.map strV)) (hl : l.length ≤ 1000000) (H : Lies G A F σ L) : WC G Tryd.prog 82 #[v1, .string ⟨s.toArray⟩] σ fun v σ' => v = .bool (decide (s ∈ l)) ∧ Lies G A F σ' L := by
 refine WC.enter (fn := Tryd.f82) Tryd.func82 rfl ?_
 refine W.rg [(0, v1), (1, .string ⟨s.toArray⟩)] fun TA => ?_
 refine W.seq (W.region ?_)
 refine RW.v ?_
 refine RW.nil ?_
 refine W.rg [(0, v1), (1, .string ⟨s.toArray⟩)] fun TA => ?_
 refine W.seq ?_
 refine W.seq (W.region ?_)
 refine RW.v ?_
 refine RW.nil ?_
 refine W.rg [(0, v1), (1, .string ⟨s.toArray⟩), (5, .int .i64 0)] fun TA => ?_
 refine W.block ?_
 refine W.loop (fun mm ta σ => ∃ (i : Nat), (mm + i = l.length) ∧ (s ∈ l ↔ s ∈ l.drop i) ∧ Lies G A F σ ((L)) ∧ ta 0 = v1 ∧ ta 1 = .string ⟨s.toArray⟩ ∧ ta 5 = .int .i64 ((i : Nat) : Int)) l.length ?_ ?_
 ·exact ⟨0, (by omega), Iff.rfl, H, rfl, rfl, rfl⟩
 clear H
 rintro mm ta _ ⟨i, hm, hT, H, e0, e1, e5⟩
 refine W.rst [(0, v1), (1, .string ⟨s.toArray⟩), (5, .int .i64 ((i : Nat) : Int))] ⟨e0, e1, e5, trivial⟩ fun TA => ?_
 clear e0 e1 e5
 refine W.seq ?_
 refine W.seq (W.region ?_)
 iterate 2 refine RW.v ?_
 refine RW.len (by kernel_rfl) (by kernel_rfl) rfl rfl rfl rfl (h1.len (e := 9) (by kernel_rfl)) (by kernel_rfl) ?_
 refine RW.v ?_
 refine RW.nil ?_
 refine W.rg [(0, v1), (1, .string ⟨s.toArray⟩), (5, .int .i64 ((i : Nat) : Int)), (9, .bool (decide (((i : Nat) : Int) < (l.length : Int))))] fun TA => ?_
 refine W.cond rfl (fun hc1 => ?_) (fun hc1 => ?_)
 ·have hc1b := hc1
  have hc1 := of_decide_eq_true hc1
  have hil : i < l.length := by omega
  refine W.skip ?_
  refine W.seq ?_
  refine W.block ?_
  refine W.seq (W.region ?_)
  iterate 2 refine RW.v ?_
  refine RW.idxF h1 (by kernel_rfl) (by kernel_rfl) rfl Tryd.underlying22 (by kernel_rfl) rfl rfl ⟨by omega, by omega⟩ (by kernel_rfl) ?_
  intro b2 q3 r4 hF5 hE6
  rw [strs_at (l := l) (j := i) (i := ((i : Nat) : Int)) (by omega) (by omega)] at hE6
  refine RW.loads 1 (by kernel_rfl) (by kernel_rfl) rfl rfl (H.old _ _ hF5) hE6 rfl (by kernel_rfl) ?_
  refine RW.v ?_
  refine RW.vop (v := .bool ((l.getD i []) == s)) (by kernel_rfl) (by kernel_rfl) (vop_sEq rfl rfl rfl rfl) (by kernel_rfl) ?_
  refine RW.nil ?_
  refine W.rg [(0, v1), (1, .string ⟨s.toArray⟩), (5, .int .i64 ((i : Nat) : Int)), (17, .bool ((l.getD i []) == s))] fun TA => ?_
  refine W.cond rfl (fun hc7 => ?_) (fun hc7 => ?_)
  ·have hc7b := hc7
   have hc7 := eq_of_beq hc7
   refine W.seq (W.region ?_)
   refine RW.v ?_
   refine RW.nil ?_
   refine W.ret ?_
   refine blkQ_ret ?_
   refine seqQ_ret ?_
   refine rndQ_ret ?_
   refine blkQ_ret ?_
   refine seqQ_ret ?_
   refine endG (by rfl) (by exact resL_tmp rfl) ?_
   have e : decide (s ∈ l) = true := decide_eq_true (hT.2 (by rw [dropD (d := []) hil, hc7]; exact List.mem_cons_self ..))
   rw [e]
   exact ⟨rfl, H⟩
  ·have hc7b := hc7
   have hc7 := ne_of_beq_false hc7
   refine W.skip ?_
   refine blkQ_normal ?_
   refine W.region ?_
   refine RW.v ?_
   refine RW.valE (v' := .int .i64 (((i : Nat) : Int) + 1)) (by kernel_rfl) (by kernel_rfl) rfl (congrArg (Value.int .i64) (wrap_in (by omega) (by omega))) (by kernel_rfl) ?_
   refine RW.v ?_
   refine RW.nil ?_
   exact ⟨rfl, mm - 1, by omega, i + 1, (by omega), (by rw [hT, dropD (d := []) hil, List.mem_cons]; exact ⟨fun h => h.resolve_left (fun e => hc7 e.symm), .inr⟩), H, rfl, rfl, rfl⟩
 ·have hc1b := hc1
  have hc1 := of_decide_eq_false hc1
  refine W.exit _ ?_
  refine seqQ_exit ?_
  refine rndQ_exit ?_
  refine blkQ_here ?_
  refine W.seq (W.region ?_)
  refine RW.v ?_
  refine RW.nil ?_
  refine W.ret ?_
  refine endG (by rfl) (by exact resL_tmp rfl) ?_
  have e : decide (s ∈ l) = false := decide_eq_false (fun h => by have := hT.1 h; rw [List.drop_eq_nil_of_le (by omega)] at this; exact absurd this (List.not_mem_nil))
  rw [e]
  exact ⟨rfl, H⟩
set_option maxHeartbeats 4000000 in
theorem r_candidates (h1 : SlF F 1 v1 l.length (l.map strV)) (hl : l.length ≤ 1000000) (hsm : ∀ s ∈ l, s.length ≤ 1000000) (H : Lies G A F σ L) : WC G Tryd.prog 60 #[v1] σ fun v σ' => ∃ F', Le F F' ∧ SlF F' 1 v (distM l).length ((distM l).map strV) ∧ Lies G A F' σ' L := by
 refine WC.enter (fn := Tryd.f60) Tryd.func60 rfl ?_
 refine W.rg [(0, v1)] fun TA => ?_
 refine W.seq (W.region ?_)
 refine RW.v ?_
 refine RW.nil ?_
 refine W.rg [(0, v1)] fun TA => ?_
 refine W.seq (W.region ?_)
 refine RW.v ?_
 refine RW.nil ?_
 refine W.rg [(0, v1), (3, .slice none 0 0)] fun TA => ?_
 refine W.seq ?_
 refine W.seq (W.region ?_)
 refine RW.v ?_
 refine RW.nil ?_
 refine W.rg [(0, v1), (3, .slice none 0 0), (4, .int .i64 0)] fun TA => ?_
 refine W.block ?_
 replace H := H.nilSl 9 1
 refine W.loop (fun mm ta σ => ∃ (i : Nat) (acc : List (List UInt8)) (u : Value), (mm + i = l.length) ∧ (acc.length ≤ i) ∧ (distM l = acc ++ distG acc (l.drop i)) ∧ Lies G A F σ (.sl 9 1 u acc.length (acc.map strV) :: (L)) ∧ ta 0 = v1 ∧ ta 3 = u ∧ ta 4 = .int .i64 ((i : Nat) : Int)) l.length ?_ ?_
 ·exact ⟨0, [], .slice none 0 0, (by omega), (Nat.zero_le _), rfl, H, rfl, rfl, rfl⟩
 clear H
 rintro mm ta _ ⟨i, acc, u, hm, hac, hT, H, e0, e3, e4⟩
 refine W.rst [(0, v1), (3, u), (4, .int .i64 ((i : Nat) : Int))] ⟨e0, e3, e4, trivial⟩ fun TA => ?_
 clear e0 e3 e4
 refine W.seq ?_
 refine W.seq (W.region ?_)
 iterate 2 refine RW.v ?_
 refine RW.len (by kernel_rfl) (by kernel_rfl) rfl rfl rfl rfl (h1.len (e := 9) (by kernel_rfl)) (by kernel_rfl) ?_
 refine RW.v ?_
 refine RW.nil ?_
 refine W.rg [(0, v1), (3, u), (4, .int .i64 ((i : Nat) : Int)), (8, .bool (decide (((i : Nat) : Int) < (l.length : Int))))] fun TA => ?_
 refine W.cond rfl (fun hc1 => ?_) (fun hc1 => ?_)
 ·have hc1b := hc1
  have hc1 := of_decide_eq_true hc1
  have hil : i < l.length := by omega
  refine W.skip ?_
  refine W.seq ?_
  refine W.block ?_
  refine W.seq (W.region ?_)
  iterate 2 refine RW.v ?_
  refine RW.idxF h1 (by kernel_rfl) (by kernel_rfl) rfl Tryd.underlying22 (by kernel_rfl) rfl rfl ⟨by omega, by omega⟩ (by kernel_rfl) ?_
  intro b2 q3 r4 hF5 hE6
  rw [strs_at (l := l) (j := i) (i := ((i : Nat) : Int)) (by omega) (by omega)] at hE6
  refine RW.loads 1 (by kernel_rfl) (by kernel_rfl) rfl rfl (H.old _ _ hF5) hE6 rfl (by kernel_rfl) ?_
  refine RW.cl ?_
  refine ⟨_, _, (s_rvalid (hsm _ (mem_of (by omega)))), ?_⟩
  refine RW.v ?_
  refine RW.both _ _ rfl rfl rfl (fun hc7 => ?_) (fun hc7 => ?_)
  ·have hc7b := hc7
   iterate 3 refine RW.w ?_
   refine RW.idxF h1 (by rfl) (by kernel_rfl) rfl Tryd.underlying22 (by kernel_rfl) rfl rfl ⟨by omega, by omega⟩ (by kernel_rfl) ?_
   intro b8 q9 r10 hF11 hE12
   rw [strs_at (l := l) (j := i) (i := ((i : Nat) : Int)) (by omega) (by omega)] at hE12
   refine RW.loads 1 (by rfl) (by kernel_rfl) rfl rfl (H.old _ _ hF11) hE12 rfl (by kernel_rfl) ?_
   refine RW.cl (hw := by rfl) ?_
   refine ((r_among (gr_slkZ (H.sl 0 rfl)).slf (by omega) (Lies.start H.gn H.abs)).mono ?_)
   rintro _ _ ⟨rfl, K⟩
   replace H : Lies G A F _ (.sl 9 1 u acc.length (acc.map strV) :: (L)) := H.then K
   clear K
   refine RW.w ?_
   refine RW.v ?_
   refine RW.nil ?_
   refine W.rg [(0, v1), (3, u), (4, .int .i64 ((i : Nat) : Int)), (24, .bool (!(decide ((l.getD i []) ∈ acc))))] fun TA => ?_
   refine W.cond rfl (fun hc13 => ?_) (fun hc13 => ?_)
   ·have hc13b := hc13
    have hmem : decide ((l.getD i []) ∈ acc) = false := by simpa using hc13b
    refine W.region ?_
    iterate 3 refine RW.v ?_
    refine RW.idxF h1 (by kernel_rfl) (by kernel_rfl) rfl Tryd.underlying22 (by kernel_rfl) rfl rfl ⟨by omega, by omega⟩ (by kernel_rfl) ?_
    intro b14 q15 r16 hF17 hE18
    rw [strs_at (l := l) (j := i) (i := ((i : Nat) : Int)) (by omega) (by omega)] at hE18
    refine RW.loads 1 (by kernel_rfl) (by kernel_rfl) rfl rfl (H.old _ _ hF17) hE18 rfl (by kernel_rfl) ?_
    refine RW.mkL H (x := .row ⟨[.string ⟨(l.getD i []).toArray⟩], 9, false⟩) (fm := fun b => .slice (some ⟨b, 0, none⟩) 1 1) (by kernel_rfl) (by kernel_rfl) (by kernel_rfl) (by kernel_rfl) ?_
    clear H; intro _ b19 _ H
    refine RW.appL H 1 0 (n := 1) (e2 := 9) (by kernel_rfl) (by kernel_rfl) rfl rfl rfl rfl rfl rfl rfl rfl (by kernel_rfl) (by kernel_rfl) (by kernel_rfl) (by decide) (by decide) rfl rfl (by omega) (by kernel_rfl) ?_
    clear H; intro _ v20 _ H
    dsimp only [setL, delL] at H
    refine RW.v ?_
    refine RW.nil ?_
    refine blkQ_normal ?_
    refine W.rg [(0, v1), (3, v20), (4, .int .i64 ((i : Nat) : Int))] fun TA => ?_
    refine W.region ?_
    refine RW.v ?_
    refine RW.valE (v' := .int .i64 (((i : Nat) : Int) + 1)) (by kernel_rfl) (by kernel_rfl) rfl (congrArg (Value.int .i64) (wrap_in (by omega) (by omega))) (by kernel_rfl) ?_
    refine RW.v ?_
    refine RW.nil ?_
    rw [acc_snoc (x := (l.getD i []))] at H
    rw [show acc.length + 1 = (acc ++ [(l.getD i [])]).length by rw [List.length_append]; rfl] at H
    exact ⟨rfl, mm - 1, by omega, i + 1, (acc ++ [(l.getD i [])]), v20, (by omega), (by rw [List.length_append, List.length_singleton]; omega), (by rw [hT, dist_take hil (of_decide_eq_false hmem) hc7b, List.append_assoc]; rfl), H, rfl, rfl, rfl⟩
   ·have hc13b := hc13
    have hmem : decide ((l.getD i []) ∈ acc) = true := by simpa using hc13b
    refine W.skip ?_
    refine blkQ_normal ?_
    refine W.region ?_
    refine RW.v ?_
    refine RW.valE (v' := .int .i64 (((i : Nat) : Int) + 1)) (by kernel_rfl) (by kernel_rfl) rfl (congrArg (Value.int .i64) (wrap_in (by omega) (by omega))) (by kernel_rfl) ?_
    refine RW.v ?_
    refine RW.nil ?_
    exact ⟨rfl, mm - 1, by omega, i + 1, acc, u, (by omega), (by omega), (by rw [hT, dist_skip hil (.inl (of_decide_eq_true hmem))]), H, rfl, rfl, rfl⟩
  ·have hc7b := hc7
   iterate 7 refine RW.s ?_
   refine RW.v ?_
   refine RW.nil ?_
   refine W.c0 ?_
   refine W.skip ?_
   refine blkQ_normal ?_
   refine W.region ?_
   refine RW.v ?_
   refine RW.valE (v' := .int .i64 (((i : Nat) : Int) + 1)) (by kernel_rfl) (by kernel_rfl) rfl (congrArg (Value.int .i64) (wrap_in (by omega) (by omega))) (by kernel_rfl) ?_
   refine RW.v ?_
   refine RW.nil ?_
   exact ⟨rfl, mm - 1, by omega, i + 1, acc, u, (by omega), (by omega), (by rw [hT, dist_skip hil (.inr hc7b)]), H, rfl, rfl, rfl⟩
 ·have hc1b := hc1
  have hc1 := of_decide_eq_false hc1
  refine W.exit _ ?_
  refine seqQ_exit ?_
  refine rndQ_exit ?_
  refine blkQ_here ?_
  refine W.seq (W.region ?_)
  iterate 2 refine RW.v ?_
  refine RW.nil ?_
  refine W.ret ?_
  refine endG (by rfl) (by exact resL_tmp rfl) ?_
  have hR : distM l = acc := by rw [hT, List.drop_eq_nil_of_le (by omega)]; exact List.append_nil _
  rw [hR]
  obtain ⟨F', le, hv, H⟩ := H.freezeSl 0 rfl
  dsimp only [setL, delL] at H
  exact ⟨F', le, hv, H⟩
end
end Go.Proofs.YtjcmdifpkafdkaaDoor
