/-
 The reference of completion: characters, candidates, common prefixes. Conditions: none.
 The reference of completion by prefixes. Conditions: none.
 CompletePrefixes in the second memory. Conditions: none.
-/
import Derived.Test.YtjcmdifpkafdkaaDoorCpf
import Derived.Test.YtjcmdifpkafdkaaDoorR2
import Derived.Test.YtjcmdifpkafdkaaDoorR1
import Derived.Test.YtjcmdifpkafdkaaDoorC3
namespace Go.Proofs.YtjcmdifpkafdkaaDoor
open Go.Lib
set_option maxRecDepth 100000
open Go.RowKit
theorem intz_at {l : List Int} {j : Nat} {i : Int} (hi : i = ((j : Nat) : Int)) (h : j < l.length) : ((l.map (Value.int .i64)).drop (i.toNat * 1)).take 1 = [.int .i64 (l.getD j 0)] := by
 subst hi
 rw [Int.toNat_natCast, Nat.mul_one, List.getD_eq_getElem?_getD, List.getElem?_eq_getElem h, List.drop_eq_getElem_cons (by simpa using h)]
 simp
theorem intz_snoc {l : List Int} {x : Int} : l.map (Value.int .i64) ++ [.int .i64 x] = (l ++ [x]).map (Value.int .i64) := by simp
theorem intz_len {l : List Int} {x : Int} : l.length + 1 = (l ++ [x]).length := by simp
theorem dec_ok {l : List UInt8} (hne : l ≠ []) (hv : validD l = true) : ¬ ((decodeL l).1 = 65533 ∧ (decodeL l).2 = 1) ∧ (1 ≤ (decodeL l).2 ∧ (decodeL l).2 ≤ l.length) ∧ runes l = (((decodeL l).1 : Nat) : Int) :: runes (l.drop (decodeL l).2) ∧ validD (l.drop (decodeL l).2) = true := by
 have he := valid_eq hv
 have hc := valid_ch hv
 have hst := runes_step l hne
 rw [hst] at he hc
 have hch := hc _ (List.mem_cons_self ..)
 have hd : decodeL l = ((((decodeL l).1 : Nat) : Int).toNat, (encodeRune (((decodeL l).1 : Nat) : Int)).length) := by
  conv => lhs; rw [← he, encA_cons]
  exact decode_enc _ hch _
 have h2 : (decodeL l).2 = (encodeRune (((decodeL l).1 : Nat) : Int)).length := congrArg Prod.snd hd
 have hgood : ¬ ((decodeL l).1 = 65533 ∧ (decodeL l).2 = 1) := by
  have := enc_good _ hch
  rw [Int.toNat_natCast, ← h2] at this
  exact this
 have hl := enc_len (((decodeL l).1 : Nat) : Int)
 have hs := split_dec l hne hgood
 refine ⟨hgood, ⟨by omega, ?_⟩, hst, ?_⟩
 ·have := congrArg List.length hs
  rw [List.length_append, ← h2, List.length_drop] at this
  omega
 ·rw [hs, valid_enc _ hch] at hv
  exact hv
def AllI (F : Nat → Option Blk2) (cs : List Value) (ls : List (List Int)) : Prop := cs.length = ls.length ∧ ∀ j, j < ls.length → SlK F 1 (cs.getD j undef) (ls.getD j []).length ((ls.getD j []).map (Value.int .i64))
theorem AllI.le {F F' : Nat → Option Blk2} {cs : List Value} {ls : List (List Int)} (h : AllI F cs ls) (k : Le F F') : AllI F' cs ls := ⟨h.1, fun j hj => (h.2 j hj).le k⟩
theorem AllI.nil {F : Nat → Option Blk2} : AllI F [] [] := ⟨rfl, fun j hj => absurd hj (Nat.not_lt_zero _)⟩
theorem AllI.snoc {F : Nat → Option Blk2} {cs : List Value} {ls : List (List Int)} {c : Value} {x : List Int} (a : AllI F cs ls) (h : SlK F 1 c x.length (x.map (Value.int .i64))) : AllI F (cs ++ [c]) (ls ++ [x]) := by
 refine ⟨by rw [List.length_append, List.length_append, a.1]; rfl, fun j hj => ?_⟩
 rw [List.length_append, List.length_singleton] at hj
 have a1 := a.1
 rcases Nat.lt_or_ge j ls.length with k | k
 ·rw [getL (by omega), getL k]
  exact a.2 j k
 ·obtain rfl : j = ls.length := by omega
  rw [getZ (show ls.length = cs.length by omega), getZ rfl]
  exact h
theorem AllI.drop {F : Nat → Option Blk2} {cs : List Value} {ls : List (List Int)} (a : AllI F cs ls) (k : Nat) : AllI F (cs.drop k) (ls.drop k) := by
 refine ⟨by rw [List.length_drop, List.length_drop, a.1], fun j hj => ?_⟩
 rw [List.length_drop] at hj
 rw [getD_dropR, getD_dropR]
 exact a.2 _ (by omega)
theorem gr_slkZ {G : Nat} {σ : Mem} {e s n : Nat} {v : Value} {xs : List Value} (h : GRow G σ e s v n xs) : SlK σ.get s v n xs := by
 have hlen := h.length
 cases h with
 | nil => exact .nil
 | row hq hr ht hc hl hx => exact .some hr hlen (by rw [List.drop_zero]; exact hx) hl (.inr rfl)
def charsM (s : List UInt8) : List Int := if validD s = true then runes s else []
theorem chars_yes {s : List UInt8} (h : validD s = true) : charsM s = runes s := if_pos h
theorem chars_no {s : List UInt8} (h : validD s = false) : charsM s = [] := if_neg (by rw [h]; exact Bool.false_ne_true)
theorem getD_mid {xs : List Int} {p n i : Nat} (h : i < n) : ((xs.drop p).take n).getD i 0 = xs.getD (p + i) 0 := by
 rw [List.getD_eq_getElem?_getD, List.getElem?_take, if_pos h, List.getElem?_drop, ← List.getD_eq_getElem?_getD]
theorem beg_eqC {fold : Bool} {xs ys : List Int} (h : xs.length = ys.length) : begC fold (xs.drop 0) ys = eqC fold xs ys := by
 unfold begC eqC
 rw [List.drop_zero, ← h, List.take_length, decide_eq_true (Nat.le_refl _), decide_eq_true rfl]
theorem lcp_nilR (fold : Bool) : ∀ a : List Int, lcpC fold a [] = 0
 | [] => rfl
 | _ :: _ => rfl
section
variable {G : Nat} {A : Abs} {σ : Mem} {F : Nat → Option Blk2} {L : List Ent} {fold : Bool} {l : List (List UInt8)} {s bs : List UInt8} {xs ys : List Int} {ls : List (List Int)} {sls : List Value} {v1 v2 : Value} {a b : Int} {p : Nat}
theorem s_rvalid {bs : List UInt8} (hs : bs.length ≤ 1000000) : SCall G Tryd.prog 54 #[.string ⟨bs.toArray⟩] σ (.bool (validD bs)) σ :=
 below_call rfl rfl fun w => by
  have := ref_valid ⟨bs.toArray⟩ w (by show bs.length ≤ _; omega)
  simpa using this
theorem s_listno {bs : List UInt8} (hs : bs.length ≤ 1000000) (hv : validD bs = false) : SCall G Tryd.prog 89 #[.string ⟨bs.toArray⟩] σ (.tuple #[.slice none 0 0, .int .i64 5]) σ :=
 below_call rfl rfl fun w => ref_list_no ⟨bs.toArray⟩ w (by show bs.length ≤ _; omega) (by simpa using hv)
theorem s_rfold (c : Int) : SCall G Tryd.prog 106 #[.int .i64 c] σ (.int .i64 (foldOf c)) σ :=
 below_call rfl rfl fun w => ref_fold c w
theorem s_point {bs : List UInt8} (hs : bs.length ≤ 1000000) (hne : bs ≠ []) (hg : ¬ ((decodeL bs).1 = 65533 ∧ (decodeL bs).2 = 1)) : SCall G Tryd.prog 105 #[.string ⟨bs.toArray⟩] σ (.tuple #[.int .i64 (((decodeL bs).1 : Nat) : Int), .int .i64 (((decodeL bs).2 : Nat) : Int)]) σ :=
 below_call rfl rfl fun w => by
  have hl : 0 < bs.length := List.length_pos_iff.2 hne
  refine (point_any ⟨bs.toArray⟩ w (by show bs.length ≤ _; omega) (by show 0 < bs.length; exact hl)).mono ?_
  rintro e w' ⟨rfl, q, rfl⟩
  have hp : ptOf bs = decodeL bs := if_neg hg
  refine ⟨?_, below_drewN (Below.refl _ _) _⟩
  show _ = _
  rw [show (⟨bs.toArray⟩ : ByteArray).data.toList = bs by simp, hp]
theorem s_text (ho : ∀ b y, F b = some y → σ.get b = some y) (h : SlF F 1 v1 xs.length (xs.map (Value.int .i64))) (hl : xs.length ≤ 65536) : SCall G Tryd.prog 91 #[v1] σ (.tuple #[.string ⟨(textOf xs).toArray⟩, .int .i64 (textE xs)]) σ :=
 read_call (rest := []) (h.le ho) (fun y hy => by obtain ⟨u, _, rfl⟩ := List.mem_map.1 hy; rfl) rfl rfl fun w a' ⟨A, c, e, _, hA⟩ => by
  subst e
  by_cases h0 : xs.length = 0
  ·obtain rfl := List.eq_nil_of_length_eq_zero h0
   refine (ref_text_empty A c w).mono ?_
   rintro e w' ⟨rfl, rfl⟩
   exact ⟨rfl, Below.refl _ _⟩
  ·obtain ⟨B, off, rfl, hc⟩ := hA (by omega)
   refine ref_text_walk B off c xs w (by omega) hl ?_ fun j y hj => hc j _ (by rw [List.getElem?_map, hj]; rfl)
   obtain ⟨x, hx⟩ : ∃ x, xs[0]? = some x := ⟨_, List.getElem?_eq_getElem (by omega)⟩
   have := hc 0 _ (by rw [List.getElem?_map, hx]; rfl)
   unfold World.cell? at this
   split at this
   ·rename_i h1
    exact (Array.getElem?_eq_some_iff.1 h1).1
   ·cases this
set_option maxHeartbeats 8000000 in
theorem r_list {bs : List UInt8} (hvb : validD bs = true) (hs : bs.length ≤ 1000000) (H : Lies G A F σ L) : WC G Tryd.prog 89 #[.string ⟨bs.toArray⟩] σ fun v σ' => ∃ F' u, Le F F' ∧ v = .tuple #[u, .int .i64 0] ∧ SlK F' 1 u (runes bs).length ((runes bs).map (Value.int .i64)) ∧ Lies G A F' σ' L := by
 refine WC.enter (fn := Tryd.f89) Tryd.func89 rfl ?_
 refine W.rg [(0, .string ⟨bs.toArray⟩)] fun TA => ?_
 refine W.seq (W.region ?_)
 iterate 2 refine RW.v ?_
 refine RW.nil ?_
 refine W.rg [(0, .string ⟨bs.toArray⟩)] fun TA => ?_
 refine W.seq (W.region ?_)
 refine RW.v ?_
 refine RW.nil ?_
 refine W.rg [(0, .string ⟨bs.toArray⟩), (4, .slice none 0 0)] fun TA => ?_
 refine W.seq ?_
 refine W.block ?_
 replace H := H.nilSl 3 1
 refine W.loop (fun mm ta σ => ∃ (rest : List UInt8) (acc : List Int) (u : Value), (rest.length ≤ mm) ∧ (rest.length ≤ bs.length) ∧ (validD rest = true) ∧ (acc ++ runes rest = runes bs) ∧ Lies G A F σ (.sl 3 1 u acc.length (acc.map (Value.int .i64)) :: (L)) ∧ ta 0 = .string ⟨rest.toArray⟩ ∧ ta 4 = u) bs.length ?_ ?_
 ·exact ⟨bs, [], .slice none 0 0, (Nat.le_refl _), (Nat.le_refl _), hvb, rfl, H, rfl, rfl⟩
 clear H
 rintro mm ta _ ⟨rest, acc, u, hm, hrb, hv, hacc, H, e0, e4⟩
 refine W.rst [(0, .string ⟨rest.toArray⟩), (4, u)] ⟨e0, e4, trivial⟩ fun TA => ?_
 clear e0 e4
 refine W.seq ?_
 refine W.seq (W.region ?_)
 refine RW.v ?_
 refine RW.vop (v := .int .i64 (rest.length : Int)) (by kernel_rfl) (by kernel_rfl) (vop_sLenL rfl rfl rfl rfl Tryd.underlying9 rfl) (by kernel_rfl) ?_
 refine RW.v ?_
 refine RW.nil ?_
 refine W.rg [(0, .string ⟨rest.toArray⟩), (4, u), (9, .bool (decide ((rest.length : Int) > 0)))] fun TA => ?_
 refine W.cond rfl (fun hc1 => ?_) (fun hc1 => ?_)
 ·have hc1b := hc1
  have hc1 := of_decide_eq_true hc1
  have hgt : 0 < rest.length := by omega
  have hal : acc.length ≤ (runes bs).length := by rw [← hacc, List.length_append]; omega
  have hrl := runes_le bs
  refine W.skip ?_
  refine W.block ?_
  refine W.seq (W.region ?_)
  refine RW.v ?_
  have hne : rest ≠ [] := fun e => by rw [e] at hgt; simp at hgt
  obtain ⟨d1, d2, d3, d4⟩ := dec_ok hne hv
  have hal2 : acc.length + 1 ≤ (runes bs).length := by rw [← hacc, d3, List.length_append, List.length_cons]; omega
  refine RW.cl ?_
  refine ⟨_, _, (s_point (by omega) hne d1), ?_⟩
  iterate 5 refine RW.v ?_
  refine RW.nil ?_
  refine W.rg [(0, .string ⟨rest.toArray⟩), (4, u), (5, .int .i64 (((decodeL rest).1 : Nat) : Int)), (6, .int .i64 (((decodeL rest).2 : Nat) : Int))] fun TA => ?_
  refine W.seq ?_
  refine W.seq (W.region ?_)
  refine RW.v ?_
  refine RW.valE (v' := .bool false) (by kernel_rfl) (by kernel_rfl) rfl (congrArg Value.bool (beq_eq_false_iff_ne.2 (by omega))) (by kernel_rfl) ?_
  refine RW.nil ?_
  refine W.c0 ?_
  refine W.skip ?_
  refine W.seq (W.region ?_)
  iterate 2 refine RW.v ?_
  refine RW.mkL H (x := .row ⟨[.int .i64 (((decodeL rest).1 : Nat) : Int)], 3, false⟩) (fm := fun b => .slice (some ⟨b, 0, none⟩) 1 1) (by kernel_rfl) (by kernel_rfl) (by kernel_rfl) (by kernel_rfl) ?_
  clear H; intro _ b2 _ H
  refine RW.appL H 1 0 (n := 1) (e2 := 3) (by kernel_rfl) (by kernel_rfl) rfl rfl rfl rfl rfl rfl rfl rfl (by kernel_rfl) (by kernel_rfl) (by kernel_rfl) (by decide) (by decide) rfl rfl (by omega) (by kernel_rfl) ?_
  clear H; intro _ v3 _ H
  dsimp only [setL, delL] at H
  refine RW.v ?_
  refine RW.nil ?_
  refine W.rg [(0, .string ⟨rest.toArray⟩), (4, v3), (6, .int .i64 (((decodeL rest).2 : Nat) : Int))] fun TA => ?_
  refine W.region ?_
  iterate 2 refine RW.v ?_
  refine RW.vop (v := .string ⟨(rest.drop ((decodeL rest).2)).toArray⟩) (by kernel_rfl) (by kernel_rfl) (vop_sTailL (a := rest) (j := (decodeL rest).2) rfl rfl rfl Tryd.underlying9 (by omega)) (by kernel_rfl) ?_
  refine RW.v ?_
  refine RW.nil ?_
  refine blkQ_normal ?_
  rw [intz_snoc, intz_len] at H
  exact ⟨rfl, mm - 1, by omega, (rest.drop (decodeL rest).2), (acc ++ [(((decodeL rest).1 : Nat) : Int)]), v3, (by rw [List.length_drop]; omega), (by rw [List.length_drop]; omega), d4, (by rw [List.append_assoc, ← hacc, d3]; rfl), H, rfl, rfl⟩
 ·have hc1b := hc1
  have hc1 := of_decide_eq_false hc1
  refine W.exit _ ?_
  refine seqQ_exit ?_
  refine rndQ_exit ?_
  obtain rfl : rest = [] := List.eq_nil_of_length_eq_zero (by omega)
  refine blkQ_here ?_
  refine W.seq (W.region ?_)
  iterate 3 refine RW.v ?_
  refine RW.nil ?_
  refine W.ret ?_
  refine endG (by rfl) (by exact resL_tmp (by exact resL_tmp rfl)) ?_
  have ea : acc = runes bs := by rw [← hacc]; exact (List.append_nil _).symm
  rw [ea] at H
  obtain ⟨F', le, hv2, H⟩ := H.freezeK 0 rfl
  exact ⟨F', _, le, rfl, hv2, H⟩
set_option maxHeartbeats 4000000 in
theorem r_chars (hs : bs.length ≤ 1000000) (H : Lies G A F σ L) : WC G Tryd.prog 48 #[.string ⟨bs.toArray⟩] σ fun v σ' => ∃ F' u, Le F F' ∧ v = u ∧ SlK F' 1 u (charsM bs).length ((charsM bs).map (Value.int .i64)) ∧ Lies G A F' σ' L := by
 cases hv : validD bs with
 | true =>
  refine WC.enter (fn := Tryd.f48) Tryd.func48 rfl ?_
  refine W.rg [(0, .string ⟨bs.toArray⟩)] fun TA => ?_
  refine W.seq (W.region ?_)
  refine RW.v ?_
  refine RW.nil ?_
  refine W.rg [(0, .string ⟨bs.toArray⟩)] fun TA => ?_
  refine W.seq (W.region ?_)
  refine RW.v ?_
  refine RW.cl ?_
  refine ((r_list hv hs H).mono ?_)
  clear H
  rintro _ _ ⟨F', u, le, rfl, hu, H⟩
  iterate 5 refine RW.v ?_
  refine RW.nil ?_
  refine W.rg [(3, u)] fun TA => ?_
  refine W.seq (W.region ?_)
  iterate 2 refine RW.v ?_
  refine RW.nil ?_
  refine W.ret ?_
  refine endG (by rfl) (by exact resL_tmp rfl) ?_
  exact ⟨F', _, le, rfl, by rw [chars_yes hv]; exact hu, H⟩
 | false =>
  refine WC.enter (fn := Tryd.f48) Tryd.func48 rfl ?_
  refine W.rg [(0, .string ⟨bs.toArray⟩)] fun TA => ?_
  refine W.seq (W.region ?_)
  refine RW.v ?_
  refine RW.nil ?_
  refine W.rg [(0, .string ⟨bs.toArray⟩)] fun TA => ?_
  refine W.seq (W.region ?_)
  refine RW.v ?_
  refine RW.cl ?_
  refine ⟨_, _, (s_listno hs hv), ?_⟩
  iterate 5 refine RW.v ?_
  refine RW.nil ?_
  refine W.rg [(3, .slice none 0 0)] fun TA => ?_
  refine W.seq (W.region ?_)
  iterate 2 refine RW.v ?_
  refine RW.nil ?_
  refine W.ret ?_
  refine endG (by rfl) (by exact resL_tmp rfl) ?_
  exact ⟨F, _, fun _ _ h => h, rfl, by rw [chars_no hv]; exact .nil, H⟩
set_option maxHeartbeats 4000000 in
theorem r_same (H : Lies G A F σ L) : WC G Tryd.prog 90 #[.int .i64 a, .int .i64 b, .bool fold] σ fun v σ' => v = .bool (foldC fold a == foldC fold b) ∧ Lies G A F σ' L := by
 refine WC.enter (fn := Tryd.f90) Tryd.func90 rfl ?_
 refine W.rg [(0, .int .i64 a), (1, .int .i64 b), (2, .bool fold)] fun TA => ?_
 refine W.seq (W.region ?_)
 refine RW.v ?_
 refine RW.nil ?_
 refine W.rg [(0, .int .i64 a), (1, .int .i64 b), (2, .bool fold)] fun TA => ?_
 refine W.seq (W.region ?_)
 iterate 4 refine RW.v ?_
 refine RW.both _ _ rfl rfl rfl (fun hc1 => ?_) (fun hc1 => ?_)
 ·have hc1b := hc1
  have hc1 := eq_of_beq hc1
  refine RW.skip (by rfl) (by kernel_rfl) ?_
  refine RW.skip (by rfl) (by kernel_rfl) ?_
  refine RW.skip (by rfl) (by kernel_rfl) ?_
  refine RW.skip (by rfl) (by kernel_rfl) ?_
  refine RW.skip (by rfl) (by kernel_rfl) ?_
  refine RW.skip (by rfl) (by kernel_rfl) ?_
  refine RW.skip (by rfl) (by kernel_rfl) ?_
  refine RW.skip (by rfl) (by kernel_rfl) ?_
  iterate 2 refine RW.v ?_
  refine RW.nil ?_
  refine W.ret ?_
  refine endG (by rfl) (by exact resL_tmp rfl) ?_
  have e : (foldC fold a == foldC fold b) = true := by rw [hc1]; exact beq_self_eq_true _
  rw [e]
  exact ⟨rfl, H⟩
 ·have hc1b := hc1
  have hc1 := ne_of_beq_false hc1
  refine RW.val (by rfl) (by kernel_rfl) rfl (by kernel_rfl) ?_
  refine RW.val (by rfl) (by kernel_rfl) rfl (by kernel_rfl) ?_
  refine RW.both _ _ rfl rfl rfl (fun hc2 => ?_) (fun hc2 => ?_)
  ·have hc2b := hc2
   refine RW.val (by rfl) (by kernel_rfl) rfl (by kernel_rfl) ?_
   refine RW.cl (hw := by rfl) ?_
   refine ⟨_, _, (s_rfold _), ?_⟩
   refine RW.val (by rfl) (by kernel_rfl) rfl (by kernel_rfl) ?_
   refine RW.cl (hw := by rfl) ?_
   refine ⟨_, _, (s_rfold _), ?_⟩
   refine RW.val (by rfl) (by kernel_rfl) rfl (by kernel_rfl) ?_
   refine RW.val (by rfl) (by kernel_rfl) rfl (by kernel_rfl) ?_
   iterate 2 refine RW.v ?_
   refine RW.nil ?_
   refine W.ret ?_
   refine endG (by rfl) (by exact resL_tmp rfl) ?_
   have e : (foldC fold a == foldC fold b) = (foldOf a == foldOf b) := by rw [hc2b]; rfl
   rw [e]
   exact ⟨rfl, H⟩
  ·have hc2b := hc2
   refine RW.skip (by rfl) (by kernel_rfl) ?_
   refine RW.skip (by rfl) (by kernel_rfl) ?_
   refine RW.skip (by rfl) (by kernel_rfl) ?_
   refine RW.skip (by rfl) (by kernel_rfl) ?_
   refine RW.skip (by rfl) (by kernel_rfl) ?_
   refine RW.val (by rfl) (by kernel_rfl) rfl (by kernel_rfl) ?_
   iterate 2 refine RW.v ?_
   refine RW.nil ?_
   refine W.ret ?_
   refine endG (by rfl) (by exact resL_tmp rfl) ?_
   have e : (foldC fold a == foldC fold b) = false := by rw [hc2b]; exact beq_eq_false_iff_ne.2 hc1
   rw [e]
   exact ⟨rfl, H⟩
set_option maxHeartbeats 4000000 in
theorem r_prefix (h1 : SlF F 1 v1 xs.length (xs.map (Value.int .i64))) (h2 : SlF F 1 v2 ys.length (ys.map (Value.int .i64))) (hl : xs.length ≤ 1000000) (hl2 : ys.length ≤ 1000000) (hp : p ≤ xs.length) (H : Lies G A F σ L) : WC G Tryd.prog 64 #[v1, v2, .int .i64 ((p : Nat) : Int), .bool fold] σ fun v σ' => v = .bool (begC fold (xs.drop p) ys) ∧ Lies G A F σ' L := by
 refine WC.enter (fn := Tryd.f64) Tryd.func64 rfl ?_
 refine W.rg [(0, v1), (1, v2), (2, .int .i64 ((p : Nat) : Int)), (3, .bool fold)] fun TA => ?_
 refine W.seq (W.region ?_)
 refine RW.v ?_
 refine RW.nil ?_
 refine W.rg [(0, v1), (1, v2), (2, .int .i64 ((p : Nat) : Int)), (3, .bool fold)] fun TA => ?_
 refine W.seq ?_
 refine W.seq (W.region ?_)
 iterate 2 refine RW.v ?_
 refine RW.len (by kernel_rfl) (by kernel_rfl) rfl rfl rfl rfl (h2.len (e := 3) (by kernel_rfl)) (by kernel_rfl) ?_
 refine RW.valE (v' := .int .i64 (((p : Nat) : Int) + (ys.length : Int))) (by kernel_rfl) (by kernel_rfl) rfl (congrArg (Value.int .i64) (wrap_in (by omega) (by omega))) (by kernel_rfl) ?_
 refine RW.v ?_
 refine RW.len (by kernel_rfl) (by kernel_rfl) rfl rfl rfl rfl (h1.len (e := 3) (by kernel_rfl)) (by kernel_rfl) ?_
 refine RW.v ?_
 refine RW.nil ?_
 refine W.rg [(0, v1), (1, v2), (2, .int .i64 ((p : Nat) : Int)), (3, .bool fold), (16, .bool (decide ((((p : Nat) : Int) + (ys.length : Int)) > (xs.length : Int))))] fun TA => ?_
 refine W.cond rfl (fun hc1 => ?_) (fun hc1 => ?_)
 ·have hc1b := hc1
  have hc1 := of_decide_eq_true hc1
  refine W.seq (W.region ?_)
  refine RW.v ?_
  refine RW.nil ?_
  refine W.ret ?_
  refine seqQ_ret ?_
  refine endG (by rfl) (by exact resL_tmp rfl) ?_
  have eb : begC fold (xs.drop p) ys = false := by unfold begC; rw [decide_eq_false (by rw [List.length_drop]; omega), Bool.false_and]
  rw [eb]
  exact ⟨rfl, H⟩
 ·have hc1b := hc1
  have hc1 := of_decide_eq_false hc1
  refine W.skip ?_
  refine W.seq ?_
  refine W.seq (W.region ?_)
  refine RW.v ?_
  refine RW.nil ?_
  refine W.rg [(0, v1), (1, v2), (2, .int .i64 ((p : Nat) : Int)), (3, .bool fold), (9, .int .i64 0)] fun TA => ?_
  refine W.block ?_
  have hxl : ((xs.drop p).take ys.length).length = ys.length := by rw [List.length_take, List.length_drop]; omega
  refine W.loop (fun mm ta σ => ∃ (i : Nat), (mm + i = ys.length) ∧ ((keyC fold ((xs.drop p).take ys.length) == keyC fold ys) = (keyC fold (((xs.drop p).take ys.length).drop i) == keyC fold (ys.drop i))) ∧ Lies G A F σ ((L)) ∧ ta 0 = v1 ∧ ta 1 = v2 ∧ ta 2 = .int .i64 ((p : Nat) : Int) ∧ ta 3 = .bool fold ∧ ta 9 = .int .i64 ((i : Nat) : Int)) ys.length ?_ ?_
  ·exact ⟨0, (by omega), rfl, H, rfl, rfl, rfl, rfl, rfl⟩
  clear H
  rintro mm ta _ ⟨i, hm, hT, H, e0, e1, e2, e3, e9⟩
  refine W.rst [(0, v1), (1, v2), (2, .int .i64 ((p : Nat) : Int)), (3, .bool fold), (9, .int .i64 ((i : Nat) : Int))] ⟨e0, e1, e2, e3, e9, trivial⟩ fun TA => ?_
  clear e0 e1 e2 e3 e9
  refine W.seq ?_
  refine W.seq (W.region ?_)
  iterate 2 refine RW.v ?_
  refine RW.len (by kernel_rfl) (by kernel_rfl) rfl rfl rfl rfl (h2.len (e := 3) (by kernel_rfl)) (by kernel_rfl) ?_
  refine RW.v ?_
  refine RW.nil ?_
  refine W.rg [(0, v1), (1, v2), (2, .int .i64 ((p : Nat) : Int)), (3, .bool fold), (9, .int .i64 ((i : Nat) : Int)), (20, .bool (decide (((i : Nat) : Int) < (ys.length : Int))))] fun TA => ?_
  refine W.cond rfl (fun hc2 => ?_) (fun hc2 => ?_)
  ·have hc2b := hc2
   have hc2 := of_decide_eq_true hc2
   have hiy : i < ys.length := by omega
   refine W.skip ?_
   refine W.seq ?_
   refine W.block ?_
   refine W.seq ?_
   refine W.drawn (by kernel_rfl) (by kernel_rfl) H.gn ?_
   have H3 := H
   iterate 3 refine RW.v ?_
   refine RW.valE (v' := .int .i64 (((p : Nat) : Int) + ((i : Nat) : Int))) (by kernel_rfl) (by kernel_rfl) rfl (congrArg (Value.int .i64) (wrap_in (by omega) (by omega))) (by kernel_rfl) ?_
   refine RW.idxF h1 (by kernel_rfl) (by kernel_rfl) rfl Tryd.underlying59 (by kernel_rfl) rfl rfl ⟨by omega, by omega⟩ (by kernel_rfl) ?_
   intro b4 q5 r6 hF7 hE8
   rw [intz_at (l := xs) (j := (p + i)) (i := ((p : Nat) : Int) + ((i : Nat) : Int)) (by omega) (by omega)] at hE8
   refine RW.loads 1 (by kernel_rfl) (by kernel_rfl) rfl rfl (H3.old _ _ hF7) hE8 rfl (by kernel_rfl) ?_
   iterate 2 refine RW.v ?_
   refine RW.idxF h2 (by kernel_rfl) (by kernel_rfl) rfl Tryd.underlying59 (by kernel_rfl) rfl rfl ⟨by omega, by omega⟩ (by kernel_rfl) ?_
   intro b9 q10 r11 hF12 hE13
   rw [intz_at (l := ys) (j := i) (i := ((i : Nat) : Int)) (by omega) (by omega)] at hE13
   refine RW.loads 1 (by kernel_rfl) (by kernel_rfl) rfl rfl (H3.old _ _ hF12) hE13 rfl (by kernel_rfl) ?_
   refine RW.v ?_
   refine RW.cl ?_
   refine ((r_same (fold := fold) (a := (xs.getD (p + i) 0)) (b := (ys.getD i 0)) H3).mono ?_)
   rintro _ _ ⟨rfl, H14⟩
   refine RW.v ?_
   refine RW.nil ?_
   refine ⟨⟨by kernel_rfl, ⟨trivial, trivial, trivial, trivial, trivial, dyn_row (H3.old _ _ hF7) (H14.old _ _ hF7) ⟨fun h => Bool.noConfusion h, fun h => Bool.noConfusion h, fun h => Bool.noConfusion h, fun h => Bool.noConfusion h, fun h => Bool.noConfusion h, fun h => Bool.noConfusion h, fun h => Bool.noConfusion h, fun h => Bool.noConfusion h, fun h => Bool.noConfusion h, fun h => Bool.noConfusion h, fun h => Bool.noConfusion h, fun _ => H3.old _ _ hF7, fun h => Bool.noConfusion h, trivial⟩, trivial, trivial, trivial, dyn_row (H3.old _ _ hF12) (H14.old _ _ hF12) ⟨fun h => Bool.noConfusion h, fun h => Bool.noConfusion h, fun h => Bool.noConfusion h, fun h => Bool.noConfusion h, fun h => Bool.noConfusion h, fun h => Bool.noConfusion h, fun h => Bool.noConfusion h, fun h => Bool.noConfusion h, fun h => Bool.noConfusion h, fun h => Bool.noConfusion h, fun h => Bool.noConfusion h, fun _ => H3.old _ _ hF12, fun h => Bool.noConfusion h, trivial⟩, trivial, trivial, trivial, trivial⟩⟩, ?_⟩
   replace H := H14
   clear H3 H14
   refine W.rg [(0, v1), (1, v2), (2, .int .i64 ((p : Nat) : Int)), (3, .bool fold), (9, .int .i64 ((i : Nat) : Int)), (35, .bool (!(foldC fold (xs.getD (p + i) 0) == foldC fold (ys.getD i 0))))] fun TA => ?_
   refine W.cond rfl (fun hc15 => ?_) (fun hc15 => ?_)
   ·have hc15b := hc15
    have hc15e : (foldC fold (((xs.drop p).take ys.length).getD i 0) == foldC fold (ys.getD i 0)) = false := by rw [getD_mid (by omega)]; simpa using hc15b
    refine W.seq (W.region ?_)
    refine RW.v ?_
    refine RW.nil ?_
    refine W.ret ?_
    refine blkQ_ret ?_
    refine seqQ_ret ?_
    refine rndQ_ret ?_
    refine blkQ_ret ?_
    refine seqQ_ret ?_
    refine endG (by rfl) (by exact resL_tmp rfl) ?_
    have eb : begC fold (xs.drop p) ys = false := by unfold begC; rw [hT, eq_stop (by omega) (by omega) hc15e, Bool.and_false]
    rw [eb]
    exact ⟨rfl, H⟩
   ·have hc15b := hc15
    have hc15e : (foldC fold (((xs.drop p).take ys.length).getD i 0) == foldC fold (ys.getD i 0)) = true := by rw [getD_mid (by omega)]; simpa using hc15b
    refine W.skip ?_
    refine blkQ_normal ?_
    refine W.region ?_
    refine RW.v ?_
    refine RW.valE (v' := .int .i64 (((i : Nat) : Int) + 1)) (by kernel_rfl) (by kernel_rfl) rfl (congrArg (Value.int .i64) (wrap_in (by omega) (by omega))) (by kernel_rfl) ?_
    refine RW.v ?_
    refine RW.nil ?_
    exact ⟨rfl, mm - 1, by omega, i + 1, (by omega), (by rw [hT, eq_go (by omega) (by omega) hc15e]), H, rfl, rfl, rfl, rfl, rfl⟩
  ·have hc2b := hc2
   have hc2 := of_decide_eq_false hc2
   refine W.exit _ ?_
   refine seqQ_exit ?_
   refine rndQ_exit ?_
   refine blkQ_here ?_
   refine W.seq (W.region ?_)
   refine RW.v ?_
   refine RW.nil ?_
   refine W.ret ?_
   refine endG (by rfl) (by exact resL_tmp rfl) ?_
   have eb : begC fold (xs.drop p) ys = true := by unfold begC; rw [decide_eq_true (by rw [List.length_drop]; omega), hT, List.drop_eq_nil_of_le (by omega), List.drop_eq_nil_of_le (by omega)]; rfl
   rw [eb]
   exact ⟨rfl, H⟩
set_option maxHeartbeats 4000000 in
theorem r_equal (h1 : SlF F 1 v1 xs.length (xs.map (Value.int .i64))) (h2 : SlF F 1 v2 ys.length (ys.map (Value.int .i64))) (hl : xs.length ≤ 1000000) (hl2 : ys.length ≤ 1000000) (H : Lies G A F σ L) : WC G Tryd.prog 68 #[v1, v2, .bool fold] σ fun v σ' => v = .bool (eqC fold xs ys) ∧ Lies G A F σ' L := by
 refine WC.enter (fn := Tryd.f68) Tryd.func68 rfl ?_
 refine W.rg [(0, v1), (1, v2), (2, .bool fold)] fun TA => ?_
 refine W.seq (W.region ?_)
 refine RW.v ?_
 refine RW.nil ?_
 refine W.rg [(0, v1), (1, v2), (2, .bool fold)] fun TA => ?_
 refine W.seq (W.region ?_)
 refine RW.v ?_
 refine RW.len (by kernel_rfl) (by kernel_rfl) rfl rfl rfl rfl (h1.len (e := 3) (by kernel_rfl)) (by kernel_rfl) ?_
 refine RW.v ?_
 refine RW.len (by kernel_rfl) (by kernel_rfl) rfl rfl rfl rfl (h2.len (e := 3) (by kernel_rfl)) (by kernel_rfl) ?_
 iterate 2 refine RW.v ?_
 refine RW.both _ _ rfl rfl rfl (fun hc1 => ?_) (fun hc1 => ?_)
 ·have hc1b := hc1
  have hc1 := eq_of_beq hc1
  refine RW.val (by rfl) (by kernel_rfl) rfl (by kernel_rfl) ?_
  refine RW.val (by rfl) (by kernel_rfl) rfl (by kernel_rfl) ?_
  refine RW.val (by rfl) (by kernel_rfl) rfl (by kernel_rfl) ?_
  refine RW.cl (hw := by rfl) ?_
  refine ((r_prefix (fold := fold) (p := 0) h1 h2 (by omega) (by omega) (Nat.zero_le _) H).mono ?_)
  clear H
  rintro _ _ ⟨rfl, H⟩
  iterate 2 refine RW.v ?_
  refine RW.nil ?_
  refine W.ret ?_
  refine endG (by rfl) (by exact resL_tmp rfl) ?_
  have e : eqC fold xs ys = begC fold (xs.drop 0) ys := (beg_eqC (by omega)).symm
  rw [e]
  exact ⟨rfl, H⟩
 ·have hc1b := hc1
  have hc1 := ne_of_beq_false hc1
  refine RW.skip (by rfl) (by kernel_rfl) ?_
  refine RW.skip (by rfl) (by kernel_rfl) ?_
  refine RW.skip (by rfl) (by kernel_rfl) ?_
  refine RW.skip (by rfl) (by kernel_rfl) ?_
  iterate 2 refine RW.v ?_
  refine RW.nil ?_
  refine W.ret ?_
  refine endG (by rfl) (by exact resL_tmp rfl) ?_
  have e : eqC fold xs ys = false := by unfold eqC; rw [decide_eq_false (by omega), Bool.false_and]
  rw [e]
  exact ⟨rfl, H⟩
set_option maxHeartbeats 4000000 in
theorem r_among (h1 : SlF F 1 v1 l.length (l.map strV)) (hl : l.length ≤ 1000000) (H : Lies G A F σ L) : WC G Tryd.prog 82 #[v1, .string ⟨s.toArray⟩] σ fun v σ' => v = .bool (decide (s ∈ l)) ∧ Lies G A F σ' L := by
 refine WC.enter (fn := Tryd.f82) Tryd.func82 rfl ?_
 refine W.rg [(0, v1), (1, .string ⟨s.toArray⟩)] fun TA => ?_
 refine W.seq (W.region ?_)
 refine RW.v ?_
 refine RW.nil ?_
 refine W.rg [(0, v1), (1, .string ⟨s.toArray⟩)] fun TA => ?_
 refine W.seq ?_
 refine W.seq (W.region ?_)
 refine RW.v ?_
 refine RW.nil ?_
 refine W.rg [(0, v1), (1, .string ⟨s.toArray⟩), (5, .int .i64 0)] fun TA => ?_
 refine W.block ?_
 refine W.loop (fun mm ta σ => ∃ (i : Nat), (mm + i = l.length) ∧ (s ∈ l ↔ s ∈ l.drop i) ∧ Lies G A F σ ((L)) ∧ ta 0 = v1 ∧ ta 1 = .string ⟨s.toArray⟩ ∧ ta 5 = .int .i64 ((i : Nat) : Int)) l.length ?_ ?_
 ·exact ⟨0, (by omega), Iff.rfl, H, rfl, rfl, rfl⟩
 clear H
 rintro mm ta _ ⟨i, hm, hT, H, e0, e1, e5⟩
 refine W.rst [(0, v1), (1, .string ⟨s.toArray⟩), (5, .int .i64 ((i : Nat) : Int))] ⟨e0, e1, e5, trivial⟩ fun TA => ?_
 clear e0 e1 e5
 refine W.seq ?_
 refine W.seq (W.region ?_)
 iterate 2 refine RW.v ?_
 refine RW.len (by kernel_rfl) (by kernel_rfl) rfl rfl rfl rfl (h1.len (e := 9) (by kernel_rfl)) (by kernel_rfl) ?_
 refine RW.v ?_
 refine RW.nil ?_
 refine W.rg [(0, v1), (1, .string ⟨s.toArray⟩), (5, .int .i64 ((i : Nat) : Int)), (9, .bool (decide (((i : Nat) : Int) < (l.length : Int))))] fun TA => ?_
 refine W.cond rfl (fun hc1 => ?_) (fun hc1 => ?_)
 ·have hc1b := hc1
  have hc1 := of_decide_eq_true hc1
  have hil : i < l.length := by omega
  refine W.skip ?_
  refine W.seq ?_
  refine W.block ?_
  refine W.seq (W.region ?_)
  iterate 2 refine RW.v ?_
  refine RW.idxF h1 (by kernel_rfl) (by kernel_rfl) rfl Tryd.underlying22 (by kernel_rfl) rfl rfl ⟨by omega, by omega⟩ (by kernel_rfl) ?_
  intro b2 q3 r4 hF5 hE6
  rw [strs_at (l := l) (j := i) (i := ((i : Nat) : Int)) (by omega) (by omega)] at hE6
  refine RW.loads 1 (by kernel_rfl) (by kernel_rfl) rfl rfl (H.old _ _ hF5) hE6 rfl (by kernel_rfl) ?_
  refine RW.v ?_
  refine RW.vop (v := .bool ((l.getD i []) == s)) (by kernel_rfl) (by kernel_rfl) (vop_sEq rfl rfl rfl rfl) (by kernel_rfl) ?_
  refine RW.nil ?_
  refine W.rg [(0, v1), (1, .string ⟨s.toArray⟩), (5, .int .i64 ((i : Nat) : Int)), (17, .bool ((l.getD i []) == s))] fun TA => ?_
  refine W.cond rfl (fun hc7 => ?_) (fun hc7 => ?_)
  ·have hc7b := hc7
   have hc7 := eq_of_beq hc7
   refine W.seq (W.region ?_)
   refine RW.v ?_
   refine RW.nil ?_
   refine W.ret ?_
   refine blkQ_ret ?_
   refine seqQ_ret ?_
   refine rndQ_ret ?_
   refine blkQ_ret ?_
   refine seqQ_ret ?_
   refine endG (by rfl) (by exact resL_tmp rfl) ?_
   have e : decide (s ∈ l) = true := decide_eq_true (hT.2 (by rw [dropD (d := []) hil, hc7]; exact List.mem_cons_self ..))
   rw [e]
   exact ⟨rfl, H⟩
  ·have hc7b := hc7
   have hc7 := ne_of_beq_false hc7
   refine W.skip ?_
   refine blkQ_normal ?_
   refine W.region ?_
   refine RW.v ?_
   refine RW.valE (v' := .int .i64 (((i : Nat) : Int) + 1)) (by kernel_rfl) (by kernel_rfl) rfl (congrArg (Value.int .i64) (wrap_in (by omega) (by omega))) (by kernel_rfl) ?_
   refine RW.v ?_
   refine RW.nil ?_
   exact ⟨rfl, mm - 1, by omega, i + 1, (by omega), (by rw [hT, dropD (d := []) hil, List.mem_cons]; exact ⟨fun h => h.resolve_left (fun e => hc7 e.symm), .inr⟩), H, rfl, rfl, rfl⟩
 ·have hc1b := hc1
  have hc1 := of_decide_eq_false hc1
  refine W.exit _ ?_
  refine seqQ_exit ?_
  refine rndQ_exit ?_
  refine blkQ_here ?_
  refine W.seq (W.region ?_)
  refine RW.v ?_
  refine RW.nil ?_
  refine W.ret ?_
  refine endG (by rfl) (by exact resL_tmp rfl) ?_
  have e : decide (s ∈ l) = false := decide_eq_false (fun h => by have := hT.1 h; rw [List.drop_eq_nil_of_le (by omega)] at this; exact absurd this (List.not_mem_nil))
  rw [e]
  exact ⟨rfl, H⟩
set_option maxHeartbeats 4000000 in
theorem r_candidates (h1 : SlF F 1 v1 l.length (l.map strV)) (hl : l.length ≤ 1000000) (hsm : ∀ s ∈ l, s.length ≤ 1000000) (H : Lies G A F σ L) : WC G Tryd.prog 60 #[v1] σ fun v σ' => ∃ F', Le F F' ∧ SlF F' 1 v (distM l).length ((distM l).map strV) ∧ Lies G A F' σ' L := by
 refine WC.enter (fn := Tryd.f60) Tryd.func60 rfl ?_
 refine W.rg [(0, v1)] fun TA => ?_
 refine W.seq (W.region ?_)
 refine RW.v ?_
 refine RW.nil ?_
 refine W.rg [(0, v1)] fun TA => ?_
 refine W.seq (W.region ?_)
 refine RW.v ?_
 refine RW.nil ?_
 refine W.rg [(0, v1), (3, .slice none 0 0)] fun TA => ?_
 refine W.seq ?_
 refine W.seq (W.region ?_)
 refine RW.v ?_
 refine RW.nil ?_
 refine W.rg [(0, v1), (3, .slice none 0 0), (4, .int .i64 0)] fun TA => ?_
 refine W.block ?_
 replace H := H.nilSl 9 1
 refine W.loop (fun mm ta σ => ∃ (i : Nat) (acc : List (List UInt8)) (u : Value), (mm + i = l.length) ∧ (acc.length ≤ i) ∧ (distM l = acc ++ distG acc (l.drop i)) ∧ Lies G A F σ (.sl 9 1 u acc.length (acc.map strV) :: (L)) ∧ ta 0 = v1 ∧ ta 3 = u ∧ ta 4 = .int .i64 ((i : Nat) : Int)) l.length ?_ ?_
 ·exact ⟨0, [], .slice none 0 0, (by omega), (Nat.zero_le _), rfl, H, rfl, rfl, rfl⟩
 clear H
 rintro mm ta _ ⟨i, acc, u, hm, hac, hT, H, e0, e3, e4⟩
 refine W.rst [(0, v1), (3, u), (4, .int .i64 ((i : Nat) : Int))] ⟨e0, e3, e4, trivial⟩ fun TA => ?_
 clear e0 e3 e4
 refine W.seq ?_
 refine W.seq (W.region ?_)
 iterate 2 refine RW.v ?_
 refine RW.len (by kernel_rfl) (by kernel_rfl) rfl rfl rfl rfl (h1.len (e := 9) (by kernel_rfl)) (by kernel_rfl) ?_
 refine RW.v ?_
 refine RW.nil ?_
 refine W.rg [(0, v1), (3, u), (4, .int .i64 ((i : Nat) : Int)), (8, .bool (decide (((i : Nat) : Int) < (l.length : Int))))] fun TA => ?_
 refine W.cond rfl (fun hc1 => ?_) (fun hc1 => ?_)
 ·have hc1b := hc1
  have hc1 := of_decide_eq_true hc1
  have hil : i < l.length := by omega
  refine W.skip ?_
  refine W.seq ?_
  refine W.block ?_
  refine W.seq (W.region ?_)
  iterate 2 refine RW.v ?_
  refine RW.idxF h1 (by kernel_rfl) (by kernel_rfl) rfl Tryd.underlying22 (by kernel_rfl) rfl rfl ⟨by omega, by omega⟩ (by kernel_rfl) ?_
  intro b2 q3 r4 hF5 hE6
  rw [strs_at (l := l) (j := i) (i := ((i : Nat) : Int)) (by omega) (by omega)] at hE6
  refine RW.loads 1 (by kernel_rfl) (by kernel_rfl) rfl rfl (H.old _ _ hF5) hE6 rfl (by kernel_rfl) ?_
  refine RW.cl ?_
  refine ⟨_, _, (s_rvalid (hsm _ (mem_of (by omega)))), ?_⟩
  refine RW.v ?_
  refine RW.both _ _ rfl rfl rfl (fun hc7 => ?_) (fun hc7 => ?_)
  ·have hc7b := hc7
   refine RW.val (by rfl) (by kernel_rfl) rfl (by kernel_rfl) ?_
   refine RW.val (by rfl) (by kernel_rfl) rfl (by kernel_rfl) ?_
   refine RW.val (by rfl) (by kernel_rfl) rfl (by kernel_rfl) ?_
   refine RW.idxF h1 (by rfl) (by kernel_rfl) rfl Tryd.underlying22 (by kernel_rfl) rfl rfl ⟨by omega, by omega⟩ (by kernel_rfl) ?_
   intro b8 q9 r10 hF11 hE12
   rw [strs_at (l := l) (j := i) (i := ((i : Nat) : Int)) (by omega) (by omega)] at hE12
   refine RW.loads 1 (by rfl) (by kernel_rfl) rfl rfl (H.old _ _ hF11) hE12 rfl (by kernel_rfl) ?_
   refine RW.cl (hw := by rfl) ?_
   refine ((r_among (gr_slkZ (H.sl 0 rfl)).slf (by omega) (Lies.start H.gn H.abs)).mono ?_)
   rintro _ _ ⟨rfl, K⟩
   replace H : Lies G A F _ (.sl 9 1 u acc.length (acc.map strV) :: (L)) := H.then K
   clear K
   refine RW.val (by rfl) (by kernel_rfl) rfl (by kernel_rfl) ?_
   refine RW.v ?_
   refine RW.nil ?_
   refine W.rg [(0, v1), (3, u), (4, .int .i64 ((i : Nat) : Int)), (24, .bool (!(decide ((l.getD i []) ∈ acc))))] fun TA => ?_
   refine W.cond rfl (fun hc13 => ?_) (fun hc13 => ?_)
   ·have hc13b := hc13
    have hmem : decide ((l.getD i []) ∈ acc) = false := by simpa using hc13b
    refine W.region ?_
    iterate 3 refine RW.v ?_
    refine RW.idxF h1 (by kernel_rfl) (by kernel_rfl) rfl Tryd.underlying22 (by kernel_rfl) rfl rfl ⟨by omega, by omega⟩ (by kernel_rfl) ?_
    intro b14 q15 r16 hF17 hE18
    rw [strs_at (l := l) (j := i) (i := ((i : Nat) : Int)) (by omega) (by omega)] at hE18
    refine RW.loads 1 (by kernel_rfl) (by kernel_rfl) rfl rfl (H.old _ _ hF17) hE18 rfl (by kernel_rfl) ?_
    refine RW.mkL H (x := .row ⟨[.string ⟨(l.getD i []).toArray⟩], 9, false⟩) (fm := fun b => .slice (some ⟨b, 0, none⟩) 1 1) (by kernel_rfl) (by kernel_rfl) (by kernel_rfl) (by kernel_rfl) ?_
    clear H; intro _ b19 _ H
    refine RW.appL H 1 0 (n := 1) (e2 := 9) (by kernel_rfl) (by kernel_rfl) rfl rfl rfl rfl rfl rfl rfl rfl (by kernel_rfl) (by kernel_rfl) (by kernel_rfl) (by decide) (by decide) rfl rfl (by omega) (by kernel_rfl) ?_
    clear H; intro _ v20 _ H
    dsimp only [setL, delL] at H
    refine RW.v ?_
    refine RW.nil ?_
    refine blkQ_normal ?_
    refine W.rg [(0, v1), (3, v20), (4, .int .i64 ((i : Nat) : Int))] fun TA => ?_
    refine W.region ?_
    refine RW.v ?_
    refine RW.valE (v' := .int .i64 (((i : Nat) : Int) + 1)) (by kernel_rfl) (by kernel_rfl) rfl (congrArg (Value.int .i64) (wrap_in (by omega) (by omega))) (by kernel_rfl) ?_
    refine RW.v ?_
    refine RW.nil ?_
    rw [acc_snoc (x := (l.getD i []))] at H
    rw [show acc.length + 1 = (acc ++ [(l.getD i [])]).length by rw [List.length_append]; rfl] at H
    exact ⟨rfl, mm - 1, by omega, i + 1, (acc ++ [(l.getD i [])]), v20, (by omega), (by rw [List.length_append, List.length_singleton]; omega), (by rw [hT, dist_take hil (of_decide_eq_false hmem) hc7b, List.append_assoc]; rfl), H, rfl, rfl, rfl⟩
   ·have hc13b := hc13
    have hmem : decide ((l.getD i []) ∈ acc) = true := by simpa using hc13b
    refine W.skip ?_
    refine blkQ_normal ?_
    refine W.region ?_
    refine RW.v ?_
    refine RW.valE (v' := .int .i64 (((i : Nat) : Int) + 1)) (by kernel_rfl) (by kernel_rfl) rfl (congrArg (Value.int .i64) (wrap_in (by omega) (by omega))) (by kernel_rfl) ?_
    refine RW.v ?_
    refine RW.nil ?_
    exact ⟨rfl, mm - 1, by omega, i + 1, acc, u, (by omega), (by omega), (by rw [hT, dist_skip hil (.inl (of_decide_eq_true hmem))]), H, rfl, rfl, rfl⟩
  ·have hc7b := hc7
   refine RW.skip (by rfl) (by kernel_rfl) ?_
   refine RW.skip (by rfl) (by kernel_rfl) ?_
   refine RW.skip (by rfl) (by kernel_rfl) ?_
   refine RW.skip (by rfl) (by kernel_rfl) ?_
   refine RW.skip (by rfl) (by kernel_rfl) ?_
   refine RW.skip (by rfl) (by kernel_rfl) ?_
   refine RW.skip (by rfl) (by kernel_rfl) ?_
   refine RW.v ?_
   refine RW.nil ?_
   refine W.c0 ?_
   refine W.skip ?_
   refine blkQ_normal ?_
   refine W.region ?_
   refine RW.v ?_
   refine RW.valE (v' := .int .i64 (((i : Nat) : Int) + 1)) (by kernel_rfl) (by kernel_rfl) rfl (congrArg (Value.int .i64) (wrap_in (by omega) (by omega))) (by kernel_rfl) ?_
   refine RW.v ?_
   refine RW.nil ?_
   exact ⟨rfl, mm - 1, by omega, i + 1, acc, u, (by omega), (by omega), (by rw [hT, dist_skip hil (.inr hc7b)]), H, rfl, rfl, rfl⟩
 ·have hc1b := hc1
  have hc1 := of_decide_eq_false hc1
  refine W.exit _ ?_
  refine seqQ_exit ?_
  refine rndQ_exit ?_
  refine blkQ_here ?_
  refine W.seq (W.region ?_)
  iterate 2 refine RW.v ?_
  refine RW.nil ?_
  refine W.ret ?_
  refine endG (by rfl) (by exact resL_tmp rfl) ?_
  have hR : distM l = acc := by rw [hT, List.drop_eq_nil_of_le (by omega)]; exact List.append_nil _
  rw [hR]
  obtain ⟨F', le, hv, H⟩ := H.freezeSl 0 rfl
  dsimp only [setL, delL] at H
  exact ⟨F', le, hv, H⟩
set_option maxHeartbeats 4000000 in
theorem r_delim {c : Int} (H : Lies G A F σ L) : WC G Tryd.prog 55 #[.int .i64 c] σ fun v σ' => v = .bool (delC c) ∧ Lies G A F σ' L := by
 refine WC.enter (fn := Tryd.f55) Tryd.func55 rfl ?_
 refine W.rg [(0, .int .i64 c)] fun TA => ?_
 refine W.seq (W.region ?_)
 refine RW.v ?_
 refine RW.nil ?_
 refine W.rg [(0, .int .i64 c)] fun TA => ?_
 refine W.seq (W.region ?_)
 iterate 3 refine RW.v ?_
 refine RW.both _ _ rfl rfl rfl (fun hc1 => ?_) (fun hc1 => ?_)
 ·have hc1b := hc1
  have hc1 := eq_of_beq hc1
  refine RW.skip (by rfl) (by kernel_rfl) ?_
  refine RW.skip (by rfl) (by kernel_rfl) ?_
  iterate 2 refine RW.v ?_
  refine RW.skip (by rfl) (by kernel_rfl) ?_
  refine RW.skip (by rfl) (by kernel_rfl) ?_
  iterate 2 refine RW.v ?_
  refine RW.skip (by rfl) (by kernel_rfl) ?_
  refine RW.skip (by rfl) (by kernel_rfl) ?_
  iterate 2 refine RW.v ?_
  refine RW.skip (by rfl) (by kernel_rfl) ?_
  refine RW.skip (by rfl) (by kernel_rfl) ?_
  iterate 2 refine RW.v ?_
  refine RW.skip (by rfl) (by kernel_rfl) ?_
  refine RW.skip (by rfl) (by kernel_rfl) ?_
  iterate 2 refine RW.v ?_
  refine RW.nil ?_
  refine W.ret ?_
  refine endG (by rfl) (by exact resL_tmp rfl) ?_
  have ed : delC c = true := decide_eq_true (by omega)
  rw [ed]
  exact ⟨rfl, H⟩
 ·have hc1b := hc1
  have hc1 := ne_of_beq_false hc1
  refine RW.val (by rfl) (by kernel_rfl) rfl (by kernel_rfl) ?_
  refine RW.val (by rfl) (by kernel_rfl) rfl (by kernel_rfl) ?_
  iterate 2 refine RW.v ?_
  refine RW.both _ _ rfl rfl rfl (fun hc2 => ?_) (fun hc2 => ?_)
  ·have hc2b := hc2
   have hc2 := eq_of_beq hc2
   refine RW.skip (by rfl) (by kernel_rfl) ?_
   refine RW.skip (by rfl) (by kernel_rfl) ?_
   iterate 2 refine RW.v ?_
   refine RW.skip (by rfl) (by kernel_rfl) ?_
   refine RW.skip (by rfl) (by kernel_rfl) ?_
   iterate 2 refine RW.v ?_
   refine RW.skip (by rfl) (by kernel_rfl) ?_
   refine RW.skip (by rfl) (by kernel_rfl) ?_
   iterate 2 refine RW.v ?_
   refine RW.skip (by rfl) (by kernel_rfl) ?_
   refine RW.skip (by rfl) (by kernel_rfl) ?_
   iterate 2 refine RW.v ?_
   refine RW.nil ?_
   refine W.ret ?_
   refine endG (by rfl) (by exact resL_tmp rfl) ?_
   have ed : delC c = true := decide_eq_true (by omega)
   rw [ed]
   exact ⟨rfl, H⟩
  ·have hc2b := hc2
   have hc2 := ne_of_beq_false hc2
   refine RW.val (by rfl) (by kernel_rfl) rfl (by kernel_rfl) ?_
   refine RW.val (by rfl) (by kernel_rfl) rfl (by kernel_rfl) ?_
   iterate 2 refine RW.v ?_
   refine RW.both _ _ rfl rfl rfl (fun hc3 => ?_) (fun hc3 => ?_)
   ·have hc3b := hc3
    have hc3 := eq_of_beq hc3
    refine RW.skip (by rfl) (by kernel_rfl) ?_
    refine RW.skip (by rfl) (by kernel_rfl) ?_
    iterate 2 refine RW.v ?_
    refine RW.skip (by rfl) (by kernel_rfl) ?_
    refine RW.skip (by rfl) (by kernel_rfl) ?_
    iterate 2 refine RW.v ?_
    refine RW.skip (by rfl) (by kernel_rfl) ?_
    refine RW.skip (by rfl) (by kernel_rfl) ?_
    iterate 2 refine RW.v ?_
    refine RW.nil ?_
    refine W.ret ?_
    refine endG (by rfl) (by exact resL_tmp rfl) ?_
    have ed : delC c = true := decide_eq_true (by omega)
    rw [ed]
    exact ⟨rfl, H⟩
   ·have hc3b := hc3
    have hc3 := ne_of_beq_false hc3
    refine RW.val (by rfl) (by kernel_rfl) rfl (by kernel_rfl) ?_
    refine RW.val (by rfl) (by kernel_rfl) rfl (by kernel_rfl) ?_
    iterate 2 refine RW.v ?_
    refine RW.both _ _ rfl rfl rfl (fun hc4 => ?_) (fun hc4 => ?_)
    ·have hc4b := hc4
     have hc4 := eq_of_beq hc4
     refine RW.skip (by rfl) (by kernel_rfl) ?_
     refine RW.skip (by rfl) (by kernel_rfl) ?_
     iterate 2 refine RW.v ?_
     refine RW.skip (by rfl) (by kernel_rfl) ?_
     refine RW.skip (by rfl) (by kernel_rfl) ?_
     iterate 2 refine RW.v ?_
     refine RW.nil ?_
     refine W.ret ?_
     refine endG (by rfl) (by exact resL_tmp rfl) ?_
     have ed : delC c = true := decide_eq_true (by omega)
     rw [ed]
     exact ⟨rfl, H⟩
    ·have hc4b := hc4
     have hc4 := ne_of_beq_false hc4
     refine RW.val (by rfl) (by kernel_rfl) rfl (by kernel_rfl) ?_
     refine RW.val (by rfl) (by kernel_rfl) rfl (by kernel_rfl) ?_
     iterate 2 refine RW.v ?_
     refine RW.both _ _ rfl rfl rfl (fun hc5 => ?_) (fun hc5 => ?_)
     ·have hc5b := hc5
      have hc5 := eq_of_beq hc5
      refine RW.skip (by rfl) (by kernel_rfl) ?_
      refine RW.skip (by rfl) (by kernel_rfl) ?_
      iterate 2 refine RW.v ?_
      refine RW.nil ?_
      refine W.ret ?_
      refine endG (by rfl) (by exact resL_tmp rfl) ?_
      have ed : delC c = true := decide_eq_true (by omega)
      rw [ed]
      exact ⟨rfl, H⟩
     ·have hc5b := hc5
      have hc5 := ne_of_beq_false hc5
      refine RW.val (by rfl) (by kernel_rfl) rfl (by kernel_rfl) ?_
      refine RW.val (by rfl) (by kernel_rfl) rfl (by kernel_rfl) ?_
      iterate 2 refine RW.v ?_
      refine RW.nil ?_
      refine W.ret ?_
      refine endG (by rfl) (by exact resL_tmp rfl) ?_
      have ed : delC c = (c == 95) := by unfold delC; rw [Bool.eq_iff_iff, decide_eq_true_iff, beq_iff_eq]; omega
      rw [ed]
      exact ⟨rfl, H⟩
set_option maxHeartbeats 4000000 in
theorem r_text (h1 : SlF F 1 v1 xs.length (xs.map (Value.int .i64))) (hl : xs.length ≤ 65536) (hc : ∀ c ∈ xs, chB c = true) (H : Lies G A F σ L) : WC G Tryd.prog 51 #[v1] σ fun v σ' => v = .string ⟨(encA xs).toArray⟩ ∧ Lies G A F σ' L := by
 refine WC.enter (fn := Tryd.f51) Tryd.func51 rfl ?_
 refine W.rg [(0, v1)] fun TA => ?_
 refine W.seq (W.region ?_)
 refine RW.v ?_
 refine RW.nil ?_
 refine W.rg [(0, v1)] fun TA => ?_
 refine W.seq (W.region ?_)
 refine RW.v ?_
 refine RW.cl ?_
 refine ⟨_, _, (s_text (H.old) h1 hl), ?_⟩
 iterate 5 refine RW.v ?_
 refine RW.nil ?_
 refine W.rg [(3, .string ⟨(textOf xs).toArray⟩)] fun TA => ?_
 refine W.seq (W.region ?_)
 iterate 2 refine RW.v ?_
 refine RW.nil ?_
 refine W.ret ?_
 refine endG (by rfl) (by exact resL_tmp rfl) ?_
 have e : textOf xs = encA xs := (text_yes (allCh_iff.2 hc)).1
 rw [← e]
 exact ⟨rfl, H⟩
set_option maxHeartbeats 8000000 in
theorem r_shared (h1 : SlK F 1 v1 ls.length sls) (al : AllI F sls ls) (hl : ls.length ≤ 1000000) (hlb : ∀ y ∈ ls, y.length ≤ 1000000) (H : Lies G A F σ L) : WC G Tryd.prog 50 #[v1, .bool fold] σ fun v σ' => SlK F 1 v (comC fold ls).length ((comC fold ls).map (Value.int .i64)) ∧ Lies G A F σ' L := by
 refine WC.enter (fn := Tryd.f50) Tryd.func50 rfl ?_
 refine W.rg [(0, v1), (1, .bool fold)] fun TA => ?_
 refine W.seq (W.region ?_)
 refine RW.v ?_
 refine RW.nil ?_
 refine W.rg [(0, v1), (1, .bool fold)] fun TA => ?_
 refine W.seq ?_
 refine W.seq (W.region ?_)
 refine RW.v ?_
 refine RW.len (by kernel_rfl) (by kernel_rfl) rfl rfl rfl rfl (h1.slf.len (e := 59) (by kernel_rfl)) (by kernel_rfl) ?_
 refine RW.v ?_
 refine RW.nil ?_
 refine W.rg [(0, v1), (1, .bool fold), (10, .bool ((ls.length : Int) == 0))] fun TA => ?_
 refine W.cond rfl (fun hc1 => ?_) (fun hc1 => ?_)
 ·have hc1b := hc1
  have hc1 := eq_of_beq hc1
  refine W.seq (W.region ?_)
  refine RW.v ?_
  refine RW.nil ?_
  refine W.ret ?_
  refine seqQ_ret ?_
  refine endG (by rfl) (by exact resL_tmp rfl) ?_
  have e0 : ls = [] := List.eq_nil_of_length_eq_zero (by omega)
  have ec : comC fold ls = [] := by rw [e0]; rfl
  rw [ec]
  exact ⟨.nil, H⟩
 ·have hc1b := hc1
  have hc1 := ne_of_beq_false hc1
  refine W.skip ?_
  refine W.seq (W.region ?_)
  refine RW.v ?_
  refine RW.idxF h1.slf (by kernel_rfl) (by kernel_rfl) rfl Tryd.underlying58 (by kernel_rfl) rfl rfl ⟨by omega, by omega⟩ (by kernel_rfl) ?_
  intro b2 q3 r4 hF5 hE6
  rw [vals_at (l := sls) (j := 0) (i := 0) (by omega) (by have := al.1; omega)] at hE6
  refine RW.loads 1 (by kernel_rfl) (by kernel_rfl) rfl rfl (H.old _ _ hF5) hE6 rfl (by kernel_rfl) ?_
  refine RW.len (by kernel_rfl) (by kernel_rfl) rfl rfl rfl rfl ((al.2 0 (by omega)).slf.len (e := 3) (by kernel_rfl)) (by kernel_rfl) ?_
  refine RW.v ?_
  refine RW.nil ?_
  refine W.rg [(0, v1), (1, .bool fold), (5, .int .i64 ((ls.getD 0 []).length : Int))] fun TA => ?_
  refine W.seq ?_
  refine W.seq (W.region ?_)
  refine RW.v ?_
  refine RW.nil ?_
  refine W.rg [(0, v1), (1, .bool fold), (5, .int .i64 ((ls.getD 0 []).length : Int)), (6, .int .i64 1)] fun TA => ?_
  refine W.block ?_
  refine W.loop (fun mm ta σ => ∃ (k : Nat) (n : Nat), (mm + k = ls.length) ∧ (1 ≤ k) ∧ (n ≤ (ls.getD 0 []).length) ∧ (comN fold (ls.getD 0 []) (ls.drop 1) = (ls.drop k).foldl (fun n x => min n (lcpC fold (ls.getD 0 []) x)) n) ∧ Lies G A F σ ((L)) ∧ ta 0 = v1 ∧ ta 1 = .bool fold ∧ ta 5 = .int .i64 ((n : Nat) : Int) ∧ ta 6 = .int .i64 ((k : Nat) : Int)) (ls.length - 1) ?_ ?_
  ·exact ⟨1, (ls.getD 0 []).length, (by omega), (Nat.le_refl _), (Nat.le_refl _), rfl, H, rfl, rfl, rfl, rfl⟩
  clear H
  rintro mm ta _ ⟨k, n, hm, hk1, hn, hT, H, e0, e1, e5, e6⟩
  refine W.rst [(0, v1), (1, .bool fold), (5, .int .i64 ((n : Nat) : Int)), (6, .int .i64 ((k : Nat) : Int))] ⟨e0, e1, e5, e6, trivial⟩ fun TA => ?_
  clear e0 e1 e5 e6
  refine W.seq ?_
  refine W.seq (W.region ?_)
  iterate 2 refine RW.v ?_
  refine RW.len (by kernel_rfl) (by kernel_rfl) rfl rfl rfl rfl (h1.slf.len (e := 59) (by kernel_rfl)) (by kernel_rfl) ?_
  refine RW.v ?_
  refine RW.nil ?_
  refine W.rg [(0, v1), (1, .bool fold), (5, .int .i64 ((n : Nat) : Int)), (6, .int .i64 ((k : Nat) : Int)), (18, .bool (decide (((k : Nat) : Int) < (ls.length : Int))))] fun TA => ?_
  refine W.cond rfl (fun hc7 => ?_) (fun hc7 => ?_)
  ·have hc7b := hc7
   have hc7 := of_decide_eq_true hc7
   have hkl : k < ls.length := by omega
   refine W.skip ?_
   refine W.seq ?_
   refine W.block ?_
   refine W.seq (W.region ?_)
   refine RW.v ?_
   refine RW.nil ?_
   refine W.rg [(0, v1), (1, .bool fold), (5, .int .i64 ((n : Nat) : Int)), (6, .int .i64 ((k : Nat) : Int)), (7, .int .i64 0)] fun TA => ?_
   refine W.seq ?_
   refine W.block ?_
   have hyl := hlb _ (lst_mem (l := ls) (j := k) (by omega))
   have hxl := hlb _ (lst_mem (l := ls) (j := 0) (by omega))
   refine W.loop (fun mm2 ta σ => ∃ (i : Nat), (mm2 + i = n) ∧ (i ≤ n) ∧ (i ≤ (ls.getD k []).length) ∧ (lcpC fold (ls.getD 0 []) (ls.getD k []) = i + lcpC fold ((ls.getD 0 []).drop i) ((ls.getD k []).drop i)) ∧ Lies G A F σ ((L)) ∧ ta 0 = v1 ∧ ta 1 = .bool fold ∧ ta 5 = .int .i64 ((n : Nat) : Int) ∧ ta 6 = .int .i64 ((k : Nat) : Int) ∧ ta 7 = .int .i64 ((i : Nat) : Int)) n ?_ ?_
   ·exact ⟨0, (by omega), (by omega), (by omega), (by simp), H, rfl, rfl, rfl, rfl, rfl⟩
   clear H
   rintro mm2 ta _ ⟨i, hm2, hin, hiy, hC, H, e0, e1, e5, e6, e7⟩
   refine W.rst [(0, v1), (1, .bool fold), (5, .int .i64 ((n : Nat) : Int)), (6, .int .i64 ((k : Nat) : Int)), (7, .int .i64 ((i : Nat) : Int))] ⟨e0, e1, e5, e6, e7, trivial⟩ fun TA => ?_
   clear e0 e1 e5 e6 e7
   refine W.seq ?_
   refine W.seq ?_
   refine W.drawn (by kernel_rfl) (by kernel_rfl) H.gn ?_
   have H8 := H
   iterate 4 refine RW.v ?_
   refine RW.both _ _ rfl rfl rfl (fun hc9 => ?_) (fun hc9 => ?_)
   ·have hc9b := hc9
    have hc9 := of_decide_eq_true hc9
    refine RW.val (by rfl) (by kernel_rfl) rfl (by kernel_rfl) ?_
    refine RW.val (by rfl) (by kernel_rfl) rfl (by kernel_rfl) ?_
    refine RW.val (by rfl) (by kernel_rfl) rfl (by kernel_rfl) ?_
    refine RW.idxF h1.slf (by rfl) (by kernel_rfl) rfl Tryd.underlying58 (by kernel_rfl) rfl rfl ⟨by omega, by omega⟩ (by kernel_rfl) ?_
    intro b10 q11 r12 hF13 hE14
    rw [vals_at (l := sls) (j := k) (i := ((k : Nat) : Int)) (by omega) (by have := al.1; omega)] at hE14
    refine RW.loads 1 (by rfl) (by kernel_rfl) rfl rfl (H8.old _ _ hF13) hE14 rfl (by kernel_rfl) ?_
    refine RW.len (by rfl) (by kernel_rfl) rfl rfl rfl rfl ((al.2 k (by omega)).slf.len (e := 3) (by kernel_rfl)) (by kernel_rfl) ?_
    refine RW.val (by rfl) (by kernel_rfl) rfl (by kernel_rfl) ?_
    iterate 2 refine RW.v ?_
    refine RW.both _ _ rfl rfl rfl (fun hc15 => ?_) (fun hc15 => ?_)
    ·have hc15b := hc15
     have hc15 := of_decide_eq_true hc15
     refine RW.val (by rfl) (by kernel_rfl) rfl (by kernel_rfl) ?_
     refine RW.idxF h1.slf (by rfl) (by kernel_rfl) rfl Tryd.underlying58 (by kernel_rfl) rfl rfl ⟨by omega, by omega⟩ (by kernel_rfl) ?_
     intro b16 q17 r18 hF19 hE20
     rw [vals_at (l := sls) (j := 0) (i := 0) (by omega) (by have := al.1; omega)] at hE20
     refine RW.loads 1 (by rfl) (by kernel_rfl) rfl rfl (H8.old _ _ hF19) hE20 rfl (by kernel_rfl) ?_
     refine RW.val (by rfl) (by kernel_rfl) rfl (by kernel_rfl) ?_
     refine RW.idxF (al.2 0 (by omega)).slf (by rfl) (by kernel_rfl) rfl Tryd.underlying59 (by kernel_rfl) rfl rfl ⟨by omega, by omega⟩ (by kernel_rfl) ?_
     intro b21 q22 r23 hF24 hE25
     rw [intz_at (l := (ls.getD 0 [])) (j := i) (i := ((i : Nat) : Int)) (by omega) (by omega)] at hE25
     refine RW.loads 1 (by rfl) (by kernel_rfl) rfl rfl (H8.old _ _ hF24) hE25 rfl (by kernel_rfl) ?_
     refine RW.val (by rfl) (by kernel_rfl) rfl (by kernel_rfl) ?_
     refine RW.val (by rfl) (by kernel_rfl) rfl (by kernel_rfl) ?_
     refine RW.idxF h1.slf (by rfl) (by kernel_rfl) rfl Tryd.underlying58 (by kernel_rfl) rfl rfl ⟨by omega, by omega⟩ (by kernel_rfl) ?_
     intro b26 q27 r28 hF29 hE30
     rw [vals_at (l := sls) (j := k) (i := ((k : Nat) : Int)) (by omega) (by have := al.1; omega)] at hE30
     refine RW.loads 1 (by rfl) (by kernel_rfl) rfl rfl (H8.old _ _ hF29) hE30 rfl (by kernel_rfl) ?_
     refine RW.val (by rfl) (by kernel_rfl) rfl (by kernel_rfl) ?_
     refine RW.idxF (al.2 k (by omega)).slf (by rfl) (by kernel_rfl) rfl Tryd.underlying59 (by kernel_rfl) rfl rfl ⟨by omega, by omega⟩ (by kernel_rfl) ?_
     intro b31 q32 r33 hF34 hE35
     rw [intz_at (l := (ls.getD k [])) (j := i) (i := ((i : Nat) : Int)) (by omega) (by omega)] at hE35
     refine RW.loads 1 (by rfl) (by kernel_rfl) rfl rfl (H8.old _ _ hF34) hE35 rfl (by kernel_rfl) ?_
     refine RW.val (by rfl) (by kernel_rfl) rfl (by kernel_rfl) ?_
     refine RW.cl (hw := by rfl) ?_
     refine ((r_same (fold := fold) (a := ((ls.getD 0 []).getD i 0)) (b := ((ls.getD k []).getD i 0)) H8).mono ?_)
     rintro _ _ ⟨rfl, H36⟩
     refine RW.v ?_
     refine RW.nil ?_
     refine ⟨⟨by kernel_rfl, ⟨trivial, trivial, trivial, trivial, trivial, trivial, trivial, trivial, dyn_row (H8.old _ _ hF13) (H36.old _ _ hF13) ⟨fun h => Bool.noConfusion h, fun h => Bool.noConfusion h, fun h => Bool.noConfusion h, fun h => Bool.noConfusion h, fun h => Bool.noConfusion h, fun h => Bool.noConfusion h, fun h => Bool.noConfusion h, fun h => Bool.noConfusion h, fun h => Bool.noConfusion h, fun h => Bool.noConfusion h, fun h => Bool.noConfusion h, fun h => Bool.noConfusion h, fun h => Bool.noConfusion h, fun h => Bool.noConfusion h, fun h => Bool.noConfusion h, fun h => Bool.noConfusion h, fun h => Bool.noConfusion h, fun h => Bool.noConfusion h, fun h => Bool.noConfusion h, fun h => Bool.noConfusion h, fun h => Bool.noConfusion h, fun h => Bool.noConfusion h, fun h => Bool.noConfusion h, fun h => Bool.noConfusion h, fun h => Bool.noConfusion h, fun h => Bool.noConfusion h, fun h => Bool.noConfusion h, fun _ => H8.old _ _ hF13, fun h => Bool.noConfusion h, trivial⟩, trivial, trivial, trivial, trivial, trivial, trivial, dyn_row (H8.old _ _ hF19) (H36.old _ _ hF19) ⟨fun h => Bool.noConfusion h, fun h => Bool.noConfusion h, fun h => Bool.noConfusion h, fun h => Bool.noConfusion h, fun h => Bool.noConfusion h, fun h => Bool.noConfusion h, fun h => Bool.noConfusion h, fun h => Bool.noConfusion h, fun h => Bool.noConfusion h, fun h => Bool.noConfusion h, fun h => Bool.noConfusion h, fun h => Bool.noConfusion h, fun h => Bool.noConfusion h, fun h => Bool.noConfusion h, fun h => Bool.noConfusion h, fun h => Bool.noConfusion h, fun h => Bool.noConfusion h, fun h => Bool.noConfusion h, fun h => Bool.noConfusion h, fun h => Bool.noConfusion h, fun h => Bool.noConfusion h, fun h => Bool.noConfusion h, fun h => Bool.noConfusion h, fun h => Bool.noConfusion h, fun h => Bool.noConfusion h, fun h => Bool.noConfusion h, fun h => Bool.noConfusion h, fun _ => H8.old _ _ hF19, fun h => Bool.noConfusion h, trivial⟩, trivial, trivial, dyn_row (H8.old _ _ hF24) (H36.old _ _ hF24) ⟨fun h => Bool.noConfusion h, fun h => Bool.noConfusion h, fun h => Bool.noConfusion h, fun h => Bool.noConfusion h, fun h => Bool.noConfusion h, fun h => Bool.noConfusion h, fun h => Bool.noConfusion h, fun h => Bool.noConfusion h, fun h => Bool.noConfusion h, fun h => Bool.noConfusion h, fun h => Bool.noConfusion h, fun h => Bool.noConfusion h, fun h => Bool.noConfusion h, fun h => Bool.noConfusion h, fun h => Bool.noConfusion h, fun h => Bool.noConfusion h, fun h => Bool.noConfusion h, fun h => Bool.noConfusion h, fun h => Bool.noConfusion h, fun h => Bool.noConfusion h, fun h => Bool.noConfusion h, fun h => Bool.noConfusion h, fun h => Bool.noConfusion h, fun h => Bool.noConfusion h, fun h => Bool.noConfusion h, fun h => Bool.noConfusion h, fun h => Bool.noConfusion h, fun _ => H8.old _ _ hF24, fun h => Bool.noConfusion h, trivial⟩, trivial, trivial, trivial, dyn_row (H8.old _ _ hF29) (H36.old _ _ hF29) ⟨fun h => Bool.noConfusion h, fun h => Bool.noConfusion h, fun h => Bool.noConfusion h, fun h => Bool.noConfusion h, fun h => Bool.noConfusion h, fun h => Bool.noConfusion h, fun h => Bool.noConfusion h, fun h => Bool.noConfusion h, fun h => Bool.noConfusion h, fun h => Bool.noConfusion h, fun h => Bool.noConfusion h, fun h => Bool.noConfusion h, fun h => Bool.noConfusion h, fun h => Bool.noConfusion h, fun h => Bool.noConfusion h, fun h => Bool.noConfusion h, fun h => Bool.noConfusion h, fun h => Bool.noConfusion h, fun h => Bool.noConfusion h, fun h => Bool.noConfusion h, fun h => Bool.noConfusion h, fun h => Bool.noConfusion h, fun h => Bool.noConfusion h, fun h => Bool.noConfusion h, fun h => Bool.noConfusion h, fun h => Bool.noConfusion h, fun h => Bool.noConfusion h, fun _ => H8.old _ _ hF29, fun h => Bool.noConfusion h, trivial⟩, trivial, trivial, dyn_row (H8.old _ _ hF34) (H36.old _ _ hF34) ⟨fun h => Bool.noConfusion h, fun h => Bool.noConfusion h, fun h => Bool.noConfusion h, fun h => Bool.noConfusion h, fun h => Bool.noConfusion h, fun h => Bool.noConfusion h, fun h => Bool.noConfusion h, fun h => Bool.noConfusion h, fun h => Bool.noConfusion h, fun h => Bool.noConfusion h, fun h => Bool.noConfusion h, fun h => Bool.noConfusion h, fun h => Bool.noConfusion h, fun h => Bool.noConfusion h, fun h => Bool.noConfusion h, fun h => Bool.noConfusion h, fun h => Bool.noConfusion h, fun h => Bool.noConfusion h, fun h => Bool.noConfusion h, fun h => Bool.noConfusion h, fun h => Bool.noConfusion h, fun h => Bool.noConfusion h, fun h => Bool.noConfusion h, fun h => Bool.noConfusion h, fun h => Bool.noConfusion h, fun h => Bool.noConfusion h, fun h => Bool.noConfusion h, fun _ => H8.old _ _ hF34, fun h => Bool.noConfusion h, trivial⟩, trivial, trivial, trivial, trivial⟩⟩, ?_⟩
     replace H := H36
     clear H8 H36
     refine W.rg [(0, v1), (1, .bool fold), (5, .int .i64 ((n : Nat) : Int)), (6, .int .i64 ((k : Nat) : Int)), (7, .int .i64 ((i : Nat) : Int)), (49, .bool (foldC fold ((ls.getD 0 []).getD i 0) == foldC fold ((ls.getD k []).getD i 0)))] fun TA => ?_
     refine W.cond rfl (fun hc37 => ?_) (fun hc37 => ?_)
     ·have hc37b := hc37
      have hc37 := eq_of_beq hc37
      have hc37e := hc37b
      refine W.skip ?_
      refine W.block ?_
      refine W.region ?_
      refine RW.v ?_
      refine RW.valE (v' := .int .i64 (((i : Nat) : Int) + 1)) (by kernel_rfl) (by kernel_rfl) rfl (congrArg (Value.int .i64) (wrap_in (by omega) (by omega))) (by kernel_rfl) ?_
      refine RW.v ?_
      refine RW.nil ?_
      refine blkQ_normal ?_
      exact ⟨rfl, mm2 - 1, by omega, i + 1, (by omega), (by omega), (by omega), (by rw [hC, lcp_go (by omega) (by omega) hc37e]; omega), H, rfl, rfl, rfl, rfl, rfl⟩
     ·have hc37b := hc37
      have hc37 := ne_of_beq_false hc37
      have hc37e := hc37b
      refine W.exit _ ?_
      refine seqQ_exit ?_
      refine rndQ_exit ?_
      have hlm : min n (lcpC fold (ls.getD 0 []) (ls.getD k [])) = i := by rw [hC, lcp_stop (by omega) (by omega) hc37e]; omega
      refine blkQ_here ?_
      refine W.region ?_
      iterate 2 refine RW.v ?_
      refine RW.nil ?_
      refine blkQ_normal ?_
      refine W.rg [(0, v1), (1, .bool fold), (5, .int .i64 ((i : Nat) : Int)), (6, .int .i64 ((k : Nat) : Int))] fun TA => ?_
      refine W.region ?_
      refine RW.v ?_
      refine RW.valE (v' := .int .i64 (((k : Nat) : Int) + 1)) (by kernel_rfl) (by kernel_rfl) rfl (congrArg (Value.int .i64) (wrap_in (by omega) (by omega))) (by kernel_rfl) ?_
      refine RW.v ?_
      refine RW.nil ?_
      exact ⟨rfl, mm - 1, by omega, k + 1, i, (by omega), (by omega), (by omega), (by rw [hT, dropD (d := []) hkl]; show (ls.drop (k + 1)).foldl _ (min n (lcpC fold (ls.getD 0 []) (ls.getD k []))) = _; rw [hlm]), H, rfl, rfl, rfl, rfl⟩
    ·have hc15b := hc15
     have hc15 := of_decide_eq_false hc15
     refine RW.skip (by rfl) (by kernel_rfl) ?_
     refine RW.skip (by rfl) (by kernel_rfl) ?_
     refine RW.skip (by rfl) (by kernel_rfl) ?_
     refine RW.skip (by rfl) (by kernel_rfl) ?_
     refine RW.skip (by rfl) (by kernel_rfl) ?_
     refine RW.skip (by rfl) (by kernel_rfl) ?_
     refine RW.skip (by rfl) (by kernel_rfl) ?_
     refine RW.skip (by rfl) (by kernel_rfl) ?_
     refine RW.skip (by rfl) (by kernel_rfl) ?_
     refine RW.skip (by rfl) (by kernel_rfl) ?_
     refine RW.skip (by rfl) (by kernel_rfl) ?_
     refine RW.skip (by rfl) (by kernel_rfl) ?_
     refine RW.skip (by rfl) (by kernel_rfl) ?_
     refine RW.skip (by rfl) (by kernel_rfl) ?_
     refine RW.skip (by rfl) (by kernel_rfl) ?_
     refine RW.v ?_
     refine RW.nil ?_
     refine ⟨⟨by kernel_rfl, ⟨trivial, trivial, trivial, trivial, trivial, trivial, trivial, trivial, dyn_row (H8.old _ _ hF13) (H8.old _ _ hF13) ⟨fun h => Bool.noConfusion h, fun h => Bool.noConfusion h, fun h => Bool.noConfusion h, fun h => Bool.noConfusion h, fun h => Bool.noConfusion h, fun h => Bool.noConfusion h, fun h => Bool.noConfusion h, fun h => Bool.noConfusion h, fun h => Bool.noConfusion h, fun h => Bool.noConfusion h, fun h => Bool.noConfusion h, fun h => Bool.noConfusion h, fun h => Bool.noConfusion h, fun h => Bool.noConfusion h, fun h => Bool.noConfusion h, fun h => Bool.noConfusion h, fun h => Bool.noConfusion h, fun h => Bool.noConfusion h, fun h => Bool.noConfusion h, fun h => Bool.noConfusion h, fun h => Bool.noConfusion h, fun h => Bool.noConfusion h, fun h => Bool.noConfusion h, fun h => Bool.noConfusion h, fun h => Bool.noConfusion h, fun h => Bool.noConfusion h, fun h => Bool.noConfusion h, fun h => Bool.noConfusion h, fun h => Bool.noConfusion h, trivial⟩, trivial, trivial, trivial, trivial, trivial, trivial, trivial, trivial, trivial, trivial, trivial, trivial, trivial, trivial, trivial, trivial, trivial, trivial, trivial, trivial, trivial⟩⟩, ?_⟩
     replace H := H8
     clear H8
     refine W.c0 ?_
     refine W.exit _ ?_
     refine seqQ_exit ?_
     refine rndQ_exit ?_
     have hlm : min n (lcpC fold (ls.getD 0 []) (ls.getD k [])) = i := by rw [hC, List.drop_eq_nil_of_le (show (ls.getD k []).length ≤ i by omega), lcp_nilR]; omega
     refine blkQ_here ?_
     refine W.region ?_
     iterate 2 refine RW.v ?_
     refine RW.nil ?_
     refine blkQ_normal ?_
     refine W.rg [(0, v1), (1, .bool fold), (5, .int .i64 ((i : Nat) : Int)), (6, .int .i64 ((k : Nat) : Int))] fun TA => ?_
     refine W.region ?_
     refine RW.v ?_
     refine RW.valE (v' := .int .i64 (((k : Nat) : Int) + 1)) (by kernel_rfl) (by kernel_rfl) rfl (congrArg (Value.int .i64) (wrap_in (by omega) (by omega))) (by kernel_rfl) ?_
     refine RW.v ?_
     refine RW.nil ?_
     exact ⟨rfl, mm - 1, by omega, k + 1, i, (by omega), (by omega), (by omega), (by rw [hT, dropD (d := []) hkl]; show (ls.drop (k + 1)).foldl _ (min n (lcpC fold (ls.getD 0 []) (ls.getD k []))) = _; rw [hlm]), H, rfl, rfl, rfl, rfl⟩
   ·have hc9b := hc9
    have hc9 := of_decide_eq_false hc9
    refine RW.skip (by rfl) (by kernel_rfl) ?_
    refine RW.skip (by rfl) (by kernel_rfl) ?_
    refine RW.skip (by rfl) (by kernel_rfl) ?_
    refine RW.skip (by rfl) (by kernel_rfl) ?_
    refine RW.skip (by rfl) (by kernel_rfl) ?_
    refine RW.skip (by rfl) (by kernel_rfl) ?_
    refine RW.skip (by rfl) (by kernel_rfl) ?_
    iterate 2 refine RW.v ?_
    refine RW.skip (by rfl) (by kernel_rfl) ?_
    refine RW.skip (by rfl) (by kernel_rfl) ?_
    refine RW.skip (by rfl) (by kernel_rfl) ?_
    refine RW.skip (by rfl) (by kernel_rfl) ?_
    refine RW.skip (by rfl) (by kernel_rfl) ?_
    refine RW.skip (by rfl) (by kernel_rfl) ?_
    refine RW.skip (by rfl) (by kernel_rfl) ?_
    refine RW.skip (by rfl) (by kernel_rfl) ?_
    refine RW.skip (by rfl) (by kernel_rfl) ?_
    refine RW.skip (by rfl) (by kernel_rfl) ?_
    refine RW.skip (by rfl) (by kernel_rfl) ?_
    refine RW.skip (by rfl) (by kernel_rfl) ?_
    refine RW.skip (by rfl) (by kernel_rfl) ?_
    refine RW.skip (by rfl) (by kernel_rfl) ?_
    refine RW.skip (by rfl) (by kernel_rfl) ?_
    refine RW.v ?_
    refine RW.nil ?_
    refine ⟨⟨by kernel_rfl, ⟨trivial, trivial, trivial, trivial, trivial, trivial, trivial, trivial, trivial, trivial, trivial, trivial, trivial, trivial, trivial, trivial, trivial, trivial, trivial, trivial, trivial, trivial, trivial, trivial, trivial, trivial, trivial, trivial, trivial, trivial⟩⟩, ?_⟩
    replace H := H8
    clear H8
    refine W.c0 ?_
    refine W.exit _ ?_
    refine seqQ_exit ?_
    refine rndQ_exit ?_
    have hlm : min n (lcpC fold (ls.getD 0 []) (ls.getD k [])) = i := by have hi1 : i = n := (by omega); rw [hC]; omega
    refine blkQ_here ?_
    refine W.region ?_
    iterate 2 refine RW.v ?_
    refine RW.nil ?_
    refine blkQ_normal ?_
    refine W.rg [(0, v1), (1, .bool fold), (5, .int .i64 ((i : Nat) : Int)), (6, .int .i64 ((k : Nat) : Int))] fun TA => ?_
    refine W.region ?_
    refine RW.v ?_
    refine RW.valE (v' := .int .i64 (((k : Nat) : Int) + 1)) (by kernel_rfl) (by kernel_rfl) rfl (congrArg (Value.int .i64) (wrap_in (by omega) (by omega))) (by kernel_rfl) ?_
    refine RW.v ?_
    refine RW.nil ?_
    exact ⟨rfl, mm - 1, by omega, k + 1, i, (by omega), (by omega), (by omega), (by rw [hT, dropD (d := []) hkl]; show (ls.drop (k + 1)).foldl _ (min n (lcpC fold (ls.getD 0 []) (ls.getD k []))) = _; rw [hlm]), H, rfl, rfl, rfl, rfl⟩
  ·have hc7b := hc7
   have hc7 := of_decide_eq_false hc7
   refine W.exit _ ?_
   refine seqQ_exit ?_
   refine rndQ_exit ?_
   have hN : comN fold (ls.getD 0 []) (ls.drop 1) = n := by rw [hT, List.drop_eq_nil_of_le (by omega)]; rfl
   refine blkQ_here ?_
   refine W.seq (W.region ?_)
   refine RW.v ?_
   refine RW.idxF h1.slf (by kernel_rfl) (by kernel_rfl) rfl Tryd.underlying58 (by kernel_rfl) rfl rfl ⟨by omega, by omega⟩ (by kernel_rfl) ?_
   intro b38 q39 r40 hF41 hE42
   rw [vals_at (l := sls) (j := 0) (i := 0) (by omega) (by have := al.1; omega)] at hE42
   refine RW.loads 1 (by kernel_rfl) (by kernel_rfl) rfl rfl (H.old _ _ hF41) hE42 rfl (by kernel_rfl) ?_
   refine RW.v ?_
   obtain ⟨sv43, hv44, hk45⟩ := slk_cut (P := Tryd.prog) (t := 59) (e := 3) (i := n) (al.2 0 (by omega)) (by kernel_rfl) (by kernel_rfl) (by omega)
   rw [Nat.mul_one] at hk45
   refine RW.vop (v := sv43) (by kernel_rfl) (by kernel_rfl) (vop_slice rfl hv44) (by kernel_rfl) ?_
   refine RW.v ?_
   refine RW.nil ?_
   refine W.ret ?_
   refine endG (by rfl) (by exact resL_tmp rfl) ?_
   have ec : comC fold ls = (ls.getD 0 []).take n := by rw [comC_ne (by omega), hN]
   rw [ec]
   have hk2 : SlK F 1 sv43 ((ls.getD 0 []).take n).length (((ls.getD 0 []).take n).map (Value.int .i64)) := by rw [List.length_take, Nat.min_eq_left (by omega), List.map_take]; exact hk45
   exact ⟨hk2, H⟩
end
end Go.Proofs.YtjcmdifpkafdkaaDoor
namespace Go.Proofs.YtjcmdifpkafdkaaDoor
open Go.Lib
set_option maxRecDepth 100000
open Go.RowKit
theorem com_sub {fold : Bool} {rs : List (List Int)} : comC fold rs = [] ∨ ∃ z ∈ rs, ∃ n, comC fold rs = z.take n := by
 cases rs with
 | nil => exact .inl rfl
 | cons z rs => exact .inr ⟨z, List.mem_cons_self .., _, rfl⟩
theorem com_chars {fold : Bool} {rs : List (List Int)} (h : ∀ z ∈ rs, ∀ c ∈ z, chB c = true) : ∀ c ∈ comC fold rs, chB c = true := fun c hc => by
 rcases com_sub (fold := fold) (rs := rs) with e | ⟨z, hz, n, e⟩
 ·rw [e] at hc; exact absurd hc (List.not_mem_nil)
 ·rw [e] at hc; exact h z hz c (List.mem_of_mem_take hc)
theorem com_len {fold : Bool} {rs : List (List Int)} {n : Nat} (h : ∀ z ∈ rs, z.length ≤ n) : (comC fold rs).length ≤ n := by
 rcases com_sub (fold := fold) (rs := rs) with e | ⟨z, hz, k, e⟩
 ·rw [e]; exact Nat.zero_le _
 ·rw [e, List.length_take]; have := h z hz; omega
theorem testC_any {fold : Bool} {m : List (List UInt8)} {s : List UInt8} (hd : distM m = m) (hv : validD s = true) : testC fold m s = m.any fun c => eqC fold (runes c) (runes s) := by
 unfold testC
 rw [hd, hv, Bool.true_and]
theorem tryC_lenB {fold : Bool} {l : List (List UInt8)} {s : List UInt8} {n : Nat} (hsm : ∀ s ∈ l, s.length ≤ n) : (tryC fold l s).length ≤ n := by
 unfold tryC
 rcases comC_take (fold := fold) (m := allC fold l s) (fun x hx => (allC_good.1 x hx).1) with ⟨_, h⟩ | ⟨x, k, hx, h⟩
 ·rw [h]; exact Nat.zero_le _
 ·rw [h]
  have := allC_good.1 x hx
  exact Nat.le_trans (encA_take_len rfl this.1 k) (hsm x this.2)
theorem tryC_valid {fold : Bool} {l : List (List UInt8)} {s : List UInt8} : validD (tryC fold l s) = true := by
 by_cases h : allC fold l s = []
 ·unfold tryC
  rw [h]
  rfl
 ·obtain ⟨x, N, E⟩ := ext_ok h
  exact E.vt
theorem charsM_le {s : List UInt8} {n : Nat} (h : s.length ≤ n) : (charsM s).length ≤ n := by
 unfold charsM
 split
 ·exact Nat.le_trans (runes_le s) h
 ·exact Nat.zero_le _
theorem step_start {fold : Bool} {l : List (List UInt8)} {s : List UInt8} : cutG (runes (tryC fold l s)) (runes (tryC fold l s)).length (charsM s).length = cutG (runes (tryC fold l s)) (runes (tryC fold l s)).length (runes s).length := by
 cases hv : validD s with
 | true => rw [chars_yes hv]
 | false =>
  have e : tryC fold l s = [] := by
   unfold tryC allC
   rw [if_neg (by rw [hv]; exact Bool.false_ne_true)]
   rfl
  rw [e]
  rfl
section
variable {G : Nat} {A : Abs} {σ : Mem} {F : Nat → Option Blk2} {L : List Ent} {fold : Bool} {l m : List (List UInt8)} {s : List UInt8} {v1 : Value}
set_option maxHeartbeats 8000000 in
theorem r_all (h1 : SlF F 1 v1 l.length (l.map strV)) (hl : l.length ≤ 1000000) (hsm : ∀ s ∈ l, s.length ≤ 60000) (hs : s.length ≤ 60000) (H : Lies G A F σ L) : WC G Tryd.prog 25 #[v1, .string ⟨s.toArray⟩, .bool fold] σ fun v σ' => ∃ F', Le F F' ∧ SlF F' 1 v (allC fold l s).length ((allC fold l s).map strV) ∧ Lies G A F' σ' L := by
 obtain ⟨F0, hF⟩ : ∃ F0, F0 = F := ⟨_, rfl⟩
 have le0 : Le F0 F := fun b y h => hF ▸ h
 rw [← hF] at h1 ⊢
 have hsmM : ∀ x ∈ l, x.length ≤ 1000000 := fun x hx => Nat.le_trans (hsm x hx) (by decide)
 refine WC.enter (fn := Tryd.f25) Tryd.func25 rfl ?_
 refine W.rg [(0, v1), (1, .string ⟨s.toArray⟩), (2, .bool fold)] fun TA => ?_
 refine W.seq (W.region ?_)
 refine RW.v ?_
 refine RW.nil ?_
 refine W.rg [(0, v1), (1, .string ⟨s.toArray⟩), (2, .bool fold)] fun TA => ?_
 refine W.seq (W.region ?_)
 refine RW.v ?_
 refine RW.nil ?_
 refine W.rg [(0, v1), (1, .string ⟨s.toArray⟩), (2, .bool fold), (7, .slice none 0 0)] fun TA => ?_
 refine W.seq ?_
 refine W.seq (W.region ?_)
 refine RW.v ?_
 refine RW.cl ?_
 refine ⟨_, _, (s_rvalid (Nat.le_trans hs (by decide))), ?_⟩
 refine RW.v ?_
 refine RW.nil ?_
 refine W.rg [(0, v1), (1, .string ⟨s.toArray⟩), (2, .bool fold), (7, .slice none 0 0), (12, .bool (!(validD s)))] fun TA => ?_
 refine W.cond rfl (fun hc1 => ?_) (fun hc1 => ?_)
 ·have hc1b := hc1
  have hvs : validD s = false := by simpa using hc1b
  refine W.seq (W.region ?_)
  iterate 2 refine RW.v ?_
  refine RW.nil ?_
  refine W.ret ?_
  refine seqQ_ret ?_
  refine endG (by rfl) (by exact resL_tmp rfl) ?_
  have ea : allC fold l s = [] := by unfold allC; rw [if_neg (by rw [hvs]; exact Bool.false_ne_true)]
  rw [ea]
  exact ⟨F, le0, .nil _ rfl, H⟩
 ·have hc1b := hc1
  have hvs : validD s = true := by simpa using hc1b
  refine W.skip ?_
  refine W.seq (W.region ?_)
  refine RW.v ?_
  refine RW.cl ?_
  refine ((r_candidates (h1.le le0) hl hsmM H).mono ?_)
  clear H
  rintro du _ ⟨F, le, hcd, H⟩
  replace le0 := fun b y h => le b y (le0 b y h)
  obtain ⟨D, hD⟩ : ∃ D, D = distM l := ⟨_, rfl⟩
  rw [← hD] at hcd
  have hDl : D.length ≤ 1000000 := by rw [hD]; exact Nat.le_trans (distG_len l []) hl
  have hDm : ∀ x ∈ D, validD x = true ∧ x ∈ l := fun x hx => by rw [hD] at hx; have := distM_mem.1 hx; exact ⟨this.2, this.1⟩
  obtain ⟨FB, hFB⟩ : ∃ FB, FB = F := ⟨_, rfl⟩
  rw [← hFB] at hcd
  have leB : Le FB F := fun b y h => hFB ▸ h
  obtain ⟨T, hTd⟩ : ∃ T, T = allC fold l s := ⟨_, rfl⟩
  have hT0 : T = [] ++ (D.drop 0).filter (fun c => begC fold (runes c) (runes s)) := by rw [hTd, hD]; exact allC_yes hvs
  refine RW.v ?_
  refine RW.nil ?_
  refine W.rg [(1, .string ⟨s.toArray⟩), (2, .bool fold), (7, .slice none 0 0), (8, du)] fun TA => ?_
  refine W.seq ?_
  refine W.seq (W.region ?_)
  refine RW.v ?_
  refine RW.nil ?_
  refine W.rg [(1, .string ⟨s.toArray⟩), (2, .bool fold), (7, .slice none 0 0), (8, du), (9, .int .i64 0)] fun TA => ?_
  refine W.block ?_
  replace H := H.nilSl 9 1
  refine W.loop (fun mm ta σ => ∃ (i : Nat) (acc : List (List UInt8)) (u : Value), (mm + i = D.length) ∧ (acc.length ≤ i) ∧ (T = acc ++ (D.drop i).filter (fun c => begC fold (runes c) (runes s))) ∧ Lies G A F σ (.sl 9 1 u acc.length (acc.map strV) :: (L)) ∧ ta 1 = .string ⟨s.toArray⟩ ∧ ta 2 = .bool fold ∧ ta 7 = u ∧ ta 8 = du ∧ ta 9 = .int .i64 ((i : Nat) : Int)) D.length ?_ ?_
  ·exact ⟨0, [], .slice none 0 0, (by omega), (Nat.zero_le _), hT0, H, rfl, rfl, rfl, rfl, rfl⟩
  clear H
  rintro mm ta _ ⟨i, acc, u, hm, hac, hT, H, e1, e2, e7, e8, e9⟩
  refine W.rst [(1, .string ⟨s.toArray⟩), (2, .bool fold), (7, u), (8, du), (9, .int .i64 ((i : Nat) : Int))] ⟨e1, e2, e7, e8, e9, trivial⟩ fun TA => ?_
  clear e1 e2 e7 e8 e9
  have leB : Le FB F := fun b y h => hFB ▸ h
  refine W.seq ?_
  refine W.seq (W.region ?_)
  iterate 2 refine RW.v ?_
  refine RW.len (by kernel_rfl) (by kernel_rfl) rfl rfl rfl rfl ((hcd.le leB).len (e := 9) (by kernel_rfl)) (by kernel_rfl) ?_
  refine RW.v ?_
  refine RW.nil ?_
  refine W.rg [(1, .string ⟨s.toArray⟩), (2, .bool fold), (7, u), (8, du), (9, .int .i64 ((i : Nat) : Int)), (19, .bool (decide (((i : Nat) : Int) < (D.length : Int))))] fun TA => ?_
  refine W.cond rfl (fun hc2 => ?_) (fun hc2 => ?_)
  ·have hc2b := hc2
   have hc2 := of_decide_eq_true hc2
   have hil : i < D.length := by omega
   have hXd := hDm _ (mem_of (l := D) (j := i) hil)
   refine W.skip ?_
   refine W.seq ?_
   refine W.block ?_
   refine W.seq (W.region ?_)
   iterate 2 refine RW.v ?_
   refine RW.idxF (hcd.le leB) (by kernel_rfl) (by kernel_rfl) rfl Tryd.underlying22 (by kernel_rfl) rfl rfl ⟨by omega, by omega⟩ (by kernel_rfl) ?_
   intro b3 q4 r5 hF6 hE7
   rw [strs_at (l := D) (j := i) (i := ((i : Nat) : Int)) (by omega) (by omega)] at hE7
   refine RW.loads 1 (by kernel_rfl) (by kernel_rfl) rfl rfl (H.old _ _ hF6) hE7 rfl (by kernel_rfl) ?_
   refine RW.cl ?_
   refine ((r_chars (hsmM _ hXd.2) H).mono ?_)
   clear H
   rintro cu8 _ ⟨F, _, le, rfl, hu9, H⟩
   replace leB := fun b y h => le b y (leB b y h)
   rw [chars_yes hXd.1] at hu9
   refine RW.v ?_
   refine RW.cl ?_
   refine ((r_chars (Nat.le_trans hs (by decide)) H).mono ?_)
   clear H
   rintro cu10 _ ⟨F, _, le, rfl, hu11, H⟩
   replace leB := fun b y h => le b y (leB b y h)
   replace hu9 := hu9.le le
   rw [chars_yes hvs] at hu11
   refine RW.v ?_
   refine RW.cl ?_
   refine ((r_prefix (fold := fold) (p := 0) hu9.slf hu11.slf (Nat.le_trans (runes_le _) (hsmM _ hXd.2)) (Nat.le_trans (runes_le _) (Nat.le_trans hs (by decide))) (Nat.zero_le _) H).mono ?_)
   clear H
   rintro _ _ ⟨rfl, H⟩
   rw [List.drop_zero]
   refine RW.nil ?_
   refine W.rg [(1, .string ⟨s.toArray⟩), (2, .bool fold), (7, u), (8, du), (9, .int .i64 ((i : Nat) : Int)), (30, .bool (begC fold (runes (D.getD i [])) (runes s)))] fun TA => ?_
   refine W.cond rfl (fun hc12 => ?_) (fun hc12 => ?_)
   ·have hc12b := hc12
    refine W.region ?_
    iterate 3 refine RW.v ?_
    refine RW.idxF (hcd.le leB) (by kernel_rfl) (by kernel_rfl) rfl Tryd.underlying22 (by kernel_rfl) rfl rfl ⟨by omega, by omega⟩ (by kernel_rfl) ?_
    intro b13 q14 r15 hF16 hE17
    rw [strs_at (l := D) (j := i) (i := ((i : Nat) : Int)) (by omega) (by omega)] at hE17
    refine RW.loads 1 (by kernel_rfl) (by kernel_rfl) rfl rfl (H.old _ _ hF16) hE17 rfl (by kernel_rfl) ?_
    refine RW.mkL H (x := .row ⟨[.string ⟨(D.getD i []).toArray⟩], 9, false⟩) (fm := fun b => .slice (some ⟨b, 0, none⟩) 1 1) (by kernel_rfl) (by kernel_rfl) (by kernel_rfl) (by kernel_rfl) ?_
    clear H; intro _ b18 _ H
    refine RW.appL H 1 0 (n := 1) (e2 := 9) (by kernel_rfl) (by kernel_rfl) rfl rfl rfl rfl rfl rfl rfl rfl (by kernel_rfl) (by kernel_rfl) (by kernel_rfl) (by decide) (by decide) rfl rfl (by omega) (by kernel_rfl) ?_
    clear H; intro _ v19 _ H
    dsimp only [setL, delL] at H
    refine RW.v ?_
    refine RW.nil ?_
    refine blkQ_normal ?_
    refine W.rg [(1, .string ⟨s.toArray⟩), (2, .bool fold), (7, v19), (8, du), (9, .int .i64 ((i : Nat) : Int))] fun TA => ?_
    refine W.region ?_
    refine RW.v ?_
    refine RW.valE (v' := .int .i64 (((i : Nat) : Int) + 1)) (by kernel_rfl) (by kernel_rfl) rfl (congrArg (Value.int .i64) (wrap_in (by omega) (by omega))) (by kernel_rfl) ?_
    refine RW.v ?_
    refine RW.nil ?_
    replace H := H.back leB
    rw [hFB] at H
    rw [acc_snoc (x := (D.getD i []))] at H
    rw [show acc.length + 1 = (acc ++ [(D.getD i [])]).length by rw [List.length_append]; rfl] at H
    exact ⟨rfl, mm - 1, by omega, i + 1, (acc ++ [(D.getD i [])]), v19, (by omega), (by rw [List.length_append, List.length_singleton]; omega), (by rw [hT, dropD (d := []) hil, List.filter_cons_of_pos (p := (fun c => begC fold (runes c) (runes s))) hc12b, List.append_assoc]; rfl), H, rfl, rfl, rfl, rfl, rfl⟩
   ·have hc12b := hc12
    refine W.skip ?_
    refine blkQ_normal ?_
    refine W.region ?_
    refine RW.v ?_
    refine RW.valE (v' := .int .i64 (((i : Nat) : Int) + 1)) (by kernel_rfl) (by kernel_rfl) rfl (congrArg (Value.int .i64) (wrap_in (by omega) (by omega))) (by kernel_rfl) ?_
    refine RW.v ?_
    refine RW.nil ?_
    replace H := H.back leB
    rw [hFB] at H
    exact ⟨rfl, mm - 1, by omega, i + 1, acc, u, (by omega), (by omega), (by rw [hT, dropD (d := []) hil, List.filter_cons_of_neg (p := (fun c => begC fold (runes c) (runes s))) (by rw [hc12b]; exact Bool.false_ne_true)]), H, rfl, rfl, rfl, rfl, rfl⟩
  ·have hc2b := hc2
   have hc2 := of_decide_eq_false hc2
   refine W.exit _ ?_
   refine seqQ_exit ?_
   refine rndQ_exit ?_
   refine blkQ_here ?_
   refine W.seq (W.region ?_)
   iterate 2 refine RW.v ?_
   refine RW.nil ?_
   refine W.ret ?_
   refine endG (by rfl) (by exact resL_tmp rfl) ?_
   have hR : T = acc := by rw [hT, List.drop_eq_nil_of_le (by omega)]; exact List.append_nil _
   rw [← hTd, hR]
   obtain ⟨F', le, hv, H⟩ := H.freezeSl 0 rfl
   dsimp only [setL, delL] at H
   exact ⟨F', fun b y h => le b y (le0 b y h), hv, H⟩
set_option maxHeartbeats 8000000 in
theorem r_test (h1 : SlF F 1 v1 l.length (l.map strV)) (hl : l.length ≤ 1000000) (hsm : ∀ s ∈ l, s.length ≤ 60000) (hs : s.length ≤ 60000) (H : Lies G A F σ L) : WC G Tryd.prog 29 #[v1, .string ⟨s.toArray⟩, .bool fold] σ fun v σ' => v = .bool (testC fold l s) ∧ Lies G A F σ' L := by
 obtain ⟨F0, hF⟩ : ∃ F0, F0 = F := ⟨_, rfl⟩
 have le0 : Le F0 F := fun b y h => hF ▸ h
 rw [← hF] at h1 ⊢
 have hsmM : ∀ x ∈ l, x.length ≤ 1000000 := fun x hx => Nat.le_trans (hsm x hx) (by decide)
 refine WC.enter (fn := Tryd.f29) Tryd.func29 rfl ?_
 refine W.rg [(0, v1), (1, .string ⟨s.toArray⟩), (2, .bool fold)] fun TA => ?_
 refine W.seq (W.region ?_)
 refine RW.v ?_
 refine RW.nil ?_
 refine W.rg [(0, v1), (1, .string ⟨s.toArray⟩), (2, .bool fold)] fun TA => ?_
 refine W.seq ?_
 refine W.seq (W.region ?_)
 refine RW.v ?_
 refine RW.cl ?_
 refine ⟨_, _, (s_rvalid (Nat.le_trans hs (by decide))), ?_⟩
 refine RW.v ?_
 refine RW.nil ?_
 refine W.rg [(0, v1), (1, .string ⟨s.toArray⟩), (2, .bool fold), (11, .bool (!(validD s)))] fun TA => ?_
 refine W.cond rfl (fun hc1 => ?_) (fun hc1 => ?_)
 ·have hc1b := hc1
  have hvs : validD s = false := by simpa using hc1b
  refine W.seq (W.region ?_)
  refine RW.v ?_
  refine RW.nil ?_
  refine W.ret ?_
  refine seqQ_ret ?_
  refine endG (by rfl) (by exact resL_tmp rfl) ?_
  have e : testC fold l s = false := by unfold testC; rw [hvs, Bool.false_and]
  rw [e]
  exact ⟨rfl, (H).back le0⟩
 ·have hc1b := hc1
  have hvs : validD s = true := by simpa using hc1b
  refine W.skip ?_
  refine W.seq (W.region ?_)
  refine RW.v ?_
  refine RW.cl ?_
  refine ((r_candidates (h1.le le0) hl hsmM H).mono ?_)
  clear H
  rintro du _ ⟨F, le, hcd, H⟩
  replace le0 := fun b y h => le b y (le0 b y h)
  obtain ⟨D, hD⟩ : ∃ D, D = distM l := ⟨_, rfl⟩
  rw [← hD] at hcd
  have hDl : D.length ≤ 1000000 := by rw [hD]; exact Nat.le_trans (distG_len l []) hl
  have hDm : ∀ x ∈ D, validD x = true ∧ x ∈ l := fun x hx => by rw [hD] at hx; have := distM_mem.1 hx; exact ⟨this.2, this.1⟩
  obtain ⟨FB, hFB⟩ : ∃ FB, FB = F := ⟨_, rfl⟩
  rw [← hFB] at hcd
  have leB : Le FB F := fun b y h => hFB ▸ h
  refine RW.v ?_
  refine RW.nil ?_
  refine W.rg [(1, .string ⟨s.toArray⟩), (2, .bool fold), (7, du)] fun TA => ?_
  refine W.seq ?_
  refine W.seq (W.region ?_)
  refine RW.v ?_
  refine RW.nil ?_
  refine W.rg [(1, .string ⟨s.toArray⟩), (2, .bool fold), (7, du), (8, .int .i64 0)] fun TA => ?_
  refine W.block ?_
  refine W.loop (fun mm ta σ => ∃ (i : Nat), (mm + i = D.length) ∧ (D.any (fun c => eqC fold (runes c) (runes s)) = (D.drop i).any (fun c => eqC fold (runes c) (runes s))) ∧ Lies G A F σ ((L)) ∧ ta 1 = .string ⟨s.toArray⟩ ∧ ta 2 = .bool fold ∧ ta 7 = du ∧ ta 8 = .int .i64 ((i : Nat) : Int)) D.length ?_ ?_
  ·exact ⟨0, (by omega), rfl, H, rfl, rfl, rfl, rfl⟩
  clear H
  rintro mm ta _ ⟨i, hm, hT, H, e1, e2, e7, e8⟩
  refine W.rst [(1, .string ⟨s.toArray⟩), (2, .bool fold), (7, du), (8, .int .i64 ((i : Nat) : Int))] ⟨e1, e2, e7, e8, trivial⟩ fun TA => ?_
  clear e1 e2 e7 e8
  have leB : Le FB F := fun b y h => hFB ▸ h
  refine W.seq ?_
  refine W.seq (W.region ?_)
  iterate 2 refine RW.v ?_
  refine RW.len (by kernel_rfl) (by kernel_rfl) rfl rfl rfl rfl ((hcd.le leB).len (e := 9) (by kernel_rfl)) (by kernel_rfl) ?_
  refine RW.v ?_
  refine RW.nil ?_
  refine W.rg [(1, .string ⟨s.toArray⟩), (2, .bool fold), (7, du), (8, .int .i64 ((i : Nat) : Int)), (17, .bool (decide (((i : Nat) : Int) < (D.length : Int))))] fun TA => ?_
  refine W.cond rfl (fun hc2 => ?_) (fun hc2 => ?_)
  ·have hc2b := hc2
   have hc2 := of_decide_eq_true hc2
   have hil : i < D.length := by omega
   have hXd := hDm _ (mem_of (l := D) (j := i) hil)
   refine W.skip ?_
   refine W.seq ?_
   refine W.block ?_
   refine W.seq (W.region ?_)
   iterate 2 refine RW.v ?_
   refine RW.idxF (hcd.le leB) (by kernel_rfl) (by kernel_rfl) rfl Tryd.underlying22 (by kernel_rfl) rfl rfl ⟨by omega, by omega⟩ (by kernel_rfl) ?_
   intro b3 q4 r5 hF6 hE7
   rw [strs_at (l := D) (j := i) (i := ((i : Nat) : Int)) (by omega) (by omega)] at hE7
   refine RW.loads 1 (by kernel_rfl) (by kernel_rfl) rfl rfl (H.old _ _ hF6) hE7 rfl (by kernel_rfl) ?_
   refine RW.cl ?_
   refine ((r_chars (hsmM _ hXd.2) H).mono ?_)
   clear H
   rintro cu8 _ ⟨F, _, le, rfl, hu9, H⟩
   replace leB := fun b y h => le b y (leB b y h)
   rw [chars_yes hXd.1] at hu9
   refine RW.v ?_
   refine RW.cl ?_
   refine ((r_chars (Nat.le_trans hs (by decide)) H).mono ?_)
   clear H
   rintro cu10 _ ⟨F, _, le, rfl, hu11, H⟩
   replace leB := fun b y h => le b y (leB b y h)
   replace hu9 := hu9.le le
   rw [chars_yes hvs] at hu11
   refine RW.v ?_
   refine RW.cl ?_
   refine ((r_equal (fold := fold) hu9.slf hu11.slf (Nat.le_trans (runes_le _) (hsmM _ hXd.2)) (Nat.le_trans (runes_le _) (Nat.le_trans hs (by decide))) H).mono ?_)
   clear H
   rintro _ _ ⟨rfl, H⟩
   refine RW.nil ?_
   refine W.rg [(1, .string ⟨s.toArray⟩), (2, .bool fold), (7, du), (8, .int .i64 ((i : Nat) : Int)), (28, .bool (eqC fold (runes (D.getD i [])) (runes s)))] fun TA => ?_
   refine W.cond rfl (fun hc12 => ?_) (fun hc12 => ?_)
   ·have hc12b := hc12
    refine W.seq (W.region ?_)
    refine RW.v ?_
    refine RW.nil ?_
    refine W.ret ?_
    refine blkQ_ret ?_
    refine seqQ_ret ?_
    refine rndQ_ret ?_
    refine blkQ_ret ?_
    refine seqQ_ret ?_
    refine endG (by rfl) (by exact resL_tmp rfl) ?_
    have e : testC fold l s = true := by unfold testC; rw [hvs, Bool.true_and, ← hD, hT, dropD (d := []) hil, List.any_cons, hc12b, Bool.true_or]
    rw [e]
    replace H := (H).back leB
    rw [hFB] at H
    exact ⟨rfl, H.back le0⟩
   ·have hc12b := hc12
    refine W.skip ?_
    refine blkQ_normal ?_
    refine W.region ?_
    refine RW.v ?_
    refine RW.valE (v' := .int .i64 (((i : Nat) : Int) + 1)) (by kernel_rfl) (by kernel_rfl) rfl (congrArg (Value.int .i64) (wrap_in (by omega) (by omega))) (by kernel_rfl) ?_
    refine RW.v ?_
    refine RW.nil ?_
    replace H := H.back leB
    rw [hFB] at H
    exact ⟨rfl, mm - 1, by omega, i + 1, (by omega), (by rw [hT, dropD (d := []) hil, List.any_cons, hc12b, Bool.false_or]), H, rfl, rfl, rfl, rfl⟩
  ·have hc2b := hc2
   have hc2 := of_decide_eq_false hc2
   refine W.exit _ ?_
   refine seqQ_exit ?_
   refine rndQ_exit ?_
   refine blkQ_here ?_
   refine W.seq (W.region ?_)
   refine RW.v ?_
   refine RW.nil ?_
   refine W.ret ?_
   refine endG (by rfl) (by exact resL_tmp rfl) ?_
   have e : testC fold l s = false := by unfold testC; rw [hvs, Bool.true_and, ← hD, hT, List.drop_eq_nil_of_le (by omega)]; rfl
   rw [e]
   exact ⟨rfl, (H).back le0⟩
set_option maxHeartbeats 8000000 in
theorem r_common (h1 : SlF F 1 v1 l.length (l.map strV)) (hl : l.length ≤ 1000000) (hsm : ∀ s ∈ l, s.length ≤ 60000) (H : Lies G A F σ L) : WC G Tryd.prog 27 #[v1, .bool fold] σ fun v σ' => v = .string ⟨(commonC fold l).toArray⟩ ∧ Lies G A F σ' L := by
 obtain ⟨F0, hF⟩ : ∃ F0, F0 = F := ⟨_, rfl⟩
 have le0 : Le F0 F := fun b y h => hF ▸ h
 rw [← hF] at h1 ⊢
 have hsmM : ∀ x ∈ l, x.length ≤ 1000000 := fun x hx => Nat.le_trans (hsm x hx) (by decide)
 refine WC.enter (fn := Tryd.f27) Tryd.func27 rfl ?_
 refine W.rg [(0, v1), (1, .bool fold)] fun TA => ?_
 refine W.seq (W.region ?_)
 refine RW.v ?_
 refine RW.nil ?_
 refine W.rg [(0, v1), (1, .bool fold)] fun TA => ?_
 refine W.seq (W.region ?_)
 refine RW.v ?_
 refine RW.cl ?_
 refine ((r_candidates (h1.le le0) hl hsmM H).mono ?_)
 clear H
 rintro du _ ⟨F, le, hcd, H⟩
 replace le0 := fun b y h => le b y (le0 b y h)
 obtain ⟨D, hD⟩ : ∃ D, D = distM l := ⟨_, rfl⟩
 rw [← hD] at hcd
 have hDl : D.length ≤ 1000000 := by rw [hD]; exact Nat.le_trans (distG_len l []) hl
 have hDm : ∀ x ∈ D, validD x = true ∧ x ∈ l := fun x hx => by rw [hD] at hx; have := distM_mem.1 hx; exact ⟨this.2, this.1⟩
 obtain ⟨FB, hFB⟩ : ∃ FB, FB = F := ⟨_, rfl⟩
 rw [← hFB] at hcd
 have leB : Le FB F := fun b y h => hFB ▸ h
 refine RW.v ?_
 refine RW.nil ?_
 refine W.rg [(1, .bool fold), (5, du)] fun TA => ?_
 refine W.seq (W.region ?_)
 refine RW.v ?_
 refine RW.nil ?_
 refine W.rg [(1, .bool fold), (5, du), (6, .slice none 0 0)] fun TA => ?_
 refine W.seq ?_
 refine W.seq (W.region ?_)
 refine RW.v ?_
 refine RW.nil ?_
 refine W.rg [(1, .bool fold), (5, du), (6, .slice none 0 0), (7, .int .i64 0)] fun TA => ?_
 refine W.block ?_
 replace H := H.nilSl 59 1
 refine W.loop (fun mm ta σ => ∃ (i : Nat) (F : Nat → Option Blk2) (u : Value) (cs : List Value) (rs : List (List Int)), (mm + i = D.length) ∧ (Le F0 F) ∧ (Le FB F) ∧ (AllI F cs rs) ∧ (D.map runes = rs ++ (D.drop i).map runes) ∧ Lies G A F σ (.sl 59 1 u rs.length cs :: (L)) ∧ ta 1 = .bool fold ∧ ta 5 = du ∧ ta 6 = u ∧ ta 7 = .int .i64 ((i : Nat) : Int)) D.length ?_ ?_
 ·exact ⟨0, F, .slice none 0 0, [], [], (by omega), le0, leB, AllI.nil, rfl, H, rfl, rfl, rfl, rfl⟩
 clear H
 rintro mm ta _ ⟨i, F, u, cs, rs, hm, le0, leB, al, hT, H, e1, e5, e6, e7⟩
 refine W.rst [(1, .bool fold), (5, du), (6, u), (7, .int .i64 ((i : Nat) : Int))] ⟨e1, e5, e6, e7, trivial⟩ fun TA => ?_
 clear e1 e5 e6 e7
 refine W.seq ?_
 refine W.seq (W.region ?_)
 iterate 2 refine RW.v ?_
 refine RW.len (by kernel_rfl) (by kernel_rfl) rfl rfl rfl rfl ((hcd.le leB).len (e := 9) (by kernel_rfl)) (by kernel_rfl) ?_
 refine RW.v ?_
 refine RW.nil ?_
 refine W.rg [(1, .bool fold), (5, du), (6, u), (7, .int .i64 ((i : Nat) : Int)), (13, .bool (decide (((i : Nat) : Int) < (D.length : Int))))] fun TA => ?_
 refine W.cond rfl (fun hc1 => ?_) (fun hc1 => ?_)
 ·have hc1b := hc1
  have hc1 := of_decide_eq_true hc1
  have hil : i < D.length := by omega
  have hXd := hDm _ (mem_of (l := D) (j := i) hil)
  refine W.skip ?_
  refine W.seq ?_
  refine W.block ?_
  refine W.region ?_
  iterate 3 refine RW.v ?_
  refine RW.idxF (hcd.le leB) (by kernel_rfl) (by kernel_rfl) rfl Tryd.underlying22 (by kernel_rfl) rfl rfl ⟨by omega, by omega⟩ (by kernel_rfl) ?_
  intro b2 q3 r4 hF5 hE6
  rw [strs_at (l := D) (j := i) (i := ((i : Nat) : Int)) (by omega) (by omega)] at hE6
  refine RW.loads 1 (by kernel_rfl) (by kernel_rfl) rfl rfl (H.old _ _ hF5) hE6 rfl (by kernel_rfl) ?_
  refine RW.cl ?_
  refine ((r_chars (hsmM _ hXd.2) H).mono ?_)
  clear H
  rintro cu7 _ ⟨F, _, le, rfl, hu8, H⟩
  replace leB := fun b y h => le b y (leB b y h)
  replace al := al.le le
  replace le0 := fun b y h => le b y (le0 b y h)
  rw [chars_yes hXd.1] at hu8
  refine RW.mkL H (x := .row ⟨[cu7], 59, false⟩) (fm := fun b => .slice (some ⟨b, 0, none⟩) 1 1) (by kernel_rfl) (by kernel_rfl) (by rcases slf_forms hu8.slf with rfl | ⟨_, rfl⟩ | ⟨_, _, _, _, _, rfl⟩ <;> kernel_rfl) (by kernel_rfl) ?_
  clear H; intro _ b9 _ H
  have hrl : rs.length ≤ i := by have := congrArg List.length hT; rw [List.length_map, List.length_append, List.length_map, List.length_drop] at this; omega
  refine RW.appL H 1 0 (n := 1) (e2 := 59) (by kernel_rfl) (by kernel_rfl) rfl rfl rfl rfl rfl rfl rfl rfl (by kernel_rfl) (by kernel_rfl) (by kernel_rfl) (by decide) (by decide) rfl (slf_all hu8.slf) (by omega) (by kernel_rfl) ?_
  clear H; intro _ v10 _ H
  dsimp only [setL, delL] at H
  refine RW.v ?_
  refine RW.nil ?_
  refine blkQ_normal ?_
  refine W.rg [(1, .bool fold), (5, du), (6, v10), (7, .int .i64 ((i : Nat) : Int))] fun TA => ?_
  refine W.region ?_
  refine RW.v ?_
  refine RW.valE (v' := .int .i64 (((i : Nat) : Int) + 1)) (by kernel_rfl) (by kernel_rfl) rfl (congrArg (Value.int .i64) (wrap_in (by omega) (by omega))) (by kernel_rfl) ?_
  refine RW.v ?_
  refine RW.nil ?_
  rw [show rs.length + 1 = (rs ++ [runes (D.getD i [])]).length by rw [List.length_append]; rfl] at H
  exact ⟨rfl, mm - 1, by omega, i + 1, F, v10, (cs ++ [cu7]), (rs ++ [runes (D.getD i [])]), (by omega), le0, leB, (al.snoc hu8), (by rw [hT, dropD (d := []) hil, List.map_cons, List.append_assoc]; rfl), H, rfl, rfl, rfl, rfl⟩
 ·have hc1b := hc1
  have hc1 := of_decide_eq_false hc1
  refine W.exit _ ?_
  refine seqQ_exit ?_
  refine rndQ_exit ?_
  have hR : D.map runes = rs := by rw [hT, List.drop_eq_nil_of_le (by omega)]; exact List.append_nil _
  have hrl : rs.length = D.length := by rw [← hR, List.length_map]
  have hrm : ∀ z ∈ rs, ∃ x ∈ D, z = runes x := fun z hz => by rw [← hR] at hz; obtain ⟨x, hx, e⟩ := List.mem_map.1 hz; exact ⟨x, hx, e.symm⟩
  have hrb : ∀ z ∈ rs, z.length ≤ 60000 := fun z hz => by obtain ⟨x, hx, rfl⟩ := hrm z hz; exact Nat.le_trans (runes_le x) (hsm x (hDm x hx).2)
  have hrc : ∀ z ∈ rs, ∀ c ∈ z, chB c = true := fun z hz => by obtain ⟨x, hx, rfl⟩ := hrm z hz; exact runes_chars (hDm x hx).1
  refine blkQ_here ?_
  refine W.seq (W.region ?_)
  iterate 2 refine RW.v ?_
  obtain ⟨F, le, hall, H⟩ := H.freezeK 0 rfl
  dsimp only [setL, delL] at H
  replace al := al.le le
  replace le0 := fun b y h => le b y (le0 b y h)
  refine RW.cl ?_
  refine ((r_shared (fold := fold) hall al (by omega) (fun z hz => Nat.le_trans (hrb z hz) (by decide)) H).mono ?_)
  clear H
  rintro su _ ⟨hsu, H⟩
  have hcc := com_chars (fold := fold) hrc
  have hcl := com_len (fold := fold) (n := 60000) hrb
  refine RW.cl ?_
  refine ((r_text hsu.slf (Nat.le_trans hcl (by decide)) hcc H).mono ?_)
  clear H
  rintro _ _ ⟨rfl, H⟩
  refine RW.v ?_
  refine RW.nil ?_
  refine W.ret ?_
  refine endG (by rfl) (by exact resL_tmp rfl) ?_
  have e : commonC fold l = encA (comC fold rs) := by unfold commonC; rw [common_dist, ← hD, hR]
  rw [e]
  exact ⟨rfl, (H).back le0⟩
set_option maxHeartbeats 4000000 in
theorem r_status (h1 : SlF F 1 v1 m.length (m.map strV)) (hl : m.length ≤ 1000000) (hsm : ∀ s ∈ m, s.length ≤ 60000) (hs : s.length ≤ 60000) (hd : distM m = m) (hv : m ≠ [] → validD s = true) (H : Lies G A F σ L) : WC G Tryd.prog 46 #[v1, .string ⟨s.toArray⟩, .bool fold] σ fun v σ' => v = .int .i64 (statusC fold m s) ∧ Lies G A F σ' L := by
 refine WC.enter (fn := Tryd.f46) Tryd.func46 rfl ?_
 refine W.rg [(0, v1), (1, .string ⟨s.toArray⟩), (2, .bool fold)] fun TA => ?_
 refine W.seq (W.region ?_)
 refine RW.v ?_
 refine RW.nil ?_
 refine W.rg [(0, v1), (1, .string ⟨s.toArray⟩), (2, .bool fold)] fun TA => ?_
 refine W.seq (W.region ?_)
 iterate 3 refine RW.v ?_
 refine RW.cl ?_
 refine ((r_test (fold := fold) h1 hl hsm hs H).mono ?_)
 clear H
 rintro _ _ ⟨rfl, H⟩
 refine RW.v ?_
 refine RW.nil ?_
 refine W.rg [(0, v1), (7, .bool (testC fold m s))] fun TA => ?_
 refine W.seq ?_
 refine W.block ?_
 refine W.seq (W.region ?_)
 refine RW.v ?_
 refine RW.len (by kernel_rfl) (by kernel_rfl) rfl rfl rfl rfl (h1.len (e := 9) (by kernel_rfl)) (by kernel_rfl) ?_
 iterate 2 refine RW.v ?_
 refine RW.nil ?_
 refine W.rg [(0, v1), (7, .bool (testC fold m s)), (12, .bool ((m.length : Int) == 0))] fun TA => ?_
 refine W.cond rfl (fun hc1 => ?_) (fun hc1 => ?_)
 ·have hc1b := hc1
  have hc1 := eq_of_beq hc1
  refine W.seq (W.region ?_)
  refine RW.v ?_
  refine RW.nil ?_
  refine W.ret ?_
  refine blkQ_ret ?_
  refine seqQ_ret ?_
  refine endG (by rfl) (by exact resL_tmp rfl) ?_
  have e : statusC fold m s = 0 := by unfold statusC; rw [if_pos (List.eq_nil_of_length_eq_zero (by omega))]
  rw [e]
  exact ⟨rfl, H⟩
 ·have hc1b := hc1
  have hc1 := ne_of_beq_false hc1
  refine W.seq (W.region ?_)
  iterate 2 refine RW.v ?_
  refine RW.both _ _ rfl rfl rfl (fun hc2 => ?_) (fun hc2 => ?_)
  ·have hc2b := hc2
   have hte := hc2b
   refine RW.val (by rfl) (by kernel_rfl) rfl (by kernel_rfl) ?_
   refine RW.len (by rfl) (by kernel_rfl) rfl rfl rfl rfl (h1.len (e := 9) (by kernel_rfl)) (by kernel_rfl) ?_
   refine RW.val (by rfl) (by kernel_rfl) rfl (by kernel_rfl) ?_
   iterate 2 refine RW.v ?_
   refine RW.nil ?_
   refine W.rg [(7, .bool (testC fold m s)), (16, .bool ((m.length : Int) == 1))] fun TA => ?_
   refine W.cond rfl (fun hc3 => ?_) (fun hc3 => ?_)
   ·have hc3b := hc3
    have hc3 := eq_of_beq hc3
    refine W.seq (W.region ?_)
    refine RW.v ?_
    refine RW.nil ?_
    refine W.ret ?_
    refine blkQ_ret ?_
    refine seqQ_ret ?_
    refine endG (by rfl) (by exact resL_tmp rfl) ?_
    have hne : m ≠ [] := (fun e => by have := congrArg List.length e; simp only [List.length_nil] at this; omega)
    rw [testC_any hd (hv hne)] at hte
    have e : statusC fold m s = 1 := by unfold statusC; rw [if_neg hne, hte]; exact (if_neg (by decide)).trans (if_pos (by omega))
    rw [e]
    exact ⟨rfl, H⟩
   ·have hc3b := hc3
    have hc3 := ne_of_beq_false hc3
    refine W.seq (W.region ?_)
    iterate 2 refine RW.v ?_
    refine RW.nil ?_
    refine W.rg [(23, .bool (testC fold m s))] fun TA => ?_
    refine W.cond (b := true) (congrArg Value.bool hc2b) (fun _ => ?_) (fun h => by cases h)
    refine W.seq (W.region ?_)
    refine RW.v ?_
    refine RW.nil ?_
    refine W.ret ?_
    refine blkQ_ret ?_
    refine seqQ_ret ?_
    refine endG (by rfl) (by exact resL_tmp rfl) ?_
    have hne : m ≠ [] := (fun e => by have := congrArg List.length e; simp only [List.length_nil] at this; omega)
    rw [testC_any hd (hv hne)] at hte
    have e : statusC fold m s = 2 := by unfold statusC; rw [if_neg hne, hte]; exact (if_neg (by decide)).trans (if_neg (by omega))
    rw [e]
    exact ⟨rfl, H⟩
  ·have hc2b := hc2
   have hte := hc2b
   refine RW.skip (by rfl) (by kernel_rfl) ?_
   refine RW.skip (by rfl) (by kernel_rfl) ?_
   refine RW.skip (by rfl) (by kernel_rfl) ?_
   iterate 2 refine RW.v ?_
   refine RW.nil ?_
   refine W.c0 ?_
   refine W.seq (W.region ?_)
   iterate 2 refine RW.v ?_
   refine RW.nil ?_
   refine W.rg [(23, .bool (testC fold m s))] fun TA => ?_
   refine W.cond (b := false) (congrArg Value.bool hc2b) (fun h => by cases h) (fun _ => ?_)
   refine W.skip ?_
   refine blkQ_normal ?_
   refine W.seq (W.region ?_)
   refine RW.v ?_
   refine RW.nil ?_
   refine W.ret ?_
   refine endG (by rfl) (by exact resL_tmp rfl) ?_
   have hne : m ≠ [] := (fun e => by have := congrArg List.length e; simp only [List.length_nil] at this; omega)
   rw [testC_any hd (hv hne)] at hte
   have e : statusC fold m s = 3 := by unfold statusC; rw [if_neg hne, hte]; rfl
   rw [e]
   exact ⟨rfl, H⟩
set_option maxHeartbeats 4000000 in
theorem r_try (h1 : SlF F 1 v1 l.length (l.map strV)) (hl : l.length ≤ 1000000) (hsm : ∀ s ∈ l, s.length ≤ 60000) (hs : s.length ≤ 60000) (H : Lies G A F σ L) : WC G Tryd.prog 21 #[v1, .string ⟨s.toArray⟩, .bool fold] σ fun v σ' => v = .tuple #[.string ⟨(tryC fold l s).toArray⟩, .int .i64 (statusC fold (allC fold l s) s)] ∧ Lies G A F σ' L := by
 obtain ⟨F0, hF⟩ : ∃ F0, F0 = F := ⟨_, rfl⟩
 have le0 : Le F0 F := fun b y h => hF ▸ h
 rw [← hF] at h1 ⊢
 refine WC.enter (fn := Tryd.f21) Tryd.func21 rfl ?_
 refine W.rg [(0, v1), (1, .string ⟨s.toArray⟩), (2, .bool fold)] fun TA => ?_
 refine W.seq (W.region ?_)
 iterate 2 refine RW.v ?_
 refine RW.nil ?_
 refine W.rg [(0, v1), (1, .string ⟨s.toArray⟩), (2, .bool fold)] fun TA => ?_
 refine W.seq (W.region ?_)
 iterate 3 refine RW.v ?_
 refine RW.cl ?_
 refine ((r_all (fold := fold) (h1.le le0) hl hsm hs H).mono ?_)
 clear H
 rintro m _ ⟨F, le, hm, H⟩
 replace le0 := fun b y h => le b y (le0 b y h)
 have hml : (allC fold l s).length ≤ 1000000 := Nat.le_trans allC_len hl
 have hmm : ∀ x ∈ allC fold l s, x.length ≤ 60000 := fun x hx => hsm x (allC_good.1 x hx).2
 refine RW.v ?_
 refine RW.nil ?_
 refine W.rg [(1, .string ⟨s.toArray⟩), (2, .bool fold), (8, m)] fun TA => ?_
 refine W.seq (W.region ?_)
 iterate 2 refine RW.v ?_
 refine RW.cl ?_
 refine ((r_common (fold := fold) hm hml hmm H).mono ?_)
 clear H
 rintro _ _ ⟨rfl, H⟩
 iterate 3 refine RW.v ?_
 refine RW.cl ?_
 refine ((r_status (fold := fold) hm hml hmm hs allC_dist (fun h => ext_valid h) H).mono ?_)
 clear H
 rintro _ _ ⟨rfl, H⟩
 iterate 2 refine RW.v ?_
 refine RW.nil ?_
 refine W.ret ?_
 refine endG (by rfl) (by exact resL_tmp (by exact resL_tmp rfl)) ?_
 exact ⟨rfl, (H).back le0⟩
set_option maxHeartbeats 8000000 in
theorem r_step (h1 : SlF F 1 v1 l.length (l.map strV)) (hl : l.length ≤ 1000000) (hsm : ∀ s ∈ l, s.length ≤ 60000) (hs : s.length ≤ 60000) (H : Lies G A F σ L) : WC G Tryd.prog 23 #[v1, .string ⟨s.toArray⟩, .bool fold] σ fun v σ' => v = .tuple #[.string ⟨(stepC fold l s).toArray⟩, .int .i64 (statusC fold (allC fold l s) s)] ∧ Lies G A F σ' L := by
 obtain ⟨F0, hF⟩ : ∃ F0, F0 = F := ⟨_, rfl⟩
 have le0 : Le F0 F := fun b y h => hF ▸ h
 rw [← hF] at h1 ⊢
 refine WC.enter (fn := Tryd.f23) Tryd.func23 rfl ?_
 refine W.rg [(0, v1), (1, .string ⟨s.toArray⟩), (2, .bool fold)] fun TA => ?_
 refine W.seq (W.region ?_)
 iterate 2 refine RW.v ?_
 refine RW.nil ?_
 refine W.rg [(0, v1), (1, .string ⟨s.toArray⟩), (2, .bool fold)] fun TA => ?_
 refine W.seq (W.region ?_)
 iterate 3 refine RW.v ?_
 refine RW.cl ?_
 refine ((r_try (fold := fold) (h1.le le0) hl hsm hs H).mono ?_)
 clear H
 rintro _ _ ⟨rfl, H⟩
 iterate 5 refine RW.v ?_
 refine RW.nil ?_
 refine W.rg [(1, .string ⟨s.toArray⟩), (8, .string ⟨(tryC fold l s).toArray⟩), (9, .int .i64 (statusC fold (allC fold l s) s))] fun TA => ?_
 refine W.seq (W.region ?_)
 refine RW.v ?_
 refine RW.cl ?_
 refine ((r_chars (Nat.le_trans (tryC_lenB hsm) (by decide)) H).mono ?_)
 clear H
 rintro cu1 _ ⟨F, _, le, rfl, hu2, H⟩
 replace le0 := fun b y h => le b y (le0 b y h)
 rw [chars_yes tryC_valid] at hu2
 obtain ⟨C, hC⟩ : ∃ C, C = runes (tryC fold l s) := ⟨_, rfl⟩
 rw [← hC] at hu2
 have hcl : C.length ≤ 60000 := by rw [hC]; exact Nat.le_trans (runes_le _) (tryC_lenB hsm)
 refine RW.v ?_
 refine RW.nil ?_
 refine W.rg [(1, .string ⟨s.toArray⟩), (8, .string ⟨(tryC fold l s).toArray⟩), (9, .int .i64 (statusC fold (allC fold l s) s)), (10, cu1)] fun TA => ?_
 refine W.seq ?_
 refine W.seq (W.region ?_)
 refine RW.v ?_
 refine RW.cl ?_
 refine ((r_chars (Nat.le_trans hs (by decide)) H).mono ?_)
 clear H
 rintro cu3 _ ⟨F, _, le, rfl, hu4, H⟩
 replace le0 := fun b y h => le b y (le0 b y h)
 replace hu2 := hu2.le le
 have hsl : (charsM s).length ≤ 60000 := charsM_le hs
 refine RW.len (by kernel_rfl) (by kernel_rfl) rfl rfl rfl rfl (hu4.slf.len (e := 3) (by kernel_rfl)) (by kernel_rfl) ?_
 refine RW.v ?_
 refine RW.nil ?_
 refine W.rg [(8, .string ⟨(tryC fold l s).toArray⟩), (9, .int .i64 (statusC fold (allC fold l s) s)), (10, cu1), (11, .int .i64 ((charsM s).length : Int))] fun TA => ?_
 refine W.block ?_
 refine W.loop (fun mm ta σ => ∃ (i : Nat), (C.length ≤ mm + i) ∧ (cutG C C.length (charsM s).length = cutG C mm i) ∧ Lies G A F σ ((L)) ∧ ta 8 = .string ⟨(tryC fold l s).toArray⟩ ∧ ta 9 = .int .i64 (statusC fold (allC fold l s) s) ∧ ta 10 = cu1 ∧ ta 11 = .int .i64 ((i : Nat) : Int)) C.length ?_ ?_
 ·exact ⟨(charsM s).length, (by omega), rfl, H, rfl, rfl, rfl, rfl⟩
 clear H
 rintro mm ta _ ⟨i, hm, hT, H, e8, e9, e10, e11⟩
 refine W.rst [(8, .string ⟨(tryC fold l s).toArray⟩), (9, .int .i64 (statusC fold (allC fold l s) s)), (10, cu1), (11, .int .i64 ((i : Nat) : Int))] ⟨e8, e9, e10, e11, trivial⟩ fun TA => ?_
 clear e8 e9 e10 e11
 refine W.seq ?_
 refine W.seq (W.region ?_)
 iterate 2 refine RW.v ?_
 refine RW.len (by kernel_rfl) (by kernel_rfl) rfl rfl rfl rfl (hu2.slf.len (e := 3) (by kernel_rfl)) (by kernel_rfl) ?_
 refine RW.v ?_
 refine RW.nil ?_
 refine W.rg [(8, .string ⟨(tryC fold l s).toArray⟩), (9, .int .i64 (statusC fold (allC fold l s) s)), (10, cu1), (11, .int .i64 ((i : Nat) : Int)), (27, .bool (decide (((i : Nat) : Int) < (C.length : Int))))] fun TA => ?_
 refine W.cond rfl (fun hc5 => ?_) (fun hc5 => ?_)
 ·have hc5b := hc5
  have hc5 := of_decide_eq_true hc5
  have hil : i < C.length := by omega
  refine W.skip ?_
  refine W.seq ?_
  refine W.block ?_
  refine W.seq (W.region ?_)
  iterate 2 refine RW.v ?_
  refine RW.idxF hu2.slf (by kernel_rfl) (by kernel_rfl) rfl Tryd.underlying59 (by kernel_rfl) rfl rfl ⟨by omega, by omega⟩ (by kernel_rfl) ?_
  intro b6 q7 r8 hF9 hE10
  rw [intz_at (l := C) (j := i) (i := ((i : Nat) : Int)) (by omega) (by omega)] at hE10
  refine RW.loads 1 (by kernel_rfl) (by kernel_rfl) rfl rfl (H.old _ _ hF9) hE10 rfl (by kernel_rfl) ?_
  refine RW.cl ?_
  refine ((r_delim (c := C.getD i 0) H).mono ?_)
  clear H
  rintro _ _ ⟨rfl, H⟩
  refine RW.nil ?_
  refine W.rg [(8, .string ⟨(tryC fold l s).toArray⟩), (9, .int .i64 (statusC fold (allC fold l s) s)), (10, cu1), (11, .int .i64 ((i : Nat) : Int)), (34, .bool (delC (C.getD i 0)))] fun TA => ?_
  refine W.cond rfl (fun hc11 => ?_) (fun hc11 => ?_)
  ·have hc11b := hc11
   refine W.seq (W.region ?_)
   iterate 2 refine RW.v ?_
   refine RW.valE (v' := .int .i64 (((i : Nat) : Int) + 1)) (by kernel_rfl) (by kernel_rfl) rfl (congrArg (Value.int .i64) (wrap_in (by omega) (by omega))) (by kernel_rfl) ?_
   obtain ⟨sv, hsv, hks⟩ := slk_cut (P := Tryd.prog) (t := 59) (e := 3) (i := i + 1) hu2 (by kernel_rfl) (by kernel_rfl) (by omega)
   have hks2 : SlF F 1 sv (C.take (i + 1)).length ((C.take (i + 1)).map (Value.int .i64)) := by rw [Nat.mul_one] at hks; rw [List.length_take, Nat.min_eq_left (by omega), List.map_take]; exact hks.slf
   rw [show ((i + 1 : Nat) : Int) = ((i : Nat) : Int) + 1 from by omega] at hsv
   refine RW.vop (v := sv) (by kernel_rfl) (by kernel_rfl) (vop_slice rfl hsv) (by kernel_rfl) ?_
   have hcb : ∀ c ∈ C, chB c = true := by rw [hC]; exact tryC_chars
   refine RW.cl ?_
   refine ((r_text hks2 (by rw [List.length_take]; omega) (fun c h => hcb c (List.mem_of_mem_take h)) H).mono ?_)
   clear H
   rintro _ _ ⟨rfl, H⟩
   iterate 3 refine RW.v ?_
   refine RW.nil ?_
   refine W.ret ?_
   refine blkQ_ret ?_
   refine seqQ_ret ?_
   refine rndQ_ret ?_
   refine blkQ_ret ?_
   refine seqQ_ret ?_
   refine endG (by rfl) (by exact resL_tmp (by exact resL_tmp rfl)) ?_
   have e0 := step_start (fold := fold) (l := l) (s := s)
   rw [← hC] at e0
   have ec : cutG C C.length (runes s).length = some (i + 1) := by rw [← e0, hT, cutG_stop hil hc11b (by omega)]
   have es : stepC fold l s = encA (C.take (i + 1)) := by unfold stepC; rw [← hC, ec]
   rw [es]
   exact ⟨rfl, (H).back le0⟩
  ·have hc11b := hc11
   refine W.skip ?_
   refine blkQ_normal ?_
   refine W.region ?_
   refine RW.v ?_
   refine RW.valE (v' := .int .i64 (((i : Nat) : Int) + 1)) (by kernel_rfl) (by kernel_rfl) rfl (congrArg (Value.int .i64) (wrap_in (by omega) (by omega))) (by kernel_rfl) ?_
   refine RW.v ?_
   refine RW.nil ?_
   exact ⟨rfl, mm - 1, by omega, i + 1, (by omega), (by rw [hT, cutG_go hil hc11b]), H, rfl, rfl, rfl, rfl⟩
 ·have hc5b := hc5
  have hc5 := of_decide_eq_false hc5
  refine W.exit _ ?_
  refine seqQ_exit ?_
  refine rndQ_exit ?_
  refine blkQ_here ?_
  refine W.seq (W.region ?_)
  iterate 4 refine RW.v ?_
  refine RW.nil ?_
  refine W.ret ?_
  refine endG (by rfl) (by exact resL_tmp (by exact resL_tmp rfl)) ?_
  have e0 := step_start (fold := fold) (l := l) (s := s)
  rw [← hC] at e0
  have ec : cutG C C.length (runes s).length = none := by rw [← e0, hT, cutG_end (by omega)]
  have es : stepC fold l s = (tryC fold l s) := by unfold stepC; rw [← hC, ec]
  rw [es]
  exact ⟨rfl, (H).back le0⟩
end
end Go.Proofs.YtjcmdifpkafdkaaDoor
namespace Go.Proofs.YtjcmdifpkafdkaaDoor
open Go.Lib
set_option maxRecDepth 100000
set_option maxHeartbeats 16000000 in
theorem prefixes_law {G : Nat} {σ0 : Mem} {v1 : Value} {l : List (List UInt8)} {s : List UInt8} {fold : Bool} (hG : G ≤ σ0.next) (hno : σ0.abs = Abs.no) (h16 : 16 ≤ G) (hU : U8F σ0.get) (CK : ∀ σ', (∀ b y, σ0.get b = some y → σ'.get b = some y) → SCall G Tryd.prog 11 #[] σ' (.bool true) σ') (hl0 : l.length ≤ 9223372036854775807) (h1 : SlF σ0.get 1 v1 l.length (l.map strV)) :
  WC G Tryd.prog 4 #[v1, .string ⟨s.toArray⟩, .bool fold] σ0 fun v _ => v = .bool true := by
 have H := Lies.start hG hno
 generalize σ0.get = F0 at H h1 hU CK
 obtain ⟨F, hF⟩ : ∃ F, F = F0 := ⟨_, rfl⟩
 have le0 : Le F0 F := fun b y h => hF ▸ h
 rw [← hF] at H
 clear hF
 refine WC.enter (fn := Tryd.f4) Tryd.func4 rfl ?_
 refine W.rg [(0, v1), (1, .string ⟨s.toArray⟩), (2, .bool fold)] fun TA => ?_
 refine W.seq (W.region ?_)
 refine RW.v ?_
 refine RW.nil ?_
 refine W.rg [(0, v1), (1, .string ⟨s.toArray⟩), (2, .bool fold)] fun TA => ?_
 refine W.seq ?_
 refine W.seq (W.region ?_)
 iterate 2 refine RW.v ?_
 refine RW.cl ?_
 refine ((light_wc (h1.le le0) hl0 H).mono ?_)
 clear H
 rintro _ _ ⟨lb, rfl, hlb, H⟩
 refine RW.v ?_
 refine RW.nil ?_
 refine W.rg [(0, v1), (1, .string ⟨s.toArray⟩), (2, .bool fold), (20, .bool (!lb))] fun TA => ?_
 refine W.cond rfl (fun hc1 => ?_) (fun hc1 => ?_)
 ·have hc1b := hc1
  refine W.seq (W.region ?_)
  refine RW.cl ?_
  refine ⟨_, _, (CK _ fun b y h => H.old _ _ (le0 b y h)), ?_⟩
  refine RW.v ?_
  refine RW.nil ?_
  refine W.ret ?_
  refine seqQ_ret ?_
  refine endG (by rfl) (by exact resL_tmp rfl) ?_
  exact rfl
 ·have hc1b := hc1
  obtain ⟨hl40, hx60, hs60⟩ := hlb (by simpa using hc1b)
  have hl : l.length ≤ 1000000 := by omega
  have hsm : ∀ x ∈ l, x.length ≤ 1000000 := fun x hx => Nat.le_trans (hx60 x hx) (by decide)
  have hs : s.length ≤ 1000000 := by omega
  have hsmB : ∀ x ∈ l, x.length ≤ 60000 := fun x hx => Nat.le_trans (hx60 x hx) (by decide)
  have hsB : s.length ≤ 60000 := by omega
  refine W.skip ?_
  refine W.seq (W.region ?_)
  refine RW.v ?_
  refine RW.cl ?_
  refine ((own_wcS (h1.le le0) hl H).mono ?_)
  clear H
  rintro iv _ ⟨F, le, hin, H⟩
  replace le0 := fun b y h => le b y (le0 b y h)
  obtain ⟨n, hn⟩ : ∃ n, n = statusC fold (allC fold l s) s := ⟨_, rfl⟩
  refine RW.v ?_
  refine RW.nil ?_
  refine W.rg [(0, v1), (1, .string ⟨s.toArray⟩), (2, .bool fold), (7, iv)] fun TA => ?_
  refine W.seq (W.region ?_)
  iterate 3 refine RW.v ?_
  refine RW.cl ?_
  refine ((Try_wc (fold := fold) (hU.le le0) h16 hin hl hsm hs H).mono ?_)
  clear H
  rintro _ _ ⟨rfl, H⟩
  rw [← hn]
  iterate 5 refine RW.v ?_
  refine RW.nil ?_
  refine W.rg [(0, v1), (1, .string ⟨s.toArray⟩), (2, .bool fold), (7, iv), (8, .string ⟨(tryC fold l s).toArray⟩), (9, .int .i64 n)] fun TA => ?_
  refine W.seq (W.region ?_)
  iterate 3 refine RW.v ?_
  refine RW.cl ?_
  refine ((r_try (fold := fold) (h1.le le0) hl hsmB hsB H).mono ?_)
  clear H
  rintro _ _ ⟨rfl, H⟩
  rw [← hn]
  iterate 5 refine RW.v ?_
  refine RW.nil ?_
  refine W.rg [(0, v1), (1, .string ⟨s.toArray⟩), (2, .bool fold), (7, iv), (8, .string ⟨(tryC fold l s).toArray⟩), (9, .int .i64 n), (10, .string ⟨(tryC fold l s).toArray⟩), (11, .int .i64 n)] fun TA => ?_
  refine W.seq (W.region ?_)
  iterate 3 refine RW.v ?_
  refine RW.cl ?_
  refine ((Step_wc (fold := fold) (hU.le le0) h16 hin hl hsm hs H).mono ?_)
  clear H
  rintro _ _ ⟨rfl, H⟩
  rw [← hn]
  iterate 5 refine RW.v ?_
  refine RW.nil ?_
  refine W.rg [(0, v1), (1, .string ⟨s.toArray⟩), (2, .bool fold), (7, iv), (8, .string ⟨(tryC fold l s).toArray⟩), (9, .int .i64 n), (10, .string ⟨(tryC fold l s).toArray⟩), (11, .int .i64 n), (12, .string ⟨(stepC fold l s).toArray⟩), (13, .int .i64 n)] fun TA => ?_
  refine W.seq (W.region ?_)
  iterate 3 refine RW.v ?_
  refine RW.cl ?_
  refine ((r_step (fold := fold) (h1.le le0) hl hsmB hsB H).mono ?_)
  clear H
  rintro _ _ ⟨rfl, H⟩
  rw [← hn]
  iterate 5 refine RW.v ?_
  refine RW.nil ?_
  refine W.rg [(0, v1), (1, .string ⟨s.toArray⟩), (2, .bool fold), (7, iv), (8, .string ⟨(tryC fold l s).toArray⟩), (9, .int .i64 n), (10, .string ⟨(tryC fold l s).toArray⟩), (11, .int .i64 n), (12, .string ⟨(stepC fold l s).toArray⟩), (13, .int .i64 n), (14, .string ⟨(stepC fold l s).toArray⟩), (15, .int .i64 n)] fun TA => ?_
  refine W.seq (W.region ?_)
  iterate 3 refine RW.v ?_
  refine RW.cl ?_
  refine ((All_wc (fold := fold) (hU.le le0) h16 hin hl hsm hs H).mono ?_)
  clear H
  rintro u1 _ ⟨F, le, hu1, H⟩
  replace le0 := fun b y h => le b y (le0 b y h)
  replace hin := hin.le le
  iterate 3 refine RW.v ?_
  refine RW.cl ?_
  refine ((r_all (fold := fold) (h1.le le0) hl hsmB hsB H).mono ?_)
  clear H
  rintro u2 _ ⟨F, le, hu2, H⟩
  replace le0 := fun b y h => le b y (le0 b y h)
  replace hin := hin.le le
  replace hu1 := hu1.le le
  refine RW.cl ?_
  refine ((same_wcS hu1 hu2 (Nat.le_trans allC_len hl) H).mono ?_)
  clear H
  rintro _ _ ⟨rfl, H⟩
  rw [decide_eq_true rfl]
  refine RW.v ?_
  refine RW.val (by rfl) (by kernel_rfl) rfl (by kernel_rfl) ?_
  refine RW.val (by rfl) (by kernel_rfl) rfl (by kernel_rfl) ?_
  refine RW.cl (hw := by rfl) ?_
  refine ((Common_wc (fold := fold) (hU.le le0) h16 hin hl hsm H).mono ?_)
  clear H
  rintro _ _ ⟨rfl, H⟩
  refine RW.val (by rfl) (by kernel_rfl) rfl (by kernel_rfl) ?_
  refine RW.val (by rfl) (by kernel_rfl) rfl (by kernel_rfl) ?_
  refine RW.cl (hw := by rfl) ?_
  refine ((r_common (fold := fold) (h1.le le0) hl hsmB H).mono ?_)
  clear H
  rintro _ _ ⟨rfl, H⟩
  refine RW.vop (v := .bool true) (by rfl) (by kernel_rfl) (vop_sEq rfl rfl rfl (beq_self_eq_true _)) (by kernel_rfl) ?_
  iterate 2 refine RW.v ?_
  refine RW.val (by rfl) (by kernel_rfl) rfl (by kernel_rfl) ?_
  refine RW.val (by rfl) (by kernel_rfl) rfl (by kernel_rfl) ?_
  refine RW.val (by rfl) (by kernel_rfl) rfl (by kernel_rfl) ?_
  refine RW.cl (hw := by rfl) ?_
  refine ((Test_wc (fold := fold) (hU.le le0) h16 hin hl hsm hs H).mono ?_)
  clear H
  rintro _ _ ⟨rfl, H⟩
  refine RW.val (by rfl) (by kernel_rfl) rfl (by kernel_rfl) ?_
  refine RW.val (by rfl) (by kernel_rfl) rfl (by kernel_rfl) ?_
  refine RW.val (by rfl) (by kernel_rfl) rfl (by kernel_rfl) ?_
  refine RW.cl (hw := by rfl) ?_
  refine ((r_test (fold := fold) (h1.le le0) hl hsmB hsB H).mono ?_)
  clear H
  rintro _ _ ⟨rfl, H⟩
  refine RW.valE (v' := .bool true) (by rfl) (by kernel_rfl) rfl (by cases (testC fold l s) <;> rfl) (by kernel_rfl) ?_
  iterate 2 refine RW.v ?_
  refine RW.nil ?_
  refine W.rg [(0, v1), (7, iv), (8, .string ⟨(tryC fold l s).toArray⟩), (9, .int .i64 n), (10, .string ⟨(tryC fold l s).toArray⟩), (11, .int .i64 n), (12, .string ⟨(stepC fold l s).toArray⟩), (13, .int .i64 n), (14, .string ⟨(stepC fold l s).toArray⟩), (15, .int .i64 n), (16, .bool true)] fun TA => ?_
  refine W.seq (W.region ?_)
  iterate 2 refine RW.v ?_
  refine RW.val (by rfl) (by kernel_rfl) rfl (by kernel_rfl) ?_
  refine RW.val (by rfl) (by kernel_rfl) rfl (by kernel_rfl) ?_
  refine RW.vop (v := .bool true) (by rfl) (by kernel_rfl) (vop_sEq rfl rfl rfl (beq_self_eq_true _)) (by kernel_rfl) ?_
  iterate 2 refine RW.v ?_
  refine RW.val (by rfl) (by kernel_rfl) rfl (by kernel_rfl) ?_
  refine RW.val (by rfl) (by kernel_rfl) rfl (by kernel_rfl) ?_
  refine RW.valE (v' := .bool true) (by rfl) (by kernel_rfl) rfl (congrArg Value.bool (beq_iff_eq.2 (by rfl))) (by kernel_rfl) ?_
  iterate 2 refine RW.v ?_
  refine RW.val (by rfl) (by kernel_rfl) rfl (by kernel_rfl) ?_
  refine RW.val (by rfl) (by kernel_rfl) rfl (by kernel_rfl) ?_
  refine RW.vop (v := .bool true) (by rfl) (by kernel_rfl) (vop_sEq rfl rfl rfl (beq_self_eq_true _)) (by kernel_rfl) ?_
  iterate 2 refine RW.v ?_
  refine RW.val (by rfl) (by kernel_rfl) rfl (by kernel_rfl) ?_
  refine RW.val (by rfl) (by kernel_rfl) rfl (by kernel_rfl) ?_
  refine RW.valE (v' := .bool true) (by rfl) (by kernel_rfl) rfl (congrArg Value.bool (beq_iff_eq.2 (by rfl))) (by kernel_rfl) ?_
  iterate 2 refine RW.v ?_
  refine RW.val (by rfl) (by kernel_rfl) rfl (by kernel_rfl) ?_
  refine RW.val (by rfl) (by kernel_rfl) rfl (by kernel_rfl) ?_
  refine RW.cl (hw := by rfl) ?_
  refine ((same_wcS hin (h1.le le0) hl H).mono ?_)
  clear H
  rintro _ _ ⟨rfl, H⟩
  rw [decide_eq_true rfl]
  iterate 2 refine RW.v ?_
  refine RW.cl (hw := by rfl) ?_
  refine ⟨_, _, (CK _ fun b y h => H.old _ _ (le0 b y h)), ?_⟩
  iterate 2 refine RW.v ?_
  refine RW.nil ?_
  refine W.ret ?_
  refine endG (by rfl) (by exact resL_tmp rfl) ?_
  exact rfl
end Go.Proofs.YtjcmdifpkafdkaaDoor
