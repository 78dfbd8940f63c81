/-
 Text. Conditions: none.
-/
import Derived.Test.YthemeeiedlbhkaaDoorNek
import Derived.Test.YthemeeiedlbhkaaDoorNeh
import Derived.Test.YthemeeiedlbhkaaDoorL3
namespace Go.Proofs.YthemeeiedlbhkaaDoor
open Go.Lib
set_option maxRecDepth 100000
theorem need_at {l : List Need} {j : Nat} {i : Int} (hi : i = ((j : Nat) : Int)) (h : j < l.length) : ((needC l).drop (i.toNat * 2)).take 2 = [.int .i64 (gD l j).1, .string ⟨(gD l j).2.toArray⟩] := by
 subst hi
 exact rowX_at (cel := celN) (fun _ => rfl) h
theorem gD_get {l : List Need} {i : Nat} (h : i < l.length) : gD l i = l[i] := by
 unfold gD
 rw [List.getD_eq_getElem?_getD, List.getElem?_eq_getElem h]
 rfl
theorem gD_mem {l : List Need} {i : Nat} (h : i < l.length) : gD l i ∈ l := g_mem h
theorem take_gD {l : List Need} {i : Nat} (h : i < l.length) : l.take (i + 1) = l.take i ++ [gD l i] := by
 rw [gD_get h, List.take_add_one, List.getElem?_eq_getElem h]
 rfl
theorem all_snoc {l : List Need} {i : Nat} (h : i < l.length) (h1 : (l.take i).all needB = true) (h2 : needB (gD l i) = true) : (l.take (i + 1)).all needB = true := by
 rw [take_gD h, List.all_append, h1]
 simp [h2]
theorem more_snoc (r : List Need) (n : Need) : moreN (r ++ [n]) = moreN r ++ 10 :: lineN n := by
 unfold moreN
 rw [List.flatMap_append]
 simp
theorem join_cat {r : List Need} (n : Need) (h : r ≠ []) : joinN (r ++ [n]) = joinN r ++ 10 :: lineN n := by
 cases r with
 | nil => exact absurd rfl h
 | cons m r =>
  show lineN m ++ moreN (r ++ [n]) = (lineN m ++ moreN r) ++ _
  rw [more_snoc, List.append_assoc]
theorem join_snoc {l : List Need} {i : Nat} (h : i < l.length) (h0 : 0 < i) : joinN (l.take (i + 1)) = joinN (l.take i) ++ 10 :: lineN (gD l i) := by
 rw [take_gD h, join_cat]
 exact List.length_pos_iff.1 (by rw [List.length_take]; omega)
theorem join_first {l : List Need} {i : Nat} (h : i < l.length) (h0 : i = 0) : joinN (l.take (i + 1)) = joinN (l.take i) ++ lineN (gD l i) := by
 subst h0
 rw [take_gD h]
 show lineN _ ++ [] = [] ++ lineN _
 rw [List.append_nil, List.nil_append]
theorem enc_small {c : Int} (h0 : 0 ≤ c) (h1 : c ≤ 127) : encodeRune c = [c.toNat.toUInt8] := by
 unfold encodeRune
 rw [encodeRuneZ_one h0 h1]
 rfl
theorem line_one {n : Need} (h : n.1 ∈ codeL) : lineN n = n.1.toNat.toUInt8 :: n.2 := by
 unfold lineN
 rw [enc_small (codes_ok h).2.2.2.1 (codes_ok h).2.2.2.2]
 rfl
theorem need_good {n : Need} (h1 : n.1 ∈ codeL) (h2 : validD n.2 = true) (h3 : (runes n.2).contains 10 = false) : needB n = true := by
 unfold needB
 rw [decide_eq_true h1, h2, h3]
 rfl
theorem need_bad {n : Need} (h : n.1 ∉ codeL ∨ validD n.2 = false ∨ (runes n.2).contains 10 = true) : needB n = false := by
 unfold needB
 rcases h with h | h | h
 ·rw [decide_eq_false h]; rfl
 ·rw [h, Bool.and_false]; rfl
 ·rw [h]; simp
theorem text_noN {l : List Need} {w e h : Bool} {i : Nat} (hi : i < l.length) (hb : needB (gD l i) = false) : textM ⟨w, e, h, l⟩ = ([], 5) := by
 unfold textM
 rw [if_neg]
 intro k
 rw [List.all_eq_true.1 k _ (gD_mem hi)] at hb
 cases hb
theorem text_okN {l : List Need} {w e h : Bool} {bs : List UInt8} (ha : l.all needB = true) (hb : bs = flagsT w e h ++ joinN l) : textM ⟨w, e, h, l⟩ = (bs, 0) := by
 unfold textM
 rw [if_pos ha, hb]
theorem snoc_ne' (X : List UInt8) (x : UInt8) : X ++ [x] ≠ [] := by simp
theorem s_contN {G : Nat} {σ : Mem} {b : List UInt8} (hv : validD b = true) : SCall G Tryd.prog 38 #[.string ⟨b.toArray⟩, .string ⟨#[10]⟩] σ (.bool ((runes b).contains 10)) σ := by
 have h := s_cont (G := G) (σ := σ) (bs := b) (b := 10)
 have e : decide (0 ≤ Lib.indexByte b 10) = (runes b).contains 10 := by
  rw [ixb_in]
  have k := encA_ten (valid_ch hv)
  rw [valid_eq hv] at k
  by_cases hm : (10 : Int) ∈ runes b
  ·rw [List.contains_iff_mem.2 hm]; exact decide_eq_true (k.2 hm)
  ·rw [Bool.eq_false_iff.2 fun q => hm (List.contains_iff_mem.1 q)]; exact decide_eq_false fun q => hm (k.1 q)
 rw [e] at h
 exact h
set_option maxHeartbeats 8000000 in
theorem text_wc {G : Nat} {A : Abs} {σ : Mem} {F : Nat → Option Blk2} {L : List Ent} {xv : Value} {xw xe xh : Bool} {l : List Need} (hU : U8F F) (h16 : 16 ≤ G) (h64 : 64 ≤ G) (hx : SlF F 2 xv l.length (needC l)) (hll : l.length ≤ 300) (hpr : ∀ n ∈ l, n.2.length ≤ 1000) (H : Lies G A F σ L) : WC G Tryd.prog 9 #[.agg #[.bool xw, .bool xe, .bool xh, xv]] σ fun v σ' => v = .tuple #[.string ⟨(textM ⟨xw, xe, xh, l⟩).1.toArray⟩, .int .i64 (textM ⟨xw, xe, xh, l⟩).2] ∧ Lies G A F σ' L := by
 refine WC.enter (fn := Tryd.f9) Tryd.func9 rfl ?_
 refine W.rg [(0, .agg #[.bool xw, .bool xe, .bool xh, xv])] fun TA => ?_
 refine W.seq (W.region ?_)
 refine RW.mkL H (x := .row ⟨[.bool xw, .bool xe, .bool xh, xv], 24, false⟩) (fm := fun b => .pointer (some ⟨b, 0, none⟩)) (by kernel_rfl) (by kernel_rfl) (by rcases slf_forms hx with rfl | ⟨_, rfl⟩ | ⟨_, _, _, _, _, rfl⟩ <;> kernel_rfl) (by kernel_rfl) ?_
 clear H; intro _ b1 _ H
 iterate 2 refine RW.v ?_
 refine RW.nil ?_
 refine W.rg [(1, .pointer (some ⟨b1, 0, none⟩))] fun TA => ?_
 refine W.seq (W.region ?_)
 refine RW.mk H (.row ⟨[.pointer none, .slice none 0 0], 83, false⟩) ?_
 clear H; intro _ b2 _ H
 refine RW.nil ?_
 refine W.rg [(1, .pointer (some ⟨b1, 0, none⟩)), (4, .pointer (some ⟨b2, 0, none⟩))] fun TA => ?_
 refine W.seq ?_
 refine W.seq (W.region ?_)
 refine RW.v ?_
 refine RW.ld H 1 1 ?_
 refine RW.v ?_
 refine RW.ld H 1 1 ?_
 refine RW.v ?_
 refine RW.ld H 1 1 ?_
 refine RW.mkL H (x := .row ⟨[.bool xw, .bool xe, .bool xh], 4, false⟩) (fm := fun b => .slice (some ⟨b, 0, none⟩) 3 3) (by kernel_rfl) (by kernel_rfl) (by kernel_rfl) (by kernel_rfl) ?_
 clear H; intro _ b3 _ H
 iterate 2 refine RW.v ?_
 refine RW.nil ?_
 refine W.rg [(1, .pointer (some ⟨b1, 0, none⟩)), (4, .pointer (some ⟨b2, 0, none⟩)), (15, .slice (some ⟨b3, 0, none⟩) 3 3), (16, .int .i64 3), (17, .int .i64 0)] fun TA => ?_
 refine W.block ?_
 refine W.unroll (WL.once ?_)
 refine W.seq (W.region ?_)
 refine RW.v ?_
 refine RW.nil ?_
 refine W.rg [(1, .pointer (some ⟨b1, 0, none⟩)), (4, .pointer (some ⟨b2, 0, none⟩)), (15, .slice (some ⟨b3, 0, none⟩) 3 3), (16, .int .i64 3), (17, .int .i64 0), (18, .bool true)] fun TA => ?_
 refine W.seq ?_
 refine W.c1 ?_
 refine W.skip ?_
 replace H := H.nilSl 5 1
 refine W.join (fun ta σ => ∃ (bs : List UInt8) (ad : Value) (u : Value), (bs = ([] : List UInt8) ++ (if xw = true then [42] else [])) ∧ (ad = .pointer none ∨ ad = .pointer (some ⟨b2, 0, none⟩)) ∧ (bs = [] → u = .slice none 0 0) ∧ (bs.length ≤ 1) ∧ Lies G A F σ (.sl 5 1 u bs.length (bs.map byteV) :: .at_ b2 (.row ⟨[ad, u], 83, false⟩) :: .at_ b3 (.row ⟨[.bool xw, .bool xe, .bool xh], 4, false⟩) :: .at_ b1 (.row ⟨[.bool xw, .bool xe, .bool xh, xv], 24, false⟩) :: (L)) ∧ ta 1 = .pointer (some ⟨b1, 0, none⟩) ∧ ta 4 = .pointer (some ⟨b2, 0, none⟩) ∧ ta 15 = .slice (some ⟨b3, 0, none⟩) 3 3 ∧ ta 16 = .int .i64 3 ∧ ta 17 = .int .i64 0) ?_ ?_
 ·refine W.block ?_
  refine W.seq (W.region ?_)
  refine RW.v ?_
  refine RW.idx (s := 1) (by kernel_rfl) (by kernel_rfl) rfl Tryd.underlying84 (by kernel_rfl) rfl rfl ⟨by decide, by decide⟩ (by kernel_rfl) ?_
  refine RW.ld H 1 1 ?_
  iterate 2 refine RW.v ?_
  refine RW.nil ?_
  refine W.rg [(1, .pointer (some ⟨b1, 0, none⟩)), (4, .pointer (some ⟨b2, 0, none⟩)), (5, .int .i64 0), (6, .bool xw), (15, .slice (some ⟨b3, 0, none⟩) 3 3), (16, .int .i64 3), (17, .int .i64 0)] fun TA => ?_
  refine W.seq (W.region ?_)
  refine RW.v ?_
  refine RW.nil ?_
  refine W.rg [(1, .pointer (some ⟨b1, 0, none⟩)), (4, .pointer (some ⟨b2, 0, none⟩)), (5, .int .i64 0), (15, .slice (some ⟨b3, 0, none⟩) 3 3), (16, .int .i64 3), (17, .int .i64 0), (22, .bool xw)] fun TA => ?_
  refine W.cond rfl (fun hc4 => ?_) (fun hc4 => ?_)
  ·have hc4b := hc4
   refine W.region ?_
   refine RW.v ?_
   refine RW.vop (v := .int .u8 (((42 : UInt8).toNat : Nat) : Int)) (by kernel_rfl) (by kernel_rfl) (vop_sAtL (a := [42, 64, 94]) (j := 0) rfl rfl rfl Tryd.underlying9 (by decide)) (by kernel_rfl) ?_
   replace H := H.front 2 rfl
   dsimp only [setL, delL] at H
   replace H := H.front 1 rfl
   dsimp only [setL, delL] at H
   refine RW.cl ?_
   refine ((p_wbyte (bs := ([] : List UInt8)) (x := 42) (.inl rfl) (by decide) H).mono ?_)
   clear H
   rintro _ _ ⟨u5, H⟩
   refine RW.nil ?_
   refine blkQ_normal ?_
   exact ⟨rfl, rfl, (([] : List UInt8) ++ [42]), .pointer (some ⟨b2, 0, none⟩), u5, (by rw [if_pos hc4b]), (.inr rfl), (fun e => absurd e (by simp)), (by decide), H, rfl, rfl, rfl, rfl, rfl⟩
  ·have hc4b := hc4
   refine W.skip ?_
   refine blkQ_normal ?_
   replace H := H.front 3 rfl
   dsimp only [delL] at H
   replace H := H.front 2 rfl
   dsimp only [delL] at H
   replace H := H.front 3 rfl
   dsimp only [delL] at H
   replace H := H.front 3 rfl
   dsimp only [delL] at H
   exact ⟨rfl, rfl, ([] : List UInt8), .pointer none, .slice none 0 0, (by rw [if_neg (show ¬ xw = true from by rw [hc4b]; exact Bool.noConfusion), List.append_nil]), (.inl rfl), (fun _ => rfl), (by decide), H, rfl, rfl, rfl, rfl, rfl⟩
 clear H
 rintro ta _ ⟨bs, ad, u, hb, had, hz, hbl, H, e1, e4, e15, e16, e17⟩
 refine W.rst [(1, .pointer (some ⟨b1, 0, none⟩)), (4, .pointer (some ⟨b2, 0, none⟩)), (15, .slice (some ⟨b3, 0, none⟩) 3 3), (16, .int .i64 3), (17, .int .i64 0)] ⟨e1, e4, e15, e16, e17, trivial⟩ fun TA => ?_
 clear e1 e4 e15 e16 e17
 refine W.region ?_
 iterate 2 refine RW.v ?_
 refine RW.nil ?_
 refine WL.once ?_
 refine W.rg [(1, .pointer (some ⟨b1, 0, none⟩)), (4, .pointer (some ⟨b2, 0, none⟩)), (15, .slice (some ⟨b3, 0, none⟩) 3 3), (16, .int .i64 3), (17, .int .i64 1)] fun TA => ?_
 refine W.seq (W.region ?_)
 refine RW.v ?_
 refine RW.nil ?_
 refine W.rg [(1, .pointer (some ⟨b1, 0, none⟩)), (4, .pointer (some ⟨b2, 0, none⟩)), (15, .slice (some ⟨b3, 0, none⟩) 3 3), (16, .int .i64 3), (17, .int .i64 1), (18, .bool true)] fun TA => ?_
 refine W.seq ?_
 refine W.c1 ?_
 refine W.skip ?_
 refine W.join (fun ta σ => ∃ (bs : List UInt8) (ad : Value) (u : Value), (bs = (([] : List UInt8) ++ (if xw = true then [42] else [])) ++ (if xe = true then [64] else [])) ∧ (ad = .pointer none ∨ ad = .pointer (some ⟨b2, 0, none⟩)) ∧ (bs = [] → u = .slice none 0 0) ∧ (bs.length ≤ 2) ∧ Lies G A F σ (.sl 5 1 u bs.length (bs.map byteV) :: .at_ b2 (.row ⟨[ad, u], 83, false⟩) :: .at_ b3 (.row ⟨[.bool xw, .bool xe, .bool xh], 4, false⟩) :: .at_ b1 (.row ⟨[.bool xw, .bool xe, .bool xh, xv], 24, false⟩) :: (L)) ∧ ta 1 = .pointer (some ⟨b1, 0, none⟩) ∧ ta 4 = .pointer (some ⟨b2, 0, none⟩) ∧ ta 15 = .slice (some ⟨b3, 0, none⟩) 3 3 ∧ ta 16 = .int .i64 3 ∧ ta 17 = .int .i64 1) ?_ ?_
 ·refine W.block ?_
  refine W.seq (W.region ?_)
  refine RW.v ?_
  refine RW.idx (s := 1) (by kernel_rfl) (by kernel_rfl) rfl Tryd.underlying84 (by kernel_rfl) rfl rfl ⟨by decide, by decide⟩ (by kernel_rfl) ?_
  refine RW.ld H 2 1 ?_
  iterate 2 refine RW.v ?_
  refine RW.nil ?_
  refine W.rg [(1, .pointer (some ⟨b1, 0, none⟩)), (4, .pointer (some ⟨b2, 0, none⟩)), (5, .int .i64 1), (6, .bool xe), (15, .slice (some ⟨b3, 0, none⟩) 3 3), (16, .int .i64 3), (17, .int .i64 1)] fun TA => ?_
  refine W.seq (W.region ?_)
  refine RW.v ?_
  refine RW.nil ?_
  refine W.rg [(1, .pointer (some ⟨b1, 0, none⟩)), (4, .pointer (some ⟨b2, 0, none⟩)), (5, .int .i64 1), (15, .slice (some ⟨b3, 0, none⟩) 3 3), (16, .int .i64 3), (17, .int .i64 1), (22, .bool xe)] fun TA => ?_
  refine W.cond rfl (fun hc6 => ?_) (fun hc6 => ?_)
  ·have hc6b := hc6
   refine W.region ?_
   refine RW.v ?_
   refine RW.vop (v := .int .u8 (((64 : UInt8).toNat : Nat) : Int)) (by kernel_rfl) (by kernel_rfl) (vop_sAtL (a := [42, 64, 94]) (j := 1) rfl rfl rfl Tryd.underlying9 (by decide)) (by kernel_rfl) ?_
   replace H := H.front 1 rfl
   dsimp only [setL, delL] at H
   replace H := H.front 1 rfl
   dsimp only [setL, delL] at H
   refine RW.cl ?_
   refine ((p_wbyte (bs := bs) (x := 64) had (by omega) H).mono ?_)
   clear H
   rintro _ _ ⟨u7, H⟩
   refine RW.nil ?_
   refine blkQ_normal ?_
   exact ⟨rfl, rfl, (bs ++ [64]), .pointer (some ⟨b2, 0, none⟩), u7, (by rw [hb, if_pos hc6b]), (.inr rfl), (fun e => absurd e (by simp)), (by rw [List.length_append, List.length_singleton]; omega), H, rfl, rfl, rfl, rfl, rfl⟩
  ·have hc6b := hc6
   refine W.skip ?_
   refine blkQ_normal ?_
   exact ⟨rfl, rfl, bs, ad, u, (by rw [hb, if_neg (show ¬ xe = true from by rw [hc6b]; exact Bool.noConfusion), List.append_nil]), had, hz, (by omega), H, rfl, rfl, rfl, rfl, rfl⟩
 clear H
 rintro ta _ ⟨bs, ad, u, hb, had, hz, hbl, H, e1, e4, e15, e16, e17⟩
 refine W.rst [(1, .pointer (some ⟨b1, 0, none⟩)), (4, .pointer (some ⟨b2, 0, none⟩)), (15, .slice (some ⟨b3, 0, none⟩) 3 3), (16, .int .i64 3), (17, .int .i64 1)] ⟨e1, e4, e15, e16, e17, trivial⟩ fun TA => ?_
 clear e1 e4 e15 e16 e17
 refine W.region ?_
 iterate 2 refine RW.v ?_
 refine RW.nil ?_
 refine WL.once ?_
 refine W.rg [(1, .pointer (some ⟨b1, 0, none⟩)), (4, .pointer (some ⟨b2, 0, none⟩)), (15, .slice (some ⟨b3, 0, none⟩) 3 3), (16, .int .i64 3), (17, .int .i64 2)] fun TA => ?_
 refine W.seq (W.region ?_)
 refine RW.v ?_
 refine RW.nil ?_
 refine W.rg [(1, .pointer (some ⟨b1, 0, none⟩)), (4, .pointer (some ⟨b2, 0, none⟩)), (15, .slice (some ⟨b3, 0, none⟩) 3 3), (16, .int .i64 3), (17, .int .i64 2), (18, .bool true)] fun TA => ?_
 refine W.seq ?_
 refine W.c1 ?_
 refine W.skip ?_
 refine W.join (fun ta σ => ∃ (bs : List UInt8) (ad : Value) (u : Value), (bs = ((([] : List UInt8) ++ (if xw = true then [42] else [])) ++ (if xe = true then [64] else [])) ++ (if xh = true then [94] else [])) ∧ (ad = .pointer none ∨ ad = .pointer (some ⟨b2, 0, none⟩)) ∧ (bs = [] → u = .slice none 0 0) ∧ (bs.length ≤ 3) ∧ Lies G A F σ (.sl 5 1 u bs.length (bs.map byteV) :: .at_ b2 (.row ⟨[ad, u], 83, false⟩) :: .at_ b3 (.row ⟨[.bool xw, .bool xe, .bool xh], 4, false⟩) :: .at_ b1 (.row ⟨[.bool xw, .bool xe, .bool xh, xv], 24, false⟩) :: (L)) ∧ ta 1 = .pointer (some ⟨b1, 0, none⟩) ∧ ta 4 = .pointer (some ⟨b2, 0, none⟩) ∧ ta 15 = .slice (some ⟨b3, 0, none⟩) 3 3 ∧ ta 16 = .int .i64 3 ∧ ta 17 = .int .i64 2) ?_ ?_
 ·refine W.block ?_
  refine W.seq (W.region ?_)
  refine RW.v ?_
  refine RW.idx (s := 1) (by kernel_rfl) (by kernel_rfl) rfl Tryd.underlying84 (by kernel_rfl) rfl rfl ⟨by decide, by decide⟩ (by kernel_rfl) ?_
  refine RW.ld H 2 1 ?_
  iterate 2 refine RW.v ?_
  refine RW.nil ?_
  refine W.rg [(1, .pointer (some ⟨b1, 0, none⟩)), (4, .pointer (some ⟨b2, 0, none⟩)), (5, .int .i64 2), (6, .bool xh), (15, .slice (some ⟨b3, 0, none⟩) 3 3), (16, .int .i64 3), (17, .int .i64 2)] fun TA => ?_
  refine W.seq (W.region ?_)
  refine RW.v ?_
  refine RW.nil ?_
  refine W.rg [(1, .pointer (some ⟨b1, 0, none⟩)), (4, .pointer (some ⟨b2, 0, none⟩)), (5, .int .i64 2), (15, .slice (some ⟨b3, 0, none⟩) 3 3), (16, .int .i64 3), (17, .int .i64 2), (22, .bool xh)] fun TA => ?_
  refine W.cond rfl (fun hc8 => ?_) (fun hc8 => ?_)
  ·have hc8b := hc8
   refine W.region ?_
   refine RW.v ?_
   refine RW.vop (v := .int .u8 (((94 : UInt8).toNat : Nat) : Int)) (by kernel_rfl) (by kernel_rfl) (vop_sAtL (a := [42, 64, 94]) (j := 2) rfl rfl rfl Tryd.underlying9 (by decide)) (by kernel_rfl) ?_
   replace H := H.front 1 rfl
   dsimp only [setL, delL] at H
   replace H := H.front 1 rfl
   dsimp only [setL, delL] at H
   refine RW.cl ?_
   refine ((p_wbyte (bs := bs) (x := 94) had (by omega) H).mono ?_)
   clear H
   rintro _ _ ⟨u9, H⟩
   refine RW.nil ?_
   refine blkQ_normal ?_
   exact ⟨rfl, rfl, (bs ++ [94]), .pointer (some ⟨b2, 0, none⟩), u9, (by rw [hb, if_pos hc8b]), (.inr rfl), (fun e => absurd e (by simp)), (by rw [List.length_append, List.length_singleton]; omega), H, rfl, rfl, rfl, rfl, rfl⟩
  ·have hc8b := hc8
   refine W.skip ?_
   refine blkQ_normal ?_
   exact ⟨rfl, rfl, bs, ad, u, (by rw [hb, if_neg (show ¬ xh = true from by rw [hc8b]; exact Bool.noConfusion), List.append_nil]), had, hz, (by omega), H, rfl, rfl, rfl, rfl, rfl⟩
 clear H
 rintro ta _ ⟨bs, ad, u, hb, had, hz, hbl, H, e1, e4, e15, e16, e17⟩
 refine W.rst [(1, .pointer (some ⟨b1, 0, none⟩)), (4, .pointer (some ⟨b2, 0, none⟩)), (15, .slice (some ⟨b3, 0, none⟩) 3 3), (16, .int .i64 3), (17, .int .i64 2)] ⟨e1, e4, e15, e16, e17, trivial⟩ fun TA => ?_
 clear e1 e4 e15 e16 e17
 refine W.region ?_
 iterate 2 refine RW.v ?_
 refine RW.nil ?_
 refine WL.once ?_
 refine W.rg [(1, .pointer (some ⟨b1, 0, none⟩)), (4, .pointer (some ⟨b2, 0, none⟩)), (15, .slice (some ⟨b3, 0, none⟩) 3 3), (16, .int .i64 3), (17, .int .i64 3)] fun TA => ?_
 refine W.seq (W.region ?_)
 refine RW.v ?_
 refine RW.nil ?_
 refine W.rg [(1, .pointer (some ⟨b1, 0, none⟩)), (4, .pointer (some ⟨b2, 0, none⟩)), (15, .slice (some ⟨b3, 0, none⟩) 3 3), (16, .int .i64 3), (17, .int .i64 3), (18, .bool false)] fun TA => ?_
 refine W.seq ?_
 refine W.c0 ?_
 refine W.exit _ ?_
 refine seqQ_exit ?_
 refine onceQ_exit ?_
 refine blkQ_here ?_
 refine W.seq ?_
 refine W.seq (W.region ?_)
 refine RW.v ?_
 refine RW.ld H 3 1 ?_
 refine RW.len (by kernel_rfl) (by kernel_rfl) rfl rfl rfl rfl (hx.len (e := 29) (by kernel_rfl)) (by kernel_rfl) ?_
 refine RW.v ?_
 refine RW.nil ?_
 replace H := ((H.del 3).del 2)
 dsimp only [setL, delL] at H
 refine W.rg [(4, .pointer (some ⟨b2, 0, none⟩)), (28, xv), (29, .int .i64 (l.length : Int)), (30, .int .i64 0)] fun TA => ?_
 refine W.block ?_
 replace H := H.front 1 rfl
 dsimp only [setL, delL] at H
 replace H := H.front 1 rfl
 dsimp only [setL, delL] at H
 have hF0 : bs = flagsT xw xe xh ++ joinN (l.take 0) := hb.trans (List.append_nil _).symm
 clear hb
 refine W.loop (fun mm ta σ => ∃ (i : Nat) (bs : List UInt8) (ad : Value) (u : Value), (mm + i = l.length) ∧ ((l.take i).all needB = true) ∧ (bs = flagsT xw xe xh ++ joinN (l.take i)) ∧ (ad = .pointer none ∨ ad = .pointer (some ⟨b2, 0, none⟩)) ∧ (bs = [] → u = .slice none 0 0) ∧ (bs.length ≤ 3 + i * 1010) ∧ Lies G A F σ (.sl 5 1 u bs.length (bs.map byteV) :: .at_ b2 (.row ⟨[ad, u], 83, false⟩) :: (L)) ∧ ta 4 = .pointer (some ⟨b2, 0, none⟩) ∧ ta 28 = xv ∧ ta 29 = .int .i64 (l.length : Int) ∧ ta 30 = .int .i64 ((i : Nat) : Int)) l.length ?_ ?_
 ·exact ⟨0, bs, ad, u, (by omega), rfl, hF0, had, hz, (by omega), H, rfl, rfl, rfl, rfl⟩
 clear H
 rintro mm ta _ ⟨i, bs, ad, u, hm, hall, hbs, had, hz, hbl, H, e4, e28, e29, e30⟩
 refine W.rst [(4, .pointer (some ⟨b2, 0, none⟩)), (28, xv), (29, .int .i64 (l.length : Int)), (30, .int .i64 ((i : Nat) : Int))] ⟨e4, e28, e29, e30, trivial⟩ fun TA => ?_
 clear e4 e28 e29 e30
 refine W.seq (W.region ?_)
 refine RW.v ?_
 refine RW.nil ?_
 refine W.rg [(4, .pointer (some ⟨b2, 0, none⟩)), (28, xv), (29, .int .i64 (l.length : Int)), (30, .int .i64 ((i : Nat) : Int)), (31, .bool (decide (((i : Nat) : Int) < (l.length : Int))))] fun TA => ?_
 refine W.seq ?_
 refine W.cond rfl (fun hc10 => ?_) (fun hc10 => ?_)
 ·have hc10b := hc10
  have hc10 := of_decide_eq_true hc10
  have hil : i < l.length := by omega
  refine W.skip ?_
  refine W.seq ?_
  refine W.block ?_
  refine W.seq (W.region ?_)
  refine RW.v ?_
  refine RW.idxF hx (by kernel_rfl) (by kernel_rfl) rfl Tryd.underlying22 (by kernel_rfl) rfl rfl ⟨by omega, by omega⟩ (by kernel_rfl) ?_
  intro b11 q12 r13 hF14 hE15
  rw [need_at (l := l) (j := i) (i := ((i : Nat) : Int)) (by omega) (by omega)] at hE15
  refine RW.loads 2 (by kernel_rfl) (by kernel_rfl) rfl rfl (H.old _ _ hF14) hE15 rfl (by kernel_rfl) ?_
  refine RW.mk H (.row ⟨[.int .i64 0, .string ByteArray.empty], 29, false⟩) ?_
  clear H; intro _ b16 _ H
  refine RW.v ?_
  refine RW.st H 0 [.int .i64 ((gD l i).1), .string ⟨((gD l i).2).toArray⟩] [.int .i64 ((gD l i).1), .string ⟨((gD l i).2).toArray⟩] ?_
  clear H; intro _ _ H; dsimp only [setL, delL] at H
  refine RW.nil ?_
  refine W.rg [(4, .pointer (some ⟨b2, 0, none⟩)), (7, .int .i64 ((i : Nat) : Int)), (8, .pointer (some ⟨b16, 0, none⟩)), (28, xv), (29, .int .i64 (l.length : Int)), (30, .int .i64 ((i : Nat) : Int))] fun TA => ?_
  refine W.seq ?_
  refine W.seq (W.region ?_)
  refine RW.v ?_
  refine RW.ld H 0 1 ?_
  iterate 2 refine RW.v ?_
  refine RW.both _ _ rfl rfl rfl (fun hc17 => ?_) (fun hc17 => ?_)
  ·have hc17b := hc17
   have hc17 := of_decide_eq_true hc17
   have hcd : (gD l i).1 ∉ codeL := codes_far (.inl (by omega))
   iterate 3 refine RW.s ?_
   iterate 2 refine RW.v ?_
   iterate 5 refine RW.s ?_
   iterate 2 refine RW.v ?_
   iterate 4 refine RW.s ?_
   iterate 2 refine RW.v ?_
   iterate 3 refine RW.s ?_
   refine RW.v ?_
   refine RW.nil ?_
   refine W.c1 ?_
   refine W.seq (W.region ?_)
   iterate 2 refine RW.v ?_
   refine RW.nil ?_
   replace H := (((H.del 2).del 1).del 0)
   dsimp only [setL, delL] at H
   refine W.ret ?_
   refine seqQ_ret ?_
   refine blkQ_ret ?_
   refine seqQ_ret ?_
   refine rndQ_ret ?_
   refine blkQ_ret ?_
   refine seqQ_ret ?_
   refine endG (by rfl) (by exact resL_tmp (by exact resL_tmp rfl)) ?_
   have et : textM ⟨xw, xe, xh, l⟩ = ([], 5) := text_noN hil (need_bad (.inl hcd))
   rw [et]
   exact ⟨rfl, H⟩
  ·have hc17b := hc17
   have hc17 := of_decide_eq_false hc17
   refine RW.w ?_
   refine RW.ldL H 0 1 (by rfl) (by kernel_rfl) rfl rfl rfl rfl rfl (by kernel_rfl) ?_
   refine RW.w ?_
   iterate 2 refine RW.v ?_
   refine RW.both _ _ rfl rfl rfl (fun hc18 => ?_) (fun hc18 => ?_)
   ·have hc18b := hc18
    have hc18 := of_decide_eq_true hc18
    have hcd : (gD l i).1 ∉ codeL := codes_far (.inr (by omega))
    iterate 5 refine RW.s ?_
    iterate 2 refine RW.v ?_
    iterate 4 refine RW.s ?_
    iterate 2 refine RW.v ?_
    iterate 3 refine RW.s ?_
    refine RW.v ?_
    refine RW.nil ?_
    refine W.c1 ?_
    refine W.seq (W.region ?_)
    iterate 2 refine RW.v ?_
    refine RW.nil ?_
    replace H := (((H.del 2).del 1).del 0)
    dsimp only [setL, delL] at H
    refine W.ret ?_
    refine seqQ_ret ?_
    refine blkQ_ret ?_
    refine seqQ_ret ?_
    refine rndQ_ret ?_
    refine blkQ_ret ?_
    refine seqQ_ret ?_
    refine endG (by rfl) (by exact resL_tmp (by exact resL_tmp rfl)) ?_
    have et : textM ⟨xw, xe, xh, l⟩ = ([], 5) := text_noN hil (need_bad (.inl hcd))
    rw [et]
    exact ⟨rfl, H⟩
   ·have hc18b := hc18
    have hc18 := of_decide_eq_false hc18
    refine RW.w ?_
    refine RW.ldL H 0 1 (by rfl) (by kernel_rfl) rfl rfl rfl rfl rfl (by kernel_rfl) ?_
    refine RW.valE (v' := .int .i32 (gD l i).1) (by rfl) (by kernel_rfl) rfl (congrArg (Value.int .i32) (wrap_i32 (by omega) (by omega))) (by kernel_rfl) ?_
    refine RW.cl (hw := by rfl) ?_
    refine ((p_coded (c := (gD l i).1) h64 (hU.le (fun b y h => H.old _ _ h)).rows (by omega) (by omega) H).mono ?_)
    clear H
    rintro _ _ ⟨rfl, H⟩
    refine RW.w ?_
    iterate 2 refine RW.v ?_
    refine RW.both _ _ rfl rfl rfl (fun hc19 => ?_) (fun hc19 => ?_)
    ·have hc19b := hc19
     have hcd : (gD l i).1 ∉ codeL := by simpa using hc19b
     iterate 4 refine RW.s ?_
     iterate 2 refine RW.v ?_
     iterate 3 refine RW.s ?_
     refine RW.v ?_
     refine RW.nil ?_
     refine W.c1 ?_
     refine W.seq (W.region ?_)
     iterate 2 refine RW.v ?_
     refine RW.nil ?_
     replace H := (((H.del 2).del 1).del 0)
     dsimp only [setL, delL] at H
     refine W.ret ?_
     refine seqQ_ret ?_
     refine blkQ_ret ?_
     refine seqQ_ret ?_
     refine rndQ_ret ?_
     refine blkQ_ret ?_
     refine seqQ_ret ?_
     refine endG (by rfl) (by exact resL_tmp (by exact resL_tmp rfl)) ?_
     have et : textM ⟨xw, xe, xh, l⟩ = ([], 5) := text_noN hil (need_bad (.inl hcd))
     rw [et]
     exact ⟨rfl, H⟩
    ·have hc19b := hc19
     have hcd : (gD l i).1 ∈ codeL := by simpa using hc19b
     have hk : 0 ≤ (gD l i).1 ∧ (gD l i).1 ≤ 127 := ⟨(codes_ok hcd).2.2.2.1, (codes_ok hcd).2.2.2.2⟩
     refine RW.w ?_
     refine RW.ldL H 0 1 (by rfl) (by kernel_rfl) rfl rfl rfl rfl rfl (by kernel_rfl) ?_
     refine RW.cl (hw := by rfl) ?_
     refine ⟨_, _, (s_valid (bs := (gD l i).2) (hU.le (fun b y h => H.old _ _ h)) h16 (by have := hpr _ (gD_mem hil); omega)), ?_⟩
     refine RW.w ?_
     iterate 2 refine RW.v ?_
     refine RW.both _ _ rfl rfl rfl (fun hc20 => ?_) (fun hc20 => ?_)
     ·have hc20b := hc20
      have hvd : validD (gD l i).2 = false := by simpa using hc20b
      iterate 3 refine RW.s ?_
      refine RW.v ?_
      refine RW.nil ?_
      refine W.c1 ?_
      refine W.seq (W.region ?_)
      iterate 2 refine RW.v ?_
      refine RW.nil ?_
      replace H := (((H.del 2).del 1).del 0)
      dsimp only [setL, delL] at H
      refine W.ret ?_
      refine seqQ_ret ?_
      refine blkQ_ret ?_
      refine seqQ_ret ?_
      refine rndQ_ret ?_
      refine blkQ_ret ?_
      refine seqQ_ret ?_
      refine endG (by rfl) (by exact resL_tmp (by exact resL_tmp rfl)) ?_
      have et : textM ⟨xw, xe, xh, l⟩ = ([], 5) := text_noN hil (need_bad (.inr (.inl hvd)))
      rw [et]
      exact ⟨rfl, H⟩
     ·have hc20b := hc20
      have hvd : validD (gD l i).2 = true := by simpa using hc20b
      refine RW.w ?_
      refine RW.ldL H 0 1 (by rfl) (by kernel_rfl) rfl rfl rfl rfl rfl (by kernel_rfl) ?_
      refine RW.cl (hw := by rfl) ?_
      refine ⟨_, _, (s_contN hvd), ?_⟩
      refine RW.v ?_
      refine RW.nil ?_
      refine W.rg [(4, .pointer (some ⟨b2, 0, none⟩)), (7, .int .i64 ((i : Nat) : Int)), (8, .pointer (some ⟨b16, 0, none⟩)), (28, xv), (29, .int .i64 (l.length : Int)), (30, .int .i64 ((i : Nat) : Int)), (60, .bool ((runes (gD l i).2).contains 10))] fun TA => ?_
      refine W.cond rfl (fun hc21 => ?_) (fun hc21 => ?_)
      ·have hc21b := hc21
       refine W.seq (W.region ?_)
       iterate 2 refine RW.v ?_
       refine RW.nil ?_
       replace H := (((H.del 2).del 1).del 0)
       dsimp only [setL, delL] at H
       refine W.ret ?_
       refine seqQ_ret ?_
       refine blkQ_ret ?_
       refine seqQ_ret ?_
       refine rndQ_ret ?_
       refine blkQ_ret ?_
       refine seqQ_ret ?_
       refine endG (by rfl) (by exact resL_tmp (by exact resL_tmp rfl)) ?_
       have et : textM ⟨xw, xe, xh, l⟩ = ([], 5) := text_noN hil (need_bad (.inr (.inr hc21b)))
       rw [et]
       exact ⟨rfl, H⟩
      ·have hc21b := hc21
       have hgood : needB (gD l i) = true := need_good hcd hvd hc21b
       have hpl := hpr _ (gD_mem hil)
       refine W.skip ?_
       refine W.seq ?_
       refine W.seq (W.region ?_)
       iterate 2 refine RW.v ?_
       refine RW.nil ?_
       refine W.rg [(4, .pointer (some ⟨b2, 0, none⟩)), (8, .pointer (some ⟨b16, 0, none⟩)), (28, xv), (29, .int .i64 (l.length : Int)), (30, .int .i64 ((i : Nat) : Int)), (62, .bool (decide (((i : Nat) : Int) > 0)))] fun TA => ?_
       refine W.cond rfl (fun hc22 => ?_) (fun hc22 => ?_)
       ·have hc22b := hc22
        have hc22 := of_decide_eq_true hc22
        have hi0 : 0 < i := by omega
        refine W.region ?_
        replace H := H.front 2 rfl
        dsimp only [setL, delL] at H
        replace H := H.front 2 rfl
        dsimp only [setL, delL] at H
        refine RW.cl ?_
        refine ((p_wbyte (bs := bs) (x := 10) had (by omega) H).mono ?_)
        clear H
        rintro _ _ ⟨u23, H⟩
        refine RW.nil ?_
        refine W.rg [(4, .pointer (some ⟨b2, 0, none⟩)), (8, .pointer (some ⟨b16, 0, none⟩)), (28, xv), (29, .int .i64 (l.length : Int)), (30, .int .i64 ((i : Nat) : Int))] fun TA => ?_
        refine W.seq (W.region ?_)
        refine RW.v ?_
        refine RW.ld H 2 1 ?_
        refine RW.valE (v' := .int .i32 (gD l i).1) (by kernel_rfl) (by kernel_rfl) rfl (congrArg (Value.int .i32) (wrap_i32 (by have := hk.1; omega) (by have := hk.2; omega))) (by kernel_rfl) ?_
        replace H := H.front 1 rfl
        dsimp only [setL, delL] at H
        replace H := H.front 1 rfl
        dsimp only [setL, delL] at H
        refine RW.cl ?_
        refine ((p_wrune (bs := (bs ++ [10])) (c := (gD l i).1) hk.1 hk.2 (.inr rfl) (by first | omega | (simp only [List.length_append, List.length_singleton]; omega)) H).mono ?_)
        clear H
        rintro _ _ ⟨u24, H⟩
        refine RW.nil ?_
        refine W.rg [(4, .pointer (some ⟨b2, 0, none⟩)), (8, .pointer (some ⟨b16, 0, none⟩)), (28, xv), (29, .int .i64 (l.length : Int)), (30, .int .i64 ((i : Nat) : Int))] fun TA => ?_
        refine W.region ?_
        refine RW.v ?_
        refine RW.ld H 2 1 ?_
        replace H := H.front 1 rfl
        dsimp only [setL, delL] at H
        replace H := H.front 1 rfl
        dsimp only [setL, delL] at H
        refine RW.cl ?_
        refine ((p_wstr (bs := ((bs ++ [10]) ++ [(gD l i).1.toNat.toUInt8])) (s := (gD l i).2) (.inr rfl) (by first | omega | (simp only [List.length_append, List.length_singleton]; omega)) (fun e => absurd e (snoc_ne' _ _)) H).mono ?_)
        clear H
        rintro _ _ ⟨u25, hzw, H⟩
        refine RW.nil ?_
        replace H := (H.del 2)
        dsimp only [setL, delL] at H
        refine blkQ_normal ?_
        refine W.rg [(4, .pointer (some ⟨b2, 0, none⟩)), (28, xv), (29, .int .i64 (l.length : Int)), (30, .int .i64 ((i : Nat) : Int))] fun TA => ?_
        refine W.region ?_
        refine RW.valE (v' := .int .i64 (((i + 1) : Nat) : Int)) (by kernel_rfl) (by kernel_rfl) rfl (congrArg (Value.int .i64) ((wrap_in (by omega) (by omega)).trans (by omega))) (by kernel_rfl) ?_
        refine RW.v ?_
        refine RW.nil ?_
        exact ⟨rfl, mm - 1, by omega, i + 1, (((bs ++ [10]) ++ [(gD l i).1.toNat.toUInt8]) ++ (gD l i).2), .pointer (some ⟨b2, 0, none⟩), u25, (by omega), (all_snoc hil hall hgood), (by rw [hbs, join_snoc hil hi0, line_one hcd]; simp only [List.append_assoc, List.cons_append, List.nil_append]), (.inr rfl), hzw, (by have := hpr _ (gD_mem hil); simp only [List.length_append, List.length_singleton]; omega), H, rfl, rfl, rfl, rfl⟩
       ·have hc22b := hc22
        have hc22 := of_decide_eq_false hc22
        have hi0 : i = 0 := by omega
        refine W.skip ?_
        refine W.seq (W.region ?_)
        refine RW.v ?_
        refine RW.ld H 0 1 ?_
        refine RW.valE (v' := .int .i32 (gD l i).1) (by kernel_rfl) (by kernel_rfl) rfl (congrArg (Value.int .i32) (wrap_i32 (by have := hk.1; omega) (by have := hk.2; omega))) (by kernel_rfl) ?_
        replace H := H.front 2 rfl
        dsimp only [setL, delL] at H
        replace H := H.front 2 rfl
        dsimp only [setL, delL] at H
        refine RW.cl ?_
        refine ((p_wrune (bs := bs) (c := (gD l i).1) hk.1 hk.2 had (by first | omega | (simp only [List.length_append, List.length_singleton]; omega)) H).mono ?_)
        clear H
        rintro _ _ ⟨u26, H⟩
        refine RW.nil ?_
        refine W.rg [(4, .pointer (some ⟨b2, 0, none⟩)), (8, .pointer (some ⟨b16, 0, none⟩)), (28, xv), (29, .int .i64 (l.length : Int)), (30, .int .i64 ((i : Nat) : Int))] fun TA => ?_
        refine W.region ?_
        refine RW.v ?_
        refine RW.ld H 2 1 ?_
        replace H := H.front 1 rfl
        dsimp only [setL, delL] at H
        replace H := H.front 1 rfl
        dsimp only [setL, delL] at H
        refine RW.cl ?_
        refine ((p_wstr (bs := (bs ++ [(gD l i).1.toNat.toUInt8])) (s := (gD l i).2) (.inr rfl) (by first | omega | (simp only [List.length_append, List.length_singleton]; omega)) (fun e => absurd e (snoc_ne' _ _)) H).mono ?_)
        clear H
        rintro _ _ ⟨u27, hzw, H⟩
        refine RW.nil ?_
        replace H := (H.del 2)
        dsimp only [setL, delL] at H
        refine blkQ_normal ?_
        refine W.rg [(4, .pointer (some ⟨b2, 0, none⟩)), (28, xv), (29, .int .i64 (l.length : Int)), (30, .int .i64 ((i : Nat) : Int))] fun TA => ?_
        refine W.region ?_
        refine RW.valE (v' := .int .i64 (((i + 1) : Nat) : Int)) (by kernel_rfl) (by kernel_rfl) rfl (congrArg (Value.int .i64) ((wrap_in (by omega) (by omega)).trans (by omega))) (by kernel_rfl) ?_
        refine RW.v ?_
        refine RW.nil ?_
        exact ⟨rfl, mm - 1, by omega, i + 1, ((bs ++ [(gD l i).1.toNat.toUInt8]) ++ (gD l i).2), .pointer (some ⟨b2, 0, none⟩), u27, (by omega), (all_snoc hil hall hgood), (by rw [hbs, join_first hil hi0, line_one hcd]; simp only [List.append_assoc, List.cons_append, List.nil_append]), (.inr rfl), hzw, (by have := hpr _ (gD_mem hil); simp only [List.length_append, List.length_singleton]; omega), H, rfl, rfl, rfl, rfl⟩
 ·have hc10b := hc10
  have hc10 := of_decide_eq_false hc10
  refine W.exit _ ?_
  refine seqQ_exit ?_
  refine rndQ_exit ?_
  obtain rfl : i = l.length := by omega
  refine blkQ_here ?_
  refine W.seq (W.region ?_)
  replace H := H.front 1 rfl
  dsimp only [setL, delL] at H
  replace H := H.front 1 rfl
  dsimp only [setL, delL] at H
  refine RW.cl ?_
  refine ((p_bstr (bs := bs) (by omega) hz H).mono ?_)
  clear H
  rintro _ _ ⟨rfl, H⟩
  iterate 2 refine RW.v ?_
  refine RW.nil ?_
  refine W.ret ?_
  refine endG (by rfl) (by exact resL_tmp (by exact resL_tmp rfl)) ?_
  have et : textM ⟨xw, xe, xh, l⟩ = (bs, 0) := text_okN (by rw [List.take_length] at hall; exact hall) (by rw [List.take_length] at hbs; exact hbs)
  rw [et]
  exact ⟨rfl, H⟩
end Go.Proofs.YthemeeiedlbhkaaDoor
