/-
 The reference of completion: characters, candidates, common prefixes. Conditions: none.
-/
import Derived.Test.YthemeeiedlbhkaaDoorCpf
import Derived.Test.YthemeeiedlbhkaaDoorR2
import Derived.Test.YthemeeiedlbhkaaDoorR1
namespace Go.Proofs.YthemeeiedlbhkaaDoor
open Go.Lib
set_option maxRecDepth 100000
open Go.RowKit
theorem intz_at {l : List Int} {j : Nat} {i : Int} (hi : i = ((j : Nat) : Int)) (h : j < l.length) : ((l.map (Value.int .i64)).drop (i.toNat * 1)).take 1 = [.int .i64 (l.getD j 0)] := by
 subst hi
 rw [Int.toNat_natCast, Nat.mul_one, List.getD_eq_getElem?_getD, List.getElem?_eq_getElem h, List.drop_eq_getElem_cons (by simpa using h)]
 simp
theorem intz_snoc {l : List Int} {x : Int} : l.map (Value.int .i64) ++ [.int .i64 x] = (l ++ [x]).map (Value.int .i64) := by simp
theorem intz_len {l : List Int} {x : Int} : l.length + 1 = (l ++ [x]).length := by simp
theorem dec_ok {l : List UInt8} (hne : l ≠ []) (hv : validD l = true) : ¬ ((decodeL l).1 = 65533 ∧ (decodeL l).2 = 1) ∧ (1 ≤ (decodeL l).2 ∧ (decodeL l).2 ≤ l.length) ∧ runes l = (((decodeL l).1 : Nat) : Int) :: runes (l.drop (decodeL l).2) ∧ validD (l.drop (decodeL l).2) = true := by
 have he := valid_eq hv
 have hc := valid_ch hv
 have hst := runes_step l hne
 rw [hst] at he hc
 have hch := hc _ (List.mem_cons_self ..)
 have hd : decodeL l = ((((decodeL l).1 : Nat) : Int).toNat, (encodeRune (((decodeL l).1 : Nat) : Int)).length) := by
  conv => lhs; rw [← he, encA_cons]
  exact decode_enc _ hch _
 have h2 : (decodeL l).2 = (encodeRune (((decodeL l).1 : Nat) : Int)).length := congrArg Prod.snd hd
 have hgood : ¬ ((decodeL l).1 = 65533 ∧ (decodeL l).2 = 1) := by
  have := enc_good _ hch
  rw [Int.toNat_natCast, ← h2] at this
  exact this
 have hl := enc_len (((decodeL l).1 : Nat) : Int)
 have hs := split_dec l hne hgood
 refine ⟨hgood, ⟨by omega, ?_⟩, hst, ?_⟩
 ·have := congrArg List.length hs
  rw [List.length_append, ← h2, List.length_drop] at this
  omega
 ·rw [hs, valid_enc _ hch] at hv
  exact hv
def AllI (F : Nat → Option Blk2) (cs : List Value) (ls : List (List Int)) : Prop := cs.length = ls.length ∧ ∀ j, j < ls.length → SlK F 1 (cs.getD j undef) (ls.getD j []).length ((ls.getD j []).map (Value.int .i64))
theorem AllI.le {F F' : Nat → Option Blk2} {cs : List Value} {ls : List (List Int)} (h : AllI F cs ls) (k : Le F F') : AllI F' cs ls := ⟨h.1, fun j hj => (h.2 j hj).le k⟩
theorem AllI.nil {F : Nat → Option Blk2} : AllI F [] [] := ⟨rfl, fun j hj => absurd hj (Nat.not_lt_zero _)⟩
theorem AllI.drop {F : Nat → Option Blk2} {cs : List Value} {ls : List (List Int)} (a : AllI F cs ls) (k : Nat) : AllI F (cs.drop k) (ls.drop k) := by
 refine ⟨by rw [List.length_drop, List.length_drop, a.1], fun j hj => ?_⟩
 rw [List.length_drop] at hj
 rw [getD_dropR, getD_dropR]
 exact a.2 _ (by omega)
section
variable {G : Nat} {A : Abs} {σ : Mem} {F : Nat → Option Blk2} {L : List Ent} {fold : Bool} {l : List (List UInt8)} {s bs : List UInt8} {xs ys : List Int} {ls : List (List Int)} {sls : List Value} {v1 v2 : Value} {a b : Int} {p : Nat}
theorem s_listno {bs : List UInt8} (hs : bs.length ≤ 1000000) (hv : validD bs = false) : SCall G Tryd.prog 43 #[.string ⟨bs.toArray⟩] σ (.tuple #[.slice none 0 0, .int .i64 5]) σ :=
 below_call rfl rfl fun w => ref_list_no ⟨bs.toArray⟩ w (by show bs.length ≤ _; omega) (by simpa using hv)
theorem s_point {bs : List UInt8} (hs : bs.length ≤ 1000000) (hne : bs ≠ []) (hg : ¬ ((decodeL bs).1 = 65533 ∧ (decodeL bs).2 = 1)) : SCall G Tryd.prog 70 #[.string ⟨bs.toArray⟩] σ (.tuple #[.int .i64 (((decodeL bs).1 : Nat) : Int), .int .i64 (((decodeL bs).2 : Nat) : Int)]) σ :=
 below_call rfl rfl fun w => by
  have hl : 0 < bs.length := List.length_pos_iff.2 hne
  refine (point_any ⟨bs.toArray⟩ w (by show bs.length ≤ _; omega) (by show 0 < bs.length; exact hl)).mono ?_
  rintro e w' ⟨rfl, q, rfl⟩
  have hp : ptOf bs = decodeL bs := if_neg hg
  refine ⟨?_, below_drewN (Below.refl _ _) _⟩
  show _ = _
  rw [show (⟨bs.toArray⟩ : ByteArray).data.toList = bs by simp, hp]
theorem s_text (ho : ∀ b y, F b = some y → σ.get b = some y) (h : SlF F 1 v1 xs.length (xs.map (Value.int .i64))) (hl : xs.length ≤ 65536) : SCall G Tryd.prog 71 #[v1] σ (.tuple #[.string ⟨(textOf xs).toArray⟩, .int .i64 (textE xs)]) σ :=
 read_call (rest := []) (h.le ho) (fun y hy => by obtain ⟨u, _, rfl⟩ := List.mem_map.1 hy; rfl) rfl rfl fun w a' ⟨A, c, e, _, hA⟩ => by
  subst e
  by_cases h0 : xs.length = 0
  ·obtain rfl := List.eq_nil_of_length_eq_zero h0
   refine (ref_text_empty A c w).mono ?_
   rintro e w' ⟨rfl, rfl⟩
   exact ⟨rfl, Below.refl _ _⟩
  ·obtain ⟨B, off, rfl, hc⟩ := hA (by omega)
   refine ref_text_walk B off c xs w (by omega) hl ?_ fun j y hj => hc j _ (by rw [List.getElem?_map, hj]; rfl)
   obtain ⟨x, hx⟩ : ∃ x, xs[0]? = some x := ⟨_, List.getElem?_eq_getElem (by omega)⟩
   have := hc 0 _ (by rw [List.getElem?_map, hx]; rfl)
   unfold World.cell? at this
   split at this
   ·rename_i h1
    exact (Array.getElem?_eq_some_iff.1 h1).1
   ·cases this
set_option maxHeartbeats 8000000 in
theorem r_list {bs : List UInt8} (hvb : validD bs = true) (hs : bs.length ≤ 1000000) (H : Lies G A F σ L) : WC G Tryd.prog 43 #[.string ⟨bs.toArray⟩] σ fun v σ' => ∃ F' u, Le F F' ∧ v = .tuple #[u, .int .i64 0] ∧ SlK F' 1 u (runes bs).length ((runes bs).map (Value.int .i64)) ∧ Lies G A F' σ' L := by
 refine WC.enter (fn := Tryd.f43) Tryd.func43 rfl ?_
 refine W.rg [(0, .string ⟨bs.toArray⟩)] fun TA => ?_
 refine W.seq (W.region ?_)
 iterate 2 refine RW.v ?_
 refine RW.nil ?_
 refine W.rg [(0, .string ⟨bs.toArray⟩)] fun TA => ?_
 refine W.seq (W.region ?_)
 refine RW.v ?_
 refine RW.nil ?_
 refine W.rg [(0, .string ⟨bs.toArray⟩), (4, .slice none 0 0)] fun TA => ?_
 refine W.seq ?_
 refine W.block ?_
 replace H := H.nilSl 3 1
 refine W.loop (fun mm ta σ => ∃ (rest : List UInt8) (acc : List Int) (u : Value), (rest.length ≤ mm) ∧ (rest.length ≤ bs.length) ∧ (validD rest = true) ∧ (acc ++ runes rest = runes bs) ∧ Lies G A F σ (.sl 3 1 u acc.length (acc.map (Value.int .i64)) :: (L)) ∧ ta 0 = .string ⟨rest.toArray⟩ ∧ ta 4 = u) bs.length ?_ ?_
 ·exact ⟨bs, [], .slice none 0 0, (Nat.le_refl _), (Nat.le_refl _), hvb, rfl, H, rfl, rfl⟩
 clear H
 rintro mm ta _ ⟨rest, acc, u, hm, hrb, hv, hacc, H, e0, e4⟩
 refine W.rst [(0, .string ⟨rest.toArray⟩), (4, u)] ⟨e0, e4, trivial⟩ fun TA => ?_
 clear e0 e4
 refine W.seq ?_
 refine W.seq (W.region ?_)
 refine RW.v ?_
 refine RW.vop (v := .int .i64 (rest.length : Int)) (by kernel_rfl) (by kernel_rfl) (vop_sLenL rfl rfl rfl rfl Tryd.underlying9 rfl) (by kernel_rfl) ?_
 refine RW.v ?_
 refine RW.nil ?_
 refine W.rg [(0, .string ⟨rest.toArray⟩), (4, u), (9, .bool (decide ((rest.length : Int) > 0)))] fun TA => ?_
 refine W.cond rfl (fun hc1 => ?_) (fun hc1 => ?_)
 ·have hc1b := hc1
  have hc1 := of_decide_eq_true hc1
  have hgt : 0 < rest.length := by omega
  have hal : acc.length ≤ (runes bs).length := by rw [← hacc, List.length_append]; omega
  have hrl := runes_le bs
  refine W.skip ?_
  refine W.block ?_
  refine W.seq (W.region ?_)
  refine RW.v ?_
  have hne : rest ≠ [] := fun e => by rw [e] at hgt; simp at hgt
  obtain ⟨d1, d2, d3, d4⟩ := dec_ok hne hv
  have hal2 : acc.length + 1 ≤ (runes bs).length := by rw [← hacc, d3, List.length_append, List.length_cons]; omega
  refine RW.cl ?_
  refine ⟨_, _, (s_point (by omega) hne d1), ?_⟩
  iterate 5 refine RW.v ?_
  refine RW.nil ?_
  refine W.rg [(0, .string ⟨rest.toArray⟩), (4, u), (5, .int .i64 (((decodeL rest).1 : Nat) : Int)), (6, .int .i64 (((decodeL rest).2 : Nat) : Int))] fun TA => ?_
  refine W.seq ?_
  refine W.seq (W.region ?_)
  refine RW.v ?_
  refine RW.valE (v' := .bool false) (by kernel_rfl) (by kernel_rfl) rfl (congrArg Value.bool (beq_eq_false_iff_ne.2 (by omega))) (by kernel_rfl) ?_
  refine RW.nil ?_
  refine W.c0 ?_
  refine W.skip ?_
  refine W.seq (W.region ?_)
  iterate 2 refine RW.v ?_
  refine RW.mkL H (x := .row ⟨[.int .i64 (((decodeL rest).1 : Nat) : Int)], 3, false⟩) (fm := fun b => .slice (some ⟨b, 0, none⟩) 1 1) (by kernel_rfl) (by kernel_rfl) (by kernel_rfl) (by kernel_rfl) ?_
  clear H; intro _ b2 _ H
  refine RW.appL H 1 0 (n := 1) (e2 := 3) (by kernel_rfl) (by kernel_rfl) rfl rfl rfl rfl rfl rfl rfl rfl (by kernel_rfl) (by kernel_rfl) (by kernel_rfl) (by decide) (by decide) rfl rfl (by omega) (by kernel_rfl) ?_
  clear H; intro _ v3 _ H
  dsimp only [setL, delL] at H
  refine RW.v ?_
  refine RW.nil ?_
  refine W.rg [(0, .string ⟨rest.toArray⟩), (4, v3), (6, .int .i64 (((decodeL rest).2 : Nat) : Int))] fun TA => ?_
  refine W.region ?_
  iterate 2 refine RW.v ?_
  refine RW.vop (v := .string ⟨(rest.drop ((decodeL rest).2)).toArray⟩) (by kernel_rfl) (by kernel_rfl) (vop_sTailL (a := rest) (j := (decodeL rest).2) rfl rfl rfl Tryd.underlying9 (by omega)) (by kernel_rfl) ?_
  refine RW.v ?_
  refine RW.nil ?_
  refine blkQ_normal ?_
  rw [intz_snoc, intz_len] at H
  exact ⟨rfl, mm - 1, by omega, (rest.drop (decodeL rest).2), (acc ++ [(((decodeL rest).1 : Nat) : Int)]), v3, (by rw [List.length_drop]; omega), (by rw [List.length_drop]; omega), d4, (by rw [List.append_assoc, ← hacc, d3]; rfl), H, rfl, rfl⟩
 ·have hc1b := hc1
  have hc1 := of_decide_eq_false hc1
  refine W.exit _ ?_
  refine seqQ_exit ?_
  refine rndQ_exit ?_
  obtain rfl : rest = [] := List.eq_nil_of_length_eq_zero (by omega)
  refine blkQ_here ?_
  refine W.seq (W.region ?_)
  iterate 3 refine RW.v ?_
  refine RW.nil ?_
  refine W.ret ?_
  refine endG (by rfl) (by exact resL_tmp (by exact resL_tmp rfl)) ?_
  have ea : acc = runes bs := by rw [← hacc]; exact (List.append_nil _).symm
  rw [ea] at H
  obtain ⟨F', le, hv2, H⟩ := H.freezeK 0 rfl
  exact ⟨F', _, le, rfl, hv2, H⟩
end
end Go.Proofs.YthemeeiedlbhkaaDoor
