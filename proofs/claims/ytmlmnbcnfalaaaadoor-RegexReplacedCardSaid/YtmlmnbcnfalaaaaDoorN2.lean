/-
 What a template becomes. Plain. Conditions: none.
 The characters of a string; the ranges of a text. Conditions: none.
-/
import Derived.Test.YtmlmnbcnfalaaaaDoorL4
import Derived.Test.YtmlmnbcnfalaaaaDoorV1
import Derived.Test.YtmlmnbcnfalaaaaDoorC2
import Derived.Test.YtmlmnbcnfalaaaaDoorL3
import Derived.Test.YtmlmnbcnfalaaaaDoorCqa
namespace Go.Proofs.YtmlmnbcnfalaaaaDoor
open Go.Lib
set_option maxRecDepth 100000
def partM (t : List Int) (gs : List (Int × Int)) (k : Nat) : List Int :=
 match gs[k]? with
 | some g => if 0 ≤ g.1 ∧ g.1 ≤ g.2 ∧ g.2 ≤ (t.length : Int) then (t.drop g.1.toNat).take (g.2 - g.1).toNat else []
 | none => []
def repM (t : List Int) (gs : List (Int × Int)) : List Int → Option (List Int)
 | [] => some []
 | [c] => if c = 92 then none else some [c]
 | c :: d :: r =>
  if c = 92 then
   if d = 92 then (repM t gs r).map ([92] ++ ·)
   else if d = 38 then (repM t gs r).map (partM t gs 0 ++ ·)
   else if 49 ≤ d ∧ d ≤ 57 then (repM t gs r).map (partM t gs (d - 48).toNat ++ ·)
   else none
  else (repM t gs (d :: r)).map ([c] ++ ·)
variable {t : List Int} {gs : List (Int × Int)}
theorem rep_one {c : Int} {r : List Int} (h : c ≠ 92) : repM t gs (c :: r) = (repM t gs r).map ([c] ++ ·) := by
 cases r with
 | nil =>
  have e : repM t gs [c] = if c = 92 then none else some [c] := by rw [repM]
  rw [e, if_neg h]
  rfl
 | cons d r => rw [repM, if_neg h]
theorem rep_esc {d : Int} {r : List Int} : repM t gs (92 :: d :: r) = if d = 92 then (repM t gs r).map ([92] ++ ·) else if d = 38 then (repM t gs r).map (partM t gs 0 ++ ·) else if 49 ≤ d ∧ d ≤ 57 then (repM t gs r).map (partM t gs (d - 48).toNat ++ ·) else none := by
 rw [repM, if_pos rfl]
def escM (t : List Int) (gs : List (Int × Int)) (d : Int) : Option (List Int) := if d = 92 then some [92] else if d = 38 then some (partM t gs 0) else if 49 ≤ d ∧ d ≤ 57 then some (partM t gs (d - 48).toNat) else none
theorem rep_esc2 {d : Int} {r : List Int} : repM t gs (92 :: d :: r) = (escM t gs d).bind fun p => (repM t gs r).map (p ++ ·) := by
 rw [rep_esc]
 unfold escM
 split
 ·rfl
 ·split
  ·rfl
  ·split <;> rfl
theorem rep_cat {b : List Int} : ∀ {a x : List Int}, repM t gs a = some x → repM t gs (a ++ b) = (repM t gs b).map (x ++ ·)
 | [], x, h => by
  cases h
  show repM t gs b = _
  cases repM t gs b <;> rfl
 | [c], x, h => by
  by_cases hc : c = 92
  ·subst hc; cases h
  ·rw [repM, if_neg hc] at h
   cases h
   exact rep_one hc
 | c :: d :: r, x, h => by
  by_cases hc : c = 92
  ·subst hc
   rw [rep_esc2] at h
   show repM t gs (92 :: d :: (r ++ b)) = _
   rw [rep_esc2]
   cases he : escM t gs d with
   | none => rw [he] at h; cases h
   | some p =>
    rw [he] at h
    cases hr : repM t gs r with
    | none => rw [hr] at h; cases h
    | some y =>
     rw [hr] at h
     cases h
     show (repM t gs (r ++ b)).map (p ++ ·) = _
     rw [rep_cat hr, Option.map_map]
     congr 1
     funext z
     show p ++ (y ++ z) = (p ++ y) ++ z
     rw [List.append_assoc]
  ·rw [rep_one hc] at h
   show repM t gs (c :: ((d :: r) ++ b)) = _
   rw [rep_one hc]
   cases hr : repM t gs (d :: r) with
   | none => rw [hr] at h; cases h
   | some y =>
    rw [hr] at h
    cases h
    rw [rep_cat hr, Option.map_map]
    congr 1
theorem rep_plain : ∀ {a : List Int}, (92 : Int) ∉ a → repM t gs a = some a
 | [], _ => rfl
 | c :: r, h => by
  rw [rep_one (fun e => h (e ▸ List.mem_cons_self ..)), rep_plain fun e => h (List.mem_cons_of_mem _ e)]
  rfl
theorem part_len (k : Nat) : (partM t gs k).length ≤ t.length := by
 unfold partM
 split
 ·split
  ·rw [List.length_take, List.length_drop]; omega
  ·exact Nat.zero_le _
 ·exact Nat.zero_le _
theorem part_mem {k : Nat} {c : Int} (h : c ∈ partM t gs k) : c ∈ t := by
 unfold partM at h
 split at h
 ·split at h
  ·exact List.mem_of_mem_drop (List.mem_of_mem_take h)
  ·cases h
 ·cases h
theorem esc_mem {d c : Int} {p : List Int} (h : escM t gs d = some p) (hc : c ∈ p) : c = 92 ∨ c ∈ t := by
 unfold escM at h
 split at h
 ·cases h; exact .inl (List.mem_singleton.1 hc)
 ·split at h
  ·cases h; exact .inr (part_mem hc)
  ·split at h
   ·cases h; exact .inr (part_mem hc)
   ·cases h
theorem esc_len {d : Int} {p : List Int} (h : escM t gs d = some p) : p.length ≤ 1 + t.length := by
 unfold escM at h
 split at h
 ·cases h; exact Nat.le_add_right _ _
 ·split at h
  ·cases h; have := part_len (t := t) (gs := gs) 0; omega
  ·split at h
   ·cases h; have := part_len (t := t) (gs := gs) (d - 48).toNat; omega
   ·cases h
theorem rep_ok : ∀ {a x : List Int}, repM t gs a = some x → (∀ c ∈ x, c = 92 ∨ c ∈ t ∨ c ∈ a) ∧ 2 * x.length ≤ a.length * (t.length + 2)
 | [], x, h => by cases h; exact ⟨fun c hc => absurd hc (List.not_mem_nil), Nat.zero_le _⟩
 | [c], x, h => by
  by_cases hc : c = 92
  ·subst hc; cases h
  ·rw [repM, if_neg hc] at h
   cases h
   refine ⟨fun y hy => .inr (.inr hy), ?_⟩
   show 2 * 1 ≤ 1 * _
   omega
 | c :: d :: r, x, h => by
  by_cases hc : c = 92
  ·subst hc
   rw [rep_esc2] at h
   cases he : escM t gs d with
   | none => rw [he] at h; cases h
   | some p =>
    rw [he] at h
    cases hr : repM t gs r with
    | none => rw [hr] at h; cases h
    | some y =>
     rw [hr] at h
     cases h
     have ih := rep_ok hr
     have hl := esc_len he
     refine ⟨fun c hc => ?_, ?_⟩
     ·rcases List.mem_append.1 hc with hc | hc
      ·exact (esc_mem he hc).imp id .inl
      ·exact (ih.1 c hc).imp id (Or.imp id fun k => List.mem_cons_of_mem _ (List.mem_cons_of_mem _ k))
     ·have e : (92 :: d :: r).length * (t.length + 2) = r.length * (t.length + 2) + 2 * (t.length + 2) := Nat.add_mul r.length 2 _
      have h2 := ih.2
      rw [e, List.length_append]
      generalize r.length * (t.length + 2) = m at h2 ⊢
      omega
  ·rw [rep_one hc] at h
   cases hr : repM t gs (d :: r) with
   | none => rw [hr] at h; cases h
   | some y =>
    rw [hr] at h
    cases h
    have ih := rep_ok hr
    refine ⟨fun q hq => ?_, ?_⟩
    ·rcases List.mem_cons.1 hq with rfl | hq
     ·exact .inr (.inr (List.mem_cons_self ..))
     ·exact (ih.1 q hq).imp id (Or.imp id fun k => List.mem_cons_of_mem _ k)
    ·have e : (c :: d :: r).length * (t.length + 2) = (d :: r).length * (t.length + 2) + (t.length + 2) := Nat.succ_mul ..
     have h2 := ih.2
     rw [e]
     generalize (d :: r).length * (t.length + 2) = m at h2 ⊢
     show 2 * (y.length + 1) ≤ _
     omega
def replM (a s : List UInt8) (gs : List (Int × Int)) : List UInt8 × Int :=
 if validD a = true ∧ validD s = true then
  match repM (runes s) gs (runes a) with
  | some o => (encA o, 0)
  | none => ([], 5)
 else ([], 5)
theorem valid_cat {a b : List UInt8} (ha : validD a = true) : validD (a ++ b) = validD b ∧ runes (a ++ b) = runes a ++ runes b := by
 have h := valid_encA_append (runes a) b (valid_ch ha)
 rw [valid_eq ha] at h
 exact h
theorem repl_cat {a b s : List UInt8} (ha : (replM a s gs).2 = 0) : ((replM b s gs).2 = 0 → replM (a ++ b) s gs = ((replM a s gs).1 ++ (replM b s gs).1, 0)) ∧ ((replM b s gs).2 ≠ 0 → (replM (a ++ b) s gs).2 ≠ 0) := by
 unfold replM at ha ⊢
 by_cases h : validD a = true ∧ validD s = true
 ·rw [if_pos h] at ha ⊢
  obtain ⟨c1, c2⟩ := valid_cat (b := b) h.1
  rw [c1, c2]
  cases hr : repM (runes s) gs (runes a) with
  | none => rw [hr] at ha; cases ha
  | some x =>
   rw [rep_cat hr]
   by_cases hb : validD b = true ∧ validD s = true
   ·rw [if_pos hb, if_pos hb]
    cases hq : repM (runes s) gs (runes b) with
    | none => exact ⟨fun e => (by cases e), fun _ e => (by cases e)⟩
    | some y =>
     refine ⟨fun _ => ?_, fun e => absurd rfl e⟩
     show (encA (x ++ y), (0 : Int)) = _
     rw [encA_append]
   ·rw [if_neg hb, if_neg hb]
    exact ⟨fun e => (by cases e), fun _ e => (by cases e)⟩
 ·rw [if_neg h] at ha
  cases ha
theorem repl_plain {a s : List UInt8} (ha : validD a = true) (hs : validD s = true) (h : (92 : Int) ∉ runes a) : replM a s gs = (a, 0) := by
 unfold replM
 rw [if_pos ⟨ha, hs⟩, rep_plain h]
 show (encA (runes a), (0 : Int)) = _
 rw [valid_eq ha]
theorem repl_bad {a s : List UInt8} (hs : validD s = false) : replM a s gs = ([], 5) := by
 unfold replM
 rw [if_neg (fun e => by rw [e.2] at hs; cases hs)]
theorem repl_all {s : List UInt8} {p q : Nat} (hs : validD s = true) (h1 : p ≤ q) (h2 : q ≤ (runes s).length) : replM [92, 38] s [((p : Int), (q : Int))] = (encA (((runes s).drop p).take (q - p)), 0) := by
 unfold replM
 rw [if_pos ⟨by decide, hs⟩, show runes [92, 38] = [92, 38] from by decide, rep_esc]
 show (match (some ([] : List Int)).map (partM (runes s) [((p : Int), (q : Int))] 0 ++ ·) with | some o => (encA o, (0 : Int)) | none => ([], 5)) = _
 have e : partM (runes s) [((p : Int), (q : Int))] 0 = ((runes s).drop p).take (q - p) := by
  show (if 0 ≤ (p : Int) ∧ (p : Int) ≤ (q : Int) ∧ (q : Int) ≤ ((runes s).length : Int) then ((runes s).drop ((p : Int).toNat)).take (((q : Int) - (p : Int)).toNat) else []) = _
  rw [if_pos ⟨by omega, by omega, by omega⟩, Int.toNat_natCast, show ((q : Int) - (p : Int)).toNat = q - p by omega]
 rw [e]
 show (encA (((runes s).drop p).take (q - p) ++ []), (0 : Int)) = _
 rw [List.append_nil]
end Go.Proofs.YtmlmnbcnfalaaaaDoor
namespace Go.Proofs.YtmlmnbcnfalaaaaDoor
open Go.Lib
set_option maxRecDepth 100000
theorem slk_midZ {F : Nat → Option Blk2} {P : Program} {v : Value} {n i j t e : Nat} {xs : List Value} (h : SlK F 1 v n xs) (ht : uT P t = some (.slice e)) (hz : sizeT P e = some 1) (hi : i ≤ j) (hj : j ≤ n) {a b : Int} (ha : a = (i : Int)) (hb : b = (j : Int)) :
  ∃ v', sliceF P t v (some (.int .i64 a)) (some (.int .i64 b)) none = some v' ∧ SlF F 1 v' (j - i) ((xs.drop i).take (j - i)) := by
 cases h with
 | nil =>
  obtain rfl : j = 0 := by omega
  obtain rfl : i = 0 := by omega
  subst ha hb
  refine ⟨.slice none 0 0, ?_, .nil _ rfl⟩
  unfold sliceF
  simp only [ht, hz]
  rfl
 | some hr hx hc hle hsp =>
  rename_i b p c sp r
  rcases Nat.eq_zero_or_pos n with h0 | h0
  ·subst h0
   obtain rfl : j = 0 := by omega
   obtain rfl : i = 0 := by omega
   subst ha hb
   have h1 : boundF (some (.int .i64 ((0 : Nat) : Int))) 0 c = some 0 := by
    simp only [boundF]
    rw [if_pos (by omega)]
    rfl
   have h2 : boundF (some (.int .i64 ((0 : Nat) : Int))) 0 0 = some 0 := rfl
   have key : ∃ q, sliceF P t (.slice (some ⟨b, p, sp⟩) 0 c) (some (.int .i64 ((0 : Nat) : Int))) (some (.int .i64 ((0 : Nat) : Int))) none = some (.slice (some ⟨b, q, sp⟩) 0 (c - 0)) := by
    rcases hsp with rfl | rfl
    ·by_cases hc0 : c = 0
     ·exact ⟨p, by simp only [sliceF, ht, hz, h1, h2]; rw [if_pos hc0]⟩
     ·exact ⟨p + 0 * 1, by simp only [sliceF, ht, hz, h1, h2]; rw [if_neg hc0]⟩
    ·by_cases hc0 : c = 0
     ·exact ⟨p, by simp only [sliceF, ht, hz, h1, h2]; rw [if_pos ⟨trivial, by omega⟩, if_pos hc0]⟩
     ·exact ⟨p + 0 * 1, by simp only [sliceF, ht, hz, h1, h2]; rw [if_pos ⟨trivial, by omega⟩, if_neg hc0]⟩
   obtain ⟨q, hq⟩ := key
   refine ⟨_, hq, .some hr ?_ ?_⟩
   ·rw [List.take_zero]; rfl
   ·rw [Nat.zero_mul, List.take_zero, List.take_zero]
  ·obtain ⟨q, p', sp', c', h1, h2⟩ := slk_mid (.some hr hx hc hle hsp) h0 ht hz hi hj ha hb
   exact ⟨_, h1, h2.slf⟩
def celG (g : Int × Int) : List Value := [.int .i64 g.1, .int .i64 g.2]
abbrev gC (l : List (Int × Int)) : List Value := rowX celG l
theorem intz_x {l : List Int} {j : Nat} {i x : Int} (hx : x = l.getD j 0) (hi : i = ((j : Nat) : Int)) (h : j < l.length) : ((l.map (Value.int .i64)).drop (i.toNat * 1)).take 1 = [.int .i64 x] := hx ▸ intz_at hi h
theorem drop_x {R : List Int} {i : Nat} {x : Int} (h : i < R.length) (hx : x = R.getD i 0) : R.drop i = x :: R.drop (i + 1) := by
 rw [hx, List.getD_eq_getElem?_getD, List.getElem?_eq_getElem h, List.drop_eq_getElem_cons h]
 rfl
theorem ints_snoc (fs : List Int) (c : Int) : fs.map (Value.int .i64) ++ [.int .i64 c] = (fs ++ [c]).map (Value.int .i64) := by rw [List.map_append]; rfl
theorem rng_at {l : List (Int × Int)} {j : Nat} {i : Int} (hi : i = ((j : Nat) : Int)) (h : j < l.length) : ((gC l).drop (i.toNat * 2)).take 2 = [.int .i64 (gD l j).1, .int .i64 (gD l j).2] := by
 subst hi
 have e := rowX_at (cel := celG) (w := 2) (fun _ => rfl) h
 rw [show (((j : Nat) : Int).toNat) = j from Int.toNat_natCast j]
 exact e
theorem part_no {t : List Int} {gs : List (Int × Int)} {k : Nat} (h : gs.length ≤ k ∨ ((gD gs k).1 < 0 ∨ (gD gs k).1 > (gD gs k).2 ∨ (gD gs k).2 > (t.length : Int))) : partM t gs k = [] := by
 unfold partM
 by_cases hk : k < gs.length
 ·rw [List.getElem?_eq_getElem hk]
  rw [gD, List.getD_eq_getElem?_getD, List.getElem?_eq_getElem hk] at h
  exact if_neg (fun e => by have := h.resolve_left (by omega); simp only [Option.getD_some] at this; omega)
 ·rw [List.getElem?_eq_none (by omega)]
theorem part_yes {t : List Int} {gs : List (Int × Int)} {k : Nat} (hk : k < gs.length) (h1 : 0 ≤ (gD gs k).1) (h2 : (gD gs k).1 ≤ (gD gs k).2) (h3 : (gD gs k).2 ≤ (t.length : Int)) : partM t gs k = (t.drop (gD gs k).1.toNat).take ((gD gs k).2.toNat - (gD gs k).1.toNat) := by
 unfold partM
 rw [gD, List.getD_eq_getElem?_getD, List.getElem?_eq_getElem hk] at h1 h2 h3 ⊢
 simp only [Option.getD_some] at h1 h2 h3 ⊢
 rw [if_pos ⟨h1, h2, h3⟩]
 congr 1
 omega
theorem part_slf {F : Nat → Option Blk2} {v : Value} {t : List Int} {i n : Nat} (h : SlF F 1 v n (((t.map (Value.int .i64)).drop i).take n)) (hl : i + n ≤ t.length) : SlF F 1 v ((t.drop i).take n).length (((t.drop i).take n).map (Value.int .i64)) := by
 rw [List.length_take, List.length_drop, Nat.min_eq_left (by omega), List.map_take, List.map_drop]
 exact h
set_option maxHeartbeats 8000000 in
theorem part_wc {G : Nat} {A : Abs} {σ : Mem} {F : Nat → Option Blk2} {L : List Ent} {bg bt : Nat} {gv tv : Value} {gs : List (Int × Int)} {t : List Int} {k : Nat} (hg : SlF F 2 gv gs.length (gC gs)) (ht : SlK F 1 tv t.length (t.map (Value.int .i64))) (hk : k ≤ 1000000) (H : Lies G A F σ (.at_ bg (.row ⟨[gv], 32, false⟩) :: .at_ bt (.row ⟨[tv], 40, false⟩) :: L)) : WC G Tryd.prog 50 #[.int .i64 ((k : Nat) : Int), .pointer (some ⟨bg, 0, none⟩), .pointer (some ⟨bt, 0, none⟩)] σ fun v σ' => SlF F 1 v (partM t gs k).length ((partM t gs k).map (Value.int .i64)) ∧ Lies G A F σ' (.at_ bg (.row ⟨[gv], 32, false⟩) :: .at_ bt (.row ⟨[tv], 40, false⟩) :: L) := by
 refine WC.enter (fn := Tryd.f50) Tryd.func50 rfl ?_
 refine W.rg [(0, .int .i64 ((k : Nat) : Int)), (1, .pointer (some ⟨bg, 0, none⟩)), (2, .pointer (some ⟨bt, 0, none⟩))] fun TA => ?_
 refine W.seq (W.region ?_)
 refine RW.v ?_
 refine RW.nil ?_
 refine W.rg [(0, .int .i64 ((k : Nat) : Int)), (1, .pointer (some ⟨bg, 0, none⟩)), (2, .pointer (some ⟨bt, 0, none⟩))] fun TA => ?_
 refine W.seq ?_
 refine W.seq ?_
 refine W.drawn (by kernel_rfl) (by kernel_rfl) H.gn ?_
 have H1 := H
 refine RW.v ?_
 refine RW.ld H1 0 1 ?_
 refine RW.len (by kernel_rfl) (by kernel_rfl) rfl rfl rfl rfl (hg.len (e := 35) (by kernel_rfl)) (by kernel_rfl) ?_
 iterate 2 refine RW.v ?_
 refine RW.both _ _ rfl rfl rfl (fun hc2 => ?_) (fun hc2 => ?_)
 ·have hc2b := hc2
  have hc2 := of_decide_eq_true hc2
  iterate 6 refine RW.s ?_
  iterate 2 refine RW.v ?_
  iterate 11 refine RW.s ?_
  iterate 2 refine RW.v ?_
  iterate 8 refine RW.s ?_
  refine RW.v ?_
  refine RW.nil ?_
  refine ⟨⟨by kernel_rfl, ⟨trivial, dyn_row (H1.get 0 rfl) (H1.get 0 rfl) ⟨nB, nB, nB, nB, nB, nB, nB, nB, nB, nB, nB, nB, nB, nB, nB, nB, nB, nB, nB, nB, nB, nB, nB, nB, nB, nB, nB, nB, nB, nB, nB, nB, nB, nB, nB, trivial⟩, trivial, trivial, trivial, trivial, trivial, trivial, trivial, trivial, trivial, trivial, trivial, trivial, trivial, trivial, trivial, trivial, trivial, trivial, trivial, trivial, trivial, trivial, trivial, trivial, trivial, trivial, trivial, trivial, trivial, trivial, trivial, trivial, trivial, trivial⟩⟩, ?_⟩
  replace H := H1
  clear H1
  refine W.c1 ?_
  refine W.seq (W.region ?_)
  refine RW.v ?_
  refine RW.nil ?_
  refine W.ret ?_
  refine seqQ_ret ?_
  refine endG (by rfl) (by exact resL_tmp rfl) ?_
  rw [part_no (t := t) (gs := gs) (k := k) (by exact .inl (by omega))]
  exact ⟨.nil _ rfl, H⟩
 ·have hc2b := hc2
  have hc2 := of_decide_eq_false hc2
  have hkl : k < gs.length := by omega
  refine RW.ldL H1 0 1 (by rfl) (by kernel_rfl) rfl rfl rfl rfl rfl (by kernel_rfl) ?_
  refine RW.w ?_
  refine RW.idxF hg (by rfl) (by kernel_rfl) rfl Tryd.underlying32 (by kernel_rfl) rfl rfl ⟨by omega, by omega⟩ (by kernel_rfl) ?_
  intro b3 q4 r5 hF6 hE7
  rw [rng_at (l := gs) (j := k) (i := ((k : Nat) : Int)) (by omega) (by omega)] at hE7
  refine RW.w ?_
  refine RW.loads 1 (by rfl) (by kernel_rfl) rfl rfl (H1.old _ _ hF6) (sub_take hE7 0 1 (by decide)) rfl (by kernel_rfl) ?_
  refine RW.w ?_
  iterate 2 refine RW.v ?_
  refine RW.both _ _ rfl rfl rfl (fun hc8 => ?_) (fun hc8 => ?_)
  ·have hc8b := hc8
   have hc8 := of_decide_eq_true hc8
   iterate 11 refine RW.s ?_
   iterate 2 refine RW.v ?_
   iterate 8 refine RW.s ?_
   refine RW.v ?_
   refine RW.nil ?_
   refine ⟨⟨by kernel_rfl, ⟨trivial, dyn_row (H1.get 0 rfl) (H1.get 0 rfl) ⟨nB, nB, nB, nB, nB, nB, nB, nB, nB, nB, nB, nB, nB, nB, nB, nB, nB, nB, nB, nB, nB, nB, nB, nB, nB, nB, nB, nB, nB, nB, nB, nB, nB, nB, nB, trivial⟩, trivial, trivial, trivial, dyn_row (H1.get 0 rfl) (H1.get 0 rfl) ⟨nB, nB, nB, nB, nB, nB, nB, nB, nB, nB, nB, nB, nB, nB, nB, nB, nB, nB, nB, nB, nB, nB, nB, nB, nB, nB, nB, nB, nB, nB, nB, nB, nB, nB, nB, trivial⟩, trivial, trivial, trivial, dyn_row (H1.old _ _ hF6) (H1.old _ _ hF6) ⟨nB, nB, nB, nB, nB, nB, nB, nB, nB, nB, nB, nB, nB, nB, nB, nB, nB, nB, nB, nB, nB, nB, nB, nB, nB, nB, nB, nB, nB, nB, nB, nB, nB, nB, nB, trivial⟩, trivial, trivial, trivial, trivial, trivial, trivial, trivial, trivial, trivial, trivial, trivial, trivial, trivial, trivial, trivial, trivial, trivial, trivial, trivial, trivial, trivial, trivial, trivial, trivial, trivial, trivial⟩⟩, ?_⟩
   replace H := H1
   clear H1
   refine W.c1 ?_
   refine W.seq (W.region ?_)
   refine RW.v ?_
   refine RW.nil ?_
   refine W.ret ?_
   refine seqQ_ret ?_
   refine endG (by rfl) (by exact resL_tmp rfl) ?_
   rw [part_no (t := t) (gs := gs) (k := k) (by exact .inr (by omega))]
   exact ⟨.nil _ rfl, H⟩
  ·have hc8b := hc8
   have hc8 := of_decide_eq_false hc8
   refine RW.ldL H1 0 1 (by rfl) (by kernel_rfl) rfl rfl rfl rfl rfl (by kernel_rfl) ?_
   refine RW.w ?_
   refine RW.idxF hg (by rfl) (by kernel_rfl) rfl Tryd.underlying32 (by kernel_rfl) rfl rfl ⟨by omega, by omega⟩ (by kernel_rfl) ?_
   intro b9 q10 r11 hF12 hE13
   rw [rng_at (l := gs) (j := k) (i := ((k : Nat) : Int)) (by omega) (by omega)] at hE13
   refine RW.w ?_
   refine RW.loads 1 (by rfl) (by kernel_rfl) rfl rfl (H1.old _ _ hF12) (sub_take hE13 0 1 (by decide)) rfl (by kernel_rfl) ?_
   refine RW.ldL H1 0 1 (by rfl) (by kernel_rfl) rfl rfl rfl rfl rfl (by kernel_rfl) ?_
   refine RW.w ?_
   refine RW.idxF hg (by rfl) (by kernel_rfl) rfl Tryd.underlying32 (by kernel_rfl) rfl rfl ⟨by omega, by omega⟩ (by kernel_rfl) ?_
   intro b14 q15 r16 hF17 hE18
   rw [rng_at (l := gs) (j := k) (i := ((k : Nat) : Int)) (by omega) (by omega)] at hE18
   refine RW.w ?_
   refine RW.loads 1 (by rfl) (by kernel_rfl) rfl rfl (H1.old _ _ hF17) (sub_take hE18 1 1 (by decide)) rfl (by kernel_rfl) ?_
   refine RW.w ?_
   iterate 2 refine RW.v ?_
   refine RW.both _ _ rfl rfl rfl (fun hc19 => ?_) (fun hc19 => ?_)
   ·have hc19b := hc19
    have hc19 := of_decide_eq_true hc19
    iterate 8 refine RW.s ?_
    refine RW.v ?_
    refine RW.nil ?_
    refine ⟨⟨by kernel_rfl, ⟨trivial, dyn_row (H1.get 0 rfl) (H1.get 0 rfl) ⟨nB, nB, nB, nB, nB, nB, nB, nB, nB, nB, nB, nB, nB, nB, nB, nB, nB, nB, nB, nB, nB, nB, nB, nB, nB, nB, nB, nB, nB, nB, nB, nB, nB, nB, nB, trivial⟩, trivial, trivial, trivial, dyn_row (H1.get 0 rfl) (H1.get 0 rfl) ⟨nB, nB, nB, nB, nB, nB, nB, nB, nB, nB, nB, nB, nB, nB, nB, nB, nB, nB, nB, nB, nB, nB, nB, nB, nB, nB, nB, nB, nB, nB, nB, nB, nB, nB, nB, trivial⟩, trivial, trivial, trivial, dyn_row (H1.old _ _ hF6) (H1.old _ _ hF6) ⟨nB, nB, nB, nB, nB, nB, nB, nB, nB, nB, nB, nB, nB, nB, nB, nB, nB, nB, nB, nB, nB, nB, nB, nB, nB, nB, nB, nB, nB, nB, nB, nB, nB, nB, nB, trivial⟩, trivial, trivial, trivial, dyn_row (H1.get 0 rfl) (H1.get 0 rfl) ⟨nB, nB, nB, nB, nB, nB, nB, nB, nB, nB, nB, nB, nB, nB, nB, nB, nB, nB, nB, nB, nB, nB, nB, nB, nB, nB, nB, nB, nB, nB, nB, nB, nB, nB, nB, trivial⟩, trivial, trivial, trivial, dyn_row (H1.old _ _ hF12) (H1.old _ _ hF12) ⟨nB, nB, nB, nB, nB, nB, nB, nB, nB, nB, nB, nB, nB, nB, nB, nB, nB, nB, nB, nB, nB, nB, nB, nB, nB, nB, nB, nB, nB, nB, nB, nB, nB, nB, nB, trivial⟩, dyn_row (H1.get 0 rfl) (H1.get 0 rfl) ⟨nB, nB, nB, nB, nB, nB, nB, nB, nB, nB, nB, nB, nB, nB, nB, nB, nB, nB, nB, nB, nB, nB, nB, nB, nB, nB, nB, nB, nB, nB, nB, nB, nB, nB, nB, trivial⟩, trivial, trivial, trivial, dyn_row (H1.old _ _ hF17) (H1.old _ _ hF17) ⟨nB, nB, nB, nB, nB, nB, nB, nB, nB, nB, nB, nB, nB, nB, nB, nB, nB, nB, nB, nB, nB, nB, nB, nB, nB, nB, nB, nB, nB, nB, nB, nB, nB, nB, nB, trivial⟩, trivial, trivial, trivial, trivial, trivial, trivial, trivial, trivial, trivial, trivial, trivial, trivial, trivial⟩⟩, ?_⟩
    replace H := H1
    clear H1
    refine W.c1 ?_
    refine W.seq (W.region ?_)
    refine RW.v ?_
    refine RW.nil ?_
    refine W.ret ?_
    refine seqQ_ret ?_
    refine endG (by rfl) (by exact resL_tmp rfl) ?_
    rw [part_no (t := t) (gs := gs) (k := k) (by exact .inr (by omega))]
    exact ⟨.nil _ rfl, H⟩
   ·have hc19b := hc19
    have hc19 := of_decide_eq_false hc19
    refine RW.ldL H1 0 1 (by rfl) (by kernel_rfl) rfl rfl rfl rfl rfl (by kernel_rfl) ?_
    refine RW.w ?_
    refine RW.idxF hg (by rfl) (by kernel_rfl) rfl Tryd.underlying32 (by kernel_rfl) rfl rfl ⟨by omega, by omega⟩ (by kernel_rfl) ?_
    intro b20 q21 r22 hF23 hE24
    rw [rng_at (l := gs) (j := k) (i := ((k : Nat) : Int)) (by omega) (by omega)] at hE24
    refine RW.w ?_
    refine RW.loads 1 (by rfl) (by kernel_rfl) rfl rfl (H1.old _ _ hF23) (sub_take hE24 1 1 (by decide)) rfl (by kernel_rfl) ?_
    refine RW.ldL H1 1 1 (by rfl) (by kernel_rfl) rfl rfl rfl rfl rfl (by kernel_rfl) ?_
    refine RW.len (by rfl) (by kernel_rfl) rfl rfl rfl rfl (ht.slf.len (e := 3) (by kernel_rfl)) (by kernel_rfl) ?_
    refine RW.w ?_
    refine RW.v ?_
    refine RW.nil ?_
    refine ⟨⟨by kernel_rfl, ⟨trivial, dyn_row (H1.get 0 rfl) (H1.get 0 rfl) ⟨nB, nB, nB, nB, nB, nB, nB, nB, nB, nB, nB, nB, nB, nB, nB, nB, nB, nB, nB, nB, nB, nB, nB, nB, nB, nB, nB, nB, nB, nB, nB, nB, nB, nB, nB, trivial⟩, trivial, trivial, trivial, dyn_row (H1.get 0 rfl) (H1.get 0 rfl) ⟨nB, nB, nB, nB, nB, nB, nB, nB, nB, nB, nB, nB, nB, nB, nB, nB, nB, nB, nB, nB, nB, nB, nB, nB, nB, nB, nB, nB, nB, nB, nB, nB, nB, nB, nB, trivial⟩, trivial, trivial, trivial, dyn_row (H1.old _ _ hF6) (H1.old _ _ hF6) ⟨nB, nB, nB, nB, nB, nB, nB, nB, nB, nB, nB, nB, nB, nB, nB, nB, nB, nB, nB, nB, nB, nB, nB, nB, nB, nB, nB, nB, nB, nB, nB, nB, nB, nB, nB, trivial⟩, trivial, trivial, trivial, dyn_row (H1.get 0 rfl) (H1.get 0 rfl) ⟨nB, nB, nB, nB, nB, nB, nB, nB, nB, nB, nB, nB, nB, nB, nB, nB, nB, nB, nB, nB, nB, nB, nB, nB, nB, nB, nB, nB, nB, nB, nB, nB, nB, nB, nB, trivial⟩, trivial, trivial, trivial, dyn_row (H1.old _ _ hF12) (H1.old _ _ hF12) ⟨nB, nB, nB, nB, nB, nB, nB, nB, nB, nB, nB, nB, nB, nB, nB, nB, nB, nB, nB, nB, nB, nB, nB, nB, nB, nB, nB, nB, nB, nB, nB, nB, nB, nB, nB, trivial⟩, dyn_row (H1.get 0 rfl) (H1.get 0 rfl) ⟨nB, nB, nB, nB, nB, nB, nB, nB, nB, nB, nB, nB, nB, nB, nB, nB, nB, nB, nB, nB, nB, nB, nB, nB, nB, nB, nB, nB, nB, nB, nB, nB, nB, nB, nB, trivial⟩, trivial, trivial, trivial, dyn_row (H1.old _ _ hF17) (H1.old _ _ hF17) ⟨nB, nB, nB, nB, nB, nB, nB, nB, nB, nB, nB, nB, nB, nB, nB, nB, nB, nB, nB, nB, nB, nB, nB, nB, nB, nB, nB, nB, nB, nB, nB, nB, nB, nB, nB, trivial⟩, trivial, trivial, trivial, dyn_row (H1.get 0 rfl) (H1.get 0 rfl) ⟨nB, nB, nB, nB, nB, nB, nB, nB, nB, nB, nB, nB, nB, nB, nB, nB, nB, nB, nB, nB, nB, nB, nB, nB, nB, nB, nB, nB, nB, nB, nB, nB, nB, nB, nB, trivial⟩, trivial, trivial, trivial, dyn_row (H1.old _ _ hF23) (H1.old _ _ hF23) ⟨nB, nB, nB, nB, nB, nB, nB, nB, nB, nB, nB, nB, nB, nB, nB, nB, nB, nB, nB, nB, nB, nB, nB, nB, nB, nB, nB, nB, nB, nB, nB, nB, nB, nB, nB, trivial⟩, dyn_row (H1.get 1 rfl) (H1.get 1 rfl) ⟨nB, nB, nB, nB, nB, nB, nB, nB, nB, nB, nB, nB, nB, nB, nB, nB, nB, nB, nB, nB, nB, nB, nB, nB, nB, nB, nB, nB, nB, nB, nB, nB, nB, nB, nB, trivial⟩, trivial, trivial, trivial, trivial⟩⟩, ?_⟩
    replace H := H1
    clear H1
    refine W.rg [(0, .int .i64 ((k : Nat) : Int)), (1, .pointer (some ⟨bg, 0, none⟩)), (2, .pointer (some ⟨bt, 0, none⟩)), (39, .bool (decide (((gD gs k).2) > (t.length : Int))))] fun TA => ?_
    refine W.cond rfl (fun hc25 => ?_) (fun hc25 => ?_)
    ·have hc25b := hc25
     have hc25 := of_decide_eq_true hc25
     refine W.seq (W.region ?_)
     refine RW.v ?_
     refine RW.nil ?_
     refine W.ret ?_
     refine seqQ_ret ?_
     refine endG (by rfl) (by exact resL_tmp rfl) ?_
     rw [part_no (t := t) (gs := gs) (k := k) (by exact .inr (by omega))]
     exact ⟨.nil _ rfl, H⟩
    ·have hc25b := hc25
     have hc25 := of_decide_eq_false hc25
     refine W.skip ?_
     refine W.seq ?_
     refine W.drawn (by kernel_rfl) (by kernel_rfl) H.gn ?_
     have H26 := H
     refine RW.ld H26 1 1 ?_
     refine RW.ld H26 0 1 ?_
     refine RW.v ?_
     refine RW.idxF hg (by kernel_rfl) (by kernel_rfl) rfl Tryd.underlying32 (by kernel_rfl) rfl rfl ⟨by omega, by omega⟩ (by kernel_rfl) ?_
     intro b27 q28 r29 hF30 hE31
     rw [rng_at (l := gs) (j := k) (i := ((k : Nat) : Int)) (by omega) (by omega)] at hE31
     refine RW.v ?_
     refine RW.loads 1 (by kernel_rfl) (by kernel_rfl) rfl rfl (H26.old _ _ hF30) (sub_take hE31 0 1 (by decide)) rfl (by kernel_rfl) ?_
     refine RW.ld H26 0 1 ?_
     refine RW.v ?_
     refine RW.idxF hg (by kernel_rfl) (by kernel_rfl) rfl Tryd.underlying32 (by kernel_rfl) rfl rfl ⟨by omega, by omega⟩ (by kernel_rfl) ?_
     intro b32 q33 r34 hF35 hE36
     rw [rng_at (l := gs) (j := k) (i := ((k : Nat) : Int)) (by omega) (by omega)] at hE36
     refine RW.v ?_
     refine RW.loads 1 (by kernel_rfl) (by kernel_rfl) rfl rfl (H26.old _ _ hF35) (sub_take hE36 1 1 (by decide)) rfl (by kernel_rfl) ?_
     obtain ⟨sv, hsv, hks⟩ := slk_midZ (P := Tryd.prog) (t := 40) (e := 3) (i := (gD gs k).1.toNat) (j := (gD gs k).2.toNat) ht (by kernel_rfl) (by kernel_rfl) (by omega) (by omega) (a := (gD gs k).1) (b := (gD gs k).2) (by omega) (by omega)
     refine RW.vop (v := sv) (by kernel_rfl) (by kernel_rfl) (vop_slice rfl hsv) (by kernel_rfl) ?_
     refine RW.v ?_
     refine RW.nil ?_
     refine ⟨⟨by kernel_rfl, ⟨dyn_row (H26.get 1 rfl) (H26.get 1 rfl) ⟨nB, nB, nB, nB, nB, nB, nB, nB, nB, nB, nB, nB, nB, trivial⟩, dyn_row (H26.get 0 rfl) (H26.get 0 rfl) ⟨nB, nB, nB, nB, nB, nB, nB, nB, nB, nB, nB, nB, nB, trivial⟩, trivial, trivial, trivial, dyn_row (H26.old _ _ hF30) (H26.old _ _ hF30) ⟨nB, nB, nB, nB, nB, nB, nB, nB, nB, nB, nB, nB, nB, trivial⟩, dyn_row (H26.get 0 rfl) (H26.get 0 rfl) ⟨nB, nB, nB, nB, nB, nB, nB, nB, nB, nB, nB, nB, nB, trivial⟩, trivial, trivial, trivial, dyn_row (H26.old _ _ hF35) (H26.old _ _ hF35) ⟨nB, nB, nB, nB, nB, nB, nB, nB, nB, nB, nB, nB, nB, trivial⟩, trivial, trivial, trivial⟩⟩, ?_⟩
     replace H := H26
     clear H26
     refine W.ret ?_
     refine endG (by rfl) (by exact resL_tmp rfl) ?_
     rw [part_yes (t := t) hkl (by omega) (by omega) (by omega)]
     exact ⟨part_slf hks (by omega), H⟩
set_option maxHeartbeats 8000000 in
theorem plist_wc {G : Nat} {A : Abs} {σ : Mem} {F : Nat → Option Blk2} {L : List Ent} {bs : List UInt8} (hv : validD bs = true) (hU : U8F F) (h16 : 16 ≤ G) (hs : bs.length ≤ 1000000) (H : Lies G A F σ L) : WC G Tryd.prog 34 #[.string ⟨bs.toArray⟩] σ fun v σ' => ∃ F' u, Le F F' ∧ v = .tuple #[u, .int .i64 0] ∧ SlK F' 1 u (runes bs).length ((runes bs).map (Value.int .i64)) ∧ Lies G A F' σ' L := by
 refine WC.enter (fn := Tryd.f34) Tryd.func34 rfl ?_
 refine W.rg [(0, .string ⟨bs.toArray⟩)] fun TA => ?_
 refine W.seq (W.region ?_)
 iterate 2 refine RW.v ?_
 refine RW.nil ?_
 refine W.rg [(0, .string ⟨bs.toArray⟩)] fun TA => ?_
 refine W.seq ?_
 refine W.seq (W.region ?_)
 refine RW.v ?_
 have sv := s_valid (G := G) (bs := bs) (hU.le (fun b y h => H.old _ _ h)) h16 hs
 rw [hv] at sv
 refine RW.cl ?_
 refine ⟨_, _, sv, ?_⟩
 clear sv
 refine RW.v ?_
 refine RW.nil ?_
 refine W.c0 ?_
 refine W.skip ?_
 refine W.seq (W.region ?_)
 refine RW.v ?_
 refine RW.nil ?_
 refine W.rg [(0, .string ⟨bs.toArray⟩), (4, .slice none 0 0)] fun TA => ?_
 refine W.seq ?_
 refine W.seq (W.region ?_)
 refine RW.v ?_
 refine RW.mk H (.iter ⟨bs.toArray⟩ 0) ?_
 clear H; intro _ it1 _ H
 refine RW.nil ?_
 refine W.rg [(4, .slice none 0 0), (11, .pointer (some ⟨it1, 0, none⟩))] fun TA => ?_
 refine W.block ?_
 replace H := H.nilSl 3 1
 refine W.loop (fun mm ta σ => ∃ (p : Nat) (fs : List Int) (u : Value), (bs.length ≤ mm + p) ∧ (runes bs = fs ++ runes (bs.drop p)) ∧ (fs.length + (runes (bs.drop p)).length ≤ 1000000) ∧ Lies G A F σ (.sl 3 1 u fs.length (fs.map (Value.int .i64)) :: .at_ it1 (.iter ⟨bs.toArray⟩ p) :: (L)) ∧ ta 4 = u ∧ ta 11 = .pointer (some ⟨it1, 0, none⟩)) bs.length ?_ ?_
 ·exact ⟨0, [], .slice none 0 0, (by omega), rfl, (by show 0 + (runes bs).length ≤ _; have := runes_le bs; omega), H, rfl, rfl⟩
 clear H
 rintro mm ta _ ⟨p, fs, u, hm, hf, hfl, H, e4, e11⟩
 refine W.rst [(4, u), (11, .pointer (some ⟨it1, 0, none⟩))] ⟨e4, e11, trivial⟩ fun TA => ?_
 clear e4 e11
 refine W.seq (W.region ?_)
 rcases Nat.lt_or_ge p bs.length with hp | hp
 ·refine RW.nxtT H 1 hp ?_
  clear H; intro _ _ c p2 hlt hcr hr H
  dsimp only [setL, delL] at H
  refine RW.v ?_
  refine RW.nil ?_
  refine W.rg [(4, u), (11, .pointer (some ⟨it1, 0, none⟩)), (12, .tuple #[.bool true, .int .i64 ((p : Nat) : Int), .int .i32 ((c : Nat) : Int)]), (13, .bool true)] fun TA => ?_
  refine W.seq ?_
  refine W.c1 ?_
  refine W.skip ?_
  refine W.block ?_
  refine W.seq (W.region ?_)
  iterate 2 refine RW.v ?_
  refine RW.nil ?_
  refine W.rg [(4, u), (6, .int .i32 ((c : Nat) : Int)), (11, .pointer (some ⟨it1, 0, none⟩))] fun TA => ?_
  refine W.region ?_
  iterate 2 refine RW.v ?_
  refine RW.valE (v' := .int .i64 ((c : Nat) : Int)) (by kernel_rfl) (by kernel_rfl) rfl (congrArg (Value.int .i64) (wrap_in (by omega) (by omega))) (by kernel_rfl) ?_
  refine RW.mkL H (x := .row ⟨[.int .i64 ((c : Nat) : Int)], 3, false⟩) (fm := fun b => .slice (some ⟨b, 0, none⟩) 1 1) (by kernel_rfl) (by kernel_rfl) (by kernel_rfl) (by kernel_rfl) ?_
  clear H; intro _ b2 _ H
  have hfl2 := hfl
  rw [hr, List.length_cons] at hfl2
  refine RW.appL H 1 0 (n := 1) (e2 := 3) (by kernel_rfl) (by kernel_rfl) rfl rfl rfl rfl rfl rfl rfl rfl (by kernel_rfl) (by kernel_rfl) (by kernel_rfl) (by decide) (by decide) rfl rfl (by omega) (by kernel_rfl) ?_
  clear H; intro _ v3 _ H
  dsimp only [setL, delL] at H
  refine RW.v ?_
  refine RW.nil ?_
  refine blkQ_normal ?_
  rw [ints_snoc, show fs.length + 1 = (fs ++ [((c : Nat) : Int)]).length by rw [List.length_append]; rfl] at H
  exact ⟨rfl, bs.length - p2, by omega, p2, fs ++ [((c : Nat) : Int)], v3, (by omega), (by rw [hf, hr, List.append_assoc]; rfl), (by rw [hr, List.length_cons] at hfl; rw [List.length_append, List.length_singleton]; omega), H, rfl, rfl⟩
 ·refine RW.nxtF H 1 hp ?_
  clear H; intro _ _ H; dsimp only [setL, delL] at H
  refine RW.v ?_
  refine RW.nil ?_
  refine W.rg [(4, u), (11, .pointer (some ⟨it1, 0, none⟩)), (12, .tuple #[.bool false]), (13, .bool false)] fun TA => ?_
  refine W.seq ?_
  refine W.c0 ?_
  refine W.exit _ ?_
  refine seqQ_exit ?_
  refine rndQ_exit ?_
  obtain rfl : fs = runes bs := by rw [hf, List.drop_eq_nil_of_le hp]; exact (List.append_nil _).symm
  refine blkQ_here ?_
  refine W.seq (W.region ?_)
  iterate 3 refine RW.v ?_
  refine RW.nil ?_
  replace H := (H.del 1)
  dsimp only [setL, delL] at H
  refine W.ret ?_
  refine endG (by rfl) (by exact resL_tmp (by exact resL_tmp rfl)) ?_
  obtain ⟨F', le, hS, H⟩ := H.freezeK 0 rfl
  dsimp only [setL, delL] at H
  exact ⟨F', _, le, rfl, hS, H⟩
set_option maxHeartbeats 8000000 in
theorem plistno_wc {G : Nat} {A : Abs} {σ : Mem} {F : Nat → Option Blk2} {L : List Ent} {bs : List UInt8} (hv : validD bs = false) (hU : U8F F) (h16 : 16 ≤ G) (hs : bs.length ≤ 1000000) (H : Lies G A F σ L) : WC G Tryd.prog 34 #[.string ⟨bs.toArray⟩] σ fun v σ' => v = .tuple #[.slice none 0 0, .int .i64 5] ∧ Lies G A F σ' L := by
 refine WC.enter (fn := Tryd.f34) Tryd.func34 rfl ?_
 refine W.rg [(0, .string ⟨bs.toArray⟩)] fun TA => ?_
 refine W.seq (W.region ?_)
 iterate 2 refine RW.v ?_
 refine RW.nil ?_
 refine W.rg [(0, .string ⟨bs.toArray⟩)] fun TA => ?_
 refine W.seq ?_
 refine W.seq (W.region ?_)
 refine RW.v ?_
 have sv := s_valid (G := G) (bs := bs) (hU.le (fun b y h => H.old _ _ h)) h16 hs
 rw [hv] at sv
 refine RW.cl ?_
 refine ⟨_, _, sv, ?_⟩
 clear sv
 refine RW.v ?_
 refine RW.nil ?_
 refine W.c1 ?_
 refine W.seq (W.region ?_)
 iterate 2 refine RW.v ?_
 refine RW.nil ?_
 refine W.ret ?_
 refine seqQ_ret ?_
 refine endG (by rfl) (by exact resL_tmp (by exact resL_tmp rfl)) ?_
 exact ⟨rfl, H⟩
end Go.Proofs.YtmlmnbcnfalaaaaDoor
