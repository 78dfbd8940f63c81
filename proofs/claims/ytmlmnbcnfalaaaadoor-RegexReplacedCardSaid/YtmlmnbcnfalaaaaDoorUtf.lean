/-
  Plain: strings of bytes as the encodings of lists of characters. No program in this text. Conditions: none.
-/
import Derived.Lib.ValidLaws
import Derived.Lib.MapLaws
import Derived.Lib.RuneCount
namespace Go.Proofs.YtmlmnbcnfalaaaaDoor
open Go.Lib

def chB (c : Int) : Bool := decide (0 ≤ c ∧ c ≤ 1114111 ∧ (c < 55296 ∨ 57343 < c))
theorem chB_iff {c : Int} : chB c = true ↔ 0 ≤ c ∧ c ≤ 1114111 ∧ (c < 55296 ∨ 57343 < c) := by simp [chB]
def encA (cs : List Int) : List UInt8 := cs.flatMap encodeRune
def runesF : Nat → List UInt8 → List Int
 | 0, _ => []
 | n + 1, l => if l = [] then [] else ((decodeL l).1 : Int) :: runesF n (l.drop (decodeL l).2)
def runes (l : List UInt8) : List Int := runesF l.length l

theorem runesF_nil : ∀ n, runesF n [] = []
 | 0 => rfl
 | _ + 1 => by simp [runesF]
theorem runesF_fuel : ∀ (n m : Nat) (l : List UInt8), l.length ≤ n → l.length ≤ m → runesF n l = runesF m l
 | 0, m, l, hn, _ => by
  obtain rfl : l = [] := List.eq_nil_of_length_eq_zero (by omega)
  rw [runesF_nil, runesF_nil]
 | n + 1, 0, l, _, hm => by
  obtain rfl : l = [] := List.eq_nil_of_length_eq_zero (by omega)
  rw [runesF_nil, runesF_nil]
 | n + 1, m + 1, l, hn, hm => by
  by_cases hne : l = []
  ·subst hne; rw [runesF_nil, runesF_nil]
  ·have hw := decodeL_width l
   have hl : 0 < l.length := List.length_pos_iff.2 hne
   simp only [runesF, if_neg hne]
   rw [runesF_fuel n m _ (by rw [List.length_drop]; omega) (by rw [List.length_drop]; omega)]
theorem runes_nil : runes [] = [] := rfl
theorem runes_step (l : List UInt8) (hne : l ≠ []) : runes l = ((decodeL l).1 : Int) :: runes (l.drop (decodeL l).2) := by
 have hw := decodeL_width l
 have hl : 0 < l.length := List.length_pos_iff.2 hne
 obtain ⟨n, hn⟩ : ∃ n, l.length = n + 1 := ⟨l.length - 1, by omega⟩
 unfold runes
 rw [hn]
 simp only [runesF, if_neg hne]
 rw [runesF_fuel n _ _ (by rw [List.length_drop]; omega) (Nat.le_refl _)]

theorem byte_toNat (z : Int) (h0 : 0 ≤ z) (h1 : z < 256) : (z.toNat.toUInt8).toNat = z.toNat := by
 simp only [Nat.toUInt8_eq, UInt8.toNat_ofNat']
 omega

theorem enc_ne (c : Int) : encodeRune c ≠ [] := by
 have := encodeRuneZ_length c
 intro h
 have : (encodeRune c).length = 0 := by rw [h]; rfl
 simp only [encodeRune, List.length_map] at this
 omega
theorem enc_len (c : Int) : 1 ≤ (encodeRune c).length ∧ (encodeRune c).length ≤ 4 := by
 have := encodeRuneZ_length c
 simpa [encodeRune] using this

theorem decode_enc (c : Int) (hc : chB c = true) (t : List UInt8) : decodeL (encodeRune c ++ t) = (c.toNat, (encodeRune c).length) := by
 obtain ⟨h0, h1, h2⟩ := chB_iff.1 hc
 rw [decodeL_N]
 unfold encodeRune
 by_cases a : c ≤ 127
 ·rw [encodeRuneZ_one h0 a]
  simp only [List.map_cons, List.map_nil, List.cons_append, List.nil_append, List.getD_cons_zero, List.length_cons, List.length_nil]
  rw [byte_toNat c (by omega) (by omega)]
  unfold decodeN
  rw [if_pos (by omega)]
 ·by_cases b : c ≤ 2047
  ·rw [encodeRuneZ_two (by omega) b]
   simp only [List.map_cons, List.map_nil, List.cons_append, List.nil_append, List.getD_cons_zero, List.getD_cons_succ, List.length_cons, List.length_nil]
   rw [byte_toNat (192 + c / 64) (by omega) (by omega), byte_toNat (128 + c % 64) (by omega) (by omega)]
   unfold decodeN
   rw [if_neg (by omega), if_pos (by omega), if_pos (by omega)]
   refine Prod.ext ?_ rfl
   show _ = c.toNat
   omega
  ·by_cases d : c ≤ 65535
   ·rw [encodeRuneZ_three (by omega)]
    simp only [List.map_cons, List.map_nil, List.cons_append, List.nil_append, List.getD_cons_zero, List.getD_cons_succ, List.length_cons, List.length_nil]
    rw [byte_toNat (224 + c / 4096) (by omega) (by omega), byte_toNat (128 + c / 64 % 64) (by omega) (by omega), byte_toNat (128 + c % 64) (by omega) (by omega)]
    unfold decodeN
    rw [if_neg (by omega), if_neg (by omega), if_pos (by omega), if_pos (by omega)]
    refine Prod.ext ?_ rfl
    show _ = c.toNat
    omega
   ·rw [encodeRuneZ_four (by omega) (by omega)]
    simp only [List.map_cons, List.map_nil, List.cons_append, List.nil_append, List.getD_cons_zero, List.getD_cons_succ, List.length_cons, List.length_nil]
    rw [byte_toNat (240 + c / 262144) (by omega) (by omega), byte_toNat (128 + c / 4096 % 64) (by omega) (by omega), byte_toNat (128 + c / 64 % 64) (by omega) (by omega), byte_toNat (128 + c % 64) (by omega) (by omega)]
    unfold decodeN
    rw [if_neg (by omega), if_neg (by omega), if_neg (by omega), if_pos (by omega), if_pos (by omega)]
    refine Prod.ext ?_ rfl
    show _ = c.toNat
    omega

theorem enc_good (c : Int) (hc : chB c = true) : ¬ (c.toNat = 65533 ∧ (encodeRune c).length = 1) := by
 obtain ⟨h0, h1, h2⟩ := chB_iff.1 hc
 rintro ⟨e, hl⟩
 obtain rfl : c = 65533 := by omega
 have : (encodeRune 65533).length = 3 := by decide
 omega

theorem dec_ch (l : List UInt8) : chB ((decodeL l).1 : Int) = true := by
 rw [chB_iff, decodeL_N]
 have k0 := (l.getD 0 0).toNat_lt
 rcases decodeN_shape l.length (l.getD 0 0).toNat (l.getD 1 0).toNat (l.getD 2 0).toNat (l.getD 3 0).toNat with ⟨c, e⟩ | ⟨c1, c2, c3, cv, e⟩ | ⟨c1, c2, c3, c4, cv, cs, e⟩ | ⟨c1, c2, c3, c4, c5, cv, cw, e⟩ | e
 all_goals (rw [e]; dsimp only)
 all_goals omega

theorem split_dec (l : List UInt8) (hne : l ≠ []) (hv : ¬ ((decodeL l).1 = 65533 ∧ (decodeL l).2 = 1)) : l = encodeRune ((decodeL l).1 : Int) ++ l.drop (decodeL l).2 := by
 rw [encode_decode l hne hv, List.take_append_drop]

theorem valid_enc (c : Int) (hc : chB c = true) (t : List UInt8) : validD (encodeRune c ++ t) = validD t := by
 have hne : encodeRune c ++ t ≠ [] := by simp [enc_ne c]
 rw [validD_step _ hne, decode_enc c hc t, if_neg (enc_good c hc)]
 simp
theorem runes_enc (c : Int) (hc : chB c = true) (t : List UInt8) : runes (encodeRune c ++ t) = c :: runes t := by
 have hne : encodeRune c ++ t ≠ [] := by simp [enc_ne c]
 obtain ⟨h0, _, _⟩ := chB_iff.1 hc
 rw [runes_step _ hne, decode_enc c hc t]
 have e : ((c.toNat : Nat) : Int) = c := by omega
 simp [e]

theorem encA_nil : encA [] = [] := rfl
theorem encA_cons (c : Int) (cs : List Int) : encA (c :: cs) = encodeRune c ++ encA cs := by simp [encA]
theorem encA_append (a b : List Int) : encA (a ++ b) = encA a ++ encA b := by simp [encA]

theorem valid_encA_append : ∀ (cs : List Int) (t : List UInt8), (∀ c ∈ cs, chB c = true) → validD (encA cs ++ t) = validD t ∧ runes (encA cs ++ t) = cs ++ runes t
 | [], t, _ => ⟨rfl, rfl⟩
 | c :: cs, t, h => by
  have hc := h c (by simp)
  obtain ⟨h1, h2⟩ := valid_encA_append cs t (fun d hd => h d (by simp [hd]))
  rw [encA_cons, List.append_assoc, valid_enc c hc, runes_enc c hc, h1, h2]
  exact ⟨rfl, rfl⟩
theorem valid_ok : ∀ (n : Nat) (l : List UInt8), l.length ≤ n → validD l = true → l = encA (runes l) ∧ ∀ c ∈ runes l, chB c = true
 | 0, l, hn, _ => by
  obtain rfl : l = [] := List.eq_nil_of_length_eq_zero (by omega)
  exact ⟨rfl, by simp [runes_nil]⟩
 | n + 1, l, hn, hv => by
  by_cases hne : l = []
  ·subst hne; exact ⟨rfl, by simp [runes_nil]⟩
  ·rw [validD_step l hne] at hv
   by_cases hb : (decodeL l).1 = 65533 ∧ (decodeL l).2 = 1
   ·rw [if_pos hb] at hv; cases hv
   ·rw [if_neg hb] at hv
    have hw := decodeL_width l
    have hl : 0 < l.length := List.length_pos_iff.2 hne
    obtain ⟨h1, h2⟩ := valid_ok n _ (by rw [List.length_drop]; omega) hv
    have hs := split_dec l hne hb
    have hc := dec_ch l
    rw [runes_step l hne, encA_cons, ← h1]
    refine ⟨hs, ?_⟩
    intro c hc'
    rcases List.mem_cons.1 hc' with rfl | hc'
    ·exact hc
    ·exact h2 c hc'
theorem valid_eq {l : List UInt8} (hv : validD l = true) : encA (runes l) = l := (valid_ok _ l (Nat.le_refl _) hv).1.symm
theorem valid_ch {l : List UInt8} (hv : validD l = true) : ∀ c ∈ runes l, chB c = true := (valid_ok _ l (Nat.le_refl _) hv).2

theorem runes_length_le : ∀ (n : Nat) (l : List UInt8), l.length ≤ n → (runes l).length ≤ l.length
 | 0, l, hn => by
  obtain rfl : l = [] := List.eq_nil_of_length_eq_zero (by omega)
  simp [runes_nil]
 | n + 1, l, hn => by
  by_cases hne : l = []
  ·subst hne; simp [runes_nil]
  ·have hw := decodeL_width l
   have hl : 0 < l.length := List.length_pos_iff.2 hne
   have ih := runes_length_le n (l.drop (decodeL l).2) (by rw [List.length_drop]; omega)
   rw [runes_step l hne, List.length_cons]
   rw [List.length_drop] at ih
   omega
theorem runes_le (l : List UInt8) : (runes l).length ≤ l.length := runes_length_le _ l (Nat.le_refl _)
/-! ### joins -/
/-! ### counting -/
def lenOf (l : List UInt8) : Nat := if validD l then (runes l).length else 0
theorem lenOf_yes {l : List UInt8} (h : validD l = true) : lenOf l = (runes l).length := by simp [lenOf, h]
theorem lenOf_no {l : List UInt8} (h : validD l = false) : lenOf l = 0 := by simp [lenOf, h]
end Go.Proofs.YtmlmnbcnfalaaaaDoor
