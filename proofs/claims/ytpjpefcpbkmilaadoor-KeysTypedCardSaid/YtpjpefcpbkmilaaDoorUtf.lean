/-
  Plain: strings of bytes as the encodings of lists of characters. No program in this text. Conditions: none.
-/
import Derived.Lib.ValidLaws
import Derived.Lib.MapLaws
import Derived.Lib.RuneCount
namespace Go.Proofs.YtpjpefcpbkmilaaDoor
open Go.Lib

def chB (c : Int) : Bool := decide (0 ≤ c ∧ c ≤ 1114111 ∧ (c < 55296 ∨ 57343 < c))
theorem chB_iff {c : Int} : chB c = true ↔ 0 ≤ c ∧ c ≤ 1114111 ∧ (c < 55296 ∨ 57343 < c) := by simp [chB]
def encA (cs : List Int) : List UInt8 := cs.flatMap encodeRune
def runesF : Nat → List UInt8 → List Int
  | 0, _ => []
  | n + 1, l => if l = [] then [] else ((decodeL l).1 : Int) :: runesF n (l.drop (decodeL l).2)
def runes (l : List UInt8) : List Int := runesF l.length l

theorem byte_toNat (z : Int) (h0 : 0 ≤ z) (h1 : z < 256) : (z.toNat.toUInt8).toNat = z.toNat := by
  simp only [Nat.toUInt8_eq, UInt8.toNat_ofNat']
  omega

theorem enc_ne (c : Int) : encodeRune c ≠ [] := by
  have := encodeRuneZ_length c
  intro h
  have : (encodeRune c).length = 0 := by rw [h]; rfl
  simp only [encodeRune, List.length_map] at this
  omega
theorem enc_len (c : Int) : 1 ≤ (encodeRune c).length ∧ (encodeRune c).length ≤ 4 := by
  have := encodeRuneZ_length c
  simpa [encodeRune] using this

theorem decode_enc (c : Int) (hc : chB c = true) (t : List UInt8) : decodeL (encodeRune c ++ t) = (c.toNat, (encodeRune c).length) := by
  obtain ⟨h0, h1, h2⟩ := chB_iff.1 hc
  rw [decodeL_N]
  unfold encodeRune
  by_cases a : c ≤ 127
  · rw [encodeRuneZ_one h0 a]
    simp only [List.map_cons, List.map_nil, List.cons_append, List.nil_append, List.getD_cons_zero, List.length_cons, List.length_nil]
    rw [byte_toNat c (by omega) (by omega)]
    unfold decodeN
    rw [if_pos (by omega)]
  · by_cases b : c ≤ 2047
    · rw [encodeRuneZ_two (by omega) b]
      simp only [List.map_cons, List.map_nil, List.cons_append, List.nil_append, List.getD_cons_zero, List.getD_cons_succ, List.length_cons, List.length_nil]
      rw [byte_toNat (192 + c / 64) (by omega) (by omega), byte_toNat (128 + c % 64) (by omega) (by omega)]
      unfold decodeN
      rw [if_neg (by omega), if_pos (by omega), if_pos (by omega)]
      refine Prod.ext ?_ rfl
      show _ = c.toNat
      omega
    · by_cases d : c ≤ 65535
      · rw [encodeRuneZ_three (by omega)]
        simp only [List.map_cons, List.map_nil, List.cons_append, List.nil_append, List.getD_cons_zero, List.getD_cons_succ, List.length_cons, List.length_nil]
        rw [byte_toNat (224 + c / 4096) (by omega) (by omega), byte_toNat (128 + c / 64 % 64) (by omega) (by omega), byte_toNat (128 + c % 64) (by omega) (by omega)]
        unfold decodeN
        rw [if_neg (by omega), if_neg (by omega), if_pos (by omega), if_pos (by omega)]
        refine Prod.ext ?_ rfl
        show _ = c.toNat
        omega
      · rw [encodeRuneZ_four (by omega) (by omega)]
        simp only [List.map_cons, List.map_nil, List.cons_append, List.nil_append, List.getD_cons_zero, List.getD_cons_succ, List.length_cons, List.length_nil]
        rw [byte_toNat (240 + c / 262144) (by omega) (by omega), byte_toNat (128 + c / 4096 % 64) (by omega) (by omega), byte_toNat (128 + c / 64 % 64) (by omega) (by omega), byte_toNat (128 + c % 64) (by omega) (by omega)]
        unfold decodeN
        rw [if_neg (by omega), if_neg (by omega), if_neg (by omega), if_pos (by omega), if_pos (by omega)]
        refine Prod.ext ?_ rfl
        show _ = c.toNat
        omega

theorem enc_good (c : Int) (hc : chB c = true) : ¬ (c.toNat = 65533 ∧ (encodeRune c).length = 1) := by
  obtain ⟨h0, h1, h2⟩ := chB_iff.1 hc
  rintro ⟨e, hl⟩
  obtain rfl : c = 65533 := by omega
  have : (encodeRune 65533).length = 3 := by decide
  omega

theorem dec_ch (l : List UInt8) : chB ((decodeL l).1 : Int) = true := by
  rw [chB_iff, decodeL_N]
  have k0 := (l.getD 0 0).toNat_lt
  rcases decodeN_shape l.length (l.getD 0 0).toNat (l.getD 1 0).toNat (l.getD 2 0).toNat (l.getD 3 0).toNat with ⟨c, e⟩ | ⟨c1, c2, c3, cv, e⟩ | ⟨c1, c2, c3, c4, cv, cs, e⟩ | ⟨c1, c2, c3, c4, c5, cv, cw, e⟩ | e
  all_goals (rw [e]; dsimp only)
  all_goals omega

theorem encA_nil : encA [] = [] := rfl
theorem encA_cons (c : Int) (cs : List Int) : encA (c :: cs) = encodeRune c ++ encA cs := by simp [encA]
theorem encA_append (a b : List Int) : encA (a ++ b) = encA a ++ encA b := by simp [encA]

/-! ### joins -/
theorem getD_append_left (a b : List UInt8) (k : Nat) (h : k < a.length) : (a ++ b).getD k 0 = a.getD k 0 := by
  simp only [List.getD_eq_getElem?_getD]
  rw [List.getElem?_append_left h]

/-! ### counting -/
def lenOf (l : List UInt8) : Nat := if validD l then (runes l).length else 0
end Go.Proofs.YtpjpefcpbkmilaaDoor
