/-
  Plain: strings of bytes as the encodings of lists of characters. No program in this text. Conditions: none.
-/
import Derived.Lib.ValidLaws
import Derived.Lib.MapLaws
import Derived.Lib.RuneCount
namespace Go.Proofs.YtjcmdifpkafdkaaDoor
open Go.Lib

def chB (c : Int) : Bool := decide (0 ≤ c ∧ c ≤ 1114111 ∧ (c < 55296 ∨ 57343 < c))
theorem chB_iff {c : Int} : chB c = true ↔ 0 ≤ c ∧ c ≤ 1114111 ∧ (c < 55296 ∨ 57343 < c) := by simp [chB]
def encA (cs : List Int) : List UInt8 := cs.flatMap encodeRune
def runesF : Nat → List UInt8 → List Int
 | 0, _ => []
 | n + 1, l => if l = [] then [] else ((decodeL l).1 : Int) :: runesF n (l.drop (decodeL l).2)
def runes (l : List UInt8) : List Int := runesF l.length l

theorem runesF_nil : ∀ n, runesF n [] = []
 | 0 => rfl
 | _ + 1 => by simp [runesF]
theorem runesF_fuel : ∀ (n m : Nat) (l : List UInt8), l.length ≤ n → l.length ≤ m → runesF n l = runesF m l
 | 0, m, l, hn, _ => by
  obtain rfl : l = [] := List.eq_nil_of_length_eq_zero (by omega)
  rw [runesF_nil, runesF_nil]
 | n + 1, 0, l, _, hm => by
  obtain rfl : l = [] := List.eq_nil_of_length_eq_zero (by omega)
  rw [runesF_nil, runesF_nil]
 | n + 1, m + 1, l, hn, hm => by
  by_cases hne : l = []
  ·subst hne; rw [runesF_nil, runesF_nil]
  ·have hw := decodeL_width l
   have hl : 0 < l.length := List.length_pos_iff.2 hne
   simp only [runesF, if_neg hne]
   rw [runesF_fuel n m _ (by rw [List.length_drop]; omega) (by rw [List.length_drop]; omega)]
theorem runes_nil : runes [] = [] := rfl
theorem runes_step (l : List UInt8) (hne : l ≠ []) : runes l = ((decodeL l).1 : Int) :: runes (l.drop (decodeL l).2) := by
 have hw := decodeL_width l
 have hl : 0 < l.length := List.length_pos_iff.2 hne
 obtain ⟨n, hn⟩ : ∃ n, l.length = n + 1 := ⟨l.length - 1, by omega⟩
 unfold runes
 rw [hn]
 simp only [runesF, if_neg hne]
 rw [runesF_fuel n _ _ (by rw [List.length_drop]; omega) (Nat.le_refl _)]

theorem dec_ch (l : List UInt8) : chB ((decodeL l).1 : Int) = true := by
 rw [chB_iff, decodeL_N]
 have k0 := (l.getD 0 0).toNat_lt
 rcases decodeN_shape l.length (l.getD 0 0).toNat (l.getD 1 0).toNat (l.getD 2 0).toNat (l.getD 3 0).toNat with ⟨c, e⟩ | ⟨c1, c2, c3, cv, e⟩ | ⟨c1, c2, c3, c4, cv, cs, e⟩ | ⟨c1, c2, c3, c4, c5, cv, cw, e⟩ | e
 all_goals (rw [e]; dsimp only)
 all_goals omega

theorem split_dec (l : List UInt8) (hne : l ≠ []) (hv : ¬ ((decodeL l).1 = 65533 ∧ (decodeL l).2 = 1)) : l = encodeRune ((decodeL l).1 : Int) ++ l.drop (decodeL l).2 := by
 rw [encode_decode l hne hv, List.take_append_drop]

theorem encA_cons (c : Int) (cs : List Int) : encA (c :: cs) = encodeRune c ++ encA cs := by simp [encA]
theorem valid_ok : ∀ (n : Nat) (l : List UInt8), l.length ≤ n → validD l = true → l = encA (runes l) ∧ ∀ c ∈ runes l, chB c = true
 | 0, l, hn, _ => by
  obtain rfl : l = [] := List.eq_nil_of_length_eq_zero (by omega)
  exact ⟨rfl, by simp [runes_nil]⟩
 | n + 1, l, hn, hv => by
  by_cases hne : l = []
  ·subst hne; exact ⟨rfl, by simp [runes_nil]⟩
  ·rw [validD_step l hne] at hv
   by_cases hb : (decodeL l).1 = 65533 ∧ (decodeL l).2 = 1
   ·rw [if_pos hb] at hv; cases hv
   ·rw [if_neg hb] at hv
    have hw := decodeL_width l
    have hl : 0 < l.length := List.length_pos_iff.2 hne
    obtain ⟨h1, h2⟩ := valid_ok n _ (by rw [List.length_drop]; omega) hv
    have hs := split_dec l hne hb
    have hc := dec_ch l
    rw [runes_step l hne, encA_cons, ← h1]
    refine ⟨hs, ?_⟩
    intro c hc'
    rcases List.mem_cons.1 hc' with rfl | hc'
    ·exact hc
    ·exact h2 c hc'
theorem valid_eq {l : List UInt8} (hv : validD l = true) : encA (runes l) = l := (valid_ok _ l (Nat.le_refl _) hv).1.symm
theorem runes_length_le : ∀ (n : Nat) (l : List UInt8), l.length ≤ n → (runes l).length ≤ l.length
 | 0, l, hn => by
  obtain rfl : l = [] := List.eq_nil_of_length_eq_zero (by omega)
  simp [runes_nil]
 | n + 1, l, hn => by
  by_cases hne : l = []
  ·subst hne; simp [runes_nil]
  ·have hw := decodeL_width l
   have hl : 0 < l.length := List.length_pos_iff.2 hne
   have ih := runes_length_le n (l.drop (decodeL l).2) (by rw [List.length_drop]; omega)
   rw [runes_step l hne, List.length_cons]
   rw [List.length_drop] at ih
   omega
theorem runes_le (l : List UInt8) : (runes l).length ≤ l.length := runes_length_le _ l (Nat.le_refl _)
/-! ### joins -/
/-! ### counting -/
theorem runeCountFrom_eq (s : ByteArray) : ∀ (f pos : Nat), s.size ≤ pos + f → runeCountFrom s f pos = (runes (s.data.toList.drop pos)).length
  | 0, pos, h => by
    have : s.data.toList.drop pos = [] := List.drop_eq_nil_of_le (by simp; exact h)
    rw [this]; rfl
  | f + 1, pos, h => by
    unfold runeCountFrom
    by_cases hp : pos < s.size
    · have hne : s.data.toList.drop pos ≠ [] := by
        intro e
        have := congrArg List.length e
        simp only [List.length_drop, List.length_nil, Array.length_toList] at this
        have hs : s.data.size = s.size := rfl
        omega
      have hw := decodeL_width (s.data.toList.drop pos)
      rw [if_pos hp, runes_step _ hne, decodeL_drop] 
      rw [decodeL_drop] at hw
      rw [runeCountFrom_eq s f _ (by omega), List.drop_drop, List.length_cons]
      omega
    · have : s.data.toList.drop pos = [] := List.drop_eq_nil_of_le (by simp; show s.size ≤ pos; omega)
      rw [if_neg hp, this]; rfl
theorem runeCount_eq (s : ByteArray) : runeCount s = (runes s.data.toList).length := by
 unfold runeCount
 rw [runeCountFrom_eq s s.size 0 (by omega)]
 simp
def lenOf (l : List UInt8) : Nat := if validD l then (runes l).length else 0
end Go.Proofs.YtjcmdifpkafdkaaDoor
