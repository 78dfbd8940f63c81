/-
  What bytes from the terminal are decoded to, in plain words. Conditions: none.
-/
import Derived.Test.YtpjpefcpbkmilaaDoorK3
namespace Go.Proofs.YtpjpefcpbkmilaaDoor
open Go.Lib
set_option maxRecDepth 100000
def cutM (l : List UInt8) : List UInt8 × List UInt8 × Bool := if 0 ≤ indexByte l 59 then (l.take (indexByte l 59).toNat, l.drop ((indexByte l 59).toNat + 1), true) else (l, [], false)
theorem index_lt (c : UInt8) : ∀ l : List UInt8, 0 ≤ indexByte l c → indexByte l c < (l.length : Int)
  | [], h => by simp [indexByte] at h
  | b :: l, h => by
    have ih := index_lt c l
    have g := indexByte_ge l c
    unfold indexByte at h ⊢
    rw [List.length_cons]
    split
    · omega
    · split
      · omega
      · rename_i h2
        have : indexByte l c ≠ -1 := fun e => h2 (by rw [e]; rfl)
        have := ih (by omega)
        omega
def letterM (c : Nat) : Int := if c = 65 then 2097165 else if c = 66 then 2097166 else if c = 67 then 2097168 else if c = 68 then 2097167 else if c = 72 then 2097169 else if c = 70 then 2097170 else -1
def numM (l : List UInt8) : Int :=
  if [49] = l then 2097169 else if [50] = l then 2097173 else if [51] = l then 2097174 else if [52] = l then 2097170 else if [53] = l then 2097171 else if [54] = l then 2097172
  else if [49, 49] = l then 2097153 else if [49, 50] = l then 2097154 else if [49, 51] = l then 2097155 else if [49, 52] = l then 2097156 else if [49, 53] = l then 2097157 else if [49, 55] = l then 2097158
  else if [49, 56] = l then 2097159 else if [49, 57] = l then 2097160 else if [50, 48] = l then 2097161 else if [50, 49] = l then 2097162 else if [50, 51] = l then 2097163 else if [50, 52] = l then 2097164 else -1
def baseM (l : List UInt8) (fin : Nat) : Int :=
  if fin = 126 then numM (cutM l).1 else if l ≠ [] ∧ ¬ ((cutM l).1 = [49] ∧ (cutM l).2.2 = true) then -1 else if fin = 90 then 2097179 else letterM fin
def modsM (x : Nat) : Int := (if x % 2 = 1 then 1 else 0) + (if x / 2 % 2 = 1 then 4 else 0) + (if x / 4 % 2 = 1 then 2 else 0)
def seqM (l : List UInt8) (fin : Nat) : Int :=
  if baseM l fin < 0 ∨ (cutM l).2.2 = false then baseM l fin
  else if (cutM l).2.1.length ≠ 1 ∨ ((cutM l).2.1.getD 0 0).toNat < 49 ∨ 56 < ((cutM l).2.1.getD 0 0).toNat then -1
  else mkE (baseM l fin) (modsM (((cutM l).2.1.getD 0 0).toNat - 49))
def lead (b : UInt8) : Bool := decide (b.toNat < 32) || decide (64 ≤ b.toNat)
def escM (bs : List UInt8) : Int × Int :=
  if bs.length < 2 then (-1, 0)
  else if (bs.getD 1 0).toNat = 91 then
    (match (bs.drop 2).findIdx? lead with
    | none => if bs.length ≤ 18 then (-1, 0) else (-1, 18)
    | some i => if 16 < i then (-1, 18) else if (bs.getD (2 + i) 0).toNat < 32 ∨ 126 < (bs.getD (2 + i) 0).toNat then (-1, 2 + i) else (seqM ((bs.drop 2).take i) (bs.getD (2 + i) 0).toNat, 3 + i))
  else if (bs.getD 1 0).toNat = 79 then
    (if bs.length < 3 then (-1, 0) else if 80 ≤ (bs.getD 2 0).toNat ∧ (bs.getD 2 0).toNat ≤ 83 then (2097153 + ((bs.getD 2 0).toNat - 80), 3) else (letterM (bs.getD 2 0).toNat, 3))
  else if (charR (bs.drop 1)).2 = 0 then (-1, 0) else if (charR (bs.drop 1)).1 < 0 then (-1, 2) else (mkE (charR (bs.drop 1)).1 4, 1 + (charR (bs.drop 1)).2)
def stepM (bs : List UInt8) : Int × Int := if (bs.getD 0 0).toNat = 27 then escM bs else charR bs
def decF : Nat → List UInt8 → List Int × List UInt8
  | 0, bs => ([], bs)
  | f + 1, bs => if bs = [] then ([], []) else if (stepM bs).2 ≤ 0 then ([], bs) else
    (if (stepM bs).1 < 0 then (decF f (bs.drop (stepM bs).2.toNat)).1 else (stepM bs).1 :: (decF f (bs.drop (stepM bs).2.toNat)).1, (decF f (bs.drop (stepM bs).2.toNat)).2)
def decD (bs : List UInt8) : List Int × List UInt8 := decF bs.length bs
theorem charR_two (l : List UInt8) : 0 ≤ (charR l).2 ∧ (charR l).2 ≤ 4 := by
  have := dec_le4 l
  unfold charR
  split
  · split
    · exact ⟨by decide, by decide⟩
    · exact ⟨by show (0 : Int) ≤ _; omega, by show _ ≤ (4 : Int); omega⟩
  · exact ⟨by decide, by decide⟩
theorem dec_len {l : List UInt8} (h : l ≠ []) : (decodeL l).2 ≤ l.length ∧ 1 ≤ (decodeL l).2 := by
  have hl : 0 < l.length := List.length_pos_iff.2 h
  rw [decodeL_N]
  unfold decodeN
  repeat' split
  all_goals (dsimp only; omega)
theorem charR_len {l : List UInt8} (h : l ≠ []) : (charR l).2 ≤ (l.length : Int) := by
  have := dec_len h
  unfold charR
  split
  · split
    · show (1 : Int) ≤ _; omega
    · show (((decodeL l).2 : Nat) : Int) ≤ _; omega
  · show (0 : Int) ≤ _; omega
theorem find_lt {α : Type} {p : α → Bool} {l : List α} {i : Nat} (h : l.findIdx? p = some i) : i < l.length := by
  have := List.findIdx?_eq_some_iff_getElem.1 h
  exact this.1
theorem escM_two {bs : List UInt8} (h : bs ≠ []) : 0 ≤ (escM bs).2 ∧ (escM bs).2 ≤ (bs.length : Int) := by
  have hl : 0 < bs.length := List.length_pos_iff.2 h
  have c := charR_two (bs.drop 1)
  unfold escM
  split
  · exact ⟨by decide, by show (0 : Int) ≤ _; omega⟩
  · have hd : bs.drop 1 ≠ [] := fun e => by
      have := congrArg List.length e
      rw [List.length_drop] at this
      simp at this
      omega
    have c2 := charR_len hd
    rw [List.length_drop] at c2
    split
    · split
      · split
        · exact ⟨by decide, by show (0 : Int) ≤ _; omega⟩
        · exact ⟨by decide, by show (18 : Int) ≤ _; omega⟩
      · rename_i i hi
        have := find_lt hi
        rw [List.length_drop] at this
        split
        · exact ⟨by decide, by show (18 : Int) ≤ _; omega⟩
        · split
          · exact ⟨by show (0 : Int) ≤ _; omega, by show (2 : Int) + i ≤ _; omega⟩
          · exact ⟨by show (0 : Int) ≤ _; omega, by show (3 : Int) + i ≤ _; omega⟩
    · split
      · split
        · exact ⟨by decide, by show (0 : Int) ≤ _; omega⟩
        · split
          · exact ⟨by show (0 : Int) ≤ 3; decide, by show (3 : Int) ≤ _; omega⟩
          · exact ⟨by show (0 : Int) ≤ 3; decide, by show (3 : Int) ≤ _; omega⟩
      · split
        · exact ⟨by decide, by show (0 : Int) ≤ _; omega⟩
        · split
          · exact ⟨by decide, by show (2 : Int) ≤ _; omega⟩
          · exact ⟨by show (0 : Int) ≤ 1 + _; omega, by show 1 + _ ≤ (bs.length : Int); omega⟩
theorem stepM_two {bs : List UInt8} (h : bs ≠ []) : 0 ≤ (stepM bs).2 ∧ (stepM bs).2 ≤ (bs.length : Int) := by
  unfold stepM
  split
  · exact escM_two h
  · exact ⟨(charR_two bs).1, charR_len h⟩
theorem decF_nil : ∀ f, decF f [] = ([], [])
  | 0 => rfl
  | f + 1 => by unfold decF; rw [if_pos rfl]
theorem decF_fuel : ∀ (f g : Nat) (bs : List UInt8), bs.length ≤ f → bs.length ≤ g → decF f bs = decF g bs
  | 0, g, bs, h, _ => by
    obtain rfl := List.eq_nil_of_length_eq_zero (Nat.le_zero.1 h)
    rw [decF_nil, decF_nil]
  | f, 0, bs, _, h => by
    obtain rfl := List.eq_nil_of_length_eq_zero (Nat.le_zero.1 h)
    rw [decF_nil, decF_nil]
  | f + 1, g + 1, bs, h1, h2 => by
    unfold decF
    split
    · rfl
    · rename_i hb
      have hs := stepM_two hb
      split
      · rfl
      · have hd : (bs.drop (stepM bs).2.toNat).length ≤ f ∧ (bs.drop (stepM bs).2.toNat).length ≤ g := by
          rw [List.length_drop]
          omega
        rw [decF_fuel f g _ hd.1 hd.2]
theorem decD_nil : decD [] = ([], []) := rfl
theorem decD_stop {bs : List UInt8} (h : bs ≠ []) (h2 : (stepM bs).2 ≤ 0) : decD bs = ([], bs) := by
  obtain ⟨f, hf⟩ : ∃ f, bs.length = f + 1 := ⟨bs.length - 1, by have := List.length_pos_iff.2 h; omega⟩
  unfold decD
  rw [hf]
  unfold decF
  rw [if_neg h, if_pos h2]
theorem decD_go {bs : List UInt8} (h : bs ≠ []) (h2 : 0 < (stepM bs).2) : decD bs = (if (stepM bs).1 < 0 then (decD (bs.drop (stepM bs).2.toNat)).1 else (stepM bs).1 :: (decD (bs.drop (stepM bs).2.toNat)).1, (decD (bs.drop (stepM bs).2.toNat)).2) := by
  obtain ⟨f, hf⟩ : ∃ f, bs.length = f + 1 := ⟨bs.length - 1, by have := List.length_pos_iff.2 h; omega⟩
  have hs := stepM_two h
  have e : decF f (bs.drop (stepM bs).2.toNat) = decD (bs.drop (stepM bs).2.toNat) := decF_fuel _ _ _ (by rw [List.length_drop]; omega) (Nat.le_refl _)
  rw [← e]
  unfold decD
  rw [hf]
  rw [show decF (f + 1) bs = (if bs = [] then ([], []) else if (stepM bs).2 ≤ 0 then ([], bs) else
    (if (stepM bs).1 < 0 then (decF f (bs.drop (stepM bs).2.toNat)).1 else (stepM bs).1 :: (decF f (bs.drop (stepM bs).2.toNat)).1, (decF f (bs.drop (stepM bs).2.toNat)).2)) from rfl]
  rw [if_neg h, if_neg (by omega)]
end Go.Proofs.YtpjpefcpbkmilaaDoor
