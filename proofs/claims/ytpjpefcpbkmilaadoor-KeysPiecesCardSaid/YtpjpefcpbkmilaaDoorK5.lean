/-
 A character that stands whole is read alike whatever follows. No program in this text. Conditions: none.
 Bytes decoded piece by piece; what is left of them; their events. Conditions: none.
 Decode of characters that are typed. Conditions: the two tables lie.
 Self, Same, one character as text. Conditions: none.
-/
import Derived.Test.YtpjpefcpbkmilaaDoorKpa
import Derived.Test.YtpjpefcpbkmilaaDoorK4
import Derived.Test.YtpjpefcpbkmilaaDoorK3
import Derived.Test.YtpjpefcpbkmilaaDoorRefTx
namespace Go.Proofs.YtpjpefcpbkmilaaDoor
open Go.Lib
set_option maxRecDepth 100000
theorem firstT_is {b0 : Nat} : (b0 < 128 → firstT b0 = 240) ∧ (128 ≤ b0 → b0 < 194 → firstT b0 = 241) ∧ (194 ≤ b0 → b0 < 224 → firstT b0 = 2) ∧ (b0 = 224 → firstT b0 = 19) ∧ (224 < b0 → b0 < 237 → firstT b0 = 3) ∧ (b0 = 237 → firstT b0 = 35) ∧ (237 < b0 → b0 < 240 → firstT b0 = 3) ∧ (b0 = 240 → firstT b0 = 52) ∧ (240 < b0 → b0 < 244 → firstT b0 = 4) ∧ (b0 = 244 → firstT b0 = 68) ∧ (244 < b0 → firstT b0 = 241) := by
 unfold firstT
 refine ⟨fun h => ?_, fun h g => ?_, fun h g => ?_, fun h => ?_, fun h g => ?_, fun h => ?_, fun h g => ?_, fun h => ?_, fun h g => ?_, fun h => ?_, fun h => ?_⟩
 all_goals
  repeat (first | rw [if_pos (by omega)] | rw [if_neg (by omega)])
def Whole (n b0 b1 b2 : Nat) : Prop :=
 1 ≤ n ∧ (b0 < 194 ∨ 244 < b0 ∨ (194 ≤ b0 ∧ b0 < 224 ∧ 2 ≤ n) ∨ (224 ≤ b0 ∧ b0 < 240 ∧ (3 ≤ n ∨ (2 ≤ n ∧ (b1 < 128 ∨ 191 < b1 ∨ (b0 = 224 ∧ b1 < 160) ∨ (b0 = 237 ∧ 159 < b1))))) ∨
  (240 ≤ b0 ∧ b0 ≤ 244 ∧ (4 ≤ n ∨ (2 ≤ n ∧ (b1 < 128 ∨ 191 < b1 ∨ (b0 = 240 ∧ b1 < 144) ∨ (b0 = 244 ∧ 143 < b1))) ∨ (3 ≤ n ∧ (b2 < 128 ∨ 191 < b2)))))
theorem full_iff {n b0 b1 b2 : Nat} : full4 n b0 b1 b2 = true ↔ Whole n b0 b1 b2 := by
 obtain ⟨f1, f2, f3, f4, f5, f6, f7, f8, f9, f10, f11⟩ := @firstT_is b0
 have key : ∀ (x : Nat), firstT b0 = x → (full4 n b0 b1 b2 = true ↔ n ≠ 0 ∧ (x % 8 ≤ n ∨ (1 < n ∧ (b1 < accLo (x / 16) ∨ accHi (x / 16) < b1)) ∨ (2 < n ∧ (b2 < 128 ∨ 191 < b2)))) := fun x hx => by
  unfold full4
  rw [hx]
  by_cases h0 : n = 0
  ·rw [if_pos h0]
   exact ⟨fun h => (by cases h), fun h => absurd h0 h.1⟩
  ·rw [if_neg h0]
   by_cases h1 : x % 8 ≤ n
   ·rw [if_pos h1]
    exact ⟨fun _ => ⟨h0, .inl h1⟩, fun _ => rfl⟩
   ·rw [if_neg h1]
    by_cases h2 : 1 < n ∧ (b1 < accLo (x / 16) ∨ accHi (x / 16) < b1)
    ·rw [if_pos h2]
     exact ⟨fun _ => ⟨h0, .inr (.inl h2)⟩, fun _ => rfl⟩
    ·rw [if_neg h2]
     by_cases h3 : 2 < n ∧ (b2 < 128 ∨ 191 < b2)
     ·rw [if_pos h3]
      exact ⟨fun _ => ⟨h0, .inr (.inr h3)⟩, fun _ => rfl⟩
     ·rw [if_neg h3]
      exact ⟨fun h => (by cases h), fun h => (by rcases h.2 with h | h | h <;> contradiction)⟩
 unfold Whole
 rcases Nat.lt_or_ge b0 128 with h | h
 ·rw [key _ (f1 h)]
  simp [accLo, accHi]
  omega
 rcases Nat.lt_or_ge b0 194 with g | g
 ·rw [key _ (f2 h g)]
  simp [accLo, accHi]
  omega
 rcases Nat.lt_or_ge b0 224 with h2 | h2
 ·rw [key _ (f3 g h2)]
  simp [accLo, accHi]
  omega
 by_cases e1 : b0 = 224
 ·rw [key _ (f4 e1)]
  simp [accLo, accHi]
  omega
 rcases Nat.lt_or_ge b0 237 with h3 | h3
 ·rw [key _ (f5 (by omega) h3)]
  simp [accLo, accHi]
  omega
 by_cases e2 : b0 = 237
 ·rw [key _ (f6 e2)]
  simp [accLo, accHi]
  omega
 rcases Nat.lt_or_ge b0 240 with h4 | h4
 ·rw [key _ (f7 (by omega) h4)]
  simp [accLo, accHi]
  omega
 by_cases e3 : b0 = 240
 ·rw [key _ (f8 e3)]
  simp [accLo, accHi]
  omega
 rcases Nat.lt_or_ge b0 244 with h5 | h5
 ·rw [key _ (f9 (by omega) h5)]
  simp [accLo, accHi]
  omega
 by_cases e4 : b0 = 244
 ·rw [key _ (f10 e4)]
  simp [accLo, accHi]
  omega
 ·rw [key _ (f11 (by omega))]
  simp [accLo, accHi]
  omega
set_option maxHeartbeats 8000000 in
theorem decodeN_ext {n m b0 b1 b2 b3 c1 c2 c3 : Nat} (hb : b0 < 256 ∧ b1 < 256 ∧ b2 < 256 ∧ b3 < 256) (hc : c1 < 256 ∧ c2 < 256 ∧ c3 < 256) (hw : Whole n b0 b1 b2) (h1 : 1 < n → c1 = b1) (h2 : 2 < n → c2 = b2) (h3 : 3 < n → c3 = b3) : decodeN (n + m) b0 c1 c2 c3 = decodeN n b0 b1 b2 b3 := by
 unfold Whole at hw
 rcases hw with ⟨hn, hw⟩
 unfold decodeN
 rcases hw with hw | hw | ⟨g1, g2, g3⟩ | ⟨g1, g2, g3⟩ | ⟨g1, g2, g3⟩
 ·(repeat' split) <;> first | rfl | (exfalso; omega)
 ·(repeat' split) <;> first | rfl | (exfalso; omega)
 ·have := h1 (by omega)
  subst this
  (repeat' split) <;> first | rfl | (exfalso; omega)
 ·rcases g3 with g3 | g3
  ·have e1 := h1 (by omega)
   have e2 := h2 (by omega)
   subst e1
   subst e2
   (repeat' split) <;> first | rfl | (exfalso; omega)
  ·have e1 := h1 (by omega)
   subst e1
   (repeat' split) <;> first | rfl | (exfalso; omega)
 ·rcases g3 with g3 | g3 | g3
  ·have e1 := h1 (by omega)
   have e2 := h2 (by omega)
   have e3 := h3 (by omega)
   subst e1
   subst e2
   subst e3
   (repeat' split) <;> first | rfl | (exfalso; omega)
  ·have e1 := h1 (by omega)
   subst e1
   (repeat' split) <;> first | rfl | (exfalso; omega)
  ·have e1 := h1 (by omega)
   have e2 := h2 (by omega)
   subst e1
   subst e2
   (repeat' split) <;> first | rfl | (exfalso; omega)
theorem getD_lt (l : List UInt8) (j : Nat) : (l.getD j 0).toNat < 256 := UInt8.toNat_lt _
theorem charR_ext {bs c : List UInt8} (h0 : bs ≠ []) (h : 0 < (charR bs).2) : charR (bs ++ c) = charR bs := by
 have hl : 0 < bs.length := List.length_pos_iff.2 h0
 have hf : fullL bs = true := by
  cases hf : fullL bs with
  | true => rfl
  | false =>
   unfold charR at h
   rw [hf, if_neg (by decide)] at h
   exact absurd h (by decide)
 have g : ∀ j, j < bs.length → (bs ++ c).getD j 0 = bs.getD j 0 := fun j hj => by
  rw [List.getD_eq_getElem?_getD, List.getElem?_append_left hj, ← List.getD_eq_getElem?_getD]
 have hw : Whole bs.length (bs.getD 0 0).toNat (bs.getD 1 0).toNat (bs.getD 2 0).toNat := full_iff.1 hf
 have hf2 : fullL (bs ++ c) = true := by
  refine full_iff.2 ?_
  rw [g 0 hl, List.length_append]
  have e1 : 1 < bs.length → ((bs ++ c).getD 1 0).toNat = (bs.getD 1 0).toNat := fun h => by rw [g 1 h]
  have e2 : 2 < bs.length → ((bs ++ c).getD 2 0).toNat = (bs.getD 2 0).toNat := fun h => by rw [g 2 h]
  unfold Whole at hw ⊢
  omega
 have hd : decodeL (bs ++ c) = decodeL bs := by
  rw [decodeL_N, decodeL_N, g 0 hl, List.length_append]
  exact decodeN_ext ⟨getD_lt _ _, getD_lt _ _, getD_lt _ _, getD_lt _ _⟩ ⟨getD_lt _ _, getD_lt _ _, getD_lt _ _⟩ hw (fun h => by rw [g 1 h]) (fun h => by rw [g 2 h]) (fun h => by rw [g 3 h])
 unfold charR
 rw [hf, hf2, hd]
end Go.Proofs.YtpjpefcpbkmilaaDoor
namespace Go.Proofs.YtpjpefcpbkmilaaDoor
open Go.Lib
set_option maxRecDepth 100000
theorem getD_app {bs c : List UInt8} {j : Nat} (hj : j < bs.length) : (bs ++ c).getD j 0 = bs.getD j 0 := by
 rw [List.getD_eq_getElem?_getD, List.getElem?_append_left hj, ← List.getD_eq_getElem?_getD]
theorem escM_ext {bs c : List UInt8} (h : 0 < (escM bs).2) : escM (bs ++ c) = escM bs := by
 have hl2 : ¬ bs.length < 2 := fun hl => by
  unfold escM at h
  rw [if_pos hl] at h
  exact absurd h (by decide)
 have hd : (bs ++ c).drop 2 = bs.drop 2 ++ c := List.drop_append_of_le_length (by omega)
 have hd1 : (bs ++ c).drop 1 = bs.drop 1 ++ c := List.drop_append_of_le_length (by omega)
 have hla : (bs ++ c).length = bs.length + c.length := List.length_append ..
 have hl3 : (bs.drop 2).length = bs.length - 2 := List.length_drop ..
 unfold escM at h ⊢
 rw [if_neg hl2] at h ⊢
 rw [if_neg (by omega), getD_app (by omega)]
 by_cases h91 : (bs.getD 1 0).toNat = 91
 ·rw [if_pos h91] at h ⊢
  rw [if_pos h91, hd, List.findIdx?_append]
  cases hf : (bs.drop 2).findIdx? lead with
  | some i =>
   have hi := find_lt hf
   rw [hf] at h
   simp only [Option.or_some, Option.some_or]
   rw [getD_app (by omega), List.take_append_of_le_length (by omega)]
  | none =>
   rw [hf] at h
   dsimp only at h
   have h18 : ¬ bs.length ≤ 18 := fun hle => by
    rw [if_pos hle] at h
    exact absurd h (by decide)
   rw [Option.none_or, if_neg h18]
   cases hc : c.findIdx? lead with
   | none =>
    simp only [Option.map_none]
    rw [if_neg (by omega)]
   | some j =>
    simp only [Option.map_some]
    rw [if_pos (by omega)]
 ·rw [if_neg h91] at h ⊢
  rw [if_neg h91]
  by_cases h79 : (bs.getD 1 0).toNat = 79
  ·rw [if_pos h79] at h ⊢
   rw [if_pos h79]
   have h3 : ¬ bs.length < 3 := fun hl => by
    rw [if_pos hl] at h
    exact absurd h (by decide)
   rw [if_neg h3, if_neg (by omega), getD_app (by omega)]
  ·rw [if_neg h79] at h ⊢
   rw [if_neg h79]
   have hne : bs.drop 1 ≠ [] := fun e => by
    have := congrArg List.length e
    rw [List.length_drop, List.length_nil] at this
    omega
   have hz : ¬ (charR (bs.drop 1)).2 = 0 := fun e => by
    rw [if_pos e] at h
    exact absurd h (by decide)
   have := charR_two (bs.drop 1)
   rw [hd1, charR_ext hne (by omega)]
theorem stepM_ext {bs c : List UInt8} (h0 : bs ≠ []) (h : 0 < (stepM bs).2) : stepM (bs ++ c) = stepM bs := by
 have hl : 0 < bs.length := List.length_pos_iff.2 h0
 unfold stepM at h ⊢
 rw [getD_app hl]
 by_cases e : (bs.getD 0 0).toNat = 27
 ·rw [if_pos e] at h ⊢
  rw [if_pos e]
  exact escM_ext h
 ·rw [if_neg e] at h ⊢
  rw [if_neg e]
  exact charR_ext h0 h
theorem decD_app (c : List UInt8) : ∀ (k : Nat) (bs : List UInt8), bs.length ≤ k → decD (bs ++ c) = ((decD bs).1 ++ (decD ((decD bs).2 ++ c)).1, (decD ((decD bs).2 ++ c)).2)
 | 0, bs, h => by
  obtain rfl := List.eq_nil_of_length_eq_zero (Nat.le_zero.1 h)
  rw [decD_nil]
  rfl
 | k + 1, bs, h => by
  by_cases h0 : bs = []
  ·subst h0
   rw [decD_nil]
   rfl
  ·by_cases hn : (stepM bs).2 ≤ 0
   ·rw [decD_stop h0 hn]
    rfl
   ·have hs := stepM_two h0
    have hx := stepM_ext (c := c) h0 (by omega)
    have hne : bs ++ c ≠ [] := fun e => h0 (List.append_eq_nil_iff.1 e).1
    have ih := decD_app c k (bs.drop (stepM bs).2.toNat) (by rw [List.length_drop]; omega)
    have hd : (bs ++ c).drop (stepM bs).2.toNat = bs.drop (stepM bs).2.toNat ++ c := List.drop_append_of_le_length (by omega)
    rw [decD_go hne (by rw [hx]; omega), decD_go h0 (by omega), hx, hd, ih]
    split <;> rfl
theorem decD_rest : ∀ (k : Nat) (bs : List UInt8), bs.length ≤ k → ∃ m, m ≤ bs.length ∧ (decD bs).2 = bs.drop m
 | 0, bs, h => by
  obtain rfl := List.eq_nil_of_length_eq_zero (Nat.le_zero.1 h)
  exact ⟨0, Nat.le_refl _, rfl⟩
 | k + 1, bs, h => by
  by_cases h0 : bs = []
  ·subst h0
   exact ⟨0, Nat.le_refl _, rfl⟩
  ·by_cases hn : (stepM bs).2 ≤ 0
   ·rw [decD_stop h0 hn]
    exact ⟨0, Nat.zero_le _, rfl⟩
   ·have hs := stepM_two h0
    obtain ⟨m, h1, h2⟩ := decD_rest k (bs.drop (stepM bs).2.toNat) (by rw [List.length_drop]; omega)
    rw [List.length_drop] at h1
    rw [decD_go h0 (by omega)]
    refine ⟨(stepM bs).2.toNat + m, by omega, ?_⟩
    show (decD (bs.drop (stepM bs).2.toNat)).2 = _
    rw [h2, List.drop_drop]
def GoodE (e : Int) : Prop := ∃ c j : Int, IsB c ∧ 0 ≤ j ∧ j < 8 ∧ e = c + 33554432 * j ∧ mkE c j = c + 33554432 * j
theorem good_B {b : Int} (h : IsB b) : GoodE b := ⟨b, 0, h, by decide, by decide, by omega, by unfold mkE; rw [if_pos (by decide)]⟩
theorem good_mk {b k : Int} (hb : IsB b) (h0 : 0 ≤ k) (h8 : k < 8) : GoodE (mkE b k) := by
 obtain ⟨c, j, e, hc, j0, j8, hm, _⟩ := mkE_split b k hb h0 h8
 exact ⟨c, j, hc, j0, j8, e, hm.trans e⟩
theorem modsM_two (x : Nat) : 0 ≤ modsM x ∧ modsM x < 8 := by
 unfold modsM
 (repeat' split) <;> omega
theorem seqM_good {l : List UInt8} {fin : Nat} (h : 0 ≤ seqM l fin) : GoodE (seqM l fin) := by
 unfold seqM at h ⊢
 split
 ·rename_i h1
  rw [if_pos h1] at h
  exact good_B (baseM_isB h)
 ·rename_i h1
  rw [if_neg h1] at h
  split
  ·rename_i h2
   rw [if_pos h2] at h
   exact absurd h (by decide)
  ·have := modsM_two (((cutM l).2.1.getD 0 0).toNat - 49)
   exact good_mk (baseM_isB (by omega)) this.1 this.2
theorem letter_good {c : Nat} (h : 0 ≤ letterM c) : GoodE (letterM c) := by
 rcases letterM_two c with k | k
 ·omega
 ·exact good_B (isB_key (by omega) k.2)
theorem escM_good {bs : List UInt8} (h : 0 ≤ (escM bs).1) : GoodE (escM bs).1 := by
 unfold escM at h ⊢
 split
 ·rename_i h1
  rw [if_pos h1] at h
  exact absurd h (by decide)
 ·rename_i h1
  rw [if_neg h1] at h
  split
  ·rename_i h2
   rw [if_pos h2] at h
   cases hf : (bs.drop 2).findIdx? lead with
   | none =>
    rw [hf] at h
    dsimp only at h
    exfalso
    split at h
    ·exact absurd h (by decide)
    ·exact absurd h (by decide)
   | some i =>
    rw [hf] at h
    dsimp only at h ⊢
    split
    ·rename_i h3
     rw [if_pos h3] at h
     exact absurd h (by decide)
    ·rename_i h3
     rw [if_neg h3] at h
     split
     ·rename_i h4
      rw [if_pos h4] at h
      exact absurd (show (0 : Int) ≤ -1 from h) (by decide)
     ·rename_i h4
      rw [if_neg h4] at h
      exact seqM_good h
  ·rename_i h2
   rw [if_neg h2] at h
   split
   ·rename_i h3
    rw [if_pos h3] at h
    split
    ·rename_i h4
     rw [if_pos h4] at h
     exact absurd h (by decide)
    ·rename_i h4
     rw [if_neg h4] at h
     split
     ·exact good_B (isB_key (by show (2097152 : Int) < 2097153 + _; omega) (by show 2097153 + _ ≤ (2097179 : Int); omega))
     ·rename_i h5
      rw [if_neg h5] at h
      exact letter_good h
   ·rename_i h3
    rw [if_neg h3] at h
    split
    ·rename_i h4
     rw [if_pos h4] at h
     exact absurd h (by decide)
    ·rename_i h4
     rw [if_neg h4] at h
     split
     ·rename_i h5
      rw [if_pos h5] at h
      exact absurd h (by decide)
     ·exact good_mk (b := (charR (bs.drop 1)).1) (k := 4) (charR_isB (by omega)) (by decide) (by decide)
theorem stepM_good {bs : List UInt8} (h : 0 ≤ (stepM bs).1) : GoodE (stepM bs).1 := by
 unfold stepM at h ⊢
 split
 ·rename_i h1
  rw [if_pos h1] at h
  exact escM_good h
 ·rename_i h1
  rw [if_neg h1] at h
  exact good_B (charR_isB h)
theorem decD_good : ∀ (k : Nat) (bs : List UInt8), bs.length ≤ k → ∀ e ∈ (decD bs).1, GoodE e
 | 0, bs, h, e, he => by
  obtain rfl := List.eq_nil_of_length_eq_zero (Nat.le_zero.1 h)
  cases he
 | k + 1, bs, h, e, he => by
  by_cases h0 : bs = []
  ·subst h0
   cases he
  ·by_cases hn : (stepM bs).2 ≤ 0
   ·rw [decD_stop h0 hn] at he
    cases he
   ·have hs := stepM_two h0
    have ih := decD_good k (bs.drop (stepM bs).2.toNat) (by rw [List.length_drop]; omega)
    rw [decD_go h0 (by omega)] at he
    dsimp only at he
    split at he
    ·exact ih e he
    ·rcases List.mem_cons.1 he with rfl | he
     ·exact stepM_good (by omega)
     ·exact ih e he
theorem decD_few : ∀ (k : Nat) (bs : List UInt8), bs.length ≤ k → (decD bs).1.length ≤ bs.length
 | 0, bs, h => by
  obtain rfl := List.eq_nil_of_length_eq_zero (Nat.le_zero.1 h)
  exact Nat.le_refl _
 | k + 1, bs, h => by
  by_cases h0 : bs = []
  ·subst h0
   exact Nat.le_refl _
  ·by_cases hn : (stepM bs).2 ≤ 0
   ·rw [decD_stop h0 hn]
    exact Nat.zero_le _
   ·have hs := stepM_two h0
    have ih := decD_few k (bs.drop (stepM bs).2.toNat) (by rw [List.length_drop]; omega)
    rw [List.length_drop] at ih
    rw [decD_go h0 (by omega)]
    dsimp only
    split
    ·omega
    ·rw [List.length_cons]
     omega
end Go.Proofs.YtpjpefcpbkmilaaDoor
namespace Go.Proofs.YtpjpefcpbkmilaaDoor
open Go.Lib
set_option maxRecDepth 100000
section
variable {G : Nat} {A : Abs} {σ : Mem} {F : Nat → Option Blk2} {L : List Ent}
end
end Go.Proofs.YtpjpefcpbkmilaaDoor
namespace Go.Proofs.YtpjpefcpbkmilaaDoor
open Go.Lib
set_option maxRecDepth 100000
theorem gr_slk {G : Nat} {σ : Mem} {e s n : Nat} {v : Value} {xs : List Value} (h : GRow G σ e s v n xs) : SlK σ.get s v n xs := by
 cases h with
 | nil => exact .nil
 | row _ hr _ hc hl hx => exact .some hr (by rw [← hx, List.length_take, hc]; have := Nat.mul_le_mul_right s hl; omega) (by rw [List.drop_zero]; exact hx) hl (.inr rfl)
section
variable {G : Nat} {A : Abs} {σ : Mem} {F : Nat → Option Blk2} {L : List Ent}
set_option maxHeartbeats 4000000 in
theorem same_intK {l : List Int} {v1 v2 : Value} (h1 : SlF F 1 v1 l.length (l.map (Value.int .i64))) (h2 : SlF F 1 v2 l.length (l.map (Value.int .i64))) (hl : l.length ≤ 1000000) (H : Lies G A F σ L) : WC G Tryd.prog 16 #[v1, v2] σ fun r σ' => r = .bool true ∧ Lies G A F σ' L := by
 refine WC.enter (fn := Tryd.f16) Tryd.func16 rfl ?_
 refine W.rg [(0, v1), (1, v2)] fun TA => ?_
 refine W.seq (W.region ?_)
 refine RW.v ?_
 refine RW.nil ?_
 refine W.rg [(0, v1), (1, v2)] fun TA => ?_
 refine W.seq ?_
 refine W.seq (W.region ?_)
 refine RW.v ?_
 refine RW.len (by kernel_rfl) (by kernel_rfl) rfl rfl rfl rfl (h1.len (e := 3) (by kernel_rfl)) (by kernel_rfl) ?_
 refine RW.v ?_
 refine RW.len (by kernel_rfl) (by kernel_rfl) rfl rfl rfl rfl (h2.len (e := 3) (by kernel_rfl)) (by kernel_rfl) ?_
 refine RW.valE (v' := .bool false) (by kernel_rfl) (by kernel_rfl) rfl (congrArg Value.bool (bne_eq_false_iff_eq.2 (by rfl))) (by kernel_rfl) ?_
 refine RW.nil ?_
 refine W.c0 ?_
 refine W.skip ?_
 refine W.seq ?_
 refine W.seq (W.region ?_)
 refine RW.v ?_
 refine RW.nil ?_
 refine W.rg [(0, v1), (1, v2), (5, .int .i64 0)] fun TA => ?_
 refine W.block ?_
 refine W.loop (fun mm ta σ => ∃ (i : Nat), (mm + i = l.length) ∧ Lies G A F σ ((L)) ∧ ta 0 = v1 ∧ ta 1 = v2 ∧ ta 5 = .int .i64 ((i : Nat) : Int)) l.length ?_ ?_
 ·exact ⟨0, (by omega), H, rfl, rfl, rfl⟩
 clear H
 rintro mm ta _ ⟨i, hm, H, e0, e1, e5⟩
 refine W.rst [(0, v1), (1, v2), (5, .int .i64 ((i : Nat) : Int))] ⟨e0, e1, e5, trivial⟩ fun TA => ?_
 clear e0 e1 e5
 refine W.seq ?_
 refine W.seq (W.region ?_)
 iterate 2 refine RW.v ?_
 refine RW.len (by kernel_rfl) (by kernel_rfl) rfl rfl rfl rfl (h1.len (e := 3) (by kernel_rfl)) (by kernel_rfl) ?_
 refine RW.v ?_
 refine RW.nil ?_
 refine W.rg [(0, v1), (1, v2), (5, .int .i64 ((i : Nat) : Int)), (14, .bool (decide (((i : Nat) : Int) < (l.length : Int))))] fun TA => ?_
 refine W.cond rfl (fun hc1 => ?_) (fun hc1 => ?_)
 ·have hc1b := hc1
  have hc1 := of_decide_eq_true hc1
  refine W.skip ?_
  refine W.seq ?_
  refine W.block ?_
  refine W.seq ?_
  refine W.drawn (by kernel_rfl) (by kernel_rfl) H.gn ?_
  have H2 := H
  iterate 2 refine RW.v ?_
  refine RW.idxF h1 (by kernel_rfl) (by kernel_rfl) rfl Tryd.underlying31 (by kernel_rfl) rfl rfl ⟨by omega, by omega⟩ (by kernel_rfl) ?_
  intro b3 q4 r5 hF6 hE7
  rw [ints_at (l := l) (j := i) (by omega)] at hE7
  refine RW.loads 1 (by kernel_rfl) (by kernel_rfl) rfl rfl (H2.old _ _ hF6) hE7 rfl (by kernel_rfl) ?_
  iterate 2 refine RW.v ?_
  refine RW.idxF h2 (by kernel_rfl) (by kernel_rfl) rfl Tryd.underlying31 (by kernel_rfl) rfl rfl ⟨by omega, by omega⟩ (by kernel_rfl) ?_
  intro b8 q9 r10 hF11 hE12
  rw [ints_at (l := l) (j := i) (by omega)] at hE12
  refine RW.loads 1 (by kernel_rfl) (by kernel_rfl) rfl rfl (H2.old _ _ hF11) hE12 rfl (by kernel_rfl) ?_
  refine RW.valE (v' := .bool false) (by kernel_rfl) (by kernel_rfl) rfl (congrArg Value.bool (bne_eq_false_iff_eq.2 (by rfl))) (by kernel_rfl) ?_
  refine RW.nil ?_
  refine ⟨⟨by kernel_rfl, ⟨trivial, trivial, trivial, dyn_row (H2.old _ _ hF6) (H2.old _ _ hF6) ⟨fun h => Bool.noConfusion h, fun h => Bool.noConfusion h, fun h => Bool.noConfusion h, fun h => Bool.noConfusion h, fun h => Bool.noConfusion h, fun h => Bool.noConfusion h, fun h => Bool.noConfusion h, fun h => Bool.noConfusion h, fun h => Bool.noConfusion h, trivial⟩, trivial, trivial, trivial, dyn_row (H2.old _ _ hF11) (H2.old _ _ hF11) ⟨fun h => Bool.noConfusion h, fun h => Bool.noConfusion h, fun h => Bool.noConfusion h, fun h => Bool.noConfusion h, fun h => Bool.noConfusion h, fun h => Bool.noConfusion h, fun h => Bool.noConfusion h, fun h => Bool.noConfusion h, fun h => Bool.noConfusion h, trivial⟩, trivial, trivial⟩⟩, ?_⟩
  replace H := H2
  clear H2
  refine W.c0 ?_
  refine W.skip ?_
  refine blkQ_normal ?_
  refine W.region ?_
  refine RW.v ?_
  refine RW.valE (v' := .int .i64 (((i : Nat) : Int) + 1)) (by kernel_rfl) (by kernel_rfl) rfl (congrArg (Value.int .i64) (wrap_in (by omega) (by omega))) (by kernel_rfl) ?_
  refine RW.v ?_
  refine RW.nil ?_
  exact ⟨rfl, mm - 1, by omega, i + 1, (by omega), H, rfl, rfl, rfl⟩
 ·have hc1b := hc1
  have hc1 := of_decide_eq_false hc1
  refine W.exit _ ?_
  refine seqQ_exit ?_
  refine rndQ_exit ?_
  refine blkQ_here ?_
  refine W.seq (W.region ?_)
  refine RW.v ?_
  refine RW.nil ?_
  refine W.ret ?_
  refine endG (by rfl) (by exact resL_tmp rfl) ?_
  exact ⟨rfl, H⟩
end
end Go.Proofs.YtpjpefcpbkmilaaDoor
