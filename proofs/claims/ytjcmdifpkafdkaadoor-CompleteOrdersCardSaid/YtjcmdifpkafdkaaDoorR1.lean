/-
  Contracts of the reference's Is, in, Width, small, Up, Down, Fold, Word. Conditions: none.
  Contracts of the reference's tail and point. Conditions: sizes as stated.
  Contract of the reference's point. Conditions: the string is not empty, of at most 10^12 bytes.
-/
import Derived.Test.YtjcmdifpkafdkaaDoorL6
namespace Go.Proofs.YtjcmdifpkafdkaaDoor
open Go.RowKit Go.Lib
set_option maxRecDepth 100000

theorem ref_is (c : Int) (w : World) : Calls Tryd.prog 107 #[.int .i64 c] w fun e w' => e = .returned (.bool (chB c)) ∧ w = w' := by
 by_cases h0 : 0 ≤ c
 ·by_cases h1 : c ≤ 1114111
  ·by_cases h2 : c < 55296
   ·have e : chB c = true := by rw [chB_iff]; omega
    rw [e]; clear e
    go_enter Tryd.func107, Tryd.ntmps107
    go_wp2
    go_ret
    exact ⟨rfl, rfl⟩
   ·by_cases h3 : 57343 < c
    ·have e : chB c = true := by rw [chB_iff]; omega
     rw [e]; clear e
     go_enter Tryd.func107, Tryd.ntmps107
     go_wp2
     go_ret
     exact ⟨rfl, rfl⟩
    ·have e : chB c = false := by simp only [chB, decide_eq_false_iff_not]; omega
     rw [e]; clear e
     go_enter Tryd.func107, Tryd.ntmps107
     go_wp2
     go_ret
     exact ⟨rfl, rfl⟩
  ·have e : chB c = false := by simp only [chB, decide_eq_false_iff_not]; omega
   rw [e]; clear e
   go_enter Tryd.func107, Tryd.ntmps107
   go_wp2
   go_ret
   exact ⟨rfl, rfl⟩
 ·have e : chB c = false := by simp only [chB, decide_eq_false_iff_not]; omega
  rw [e]; clear e
  go_enter Tryd.func107, Tryd.ntmps107
  go_wp2
  go_ret
  exact ⟨rfl, rfl⟩

theorem small_near (c : Int) (w : World) (h : NearP c) : Calls Tryd.prog 121 #[.int .i64 c] w fun e w' => e = .returned (.tuple #[.int .i64 (c - 32), .bool true]) ∧ w = w' := by
 unfold NearP at h
 have hp : (97 ≤ c ∧ c ≤ 122) ∨ (224 ≤ c ∧ c ≤ 246) ∨ (248 ≤ c ∧ c ≤ 254) ∨ (945 ≤ c ∧ c ≤ 961) ∨ (963 ≤ c ∧ c ≤ 969) ∨ (1072 ≤ c ∧ c ≤ 1103) := by omega
 clear h
 rcases hp with h | h | h | h | h | h
 ·obtain ⟨h1, h2⟩ := h
  go_enter Tryd.func121, Tryd.ntmps121
  go_wp2
  go_ret2
  exact ⟨rfl, rfl⟩
 ·obtain ⟨h1, h2⟩ := h
  have n1 : (c != 247) = true := by rw [bne_iff_ne]; omega
  go_enter Tryd.func121, Tryd.ntmps121
  go_wp2
  go_ret2
  exact ⟨rfl, rfl⟩
 ·obtain ⟨h1, h2⟩ := h
  have n1 : (c != 247) = true := by rw [bne_iff_ne]; omega
  go_enter Tryd.func121, Tryd.ntmps121
  go_wp2
  go_ret2
  exact ⟨rfl, rfl⟩
 ·obtain ⟨h1, h2⟩ := h
  have n2 : (c != 962) = true := by rw [bne_iff_ne]; omega
  have n3 : (c == 962) = false := beq_eq_false_iff_ne.2 (by omega)
  go_enter Tryd.func121, Tryd.ntmps121
  go_wp2
  go_ret2
  exact ⟨rfl, rfl⟩
 ·obtain ⟨h1, h2⟩ := h
  have n2 : (c != 962) = true := by rw [bne_iff_ne]; omega
  have n3 : (c == 962) = false := beq_eq_false_iff_ne.2 (by omega)
  go_enter Tryd.func121, Tryd.ntmps121
  go_wp2
  go_ret2
  exact ⟨rfl, rfl⟩
 ·obtain ⟨h1, h2⟩ := h
  go_enter Tryd.func121, Tryd.ntmps121
  go_wp2
  go_ret2
  exact ⟨rfl, rfl⟩

theorem small_mid (c : Int) (w : World) (h : 1104 ≤ c ∧ c ≤ 1119) : Calls Tryd.prog 121 #[.int .i64 c] w fun e w' => e = .returned (.tuple #[.int .i64 (c - 80), .bool true]) ∧ w = w' := by
 have hp : (1104 ≤ c ∧ c ≤ 1119) := by omega
 clear h
 have h := hp
 clear hp
 ·obtain ⟨h1, h2⟩ := h
  go_enter Tryd.func121, Tryd.ntmps121
  go_wp2
  go_ret2
  exact ⟨rfl, rfl⟩

theorem small_last (w : World) : Calls Tryd.prog 121 #[.int .i64 962] w fun e w' => e = .returned (.tuple #[.int .i64 931, .bool true]) ∧ w = w' := by
 go_enter Tryd.func121, Tryd.ntmps121
 go_wp2
 go_ret2
 exact ⟨rfl, rfl⟩
theorem small_247 (w : World) : Calls Tryd.prog 121 #[.int .i64 247] w fun e w' => e = .returned (.tuple #[.int .i64 247, .bool false]) ∧ w = w' := by
 go_enter Tryd.func121, Tryd.ntmps121
 go_wp2
 go_ret2
 exact ⟨rfl, rfl⟩

theorem small_rest (c : Int) (w : World) (h : ¬ NearP c ∧ ¬ (1104 ≤ c ∧ c ≤ 1119) ∧ c ≠ 962 ∧ c ≠ 247) : Calls Tryd.prog 121 #[.int .i64 c] w fun e w' => e = .returned (.tuple #[.int .i64 (c), .bool false]) ∧ w = w' := by
 unfold NearP at h
 have hp : c < 97 ∨ (123 ≤ c ∧ c ≤ 223) ∨ (255 ≤ c ∧ c ≤ 944) ∨ (970 ≤ c ∧ c ≤ 1071) ∨ 1120 ≤ c := by omega
 clear h
 rcases hp with h | h | h | h | h
 ·have n2 : (c != 962) = true := by rw [bne_iff_ne]; omega
  have n3 : (c == 962) = false := beq_eq_false_iff_ne.2 (by omega)
  go_enter Tryd.func121, Tryd.ntmps121
  go_wp2
  go_ret2
  exact ⟨rfl, rfl⟩
 ·obtain ⟨h1, h2⟩ := h
  have n2 : (c != 962) = true := by rw [bne_iff_ne]; omega
  have n3 : (c == 962) = false := beq_eq_false_iff_ne.2 (by omega)
  go_enter Tryd.func121, Tryd.ntmps121
  go_wp2
  go_ret2
  exact ⟨rfl, rfl⟩
 ·obtain ⟨h1, h2⟩ := h
  have n2 : (c != 962) = true := by rw [bne_iff_ne]; omega
  have n3 : (c == 962) = false := beq_eq_false_iff_ne.2 (by omega)
  go_enter Tryd.func121, Tryd.ntmps121
  go_wp2
  go_ret2
  exact ⟨rfl, rfl⟩
 ·obtain ⟨h1, h2⟩ := h
  have n2 : (c != 962) = true := by rw [bne_iff_ne]; omega
  have n3 : (c == 962) = false := beq_eq_false_iff_ne.2 (by omega)
  go_enter Tryd.func121, Tryd.ntmps121
  go_wp2
  go_ret2
  exact ⟨rfl, rfl⟩
 ·have n2 : (c != 962) = true := by rw [bne_iff_ne]; omega
  have n3 : (c == 962) = false := beq_eq_false_iff_ne.2 (by omega)
  go_enter Tryd.func121, Tryd.ntmps121
  go_wp2
  go_ret2
  exact ⟨rfl, rfl⟩

def smallB (c : Int) : Bool := nearB c || decide (1104 ≤ c ∧ c ≤ 1119) || decide (c = 962)
theorem small_any (c : Int) (w : World) : Calls Tryd.prog 121 #[.int .i64 c] w fun e w' => e = .returned (.tuple #[.int .i64 (upOf c), .bool (smallB c)]) ∧ w = w' := by
  rcases up_cases c with ⟨k, e⟩ | ⟨k, k', e⟩ | ⟨k, e⟩ | ⟨k, k2, k3, e⟩
  · have hb : smallB c = true := by simp [smallB, (near_iff c).2 k]
    rw [e, hb]; exact small_near c w k
  · have hb : smallB c = true := by simp [smallB, k, k']
    rw [e, hb]; exact small_mid c w ⟨k, k'⟩
  · subst k
    have hb : smallB 962 = true := by decide
    rw [e, hb]; exact small_last w
  · have hn : nearB c = false := by
      cases h : nearB c with
      | false => rfl
      | true => exact absurd ((near_iff c).1 h) k
    have hb : smallB c = false := by simp only [smallB, hn, decide_eq_false k2, decide_eq_false k3]; rfl
    rw [e, hb]
    by_cases h7 : c = 247
    · subst h7; exact small_247 w
    · exact small_rest c w ⟨k, k2, k3, h7⟩
theorem ref_up (c : Int) (w : World) : Calls Tryd.prog 117 #[.int .i64 c] w fun e w' => e = .returned (.int .i64 (upOf c)) ∧ w = w' := by
 have S := Lib.hid (small_any c w)
 generalize upOf c = u at S ⊢
 go_enter Tryd.func117, Tryd.ntmps117
 go_wp2_with (go_at_call 121; refine S.out.mono ?_; rintro e w' ⟨rfl, rfl⟩)
 go_ret
 exact ⟨rfl, rfl⟩
set_option maxHeartbeats 1000000 in
theorem ref_down_far (c : Int) (w : World) (h : c < 0 ∨ 1114111 < c) : Calls Tryd.prog 116 #[.int .i64 c] w fun e w' => e = .returned (.int .i64 c) ∧ Below w.heap.size w w' := by
 by_cases h1 : c < 0
 ·clear h
  go_enter Tryd.func116, Tryd.ntmps116
  go_wp2
  go_ret
  exact ⟨rfl, (Below.refl _ _).alloc (Nat.le_refl _) _⟩
 ·have h2 : 1114111 < c := by omega
  clear h
  go_enter Tryd.func116, Tryd.ntmps116
  go_wp2
  go_ret
  exact ⟨rfl, (Below.refl _ _).alloc (Nat.le_refl _) _⟩
set_option maxHeartbeats 1000000 in
theorem ref_down_near (c : Int) (w : World) (h1 : 0 ≤ c) (h2 : c ≤ 1114111) (hn : NearP (c + 32)) : Calls Tryd.prog 116 #[.int .i64 c] w fun e w' => e = .returned (.int .i64 (c + 32)) ∧ Below w.heap.size w w' := by
 have S := Lib.hid (fun w' => small_near (c + 32) w' hn)
 rw [show c + 32 - 32 = c by omega] at S
 clear hn
 go_enter Tryd.func116, Tryd.ntmps116
 go_wp2
 refine wp_loop_rounds 1 ?_
 rw [rounds_succ]
 go_wp2_with (go_at_call 121; refine (S.out _).mono ?_; rintro e w' ⟨rfl, rfl⟩)
 go_ret
 exact ⟨rfl, (Below.refl _ _).alloc (Nat.le_refl _) _⟩
set_option maxHeartbeats 2000000 in
theorem ref_down_other (c d : Int) (b1 b2 : Bool) (g1 g2 : Int) (w : World) (h1 : 0 ≤ c) (h2 : c ≤ 1114111)
    (S1 : Hid (∀ w', Calls Tryd.prog 121 #[.int .i64 (c + 32)] w' fun e w'' => e = .returned (.tuple #[.int .i64 g1, .bool b1]) ∧ w' = w''))
    (S2 : Hid (∀ w', Calls Tryd.prog 121 #[.int .i64 (c + 80)] w' fun e w'' => e = .returned (.tuple #[.int .i64 g2, .bool b2]) ∧ w' = w''))
    (n1 : b1 = false ∨ (b1 = true ∧ (g1 == c) = false)) (n2 : (b2 = false ∧ d = c) ∨ (b2 = true ∧ (g2 == c) = false ∧ d = c) ∨ (b2 = true ∧ g2 = c ∧ d = c + 80)) :
    Calls Tryd.prog 116 #[.int .i64 c] w fun e w' => e = .returned (.int .i64 d) ∧ Below w.heap.size w w' := by
  rcases n1 with rfl | ⟨rfl, e1⟩ <;> rcases n2 with ⟨rfl, rfl⟩ | ⟨rfl, e2, rfl⟩ | ⟨rfl, rfl, rfl⟩
  all_goals
    go_enter Tryd.func116, Tryd.ntmps116
    go_wp2
    refine wp_loop_rounds 3 ?_
    rw [rounds_succ]
    go_wp2_with fail
    refine (S1.out _).mono ?_
    rintro e w' ⟨rfl, rfl⟩
    go_wp2_with fail
    rw [rounds_succ]
    go_wp2_with fail
    refine (S2.out _).mono ?_
    rintro e w' ⟨rfl, rfl⟩
    go_wp2_with fail
  all_goals try (
    go_ret
    exact ⟨rfl, (Below.refl _ _).alloc (Nat.le_refl _) _⟩)
  all_goals
    rw [rounds_succ]
    go_wp2
    go_ret
    exact ⟨rfl, (Below.refl _ _).alloc (Nat.le_refl _) _⟩
theorem ref_down (c : Int) (w : World) : Calls Tryd.prog 116 #[.int .i64 c] w fun e w' => e = .returned (.int .i64 (downOf c)) ∧ Below w.heap.size w w' := by
  by_cases h : c < 0 ∨ 1114111 < c
  · have e : downOf c = c := by
      rcases down_cases c with ⟨k, _⟩ | ⟨k, _, _⟩ | ⟨_, _, e⟩
      · unfold NearP at k; omega
      · omega
      · exact e
    rw [e]; exact ref_down_far c w h
  · have h1 : 0 ≤ c := by omega
    have h2 : c ≤ 1114111 := by omega
    have s1 : ¬ NearP (c + 32) → smallB (c + 32) = false ∨ (smallB (c + 32) = true ∧ (upOf (c + 32) == c) = false) := fun hn => by
      cases hb : smallB (c + 32) with
      | false => exact .inl rfl
      | true =>
        refine .inr ⟨rfl, beq_eq_false_iff_ne.2 ?_⟩
        rcases up_cases (c + 32) with ⟨k, _⟩ | ⟨_, _, e⟩ | ⟨k, e⟩ | ⟨k1, k2, k3, _⟩
        · exact absurd k hn
        · omega
        · omega
        · exfalso
          have n1 : nearB (c + 32) = false := by cases h : nearB (c + 32) with | false => rfl | true => exact absurd ((near_iff _).1 h) k1
          simp only [smallB, n1, decide_eq_false k2, decide_eq_false k3] at hb
          cases hb
    rcases down_cases c with ⟨k, e⟩ | ⟨k, k', e⟩ | ⟨k, k2, e⟩
    · rw [e]; exact ref_down_near c w h1 h2 k
    · have hn : ¬ NearP (c + 32) := by unfold NearP; omega
      refine ref_down_other c (downOf c) _ _ _ _ w h1 h2 (Lib.hid (fun w' => small_any (c + 32) w')) (Lib.hid (fun w' => small_any (c + 80) w')) (s1 hn) (.inr (.inr ⟨?_, ?_, e⟩))
      · simp only [smallB, decide_eq_true (show 1104 ≤ c + 80 ∧ c + 80 ≤ 1119 by omega)]; simp
      · rcases up_cases (c + 80) with ⟨q, _⟩ | ⟨_, _, e⟩ | ⟨q, _⟩ | ⟨_, q, _, _⟩
        · unfold NearP at q; omega
        · omega
        · omega
        · omega
    · refine ref_down_other c (downOf c) _ _ _ _ w h1 h2 (Lib.hid (fun w' => small_any (c + 32) w')) (Lib.hid (fun w' => small_any (c + 80) w')) (s1 k) ?_
      cases hb : smallB (c + 80) with
      | false => exact .inl ⟨rfl, e⟩
      | true =>
        refine .inr (.inl ⟨rfl, beq_eq_false_iff_ne.2 ?_, e⟩)
        rcases up_cases (c + 80) with ⟨_, q⟩ | ⟨q1, q2, _⟩ | ⟨q, q'⟩ | ⟨k1, k2', k3, _⟩
        · omega
        · omega
        · omega
        · exfalso
          have n1 : nearB (c + 80) = false := by cases h : nearB (c + 80) with | false => rfl | true => exact absurd ((near_iff _).1 h) k1
          simp only [smallB, n1, decide_eq_false k2', decide_eq_false k3] at hb
          cases hb
theorem ref_fold (c : Int) (w : World) : Calls Tryd.prog 106 #[.int .i64 c] w fun e w' => e = .returned (.int .i64 (foldOf c)) ∧ Below w.heap.size w w' := by
 have C := Lib.hid (ref_up c w)
 have D := Lib.hid (ref_down (upOf c) w)
 unfold foldOf
 generalize upOf c = u at C D ⊢
 generalize downOf u = d at D ⊢
 go_enter Tryd.func106, Tryd.ntmps106
 go_wp2_with (first
  | (go_at_call 117; refine C.out.mono ?_; rintro e w1 ⟨rfl, rfl⟩)
  | (go_at_call 116; refine D.out.mono ?_; rintro e w2 ⟨rfl, hb2⟩))
 go_ret
 exact ⟨rfl, hb2⟩
end Go.Proofs.YtjcmdifpkafdkaaDoor
namespace Go.Proofs.YtjcmdifpkafdkaaDoor
open Go.RowKit Go.Lib
set_option maxRecDepth 100000

theorem byte_at (s : ByteArray) (k : Nat) (h : k < s.size) : s[k] = s.data.toList.getD k 0 := by
 have h' : k < s.data.toList.length := by simpa using h
 rw [List.getD_eq_getElem?_getD, List.getElem?_eq_getElem h', Option.getD_some]
 rfl
def tailB (l : List UInt8) (k : Nat) : Bool := decide (k < l.length) && decide (128 ≤ (l.getD k 0).toNat) && decide ((l.getD k 0).toNat < 192)
theorem tail_any (s : ByteArray) (k : Nat) (w : World) (hs : s.size ≤ 1000000000000) (hk : k ≤ 3) :
    Calls Tryd.prog 115 #[.string s, .int .i64 k] w fun e w' => e = .returned (.bool (tailB s.data.toList k)) ∧ w = w' := by
  have hl : s.data.toList.length = s.size := by simp
  by_cases h : k < s.size
  · have hb := byte_at s k h
    have e : tailB s.data.toList k = (decide (128 ≤ (s.data.toList.getD k 0).toNat) && decide ((s.data.toList.getD k 0).toNat < 192)) := by
      unfold tailB; rw [hl, decide_eq_true h, Bool.true_and]
    rw [e]
    generalize s.data.toList.getD k 0 = x at hb ⊢
    have hx : x.toNat < 256 := x.toNat_lt
    clear e hl
    by_cases h1 : 128 ≤ x.toNat
    · have h1z : (128 : Int) ≤ (x.toNat : Int) := by omega
      rw [decide_eq_true h1, Bool.true_and]
      go_enter Tryd.func115, Tryd.ntmps115
      go_wp2
      all_goals
        go_ret
        exact ⟨ret_bool (by simp; try omega), rfl⟩
    · have h1z : ¬ (128 : Int) ≤ (x.toNat : Int) := by omega
      rw [decide_eq_false h1, Bool.false_and]
      go_enter Tryd.func115, Tryd.ntmps115
      go_wp2
      go_ret
      exact ⟨rfl, rfl⟩
  · have e : tailB s.data.toList k = false := by unfold tailB; rw [hl, decide_eq_false h, Bool.false_and, Bool.false_and]
    rw [e]
    clear e hl
    go_enter Tryd.func115, Tryd.ntmps115
    go_wp2
    go_ret
    exact ⟨rfl, rfl⟩

/-! ### point, plainly -/
def ptOf (l : List UInt8) : Nat × Nat := if (decodeL l).1 = 65533 ∧ (decodeL l).2 = 1 then (0, 0) else decodeL l
theorem ptOf_good {l : List UInt8} {c n : Nat} (h : decodeL l = (c, n)) (hn : ¬ (c = 65533 ∧ n = 1)) : ptOf l = (c, n) := by
 unfold ptOf; rw [h, if_neg hn]
theorem ptOf_bad {l : List UInt8} (h : decodeL l = (65533, 1)) : ptOf l = (0, 0) := by
 unfold ptOf; rw [h, if_pos ⟨rfl, rfl⟩]
theorem tailB_iff (l : List UInt8) (k : Nat) : tailB l k = true ↔ k < l.length ∧ 128 ≤ (l.getD k 0).toNat ∧ (l.getD k 0).toNat < 192 := by
 simp [tailB, and_assoc]
theorem pt1 (l : List UInt8) (h : (l.getD 0 0).toNat < 128) : ptOf l = ((l.getD 0 0).toNat, 1) := by
 refine ptOf_good ?_ (by omega)
 rw [decodeL_N]; unfold decodeN; rw [if_pos h]
theorem pt2 (l : List UInt8) (h : 194 ≤ (l.getD 0 0).toNat) (h' : (l.getD 0 0).toNat < 224) (t : tailB l 1 = true) : ptOf l = (((l.getD 0 0).toNat - 192) * 64 + (l.getD 1 0).toNat - 128, 2) := by
 obtain ⟨t0, t1, t2⟩ := (tailB_iff l 1).1 t
 refine ptOf_good ?_ (by omega)
 rw [decodeL_N]; unfold decodeN
 rw [if_neg (by omega), if_pos (by omega), if_pos (by omega)]
 refine Prod.ext ?_ rfl
 show _ % 32 * 64 + _ % 64 = _
 omega
theorem pt3 (l : List UInt8) (h : 224 ≤ (l.getD 0 0).toNat) (h' : (l.getD 0 0).toNat < 240) (t : tailB l 1 = true) (u : tailB l 2 = true) (c : Nat) (hc : (c : Int) = ((((l.getD 0 0).toNat : Int) - 224) * 64 + ((l.getD 1 0).toNat : Int) - 128) * 64 + ((l.getD 2 0).toNat : Int) - 128) :
    ptOf l = if 2048 ≤ c ∧ chB c = true then (c, 3) else (0, 0) := by
  obtain ⟨t0, t1, t2⟩ := (tailB_iff l 1).1 t
  obtain ⟨u0, u1, u2⟩ := (tailB_iff l 2).1 u
  by_cases k0 : 2048 ≤ c ∧ chB c = true
  · have k : 2048 ≤ c ∧ (0 ≤ (c : Int) ∧ (c : Int) ≤ 1114111 ∧ ((c : Int) < 55296 ∨ 57343 < (c : Int))) := ⟨k0.1, chB_iff.1 k0.2⟩
    rw [if_pos k0]
    refine ptOf_good ?_ (by omega)
    rw [decodeL_N]; unfold decodeN
    rw [if_neg (by omega), if_neg (by omega), if_pos (by omega), if_pos (by omega)]
    refine Prod.ext ?_ rfl
    show _ % 16 * 4096 + _ % 64 * 64 + _ % 64 = _
    omega
  · have k : ¬ (2048 ≤ c ∧ (0 ≤ (c : Int) ∧ (c : Int) ≤ 1114111 ∧ ((c : Int) < 55296 ∨ 57343 < (c : Int)))) := fun h => k0 ⟨h.1, chB_iff.2 h.2⟩
    rw [if_neg k0]
    refine ptOf_bad ?_
    rw [decodeL_N]; unfold decodeN
    rw [if_neg (by omega), if_neg (by omega), if_pos (by omega), if_neg (by omega)]
theorem pt4 (l : List UInt8) (h : 240 ≤ (l.getD 0 0).toNat) (h' : (l.getD 0 0).toNat < 245) (t : tailB l 1 = true) (u : tailB l 2 = true) (v : tailB l 3 = true) (c : Nat)
    (hc : (c : Int) = (((((l.getD 0 0).toNat : Int) - 240) * 64 + ((l.getD 1 0).toNat : Int) - 128) * 64 + ((l.getD 2 0).toNat : Int) - 128) * 64 + ((l.getD 3 0).toNat : Int) - 128) :
    ptOf l = if 65536 ≤ c ∧ chB c = true then (c, 4) else (0, 0) := by
  obtain ⟨t0, t1, t2⟩ := (tailB_iff l 1).1 t
  obtain ⟨u0, u1, u2⟩ := (tailB_iff l 2).1 u
  obtain ⟨v0, v1, v2⟩ := (tailB_iff l 3).1 v
  by_cases k0 : 65536 ≤ c ∧ chB c = true
  · have k : 65536 ≤ c ∧ (0 ≤ (c : Int) ∧ (c : Int) ≤ 1114111 ∧ ((c : Int) < 55296 ∨ 57343 < (c : Int))) := ⟨k0.1, chB_iff.1 k0.2⟩
    rw [if_pos k0]
    refine ptOf_good ?_ (by omega)
    rw [decodeL_N]; unfold decodeN
    rw [if_neg (by omega), if_neg (by omega), if_neg (by omega), if_pos (by omega), if_pos (by omega)]
    refine Prod.ext ?_ rfl
    show _ % 8 * 262144 + _ % 64 * 4096 + _ % 64 * 64 + _ % 64 = _
    omega
  · have k : ¬ (65536 ≤ c ∧ (0 ≤ (c : Int) ∧ (c : Int) ≤ 1114111 ∧ ((c : Int) < 55296 ∨ 57343 < (c : Int)))) := fun h => k0 ⟨h.1, chB_iff.2 h.2⟩
    rw [if_neg k0]
    refine ptOf_bad ?_
    rw [decodeL_N]; unfold decodeN
    rw [if_neg (by omega), if_neg (by omega), if_neg (by omega), if_pos (by omega), if_neg (by omega)]
theorem pt0 (l : List UInt8) (h : 128 ≤ (l.getD 0 0).toNat) (h2 : (l.getD 0 0).toNat < 194 ∨ 224 ≤ (l.getD 0 0).toNat ∨ tailB l 1 = false) (h3 : (l.getD 0 0).toNat < 224 ∨ 240 ≤ (l.getD 0 0).toNat ∨ tailB l 1 = false ∨ tailB l 2 = false)
    (h4 : (l.getD 0 0).toNat < 240 ∨ 245 ≤ (l.getD 0 0).toNat ∨ tailB l 1 = false ∨ tailB l 2 = false ∨ tailB l 3 = false) : ptOf l = (0, 0) := by
  have k0 := (l.getD 0 0).toNat_lt
  have f : ∀ k, tailB l k = false → ¬ (k < l.length ∧ 128 ≤ (l.getD k 0).toNat ∧ (l.getD k 0).toNat < 192) := fun k hk hp => by
    rw [(tailB_iff l k).2 hp] at hk; cases hk
  have f1 := f 1
  have f2 := f 2
  have f3 := f 3
  refine ptOf_bad ?_
  rw [decodeL_N]; unfold decodeN
  rw [if_neg (by omega)]
  by_cases c2 : (l.getD 0 0).toNat / 32 = 6 ∧ (1 < l.length ∧ (l.getD 1 0).toNat / 64 = 2)
  · rw [if_pos c2, if_neg]
    rcases h2 with h | h | h
    · omega
    · omega
    · have := f1 h; omega
  · rw [if_neg c2]
    by_cases c3 : (l.getD 0 0).toNat / 16 = 14 ∧ (1 < l.length ∧ (l.getD 1 0).toNat / 64 = 2) ∧ (2 < l.length ∧ (l.getD 2 0).toNat / 64 = 2)
    · exfalso
      rcases h3 with h | h | h | h
      · omega
      · omega
      · have := f1 h; omega
      · have := f2 h; omega
    · rw [if_neg c3]
      by_cases c4 : (l.getD 0 0).toNat / 8 = 30 ∧ (1 < l.length ∧ (l.getD 1 0).toNat / 64 = 2) ∧ (2 < l.length ∧ (l.getD 2 0).toNat / 64 = 2) ∧ (3 < l.length ∧ (l.getD 3 0).toNat / 64 = 2)
      · rw [if_pos c4, if_neg]
        rcases h4 with h | h | h | h | h
        · omega
        · omega
        · have := f1 h; omega
        · have := f2 h; omega
        · have := f3 h; omega
      · rw [if_neg c4]
end Go.Proofs.YtjcmdifpkafdkaaDoor
namespace Go.Proofs.YtjcmdifpkafdkaaDoor
open Go.RowKit Go.Lib
set_option maxRecDepth 100000

def PtPost (l : List UInt8) (w : World) (e : Ending) (w' : World) : Prop := e = .returned (.tuple #[.int .i64 ((ptOf l).1 : Nat), .int .i64 ((ptOf l).2 : Nat)]) ∧ ∃ q, w' = w.drewN q
end Go.Proofs.YtjcmdifpkafdkaaDoor
