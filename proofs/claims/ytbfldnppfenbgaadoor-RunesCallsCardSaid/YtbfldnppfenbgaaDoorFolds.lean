/-
  RunesFolds: for every integer the law returns true; nothing that lay before is changed. Conditions: the tables of unicode/utf8 lie as laid.
-/
import Derived.Test.YtbfldnppfenbgaaDoorWidth
import Derived.Test.YtbfldnppfenbgaaDoorJoins
namespace Go.Proofs.YtbfldnppfenbgaaDoor
open Go.RowKit Go.Lib
set_option maxRecDepth 100000

/-! ### plainly -/
def NearP (c : Int) : Prop := (97 ≤ c ∧ c ≤ 122) ∨ (224 ≤ c ∧ c ≤ 246) ∨ (248 ≤ c ∧ c ≤ 254) ∨ (945 ≤ c ∧ c ≤ 961) ∨ (963 ≤ c ∧ c ≤ 969) ∨ (1072 ≤ c ∧ c ≤ 1103)
def ZeroP (c : Int) : Prop := (768 ≤ c ∧ c ≤ 879) ∨ (1155 ≤ c ∧ c ≤ 1161) ∨ (1425 ≤ c ∧ c ≤ 1469) ∨ (8203 ≤ c ∧ c ≤ 8207) ∨ (8400 ≤ c ∧ c ≤ 8447) ∨ (65024 ≤ c ∧ c ≤ 65039) ∨ (65056 ≤ c ∧ c ≤ 65071)
def TwoP (c : Int) : Prop := (0 ≤ c ∧ c ≤ 8) ∨ (10 ≤ c ∧ c ≤ 31) ∨ (127 ≤ c ∧ c ≤ 127) ∨ (4352 ≤ c ∧ c ≤ 4447) ∨ (11904 ≤ c ∧ c ≤ 12350) ∨ (12353 ≤ c ∧ c ≤ 42191) ∨ (44032 ≤ c ∧ c ≤ 55203) ∨ (63744 ≤ c ∧ c ≤ 64255) ∨ (65072 ≤ c ∧ c ≤ 65135) ∨ (65280 ≤ c ∧ c ≤ 65376) ∨ (65504 ≤ c ∧ c ≤ 65510) ∨ (127744 ≤ c ∧ c ≤ 128591) ∨ (129280 ≤ c ∧ c ≤ 129535) ∨ (131072 ≤ c ∧ c ≤ 262141)
def WordP (c : Int) : Prop := (48 ≤ c ∧ c ≤ 57) ∨ (65 ≤ c ∧ c ≤ 90) ∨ (97 ≤ c ∧ c ≤ 122) ∨ (170 ≤ c ∧ c ≤ 170) ∨ (181 ≤ c ∧ c ≤ 181) ∨ (186 ≤ c ∧ c ≤ 186) ∨ (192 ≤ c ∧ c ≤ 214) ∨ (216 ≤ c ∧ c ≤ 246) ∨ (248 ≤ c ∧ c ≤ 591) ∨ (768 ≤ c ∧ c ≤ 893) ∨ (895 ≤ c ∧ c ≤ 902) ∨ (904 ≤ c ∧ c ≤ 1023) ∨ (1024 ≤ c ∧ c ≤ 1327) ∨ (1488 ≤ c ∧ c ≤ 1514) ∨ (12353 ≤ c ∧ c ≤ 12543) ∨ (13312 ≤ c ∧ c ≤ 40959) ∨ (44032 ≤ c ∧ c ≤ 55203) ∨ (131072 ≤ c ∧ c ≤ 262141)
theorem near_iff (c : Int) : nearB c = true ↔ NearP c := nearB_iff c
theorem zero_iff (c : Int) : inAny c zeroT = true ↔ ZeroP c := by simp [inAny, zeroT, ZeroP]
theorem two_iff (c : Int) : inAny c twoT = true ↔ TwoP c := by simp [inAny, twoT, TwoP]
theorem word_iff (c : Int) : inAny c wordT = true ↔ WordP c := by simp [inAny, wordT, WordP]
theorem up_cases (c : Int) : (NearP c ∧ upOf c = c - 32) ∨ (1104 ≤ c ∧ c ≤ 1119 ∧ upOf c = c - 80) ∨ (c = 962 ∧ upOf c = 931) ∨ (¬ NearP c ∧ ¬ (1104 ≤ c ∧ c ≤ 1119) ∧ c ≠ 962 ∧ upOf c = c) := by
  unfold upOf
  by_cases h : nearB c = true
  · rw [if_pos h]; exact .inl ⟨(near_iff c).1 h, rfl⟩
  · rw [if_neg h]
    have hn : ¬ NearP c := fun h' => h ((near_iff c).2 h')
    by_cases h2 : 1104 ≤ c ∧ c ≤ 1119
    · rw [if_pos h2]; exact .inr (.inl ⟨h2.1, h2.2, rfl⟩)
    · rw [if_neg h2]
      by_cases h3 : c = 962
      · rw [if_pos h3]; exact .inr (.inr (.inl ⟨h3, rfl⟩))
      · rw [if_neg h3]; exact .inr (.inr (.inr ⟨hn, h2, h3, rfl⟩))
theorem down_cases (c : Int) : (NearP (c + 32) ∧ downOf c = c + 32) ∨ (1024 ≤ c ∧ c ≤ 1039 ∧ downOf c = c + 80) ∨ (¬ NearP (c + 32) ∧ ¬ (1024 ≤ c ∧ c ≤ 1039) ∧ downOf c = c) := by
  unfold downOf
  by_cases h : nearB (c + 32) = true
  · have hn := (near_iff _).1 h
    have h1 : 65 ≤ c ∧ c ≤ 1114111 := by unfold NearP at hn; omega
    rw [if_pos ⟨h1.1, h1.2, h⟩]; exact .inl ⟨hn, rfl⟩
  · rw [if_neg (fun h' => h h'.2.2)]
    have hn : ¬ NearP (c + 32) := fun h' => h ((near_iff _).2 h')
    by_cases h2 : 1024 ≤ c ∧ c ≤ 1039
    · rw [if_pos h2]; exact .inr (.inl ⟨h2.1, h2.2, rfl⟩)
    · rw [if_neg h2]; exact .inr (.inr ⟨hn, h2, rfl⟩)
theorem width_cases (c : Int) : (¬ (0 ≤ c ∧ c ≤ 1114111 ∧ (c < 55296 ∨ 57343 < c)) ∧ widthOf c = 0) ∨ ((0 ≤ c ∧ c ≤ 1114111 ∧ (c < 55296 ∨ 57343 < c)) ∧ ((ZeroP c ∧ widthOf c = 0) ∨ (¬ ZeroP c ∧ TwoP c ∧ widthOf c = 2) ∨ (¬ ZeroP c ∧ ¬ TwoP c ∧ widthOf c = 1))) := by
  cases h : chB c with
  | false =>
    left
    refine ⟨fun h' => ?_, width_no h⟩
    rw [chB_iff.2 h'] at h
    cases h
  | true =>
    right
    refine ⟨chB_iff.1 h, ?_⟩
    cases h1 : inAny c zeroT with
    | true => exact .inl ⟨(zero_iff c).1 h1, width_zero h h1⟩
    | false =>
      have n1 : ¬ ZeroP c := fun h' => by rw [(zero_iff c).2 h'] at h1; cases h1
      cases h2 : inAny c twoT with
      | true => exact .inr (.inl ⟨n1, (two_iff c).1 h2, width_two h h1 h2⟩)
      | false =>
        have n2 : ¬ TwoP c := fun h' => by rw [(two_iff c).2 h'] at h2; cases h2
        exact .inr (.inr ⟨n1, n2, width_one h h1 h2⟩)
theorem width_letter (c : Int) (h : (33 ≤ c ∧ c ≤ 126) ∨ (160 ≤ c ∧ c ≤ 767) ∨ (880 ≤ c ∧ c ≤ 1154) ∨ (1162 ≤ c ∧ c ≤ 1400)) : widthOf c = 1 := by
  rcases width_cases c with ⟨h1, _⟩ | ⟨_, ⟨h1, _⟩ | ⟨_, h1, _⟩ | ⟨_, _, h1⟩⟩
  · omega
  · unfold ZeroP at h1; omega
  · unfold TwoP at h1; omega
  · exact h1
theorem word_letter (c : Int) (h : (65 ≤ c ∧ c ≤ 90) ∨ (97 ≤ c ∧ c ≤ 122) ∨ (192 ≤ c ∧ c ≤ 214) ∨ (216 ≤ c ∧ c ≤ 246) ∨ (248 ≤ c ∧ c ≤ 591) ∨ (904 ≤ c ∧ c ≤ 1023) ∨ (1024 ≤ c ∧ c ≤ 1327)) : inAny c wordT = true := by
  rw [word_iff]; unfold WordP; omega
theorem up_up (c : Int) : upOf (upOf c) = upOf c := by
  rcases up_cases c with ⟨h, e⟩ | ⟨h, h', e⟩ | ⟨h, e⟩ | ⟨h, _, _, e⟩ <;> rw [e]
  all_goals try exact e
  · rcases up_cases (c - 32) with ⟨k, _⟩ | ⟨k, _, _⟩ | ⟨k, _⟩ | ⟨_, _, _, k⟩
    · unfold NearP at h k; omega
    · unfold NearP at h; omega
    · unfold NearP at h; omega
    · exact k
  · rcases up_cases (c - 80) with ⟨k, _⟩ | ⟨k, _, _⟩ | ⟨k, _⟩ | ⟨_, _, _, k⟩
    · unfold NearP at k; omega
    · omega
    · omega
    · exact k
  · decide
theorem down_down (c : Int) : downOf (downOf c) = downOf c := by
  rcases down_cases c with ⟨h, e⟩ | ⟨h, h', e⟩ | ⟨h, _, e⟩ <;> rw [e]
  all_goals try exact e
  · rcases down_cases (c + 32) with ⟨k, _⟩ | ⟨k, _, _⟩ | ⟨_, _, k⟩
    · unfold NearP at h k; omega
    · unfold NearP at h; omega
    · exact k
  · rcases down_cases (c + 80) with ⟨k, _⟩ | ⟨k, _, _⟩ | ⟨_, _, k⟩
    · unfold NearP at k; omega
    · omega
    · exact k
/-- Up of Down is Up. -/
theorem up_down (c : Int) : upOf (downOf c) = upOf c := by
  rcases down_cases c with ⟨h, e⟩ | ⟨h, h', e⟩ | ⟨h, _, e⟩ <;> rw [e]
  · have hu : upOf c = c := by
      rcases up_cases c with ⟨k, _⟩ | ⟨k, _, _⟩ | ⟨k, _⟩ | ⟨_, _, _, k⟩
      · unfold NearP at h k; omega
      · unfold NearP at h; omega
      · unfold NearP at h; omega
      · exact k
    rcases up_cases (c + 32) with ⟨k, k'⟩ | ⟨k, _, _⟩ | ⟨k, _⟩ | ⟨k, _, _, _⟩
    · rw [k', hu]; omega
    · unfold NearP at h; omega
    · unfold NearP at h; omega
    · exact absurd h k
  · have hu : upOf c = c := by
      rcases up_cases c with ⟨k, _⟩ | ⟨k, _, _⟩ | ⟨k, _⟩ | ⟨_, _, _, k⟩
      · unfold NearP at k; omega
      · omega
      · omega
      · exact k
    rcases up_cases (c + 80) with ⟨k, k'⟩ | ⟨_, _, k⟩ | ⟨k, _⟩ | ⟨k, k2, _, _⟩
    · unfold NearP at k; omega
    · rw [k, hu]; omega
    · omega
    · omega
theorem fold_up (c : Int) : foldOf (upOf c) = foldOf c := by unfold foldOf; rw [up_up]
theorem fold_down (c : Int) : foldOf (downOf c) = foldOf c := by unfold foldOf; rw [up_down]
theorem fold_fold (c : Int) : foldOf (foldOf c) = foldOf c := by
  have h1 : foldOf (downOf (upOf c)) = foldOf (upOf c) := fold_down (upOf c)
  have h2 := fold_up c
  exact h1.trans h2
theorem ch_up (c : Int) (h : chB c = true) : chB (upOf c) = true := by
  rw [chB_iff] at h ⊢
  rcases up_cases c with ⟨k, e⟩ | ⟨k, _, e⟩ | ⟨k, e⟩ | ⟨_, _, _, e⟩ <;> rw [e]
  · unfold NearP at k; omega
  all_goals omega
theorem ch_down (c : Int) (h : chB c = true) : chB (downOf c) = true := by
  rw [chB_iff] at h ⊢
  rcases down_cases c with ⟨k, e⟩ | ⟨k, _, e⟩ | ⟨_, _, e⟩ <;> rw [e]
  · unfold NearP at k; omega
  all_goals omega
theorem word_up (c : Int) : inAny (upOf c) wordT = inAny c wordT := by
  rcases up_cases c with ⟨k, e⟩ | ⟨k, _, e⟩ | ⟨k, e⟩ | ⟨_, _, _, e⟩ <;> rw [e]
  · rw [word_letter (c - 32) (by unfold NearP at k; omega), word_letter c (by unfold NearP at k; omega)]
  · rw [word_letter (c - 80) (by omega), word_letter c (by omega)]
  · rw [word_letter 931 (by omega), word_letter c (by omega)]
theorem word_down (c : Int) : inAny (downOf c) wordT = inAny c wordT := by
  rcases down_cases c with ⟨k, e⟩ | ⟨k, _, e⟩ | ⟨_, _, e⟩ <;> rw [e]
  · rw [word_letter (c + 32) (by unfold NearP at k; omega), word_letter c (by unfold NearP at k; omega)]
  · rw [word_letter (c + 80) (by omega), word_letter c (by omega)]
theorem width_up (c : Int) : widthOf (upOf c) = widthOf c := by
  rcases up_cases c with ⟨k, e⟩ | ⟨k, _, e⟩ | ⟨k, e⟩ | ⟨_, _, _, e⟩ <;> rw [e]
  · rw [width_letter (c - 32) (by unfold NearP at k; omega), width_letter c (by unfold NearP at k; omega)]
  · rw [width_letter (c - 80) (by omega), width_letter c (by omega)]
  · rw [width_letter 931 (by omega), width_letter c (by omega)]
theorem width_down (c : Int) : widthOf (downOf c) = widthOf c := by
  rcases down_cases c with ⟨k, e⟩ | ⟨k, _, e⟩ | ⟨_, _, e⟩ <;> rw [e]
  · rw [width_letter (c + 32) (by unfold NearP at k; omega), width_letter c (by unfold NearP at k; omega)]
  · rw [width_letter (c + 80) (by omega), width_letter c (by omega)]
theorem width_range (c : Int) : 0 ≤ widthOf c ∧ widthOf c ≤ 2 := by
  rcases width_cases c with ⟨_, h⟩ | ⟨_, ⟨_, h⟩ | ⟨_, _, h⟩ | ⟨_, _, h⟩⟩ <;> rw [h] <;> omega
theorem none_up (c : Int) (h : chB c = false) : upOf c = c ∧ downOf c = c ∧ foldOf c = c ∧ widthOf c = 0 ∧ inAny c wordT = false := by
  have hc : ¬ (0 ≤ c ∧ c ≤ 1114111 ∧ (c < 55296 ∨ 57343 < c)) := fun h' => by rw [chB_iff.2 h'] at h; cases h
  have hu : upOf c = c := by
    rcases up_cases c with ⟨k, e⟩ | ⟨k, _, e⟩ | ⟨k, e⟩ | ⟨_, _, _, e⟩
    · unfold NearP at k; omega
    · omega
    · omega
    · exact e
  have hd : downOf c = c := by
    rcases down_cases c with ⟨k, e⟩ | ⟨k, _, e⟩ | ⟨_, _, e⟩
    · unfold NearP at k; omega
    · omega
    · exact e
  refine ⟨hu, hd, by unfold foldOf; rw [hu, hd], width_no h, ?_⟩
  cases hw : inAny c wordT with
  | false => rfl
  | true => have := (word_iff c).1 hw; unfold WordP at this; omega
theorem down_bounds (c : Int) (h0 : -9223372036854775808 ≤ c) (h1 : c ≤ 9223372036854775807) : -9223372036854775808 ≤ downOf c ∧ downOf c ≤ 9223372036854775807 := by
  rcases down_cases c with ⟨k, e⟩ | ⟨k, _, e⟩ | ⟨_, _, e⟩ <;> rw [e]
  · unfold NearP at k; omega
  all_goals omega
theorem fold_bounds (c : Int) (h0 : -9223372036854775808 ≤ c) (h1 : c ≤ 9223372036854775807) : -9223372036854775808 ≤ foldOf c ∧ foldOf c ≤ 9223372036854775807 :=
  have h := up_bounds c h0 h1
  down_bounds _ h.1 h.2

/-! ### the walks -/
set_option maxHeartbeats 2000000 in
theorem folds_no (c : Int) (w : World) (h0 : -9223372036854775808 ≤ c) (h1 : c ≤ 9223372036854775807) (hT : Tabs w) (hc : chB c = false) :
    Calls Tryd.prog 7 #[.int .i64 c] w fun e w' => e = .returned (.bool true) ∧ Below w.heap.size w w' := by
  obtain ⟨eu, ed, ef, ew, eo⟩ := none_up c hc
  have C := Lib.hid (lives_any w hT)
  have U := Lib.hid (fun w' => up_any c w' h0 h1)
  have D := Lib.hid (fun w' => down_any c w')
  have FO := Lib.hid (fun w' => fold_any c w' h0 h1)
  have WI := Lib.hid (fun w' => width_any c w')
  have IS := Lib.hid (fun w' => is_any c w')
  have WO := Lib.hid (fun w' => word_any c w')
  rw [eu] at U
  rw [ed] at D
  rw [ef] at FO
  rw [ew] at WI
  rw [hc] at IS
  rw [eo] at WO
  clear eu ed ef ew eo hc hT
  go_enter Tryd.func7, Tryd.ntmps7
  go_wp2_with (go_at_call 10; refine C.out.mono ?_; rintro e w1 ⟨rfl, B1⟩)
  refine (U.out w1).mono ?_
  rintro e w2 ⟨rfl, hb2⟩
  have B2 : Below w.heap.size w w2 := B1.trans (hb2.mono B1.size)
  clear hb2
  go_wp2_with fail
  refine (D.out w2).mono ?_
  rintro e w3 ⟨rfl, hb3⟩
  have B3 : Below w.heap.size w w3 := B2.trans (hb3.mono B2.size)
  clear hb3
  go_wp2_with fail
  refine (FO.out w3).mono ?_
  rintro e w4 ⟨rfl, hb4⟩
  have B4 : Below w.heap.size w w4 := B3.trans (hb4.mono B3.size)
  clear hb4
  go_wp2_with fail
  refine (WI.out w4).mono ?_
  rintro e w5 ⟨rfl, hb5⟩
  have B5 : Below w.heap.size w w5 := B4.trans (hb5.mono B4.size)
  clear hb5
  go_wp2_with fail
  refine (IS.out w5).mono ?_
  rintro e w5a ⟨rfl, rfl⟩
  go_wp2_with fail
  refine (WO.out w5).mono ?_
  rintro e w6 ⟨rfl, hb6⟩
  have B6 : Below w.heap.size w w6 := B5.trans (hb6.mono B5.size)
  clear hb6
  go_wp2
  go_ret
  exact ⟨rfl, B6⟩

set_option maxHeartbeats 4000000 in
theorem folds_yes (c : Int) (w : World) (h0 : -9223372036854775808 ≤ c) (h1 : c ≤ 9223372036854775807) (hT : Tabs w) (hc : chB c = true) :
    Calls Tryd.prog 7 #[.int .i64 c] w fun e w' => e = .returned (.bool true) ∧ Below w.heap.size w w' := by
  have bu := up_bounds c h0 h1
  have bd := down_bounds c h0 h1
  have bf := fold_bounds c h0 h1
  obtain ⟨wr0, wr1⟩ := width_range c
  have C := Lib.hid (lives_any w hT)
  have U := Lib.hid (fun w' => up_any c w' h0 h1)
  have D := Lib.hid (fun w' => down_any c w')
  have FO := Lib.hid (fun w' => fold_any c w' h0 h1)
  have WI := Lib.hid (fun w' => width_any c w')
  have IS := Lib.hid (fun w' => is_any c w')
  have UU := Lib.hid (fun w' => up_any (upOf c) w' bu.1 bu.2)
  have DD := Lib.hid (fun w' => down_any (downOf c) w')
  have FF := Lib.hid (fun w' => fold_any (foldOf c) w' bf.1 bf.2)
  have FU := Lib.hid (fun w' => fold_any (upOf c) w' bu.1 bu.2)
  have FD := Lib.hid (fun w' => fold_any (downOf c) w' bd.1 bd.2)
  have IU := Lib.hid (fun w' => is_any (upOf c) w')
  have ID := Lib.hid (fun w' => is_any (downOf c) w')
  have WO := Lib.hid (fun w' => word_any c w')
  have OU := Lib.hid (fun w' => word_any (upOf c) w')
  have OD := Lib.hid (fun w' => word_any (downOf c) w')
  have WU := Lib.hid (fun w' => width_any (upOf c) w')
  have WD := Lib.hid (fun w' => width_any (downOf c) w')
  rw [hc] at IS
  rw [up_up] at UU
  rw [down_down] at DD
  rw [fold_fold] at FF
  rw [fold_up] at FU
  rw [fold_down] at FD
  rw [ch_up c hc] at IU
  rw [ch_down c hc] at ID
  rw [word_up] at OU
  rw [word_down] at OD
  rw [width_up] at WU
  rw [width_down] at WD
  clear bu bd bf hc hT h0 h1
  generalize upOf c = u at U UU FU IU OU WU
  generalize downOf c = d at D DD FD ID OD WD
  generalize foldOf c = f at FO FF FU FD
  generalize widthOf c = wd at WI WU WD wr0 wr1
  generalize inAny c wordT = ow at WO OU OD
  go_enter Tryd.func7, Tryd.ntmps7
  go_wp2_with (go_at_call 10; refine C.out.mono ?_; rintro e w1 ⟨rfl, B1⟩)
  refine (U.out w1).mono ?_
  rintro e w2 ⟨rfl, hb2⟩
  have B2 : Below w.heap.size w w2 := B1.trans (hb2.mono B1.size)
  clear hb2
  go_wp2_with fail
  refine (D.out w2).mono ?_
  rintro e w3 ⟨rfl, hb3⟩
  have B3 : Below w.heap.size w w3 := B2.trans (hb3.mono B2.size)
  clear hb3
  go_wp2_with fail
  refine (FO.out w3).mono ?_
  rintro e w4 ⟨rfl, hb4⟩
  have B4 : Below w.heap.size w w4 := B3.trans (hb4.mono B3.size)
  clear hb4
  go_wp2_with fail
  refine (WI.out w4).mono ?_
  rintro e w5 ⟨rfl, hb5⟩
  have B5 : Below w.heap.size w w5 := B4.trans (hb5.mono B4.size)
  clear hb5
  go_wp2_with fail
  refine (IS.out w5).mono ?_
  rintro e w5x1 ⟨rfl, rfl⟩
  go_wp2_with fail
  refine (UU.out w5).mono ?_
  rintro e w6 ⟨rfl, hb6⟩
  have B6 : Below w.heap.size w w6 := B5.trans (hb6.mono B5.size)
  clear hb6
  go_wp2_with fail
  refine (DD.out w6).mono ?_
  rintro e w7 ⟨rfl, hb7⟩
  have B7 : Below w.heap.size w w7 := B6.trans (hb7.mono B6.size)
  clear hb7
  go_wp2_with fail
  refine (FF.out w7).mono ?_
  rintro e w8 ⟨rfl, hb8⟩
  have B8 : Below w.heap.size w w8 := B7.trans (hb8.mono B7.size)
  clear hb8
  go_wp2_with fail
  refine (FU.out w8).mono ?_
  rintro e w9 ⟨rfl, hb9⟩
  have B9 : Below w.heap.size w w9 := B8.trans (hb9.mono B8.size)
  clear hb9
  go_wp2_with fail
  refine (FD.out w9).mono ?_
  rintro e w10 ⟨rfl, hb10⟩
  have B10 : Below w.heap.size w w10 := B9.trans (hb10.mono B9.size)
  clear hb10
  go_wp2_with fail
  refine (IU.out w10).mono ?_
  rintro e w10x2 ⟨rfl, rfl⟩
  go_wp2_with fail
  refine (ID.out w10).mono ?_
  rintro e w10x3 ⟨rfl, rfl⟩
  go_wp2_with fail
  refine (OU.out w10).mono ?_
  rintro e w11 ⟨rfl, hb11⟩
  have B11 : Below w.heap.size w w11 := B10.trans (hb11.mono B10.size)
  clear hb11
  go_wp2_with fail
  refine (WO.out w11).mono ?_
  rintro e w12 ⟨rfl, hb12⟩
  have B12 : Below w.heap.size w w12 := B11.trans (hb12.mono B11.size)
  clear hb12
  go_wp2_with fail
  refine (OD.out w12).mono ?_
  rintro e w13 ⟨rfl, hb13⟩
  have B13 : Below w.heap.size w w13 := B12.trans (hb13.mono B12.size)
  clear hb13
  go_wp2_with fail
  refine (WO.out w13).mono ?_
  rintro e w14 ⟨rfl, hb14⟩
  have B14 : Below w.heap.size w w14 := B13.trans (hb14.mono B13.size)
  clear hb14
  go_wp2_with fail
  refine (WU.out w14).mono ?_
  rintro e w15 ⟨rfl, hb15⟩
  have B15 : Below w.heap.size w w15 := B14.trans (hb15.mono B14.size)
  clear hb15
  go_wp2_with fail
  refine (WD.out w15).mono ?_
  rintro e w16 ⟨rfl, hb16⟩
  have B16 : Below w.heap.size w w16 := B15.trans (hb16.mono B15.size)
  clear hb16
  go_wp2
  go_ret
  exact ⟨rfl, B16⟩

theorem folds_any (c : Int) (w : World) (h0 : -9223372036854775808 ≤ c) (h1 : c ≤ 9223372036854775807) (hT : Tabs w) :
    Calls Tryd.prog 7 #[.int .i64 c] w fun e w' => e = .returned (.bool true) ∧ Below w.heap.size w w' := by
  cases hc : chB c
  · exact folds_no c w h0 h1 hT hc
  · exact folds_yes c w h0 h1 hT hc
end Go.Proofs.YtbfldnppfenbgaaDoor
