/-
  RunesJoins: for every two strings the law returns true; nothing that lay before is changed. Conditions: the tables of unicode/utf8 lie as laid.
-/
import Derived.Test.YtbfldnppfenbgaaDoorRunes
import Derived.Test.YtbfldnppfenbgaaDoorKit
namespace Go.Proofs.YtbfldnppfenbgaaDoor
open Go.RowKit Go.Lib
set_option maxRecDepth 100000

theorem at_lives (w : World) (hT : Tabs w) : Calls Tryd.prog 17 #[.string ⟨#[97, 195, 169]⟩, .int .i64 1] w fun e w' => e = .returned (.tuple #[.int .i64 233, .bool true]) ∧ Below w.heap.size w w' :=
  (at_any ⟨#[97, 195, 169]⟩ 1 w (by decide) hT (by decide) (by decide)).mono fun e w' ⟨he, hb⟩ => ⟨he.trans (by kernel_rfl), hb⟩
theorem len_lives (w : World) (hT : Tabs w) : Calls Tryd.prog 13 #[.string ⟨#[97, 195, 169]⟩] w fun e w' => e = .returned (.int .i64 2) ∧ Below w.heap.size w w' :=
  (len_any ⟨#[97, 195, 169]⟩ w (by decide) hT).mono fun e w' ⟨he, hb⟩ => ⟨he.trans (by kernel_rfl), hb⟩
/-- The chapter's example. -/
theorem lives_any (w : World) (hT : Tabs w) : Calls Tryd.prog 10 #[] w fun e w' => e = .returned (.bool true) ∧ Below w.heap.size w w' := by
  have C := Lib.hid (at_lives w hT)
  have D : ∀ w', Below w.heap.size w w' → Calls Tryd.prog 13 #[.string ⟨#[97, 195, 169]⟩] w' fun e w'' => e = .returned (.int .i64 2) ∧ Below w'.heap.size w' w'' := fun w' hb => len_lives w' (tabs_later hT hb)
  have DH := Lib.hid D
  clear hT D
  go_enter Tryd.func10, Tryd.ntmps10
  go_wp2_with (go_at_call 17; refine C.out.mono ?_; rintro e w1 ⟨rfl, hb1⟩)
  have d := DH.out w1 hb1
  go_wp2_with (go_at_call 13; refine d.mono ?_; rintro e w2 ⟨rfl, hb2⟩)
  go_ret
  exact ⟨rfl, hb1.trans (hb2.mono hb1.size)⟩

theorem joins_long (s t : ByteArray) (w : World) (hs : s.size ≤ 9223372036854775807) (ht : t.size ≤ 9223372036854775807) (hT : Tabs w) (h : 2000 < s.size ∨ 2000 < t.size) :
    Calls Tryd.prog 3 #[.string s, .string t] w fun e w' => e = .returned (.bool true) ∧ Below w.heap.size w w' := by
  have C := Lib.hid (lives_any w hT)
  clear hT
  by_cases h1 : 2000 < s.size
  · clear h
    go_enter Tryd.func3, Tryd.ntmps3
    go_wp2_with (go_at_call 10; refine C.out.mono ?_; rintro e w1 ⟨rfl, hb1⟩)
    go_ret
    exact ⟨rfl, hb1⟩
  · have h2 : 2000 < t.size := by omega
    clear h
    go_enter Tryd.func3, Tryd.ntmps3
    go_wp2_with (go_at_call 10; refine C.out.mono ?_; rintro e w1 ⟨rfl, hb1⟩)
    go_ret
    exact ⟨rfl, hb1⟩

theorem join_list (s t : ByteArray) : (s ++ t).data.toList = s.data.toList ++ t.data.toList := by simp
theorem join_size (s t : ByteArray) : (s ++ t).size = s.size + t.size := by simp

set_option maxHeartbeats 1000000 in
/-- Both are valid. -/
theorem joins_both (s t : ByteArray) (w : World) (hs : s.size ≤ 2000) (ht : t.size ≤ 2000) (hT : Tabs w) (v1 : validD s.data.toList = true) (v2 : validD t.data.toList = true) :
    Calls Tryd.prog 3 #[.string s, .string t] w fun e w' => e = .returned (.bool true) ∧ Below w.heap.size w w' := by
  obtain ⟨i0, hi, hz0, hz1, hz2⟩ := info_parts info_int
  have v3 : validD (s ++ t).data.toList = true := by rw [join_list, (valid_append_left v1).1, v2]
  have r3 : runes (s ++ t).data.toList = runes s.data.toList ++ runes t.data.toList := by rw [join_list, (valid_append_left v1).2]
  have l1 : (runes s.data.toList).length ≤ 2000 := Nat.le_trans (runes_le _) (by simpa using hs)
  have l2 : (runes t.data.toList).length ≤ 2000 := Nat.le_trans (runes_le _) (by simpa using ht)
  have C := Lib.hid (lives_any w hT)
  have C1 := Lib.hid (fun w' (hb : Below w.heap.size w w') => list_yes s w' (by omega) (tabs_later hT hb) v1)
  have C2 := Lib.hid (fun w' (hb : Below w.heap.size w w') => list_yes t w' (by omega) (tabs_later hT hb) v2)
  have C3 := Lib.hid (fun w' (hb : Below w.heap.size w w') => list_yes (s ++ t) w' (by rw [join_size]; omega) (tabs_later hT hb) v3)
  rw [r3] at C3
  generalize runes s.data.toList = xs at C1 C3 l1
  generalize runes t.data.toList = ys at C2 C3 l2
  clear v1 v2 v3 r3 hT
  go_enter Tryd.func3, Tryd.ntmps3
  go_wp2_with (go_at_call 10; refine C.out.mono ?_; rintro e w1 ⟨rfl, hb1⟩)
  refine (C1.out w1 hb1).mono ?_
  rintro e w2 ⟨a, rfl, own2, hb2⟩
  have B2 : Below w.heap.size w w2 := hb1.trans (hb2.mono hb1.size)
  have O2 := Lib.hid (owns_mono own2 hb1.size)
  have HA := Lib.hid (fun g hg => (own2.lt g hg).2)
  clear own2 hb1 hb2
  go_wp2_with fail
  refine (C2.out w2 B2).mono ?_
  rintro e w3 ⟨b, rfl, own3, hb3⟩
  have O2' := Lib.hid (owns_later O2.out hb3)
  have hs23 := hb3.size
  have B3 : Below w.heap.size w w3 := B2.trans (hb3.mono B2.size)
  have O3 := Lib.hid own3
  clear own3 hb3 O2
  go_wp2_with fail
  refine (C3.out w3 B3).mono ?_
  rintro e w4 ⟨c, rfl, own4, hb4⟩
  have O2'' := Lib.hid (owns_later O2'.out hb4)
  have O3' := Lib.hid (owns_later O3.out hb4)
  have B4 : Below w.heap.size w w4 := B3.trans (hb4.mono B3.size)
  have O4 := Lib.hid own4
  clear own4 hb4 O2' O3
  obtain ⟨Ab, cb, hbv, hread⟩ := (Ints.own O3'.out).reads
  have HR := Lib.hid hread
  clear hread
  rw [hbv]
  clear hbv
  have hB4 : w.heap.size ≤ w4.heap.size := B4.size
  go_wp2_with (at_builtin; refine (wpList_append_any_g _ (by rfl) (.tmp 48) (.tmp 49) _ rfl w.heap.size 3 i0 _ 1 8 Tryd.underlying23 hi hz0 hz1 hz2 rfl (by omega) a xs.length (xs.map (Value.int .i64)) rfl O2''.out w4.heap.size Ab ys.length cb (ys.map (Value.int .i64)) rfl HR.out (oneCell_ints ys) (by simp only [maxLen]; omega) (by omega) hB4 ?_); intro v5 w5 hown5 hgrow5 hat5)
  have O5 := Lib.hid hown5
  have hb5 : Below w.heap.size w4 w5 := below_own O2''.out hgrow5 hB4
  have O4' := Lib.hid (owns_apart O4.out hgrow5 HA.out hs23)
  rw [← List.map_append, ← List.length_append] at O5
  have S := same_int w5.heap.size c v5 (xs ++ ys) (xs ++ ys) w5 (Ints.own O4'.out) (Ints.own O5.out)
  rw [decide_eq_true rfl] at S
  refine S.mono ?_
  rintro e w6 ⟨rfl, q, rfl⟩
  clear S O5 O4' hown5 hgrow5 hat5 HR O3' O4
  go_wp2
  go_ret
  exact ⟨rfl, below_drewN (B4.trans hb5) _⟩

set_option maxHeartbeats 1000000 in
theorem joins_left (s t : ByteArray) (w : World) (hs : s.size ≤ 2000) (ht : t.size ≤ 2000) (hT : Tabs w) (v1 : validD s.data.toList = true) (v2 : validD t.data.toList = false) :
    Calls Tryd.prog 3 #[.string s, .string t] w fun e w' => e = .returned (.bool true) ∧ Below w.heap.size w w' := by
  have v3 : validD (s ++ t).data.toList = false := by rw [join_list, (valid_append_left v1).1, v2]
  have C := Lib.hid (lives_any w hT)
  have C1 := Lib.hid (fun w' (hb : Below w.heap.size w w') => list_yes s w' (by omega) (tabs_later hT hb) v1)
  have C2 := Lib.hid (fun w' (hb : Below w.heap.size w w') => list_no t w' (by omega) (tabs_later hT hb) v2)
  have C3 := Lib.hid (fun w' (hb : Below w.heap.size w w') => list_no (s ++ t) w' (by rw [join_size]; omega) (tabs_later hT hb) v3)
  clear v1 v2 v3 hT
  go_enter Tryd.func3, Tryd.ntmps3
  go_wp2_with (go_at_call 10; refine C.out.mono ?_; rintro e w1 ⟨rfl, B1⟩)
  refine (C1.out w1 B1).mono ?_
  rintro e w2 ⟨v2, rfl, _, hb2⟩
  have B2 : Below w.heap.size w w2 := B1.trans (hb2.mono B1.size)
  clear hb2
  go_wp2_with fail
  refine (C2.out w2 B2).mono ?_
  rintro e w3 ⟨rfl, hb3⟩
  have B3 : Below w.heap.size w w3 := B2.trans (hb3.mono B2.size)
  clear hb3
  go_wp2_with fail
  refine (C3.out w3 B3).mono ?_
  rintro e w4 ⟨rfl, hb4⟩
  have B4 : Below w.heap.size w w4 := B3.trans (hb4.mono B3.size)
  clear hb4
  go_wp2
  go_ret
  exact ⟨rfl, B4⟩

set_option maxHeartbeats 1000000 in
theorem joins_right (s t : ByteArray) (w : World) (hs : s.size ≤ 2000) (ht : t.size ≤ 2000) (hT : Tabs w) (v1 : validD s.data.toList = false) (v2 : validD t.data.toList = true) :
    Calls Tryd.prog 3 #[.string s, .string t] w fun e w' => e = .returned (.bool true) ∧ Below w.heap.size w w' := by
  have v3 : validD (s ++ t).data.toList = false := by
    cases h : validD (s ++ t).data.toList with
    | false => rfl
    | true =>
      have h1 := valid_append_right (runes (s ++ t).data.toList) s.data.toList t.data.toList (valid_ch h) (by rw [valid_eq h, join_list]) v2
      rw [v1] at h1
      cases h1
  have C := Lib.hid (lives_any w hT)
  have C1 := Lib.hid (fun w' (hb : Below w.heap.size w w') => list_no s w' (by omega) (tabs_later hT hb) v1)
  have C2 := Lib.hid (fun w' (hb : Below w.heap.size w w') => list_yes t w' (by omega) (tabs_later hT hb) v2)
  have C3 := Lib.hid (fun w' (hb : Below w.heap.size w w') => list_no (s ++ t) w' (by rw [join_size]; omega) (tabs_later hT hb) v3)
  clear v1 v2 v3 hT
  go_enter Tryd.func3, Tryd.ntmps3
  go_wp2_with (go_at_call 10; refine C.out.mono ?_; rintro e w1 ⟨rfl, B1⟩)
  refine (C1.out w1 B1).mono ?_
  rintro e w2 ⟨rfl, hb2⟩
  have B2 : Below w.heap.size w w2 := B1.trans (hb2.mono B1.size)
  clear hb2
  go_wp2_with fail
  refine (C2.out w2 B2).mono ?_
  rintro e w3 ⟨v3, rfl, _, hb3⟩
  have B3 : Below w.heap.size w w3 := B2.trans (hb3.mono B2.size)
  clear hb3
  go_wp2_with fail
  refine (C3.out w3 B3).mono ?_
  rintro e w4 ⟨rfl, hb4⟩
  have B4 : Below w.heap.size w w4 := B3.trans (hb4.mono B3.size)
  clear hb4
  go_wp2
  go_ret
  exact ⟨rfl, B4⟩

set_option maxHeartbeats 1000000 in
theorem joins_none1 (s t : ByteArray) (w : World) (hs : s.size ≤ 2000) (ht : t.size ≤ 2000) (hT : Tabs w) (v1 : validD s.data.toList = false) (v2 : validD t.data.toList = false) (v3 : validD (s ++ t).data.toList = false) :
    Calls Tryd.prog 3 #[.string s, .string t] w fun e w' => e = .returned (.bool true) ∧ Below w.heap.size w w' := by
  have C := Lib.hid (lives_any w hT)
  have C1 := Lib.hid (fun w' (hb : Below w.heap.size w w') => list_no s w' (by omega) (tabs_later hT hb) v1)
  have C2 := Lib.hid (fun w' (hb : Below w.heap.size w w') => list_no t w' (by omega) (tabs_later hT hb) v2)
  have C3 := Lib.hid (fun w' (hb : Below w.heap.size w w') => list_no (s ++ t) w' (by rw [join_size]; omega) (tabs_later hT hb) v3)
  clear v1 v2 v3 hT
  go_enter Tryd.func3, Tryd.ntmps3
  go_wp2_with (go_at_call 10; refine C.out.mono ?_; rintro e w1 ⟨rfl, B1⟩)
  refine (C1.out w1 B1).mono ?_
  rintro e w2 ⟨rfl, hb2⟩
  have B2 : Below w.heap.size w w2 := B1.trans (hb2.mono B1.size)
  clear hb2
  go_wp2_with fail
  refine (C2.out w2 B2).mono ?_
  rintro e w3 ⟨rfl, hb3⟩
  have B3 : Below w.heap.size w w3 := B2.trans (hb3.mono B2.size)
  clear hb3
  go_wp2_with fail
  refine (C3.out w3 B3).mono ?_
  rintro e w4 ⟨rfl, hb4⟩
  have B4 : Below w.heap.size w w4 := B3.trans (hb4.mono B3.size)
  clear hb4
  go_wp2
  go_ret
  exact ⟨rfl, B4⟩

set_option maxHeartbeats 1000000 in
theorem joins_none2 (s t : ByteArray) (w : World) (hs : s.size ≤ 2000) (ht : t.size ≤ 2000) (hT : Tabs w) (v1 : validD s.data.toList = false) (v2 : validD t.data.toList = false) (v3 : validD (s ++ t).data.toList = true) :
    Calls Tryd.prog 3 #[.string s, .string t] w fun e w' => e = .returned (.bool true) ∧ Below w.heap.size w w' := by
  have C := Lib.hid (lives_any w hT)
  have C1 := Lib.hid (fun w' (hb : Below w.heap.size w w') => list_no s w' (by omega) (tabs_later hT hb) v1)
  have C2 := Lib.hid (fun w' (hb : Below w.heap.size w w') => list_no t w' (by omega) (tabs_later hT hb) v2)
  have C3 := Lib.hid (fun w' (hb : Below w.heap.size w w') => list_yes (s ++ t) w' (by rw [join_size]; omega) (tabs_later hT hb) v3)
  clear v1 v2 v3 hT
  go_enter Tryd.func3, Tryd.ntmps3
  go_wp2_with (go_at_call 10; refine C.out.mono ?_; rintro e w1 ⟨rfl, B1⟩)
  refine (C1.out w1 B1).mono ?_
  rintro e w2 ⟨rfl, hb2⟩
  have B2 : Below w.heap.size w w2 := B1.trans (hb2.mono B1.size)
  clear hb2
  go_wp2_with fail
  refine (C2.out w2 B2).mono ?_
  rintro e w3 ⟨rfl, hb3⟩
  have B3 : Below w.heap.size w w3 := B2.trans (hb3.mono B2.size)
  clear hb3
  go_wp2_with fail
  refine (C3.out w3 B3).mono ?_
  rintro e w4 ⟨v4, rfl, _, hb4⟩
  have B4 : Below w.heap.size w w4 := B3.trans (hb4.mono B3.size)
  clear hb4
  go_wp2
  go_ret
  exact ⟨rfl, B4⟩

/-- RunesJoins: always true. -/
theorem joins_any (s t : ByteArray) (w : World) (hs : s.size ≤ 9223372036854775807) (ht : t.size ≤ 9223372036854775807) (hT : Tabs w) :
    Calls Tryd.prog 3 #[.string s, .string t] w fun e w' => e = .returned (.bool true) ∧ Below w.heap.size w w' := by
  by_cases h : 2000 < s.size ∨ 2000 < t.size
  · exact joins_long s t w hs ht hT h
  · have h1 : s.size ≤ 2000 := by omega
    have h2 : t.size ≤ 2000 := by omega
    cases v1 : validD s.data.toList <;> cases v2 : validD t.data.toList
    · cases v3 : validD (s ++ t).data.toList
      · exact joins_none1 s t w h1 h2 hT v1 v2 v3
      · exact joins_none2 s t w h1 h2 hT v1 v2 v3
    · exact joins_right s t w h1 h2 hT v1 v2
    · exact joins_left s t w h1 h2 hT v1 v2
    · exact joins_both s t w h1 h2 hT v1 v2
end Go.Proofs.YtbfldnppfenbgaaDoor
