/-
  HeapHolds for all words, every string, index and word: the law returns true; nothing that lay before is changed. Conditions: the tables of unicode/utf8 lie as laid.
-/
import Derived.Test.YthmfiahmfdadgaaDoorHoldsYes
import Derived.Test.YthmfiahmfdadgaaDoorHoldsNo
namespace Go.Proofs.YthmfiahmfdadgaaDoor
open Go.RowKit
set_option maxRecDepth 100000

set_option maxHeartbeats 4000000 in
theorem holds0_yes (A : Option Addr) (c : Nat) (s : ByteArray) (i : Int) (x : Wd) (w : World) (hT : Tabs w) (hs : s.size ≤ 300) (hv : Lib.validD s.data.toList = true) :
    Calls Tryd.prog 3 #[.slice A 0 c, .string s, .int .i64 i, .agg #[.int .i64 x.1, .int .i64 x.2]] w fun e w' => e = .returned (.bool true) ∧ Below w.heap.size w w' := by
  obtain ⟨xk, xn⟩ := x
  have A1 : Below w.heap.size w (w.alloc (.cells #[.int .i64 xk, .int .i64 xn] 24)) := (Below.refl _ _).alloc (Nat.le_refl _) _
  have C := Lib.hid (lives_any _ (tabs_later hT A1))
  have d2 : decide ((300 : Int) < (s.size : Int)) = false := decide_eq_false (by omega)
  have HT := Lib.hid hT
  have HV := Lib.hid (And.intro hv (show lenOf s.data.toList ≤ 300 by rw [lenOf_yes hv]; exact Nat.le_trans (runes_le _) (by simpa using hs)))
  clear hT hv
  go_enter Tryd.func3, Tryd.ntmps3
  go_wp2_with fail
  refine C.out.mono ?_
  rintro e w1 ⟨rfl, hb1⟩
  have B1 := A1.trans (hb1.mono A1.size)
  clear C A1 hb1
  go_wp2_with fail
  refine (new_law 200 w1 (by omega) (by omega)).mono ?_
  rintro e w2 ⟨rfl, L2⟩
  have H2 := Lib.hid L2
  clear L2
  generalize w1.heap.size = p at H2 ⊢
  generalize Own.one p = S2 at H2
  have hsz1 := B1.size
  go_wp2_with fail
  refine (vec_new S2 p _ A 0 c [] w2 H2.out.heap (by omega) Reads.none_ (by decide) rfl (by decide)).mono ?_
  rintro e w3 ⟨S3, he3, hH3, hT3⟩
  obtain rfl : e = .returned (.tuple #[.agg #[.int .i64 4, .int .i64 0], .int .i64 0]) := he3
  have H3 := Lib.hid (H2.out.turn hH3 hT3)
  clear hH3 hT3 H2
  go_wp2_with fail
  have V4 := Lib.hid (VarAt.new H3.out.heap 24 #[.int .i64 4, .int .i64 0])
  have hb4 := (Below.refl w3.heap.size w3).alloc (Nat.le_refl _) (.cells #[.int .i64 4, .int .i64 0] 24)
  have H4 := Lib.hid (H3.out.below hb4)
  clear H3 hb4
  generalize w3.alloc (.cells #[.int .i64 4, .int .i64 0] 24) = w4 at V4 H4 ⊢
  generalize w3.heap.size = bv at V4 ⊢
  refine (text_new S3 p _ s w4 H4.out.heap (by omega) (H4.out.tabs (tabs_later HT.out B1)).1 (H4.out.tabs (tabs_later HT.out B1)).2 HV.out.1 (by have := HV.out.2; omega) (by decide) rfl (by have := HV.out.2; simp [HM.used, HM.push, optSize, HObj.size]; omega)).mono ?_
  rintro e w5 ⟨S5, he5, hH5, hT5⟩
  obtain rfl : e = .returned (.tuple #[.agg #[.int .i64 3, .int .i64 1], .int .i64 0]) := he5
  have H5 := Lib.hid (H4.out.turn hH5 hT5)
  have V5 := Lib.hid (V4.out.turn hT5)
  clear hH5 hT5 H4 V4
  go_wp2_with fail
  have T6 := Lib.hid (VarAt.new H5.out.heap 24 #[.int .i64 3, .int .i64 1])
  have hb6 := (Below.refl w5.heap.size w5).alloc (Nat.le_refl _) (.cells #[.int .i64 3, .int .i64 1] 24)
  have H6 := Lib.hid (H5.out.below hb6)
  have V6 := Lib.hid (V5.out.below hb6)
  clear H5 V5 hb6
  go_wp2_with fail
  generalize w5.alloc (.cells #[.int .i64 3, .int .i64 1] 24) = w6 at T6 V6 H6 ⊢
  generalize w5.heap.size = bt at T6 ⊢
  refine wp_loop_rounds 1 ?_
  rw [rounds_succ]
  have v0 : w6.cell? ⟨bv, 0, none⟩ = some (.int .i64 4) := V6.out.blk.cell 0
  have v1 : w6.cell? ⟨bv, 1, none⟩ = some (.int .i64 0) := V6.out.blk.cell 1
  go_wp2_with fail
  refine (vecOf_heap_yes S5 p _ (4, 0) [] w6 H6.out.heap (HM.find_at (i := 0) rfl rfl rfl) (by simp)).mono ?_
  rintro e w7 ⟨got, rfl, hgot, hb7⟩
  obtain ⟨ga, gc, hg⟩ : ∃ ga gc, got = .slice ga 0 gc := by
    rcases hgot.2 with ⟨h, _⟩ | ⟨g, cap, cur, h, _⟩
    · exact ⟨_, _, h⟩
    · exact ⟨_, _, h⟩
  subst hg
  have H7 := Lib.hid (H6.out.below hb7)
  have T7 := Lib.hid (T6.out.below hb7)
  clear hgot hb7 v0 v1 H6 T6 V6
  go_wp2
  refine wp_loop_rounds 1 ?_
  rw [rounds_succ]
  have t0 : w7.cell? ⟨bt, 0, none⟩ = some (.int .i64 3) := T7.out.blk.cell 0
  have t1 : w7.cell? ⟨bt, 1, none⟩ = some (.int .i64 1) := T7.out.blk.cell 1
  have BW : Below w.heap.size w w7 := B1.trans (H7.out.bel.mono B1.size)
  have CT : Hid (Calls Tryd.prog 19 #[.pointer (some ⟨p, 0, none⟩), .agg #[.int .i64 3, .int .i64 1]] w7 fun e w' => e = .returned (.tuple #[.string s, .int .i64 0]) ∧ Below w7.heap.size w7 w') :=
    textOf_heap S5 p _ (3, 1) w7 H7.out.heap
  go_wp2_with fail
  refine CT.out.mono ?_
  rintro e wz ⟨rfl, hbz⟩
  have BE : Below w.heap.size w wz := BW.trans (hbz.mono BW.size)
  clear hbz
  go_wp2
  go_ret
  exact ⟨rfl, BE⟩
set_option maxHeartbeats 4000000 in
theorem holds0_no (A : Option Addr) (c : Nat) (s : ByteArray) (i : Int) (x : Wd) (w : World) (hT : Tabs w) (hs : s.size ≤ 300) (hv : Lib.validD s.data.toList = false) :
    Calls Tryd.prog 3 #[.slice A 0 c, .string s, .int .i64 i, .agg #[.int .i64 x.1, .int .i64 x.2]] w fun e w' => e = .returned (.bool true) ∧ Below w.heap.size w w' := by
  obtain ⟨xk, xn⟩ := x
  have A1 : Below w.heap.size w (w.alloc (.cells #[.int .i64 xk, .int .i64 xn] 24)) := (Below.refl _ _).alloc (Nat.le_refl _) _
  have C := Lib.hid (lives_any _ (tabs_later hT A1))
  have d2 : decide ((300 : Int) < (s.size : Int)) = false := decide_eq_false (by omega)
  have HT := Lib.hid hT
  have HV := Lib.hid hv
  clear hT hv
  go_enter Tryd.func3, Tryd.ntmps3
  go_wp2_with fail
  refine C.out.mono ?_
  rintro e w1 ⟨rfl, hb1⟩
  have B1 := A1.trans (hb1.mono A1.size)
  clear C A1 hb1
  go_wp2_with fail
  refine (new_law 200 w1 (by omega) (by omega)).mono ?_
  rintro e w2 ⟨rfl, L2⟩
  have H2 := Lib.hid L2
  clear L2
  generalize w1.heap.size = p at H2 ⊢
  generalize Own.one p = S2 at H2
  have hsz1 := B1.size
  go_wp2_with fail
  refine (vec_new S2 p _ A 0 c [] w2 H2.out.heap (by omega) Reads.none_ (by decide) rfl (by decide)).mono ?_
  rintro e w3 ⟨S3, he3, hH3, hT3⟩
  obtain rfl : e = .returned (.tuple #[.agg #[.int .i64 4, .int .i64 0], .int .i64 0]) := he3
  have H3 := Lib.hid (H2.out.turn hH3 hT3)
  clear hH3 hT3 H2
  go_wp2_with fail
  have V4 := Lib.hid (VarAt.new H3.out.heap 24 #[.int .i64 4, .int .i64 0])
  have hb4 := (Below.refl w3.heap.size w3).alloc (Nat.le_refl _) (.cells #[.int .i64 4, .int .i64 0] 24)
  have H4 := Lib.hid (H3.out.below hb4)
  clear H3 hb4
  generalize w3.alloc (.cells #[.int .i64 4, .int .i64 0] 24) = w4 at V4 H4 ⊢
  generalize w3.heap.size = bv at V4 ⊢
  refine (text_bad S3 p _ s w4 H4.out.heap (by omega) (H4.out.tabs (tabs_later HT.out B1)).1 (H4.out.tabs (tabs_later HT.out B1)).2 HV.out).mono ?_
  rintro e w5 ⟨rfl, hb5⟩
  have H5 := Lib.hid (H4.out.below hb5)
  have V5 := Lib.hid (V4.out.below hb5)
  clear hb5 H4 V4
  go_wp2_with fail
  have T6 := Lib.hid (VarAt.new H5.out.heap 24 #[.int .i64 0, .int .i64 0])
  have hb6 := (Below.refl w5.heap.size w5).alloc (Nat.le_refl _) (.cells #[.int .i64 0, .int .i64 0] 24)
  have H6 := Lib.hid (H5.out.below hb6)
  have V6 := Lib.hid (V5.out.below hb6)
  clear H5 V5 hb6
  go_wp2_with fail
  generalize w5.alloc (.cells #[.int .i64 0, .int .i64 0] 24) = w6 at T6 V6 H6 ⊢
  generalize w5.heap.size = bt at T6 ⊢
  refine wp_loop_rounds 1 ?_
  rw [rounds_succ]
  have v0 : w6.cell? ⟨bv, 0, none⟩ = some (.int .i64 4) := V6.out.blk.cell 0
  have v1 : w6.cell? ⟨bv, 1, none⟩ = some (.int .i64 0) := V6.out.blk.cell 1
  go_wp2_with fail
  refine (vecOf_heap_yes S3 p _ (4, 0) [] w6 H6.out.heap (HM.find_at (i := 0) rfl rfl rfl) (by simp)).mono ?_
  rintro e w7 ⟨got, rfl, hgot, hb7⟩
  obtain ⟨ga, gc, hg⟩ : ∃ ga gc, got = .slice ga 0 gc := by
    rcases hgot.2 with ⟨h, _⟩ | ⟨g, cap, cur, h, _⟩
    · exact ⟨_, _, h⟩
    · exact ⟨_, _, h⟩
  subst hg
  have H7 := Lib.hid (H6.out.below hb7)
  have T7 := Lib.hid (T6.out.below hb7)
  clear hgot hb7 v0 v1 H6 T6 V6
  go_wp2
  refine wp_loop_rounds 1 ?_
  rw [rounds_succ]
  have t0 : w7.cell? ⟨bt, 0, none⟩ = some (.int .i64 0) := T7.out.blk.cell 0
  have t1 : w7.cell? ⟨bt, 1, none⟩ = some (.int .i64 0) := T7.out.blk.cell 1
  have BW : Below w.heap.size w w7 := B1.trans (H7.out.bel.mono B1.size)
  have CT : Hid (Calls Tryd.prog 19 #[.pointer (some ⟨p, 0, none⟩), .agg #[.int .i64 0, .int .i64 0]] w7 fun e w' => e = .returned (.tuple #[.string ⟨#[]⟩, .int .i64 6]) ∧ Below w7.heap.size w7 w') :=
    textOf_heap S3 p _ (0, 0) w7 H7.out.heap
  go_wp2_with fail
  refine CT.out.mono ?_
  rintro e wz ⟨rfl, hbz⟩
  have BE : Below w.heap.size w wz := BW.trans (hbz.mono BW.size)
  clear hbz
  go_wp2
  go_ret
  exact ⟨rfl, BE⟩
/-- A slice value of words reads as a list; it lies below block B. -/
def Words (w : World) (B : Nat) (v : Value) (l : List Wd) : Prop :=
  ∃ A c, v = .slice A l.length c ∧ (0 < l.length → ∃ b off, A = some ⟨b, off, none⟩ ∧ b < B ∧ WordsFrom w b off l)
/-- HeapHolds: always true. -/
theorem holds_any (v : Value) (l : List Wd) (s : ByteArray) (i : Int) (x : Wd) (w : World) (hT : Tabs w) (hl : Words w w.heap.size v l) (hilo : -9223372036854775808 ≤ i) (hihi : i ≤ 9223372036854775807) :
    Calls Tryd.prog 3 #[v, .string s, .int .i64 i, .agg #[.int .i64 x.1, .int .i64 x.2]] w fun e w' => e = .returned (.bool true) ∧ Below w.heap.size w w' := by
  obtain ⟨A, c, rfl, hA⟩ := hl
  by_cases h0 : 0 < l.length
  · obtain ⟨b, off, rfl, hb, hw⟩ := hA h0
    by_cases hlong : 60 < l.length ∨ 300 < s.size
    · exact holds_long _ _ c l s i x w hT (hw.reads _ hb) hlong
    · cases hv : Lib.validD s.data.toList with
      | true => exact holds_yes b off _ c l s i x w hT hb rfl hw h0 (by omega) (by omega) hilo hihi hv
      | false => exact holds_no b off _ c l s i x w hT hb rfl hw h0 (by omega) (by omega) hilo hihi hv
  · have hl : l = [] := List.eq_nil_of_length_eq_zero (by omega)
    subst hl
    by_cases hs : 300 < s.size
    · exact holds_long A 0 c [] s i x w hT Reads.none_ (.inr hs)
    · cases hv : Lib.validD s.data.toList with
      | true => exact holds0_yes A c s i x w hT (by omega) hv
      | false => exact holds0_no A c s i x w hT (by omega) hv
end Go.Proofs.YthmfiahmfdadgaaDoor
