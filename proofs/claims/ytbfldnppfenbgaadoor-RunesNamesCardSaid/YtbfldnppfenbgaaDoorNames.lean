/-
  RunesNames: the law returns true; nothing that lay before is changed. Conditions: the tables of unicode/utf8 lie as laid.
-/
import Derived.Test.YtbfldnppfenbgaaDoorWidth
import Derived.Test.YtbfldnppfenbgaaDoorJoins
namespace Go.Proofs.YtbfldnppfenbgaaDoor
open Go.RowKit Go.Lib
set_option maxRecDepth 100000
theorem n_cut1 (w : World) (hT : Tabs w) : Calls Tryd.prog 15 #[.string ⟨#[97, 98, 99]⟩, .int .i64 1, .int .i64 2] w fun e w' => e = .returned (.tuple #[.string ⟨#[98]⟩, .int .i64 0]) ∧ Below w.heap.size w w' :=
  (cut_walk ⟨#[97, 98, 99]⟩ 1 2 w (by decide) hT (by kernel_rfl) (by decide) (by decide)).mono fun e w' ⟨he, hb⟩ => ⟨he.trans (by kernel_rfl), hb⟩
theorem n_cut2 (w : World) (hT : Tabs w) : Calls Tryd.prog 15 #[.string ⟨#[97, 98, 99]⟩, .int .i64 2, .int .i64 1] w fun e w' => e = .returned (.tuple #[.string ⟨#[]⟩, .int .i64 3]) ∧ Below w.heap.size w w' :=
  (cut_range ⟨#[97, 98, 99]⟩ 2 1 w (by decide) hT (by kernel_rfl) (.inr (.inl (by decide))) (by decide) (by decide) (by decide) (by decide)).mono fun e w' ⟨he, hb⟩ => ⟨he.trans (by kernel_rfl), hb⟩
theorem n_list (w : World) (hT : Tabs w) : Calls Tryd.prog 11 #[.string ⟨#[192, 128]⟩] w fun e w' => e = .returned (.tuple #[.slice none 0 0, .int .i64 5]) ∧ Below w.heap.size w w' :=
  (list_no ⟨#[192, 128]⟩ w (by decide) hT (by kernel_rfl)).mono fun e w' ⟨he, hb⟩ => ⟨he.trans (by kernel_rfl), hb⟩
theorem n_at (w : World) (hT : Tabs w) : Calls Tryd.prog 17 #[.string ⟨#[97]⟩, .int .i64 1] w fun e w' => e = .returned (.tuple #[.int .i64 0, .bool false]) ∧ Below w.heap.size w w' :=
  (at_any ⟨#[97]⟩ 1 w (by decide) hT (by decide) (by decide)).mono fun e w' ⟨he, hb⟩ => ⟨he.trans (by kernel_rfl), hb⟩
theorem n_valid (w : World) (hT : Tabs w) : Calls Tryd.prog 16 #[.string ⟨#[237, 160, 128]⟩] w fun e w' => e = .returned (.bool false) ∧ Below w.heap.size w w' :=
  (valid_any ⟨#[237, 160, 128]⟩ w (by decide) hT).mono fun e w' ⟨he, hb⟩ => ⟨he.trans (by kernel_rfl), hb⟩
theorem n_w1 (w : World) (hT : Tabs w) : Calls Tryd.prog 21 #[.int .i64 1] w fun e w' => e = .returned (.int .i64 2) ∧ Below w.heap.size w w' :=
  (width_any 1 w).mono fun e w' ⟨he, hb⟩ => ⟨he.trans (by kernel_rfl), hb⟩
theorem n_w2 (w : World) (hT : Tabs w) : Calls Tryd.prog 21 #[.int .i64 9] w fun e w' => e = .returned (.int .i64 1) ∧ Below w.heap.size w w' :=
  (width_any 9 w).mono fun e w' ⟨he, hb⟩ => ⟨he.trans (by kernel_rfl), hb⟩
theorem n_w3 (w : World) (hT : Tabs w) : Calls Tryd.prog 21 #[.int .i64 769] w fun e w' => e = .returned (.int .i64 0) ∧ Below w.heap.size w w' :=
  (width_any 769 w).mono fun e w' ⟨he, hb⟩ => ⟨he.trans (by kernel_rfl), hb⟩
theorem n_w4 (w : World) (hT : Tabs w) : Calls Tryd.prog 21 #[.int .i64 19968] w fun e w' => e = .returned (.int .i64 2) ∧ Below w.heap.size w w' :=
  (width_any 19968 w).mono fun e w' ⟨he, hb⟩ => ⟨he.trans (by kernel_rfl), hb⟩
theorem n_up (w : World) (hT : Tabs w) : Calls Tryd.prog 23 #[.int .i64 962] w fun e w' => e = .returned (.int .i64 931) ∧ Below w.heap.size w w' :=
  (up_any 962 w (by decide) (by decide)).mono fun e w' ⟨he, hb⟩ => ⟨he.trans (by kernel_rfl), hb⟩
theorem n_fold (w : World) (hT : Tabs w) : Calls Tryd.prog 27 #[.int .i64 962] w fun e w' => e = .returned (.int .i64 963) ∧ Below w.heap.size w w' :=
  (fold_any 962 w (by decide) (by decide)).mono fun e w' ⟨he, hb⟩ => ⟨he.trans (by kernel_rfl), hb⟩
theorem n_down (w : World) (hT : Tabs w) : Calls Tryd.prog 25 #[.int .i64 65] w fun e w' => e = .returned (.int .i64 97) ∧ Below w.heap.size w w' :=
  (down_any 65 w).mono fun e w' ⟨he, hb⟩ => ⟨he.trans (by kernel_rfl), hb⟩
theorem n_wo1 (w : World) (hT : Tabs w) : Calls Tryd.prog 29 #[.int .i64 55] w fun e w' => e = .returned (.bool true) ∧ Below w.heap.size w w' :=
  (word_any 55 w).mono fun e w' ⟨he, hb⟩ => ⟨he.trans (by kernel_rfl), hb⟩
theorem n_wo2 (w : World) (hT : Tabs w) : Calls Tryd.prog 29 #[.int .i64 45] w fun e w' => e = .returned (.bool false) ∧ Below w.heap.size w w' :=
  (word_any 45 w).mono fun e w' ⟨he, hb⟩ => ⟨he.trans (by kernel_rfl), hb⟩
theorem n_is (w : World) : Calls Tryd.prog 19 #[.int .i64 (-1)] w fun e w' => e = .returned (.bool false) ∧ w = w' :=
  (is_any (-1) w).mono fun e w' ⟨he, hb⟩ => ⟨he.trans (by kernel_rfl), hb⟩
theorem n_text (w : World) : Calls Tryd.prog 18 #[.slice (some ⟨w.heap.size, 0, none⟩) 1 1] (w.alloc (.cells #[.int .i64 55296] 3)) fun e w' => e = .returned (.tuple #[.string ⟨#[]⟩, .int .i64 3]) ∧ Below w.heap.size w w' :=
  (text_walk w.heap.size 0 1 [55296] (w.alloc (.cells #[.int .i64 55296] 3)) (by decide) (by decide) (by simp) (by simp) (fun j x hj => by
    match j, hj with
    | 0, hj => simp at hj; subst hj; simp
    | j + 1, hj => simp at hj)).mono fun e w' ⟨he, hb⟩ => ⟨he.trans (by kernel_rfl), ((Below.refl _ _).alloc (Nat.le_refl _) _).trans (hb.mono (by simp))⟩
set_option maxHeartbeats 4000000 in
theorem names_any (w : World) (hT : Tabs w) : Calls Tryd.prog 9 #[] w fun e w' => e = .returned (.bool true) ∧ Below w.heap.size w w' := by
  have C := Lib.hid (lives_any w hT)
  have T := Lib.hid (fun w' (hb : Below w.heap.size w w') => tabs_later hT hb)
  clear hT
  go_enter Tryd.func9, Tryd.ntmps9
  go_wp2_with (go_at_call 10; refine C.out.mono ?_; rintro e w1 ⟨rfl, B1⟩)
  refine (n_cut1 w1 (T.out w1 B1)).mono ?_
  rintro e w2 ⟨rfl, hb2⟩
  have B2 : Below w.heap.size w w2 := B1.trans (hb2.mono B1.size)
  clear hb2
  go_wp2_with fail
  refine (n_cut2 w2 (T.out w2 B2)).mono ?_
  rintro e w3 ⟨rfl, hb3⟩
  have B3 : Below w.heap.size w w3 := B2.trans (hb3.mono B2.size)
  clear hb3
  go_wp2_with fail
  refine (n_text w3).mono ?_
  rintro e w4 ⟨rfl, hb4⟩
  have B4 : Below w.heap.size w w4 := B3.trans (hb4.mono B3.size)
  clear hb4
  go_wp2_with fail
  refine (n_list w4 (T.out w4 B4)).mono ?_
  rintro e w5 ⟨rfl, hb5⟩
  have B5 : Below w.heap.size w w5 := B4.trans (hb5.mono B4.size)
  clear hb5
  go_wp2_with fail
  refine (n_at w5 (T.out w5 B5)).mono ?_
  rintro e w6 ⟨rfl, hb6⟩
  have B6 : Below w.heap.size w w6 := B5.trans (hb6.mono B5.size)
  clear hb6
  go_wp2_with fail
  refine (n_w1 w6 (T.out w6 B6)).mono ?_
  rintro e w7 ⟨rfl, hb7⟩
  have B7 : Below w.heap.size w w7 := B6.trans (hb7.mono B6.size)
  clear hb7
  go_wp2_with fail
  refine (n_w2 w7 (T.out w7 B7)).mono ?_
  rintro e w8 ⟨rfl, hb8⟩
  have B8 : Below w.heap.size w w8 := B7.trans (hb8.mono B7.size)
  clear hb8
  go_wp2_with fail
  refine (n_w3 w8 (T.out w8 B8)).mono ?_
  rintro e w9 ⟨rfl, hb9⟩
  have B9 : Below w.heap.size w w9 := B8.trans (hb9.mono B8.size)
  clear hb9
  go_wp2_with fail
  refine (n_w4 w9 (T.out w9 B9)).mono ?_
  rintro e w10 ⟨rfl, hb10⟩
  have B10 : Below w.heap.size w w10 := B9.trans (hb10.mono B9.size)
  clear hb10
  go_wp2_with fail
  refine (n_up w10 (T.out w10 B10)).mono ?_
  rintro e w11 ⟨rfl, hb11⟩
  have B11 : Below w.heap.size w w11 := B10.trans (hb11.mono B10.size)
  clear hb11
  go_wp2_with fail
  refine (n_fold w11 (T.out w11 B11)).mono ?_
  rintro e w12 ⟨rfl, hb12⟩
  have B12 : Below w.heap.size w w12 := B11.trans (hb12.mono B11.size)
  clear hb12
  go_wp2_with fail
  refine (n_down w12 (T.out w12 B12)).mono ?_
  rintro e w13 ⟨rfl, hb13⟩
  have B13 : Below w.heap.size w w13 := B12.trans (hb13.mono B12.size)
  clear hb13
  go_wp2_with fail
  refine (n_wo1 w13 (T.out w13 B13)).mono ?_
  rintro e w14 ⟨rfl, hb14⟩
  have B14 : Below w.heap.size w w14 := B13.trans (hb14.mono B13.size)
  clear hb14
  go_wp2_with fail
  refine (n_wo2 w14 (T.out w14 B14)).mono ?_
  rintro e w15 ⟨rfl, hb15⟩
  have B15 : Below w.heap.size w w15 := B14.trans (hb15.mono B14.size)
  clear hb15
  go_wp2_with fail
  refine (n_valid w15 (T.out w15 B15)).mono ?_
  rintro e w16 ⟨rfl, hb16⟩
  have B16 : Below w.heap.size w w16 := B15.trans (hb16.mono B15.size)
  clear hb16
  go_wp2_with fail
  refine (n_is w16).mono ?_
  rintro e w16x ⟨rfl, rfl⟩
  go_wp2
  go_ret
  exact ⟨rfl, B16⟩
end Go.Proofs.YtbfldnppfenbgaaDoor
