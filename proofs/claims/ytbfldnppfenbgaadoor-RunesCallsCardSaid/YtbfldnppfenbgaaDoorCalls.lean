/-
  RunesCalls: for every input the law returns true; nothing that lay before is changed. Conditions: the tables of unicode/utf8 lie as laid.
-/
import Derived.Test.YtbfldnppfenbgaaDoorRefText
namespace Go.Proofs.YtbfldnppfenbgaaDoor
open Go.RowKit Go.Lib
set_option maxRecDepth 100000

theorem calls_long (s : ByteArray) (i f t : Int) (A : Option Addr) (n c : Nat) (w : World) (hn : n ≤ 9223372036854775807) (hs : s.size ≤ 9223372036854775807) (hT : Tabs w) (h : 2000 < s.size ∨ 2000 < n) :
    Calls Tryd.prog 8 #[.string s, .int .i64 i, .int .i64 f, .int .i64 t, .slice A n c] w fun e w' => e = .returned (.bool true) ∧ Below w.heap.size w w' := by
  have C := Lib.hid (lives_any w hT)
  clear hT
  by_cases h1 : 2000 < s.size
  · clear h
    go_enter Tryd.func8, Tryd.ntmps8
    go_wp2_with (go_at_call 10; refine C.out.mono ?_; rintro e w1 ⟨rfl, hb1⟩)
    go_ret
    exact ⟨rfl, hb1⟩
  · have h2 : 2000 < n := by omega
    clear h
    go_enter Tryd.func8, Tryd.ntmps8
    go_wp2_with (go_at_call 10; refine C.out.mono ?_; rintro e w1 ⟨rfl, hb1⟩)
    go_ret
    exact ⟨rfl, hb1⟩
theorem bytes_ext {x y : ByteArray} {l : List UInt8} (h1 : x.data.toList = l) (h2 : y.data.toList = l) : x = y := by
  apply ByteArray.ext
  apply Array.toList_inj.1
  rw [h1, h2]

set_option maxHeartbeats 4000000 in
theorem calls_inv (s : ByteArray) (i f t : Int) (A : Option Addr) (c : Nat) (xs : List Int) (w : World) (hI : Ints w w.heap.size (.slice A xs.length c) xs) (hx : ∀ x ∈ xs, -9223372036854775808 ≤ x ∧ x ≤ 9223372036854775807)
    (hn : xs.length ≤ 2000) (hs : s.size ≤ 2000) (hT : Tabs w) (i0 : -9223372036854775808 ≤ i) (i1 : i ≤ 9223372036854775807) (f0 : -9223372036854775808 ≤ f) (f1 : f ≤ 9223372036854775807) (t0 : -9223372036854775808 ≤ t) (t1 : t ≤ 9223372036854775807) (hv : validD s.data.toList = false) :
    Calls Tryd.prog 8 #[.string s, .int .i64 i, .int .i64 f, .int .i64 t, .slice A xs.length c] w fun e w' => e = .returned (.bool true) ∧ Below w.heap.size w w' := by
  have C := Lib.hid (lives_any w hT)
  have A1 := Lib.hid (fun w' (hb : Below w.heap.size w w') => at_any s i w' (by omega) (tabs_later hT hb) i0 i1)
  have A2 := Lib.hid (fun w' => ref_at s i w' (by omega) i0 i1)
  generalize atC s.data.toList i = ac at A1 A2
  generalize atB s.data.toList i = ab at A1 A2
  have X1 := Lib.hid (fun w' (hb : Below w.heap.size w w') => cut_no s f t w' (by omega) (tabs_later hT hb) hv)
  have X2 := Lib.hid (fun w' => ref_cut_no s f t w' (by omega) hv)
  have L1 := Lib.hid (fun w' (hb : Below w.heap.size w w') => list_no s w' (by omega) (tabs_later hT hb) hv)
  have L2 := Lib.hid (fun w' => ref_list_no s w' (by omega) hv)
  have O1 := Lib.hid (fun w' (hb : Below w.heap.size w w') => own_int w'.heap.size (.slice A xs.length c) xs w' (hI.later hb) (Nat.le_refl _) (by omega))
  have T1 := Lib.hid (fun v w' (hi : Ints w' w'.heap.size v xs) => text_any w'.heap.size v xs w' hi (Nat.le_refl _) (by omega) hx)
  have T2 := Lib.hid (fun w' (hb : Below w.heap.size w w') => ref_text w'.heap.size (.slice A xs.length c) xs w' (hI.later hb) (Nat.le_refl _) (by omega))
  generalize (⟨(textOf xs).toArray⟩ : ByteArray) = tx at T1 T2
  generalize textE xs = te at T1 T2
  have V1 := Lib.hid (fun w' (hb : Below w.heap.size w w') => valid_any s w' (by omega) (tabs_later hT hb))
  have V2 := Lib.hid (fun w' => ref_valid s w' (by omega))
  have N1 := Lib.hid (fun w' (hb : Below w.heap.size w w') => len_any s w' (by omega) (tabs_later hT hb))
  have N2 := Lib.hid (fun w' => ref_len s w' (by omega))
  generalize validD s.data.toList = vb at V1 V2
  generalize lenOf s.data.toList = ln at N1 N2
  clear hT hv hx hI  
  go_enter Tryd.func8, Tryd.ntmps8
  go_wp2_with (go_at_call 10; refine C.out.mono ?_; rintro e w1 ⟨rfl, B1⟩)
  refine (A1.out w1 B1).mono ?_
  rintro e w2 ⟨rfl, hb2⟩
  have B2 : Below w.heap.size w w2 := B1.trans (hb2.mono B1.size)
  clear hb2
  go_wp2_with fail
  refine (A2.out w2).mono ?_
  rintro e w3 ⟨rfl, hb3⟩
  have B3 : Below w.heap.size w w3 := B2.trans (hb3.mono B2.size)
  clear hb3
  go_wp2_with fail
  refine (X1.out w3 B3).mono ?_
  rintro e w4 ⟨rfl, hb4⟩
  have B4 : Below w.heap.size w w4 := B3.trans (hb4.mono B3.size)
  clear hb4
  go_wp2_with fail
  refine (X2.out w4).mono ?_
  rintro e w5 ⟨rfl, hb5⟩
  have B5 : Below w.heap.size w w5 := B4.trans (hb5.mono B4.size)
  clear hb5
  go_wp2_with fail
  refine (L1.out w5 B5).mono ?_
  rintro e w6 ⟨rfl, hb6⟩
  have B6 : Below w.heap.size w w6 := B5.trans (hb6.mono B5.size)
  clear hb6
  go_wp2_with fail
  refine (L2.out w6).mono ?_
  rintro e w7 ⟨rfl, hb7⟩
  have B7 : Below w.heap.size w w7 := B6.trans (hb7.mono B6.size)
  clear hb7
  go_wp2_with fail
  refine (O1.out w7 B7).mono ?_
  rintro e w8 ⟨ov, rfl, own8, hb8⟩
  have B8 : Below w.heap.size w w8 := B7.trans (hb8.mono B7.size)
  have I8 := Lib.hid (Ints.own own8)
  clear hb8 own8
  go_wp2_with fail
  refine (T1.out ov w8 I8.out).mono ?_
  rintro e w9 ⟨rfl, hb9⟩
  have B9 : Below w.heap.size w w9 := B8.trans (hb9.mono B8.size)
  clear hb9 I8
  go_wp2_with fail
  refine (T2.out w9 B9).mono ?_
  rintro e w10 ⟨rfl, hb10⟩
  have B10 : Below w.heap.size w w10 := B9.trans (hb10.mono B9.size)
  clear hb10
  go_wp2_with fail
  refine (V1.out w10 B10).mono ?_
  rintro e w11 ⟨rfl, hb11⟩
  have B11 : Below w.heap.size w w11 := B10.trans (hb11.mono B10.size)
  clear hb11
  go_wp2_with fail
  refine (V2.out w11).mono ?_
  rintro e w12 ⟨rfl, hb12⟩
  have B12 : Below w.heap.size w w12 := B11.trans (hb12.mono B11.size)
  clear hb12
  go_wp2_with fail
  refine (N1.out w12 B12).mono ?_
  rintro e w13 ⟨rfl, hb13⟩
  have B13 : Below w.heap.size w w13 := B12.trans (hb13.mono B12.size)
  clear hb13
  go_wp2_with fail
  refine (N2.out w13).mono ?_
  rintro e w14 ⟨rfl, hb14⟩
  have B14 : Below w.heap.size w w14 := B13.trans (hb14.mono B13.size)
  clear hb14
  have SM := Lib.hid (same_int w14.heap.size (.slice none 0 0) (.slice none 0 0) [] [] w14 (Ints.nil _ _) (Ints.nil _ _))
  rw [decide_eq_true rfl] at SM
  go_wp2_with fail
  refine SM.out.mono ?_
  rintro e w15 ⟨rfl, q15, rfl⟩
  have B15 : Below w.heap.size w (w14.drewN q15) := below_drewN B14 q15
  go_wp2
  go_ret
  exact ⟨rfl, B15⟩

set_option maxHeartbeats 4000000 in
theorem calls_rng (s : ByteArray) (i f t : Int) (A : Option Addr) (c : Nat) (xs : List Int) (w : World) (hI : Ints w w.heap.size (.slice A xs.length c) xs) (hx : ∀ x ∈ xs, -9223372036854775808 ≤ x ∧ x ≤ 9223372036854775807)
    (hn : xs.length ≤ 2000) (hs : s.size ≤ 2000) (hT : Tabs w) (i0 : -9223372036854775808 ≤ i) (i1 : i ≤ 9223372036854775807) (f0 : -9223372036854775808 ≤ f) (f1 : f ≤ 9223372036854775807) (t0 : -9223372036854775808 ≤ t) (t1 : t ≤ 9223372036854775807) (hv : validD s.data.toList = true) (hr : f < 0 ∨ t < f ∨ (runes s.data.toList).length < t) :
    Calls Tryd.prog 8 #[.string s, .int .i64 i, .int .i64 f, .int .i64 t, .slice A xs.length c] w fun e w' => e = .returned (.bool true) ∧ Below w.heap.size w w' := by
  have C := Lib.hid (lives_any w hT)
  have A1 := Lib.hid (fun w' (hb : Below w.heap.size w w') => at_any s i w' (by omega) (tabs_later hT hb) i0 i1)
  have A2 := Lib.hid (fun w' => ref_at s i w' (by omega) i0 i1)
  generalize atC s.data.toList i = ac at A1 A2
  generalize atB s.data.toList i = ab at A1 A2
  have X1 := Lib.hid (fun w' (hb : Below w.heap.size w w') => cut_range s f t w' (by omega) (tabs_later hT hb) hv hr f0 f1 t0 t1)
  have X2 := Lib.hid (fun w' => ref_cut_range s f t w' (by omega) hv hr)
  have L1 := Lib.hid (fun w' (hb : Below w.heap.size w w') => list_yes s w' (by omega) (tabs_later hT hb) hv)
  have L2 := Lib.hid (fun w' => ref_list_yes s w' (by omega) hv)
  have O1 := Lib.hid (fun w' (hb : Below w.heap.size w w') => own_int w'.heap.size (.slice A xs.length c) xs w' (hI.later hb) (Nat.le_refl _) (by omega))
  have T1 := Lib.hid (fun v w' (hi : Ints w' w'.heap.size v xs) => text_any w'.heap.size v xs w' hi (Nat.le_refl _) (by omega) hx)
  have T2 := Lib.hid (fun w' (hb : Below w.heap.size w w') => ref_text w'.heap.size (.slice A xs.length c) xs w' (hI.later hb) (Nat.le_refl _) (by omega))
  generalize (⟨(textOf xs).toArray⟩ : ByteArray) = tx at T1 T2
  generalize textE xs = te at T1 T2
  have V1 := Lib.hid (fun w' (hb : Below w.heap.size w w') => valid_any s w' (by omega) (tabs_later hT hb))
  have V2 := Lib.hid (fun w' => ref_valid s w' (by omega))
  have N1 := Lib.hid (fun w' (hb : Below w.heap.size w w') => len_any s w' (by omega) (tabs_later hT hb))
  have N2 := Lib.hid (fun w' => ref_len s w' (by omega))
  generalize validD s.data.toList = vb at V1 V2
  generalize lenOf s.data.toList = ln at N1 N2
  generalize hys : runes s.data.toList = ys at L1 L2
  clear hT hv hx hI hr hys
  go_enter Tryd.func8, Tryd.ntmps8
  go_wp2_with (go_at_call 10; refine C.out.mono ?_; rintro e w1 ⟨rfl, B1⟩)
  refine (A1.out w1 B1).mono ?_
  rintro e w2 ⟨rfl, hb2⟩
  have B2 : Below w.heap.size w w2 := B1.trans (hb2.mono B1.size)
  clear hb2
  go_wp2_with fail
  refine (A2.out w2).mono ?_
  rintro e w3 ⟨rfl, hb3⟩
  have B3 : Below w.heap.size w w3 := B2.trans (hb3.mono B2.size)
  clear hb3
  go_wp2_with fail
  refine (X1.out w3 B3).mono ?_
  rintro e w4 ⟨rfl, hb4⟩
  have B4 : Below w.heap.size w w4 := B3.trans (hb4.mono B3.size)
  clear hb4
  go_wp2_with fail
  refine (X2.out w4).mono ?_
  rintro e w5 ⟨rfl, hb5⟩
  have B5 : Below w.heap.size w w5 := B4.trans (hb5.mono B4.size)
  clear hb5
  go_wp2_with fail
  refine (L1.out w5 B5).mono ?_
  rintro e w6 ⟨p, rfl, own6, hb6⟩
  have B6 : Below w.heap.size w w6 := B5.trans (hb6.mono B5.size)
  have O6 := Lib.hid own6
  clear hb6 own6
  go_wp2_with fail
  refine (L2.out w6).mono ?_
  rintro e w7 ⟨q, rfl, own7, hb7⟩
  have B7 : Below w.heap.size w w7 := B6.trans (hb7.mono B6.size)
  have I6 := Lib.hid ((Ints.own O6.out).later hb7)
  have I7 := Lib.hid (Ints.own own7)
  clear hb7 own7 O6
  go_wp2_with fail
  refine (O1.out w7 B7).mono ?_
  rintro e w8 ⟨ov, rfl, own8, hb8⟩
  have B8 : Below w.heap.size w w8 := B7.trans (hb8.mono B7.size)
  have I8 := Lib.hid (Ints.own own8)
  have I6b := Lib.hid (I6.out.later hb8)
  have I7b := Lib.hid (I7.out.later hb8)
  clear I6 I7
  clear hb8 own8
  go_wp2_with fail
  refine (T1.out ov w8 I8.out).mono ?_
  rintro e w9 ⟨rfl, hb9⟩
  have B9 : Below w.heap.size w w9 := B8.trans (hb9.mono B8.size)
  have I6c := Lib.hid (I6b.out.later hb9)
  have I7c := Lib.hid (I7b.out.later hb9)
  clear I6b I7b
  clear hb9 I8
  go_wp2_with fail
  refine (T2.out w9 B9).mono ?_
  rintro e w10 ⟨rfl, hb10⟩
  have B10 : Below w.heap.size w w10 := B9.trans (hb10.mono B9.size)
  have I6d := Lib.hid (I6c.out.later hb10)
  have I7d := Lib.hid (I7c.out.later hb10)
  clear I6c I7c
  clear hb10
  go_wp2_with fail
  refine (V1.out w10 B10).mono ?_
  rintro e w11 ⟨rfl, hb11⟩
  have B11 : Below w.heap.size w w11 := B10.trans (hb11.mono B10.size)
  have I6e := Lib.hid (I6d.out.later hb11)
  have I7e := Lib.hid (I7d.out.later hb11)
  clear I6d I7d
  clear hb11
  go_wp2_with fail
  refine (V2.out w11).mono ?_
  rintro e w12 ⟨rfl, hb12⟩
  have B12 : Below w.heap.size w w12 := B11.trans (hb12.mono B11.size)
  have I6f := Lib.hid (I6e.out.later hb12)
  have I7f := Lib.hid (I7e.out.later hb12)
  clear I6e I7e
  clear hb12
  go_wp2_with fail
  refine (N1.out w12 B12).mono ?_
  rintro e w13 ⟨rfl, hb13⟩
  have B13 : Below w.heap.size w w13 := B12.trans (hb13.mono B12.size)
  have I6g := Lib.hid (I6f.out.later hb13)
  have I7g := Lib.hid (I7f.out.later hb13)
  clear I6f I7f
  clear hb13
  go_wp2_with fail
  refine (N2.out w13).mono ?_
  rintro e w14 ⟨rfl, hb14⟩
  have B14 : Below w.heap.size w w14 := B13.trans (hb14.mono B13.size)
  have I6h := Lib.hid (I6g.out.later hb14)
  have I7h := Lib.hid (I7g.out.later hb14)
  clear I6g I7g
  clear hb14
  have SM := Lib.hid (same_int w14.heap.size p q ys ys w14 I6h.out I7h.out)
  rw [decide_eq_true rfl] at SM
  go_wp2_with fail
  refine SM.out.mono ?_
  rintro e w15 ⟨rfl, q15, rfl⟩
  have B15 : Below w.heap.size w (w14.drewN q15) := below_drewN B14 q15
  go_wp2
  go_ret
  exact ⟨rfl, B15⟩

set_option maxHeartbeats 4000000 in
theorem calls_ok (s : ByteArray) (i f t : Int) (A : Option Addr) (c : Nat) (xs : List Int) (w : World) (hI : Ints w w.heap.size (.slice A xs.length c) xs) (hx : ∀ x ∈ xs, -9223372036854775808 ≤ x ∧ x ≤ 9223372036854775807)
    (hn : xs.length ≤ 2000) (hs : s.size ≤ 2000) (hT : Tabs w) (i0 : -9223372036854775808 ≤ i) (i1 : i ≤ 9223372036854775807) (f0 : -9223372036854775808 ≤ f) (f1 : f ≤ 9223372036854775807) (t0 : -9223372036854775808 ≤ t) (t1 : t ≤ 9223372036854775807) (hv : validD s.data.toList = true) (hf : 0 ≤ f) (hft : f ≤ t) (ht : t ≤ (runes s.data.toList).length) :
    Calls Tryd.prog 8 #[.string s, .int .i64 i, .int .i64 f, .int .i64 t, .slice A xs.length c] w fun e w' => e = .returned (.bool true) ∧ Below w.heap.size w w' := by
  have C := Lib.hid (lives_any w hT)
  have A1 := Lib.hid (fun w' (hb : Below w.heap.size w w') => at_any s i w' (by omega) (tabs_later hT hb) i0 i1)
  have A2 := Lib.hid (fun w' => ref_at s i w' (by omega) i0 i1)
  generalize atC s.data.toList i = ac at A1 A2
  generalize atB s.data.toList i = ab at A1 A2
  obtain ⟨fa, rfl⟩ := Int.eq_ofNat_of_zero_le hf
  obtain ⟨tb, rfl⟩ := Int.eq_ofNat_of_zero_le (Int.le_trans hf hft)
  have X1 := Lib.hid (fun w' (hb : Below w.heap.size w w') => cut_yes s fa tb w' (by omega) (tabs_later hT hb) hv (by omega) (by omega) (by omega))
  have X2 := Lib.hid (fun w' => ref_cut_yes s fa tb w' (by omega) hv (by omega) (by omega))
  have L1 := Lib.hid (fun w' (hb : Below w.heap.size w w') => list_yes s w' (by omega) (tabs_later hT hb) hv)
  have L2 := Lib.hid (fun w' => ref_list_yes s w' (by omega) hv)
  have O1 := Lib.hid (fun w' (hb : Below w.heap.size w w') => own_int w'.heap.size (.slice A xs.length c) xs w' (hI.later hb) (Nat.le_refl _) (by omega))
  have T1 := Lib.hid (fun v w' (hi : Ints w' w'.heap.size v xs) => text_any w'.heap.size v xs w' hi (Nat.le_refl _) (by omega) hx)
  have T2 := Lib.hid (fun w' (hb : Below w.heap.size w w') => ref_text w'.heap.size (.slice A xs.length c) xs w' (hI.later hb) (Nat.le_refl _) (by omega))
  generalize (⟨(textOf xs).toArray⟩ : ByteArray) = tx at T1 T2
  generalize textE xs = te at T1 T2
  have V1 := Lib.hid (fun w' (hb : Below w.heap.size w w') => valid_any s w' (by omega) (tabs_later hT hb))
  have V2 := Lib.hid (fun w' => ref_valid s w' (by omega))
  have N1 := Lib.hid (fun w' (hb : Below w.heap.size w w') => len_any s w' (by omega) (tabs_later hT hb))
  have N2 := Lib.hid (fun w' => ref_len s w' (by omega))
  generalize validD s.data.toList = vb at V1 V2
  generalize lenOf s.data.toList = ln at N1 N2
  generalize hys : runes s.data.toList = ys at L1 L2
  clear hT hv hx hI hf hft ht hys
  go_enter Tryd.func8, Tryd.ntmps8
  go_wp2_with (go_at_call 10; refine C.out.mono ?_; rintro e w1 ⟨rfl, B1⟩)
  refine (A1.out w1 B1).mono ?_
  rintro e w2 ⟨rfl, hb2⟩
  have B2 : Below w.heap.size w w2 := B1.trans (hb2.mono B1.size)
  clear hb2
  go_wp2_with fail
  refine (A2.out w2).mono ?_
  rintro e w3 ⟨rfl, hb3⟩
  have B3 : Below w.heap.size w w3 := B2.trans (hb3.mono B2.size)
  clear hb3
  go_wp2_with fail
  refine (X1.out w3 B3).mono ?_
  rintro e w4 ⟨x, rfl, hx4, _, hb4⟩
  have B4 : Below w.heap.size w w4 := B3.trans (hb4.mono B3.size)
  have HX4 := Lib.hid hx4
  clear hb4 hx4
  go_wp2_with fail
  refine (X2.out w4).mono ?_
  rintro e w5 ⟨y, rfl, hy5, hb5⟩
  have B5 : Below w.heap.size w w5 := B4.trans (hb5.mono B4.size)
  have HXY : y = x := bytes_ext hy5 (by rw [HX4.out, Int.toNat_natCast, Int.toNat_natCast])
  subst HXY
  clear hb5 hy5 HX4
  go_wp2_with fail
  refine (L1.out w5 B5).mono ?_
  rintro e w6 ⟨p, rfl, own6, hb6⟩
  have B6 : Below w.heap.size w w6 := B5.trans (hb6.mono B5.size)
  have O6 := Lib.hid own6
  clear hb6 own6
  go_wp2_with fail
  refine (L2.out w6).mono ?_
  rintro e w7 ⟨q, rfl, own7, hb7⟩
  have B7 : Below w.heap.size w w7 := B6.trans (hb7.mono B6.size)
  have I6 := Lib.hid ((Ints.own O6.out).later hb7)
  have I7 := Lib.hid (Ints.own own7)
  clear hb7 own7 O6
  go_wp2_with fail
  refine (O1.out w7 B7).mono ?_
  rintro e w8 ⟨ov, rfl, own8, hb8⟩
  have B8 : Below w.heap.size w w8 := B7.trans (hb8.mono B7.size)
  have I8 := Lib.hid (Ints.own own8)
  have I6b := Lib.hid (I6.out.later hb8)
  have I7b := Lib.hid (I7.out.later hb8)
  clear I6 I7
  clear hb8 own8
  go_wp2_with fail
  refine (T1.out ov w8 I8.out).mono ?_
  rintro e w9 ⟨rfl, hb9⟩
  have B9 : Below w.heap.size w w9 := B8.trans (hb9.mono B8.size)
  have I6c := Lib.hid (I6b.out.later hb9)
  have I7c := Lib.hid (I7b.out.later hb9)
  clear I6b I7b
  clear hb9 I8
  go_wp2_with fail
  refine (T2.out w9 B9).mono ?_
  rintro e w10 ⟨rfl, hb10⟩
  have B10 : Below w.heap.size w w10 := B9.trans (hb10.mono B9.size)
  have I6d := Lib.hid (I6c.out.later hb10)
  have I7d := Lib.hid (I7c.out.later hb10)
  clear I6c I7c
  clear hb10
  go_wp2_with fail
  refine (V1.out w10 B10).mono ?_
  rintro e w11 ⟨rfl, hb11⟩
  have B11 : Below w.heap.size w w11 := B10.trans (hb11.mono B10.size)
  have I6e := Lib.hid (I6d.out.later hb11)
  have I7e := Lib.hid (I7d.out.later hb11)
  clear I6d I7d
  clear hb11
  go_wp2_with fail
  refine (V2.out w11).mono ?_
  rintro e w12 ⟨rfl, hb12⟩
  have B12 : Below w.heap.size w w12 := B11.trans (hb12.mono B11.size)
  have I6f := Lib.hid (I6e.out.later hb12)
  have I7f := Lib.hid (I7e.out.later hb12)
  clear I6e I7e
  clear hb12
  go_wp2_with fail
  refine (N1.out w12 B12).mono ?_
  rintro e w13 ⟨rfl, hb13⟩
  have B13 : Below w.heap.size w w13 := B12.trans (hb13.mono B12.size)
  have I6g := Lib.hid (I6f.out.later hb13)
  have I7g := Lib.hid (I7f.out.later hb13)
  clear I6f I7f
  clear hb13
  go_wp2_with fail
  refine (N2.out w13).mono ?_
  rintro e w14 ⟨rfl, hb14⟩
  have B14 : Below w.heap.size w w14 := B13.trans (hb14.mono B13.size)
  have I6h := Lib.hid (I6g.out.later hb14)
  have I7h := Lib.hid (I7g.out.later hb14)
  clear I6g I7g
  clear hb14
  have SM := Lib.hid (same_int w14.heap.size p q ys ys w14 I6h.out I7h.out)
  rw [decide_eq_true rfl] at SM
  go_wp2_with fail
  refine SM.out.mono ?_
  rintro e w15 ⟨rfl, q15, rfl⟩
  have B15 : Below w.heap.size w (w14.drewN q15) := below_drewN B14 q15
  go_wp2
  go_ret
  exact ⟨rfl, B15⟩

theorem calls_any (s : ByteArray) (i f t : Int) (v : Value) (xs : List Int) (w : World) (hI : Ints w w.heap.size v xs) (hx : ∀ x ∈ xs, -9223372036854775808 ≤ x ∧ x ≤ 9223372036854775807) (hs : s.size ≤ 9223372036854775807) (hT : Tabs w)
    (i0 : -9223372036854775808 ≤ i) (i1 : i ≤ 9223372036854775807) (f0 : -9223372036854775808 ≤ f) (f1 : f ≤ 9223372036854775807) (t0 : -9223372036854775808 ≤ t) (t1 : t ≤ 9223372036854775807) :
    Calls Tryd.prog 8 #[.string s, .int .i64 i, .int .i64 f, .int .i64 t, v] w fun e w' => e = .returned (.bool true) ∧ Below w.heap.size w w' := by
  obtain ⟨A, c, rfl, h1, h2, h3⟩ := id hI
  by_cases h : 2000 < s.size ∨ 2000 < xs.length
  · exact calls_long s i f t A xs.length c w (by omega) hs hT h
  · cases hv : validD s.data.toList
    · exact calls_inv s i f t A c xs w hI hx (by omega) (by omega) hT i0 i1 f0 f1 t0 t1 hv
    · by_cases hr : f < 0 ∨ t < f ∨ (runes s.data.toList).length < t
      · exact calls_rng s i f t A c xs w hI hx (by omega) (by omega) hT i0 i1 f0 f1 t0 t1 hv hr
      · exact calls_ok s i f t A c xs w hI hx (by omega) (by omega) hT i0 i1 f0 f1 t0 t1 hv (by omega) (by omega) (by omega)
end Go.Proofs.YtbfldnppfenbgaaDoor
