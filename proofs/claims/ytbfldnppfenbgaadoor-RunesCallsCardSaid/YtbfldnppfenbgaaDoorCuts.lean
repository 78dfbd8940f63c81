/-
  RunesCuts: for every string and every three indexes the law returns true; nothing that lay before is changed. Conditions: the tables of unicode/utf8 lie as laid.
-/
import Derived.Test.YtbfldnppfenbgaaDoorText
import Derived.Test.YtbfldnppfenbgaaDoorJoins
namespace Go.Proofs.YtbfldnppfenbgaaDoor
open Go.RowKit Go.Lib
set_option maxRecDepth 100000

theorem cuts_long (s : ByteArray) (f t i : Int) (w : World) (hs : s.size ≤ 9223372036854775807) (hT : Tabs w) (h : 2000 < s.size) :
    Calls Tryd.prog 4 #[.string s, .int .i64 f, .int .i64 t, .int .i64 i] w fun e w' => e = .returned (.bool true) ∧ Below w.heap.size w w' := by
  have C := Lib.hid (lives_any w hT)
  clear hT
  go_enter Tryd.func4, Tryd.ntmps4
  go_wp2_with (go_at_call 10; refine C.out.mono ?_; rintro e w1 ⟨rfl, hb1⟩)
  go_ret
  exact ⟨rfl, hb1⟩

set_option maxHeartbeats 1000000 in
theorem cuts_no (s : ByteArray) (f t i : Int) (w : World) (hs : s.size ≤ 2000) (hT : Tabs w) (hv : validD s.data.toList = false)
    (f0 : -9223372036854775808 ≤ f) (f1 : f ≤ 9223372036854775807) (t0 : -9223372036854775808 ≤ t) (t1 : t ≤ 9223372036854775807) :
    Calls Tryd.prog 4 #[.string s, .int .i64 f, .int .i64 t, .int .i64 i] w fun e w' => e = .returned (.bool true) ∧ Below w.heap.size w w' := by
  have C := Lib.hid (lives_any w hT)
  have L := Lib.hid (fun w' (hb : Below w.heap.size w w') => len_any s w' (by omega) (tabs_later hT hb))
  rw [lenOf_no hv] at L
  have p1 : pickOf f 1 = 0 := by have := pick_range f 1 (by omega); omega
  have p2 : pickOf t 1 = 0 := by have := pick_range t 1 (by omega); omega
  have P1 := Lib.hid (fun w' => pick_any f 1 w' f0 f1 (by omega) (by omega))
  have P2 := Lib.hid (fun w' => pick_any t 1 w' t0 t1 (by omega) (by omega))
  rw [p1] at P1
  rw [p2] at P2
  have X := Lib.hid (fun (a b : Int) w' (hb : Below w.heap.size w w') => cut_no s a b w' (by omega) (tabs_later hT hb) hv)
  have V := Lib.hid (fun w' (hb : Below w.heap.size w w') => valid_no s w' (by omega) (tabs_later hT hb) hv)
  clear hT hv p1 p2
  go_enter Tryd.func4, Tryd.ntmps4
  go_wp2_with (go_at_call 10; refine C.out.mono ?_; rintro e w1 ⟨rfl, B1⟩)
  refine (L.out w1 B1).mono ?_
  rintro e w2 ⟨rfl, hb2⟩
  have B2 : Below w.heap.size w w2 := B1.trans (hb2.mono B1.size)
  clear hb2
  go_wp2_with fail
  refine (P1.out w2).mono ?_
  rintro e w2' ⟨rfl, rfl⟩
  go_wp2_with fail
  refine (P2.out w2).mono ?_
  rintro e w2' ⟨rfl, rfl⟩
  go_wp2_with fail
  refine (X.out _ _ w2 B2).mono ?_
  rintro e w3 ⟨rfl, hb3⟩
  have B3 : Below w.heap.size w w3 := B2.trans (hb3.mono B2.size)
  clear hb3
  go_wp2_with fail
  refine (X.out _ _ w3 B3).mono ?_
  rintro e w4 ⟨rfl, hb4⟩
  have B4 : Below w.heap.size w w4 := B3.trans (hb4.mono B3.size)
  clear hb4
  go_wp2_with fail
  refine (X.out _ _ w4 B4).mono ?_
  rintro e w5 ⟨rfl, hb5⟩
  have B5 : Below w.heap.size w w5 := B4.trans (hb5.mono B4.size)
  clear hb5
  go_wp2_with fail
  refine (V.out w5 B5).mono ?_
  rintro e w6 ⟨rfl, hb6⟩
  have B6 : Below w.heap.size w w6 := B5.trans (hb6.mono B5.size)
  clear hb6
  go_wp2
  go_ret
  exact ⟨rfl, B6⟩




/-! ### valid -/
theorem cutOf_valid {l : List UInt8} (hv : validD l = true) (a b : Nat) : validD (cutOf l a b) = true ∧ runes (cutOf l a b) = ((runes l).drop a).take (b - a) := by
  have h : ∀ c ∈ ((runes l).drop a).take (b - a), chB c = true := fun c hc => valid_ch hv c (List.mem_of_mem_drop (List.mem_of_mem_take hc))
  exact ⟨valid_encA _ h, runes_encA _ h⟩
theorem cut_join {l : List UInt8} (hv : validD l = true) (a b n : Nat) (h1 : a ≤ b) (h2 : b ≤ n) (h3 : n = (runes l).length) : cutOf l 0 a ++ cutOf l a b ++ cutOf l b n = l := by
  unfold cutOf
  rw [← encA_append, ← encA_append]
  conv => rhs; rw [← valid_eq hv]
  congr 1
  rw [List.drop_zero, Nat.sub_zero, ← List.drop_take, ← List.drop_take]
  conv => rhs; rw [← List.take_append_drop b (runes l)]
  rw [h3, List.take_length]
  congr 1
  conv => rhs; rw [← List.take_append_drop a ((runes l).take b), List.take_take, Nat.min_eq_left h1]
theorem at_cut {l : List UInt8} (hv : validD l = true) (a b k : Nat) (h2 : b ≤ (runes l).length) :
    atB (cutOf l a b) ((k : Int) - a) = (decide (a ≤ k) && decide (k < b)) ∧ (a ≤ k → k < b → atC (cutOf l a b) ((k : Int) - a) = atC l k) := by
  obtain ⟨v, r⟩ := cutOf_valid hv a b
  have hl : (runes (cutOf l a b)).length = b - a := by rw [r]; simp; omega
  have e1 : atB (cutOf l a b) ((k : Int) - a) = (decide (a ≤ k) && decide (k < b)) := by
    rw [Bool.eq_iff_iff]
    simp [atB, v, hl]
    omega
  refine ⟨e1, fun ha hb => ?_⟩
  have e2 : atB l (k : Int) = true := by simp [atB, hv]; omega
  have e3 : atB (cutOf l a b) ((k : Int) - a) = true := by rw [e1]; simp [ha, hb]
  simp only [atC, e2, e3, if_true, r]
  rw [List.getElem?_take, if_pos (by omega), List.getElem?_drop]
  congr 2
  omega
theorem at_self {l : List UInt8} (hv : validD l = true) (k : Nat) : atB l (k : Int) = decide (k < (runes l).length) := by
  rw [Bool.eq_iff_iff]
  simp [atB, hv]
theorem len_cut {l : List UInt8} (hv : validD l = true) (a b : Nat) (h2 : b ≤ (runes l).length) : lenOf (cutOf l a b) = b - a := by
  obtain ⟨v, r⟩ := cutOf_valid hv a b
  rw [lenOf_yes v, r]
  simp
  omega

set_option maxHeartbeats 2000000 in
theorem cuts_yes (s : ByteArray) (f t i : Int) (a b k : Nat) (w : World) (hs : s.size ≤ 2000) (hT : Tabs w) (hv : validD s.data.toList = true) (hab : a ≤ b) (hbn : b ≤ (runes s.data.toList).length) (hkn : k ≤ (runes s.data.toList).length)
    (f0 : -9223372036854775808 ≤ f) (f1 : f ≤ 9223372036854775807) (t0 : -9223372036854775808 ≤ t) (t1 : t ≤ 9223372036854775807) (i0 : -9223372036854775808 ≤ i) (i1 : i ≤ 9223372036854775807)
    (hp1 : pickOf f (((runes s.data.toList).length : Nat) + 1) = a) (hp2 : pickOf t (((runes s.data.toList).length : Nat) + 1) = b) (hp3 : pickOf i (((runes s.data.toList).length : Nat) + 1) = k) :
    Calls Tryd.prog 4 #[.string s, .int .i64 f, .int .i64 t, .int .i64 i] w fun e w' => e = .returned (.bool true) ∧ Below w.heap.size w w' := by
  have C := Lib.hid (lives_any w hT)
  have L := Lib.hid (fun w' (hb : Below w.heap.size w w') => len_any s w' (by omega) (tabs_later hT hb))
  rw [lenOf_yes hv] at L
  obtain ⟨n, hn⟩ : ∃ n, n = (runes s.data.toList).length := ⟨_, rfl⟩
  rw [← hn] at L hbn hkn hp1 hp2 hp3
  have hn2 : n ≤ 2000 := by have h := runes_le s.data.toList; have h' : s.data.toList.length = s.size := by simp
                            omega
  have P1 := Lib.hid (fun w' => pick_any f (n + 1) w' f0 f1 (by omega) (by omega))
  have P2 := Lib.hid (fun w' => pick_any t (n + 1) w' t0 t1 (by omega) (by omega))
  have P3 := Lib.hid (fun w' => pick_any i (n + 1) w' i0 i1 (by omega) (by omega))
  rw [hp1] at P1
  rw [hp2] at P2
  rw [hp3] at P3
  have hX := fun (a b : Nat) (h1 : a ≤ b) (h2 : b ≤ n) w' (hb : Below w.heap.size w w') => cut_yes s a b w' (by omega) (tabs_later hT hb) hv (by omega) (by omega) (by omega)
  have X0 := Lib.hid (hX 0 a (by omega) (by omega))
  have X1 := Lib.hid (hX a b (by omega) hbn)
  have X2 := Lib.hid (hX b n hbn (Nat.le_refl _))
  have V := Lib.hid (fun w' (hb : Below w.heap.size w w') => valid_yes s w' (by omega) (tabs_later hT hb) hv)
  have A1 := Lib.hid (fun w' (hb : Below w.heap.size w w') => at_any s k w' (by omega) (tabs_later hT hb) (by omega) (by omega))
  rw [at_self hv, ← hn] at A1
  have A2 := Lib.hid (fun (y : ByteArray) (hy : y.size ≤ 2000) w' (hb : Below w.heap.size w w') => at_any y (k - a) w' (by omega) (tabs_later hT hb) (by omega) (by omega))
  have HC := Lib.hid (at_cut hv a b k (by omega))
  have LN := Lib.hid (fun (y : ByteArray) (hy : y.size ≤ 2000) w' (hb : Below w.heap.size w w') => len_any y w' (by omega) (tabs_later hT hb))
  have HL0 := Lib.hid (len_cut hv 0 a (by omega))
  have HL1 := Lib.hid (len_cut hv a b (by omega))
  have HL2 := Lib.hid (len_cut hv b n (by omega))
  have HJ := Lib.hid (cut_join hv a b n (by omega) hbn hn)
  generalize atC s.data.toList k = c at A1 HC
  clear hT hv hp1 hp2 hp3 hX hn
  go_enter Tryd.func4, Tryd.ntmps4
  go_wp2_with (go_at_call 10; refine C.out.mono ?_; rintro e w1 ⟨rfl, B1⟩)
  refine (L.out w1 B1).mono ?_
  rintro e w2 ⟨rfl, hb2⟩
  have B2 : Below w.heap.size w w2 := B1.trans (hb2.mono B1.size)
  clear hb2
  go_wp2_with fail
  refine (P1.out w2).mono ?_
  rintro e w2a ⟨rfl, rfl⟩
  go_wp2_with fail
  refine (P2.out w2).mono ?_
  rintro e w2b ⟨rfl, rfl⟩
  go_wp2_with fail
  refine (X0.out w2 B2).mono ?_
  rintro e w3 ⟨x, rfl, hx, hsx, hb3⟩
  have B3 : Below w.heap.size w w3 := B2.trans (hb3.mono B2.size)
  have Hx := Lib.hid hx
  have hsx' : x.size ≤ 2000 := by omega
  clear hb3 hx
  go_wp2_with fail
  refine (X1.out w3 B3).mono ?_
  rintro e w4 ⟨y, rfl, hy, hsy, hb4⟩
  have B4 : Below w.heap.size w w4 := B3.trans (hb4.mono B3.size)
  have Hy := Lib.hid hy
  have hsy' : y.size ≤ 2000 := by omega
  clear hb4 hy
  go_wp2_with fail
  refine (X2.out w4 B4).mono ?_
  rintro e w5 ⟨z, rfl, hz, hsz, hb5⟩
  have B5 : Below w.heap.size w w5 := B4.trans (hb5.mono B4.size)
  have Hz := Lib.hid hz
  have hsz' : z.size ≤ 2000 := by omega
  clear hb5 hz
  go_wp2_with fail
  refine (V.out w5 B5).mono ?_
  rintro e w6 ⟨rfl, hb6⟩
  have B6 : Below w.heap.size w w6 := B5.trans (hb6.mono B5.size)
  clear hb6
  go_wp2_with fail
  refine (P3.out w6).mono ?_
  rintro e w6a ⟨rfl, rfl⟩
  go_wp2_with fail
  refine (A1.out w6 B6).mono ?_
  rintro e w7 ⟨rfl, hb7⟩
  have B7 : Below w.heap.size w w7 := B6.trans (hb7.mono B6.size)
  clear hb7
  have a2 := A2.out y hsy' w7 B7
  generalize hd : atC y.data.toList ((k : Int) - a) = d at a2
  rw [Hy.out, Int.toNat_natCast, Int.toNat_natCast, HC.out.1] at a2
  have HD : Hid (a ≤ k → k < b → d = c) := fun h1 h2 => by rw [← hd, Hy.out]; exact HC.out.2 h1 h2
  clear hd
  go_wp2_with fail
  refine a2.mono ?_
  rintro e w8 ⟨rfl, hb8⟩
  have B8 : Below w.heap.size w w8 := B7.trans (hb8.mono B7.size)
  clear hb8 a2
  have L0 := Lib.hid (fun w' hb => LN.out x hsx' w' hb)
  have L1 := Lib.hid (fun w' hb => LN.out y hsy' w' hb)
  have L2 := Lib.hid (fun w' hb => LN.out z hsz' w' hb)
  have n0 : ((lenOf x.data.toList : Nat) : Int) = a := by rw [Hx.out]; have := HL0.out; simp only [Int.toNat_natCast]; omega
  have n1 : ((lenOf y.data.toList : Nat) : Int) = (b : Int) - a := by rw [Hy.out]; have := HL1.out; simp only [Int.toNat_natCast]; omega
  have n2 : ((lenOf z.data.toList : Nat) : Int) = (n : Int) - b := by rw [Hz.out]; have := HL2.out; simp only [Int.toNat_natCast]; omega
  rw [n0] at L0
  rw [n1] at L1
  rw [n2] at L2
  have hxyz : (x ++ y ++ z).toList = s.toList := by
    have : x ++ y ++ z = s := by
      apply ByteArray.ext
      apply Array.toList_inj.1
      rw [join_list, join_list, Hx.out, Hy.out, Hz.out]
      exact HJ.out
    rw [this]
  clear n0 n1 n2 LN Hx Hy Hz HL0 HL1 HL2 HJ HC A1 A2 X0 X1 X2 P1 P2 P3 V L C
  by_cases c1 : k < n <;> by_cases c2 : a ≤ k <;> by_cases c3 : k < b
  all_goals try (exfalso; omega)
  · obtain rfl : d = c := HD.out c2 c3
    go_wp2_with fail
    refine (L0.out w8 B8).mono ?_
    rintro e w9 ⟨rfl, hb9⟩
    have B9 : Below w.heap.size w w9 := B8.trans (hb9.mono B8.size)
    clear hb9
    go_wp2_with fail
    refine (L1.out w9 B9).mono ?_
    rintro e w10 ⟨rfl, hb10⟩
    have B10 : Below w.heap.size w w10 := B9.trans (hb10.mono B9.size)
    clear hb10
    go_wp2_with fail
    refine (L2.out w10 B10).mono ?_
    rintro e w11 ⟨rfl, hb11⟩
    have B11 : Below w.heap.size w w11 := B10.trans (hb11.mono B10.size)
    clear hb11
    go_wp2
    go_ret
    exact ⟨rfl, B11⟩
  all_goals
    go_wp2_with fail
    refine (L0.out w8 B8).mono ?_
    rintro e w9 ⟨rfl, hb9⟩
    have B9 : Below w.heap.size w w9 := B8.trans (hb9.mono B8.size)
    clear hb9
    go_wp2_with fail
    refine (L1.out w9 B9).mono ?_
    rintro e w10 ⟨rfl, hb10⟩
    have B10 : Below w.heap.size w w10 := B9.trans (hb10.mono B9.size)
    clear hb10
    go_wp2_with fail
    refine (L2.out w10 B10).mono ?_
    rintro e w11 ⟨rfl, hb11⟩
    have B11 : Below w.heap.size w w11 := B10.trans (hb11.mono B10.size)
    clear hb11
    go_wp2
    go_ret
    exact ⟨rfl, B11⟩

set_option maxHeartbeats 2000000 in
theorem cuts_swap (s : ByteArray) (f t i : Int) (a b k : Nat) (w : World) (hs : s.size ≤ 2000) (hT : Tabs w) (hv : validD s.data.toList = true) (hab : a < b) (hbn : b ≤ (runes s.data.toList).length) (hkn : k ≤ (runes s.data.toList).length)
    (f0 : -9223372036854775808 ≤ f) (f1 : f ≤ 9223372036854775807) (t0 : -9223372036854775808 ≤ t) (t1 : t ≤ 9223372036854775807) (i0 : -9223372036854775808 ≤ i) (i1 : i ≤ 9223372036854775807)
    (hp1 : pickOf f (((runes s.data.toList).length : Nat) + 1) = b) (hp2 : pickOf t (((runes s.data.toList).length : Nat) + 1) = a) (hp3 : pickOf i (((runes s.data.toList).length : Nat) + 1) = k) :
    Calls Tryd.prog 4 #[.string s, .int .i64 f, .int .i64 t, .int .i64 i] w fun e w' => e = .returned (.bool true) ∧ Below w.heap.size w w' := by
  have C := Lib.hid (lives_any w hT)
  have L := Lib.hid (fun w' (hb : Below w.heap.size w w') => len_any s w' (by omega) (tabs_later hT hb))
  rw [lenOf_yes hv] at L
  obtain ⟨n, hn⟩ : ∃ n, n = (runes s.data.toList).length := ⟨_, rfl⟩
  rw [← hn] at L hbn hkn hp1 hp2 hp3
  have hn2 : n ≤ 2000 := by have h := runes_le s.data.toList; have h' : s.data.toList.length = s.size := by simp
                            omega
  have P1 := Lib.hid (fun w' => pick_any f (n + 1) w' f0 f1 (by omega) (by omega))
  have P2 := Lib.hid (fun w' => pick_any t (n + 1) w' t0 t1 (by omega) (by omega))
  have P3 := Lib.hid (fun w' => pick_any i (n + 1) w' i0 i1 (by omega) (by omega))
  rw [hp1] at P1
  rw [hp2] at P2
  rw [hp3] at P3
  have hX := fun (a b : Nat) (h1 : a ≤ b) (h2 : b ≤ n) w' (hb : Below w.heap.size w w') => cut_yes s a b w' (by omega) (tabs_later hT hb) hv (by omega) (by omega) (by omega)
  have X0 := Lib.hid (hX 0 a (by omega) (by omega))
  have X1 := Lib.hid (hX a b (by omega) hbn)
  have X2 := Lib.hid (hX b n hbn (Nat.le_refl _))
  have V := Lib.hid (fun w' (hb : Below w.heap.size w w') => valid_yes s w' (by omega) (tabs_later hT hb) hv)
  have A1 := Lib.hid (fun w' (hb : Below w.heap.size w w') => at_any s k w' (by omega) (tabs_later hT hb) (by omega) (by omega))
  rw [at_self hv, ← hn] at A1
  have A2 := Lib.hid (fun (y : ByteArray) (hy : y.size ≤ 2000) w' (hb : Below w.heap.size w w') => at_any y (k - a) w' (by omega) (tabs_later hT hb) (by omega) (by omega))
  have HC := Lib.hid (at_cut hv a b k (by omega))
  have LN := Lib.hid (fun (y : ByteArray) (hy : y.size ≤ 2000) w' (hb : Below w.heap.size w w') => len_any y w' (by omega) (tabs_later hT hb))
  have HL0 := Lib.hid (len_cut hv 0 a (by omega))
  have HL1 := Lib.hid (len_cut hv a b (by omega))
  have HL2 := Lib.hid (len_cut hv b n (by omega))
  have HJ := Lib.hid (cut_join hv a b n (by omega) hbn hn)
  generalize atC s.data.toList k = c at A1 HC
  clear hT hv hp1 hp2 hp3 hX hn
  go_enter Tryd.func4, Tryd.ntmps4
  go_wp2_with (go_at_call 10; refine C.out.mono ?_; rintro e w1 ⟨rfl, B1⟩)
  refine (L.out w1 B1).mono ?_
  rintro e w2 ⟨rfl, hb2⟩
  have B2 : Below w.heap.size w w2 := B1.trans (hb2.mono B1.size)
  clear hb2
  go_wp2_with fail
  refine (P1.out w2).mono ?_
  rintro e w2a ⟨rfl, rfl⟩
  go_wp2_with fail
  refine (P2.out w2).mono ?_
  rintro e w2b ⟨rfl, rfl⟩
  go_wp2_with fail
  refine (X0.out w2 B2).mono ?_
  rintro e w3 ⟨x, rfl, hx, hsx, hb3⟩
  have B3 : Below w.heap.size w w3 := B2.trans (hb3.mono B2.size)
  have Hx := Lib.hid hx
  have hsx' : x.size ≤ 2000 := by omega
  clear hb3 hx
  go_wp2_with fail
  refine (X1.out w3 B3).mono ?_
  rintro e w4 ⟨y, rfl, hy, hsy, hb4⟩
  have B4 : Below w.heap.size w w4 := B3.trans (hb4.mono B3.size)
  have Hy := Lib.hid hy
  have hsy' : y.size ≤ 2000 := by omega
  clear hb4 hy
  go_wp2_with fail
  refine (X2.out w4 B4).mono ?_
  rintro e w5 ⟨z, rfl, hz, hsz, hb5⟩
  have B5 : Below w.heap.size w w5 := B4.trans (hb5.mono B4.size)
  have Hz := Lib.hid hz
  have hsz' : z.size ≤ 2000 := by omega
  clear hb5 hz
  go_wp2_with fail
  refine (V.out w5 B5).mono ?_
  rintro e w6 ⟨rfl, hb6⟩
  have B6 : Below w.heap.size w w6 := B5.trans (hb6.mono B5.size)
  clear hb6
  go_wp2_with fail
  refine (P3.out w6).mono ?_
  rintro e w6a ⟨rfl, rfl⟩
  go_wp2_with fail
  refine (A1.out w6 B6).mono ?_
  rintro e w7 ⟨rfl, hb7⟩
  have B7 : Below w.heap.size w w7 := B6.trans (hb7.mono B6.size)
  clear hb7
  have a2 := A2.out y hsy' w7 B7
  generalize hd : atC y.data.toList ((k : Int) - a) = d at a2
  rw [Hy.out, Int.toNat_natCast, Int.toNat_natCast, HC.out.1] at a2
  have HD : Hid (a ≤ k → k < b → d = c) := fun h1 h2 => by rw [← hd, Hy.out]; exact HC.out.2 h1 h2
  clear hd
  go_wp2_with fail
  refine a2.mono ?_
  rintro e w8 ⟨rfl, hb8⟩
  have B8 : Below w.heap.size w w8 := B7.trans (hb8.mono B7.size)
  clear hb8 a2
  have L0 := Lib.hid (fun w' hb => LN.out x hsx' w' hb)
  have L1 := Lib.hid (fun w' hb => LN.out y hsy' w' hb)
  have L2 := Lib.hid (fun w' hb => LN.out z hsz' w' hb)
  have n0 : ((lenOf x.data.toList : Nat) : Int) = a := by rw [Hx.out]; have := HL0.out; simp only [Int.toNat_natCast]; omega
  have n1 : ((lenOf y.data.toList : Nat) : Int) = (b : Int) - a := by rw [Hy.out]; have := HL1.out; simp only [Int.toNat_natCast]; omega
  have n2 : ((lenOf z.data.toList : Nat) : Int) = (n : Int) - b := by rw [Hz.out]; have := HL2.out; simp only [Int.toNat_natCast]; omega
  rw [n0] at L0
  rw [n1] at L1
  rw [n2] at L2
  have hxyz : (x ++ y ++ z).toList = s.toList := by
    have : x ++ y ++ z = s := by
      apply ByteArray.ext
      apply Array.toList_inj.1
      rw [join_list, join_list, Hx.out, Hy.out, Hz.out]
      exact HJ.out
    rw [this]
  clear n0 n1 n2 LN Hx Hy Hz HL0 HL1 HL2 HJ HC A1 A2 X0 X1 X2 P1 P2 P3 V L C
  by_cases c1 : k < n <;> by_cases c2 : a ≤ k <;> by_cases c3 : k < b
  all_goals try (exfalso; omega)
  · obtain rfl : d = c := HD.out c2 c3
    go_wp2_with fail
    refine (L0.out w8 B8).mono ?_
    rintro e w9 ⟨rfl, hb9⟩
    have B9 : Below w.heap.size w w9 := B8.trans (hb9.mono B8.size)
    clear hb9
    go_wp2_with fail
    refine (L1.out w9 B9).mono ?_
    rintro e w10 ⟨rfl, hb10⟩
    have B10 : Below w.heap.size w w10 := B9.trans (hb10.mono B9.size)
    clear hb10
    go_wp2_with fail
    refine (L2.out w10 B10).mono ?_
    rintro e w11 ⟨rfl, hb11⟩
    have B11 : Below w.heap.size w w11 := B10.trans (hb11.mono B10.size)
    clear hb11
    go_wp2
    go_ret
    exact ⟨rfl, B11⟩
  all_goals
    go_wp2_with fail
    refine (L0.out w8 B8).mono ?_
    rintro e w9 ⟨rfl, hb9⟩
    have B9 : Below w.heap.size w w9 := B8.trans (hb9.mono B8.size)
    clear hb9
    go_wp2_with fail
    refine (L1.out w9 B9).mono ?_
    rintro e w10 ⟨rfl, hb10⟩
    have B10 : Below w.heap.size w w10 := B9.trans (hb10.mono B9.size)
    clear hb10
    go_wp2_with fail
    refine (L2.out w10 B10).mono ?_
    rintro e w11 ⟨rfl, hb11⟩
    have B11 : Below w.heap.size w w11 := B10.trans (hb11.mono B10.size)
    clear hb11
    go_wp2
    go_ret
    exact ⟨rfl, B11⟩

/-- RunesCuts: always true. -/
theorem cuts_any (s : ByteArray) (f t i : Int) (w : World) (hs : s.size ≤ 9223372036854775807) (hT : Tabs w)
    (f0 : -9223372036854775808 ≤ f) (f1 : f ≤ 9223372036854775807) (t0 : -9223372036854775808 ≤ t) (t1 : t ≤ 9223372036854775807) (i0 : -9223372036854775808 ≤ i) (i1 : i ≤ 9223372036854775807) :
    Calls Tryd.prog 4 #[.string s, .int .i64 f, .int .i64 t, .int .i64 i] w fun e w' => e = .returned (.bool true) ∧ Below w.heap.size w w' := by
  by_cases h : 2000 < s.size
  · exact cuts_long s f t i w hs hT h
  · have h1 : s.size ≤ 2000 := by omega
    cases v : validD s.data.toList
    · exact cuts_no s f t i w h1 hT v f0 f1 t0 t1
    · have r1 := pick_range f (((runes s.data.toList).length : Nat) + 1) (by omega)
      have r2 := pick_range t (((runes s.data.toList).length : Nat) + 1) (by omega)
      have r3 := pick_range i (((runes s.data.toList).length : Nat) + 1) (by omega)
      obtain ⟨a, ha⟩ := Int.eq_ofNat_of_zero_le r1.1
      obtain ⟨b, hb⟩ := Int.eq_ofNat_of_zero_le r2.1
      obtain ⟨k, hk⟩ := Int.eq_ofNat_of_zero_le r3.1
      by_cases hab : a ≤ b
      · exact cuts_yes s f t i a b k w h1 hT v hab (by omega) (by omega) f0 f1 t0 t1 i0 i1 ha hb hk
      · exact cuts_swap s f t i b a k w h1 hT v (by omega) (by omega) (by omega) f0 f1 t0 t1 i0 i1 ha hb hk
end Go.Proofs.YtbfldnppfenbgaaDoor
