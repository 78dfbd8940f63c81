/-
  RunesBack: for every list and every string the law returns true; nothing that lay before is changed. Conditions: the tables of unicode/utf8 lie as laid.
-/
import Derived.Test.YtbfldnppfenbgaaDoorText
import Derived.Test.YtbfldnppfenbgaaDoorJoins
namespace Go.Proofs.YtbfldnppfenbgaaDoor
open Go.RowKit Go.Lib
set_option maxRecDepth 100000

theorem back_long (A : Option Addr) (n c : Nat) (s : ByteArray) (w : World) (hn : n ≤ 9223372036854775807) (hs : s.size ≤ 9223372036854775807) (hT : Tabs w) (h : 2000 < s.size ∨ 2000 < n) :
    Calls Tryd.prog 5 #[.slice A n c, .string s] w fun e w' => e = .returned (.bool true) ∧ Below w.heap.size w w' := by
  have C := Lib.hid (lives_any w hT)
  clear hT
  by_cases h1 : 2000 < s.size
  · clear h
    go_enter Tryd.func5, Tryd.ntmps5
    go_wp2_with (go_at_call 10; refine C.out.mono ?_; rintro e w1 ⟨rfl, hb1⟩)
    go_ret
    exact ⟨rfl, hb1⟩
  · have h2 : 2000 < n := by omega
    clear h
    go_enter Tryd.func5, Tryd.ntmps5
    go_wp2_with (go_at_call 10; refine C.out.mono ?_; rintro e w1 ⟨rfl, hb1⟩)
    go_ret
    exact ⟨rfl, hb1⟩

theorem arr_list (l : List UInt8) : (⟨l.toArray⟩ : ByteArray).data.toList = l := rfl
theorem arr_size (l : List UInt8) : (⟨l.toArray⟩ : ByteArray).size = l.length := by simp [ByteArray.size]
theorem allCh_take {xs : List Int} {k : Nat} {x : Int} (h : xs[k]? = some x) : allCh (xs.take (k + 1)) = (allCh (xs.take k) && chB x) := by
  rw [take_snoc h]
  simp [allCh]
theorem runes_i64 (l : List UInt8) : ∀ x ∈ runes l, -9223372036854775808 ≤ x ∧ x ≤ 9223372036854775807 := fun x hx => by
  have := runes_bounds _ l (Nat.le_refl _) x hx
  omega

set_option maxHeartbeats 2000000 in
theorem back_av (A : Option Addr) (c : Nat) (xs : List Int) (s : ByteArray) (w : World) (hI : Ints w w.heap.size (.slice A xs.length c) xs) (hx : ∀ x ∈ xs, -9223372036854775808 ≤ x ∧ x ≤ 9223372036854775807)
    (hn : xs.length ≤ 2000) (hs : s.size ≤ 2000) (hT : Tabs w) (ha : allCh xs = true) (hv : validD s.data.toList = true) :
    Calls Tryd.prog 5 #[.slice A xs.length c, .string s] w fun e w' => e = .returned (.bool true) ∧ Below w.heap.size w w' := by
  have HI := Lib.hid hI
  have C := Lib.hid (lives_any w hT)
  have T1 := Lib.hid (fun w' (hb : Below w.heap.size w w') => text_any w'.heap.size (.slice A xs.length c) xs w' (hI.later hb) (Nat.le_refl _) (by omega) hx)
  rw [(text_yes ha).1, (text_yes ha).2] at T1
  have hch := allCh_iff.1 ha
  have hsz : (⟨(encA xs).toArray⟩ : ByteArray).size ≤ 8000 := by rw [arr_size]; have := encA_len xs; omega
  have hva : validD (⟨(encA xs).toArray⟩ : ByteArray).data.toList = true := valid_encA xs hch
  have hru : runes (⟨(encA xs).toArray⟩ : ByteArray).data.toList = xs := runes_encA xs hch
  have L1 := Lib.hid (fun w' (hb : Below w.heap.size w w') => list_yes ⟨(encA xs).toArray⟩ w' (by omega) (tabs_later hT hb) hva)
  have N1 := Lib.hid (fun w' (hb : Below w.heap.size w w') => len_any ⟨(encA xs).toArray⟩ w' (by omega) (tabs_later hT hb))
  rw [lenOf_yes hva, hru] at N1
  rw [hru] at L1
  have V1 := Lib.hid (fun w' (hb : Below w.heap.size w w') => valid_yes ⟨(encA xs).toArray⟩ w' (by omega) (tabs_later hT hb) hva)
  generalize (⟨(encA xs).toArray⟩ : ByteArray) = t at T1 L1 N1 V1 hsz hva hru
  clear hva hru hch
  have L2 := Lib.hid (fun w' (hb : Below w.heap.size w w') => list_yes s w' (by omega) (tabs_later hT hb) hv)
  have V2 := Lib.hid (fun w' (hb : Below w.heap.size w w') => valid_yes s w' (by omega) (tabs_later hT hb) hv)
  have hrl : (runes s.data.toList).length ≤ 2000 := by have h := runes_le s.data.toList; have h' : s.data.toList.length = s.size := by simp
                                                       omega
  have T2 := Lib.hid (fun v w' (hi : Ints w' w'.heap.size v (runes s.data.toList)) => text_any w'.heap.size v (runes s.data.toList) w' hi (Nat.le_refl _) (by omega) (runes_i64 _))
  have hall : allCh (runes s.data.toList) = true := allCh_iff.2 (valid_ch hv)
  have hback : (⟨(encA (runes s.data.toList)).toArray⟩ : ByteArray) = s := by
    rw [valid_eq hv]
  rw [(text_yes hall).1, (text_yes hall).2, hback] at T2
  generalize runes s.data.toList = ys at L2 T2 hrl hall hback
  clear hall hback
  have IS := Lib.hid is_any
  have HAll := Lib.hid ha
  clear hT hv ha hI hx
  go_enter Tryd.func5, Tryd.ntmps5
  go_wp2_with (go_at_call 10; refine C.out.mono ?_; rintro e w1 ⟨rfl, B1⟩)
  refine (T1.out w1 B1).mono ?_
  rintro e w2 ⟨rfl, hb2⟩
  have B2 : Below w.heap.size w w2 := B1.trans (hb2.mono B1.size)
  clear hb2
  have HI2 := Lib.hid (HI.out.later B2)
  clear HI T1 C
  have HB2 := Lib.hid B2
  clear B1 B2
  go_wp2_with fail
  go_loop [7, 8] (fun m i => ∃ k : Nat, k ≤ xs.length ∧ i = .int .i64 k ∧ m = .bool (allCh (xs.take k))) (fun _ i => xs.length - (intOf i).toNat)
  case atStart => exact ⟨0, Nat.zero_le _, rfl, rfl⟩
  case round =>
    obtain ⟨k, hk, rfl, rfl⟩ := hrel
    by_cases hlt : k < xs.length
    · obtain ⟨A', c', hA', _, _, hcell⟩ := HI2.out
      obtain ⟨b, off, hA, hbl, hcells⟩ := hcell (by omega)
      obtain ⟨x, hxk⟩ : ∃ x, xs[k]? = some x := ⟨_, List.getElem?_eq_getElem hlt⟩
      have hc := hcells k x hxk
      injection hA' with hA1 hA2 hA3
      rw [hA] at hA1
      subst hA1
      have HT := Lib.hid (allCh_take hxk)
      clear hcells hxk hA hA3 hA2 hcell
      cases hm : allCh (xs.take k) with
      | true =>
        rw [hm, Bool.true_and] at HT
        clear hm
        have I := Lib.hid (IS.out x w2)
        cases hch : chB x with
        | true =>
          rw [hch] at I HT
          clear hch
          go_wp2_with (go_at_call 19; refine I.out.mono ?_; rintro e w' ⟨rfl, rfl⟩)
          go_round
          case rel => exact ⟨k + 1, by omega, by go_num, by rw [HT.out]⟩
          case measure => simp [intOf]; omega
        | false =>
          rw [hch] at I HT
          clear hch
          go_wp2_with (go_at_call 19; refine I.out.mono ?_; rintro e w' ⟨rfl, rfl⟩)
          go_round
          case rel => exact ⟨k + 1, by omega, by go_num, by rw [HT.out]⟩
          case measure => simp [intOf]; omega
      | false =>
        rw [hm, Bool.false_and] at HT
        clear hm
        go_wp2
        go_round
        case rel => exact ⟨k + 1, by omega, by go_num, by rw [HT.out]⟩
        case measure => simp [intOf]; omega
    · have hkn : xs.take k = xs := List.take_of_length_le (by omega)
      rw [hkn, HAll.out]
      clear hkn HAll
      have B2 : Below w.heap.size w w2 := HB2.out
      go_wp2_with fail
      refine (L1.out w2 B2).mono ?_
      rintro e w3 ⟨m, rfl, own3, hb3⟩
      have B3 : Below w.heap.size w w3 := B2.trans (hb3.mono B2.size)
      have SM := Lib.hid (same_int w3.heap.size m (.slice A xs.length c) xs xs w3 (Ints.own own3) (HI2.out.later hb3))
      rw [decide_eq_true rfl] at SM
      clear own3 hb3
      go_wp2_with fail
      refine SM.out.mono ?_
      rintro e w3a ⟨rfl, q, rfl⟩
      have B3a : Below w.heap.size w (w3.drewN q) := below_drewN B3 q
      generalize w3.drewN q = w3b at B3a ⊢
      go_wp2_with fail
      refine (N1.out w3b B3a).mono ?_
      rintro e w4 ⟨rfl, hb4⟩
      have B4 : Below w.heap.size w w4 := B3a.trans (hb4.mono B3a.size)
      clear hb4
      go_wp2_with fail
      refine (V1.out w4 B4).mono ?_
      rintro e w5 ⟨rfl, hb5⟩
      have B5 : Below w.heap.size w w5 := B4.trans (hb5.mono B4.size)
      clear hb5
      go_wp2_with fail
      refine (L2.out w5 B5).mono ?_
      rintro e w6 ⟨nv, rfl, own6, hb6⟩
      have B6 : Below w.heap.size w w6 := B5.trans (hb6.mono B5.size)
      have O6 := Lib.hid own6
      clear own6 hb6
      go_wp2_with fail
      refine (V2.out w6 B6).mono ?_
      rintro e w7 ⟨rfl, hb7⟩
      have B7 : Below w.heap.size w w7 := B6.trans (hb7.mono B6.size)
      have T3 := Lib.hid (T2.out nv w7 ((Ints.own O6.out).later hb7))
      clear hb7 O6
      go_wp2_with fail
      refine T3.out.mono ?_
      rintro e w9 ⟨rfl, hb9⟩
      have B9 : Below w.heap.size w w9 := B7.trans (hb9.mono B7.size)
      go_wp2
      go_ret
      exact ⟨rfl, B9⟩

set_option maxHeartbeats 2000000 in
theorem back_ai (A : Option Addr) (c : Nat) (xs : List Int) (s : ByteArray) (w : World) (hI : Ints w w.heap.size (.slice A xs.length c) xs) (hx : ∀ x ∈ xs, -9223372036854775808 ≤ x ∧ x ≤ 9223372036854775807)
    (hn : xs.length ≤ 2000) (hs : s.size ≤ 2000) (hT : Tabs w) (ha : allCh xs = true) (hv : validD s.data.toList = false) :
    Calls Tryd.prog 5 #[.slice A xs.length c, .string s] w fun e w' => e = .returned (.bool true) ∧ Below w.heap.size w w' := by
  have HI := Lib.hid hI
  have C := Lib.hid (lives_any w hT)
  have T1 := Lib.hid (fun w' (hb : Below w.heap.size w w') => text_any w'.heap.size (.slice A xs.length c) xs w' (hI.later hb) (Nat.le_refl _) (by omega) hx)
  rw [(text_yes ha).1, (text_yes ha).2] at T1
  have hch := allCh_iff.1 ha
  have hsz : (⟨(encA xs).toArray⟩ : ByteArray).size ≤ 8000 := by rw [arr_size]; have := encA_len xs; omega
  have hva : validD (⟨(encA xs).toArray⟩ : ByteArray).data.toList = true := valid_encA xs hch
  have hru : runes (⟨(encA xs).toArray⟩ : ByteArray).data.toList = xs := runes_encA xs hch
  have L1 := Lib.hid (fun w' (hb : Below w.heap.size w w') => list_yes ⟨(encA xs).toArray⟩ w' (by omega) (tabs_later hT hb) hva)
  have N1 := Lib.hid (fun w' (hb : Below w.heap.size w w') => len_any ⟨(encA xs).toArray⟩ w' (by omega) (tabs_later hT hb))
  rw [lenOf_yes hva, hru] at N1
  rw [hru] at L1
  have V1 := Lib.hid (fun w' (hb : Below w.heap.size w w') => valid_yes ⟨(encA xs).toArray⟩ w' (by omega) (tabs_later hT hb) hva)
  generalize (⟨(encA xs).toArray⟩ : ByteArray) = t at T1 L1 N1 V1 hsz hva hru
  clear hva hru hch
  have L2 := Lib.hid (fun w' (hb : Below w.heap.size w w') => list_no s w' (by omega) (tabs_later hT hb) hv)
  have V2 := Lib.hid (fun w' (hb : Below w.heap.size w w') => valid_no s w' (by omega) (tabs_later hT hb) hv)
  have N2 := Lib.hid (fun w' (hb : Below w.heap.size w w') => len_any s w' (by omega) (tabs_later hT hb))
  rw [lenOf_no hv] at N2
  have T2 := Lib.hid (fun w' => text_any w'.heap.size (.slice none 0 0) [] w' (Ints.nil _ _) (Nat.le_refl _) (by decide) (by simp))
  have IS := Lib.hid is_any
  have HAll := Lib.hid ha
  clear hT hv ha hI hx
  go_enter Tryd.func5, Tryd.ntmps5
  go_wp2_with (go_at_call 10; refine C.out.mono ?_; rintro e w1 ⟨rfl, B1⟩)
  refine (T1.out w1 B1).mono ?_
  rintro e w2 ⟨rfl, hb2⟩
  have B2 : Below w.heap.size w w2 := B1.trans (hb2.mono B1.size)
  clear hb2
  have HI2 := Lib.hid (HI.out.later B2)
  clear HI T1 C
  have HB2 := Lib.hid B2
  clear B1 B2
  go_wp2_with fail
  go_loop [7, 8] (fun m i => ∃ k : Nat, k ≤ xs.length ∧ i = .int .i64 k ∧ m = .bool (allCh (xs.take k))) (fun _ i => xs.length - (intOf i).toNat)
  case atStart => exact ⟨0, Nat.zero_le _, rfl, rfl⟩
  case round =>
    obtain ⟨k, hk, rfl, rfl⟩ := hrel
    by_cases hlt : k < xs.length
    · obtain ⟨A', c', hA', _, _, hcell⟩ := HI2.out
      obtain ⟨b, off, hA, hbl, hcells⟩ := hcell (by omega)
      obtain ⟨x, hxk⟩ : ∃ x, xs[k]? = some x := ⟨_, List.getElem?_eq_getElem hlt⟩
      have hc := hcells k x hxk
      injection hA' with hA1 hA2 hA3
      rw [hA] at hA1
      subst hA1
      have HT := Lib.hid (allCh_take hxk)
      clear hcells hxk hA hA3 hA2 hcell
      cases hm : allCh (xs.take k) with
      | true =>
        rw [hm, Bool.true_and] at HT
        clear hm
        have I := Lib.hid (IS.out x w2)
        cases hch : chB x with
        | true =>
          rw [hch] at I HT
          clear hch
          go_wp2_with (go_at_call 19; refine I.out.mono ?_; rintro e w' ⟨rfl, rfl⟩)
          go_round
          case rel => exact ⟨k + 1, by omega, by go_num, by rw [HT.out]⟩
          case measure => simp [intOf]; omega
        | false =>
          rw [hch] at I HT
          clear hch
          go_wp2_with (go_at_call 19; refine I.out.mono ?_; rintro e w' ⟨rfl, rfl⟩)
          go_round
          case rel => exact ⟨k + 1, by omega, by go_num, by rw [HT.out]⟩
          case measure => simp [intOf]; omega
      | false =>
        rw [hm, Bool.false_and] at HT
        clear hm
        go_wp2
        go_round
        case rel => exact ⟨k + 1, by omega, by go_num, by rw [HT.out]⟩
        case measure => simp [intOf]; omega
    · have hkn : xs.take k = xs := List.take_of_length_le (by omega)
      rw [hkn, HAll.out]
      clear hkn HAll
      have B2 : Below w.heap.size w w2 := HB2.out
      go_wp2_with fail
      refine (L1.out w2 B2).mono ?_
      rintro e w3 ⟨m, rfl, own3, hb3⟩
      have B3 : Below w.heap.size w w3 := B2.trans (hb3.mono B2.size)
      have SM := Lib.hid (same_int w3.heap.size m (.slice A xs.length c) xs xs w3 (Ints.own own3) (HI2.out.later hb3))
      rw [decide_eq_true rfl] at SM
      clear own3 hb3
      go_wp2_with fail
      refine SM.out.mono ?_
      rintro e w3a ⟨rfl, q, rfl⟩
      have B3a : Below w.heap.size w (w3.drewN q) := below_drewN B3 q
      generalize w3.drewN q = w3b at B3a ⊢
      go_wp2_with fail
      refine (N1.out w3b B3a).mono ?_
      rintro e w4 ⟨rfl, hb4⟩
      have B4 : Below w.heap.size w w4 := B3a.trans (hb4.mono B3a.size)
      clear hb4
      go_wp2_with fail
      refine (V1.out w4 B4).mono ?_
      rintro e w5 ⟨rfl, hb5⟩
      have B5 : Below w.heap.size w w5 := B4.trans (hb5.mono B4.size)
      clear hb5
      go_wp2_with fail
      refine (L2.out w5 B5).mono ?_
      rintro e w6 ⟨rfl, hb6⟩
      have B6 : Below w.heap.size w w6 := B5.trans (hb6.mono B5.size)
      go_wp2_with fail
      refine (V2.out w6 B6).mono ?_
      rintro e w7 ⟨rfl, hb7⟩
      have B7 : Below w.heap.size w w7 := B6.trans (hb7.mono B6.size)
      go_wp2_with fail
      refine (N2.out w7 B7).mono ?_
      rintro e w8 ⟨rfl, hb8⟩
      have B8 : Below w.heap.size w w8 := B7.trans (hb8.mono B7.size)
      go_wp2_with fail
      refine (T2.out w8).mono ?_
      rintro e w9 ⟨rfl, hb9⟩
      have B9 : Below w.heap.size w w9 := B8.trans (hb9.mono B8.size)
      go_wp2
      go_ret
      exact ⟨rfl, B9⟩

set_option maxHeartbeats 2000000 in
theorem back_nv (A : Option Addr) (c : Nat) (xs : List Int) (s : ByteArray) (w : World) (hI : Ints w w.heap.size (.slice A xs.length c) xs) (hx : ∀ x ∈ xs, -9223372036854775808 ≤ x ∧ x ≤ 9223372036854775807)
    (hn : xs.length ≤ 2000) (hs : s.size ≤ 2000) (hT : Tabs w) (ha : allCh xs = false) (hv : validD s.data.toList = true) :
    Calls Tryd.prog 5 #[.slice A xs.length c, .string s] w fun e w' => e = .returned (.bool true) ∧ Below w.heap.size w w' := by
  have HI := Lib.hid hI
  have C := Lib.hid (lives_any w hT)
  have T1 := Lib.hid (fun w' (hb : Below w.heap.size w w') => text_any w'.heap.size (.slice A xs.length c) xs w' (hI.later hb) (Nat.le_refl _) (by omega) hx)
  rw [(text_no ha).1, (text_no ha).2] at T1
  have L1 := Lib.hid (fun w' (hb : Below w.heap.size w w') => list_yes ⟨#[]⟩ w' (by decide) (tabs_later hT hb) rfl)
  have L2 := Lib.hid (fun w' (hb : Below w.heap.size w w') => list_yes s w' (by omega) (tabs_later hT hb) hv)
  have V2 := Lib.hid (fun w' (hb : Below w.heap.size w w') => valid_yes s w' (by omega) (tabs_later hT hb) hv)
  have hrl : (runes s.data.toList).length ≤ 2000 := by have h := runes_le s.data.toList; have h' : s.data.toList.length = s.size := by simp
                                                       omega
  have T2 := Lib.hid (fun v w' (hi : Ints w' w'.heap.size v (runes s.data.toList)) => text_any w'.heap.size v (runes s.data.toList) w' hi (Nat.le_refl _) (by omega) (runes_i64 _))
  have hall : allCh (runes s.data.toList) = true := allCh_iff.2 (valid_ch hv)
  have hback : (⟨(encA (runes s.data.toList)).toArray⟩ : ByteArray) = s := by
    rw [valid_eq hv]
  rw [(text_yes hall).1, (text_yes hall).2, hback] at T2
  generalize runes s.data.toList = ys at L2 T2 hrl hall hback
  clear hall hback
  have IS := Lib.hid is_any
  have HAll := Lib.hid ha
  clear hT hv ha hI hx
  go_enter Tryd.func5, Tryd.ntmps5
  go_wp2_with (go_at_call 10; refine C.out.mono ?_; rintro e w1 ⟨rfl, B1⟩)
  refine (T1.out w1 B1).mono ?_
  rintro e w2 ⟨rfl, hb2⟩
  have B2 : Below w.heap.size w w2 := B1.trans (hb2.mono B1.size)
  clear hb2
  have HI2 := Lib.hid (HI.out.later B2)
  clear HI T1 C
  have HB2 := Lib.hid B2
  clear B1 B2
  go_wp2_with fail
  go_loop [7, 8] (fun m i => ∃ k : Nat, k ≤ xs.length ∧ i = .int .i64 k ∧ m = .bool (allCh (xs.take k))) (fun _ i => xs.length - (intOf i).toNat)
  case atStart => exact ⟨0, Nat.zero_le _, rfl, rfl⟩
  case round =>
    obtain ⟨k, hk, rfl, rfl⟩ := hrel
    by_cases hlt : k < xs.length
    · obtain ⟨A', c', hA', _, _, hcell⟩ := HI2.out
      obtain ⟨b, off, hA, hbl, hcells⟩ := hcell (by omega)
      obtain ⟨x, hxk⟩ : ∃ x, xs[k]? = some x := ⟨_, List.getElem?_eq_getElem hlt⟩
      have hc := hcells k x hxk
      injection hA' with hA1 hA2 hA3
      rw [hA] at hA1
      subst hA1
      have HT := Lib.hid (allCh_take hxk)
      clear hcells hxk hA hA3 hA2 hcell
      cases hm : allCh (xs.take k) with
      | true =>
        rw [hm, Bool.true_and] at HT
        clear hm
        have I := Lib.hid (IS.out x w2)
        cases hch : chB x with
        | true =>
          rw [hch] at I HT
          clear hch
          go_wp2_with (go_at_call 19; refine I.out.mono ?_; rintro e w' ⟨rfl, rfl⟩)
          go_round
          case rel => exact ⟨k + 1, by omega, by go_num, by rw [HT.out]⟩
          case measure => simp [intOf]; omega
        | false =>
          rw [hch] at I HT
          clear hch
          go_wp2_with (go_at_call 19; refine I.out.mono ?_; rintro e w' ⟨rfl, rfl⟩)
          go_round
          case rel => exact ⟨k + 1, by omega, by go_num, by rw [HT.out]⟩
          case measure => simp [intOf]; omega
      | false =>
        rw [hm, Bool.false_and] at HT
        clear hm
        go_wp2
        go_round
        case rel => exact ⟨k + 1, by omega, by go_num, by rw [HT.out]⟩
        case measure => simp [intOf]; omega
    · have hkn : xs.take k = xs := List.take_of_length_le (by omega)
      rw [hkn, HAll.out]
      clear hkn HAll
      have B2 : Below w.heap.size w w2 := HB2.out
      go_wp2_with fail
      refine (L1.out w2 B2).mono ?_
      rintro e w3 ⟨m, rfl, own3, hb3⟩
      have B3 : Below w.heap.size w w3 := B2.trans (hb3.mono B2.size)
      clear own3 hb3
      go_wp2_with fail
      refine (L2.out w3 B3).mono ?_
      rintro e w6 ⟨nv, rfl, own6, hb6⟩
      have B6 : Below w.heap.size w w6 := B3.trans (hb6.mono B3.size)
      have O6 := Lib.hid own6
      clear own6 hb6
      go_wp2_with fail
      refine (V2.out w6 B6).mono ?_
      rintro e w7 ⟨rfl, hb7⟩
      have B7 : Below w.heap.size w w7 := B6.trans (hb7.mono B6.size)
      have T3 := Lib.hid (T2.out nv w7 ((Ints.own O6.out).later hb7))
      clear hb7 O6
      go_wp2_with fail
      refine T3.out.mono ?_
      rintro e w9 ⟨rfl, hb9⟩
      have B9 : Below w.heap.size w w9 := B7.trans (hb9.mono B7.size)
      go_wp2
      go_ret
      exact ⟨rfl, B9⟩

set_option maxHeartbeats 2000000 in
theorem back_ni (A : Option Addr) (c : Nat) (xs : List Int) (s : ByteArray) (w : World) (hI : Ints w w.heap.size (.slice A xs.length c) xs) (hx : ∀ x ∈ xs, -9223372036854775808 ≤ x ∧ x ≤ 9223372036854775807)
    (hn : xs.length ≤ 2000) (hs : s.size ≤ 2000) (hT : Tabs w) (ha : allCh xs = false) (hv : validD s.data.toList = false) :
    Calls Tryd.prog 5 #[.slice A xs.length c, .string s] w fun e w' => e = .returned (.bool true) ∧ Below w.heap.size w w' := by
  have HI := Lib.hid hI
  have C := Lib.hid (lives_any w hT)
  have T1 := Lib.hid (fun w' (hb : Below w.heap.size w w') => text_any w'.heap.size (.slice A xs.length c) xs w' (hI.later hb) (Nat.le_refl _) (by omega) hx)
  rw [(text_no ha).1, (text_no ha).2] at T1
  have L1 := Lib.hid (fun w' (hb : Below w.heap.size w w') => list_yes ⟨#[]⟩ w' (by decide) (tabs_later hT hb) rfl)
  have L2 := Lib.hid (fun w' (hb : Below w.heap.size w w') => list_no s w' (by omega) (tabs_later hT hb) hv)
  have V2 := Lib.hid (fun w' (hb : Below w.heap.size w w') => valid_no s w' (by omega) (tabs_later hT hb) hv)
  have N2 := Lib.hid (fun w' (hb : Below w.heap.size w w') => len_any s w' (by omega) (tabs_later hT hb))
  rw [lenOf_no hv] at N2
  have T2 := Lib.hid (fun w' => text_any w'.heap.size (.slice none 0 0) [] w' (Ints.nil _ _) (Nat.le_refl _) (by decide) (by simp))
  have IS := Lib.hid is_any
  have HAll := Lib.hid ha
  clear hT hv ha hI hx
  go_enter Tryd.func5, Tryd.ntmps5
  go_wp2_with (go_at_call 10; refine C.out.mono ?_; rintro e w1 ⟨rfl, B1⟩)
  refine (T1.out w1 B1).mono ?_
  rintro e w2 ⟨rfl, hb2⟩
  have B2 : Below w.heap.size w w2 := B1.trans (hb2.mono B1.size)
  clear hb2
  have HI2 := Lib.hid (HI.out.later B2)
  clear HI T1 C
  have HB2 := Lib.hid B2
  clear B1 B2
  go_wp2_with fail
  go_loop [7, 8] (fun m i => ∃ k : Nat, k ≤ xs.length ∧ i = .int .i64 k ∧ m = .bool (allCh (xs.take k))) (fun _ i => xs.length - (intOf i).toNat)
  case atStart => exact ⟨0, Nat.zero_le _, rfl, rfl⟩
  case round =>
    obtain ⟨k, hk, rfl, rfl⟩ := hrel
    by_cases hlt : k < xs.length
    · obtain ⟨A', c', hA', _, _, hcell⟩ := HI2.out
      obtain ⟨b, off, hA, hbl, hcells⟩ := hcell (by omega)
      obtain ⟨x, hxk⟩ : ∃ x, xs[k]? = some x := ⟨_, List.getElem?_eq_getElem hlt⟩
      have hc := hcells k x hxk
      injection hA' with hA1 hA2 hA3
      rw [hA] at hA1
      subst hA1
      have HT := Lib.hid (allCh_take hxk)
      clear hcells hxk hA hA3 hA2 hcell
      cases hm : allCh (xs.take k) with
      | true =>
        rw [hm, Bool.true_and] at HT
        clear hm
        have I := Lib.hid (IS.out x w2)
        cases hch : chB x with
        | true =>
          rw [hch] at I HT
          clear hch
          go_wp2_with (go_at_call 19; refine I.out.mono ?_; rintro e w' ⟨rfl, rfl⟩)
          go_round
          case rel => exact ⟨k + 1, by omega, by go_num, by rw [HT.out]⟩
          case measure => simp [intOf]; omega
        | false =>
          rw [hch] at I HT
          clear hch
          go_wp2_with (go_at_call 19; refine I.out.mono ?_; rintro e w' ⟨rfl, rfl⟩)
          go_round
          case rel => exact ⟨k + 1, by omega, by go_num, by rw [HT.out]⟩
          case measure => simp [intOf]; omega
      | false =>
        rw [hm, Bool.false_and] at HT
        clear hm
        go_wp2
        go_round
        case rel => exact ⟨k + 1, by omega, by go_num, by rw [HT.out]⟩
        case measure => simp [intOf]; omega
    · have hkn : xs.take k = xs := List.take_of_length_le (by omega)
      rw [hkn, HAll.out]
      clear hkn HAll
      have B2 : Below w.heap.size w w2 := HB2.out
      go_wp2_with fail
      refine (L1.out w2 B2).mono ?_
      rintro e w3 ⟨m, rfl, own3, hb3⟩
      have B3 : Below w.heap.size w w3 := B2.trans (hb3.mono B2.size)
      clear own3 hb3
      go_wp2_with fail
      refine (L2.out w3 B3).mono ?_
      rintro e w6 ⟨rfl, hb6⟩
      have B6 : Below w.heap.size w w6 := B3.trans (hb6.mono B3.size)
      go_wp2_with fail
      refine (V2.out w6 B6).mono ?_
      rintro e w7 ⟨rfl, hb7⟩
      have B7 : Below w.heap.size w w7 := B6.trans (hb7.mono B6.size)
      go_wp2_with fail
      refine (N2.out w7 B7).mono ?_
      rintro e w8 ⟨rfl, hb8⟩
      have B8 : Below w.heap.size w w8 := B7.trans (hb8.mono B7.size)
      go_wp2_with fail
      refine (T2.out w8).mono ?_
      rintro e w9 ⟨rfl, hb9⟩
      have B9 : Below w.heap.size w w9 := B8.trans (hb9.mono B8.size)
      go_wp2
      go_ret
      exact ⟨rfl, B9⟩

/-- RunesBack: always true. -/
theorem back_any (v : Value) (xs : List Int) (s : ByteArray) (w : World) (hI : Ints w w.heap.size v xs) (hx : ∀ x ∈ xs, -9223372036854775808 ≤ x ∧ x ≤ 9223372036854775807) (hs : s.size ≤ 9223372036854775807) (hT : Tabs w) :
    Calls Tryd.prog 5 #[v, .string s] w fun e w' => e = .returned (.bool true) ∧ Below w.heap.size w w' := by
  obtain ⟨A, c, rfl, h1, h2, h3⟩ := id hI
  by_cases h : 2000 < s.size ∨ 2000 < xs.length
  · exact back_long A xs.length c s w (by omega) hs hT h
  · cases ha : allCh xs <;> cases hv : validD s.data.toList
    · exact back_ni A c xs s w hI hx (by omega) (by omega) hT ha hv
    · exact back_nv A c xs s w hI hx (by omega) (by omega) hT ha hv
    · exact back_ai A c xs s w hI hx (by omega) (by omega) hT ha hv
    · exact back_av A c xs s w hI hx (by omega) (by omega) hT ha hv
end Go.Proofs.YtbfldnppfenbgaaDoor
