/-
  Contracts of the reference's List, Valid, Len, At. Conditions: a string of at most 10^12 bytes.
  Contracts of the reference's bytes, Text, Cut and of copyistkit's Own at ints. Conditions: sizes as stated.
-/
import Derived.Test.YtmlmnbcnfalaaaaDoorRefPoint
import Derived.Test.YtmlmnbcnfalaaaaDoorL6
namespace Go.Proofs.YtmlmnbcnfalaaaaDoor
open Go.RowKit Go.Lib
set_option maxRecDepth 100000

def strSize : Value → Nat | .string t => t.size | _ => 0
theorem ext_data (t : ByteArray) (k : Nat) : (t.extract k t.size).data.toList = t.data.toList.drop k := Lib.ext_list t k

set_option maxHeartbeats 2000000 in
theorem ref_list_yes (s : ByteArray) (w : World) (hs : s.size ≤ 1000000000000) (hv : validD s.data.toList = true) :
    Calls Tryd.prog 21 #[.string s] w fun e w' => ∃ v, e = .returned (.tuple #[v, .int .i64 0]) ∧ w'.ownsRow w.heap.size 3 1 v (runes s.data.toList).length ((runes s.data.toList).map (Value.int .i64)) ∧ Below w.heap.size w w' := by
  obtain ⟨i0, hi, hz0, hz1, hz2⟩ := info_parts info_int
  have HV := Lib.hid hv
  clear hv
  go_enter Tryd.func21, Tryd.ntmps21
  go_wp2
  go_loopw [0, 4] (fun sv ov wr => ∃ (t : ByteArray) (acc : List Int), sv = .string t ∧ acc.length + t.size ≤ s.size ∧ wr.ownsRow w.heap.size 3 1 ov acc.length (acc.map (Value.int .i64)) ∧ Below w.heap.size w wr ∧ Hid (acc ++ runes t.data.toList = runes s.data.toList ∧ validD t.data.toList = true)) (fun sv _ _ => strSize sv)
  case atStart => exact ⟨s, [], rfl, by simp, World.ownsRow_nil _ _ _ _, Below.refl _ _, ⟨by simp, HV.out⟩⟩
  case round =>
    obtain ⟨t, acc, rfl, hlen, hown, hbw, HI⟩ := hrel
    by_cases h0 : 0 < t.size
    · have h0z : (0 : Int) < (t.size : Int) := by omega
      have P := Lib.hid (fun w' => point_any t w' (by omega) h0)
      have hne : t.data.toList ≠ [] := by
        intro e
        have hq : t.data.toList.length = t.size := by simp
        rw [e] at hq
        simp only [List.length_nil] at hq
        omega
      by_cases hb : (decodeL t.data.toList).1 = 65533 ∧ (decodeL t.data.toList).2 = 1
      · have hp : ptOf t.data.toList = (0, 0) := by unfold ptOf; rw [if_pos hb]
        have hvf : validD t.data.toList = false := by rw [validD_step _ hne, if_pos hb]
        unfold PtPost at P
        rw [hp] at P
        exfalso
        rw [HI.out.2] at hvf
        cases hvf
      · have hp : ptOf t.data.toList = decodeL t.data.toList := by unfold ptOf; rw [if_neg hb]
        have hst := validD_step _ hne
        rw [if_neg hb] at hst
        have hru := runes_step _ hne
        have hwd := decodeL_width t.data.toList
        have hle := decodeL_le _ hne
        have hrn := decodeL_rune t.data.toList
        have htl : t.data.toList.length = t.size := by simp
        rw [htl] at hle
        rw [← ext_data] at hst hru
        unfold PtPost at P
        rw [hp] at P
        have hsz : (t.extract (decodeL t.data.toList).2 t.size).size = t.size - (decodeL t.data.toList).2 := Lib.ext_size t _
        generalize (decodeL t.data.toList).2 = n at *
        generalize (decodeL t.data.toList).1 = c at *
        have hnz : ((n : Int) == 0) = false := beq_eq_false_iff_ne.2 (by omega)
        have HX := Lib.hid (And.intro hst (And.intro hru hsz))
        have OB := Lib.hid (And.intro hown hbw)
        have hB := hbw.size
        clear hst hru hsz hb hp hne htl hown hbw
        go_wp2_with (go_at_call 40; refine (P.out _).mono ?_; rintro e w1 ⟨rfl, q, rfl⟩; refine Hid.out ?_)
        refine Lib.hid ?_
        have hown2 : (wr.drewN q).ownsRow w.heap.size 3 1 _ acc.length (acc.map (Value.int .i64)) := OB.out.1
        have hbw2 : Below w.heap.size w (wr.drewN q) := below_drewN OB.out.2 q
        have hB2 : w.heap.size ≤ (wr.drewN q).heap.size := hB
        generalize wr.drewN q = W1 at *
        clear OB
        go_wp2_with (at_builtin; (refine wpList_append_own _ rfl _ _ 40 rfl w.heap.size 3 i0 (.int .i64 0) 1 8 Tryd.underlying40 hi hz0 hz1 hz2 rfl (by decide) _ _ _ rfl (hown2.alloc _) ⟨W1.heap.size, 0, none⟩ 1 1 [.int .i64 (c : Int)] rfl rfl (cell_one_new _ _ _) (fun x hx => by simp at hx; subst hx; rfl) (by simp only [List.length_map, maxLen]; omega) (by omega) (by simp; omega) ?_); intro v' w3 hown' hgrow3 hnil3)
        have hbw3 : Below w.heap.size w w3 := Below.grown (hbw2.alloc (by omega) _) hgrow3 (by simp; omega) (fun j hj => (hown2.lt _ hj).1)
        have hown3 : w3.ownsRow w.heap.size 3 1 v' (acc ++ [(c : Int)]).length ((acc ++ [(c : Int)]).map (Value.int .i64)) := by
          simpa using hown'
        have H3 := Lib.hid (And.intro hbw3 hown3)
        clear hown' hgrow3 hnil3 hbw3 hown3 hown2 hbw2
        go_wp2
        go_roundw
        case rel =>
          refine ⟨t.extract n t.size, acc ++ [(c : Int)], rfl, ?_, H3.out.2, H3.out.1, ?_⟩
          · rw [HX.out.2.2]; simp; omega
          · exact ⟨by rw [← HI.out.1, HX.out.2.1]; simp, by rw [← HX.out.1]; exact HI.out.2⟩
        case measure =>
          simp only [strSize]
          rw [HX.out.2.2]
          omega
    · have ht : t.data.toList = [] := by
        apply List.eq_nil_of_length_eq_zero
        have hq : t.data.toList.length = t.size := by simp
        omega
      have hfin : acc = runes s.data.toList := by have := HI.out.1; rw [ht, runes_nil, List.append_nil] at this; exact this
      have H3 := Lib.hid (And.intro hbw (And.intro hown hfin))
      clear hbw hown hfin HI ht
      go_wp2
      go_ret2
      obtain ⟨h1, h2, h3⟩ := H3.out
      subst h3
      exact ⟨_, rfl, h2, h1⟩

set_option maxHeartbeats 2000000 in
theorem ref_list_no (s : ByteArray) (w : World) (hs : s.size ≤ 1000000000000) (hv : validD s.data.toList = false) :
    Calls Tryd.prog 21 #[.string s] w fun e w' => e = .returned (.tuple #[.slice none 0 0, .int .i64 5]) ∧ Below w.heap.size w w' := by
  obtain ⟨i0, hi, hz0, hz1, hz2⟩ := info_parts info_int
  have HV := Lib.hid hv
  clear hv
  go_enter Tryd.func21, Tryd.ntmps21
  go_wp2
  go_loopw [0, 4] (fun sv ov wr => ∃ (t : ByteArray) (acc : List Int), sv = .string t ∧ acc.length + t.size ≤ s.size ∧ wr.ownsRow w.heap.size 3 1 ov acc.length (acc.map (Value.int .i64)) ∧ Below w.heap.size w wr ∧ Hid (validD t.data.toList = false)) (fun sv _ _ => strSize sv)
  case atStart => exact ⟨s, [], rfl, by simp, World.ownsRow_nil _ _ _ _, Below.refl _ _, HV.out⟩
  case round =>
    obtain ⟨t, acc, rfl, hlen, hown, hbw, HI⟩ := hrel
    by_cases h0 : 0 < t.size
    · have h0z : (0 : Int) < (t.size : Int) := by omega
      have P := Lib.hid (fun w' => point_any t w' (by omega) h0)
      have hne : t.data.toList ≠ [] := by
        intro e
        have hq : t.data.toList.length = t.size := by simp
        rw [e] at hq
        simp only [List.length_nil] at hq
        omega
      by_cases hb : (decodeL t.data.toList).1 = 65533 ∧ (decodeL t.data.toList).2 = 1
      · have hp : ptOf t.data.toList = (0, 0) := by unfold ptOf; rw [if_pos hb]
        have hvf : validD t.data.toList = false := by rw [validD_step _ hne, if_pos hb]
        unfold PtPost at P
        rw [hp] at P
        have OB := Lib.hid hbw
        clear hbw hown hb hp hvf hne
        go_wp2_with (go_at_call 40; refine (P.out _).mono ?_; rintro e w' ⟨rfl, q, rfl⟩)
        go_ret2
        exact ⟨rfl, below_drewN OB.out _⟩
      · have hp : ptOf t.data.toList = decodeL t.data.toList := by unfold ptOf; rw [if_neg hb]
        have hst := validD_step _ hne
        rw [if_neg hb] at hst
        have hru := runes_step _ hne
        have hwd := decodeL_width t.data.toList
        have hle := decodeL_le _ hne
        have hrn := decodeL_rune t.data.toList
        have htl : t.data.toList.length = t.size := by simp
        rw [htl] at hle
        rw [← ext_data] at hst hru
        unfold PtPost at P
        rw [hp] at P
        have hsz : (t.extract (decodeL t.data.toList).2 t.size).size = t.size - (decodeL t.data.toList).2 := Lib.ext_size t _
        generalize (decodeL t.data.toList).2 = n at *
        generalize (decodeL t.data.toList).1 = c at *
        have hnz : ((n : Int) == 0) = false := beq_eq_false_iff_ne.2 (by omega)
        have HX := Lib.hid (And.intro hst (And.intro hru hsz))
        have OB := Lib.hid (And.intro hown hbw)
        have hB := hbw.size
        clear hst hru hsz hb hp hne htl hown hbw
        go_wp2_with (go_at_call 40; refine (P.out _).mono ?_; rintro e w1 ⟨rfl, q, rfl⟩; refine Hid.out ?_)
        refine Lib.hid ?_
        have hown2 : (wr.drewN q).ownsRow w.heap.size 3 1 _ acc.length (acc.map (Value.int .i64)) := OB.out.1
        have hbw2 : Below w.heap.size w (wr.drewN q) := below_drewN OB.out.2 q
        have hB2 : w.heap.size ≤ (wr.drewN q).heap.size := hB
        generalize wr.drewN q = W1 at *
        clear OB
        go_wp2_with (at_builtin; (refine wpList_append_own _ rfl _ _ 40 rfl w.heap.size 3 i0 (.int .i64 0) 1 8 Tryd.underlying40 hi hz0 hz1 hz2 rfl (by decide) _ _ _ rfl (hown2.alloc _) ⟨W1.heap.size, 0, none⟩ 1 1 [.int .i64 (c : Int)] rfl rfl (cell_one_new _ _ _) (fun x hx => by simp at hx; subst hx; rfl) (by simp only [List.length_map, maxLen]; omega) (by omega) (by simp; omega) ?_); intro v' w3 hown' hgrow3 hnil3)
        have hbw3 : Below w.heap.size w w3 := Below.grown (hbw2.alloc (by omega) _) hgrow3 (by simp; omega) (fun j hj => (hown2.lt _ hj).1)
        have hown3 : w3.ownsRow w.heap.size 3 1 v' (acc ++ [(c : Int)]).length ((acc ++ [(c : Int)]).map (Value.int .i64)) := by
          simpa using hown'
        have H3 := Lib.hid (And.intro hbw3 hown3)
        clear hown' hgrow3 hnil3 hbw3 hown3 hown2 hbw2
        go_wp2
        go_roundw
        case rel =>
          refine ⟨t.extract n t.size, acc ++ [(c : Int)], rfl, ?_, H3.out.2, H3.out.1, ?_⟩
          · rw [HX.out.2.2]; simp; omega
          · exact (HX.out.1.symm.trans HI.out)
        case measure =>
          simp only [strSize]
          rw [HX.out.2.2]
          omega
    · exfalso
      have ht : t.data.toList = [] := by
        apply List.eq_nil_of_length_eq_zero
        have hq : t.data.toList.length = t.size := by simp
        omega
      have := HI.out
      rw [ht] at this
      cases this

theorem ref_valid (s : ByteArray) (w : World) (hs : s.size ≤ 1000000000000) : Calls Tryd.prog 12 #[.string s] w fun e w' => e = .returned (.bool (validD s.data.toList)) ∧ Below w.heap.size w w' := by
 cases hv : validD s.data.toList with
 | true =>
  have C := Lib.hid (ref_list_yes s w hs hv)
  clear hv
  go_enter Tryd.func12, Tryd.ntmps12
  go_wp2_with (go_at_call 21; refine C.out.mono ?_; rintro e w1 ⟨v, rfl, _, hb⟩)
  go_ret
  exact ⟨rfl, hb⟩
 | false =>
  have C := Lib.hid (ref_list_no s w hs hv)
  clear hv
  go_enter Tryd.func12, Tryd.ntmps12
  go_wp2_with (go_at_call 21; refine C.out.mono ?_; rintro e w1 ⟨rfl, hb⟩)
  go_ret
  exact ⟨rfl, hb⟩
theorem ref_len (s : ByteArray) (w : World) (hs : s.size ≤ 1000000000000) : Calls Tryd.prog 15 #[.string s] w fun e w' => e = .returned (.int .i64 (lenOf s.data.toList)) ∧ Below w.heap.size w w' := by
 cases hv : validD s.data.toList with
 | true =>
  have C := Lib.hid (ref_list_yes s w hs hv)
  rw [lenOf_yes hv]
  generalize runes s.data.toList = xs at C ⊢
  clear hv
  go_enter Tryd.func15, Tryd.ntmps15
  go_wp2_with (go_at_call 21; refine C.out.mono ?_; rintro e w1 ⟨v, rfl, hown, hb⟩; refine Hid.out ?_)
  refine Lib.hid ?_
  obtain ⟨A, c, hvv, _⟩ := Ints.own hown
  rw [hvv]
  clear hvv hown
  go_wp2
  go_ret
  exact ⟨rfl, hb⟩
 | false =>
  have C := Lib.hid (ref_list_no s w hs hv)
  rw [lenOf_no hv]
  clear hv
  go_enter Tryd.func15, Tryd.ntmps15
  go_wp2_with (go_at_call 21; refine C.out.mono ?_; rintro e w1 ⟨rfl, hb⟩)
  go_ret
  exact ⟨rfl, hb⟩
end Go.Proofs.YtmlmnbcnfalaaaaDoor
namespace Go.Proofs.YtmlmnbcnfalaaaaDoor
open Go.RowKit Go.Lib
set_option maxRecDepth 100000

theorem owns_full (w : World) (base : Nat) (e : TypeId) (cs : List Value) (hb : base ≤ w.heap.size) (hm : cs.length ≤ 9223372036854775807) :
    (w.alloc (.cells cs.toArray e)).ownsRow base e 1 (.slice (some ⟨w.heap.size, 0, none⟩) cs.length cs.length) cs.length cs :=
  ⟨by simp, .inr ⟨w.heap.size, cs.length, cs.toArray, rfl, hb, heap_alloc_new w _, Nat.le_refl _, by simpa [maxLen] using hm, by simp, by simp⟩⟩
theorem ref_bytes (c : Int) (w : World) (hc : chB c = true) : Calls Tryd.prog 43 #[.int .i64 c] w fun e w' => e = .returned (.slice (some ⟨w.heap.size, 0, none⟩) (runeCells c).length (runeCells c).length) ∧ w.alloc (.cells (runeCells c).toArray 5) = w' := by
 obtain ⟨h0, h1, h2⟩ := chB_iff.1 hc
 clear hc
 by_cases a : c < 128
 ·have E := Lib.hid (encodeRuneZ_one h0 (show c ≤ 127 by omega))
  go_enter Tryd.func43, Tryd.ntmps43
  go_wp2
  go_ret
  unfold runeCells
  rw [E.out]
  exact ⟨rfl, rfl⟩
 ·by_cases b : c < 2048
  ·have E := Lib.hid (encodeRuneZ_two (show 128 ≤ c by omega) (show c ≤ 2047 by omega))
   go_enter Tryd.func43, Tryd.ntmps43
   go_wp2
   go_ret
   unfold runeCells
   rw [E.out]
   exact ⟨rfl, rfl⟩
  ·by_cases d : c < 65536
   ·have E := Lib.hid (encodeRuneZ_three (r := c) (by omega))
    go_enter Tryd.func43, Tryd.ntmps43
    go_wp2
    go_ret
    unfold runeCells
    rw [E.out]
    exact ⟨rfl, rfl⟩
   ·have E := Lib.hid (encodeRuneZ_four (show 65536 ≤ c by omega) h1)
    go_enter Tryd.func43, Tryd.ntmps43
    go_wp2
    go_ret
    unfold runeCells
    rw [E.out]
    exact ⟨rfl, rfl⟩

/-! ### Cut -/
set_option maxHeartbeats 2000000 in
theorem ref_cut_yes (s : ByteArray) (a b : Nat) (w : World) (hs : s.size ≤ 100000) (hv : validD s.data.toList = true) (hab : a ≤ b) (hbn : b ≤ (runes s.data.toList).length) :
    Calls Tryd.prog 26 #[.string s, .int .i64 a, .int .i64 b] w fun e w' => ∃ t : ByteArray, e = .returned (.tuple #[.string t, .int .i64 0]) ∧ t.data.toList = cutOf s.data.toList a b ∧ Below w.heap.size w w' := by
  have C := Lib.hid (ref_list_yes s w (by omega) hv)
  have hl : (runes s.data.toList).length ≤ 100000 := by have h := runes_le s.data.toList; have h' : s.data.toList.length = s.size := by simp
                                                        omega
  have HCH := Lib.hid (valid_ch hv)
  unfold cutOf
  generalize runes s.data.toList = xs at C hl hbn HCH ⊢
  clear hv
  go_enter Tryd.func26, Tryd.ntmps26
  go_wp2_with (go_at_call 21; refine C.out.mono ?_; rintro e w1 ⟨v, rfl, hown, hb1⟩; refine Hid.out ?_)
  refine Lib.hid ?_
  have HI := Lib.hid (Ints.own hown)
  have HB1 := Lib.hid hb1
  clear C hown hb1
  obtain ⟨A, cc, hvv, _, _, hcell⟩ := HI.out
  rw [hvv]
  clear hvv HI
  have HCell := Lib.hid hcell
  clear hcell
  have d1 : decide ((a : Int) < 0) = false := decide_eq_false (by omega)
  have d2 : decide (b < a) = false := decide_eq_false (by omega)
  have d3 : decide (xs.length < b) = false := decide_eq_false (by omega)
  go_wp2
  go_loopw [10, 11] (fun ov i wr => ∃ (k : Nat) (t : ByteArray), a ≤ k ∧ k ≤ b ∧ i = .int .i64 k ∧ ov = .string t ∧ Below w1.heap.size w1 wr ∧ Hid (t.data.toList = encA ((xs.drop a).take (k - a)))) (fun _ i _ => b - (Lib.intOf i).toNat)
  case atStart => exact ⟨a, ⟨#[]⟩, Nat.le_refl _, hab, rfl, rfl, Below.refl _ _, by show _ = _; rw [Nat.sub_self, List.take_zero]; rfl⟩
  case round =>
    obtain ⟨k, t, hak, hkb, rfl, rfl, hbw, HT⟩ := hrel
    by_cases hlt : k < b
    · obtain ⟨bb, off, hA, hbl, hc⟩ := HCell.out (by omega)
      subst hA
      obtain ⟨x, hxk⟩ : ∃ x, xs[k]? = some x := ⟨_, List.getElem?_eq_getElem (by omega)⟩
      have hcx : wr.cell? ⟨bb, off + k, none⟩ = some (.int .i64 x) := (hbw.cell (p := ⟨bb, off + k, none⟩) hbl).trans (hc k x hxk)
      have hch : chB x = true := HCH.out x (List.mem_of_getElem? hxk)
      have BB := Lib.hid (fun w' => ref_bytes x w' hch)
      have hkz : (k : Int) < (xs.length : Int) := by omega
      have hkbz : (k : Int) < (b : Int) := by omega
      have hsn : Hid ((xs.drop a).take (k + 1 - a) = (xs.drop a).take (k - a) ++ [x]) := by
        show _ = _
        rw [show k + 1 - a = (k - a) + 1 by omega]
        refine take_snoc ?_
        rw [List.getElem?_drop, show a + (k - a) = k by omega]
        exact hxk
      have hB := hbw.size
      have hm4 := (runeCells_le x).2
      have hcv := run_string_own (l := encodeRune x) (wr.alloc (.cells (runeCells x).toArray 5)) 78 9 5 Tryd.underlying78 Tryd.underlying5 Tryd.underlying9 (base := 0) (v := .slice (some ⟨wr.heap.size, 0, none⟩) (runeCells x).length (runeCells x).length) (by
        have := owns_full wr 0 5 (runeCells x) (Nat.zero_le _) (by omega)
        rw [runeCells_eq, byteCells_length] at this ⊢
        exact this)
      have he4 := (enc_len x).2
      have ht4 : t.size ≤ 400000 := by
        have h1 : t.data.toList.length = t.size := by simp
        rw [HT.out] at h1
        have h2 := encA_len ((xs.drop a).take (k - a))
        have h3 : ((xs.drop a).take (k - a)).length ≤ k - a := List.length_take_le _ _
        omega
      generalize runeCells x = cs at BB hcv hm4
      have OB := Lib.hid hbw
      clear hc hxk hch hbw
      go_wp2_with (go_at_call 43; refine (BB.out _).mono ?_; rintro e w2 ⟨rfl, rfl⟩)
      go_roundw
      case rel =>
        refine ⟨k + 1, _, by omega, by omega, by go_num, rfl, OB.out.alloc hB _, ?_⟩
        show _ = _
        rw [hsn.out, encA_append, encA_cons, encA_nil, List.append_nil, join_list, HT.out]
      case measure => simp [Lib.intOf]; omega
    · have hkbz : ¬ (k : Int) < (b : Int) := by omega
      obtain rfl : k = b := by omega
      have OB := Lib.hid hbw
      clear hbw
      go_wp2
      go_ret2
      exact ⟨t, rfl, HT.out, HB1.out.trans (OB.out.mono HB1.out.size)⟩

end Go.Proofs.YtmlmnbcnfalaaaaDoor
