/-
  Contracts of the reference's List, Valid, Len, At. Conditions: a string of at most 10^12 bytes.
  Contracts of the reference's bytes, Text, Cut and of copyistkit's Own at ints. Conditions: sizes as stated.
-/
import Derived.Test.YtjcmdifpkafdkaaDoorRefPoint
import Derived.Test.YtjcmdifpkafdkaaDoorL6
namespace Go.Proofs.YtjcmdifpkafdkaaDoor
open Go.RowKit Go.Lib
set_option maxRecDepth 100000

def strSize : Value → Nat | .string t => t.size | _ => 0
theorem ext_data (t : ByteArray) (k : Nat) : (t.extract k t.size).data.toList = t.data.toList.drop k := Lib.ext_list t k

set_option maxHeartbeats 2000000 in
theorem ref_list_yes (s : ByteArray) (w : World) (hs : s.size ≤ 1000000000000) (hv : validD s.data.toList = true) :
    Calls Tryd.prog 89 #[.string s] w fun e w' => ∃ v, e = .returned (.tuple #[v, .int .i64 0]) ∧ w'.ownsRow w.heap.size 3 1 v (runes s.data.toList).length ((runes s.data.toList).map (Value.int .i64)) ∧ Below w.heap.size w w' := by
  obtain ⟨i0, hi, hz0, hz1, hz2⟩ := info_parts info_int
  have HV := Lib.hid hv
  clear hv
  go_enter Tryd.func89, Tryd.ntmps89
  go_wp2
  go_loopw [0, 4] (fun sv ov wr => ∃ (t : ByteArray) (acc : List Int), sv = .string t ∧ acc.length + t.size ≤ s.size ∧ wr.ownsRow w.heap.size 3 1 ov acc.length (acc.map (Value.int .i64)) ∧ Below w.heap.size w wr ∧ Hid (acc ++ runes t.data.toList = runes s.data.toList ∧ validD t.data.toList = true)) (fun sv _ _ => strSize sv)
  case atStart => exact ⟨s, [], rfl, by simp, World.ownsRow_nil _ _ _ _, Below.refl _ _, ⟨by simp, HV.out⟩⟩
  case round =>
    obtain ⟨t, acc, rfl, hlen, hown, hbw, HI⟩ := hrel
    by_cases h0 : 0 < t.size
    · have h0z : (0 : Int) < (t.size : Int) := by omega
      have P := Lib.hid (fun w' => point_any t w' (by omega) h0)
      have hne : t.data.toList ≠ [] := by
        intro e
        have hq : t.data.toList.length = t.size := by simp
        rw [e] at hq
        simp only [List.length_nil] at hq
        omega
      by_cases hb : (decodeL t.data.toList).1 = 65533 ∧ (decodeL t.data.toList).2 = 1
      · have hp : ptOf t.data.toList = (0, 0) := by unfold ptOf; rw [if_pos hb]
        have hvf : validD t.data.toList = false := by rw [validD_step _ hne, if_pos hb]
        unfold PtPost at P
        rw [hp] at P
        exfalso
        rw [HI.out.2] at hvf
        cases hvf
      · have hp : ptOf t.data.toList = decodeL t.data.toList := by unfold ptOf; rw [if_neg hb]
        have hst := validD_step _ hne
        rw [if_neg hb] at hst
        have hru := runes_step _ hne
        have hwd := decodeL_width t.data.toList
        have hle := decodeL_le _ hne
        have hrn := decodeL_rune t.data.toList
        have htl : t.data.toList.length = t.size := by simp
        rw [htl] at hle
        rw [← ext_data] at hst hru
        unfold PtPost at P
        rw [hp] at P
        have hsz : (t.extract (decodeL t.data.toList).2 t.size).size = t.size - (decodeL t.data.toList).2 := Lib.ext_size t _
        generalize (decodeL t.data.toList).2 = n at *
        generalize (decodeL t.data.toList).1 = c at *
        have hnz : ((n : Int) == 0) = false := beq_eq_false_iff_ne.2 (by omega)
        have HX := Lib.hid (And.intro hst (And.intro hru hsz))
        have OB := Lib.hid (And.intro hown hbw)
        have hB := hbw.size
        clear hst hru hsz hb hp hne htl hown hbw
        go_wp2_with (go_at_call 105; refine (P.out _).mono ?_; rintro e w1 ⟨rfl, q, rfl⟩; refine Hid.out ?_)
        refine Lib.hid ?_
        have hown2 : (wr.drewN q).ownsRow w.heap.size 3 1 _ acc.length (acc.map (Value.int .i64)) := OB.out.1
        have hbw2 : Below w.heap.size w (wr.drewN q) := below_drewN OB.out.2 q
        have hB2 : w.heap.size ≤ (wr.drewN q).heap.size := hB
        generalize wr.drewN q = W1 at *
        clear OB
        go_wp2_with (at_builtin; (refine wpList_append_own _ rfl _ _ 59 rfl w.heap.size 3 i0 (.int .i64 0) 1 8 Tryd.underlying59 hi hz0 hz1 hz2 rfl (by decide) _ _ _ rfl (hown2.alloc _) ⟨W1.heap.size, 0, none⟩ 1 1 [.int .i64 (c : Int)] rfl rfl (cell_one_new _ _ _) (fun x hx => by simp at hx; subst hx; rfl) (by simp only [List.length_map, maxLen]; omega) (by omega) (by simp; omega) ?_); intro v' w3 hown' hgrow3 hnil3)
        have hbw3 : Below w.heap.size w w3 := Below.grown (hbw2.alloc (by omega) _) hgrow3 (by simp; omega) (fun j hj => (hown2.lt _ hj).1)
        have hown3 : w3.ownsRow w.heap.size 3 1 v' (acc ++ [(c : Int)]).length ((acc ++ [(c : Int)]).map (Value.int .i64)) := by
          simpa using hown'
        have H3 := Lib.hid (And.intro hbw3 hown3)
        clear hown' hgrow3 hnil3 hbw3 hown3 hown2 hbw2
        go_wp2
        go_roundw
        case rel =>
          refine ⟨t.extract n t.size, acc ++ [(c : Int)], rfl, ?_, H3.out.2, H3.out.1, ?_⟩
          · rw [HX.out.2.2]; simp; omega
          · exact ⟨by rw [← HI.out.1, HX.out.2.1]; simp, by rw [← HX.out.1]; exact HI.out.2⟩
        case measure =>
          simp only [strSize]
          rw [HX.out.2.2]
          omega
    · have ht : t.data.toList = [] := by
        apply List.eq_nil_of_length_eq_zero
        have hq : t.data.toList.length = t.size := by simp
        omega
      have hfin : acc = runes s.data.toList := by have := HI.out.1; rw [ht, runes_nil, List.append_nil] at this; exact this
      have H3 := Lib.hid (And.intro hbw (And.intro hown hfin))
      clear hbw hown hfin HI ht
      go_wp2
      go_ret2
      obtain ⟨h1, h2, h3⟩ := H3.out
      subst h3
      exact ⟨_, rfl, h2, h1⟩

set_option maxHeartbeats 2000000 in
theorem ref_list_no (s : ByteArray) (w : World) (hs : s.size ≤ 1000000000000) (hv : validD s.data.toList = false) :
    Calls Tryd.prog 89 #[.string s] w fun e w' => e = .returned (.tuple #[.slice none 0 0, .int .i64 5]) ∧ Below w.heap.size w w' := by
  obtain ⟨i0, hi, hz0, hz1, hz2⟩ := info_parts info_int
  have HV := Lib.hid hv
  clear hv
  go_enter Tryd.func89, Tryd.ntmps89
  go_wp2
  go_loopw [0, 4] (fun sv ov wr => ∃ (t : ByteArray) (acc : List Int), sv = .string t ∧ acc.length + t.size ≤ s.size ∧ wr.ownsRow w.heap.size 3 1 ov acc.length (acc.map (Value.int .i64)) ∧ Below w.heap.size w wr ∧ Hid (validD t.data.toList = false)) (fun sv _ _ => strSize sv)
  case atStart => exact ⟨s, [], rfl, by simp, World.ownsRow_nil _ _ _ _, Below.refl _ _, HV.out⟩
  case round =>
    obtain ⟨t, acc, rfl, hlen, hown, hbw, HI⟩ := hrel
    by_cases h0 : 0 < t.size
    · have h0z : (0 : Int) < (t.size : Int) := by omega
      have P := Lib.hid (fun w' => point_any t w' (by omega) h0)
      have hne : t.data.toList ≠ [] := by
        intro e
        have hq : t.data.toList.length = t.size := by simp
        rw [e] at hq
        simp only [List.length_nil] at hq
        omega
      by_cases hb : (decodeL t.data.toList).1 = 65533 ∧ (decodeL t.data.toList).2 = 1
      · have hp : ptOf t.data.toList = (0, 0) := by unfold ptOf; rw [if_pos hb]
        have hvf : validD t.data.toList = false := by rw [validD_step _ hne, if_pos hb]
        unfold PtPost at P
        rw [hp] at P
        have OB := Lib.hid hbw
        clear hbw hown hb hp hvf hne
        go_wp2_with (go_at_call 105; refine (P.out _).mono ?_; rintro e w' ⟨rfl, q, rfl⟩)
        go_ret2
        exact ⟨rfl, below_drewN OB.out _⟩
      · have hp : ptOf t.data.toList = decodeL t.data.toList := by unfold ptOf; rw [if_neg hb]
        have hst := validD_step _ hne
        rw [if_neg hb] at hst
        have hru := runes_step _ hne
        have hwd := decodeL_width t.data.toList
        have hle := decodeL_le _ hne
        have hrn := decodeL_rune t.data.toList
        have htl : t.data.toList.length = t.size := by simp
        rw [htl] at hle
        rw [← ext_data] at hst hru
        unfold PtPost at P
        rw [hp] at P
        have hsz : (t.extract (decodeL t.data.toList).2 t.size).size = t.size - (decodeL t.data.toList).2 := Lib.ext_size t _
        generalize (decodeL t.data.toList).2 = n at *
        generalize (decodeL t.data.toList).1 = c at *
        have hnz : ((n : Int) == 0) = false := beq_eq_false_iff_ne.2 (by omega)
        have HX := Lib.hid (And.intro hst (And.intro hru hsz))
        have OB := Lib.hid (And.intro hown hbw)
        have hB := hbw.size
        clear hst hru hsz hb hp hne htl hown hbw
        go_wp2_with (go_at_call 105; refine (P.out _).mono ?_; rintro e w1 ⟨rfl, q, rfl⟩; refine Hid.out ?_)
        refine Lib.hid ?_
        have hown2 : (wr.drewN q).ownsRow w.heap.size 3 1 _ acc.length (acc.map (Value.int .i64)) := OB.out.1
        have hbw2 : Below w.heap.size w (wr.drewN q) := below_drewN OB.out.2 q
        have hB2 : w.heap.size ≤ (wr.drewN q).heap.size := hB
        generalize wr.drewN q = W1 at *
        clear OB
        go_wp2_with (at_builtin; (refine wpList_append_own _ rfl _ _ 59 rfl w.heap.size 3 i0 (.int .i64 0) 1 8 Tryd.underlying59 hi hz0 hz1 hz2 rfl (by decide) _ _ _ rfl (hown2.alloc _) ⟨W1.heap.size, 0, none⟩ 1 1 [.int .i64 (c : Int)] rfl rfl (cell_one_new _ _ _) (fun x hx => by simp at hx; subst hx; rfl) (by simp only [List.length_map, maxLen]; omega) (by omega) (by simp; omega) ?_); intro v' w3 hown' hgrow3 hnil3)
        have hbw3 : Below w.heap.size w w3 := Below.grown (hbw2.alloc (by omega) _) hgrow3 (by simp; omega) (fun j hj => (hown2.lt _ hj).1)
        have hown3 : w3.ownsRow w.heap.size 3 1 v' (acc ++ [(c : Int)]).length ((acc ++ [(c : Int)]).map (Value.int .i64)) := by
          simpa using hown'
        have H3 := Lib.hid (And.intro hbw3 hown3)
        clear hown' hgrow3 hnil3 hbw3 hown3 hown2 hbw2
        go_wp2
        go_roundw
        case rel =>
          refine ⟨t.extract n t.size, acc ++ [(c : Int)], rfl, ?_, H3.out.2, H3.out.1, ?_⟩
          · rw [HX.out.2.2]; simp; omega
          · exact (HX.out.1.symm.trans HI.out)
        case measure =>
          simp only [strSize]
          rw [HX.out.2.2]
          omega
    · exfalso
      have ht : t.data.toList = [] := by
        apply List.eq_nil_of_length_eq_zero
        have hq : t.data.toList.length = t.size := by simp
        omega
      have := HI.out
      rw [ht] at this
      cases this

theorem ref_valid (s : ByteArray) (w : World) (hs : s.size ≤ 1000000000000) : Calls Tryd.prog 54 #[.string s] w fun e w' => e = .returned (.bool (validD s.data.toList)) ∧ Below w.heap.size w w' := by
 cases hv : validD s.data.toList with
 | true =>
  have C := Lib.hid (ref_list_yes s w hs hv)
  clear hv
  go_enter Tryd.func54, Tryd.ntmps54
  go_wp2_with (go_at_call 89; refine C.out.mono ?_; rintro e w1 ⟨v, rfl, _, hb⟩)
  go_ret
  exact ⟨rfl, hb⟩
 | false =>
  have C := Lib.hid (ref_list_no s w hs hv)
  clear hv
  go_enter Tryd.func54, Tryd.ntmps54
  go_wp2_with (go_at_call 89; refine C.out.mono ?_; rintro e w1 ⟨rfl, hb⟩)
  go_ret
  exact ⟨rfl, hb⟩
end Go.Proofs.YtjcmdifpkafdkaaDoor
namespace Go.Proofs.YtjcmdifpkafdkaaDoor
open Go.RowKit Go.Lib
set_option maxRecDepth 100000

/-! ### Cut -/
end Go.Proofs.YtjcmdifpkafdkaaDoor
