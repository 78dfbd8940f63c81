/-
  Contracts of the reference's List, Valid, Len, At. Conditions: a string of at most 10^12 bytes.
  Contracts of the reference's bytes, Text, Cut and of copyistkit's Own at ints. Conditions: sizes as stated.
-/
import Derived.Test.YthemeeiedlbhkaaDoorRefPoint
import Derived.Test.YthemeeiedlbhkaaDoorL6
namespace Go.Proofs.YthemeeiedlbhkaaDoor
open Go.RowKit Go.Lib
set_option maxRecDepth 100000

def strSize : Value → Nat | .string t => t.size | _ => 0
theorem ext_data (t : ByteArray) (k : Nat) : (t.extract k t.size).data.toList = t.data.toList.drop k := Lib.ext_list t k

set_option maxHeartbeats 2000000 in
theorem ref_list_no (s : ByteArray) (w : World) (hs : s.size ≤ 1000000000000) (hv : validD s.data.toList = false) :
    Calls Tryd.prog 43 #[.string s] w fun e w' => e = .returned (.tuple #[.slice none 0 0, .int .i64 5]) ∧ Below w.heap.size w w' := by
  obtain ⟨i0, hi, hz0, hz1, hz2⟩ := info_parts info_int
  have HV := Lib.hid hv
  clear hv
  go_enter Tryd.func43, Tryd.ntmps43
  go_wp2
  go_loopw [0, 4] (fun sv ov wr => ∃ (t : ByteArray) (acc : List Int), sv = .string t ∧ acc.length + t.size ≤ s.size ∧ wr.ownsRow w.heap.size 3 1 ov acc.length (acc.map (Value.int .i64)) ∧ Below w.heap.size w wr ∧ Hid (validD t.data.toList = false)) (fun sv _ _ => strSize sv)
  case atStart => exact ⟨s, [], rfl, by simp, World.ownsRow_nil _ _ _ _, Below.refl _ _, HV.out⟩
  case round =>
    obtain ⟨t, acc, rfl, hlen, hown, hbw, HI⟩ := hrel
    by_cases h0 : 0 < t.size
    · have h0z : (0 : Int) < (t.size : Int) := by omega
      have P := Lib.hid (fun w' => point_any t w' (by omega) h0)
      have hne : t.data.toList ≠ [] := by
        intro e
        have hq : t.data.toList.length = t.size := by simp
        rw [e] at hq
        simp only [List.length_nil] at hq
        omega
      by_cases hb : (decodeL t.data.toList).1 = 65533 ∧ (decodeL t.data.toList).2 = 1
      · have hp : ptOf t.data.toList = (0, 0) := by unfold ptOf; rw [if_pos hb]
        have hvf : validD t.data.toList = false := by rw [validD_step _ hne, if_pos hb]
        unfold PtPost at P
        rw [hp] at P
        have OB := Lib.hid hbw
        clear hbw hown hb hp hvf hne
        go_wp2_with (go_at_call 70; refine (P.out _).mono ?_; rintro e w' ⟨rfl, q, rfl⟩)
        go_ret2
        exact ⟨rfl, below_drewN OB.out _⟩
      · have hp : ptOf t.data.toList = decodeL t.data.toList := by unfold ptOf; rw [if_neg hb]
        have hst := validD_step _ hne
        rw [if_neg hb] at hst
        have hru := runes_step _ hne
        have hwd := decodeL_width t.data.toList
        have hle := decodeL_le _ hne
        have hrn := decodeL_rune t.data.toList
        have htl : t.data.toList.length = t.size := by simp
        rw [htl] at hle
        rw [← ext_data] at hst hru
        unfold PtPost at P
        rw [hp] at P
        have hsz : (t.extract (decodeL t.data.toList).2 t.size).size = t.size - (decodeL t.data.toList).2 := Lib.ext_size t _
        generalize (decodeL t.data.toList).2 = n at *
        generalize (decodeL t.data.toList).1 = c at *
        have hnz : ((n : Int) == 0) = false := beq_eq_false_iff_ne.2 (by omega)
        have HX := Lib.hid (And.intro hst (And.intro hru hsz))
        have OB := Lib.hid (And.intro hown hbw)
        have hB := hbw.size
        clear hst hru hsz hb hp hne htl hown hbw
        go_wp2_with (go_at_call 70; refine (P.out _).mono ?_; rintro e w1 ⟨rfl, q, rfl⟩; refine Hid.out ?_)
        refine Lib.hid ?_
        have hown2 : (wr.drewN q).ownsRow w.heap.size 3 1 _ acc.length (acc.map (Value.int .i64)) := OB.out.1
        have hbw2 : Below w.heap.size w (wr.drewN q) := below_drewN OB.out.2 q
        have hB2 : w.heap.size ≤ (wr.drewN q).heap.size := hB
        generalize wr.drewN q = W1 at *
        clear OB
        go_wp2_with (at_builtin; (refine wpList_append_own _ rfl _ _ 48 rfl w.heap.size 3 i0 (.int .i64 0) 1 8 Tryd.underlying48 hi hz0 hz1 hz2 rfl (by decide) _ _ _ rfl (hown2.alloc _) ⟨W1.heap.size, 0, none⟩ 1 1 [.int .i64 (c : Int)] rfl rfl (cell_one_new _ _ _) (fun x hx => by simp at hx; subst hx; rfl) (by simp only [List.length_map, maxLen]; omega) (by omega) (by simp; omega) ?_); intro v' w3 hown' hgrow3 hnil3)
        have hbw3 : Below w.heap.size w w3 := Below.grown (hbw2.alloc (by omega) _) hgrow3 (by simp; omega) (fun j hj => (hown2.lt _ hj).1)
        have hown3 : w3.ownsRow w.heap.size 3 1 v' (acc ++ [(c : Int)]).length ((acc ++ [(c : Int)]).map (Value.int .i64)) := by
          simpa using hown'
        have H3 := Lib.hid (And.intro hbw3 hown3)
        clear hown' hgrow3 hnil3 hbw3 hown3 hown2 hbw2
        go_wp2
        go_roundw
        case rel =>
          refine ⟨t.extract n t.size, acc ++ [(c : Int)], rfl, ?_, H3.out.2, H3.out.1, ?_⟩
          · rw [HX.out.2.2]; simp; omega
          · exact (HX.out.1.symm.trans HI.out)
        case measure =>
          simp only [strSize]
          rw [HX.out.2.2]
          omega
    · exfalso
      have ht : t.data.toList = [] := by
        apply List.eq_nil_of_length_eq_zero
        have hq : t.data.toList.length = t.size := by simp
        omega
      have := HI.out
      rw [ht] at this
      cases this

end Go.Proofs.YthemeeiedlbhkaaDoor
namespace Go.Proofs.YthemeeiedlbhkaaDoor
open Go.RowKit Go.Lib
set_option maxRecDepth 100000

theorem cells_new (w : World) (e : TypeId) (cs : List Value) : ∀ j u, cs[j]? = some u → (w.alloc (.cells cs.toArray e)).cell? ((⟨w.heap.size, 0, none⟩ : Addr).add j) = some u := by
 intro j u hj
 have hadd : (⟨w.heap.size, 0, none⟩ : Addr).add j = ⟨w.heap.size, j, none⟩ := by unfold Addr.add; split <;> simp_all
 rw [hadd, cell_of_row (w.alloc (.cells cs.toArray e)) w.heap.size j _ e (0, 0) (heap_alloc_new w _), List.getElem?_toArray]
 exact hj
theorem runeCells_one (c : Int) : ∀ u ∈ runeCells c, u.oneCell' = true := by
 intro u hu
 obtain ⟨x, _, rfl⟩ := List.mem_map.1 hu
 rfl

theorem ref_bytes (c : Int) (w : World) (hc : chB c = true) : Calls Tryd.prog 100 #[.int .i64 c] w fun e w' => e = .returned (.slice (some ⟨w.heap.size, 0, none⟩) (runeCells c).length (runeCells c).length) ∧ w.alloc (.cells (runeCells c).toArray 5) = w' := by
 obtain ⟨h0, h1, h2⟩ := chB_iff.1 hc
 clear hc
 by_cases a : c < 128
 ·have E := Lib.hid (encodeRuneZ_one h0 (show c ≤ 127 by omega))
  go_enter Tryd.func100, Tryd.ntmps100
  go_wp2
  go_ret
  unfold runeCells
  rw [E.out]
  exact ⟨rfl, rfl⟩
 ·by_cases b : c < 2048
  ·have E := Lib.hid (encodeRuneZ_two (show 128 ≤ c by omega) (show c ≤ 2047 by omega))
   go_enter Tryd.func100, Tryd.ntmps100
   go_wp2
   go_ret
   unfold runeCells
   rw [E.out]
   exact ⟨rfl, rfl⟩
  ·by_cases d : c < 65536
   ·have E := Lib.hid (encodeRuneZ_three (r := c) (by omega))
    go_enter Tryd.func100, Tryd.ntmps100
    go_wp2
    go_ret
    unfold runeCells
    rw [E.out]
    exact ⟨rfl, rfl⟩
   ·have E := Lib.hid (encodeRuneZ_four (show 65536 ≤ c by omega) h1)
    go_enter Tryd.func100, Tryd.ntmps100
    go_wp2
    go_ret
    unfold runeCells
    rw [E.out]
    exact ⟨rfl, rfl⟩

set_option maxHeartbeats 2000000 in
theorem ref_text_walk (b off c : Nat) (xs : List Int) (w : World) (h0 : 0 < xs.length) (hn : xs.length ≤ 65536) (hb : b < w.heap.size)
    (h1 : ∀ j x, xs[j]? = some x → w.cell? ⟨b, off + j, none⟩ = some (.int .i64 x)) :
    Calls Tryd.prog 71 #[.slice (some ⟨b, off, none⟩) xs.length c] w fun e w' => e = .returned (.tuple #[.string ⟨(textOf xs).toArray⟩, .int .i64 (textE xs)]) ∧ Below w.heap.size w w' := by
  obtain ⟨i0, hi, hz0, hz1, hz2⟩ := info_parts info_byte
  have H1 := Lib.hid h1
  clear h1
  go_enter Tryd.func71, Tryd.ntmps71
  go_wp2
  go_loopw [4, 5] (fun bv i wr => ∃ k : Nat, k ≤ xs.length ∧ i = .int .i64 k ∧ wr.ownsRow w.heap.size 5 1 bv (encA (xs.take k)).length (byteCells (encA (xs.take k))) ∧ Below w.heap.size w wr ∧ Hid (∀ x ∈ xs.take k, chB x = true)) (fun _ i _ => xs.length - (Lib.intOf i).toNat)
  case atStart => exact ⟨0, Nat.zero_le _, rfl, World.ownsRow_nil _ _ _ _, Below.refl _ _, by simp [Hid]⟩
  case round =>
    obtain ⟨k, hk, rfl, hown, hbw, HC⟩ := hrel
    by_cases hlt : k < xs.length
    · obtain ⟨x, hxk⟩ : ∃ x, xs[k]? = some x := ⟨_, List.getElem?_eq_getElem hlt⟩
      have hc : wr.cell? ⟨b, off + k, none⟩ = some (.int .i64 x) := (hbw.cell (p := ⟨b, off + k, none⟩) hb).trans (H1.out k x hxk)
      have HM := Lib.hid (List.mem_of_getElem? hxk)
      have hsn := Lib.hid (take_snoc hxk)
      have hkz : (k : Int) < (xs.length : Int) := by omega
      clear hxk
      cases hch : chB x with
      | true =>
        have I1 := Lib.hid (fun w' => ref_is x w')
        rw [hch] at I1
        have HCH := Lib.hid hch
        have BB := Lib.hid (fun w' => ref_bytes x w' hch)
        have hm4 := (runeCells_le x).2
        have hlen : (encA (xs.take k)).length ≤ 262144 := by
          have := encA_len (xs.take k)
          have h2 : (xs.take k).length ≤ k := List.length_take_le _ _
          omega
        have OC := Lib.hid (runeCells_one x)
        have hs2 := hbw.size
        have ER := Lib.hid (runeCells_eq x)
        generalize runeCells x = cs at BB hm4 OC ER
        clear hch
        go_wp2_with (first
          | (go_at_call 99; refine (I1.out _).mono ?_; rintro e w' ⟨rfl, rfl⟩)
          | (go_at_call 100; refine (BB.out _).mono ?_; rintro e w1 ⟨rfl, rfl⟩)
          | (at_builtin; refine wpList_append_own _ rfl _ _ 81 rfl w.heap.size 5 i0 (.int .u8 0) 1 1 Tryd.underlying81 hi hz0 hz1 hz2 rfl (by decide) _ _ _ rfl (hown.alloc _) ⟨wr.heap.size, 0, none⟩ cs.length cs.length cs rfl (Nat.mul_one _).symm (cells_new _ _ _) OC.out (by simp only [maxLen]; omega) (by omega) (by simp; omega) ?_; intro v' w3 hown' hgrow3 hnil3))
        have hbw3 : Below w.heap.size w w3 := Below.grown (hbw.alloc hs2 _) hgrow3 (by simp; omega) (fun j hj => (hown.lt _ hj).1)
        have e1 : byteCells (encA (xs.take k)) ++ byteCells (encodeRune x) = byteCells (encA (xs.take k) ++ encodeRune x) := by simp [byteCells]
        have e2 : encA (xs.take k) ++ encodeRune x = encA (xs.take (k + 1)) := by rw [hsn.out, encA_append, encA_cons, encA_nil, List.append_nil]
        rw [ER.out, e1, byteCells_length, ← List.length_append, e2] at hown'
        have OB2 := Lib.hid (And.intro hown' hbw3)
        clear hown' hbw3 e1 e2 hgrow3 hnil3 hown hbw hlen
        go_wp2
        go_roundw
        case rel =>
          refine ⟨k + 1, by omega, by go_num, OB2.out.1, OB2.out.2, ?_⟩
          show ∀ y ∈ _, _
          rw [hsn.out]
          intro y hy
          rcases List.mem_append.1 hy with hy | hy
          · exact HC.out y hy
          · rw [List.mem_singleton.1 hy]; exact HCH.out
        case measure => simp [Lib.intOf]; omega
      | false =>
        have I1 := Lib.hid (fun w' => ref_is x w')
        rw [hch] at I1
        have hall : allCh xs = false := by
          cases h : allCh xs with
          | false => rfl
          | true =>
            have := allCh_iff.1 h x HM.out
            rw [hch] at this
            cases this
        have HAll := Lib.hid hall
        have OB := Lib.hid hbw
        clear hch hall hbw hown
        go_wp2_with (go_at_call 99; refine (I1.out _).mono ?_; rintro e w' ⟨rfl, rfl⟩)
        go_ret2
        refine ⟨?_, OB.out⟩
        rw [(text_no HAll.out).1, (text_no HAll.out).2]
        rfl
    · have hkn : xs.take k = xs := List.take_of_length_le (by omega)
      have hall : allCh xs = true := by rw [allCh_iff]; have := HC.out; rwa [hkn] at this
      rw [hkn] at hown
      have hcv := run_string_own wr 81 9 5 Tryd.underlying81 Tryd.underlying5 Tryd.underlying9 hown
      have OB := Lib.hid hbw
      have HAll := Lib.hid hall
      clear hbw hown hkn hall
      go_wp2
      go_ret2
      refine ⟨?_, OB.out⟩
      rw [(text_yes HAll.out).1, (text_yes HAll.out).2]
      rfl
theorem ref_text_empty (A : Option Addr) (c : Nat) (w : World) :
    Calls Tryd.prog 71 #[.slice A 0 c] w fun e w' => e = .returned (.tuple #[.string ⟨#[]⟩, .int .i64 0]) ∧ w = w' := by
  have hcv : ∀ w', (convert 81 9 (.slice none 0 0)).run Tryd.prog w' = .ok (.string ⟨#[]⟩) w' := fun w' => run_string_own (l := []) w' 81 9 5 Tryd.underlying81 Tryd.underlying5 Tryd.underlying9 (World.ownsRow_nil w' w'.heap.size 5 1)
  go_enter Tryd.func71, Tryd.ntmps71
  go_wp2
  refine wp_loop_rounds 1 ?_
  rw [rounds_succ]
  go_wp2
  go_ret2
  exact ⟨rfl, rfl⟩
/-! ### Cut -/
end Go.Proofs.YthemeeiedlbhkaaDoor
