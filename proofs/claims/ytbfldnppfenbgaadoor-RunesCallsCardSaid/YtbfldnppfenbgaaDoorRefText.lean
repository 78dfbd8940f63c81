/-
  Contracts of the reference's bytes, Text, Cut and of copyistkit's Own at ints. Conditions: sizes as stated.
-/
import Derived.Test.YtbfldnppfenbgaaDoorRefList
import Derived.Test.YtbfldnppfenbgaaDoorKit
import Derived.Test.YtbfldnppfenbgaaDoorCuts
namespace Go.Proofs.YtbfldnppfenbgaaDoor
open Go.RowKit Go.Lib
set_option maxRecDepth 100000

theorem owns_full (w : World) (base : Nat) (e : TypeId) (cs : List Value) (hb : base ≤ w.heap.size) (hm : cs.length ≤ 9223372036854775807) :
    (w.alloc (.cells cs.toArray e)).ownsRow base e 1 (.slice (some ⟨w.heap.size, 0, none⟩) cs.length cs.length) cs.length cs :=
  ⟨by simp, .inr ⟨w.heap.size, cs.length, cs.toArray, rfl, hb, heap_alloc_new w _, Nat.le_refl _, by simpa [maxLen] using hm, by simp, by simp⟩⟩
theorem cells_new (w : World) (e : TypeId) (cs : List Value) : ∀ j u, cs[j]? = some u → (w.alloc (.cells cs.toArray e)).cell? ((⟨w.heap.size, 0, none⟩ : Addr).add j) = some u := by
  intro j u hj
  have hadd : (⟨w.heap.size, 0, none⟩ : Addr).add j = ⟨w.heap.size, j, none⟩ := by unfold Addr.add; split <;> simp_all
  rw [hadd, cell_of_row (w.alloc (.cells cs.toArray e)) w.heap.size j _ e (0, 0) (heap_alloc_new w _), List.getElem?_toArray]
  exact hj
theorem runeCells_one (c : Int) : ∀ u ∈ runeCells c, u.oneCell' = true := by
  intro u hu
  obtain ⟨x, _, rfl⟩ := List.mem_map.1 hu
  rfl

/-- bytes, of a character. -/
theorem ref_bytes (c : Int) (w : World) (hc : chB c = true) : Calls Tryd.prog 45 #[.int .i64 c] w fun e w' => e = .returned (.slice (some ⟨w.heap.size, 0, none⟩) (runeCells c).length (runeCells c).length) ∧ w.alloc (.cells (runeCells c).toArray 5) = w' := by
  obtain ⟨h0, h1, h2⟩ := chB_iff.1 hc
  clear hc
  by_cases a : c < 128
  · have E := Lib.hid (encodeRuneZ_one h0 (show c ≤ 127 by omega))
    go_enter Tryd.func45, Tryd.ntmps45
    go_wp2
    go_ret
    unfold runeCells
    rw [E.out]
    exact ⟨rfl, rfl⟩
  · by_cases b : c < 2048
    · have E := Lib.hid (encodeRuneZ_two (show 128 ≤ c by omega) (show c ≤ 2047 by omega))
      go_enter Tryd.func45, Tryd.ntmps45
      go_wp2
      go_ret
      unfold runeCells
      rw [E.out]
      exact ⟨rfl, rfl⟩
    · by_cases d : c < 65536
      · have E := Lib.hid (encodeRuneZ_three (r := c) (by omega))
        go_enter Tryd.func45, Tryd.ntmps45
        go_wp2
        go_ret
        unfold runeCells
        rw [E.out]
        exact ⟨rfl, rfl⟩
      · have E := Lib.hid (encodeRuneZ_four (show 65536 ≤ c by omega) h1)
        go_enter Tryd.func45, Tryd.ntmps45
        go_wp2
        go_ret
        unfold runeCells
        rw [E.out]
        exact ⟨rfl, rfl⟩

set_option maxHeartbeats 2000000 in
theorem ref_text_walk (b off c : Nat) (xs : List Int) (w : World) (h0 : 0 < xs.length) (hn : xs.length ≤ 65536) (hb : b < w.heap.size)
    (h1 : ∀ j x, xs[j]? = some x → w.cell? ⟨b, off + j, none⟩ = some (.int .i64 x)) :
    Calls Tryd.prog 35 #[.slice (some ⟨b, off, none⟩) xs.length c] w fun e w' => e = .returned (.tuple #[.string ⟨(textOf xs).toArray⟩, .int .i64 (textE xs)]) ∧ Below w.heap.size w w' := by
  obtain ⟨i0, hi, hz0, hz1, hz2⟩ := info_parts info_byte
  have H1 := Lib.hid h1
  clear h1
  go_enter Tryd.func35, Tryd.ntmps35
  go_wp2
  go_loopw [4, 5] (fun bv i wr => ∃ k : Nat, k ≤ xs.length ∧ i = .int .i64 k ∧ wr.ownsRow w.heap.size 5 1 bv (encA (xs.take k)).length (byteCells (encA (xs.take k))) ∧ Below w.heap.size w wr ∧ Hid (∀ x ∈ xs.take k, chB x = true)) (fun _ i _ => xs.length - (intOf i).toNat)
  case atStart => exact ⟨0, Nat.zero_le _, rfl, World.ownsRow_nil _ _ _ _, Below.refl _ _, by simp [Hid]⟩
  case round =>
    obtain ⟨k, hk, rfl, hown, hbw, HC⟩ := hrel
    by_cases hlt : k < xs.length
    · obtain ⟨x, hxk⟩ : ∃ x, xs[k]? = some x := ⟨_, List.getElem?_eq_getElem hlt⟩
      have hc : wr.cell? ⟨b, off + k, none⟩ = some (.int .i64 x) := (hbw.cell (p := ⟨b, off + k, none⟩) hb).trans (H1.out k x hxk)
      have HM := Lib.hid (List.mem_of_getElem? hxk)
      have hsn := Lib.hid (take_snoc hxk)
      have hkz : (k : Int) < (xs.length : Int) := by omega
      clear hxk
      cases hch : chB x with
      | true =>
        have I1 := Lib.hid (fun w' => ref_is x w')
        rw [hch] at I1
        have HCH := Lib.hid hch
        have BB := Lib.hid (fun w' => ref_bytes x w' hch)
        have hm4 := (runeCells_le x).2
        have hlen : (encA (xs.take k)).length ≤ 262144 := by
          have := encA_len (xs.take k)
          have h2 : (xs.take k).length ≤ k := List.length_take_le _ _
          omega
        have OC := Lib.hid (runeCells_one x)
        have hs2 := hbw.size
        have ER := Lib.hid (runeCells_eq x)
        generalize runeCells x = cs at BB hm4 OC ER
        clear hch
        go_wp2_with (first
          | (go_at_call 20; refine (I1.out _).mono ?_; rintro e w' ⟨rfl, rfl⟩)
          | (go_at_call 45; refine (BB.out _).mono ?_; rintro e w1 ⟨rfl, rfl⟩)
          | (at_builtin; refine wpList_append_own _ rfl _ _ 43 rfl w.heap.size 5 i0 (.int .u8 0) 1 1 Tryd.underlying43 hi hz0 hz1 hz2 rfl (by decide) _ _ _ rfl (hown.alloc _) ⟨wr.heap.size, 0, none⟩ cs.length cs.length cs rfl (Nat.mul_one _).symm (cells_new _ _ _) OC.out (by simp only [maxLen]; omega) (by omega) (by simp; omega) ?_; intro v' w3 hown' hgrow3 hnil3))
        have hbw3 : Below w.heap.size w w3 := Below.grown (hbw.alloc hs2 _) hgrow3 (by simp; omega) (fun j hj => (hown.lt _ hj).1)
        have e1 : byteCells (encA (xs.take k)) ++ byteCells (encodeRune x) = byteCells (encA (xs.take k) ++ encodeRune x) := by simp [byteCells]
        have e2 : encA (xs.take k) ++ encodeRune x = encA (xs.take (k + 1)) := by rw [hsn.out, encA_append, encA_cons, encA_nil, List.append_nil]
        rw [ER.out, e1, byteCells_length, ← List.length_append, e2] at hown'
        have OB2 := Lib.hid (And.intro hown' hbw3)
        clear hown' hbw3 e1 e2 hgrow3 hnil3 hown hbw hlen
        go_wp2
        go_roundw
        case rel =>
          refine ⟨k + 1, by omega, by go_num, OB2.out.1, OB2.out.2, ?_⟩
          show ∀ y ∈ _, _
          rw [hsn.out]
          intro y hy
          rcases List.mem_append.1 hy with hy | hy
          · exact HC.out y hy
          · rw [List.mem_singleton.1 hy]; exact HCH.out
        case measure => simp [intOf]; omega
      | false =>
        have I1 := Lib.hid (fun w' => ref_is x w')
        rw [hch] at I1
        have hall : allCh xs = false := by
          cases h : allCh xs with
          | false => rfl
          | true =>
            have := allCh_iff.1 h x HM.out
            rw [hch] at this
            cases this
        have HAll := Lib.hid hall
        have OB := Lib.hid hbw
        clear hch hall hbw hown
        go_wp2_with (go_at_call 20; refine (I1.out _).mono ?_; rintro e w' ⟨rfl, rfl⟩)
        go_ret2
        refine ⟨?_, OB.out⟩
        rw [(text_no HAll.out).1, (text_no HAll.out).2]
        rfl
    · have hkn : xs.take k = xs := List.take_of_length_le (by omega)
      have hall : allCh xs = true := by rw [allCh_iff]; have := HC.out; rwa [hkn] at this
      rw [hkn] at hown
      have hcv := run_string_own wr 43 9 5 Tryd.underlying43 Tryd.underlying5 Tryd.underlying9 hown
      have OB := Lib.hid hbw
      have HAll := Lib.hid hall
      clear hbw hown hkn hall
      go_wp2
      go_ret2
      refine ⟨?_, OB.out⟩
      rw [(text_yes HAll.out).1, (text_yes HAll.out).2]
      rfl
theorem ref_text_empty (A : Option Addr) (c : Nat) (w : World) :
    Calls Tryd.prog 35 #[.slice A 0 c] w fun e w' => e = .returned (.tuple #[.string ⟨#[]⟩, .int .i64 0]) ∧ w = w' := by
  have hcv : ∀ w', (convert 43 9 (.slice none 0 0)).run Tryd.prog w' = .ok (.string ⟨#[]⟩) w' := fun w' => run_string_own (l := []) w' 43 9 5 Tryd.underlying43 Tryd.underlying5 Tryd.underlying9 (World.ownsRow_nil w' w'.heap.size 5 1)
  go_enter Tryd.func35, Tryd.ntmps35
  go_wp2
  refine wp_loop_rounds 1 ?_
  rw [rounds_succ]
  go_wp2
  go_ret2
  exact ⟨rfl, rfl⟩
theorem ref_text (B : Nat) (v : Value) (xs : List Int) (w : World) (h : Ints w B v xs) (hB : B ≤ w.heap.size) (hn : xs.length ≤ 65536) :
    Calls Tryd.prog 35 #[v] w fun e w' => e = .returned (.tuple #[.string ⟨(textOf xs).toArray⟩, .int .i64 (textE xs)]) ∧ Below w.heap.size w w' := by
  obtain ⟨A, c, rfl, hc1, hm1, ha⟩ := h
  by_cases h0 : 0 < xs.length
  · obtain ⟨b, off, rfl, hb, hc⟩ := ha h0
    exact ref_text_walk b off c xs w h0 hn (by omega) hc
  · have e1 : xs = [] := List.eq_nil_of_length_eq_zero (by omega)
    subst e1
    exact (ref_text_empty A c w).mono fun e w' ⟨he, hw⟩ => ⟨he, by rw [hw]; exact Below.refl _ _⟩

/-! ### Cut -/
theorem ref_cut_no (s : ByteArray) (a b : Int) (w : World) (hs : s.size ≤ 1000000000000) (hv : validD s.data.toList = false) :
    Calls Tryd.prog 32 #[.string s, .int .i64 a, .int .i64 b] w fun e w' => e = .returned (.tuple #[.string ⟨#[]⟩, .int .i64 5]) ∧ Below w.heap.size w w' := by
  have C := Lib.hid (ref_list_no s w hs hv)
  clear hv
  go_enter Tryd.func32, Tryd.ntmps32
  go_wp2_with (go_at_call 33; refine C.out.mono ?_; rintro e w1 ⟨rfl, hb1⟩)
  go_ret2
  exact ⟨rfl, hb1⟩
theorem ref_cut_range (s : ByteArray) (a b : Int) (w : World) (hs : s.size ≤ 1000000000000) (hv : validD s.data.toList = true) (h : a < 0 ∨ b < a ∨ (runes s.data.toList).length < b) :
    Calls Tryd.prog 32 #[.string s, .int .i64 a, .int .i64 b] w fun e w' => e = .returned (.tuple #[.string ⟨#[]⟩, .int .i64 3]) ∧ Below w.heap.size w w' := by
  have C := Lib.hid (ref_list_yes s w hs hv)
  have hl : (runes s.data.toList).length ≤ 1000000000000 := by have h := runes_le s.data.toList; have h' : s.data.toList.length = s.size := by simp
                                                               omega
  generalize runes s.data.toList = xs at C h hl
  clear hv
  by_cases h1 : a < 0
  · clear h
    go_enter Tryd.func32, Tryd.ntmps32
    go_wp2_with (go_at_call 33; refine C.out.mono ?_; rintro e w1 ⟨v, rfl, _, hb1⟩)
    go_ret2
    exact ⟨rfl, hb1⟩
  · by_cases h2 : b < a
    · clear h
      go_enter Tryd.func32, Tryd.ntmps32
      go_wp2_with (go_at_call 33; refine C.out.mono ?_; rintro e w1 ⟨v, rfl, _, hb1⟩)
      go_ret2
      exact ⟨rfl, hb1⟩
    · have h3 : (xs.length : Int) < b := by omega
      clear h
      go_enter Tryd.func32, Tryd.ntmps32
      go_wp2_with (go_at_call 33; refine C.out.mono ?_; rintro e w1 ⟨v, rfl, hown, hb1⟩; refine Hid.out ?_)
      refine Lib.hid ?_
      obtain ⟨A, c, hvv, _⟩ := Ints.own hown
      rw [hvv]
      clear hvv hown
      go_wp2
      go_ret2
      exact ⟨rfl, hb1⟩

set_option maxHeartbeats 2000000 in
theorem ref_cut_yes (s : ByteArray) (a b : Nat) (w : World) (hs : s.size ≤ 100000) (hv : validD s.data.toList = true) (hab : a ≤ b) (hbn : b ≤ (runes s.data.toList).length) :
    Calls Tryd.prog 32 #[.string s, .int .i64 a, .int .i64 b] w fun e w' => ∃ t : ByteArray, e = .returned (.tuple #[.string t, .int .i64 0]) ∧ t.data.toList = cutOf s.data.toList a b ∧ Below w.heap.size w w' := by
  have C := Lib.hid (ref_list_yes s w (by omega) hv)
  have hl : (runes s.data.toList).length ≤ 100000 := by have h := runes_le s.data.toList; have h' : s.data.toList.length = s.size := by simp
                                                        omega
  have HCH := Lib.hid (valid_ch hv)
  unfold cutOf
  generalize runes s.data.toList = xs at C hl hbn HCH ⊢
  clear hv
  go_enter Tryd.func32, Tryd.ntmps32
  go_wp2_with (go_at_call 33; refine C.out.mono ?_; rintro e w1 ⟨v, rfl, hown, hb1⟩; refine Hid.out ?_)
  refine Lib.hid ?_
  have HI := Lib.hid (Ints.own hown)
  have HB1 := Lib.hid hb1
  clear C hown hb1
  obtain ⟨A, cc, hvv, _, _, hcell⟩ := HI.out
  rw [hvv]
  clear hvv HI
  have HCell := Lib.hid hcell
  clear hcell
  have d1 : decide ((a : Int) < 0) = false := decide_eq_false (by omega)
  have d2 : decide (b < a) = false := decide_eq_false (by omega)
  have d3 : decide (xs.length < b) = false := decide_eq_false (by omega)
  go_wp2
  go_loopw [10, 11] (fun ov i wr => ∃ (k : Nat) (t : ByteArray), a ≤ k ∧ k ≤ b ∧ i = .int .i64 k ∧ ov = .string t ∧ Below w1.heap.size w1 wr ∧ Hid (t.data.toList = encA ((xs.drop a).take (k - a)))) (fun _ i _ => b - (intOf i).toNat)
  case atStart => exact ⟨a, ⟨#[]⟩, Nat.le_refl _, hab, rfl, rfl, Below.refl _ _, by show _ = _; rw [Nat.sub_self, List.take_zero]; rfl⟩
  case round =>
    obtain ⟨k, t, hak, hkb, rfl, rfl, hbw, HT⟩ := hrel
    by_cases hlt : k < b
    · obtain ⟨bb, off, hA, hbl, hc⟩ := HCell.out (by omega)
      subst hA
      obtain ⟨x, hxk⟩ : ∃ x, xs[k]? = some x := ⟨_, List.getElem?_eq_getElem (by omega)⟩
      have hcx : wr.cell? ⟨bb, off + k, none⟩ = some (.int .i64 x) := (hbw.cell (p := ⟨bb, off + k, none⟩) hbl).trans (hc k x hxk)
      have hch : chB x = true := HCH.out x (List.mem_of_getElem? hxk)
      have BB := Lib.hid (fun w' => ref_bytes x w' hch)
      have hkz : (k : Int) < (xs.length : Int) := by omega
      have hkbz : (k : Int) < (b : Int) := by omega
      have hsn : Hid ((xs.drop a).take (k + 1 - a) = (xs.drop a).take (k - a) ++ [x]) := by
        show _ = _
        rw [show k + 1 - a = (k - a) + 1 by omega]
        refine take_snoc ?_
        rw [List.getElem?_drop, show a + (k - a) = k by omega]
        exact hxk
      have hB := hbw.size
      have hm4 := (runeCells_le x).2
      have hcv := run_string_own (l := encodeRune x) (wr.alloc (.cells (runeCells x).toArray 5)) 43 9 5 Tryd.underlying43 Tryd.underlying5 Tryd.underlying9 (base := 0) (v := .slice (some ⟨wr.heap.size, 0, none⟩) (runeCells x).length (runeCells x).length) (by
        have := owns_full wr 0 5 (runeCells x) (Nat.zero_le _) (by omega)
        rw [runeCells_eq, byteCells_length] at this ⊢
        exact this)
      have he4 := (enc_len x).2
      have ht4 : t.size ≤ 400000 := by
        have h1 : t.data.toList.length = t.size := by simp
        rw [HT.out] at h1
        have h2 := encA_len ((xs.drop a).take (k - a))
        have h3 : ((xs.drop a).take (k - a)).length ≤ k - a := List.length_take_le _ _
        omega
      generalize runeCells x = cs at BB hcv hm4
      have OB := Lib.hid hbw
      clear hc hxk hch hbw
      go_wp2_with (go_at_call 45; refine (BB.out _).mono ?_; rintro e w2 ⟨rfl, rfl⟩)
      go_roundw
      case rel =>
        refine ⟨k + 1, _, by omega, by omega, by go_num, rfl, OB.out.alloc hB _, ?_⟩
        show _ = _
        rw [hsn.out, encA_append, encA_cons, encA_nil, List.append_nil, join_list, HT.out]
      case measure => simp [intOf]; omega
    · have hkbz : ¬ (k : Int) < (b : Int) := by omega
      obtain rfl : k = b := by omega
      have OB := Lib.hid hbw
      clear hbw
      go_wp2
      go_ret2
      exact ⟨t, rfl, HT.out, HB1.out.trans (OB.out.mono HB1.out.size)⟩

/-- Own: a list in memory of its own. -/
theorem own_int (B : Nat) (v : Value) (xs : List Int) (w : World) (h : Ints w B v xs) (hB : B ≤ w.heap.size) (hn : xs.length ≤ 1000000) :
    Calls Tryd.prog 34 #[v] w fun e w' => ∃ v', e = .returned v' ∧ w'.ownsRow w.heap.size 3 1 v' xs.length (xs.map (Value.int .i64)) ∧ Below w.heap.size w w' := by
  obtain ⟨i0, hi, hz0, hz1, hz2⟩ := info_parts info_int
  obtain ⟨A, c, rfl, hread⟩ := h.reads
  have HR := Lib.hid hread
  clear hread h
  have ho : (w.alloc (.cells #[] 3)).ownsRow w.heap.size 3 1 (.slice (some ⟨w.heap.size, 0, none⟩) 0 0) 0 [] := owns_full w w.heap.size 3 [] (Nat.le_refl _) (by decide)
  go_enter Tryd.func34, Tryd.ntmps34
  go_wp2_with (at_builtin; refine wpList_append_any _ rfl (.tmp 3) (.tmp 4) _ rfl w.heap.size 3 i0 _ 1 8 Tryd.underlying23 hi hz0 hz1 hz2 rfl (by omega) (.slice (some ⟨w.heap.size, 0, none⟩) 0 0) 0 [] rfl ho B A xs.length c (xs.map (Value.int .i64)) rfl (HR.out.alloc hB _) (oneCell_ints xs) (by simp only [maxLen]; omega) (by omega) (by simp) ?_; intro v1 w1 hown1 hg1 hat1)
  go_ret
  refine ⟨v1, rfl, by simpa using hown1, ?_⟩
  exact ((Below.refl _ _).alloc (Nat.le_refl _) _).grown hg1 (by simp) (fun k hk => (ho.lt k hk).1)
end Go.Proofs.YtbfldnppfenbgaaDoor
