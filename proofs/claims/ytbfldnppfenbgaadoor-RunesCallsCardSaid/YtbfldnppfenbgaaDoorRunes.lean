/-
  Contracts of package runes: Valid, Len, List, At. Conditions: the tables of unicode/utf8 lie as laid; a string of at most 10^12 bytes.
-/
import Derived.Test.YtbfldnppfenbgaaDoorBase
import Derived.Test.YtbfldnppfenbgaaDoorUtf
import Derived.Test.YtbfldnppfenbgaaDoorTabs
import Derived.Test.YtbfldnppfenbgaaDoorChecked
namespace Go.Proofs.YtbfldnppfenbgaaDoor
open Go.RowKit Go.Lib
set_option maxRecDepth 100000

abbrev Tabs (w : World) : Prop := Lib.Utf8Tabs 0 1 w
theorem tabs_below {w w' : World} {B : Nat} (h : Tabs w) (hb : Below B w w') (h1 : 0 < B) (h2 : 1 < B) : Tabs w' :=
  ⟨fun c hc => (hb.cell (p := ⟨_, _, none⟩) h1).trans (h.1 c hc), fun i hi => ⟨(hb.cell (p := ⟨_, _, none⟩) h2).trans (h.2 i hi).1, (hb.cell (p := ⟨_, _, none⟩) h2).trans (h.2 i hi).2⟩⟩
theorem tabs_lt {w : World} (h : Tabs w) : 0 < w.heap.size ∧ 1 < w.heap.size :=
  ⟨World.block_lt_of_cell? _ _ (h.1 0 (by omega)), World.block_lt_of_cell? _ _ (h.2 0 (by omega)).1⟩
theorem tabs_later {w w' : World} (h : Tabs w) (hb : Below w.heap.size w w') : Tabs w' := tabs_below h hb (tabs_lt h).1 (tabs_lt h).2

/-- Valid. -/
theorem valid_any (s : ByteArray) (w : World) (hs : s.size ≤ 1000000000000) (hT : Tabs w) :
    Calls Tryd.prog 16 #[.string s] w fun e w' => e = .returned (.bool (validD s.data.toList)) ∧ Below w.heap.size w w' := by
  have c := Tryd.utf8_ValidString s w (by omega) hT
  generalize validD s.data.toList = V at c ⊢
  have C := Lib.hid c
  clear c hT
  go_enter Tryd.func16, Tryd.ntmps16
  go_wp2_with (go_at_call 39; refine C.out.mono ?_; rintro e w' ⟨rfl, hb⟩)
  go_ret
  exact ⟨rfl, hb⟩
theorem valid_yes (s : ByteArray) (w : World) (hs : s.size ≤ 1000000000000) (hT : Tabs w) (hv : validD s.data.toList = true) :
    Calls Tryd.prog 16 #[.string s] w fun e w' => e = .returned (.bool true) ∧ Below w.heap.size w w' := by
  have := valid_any s w hs hT; rwa [hv] at this
theorem valid_no (s : ByteArray) (w : World) (hs : s.size ≤ 1000000000000) (hT : Tabs w) (hv : validD s.data.toList = false) :
    Calls Tryd.prog 16 #[.string s] w fun e w' => e = .returned (.bool false) ∧ Below w.heap.size w w' := by
  have := valid_any s w hs hT; rwa [hv] at this

/-- Len. -/
def lenOf (l : List UInt8) : Nat := if validD l then (runes l).length else 0
theorem lenOf_yes {l : List UInt8} (h : validD l = true) : lenOf l = (runes l).length := by simp [lenOf, h]
theorem lenOf_no {l : List UInt8} (h : validD l = false) : lenOf l = 0 := by simp [lenOf, h]
theorem len_any (s : ByteArray) (w : World) (hs : s.size ≤ 1000000000000) (hT : Tabs w) :
    Calls Tryd.prog 13 #[.string s] w fun e w' => e = .returned (.int .i64 (lenOf s.data.toList)) ∧ Below w.heap.size w w' := by
  cases hv : validD s.data.toList with
  | false =>
    have C := Lib.hid (valid_no s w hs hT hv)
    rw [lenOf_no hv]
    clear hT hv
    go_enter Tryd.func13, Tryd.ntmps13
    go_wp2_with (go_at_call 16; refine C.out.mono ?_; rintro e w' ⟨rfl, hb⟩)
    go_ret
    exact ⟨rfl, hb⟩
  | true =>
    have C := Lib.hid (valid_yes s w hs hT hv)
    rw [lenOf_yes hv, ← runeCount_eq]
    generalize hn : runeCount s = n
    have D : ∀ w' : World, Calls Tryd.prog 38 #[.string s] w' fun e w'' => e = .returned (.int .i64 n) ∧ Below w'.heap.size w' w'' := fun w' =>
      (Tryd.utf8_RuneCountInString s w' (by omega)).mono fun e w'' ⟨he, pos, hp⟩ => ⟨by rw [he, hn], by rw [hp]; exact below_iter _ _ _⟩
    have DH := Lib.hid D
    clear hT hv hn D
    go_enter Tryd.func13, Tryd.ntmps13
    go_wp2_with (first
      | (go_at_call 16; refine C.out.mono ?_; rintro e w' ⟨rfl, hb⟩)
      | (go_at_call 38; refine (DH.out _).mono ?_; rintro e w'' ⟨rfl, hb2⟩))
    go_ret
    exact ⟨rfl, hb.trans (hb2.mono hb.size)⟩

theorem info_int : (Tryd.prog.info? 3).map (fun i => (i.zero, i.size, i.bytes)) = some (some (.int .i64 0), 1, 8) := by kernel_rfl
theorem owns_mono {w : World} {base base' : Nat} {e : TypeId} {size n : Nat} {v : Value} {xs : List Value} (h : w.ownsRow base e size v n xs) (hb : base' ≤ base) : w.ownsRow base' e size v n xs := by
  obtain ⟨h1, h2⟩ := h
  refine ⟨h1, ?_⟩
  rcases h2 with h2 | ⟨g, cap, cur, a, b, c⟩
  · exact .inl h2
  · exact .inr ⟨g, cap, cur, a, by omega, c⟩

theorem step_pos (s : ByteArray) (pos : Nat) (hp : pos < s.size) : runes (s.data.toList.drop pos) = ((Utf8.decode s pos).1 : Int) :: runes (s.data.toList.drop (pos + (Utf8.decode s pos).2)) := by
  have hne : s.data.toList.drop pos ≠ [] := by
    intro e
    have := congrArg List.length e
    simp only [List.length_drop, List.length_nil, Array.length_toList] at this
    have hs : s.data.size = s.size := rfl
    omega
  rw [runes_step _ hne, decodeL_drop, List.drop_drop]
theorem end_pos (s : ByteArray) (pos : Nat) (hp : ¬ pos < s.size) : runes (s.data.toList.drop pos) = [] := by
  rw [List.drop_eq_nil_of_le (by simp only [Array.length_toList]; show s.size ≤ pos; omega)]; rfl

set_option maxHeartbeats 1000000 in
theorem list_yes (s : ByteArray) (w : World) (hs : s.size ≤ 1000000000000) (hT : Tabs w) (hv : validD s.data.toList = true) :
    Calls Tryd.prog 11 #[.string s] w fun e w' => ∃ v, e = .returned (.tuple #[v, .int .i64 0]) ∧ w'.ownsRow w.heap.size 3 1 v (runes s.data.toList).length ((runes s.data.toList).map (Value.int .i64)) ∧ Below w.heap.size w w' := by
  obtain ⟨i0, hi, hz0, hz1, hz2⟩ := info_parts info_int
  have C := Lib.hid (valid_yes s w hs hT hv)
  clear hT hv
  go_enter Tryd.func11, Tryd.ntmps11
  go_wp2_with (go_at_call 16; refine C.out.mono ?_; rintro e w1 ⟨rfl, hb1⟩)
  clear C
  have HB1 := Lib.hid hb1
  clear hb1
  go_loopw [4] (fun v wr => ∃ (pos : Nat) (acc : List Int), wr.heap[w1.heap.size]? = some (.stringIter s pos) ∧ wr.ownsRow (w1.heap.size + 1) 3 1 v acc.length (acc.map (Value.int .i64)) ∧ Below w1.heap.size w1 wr ∧ Hid (acc ++ runes (s.data.toList.drop pos) = runes s.data.toList) ∧ acc.length ≤ pos) (fun _ wr => s.size - wr.iterPos w1.heap.size)
  case atStart => exact ⟨0, [], World.iter_heap w1 s 0, World.ownsRow_nil _ _ _ _, (Below.refl _ _).alloc (Nat.le_refl _) _, rfl, by simp⟩
  case round =>
    obtain ⟨pos, acc, hit, hown, hbw, HS, hlen⟩ := hrel
    have hpos0 := iterPos_of hit
    by_cases hp : pos < s.size
    · have hnx : ∀ ty, (Instr.next (.pointer (some ⟨w1.heap.size, 0, none⟩)) true ty).run Tryd.prog wr = _ := fun ty => Lib.run_next_any_at wr w1.heap.size s pos ty hit hp
      have hwd := Lib.decode_width_pos s pos hp
      have hst := Lib.hid (step_pos s pos hp)
      have hit2 := Lib.iterAt_heap wr w1.heap.size s pos (pos + (Utf8.decode s pos).2) hit
      have hbw2 := Lib.below_iterAt hbw (k := w1.heap.size) (Nat.le_refl _) s (pos + (Utf8.decode s pos).2)
      have hown2 := ownsRow_iterAt hown (k := w1.heap.size) (by omega) s (pos + (Utf8.decode s pos).2)
      have hrn := Lib.rune_le s pos
      generalize (Utf8.decode s pos).2 = wd at hnx hwd hst hit2 hbw2 hown2
      generalize (Utf8.decode s pos).1 = c at hnx hst hrn
      obtain ⟨W1, hW1⟩ : ∃ W1, W1 = wr.iterAt w1.heap.size s (pos + wd) := ⟨_, rfl⟩
      rw [← hW1] at hnx hit2 hbw2 hown2
      have hBlt : w1.heap.size < W1.heap.size := lt_of_block hit2
      have HP0 := Lib.hid hpos0
      clear hW1 hit hown hbw hpos0
      go_wp2_with (at_builtin; refine wpList_append_own _ rfl _ _ 23 rfl (w1.heap.size + 1) 3 i0 (.int .i64 0) 1 8 Tryd.underlying23 hi hz0 hz1 hz2 rfl (by decide) _ _ _ rfl (hown2.alloc _) ⟨W1.heap.size, 0, none⟩ 1 1 [.int .i64 (c : Int)] rfl rfl (cell_one_new _ _ _) (fun x hx => by simp at hx; subst hx; rfl) (by simp only [List.length_map, maxLen]; omega) (by omega) (by simp; omega) ?_; intro v' w3 hown' hgrow3 hnil3)
      have hit3 : w3.heap[w1.heap.size]? = some (.stringIter s (pos + wd)) := by
        rw [hgrow3.block w1.heap.size (by simp; omega) (fun h => by have := (hown2.lt _ h.symm).1; omega), Below.heap_alloc _ _ _ hBlt]; exact hit2
      have hbw3 : Below w1.heap.size w1 w3 := Below.grown (hbw2.alloc (by omega) _) hgrow3 (by simp; omega) (fun j hj => by have := (hown2.lt _ hj).1; omega)
      have hown3 : w3.ownsRow (w1.heap.size + 1) 3 1 v' (acc ++ [(c : Int)]).length ((acc ++ [(c : Int)]).map (Value.int .i64)) := by
        simpa using hown'
      have H3 := Lib.hid (And.intro hit3 (And.intro hbw3 hown3))
      clear hown' hgrow3 hnil3 hit3 hbw3 hown3
      go_wp2
      go_roundw
      case rel =>
        refine ⟨_, acc ++ [(c : Int)], H3.out.1, H3.out.2.2, H3.out.2.1, ?_, by simp; omega⟩
        show _ = _
        rw [← HS.out, hst.out]
        simp
      case measure =>
        rw [iterPos_of H3.out.1, HP0.out]
        omega
    · have hnx : ∀ ty, (Instr.next (.pointer (some ⟨w1.heap.size, 0, none⟩)) true ty).run Tryd.prog wr = _ := fun ty => Lib.run_next_end_at wr w1.heap.size s pos ty hit hp
      have hfin : acc = runes s.data.toList := by rw [← HS.out, end_pos s pos hp, List.append_nil]
      have H3 := Lib.hid (And.intro hbw (And.intro hown hfin))
      clear hbw hown hfin HS hit hpos0
      go_wp2
      go_ret2
      obtain ⟨h1, h2, h3⟩ := H3.out
      subst h3
      exact ⟨_, rfl, owns_mono h2 (by have := HB1.out.size; omega), HB1.out.trans (h1.mono HB1.out.size)⟩
theorem list_no (s : ByteArray) (w : World) (hs : s.size ≤ 1000000000000) (hT : Tabs w) (hv : validD s.data.toList = false) :
    Calls Tryd.prog 11 #[.string s] w fun e w' => e = .returned (.tuple #[.slice none 0 0, .int .i64 5]) ∧ Below w.heap.size w w' := by
  have C := Lib.hid (valid_no s w hs hT hv)
  clear hT hv
  go_enter Tryd.func11, Tryd.ntmps11
  go_wp2_with (go_at_call 16; refine C.out.mono ?_; rintro e w1 ⟨rfl, hb1⟩)
  go_ret2
  exact ⟨rfl, hb1⟩

set_option maxHeartbeats 1000000 in
theorem at_walk (s : ByteArray) (i : Int) (w : World) (hs : s.size ≤ 1000000000000) (hT : Tabs w) (hv : validD s.data.toList = true) (h0 : 0 ≤ i) (h1 : i ≤ 9223372036854775807) :
    Calls Tryd.prog 17 #[.string s, .int .i64 i] w fun e w' => e = .returned (.tuple #[.int .i64 ((runes s.data.toList)[i.toNat]?.getD 0), .bool (decide (i.toNat < (runes s.data.toList).length))]) ∧ Below w.heap.size w w' := by
  have C := Lib.hid (valid_yes s w hs hT hv)
  clear hT hv
  go_enter Tryd.func17, Tryd.ntmps17
  go_wp2_with (go_at_call 16; refine C.out.mono ?_; rintro e w1 ⟨rfl, hb1⟩)
  clear C
  have HB1 := Lib.hid hb1
  clear hb1
  go_loopw [1] (fun iv wr => ∃ (pos j : Nat), wr = w1.iter s pos ∧ iv = .int .i64 j ∧ j ≤ i.toNat ∧ Hid ((runes (s.data.toList.drop pos))[j]? = (runes s.data.toList)[i.toNat]?)) (fun _ wr => s.size - wr.iterPos w1.heap.size)
  case atStart => exact ⟨0, i.toNat, rfl, by rw [Int.toNat_of_nonneg h0], Nat.le_refl _, by simp [Hid]⟩
  case round =>
    obtain ⟨pos, j, rfl, rfl, hj, HS⟩ := hrel
    by_cases hp : pos < s.size
    · have hnx : ∀ ty, (Instr.next (.pointer (some ⟨w1.heap.size, 0, none⟩)) true ty).run Tryd.prog (w1.iter s pos) = _ := fun ty => run_next_any w1 s pos ty hp
      have hwd := Lib.decode_width_pos s pos hp
      have hst := Lib.hid (step_pos s pos hp)
      have hrn := Lib.rune_le s pos
      generalize (Utf8.decode s pos).2 = wd at hnx hwd hst
      generalize (Utf8.decode s pos).1 = c at hnx hst hrn
      by_cases hz : j = 0
      · subst hz
        go_wp2
        go_ret2
        have hx := HS.out
        rw [hst.out, List.getElem?_cons_zero] at hx
        refine ⟨?_, HB1.out.trans ((below_iter _ _ _).mono HB1.out.size)⟩
        have hl : i.toNat < (runes s.data.toList).length := by
          rcases Nat.lt_or_ge i.toNat (runes s.data.toList).length with h | h
          · exact h
          · rw [List.getElem?_eq_none h] at hx; cases hx
        have e2 : decide (i.toNat < (runes s.data.toList).length) = true := decide_eq_true hl
        rw [← hx, e2]
        rfl
      · have hz' : ((j : Int) == 0) = false := beq_eq_false_iff_ne.2 (by omega)
        have hj1 : 1 ≤ j := by omega
        clear hz
        go_wp2
        go_roundw
        case rel =>
          refine ⟨pos + wd, j - 1, rfl, by go_num, by omega, ?_⟩
          show _ = _
          rw [← HS.out, hst.out]
          conv => rhs; rw [show j = (j - 1) + 1 by omega, List.getElem?_cons_succ]
        case measure => simp; omega
    · have hnx : ∀ ty, (Instr.next (.pointer (some ⟨w1.heap.size, 0, none⟩)) true ty).run Tryd.prog (w1.iter s pos) = _ := fun ty => run_next_end w1 s pos ty hp
      have hx : (runes s.data.toList)[i.toNat]? = none := by rw [← HS.out, end_pos s pos hp]; rfl
      have HX := Lib.hid hx
      clear hx HS
      go_wp2
      go_ret2
      refine ⟨?_, HB1.out.trans ((below_iter _ _ _).mono HB1.out.size)⟩
      have e2 : decide (i.toNat < (runes s.data.toList).length) = false := decide_eq_false (by have := List.getElem?_eq_none_iff.1 HX.out; omega)
      rw [HX.out, e2]
      rfl
def atB (l : List UInt8) (i : Int) : Bool := validD l && decide (0 ≤ i) && decide (i.toNat < (runes l).length)
def atC (l : List UInt8) (i : Int) : Int := if atB l i then (runes l)[i.toNat]?.getD 0 else 0
theorem at_any (s : ByteArray) (i : Int) (w : World) (hs : s.size ≤ 1000000000000) (hT : Tabs w) (h0 : -9223372036854775808 ≤ i) (h1 : i ≤ 9223372036854775807) :
    Calls Tryd.prog 17 #[.string s, .int .i64 i] w fun e w' => e = .returned (.tuple #[.int .i64 (atC s.data.toList i), .bool (atB s.data.toList i)]) ∧ Below w.heap.size w w' := by
  cases hv : validD s.data.toList with
  | false =>
    have C := Lib.hid (valid_no s w hs hT hv)
    have e1 : atB s.data.toList i = false := by simp [atB, hv]
    have e2 : atC s.data.toList i = 0 := by simp [atC, e1]
    rw [e1, e2]
    clear e1 e2 hT hv
    go_enter Tryd.func17, Tryd.ntmps17
    go_wp2_with (go_at_call 16; refine C.out.mono ?_; rintro e w1 ⟨rfl, hb1⟩)
    go_ret2
    exact ⟨rfl, hb1⟩
  | true =>
    by_cases hi : 0 ≤ i
    · refine (at_walk s i w hs hT hv hi h1).mono fun e w' ⟨he, hb⟩ => ⟨?_, hb⟩
      have e1 : atB s.data.toList i = decide (i.toNat < (runes s.data.toList).length) := by simp [atB, hv, hi]
      rw [he, atC, e1]
      by_cases hl : i.toNat < (runes s.data.toList).length
      · simp [hl]
      · simp [hl, List.getElem?_eq_none (Nat.le_of_not_lt hl)]
    · have C := Lib.hid (valid_yes s w hs hT hv)
      have e1 : atB s.data.toList i = false := by simp [atB, hi]
      have e2 : atC s.data.toList i = 0 := by simp [atC, e1]
      rw [e1, e2]
      clear e1 e2 hT hv
      have hi' : i < 0 := by omega
      clear hi
      go_enter Tryd.func17, Tryd.ntmps17
      go_wp2_with (go_at_call 16; refine C.out.mono ?_; rintro e w1 ⟨rfl, hb1⟩)
      go_ret2
      exact ⟨rfl, hb1⟩
end Go.Proofs.YtbfldnppfenbgaaDoor
