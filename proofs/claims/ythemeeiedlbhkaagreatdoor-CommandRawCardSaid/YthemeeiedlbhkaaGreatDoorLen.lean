/-
  Contracts of package runes: Valid, Len. Conditions: the tables of unicode/utf8 lie as laid; a string of at most 10^12 bytes.
-/
import Derived.Test.YthemeeiedlbhkaaGreatDoorBase
import Derived.Test.YthemeeiedlbhkaaGreatDoorUtf
import Derived.Test.YthemeeiedlbhkaaGreatDoorTabs
import Derived.Test.YthemeeiedlbhkaaGreatDoorChecked
namespace Go.Proofs.YthemeeiedlbhkaaGreatDoor
open Go.RowKit Go.Lib
set_option maxRecDepth 100000

abbrev Tabs (w : World) : Prop := Lib.Utf8Tabs 1 2 w
theorem tabs_below {w w' : World} {B : Nat} (h : Tabs w) (hb : Below B w w') (h1 : 1 < B) (h2 : 2 < B) : Tabs w' :=
  ⟨fun c hc => (hb.cell (p := ⟨_, _, none⟩) h1).trans (h.1 c hc), fun i hi => ⟨(hb.cell (p := ⟨_, _, none⟩) h2).trans (h.2 i hi).1, (hb.cell (p := ⟨_, _, none⟩) h2).trans (h.2 i hi).2⟩⟩
theorem tabs_lt {w : World} (h : Tabs w) : 1 < w.heap.size ∧ 2 < w.heap.size :=
  ⟨World.block_lt_of_cell? _ _ (h.1 0 (by omega)), World.block_lt_of_cell? _ _ (h.2 0 (by omega)).1⟩
theorem tabs_later {w w' : World} (h : Tabs w) (hb : Below w.heap.size w w') : Tabs w' := tabs_below h hb (tabs_lt h).1 (tabs_lt h).2

/-- Valid. -/
theorem valid_any (s : ByteArray) (w : World) (hs : s.size ≤ 1000000000000) (hT : Tabs w) :
    Calls Tryz.prog 63 #[.string s] w fun e w' => e = .returned (.bool (validD s.data.toList)) ∧ Below w.heap.size w w' := by
  have c := Tryz.utf8_ValidString s w (by omega) hT
  generalize validD s.data.toList = V at c ⊢
  have C := Lib.hid c
  clear c hT
  go_enter Tryz.func63, Tryz.ntmps63
  go_wp2_with (go_at_call 91; refine C.out.mono ?_; rintro e w' ⟨rfl, hb⟩)
  go_ret
  exact ⟨rfl, hb⟩
theorem valid_yes (s : ByteArray) (w : World) (hs : s.size ≤ 1000000000000) (hT : Tabs w) (hv : validD s.data.toList = true) :
    Calls Tryz.prog 63 #[.string s] w fun e w' => e = .returned (.bool true) ∧ Below w.heap.size w w' := by
  have := valid_any s w hs hT; rwa [hv] at this
theorem valid_no (s : ByteArray) (w : World) (hs : s.size ≤ 1000000000000) (hT : Tabs w) (hv : validD s.data.toList = false) :
    Calls Tryz.prog 63 #[.string s] w fun e w' => e = .returned (.bool false) ∧ Below w.heap.size w w' := by
  have := valid_any s w hs hT; rwa [hv] at this

/-- Len. -/
theorem len_any (s : ByteArray) (w : World) (hs : s.size ≤ 1000000000000) (hT : Tabs w) :
    Calls Tryz.prog 69 #[.string s] w fun e w' => e = .returned (.int .i64 (lenOf s.data.toList)) ∧ Below w.heap.size w w' := by
  cases hv : validD s.data.toList with
  | false =>
    have C := Lib.hid (valid_no s w hs hT hv)
    rw [lenOf_no hv]
    clear hT hv
    go_enter Tryz.func69, Tryz.ntmps69
    go_wp2_with (go_at_call 63; refine C.out.mono ?_; rintro e w' ⟨rfl, hb⟩)
    go_ret
    exact ⟨rfl, hb⟩
  | true =>
    have C := Lib.hid (valid_yes s w hs hT hv)
    rw [lenOf_yes hv, ← runeCount_eq]
    generalize hn : runeCount s = n
    have D : ∀ w' : World, Calls Tryz.prog 100 #[.string s] w' fun e w'' => e = .returned (.int .i64 n) ∧ Below w'.heap.size w' w'' := fun w' =>
      (Tryz.utf8_RuneCountInString s w' (by omega)).mono fun e w'' ⟨he, pos, hp⟩ => ⟨by rw [he, hn], by rw [hp]; exact below_iter _ _ _⟩
    have DH := Lib.hid D
    clear hT hv hn D
    go_enter Tryz.func69, Tryz.ntmps69
    go_wp2_with (first
      | (go_at_call 63; refine C.out.mono ?_; rintro e w' ⟨rfl, hb⟩)
      | (go_at_call 100; refine (DH.out _).mono ?_; rintro e w'' ⟨rfl, hb2⟩))
    go_ret
    exact ⟨rfl, hb.trans (hb2.mono hb.size)⟩

theorem info_int : (Tryz.prog.info? 3).map (fun i => (i.zero, i.size, i.bytes)) = some (some (.int .i64 0), 1, 8) := by kernel_rfl
theorem owns_mono {w : World} {base base' : Nat} {e : TypeId} {size n : Nat} {v : Value} {xs : List Value} (h : w.ownsRow base e size v n xs) (hb : base' ≤ base) : w.ownsRow base' e size v n xs := by
  obtain ⟨h1, h2⟩ := h
  refine ⟨h1, ?_⟩
  rcases h2 with h2 | ⟨g, cap, cur, a, b, c⟩
  · exact .inl h2
  · exact .inr ⟨g, cap, cur, a, by omega, c⟩
end Go.Proofs.YthemeeiedlbhkaaGreatDoor
