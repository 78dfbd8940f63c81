/-
  Contracts of package runes: Valid, Len, List, At. Conditions: the tables of unicode/utf8 lie as laid; a string of at most 10^12 bytes.
-/
import Derived.Test.YtjcmdifpkafdkaaDoorBase
import Derived.Test.YtjcmdifpkafdkaaDoorUtf
import Derived.Test.YtjcmdifpkafdkaaDoorTabs
import Derived.Test.YtjcmdifpkafdkaaDoorChecked
namespace Go.Proofs.YtjcmdifpkafdkaaDoor
open Go.RowKit Go.Lib
set_option maxRecDepth 100000

abbrev Tabs (w : World) : Prop := Lib.Utf8Tabs 0 1 w
theorem valid_any (s : ByteArray) (w : World) (hs : s.size ≤ 1000000000000) (hT : Tabs w) :
    Calls Tryd.prog 52 #[.string s] w fun e w' => e = .returned (.bool (validD s.data.toList)) ∧ Below w.heap.size w w' := by
  have c := Tryd.utf8_ValidString s w (by omega) hT
  generalize validD s.data.toList = V at c ⊢
  have C := Lib.hid c
  clear c hT
  go_enter Tryd.func52, Tryd.ntmps52
  go_wp2_with (go_at_call 92; refine C.out.mono ?_; rintro e w' ⟨rfl, hb⟩)
  go_ret
  exact ⟨rfl, hb⟩
theorem valid_yes (s : ByteArray) (w : World) (hs : s.size ≤ 1000000000000) (hT : Tabs w) (hv : validD s.data.toList = true) :
    Calls Tryd.prog 52 #[.string s] w fun e w' => e = .returned (.bool true) ∧ Below w.heap.size w w' := by
  have := valid_any s w hs hT; rwa [hv] at this
theorem valid_no (s : ByteArray) (w : World) (hs : s.size ≤ 1000000000000) (hT : Tabs w) (hv : validD s.data.toList = false) :
    Calls Tryd.prog 52 #[.string s] w fun e w' => e = .returned (.bool false) ∧ Below w.heap.size w w' := by
  have := valid_any s w hs hT; rwa [hv] at this

theorem len_any (s : ByteArray) (w : World) (hs : s.size ≤ 1000000000000) (hT : Tabs w) :
    Calls Tryd.prog 39 #[.string s] w fun e w' => e = .returned (.int .i64 (lenOf s.data.toList)) ∧ Below w.heap.size w w' := by
  cases hv : validD s.data.toList with
  | false =>
    have C := Lib.hid (valid_no s w hs hT hv)
    rw [lenOf_no hv]
    clear hT hv
    go_enter Tryd.func39, Tryd.ntmps39
    go_wp2_with (go_at_call 52; refine C.out.mono ?_; rintro e w' ⟨rfl, hb⟩)
    go_ret
    exact ⟨rfl, hb⟩
  | true =>
    have C := Lib.hid (valid_yes s w hs hT hv)
    rw [lenOf_yes hv, ← runeCount_eq]
    generalize hn : runeCount s = n
    have D : ∀ w' : World, Calls Tryd.prog 61 #[.string s] w' fun e w'' => e = .returned (.int .i64 n) ∧ Below w'.heap.size w' w'' := fun w' =>
      (Tryd.utf8_RuneCountInString s w' (by omega)).mono fun e w'' ⟨he, pos, hp⟩ => ⟨by rw [he, hn], by rw [hp]; exact below_iter _ _ _⟩
    have DH := Lib.hid D
    clear hT hv hn D
    go_enter Tryd.func39, Tryd.ntmps39
    go_wp2_with (first
      | (go_at_call 52; refine C.out.mono ?_; rintro e w' ⟨rfl, hb⟩)
      | (go_at_call 61; refine (DH.out _).mono ?_; rintro e w'' ⟨rfl, hb2⟩))
    go_ret
    exact ⟨rfl, hb.trans (hb2.mono hb.size)⟩

end Go.Proofs.YtjcmdifpkafdkaaDoor
