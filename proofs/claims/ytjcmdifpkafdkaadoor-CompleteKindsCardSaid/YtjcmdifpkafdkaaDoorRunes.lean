/-
  Contracts of package runes: Valid, Len, List, At. Conditions: the tables of unicode/utf8 lie as laid; a string of at most 10^12 bytes.
-/
import Derived.Test.YtjcmdifpkafdkaaDoorBase
import Derived.Test.YtjcmdifpkafdkaaDoorUtf
import Derived.Test.YtjcmdifpkafdkaaDoorTabs
import Derived.Test.YtjcmdifpkafdkaaDoorChecked
namespace Go.Proofs.YtjcmdifpkafdkaaDoor
open Go.RowKit Go.Lib
set_option maxRecDepth 100000

abbrev Tabs (w : World) : Prop := Lib.Utf8Tabs 0 1 w
theorem valid_any (s : ByteArray) (w : World) (hs : s.size ≤ 1000000000000) (hT : Tabs w) :
    Calls Tryd.prog 52 #[.string s] w fun e w' => e = .returned (.bool (validD s.data.toList)) ∧ Below w.heap.size w w' := by
  have c := Tryd.utf8_ValidString s w (by omega) hT
  generalize validD s.data.toList = V at c ⊢
  have C := Lib.hid c
  clear c hT
  go_enter Tryd.func52, Tryd.ntmps52
  go_wp2_with (go_at_call 92; refine C.out.mono ?_; rintro e w' ⟨rfl, hb⟩)
  go_ret
  exact ⟨rfl, hb⟩
theorem valid_yes (s : ByteArray) (w : World) (hs : s.size ≤ 1000000000000) (hT : Tabs w) (hv : validD s.data.toList = true) :
    Calls Tryd.prog 52 #[.string s] w fun e w' => e = .returned (.bool true) ∧ Below w.heap.size w w' := by
  have := valid_any s w hs hT; rwa [hv] at this
theorem valid_no (s : ByteArray) (w : World) (hs : s.size ≤ 1000000000000) (hT : Tabs w) (hv : validD s.data.toList = false) :
    Calls Tryd.prog 52 #[.string s] w fun e w' => e = .returned (.bool false) ∧ Below w.heap.size w w' := by
  have := valid_any s w hs hT; rwa [hv] at this

end Go.Proofs.YtjcmdifpkafdkaaDoor
