/-
  Contracts of the objects' method size. Conditions: the tables of unicode/utf8 lie as laid.
-/
import Derived.Test.YthemeeiedlbhkaaGreatDoorFind
import Derived.Test.YthemeeiedlbhkaaGreatDoorLen
namespace Go.Proofs.YthemeeiedlbhkaaGreatDoor
open Go.RowKit
set_option maxRecDepth 100000

theorem size_pair (a : Addr) (w : World) : Calls Tryz.prog 226 #[.pointer (some a)] w fun e w' => e = .returned (.int .i64 0) ∧ Below w.heap.size w w' := by
  go_enter Tryz.func226, Tryz.ntmps226
  go_wp2
  go_ret
  exact ⟨rfl, Below.refl _ _⟩
theorem size_vector (b : Nat) (A : Option Addr) (n c : Nat) (w : World) (h : w.cell? ⟨b, 0, none⟩ = some (.slice A n c)) : Calls Tryz.prog 230 #[.pointer (some ⟨b, 0, none⟩)] w fun e w' => e = .returned (.int .i64 n) ∧ Below w.heap.size w w' := by
  go_enter Tryz.func230, Tryz.ntmps230
  go_wp2
  go_ret
  exact ⟨rfl, Below.refl _ _⟩
theorem size_text (b : Nat) (s : ByteArray) (w : World) (hs : s.size ≤ 1000000000000) (hT : Tabs w) (h : w.cell? ⟨b, 0, none⟩ = some (.string s)) : Calls Tryz.prog 223 #[.pointer (some ⟨b, 0, none⟩)] w fun e w' => e = .returned (.int .i64 (lenOf s.data.toList)) ∧ Below w.heap.size w w' := by
  have C := Lib.hid (len_any s w hs hT)
  clear hT
  go_enter Tryz.func223, Tryz.ntmps223
  go_wp2_with (go_at_call 69; refine C.out.mono ?_; rintro e w1 ⟨rfl, hb1⟩)
  go_ret
  exact ⟨rfl, hb1⟩
end Go.Proofs.YthemeeiedlbhkaaGreatDoor
