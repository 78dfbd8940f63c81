/-
  HeapCollect where the rows are too long or too short: the law returns true. Conditions: the tables of unicode/utf8 lie as laid.
-/
import Derived.Test.YthmfiahmfdadgaaDoorHolds
import Derived.Test.YthmfiahmfdadgaaDoorCount
import Derived.Test.YthmfiahmfdadgaaDoorColLaw
import Derived.Test.YthmfiahmfdadgaaDoorCollect
namespace Go.Proofs.YthmfiahmfdadgaaDoor
open Go.RowKit
set_option maxRecDepth 100000
/-- A row of numbers as a law has it. -/
def ColArg (w : World) (A : Option Addr) (n : Nat) (l : List Int) : Prop := l.length = n ∧ (0 < n → ∃ b off, A = some ⟨b, off, none⟩ ∧ b < w.heap.size ∧ ∀ (j : Nat) x, l[j]? = some x → w.cell? ⟨b, off + j, none⟩ = some (.int .i64 x)) ∧ ∀ x ∈ l, -9223372036854775808 ≤ x ∧ x ≤ 9223372036854775807
theorem col_long (A1 A2 A3 : Option Addr) (n1 c1 n2 c2 n3 c3 : Nat) (w : World) (hT : Tabs w) (h : 40 < n1 ∨ n2 < n1 ∨ 40 < n3) :
    Calls Tryd.prog 5 #[.slice A1 n1 c1, .slice A2 n2 c2, .slice A3 n3 c3] w fun e w' => e = .returned (.bool true) ∧ Below w.heap.size w w' := by
  have C := Lib.hid (lives_any w hT)
  clear hT
  by_cases h1 : 40 < n1
  · have d1 : decide ((40 : Int) < (n1 : Int)) = true := decide_eq_true (by omega)
    go_enter Tryd.func5, Tryd.ntmps5
    go_wp2_with (go_at_call 8; refine C.out.mono ?_; rintro e w1 ⟨rfl, hb1⟩)
    go_ret
    exact ⟨rfl, hb1⟩
  · have d1 : decide ((40 : Int) < (n1 : Int)) = false := decide_eq_false (by omega)
    by_cases h2 : n2 < n1
    · have d2 : decide ((n2 : Int) < (n1 : Int)) = true := decide_eq_true (by omega)
      go_enter Tryd.func5, Tryd.ntmps5
      go_wp2_with (go_at_call 8; refine C.out.mono ?_; rintro e w1 ⟨rfl, hb1⟩)
      go_ret
      exact ⟨rfl, hb1⟩
    · have d2 : decide ((n2 : Int) < (n1 : Int)) = false := decide_eq_false (by omega)
      have d3 : decide ((40 : Int) < (n3 : Int)) = true := decide_eq_true (by omega)
      go_enter Tryd.func5, Tryd.ntmps5
      go_wp2_with (go_at_call 8; refine C.out.mono ?_; rintro e w1 ⟨rfl, hb1⟩)
      go_ret
      exact ⟨rfl, hb1⟩
end Go.Proofs.YthmfiahmfdadgaaDoor
