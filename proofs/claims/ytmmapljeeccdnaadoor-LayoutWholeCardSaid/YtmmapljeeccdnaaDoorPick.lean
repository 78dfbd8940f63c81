/-
  Contract of copyistkit's Pick. Conditions: none.
-/
import Derived.Test.YtmmapljeeccdnaaDoorBase
import Derived.Test.YtmmapljeeccdnaaDoorChecked
namespace Go.Proofs.YtmmapljeeccdnaaDoor
open Go.RowKit
set_option maxRecDepth 100000

def pickOf (i n : Int) : Int := if n ≤ 0 then 0 else if i.tmod n < 0 then i.tmod n + n else i.tmod n
theorem pick_any (i n : Int) (w : World) (_h0 : -9223372036854775808 ≤ i) (_h1 : i ≤ 9223372036854775807) (h2 : -9223372036854775808 ≤ n) (h3 : n ≤ 9223372036854775807) :
    Calls Tryd.prog 34 #[.int .i64 i, .int .i64 n] w fun e w' => e = .returned (.int .i64 (pickOf i n)) ∧ w = w' := by
  by_cases hn : n ≤ 0
  · go_enter Tryd.func34, Tryd.ntmps34
    go_wp2
    go_ret
    exact ⟨ret_int (by rw [pickOf, if_pos hn]), rfl⟩
  · have hz : (n == 0) = false := beq_eq_false_iff_ne.2 (by omega)
    have t1 : i.tmod n < n := Int.tmod_lt_of_pos i (by omega)
    have t2 : -n < i.tmod n := Int.lt_tmod_of_pos i (by omega)
    go_enter Tryd.func34, Tryd.ntmps34
    go_wp2
    · have ht : i.tmod n < 0 := by assumption
      go_ret
      exact ⟨ret_int (by rw [pickOf, if_neg (by omega), if_pos ht]), rfl⟩
    · have ht : 0 ≤ i.tmod n := by assumption
      go_ret
      exact ⟨ret_int (by rw [pickOf, if_neg (by omega), if_neg (by omega)]), rfl⟩
theorem pick_range (i n : Int) (h : 0 < n) : 0 ≤ pickOf i n ∧ pickOf i n < n := by
  have t1 : i.tmod n < n := Int.tmod_lt_of_pos i h
  have t2 : -n < i.tmod n := Int.lt_tmod_of_pos i h
  unfold pickOf
  rw [if_neg (by omega)]
  split <;> omega

end Go.Proofs.YtmmapljeeccdnaaDoor
