/-
  Contracts of copyistkit's Same, Pick and Own at ints. Conditions: the arguments read as lists of ints.
  RunesJoins: for every two strings the law returns true; nothing that lay before is changed. Conditions: the tables of unicode/utf8 lie as laid.
  RunesFolds: for every integer the law returns true; nothing that lay before is changed. Conditions: the tables of unicode/utf8 lie as laid.
  RunesCuts: for every string and every three indexes the law returns true; nothing that lay before is changed. Conditions: the tables of unicode/utf8 lie as laid.
-/
import Derived.Test.YtmlmnbcnfalaaaaDoorBase
import Derived.Test.YtmlmnbcnfalaaaaDoorChecked
import Derived.Test.YtmlmnbcnfalaaaaDoorRunes
import Derived.Test.YtmlmnbcnfalaaaaDoorWidth
import Derived.Test.YtmlmnbcnfalaaaaDoorL4
namespace Go.Proofs.YtmlmnbcnfalaaaaDoor
open Go.RowKit
set_option maxRecDepth 100000

def pickOf (i n : Int) : Int := if n ≤ 0 then 0 else if i.tmod n < 0 then i.tmod n + n else i.tmod n
theorem pick_any (i n : Int) (w : World) (h0 : -9223372036854775808 ≤ i) (h1 : i ≤ 9223372036854775807) (h2 : -9223372036854775808 ≤ n) (h3 : n ≤ 9223372036854775807) :
    Calls Tryd.prog 13 #[.int .i64 i, .int .i64 n] w fun e w' => e = .returned (.int .i64 (pickOf i n)) ∧ w = w' := by
  by_cases hn : n ≤ 0
  · go_enter Tryd.func13, Tryd.ntmps13
    go_wp2
    go_ret
    exact ⟨ret_int (by rw [pickOf, if_pos hn]), rfl⟩
  · have hz : (n == 0) = false := beq_eq_false_iff_ne.2 (by omega)
    have t1 : i.tmod n < n := Int.tmod_lt_of_pos i (by omega)
    have t2 : -n < i.tmod n := Int.lt_tmod_of_pos i (by omega)
    go_enter Tryd.func13, Tryd.ntmps13
    go_wp2
    · have ht : i.tmod n < 0 := by assumption
      go_ret
      exact ⟨ret_int (by rw [pickOf, if_neg (by omega), if_pos ht]), rfl⟩
    · have ht : 0 ≤ i.tmod n := by assumption
      go_ret
      exact ⟨ret_int (by rw [pickOf, if_neg (by omega), if_neg (by omega)]), rfl⟩
theorem pick_range (i n : Int) (h : 0 < n) : 0 ≤ pickOf i n ∧ pickOf i n < n := by
 have t1 : i.tmod n < n := Int.tmod_lt_of_pos i h
 have t2 : -n < i.tmod n := Int.lt_tmod_of_pos i h
 unfold pickOf
 rw [if_neg (by omega)]
 split <;> omega

end Go.Proofs.YtmlmnbcnfalaaaaDoor
namespace Go.Proofs.YtmlmnbcnfalaaaaDoor
open Go.RowKit Go.Lib
set_option maxRecDepth 100000

theorem join_list (s t : ByteArray) : (s ++ t).data.toList = s.data.toList ++ t.data.toList := by simp
end Go.Proofs.YtmlmnbcnfalaaaaDoor
namespace Go.Proofs.YtmlmnbcnfalaaaaDoor
open Go.RowKit Go.Lib
set_option maxRecDepth 100000

/-! ### plainly -/
/-! ### the walks -/
end Go.Proofs.YtmlmnbcnfalaaaaDoor
namespace Go.Proofs.YtmlmnbcnfalaaaaDoor
open Go.RowKit Go.Lib
set_option maxRecDepth 100000

/-! ### valid -/
theorem cut_join {l : List UInt8} (hv : validD l = true) (a b n : Nat) (h1 : a ≤ b) (h2 : b ≤ n) (h3 : n = (runes l).length) : cutOf l 0 a ++ cutOf l a b ++ cutOf l b n = l := by
 unfold cutOf
 rw [← encA_append, ← encA_append]
 conv => rhs; rw [← valid_eq hv]
 congr 1
 rw [List.drop_zero, Nat.sub_zero, ← List.drop_take, ← List.drop_take]
 conv => rhs; rw [← List.take_append_drop b (runes l)]
 rw [h3, List.take_length]
 congr 1
 conv => rhs; rw [← List.take_append_drop a ((runes l).take b), List.take_take, Nat.min_eq_left h1]
end Go.Proofs.YtmlmnbcnfalaaaaDoor
