/-
  Contracts of copyistkit's Same, Pick and Own at ints. Conditions: the arguments read as lists of ints.
-/
import Derived.Test.YtbfldnppfenbgaaDoorBase
import Derived.Test.YtbfldnppfenbgaaDoorChecked
namespace Go.Proofs.YtbfldnppfenbgaaDoor
open Go.RowKit
set_option maxRecDepth 100000

theorem take_eq_of {xs ys : List Int} (hl : xs.length = ys.length) (k : Nat) (hk : ¬ k < xs.length) (h : ∀ j, j < k → xs[j]? = ys[j]?) : xs = ys := by
  apply List.ext_getElem? 
  intro i
  by_cases hi : i < k
  · exact h i hi
  · rw [List.getElem?_eq_none (by omega), List.getElem?_eq_none (by omega)]

set_option maxHeartbeats 400000 in
theorem same_int_walk (b off c b' off' c' : Nat) (xs ys : List Int) (w : World) (hl : xs.length = ys.length) (h0 : 0 < xs.length) (hn : xs.length ≤ 9223372036854775807)
    (h1 : ∀ j x, xs[j]? = some x → w.cell? ⟨b, off + j, none⟩ = some (.int .i64 x)) (h2 : ∀ j x, ys[j]? = some x → w.cell? ⟨b', off' + j, none⟩ = some (.int .i64 x)) :
    Calls Tryd.prog 12 #[.slice (some ⟨b, off, none⟩) xs.length c, .slice (some ⟨b', off', none⟩) xs.length c'] w fun e w' => e = .returned (.bool (decide (xs = ys))) ∧ ∃ q, w' = w.drewN q := by
  have H1 := Lib.hid h1
  have H2 := Lib.hid h2
  have HL := Lib.hid hl
  clear h1 h2 hl
  go_enter Tryd.func12, Tryd.ntmps12
  go_wp2
  go_loopw [5] (fun i wr => ∃ k q : Nat, k ≤ xs.length ∧ i = .int .i64 k ∧ wr = w.drewN q ∧ ∀ j, j < k → xs[j]? = ys[j]?) (fun i _ => xs.length - (intOf i).toNat)
  case atStart => exact ⟨0, 0, Nat.zero_le _, rfl, rfl, fun _ h => absurd h (by omega)⟩
  case round =>
    obtain ⟨k, q, hk, rfl, rfl, hj⟩ := hrel
    have HJ := Lib.hid hj
    clear hj
    by_cases hlt : k < xs.length
    · have hlt' : k < ys.length := by have := HL.out; omega
      have c1 := H1.out k _ (List.getElem?_eq_getElem hlt)
      have c2 := H2.out k _ (List.getElem?_eq_getElem hlt')
      have X1 : xs[k]? = some xs[k] := List.getElem?_eq_getElem hlt
      have X2 : ys[k]? = some ys[k] := List.getElem?_eq_getElem hlt'
      have HX1 := Lib.hid X1
      have HX2 := Lib.hid X2
      clear X1 X2
      generalize xs[k] = x at c1 HX1
      generalize ys[k] = y at c2 HX2
      by_cases hxy : x = y
      · have hb : (x != y) = false := by simp [hxy]
        have HE := Lib.hid hxy
        clear hxy
        go_wp2
        go_quiet (fail)
        go_wp2
        go_roundw
        case rel =>
          refine ⟨k + 1, _, by omega, by go_num, rfl, fun j hj => ?_⟩
          by_cases e : j = k
          · subst e; rw [HX1.out, HX2.out, HE.out]
          · exact HJ.out j (by omega)
        case measure => simp [intOf]; omega
      · have hb : (x != y) = true := by simp [hxy]
        have HE := Lib.hid hxy
        clear hxy
        go_wp2
        go_quiet (fail)
        go_wp2
        go_ret
        refine ⟨ret_bool ?_, _, World.drewN_drewN _ _ _⟩
        symm
        rw [decide_eq_false_iff_not]
        intro e
        have h1 := HX1.out
        rw [e, HX2.out] at h1
        exact HE.out (Option.some.inj h1.symm)
    · go_wp2
      go_ret
      refine ⟨ret_bool ?_, _, rfl⟩
      symm
      rw [decide_eq_true_eq]
      exact take_eq_of HL.out k hlt HJ.out

theorem same_int_len (A B : Option Addr) (n m c d : Nat) (w : World) (h : n ≠ m) (hn : n ≤ 9223372036854775807) (hm : m ≤ 9223372036854775807) :
    Calls Tryd.prog 12 #[.slice A n c, .slice B m d] w fun e w' => e = .returned (.bool false) ∧ w = w' := by
  have hb : ((n : Int) != (m : Int)) = true := by rw [bne_iff_ne]; omega
  clear h
  go_enter Tryd.func12, Tryd.ntmps12
  go_wp2
  go_ret
  exact ⟨rfl, rfl⟩
theorem same_int_empty (A B : Option Addr) (c d : Nat) (w : World) :
    Calls Tryd.prog 12 #[.slice A 0 c, .slice B 0 d] w fun e w' => e = .returned (.bool true) ∧ w = w' := by
  go_enter Tryd.func12, Tryd.ntmps12
  go_wp2
  refine wp_loop_rounds 1 ?_
  rw [rounds_succ]
  go_wp2
  go_ret
  exact ⟨rfl, rfl⟩
/-- copyistkit.Same at ints. -/
theorem same_int (B : Nat) (v v' : Value) (xs ys : List Int) (w : World) (h1 : Ints w B v xs) (h2 : Ints w B v' ys) :
    Calls Tryd.prog 12 #[v, v'] w fun e w' => e = .returned (.bool (decide (xs = ys))) ∧ ∃ q, w' = w.drewN q := by
  obtain ⟨A, c, rfl, hc1, hm1, ha⟩ := h1
  obtain ⟨A', c', rfl, hc2, hm2, hb⟩ := h2
  by_cases hl : xs.length = ys.length
  · by_cases h0 : 0 < xs.length
    · obtain ⟨b, off, rfl, _, hx⟩ := ha h0
      obtain ⟨b', off', rfl, _, hy⟩ := hb (by omega)
      have := same_int_walk b off c b' off' c' xs ys w hl h0 (by omega) hx hy
      rw [← hl]
      exact this
    · have e1 : xs = [] := List.eq_nil_of_length_eq_zero (by omega)
      have e2 : ys = [] := List.eq_nil_of_length_eq_zero (by omega)
      subst e1; subst e2
      exact (same_int_empty A A' c c' w).mono fun e w' ⟨he, hw⟩ => ⟨he, 0, hw.symm⟩
  · have hne : xs ≠ ys := fun e => hl (by rw [e])
    rw [decide_eq_false hne]
    exact (same_int_len A A' _ _ c c' w hl (by omega) (by omega)).mono fun e w' ⟨he, hw⟩ => ⟨he, 0, hw.symm⟩

/-- Pick: a place among n, whatever the number. -/
def pickOf (i n : Int) : Int := if n ≤ 0 then 0 else if i.tmod n < 0 then i.tmod n + n else i.tmod n
theorem pick_any (i n : Int) (w : World) (h0 : -9223372036854775808 ≤ i) (h1 : i ≤ 9223372036854775807) (h2 : -9223372036854775808 ≤ n) (h3 : n ≤ 9223372036854775807) :
    Calls Tryd.prog 14 #[.int .i64 i, .int .i64 n] w fun e w' => e = .returned (.int .i64 (pickOf i n)) ∧ w = w' := by
  by_cases hn : n ≤ 0
  · go_enter Tryd.func14, Tryd.ntmps14
    go_wp2
    go_ret
    exact ⟨ret_int (by rw [pickOf, if_pos hn]), rfl⟩
  · have hz : (n == 0) = false := beq_eq_false_iff_ne.2 (by omega)
    have t1 : i.tmod n < n := Int.tmod_lt_of_pos i (by omega)
    have t2 : -n < i.tmod n := Int.lt_tmod_of_pos i (by omega)
    go_enter Tryd.func14, Tryd.ntmps14
    go_wp2
    · have ht : i.tmod n < 0 := by assumption
      go_ret
      exact ⟨ret_int (by rw [pickOf, if_neg (by omega), if_pos ht]), rfl⟩
    · have ht : 0 ≤ i.tmod n := by assumption
      go_ret
      exact ⟨ret_int (by rw [pickOf, if_neg (by omega), if_neg (by omega)]), rfl⟩
theorem pick_range (i n : Int) (h : 0 < n) : 0 ≤ pickOf i n ∧ pickOf i n < n := by
  have t1 : i.tmod n < n := Int.tmod_lt_of_pos i h
  have t2 : -n < i.tmod n := Int.lt_tmod_of_pos i h
  unfold pickOf
  rw [if_neg (by omega)]
  split <;> omega

end Go.Proofs.YtbfldnppfenbgaaDoor
