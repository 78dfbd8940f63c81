/-
  Contract of package runes: Width. Conditions: none.
-/
import Derived.Test.YtbfldnppfenbgaaDoorChars
namespace Go.Proofs.YtbfldnppfenbgaaDoor
open Go.RowKit Go.Lib
set_option maxRecDepth 100000

theorem width_no {c : Int} (h : chB c = false) : widthOf c = 0 := by simp [widthOf, h]
theorem width_zero {c : Int} (h : chB c = true) (h1 : inAny c zeroT = true) : widthOf c = 0 := by simp [widthOf, h, h1]
theorem width_two {c : Int} (h : chB c = true) (h1 : inAny c zeroT = false) (h2 : inAny c twoT = true) : widthOf c = 2 := by simp [widthOf, h, h1, h2]
theorem width_one {c : Int} (h : chB c = true) (h1 : inAny c zeroT = false) (h2 : inAny c twoT = false) : widthOf c = 1 := by simp [widthOf, h, h1, h2]
theorem alloc_at {w : World} (n : Nat) (h : w.heap.size = n) (o : Obj) : (w.alloc o).heap[n]? = some o := by subst h; exact heap_alloc_new w o
/-- The two tables of Width in memory. -/
def wTabs (w : World) (Z1 Z2 : Array Value) : World := ((((w.alloc (.cells Z1 47)).setRow w.heap.size zeroCells).alloc (.cells Z2 48)).setRow (w.heap.size + 1) twoCells)
theorem wTabs_below (w : World) (Z1 Z2 : Array Value) : Below w.heap.size w (wTabs w Z1 Z2) :=
  below_setRow ((row_below w Z1 zeroCells 47).alloc (by simp) _) (by omega) _
theorem wTabs_zero (w : World) (Z1 Z2 : Array Value) : (wTabs w Z1 Z2).heap[w.heap.size]? = some (.cells zeroCells 47 (0, 0)) := by
  unfold wTabs
  rw [setRow_other _ _ _ _ (by omega), Below.heap_alloc _ _ _ (by simp)]
  exact row_new w Z1 zeroCells 47
theorem wTabs_two (w : World) (Z1 Z2 : Array Value) : (wTabs w Z1 Z2).heap[w.heap.size + 1]? = some (.cells twoCells 48 (0, 0)) := by
  unfold wTabs
  exact setRow_heap _ _ Z2 twoCells 48 (0, 0) (alloc_at _ (by simp) _)

set_option maxHeartbeats 4000000 in
theorem width_any (c : Int) (w : World) : Calls Tryd.prog 21 #[.int .i64 c] w fun e w' => e = .returned (.int .i64 (widthOf c)) ∧ Below w.heap.size w w' := by
  have IS := Lib.hid (fun w' => is_any c w')
  have C1 := Lib.hid (fun Z1 Z2 => in_zero c w _ w.heap.size (wTabs_zero w Z1 Z2) (wTabs_below w Z1 Z2))
  have C2 := Lib.hid (fun Z1 Z2 w' (hb : Below (wTabs w Z1 Z2).heap.size (wTabs w Z1 Z2) w') => in_two c w w' (w.heap.size + 1) ((hb.block _ (Array.getElem?_eq_some_iff.1 (wTabs_two w Z1 Z2)).1).trans (wTabs_two w Z1 Z2)) ((wTabs_below w Z1 Z2).trans (hb.mono (wTabs_below w Z1 Z2).size)))
  have BT := Lib.hid (wTabs_below w)
  go_enter Tryd.func21, Tryd.ntmps21
  go_wp2_with (first
    | (with_reducible refine wpList_buildTo rfl 47 _ rfl (some 12) rfl zeroCells (by as_aux_lemma => kernel_rfl) ?_)
    | (with_reducible refine wpList_store_row rfl 47 _ _ rfl w.heap.size zeroCells rfl rfl 47 _ (heap_alloc_new w _) (by as_aux_lemma => kernel_rfl) (by as_aux_lemma => kernel_rfl) (by as_aux_lemma => kernel_rfl) ?_)
    | (with_reducible refine wpList_buildTo rfl 48 _ rfl (some 27) rfl twoCells (by as_aux_lemma => kernel_rfl) ?_)
    | (with_reducible refine wpList_store_row rfl 48 _ _ rfl (w.heap.size + 1) twoCells rfl rfl 48 _ (alloc_at _ (by simp) _) (by as_aux_lemma => kernel_rfl) (by as_aux_lemma => kernel_rfl) (by as_aux_lemma => kernel_rfl) ?_))
  refine (IS.out _).mono ?_
  cases h : chB c with
  | false =>
    have HW := Lib.hid (width_no h)
    clear h
    rintro e w' ⟨rfl, rfl⟩
    go_wp2
    go_ret
    exact ⟨by rw [HW.out]; rfl, BT.out _ _⟩
  | true =>
    rintro e w' ⟨rfl, rfl⟩
    cases h1 : inAny c zeroT with
    | true =>
      have HW := Lib.hid (width_zero h h1)
      rw [h1] at C1
      clear h h1
      go_wp2_with fail
      refine (C1.out _ _).mono ?_
      rintro e w1 ⟨rfl, hb1, _⟩
      go_wp2
      go_ret
      exact ⟨by rw [HW.out]; rfl, hb1⟩
    | false =>
      cases h2 : inAny c twoT with
      | true =>
        have HW := Lib.hid (width_two h h1 h2)
        rw [h1] at C1
        rw [h2] at C2
        clear h h1 h2
        go_wp2_with fail
        refine (C1.out _ _).mono ?_
        rintro e w1 ⟨rfl, hb1, hb1'⟩
        have c2 := Lib.hid (C2.out _ _ w1 hb1')
        clear hb1' C1 C2
        go_wp2_with fail
        refine c2.out.mono ?_
        rintro e w2 ⟨rfl, hb2, _⟩
        go_wp2
        go_ret
        exact ⟨by rw [HW.out]; rfl, hb2⟩
      | false =>
        have HW := Lib.hid (width_one h h1 h2)
        rw [h1] at C1
        rw [h2] at C2
        clear h h1 h2
        go_wp2_with fail
        refine (C1.out _ _).mono ?_
        rintro e w1 ⟨rfl, hb1, hb1'⟩
        have c2 := Lib.hid (C2.out _ _ w1 hb1')
        clear hb1' C1 C2
        go_wp2_with fail
        refine c2.out.mono ?_
        rintro e w2 ⟨rfl, hb2, _⟩
        go_wp2
        go_ret
        exact ⟨by rw [HW.out]; rfl, hb2⟩
end Go.Proofs.YtbfldnppfenbgaaDoor
