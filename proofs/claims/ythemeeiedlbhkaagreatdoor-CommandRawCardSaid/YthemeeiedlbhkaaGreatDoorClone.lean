/-
  Contracts of slices.Clone at words: the clone is a row of its own. Conditions: the argument reads as a list of words.
-/
import Derived.Test.YthemeeiedlbhkaaGreatDoorHeapIs
import Derived.Test.YthemeeiedlbhkaaGreatDoorChecked
import Derived.Lib.SliceRun
namespace Go.Proofs.YthemeeiedlbhkaaGreatDoor
open Go.RowKit
set_option maxRecDepth 100000

theorem wdC_length (l : List Wd) : (wdC l).length = l.length * 2 := by
  induction l with
  | nil => rfl
  | cons x l ih => simp [wdC] at ih ⊢; omega
theorem wdC_one (l : List Wd) : ∀ u ∈ wdC l, u.oneCell' = true := by
  intro u hu
  simp only [wdC, List.mem_flatMap, List.mem_cons, List.not_mem_nil, or_false] at hu
  obtain ⟨x, _, rfl | rfl⟩ := hu <;> rfl
theorem info_word : (Tryz.prog.info? 76).map (fun i => (i.zero, i.size, i.bytes)) = some (some (.agg #[.int .i64 0, .int .i64 0]), 2, 16) := by kernel_rfl

theorem clone_words_nil (c : Nat) (w : World) :
    Calls Tryz.prog 194 #[.slice none 0 c] w fun e w' => e = .returned (.slice none 0 0) ∧ w = w' := by
  have q : ∀ (w : World) (a : Option Addr) (n c n' c' : Nat), (binOp .eql 111 (.slice a n c) (.slice none n' c')).run Tryz.prog w = .ok (.bool a.isNone) w := fun w a n c n' c' => Lib.run_eql_slice_nil w _ _ a n c n' c' Tryz.underlying111
  go_enter Tryz.func194, Tryz.ntmps194
  go_wp2
  go_ret
  exact ⟨rfl, rfl⟩
theorem clone_words_some (a : Addr) (n c : Nat) (l : List Wd) (w : World) (hn : n ≤ 2000000) (hr : Reads w w.heap.size 2 (some a) n (wdC l)) :
    Calls Tryz.prog 194 #[.slice (some a) n c] w fun e w' => ∃ v, e = .returned v ∧ w'.ownsRow w.heap.size 76 2 v n (wdC l) ∧ Below w.heap.size w w' := by
  have q : ∀ (w : World) (a : Option Addr) (n c n' c' : Nat), (binOp .eql 111 (.slice a n c) (.slice none n' c')).run Tryz.prog w = .ok (.bool a.isNone) w := fun w a n c n' c' => Lib.run_eql_slice_nil w _ _ a n c n' c' Tryz.underlying111
  obtain ⟨i0, hi, hz0, hz1, hz2⟩ := info_parts info_word
  have H0 : (w.alloc (.cells #[] 76)).ownsRow w.heap.size 76 2 (.slice (some ⟨w.heap.size, 0, none⟩) 0 0) 0 [] :=
    ⟨rfl, .inr ⟨w.heap.size, 0, #[], rfl, Nat.le_refl _, Blk.new _ _ _, Nat.le_refl _, Nat.zero_le _, rfl, rfl⟩⟩
  have HR := Lib.hid (hr.alloc (Nat.le_refl _) (.cells #[] 76))
  have H0' := Lib.hid H0
  clear H0 hr
  go_enter Tryz.func194, Tryz.ntmps194
  go_wp2_with (at_builtin; refine (wpList_append_any _ rfl (.tmp 5) (.tmp 6) _ rfl w.heap.size 76 i0 _ 2 16 Tryz.underlying111 hi hz0 hz1 hz2 rfl (by omega) (.slice (some ⟨w.heap.size, 0, none⟩) 0 0) 0 [] rfl H0'.out w.heap.size (some a) n c (wdC l) rfl HR.out (wdC_one l) (by simp only [maxLen]; omega) (by omega) (by simp) ?_); intro v1 w1 hown1 hgrow1 hat1)
  have hb : Below w.heap.size w w1 := ((Below.refl _ _).alloc (Nat.le_refl _) _).grown hgrow1 (by simp) (fun k hk => by simp [Value.ownBlock] at hk; omega)
  have HO := Lib.hid hown1
  clear hown1 hgrow1 hat1
  go_wp2
  go_ret
  exact ⟨_, rfl, by simpa using HO.out, hb⟩
/-- slices.Clone at words. -/
theorem clone_words (A : Option Addr) (n c : Nat) (l : List Wd) (w : World) (hn : n ≤ 2000000) (hr : Reads w w.heap.size 2 A n (wdC l)) :
    Calls Tryz.prog 194 #[.slice A n c] w fun e w' => ∃ v, e = .returned v ∧ w'.ownsRow w.heap.size 76 2 v n (wdC l) ∧ Below w.heap.size w w' := by
  rcases A with _ | a
  · have h0 : n = 0 := by
      rcases Nat.eq_zero_or_pos n with h | h
      · exact h
      · obtain ⟨ad, h, _⟩ := hr.2 h
        cases h
    subst h0
    have hl : wdC l = [] := List.eq_nil_of_length_eq_zero (by simpa using hr.1)
    rw [hl]
    exact (clone_words_nil c w).mono fun e w' ⟨he, hw⟩ => ⟨_, he, World.ownsRow_nil _ _ _ _, hw ▸ Below.refl _ _⟩
  · exact clone_words_some a n c l w hn hr
end Go.Proofs.YthemeeiedlbhkaaGreatDoor
