/-
  HeapFull in the second memory: cuts of the row of all conses. Conditions: none.
-/
import Derived.Test.YthmfiahmfdadgaaDoorFc
namespace Go.Proofs.YthmfiahmfdadgaaDoor
open Go.RowKit
set_option maxRecDepth 100000
section
variable {G : Nat} {σ : Mem}
theorem OwnW.sl {v : Value} {l : List Wd} (h : OwnW G σ v l) : Sl σ 2 v (wdC l) := by
  cases h with
  | emp hb hr => exact .some hr rfl fun i x hi => by simp [wdC] at hi
  | row h0 h => exact h.sl
theorem wdC_app (a b : List Wd) : wdC (a ++ b) = wdC a ++ wdC b := by simp [wdC]
theorem wdC_take (l : List Wd) (k : Nat) (hk : k ≤ l.length) : wdC (l.take k) = (wdC l).take (k * 2) := by
  have h1 : wdC l = wdC (l.take k) ++ wdC (l.drop k) := by rw [← wdC_app, List.take_append_drop]
  have h2 : (wdC (l.take k)).length = k * 2 := by rw [wdC_length, List.length_take]; congr 1; omega
  rw [h1, ← h2, List.take_left]
theorem wdC_drop (l : List Wd) (k : Nat) (hk : k ≤ l.length) : wdC (l.drop k) = (wdC l).drop (k * 2) := by
  have h1 : wdC l = wdC (l.take k) ++ wdC (l.drop k) := by rw [← wdC_app, List.take_append_drop]
  have h2 : (wdC (l.take k)).length = k * 2 := by rw [wdC_length, List.length_take]; congr 1; omega
  rw [h1, ← h2, List.drop_left]
theorem cut_low {v : Value} {l : List Wd} {k : Nat} (g : GRow G σ 24 2 v l.length (wdC l)) (h0 : 0 < l.length) (hk : k ≤ l.length) : ∃ v', sliceF Tryd.prog 22 v none (some (.int .i64 (k : Int))) none = some v' ∧ ∀ σ', (∀ b y, σ.get b = some y → σ'.get b = some y) → srcF σ' 2 v' = some ((l.take k).length, wdC (l.take k)) := by
  have ht : uT Tryd.prog 22 = some (.slice 24) := by kernel_rfl
  have hs : sizeT Tryd.prog 24 = some 2 := by kernel_rfl
  obtain ⟨q, c, r, rfl, hq, hr, hrt, hc, hl, hx⟩ := gr_row g h0
  refine ⟨.slice (some ⟨q, 0, some 2⟩) k c, ?_, fun σ' ho => ?_⟩
  · unfold sliceF
    simp only [ht, hs, boundF]
    rw [if_pos (show (0 : Int) ≤ (k : Int) ∧ (k : Int) ≤ (c : Nat) by omega)]
    simp only [Int.toNat_natCast]
    rw [if_pos (show True ∧ k ≤ c from ⟨trivial, by omega⟩)]
    simp
  · have hr' := ho _ _ hr
    rw [List.length_take, Nat.min_eq_left hk]
    unfold srcF
    by_cases hk0 : k = 0
    · subst hk0; simp [wdC]
    · simp only [if_neg hk0, hr']
      rw [if_pos (by omega), wdC_take l k hk, ← hx, List.take_take, List.drop_zero, Nat.min_eq_left (by omega)]
theorem cut_high {v : Value} {l : List Wd} {k : Nat} (g : GRow G σ 24 2 v l.length (wdC l)) (h0 : 0 < l.length) (hk : k ≤ l.length) : ∃ v', sliceF Tryd.prog 22 v (some (.int .i64 (k : Int))) none none = some v' ∧ ∀ σ', (∀ b y, σ.get b = some y → σ'.get b = some y) → srcF σ' 2 v' = some ((l.drop k).length, wdC (l.drop k)) := by
  have ht : uT Tryd.prog 22 = some (.slice 24) := by kernel_rfl
  have hs : sizeT Tryd.prog 24 = some 2 := by kernel_rfl
  obtain ⟨q, c, r, rfl, hq, hr, hrt, hc, hl, hx⟩ := gr_row g h0
  refine ⟨.slice (some (if c = k then ⟨q, 0, some 2⟩ else ⟨q, 0 + k * 2, some 2⟩)) (l.length - k) (c - k), ?_, fun σ' ho => ?_⟩
  · unfold sliceF
    simp only [ht, hs, boundF]
    rw [if_pos (show (0 : Int) ≤ (k : Int) ∧ (k : Int) ≤ (l.length : Nat) by omega)]
    simp only [Int.toNat_natCast]
    rw [if_pos (show True ∧ l.length ≤ c from ⟨trivial, hl⟩)]
  · have hr' := ho _ _ hr
    rw [List.length_drop]
    by_cases hk0 : l.length - k = 0
    · unfold srcF
      rw [hk0]
      have e : l.drop k = [] := List.drop_eq_nil_iff.2 (by omega)
      rw [e]
      by_cases hck : c = k <;> simp [hck, wdC]
    · rw [if_neg (by omega)]
      unfold srcF
      simp only [if_neg hk0, hr']
      rw [if_pos (by omega), wdC_drop l k hk, ← hx, List.drop_take, Nat.zero_add, Nat.sub_mul]
end
end Go.Proofs.YthmfiahmfdadgaaDoor
