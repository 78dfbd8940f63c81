/-
  slices.Reverse, lists.Append and lists.Reverse in the second memory. Conditions: the heap lies there as HeapAt says, no number is free below.
-/
import Derived.Test.YtaaebeiigkhcjaaDoorLw
namespace Go.Proofs.YtaaebeiigkhcjaaDoor
set_option maxRecDepth 100000
theorem overL_two {cs : List Value} {p : Nat} {a b : Value} (h : p + 2 ≤ cs.length) : overL cs p [a, b] = (cs.set p a).set (p + 1) b := by
  apply List.ext_getElem?
  intro i
  rw [overL_get (by simpa using h)]
  simp only [List.length_cons, List.length_nil, List.getElem?_set, List.length_set]
  rcases Nat.lt_or_ge i p with h1 | h1
  · rw [if_neg (by omega), if_neg (by omega), if_neg (by omega)]
  · rcases Nat.eq_or_lt_of_le h1 with h2 | h2
    · subst h2
      simp
      omega
    · rcases Nat.eq_or_lt_of_le h2 with h3 | h3
      · rw [if_pos (by omega), if_pos (by omega), if_pos (by omega), show i - p = 1 by omega]
        rfl
      · rw [if_neg (by omega), if_neg (by omega), if_neg (by omega)]
theorem wdC_over {cs : List Value} {L : List Wd} {k : Nat} (hx : cs.take (L.length * 2) = wdC L) (hc : L.length * 2 ≤ cs.length) (hk : k < L.length) (x : Wd) : (overL cs (k * 2) [.int .i64 x.1, .int .i64 x.2]).take (L.length * 2) = wdC (L.set k x) := by
  rw [overL_two (by omega), List.take_set, List.take_set, hx, wdC_set _ _ _ hk]
/-- The first k and the last k changed about. -/
def swK (l : List Wd) (k : Nat) : List Wd := (List.range l.length).map fun i => if i < k ∨ l.length - 1 - i < k then l.getD (l.length - 1 - i) (0, 0) else l.getD i (0, 0)
theorem swK_length (l : List Wd) (k : Nat) : (swK l k).length = l.length := by simp [swK]
theorem swK_at (l : List Wd) (k i : Nat) (h : i < l.length) : (swK l k)[i]? = some (if i < k ∨ l.length - 1 - i < k then l.getD (l.length - 1 - i) (0, 0) else l.getD i (0, 0)) := by
  simp [swK, h]
theorem swK_get (l : List Wd) (k i : Nat) (h : i < l.length) : (swK l k).getD i (0, 0) = if i < k ∨ l.length - 1 - i < k then l.getD (l.length - 1 - i) (0, 0) else l.getD i (0, 0) := by
  rw [List.getD_eq_getElem?_getD, swK_at l k i h]
  rfl
theorem getD_at {l : List Wd} {i : Nat} (h : i < l.length) : l[i]? = some (l.getD i (0, 0)) := by simp [List.getD_eq_getElem?_getD, h]
theorem swK_zero (l : List Wd) : swK l 0 = l := by
  apply List.ext_getElem?
  intro i
  rcases Nat.lt_or_ge i l.length with h | h
  · rw [swK_at l 0 i h, if_neg (by omega), ← getD_at h]
  · rw [List.getElem?_eq_none (by rw [swK_length]; exact h), List.getElem?_eq_none h]
theorem swK_succ {l : List Wd} {k j : Nat} (hj : k + 1 + j = l.length) (hk : k < j) : ((swK l k).set k ((swK l k).getD j (0, 0))).set j ((swK l k).getD k (0, 0)) = swK l (k + 1) := by
  rw [swK_get l k j (by omega), swK_get l k k (by omega), if_neg (by omega), if_neg (by omega)]
  apply List.ext_getElem?
  intro i
  rcases Nat.lt_or_ge i l.length with h | h
  · rw [swK_at l (k + 1) i h]
    simp only [List.getElem?_set, List.length_set, swK_length]
    by_cases h1 : j = i
    · subst h1
      rw [if_pos rfl, if_pos h, if_pos (by omega), show l.length - 1 - j = k by omega]
    · rw [if_neg h1]
      by_cases h2 : k = i
      · subst h2
        rw [if_pos rfl, if_pos h, if_pos (by omega), show l.length - 1 - k = j by omega]
      · rw [if_neg h2, swK_at l k i h]
        by_cases h3 : i < k ∨ l.length - 1 - i < k
        · rw [if_pos h3, if_pos (by omega)]
        · rw [if_neg h3, if_neg (by omega)]
  · rw [List.getElem?_eq_none (by simp [swK_length]; exact h), List.getElem?_eq_none (by rw [swK_length]; exact h)]
theorem swK_done {l : List Wd} {k : Nat} (h : l.length ≤ 2 * k + 1) : swK l k = l.reverse := by
  apply List.ext_getElem?
  intro i
  rcases Nat.lt_or_ge i l.length with hi | hi
  · rw [swK_at l k i hi, List.getElem?_reverse hi]
    by_cases h3 : i < k ∨ l.length - 1 - i < k
    · rw [if_pos h3, ← getD_at (by omega)]
    · rw [if_neg h3, ← getD_at hi, show l.length - 1 - i = i by omega]
  · rw [List.getElem?_eq_none (by rw [swK_length]; exact hi), List.getElem?_eq_none (by simpa using hi)]
section
variable {G h : Nat} {m : HM} {σ σ0 : Mem}
theorem gr_row {v : Value} {xs : List Value} {n : Nat} {e : TypeId} (g : GRow G σ e 2 v n xs) (hn : 0 < n) : ∃ q c r, v = .slice (some ⟨q, 0, some 2⟩) n c ∧ G ≤ q ∧ σ.get q = some (.row r) ∧ r.t = e ∧ r.cs.length = c * 2 ∧ n ≤ c ∧ r.cs.take (n * 2) = xs := by
  cases g with
  | nil => omega
  | row hq hr ht hc hl hx => exact ⟨_, _, _, rfl, hq, hr, ht, hc, hl, hx⟩
theorem gr_at {q c : Nat} {r : Row} {l : List Wd} (g : GRow G σ 28 2 (.slice (some ⟨q, 0, some 2⟩) l.length c) l.length (wdC l)) (hr : σ.get q = some (.row r)) {j : Nat} (hj : j < l.length) : (r.cs.drop (0 + ((j : Nat) : Int).toNat * 2)).take 2 = [.int .i64 (l.getD j (0, 0)).1, .int .i64 (l.getD j (0, 0)).2] := by
  obtain ⟨b, p, sp, c', r', e, hr', hc'⟩ := sl_at g.sl hj
  cases e
  rw [hr] at hr'
  cases hr'
  exact hc'
end
end Go.Proofs.YtaaebeiigkhcjaaDoor
