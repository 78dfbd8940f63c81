/-
  Ranked words in plain terms: a stable sort by depth, done by insertion. No program in this text. Conditions: none.
-/
import Derived.Test.YtaaebeiigkhcjaaGreatDoorHeapIs
namespace Go.Proofs.YtaaebeiigkhcjaaGreatDoor
abbrev Rk := Wd × Int
def rk0 : Rk := ((0, 0), 0)
def rkC (l : List Rk) : List Value := l.flatMap fun x => [.int .i64 x.1.1, .int .i64 x.1.2, .int .i64 x.2]
def SortedR (l : List Rk) : Prop := l.Pairwise fun a b => a.2 ≤ b.2
def atD (t : Int) (l : List Rk) : List Rk := l.filter fun x => decide (x.2 = t)
theorem atD_app (t : Int) (a b : List Rk) : atD t (a ++ b) = atD t a ++ atD t b := List.filter_append ..
theorem atD_mem {t : Int} {l : List Rk} {x : Rk} : x ∈ atD t l ↔ x ∈ l ∧ x.2 = t := by unfold atD; rw [List.mem_filter, decide_eq_true_eq]
structure StabR (xs ys : List Rk) : Prop where
  sorted : SortedR ys
  same : ∀ t : Int, atD t ys = atD t xs
  perm : ys.Perm xs
theorem StabR.nil : StabR [] [] := ⟨List.Pairwise.nil, fun _ => rfl, List.Perm.refl _⟩
theorem StabR.mem {xs ys : List Rk} (h : StabR xs ys) {x : Rk} : x ∈ ys ↔ x ∈ xs := h.perm.mem_iff
theorem StabR.len {xs ys : List Rk} (h : StabR xs ys) : ys.length = xs.length := h.perm.length_eq
theorem atD_none {t : Int} {l : List Rk} (h : ∀ y ∈ l, y.2 ≠ t) : atD t l = [] := by
  unfold atD
  rw [List.filter_eq_nil_iff]
  intro y hy
  simpa using h y hy
theorem stab_insert {xs pre : List Rk} {x : Rk} {j : Nat} (h : StabR pre xs) (h1 : ∀ y ∈ xs.drop j, x.2 < y.2) (h2 : ∀ y ∈ xs.take j, y.2 ≤ x.2) : StabR (pre ++ [x]) (xs.take j ++ x :: xs.drop j) := by
  have hs := h.sorted
  have hxs : xs.take j ++ xs.drop j = xs := List.take_append_drop j xs
  refine ⟨?_, fun t => ?_, ?_⟩
  · unfold SortedR at hs ⊢
    rw [← hxs, List.pairwise_append] at hs
    rw [List.pairwise_append, List.pairwise_cons]
    refine ⟨hs.1, ⟨fun b hb => Int.le_of_lt (h1 b hb), hs.2.1⟩, fun a ha b hb => ?_⟩
    rcases List.mem_cons.1 hb with e | e
    · rw [e]; exact h2 a ha
    · exact hs.2.2 a ha b e
  · rw [atD_app, atD_app, ← h.same t]
    have e : atD t xs = atD t (xs.take j) ++ atD t (xs.drop j) := by rw [← atD_app, hxs]
    rw [e]
    by_cases ht : x.2 = t
    · rw [atD_none (l := xs.drop j) fun y hy => by have := h1 y hy; omega]
      unfold atD
      rw [List.filter_cons_of_pos (by simpa using ht)]
      have e2 : (xs.drop j).filter (fun y => decide (y.2 = t)) = [] := atD_none fun y hy => by have := h1 y hy; omega
      rw [e2, List.append_nil, List.filter_cons_of_pos (by simpa using ht), List.filter_nil]
    · unfold atD
      rw [List.filter_cons_of_neg (by simpa using ht), List.filter_cons_of_neg (by simpa using ht), List.filter_nil, List.append_nil]
  · refine (List.perm_middle).trans ?_
    rw [hxs]
    exact (List.Perm.cons x h.perm).trans (List.perm_append_singleton x pre).symm
theorem stab_unique : ∀ {ys zs : List Rk}, SortedR ys → SortedR zs → (∀ t, atD t ys = atD t zs) → ys = zs
  | [], zs, _, _, h => by
    cases zs with
    | nil => rfl
    | cons z k =>
      have h1 : z ∈ atD z.2 (z :: k) := atD_mem.2 ⟨List.mem_cons_self .., rfl⟩
      rw [← h z.2] at h1
      cases (atD_mem.1 h1).1
  | y :: l, [], _, _, h => by
    have h1 : y ∈ atD y.2 (y :: l) := atD_mem.2 ⟨List.mem_cons_self .., rfl⟩
    rw [h y.2] at h1
    cases (atD_mem.1 h1).1
  | y :: l, z :: k, hy, hz, h => by
    have hy' := List.pairwise_cons.1 hy
    have hz' := List.pairwise_cons.1 hz
    have a : y.2 ≤ z.2 := by
      have h1 : z ∈ atD z.2 (z :: k) := atD_mem.2 ⟨List.mem_cons_self .., rfl⟩
      rw [← h z.2] at h1
      rcases List.mem_cons.1 (atD_mem.1 h1).1 with e | e
      · rw [e]; exact Int.le_refl _
      · exact hy'.1 z e
    have b : z.2 ≤ y.2 := by
      have h1 : y ∈ atD y.2 (y :: l) := atD_mem.2 ⟨List.mem_cons_self .., rfl⟩
      rw [h y.2] at h1
      rcases List.mem_cons.1 (atD_mem.1 h1).1 with e | e
      · rw [e]; exact Int.le_refl _
      · exact hz'.1 y e
    have e : y.2 = z.2 := by omega
    have key := h y.2
    unfold atD at key
    rw [List.filter_cons_of_pos (by simp), List.filter_cons_of_pos (by simpa using e.symm)] at key
    obtain ⟨rfl, _⟩ := List.cons.inj key
    rw [stab_unique hy'.2 hz'.2 fun t => ?_]
    have := h t
    unfold atD at this ⊢
    by_cases ht : y.2 = t
    · rw [List.filter_cons_of_pos (by simpa using ht), List.filter_cons_of_pos (by simpa using ht)] at this
      exact (List.cons.inj this).2
    · rwa [List.filter_cons_of_neg (by simpa using ht), List.filter_cons_of_neg (by simpa using ht)] at this
theorem StabR.filter {xs ys : List Rk} (h : StabR xs ys) (p : Rk → Bool) : StabR (xs.filter p) (ys.filter p) := by
  refine ⟨List.Pairwise.sublist List.filter_sublist h.sorted, fun t => ?_, h.perm.filter p⟩
  have := congrArg (List.filter p) (h.same t)
  unfold atD at this ⊢
  rw [List.filter_filter, List.filter_filter] at this
  rw [List.filter_filter, List.filter_filter]
  simpa [Bool.and_comm] using this
theorem rkC_len : ∀ l : List Rk, (rkC l).length = l.length * 3
  | [] => rfl
  | x :: l => by
    rw [show rkC (x :: l) = [.int .i64 x.1.1, .int .i64 x.1.2, .int .i64 x.2] ++ rkC l from rfl, List.length_append, rkC_len l]
    show 3 + l.length * 3 = (l.length + 1) * 3
    omega
theorem rkC_app (a b : List Rk) : rkC (a ++ b) = rkC a ++ rkC b := by simp [rkC]
theorem rkC_snoc (l : List Rk) (x : Rk) : rkC l ++ [.int .i64 x.1.1, .int .i64 x.1.2, .int .i64 x.2] = rkC (l ++ [x]) := by rw [rkC_app]; rfl
theorem rkC_at {l : List Rk} {j : Nat} (hj : j < l.length) : ((rkC l).drop (((j : Nat) : Int).toNat * 3)).take 3 = [.int .i64 (l.getD j rk0).1.1, .int .i64 (l.getD j rk0).1.2, .int .i64 (l.getD j rk0).2] := by
  rw [Int.toNat_natCast]
  induction l generalizing j with
  | nil => cases hj
  | cons x l ih =>
    cases j with
    | zero => rfl
    | succ j =>
      have := ih (j := j) (by simpa using hj)
      rw [show rkC (x :: l) = [.int .i64 x.1.1, .int .i64 x.1.2, .int .i64 x.2] ++ rkC l from rfl, show (j + 1) * 3 = j * 3 + 1 + 1 + 1 by omega]
      exact this
theorem rkC_set : ∀ {l : List Rk} {j : Nat} (x : Rk), j < l.length → (rkC l).take (j * 3) ++ ([.int .i64 x.1.1, .int .i64 x.1.2, .int .i64 x.2] ++ (rkC l).drop (j * 3 + 3)) = rkC (l.set j x)
  | [], j, x, h => by cases h
  | y :: l, 0, x, h => by rw [Nat.zero_mul]; rfl
  | y :: l, j + 1, x, h => by
    have := rkC_set (l := l) (j := j) x (by simpa using h)
    rw [show rkC (y :: l) = [.int .i64 y.1.1, .int .i64 y.1.2, .int .i64 y.2] ++ rkC l from rfl, show (j + 1) * 3 = j * 3 + 1 + 1 + 1 by omega, show j * 3 + 1 + 1 + 1 + 3 = j * 3 + 3 + 1 + 1 + 1 by omega]
    show .int .i64 y.1.1 :: .int .i64 y.1.2 :: .int .i64 y.2 :: ((rkC l).take (j * 3) ++ ([.int .i64 x.1.1, .int .i64 x.1.2, .int .i64 x.2] ++ (rkC l).drop (j * 3 + 3))) = _
    rw [this]
    rfl
def arrR (xs : List Rk) (x : Rk) (rest : List Rk) (j : Nat) : List Rk := xs.take j ++ x :: (xs.drop j ++ rest)
theorem arrR_len {xs rest : List Rk} {x : Rk} {j : Nat} (hj : j ≤ xs.length) : (arrR xs x rest j).length = xs.length + 1 + rest.length := by
  unfold arrR
  rw [List.length_append, List.length_cons, List.length_append, List.length_take, List.length_drop]
  omega
theorem arrR_at {xs rest : List Rk} {x : Rk} {j : Nat} (hj : j ≤ xs.length) : (arrR xs x rest j).getD j rk0 = x := by
  unfold arrR
  rw [List.getD_eq_getElem?_getD, List.getElem?_append_right (by rw [List.length_take]; omega), List.length_take, show j - min j xs.length = 0 by omega]
  rfl
theorem arrR_below {xs rest : List Rk} {x : Rk} {j : Nat} (hj : j + 1 ≤ xs.length) : (arrR xs x rest (j + 1)).getD j rk0 = xs.getD j rk0 := by
  unfold arrR
  rw [List.getD_eq_getElem?_getD, List.getElem?_append_left (by rw [List.length_take]; omega), List.getElem?_take, if_pos (by omega), ← List.getD_eq_getElem?_getD]
theorem arrR_swap {xs rest : List Rk} {x : Rk} {j : Nat} (hj : j + 1 ≤ xs.length) : ((arrR xs x rest (j + 1)).set (j + 1) (xs.getD j rk0)).set j x = arrR xs x rest j := by
  unfold arrR
  have h1 : xs.take (j + 1) = xs.take j ++ [xs.getD j rk0] := by
    rw [List.take_add_one, List.getD_eq_getElem?_getD, List.getElem?_eq_getElem (by omega)]; rfl
  have h2 : xs.drop j = xs.getD j rk0 :: xs.drop (j + 1) := by
    rw [List.drop_eq_getElem_cons (by omega), List.getD_eq_getElem?_getD, List.getElem?_eq_getElem (by omega)]; rfl
  have hl : (xs.take j).length = j := by rw [List.length_take]; omega
  rw [h1, h2, List.append_assoc]
  rw [List.set_append_right _ _ (by omega), hl, show j + 1 - j = 1 by omega, List.set_append_right _ _ (by omega), hl, Nat.sub_self]
  rfl
theorem arrR_next {xs rest : List Rk} {x : Rk} {j : Nat} : arrR xs x rest j = (xs.take j ++ x :: xs.drop j) ++ rest := by
  unfold arrR; simp
theorem take_all {xs : List Rk} {x : Rk} {j : Nat} (hs : SortedR xs) (h : ∀ k, j = k + 1 → (xs.getD k rk0).2 ≤ x.2) (hj : j ≤ xs.length) : ∀ y ∈ xs.take j, y.2 ≤ x.2 := by
  intro y hy
  cases j with
  | zero => simp at hy
  | succ k =>
    have h1 := h k rfl
    obtain ⟨i, hi, e⟩ := List.mem_iff_getElem.1 hy
    rw [List.length_take] at hi
    rw [List.getElem_take] at e
    subst e
    rw [List.getD_eq_getElem?_getD, List.getElem?_eq_getElem (by omega)] at h1
    by_cases hik : i = k
    · subst hik; exact h1
    · exact Int.le_trans (List.pairwise_iff_getElem.1 hs i k (by omega) (by omega) (by omega)) h1
end Go.Proofs.YtaaebeiigkhcjaaGreatDoor
