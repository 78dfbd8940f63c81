/-
  The plain law of HeapCollect: the law's own marking ends with what the roots reach. No walk in this text. Conditions: none.
-/
import Derived.Test.YthmfiahmfdadgaaDoorKept
namespace Go.Proofs.YthmfiahmfdadgaaDoor
set_option maxRecDepth 100000

def consW (k : Nat) : Wd := (2, (k : Int))
/-- The heap of pairs: the pair under i holds the words of c i and d i. -/
def pairs (c d : Nat → Nat) (n : Nat) : List (Option HObj) := (List.range n).map fun i => some (.pair (consW (c i)) (consW (d i)))
theorem pairs_get (c d : Nat → Nat) (n i : Nat) (h : i < n) : (pairs c d n)[i]? = some (some (.pair (consW (c i)) (consW (d i)))) := by simp [pairs, h]
theorem pairs_length (c d : Nat → Nat) (n : Nat) : (pairs c d n).length = n := by simp [pairs]
theorem pairs_succ (c d : Nat → Nat) (n : Nat) : pairs c d (n + 1) = pairs c d n ++ [some (.pair (consW (c n)) (consW (d n)))] := by simp [pairs, List.range_succ]
theorem pairs_find {m : HM} {c d : Nat → Nat} {n : Nat} (hm : m.objs = pairs c d n) (k : Nat) : m.find (consW k) = if k < n then some (.pair (consW (c k)) (consW (d k))) else none := by
  unfold HM.find
  have h0 : ¬ (consW k).2 < 0 := by simp [consW]
  have h1 : (consW k).2.toNat = k := by simp [consW]
  rw [if_neg h0, h1, hm]
  by_cases h : k < n
  · rw [pairs_get c d n k h, if_pos h]; simp [consW, HObj.kind]
  · rw [if_neg h, List.getElem?_eq_none (by rw [pairs_length]; omega)]
theorem pairs_find_some {m : HM} {c d : Nat → Nat} {n : Nat} (hm : m.objs = pairs c d n) {k : Nat} {o : HObj} (h : m.find (consW k) = some o) : k < n := by
  rw [pairs_find hm] at h
  by_cases hk : k < n
  · exact hk
  · rw [if_neg hk] at h; cases h

/-- The law's own marking: met are done, todo are to be looked at. -/
structure LawInv (m : HM) (c d : Nat → Nat) (n : Nat) (rs : List Nat) (met : List Bool) (todo : List Nat) : Prop where
  len : met.length = 41
  lt : ∀ k ∈ todo, k < 41
  sound : ∀ i : Nat, met[i]? = some true → i < n ∧ Reach m (rs.map consW) i
  todoR : ∀ k ∈ todo, k < n → Reach m (rs.map consW) k
  closed : ∀ i : Nat, met[i]? = some true → ∀ k, k = c i ∨ k = d i → k < n → met[k]? = some true ∨ k ∈ todo
  roots : ∀ k ∈ rs, k < n → met[k]? = some true ∨ k ∈ todo
theorem LawInv.start {m : HM} {c d : Nat → Nat} {n : Nat} (hm : m.objs = pairs c d n) (rs : List Nat) (hr : ∀ k ∈ rs, k < 41) : LawInv m c d n rs (List.replicate 41 false) rs := by
  have hn : ∀ i : Nat, ¬ (List.replicate 41 false)[i]? = some true := fun i h => by
    rw [List.getElem?_replicate] at h; split at h <;> simp at h
  refine ⟨by simp, hr, fun i h => absurd h (hn i), fun k hk hkn => ?_, fun i h => absurd h (hn i), fun k hk _ => .inr hk⟩
  have := Reach.root (m := m) (l := rs.map consW) (consW k) (.pair (consW (c k)) (consW (d k))) (List.mem_map.2 ⟨k, hk, rfl⟩) (by rw [pairs_find hm, if_pos hkn])
  simpa [consW] using this
theorem LawInv.skip {m : HM} {c d : Nat → Nat} {n : Nat} {rs : List Nat} {met : List Bool} {T : List Nat} {k : Nat} (h : LawInv m c d n rs met (T ++ [k])) (hk : n ≤ k ∨ met[k]? = some true) : LawInv m c d n rs met T := by
  have key : ∀ j, j < n → met[j]? = some true ∨ j ∈ T ++ [k] → met[j]? = some true ∨ j ∈ T := fun j hj h => by
    rcases h with h | h
    · exact .inl h
    · rcases List.mem_append.1 h with h | h
      · exact .inr h
      · have e : j = k := by simpa using h
        subst e
        rcases hk with hk | hk
        · omega
        · exact .inl hk
  exact ⟨h.len, fun j hj => h.lt j (List.mem_append_left _ hj), h.sound, fun j hj => h.todoR j (List.mem_append_left _ hj), fun i hi j hj hjn => key j hjn (h.closed i hi j hj hjn), fun j hj hjn => key j hjn (h.roots j hj hjn)⟩
theorem LawInv.mark {m : HM} {c d : Nat → Nat} {n : Nat} (hm : m.objs = pairs c d n) (hc : ∀ i, c i < 41) (hd : ∀ i, d i < 41) {rs : List Nat} {met : List Bool} {T : List Nat} {k : Nat} (h : LawInv m c d n rs met (T ++ [k])) (hk : k < n) : LawInv m c d n rs (met.set k true) (T ++ [c k, d k]) := by
  have hR : Reach m (rs.map consW) k := h.todoR k (by simp) hk
  have hkl : k < met.length := by rw [h.len]; exact h.lt k (by simp)
  have hset : ∀ j : Nat, met[j]? = some true ∨ j = k → (met.set k true)[j]? = some true := fun j hj => by
    by_cases e : j = k
    · subst e; rw [List.getElem?_set_self hkl]
    · rw [List.getElem?_set_ne (Ne.symm e)]; exact hj.resolve_right e
  have key : ∀ j, met[j]? = some true ∨ j ∈ T ++ [k] → (met.set k true)[j]? = some true ∨ j ∈ T ++ [c k, d k] := fun j h => by
    rcases h with h | h
    · exact .inl (hset j (.inl h))
    · rcases List.mem_append.1 h with h | h
      · exact .inr (List.mem_append_left _ h)
      · exact .inl (hset j (.inr (by simpa using h)))
  have kidR : ∀ j, j = c k ∨ j = d k → j < n → Reach m (rs.map consW) j := fun j hj hjn => by
    have := Reach.kid (m := m) (l := rs.map consW) k (.pair (consW (c k)) (consW (d k))) (consW j) (.pair (consW (c j)) (consW (d j))) hR (by rw [hm]; exact pairs_get c d n k hk) (by rcases hj with rfl | rfl <;> simp [HObj.kids]) (by rw [pairs_find hm, if_pos hjn])
    simpa [consW] using this
  refine ⟨by rw [List.length_set]; exact h.len, fun j hj => ?_, fun i hi => ?_, fun j hj hjn => ?_, fun i hi j hj hjn => ?_, fun j hj hjn => key j (h.roots j hj hjn)⟩
  · rcases List.mem_append.1 hj with hj | hj
    · exact h.lt j (List.mem_append_left _ hj)
    · simp at hj; rcases hj with rfl | rfl
      · exact hc k
      · exact hd k
  · by_cases e : i = k
    · subst e; exact ⟨hk, hR⟩
    · rw [List.getElem?_set_ne (Ne.symm e)] at hi; exact h.sound i hi
  · rcases List.mem_append.1 hj with hj | hj
    · exact h.todoR j (List.mem_append_left _ hj) hjn
    · exact kidR j (by simpa using hj) hjn
  · by_cases e : i = k
    · subst e; exact .inr (List.mem_append_right _ (by simpa using hj))
    · rw [List.getElem?_set_ne (Ne.symm e)] at hi
      exact key j (h.closed i hi j hj hjn)
/-- The end: what is met is what is marked. -/
theorem LawInv.done {m : HM} {c d : Nat → Nat} {n : Nat} (hm : m.objs = pairs c d n) {rs : List Nat} {met M : List Bool} (h : LawInv m c d n rs met []) (hn : n ≤ 41) (hM : Marks m (markL m (List.replicate m.objs.length false, []) (rs.map consW)) M) : M = met.take n := by
  obtain ⟨hl, hiff⟩ := hM.reach
  have hlen : m.objs.length = n := by rw [hm, pairs_length]
  have hr : ∀ i, Reach m (rs.map consW) i → met[i]? = some true := fun i hi => by
    induction hi with
    | root x o hx ho =>
      obtain ⟨k, hk, rfl⟩ := List.mem_map.1 hx
      have hkn := pairs_find_some hm ho
      have := (h.roots k hk hkn).resolve_right (by simp)
      simpa [consW] using this
    | kid i o x o' hi ho hx ho' ih =>
      have hin := (h.sound i ih).1
      rw [hm, pairs_get c d n i hin] at ho
      cases ho
      have hx' : x = consW (c i) ∨ x = consW (d i) := by simpa [HObj.kids] using hx
      rcases hx' with rfl | rfl
      · have hkn := pairs_find_some hm ho'
        have := (h.closed i ih (c i) (.inl rfl) hkn).resolve_right (by simp)
        simpa [consW] using this
      · have hkn := pairs_find_some hm ho'
        have := (h.closed i ih (d i) (.inr rfl) hkn).resolve_right (by simp)
        simpa [consW] using this
  apply List.ext_getElem?
  intro i
  by_cases hi : i < n
  · rw [List.getElem?_take, if_pos hi]
    have hml : i < met.length := by rw [h.len]; omega
    have h1 : M[i]? = some M[i] := List.getElem?_eq_getElem (by omega)
    have h2 : met[i]? = some met[i] := List.getElem?_eq_getElem hml
    have hb : M[i]? = some true ↔ met[i]? = some true := (hiff i).trans ⟨hr i, fun hh => (h.sound i hh).2⟩
    rw [h1, h2] at hb ⊢
    cases e1 : M[i] <;> cases e2 : met[i] <;> simp_all
  · rw [List.getElem?_eq_none (by omega), List.getElem?_eq_none (by rw [List.length_take]; omega)]
end Go.Proofs.YthmfiahmfdadgaaDoor
