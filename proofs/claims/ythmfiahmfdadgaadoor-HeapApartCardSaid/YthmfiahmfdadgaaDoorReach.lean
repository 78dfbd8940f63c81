/-
  What Collect marks is what the roots reach. No walk in this text. Conditions: none.
-/
import Derived.Test.YthmfiahmfdadgaaDoorMark
namespace Go.Proofs.YthmfiahmfdadgaaDoor
set_option maxRecDepth 100000

/-- The object under the number is reached from the words of l. -/
inductive Reach (m : HM) (l : List Wd) : Nat → Prop
  | root (x : Wd) (o : HObj) (hx : x ∈ l) (h : m.find x = some o) : Reach m l x.2.toNat
  | kid (i : Nat) (o : HObj) (x : Wd) (o' : HObj) (hi : Reach m l i) (ho : m.objs[i]? = some (some o)) (hx : x ∈ o.kids) (h : m.find x = some o') : Reach m l x.2.toNat

theorem mark1_length (m : HM) (st : List Bool × List Nat) (x : Wd) : (mark1 m st x).1.length = st.1.length := by
  unfold mark1; split
  · split <;> simp
  · rfl
theorem mark1_mono (m : HM) (st : List Bool × List Nat) (x : Wd) (i : Nat) (h : st.1[i]? = some true) : (mark1 m st x).1[i]? = some true := by
  unfold mark1; split
  · split
    · rename_i h2
      by_cases e : x.2.toNat = i
      · rw [e, h] at h2; cases h2
      · rw [List.getElem?_set_ne e]; exact h
    · exact h
  · exact h
theorem mark1_hit (m : HM) (st : List Bool × List Nat) (x : Wd) (o : HObj) (hl : st.1.length = m.objs.length) (h : m.find x = some o) : (mark1 m st x).1[x.2.toNat]? = some true := by
  have hlt : x.2.toNat < st.1.length := by rw [hl]; exact (List.getElem?_eq_some_iff.1 (find_live h)).1
  unfold mark1; rw [h]
  simp only
  split
  · rw [List.getElem?_set_self hlt]
  · rename_i h2
    rw [List.getElem?_eq_getElem hlt] at h2 ⊢
    cases e : st.1[x.2.toNat] with
    | true => rfl
    | false => rw [e] at h2; exact absurd rfl h2
theorem mark1_new (m : HM) (st : List Bool × List Nat) (x : Wd) (i : Nat) (h : (mark1 m st x).1[i]? = some true) : st.1[i]? = some true ∨ (∃ o, m.find x = some o) ∧ i = x.2.toNat ∧ i ∈ (mark1 m st x).2 := by
  unfold mark1 at h ⊢
  split at h
  · rename_i o ho
    split at h
    · rename_i h2
      by_cases e : x.2.toNat = i
      · refine .inr ⟨⟨_, ho⟩, e.symm, ?_⟩
        rw [if_pos h2, ← e]; simp
      · rw [List.getElem?_set_ne e] at h; exact .inl h
    · exact .inl h
  · exact .inl h
theorem mark1_sub (m : HM) (st : List Bool × List Nat) (x : Wd) (i : Nat) (h : i ∈ st.2) : i ∈ (mark1 m st x).2 := by
  unfold mark1; split
  · split
    · exact List.mem_append_left _ h
    · exact h
  · exact h
theorem mark1_stack (m : HM) (st : List Bool × List Nat) (x : Wd) (i : Nat) (hl : st.1.length = m.objs.length) (h : i ∈ (mark1 m st x).2) : i ∈ st.2 ∨ (mark1 m st x).1[i]? = some true := by
  by_cases hs : i ∈ st.2
  · exact .inl hs
  · right
    cases ho : m.find x with
    | none => unfold mark1 at h; rw [ho] at h; exact absurd h hs
    | some o =>
      have hh := mark1_hit m st x o hl ho
      unfold mark1 at h
      rw [ho] at h
      simp only at h
      split at h
      · rcases List.mem_append.1 h with h | h
        · exact absurd h hs
        · simp at h; rw [h]; exact hh
      · exact absurd h hs

theorem markL_length (m : HM) (l : List Wd) : ∀ st, (markL m st l).1.length = st.1.length := by
  induction l with
  | nil => exact fun _ => rfl
  | cons x l ih => intro st; show (markL m (mark1 m st x) l).1.length = _; rw [ih, mark1_length]
theorem markL_mono (m : HM) (l : List Wd) (i : Nat) : ∀ st, st.1[i]? = some true → (markL m st l).1[i]? = some true := by
  induction l with
  | nil => exact fun _ h => h
  | cons x l ih => exact fun st h => ih _ (mark1_mono m st x i h)
theorem markL_hit (m : HM) (l : List Wd) (x : Wd) (o : HObj) (h : m.find x = some o) : ∀ st, st.1.length = m.objs.length → x ∈ l → (markL m st l).1[x.2.toNat]? = some true := by
  induction l with
  | nil => intro _ _ h; cases h
  | cons y l ih =>
    intro st hl hx
    rcases List.mem_cons.1 hx with e | hx
    · subst e; exact markL_mono m l _ _ (mark1_hit m st x o hl h)
    · exact ih _ (by rw [mark1_length]; exact hl) hx
theorem markL_sub (m : HM) (l : List Wd) (i : Nat) : ∀ st, i ∈ st.2 → i ∈ (markL m st l).2 := by
  induction l with
  | nil => exact fun _ h => h
  | cons x l ih => exact fun st h => ih _ (mark1_sub m st x i h)
theorem markL_new (m : HM) (l : List Wd) (i : Nat) : ∀ st, (markL m st l).1[i]? = some true → st.1[i]? = some true ∨ i ∈ (markL m st l).2 ∧ ∃ x ∈ l, ∃ o, m.find x = some o ∧ i = x.2.toNat := by
  induction l with
  | nil => exact fun _ h => .inl h
  | cons x l ih =>
    intro st h
    rcases ih (mark1 m st x) h with h | ⟨h1, y, hy, h2⟩
    · rcases mark1_new m st x i h with h | ⟨⟨o, ho⟩, e, hm⟩
      · exact .inl h
      · exact .inr ⟨markL_sub m l i _ hm, x, by simp, o, ho, e⟩
    · exact .inr ⟨h1, y, by simp [hy], h2⟩
theorem markL_stack (m : HM) (l : List Wd) (i : Nat) : ∀ st, st.1.length = m.objs.length → i ∈ (markL m st l).2 → i ∈ st.2 ∨ (markL m st l).1[i]? = some true := by
  induction l with
  | nil => exact fun _ _ h => .inl h
  | cons x l ih =>
    intro st hl h
    rcases ih (mark1 m st x) (by rw [mark1_length]; exact hl) h with h | h
    · rcases mark1_stack m st x i hl h with h | h
      · exact .inl h
      · exact .inr (markL_mono m l i _ h)
    · exact .inr h

structure MarkInv (m : HM) (l : List Wd) (st : List Bool × List Nat) : Prop where
  len : st.1.length = m.objs.length
  sound : ∀ i, st.1[i]? = some true → Reach m l i
  stacked : ∀ i ∈ st.2, st.1[i]? = some true
  closed : ∀ i o, st.1[i]? = some true → i ∉ st.2 → m.objs[i]? = some (some o) → ∀ x ∈ o.kids, ∀ o', m.find x = some o' → st.1[x.2.toNat]? = some true
  roots : ∀ x ∈ l, ∀ o, m.find x = some o → st.1[x.2.toNat]? = some true
theorem MarkInv.start (m : HM) (l : List Wd) : MarkInv m l (markL m (List.replicate m.objs.length false, []) l) := by
  have hl : (List.replicate m.objs.length false).length = m.objs.length := by simp
  have hn : ∀ i, ¬ (List.replicate m.objs.length false)[i]? = some true := fun i h => by
    rw [List.getElem?_replicate] at h; split at h <;> simp at h
  refine ⟨by rw [markL_length]; exact hl, fun i h => ?_, fun i h => ?_, fun i o h h2 => ?_, fun x hx o ho => markL_hit m l x o ho _ hl hx⟩
  · rcases markL_new m l i _ h with h | ⟨_, x, hx, o, ho, e⟩
    · exact absurd h (hn i)
    · rw [e]; exact .root x o hx ho
  · rcases markL_stack m l i _ hl h with h | h
    · cases h
    · exact h
  · rcases markL_new m l i _ h with h | ⟨h3, _⟩
    · exact absurd h (hn i)
    · exact absurd h3 h2
theorem MarkInv.step {m : HM} {l : List Wd} {M : List Bool} {K : List Nat} {i : Nat} {o : HObj} (h : MarkInv m l (M, K ++ [i])) (ho : m.objs[i]? = some (some o)) : MarkInv m l (markL m (M, K) o.kids) := by
  have hl : M.length = m.objs.length := h.len
  have hi : M[i]? = some true := h.stacked i (by simp)
  refine ⟨by rw [markL_length]; exact hl, fun j hj => ?_, fun j hj => ?_, fun j o2 hj hn ho2 x hx o' ho' => ?_, fun x hx o2 ho2 => markL_mono m _ _ _ (h.roots x hx o2 ho2)⟩
  · rcases markL_new m _ j _ hj with hj | ⟨_, x, hx, o2, ho2, e⟩
    · exact h.sound j hj
    · rw [e]; exact .kid i o x o2 (h.sound i hi) ho hx ho2
  · rcases markL_stack m _ j _ hl hj with hj | hj
    · exact markL_mono m _ _ _ (h.stacked j (List.mem_append_left _ hj))
    · exact hj
  · rcases markL_new m _ j _ hj with hj' | ⟨h3, _⟩
    · by_cases e : j = i
      · subst e
        rw [ho] at ho2; cases ho2
        exact markL_hit m _ x o' ho' _ hl hx
      · have hn' : j ∉ K ++ [i] := fun hm => by
          rcases List.mem_append.1 hm with hm | hm
          · exact hn (markL_sub m _ j _ hm)
          · exact e (by simpa using hm)
        exact markL_mono m _ _ _ (h.closed j o2 hj' hn' ho2 x hx o' ho')
    · exact absurd h3 hn
theorem Marks.inv {m : HM} {l : List Wd} {st : List Bool × List Nat} {M : List Bool} (h : Marks m st M) : MarkInv m l st → MarkInv m l (M, []) := by
  induction h with
  | done M => exact id
  | step M M' K i o ho h ih => exact fun hi => ih (hi.step ho)
/-- What is marked is what is reached. -/
theorem Marks.reach {m : HM} {l : List Wd} {M : List Bool} (h : Marks m (markL m (List.replicate m.objs.length false, []) l) M) : M.length = m.objs.length ∧ ∀ i, M[i]? = some true ↔ Reach m l i := by
  have hI := h.inv (MarkInv.start m l)
  refine ⟨hI.len, fun i => ⟨hI.sound i, fun hr => ?_⟩⟩
  induction hr with
  | root x o hx h => exact hI.roots x hx o h
  | kid i o x o' hi ho hx h ih => exact hI.closed i o ih (by simp) ho x hx o' h
end Go.Proofs.YthmfiahmfdadgaaDoor
