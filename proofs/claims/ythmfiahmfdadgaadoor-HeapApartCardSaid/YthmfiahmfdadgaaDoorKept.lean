/-
  A heap behind Collect, in plain words: what is found, that a second Collect frees nothing, how many are left. No walk in this text. Conditions: none.
-/
import Derived.Test.YthmfiahmfdadgaaDoorSwept
import Derived.Test.YthmfiahmfdadgaaDoorReach
namespace Go.Proofs.YthmfiahmfdadgaaDoor
set_option maxRecDepth 100000

theorem HM.swept_get (m : HM) (M : List Bool) (hl : M.length = m.objs.length) (i : Nat) (hi : i < m.objs.length) : (m.swept M).objs[i]? = some (if M[i]? = some true then (m.objs[i]?).join else none) := by
  show (sweptObjs m.objs M m.objs.length)[i]? = _
  rw [swept_at m.objs M _ i hi]
  have hM : M[i]? = some M[i] := List.getElem?_eq_getElem (by omega)
  cases e : (m.objs[i]?).join with
  | none => simp
  | some o =>
    cases e2 : M[i] with
    | true => simp [goes, hM, e2, hi]
    | false =>
      have hg : goes m.objs M i = true := by unfold goes; rw [e, hM, e2]; rfl
      rw [if_pos ⟨hi, hg⟩, hM, e2]
      simp
theorem HM.find_swept (m : HM) (M : List Bool) (hl : M.length = m.objs.length) (x : Wd) : (m.swept M).find x = if M[x.2.toNat]? = some true then m.find x else none := by
  unfold HM.find
  by_cases hn : x.2 < 0
  · simp [hn]
  · simp only [if_neg hn]
    by_cases hi : x.2.toNat < m.objs.length
    · rw [m.swept_get M hl _ hi]
      rw [List.getElem?_eq_getElem hi]
      by_cases hM : M[x.2.toNat]? = some true
      · simp only [if_pos hM]; rfl
      · simp only [if_neg hM]
    · have h1 : (m.swept M).objs[x.2.toNat]? = none := List.getElem?_eq_none (by show (sweptObjs _ _ _).length ≤ _; rw [swept_length]; omega)
      have h2 : M[x.2.toNat]? = none := List.getElem?_eq_none (by omega)
      rw [h1, h2]; simp
theorem reach_swept {m : HM} {l : List Wd} {M : List Bool} (h : Marks m (markL m (List.replicate m.objs.length false, []) l) M) {i : Nat} (hr : Reach m l i) : Reach (m.swept M) l i := by
  obtain ⟨hl, hiff⟩ := h.reach
  have hf : ∀ (x : Wd) o, m.find x = some o → Reach m l x.2.toNat → (m.swept M).find x = some o := fun x o hx hr => by
    rw [m.find_swept M hl, if_pos ((hiff _).2 hr)]; exact hx
  induction hr with
  | root x o hx h => exact .root x o hx (hf x o h (.root x o hx h))
  | kid i o x o' hi ho hx h ih =>
    refine .kid i o x o' ih ?_ hx (hf x o' h (.kid i o x o' hi ho hx h))
    rw [m.swept_get M hl i (List.getElem?_eq_some_iff.1 ho).1, if_pos ((hiff _).2 hi), ho]
    rfl
/-- Behind Collect all that lives is marked again. -/
theorem swept_stays {m : HM} {l : List Wd} {M M2 : List Bool} (h : Marks m (markL m (List.replicate m.objs.length false, []) l) M) (h2 : Marks (m.swept M) (markL (m.swept M) (List.replicate (m.swept M).objs.length false, []) l) M2) (z : Nat) : goes (m.swept M).objs M2 z = false := by
  cases hg : goes (m.swept M).objs M2 z with
  | false => rfl
  | true =>
    exfalso
    obtain ⟨⟨o, ho⟩, hz⟩ := goes_live hg
    obtain ⟨hl, hiff⟩ := h.reach
    obtain ⟨hl2, hiff2⟩ := h2.reach
    have hlt : z < m.objs.length := by
      have := (List.getElem?_eq_some_iff.1 ho).1
      have e : (m.swept M).objs.length = m.objs.length := swept_length _ _ _
      omega
    rw [m.swept_get M hl z hlt] at ho
    by_cases hM : M[z]? = some true
    · have := (hiff2 z).2 (reach_swept h ((hiff z).1 hM))
      rw [hz] at this; cases this
    · rw [if_neg hM] at ho; cases ho
theorem none_goes {m : HM} {M : List Bool} (h : ∀ z, goes m.objs M z = false) : m.swept M = m ∧ m.gone M = 0 := by
  have h1 : ∀ z, sweptObjs m.objs M z = m.objs := fun z => by
    induction z with
    | zero => rfl
    | succ z ih => simp [sweptObjs, h, ih]
  have h2 : ∀ z, sweptFree m.objs M z = [] := fun z => by
    induction z with
    | zero => rfl
    | succ z ih => simp [sweptFree, h, ih]
  refine ⟨?_, by simp [HM.gone, h2]⟩
  unfold HM.swept
  rw [h1, h2, List.append_nil]
theorem above_nil {m : HM} (hf : m.free = []) (M : List Bool) : m.Above M := fun z _ x hx => by rw [hf] at hx; cases hx
theorem above_none {m : HM} {M : List Bool} (h : ∀ z, goes m.objs M z = false) : m.Above M := fun z hz => by rw [h z] at hz; cases hz
/-- Where all live, as many are left as are marked. -/
theorem many_marked {m : HM} {M : List Bool} (hl : M.length = m.objs.length) (hall : ∀ i, i < m.objs.length → ∃ o, m.objs[i]? = some (some o)) : (m.swept M).many = (M.filter id).length := by
  have hmap : (m.swept M).objs.map Option.isSome = M := by
    apply List.ext_getElem?
    intro i
    rw [List.getElem?_map]
    by_cases hi : i < m.objs.length
    · obtain ⟨o, ho⟩ := hall i hi
      rw [m.swept_get M hl i hi, ho]
      have hM : M[i]? = some M[i] := List.getElem?_eq_getElem (by omega)
      rw [hM]
      cases M[i] <;> simp
    · rw [List.getElem?_eq_none (by show (sweptObjs _ _ _).length ≤ _; rw [swept_length]; omega), List.getElem?_eq_none (by omega)]
      rfl
  have hc : ∀ L : List (Option HObj), (L.filter Option.isSome).length = ((L.map Option.isSome).filter id).length := fun L => by
    induction L with
    | nil => rfl
    | cons a L ih => cases a <;> simp [ih]
  unfold HM.many
  rw [hc, hmap]
end Go.Proofs.YthmfiahmfdadgaaDoor
