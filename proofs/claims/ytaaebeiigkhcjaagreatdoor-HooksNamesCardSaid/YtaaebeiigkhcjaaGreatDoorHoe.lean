/-
  HooksOrder in plain Lean: what Add makes of the model, and that the heap's lists keep to it. Conditions: none.
-/
import Derived.Test.YtaaebeiigkhcjaaGreatDoorHod
namespace Go.Proofs.YtaaebeiigkhcjaaGreatDoor
set_option maxRecDepth 100000
def symW (y : Wd) : Wd := (1, 70 + y.1)
def SortM (ml : List Wd) : Prop := ml.Pairwise fun a b => a.2 ≤ b.2
def depA (x : Wd) (fs : List Rk) : Int := match fs.find? (fun y => decide (x = y.1)) with
  | some y => y.2
  | none => 0
theorem pigeon : ∀ (N : Nat) (l : List Int), l.Nodup → (∀ x ∈ l, 0 ≤ x ∧ x < N) → l.length ≤ N
  | 0, l, _, h => by
    cases l with
    | nil => exact Nat.le_refl _
    | cons x l => have := h x (List.mem_cons_self ..); omega
  | N + 1, l, hn, h => by
    have key : ∀ (l : List Int), l.Nodup → l.length ≤ (l.filter fun x => decide (x ≠ (N : Int))).length + 1 := fun l => by
      induction l with
      | nil => intro _; exact Nat.zero_le _
      | cons b l ih =>
        intro hn
        obtain ⟨h1, h2⟩ := List.nodup_cons.1 hn
        by_cases e : b = (N : Int)
        · rw [List.filter_cons_of_neg (by simpa using e), List.filter_eq_self.2 fun x hx => by rw [decide_eq_true_eq]; intro e2; exact h1 (by rw [e, ← e2]; exact hx)]
          exact Nat.le_refl _
        · rw [List.filter_cons_of_pos (by simpa using e)]
          have := ih h2
          simp only [List.length_cons]
          omega
    have h1 := pigeon N (l.filter fun x => decide (x ≠ (N : Int))) (hn.filter _) fun x hx => by
      have := List.mem_filter.1 hx
      have h2 := h x this.1
      have h3 : x ≠ (N : Int) := by simpa using this.2
      omega
    have := key l hn
    omega
structure HInv (i : Nat) (m : HM) (vw p : Wd) (ml : List Wd) : Prop where
  lim : m.limit = 2000
  free : m.free = []
  many : m.many ≤ 15 * i
  ws : ∃ c : Nat → Wd, c 0 = vw ∧ Chain m c (ml.map symW)
  dep : ∃ (c : Nat → Wd) (es : List Wd) (fs : List Rk), c 0 = p ∧ Chain m c es ∧ Deps m es fs ∧ es.length ≤ i ∧ (∀ y ∈ fs, ∃ z ∈ ml, y.1 = symW z) ∧ ∀ y ∈ ml, depA (symW y) fs = y.2
  sorted : SortM ml
  range : ∀ y ∈ ml, 0 ≤ y.1 ∧ y.1 < 12 ∧ -3 ≤ y.2 ∧ y.2 ≤ 3
  nodup : (ml.map Prod.fst).Nodup
theorem HInv.len {i : Nat} {m : HM} {vw p : Wd} {ml : List Wd} (h : HInv i m vw p ml) : ml.length ≤ 12 := by
  have := pigeon 12 (ml.map Prod.fst) h.nodup fun x hx => by
    obtain ⟨y, hy, rfl⟩ := List.mem_map.1 hx
    have := h.range y hy
    omega
  rwa [List.length_map] at this
theorem HInv.start {m : HM} (hl : m.limit = 2000) (hf : m.free = []) (hm : m.many = 0) : HInv 0 m (1, 0) (1, 0) [] :=
  ⟨hl, hf, by omega, ⟨fun _ => (1, 0), rfl, rfl, fun j hj => absurd hj (Nat.not_lt_zero _)⟩, ⟨fun _ => (1, 0), [], [], rfl, ⟨rfl, fun j hj => absurd hj (Nat.not_lt_zero _)⟩, ⟨rfl, fun j hj => absurd hj (Nat.not_lt_zero _)⟩, Nat.le_refl _, fun y hy => (by cases hy), fun y hy => (by cases hy)⟩, List.Pairwise.nil, fun y hy => (by cases hy), List.nodup_nil⟩
theorem HInv.succ {i : Nat} {m : HM} {vw p : Wd} {ml : List Wd} (h : HInv i m vw p ml) : HInv (i + 1) m vw p ml := by
  obtain ⟨c, es, fs, h1, h2, h3, h4, h5, h6⟩ := h.dep
  exact ⟨h.lim, h.free, by have := h.many; omega, h.ws, ⟨c, es, fs, h1, h2, h3, by omega, h5, h6⟩, h.sorted, h.range, h.nodup⟩
theorem finds_push (m : HM) (o : HObj) : FindsAll m (m.push o) := fun x o' h => by
  obtain ⟨h0, h1, h2⟩ := HM.find_mem h
  have hlt : x.2.toNat < m.objs.length := (List.getElem?_eq_some_iff.1 h1).1
  unfold HM.find
  rw [if_neg (show ¬ x.2 < 0 by omega)]
  have h3 : (m.push o).objs[x.2.toNat]? = some (some o') := by
    show (m.objs ++ [some o])[x.2.toNat]? = _
    rw [List.getElem?_append_left hlt]; exact h1
  simp only [h3]
  rw [if_pos h2]
theorem find_pushed (m : HM) (a d : Wd) : (m.push (.pair a d)).find (2, (m.objs.length : Int)) = some (.pair a d) := by
  unfold HM.find
  rw [if_neg (show ¬ ((m.objs.length : Nat) : Int) < 0 by omega)]
  have h3 : (m.push (.pair a d)).objs[((m.objs.length : Nat) : Int).toNat]? = some (some (.pair a d)) := by
    show (m.objs ++ [some (HObj.pair a d)])[_]? = _
    rw [Int.toNat_natCast, List.getElem?_append_right (Nat.le_refl _), Nat.sub_self]
    rfl
  simp only [h3]
  rfl
theorem Deps.mono {m m' : HM} {es : List Wd} {fs : List Rk} (h : Deps m es fs) (k : FindsAll m m') : Deps m' es fs := ⟨h.1, fun i hi => ⟨(h.2 i hi).1, k _ _ (h.2 i hi).2⟩⟩
theorem Deps.cons {m : HM} {es : List Wd} {fs : List Rk} {e f : Wd} {d : Int} (h : Deps m es fs) (he : e.1 = 2) (hf : m.find e = some (.pair f (0, d))) : Deps m (e :: es) ((f, d) :: fs) := by
  refine ⟨by simp [h.1], fun i hi => ?_⟩
  cases i with
  | zero => exact ⟨he, hf⟩
  | succ i => exact h.2 i (by simpa using hi)
end Go.Proofs.YtaaebeiigkhcjaaGreatDoor
