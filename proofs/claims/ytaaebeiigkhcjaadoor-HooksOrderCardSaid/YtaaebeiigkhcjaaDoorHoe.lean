/-
  HooksOrder in plain Lean: what Add makes of the model, and that the heap's lists keep to it. Conditions: none.
-/
import Derived.Test.YtaaebeiigkhcjaaDoorHod
namespace Go.Proofs.YtaaebeiigkhcjaaDoor
set_option maxRecDepth 100000
def symW (y : Wd) : Wd := (1, 70 + y.1)
def rkM (y : Wd) : Rk := (symW y, y.2)
def ltM (d : Int) (y : Wd) : Bool := decide (y.2 < d) || (decide (y.2 = d) && decide (0 < d))
def hasM (ml : List Wd) (f : Int) : Bool := ml.any fun y => decide (y.1 = f)
def addM (ml : List Wd) (f d : Int) : List Wd := if hasM ml f then ml else ml.filter (ltM d) ++ (f, d) :: ml.filter fun y => !ltM d y
def SortM (ml : List Wd) : Prop := ml.Pairwise fun a b => a.2 ≤ b.2
def depA (x : Wd) (fs : List Rk) : Int := match fs.find? (fun y => decide (x = y.1)) with
  | some y => y.2
  | none => 0
theorem depOf_atom {m : HM} {x : Wd} (hx : x.1 = 1) : ∀ {fs : List Rk}, (∀ y ∈ fs, y.1.1 = 1) → depOf m x fs = depA x fs
  | [], _ => rfl
  | y :: fs, h => by
    have ih := depOf_atom (m := m) hx (fs := fs) fun z hz => h z (List.mem_cons_of_mem _ hz)
    have hy := h y (List.mem_cons_self ..)
    unfold depOf depA at ih ⊢
    rw [List.find?_cons, List.find?_cons, keyW_atom (.inr hx), keyW_atom (.inr hy)]
    rw [keyW_atom (.inr hx)] at ih
    by_cases e : x = y.1
    · rw [decide_eq_true e]
    · rw [decide_eq_false e]; exact ih
theorem depA_none {x : Wd} {fs : List Rk} (h : ∀ y ∈ fs, x ≠ y.1) : depA x fs = 0 := by
  unfold depA
  rw [List.find?_eq_none.2 fun y hy => by rw [decide_eq_true_eq]; exact h y hy]
theorem depA_cons_self {x : Wd} {d : Int} {fs : List Rk} : depA x ((x, d) :: fs) = d := by
  unfold depA
  rw [List.find?_cons_of_pos (by simp)]
theorem depA_cons_ne {x y : Wd} {d : Int} {fs : List Rk} (h : x ≠ y) : depA x ((y, d) :: fs) = depA x fs := by
  unfold depA
  rw [List.find?_cons_of_neg (by simpa using h)]
theorem symW_inj {a b : Wd} (h : symW a = symW b) : a.1 = b.1 := by
  have := congrArg Prod.snd h
  simp only [symW] at this
  omega
theorem hasM_yes {ml : List Wd} {f : Int} : hasM ml f = true ↔ ∃ y ∈ ml, y.1 = f := by
  unfold hasM
  rw [List.any_eq_true]
  simp
theorem hasM_no {ml : List Wd} {f : Int} : hasM ml f = false ↔ ∀ y ∈ ml, y.1 ≠ f := by
  unfold hasM
  rw [List.any_eq_false]
  simp
theorem hasW_syms {m : HM} {ml : List Wd} {f : Int} : hasW m (1, 70 + f) (ml.map symW) = hasM ml f := by
  cases e : hasM ml f with
  | true =>
    obtain ⟨y, hy, hf⟩ := hasM_yes.1 e
    exact has_true (y := symW y) (List.mem_map_of_mem hy) (by rw [keyW_atom (.inr rfl), keyW_atom (.inr rfl)]; unfold symW; rw [hf])
  | false =>
    have h := hasM_no.1 e
    refine has_false fun y hy => ?_
    obtain ⟨z, hz, rfl⟩ := List.mem_map.1 hy
    rw [keyW_atom (.inr rfl), keyW_atom (.inr rfl)]
    intro e2
    exact h z hz (symW_inj (a := (f, 0)) (b := z) e2).symm
/-- Where the first part is all that counts as less. -/
theorem filter_parts {p : Wd → Bool} {a b : List Wd} (ha : ∀ y ∈ a, p y = true) (hb : ∀ y ∈ b, p y = false) : (a ++ b).filter p = a ∧ (a ++ b).filter (fun y => !p y) = b := by
  constructor
  · rw [List.filter_append, List.filter_eq_self.2 ha, List.filter_eq_nil_iff.2 fun y hy => by rw [hb y hy]; decide, List.append_nil]
  · rw [List.filter_append, List.filter_eq_nil_iff.2 fun y hy => by rw [ha y hy]; decide, List.nil_append, List.filter_eq_self.2 fun y hy => by rw [hb y hy]; rfl]
theorem addM_at {ml : List Wd} {f d : Int} {q : Nat} (hno : hasM ml f = false) (h1 : ∀ y ∈ ml.take q, ltM d y = true) (h2 : ∀ y ∈ ml.drop q, ltM d y = false) : ml.take q ++ (f, d) :: ml.drop q = addM ml f d := by
  unfold addM
  rw [hno]
  obtain ⟨e1, e2⟩ := filter_parts h1 h2
  rw [List.take_append_drop] at e1 e2
  simp only [e1, e2]
  rfl
theorem lt_before {ml : List Wd} (hs : SortM ml) {d : Int} {k : Nat} (hk : k < ml.length) (h : ltM d (ml.getD k (0, 0)) = true) : ∀ y ∈ ml.take (k + 1), ltM d y = true := by
  rw [take_snoc hk]
  intro y hy
  rcases List.mem_append.1 hy with e | e
  · have h2 : y.2 ≤ (ml.getD k (0, 0)).2 := by
      have hsp : ml = ml.take k ++ ml.drop k := (List.take_append_drop k ml).symm
      unfold SortM at hs
      rw [hsp] at hs
      refine (List.pairwise_append.1 hs).2.2 y e _ ?_
      have : ml.drop k = ml.getD k (0, 0) :: ml.drop (k + 1) := by
        rw [List.drop_eq_getElem_cons hk, List.getD_eq_getElem?_getD, List.getElem?_eq_getElem hk]; rfl
      rw [this]
      exact List.mem_cons_self ..
    unfold ltM at h ⊢
    simp only [Bool.or_eq_true, Bool.and_eq_true, decide_eq_true_eq] at h ⊢
    omega
  · rw [List.mem_singleton.1 e]; exact h
theorem ltM_of {d : Int} {y : Wd} (h : y.2 < d ∨ y.2 = d ∧ d > 0) : ltM d y = true := by
  unfold ltM
  simp only [Bool.or_eq_true, Bool.and_eq_true, decide_eq_true_eq]
  omega
theorem ltM_not {d : Int} {y : Wd} (h : ¬ (y.2 < d ∨ y.2 = d ∧ d > 0)) : ltM d y = false := by
  cases e : ltM d y with
  | false => rfl
  | true =>
    unfold ltM at e
    simp only [Bool.or_eq_true, Bool.and_eq_true, decide_eq_true_eq] at e
    omega
theorem pigeon : ∀ (N : Nat) (l : List Int), l.Nodup → (∀ x ∈ l, 0 ≤ x ∧ x < N) → l.length ≤ N
  | 0, l, _, h => by
    cases l with
    | nil => exact Nat.le_refl _
    | cons x l => have := h x (List.mem_cons_self ..); omega
  | N + 1, l, hn, h => by
    have key : ∀ (l : List Int), l.Nodup → l.length ≤ (l.filter fun x => decide (x ≠ (N : Int))).length + 1 := fun l => by
      induction l with
      | nil => intro _; exact Nat.zero_le _
      | cons b l ih =>
        intro hn
        obtain ⟨h1, h2⟩ := List.nodup_cons.1 hn
        by_cases e : b = (N : Int)
        · rw [List.filter_cons_of_neg (by simpa using e), List.filter_eq_self.2 fun x hx => by rw [decide_eq_true_eq]; intro e2; exact h1 (by rw [e, ← e2]; exact hx)]
          exact Nat.le_refl _
        · rw [List.filter_cons_of_pos (by simpa using e)]
          have := ih h2
          simp only [List.length_cons]
          omega
    have h1 := pigeon N (l.filter fun x => decide (x ≠ (N : Int))) (hn.filter _) fun x hx => by
      have := List.mem_filter.1 hx
      have h2 := h x this.1
      have h3 : x ≠ (N : Int) := by simpa using this.2
      omega
    have := key l hn
    omega
theorem mem_addM {ml : List Wd} {f d : Int} {y : Wd} (h : y ∈ addM ml f d) : y ∈ ml ∨ y = (f, d) := by
  unfold addM at h
  split at h
  · exact .inl h
  · rcases List.mem_append.1 h with h | h
    · exact .inl (List.mem_filter.1 h).1
    · rcases List.mem_cons.1 h with h | h
      · exact .inr h
      · exact .inl (List.mem_filter.1 h).1
theorem addM_mem {ml : List Wd} {f d : Int} {y : Wd} (h : y ∈ ml) : y ∈ addM ml f d := by
  unfold addM
  split
  · exact h
  · cases e : ltM d y with
    | true => exact List.mem_append_left _ (List.mem_filter.2 ⟨h, e⟩)
    | false => exact List.mem_append_right _ (List.mem_cons_of_mem _ (List.mem_filter.2 ⟨h, by rw [e]; rfl⟩))
theorem addM_new {ml : List Wd} {f d : Int} (hno : hasM ml f = false) : (f, d) ∈ addM ml f d := by
  unfold addM
  rw [hno]
  exact List.mem_append_right _ (List.mem_cons_self ..)
theorem addM_sorted {ml : List Wd} {f d : Int} (hs : SortM ml) : SortM (addM ml f d) := by
  unfold addM
  split
  · exact hs
  · refine List.pairwise_append.2 ⟨hs.filter _, List.pairwise_cons.2 ⟨fun y hy => ?_, hs.filter _⟩, fun a ha b hb => ?_⟩
    · have := (List.mem_filter.1 hy).2
      unfold ltM at this
      simp only [Bool.not_eq_true', Bool.or_eq_false_iff, Bool.and_eq_false_iff, decide_eq_false_iff_not] at this
      show d ≤ y.2
      omega
    · have h1 := (List.mem_filter.1 ha).2
      unfold ltM at h1
      simp only [Bool.or_eq_true, Bool.and_eq_true, decide_eq_true_eq] at h1
      rcases List.mem_cons.1 hb with e | e
      · rw [e]; show a.2 ≤ d; omega
      · have h2 := (List.mem_filter.1 e).2
        unfold ltM at h2
        simp only [Bool.not_eq_true', Bool.or_eq_false_iff, Bool.and_eq_false_iff, decide_eq_false_iff_not] at h2
        omega
theorem addM_perm {ml : List Wd} {f d : Int} (hno : hasM ml f = false) : (addM ml f d).Perm ((f, d) :: ml) := by
  unfold addM
  rw [hno]
  refine List.perm_middle.trans (List.Perm.cons _ ?_)
  induction ml with
  | nil => exact List.Perm.refl _
  | cons y l ih =>
    have ih := ih (by rw [hasM_no] at hno ⊢; exact fun z hz => hno z (List.mem_cons_of_mem _ hz))
    cases e : ltM d y with
    | true => rw [List.filter_cons_of_pos e, List.filter_cons_of_neg (by rw [e]; decide)]; exact ih.cons _
    | false => rw [List.filter_cons_of_neg (by rw [e]; decide), List.filter_cons_of_pos (by rw [e]; rfl)]; exact List.perm_middle.trans (ih.cons _)
theorem addM_nodup {ml : List Wd} {f d : Int} (h : (ml.map Prod.fst).Nodup) : ((addM ml f d).map Prod.fst).Nodup := by
  cases e : hasM ml f with
  | true => unfold addM; rw [e]; exact h
  | false =>
    refine ((addM_perm e).map Prod.fst).nodup_iff.2 ?_
    rw [List.map_cons, List.nodup_cons]
    refine ⟨fun hm => ?_, h⟩
    obtain ⟨y, hy, hf⟩ := List.mem_map.1 hm
    exact hasM_no.1 e y hy hf
theorem sorted_rk {ml : List Wd} (h : SortM ml) : SortedR (ml.map rkM) := by
  unfold SortedR
  rw [List.pairwise_map]
  exact h
/-- What the stable sort makes of the ranked words is the model's list. -/
theorem stab_model {ml : List Wd} {f d : Int} {all ys : List Rk} (hno : hasM ml f = false) (hs : SortM ml) (ha : all = if 0 < d then ml.map rkM ++ [rkM (f, d)] else rkM (f, d) :: ml.map rkM) (h : StabR all ys) : ys = (addM ml f d).map rkM := by
  refine stab_unique h.sorted (sorted_rk (addM_sorted hs)) fun t => ?_
  rw [h.same t, ha]
  have hsplit : ml = ml.filter (ltM d) ++ ml.filter fun y => !ltM d y := by
    clear ha h hno
    induction ml with
    | nil => rfl
    | cons y l ih =>
      have hs' := List.pairwise_cons.1 hs
      have ih := ih hs'.2
      cases e : ltM d y with
      | true => rw [List.filter_cons_of_pos e, List.filter_cons_of_neg (by rw [e]; decide), List.cons_append, ← ih]
      | false =>
        have hall : ∀ z ∈ l, ltM d z = false := fun z hz => by
          have h1 := hs'.1 z hz
          unfold ltM at e ⊢
          simp only [Bool.or_eq_false_iff, Bool.and_eq_false_iff, decide_eq_false_iff_not] at e ⊢
          omega
        rw [List.filter_cons_of_neg (by rw [e]; decide), List.filter_cons_of_pos (by rw [e]; rfl), List.filter_eq_nil_iff.2 fun z hz => by rw [hall z hz]; decide, List.filter_eq_self.2 fun z hz => by rw [hall z hz]; rfl]
        rfl
  obtain ⟨a, ea⟩ : ∃ a, a = ml.filter (ltM d) := ⟨_, rfl⟩
  obtain ⟨b, eb⟩ : ∃ b, b = ml.filter fun y => !ltM d y := ⟨_, rfl⟩
  have hA : ∀ y ∈ a, y.2 < d ∨ y.2 = d ∧ 0 < d := fun y hy => by
    rw [ea] at hy
    have := (List.mem_filter.1 hy).2
    unfold ltM at this
    simpa only [Bool.or_eq_true, Bool.and_eq_true, decide_eq_true_eq] using this
  have hB : ∀ y ∈ b, ¬ (y.2 < d ∨ y.2 = d ∧ 0 < d) := fun y hy => by
    rw [eb] at hy
    have := (List.mem_filter.1 hy).2
    unfold ltM at this
    simp only [Bool.not_eq_true', Bool.or_eq_false_iff, Bool.and_eq_false_iff, decide_eq_false_iff_not] at this
    omega
  have eadd : addM ml f d = a ++ (f, d) :: b := by unfold addM; rw [hno, ea, eb]; rfl
  rw [eadd]
  rw [← ea, ← eb] at hsplit
  rw [hsplit]
  have one : ∀ (y : Wd) (l : List Rk), atD t (rkM y :: l) = (if y.2 = t then [rkM y] else []) ++ atD t l := fun y l => by
    unfold atD
    rw [List.filter_cons]
    by_cases e : y.2 = t
    · rw [if_pos e, if_pos (show decide ((rkM y).2 = t) = true from decide_eq_true e)]; rfl
    · rw [if_neg e, if_neg (show ¬ decide ((rkM y).2 = t) = true by rw [decide_eq_true_eq]; exact e)]; rfl
  by_cases hd : 0 < d
  · rw [if_pos hd, List.map_append, List.map_append, List.map_cons, atD_app, atD_app, atD_app, one, one]
    by_cases e : d = t
    · rw [atD_none (l := b.map rkM) fun z hz => by
        obtain ⟨y, hy, rfl⟩ := List.mem_map.1 hz
        have := hB y hy
        show y.2 ≠ t
        omega]
      simp [atD]
    · rw [if_neg e]; simp [atD]
  · rw [if_neg hd, List.map_append, List.map_append, List.map_cons, atD_app, one, atD_app, one]
    by_cases e : d = t
    · rw [atD_none (l := a.map rkM) fun z hz => by
        obtain ⟨y, hy, rfl⟩ := List.mem_map.1 hz
        have := hA y hy
        show y.2 ≠ t
        omega]
      simp
    · rw [if_neg e]; simp
theorem flat_syms : ∀ {ml : List Wd}, (∀ y ∈ ml, 0 ≤ y.1) → flatL (ml.map symW) [] = ml.map symW
  | [], _ => rfl
  | y :: l, h => by
    have h0 := h y (List.mem_cons_self ..)
    have ih := flat_syms (ml := l) fun z hz => h z (List.mem_cons_of_mem _ hz)
    unfold flatL at ih ⊢
    rw [List.map_cons, List.flatMap_cons, ih]
    have h1 : okW (symW y) = true := by
      unfold okW symW
      simp
      omega
    have h2 : isT (symW y) = false := by
      unfold isT symW
      simp
      omega
    have : flatW [] (symW y) = [symW y] := by
      unfold flatW
      rw [h1, h2]
      rfl
    rw [this]
    rfl
/-- What stands when i elements have been gone through. -/
structure HInv (i : Nat) (m : HM) (vw p : Wd) (ml : List Wd) : Prop where
  lim : m.limit = 2000
  free : m.free = []
  many : m.many ≤ 15 * i
  ws : ∃ c : Nat → Wd, c 0 = vw ∧ Chain m c (ml.map symW)
  dep : ∃ (c : Nat → Wd) (es : List Wd) (fs : List Rk), c 0 = p ∧ Chain m c es ∧ Deps m es fs ∧ es.length ≤ i ∧ (∀ y ∈ fs, ∃ z ∈ ml, y.1 = symW z) ∧ ∀ y ∈ ml, depA (symW y) fs = y.2
  sorted : SortM ml
  range : ∀ y ∈ ml, 0 ≤ y.1 ∧ y.1 < 12 ∧ -3 ≤ y.2 ∧ y.2 ≤ 3
  nodup : (ml.map Prod.fst).Nodup
theorem HInv.len {i : Nat} {m : HM} {vw p : Wd} {ml : List Wd} (h : HInv i m vw p ml) : ml.length ≤ 12 := by
  have := pigeon 12 (ml.map Prod.fst) h.nodup fun x hx => by
    obtain ⟨y, hy, rfl⟩ := List.mem_map.1 hx
    have := h.range y hy
    omega
  rwa [List.length_map] at this
theorem HInv.start {m : HM} (hl : m.limit = 2000) (hf : m.free = []) (hm : m.many = 0) : HInv 0 m (1, 0) (1, 0) [] :=
  ⟨hl, hf, by omega, ⟨fun _ => (1, 0), rfl, rfl, fun j hj => absurd hj (Nat.not_lt_zero _)⟩, ⟨fun _ => (1, 0), [], [], rfl, ⟨rfl, fun j hj => absurd hj (Nat.not_lt_zero _)⟩, ⟨rfl, fun j hj => absurd hj (Nat.not_lt_zero _)⟩, Nat.le_refl _, fun y hy => (by cases hy), fun y hy => (by cases hy)⟩, List.Pairwise.nil, fun y hy => (by cases hy), List.nodup_nil⟩
theorem HInv.succ {i : Nat} {m : HM} {vw p : Wd} {ml : List Wd} (h : HInv i m vw p ml) : HInv (i + 1) m vw p ml := by
  obtain ⟨c, es, fs, h1, h2, h3, h4, h5, h6⟩ := h.dep
  exact ⟨h.lim, h.free, by have := h.many; omega, h.ws, ⟨c, es, fs, h1, h2, h3, by omega, h5, h6⟩, h.sorted, h.range, h.nodup⟩
theorem finds_push (m : HM) (o : HObj) : FindsAll m (m.push o) := fun x o' h => by
  obtain ⟨h0, h1, h2⟩ := HM.find_mem h
  have hlt : x.2.toNat < m.objs.length := (List.getElem?_eq_some_iff.1 h1).1
  unfold HM.find
  rw [if_neg (show ¬ x.2 < 0 by omega)]
  have h3 : (m.push o).objs[x.2.toNat]? = some (some o') := by
    show (m.objs ++ [some o])[x.2.toNat]? = _
    rw [List.getElem?_append_left hlt]; exact h1
  simp only [h3]
  rw [if_pos h2]
theorem find_pushed (m : HM) (a d : Wd) : (m.push (.pair a d)).find (2, (m.objs.length : Int)) = some (.pair a d) := by
  unfold HM.find
  rw [if_neg (show ¬ ((m.objs.length : Nat) : Int) < 0 by omega)]
  have h3 : (m.push (.pair a d)).objs[((m.objs.length : Nat) : Int).toNat]? = some (some (.pair a d)) := by
    show (m.objs ++ [some (HObj.pair a d)])[_]? = _
    rw [Int.toNat_natCast, List.getElem?_append_right (Nat.le_refl _), Nat.sub_self]
    rfl
  simp only [h3]
  rfl
theorem chain_cons {m : HM} {c : Nat → Wd} {es : List Wd} {e w : Wd} (h : Chain m c es) (hf : m.find w = some (.pair e (c 0))) : Chain m (fun j => if j = 0 then w else c (j - 1)) (e :: es) := by
  refine ⟨?_, fun j hj => ?_⟩
  · show (if es.length + 1 = 0 then w else c (es.length + 1 - 1)) = _
    rw [if_neg (by omega)]
    exact h.1
  · cases j with
    | zero => exact hf
    | succ j =>
      show m.find (if j + 1 = 0 then w else c (j + 1 - 1)) = some (.pair ((e :: es).getD (j + 1) (0, 0)) (if j + 1 + 1 = 0 then w else c (j + 1 + 1 - 1)))
      rw [if_neg (by omega), if_neg (by omega)]
      exact h.2 j (by simpa using hj)
theorem Deps.mono {m m' : HM} {es : List Wd} {fs : List Rk} (h : Deps m es fs) (k : FindsAll m m') : Deps m' es fs := ⟨h.1, fun i hi => ⟨(h.2 i hi).1, k _ _ (h.2 i hi).2⟩⟩
theorem Deps.cons {m : HM} {es : List Wd} {fs : List Rk} {e f : Wd} {d : Int} (h : Deps m es fs) (he : e.1 = 2) (hf : m.find e = some (.pair f (0, d))) : Deps m (e :: es) ((f, d) :: fs) := by
  refine ⟨by simp [h.1], fun i hi => ?_⟩
  cases i with
  | zero => exact ⟨he, hf⟩
  | succ i => exact h.2 i (by simpa using hi)
theorem range_add {ml : List Wd} {f d : Int} (h : ∀ y ∈ ml, 0 ≤ y.1 ∧ y.1 < 12 ∧ -3 ≤ y.2 ∧ y.2 ≤ 3) (hf : 0 ≤ f ∧ f < 12) (hd : -3 ≤ d ∧ d ≤ 3) : ∀ y ∈ addM ml f d, 0 ≤ y.1 ∧ y.1 < 12 ∧ -3 ≤ y.2 ∧ y.2 ≤ 3 := fun y hy => by
  rcases mem_addM hy with h1 | rfl
  · exact h y h1
  · exact ⟨hf.1, hf.2, hd.1, hd.2⟩
/-- The words that are ranked. -/
theorem ranks_eq {m : HM} {ml : List Wd} {fs : List Rk} (h1 : ∀ y ∈ fs, y.1.1 = 1) (h2 : ∀ y ∈ ml, depA (symW y) fs = y.2) : (ml.map symW).map (rkOf m fs) = ml.map rkM := by
  rw [List.map_map]
  refine List.map_congr_left fun y hy => ?_
  show (symW y, depOf m (symW y) fs) = (symW y, y.2)
  rw [depOf_atom rfl h1, h2 y hy]
theorem fst_rkM (ml : List Wd) : (ml.map rkM).map Prod.fst = ml.map symW := by rw [List.map_map]; rfl
theorem HInv.add0 {i : Nat} {m : HM} {vw p : Wd} {ml : List Wd} {f : Int} (h : HInv i m vw p ml) (hi : i ≤ 30) (hno : hasM ml f = false) (hf : 0 ≤ f ∧ f < 12) : HInv (i + 1) (built m ((addM ml f 0).map symW) (1, 0)).1 (built m ((addM ml f 0).map symW) (1, 0)).2 p (addM ml f 0) := by
  obtain ⟨c, es, fs, h1, h2, h3, h4, h5, h6⟩ := h.dep
  have hb := ext_built h.free ((addM ml f 0).map symW) (1, 0)
  have hl : (addM ml f 0).length = ml.length + 1 := by rw [(addM_perm hno).length_eq]; rfl
  have hlen := h.len
  refine ⟨hb.lim.trans h.lim, hb.free, by have := hb.many; rw [List.length_map, hl] at this; have := h.many; omega, ⟨_, (built_word m _ (1, 0)).symm, chain_built m _⟩, ⟨c, es, fs, h1, h2.mono hb.finds, h3.mono hb.finds, by omega, fun y hy => ?_, fun y hy => ?_⟩, addM_sorted h.sorted, range_add h.range hf (by omega), addM_nodup h.nodup⟩
  · obtain ⟨z, hz, e⟩ := h5 y hy
    exact ⟨z, addM_mem hz, e⟩
  · rcases mem_addM hy with hy | rfl
    · exact h6 y hy
    · refine depA_none fun z hz e => ?_
      obtain ⟨x, hx, e2⟩ := h5 z hz
      exact hasM_no.1 hno x hx (symW_inj (e2.symm.trans e.symm))
theorem HInv.addD {i : Nat} {m : HM} {vw p : Wd} {ml : List Wd} {f d : Int} (h : HInv i m vw p ml) (hi : i ≤ 30) (hno : hasM ml f = false) (hf : 0 ≤ f ∧ f < 12) (hd : -3 ≤ d ∧ d ≤ 3) {bt : HM × Wd} (hbt : bt = built m ((addM ml f d).map symW) (1, 0)) :
    HInv (i + 1) ((bt.1.push (.pair (1, 70 + f) (0, d))).push (.pair (2, (bt.1.objs.length : Int)) p)) bt.2 (2, ((bt.1.push (.pair (1, 70 + f) (0, d))).objs.length : Int)) (addM ml f d) := by
  obtain ⟨c, es, fs, h1, h2, h3, h4, h5, h6⟩ := h.dep
  have hb := ext_built h.free ((addM ml f d).map symW) (1, 0)
  rw [← hbt] at hb
  have hl : (addM ml f d).length = ml.length + 1 := by rw [(addM_perm hno).length_eq]; rfl
  have hlen := h.len
  have F1 := finds_push bt.1 (.pair (1, 70 + f) (0, d))
  have F2 := finds_push (bt.1.push (.pair (1, 70 + f) (0, d))) (.pair (2, (bt.1.objs.length : Int)) p)
  have FF := hb.finds.trans (F1.trans F2)
  refine ⟨hb.lim.trans h.lim, hb.free, ?_, ⟨consOf m ((addM ml f d).map symW) (1, 0), by rw [hbt]; exact (built_word m _ (1, 0)).symm, ?_⟩, ⟨_, _, _, rfl, chain_cons (h2.mono FF) (by rw [h1]; exact find_pushed _ _ _), (h3.mono FF).cons rfl (F2 _ _ (find_pushed bt.1 _ _)), by simp; omega, fun y hy => ?_, fun y hy => ?_⟩, addM_sorted h.sorted, range_add h.range hf hd, addM_nodup h.nodup⟩
  · rw [HM.many_push, HM.many_push]
    have := hb.many
    rw [List.length_map, hl] at this
    have := h.many
    omega
  · have := chain_built m ((addM ml f d).map symW)
    rw [← hbt] at this
    exact (this.mono F1).mono F2
  · rcases List.mem_cons.1 hy with rfl | hy
    · exact ⟨(f, d), addM_new hno, rfl⟩
    · obtain ⟨z, hz, e⟩ := h5 y hy
      exact ⟨z, addM_mem hz, e⟩
  · rcases mem_addM hy with hy | rfl
    · rw [depA_cons_ne (y := (1, 70 + f)) fun e => hasM_no.1 hno y hy (symW_inj (b := (f, d)) e)]
      exact h6 y hy
    · exact depA_cons_self
end Go.Proofs.YtaaebeiigkhcjaaDoor
