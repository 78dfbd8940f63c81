/-
 A stable sort by insertion and by symmetric merging is the stable sort. Plain. Conditions: none.
 Rows of candidates that are sorted, and what the sort's loops compute. Plain. Conditions: none.
 Comparison of candidates that match by subsequence. Conditions: none.
 Blocks of twenty, sorted and merged, are the stable sort of at most forty. Plain. Conditions: none.
-/
import Derived.Test.YtjcmdifpkafdkaaDoorS4
import Derived.Test.YtjcmdifpkafdkaaDoorC1
import Derived.Test.YtjcmdifpkafdkaaDoorL3
import Derived.Test.YtjcmdifpkafdkaaDoorK1
namespace Go.Proofs.YtjcmdifpkafdkaaDoor
set_option maxRecDepth 100000
section
variable {α : Type}
structure WOrd (lt : α → α → Bool) : Prop where
 asymm : ∀ a b, lt a b = true → lt b a = false
 ntrans : ∀ a b c, lt a b = false → lt b c = false → lt a c = false
def Sor (lt : α → α → Bool) (xs : List α) : Prop := xs.Pairwise fun a b => lt b a = false
inductive Stab (lt : α → α → Bool) : List α → List α → Prop
 | refl (xs : List α) : Stab lt xs xs
 | swap {xs u v : List α} {x y : α} (h : Stab lt xs (u ++ x :: y :: v)) (k : lt y x = true) : Stab lt xs (u ++ y :: x :: v)
variable {lt : α → α → Bool}
theorem WOrd.irrefl (h : WOrd lt) (a : α) : lt a a = false := by
 cases k : lt a a with
 | false => rfl
 | true => exact k.symm.trans (h.asymm a a k)
theorem WOrd.le_lt (h : WOrd lt) {a b c : α} (h1 : lt b a = false) (h2 : lt b c = true) : lt a c = true := by
 cases k : lt a c with
 | true => rfl
 | false => rw [h.ntrans b a c h1 k] at h2; cases h2
theorem WOrd.lt_le (h : WOrd lt) {a b c : α} (h1 : lt a b = true) (h2 : lt c b = false) : lt a c = true := by
 cases k : lt a c with
 | true => rfl
 | false => rw [h.ntrans a c b k h2] at h1; cases h1
theorem Stab.trans {xs ys zs : List α} (h : Stab lt xs ys) (k : Stab lt ys zs) : Stab lt xs zs := by
 induction k with
 | refl => exact h
 | swap _ k ih => exact .swap ih k
theorem Stab.left {xs ys : List α} (h : Stab lt xs ys) (a : List α) : Stab lt (a ++ xs) (a ++ ys) := by
 induction h with
 | refl => exact .refl _
 | swap _ k ih => rw [← List.append_assoc] at ih ⊢; exact .swap ih k
theorem Stab.right {xs ys : List α} (h : Stab lt xs ys) (a : List α) : Stab lt (xs ++ a) (ys ++ a) := by
 induction h with
 | refl => exact .refl _
 | swap _ k ih =>
  rw [List.append_assoc] at ih ⊢
  exact .swap ih k
theorem Stab.both {a b c d : List α} (h : Stab lt a b) (k : Stab lt c d) : Stab lt (a ++ c) (b ++ d) := (h.right c).trans (k.left b)
theorem Stab.perm {xs ys : List α} (h : Stab lt xs ys) : ys.Perm xs := by
 induction h with
 | refl => exact List.Perm.refl _
 | swap _ _ ih => exact (List.Perm.append_left _ (List.Perm.swap ..)).trans ih
theorem Stab.mem {xs ys : List α} (h : Stab lt xs ys) {x : α} : x ∈ ys ↔ x ∈ xs := h.perm.mem_iff
theorem Stab.len {xs ys : List α} (h : Stab lt xs ys) : ys.length = xs.length := h.perm.length_eq
theorem Stab.move {y : α} : ∀ {l : List α}, (∀ x ∈ l, lt y x = true) → Stab lt (l ++ [y]) (y :: l)
 | [], _ => .refl _
 | x :: l, h => by
  have h1 : Stab lt (x :: l ++ [y]) ([x] ++ (y :: l)) := (Stab.move (l := l) fun z hz => h z (List.mem_cons_of_mem _ hz)).left [x]
  exact .swap (u := []) h1 (h x (List.mem_cons_self ..))
theorem Stab.rot {l : List α} : ∀ {r : List α}, (∀ x ∈ l, ∀ y ∈ r, lt y x = true) → Stab lt (l ++ r) (r ++ l)
 | [], _ => by rw [List.append_nil]; exact .refl _
 | y :: r, h => by
  have h1 : Stab lt (l ++ y :: r) (y :: l ++ r) := by
   have := (Stab.move (l := l) fun x hx => h x hx y (List.mem_cons_self ..)).right r
   rw [List.append_assoc] at this
   exact this
  exact h1.trans ((Stab.rot (r := r) fun x hx z hz => h x hx z (List.mem_cons_of_mem _ hz)).left [y])
def alikeO (lt : α → α → Bool) (x y : α) : Bool := !lt x y && !lt y x
theorem Stab.filter (ho : WOrd lt) {xs ys : List α} (h : Stab lt xs ys) (z : α) : ys.filter (alikeO lt z) = xs.filter (alikeO lt z) := by
 induction h with
 | refl => rfl
 | swap _ k ih =>
  rename_i u v x y _
  rw [← ih, List.filter_append, List.filter_append]
  congr 1
  have : alikeO lt z x = false ∨ alikeO lt z y = false := by
   unfold alikeO
   cases h1 : lt z x <;> cases h2 : lt x z <;> cases h3 : lt z y <;> cases h4 : lt y z <;> simp
   have := ho.ntrans y z x h4 h1
   rw [k] at this; cases this
  rcases this with h | h
  ·simp only [List.filter_cons, h]; rfl
  ·simp only [List.filter_cons, h]; rfl
theorem sor_unique (ho : WOrd lt) : ∀ {ys zs : List α}, Sor lt ys → Sor lt zs → (∀ x, ys.filter (alikeO lt x) = zs.filter (alikeO lt x)) → ys = zs
 | [], [], _, _, _ => rfl
 | [], z :: zs, _, _, h => by
  have := h z
  rw [List.filter_cons_of_pos (by unfold alikeO; rw [ho.irrefl]; rfl)] at this
  cases this
 | y :: ys, [], _, _, h => by
  have := h y
  rw [List.filter_cons_of_pos (by unfold alikeO; rw [ho.irrefl]; rfl)] at this
  cases this
 | y :: ys, z :: zs, hy, hz, h => by
  have hs : ∀ x, alikeO lt x x = true := fun x => by unfold alikeO; rw [ho.irrefl]; rfl
  have mem : ∀ x, x ∈ y :: ys ↔ x ∈ z :: zs := fun x => by
   have h1 : x ∈ (y :: ys).filter (alikeO lt x) ↔ x ∈ (z :: zs).filter (alikeO lt x) := by rw [h x]
   rw [List.mem_filter, List.mem_filter, hs] at h1
   simpa using h1
  have hy := List.pairwise_cons.1 hy
  have hz := List.pairwise_cons.1 hz
  have le1 : lt z y = false := by
   rcases List.mem_cons.1 ((mem z).2 (List.mem_cons_self ..)) with e | e
   ·rw [e]; exact ho.irrefl _
   ·exact hy.1 z e
  have le2 : lt y z = false := by
   rcases List.mem_cons.1 ((mem y).1 (List.mem_cons_self ..)) with e | e
   ·rw [e]; exact ho.irrefl _
   ·exact hz.1 y e
  have e1 := h y
  rw [List.filter_cons_of_pos (hs y), List.filter_cons_of_pos (by unfold alikeO; rw [le1, le2]; rfl)] at e1
  obtain rfl := (List.cons.inj e1).1
  rw [sor_unique ho hy.2 hz.2 fun x => ?_]
  have := h x
  simp only [List.filter_cons] at this
  split at this
  ·exact (List.cons.inj this).2
  ·exact this
theorem stab_unique (ho : WOrd lt) {xs ys zs : List α} (h1 : Stab lt xs ys) (h2 : Stab lt xs zs) (k1 : Sor lt ys) (k2 : Sor lt zs) : ys = zs := sor_unique ho k1 k2 fun x => (h1.filter ho x).trans (h2.filter ho x).symm
/-! the sorted list -/
def insL (lt : α → α → Bool) (x : α) : List α → List α
 | [] => [x]
 | y :: l => if lt y x = true then y :: insL lt x l else x :: y :: l
def sortL (lt : α → α → Bool) : List α → List α
 | [] => []
 | x :: l => insL lt x (sortL lt l)
theorem insL_stab {x : α} : ∀ l : List α, Stab lt (x :: l) (insL lt x l)
 | [] => .refl _
 | y :: l => by
  unfold insL
  split
  ·next h => exact (Stab.swap (u := []) (.refl _) h).trans ((insL_stab l).left [y])
  ·exact .refl _
theorem insL_sor (ho : WOrd lt) {x : α} : ∀ {l : List α}, Sor lt l → Sor lt (insL lt x l)
 | [], _ => List.pairwise_singleton ..
 | y :: l, h => by
  have h := List.pairwise_cons.1 h
  unfold insL
  split
  ·next k =>
   refine List.pairwise_cons.2 ⟨fun z hz => ?_, insL_sor ho h.2⟩
   rcases List.mem_cons.1 ((insL_stab l).mem.1 hz) with rfl | hz
   ·exact ho.asymm _ _ k
   ·exact h.1 z hz
  ·next k =>
   have k := Bool.eq_false_iff.2 k
   refine List.pairwise_cons.2 ⟨fun z hz => ?_, List.pairwise_cons.2 h⟩
   rcases List.mem_cons.1 hz with rfl | hz
   ·exact k
   ·exact ho.ntrans z y x (h.1 z hz) k
theorem sortL_stab : ∀ l : List α, Stab lt l (sortL lt l)
 | [] => .refl _
 | x :: l => ((sortL_stab l).left [x]).trans (insL_stab _)
theorem sortL_sor (ho : WOrd lt) : ∀ l : List α, Sor lt (sortL lt l)
 | [] => List.Pairwise.nil
 | _ :: l => insL_sor ho (sortL_sor ho l)
theorem sortL_is (ho : WOrd lt) {xs ys : List α} (h : Stab lt xs ys) (k : Sor lt ys) : ys = sortL lt xs := stab_unique ho h (sortL_stab xs) k (sortL_sor ho xs)
end
section
variable {α : Type} [Inhabited α]
def gD (zs : List α) (i : Nat) : α := zs.getD i default
def swpD (zs : List α) (p q : Nat) : List α := (zs.set p (gD zs q)).set q (gD zs p)
variable (lt : α → α → Bool)
def insI (zs : List α) (a : Nat) : Nat → List α
 | 0 => zs
 | j + 1 => if a < j + 1 ∧ lt (gD zs (j + 1)) (gD zs j) = true then insI (swpD zs (j + 1) j) a j else zs
def insO (a : Nat) : Nat → List α → Nat → List α
 | 0, zs, _ => zs
 | k + 1, zs, i => insO a k (insI lt zs a i) (i + 1)
def bisM (f : Nat → Bool) : Nat → Nat → Nat → Nat
 | 0, i, _ => i
 | n + 1, i, j => if i < j then (if f ((i + j) / 2) = true then bisM f n ((i + j) / 2 + 1) j else bisM f n i ((i + j) / 2)) else i
def upM : Nat → List α → Nat → List α
 | 0, zs, _ => zs
 | n + 1, zs, k => upM n (swpD zs k (k + 1)) (k + 1)
def downM : Nat → List α → Nat → List α
 | 0, zs, _ => zs
 | n + 1, zs, k => downM n (swpD zs k (k - 1)) (k - 1)
def swapR : List α → Nat → Nat → Nat → List α
 | zs, _, _, 0 => zs
 | zs, a, b, n + 1 => swapR (swpD zs a b) (a + 1) (b + 1) n
def rotG : Nat → List α → Nat → Nat → Nat → List α
 | 0, zs, _, _, _ => zs
 | n + 1, zs, m, i, j => if i = j then swapR zs (m - i) m i else if j < i then rotG n (swapR zs (m - i) m j) m (i - j) j else rotG n (swapR zs (m - i) (m + j - i) i) m i (j - i)
def symM : Nat → List α → Nat → Nat → Nat → List α
 | 0, zs, _, _, _ => zs
 | n + 1, zs, a, m, b =>
  if m = a + 1 then upM (bisM (fun h => lt (gD zs h) (gD zs a)) (b - m) m b - 1 - a) zs a
  else if b = m + 1 then downM (m - bisM (fun h => !lt (gD zs m) (gD zs h)) (m - a) a m) zs m
  else
   let mid := (a + b) / 2
   let s := bisM (fun c => !lt (gD zs (mid + m - 1 - c)) (gD zs c)) (b - a) (if mid < m then mid + m - b else a) (if mid < m then mid else m)
   let e := mid + m - s
   let z1 := if s < m ∧ m < e then rotG (e - s) zs m (m - s) (e - m) else zs
   let z2 := if a < s ∧ s < mid then symM n z1 a s mid else z1
   if mid < e ∧ e < b then symM n z2 mid e b else z2
end
section
variable {α : Type} [Inhabited α] {lt : α → α → Bool}
theorem g_app {u v : List α} {x : α} {n : Nat} (h : n = u.length) : gD (u ++ x :: v) n = x := by
 unfold gD
 rw [List.getD_eq_getElem?_getD, List.getElem?_append_right (by omega), h, Nat.sub_self]
 rfl
theorem g_left {u v : List α} {n : Nat} (h : n < u.length) : gD (u ++ v) n = gD u n := by
 unfold gD
 rw [List.getD_eq_getElem?_getD, List.getElem?_append_left h, List.getD_eq_getElem?_getD]
theorem g_right {u v : List α} {n : Nat} (h : u.length ≤ n) : gD (u ++ v) n = gD v (n - u.length) := by
 unfold gD
 rw [List.getD_eq_getElem?_getD, List.getElem?_append_right h, List.getD_eq_getElem?_getD]
theorem g_mem {u : List α} {n : Nat} (h : n < u.length) : gD u n ∈ u := by
 unfold gD
 rw [List.getD_eq_getElem?_getD, List.getElem?_eq_getElem h]
 exact List.getElem_mem _
omit [Inhabited α] in
theorem set_app {u v : List α} {x y : α} {n : Nat} (h : n = u.length) : (u ++ x :: v).set n y = u ++ y :: v := by
 rw [List.set_append_right _ _ (by omega), h, Nat.sub_self]
 rfl
theorem swp_two {u v w : List α} {x y : α} {p q : Nat} (hp : p = u.length) (hq : q = u.length + 1 + v.length) : swpD (u ++ x :: (v ++ y :: w)) p q = u ++ y :: (v ++ x :: w) := by
 have h2 : ∀ z : α, u ++ z :: (v ++ y :: w) = (u ++ z :: v) ++ y :: w := fun z => by rw [List.append_assoc]; rfl
 unfold swpD
 rw [g_app hp, h2 x, g_app (by rw [List.length_append, List.length_cons]; omega), ← h2 x, set_app hp, h2 y, set_app (by rw [List.length_append, List.length_cons]; omega), List.append_assoc]
 rfl
theorem swp_adj {u w : List α} {x y : α} {p q : Nat} (hp : p = u.length) (hq : q = u.length + 1) : swpD (u ++ x :: y :: w) p q = u ++ y :: x :: w := swp_two (v := []) hp hq
theorem swp_comm (zs : List α) {p q : Nat} (h : p ≠ q) : swpD zs p q = swpD zs q p := by
 unfold swpD
 exact List.set_comm _ _ h
theorem swpD_len (zs : List α) (p q : Nat) : (swpD zs p q).length = zs.length := by unfold swpD; rw [List.length_set, List.length_set]
theorem insI_ok (ho : WOrd lt) {pre : List α} {x : α} : ∀ (n : Nat) {s post : List α}, s.length = n → Sor lt s → ∃ t, insI lt (pre ++ s ++ x :: post) pre.length (pre.length + n) = pre ++ t ++ post ∧ Stab lt (s ++ [x]) t ∧ Sor lt t := by
 intro n
 induction n with
 | zero =>
  intro s post hs _
  obtain rfl := List.eq_nil_of_length_eq_zero hs
  refine ⟨[x], ?_, .refl _, List.pairwise_singleton ..⟩
  cases hp : pre.length with
  | zero => unfold insI; simp
  | succ k => rw [Nat.add_zero]; unfold insI; rw [if_neg (by omega)]; simp
 | succ n ih =>
  intro s post hs hsr
  rcases List.eq_nil_or_concat s with rfl | ⟨s', y, rfl⟩
  ·cases hs
  ·rw [List.length_concat] at hs
   have hs' : s'.length = n := Nat.succ.inj hs
   rw [List.concat_eq_append] at hsr ⊢
   have hpw := List.pairwise_append.1 hsr
   have e0 : pre ++ (s' ++ [y]) ++ x :: post = (pre ++ s') ++ y :: x :: post := by simp
   have e1 : (pre ++ s').length = pre.length + n := by rw [List.length_append, hs']
   have gy : gD ((pre ++ s') ++ y :: x :: post) (pre.length + n) = y := g_app e1.symm
   have gx : gD ((pre ++ s') ++ y :: x :: post) (pre.length + n + 1) = x := by
    rw [show (pre ++ s') ++ y :: x :: post = ((pre ++ s') ++ [y]) ++ x :: post by simp]
    exact g_app (by rw [List.length_append, e1]; rfl)
   rw [e0, show pre.length + (n + 1) = (pre.length + n) + 1 by omega]
   unfold insI
   rw [gy, gx]
   cases k : lt x y with
   | false =>
    rw [if_neg (fun h => by cases h.2)]
    refine ⟨s' ++ [y] ++ [x], by simp, .refl _, List.pairwise_append.2 ⟨hsr, List.pairwise_singleton .., fun a ha b hb => ?_⟩⟩
    obtain rfl := List.mem_singleton.1 hb
    rcases List.mem_append.1 ha with ha | ha
    ·exact ho.ntrans _ _ _ k (hpw.2.2 a ha y (List.mem_singleton.2 rfl))
    ·rw [List.mem_singleton.1 ha]; exact k
   | true =>
    rw [if_pos ⟨by omega, rfl⟩, swp_comm _ (by omega), swp_adj e1.symm (by rw [e1])]
    obtain ⟨t, h1, h2, h3⟩ := ih (s := s') (post := y :: post) hs' hpw.1
    refine ⟨t ++ [y], by rw [h1]; simp, ?_, List.pairwise_append.2 ⟨h3, List.pairwise_singleton .., fun a ha b hb => ?_⟩⟩
    ·have h4 : Stab lt (s' ++ [y] ++ [x]) (s' ++ [x] ++ [y]) := by
      have := Stab.swap (u := s') (v := []) (x := y) (y := x) (Stab.refl (s' ++ [y, x])) k
      simpa using this
     exact h4.trans (h2.right [y])
    ·obtain rfl := List.mem_singleton.1 hb
     rcases List.mem_append.1 (h2.mem.1 ha) with ha | ha
     ·exact hpw.2.2 a ha b (List.mem_singleton.2 rfl)
     ·rw [List.mem_singleton.1 ha]; exact ho.asymm _ _ k
theorem insO_ok (ho : WOrd lt) {pre : List α} : ∀ {y s post : List α}, Sor lt s → ∃ t, insO lt pre.length y.length (pre ++ s ++ y ++ post) (pre.length + s.length) = pre ++ t ++ post ∧ Stab lt (s ++ y) t ∧ Sor lt t
 | [], s, post, hs => ⟨s, by simp [insO], by rw [List.append_nil]; exact .refl _, hs⟩
 | x :: y, s, post, hs => by
  obtain ⟨t, h1, h2, h3⟩ := insI_ok ho (pre := pre) (x := x) s.length (post := y ++ post) rfl hs
  have hl : t.length = s.length + 1 := by rw [h2.len, List.length_append]; rfl
  obtain ⟨t2, k1, k2, k3⟩ := insO_ok ho (pre := pre) (y := y) (post := post) h3
  refine ⟨t2, ?_, ?_, k3⟩
  ·show insO lt pre.length y.length (insI lt (pre ++ s ++ x :: y ++ post) pre.length (pre.length + s.length)) (pre.length + s.length + 1) = _
   rw [show pre ++ s ++ x :: y ++ post = pre ++ s ++ x :: (y ++ post) by simp, h1, ← k1, hl, show pre ++ t ++ (y ++ post) = pre ++ t ++ y ++ post by simp]
   rfl
  ·have := (h2.right y).trans k2
   simpa using this
theorem ins_part (ho : WOrd lt) {pre x post : List α} {a b : Nat} (ha : a = pre.length) (hb : b = a + x.length) : ∃ t, insO lt a (b - (a + 1)) (pre ++ x ++ post) (a + 1) = pre ++ t ++ post ∧ Stab lt x t ∧ Sor lt t := by
 subst ha hb
 cases x with
 | nil => exact ⟨[], by rw [show pre.length + ([] : List α).length - (pre.length + 1) = 0 by simp only [List.length_nil]; omega]; rfl, .refl _, List.Pairwise.nil⟩
 | cons z x =>
  obtain ⟨t, h1, h2, h3⟩ := insO_ok ho (pre := pre) (y := x) (s := [z]) (post := post) (List.pairwise_singleton ..)
  refine ⟨t, ?_, h2, h3⟩
  rw [← h1, List.length_cons, show pre.length + (x.length + 1) - (pre.length + 1) = x.length by omega]
  simp
theorem bis_ok {f : Nat → Bool} {i0 j0 : Nat} : ∀ (n i j : Nat), i0 ≤ i → i ≤ j → j ≤ j0 → j - i ≤ n → (i0 < i → f (i - 1) = true) → (j < j0 → f j = false) → i0 ≤ bisM f n i j ∧ bisM f n i j ≤ j0 ∧ (i0 < bisM f n i j → f (bisM f n i j - 1) = true) ∧ (bisM f n i j < j0 → f (bisM f n i j) = false) := by
 intro n
 induction n with
 | zero =>
  intro i j h1 h2 h3 h4 h5 h6
  obtain rfl : i = j := by omega
  exact ⟨h1, h3, h5, h6⟩
 | succ n ih =>
  intro i j h1 h2 h3 h4 h5 h6
  unfold bisM
  by_cases h : i < j
  ·rw [if_pos h]
   cases hf : f ((i + j) / 2) with
   | true => rw [if_pos rfl]; exact ih _ _ (by omega) (by omega) h3 (by omega) (fun _ => hf) h6
   | false => rw [if_neg Bool.noConfusion]; exact ih _ _ h1 (by omega) (by omega) (by omega) h5 (fun _ => hf)
  ·rw [if_neg h]
   obtain rfl : i = j := by omega
   exact ⟨h1, h3, h5, h6⟩
theorem up_ok {x : α} : ∀ {pre l post : List α}, upM l.length (pre ++ x :: l ++ post) pre.length = pre ++ l ++ x :: post
 | pre, [], post => by simp [upM]
 | pre, y :: l, post => by
  show upM l.length (swpD (pre ++ x :: y :: l ++ post) pre.length (pre.length + 1)) (pre.length + 1) = _
  rw [show pre ++ x :: y :: l ++ post = pre ++ x :: y :: (l ++ post) by simp, swp_adj rfl rfl]
  have := up_ok (x := x) (pre := pre ++ [y]) (l := l) (post := post)
  rw [List.length_append] at this
  simpa using this
theorem down_ok {y : α} {pre : List α} : ∀ (n : Nat) {l post : List α}, l.length = n → downM n (pre ++ l ++ y :: post) (pre.length + n) = pre ++ y :: l ++ post := by
 intro n
 induction n with
 | zero =>
  intro l post h
  obtain rfl := List.eq_nil_of_length_eq_zero h
  simp [downM]
 | succ n ih =>
  intro l post h
  rcases List.eq_nil_or_concat l with rfl | ⟨l', z, rfl⟩
  ·cases h
  ·rw [List.length_concat] at h
   have h : l'.length = n := Nat.succ.inj h
   rw [List.concat_eq_append]
   show downM n (swpD (pre ++ (l' ++ [z]) ++ y :: post) (pre.length + (n + 1)) (pre.length + (n + 1) - 1)) (pre.length + (n + 1) - 1) = _
   rw [swp_comm _ (by omega), show pre ++ (l' ++ [z]) ++ y :: post = (pre ++ l') ++ z :: y :: post by simp, swp_adj (by rw [List.length_append]; omega) (by rw [List.length_append]; omega), show pre.length + (n + 1) - 1 = pre.length + n by omega, ih (l := l') (post := z :: post) h]
   simp
theorem swapR_ok : ∀ (n : Nat) {u x v y w : List α} {a b : Nat}, x.length = n → y.length = n → a = u.length → b = u.length + x.length + v.length → swapR (u ++ x ++ v ++ y ++ w) a b n = u ++ y ++ v ++ x ++ w := by
 intro n
 induction n with
 | zero =>
  intro u x v y w a b hx hy _ _
  obtain rfl := List.eq_nil_of_length_eq_zero hx
  obtain rfl := List.eq_nil_of_length_eq_zero hy
  rfl
 | succ n ih =>
  intro u x v y w a b hx hy ha hb
  match x, y, hx, hy with
  | p :: x, q :: y, hx, hy =>
   have hx := Nat.succ.inj hx
   have hy := Nat.succ.inj hy
   show swapR (swpD (u ++ p :: x ++ v ++ q :: y ++ w) a b) (a + 1) (b + 1) n = _
   rw [show u ++ p :: x ++ v ++ q :: y ++ w = u ++ p :: ((x ++ v) ++ q :: (y ++ w)) by simp, swp_two ha (by rw [List.length_append, hb, List.length_cons]; omega)]
   have := ih (u := u ++ [q]) (x := x) (v := v ++ [p]) (y := y) (w := w) (a := a + 1) (b := b + 1) hx hy (by rw [List.length_append, ha]; rfl) (by rw [List.length_append, List.length_append, hb, List.length_cons]; simp; omega)
   rw [show u ++ q :: ((x ++ v) ++ p :: (y ++ w)) = u ++ [q] ++ x ++ (v ++ [p]) ++ y ++ w by simp, this]
   simp
theorem rot_ok : ∀ (n : Nat) {u x y w : List α} {m i j : Nat}, i = x.length → j = y.length → m = u.length + i → 0 < i → 0 < j → i + j ≤ n → rotG n (u ++ x ++ y ++ w) m i j = u ++ y ++ x ++ w := by
 intro n
 induction n with
 | zero => intro u x y w m i j _ _ _ _ _ _; omega
 | succ n ih =>
  intro u x y w m i j hi hj hm hi0 hj0 hn
  unfold rotG
  by_cases h1 : i = j
  ·rw [if_pos h1]
   have := swapR_ok (α := α) i (u := u) (x := x) (v := []) (y := y) (w := w) (a := m - i) (b := m) hi.symm (by omega) (by omega) (by simp; omega)
   simpa using this
  ·rw [if_neg h1]
   by_cases h2 : j < i
   ·rw [if_pos h2]
    have e : x = x.take j ++ x.drop j := (List.take_append_drop ..).symm
    have l1 : (x.take j).length = j := by rw [List.length_take]; omega
    have l2 : (x.drop j).length = i - j := by rw [List.length_drop]; omega
    generalize x.take j = p at *
    generalize x.drop j = q at *
    subst e
    have := swapR_ok (α := α) j (u := u) (x := p) (v := q) (y := y) (w := w) (a := m - i) (b := m) l1 hj.symm (by omega) (by rw [l1, l2]; omega)
    rw [show u ++ (p ++ q) ++ y ++ w = u ++ p ++ q ++ y ++ w by simp, this]
    have := ih (u := u ++ y) (x := q) (y := p) (w := w) (m := m) (i := i - j) (j := j) l2.symm l1.symm (by rw [List.length_append]; omega) (by omega) hj0 (by omega)
    rw [this]
    simp
   ·rw [if_neg h2]
    have e : y = y.take (j - i) ++ y.drop (j - i) := (List.take_append_drop ..).symm
    have l1 : (y.take (j - i)).length = j - i := by rw [List.length_take]; omega
    have l2 : (y.drop (j - i)).length = i := by rw [List.length_drop]; omega
    generalize y.take (j - i) = p at *
    generalize y.drop (j - i) = q at *
    subst e
    have := swapR_ok (α := α) i (u := u) (x := x) (v := p) (y := q) (w := w) (a := m - i) (b := m + j - i) hi.symm l2 (by omega) (by rw [l1]; omega)
    rw [show u ++ x ++ (p ++ q) ++ w = u ++ x ++ p ++ q ++ w by simp, this]
    have := ih (u := u) (x := q) (y := p) (w := x ++ w) (m := m) (i := i) (j := j - i) l2.symm l1.symm hm hi0 (by omega) (by omega)
    rw [show u ++ q ++ p ++ x ++ w = u ++ q ++ p ++ (x ++ w) by simp, this]
    simp
end
section
variable {α : Type} {lt : α → α → Bool}
theorem sor_split {x y : List α} (h : Sor lt (x ++ y)) : Sor lt x ∧ Sor lt y ∧ ∀ a ∈ x, ∀ b ∈ y, lt b a = false := List.pairwise_append.1 h
theorem sor_join {x y : List α} (h1 : Sor lt x) (h2 : Sor lt y) (h : ∀ a ∈ x, ∀ b ∈ y, lt b a = false) : Sor lt (x ++ y) := List.pairwise_append.2 ⟨h1, h2, h⟩
end
section
variable {α : Type} [Inhabited α] {lt : α → α → Bool}
theorem sor_last {x : List α} (h : Sor lt x) (hi : ∀ a, lt a a = false) : ∀ a ∈ x, lt (gD x (x.length - 1)) a = false := by
 rcases List.eq_nil_or_concat x with rfl | ⟨y, z, rfl⟩
 ·exact fun a ha => absurd ha (List.not_mem_nil)
 ·intro a ha
  rw [List.concat_eq_append] at h ha ⊢
  rw [show gD (y ++ [z]) ((y ++ [z]).length - 1) = z from g_app (by simp)]
  rcases List.mem_append.1 ha with ha | ha
  ·exact (sor_split h).2.2 a ha z (List.mem_singleton.2 rfl)
  ·rw [List.mem_singleton.1 ha]; exact hi z
theorem sor_first {x : List α} (h : Sor lt x) (hi : ∀ a, lt a a = false) : ∀ a ∈ x, lt a (gD x 0) = false := by
 cases x with
 | nil => exact fun a ha => absurd ha (List.not_mem_nil)
 | cons z x =>
  intro a ha
  rcases List.mem_cons.1 ha with rfl | ha
  ·exact hi a
  ·exact (List.pairwise_cons.1 h).1 a ha
set_option maxHeartbeats 4000000 in
theorem symM_ok (ho : WOrd lt) : ∀ (n : Nat) {pre l r post : List α} {a m b : Nat}, a = pre.length → m = a + l.length → b = m + r.length → l ≠ [] → r ≠ [] → b - a ≤ n → Sor lt l → Sor lt r → ∃ t, symM lt n (pre ++ l ++ r ++ post) a m b = pre ++ t ++ post ∧ Stab lt (l ++ r) t ∧ Sor lt t := by
 intro n
 induction n with
 | zero =>
  intro pre l r post a m b ha hm hb hl _ hn _ _
  have := List.length_pos_iff.2 hl
  omega
 | succ n ih =>
  intro pre l r post a m b ha hm hb hl hr hn sl sr
  have hl0 := List.length_pos_iff.2 hl
  have hr0 := List.length_pos_iff.2 hr
  -- places
  have gl : ∀ {k}, k < l.length → gD (pre ++ l ++ r ++ post) (a + k) = gD l k := fun {k} hk => by
   rw [List.append_assoc, List.append_assoc, g_right (by omega), ← List.append_assoc, g_left (by rw [List.length_append]; omega), g_left (by omega), show a + k - pre.length = k by omega]
  have gr : ∀ {k}, k < r.length → gD (pre ++ l ++ r ++ post) (m + k) = gD r k := fun {k} hk => by
   rw [List.append_assoc (pre ++ l), g_right (by rw [List.length_append]; omega), g_left (by rw [List.length_append]; omega), show m + k - (pre ++ l).length = k by rw [List.length_append]; omega]
  unfold symM
  by_cases c1 : m = a + 1
  ·-- one on the left
   rw [if_pos c1]
   obtain ⟨x, rfl⟩ : ∃ x, l = [x] := by
    match l, hl0, hm with
    | [x], _, _ => exact ⟨x, rfl⟩
    | _ :: _ :: _, _, h => simp at h; omega
   have gx : gD (pre ++ [x] ++ r ++ post) a = x := by have := gl (k := 0) (by simp); rw [Nat.add_zero] at this; rw [this]; rfl
   rw [gx]
   have hbis := bis_ok (f := fun h => lt (gD (pre ++ [x] ++ r ++ post) h) x) (i0 := m) (j0 := b) (b - m) m b (Nat.le_refl _) (by omega) (Nat.le_refl _) (Nat.le_refl _) (fun h => absurd h (Nat.lt_irrefl _)) (fun h => absurd h (Nat.lt_irrefl _))
   generalize bisM (fun h => lt (gD (pre ++ [x] ++ r ++ post) h) x) (b - m) m b = i at hbis
   obtain ⟨h1, h2, h3, h4⟩ := hbis
   have e : r = r.take (i - m) ++ r.drop (i - m) := (List.take_append_drop ..).symm
   have l1 : (r.take (i - m)).length = i - m := by rw [List.length_take]; omega
   have l2 : (r.drop (i - m)).length = b - i := by rw [List.length_drop]; omega
   generalize r.take (i - m) = p at *
   generalize r.drop (i - m) = q at *
   subst e
   obtain ⟨sp, sq, spq⟩ := sor_split sr
   have hp : ∀ y ∈ p, lt y x = true := by
    intro y hy
    have hpos := List.length_pos_of_mem hy
    have := h3 (by omega)
    rw [show i - 1 = m + (i - 1 - m) by omega, gr (by rw [List.length_append]; omega), g_left (by omega), show i - 1 - m = p.length - 1 by omega] at this
    exact ho.le_lt (sor_last sp ho.irrefl y hy) this
   have hq : ∀ y ∈ q, lt y x = false := by
    intro y hy
    have hpos := List.length_pos_of_mem hy
    have := h4 (by omega)
    rw [show i = m + (i - m) by omega, gr (by rw [List.length_append]; omega), g_right (by omega), show i - m - p.length = 0 by omega] at this
    exact ho.ntrans _ _ _ (sor_first sq ho.irrefl y hy) this
   refine ⟨p ++ x :: q, ?_, ?_, sor_join sp (List.pairwise_cons.2 ⟨hq, sq⟩) fun y hy z hz => ?_⟩
   ·have := up_ok (x := x) (pre := pre) (l := p) (post := q ++ post)
    rw [show i - 1 - a = p.length by omega, ha, show pre ++ [x] ++ (p ++ q) ++ post = pre ++ x :: p ++ (q ++ post) by simp, this]
    simp
   ·have := (Stab.rot (lt := lt) (l := [x]) (r := p) fun z hz y hy => by rw [List.mem_singleton.1 hz]; exact hp y hy).right q
    simpa using this
   ·rcases List.mem_cons.1 hz with rfl | hz
    ·exact ho.asymm _ _ (hp y hy)
    ·exact spq y hy z hz
  ·rw [if_neg c1]
   by_cases c2 : b = m + 1
   ·-- one on the right
    rw [if_pos c2]
    obtain ⟨y, rfl⟩ : ∃ y, r = [y] := by
     match r, hr0, hb with
     | [y], _, _ => exact ⟨y, rfl⟩
     | _ :: _ :: _, _, h => simp at h; omega
    have gy : gD (pre ++ l ++ [y] ++ post) m = y := by have := gr (k := 0) (by simp); rw [Nat.add_zero] at this; rw [this]; rfl
    rw [gy]
    have hbis := bis_ok (f := fun h => !lt y (gD (pre ++ l ++ [y] ++ post) h)) (i0 := a) (j0 := m) (m - a) a m (Nat.le_refl _) (by omega) (Nat.le_refl _) (Nat.le_refl _) (fun h => absurd h (Nat.lt_irrefl _)) (fun h => absurd h (Nat.lt_irrefl _))
    generalize bisM (fun h => !lt y (gD (pre ++ l ++ [y] ++ post) h)) (m - a) a m = i at hbis
    obtain ⟨h1, h2, h3, h4⟩ := hbis
    have e : l = l.take (i - a) ++ l.drop (i - a) := (List.take_append_drop ..).symm
    have l1 : (l.take (i - a)).length = i - a := by rw [List.length_take]; omega
    have l2 : (l.drop (i - a)).length = m - i := by rw [List.length_drop]; omega
    generalize l.take (i - a) = p at *
    generalize l.drop (i - a) = q at *
    subst e
    obtain ⟨sp, sq, spq⟩ := sor_split sl
    have hp : ∀ x ∈ p, lt y x = false := by
     intro x hx
     have hpos := List.length_pos_of_mem hx
     have := h3 (by omega)
     rw [show i - 1 = a + (i - 1 - a) by omega, gl (by rw [List.length_append]; omega), g_left (by omega), show i - 1 - a = p.length - 1 by omega] at this
     exact ho.ntrans _ _ _ (by cases h : lt y (gD p (p.length - 1)) with | false => rfl | true => rw [h] at this; cases this) (sor_last sp ho.irrefl x hx)
    have hq : ∀ x ∈ q, lt y x = true := by
     intro x hx
     have hpos := List.length_pos_of_mem hx
     have := h4 (by omega)
     rw [show i = a + (i - a) by omega, gl (by rw [List.length_append]; omega), g_right (by omega), show i - a - p.length = 0 by omega] at this
     exact ho.lt_le (by cases h : lt y (gD q 0) with | true => rfl | false => rw [h] at this; cases this) (sor_first sq ho.irrefl x hx)
    refine ⟨p ++ y :: q, ?_, ?_, sor_join sp (List.pairwise_cons.2 ⟨fun x hx => ho.asymm _ _ (hq x hx), sq⟩) fun x hx z hz => ?_⟩
    ·have := down_ok (y := y) (pre := pre ++ p) (m - i) (l := q) (post := post) l2
     rw [List.length_append, show pre.length + p.length + (m - i) = m by omega] at this
     rw [show pre ++ (p ++ q) ++ [y] ++ post = pre ++ p ++ q ++ y :: post by simp, this]
     simp
    ·have := (Stab.rot (lt := lt) (l := q) (r := [y]) fun x hx z hz => by rw [List.mem_singleton.1 hz]; exact hq x hx).left p
     simpa using this
    ·rcases List.mem_cons.1 hz with rfl | hz
     ·exact hp x hx
     ·exact spq x hx z hz
   ·rw [if_neg c2]
    -- the search
    have hmid : a + 2 ≤ (a + b) / 2 ∧ (a + b) / 2 + 2 ≤ b := by omega
    have hmid2 : 2 * ((a + b) / 2) ≤ a + b ∧ a + b ≤ 2 * ((a + b) / 2) + 1 := by omega
    show ∃ t, (let mid := (a + b) / 2; _) = _ ∧ _
    generalize (a + b) / 2 = mid at hmid hmid2
    dsimp only
    have hs0 : a ≤ (if mid < m then mid + m - b else a) ∧ (if mid < m then mid + m - b else a) ≤ (if mid < m then mid else m) ∧ (mid < m → (if mid < m then mid + m - b else a) = mid + m - b ∧ (if mid < m then mid else m) = mid) ∧ (¬ mid < m → (if mid < m then mid + m - b else a) = a ∧ (if mid < m then mid else m) = m) := by
     by_cases h : mid < m
     ·rw [if_pos h, if_pos h]; exact ⟨by omega, by omega, fun _ => ⟨rfl, rfl⟩, fun h' => absurd h h'⟩
     ·rw [if_neg h, if_neg h]; exact ⟨by omega, by omega, fun h' => absurd h' h, fun _ => ⟨rfl, rfl⟩⟩
    generalize (if mid < m then mid + m - b else a) = s0 at hs0
    generalize (if mid < m then mid else m) = r0 at hs0
    obtain ⟨hs1, hs2, hs3, hs4⟩ := hs0
    have hbis := bis_ok (f := fun c => !lt (gD (pre ++ l ++ r ++ post) (mid + m - 1 - c)) (gD (pre ++ l ++ r ++ post) c)) (i0 := s0) (j0 := r0) (b - a) s0 r0 (Nat.le_refl _) hs2 (Nat.le_refl _) (by omega) (fun h => absurd h (Nat.lt_irrefl _)) (fun h => absurd h (Nat.lt_irrefl _))
    generalize bisM (fun c => !lt (gD (pre ++ l ++ r ++ post) (mid + m - 1 - c)) (gD (pre ++ l ++ r ++ post) c)) (b - a) s0 r0 = s at hbis
    obtain ⟨b1, b2, b3, b4⟩ := hbis
    have hc : (mid < m ∧ s0 = mid + m - b ∧ r0 = mid) ∨ (¬ mid < m ∧ s0 = a ∧ r0 = m) := by
     by_cases h : mid < m
     ·exact .inl ⟨h, hs3 h⟩
     ·exact .inr ⟨h, hs4 h⟩
    clear hs3 hs4
    have hsm : a ≤ s ∧ s ≤ m ∧ s ≤ mid := by omega
    have hem : m ≤ mid + m - s ∧ mid + m - s ≤ b ∧ mid ≤ mid + m - s := by omega
    have f1 : s < m → m < mid + m - s → s < r0 := by omega
    have f2 : a < s → mid + m - s < b → s0 < s := by omega
    obtain ⟨e, he⟩ : ∃ e, e = mid + m - s := ⟨_, rfl⟩
    rw [← he] at hem f1 f2 ⊢
    have el : l = l.take (s - a) ++ l.drop (s - a) := (List.take_append_drop ..).symm
    have ll1 : (l.take (s - a)).length = s - a := by rw [List.length_take]; omega
    have ll2 : (l.drop (s - a)).length = m - s := by rw [List.length_drop]; omega
    have er : r = r.take (e - m) ++ r.drop (e - m) := (List.take_append_drop ..).symm
    have lr1 : (r.take (e - m)).length = e - m := by rw [List.length_take]; omega
    have lr2 : (r.drop (e - m)).length = b - e := by rw [List.length_drop]; omega
    generalize l.take (s - a) = p1 at *
    generalize l.drop (s - a) = p2 at *
    generalize r.take (e - m) = q1 at *
    generalize r.drop (e - m) = q2 at *
    subst el er
    obtain ⟨sp1, sp2, sp⟩ := sor_split sl
    obtain ⟨sq1, sq2, sq⟩ := sor_split sr
    have F1 : ∀ x ∈ p2, ∀ y ∈ q1, lt y x = true := by
     intro x hx y hy
     have k1 := List.length_pos_of_mem hx
     have k2 := List.length_pos_of_mem hy
     have := b4 (f1 (by omega) (by omega))
     rw [show mid + m - 1 - s = m + (e - 1 - m) by omega, gr (by rw [List.length_append]; omega), g_left (by omega), show e - 1 - m = q1.length - 1 by omega, show s = a + (s - a) by omega, gl (by rw [List.length_append]; omega), g_right (by omega), show s - a - p1.length = 0 by omega] at this
     have h1 : lt (gD q1 (q1.length - 1)) (gD p2 0) = true := by cases h : lt (gD q1 (q1.length - 1)) (gD p2 0) with | true => rfl | false => rw [h] at this; cases this
     exact ho.le_lt (sor_last sq1 ho.irrefl y hy) (ho.lt_le h1 (sor_first sp2 ho.irrefl x hx))
    have F2 : ∀ x ∈ p1, ∀ y ∈ q2, lt y x = false := by
     intro x hx y hy
     have k1 := List.length_pos_of_mem hx
     have k2 := List.length_pos_of_mem hy
     have := b3 (f2 (by omega) (by omega))
     rw [show mid + m - 1 - (s - 1) = m + (e - m) by omega, gr (by rw [List.length_append]; omega), g_right (by omega), show e - m - q1.length = 0 by omega, show s - 1 = a + (s - 1 - a) by omega, gl (by rw [List.length_append]; omega), g_left (by omega), show s - 1 - a = p1.length - 1 by omega] at this
     have h1 : lt (gD q2 0) (gD p1 (p1.length - 1)) = false := by cases h : lt (gD q2 0) (gD p1 (p1.length - 1)) with | false => rfl | true => rw [h] at this; cases this
     exact ho.ntrans _ _ _ (ho.ntrans _ _ _ (sor_first sq2 ho.irrefl y hy) h1) (sor_last sp1 ho.irrefl x hx)
    -- the rotation
    have hz1 : (if s < m ∧ m < e then rotG (e - s) (pre ++ (p1 ++ p2) ++ (q1 ++ q2) ++ post) m (m - s) (e - m) else pre ++ (p1 ++ p2) ++ (q1 ++ q2) ++ post) = pre ++ p1 ++ q1 ++ p2 ++ q2 ++ post := by
     by_cases h : s < m ∧ m < e
     ·rw [if_pos h]
      have := rot_ok (α := α) (e - s) (u := pre ++ p1) (x := p2) (y := q1) (w := q2 ++ post) (m := m) (i := m - s) (j := e - m) ll2.symm lr1.symm (by rw [List.length_append]; omega) (by omega) (by omega) (by omega)
      rw [show pre ++ (p1 ++ p2) ++ (q1 ++ q2) ++ post = pre ++ p1 ++ p2 ++ q1 ++ (q2 ++ post) by simp, this]
      simp
     ·rw [if_neg h]
      by_cases h2 : s < m
      ·obtain rfl := List.eq_nil_of_length_eq_zero (l := q1) (by omega)
       simp
      ·obtain rfl := List.eq_nil_of_length_eq_zero (l := p2) (by omega)
       simp
    rw [hz1]
    -- both halves
    obtain ⟨t1, hz2, st1, so1⟩ : ∃ t1, (if a < s ∧ s < mid then symM lt n (pre ++ p1 ++ q1 ++ p2 ++ q2 ++ post) a s mid else pre ++ p1 ++ q1 ++ p2 ++ q2 ++ post) = pre ++ t1 ++ p2 ++ q2 ++ post ∧ Stab lt (p1 ++ q1) t1 ∧ Sor lt t1 := by
     by_cases h : a < s ∧ s < mid
     ·rw [if_pos h]
      obtain ⟨t, h1, h2, h3⟩ := ih (pre := pre) (l := p1) (r := q1) (post := p2 ++ q2 ++ post) (a := a) (m := s) (b := mid) ha (by omega) (by omega) (List.ne_nil_of_length_pos (by omega)) (List.ne_nil_of_length_pos (by omega)) (by omega) sp1 sq1
      refine ⟨t, ?_, h2, h3⟩
      rw [show pre ++ p1 ++ q1 ++ p2 ++ q2 ++ post = pre ++ p1 ++ q1 ++ (p2 ++ q2 ++ post) by simp, h1]
      simp
     ·rw [if_neg h]
      refine ⟨p1 ++ q1, by simp, .refl _, ?_⟩
      by_cases h2 : a < s
      ·obtain rfl := List.eq_nil_of_length_eq_zero (l := q1) (by omega)
       rw [List.append_nil]; exact sp1
      ·obtain rfl := List.eq_nil_of_length_eq_zero (l := p1) (by omega)
       exact sq1
    rw [hz2]
    have hl1 : t1.length = mid - a := by rw [st1.len, List.length_append]; omega
    obtain ⟨t2, hz3, st2, so2⟩ : ∃ t2, (if mid < e ∧ e < b then symM lt n (pre ++ t1 ++ p2 ++ q2 ++ post) mid e b else pre ++ t1 ++ p2 ++ q2 ++ post) = pre ++ t1 ++ t2 ++ post ∧ Stab lt (p2 ++ q2) t2 ∧ Sor lt t2 := by
     by_cases h : mid < e ∧ e < b
     ·rw [if_pos h]
      exact ih (pre := pre ++ t1) (l := p2) (r := q2) (post := post) (a := mid) (m := e) (b := b) (by rw [List.length_append]; omega) (by omega) (by omega) (List.ne_nil_of_length_pos (by omega)) (List.ne_nil_of_length_pos (by omega)) (by omega) sp2 sq2
     ·rw [if_neg h]
      refine ⟨p2 ++ q2, by simp, .refl _, ?_⟩
      by_cases h2 : mid < e
      ·obtain rfl := List.eq_nil_of_length_eq_zero (l := q2) (by omega)
       rw [List.append_nil]; exact sp2
      ·obtain rfl := List.eq_nil_of_length_eq_zero (l := p2) (by omega)
       exact sq2
    rw [hz3]
    refine ⟨t1 ++ t2, by simp, ?_, sor_join so1 so2 fun x hx y hy => ?_⟩
    ·have h1 := ((Stab.rot F1).right q2).left p1
     have h2 := st1.both st2
     have h3 : p1 ++ (q1 ++ p2 ++ q2) = p1 ++ q1 ++ (p2 ++ q2) := by simp
     rw [h3] at h1
     have h4 : p1 ++ (p2 ++ q1 ++ q2) = p1 ++ p2 ++ (q1 ++ q2) := by simp
     rw [h4] at h1
     exact h1.trans h2
    ·have hx := st1.mem.1 hx
     have hy := st2.mem.1 hy
     rcases List.mem_append.1 hx with hx | hx <;> rcases List.mem_append.1 hy with hy | hy
     ·exact sp x hx y hy
     ·exact F2 x hx y hy
     ·exact ho.asymm _ _ (F1 y hy x hx)
     ·exact sq x hx y hy
end
end Go.Proofs.YtjcmdifpkafdkaaDoor
namespace Go.Proofs.YtjcmdifpkafdkaaDoor
open Go.Lib
set_option maxRecDepth 100000
section
variable {α : Type} [Inhabited α]
def rowX (cel : α → List Value) (xs : List α) : List Value := xs.flatMap cel
variable {cel : α → List Value} {w : Nat}
omit [Inhabited α] in
theorem rowX_len (hw : ∀ x, (cel x).length = w) : ∀ xs : List α, (rowX cel xs).length = xs.length * w
 | [] => (Nat.zero_mul w).symm
 | x :: xs => by
  show (cel x ++ rowX cel xs).length = (xs.length + 1) * w
  rw [List.length_append, hw, rowX_len hw xs, Nat.succ_mul, Nat.add_comm]
theorem rowX_split {xs : List α} {j : Nat} (h : j < xs.length) : rowX cel xs = rowX cel (xs.take j) ++ (cel (gD xs j) ++ rowX cel (xs.drop (j + 1))) := by
 conv => lhs; rw [← List.take_append_drop j xs]
 unfold rowX
 rw [List.flatMap_append, dropD (d := default) h, List.flatMap_cons]
 rfl
theorem rowX_at (hw : ∀ x, (cel x).length = w) {xs : List α} {j : Nat} (h : j < xs.length) : ((rowX cel xs).drop (j * w)).take w = cel (gD xs j) := by
 have hl : (rowX cel (xs.take j)).length = j * w := by rw [rowX_len hw, List.length_take, Nat.min_eq_left (Nat.le_of_lt h)]
 rw [rowX_split h, ← hl, List.drop_left, ← hw (gD xs j), List.take_left]
theorem rowX_set (hw : ∀ x, (cel x).length = w) {xs : List α} {j : Nat} (h : j < xs.length) (y : α) : overL (rowX cel xs) (j * w) (cel y) = rowX cel (xs.set j y) := by
 have hl : (rowX cel (xs.take j)).length = j * w := by rw [rowX_len hw, List.length_take, Nat.min_eq_left (Nat.le_of_lt h)]
 have e : rowX cel (xs.set j y) = rowX cel (xs.take j) ++ (cel y ++ rowX cel (xs.drop (j + 1))) := by
  rw [List.set_eq_take_append_cons_drop, if_pos h]
  unfold rowX
  rw [List.flatMap_append, List.flatMap_cons]
 rw [e, rowX_split h]
 unfold overL
 rw [← hl, List.take_left, ← List.drop_drop, List.drop_left, hw y, ← hw (gD xs j), List.drop_left, List.append_assoc]
omit [Inhabited α] in
theorem rowX_snoc (xs : List α) (x : α) : rowX cel (xs ++ [x]) = rowX cel xs ++ cel x := by
 unfold rowX
 rw [List.flatMap_append, List.flatMap_cons, List.flatMap_nil, List.append_nil]
end
abbrev Flx := List UInt8 × Int × Int × Int
def celF (x : Flx) : List Value := [.string ⟨x.1.toArray⟩, .int .i64 x.2.1, .int .i64 x.2.2.1, .int .i64 x.2.2.2]
def celS (x : List UInt8) : List Value := [.string ⟨x.toArray⟩]
theorem rowS_map (xs : List (List UInt8)) : rowX celS xs = xs.map strV := by
 induction xs with
 | nil => rfl
 | cons x xs ih => show celS x ++ rowX celS xs = strV x :: xs.map strV; rw [ih]; rfl
theorem rowF_at {xs : List Flx} {j : Nat} {i : Int} (hi : i = ((j : Nat) : Int)) (h : j < xs.length) : ((rowX celF xs).drop (i.toNat * 4)).take 4 = [.string ⟨(gD xs j).1.toArray⟩, .int .i64 (gD xs j).2.1, .int .i64 (gD xs j).2.2.1, .int .i64 (gD xs j).2.2.2] := by
 rw [hi, Int.toNat_natCast]
 exact rowX_at (cel := celF) (fun _ => rfl) h
theorem rowS_at {xs : List (List UInt8)} {j : Nat} {i : Int} (hi : i = ((j : Nat) : Int)) (h : j < xs.length) : ((rowX celS xs).drop (i.toNat * 1)).take 1 = [.string ⟨(gD xs j).toArray⟩] := by
 rw [hi, Int.toNat_natCast]
 exact rowX_at (cel := celS) (fun _ => rfl) h
theorem rowF_set {xs : List Flx} {j q : Nat} {i : Int} (hq : q = i.toNat * 4) (hi : i = ((j : Nat) : Int)) (h : j < xs.length) (y : Flx) : overL (rowX celF xs) q [.string ⟨y.1.toArray⟩, .int .i64 y.2.1, .int .i64 y.2.2.1, .int .i64 y.2.2.2] = rowX celF (xs.set j y) := by
 rw [hq, hi, Int.toNat_natCast]
 exact rowX_set (cel := celF) (fun _ => rfl) h y
theorem rowS_set {xs : List (List UInt8)} {j q : Nat} {i : Int} (hq : q = i.toNat * 1) (hi : i = ((j : Nat) : Int)) (h : j < xs.length) (y : List UInt8) : overL (rowX celS xs) q [.string ⟨y.toArray⟩] = rowX celS (xs.set j y) := by
 rw [hq, hi, Int.toNat_natCast]
 exact rowX_set (cel := celS) (fun _ => rfl) h y
/-! comparison -/
def cmpI (a b : Int) : Int := if a < b then -1 else if a > b then 1 else 0
def or3 (a b c : Int) : Int := if a ≠ 0 then a else if b ≠ 0 then b else c
def or2 (a b : Int) : Int := if a ≠ 0 then a else b
def cmpF (x y : Flx) : Int := or3 (cmpI x.2.1 y.2.1) (cmpI x.2.2.1 y.2.2.1) (cmpI x.2.2.2 y.2.2.2)
def ltF (x y : Flx) : Bool := decide (cmpF x y < 0)
/-! the loops, a round each -/
section
variable {α : Type} [Inhabited α] {lt : α → α → Bool}
theorem insI_go {zs : List α} {a j : Nat} (h : a < j) (k : lt (gD zs j) (gD zs (j - 1)) = true) : insI lt zs a j = insI lt (swpD zs j (j - 1)) a (j - 1) := by
 obtain ⟨j, rfl⟩ : ∃ q, j = q + 1 := ⟨j - 1, by omega⟩
 rw [Nat.add_sub_cancel] at k ⊢
 conv => lhs; unfold insI
 rw [if_pos ⟨h, k⟩]
theorem insI_end {zs : List α} {a j : Nat} (h : ¬ a < j) : insI lt zs a j = zs := by
 cases j with
 | zero => rfl
 | succ j => unfold insI; rw [if_neg fun k => h k.1]
theorem insI_stop {zs : List α} {a j : Nat} (h : a < j) (k : lt (gD zs j) (gD zs (j - 1)) = false) : insI lt zs a j = zs := by
 obtain ⟨j, rfl⟩ : ∃ q, j = q + 1 := ⟨j - 1, by omega⟩
 rw [Nat.add_sub_cancel] at k
 unfold insI
 rw [if_neg fun h => by rw [k] at h; cases h.2]
theorem insO_go {zs : List α} {a i b : Nat} (h : i < b) : insO lt a (b - i) zs i = insO lt a (b - (i + 1)) (insI lt zs a i) (i + 1) := by
 rw [show b - i = (b - (i + 1)) + 1 by omega]
 rfl
theorem insO_end {zs : List α} {a i b : Nat} (h : ¬ i < b) : insO lt a (b - i) zs i = zs := by
 rw [show b - i = 0 by omega]
 rfl
theorem swapR_go {zs : List α} {a b i n : Nat} (h : i < n) : swapR zs (a + i) (b + i) (n - i) = swapR (swpD zs (a + i) (b + i)) (a + (i + 1)) (b + (i + 1)) (n - (i + 1)) := by
 rw [show n - i = (n - (i + 1)) + 1 by omega]
 rfl
theorem swapR_end {zs : List α} {a b i n : Nat} (h : ¬ i < n) : swapR zs (a + i) (b + i) (n - i) = zs := by
 rw [show n - i = 0 by omega]
 rfl
theorem rotG_eq {zs : List α} {k m i j : Nat} (h : i = j) (hk : 0 < k) : rotG k zs m i j = swapR zs (m - i) m i := by
 obtain ⟨k, rfl⟩ : ∃ q, k = q + 1 := ⟨k - 1, by omega⟩
 unfold rotG
 rw [if_pos h]
theorem rotG_gt {zs : List α} {k m i j : Nat} (h : j < i) (hk : 0 < k) : rotG k zs m i j = rotG (k - 1) (swapR zs (m - i) m j) m (i - j) j := by
 obtain ⟨k, rfl⟩ : ∃ q, k = q + 1 := ⟨k - 1, by omega⟩
 conv => lhs; unfold rotG
 rw [if_neg (by omega), if_pos h]
 rfl
theorem rotG_lt {zs : List α} {k m i j : Nat} (h : i < j) (hk : 0 < k) : rotG k zs m i j = rotG (k - 1) (swapR zs (m - i) (m + j - i) i) m i (j - i) := by
 obtain ⟨k, rfl⟩ : ∃ q, k = q + 1 := ⟨k - 1, by omega⟩
 conv => lhs; unfold rotG
 rw [if_neg (by omega), if_neg (by omega)]
 rfl
theorem bis_end {f : Nat → Bool} {k i j : Nat} (h : ¬ i < j) : bisM f k i j = i := by
 cases k with
 | zero => rfl
 | succ k => unfold bisM; rw [if_neg h]
theorem bis_yes {f : Nat → Bool} {k i j : Nat} (h : i < j) (hk : j - i ≤ k) (hf : f ((i + j) / 2) = true) : bisM f k i j = bisM f (k - 1) ((i + j) / 2 + 1) j := by
 obtain ⟨k, rfl⟩ : ∃ q, k = q + 1 := ⟨k - 1, by omega⟩
 conv => lhs; unfold bisM
 rw [if_pos h, if_pos hf]
 rfl
theorem bis_no {f : Nat → Bool} {k i j : Nat} (h : i < j) (hk : j - i ≤ k) (hf : f ((i + j) / 2) = false) : bisM f k i j = bisM f (k - 1) i ((i + j) / 2) := by
 obtain ⟨k, rfl⟩ : ∃ q, k = q + 1 := ⟨k - 1, by omega⟩
 conv => lhs; unfold bisM
 rw [if_pos h, if_neg (by rw [hf]; exact Bool.noConfusion)]
 rfl
theorem upM_go {zs : List α} {e k : Nat} (h : k < e) : upM (e - k) zs k = upM (e - (k + 1)) (swpD zs k (k + 1)) (k + 1) := by
 rw [show e - k = (e - (k + 1)) + 1 by omega]
 rfl
theorem upM_end {zs : List α} {e k : Nat} (h : ¬ k < e) : upM (e - k) zs k = zs := by
 rw [show e - k = 0 by omega]
 rfl
theorem downM_go {zs : List α} {e k : Nat} (h : e < k) : downM (k - e) zs k = downM (k - 1 - e) (swpD zs k (k - 1)) (k - 1) := by
 rw [show k - e = (k - 1 - e) + 1 by omega]
 rfl
theorem downM_end {zs : List α} {e k : Nat} (h : ¬ e < k) : downM (k - e) zs k = zs := by
 rw [show k - e = 0 by omega]
 rfl
theorem insI_len {a : Nat} : ∀ (j : Nat) (zs : List α), (insI lt zs a j).length = zs.length
 | 0, _ => rfl
 | j + 1, zs => by
  unfold insI
  split
  ·rw [insI_len j, swpD_len]
  ·rfl
theorem insO_len {a : Nat} : ∀ (k : Nat) (zs : List α) (i : Nat), (insO lt a k zs i).length = zs.length
 | 0, _, _ => rfl
 | k + 1, zs, i => by
  unfold insO
  rw [insO_len k, insI_len]
theorem swapR_len : ∀ (n : Nat) (zs : List α) (a b : Nat), (swapR zs a b n).length = zs.length
 | 0, _, _, _ => rfl
 | n + 1, zs, a, b => by
  unfold swapR
  rw [swapR_len n, swpD_len]
theorem rotG_len : ∀ (n : Nat) (zs : List α) (m i j : Nat), (rotG n zs m i j).length = zs.length
 | 0, _, _, _, _ => rfl
 | n + 1, zs, m, i, j => by
  unfold rotG
  split
  ·exact swapR_len ..
  ·split
   ·rw [rotG_len n, swapR_len]
   ·rw [rotG_len n, swapR_len]
theorem upM_len : ∀ (n : Nat) (zs : List α) (k : Nat), (upM n zs k).length = zs.length
 | 0, _, _ => rfl
 | n + 1, zs, k => by
  unfold upM
  rw [upM_len n, swpD_len]
theorem downM_len : ∀ (n : Nat) (zs : List α) (k : Nat), (downM n zs k).length = zs.length
 | 0, _, _ => rfl
 | n + 1, zs, k => by
  unfold downM
  rw [downM_len n, swpD_len]
theorem symM_len : ∀ (n : Nat) (zs : List α) (a m b : Nat), (symM lt n zs a m b).length = zs.length
 | 0, _, _, _, _ => rfl
 | n + 1, zs, a, m, b => by
  unfold symM
  split
  ·exact upM_len ..
  ·split
   ·exact downM_len ..
   ·dsimp only
    repeat' split
    all_goals simp only [symM_len n, rotG_len]
end
end Go.Proofs.YtjcmdifpkafdkaaDoor
namespace Go.Proofs.YtjcmdifpkafdkaaDoor
open Go.Lib
set_option maxRecDepth 100000
theorem half_sh (n : Nat) : fastSh .shr .u64 ((n : Nat) : Int) 1 = some (.int .u64 (((n / 2) : Nat) : Int)) := by
 show some (Value.int .u64 (Int.fdiv ((n : Nat) : Int) (2 ^ min 1 IntKind.u64.bits))) = _
 rw [show (2 : Int) ^ min 1 IntKind.u64.bits = 2 from rfl, Int.fdiv_eq_ediv_of_nonneg _ (by decide)]
 rfl
section
variable {α : Type} [Inhabited α] {lt : α → α → Bool} {n a m b : Nat} {zs : List α}
theorem symM_one (h : m = a + 1) : symM lt (n + 1) zs a m b = upM (bisM (fun h => lt (gD zs h) (gD zs a)) (b - m) m b - 1 - a) zs a := by
 unfold symM
 rw [if_pos h]
theorem symM_last (h : m ≠ a + 1) (h2 : b = m + 1) : symM lt (n + 1) zs a m b = downM (m - bisM (fun h => !lt (gD zs m) (gD zs h)) (m - a) a m) zs m := by
 unfold symM
 rw [if_neg h, if_pos h2]
theorem symM_mid {md s e : Nat} {z1 z2 z3 : List α} (h : m ≠ a + 1) (h2 : b ≠ m + 1) (hmd : md = (a + b) / 2) (hs : s = bisM (fun h => !lt (gD zs (md + m - 1 - h)) (gD zs h)) (b - a) (if md < m then md + m - b else a) (if md < m then md else m)) (he : e = md + m - s) (h1 : z1 = if s < m ∧ m < e then rotG (e - s) zs m (m - s) (e - m) else zs) (h3 : z2 = if a < s ∧ s < md then symM lt n z1 a s md else z1) (h4 : z3 = if md < e ∧ e < b then symM lt n z2 md e b else z2) : symM lt (n + 1) zs a m b = z3 := by
 subst h4 h3 h1 he hs hmd
 conv => lhs; unfold symM
 rw [if_neg h, if_neg h2]
end
section
variable {G : Nat} {A : Abs} {σ : Mem} {F : Nat → Option Blk2} {L : List Ent}
set_option maxHeartbeats 4000000 in
theorem cmpI_wc {a b : Int} (H : Lies G A F σ L) : WC G Tryd.prog 73 #[.int .i64 a, .int .i64 b] σ fun v σ' => v = .int .i64 (cmpI a b) ∧ Lies G A F σ' L := by
 refine WC.enter (fn := Tryd.f73) Tryd.func73 rfl ?_
 refine W.rg [(0, .int .i64 a), (1, .int .i64 b)] fun TA => ?_
 refine W.seq (W.region ?_)
 refine RW.v ?_
 refine RW.nil ?_
 refine W.rg [(0, .int .i64 a), (1, .int .i64 b)] fun TA => ?_
 refine W.seq (W.region ?_)
 refine RW.v ?_
 refine RW.cl ?_
 refine WC.enter (fn := Tryd.f99) Tryd.func99 rfl ?_
 refine W.rg [(0, .int .i64 a)] fun TA => ?_
 refine W.seq (W.region ?_)
 refine RW.v ?_
 refine RW.nil ?_
 refine W.rg [(0, .int .i64 a)] fun TA => ?_
 refine W.seq (W.region ?_)
 iterate 2 refine RW.v ?_
 refine RW.valE (v' := .bool false) (by kernel_rfl) (by kernel_rfl) rfl (congrArg Value.bool (bne_eq_false_iff_eq.2 (by rfl))) (by kernel_rfl) ?_
 refine RW.v ?_
 refine RW.nil ?_
 refine W.ret ?_
 refine endG (by rfl) (by exact resL_tmp rfl) ?_
 refine RW.v ?_
 refine RW.nil ?_
 refine W.rg [(0, .int .i64 a), (1, .int .i64 b), (5, .bool false)] fun TA => ?_
 refine W.seq (W.region ?_)
 refine RW.v ?_
 refine RW.cl ?_
 refine WC.enter (fn := Tryd.f99) Tryd.func99 rfl ?_
 refine W.rg [(0, .int .i64 b)] fun TA => ?_
 refine W.seq (W.region ?_)
 refine RW.v ?_
 refine RW.nil ?_
 refine W.rg [(0, .int .i64 b)] fun TA => ?_
 refine W.seq (W.region ?_)
 iterate 2 refine RW.v ?_
 refine RW.valE (v' := .bool false) (by kernel_rfl) (by kernel_rfl) rfl (congrArg Value.bool (bne_eq_false_iff_eq.2 (by rfl))) (by kernel_rfl) ?_
 refine RW.v ?_
 refine RW.nil ?_
 refine W.ret ?_
 refine endG (by rfl) (by exact resL_tmp rfl) ?_
 refine RW.v ?_
 refine RW.nil ?_
 refine W.rg [(0, .int .i64 a), (1, .int .i64 b), (5, .bool false), (6, .bool false)] fun TA => ?_
 refine W.seq ?_
 refine W.seq (W.region ?_)
 refine RW.v ?_
 refine RW.nil ?_
 refine W.c0 ?_
 refine W.skip ?_
 refine W.seq ?_
 refine W.seq (W.region ?_)
 refine RW.v ?_
 refine RW.nil ?_
 refine W.c0 ?_
 refine W.skip ?_
 refine W.seq ?_
 refine W.seq (W.region ?_)
 iterate 3 refine RW.v ?_
 refine RW.nil ?_
 refine W.rg [(0, .int .i64 a), (1, .int .i64 b), (16, .bool (decide (a < b)))] fun TA => ?_
 refine W.cond rfl (fun hc1 => ?_) (fun hc1 => ?_)
 ·have hc1b := hc1
  have hc1 := of_decide_eq_true hc1
  refine W.seq (W.region ?_)
  refine RW.v ?_
  refine RW.nil ?_
  refine W.ret ?_
  refine seqQ_ret ?_
  refine endG (by rfl) (by exact resL_tmp rfl) ?_
  rw [show cmpI a b = (-1) by unfold cmpI; rw [if_pos (by omega)]]
  exact ⟨rfl, H⟩
 ·have hc1b := hc1
  have hc1 := of_decide_eq_false hc1
  refine W.skip ?_
  refine W.seq ?_
  refine W.seq (W.region ?_)
  iterate 3 refine RW.v ?_
  refine RW.nil ?_
  refine W.rg [(19, .bool (decide (a > b)))] fun TA => ?_
  refine W.cond rfl (fun hc2 => ?_) (fun hc2 => ?_)
  ·have hc2b := hc2
   have hc2 := of_decide_eq_true hc2
   refine W.seq (W.region ?_)
   refine RW.v ?_
   refine RW.nil ?_
   refine W.ret ?_
   refine seqQ_ret ?_
   refine endG (by rfl) (by exact resL_tmp rfl) ?_
   rw [show cmpI a b = 1 by unfold cmpI; rw [if_neg (by omega), if_pos (by omega)]]
   exact ⟨rfl, H⟩
  ·have hc2b := hc2
   have hc2 := of_decide_eq_false hc2
   refine W.skip ?_
   refine W.seq (W.region ?_)
   refine RW.v ?_
   refine RW.nil ?_
   refine W.ret ?_
   refine endG (by rfl) (by exact resL_tmp rfl) ?_
   rw [show cmpI a b = 0 by unfold cmpI; rw [if_neg (by omega), if_neg (by omega)]]
   exact ⟨rfl, H⟩
set_option maxHeartbeats 4000000 in
theorem cmpF_wc {x y : Flx} (H : Lies G A F σ L) : WC G Tryd.prog 71 #[.agg #[.string ⟨x.1.toArray⟩, .int .i64 x.2.1, .int .i64 x.2.2.1, .int .i64 x.2.2.2], .agg #[.string ⟨y.1.toArray⟩, .int .i64 y.2.1, .int .i64 y.2.2.1, .int .i64 y.2.2.2]] σ fun v σ' => v = .int .i64 (cmpF x y) ∧ Lies G A F σ' L := by
 refine WC.enter (fn := Tryd.f71) Tryd.func71 rfl ?_
 refine W.rg [(0, .agg #[.string ⟨x.1.toArray⟩, .int .i64 x.2.1, .int .i64 x.2.2.1, .int .i64 x.2.2.2]), (1, .agg #[.string ⟨y.1.toArray⟩, .int .i64 y.2.1, .int .i64 y.2.2.1, .int .i64 y.2.2.2])] fun TA => ?_
 refine W.seq (W.region ?_)
 refine RW.mk H (.row ⟨[.string ⟨x.1.toArray⟩, .int .i64 x.2.1, .int .i64 x.2.2.1, .int .i64 x.2.2.2], 82, false⟩) ?_
 clear H; intro _ b1 _ H
 refine RW.mk H (.row ⟨[.string ⟨y.1.toArray⟩, .int .i64 y.2.1, .int .i64 y.2.2.1, .int .i64 y.2.2.2], 82, false⟩) ?_
 clear H; intro _ b2 _ H
 refine RW.v ?_
 refine RW.nil ?_
 refine W.rg [(2, .pointer (some ⟨b1, 0, none⟩)), (3, .pointer (some ⟨b2, 0, none⟩))] fun TA => ?_
 refine W.seq ?_
 refine W.drawn (by kernel_rfl) (by kernel_rfl) H.gn ?_
 have H3 := H
 refine RW.v ?_
 refine RW.ld H3 1 1 ?_
 refine RW.v ?_
 refine RW.ld H3 0 1 ?_
 refine RW.cl ?_
 refine ((cmpI_wc (a := x.2.1) (b := y.2.1) H3).mono ?_)
 rintro _ _ ⟨rfl, H4⟩
 refine RW.v ?_
 refine RW.ld H4 1 1 ?_
 refine RW.v ?_
 refine RW.ld H4 0 1 ?_
 refine RW.cl ?_
 refine ((cmpI_wc (a := x.2.2.1) (b := y.2.2.1) H4).mono ?_)
 rintro _ _ ⟨rfl, H5⟩
 refine RW.v ?_
 refine RW.ld H5 1 1 ?_
 refine RW.v ?_
 refine RW.ld H5 0 1 ?_
 refine RW.cl ?_
 refine ((cmpI_wc (a := x.2.2.2) (b := y.2.2.2) H5).mono ?_)
 rintro _ _ ⟨rfl, H6⟩
 refine RW.mkD H6 (x := .row ⟨[.int .i64 (cmpI x.2.1 y.2.1), .int .i64 (cmpI x.2.2.1 y.2.2.1), .int .i64 (cmpI x.2.2.2 y.2.2.2)], 3, false⟩) (fm := fun b => .slice (some ⟨b, 0, none⟩) 3 3) (by kernel_rfl) (by kernel_rfl) (by kernel_rfl) (by kernel_rfl) ?_
 intro _ b7 H8
 refine RW.cl ?_
 refine WC.enter (fn := Tryd.f72) Tryd.func72 rfl ?_
 replace H := H8
 refine W.rg [(0, .slice (some ⟨b7, 0, none⟩) 3 3)] fun TA => ?_
 refine W.seq (W.region ?_)
 refine RW.v ?_
 refine RW.nil ?_
 refine W.rg [(0, .slice (some ⟨b7, 0, none⟩) 3 3)] fun TA => ?_
 refine W.seq (W.region ?_)
 refine RW.v ?_
 refine RW.nil ?_
 refine W.rg [(0, .slice (some ⟨b7, 0, none⟩) 3 3), (3, .int .i64 0)] fun TA => ?_
 refine W.seq ?_
 refine W.seq (W.region ?_)
 iterate 3 refine RW.v ?_
 refine RW.nil ?_
 refine W.rg [(3, .int .i64 0), (6, .slice (some ⟨b7, 0, none⟩) 3 3), (7, .int .i64 3), (8, .int .i64 0)] fun TA => ?_
 refine W.block ?_
 refine W.unroll (WL.once ?_)
 refine W.seq (W.region ?_)
 refine RW.v ?_
 refine RW.nil ?_
 refine W.rg [(3, .int .i64 0), (6, .slice (some ⟨b7, 0, none⟩) 3 3), (7, .int .i64 3), (8, .int .i64 0), (9, .bool true)] fun TA => ?_
 refine W.seq ?_
 refine W.c1 ?_
 refine W.skip ?_
 refine W.seq ?_
 refine W.block ?_
 refine W.seq (W.region ?_)
 refine RW.idx (s := 1) (by kernel_rfl) (by kernel_rfl) rfl Tryd.underlying59 (by kernel_rfl) rfl rfl ⟨by decide, by decide⟩ (by kernel_rfl) ?_
 refine RW.ld H 0 1 ?_
 refine RW.v ?_
 refine RW.nil ?_
 refine W.rg [(3, .int .i64 0), (5, .int .i64 (cmpI x.2.1 y.2.1)), (6, .slice (some ⟨b7, 0, none⟩) 3 3), (7, .int .i64 3), (8, .int .i64 0)] fun TA => ?_
 refine W.seq (W.region ?_)
 iterate 3 refine RW.v ?_
 refine RW.nil ?_
 refine W.rg [(3, .int .i64 0), (5, .int .i64 (cmpI x.2.1 y.2.1)), (6, .slice (some ⟨b7, 0, none⟩) 3 3), (7, .int .i64 3), (8, .int .i64 0), (14, .bool ((cmpI x.2.1 y.2.1) != 0))] fun TA => ?_
 refine W.cond rfl (fun hc9 => ?_) (fun hc9 => ?_)
 ·have hc9b := hc9
  have hc9 := bne_iff_ne.1 hc9
  refine W.seq (W.region ?_)
  iterate 2 refine RW.v ?_
  refine RW.nil ?_
  refine W.ret ?_
  refine blkQ_ret ?_
  refine seqQ_ret ?_
  refine onceQ_ret ?_
  refine blkQ_ret ?_
  refine seqQ_ret ?_
  refine endG (by rfl) (by exact resL_tmp rfl) ?_
  have H10 := H
  refine RW.v ?_
  refine RW.nil ?_
  refine ⟨⟨by kernel_rfl, ⟨trivial, dyn_row (H3.get 1 rfl) (H10.get 2 rfl) ⟨nB, nB, nB, nB, fun _ => H3.get 1 rfl, nB, nB, nB, nB, fun _ => H4.get 1 rfl, nB, nB, nB, nB, fun _ => H5.get 1 rfl, nB, fun _ => H8.get 2 rfl, nB, trivial⟩, trivial, dyn_row (H3.get 0 rfl) (H10.get 1 rfl) ⟨nB, nB, nB, nB, fun _ => H3.get 0 rfl, nB, nB, nB, nB, fun _ => H4.get 0 rfl, nB, nB, nB, nB, fun _ => H5.get 0 rfl, nB, fun _ => H8.get 1 rfl, nB, trivial⟩, trivial, trivial, dyn_row (H4.get 1 rfl) (H10.get 2 rfl) ⟨nB, nB, nB, nB, fun _ => H3.get 1 rfl, nB, nB, nB, nB, fun _ => H4.get 1 rfl, nB, nB, nB, nB, fun _ => H5.get 1 rfl, nB, fun _ => H8.get 2 rfl, nB, trivial⟩, trivial, dyn_row (H4.get 0 rfl) (H10.get 1 rfl) ⟨nB, nB, nB, nB, fun _ => H3.get 0 rfl, nB, nB, nB, nB, fun _ => H4.get 0 rfl, nB, nB, nB, nB, fun _ => H5.get 0 rfl, nB, fun _ => H8.get 1 rfl, nB, trivial⟩, trivial, trivial, dyn_row (H5.get 1 rfl) (H10.get 2 rfl) ⟨nB, nB, nB, nB, fun _ => H3.get 1 rfl, nB, nB, nB, nB, fun _ => H4.get 1 rfl, nB, nB, nB, nB, fun _ => H5.get 1 rfl, nB, fun _ => H8.get 2 rfl, nB, trivial⟩, trivial, dyn_row (H5.get 0 rfl) (H10.get 1 rfl) ⟨nB, nB, nB, nB, fun _ => H3.get 0 rfl, nB, nB, nB, nB, fun _ => H4.get 0 rfl, nB, nB, nB, nB, fun _ => H5.get 0 rfl, nB, fun _ => H8.get 1 rfl, nB, trivial⟩, trivial, Or.inl (by kernel_rfl), trivial, trivial, trivial⟩⟩, ?_⟩
  replace H := H10
  clear H3 H4 H5 H6 H8 H10
  replace H := (((H.del 2).del 1).del 0)
  dsimp only [setL, delL] at H
  refine W.ret ?_
  refine endG (by rfl) (by exact resL_tmp rfl) ?_
  rw [show cmpF x y = (cmpI x.2.1 y.2.1) by unfold cmpF or3; rw [if_pos hc9]]
  exact ⟨rfl, H⟩
 ·have hc9b := hc9
  have hc9 := (bne_eq_false_iff_eq.1) hc9
  refine W.skip ?_
  refine bQn ?_
  refine W.region ?_
  iterate 2 refine RW.v ?_
  refine RW.nil ?_
  refine WL.once ?_
  refine W.rg [(3, .int .i64 0), (6, .slice (some ⟨b7, 0, none⟩) 3 3), (7, .int .i64 3), (8, .int .i64 1)] fun TA => ?_
  refine W.seq (W.region ?_)
  refine RW.v ?_
  refine RW.nil ?_
  refine W.rg [(3, .int .i64 0), (6, .slice (some ⟨b7, 0, none⟩) 3 3), (7, .int .i64 3), (8, .int .i64 1), (9, .bool true)] fun TA => ?_
  refine W.seq ?_
  refine W.c1 ?_
  refine W.skip ?_
  refine W.seq ?_
  refine W.block ?_
  refine W.seq (W.region ?_)
  refine RW.idx (s := 1) (by kernel_rfl) (by kernel_rfl) rfl Tryd.underlying59 (by kernel_rfl) rfl rfl ⟨by decide, by decide⟩ (by kernel_rfl) ?_
  refine RW.ld H 0 1 ?_
  refine RW.v ?_
  refine RW.nil ?_
  refine W.rg [(3, .int .i64 0), (5, .int .i64 (cmpI x.2.2.1 y.2.2.1)), (6, .slice (some ⟨b7, 0, none⟩) 3 3), (7, .int .i64 3), (8, .int .i64 1)] fun TA => ?_
  refine W.seq (W.region ?_)
  iterate 3 refine RW.v ?_
  refine RW.nil ?_
  refine W.rg [(3, .int .i64 0), (5, .int .i64 (cmpI x.2.2.1 y.2.2.1)), (6, .slice (some ⟨b7, 0, none⟩) 3 3), (7, .int .i64 3), (8, .int .i64 1), (14, .bool ((cmpI x.2.2.1 y.2.2.1) != 0))] fun TA => ?_
  refine W.cond rfl (fun hc11 => ?_) (fun hc11 => ?_)
  ·have hc11b := hc11
   have hc11 := bne_iff_ne.1 hc11
   refine W.seq (W.region ?_)
   iterate 2 refine RW.v ?_
   refine RW.nil ?_
   refine W.ret ?_
   refine blkQ_ret ?_
   refine seqQ_ret ?_
   refine onceQ_ret ?_
   refine blkQ_ret ?_
   refine seqQ_ret ?_
   refine endG (by rfl) (by exact resL_tmp rfl) ?_
   have H12 := H
   refine RW.v ?_
   refine RW.nil ?_
   refine ⟨⟨by kernel_rfl, ⟨trivial, dyn_row (H3.get 1 rfl) (H12.get 2 rfl) ⟨nB, nB, nB, nB, fun _ => H3.get 1 rfl, nB, nB, nB, nB, fun _ => H4.get 1 rfl, nB, nB, nB, nB, fun _ => H5.get 1 rfl, nB, fun _ => H8.get 2 rfl, nB, trivial⟩, trivial, dyn_row (H3.get 0 rfl) (H12.get 1 rfl) ⟨nB, nB, nB, nB, fun _ => H3.get 0 rfl, nB, nB, nB, nB, fun _ => H4.get 0 rfl, nB, nB, nB, nB, fun _ => H5.get 0 rfl, nB, fun _ => H8.get 1 rfl, nB, trivial⟩, trivial, trivial, dyn_row (H4.get 1 rfl) (H12.get 2 rfl) ⟨nB, nB, nB, nB, fun _ => H3.get 1 rfl, nB, nB, nB, nB, fun _ => H4.get 1 rfl, nB, nB, nB, nB, fun _ => H5.get 1 rfl, nB, fun _ => H8.get 2 rfl, nB, trivial⟩, trivial, dyn_row (H4.get 0 rfl) (H12.get 1 rfl) ⟨nB, nB, nB, nB, fun _ => H3.get 0 rfl, nB, nB, nB, nB, fun _ => H4.get 0 rfl, nB, nB, nB, nB, fun _ => H5.get 0 rfl, nB, fun _ => H8.get 1 rfl, nB, trivial⟩, trivial, trivial, dyn_row (H5.get 1 rfl) (H12.get 2 rfl) ⟨nB, nB, nB, nB, fun _ => H3.get 1 rfl, nB, nB, nB, nB, fun _ => H4.get 1 rfl, nB, nB, nB, nB, fun _ => H5.get 1 rfl, nB, fun _ => H8.get 2 rfl, nB, trivial⟩, trivial, dyn_row (H5.get 0 rfl) (H12.get 1 rfl) ⟨nB, nB, nB, nB, fun _ => H3.get 0 rfl, nB, nB, nB, nB, fun _ => H4.get 0 rfl, nB, nB, nB, nB, fun _ => H5.get 0 rfl, nB, fun _ => H8.get 1 rfl, nB, trivial⟩, trivial, Or.inl (by kernel_rfl), trivial, trivial, trivial⟩⟩, ?_⟩
   replace H := H12
   clear H3 H4 H5 H6 H8 H12
   replace H := (((H.del 2).del 1).del 0)
   dsimp only [setL, delL] at H
   refine W.ret ?_
   refine endG (by rfl) (by exact resL_tmp rfl) ?_
   rw [show cmpF x y = (cmpI x.2.2.1 y.2.2.1) by unfold cmpF or3; rw [if_neg (fun h => h hc9), if_pos hc11]]
   exact ⟨rfl, H⟩
  ·have hc11b := hc11
   have hc11 := (bne_eq_false_iff_eq.1) hc11
   refine W.skip ?_
   refine bQn ?_
   refine W.region ?_
   iterate 2 refine RW.v ?_
   refine RW.nil ?_
   refine WL.once ?_
   refine W.rg [(3, .int .i64 0), (6, .slice (some ⟨b7, 0, none⟩) 3 3), (7, .int .i64 3), (8, .int .i64 2)] fun TA => ?_
   refine W.seq (W.region ?_)
   refine RW.v ?_
   refine RW.nil ?_
   refine W.rg [(3, .int .i64 0), (6, .slice (some ⟨b7, 0, none⟩) 3 3), (7, .int .i64 3), (8, .int .i64 2), (9, .bool true)] fun TA => ?_
   refine W.seq ?_
   refine W.c1 ?_
   refine W.skip ?_
   refine W.seq ?_
   refine W.block ?_
   refine W.seq (W.region ?_)
   refine RW.idx (s := 1) (by kernel_rfl) (by kernel_rfl) rfl Tryd.underlying59 (by kernel_rfl) rfl rfl ⟨by decide, by decide⟩ (by kernel_rfl) ?_
   refine RW.ld H 0 1 ?_
   refine RW.v ?_
   refine RW.nil ?_
   refine W.rg [(3, .int .i64 0), (5, .int .i64 (cmpI x.2.2.2 y.2.2.2)), (6, .slice (some ⟨b7, 0, none⟩) 3 3), (7, .int .i64 3), (8, .int .i64 2)] fun TA => ?_
   refine W.seq (W.region ?_)
   iterate 3 refine RW.v ?_
   refine RW.nil ?_
   refine W.rg [(3, .int .i64 0), (5, .int .i64 (cmpI x.2.2.2 y.2.2.2)), (6, .slice (some ⟨b7, 0, none⟩) 3 3), (7, .int .i64 3), (8, .int .i64 2), (14, .bool ((cmpI x.2.2.2 y.2.2.2) != 0))] fun TA => ?_
   refine W.cond rfl (fun hc13 => ?_) (fun hc13 => ?_)
   ·have hc13b := hc13
    have hc13 := bne_iff_ne.1 hc13
    refine W.seq (W.region ?_)
    iterate 2 refine RW.v ?_
    refine RW.nil ?_
    refine W.ret ?_
    refine blkQ_ret ?_
    refine seqQ_ret ?_
    refine onceQ_ret ?_
    refine blkQ_ret ?_
    refine seqQ_ret ?_
    refine endG (by rfl) (by exact resL_tmp rfl) ?_
    have H14 := H
    refine RW.v ?_
    refine RW.nil ?_
    refine ⟨⟨by kernel_rfl, ⟨trivial, dyn_row (H3.get 1 rfl) (H14.get 2 rfl) ⟨nB, nB, nB, nB, fun _ => H3.get 1 rfl, nB, nB, nB, nB, fun _ => H4.get 1 rfl, nB, nB, nB, nB, fun _ => H5.get 1 rfl, nB, fun _ => H8.get 2 rfl, nB, trivial⟩, trivial, dyn_row (H3.get 0 rfl) (H14.get 1 rfl) ⟨nB, nB, nB, nB, fun _ => H3.get 0 rfl, nB, nB, nB, nB, fun _ => H4.get 0 rfl, nB, nB, nB, nB, fun _ => H5.get 0 rfl, nB, fun _ => H8.get 1 rfl, nB, trivial⟩, trivial, trivial, dyn_row (H4.get 1 rfl) (H14.get 2 rfl) ⟨nB, nB, nB, nB, fun _ => H3.get 1 rfl, nB, nB, nB, nB, fun _ => H4.get 1 rfl, nB, nB, nB, nB, fun _ => H5.get 1 rfl, nB, fun _ => H8.get 2 rfl, nB, trivial⟩, trivial, dyn_row (H4.get 0 rfl) (H14.get 1 rfl) ⟨nB, nB, nB, nB, fun _ => H3.get 0 rfl, nB, nB, nB, nB, fun _ => H4.get 0 rfl, nB, nB, nB, nB, fun _ => H5.get 0 rfl, nB, fun _ => H8.get 1 rfl, nB, trivial⟩, trivial, trivial, dyn_row (H5.get 1 rfl) (H14.get 2 rfl) ⟨nB, nB, nB, nB, fun _ => H3.get 1 rfl, nB, nB, nB, nB, fun _ => H4.get 1 rfl, nB, nB, nB, nB, fun _ => H5.get 1 rfl, nB, fun _ => H8.get 2 rfl, nB, trivial⟩, trivial, dyn_row (H5.get 0 rfl) (H14.get 1 rfl) ⟨nB, nB, nB, nB, fun _ => H3.get 0 rfl, nB, nB, nB, nB, fun _ => H4.get 0 rfl, nB, nB, nB, nB, fun _ => H5.get 0 rfl, nB, fun _ => H8.get 1 rfl, nB, trivial⟩, trivial, Or.inl (by kernel_rfl), trivial, trivial, trivial⟩⟩, ?_⟩
    replace H := H14
    clear H3 H4 H5 H6 H8 H14
    replace H := (((H.del 2).del 1).del 0)
    dsimp only [setL, delL] at H
    refine W.ret ?_
    refine endG (by rfl) (by exact resL_tmp rfl) ?_
    rw [show cmpF x y = (cmpI x.2.2.2 y.2.2.2) by unfold cmpF or3; rw [if_neg (fun h => h hc9), if_neg (fun h => h hc11)]]
    exact ⟨rfl, H⟩
   ·have hc13b := hc13
    have hc13 := (bne_eq_false_iff_eq.1) hc13
    refine W.skip ?_
    refine bQn ?_
    refine W.region ?_
    iterate 2 refine RW.v ?_
    refine RW.nil ?_
    refine WL.once ?_
    refine W.rg [(3, .int .i64 0), (6, .slice (some ⟨b7, 0, none⟩) 3 3), (7, .int .i64 3), (8, .int .i64 3)] fun TA => ?_
    refine W.seq (W.region ?_)
    refine RW.v ?_
    refine RW.nil ?_
    refine W.rg [(3, .int .i64 0), (6, .slice (some ⟨b7, 0, none⟩) 3 3), (7, .int .i64 3), (8, .int .i64 3), (9, .bool false)] fun TA => ?_
    refine W.seq ?_
    refine W.c0 ?_
    refine W.exit _ ?_
    refine seqQ_exit ?_
    refine onceQ_exit ?_
    refine blkQ_here ?_
    refine W.seq (W.region ?_)
    iterate 2 refine RW.v ?_
    refine RW.nil ?_
    refine W.ret ?_
    refine endG (by rfl) (by exact resL_tmp rfl) ?_
    have H15 := H
    refine RW.v ?_
    refine RW.nil ?_
    refine ⟨⟨by kernel_rfl, ⟨trivial, dyn_row (H3.get 1 rfl) (H15.get 2 rfl) ⟨nB, nB, nB, nB, fun _ => H3.get 1 rfl, nB, nB, nB, nB, fun _ => H4.get 1 rfl, nB, nB, nB, nB, fun _ => H5.get 1 rfl, nB, fun _ => H8.get 2 rfl, nB, trivial⟩, trivial, dyn_row (H3.get 0 rfl) (H15.get 1 rfl) ⟨nB, nB, nB, nB, fun _ => H3.get 0 rfl, nB, nB, nB, nB, fun _ => H4.get 0 rfl, nB, nB, nB, nB, fun _ => H5.get 0 rfl, nB, fun _ => H8.get 1 rfl, nB, trivial⟩, trivial, trivial, dyn_row (H4.get 1 rfl) (H15.get 2 rfl) ⟨nB, nB, nB, nB, fun _ => H3.get 1 rfl, nB, nB, nB, nB, fun _ => H4.get 1 rfl, nB, nB, nB, nB, fun _ => H5.get 1 rfl, nB, fun _ => H8.get 2 rfl, nB, trivial⟩, trivial, dyn_row (H4.get 0 rfl) (H15.get 1 rfl) ⟨nB, nB, nB, nB, fun _ => H3.get 0 rfl, nB, nB, nB, nB, fun _ => H4.get 0 rfl, nB, nB, nB, nB, fun _ => H5.get 0 rfl, nB, fun _ => H8.get 1 rfl, nB, trivial⟩, trivial, trivial, dyn_row (H5.get 1 rfl) (H15.get 2 rfl) ⟨nB, nB, nB, nB, fun _ => H3.get 1 rfl, nB, nB, nB, nB, fun _ => H4.get 1 rfl, nB, nB, nB, nB, fun _ => H5.get 1 rfl, nB, fun _ => H8.get 2 rfl, nB, trivial⟩, trivial, dyn_row (H5.get 0 rfl) (H15.get 1 rfl) ⟨nB, nB, nB, nB, fun _ => H3.get 0 rfl, nB, nB, nB, nB, fun _ => H4.get 0 rfl, nB, nB, nB, nB, fun _ => H5.get 0 rfl, nB, fun _ => H8.get 1 rfl, nB, trivial⟩, trivial, Or.inl (by kernel_rfl), trivial, trivial, trivial⟩⟩, ?_⟩
    replace H := H15
    clear H3 H4 H5 H6 H8 H15
    replace H := (((H.del 2).del 1).del 0)
    dsimp only [setL, delL] at H
    refine W.ret ?_
    refine endG (by rfl) (by exact resL_tmp rfl) ?_
    rw [show cmpF x y = 0 by unfold cmpF or3; rw [if_neg (fun h => h hc9), if_neg (fun h => h hc11), hc13]]
    exact ⟨rfl, H⟩
end
end Go.Proofs.YtjcmdifpkafdkaaDoor
namespace Go.Proofs.YtjcmdifpkafdkaaDoor
set_option maxRecDepth 100000
section
variable {α : Type} [Inhabited α] {lt : α → α → Bool} {xs : List α} {N : Nat}
theorem stab_one (ho : WOrd lt) (hx : xs.length = N) : insO lt 0 (N - (0 + 1)) xs (0 + 1) = sortL lt xs := by
 obtain ⟨t, h1, h2, h3⟩ := ins_part ho (pre := []) (x := xs) (post := []) (a := 0) (b := N) rfl (by omega)
 rw [List.nil_append, List.append_nil, List.nil_append, List.append_nil] at h1
 rw [h1]
 exact sortL_is ho h2 h3
theorem stab_two (ho : WOrd lt) (hx : xs.length = N) (h : 20 ≤ N) : ∃ t1 t2, insO lt 20 (N - (20 + 1)) (insO lt 0 (20 - (0 + 1)) xs (0 + 1)) (20 + 1) = t1 ++ t2 ∧ t1.length = 20 ∧ t2.length = N - 20 ∧ Stab lt xs (t1 ++ t2) ∧ Sor lt t1 ∧ Sor lt t2 := by
 have e : xs = xs.take 20 ++ xs.drop 20 := (List.take_append_drop ..).symm
 have l1 : (xs.take 20).length = 20 := by rw [List.length_take]; omega
 have l2 : (xs.drop 20).length = N - 20 := by rw [List.length_drop]; omega
 generalize xs.take 20 = p at *
 generalize xs.drop 20 = q at *
 subst e
 obtain ⟨t1, h1, h2, h3⟩ := ins_part ho (pre := []) (x := p) (post := q) (a := 0) (b := 20) rfl (by omega)
 rw [List.nil_append, List.nil_append] at h1
 have k1 : t1.length = 20 := by rw [h2.len, l1]
 obtain ⟨t2, h4, h5, h6⟩ := ins_part ho (pre := t1) (x := q) (post := []) (a := 20) (b := N) k1.symm (by omega)
 rw [List.append_nil, List.append_nil] at h4
 exact ⟨t1, t2, by rw [h1, h4], k1, by rw [h5.len, l2], h2.both h5, h3, h6⟩
theorem stab_20 (ho : WOrd lt) (hx : xs.length = N) (h : N = 20) : insO lt 20 (N - (20 + 1)) (insO lt 0 (20 - (0 + 1)) xs (0 + 1)) (20 + 1) = sortL lt xs := by
 obtain ⟨t1, t2, h1, h2, h3, h4, h5, h6⟩ := stab_two ho hx (by omega)
 obtain rfl := List.eq_nil_of_length_eq_zero (l := t2) (by omega)
 rw [h1]
 rw [List.append_nil] at h4 ⊢
 exact sortL_is ho h4 h5
theorem stab_more (ho : WOrd lt) (hx : xs.length = N) (h : 20 < N) (h40 : N ≤ 40) : symM lt 1000 (insO lt 20 (N - (20 + 1)) (insO lt 0 (20 - (0 + 1)) xs (0 + 1)) (20 + 1)) 0 20 N = sortL lt xs := by
 obtain ⟨t1, t2, h1, h2, h3, h4, h5, h6⟩ := stab_two ho hx (by omega)
 obtain ⟨t, k1, k2, k3⟩ := symM_ok ho 1000 (pre := []) (l := t1) (r := t2) (post := []) (a := 0) (m := 20) (b := N) rfl (by omega) (by omega) (List.ne_nil_of_length_pos (by omega)) (List.ne_nil_of_length_pos (by omega)) (by omega) h5 h6
 rw [List.nil_append, List.append_nil, List.nil_append, List.append_nil] at k1
 rw [h1, k1]
 exact sortL_is ho (h4.trans k2) k3
theorem stab_40 (ho : WOrd lt) (hx : xs.length = N) (h : N = 40) : symM lt 1000 (insO lt 40 (N - (40 + 1)) (insO lt 20 (40 - (20 + 1)) (insO lt 0 (20 - (0 + 1)) xs (0 + 1)) (20 + 1)) (40 + 1)) 0 20 40 = sortL lt xs := by
 subst h
 rw [insO_end (a := 40) (i := 40 + 1) (by omega)]
 exact stab_more ho hx (by omega) (by omega)
end
theorem cmpI_lt {a b : Int} : cmpI a b < 0 ↔ a < b := by
 unfold cmpI
 split
 ·exact ⟨fun _ => by assumption, fun _ => by decide⟩
 ·split
  ·exact ⟨fun h => absurd h (by decide), fun h => absurd h (by assumption)⟩
  ·exact ⟨fun h => absurd h (by decide), fun h => absurd h (by assumption)⟩
theorem cmpI_ne {a b : Int} : cmpI a b ≠ 0 ↔ a ≠ b := by
 unfold cmpI
 split
 ·exact ⟨fun _ => by omega, fun _ => by decide⟩
 ·split
  ·exact ⟨fun _ => by omega, fun _ => by decide⟩
  ·exact ⟨fun h => absurd rfl h, fun h => by omega⟩
theorem ltF_iff {x y : Flx} : ltF x y = true ↔ x.2.1 < y.2.1 ∨ (x.2.1 = y.2.1 ∧ (x.2.2.1 < y.2.2.1 ∨ (x.2.2.1 = y.2.2.1 ∧ x.2.2.2 < y.2.2.2))) := by
 unfold ltF cmpF or3
 rw [decide_eq_true_iff]
 by_cases h1 : x.2.1 = y.2.1
 ·rw [if_neg (fun h => cmpI_ne.1 h h1)]
  by_cases h2 : x.2.2.1 = y.2.2.1
  ·rw [if_neg (fun h => cmpI_ne.1 h h2), cmpI_lt]; omega
  ·rw [if_pos (cmpI_ne.2 h2), cmpI_lt]; omega
 ·rw [if_pos (cmpI_ne.2 h1), cmpI_lt]; omega
theorem ltF_no {x y : Flx} : ltF x y = false ↔ ¬ (x.2.1 < y.2.1 ∨ (x.2.1 = y.2.1 ∧ (x.2.2.1 < y.2.2.1 ∨ (x.2.2.1 = y.2.2.1 ∧ x.2.2.2 < y.2.2.2)))) := by
 rw [← ltF_iff, Bool.not_eq_true]
theorem ltF_ord : WOrd ltF where
 asymm a b h := by rw [ltF_iff] at h; rw [ltF_no]; omega
 ntrans a b c h k := by rw [ltF_no] at h k ⊢; omega
end Go.Proofs.YtjcmdifpkafdkaaDoor
