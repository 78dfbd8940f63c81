/-
  A stable sort by insertion and by symmetric merging is the stable sort. Plain. Conditions: none.
  Rows of candidates that are sorted, and what the sort's loops compute. Plain. Conditions: none.
-/
import Derived.Test.YtmlmnbcnfalaaaaDoorS4
import Derived.Test.YtmlmnbcnfalaaaaDoorC1
namespace Go.Proofs.YtmlmnbcnfalaaaaDoor
set_option maxRecDepth 100000
section
variable {α : Type}
structure WOrd (lt : α → α → Bool) : Prop where
 asymm : ∀ a b, lt a b = true → lt b a = false
 ntrans : ∀ a b c, lt a b = false → lt b c = false → lt a c = false
inductive Stab (lt : α → α → Bool) : List α → List α → Prop
 | refl (xs : List α) : Stab lt xs xs
 | swap {xs u v : List α} {x y : α} (h : Stab lt xs (u ++ x :: y :: v)) (k : lt y x = true) : Stab lt xs (u ++ y :: x :: v)
variable {lt : α → α → Bool}
theorem Stab.trans {xs ys zs : List α} (h : Stab lt xs ys) (k : Stab lt ys zs) : Stab lt xs zs := by
 induction k with
 | refl => exact h
 | swap _ k ih => exact .swap ih k
theorem Stab.left {xs ys : List α} (h : Stab lt xs ys) (a : List α) : Stab lt (a ++ xs) (a ++ ys) := by
 induction h with
 | refl => exact .refl _
 | swap _ k ih => rw [← List.append_assoc] at ih ⊢; exact .swap ih k
theorem Stab.right {xs ys : List α} (h : Stab lt xs ys) (a : List α) : Stab lt (xs ++ a) (ys ++ a) := by
 induction h with
 | refl => exact .refl _
 | swap _ k ih =>
  rw [List.append_assoc] at ih ⊢
  exact .swap ih k
theorem Stab.both {a b c d : List α} (h : Stab lt a b) (k : Stab lt c d) : Stab lt (a ++ c) (b ++ d) := (h.right c).trans (k.left b)
theorem Stab.perm {xs ys : List α} (h : Stab lt xs ys) : ys.Perm xs := by
 induction h with
 | refl => exact List.Perm.refl _
 | swap _ _ ih => exact (List.Perm.append_left _ (List.Perm.swap ..)).trans ih
theorem Stab.mem {xs ys : List α} (h : Stab lt xs ys) {x : α} : x ∈ ys ↔ x ∈ xs := h.perm.mem_iff
theorem Stab.len {xs ys : List α} (h : Stab lt xs ys) : ys.length = xs.length := h.perm.length_eq
theorem Stab.move {y : α} : ∀ {l : List α}, (∀ x ∈ l, lt y x = true) → Stab lt (l ++ [y]) (y :: l)
 | [], _ => .refl _
 | x :: l, h => by
  have h1 : Stab lt (x :: l ++ [y]) ([x] ++ (y :: l)) := (Stab.move (l := l) fun z hz => h z (List.mem_cons_of_mem _ hz)).left [x]
  exact .swap (u := []) h1 (h x (List.mem_cons_self ..))
def alikeO (lt : α → α → Bool) (x y : α) : Bool := !lt x y && !lt y x
theorem Stab.filter (ho : WOrd lt) {xs ys : List α} (h : Stab lt xs ys) (z : α) : ys.filter (alikeO lt z) = xs.filter (alikeO lt z) := by
 induction h with
 | refl => rfl
 | swap _ k ih =>
  rename_i u v x y _
  rw [← ih, List.filter_append, List.filter_append]
  congr 1
  have : alikeO lt z x = false ∨ alikeO lt z y = false := by
   unfold alikeO
   cases h1 : lt z x <;> cases h2 : lt x z <;> cases h3 : lt z y <;> cases h4 : lt y z <;> simp
   have := ho.ntrans y z x h4 h1
   rw [k] at this; cases this
  rcases this with h | h
  ·simp only [List.filter_cons, h]; rfl
  ·simp only [List.filter_cons, h]; rfl
/-! the sorted list -/
end
section
variable {α : Type} [Inhabited α]
def gD (zs : List α) (i : Nat) : α := zs.getD i default
variable (lt : α → α → Bool)
end
section
variable {α : Type} [Inhabited α] {lt : α → α → Bool}
theorem g_mem {u : List α} {n : Nat} (h : n < u.length) : gD u n ∈ u := by
 unfold gD
 rw [List.getD_eq_getElem?_getD, List.getElem?_eq_getElem h]
 exact List.getElem_mem _
end
section
variable {α : Type} {lt : α → α → Bool}
end
section
variable {α : Type} [Inhabited α] {lt : α → α → Bool}
end
end Go.Proofs.YtmlmnbcnfalaaaaDoor
namespace Go.Proofs.YtmlmnbcnfalaaaaDoor
open Go.Lib
set_option maxRecDepth 100000
section
variable {α : Type} [Inhabited α]
def rowX (cel : α → List Value) (xs : List α) : List Value := xs.flatMap cel
variable {cel : α → List Value} {w : Nat}
omit [Inhabited α] in
theorem rowX_len (hw : ∀ x, (cel x).length = w) : ∀ xs : List α, (rowX cel xs).length = xs.length * w
 | [] => (Nat.zero_mul w).symm
 | x :: xs => by
  show (cel x ++ rowX cel xs).length = (xs.length + 1) * w
  rw [List.length_append, hw, rowX_len hw xs, Nat.succ_mul, Nat.add_comm]
theorem rowX_split {xs : List α} {j : Nat} (h : j < xs.length) : rowX cel xs = rowX cel (xs.take j) ++ (cel (gD xs j) ++ rowX cel (xs.drop (j + 1))) := by
 conv => lhs; rw [← List.take_append_drop j xs]
 unfold rowX
 rw [List.flatMap_append, dropD (d := default) h, List.flatMap_cons]
 rfl
theorem rowX_at (hw : ∀ x, (cel x).length = w) {xs : List α} {j : Nat} (h : j < xs.length) : ((rowX cel xs).drop (j * w)).take w = cel (gD xs j) := by
 have hl : (rowX cel (xs.take j)).length = j * w := by rw [rowX_len hw, List.length_take, Nat.min_eq_left (Nat.le_of_lt h)]
 rw [rowX_split h, ← hl, List.drop_left, ← hw (gD xs j), List.take_left]
end
/-! comparison -/
/-! the loops, a round each -/
section
variable {α : Type} [Inhabited α] {lt : α → α → Bool}
end
end Go.Proofs.YtmlmnbcnfalaaaaDoor
