/-
  How the three kinds of matching are related. Plain. Conditions: none.
-/
import Derived.Test.YtjcmdifpkafdkaaDoorW3
import Derived.Test.YtjcmdifpkafdkaaDoorC6
namespace Go.Proofs.YtjcmdifpkafdkaaDoor
open Go.Lib
set_option maxRecDepth 100000
section
variable {fold : Bool} {c s : List Int}
theorem find_ge {r : Int} {e : Nat} : e ≤ findF fold c r e := Nat.le_add_right ..
theorem sub_ge : ∀ {s : List Int} {a e : Nat}, subG fold c s a = some e → a + s.length ≤ e
 | [], a, e, h => by cases h; exact Nat.le_refl _
 | r :: s, a, e, h => by
  unfold subG at h
  split at h
  ·cases h
  ·have h1 := sub_ge h
   have h2 := find_ge (fold := fold) (c := c) (r := r) (e := a)
   rw [List.length_cons]
   omega
theorem find_here {r : Int} {a : Nat} (ha : a < c.length) : findF fold c r a = a ↔ foldC fold (c.getD a 0) = foldC fold r := by
 cases h : foldC fold (c.getD a 0) == foldC fold r with
 | true => exact ⟨fun _ => eq_of_beq h, fun _ => find_stop ha h⟩
 | false =>
  have := find_ge (fold := fold) (c := c) (r := r) (e := a + 1)
  rw [find_go ha h]
  exact ⟨fun e => by omega, fun e => absurd e (ne_of_beq_false h)⟩
theorem sub_tight : ∀ {s : List Int} {a : Nat}, a ≤ c.length → (subG fold c s a = some (a + s.length) ↔ keyC fold s <+: keyC fold (c.drop a))
 | [], a, _ => by simp [subG, keyC]
 | r :: s, a, ha => by
  unfold subG
  by_cases hl : a < c.length
  ·rw [dropD (d := 0) hl]
   show _ ↔ foldC fold r :: keyC fold s <+: foldC fold (c.getD a 0) :: keyC fold (c.drop (a + 1))
   rw [List.cons_prefix_cons, List.length_cons]
   by_cases h : foldC fold (c.getD a 0) = foldC fold r
   ·rw [(find_here hl).2 h, if_neg (by omega), ← sub_tight (s := s) (a := a + 1) (by omega), show a + 1 + s.length = a + (s.length + 1) by omega]
    exact ⟨fun k => ⟨h.symm, k⟩, fun k => k.2⟩
   ·have hne : findF fold c r a ≠ a := fun e => h ((find_here hl).1 e)
    have hge := find_ge (fold := fold) (c := c) (r := r) (e := a)
    refine ⟨fun k => ?_, fun k => absurd k.1.symm h⟩
    split at k
    ·cases k
    ·have := sub_ge k; omega
  ·have hf : findF fold c r a = c.length := by rw [find_end (by omega)]; omega
   rw [if_pos hf, List.drop_eq_nil_of_le (by omega)]
   exact ⟨fun k => by (cases k), fun k => by have := k.length_le; simp [keyC] at this⟩
theorem sub_beg : begC fold c s = true ↔ subC fold c s = some (0, 0) := by
 rw [beg_iff]
 unfold subC
 cases s with
 | nil => exact ⟨fun _ => rfl, fun _ => ⟨keyC fold c, rfl⟩⟩
 | cons r s =>
  rw [if_neg (show ¬ (r :: s = []) from List.cons_ne_nil r s)]
  have ht := sub_tight (fold := fold) (c := c) (s := r :: s) (a := 0) (Nat.zero_le _)
  rw [List.drop_zero, Nat.zero_add] at ht
  rw [← ht]
  show subG fold c (r :: s) 0 = _ ↔ (subG fold c (r :: s) 0).map (fun e => ((e : Int) - (findF fold c r 0 : Int) - ((r :: s).length : Int), (findF fold c r 0 : Int))) = some (0, 0)
  constructor
  ·intro h
   have h0 : findF fold c r 0 = 0 := by
    unfold subG at h
    split at h
    ·cases h
    ·have := sub_ge h
     rw [List.length_cons] at this
     omega
   rw [h, h0]
   show some (_, _) = _
   congr 2
   omega
  ·intro h
   cases ho : subG fold c (r :: s) 0 with
   | none => rw [ho] at h; cases h
   | some e =>
    rw [ho] at h
    have h3 := Prod.mk.inj (Option.some.inj h)
    congr 1
    omega
theorem sub_nonneg {p : Int × Int} (h : subC fold c s = some p) : 0 ≤ p.1 ∧ 0 ≤ p.2 := by
 unfold subC at h
 cases s with
 | nil => rw [if_pos rfl] at h; cases h; exact ⟨Int.le_refl _, Int.le_refl _⟩
 | cons r s =>
  rw [if_neg (show ¬ (r :: s = []) from List.cons_ne_nil r s)] at h
  cases ho : subG fold c (r :: s) 0 with
  | none => rw [ho] at h; cases h
  | some e =>
   rw [ho] at h
   obtain rfl := Option.some.inj h
   refine ⟨?_, Int.natCast_nonneg _⟩
   show 0 ≤ (e : Int) - (findF fold c r 0 : Int) - ((r :: s).length : Int)
   unfold subG at ho
   split at ho
   ·cases ho
   ·have := sub_ge ho
    rw [List.length_cons]
    omega
end
def atZ (y : Flx) : Bool := decide (y.2.1 = 0 ∧ y.2.2.1 = 0)
theorem one_at {fold : Bool} {s x : List UInt8} : (oneF fold s x).filter atZ = if begC fold (runes x) (runes s) = true then oneF fold s x else none := by
 unfold oneF
 by_cases h : begC fold (runes x) (runes s) = true
 ·rw [if_pos h, sub_beg.1 h]
  rfl
 ·rw [if_neg h]
  cases hs : subC fold (runes x) (runes s) with
  | none => rfl
  | some p =>
   refine Option.filter_eq_none_iff.2 fun y hy => ?_
   obtain rfl := Option.some.inj hy
   refine fun hz => h (sub_beg.2 ?_)
   have hz := of_decide_eq_true hz
   rw [hs]
   exact congrArg some (Prod.ext hz.1 hz.2)
theorem flex_at {fold : Bool} {s : List UInt8} : ∀ D : List (List UInt8), ((D.filterMap (oneF fold s)).filter atZ).map (·.1) = D.filter fun c => begC fold (runes c) (runes s)
 | [] => rfl
 | x :: D => by
  have ih := flex_at (fold := fold) (s := s) D
  have h1 := one_at (fold := fold) (s := s) (x := x)
  rw [List.filterMap_cons, List.filter_cons]
  by_cases hb : begC fold (runes x) (runes s) = true
  ·have e : oneF fold s x = some (x, 0, 0, ((runes x).length : Int)) := by unfold oneF; rw [sub_beg.1 hb]; rfl
   rw [if_pos hb, e]
   show ((_ :: D.filterMap (oneF fold s)).filter atZ).map (·.1) = _
   rw [List.filter_cons_of_pos (by rfl), List.map_cons, ih]
  ·rw [if_neg hb]
   cases ho : oneF fold s x with
   | none => exact ih
   | some y =>
    rw [ho, if_neg hb] at h1
    have hz : ¬ atZ y = true := fun e => by
     rw [Option.filter_some, if_pos e] at h1; cases h1
    show ((y :: D.filterMap (oneF fold s)).filter atZ).map (·.1) = _
    rw [List.filter_cons_of_neg hz, ih]
theorem flex_nonneg {fold : Bool} {s : List UInt8} {l : List (List UInt8)} : ∀ y ∈ flexM fold l s, 0 ≤ y.2.1 ∧ 0 ≤ y.2.2.1 := fun y hy => by
 obtain ⟨x, _, hx⟩ := List.mem_filterMap.1 hy
 unfold oneF at hx
 obtain ⟨p, hp, rfl⟩ := Option.map_eq_some_iff.1 hx
 exact sub_nonneg hp
theorem sor_filter {α : Type} {lt : α → α → Bool} {p : α → Bool} : ∀ {xs : List α}, Sor lt xs → (∀ x ∈ xs, ∀ y ∈ xs, p x = true → p y = false → lt x y = true) → xs = xs.filter p ++ xs.filter fun y => !p y
 | [], _, _ => rfl
 | x :: xs, hs, h => by
  have hp := List.pairwise_cons.1 hs
  have ih := sor_filter (p := p) hp.2 fun a ha b hb => h a (List.mem_cons_of_mem _ ha) b (List.mem_cons_of_mem _ hb)
  cases hx : p x with
  | true =>
   rw [List.filter_cons_of_pos hx, List.filter_cons_of_neg (by rw [hx]; exact Bool.noConfusion), List.cons_append, ← ih]
  | false =>
   have hn : xs.filter p = [] := List.filter_eq_nil_iff.2 fun y hy hpy => by
    have h1 := h y (List.mem_cons_of_mem _ hy) x (List.mem_cons_self ..) hpy hx
    rw [hp.1 y hy] at h1
    cases h1
   rw [List.filter_cons_of_neg (by rw [hx]; exact Bool.noConfusion), hn, List.nil_append, List.filter_cons_of_pos (by rw [hx]; rfl)]
   rw [hn, List.nil_append] at ih
   rw [← ih]
theorem flex_first {fold : Bool} {l : List (List UInt8)} {s : List UInt8} : (allC fold l s).length ≤ (flexC fold l s).length ∧ ∀ x, x ∈ (flexC fold l s).take (allC fold l s).length ↔ x ∈ allC fold l s := by
 unfold flexC allC
 cases hv : validD s with
 | false => rw [if_neg Bool.noConfusion, if_neg Bool.noConfusion]; exact ⟨Nat.le_refl _, fun x => Iff.rfl⟩
 | true =>
  rw [if_pos rfl, if_pos rfl]
  have hst := sortL_stab (lt := ltF) (flexM fold l s)
  have hso := sortL_sor ltF_ord (flexM fold l s)
  have hspl := sor_filter (p := atZ) hso fun x hx y hy px py => by
   have h1 := flex_nonneg x (hst.mem.1 hx)
   have h2 := flex_nonneg y (hst.mem.1 hy)
   have px := of_decide_eq_true px
   have py := of_decide_eq_false py
   rw [ltF_iff]
   omega
  have hperm : (((sortL ltF (flexM fold l s)).filter atZ).map (·.1)).Perm ((distM l).filter fun c => begC fold (runes c) (runes s)) := by
   rw [← flex_at]
   exact (hst.perm.filter atZ).map _
  have hlen := hperm.length_eq
  rw [List.length_map] at hlen
  have htake : ((sortL ltF (flexM fold l s)).map (·.1)).take ((distM l).filter fun c => begC fold (runes c) (runes s)).length = ((sortL ltF (flexM fold l s)).filter atZ).map (·.1) := by
   conv => lhs; rw [hspl]
   rw [← hlen, List.map_append, List.take_left' (List.length_map _)]
  refine ⟨?_, fun x => ?_⟩
  ·rw [← hlen, List.length_map]
   exact List.length_filter_le ..
  ·rw [htake]
   exact hperm.mem_iff
/-! an input without delimiters -/
def plainC (s : List UInt8) : Bool := s.all fun b => !(b == 32 || b == 45 || b == 46 || b == 47 || b == 58 || b == 95)
theorem plain_free {s : List UInt8} (hv : validD s = true) (h : plainC s = true) : freeD (runes s) := fun c hc => by
 cases hd : delC c with
 | false => rfl
 | true =>
  exfalso
  have e := valid_eq hv
  have hb : c.toNat.toUInt8 ∈ s := by
   rw [← e, encA_flat]
   refine List.mem_map.2 ⟨c, List.mem_flatMap.2 ⟨c, hc, ?_⟩, rfl⟩
   rw [encodeRuneZ_one]
   ·exact List.mem_singleton.2 rfl
   ·unfold delC at hd; have := of_decide_eq_true hd; omega
   ·unfold delC at hd; have := of_decide_eq_true hd; omega
  have h1 := List.all_eq_true.1 h _ hb
  unfold delC at hd
  rcases of_decide_eq_true hd with rfl | rfl | rfl | rfl | rfl | rfl <;> exact absurd h1 (by decide)
theorem plain_all {fold : Bool} {l : List (List UInt8)} {s : List UInt8} (h : plainC s = true) : partC fold l s = allC fold l s := by
 unfold partC allC
 cases hv : validD s with
 | false => rfl
 | true =>
  rw [if_pos rfl, if_pos rfl]
  refine List.filter_congr fun c _ => ?_
  unfold matchC partsC
  rw [parts_free (plain_free hv h)]
  show (matchG fold (runes c) [[] ++ runes s] []).isSome = _
  rw [List.nil_append]
  cases hb : begC fold (runes c) (runes s) with
  | true => rw [match_one.2 ⟨hb, rfl⟩]; rfl
  | false =>
   cases hm : matchG fold (runes c) [runes s] [] with
   | none => rfl
   | some r => rw [(match_one.1 hm).1] at hb; cases hb
theorem all_empty {l : List (List UInt8)} : allC false l [] = distM l := by
 unfold allC
 rw [if_pos (show validD [] = true from rfl)]
 exact List.filter_eq_self.2 fun c _ => beg_iff.2 ⟨keyC false (runes c), rfl⟩
theorem sort_all {l rc : List (List UInt8)} : (sortC l rc).length = (distM l).length ∧ (∀ x ∈ distM l, x ∈ sortC l rc) ∧ ∀ x ∈ sortC l rc, x ∈ l := by
 refine ⟨?_, fun x hx => ?_, fun x hx => ?_⟩
 ·unfold sortC
  rw [List.length_append, sortL_len]
  exact out_len (distG_nodup l []) ((distG_nodup rc []).filter _) fun x hx => of_decide_eq_true (List.mem_filter.1 hx).2
 ·unfold sortC
  refine List.mem_append.2 ?_
  by_cases h : x ∈ (distM rc).filter fun x => decide (x ∈ distM l)
  ·exact .inl h
  ·exact .inr ((sortL_stab _).mem.2 (List.mem_filter.2 ⟨hx, by rw [decide_eq_false h]; rfl⟩))
 ·unfold sortC at hx
  rcases List.mem_append.1 hx with h | h
  ·exact (distM_mem.1 (of_decide_eq_true (List.mem_filter.1 h).2)).1
  ·exact (distM_mem.1 (List.mem_filter.1 ((sortL_stab _).mem.1 h)).1).1
end Go.Proofs.YtjcmdifpkafdkaaDoor
