/-
  (*heap.Heap).Copy: a heap of its own with the same objects. Conditions: the heap holds no code and no free number.
-/
import Derived.Test.YthmfiahmfdadgaaDoorCopied
namespace Go.Proofs.YthmfiahmfdadgaaDoor
open Go.RowKit
set_option maxRecDepth 100000

theorem mcopied_pair (a : Addr) (w : World) : (method 232 77 (.pointer (some a)) "copyist/heap.copied").run Tryd.prog w = .ok (83, .pointer (some a)) w := by kernel_rfl
theorem mcopied_text (a : Addr) (w : World) : (method 232 74 (.pointer (some a)) "copyist/heap.copied").run Tryd.prog w = .ok (80, .pointer (some a)) w := by kernel_rfl
theorem mcopied_vector (a : Addr) (w : World) : (method 232 69 (.pointer (some a)) "copyist/heap.copied").run Tryd.prog w = .ok (77, .pointer (some a)) w := by kernel_rfl
/-- slices.Clone at no numbers. -/
theorem clone_none (fa : Option Addr) (c : Nat) (w : World) :
    Calls Tryd.prog 49 #[.slice fa 0 c] w fun e w' => ∃ v, e = .returned v ∧ w'.ownsRow w.heap.size 3 1 v 0 [] ∧ Below w.heap.size w w' := by
  have q : ∀ (w : World) (a : Option Addr) (n c n' c' : Nat), (binOp .eql 65 (.slice a n c) (.slice none n' c')).run Tryd.prog w = .ok (.bool a.isNone) w := fun w a n c n' c' => Lib.run_eql_slice_nil w _ _ a n c n' c' Tryd.underlying65
  obtain ⟨i0, hi, hz0, hz1, hz2⟩ := info_parts info_int
  cases fa with
  | none =>
    go_enter Tryd.func49, Tryd.ntmps49
    go_wp2
    go_ret
    exact ⟨_, rfl, World.ownsRow_nil _ _ _ _, Below.refl _ _⟩
  | some a =>
    have H0 : (w.alloc (.cells #[] 3)).ownsRow w.heap.size 3 1 (.slice (some ⟨w.heap.size, 0, none⟩) 0 0) 0 [] :=
      ⟨rfl, .inr ⟨w.heap.size, 0, #[], rfl, Nat.le_refl _, Blk.new _ _ _, Nat.le_refl _, Nat.zero_le _, rfl, rfl⟩⟩
    have HR : Hid (Reads (w.alloc (.cells #[] 3)) w.heap.size 1 (some a) 0 []) := ⟨rfl, fun h => absurd h (by decide)⟩
    have H0' := Lib.hid H0
    clear H0
    go_enter Tryd.func49, Tryd.ntmps49
    go_wp2_with (at_builtin; refine (wpList_append_any _ rfl (.tmp 5) (.tmp 6) _ rfl w.heap.size 3 i0 _ 1 8 Tryd.underlying65 hi hz0 hz1 hz2 rfl (by omega) (.slice (some ⟨w.heap.size, 0, none⟩) 0 0) 0 [] rfl H0'.out w.heap.size (some a) 0 c [] rfl HR.out (fun u hu => by simp at hu) (by simp only [maxLen]; omega) (by omega) (by simp) ?_); intro v1 w1 hown1 hgrow1 hat1)
    have hb : Below w.heap.size w w1 := ((Below.refl _ _).alloc (Nat.le_refl _) _).grown hgrow1 (by simp) (fun k hk => by simp [Value.ownBlock] at hk; omega)
    have HO := Lib.hid hown1
    clear hown1 hgrow1 hat1
    go_wp2
    go_ret
    exact ⟨_, rfl, by simpa using HO.out, hb⟩
theorem size_le_used {m : HM} {i : Nat} {o : HObj} (h : m.objs[i]? = some (some o)) : o.size ≤ m.used := by
  unfold HM.used
  generalize m.objs = l at h
  induction l generalizing i with
  | nil => cases h
  | cons a l ih =>
    rw [List.map_cons, List.sum_cons]
    cases i with
    | zero => cases h; simp [optSize]
    | succ i => have := ih (i := i) (by simpa using h); omega
/-- An object of the copy, or none. -/
def CellNew (w w' : World) (V : Value) : Option HObj → Prop
  | none => V = .nilIface
  | some o => NewObj w w' V o
/-- What lies there while Copy gathers: z objects so far. -/
structure CopyAt (w wr : World) (S : Own) (q : Nat) (m : HM) (z : Nat) (vo vf : Value) (os : List Value) : Prop where
  below : Below w.heap.size w wr
  blk : Blk wr q 67 #[.int .i64 m.limit, .int .i64 m.many, .int .i64 m.used, vo, vf]
  own : S q = some 0
  new : ∀ b, S b ≠ none → w.heap.size ≤ b ∧ b < wr.heap.size
  row : wr.ownsRow 0 86 1 vo z os
  rowOwn : ∀ g, vo.ownBlock = some g → S g = some 1
  objs : ∀ i v o, i < z → os[i]? = some v → m.objs[i]? = some o → CellIs wr S (i + 3) v o
  fre : wr.ownsRow 0 3 1 vf 0 []
  freOwn : ∀ g, vf.ownBlock = some g → S g = some 2
  top : ∀ b k, S b = some k → k < z + 3
/-- The owners behind one object more. -/
def Own.copied (S : Own) (v2 : Value) (lo hi z : Nat) : Own := fun b => if v2.ownBlock = some b then some 1 else if lo ≤ b ∧ b < hi then some (z + 3) else S b
theorem CopyAt.step {w wr w1 w2 : World} {S : Own} {q : Nat} {m : HM} {z : Nat} {vo vf v2 V : Value} {os : List Value} {ob : Obj} {o : Option HObj} (h : CopyAt w wr S q m z vo vf os) (ho : m.objs[z]? = some o) (hb : Below wr.heap.size wr w1) (hN : CellNew wr w1 V o)
    (hown : w2.ownsRow 0 86 1 v2 (z + 1) (os ++ [V])) (hg : (w1.alloc ob).grownBy w2 vo.ownBlock) (hat : v2.ownBlock = vo.ownBlock ∨ v2.ownBlock = some (w1.alloc ob).heap.size) :
    CopyAt w (w2.setCell ⟨q, 3, none⟩ v2) (S.copied v2 wr.heap.size w1.heap.size z) q m (z + 1) v2 vf (os ++ [V]) := by
  have hz1 := hb.size
  have hz2 : w1.heap.size + 1 ≤ w2.heap.size := by have := hg.size; simpa using this
  have hq := h.new q (by rw [h.own]; simp)
  have hvo : ∀ g, vo.ownBlock = some g → w.heap.size ≤ g ∧ g < wr.heap.size := fun g e => h.new g (by rw [h.rowOwn g e]; simp)
  have hv2 : ∀ g, v2.ownBlock = some g → (S g = some 1 ∧ g < wr.heap.size) ∨ w1.heap.size < g := fun g e => by
    rcases hat with h1 | h1
    · exact .inl ⟨h.rowOwn g (h1 ▸ e), (hvo g (h1 ▸ e)).2⟩
    · rw [h1] at e
      cases e
      exact .inr (by simp)
  have hqv : v2.ownBlock ≠ some q := fun e => by
    rcases hv2 q e with h1 | h1
    · rw [h.own] at h1; cases h1.1
    · omega
  have hfar : ∀ b, b < w1.heap.size → some b ≠ vo.ownBlock → b ≠ q → (w2.setCell ⟨q, 3, none⟩ v2).heap[b]? = w1.heap[b]? := fun b h1 h2 h3 => by
    rw [Below.heap_setCell _ _ _ _ h3, hg.block b (by simp; omega) h2, Below.heap_alloc _ _ _ h1]
  have hold : ∀ b, b < wr.heap.size → some b ≠ vo.ownBlock → b ≠ q → (w2.setCell ⟨q, 3, none⟩ v2).heap[b]? = wr.heap[b]? := fun b h1 h2 h3 => (hfar b (by omega) h2 h3).trans (hb.block b h1)
  have hS : ∀ b k, S b = some k → k ≠ 1 → (S.copied v2 wr.heap.size w1.heap.size z) b = some k := fun b k e hk => by
    have hlt := (h.new b (by rw [e]; simp)).2
    unfold Own.copied
    rw [if_neg (fun e2 => ?_), if_neg (by omega), e]
    rcases hv2 b e2 with h1 | h1
    · rw [e] at h1; exact hk (Option.some.inj h1.1)
    · omega
  have hkeep : ∀ b k, S b = some k → k ≠ 0 → k ≠ 1 → (w2.setCell ⟨q, 3, none⟩ v2).heap[b]? = wr.heap[b]? := fun b k e h0 h1 => hold b (h.new b (by rw [e]; simp)).2 (fun e2 => h1 (by have := h.rowOwn b e2.symm; rw [e] at this; exact Option.some.inj this)) (fun e2 => h0 (by have := h.own; rw [← e2, e] at this; exact Option.some.inj this))
  exact {
    below := by
      refine Below.setCell ?_ hq.1 _
      exact ((h.below.trans (hb.mono h.below.size)).alloc (by have := h.below.size; omega) ob).grown hg (by have := h.below.size; simp; omega) fun k e => (hvo k e).1
    blk := by
      have hqo : some q ≠ vo.ownBlock := fun e => by have := h.rowOwn q e.symm; rw [h.own] at this; cases this
      have d2 : Blk w2 q 67 #[.int .i64 m.limit, .int .i64 m.many, .int .i64 m.used, vo, vf] := ((h.blk.below hb).alloc ob).keep (hg.block q (by simp; omega) hqo)
      simpa using d2.set 3 v2
    own := hS q 0 h.own (by omega)
    new := fun b e => by
      show _ ∧ b < (w2.setCell ⟨q, 3, none⟩ v2).heap.size
      rw [show (w2.setCell ⟨q, 3, none⟩ v2).heap.size = w2.heap.size by simp [World.setCell]]
      unfold Own.copied at e
      split at e
      · rename_i e2
        have := hown.lt b e2
        rcases hv2 b e2 with h1 | h1
        · exact ⟨(h.new b (by rw [h1.1]; simp)).1, this.2⟩
        · have := h.below.size; omega
      · split at e
        · rename_i e2
          have := h.below.size; omega
        · have := h.new b e; omega
    row := owns_keep hown fun g e => Below.heap_setCell _ _ _ _ (fun e2 => hqv (by have e3 : g = q := e2; rw [← e3]; exact e))
    rowOwn := fun g e => by unfold Own.copied; rw [if_pos e]
    objs := fun i v o' hi h1 h2 => by
      have hosl : os.length = z := by have := h.row.1; omega
      by_cases hiz : i < z
      · rw [List.getElem?_append_left (by omega)] at h1
        exact (h.objs i v o' hiz h1 h2).keep fun b e => ⟨hkeep b _ e (by omega) (by omega), hS b _ e (by omega)⟩
      · have hi2 : i = z := by omega
        subst hi2
        rw [ho] at h2
        cases h2
        rw [List.getElem?_append_right (by omega), hosl, Nat.sub_self] at h1
        have hv : V = v := by simpa using h1
        subst hv
        cases o with
        | none => exact hN
        | some o =>
          have h3 : ObjAt w1 (S.copied v2 wr.heap.size w1.heap.size i) (i + 3) V o := hN _ _ fun b k1 k2 => by
            unfold Own.copied
            rw [if_neg (fun e2 => ?_), if_pos ⟨k1, k2⟩]
            rcases hv2 b e2 with h4 | h4 <;> omega
          refine h3.keep fun b e => ⟨?_, e⟩
          have hbi : wr.heap.size ≤ b ∧ b < w1.heap.size := by
            unfold Own.copied at e
            split at e
            · cases e
            · split at e
              · assumption
              · have := h.top b _ e; omega
          exact hfar b hbi.2 (fun e2 => by have := hvo b e2.symm; omega) (by omega)
    fre := owns_keep h.fre fun g e => hkeep g 2 (h.freOwn g e) (by omega) (by omega)
    freOwn := fun g e => hS g 2 (h.freOwn g e) (by omega)
    top := fun b k e => by
      unfold Own.copied at e
      split at e
      · cases e; omega
      · split at e
        · cases e; omega
        · have := h.top b k e; omega }
theorem CopyAt.done {w wr : World} {S : Own} {q : Nat} {m : HM} {vo vf : Value} {os : List Value} (h : CopyAt w wr S q m m.objs.length vo vf os) (hok : m.Ok) (hf : m.free = []) : HeapAt wr S q m := by
  have hosl : os.length = m.objs.length := by have := h.row.1; omega
  refine ⟨hok, vo, vf, os, ?_⟩
  exact {
    blk := h.blk
    own := h.own
    row := by rw [hosl]; exact h.row
    rowOwn := h.rowOwn
    len := hosl
    objs := fun i v o h1 h2 => h.objs i v o (by have := (List.getElem?_eq_some_iff.1 h1).1; omega) h1 h2
    fre := by rw [hf]; exact h.fre
    freOwn := h.freOwn
    lt := fun b e => (h.new b e).2 }
end Go.Proofs.YthmfiahmfdadgaaDoor
