/-
  Words for memory with owners: which block belongs to which object; what a step may turn. No program in this text. Conditions: none.
-/
import Derived.Test.YtaaebeiigkhcjaaDoorBase
namespace Go.Proofs.YtaaebeiigkhcjaaDoor
open Go.RowKit

/-- Which object a block belongs to. -/
abbrev Own := Nat → Option Nat

/-- From w to w' only blocks that S owns have turned; S' owns beside those of S new blocks alone. -/
structure Turn (S : Own) (w w' : World) (S' : Own) : Prop where
  os : w'.os = w.os
  tape : w'.tape = w.tape
  output : w'.output = w.output
  size : w.heap.size ≤ w'.heap.size
  block : ∀ b, b < w.heap.size → S b = none → w'.heap[b]? = w.heap[b]?
  new : ∀ b, b < w.heap.size → S b = none → S' b = none

theorem Turn.refl (S : Own) (w : World) : Turn S w w S := ⟨rfl, rfl, rfl, Nat.le_refl _, fun _ _ _ => rfl, fun _ _ h => h⟩
theorem Turn.trans {S S1 S2 : Own} {w w1 w2 : World} (h : Turn S w w1 S1) (k : Turn S1 w1 w2 S2) : Turn S w w2 S2 :=
  ⟨k.os.trans h.os, k.tape.trans h.tape, k.output.trans h.output, Nat.le_trans h.size k.size,
   fun b hb hs => (k.block b (Nat.lt_of_lt_of_le hb h.size) (h.new b hb hs)).trans (h.block b hb hs),
   fun b hb hs => k.new b (Nat.lt_of_lt_of_le hb h.size) (h.new b hb hs)⟩
theorem Turn.of_below {S : Own} {w w' : World} (h : Below w.heap.size w w') : Turn S w w' S :=
  ⟨h.os, h.tape, h.output, h.size, fun b hb _ => h.block b hb, fun _ _ hs => hs⟩
theorem Turn.below {S S' : Own} {w w' : World} {B : Nat} (h : Turn S w w' S') (hB : B ≤ w.heap.size) (hS : ∀ b, b < B → S b = none) : Below B w w' :=
  ⟨h.os, h.tape, h.output, h.size, fun b hb => h.block b (by omega) (hS b hb)⟩
theorem Turn.out {S S' : Own} {w w' : World} {B : Nat} (h : Turn S w w' S') (hB : B ≤ w.heap.size) (hS : ∀ b, b < B → S b = none) : ∀ b, b < B → S' b = none :=
  fun b hb => h.new b (by omega) (hS b hb)
theorem Turn.cell {S S' : Own} {w w' : World} (h : Turn S w w' S') {p : Addr} (hp : p.block < w.heap.size) (hs : S p.block = none) : w'.cell? p = w.cell? p :=
  World.cell?_of_block (w := w) (h.block p.block hp hs)
theorem Turn.drewN {S S' : Own} {w w' : World} (h : Turn S w w' S') (n : Nat) : Turn S w (w'.drewN n) S' := ⟨h.os, h.tape, h.output, h.size, h.block, h.new⟩
theorem Turn.alloc {S S' : Own} {w w' : World} (h : Turn S w w' S') (o : Obj) : Turn S w (w'.alloc o) S' :=
  h.trans (.of_below ((Below.refl _ _).alloc (Nat.le_refl _) o))
/-- A store into a block that S' owns. -/
theorem Turn.setCell {S S' : Own} {w w' : World} (h : Turn S w w' S') {p : Addr} (hp : S' p.block ≠ none) (u : Value) : Turn S w (w'.setCell p u) S' :=
  h.trans ⟨rfl, rfl, rfl, by simp [World.setCell], fun b _ hs => Below.heap_setCell _ _ _ _ (fun e => hp (by rw [← e]; exact hs)), fun _ _ hs => hs⟩
/-- A store into a block that is new. -/
theorem Turn.setCell_new {S S' : Own} {w w' : World} (h : Turn S w w' S') {p : Addr} (hp : w.heap.size ≤ p.block) (u : Value) : Turn S w (w'.setCell p u) S' :=
  ⟨h.os, h.tape, h.output, by simpa [World.setCell] using h.size, fun b hb hs => (Below.heap_setCell _ _ _ _ (by omega)).trans (h.block b hb hs), h.new⟩
/-- More blocks are owned, all of them new or owned before. -/
theorem Turn.own {S S' S2 : Own} {w w' : World} (h : Turn S w w' S') (hn : ∀ b, b < w.heap.size → S b = none → S2 b = none) : Turn S w w' S2 :=
  ⟨h.os, h.tape, h.output, h.size, h.block, hn⟩
theorem Turn.grown {S S' : Own} {w w' w2 : World} {row : Option Nat} (h : Turn S w w' S') (hg : w'.grownBy w2 row) (hr : ∀ g, row = some g → S' g ≠ none) : Turn S w w2 S' :=
  h.trans ⟨hg.os, hg.tape, hg.output, hg.size, fun b hb hs => hg.block b hb (fun e => hr b e.symm hs), fun _ _ hs => hs⟩

/-- One block more. -/
def Own.add (S : Own) (b k : Nat) : Own := fun x => if x = b then some k else S x
theorem Own.add_at (S : Own) (b k : Nat) : S.add b k b = some k := by simp [Own.add]
/-- Block g is just the cells cs of element type t, none frozen. -/
def Blk (w : World) (g : Nat) (t : TypeId) (cs : Array Value) : Prop := w.heap[g]? = some (.cells cs t (0, 0))
section
variable {w w' : World} {g : Nat} {t : TypeId} {cs : Array Value}
theorem Blk.lt (h : Blk w g t cs) : g < w.heap.size := lt_of_block h
theorem Blk.cell (h : Blk w g t cs) (i : Nat) : w.cell? ⟨g, i, none⟩ = cs[i]? := cell_of_row w g i cs t (0, 0) h
theorem Blk.frozen (h : Blk w g t cs) (i : Nat) : w.frozen? ⟨g, i, none⟩ = false := by
  unfold Blk at h
  simp [World.frozen?, h]
theorem Blk.keep (h : Blk w g t cs) (hk : w'.heap[g]? = w.heap[g]?) : Blk w' g t cs := hk.trans h
theorem Blk.turn {S S' : Own} (h : Blk w g t cs) (ht : Turn S w w' S') (hs : S g = none) : Blk w' g t cs := h.keep (ht.block g h.lt hs)
theorem Blk.below (h : Blk w g t cs) (hb : Below w.heap.size w w') : Blk w' g t cs := h.keep (hb.block g h.lt)
theorem Blk.drewN (h : Blk w g t cs) (n : Nat) : Blk (w.drewN n) g t cs := h
theorem Blk.alloc (h : Blk w g t cs) (o : Obj) : Blk (w.alloc o) g t cs := h.keep (Below.heap_alloc w o g h.lt)
theorem Blk.set (h : Blk w g t cs) (i : Nat) (u : Value) : Blk (w.setCell ⟨g, i, none⟩ u) g t (cs.setIfInBounds i u) := by
  unfold Blk at h ⊢
  simp [World.setCell, Array.getElem?_modify, h]
theorem Blk.far (h : Blk w g t cs) {p : Addr} (hp : g ≠ p.block) (u : Value) : Blk (w.setCell p u) g t cs := h.keep (Below.heap_setCell w p u g hp)
theorem Blk.new (w : World) (t : TypeId) (cs : Array Value) : Blk (w.alloc (.cells cs t)) w.heap.size t cs := by
  show (w.heap.push _)[w.heap.size]? = _
  simp
end
theorem owns_keep {w w' : World} {base : Nat} {e : TypeId} {size n : Nat} {v : Value} {xs : List Value} (h : w.ownsRow base e size v n xs) (hk : ∀ g, v.ownBlock = some g → w'.heap[g]? = w.heap[g]?) : w'.ownsRow base e size v n xs := by
  obtain ⟨h1, h2⟩ := h
  refine ⟨h1, ?_⟩
  rcases h2 with h2 | ⟨g, cap, cur, a, b, c, d⟩
  · exact .inl h2
  · exact .inr ⟨g, cap, cur, a, b, (hk g (by rw [a]; rfl)).trans c, d⟩
theorem frozen_later {w w1 : World} (hb : Below w.heap.size w w1) {b o : Nat} {v : Value} (hc : w.cell? ⟨b, o, none⟩ = some v) (hf : w.frozen? ⟨b, o, none⟩ = false) : w1.frozen? ⟨b, o, none⟩ = false :=
  (hb.frozen (p := ⟨b, o, none⟩) (World.block_lt_of_cell? _ _ hc)).trans hf
/-- A callee that leaves the world alone, met in a region that only reads. -/
theorem quiet_l {P : Program} {f : FuncId} {args : Array Value} {w : World} {n : Nat} {v : Value} (h : Calls P f args (w.drewN n) fun e w' => e = .returned v ∧ w.drewN n = w') :
    Calls P f args (w.drewN n) fun e w' => e = .returned v ∧ ∃ m, w' = w.drewN m := h.mono fun _ _ ⟨he, hw⟩ => ⟨he, n, hw.symm⟩
theorem quiet_l2 {P : Program} {f : FuncId} {args : Array Value} {w : World} {a n : Nat} {v : Value} (h : Calls P f args (w.drewN (a + n)) fun e w' => e = .returned v ∧ w.drewN (a + n) = w') :
    Calls P f args (w.drewN (a + n)) fun e w' => e = .returned v ∧ ∃ m, w' = w.drewN (a + m) := h.mono fun _ _ ⟨he, hw⟩ => ⟨he, n, hw.symm⟩
end Go.Proofs.YtaaebeiigkhcjaaDoor
