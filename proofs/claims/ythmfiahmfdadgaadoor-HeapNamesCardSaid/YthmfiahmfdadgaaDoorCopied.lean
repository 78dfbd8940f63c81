/-
  The method copied of a heap's objects: all of the copy lies in new blocks. Conditions: the object lies as said.
-/
import Derived.Test.YthmfiahmfdadgaaDoorCollect
namespace Go.Proofs.YthmfiahmfdadgaaDoor
open Go.RowKit
set_option maxRecDepth 100000

/-- An object all of whose blocks are new. -/
def NewObj (w w' : World) (V : Value) (o : HObj) : Prop := ∀ (S : Own) (k : Nat), (∀ b, w.heap.size ≤ b → b < w'.heap.size → S b = some k) → ObjAt w' S k V o
/-- What copied answers. -/
def Copied (w : World) (o : HObj) (e : Ending) (w' : World) : Prop := ∃ V, e = .returned V ∧ NewObj w w' V o ∧ Below w.heap.size w w'
theorem copied_pair (b : Nat) (a d : Wd) (w : World) (hB : Blk w b 79 #[.int .i64 a.1, .int .i64 a.2, .int .i64 d.1, .int .i64 d.2]) :
    Calls Tryd.prog 83 #[.pointer (some ⟨b, 0, none⟩)] w fun e w' => ∃ b', e = .returned (.iface 77 (.pointer (some ⟨b', 0, none⟩))) ∧ NewObj w w' (.iface 77 (.pointer (some ⟨b', 0, none⟩))) (.pair a d) ∧ Below w.heap.size w w' := by
  have c0 : w.cell? ⟨b, 0, none⟩ = some (.int .i64 a.1) := hB.cell 0
  have c1 : w.cell? ⟨b, 1, none⟩ = some (.int .i64 a.2) := hB.cell 1
  have c2 : w.cell? ⟨b, 2, none⟩ = some (.int .i64 d.1) := hB.cell 2
  have c3 : w.cell? ⟨b, 3, none⟩ = some (.int .i64 d.2) := hB.cell 3
  have hlt := hB.lt
  clear hB
  go_enter Tryd.func83, Tryd.ntmps83
  go_wp2
  go_region_with (fail)
  all_goals
    go_wp2
    go_ret
    refine ⟨w.heap.size, rfl, fun S k hS => ?_, ((Below.refl _ _).alloc (Nat.le_refl _) _).drew⟩
    exact ⟨w.heap.size, rfl, hS _ (Nat.le_refl _) (by show w.heap.size < (w.alloc _).heap.size; simp), Blk.new w _ _⟩
theorem copied_text (b : Nat) (s : ByteArray) (w : World) (hB : Blk w b 76 #[.string s]) :
    Calls Tryd.prog 80 #[.pointer (some ⟨b, 0, none⟩)] w fun e w' => ∃ b', e = .returned (.iface 74 (.pointer (some ⟨b', 0, none⟩))) ∧ NewObj w w' (.iface 74 (.pointer (some ⟨b', 0, none⟩))) (.text s) ∧ Below w.heap.size w w' := by
  have c0 : w.cell? ⟨b, 0, none⟩ = some (.string s) := hB.cell 0
  have hlt := hB.lt
  clear hB
  go_enter Tryd.func80, Tryd.ntmps80
  go_wp2
  go_ret
  refine ⟨w.heap.size, rfl, fun S k hS => ?_, (Below.refl _ _).alloc (Nat.le_refl _) _⟩
  exact ⟨w.heap.size, rfl, hS _ (Nat.le_refl _) (by simp), Blk.new w _ _⟩
theorem copied_vector (b : Nat) (r : Value) (l : List Wd) (w : World) {S : Own} {k : Nat} (hB : Blk w b 71 #[r]) (hr : RowOf w S k 24 2 r l.length (wdC l)) (hl : l.length ≤ 2000000) :
    Calls Tryd.prog 77 #[.pointer (some ⟨b, 0, none⟩)] w fun e w' => ∃ b', e = .returned (.iface 69 (.pointer (some ⟨b', 0, none⟩))) ∧ NewObj w w' (.iface 69 (.pointer (some ⟨b', 0, none⟩))) (.vec l) ∧ Below w.heap.size w w' := by
  obtain ⟨A, c, rfl, hR⟩ := hr.reads
  have c0 : w.cell? ⟨b, 0, none⟩ = some (.slice A l.length c) := hB.cell 0
  have hlt := hB.lt
  have HR := Lib.hid hR
  clear hB hr hR
  go_enter Tryd.func77, Tryd.ntmps77
  go_wp2_with fail
  refine (clone_words A l.length c l w hl HR.out).mono ?_
  rintro e w1 ⟨v, rfl, hown1, hb1⟩
  obtain ⟨va, vc, hv⟩ : ∃ va vc, v = .slice va l.length vc := by
    rcases hown1.2 with ⟨h, h2⟩ | ⟨g, cap, cur, h, _⟩
    · exact ⟨none, 0, by rw [h, h2]⟩
    · exact ⟨_, _, h⟩
  subst hv
  have H1 := Lib.hid (And.intro hown1 hb1)
  clear hown1 hb1
  go_wp2
  go_ret
  obtain ⟨hown1, hb1⟩ := H1.out
  have hz := hb1.size
  refine ⟨w1.heap.size, rfl, fun S k hS => ?_, hb1.alloc hb1.size _⟩
  refine ⟨w1.heap.size, .slice va l.length vc, rfl, hS _ hz (by simp), Blk.new w1 _ _, owns_mono (owns_later hown1 ((Below.refl _ _).alloc (Nat.le_refl _) _)) (Nat.zero_le _), fun g hg => ?_⟩
  have := hown1.lt g hg
  exact hS g this.1 (by simp; omega)
end Go.Proofs.YthmfiahmfdadgaaDoor
