/-
  The sweep's store and its end, in plain words; the size of a code. Conditions: none.
-/
import Derived.Test.YthmfiahmfdadgaaDoorSweep
namespace Go.Proofs.YthmfiahmfdadgaaDoor
open Go.RowKit
set_option maxRecDepth 100000

theorem size_code (b : Nat) (A B : Option Addr) (n c k d : Nat) (w : World) (h : w.cell? ⟨b, 3, none⟩ = some (.slice A n c)) (h2 : w.cell? ⟨b, 4, none⟩ = some (.slice B k d)) (hn : n ≤ 1048576) (hk : k ≤ 1048576) :
    Calls Tryd.prog 88 #[.pointer (some ⟨b, 0, none⟩)] w fun e w' => e = .returned (.int .i64 ((n + k : Nat) : Int)) ∧ Below w.heap.size w w' := by
  have hw : IntKind.i64.wrap ((n : Int) + (k : Int)) = (n : Int) + (k : Int) := IntWalk.i64_in _ (by omega)
  go_enter Tryd.func88, Tryd.ntmps88
  go_wp2
  go_quiet (fail)
  go_wp2
  go_ret
  exact ⟨rfl, below_drewN (Below.refl _ _) _⟩

theorem row_form {w : World} {S : Own} {k n size : Nat} {e : TypeId} {v : Value} {xs : List Value} (h : RowOf w S k e size v n xs) : ∃ A c, v = .slice A n c := by
  rcases h.1.2 with ⟨h1, h2⟩ | ⟨g, cap, cur, h1, _⟩
  · exact ⟨none, 0, by rw [h1, h2]⟩
  · exact ⟨_, _, h1⟩
/-- What stands behind the store of nil. -/
theorem SweepAt.goner {w : World} {S : Own} {p : Nat} {m : HM} {vo : Value} {os : List Value} {bh bm gm : Nat} {M : List Bool} {z : Nat} {vf : Value} (h : SweepAt w S p m vo os bh bm gm M z vf) {g0 cap n : Nat} (hv : vo = .slice (some ⟨g0, 0, none⟩) n cap) {V : Value} {o : HObj} (hV : ObjAt w S (z + 3) V o) :
    Blk (w.setCell ⟨g0, z, none⟩ .nilIface) p 67 #[.int .i64 m.limit, .int .i64 m.many, .int .i64 (usedOf (sweptObjs m.objs M z)), vo, vf] ∧
    Blk (w.setCell ⟨g0, z, none⟩ .nilIface) bh 26 #[.pointer (some ⟨p, 0, none⟩)] ∧
    (w.setCell ⟨g0, z, none⟩ .nilIface).ownsRow 0 3 1 vf (m.free ++ sweptFree m.objs M z).length ((m.free ++ sweptFree m.objs M z).map (Value.int .i64)) ∧
    ObjAt (w.setCell ⟨g0, z, none⟩ .nilIface) S (z + 3) V o ∧ Turn S w (w.setCell ⟨g0, z, none⟩ .nilIface) S := by
  have hS : S g0 = some 1 := h.rowOwn g0 (by rw [hv]; rfl)
  have hk : ∀ b, S b ≠ some 1 → (w.setCell ⟨g0, z, none⟩ .nilIface).heap[b]? = w.heap[b]? := fun b hb => Below.heap_setCell _ _ _ _ (fun e => hb (by rw [e]; exact hS))
  refine ⟨h.blk.keep (hk p (by rw [h.own]; simp)), h.hv.blk.keep (hk bh (by rw [h.hv.out]; simp)), owns_keep h.fre fun g hg => hk g (by rw [h.freOwn g hg]; simp), hV.keep fun b hb => ⟨hk b (by rw [hb]; simp), hb⟩, (Turn.refl S w).setCell (p := ⟨g0, z, none⟩) (by show S g0 ≠ none; rw [hS]; simp) _⟩
/-- The sweep is done. -/
theorem SweepAt.done {w : World} {S : Own} {p : Nat} {m : HM} {vo : Value} {os : List Value} {bh bm gm : Nat} {M : List Bool} {vf : Value} (h : SweepAt w S p m vo os bh bm gm M m.objs.length vf) (hok : m.Ok) :
    HeapAt (w.setCell ⟨p, 1, none⟩ (.int .i64 ((m.swept M).many : Int))) S p (m.swept M) := by
  have hk : ∀ b, S b ≠ some 0 → (w.setCell ⟨p, 1, none⟩ (.int .i64 ((m.swept M).many : Int))).heap[b]? = w.heap[b]? := fun b hb => Below.heap_setCell _ _ _ _ (fun e => hb (by rw [e]; exact h.own))
  refine ⟨hok.swept M, vo, vf, os, ?_⟩
  exact {
    blk := h.blk.set 1 _
    own := h.own
    row := owns_keep h.row fun g hg => hk g (by rw [h.rowOwn g hg]; simp)
    rowOwn := h.rowOwn
    len := by rw [h.len]; exact (swept_length m.objs M _).symm
    objs := fun i v o h1 h2 => (h.objs i v o h1 h2).keep fun b hb => ⟨hk b (by rw [hb]; simp), hb⟩
    fre := owns_keep h.fre fun g hg => hk g (by rw [h.freOwn g hg]; simp)
    freOwn := h.freOwn
    lt := fun b hb => by have := h.lt b hb; simpa [World.setCell] using this }
theorem HM.Ok.free_swept {m : HM} (h : m.Ok) (M : List Bool) (z : Nat) : (m.free ++ sweptFree m.objs M z).length ≤ 65536 := by
  have h1 := h.free
  have h2 := swept_many m.objs M z
  have h3 : manyOf m.objs = m.many := rfl
  have h4 := h.len
  have h5 := h.hi
  rw [List.length_append]
  omega
/-- The numbers that are free are below the ones that go. -/
def HM.Above (m : HM) (M : List Bool) : Prop := ∀ z, goes m.objs M z = true → ∀ x ∈ m.free, x < (z : Int)
theorem HM.many_swept (m : HM) (M : List Bool) : (m.swept M).many + m.gone M = m.many := swept_many m.objs M m.objs.length
theorem swept_used (objs : List (Option HObj)) (M : List Bool) (z : Nat) (o : HObj) (hg : goes objs M z = true) (ho : objs[z]? = some (some o)) : usedOf (sweptObjs objs M (z + 1)) + o.size = usedOf (sweptObjs objs M z) := by
  rw [sweptObjs, if_pos hg]
  exact used_set_none _ z o (by rw [swept_later objs M z z (Nat.le_refl _)]; exact ho)
/-- The heap's texts are no longer than a string of the machine. -/
def HM.Texts (m : HM) : Prop := ∀ (i : Nat) (s : ByteArray), m.objs[i]? = some (some (HObj.text s)) → s.size ≤ 1000000000000
end Go.Proofs.YthmfiahmfdadgaaDoor
