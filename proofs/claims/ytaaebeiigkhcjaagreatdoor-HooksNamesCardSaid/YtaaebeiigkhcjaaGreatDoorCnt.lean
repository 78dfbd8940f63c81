/-
  Contracts of the heap's Many, Limit, Room and Live. Conditions: the heap lies as HeapAt says, or it is nil.
-/
import Derived.Test.YtaaebeiigkhcjaaGreatDoorMake
import Derived.Test.YtaaebeiigkhcjaaGreatDoorHeap
namespace Go.Proofs.YtaaebeiigkhcjaaGreatDoor
open Go.RowKit
set_option maxRecDepth 100000
theorem neq_nil_iface (T : TypeId) (v : Value) (w : World) : (binOp .neq 135 (.iface T v) .nilIface).run Tryz.prog w = .ok (.bool true) w := rfl
theorem neq_nil_nil (w : World) : (binOp .neq 135 .nilIface .nilIface).run Tryz.prog w = .ok (.bool false) w := rfl

theorem many_heap (S : Own) (p : Nat) (m : HM) (w : World) (hH : HeapAt w S p m) : Calls Tryz.prog 32 #[.pointer (some ⟨p, 0, none⟩)] w fun e w' => e = .returned (.int .i64 m.many) ∧ w = w' := by
  obtain ⟨hok, vo, vf, os, hI⟩ := hH
  have c0 : w.cell? ⟨p, 0, none⟩ = some (.int .i64 m.limit) := hI.blk.cell 0
  have c1 : w.cell? ⟨p, 1, none⟩ = some (.int .i64 m.many) := hI.blk.cell 1
  have h0 : 0 < m.limit := hok.lo
  clear hI hok
  go_enter Tryz.func32, Tryz.ntmps32
  go_wp2_with (go_at_call 59; refine (made_yes p m.limit _ h0 c0).mono ?_; rintro e w' ⟨rfl, rfl⟩)
  go_ret
  exact ⟨rfl, rfl⟩
theorem limit_heap (S : Own) (p : Nat) (m : HM) (w : World) (hH : HeapAt w S p m) : Calls Tryz.prog 49 #[.pointer (some ⟨p, 0, none⟩)] w fun e w' => e = .returned (.int .i64 m.limit) ∧ w = w' := by
  obtain ⟨hok, vo, vf, os, hI⟩ := hH
  have c0 : w.cell? ⟨p, 0, none⟩ = some (.int .i64 m.limit) := hI.blk.cell 0
  have h0 : 0 < m.limit := hok.lo
  clear hI hok
  go_enter Tryz.func49, Tryz.ntmps49
  go_wp2_with (go_at_call 59; refine (made_yes p m.limit _ h0 c0).mono ?_; rintro e w' ⟨rfl, rfl⟩)
  go_ret
  exact ⟨rfl, rfl⟩
theorem live_cons (S : Own) (p : Nat) (m : HM) (n : Int) (w : World) (hH : HeapAt w S p m) : Calls Tryz.prog 100 #[.pointer (some ⟨p, 0, none⟩), wdV (2, n)] w fun e w' => e = .returned (.bool (m.find (2, n)).isSome) ∧ Below w.heap.size w w' := by
  obtain ⟨V, hF, hV⟩ := finds_any hH (2, n)
  obtain ⟨hok, vo, vf, os, hI⟩ := hH
  have c0 : w.cell? ⟨p, 0, none⟩ = some (.int .i64 m.limit) := hI.blk.cell 0
  have h0 : 0 < m.limit := hok.lo
  have A1 : Below w.heap.size w (w.alloc (.cells #[.int .i64 2, .int .i64 n] 27)) := (Below.refl _ _).alloc (Nat.le_refl _) _
  have k0 := cell_later A1 c0
  have hVf : (V = .nilIface ∧ (m.find (2, n)).isSome = false) ∨ ∃ T v, V = .iface T v ∧ (m.find (2, n)).isSome = true := by
    cases he : m.find (2, n) with
    | none => rw [he] at hV; exact .inl ⟨hV, rfl⟩
    | some o =>
      rw [he] at hV
      cases o with
      | pair => obtain ⟨b, rfl, _⟩ := hV; exact .inr ⟨_, _, rfl, rfl⟩
      | text => obtain ⟨b, rfl, _⟩ := hV; exact .inr ⟨_, _, rfl, rfl⟩
      | vec => obtain ⟨b, r, rfl, _⟩ := hV; exact .inr ⟨_, _, rfl, rfl⟩
      | code => exact hV.elim
  have CF := Lib.hid (hF _ A1)
  have HA1 := Lib.hid A1
  clear hI hok hF hV c0 A1
  rcases hVf with ⟨rfl, he⟩ | ⟨T, v, rfl, he⟩
  · have heq := neq_nil_nil
    rw [he]
    clear he
    go_enter Tryz.func100, Tryz.ntmps100
    go_wp2_with (first | (go_at_call 59; refine (made_yes p m.limit _ h0 k0).mono ?_; rintro e w' ⟨rfl, rfl⟩) | (go_at_call 114; refine CF.out.mono ?_; rintro e w' ⟨rfl, hb⟩))
    go_ret
    exact ⟨rfl, HA1.out.trans (hb.mono HA1.out.size)⟩
  · have heq := neq_nil_iface T v
    rw [he]
    clear he
    go_enter Tryz.func100, Tryz.ntmps100
    go_wp2_with (first | (go_at_call 59; refine (made_yes p m.limit _ h0 k0).mono ?_; rintro e w' ⟨rfl, rfl⟩) | (go_at_call 114; refine CF.out.mono ?_; rintro e w' ⟨rfl, hb⟩))
    go_ret
    exact ⟨rfl, HA1.out.trans (hb.mono HA1.out.size)⟩
end Go.Proofs.YtaaebeiigkhcjaaGreatDoor
