/-
  Contracts of package heap: made, find, cons, vec: what they give back for a heap in memory. Conditions: the heap lies as HeapIn says.
-/
import Derived.Test.YthemeeiedlbhkaaGreatDoorHeapIs
import Derived.Test.YthemeeiedlbhkaaGreatDoorChecked
import Derived.Deep.RegionHeld3
namespace Go.Proofs.YthemeeiedlbhkaaGreatDoor
open Go.RowKit
set_option maxRecDepth 100000

theorem made_yes (p : Nat) (n : Nat) (w : World) (h0 : 0 < n) (hc : w.cell? ⟨p, 0, none⟩ = some (.int .i64 n)) :
    Calls Tryz.prog 108 #[.pointer (some ⟨p, 0, none⟩)] w fun e w' => e = .returned (.bool true) ∧ w = w' := by
  go_enter Tryz.func108, Tryz.ntmps108
  go_wp2
  go_ret
  exact ⟨rfl, rfl⟩
theorem eq_nil_iface (T : TypeId) (v : Value) (w : World) : (binOp .eql 177 (.iface T v) .nilIface).run Tryz.prog w = .ok (.bool false) w := rfl
theorem kind_pair (a : Addr) (w : World) : Calls Tryz.prog 225 #[.pointer (some a)] w fun e w' => e = .returned (.int .i64 2) ∧ w = w' := by
  go_enter Tryz.func225, Tryz.ntmps225
  go_wp2
  go_ret
  exact ⟨rfl, rfl⟩
theorem mkind_pair (a : Addr) (w : World) : (method 373 229 (.pointer (some a)) "copyist/heap.kind").run Tryz.prog w = .ok (225, .pointer (some a)) w := by kernel_rfl
theorem find_pair (p : Nat) (n L : Nat) (g C : Nat) (x : Wd) (b : Nat) (w : World) (h0 : 0 < n) (hc : w.cell? ⟨p, 0, none⟩ = some (.int .i64 n)) (hc3 : w.cell? ⟨p, 3, none⟩ = some (.slice (some ⟨g, 0, none⟩) L C)) (i : Nat) (hx : x.2 = i) (hx2 : i < L)
    (hv : w.cell? ⟨g, i, none⟩ = some (.iface 229 (.pointer (some ⟨b, 0, none⟩)))) (hk : x.1 = 2) :
    Calls Tryz.prog 109 #[.pointer (some ⟨p, 0, none⟩), wdV x] w fun e w' => e = .returned (.iface 229 (.pointer (some ⟨b, 0, none⟩))) ∧ Below w.heap.size w w' := by
  obtain ⟨xk, xn⟩ := x
  unfold wdV
  have hlt : p < w.heap.size := World.block_lt_of_cell? _ _ hc
  have hlt2 : g < w.heap.size := World.block_lt_of_cell? _ _ hv
  obtain rfl : xn = i := hx
  obtain rfl : xk = 2 := hk
  have heq := eq_nil_iface 229 (.pointer (some ⟨b, 0, none⟩))
  have hm := mkind_pair ⟨b, 0, none⟩
  have hd1 : decide ((i : Int) < 0) = false := decide_eq_false (by omega)
  have hd2 : decide ((L : Int) ≤ (i : Int)) = false := decide_eq_false (by omega)
  have hi1 : (0 : Int) ≤ (i : Int) := by omega
  have hi2 : (i : Int) < (L : Int) := by omega
  go_enter Tryz.func109, Tryz.ntmps109
  go_wp2
  go_quiet ((go_at_call 108; exact quiet_l (made_yes p n _ h0 (by go_simp))))
  go_wp2
  go_quiet (fail)
  go_wp2
  go_quiet ((go_at_call 225; first | exact quiet_l (kind_pair _ _) | exact quiet_l2 (kind_pair _ _)))
  go_wp2
  go_ret
  exact ⟨rfl, below_drewN (below_drewN (below_drewN ((Below.refl _ _).alloc (Nat.le_refl _) _) _) _) _⟩
theorem kind_text (a : Addr) (w : World) : Calls Tryz.prog 222 #[.pointer (some a)] w fun e w' => e = .returned (.int .i64 3) ∧ w = w' := by
  go_enter Tryz.func222, Tryz.ntmps222
  go_wp2
  go_ret
  exact ⟨rfl, rfl⟩
theorem mkind_text (a : Addr) (w : World) : (method 373 174 (.pointer (some a)) "copyist/heap.kind").run Tryz.prog w = .ok (222, .pointer (some a)) w := by kernel_rfl
theorem find_text (p : Nat) (n L : Nat) (g C : Nat) (x : Wd) (b : Nat) (w : World) (h0 : 0 < n) (hc : w.cell? ⟨p, 0, none⟩ = some (.int .i64 n)) (hc3 : w.cell? ⟨p, 3, none⟩ = some (.slice (some ⟨g, 0, none⟩) L C)) (i : Nat) (hx : x.2 = i) (hx2 : i < L)
    (hv : w.cell? ⟨g, i, none⟩ = some (.iface 174 (.pointer (some ⟨b, 0, none⟩)))) (hk : x.1 = 3) :
    Calls Tryz.prog 109 #[.pointer (some ⟨p, 0, none⟩), wdV x] w fun e w' => e = .returned (.iface 174 (.pointer (some ⟨b, 0, none⟩))) ∧ Below w.heap.size w w' := by
  obtain ⟨xk, xn⟩ := x
  unfold wdV
  have hlt : p < w.heap.size := World.block_lt_of_cell? _ _ hc
  have hlt2 : g < w.heap.size := World.block_lt_of_cell? _ _ hv
  obtain rfl : xn = i := hx
  obtain rfl : xk = 3 := hk
  have heq := eq_nil_iface 174 (.pointer (some ⟨b, 0, none⟩))
  have hm := mkind_text ⟨b, 0, none⟩
  have hd1 : decide ((i : Int) < 0) = false := decide_eq_false (by omega)
  have hd2 : decide ((L : Int) ≤ (i : Int)) = false := decide_eq_false (by omega)
  have hi1 : (0 : Int) ≤ (i : Int) := by omega
  have hi2 : (i : Int) < (L : Int) := by omega
  go_enter Tryz.func109, Tryz.ntmps109
  go_wp2
  go_quiet ((go_at_call 108; exact quiet_l (made_yes p n _ h0 (by go_simp))))
  go_wp2
  go_quiet (fail)
  go_wp2
  go_quiet ((go_at_call 222; first | exact quiet_l (kind_text _ _) | exact quiet_l2 (kind_text _ _)))
  go_wp2
  go_ret
  exact ⟨rfl, below_drewN (below_drewN (below_drewN ((Below.refl _ _).alloc (Nat.le_refl _) _) _) _) _⟩
theorem kind_vector (a : Addr) (w : World) : Calls Tryz.prog 229 #[.pointer (some a)] w fun e w' => e = .returned (.int .i64 4) ∧ w = w' := by
  go_enter Tryz.func229, Tryz.ntmps229
  go_wp2
  go_ret
  exact ⟨rfl, rfl⟩
theorem mkind_vector (a : Addr) (w : World) : (method 373 249 (.pointer (some a)) "copyist/heap.kind").run Tryz.prog w = .ok (229, .pointer (some a)) w := by kernel_rfl
theorem find_vector (p : Nat) (n L : Nat) (g C : Nat) (x : Wd) (b : Nat) (w : World) (h0 : 0 < n) (hc : w.cell? ⟨p, 0, none⟩ = some (.int .i64 n)) (hc3 : w.cell? ⟨p, 3, none⟩ = some (.slice (some ⟨g, 0, none⟩) L C)) (i : Nat) (hx : x.2 = i) (hx2 : i < L)
    (hv : w.cell? ⟨g, i, none⟩ = some (.iface 249 (.pointer (some ⟨b, 0, none⟩)))) (hk : x.1 = 4) :
    Calls Tryz.prog 109 #[.pointer (some ⟨p, 0, none⟩), wdV x] w fun e w' => e = .returned (.iface 249 (.pointer (some ⟨b, 0, none⟩))) ∧ Below w.heap.size w w' := by
  obtain ⟨xk, xn⟩ := x
  unfold wdV
  have hlt : p < w.heap.size := World.block_lt_of_cell? _ _ hc
  have hlt2 : g < w.heap.size := World.block_lt_of_cell? _ _ hv
  obtain rfl : xn = i := hx
  obtain rfl : xk = 4 := hk
  have heq := eq_nil_iface 249 (.pointer (some ⟨b, 0, none⟩))
  have hm := mkind_vector ⟨b, 0, none⟩
  have hd1 : decide ((i : Int) < 0) = false := decide_eq_false (by omega)
  have hd2 : decide ((L : Int) ≤ (i : Int)) = false := decide_eq_false (by omega)
  have hi1 : (0 : Int) ≤ (i : Int) := by omega
  have hi2 : (i : Int) < (L : Int) := by omega
  go_enter Tryz.func109, Tryz.ntmps109
  go_wp2
  go_quiet ((go_at_call 108; exact quiet_l (made_yes p n _ h0 (by go_simp))))
  go_wp2
  go_quiet (fail)
  go_wp2
  go_quiet ((go_at_call 229; first | exact quiet_l (kind_vector _ _) | exact quiet_l2 (kind_vector _ _)))
  go_wp2
  go_ret
  exact ⟨rfl, below_drewN (below_drewN (below_drewN ((Below.refl _ _).alloc (Nat.le_refl _) _) _) _) _⟩
end Go.Proofs.YthemeeiedlbhkaaGreatDoor
