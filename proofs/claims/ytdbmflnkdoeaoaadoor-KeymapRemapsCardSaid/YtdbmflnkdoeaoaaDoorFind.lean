/-
  Contracts of package heap: made, find, cons, vec: what they give back for a heap in memory. Conditions: the heap lies as HeapIn says.
-/
import Derived.Test.YtdbmflnkdoeaoaaDoorHeapIs
import Derived.Test.YtdbmflnkdoeaoaaDoorChecked
import Derived.Deep.RegionHeld3
namespace Go.Proofs.YtdbmflnkdoeaoaaDoor
open Go.RowKit
set_option maxRecDepth 100000

theorem made_yes (p : Nat) (n : Nat) (w : World) (h0 : 0 < n) (hc : w.cell? ⟨p, 0, none⟩ = some (.int .i64 n)) :
    Calls Tryd.prog 50 #[.pointer (some ⟨p, 0, none⟩)] w fun e w' => e = .returned (.bool true) ∧ w = w' := by
  go_enter Tryd.func50, Tryd.ntmps50
  go_wp2
  go_ret
  exact ⟨rfl, rfl⟩
theorem find_neg (p : Nat) (n : Nat) (x : Wd) (w : World) (h0 : 0 < n) (hc : w.cell? ⟨p, 0, none⟩ = some (.int .i64 n)) (hx : x.2 < 0) :
    Calls Tryd.prog 80 #[.pointer (some ⟨p, 0, none⟩), wdV x] w fun e w' => e = .returned .nilIface ∧ Below w.heap.size w w' := by
  obtain ⟨xk, xn⟩ := x
  unfold wdV
  have hlt : p < w.heap.size := World.block_lt_of_cell? _ _ hc
  go_enter Tryd.func80, Tryd.ntmps80
  go_wp2
  go_quiet ((go_at_call 50; exact quiet_l (made_yes p n _ h0 (by go_simp))))
  go_wp2
  go_ret
  exact ⟨rfl, below_drewN ((Below.refl _ _).alloc (Nat.le_refl _) _) _⟩
theorem find_far (p : Nat) (n L : Nat) (A : Option Addr) (C : Nat) (x : Wd) (w : World) (h0 : 0 < n) (hc : w.cell? ⟨p, 0, none⟩ = some (.int .i64 n)) (hc3 : w.cell? ⟨p, 3, none⟩ = some (.slice A L C)) (hx : 0 ≤ x.2) (hx2 : (L : Int) ≤ x.2) :
    Calls Tryd.prog 80 #[.pointer (some ⟨p, 0, none⟩), wdV x] w fun e w' => e = .returned .nilIface ∧ Below w.heap.size w w' := by
  obtain ⟨xk, xn⟩ := x
  unfold wdV
  have hlt : p < w.heap.size := World.block_lt_of_cell? _ _ hc
  have hd1 : decide (xn < 0) = false := decide_eq_false (by simpa using hx)
  go_enter Tryd.func80, Tryd.ntmps80
  go_wp2
  go_quiet ((go_at_call 50; exact quiet_l (made_yes p n _ h0 (by go_simp))))
  go_wp2
  go_ret
  exact ⟨rfl, below_drewN ((Below.refl _ _).alloc (Nat.le_refl _) _) _⟩
theorem eq_nil_iface (T : TypeId) (v : Value) (w : World) : (binOp .eql 131 (.iface T v) .nilIface).run Tryd.prog w = .ok (.bool false) w := rfl
theorem eq_nil_nil (w : World) : (binOp .eql 131 .nilIface .nilIface).run Tryd.prog w = .ok (.bool true) w := rfl

theorem find_free (p : Nat) (n L : Nat) (g C : Nat) (x : Wd) (w : World) (h0 : 0 < n) (hc : w.cell? ⟨p, 0, none⟩ = some (.int .i64 n)) (hc3 : w.cell? ⟨p, 3, none⟩ = some (.slice (some ⟨g, 0, none⟩) L C)) (i : Nat) (hx : x.2 = i) (hx2 : i < L)
    (hv : w.cell? ⟨g, i, none⟩ = some .nilIface) :
    Calls Tryd.prog 80 #[.pointer (some ⟨p, 0, none⟩), wdV x] w fun e w' => e = .returned .nilIface ∧ Below w.heap.size w w' := by
  obtain ⟨xk, xn⟩ := x
  unfold wdV
  have hlt : p < w.heap.size := World.block_lt_of_cell? _ _ hc
  have hlt2 : g < w.heap.size := World.block_lt_of_cell? _ _ hv
  obtain rfl : xn = i := hx
  have heq := eq_nil_nil
  have hd1 : decide ((i : Int) < 0) = false := decide_eq_false (by omega)
  have hd2 : decide ((L : Int) ≤ (i : Int)) = false := decide_eq_false (by omega)
  have hi1 : (0 : Int) ≤ (i : Int) := by omega
  have hi2 : (i : Int) < (L : Int) := by omega
  go_enter Tryd.func80, Tryd.ntmps80
  go_wp2
  go_quiet ((go_at_call 50; exact quiet_l (made_yes p n _ h0 (by go_simp))))
  go_wp2
  go_quiet (fail)
  go_wp2
  go_quiet (fail)
  go_wp2
  go_ret
  exact ⟨rfl, below_drewN (below_drewN (below_drewN ((Below.refl _ _).alloc (Nat.le_refl _) _) _) _) _⟩

theorem kind_pair (a : Addr) (w : World) : Calls Tryd.prog 108 #[.pointer (some a)] w fun e w' => e = .returned (.int .i64 2) ∧ w = w' := by
  go_enter Tryd.func108, Tryd.ntmps108
  go_wp2
  go_ret
  exact ⟨rfl, rfl⟩
theorem mkind_pair (a : Addr) (w : World) : (method 271 108 (.pointer (some a)) "copyist/heap.kind").run Tryd.prog w = .ok (108, .pointer (some a)) w := by kernel_rfl
theorem msize_pair (a : Addr) (w : World) : (method 271 108 (.pointer (some a)) "copyist/heap.size").run Tryd.prog w = .ok (109, .pointer (some a)) w := by kernel_rfl
theorem find_pair (p : Nat) (n L : Nat) (g C : Nat) (x : Wd) (b : Nat) (w : World) (h0 : 0 < n) (hc : w.cell? ⟨p, 0, none⟩ = some (.int .i64 n)) (hc3 : w.cell? ⟨p, 3, none⟩ = some (.slice (some ⟨g, 0, none⟩) L C)) (i : Nat) (hx : x.2 = i) (hx2 : i < L)
    (hv : w.cell? ⟨g, i, none⟩ = some (.iface 108 (.pointer (some ⟨b, 0, none⟩)))) (hk : x.1 = 2) :
    Calls Tryd.prog 80 #[.pointer (some ⟨p, 0, none⟩), wdV x] w fun e w' => e = .returned (.iface 108 (.pointer (some ⟨b, 0, none⟩))) ∧ Below w.heap.size w w' := by
  obtain ⟨xk, xn⟩ := x
  unfold wdV
  have hlt : p < w.heap.size := World.block_lt_of_cell? _ _ hc
  have hlt2 : g < w.heap.size := World.block_lt_of_cell? _ _ hv
  obtain rfl : xn = i := hx
  obtain rfl : xk = 2 := hk
  have heq := eq_nil_iface 108 (.pointer (some ⟨b, 0, none⟩))
  have hm := mkind_pair ⟨b, 0, none⟩
  have hd1 : decide ((i : Int) < 0) = false := decide_eq_false (by omega)
  have hd2 : decide ((L : Int) ≤ (i : Int)) = false := decide_eq_false (by omega)
  have hi1 : (0 : Int) ≤ (i : Int) := by omega
  have hi2 : (i : Int) < (L : Int) := by omega
  go_enter Tryd.func80, Tryd.ntmps80
  go_wp2
  go_quiet ((go_at_call 50; exact quiet_l (made_yes p n _ h0 (by go_simp))))
  go_wp2
  go_quiet (fail)
  go_wp2
  go_quiet ((go_at_call 108; first | exact quiet_l (kind_pair _ _) | exact quiet_l2 (kind_pair _ _)))
  go_wp2
  go_ret
  exact ⟨rfl, below_drewN (below_drewN (below_drewN ((Below.refl _ _).alloc (Nat.le_refl _) _) _) _) _⟩
theorem find_not_pair (p : Nat) (n L : Nat) (g C : Nat) (x : Wd) (b : Nat) (w : World) (h0 : 0 < n) (hc : w.cell? ⟨p, 0, none⟩ = some (.int .i64 n)) (hc3 : w.cell? ⟨p, 3, none⟩ = some (.slice (some ⟨g, 0, none⟩) L C)) (i : Nat) (hx : x.2 = i) (hx2 : i < L)
    (hv : w.cell? ⟨g, i, none⟩ = some (.iface 108 (.pointer (some ⟨b, 0, none⟩)))) (hk : x.1 ≠ 2) :
    Calls Tryd.prog 80 #[.pointer (some ⟨p, 0, none⟩), wdV x] w fun e w' => e = .returned .nilIface ∧ Below w.heap.size w w' := by
  obtain ⟨xk, xn⟩ := x
  unfold wdV
  have hlt : p < w.heap.size := World.block_lt_of_cell? _ _ hc
  have hlt2 : g < w.heap.size := World.block_lt_of_cell? _ _ hv
  obtain rfl : xn = i := hx
  have hb : (((2 : Int)) != xk) = true := bne_iff_ne.2 (fun e => hk e.symm)
  clear hk
  have heq := eq_nil_iface 108 (.pointer (some ⟨b, 0, none⟩))
  have hm := mkind_pair ⟨b, 0, none⟩
  have hd1 : decide ((i : Int) < 0) = false := decide_eq_false (by omega)
  have hd2 : decide ((L : Int) ≤ (i : Int)) = false := decide_eq_false (by omega)
  have hi1 : (0 : Int) ≤ (i : Int) := by omega
  have hi2 : (i : Int) < (L : Int) := by omega
  go_enter Tryd.func80, Tryd.ntmps80
  go_wp2
  go_quiet ((go_at_call 50; exact quiet_l (made_yes p n _ h0 (by go_simp))))
  go_wp2
  go_quiet (fail)
  go_wp2
  go_quiet ((go_at_call 108; first | exact quiet_l (kind_pair _ _) | exact quiet_l2 (kind_pair _ _)))
  go_wp2
  go_ret
  exact ⟨rfl, below_drewN (below_drewN (below_drewN ((Below.refl _ _).alloc (Nat.le_refl _) _) _) _) _⟩

end Go.Proofs.YtdbmflnkdoeaoaaDoor
