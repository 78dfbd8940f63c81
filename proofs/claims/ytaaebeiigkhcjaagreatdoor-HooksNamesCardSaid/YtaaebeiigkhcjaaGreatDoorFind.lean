/-
  Contracts of package heap: made, find, cons, vec: what they give back for a heap in memory. Conditions: the heap lies as HeapIn says.
-/
import Derived.Test.YtaaebeiigkhcjaaGreatDoorHeapIs
import Derived.Test.YtaaebeiigkhcjaaGreatDoorChecked
import Derived.Deep.RegionHeld3
namespace Go.Proofs.YtaaebeiigkhcjaaGreatDoor
open Go.RowKit
set_option maxRecDepth 100000

theorem made_yes (p : Nat) (n : Nat) (w : World) (h0 : 0 < n) (hc : w.cell? ⟨p, 0, none⟩ = some (.int .i64 n)) :
    Calls Tryz.prog 59 #[.pointer (some ⟨p, 0, none⟩)] w fun e w' => e = .returned (.bool true) ∧ w = w' := by
  go_enter Tryz.func59, Tryz.ntmps59
  go_wp2
  go_ret
  exact ⟨rfl, rfl⟩
theorem find_neg (p : Nat) (n : Nat) (x : Wd) (w : World) (h0 : 0 < n) (hc : w.cell? ⟨p, 0, none⟩ = some (.int .i64 n)) (hx : x.2 < 0) :
    Calls Tryz.prog 114 #[.pointer (some ⟨p, 0, none⟩), wdV x] w fun e w' => e = .returned .nilIface ∧ Below w.heap.size w w' := by
  obtain ⟨xk, xn⟩ := x
  unfold wdV
  have hlt : p < w.heap.size := World.block_lt_of_cell? _ _ hc
  go_enter Tryz.func114, Tryz.ntmps114
  go_wp2
  go_quiet ((go_at_call 59; exact quiet_l (made_yes p n _ h0 (by go_simp))))
  go_wp2
  go_ret
  exact ⟨rfl, below_drewN ((Below.refl _ _).alloc (Nat.le_refl _) _) _⟩
theorem find_far (p : Nat) (n L : Nat) (A : Option Addr) (C : Nat) (x : Wd) (w : World) (h0 : 0 < n) (hc : w.cell? ⟨p, 0, none⟩ = some (.int .i64 n)) (hc3 : w.cell? ⟨p, 3, none⟩ = some (.slice A L C)) (hx : 0 ≤ x.2) (hx2 : (L : Int) ≤ x.2) :
    Calls Tryz.prog 114 #[.pointer (some ⟨p, 0, none⟩), wdV x] w fun e w' => e = .returned .nilIface ∧ Below w.heap.size w w' := by
  obtain ⟨xk, xn⟩ := x
  unfold wdV
  have hlt : p < w.heap.size := World.block_lt_of_cell? _ _ hc
  have hd1 : decide (xn < 0) = false := decide_eq_false (by simpa using hx)
  go_enter Tryz.func114, Tryz.ntmps114
  go_wp2
  go_quiet ((go_at_call 59; exact quiet_l (made_yes p n _ h0 (by go_simp))))
  go_wp2
  go_ret
  exact ⟨rfl, below_drewN ((Below.refl _ _).alloc (Nat.le_refl _) _) _⟩
theorem eq_nil_iface (T : TypeId) (v : Value) (w : World) : (binOp .eql 135 (.iface T v) .nilIface).run Tryz.prog w = .ok (.bool false) w := rfl
theorem eq_nil_nil (w : World) : (binOp .eql 135 .nilIface .nilIface).run Tryz.prog w = .ok (.bool true) w := rfl

theorem find_free (p : Nat) (n L : Nat) (g C : Nat) (x : Wd) (w : World) (h0 : 0 < n) (hc : w.cell? ⟨p, 0, none⟩ = some (.int .i64 n)) (hc3 : w.cell? ⟨p, 3, none⟩ = some (.slice (some ⟨g, 0, none⟩) L C)) (i : Nat) (hx : x.2 = i) (hx2 : i < L)
    (hv : w.cell? ⟨g, i, none⟩ = some .nilIface) :
    Calls Tryz.prog 114 #[.pointer (some ⟨p, 0, none⟩), wdV x] w fun e w' => e = .returned .nilIface ∧ Below w.heap.size w w' := by
  obtain ⟨xk, xn⟩ := x
  unfold wdV
  have hlt : p < w.heap.size := World.block_lt_of_cell? _ _ hc
  have hlt2 : g < w.heap.size := World.block_lt_of_cell? _ _ hv
  obtain rfl : xn = i := hx
  have heq := eq_nil_nil
  have hd1 : decide ((i : Int) < 0) = false := decide_eq_false (by omega)
  have hd2 : decide ((L : Int) ≤ (i : Int)) = false := decide_eq_false (by omega)
  have hi1 : (0 : Int) ≤ (i : Int) := by omega
  have hi2 : (i : Int) < (L : Int) := by omega
  go_enter Tryz.func114, Tryz.ntmps114
  go_wp2
  go_quiet ((go_at_call 59; exact quiet_l (made_yes p n _ h0 (by go_simp))))
  go_wp2
  go_quiet (fail)
  go_wp2
  go_quiet (fail)
  go_wp2
  go_ret
  exact ⟨rfl, below_drewN (below_drewN (below_drewN ((Below.refl _ _).alloc (Nat.le_refl _) _) _) _) _⟩

theorem kind_pair (a : Addr) (w : World) : Calls Tryz.prog 151 #[.pointer (some a)] w fun e w' => e = .returned (.int .i64 2) ∧ w = w' := by
  go_enter Tryz.func151, Tryz.ntmps151
  go_wp2
  go_ret
  exact ⟨rfl, rfl⟩
theorem mkind_pair (a : Addr) (w : World) : (method 320 93 (.pointer (some a)) "copyist/heap.kind").run Tryz.prog w = .ok (151, .pointer (some a)) w := by kernel_rfl
theorem msize_pair (a : Addr) (w : World) : (method 320 93 (.pointer (some a)) "copyist/heap.size").run Tryz.prog w = .ok (152, .pointer (some a)) w := by kernel_rfl
theorem find_pair (p : Nat) (n L : Nat) (g C : Nat) (x : Wd) (b : Nat) (w : World) (h0 : 0 < n) (hc : w.cell? ⟨p, 0, none⟩ = some (.int .i64 n)) (hc3 : w.cell? ⟨p, 3, none⟩ = some (.slice (some ⟨g, 0, none⟩) L C)) (i : Nat) (hx : x.2 = i) (hx2 : i < L)
    (hv : w.cell? ⟨g, i, none⟩ = some (.iface 93 (.pointer (some ⟨b, 0, none⟩)))) (hk : x.1 = 2) :
    Calls Tryz.prog 114 #[.pointer (some ⟨p, 0, none⟩), wdV x] w fun e w' => e = .returned (.iface 93 (.pointer (some ⟨b, 0, none⟩))) ∧ Below w.heap.size w w' := by
  obtain ⟨xk, xn⟩ := x
  unfold wdV
  have hlt : p < w.heap.size := World.block_lt_of_cell? _ _ hc
  have hlt2 : g < w.heap.size := World.block_lt_of_cell? _ _ hv
  obtain rfl : xn = i := hx
  obtain rfl : xk = 2 := hk
  have heq := eq_nil_iface 93 (.pointer (some ⟨b, 0, none⟩))
  have hm := mkind_pair ⟨b, 0, none⟩
  have hd1 : decide ((i : Int) < 0) = false := decide_eq_false (by omega)
  have hd2 : decide ((L : Int) ≤ (i : Int)) = false := decide_eq_false (by omega)
  have hi1 : (0 : Int) ≤ (i : Int) := by omega
  have hi2 : (i : Int) < (L : Int) := by omega
  go_enter Tryz.func114, Tryz.ntmps114
  go_wp2
  go_quiet ((go_at_call 59; exact quiet_l (made_yes p n _ h0 (by go_simp))))
  go_wp2
  go_quiet (fail)
  go_wp2
  go_quiet ((go_at_call 151; first | exact quiet_l (kind_pair _ _) | exact quiet_l2 (kind_pair _ _)))
  go_wp2
  go_ret
  exact ⟨rfl, below_drewN (below_drewN (below_drewN ((Below.refl _ _).alloc (Nat.le_refl _) _) _) _) _⟩
theorem find_not_pair (p : Nat) (n L : Nat) (g C : Nat) (x : Wd) (b : Nat) (w : World) (h0 : 0 < n) (hc : w.cell? ⟨p, 0, none⟩ = some (.int .i64 n)) (hc3 : w.cell? ⟨p, 3, none⟩ = some (.slice (some ⟨g, 0, none⟩) L C)) (i : Nat) (hx : x.2 = i) (hx2 : i < L)
    (hv : w.cell? ⟨g, i, none⟩ = some (.iface 93 (.pointer (some ⟨b, 0, none⟩)))) (hk : x.1 ≠ 2) :
    Calls Tryz.prog 114 #[.pointer (some ⟨p, 0, none⟩), wdV x] w fun e w' => e = .returned .nilIface ∧ Below w.heap.size w w' := by
  obtain ⟨xk, xn⟩ := x
  unfold wdV
  have hlt : p < w.heap.size := World.block_lt_of_cell? _ _ hc
  have hlt2 : g < w.heap.size := World.block_lt_of_cell? _ _ hv
  obtain rfl : xn = i := hx
  have hb : (((2 : Int)) != xk) = true := bne_iff_ne.2 (fun e => hk e.symm)
  clear hk
  have heq := eq_nil_iface 93 (.pointer (some ⟨b, 0, none⟩))
  have hm := mkind_pair ⟨b, 0, none⟩
  have hd1 : decide ((i : Int) < 0) = false := decide_eq_false (by omega)
  have hd2 : decide ((L : Int) ≤ (i : Int)) = false := decide_eq_false (by omega)
  have hi1 : (0 : Int) ≤ (i : Int) := by omega
  have hi2 : (i : Int) < (L : Int) := by omega
  go_enter Tryz.func114, Tryz.ntmps114
  go_wp2
  go_quiet ((go_at_call 59; exact quiet_l (made_yes p n _ h0 (by go_simp))))
  go_wp2
  go_quiet (fail)
  go_wp2
  go_quiet ((go_at_call 151; first | exact quiet_l (kind_pair _ _) | exact quiet_l2 (kind_pair _ _)))
  go_wp2
  go_ret
  exact ⟨rfl, below_drewN (below_drewN (below_drewN ((Below.refl _ _).alloc (Nat.le_refl _) _) _) _) _⟩

theorem kind_text (a : Addr) (w : World) : Calls Tryz.prog 158 #[.pointer (some a)] w fun e w' => e = .returned (.int .i64 3) ∧ w = w' := by
  go_enter Tryz.func158, Tryz.ntmps158
  go_wp2
  go_ret
  exact ⟨rfl, rfl⟩
theorem mkind_text (a : Addr) (w : World) : (method 320 184 (.pointer (some a)) "copyist/heap.kind").run Tryz.prog w = .ok (158, .pointer (some a)) w := by kernel_rfl
theorem find_text (p : Nat) (n L : Nat) (g C : Nat) (x : Wd) (b : Nat) (w : World) (h0 : 0 < n) (hc : w.cell? ⟨p, 0, none⟩ = some (.int .i64 n)) (hc3 : w.cell? ⟨p, 3, none⟩ = some (.slice (some ⟨g, 0, none⟩) L C)) (i : Nat) (hx : x.2 = i) (hx2 : i < L)
    (hv : w.cell? ⟨g, i, none⟩ = some (.iface 184 (.pointer (some ⟨b, 0, none⟩)))) (hk : x.1 = 3) :
    Calls Tryz.prog 114 #[.pointer (some ⟨p, 0, none⟩), wdV x] w fun e w' => e = .returned (.iface 184 (.pointer (some ⟨b, 0, none⟩))) ∧ Below w.heap.size w w' := by
  obtain ⟨xk, xn⟩ := x
  unfold wdV
  have hlt : p < w.heap.size := World.block_lt_of_cell? _ _ hc
  have hlt2 : g < w.heap.size := World.block_lt_of_cell? _ _ hv
  obtain rfl : xn = i := hx
  obtain rfl : xk = 3 := hk
  have heq := eq_nil_iface 184 (.pointer (some ⟨b, 0, none⟩))
  have hm := mkind_text ⟨b, 0, none⟩
  have hd1 : decide ((i : Int) < 0) = false := decide_eq_false (by omega)
  have hd2 : decide ((L : Int) ≤ (i : Int)) = false := decide_eq_false (by omega)
  have hi1 : (0 : Int) ≤ (i : Int) := by omega
  have hi2 : (i : Int) < (L : Int) := by omega
  go_enter Tryz.func114, Tryz.ntmps114
  go_wp2
  go_quiet ((go_at_call 59; exact quiet_l (made_yes p n _ h0 (by go_simp))))
  go_wp2
  go_quiet (fail)
  go_wp2
  go_quiet ((go_at_call 158; first | exact quiet_l (kind_text _ _) | exact quiet_l2 (kind_text _ _)))
  go_wp2
  go_ret
  exact ⟨rfl, below_drewN (below_drewN (below_drewN ((Below.refl _ _).alloc (Nat.le_refl _) _) _) _) _⟩
theorem find_not_text (p : Nat) (n L : Nat) (g C : Nat) (x : Wd) (b : Nat) (w : World) (h0 : 0 < n) (hc : w.cell? ⟨p, 0, none⟩ = some (.int .i64 n)) (hc3 : w.cell? ⟨p, 3, none⟩ = some (.slice (some ⟨g, 0, none⟩) L C)) (i : Nat) (hx : x.2 = i) (hx2 : i < L)
    (hv : w.cell? ⟨g, i, none⟩ = some (.iface 184 (.pointer (some ⟨b, 0, none⟩)))) (hk : x.1 ≠ 3) :
    Calls Tryz.prog 114 #[.pointer (some ⟨p, 0, none⟩), wdV x] w fun e w' => e = .returned .nilIface ∧ Below w.heap.size w w' := by
  obtain ⟨xk, xn⟩ := x
  unfold wdV
  have hlt : p < w.heap.size := World.block_lt_of_cell? _ _ hc
  have hlt2 : g < w.heap.size := World.block_lt_of_cell? _ _ hv
  obtain rfl : xn = i := hx
  have hb : (((3 : Int)) != xk) = true := bne_iff_ne.2 (fun e => hk e.symm)
  clear hk
  have heq := eq_nil_iface 184 (.pointer (some ⟨b, 0, none⟩))
  have hm := mkind_text ⟨b, 0, none⟩
  have hd1 : decide ((i : Int) < 0) = false := decide_eq_false (by omega)
  have hd2 : decide ((L : Int) ≤ (i : Int)) = false := decide_eq_false (by omega)
  have hi1 : (0 : Int) ≤ (i : Int) := by omega
  have hi2 : (i : Int) < (L : Int) := by omega
  go_enter Tryz.func114, Tryz.ntmps114
  go_wp2
  go_quiet ((go_at_call 59; exact quiet_l (made_yes p n _ h0 (by go_simp))))
  go_wp2
  go_quiet (fail)
  go_wp2
  go_quiet ((go_at_call 158; first | exact quiet_l (kind_text _ _) | exact quiet_l2 (kind_text _ _)))
  go_wp2
  go_ret
  exact ⟨rfl, below_drewN (below_drewN (below_drewN ((Below.refl _ _).alloc (Nat.le_refl _) _) _) _) _⟩

theorem kind_vector (a : Addr) (w : World) : Calls Tryz.prog 166 #[.pointer (some a)] w fun e w' => e = .returned (.int .i64 4) ∧ w = w' := by
  go_enter Tryz.func166, Tryz.ntmps166
  go_wp2
  go_ret
  exact ⟨rfl, rfl⟩
theorem mkind_vector (a : Addr) (w : World) : (method 320 188 (.pointer (some a)) "copyist/heap.kind").run Tryz.prog w = .ok (166, .pointer (some a)) w := by kernel_rfl
theorem find_vector (p : Nat) (n L : Nat) (g C : Nat) (x : Wd) (b : Nat) (w : World) (h0 : 0 < n) (hc : w.cell? ⟨p, 0, none⟩ = some (.int .i64 n)) (hc3 : w.cell? ⟨p, 3, none⟩ = some (.slice (some ⟨g, 0, none⟩) L C)) (i : Nat) (hx : x.2 = i) (hx2 : i < L)
    (hv : w.cell? ⟨g, i, none⟩ = some (.iface 188 (.pointer (some ⟨b, 0, none⟩)))) (hk : x.1 = 4) :
    Calls Tryz.prog 114 #[.pointer (some ⟨p, 0, none⟩), wdV x] w fun e w' => e = .returned (.iface 188 (.pointer (some ⟨b, 0, none⟩))) ∧ Below w.heap.size w w' := by
  obtain ⟨xk, xn⟩ := x
  unfold wdV
  have hlt : p < w.heap.size := World.block_lt_of_cell? _ _ hc
  have hlt2 : g < w.heap.size := World.block_lt_of_cell? _ _ hv
  obtain rfl : xn = i := hx
  obtain rfl : xk = 4 := hk
  have heq := eq_nil_iface 188 (.pointer (some ⟨b, 0, none⟩))
  have hm := mkind_vector ⟨b, 0, none⟩
  have hd1 : decide ((i : Int) < 0) = false := decide_eq_false (by omega)
  have hd2 : decide ((L : Int) ≤ (i : Int)) = false := decide_eq_false (by omega)
  have hi1 : (0 : Int) ≤ (i : Int) := by omega
  have hi2 : (i : Int) < (L : Int) := by omega
  go_enter Tryz.func114, Tryz.ntmps114
  go_wp2
  go_quiet ((go_at_call 59; exact quiet_l (made_yes p n _ h0 (by go_simp))))
  go_wp2
  go_quiet (fail)
  go_wp2
  go_quiet ((go_at_call 166; first | exact quiet_l (kind_vector _ _) | exact quiet_l2 (kind_vector _ _)))
  go_wp2
  go_ret
  exact ⟨rfl, below_drewN (below_drewN (below_drewN ((Below.refl _ _).alloc (Nat.le_refl _) _) _) _) _⟩
theorem find_not_vector (p : Nat) (n L : Nat) (g C : Nat) (x : Wd) (b : Nat) (w : World) (h0 : 0 < n) (hc : w.cell? ⟨p, 0, none⟩ = some (.int .i64 n)) (hc3 : w.cell? ⟨p, 3, none⟩ = some (.slice (some ⟨g, 0, none⟩) L C)) (i : Nat) (hx : x.2 = i) (hx2 : i < L)
    (hv : w.cell? ⟨g, i, none⟩ = some (.iface 188 (.pointer (some ⟨b, 0, none⟩)))) (hk : x.1 ≠ 4) :
    Calls Tryz.prog 114 #[.pointer (some ⟨p, 0, none⟩), wdV x] w fun e w' => e = .returned .nilIface ∧ Below w.heap.size w w' := by
  obtain ⟨xk, xn⟩ := x
  unfold wdV
  have hlt : p < w.heap.size := World.block_lt_of_cell? _ _ hc
  have hlt2 : g < w.heap.size := World.block_lt_of_cell? _ _ hv
  obtain rfl : xn = i := hx
  have hb : (((4 : Int)) != xk) = true := bne_iff_ne.2 (fun e => hk e.symm)
  clear hk
  have heq := eq_nil_iface 188 (.pointer (some ⟨b, 0, none⟩))
  have hm := mkind_vector ⟨b, 0, none⟩
  have hd1 : decide ((i : Int) < 0) = false := decide_eq_false (by omega)
  have hd2 : decide ((L : Int) ≤ (i : Int)) = false := decide_eq_false (by omega)
  have hi1 : (0 : Int) ≤ (i : Int) := by omega
  have hi2 : (i : Int) < (L : Int) := by omega
  go_enter Tryz.func114, Tryz.ntmps114
  go_wp2
  go_quiet ((go_at_call 59; exact quiet_l (made_yes p n _ h0 (by go_simp))))
  go_wp2
  go_quiet (fail)
  go_wp2
  go_quiet ((go_at_call 166; first | exact quiet_l (kind_vector _ _) | exact quiet_l2 (kind_vector _ _)))
  go_wp2
  go_ret
  exact ⟨rfl, below_drewN (below_drewN (below_drewN ((Below.refl _ _).alloc (Nat.le_refl _) _) _) _) _⟩

end Go.Proofs.YtaaebeiigkhcjaaGreatDoor
