/-
  Contracts of package heap that look up a word: cons, vec, isNil, Car, Cdr, SetCar, SetCdr, TextOf. Conditions: what find gives is known.
-/
import Derived.Test.YtaaebeiigkhcjaaDoorFind
namespace Go.Proofs.YtaaebeiigkhcjaaDoor
open Go.RowKit
set_option maxRecDepth 100000

/-- From w on find gives V for the word x. -/
def Finds (w : World) (p : Nat) (x : Wd) (V : Value) : Prop :=
  ∀ w', Below w.heap.size w w' → Calls Tryd.prog 71 #[.pointer (some ⟨p, 0, none⟩), .agg #[.int .i64 x.1, .int .i64 x.2]] w' fun e w'' => e = .returned V ∧ Below w'.heap.size w' w''
theorem Finds.later {w w' : World} {p : Nat} {x : Wd} {V : Value} (h : Finds w p x V) (hb : Below w.heap.size w w') : Finds w' p x V :=
  fun w2 h2 => h w2 (hb.trans (h2.mono hb.size))
/-- V is no pointer to a T. -/
def NotA (T : TypeId) (V : Value) : Prop := V = .nilIface ∨ ∃ T' a, V = .iface T' (.pointer (some a)) ∧ T' ≠ T

theorem assert_pair_yes (a : Addr) (w : World) : (Instr.typeAssert (.iface 92 (.pointer (some a))) 105 92 true).run Tryd.prog w = .ok (.tuple #[.pointer (some a), .bool true]) w := rfl
theorem assert_pair_no {V : Value} (h : NotA 92 V) (w : World) : (Instr.typeAssert V 105 92 true).run Tryd.prog w = .ok (.tuple #[.pointer none, .bool false]) w := by
  rcases h with rfl | ⟨T', a, rfl, hne⟩
  · rfl
  · have hz : (zeroValue 92).run Tryd.prog w = .ok (.pointer none) w := by kernel_rfl
    simp [Instr.typeAssert, run_underlying Tryd.underlying92, hne, hz]
theorem cons_yes (p n b : Nat) (x : Wd) (w : World) (h0 : 0 < n) (hc : w.cell? ⟨p, 0, none⟩ = some (.int .i64 n)) (hF : Finds w p x (.iface 92 (.pointer (some ⟨b, 0, none⟩)))) :
    Calls Tryd.prog 63 #[.pointer (some ⟨p, 0, none⟩), .agg #[.int .i64 x.1, .int .i64 x.2]] w fun e w' => e = .returned (.tuple #[.pointer (some ⟨b, 0, none⟩), .int .i64 0]) ∧ Below w.heap.size w w' := by
  obtain ⟨xk, xn⟩ := x
  have HF := Lib.hid hF
  clear hF
  have hlt : p < w.heap.size := World.block_lt_of_cell? _ _ hc
  have hta := assert_pair_yes ⟨b, 0, none⟩
  go_enter Tryd.func63, Tryd.ntmps63
  go_wp2_with (go_at_call 46; refine (made_yes p n _ h0 ?_).mono ?_; (go_simp); rintro e w' ⟨rfl, rfl⟩)
  refine (HF.out _ ((Below.refl _ _).alloc (Nat.le_refl _) _)).mono ?_
  rintro e w1 ⟨rfl, hb1⟩
  go_wp2
  go_ret2
  exact ⟨rfl, ((Below.refl _ _).alloc (Nat.le_refl _) _).trans (hb1.mono (by simp))⟩
theorem cons_no (p n : Nat) (x : Wd) (V : Value) (w : World) (h0 : 0 < n) (hc : w.cell? ⟨p, 0, none⟩ = some (.int .i64 n)) (hF : Finds w p x V) (hV : NotA 92 V) :
    Calls Tryd.prog 63 #[.pointer (some ⟨p, 0, none⟩), .agg #[.int .i64 x.1, .int .i64 x.2]] w fun e w' => e = .returned (.tuple #[.pointer none, .int .i64 6]) ∧ Below w.heap.size w w' := by
  obtain ⟨xk, xn⟩ := x
  have HF := Lib.hid hF
  clear hF
  have hlt : p < w.heap.size := World.block_lt_of_cell? _ _ hc
  have hta := assert_pair_no hV
  clear hV
  go_enter Tryd.func63, Tryd.ntmps63
  go_wp2_with (go_at_call 46; refine (made_yes p n _ h0 ?_).mono ?_; (go_simp); rintro e w' ⟨rfl, rfl⟩)
  refine (HF.out _ ((Below.refl _ _).alloc (Nat.le_refl _) _)).mono ?_
  rintro e w1 ⟨rfl, hb1⟩
  go_wp2
  go_ret2
  exact ⟨rfl, ((Below.refl _ _).alloc (Nat.le_refl _) _).trans (hb1.mono (by simp))⟩
theorem assert_vector_no {V : Value} (h : NotA 134 V) (w : World) : (Instr.typeAssert V 105 134 true).run Tryd.prog w = .ok (.tuple #[.pointer none, .bool false]) w := by
  rcases h with rfl | ⟨T', a, rfl, hne⟩
  · rfl
  · have hz : (zeroValue 134).run Tryd.prog w = .ok (.pointer none) w := by kernel_rfl
    simp [Instr.typeAssert, run_underlying Tryd.underlying134, hne, hz]
theorem vec_no (p n : Nat) (x : Wd) (V : Value) (w : World) (h0 : 0 < n) (hc : w.cell? ⟨p, 0, none⟩ = some (.int .i64 n)) (hF : Finds w p x V) (hV : NotA 134 V) :
    Calls Tryd.prog 78 #[.pointer (some ⟨p, 0, none⟩), .agg #[.int .i64 x.1, .int .i64 x.2]] w fun e w' => e = .returned (.tuple #[.pointer none, .int .i64 6]) ∧ Below w.heap.size w w' := by
  obtain ⟨xk, xn⟩ := x
  have HF := Lib.hid hF
  clear hF
  have hlt : p < w.heap.size := World.block_lt_of_cell? _ _ hc
  have hta := assert_vector_no hV
  clear hV
  go_enter Tryd.func78, Tryd.ntmps78
  go_wp2_with (go_at_call 46; refine (made_yes p n _ h0 ?_).mono ?_; (go_simp); rintro e w' ⟨rfl, rfl⟩)
  refine (HF.out _ ((Below.refl _ _).alloc (Nat.le_refl _) _)).mono ?_
  rintro e w1 ⟨rfl, hb1⟩
  go_wp2
  go_ret2
  exact ⟨rfl, ((Below.refl _ _).alloc (Nat.le_refl _) _).trans (hb1.mono (by simp))⟩
end Go.Proofs.YtaaebeiigkhcjaaDoor
