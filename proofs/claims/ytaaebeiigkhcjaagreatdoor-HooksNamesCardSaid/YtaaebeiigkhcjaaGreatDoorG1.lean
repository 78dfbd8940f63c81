/-
  Contracts of package heap that look up a word: cons, vec, isNil, Car, Cdr, SetCar, SetCdr, TextOf. Conditions: what find gives is known.
  Contracts of package heap: isNil, Car, Cdr, SetCar, SetCdr, TextOf over what find gives. Conditions: what find gives is known.
-/
import Derived.Test.YtaaebeiigkhcjaaGreatDoorFind
namespace Go.Proofs.YtaaebeiigkhcjaaGreatDoor
open Go.RowKit
set_option maxRecDepth 100000

def Finds (w : World) (p : Nat) (x : Wd) (V : Value) : Prop :=
  ∀ w', Below w.heap.size w w' → Calls Tryz.prog 114 #[.pointer (some ⟨p, 0, none⟩), .agg #[.int .i64 x.1, .int .i64 x.2]] w' fun e w'' => e = .returned V ∧ Below w'.heap.size w' w''
theorem Finds.later {w w' : World} {p : Nat} {x : Wd} {V : Value} (h : Finds w p x V) (hb : Below w.heap.size w w') : Finds w' p x V :=
  fun w2 h2 => h w2 (hb.trans (h2.mono hb.size))
def NotA (T : TypeId) (V : Value) : Prop := V = .nilIface ∨ ∃ T' a, V = .iface T' (.pointer (some a)) ∧ T' ≠ T

theorem assert_pair_yes (a : Addr) (w : World) : (Instr.typeAssert (.iface 93 (.pointer (some a))) 135 93 true).run Tryz.prog w = .ok (.tuple #[.pointer (some a), .bool true]) w := rfl
theorem assert_pair_no {V : Value} (h : NotA 93 V) (w : World) : (Instr.typeAssert V 135 93 true).run Tryz.prog w = .ok (.tuple #[.pointer none, .bool false]) w := by
  rcases h with rfl | ⟨T', a, rfl, hne⟩
  · rfl
  · have hz : (zeroValue 93).run Tryz.prog w = .ok (.pointer none) w := by kernel_rfl
    simp [Instr.typeAssert, run_underlying Tryz.underlying93, hne, hz]
theorem cons_yes (p n b : Nat) (x : Wd) (w : World) (h0 : 0 < n) (hc : w.cell? ⟨p, 0, none⟩ = some (.int .i64 n)) (hF : Finds w p x (.iface 93 (.pointer (some ⟨b, 0, none⟩)))) :
    Calls Tryz.prog 101 #[.pointer (some ⟨p, 0, none⟩), .agg #[.int .i64 x.1, .int .i64 x.2]] w fun e w' => e = .returned (.tuple #[.pointer (some ⟨b, 0, none⟩), .int .i64 0]) ∧ Below w.heap.size w w' := by
  obtain ⟨xk, xn⟩ := x
  have HF := Lib.hid hF
  clear hF
  have hlt : p < w.heap.size := World.block_lt_of_cell? _ _ hc
  have hta := assert_pair_yes ⟨b, 0, none⟩
  go_enter Tryz.func101, Tryz.ntmps101
  go_wp2_with (go_at_call 59; refine (made_yes p n _ h0 ?_).mono ?_; (go_simp); rintro e w' ⟨rfl, rfl⟩)
  refine (HF.out _ ((Below.refl _ _).alloc (Nat.le_refl _) _)).mono ?_
  rintro e w1 ⟨rfl, hb1⟩
  go_wp2
  go_ret2
  exact ⟨rfl, ((Below.refl _ _).alloc (Nat.le_refl _) _).trans (hb1.mono (by simp))⟩
theorem cons_no (p n : Nat) (x : Wd) (V : Value) (w : World) (h0 : 0 < n) (hc : w.cell? ⟨p, 0, none⟩ = some (.int .i64 n)) (hF : Finds w p x V) (hV : NotA 93 V) :
    Calls Tryz.prog 101 #[.pointer (some ⟨p, 0, none⟩), .agg #[.int .i64 x.1, .int .i64 x.2]] w fun e w' => e = .returned (.tuple #[.pointer none, .int .i64 6]) ∧ Below w.heap.size w w' := by
  obtain ⟨xk, xn⟩ := x
  have HF := Lib.hid hF
  clear hF
  have hlt : p < w.heap.size := World.block_lt_of_cell? _ _ hc
  have hta := assert_pair_no hV
  clear hV
  go_enter Tryz.func101, Tryz.ntmps101
  go_wp2_with (go_at_call 59; refine (made_yes p n _ h0 ?_).mono ?_; (go_simp); rintro e w' ⟨rfl, rfl⟩)
  refine (HF.out _ ((Below.refl _ _).alloc (Nat.le_refl _) _)).mono ?_
  rintro e w1 ⟨rfl, hb1⟩
  go_wp2
  go_ret2
  exact ⟨rfl, ((Below.refl _ _).alloc (Nat.le_refl _) _).trans (hb1.mono (by simp))⟩
theorem assert_vector_no {V : Value} (h : NotA 188 V) (w : World) : (Instr.typeAssert V 135 188 true).run Tryz.prog w = .ok (.tuple #[.pointer none, .bool false]) w := by
  rcases h with rfl | ⟨T', a, rfl, hne⟩
  · rfl
  · have hz : (zeroValue 188).run Tryz.prog w = .ok (.pointer none) w := by kernel_rfl
    simp [Instr.typeAssert, run_underlying Tryz.underlying188, hne, hz]
theorem vec_no (p n : Nat) (x : Wd) (V : Value) (w : World) (h0 : 0 < n) (hc : w.cell? ⟨p, 0, none⟩ = some (.int .i64 n)) (hF : Finds w p x V) (hV : NotA 188 V) :
    Calls Tryz.prog 130 #[.pointer (some ⟨p, 0, none⟩), .agg #[.int .i64 x.1, .int .i64 x.2]] w fun e w' => e = .returned (.tuple #[.pointer none, .int .i64 6]) ∧ Below w.heap.size w w' := by
  obtain ⟨xk, xn⟩ := x
  have HF := Lib.hid hF
  clear hF
  have hlt : p < w.heap.size := World.block_lt_of_cell? _ _ hc
  have hta := assert_vector_no hV
  clear hV
  go_enter Tryz.func130, Tryz.ntmps130
  go_wp2_with (go_at_call 59; refine (made_yes p n _ h0 ?_).mono ?_; (go_simp); rintro e w' ⟨rfl, rfl⟩)
  refine (HF.out _ ((Below.refl _ _).alloc (Nat.le_refl _) _)).mono ?_
  rintro e w1 ⟨rfl, hb1⟩
  go_wp2
  go_ret2
  exact ⟨rfl, ((Below.refl _ _).alloc (Nat.le_refl _) _).trans (hb1.mono (by simp))⟩
end Go.Proofs.YtaaebeiigkhcjaaGreatDoor
namespace Go.Proofs.YtaaebeiigkhcjaaGreatDoor
open Go.RowKit
set_option maxRecDepth 100000
theorem isNil_yes (w : World) : Calls Tryz.prog 102 #[.agg #[.int .i64 1, .int .i64 0]] w fun e w' => e = .returned (.bool true) ∧ Below w.heap.size w w' := by
  go_enter Tryz.func102, Tryz.ntmps102
  go_wp2
  go_ret
  exact ⟨rfl, (Below.refl _ _).alloc (Nat.le_refl _) _⟩
theorem isNil_no (x : Wd) (w : World) (hx : x ≠ (1, 0)) : Calls Tryz.prog 102 #[.agg #[.int .i64 x.1, .int .i64 x.2]] w fun e w' => e = .returned (.bool false) ∧ Below w.heap.size w w' := by
  obtain ⟨xk, xn⟩ := x
  by_cases h1 : xk = 1
  · have h2 : (xn == 0) = false := beq_eq_false_iff_ne.2 (fun e => hx (by rw [h1, e]))
    have h3 : (xk == 1) = true := by simp [h1]
    clear hx h1
    go_enter Tryz.func102, Tryz.ntmps102
    go_wp2
    go_ret
    exact ⟨rfl, (Below.refl _ _).alloc (Nat.le_refl _) _⟩
  · have h2 : (xk == 1) = false := beq_eq_false_iff_ne.2 h1
    clear hx h1
    go_enter Tryz.func102, Tryz.ntmps102
    go_wp2
    go_ret
    exact ⟨rfl, (Below.refl _ _).alloc (Nat.le_refl _) _⟩
theorem car_yes (p n b : Nat) (x a d : Wd) (w : World) (h0 : 0 < n) (hc : w.cell? ⟨p, 0, none⟩ = some (.int .i64 n)) (hF : Finds w p x (.iface 93 (.pointer (some ⟨b, 0, none⟩))))
    (hb : Blk w b 95 #[.int .i64 a.1, .int .i64 a.2, .int .i64 d.1, .int .i64 d.2]) :
    Calls Tryz.prog 81 #[.pointer (some ⟨p, 0, none⟩), .agg #[.int .i64 x.1, .int .i64 x.2]] w fun e w' => e = .returned (.tuple #[.agg #[.int .i64 a.1, .int .i64 a.2], .int .i64 0]) ∧ Below w.heap.size w w' := by
  have hbl := hb.lt
  have hlt : p < w.heap.size := World.block_lt_of_cell? _ _ hc
  obtain ⟨xk, xn⟩ := x
  obtain ⟨ak, an⟩ := a
  obtain ⟨dk, dn⟩ := d
  have HF := Lib.hid hF
  have HB := Lib.hid hb
  clear hF hb
  go_enter Tryz.func81, Tryz.ntmps81
  go_wp2_with fail
  refine (cons_yes p n b (xk, xn) _ h0 ?_ (HF.out.later (((Below.refl _ _).alloc (Nat.le_refl _) _).alloc (by simp) _))).mono ?_
  · go_simp
  rintro e w1 ⟨rfl, hb1⟩
  have B1 : Below w.heap.size w w1 := (((Below.refl _ _).alloc (Nat.le_refl _) _).alloc (by simp) _).trans (hb1.mono (by simp; omega))
  have R : Blk w1 (w.heap.size + 1) 27 #[.int .i64 0, .int .i64 0] := by simpa using (Blk.new (w.alloc (.cells #[.int .i64 xk, .int .i64 xn] 27)) 27 #[.int .i64 0, .int .i64 0]).below hb1
  have r0 : w1.cell? ⟨w.heap.size + 1, 0, none⟩ = some (.int .i64 0) := R.cell 0
  have r1 : w1.cell? ⟨w.heap.size + 1, 1, none⟩ = some (.int .i64 0) := R.cell 1
  have f0 := R.frozen 0
  have f1 := R.frozen 1
  have X : Blk w1 w.heap.size 27 #[.int .i64 xk, .int .i64 xn] := ((Blk.new w 27 #[.int .i64 xk, .int .i64 xn]).alloc _).below hb1
  have x0 : w1.cell? ⟨w.heap.size, 0, none⟩ = some (.int .i64 xk) := X.cell 0
  have x1 : w1.cell? ⟨w.heap.size, 1, none⟩ = some (.int .i64 xn) := X.cell 1
  have hz := hb1.size
  simp at hz
  have d0 : w1.cell? ⟨b, 0, none⟩ = some (.int .i64 ak) := (HB.out.below B1).cell 0
  have d1 : w1.cell? ⟨b, 1, none⟩ = some (.int .i64 an) := (HB.out.below B1).cell 1
  clear R X hb1
  go_wp2
  exact bodyPost_ret (v := .tuple #[.agg #[.int .i64 ak, .int .i64 an], .int .i64 0]) (by simp [results, Tryz.results81, go_sem, r0, r1]) rfl ⟨rfl, (B1.setCell (by simp) _).setCell (by simp) _⟩
theorem car_nil (p n : Nat) (V : Value) (w : World) (h0 : 0 < n) (hc : w.cell? ⟨p, 0, none⟩ = some (.int .i64 n)) (hF : Finds w p (1, 0) V) (hV : NotA 93 V) :
    Calls Tryz.prog 81 #[.pointer (some ⟨p, 0, none⟩), .agg #[.int .i64 1, .int .i64 0]] w fun e w' => e = .returned (.tuple #[.agg #[.int .i64 1, .int .i64 0], .int .i64 0]) ∧ Below w.heap.size w w' := by
  have hlt : p < w.heap.size := World.block_lt_of_cell? _ _ hc
  have HF := Lib.hid hF
  have HV := Lib.hid hV
  clear hF hV
  go_enter Tryz.func81, Tryz.ntmps81
  go_wp2_with fail
  refine (cons_no p n (1, 0) V _ h0 ?_ (HF.out.later (((Below.refl _ _).alloc (Nat.le_refl _) _).alloc (by simp) _)) HV.out).mono ?_
  · go_simp
  rintro e w1 ⟨rfl, hb1⟩
  have B1 : Below w.heap.size w w1 := (((Below.refl _ _).alloc (Nat.le_refl _) _).alloc (by simp) _).trans (hb1.mono (by simp; omega))
  have R : Blk w1 (w.heap.size + 1) 27 #[.int .i64 0, .int .i64 0] := by simpa using (Blk.new (w.alloc (.cells #[.int .i64 1, .int .i64 0] 27)) 27 #[.int .i64 0, .int .i64 0]).below hb1
  have r0 : w1.cell? ⟨w.heap.size + 1, 0, none⟩ = some (.int .i64 0) := R.cell 0
  have r1 : w1.cell? ⟨w.heap.size + 1, 1, none⟩ = some (.int .i64 0) := R.cell 1
  have f0 := R.frozen 0
  have f1 := R.frozen 1
  have X : Blk w1 w.heap.size 27 #[.int .i64 1, .int .i64 0] := ((Blk.new w 27 #[.int .i64 1, .int .i64 0]).alloc _).below hb1
  have x0 : w1.cell? ⟨w.heap.size, 0, none⟩ = some (.int .i64 1) := X.cell 0
  have x1 : w1.cell? ⟨w.heap.size, 1, none⟩ = some (.int .i64 0) := X.cell 1
  have hz := hb1.size
  simp at hz
  clear R X hb1
  go_wp2_with fail
  refine (isNil_yes w1).mono ?_
  rintro e w2 ⟨rfl, hb2⟩
  have B2 : Below w.heap.size w w2 := B1.trans (hb2.mono B1.size)
  have s0 := cell_later hb2 r0
  have s1 := cell_later hb2 r1
  have t0 := cell_later hb2 x0
  have t1 := cell_later hb2 x1
  have g0 : w2.frozen? ⟨w.heap.size + 1, 0, none⟩ = false := frozen_later hb2 r0 f0
  have g1 : w2.frozen? ⟨w.heap.size + 1, 1, none⟩ = false := frozen_later hb2 r1 f1
  have hz2 := hb2.size
  clear hb2 r0 r1 x0 x1 f0 f1
  go_wp2
  exact bodyPost_ret (v := .tuple #[.agg #[.int .i64 1, .int .i64 0], .int .i64 0]) (by simp [results, Tryz.results81, go_sem, s0, s1]) rfl ⟨rfl, (B2.setCell (by simp) _).setCell (by simp) _⟩
theorem car_no (p n : Nat) (x : Wd) (V : Value) (w : World) (h0 : 0 < n) (hc : w.cell? ⟨p, 0, none⟩ = some (.int .i64 n)) (hF : Finds w p x V) (hV : NotA 93 V) (hx : x ≠ (1, 0)) :
    Calls Tryz.prog 81 #[.pointer (some ⟨p, 0, none⟩), .agg #[.int .i64 x.1, .int .i64 x.2]] w fun e w' => e = .returned (.tuple #[.agg #[.int .i64 0, .int .i64 0], .int .i64 6]) ∧ Below w.heap.size w w' := by
  have hlt : p < w.heap.size := World.block_lt_of_cell? _ _ hc
  have C := Lib.hid (fun w' => isNil_no x w' hx)
  obtain ⟨xk, xn⟩ := x
  have HF := Lib.hid hF
  have HV := Lib.hid hV
  clear hF hV hx
  go_enter Tryz.func81, Tryz.ntmps81
  go_wp2_with fail
  refine (cons_no p n (xk, xn) V _ h0 ?_ (HF.out.later (((Below.refl _ _).alloc (Nat.le_refl _) _).alloc (by simp) _)) HV.out).mono ?_
  · go_simp
  rintro e w1 ⟨rfl, hb1⟩
  have B1 : Below w.heap.size w w1 := (((Below.refl _ _).alloc (Nat.le_refl _) _).alloc (by simp) _).trans (hb1.mono (by simp; omega))
  have R : Blk w1 (w.heap.size + 1) 27 #[.int .i64 0, .int .i64 0] := by simpa using (Blk.new (w.alloc (.cells #[.int .i64 xk, .int .i64 xn] 27)) 27 #[.int .i64 0, .int .i64 0]).below hb1
  have r0 : w1.cell? ⟨w.heap.size + 1, 0, none⟩ = some (.int .i64 0) := R.cell 0
  have r1 : w1.cell? ⟨w.heap.size + 1, 1, none⟩ = some (.int .i64 0) := R.cell 1
  have f0 := R.frozen 0
  have f1 := R.frozen 1
  have X : Blk w1 w.heap.size 27 #[.int .i64 xk, .int .i64 xn] := ((Blk.new w 27 #[.int .i64 xk, .int .i64 xn]).alloc _).below hb1
  have x0 : w1.cell? ⟨w.heap.size, 0, none⟩ = some (.int .i64 xk) := X.cell 0
  have x1 : w1.cell? ⟨w.heap.size, 1, none⟩ = some (.int .i64 xn) := X.cell 1
  have hz := hb1.size
  simp at hz
  clear R X hb1
  go_wp2_with fail
  refine (C.out w1).mono ?_
  rintro e w2 ⟨rfl, hb2⟩
  have B2 : Below w.heap.size w w2 := B1.trans (hb2.mono B1.size)
  have s0 := cell_later hb2 r0
  have s1 := cell_later hb2 r1
  have g0 : w2.frozen? ⟨w.heap.size + 1, 0, none⟩ = false := frozen_later hb2 r0 f0
  have g1 : w2.frozen? ⟨w.heap.size + 1, 1, none⟩ = false := frozen_later hb2 r1 f1
  have hz2 := hb2.size
  clear hb2 r0 r1 x0 x1 f0 f1
  go_wp2
  exact bodyPost_ret (v := .tuple #[.agg #[.int .i64 0, .int .i64 0], .int .i64 6]) (by simp [results, Tryz.results81, go_sem, s0, s1]) rfl ⟨rfl, (B2.setCell (by simp) _).setCell (by simp) _⟩
theorem cdr_yes (p n b : Nat) (x a d : Wd) (w : World) (h0 : 0 < n) (hc : w.cell? ⟨p, 0, none⟩ = some (.int .i64 n)) (hF : Finds w p x (.iface 93 (.pointer (some ⟨b, 0, none⟩))))
    (hb : Blk w b 95 #[.int .i64 a.1, .int .i64 a.2, .int .i64 d.1, .int .i64 d.2]) :
    Calls Tryz.prog 82 #[.pointer (some ⟨p, 0, none⟩), .agg #[.int .i64 x.1, .int .i64 x.2]] w fun e w' => e = .returned (.tuple #[.agg #[.int .i64 d.1, .int .i64 d.2], .int .i64 0]) ∧ Below w.heap.size w w' := by
  have hbl := hb.lt
  have hlt : p < w.heap.size := World.block_lt_of_cell? _ _ hc
  obtain ⟨xk, xn⟩ := x
  obtain ⟨ak, an⟩ := a
  obtain ⟨dk, dn⟩ := d
  have HF := Lib.hid hF
  have HB := Lib.hid hb
  clear hF hb
  go_enter Tryz.func82, Tryz.ntmps82
  go_wp2_with fail
  refine (cons_yes p n b (xk, xn) _ h0 ?_ (HF.out.later (((Below.refl _ _).alloc (Nat.le_refl _) _).alloc (by simp) _))).mono ?_
  · go_simp
  rintro e w1 ⟨rfl, hb1⟩
  have B1 : Below w.heap.size w w1 := (((Below.refl _ _).alloc (Nat.le_refl _) _).alloc (by simp) _).trans (hb1.mono (by simp; omega))
  have R : Blk w1 (w.heap.size + 1) 27 #[.int .i64 0, .int .i64 0] := by simpa using (Blk.new (w.alloc (.cells #[.int .i64 xk, .int .i64 xn] 27)) 27 #[.int .i64 0, .int .i64 0]).below hb1
  have r0 : w1.cell? ⟨w.heap.size + 1, 0, none⟩ = some (.int .i64 0) := R.cell 0
  have r1 : w1.cell? ⟨w.heap.size + 1, 1, none⟩ = some (.int .i64 0) := R.cell 1
  have f0 := R.frozen 0
  have f1 := R.frozen 1
  have X : Blk w1 w.heap.size 27 #[.int .i64 xk, .int .i64 xn] := ((Blk.new w 27 #[.int .i64 xk, .int .i64 xn]).alloc _).below hb1
  have x0 : w1.cell? ⟨w.heap.size, 0, none⟩ = some (.int .i64 xk) := X.cell 0
  have x1 : w1.cell? ⟨w.heap.size, 1, none⟩ = some (.int .i64 xn) := X.cell 1
  have hz := hb1.size
  simp at hz
  have d0 : w1.cell? ⟨b, 2, none⟩ = some (.int .i64 dk) := (HB.out.below B1).cell 2
  have d1 : w1.cell? ⟨b, 3, none⟩ = some (.int .i64 dn) := (HB.out.below B1).cell 3
  clear R X hb1
  go_wp2
  exact bodyPost_ret (v := .tuple #[.agg #[.int .i64 dk, .int .i64 dn], .int .i64 0]) (by simp [results, Tryz.results82, go_sem, r0, r1]) rfl ⟨rfl, (B1.setCell (by simp) _).setCell (by simp) _⟩
theorem cdr_nil (p n : Nat) (V : Value) (w : World) (h0 : 0 < n) (hc : w.cell? ⟨p, 0, none⟩ = some (.int .i64 n)) (hF : Finds w p (1, 0) V) (hV : NotA 93 V) :
    Calls Tryz.prog 82 #[.pointer (some ⟨p, 0, none⟩), .agg #[.int .i64 1, .int .i64 0]] w fun e w' => e = .returned (.tuple #[.agg #[.int .i64 1, .int .i64 0], .int .i64 0]) ∧ Below w.heap.size w w' := by
  have hlt : p < w.heap.size := World.block_lt_of_cell? _ _ hc
  have HF := Lib.hid hF
  have HV := Lib.hid hV
  clear hF hV
  go_enter Tryz.func82, Tryz.ntmps82
  go_wp2_with fail
  refine (cons_no p n (1, 0) V _ h0 ?_ (HF.out.later (((Below.refl _ _).alloc (Nat.le_refl _) _).alloc (by simp) _)) HV.out).mono ?_
  · go_simp
  rintro e w1 ⟨rfl, hb1⟩
  have B1 : Below w.heap.size w w1 := (((Below.refl _ _).alloc (Nat.le_refl _) _).alloc (by simp) _).trans (hb1.mono (by simp; omega))
  have R : Blk w1 (w.heap.size + 1) 27 #[.int .i64 0, .int .i64 0] := by simpa using (Blk.new (w.alloc (.cells #[.int .i64 1, .int .i64 0] 27)) 27 #[.int .i64 0, .int .i64 0]).below hb1
  have r0 : w1.cell? ⟨w.heap.size + 1, 0, none⟩ = some (.int .i64 0) := R.cell 0
  have r1 : w1.cell? ⟨w.heap.size + 1, 1, none⟩ = some (.int .i64 0) := R.cell 1
  have f0 := R.frozen 0
  have f1 := R.frozen 1
  have X : Blk w1 w.heap.size 27 #[.int .i64 1, .int .i64 0] := ((Blk.new w 27 #[.int .i64 1, .int .i64 0]).alloc _).below hb1
  have x0 : w1.cell? ⟨w.heap.size, 0, none⟩ = some (.int .i64 1) := X.cell 0
  have x1 : w1.cell? ⟨w.heap.size, 1, none⟩ = some (.int .i64 0) := X.cell 1
  have hz := hb1.size
  simp at hz
  clear R X hb1
  go_wp2_with fail
  refine (isNil_yes w1).mono ?_
  rintro e w2 ⟨rfl, hb2⟩
  have B2 : Below w.heap.size w w2 := B1.trans (hb2.mono B1.size)
  have s0 := cell_later hb2 r0
  have s1 := cell_later hb2 r1
  have t0 := cell_later hb2 x0
  have t1 := cell_later hb2 x1
  have g0 : w2.frozen? ⟨w.heap.size + 1, 0, none⟩ = false := frozen_later hb2 r0 f0
  have g1 : w2.frozen? ⟨w.heap.size + 1, 1, none⟩ = false := frozen_later hb2 r1 f1
  have hz2 := hb2.size
  clear hb2 r0 r1 x0 x1 f0 f1
  go_wp2
  exact bodyPost_ret (v := .tuple #[.agg #[.int .i64 1, .int .i64 0], .int .i64 0]) (by simp [results, Tryz.results82, go_sem, s0, s1]) rfl ⟨rfl, (B2.setCell (by simp) _).setCell (by simp) _⟩
theorem cdr_no (p n : Nat) (x : Wd) (V : Value) (w : World) (h0 : 0 < n) (hc : w.cell? ⟨p, 0, none⟩ = some (.int .i64 n)) (hF : Finds w p x V) (hV : NotA 93 V) (hx : x ≠ (1, 0)) :
    Calls Tryz.prog 82 #[.pointer (some ⟨p, 0, none⟩), .agg #[.int .i64 x.1, .int .i64 x.2]] w fun e w' => e = .returned (.tuple #[.agg #[.int .i64 0, .int .i64 0], .int .i64 6]) ∧ Below w.heap.size w w' := by
  have hlt : p < w.heap.size := World.block_lt_of_cell? _ _ hc
  have C := Lib.hid (fun w' => isNil_no x w' hx)
  obtain ⟨xk, xn⟩ := x
  have HF := Lib.hid hF
  have HV := Lib.hid hV
  clear hF hV hx
  go_enter Tryz.func82, Tryz.ntmps82
  go_wp2_with fail
  refine (cons_no p n (xk, xn) V _ h0 ?_ (HF.out.later (((Below.refl _ _).alloc (Nat.le_refl _) _).alloc (by simp) _)) HV.out).mono ?_
  · go_simp
  rintro e w1 ⟨rfl, hb1⟩
  have B1 : Below w.heap.size w w1 := (((Below.refl _ _).alloc (Nat.le_refl _) _).alloc (by simp) _).trans (hb1.mono (by simp; omega))
  have R : Blk w1 (w.heap.size + 1) 27 #[.int .i64 0, .int .i64 0] := by simpa using (Blk.new (w.alloc (.cells #[.int .i64 xk, .int .i64 xn] 27)) 27 #[.int .i64 0, .int .i64 0]).below hb1
  have r0 : w1.cell? ⟨w.heap.size + 1, 0, none⟩ = some (.int .i64 0) := R.cell 0
  have r1 : w1.cell? ⟨w.heap.size + 1, 1, none⟩ = some (.int .i64 0) := R.cell 1
  have f0 := R.frozen 0
  have f1 := R.frozen 1
  have X : Blk w1 w.heap.size 27 #[.int .i64 xk, .int .i64 xn] := ((Blk.new w 27 #[.int .i64 xk, .int .i64 xn]).alloc _).below hb1
  have x0 : w1.cell? ⟨w.heap.size, 0, none⟩ = some (.int .i64 xk) := X.cell 0
  have x1 : w1.cell? ⟨w.heap.size, 1, none⟩ = some (.int .i64 xn) := X.cell 1
  have hz := hb1.size
  simp at hz
  clear R X hb1
  go_wp2_with fail
  refine (C.out w1).mono ?_
  rintro e w2 ⟨rfl, hb2⟩
  have B2 : Below w.heap.size w w2 := B1.trans (hb2.mono B1.size)
  have s0 := cell_later hb2 r0
  have s1 := cell_later hb2 r1
  have g0 : w2.frozen? ⟨w.heap.size + 1, 0, none⟩ = false := frozen_later hb2 r0 f0
  have g1 : w2.frozen? ⟨w.heap.size + 1, 1, none⟩ = false := frozen_later hb2 r1 f1
  have hz2 := hb2.size
  clear hb2 r0 r1 x0 x1 f0 f1
  go_wp2
  exact bodyPost_ret (v := .tuple #[.agg #[.int .i64 0, .int .i64 0], .int .i64 6]) (by simp [results, Tryz.results82, go_sem, s0, s1]) rfl ⟨rfl, (B2.setCell (by simp) _).setCell (by simp) _⟩
theorem assert_text_yes (a : Addr) (w : World) : (Instr.typeAssert (.iface 184 (.pointer (some a))) 135 184 true).run Tryz.prog w = .ok (.tuple #[.pointer (some a), .bool true]) w := rfl
theorem assert_text_no {V : Value} (h : NotA 184 V) (w : World) : (Instr.typeAssert V 135 184 true).run Tryz.prog w = .ok (.tuple #[.pointer none, .bool false]) w := by
  rcases h with rfl | ⟨T', a, rfl, hne⟩
  · rfl
  · have hz : (zeroValue 184).run Tryz.prog w = .ok (.pointer none) w := by kernel_rfl
    simp [Instr.typeAssert, run_underlying Tryz.underlying184, hne, hz]
theorem textOf_yes (p n b : Nat) (x : Wd) (s : ByteArray) (w : World) (h0 : 0 < n) (hc : w.cell? ⟨p, 0, none⟩ = some (.int .i64 n)) (hF : Finds w p x (.iface 184 (.pointer (some ⟨b, 0, none⟩)))) (hb : Blk w b 187 #[.string s]) :
    Calls Tryz.prog 126 #[.pointer (some ⟨p, 0, none⟩), .agg #[.int .i64 x.1, .int .i64 x.2]] w fun e w' => e = .returned (.tuple #[.string s, .int .i64 0]) ∧ Below w.heap.size w w' := by
  have hbl := hb.lt
  have hlt : p < w.heap.size := World.block_lt_of_cell? _ _ hc
  obtain ⟨xk, xn⟩ := x
  have HF := Lib.hid hF
  have HB := Lib.hid hb
  clear hF hb
  have hta := assert_text_yes ⟨b, 0, none⟩
  go_enter Tryz.func126, Tryz.ntmps126
  go_wp2_with (go_at_call 59; refine (made_yes p n _ h0 ?_).mono ?_; (go_simp); rintro e w' ⟨rfl, rfl⟩)
  refine (HF.out _ ((Below.refl _ _).alloc (Nat.le_refl _) _)).mono ?_
  rintro e w1 ⟨rfl, hb1⟩
  have B1 : Below w.heap.size w w1 := ((Below.refl _ _).alloc (Nat.le_refl _) _).trans (hb1.mono (by simp))
  have d0 : w1.cell? ⟨b, 0, none⟩ = some (.string s) := (HB.out.below B1).cell 0
  clear hb1
  go_wp2
  go_ret2
  exact ⟨rfl, B1⟩
theorem textOf_no (p n : Nat) (x : Wd) (V : Value) (w : World) (h0 : 0 < n) (hc : w.cell? ⟨p, 0, none⟩ = some (.int .i64 n)) (hF : Finds w p x V) (hV : NotA 184 V) :
    Calls Tryz.prog 126 #[.pointer (some ⟨p, 0, none⟩), .agg #[.int .i64 x.1, .int .i64 x.2]] w fun e w' => e = .returned (.tuple #[.string ⟨#[]⟩, .int .i64 6]) ∧ Below w.heap.size w w' := by
  have hlt : p < w.heap.size := World.block_lt_of_cell? _ _ hc
  obtain ⟨xk, xn⟩ := x
  have HF := Lib.hid hF
  clear hF
  have hta := assert_text_no hV
  clear hV
  go_enter Tryz.func126, Tryz.ntmps126
  go_wp2_with (go_at_call 59; refine (made_yes p n _ h0 ?_).mono ?_; (go_simp); rintro e w' ⟨rfl, rfl⟩)
  refine (HF.out _ ((Below.refl _ _).alloc (Nat.le_refl _) _)).mono ?_
  rintro e w1 ⟨rfl, hb1⟩
  have B1 : Below w.heap.size w w1 := ((Below.refl _ _).alloc (Nat.le_refl _) _).trans (hb1.mono (by simp))
  clear hb1
  go_wp2
  go_ret2
  exact ⟨rfl, B1⟩
end Go.Proofs.YtaaebeiigkhcjaaGreatDoor
