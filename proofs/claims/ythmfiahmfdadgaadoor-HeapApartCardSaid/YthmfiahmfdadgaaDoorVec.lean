/-
  Contracts of package heap: VecOf, At, SetAt over what find gives. Conditions: what find gives is known.
-/
import Derived.Test.YthmfiahmfdadgaaDoorGets
import Derived.Test.YthmfiahmfdadgaaDoorClone
import Derived.Test.YthmfiahmfdadgaaDoorLen
namespace Go.Proofs.YthmfiahmfdadgaaDoor
open Go.RowKit
set_option maxRecDepth 100000

theorem vecOf_yes (p n b k c : Nat) (A : Option Addr) (x : Wd) (l : List Wd) (w : World) (h0 : 0 < n) (hc : w.cell? ⟨p, 0, none⟩ = some (.int .i64 n)) (hF : Finds w p x (.iface 69 (.pointer (some ⟨b, 0, none⟩)))) (hb : Blk w b 71 #[.slice A k c]) (hk : k ≤ 2000000) (hr : Reads w w.heap.size 2 A k (wdC l)) :
    Calls Tryd.prog 16 #[.pointer (some ⟨p, 0, none⟩), .agg #[.int .i64 x.1, .int .i64 x.2]] w fun e w' => ∃ v, e = .returned (.tuple #[v, .int .i64 0]) ∧ w'.ownsRow w.heap.size 24 2 v k (wdC l) ∧ Below w.heap.size w w' := by
  have hbl := hb.lt
  have hlt : p < w.heap.size := World.block_lt_of_cell? _ _ hc
  obtain ⟨xk, xn⟩ := x
  have HF := Lib.hid hF
  have HB := Lib.hid hb
  have HR := Lib.hid hr
  clear hF hb hr
  go_enter Tryd.func16, Tryd.ntmps16
  go_wp2_with fail
  refine (vec_yes p n b (xk, xn) _ h0 ?_ (HF.out.later ((Below.refl _ _).alloc (Nat.le_refl _) _))).mono ?_
  · go_simp
  rintro e w1 ⟨rfl, hb1⟩
  have B1 : Below w.heap.size w w1 := ((Below.refl _ _).alloc (Nat.le_refl _) _).trans (hb1.mono (by simp))
  have d0 : w1.cell? ⟨b, 0, none⟩ = some (.slice A k c) := (HB.out.below B1).cell 0
  have hz := B1.size
  clear hb1
  go_wp2_with fail
  refine (clone_words A k c l w1 hk ((HR.out.below B1).more hz)).mono ?_
  rintro e w2 ⟨v, rfl, hown, hb2⟩
  have B2 : Below w.heap.size w w2 := B1.trans (hb2.mono B1.size)
  have HO := Lib.hid (owns_mono hown hz)
  clear hown hb2
  go_wp2
  go_ret2
  exact ⟨v, rfl, HO.out, B2⟩
theorem vecOf_no (p n : Nat) (x : Wd) (V : Value) (w : World) (h0 : 0 < n) (hc : w.cell? ⟨p, 0, none⟩ = some (.int .i64 n)) (hF : Finds w p x V) (hV : NotA 69 V) :
    Calls Tryd.prog 16 #[.pointer (some ⟨p, 0, none⟩), .agg #[.int .i64 x.1, .int .i64 x.2]] w fun e w' => e = .returned (.tuple #[.slice none 0 0, .int .i64 6]) ∧ Below w.heap.size w w' := by
  have hlt : p < w.heap.size := World.block_lt_of_cell? _ _ hc
  obtain ⟨xk, xn⟩ := x
  have HF := Lib.hid hF
  have HV := Lib.hid hV
  clear hF hV
  go_enter Tryd.func16, Tryd.ntmps16
  go_wp2_with fail
  refine (vec_no p n (xk, xn) V _ h0 ?_ (HF.out.later ((Below.refl _ _).alloc (Nat.le_refl _) _)) HV.out).mono ?_
  · go_simp
  rintro e w1 ⟨rfl, hb1⟩
  have B1 : Below w.heap.size w w1 := ((Below.refl _ _).alloc (Nat.le_refl _) _).trans (hb1.mono (by simp))
  clear hb1
  go_wp2
  go_ret2
  exact ⟨rfl, B1⟩
set_option maxHeartbeats 1000000 in
theorem setAt_no (p n : Nat) (i : Int) (x : Wd) (V : Value) (y : Wd) (w : World) (h0 : 0 < n) (hc : w.cell? ⟨p, 0, none⟩ = some (.int .i64 n)) (hF : Finds w p x V) (hV : NotA 69 V) :
    Calls Tryd.prog 14 #[.pointer (some ⟨p, 0, none⟩), .agg #[.int .i64 x.1, .int .i64 x.2], .int .i64 i, .agg #[.int .i64 y.1, .int .i64 y.2]] w fun e w' => e = .returned (.int .i64 6) ∧ Below w.heap.size w w' := by
  have hlt : p < w.heap.size := World.block_lt_of_cell? _ _ hc
  obtain ⟨xk, xn⟩ := x
  obtain ⟨yk, yn⟩ := y
  have HF := Lib.hid hF
  clear hF
  have HV := Lib.hid hV
  clear hV
  go_enter Tryd.func14, Tryd.ntmps14
  go_wp2_with fail
  refine (vec_no p n (xk, xn) V _ h0 ?_ (HF.out.later (((Below.refl _ _).alloc (Nat.le_refl _) _).alloc (by simp) _)) HV.out).mono ?_
  · go_simp
  rintro e w1 ⟨rfl, hb1⟩
  have B1 : Below w.heap.size w w1 := (((Below.refl _ _).alloc (Nat.le_refl _) _).alloc (by simp) _).trans (hb1.mono (by simp; omega))
  clear hb1
  go_wp2
  go_ret
  exact ⟨rfl, B1⟩
set_option maxHeartbeats 1000000 in
theorem setAt_neg (p n b k c : Nat) (A : Option Addr) (i : Int) (x : Wd) (y : Wd) (w : World) (h0 : 0 < n) (hc : w.cell? ⟨p, 0, none⟩ = some (.int .i64 n)) (hF : Finds w p x (.iface 69 (.pointer (some ⟨b, 0, none⟩)))) (hb : Blk w b 71 #[.slice A k c]) (hi : i < 0) :
    Calls Tryd.prog 14 #[.pointer (some ⟨p, 0, none⟩), .agg #[.int .i64 x.1, .int .i64 x.2], .int .i64 i, .agg #[.int .i64 y.1, .int .i64 y.2]] w fun e w' => e = .returned (.int .i64 3) ∧ Below w.heap.size w w' := by
  have hlt : p < w.heap.size := World.block_lt_of_cell? _ _ hc
  obtain ⟨xk, xn⟩ := x
  obtain ⟨yk, yn⟩ := y
  have HF := Lib.hid hF
  clear hF
  clear hb
  go_enter Tryd.func14, Tryd.ntmps14
  go_wp2_with fail
  refine (vec_yes p n b (xk, xn) _ h0 ?_ (HF.out.later (((Below.refl _ _).alloc (Nat.le_refl _) _).alloc (by simp) _))).mono ?_
  · go_simp
  rintro e w1 ⟨rfl, hb1⟩
  have B1 : Below w.heap.size w w1 := (((Below.refl _ _).alloc (Nat.le_refl _) _).alloc (by simp) _).trans (hb1.mono (by simp; omega))
  clear hb1
  go_wp2
  go_ret
  exact ⟨rfl, B1⟩
set_option maxHeartbeats 1000000 in
theorem setAt_far (p n b k c : Nat) (A : Option Addr) (i : Int) (x : Wd) (y : Wd) (w : World) (h0 : 0 < n) (hc : w.cell? ⟨p, 0, none⟩ = some (.int .i64 n)) (hF : Finds w p x (.iface 69 (.pointer (some ⟨b, 0, none⟩)))) (hb : Blk w b 71 #[.slice A k c]) (hi : 0 ≤ i) (hi2 : (k : Int) ≤ i) :
    Calls Tryd.prog 14 #[.pointer (some ⟨p, 0, none⟩), .agg #[.int .i64 x.1, .int .i64 x.2], .int .i64 i, .agg #[.int .i64 y.1, .int .i64 y.2]] w fun e w' => e = .returned (.int .i64 3) ∧ Below w.heap.size w w' := by
  have hlt : p < w.heap.size := World.block_lt_of_cell? _ _ hc
  obtain ⟨xk, xn⟩ := x
  obtain ⟨yk, yn⟩ := y
  have HF := Lib.hid hF
  clear hF
  have d1 : decide (i < 0) = false := decide_eq_false (by omega)
  have hbl := hb.lt
  have HB := Lib.hid hb
  clear hb
  go_enter Tryd.func14, Tryd.ntmps14
  go_wp2_with fail
  refine (vec_yes p n b (xk, xn) _ h0 ?_ (HF.out.later (((Below.refl _ _).alloc (Nat.le_refl _) _).alloc (by simp) _))).mono ?_
  · go_simp
  rintro e w1 ⟨rfl, hb1⟩
  have B1 : Below w.heap.size w w1 := (((Below.refl _ _).alloc (Nat.le_refl _) _).alloc (by simp) _).trans (hb1.mono (by simp; omega))
  have d0 : w1.cell? ⟨b, 0, none⟩ = some (.slice A k c) := (HB.out.below B1).cell 0
  clear hb1
  go_wp2
  go_ret
  exact ⟨rfl, B1⟩
set_option maxHeartbeats 1000000 in
theorem setAt_yes (p n b k c g : Nat) (j : Nat) (i : Int) (x : Wd) (cur : Array Value) (y : Wd) (w : World) (h0 : 0 < n) (hc : w.cell? ⟨p, 0, none⟩ = some (.int .i64 n)) (hF : Finds w p x (.iface 69 (.pointer (some ⟨b, 0, none⟩)))) (hb : Blk w b 71 #[.slice (some ⟨g, 0, none⟩) k c]) (hi : i = j) (hj : j < k) (hkc : k ≤ c) (hk : k ≤ 2000000) (hg : Blk w g 24 cur) (hcur : cur.size = c * 2) :
    Calls Tryd.prog 14 #[.pointer (some ⟨p, 0, none⟩), .agg #[.int .i64 x.1, .int .i64 x.2], .int .i64 i, .agg #[.int .i64 y.1, .int .i64 y.2]] w fun e w' => e = .returned (.int .i64 0) ∧ w.grownBy w' (some g) ∧ Blk w' g 24 ((cur.setIfInBounds (j * 2) (.int .i64 y.1)).setIfInBounds (j * 2 + 1) (.int .i64 y.2)) := by
  have hlt : p < w.heap.size := World.block_lt_of_cell? _ _ hc
  obtain ⟨xk, xn⟩ := x
  obtain ⟨yk, yn⟩ := y
  have HF := Lib.hid hF
  clear hF
  obtain rfl : i = j := hi
  have d1 : decide ((j : Int) < 0) = false := decide_eq_false (by omega)
  have d2 : decide ((k : Int) ≤ (j : Int)) = false := decide_eq_false (by omega)
  have i1 : (0 : Int) ≤ (j : Int) := by omega
  have i2 : (j : Int) < (k : Int) := by omega
  have hbl := hb.lt
  have hgl := hg.lt
  have HB := Lib.hid hb
  have HG := Lib.hid hg
  have HC := Lib.hid hcur
  clear hb hg hcur
  go_enter Tryd.func14, Tryd.ntmps14
  go_wp2_with fail
  refine (vec_yes p n b (xk, xn) _ h0 ?_ (HF.out.later (((Below.refl _ _).alloc (Nat.le_refl _) _).alloc (by simp) _))).mono ?_
  · go_simp
  rintro e w1 ⟨rfl, hb1⟩
  have B1 : Below w.heap.size w w1 := (((Below.refl _ _).alloc (Nat.le_refl _) _).alloc (by simp) _).trans (hb1.mono (by simp; omega))
  have d0 : w1.cell? ⟨b, 0, none⟩ = some (.slice (some ⟨g, 0, none⟩) k c) := (HB.out.below B1).cell 0
  have R : Blk w1 (w.heap.size + 1) 24 #[.int .i64 yk, .int .i64 yn] := by simpa using (Blk.new (w.alloc (.cells #[.int .i64 xk, .int .i64 xn] 24)) 24 #[.int .i64 yk, .int .i64 yn]).below hb1
  have r0 : w1.cell? ⟨w.heap.size + 1, 0, none⟩ = some (.int .i64 yk) := R.cell 0
  have r1 : w1.cell? ⟨w.heap.size + 1, 1, none⟩ = some (.int .i64 yn) := R.cell 1
  have G := HG.out.below B1
  obtain ⟨u0, g0⟩ : ∃ u, w1.cell? ⟨g, j * 2, none⟩ = some u := ⟨_, (G.cell _).trans (Array.getElem?_eq_getElem (by rw [HC.out]; omega))⟩
  obtain ⟨u1, g1⟩ : ∃ u, w1.cell? ⟨g, j * 2 + 1, none⟩ = some u := ⟨_, (G.cell _).trans (Array.getElem?_eq_getElem (by rw [HC.out]; omega))⟩
  have z0 := G.frozen (j * 2)
  have z1 := G.frozen (j * 2 + 1)
  have HG1 := Lib.hid G
  clear hb1 R G
  go_wp2
  go_region
  all_goals
    go_wp2
    go_ret
    refine ⟨rfl, ⟨B1.os, B1.tape, B1.output, by simpa [World.setCell] using B1.size, fun q hq hne => ?_⟩, ?_⟩
    · have hne' : q ≠ g := fun e => hne (by rw [e])
      show ((w1.setCell ⟨g, j * 2, none⟩ (.int .i64 yk)).setCell ⟨g, j * 2 + 1, none⟩ (.int .i64 yn)).heap[q]? = _
      rw [Below.heap_setCell _ _ _ _ hne', Below.heap_setCell _ _ _ _ hne']
      exact B1.block q hq
    · exact (HG1.out.set (j * 2) _).set (j * 2 + 1) _
set_option maxHeartbeats 1000000 in
theorem at_no (p n : Nat) (i : Int) (x : Wd) (V : Value) (w : World) (h0 : 0 < n) (hc : w.cell? ⟨p, 0, none⟩ = some (.int .i64 n)) (hF : Finds w p x V) (hV : NotA 69 V) :
    Calls Tryd.prog 35 #[.pointer (some ⟨p, 0, none⟩), .agg #[.int .i64 x.1, .int .i64 x.2], .int .i64 i] w fun e w' => e = .returned (.tuple #[.agg #[.int .i64 0, .int .i64 0], .int .i64 6]) ∧ Below w.heap.size w w' := by
  have hlt : p < w.heap.size := World.block_lt_of_cell? _ _ hc
  obtain ⟨xk, xn⟩ := x
  have HF := Lib.hid hF
  clear hF
  have HV := Lib.hid hV
  clear hV
  go_enter Tryd.func35, Tryd.ntmps35
  go_wp2_with fail
  refine (vec_no p n (xk, xn) V _ h0 ?_ (HF.out.later (((Below.refl _ _).alloc (Nat.le_refl _) _).alloc (by simp) _)) HV.out).mono ?_
  · go_simp
  rintro e w1 ⟨rfl, hb1⟩
  have B1 : Below w.heap.size w w1 := (((Below.refl _ _).alloc (Nat.le_refl _) _).alloc (by simp) _).trans (hb1.mono (by simp; omega))
  have R : Blk w1 (w.heap.size + 1) 24 #[.int .i64 0, .int .i64 0] := by simpa using (Blk.new (w.alloc (.cells #[.int .i64 xk, .int .i64 xn] 24)) 24 #[.int .i64 0, .int .i64 0]).below hb1
  have r0 : w1.cell? ⟨w.heap.size + 1, 0, none⟩ = some (.int .i64 0) := R.cell 0
  have r1 : w1.cell? ⟨w.heap.size + 1, 1, none⟩ = some (.int .i64 0) := R.cell 1
  have f0 := R.frozen 0
  have f1 := R.frozen 1
  clear hb1 R
  go_wp2
  exact bodyPost_ret (v := (.tuple #[.agg #[.int .i64 0, .int .i64 0], .int .i64 6])) (by simp [results, Tryd.results35, go_sem, r0, r1]) rfl ⟨rfl, (B1.setCell (by simp) _).setCell (by simp) _⟩
set_option maxHeartbeats 1000000 in
theorem at_neg (p n b k c : Nat) (A : Option Addr) (i : Int) (x : Wd) (w : World) (h0 : 0 < n) (hc : w.cell? ⟨p, 0, none⟩ = some (.int .i64 n)) (hF : Finds w p x (.iface 69 (.pointer (some ⟨b, 0, none⟩)))) (hb : Blk w b 71 #[.slice A k c]) (hi : i < 0) :
    Calls Tryd.prog 35 #[.pointer (some ⟨p, 0, none⟩), .agg #[.int .i64 x.1, .int .i64 x.2], .int .i64 i] w fun e w' => e = .returned (.tuple #[.agg #[.int .i64 0, .int .i64 0], .int .i64 3]) ∧ Below w.heap.size w w' := by
  have hlt : p < w.heap.size := World.block_lt_of_cell? _ _ hc
  obtain ⟨xk, xn⟩ := x
  have HF := Lib.hid hF
  clear hF
  clear hb
  go_enter Tryd.func35, Tryd.ntmps35
  go_wp2_with fail
  refine (vec_yes p n b (xk, xn) _ h0 ?_ (HF.out.later (((Below.refl _ _).alloc (Nat.le_refl _) _).alloc (by simp) _))).mono ?_
  · go_simp
  rintro e w1 ⟨rfl, hb1⟩
  have B1 : Below w.heap.size w w1 := (((Below.refl _ _).alloc (Nat.le_refl _) _).alloc (by simp) _).trans (hb1.mono (by simp; omega))
  have R : Blk w1 (w.heap.size + 1) 24 #[.int .i64 0, .int .i64 0] := by simpa using (Blk.new (w.alloc (.cells #[.int .i64 xk, .int .i64 xn] 24)) 24 #[.int .i64 0, .int .i64 0]).below hb1
  have r0 : w1.cell? ⟨w.heap.size + 1, 0, none⟩ = some (.int .i64 0) := R.cell 0
  have r1 : w1.cell? ⟨w.heap.size + 1, 1, none⟩ = some (.int .i64 0) := R.cell 1
  have f0 := R.frozen 0
  have f1 := R.frozen 1
  clear hb1 R
  go_wp2
  exact bodyPost_ret (v := (.tuple #[.agg #[.int .i64 0, .int .i64 0], .int .i64 3])) (by simp [results, Tryd.results35, go_sem, r0, r1]) rfl ⟨rfl, (B1.setCell (by simp) _).setCell (by simp) _⟩
set_option maxHeartbeats 1000000 in
theorem at_far (p n b k c : Nat) (A : Option Addr) (i : Int) (x : Wd) (w : World) (h0 : 0 < n) (hc : w.cell? ⟨p, 0, none⟩ = some (.int .i64 n)) (hF : Finds w p x (.iface 69 (.pointer (some ⟨b, 0, none⟩)))) (hb : Blk w b 71 #[.slice A k c]) (hi : 0 ≤ i) (hi2 : (k : Int) ≤ i) :
    Calls Tryd.prog 35 #[.pointer (some ⟨p, 0, none⟩), .agg #[.int .i64 x.1, .int .i64 x.2], .int .i64 i] w fun e w' => e = .returned (.tuple #[.agg #[.int .i64 0, .int .i64 0], .int .i64 3]) ∧ Below w.heap.size w w' := by
  have hlt : p < w.heap.size := World.block_lt_of_cell? _ _ hc
  obtain ⟨xk, xn⟩ := x
  have HF := Lib.hid hF
  clear hF
  have d1 : decide (i < 0) = false := decide_eq_false (by omega)
  have hbl := hb.lt
  have HB := Lib.hid hb
  clear hb
  go_enter Tryd.func35, Tryd.ntmps35
  go_wp2_with fail
  refine (vec_yes p n b (xk, xn) _ h0 ?_ (HF.out.later (((Below.refl _ _).alloc (Nat.le_refl _) _).alloc (by simp) _))).mono ?_
  · go_simp
  rintro e w1 ⟨rfl, hb1⟩
  have B1 : Below w.heap.size w w1 := (((Below.refl _ _).alloc (Nat.le_refl _) _).alloc (by simp) _).trans (hb1.mono (by simp; omega))
  have d0 : w1.cell? ⟨b, 0, none⟩ = some (.slice A k c) := (HB.out.below B1).cell 0
  have R : Blk w1 (w.heap.size + 1) 24 #[.int .i64 0, .int .i64 0] := by simpa using (Blk.new (w.alloc (.cells #[.int .i64 xk, .int .i64 xn] 24)) 24 #[.int .i64 0, .int .i64 0]).below hb1
  have r0 : w1.cell? ⟨w.heap.size + 1, 0, none⟩ = some (.int .i64 0) := R.cell 0
  have r1 : w1.cell? ⟨w.heap.size + 1, 1, none⟩ = some (.int .i64 0) := R.cell 1
  have f0 := R.frozen 0
  have f1 := R.frozen 1
  clear hb1 R
  go_wp2
  exact bodyPost_ret (v := (.tuple #[.agg #[.int .i64 0, .int .i64 0], .int .i64 3])) (by simp [results, Tryd.results35, go_sem, r0, r1]) rfl ⟨rfl, (B1.setCell (by simp) _).setCell (by simp) _⟩
set_option maxHeartbeats 1000000 in
theorem at_yes (p n b k c g : Nat) (j : Nat) (i : Int) (x : Wd) (y1 y2 : Int) (w : World) (h0 : 0 < n) (hc : w.cell? ⟨p, 0, none⟩ = some (.int .i64 n)) (hF : Finds w p x (.iface 69 (.pointer (some ⟨b, 0, none⟩)))) (hb : Blk w b 71 #[.slice (some ⟨g, 0, none⟩) k c]) (hi : i = j) (hj : j < k) (hk : k ≤ 2000000) (hg0 : w.cell? ⟨g, j * 2, none⟩ = some (.int .i64 y1)) (hg1 : w.cell? ⟨g, j * 2 + 1, none⟩ = some (.int .i64 y2)) :
    Calls Tryd.prog 35 #[.pointer (some ⟨p, 0, none⟩), .agg #[.int .i64 x.1, .int .i64 x.2], .int .i64 i] w fun e w' => e = .returned (.tuple #[.agg #[.int .i64 y1, .int .i64 y2], .int .i64 0]) ∧ Below w.heap.size w w' := by
  have hlt : p < w.heap.size := World.block_lt_of_cell? _ _ hc
  obtain ⟨xk, xn⟩ := x
  have HF := Lib.hid hF
  clear hF
  obtain rfl : i = j := hi
  have d1 : decide ((j : Int) < 0) = false := decide_eq_false (by omega)
  have d2 : decide ((k : Int) ≤ (j : Int)) = false := decide_eq_false (by omega)
  have i1 : (0 : Int) ≤ (j : Int) := by omega
  have i2 : (j : Int) < (k : Int) := by omega
  have hbl := hb.lt
  have HB := Lib.hid hb
  clear hb
  go_enter Tryd.func35, Tryd.ntmps35
  go_wp2_with fail
  refine (vec_yes p n b (xk, xn) _ h0 ?_ (HF.out.later (((Below.refl _ _).alloc (Nat.le_refl _) _).alloc (by simp) _))).mono ?_
  · go_simp
  rintro e w1 ⟨rfl, hb1⟩
  have B1 : Below w.heap.size w w1 := (((Below.refl _ _).alloc (Nat.le_refl _) _).alloc (by simp) _).trans (hb1.mono (by simp; omega))
  have d0 : w1.cell? ⟨b, 0, none⟩ = some (.slice (some ⟨g, 0, none⟩) k c) := (HB.out.below B1).cell 0
  have g0 := cell_later B1 hg0
  have g1 := cell_later B1 hg1
  clear hg0 hg1
  have R : Blk w1 (w.heap.size + 1) 24 #[.int .i64 0, .int .i64 0] := by simpa using (Blk.new (w.alloc (.cells #[.int .i64 xk, .int .i64 xn] 24)) 24 #[.int .i64 0, .int .i64 0]).below hb1
  have r0 : w1.cell? ⟨w.heap.size + 1, 0, none⟩ = some (.int .i64 0) := R.cell 0
  have r1 : w1.cell? ⟨w.heap.size + 1, 1, none⟩ = some (.int .i64 0) := R.cell 1
  have f0 := R.frozen 0
  have f1 := R.frozen 1
  clear hb1 R
  go_wp2
  exact bodyPost_ret (v := (.tuple #[.agg #[.int .i64 y1, .int .i64 y2], .int .i64 0])) (by simp [results, Tryd.results35, go_sem, r0, r1]) rfl ⟨rfl, (B1.setCell (by simp) _).setCell (by simp) _⟩
end Go.Proofs.YthmfiahmfdadgaaDoor
