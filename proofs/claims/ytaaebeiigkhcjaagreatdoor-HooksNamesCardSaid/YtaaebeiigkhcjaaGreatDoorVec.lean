/-
  Contracts of package heap: VecOf, At, SetAt over what find gives. Conditions: what find gives is known.
-/
import Derived.Test.YtaaebeiigkhcjaaGreatDoorG1
import Derived.Test.YtaaebeiigkhcjaaGreatDoorClone
import Derived.Test.YtaaebeiigkhcjaaGreatDoorLen
namespace Go.Proofs.YtaaebeiigkhcjaaGreatDoor
open Go.RowKit
set_option maxRecDepth 100000

theorem vecOf_no (p n : Nat) (x : Wd) (V : Value) (w : World) (h0 : 0 < n) (hc : w.cell? ⟨p, 0, none⟩ = some (.int .i64 n)) (hF : Finds w p x V) (hV : NotA 188 V) :
    Calls Tryz.prog 127 #[.pointer (some ⟨p, 0, none⟩), .agg #[.int .i64 x.1, .int .i64 x.2]] w fun e w' => e = .returned (.tuple #[.slice none 0 0, .int .i64 6]) ∧ Below w.heap.size w w' := by
  have hlt : p < w.heap.size := World.block_lt_of_cell? _ _ hc
  obtain ⟨xk, xn⟩ := x
  have HF := Lib.hid hF
  have HV := Lib.hid hV
  clear hF hV
  go_enter Tryz.func127, Tryz.ntmps127
  go_wp2_with fail
  refine (vec_no p n (xk, xn) V _ h0 ?_ (HF.out.later ((Below.refl _ _).alloc (Nat.le_refl _) _)) HV.out).mono ?_
  · go_simp
  rintro e w1 ⟨rfl, hb1⟩
  have B1 : Below w.heap.size w w1 := ((Below.refl _ _).alloc (Nat.le_refl _) _).trans (hb1.mono (by simp))
  clear hb1
  go_wp2
  go_ret2
  exact ⟨rfl, B1⟩
end Go.Proofs.YtaaebeiigkhcjaaGreatDoor
