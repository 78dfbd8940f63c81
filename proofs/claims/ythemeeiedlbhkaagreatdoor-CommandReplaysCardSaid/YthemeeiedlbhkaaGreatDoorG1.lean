/-
  Contracts of package heap that look up a word: cons, vec, isNil, Car, Cdr, SetCar, SetCdr, TextOf. Conditions: what find gives is known.
  Contracts of package heap: isNil, Car, Cdr, SetCar, SetCdr, TextOf over what find gives. Conditions: what find gives is known.
-/
import Derived.Test.YthemeeiedlbhkaaGreatDoorFind
namespace Go.Proofs.YthemeeiedlbhkaaGreatDoor
open Go.RowKit
set_option maxRecDepth 100000

def Finds (w : World) (p : Nat) (x : Wd) (V : Value) : Prop :=
  ∀ w', Below w.heap.size w w' → Calls Tryz.prog 109 #[.pointer (some ⟨p, 0, none⟩), .agg #[.int .i64 x.1, .int .i64 x.2]] w' fun e w'' => e = .returned V ∧ Below w'.heap.size w' w''
theorem Finds.later {w w' : World} {p : Nat} {x : Wd} {V : Value} (h : Finds w p x V) (hb : Below w.heap.size w w') : Finds w' p x V :=
  fun w2 h2 => h w2 (hb.trans (h2.mono hb.size))
end Go.Proofs.YthemeeiedlbhkaaGreatDoor
namespace Go.Proofs.YthemeeiedlbhkaaGreatDoor
open Go.RowKit
set_option maxRecDepth 100000
end Go.Proofs.YthemeeiedlbhkaaGreatDoor
