/-
  Characters of strings and strings of characters by conversion; maps whose keys are open strings. Over any program. Conditions: none.
  Completion by prefixes in plain words. Plain. Conditions: none.
  Characters compared. Conditions: none.
-/
import Derived.Test.YtmlmnbcnfalaaaaDoorL3
import Derived.Test.YtmlmnbcnfalaaaaDoorK1
import Derived.Test.YtmlmnbcnfalaaaaDoorL4
import Derived.Test.YtmlmnbcnfalaaaaDoorS4
namespace Go.Proofs.YtmlmnbcnfalaaaaDoor
open Go.Lib
set_option maxRecDepth 100000
def runeV (c : Int) : Value := .int .i32 c
section
variable {P : Program} {G nt : Nat} {ops : Array Oper} {l : List Oper} {o : Oper} {ta : Nat → Value} {σ : Mem} {rs : List (Rec × Mem)} {A : Abs} {F : Nat → Option Blk2} {L : List Ent} {K : List (Rec × Mem) → (Nat → Value) → Mem → Prop}
end
section
variable {P : Program} {t kt et : TypeId} {k : List UInt8} {l : List (List UInt8)}
end
end Go.Proofs.YtmlmnbcnfalaaaaDoor
namespace Go.Proofs.YtmlmnbcnfalaaaaDoor
open Go.Lib
set_option maxRecDepth 100000
end Go.Proofs.YtmlmnbcnfalaaaaDoor
namespace Go.Proofs.YtmlmnbcnfalaaaaDoor
open Go.Lib
set_option maxRecDepth 100000
theorem dropD {α : Type} {l : List α} {i : Nat} {d : α} (h : i < l.length) : l.drop i = l.getD i d :: l.drop (i + 1) := by
 rw [List.drop_eq_getElem_cons h, List.getD_eq_getElem?_getD, List.getElem?_eq_getElem h]
 rfl
section
variable {G : Nat} {A : Abs} {σ : Mem} {F : Nat → Option Blk2} {L : List Ent} {fold : Bool} {a b : Int} {xs ys : List Int} {v1 v2 : Value}
end
end Go.Proofs.YtmlmnbcnfalaaaaDoor
