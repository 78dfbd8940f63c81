/-
  TryPartial. Conditions: the tables of unicode/utf8 lie.
  What TryPartial returns matches the same candidates and is complete. Plain. Conditions: none.
-/
import Derived.Test.YtjcmdifpkafdkaaDoorC5
import Derived.Test.YtjcmdifpkafdkaaDoorL3
import Derived.Test.YtjcmdifpkafdkaaDoorC3
import Derived.Test.YtjcmdifpkafdkaaDoorL6
namespace Go.Proofs.YtjcmdifpkafdkaaDoor
open Go.Lib
set_option maxRecDepth 100000
open Go.RowKit
section
variable {G : Nat} {A : Abs} {σ : Mem} {F : Nat → Option Blk2} {L : List Ent} {fold : Bool} {l : List (List UInt8)} {v1 : Value} {s : List UInt8}
end
end Go.Proofs.YtjcmdifpkafdkaaDoor
namespace Go.Proofs.YtjcmdifpkafdkaaDoor
open Go.Lib
set_option maxRecDepth 100000
def freeD (w : List Int) : Prop := ∀ x ∈ w, delC x = false
theorem match_one {fold : Bool} {c w : List Int} {r : List (List Int)} : matchG fold c [w] [] = some r ↔ begC fold c w = true ∧ r = [c] := by
 unfold matchG
 cases begC fold c w
 ·exact ⟨fun h => (by cases h), fun h => (by cases h.1)⟩
 ·exact ⟨fun h => ⟨rfl, (Option.some.inj h).symm⟩, fun h => by rw [h.2]; rfl⟩
theorem parts_free : ∀ {s w : List Int}, freeD s → partsG w s = ([w ++ s], [])
 | [], w, _ => by rw [List.append_nil]; rfl
 | c :: s, w, h => by
  unfold partsG
  rw [if_neg (by rw [h c (List.mem_cons_self ..)]; exact Bool.noConfusion), parts_free (fun z hz => h z (List.mem_cons_of_mem _ hz)), List.append_assoc]
  rfl
inductive GoodP : List (List Int) → List Int → Prop
 | one {w : List Int} (h : freeD w) : GoodP [w] []
 | cons {w : List Int} {m : Int} {ws : List (List Int)} {ms : List Int} (h : freeD w) (hm : delC m = true) (k : GoodP ws ms) : GoodP (w :: ws) (m :: ms)
end Go.Proofs.YtjcmdifpkafdkaaDoor
