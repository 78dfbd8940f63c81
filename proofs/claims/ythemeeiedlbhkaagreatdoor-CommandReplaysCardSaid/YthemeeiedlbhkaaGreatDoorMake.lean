/-
  Contracts of package heap's makers Cons, Text and Vec where no number is free below: one object more; full; rejected. Conditions: the heap lies as HeapAt says; the tables of unicode/utf8 lie as laid (Text).
-/
import Derived.Test.YthemeeiedlbhkaaGreatDoorPush
import Derived.Test.YthemeeiedlbhkaaGreatDoorA1
namespace Go.Proofs.YthemeeiedlbhkaaGreatDoor
open Go.RowKit
set_option maxRecDepth 100000
def Made (S : Own) (w : World) (p : Nat) (m : HM) (o : HObj) (kd : Nat) (e : Ending) (w' : World) : Prop :=
  ∃ S2, e = .returned (.tuple #[.agg #[.int .i64 kd, .int .i64 m.objs.length], .int .i64 0]) ∧ HeapAt w' S2 p (m.push o) ∧ Turn S w w' S2
def TabsOut (S : Own) : Prop := S 1 = none ∧ S 2 = none
theorem TabsOut.turn {S S' : Own} {w w' : World} (h : TabsOut S) (ht : Turn S w w' S') (hT : Tabs w) : TabsOut S' := ⟨ht.new _ (tabs_lt hT).1 h.1, ht.new _ (tabs_lt hT).2 h.2⟩
theorem TabsOut.tabs {S S' : Own} {w w' : World} (h : TabsOut S) (ht : Turn S w w' S') (hT : Tabs w) : Tabs w' :=
  ⟨fun c hc => (ht.cell (p := ⟨_, _, none⟩) (tabs_lt hT).1 h.1).trans (hT.1 c hc), fun i hi => ⟨(ht.cell (p := ⟨_, _, none⟩) (tabs_lt hT).2 h.2).trans (hT.2 i hi).1, (ht.cell (p := ⟨_, _, none⟩) (tabs_lt hT).2 h.2).trans (hT.2 i hi).2⟩⟩
end Go.Proofs.YthemeeiedlbhkaaGreatDoor
