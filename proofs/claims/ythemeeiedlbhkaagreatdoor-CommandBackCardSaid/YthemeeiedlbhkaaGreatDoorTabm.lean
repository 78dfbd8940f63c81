/-
  The variable none of package command, as the rows list it. Conditions: the row's list.
-/
import Derived.Test.YthemeeiedlbhkaaGreatDoorTabs
import Derived.Test.YthemeeiedlbhkaaGreatDoorRowsU
namespace Go.Proofs.YthemeeiedlbhkaaGreatDoor
open Go.Lib
set_option maxRecDepth 100000
def laidTabsC : List (String × DataW Unit) := [("unicode/utf8.acceptRanges", Rows.laid_unicode_utf8_acceptRanges), ("copyist/command.none", Rows.laid_copyist_command_none), ("unicode/utf8.first", Rows.laid_unicode_utf8_first)]
theorem nNone : Tryz.prog.globalNamed "copyist/command.none" = some 0 := by kernel_rfl
theorem yNone : (Tryz.prog.globals[0]?).map (·.type) = some 76 := by kernel_rfl
theorem cWord : Tryz.prog.cellsOf 76 = 2 := by kernel_rfl
theorem cInt : Tryz.prog.cellsOf 3 = 1 := by kernel_rfl
theorem word_reads {w : World} {n : String} {g : Nat} {a b : Int} (hn : Tryz.prog.globalNamed n = some g) (hy : (Tryz.prog.globals[g]?).map (·.type) = some 76) (h : VarReads Tryz.prog w n (.agg [.lit (.int .i64 a), .lit (.int .i64 b)])) :
    ∀ (i : Nat) v, [Value.int .i64 a, Value.int .i64 b][i]? = some v → w.cell? ⟨g, i, none⟩ = some v := by
  obtain ⟨g', t, cs, fuel, p, hg, hty, hvar, hd⟩ := h
  obtain rfl := Option.some.inj (hn.symm.trans hg)
  obtain rfl := Option.some.inj (hy.symm.trans hty)
  have hcs := ints_of_struct (zs := [a, b]) Tryz.underlying76 (fun j f hj => by
    match j, hj with
    | 0, hj => simp at hj; subst hj; exact ⟨Tryz.underlying3, rfl, cInt⟩
    | 1, hj => simp at hj; subst hj; exact ⟨Tryz.underlying3, rfl, cInt⟩
    | j + 2, hj => simp at hj) (by rw [cWord]; rfl) hd
  intro i v hv
  rw [World.var?_cell hg hvar i, ← Array.getElem?_toList, hcs]
  exact hv
noncomputable def rowsC : List (Nat × List Value) := (0, [.int .i64 1, .int .i64 0]) :: rowsU
def TabsC (w : World) : Prop := RowsLie w rowsC
theorem tabsC_of_laid {W : World} (h : laidMetH Tryz.prog laidTabsC W) : TabsC W := by
 have h' : laidMet Tryz.prog laidTabsC W := h
 have h1 := laidMet.reads h' (n := "copyist/command.none") (d := Rows.laid_copyist_command_none) (by simp [laidTabsC])
 have h2 := laidMet.reads h' (n := "unicode/utf8.first") (d := Rows.laid_unicode_utf8_first) (by simp [laidTabsC])
 have h3 := laidMet.reads h' (n := "unicode/utf8.acceptRanges") (d := Rows.laid_unicode_utf8_acceptRanges) (by simp [laidTabsC])
 rw [firstIs] at h2
 rw [acceptIs] at h3
 have hT := rowsU_lie (tabs_of_reads h2 h3)
 intro g cs hm
 rcases List.mem_cons.1 hm with e | e
 ·cases e
  exact ⟨fun x hx => by simp only [List.mem_cons, List.mem_nil_iff, or_false] at hx; rcases hx with rfl | rfl <;> rfl, by simp, word_reads nNone yNone h1⟩
 ·exact hT g cs e
noncomputable def laidWorldC (os : Os) : World :=
 { World.holding Tryz.prog os ⟨#[], #[], []⟩ with heap := ((World.holding Tryz.prog os ⟨#[], #[], []⟩).heap.modify 1 (putCells firstCells)).modify 2 (putCells acceptCells) |>.modify 0 (putCells #[.int .i64 1, .int .i64 0]) }
theorem laid_metC (os : Os) (args : Array Value) : laidMet Tryz.prog laidTabsC ((laidWorldC os).forCall (fun _ _ => 0) ⟨#[], args, []⟩).memory :=
 laidMet_of_run' 8 (by kernel_rfl) (by kernel_rfl)
end Go.Proofs.YthemeeiedlbhkaaGreatDoor
