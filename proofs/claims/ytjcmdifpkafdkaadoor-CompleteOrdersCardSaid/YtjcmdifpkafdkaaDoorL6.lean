/-
  Contracts of copyistkit's Same, Pick and Own at ints. Conditions: the arguments read as lists of ints.
  RunesJoins: for every two strings the law returns true; nothing that lay before is changed. Conditions: the tables of unicode/utf8 lie as laid.
  RunesFolds: for every integer the law returns true; nothing that lay before is changed. Conditions: the tables of unicode/utf8 lie as laid.
  RunesCuts: for every string and every three indexes the law returns true; nothing that lay before is changed. Conditions: the tables of unicode/utf8 lie as laid.
-/
import Derived.Test.YtjcmdifpkafdkaaDoorBase
import Derived.Test.YtjcmdifpkafdkaaDoorChecked
import Derived.Test.YtjcmdifpkafdkaaDoorRunes
import Derived.Test.YtjcmdifpkafdkaaDoorWidth
import Derived.Test.YtjcmdifpkafdkaaDoorL4
namespace Go.Proofs.YtjcmdifpkafdkaaDoor
open Go.RowKit
set_option maxRecDepth 100000

end Go.Proofs.YtjcmdifpkafdkaaDoor
namespace Go.Proofs.YtjcmdifpkafdkaaDoor
open Go.RowKit Go.Lib
set_option maxRecDepth 100000

end Go.Proofs.YtjcmdifpkafdkaaDoor
namespace Go.Proofs.YtjcmdifpkafdkaaDoor
open Go.RowKit Go.Lib
set_option maxRecDepth 100000

/-! ### plainly -/
def NearP (c : Int) : Prop := (97 ≤ c ∧ c ≤ 122) ∨ (224 ≤ c ∧ c ≤ 246) ∨ (248 ≤ c ∧ c ≤ 254) ∨ (945 ≤ c ∧ c ≤ 961) ∨ (963 ≤ c ∧ c ≤ 969) ∨ (1072 ≤ c ∧ c ≤ 1103)
theorem near_iff (c : Int) : nearB c = true ↔ NearP c := nearB_iff c
theorem up_cases (c : Int) : (NearP c ∧ upOf c = c - 32) ∨ (1104 ≤ c ∧ c ≤ 1119 ∧ upOf c = c - 80) ∨ (c = 962 ∧ upOf c = 931) ∨ (¬ NearP c ∧ ¬ (1104 ≤ c ∧ c ≤ 1119) ∧ c ≠ 962 ∧ upOf c = c) := by
 unfold upOf
 by_cases h : nearB c = true
 ·rw [if_pos h]; exact .inl ⟨(near_iff c).1 h, rfl⟩
 ·rw [if_neg h]
  have hn : ¬ NearP c := fun h' => h ((near_iff c).2 h')
  by_cases h2 : 1104 ≤ c ∧ c ≤ 1119
  ·rw [if_pos h2]; exact .inr (.inl ⟨h2.1, h2.2, rfl⟩)
  ·rw [if_neg h2]
   by_cases h3 : c = 962
   ·rw [if_pos h3]; exact .inr (.inr (.inl ⟨h3, rfl⟩))
   ·rw [if_neg h3]; exact .inr (.inr (.inr ⟨hn, h2, h3, rfl⟩))
theorem down_cases (c : Int) : (NearP (c + 32) ∧ downOf c = c + 32) ∨ (1024 ≤ c ∧ c ≤ 1039 ∧ downOf c = c + 80) ∨ (¬ NearP (c + 32) ∧ ¬ (1024 ≤ c ∧ c ≤ 1039) ∧ downOf c = c) := by
 unfold downOf
 by_cases h : nearB (c + 32) = true
 ·have hn := (near_iff _).1 h
  have h1 : 65 ≤ c ∧ c ≤ 1114111 := by unfold NearP at hn; omega
  rw [if_pos ⟨h1.1, h1.2, h⟩]; exact .inl ⟨hn, rfl⟩
 ·rw [if_neg (fun h' => h h'.2.2)]
  have hn : ¬ NearP (c + 32) := fun h' => h ((near_iff _).2 h')
  by_cases h2 : 1024 ≤ c ∧ c ≤ 1039
  ·rw [if_pos h2]; exact .inr (.inl ⟨h2.1, h2.2, rfl⟩)
  ·rw [if_neg h2]; exact .inr (.inr ⟨hn, h2, rfl⟩)
/-! ### the walks -/
end Go.Proofs.YtjcmdifpkafdkaaDoor
namespace Go.Proofs.YtjcmdifpkafdkaaDoor
open Go.RowKit Go.Lib
set_option maxRecDepth 100000

/-! ### valid -/
end Go.Proofs.YtjcmdifpkafdkaaDoor
