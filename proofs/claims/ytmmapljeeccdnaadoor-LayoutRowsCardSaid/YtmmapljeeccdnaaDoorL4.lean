/-
  Contract of package runes' search in spans (sort.Search with a closure). Conditions: the spans lie in memory, their ends rising.
  Contracts of package runes: Is, Text, Cut. Conditions: the tables of unicode/utf8 lie as laid; sizes as stated.
  Contracts of package runes: near, Up, Down, Fold, Word, Width. Conditions: none.
  Contract of package runes: Width. Conditions: none.
-/
import Derived.Test.YtmmapljeeccdnaaDoorBase
import Derived.Test.YtmmapljeeccdnaaDoorShelf
import Derived.Test.YtmmapljeeccdnaaDoorChecked
import Derived.Test.YtmmapljeeccdnaaDoorRunes
import Derived.Laws.IdiomStrings
import Derived.Great.BuildSlice
namespace Go.Proofs.YtmmapljeeccdnaaDoor
open Go.RowKit Go.Lib Go.Sort Go.Shelf
set_option maxRecDepth 100000

def spAt (sp : List (Int × Int)) (i : Nat) : Int × Int := sp[i]?.getD (0, 0)
def inSp (c : Int) (sp : List (Int × Int)) : Bool :=
 decide ((List.range sp.length).countP (fun i => !decide (c ≤ (spAt sp i).2)) < sp.length) && decide ((spAt sp ((List.range sp.length).countP (fun i => !decide (c ≤ (spAt sp i).2)))).1 ≤ c)

set_option maxHeartbeats 2000000 in
theorem in_closure (ba bx b off cap : Nat) (sp : List (Int × Int)) (c : Int) (i : Nat) (W : World) (hi : i < sp.length)
    (ha : W.cell? ⟨ba, 0, none⟩ = some (.slice (some ⟨b, off, none⟩) sp.length cap)) (hx : W.cell? ⟨bx, 0, none⟩ = some (.int .i64 c)) (hc : W.cell? ⟨b, off + i * 2 + 1, none⟩ = some (.int .i64 (spAt sp i).2)) :
    Calls Tryd.prog 80 (#[.int .i64 i] ++ #[.pointer (some ⟨ba, 0, none⟩), .pointer (some ⟨bx, 0, none⟩)]) W fun e w' => e = .returned (.bool (decide (c ≤ (spAt sp i).2))) ∧ ∃ q, w' = W.drewN q := by
  generalize (spAt sp i).2 = y at hc ⊢
  have hiz : (i : Int) < (sp.length : Int) := by omega
  go_enter Tryd.func80, Tryd.ntmps80
  go_wp2
  go_quiet (fail)
  go_wp2
  go_ret
  exact ⟨rfl, _, rfl⟩

set_option maxHeartbeats 2000000 in
theorem in_any (b off cap : Nat) (sp : List (Int × Int)) (c : Int) (w : World) (hb : b < w.heap.size) (hsz : sp.length < 1000)
    (h0 : ∀ i, i < sp.length → w.cell? ⟨b, off + i * 2, none⟩ = some (.int .i64 (spAt sp i).1)) (h1 : ∀ i, i < sp.length → w.cell? ⟨b, off + i * 2 + 1, none⟩ = some (.int .i64 (spAt sp i).2))
    (hm : ∀ i j, i ≤ j → j < sp.length → (spAt sp i).2 ≤ (spAt sp j).2) :
    Calls Tryd.prog 78 #[.int .i64 c, .slice (some ⟨b, off, none⟩) sp.length cap] w fun e w' => e = .returned (.bool (inSp c sp)) ∧ Below w.heap.size w w' := by
  obtain ⟨W0, hW0⟩ : ∃ W0, W0 = (w.alloc (.cells #[.int .i64 c] 3)).alloc (.cells #[.slice (some ⟨b, off, none⟩) sp.length cap] 137) := ⟨_, rfl⟩
  have hsize : W0.heap.size = w.heap.size + 1 + 1 := by rw [hW0]; simp
  have cx : W0.cell? ⟨w.heap.size, 0, none⟩ = some (.int .i64 c) := by rw [hW0]; exact cell_alloc_sl _ (cell_new_sl w _ _)
  have ca : W0.cell? ⟨w.heap.size + 1, 0, none⟩ = some (.slice (some ⟨b, off, none⟩) sp.length cap) := by
    rw [hW0]; have := cell_new_sl (w.alloc (.cells #[.int .i64 c] 3)) (.slice (some ⟨b, off, none⟩) sp.length cap) 137; rwa [World.size_alloc] at this
  have c0 : ∀ i, i < sp.length → W0.cell? ⟨b, off + i * 2, none⟩ = some (.int .i64 (spAt sp i).1) := fun i hi => by rw [hW0]; exact cell_alloc_sl _ (cell_alloc_sl _ (h0 i hi))
  have c1 : ∀ i, i < sp.length → W0.cell? ⟨b, off + i * 2 + 1, none⟩ = some (.int .i64 (spAt sp i).2) := fun i hi => by rw [hW0]; exact cell_alloc_sl _ (cell_alloc_sl _ (h1 i hi))
  have eg : ∀ args w, (callFunc 80 args).run Tryd.prog w = .ok (.enter 80 args) w := enters_of Tryd.func80 (by kernel_rfl) rfl
  have hS := Any.sort_Search Tryd.search 80 #[.pointer (some ⟨w.heap.size + 1, 0, none⟩), .pointer (some ⟨w.heap.size, 0, none⟩)] sp.length (fun i => decide (c ≤ (spAt sp i).2)) W0 eg (by omega)
    (fun m os i hi => (in_closure (w.heap.size + 1) w.heap.size b off cap sp c i _ hi (cell_grown (by simp [hsize]) ca m os) (cell_grown (by simp [hsize]; omega) cx m os) (cell_grown (by simp [hsize]; omega) (c1 i hi) m os)).mono
      fun _ _ ⟨he, q, hq⟩ => ⟨he, q, #[], by rw [hq, grow_empty]⟩) (fun a b hab hb h => by have := hm a b hab hb; simp at h ⊢; omega)
  have hS' : Calls Tryd.prog 79 _ _ _ := hS
  have HS := Lib.hid hS'
  have HB0 : Hid (Below w.heap.size w W0) := by rw [hW0]; exact ((Below.refl _ w).alloc (Nat.le_refl _) _).alloc (by simp) _
  have hle : (List.range sp.length).countP (fun i => !decide (c ≤ (spAt sp i).2)) ≤ sp.length := by
    have := List.countP_le_length (p := fun i => !decide (c ≤ (spAt sp i).2)) (l := List.range sp.length)
    simpa using this
  have hmf : ∀ (fn : Fn) (first cap : Array Value) (w : World), (Instr.makeFunc fn first cap).run Tryd.prog w = .ok (.func fn first cap) w := fun _ _ _ _ => rfl
  unfold inSp
  generalize (List.range sp.length).countP (fun i => !decide (c ≤ (spAt sp i).2)) = r at HS hle ⊢
  have HC0 := Lib.hid c0
  clear hS hS' h0 h1 hm c0 c1 eg
  go_enter Tryd.func78, Tryd.ntmps78
  go_wp2_with (go_at_call 79; rw [← hW0]; clear hW0; refine HS.out.mono ?_; rintro e w1 ⟨rfl, q, os, rfl⟩)
  have ca' : (grow (W0.drewN q) os).cell? ⟨w.heap.size + 1, 0, none⟩ = some (.slice (some ⟨b, off, none⟩) sp.length cap) := cell_grown (by simp [hsize]) ca q os
  have cx' : (grow (W0.drewN q) os).cell? ⟨w.heap.size, 0, none⟩ = some (.int .i64 c) := cell_grown (by simp [hsize]; omega) cx q os
  have hB : Hid (Below w.heap.size w (grow (W0.drewN q) os)) := HB0.out.trans (below_grown_sl w.heap.size W0 q os (by omega))
  by_cases hr : r < sp.length
  · have cr : (grow (W0.drewN q) os).cell? ⟨b, off + r * 2, none⟩ = some (.int .i64 (spAt sp r).1) := cell_grown (by simp [hsize]; omega) (HC0.out r hr) q os
    generalize hy : (spAt sp r).1 = y at cr
    have HY := Lib.hid hy
    clear hy
    generalize grow (W0.drewN q) os = W1 at ca' cx' cr hB ⊢
    have hrz : (r : Int) < (sp.length : Int) := by omega
    have hd : decide (r < sp.length) = true := decide_eq_true hr
    have HF := Lib.hid hd
    go_quiet (fail)
    go_wp2
    go_ret
    refine ⟨ret_bool ?_, below_drewN hB.out _⟩
    rw [HY.out, HF.out, Bool.true_and]
  · have hd : decide (r < sp.length) = false := decide_eq_false hr
    generalize grow (W0.drewN q) os = W1 at ca' cx' hB ⊢
    have HF := Lib.hid hd
    go_quiet (fail)
    go_wp2
    go_ret
    refine ⟨ret_bool ?_, below_drewN hB.out _⟩
    rw [HF.out, Bool.false_and]
end Go.Proofs.YtmmapljeeccdnaaDoor
namespace Go.Proofs.YtmmapljeeccdnaaDoor
open Go.RowKit Go.Lib
set_option maxRecDepth 100000

theorem is_any (c : Int) (w : World) : Calls Tryd.prog 77 #[.int .i64 c] w fun e w' => e = .returned (.bool (chB c)) ∧ w = w' := by
 by_cases h0 : 0 ≤ c
 ·by_cases h1 : c ≤ 1114111
  ·by_cases h2 : 55296 ≤ c
   ·by_cases h3 : c ≤ 57343
    ·have e : chB c = false := by simp only [chB, decide_eq_false_iff_not]; omega
     rw [e]; clear e
     go_enter Tryd.func77, Tryd.ntmps77
     go_wp2
     go_ret
     exact ⟨rfl, rfl⟩
    ·have e : chB c = true := by rw [chB_iff]; omega
     rw [e]; clear e
     go_enter Tryd.func77, Tryd.ntmps77
     go_wp2
     go_ret
     exact ⟨rfl, rfl⟩
   ·have e : chB c = true := by rw [chB_iff]; omega
    rw [e]; clear e
    go_enter Tryd.func77, Tryd.ntmps77
    go_wp2
    go_ret
    exact ⟨rfl, rfl⟩
  ·have e : chB c = false := by simp only [chB, decide_eq_false_iff_not]; omega
   rw [e]; clear e
   go_enter Tryd.func77, Tryd.ntmps77
   go_wp2
   go_ret
   exact ⟨rfl, rfl⟩
 ·have e : chB c = false := by simp only [chB, decide_eq_false_iff_not]; omega
  rw [e]; clear e
  go_enter Tryd.func77, Tryd.ntmps77
  go_wp2
  go_ret
  exact ⟨rfl, rfl⟩

/-! ### Cut -/
end Go.Proofs.YtmmapljeeccdnaaDoor
namespace Go.Proofs.YtmmapljeeccdnaaDoor
open Go.RowKit Go.Lib
set_option maxRecDepth 100000

/-! ### the search, plainly -/
def inL (c : Int) : List (Int × Int) → Bool
 | [] => false
 | p :: r => if c ≤ p.2 then decide (p.1 ≤ c) else inL c r
def inAny (c : Int) (sp : List (Int × Int)) : Bool := sp.any fun p => decide (p.1 ≤ c) && decide (c ≤ p.2)
def rising : List (Int × Int) → Bool
 | [] => true
 | p :: r => decide (p.1 ≤ p.2) && (r.all fun q => decide (p.2 < q.1)) && rising r
theorem rising_cons {p : Int × Int} {r : List (Int × Int)} (h : rising (p :: r) = true) : p.1 ≤ p.2 ∧ (∀ q ∈ r, p.2 < q.1) ∧ rising r = true := by
 simpa [rising, and_assoc] using h
theorem rising_le : ∀ {sp : List (Int × Int)}, rising sp = true → ∀ p ∈ sp, p.1 ≤ p.2
 | [], _, _, h => by simp at h
 | p :: r, h, q, hq => by
  obtain ⟨h1, _, h3⟩ := rising_cons h
  rcases List.mem_cons.1 hq with rfl | hq
  ·exact h1
  ·exact rising_le h3 q hq
theorem inL_any (c : Int) : ∀ sp : List (Int × Int), rising sp = true → inL c sp = inAny c sp
  | [], _ => rfl
  | p :: r, h => by
    obtain ⟨h1, h2, h3⟩ := rising_cons h
    by_cases hc : c ≤ p.2
    · have hr : inAny c r = false := by
        simp only [inAny, List.any_eq_false, Bool.and_eq_true, decide_eq_true_eq]
        intro q hq
        have := h2 q hq
        omega
      simp only [inL, if_pos hc]
      simp only [inAny, List.any_cons] at hr ⊢
      rw [hr]
      simp [hc]
    · simp only [inL, if_neg hc]
      rw [inL_any c r h3]
      simp [inAny, hc]
theorem spAt_zero (p : Int × Int) (r : List (Int × Int)) : spAt (p :: r) 0 = p := rfl
theorem spAt_succ (p : Int × Int) (r : List (Int × Int)) (i : Nat) : spAt (p :: r) (i + 1) = spAt r i := rfl
theorem spAt_mem {sp : List (Int × Int)} {i : Nat} (h : i < sp.length) : spAt sp i ∈ sp := by
 simp only [spAt, List.getElem?_eq_getElem h, Option.getD_some]
 exact List.getElem_mem h
theorem count_cons (c : Int) (p : Int × Int) (r : List (Int × Int)) : (List.range (p :: r).length).countP (fun i => !decide (c ≤ (spAt (p :: r) i).2)) = (if c ≤ p.2 then 0 else 1) + (List.range r.length).countP (fun i => !decide (c ≤ (spAt r i).2)) := by
 rw [List.length_cons, List.range_succ_eq_map, List.countP_cons, List.countP_map, Nat.add_comm]
 congr 1
 ·rw [spAt_zero]
  by_cases h : c ≤ p.2 <;> simp [h]
theorem inSp_L (c : Int) : ∀ sp : List (Int × Int), rising sp = true → inSp c sp = inL c sp
  | [], _ => by simp [inSp, inL]
  | p :: r, h => by
    obtain ⟨h1, h2, h3⟩ := rising_cons h
    have ih := inSp_L c r h3
    unfold inSp at ih ⊢
    rw [count_cons]
    by_cases hc : c ≤ p.2
    · have h0 : (List.range r.length).countP (fun i => !decide (c ≤ (spAt r i).2)) = 0 := by
        rw [List.countP_eq_zero]
        intro i hi
        have hm := spAt_mem (List.mem_range.1 hi)
        have a1 := h2 _ hm
        have a2 := rising_le h3 _ hm
        simp
        omega
      rw [h0, if_pos hc]
      simp [inL, hc, spAt_zero]
      exact decide_eq_decide.2 Iff.rfl
    · rw [if_neg hc, Nat.add_comm 1]
      simp only [inL, if_neg hc, spAt_succ, List.length_cons]
      rw [← ih]
      congr 1
      exact decide_eq_decide.2 (by omega)
theorem inSp_any (c : Int) (sp : List (Int × Int)) (h : rising sp = true) : inSp c sp = inAny c sp := by rw [inSp_L c sp h, inL_any c sp h]
theorem rising_mono : ∀ {sp : List (Int × Int)}, rising sp = true → ∀ i j, i ≤ j → j < sp.length → (spAt sp i).2 ≤ (spAt sp j).2
 | [], _, _, _, _, h => by simp at h
 | p :: r, h, i, j, hij, hj => by
  obtain ⟨h1, h2, h3⟩ := rising_cons h
  match i, j, hij, hj with
  | 0, 0, _, _ => exact Int.le_refl _
  | 0, j + 1, _, hj =>
   rw [spAt_zero, spAt_succ]
   have hm := spAt_mem (sp := r) (i := j) (by simpa using hj)
   have a1 := h2 _ hm
   have a2 := rising_le h3 _ hm
   omega
  | i + 1, j + 1, hij, hj =>
   rw [spAt_succ, spAt_succ]
   exact rising_mono h3 i j (by omega) (by simpa using hj)

/-! ### tables in memory -/
def flatSp (sp : List (Int × Int)) : List Value := sp.flatMap fun p => [.int .i64 p.1, .int .i64 p.2]
theorem flatSp_cons (p : Int × Int) (r : List (Int × Int)) : flatSp (p :: r) = .int .i64 p.1 :: .int .i64 p.2 :: flatSp r := by simp [flatSp]
theorem flatSp_at : ∀ (sp : List (Int × Int)) (i : Nat), i < sp.length → (flatSp sp)[i * 2]? = some (.int .i64 (spAt sp i).1) ∧ (flatSp sp)[i * 2 + 1]? = some (.int .i64 (spAt sp i).2)
 | [], _, h => by simp at h
 | p :: r, 0, _ => by rw [flatSp_cons]; exact ⟨rfl, rfl⟩
 | p :: r, i + 1, h => by
  have := flatSp_at r i (by simpa using h)
  rw [flatSp_cons, spAt_succ, show (i + 1) * 2 = i * 2 + 1 + 1 by omega]
  simpa using this
theorem in_block (g : Nat) (T : TypeId) (sp : List (Int × Int)) (c : Int) (W : World) (hg : W.heap[g]? = some (.cells (flatSp sp).toArray T (0, 0))) (hr : rising sp = true) (hl : sp.length < 1000) :
    Calls Tryd.prog 78 #[.int .i64 c, .slice (some ⟨g, 0, none⟩) sp.length sp.length] W fun e w' => e = .returned (.bool (inAny c sp)) ∧ Below W.heap.size W w' := by
  have := in_any g 0 sp.length sp c W (Array.getElem?_eq_some_iff.1 hg).1 hl
    (fun i hi => by rw [Nat.zero_add, cell_of_row W g (i * 2) _ T (0, 0) hg, List.getElem?_toArray]; exact (flatSp_at sp i hi).1)
    (fun i hi => by rw [Nat.zero_add, cell_of_row W g (i * 2 + 1) _ T (0, 0) hg, List.getElem?_toArray]; exact (flatSp_at sp i hi).2) (rising_mono hr)
  rwa [inSp_any c sp hr] at this

def zeroW : List (Int × Int) := [(768, 879), (1155, 1161), (1425, 1469), (8203, 8207), (8400, 8447), (65024, 65039), (65056, 65071)]
def zeroCells : Array Value := (flatSp zeroW).toArray
theorem zeroW_rising : rising zeroW = true := by decide
theorem in_zero (c : Int) (w W : World) (g : Nat) (hg : W.heap[g]? = some (.cells zeroCells 134 (0, 0))) (hb0 : Below w.heap.size w W) : Calls Tryd.prog 78 #[.int .i64 c, .slice (some ⟨g, 0, none⟩) 7 7] W fun e w' => e = .returned (.bool (inAny c zeroW)) ∧ Below w.heap.size w w' ∧ Below W.heap.size W w' :=
 (in_block g 134 zeroW c W hg zeroW_rising (by decide)).mono fun e w' ⟨he, hb⟩ => ⟨he, hb0.trans (hb.mono hb0.size), hb⟩

def twoT : List (Int × Int) := [(0, 8), (10, 31), (127, 127), (4352, 4447), (11904, 12350), (12353, 42191), (44032, 55203), (63744, 64255), (65072, 65135), (65280, 65376), (65504, 65510), (127744, 128591), (129280, 129535), (131072, 262141)]
def twoCells : Array Value := (flatSp twoT).toArray
theorem twoT_rising : rising twoT = true := by decide
theorem in_two (c : Int) (w W : World) (g : Nat) (hg : W.heap[g]? = some (.cells twoCells 135 (0, 0))) (hb0 : Below w.heap.size w W) : Calls Tryd.prog 78 #[.int .i64 c, .slice (some ⟨g, 0, none⟩) 14 14] W fun e w' => e = .returned (.bool (inAny c twoT)) ∧ Below w.heap.size w w' ∧ Below W.heap.size W w' :=
 (in_block g 135 twoT c W hg twoT_rising (by decide)).mono fun e w' ⟨he, hb⟩ => ⟨he, hb0.trans (hb.mono hb0.size), hb⟩

theorem row_new (w : World) (Z cs : Array Value) (T : TypeId) : ((w.alloc (.cells Z T)).setRow w.heap.size cs).heap[w.heap.size]? = some (.cells cs T (0, 0)) :=
 setRow_heap _ _ Z cs T (0, 0) (heap_alloc_new w _)
theorem below_setRow {B : Nat} {a w : World} (h : Below B a w) {g : Nat} (hg : B ≤ g) (cs : Array Value) : Below B a (w.setRow g cs) :=
 h.trans ⟨rfl, rfl, rfl, by rw [setRow_size]; exact Nat.le_refl _, fun k hk => setRow_other w g k cs (by omega)⟩
theorem row_below (w : World) (Z cs : Array Value) (T : TypeId) : Below w.heap.size w ((w.alloc (.cells Z T)).setRow w.heap.size cs) :=
 below_setRow ((Below.refl _ _).alloc (Nat.le_refl _) _) (Nat.le_refl _) cs

def widthOf (c : Int) : Int := if chB c then (if inAny c zeroW then 0 else if inAny c twoT then 2 else 1) else 0
end Go.Proofs.YtmmapljeeccdnaaDoor
namespace Go.Proofs.YtmmapljeeccdnaaDoor
open Go.RowKit Go.Lib
set_option maxRecDepth 100000

theorem width_no {c : Int} (h : chB c = false) : widthOf c = 0 := by simp [widthOf, h]
theorem width_zero {c : Int} (h : chB c = true) (h1 : inAny c zeroW = true) : widthOf c = 0 := by simp [widthOf, h, h1]
theorem width_two {c : Int} (h : chB c = true) (h1 : inAny c zeroW = false) (h2 : inAny c twoT = true) : widthOf c = 2 := by simp [widthOf, h, h1, h2]
theorem width_one {c : Int} (h : chB c = true) (h1 : inAny c zeroW = false) (h2 : inAny c twoT = false) : widthOf c = 1 := by simp [widthOf, h, h1, h2]
theorem alloc_at {w : World} (n : Nat) (h : w.heap.size = n) (o : Obj) : (w.alloc o).heap[n]? = some o := by subst h; exact heap_alloc_new w o
def wTabs (w : World) (Z1 Z2 : Array Value) : World := ((((w.alloc (.cells Z1 134)).setRow w.heap.size zeroCells).alloc (.cells Z2 135)).setRow (w.heap.size + 1) twoCells)
theorem wTabs_below (w : World) (Z1 Z2 : Array Value) : Below w.heap.size w (wTabs w Z1 Z2) :=
 below_setRow ((row_below w Z1 zeroCells 134).alloc (by simp) _) (by omega) _
theorem wTabs_zero (w : World) (Z1 Z2 : Array Value) : (wTabs w Z1 Z2).heap[w.heap.size]? = some (.cells zeroCells 134 (0, 0)) := by
 unfold wTabs
 rw [setRow_other _ _ _ _ (by omega), Below.heap_alloc _ _ _ (by simp)]
 exact row_new w Z1 zeroCells 134
theorem wTabs_two (w : World) (Z1 Z2 : Array Value) : (wTabs w Z1 Z2).heap[w.heap.size + 1]? = some (.cells twoCells 135 (0, 0)) := by
 unfold wTabs
 exact setRow_heap _ _ Z2 twoCells 135 (0, 0) (alloc_at _ (by simp) _)

set_option maxHeartbeats 4000000 in
theorem width_any (c : Int) (w : World) : Calls Tryd.prog 75 #[.int .i64 c] w fun e w' => e = .returned (.int .i64 (widthOf c)) ∧ Below w.heap.size w w' := by
 have IS := Lib.hid (fun w' => is_any c w')
 have C1 := Lib.hid (fun Z1 Z2 => in_zero c w _ w.heap.size (wTabs_zero w Z1 Z2) (wTabs_below w Z1 Z2))
 have C2 := Lib.hid (fun Z1 Z2 w' (hb : Below (wTabs w Z1 Z2).heap.size (wTabs w Z1 Z2) w') => in_two c w w' (w.heap.size + 1) ((hb.block _ (Array.getElem?_eq_some_iff.1 (wTabs_two w Z1 Z2)).1).trans (wTabs_two w Z1 Z2)) ((wTabs_below w Z1 Z2).trans (hb.mono (wTabs_below w Z1 Z2).size)))
 have BT := Lib.hid (wTabs_below w)
 go_enter Tryd.func75, Tryd.ntmps75
 go_wp2_with (first
  | (with_reducible refine wpList_buildTo rfl 134 _ rfl (some 12) rfl zeroCells (by as_aux_lemma => kernel_rfl) ?_)
  | (with_reducible refine wpList_store_row rfl 134 _ _ rfl w.heap.size zeroCells rfl rfl 134 _ (heap_alloc_new w _) (by as_aux_lemma => kernel_rfl) (by as_aux_lemma => kernel_rfl) (by as_aux_lemma => kernel_rfl) ?_)
  | (with_reducible refine wpList_buildTo rfl 135 _ rfl (some 27) rfl twoCells (by as_aux_lemma => kernel_rfl) ?_)
  | (with_reducible refine wpList_store_row rfl 135 _ _ rfl (w.heap.size + 1) twoCells rfl rfl 135 _ (alloc_at _ (by simp) _) (by as_aux_lemma => kernel_rfl) (by as_aux_lemma => kernel_rfl) (by as_aux_lemma => kernel_rfl) ?_))
 refine (IS.out _).mono ?_
 cases h : chB c with
 | false =>
  have HW := Lib.hid (width_no h)
  clear h
  rintro e w' ⟨rfl, rfl⟩
  go_wp2
  go_ret
  exact ⟨by rw [HW.out]; rfl, BT.out _ _⟩
 | true =>
  rintro e w' ⟨rfl, rfl⟩
  cases h1 : inAny c zeroW with
  | true =>
   have HW := Lib.hid (width_zero h h1)
   rw [h1] at C1
   clear h h1
   go_wp2_with fail
   refine (C1.out _ _).mono ?_
   rintro e w1 ⟨rfl, hb1, _⟩
   go_wp2
   go_ret
   exact ⟨by rw [HW.out]; rfl, hb1⟩
  | false =>
   cases h2 : inAny c twoT with
   | true =>
    have HW := Lib.hid (width_two h h1 h2)
    rw [h1] at C1
    rw [h2] at C2
    clear h h1 h2
    go_wp2_with fail
    refine (C1.out _ _).mono ?_
    rintro e w1 ⟨rfl, hb1, hb1'⟩
    have c2 := Lib.hid (C2.out _ _ w1 hb1')
    clear hb1' C1 C2
    go_wp2_with fail
    refine c2.out.mono ?_
    rintro e w2 ⟨rfl, hb2, _⟩
    go_wp2
    go_ret
    exact ⟨by rw [HW.out]; rfl, hb2⟩
   | false =>
    have HW := Lib.hid (width_one h h1 h2)
    rw [h1] at C1
    rw [h2] at C2
    clear h h1 h2
    go_wp2_with fail
    refine (C1.out _ _).mono ?_
    rintro e w1 ⟨rfl, hb1, hb1'⟩
    have c2 := Lib.hid (C2.out _ _ w1 hb1')
    clear hb1' C1 C2
    go_wp2_with fail
    refine c2.out.mono ?_
    rintro e w2 ⟨rfl, hb2, _⟩
    go_wp2
    go_ret
    exact ⟨by rw [HW.out]; rfl, hb2⟩
end Go.Proofs.YtmmapljeeccdnaaDoor
