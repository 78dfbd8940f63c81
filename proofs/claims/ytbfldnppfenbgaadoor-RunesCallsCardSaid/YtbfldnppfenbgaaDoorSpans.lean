/-
  Contract of package runes' search in spans (sort.Search with a closure). Conditions: the spans lie in memory, their ends rising.
-/
import Derived.Test.YtbfldnppfenbgaaDoorBase
import Derived.Test.YtbfldnppfenbgaaDoorShelf
import Derived.Test.YtbfldnppfenbgaaDoorChecked
namespace Go.Proofs.YtbfldnppfenbgaaDoor
open Go.RowKit Go.Lib Go.Sort Go.Shelf
set_option maxRecDepth 100000

/-- A span of the table. -/
def spAt (sp : List (Int × Int)) (i : Nat) : Int × Int := sp[i]?.getD (0, 0)
/-- What the search returns. -/
def inSp (c : Int) (sp : List (Int × Int)) : Bool :=
  decide ((List.range sp.length).countP (fun i => !decide (c ≤ (spAt sp i).2)) < sp.length) && decide ((spAt sp ((List.range sp.length).countP (fun i => !decide (c ≤ (spAt sp i).2)))).1 ≤ c)

set_option maxHeartbeats 2000000 in
theorem in_closure (ba bx b off cap : Nat) (sp : List (Int × Int)) (c : Int) (i : Nat) (W : World) (hi : i < sp.length)
    (ha : W.cell? ⟨ba, 0, none⟩ = some (.slice (some ⟨b, off, none⟩) sp.length cap)) (hx : W.cell? ⟨bx, 0, none⟩ = some (.int .i64 c)) (hc : W.cell? ⟨b, off + i * 2 + 1, none⟩ = some (.int .i64 (spAt sp i).2)) :
    Calls Tryd.prog 50 (#[.int .i64 i] ++ #[.pointer (some ⟨ba, 0, none⟩), .pointer (some ⟨bx, 0, none⟩)]) W fun e w' => e = .returned (.bool (decide (c ≤ (spAt sp i).2))) ∧ ∃ q, w' = W.drewN q := by
  generalize (spAt sp i).2 = y at hc ⊢
  have hiz : (i : Int) < (sp.length : Int) := by omega
  go_enter Tryd.func50, Tryd.ntmps50
  go_wp2
  go_quiet (fail)
  go_wp2
  go_ret
  exact ⟨rfl, _, rfl⟩

set_option maxHeartbeats 2000000 in
theorem in_any (b off cap : Nat) (sp : List (Int × Int)) (c : Int) (w : World) (hb : b < w.heap.size) (hsz : sp.length < 1000)
    (h0 : ∀ i, i < sp.length → w.cell? ⟨b, off + i * 2, none⟩ = some (.int .i64 (spAt sp i).1)) (h1 : ∀ i, i < sp.length → w.cell? ⟨b, off + i * 2 + 1, none⟩ = some (.int .i64 (spAt sp i).2))
    (hm : ∀ i j, i ≤ j → j < sp.length → (spAt sp i).2 ≤ (spAt sp j).2) :
    Calls Tryd.prog 41 #[.int .i64 c, .slice (some ⟨b, off, none⟩) sp.length cap] w fun e w' => e = .returned (.bool (inSp c sp)) ∧ Below w.heap.size w w' := by
  obtain ⟨W0, hW0⟩ : ∃ W0, W0 = (w.alloc (.cells #[.int .i64 c] 3)).alloc (.cells #[.slice (some ⟨b, off, none⟩) sp.length cap] 50) := ⟨_, rfl⟩
  have hsize : W0.heap.size = w.heap.size + 1 + 1 := by rw [hW0]; simp
  have cx : W0.cell? ⟨w.heap.size, 0, none⟩ = some (.int .i64 c) := by rw [hW0]; exact cell_alloc_sl _ (cell_new_sl w _ _)
  have ca : W0.cell? ⟨w.heap.size + 1, 0, none⟩ = some (.slice (some ⟨b, off, none⟩) sp.length cap) := by
    rw [hW0]; have := cell_new_sl (w.alloc (.cells #[.int .i64 c] 3)) (.slice (some ⟨b, off, none⟩) sp.length cap) 50; rwa [World.size_alloc] at this
  have c0 : ∀ i, i < sp.length → W0.cell? ⟨b, off + i * 2, none⟩ = some (.int .i64 (spAt sp i).1) := fun i hi => by rw [hW0]; exact cell_alloc_sl _ (cell_alloc_sl _ (h0 i hi))
  have c1 : ∀ i, i < sp.length → W0.cell? ⟨b, off + i * 2 + 1, none⟩ = some (.int .i64 (spAt sp i).2) := fun i hi => by rw [hW0]; exact cell_alloc_sl _ (cell_alloc_sl _ (h1 i hi))
  have eg : ∀ args w, (callFunc 50 args).run Tryd.prog w = .ok (.enter 50 args) w := enters_of Tryd.func50 (by kernel_rfl) rfl
  have hS := Any.sort_Search Tryd.search 50 #[.pointer (some ⟨w.heap.size + 1, 0, none⟩), .pointer (some ⟨w.heap.size, 0, none⟩)] sp.length (fun i => decide (c ≤ (spAt sp i).2)) W0 eg (by omega)
    (fun m os i hi => (in_closure (w.heap.size + 1) w.heap.size b off cap sp c i _ hi (cell_grown (by simp [hsize]) ca m os) (cell_grown (by simp [hsize]; omega) cx m os) (cell_grown (by simp [hsize]; omega) (c1 i hi) m os)).mono
      fun _ _ ⟨he, q, hq⟩ => ⟨he, q, #[], by rw [hq, grow_empty]⟩) (fun a b hab hb h => by have := hm a b hab hb; simp at h ⊢; omega)
  have hS' : Calls Tryd.prog 49 _ _ _ := hS
  have HS := Lib.hid hS'
  have HB0 : Hid (Below w.heap.size w W0) := by rw [hW0]; exact ((Below.refl _ w).alloc (Nat.le_refl _) _).alloc (by simp) _
  have hle : (List.range sp.length).countP (fun i => !decide (c ≤ (spAt sp i).2)) ≤ sp.length := by
    have := List.countP_le_length (p := fun i => !decide (c ≤ (spAt sp i).2)) (l := List.range sp.length)
    simpa using this
  have hmf : ∀ (fn : Fn) (first cap : Array Value) (w : World), (Instr.makeFunc fn first cap).run Tryd.prog w = .ok (.func fn first cap) w := fun _ _ _ _ => rfl
  unfold inSp
  generalize (List.range sp.length).countP (fun i => !decide (c ≤ (spAt sp i).2)) = r at HS hle ⊢
  have HC0 := Lib.hid c0
  clear hS hS' h0 h1 hm c0 c1 eg
  go_enter Tryd.func41, Tryd.ntmps41
  go_wp2_with (go_at_call 49; rw [← hW0]; clear hW0; refine HS.out.mono ?_; rintro e w1 ⟨rfl, q, os, rfl⟩)
  have ca' : (grow (W0.drewN q) os).cell? ⟨w.heap.size + 1, 0, none⟩ = some (.slice (some ⟨b, off, none⟩) sp.length cap) := cell_grown (by simp [hsize]) ca q os
  have cx' : (grow (W0.drewN q) os).cell? ⟨w.heap.size, 0, none⟩ = some (.int .i64 c) := cell_grown (by simp [hsize]; omega) cx q os
  have hB : Hid (Below w.heap.size w (grow (W0.drewN q) os)) := HB0.out.trans (below_grown_sl w.heap.size W0 q os (by omega))
  by_cases hr : r < sp.length
  · have cr : (grow (W0.drewN q) os).cell? ⟨b, off + r * 2, none⟩ = some (.int .i64 (spAt sp r).1) := cell_grown (by simp [hsize]; omega) (HC0.out r hr) q os
    generalize hy : (spAt sp r).1 = y at cr
    have HY := Lib.hid hy
    clear hy
    generalize grow (W0.drewN q) os = W1 at ca' cx' cr hB ⊢
    have hrz : (r : Int) < (sp.length : Int) := by omega
    have hd : decide (r < sp.length) = true := decide_eq_true hr
    have HF := Lib.hid hd
    go_quiet (fail)
    go_wp2
    go_ret
    refine ⟨ret_bool ?_, below_drewN hB.out _⟩
    rw [HY.out, HF.out, Bool.true_and]
  · have hd : decide (r < sp.length) = false := decide_eq_false hr
    generalize grow (W0.drewN q) os = W1 at ca' cx' hB ⊢
    have HF := Lib.hid hd
    go_quiet (fail)
    go_wp2
    go_ret
    refine ⟨ret_bool ?_, below_drewN hB.out _⟩
    rw [HF.out, Bool.false_and]
end Go.Proofs.YtbfldnppfenbgaaDoor
