/-
  container/heap.Pop at the free numbers, where one number lies there. Conditions: the heap's block lies as said.
-/
import Derived.Test.YthmfiahmfdadgaaDoorNums
namespace Go.Proofs.YthmfiahmfdadgaaDoor
open Go.RowKit
set_option maxRecDepth 100000

/-- A cell is set to what it holds. -/
theorem setCell_same {w : World} {g : Nat} {t : TypeId} {cs : Array Value} {i : Nat} {u : Value} (h : Blk w g t cs) (hu : cs[i]? = some u) (b : Nat) : (w.setCell ⟨g, i, none⟩ u).heap[b]? = w.heap[b]? := by
  by_cases hb : b = g
  · subst hb
    have h1 : (w.setCell ⟨b, i, none⟩ u).heap[b]? = some (.cells (cs.setIfInBounds i u) t (0, 0)) := h.set i u
    rw [h1, show w.heap[b]? = some (.cells cs t (0, 0)) from h]
    congr 2
    apply Array.ext_getElem?
    intro j
    rw [Array.getElem?_setIfInBounds]
    by_cases hj : i = j
    · subst hj
      rw [if_pos rfl, hu]
      split
      · rfl
      · rename_i hn
        have := (Array.getElem?_eq_some_iff.1 hu).1
        exact absurd this hn
    · rw [if_neg hj]
  · exact Below.heap_setCell _ _ _ _ hb
theorem nswap (g c : Nat) (k : Int) (cs : Array Value) (w : World) (hB : Blk w g 3 cs) (hk : cs[0]? = some (.int .i64 k)) :
    Calls Tryd.prog 76 #[.slice (some ⟨g, 0, none⟩) 1 c, .int .i64 0, .int .i64 0] w fun e w' => e = .returned (.tuple #[]) ∧ Below w.heap.size w w' := by
  have c0 : w.cell? ⟨g, 0, none⟩ = some (.int .i64 k) := (hB.cell 0).trans hk
  have f0 := hB.frozen 0
  have H := Lib.hid (And.intro hB hk)
  clear hB hk
  go_enter Tryd.func76, Tryd.ntmps76
  go_wp2
  go_region_with (fail)
  all_goals
    go_end0
    obtain ⟨hB, hk⟩ := H.out
    have h2 : Blk (w.setCell ⟨g, 0, none⟩ (.int .i64 k)) g 3 cs := hB.keep (setCell_same hB hk g)
    exact ⟨rfl, rfl, rfl, rfl, by simp [World.setCell], fun b _ => (setCell_same h2 hk b).trans (setCell_same hB hk b)⟩
theorem down_zero (p : Nat) (w : World) :
    Calls Tryd.prog 55 #[.iface 94 (.pointer (some ⟨p, 4, none⟩)), .int .i64 0, .int .i64 0] w fun e w' => e = .returned (.bool false) ∧ ∃ q, w' = w.drewN q := by
  go_enter Tryd.func55, Tryd.ntmps55
  go_wp2
  refine wp_loop_rounds 1 ?_
  rw [rounds_succ]
  go_wp2
  go_ret
  exact ⟨rfl, 0, rfl⟩
theorem npop (p g c : Nat) (k : Int) (v0 v1 v2 v3 : Value) (w : World) (hB : Blk w p 67 #[v0, v1, v2, v3, .slice (some ⟨g, 0, none⟩) 1 c]) (hk : w.cell? ⟨g, 0, none⟩ = some (.int .i64 k)) (hgp : g ≠ p) :
    Calls Tryd.prog 89 #[.pointer (some ⟨p, 4, none⟩)] w fun e w' => e = .returned (.iface 3 (.int .i64 k)) ∧ ∃ q, w' = (w.drewN q).setCell ⟨p, 4, none⟩ (.slice (some ⟨g, 0, none⟩) 0 c) := by
  have c4 : w.cell? ⟨p, 4, none⟩ = some (.slice (some ⟨g, 0, none⟩) 1 c) := hB.cell 4
  have f4 := hB.frozen 4
  clear hB
  go_enter Tryd.func89, Tryd.ntmps89
  go_wp2
  go_ret
  exact ⟨rfl, 0, rfl⟩
theorem owns_one {w : World} {g c : Nat} {k : Int} (h : w.ownsRow 0 3 1 (.slice (some ⟨g, 0, none⟩) 1 c) 1 [.int .i64 k]) : ∃ cs, Blk w g 3 cs ∧ cs[0]? = some (.int .i64 k) := by
  obtain ⟨h1, h2⟩ := h
  rcases h2 with ⟨h, _⟩ | ⟨g', cap', cur, hv, hb, hg, h3, h4, h5, h6⟩
  · cases h
  · cases hv
    refine ⟨cur, hg, ?_⟩
    have h7 : (cur.toList.take (1 * 1))[0]? = some (.int .i64 k) := by rw [h6]; rfl
    simpa using h7
/-- container/heap.Pop where one number lies there. -/
theorem hpop (p g c : Nat) (k : Int) (v0 v1 v2 v3 : Value) (w : World) (hB : Blk w p 67 #[v0, v1, v2, v3, .slice (some ⟨g, 0, none⟩) 1 c]) (hF : w.ownsRow 0 3 1 (.slice (some ⟨g, 0, none⟩) 1 c) 1 [.int .i64 k]) (hgp : g ≠ p) :
    Calls Tryd.prog 50 #[.iface 94 (.pointer (some ⟨p, 4, none⟩))] w fun e w' => e = .returned (.iface 3 (.int .i64 k)) ∧ ∃ w1, Below w.heap.size w w1 ∧ w' = w1.setCell ⟨p, 4, none⟩ (.slice (some ⟨g, 0, none⟩) 0 c) := by
  obtain ⟨cs, hC, hk⟩ := owns_one hF
  have c4 : w.cell? ⟨p, 4, none⟩ = some (.slice (some ⟨g, 0, none⟩) 1 c) := hB.cell 4
  have hm1 := mnum_len p _ w c4
  have hm2 := mnum_swap p _ w c4
  have hm3 := mnum_pop ⟨p, 4, none⟩
  have CS := Lib.hid (nswap g c k cs w hC hk)
  have HB := Lib.hid hB
  have HC := Lib.hid (And.intro hC hk)
  clear hB hF hC hk
  go_enter Tryd.func50, Tryd.ntmps50
  go_wp2_with (go_at_call 74; refine (nlen _ _ _ _).mono ?_; rintro e w' ⟨rfl, rfl⟩)
  refine CS.out.mono ?_
  rintro e w1 ⟨rfl, hb⟩
  have B1 := HB.out.below hb
  have C1 := HC.out.1.below hb
  have k1 : w1.cell? ⟨g, 0, none⟩ = some (.int .i64 k) := (C1.cell 0).trans HC.out.2
  have CP := Lib.hid (npop p g c k v0 v1 v2 v3)
  have H1 := Lib.hid (And.intro B1 (And.intro k1 hb))
  clear B1 C1 k1 hb hm1 hm2
  go_wp2_with fail
  refine (down_zero p w1).mono ?_
  rintro e w2 ⟨rfl, q, rfl⟩
  go_wp2_with fail
  obtain ⟨B1, k1, hb⟩ := H1.out
  refine (CP.out (w1.drewN q) (B1.drewN q) k1 hgp).mono ?_
  rintro e w3 ⟨rfl, q2, rfl⟩
  go_wp2
  go_ret
  exact ⟨rfl, w1.drewN (q + q2), below_drewN hb _, rfl⟩
end Go.Proofs.YthmfiahmfdadgaaDoor
