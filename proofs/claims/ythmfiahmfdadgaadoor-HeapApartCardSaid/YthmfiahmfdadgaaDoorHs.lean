/-
  Collect, Pick and word as calls of the second memory. Conditions: the heap lies there as HeapAt says.
-/
import Derived.Test.YthmfiahmfdadgaaDoorHg
import Derived.Test.YthmfiahmfdadgaaDoorColLong
namespace Go.Proofs.YthmfiahmfdadgaaDoor
open Go.RowKit
set_option maxRecDepth 100000
section
variable {G : Nat} {σ : Mem}
variable {h : Nat} {m : HM}
theorem s_pick (x n : Int) (h1 : -9223372036854775808 ≤ x) (h2 : x ≤ 9223372036854775807) (h3 : 0 < n) (h4 : n ≤ 9223372036854775807) : SCall G Tryd.prog 13 #[.int .i64 x, .int .i64 n] σ (.int .i64 (pickOf x n)) σ :=
  below_call rfl rfl fun w => (pick_any x n w h1 h2 (by omega) h4).mono fun e w' ⟨k1, k2⟩ => ⟨k1, k2 ▸ Below.refl _ _⟩
theorem s_word (a b : Int) : SCall G Tryd.prog 22 #[.int .i64 a, .int .i64 b] σ (wdV (a, b)) σ :=
  below_call rfl rfl fun w => word_any a b w
theorem s_collect (v : Value) (l : List Wd) (M : List Bool) (hsl : Sl σ 2 v (wdC l)) (ha : σ.abs = heapAbs h m) (hf : ∀ M', Marks m (markL m (List.replicate m.objs.length false, []) l) M' → m.Above M' ∧ M' = M) (hn2 : l.length ≤ 2000000) (hR : RowsAt rowsU σ) (h16 : 16 ≤ G) (hTX : m.Texts) :
    SCall G Tryd.prog 25 #[.pointer (some ⟨h, 0, none⟩), v] σ (.int .i64 (m.gone M)) (σ.with (heapAbs h (m.swept M))) := by
  refine heap_call ha rfl fun μ w cargs bi S hs har h1 h2 h3 hav => ?_
  have hT : Tabs w := tabs_of_rows (rows_lie hs (fun g cs hm => Nat.lt_of_lt_of_le (rowsU_low g cs hm) h16) (fun g cs hm => Nat.lt_of_lt_of_le (rowsU_low g cs hm) (by decide)) rowsU_flat hR)
  have hout : ∀ g cs, (g, cs) ∈ rowsU → S g = none := fun g cs hm => by
    obtain ⟨t, gg, ht⟩ := hR g cs hm
    obtain ⟨ci, hb, e12⟩ := hs.glob g (Nat.lt_of_lt_of_le (rowsU_low g cs hm) h16)
    have := hav g _ ci ht hb
    rwa [(e12 (Nat.lt_of_lt_of_le (rowsU_low g cs hm) (by decide))).1] at this
  have hTS : TabsOut S := ⟨hout _ firstL (by simp [rowsU]), hout _ accL (by simp [rowsU])⟩
  have hsz : cargs.size = 2 := har.1.symm
  have e0 := har.2 0 (.pointer (some ⟨h, 0, none⟩)) cargs[0] rfl (by simp [hsz])
  have e1 := har.2 1 v cargs[1] rfl (by simp [hsz])
  obtain ⟨ci, k1, k2⟩ := e0.ptr_inv
  rw [h1] at k1
  cases k1
  rw [h2] at k2
  have hca : ∀ u, cargs[1] = u → cargs = #[.pointer (some ⟨bi.blk, 0, none⟩), u] := fun u hu => by
    apply Array.ext
    · simp [hsz]
    · intro i k3 k4
      match i, k3, k4 with
      | 0, _, _ => simpa using k2
      | 1, _, _ => simpa using hu
      | i + 2, _, k4 => exact absurd k4 (by simp)
  have fin : ∀ (A : Option Addr) (c : Nat), cargs[1] = .slice A l.length c → (0 < l.length → ∃ ab ao, A = some ⟨ab, ao, none⟩ ∧ WordsFrom w ab ao l ∧ ab < w.heap.size) → Calls Tryd.prog 25 cargs w fun e w' => ∃ S', e = .returned (.int .i64 (m.gone M)) ∧ HeapAt w' S' bi.blk (m.swept M) ∧ Turn S w w' S' := fun A c hA hw => by
    rw [hca _ hA]
    refine (collect_any S bi.blk m A c l w h3 (fun M' hM => (hf M' hM).1) hn2 hT hTS hTX hw).mono ?_
    rintro e w' ⟨M', S', hM, he, hH, hTn⟩
    obtain rfl := (hf M' hM).2
    exact ⟨S', he, hH, hTn⟩
  generalize hxs : wdC l = xs at hsl
  cases hsl with
  | nil =>
    have hl0 : l = [] := by
      cases l with
      | nil => rfl
      | cons a l => simp [wdC] at hxs
    have := closedV_eq 3 _ _ rfl e1
    exact fin none 0 (by rw [this, hl0]; rfl) (fun hp => by rw [hl0] at hp; simp at hp)
  | some hr hx hc =>
    rename_i b p n c sp r
    have hn : n = l.length := by
      have := wdC_length l
      rw [hxs, hx] at this
      omega
    subst hn
    obtain ⟨ri, q, c', g1, g2, _, g3⟩ := e1.slice_inv
    refine fin _ c' g2 fun hp => ⟨ri.blk, q, rfl, fun j y hj => ?_, (hs.blk b _ ri hr g1).lt⟩
    have hq := g3 (by omega)
    obtain ⟨cc, fz, t', hcc, _, hcs⟩ := (hs.blk b _ ri hr g1).lie
    have hjl : j < l.length := (List.getElem?_eq_some_iff.1 hj).1
    obtain ⟨w0, w1⟩ := wdC_get l j hjl
    have hy : l[j] = y := (List.getElem?_eq_some_iff.1 hj).2
    rw [hxs, hy] at w0 w1
    have cell : ∀ i u, xs[i]? = some (.int .i64 u) → w.cell? ⟨ri.blk, q + i, none⟩ = some (.int .i64 u) := fun i u hi => by
      obtain ⟨v', p1, p2⟩ := hcs (p + i) _ (hc i _ hi)
      have := closedV_eq 3 _ _ rfl p2
      subst this
      unfold World.cell?
      simp only [hcc]
      rw [hq, Nat.add_assoc]
      exact p1
    exact ⟨cell (j * 2) y.1 w0, by rw [Nat.add_assoc]; exact cell (j * 2 + 1) y.2 w1⟩
end
end Go.Proofs.YthmfiahmfdadgaaDoor
