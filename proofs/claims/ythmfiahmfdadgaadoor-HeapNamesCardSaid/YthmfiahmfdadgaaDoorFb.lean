/-
  The calls of package heap at a full heap, and Vec where a number is free, as calls of the second memory. Conditions: the heap lies there as HeapAt says.
-/
import Derived.Test.YthmfiahmfdadgaaDoorFa
namespace Go.Proofs.YthmfiahmfdadgaaDoor
open Go.RowKit
set_option maxRecDepth 100000
section
variable {G : Nat} {σ : Mem} {h : Nat} {m : HM}
/-- Arguments behind a heap's pointer, one that is open. -/
theorem args_open {μ : Mu} {h : Nat} {bi : BI} {v : Value} {cargs : Array Value} (hm : μ h = some bi) (hsh : bi.sh = 0) (har : ARel μ #[.pointer (some ⟨h, 0, none⟩), v] cargs) : ∃ u, cargs = #[.pointer (some ⟨bi.blk, 0, none⟩), u] ∧ VRel μ v u := by
  have hsz : cargs.size = 2 := har.1.symm
  have e0 := har.2 0 (.pointer (some ⟨h, 0, none⟩)) cargs[0] rfl (by simp [hsz])
  have e1 := har.2 1 v cargs[1] rfl (by simp [hsz])
  obtain ⟨ci, k1, k2⟩ := e0.ptr_inv
  rw [hm] at k1
  cases k1
  rw [hsh] at k2
  refine ⟨cargs[1], ?_, e1⟩
  apply Array.ext
  · simp [hsz]
  · intro i k3 k4
    match i, k3, k4 with
    | 0, _, _ => simpa using k2
    | 1, _, _ => rfl
    | i + 2, _, k4 => exact absurd k4 (by simp)
theorem s_consFull (a d : Wd) (ha : σ.abs = heapAbs h m) (hm : m.many = m.limit) : SCall G Tryd.prog 12 #[.pointer (some ⟨h, 0, none⟩), wdV a, wdV d] σ (.tuple #[wdV (0, 0), .int .i64 7]) σ :=
  heap_read (l := [wdV a, wdV d]) ha rfl rfl fun w p S hH => cons_full S p m a d w hH hm
theorem s_made (ha : σ.abs = heapAbs h m) (hm : 0 < m.limit) : SCall G Tryd.prog 36 #[.pointer (some ⟨h, 0, none⟩)] σ (.bool true) σ :=
  heap_read (l := []) ha rfl rfl fun w p S hH => by
    obtain ⟨_, vo, vf, os, hI⟩ := hH
    exact (made_yes p m.limit w hm (hI.blk.cell 0)).mono fun e w' ⟨k1, k2⟩ => ⟨k1, k2 ▸ Below.refl _ _⟩
theorem s_addFull (V : Value) (ha : σ.abs = heapAbs h m) (hm : m.many = m.limit) : SCall G Tryd.prog 37 #[.pointer (some ⟨h, 0, none⟩), V] σ (.tuple #[wdV (0, 0), .int .i64 7]) σ := by
  have := heap_call (G := G) (P := Tryd.prog) (f := 37) (args := #[.pointer (some ⟨h, 0, none⟩), V]) (v := (.tuple #[wdV (0, 0), .int .i64 7])) (m' := m) ha rfl fun μ w cargs bi S _ har h1 h2 h3 _ => by
    obtain ⟨u, rfl, _⟩ := args_open h1 h2 har
    obtain ⟨hok, vo, vf, os, hI⟩ := id h3
    have hB := hI.blk
    rw [hm] at hB
    exact (add_full bi.blk m.limit m.used u vo vf w hB).mono fun e w' ⟨he, hb⟩ => ⟨S, he, h3.below hb, .of_below hb⟩
  rwa [with_same ha] at this
theorem s_vecF {k : Nat} (ha : σ.abs = heapAbs h m) (hm : m.many < m.limit) (hf : m.free = [(k : Int)]) (hk : m.objs[k]? = some none) :
    SCall G Tryd.prog 10 #[.pointer (some ⟨h, 0, none⟩), .slice none 0 0] σ (.tuple #[wdV (4, (k : Int)), .int .i64 0]) (σ.with (heapAbs h (m.take k (.vec [])))) :=
  heap_call ha rfl fun μ w cargs bi S _ har h1 h2 h3 _ => by
    have : cargs = _ := args_heap (l := [.slice none 0 0]) h1 h2 rfl har
    subst this
    have hu := h3.1.used
    exact vec_reuse S bi.blk m none 0 0 [] w h3 (by decide) ⟨rfl, fun h => absurd h (by decide)⟩ hm hf hk (by omega)
theorem s_textFull (hR : RowsAt rowsU σ) (h16 : 16 ≤ G) (ha : σ.abs = heapAbs h m) (hm : m.many = m.limit) : SCall G Tryd.prog 11 #[.pointer (some ⟨h, 0, none⟩), .string ByteArray.empty] σ (.tuple #[wdV (0, 0), .int .i64 7]) σ := by
  have := heap_call (G := G) (P := Tryd.prog) (f := 11) (args := #[.pointer (some ⟨h, 0, none⟩), .string ByteArray.empty]) (v := (.tuple #[wdV (0, 0), .int .i64 7])) (m' := m) ha rfl fun μ w cargs bi S hs har h1 h2 h3 hav => by
    have hT : Tabs w := tabs_of_rows (rows_lie hs (fun g cs hm => Nat.lt_of_lt_of_le (rowsU_low g cs hm) h16) (fun g cs hm => Nat.lt_of_lt_of_le (rowsU_low g cs hm) (by decide)) rowsU_flat hR)
    have hout : ∀ g cs, (g, cs) ∈ rowsU → S g = none := fun g cs hm => by
      obtain ⟨t, gg, ht⟩ := hR g cs hm
      obtain ⟨ci, hb, e12⟩ := hs.glob g (Nat.lt_of_lt_of_le (rowsU_low g cs hm) h16)
      have := hav g _ ci ht hb
      rwa [(e12 (Nat.lt_of_lt_of_le (rowsU_low g cs hm) (by decide))).1] at this
    have hTS : TabsOut S := ⟨hout _ firstL (by simp [rowsU]), hout _ accL (by simp [rowsU])⟩
    have : cargs = _ := args_heap (l := [.string ByteArray.empty]) h1 h2 rfl har
    subst this
    exact (text_full S bi.blk m ByteArray.empty w h3 (by decide) hT hTS (by decide) (by decide) hm).mono fun e w' ⟨he, hb⟩ => ⟨S, he, h3.below hb, .of_below hb⟩
  rwa [with_same ha] at this
end
end Go.Proofs.YthmfiahmfdadgaaDoor
