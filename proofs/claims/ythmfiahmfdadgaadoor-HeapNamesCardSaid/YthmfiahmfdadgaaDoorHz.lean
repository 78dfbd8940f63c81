/-
  Two heaps beside the rows of the second memory; Copy, Room, Text, Vec as calls of the second memory. Conditions: the heaps lie there as HeapAt says.
-/
import Derived.Test.YthmfiahmfdadgaaDoorF1
import Derived.Test.YthmfiahmfdadgaaDoorQ1
namespace Go.Proofs.YthmfiahmfdadgaaDoor
open Go.RowKit
set_option maxRecDepth 100000
/-- Two heaps beside the rows; their pointers have the numbers h and g. -/
def heapAbs2 (h : Nat) (m : HM) (g : Nat) (m2 : HM) : Abs where
  holds := fun μ w => ∃ bi bj S S2, μ h = some bi ∧ bi.sh = 0 ∧ HeapAt w S bi.blk m ∧ μ g = some bj ∧ bj.sh = 0 ∧ HeapAt w S2 bj.blk m2 ∧ (∀ B, μ.own B ↔ S B ≠ none ∨ S2 B ≠ none) ∧ ∀ B, S B ≠ none → S2 B = none
  ext := fun he ho ⟨bi, bj, S, S2, h1, h2, h3, h4, h5, h6, h7, h8⟩ => ⟨bi, bj, S, S2, he _ _ h1, h2, h3, he _ _ h4, h5, h6, by rw [ho]; exact h7, h8⟩
  keep := fun hs hk ⟨bi, bj, S, S2, h1, h2, h3, h4, h5, h6, h7, h8⟩ => ⟨bi, bj, S, S2, h1, h2, h3.keep hs fun b hb => hk b ((h7 b).2 (.inl hb)), h4, h5, h6.keep hs fun b hb => hk b ((h7 b).2 (.inr hb)), h7, h8⟩
  lt := fun ⟨_, _, _, _, _, _, h3, _, _, h6, h7, _⟩ B hB => ((h7 B).1 hB).elim (h3.lt B) (h6.lt B)
section
variable {P : Program} {G : Nat}
/-- A call that turns what lies beside the rows. -/
theorem abs_call {f : FuncId} {args : Array Value} {v : Value} {σ : Mem} {a' : Abs} (hv : closedV 3 v = true)
    (hc : ∀ μ w cargs, Sim G μ σ w → ARel μ args cargs → σ.abs.holds μ w → Calls P f cargs w fun e w' => ∃ own' : Nat → Prop, e = .returned v ∧ a'.holds ⟨μ.at_, own'⟩ w' ∧ (∀ B, B < w.heap.size → own' B → μ.own B) ∧ w.heap.size ≤ w'.heap.size ∧ w'.os = w.os ∧ w'.tape = w.tape ∧ w'.output = w.output ∧ ∀ B, B < w.heap.size → ¬ μ.own B → w'.heap[B]? = w.heap[B]?) :
    SCall G P f args σ v (σ.with a') := by
  refine ⟨Nat.le_refl _, fun μ w cargs hs hG _ har => ?_⟩
  refine (hc μ w cargs hs har hs.abs.1).mono ?_
  rintro e w' ⟨own', rfl, ha', hold, hsz, hos, htp, hou, hk⟩
  refine ⟨v, ⟨μ.at_, own'⟩, rfl, ⟨Nat.le_refl _, fun b g1 g2 => absurd g1 (by have : b < σ.next := g2; omega), fun _ _ => rfl, ⟨hs.glob, fun b x ci hx hm => ?_, hs.inj, hs.rw_, ha', fun b x ci hx hm hB => ?_⟩, hsz, hos, htp, hou, fun b x ci hb hx _ => ?_, fun b x _ hx => ⟨x, hx⟩, hG, fun B hB => ?_, fun B hB hn _ => hk B hB hn⟩, closedV_rel _ 3 v hv⟩
  · have k := hs.blk b x ci hx hm
    exact k.keep (hk _ k.lt (hs.abs.2 b x ci hx hm)) fun _ _ h => h
  · exact hs.abs.2 b x ci hx hm (hold _ (hs.blk b x ci hx hm).lt hB)
  · have : b < σ.next := Mem.lt hx
    omega
  · rcases Nat.lt_or_ge B w.heap.size with h5 | h5
    · exact .inl (hold B h5 hB)
    · exact .inr h5
end
section
variable {G : Nat} {σ : Mem} {h : Nat} {m : HM}
theorem s_room (ha : σ.abs = heapAbs h m) : SCall G Tryd.prog 29 #[.pointer (some ⟨h, 0, none⟩)] σ (.int .i64 ((1048576 - m.used : Nat) : Int)) σ :=
  heap_read (l := []) ha rfl rfl fun w p S hH => (room_heap S p m w hH).mono fun _ _ ⟨h1, h2⟩ => ⟨h1, h2 ▸ Below.refl _ _⟩
/-- Room of the second heap, which is forgotten. -/
theorem s_room2 {g : Nat} {m2 : HM} (ha : σ.abs = heapAbs2 h m g m2) : SCall G Tryd.prog 29 #[.pointer (some ⟨g, 0, none⟩)] σ (.int .i64 ((1048576 - m2.used : Nat) : Int)) (σ.with (heapAbs h m)) :=
  abs_call rfl fun μ w cargs _ har hA => by
    rw [ha] at hA
    obtain ⟨bi, bj, S, S2, h1, h2, h3, h4, h5, h6, h7, h8⟩ := hA
    have : cargs = _ := args_heap (l := []) h4 h5 rfl har
    subst this
    refine (room_heap S2 bj.blk m2 w h6).mono ?_
    rintro e w' ⟨he, rfl⟩
    exact ⟨fun B => S B ≠ none, he, ⟨bi, S, h1, h2, h3, fun B => Iff.rfl⟩, fun B _ hB => (h7 B).2 (.inl hB), Nat.le_refl _, rfl, rfl, rfl, fun _ _ _ => rfl⟩
/-- One number more, which names no row. -/
def Mem.also (σ : Mem) (a : Abs) : Mem := ⟨fun b => if b = σ.next then none else σ.raw b, σ.next + 1, a⟩
theorem also_get (σ : Mem) (a : Abs) (b : Nat) : (σ.also a).get b = σ.get b := by
  unfold Mem.get Mem.also
  by_cases h : b = σ.next
  · simp [h]
  · have : b < σ.next + 1 ↔ b < σ.next := by omega
    simp [h, this]
theorem s_copy (ha : σ.abs = heapAbs h m) (hf : m.free = []) (hC : ∀ (i : Nat) x y z bs cs, m.objs[i]? ≠ some (some (HObj.code x y z bs cs))) : SCall G Tryd.prog 30 #[.pointer (some ⟨h, 0, none⟩)] σ (.pointer (some ⟨σ.next, 0, none⟩)) (σ.also (heapAbs2 h m σ.next m)) := by
  refine ⟨Nat.le_succ _, fun μ w cargs hs hG hf2 har => ?_⟩
  have hA := hs.abs.1
  rw [ha] at hA
  obtain ⟨bi, S, h1, h2, h3, h4⟩ := hA
  have hz : cargs = _ := args_heap (l := []) h1 h2 rfl har
  subst hz
  have hn : μ σ.next = none := hf2 _ (Nat.le_refl _) (Nat.lt_succ_self _)
  refine (copy_any S bi.blk m w h3 hf hC).mono ?_
  rintro e w' ⟨q, S2, rfl, hq, hL0, hLb, hnew⟩
  have key : ∀ b, b ≠ σ.next → (⟨fun c => if c = σ.next then some ⟨q, 0, 0, 0, 1⟩ else μ c, fun B => S B ≠ none ∨ S2 B ≠ none⟩ : Mu) b = μ b := fun b hb => if_neg hb
  have hne : ∀ b x, (σ.also (heapAbs2 h m σ.next m)).get b = some x → b ≠ σ.next ∧ σ.get b = some x := fun b x hx => by
    rw [also_get] at hx
    have := Mem.lt hx
    exact ⟨by omega, hx⟩
  have hext : Ext μ ⟨fun c => if c = σ.next then some ⟨q, 0, 0, 0, 1⟩ else μ c, fun B => S B ≠ none ∨ S2 B ≠ none⟩ := fun b bi h => by
    have : b ≠ σ.next := fun e => by rw [e, hn] at h; cases h
    rw [key b this]; exact h
  have hdis : ∀ B, S B ≠ none → S2 B = none := fun B hB => by
    cases e : S2 B with
    | none => rfl
    | some k => have := hnew B (by rw [e]; simp); have := h3.lt B hB; omega
  refine ⟨_, ⟨fun c => if c = σ.next then some ⟨q, 0, 0, 0, 1⟩ else μ c, fun B => S B ≠ none ∨ S2 B ≠ none⟩, rfl, ⟨Nat.le_succ _, fun b g1 g2 => ?_, fun b hb => key b ?_, ⟨fun g hg => ?_, fun b x ci hx hm => ?_, fun b b' x x' ci ci' hx hx' hm hm' e hor => ?_, fun b x ci hG' hx hm => ?_, ⟨bi, ⟨q, 0, 0, 0, 1⟩, S, S2, hext _ _ h1, h2, h3.below hLb, if_pos rfl, rfl, hL0, fun B => Iff.rfl, hdis⟩, fun b x ci hx hm hB => ?_⟩, hLb.size, hLb.os, hLb.tape, hLb.output, fun b x ci hb hx _ => ?_, fun b x hb hx => ⟨x, (hne b x hx).2⟩, hG, fun B hB => ?_, fun B hB _ _ => hLb.block B hB⟩, ?_⟩
  · have g2 : b < σ.next + 1 := g2
    have : b = σ.next := by omega
    rw [this]; exact hn
  · rcases hb with hb | hb
    · omega
    · have hb : σ.next + 1 ≤ b := hb
      omega
  · obtain ⟨bi, k1, k2⟩ := hs.glob g hg
    exact ⟨bi, hext _ _ k1, k2⟩
  · obtain ⟨k1, k2⟩ := hne b x hx
    rw [key b k1] at hm
    have k := hs.blk b x ci k2 hm
    exact k.keep (hLb.block _ k.lt) hext
  · obtain ⟨k1, k2⟩ := hne b x hx
    obtain ⟨k3, k4⟩ := hne b' x' hx'
    rw [key b k1] at hm
    rw [key b' k3] at hm'
    exact hs.inj b b' x x' ci ci' k2 k4 hm hm' e hor
  · obtain ⟨k1, k2⟩ := hne b x hx
    rw [key b k1] at hm
    exact hs.rw_ b x ci hG' k2 hm
  · obtain ⟨k1, k2⟩ := hne b x hx
    rw [key b k1] at hm
    have hlt := (hs.blk b x ci k2 hm).lt
    rcases hB with hB | hB
    · exact hs.abs.2 b x ci k2 hm ((h4 _).2 hB)
    · have := hnew _ hB; omega
  · have := Mem.lt (hne b x hx).2
    omega
  · rcases hB with hB | hB
    · exact .inl ((h4 B).2 hB)
    · exact .inr (hnew B hB)
  · exact .ptr _ 0 ⟨q, 0, 0, 0, 1⟩ (if_pos rfl)
/-- Text that is new. -/
theorem s_text {s : ByteArray} (hR : RowsAt rowsU σ) (h16 : 16 ≤ G) (ha : σ.abs = heapAbs h m) (hs0 : s.size ≤ 1000000000000) (hv : Lib.validD s.data.toList = true) (hl : lenOf s.data.toList ≤ 65536) (hm : m.many < m.limit) (hf : m.free = []) (hu : m.used + lenOf s.data.toList ≤ 1048576) :
    SCall G Tryd.prog 11 #[.pointer (some ⟨h, 0, none⟩), .string s] σ (.tuple #[wdV (3, (m.objs.length : Int)), .int .i64 0]) (σ.with (heapAbs h (m.push (.text s)))) :=
  heap_call ha rfl fun μ w cargs bi S hs har h1 h2 h3 hav => by
    have hT : Tabs w := tabs_of_rows (rows_lie hs (fun g cs hm => Nat.lt_of_lt_of_le (rowsU_low g cs hm) h16) (fun g cs hm => Nat.lt_of_lt_of_le (rowsU_low g cs hm) (by decide)) rowsU_flat hR)
    have hout : ∀ g cs, (g, cs) ∈ rowsU → S g = none := fun g cs hm => by
      obtain ⟨t, gg, ht⟩ := hR g cs hm
      obtain ⟨ci, hb, e12⟩ := hs.glob g (Nat.lt_of_lt_of_le (rowsU_low g cs hm) h16)
      have := hav g _ ci ht hb
      rwa [(e12 (Nat.lt_of_lt_of_le (rowsU_low g cs hm) (by decide))).1] at this
    have hTS : TabsOut S := ⟨hout _ firstL (by simp [rowsU]), hout _ accL (by simp [rowsU])⟩
    have : cargs = _ := args_heap (l := [.string s]) h1 h2 rfl har
    subst this
    exact text_new S bi.blk m s w h3 hs0 hT hTS hv hl hm hf hu
theorem s_textLarge {s : ByteArray} (hR : RowsAt rowsU σ) (h16 : 16 ≤ G) (ha : σ.abs = heapAbs h m) (hs0 : s.size ≤ 1000000000000) (hv : Lib.validD s.data.toList = true) (hl : lenOf s.data.toList ≤ 65536) (hm : m.many < m.limit) (hf : m.free = []) (hu : 1048576 < m.used + lenOf s.data.toList) :
    SCall G Tryd.prog 11 #[.pointer (some ⟨h, 0, none⟩), .string s] σ (.tuple #[wdV (0, 0), .int .i64 7]) σ := by
  have := heap_call (G := G) (P := Tryd.prog) (f := 11) (args := #[.pointer (some ⟨h, 0, none⟩), .string s]) (v := .tuple #[wdV (0, 0), .int .i64 7]) (m' := m) ha rfl fun μ w cargs bi S hs har h1 h2 h3 hav => by
    have hT : Tabs w := tabs_of_rows (rows_lie hs (fun g cs hm => Nat.lt_of_lt_of_le (rowsU_low g cs hm) h16) (fun g cs hm => Nat.lt_of_lt_of_le (rowsU_low g cs hm) (by decide)) rowsU_flat hR)
    have hout : ∀ g cs, (g, cs) ∈ rowsU → S g = none := fun g cs hm => by
      obtain ⟨t, gg, ht⟩ := hR g cs hm
      obtain ⟨ci, hb, e12⟩ := hs.glob g (Nat.lt_of_lt_of_le (rowsU_low g cs hm) h16)
      have := hav g _ ci ht hb
      rwa [(e12 (Nat.lt_of_lt_of_le (rowsU_low g cs hm) (by decide))).1] at this
    have hTS : TabsOut S := ⟨hout _ firstL (by simp [rowsU]), hout _ accL (by simp [rowsU])⟩
    have : cargs = _ := args_heap (l := [.string s]) h1 h2 rfl har
    subst this
    exact (text_large S bi.blk m s w h3 hs0 hT hTS hv hl hm hf hu).mono fun e w' ⟨he, hb⟩ => ⟨S, he, h3.below hb, .of_below hb⟩
  rwa [with_same ha] at this
/-- A slice of words of the second memory, as the world has it. -/
theorem sl_world {μ : Mu} {w : World} {v u : Value} {l : List Wd} (hs : Sim G μ σ w) (hsl : Sl σ 2 v (wdC l)) (hu : VRel μ v u) : ∃ A c, u = .slice A l.length c ∧ Reads w w.heap.size 2 A l.length (wdC l) := by
  generalize hxs : wdC l = xs at hsl ⊢
  have hlen := wdC_length l
  cases hsl with
  | nil =>
    have hl0 : l = [] := by
      cases l with
      | nil => rfl
      | cons a l => simp [wdC] at hxs
    have := closedV_eq 3 _ _ rfl hu
    exact ⟨none, 0, by rw [this, hl0]; rfl, by rw [hl0]; exact ⟨rfl, fun h => absurd h (by decide)⟩⟩
  | some hr hx hc =>
    rename_i b p n c sp r
    have hn : n = l.length := by
      rw [hxs, hx] at hlen
      omega
    subst hn
    obtain ⟨ri, q, c', g1, g2, _, g3⟩ := hu.slice_inv
    refine ⟨_, c', g2, hx, fun hp => ⟨⟨ri.blk, q, none⟩, rfl, (hs.blk b _ ri hr g1).lt, fun i x hi => ?_⟩⟩
    have hq := g3 (by omega)
    obtain ⟨cc, fz, t', hcc, _, hcs⟩ := (hs.blk b _ ri hr g1).lie
    have hcl : closedV 3 x = true := by
      have hm : x ∈ wdC l := by rw [hxs]; exact List.mem_of_getElem? hi
      simp only [wdC, List.mem_flatMap, List.mem_cons, List.not_mem_nil, or_false] at hm
      obtain ⟨y, _, rfl | rfl⟩ := hm <;> rfl
    obtain ⟨v', p1, p2⟩ := hcs (p + i) _ (hc i _ hi)
    have := closedV_eq 3 _ _ hcl p2
    subst this
    have hadd : (⟨ri.blk, q, none⟩ : Addr).add i = ⟨ri.blk, q + i, none⟩ := by unfold Addr.add; split <;> simp_all
    rw [hadd]
    unfold World.cell?
    simp only [hcc]
    rw [hq, Nat.add_assoc]
    exact p1
theorem s_vec {v : Value} {l : List Wd} (hsl : Sl σ 2 v (wdC l)) (ha : σ.abs = heapAbs h m) (hn : l.length ≤ 65536) (hm : m.many < m.limit) (hf : m.free = []) (hu : m.used + l.length ≤ 1048576) :
    SCall G Tryd.prog 10 #[.pointer (some ⟨h, 0, none⟩), v] σ (.tuple #[wdV (4, (m.objs.length : Int)), .int .i64 0]) (σ.with (heapAbs h (m.push (.vec l)))) :=
  heap_call ha rfl fun μ w cargs bi S hs har h1 h2 h3 _ => by
    obtain ⟨u, rfl, hu2⟩ := args_open h1 h2 har
    obtain ⟨A, c, rfl, hR⟩ := sl_world hs hsl hu2
    exact vec_new S bi.blk m A l.length c l w h3 hn hR hm hf hu
theorem s_vecLarge {v : Value} {l : List Wd} (hsl : Sl σ 2 v (wdC l)) (ha : σ.abs = heapAbs h m) (hn : l.length ≤ 65536) (hm : m.many < m.limit) (hf : m.free = []) (hu : 1048576 < m.used + l.length) :
    SCall G Tryd.prog 10 #[.pointer (some ⟨h, 0, none⟩), v] σ (.tuple #[wdV (0, 0), .int .i64 7]) σ := by
  have := heap_call (G := G) (P := Tryd.prog) (f := 10) (args := #[.pointer (some ⟨h, 0, none⟩), v]) (v := .tuple #[wdV (0, 0), .int .i64 7]) (m' := m) ha rfl fun μ w cargs bi S hs har h1 h2 h3 _ => by
    obtain ⟨u, rfl, hu2⟩ := args_open h1 h2 har
    obtain ⟨A, c, rfl, hR⟩ := sl_world hs hsl hu2
    exact (vec_large S bi.blk m A l.length c l w h3 hn hR hm hf hu).mono fun e w' ⟨he, hb⟩ => ⟨S, he, h3.below hb, .of_below hb⟩
  rwa [with_same ha] at this
end
end Go.Proofs.YthmfiahmfdadgaaDoor
