/-
  lists.Append and lists.Reverse in the second memory. Conditions: the heap lies there as HeapAt says, no number is free below.
-/
import Derived.Test.YtehcckhdppdkcaaGreatDoorLx
namespace Go.Proofs.YtehcckhdppdkcaaGreatDoor
set_option maxRecDepth 100000
section
variable {G h : Nat} {m : HM} {σ σ0 : Mem}
theorem sliceR_ok {n : Nat} {c a : Nat → Wd} {v : Value} (hn : n ≤ 65536) (hc : c n = (1, 0)) (H : SliceR G n c a σ0 v σ) : Grow σ0 σ ∧ ∃ sl, v = .tuple #[sl, .int .i64 0] ∧ GRow G σ 37 2 sl n (wdC (firstN a n)) ∧ ∀ b, blkOf sl = some b → σ0.next ≤ b := by
  obtain ⟨g, h1 | h1 | h1⟩ := H
  · omega
  · exact absurd hc h1.2.1
  · exact ⟨g, h1.2.2⟩
theorem GRow.one {e : TypeId} {s n : Nat} {v : Value} {xs : List Value} (g : GRow G σ e s v n xs) : v.cells.toList = [v] := by cases g <;> rfl
set_option maxHeartbeats 1000000 in
theorem append_wc {c a : Nat → Wd} {n : Nat} (t : Wd) (hG : G ≤ σ0.next) (ha : σ0.abs = heapAbs h m) (hf : m.free = []) (hr : m.many + n ≤ m.limit) (hlo : 0 < m.limit) (hlim : m.limit ≤ 65536) (hp : Path m c a n) (hn : n ≤ 65536) (hc : c n = (1, 0)) :
    WC G Tryz.prog 17 #[pp h, wdV (c 0), wdV t] σ0 (BuildR h m (firstN a n) t σ0) := by
  refine WC.enter (fn := Tryz.f17) Tryz.func17 rfl ?_
  refine W.know 0 (x := pp h) rfl ?_
  refine W.seq ?_
  refine W.region ?_
  refine RW.makeG (x := .row ⟨[.int .i64 (c 0).1, .int .i64 (c 0).2], 37, false⟩) (fm := fun b => .pointer (some ⟨b, 0, none⟩)) (by kernel_rfl) (by kernel_rfl) (by kernel_rfl) (by kernel_rfl) ?_; intro σ1 _ g1 G1 n1
  refine RW.makeG (x := .row ⟨[.int .i64 t.1, .int .i64 t.2], 37, false⟩) (fm := fun b => .pointer (some ⟨b, 0, none⟩)) (by kernel_rfl) (by kernel_rfl) (by kernel_rfl) (by kernel_rfl) ?_; intro σ2 _ g2 G2 n2
  refine RW.makeG (x := .row ⟨[.int .i64 0, .int .i64 0], 37, false⟩) (fm := fun b => .pointer (some ⟨b, 0, none⟩)) (by kernel_rfl) (by kernel_rfl) (by kernel_rfl) (by kernel_rfl) ?_; intro σ3 _ g3 G3 n3
  rw [n1] at g2 n2 ⊢
  rw [n2] at g3 n3 ⊢
  refine RW.val (by kernel_rfl) (by kernel_rfl) rfl (by kernel_rfl) ?_
  refine RW.nil ?_
  have G03 := (G1.trans G2).trans G3
  refine W.seq ?_
  refine W.region ?_
  refine RW.val (by kernel_rfl) (by kernel_rfl) rfl (by kernel_rfl) ?_
  refine RW.loads 2 (by kernel_rfl) (by kernel_rfl) rfl rfl (G3.old _ _ (G2.old _ _ g1)) rfl rfl (by kernel_rfl) ?_
  refine RW.call (by kernel_rfl) (by kernel_rfl) rfl rfl rfl (by kernel_rfl) (by kernel_rfl) ((slice_wc (n := n) (by omega) (G03.abs.trans ha) hlo hp (.inr ⟨hn, .inl (by rw [hc]; decide)⟩)).mono ?_)
  intro _ σ4 H
  obtain ⟨G4, sl, rfl, gr, fr⟩ := sliceR_ok hn hc H
  have hn4 := G4.nx
  refine RW.val (by kernel_rfl) (by kernel_rfl) rfl (by kernel_rfl) ?_
  refine RW.val (by kernel_rfl) (by kernel_rfl) rfl (by kernel_rfl) ?_
  refine RW.val (by kernel_rfl) (by kernel_rfl) rfl (by kernel_rfl) ?_
  refine RW.val (by kernel_rfl) (by kernel_rfl) rfl (by kernel_rfl) ?_
  refine RW.val (by kernel_rfl) (by kernel_rfl) rfl (by kernel_rfl) ?_
  refine RW.nil ?_
  refine W.seq ?_
  refine W.seq ?_
  refine W.region ?_
  refine RW.val (by kernel_rfl) (by kernel_rfl) rfl (by kernel_rfl) ?_
  refine RW.valE (v' := .bool false) (by kernel_rfl) (by kernel_rfl) rfl (congrArg Value.bool (bne_eq_false_iff_eq.2 rfl)) (by kernel_rfl) ?_
  refine RW.nil ?_
  refine W.cond (b := false) rfl (fun h => by cases h) (fun _ => ?_)
  refine W.skip ?_
  refine W.seq ?_
  refine W.region ?_
  refine RW.val (by kernel_rfl) (by kernel_rfl) rfl (by kernel_rfl) ?_
  refine RW.val (by kernel_rfl) (by kernel_rfl) rfl (by kernel_rfl) ?_
  refine RW.loads 2 (by kernel_rfl) (by kernel_rfl) rfl rfl (G4.old _ _ (G3.old _ _ g2)) rfl rfl (by kernel_rfl) ?_
  refine RW.call (by kernel_rfl) (by kernel_rfl) rfl rfl rfl (by kernel_rfl) (by kernel_rfl) ((build_wc (l := firstN a n) (t := t) (s := sl) (by omega) ((G03.trans G4).abs.trans ha) hf (by rw [firstN_length]; exact hr) hlim (fun _ => gr.sl) gr.one (by rw [firstN_length]; exact gr.len (by kernel_rfl))).mono ?_)
  rintro _ σ5 ⟨rfl, G5, a5⟩
  have hn5 := G5.nx
  refine RW.val (by kernel_rfl) (by kernel_rfl) rfl (by kernel_rfl) ?_
  refine RW.val (by kernel_rfl) (by kernel_rfl) rfl (by kernel_rfl) ?_
  refine RW.setG (b := σ0.next + 1 + 1) (vs := #[.int .i64 (built m (firstN a n) t).2.1, .int .i64 (built m (firstN a n) t).2.2]) (by kernel_rfl) (by kernel_rfl) rfl rfl (by omega) (G5.old _ _ (G4.old _ _ g3)) rfl rfl (by kernel_rfl) rfl (by kernel_rfl) ?_; intro σ6 _ s6
  refine RW.val (by kernel_rfl) (by kernel_rfl) rfl (by kernel_rfl) ?_
  refine RW.nil ?_
  refine W.ret ?_
  exact endG rfl (resW rfl s6.at_ (resL_tmp rfl)) ⟨rfl, ((G03.trans G4).a.trans G5).set s6 (by omega), s6.abs.trans a5⟩
set_option maxHeartbeats 1000000 in
theorem reverse_wc {c a : Nat → Wd} {n : Nat} (hG : G ≤ σ0.next) (ha : σ0.abs = heapAbs h m) (hf : m.free = []) (hr : m.many + n ≤ m.limit) (hlo : 0 < m.limit) (hlim : m.limit ≤ 65536) (hp : Path m c a n) (hn : n ≤ 65536) (hc : c n = (1, 0)) :
    WC G Tryz.prog 16 #[pp h, wdV (c 0)] σ0 (BuildR h m (firstN a n).reverse (1, 0) σ0) := by
  refine WC.enter (fn := Tryz.f16) Tryz.func16 rfl ?_
  refine W.know 0 (x := pp h) rfl ?_
  refine W.seq ?_
  refine W.region ?_
  refine RW.makeG (x := .row ⟨[.int .i64 (c 0).1, .int .i64 (c 0).2], 37, false⟩) (fm := fun b => .pointer (some ⟨b, 0, none⟩)) (by kernel_rfl) (by kernel_rfl) (by kernel_rfl) (by kernel_rfl) ?_; intro σ1 _ g1 G1 n1
  refine RW.makeG (x := .row ⟨[.int .i64 0, .int .i64 0], 37, false⟩) (fm := fun b => .pointer (some ⟨b, 0, none⟩)) (by kernel_rfl) (by kernel_rfl) (by kernel_rfl) (by kernel_rfl) ?_; intro σ3 _ g3 G3 n3
  rw [n1] at g3 n3 ⊢
  refine RW.val (by kernel_rfl) (by kernel_rfl) rfl (by kernel_rfl) ?_
  refine RW.nil ?_
  have G03 := G1.trans G3
  refine W.seq ?_
  refine W.region ?_
  refine RW.val (by kernel_rfl) (by kernel_rfl) rfl (by kernel_rfl) ?_
  refine RW.loads 2 (by kernel_rfl) (by kernel_rfl) rfl rfl (G3.old _ _ g1) rfl rfl (by kernel_rfl) ?_
  refine RW.call (by kernel_rfl) (by kernel_rfl) rfl rfl rfl (by kernel_rfl) (by kernel_rfl) ((slice_wc (n := n) (by omega) (G03.abs.trans ha) hlo hp (.inr ⟨hn, .inl (by rw [hc]; decide)⟩)).mono ?_)
  intro _ σ4 H
  obtain ⟨G4, sl, rfl, gr, fr⟩ := sliceR_ok hn hc H
  have hn4 := G4.nx
  have hlen := firstN_length a n
  refine RW.val (by kernel_rfl) (by kernel_rfl) rfl (by kernel_rfl) ?_
  refine RW.val (by kernel_rfl) (by kernel_rfl) rfl (by kernel_rfl) ?_
  refine RW.val (by kernel_rfl) (by kernel_rfl) rfl (by kernel_rfl) ?_
  refine RW.val (by kernel_rfl) (by kernel_rfl) rfl (by kernel_rfl) ?_
  refine RW.val (by kernel_rfl) (by kernel_rfl) rfl (by kernel_rfl) ?_
  refine RW.nil ?_
  refine W.seq ?_
  refine W.seq ?_
  refine W.region ?_
  refine RW.val (by kernel_rfl) (by kernel_rfl) rfl (by kernel_rfl) ?_
  refine RW.valE (v' := .bool false) (by kernel_rfl) (by kernel_rfl) rfl (congrArg Value.bool (bne_eq_false_iff_eq.2 rfl)) (by kernel_rfl) ?_
  refine RW.nil ?_
  refine W.cond (b := false) rfl (fun h => by cases h) (fun _ => ?_)
  refine W.skip ?_
  refine W.seq ?_
  refine W.region ?_
  refine RW.val (by kernel_rfl) (by kernel_rfl) rfl (by kernel_rfl) ?_
  refine RW.call (by kernel_rfl) (by kernel_rfl) rfl rfl rfl (by kernel_rfl) (by kernel_rfl) ((revs_wc (l := firstN a n) (by omega) (by rw [hlen]; exact gr) (by rw [hlen]; omega)).mono ?_)
  rintro _ σ5 ⟨rfl, gr5, k5, nx5, ab5⟩
  rw [hlen] at gr5
  have G5 : Grow σ3 σ5 := ⟨fun b y hy => k5 b y (fun e => by have := fr b e; have := Mem.lt hy; omega) (G4.old b y hy), by omega, ab5.trans G4.abs⟩
  refine RW.nil ?_
  refine W.seq ?_
  refine W.region ?_
  refine RW.val (by kernel_rfl) (by kernel_rfl) rfl (by kernel_rfl) ?_
  refine RW.val (by kernel_rfl) (by kernel_rfl) rfl (by kernel_rfl) ?_
  refine RW.call (by kernel_rfl) (by kernel_rfl) rfl rfl rfl (by kernel_rfl) (by kernel_rfl) ⟨_, _, s_none, ?_⟩
  refine RW.call (by kernel_rfl) (by kernel_rfl) rfl rfl rfl (by kernel_rfl) (by kernel_rfl) ((build_wc (l := (firstN a n).reverse) (t := (1, 0)) (s := sl) (by omega) ((G03.trans G5).abs.trans ha) hf (by rw [List.length_reverse, hlen]; exact hr) hlim (fun _ => gr5.sl) gr.one (by rw [List.length_reverse, hlen]; exact gr5.len (by kernel_rfl))).mono ?_)
  rintro _ σ6 ⟨rfl, G6, a6⟩
  have hn6 := G6.nx
  refine RW.val (by kernel_rfl) (by kernel_rfl) rfl (by kernel_rfl) ?_
  refine RW.val (by kernel_rfl) (by kernel_rfl) rfl (by kernel_rfl) ?_
  refine RW.setG (b := σ0.next + 1) (vs := #[.int .i64 (built m (firstN a n).reverse (1, 0)).2.1, .int .i64 (built m (firstN a n).reverse (1, 0)).2.2]) (by kernel_rfl) (by kernel_rfl) rfl rfl (by omega) (G6.old _ _ (G5.old _ _ g3)) rfl rfl (by kernel_rfl) rfl (by kernel_rfl) ?_; intro σ7 _ s7
  refine RW.val (by kernel_rfl) (by kernel_rfl) rfl (by kernel_rfl) ?_
  refine RW.nil ?_
  refine W.ret ?_
  exact endG rfl (resW rfl s7.at_ (resL_tmp rfl)) ⟨rfl, ((G03.trans G5).a.trans G6).set s7 (by omega), s7.abs.trans a6⟩
end
end Go.Proofs.YtehcckhdppdkcaaGreatDoor
