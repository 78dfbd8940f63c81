/-
  Code at a full heap in the second memory. Conditions: the heap lies there as HeapAt says.
-/
import Derived.Test.YthmfiahmfdadgaaDoorFb
import Derived.Test.YthmfiahmfdadgaaDoorKz
namespace Go.Proofs.YthmfiahmfdadgaaDoor
set_option maxRecDepth 100000
section
variable {G h : Nat} {m : HM} {σ σ0 : Mem}
theorem s_ownC : SCall G Tryd.prog 46 #[.agg #[.int .i64 0, .int .i64 0, .int .i64 0, .slice none 0 0, .slice none 0 0]] σ (.agg #[.int .i64 0, .int .i64 0, .int .i64 0, .slice none 0 0, .slice none 0 0]) σ :=
  closed_scall (G := 16) (n := 100) (K := noK []) (args := [.agg #[.int .i64 0, .int .i64 0, .int .i64 0, .slice none 0 0, .slice none 0 0]]) noK_right (by kernel_rfl) rfl rfl (fun _ _ h => by cases h) (fun _ _ h => by cases h) (fun _ _ h => by cases h) σ (fun _ _ h => by cases h)
set_option maxHeartbeats 2000000 in
theorem code_full (hG : G ≤ σ0.next) (ha : σ0.abs = heapAbs h m) (hlo : 0 < m.limit) (hm : m.many = m.limit) :
    WC G Tryd.prog 23 #[pp h, .agg #[.int .i64 0, .int .i64 0, .int .i64 0, .slice none 0 0, .slice none 0 0]] σ0 fun v σ' => v = .tuple #[wdV (0, 0), .int .i64 7] ∧ Grow σ0 σ' := by
  refine WC.enter (fn := Tryd.f23) Tryd.func23 rfl ?_
  refine W.know 0 (x := pp h) rfl ?_
  refine W.seq ?_
  refine W.region ?_
  refine RW.makeG (x := .row ⟨[.int .i64 0, .int .i64 0, .int .i64 0, .slice none 0 0, .slice none 0 0], 49, false⟩) (fm := fun b => .pointer (some ⟨b, 0, none⟩)) (by kernel_rfl) (by kernel_rfl) (by kernel_rfl) (by kernel_rfl) ?_; intro σ1 _ g1 G1 n1
  refine RW.makeG (x := .row ⟨[.int .i64 0, .int .i64 0], 24, false⟩) (fm := fun b => .pointer (some ⟨b, 0, none⟩)) (by kernel_rfl) (by kernel_rfl) (by kernel_rfl) (by kernel_rfl) ?_; intro σ2 _ g2 G2 n2
  rw [n1] at g2 n2 ⊢
  refine RW.val (by kernel_rfl) (by kernel_rfl) rfl (by kernel_rfl) ?_
  refine RW.nil ?_
  have GG := G1.trans G2
  replace g1 := G2.old _ _ g1
  have a2 := GG.abs.trans ha
  refine W.seq ?_
  refine W.block ?_
  refine W.seq ?_
  refine W.region ?_
  refine RW.val (by kernel_rfl) (by kernel_rfl) rfl (by kernel_rfl) ?_
  refine RW.call (by kernel_rfl) (by kernel_rfl) rfl rfl rfl (by kernel_rfl) (by kernel_rfl) ⟨_, _, (s_made a2 hlo), ?_⟩
  refine RW.val (by kernel_rfl) (by kernel_rfl) rfl (by kernel_rfl) ?_
  refine RW.val (by kernel_rfl) (by kernel_rfl) rfl (by kernel_rfl) ?_
  refine RW.nil ?_
  refine W.cond (b := false) rfl (fun h => by cases h) (fun _ => ?_)
  refine W.seq ?_
  refine W.region ?_
  refine RW.val (by kernel_rfl) (by kernel_rfl) rfl (by kernel_rfl) ?_
  refine RW.load (by kernel_rfl) (by kernel_rfl) rfl rfl g1 rfl rfl (by kernel_rfl) ?_
  refine RW.len (by kernel_rfl) (by kernel_rfl) rfl rfl rfl rfl rfl (by kernel_rfl) ?_
  refine RW.val (by kernel_rfl) (by kernel_rfl) rfl (by kernel_rfl) ?_
  refine RW.val (by kernel_rfl) (by kernel_rfl) rfl (by kernel_rfl) ?_
  refine RW.val (by rfl) (by kernel_rfl) rfl (by kernel_rfl) ?_
  refine RW.load (by rfl) (by kernel_rfl) rfl rfl g1 rfl rfl (by kernel_rfl) ?_
  refine RW.len (by rfl) (by kernel_rfl) rfl rfl rfl rfl rfl (by kernel_rfl) ?_
  refine RW.val (by rfl) (by kernel_rfl) rfl (by kernel_rfl) ?_
  refine RW.val (by kernel_rfl) (by kernel_rfl) rfl (by kernel_rfl) ?_
  refine RW.val (by kernel_rfl) (by kernel_rfl) rfl (by kernel_rfl) ?_
  refine RW.nil ?_
  refine W.cond (b := false) rfl (fun h => by cases h) (fun _ => ?_)
  refine W.skip ?_
  refine W.seq ?_
  refine W.region ?_
  refine RW.val (by kernel_rfl) (by kernel_rfl) rfl (by kernel_rfl) ?_
  refine RW.loads 5 (by kernel_rfl) (by kernel_rfl) rfl rfl g1 rfl rfl (by kernel_rfl) ?_
  refine RW.call (by kernel_rfl) (by kernel_rfl) rfl rfl rfl (by kernel_rfl) (by kernel_rfl) ⟨_, _, s_ownC, ?_⟩
  refine RW.val (v := .agg #[.int .i64 0, .int .i64 0, .int .i64 0, .slice none 0 0, .slice none 0 0]) (by kernel_rfl) (by kernel_rfl) (by kernel_rfl) (by kernel_rfl) ?_
  refine RW.makeG (x := .row ⟨[.int .i64 0, .int .i64 0, .int .i64 0, .slice none 0 0, .slice none 0 0], 91, false⟩) (fm := fun b => .pointer (some ⟨b, 0, none⟩)) (by kernel_rfl) (by kernel_rfl) (by kernel_rfl) (by kernel_rfl) ?_; intro σ3 _ g3 G3 n3
  refine RW.val (by kernel_rfl) (by kernel_rfl) rfl (by kernel_rfl) ?_
  refine RW.call (by kernel_rfl) (by kernel_rfl) rfl rfl rfl (by kernel_rfl) (by kernel_rfl) ⟨_, _, (s_addFull _ (G3.abs.trans a2) hm), ?_⟩
  refine RW.val (by kernel_rfl) (by kernel_rfl) rfl (by kernel_rfl) ?_
  refine RW.val (by kernel_rfl) (by kernel_rfl) rfl (by kernel_rfl) ?_
  refine RW.setG (b := σ0.next + 1) (vs := #[.int .i64 0, .int .i64 0]) (by kernel_rfl) (by kernel_rfl) rfl rfl (by omega) (G3.old _ _ g2) rfl rfl (by kernel_rfl) rfl (by kernel_rfl) ?_; intro σ4 _ s4
  refine RW.val (by kernel_rfl) (by kernel_rfl) rfl (by kernel_rfl) ?_
  refine RW.nil ?_
  refine W.ret ?_
  exact endG (R := fun v σ' => v = .tuple #[wdV (0, 0), .int .i64 7] ∧ Grow σ0 σ') (vs := [_, _]) rfl (resW rfl s4.at_ (resL_tmp rfl)) ⟨rfl, (GG.trans G3).set s4 (by omega)⟩
end
end Go.Proofs.YthmfiahmfdadgaaDoor
