/-
  lists.Tail, Nth, Append, Length, eq in the second memory; the kit's Int and Pick. Conditions: the heap lies there as HeapAt says.
-/
import Derived.Test.YtehcckhdppdkcaaGreatDoorLv
import Derived.Test.YtehcckhdppdkcaaGreatDoorPick
namespace Go.Proofs.YtehcckhdppdkcaaGreatDoor
open Go.RowKit
set_option maxRecDepth 100000
theorem int_any (a : Int) (w : World) : Calls Tryz.prog 23 #[.int .i64 a] w fun e w' => e = .returned (.agg #[.int .i64 0, .int .i64 a]) ∧ Below w.heap.size w w' := by
  go_enter Tryz.func23, Tryz.ntmps23
  go_wp2
  exact bodyPost_ret (v := .agg #[.int .i64 0, .int .i64 a]) (by simp [results, Tryz.results23, go_sem]) rfl ⟨rfl, (Below.refl _ _).alloc (Nat.le_refl _) _⟩
section
variable {G h : Nat} {m : HM} {σ0 σ : Mem}
theorem s_int (a : Int) : SCall G Tryz.prog 23 #[.int .i64 a] σ (wdV (0, a)) σ := below_call rfl rfl fun w => int_any a w
theorem s_pick (x n : Int) (h1 : -9223372036854775808 ≤ x) (h2 : x ≤ 9223372036854775807) (h3 : 0 < n) (h4 : n ≤ 9223372036854775807) : SCall G Tryz.prog 19 #[.int .i64 x, .int .i64 n] σ (.int .i64 (pickOf x n)) σ :=
  below_call rfl rfl fun w => (pick_any x n w h1 h2 (by omega) h4).mono fun e w' ⟨k1, k2⟩ => ⟨k1, k2 ▸ Below.refl _ _⟩
theorem eq_wc (p : Value) (x y : Wd) (_hG : G ≤ σ.next) : WC G Tryz.prog 61 #[p, wdV x, wdV y] σ fun v σ' => v = .tuple #[.bool (decide (x = y)), .int .i64 0] ∧ Grow σ σ' := by
  obtain ⟨xk, xn⟩ := x
  obtain ⟨yk, yn⟩ := y
  refine WC.enter (fn := Tryz.f61) Tryz.func61 rfl ?_
  refine W.seq ?_
  refine W.region ?_
  refine RW.makeG (x := .row ⟨[.int .i64 xk, .int .i64 xn], 37, false⟩) (fm := fun b => .pointer (some ⟨b, 0, none⟩)) (by kernel_rfl) (by kernel_rfl) (by kernel_rfl) (by kernel_rfl) ?_; intro σ1 _ g1 G1 n1
  refine RW.makeG (x := .row ⟨[.int .i64 yk, .int .i64 yn], 37, false⟩) (fm := fun b => .pointer (some ⟨b, 0, none⟩)) (by kernel_rfl) (by kernel_rfl) (by kernel_rfl) (by kernel_rfl) ?_; intro σ2 _ g2 G2 n2
  refine RW.val (by kernel_rfl) (by kernel_rfl) rfl (by kernel_rfl) ?_
  refine RW.val (by kernel_rfl) (by kernel_rfl) rfl (by kernel_rfl) ?_
  refine RW.nil ?_
  refine W.seq ?_
  refine W.region ?_
  refine RW.loads 2 (by kernel_rfl) (by kernel_rfl) rfl rfl (G2.old _ _ g1) rfl rfl (by kernel_rfl) ?_
  refine RW.loads 2 (by kernel_rfl) (by kernel_rfl) rfl rfl g2 rfl rfl (by kernel_rfl) ?_
  refine RW.vop (v := .bool (decide (((xk, xn) : Wd) = (yk, yn)))) (by kernel_rfl) (by kernel_rfl) (vop_eqS (b := decide (((xk, xn) : Wd) = (yk, yn))) (r := decide (((xk, xn) : Wd) = (yk, yn))) rfl (.inl ⟨rfl, rfl⟩) rfl rfl rfl rfl (by kernel_rfl) (fun w => (eqWd _ _ _ _ w).trans (by simp [Prod.ext_iff, Bool.beq_eq_decide_eq]))) (by kernel_rfl) ?_
  refine RW.val (by kernel_rfl) (by kernel_rfl) rfl (by kernel_rfl) ?_
  refine RW.val (by kernel_rfl) (by kernel_rfl) rfl (by kernel_rfl) ?_
  refine RW.nil ?_
  refine W.ret ?_
  exact endG rfl (resL_tmp (resL_tmp rfl)) ⟨rfl, G1.trans G2⟩
theorem tail_wc (hG : G ≤ σ0.next) (ha : σ0.abs = heapAbs h m) (hlim : 0 < m.limit) {c a : Nat → Wd} {n : Nat} (hp : Path m c a n) (hn : n ≤ 65536) :
    WC G Tryz.prog 20 #[pp h, wdV (c 0), .int .i64 (n : Int)] σ0 fun v σ' => v = .tuple #[wdV (c n), .int .i64 0] ∧ Grow σ0 σ' := by
  refine WC.enter (fn := Tryz.f20) Tryz.func20 rfl ?_
  refine W.know 0 (x := pp h) rfl (W.know 2 (x := .int .i64 (n : Int)) rfl ?_)
  refine W.seq ?_
  refine W.region ?_
  refine RW.makeG (x := .row ⟨[.int .i64 (c 0).1, .int .i64 (c 0).2], 37, false⟩) (fm := fun b => .pointer (some ⟨b, 0, none⟩)) (by kernel_rfl) (by kernel_rfl) (by kernel_rfl) (by kernel_rfl) ?_; intro σ1 _ g1 G1 n1
  refine RW.makeG (x := .row ⟨[.int .i64 0, .int .i64 0], 37, false⟩) (fm := fun b => .pointer (some ⟨b, 0, none⟩)) (by kernel_rfl) (by kernel_rfl) (by kernel_rfl) (by kernel_rfl) ?_; intro σ2 _ g2 G2 n2
  rw [n1] at g2 n2 ⊢
  refine RW.val (by kernel_rfl) (by kernel_rfl) rfl (by kernel_rfl) ?_
  refine RW.nil ?_
  have G02 := G1.trans G2
  refine W.seq ?_
  refine W.block ?_
  refine W.seq ?_
  refine W.region ?_
  refine RW.val (by kernel_rfl) (by kernel_rfl) rfl (by kernel_rfl) ?_
  refine RW.call (by kernel_rfl) (by kernel_rfl) rfl rfl rfl (by kernel_rfl) (by kernel_rfl) ((made_wc (G02.abs.trans ha) hlim).mono ?_)
  rintro _ _ ⟨rfl, rfl⟩
  refine RW.val (by kernel_rfl) (by kernel_rfl) rfl (by kernel_rfl) ?_
  refine RW.val (by kernel_rfl) (by kernel_rfl) rfl (by kernel_rfl) ?_
  refine RW.nil ?_
  refine W.cond (b := false) rfl (fun h => by cases h) (fun _ => ?_)
  refine W.seq ?_
  refine W.region ?_
  refine RW.val (by kernel_rfl) (by kernel_rfl) rfl (by kernel_rfl) ?_
  refine RW.valE (v' := .bool false) (by kernel_rfl) (by kernel_rfl) rfl (congrArg Value.bool (decide_eq_false (by omega))) (by kernel_rfl) ?_
  refine RW.val (by kernel_rfl) (by kernel_rfl) rfl (by kernel_rfl) ?_
  refine RW.val (by rfl) (by kernel_rfl) rfl (by kernel_rfl) ?_
  refine RW.valE (v' := .bool false) (by rfl) (by kernel_rfl) rfl (congrArg Value.bool (decide_eq_false (by omega))) (by kernel_rfl) ?_
  refine RW.val (by kernel_rfl) (by kernel_rfl) rfl (by kernel_rfl) ?_
  refine RW.val (by kernel_rfl) (by kernel_rfl) rfl (by kernel_rfl) ?_
  refine RW.nil ?_
  refine W.cond (b := false) rfl (fun h => by cases h) (fun _ => ?_)
  refine W.skip ?_
  refine W.seq ?_
  refine W.seq ?_
  refine W.region ?_
  refine RW.val (by kernel_rfl) (by kernel_rfl) rfl (by kernel_rfl) ?_
  refine RW.val (by kernel_rfl) (by kernel_rfl) rfl (by kernel_rfl) ?_
  refine RW.nil ?_
  refine W.block ?_
  refine W.loop (fun mm ta σ => ∃ k : Nat, mm + k = n ∧ Grow σ0 σ ∧ σ0.next + 2 ≤ σ.next ∧ σ.get σ0.next = some (wrow (c k)) ∧ σ.get (σ0.next + 1) = some (wrow (0, 0)) ∧ ta 0 = pp h ∧ ta 4 = pp σ0.next ∧ ta 6 = pp (σ0.next + 1) ∧ ta 23 = .int .i64 (n : Int) ∧ ta 24 = .int .i64 (k : Int)) n ?_ ?_
  · exact ⟨0, rfl, G02, by omega, G2.old _ _ g1, g2, rfl, rfl, rfl, rfl, rfl⟩
  clear g1 g2 G1 G2 G02
  rintro mm ta σ ⟨k, hm, Gk, hnx, q4, q6, e0, e4, e6, e23, e24⟩
  refine W.know 0 e0 (W.know 4 e4 (W.know 6 e6 (W.know 23 e23 (W.know 24 e24 (?_)))))
  refine W.seq ?_
  refine W.region ?_
  refine RW.val (by kernel_rfl) (by kernel_rfl) rfl (by kernel_rfl) ?_
  refine RW.nil ?_
  refine W.seq ?_
  refine W.cond rfl (fun hh => ?_) (fun hh => ?_)
  · have hkn : k < n := by have := of_decide_eq_true hh; omega
    have CD := s_cdr (G := G) (c k) (Gk.abs.trans ha)
    rw [cdr_of (hp k hkn)] at CD
    refine W.skip ?_
    refine W.seq ?_
    refine W.block ?_
    refine W.seq ?_
    refine W.region ?_
    refine RW.val (by kernel_rfl) (by kernel_rfl) rfl (by kernel_rfl) ?_
    refine RW.loads 2 (by kernel_rfl) (by kernel_rfl) rfl rfl q4 rfl rfl (by kernel_rfl) ?_
    refine RW.call (by kernel_rfl) (by kernel_rfl) rfl rfl rfl (by kernel_rfl) (by kernel_rfl) ⟨_, _, CD, ?_⟩
    refine RW.val (by kernel_rfl) (by kernel_rfl) rfl (by kernel_rfl) ?_
    refine RW.val (by kernel_rfl) (by kernel_rfl) rfl (by kernel_rfl) ?_
    refine RW.val (by kernel_rfl) (by kernel_rfl) rfl (by kernel_rfl) ?_
    refine RW.varS (d := 8) (r0 := ⟨[.int .i64 0, .int .i64 0], 37, false⟩) (vs := #[.int .i64 (c (k + 1)).1, .int .i64 (c (k + 1)).2]) (by kernel_rfl) (by kernel_rfl) (by kernel_rfl) rfl (by kernel_rfl) rfl (by kernel_rfl) rfl rfl rfl rfl (by kernel_rfl) rfl (by omega) ?_
    intro σ3 _ g3 o3 n3 a3
    have G3 : Grow σ σ3 := ⟨o3, by omega, a3⟩
    refine RW.val (by kernel_rfl) (by kernel_rfl) rfl (by kernel_rfl) ?_
    refine RW.nil ?_
    refine W.seq ?_
    refine W.seq ?_
    refine W.region ?_
    refine RW.val (by kernel_rfl) (by kernel_rfl) rfl (by kernel_rfl) ?_
    refine RW.valE (v' := .bool false) (by kernel_rfl) (by kernel_rfl) rfl (congrArg Value.bool (bne_eq_false_iff_eq.2 rfl)) (by kernel_rfl) ?_
    refine RW.nil ?_
    refine W.cond (b := false) rfl (fun h => by cases h) (fun _ => ?_)
    refine W.skip ?_
    refine W.region ?_
    refine RW.loads 2 (by kernel_rfl) (by kernel_rfl) rfl rfl g3 rfl rfl (by kernel_rfl) ?_
    refine RW.setG (b := σ0.next) (vs := #[.int .i64 (c (k + 1)).1, .int .i64 (c (k + 1)).2]) (by kernel_rfl) (by kernel_rfl) rfl rfl hG (o3 _ _ q4) rfl rfl (by kernel_rfl) rfl (by kernel_rfl) ?_; intro σ4 _ s4
    refine RW.nil ?_
    refine W.region ?_
    refine RW.valE (by kernel_rfl) (by kernel_rfl) rfl (congrArg (Value.int .i64) (wrap_in (by omega) (by omega))) (by kernel_rfl) ?_
    refine RW.val (by kernel_rfl) (by kernel_rfl) rfl (by kernel_rfl) ?_
    refine RW.nil ?_
    have hn4 := s4.nx
    exact ⟨rfl, mm - 1, by omega, k + 1, by omega, (Gk.trans G3).set s4 (Nat.le_refl _), by omega, s4.at_, s4.old _ _ (by omega) (o3 _ _ q6), rfl, rfl, rfl, rfl, rfl⟩
  · have hkn : k = n := by have := of_decide_eq_false hh; omega
    subst hkn
    refine W.exit _ ?_
    refine W.seq ?_
    refine W.region ?_
    refine RW.loads 2 (by kernel_rfl) (by kernel_rfl) rfl rfl q4 rfl rfl (by kernel_rfl) ?_
    refine RW.setG (b := σ0.next + 1) (vs := #[.int .i64 (c k).1, .int .i64 (c k).2]) (by kernel_rfl) (by kernel_rfl) rfl rfl (by omega) q6 rfl rfl (by kernel_rfl) rfl (by kernel_rfl) ?_; intro σ4 _ s4
    refine RW.val (by kernel_rfl) (by kernel_rfl) rfl (by kernel_rfl) ?_
    refine RW.nil ?_
    refine W.ret ?_
    exact endG rfl (resW rfl s4.at_ (resL_tmp rfl)) ⟨rfl, Gk.set s4 (by omega)⟩
theorem nth_wc (hG : G ≤ σ0.next) (ha : σ0.abs = heapAbs h m) (hlim : 0 < m.limit) {c a : Nat → Wd} {n : Nat} (hp : Path m c a (n + 1)) (hn : n ≤ 65536) :
    WC G Tryz.prog 28 #[pp h, wdV (c 0), .int .i64 (n : Int)] σ0 fun v σ' => v = .tuple #[wdV (a n), .int .i64 0] ∧ Grow σ0 σ' := by
  refine WC.enter (fn := Tryz.f28) Tryz.func28 rfl ?_
  refine W.know 0 (x := pp h) rfl (W.know 2 (x := .int .i64 (n : Int)) rfl ?_)
  refine W.seq ?_
  refine W.region ?_
  refine RW.makeG (x := .row ⟨[.int .i64 (c 0).1, .int .i64 (c 0).2], 37, false⟩) (fm := fun b => .pointer (some ⟨b, 0, none⟩)) (by kernel_rfl) (by kernel_rfl) (by kernel_rfl) (by kernel_rfl) ?_; intro σ1 _ g1 G1 n1
  refine RW.makeG (x := .row ⟨[.int .i64 0, .int .i64 0], 37, false⟩) (fm := fun b => .pointer (some ⟨b, 0, none⟩)) (by kernel_rfl) (by kernel_rfl) (by kernel_rfl) (by kernel_rfl) ?_; intro σ2 _ g2 G2 n2
  rw [n1] at g2 n2 ⊢
  refine RW.val (by kernel_rfl) (by kernel_rfl) rfl (by kernel_rfl) ?_
  refine RW.nil ?_
  have G02 := G1.trans G2
  refine W.seq ?_
  refine W.region ?_
  refine RW.val (by kernel_rfl) (by kernel_rfl) rfl (by kernel_rfl) ?_
  refine RW.loads 2 (by kernel_rfl) (by kernel_rfl) rfl rfl (G2.old _ _ g1) rfl rfl (by kernel_rfl) ?_
  refine RW.val (by kernel_rfl) (by kernel_rfl) rfl (by kernel_rfl) ?_
  refine RW.call (by kernel_rfl) (by kernel_rfl) rfl rfl rfl (by kernel_rfl) (by kernel_rfl) ((tail_wc (n := n) (by omega) (G02.abs.trans ha) hlim (fun j hj => hp j (by omega)) hn).mono ?_)
  rintro _ σ3 ⟨rfl, G3⟩
  have hn3 := G3.nx
  refine RW.val (by kernel_rfl) (by kernel_rfl) rfl (by kernel_rfl) ?_
  refine RW.val (by kernel_rfl) (by kernel_rfl) rfl (by kernel_rfl) ?_
  refine RW.val (by kernel_rfl) (by kernel_rfl) rfl (by kernel_rfl) ?_
  refine RW.varS (d := 8) (r0 := ⟨[.int .i64 0, .int .i64 0], 37, false⟩) (vs := #[.int .i64 (c n).1, .int .i64 (c n).2]) (by kernel_rfl) (by kernel_rfl) (by kernel_rfl) rfl (by kernel_rfl) rfl (by kernel_rfl) rfl rfl rfl rfl (by kernel_rfl) rfl (by omega) ?_
  intro σ4 _ g4 o4 n4 a4
  have G4 : Grow σ3 σ4 := ⟨o4, by omega, a4⟩
  refine RW.val (by kernel_rfl) (by kernel_rfl) rfl (by kernel_rfl) ?_
  refine RW.nil ?_
  refine W.seq ?_
  refine W.seq ?_
  refine W.region ?_
  refine RW.val (by kernel_rfl) (by kernel_rfl) rfl (by kernel_rfl) ?_
  refine RW.valE (v' := .bool false) (by kernel_rfl) (by kernel_rfl) rfl (congrArg Value.bool (bne_eq_false_iff_eq.2 rfl)) (by kernel_rfl) ?_
  refine RW.nil ?_
  refine W.cond (b := false) rfl (fun h => by cases h) (fun _ => ?_)
  refine W.skip ?_
  have G04 := (G02.trans G3).trans G4
  have CC := s_car (G := G) (c n) (G04.abs.trans ha)
  rw [car_of (hp n (by omega))] at CC
  refine W.seq ?_
  refine W.region ?_
  refine RW.val (by kernel_rfl) (by kernel_rfl) rfl (by kernel_rfl) ?_
  refine RW.loads 2 (by kernel_rfl) (by kernel_rfl) rfl rfl g4 rfl rfl (by kernel_rfl) ?_
  refine RW.call (by kernel_rfl) (by kernel_rfl) rfl rfl rfl (by kernel_rfl) (by kernel_rfl) ⟨_, _, CC, ?_⟩
  refine RW.val (by kernel_rfl) (by kernel_rfl) rfl (by kernel_rfl) ?_
  refine RW.val (by kernel_rfl) (by kernel_rfl) rfl (by kernel_rfl) ?_
  refine RW.setG (b := σ0.next + 1) (vs := #[.int .i64 (a n).1, .int .i64 (a n).2]) (by kernel_rfl) (by kernel_rfl) rfl rfl (by omega) (G4.old _ _ (G3.old _ _ g2)) rfl rfl (by kernel_rfl) rfl (by kernel_rfl) ?_; intro σ5 _ s5
  refine RW.val (by kernel_rfl) (by kernel_rfl) rfl (by kernel_rfl) ?_
  refine RW.nil ?_
  refine W.ret ?_
  exact endG rfl (resW rfl s5.at_ (resL_tmp rfl)) ⟨rfl, G04.set s5 (by omega)⟩
end
end Go.Proofs.YtehcckhdppdkcaaGreatDoor
