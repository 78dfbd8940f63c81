/-
  lists.alike on two perfect trees, and on one beside a list of such: what it answers, and that it panics where too few pairs are left. Conditions: the heap lies there as HeapAt says.
-/
import Derived.Test.YtehcckhdppdkcaaGreatDoorMa
import Derived.Test.YtehcckhdppdkcaaGreatDoorS4
namespace Go.Proofs.YtehcckhdppdkcaaGreatDoor
set_option maxRecDepth 100000
/-- Two words of trees of depth d; r: are they equal. -/
def TreeR (m : HM) (r : Bool) : Nat → Wd → Wd → Prop
  | 0, a, b => (r = true ∧ a = b) ∨ (r = false ∧ a = (1, 0) ∧ b = (0, 1))
  | d + 1, a, b => a ≠ b ∧ ∃ a1 a2 b1 b2, m.find a = some (.pair a1 a2) ∧ m.find b = some (.pair b1 b2) ∧ TreeR m true d a1 b1 ∧ TreeR m r d a2 b2
/-- How many pairs are compared. -/
def costT : Nat → Nat
  | 0 => 1
  | d + 1 => 1 + costT d + costT d
theorem costT_pos : ∀ d, 1 ≤ costT d
  | 0 => Nat.le_refl _
  | d + 1 => by unfold costT; omega
theorem costT_mono {a b : Nat} (h : a ≤ b) : costT a ≤ costT b := by
  induction h with
  | refl => exact Nat.le_refl _
  | step _ ih => exact Nat.le_trans ih (by show costT _ ≤ 1 + costT _ + costT _; omega)
def fuelV : Value := .iface 159 (.agg #[.int .i64 22])
section
variable {G h : Nat} {m : HM} {σ σ0 : Mem}
theorem car_at {x a d : Wd} (h : m.find x = some (.pair a d)) : m.car x = (a, 0) := by simp [HM.car, h]
theorem cdr_at {x a d : Wd} (h : m.find x = some (.pair a d)) : m.cdr x = (d, 0) := by simp [HM.cdr, h]
theorem flat_no (d : Value) (p : Value) (hG : G ≤ σ0.next) : WC G Tryz.prog 135 #[pp h, wdV (1, 0), wdV (0, 1), d, p] σ0 fun v σ' => v = .bool false ∧ Grow σ0 σ' := by
  refine WC.enter (fn := Tryz.f135) Tryz.func135 rfl ?_
  refine W.know 0 (x := pp h) rfl ?_
  refine W.seq ?_
  refine W.region ?_
  refine RW.makeG (x := .row ⟨[.int .i64 ((1, 0) : Wd).1, .int .i64 ((1, 0) : Wd).2], 37, false⟩) (fm := fun b => .pointer (some ⟨b, 0, none⟩)) (by kernel_rfl) (by kernel_rfl) (by kernel_rfl) (by kernel_rfl) ?_; intro σ1 _ g1 G1 n1
  refine RW.makeG (x := .row ⟨[.int .i64 ((0, 1) : Wd).1, .int .i64 ((0, 1) : Wd).2], 37, false⟩) (fm := fun b => .pointer (some ⟨b, 0, none⟩)) (by kernel_rfl) (by kernel_rfl) (by kernel_rfl) (by kernel_rfl) ?_; intro σ2 _ g2 G2 n2
  rw [n1] at g2 n2 ⊢
  have g1 := G2.old _ _ g1
  refine RW.val (by kernel_rfl) (by kernel_rfl) rfl (by kernel_rfl) ?_
  refine RW.nil ?_
  refine W.reset [(0, pp h), (6, pp σ0.next), (7, pp (σ0.next + 1))] ⟨rfl, rfl, rfl, trivial⟩ fun TA => ?_
  refine W.seq ?_
  refine W.seq ?_
  refine W.region ?_
  refine RW.val (by kernel_rfl) (by kernel_rfl) rfl (by kernel_rfl) ?_
  refine RW.load (by kernel_rfl) (by kernel_rfl) rfl rfl g1 rfl rfl (by kernel_rfl) ?_
  refine RW.val (by kernel_rfl) (by kernel_rfl) rfl (by kernel_rfl) ?_
  refine RW.load (by kernel_rfl) (by kernel_rfl) rfl rfl g2 rfl rfl (by kernel_rfl) ?_
  refine RW.val (by kernel_rfl) (by kernel_rfl) rfl (by kernel_rfl) ?_
  refine RW.nil ?_
  refine W.cond (b := true) rfl (fun _ => ?_) (fun h => by cases h)
  refine W.seq ?_
  refine W.region ?_
  refine RW.val (by kernel_rfl) (by kernel_rfl) rfl (by kernel_rfl) ?_
  refine RW.nil ?_
  refine W.ret ?_
  exact endG (R := fun v σ' => v = .bool false ∧ Grow σ0 σ') (vs := [_]) rfl (resL_tmp rfl) ⟨rfl, G1.trans G2⟩
/-- How alike ends: it answers r, or too few pairs are left. -/
def AlikeQ (G : Nat) (σ0 : Mem) (L d n : Nat) (r : Bool) (ex : Exit) (ta : Nat → Value) (dm : List DItem) (σ' : Mem) : Prop :=
  (costT d ≤ n ∧ endQ Tryz.prog Tryz.f112.results.toList (fun v σ' => v = .bool r ∧ GrowE σ0 σ' L (irow ((n - costT d : Nat) : Int))) ex ta dm σ') ∨ (n < costT d ∧ ex = .panic (panC fuelV) ∧ dm = [] ∧ GrowE σ0 σ' L (irow 0))
/-- What is known of a call of alike. -/
def AlikeC (G h : Nat) (m : HM) (d : Nat) : Prop := ∀ (r : Bool) (a b : Wd) (deep n L : Nat) (σ0 : Mem), TreeR m r d a b → deep + d ≤ 200 → G ≤ σ0.next → σ0.abs = heapAbs h m → G ≤ L → σ0.get L = some (irow (n : Int)) → n ≤ 1000000 →
  (costT d ≤ n ∧ WC G Tryz.prog 112 #[pp h, wdV a, wdV b, .int .i64 (deep : Int), pp L] σ0 fun v σ' => v = .bool r ∧ GrowE σ0 σ' L (irow ((n - costT d : Nat) : Int))) ∨
  (n < costT d ∧ ∃ σ', SCallP G Tryz.prog 112 #[pp h, wdV a, wdV b, .int .i64 (deep : Int), pp L] σ0 fuelV σ' ∧ GrowE σ0 σ' L (irow 0))
end
set_option maxHeartbeats 8000000 in
theorem alike_body {G h : Nat} {m : HM} {d : Nat} (ih : ∀ e, e < d → AlikeC G h m e) {r : Bool} {a b : Wd} {deep n L : Nat} {σ0 : Mem} (hT : TreeR m r d a b) (hd : deep + d ≤ 200) (hG : G ≤ σ0.next) (ha : σ0.abs = heapAbs h m) (hLG : G ≤ L) (hl : σ0.get L = some (irow (n : Int))) (hn : n ≤ 1000000) :
    W G Tryz.prog none ((#[pp h, wdV a, wdV b, .int .i64 (deep : Int), pp L] : Array Value).size + (Tryz.f112.ntmps - (#[pp h, wdV a, wdV b, .int .i64 (deep : Int), pp L] : Array Value).size)) (bodyOf Tryz.f112) (fun t => (#[pp h, wdV a, wdV b, .int .i64 (deep : Int), pp L] : Array Value).getD t undef) [] σ0 (AlikeQ G σ0 L d n r) := by
  refine W.know 0 (x := pp h) rfl (W.know 1 (x := wdV a) rfl (W.know 2 (x := wdV b) rfl (W.know 3 (x := .int .i64 (deep : Int)) rfl (W.know 4 (x := pp L) rfl ?_))))
  have hlt := Mem.lt hl
  refine W.seq ?_
  refine W.region ?_
  refine RW.makeG (x := .row ⟨[.int .i64 a.1, .int .i64 a.2], 37, false⟩) (fm := fun b => .pointer (some ⟨b, 0, none⟩)) (by kernel_rfl) (by kernel_rfl) (by kernel_rfl) (by kernel_rfl) ?_; intro σ1 _ g1 G1 n1
  refine RW.makeG (x := .row ⟨[.int .i64 b.1, .int .i64 b.2], 37, false⟩) (fm := fun b => .pointer (some ⟨b, 0, none⟩)) (by kernel_rfl) (by kernel_rfl) (by kernel_rfl) (by kernel_rfl) ?_; intro σ2 _ g2 G2 n2
  rw [n1] at g2 n2 ⊢
  have g1 := G2.old _ _ g1
  have GG := G1.trans G2
  have a2 := GG.abs.trans ha
  have l2 := GG.old _ _ hl
  refine RW.val (by kernel_rfl) (by kernel_rfl) rfl (by kernel_rfl) ?_
  refine RW.nil ?_
  refine W.reset [(0, pp h), (3, .int .i64 (deep : Int)), (4, pp L), (6, pp σ0.next), (7, pp (σ0.next + 1))] ⟨rfl, rfl, rfl, rfl, rfl, trivial⟩ fun TA => ?_
  refine W.seq ?_
  refine W.seq ?_
  refine W.region ?_
  refine RW.val (by kernel_rfl) (by kernel_rfl) rfl (by kernel_rfl) ?_
  refine RW.valE (v' := .bool false) (by kernel_rfl) (by kernel_rfl) rfl (congrArg Value.bool (decide_eq_false (by omega))) (by kernel_rfl) ?_
  refine RW.nil ?_
  refine W.cond (b := false) rfl (fun h => by cases h) (fun _ => ?_)
  refine W.skip ?_
  refine W.seq ?_
  refine W.region ?_
  refine RW.val (by kernel_rfl) (by kernel_rfl) rfl (by kernel_rfl) ?_
  refine RW.nil ?_
  refine W.block ?_
  refine W.loop (fun mm ta σ => ∃ (a b : Wd), TreeR m r mm a b ∧ mm ≤ d ∧ (∀ c z, c ≠ L → σ0.get c = some z → σ.get c = some z) ∧ σ2.next ≤ σ.next ∧ σ.abs = heapAbs h m ∧ costT d ≤ n + costT mm ∧ σ.get L = some (irow ((n + costT mm - costT d : Nat) : Int)) ∧ σ.get σ0.next = some (wrow a) ∧ σ.get (σ0.next + 1) = some (wrow b) ∧ ta 0 = pp h ∧ ta 3 = .int .i64 (deep : Int) ∧ ta 4 = pp L ∧ ta 6 = pp σ0.next ∧ ta 7 = pp (σ0.next + 1) ∧ ta 11 = .int .i64 ((d - mm : Nat) : Int)) d ?_ ?_
  · refine ⟨a, b, hT, Nat.le_refl _, fun c z _ hz => GG.old c z hz, Nat.le_refl _, a2, by omega, ?_, g1, g2, rfl, rfl, rfl, rfl, rfl, by rw [Nat.sub_self]; rfl⟩
    rw [Nat.add_sub_cancel]
    exact l2
  clear hT g1 g2 l2 a2
  rintro mm ta σ ⟨a, b, hT, hmm, ho, hnx, ab, hcost, hL, g1, g2, e0, e3, e4, e6, e7, e11⟩
  have hmono := costT_mono hmm
  obtain ⟨q, hq⟩ : ∃ q, n + costT mm - costT d = q := ⟨_, rfl⟩
  rw [hq] at hL
  have gn : G ≤ σ.next := by omega
  refine W.know 0 e0 (W.know 3 e3 (W.know 4 e4 (W.know 6 e6 (W.know 7 e7 (W.know 11 e11 (?_))))))
  refine W.seq ?_
  refine W.block ?_
  refine W.seq ?_
  refine W.block ?_
  refine W.seq ?_
  refine W.region ?_
  refine RW.val (by kernel_rfl) (by kernel_rfl) rfl (by kernel_rfl) ?_
  refine RW.val (by kernel_rfl) (by kernel_rfl) rfl (by kernel_rfl) ?_
  refine RW.load (by kernel_rfl) (by kernel_rfl) rfl rfl hL rfl rfl (by kernel_rfl) ?_
  rcases Nat.eq_zero_or_pos q with hq0 | hq0
  · subst hq0
    refine RW.val (by kernel_rfl) (by kernel_rfl) rfl (by kernel_rfl) ?_
    refine RW.val (by kernel_rfl) (by kernel_rfl) rfl (by kernel_rfl) ?_
    refine RW.nil ?_
    refine W.cond (b := true) rfl (fun _ => ?_) (fun h => by cases h)
    refine W.panics [_, _] [] rfl ?_
    refine RW.val (v := .agg #[.int .i64 22]) (by kernel_rfl) (by kernel_rfl) (by kernel_rfl) (by kernel_rfl) ?_
    refine RW.val (by kernel_rfl) (by kernel_rfl) rfl (by kernel_rfl) ?_
    refine RW.nil ?_
    refine ⟨by kernel_rfl, by kernel_rfl, fuelV, σ, eop_panic rfl rfl (by kernel_rfl), ?_⟩
    exact .inr ⟨by have := costT_pos mm; omega, rfl, rfl, ⟨hL, ho, by omega, ab.trans ha.symm⟩⟩
  refine RW.valE (v' := .bool false) (by kernel_rfl) (by kernel_rfl) rfl (congrArg Value.bool (beq_eq_false_iff_ne.2 (by omega))) (by kernel_rfl) ?_
  refine RW.val (by kernel_rfl) (by kernel_rfl) rfl (by kernel_rfl) ?_
  refine RW.nil ?_
  refine W.cond (b := false) rfl (fun h => by cases h) (fun _ => ?_)
  refine W.seq ?_
  refine W.region ?_
  refine RW.val (by kernel_rfl) (by kernel_rfl) rfl (by kernel_rfl) ?_
  refine RW.valE (v' := .bool false) (by kernel_rfl) (by kernel_rfl) rfl (congrArg Value.bool (decide_eq_false (by omega))) (by kernel_rfl) ?_
  refine RW.val (by kernel_rfl) (by kernel_rfl) rfl (by kernel_rfl) ?_
  refine RW.nil ?_
  refine W.cond (b := false) rfl (fun h => by cases h) (fun _ => ?_)
  refine W.skip ?_
  obtain ⟨q', rfl⟩ : ∃ q', q = q' + 1 := ⟨q - 1, by omega⟩
  refine W.seq ?_
  refine W.region ?_
  refine RW.val (by kernel_rfl) (by kernel_rfl) rfl (by kernel_rfl) ?_
  refine RW.val (by kernel_rfl) (by kernel_rfl) rfl (by kernel_rfl) ?_
  refine RW.load (by kernel_rfl) (by kernel_rfl) rfl rfl hL rfl rfl (by kernel_rfl) ?_
  refine RW.valE (v' := .int .i64 (q' : Int)) (by kernel_rfl) (by kernel_rfl) rfl (congrArg (Value.int .i64) ((wrap_in (by omega) (by omega)).trans (by omega))) (by kernel_rfl) ?_
  refine RW.val (by kernel_rfl) (by kernel_rfl) rfl (by kernel_rfl) ?_
  refine RW.set1G (b := L) (v := .int .i64 (q' : Int)) (by kernel_rfl) (by kernel_rfl) rfl rfl (hLG) hL rfl rfl rfl (by kernel_rfl) rfl (by kernel_rfl) ?_; intro σ3 _ s3
  refine RW.nil ?_
  have k3 := s3.old
  have n3 := s3.nx
  replace g1 := k3 _ _ (by omega) g1
  replace g2 := k3 _ _ (by omega) g2
  have hL3 := s3.at_
  replace ho : ∀ c z, c ≠ L → σ0.get c = some z → σ3.get c = some z := fun c z hc hz => k3 c z hc (ho c z hc hz)
  have ab3 := s3.abs.trans ab
  clear s3 hL k3 ab
  refine W.reset [(0, pp h), (3, .int .i64 (deep : Int)), (4, pp L), (6, pp σ0.next), (7, pp (σ0.next + 1)), (11, .int .i64 ((d - mm : Nat) : Int))] ⟨rfl, rfl, rfl, rfl, rfl, rfl, trivial⟩ fun TA => ?_
  refine W.seq ?_
  refine W.block ?_
  refine W.seq ?_
  refine W.region ?_
  refine RW.loads 2 (by kernel_rfl) (by kernel_rfl) rfl rfl g1 rfl rfl (by kernel_rfl) ?_
  refine RW.loads 2 (by kernel_rfl) (by kernel_rfl) rfl rfl g2 rfl rfl (by kernel_rfl) ?_
  rcases mm with _ | e
  · have hc1 : costT 0 = 1 := rfl
    rw [hc1] at hq hcost hmono
    rcases hT with ⟨rfl, rfl⟩ | ⟨rfl, rfl, rfl⟩
    · refine RW.vop (v := .bool (true)) (by kernel_rfl) (by kernel_rfl) (vop_eqS (b := true) (r := true) rfl (.inl ⟨rfl, rfl⟩) rfl rfl rfl rfl (by kernel_rfl) (fun w => (eqWd _ _ _ _ w).trans (by simp))) (by kernel_rfl) ?_
      refine RW.val (by kernel_rfl) (by kernel_rfl) rfl (by kernel_rfl) ?_
      refine RW.nil ?_
      refine W.cond (b := true) rfl (fun _ => ?_) (fun h => by cases h)
      refine W.seq ?_
      refine W.region ?_
      refine RW.val (by kernel_rfl) (by kernel_rfl) rfl (by kernel_rfl) ?_
      refine RW.nil ?_
      refine W.ret ?_
      exact .inl ⟨by omega, endG (R := fun v σ' => v = .bool true ∧ GrowE σ0 σ' L (irow ((n - costT d : Nat) : Int))) (vs := [_]) rfl (resL_tmp rfl) ⟨rfl, by rw [show n - costT d = q' by omega]; exact ⟨hL3, ho, by omega, ab3.trans ha.symm⟩⟩⟩
    · refine RW.vop (v := .bool (false)) (by kernel_rfl) (by kernel_rfl) (vop_eqS (b := false) (r := false) rfl (.inl ⟨rfl, rfl⟩) rfl rfl rfl rfl (by kernel_rfl) (fun w => (eqWd _ _ _ _ w).trans (by simp))) (by kernel_rfl) ?_
      refine RW.val (by kernel_rfl) (by kernel_rfl) rfl (by kernel_rfl) ?_
      refine RW.nil ?_
      refine W.cond (b := false) rfl (fun h => by cases h) (fun _ => ?_)
      refine W.seq ?_
      refine W.region ?_
      refine RW.val (by kernel_rfl) (by kernel_rfl) rfl (by kernel_rfl) ?_
      refine RW.loads 2 (by kernel_rfl) (by kernel_rfl) rfl rfl g1 rfl rfl (by kernel_rfl) ?_
      refine RW.call (by kernel_rfl) (by kernel_rfl) rfl rfl rfl (by kernel_rfl) (by kernel_rfl) ((isCons_no (G := G) (h := h) (m := m) ((1, 0) : Wd) (by omega) ab3 (.inl (show (1 : Int) ≠ 2 by decide))).mono ?_)
      rintro _ σ4 ⟨rfl, G4⟩
      replace g1 := G4.old _ _ g1
      replace g2 := G4.old _ _ g2
      refine RW.val (by kernel_rfl) (by kernel_rfl) rfl (by kernel_rfl) ?_
      refine RW.val (by kernel_rfl) (by kernel_rfl) rfl (by kernel_rfl) ?_
      refine RW.skip (by rfl) (by kernel_rfl) ?_
      refine RW.skip (by rfl) (by kernel_rfl) ?_
      refine RW.skip (by rfl) (by kernel_rfl) ?_
      refine RW.skip (by rfl) (by kernel_rfl) ?_
      refine RW.val (by kernel_rfl) (by kernel_rfl) rfl (by kernel_rfl) ?_
      refine RW.val (by kernel_rfl) (by kernel_rfl) rfl (by kernel_rfl) ?_
      refine RW.nil ?_
      refine W.cond (b := true) rfl (fun _ => ?_) (fun h => by cases h)
      refine W.seq ?_
      refine W.region ?_
      refine RW.val (by kernel_rfl) (by kernel_rfl) rfl (by kernel_rfl) ?_
      refine RW.loads 2 (by kernel_rfl) (by kernel_rfl) rfl rfl g1 rfl rfl (by kernel_rfl) ?_
      refine RW.loads 2 (by kernel_rfl) (by kernel_rfl) rfl rfl g2 rfl rfl (by kernel_rfl) ?_
      refine RW.val (by kernel_rfl) (by kernel_rfl) rfl (by kernel_rfl) ?_
      refine RW.val (by kernel_rfl) (by kernel_rfl) rfl (by kernel_rfl) ?_
      refine RW.call (by kernel_rfl) (by kernel_rfl) rfl rfl rfl (by kernel_rfl) (by kernel_rfl) ((flat_no (G := G) (h := h) (.int .i64 (deep : Int)) (pp L) (by have := G4.nx; omega)).mono ?_)
      rintro _ σ5 ⟨rfl, G5⟩
      refine RW.val (by kernel_rfl) (by kernel_rfl) rfl (by kernel_rfl) ?_
      refine RW.nil ?_
      refine W.ret ?_
      have E3 : GrowE σ0 σ3 L (irow (q' : Int)) := ⟨hL3, ho, by omega, ab3.trans ha.symm⟩
      exact .inl ⟨by omega, endG (R := fun v σ' => v = .bool false ∧ GrowE σ0 σ' L (irow ((n - costT d : Nat) : Int))) (vs := [_]) rfl (resL_tmp rfl) ⟨rfl, by rw [show n - costT d = q' by omega]; exact (E3.then G4).then G5⟩⟩
  obtain ⟨hne, a1, a2, b1, b2, fa, fb, T1, T2⟩ := hT
  have hc1 : costT (e + 1) = 1 + costT e + costT e := rfl
  rw [hc1] at hq hcost hmono
  refine RW.vop (v := .bool (decide (a = b))) (by kernel_rfl) (by kernel_rfl) (vop_eqS (b := decide (a = b)) (r := decide (a = b)) rfl (.inl ⟨rfl, rfl⟩) rfl rfl rfl rfl (by kernel_rfl) (fun w => (eqWd _ _ _ _ w).trans (by simp [Bool.beq_eq_decide_eq, Prod.ext_iff]))) (by kernel_rfl) ?_
  refine RW.val (by kernel_rfl) (by kernel_rfl) rfl (by kernel_rfl) ?_
  refine RW.nil ?_
  refine W.cond (b := false) (by rw [decide_eq_false hne]; rfl) (fun h => by cases h) (fun _ => ?_)
  refine W.seq ?_
  refine W.region ?_
  refine RW.val (by kernel_rfl) (by kernel_rfl) rfl (by kernel_rfl) ?_
  refine RW.loads 2 (by kernel_rfl) (by kernel_rfl) rfl rfl g1 rfl rfl (by kernel_rfl) ?_
  refine RW.call (by kernel_rfl) (by kernel_rfl) rfl rfl rfl (by kernel_rfl) (by kernel_rfl) ((isCons_yes (G := G) (h := h) (m := m) a a1 a2 (by omega) ab3 fa).mono ?_)
  rintro _ σ4 ⟨rfl, G4⟩
  refine RW.val (by kernel_rfl) (by kernel_rfl) rfl (by kernel_rfl) ?_
  refine RW.val (by kernel_rfl) (by kernel_rfl) rfl (by kernel_rfl) ?_
  refine RW.val (by rfl) (by kernel_rfl) rfl (by kernel_rfl) ?_
  refine RW.loads 2 (by rfl) (by kernel_rfl) rfl rfl (G4.old _ _ g2) rfl rfl (by kernel_rfl) ?_
  refine RW.call (by rfl) (by kernel_rfl) rfl rfl rfl (by kernel_rfl) (by kernel_rfl) ((isCons_yes (G := G) (h := h) (m := m) b b1 b2 (by have := G4.nx; omega) (G4.abs.trans ab3) fb).mono ?_)
  rintro _ σ5 ⟨rfl, G5⟩
  refine RW.val (by rfl) (by kernel_rfl) rfl (by kernel_rfl) ?_
  refine RW.val (by kernel_rfl) (by kernel_rfl) rfl (by kernel_rfl) ?_
  refine RW.val (by kernel_rfl) (by kernel_rfl) rfl (by kernel_rfl) ?_
  refine RW.nil ?_
  refine W.cond (b := false) rfl (fun h => by cases h) (fun _ => ?_)
  refine W.skip ?_
  have G45 := G4.trans G5
  have n45 := G45.nx
  replace g1 := G45.old _ _ g1
  replace g2 := G45.old _ _ g2
  have hL5 := G45.old _ _ hL3
  replace ho : ∀ c z, c ≠ L → σ0.get c = some z → σ5.get c = some z := fun c z hc hz => G45.old c z (ho c z hc hz)
  have ab5 := G45.abs.trans ab3
  clear G4 G5 G45 hL3 ab3
  refine W.reset [(0, pp h), (3, .int .i64 (deep : Int)), (4, pp L), (6, pp σ0.next), (7, pp (σ0.next + 1)), (11, .int .i64 ((d - (e + 1) : Nat) : Int))] ⟨rfl, rfl, rfl, rfl, rfl, rfl, trivial⟩ fun TA => ?_
  have C1 := s_car (G := G) a ab5
  rw [car_at fa] at C1
  refine W.seq ?_
  refine W.region ?_
  refine RW.val (by kernel_rfl) (by kernel_rfl) rfl (by kernel_rfl) ?_
  refine RW.loads 2 (by kernel_rfl) (by kernel_rfl) rfl rfl g1 rfl rfl (by kernel_rfl) ?_
  refine RW.call (by kernel_rfl) (by kernel_rfl) rfl rfl rfl (by kernel_rfl) (by kernel_rfl) ⟨_, _, C1, ?_⟩
  refine RW.val (by kernel_rfl) (by kernel_rfl) rfl (by kernel_rfl) ?_
  refine RW.val (by kernel_rfl) (by kernel_rfl) rfl (by kernel_rfl) ?_
  refine RW.val (by kernel_rfl) (by kernel_rfl) rfl (by kernel_rfl) ?_
  refine RW.varS (d := 12) (r0 := ⟨[.int .i64 0, .int .i64 0], 37, false⟩) (vs := #[.int .i64 a1.1, .int .i64 a1.2]) (by kernel_rfl) (by kernel_rfl) (by kernel_rfl) rfl (by kernel_rfl) rfl (by kernel_rfl) rfl rfl rfl rfl (by kernel_rfl) rfl (by omega) ?_
  intro σ6 _ r12 o6 n6 a6
  refine RW.val (by kernel_rfl) (by kernel_rfl) rfl (by kernel_rfl) ?_
  refine RW.nil ?_
  replace g1 := o6 _ _ g1
  replace g2 := o6 _ _ g2
  have hL6 := o6 _ _ hL5
  replace ho : ∀ c z, c ≠ L → σ0.get c = some z → σ6.get c = some z := fun c z hc hz => o6 c z (ho c z hc hz)
  have ab6 := a6.trans ab5
  clear o6 a6 hL5 C1
  refine W.reset [(0, pp h), (3, .int .i64 (deep : Int)), (4, pp L), (6, pp σ0.next), (7, pp (σ0.next + 1)), (11, .int .i64 ((d - (e + 1) : Nat) : Int)), (12, pp σ5.next)] ⟨rfl, rfl, rfl, rfl, rfl, rfl, rfl, trivial⟩ fun TA => ?_
  have C1 := s_car (G := G) b ab6
  rw [car_at fb] at C1
  refine W.seq ?_
  refine W.region ?_
  refine RW.val (by kernel_rfl) (by kernel_rfl) rfl (by kernel_rfl) ?_
  refine RW.loads 2 (by kernel_rfl) (by kernel_rfl) rfl rfl g2 rfl rfl (by kernel_rfl) ?_
  refine RW.call (by kernel_rfl) (by kernel_rfl) rfl rfl rfl (by kernel_rfl) (by kernel_rfl) ⟨_, _, C1, ?_⟩
  refine RW.val (by kernel_rfl) (by kernel_rfl) rfl (by kernel_rfl) ?_
  refine RW.val (by kernel_rfl) (by kernel_rfl) rfl (by kernel_rfl) ?_
  refine RW.val (by kernel_rfl) (by kernel_rfl) rfl (by kernel_rfl) ?_
  refine RW.varS (d := 14) (r0 := ⟨[.int .i64 0, .int .i64 0], 37, false⟩) (vs := #[.int .i64 b1.1, .int .i64 b1.2]) (by kernel_rfl) (by kernel_rfl) (by kernel_rfl) rfl (by kernel_rfl) rfl (by kernel_rfl) rfl rfl rfl rfl (by kernel_rfl) rfl (by omega) ?_
  intro σ7 _ r14 o7 n7 a7
  refine RW.val (by kernel_rfl) (by kernel_rfl) rfl (by kernel_rfl) ?_
  refine RW.nil ?_
  replace g1 := o7 _ _ g1
  replace g2 := o7 _ _ g2
  have hL7 := o7 _ _ hL6
  replace r12 := o7 _ _ r12
  replace ho : ∀ c z, c ≠ L → σ0.get c = some z → σ7.get c = some z := fun c z hc hz => o7 c z (ho c z hc hz)
  have ab7 := a7.trans ab6
  clear o7 a7 hL6 C1
  refine W.reset [(0, pp h), (3, .int .i64 (deep : Int)), (4, pp L), (6, pp σ0.next), (7, pp (σ0.next + 1)), (11, .int .i64 ((d - (e + 1) : Nat) : Int)), (12, pp σ5.next), (14, pp σ6.next)] ⟨rfl, rfl, rfl, rfl, rfl, rfl, rfl, rfl, trivial⟩ fun TA => ?_
  rcases ih e (by omega) true a1 b1 (deep + 1) q' L σ7 T1 (by omega) (by omega) ab7 hLG hL7 (by omega) with ⟨hk, hC⟩ | ⟨hk, σ8, hC, E8⟩
  rotate_left
  · refine W.seq ?_
    refine W.seq ?_
    refine W.panics [_, _, _, _, _, _] [_] rfl ?_
    refine RW.val (by kernel_rfl) (by kernel_rfl) rfl (by kernel_rfl) ?_
    refine RW.loads 2 (by kernel_rfl) (by kernel_rfl) rfl rfl r12 rfl rfl (by kernel_rfl) ?_
    refine RW.loads 2 (by kernel_rfl) (by kernel_rfl) rfl rfl r14 rfl rfl (by kernel_rfl) ?_
    refine RW.val (by kernel_rfl) (by kernel_rfl) rfl (by kernel_rfl) ?_
    refine RW.valE (v' := .int .i64 ((deep + 1 : Nat) : Int)) (by kernel_rfl) (by kernel_rfl) rfl (congrArg (Value.int .i64) ((wrap_in (by omega) (by omega)).trans (by omega))) (by kernel_rfl) ?_
    refine RW.val (by kernel_rfl) (by kernel_rfl) rfl (by kernel_rfl) ?_
    refine RW.nil ?_
    refine ⟨by kernel_rfl, by kernel_rfl, fuelV, σ8, eop_callP rfl rfl rfl (by kernel_rfl) (hC.args (by kernel_rfl)), ?_⟩
    exact .inr ⟨by omega, rfl, rfl, ⟨E8.at_, fun c z hc hz => E8.old c z hc (ho c z hc hz), by have := E8.nx; omega, E8.abs.trans (ab7.trans ha.symm)⟩⟩
  refine W.seq ?_
  refine W.seq ?_
  refine W.region ?_
  refine RW.val (by kernel_rfl) (by kernel_rfl) rfl (by kernel_rfl) ?_
  refine RW.loads 2 (by kernel_rfl) (by kernel_rfl) rfl rfl r12 rfl rfl (by kernel_rfl) ?_
  refine RW.loads 2 (by kernel_rfl) (by kernel_rfl) rfl rfl r14 rfl rfl (by kernel_rfl) ?_
  refine RW.val (by kernel_rfl) (by kernel_rfl) rfl (by kernel_rfl) ?_
  refine RW.valE (v' := .int .i64 ((deep + 1 : Nat) : Int)) (by kernel_rfl) (by kernel_rfl) rfl (congrArg (Value.int .i64) ((wrap_in (by omega) (by omega)).trans (by omega))) (by kernel_rfl) ?_
  refine RW.val (by kernel_rfl) (by kernel_rfl) rfl (by kernel_rfl) ?_
  refine RW.call (by kernel_rfl) (by kernel_rfl) rfl rfl rfl (by kernel_rfl) (by kernel_rfl) ((hC).mono ?_)
  rintro _ σ8 ⟨rfl, E8⟩
  refine RW.val (by kernel_rfl) (by kernel_rfl) rfl (by kernel_rfl) ?_
  refine RW.nil ?_
  refine W.cond (b := false) rfl (fun h => by cases h) (fun _ => ?_)
  refine W.skip ?_
  have n8 := E8.nx
  replace g1 := E8.old _ _ (by omega) g1
  replace g2 := E8.old _ _ (by omega) g2
  have hL8 := E8.at_
  replace ho : ∀ c z, c ≠ L → σ0.get c = some z → σ8.get c = some z := fun c z hc hz => E8.old c z hc (ho c z hc hz)
  have ab8 := E8.abs.trans ab7
  clear E8 hL7 hC r12 r14 ab7
  refine W.reset [(0, pp h), (3, .int .i64 (deep : Int)), (4, pp L), (6, pp σ0.next), (7, pp (σ0.next + 1)), (11, .int .i64 ((d - (e + 1) : Nat) : Int))] ⟨rfl, rfl, rfl, rfl, rfl, rfl, trivial⟩ fun TA => ?_
  have C1 := s_cdr (G := G) a ab8
  rw [cdr_at fa] at C1
  refine W.seq ?_
  refine W.region ?_
  refine RW.val (by kernel_rfl) (by kernel_rfl) rfl (by kernel_rfl) ?_
  refine RW.loads 2 (by kernel_rfl) (by kernel_rfl) rfl rfl g1 rfl rfl (by kernel_rfl) ?_
  refine RW.call (by kernel_rfl) (by kernel_rfl) rfl rfl rfl (by kernel_rfl) (by kernel_rfl) ⟨_, _, C1, ?_⟩
  refine RW.val (by kernel_rfl) (by kernel_rfl) rfl (by kernel_rfl) ?_
  refine RW.val (by kernel_rfl) (by kernel_rfl) rfl (by kernel_rfl) ?_
  refine RW.val (by kernel_rfl) (by kernel_rfl) rfl (by kernel_rfl) ?_
  refine RW.setG (b := σ0.next) (vs := #[.int .i64 a2.1, .int .i64 a2.2]) (by kernel_rfl) (by kernel_rfl) rfl rfl (by omega) g1 rfl rfl (by kernel_rfl) rfl (by kernel_rfl) ?_; intro σ9 _ s9
  refine RW.nil ?_
  have n9 := s9.nx
  replace g1 := s9.at_
  replace g2 := s9.old _ _ (by omega) g2
  have hL9 := s9.old _ _ (by omega) hL8
  replace ho : ∀ c z, c ≠ L → σ0.get c = some z → σ9.get c = some z := fun c z hc hz => s9.old c z (by have := Mem.lt hz; omega) (ho c z hc hz)
  have ab9 := s9.abs.trans ab8
  clear s9 hL8 C1 ab8
  refine W.reset [(0, pp h), (3, .int .i64 (deep : Int)), (4, pp L), (6, pp σ0.next), (7, pp (σ0.next + 1)), (11, .int .i64 ((d - (e + 1) : Nat) : Int))] ⟨rfl, rfl, rfl, rfl, rfl, rfl, trivial⟩ fun TA => ?_
  have C1 := s_cdr (G := G) b ab9
  rw [cdr_at fb] at C1
  refine W.region ?_
  refine RW.val (by kernel_rfl) (by kernel_rfl) rfl (by kernel_rfl) ?_
  refine RW.loads 2 (by kernel_rfl) (by kernel_rfl) rfl rfl g2 rfl rfl (by kernel_rfl) ?_
  refine RW.call (by kernel_rfl) (by kernel_rfl) rfl rfl rfl (by kernel_rfl) (by kernel_rfl) ⟨_, _, C1, ?_⟩
  refine RW.val (by kernel_rfl) (by kernel_rfl) rfl (by kernel_rfl) ?_
  refine RW.val (by kernel_rfl) (by kernel_rfl) rfl (by kernel_rfl) ?_
  refine RW.val (by kernel_rfl) (by kernel_rfl) rfl (by kernel_rfl) ?_
  refine RW.setG (b := (σ0.next + 1)) (vs := #[.int .i64 b2.1, .int .i64 b2.2]) (by kernel_rfl) (by kernel_rfl) rfl rfl (by omega) g2 rfl rfl (by kernel_rfl) rfl (by kernel_rfl) ?_; intro σ10 _ s10
  refine RW.nil ?_
  have n10 := s10.nx
  replace g2 := s10.at_
  replace g1 := s10.old _ _ (by omega) g1
  have hL10 := s10.old _ _ (by omega) hL9
  replace ho : ∀ c z, c ≠ L → σ0.get c = some z → σ10.get c = some z := fun c z hc hz => s10.old c z (by have := Mem.lt hz; omega) (ho c z hc hz)
  have ab10 := s10.abs.trans ab9
  clear s10 hL9 C1 ab9
  refine W.reset [(0, pp h), (3, .int .i64 (deep : Int)), (4, pp L), (6, pp σ0.next), (7, pp (σ0.next + 1)), (11, .int .i64 ((d - (e + 1) : Nat) : Int))] ⟨rfl, rfl, rfl, rfl, rfl, rfl, trivial⟩ fun TA => ?_
  refine W.region ?_
  refine RW.val (by kernel_rfl) (by kernel_rfl) rfl (by kernel_rfl) ?_
  refine RW.valE (v' := .int .i64 ((d - e : Nat) : Int)) (by kernel_rfl) (by kernel_rfl) rfl (congrArg (Value.int .i64) ((wrap_in (by omega) (by omega)).trans (by omega))) (by kernel_rfl) ?_
  refine RW.val (by kernel_rfl) (by kernel_rfl) rfl (by kernel_rfl) ?_
  refine RW.nil ?_
  exact ⟨rfl, e, by omega, a2, b2, T2, by omega, ho, by omega, ab10, by omega, by rw [show n + costT e - costT d = q' - costT e by omega]; exact hL10, g1, g2, rfl, rfl, rfl, rfl, rfl, rfl⟩
theorem alike_all (G h : Nat) (m : HM) : ∀ d, AlikeC G h m d := fun d => by
  induction d using Nat.strongRecOn with
  | _ d ih =>
    intro r a b deep n L σ0 hT hd hG ha hLG hl hn
    obtain ⟨ex, ta', dm', σ', h1, h2⟩ := alike_body ih hT hd hG ha hLG hl hn
    rcases h2 with ⟨hc, hx⟩ | ⟨hc, rfl, rfl, hE⟩
    · exact .inl ⟨hc, WC.enter (fn := Tryz.f112) Tryz.func112 rfl ⟨ex, ta', dm', σ', h1, hx⟩⟩
    · exact .inr ⟨hc, σ', SCallP.of_code (fn := Tryz.f112) Tryz.func112 rfl h1, hE⟩
end Go.Proofs.YtehcckhdppdkcaaGreatDoor
