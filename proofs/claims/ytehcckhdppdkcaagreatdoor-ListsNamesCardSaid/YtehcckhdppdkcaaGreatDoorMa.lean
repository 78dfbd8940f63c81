/-
  lists.Equal's comparison of two ints in the second memory: what counts its pairs is one less. Conditions: the heap lies there as HeapAt says.
-/
import Derived.Test.YtehcckhdppdkcaaGreatDoorLr
import Derived.Test.YtehcckhdppdkcaaGreatDoorRst
import Derived.Test.YtehcckhdppdkcaaGreatDoorWq
import Derived.Test.YtehcckhdppdkcaaGreatDoorS4
namespace Go.Proofs.YtehcckhdppdkcaaGreatDoor
set_option maxRecDepth 100000
section
variable {G h : Nat} {m : HM} {σ σ0 : Mem}
theorem find_int (m : HM) (a : Int) : m.find (0, a) = none := by
  cases e : m.find (0, a) with
  | none => rfl
  | some o => have := (HM.find_mem e).2.2; cases o <;> cases this
theorem s_textInt (a : Int) (ha : σ.abs = heapAbs h m) : SCall G Tryz.prog 43 #[pp h, wdV (0, a)] σ (.tuple #[.string ByteArray.empty, .int .i64 6]) σ := by
  have e1 : m.textOf (0, a) = (ByteArray.empty, 6) := by unfold HM.textOf; rw [find_int]; rfl
  exact heap_read (l := [wdV (0, a)]) ha rfl rfl fun w p S hH => by have := textOf_heap S p m (0, a) w hH; rwa [e1] at this
theorem s_vecInt (a : Int) (ha : σ.abs = heapAbs h m) : SCall G Tryz.prog 85 #[pp h, wdV (0, a)] σ (.tuple #[.slice none 0 0, .int .i64 6]) σ :=
  heap_read (l := [wdV (0, a)]) ha rfl rfl fun w p S hH => vecOf_heap_no S p m (0, a) w hH fun l e => by rw [find_int] at e; cases e
theorem flat_wc (a b : Int) (d : Value) (p : Value) (hG : G ≤ σ0.next) (ha : σ0.abs = heapAbs h m) : WC G Tryz.prog 135 #[pp h, wdV (0, a), wdV (0, b), d, p] σ0 fun v σ' => v = .bool false ∧ Grow σ0 σ' := by
  refine WC.enter (fn := Tryz.f135) Tryz.func135 rfl ?_
  refine W.know 0 (x := pp h) rfl ?_
  refine W.seq ?_
  refine W.region ?_
  refine RW.makeG (x := .row ⟨[.int .i64 ((0, a) : Wd).1, .int .i64 ((0, a) : Wd).2], 37, false⟩) (fm := fun b => .pointer (some ⟨b, 0, none⟩)) (by kernel_rfl) (by kernel_rfl) (by kernel_rfl) (by kernel_rfl) ?_; intro σ1 _ g1 G1 n1
  refine RW.makeG (x := .row ⟨[.int .i64 ((0, b) : Wd).1, .int .i64 ((0, b) : Wd).2], 37, false⟩) (fm := fun b => .pointer (some ⟨b, 0, none⟩)) (by kernel_rfl) (by kernel_rfl) (by kernel_rfl) (by kernel_rfl) ?_; intro σ2 _ g2 G2 n2
  rw [n1] at g2 n2 ⊢
  have g1 := G2.old _ _ g1
  have GG := G1.trans G2
  have a2 := GG.abs.trans ha
  refine RW.val (by kernel_rfl) (by kernel_rfl) rfl (by kernel_rfl) ?_
  refine RW.nil ?_
  have T1 := s_textInt (G := G) a a2
  have T2 := s_textInt (G := G) b a2
  have V1 := s_vecInt (G := G) a a2
  have V2 := s_vecInt (G := G) b a2
  refine W.reset [(0, pp h), (6, pp σ0.next), (7, pp (σ0.next + 1))] ⟨rfl, rfl, rfl, trivial⟩ fun TA => ?_
  refine W.seq ?_
  refine W.seq ?_
  refine W.region ?_
  refine RW.val (by kernel_rfl) (by kernel_rfl) rfl (by kernel_rfl) ?_
  refine RW.load (by kernel_rfl) (by kernel_rfl) rfl rfl g1 rfl rfl (by kernel_rfl) ?_
  refine RW.val (by kernel_rfl) (by kernel_rfl) rfl (by kernel_rfl) ?_
  refine RW.load (by kernel_rfl) (by kernel_rfl) rfl rfl g2 rfl rfl (by kernel_rfl) ?_
  refine RW.val (by kernel_rfl) (by kernel_rfl) rfl (by kernel_rfl) ?_
  refine RW.nil ?_
  refine W.cond (b := false) rfl (fun h => by cases h) (fun _ => ?_)
  refine W.skip ?_
  refine W.seq ?_
  refine W.region ?_
  refine RW.val (by kernel_rfl) (by kernel_rfl) rfl (by kernel_rfl) ?_
  refine RW.loads 2 (by kernel_rfl) (by kernel_rfl) rfl rfl g1 rfl rfl (by kernel_rfl) ?_
  refine RW.call (by kernel_rfl) (by kernel_rfl) rfl rfl rfl (by kernel_rfl) (by kernel_rfl) ⟨_, _, T1, ?_⟩
  refine RW.val (by kernel_rfl) (by kernel_rfl) rfl (by kernel_rfl) ?_
  refine RW.val (by kernel_rfl) (by kernel_rfl) rfl (by kernel_rfl) ?_
  refine RW.val (by kernel_rfl) (by kernel_rfl) rfl (by kernel_rfl) ?_
  refine RW.val (by kernel_rfl) (by kernel_rfl) rfl (by kernel_rfl) ?_
  refine RW.val (by kernel_rfl) (by kernel_rfl) rfl (by kernel_rfl) ?_
  refine RW.nil ?_
  refine W.seq ?_
  refine W.region ?_
  refine RW.val (by kernel_rfl) (by kernel_rfl) rfl (by kernel_rfl) ?_
  refine RW.loads 2 (by kernel_rfl) (by kernel_rfl) rfl rfl g2 rfl rfl (by kernel_rfl) ?_
  refine RW.call (by kernel_rfl) (by kernel_rfl) rfl rfl rfl (by kernel_rfl) (by kernel_rfl) ⟨_, _, T2, ?_⟩
  refine RW.val (by kernel_rfl) (by kernel_rfl) rfl (by kernel_rfl) ?_
  refine RW.val (by kernel_rfl) (by kernel_rfl) rfl (by kernel_rfl) ?_
  refine RW.val (by kernel_rfl) (by kernel_rfl) rfl (by kernel_rfl) ?_
  refine RW.val (by kernel_rfl) (by kernel_rfl) rfl (by kernel_rfl) ?_
  refine RW.val (by kernel_rfl) (by kernel_rfl) rfl (by kernel_rfl) ?_
  refine RW.nil ?_
  refine W.reset [(0, pp h), (6, pp σ0.next), (7, pp (σ0.next + 1)), (12, .int .i64 6), (14, .int .i64 6)] ⟨rfl, rfl, rfl, rfl, rfl, trivial⟩ fun TB => ?_
  refine W.seq ?_
  refine W.seq ?_
  refine W.region ?_
  refine RW.val (by kernel_rfl) (by kernel_rfl) rfl (by kernel_rfl) ?_
  refine RW.val (by kernel_rfl) (by kernel_rfl) rfl (by kernel_rfl) ?_
  refine RW.val (by kernel_rfl) (by kernel_rfl) rfl (by kernel_rfl) ?_
  refine RW.skip (by rfl) (by kernel_rfl) ?_
  refine RW.skip (by rfl) (by kernel_rfl) ?_
  refine RW.val (by kernel_rfl) (by kernel_rfl) rfl (by kernel_rfl) ?_
  refine RW.nil ?_
  refine W.cond (b := false) rfl (fun h => by cases h) (fun _ => ?_)
  refine W.skip ?_
  refine W.seq ?_
  refine W.region ?_
  refine RW.val (by kernel_rfl) (by kernel_rfl) rfl (by kernel_rfl) ?_
  refine RW.loads 2 (by kernel_rfl) (by kernel_rfl) rfl rfl g1 rfl rfl (by kernel_rfl) ?_
  refine RW.call (by kernel_rfl) (by kernel_rfl) rfl rfl rfl (by kernel_rfl) (by kernel_rfl) ⟨_, _, V1, ?_⟩
  refine RW.val (by kernel_rfl) (by kernel_rfl) rfl (by kernel_rfl) ?_
  refine RW.val (by kernel_rfl) (by kernel_rfl) rfl (by kernel_rfl) ?_
  refine RW.val (by kernel_rfl) (by kernel_rfl) rfl (by kernel_rfl) ?_
  refine RW.val (by kernel_rfl) (by kernel_rfl) rfl (by kernel_rfl) ?_
  refine RW.val (by kernel_rfl) (by kernel_rfl) rfl (by kernel_rfl) ?_
  refine RW.nil ?_
  refine W.seq ?_
  refine W.region ?_
  refine RW.val (by kernel_rfl) (by kernel_rfl) rfl (by kernel_rfl) ?_
  refine RW.loads 2 (by kernel_rfl) (by kernel_rfl) rfl rfl g2 rfl rfl (by kernel_rfl) ?_
  refine RW.call (by kernel_rfl) (by kernel_rfl) rfl rfl rfl (by kernel_rfl) (by kernel_rfl) ⟨_, _, V2, ?_⟩
  refine RW.val (by kernel_rfl) (by kernel_rfl) rfl (by kernel_rfl) ?_
  refine RW.val (by kernel_rfl) (by kernel_rfl) rfl (by kernel_rfl) ?_
  refine RW.val (by kernel_rfl) (by kernel_rfl) rfl (by kernel_rfl) ?_
  refine RW.val (by kernel_rfl) (by kernel_rfl) rfl (by kernel_rfl) ?_
  refine RW.val (by kernel_rfl) (by kernel_rfl) rfl (by kernel_rfl) ?_
  refine RW.nil ?_
  refine W.reset [(12, .int .i64 6), (14, .int .i64 6)] ⟨rfl, rfl, trivial⟩ fun TC => ?_
  refine W.seq ?_
  refine W.seq ?_
  refine W.region ?_
  refine RW.val (by kernel_rfl) (by kernel_rfl) rfl (by kernel_rfl) ?_
  refine RW.val (by kernel_rfl) (by kernel_rfl) rfl (by kernel_rfl) ?_
  refine RW.val (by kernel_rfl) (by kernel_rfl) rfl (by kernel_rfl) ?_
  refine RW.skip (by rfl) (by kernel_rfl) ?_
  refine RW.skip (by rfl) (by kernel_rfl) ?_
  refine RW.val (by kernel_rfl) (by kernel_rfl) rfl (by kernel_rfl) ?_
  refine RW.val (by kernel_rfl) (by kernel_rfl) rfl (by kernel_rfl) ?_
  refine RW.skip (by rfl) (by kernel_rfl) ?_
  refine RW.skip (by rfl) (by kernel_rfl) ?_
  refine RW.skip (by rfl) (by kernel_rfl) ?_
  refine RW.skip (by rfl) (by kernel_rfl) ?_
  refine RW.skip (by rfl) (by kernel_rfl) ?_
  refine RW.val (by kernel_rfl) (by kernel_rfl) rfl (by kernel_rfl) ?_
  refine RW.nil ?_
  refine W.cond (b := true) rfl (fun _ => ?_) (fun h => by cases h)
  refine W.seq ?_
  refine W.region ?_
  refine RW.val (by kernel_rfl) (by kernel_rfl) rfl (by kernel_rfl) ?_
  refine RW.nil ?_
  refine W.ret ?_
  exact endG (R := fun v σ' => v = .bool false ∧ Grow σ0 σ') (vs := [_]) rfl (resL_tmp rfl) ⟨rfl, GG⟩
/-- What a call leaves that sets one row besides what it makes. -/
structure GrowE (σ σ' : Mem) (b : Nat) (y : Blk2) : Prop where
  at_ : σ'.get b = some y
  old : ∀ c z, c ≠ b → σ.get c = some z → σ'.get c = some z
  nx : σ.next ≤ σ'.next
  abs : σ'.abs = σ.abs
theorem GrowE.then {σ2 : Mem} {b : Nat} {y : Blk2} (g : GrowE σ0 σ b y) (k : Grow σ σ2) : GrowE σ0 σ2 b y := ⟨k.old _ _ g.at_, fun c z hc hz => k.old _ _ (g.old c z hc hz), by have := g.nx; have := k.nx; omega, k.abs.trans g.abs⟩
theorem GrowE.behind {σ2 : Mem} {b : Nat} {y z0 : Blk2} (k : Grow σ0 σ) (g : GrowE σ σ2 b y) (_hb : σ0.get b = some z0) : GrowE σ0 σ2 b y := ⟨g.at_, fun c z hc hz => g.old c z hc (k.old _ _ hz), by have := g.nx; have := k.nx; omega, g.abs.trans k.abs⟩
theorem GrowE.set {σ2 : Mem} {b c : Nat} {y z : Blk2} (g : GrowE σ0 σ b y) (s : Set1 σ σ2 c z) (hc : σ0.next ≤ c) (hb : b < σ0.next) : GrowE σ0 σ2 b y := ⟨s.old _ _ (by omega) g.at_, fun d w hd hw => s.old _ _ (by have := Mem.lt hw; omega) (g.old d w hd hw), by rw [s.nx]; exact g.nx, s.abs.trans g.abs⟩
abbrev irow (n : Int) : Blk2 := .row ⟨[.int .i64 n], 3, false⟩
theorem alike_wc (a b n : Int) {L : Nat} (hG : G ≤ σ0.next) (ha : σ0.abs = heapAbs h m) (hL : G ≤ L) (hl : σ0.get L = some (irow n)) (hn : 1 ≤ n) (hn2 : n ≤ 1000000) : WC G Tryz.prog 112 #[pp h, wdV (0, a), wdV (0, b), .int .i64 0, pp L] σ0 fun v σ' => v = .bool (decide (a = b)) ∧ GrowE σ0 σ' L (irow (n - 1)) := by
  have hlt := Mem.lt hl
  refine WC.enter (fn := Tryz.f112) Tryz.func112 rfl ?_
  refine W.know 0 (x := pp h) rfl ?_
  refine W.know 3 (x := .int .i64 0) rfl ?_
  refine W.know 4 (x := pp L) rfl ?_
  refine W.seq ?_
  refine W.region ?_
  refine RW.makeG (x := .row ⟨[.int .i64 ((0, a) : Wd).1, .int .i64 ((0, a) : Wd).2], 37, false⟩) (fm := fun b => .pointer (some ⟨b, 0, none⟩)) (by kernel_rfl) (by kernel_rfl) (by kernel_rfl) (by kernel_rfl) ?_; intro σ1 _ g1 G1 n1
  refine RW.makeG (x := .row ⟨[.int .i64 ((0, b) : Wd).1, .int .i64 ((0, b) : Wd).2], 37, false⟩) (fm := fun b => .pointer (some ⟨b, 0, none⟩)) (by kernel_rfl) (by kernel_rfl) (by kernel_rfl) (by kernel_rfl) ?_; intro σ2 _ g2 G2 n2
  rw [n1] at g2 n2 ⊢
  have g1 := G2.old _ _ g1
  have GG := G1.trans G2
  have a2 := GG.abs.trans ha
  have l2 := GG.old _ _ hl
  refine RW.val (by kernel_rfl) (by kernel_rfl) rfl (by kernel_rfl) ?_
  refine RW.nil ?_
  refine W.reset [(0, pp h), (3, .int .i64 0), (4, pp L), (6, pp σ0.next), (7, pp (σ0.next + 1))] ⟨rfl, rfl, rfl, rfl, rfl, trivial⟩ fun TA => ?_
  refine W.seq ?_
  refine W.seq ?_
  refine W.region ?_
  refine RW.val (by kernel_rfl) (by kernel_rfl) rfl (by kernel_rfl) ?_
  refine RW.val (by kernel_rfl) (by kernel_rfl) rfl (by kernel_rfl) ?_
  refine RW.nil ?_
  refine W.cond (b := false) rfl (fun h => by cases h) (fun _ => ?_)
  refine W.skip ?_
  refine W.seq ?_
  refine W.region ?_
  refine RW.val (by kernel_rfl) (by kernel_rfl) rfl (by kernel_rfl) ?_
  refine RW.nil ?_
  refine W.block ?_
  refine W.loop (fun k ta σ => k = 1 ∧ σ = σ2 ∧ ta 0 = pp h ∧ ta 3 = .int .i64 0 ∧ ta 4 = pp L ∧ ta 6 = pp σ0.next ∧ ta 7 = pp (σ0.next + 1) ∧ ta 11 = .int .i64 0) 1 ⟨rfl, rfl, rfl, rfl, rfl, rfl, rfl, rfl⟩ ?_
  rintro k ta σ ⟨rfl, hσ, e0, e3, e4, e6, e7, e11⟩
  obtain rfl := hσ.symm
  refine W.know 0 e0 (W.know 3 e3 (W.know 4 e4 (W.know 6 e6 (W.know 7 e7 (W.know 11 e11 (?_))))))
  refine W.seq ?_
  refine W.block ?_
  refine W.seq ?_
  refine W.block ?_
  refine W.seq ?_
  refine W.region ?_
  refine RW.val (by kernel_rfl) (by kernel_rfl) rfl (by kernel_rfl) ?_
  refine RW.val (by kernel_rfl) (by kernel_rfl) rfl (by kernel_rfl) ?_
  refine RW.load (by kernel_rfl) (by kernel_rfl) rfl rfl l2 rfl rfl (by kernel_rfl) ?_
  refine RW.valE (v' := .bool false) (by kernel_rfl) (by kernel_rfl) rfl (congrArg Value.bool (beq_eq_false_iff_ne.2 (by omega))) (by kernel_rfl) ?_
  refine RW.val (by kernel_rfl) (by kernel_rfl) rfl (by kernel_rfl) ?_
  refine RW.nil ?_
  refine W.cond (b := false) rfl (fun h => by cases h) (fun _ => ?_)
  refine W.seq ?_
  refine W.region ?_
  refine RW.val (by kernel_rfl) (by kernel_rfl) rfl (by kernel_rfl) ?_
  refine RW.val (by kernel_rfl) (by kernel_rfl) rfl (by kernel_rfl) ?_
  refine RW.val (by kernel_rfl) (by kernel_rfl) rfl (by kernel_rfl) ?_
  refine RW.nil ?_
  refine W.cond (b := false) rfl (fun h => by cases h) (fun _ => ?_)
  refine W.skip ?_
  refine W.seq ?_
  refine W.region ?_
  refine RW.val (by kernel_rfl) (by kernel_rfl) rfl (by kernel_rfl) ?_
  refine RW.val (by kernel_rfl) (by kernel_rfl) rfl (by kernel_rfl) ?_
  refine RW.load (by kernel_rfl) (by kernel_rfl) rfl rfl l2 rfl rfl (by kernel_rfl) ?_
  refine RW.valE (v' := .int .i64 (n - 1)) (by kernel_rfl) (by kernel_rfl) rfl (congrArg (Value.int .i64) (wrap_in (by omega) (by omega))) (by kernel_rfl) ?_
  refine RW.val (by kernel_rfl) (by kernel_rfl) rfl (by kernel_rfl) ?_
  refine RW.set1G (b := L) (v := .int .i64 (n - 1)) (by kernel_rfl) (by kernel_rfl) rfl rfl (hL) l2 rfl rfl rfl (by kernel_rfl) rfl (by kernel_rfl) ?_; intro σ3 _ s3
  refine RW.nil ?_
  have g1 := s3.old _ _ (by omega) g1
  have g2 := s3.old _ _ (by omega) g2
  have a3 := s3.abs.trans a2
  have n3 := s3.nx
  have E3 : GrowE σ0 σ3 L (irow (n - 1)) := ⟨s3.at_, fun c z hc hz => s3.old c z hc (GG.old _ _ hz), by have := GG.nx; omega, s3.abs.trans GG.abs⟩
  refine W.seq ?_
  refine W.block ?_
  refine W.seq ?_
  refine W.region ?_
  refine RW.loads 2 (by kernel_rfl) (by kernel_rfl) rfl rfl g1 rfl rfl (by kernel_rfl) ?_
  refine RW.loads 2 (by kernel_rfl) (by kernel_rfl) rfl rfl g2 rfl rfl (by kernel_rfl) ?_
  refine RW.vop (v := .bool (decide (a = b))) (by kernel_rfl) (by kernel_rfl) (vop_eqS (b := decide (a = b)) (r := decide (a = b)) rfl (.inl ⟨rfl, rfl⟩) rfl rfl rfl rfl (by kernel_rfl) (fun w => (eqWd _ _ _ _ w).trans (by simp [Bool.beq_eq_decide_eq]))) (by kernel_rfl) ?_
  refine RW.val (by kernel_rfl) (by kernel_rfl) rfl (by kernel_rfl) ?_
  refine RW.nil ?_
  by_cases hab : a = b
  · refine W.cond (b := true) (by rw [decide_eq_true hab]; rfl) (fun _ => ?_) (fun h => by cases h)
    refine W.seq ?_
    refine W.region ?_
    refine RW.val (by kernel_rfl) (by kernel_rfl) rfl (by kernel_rfl) ?_
    refine RW.nil ?_
    refine W.ret ?_
    rw [decide_eq_true hab]
    exact endG (R := fun v σ' => v = .bool true ∧ GrowE σ0 σ' L (irow (n - 1))) (vs := [_]) rfl (resL_tmp rfl) ⟨rfl, E3⟩
  · refine W.cond (b := false) (by rw [decide_eq_false hab]; rfl) (fun h => by cases h) (fun _ => ?_)
    refine W.seq ?_
    refine W.region ?_
    refine RW.val (by kernel_rfl) (by kernel_rfl) rfl (by kernel_rfl) ?_
    refine RW.loads 2 (by kernel_rfl) (by kernel_rfl) rfl rfl g1 rfl rfl (by kernel_rfl) ?_
    refine RW.call (by kernel_rfl) (by kernel_rfl) rfl rfl rfl (by kernel_rfl) (by kernel_rfl) ((isCons_no (G := G) (h := h) (m := m) (0, a) (by omega) a3 (.inl (show (0 : Int) ≠ 2 by decide))).mono ?_)
    rintro _ σ4 ⟨rfl, G4⟩
    have g1 := G4.old _ _ g1
    have g2 := G4.old _ _ g2
    have a4 := G4.abs.trans a3
    refine RW.val (by kernel_rfl) (by kernel_rfl) rfl (by kernel_rfl) ?_
    refine RW.val (by kernel_rfl) (by kernel_rfl) rfl (by kernel_rfl) ?_
    refine RW.skip (by rfl) (by kernel_rfl) ?_
    refine RW.skip (by rfl) (by kernel_rfl) ?_
    refine RW.skip (by rfl) (by kernel_rfl) ?_
    refine RW.skip (by rfl) (by kernel_rfl) ?_
    refine RW.val (by kernel_rfl) (by kernel_rfl) rfl (by kernel_rfl) ?_
    refine RW.val (by kernel_rfl) (by kernel_rfl) rfl (by kernel_rfl) ?_
    refine RW.nil ?_
    refine W.cond (b := true) rfl (fun _ => ?_) (fun h => by cases h)
    refine W.seq ?_
    refine W.region ?_
    refine RW.val (by kernel_rfl) (by kernel_rfl) rfl (by kernel_rfl) ?_
    refine RW.loads 2 (by kernel_rfl) (by kernel_rfl) rfl rfl g1 rfl rfl (by kernel_rfl) ?_
    refine RW.loads 2 (by kernel_rfl) (by kernel_rfl) rfl rfl g2 rfl rfl (by kernel_rfl) ?_
    refine RW.val (by kernel_rfl) (by kernel_rfl) rfl (by kernel_rfl) ?_
    refine RW.val (by kernel_rfl) (by kernel_rfl) rfl (by kernel_rfl) ?_
    refine RW.call (by kernel_rfl) (by kernel_rfl) rfl rfl rfl (by kernel_rfl) (by kernel_rfl) ((flat_wc (G := G) (h := h) (m := m) a b (.int .i64 0) (pp L) (by have := G4.nx; omega) a4).mono ?_)
    rintro _ σ5 ⟨rfl, G5⟩
    refine RW.val (by kernel_rfl) (by kernel_rfl) rfl (by kernel_rfl) ?_
    refine RW.nil ?_
    refine W.ret ?_
    rw [decide_eq_false hab]
    exact endG (R := fun v σ' => v = .bool false ∧ GrowE σ0 σ' L (irow (n - 1))) (vs := [_]) rfl (resL_tmp rfl) ⟨rfl, (E3.then G4).then G5⟩
/-- equal's deferred call: nothing is recovered. -/
theorem rec_call (p q : Nat) : ∃ σ', SDCall G Tryz.prog 111 (#[] ++ #[pp p, pp q]) σ0 σ' ∧ σ' = σ0 := by
  refine WD.enter (fn := Tryz.f111) Tryz.func111 rfl rfl ?_
  refine WD.seq ?_
  refine WD.recover (l := _) rfl rfl (by kernel_rfl) (by kernel_rfl) ?_
  refine RW.val (by kernel_rfl) (by kernel_rfl) rfl (by kernel_rfl) ?_
  refine RW.nil ?_
  refine WD.seq ?_
  refine WD.seq ?_
  refine WD.of ?_
  refine W.region ?_
  refine RW.val (by kernel_rfl) (by kernel_rfl) rfl (by kernel_rfl) ?_
  refine RW.val (by kernel_rfl) (by kernel_rfl) rfl (by kernel_rfl) ?_
  refine RW.nil ?_
  refine ⟨rfl, ?_⟩
  refine WD.cond (b := true) rfl (fun _ => ?_) (fun h => by cases h)
  refine WD.of ?_
  refine W.ret ?_
  exact ⟨rfl, rfl, rfl⟩
theorem equal_wc (a b n : Int) {L : Nat} (hG : G ≤ σ0.next) (ha : σ0.abs = heapAbs h m) (hlim : 0 < m.limit) (hL : G ≤ L) (hl : σ0.get L = some (irow n)) (hn : 1 ≤ n) (hn2 : n ≤ 1000000) : WC G Tryz.prog 82 #[pp h, wdV (0, a), wdV (0, b), pp L] σ0 fun v σ' => v = .tuple #[.bool (decide (a = b)), .int .i64 0] ∧ GrowE σ0 σ' L (irow (n - 1)) := by
  have hlt := Mem.lt hl
  refine WC.enterD (fn := Tryz.f82) Tryz.func82 rfl ?_
  refine W.know 0 (x := pp h) rfl ?_
  refine W.know 3 (x := pp L) rfl ?_
  refine W.seq ?_
  refine W.region ?_
  refine RW.makeG (x := .row ⟨[.int .i64 ((0, a) : Wd).1, .int .i64 ((0, a) : Wd).2], 37, false⟩) (fm := fun b => .pointer (some ⟨b, 0, none⟩)) (by kernel_rfl) (by kernel_rfl) (by kernel_rfl) (by kernel_rfl) ?_; intro σ1 _ g1 G1 n1
  refine RW.makeG (x := .row ⟨[.int .i64 ((0, b) : Wd).1, .int .i64 ((0, b) : Wd).2], 37, false⟩) (fm := fun b => .pointer (some ⟨b, 0, none⟩)) (by kernel_rfl) (by kernel_rfl) (by kernel_rfl) (by kernel_rfl) ?_; intro σ2 _ g2 G2 n2
  refine RW.makeG (x := .row ⟨[.bool false], 4, false⟩) (fm := fun b => .pointer (some ⟨b, 0, none⟩)) (by kernel_rfl) (by kernel_rfl) (by kernel_rfl) (by kernel_rfl) ?_; intro σ3 _ g3 G3 n3
  refine RW.makeG (x := .row ⟨[.int .i64 0], 24, false⟩) (fm := fun b => .pointer (some ⟨b, 0, none⟩)) (by kernel_rfl) (by kernel_rfl) (by kernel_rfl) (by kernel_rfl) ?_; intro σ4 _ g4 G4 n4
  refine RW.nil ?_
  rw [n1] at g2 n2 ⊢
  rw [n2] at g3 n3 ⊢
  rw [n3] at g4 n4 ⊢
  have GG := ((G1.trans G2).trans G3).trans G4
  have g1 := G4.old _ _ (G3.old _ _ (G2.old _ _ g1))
  have g2 := G4.old _ _ (G3.old _ _ g2)
  have g3 := G4.old _ _ g3
  have a4 := GG.abs.trans ha
  have l4 := GG.old _ _ hl
  clear G1 G2 G3 G4 n1 n2 n3
  refine W.reset [(0, pp h), (3, pp L), (5, pp σ0.next), (6, pp (σ0.next + 1)), (8, pp (σ0.next + 1 + 1)), (9, pp (σ0.next + 1 + 1 + 1))] ⟨rfl, rfl, rfl, rfl, rfl, rfl, trivial⟩ fun TA => ?_
  refine W.seq ?_
  refine W.seq ?_
  refine W.region ?_
  refine RW.val (by kernel_rfl) (by kernel_rfl) rfl (by kernel_rfl) ?_
  refine RW.call (by kernel_rfl) (by kernel_rfl) rfl rfl rfl (by kernel_rfl) (by kernel_rfl) ((made_wc (G := G) (h := h) a4 hlim).mono ?_)
  rintro _ σ' ⟨rfl, hσ⟩
  obtain rfl := hσ.symm
  refine RW.val (by kernel_rfl) (by kernel_rfl) rfl (by kernel_rfl) ?_
  refine RW.nil ?_
  refine W.cond (b := false) rfl (fun h => by cases h) (fun _ => ?_)
  refine W.skip ?_
  refine W.seq ?_
  refine W.deferred (f := 111) (fa := #[]) (as_ := #[]) (ca := #[pp (σ0.next + 1 + 1), pp (σ0.next + 1 + 1 + 1)]) [_] rfl rfl rfl rfl rfl (by kernel_rfl) ?_
  refine RW.val (by kernel_rfl) (by kernel_rfl) rfl (by kernel_rfl) ?_
  refine RW.nil ?_
  refine ⟨by kernel_rfl, by kernel_rfl, ?_⟩
  refine W.reset [(0, pp h), (3, pp L), (5, pp σ0.next), (6, pp (σ0.next + 1)), (8, pp (σ0.next + 1 + 1)), (9, pp (σ0.next + 1 + 1 + 1))] ⟨rfl, rfl, rfl, rfl, rfl, rfl, trivial⟩ fun TB => ?_
  refine W.seq ?_
  refine W.region ?_
  refine RW.val (by kernel_rfl) (by kernel_rfl) rfl (by kernel_rfl) ?_
  refine RW.loads 2 (by kernel_rfl) (by kernel_rfl) rfl rfl g1 rfl rfl (by kernel_rfl) ?_
  refine RW.loads 2 (by kernel_rfl) (by kernel_rfl) rfl rfl g2 rfl rfl (by kernel_rfl) ?_
  refine RW.val (by kernel_rfl) (by kernel_rfl) rfl (by kernel_rfl) ?_
  refine RW.call (by kernel_rfl) (by kernel_rfl) rfl rfl rfl (by kernel_rfl) (by kernel_rfl) ((alike_wc (G := G) (h := h) (m := m) a b n (by omega) a4 hL l4 hn hn2).mono ?_)
  rintro _ σ5 ⟨rfl, E5⟩
  have g3 := E5.old _ _ (by omega) g3
  have g4 := E5.old _ _ (by omega) g4
  have n5 := E5.nx
  refine RW.set1G (b := σ0.next + 1 + 1) (v := .bool (decide (a = b))) (by kernel_rfl) (by kernel_rfl) rfl rfl (by omega) g3 rfl rfl rfl (by kernel_rfl) rfl (by kernel_rfl) ?_; intro σ6 _ s6
  refine RW.set1G (b := σ0.next + 1 + 1 + 1) (v := .int .i64 0) (by kernel_rfl) (by kernel_rfl) rfl rfl (by omega) (s6.old _ _ (by omega) g4) rfl rfl rfl (by kernel_rfl) rfl (by kernel_rfl) ?_; intro σ7 _ s7
  refine RW.nil ?_
  have g3 := s7.old _ _ (by omega) s6.at_
  have g4 := s7.at_
  have EE := ((GrowE.behind GG E5 hl).set s6 (by omega) hlt).set s7 (by omega) hlt
  refine W.ret ?_
  obtain ⟨σ8, hd, rfl⟩ := rec_call (G := G) (σ0 := σ7) (σ0.next + 1 + 1) (σ0.next + 1 + 1 + 1)
  exact ⟨rfl, σ8, Shut.one (by kernel_rfl) hd (.nil _), [.bool (decide (a = b)), .int .i64 0], resL_cell (n := 1) rfl g3 ((uT_eq _ _).trans Tryz.underlying4) (by kernel_rfl) rfl (by kernel_rfl) (resE rfl g4 rfl), rfl, EE⟩
theorem counted1_wc (a b n : Int) {L : Nat} (hG : G ≤ σ0.next) (ha : σ0.abs = heapAbs h m) (hlim : 0 < m.limit) (hL : G ≤ L) (hl : σ0.get L = some (irow n)) (hn : 1 ≤ n) (hn2 : n ≤ 1000000) : WC G Tryz.prog 81 #[pp h, wdV (0, a), wdV (0, b), pp L] σ0 fun v σ' => v = .tuple #[.bool (decide (a = b)), .int .i64 0] ∧ GrowE σ0 σ' L (irow (n - 1)) := by
  refine WC.enter (fn := Tryz.f81) Tryz.func81 rfl ?_
  refine W.know 0 (x := pp h) rfl ?_
  refine W.know 3 (x := pp L) rfl ?_
  refine W.seq ?_
  refine W.region ?_
  refine RW.makeG (x := .row ⟨[.int .i64 ((0, a) : Wd).1, .int .i64 ((0, a) : Wd).2], 37, false⟩) (fm := fun b => .pointer (some ⟨b, 0, none⟩)) (by kernel_rfl) (by kernel_rfl) (by kernel_rfl) (by kernel_rfl) ?_; intro σ1 _ g1 G1 n1
  refine RW.makeG (x := .row ⟨[.int .i64 ((0, b) : Wd).1, .int .i64 ((0, b) : Wd).2], 37, false⟩) (fm := fun b => .pointer (some ⟨b, 0, none⟩)) (by kernel_rfl) (by kernel_rfl) (by kernel_rfl) (by kernel_rfl) ?_; intro σ2 _ g2 G2 n2
  refine RW.val (by kernel_rfl) (by kernel_rfl) rfl (by kernel_rfl) ?_
  refine RW.val (by kernel_rfl) (by kernel_rfl) rfl (by kernel_rfl) ?_
  refine RW.nil ?_
  rw [n1] at g2 n2 ⊢
  have GG := G1.trans G2
  have g1 := G2.old _ _ g1
  have a2 := GG.abs.trans ha
  have l2 := GG.old _ _ hl
  refine W.seq ?_
  refine W.region ?_
  refine RW.val (by kernel_rfl) (by kernel_rfl) rfl (by kernel_rfl) ?_
  refine RW.loads 2 (by kernel_rfl) (by kernel_rfl) rfl rfl g1 rfl rfl (by kernel_rfl) ?_
  refine RW.loads 2 (by kernel_rfl) (by kernel_rfl) rfl rfl g2 rfl rfl (by kernel_rfl) ?_
  refine RW.call (by kernel_rfl) (by kernel_rfl) rfl rfl rfl (by kernel_rfl) (by kernel_rfl) ((equal_wc (G := G) (h := h) (m := m) a b n (by omega) a2 hlim hL l2 hn hn2).mono ?_)
  rintro _ σ5 ⟨rfl, E5⟩
  refine RW.val (by kernel_rfl) (by kernel_rfl) rfl (by kernel_rfl) ?_
  refine RW.val (by kernel_rfl) (by kernel_rfl) rfl (by kernel_rfl) ?_
  refine RW.val (by kernel_rfl) (by kernel_rfl) rfl (by kernel_rfl) ?_
  refine RW.val (by kernel_rfl) (by kernel_rfl) rfl (by kernel_rfl) ?_
  refine RW.nil ?_
  refine W.ret ?_
  exact endG rfl (resL_tmp (resL_tmp rfl)) ⟨rfl, GrowE.behind GG E5 hl⟩
theorem counted_wc (_hG : G ≤ σ0.next) : WC G Tryz.prog 50 #[] σ0 fun v σ' => v = .func (.func 81) #[] #[pp σ0.next] ∧ Grow σ0 σ' ∧ σ'.next = σ0.next + 1 ∧ σ'.get σ0.next = some (irow 200000) := by
  refine WC.enter (fn := Tryz.f50) Tryz.func50 rfl ?_
  refine W.seq ?_
  refine W.region ?_
  refine RW.val (by kernel_rfl) (by kernel_rfl) rfl (by kernel_rfl) ?_
  refine RW.nil ?_
  refine W.seq ?_
  refine W.region ?_
  refine RW.makeG (x := .row ⟨[.int .i64 0], 3, false⟩) (fm := fun b => .pointer (some ⟨b, 0, none⟩)) (by kernel_rfl) (by kernel_rfl) (by kernel_rfl) (by kernel_rfl) ?_; intro σ1 _ g1 G1 n1
  refine RW.set1G (b := σ0.next) (v := .int .i64 200000) (by kernel_rfl) (by kernel_rfl) rfl rfl (_hG) g1 rfl rfl rfl (by kernel_rfl) rfl (by kernel_rfl) ?_; intro σ2 _ s2
  refine RW.nil ?_
  refine W.seq ?_
  refine W.region ?_
  refine RW.valE (v' := .func (.func 81) #[] #[pp σ0.next]) (by kernel_rfl) (by kernel_rfl) rfl (by kernel_rfl) (by kernel_rfl) ?_
  refine RW.val (by kernel_rfl) (by kernel_rfl) rfl (by kernel_rfl) ?_
  refine RW.nil ?_
  refine W.ret ?_
  exact endG rfl (resL_tmp rfl) ⟨rfl, G1.set s2 (Nat.le_refl _), s2.nx.trans n1, s2.at_⟩
end
end Go.Proofs.YtehcckhdppdkcaaGreatDoor
