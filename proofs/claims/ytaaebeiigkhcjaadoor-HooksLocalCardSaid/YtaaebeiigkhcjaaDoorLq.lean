/-
  The small functions of package lists and of the kit, in the second memory. Conditions: the heap lies there as HeapAt says.
-/
import Derived.Test.YtaaebeiigkhcjaaDoorLp
import Derived.Test.YtaaebeiigkhcjaaDoorS4
namespace Go.Proofs.YtaaebeiigkhcjaaDoor
set_option maxRecDepth 100000
section
variable {G : Nat} {σ : Mem} {h : Nat} {m : HM}
theorem resW {ta : Nat → Value} {a : Tmp} {b : Nat} {t : TypeId} {g : Bool} {x y : Int} {vs : List Value} {rv : List ResultVar} (ha : ta a = .pointer (some ⟨b, 0, none⟩)) (hr : σ.get b = some (.row ⟨[.int .i64 x, .int .i64 y], t, g⟩)) (k : resL Tryd.prog ta σ rv = some vs) : resL Tryd.prog ta σ (.cell a 28 :: rv) = some (.agg #[.int .i64 x, .int .i64 y] :: vs) :=
  resL_cell (n := 2) ha hr ((uT_eq _ _).trans Tryd.underlying28) (by kernel_rfl) rfl (by kernel_rfl) k
theorem int_wc (n : Int) (hG : G ≤ σ.next) : WC G Tryd.prog 19 #[.int .i64 n] σ fun v σ' => v = wdV (0, n) ∧ Grow σ σ' := by
  refine WC.enter (fn := Tryd.f19) Tryd.func19 rfl ?_
  refine W.seq ?_
  refine W.region ?_
  refine RW.makeG (x := .row ⟨[.int .i64 0, .int .i64 0], 28, false⟩) (fm := fun b => .pointer (some ⟨b, 0, none⟩)) (by kernel_rfl) (by kernel_rfl) (by kernel_rfl) (by kernel_rfl) ?_; intro σ1 _ g1 G1 n1
  refine RW.nil ?_
  refine W.seq ?_
  refine W.region ?_
  refine RW.val (by kernel_rfl) (by kernel_rfl) rfl (by kernel_rfl) ?_
  refine RW.val (v := .agg #[.int .i64 0, .int .i64 n]) (by kernel_rfl) (by kernel_rfl) (by kernel_rfl) (by kernel_rfl) ?_
  refine RW.setG (b := σ.next) (vs := #[.int .i64 0, .int .i64 n]) (by kernel_rfl) (by kernel_rfl) rfl rfl (hG) g1 rfl rfl (by kernel_rfl) rfl (by kernel_rfl) ?_; intro σ2 _ s2
  refine RW.nil ?_
  refine W.ret ?_
  exact endG rfl (resW rfl s2.at_ rfl) ⟨rfl, G1.set s2 (Nat.le_refl _)⟩
theorem s_none : SCall G Tryd.prog 48 #[] σ (wdV (1, 0)) σ :=
  closed_scall (G := 16) (n := 100) (K := noK []) (args := []) noK_right (by kernel_rfl) rfl rfl (fun _ _ h => by cases h) (fun _ _ h => by cases h) (fun _ _ h => by cases h) σ (fun _ _ h => by cases h)
theorem s_nilK : SCall G Tryd.prog 7 #[] σ (wdV (1, 0)) σ :=
  closed_scall (G := 16) (n := 100) (K := noK []) (args := []) noK_right (by kernel_rfl) rfl rfl (fun _ _ h => by cases h) (fun _ _ h => by cases h) (fun _ _ h => by cases h) σ (fun _ _ h => by cases h)
theorem null_wc (x : Wd) (hG : G ≤ σ.next) : WC G Tryd.prog 39 #[wdV x] σ fun v σ' => v = .bool (decide (x = (1, 0))) ∧ Grow σ σ' := by
  obtain ⟨xk, xn⟩ := x
  refine WC.enter (fn := Tryd.f39) Tryd.func39 rfl ?_
  refine W.seq ?_
  refine W.region ?_
  refine RW.makeG (x := .row ⟨[.int .i64 xk, .int .i64 xn], 28, false⟩) (fm := fun b => .pointer (some ⟨b, 0, none⟩)) (by kernel_rfl) (by kernel_rfl) (by kernel_rfl) (by kernel_rfl) ?_; intro σ1 _ g1 G1 n1
  refine RW.val (by kernel_rfl) (by kernel_rfl) rfl (by kernel_rfl) ?_
  refine RW.nil ?_
  refine W.seq ?_
  refine W.drawnS (by kernel_rfl) (by kernel_rfl) (Nat.le_trans hG G1.nx) ?_
  refine RW.loads 2 (by kernel_rfl) (by kernel_rfl) rfl rfl g1 rfl rfl (by kernel_rfl) ?_
  refine RW.call (by kernel_rfl) (by kernel_rfl) rfl rfl rfl (by kernel_rfl) (by kernel_rfl) ⟨_, _, s_none, ?_⟩
  refine RW.vop (v := .bool (decide (((xk, xn) : Wd) = (1, 0)))) (by kernel_rfl) (by kernel_rfl) (vop_eqS (b := decide (((xk, xn) : Wd) = (1, 0))) (r := decide (((xk, xn) : Wd) = (1, 0))) rfl (.inl ⟨rfl, rfl⟩) rfl rfl rfl rfl (by kernel_rfl) (fun w => (eqWd _ _ _ _ w).trans (by simp [Prod.ext_iff, Bool.beq_eq_decide_eq]))) (by kernel_rfl) ?_
  refine RW.val (by kernel_rfl) (by kernel_rfl) rfl (by kernel_rfl) ?_
  refine RW.nil ?_
  refine ⟨⟨by kernel_rfl, ?_, fun b => rfl⟩, ?_⟩
  · repeat' (first | exact True.intro | exact fun _ => rfl | exact ⟨_, g1⟩ | refine And.intro ?_ ?_)
  refine W.ret ?_
  exact endG rfl (resL_tmp rfl) ⟨rfl, G1⟩
theorem made_wc (ha : σ.abs = heapAbs h m) (hm : 0 < m.limit) : WC G Tryd.prog 37 #[.pointer (some ⟨h, 0, none⟩)] σ fun v σ' => v = .bool true ∧ σ' = σ := by
  have CL := s_limit (G := G) ha
  refine WC.enter (fn := Tryd.f37) Tryd.func37 rfl ?_
  refine W.seq ?_
  refine W.region ?_
  refine RW.val (by kernel_rfl) (by kernel_rfl) rfl (by kernel_rfl) ?_
  refine RW.nil ?_
  refine W.seq ?_
  refine W.region ?_
  refine RW.val (by kernel_rfl) (by kernel_rfl) rfl (by kernel_rfl) ?_
  refine RW.call (by kernel_rfl) (by kernel_rfl) rfl rfl rfl (by kernel_rfl) (by kernel_rfl) ⟨_, _, CL, ?_⟩
  refine RW.valE (v' := .bool true) (by kernel_rfl) (by kernel_rfl) rfl (congrArg Value.bool (decide_eq_true (by omega))) (by kernel_rfl) ?_
  refine RW.val (by kernel_rfl) (by kernel_rfl) rfl (by kernel_rfl) ?_
  refine RW.nil ?_
  refine W.ret ?_
  exact endG rfl (resL_tmp rfl) ⟨rfl, rfl⟩
theorem isCons_yes (x a d : Wd) (_hG : G ≤ σ.next) (ha : σ.abs = heapAbs h m) (hf : m.find x = some (.pair a d)) : WC G Tryd.prog 54 #[.pointer (some ⟨h, 0, none⟩), wdV x] σ fun v σ' => v = .bool true ∧ Grow σ σ' := by
  obtain ⟨xk, xn⟩ := x
  have hk : xk = 2 := ((HM.find_mem hf).2.2).symm
  subst hk
  refine WC.enter (fn := Tryd.f54) Tryd.func54 rfl ?_
  refine W.seq ?_
  refine W.region ?_
  refine RW.makeG (x := .row ⟨[.int .i64 2, .int .i64 xn], 28, false⟩) (fm := fun b => .pointer (some ⟨b, 0, none⟩)) (by kernel_rfl) (by kernel_rfl) (by kernel_rfl) (by kernel_rfl) ?_; intro σ1 _ g1 G1 n1
  refine RW.val (by kernel_rfl) (by kernel_rfl) rfl (by kernel_rfl) ?_
  refine RW.nil ?_
  have CL := s_live (G := G) xn (G1.abs.trans ha)
  rw [hf] at CL
  refine W.seq ?_
  refine W.region ?_
  refine RW.val (by kernel_rfl) (by kernel_rfl) rfl (by kernel_rfl) ?_
  refine RW.load (by kernel_rfl) (by kernel_rfl) rfl rfl g1 rfl rfl (by kernel_rfl) ?_
  refine RW.val (by kernel_rfl) (by kernel_rfl) rfl (by kernel_rfl) ?_
  refine RW.val (by kernel_rfl) (by kernel_rfl) rfl (by kernel_rfl) ?_
  refine RW.val (by rfl) (by kernel_rfl) rfl (by kernel_rfl) ?_
  refine RW.loads 2 (by rfl) (by kernel_rfl) rfl rfl g1 rfl rfl (by kernel_rfl) ?_
  refine RW.call (by rfl) (by kernel_rfl) rfl rfl rfl (by kernel_rfl) (by kernel_rfl) ⟨_, _, CL, ?_⟩
  refine RW.val (by kernel_rfl) (by kernel_rfl) rfl (by kernel_rfl) ?_
  refine RW.val (by kernel_rfl) (by kernel_rfl) rfl (by kernel_rfl) ?_
  refine RW.nil ?_
  refine W.ret ?_
  exact endG rfl (resL_tmp rfl) ⟨rfl, G1⟩
theorem isCons_no (x : Wd) (_hG : G ≤ σ.next) (ha : σ.abs = heapAbs h m) (hf : x.1 ≠ 2 ∨ m.find x = none) : WC G Tryd.prog 54 #[.pointer (some ⟨h, 0, none⟩), wdV x] σ fun v σ' => v = .bool false ∧ Grow σ σ' := by
  obtain ⟨xk, xn⟩ := x
  refine WC.enter (fn := Tryd.f54) Tryd.func54 rfl ?_
  refine W.seq ?_
  refine W.region ?_
  refine RW.makeG (x := .row ⟨[.int .i64 xk, .int .i64 xn], 28, false⟩) (fm := fun b => .pointer (some ⟨b, 0, none⟩)) (by kernel_rfl) (by kernel_rfl) (by kernel_rfl) (by kernel_rfl) ?_; intro σ1 _ g1 G1 n1
  refine RW.val (by kernel_rfl) (by kernel_rfl) rfl (by kernel_rfl) ?_
  refine RW.nil ?_
  refine W.seq ?_
  refine W.region ?_
  refine RW.val (by kernel_rfl) (by kernel_rfl) rfl (by kernel_rfl) ?_
  refine RW.load (by kernel_rfl) (by kernel_rfl) rfl rfl g1 rfl rfl (by kernel_rfl) ?_
  by_cases hk : xk = 2
  · subst hk
    have hf : m.find (2, xn) = none := hf.resolve_left (fun e => e rfl)
    have CL := s_live (G := G) xn (G1.abs.trans ha)
    rw [hf] at CL
    refine RW.val (by kernel_rfl) (by kernel_rfl) rfl (by kernel_rfl) ?_
    refine RW.val (by kernel_rfl) (by kernel_rfl) rfl (by kernel_rfl) ?_
    refine RW.val (by rfl) (by kernel_rfl) rfl (by kernel_rfl) ?_
    refine RW.loads 2 (by rfl) (by kernel_rfl) rfl rfl g1 rfl rfl (by kernel_rfl) ?_
    refine RW.call (by rfl) (by kernel_rfl) rfl rfl rfl (by kernel_rfl) (by kernel_rfl) ⟨_, _, CL, ?_⟩
    refine RW.val (by kernel_rfl) (by kernel_rfl) rfl (by kernel_rfl) ?_
    refine RW.val (by kernel_rfl) (by kernel_rfl) rfl (by kernel_rfl) ?_
    refine RW.nil ?_
    refine W.ret ?_
    exact endG rfl (resL_tmp rfl) ⟨rfl, G1⟩
  · refine RW.valE (v' := .bool false) (by kernel_rfl) (by kernel_rfl) rfl (congrArg Value.bool (beq_eq_false_iff_ne.2 hk)) (by kernel_rfl) ?_
    refine RW.val (by kernel_rfl) (by kernel_rfl) rfl (by kernel_rfl) ?_
    refine RW.skip (by rfl) (by kernel_rfl) ?_
    refine RW.skip (by rfl) (by kernel_rfl) ?_
    refine RW.skip (by rfl) (by kernel_rfl) ?_
    refine RW.val (by kernel_rfl) (by kernel_rfl) rfl (by kernel_rfl) ?_
    refine RW.val (by kernel_rfl) (by kernel_rfl) rfl (by kernel_rfl) ?_
    refine RW.nil ?_
    refine W.ret ?_
    exact endG rfl (resL_tmp rfl) ⟨rfl, G1⟩
abbrev pp (b : Nat) : Value := .pointer (some ⟨b, 0, none⟩)
theorem conses_wc (x : Wd) (b : Nat) (_hG : G ≤ σ.next) : WC G Tryd.prog 38 #[pp h, wdV x, pp b] σ fun v σ' => v = .func (.func 53) #[] #[pp σ.next, pp (σ.next + 1), pp (σ.next + 2)] ∧ Grow σ σ' ∧ σ'.next = σ.next + 3 ∧
    σ'.get σ.next = some (.row ⟨[pp h], 24, false⟩) ∧ σ'.get (σ.next + 1) = some (.row ⟨[.int .i64 x.1, .int .i64 x.2], 28, false⟩) ∧ σ'.get (σ.next + 2) = some (.row ⟨[pp b], 77, false⟩) := by
  obtain ⟨xk, xn⟩ := x
  refine WC.enter (fn := Tryd.f38) Tryd.func38 rfl ?_
  refine W.seq ?_
  refine W.region ?_
  refine RW.makeG (x := .row ⟨[pp h], 24, false⟩) (fm := fun b => .pointer (some ⟨b, 0, none⟩)) (by kernel_rfl) (by kernel_rfl) (by kernel_rfl) (by kernel_rfl) ?_; intro σ1 _ g1 G1 n1
  refine RW.makeG (x := .row ⟨[.int .i64 xk, .int .i64 xn], 28, false⟩) (fm := fun b => .pointer (some ⟨b, 0, none⟩)) (by kernel_rfl) (by kernel_rfl) (by kernel_rfl) (by kernel_rfl) ?_; intro σ2 _ g2 G2 n2
  refine RW.makeG (x := .row ⟨[pp b], 77, false⟩) (fm := fun b => .pointer (some ⟨b, 0, none⟩)) (by kernel_rfl) (by kernel_rfl) (by kernel_rfl) (by kernel_rfl) ?_; intro σ3 _ g3 G3 n3
  rw [n1] at g2 n2 ⊢
  rw [n2] at g3 n3 ⊢
  refine RW.val (by kernel_rfl) (by kernel_rfl) rfl (by kernel_rfl) ?_
  refine RW.nil ?_
  refine W.seq ?_
  refine W.region ?_
  refine RW.val (by kernel_rfl) (by kernel_rfl) rfl (by kernel_rfl) ?_
  refine RW.val (by kernel_rfl) (by kernel_rfl) rfl (by kernel_rfl) ?_
  refine RW.nil ?_
  refine W.ret ?_
  exact endG rfl (resL_tmp rfl) ⟨by kernel_rfl, (G1.trans G2).trans G3, n3, G3.old _ _ (G2.old _ _ g1), G3.old _ _ g2, g3⟩
end
end Go.Proofs.YtaaebeiigkhcjaaDoor
