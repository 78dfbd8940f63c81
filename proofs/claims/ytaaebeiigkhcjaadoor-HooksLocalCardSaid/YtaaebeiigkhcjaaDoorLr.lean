/-
  Going through conses, and backward through a slice, in the second memory; what is done at each is a premise. Conditions: the heap lies there as HeapAt says.
-/
import Derived.Test.YtaaebeiigkhcjaaDoorLq
import Derived.Test.YtaaebeiigkhcjaaDoorS4
namespace Go.Proofs.YtaaebeiigkhcjaaDoor
set_option maxRecDepth 100000
abbrev wrow (x : Wd) : Blk2 := .row ⟨[.int .i64 x.1, .int .i64 x.2], 28, false⟩
section
variable {G : Nat} {h : Nat} {m : HM}
theorem consesLoop {c a : Nat → Wd} {n b3 b4 b5 b7 L : Nat} {σ0 : Mem} (hp : Path m c a n) (hb4 : G ≤ b4) (hb7 : G ≤ b7) (hL : G ≤ L) {I J : Nat → Mem → Prop} {R : Mem → Prop}
    (hI : ∀ k σ, I k σ → G ≤ σ.next ∧ σ.abs = heapAbs h m ∧ σ.get b3 = some (.row ⟨[pp h], 24, false⟩) ∧ σ.get b4 = some (wrow (c k)) ∧ σ.get b5 = some (.row ⟨[pp b7], 77, false⟩))
    (hg : ∀ k σ σ', I k σ → Grow σ σ' → I k σ')
    (hy : ∀ k σ, k < n → I k σ → Yield G Tryd.prog L [wdV (c k), wdV (a k)] σ fun r σ' => (r = true → J k σ') ∧ (r = false → R σ'))
    (hJ : ∀ k σ, J k σ → σ.abs = heapAbs h m ∧ σ.get b3 = some (.row ⟨[pp h], 24, false⟩) ∧ σ.get b4 = some (wrow (c k)))
    (hJn : ∀ k σ σ', J k σ → Set1 σ σ' b4 (wrow (c (k + 1))) → I (k + 1) σ')
    (hend : ∀ σ, I n σ → ((c n).1 ≠ 2 ∨ m.find (c n) = none) ∧ ∃ x, σ.get b7 = some (wrow x) ∧ ∀ σ1 σ2, Grow σ σ1 → Set1 σ1 σ2 b7 (wrow (c n)) → R σ2) (h0 : I 0 σ0) :
    WC G Tryd.prog 53 #[.func (.yield L) #[] #[], pp b3, pp b4, pp b5] σ0 fun _ σ' => R σ' := by
  refine WC.enter (fn := Tryd.f53) Tryd.func53 rfl ?_
  refine W.know 0 (x := .func (.yield L) #[] #[]) rfl (W.know 1 (x := pp b3) rfl (W.know 2 (x := pp b4) rfl (W.know 3 (x := pp b5) rfl ?_)))
  refine W.seq ?_
  refine W.block ?_
  refine W.loop (fun mm ta σ => ∃ k, mm + k = n ∧ I k σ ∧ ta 0 = .func (.yield L) #[] #[] ∧ ta 1 = pp b3 ∧ ta 2 = pp b4 ∧ ta 3 = pp b5) n ?_ ?_
  · exact ⟨0, rfl, h0, rfl, rfl, rfl, rfl⟩
  rintro mm ta σ ⟨k, hm, hk, e0, e1, e2, e3⟩
  refine W.know 0 e0 (W.know 1 e1 (W.know 2 e2 (W.know 3 e3 (?_))))
  obtain ⟨hGn, ha, q3, q4, q5⟩ := hI k σ hk
  refine W.seq ?_
  refine W.seq ?_
  refine W.region ?_
  refine RW.load (by kernel_rfl) (by kernel_rfl) rfl rfl q3 rfl rfl (by kernel_rfl) ?_
  refine RW.loads 2 (by kernel_rfl) (by kernel_rfl) rfl rfl q4 rfl rfl (by kernel_rfl) ?_
  by_cases hkn : k < n
  · have hf := hp k hkn
    refine RW.call (by kernel_rfl) (by kernel_rfl) rfl rfl rfl (by kernel_rfl) (by kernel_rfl) ((isCons_yes (c k) _ _ hGn ha hf).mono ?_)
    rintro _ σ1 ⟨rfl, G1⟩
    have k1 := hg _ _ _ hk G1
    obtain ⟨hGn1, ha1, r3, r4, r5⟩ := hI k σ1 k1
    refine RW.nil ?_
    refine W.cond (b := true) rfl (fun _ => ?_) (fun h => by cases h)
    refine W.skip ?_
    refine W.block ?_
    refine W.seq ?_
    refine W.region ?_
    have CC := s_car (G := G) (c k) ha1
    rw [car_of hf] at CC
    refine RW.load (by kernel_rfl) (by kernel_rfl) rfl rfl r3 rfl rfl (by kernel_rfl) ?_
    refine RW.loads 2 (by kernel_rfl) (by kernel_rfl) rfl rfl r4 rfl rfl (by kernel_rfl) ?_
    refine RW.call (by kernel_rfl) (by kernel_rfl) rfl rfl rfl (by kernel_rfl) (by kernel_rfl) ⟨_, _, CC, ?_⟩
    refine RW.val (by kernel_rfl) (by kernel_rfl) rfl (by kernel_rfl) ?_
    refine RW.val (by kernel_rfl) (by kernel_rfl) rfl (by kernel_rfl) ?_
    refine RW.val (by kernel_rfl) (by kernel_rfl) rfl (by kernel_rfl) ?_
    refine RW.varS (d := 5) (r0 := ⟨[.int .i64 0, .int .i64 0], 28, false⟩) (vs := #[.int .i64 (a k).1, .int .i64 (a k).2]) (by kernel_rfl) (by kernel_rfl) (by kernel_rfl) rfl (by kernel_rfl) rfl (by kernel_rfl) rfl rfl rfl rfl (by kernel_rfl) rfl hGn1 ?_
    intro σ2 _ ga oa na aa
    have k2 := hg _ _ _ k1 ⟨oa, by omega, aa⟩
    obtain ⟨hGn2, ha2, p3, p4, p5⟩ := hI k σ2 k2
    refine RW.val (by kernel_rfl) (by kernel_rfl) rfl (by kernel_rfl) ?_
    refine RW.nil ?_
    refine W.seq ?_
    refine W.seq ?_
    refine W.region ?_
    refine RW.val (by kernel_rfl) (by kernel_rfl) rfl (by kernel_rfl) ?_
    refine RW.loads 2 (by kernel_rfl) (by kernel_rfl) rfl rfl p4 rfl rfl (by kernel_rfl) ?_
    refine RW.loads 2 (by kernel_rfl) (by kernel_rfl) rfl rfl ga rfl rfl (by kernel_rfl) ?_
    refine RW.yieldR (by kernel_rfl) (by kernel_rfl) rfl rfl rfl hL rfl (by kernel_rfl) ?_
    refine (hy k σ2 hkn k2).mono fun r σ4 hr => ?_
    obtain ⟨e6, e7⟩ := hr
    cases r with
    | false =>
      refine RW.val (by kernel_rfl) (by kernel_rfl) rfl (by kernel_rfl) ?_
      refine RW.nil ?_
      refine W.cond (b := true) rfl (fun _ => ?_) (fun h => by cases h)
      refine W.ret ?_
      exact endG (R := fun _ σ' => R σ') (vs := []) rfl rfl (e7 rfl)
    | true =>
      obtain ⟨ha3, t3, t4⟩ := hJ k σ4 (e6 rfl)
      have CD := s_cdr (G := G) (c k) ha3
      rw [cdr_of hf] at CD
      refine RW.val (by kernel_rfl) (by kernel_rfl) rfl (by kernel_rfl) ?_
      refine RW.nil ?_
      refine W.cond (b := false) rfl (fun h => by cases h) (fun _ => ?_)
      refine W.skip ?_
      refine W.region ?_
      refine RW.load (by kernel_rfl) (by kernel_rfl) rfl rfl t3 rfl rfl (by kernel_rfl) ?_
      refine RW.loads 2 (by kernel_rfl) (by kernel_rfl) rfl rfl t4 rfl rfl (by kernel_rfl) ?_
      refine RW.call (by kernel_rfl) (by kernel_rfl) rfl rfl rfl (by kernel_rfl) (by kernel_rfl) ⟨_, _, CD, ?_⟩
      refine RW.val (by kernel_rfl) (by kernel_rfl) rfl (by kernel_rfl) ?_
      refine RW.val (by kernel_rfl) (by kernel_rfl) rfl (by kernel_rfl) ?_
      refine RW.val (by kernel_rfl) (by kernel_rfl) rfl (by kernel_rfl) ?_
      refine RW.setG (b := b4) (vs := #[.int .i64 (c (k + 1)).1, .int .i64 (c (k + 1)).2]) (by kernel_rfl) (by kernel_rfl) rfl rfl hb4 t4 rfl rfl (by kernel_rfl) rfl (by kernel_rfl) ?_
      intro σ5 _ s5
      refine RW.nil ?_
      exact ⟨rfl, mm - 1, by omega, k + 1, by omega, hJn k σ4 σ5 (e6 rfl) s5, rfl, rfl, rfl, rfl⟩
  · have hk0 : k = n := by omega
    subst hk0
    obtain ⟨hno, x, x1, x2⟩ := hend σ hk
    refine RW.call (by kernel_rfl) (by kernel_rfl) rfl rfl rfl (by kernel_rfl) (by kernel_rfl) ((isCons_no (c k) hGn ha hno).mono ?_)
    rintro _ σ1 ⟨rfl, G1⟩
    refine RW.nil ?_
    refine W.cond (b := false) rfl (fun h => by cases h) (fun _ => ?_)
    refine W.exit _ ?_
    refine W.region ?_
    refine RW.load (by kernel_rfl) (by kernel_rfl) rfl rfl (G1.old _ _ q5) rfl rfl (by kernel_rfl) ?_
    refine RW.loads 2 (by kernel_rfl) (by kernel_rfl) rfl rfl (G1.old _ _ q4) rfl rfl (by kernel_rfl) ?_
    refine RW.val (by kernel_rfl) (by kernel_rfl) rfl (by kernel_rfl) ?_
    refine RW.setG (b := b7) (vs := #[.int .i64 (c k).1, .int .i64 (c k).2]) (by kernel_rfl) (by kernel_rfl) rfl rfl hb7 (G1.old _ _ x1) rfl rfl (by kernel_rfl) rfl (by kernel_rfl) ?_
    intro σ5 _ s5
    refine RW.nil ?_
    exact endG (R := fun _ σ' => R σ') (vs := []) rfl rfl (x2 σ1 σ5 G1 s5)
end
end Go.Proofs.YtaaebeiigkhcjaaDoor
