/-
  lists.Slice in the second memory: the whole function. Conditions: the heap lies there as HeapAt says.
-/
import Derived.Test.YtaaebeiigkhcjaaDoorLs
import Derived.Test.YtaaebeiigkhcjaaDoorRst
namespace Go.Proofs.YtaaebeiigkhcjaaDoor
set_option maxRecDepth 100000
theorem set1_put {σ : Mem} {b : Nat} {x y : Blk2} (h : σ.get b = some y) : Set1 σ (σ.put b x) b x := ⟨get_put h, fun _ _ hc hy => get_put_ne hy hc, rfl, rfl⟩
section
variable {G h : Nat} {m : HM} {σ : Mem}
theorem resS {ta : Nat → Value} {a : Tmp} {b : Nat} {t : TypeId} {g : Bool} {v : Value} {vs : List Value} {rv : List ResultVar} (ha : ta a = .pointer (some ⟨b, 0, none⟩)) (hr : σ.get b = some (.row ⟨[v], t, g⟩)) (k : resL Tryd.prog ta σ rv = some vs) : resL Tryd.prog ta σ (.cell a 37 :: rv) = some (v :: vs) :=
  resL_cell (n := 1) ha hr ((uT_eq _ _).trans Tryd.underlying37) (by kernel_rfl) rfl (by kernel_rfl) k
/-- What Slice answers. -/
def SliceR (G : Nat) (n : Nat) (c a : Nat → Wd) (σ0 : Mem) (v : Value) (σ' : Mem) : Prop :=
  Grow σ0 σ' ∧ ((n = 65537 ∧ v = .tuple #[.slice none 0 0, .int .i64 16]) ∨ (n ≤ 65536 ∧ c n ≠ (1, 0) ∧ v = .tuple #[.slice none 0 0, .int .i64 6]) ∨
    (n ≤ 65536 ∧ c n = (1, 0) ∧ ∃ sl, v = .tuple #[sl, .int .i64 0] ∧ GRow G σ' 28 2 sl n (wdC (firstN a n)) ∧ ∀ b, blkOf sl = some b → σ0.next ≤ b))
theorem slice_wc {σ0 : Mem} (hG : G ≤ σ0.next) (ha : σ0.abs = heapAbs h m) (hlim : 0 < m.limit) {c a : Nat → Wd} {n : Nat} (hp : Path m c a n) (hend : n = 65537 ∨ n ≤ 65536 ∧ ((c n).1 ≠ 2 ∨ m.find (c n) = none)) :
    WC G Tryd.prog 15 #[pp h, wdV (c 0)] σ0 (SliceR G n c a σ0) := by
  refine WC.enterD (fn := Tryd.f15) Tryd.func15 rfl ?_
  refine W.know 0 (x := pp h) rfl ?_
  refine W.seq ?_
  refine W.region ?_
  refine RW.makeG (x := .row ⟨[.int .i64 (c 0).1, .int .i64 (c 0).2], 28, false⟩) (fm := fun b => .pointer (some ⟨b, 0, none⟩)) (by kernel_rfl) (by kernel_rfl) (by kernel_rfl) (by kernel_rfl) ?_; intro σ1 _ g1 G1 n1
  refine RW.makeG (x := .row ⟨[.slice none 0 0], 37, false⟩) (fm := fun b => .pointer (some ⟨b, 0, none⟩)) (by kernel_rfl) (by kernel_rfl) (by kernel_rfl) (by kernel_rfl) ?_; intro σ2 _ g2 G2 n2
  refine RW.makeG (x := .row ⟨[.int .i64 0], 33, false⟩) (fm := fun b => .pointer (some ⟨b, 0, none⟩)) (by kernel_rfl) (by kernel_rfl) (by kernel_rfl) (by kernel_rfl) ?_; intro σ3 _ g3 G3 n3
  rw [n1] at g2 n2 ⊢
  rw [n2] at g3 n3 ⊢
  refine RW.nil ?_
  have G03 := (G1.trans G2).trans G3
  refine W.seq ?_
  refine W.seq ?_
  refine W.region ?_
  refine RW.val (by kernel_rfl) (by kernel_rfl) rfl (by kernel_rfl) ?_
  refine RW.call (by kernel_rfl) (by kernel_rfl) rfl rfl rfl (by kernel_rfl) (by kernel_rfl) ((made_wc (G03.abs.trans ha) hlim).mono ?_)
  rintro _ _ ⟨rfl, rfl⟩
  refine RW.val (by kernel_rfl) (by kernel_rfl) rfl (by kernel_rfl) ?_
  refine RW.nil ?_
  refine W.cond (b := false) rfl (fun h => by cases h) (fun _ => ?_)
  refine W.skip ?_
  refine W.seq ?_
  refine W.region ?_
  refine RW.makeG (x := .row ⟨[.slice none 0 0], 37, false⟩) (fm := fun b => .pointer (some ⟨b, 0, none⟩)) (by kernel_rfl) (by kernel_rfl) (by kernel_rfl) (by kernel_rfl) ?_; intro σ4 _ g4 G4 n4
  rw [n3] at g4 n4 ⊢
  refine RW.nil ?_
  have q1 := G4.old _ _ (G3.old _ _ (G2.old _ _ g1))
  refine W.seq ?_
  refine W.region ?_
  refine RW.loads 2 (by kernel_rfl) (by kernel_rfl) rfl rfl q1 rfl rfl (by kernel_rfl) ?_
  refine RW.varS (d := 7) (r0 := ⟨[.int .i64 0, .int .i64 0], 28, false⟩) (vs := #[.int .i64 (c 0).1, .int .i64 (c 0).2]) (by kernel_rfl) (by kernel_rfl) (by kernel_rfl) rfl (by kernel_rfl) rfl (by kernel_rfl) rfl rfl rfl rfl (by kernel_rfl) rfl (by omega) ?_
  intro σ5 _ g5 o5 n5 a5
  have G5 : Grow σ4 σ5 := ⟨o5, by omega, a5⟩
  rw [n4] at g5 n5 ⊢
  refine RW.nil ?_
  refine W.seq ?_
  refine W.seq ?_
  refine W.region ?_
  refine RW.val (by kernel_rfl) (by kernel_rfl) rfl (by kernel_rfl) ?_
  refine RW.loads 2 (by kernel_rfl) (by kernel_rfl) rfl rfl (G5.old _ _ q1) rfl rfl (by kernel_rfl) ?_
  refine RW.call (by kernel_rfl) (by kernel_rfl) rfl rfl rfl (by kernel_rfl) (by kernel_rfl) ((conses_wc (c 0) (σ0.next + 1 + 1 + 1 + 1) (by omega)).mono ?_)
  rintro _ σ6 ⟨rfl, G6, n6, c3, c4, c5⟩
  refine RW.nil ?_
  refine W.block ?_
  have G06 := ((G03.trans G4).trans G5).trans G6
  have hn6 : σ6.next = σ0.next + 8 := by omega
  refine W.tas 4 5 6 7 16 (x1 := pp (σ0.next + 1)) (x2 := pp (σ0.next + 2)) (x3 := pp (σ0.next + 3)) (x4 := pp (σ0.next + 4)) (x5 := .func (.func 53) #[] #[pp (σ0.next + 5), pp (σ0.next + 6), pp (σ0.next + 7)]) rfl rfl rfl rfl (by rw [show σ0.next + 5 = σ5.next by omega, show σ0.next + 6 = σ5.next + 1 by omega, show σ0.next + 7 = σ5.next + 2 by omega]; rfl) fun TA t4 t5 t6 t7 t16 => ?_
  refine W.range (fa := #[]) (ca := #[pp (σ0.next + 5), pp (σ0.next + 6), pp (σ0.next + 7)]) t16 (fun i h => by cases h) (fun v h => by cases h) (by kernel_rfl) ?_
  rw [hn6]
  rw [show σ5.next = σ0.next + 5 by omega] at c3 c4 c5
  obtain ⟨σ7, h7⟩ : ∃ s, s = (σ6.push (.defs true)).push (sliceL TA (σ0.next + 8)) := ⟨_, rfl⟩
  have G7 : Grow σ6 σ7 := by
    rw [h7]
    exact ⟨fun b y hy => get_push_old (get_push_old hy), by show σ6.next ≤ σ6.next + 1 + 1; omega, rfl⟩
  have hn7 : σ7.next = σ0.next + 10 := by rw [h7]; show σ6.next + 1 + 1 = _; omega
  have d7 : σ7.get (σ0.next + 8) = some (.defs true) := by rw [h7, ← hn6]; exact get_push_old get_push
  have l7 : σ7.get (σ0.next + 9) = some (sliceL TA (σ0.next + 8)) := by
    rw [h7, show σ0.next + 9 = (σ6.push (.defs true)).next by show _ = σ6.next + 1; omega]
    exact get_push
  have G07 := G06.trans G7
  have S0 : SliceAt G h m σ0 σ7 TA a 0 (c 0) := by
    refine ⟨G07.old, by omega, G07.abs.trans ha, ?_, ?_, ⟨.slice none 0 0, ?_, .nil, fun b hb => by cases hb⟩, ⟨c 0, ?_⟩, G7.old _ _ c3, G7.old _ _ c4, G7.old _ _ c5, d7, l7⟩
    · exact G7.old _ _ (G6.old _ _ (G5.old _ _ (G4.old _ _ (G3.old _ _ g2))))
    · exact G7.old _ _ (G6.old _ _ (G5.old _ _ (G4.old _ _ g3)))
    · exact G7.old _ _ (G6.old _ _ (G5.old _ _ g4))
    · exact G7.old _ _ (G6.old _ _ g5)
  show WC G Tryd.prog 53 #[.func (.yield (σ0.next + 9)) #[] #[], pp (σ0.next + 5), pp (σ0.next + 6), pp (σ0.next + 7)] ((σ6.push (.defs true)).push (sliceL TA (σ0.next + 8))) _
  rw [← h7]
  clear h7 G1 G2 G3 G4 G5 G6 G03 G06 g1 g2 g3 g4 g5 o5 q1 c3 c4 c5 d7 l7
  refine (consesLoop (h := h) (m := m) (c := c) (a := a) (n := n) (b3 := σ0.next + 5) (b4 := σ0.next + 6) (b5 := σ0.next + 7) (b7 := σ0.next + 4) (L := σ0.next + 9) hp (by omega) (by omega) (by omega) (I := fun k σ => k ≤ 65536 ∧ SliceAt G h m σ0 σ TA a k (c k)) (J := fun k σ => k < 65536 ∧ SliceAt G h m σ0 σ TA a (k + 1) (c k)) (R := fun σ => (n ≤ 65536 ∧ SliceAt G h m σ0 σ TA a n (c n) ∧ σ.get (σ0.next + 4) = some (wrow (c n))) ∨ (n = 65537 ∧ SliceStop h m σ0 σ)) ?_ ?_ ?_ ?_ ?_ ?_ ⟨by omega, S0⟩).mono ?_
  · rintro k σ ⟨_, S⟩
    exact ⟨by have := S.nx; omega, S.abs, S.c3, S.c4, S.c5⟩
  · rintro k σ σ' ⟨hk, S⟩ g
    exact ⟨hk, S.grow g⟩
  · rintro k σ hkn ⟨hk, S⟩
    refine (slice_yield hG S hk t4 t5 t6).mono fun r σ' hr => ⟨fun e => hr.1 e, fun e => .inr ⟨?_, (hr.2 e).2⟩⟩
    have := (hr.2 e).1
    rcases hend with h1 | ⟨h1, _⟩ <;> omega
  · rintro k σ ⟨_, S⟩
    exact ⟨S.abs, S.c3, S.c4⟩
  · rintro k σ σ' ⟨hk, S⟩ s
    exact ⟨by omega, S.setCur s⟩
  · rintro σ ⟨hk, S⟩
    have hno : n ≤ 65536 ∧ ((c n).1 ≠ 2 ∨ m.find (c n) = none) := by
      rcases hend with h1 | h1
      · omega
      · exact h1
    obtain ⟨x, hx⟩ := S.r7
    refine ⟨hno.2, x, hx, fun σ1 σ2 g s => .inl ⟨hno.1, ?_, s.at_⟩⟩
    have S1 := S.grow g
    obtain ⟨v, o1, o2, o3⟩ := S1.out
    refine ⟨fun b y hy => s.old b y (by have := Mem.lt hy; omega) (S1.old b y hy), by rw [s.nx]; exact S1.nx, s.abs.trans S1.abs, s.old _ _ (by omega) S1.r4, s.old _ _ (by omega) S1.r5, ⟨v, s.old _ _ (by omega) o1, o2.keep fun b hb => ?_, o3⟩, ⟨_, s.at_⟩, s.old _ _ (by omega) S1.c3, s.old _ _ (by omega) S1.c4, s.old _ _ (by omega) S1.c5, s.old _ _ (by omega) S1.df, s.old _ _ (by omega) S1.lp⟩
    obtain ⟨r, h1, _⟩ := o2.is hb
    have := o3 b hb
    rw [h1, s.old _ _ (by omega) h1]
  · rintro _ σ8 (⟨hn, S, hr7⟩ | ⟨hn, S⟩)
    · obtain ⟨v, o1, o2, o3⟩ := S.out
      have hnx := S.nx
      refine ⟨_, _, _, _, _, _, _, _, .normal, S.lp, rfl, rfl, ?_⟩
      have sL := set1_put (x := .loop .exhausted none 30 TA (rangePs sliceR) (rangeAs sliceR) (rangeBo sliceR) (σ0.next + 8)) S.lp
      generalize σ8.put (σ0.next + 9) (.loop .exhausted none 30 TA (rangePs sliceR) (rangeAs sliceR) (rangeBo sliceR) (σ0.next + 8)) = σ9 at sL
      have G9 : Grow σ0 σ9 := (⟨S.old, by omega, S.abs.trans ha.symm⟩ : Grow σ0 σ8).set sL (by omega)
      have p4 := sL.old _ _ (by omega) S.r4
      have p5 := sL.old _ _ (by omega) S.r5
      have p6 := sL.old _ _ (by omega) o1
      have p7 := sL.old _ _ (by omega) hr7
      have p8 := sL.old _ _ (by omega) S.df
      have og : ∀ b r, blkOf v = some b → σ8.get b = some (.row r) → σ9.get b = some (.row r) := fun b r hb hr => sL.old _ _ (by have := o3 b hb; omega) hr
      have hn9 := sL.nx
      clear sL
      refine W.know 4 t4 (W.know 5 t5 (W.know 6 t6 (W.know 7 t7 ?_)))
      refine W.seq ?_
      refine W.seq ?_
      refine W.region ?_
      refine RW.loads 2 (by kernel_rfl) (by kernel_rfl) rfl rfl p7 rfl rfl (by kernel_rfl) ?_
      refine RW.call (by kernel_rfl) (by kernel_rfl) rfl rfl rfl (by kernel_rfl) (by kernel_rfl) ((null_wc (c n) (by omega)).mono ?_)
      rintro _ σ10 ⟨rfl, G10⟩
      have hn10 := G10.nx
      by_cases hc : c n = (1, 0)
      · rw [decide_eq_true hc]
        refine RW.val (by kernel_rfl) (by kernel_rfl) rfl (by kernel_rfl) ?_
        refine RW.nil ?_
        refine W.cond (b := false) rfl (fun h => by cases h) (fun _ => ?_)
        refine W.skip ?_
        refine W.seq ?_
        refine W.region ?_
        refine RW.load (by kernel_rfl) (by kernel_rfl) rfl rfl (G10.old _ _ p6) rfl rfl (by kernel_rfl) ?_
        refine RW.set1G (b := σ0.next + 1) (v := v) (by kernel_rfl) (by kernel_rfl) rfl rfl (by omega) (G10.old _ _ p4) rfl (by cases o2 <;> rfl) (by cases o2 <;> rfl) (by kernel_rfl) rfl (by kernel_rfl) ?_; intro σ11 _ s11
        refine RW.set1G (b := σ0.next + 2) (v := .int .i64 0) (by kernel_rfl) (by kernel_rfl) rfl rfl (by omega) (s11.old _ _ (by omega) (G10.old _ _ p5)) rfl rfl rfl (by kernel_rfl) rfl (by kernel_rfl) ?_; intro σ12 _ s12
        refine RW.nil ?_
        refine W.ret ?_
        have p8' := s12.old _ _ (by omega) (s11.old _ _ (by omega) (G10.old _ _ p8))
        have s13 := set1_put (x := .defs false) p8'
        refine endGD rfl p8' (by omega) (resS rfl (s13.old _ _ (by omega) (s12.old _ _ (by omega) s11.at_)) (resE rfl (s13.old _ _ (by omega) s12.at_) rfl)) ?_
        refine ⟨((((G9.trans G10).set s11 (by omega)).set s12 (by omega)).set s13 (by omega)), .inr (.inr ⟨hn, hc, v, rfl, o2.keep fun b hb => ?_, fun b hb => by have := o3 b hb; omega⟩)⟩
        obtain ⟨r, h1, _⟩ := o2.is hb
        have := o3 b hb
        rw [h1, s13.old _ _ (by omega) (s12.old _ _ (by omega) (s11.old _ _ (by omega) (G10.old _ _ (og b r hb h1))))]
      · rw [decide_eq_false hc]
        refine RW.val (by kernel_rfl) (by kernel_rfl) rfl (by kernel_rfl) ?_
        refine RW.nil ?_
        refine W.cond (b := true) rfl (fun _ => ?_) (fun h => by cases h)
        refine W.seq ?_
        refine W.region ?_
        refine RW.set1G (b := σ0.next + 1) (v := .slice none 0 0) (by kernel_rfl) (by kernel_rfl) rfl rfl (by omega) (G10.old _ _ p4) rfl rfl rfl (by kernel_rfl) rfl (by kernel_rfl) ?_; intro σ11 _ s11
        refine RW.set1G (b := σ0.next + 2) (v := .int .i64 6) (by kernel_rfl) (by kernel_rfl) rfl rfl (by omega) (s11.old _ _ (by omega) (G10.old _ _ p5)) rfl rfl rfl (by kernel_rfl) rfl (by kernel_rfl) ?_; intro σ12 _ s12
        refine RW.nil ?_
        refine W.ret ?_
        have p8' := s12.old _ _ (by omega) (s11.old _ _ (by omega) (G10.old _ _ p8))
        have s13 := set1_put (x := .defs false) p8'
        refine endGD rfl p8' (by omega) (resS rfl (s13.old _ _ (by omega) (s12.old _ _ (by omega) s11.at_)) (resE rfl (s13.old _ _ (by omega) s12.at_) rfl)) ?_
        exact ⟨((((G9.trans G10).set s11 (by omega)).set s12 (by omega)).set s13 (by omega)), .inr (.inl ⟨hn, hc, rfl⟩)⟩
    · obtain ⟨nt', ta', ps', as', bo', df', hl⟩ := S.lp
      have hnx := S.nx
      refine ⟨_, _, _, _, _, _, _, _, .ret, hl, rfl, rfl, ?_⟩
      have sL := set1_put (x := .loop .exhausted (some .ret) nt' ta' ps' as' bo' df') hl
      generalize σ8.put (σ0.next + 9) (.loop .exhausted (some .ret) nt' ta' ps' as' bo' df') = σ9 at sL
      have G9 : Grow σ0 σ9 := (⟨S.old, by omega, S.abs.trans ha.symm⟩ : Grow σ0 σ8).set sL (by omega)
      have p8' := sL.old _ _ (by omega) S.df
      have s13 := set1_put (x := .defs false) p8'
      refine endGD rfl p8' (by omega) (resS t4 (s13.old _ _ (by omega) (sL.old _ _ (by omega) S.r4)) (resE t5 (s13.old _ _ (by omega) (sL.old _ _ (by omega) S.r5)) rfl)) ?_
      exact ⟨G9.set s13 (by omega), .inl ⟨hn, rfl⟩⟩
end
end Go.Proofs.YtaaebeiigkhcjaaDoor
