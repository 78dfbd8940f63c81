/-
  lists.build and lists.Make in the second memory. Conditions: the heap lies there as HeapAt says, no number is free below, there is room.
-/
import Derived.Test.YtaaebeiigkhcjaaDoorLu
namespace Go.Proofs.YtaaebeiigkhcjaaDoor
set_option maxRecDepth 100000
noncomputable abbrev buildR : Code := rangeIn (restN 2 (bodyOf Tryd.f47))
noncomputable abbrev bldLp (TA : Nat → Value) (D : Nat) : Blk2 := rdy 31 TA (rangePs buildR) (rangeAs buildR) (rangeBo buildR) D
/-- What lies there while build conses: k words so far. -/
structure BuildAt (h : Nat) (m : HM) (l : List Wd) (t : Wd) (s : Value) (σ0 σ : Mem) (TA : Nat → Value) (k : Nat) : Prop where
  old : ∀ b y, σ0.get b = some y → σ.get b = some y
  nx : σ0.next + 6 ≤ σ.next
  abs : σ.abs = heapAbs h (bld m l t k).1
  r3 : σ.get σ0.next = some (.row ⟨[pp h], 24, false⟩)
  r5 : σ.get (σ0.next + 1) = some (wrow (bld m l t k).2)
  r6 : σ.get (σ0.next + 2) = some (wrow (0, 0))
  b1 : σ.get (σ0.next + 3) = some (.row ⟨[s], 37, false⟩)
  df : σ.get (σ0.next + 4) = some (.defs true)
  lp : σ.get (σ0.next + 5) = some (bldLp TA (σ0.next + 4))
section
variable {G h : Nat} {m : HM} {l : List Wd} {t : Wd} {s : Value} {σ0 σ σ' : Mem} {TA : Nat → Value} {k : Nat}
theorem build_yield (hG : G ≤ σ0.next) (B : BuildAt h m l t s σ0 σ TA k) (hf : m.free = []) (hr : m.many + l.length ≤ m.limit) {j : Nat} (hj : k + 1 + j = l.length) (e3 : TA 3 = pp σ0.next) (e5 : TA 5 = pp (σ0.next + 1)) :
    Yield G Tryd.prog (σ0.next + 5) [.int .i64 (j : Int), wdV (l.getD j (0, 0))] σ fun r σ' => r = true ∧ BuildAt h m l t s σ0 σ' TA (k + 1) := by
  have hnx := B.nx
  refine Yield.of B.lp rfl (by decide) ?_
  refine W.know 3 (x := pp σ0.next) e3 (W.know 5 (x := pp (σ0.next + 1)) e5 ?_)
  refine W.region ?_
  refine RW.varS (d := 9) (r0 := ⟨[.int .i64 0, .int .i64 0], 28, false⟩) (vs := #[.int .i64 (l.getD j (0, 0)).1, .int .i64 (l.getD j (0, 0)).2]) (by kernel_rfl) (by kernel_rfl) (by kernel_rfl) rfl (by kernel_rfl) rfl (by kernel_rfl) rfl rfl rfl rfl (by kernel_rfl) rfl (by omega) ?_
  intro σ1 _ g1 q1 n1 a1
  refine RW.nil ?_
  refine ⟨rfl, q1 _ _ B.lp, fun σ2 s2 => ?_⟩
  have hn2 := s2.nx
  have kp : ∀ b y, b ≠ σ0.next + 5 → σ.get b = some y → σ2.get b = some y := fun b y hb hy => s2.old b y hb (q1 b y hy)
  have ab : σ2.abs = heapAbs h (bld m l t k).1 := s2.abs.trans (a1.trans B.abs)
  have CC := s_cons (G := G) (l.getD j (0, 0)) (bld m l t k).2 ab (by rw [bld_many, bld_limit]; omega) (by rw [bld_free]; exact hf)
  refine W.block ?_
  refine W.region ?_
  refine RW.load (by kernel_rfl) (by kernel_rfl) rfl rfl (kp _ _ (by omega) B.r3) rfl rfl (by kernel_rfl) ?_
  refine RW.loads 2 (by kernel_rfl) (by kernel_rfl) rfl rfl (s2.old _ _ (by omega) g1) rfl rfl (by kernel_rfl) ?_
  refine RW.loads 2 (by kernel_rfl) (by kernel_rfl) rfl rfl (kp _ _ (by omega) B.r5) rfl rfl (by kernel_rfl) ?_
  refine RW.call (by kernel_rfl) (by kernel_rfl) rfl rfl rfl (by kernel_rfl) (by kernel_rfl) ⟨_, _, CC, ?_⟩
  refine RW.val (by kernel_rfl) (by kernel_rfl) rfl (by kernel_rfl) ?_
  refine RW.val (by kernel_rfl) (by kernel_rfl) rfl (by kernel_rfl) ?_
  refine RW.val (by kernel_rfl) (by kernel_rfl) rfl (by kernel_rfl) ?_
  have r5' : (σ2.with (heapAbs h ((bld m l t k).1.push (.pair (l.getD j (0, 0)) (bld m l t k).2)))).get (σ0.next + 1) = some (wrow (bld m l t k).2) := kp _ _ (by omega) B.r5
  refine RW.setG (b := σ0.next + 1) (vs := #[.int .i64 2, .int .i64 ((bld m l t k).1.objs.length : Int)]) (by kernel_rfl) (by kernel_rfl) rfl rfl (by omega) r5' rfl rfl (by kernel_rfl) rfl (by kernel_rfl) ?_; intro σ3 _ s3
  refine RW.nil ?_
  have hn3 := s3.nx
  have hw : (σ2.with (heapAbs h ((bld m l t k).1.push (.pair (l.getD j (0, 0)) (bld m l t k).2)))).next = σ2.next := rfl
  refine ⟨s3.old _ _ (by omega) s2.at_, _, _, _, rfl, fun σ4 s4 => ⟨rfl, ?_⟩⟩
  have hn4 := s4.nx
  have kq : ∀ b y, b ≠ σ0.next + 5 → b ≠ σ0.next + 1 → σ.get b = some y → σ4.get b = some y := fun b y h5 h1 hy => s4.old b y h5 (s3.old b y h1 (kp b y h5 hy))
  have hb1 : bld m l t (k + 1) = ((bld m l t k).1.push (.pair (l.getD j (0, 0)) (bld m l t k).2), (2, ((bld m l t k).1.objs.length : Int))) := by
    simp only [bld]
    rw [show l.length - 1 - k = j by omega]
  refine ⟨fun b y hy => kq b y (by have := Mem.lt hy; omega) (by have := Mem.lt hy; omega) (B.old b y hy), by omega, ?_, kq _ _ (by omega) (by omega) B.r3, ?_, kq _ _ (by omega) (by omega) B.r6, kq _ _ (by omega) (by omega) B.b1, kq _ _ (by omega) (by omega) B.df, s4.at_⟩
  · rw [hb1]
    exact s4.abs.trans s3.abs
  · rw [hb1]
    exact s4.old _ _ (by omega) s3.at_
/-- All that lay there lies there; the heap may have turned. -/
structure GrowA (σ σ' : Mem) : Prop where
  old : ∀ b y, σ.get b = some y → σ'.get b = some y
  nx : σ.next ≤ σ'.next
theorem Grow.a (h : Grow σ σ') : GrowA σ σ' := ⟨h.old, h.nx⟩
theorem GrowA.trans {σ2 : Mem} (h : GrowA σ σ') (k : GrowA σ' σ2) : GrowA σ σ2 := ⟨fun b y hy => k.old b y (h.old b y hy), Nat.le_trans h.nx k.nx⟩
theorem GrowA.set {σ2 : Mem} {b : Nat} {x : Blk2} (h : GrowA σ0 σ) (k : Set1 σ σ2 b x) (hb : σ0.next ≤ b) : GrowA σ0 σ2 := ⟨fun c y hy => k.old c y (by have := Mem.lt hy; omega) (h.old c y hy), by rw [k.nx]; exact h.nx⟩
/-- What build and Make answer. -/
def BuildR (h : Nat) (m : HM) (l : List Wd) (t : Wd) (σ0 : Mem) (v : Value) (σ' : Mem) : Prop :=
  v = .tuple #[wdV (built m l t).2, .int .i64 0] ∧ GrowA σ0 σ' ∧ σ'.abs = heapAbs h (built m l t).1
theorem build_wc (hG : G ≤ σ0.next) (ha : σ0.abs = heapAbs h m) (hf : m.free = []) (hr : m.many + l.length ≤ m.limit) (hlim : m.limit ≤ 65536) (hs : SlW σ0 s l) (hsc : s.cells.toList = [s]) (hlen : lenF Tryd.prog 37 s = some (.int .i64 l.length)) :
    WC G Tryd.prog 47 #[pp h, s, wdV t] σ0 (BuildR h m l t σ0) := by
  refine WC.enterD (fn := Tryd.f47) Tryd.func47 rfl ?_
  refine W.know 0 (x := pp h) rfl (W.know 1 (x := s) rfl ?_)
  refine W.seq ?_
  refine W.region ?_
  refine RW.makeG (x := .row ⟨[pp h], 24, false⟩) (fm := fun b => .pointer (some ⟨b, 0, none⟩)) (by kernel_rfl) (by kernel_rfl) (by kernel_rfl) (by kernel_rfl) ?_; intro σ1 _ g1 G1 n1
  refine RW.makeG (x := .row ⟨[.int .i64 t.1, .int .i64 t.2], 28, false⟩) (fm := fun b => .pointer (some ⟨b, 0, none⟩)) (by kernel_rfl) (by kernel_rfl) (by kernel_rfl) (by kernel_rfl) ?_; intro σ2 _ g2 G2 n2
  refine RW.makeG (x := .row ⟨[.int .i64 0, .int .i64 0], 28, false⟩) (fm := fun b => .pointer (some ⟨b, 0, none⟩)) (by kernel_rfl) (by kernel_rfl) (by kernel_rfl) (by kernel_rfl) ?_; intro σ3 _ g3 G3 n3
  rw [n1] at g2 n2 ⊢
  rw [n2] at g3 n3 ⊢
  refine RW.val (by kernel_rfl) (by kernel_rfl) rfl (by kernel_rfl) ?_
  refine RW.nil ?_
  have G03 := (G1.trans G2).trans G3
  have q1 := G3.old _ _ (G2.old _ _ g1)
  have CLi := s_limit (G := G) (G03.abs.trans ha)
  have CMa := s_many (G := G) (G03.abs.trans ha)
  refine W.seq ?_
  refine W.seq ?_
  refine W.drawnS (by kernel_rfl) (by kernel_rfl) (by omega) ?_
  refine RW.val (by kernel_rfl) (by kernel_rfl) rfl (by kernel_rfl) ?_
  refine RW.len (by kernel_rfl) (by kernel_rfl) rfl rfl rfl rfl hlen (by kernel_rfl) ?_
  refine RW.load (by kernel_rfl) (by kernel_rfl) rfl rfl q1 rfl rfl (by kernel_rfl) ?_
  refine RW.call (by kernel_rfl) (by kernel_rfl) rfl rfl rfl (by kernel_rfl) (by kernel_rfl) ⟨_, _, CLi, ?_⟩
  refine RW.load (by kernel_rfl) (by kernel_rfl) rfl rfl q1 rfl rfl (by kernel_rfl) ?_
  refine RW.call (by kernel_rfl) (by kernel_rfl) rfl rfl rfl (by kernel_rfl) (by kernel_rfl) ⟨_, _, CMa, ?_⟩
  refine RW.valE (by kernel_rfl) (by kernel_rfl) rfl (congrArg (Value.int .i64) (wrap_in (by omega) (by omega))) (by kernel_rfl) ?_
  refine RW.valE (v' := .bool false) (by kernel_rfl) (by kernel_rfl) rfl (congrArg Value.bool (decide_eq_false (by omega))) (by kernel_rfl) ?_
  refine RW.nil ?_
  refine ⟨⟨by kernel_rfl, ?_, fun b => rfl⟩, ?_⟩
  · repeat' (first | exact True.intro | exact fun _ => rfl | exact ⟨_, q1⟩ | refine And.intro ?_ ?_)
  refine W.cond (b := false) rfl (fun h => by cases h) (fun _ => ?_)
  refine W.skip ?_
  refine W.seq ?_
  refine W.seq ?_
  refine W.region ?_
  refine RW.val (by kernel_rfl) (by kernel_rfl) rfl (by kernel_rfl) ?_
  refine RW.call (by kernel_rfl) (by kernel_rfl) rfl rfl rfl (by kernel_rfl) (by kernel_rfl) ((backward_wc s hsc (by omega)).mono ?_)
  rintro _ σ4 ⟨rfl, G4, n4, g4⟩
  refine RW.nil ?_
  refine W.block ?_
  have G04 := G03.trans G4
  have hn4 : σ4.next = σ0.next + 4 := by omega
  refine W.tas 3 5 6 20 20 (x1 := pp σ0.next) (x2 := pp (σ0.next + 1)) (x3 := pp (σ0.next + 2)) (x4 := .func (.func 69) #[] #[pp (σ0.next + 3)]) rfl rfl rfl (by rw [show σ0.next + 3 = σ3.next by omega]; rfl) rfl fun TA t3 t5 t6 t20 _ => ?_
  refine W.range (fa := #[]) (ca := #[pp (σ0.next + 3)]) t20 (fun i h => by cases h) (fun v h => by cases h) (by kernel_rfl) ?_
  rw [hn4]
  rw [show σ3.next = σ0.next + 3 by omega] at g4
  obtain ⟨σ7, h7⟩ : ∃ s, s = (σ4.push (.defs true)).push (bldLp TA (σ0.next + 4)) := ⟨_, rfl⟩
  have G7 : Grow σ4 σ7 := by
    rw [h7]
    exact ⟨fun b y hy => get_push_old (get_push_old hy), by show σ4.next ≤ σ4.next + 1 + 1; omega, rfl⟩
  have hn7 : σ7.next = σ0.next + 6 := by rw [h7]; show σ4.next + 1 + 1 = _; omega
  have d7 : σ7.get (σ0.next + 4) = some (.defs true) := by rw [h7, ← hn4]; exact get_push_old get_push
  have l7 : σ7.get (σ0.next + 5) = some (bldLp TA (σ0.next + 4)) := by
    rw [h7, show σ0.next + 5 = (σ4.push (.defs true)).next by show _ = σ4.next + 1; omega]
    exact get_push
  have G07 := G04.trans G7
  have B0 : BuildAt h m l t s σ0 σ7 TA 0 := ⟨G07.old, by omega, G07.abs.trans ha, G7.old _ _ (G4.old _ _ q1), G7.old _ _ (G4.old _ _ (G3.old _ _ g2)), G7.old _ _ (G4.old _ _ g3), G7.old _ _ g4, d7, l7⟩
  show WC G Tryd.prog 69 #[.func (.yield (σ0.next + 5)) #[] #[], pp (σ0.next + 3)] ((σ4.push (.defs true)).push (bldLp TA (σ0.next + 4))) _
  rw [← h7]
  clear h7 G1 G2 G3 G4 G03 G04 g1 g2 g3 g4 q1 d7 l7
  refine (backLoop (l := l) (s := s) (b1 := σ0.next + 3) (L := σ0.next + 5) (by omega) hlen (by omega) (I := fun k σ => BuildAt h m l t s σ0 σ TA k) (R := fun σ => BuildAt h m l t s σ0 σ TA l.length) ?_ ?_ (fun σ B => B) B0).mono ?_
  · intro k σ B
    exact ⟨B.b1, slw_old hs B.old⟩
  · intro k j σ hj B
    exact build_yield hG B hf hr hj t3 t5
  · rintro _ σ8 B
    have hnx := B.nx
    refine ⟨_, _, _, _, _, _, _, _, .normal, B.lp, rfl, rfl, ?_⟩
    have sL := set1_put (x := .loop .exhausted none 31 TA (rangePs buildR) (rangeAs buildR) (rangeBo buildR) (σ0.next + 4)) B.lp
    generalize σ8.put (σ0.next + 5) (.loop .exhausted none 31 TA (rangePs buildR) (rangeAs buildR) (rangeBo buildR) (σ0.next + 4)) = σ9 at sL
    have G9 : GrowA σ0 σ9 := (⟨B.old, by omega⟩ : GrowA σ0 σ8).set sL (by omega)
    refine W.know 5 t5 (W.know 6 t6 ?_)
    refine W.seq ?_
    refine W.region ?_
    refine RW.loads 2 (by kernel_rfl) (by kernel_rfl) rfl rfl (sL.old _ _ (by omega) B.r5) rfl rfl (by kernel_rfl) ?_
    refine RW.setG (b := σ0.next + 2) (vs := #[.int .i64 (bld m l t l.length).2.1, .int .i64 (bld m l t l.length).2.2]) (by kernel_rfl) (by kernel_rfl) rfl rfl (by omega) (sL.old _ _ (by omega) B.r6) rfl rfl (by kernel_rfl) rfl (by kernel_rfl) ?_; intro σ10 _ s10
    refine RW.val (by kernel_rfl) (by kernel_rfl) rfl (by kernel_rfl) ?_
    refine RW.nil ?_
    refine W.ret ?_
    have p8' := s10.old _ _ (by omega) (sL.old _ _ (by omega) B.df)
    have s13 := set1_put (x := .defs false) p8'
    refine endGD rfl p8' (by omega) (resW rfl (s13.old _ _ (by omega) s10.at_) (resL_tmp rfl)) ?_
    exact ⟨rfl, (G9.set s10 (by omega)).set s13 (by omega), s13.abs.trans (s10.abs.trans (sL.abs.trans B.abs))⟩
theorem make_wc (hG : G ≤ σ0.next) (ha : σ0.abs = heapAbs h m) (hf : m.free = []) (hr : m.many + l.length ≤ m.limit) (hlo : 0 < m.limit) (hlim : m.limit ≤ 65536) (hs : SlW σ0 s l) (hsc : s.cells.toList = [s]) (hlen : lenF Tryd.prog 37 s = some (.int .i64 l.length)) :
    WC G Tryd.prog 33 #[pp h, s] σ0 (BuildR h m l (1, 0) σ0) := by
  refine WC.enter (fn := Tryd.f33) Tryd.func33 rfl ?_
  refine W.know 0 (x := pp h) rfl (W.know 1 (x := s) rfl ?_)
  refine W.seq ?_
  refine W.region ?_
  refine RW.makeG (x := .row ⟨[.int .i64 0, .int .i64 0], 28, false⟩) (fm := fun b => .pointer (some ⟨b, 0, none⟩)) (by kernel_rfl) (by kernel_rfl) (by kernel_rfl) (by kernel_rfl) ?_; intro σ1 _ g1 G1 n1
  refine RW.val (by kernel_rfl) (by kernel_rfl) rfl (by kernel_rfl) ?_
  refine RW.nil ?_
  refine W.seq ?_
  refine W.block ?_
  refine W.seq ?_
  refine W.region ?_
  refine RW.val (by kernel_rfl) (by kernel_rfl) rfl (by kernel_rfl) ?_
  refine RW.call (by kernel_rfl) (by kernel_rfl) rfl rfl rfl (by kernel_rfl) (by kernel_rfl) ((made_wc (G1.abs.trans ha) hlo).mono ?_)
  rintro _ _ ⟨rfl, rfl⟩
  refine RW.val (by kernel_rfl) (by kernel_rfl) rfl (by kernel_rfl) ?_
  refine RW.val (by kernel_rfl) (by kernel_rfl) rfl (by kernel_rfl) ?_
  refine RW.nil ?_
  refine W.cond (b := false) rfl (fun h => by cases h) (fun _ => ?_)
  refine W.seq ?_
  refine W.region ?_
  refine RW.val (by kernel_rfl) (by kernel_rfl) rfl (by kernel_rfl) ?_
  refine RW.len (by kernel_rfl) (by kernel_rfl) rfl rfl rfl rfl hlen (by kernel_rfl) ?_
  refine RW.valE (v' := .bool false) (by kernel_rfl) (by kernel_rfl) rfl (congrArg Value.bool (decide_eq_false (by omega))) (by kernel_rfl) ?_
  refine RW.val (by kernel_rfl) (by kernel_rfl) rfl (by kernel_rfl) ?_
  refine RW.nil ?_
  refine W.cond (b := false) rfl (fun h => by cases h) (fun _ => ?_)
  refine W.skip ?_
  refine W.seq ?_
  refine W.region ?_
  refine RW.val (by kernel_rfl) (by kernel_rfl) rfl (by kernel_rfl) ?_
  refine RW.val (by kernel_rfl) (by kernel_rfl) rfl (by kernel_rfl) ?_
  refine RW.call (by kernel_rfl) (by kernel_rfl) rfl rfl rfl (by kernel_rfl) (by kernel_rfl) ⟨_, _, s_none, ?_⟩
  refine RW.call (by kernel_rfl) (by kernel_rfl) rfl rfl rfl (by kernel_rfl) (by kernel_rfl) ((build_wc (t := (1, 0)) (by omega) (G1.abs.trans ha) hf hr hlim (slw_old hs G1.old) hsc hlen).mono ?_)
  rintro _ σ2 ⟨rfl, G2, a2⟩
  refine RW.val (by kernel_rfl) (by kernel_rfl) rfl (by kernel_rfl) ?_
  refine RW.val (by kernel_rfl) (by kernel_rfl) rfl (by kernel_rfl) ?_
  refine RW.setG (b := σ0.next) (vs := #[.int .i64 (built m l (1, 0)).2.1, .int .i64 (built m l (1, 0)).2.2]) (by kernel_rfl) (by kernel_rfl) rfl rfl hG (G2.old _ _ g1) rfl rfl (by kernel_rfl) rfl (by kernel_rfl) ?_; intro σ3 _ s3
  refine RW.val (by kernel_rfl) (by kernel_rfl) rfl (by kernel_rfl) ?_
  refine RW.nil ?_
  refine W.ret ?_
  exact endG rfl (resW rfl s3.at_ (resL_tmp rfl)) ⟨rfl, (G1.a.trans G2).set s3 (Nat.le_refl _), s3.abs.trans a2⟩
end
end Go.Proofs.YtaaebeiigkhcjaaDoor
