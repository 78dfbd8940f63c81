/-
  What lies behind a call's start, as a list of rows; what grows and what is set there. Conditions: none.
  lists.find with identity, one round, in the second memory. Conditions: the heap lies there as HeapAt says.
  lists.find with identity, lists.Memq in the second memory. Conditions: the heap lies there as HeapAt says.
  lists.Memq, Length, Copy in the second memory. Conditions: the heap lies there as HeapAt says.
  lists.Get over an endless list that doesn't hold the key, one round, in the second memory. Conditions: the heap lies there as HeapAt says.
  lists.Get over an endless list that doesn't hold the key, in the second memory. Conditions: the heap lies there as HeapAt says.
  Rings of conses in plain words; the contracts with the list's word by its name. Conditions: the heap lies there as HeapAt says.
-/
import Derived.Test.YtehcckhdppdkcaaGreatDoorLc
import Derived.Test.YtehcckhdppdkcaaGreatDoorLkA
namespace Go.Proofs.YtehcckhdppdkcaaGreatDoor
set_option maxRecDepth 100000
/-- Rows at s, s + 1, .. by their places. -/
def At (σ : Mem) (s : Nat) : List (Nat × Blk2) → Prop
  | [] => True
  | (o, x) :: l => σ.get (s + o) = some x ∧ At σ s l
def setAt : List (Nat × Blk2) → Nat → Blk2 → List (Nat × Blk2)
  | [], _, _ => []
  | (o, x) :: l, k, y => (if o = k then (o, y) else (o, x)) :: setAt l k y
def lookAt : List (Nat × Blk2) → Nat → Option Blk2
  | [], _ => none
  | (o, x) :: l, k => if o = k then some x else lookAt l k
theorem At.keep {σ σ' : Mem} {s : Nat} (k : ∀ b y, σ.get b = some y → σ'.get b = some y) : ∀ {L : List (Nat × Blk2)}, At σ s L → At σ' s L
  | [], h => h
  | (_, _) :: _, h => ⟨k _ _ h.1, At.keep k h.2⟩
theorem At.set {σ σ' : Mem} {s k : Nat} {y : Blk2} (h1 : Set1 σ σ' (s + k) y) : ∀ {L : List (Nat × Blk2)}, At σ s L → At σ' s (setAt L k y)
  | [], h => h
  | (o, x) :: l, h => by
    unfold setAt
    by_cases e : o = k
    · rw [if_pos e]
      exact ⟨by rw [e]; exact h1.at_, At.set h1 h.2⟩
    · rw [if_neg e]
      exact ⟨h1.old _ _ (by omega) h.1, At.set h1 h.2⟩
theorem At.get {σ : Mem} {s k : Nat} {y : Blk2} : ∀ {L : List (Nat × Blk2)}, At σ s L → lookAt L k = some y → σ.get (s + k) = some y
  | [], _, h => by cases h
  | (o, x) :: l, h, e => by
    unfold lookAt at e
    by_cases c : o = k
    · rw [if_pos c] at e
      cases e
      rw [← c]; exact h.1
    · rw [if_neg c] at e
      exact h.2.get e
/-- What a function has laid behind its start, N rows at least. -/
structure Lay (h : Nat) (m : HM) (σ0 σ : Mem) (N : Nat) (L : List (Nat × Blk2)) : Prop where
  old : ∀ b y, σ0.get b = some y → σ.get b = some y
  nx : σ0.next + N ≤ σ.next
  abs : σ.abs = heapAbs h m
  at_ : At σ σ0.next L
section
variable {h : Nat} {m : HM} {σ0 σ σ' : Mem} {N : Nat} {L : List (Nat × Blk2)}
theorem Lay.grow (H : Lay h m σ0 σ N L) (g : Grow σ σ') : Lay h m σ0 σ' N L := ⟨fun b y hy => g.old b y (H.old b y hy), by have := H.nx; have := g.nx; omega, g.abs.trans H.abs, H.at_.keep g.old⟩
theorem Lay.set (H : Lay h m σ0 σ N L) {k : Nat} {y : Blk2} (s : Set1 σ σ' (σ0.next + k) y) : Lay h m σ0 σ' N (setAt L k y) := ⟨fun b z hz => s.old b z (by have := Mem.lt hz; omega) (H.old b z hz), by rw [s.nx]; exact H.nx, s.abs.trans H.abs, H.at_.set s⟩
theorem Lay.get (H : Lay h m σ0 σ N L) {k : Nat} {y : Blk2} (e : lookAt L k = some y) : σ.get (σ0.next + k) = some y := H.at_.get e
/-- One more row is laid. -/
theorem Lay.add (H : Lay h m σ0 σ N L) {y : Blk2} (g : Grow σ σ') (e : σ.next = σ0.next + N) (ha : σ'.get σ.next = some y) (hn : σ'.next = σ.next + 1) : Lay h m σ0 σ' (N + 1) ((N, y) :: L) := ⟨(H.grow g).old, by omega, (H.grow g).abs, by rw [e] at ha; exact ha, (H.grow g).at_⟩
theorem Lay.toGrow (H : Lay h m σ0 σ N L) (ha : σ0.abs = heapAbs h m) : Grow σ0 σ := ⟨H.old, by have := H.nx; omega, H.abs.trans ha.symm⟩
end
end Go.Proofs.YtehcckhdppdkcaaGreatDoor
namespace Go.Proofs.YtehcckhdppdkcaaGreatDoor
set_option maxRecDepth 100000
noncomputable abbrev findR : Code := rangeIn (restN 3 (bodyOf Tryz.f60))
noncomputable abbrev findLp (TA : Nat → Value) (D : Nat) : Blk2 := rdy 68 TA (rangePs findR) (rangeAs findR) (rangeBo findR) D
noncomputable def findL (h s : Nat) (x cur : Wd) (k : Nat) (rest : Wd) (lp : Blk2) : List (Nat × Blk2) :=
  [(13, lp), (12, .defs true), (11, .row ⟨[pp (s + 8)], 94, false⟩), (10, wrow cur), (9, .row ⟨[pp h], 23, false⟩), (8, wrow rest), (7, .row ⟨[.int .i64 (k : Int)], 3, false⟩), (6, .row ⟨[.int .i64 0], 24, false⟩), (5, wrow (0, 0)), (4, .row ⟨[.bool false], 4, false⟩), (3, .row ⟨[.func (.func 61) #[] #[]], 35, false⟩), (1, wrow x), (0, .row ⟨[pp h], 23, false⟩)]
/-- The registers that the loop's body reads. -/
def findTA (s : Nat) (TA : Nat → Value) : Nat → Value := updL TA [(5, pp (s + 0)), (6, pp (s + 1)), (8, pp (s + 3)), (9, pp (s + 4)), (10, pp (s + 5)), (11, pp (s + 6)), (12, pp (s + 7)), (13, pp (s + 8))]
/-- find has left its loop with a word and a number. -/
structure FStop (h : Nat) (m : HM) (σ0 σ : Mem) (w : Wd) (e : Int) : Prop where
  lay : Lay h m σ0 σ 14 [(5, wrow w), (6, .row ⟨[.int .i64 e], 24, false⟩), (12, .defs true)]
  lp : ∃ nt' ta' ps' as' bo' df', σ.get (σ0.next + 13) = some (.loop .done (some .ret) nt' ta' ps' as' bo' df')
section
variable {G h : Nat} {m : HM} {σ σ0 : Mem}
set_option maxHeartbeats 2000000 in
theorem find_yield {x cur y rest : Wd} {k : Nat} {TA : Nat → Value} (hG : G ≤ σ0.next) (H : Lay h m σ0 σ 14 (findL h σ0.next x cur k rest (findLp (findTA σ0.next TA) (σ0.next + 12)))) (hk : k ≤ 65536) :
    Yield G Tryz.prog (σ0.next + 13) [wdV cur, wdV y] σ fun r σ' => (r = true → k < 65536 ∧ x ≠ y ∧ Lay h m σ0 σ' 14 (findL h σ0.next x cur (k + 1) rest (findLp (findTA σ0.next TA) (σ0.next + 12)))) ∧
      (r = false → (k = 65536 ∧ FStop h m σ0 σ' (0, 0) 16) ∨ (k < 65536 ∧ x = y ∧ FStop h m σ0 σ' cur 0)) := by
  have hnx := H.nx
  refine Yield.of (H.get (k := 13) rfl) rfl (by decide) ?_
  refine W.seq ?_
  refine W.region ?_
  refine RW.varS (d := 14) (r0 := ⟨[.int .i64 0, .int .i64 0], 37, false⟩) (vs := #[.int .i64 cur.1, .int .i64 cur.2]) (by kernel_rfl) (by kernel_rfl) (by kernel_rfl) rfl (by kernel_rfl) rfl (by kernel_rfl) rfl rfl rfl rfl (by kernel_rfl) rfl (by omega) ?_
  intro σ1 _ g1 o1 n1 a1
  have H1 := H.grow (⟨o1, by omega, a1⟩ : Grow σ σ1)
  refine RW.nil ?_
  refine W.region ?_
  refine RW.varS (d := 15) (r0 := ⟨[.int .i64 0, .int .i64 0], 37, false⟩) (vs := #[.int .i64 y.1, .int .i64 y.2]) (by kernel_rfl) (by kernel_rfl) (by kernel_rfl) rfl (by kernel_rfl) rfl (by kernel_rfl) rfl rfl rfl rfl (by kernel_rfl) rfl (by omega) ?_
  intro σ2 _ g2 o2 n2 a2
  have H2 := H1.grow (⟨o2, by omega, a2⟩ : Grow σ1 σ2)
  have g1 := o2 _ _ g1
  rw [n1] at g2
  refine RW.nil ?_
  refine ⟨rfl, H2.get (k := 13) rfl, fun σ3 s3 => ?_⟩
  have H3 := H2.set s3
  replace g1 := s3.old _ _ (by omega) g1
  replace g2 := s3.old _ _ (by omega) g2
  have n3 : σ3.next = σ.next + 2 := by rw [s3.nx]; omega
  clear H1 H2 s3 o1 o2 n2 a1 a2 H
  refine W.reset [(5, pp (σ0.next + 0)), (6, pp (σ0.next + 1)), (8, pp (σ0.next + 3)), (9, pp (σ0.next + 4)), (10, pp (σ0.next + 5)), (11, pp (σ0.next + 6)), (12, pp (σ0.next + 7)), (13, pp (σ0.next + 8)), (14, pp σ.next), (15, pp (σ.next + 1))] ⟨rfl, rfl, rfl, rfl, rfl, rfl, rfl, rfl, rfl, by show pp σ1.next = pp (σ.next + 1); rw [n1], trivial⟩ fun TB => ?_
  refine W.block ?_
  refine W.seq ?_
  refine W.seq ?_
  refine W.region ?_
  refine RW.load (by kernel_rfl) (by kernel_rfl) rfl rfl (H3.get (k := 7) rfl) rfl rfl (by kernel_rfl) ?_
  refine RW.valE (by kernel_rfl) (by kernel_rfl) rfl (congrArg (Value.int .i64) (wrap_in (by omega) (by omega))) (by kernel_rfl) ?_
  refine RW.set1G (b := σ0.next + 7) (v := .int .i64 ((k + 1 : Nat) : Int)) (by kernel_rfl) (by kernel_rfl) rfl rfl (by omega) (H3.get (k := 7) rfl) rfl rfl rfl (by kernel_rfl) rfl (by kernel_rfl) ?_; intro σ4 _ s4
  have H4 := H3.set s4
  replace g1 := s4.old _ _ (by omega) g1
  replace g2 := s4.old _ _ (by omega) g2
  have n4 := s4.nx
  refine RW.nil ?_
  refine W.seq ?_
  refine W.region ?_
  refine RW.load (by kernel_rfl) (by kernel_rfl) rfl rfl (H4.get (k := 7) rfl) rfl rfl (by kernel_rfl) ?_
  by_cases hk6 : k = 65536
  · refine RW.valE (v' := .bool true) (by kernel_rfl) (by kernel_rfl) rfl (congrArg Value.bool (decide_eq_true (by omega))) (by kernel_rfl) ?_
    refine RW.nil ?_
    refine W.cond (b := true) rfl (fun _ => ?_) (fun h => by cases h)
    refine W.seq ?_
    refine W.region ?_
    refine RW.val (v := .agg #[.int .i64 0, .int .i64 0]) (by kernel_rfl) (by kernel_rfl) (by kernel_rfl) (by kernel_rfl) ?_
    refine RW.setG (b := σ0.next + 5) (vs := #[.int .i64 0, .int .i64 0]) (by kernel_rfl) (by kernel_rfl) rfl rfl (by omega) (H4.get (k := 5) rfl) rfl rfl (by kernel_rfl) rfl (by kernel_rfl) ?_; intro σ5 _ s5
    have H5 := H4.set s5
    refine RW.set1G (b := σ0.next + 6) (v := .int .i64 16) (by kernel_rfl) (by kernel_rfl) rfl rfl (by omega) (H5.get (k := 6) rfl) rfl rfl rfl (by kernel_rfl) rfl (by kernel_rfl) ?_; intro σ6 _ s6
    have H6 := H5.set s6
    refine RW.nil ?_
    refine W.ret ?_
    refine ⟨H6.get (k := 13) rfl, _, _, _, rfl, fun σ7 s7 => ⟨fun h => (by cases h), fun _ => .inl ⟨hk6, ?_⟩⟩⟩
    have H7 := H6.set s7
    exact ⟨⟨H7.old, H7.nx, H7.abs, H7.get (k := 5) rfl, H7.get (k := 6) rfl, H7.get (k := 12) rfl, trivial⟩, _, _, _, _, _, _, s7.at_⟩
  · refine RW.valE (v' := .bool false) (by kernel_rfl) (by kernel_rfl) rfl (congrArg Value.bool (decide_eq_false (by omega))) (by kernel_rfl) ?_
    refine RW.nil ?_
    refine W.cond (b := false) rfl (fun h => by cases h) (fun _ => ?_)
    refine W.skip ?_
    refine W.seq ?_
    refine W.region ?_
    refine RW.loads 2 (by kernel_rfl) (by kernel_rfl) rfl rfl g1 rfl rfl (by kernel_rfl) ?_
    refine RW.varS (d := 16) (r0 := ⟨[.int .i64 0, .int .i64 0], 37, false⟩) (vs := #[.int .i64 cur.1, .int .i64 cur.2]) (by kernel_rfl) (by kernel_rfl) (by kernel_rfl) rfl (by kernel_rfl) rfl (by kernel_rfl) rfl rfl rfl rfl (by kernel_rfl) rfl (by omega) ?_
    intro σ5 _ g5 o5 n5 a5
    have H5 := H4.grow (⟨o5, by omega, a5⟩ : Grow σ4 σ5)
    replace g1 := o5 _ _ g1
    replace g2 := o5 _ _ g2
    refine RW.nil ?_
    refine W.seq ?_
    refine W.seq ?_
    refine W.region ?_
    refine RW.load (by kernel_rfl) (by kernel_rfl) rfl rfl (H5.get (k := 4) rfl) rfl rfl (by kernel_rfl) ?_
    refine RW.nil ?_
    refine W.cond (b := false) rfl (fun h => by cases h) (fun _ => ?_)
    refine W.skip ?_
    refine W.seq ?_
    refine W.region ?_
    refine RW.load (by kernel_rfl) (by kernel_rfl) rfl rfl (H5.get (k := 3) rfl) rfl rfl (by kernel_rfl) ?_
    refine RW.load (by kernel_rfl) (by kernel_rfl) rfl rfl (H5.get (k := 0) rfl) rfl rfl (by kernel_rfl) ?_
    refine RW.loads 2 (by kernel_rfl) (by kernel_rfl) rfl rfl (H5.get (k := 1) rfl) rfl rfl (by kernel_rfl) ?_
    refine RW.loads 2 (by kernel_rfl) (by kernel_rfl) rfl rfl g2 rfl rfl (by kernel_rfl) ?_
    refine RW.call (by kernel_rfl) (by kernel_rfl) rfl rfl rfl (by kernel_rfl) (by kernel_rfl) ((eq_wc (pp h) x y (by omega)).mono ?_)
    rintro _ σ6 ⟨rfl, G6⟩
    have H6 := H5.grow G6
    have n6 := G6.nx
    have g6 := G6.old _ _ g5
    refine RW.val (by kernel_rfl) (by kernel_rfl) rfl (by kernel_rfl) ?_
    refine RW.val (by kernel_rfl) (by kernel_rfl) rfl (by kernel_rfl) ?_
    refine RW.val (by kernel_rfl) (by kernel_rfl) rfl (by kernel_rfl) ?_
    refine RW.val (by kernel_rfl) (by kernel_rfl) rfl (by kernel_rfl) ?_
    refine RW.val (by kernel_rfl) (by kernel_rfl) rfl (by kernel_rfl) ?_
    refine RW.nil ?_
    refine W.block ?_
    refine W.seq ?_
    refine W.region ?_
    refine RW.val (by kernel_rfl) (by kernel_rfl) rfl (by kernel_rfl) ?_
    refine RW.valE (v' := .bool false) (by kernel_rfl) (by kernel_rfl) rfl (congrArg Value.bool (bne_eq_false_iff_eq.2 rfl)) (by kernel_rfl) ?_
    refine RW.val (by kernel_rfl) (by kernel_rfl) rfl (by kernel_rfl) ?_
    refine RW.nil ?_
    refine W.cond (b := false) rfl (fun h => by cases h) (fun _ => ?_)
    refine W.seq ?_
    refine W.region ?_
    refine RW.val (by kernel_rfl) (by kernel_rfl) rfl (by kernel_rfl) ?_
    refine RW.val (by kernel_rfl) (by kernel_rfl) rfl (by kernel_rfl) ?_
    refine RW.nil ?_
    by_cases hxy : x = y
    · refine W.cond (b := true) (by rw [decide_eq_true hxy]; rfl) (fun _ => ?_) (fun h => by cases h)
      refine W.seq ?_
      refine W.region ?_
      refine RW.loads 2 (by kernel_rfl) (by kernel_rfl) rfl rfl g6 rfl rfl (by kernel_rfl) ?_
      refine RW.setG (b := σ0.next + 5) (vs := #[.int .i64 cur.1, .int .i64 cur.2]) (by kernel_rfl) (by kernel_rfl) rfl rfl (by omega) (H6.get (k := 5) rfl) rfl rfl (by kernel_rfl) rfl (by kernel_rfl) ?_; intro σ7 _ s7
      have H7 := H6.set s7
      refine RW.set1G (b := σ0.next + 6) (v := .int .i64 0) (by kernel_rfl) (by kernel_rfl) rfl rfl (by omega) (H7.get (k := 6) rfl) rfl rfl rfl (by kernel_rfl) rfl (by kernel_rfl) ?_; intro σ8 _ s8
      have H8 := H7.set s8
      refine RW.nil ?_
      refine W.ret ?_
      refine ⟨H8.get (k := 13) rfl, _, _, _, rfl, fun σ9 s9 => ⟨fun h => (by cases h), fun _ => .inr ⟨by omega, hxy, ?_⟩⟩⟩
      have H9 := H8.set s9
      exact ⟨⟨H9.old, H9.nx, H9.abs, H9.get (k := 5) rfl, H9.get (k := 6) rfl, H9.get (k := 12) rfl, trivial⟩, _, _, _, _, _, _, s9.at_⟩
    · refine W.cond (b := false) (by rw [decide_eq_false hxy]; rfl) (fun h => by cases h) (fun _ => ?_)
      refine W.skip ?_
      refine ⟨H6.get (k := 13) rfl, _, _, _, rfl, fun σ9 s9 => ⟨fun _ => ⟨by omega, hxy, ?_⟩, fun h => (by cases h)⟩⟩
      exact H6.set s9
end
end Go.Proofs.YtehcckhdppdkcaaGreatDoor
namespace Go.Proofs.YtehcckhdppdkcaaGreatDoor
set_option maxRecDepth 100000
/-- What find answers: found; too long; an end that is not Nil; not found. -/
def FindR (x : Wd) (n : Nat) (c a : Nat → Wd) (σ0 : Mem) (v : Value) (σ' : Mem) : Prop :=
  Grow σ0 σ' ∧ ((∃ i, i < n ∧ i < 65536 ∧ x = a i ∧ (∀ j, j < i → x ≠ a j) ∧ v = .tuple #[wdV (c i), .int .i64 0]) ∨ (n = 65537 ∧ (∀ j, j < 65536 → x ≠ a j) ∧ v = .tuple #[wdV (0, 0), .int .i64 16]) ∨
    (n ≤ 65536 ∧ (∀ j, j < n → x ≠ a j) ∧ c n ≠ (1, 0) ∧ v = .tuple #[wdV (0, 0), .int .i64 6]) ∨ (n ≤ 65536 ∧ (∀ j, j < n → x ≠ a j) ∧ c n = (1, 0) ∧ v = .tuple #[wdV (1, 0), .int .i64 0]))
section
variable {G h : Nat} {m : HM} {σ σ0 : Mem}
set_option maxHeartbeats 4000000 in
theorem find_wc (x : Wd) (hG : G ≤ σ0.next) (ha : σ0.abs = heapAbs h m) (hlim : 0 < m.limit) {c a : Nat → Wd} {n : Nat} (hp : Path m c a n) (hend : n = 65537 ∨ n ≤ 65536 ∧ ((c n).1 ≠ 2 ∨ m.find (c n) = none)) :
    WC G Tryz.prog 60 #[pp h, wdV x, wdV (c 0), .func (.func 61) #[] #[], .bool false] σ0 (FindR x n c a σ0) := by
  refine WC.enterD (fn := Tryz.f60) Tryz.func60 rfl ?_
  refine W.seq ?_
  refine W.region ?_
  have H0 : Lay h m σ0 σ0 0 [] := ⟨fun _ _ h => h, Nat.le_refl _, ha, trivial⟩
  refine RW.makeG (x := .row ⟨[pp h], 23, false⟩) (fm := fun b => .pointer (some ⟨b, 0, none⟩)) (by kernel_rfl) (by kernel_rfl) (by kernel_rfl) (by kernel_rfl) ?_; intro σ1 _ g1 G1 n1
  have H1 := H0.add G1 rfl g1 n1
  have e1 : σ1.next = σ0.next + 1 := by omega
  refine RW.makeG (x := .row ⟨[.int .i64 x.1, .int .i64 x.2], 37, false⟩) (fm := fun b => .pointer (some ⟨b, 0, none⟩)) (by kernel_rfl) (by kernel_rfl) (by kernel_rfl) (by kernel_rfl) ?_; intro σ2 _ g2 G2 n2
  rw [e1] at g2
  have H2 := H1.add G2 e1 (by rw [e1]; exact g2) n2
  have e2 : σ2.next = σ0.next + 2 := by omega
  refine RW.makeG (x := .row ⟨[.int .i64 (c 0).1, .int .i64 (c 0).2], 37, false⟩) (fm := fun b => .pointer (some ⟨b, 0, none⟩)) (by kernel_rfl) (by kernel_rfl) (by kernel_rfl) (by kernel_rfl) ?_; intro σ3 _ g3 G3 n3
  have H3 := H2.add G3 e2 g3 n3
  have e3 : σ3.next = σ0.next + 3 := by omega
  refine RW.makeG (x := .row ⟨[.func (.func 61) #[] #[]], 35, false⟩) (fm := fun b => .pointer (some ⟨b, 0, none⟩)) (by kernel_rfl) (by kernel_rfl) (by kernel_rfl) (by kernel_rfl) ?_; intro σ4 _ g4 G4 n4
  have H4 := H3.add G4 e3 g4 n4
  have e4 : σ4.next = σ0.next + 4 := by omega
  refine RW.makeG (x := .row ⟨[.bool false], 4, false⟩) (fm := fun b => .pointer (some ⟨b, 0, none⟩)) (by kernel_rfl) (by kernel_rfl) (by kernel_rfl) (by kernel_rfl) ?_; intro σ5 _ g5 G5 n5
  have H5 := H4.add G5 e4 g5 n5
  have e5 : σ5.next = σ0.next + 5 := by omega
  refine RW.makeG (x := .row ⟨[.int .i64 0, .int .i64 0], 37, false⟩) (fm := fun b => .pointer (some ⟨b, 0, none⟩)) (by kernel_rfl) (by kernel_rfl) (by kernel_rfl) (by kernel_rfl) ?_; intro σ6 _ g6 G6 n6
  have H6 := H5.add G6 e5 g6 n6
  have e6 : σ6.next = σ0.next + 6 := by omega
  refine RW.makeG (x := .row ⟨[.int .i64 0], 24, false⟩) (fm := fun b => .pointer (some ⟨b, 0, none⟩)) (by kernel_rfl) (by kernel_rfl) (by kernel_rfl) (by kernel_rfl) ?_; intro σ7 _ g7 G7 n7
  have H7 := H6.add G7 e6 g7 n7
  have e7 : σ7.next = σ0.next + 7 := by omega
  rw [e1, e2, e3, e4, e5, e6]
  refine RW.nil ?_
  refine W.reset [(5, pp (σ0.next + 0)), (6, pp (σ0.next + 1)), (7, pp (σ0.next + 2)), (8, pp (σ0.next + 3)), (9, pp (σ0.next + 4)), (10, pp (σ0.next + 5)), (11, pp (σ0.next + 6))] ⟨rfl, rfl, rfl, rfl, rfl, rfl, rfl, trivial⟩ fun TA => ?_
  clear H0 H1 H2 H3 H4 H5 H6 g1 g2 g3 g4 g5 g6 g7 G1 G2 G3 G4 G5 G6 G7
  refine W.seq ?_
  refine W.seq ?_
  refine W.region ?_
  refine RW.load (by kernel_rfl) (by kernel_rfl) rfl rfl (H7.get (k := 0) rfl) rfl rfl (by kernel_rfl) ?_
  refine RW.call (by kernel_rfl) (by kernel_rfl) rfl rfl rfl (by kernel_rfl) (by kernel_rfl) ((made_wc (G := G) (h := h) H7.abs hlim).mono ?_)
  rintro _ σ' ⟨rfl, hσ⟩
  obtain rfl := hσ.symm
  refine RW.val (by kernel_rfl) (by kernel_rfl) rfl (by kernel_rfl) ?_
  refine RW.nil ?_
  refine W.cond (b := false) rfl (fun h => by cases h) (fun _ => ?_)
  refine W.skip ?_
  refine W.seq ?_
  have q2 := H7.get (k := 2) rfl
  have H8 := H7.add (y := .row ⟨[.int .i64 0], 3, false⟩) (σ' := σ7.push (.row ⟨[.int .i64 0], 3, false⟩)) ⟨fun _ _ h => get_push_old h, Nat.le_succ _, rfl⟩ e7 get_push rfl
  have e8 : (σ7.push (.row ⟨[.int .i64 0], 3, false⟩)).next = σ0.next + 8 := by show σ7.next + 1 = _; omega
  have H9 := H8.add (y := .row ⟨[.int .i64 0, .int .i64 0], 37, false⟩) (σ' := (σ7.push (.row ⟨[.int .i64 0], 3, false⟩)).push (.row ⟨[.int .i64 0, .int .i64 0], 37, false⟩)) ⟨fun _ _ h => get_push_old h, Nat.le_succ _, rfl⟩ e8 get_push rfl
  have H10 := H9.set (set1_put (x := .row ⟨[.int .i64 0], 3, false⟩) (H9.get (k := 7) rfl))
  have H11 := H10.set (set1_put (x := wrow (c 0)) (H10.get (k := 8) rfl))
  refine W.drawn (by kernel_rfl) (by kernel_rfl) (by omega) ?_
  refine RW.loads 2 (by kernel_rfl) (by kernel_rfl) rfl rfl (H7.get (k := 2) rfl) rfl rfl (by kernel_rfl) ?_
  refine RW.make (x := .row ⟨[.int .i64 0], 3, false⟩) (fm := fun b => .pointer (some ⟨b, 0, none⟩)) (by kernel_rfl) (by kernel_rfl) (by kernel_rfl) (by kernel_rfl) ?_
  refine RW.make (x := .row ⟨[.int .i64 0, .int .i64 0], 37, false⟩) (fm := fun b => .pointer (some ⟨b, 0, none⟩)) (by kernel_rfl) (by kernel_rfl) (by kernel_rfl) (by kernel_rfl) ?_
  rw [e8, e7]
  refine RW.store (b := σ0.next + 7) (v := .int .i64 0) (by kernel_rfl) (by kernel_rfl) rfl rfl (by omega) (H9.get (k := 7) rfl) rfl rfl rfl (by kernel_rfl) (by show 0 < 1; omega) (by kernel_rfl) ?_
  refine RW.stores (b := σ0.next + 8) (p := 0) (vs := #[.int .i64 (c 0).1, .int .i64 (c 0).2]) (by kernel_rfl) (by kernel_rfl) rfl rfl (by omega) (H10.get (k := 8) rfl) rfl rfl (by kernel_rfl) (by show 0 + 2 ≤ 2; omega) (by kernel_rfl) ?_
  refine RW.nil ?_
  refine ⟨⟨by kernel_rfl, ?_⟩, ?_⟩
  · repeat' (first | exact True.intro | refine dyn_row q2 (H11.get (k := 2) rfl) ?_ | exact Or.inl (by kernel_rfl) | exact fun h => Bool.noConfusion h | exact fun _ => H9.get (k := 2) rfl | exact fun _ => H10.get (k := 2) rfl | refine And.intro ?_ ?_)
  show W G Tryz.prog none 68 _ _ [] ((((σ7.push (.row ⟨[.int .i64 0], 3, false⟩)).push (.row ⟨[.int .i64 0, .int .i64 0], 37, false⟩)).put (σ0.next + 7) (.row ⟨[.int .i64 0], 3, false⟩)).put (σ0.next + 8) (wrow (c 0))) _
  have e9 : ((((σ7.push (.row ⟨[.int .i64 0], 3, false⟩)).push (.row ⟨[.int .i64 0, .int .i64 0], 37, false⟩)).put (σ0.next + 7) (.row ⟨[.int .i64 0], 3, false⟩)).put (σ0.next + 8) (wrow (c 0))).next = σ0.next + 9 := by show σ7.next + 1 + 1 = _; omega
  clear H8 H9 H10 q2 e8
  generalize (((σ7.push (.row ⟨[.int .i64 0], 3, false⟩)).push (.row ⟨[.int .i64 0, .int .i64 0], 37, false⟩)).put (σ0.next + 7) (.row ⟨[.int .i64 0], 3, false⟩)).put (σ0.next + 8) (wrow (c 0)) = σ9 at H11 e9 ⊢
  refine W.reset [(5, pp (σ0.next + 0)), (6, pp (σ0.next + 1)), (7, pp (σ0.next + 2)), (8, pp (σ0.next + 3)), (9, pp (σ0.next + 4)), (10, pp (σ0.next + 5)), (11, pp (σ0.next + 6)), (12, pp (σ0.next + 7)), (13, pp (σ0.next + 8))] ⟨rfl, rfl, rfl, rfl, rfl, rfl, rfl, rfl, rfl, trivial⟩ fun TB => ?_
  refine W.seq ?_
  refine W.seq ?_
  refine W.region ?_
  refine RW.load (by kernel_rfl) (by kernel_rfl) rfl rfl (H11.get (k := 0) rfl) rfl rfl (by kernel_rfl) ?_
  refine RW.loads 2 (by kernel_rfl) (by kernel_rfl) rfl rfl (H11.get (k := 2) rfl) rfl rfl (by kernel_rfl) ?_
  refine RW.call (by kernel_rfl) (by kernel_rfl) rfl rfl rfl (by kernel_rfl) (by kernel_rfl) ((conses_wc (c 0) (σ0.next + 8) (by omega)).mono ?_)
  rintro _ σ10 ⟨rfl, G10, n10, c3, c4, c5⟩
  refine RW.nil ?_
  rw [e9] at n10 c3 c4 c5
  rw [e9]
  refine W.block ?_
  have H12 := H11.grow G10
  have hn10 : σ10.next = σ0.next + 12 := n10
  refine W.reset [(5, pp (σ0.next + 0)), (6, pp (σ0.next + 1)), (8, pp (σ0.next + 3)), (9, pp (σ0.next + 4)), (10, pp (σ0.next + 5)), (11, pp (σ0.next + 6)), (12, pp (σ0.next + 7)), (13, pp (σ0.next + 8)), (26, .func (.func 87) #[] #[pp (σ0.next + 9), pp (σ0.next + 10), pp (σ0.next + 11)])] ⟨rfl, rfl, rfl, rfl, rfl, rfl, rfl, rfl, rfl, trivial⟩ fun TC => ?_
  refine W.range (fa := #[]) (ca := #[pp (σ0.next + 9), pp (σ0.next + 10), pp (σ0.next + 11)]) rfl (fun i h => by cases h) (fun v h => by cases h) (by kernel_rfl) ?_
  rw [hn10]
  obtain ⟨TD, hTD⟩ : ∃ t, t = updL TC [(26, .func (.func 87) #[] #[pp (σ0.next + 9), pp (σ0.next + 10), pp (σ0.next + 11)])] := ⟨_, rfl⟩
  obtain ⟨σ11, h11⟩ : ∃ s, s = (σ10.push (.defs true)).push (findLp (findTA σ0.next TD) (σ0.next + 12)) := ⟨_, rfl⟩
  have G11 : Grow σ10 σ11 := by
    rw [h11]
    exact ⟨fun b y hy => get_push_old (get_push_old hy), by show σ10.next ≤ σ10.next + 1 + 1; omega, rfl⟩
  have hn11 : σ11.next = σ0.next + 14 := by rw [h11]; show σ10.next + 1 + 1 = _; omega
  have d11 : σ11.get (σ0.next + 12) = some (.defs true) := by rw [h11, ← hn10]; exact get_push_old get_push
  have l11 : σ11.get (σ0.next + 13) = some (findLp (findTA σ0.next TD) (σ0.next + 12)) := by
    rw [h11, show σ0.next + 13 = (σ10.push (.defs true)).next by show _ = σ10.next + 1; omega]
    exact get_push
  have H13 := H12.grow G11
  have S0 : Lay h m σ0 σ11 14 (findL h σ0.next x (c 0) 0 (c 0) (findLp (findTA σ0.next TD) (σ0.next + 12))) :=
    ⟨H13.old, by omega, H13.abs, l11, d11, G11.old _ _ c5, G11.old _ _ c4, G11.old _ _ c3, H13.get (k := 8) rfl, H13.get (k := 7) rfl, H13.get (k := 6) rfl, H13.get (k := 5) rfl, H13.get (k := 4) rfl, H13.get (k := 3) rfl, H13.get (k := 1) rfl, H13.get (k := 0) rfl, trivial⟩
  rw [show updL TC [(5, pp (σ0.next + 0)), (6, pp (σ0.next + 1)), (8, pp (σ0.next + 3)), (9, pp (σ0.next + 4)), (10, pp (σ0.next + 5)), (11, pp (σ0.next + 6)), (12, pp (σ0.next + 7)), (13, pp (σ0.next + 8)), (26, .func (.func 87) #[] #[pp (σ0.next + 9), pp (σ0.next + 10), pp (σ0.next + 11)])] = findTA σ0.next TD by rw [hTD]; rfl]
  show WC G Tryz.prog 87 #[.func (.yield (σ0.next + 13)) #[] #[], pp (σ0.next + 9), pp (σ0.next + 10), pp (σ0.next + 11)] ((σ10.push (.defs true)).push (findLp (findTA σ0.next TD) (σ0.next + 12))) _
  rw [← h11]
  clear h11 H7 H11 H12 H13 c3 c4 c5 d11 l11 G10 G11
  generalize hLP : findLp (findTA σ0.next TD) (σ0.next + 12) = LP at S0
  refine (consesLoop (h := h) (m := m) (c := c) (a := a) (n := n) (b3 := σ0.next + 9) (b4 := σ0.next + 10) (b5 := σ0.next + 11) (b7 := σ0.next + 8) (L := σ0.next + 13) hp (by omega) (by omega) (by omega) (I := fun k σ => k ≤ 65536 ∧ (∀ j, j < k → x ≠ a j) ∧ ∃ rest, Lay h m σ0 σ 14 (findL h σ0.next x (c k) k rest LP)) (J := fun k σ => k < 65536 ∧ (∀ j, j < k + 1 → x ≠ a j) ∧ ∃ rest, Lay h m σ0 σ 14 (findL h σ0.next x (c k) (k + 1) rest LP))
    (R := fun σ => (n ≤ 65536 ∧ (∀ j, j < n → x ≠ a j) ∧ Lay h m σ0 σ 14 (findL h σ0.next x (c n) n (c n) LP)) ∨ (n = 65537 ∧ (∀ j, j < 65536 → x ≠ a j) ∧ FStop h m σ0 σ (0, 0) 16) ∨ (∃ i, i < n ∧ i < 65536 ∧ x = a i ∧ (∀ j, j < i → x ≠ a j) ∧ FStop h m σ0 σ (c i) 0)) ?_ ?_ ?_ ?_ ?_ ?_ ⟨by omega, fun j hj => absurd hj (by omega), c 0, S0⟩).mono ?_
  · rintro k σ ⟨_, _, rest, S⟩
    exact ⟨by have := S.nx; omega, S.abs, S.get (k := 9) rfl, S.get (k := 10) rfl, S.get (k := 11) rfl⟩
  · rintro k σ σ' ⟨hk, hno, rest, S⟩ g
    exact ⟨hk, hno, rest, S.grow g⟩
  · rintro k σ hkn ⟨hk, hno, rest, S⟩
    subst hLP
    refine (find_yield (y := a k) hG S hk).mono fun r σ' hr => ⟨fun e => ?_, fun e => ?_⟩
    · obtain ⟨h1, h2, h3⟩ := hr.1 e
      refine ⟨h1, fun j hj => ?_, rest, h3⟩
      rcases Nat.lt_or_ge j k with h4 | h4
      · exact hno j h4
      · obtain rfl : j = k := by omega
        exact h2
    · rcases hr.2 e with ⟨h1, h2⟩ | ⟨h1, h2, h3⟩
      · refine .inr (.inl ⟨?_, by rw [← h1]; exact hno, h2⟩)
        rcases hend with h3 | ⟨h3, _⟩ <;> omega
      · exact .inr (.inr ⟨k, hkn, h1, h2, hno, h3⟩)
  · rintro k σ ⟨_, _, rest, S⟩
    exact ⟨S.abs, S.get (k := 9) rfl, S.get (k := 10) rfl⟩
  · rintro k σ σ' ⟨hk, hno, rest, S⟩ s
    exact ⟨by omega, hno, rest, S.set s⟩
  · rintro σ ⟨hk, hno, rest, S⟩
    have hn2 : n ≤ 65536 ∧ ((c n).1 ≠ 2 ∨ m.find (c n) = none) := by
      rcases hend with h1 | h1
      · omega
      · exact h1
    exact ⟨hn2.2, rest, S.get (k := 8) rfl, fun σ1 σ2 g s => .inl ⟨hn2.1, hno, (S.grow g).set s⟩⟩
  · rintro _ σ12 (⟨hn, hno, H⟩ | ⟨hn, hno, HL, nt', ta', ps', as', bo', df', hl⟩ | ⟨i, hin, hi6, hx, hno, HL, nt', ta', ps', as', bo', df', hl⟩)
    · have hnx := H.nx
      subst hLP
      refine ⟨_, _, _, _, _, _, _, _, .normal, H.get (k := 13) rfl, rfl, rfl, ?_⟩
      have sL := set1_put (x := .loop .exhausted none 68 (findTA σ0.next TD) (rangePs findR) (rangeAs findR) (rangeBo findR) (σ0.next + 12)) (H.get (k := 13) rfl)
      generalize σ12.put (σ0.next + 13) (.loop .exhausted none 68 (findTA σ0.next TD) (rangePs findR) (rangeAs findR) (rangeBo findR) (σ0.next + 12)) = σ13 at sL
      have H3 := H.set sL
      have n13 := sL.nx
      clear sL
      refine W.seq ?_
      refine W.seq ?_
      refine W.region ?_
      refine RW.loads 2 (by kernel_rfl) (by kernel_rfl) rfl rfl (H3.get (k := 8) rfl) rfl rfl (by kernel_rfl) ?_
      refine RW.call (by kernel_rfl) (by kernel_rfl) rfl rfl rfl (by kernel_rfl) (by kernel_rfl) ((null_wc (c n) (by omega)).mono ?_)
      rintro _ σ14 ⟨rfl, G14⟩
      have H4 := H3.grow G14
      have n14 := G14.nx
      by_cases hc : c n = (1, 0)
      · rw [decide_eq_true hc]
        refine RW.val (by kernel_rfl) (by kernel_rfl) rfl (by kernel_rfl) ?_
        refine RW.nil ?_
        refine W.cond (b := false) rfl (fun h => by cases h) (fun _ => ?_)
        refine W.skip ?_
        refine W.seq ?_
        refine W.region ?_
        refine RW.call (by kernel_rfl) (by kernel_rfl) rfl rfl rfl (by kernel_rfl) (by kernel_rfl) ⟨_, _, s_none, ?_⟩
        refine RW.setG (b := σ0.next + 5) (vs := #[.int .i64 1, .int .i64 0]) (by kernel_rfl) (by kernel_rfl) rfl rfl (by omega) (H4.get (k := 5) rfl) rfl rfl (by kernel_rfl) rfl (by kernel_rfl) ?_; intro σ15 _ s15
        have H5 := H4.set s15
        refine RW.set1G (b := σ0.next + 6) (v := .int .i64 0) (by kernel_rfl) (by kernel_rfl) rfl rfl (by omega) (H5.get (k := 6) rfl) rfl rfl rfl (by kernel_rfl) rfl (by kernel_rfl) ?_; intro σ16 _ s16
        have H6 := H5.set s16
        refine RW.nil ?_
        refine W.ret ?_
        have p12 := H6.get (k := 12) rfl
        have H7 := H6.set (set1_put (x := .defs false) p12)
        exact endGD rfl p12 (by omega) (resW rfl (H7.get (k := 5) rfl) (resE rfl (H7.get (k := 6) rfl) rfl)) ⟨H7.toGrow ha, .inr (.inr (.inr ⟨hn, hno, hc, rfl⟩))⟩
      · rw [decide_eq_false hc]
        refine RW.val (by kernel_rfl) (by kernel_rfl) rfl (by kernel_rfl) ?_
        refine RW.nil ?_
        refine W.cond (b := true) rfl (fun _ => ?_) (fun h => by cases h)
        refine W.seq ?_
        refine W.region ?_
        refine RW.val (v := .agg #[.int .i64 0, .int .i64 0]) (by kernel_rfl) (by kernel_rfl) (by kernel_rfl) (by kernel_rfl) ?_
        refine RW.setG (b := σ0.next + 5) (vs := #[.int .i64 0, .int .i64 0]) (by kernel_rfl) (by kernel_rfl) rfl rfl (by omega) (H4.get (k := 5) rfl) rfl rfl (by kernel_rfl) rfl (by kernel_rfl) ?_; intro σ15 _ s15
        have H5 := H4.set s15
        refine RW.set1G (b := σ0.next + 6) (v := .int .i64 6) (by kernel_rfl) (by kernel_rfl) rfl rfl (by omega) (H5.get (k := 6) rfl) rfl rfl rfl (by kernel_rfl) rfl (by kernel_rfl) ?_; intro σ16 _ s16
        have H6 := H5.set s16
        refine RW.nil ?_
        refine W.ret ?_
        have p12 := H6.get (k := 12) rfl
        have H7 := H6.set (set1_put (x := .defs false) p12)
        exact endGD rfl p12 (by omega) (resW rfl (H7.get (k := 5) rfl) (resE rfl (H7.get (k := 6) rfl) rfl)) ⟨H7.toGrow ha, .inr (.inr (.inl ⟨hn, hno, hc, rfl⟩))⟩
    · refine ⟨_, _, _, _, _, _, _, _, .ret, hl, rfl, rfl, ?_⟩
      have sL := set1_put (x := .loop .exhausted (some .ret) nt' ta' ps' as' bo' df') hl
      generalize σ12.put (σ0.next + 13) (.loop .exhausted (some .ret) nt' ta' ps' as' bo' df') = σ13 at sL
      have H3 := HL.set sL
      have p12 := H3.get (k := 12) rfl
      have H4 := H3.set (set1_put (x := .defs false) p12)
      exact endGD rfl p12 (by omega) (resW rfl (H4.get (k := 5) rfl) (resE rfl (H4.get (k := 6) rfl) rfl)) ⟨H4.toGrow ha, .inr (.inl ⟨hn, hno, rfl⟩)⟩
    · refine ⟨_, _, _, _, _, _, _, _, .ret, hl, rfl, rfl, ?_⟩
      have sL := set1_put (x := .loop .exhausted (some .ret) nt' ta' ps' as' bo' df') hl
      generalize σ12.put (σ0.next + 13) (.loop .exhausted (some .ret) nt' ta' ps' as' bo' df') = σ13 at sL
      have H3 := HL.set sL
      have p12 := H3.get (k := 12) rfl
      have H4 := H3.set (set1_put (x := .defs false) p12)
      exact endGD rfl p12 (by omega) (resW rfl (H4.get (k := 5) rfl) (resE rfl (H4.get (k := 6) rfl) rfl)) ⟨H4.toGrow ha, .inl ⟨i, hin, hi6, hx, hno, rfl⟩⟩
end
end Go.Proofs.YtehcckhdppdkcaaGreatDoor
namespace Go.Proofs.YtehcckhdppdkcaaGreatDoor
set_option maxRecDepth 100000
theorem FindR.is {x : Wd} {n : Nat} {c a : Nat → Wd} {σ0 σ : Mem} {v : Value} (H : FindR x n c a σ0 v σ) : ∃ w e, v = .tuple #[wdV w, .int .i64 e] := by
  obtain ⟨_, ⟨i, _, _, _, _, e⟩ | ⟨_, _, e⟩ | ⟨_, _, _, e⟩ | ⟨_, _, _, e⟩⟩ := H
  · exact ⟨_, _, e⟩
  · exact ⟨_, _, e⟩
  · exact ⟨_, _, e⟩
  · exact ⟨_, _, e⟩
theorem SliceR.is {G n : Nat} {c a : Nat → Wd} {σ0 σ : Mem} {v : Value} (H : SliceR G n c a σ0 v σ) : ∃ s e, v = .tuple #[s, .int .i64 e] := by
  obtain ⟨_, ⟨_, e⟩ | ⟨_, _, e⟩ | ⟨_, _, s, e, _⟩⟩ := H
  · exact ⟨_, _, e⟩
  · exact ⟨_, _, e⟩
  · exact ⟨_, _, e⟩
section
variable {G h : Nat} {m : HM} {σ σ0 : Mem}
theorem memq_wc (x : Wd) (hG : G ≤ σ0.next) (ha : σ0.abs = heapAbs h m) (hlim : 0 < m.limit) {c a : Nat → Wd} {n : Nat} (hp : Path m c a n) (hend : n = 65537 ∨ n ≤ 65536 ∧ ((c n).1 ≠ 2 ∨ m.find (c n) = none)) :
    WC G Tryz.prog 27 #[pp h, wdV x, wdV (c 0)] σ0 (FindR x n c a σ0) := by
  refine WC.enter (fn := Tryz.f27) Tryz.func27 rfl ?_
  refine W.know 0 (x := pp h) rfl ?_
  refine W.seq ?_
  refine W.region ?_
  refine RW.makeG (x := .row ⟨[.int .i64 x.1, .int .i64 x.2], 37, false⟩) (fm := fun b => .pointer (some ⟨b, 0, none⟩)) (by kernel_rfl) (by kernel_rfl) (by kernel_rfl) (by kernel_rfl) ?_; intro σ1 _ g1 G1 n1
  refine RW.makeG (x := .row ⟨[.int .i64 (c 0).1, .int .i64 (c 0).2], 37, false⟩) (fm := fun b => .pointer (some ⟨b, 0, none⟩)) (by kernel_rfl) (by kernel_rfl) (by kernel_rfl) (by kernel_rfl) ?_; intro σ2 _ g2 G2 n2
  refine RW.makeG (x := .row ⟨[.int .i64 0, .int .i64 0], 37, false⟩) (fm := fun b => .pointer (some ⟨b, 0, none⟩)) (by kernel_rfl) (by kernel_rfl) (by kernel_rfl) (by kernel_rfl) ?_; intro σ3 _ g3 G3 n3
  rw [n1] at g2 n2 ⊢
  rw [n2] at g3 n3 ⊢
  refine RW.val (by kernel_rfl) (by kernel_rfl) rfl (by kernel_rfl) ?_
  refine RW.nil ?_
  have G03 := (G1.trans G2).trans G3
  refine W.seq ?_
  refine W.region ?_
  refine RW.val (by kernel_rfl) (by kernel_rfl) rfl (by kernel_rfl) ?_
  refine RW.loads 2 (by kernel_rfl) (by kernel_rfl) rfl rfl (G3.old _ _ (G2.old _ _ g1)) rfl rfl (by kernel_rfl) ?_
  refine RW.loads 2 (by kernel_rfl) (by kernel_rfl) rfl rfl (G3.old _ _ g2) rfl rfl (by kernel_rfl) ?_
  refine RW.call (by kernel_rfl) (by kernel_rfl) rfl rfl rfl (by kernel_rfl) (by kernel_rfl) ((find_wc x (by omega) (G03.abs.trans ha) hlim hp hend).mono ?_)
  intro v σ4 H
  obtain ⟨w, e, rfl⟩ := H.is
  have G4 := H.1
  refine RW.val (by kernel_rfl) (by kernel_rfl) rfl (by kernel_rfl) ?_
  refine RW.val (by kernel_rfl) (by kernel_rfl) rfl (by kernel_rfl) ?_
  refine RW.setG (b := σ0.next + 1 + 1) (vs := #[.int .i64 w.1, .int .i64 w.2]) (by kernel_rfl) (by kernel_rfl) rfl rfl (by omega) (G4.old _ _ g3) rfl rfl (by kernel_rfl) rfl (by kernel_rfl) ?_; intro σ5 _ s5
  refine RW.val (by kernel_rfl) (by kernel_rfl) rfl (by kernel_rfl) ?_
  refine RW.nil ?_
  refine W.ret ?_
  exact endG (R := FindR x n c a σ0) rfl (resW rfl s5.at_ (resL_tmp rfl)) ⟨(G03.trans G4).set s5 (by omega), H.2⟩
/-- Length of what Slice refuses. -/
theorem length_no {c a : Nat → Wd} (hG : G ≤ σ0.next) (ha : σ0.abs = heapAbs h m) (hlim : 0 < m.limit) (hp : Path m c a 65537) :
    WC G Tryz.prog 25 #[pp h, wdV (c 0)] σ0 fun v σ' => v = .tuple #[.int .i64 0, .int .i64 16] ∧ Grow σ0 σ' := by
  refine WC.enter (fn := Tryz.f25) Tryz.func25 rfl ?_
  refine W.know 0 (x := pp h) rfl ?_
  refine W.seq ?_
  refine W.region ?_
  refine RW.makeG (x := .row ⟨[.int .i64 (c 0).1, .int .i64 (c 0).2], 37, false⟩) (fm := fun b => .pointer (some ⟨b, 0, none⟩)) (by kernel_rfl) (by kernel_rfl) (by kernel_rfl) (by kernel_rfl) ?_; intro σ1 _ g1 G1 n1
  refine RW.val (by kernel_rfl) (by kernel_rfl) rfl (by kernel_rfl) ?_
  refine RW.val (by kernel_rfl) (by kernel_rfl) rfl (by kernel_rfl) ?_
  refine RW.nil ?_
  refine W.seq ?_
  refine W.region ?_
  refine RW.val (by kernel_rfl) (by kernel_rfl) rfl (by kernel_rfl) ?_
  refine RW.loads 2 (by kernel_rfl) (by kernel_rfl) rfl rfl g1 rfl rfl (by kernel_rfl) ?_
  refine RW.call (by kernel_rfl) (by kernel_rfl) rfl rfl rfl (by kernel_rfl) (by kernel_rfl) ((slice_wc (by omega) (G1.abs.trans ha) hlim hp (.inl rfl)).mono ?_)
  rintro v σ4 ⟨G4, ⟨_, rfl⟩ | ⟨hn, _⟩ | ⟨hn, _⟩⟩
  · refine RW.val (by kernel_rfl) (by kernel_rfl) rfl (by kernel_rfl) ?_
    refine RW.val (by kernel_rfl) (by kernel_rfl) rfl (by kernel_rfl) ?_
    refine RW.val (by kernel_rfl) (by kernel_rfl) rfl (by kernel_rfl) ?_
    refine RW.val (by kernel_rfl) (by kernel_rfl) rfl (by kernel_rfl) ?_
    refine RW.val (by kernel_rfl) (by kernel_rfl) rfl (by kernel_rfl) ?_
    refine RW.nil ?_
    refine W.seq ?_
    refine W.region ?_
    refine RW.val (by kernel_rfl) (by kernel_rfl) rfl (by kernel_rfl) ?_
    refine RW.len (by kernel_rfl) (by kernel_rfl) rfl rfl rfl rfl rfl (by kernel_rfl) ?_
    refine RW.val (by kernel_rfl) (by kernel_rfl) rfl (by kernel_rfl) ?_
    refine RW.val (by kernel_rfl) (by kernel_rfl) rfl (by kernel_rfl) ?_
    refine RW.val (by kernel_rfl) (by kernel_rfl) rfl (by kernel_rfl) ?_
    refine RW.nil ?_
    refine W.ret ?_
    exact endG rfl (resL_tmp (resL_tmp rfl)) ⟨rfl, G1.trans G4⟩
  · omega
  · omega
/-- Append to what Slice refuses. -/
theorem append_no {c a : Nat → Wd} (t : Wd) (hG : G ≤ σ0.next) (ha : σ0.abs = heapAbs h m) (hlim : 0 < m.limit) (hp : Path m c a 65537) :
    WC G Tryz.prog 17 #[pp h, wdV (c 0), wdV t] σ0 fun v σ' => v = .tuple #[wdV (0, 0), .int .i64 16] ∧ Grow σ0 σ' := by
  refine WC.enter (fn := Tryz.f17) Tryz.func17 rfl ?_
  refine W.know 0 (x := pp h) rfl ?_
  refine W.seq ?_
  refine W.region ?_
  refine RW.makeG (x := .row ⟨[.int .i64 (c 0).1, .int .i64 (c 0).2], 37, false⟩) (fm := fun b => .pointer (some ⟨b, 0, none⟩)) (by kernel_rfl) (by kernel_rfl) (by kernel_rfl) (by kernel_rfl) ?_; intro σ1 _ g1 G1 n1
  refine RW.makeG (x := .row ⟨[.int .i64 t.1, .int .i64 t.2], 37, false⟩) (fm := fun b => .pointer (some ⟨b, 0, none⟩)) (by kernel_rfl) (by kernel_rfl) (by kernel_rfl) (by kernel_rfl) ?_; intro σ2 _ g2 G2 n2
  refine RW.makeG (x := .row ⟨[.int .i64 0, .int .i64 0], 37, false⟩) (fm := fun b => .pointer (some ⟨b, 0, none⟩)) (by kernel_rfl) (by kernel_rfl) (by kernel_rfl) (by kernel_rfl) ?_; intro σ3 _ g3 G3 n3
  rw [n1] at g2 n2 ⊢
  rw [n2] at g3 n3 ⊢
  refine RW.val (by kernel_rfl) (by kernel_rfl) rfl (by kernel_rfl) ?_
  refine RW.nil ?_
  have G03 := (G1.trans G2).trans G3
  refine W.seq ?_
  refine W.region ?_
  refine RW.val (by kernel_rfl) (by kernel_rfl) rfl (by kernel_rfl) ?_
  refine RW.loads 2 (by kernel_rfl) (by kernel_rfl) rfl rfl (G3.old _ _ (G2.old _ _ g1)) rfl rfl (by kernel_rfl) ?_
  refine RW.call (by kernel_rfl) (by kernel_rfl) rfl rfl rfl (by kernel_rfl) (by kernel_rfl) ((slice_wc (by omega) (G03.abs.trans ha) hlim hp (.inl rfl)).mono ?_)
  rintro v σ4 ⟨G4, ⟨_, rfl⟩ | ⟨hn, _⟩ | ⟨hn, _⟩⟩
  · refine RW.val (by kernel_rfl) (by kernel_rfl) rfl (by kernel_rfl) ?_
    refine RW.val (by kernel_rfl) (by kernel_rfl) rfl (by kernel_rfl) ?_
    refine RW.val (by kernel_rfl) (by kernel_rfl) rfl (by kernel_rfl) ?_
    refine RW.val (by kernel_rfl) (by kernel_rfl) rfl (by kernel_rfl) ?_
    refine RW.val (by kernel_rfl) (by kernel_rfl) rfl (by kernel_rfl) ?_
    refine RW.nil ?_
    refine W.seq ?_
    refine W.seq ?_
    refine W.region ?_
    refine RW.val (by kernel_rfl) (by kernel_rfl) rfl (by kernel_rfl) ?_
    refine RW.valE (v' := .bool true) (by kernel_rfl) (by kernel_rfl) rfl (congrArg Value.bool (rfl)) (by kernel_rfl) ?_
    refine RW.nil ?_
    refine W.cond (b := true) rfl (fun _ => ?_) (fun h => by cases h)
    refine W.seq ?_
    refine W.region ?_
    refine RW.val (v := .agg #[.int .i64 0, .int .i64 0]) (by kernel_rfl) (by kernel_rfl) (by kernel_rfl) (by kernel_rfl) ?_
    refine RW.val (by kernel_rfl) (by kernel_rfl) rfl (by kernel_rfl) ?_
    refine RW.setG (b := σ0.next + 1 + 1) (vs := #[.int .i64 0, .int .i64 0]) (by kernel_rfl) (by kernel_rfl) rfl rfl (by omega) (G4.old _ _ g3) rfl rfl (by kernel_rfl) rfl (by kernel_rfl) ?_; intro σ5 _ s5
    refine RW.val (by kernel_rfl) (by kernel_rfl) rfl (by kernel_rfl) ?_
    refine RW.nil ?_
    refine W.ret ?_
    exact endG (R := fun v σ' => v = .tuple #[wdV (0, 0), .int .i64 16] ∧ Grow σ0 σ') rfl (resW rfl s5.at_ (resL_tmp rfl)) ⟨rfl, (G03.trans G4).set s5 (by omega)⟩
  · omega
  · omega
theorem copy_no {c a : Nat → Wd} (hG : G ≤ σ0.next) (ha : σ0.abs = heapAbs h m) (hlim : 0 < m.limit) (hp : Path m c a 65537) :
    WC G Tryz.prog 26 #[pp h, wdV (c 0)] σ0 fun v σ' => v = .tuple #[wdV (0, 0), .int .i64 16] ∧ Grow σ0 σ' := by
  refine WC.enter (fn := Tryz.f26) Tryz.func26 rfl ?_
  refine W.know 0 (x := pp h) rfl ?_
  refine W.seq ?_
  refine W.region ?_
  refine RW.makeG (x := .row ⟨[.int .i64 (c 0).1, .int .i64 (c 0).2], 37, false⟩) (fm := fun b => .pointer (some ⟨b, 0, none⟩)) (by kernel_rfl) (by kernel_rfl) (by kernel_rfl) (by kernel_rfl) ?_; intro σ1 _ g1 G1 n1
  refine RW.makeG (x := .row ⟨[.int .i64 0, .int .i64 0], 37, false⟩) (fm := fun b => .pointer (some ⟨b, 0, none⟩)) (by kernel_rfl) (by kernel_rfl) (by kernel_rfl) (by kernel_rfl) ?_; intro σ3 _ g3 G3 n3
  rw [n1] at g3 n3 ⊢
  refine RW.val (by kernel_rfl) (by kernel_rfl) rfl (by kernel_rfl) ?_
  refine RW.nil ?_
  have G03 := G1.trans G3
  have g1 := G3.old _ _ g1
  refine W.seq ?_
  refine W.drawn (by kernel_rfl) (by kernel_rfl) (by omega) ?_
  refine RW.val (by kernel_rfl) (by kernel_rfl) rfl (by kernel_rfl) ?_
  refine RW.loads 2 (by kernel_rfl) (by kernel_rfl) rfl rfl g1 rfl rfl (by kernel_rfl) ?_
  refine RW.call (by kernel_rfl) (by kernel_rfl) rfl rfl rfl (by kernel_rfl) (by kernel_rfl) ⟨_, _, s_none, ?_⟩
  obtain ⟨_, σ4, hS, rfl, G4⟩ := append_no (G := G) (c := c) (1, 0) (by omega) (G03.abs.trans ha) hlim hp
  refine RW.call (by kernel_rfl) (by kernel_rfl) rfl rfl rfl (by kernel_rfl) (by kernel_rfl) ⟨_, _, hS, ?_⟩
  have hn4 := G4.nx
  refine RW.val (by kernel_rfl) (by kernel_rfl) rfl (by kernel_rfl) ?_
  refine RW.val (by kernel_rfl) (by kernel_rfl) rfl (by kernel_rfl) ?_
  refine RW.stores (b := σ0.next + 1) (p := 0) (vs := #[.int .i64 0, .int .i64 0]) (by kernel_rfl) (by kernel_rfl) rfl rfl (by omega) (G4.old _ _ g3) rfl rfl (by kernel_rfl) (by show 0 + 2 ≤ 2; omega) (by kernel_rfl) ?_
  have s5 := set1_put (x := wrow (0, 0)) (G4.old _ _ g3)
  refine RW.val (by kernel_rfl) (by kernel_rfl) rfl (by kernel_rfl) ?_
  refine RW.nil ?_
  refine ⟨⟨by kernel_rfl, ?_⟩, ?_⟩
  · have y4 := G4.old _ _ g1
    have y5 := s5.old _ _ (by omega) y4
    repeat' (first | exact True.intro | refine dyn_row g1 y5 ?_ | exact Or.inl (by kernel_rfl) | exact fun h => Bool.noConfusion h | exact fun _ => g1 | exact fun _ => y4 | exact fun _ => y5 | refine And.intro ?_ ?_)
  refine W.ret ?_
  exact endG rfl (resW rfl s5.at_ (resL_tmp rfl)) ⟨rfl, (G03.trans G4).set s5 (by omega)⟩
end
end Go.Proofs.YtehcckhdppdkcaaGreatDoor
namespace Go.Proofs.YtehcckhdppdkcaaGreatDoor
set_option maxRecDepth 100000
noncomputable abbrev getR : Code := rangeIn (restN 3 (bodyOf Tryz.f30))
noncomputable abbrev getLp (TA : Nat → Value) (D : Nat) : Blk2 := rdy 45 TA (rangePs getR) (rangeAs getR) (rangeBo getR) D
noncomputable def getL (h s : Nat) (x cur : Wd) (k : Nat) (rest : Wd) (lp : Blk2) : List (Nat × Blk2) :=
  [(11, lp), (10, .defs true), (9, .row ⟨[pp (s + 6)], 94, false⟩), (8, wrow cur), (7, .row ⟨[pp h], 23, false⟩), (6, wrow rest), (5, .row ⟨[.bool false], 4, false⟩), (4, .row ⟨[.int .i64 (k : Int)], 3, false⟩), (3, .row ⟨[.bool false], 4, false⟩), (2, wrow (0, 0)), (1, wrow x)]
/-- The registers that the loop's body reads. -/
def getTA (s : Nat) (TA : Nat → Value) : Nat → Value := updL TA [(5, pp (s + 1)), (6, pp (s + 2)), (7, pp (s + 3)), (8, pp (s + 4)), (9, pp (s + 5)), (10, pp (s + 6))]
structure GStop (h : Nat) (m : HM) (σ0 σ : Mem) : Prop where
  lay : Lay h m σ0 σ 12 [(2, wrow (0, 0)), (3, .row ⟨[.bool false], 4, false⟩), (10, .defs true)]
  lp : ∃ nt' ta' ps' as' bo' df', σ.get (σ0.next + 11) = some (.loop .done (some .ret) nt' ta' ps' as' bo' df')
section
variable {G h : Nat} {m : HM} {σ σ0 : Mem}
set_option maxHeartbeats 2000000 in
theorem get_yield {x cur y rest : Wd} {k : Nat} {TA : Nat → Value} (hG : G ≤ σ0.next) (H : Lay h m σ0 σ 12 (getL h σ0.next x cur k rest (getLp (getTA σ0.next TA) (σ0.next + 10)))) (hk : k ≤ 65536) (hxy : y ≠ x) :
    Yield G Tryz.prog (σ0.next + 11) [wdV cur, wdV y] σ fun r σ' => (r = true → k < 65536 ∧ Lay h m σ0 σ' 12 (getL h σ0.next x cur (k + 1) rest (getLp (getTA σ0.next TA) (σ0.next + 10)))) ∧
      (r = false → k = 65536 ∧ GStop h m σ0 σ') := by
  have hnx := H.nx
  refine Yield.of (H.get (k := 11) rfl) rfl (by decide) ?_
  refine W.region ?_
  refine RW.varS (d := 12) (r0 := ⟨[.int .i64 0, .int .i64 0], 37, false⟩) (vs := #[.int .i64 y.1, .int .i64 y.2]) (by kernel_rfl) (by kernel_rfl) (by kernel_rfl) rfl (by kernel_rfl) rfl (by kernel_rfl) rfl rfl rfl rfl (by kernel_rfl) rfl (by omega) ?_
  intro σ1 _ g1 o1 n1 a1
  have H1 := H.grow (⟨o1, by omega, a1⟩ : Grow σ σ1)
  refine RW.nil ?_
  refine ⟨rfl, H1.get (k := 11) rfl, fun σ3 s3 => ?_⟩
  have H3 := H1.set s3
  replace g1 := s3.old _ _ (by omega) g1
  have n3 : σ3.next = σ.next + 1 := by rw [s3.nx]; omega
  clear H1 s3 o1 n1 a1 H
  refine W.reset [(5, pp (σ0.next + 1)), (6, pp (σ0.next + 2)), (7, pp (σ0.next + 3)), (8, pp (σ0.next + 4)), (9, pp (σ0.next + 5)), (10, pp (σ0.next + 6)), (12, pp σ.next)] ⟨rfl, rfl, rfl, rfl, rfl, rfl, rfl, trivial⟩ fun TB => ?_
  refine W.block ?_
  refine W.seq ?_
  refine W.block ?_
  refine W.seq ?_
  refine W.region ?_
  refine RW.load (by kernel_rfl) (by kernel_rfl) rfl rfl (H3.get (k := 5) rfl) rfl rfl (by kernel_rfl) ?_
  refine RW.val (by kernel_rfl) (by kernel_rfl) rfl (by kernel_rfl) ?_
  refine RW.nil ?_
  refine W.cond (b := false) rfl (fun h => by cases h) (fun _ => ?_)
  refine W.seq ?_
  refine W.region ?_
  refine RW.load (by kernel_rfl) (by kernel_rfl) rfl rfl (H3.get (k := 4) rfl) rfl rfl (by kernel_rfl) ?_
  have ht : ((k : Nat) : Int).tmod 2 = ((k : Nat) : Int) % 2 := Int.tmod_eq_emod_of_nonneg (by omega)
  rcases (by omega : (k : Int).tmod 2 = 0 ∨ (k : Int).tmod 2 = 1) with hm | hm
  · refine RW.valE (v' := .int .i64 0) (by kernel_rfl) (by kernel_rfl) rfl (congrArg (Value.int .i64) hm) (by kernel_rfl) ?_
    refine RW.val (by kernel_rfl) (by kernel_rfl) rfl (by kernel_rfl) ?_
    refine RW.val (by kernel_rfl) (by kernel_rfl) rfl (by kernel_rfl) ?_
    refine RW.load (by rfl) (by kernel_rfl) rfl rfl (H3.get (k := 4) rfl) rfl rfl (by kernel_rfl) ?_
    by_cases hk6 : k = 65536
    · refine RW.valE (v' := .bool true) (by rfl) (by kernel_rfl) rfl (congrArg Value.bool (decide_eq_true (by omega))) (by kernel_rfl) ?_
      refine RW.val (by kernel_rfl) (by kernel_rfl) rfl (by kernel_rfl) ?_
      refine RW.val (by kernel_rfl) (by kernel_rfl) rfl (by kernel_rfl) ?_
      refine RW.nil ?_
      refine W.cond (b := true) rfl (fun _ => ?_) (fun h => by cases h)
      refine W.seq ?_
      refine W.region ?_
      refine RW.val (v := .agg #[.int .i64 0, .int .i64 0]) (by kernel_rfl) (by kernel_rfl) (by kernel_rfl) (by kernel_rfl) ?_
      refine RW.setG (b := σ0.next + 2) (vs := #[.int .i64 0, .int .i64 0]) (by kernel_rfl) (by kernel_rfl) rfl rfl (by omega) (H3.get (k := 2) rfl) rfl rfl (by kernel_rfl) rfl (by kernel_rfl) ?_; intro σ5 _ s5
      have H5 := H3.set s5
      refine RW.set1G (b := σ0.next + 3) (v := .bool false) (by kernel_rfl) (by kernel_rfl) rfl rfl (by omega) (H5.get (k := 3) rfl) rfl rfl rfl (by kernel_rfl) rfl (by kernel_rfl) ?_; intro σ6 _ s6
      have H6 := H5.set s6
      refine RW.nil ?_
      refine W.ret ?_
      refine ⟨H6.get (k := 11) rfl, _, _, _, rfl, fun σ7 s7 => ⟨fun h => (by cases h), fun _ => ⟨hk6, ?_⟩⟩⟩
      have H7 := H6.set s7
      exact ⟨⟨H7.old, H7.nx, H7.abs, H7.get (k := 2) rfl, H7.get (k := 3) rfl, H7.get (k := 10) rfl, trivial⟩, _, _, _, _, _, _, s7.at_⟩
    · refine RW.valE (v' := .bool false) (by rfl) (by kernel_rfl) rfl (congrArg Value.bool (decide_eq_false (by omega))) (by kernel_rfl) ?_
      refine RW.val (by kernel_rfl) (by kernel_rfl) rfl (by kernel_rfl) ?_
      refine RW.val (by kernel_rfl) (by kernel_rfl) rfl (by kernel_rfl) ?_
      refine RW.nil ?_
      refine W.cond (b := false) rfl (fun h => by cases h) (fun _ => ?_)
      refine W.seq ?_
      refine W.region ?_
      refine RW.load (by kernel_rfl) (by kernel_rfl) rfl rfl (H3.get (k := 4) rfl) rfl rfl (by kernel_rfl) ?_
      refine RW.valE (v' := .int .i64 0) (by kernel_rfl) (by kernel_rfl) rfl (congrArg (Value.int .i64) hm) (by kernel_rfl) ?_
      refine RW.val (by kernel_rfl) (by kernel_rfl) rfl (by kernel_rfl) ?_
      refine RW.val (by kernel_rfl) (by kernel_rfl) rfl (by kernel_rfl) ?_
      refine RW.nil ?_
      refine W.cond (b := true) rfl (fun _ => ?_) (fun h => by cases h)
      refine W.region ?_
      refine RW.loads 2 (by kernel_rfl) (by kernel_rfl) rfl rfl g1 rfl rfl (by kernel_rfl) ?_
      refine RW.loads 2 (by kernel_rfl) (by kernel_rfl) rfl rfl (H3.get (k := 1) rfl) rfl rfl (by kernel_rfl) ?_
      refine RW.vop (v := .bool (false)) (by kernel_rfl) (by kernel_rfl) (vop_eqS (b := false) (r := false) rfl (.inl ⟨rfl, rfl⟩) rfl rfl rfl rfl (by kernel_rfl) (fun w => (eqWd _ _ _ _ w).trans (by simpa [Prod.ext_iff] using hxy))) (by kernel_rfl) ?_
      refine RW.set1G (b := σ0.next + 5) (v := .bool false) (by kernel_rfl) (by kernel_rfl) rfl rfl (by omega) (H3.get (k := 5) rfl) rfl rfl rfl (by kernel_rfl) rfl (by kernel_rfl) ?_; intro σ5 _ s5
      have H5 := H3.set s5
      have n5 := s5.nx
      refine RW.nil ?_
      refine W.region ?_
      refine RW.load (by kernel_rfl) (by kernel_rfl) rfl rfl (H5.get (k := 4) rfl) rfl rfl (by kernel_rfl) ?_
      refine RW.valE (by kernel_rfl) (by kernel_rfl) rfl (congrArg (Value.int .i64) (wrap_in (by omega) (by omega))) (by kernel_rfl) ?_
      refine RW.set1G (b := σ0.next + 4) (v := .int .i64 ((k + 1 : Nat) : Int)) (by kernel_rfl) (by kernel_rfl) rfl rfl (by omega) (H5.get (k := 4) rfl) rfl rfl rfl (by kernel_rfl) rfl (by kernel_rfl) ?_; intro σ6 _ s6
      have H6 := H5.set s6
      refine RW.nil ?_
      refine ⟨H6.get (k := 11) rfl, _, _, _, rfl, fun σ9 s9 => ⟨fun _ => ⟨by omega, ?_⟩, fun h => (by cases h)⟩⟩
      exact H6.set s9
  · refine RW.valE (v' := .int .i64 1) (by kernel_rfl) (by kernel_rfl) rfl (congrArg (Value.int .i64) hm) (by kernel_rfl) ?_
    refine RW.val (by kernel_rfl) (by kernel_rfl) rfl (by kernel_rfl) ?_
    refine RW.val (by kernel_rfl) (by kernel_rfl) rfl (by kernel_rfl) ?_
    refine RW.skip (by rfl) (by kernel_rfl) ?_
    refine RW.skip (by rfl) (by kernel_rfl) ?_
    refine RW.val (by kernel_rfl) (by kernel_rfl) rfl (by kernel_rfl) ?_
    refine RW.val (by kernel_rfl) (by kernel_rfl) rfl (by kernel_rfl) ?_
    refine RW.nil ?_
    refine W.cond (b := false) rfl (fun h => by cases h) (fun _ => ?_)
    refine W.seq ?_
    refine W.region ?_
    refine RW.load (by kernel_rfl) (by kernel_rfl) rfl rfl (H3.get (k := 4) rfl) rfl rfl (by kernel_rfl) ?_
    refine RW.valE (v' := .int .i64 1) (by kernel_rfl) (by kernel_rfl) rfl (congrArg (Value.int .i64) hm) (by kernel_rfl) ?_
    refine RW.val (by kernel_rfl) (by kernel_rfl) rfl (by kernel_rfl) ?_
    refine RW.val (by kernel_rfl) (by kernel_rfl) rfl (by kernel_rfl) ?_
    refine RW.nil ?_
    refine W.cond (b := false) rfl (fun h => by cases h) (fun _ => ?_)
    refine W.skip ?_
    refine W.region ?_
    refine RW.load (by kernel_rfl) (by kernel_rfl) rfl rfl (H3.get (k := 4) rfl) rfl rfl (by kernel_rfl) ?_
    refine RW.valE (by kernel_rfl) (by kernel_rfl) rfl (congrArg (Value.int .i64) (wrap_in (by omega) (by omega))) (by kernel_rfl) ?_
    refine RW.set1G (b := σ0.next + 4) (v := .int .i64 ((k + 1 : Nat) : Int)) (by kernel_rfl) (by kernel_rfl) rfl rfl (by omega) (H3.get (k := 4) rfl) rfl rfl rfl (by kernel_rfl) rfl (by kernel_rfl) ?_; intro σ6 _ s6
    have H6 := H3.set s6
    refine RW.nil ?_
    refine ⟨H6.get (k := 11) rfl, _, _, _, rfl, fun σ9 s9 => ⟨fun _ => ⟨by omega, ?_⟩, fun h => (by cases h)⟩⟩
    exact H6.set s9
end
end Go.Proofs.YtehcckhdppdkcaaGreatDoor
namespace Go.Proofs.YtehcckhdppdkcaaGreatDoor
set_option maxRecDepth 100000
section
variable {G h : Nat} {m : HM} {σ σ0 : Mem}
theorem resB {ta : Nat → Value} {a : Tmp} {b : Nat} {t : TypeId} {g : Bool} {v : Value} {vs : List Value} {rv : List ResultVar} (ha : ta a = .pointer (some ⟨b, 0, none⟩)) (hr : σ.get b = some (.row ⟨[v], t, g⟩)) (k : resL Tryz.prog ta σ rv = some vs) : resL Tryz.prog ta σ (.cell a 4 :: rv) = some (v :: vs) :=
  resL_cell (n := 1) ha hr ((uT_eq _ _).trans Tryz.underlying4) (by kernel_rfl) rfl (by kernel_rfl) k
set_option maxHeartbeats 4000000 in
theorem get_no (x : Wd) (hG : G ≤ σ0.next) (ha : σ0.abs = heapAbs h m) (hlim : 0 < m.limit) {c a : Nat → Wd} (hp : Path m c a 65537) (hx : ∀ j, j < 65537 → a j ≠ x) :
    WC G Tryz.prog 30 #[pp h, wdV (c 0), wdV x] σ0 fun v σ' => v = .tuple #[wdV (0, 0), .bool false] ∧ Grow σ0 σ' := by
  refine WC.enterD (fn := Tryz.f30) Tryz.func30 rfl ?_
  refine W.know 0 (x := pp h) rfl ?_
  refine W.seq ?_
  refine W.region ?_
  have H0 : Lay h m σ0 σ0 0 [] := ⟨fun _ _ h => h, Nat.le_refl _, ha, trivial⟩
  refine RW.makeG (x := .row ⟨[.int .i64 (c 0).1, .int .i64 (c 0).2], 37, false⟩) (fm := fun b => .pointer (some ⟨b, 0, none⟩)) (by kernel_rfl) (by kernel_rfl) (by kernel_rfl) (by kernel_rfl) ?_; intro σ1 _ g1 G1 n1
  have H1 := H0.add G1 rfl g1 n1
  have e1 : σ1.next = σ0.next + 1 := by omega
  refine RW.makeG (x := .row ⟨[.int .i64 x.1, .int .i64 x.2], 37, false⟩) (fm := fun b => .pointer (some ⟨b, 0, none⟩)) (by kernel_rfl) (by kernel_rfl) (by kernel_rfl) (by kernel_rfl) ?_; intro σ2 _ g2 G2 n2
  have H2 := H1.add G2 e1 g2 n2
  have e2 : σ2.next = σ0.next + 2 := by omega
  refine RW.makeG (x := .row ⟨[.int .i64 0, .int .i64 0], 37, false⟩) (fm := fun b => .pointer (some ⟨b, 0, none⟩)) (by kernel_rfl) (by kernel_rfl) (by kernel_rfl) (by kernel_rfl) ?_; intro σ3 _ g3 G3 n3
  have H3 := H2.add G3 e2 g3 n3
  have e3 : σ3.next = σ0.next + 3 := by omega
  refine RW.makeG (x := .row ⟨[.bool false], 4, false⟩) (fm := fun b => .pointer (some ⟨b, 0, none⟩)) (by kernel_rfl) (by kernel_rfl) (by kernel_rfl) (by kernel_rfl) ?_; intro σ4 _ g4 G4 n4
  have H4 := H3.add G4 e3 g4 n4
  have e4 : σ4.next = σ0.next + 4 := by omega
  rw [e1, e2, e3]
  refine RW.nil ?_
  refine W.reset [(0, pp h), (4, pp (σ0.next + 0)), (5, pp (σ0.next + 1)), (6, pp (σ0.next + 2)), (7, pp (σ0.next + 3))] ⟨rfl, rfl, rfl, rfl, rfl, trivial⟩ fun TA => ?_
  clear H0 H1 H2 H3 g1 g2 g3 g4 G1 G2 G3 G4
  refine W.seq ?_
  refine W.seq ?_
  refine W.region ?_
  refine RW.val (by kernel_rfl) (by kernel_rfl) rfl (by kernel_rfl) ?_
  refine RW.call (by kernel_rfl) (by kernel_rfl) rfl rfl rfl (by kernel_rfl) (by kernel_rfl) ((made_wc (G := G) (h := h) H4.abs hlim).mono ?_)
  rintro _ σ' ⟨rfl, hσ⟩
  obtain rfl := hσ.symm
  refine RW.val (by kernel_rfl) (by kernel_rfl) rfl (by kernel_rfl) ?_
  refine RW.nil ?_
  refine W.cond (b := false) rfl (fun h => by cases h) (fun _ => ?_)
  refine W.skip ?_
  refine W.seq ?_
  have q0 := H4.get (k := 0) rfl
  have H5 := H4.add (y := (.row ⟨[.int .i64 0], 3, false⟩)) (σ' := σ4.push (.row ⟨[.int .i64 0], 3, false⟩)) ⟨fun _ _ h => get_push_old h, Nat.le_succ _, rfl⟩ e4 get_push rfl
  have e5 : (σ4.push (.row ⟨[.int .i64 0], 3, false⟩)).next = σ0.next + 5 := by show σ4.next + 1 = _; omega
  have H6 := H5.add (y := (.row ⟨[.bool false], 4, false⟩)) (σ' := (σ4.push (.row ⟨[.int .i64 0], 3, false⟩)).push (.row ⟨[.bool false], 4, false⟩)) ⟨fun _ _ h => get_push_old h, Nat.le_succ _, rfl⟩ e5 get_push rfl
  have e6 : ((σ4.push (.row ⟨[.int .i64 0], 3, false⟩)).push (.row ⟨[.bool false], 4, false⟩)).next = σ0.next + 6 := by show σ4.next + 1 + 1 = _; omega
  have H7 := H6.add (y := .row ⟨[.int .i64 0, .int .i64 0], 37, false⟩) (σ' := ((σ4.push (.row ⟨[.int .i64 0], 3, false⟩)).push (.row ⟨[.bool false], 4, false⟩)).push (.row ⟨[.int .i64 0, .int .i64 0], 37, false⟩)) ⟨fun _ _ h => get_push_old h, Nat.le_succ _, rfl⟩ e6 get_push rfl
  have H8 := H7.set (set1_put (x := (.row ⟨[.int .i64 0], 3, false⟩)) (H7.get (k := 4) rfl))
  have H9 := H8.set (set1_put (x := (.row ⟨[.bool false], 4, false⟩)) (H8.get (k := 5) rfl))
  have H11 := H9.set (set1_put (x := wrow (c 0)) (H9.get (k := 6) rfl))
  refine W.drawn (by kernel_rfl) (by kernel_rfl) (by omega) ?_
  refine RW.loads 2 (by kernel_rfl) (by kernel_rfl) rfl rfl (H4.get (k := 0) rfl) rfl rfl (by kernel_rfl) ?_
  refine RW.make (x := (.row ⟨[.int .i64 0], 3, false⟩)) (fm := fun b => .pointer (some ⟨b, 0, none⟩)) (by kernel_rfl) (by kernel_rfl) (by kernel_rfl) (by kernel_rfl) ?_
  refine RW.make (x := (.row ⟨[.bool false], 4, false⟩)) (fm := fun b => .pointer (some ⟨b, 0, none⟩)) (by kernel_rfl) (by kernel_rfl) (by kernel_rfl) (by kernel_rfl) ?_
  refine RW.make (x := .row ⟨[.int .i64 0, .int .i64 0], 37, false⟩) (fm := fun b => .pointer (some ⟨b, 0, none⟩)) (by kernel_rfl) (by kernel_rfl) (by kernel_rfl) (by kernel_rfl) ?_
  rw [e6, e5, e4]
  refine RW.store (b := σ0.next + 4) (v := .int .i64 0) (by kernel_rfl) (by kernel_rfl) rfl rfl (by omega) (H7.get (k := 4) rfl) rfl rfl rfl (by kernel_rfl) (by show 0 < 1; omega) (by kernel_rfl) ?_
  refine RW.store (b := σ0.next + 5) (v := .bool false) (by kernel_rfl) (by kernel_rfl) rfl rfl (by omega) (H8.get (k := 5) rfl) rfl rfl rfl (by kernel_rfl) (by show 0 < 1; omega) (by kernel_rfl) ?_
  refine RW.stores (b := σ0.next + 6) (p := 0) (vs := #[.int .i64 (c 0).1, .int .i64 (c 0).2]) (by kernel_rfl) (by kernel_rfl) rfl rfl (by omega) (H9.get (k := 6) rfl) rfl rfl (by kernel_rfl) (by show 0 + 2 ≤ 2; omega) (by kernel_rfl) ?_
  refine RW.nil ?_
  refine ⟨⟨by kernel_rfl, ?_⟩, ?_⟩
  · repeat' (first | exact True.intro | refine dyn_row q0 (H11.get (k := 0) rfl) ?_ | exact Or.inl (by kernel_rfl) | exact fun h => Bool.noConfusion h | exact fun _ => H7.get (k := 0) rfl | exact fun _ => H8.get (k := 0) rfl | exact fun _ => H9.get (k := 0) rfl | refine And.intro ?_ ?_)
  show W G Tryz.prog none 45 _ _ [] ((((((σ4.push (.row ⟨[.int .i64 0], 3, false⟩)).push (.row ⟨[.bool false], 4, false⟩)).push (.row ⟨[.int .i64 0, .int .i64 0], 37, false⟩)).put (σ0.next + 4) (.row ⟨[.int .i64 0], 3, false⟩)).put (σ0.next + 5) (.row ⟨[.bool false], 4, false⟩)).put (σ0.next + 6) (wrow (c 0))) _
  have e9 : ((((((σ4.push (.row ⟨[.int .i64 0], 3, false⟩)).push (.row ⟨[.bool false], 4, false⟩)).push (.row ⟨[.int .i64 0, .int .i64 0], 37, false⟩)).put (σ0.next + 4) (.row ⟨[.int .i64 0], 3, false⟩)).put (σ0.next + 5) (.row ⟨[.bool false], 4, false⟩)).put (σ0.next + 6) (wrow (c 0))).next = σ0.next + 7 := by show σ4.next + 1 + 1 + 1 = _; omega
  clear H5 H6 H7 H8 H9 q0 e5 e6
  generalize ((((((σ4.push (.row ⟨[.int .i64 0], 3, false⟩)).push (.row ⟨[.bool false], 4, false⟩)).push (.row ⟨[.int .i64 0, .int .i64 0], 37, false⟩)).put (σ0.next + 4) (.row ⟨[.int .i64 0], 3, false⟩)).put (σ0.next + 5) (.row ⟨[.bool false], 4, false⟩)).put (σ0.next + 6) (wrow (c 0))) = σ9 at H11 e9 ⊢
  refine W.reset [(0, pp h), (4, pp (σ0.next + 0)), (5, pp (σ0.next + 1)), (6, pp (σ0.next + 2)), (7, pp (σ0.next + 3)), (8, pp (σ0.next + 4)), (9, pp (σ0.next + 5)), (10, pp (σ0.next + 6))] ⟨rfl, rfl, rfl, rfl, rfl, rfl, rfl, rfl, trivial⟩ fun TB => ?_
  refine W.seq ?_
  refine W.seq ?_
  refine W.region ?_
  refine RW.val (by kernel_rfl) (by kernel_rfl) rfl (by kernel_rfl) ?_
  refine RW.loads 2 (by kernel_rfl) (by kernel_rfl) rfl rfl (H11.get (k := 0) rfl) rfl rfl (by kernel_rfl) ?_
  refine RW.call (by kernel_rfl) (by kernel_rfl) rfl rfl rfl (by kernel_rfl) (by kernel_rfl) ((conses_wc (c 0) (σ0.next + 6) (by omega)).mono ?_)
  rintro _ σ10 ⟨rfl, G10, n10, c3, c4, c5⟩
  refine RW.nil ?_
  rw [e9] at n10 c3 c4 c5
  rw [e9]
  refine W.block ?_
  have H12 := H11.grow G10
  have hn10 : σ10.next = σ0.next + 10 := n10
  refine W.reset [(5, pp (σ0.next + 1)), (6, pp (σ0.next + 2)), (7, pp (σ0.next + 3)), (8, pp (σ0.next + 4)), (9, pp (σ0.next + 5)), (10, pp (σ0.next + 6)), (20, .func (.func 87) #[] #[pp (σ0.next + 7), pp (σ0.next + 8), pp (σ0.next + 9)])] ⟨rfl, rfl, rfl, rfl, rfl, rfl, rfl, trivial⟩ fun TC => ?_
  refine W.range (fa := #[]) (ca := #[pp (σ0.next + 7), pp (σ0.next + 8), pp (σ0.next + 9)]) rfl (fun i h => by cases h) (fun v h => by cases h) (by kernel_rfl) ?_
  rw [hn10]
  obtain ⟨TD, hTD⟩ : ∃ t, t = updL TC [(20, .func (.func 87) #[] #[pp (σ0.next + 7), pp (σ0.next + 8), pp (σ0.next + 9)])] := ⟨_, rfl⟩
  obtain ⟨σ11, h11⟩ : ∃ s, s = (σ10.push (.defs true)).push (getLp (getTA σ0.next TD) (σ0.next + 10)) := ⟨_, rfl⟩
  have G11 : Grow σ10 σ11 := by
    rw [h11]
    exact ⟨fun b y hy => get_push_old (get_push_old hy), by show σ10.next ≤ σ10.next + 1 + 1; omega, rfl⟩
  have hn11 : σ11.next = σ0.next + 12 := by rw [h11]; show σ10.next + 1 + 1 = _; omega
  have d11 : σ11.get (σ0.next + 10) = some (.defs true) := by rw [h11, ← hn10]; exact get_push_old get_push
  have l11 : σ11.get (σ0.next + 11) = some (getLp (getTA σ0.next TD) (σ0.next + 10)) := by
    rw [h11, show σ0.next + 11 = (σ10.push (.defs true)).next by show _ = σ10.next + 1; omega]
    exact get_push
  have H13 := H12.grow G11
  have S0 : Lay h m σ0 σ11 12 (getL h σ0.next x (c 0) 0 (c 0) (getLp (getTA σ0.next TD) (σ0.next + 10))) :=
    ⟨H13.old, by omega, H13.abs, l11, d11, G11.old _ _ c5, G11.old _ _ c4, G11.old _ _ c3, H13.get (k := 6) rfl, H13.get (k := 5) rfl, H13.get (k := 4) rfl, H13.get (k := 3) rfl, H13.get (k := 2) rfl, H13.get (k := 1) rfl, trivial⟩
  rw [show updL TC [(5, pp (σ0.next + 1)), (6, pp (σ0.next + 2)), (7, pp (σ0.next + 3)), (8, pp (σ0.next + 4)), (9, pp (σ0.next + 5)), (10, pp (σ0.next + 6)), (20, .func (.func 87) #[] #[pp (σ0.next + 7), pp (σ0.next + 8), pp (σ0.next + 9)])] = getTA σ0.next TD by rw [hTD]; rfl]
  show WC G Tryz.prog 87 #[.func (.yield (σ0.next + 11)) #[] #[], pp (σ0.next + 7), pp (σ0.next + 8), pp (σ0.next + 9)] ((σ10.push (.defs true)).push (getLp (getTA σ0.next TD) (σ0.next + 10))) _
  rw [← h11]
  clear h11 H4 H11 H12 H13 c3 c4 c5 d11 l11 G10 G11
  generalize hLP : getLp (getTA σ0.next TD) (σ0.next + 10) = LP at S0
  refine (consesLoop (h := h) (m := m) (c := c) (a := a) (n := 65537) (b3 := σ0.next + 7) (b4 := σ0.next + 8) (b5 := σ0.next + 9) (b7 := σ0.next + 6) (L := σ0.next + 11) hp (by omega) (by omega) (by omega) (I := fun k σ => k ≤ 65536 ∧ ∃ rest, Lay h m σ0 σ 12 (getL h σ0.next x (c k) k rest LP)) (J := fun k σ => k < 65536 ∧ ∃ rest, Lay h m σ0 σ 12 (getL h σ0.next x (c k) (k + 1) rest LP))
    (R := fun σ => GStop h m σ0 σ) ?_ ?_ ?_ ?_ ?_ ?_ ⟨by omega, c 0, S0⟩).mono ?_
  · rintro k σ ⟨_, rest, S⟩
    exact ⟨by have := S.nx; omega, S.abs, S.get (k := 7) rfl, S.get (k := 8) rfl, S.get (k := 9) rfl⟩
  · rintro k σ σ' ⟨hk, rest, S⟩ g
    exact ⟨hk, rest, S.grow g⟩
  · rintro k σ hkn ⟨hk, rest, S⟩
    subst hLP
    refine (get_yield (y := a k) hG S hk (hx k hkn)).mono fun r σ' hr => ⟨fun e => ?_, fun e => (hr.2 e).2⟩
    obtain ⟨h1, h3⟩ := hr.1 e
    exact ⟨h1, rest, h3⟩
  · rintro k σ ⟨_, rest, S⟩
    exact ⟨S.abs, S.get (k := 7) rfl, S.get (k := 8) rfl⟩
  · rintro k σ σ' ⟨hk, rest, S⟩ s
    exact ⟨by omega, rest, S.set s⟩
  · rintro σ ⟨hk, _⟩
    omega
  · rintro _ σ12 ⟨HL, nt', ta', ps', as', bo', df', hl⟩
    refine ⟨_, _, _, _, _, _, _, _, .ret, hl, rfl, rfl, ?_⟩
    have sL := set1_put (x := .loop .exhausted (some .ret) nt' ta' ps' as' bo' df') hl
    generalize σ12.put (σ0.next + 11) (.loop .exhausted (some .ret) nt' ta' ps' as' bo' df') = σ13 at sL
    have H3 := HL.set sL
    have p12 := H3.get (k := 10) rfl
    have H4 := H3.set (set1_put (x := .defs false) p12)
    exact endGD (R := fun v σ' => v = .tuple #[wdV (0, 0), .bool false] ∧ Grow σ0 σ') (b := σ0.next + 10) (vs := [wdV (0, 0), .bool false]) rfl p12 (by omega) (resW (b := σ0.next + 2) rfl (H4.get (k := 2) rfl) (resB (b := σ0.next + 3) rfl (H4.get (k := 3) rfl) rfl)) ⟨rfl, H4.toGrow ha⟩
end
end Go.Proofs.YtehcckhdppdkcaaGreatDoor
namespace Go.Proofs.YtehcckhdppdkcaaGreatDoor
set_option maxRecDepth 100000
theorem find_put_self {m : HM} {x a d y : Wd} (h : m.find x = some (.pair a d)) : (m.put x.2.toNat (.pair a y)).find x = some (.pair a y) := by
  obtain ⟨h0, h1, h2⟩ := HM.find_mem h
  have hlt := (List.getElem?_eq_some_iff.1 h1).1
  have h4 : ¬ x.2 < 0 := by omega
  have h3 : (m.objs.set x.2.toNat (some (HObj.pair a y)))[x.2.toNat]? = some (some (.pair a y)) := by rw [List.getElem?_set_self hlt]
  unfold HM.find HM.put
  rw [if_neg h4]
  simp only [h3]
  rw [if_pos (show (HObj.pair a y).kind = x.1 from h2)]
theorem find_put_ne {m : HM} {x : Wd} {i : Nat} {o : HObj} (h : x.2.toNat ≠ i) : (m.put i o).find x = m.find x := by
  unfold HM.find HM.put
  by_cases h4 : x.2 < 0
  · rw [if_pos h4, if_pos h4]
  · rw [if_neg h4, if_neg h4]
    simp only [List.getElem?_set_ne (Ne.symm h)]
theorem setCdr_is {m : HM} {x a d : Wd} (y : Wd) (h : m.find x = some (.pair a d)) : m.setCdr x y = (m.put x.2.toNat (.pair a y), 0) := by unfold HM.setCdr; rw [h]
theorem many_put {m : HM} {x a d : Wd} (y : Wd) (h : m.find x = some (.pair a d)) : (m.put x.2.toNat (.pair a y)).many = m.many := filter_set _ _ _ _ (HM.find_mem h).2.1
/-- The words 0, 1, .. -/
def intsW (k : Nat) : List Wd := (List.range k).map fun i : Nat => ((0 : Int), (i : Int))
theorem intsW_length (k : Nat) : (intsW k).length = k := by simp [intsW]
theorem intsW_at {k j : Nat} (h : j < k) : (intsW k).getD j (0, 0) = (0, (j : Int)) := by simp [intsW, List.getD_eq_getElem?_getD, h]
theorem intsW_succ (k : Nat) : intsW (k + 1) = intsW k ++ [(0, (k : Int))] := by simp [intsW, List.range_succ]
structure Ring (k : Nat) (m1 m2 m3 : HM) (w e : Wd) (cA cR c3 aR : Nat → Wd) : Prop where
  e1 : built (hm0 100) (intsW k) (1, 0) = (m1, w)
  c1 : Chain m1 cA (intsW k)
  zA : cA 0 = w
  zE : cA (k - 1) = e
  s2 : m1.setCdr e w = (m2, 0)
  zR : cR 0 = w
  p2 : ∀ n, Path m2 cR aR n
  aR : ∀ j, aR j = (0, ((j % k : Nat) : Int))
  s3 : m2.setCdr e (0, 7) = (m3, 0)
  z3 : c3 0 = w
  k3 : c3 k = (0, 7)
  p3 : Path m3 c3 (fun j => (0, (j : Int))) k
  lim : m1.limit = 100 ∧ m2.limit = 100 ∧ m3.limit = 100
  free3 : m3.free = []
  many3 : m3.many = k
theorem ring (k : Nat) (hk : 0 < k) : ∃ m1 m2 m3 w e cA cR c3 aR, Ring k m1 m2 m3 w e cA cR c3 aR := by
  obtain ⟨m1, w, e1⟩ : ∃ m x, built (hm0 100) (intsW k) (1, 0) = (m, x) := ⟨_, _, rfl⟩
  have c1 := chain_built (hm0 100) (intsW k); rw [e1] at c1
  have w1 := built_word (hm0 100) (intsW k) (1, 0); rw [e1] at w1
  have p1 := built_limit (hm0 100) (intsW k) (1, 0); have q1 := built_free (hm0 100) (intsW k) (1, 0); have k1 := built_many (hm0 100) (intsW k) (1, 0)
  rw [e1] at p1 q1 k1
  dsimp only at c1 w1 p1 q1 k1
  have hA : ∀ j, j < k → consOf (hm0 100) (intsW k) (1, 0) j = (2, ((k - 1 - j : Nat) : Int)) := fun j hj => by
    unfold consOf
    rw [intsW_length, if_pos hj]
    simp
  generalize consOf (hm0 100) (intsW k) (1, 0) = cA at c1 w1 hA
  have hl := intsW_length k
  have f1 : ∀ j, j < k → m1.find (cA j) = some (.pair (0, (j : Int)) (cA (j + 1))) := fun j hj => by
    have := c1.2 j (by rw [hl]; exact hj)
    have g := intsW_at hj
    show m1.find (cA j) = _
    rw [this]
    show some (HObj.pair ((intsW k).getD j (0, 0)) (cA (j + 1))) = _
    rw [g]
  have hN : ∀ j, j < k → (cA j).2.toNat = k - 1 - j := fun j hj => by rw [hA j hj]; simp
  have fe := f1 (k - 1) (by omega)
  have s2 := setCdr_is w fe
  obtain ⟨m2, hm2⟩ : ∃ m, m = m1.put (cA (k - 1)).2.toNat (.pair (0, ((k - 1 : Nat) : Int)) w) := ⟨_, rfl⟩
  rw [← hm2] at s2
  have f2e : m2.find (cA (k - 1)) = some (.pair (0, ((k - 1 : Nat) : Int)) w) := by rw [hm2]; exact find_put_self fe
  have f2 : ∀ j, j + 1 < k → m2.find (cA j) = some (.pair (0, (j : Int)) (cA (j + 1))) := fun j hj => by
    rw [hm2, find_put_ne (by rw [hN j (by omega), hN (k - 1) (by omega)]; omega)]
    exact f1 j (by omega)
  have s3 := setCdr_is (0, 7) f2e
  obtain ⟨m3, hm3⟩ : ∃ m, m = m2.put (cA (k - 1)).2.toNat (.pair (0, ((k - 1 : Nat) : Int)) (0, 7)) := ⟨_, rfl⟩
  rw [← hm3] at s3
  have f3e : m3.find (cA (k - 1)) = some (.pair (0, ((k - 1 : Nat) : Int)) (0, 7)) := by rw [hm3]; exact find_put_self f2e
  have f3 : ∀ j, j + 1 < k → m3.find (cA j) = some (.pair (0, (j : Int)) (cA (j + 1))) := fun j hj => by
    rw [hm3, find_put_ne (by rw [hN j (by omega), hN (k - 1) (by omega)]; omega)]
    exact f2 j hj
  refine ⟨m1, m2, m3, w, cA (k - 1), cA, fun j => cA (j % k), fun j => if j < k then cA j else (0, 7), fun j => (0, ((j % k : Nat) : Int)), e1, c1, w1.symm, rfl, s2, ?_, fun n j _ => ?_, fun j => rfl, s3, ?_, ?_, fun j hj => ?_, ⟨p1, ?_, ?_⟩, ?_, ?_⟩
  · show cA (0 % k) = w
    rw [Nat.zero_mod]; exact w1.symm
  · show m2.find (cA (j % k)) = some (.pair (0, ((j % k : Nat) : Int)) (cA ((j + 1) % k)))
    have hlt := Nat.mod_lt j hk
    by_cases h : j % k + 1 < k
    · rw [f2 _ h]
      congr 3
      rw [Nat.add_mod, Nat.mod_eq_of_lt (a := j % k + 1 % k)]
      · rcases Nat.lt_or_ge 1 k with h1 | h1
        · rw [Nat.mod_eq_of_lt h1]
        · omega
      · rcases Nat.lt_or_ge 1 k with h1 | h1
        · rw [Nat.mod_eq_of_lt h1]; exact h
        · omega
    · have he : j % k = k - 1 := by omega
      have hz : (j + 1) % k = 0 := by
        have h2 := Nat.div_add_mod j k
        rw [show j + 1 = k * (j / k + 1) by rw [Nat.mul_add]; omega, Nat.mul_mod_right]
      rw [he, hz, f2e, w1]
  · show (if 0 < k then cA 0 else (0, 7)) = w
    rw [if_pos hk]; exact w1.symm
  · show (if k < k then cA k else (0, 7)) = (0, 7)
    rw [if_neg (by omega)]
  · show m3.find (if j < k then cA j else (0, 7)) = some (.pair (0, (j : Int)) (if j + 1 < k then cA (j + 1) else (0, 7)))
    rw [if_pos hj]
    by_cases h : j + 1 < k
    · rw [if_pos h, f3 j h]
    · obtain rfl : j = k - 1 := by omega
      rw [if_neg h, f3e]
  · rw [hm2]; exact p1
  · rw [hm3, hm2]; exact p1
  · rw [hm3, hm2]; exact q1
  · rw [hm3, many_put _ f2e, hm2, many_put _ fe, k1, hl, hm0_many]; omega
section
variable {G h : Nat} {m : HM} {σ σ0 : Mem} {w : Wd} {c a : Nat → Wd} {n : Nat}
theorem slice_x (hw : c 0 = w) (hG : G ≤ σ0.next) (ha : σ0.abs = heapAbs h m) (hlim : 0 < m.limit) (hp : Path m c a 65537) : WC G Tryz.prog 18 #[pp h, wdV w] σ0 fun v σ' => v = .tuple #[.slice none 0 0, .int .i64 16] ∧ Grow σ0 σ' := by
  subst hw
  refine (slice_wc hG ha hlim hp (.inl rfl)).mono ?_
  rintro v σ' ⟨g, ⟨_, rfl⟩ | ⟨hn, _⟩ | ⟨hn, _⟩⟩
  · exact ⟨rfl, g⟩
  · omega
  · omega
theorem slice_t (hw : c 0 = w) (hG : G ≤ σ0.next) (ha : σ0.abs = heapAbs h m) (hlim : 0 < m.limit) (hp : Path m c a n) (hn : n ≤ 65536) (hc : c n = (0, 7)) : WC G Tryz.prog 18 #[pp h, wdV w] σ0 fun v σ' => v = .tuple #[.slice none 0 0, .int .i64 6] ∧ Grow σ0 σ' := by
  subst hw
  refine (slice_wc hG ha hlim hp (.inr ⟨hn, .inl (by rw [hc]; decide)⟩)).mono ?_
  rintro v σ' ⟨g, ⟨h1, rfl⟩ | ⟨_, _, rfl⟩ | ⟨_, h1, _⟩⟩
  · omega
  · exact ⟨rfl, g⟩
  · rw [hc] at h1
    exact absurd h1 (by decide)
theorem length_x (hw : c 0 = w) (hG : G ≤ σ0.next) (ha : σ0.abs = heapAbs h m) (hlim : 0 < m.limit) (hp : Path m c a 65537) : WC G Tryz.prog 25 #[pp h, wdV w] σ0 fun v σ' => v = .tuple #[.int .i64 0, .int .i64 16] ∧ Grow σ0 σ' := by
  subst hw; exact length_no hG ha hlim hp
theorem copy_x (hw : c 0 = w) (hG : G ≤ σ0.next) (ha : σ0.abs = heapAbs h m) (hlim : 0 < m.limit) (hp : Path m c a 65537) : WC G Tryz.prog 26 #[pp h, wdV w] σ0 fun v σ' => v = .tuple #[wdV (0, 0), .int .i64 16] ∧ Grow σ0 σ' := by
  subst hw; exact copy_no hG ha hlim hp
theorem get_x (x : Wd) (hw : c 0 = w) (hG : G ≤ σ0.next) (ha : σ0.abs = heapAbs h m) (hlim : 0 < m.limit) (hp : Path m c a 65537) (hx : ∀ j, a j ≠ x) : WC G Tryz.prog 30 #[pp h, wdV w, wdV x] σ0 fun v σ' => v = .tuple #[wdV (0, 0), .bool false] ∧ Grow σ0 σ' := by
  subst hw; exact get_no x hG ha hlim hp fun j _ => hx j
theorem memq_no (x : Wd) (hw : c 0 = w) (hG : G ≤ σ0.next) (ha : σ0.abs = heapAbs h m) (hlim : 0 < m.limit) (hp : Path m c a 65537) (hx : ∀ j, x ≠ a j) : WC G Tryz.prog 27 #[pp h, wdV x, wdV w] σ0 fun v σ' => v = .tuple #[wdV (0, 0), .int .i64 16] ∧ Grow σ0 σ' := by
  subst hw
  refine (memq_wc x hG ha hlim hp (.inl rfl)).mono ?_
  rintro v σ' ⟨g, ⟨i, _, _, h1, _⟩ | ⟨_, _, rfl⟩ | ⟨h1, _⟩ | ⟨h1, _⟩⟩
  · exact absurd h1 (hx i)
  · exact ⟨rfl, g⟩
  · omega
  · omega
theorem memq_yes (x : Wd) (hw : c 0 = w) (hG : G ≤ σ0.next) (ha : σ0.abs = heapAbs h m) (hlim : 0 < m.limit) (hp : ∀ n, Path m c a n) {i : Nat} (hi : i < 65536) (hx : x = a i) : WC G Tryz.prog 27 #[pp h, wdV x, wdV w] σ0 fun v σ' => ∃ y d, m.find y = some (.pair x d) ∧ v = .tuple #[wdV y, .int .i64 0] ∧ Grow σ0 σ' := by
  subst hw
  refine (memq_wc x hG ha hlim (hp 65537) (.inl rfl)).mono ?_
  rintro v σ' ⟨g, ⟨j, _, _, h1, _, rfl⟩ | ⟨_, h1, _⟩ | ⟨h1, _⟩ | ⟨h1, _⟩⟩
  · exact ⟨c j, _, by rw [h1]; exact hp (j + 1) j (by omega), rfl, g⟩
  · exact absurd hx (h1 i hi)
  · omega
  · omega
theorem nth_x (hw : c 0 = w) (hG : G ≤ σ0.next) (ha : σ0.abs = heapAbs h m) (hlim : 0 < m.limit) (hp : ∀ n, Path m c a n) (hn : n ≤ 65536) : WC G Tryz.prog 28 #[pp h, wdV w, .int .i64 (n : Int)] σ0 fun v σ' => v = .tuple #[wdV (a n), .int .i64 0] ∧ Grow σ0 σ' := by
  subst hw; exact nth_wc hG ha hlim (hp (n + 1)) hn
theorem tail_x (hw : c 0 = w) (hG : G ≤ σ0.next) (ha : σ0.abs = heapAbs h m) (hlim : 0 < m.limit) (hp : Path m c a n) (hn : n ≤ 65536) {e : Wd} (he : c n = e) : WC G Tryz.prog 20 #[pp h, wdV w, .int .i64 (n : Int)] σ0 fun v σ' => v = .tuple #[wdV e, .int .i64 0] ∧ Grow σ0 σ' := by
  subst hw he; exact tail_wc hG ha hlim hp hn
theorem append_nil (t : Wd) (hG : G ≤ σ0.next) (ha : σ0.abs = heapAbs h m) (hf : m.free = []) (hr : m.many ≤ m.limit) (hlo : 0 < m.limit) (hlim : m.limit ≤ 65536) : WC G Tryz.prog 17 #[pp h, wdV (1, 0), wdV t] σ0 fun v σ' => v = .tuple #[wdV t, .int .i64 0] ∧ GrowA σ0 σ' ∧ σ'.abs = heapAbs h m :=
  append_wc (c := fun _ => (1, 0)) (a := fun _ => (1, 0)) (n := 0) t hG ha hf hr hlo hlim (fun j hj => absurd hj (by omega)) (by decide) rfl
theorem s_sym9 : SCall G Tryz.prog 31 #[.int .i64 9] σ (wdV (1, 9)) σ :=
  closed_scall (G := 16) (n := 100) (K := noK []) (args := [.int .i64 9]) noK_right (by kernel_rfl) rfl rfl (fun _ _ h => by cases h) (fun _ _ h => by cases h) (fun _ _ h => by cases h) σ (fun _ _ h => by cases h)
end
end Go.Proofs.YtehcckhdppdkcaaGreatDoor
