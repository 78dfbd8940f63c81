/-
  lists.Slice in the second memory. Conditions: the heap lies there as HeapAt says.
-/
import Derived.Test.YtaaebeiigkhcjaaDoorLr
namespace Go.Proofs.YtaaebeiigkhcjaaDoor
set_option maxRecDepth 100000
def rangePs : Code → Array Tmp | .rangeFunc _ ps _ _ => ps | _ => #[]
def rangeAs : Code → Code | .rangeFunc _ _ as_ _ => as_ | _ => .skip
def rangeBo : Code → Code | .rangeFunc _ _ _ bo => bo | _ => .skip
def rangeIn : Code → Code | .seq (.seq _ (.block _ r)) _ => r | _ => .skip
noncomputable abbrev sliceR : Code := rangeIn (restN 4 (bodyOf Tryd.f15))
noncomputable abbrev sliceL (TA : Nat → Value) (D : Nat) : Blk2 := rdy 30 TA (rangePs sliceR) (rangeAs sliceR) (rangeBo sliceR) D
def firstN (a : Nat → Wd) (k : Nat) : List Wd := (List.range k).map a
theorem firstN_succ (a : Nat → Wd) (k : Nat) : firstN a (k + 1) = firstN a k ++ [a k] := by simp [firstN, List.range_succ]
theorem firstN_length (a : Nat → Wd) (k : Nat) : (firstN a k).length = k := by simp [firstN]
/-- What lies there while Slice gathers: k words so far, at the cons cur. -/
structure SliceAt (G h : Nat) (m : HM) (σ0 σ : Mem) (TA : Nat → Value) (a : Nat → Wd) (k : Nat) (cur : Wd) : Prop where
  old : ∀ b y, σ0.get b = some y → σ.get b = some y
  nx : σ0.next + 10 ≤ σ.next
  abs : σ.abs = heapAbs h m
  r4 : σ.get (σ0.next + 1) = some (.row ⟨[.slice none 0 0], 37, false⟩)
  r5 : σ.get (σ0.next + 2) = some (.row ⟨[.int .i64 0], 33, false⟩)
  out : ∃ v, σ.get (σ0.next + 3) = some (.row ⟨[v], 37, false⟩) ∧ GRow G σ 28 2 v k (wdC (firstN a k)) ∧ ∀ b, blkOf v = some b → σ0.next + 10 ≤ b
  r7 : ∃ x, σ.get (σ0.next + 4) = some (wrow x)
  c3 : σ.get (σ0.next + 5) = some (.row ⟨[pp h], 24, false⟩)
  c4 : σ.get (σ0.next + 6) = some (wrow cur)
  c5 : σ.get (σ0.next + 7) = some (.row ⟨[pp (σ0.next + 4)], 77, false⟩)
  df : σ.get (σ0.next + 8) = some (.defs true)
  lp : σ.get (σ0.next + 9) = some (sliceL TA (σ0.next + 8))
section
variable {G h : Nat} {m : HM} {σ0 σ σ' : Mem} {TA : Nat → Value} {a : Nat → Wd} {k : Nat} {cur : Wd}
theorem SliceAt.grow (S : SliceAt G h m σ0 σ TA a k cur) (g : Grow σ σ') : SliceAt G h m σ0 σ' TA a k cur := by
  obtain ⟨v, o1, o2, o3⟩ := S.out
  refine ⟨fun b y hy => g.old b y (S.old b y hy), Nat.le_trans S.nx g.nx, g.abs.trans S.abs, g.old _ _ S.r4, g.old _ _ S.r5, ⟨v, g.old _ _ o1, o2.keep fun b hb => ?_, o3⟩, ?_, g.old _ _ S.c3, g.old _ _ S.c4, g.old _ _ S.c5, g.old _ _ S.df, g.old _ _ S.lp⟩
  · obtain ⟨r, h1, _⟩ := o2.is hb
    rw [h1, g.old _ _ h1]
  · obtain ⟨x, hx⟩ := S.r7
    exact ⟨x, g.old _ _ hx⟩
/-- One of the function's own rows is set. -/
theorem SliceAt.keep (_S : SliceAt G h m σ0 σ TA a k cur) {b : Nat} {x : Blk2} (s : Set1 σ σ' b x) (_h1 : σ0.next ≤ b) (_h2 : b < σ0.next + 10) : ∀ c y, c ≠ b → σ.get c = some y → σ'.get c = some y := s.old
theorem SliceAt.setCur (S : SliceAt G h m σ0 σ TA a k cur) {x : Wd} (s : Set1 σ σ' (σ0.next + 6) (wrow x)) : SliceAt G h m σ0 σ' TA a k x := by
  obtain ⟨v, o1, o2, o3⟩ := S.out
  refine ⟨fun b y hy => s.old b y (by have := Mem.lt hy; omega) (S.old b y hy), by rw [s.nx]; exact S.nx, s.abs.trans S.abs, s.old _ _ (by omega) S.r4, s.old _ _ (by omega) S.r5, ⟨v, s.old _ _ (by omega) o1, o2.keep fun b hb => ?_, o3⟩, ?_, s.old _ _ (by omega) S.c3, s.at_, s.old _ _ (by omega) S.c5, s.old _ _ (by omega) S.df, s.old _ _ (by omega) S.lp⟩
  · obtain ⟨r, h1, _⟩ := o2.is hb
    have := o3 b hb
    rw [h1, s.old _ _ (by omega) h1]
  · obtain ⟨y, hy⟩ := S.r7
    exact ⟨y, s.old _ _ (by omega) hy⟩
/-- Slice has given up. -/
structure SliceStop (h : Nat) (m : HM) (σ0 σ : Mem) : Prop where
  old : ∀ b y, σ0.get b = some y → σ.get b = some y
  nx : σ0.next + 10 ≤ σ.next
  abs : σ.abs = heapAbs h m
  r4 : σ.get (σ0.next + 1) = some (.row ⟨[.slice none 0 0], 37, false⟩)
  r5 : σ.get (σ0.next + 2) = some (.row ⟨[.int .i64 16], 33, false⟩)
  df : σ.get (σ0.next + 8) = some (.defs true)
  lp : ∃ nt' ta' ps' as' bo' df', σ.get (σ0.next + 9) = some (.loop .done (some .ret) nt' ta' ps' as' bo' df')
theorem slice_yield (hG : G ≤ σ0.next) (S : SliceAt G h m σ0 σ TA a k cur) (hk : k ≤ 65536) (e4 : TA 4 = pp (σ0.next + 1)) (e5 : TA 5 = pp (σ0.next + 2)) (e6 : TA 6 = pp (σ0.next + 3)) :
    Yield G Tryd.prog (σ0.next + 9) [wdV cur, wdV (a k)] σ fun r σ' => (r = true → k < 65536 ∧ SliceAt G h m σ0 σ' TA a (k + 1) cur) ∧ (r = false → k = 65536 ∧ SliceStop h m σ0 σ') := by
  obtain ⟨v, o1, o2, o3⟩ := S.out
  have hGn : G ≤ σ.next := by have := S.nx; omega
  have hnx := S.nx
  refine Yield.of S.lp rfl (by decide) ?_
  refine W.know 4 (x := pp (σ0.next + 1)) e4 (W.know 5 (x := pp (σ0.next + 2)) e5 (W.know 6 (x := pp (σ0.next + 3)) e6 ?_))
  refine W.region ?_
  refine RW.varS (d := 9) (r0 := ⟨[.int .i64 0, .int .i64 0], 28, false⟩) (vs := #[.int .i64 (a k).1, .int .i64 (a k).2]) (by kernel_rfl) (by kernel_rfl) (by kernel_rfl) rfl (by kernel_rfl) rfl (by kernel_rfl) rfl rfl rfl rfl (by kernel_rfl) rfl hGn ?_
  intro σ1 _ g1 q1 n1 a1
  have S1 := S.grow ⟨q1, by omega, a1⟩
  refine RW.nil ?_
  refine ⟨rfl, S1.lp, fun σ2 s2 => ?_⟩
  have o1' := s2.old _ _ (by omega) (q1 _ _ o1)
  have g2 := s2.old _ _ (by omega) g1
  refine W.block ?_
  refine W.seq ?_
  refine W.seq ?_
  refine W.region ?_
  refine RW.load (by kernel_rfl) (by kernel_rfl) rfl rfl o1' rfl rfl (by kernel_rfl) ?_
  refine RW.len (by kernel_rfl) (by kernel_rfl) rfl rfl rfl rfl (o2.len (by kernel_rfl)) (by kernel_rfl) ?_
  by_cases hk6 : k = 65536
  · refine RW.valE (v' := .bool true) (by kernel_rfl) (by kernel_rfl) rfl (congrArg Value.bool (decide_eq_true (by omega))) (by kernel_rfl) ?_
    refine RW.nil ?_
    refine W.cond (b := true) rfl (fun _ => ?_) (fun h => by cases h)
    refine W.seq ?_
    refine W.region ?_
    refine RW.set1G (b := σ0.next + 1) (v := .slice none 0 0) (by kernel_rfl) (by kernel_rfl) rfl rfl (by omega) (s2.old _ _ (by omega) S1.r4) rfl rfl rfl (by kernel_rfl) rfl (by kernel_rfl) ?_; intro σ3 _ s3
    refine RW.set1G (b := σ0.next + 2) (v := .int .i64 16) (by kernel_rfl) (by kernel_rfl) rfl rfl (by omega) (s3.old _ _ (by omega) (s2.old _ _ (by omega) S1.r5)) rfl rfl rfl (by kernel_rfl) rfl (by kernel_rfl) ?_; intro σ4 _ s4
    refine RW.nil ?_
    refine W.ret ?_
    refine ⟨s4.old _ _ (by omega) (s3.old _ _ (by omega) s2.at_), _, _, _, rfl, fun σ5 s5 => ⟨fun h => (by cases h), fun _ => ⟨hk6, ?_⟩⟩⟩
    exact ⟨fun b y hy => s5.old b y (by have := Mem.lt hy; omega) (s4.old b y (by have := Mem.lt hy; omega) (s3.old b y (by have := Mem.lt hy; omega) (s2.old b y (by have := Mem.lt hy; omega) (S1.old b y hy)))), by rw [s5.nx, s4.nx, s3.nx, s2.nx]; exact S1.nx, s5.abs.trans (s4.abs.trans (s3.abs.trans (s2.abs.trans S1.abs))), s5.old _ _ (by omega) (s4.old _ _ (by omega) s3.at_), s5.old _ _ (by omega) s4.at_, s5.old _ _ (by omega) (s4.old _ _ (by omega) (s3.old _ _ (by omega) (s2.old _ _ (by omega) S1.df))), _, _, _, _, _, _, s5.at_⟩
  · refine RW.valE (v' := .bool false) (by kernel_rfl) (by kernel_rfl) rfl (congrArg Value.bool (decide_eq_false (by omega))) (by kernel_rfl) ?_
    refine RW.nil ?_
    refine W.cond (b := false) rfl (fun h => by cases h) (fun _ => ?_)
    refine W.skip ?_
    refine W.region ?_
    refine RW.load (by kernel_rfl) (by kernel_rfl) rfl rfl o1' rfl rfl (by kernel_rfl) ?_
    refine RW.loads 2 (by kernel_rfl) (by kernel_rfl) rfl rfl g2 rfl rfl (by kernel_rfl) ?_
    refine RW.make (x := .row ⟨wdC [a k], 28, false⟩) (fm := fun b => .slice (some ⟨b, 0, none⟩) 1 1) (by kernel_rfl) (by kernel_rfl) (by kernel_rfl) (by kernel_rfl) ?_
    have o2' : GRow G σ2 28 2 v k (wdC (firstN a k)) := o2.keep fun b hb => by
      obtain ⟨r, h1, _⟩ := o2.is hb
      have := o3 b hb
      rw [h1, s2.old _ _ (by omega) (q1 _ _ h1)]
    obtain ⟨v', cmd, k1, k2, k3, k4, k5, k6⟩ := grow_push (P := Tryd.prog) (t := 37) (u := 37) (e2 := 28) (r := ⟨wdC [a k], 28, false⟩) (n := 1) o2' (by rw [s2.nx]; omega) (by kernel_rfl) (by kernel_rfl) (by kernel_rfl) (by decide) (by decide) rfl rfl (by omega)
    refine RW.append (by kernel_rfl) (by kernel_rfl) rfl rfl rfl rfl k1 (by kernel_rfl) ?_
    generalize MCmd.app (σ2.push (.row ⟨wdC [a k], 28, false⟩)) cmd = σ3 at k2 k3 k4 k5 ⊢
    have hold : ∀ b y, b < σ0.next + 10 → σ2.get b = some y → σ3.get b = some y := fun b y hb hy => k5 b y hy fun e => by have := o3 b e; omega
    refine RW.set1G (b := σ0.next + 3) (v := v') (by kernel_rfl) (by kernel_rfl) rfl rfl (by omega) (hold _ _ (by omega) o1') rfl (by cases k2 <;> rfl) (by cases k2 <;> rfl) (by kernel_rfl) rfl (by kernel_rfl) ?_; intro σ4 _ s4
    refine RW.nil ?_
    have kp : ∀ b y, b < σ0.next + 10 → b ≠ σ0.next + 3 → b ≠ σ0.next + 9 → σ1.get b = some y → σ4.get b = some y := fun b y hb h3 h9 hy => s4.old b y h3 (hold b y hb (s2.old b y h9 hy))
    refine ⟨s4.old _ _ (by omega) (hold _ _ (by omega) s2.at_), _, _, _, rfl, fun σ5 s5 => ⟨fun _ => ⟨by omega, ?_⟩, fun h => (by cases h)⟩⟩
    have kq : ∀ b y, b < σ0.next + 10 → b ≠ σ0.next + 3 → b ≠ σ0.next + 9 → σ1.get b = some y → σ5.get b = some y := fun b y hb h3 h9 hy => s5.old b y h9 (kp b y hb h3 h9 hy)
    have hs2n := s2.nx
    have hs4n := s4.nx
    have hs5n := s5.nx
    refine ⟨fun b y hy => kq b y (by have := Mem.lt hy; omega) (by have := Mem.lt hy; omega) (by have := Mem.lt hy; omega) (S1.old b y hy), by omega, s5.abs.trans (s4.abs.trans (k4.trans (s2.abs.trans S1.abs))), kq _ _ (by omega) (by omega) (by omega) S1.r4, kq _ _ (by omega) (by omega) (by omega) S1.r5, ⟨v', s5.old _ _ (by omega) s4.at_, ?_, fun b hb => ?_⟩, ?_, kq _ _ (by omega) (by omega) (by omega) S1.c3, kq _ _ (by omega) (by omega) (by omega) S1.c4, kq _ _ (by omega) (by omega) (by omega) S1.c5, kq _ _ (by omega) (by omega) (by omega) S1.df, s5.at_⟩
    · rw [firstN_succ, show wdC (firstN a k ++ [a k]) = wdC (firstN a k) ++ wdC [a k] by simp [wdC]]
      refine k2.keep fun b hb => ?_
      obtain ⟨r, h1, _⟩ := k2.is hb
      have hb10 : σ0.next + 10 ≤ b := by
        rcases k6 b hb with h2 | h2
        · exact o3 b h2
        · omega
      rw [h1, s5.old _ _ (by omega) (s4.old _ _ (by omega) h1)]
    · rcases k6 b hb with h2 | h2
      · exact o3 b h2
      · omega
    · obtain ⟨y, hy⟩ := S1.r7
      exact ⟨y, kq _ _ (by omega) (by omega) (by omega) hy⟩
end
end Go.Proofs.YtaaebeiigkhcjaaDoor
