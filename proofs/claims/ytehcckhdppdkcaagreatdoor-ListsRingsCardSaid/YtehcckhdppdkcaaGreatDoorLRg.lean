/-
  ListsRings in the second memory: the whole law. Conditions: the tables of unicode/utf8 lie as laid.
-/
import Derived.Test.YtehcckhdppdkcaaGreatDoorL4
import Derived.Test.YtehcckhdppdkcaaGreatDoorLsRun
namespace Go.Proofs.YtehcckhdppdkcaaGreatDoor
open Go.RowKit
set_option maxRecDepth 100000
set_option maxHeartbeats 8000000 in
theorem rings_wc {G : Nat} {σ0 : Mem} {n at_ : Int} {x : Wd} (hG : G ≤ σ0.next) (hn1 : -9223372036854775808 ≤ n) (hn2 : n ≤ 9223372036854775807) (ht1 : -9223372036854775808 ≤ at_) (ht2 : at_ ≤ 9223372036854775807) (h16 : 16 ≤ G) (hR : RowsAt rowsU σ0) (hno : σ0.abs = Abs.no) :
    WC G Tryz.prog 5 #[.int .i64 n, .int .i64 at_, wdV x] σ0 fun v _ => v = .bool true := by
  refine WC.enter (fn := Tryz.f5) Tryz.func5 rfl ?_
  refine W.know 0 (x := .int .i64 n) rfl (W.know 1 (x := .int .i64 at_) rfl ?_)
  refine W.seq ?_
  refine W.region ?_
  refine RW.makeG (x := .row ⟨[.int .i64 x.1, .int .i64 x.2], 37, false⟩) (fm := fun b => .pointer (some ⟨b, 0, none⟩)) (by kernel_rfl) (by kernel_rfl) (by kernel_rfl) (by kernel_rfl) ?_; intro σ1 _ r5 G1 n1
  refine RW.val (by kernel_rfl) (by kernel_rfl) rfl (by kernel_rfl) ?_
  have gn : G ≤ σ1.next := by omega
  have hR1 : RowsAt rowsU σ1 := fun g cs hm => by obtain ⟨t, f, h⟩ := hR g cs hm; exact ⟨t, f, G1.old _ _ h⟩
  refine RW.nil ?_
  refine W.reset [(0, .int .i64 n), (1, .int .i64 at_), (5, pp σ0.next)] ⟨rfl, rfl, rfl, trivial⟩ fun TA => ?_
  refine W.seq ?_
  refine W.seq ?_
  refine W.region ?_
  refine RW.call (by kernel_rfl) (by kernel_rfl) rfl rfl rfl (by kernel_rfl) (by kernel_rfl) ⟨_, _, (s_lives h16 σ1 hR1), ?_⟩
  refine RW.val (by kernel_rfl) (by kernel_rfl) rfl (by kernel_rfl) ?_
  refine RW.nil ?_
  refine W.cond (b := false) rfl (fun h => by cases h) (fun _ => ?_)
  refine W.skip ?_
  have CN := s_new (G := G) (σ := σ1) 100 (by decide) (by decide) (G1.abs.trans hno)
  refine W.seq ?_
  refine W.region ?_
  refine RW.call (by kernel_rfl) (by kernel_rfl) rfl rfl rfl (by kernel_rfl) (by kernel_rfl) ⟨_, _, CN, ?_⟩
  refine RW.val (by kernel_rfl) (by kernel_rfl) rfl (by kernel_rfl) ?_
  refine RW.val (by kernel_rfl) (by kernel_rfl) rfl (by kernel_rfl) ?_
  refine RW.val (by kernel_rfl) (by kernel_rfl) rfl (by kernel_rfl) ?_
  refine RW.val (by kernel_rfl) (by kernel_rfl) rfl (by kernel_rfl) ?_
  refine RW.val (by kernel_rfl) (by kernel_rfl) rfl (by kernel_rfl) ?_
  obtain ⟨σa, hσa⟩ : ∃ s, s = σ1.made 100 := ⟨_, rfl⟩
  rw [← hσa]
  have na : σa.next = σ1.next + 1 := by rw [hσa]; rfl
  have ha : σa.abs = heapAbs σ1.next (hm0 100) := by rw [hσa]; rfl
  have K : ∀ b y, σ1.get b = some y → σa.get b = some y := fun b y hy => by rw [hσa, made_get]; exact hy
  replace r5 := K _ _ r5
  replace gn : G ≤ σa.next := by omega
  clear K hσa CN G1 n1 hR1
  refine RW.nil ?_
  refine W.reset [(0, .int .i64 n), (1, .int .i64 at_), (5, pp σ0.next), (7, pp σ1.next)] ⟨rfl, rfl, rfl, rfl, trivial⟩ fun TA => ?_
  have pk := pick_range n 40 (by omega)
  obtain ⟨k, hk⟩ : ∃ k : Nat, 1 + pickOf n 40 = (k : Int) := ⟨_, (Int.toNat_of_nonneg (by omega)).symm⟩
  have hk0 : 0 < k := by omega
  have hk40 : k ≤ 40 := by omega
  refine W.seq ?_
  refine W.region ?_
  refine RW.val (by kernel_rfl) (by kernel_rfl) rfl (by kernel_rfl) ?_
  refine RW.call (by kernel_rfl) (by kernel_rfl) rfl rfl rfl (by kernel_rfl) (by kernel_rfl) ⟨_, _, (s_pick n 40 hn1 hn2 (by decide) (by decide)), ?_⟩
  refine RW.valE (v' := .int .i64 (k : Int)) (by kernel_rfl) (by kernel_rfl) rfl (congrArg (Value.int .i64) ((wrap_in (by omega) (by omega)).trans hk)) (by kernel_rfl) ?_
  refine RW.val (by kernel_rfl) (by kernel_rfl) rfl (by kernel_rfl) ?_
  refine RW.nil ?_
  refine W.reset [(0, .int .i64 n), (1, .int .i64 at_), (5, pp σ0.next), (7, pp σ1.next), (9, .int .i64 (k : Int))] ⟨rfl, rfl, rfl, rfl, rfl, trivial⟩ fun TA => ?_
  refine W.seq ?_
  refine W.region ?_
  refine RW.val (by kernel_rfl) (by kernel_rfl) rfl (by kernel_rfl) ?_
  refine RW.nil ?_
  refine W.reset [(0, .int .i64 n), (1, .int .i64 at_), (5, pp σ0.next), (7, pp σ1.next), (9, .int .i64 (k : Int)), (10, .slice none 0 0)] ⟨rfl, rfl, rfl, rfl, rfl, rfl, trivial⟩ fun TA => ?_
  refine W.seq ?_
  refine W.seq ?_
  refine W.region ?_
  refine RW.val (by kernel_rfl) (by kernel_rfl) rfl (by kernel_rfl) ?_
  refine RW.nil ?_
  refine W.block ?_
  refine W.loop (fun mm ta σ => ∃ (i : Nat) (v : Value), mm + i = k ∧ (∀ b y, σa.get b = some y → σ.get b = some y) ∧ σa.next ≤ σ.next ∧ σ.abs = heapAbs σ1.next (hm0 100) ∧ GRow G σ 37 2 v i (wdC (intsW i)) ∧ (∀ b, blkOf v = some b → σa.next ≤ b) ∧ ta 0 = .int .i64 n ∧ ta 1 = .int .i64 at_ ∧ ta 5 = pp σ0.next ∧ ta 7 = pp σ1.next ∧ ta 9 = .int .i64 (k : Int) ∧ ta 10 = v ∧ ta 11 = .int .i64 (i : Int)) k ?_ ?_
  · exact ⟨0, _, rfl, fun _ _ h => h, Nat.le_refl _, ha, .nil, (fun b hb => by cases hb), rfl, rfl, rfl, rfl, rfl, rfl, rfl⟩
  rintro mm ta σ ⟨i, v, hm, ho, hnx, hab, g, fr, e0, e1, e5, e7, e9, e10, e11⟩
  refine W.know 0 e0 (W.know 1 e1 (W.know 5 e5 (W.know 7 e7 (W.know 9 e9 (W.know 10 e10 (W.know 11 e11 (?_)))))))
  refine W.seq ?_
  refine W.seq ?_
  refine W.region ?_
  refine RW.val (by kernel_rfl) (by kernel_rfl) rfl (by kernel_rfl) ?_
  refine RW.val (by kernel_rfl) (by kernel_rfl) rfl (by kernel_rfl) ?_
  refine RW.val (by kernel_rfl) (by kernel_rfl) rfl (by kernel_rfl) ?_
  refine RW.nil ?_
  refine W.cond rfl (fun hh => ?_) (fun hh => ?_)
  · have hik : i < k := by have := of_decide_eq_true hh; omega
    refine W.skip ?_
    refine W.seq ?_
    refine W.block ?_
    refine W.region ?_
    refine RW.val (by kernel_rfl) (by kernel_rfl) rfl (by kernel_rfl) ?_
    refine RW.val (by kernel_rfl) (by kernel_rfl) rfl (by kernel_rfl) ?_
    refine RW.call (by kernel_rfl) (by kernel_rfl) rfl rfl rfl (by kernel_rfl) (by kernel_rfl) ⟨_, _, (s_int _), ?_⟩
    refine RW.make (x := .row ⟨wdC [(0, (i : Int))], 37, false⟩) (fm := fun b => .slice (some ⟨b, 0, none⟩) 1 1) (by kernel_rfl) (by kernel_rfl) (by kernel_rfl) (by kernel_rfl) ?_
    obtain ⟨v', cmd, k1, k2, k3, k4, k5, k6⟩ := grow_push (P := Tryz.prog) (t := 29) (u := 29) (e2 := 37) (r := ⟨wdC [(0, (i : Int))], 37, false⟩) (n := 1) g (by omega) (by kernel_rfl) (by kernel_rfl) (by kernel_rfl) (by decide) (by decide) rfl rfl (by omega)
    refine RW.append (by kernel_rfl) (by kernel_rfl) rfl rfl rfl rfl k1 (by kernel_rfl) ?_
    generalize MCmd.app (σ.push (.row ⟨wdC [(0, (i : Int))], 37, false⟩)) cmd = σ3 at k2 k3 k4 k5 ⊢
    refine RW.val (by kernel_rfl) (by kernel_rfl) rfl (by kernel_rfl) ?_
    refine RW.nil ?_
    refine W.region ?_
    refine RW.val (by kernel_rfl) (by kernel_rfl) rfl (by kernel_rfl) ?_
    refine RW.valE (by kernel_rfl) (by kernel_rfl) rfl (congrArg (Value.int .i64) (wrap_in (by omega) (by omega))) (by kernel_rfl) ?_
    refine RW.val (by kernel_rfl) (by kernel_rfl) rfl (by kernel_rfl) ?_
    refine RW.nil ?_
    refine ⟨rfl, mm - 1, by omega, i + 1, v', by omega, fun b y hy => k5 b y (ho b y hy) (fun e => by have := fr b e; have := Mem.lt hy; omega), by omega, k4.trans hab, by rw [intsW_succ, show wdC (intsW i ++ [(0, (i : Int))]) = wdC (intsW i) ++ wdC [(0, (i : Int))] by simp [wdC]]; exact k2, fun b hb => ?_, rfl, rfl, rfl, rfl, rfl, rfl, rfl⟩
    rcases k6 b hb with h2 | h2
    · exact fr b h2
    · omega
  have hik : i = k := by have := of_decide_eq_false hh; omega
  subst hik
  refine W.exit _ ?_
  replace r5 := ho _ _ r5
  replace gn : G ≤ σ.next := by omega
  replace ha := hab
  clear ho hnx hab fr hh hm pk
  obtain ⟨m1, m2, m3, w, e, cA, cR, c3, aR, M⟩ := ring i hk0
  obtain ⟨li1, li2, li3⟩ := M.lim
  have hlen := intsW_length i
  refine W.reset [(0, .int .i64 n), (1, .int .i64 at_), (5, pp σ0.next), (7, pp σ1.next), (9, .int .i64 (i : Int)), (10, v)] ⟨rfl, rfl, rfl, rfl, rfl, rfl, trivial⟩ fun TA => ?_
  clear e0 e1 e5 e7 e9 e10 e11
  refine W.seq ?_
  refine W.region ?_
  refine RW.val (by kernel_rfl) (by kernel_rfl) rfl (by kernel_rfl) ?_
  refine RW.val (by kernel_rfl) (by kernel_rfl) rfl (by kernel_rfl) ?_
  refine RW.call (by kernel_rfl) (by kernel_rfl) rfl rfl rfl (by kernel_rfl) (by kernel_rfl) ((make_wc (l := intsW i) gn ha rfl (by rw [hm0_many, hlen]; show 0 + i ≤ 100; omega) (by decide) (by decide) (fun _ => g.sl) g.one (by rw [hlen]; exact g.len (by kernel_rfl))).mono ?_)
  intro _ σp1 H
  obtain ⟨rfl, Gp, ap⟩ := H.is M.e1
  clear H g
  have np := Gp.nx
  refine RW.val (by kernel_rfl) (by kernel_rfl) rfl (by kernel_rfl) ?_
  refine RW.val (by kernel_rfl) (by kernel_rfl) rfl (by kernel_rfl) ?_
  refine RW.val (by kernel_rfl) (by kernel_rfl) rfl (by kernel_rfl) ?_
  refine RW.varS (d := 12) (r0 := ⟨[.int .i64 0, .int .i64 0], 37, false⟩) (vs := #[.int .i64 w.1, .int .i64 w.2]) (by kernel_rfl) (by kernel_rfl) (by kernel_rfl) rfl (by kernel_rfl) rfl (by kernel_rfl) rfl rfl rfl rfl (by kernel_rfl) rfl (by omega) ?_
  intro σq1 _ r12 oq nq aq
  have K : ∀ b y, σ.get b = some y → σq1.get b = some y := fun b y hy => oq b y (Gp.old b y hy)
  replace r5 := K _ _ r5
  replace gn : G ≤ σq1.next := by omega
  replace ha := aq.trans (ap)
  clear K
  clear oq nq aq
  clear Gp ap np
  refine RW.val (by kernel_rfl) (by kernel_rfl) rfl (by kernel_rfl) ?_
  refine RW.nil ?_
  refine W.reset [(0, .int .i64 n), (1, .int .i64 at_), (5, pp σ0.next), (7, pp σ1.next), (9, .int .i64 (i : Int)), (12, pp σp1.next)] ⟨rfl, rfl, rfl, rfl, rfl, rfl, trivial⟩ fun TA => ?_
  obtain ⟨k1, hk1⟩ : ∃ k1, i = k1 + 1 := ⟨i - 1, by omega⟩
  have hi1 : i - 1 = k1 := by omega
  refine W.seq ?_
  refine W.region ?_
  refine RW.val (by kernel_rfl) (by kernel_rfl) rfl (by kernel_rfl) ?_
  refine RW.loads 2 (by kernel_rfl) (by kernel_rfl) rfl rfl r12 rfl rfl (by kernel_rfl) ?_
  refine RW.val (by kernel_rfl) (by kernel_rfl) rfl (by kernel_rfl) ?_
  refine RW.valE (v' := .int .i64 (k1 : Int)) (by kernel_rfl) (by kernel_rfl) rfl (congrArg (Value.int .i64) ((wrap_in (by omega) (by omega)).trans (by omega))) (by kernel_rfl) ?_
  refine RW.call (by kernel_rfl) (by kernel_rfl) rfl rfl rfl (by kernel_rfl) (by kernel_rfl) ((tail_x (n := k1) (e := e) M.zA gn ha (by omega) (fun j hj => M.c1.2 j (by rw [hlen]; omega)) (by omega) (by rw [← hi1]; exact M.zE)).mono ?_)
  rintro _ σp2 ⟨rfl, Gp⟩
  have np := Gp.nx
  refine RW.val (by kernel_rfl) (by kernel_rfl) rfl (by kernel_rfl) ?_
  refine RW.val (by kernel_rfl) (by kernel_rfl) rfl (by kernel_rfl) ?_
  refine RW.val (by kernel_rfl) (by kernel_rfl) rfl (by kernel_rfl) ?_
  refine RW.varS (d := 14) (r0 := ⟨[.int .i64 0, .int .i64 0], 37, false⟩) (vs := #[.int .i64 e.1, .int .i64 e.2]) (by kernel_rfl) (by kernel_rfl) (by kernel_rfl) rfl (by kernel_rfl) rfl (by kernel_rfl) rfl rfl rfl rfl (by kernel_rfl) rfl (by omega) ?_
  intro σq2 _ r14 oq nq aq
  have K : ∀ b y, σq1.get b = some y → σq2.get b = some y := fun b y hy => oq b y (Gp.old b y hy)
  replace r5 := K _ _ r5
  replace r12 := K _ _ r12
  replace gn : G ≤ σq2.next := by omega
  replace ha := aq.trans (Gp.abs.trans ha)
  clear K
  clear oq nq aq
  clear Gp np
  refine RW.val (by kernel_rfl) (by kernel_rfl) rfl (by kernel_rfl) ?_
  refine RW.nil ?_
  refine W.reset [(0, .int .i64 n), (1, .int .i64 at_), (5, pp σ0.next), (7, pp σ1.next), (9, .int .i64 (i : Int)), (12, pp σp1.next), (14, pp σp2.next), (15, .int .i64 0)] ⟨rfl, rfl, rfl, rfl, rfl, rfl, rfl, rfl, trivial⟩ fun TA => ?_
  refine W.seq ?_
  refine W.region ?_
  refine RW.val (by kernel_rfl) (by kernel_rfl) rfl (by kernel_rfl) ?_
  refine RW.loads 2 (by kernel_rfl) (by kernel_rfl) rfl rfl r14 rfl rfl (by kernel_rfl) ?_
  refine RW.loads 2 (by kernel_rfl) (by kernel_rfl) rfl rfl r12 rfl rfl (by kernel_rfl) ?_
  have CS := s_setCdr (G := G) e w ha
  rw [M.s2] at CS
  refine RW.call (by kernel_rfl) (by kernel_rfl) rfl rfl rfl (by kernel_rfl) (by kernel_rfl) ⟨_, _, CS, ?_⟩
  refine RW.nil ?_
  obtain ⟨σs3, hs⟩ : ∃ s, s = σq2.with (heapAbs σ1.next m2) := ⟨_, rfl⟩
  show W G Tryz.prog none _ _ _ _ (σq2.with (heapAbs σ1.next m2)) _
  rw [← hs]
  have ns : σs3.next = σq2.next := by rw [hs]; rfl
  have K : ∀ b y, σq2.get b = some y → σs3.get b = some y := fun b y hy => by rw [hs, with_get]; exact hy
  replace r5 := K _ _ r5
  replace r12 := K _ _ r12
  replace r14 := K _ _ r14
  replace gn : G ≤ σs3.next := by omega
  replace ha := (show σs3.abs = heapAbs σ1.next m2 by rw [hs]; rfl)
  clear K
  clear hs ns CS
  refine W.reset [(0, .int .i64 n), (1, .int .i64 at_), (5, pp σ0.next), (7, pp σ1.next), (9, .int .i64 (i : Int)), (12, pp σp1.next), (14, pp σp2.next), (15, .int .i64 0)] ⟨rfl, rfl, rfl, rfl, rfl, rfl, rfl, rfl, trivial⟩ fun TA => ?_
  refine W.seq ?_
  refine W.region ?_
  refine RW.val (by kernel_rfl) (by kernel_rfl) rfl (by kernel_rfl) ?_
  refine RW.loads 2 (by kernel_rfl) (by kernel_rfl) rfl rfl r12 rfl rfl (by kernel_rfl) ?_
  refine RW.call (by kernel_rfl) (by kernel_rfl) rfl rfl rfl (by kernel_rfl) (by kernel_rfl) ((slice_x M.zR gn ha (by omega) (M.p2 _)).mono ?_)
  rintro _ σp4 ⟨rfl, Gp⟩
  have np := Gp.nx
  refine RW.val (by kernel_rfl) (by kernel_rfl) rfl (by kernel_rfl) ?_
  refine RW.val (by kernel_rfl) (by kernel_rfl) rfl (by kernel_rfl) ?_
  refine RW.val (by kernel_rfl) (by kernel_rfl) rfl (by kernel_rfl) ?_
  refine RW.val (by kernel_rfl) (by kernel_rfl) rfl (by kernel_rfl) ?_
  refine RW.val (by kernel_rfl) (by kernel_rfl) rfl (by kernel_rfl) ?_
  have K : ∀ b y, σs3.get b = some y → σp4.get b = some y := Gp.old
  replace r5 := K _ _ r5
  replace r12 := K _ _ r12
  replace r14 := K _ _ r14
  replace gn : G ≤ σp4.next := by omega
  replace ha := Gp.abs.trans ha
  clear K
  clear Gp np
  refine RW.nil ?_
  refine W.reset [(0, .int .i64 n), (1, .int .i64 at_), (5, pp σ0.next), (7, pp σ1.next), (9, .int .i64 (i : Int)), (12, pp σp1.next), (14, pp σp2.next), (15, .int .i64 0), (17, .int .i64 16)] ⟨rfl, rfl, rfl, rfl, rfl, rfl, rfl, rfl, rfl, trivial⟩ fun TA => ?_
  refine W.seq ?_
  refine W.region ?_
  refine RW.val (by kernel_rfl) (by kernel_rfl) rfl (by kernel_rfl) ?_
  refine RW.loads 2 (by kernel_rfl) (by kernel_rfl) rfl rfl r12 rfl rfl (by kernel_rfl) ?_
  refine RW.call (by kernel_rfl) (by kernel_rfl) rfl rfl rfl (by kernel_rfl) (by kernel_rfl) ((length_x M.zR gn ha (by omega) (M.p2 _)).mono ?_)
  rintro _ σp5 ⟨rfl, Gp⟩
  have np := Gp.nx
  refine RW.val (by kernel_rfl) (by kernel_rfl) rfl (by kernel_rfl) ?_
  refine RW.val (by kernel_rfl) (by kernel_rfl) rfl (by kernel_rfl) ?_
  refine RW.val (by kernel_rfl) (by kernel_rfl) rfl (by kernel_rfl) ?_
  refine RW.val (by kernel_rfl) (by kernel_rfl) rfl (by kernel_rfl) ?_
  refine RW.val (by kernel_rfl) (by kernel_rfl) rfl (by kernel_rfl) ?_
  have K : ∀ b y, σp4.get b = some y → σp5.get b = some y := Gp.old
  replace r5 := K _ _ r5
  replace r12 := K _ _ r12
  replace r14 := K _ _ r14
  replace gn : G ≤ σp5.next := by omega
  replace ha := Gp.abs.trans ha
  clear K
  clear Gp np
  refine RW.nil ?_
  refine W.reset [(0, .int .i64 n), (1, .int .i64 at_), (5, pp σ0.next), (7, pp σ1.next), (9, .int .i64 (i : Int)), (12, pp σp1.next), (14, pp σp2.next), (15, .int .i64 0), (17, .int .i64 16), (19, .int .i64 16)] ⟨rfl, rfl, rfl, rfl, rfl, rfl, rfl, rfl, rfl, rfl, trivial⟩ fun TA => ?_
  refine W.seq ?_
  refine W.region ?_
  refine RW.val (by kernel_rfl) (by kernel_rfl) rfl (by kernel_rfl) ?_
  refine RW.loads 2 (by kernel_rfl) (by kernel_rfl) rfl rfl r12 rfl rfl (by kernel_rfl) ?_
  refine RW.call (by kernel_rfl) (by kernel_rfl) rfl rfl rfl (by kernel_rfl) (by kernel_rfl) ((copy_x M.zR gn ha (by omega) (M.p2 _)).mono ?_)
  rintro _ σp6 ⟨rfl, Gp⟩
  have np := Gp.nx
  refine RW.val (by kernel_rfl) (by kernel_rfl) rfl (by kernel_rfl) ?_
  refine RW.val (by kernel_rfl) (by kernel_rfl) rfl (by kernel_rfl) ?_
  refine RW.val (by kernel_rfl) (by kernel_rfl) rfl (by kernel_rfl) ?_
  refine RW.varS (d := 20) (r0 := ⟨[.int .i64 0, .int .i64 0], 37, false⟩) (vs := #[.int .i64 ((0, 0) : Wd).1, .int .i64 ((0, 0) : Wd).2]) (by kernel_rfl) (by kernel_rfl) (by kernel_rfl) rfl (by kernel_rfl) rfl (by kernel_rfl) rfl rfl rfl rfl (by kernel_rfl) rfl (by omega) ?_
  intro σq6 _ r20 oq nq aq
  have K : ∀ b y, σp5.get b = some y → σq6.get b = some y := fun b y hy => oq b y (Gp.old b y hy)
  replace r5 := K _ _ r5
  replace r12 := K _ _ r12
  replace r14 := K _ _ r14
  replace gn : G ≤ σq6.next := by omega
  replace ha := aq.trans (Gp.abs.trans ha)
  clear K
  clear oq nq aq
  clear Gp np
  refine RW.val (by kernel_rfl) (by kernel_rfl) rfl (by kernel_rfl) ?_
  refine RW.nil ?_
  refine W.reset [(0, .int .i64 n), (1, .int .i64 at_), (5, pp σ0.next), (7, pp σ1.next), (9, .int .i64 (i : Int)), (12, pp σp1.next), (14, pp σp2.next), (15, .int .i64 0), (17, .int .i64 16), (19, .int .i64 16), (20, pp σp6.next), (21, .int .i64 16)] ⟨rfl, rfl, rfl, rfl, rfl, rfl, rfl, rfl, rfl, rfl, rfl, rfl, trivial⟩ fun TA => ?_
  have hno1 : ∀ j, ((0, -1) : Wd) ≠ aR j := fun j e => by rw [M.aR j] at e; have := (Prod.mk.inj e).2; omega
  obtain ⟨_, σp7, hS, rfl, Gp⟩ := memq_no (G := G) (0, -1) M.zR gn ha (by omega) (M.p2 _) hno1
  have _u := trivial
  have np := Gp.nx
  refine W.seq ?_
  refine W.drawn (by kernel_rfl) (by kernel_rfl) gn ?_
  refine RW.val (by kernel_rfl) (by kernel_rfl) rfl (by kernel_rfl) ?_
  refine RW.call (by kernel_rfl) (by kernel_rfl) rfl rfl rfl (by kernel_rfl) (by kernel_rfl) ⟨_, _, (s_int _), ?_⟩
  refine RW.loads 2 (by kernel_rfl) (by kernel_rfl) rfl rfl r12 rfl rfl (by kernel_rfl) ?_
  refine RW.call (by kernel_rfl) (by kernel_rfl) rfl rfl rfl (by kernel_rfl) (by kernel_rfl) ⟨_, _, hS, ?_⟩
  refine RW.val (by kernel_rfl) (by kernel_rfl) rfl (by kernel_rfl) ?_
  refine RW.val (by kernel_rfl) (by kernel_rfl) rfl (by kernel_rfl) ?_
  refine RW.val (by kernel_rfl) (by kernel_rfl) rfl (by kernel_rfl) ?_
  have gp : (σp7.push (Blk2.row ⟨[.int .i64 0, .int .i64 0], 37, false⟩)).get σp7.next = some (Blk2.row ⟨[.int .i64 0, .int .i64 0], 37, false⟩) := get_push
  refine RW.make (x := Blk2.row ⟨[.int .i64 0, .int .i64 0], 37, false⟩) (fm := fun b => .pointer (some ⟨b, 0, none⟩)) (by kernel_rfl) (by kernel_rfl) (by kernel_rfl) (by kernel_rfl) ?_
  refine RW.stores (b := σp7.next) (p := 0) (vs := #[.int .i64 ((0, 0) : Wd).1, .int .i64 ((0, 0) : Wd).2]) (by kernel_rfl) (by kernel_rfl) rfl rfl (by omega) gp rfl rfl (by kernel_rfl) (by show 0 + 2 ≤ 2; omega) (by kernel_rfl) ?_
  have sp := set1_put (x := wrow ((0, 0) : Wd)) gp
  refine RW.val (by kernel_rfl) (by kernel_rfl) rfl (by kernel_rfl) ?_
  refine RW.nil ?_
  refine ⟨⟨by kernel_rfl, ?_⟩, ?_⟩
  · have y1r12 := Gp.old _ _ r12
    have y2r12 := get_push_old (x := Blk2.row ⟨[.int .i64 0, .int .i64 0], 37, false⟩) y1r12
    have y3r12 := sp.old _ _ (by have := Mem.lt y1r12; omega) y2r12
    repeat' (first | exact True.intro | refine dyn_row r12 y3r12 ?_ | exact fun _ => r12 | exact fun _ => y1r12 | exact fun _ => y2r12 | exact fun _ => y3r12 | exact fun h => Bool.noConfusion h | refine And.intro ?_ ?_ | exact Or.inl (by kernel_rfl))
  show W G Tryz.prog none _ _ _ _ ((σp7.push (Blk2.row ⟨[.int .i64 0, .int .i64 0], 37, false⟩)).put σp7.next (wrow ((0, 0) : Wd))) _
  have nq : ((σp7.push (Blk2.row ⟨[.int .i64 0, .int .i64 0], 37, false⟩)).put σp7.next (wrow ((0, 0) : Wd))).next = σp7.next + 1 := rfl
  have aq : ((σp7.push (Blk2.row ⟨[.int .i64 0, .int .i64 0], 37, false⟩)).put σp7.next (wrow ((0, 0) : Wd))).abs = σp7.abs := rfl
  generalize (σp7.push (Blk2.row ⟨[.int .i64 0, .int .i64 0], 37, false⟩)).put σp7.next (wrow ((0, 0) : Wd)) = σq7 at sp nq aq ⊢
  have r22 := sp.at_
  have K : ∀ b y, σq6.get b = some y → σq7.get b = some y := fun b y hy => sp.old b y (by have := Mem.lt (Gp.old b y hy); omega) (get_push_old (Gp.old b y hy))
  replace r5 := K _ _ r5
  replace r12 := K _ _ r12
  replace r14 := K _ _ r14
  replace r20 := K _ _ r20
  replace gn : G ≤ σq7.next := by omega
  replace ha := aq.trans (Gp.abs.trans ha)
  clear K
  clear sp nq aq gp Gp np hS
  refine W.reset [(0, .int .i64 n), (1, .int .i64 at_), (5, pp σ0.next), (7, pp σ1.next), (9, .int .i64 (i : Int)), (12, pp σp1.next), (14, pp σp2.next), (15, .int .i64 0), (17, .int .i64 16), (19, .int .i64 16), (20, pp σp6.next), (21, .int .i64 16), (22, pp σp7.next), (23, .int .i64 16)] ⟨rfl, rfl, rfl, rfl, rfl, rfl, rfl, rfl, rfl, rfl, rfl, rfl, rfl, rfl, trivial⟩ fun TA => ?_
  have pq := pick_range at_ 200 (by omega)
  obtain ⟨q, hq⟩ : ∃ q : Nat, pickOf at_ 200 = (q : Int) := ⟨_, (Int.toNat_of_nonneg pq.1).symm⟩
  have hq2 : q < 200 := by omega
  have CP := s_pick (G := G) (σ := σq7) at_ 200 ht1 ht2 (by decide) (by decide)
  rw [hq] at CP
  refine W.seq ?_
  refine W.region ?_
  refine RW.val (by kernel_rfl) (by kernel_rfl) rfl (by kernel_rfl) ?_
  refine RW.call (by kernel_rfl) (by kernel_rfl) rfl rfl rfl (by kernel_rfl) (by kernel_rfl) ⟨_, _, CP, ?_⟩
  refine RW.val (by kernel_rfl) (by kernel_rfl) rfl (by kernel_rfl) ?_
  clear CP pq
  refine RW.nil ?_
  refine W.reset [(0, .int .i64 n), (1, .int .i64 at_), (5, pp σ0.next), (7, pp σ1.next), (9, .int .i64 (i : Int)), (12, pp σp1.next), (14, pp σp2.next), (15, .int .i64 0), (17, .int .i64 16), (19, .int .i64 16), (20, pp σp6.next), (21, .int .i64 16), (22, pp σp7.next), (23, .int .i64 16), (24, .int .i64 (q : Int))] ⟨rfl, rfl, rfl, rfl, rfl, rfl, rfl, rfl, rfl, rfl, rfl, rfl, rfl, rfl, rfl, trivial⟩ fun TA => ?_
  have hqa := M.aR q
  refine W.seq ?_
  refine W.region ?_
  refine RW.val (by kernel_rfl) (by kernel_rfl) rfl (by kernel_rfl) ?_
  refine RW.loads 2 (by kernel_rfl) (by kernel_rfl) rfl rfl r12 rfl rfl (by kernel_rfl) ?_
  refine RW.val (by kernel_rfl) (by kernel_rfl) rfl (by kernel_rfl) ?_
  refine RW.call (by kernel_rfl) (by kernel_rfl) rfl rfl rfl (by kernel_rfl) (by kernel_rfl) ((nth_x (n := q) M.zR gn ha (by omega) M.p2 (by omega)).mono ?_)
  rintro _ σp8 ⟨rfl, Gp⟩
  rw [hqa]
  have np := Gp.nx
  refine RW.val (by kernel_rfl) (by kernel_rfl) rfl (by kernel_rfl) ?_
  refine RW.val (by kernel_rfl) (by kernel_rfl) rfl (by kernel_rfl) ?_
  refine RW.val (by kernel_rfl) (by kernel_rfl) rfl (by kernel_rfl) ?_
  refine RW.varS (d := 25) (r0 := ⟨[.int .i64 0, .int .i64 0], 37, false⟩) (vs := #[.int .i64 ((0, ((q % i : Nat) : Int)) : Wd).1, .int .i64 ((0, ((q % i : Nat) : Int)) : Wd).2]) (by kernel_rfl) (by kernel_rfl) (by kernel_rfl) rfl (by kernel_rfl) rfl (by kernel_rfl) rfl rfl rfl rfl (by kernel_rfl) rfl (by omega) ?_
  intro σq8 _ r25 oq nq aq
  have K : ∀ b y, σq7.get b = some y → σq8.get b = some y := fun b y hy => oq b y (Gp.old b y hy)
  replace r5 := K _ _ r5
  replace r12 := K _ _ r12
  replace r14 := K _ _ r14
  replace r20 := K _ _ r20
  replace r22 := K _ _ r22
  replace gn : G ≤ σq8.next := by omega
  replace ha := aq.trans (Gp.abs.trans ha)
  clear K
  clear oq nq aq
  clear Gp np
  refine RW.val (by kernel_rfl) (by kernel_rfl) rfl (by kernel_rfl) ?_
  refine RW.nil ?_
  refine W.reset [(0, .int .i64 n), (1, .int .i64 at_), (5, pp σ0.next), (7, pp σ1.next), (9, .int .i64 (i : Int)), (12, pp σp1.next), (14, pp σp2.next), (15, .int .i64 0), (17, .int .i64 16), (19, .int .i64 16), (20, pp σp6.next), (21, .int .i64 16), (22, pp σp7.next), (23, .int .i64 16), (24, .int .i64 (q : Int)), (25, pp σp8.next), (26, .int .i64 0)] ⟨rfl, rfl, rfl, rfl, rfl, rfl, rfl, rfl, rfl, rfl, rfl, rfl, rfl, rfl, rfl, rfl, rfl, trivial⟩ fun TA => ?_
  have hrem : Int.tmod (q : Int) (i : Int) = ((q % i : Nat) : Int) := by rw [Int.tmod_eq_emod_of_nonneg (by omega)]; exact (Int.natCast_emod q i).symm
  have hfb : fastBin .rem .i64 (q : Int) (i : Int) = some (.int .i64 ((q % i : Nat) : Int)) := by show (if (i : Int) = 0 then none else some (Value.int .i64 (Int.tmod (q : Int) (i : Int)))) = _; rw [if_neg (by omega), hrem]
  obtain ⟨_, σp9, hS, y, d, hy, rfl, Gp⟩ := memq_yes (G := G) (0, ((q % i : Nat) : Int)) (i := q) M.zR gn ha (by omega) M.p2 (by omega) hqa.symm
  have _u := trivial
  have np := Gp.nx
  refine W.seq ?_
  refine W.drawn (by kernel_rfl) (by kernel_rfl) gn ?_
  refine RW.val (by kernel_rfl) (by kernel_rfl) rfl (by kernel_rfl) ?_
  refine RW.val (by kernel_rfl) (by kernel_rfl) rfl (by kernel_rfl) ?_
  refine RW.val (by kernel_rfl) (by kernel_rfl) rfl (by kernel_rfl) ?_
  refine RW.vop (by kernel_rfl) (by kernel_rfl) (vop_fastBin rfl rfl rfl hfb) (by kernel_rfl) ?_
  refine RW.call (by kernel_rfl) (by kernel_rfl) rfl rfl rfl (by kernel_rfl) (by kernel_rfl) ⟨_, _, (s_int _), ?_⟩
  refine RW.loads 2 (by kernel_rfl) (by kernel_rfl) rfl rfl r12 rfl rfl (by kernel_rfl) ?_
  refine RW.call (by kernel_rfl) (by kernel_rfl) rfl rfl rfl (by kernel_rfl) (by kernel_rfl) ⟨_, _, hS, ?_⟩
  refine RW.val (by kernel_rfl) (by kernel_rfl) rfl (by kernel_rfl) ?_
  refine RW.val (by kernel_rfl) (by kernel_rfl) rfl (by kernel_rfl) ?_
  refine RW.val (by kernel_rfl) (by kernel_rfl) rfl (by kernel_rfl) ?_
  have gp : (σp9.push (Blk2.row ⟨[.int .i64 0, .int .i64 0], 37, false⟩)).get σp9.next = some (Blk2.row ⟨[.int .i64 0, .int .i64 0], 37, false⟩) := get_push
  refine RW.make (x := Blk2.row ⟨[.int .i64 0, .int .i64 0], 37, false⟩) (fm := fun b => .pointer (some ⟨b, 0, none⟩)) (by kernel_rfl) (by kernel_rfl) (by kernel_rfl) (by kernel_rfl) ?_
  refine RW.stores (b := σp9.next) (p := 0) (vs := #[.int .i64 y.1, .int .i64 y.2]) (by kernel_rfl) (by kernel_rfl) rfl rfl (by omega) gp rfl rfl (by kernel_rfl) (by show 0 + 2 ≤ 2; omega) (by kernel_rfl) ?_
  have sp := set1_put (x := wrow y) gp
  refine RW.val (by kernel_rfl) (by kernel_rfl) rfl (by kernel_rfl) ?_
  refine RW.nil ?_
  refine ⟨⟨by kernel_rfl, ?_⟩, ?_⟩
  · have y1r12 := Gp.old _ _ r12
    have y2r12 := get_push_old (x := Blk2.row ⟨[.int .i64 0, .int .i64 0], 37, false⟩) y1r12
    have y3r12 := sp.old _ _ (by have := Mem.lt y1r12; omega) y2r12
    repeat' (first | exact True.intro | refine dyn_row r12 y3r12 ?_ | exact fun _ => r12 | exact fun _ => y1r12 | exact fun _ => y2r12 | exact fun _ => y3r12 | exact fun h => Bool.noConfusion h | refine And.intro ?_ ?_ | exact Or.inl (by kernel_rfl))
  show W G Tryz.prog none _ _ _ _ ((σp9.push (Blk2.row ⟨[.int .i64 0, .int .i64 0], 37, false⟩)).put σp9.next (wrow y)) _
  have nq : ((σp9.push (Blk2.row ⟨[.int .i64 0, .int .i64 0], 37, false⟩)).put σp9.next (wrow y)).next = σp9.next + 1 := rfl
  have aq : ((σp9.push (Blk2.row ⟨[.int .i64 0, .int .i64 0], 37, false⟩)).put σp9.next (wrow y)).abs = σp9.abs := rfl
  generalize (σp9.push (Blk2.row ⟨[.int .i64 0, .int .i64 0], 37, false⟩)).put σp9.next (wrow y) = σq9 at sp nq aq ⊢
  have r27 := sp.at_
  have K : ∀ b y, σq8.get b = some y → σq9.get b = some y := fun b y hy => sp.old b y (by have := Mem.lt (Gp.old b y hy); omega) (get_push_old (Gp.old b y hy))
  replace r5 := K _ _ r5
  replace r12 := K _ _ r12
  replace r14 := K _ _ r14
  replace r20 := K _ _ r20
  replace r22 := K _ _ r22
  replace r25 := K _ _ r25
  replace gn : G ≤ σq9.next := by omega
  replace ha := aq.trans (Gp.abs.trans ha)
  clear K
  clear sp nq aq gp Gp np hS
  refine W.reset [(0, .int .i64 n), (1, .int .i64 at_), (5, pp σ0.next), (7, pp σ1.next), (9, .int .i64 (i : Int)), (12, pp σp1.next), (14, pp σp2.next), (15, .int .i64 0), (17, .int .i64 16), (19, .int .i64 16), (20, pp σp6.next), (21, .int .i64 16), (22, pp σp7.next), (23, .int .i64 16), (24, .int .i64 (q : Int)), (25, pp σp8.next), (26, .int .i64 0), (27, pp σp9.next), (28, .int .i64 0)] ⟨rfl, rfl, rfl, rfl, rfl, rfl, rfl, rfl, rfl, rfl, rfl, rfl, rfl, rfl, rfl, rfl, rfl, rfl, rfl, trivial⟩ fun TA => ?_
  have CC := s_car (G := G) y ha
  rw [car_of hy] at CC
  refine W.seq ?_
  refine W.region ?_
  refine RW.val (by kernel_rfl) (by kernel_rfl) rfl (by kernel_rfl) ?_
  refine RW.loads 2 (by kernel_rfl) (by kernel_rfl) rfl rfl r27 rfl rfl (by kernel_rfl) ?_
  refine RW.call (by kernel_rfl) (by kernel_rfl) rfl rfl rfl (by kernel_rfl) (by kernel_rfl) ⟨_, _, CC, ?_⟩
  refine RW.val (by kernel_rfl) (by kernel_rfl) rfl (by kernel_rfl) ?_
  refine RW.val (by kernel_rfl) (by kernel_rfl) rfl (by kernel_rfl) ?_
  refine RW.val (by kernel_rfl) (by kernel_rfl) rfl (by kernel_rfl) ?_
  refine RW.varS (d := 29) (r0 := ⟨[.int .i64 0, .int .i64 0], 37, false⟩) (vs := #[.int .i64 ((0, ((q % i : Nat) : Int)) : Wd).1, .int .i64 ((0, ((q % i : Nat) : Int)) : Wd).2]) (by kernel_rfl) (by kernel_rfl) (by kernel_rfl) rfl (by kernel_rfl) rfl (by kernel_rfl) rfl rfl rfl rfl (by kernel_rfl) rfl (by omega) ?_
  intro σq10 _ r29 oq nq aq
  have K : ∀ b y, σq9.get b = some y → σq10.get b = some y := oq
  replace r5 := K _ _ r5
  replace r12 := K _ _ r12
  replace r14 := K _ _ r14
  replace r20 := K _ _ r20
  replace r22 := K _ _ r22
  replace r25 := K _ _ r25
  replace r27 := K _ _ r27
  replace gn : G ≤ σq10.next := by omega
  replace ha := aq.trans ha
  clear K
  clear oq nq aq CC
  refine RW.val (by kernel_rfl) (by kernel_rfl) rfl (by kernel_rfl) ?_
  refine RW.nil ?_
  refine W.reset [(0, .int .i64 n), (1, .int .i64 at_), (5, pp σ0.next), (7, pp σ1.next), (9, .int .i64 (i : Int)), (12, pp σp1.next), (14, pp σp2.next), (15, .int .i64 0), (17, .int .i64 16), (19, .int .i64 16), (20, pp σp6.next), (21, .int .i64 16), (22, pp σp7.next), (23, .int .i64 16), (24, .int .i64 (q : Int)), (25, pp σp8.next), (26, .int .i64 0), (27, pp σp9.next), (28, .int .i64 0), (29, pp σq9.next), (30, .int .i64 0)] ⟨rfl, rfl, rfl, rfl, rfl, rfl, rfl, rfl, rfl, rfl, rfl, rfl, rfl, rfl, rfl, rfl, rfl, rfl, rfl, rfl, rfl, trivial⟩ fun TA => ?_
  have hno2 : ∀ j, aR j ≠ ((1, 9) : Wd) := fun j e => by rw [M.aR j] at e; have := (Prod.mk.inj e).1; omega
  obtain ⟨_, σp11, hS, rfl, Gp⟩ := get_x (G := G) (1, 9) M.zR gn ha (by omega) (M.p2 _) hno2
  have _u := trivial
  have np := Gp.nx
  refine W.seq ?_
  refine W.drawn (by kernel_rfl) (by kernel_rfl) gn ?_
  refine RW.val (by kernel_rfl) (by kernel_rfl) rfl (by kernel_rfl) ?_
  refine RW.loads 2 (by kernel_rfl) (by kernel_rfl) rfl rfl r12 rfl rfl (by kernel_rfl) ?_
  refine RW.call (by kernel_rfl) (by kernel_rfl) rfl rfl rfl (by kernel_rfl) (by kernel_rfl) ⟨_, _, s_sym9, ?_⟩
  refine RW.call (by kernel_rfl) (by kernel_rfl) rfl rfl rfl (by kernel_rfl) (by kernel_rfl) ⟨_, _, hS, ?_⟩
  refine RW.val (by kernel_rfl) (by kernel_rfl) rfl (by kernel_rfl) ?_
  refine RW.val (by kernel_rfl) (by kernel_rfl) rfl (by kernel_rfl) ?_
  refine RW.val (by kernel_rfl) (by kernel_rfl) rfl (by kernel_rfl) ?_
  have gp : (σp11.push (Blk2.row ⟨[.int .i64 0, .int .i64 0], 37, false⟩)).get σp11.next = some (Blk2.row ⟨[.int .i64 0, .int .i64 0], 37, false⟩) := get_push
  refine RW.make (x := Blk2.row ⟨[.int .i64 0, .int .i64 0], 37, false⟩) (fm := fun b => .pointer (some ⟨b, 0, none⟩)) (by kernel_rfl) (by kernel_rfl) (by kernel_rfl) (by kernel_rfl) ?_
  refine RW.stores (b := σp11.next) (p := 0) (vs := #[.int .i64 ((0, 0) : Wd).1, .int .i64 ((0, 0) : Wd).2]) (by kernel_rfl) (by kernel_rfl) rfl rfl (by omega) gp rfl rfl (by kernel_rfl) (by show 0 + 2 ≤ 2; omega) (by kernel_rfl) ?_
  have sp := set1_put (x := wrow ((0, 0) : Wd)) gp
  refine RW.val (by kernel_rfl) (by kernel_rfl) rfl (by kernel_rfl) ?_
  refine RW.nil ?_
  refine ⟨⟨by kernel_rfl, ?_⟩, ?_⟩
  · have y1r12 := Gp.old _ _ r12
    have y2r12 := get_push_old (x := Blk2.row ⟨[.int .i64 0, .int .i64 0], 37, false⟩) y1r12
    have y3r12 := sp.old _ _ (by have := Mem.lt y1r12; omega) y2r12
    repeat' (first | exact True.intro | refine dyn_row r12 y3r12 ?_ | exact fun _ => r12 | exact fun _ => y1r12 | exact fun _ => y2r12 | exact fun _ => y3r12 | exact fun h => Bool.noConfusion h | refine And.intro ?_ ?_ | exact Or.inl (by kernel_rfl))
  show W G Tryz.prog none _ _ _ _ ((σp11.push (Blk2.row ⟨[.int .i64 0, .int .i64 0], 37, false⟩)).put σp11.next (wrow ((0, 0) : Wd))) _
  have nq : ((σp11.push (Blk2.row ⟨[.int .i64 0, .int .i64 0], 37, false⟩)).put σp11.next (wrow ((0, 0) : Wd))).next = σp11.next + 1 := rfl
  have aq : ((σp11.push (Blk2.row ⟨[.int .i64 0, .int .i64 0], 37, false⟩)).put σp11.next (wrow ((0, 0) : Wd))).abs = σp11.abs := rfl
  generalize (σp11.push (Blk2.row ⟨[.int .i64 0, .int .i64 0], 37, false⟩)).put σp11.next (wrow ((0, 0) : Wd)) = σq11 at sp nq aq ⊢
  have r31 := sp.at_
  have K : ∀ b y, σq10.get b = some y → σq11.get b = some y := fun b y hy => sp.old b y (by have := Mem.lt (Gp.old b y hy); omega) (get_push_old (Gp.old b y hy))
  replace r5 := K _ _ r5
  replace r12 := K _ _ r12
  replace r14 := K _ _ r14
  replace r20 := K _ _ r20
  replace r22 := K _ _ r22
  replace r25 := K _ _ r25
  replace r27 := K _ _ r27
  replace r29 := K _ _ r29
  replace gn : G ≤ σq11.next := by omega
  replace ha := aq.trans (Gp.abs.trans ha)
  clear K
  clear sp nq aq gp Gp np hS
  refine W.reset [(0, .int .i64 n), (1, .int .i64 at_), (5, pp σ0.next), (7, pp σ1.next), (9, .int .i64 (i : Int)), (12, pp σp1.next), (14, pp σp2.next), (15, .int .i64 0), (17, .int .i64 16), (19, .int .i64 16), (20, pp σp6.next), (21, .int .i64 16), (22, pp σp7.next), (23, .int .i64 16), (24, .int .i64 (q : Int)), (25, pp σp8.next), (26, .int .i64 0), (27, pp σp9.next), (28, .int .i64 0), (29, pp σq9.next), (30, .int .i64 0), (31, pp σp11.next), (32, .bool false)] ⟨rfl, rfl, rfl, rfl, rfl, rfl, rfl, rfl, rfl, rfl, rfl, rfl, rfl, rfl, rfl, rfl, rfl, rfl, rfl, rfl, rfl, rfl, rfl, trivial⟩ fun TA => ?_
  refine W.seq ?_
  refine W.drawn (by kernel_rfl) (by kernel_rfl) gn ?_
  refine RW.val (by kernel_rfl) (by kernel_rfl) rfl (by kernel_rfl) ?_
  refine RW.loads 2 (by kernel_rfl) (by kernel_rfl) rfl rfl r14 rfl rfl (by kernel_rfl) ?_
  refine RW.call (by kernel_rfl) (by kernel_rfl) rfl rfl rfl (by kernel_rfl) (by kernel_rfl) ⟨_, _, (s_int _), ?_⟩
  have CS := s_setCdr (G := G) e (0, 7) ha
  rw [M.s3] at CS
  refine RW.call (by kernel_rfl) (by kernel_rfl) rfl rfl rfl (by kernel_rfl) (by kernel_rfl) ⟨_, _, CS, ?_⟩
  refine RW.nil ?_
  refine ⟨⟨by kernel_rfl, ?_⟩, ?_⟩
  · repeat' (first | exact True.intro | refine dyn_row r14 r14 ?_ | exact fun h => Bool.noConfusion h | exact fun _ => r14 | refine And.intro ?_ ?_ | exact Or.inl (by kernel_rfl))
  obtain ⟨σs12, hs⟩ : ∃ s, s = σq11.with (heapAbs σ1.next m3) := ⟨_, rfl⟩
  show W G Tryz.prog none _ _ _ _ (σq11.with (heapAbs σ1.next m3)) _
  rw [← hs]
  have ns : σs12.next = σq11.next := by rw [hs]; rfl
  have K : ∀ b y, σq11.get b = some y → σs12.get b = some y := fun b y hy => by rw [hs, with_get]; exact hy
  replace r5 := K _ _ r5
  replace r12 := K _ _ r12
  replace r14 := K _ _ r14
  replace r20 := K _ _ r20
  replace r22 := K _ _ r22
  replace r25 := K _ _ r25
  replace r27 := K _ _ r27
  replace r29 := K _ _ r29
  replace r31 := K _ _ r31
  replace gn : G ≤ σs12.next := by omega
  replace ha := (show σs12.abs = heapAbs σ1.next m3 by rw [hs]; rfl)
  clear K
  clear hs ns CS
  refine W.reset [(0, .int .i64 n), (1, .int .i64 at_), (5, pp σ0.next), (7, pp σ1.next), (9, .int .i64 (i : Int)), (12, pp σp1.next), (14, pp σp2.next), (15, .int .i64 0), (17, .int .i64 16), (19, .int .i64 16), (20, pp σp6.next), (21, .int .i64 16), (22, pp σp7.next), (23, .int .i64 16), (24, .int .i64 (q : Int)), (25, pp σp8.next), (26, .int .i64 0), (27, pp σp9.next), (28, .int .i64 0), (29, pp σq9.next), (30, .int .i64 0), (31, pp σp11.next), (32, .bool false)] ⟨rfl, rfl, rfl, rfl, rfl, rfl, rfl, rfl, rfl, rfl, rfl, rfl, rfl, rfl, rfl, rfl, rfl, rfl, rfl, rfl, rfl, rfl, rfl, trivial⟩ fun TA => ?_
  refine W.seq ?_
  refine W.region ?_
  refine RW.val (by kernel_rfl) (by kernel_rfl) rfl (by kernel_rfl) ?_
  refine RW.loads 2 (by kernel_rfl) (by kernel_rfl) rfl rfl r12 rfl rfl (by kernel_rfl) ?_
  refine RW.call (by kernel_rfl) (by kernel_rfl) rfl rfl rfl (by kernel_rfl) (by kernel_rfl) ((slice_t M.z3 gn ha (by omega) M.p3 (by omega) M.k3).mono ?_)
  rintro _ σp13 ⟨rfl, Gp⟩
  have np := Gp.nx
  refine RW.val (by kernel_rfl) (by kernel_rfl) rfl (by kernel_rfl) ?_
  refine RW.val (by kernel_rfl) (by kernel_rfl) rfl (by kernel_rfl) ?_
  refine RW.val (by kernel_rfl) (by kernel_rfl) rfl (by kernel_rfl) ?_
  refine RW.val (by kernel_rfl) (by kernel_rfl) rfl (by kernel_rfl) ?_
  refine RW.val (by kernel_rfl) (by kernel_rfl) rfl (by kernel_rfl) ?_
  have K : ∀ b y, σs12.get b = some y → σp13.get b = some y := Gp.old
  replace r5 := K _ _ r5
  replace r12 := K _ _ r12
  replace r14 := K _ _ r14
  replace r20 := K _ _ r20
  replace r22 := K _ _ r22
  replace r25 := K _ _ r25
  replace r27 := K _ _ r27
  replace r29 := K _ _ r29
  replace r31 := K _ _ r31
  replace gn : G ≤ σp13.next := by omega
  replace ha := Gp.abs.trans ha
  clear K
  clear Gp np
  refine RW.nil ?_
  refine W.reset [(0, .int .i64 n), (1, .int .i64 at_), (5, pp σ0.next), (7, pp σ1.next), (9, .int .i64 (i : Int)), (12, pp σp1.next), (14, pp σp2.next), (15, .int .i64 0), (17, .int .i64 16), (19, .int .i64 16), (20, pp σp6.next), (21, .int .i64 16), (22, pp σp7.next), (23, .int .i64 16), (24, .int .i64 (q : Int)), (25, pp σp8.next), (26, .int .i64 0), (27, pp σp9.next), (28, .int .i64 0), (29, pp σq9.next), (30, .int .i64 0), (31, pp σp11.next), (32, .bool false), (34, .int .i64 6)] ⟨rfl, rfl, rfl, rfl, rfl, rfl, rfl, rfl, rfl, rfl, rfl, rfl, rfl, rfl, rfl, rfl, rfl, rfl, rfl, rfl, rfl, rfl, rfl, rfl, trivial⟩ fun TA => ?_
  obtain ⟨_, σp14, hS, rfl, Gp, ap⟩ := append_nil (G := G) x gn ha M.free3 (by rw [M.many3]; omega) (by omega) (by omega)
  have _u := trivial
  have np := Gp.nx
  refine W.seq ?_
  refine W.drawn (by kernel_rfl) (by kernel_rfl) gn ?_
  refine RW.val (by kernel_rfl) (by kernel_rfl) rfl (by kernel_rfl) ?_
  refine RW.call (by kernel_rfl) (by kernel_rfl) rfl rfl rfl (by kernel_rfl) (by kernel_rfl) ⟨_, _, s_nilK, ?_⟩
  refine RW.loads 2 (by kernel_rfl) (by kernel_rfl) rfl rfl r5 rfl rfl (by kernel_rfl) ?_
  refine RW.call (by kernel_rfl) (by kernel_rfl) rfl rfl rfl (by kernel_rfl) (by kernel_rfl) ⟨_, _, hS, ?_⟩
  refine RW.val (by kernel_rfl) (by kernel_rfl) rfl (by kernel_rfl) ?_
  refine RW.val (by kernel_rfl) (by kernel_rfl) rfl (by kernel_rfl) ?_
  refine RW.val (by kernel_rfl) (by kernel_rfl) rfl (by kernel_rfl) ?_
  have gp : (σp14.push (Blk2.row ⟨[.int .i64 0, .int .i64 0], 37, false⟩)).get σp14.next = some (Blk2.row ⟨[.int .i64 0, .int .i64 0], 37, false⟩) := get_push
  refine RW.make (x := Blk2.row ⟨[.int .i64 0, .int .i64 0], 37, false⟩) (fm := fun b => .pointer (some ⟨b, 0, none⟩)) (by kernel_rfl) (by kernel_rfl) (by kernel_rfl) (by kernel_rfl) ?_
  refine RW.stores (b := σp14.next) (p := 0) (vs := #[.int .i64 x.1, .int .i64 x.2]) (by kernel_rfl) (by kernel_rfl) rfl rfl (by omega) gp rfl rfl (by kernel_rfl) (by show 0 + 2 ≤ 2; omega) (by kernel_rfl) ?_
  have sp := set1_put (x := wrow x) gp
  refine RW.val (by kernel_rfl) (by kernel_rfl) rfl (by kernel_rfl) ?_
  refine RW.nil ?_
  refine ⟨⟨by kernel_rfl, ?_⟩, ?_⟩
  · have y1r5 := Gp.old _ _ r5
    have y2r5 := get_push_old (x := Blk2.row ⟨[.int .i64 0, .int .i64 0], 37, false⟩) y1r5
    have y3r5 := sp.old _ _ (by have := Mem.lt y1r5; omega) y2r5
    repeat' (first | exact True.intro | refine dyn_row r5 y3r5 ?_ | exact fun _ => r5 | exact fun _ => y1r5 | exact fun _ => y2r5 | exact fun _ => y3r5 | exact fun h => Bool.noConfusion h | refine And.intro ?_ ?_ | exact Or.inl (by kernel_rfl))
  show W G Tryz.prog none _ _ _ _ ((σp14.push (Blk2.row ⟨[.int .i64 0, .int .i64 0], 37, false⟩)).put σp14.next (wrow x)) _
  have nq : ((σp14.push (Blk2.row ⟨[.int .i64 0, .int .i64 0], 37, false⟩)).put σp14.next (wrow x)).next = σp14.next + 1 := rfl
  have aq : ((σp14.push (Blk2.row ⟨[.int .i64 0, .int .i64 0], 37, false⟩)).put σp14.next (wrow x)).abs = σp14.abs := rfl
  generalize (σp14.push (Blk2.row ⟨[.int .i64 0, .int .i64 0], 37, false⟩)).put σp14.next (wrow x) = σq14 at sp nq aq ⊢
  have r35 := sp.at_
  have K : ∀ b y, σp13.get b = some y → σq14.get b = some y := fun b y hy => sp.old b y (by have := Mem.lt (Gp.old b y hy); omega) (get_push_old (Gp.old b y hy))
  replace r5 := K _ _ r5
  replace r12 := K _ _ r12
  replace r14 := K _ _ r14
  replace r20 := K _ _ r20
  replace r22 := K _ _ r22
  replace r25 := K _ _ r25
  replace r27 := K _ _ r27
  replace r29 := K _ _ r29
  replace r31 := K _ _ r31
  replace gn : G ≤ σq14.next := by omega
  replace ha := aq.trans ap
  clear K
  clear sp nq aq gp Gp np hS ap
  refine W.reset [(0, .int .i64 n), (1, .int .i64 at_), (5, pp σ0.next), (7, pp σ1.next), (9, .int .i64 (i : Int)), (12, pp σp1.next), (14, pp σp2.next), (15, .int .i64 0), (17, .int .i64 16), (19, .int .i64 16), (20, pp σp6.next), (21, .int .i64 16), (22, pp σp7.next), (23, .int .i64 16), (24, .int .i64 (q : Int)), (25, pp σp8.next), (26, .int .i64 0), (27, pp σp9.next), (28, .int .i64 0), (29, pp σq9.next), (30, .int .i64 0), (31, pp σp11.next), (32, .bool false), (34, .int .i64 6), (35, pp σp14.next), (36, .int .i64 0)] ⟨rfl, rfl, rfl, rfl, rfl, rfl, rfl, rfl, rfl, rfl, rfl, rfl, rfl, rfl, rfl, rfl, rfl, rfl, rfl, rfl, rfl, rfl, rfl, rfl, rfl, rfl, trivial⟩ fun TA => ?_
  have CM := s_many (G := G) ha
  rw [M.many3] at CM
  refine W.seq ?_
  refine W.drawnS (by kernel_rfl) (by kernel_rfl) gn ?_
  refine RW.val (by kernel_rfl) (by kernel_rfl) rfl (by kernel_rfl) ?_
  refine RW.valE (v' := .bool true) (by kernel_rfl) (by kernel_rfl) rfl (congrArg Value.bool (beq_iff_eq.2 rfl)) (by kernel_rfl) ?_
  refine RW.val (by kernel_rfl) (by kernel_rfl) rfl (by kernel_rfl) ?_
  refine RW.val (by rfl) (by kernel_rfl) rfl (by kernel_rfl) ?_
  refine RW.valE (v' := .bool true) (by rfl) (by kernel_rfl) rfl (congrArg Value.bool (beq_iff_eq.2 rfl)) (by kernel_rfl) ?_
  refine RW.val (by kernel_rfl) (by kernel_rfl) rfl (by kernel_rfl) ?_
  refine RW.val (by kernel_rfl) (by kernel_rfl) rfl (by kernel_rfl) ?_
  refine RW.val (by rfl) (by kernel_rfl) rfl (by kernel_rfl) ?_
  refine RW.valE (v' := .bool true) (by rfl) (by kernel_rfl) rfl (congrArg Value.bool (beq_iff_eq.2 rfl)) (by kernel_rfl) ?_
  refine RW.val (by kernel_rfl) (by kernel_rfl) rfl (by kernel_rfl) ?_
  refine RW.val (by kernel_rfl) (by kernel_rfl) rfl (by kernel_rfl) ?_
  refine RW.val (by rfl) (by kernel_rfl) rfl (by kernel_rfl) ?_
  refine RW.valE (v' := .bool true) (by rfl) (by kernel_rfl) rfl (congrArg Value.bool (beq_iff_eq.2 rfl)) (by kernel_rfl) ?_
  refine RW.val (by kernel_rfl) (by kernel_rfl) rfl (by kernel_rfl) ?_
  refine RW.val (by kernel_rfl) (by kernel_rfl) rfl (by kernel_rfl) ?_
  refine RW.val (by rfl) (by kernel_rfl) rfl (by kernel_rfl) ?_
  refine RW.valE (v' := .bool true) (by rfl) (by kernel_rfl) rfl (congrArg Value.bool (beq_iff_eq.2 rfl)) (by kernel_rfl) ?_
  refine RW.val (by kernel_rfl) (by kernel_rfl) rfl (by kernel_rfl) ?_
  refine RW.val (by kernel_rfl) (by kernel_rfl) rfl (by kernel_rfl) ?_
  refine RW.loads 2 (by rfl) (by kernel_rfl) rfl rfl r25 rfl rfl (by kernel_rfl) ?_
  refine RW.val (by rfl) (by kernel_rfl) rfl (by kernel_rfl) ?_
  refine RW.val (by rfl) (by kernel_rfl) rfl (by kernel_rfl) ?_
  refine RW.vop (by rfl) (by kernel_rfl) (vop_fastBin rfl rfl rfl hfb) (by kernel_rfl) ?_
  refine RW.call (by rfl) (by kernel_rfl) rfl rfl rfl (by kernel_rfl) (by kernel_rfl) ⟨_, _, (s_int _), ?_⟩
  refine RW.vop (v := .bool (true)) (by rfl) (by kernel_rfl) (vop_eqS (b := true) (r := true) rfl (.inl ⟨rfl, rfl⟩) rfl rfl rfl rfl (by kernel_rfl) (fun w => (eqWd _ _ _ _ w).trans (by simp))) (by kernel_rfl) ?_
  refine RW.val (by kernel_rfl) (by kernel_rfl) rfl (by kernel_rfl) ?_
  refine RW.val (by kernel_rfl) (by kernel_rfl) rfl (by kernel_rfl) ?_
  refine RW.val (by rfl) (by kernel_rfl) rfl (by kernel_rfl) ?_
  refine RW.valE (v' := .bool true) (by rfl) (by kernel_rfl) rfl (congrArg Value.bool (beq_iff_eq.2 rfl)) (by kernel_rfl) ?_
  refine RW.val (by kernel_rfl) (by kernel_rfl) rfl (by kernel_rfl) ?_
  refine RW.val (by kernel_rfl) (by kernel_rfl) rfl (by kernel_rfl) ?_
  refine RW.loads 2 (by rfl) (by kernel_rfl) rfl rfl r29 rfl rfl (by kernel_rfl) ?_
  refine RW.loads 2 (by rfl) (by kernel_rfl) rfl rfl r25 rfl rfl (by kernel_rfl) ?_
  refine RW.vop (v := .bool (true)) (by rfl) (by kernel_rfl) (vop_eqS (b := true) (r := true) rfl (.inl ⟨rfl, rfl⟩) rfl rfl rfl rfl (by kernel_rfl) (fun w => (eqWd _ _ _ _ w).trans (by simp))) (by kernel_rfl) ?_
  refine RW.val (by kernel_rfl) (by kernel_rfl) rfl (by kernel_rfl) ?_
  refine RW.val (by kernel_rfl) (by kernel_rfl) rfl (by kernel_rfl) ?_
  refine RW.val (by rfl) (by kernel_rfl) rfl (by kernel_rfl) ?_
  refine RW.val (by rfl) (by kernel_rfl) rfl (by kernel_rfl) ?_
  refine RW.val (by kernel_rfl) (by kernel_rfl) rfl (by kernel_rfl) ?_
  refine RW.val (by kernel_rfl) (by kernel_rfl) rfl (by kernel_rfl) ?_
  refine RW.val (by rfl) (by kernel_rfl) rfl (by kernel_rfl) ?_
  refine RW.valE (v' := .bool true) (by rfl) (by kernel_rfl) rfl (congrArg Value.bool (beq_iff_eq.2 rfl)) (by kernel_rfl) ?_
  refine RW.val (by kernel_rfl) (by kernel_rfl) rfl (by kernel_rfl) ?_
  refine RW.val (by kernel_rfl) (by kernel_rfl) rfl (by kernel_rfl) ?_
  refine RW.val (by rfl) (by kernel_rfl) rfl (by kernel_rfl) ?_
  refine RW.valE (v' := .bool true) (by rfl) (by kernel_rfl) rfl (congrArg Value.bool (beq_iff_eq.2 rfl)) (by kernel_rfl) ?_
  refine RW.val (by kernel_rfl) (by kernel_rfl) rfl (by kernel_rfl) ?_
  refine RW.val (by kernel_rfl) (by kernel_rfl) rfl (by kernel_rfl) ?_
  refine RW.val (by rfl) (by kernel_rfl) rfl (by kernel_rfl) ?_
  refine RW.call (by rfl) (by kernel_rfl) rfl rfl rfl (by kernel_rfl) (by kernel_rfl) ⟨_, _, CM, ?_⟩
  refine RW.val (by rfl) (by kernel_rfl) rfl (by kernel_rfl) ?_
  refine RW.valE (v' := .bool true) (by rfl) (by kernel_rfl) rfl (congrArg Value.bool (beq_iff_eq.2 rfl)) (by kernel_rfl) ?_
  refine RW.val (by kernel_rfl) (by kernel_rfl) rfl (by kernel_rfl) ?_
  refine RW.val (by kernel_rfl) (by kernel_rfl) rfl (by kernel_rfl) ?_
  refine RW.nil ?_
  refine ⟨⟨by kernel_rfl, ?_, fun b => rfl⟩, ?_⟩
  · repeat' (first | exact True.intro | exact fun _ => rfl | exact ⟨_, r25⟩ | exact ⟨_, r29⟩ | refine And.intro ?_ ?_)
  refine W.ret ?_
  exact endG (R := fun v _ => v = Value.bool true) rfl (resL_tmp rfl) rfl
end Go.Proofs.YtehcckhdppdkcaaGreatDoor
