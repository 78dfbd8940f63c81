/-
  ListsKeep in the second memory: the whole law. Conditions: the tables of unicode/utf8 lie as laid; the arguments' rows lie there.
-/
import Derived.Test.YtehcckhdppdkcaaGreatDoorLkA
import Derived.Test.YtehcckhdppdkcaaGreatDoorLsRun
namespace Go.Proofs.YtehcckhdppdkcaaGreatDoor
open Go.RowKit
set_option maxRecDepth 100000
set_option maxHeartbeats 8000000 in
theorem keep_wc {G : Nat} {σ0 : Mem} {v1 v2 : Value} {l1 l2 : List Wd} {n : Int} (hG : G ≤ σ0.next) (a1 : AW G σ0 v1 l1) (a2 : AW G σ0 v2 l2) (hn1 : -9223372036854775808 ≤ n) (hn2 : n ≤ 9223372036854775807) (h16 : 16 ≤ G) (hR : RowsAt rowsU σ0) (hno : σ0.abs = Abs.no) :
    WC G Tryz.prog 4 #[v1, v2, .int .i64 n] σ0 fun v _ => v = .bool true := by
  refine WC.enter (fn := Tryz.f4) Tryz.func4 rfl ?_
  refine W.know 0 (x := v1) rfl (W.know 1 (x := v2) rfl (W.know 2 (x := .int .i64 n) rfl ?_))
  refine W.seq ?_
  refine W.region ?_
  refine RW.val (by kernel_rfl) (by kernel_rfl) rfl (by kernel_rfl) ?_
  refine RW.nil ?_
  refine W.seq ?_
  refine W.seq ?_
  refine W.region ?_
  refine RW.call (by kernel_rfl) (by kernel_rfl) rfl rfl rfl (by kernel_rfl) (by kernel_rfl) ⟨_, _, (s_lives h16 σ0 hR), ?_⟩
  refine RW.val (by kernel_rfl) (by kernel_rfl) rfl (by kernel_rfl) ?_
  refine RW.nil ?_
  refine W.cond (b := false) rfl (fun h => by cases h) (fun _ => ?_)
  refine W.skip ?_
  refine W.seq ?_
  refine W.seq ?_
  refine W.region ?_
  refine RW.val (by kernel_rfl) (by kernel_rfl) rfl (by kernel_rfl) ?_
  refine RW.len (by kernel_rfl) (by kernel_rfl) rfl rfl rfl rfl a1.vw.len (by kernel_rfl) ?_
  by_cases hl1 : 60 < l1.length
  · refine RW.valE (v' := .bool true) (by kernel_rfl) (by kernel_rfl) rfl (congrArg Value.bool (decide_eq_true (by omega))) (by kernel_rfl) ?_
    refine RW.val (by kernel_rfl) (by kernel_rfl) rfl (by kernel_rfl) ?_
    refine RW.skip (by rfl) (by kernel_rfl) ?_
    refine RW.skip (by rfl) (by kernel_rfl) ?_
    refine RW.skip (by rfl) (by kernel_rfl) ?_
    refine RW.val (by kernel_rfl) (by kernel_rfl) rfl (by kernel_rfl) ?_
    refine RW.nil ?_
    refine W.cond (b := true) rfl (fun _ => ?_) (fun h => by cases h)
    refine W.seq ?_
    refine W.region ?_
    refine RW.val (by kernel_rfl) (by kernel_rfl) rfl (by kernel_rfl) ?_
    refine RW.nil ?_
    refine W.ret ?_
    exact endG (R := fun v _ => v = Value.bool true) rfl (resL_tmp rfl) rfl
  refine RW.valE (v' := .bool false) (by kernel_rfl) (by kernel_rfl) rfl (congrArg Value.bool (decide_eq_false (by omega))) (by kernel_rfl) ?_
  refine RW.val (by kernel_rfl) (by kernel_rfl) rfl (by kernel_rfl) ?_
  refine RW.val (by rfl) (by kernel_rfl) rfl (by kernel_rfl) ?_
  refine RW.len (by rfl) (by kernel_rfl) rfl rfl rfl rfl a2.vw.len (by kernel_rfl) ?_
  by_cases hl2 : 60 < l2.length
  · refine RW.valE (v' := .bool true) (by rfl) (by kernel_rfl) rfl (congrArg Value.bool (decide_eq_true (by omega))) (by kernel_rfl) ?_
    refine RW.val (by kernel_rfl) (by kernel_rfl) rfl (by kernel_rfl) ?_
    refine RW.nil ?_
    refine W.cond (b := true) rfl (fun _ => ?_) (fun h => by cases h)
    refine W.seq ?_
    refine W.region ?_
    refine RW.val (by kernel_rfl) (by kernel_rfl) rfl (by kernel_rfl) ?_
    refine RW.nil ?_
    refine W.ret ?_
    exact endG (R := fun v _ => v = Value.bool true) rfl (resL_tmp rfl) rfl
  refine RW.valE (v' := .bool false) (by rfl) (by kernel_rfl) rfl (congrArg Value.bool (decide_eq_false (by omega))) (by kernel_rfl) ?_
  refine RW.val (by kernel_rfl) (by kernel_rfl) rfl (by kernel_rfl) ?_
  refine RW.nil ?_
  refine W.cond (b := false) rfl (fun h => by cases h) (fun _ => ?_)
  refine W.skip ?_
  obtain ⟨m1, m2, m3, m4, m5, a, b, r, rr, bo, cA, cR, cRR, cO, M⟩ := mods l1 l2
  obtain ⟨li1, li2, li3, li4, li5⟩ := M.lim
  obtain ⟨fr1, fr2, fr3, fr4⟩ := M.free
  obtain ⟨mn1, mn2, mn3, mn4⟩ := M.many
  have CN := s_new (G := G) (σ := σ0) 400 (by decide) (by decide) hno
  refine W.reset [(0, v1), (1, v2), (2, .int .i64 n)] ⟨rfl, rfl, rfl, trivial⟩ fun TA => ?_
  refine W.seq ?_
  refine W.region ?_
  refine RW.call (by kernel_rfl) (by kernel_rfl) rfl rfl rfl (by kernel_rfl) (by kernel_rfl) ⟨_, _, CN, ?_⟩
  refine RW.val (by kernel_rfl) (by kernel_rfl) rfl (by kernel_rfl) ?_
  refine RW.val (by kernel_rfl) (by kernel_rfl) rfl (by kernel_rfl) ?_
  refine RW.val (by kernel_rfl) (by kernel_rfl) rfl (by kernel_rfl) ?_
  refine RW.val (by kernel_rfl) (by kernel_rfl) rfl (by kernel_rfl) ?_
  refine RW.val (by kernel_rfl) (by kernel_rfl) rfl (by kernel_rfl) ?_
  obtain ⟨σa, hσa⟩ : ∃ s, s = σ0.made 400 := ⟨_, rfl⟩
  rw [← hσa]
  have na : σa.next = σ0.next + 1 := by rw [hσa]; rfl
  have ha : σa.abs = heapAbs σ0.next (hm0 400) := by rw [hσa]; rfl
  have gn : G ≤ σa.next := by omega
  have vl := a1.vw
  have vm := a2.vw
  have K : ∀ b y, σ0.get b = some y → σa.get b = some y := fun b y hy => by rw [hσa, made_get]; exact hy
  replace vl := vl.old K
  replace vm := vm.old K
  have KK := K
  clear K hσa CN
  refine RW.nil ?_
  refine W.reset [(0, v1), (1, v2), (2, .int .i64 n), (7, pp σ0.next)] ⟨rfl, rfl, rfl, rfl, trivial⟩ fun TA => ?_
  refine W.seq ?_
  refine W.region ?_
  refine RW.val (by kernel_rfl) (by kernel_rfl) rfl (by kernel_rfl) ?_
  refine RW.val (by kernel_rfl) (by kernel_rfl) rfl (by kernel_rfl) ?_
  refine RW.call (by kernel_rfl) (by kernel_rfl) rfl rfl rfl (by kernel_rfl) (by kernel_rfl) ((make_wc (l := l1) gn ha rfl (by rw [hm0_many]; show 0 + l1.length ≤ 400; omega) (by decide) (by decide) vl.at_ a1.one vl.len).mono ?_)
  intro _ σp1 H
  obtain ⟨rfl, Gp, ap⟩ := H.is M.e1
  clear H
  have np := Gp.nx
  refine RW.val (by kernel_rfl) (by kernel_rfl) rfl (by kernel_rfl) ?_
  refine RW.val (by kernel_rfl) (by kernel_rfl) rfl (by kernel_rfl) ?_
  refine RW.val (by kernel_rfl) (by kernel_rfl) rfl (by kernel_rfl) ?_
  refine RW.varS (d := 9) (r0 := ⟨[.int .i64 0, .int .i64 0], 37, false⟩) (vs := #[.int .i64 a.1, .int .i64 a.2]) (by kernel_rfl) (by kernel_rfl) (by kernel_rfl) rfl (by kernel_rfl) rfl (by kernel_rfl) rfl rfl rfl rfl (by kernel_rfl) rfl (by omega) ?_
  intro σq1 _ r9 oq nq aq
  replace KK : ∀ b y, σ0.get b = some y → σq1.get b = some y := fun b y hy => (fun b y hy => oq b y (Gp.old b y hy)) b y (KK b y hy)
  have K : ∀ b y, σa.get b = some y → σq1.get b = some y := fun b y hy => oq b y (Gp.old b y hy)
  replace vl := vl.old K
  replace vm := vm.old K
  replace gn : G ≤ σq1.next := by omega
  replace ha := aq.trans ap
  clear K
  clear oq nq aq Gp ap np
  refine RW.val (by kernel_rfl) (by kernel_rfl) rfl (by kernel_rfl) ?_
  refine RW.nil ?_
  refine W.reset [(0, v1), (1, v2), (2, .int .i64 n), (7, pp σ0.next), (9, pp σp1.next), (10, .int .i64 0)] ⟨rfl, rfl, rfl, rfl, rfl, rfl, trivial⟩ fun TA => ?_
  refine W.seq ?_
  refine W.region ?_
  refine RW.val (by kernel_rfl) (by kernel_rfl) rfl (by kernel_rfl) ?_
  refine RW.val (by kernel_rfl) (by kernel_rfl) rfl (by kernel_rfl) ?_
  refine RW.call (by kernel_rfl) (by kernel_rfl) rfl rfl rfl (by kernel_rfl) (by kernel_rfl) ((make_wc (l := l2) gn ha fr1 (by omega) (by omega) (by omega) vm.at_ a2.one vm.len).mono ?_)
  intro _ σp2 H
  obtain ⟨rfl, Gp, ap⟩ := H.is M.e2
  clear H
  have np := Gp.nx
  refine RW.val (by kernel_rfl) (by kernel_rfl) rfl (by kernel_rfl) ?_
  refine RW.val (by kernel_rfl) (by kernel_rfl) rfl (by kernel_rfl) ?_
  refine RW.val (by kernel_rfl) (by kernel_rfl) rfl (by kernel_rfl) ?_
  refine RW.varS (d := 11) (r0 := ⟨[.int .i64 0, .int .i64 0], 37, false⟩) (vs := #[.int .i64 b.1, .int .i64 b.2]) (by kernel_rfl) (by kernel_rfl) (by kernel_rfl) rfl (by kernel_rfl) rfl (by kernel_rfl) rfl rfl rfl rfl (by kernel_rfl) rfl (by omega) ?_
  intro σq2 _ r11 oq nq aq
  replace KK : ∀ b y, σ0.get b = some y → σq2.get b = some y := fun b y hy => (fun b y hy => oq b y (Gp.old b y hy)) b y (KK b y hy)
  have K : ∀ b y, σq1.get b = some y → σq2.get b = some y := fun b y hy => oq b y (Gp.old b y hy)
  replace r9 := K _ _ r9
  replace vl := vl.old K
  replace vm := vm.old K
  replace gn : G ≤ σq2.next := by omega
  replace ha := aq.trans ap
  clear K
  clear oq nq aq Gp ap np
  refine RW.val (by kernel_rfl) (by kernel_rfl) rfl (by kernel_rfl) ?_
  refine RW.nil ?_
  refine W.reset [(0, v1), (1, v2), (2, .int .i64 n), (7, pp σ0.next), (9, pp σp1.next), (10, .int .i64 0), (11, pp σp2.next), (12, .int .i64 0)] ⟨rfl, rfl, rfl, rfl, rfl, rfl, rfl, rfl, trivial⟩ fun TA => ?_
  refine W.seq ?_
  refine W.region ?_
  refine RW.val (by kernel_rfl) (by kernel_rfl) rfl (by kernel_rfl) ?_
  refine RW.loads 2 (by kernel_rfl) (by kernel_rfl) rfl rfl r9 rfl rfl (by kernel_rfl) ?_
  refine RW.call (by kernel_rfl) (by kernel_rfl) rfl rfl rfl (by kernel_rfl) (by kernel_rfl) ((reverse_c (c := cA) (l := l1) M.zA rfl gn ha fr2 (by omega) (by omega) (by omega) M.a2 (by omega)).mono ?_)
  intro _ σp3 H
  obtain ⟨rfl, Gp, ap⟩ := H.is M.e3
  clear H
  have np := Gp.nx
  refine RW.val (by kernel_rfl) (by kernel_rfl) rfl (by kernel_rfl) ?_
  refine RW.val (by kernel_rfl) (by kernel_rfl) rfl (by kernel_rfl) ?_
  refine RW.val (by kernel_rfl) (by kernel_rfl) rfl (by kernel_rfl) ?_
  refine RW.varS (d := 13) (r0 := ⟨[.int .i64 0, .int .i64 0], 37, false⟩) (vs := #[.int .i64 r.1, .int .i64 r.2]) (by kernel_rfl) (by kernel_rfl) (by kernel_rfl) rfl (by kernel_rfl) rfl (by kernel_rfl) rfl rfl rfl rfl (by kernel_rfl) rfl (by omega) ?_
  intro σq3 _ r13 oq nq aq
  replace KK : ∀ b y, σ0.get b = some y → σq3.get b = some y := fun b y hy => (fun b y hy => oq b y (Gp.old b y hy)) b y (KK b y hy)
  have K : ∀ b y, σq2.get b = some y → σq3.get b = some y := fun b y hy => oq b y (Gp.old b y hy)
  replace r9 := K _ _ r9
  replace r11 := K _ _ r11
  replace vl := vl.old K
  replace vm := vm.old K
  replace gn : G ≤ σq3.next := by omega
  replace ha := aq.trans ap
  clear K
  clear oq nq aq Gp ap np
  refine RW.val (by kernel_rfl) (by kernel_rfl) rfl (by kernel_rfl) ?_
  refine RW.nil ?_
  refine W.reset [(0, v1), (1, v2), (2, .int .i64 n), (7, pp σ0.next), (9, pp σp1.next), (10, .int .i64 0), (11, pp σp2.next), (12, .int .i64 0), (13, pp σp3.next), (14, .int .i64 0)] ⟨rfl, rfl, rfl, rfl, rfl, rfl, rfl, rfl, rfl, rfl, trivial⟩ fun TA => ?_
  refine W.seq ?_
  refine W.region ?_
  refine RW.val (by kernel_rfl) (by kernel_rfl) rfl (by kernel_rfl) ?_
  refine RW.loads 2 (by kernel_rfl) (by kernel_rfl) rfl rfl r13 rfl rfl (by kernel_rfl) ?_
  refine RW.call (by kernel_rfl) (by kernel_rfl) rfl rfl rfl (by kernel_rfl) (by kernel_rfl) ((reverse_c (c := cR) (l := l1.reverse) M.zR (List.reverse_reverse l1) gn ha fr3 (by rw [List.length_reverse]; omega) (by omega) (by omega) M.r3 (by rw [List.length_reverse]; omega)).mono ?_)
  intro _ σp4 H
  obtain ⟨rfl, Gp, ap⟩ := H.is M.e4
  clear H
  have np := Gp.nx
  refine RW.val (by kernel_rfl) (by kernel_rfl) rfl (by kernel_rfl) ?_
  refine RW.val (by kernel_rfl) (by kernel_rfl) rfl (by kernel_rfl) ?_
  refine RW.val (by kernel_rfl) (by kernel_rfl) rfl (by kernel_rfl) ?_
  refine RW.varS (d := 15) (r0 := ⟨[.int .i64 0, .int .i64 0], 37, false⟩) (vs := #[.int .i64 rr.1, .int .i64 rr.2]) (by kernel_rfl) (by kernel_rfl) (by kernel_rfl) rfl (by kernel_rfl) rfl (by kernel_rfl) rfl rfl rfl rfl (by kernel_rfl) rfl (by omega) ?_
  intro σq4 _ r15 oq nq aq
  replace KK : ∀ b y, σ0.get b = some y → σq4.get b = some y := fun b y hy => (fun b y hy => oq b y (Gp.old b y hy)) b y (KK b y hy)
  have K : ∀ b y, σq3.get b = some y → σq4.get b = some y := fun b y hy => oq b y (Gp.old b y hy)
  replace r9 := K _ _ r9
  replace r11 := K _ _ r11
  replace r13 := K _ _ r13
  replace vl := vl.old K
  replace vm := vm.old K
  replace gn : G ≤ σq4.next := by omega
  replace ha := aq.trans ap
  clear K
  clear oq nq aq Gp ap np
  refine RW.val (by kernel_rfl) (by kernel_rfl) rfl (by kernel_rfl) ?_
  refine RW.nil ?_
  refine W.reset [(0, v1), (1, v2), (2, .int .i64 n), (7, pp σ0.next), (9, pp σp1.next), (10, .int .i64 0), (11, pp σp2.next), (12, .int .i64 0), (13, pp σp3.next), (14, .int .i64 0), (15, pp σp4.next), (16, .int .i64 0)] ⟨rfl, rfl, rfl, rfl, rfl, rfl, rfl, rfl, rfl, rfl, rfl, rfl, trivial⟩ fun TA => ?_
  refine W.seq ?_
  refine W.region ?_
  refine RW.val (by kernel_rfl) (by kernel_rfl) rfl (by kernel_rfl) ?_
  refine RW.loads 2 (by kernel_rfl) (by kernel_rfl) rfl rfl r9 rfl rfl (by kernel_rfl) ?_
  refine RW.loads 2 (by kernel_rfl) (by kernel_rfl) rfl rfl r11 rfl rfl (by kernel_rfl) ?_
  refine RW.call (by kernel_rfl) (by kernel_rfl) rfl rfl rfl (by kernel_rfl) (by kernel_rfl) ((append_c (c := cA) (l := l1) b M.zA gn ha fr4 (by omega) (by omega) (by omega) M.a4 (by omega)).mono ?_)
  intro _ σp5 H
  obtain ⟨rfl, Gp, ap⟩ := H.is M.e5
  clear H
  have np := Gp.nx
  refine RW.val (by kernel_rfl) (by kernel_rfl) rfl (by kernel_rfl) ?_
  refine RW.val (by kernel_rfl) (by kernel_rfl) rfl (by kernel_rfl) ?_
  refine RW.val (by kernel_rfl) (by kernel_rfl) rfl (by kernel_rfl) ?_
  refine RW.varS (d := 17) (r0 := ⟨[.int .i64 0, .int .i64 0], 37, false⟩) (vs := #[.int .i64 bo.1, .int .i64 bo.2]) (by kernel_rfl) (by kernel_rfl) (by kernel_rfl) rfl (by kernel_rfl) rfl (by kernel_rfl) rfl rfl rfl rfl (by kernel_rfl) rfl (by omega) ?_
  intro σq5 _ r17 oq nq aq
  replace KK : ∀ b y, σ0.get b = some y → σq5.get b = some y := fun b y hy => (fun b y hy => oq b y (Gp.old b y hy)) b y (KK b y hy)
  have K : ∀ b y, σq4.get b = some y → σq5.get b = some y := fun b y hy => oq b y (Gp.old b y hy)
  replace r9 := K _ _ r9
  replace r11 := K _ _ r11
  replace r13 := K _ _ r13
  replace r15 := K _ _ r15
  replace vl := vl.old K
  replace vm := vm.old K
  replace gn : G ≤ σq5.next := by omega
  replace ha := aq.trans ap
  clear K
  clear oq nq aq Gp ap np
  refine RW.val (by kernel_rfl) (by kernel_rfl) rfl (by kernel_rfl) ?_
  refine RW.nil ?_
  refine W.reset [(0, v1), (1, v2), (2, .int .i64 n), (7, pp σ0.next), (9, pp σp1.next), (10, .int .i64 0), (11, pp σp2.next), (12, .int .i64 0), (13, pp σp3.next), (14, .int .i64 0), (15, pp σp4.next), (16, .int .i64 0), (17, pp σp5.next), (18, .int .i64 0)] ⟨rfl, rfl, rfl, rfl, rfl, rfl, rfl, rfl, rfl, rfl, rfl, rfl, rfl, rfl, trivial⟩ fun TA => ?_
  refine W.seq ?_
  refine W.region ?_
  refine RW.val (by kernel_rfl) (by kernel_rfl) rfl (by kernel_rfl) ?_
  refine RW.loads 2 (by kernel_rfl) (by kernel_rfl) rfl rfl r9 rfl rfl (by kernel_rfl) ?_
  refine RW.call (by kernel_rfl) (by kernel_rfl) rfl rfl rfl (by kernel_rfl) (by kernel_rfl) ((slice_c (c := cA) (l := l1) M.zA gn ha (by omega) M.a5 (by omega)).mono ?_)
  rintro _ σp6 ⟨Gp, svx, rfl, vx⟩
  have np := Gp.nx
  refine RW.val (by kernel_rfl) (by kernel_rfl) rfl (by kernel_rfl) ?_
  refine RW.val (by kernel_rfl) (by kernel_rfl) rfl (by kernel_rfl) ?_
  refine RW.val (by kernel_rfl) (by kernel_rfl) rfl (by kernel_rfl) ?_
  refine RW.val (by kernel_rfl) (by kernel_rfl) rfl (by kernel_rfl) ?_
  refine RW.val (by kernel_rfl) (by kernel_rfl) rfl (by kernel_rfl) ?_
  replace KK : ∀ b y, σ0.get b = some y → σp6.get b = some y := fun b y hy => (Gp.old) b y (KK b y hy)
  have K : ∀ b y, σq5.get b = some y → σp6.get b = some y := Gp.old
  replace r9 := K _ _ r9
  replace r11 := K _ _ r11
  replace r13 := K _ _ r13
  replace r15 := K _ _ r15
  replace r17 := K _ _ r17
  replace vl := vl.old K
  replace vm := vm.old K
  replace gn : G ≤ σp6.next := by omega
  replace ha := Gp.abs.trans ha
  clear K
  clear Gp np
  refine RW.nil ?_
  refine W.reset [(0, v1), (1, v2), (2, .int .i64 n), (7, pp σ0.next), (9, pp σp1.next), (10, .int .i64 0), (11, pp σp2.next), (12, .int .i64 0), (13, pp σp3.next), (14, .int .i64 0), (15, pp σp4.next), (16, .int .i64 0), (17, pp σp5.next), (18, .int .i64 0), (19, svx), (20, .int .i64 0)] ⟨rfl, rfl, rfl, rfl, rfl, rfl, rfl, rfl, rfl, rfl, rfl, rfl, rfl, rfl, rfl, rfl, trivial⟩ fun TA => ?_
  refine W.seq ?_
  refine W.region ?_
  refine RW.val (by kernel_rfl) (by kernel_rfl) rfl (by kernel_rfl) ?_
  refine RW.loads 2 (by kernel_rfl) (by kernel_rfl) rfl rfl r15 rfl rfl (by kernel_rfl) ?_
  refine RW.call (by kernel_rfl) (by kernel_rfl) rfl rfl rfl (by kernel_rfl) (by kernel_rfl) ((slice_c (c := cRR) (l := l1) M.zRR gn ha (by omega) M.rr5 (by omega)).mono ?_)
  rintro _ σp7 ⟨Gp, svy, rfl, vy⟩
  have np := Gp.nx
  refine RW.val (by kernel_rfl) (by kernel_rfl) rfl (by kernel_rfl) ?_
  refine RW.val (by kernel_rfl) (by kernel_rfl) rfl (by kernel_rfl) ?_
  refine RW.val (by kernel_rfl) (by kernel_rfl) rfl (by kernel_rfl) ?_
  refine RW.val (by kernel_rfl) (by kernel_rfl) rfl (by kernel_rfl) ?_
  refine RW.val (by kernel_rfl) (by kernel_rfl) rfl (by kernel_rfl) ?_
  replace KK : ∀ b y, σ0.get b = some y → σp7.get b = some y := fun b y hy => (Gp.old) b y (KK b y hy)
  have K : ∀ b y, σp6.get b = some y → σp7.get b = some y := Gp.old
  replace r9 := K _ _ r9
  replace r11 := K _ _ r11
  replace r13 := K _ _ r13
  replace r15 := K _ _ r15
  replace r17 := K _ _ r17
  replace vl := vl.old K
  replace vm := vm.old K
  replace vx := vx.old K
  replace gn : G ≤ σp7.next := by omega
  replace ha := Gp.abs.trans ha
  clear K
  clear Gp np
  refine RW.nil ?_
  refine W.reset [(0, v1), (1, v2), (2, .int .i64 n), (7, pp σ0.next), (9, pp σp1.next), (10, .int .i64 0), (11, pp σp2.next), (12, .int .i64 0), (13, pp σp3.next), (14, .int .i64 0), (15, pp σp4.next), (16, .int .i64 0), (17, pp σp5.next), (18, .int .i64 0), (19, svx), (20, .int .i64 0), (21, svy), (22, .int .i64 0)] ⟨rfl, rfl, rfl, rfl, rfl, rfl, rfl, rfl, rfl, rfl, rfl, rfl, rfl, rfl, rfl, rfl, rfl, rfl, trivial⟩ fun TA => ?_
  refine W.seq ?_
  refine W.region ?_
  refine RW.val (by kernel_rfl) (by kernel_rfl) rfl (by kernel_rfl) ?_
  refine RW.loads 2 (by kernel_rfl) (by kernel_rfl) rfl rfl r17 rfl rfl (by kernel_rfl) ?_
  refine RW.call (by kernel_rfl) (by kernel_rfl) rfl rfl rfl (by kernel_rfl) (by kernel_rfl) ((slice_c (c := cO) (l := l1 ++ l2) M.zO gn ha (by omega) M.o5 (by rw [List.length_append]; omega)).mono ?_)
  rintro _ σp8 ⟨Gp, svz, rfl, vz⟩
  have np := Gp.nx
  refine RW.val (by kernel_rfl) (by kernel_rfl) rfl (by kernel_rfl) ?_
  refine RW.val (by kernel_rfl) (by kernel_rfl) rfl (by kernel_rfl) ?_
  refine RW.val (by kernel_rfl) (by kernel_rfl) rfl (by kernel_rfl) ?_
  refine RW.val (by kernel_rfl) (by kernel_rfl) rfl (by kernel_rfl) ?_
  refine RW.val (by kernel_rfl) (by kernel_rfl) rfl (by kernel_rfl) ?_
  replace KK : ∀ b y, σ0.get b = some y → σp8.get b = some y := fun b y hy => (Gp.old) b y (KK b y hy)
  have K : ∀ b y, σp7.get b = some y → σp8.get b = some y := Gp.old
  replace r9 := K _ _ r9
  replace r11 := K _ _ r11
  replace r13 := K _ _ r13
  replace r15 := K _ _ r15
  replace r17 := K _ _ r17
  replace vl := vl.old K
  replace vm := vm.old K
  replace vx := vx.old K
  replace vy := vy.old K
  replace gn : G ≤ σp8.next := by omega
  replace ha := Gp.abs.trans ha
  clear K
  clear Gp np
  refine RW.nil ?_
  refine W.reset [(0, v1), (1, v2), (2, .int .i64 n), (7, pp σ0.next), (9, pp σp1.next), (10, .int .i64 0), (11, pp σp2.next), (12, .int .i64 0), (13, pp σp3.next), (14, .int .i64 0), (15, pp σp4.next), (16, .int .i64 0), (17, pp σp5.next), (18, .int .i64 0), (19, svx), (20, .int .i64 0), (21, svy), (22, .int .i64 0), (23, svz), (24, .int .i64 0)] ⟨rfl, rfl, rfl, rfl, rfl, rfl, rfl, rfl, rfl, rfl, rfl, rfl, rfl, rfl, rfl, rfl, rfl, rfl, rfl, rfl, trivial⟩ fun TA => ?_
  refine W.seq ?_
  refine W.region ?_
  refine RW.val (by kernel_rfl) (by kernel_rfl) rfl (by kernel_rfl) ?_
  refine RW.loads 2 (by kernel_rfl) (by kernel_rfl) rfl rfl r13 rfl rfl (by kernel_rfl) ?_
  refine RW.call (by kernel_rfl) (by kernel_rfl) rfl rfl rfl (by kernel_rfl) (by kernel_rfl) ((slice_c (c := cR) (l := l1.reverse) M.zR gn ha (by omega) M.r5 (by rw [List.length_reverse]; omega)).mono ?_)
  rintro _ σp9 ⟨Gp, svb, rfl, vb⟩
  have np := Gp.nx
  refine RW.val (by kernel_rfl) (by kernel_rfl) rfl (by kernel_rfl) ?_
  refine RW.val (by kernel_rfl) (by kernel_rfl) rfl (by kernel_rfl) ?_
  refine RW.val (by kernel_rfl) (by kernel_rfl) rfl (by kernel_rfl) ?_
  refine RW.val (by kernel_rfl) (by kernel_rfl) rfl (by kernel_rfl) ?_
  refine RW.val (by kernel_rfl) (by kernel_rfl) rfl (by kernel_rfl) ?_
  replace KK : ∀ b y, σ0.get b = some y → σp9.get b = some y := fun b y hy => (Gp.old) b y (KK b y hy)
  have K : ∀ b y, σp8.get b = some y → σp9.get b = some y := Gp.old
  replace r9 := K _ _ r9
  replace r11 := K _ _ r11
  replace r13 := K _ _ r13
  replace r15 := K _ _ r15
  replace r17 := K _ _ r17
  replace vl := vl.old K
  replace vm := vm.old K
  replace vx := vx.old K
  replace vy := vy.old K
  replace vz := vz.old K
  replace gn : G ≤ σp9.next := by omega
  replace ha := Gp.abs.trans ha
  clear K
  clear Gp np
  refine RW.nil ?_
  refine W.reset [(0, v1), (1, v2), (2, .int .i64 n), (7, pp σ0.next), (9, pp σp1.next), (10, .int .i64 0), (11, pp σp2.next), (12, .int .i64 0), (13, pp σp3.next), (14, .int .i64 0), (15, pp σp4.next), (16, .int .i64 0), (17, pp σp5.next), (18, .int .i64 0), (19, svx), (20, .int .i64 0), (21, svy), (22, .int .i64 0), (23, svz), (24, .int .i64 0), (25, svb), (26, .int .i64 0)] ⟨rfl, rfl, rfl, rfl, rfl, rfl, rfl, rfl, rfl, rfl, rfl, rfl, rfl, rfl, rfl, rfl, rfl, rfl, rfl, rfl, rfl, rfl, trivial⟩ fun TA => ?_
  obtain ⟨k, hk⟩ : ∃ k : Nat, pickOf n ((l1.length : Int) + 1) = (k : Int) := ⟨_, (Int.toNat_of_nonneg (pick_range n _ (by omega)).1).symm⟩
  have hkl : k ≤ l1.length := by have := (pick_range n ((l1.length : Int) + 1) (by omega)).2; omega
  refine W.seq ?_
  refine W.region ?_
  refine RW.val (by kernel_rfl) (by kernel_rfl) rfl (by kernel_rfl) ?_
  refine RW.val (by kernel_rfl) (by kernel_rfl) rfl (by kernel_rfl) ?_
  refine RW.len (by kernel_rfl) (by kernel_rfl) rfl rfl rfl rfl vl.len (by kernel_rfl) ?_
  refine RW.valE (by kernel_rfl) (by kernel_rfl) rfl (congrArg (Value.int .i64) (wrap_in (by omega) (by omega))) (by kernel_rfl) ?_
  have CP := s_pick (G := G) (σ := σp9) n ((l1.length : Int) + 1) hn1 hn2 (by omega) (by omega)
  rw [hk] at CP
  refine RW.call (by kernel_rfl) (by kernel_rfl) rfl rfl rfl (by kernel_rfl) (by kernel_rfl) ⟨_, _, CP, ?_⟩
  refine RW.val (by kernel_rfl) (by kernel_rfl) rfl (by kernel_rfl) ?_
  clear CP
  refine RW.nil ?_
  refine W.reset [(0, v1), (1, v2), (2, .int .i64 n), (7, pp σ0.next), (9, pp σp1.next), (10, .int .i64 0), (11, pp σp2.next), (12, .int .i64 0), (13, pp σp3.next), (14, .int .i64 0), (15, pp σp4.next), (16, .int .i64 0), (17, pp σp5.next), (18, .int .i64 0), (19, svx), (20, .int .i64 0), (21, svy), (22, .int .i64 0), (23, svz), (24, .int .i64 0), (25, svb), (26, .int .i64 0), (27, .int .i64 (k : Int))] ⟨rfl, rfl, rfl, rfl, rfl, rfl, rfl, rfl, rfl, rfl, rfl, rfl, rfl, rfl, rfl, rfl, rfl, rfl, rfl, rfl, rfl, rfl, rfl, trivial⟩ fun TA => ?_
  refine W.seq ?_
  refine W.region ?_
  refine RW.val (by kernel_rfl) (by kernel_rfl) rfl (by kernel_rfl) ?_
  refine RW.loads 2 (by kernel_rfl) (by kernel_rfl) rfl rfl r17 rfl rfl (by kernel_rfl) ?_
  refine RW.val (by kernel_rfl) (by kernel_rfl) rfl (by kernel_rfl) ?_
  refine RW.call (by kernel_rfl) (by kernel_rfl) rfl rfl rfl (by kernel_rfl) (by kernel_rfl) ((tail_c (c := cO) (l := l1 ++ l2) (k := k) M.zO gn ha (by omega) M.o5 (by rw [List.length_append]; omega) (by rw [List.length_append]; omega)).mono ?_)
  rintro _ σp10 ⟨rfl, Gp⟩
  have np := Gp.nx
  refine RW.val (by kernel_rfl) (by kernel_rfl) rfl (by kernel_rfl) ?_
  refine RW.val (by kernel_rfl) (by kernel_rfl) rfl (by kernel_rfl) ?_
  refine RW.val (by kernel_rfl) (by kernel_rfl) rfl (by kernel_rfl) ?_
  refine RW.varS (d := 28) (r0 := ⟨[.int .i64 0, .int .i64 0], 37, false⟩) (vs := #[.int .i64 (cO k).1, .int .i64 (cO k).2]) (by kernel_rfl) (by kernel_rfl) (by kernel_rfl) rfl (by kernel_rfl) rfl (by kernel_rfl) rfl rfl rfl rfl (by kernel_rfl) rfl (by omega) ?_
  intro σq10 _ r28 oq nq aq
  replace KK : ∀ b y, σ0.get b = some y → σq10.get b = some y := fun b y hy => (fun b y hy => oq b y (Gp.old b y hy)) b y (KK b y hy)
  have K : ∀ b y, σp9.get b = some y → σq10.get b = some y := fun b y hy => oq b y (Gp.old b y hy)
  replace r9 := K _ _ r9
  replace r11 := K _ _ r11
  replace r13 := K _ _ r13
  replace r15 := K _ _ r15
  replace r17 := K _ _ r17
  replace vl := vl.old K
  replace vm := vm.old K
  replace vx := vx.old K
  replace vy := vy.old K
  replace vz := vz.old K
  replace vb := vb.old K
  replace gn : G ≤ σq10.next := by omega
  replace ha := aq.trans (Gp.abs.trans ha)
  clear K
  clear oq nq aq Gp np
  refine RW.val (by kernel_rfl) (by kernel_rfl) rfl (by kernel_rfl) ?_
  refine RW.nil ?_
  refine W.reset [(0, v1), (1, v2), (2, .int .i64 n), (7, pp σ0.next), (9, pp σp1.next), (10, .int .i64 0), (11, pp σp2.next), (12, .int .i64 0), (13, pp σp3.next), (14, .int .i64 0), (15, pp σp4.next), (16, .int .i64 0), (17, pp σp5.next), (18, .int .i64 0), (19, svx), (20, .int .i64 0), (21, svy), (22, .int .i64 0), (23, svz), (24, .int .i64 0), (25, svb), (26, .int .i64 0), (27, .int .i64 (k : Int)), (28, pp σp10.next), (29, .int .i64 0)] ⟨rfl, rfl, rfl, rfl, rfl, rfl, rfl, rfl, rfl, rfl, rfl, rfl, rfl, rfl, rfl, rfl, rfl, rfl, rfl, rfl, rfl, rfl, rfl, rfl, rfl, trivial⟩ fun TA => ?_
  refine W.seq ?_
  refine W.region ?_
  refine RW.val (by kernel_rfl) (by kernel_rfl) rfl (by kernel_rfl) ?_
  refine RW.loads 2 (by kernel_rfl) (by kernel_rfl) rfl rfl r28 rfl rfl (by kernel_rfl) ?_
  refine RW.call (by kernel_rfl) (by kernel_rfl) rfl rfl rfl (by kernel_rfl) (by kernel_rfl) ((slice_c (c := fun j => cO (k + j)) (l := (l1 ++ l2).drop k) rfl gn ha (by omega) (M.o5.drop (by rw [List.length_append]; omega)) (by rw [List.length_drop, List.length_append]; omega)).mono ?_)
  rintro _ σp11 ⟨Gp, svr, rfl, vr⟩
  have np := Gp.nx
  refine RW.val (by kernel_rfl) (by kernel_rfl) rfl (by kernel_rfl) ?_
  refine RW.val (by kernel_rfl) (by kernel_rfl) rfl (by kernel_rfl) ?_
  refine RW.val (by kernel_rfl) (by kernel_rfl) rfl (by kernel_rfl) ?_
  refine RW.val (by kernel_rfl) (by kernel_rfl) rfl (by kernel_rfl) ?_
  refine RW.val (by kernel_rfl) (by kernel_rfl) rfl (by kernel_rfl) ?_
  replace KK : ∀ b y, σ0.get b = some y → σp11.get b = some y := fun b y hy => (Gp.old) b y (KK b y hy)
  have K : ∀ b y, σq10.get b = some y → σp11.get b = some y := Gp.old
  replace r9 := K _ _ r9
  replace r11 := K _ _ r11
  replace r13 := K _ _ r13
  replace r15 := K _ _ r15
  replace r17 := K _ _ r17
  replace r28 := K _ _ r28
  replace vl := vl.old K
  replace vm := vm.old K
  replace vx := vx.old K
  replace vy := vy.old K
  replace vz := vz.old K
  replace vb := vb.old K
  replace gn : G ≤ σp11.next := by omega
  replace ha := Gp.abs.trans ha
  clear K
  clear Gp np
  refine RW.nil ?_
  refine W.reset [(0, v1), (1, v2), (2, .int .i64 n), (7, pp σ0.next), (9, pp σp1.next), (10, .int .i64 0), (11, pp σp2.next), (12, .int .i64 0), (13, pp σp3.next), (14, .int .i64 0), (15, pp σp4.next), (16, .int .i64 0), (17, pp σp5.next), (18, .int .i64 0), (19, svx), (20, .int .i64 0), (21, svy), (22, .int .i64 0), (23, svz), (24, .int .i64 0), (25, svb), (26, .int .i64 0), (27, .int .i64 (k : Int)), (28, pp σp10.next), (29, .int .i64 0), (30, svr), (31, .int .i64 0)] ⟨rfl, rfl, rfl, rfl, rfl, rfl, rfl, rfl, rfl, rfl, rfl, rfl, rfl, rfl, rfl, rfl, rfl, rfl, rfl, rfl, rfl, rfl, rfl, rfl, rfl, rfl, rfl, trivial⟩ fun TA => ?_
  refine W.seq ?_
  refine W.region ?_
  refine RW.val (by kernel_rfl) (by kernel_rfl) rfl (by kernel_rfl) ?_
  refine RW.loads 2 (by kernel_rfl) (by kernel_rfl) rfl rfl r17 rfl rfl (by kernel_rfl) ?_
  refine RW.val (by kernel_rfl) (by kernel_rfl) rfl (by kernel_rfl) ?_
  refine RW.len (by kernel_rfl) (by kernel_rfl) rfl rfl rfl rfl vl.len (by kernel_rfl) ?_
  refine RW.call (by kernel_rfl) (by kernel_rfl) rfl rfl rfl (by kernel_rfl) (by kernel_rfl) ((tail_c (c := cO) (l := l1 ++ l2) (k := l1.length) M.zO gn ha (by omega) M.o5 (by rw [List.length_append]; omega) (by rw [List.length_append]; omega)).mono ?_)
  rintro _ σp12 ⟨rfl, Gp⟩
  have np := Gp.nx
  refine RW.val (by kernel_rfl) (by kernel_rfl) rfl (by kernel_rfl) ?_
  refine RW.val (by kernel_rfl) (by kernel_rfl) rfl (by kernel_rfl) ?_
  refine RW.val (by kernel_rfl) (by kernel_rfl) rfl (by kernel_rfl) ?_
  refine RW.varS (d := 32) (r0 := ⟨[.int .i64 0, .int .i64 0], 37, false⟩) (vs := #[.int .i64 (cO l1.length).1, .int .i64 (cO l1.length).2]) (by kernel_rfl) (by kernel_rfl) (by kernel_rfl) rfl (by kernel_rfl) rfl (by kernel_rfl) rfl rfl rfl rfl (by kernel_rfl) rfl (by omega) ?_
  intro σq12 _ r32 oq nq aq
  replace KK : ∀ b y, σ0.get b = some y → σq12.get b = some y := fun b y hy => (fun b y hy => oq b y (Gp.old b y hy)) b y (KK b y hy)
  have K : ∀ b y, σp11.get b = some y → σq12.get b = some y := fun b y hy => oq b y (Gp.old b y hy)
  replace r9 := K _ _ r9
  replace r11 := K _ _ r11
  replace r13 := K _ _ r13
  replace r15 := K _ _ r15
  replace r17 := K _ _ r17
  replace r28 := K _ _ r28
  replace vl := vl.old K
  replace vm := vm.old K
  replace vx := vx.old K
  replace vy := vy.old K
  replace vz := vz.old K
  replace vb := vb.old K
  replace vr := vr.old K
  replace gn : G ≤ σq12.next := by omega
  replace ha := aq.trans (Gp.abs.trans ha)
  clear K
  clear oq nq aq Gp np
  refine RW.val (by kernel_rfl) (by kernel_rfl) rfl (by kernel_rfl) ?_
  refine RW.nil ?_
  refine W.reset [(0, v1), (1, v2), (2, .int .i64 n), (7, pp σ0.next), (9, pp σp1.next), (10, .int .i64 0), (11, pp σp2.next), (12, .int .i64 0), (13, pp σp3.next), (14, .int .i64 0), (15, pp σp4.next), (16, .int .i64 0), (17, pp σp5.next), (18, .int .i64 0), (19, svx), (20, .int .i64 0), (21, svy), (22, .int .i64 0), (23, svz), (24, .int .i64 0), (25, svb), (26, .int .i64 0), (27, .int .i64 (k : Int)), (28, pp σp10.next), (29, .int .i64 0), (30, svr), (31, .int .i64 0), (32, pp σp12.next), (33, .int .i64 0)] ⟨rfl, rfl, rfl, rfl, rfl, rfl, rfl, rfl, rfl, rfl, rfl, rfl, rfl, rfl, rfl, rfl, rfl, rfl, rfl, rfl, rfl, rfl, rfl, rfl, rfl, rfl, rfl, rfl, rfl, trivial⟩ fun TA => ?_
  rw [M.zM] at r32
  refine W.seq ?_
  refine W.seq ?_
  refine W.region ?_
  refine RW.val (by kernel_rfl) (by kernel_rfl) rfl (by kernel_rfl) ?_
  refine RW.valE (v' := .bool false) (by kernel_rfl) (by kernel_rfl) rfl (congrArg Value.bool (bne_eq_false_iff_eq.2 rfl)) (by kernel_rfl) ?_
  refine RW.val (by kernel_rfl) (by kernel_rfl) rfl (by kernel_rfl) ?_
  refine RW.val (by rfl) (by kernel_rfl) rfl (by kernel_rfl) ?_
  refine RW.valE (v' := .bool false) (by rfl) (by kernel_rfl) rfl (congrArg Value.bool (bne_eq_false_iff_eq.2 rfl)) (by kernel_rfl) ?_
  refine RW.val (by kernel_rfl) (by kernel_rfl) rfl (by kernel_rfl) ?_
  refine RW.val (by kernel_rfl) (by kernel_rfl) rfl (by kernel_rfl) ?_
  refine RW.val (by rfl) (by kernel_rfl) rfl (by kernel_rfl) ?_
  refine RW.valE (v' := .bool false) (by rfl) (by kernel_rfl) rfl (congrArg Value.bool (bne_eq_false_iff_eq.2 rfl)) (by kernel_rfl) ?_
  refine RW.val (by kernel_rfl) (by kernel_rfl) rfl (by kernel_rfl) ?_
  refine RW.val (by kernel_rfl) (by kernel_rfl) rfl (by kernel_rfl) ?_
  refine RW.val (by rfl) (by kernel_rfl) rfl (by kernel_rfl) ?_
  refine RW.valE (v' := .bool false) (by rfl) (by kernel_rfl) rfl (congrArg Value.bool (bne_eq_false_iff_eq.2 rfl)) (by kernel_rfl) ?_
  refine RW.val (by kernel_rfl) (by kernel_rfl) rfl (by kernel_rfl) ?_
  refine RW.val (by kernel_rfl) (by kernel_rfl) rfl (by kernel_rfl) ?_
  refine RW.val (by rfl) (by kernel_rfl) rfl (by kernel_rfl) ?_
  refine RW.valE (v' := .bool false) (by rfl) (by kernel_rfl) rfl (congrArg Value.bool (bne_eq_false_iff_eq.2 rfl)) (by kernel_rfl) ?_
  refine RW.val (by kernel_rfl) (by kernel_rfl) rfl (by kernel_rfl) ?_
  refine RW.val (by kernel_rfl) (by kernel_rfl) rfl (by kernel_rfl) ?_
  refine RW.val (by rfl) (by kernel_rfl) rfl (by kernel_rfl) ?_
  refine RW.valE (v' := .bool false) (by rfl) (by kernel_rfl) rfl (congrArg Value.bool (bne_eq_false_iff_eq.2 rfl)) (by kernel_rfl) ?_
  refine RW.val (by kernel_rfl) (by kernel_rfl) rfl (by kernel_rfl) ?_
  refine RW.val (by kernel_rfl) (by kernel_rfl) rfl (by kernel_rfl) ?_
  refine RW.val (by rfl) (by kernel_rfl) rfl (by kernel_rfl) ?_
  refine RW.valE (v' := .bool false) (by rfl) (by kernel_rfl) rfl (congrArg Value.bool (bne_eq_false_iff_eq.2 rfl)) (by kernel_rfl) ?_
  refine RW.val (by kernel_rfl) (by kernel_rfl) rfl (by kernel_rfl) ?_
  refine RW.val (by kernel_rfl) (by kernel_rfl) rfl (by kernel_rfl) ?_
  refine RW.loads 2 (by rfl) (by kernel_rfl) rfl rfl r32 rfl rfl (by kernel_rfl) ?_
  refine RW.loads 2 (by rfl) (by kernel_rfl) rfl rfl r11 rfl rfl (by kernel_rfl) ?_
  refine RW.vop (v := .bool (false)) (by rfl) (by kernel_rfl) (vop_eqS (b := true) (r := false) rfl (.inr ⟨rfl, rfl⟩) rfl rfl rfl rfl (by kernel_rfl) (fun w => (eqWd _ _ _ _ w).trans (by simp))) (by kernel_rfl) ?_
  refine RW.val (by kernel_rfl) (by kernel_rfl) rfl (by kernel_rfl) ?_
  refine RW.val (by kernel_rfl) (by kernel_rfl) rfl (by kernel_rfl) ?_
  refine RW.val (by rfl) (by kernel_rfl) rfl (by kernel_rfl) ?_
  refine RW.len (by rfl) (by kernel_rfl) rfl rfl rfl rfl vb.len (by kernel_rfl) ?_
  refine RW.val (by rfl) (by kernel_rfl) rfl (by kernel_rfl) ?_
  refine RW.len (by rfl) (by kernel_rfl) rfl rfl rfl rfl vl.len (by kernel_rfl) ?_
  refine RW.valE (v' := .bool false) (by rfl) (by kernel_rfl) rfl (congrArg Value.bool (bne_eq_false_iff_eq.2 (by rw [List.length_reverse]))) (by kernel_rfl) ?_
  refine RW.val (by kernel_rfl) (by kernel_rfl) rfl (by kernel_rfl) ?_
  refine RW.nil ?_
  refine W.cond (b := false) rfl (fun h => by cases h) (fun _ => ?_)
  refine W.skip ?_
  refine W.reset [(0, v1), (1, v2), (2, .int .i64 n), (7, pp σ0.next), (9, pp σp1.next), (10, .int .i64 0), (11, pp σp2.next), (12, .int .i64 0), (13, pp σp3.next), (14, .int .i64 0), (15, pp σp4.next), (16, .int .i64 0), (17, pp σp5.next), (18, .int .i64 0), (19, svx), (20, .int .i64 0), (21, svy), (22, .int .i64 0), (23, svz), (24, .int .i64 0), (25, svb), (26, .int .i64 0), (27, .int .i64 (k : Int)), (28, pp σp10.next), (29, .int .i64 0), (30, svr), (31, .int .i64 0), (32, pp σp12.next), (33, .int .i64 0)] ⟨rfl, rfl, rfl, rfl, rfl, rfl, rfl, rfl, rfl, rfl, rfl, rfl, rfl, rfl, rfl, rfl, rfl, rfl, rfl, rfl, rfl, rfl, rfl, rfl, rfl, rfl, rfl, rfl, rfl, trivial⟩ fun TA => ?_
  refine W.seq ?_
  refine W.seq ?_
  refine W.region ?_
  refine RW.val (by kernel_rfl) (by kernel_rfl) rfl (by kernel_rfl) ?_
  refine RW.nil ?_
  refine W.block ?_
  refine W.loop (fun mm ta σ => ∃ q : Nat, mm + q = l1.length ∧ σ = σq12 ∧ ta 0 = v1 ∧ ta 1 = v2 ∧ ta 19 = svx ∧ ta 21 = svy ∧ ta 23 = svz ∧ ta 25 = svb ∧ ta 27 = .int .i64 (k : Int) ∧ ta 30 = svr ∧ ta 34 = .int .i64 (q : Int)) l1.length ?_ ?_
  · exact ⟨0, rfl, rfl, rfl, rfl, rfl, rfl, rfl, rfl, rfl, rfl, rfl⟩
  rintro mm ta σ ⟨q, hm, hσ, e0, e1, e19, e21, e23, e25, e27, e30, e34⟩
  obtain rfl : σq12 = σ := hσ.symm
  refine W.know 0 e0 (W.know 1 e1 (W.know 19 e19 (W.know 21 e21 (W.know 23 e23 (W.know 25 e25 (W.know 27 e27 (W.know 30 e30 (W.know 34 e34 (?_)))))))))
  refine W.seq ?_
  refine W.seq ?_
  refine W.region ?_
  refine RW.val (by kernel_rfl) (by kernel_rfl) rfl (by kernel_rfl) ?_
  refine RW.val (by kernel_rfl) (by kernel_rfl) rfl (by kernel_rfl) ?_
  refine RW.len (by kernel_rfl) (by kernel_rfl) rfl rfl rfl rfl vl.len (by kernel_rfl) ?_
  refine RW.val (by kernel_rfl) (by kernel_rfl) rfl (by kernel_rfl) ?_
  refine RW.nil ?_
  refine W.cond rfl (fun hh => ?_) (fun hh => ?_)
  · have hq : q < l1.length := by have := of_decide_eq_true hh; omega
    obtain ⟨j, hj⟩ : ∃ j, q + 1 + j = l1.length := ⟨l1.length - 1 - q, by omega⟩
    have ej : (l1.length : Int) - 1 - (q : Int) = ((j : Nat) : Int) := by omega
    have hqj : l1.reverse.getD q (0, 0) = l1.getD j (0, 0) := by rw [List.getD_eq_getElem?_getD, List.getD_eq_getElem?_getD, List.getElem?_reverse hq, show l1.length - 1 - q = j by omega]
    have hrl : q < l1.reverse.length := by rw [List.length_reverse]; exact hq
    obtain ⟨b1, p1, sp1, c1, w1, rfl, hr1, hc1⟩ := sl_at (vb.at_ (by omega)) (j := q) hrl
    obtain ⟨b2, p2, sp2, c2, w2, rfl, hr2, hc2⟩ := sl_at (vl.at_ (by omega)) (j := j) (by omega)
    refine W.skip ?_
    refine W.seq ?_
    refine W.block ?_
    refine W.seq ?_
    refine W.drawnS (by kernel_rfl) (by kernel_rfl) gn ?_
    refine RW.val (by kernel_rfl) (by kernel_rfl) rfl (by kernel_rfl) ?_
    refine RW.val (by kernel_rfl) (by kernel_rfl) rfl (by kernel_rfl) ?_
    refine RW.idx (s := 2) (by kernel_rfl) (by kernel_rfl) rfl Tryz.underlying29 (by kernel_rfl) rfl rfl ⟨by omega, by omega⟩ (by kernel_rfl) ?_
    refine RW.loads 2 (by kernel_rfl) (by kernel_rfl) rfl rfl hr1 hc1 rfl (by kernel_rfl) ?_
    refine RW.val (by kernel_rfl) (by kernel_rfl) rfl (by kernel_rfl) ?_
    refine RW.val (by kernel_rfl) (by kernel_rfl) rfl (by kernel_rfl) ?_
    refine RW.len (by kernel_rfl) (by kernel_rfl) rfl rfl rfl rfl vl.len (by kernel_rfl) ?_
    refine RW.valE (by kernel_rfl) (by kernel_rfl) rfl (congrArg (Value.int .i64) (wrap_in (by omega) (by omega))) (by kernel_rfl) ?_
    refine RW.val (by kernel_rfl) (by kernel_rfl) rfl (by kernel_rfl) ?_
    refine RW.valE (v' := .int .i64 ((j : Nat) : Int)) (by kernel_rfl) (by kernel_rfl) rfl (congrArg (Value.int .i64) ((wrap_in (by omega) (by omega)).trans ej)) (by kernel_rfl) ?_
    refine RW.idx (s := 2) (by kernel_rfl) (by kernel_rfl) rfl Tryz.underlying29 (by kernel_rfl) rfl rfl ⟨by omega, by omega⟩ (by kernel_rfl) ?_
    refine RW.loads 2 (by kernel_rfl) (by kernel_rfl) rfl rfl hr2 hc2 rfl (by kernel_rfl) ?_
    refine RW.vop (v := .bool (false)) (by kernel_rfl) (by kernel_rfl) (vop_eqS (b := true) (r := false) rfl (.inr ⟨rfl, rfl⟩) rfl rfl rfl rfl (by kernel_rfl) (fun w => (eqWd _ _ _ _ w).trans (by rw [hqj]; simp))) (by kernel_rfl) ?_
    refine RW.nil ?_
    refine ⟨⟨by kernel_rfl, ?_, fun b => rfl⟩, ?_⟩
    · repeat' (first | exact True.intro | exact fun _ => rfl | exact ⟨_, hr1⟩ | exact ⟨_, hr2⟩ | refine And.intro ?_ ?_)
    refine W.cond (b := false) rfl (fun h => by cases h) (fun _ => ?_)
    refine W.skip ?_
    refine W.region ?_
    refine RW.val (by kernel_rfl) (by kernel_rfl) rfl (by kernel_rfl) ?_
    refine RW.valE (by kernel_rfl) (by kernel_rfl) rfl (congrArg (Value.int .i64) (wrap_in (by omega) (by omega))) (by kernel_rfl) ?_
    refine RW.val (by kernel_rfl) (by kernel_rfl) rfl (by kernel_rfl) ?_
    refine RW.nil ?_
    exact ⟨rfl, mm - 1, by omega, q + 1, by omega, rfl, rfl, rfl, rfl, rfl, rfl, rfl, rfl, rfl, rfl⟩
  · clear hh hm e0 e1
    refine W.exit _ ?_
    refine W.reset [(0, v1), (1, v2), (19, svx), (21, svy), (23, svz), (25, svb), (27, .int .i64 (k : Int)), (30, svr)] ⟨rfl, rfl, rfl, rfl, rfl, rfl, rfl, rfl, trivial⟩ fun TA => ?_
    refine W.seq ?_
    refine W.region ?_
    refine RW.val (by kernel_rfl) (by kernel_rfl) rfl (by kernel_rfl) ?_
    refine RW.call (by kernel_rfl) (by kernel_rfl) rfl rfl rfl (by kernel_rfl) (by kernel_rfl) ((own_wc (l := l1) gn (srcF_old a1.src KK) (fun σ k' => srcF_old a1.src fun b y hy => k' b y (KK b y hy)) (by omega)).mono ?_)
    rintro ow σo ⟨Go, O, fo⟩
    have no := Go.nx
    refine RW.val (by kernel_rfl) (by kernel_rfl) rfl (by kernel_rfl) ?_
    obtain ⟨v', cmd, k1, k2, k3, k4, k5, k6⟩ := own_append (l2 := l2) O (srcF_old a2.src fun b y hy => Go.old b y (KK b y hy)) (by omega) (by omega)
    refine RW.append (by kernel_rfl) (by kernel_rfl) rfl rfl rfl rfl k1 (by kernel_rfl) ?_
    generalize MCmd.app σo cmd = σr at k2 k3 k4 k5 ⊢
    refine RW.val (by kernel_rfl) (by kernel_rfl) rfl (by kernel_rfl) ?_
    refine RW.nil ?_
    have K : ∀ b y, σq12.get b = some y → σr.get b = some y := fun b y hy => k5 b y (Go.old b y hy) (fun e => by have := fo b e; have := Mem.lt hy; omega)
    replace vl := vl.old K
    replace vx := vx.old K
    replace vy := vy.old K
    replace vz := vz.old K
    replace vr := vr.old K
    replace gn : G ≤ σr.next := by omega
    obtain ⟨sd, hd, vd⟩ := own_drop (k := k) k2 (by rw [List.length_append]; omega)
    have va := k2.vw
    clear K KK vb vm ha Go O fo no k1 k3 k4 k5 k6 r9 r11 r13 r15 r17 r28 r32
    refine W.reset [(0, v1), (1, v2), (19, svx), (21, svy), (23, svz), (25, svb), (27, .int .i64 (k : Int)), (30, svr), (35, v')] ⟨rfl, rfl, rfl, rfl, rfl, rfl, rfl, rfl, rfl, trivial⟩ fun TA => ?_
    refine W.seq ?_
    refine W.region ?_
    refine RW.val (by kernel_rfl) (by kernel_rfl) rfl (by kernel_rfl) ?_
    refine RW.val (by kernel_rfl) (by kernel_rfl) rfl (by kernel_rfl) ?_
    refine RW.call (by kernel_rfl) (by kernel_rfl) rfl rfl rfl (by kernel_rfl) (by kernel_rfl) ((same_c rfl gn vx vl (by omega)).mono ?_)
    rintro _ _ ⟨rfl, rfl⟩
    refine RW.val (by kernel_rfl) (by kernel_rfl) rfl (by kernel_rfl) ?_
    refine RW.val (by rfl) (by kernel_rfl) rfl (by kernel_rfl) ?_
    refine RW.val (by rfl) (by kernel_rfl) rfl (by kernel_rfl) ?_
    refine RW.call (by rfl) (by kernel_rfl) rfl rfl rfl (by kernel_rfl) (by kernel_rfl) ((same_c rfl gn vy vl (by omega)).mono ?_)
    rintro _ _ ⟨rfl, rfl⟩
    refine RW.val (by kernel_rfl) (by kernel_rfl) rfl (by kernel_rfl) ?_
    refine RW.val (by kernel_rfl) (by kernel_rfl) rfl (by kernel_rfl) ?_
    refine RW.val (by rfl) (by kernel_rfl) rfl (by kernel_rfl) ?_
    refine RW.val (by rfl) (by kernel_rfl) rfl (by kernel_rfl) ?_
    refine RW.call (by rfl) (by kernel_rfl) rfl rfl rfl (by kernel_rfl) (by kernel_rfl) ((same_c rfl gn vz va (by rw [List.length_append]; omega)).mono ?_)
    rintro _ _ ⟨rfl, rfl⟩
    refine RW.val (by kernel_rfl) (by kernel_rfl) rfl (by kernel_rfl) ?_
    refine RW.val (by kernel_rfl) (by kernel_rfl) rfl (by kernel_rfl) ?_
    refine RW.val (by rfl) (by kernel_rfl) rfl (by kernel_rfl) ?_
    refine RW.val (by rfl) (by kernel_rfl) rfl (by kernel_rfl) ?_
    refine RW.val (by rfl) (by kernel_rfl) rfl (by kernel_rfl) ?_
    refine RW.vop (by rfl) (by kernel_rfl) (vop_slice rfl hd) (by kernel_rfl) ?_
    refine RW.call (by rfl) (by kernel_rfl) rfl rfl rfl (by kernel_rfl) (by kernel_rfl) ((same_c rfl gn vr vd (by rw [List.length_drop, List.length_append]; omega)).mono ?_)
    rintro _ _ ⟨rfl, rfl⟩
    refine RW.val (by kernel_rfl) (by kernel_rfl) rfl (by kernel_rfl) ?_
    refine RW.val (by kernel_rfl) (by kernel_rfl) rfl (by kernel_rfl) ?_
    refine RW.nil ?_
    refine W.ret ?_
    exact endG (R := fun v _ => v = Value.bool true) rfl (resL_tmp rfl) rfl
end Go.Proofs.YtehcckhdppdkcaaGreatDoor
