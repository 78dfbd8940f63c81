/-
  HeapFull in the second memory: the whole law. Conditions: the tables of unicode/utf8 lie as laid.
-/
import Derived.Test.YthmfiahmfdadgaaDoorFd
namespace Go.Proofs.YthmfiahmfdadgaaDoor
open Go.RowKit
set_option maxRecDepth 100000
theorem car_ofF {m : HM} {x a d : Wd} (h : m.find x = some (.pair a d)) : m.car x = (a, 0) := by simp [HM.car, h]
/-- A call that leaves all alone where the tables lie. -/
theorem tab_callF {P : Program} {G : Nat} {f : FuncId} {args : Array Value} {v : Value} {σ : Mem} (hR : RowsAt rowsU σ) (h16 : 16 ≤ G) (hl : args.toList.all (closedV 3) = true) (hv : closedV 3 v = true)
    (hc : ∀ w, Tabs w → Calls P f args w fun e w' => e = .returned v ∧ Below w.heap.size w w') : SCall G P f args σ v σ := by
  refine ⟨Nat.le_refl _, fun μ w cargs hs hGn hf har => ?_⟩
  have hT : Tabs w := tabs_of_rows (rows_lie hs (fun g cs hm => Nat.lt_of_lt_of_le (rowsU_low g cs hm) h16) (fun g cs hm => Nat.lt_of_lt_of_le (rowsU_low g cs hm) (by decide)) rowsU_flat hR)
  have hz : cargs = args := by
    apply Array.ext
    · exact har.1.symm
    · intro i h1 h2
      exact closedV_eq 3 _ _ (List.all_eq_true.1 hl _ (by simp)) (har.2 i args[i] cargs[i] (by simp [h2]) (by simp [h1]))
  subst hz
  refine (hc w hT).mono ?_
  rintro e w' ⟨rfl, hb⟩
  have own2 := OwnOk.same (G := G) (σ := σ) (μ := μ) (w := w) (w' := w') (σ' := σ) rfl (Ext.refl μ) rfl hb.size (fun B hB _ => hb.block B hB) fun c z ci hz hc => .inr ⟨c, z, ci, hz, hc, rfl⟩
  exact ⟨v, μ, rfl, ⟨Nat.le_refl _, fun b h1 h2 => absurd h1 (by omega), fun _ _ => rfl, ⟨hs.glob, fun b x bi hx hm => (hs.blk b x bi hx hm).keep (hb.block _ (hs.blk b x bi hx hm).lt) (Ext.refl _), hs.inj, hs.rw_, own2 hs.abs⟩, hb.size, hb.os, hb.tape, hb.output, fun b x bi hb' hx _ => absurd (Mem.lt hx) (by omega), fun _ x _ h => ⟨x, h⟩, hGn, own_id, fun B hB _ _ => hb.block B hB⟩, closedV_rel _ 3 v hv⟩
set_option maxHeartbeats 8000000 in
theorem full_wc {G : Nat} {σ0 : Mem} {lim wh : Int} (hG : G ≤ σ0.next) (hl1 : -9223372036854775808 ≤ lim) (hl2 : lim ≤ 9223372036854775807) (hw1 : -9223372036854775808 ≤ wh) (hw2 : wh ≤ 9223372036854775807) (h16 : 16 ≤ G) (hR : RowsAt rowsU σ0) (hno : σ0.abs = Abs.no) :
    WC G Tryd.prog 4 #[.int .i64 lim, .int .i64 wh] σ0 fun v _ => v = .bool true := by
  have CL : SCall G Tryd.prog 8 #[] σ0 (.bool true) σ0 := tab_callF hR h16 rfl rfl lives_any
  refine WC.enter (fn := Tryd.f4) Tryd.func4 rfl ?_
  refine W.know 0 (x := .int .i64 lim) rfl (W.know 1 (x := .int .i64 wh) rfl ?_)
  refine W.seq ?_
  refine W.region ?_
  refine RW.val (by kernel_rfl) (by kernel_rfl) rfl (by kernel_rfl) ?_
  refine RW.nil ?_
  refine W.reset [(0, .int .i64 lim), (1, .int .i64 wh)] ⟨rfl, rfl, trivial⟩ fun TA => ?_
  refine W.seq ?_
  refine W.seq ?_
  refine W.region ?_
  refine RW.call (by kernel_rfl) (by kernel_rfl) rfl rfl rfl (by kernel_rfl) (by kernel_rfl) ⟨_, _, CL, ?_⟩
  refine RW.val (by kernel_rfl) (by kernel_rfl) rfl (by kernel_rfl) ?_
  refine RW.nil ?_
  refine W.cond (b := false) rfl (fun h => by cases h) (fun _ => ?_)
  refine W.skip ?_
  refine W.reset [(0, .int .i64 lim), (1, .int .i64 wh)] ⟨rfl, rfl, trivial⟩ fun TA => ?_
  have pk := pick_range lim 60 (by omega)
  obtain ⟨n, hn⟩ : ∃ n : Nat, 1 + pickOf lim 60 = (n : Int) := ⟨_, (Int.toNat_of_nonneg (by omega)).symm⟩
  have hn0 : 0 < n := by omega
  have hn60 : n ≤ 60 := by omega
  refine W.seq ?_
  refine W.region ?_
  refine RW.val (by kernel_rfl) (by kernel_rfl) rfl (by kernel_rfl) ?_
  refine RW.call (by kernel_rfl) (by kernel_rfl) rfl rfl rfl (by kernel_rfl) (by kernel_rfl) ⟨_, _, (s_pick lim 60 hl1 hl2 (by decide) (by decide)), ?_⟩
  refine RW.valE (v' := .int .i64 (n : Int)) (by kernel_rfl) (by kernel_rfl) rfl (congrArg (Value.int .i64) ((wrap_in (by omega) (by omega)).trans hn)) (by kernel_rfl) ?_
  refine RW.val (by kernel_rfl) (by kernel_rfl) rfl (by kernel_rfl) ?_
  refine RW.nil ?_
  refine W.reset [(0, .int .i64 lim), (1, .int .i64 wh), (5, .int .i64 (n : Int))] ⟨rfl, rfl, rfl, trivial⟩ fun TA => ?_
  have CN := s_new (G := G) (σ := σ0) n (by omega) (by omega) hno
  refine W.seq ?_
  refine W.region ?_
  refine RW.val (by kernel_rfl) (by kernel_rfl) rfl (by kernel_rfl) ?_
  refine RW.call (by kernel_rfl) (by kernel_rfl) rfl rfl rfl (by kernel_rfl) (by kernel_rfl) ⟨_, _, CN, ?_⟩
  refine RW.val (by kernel_rfl) (by kernel_rfl) rfl (by kernel_rfl) ?_
  refine RW.val (by kernel_rfl) (by kernel_rfl) rfl (by kernel_rfl) ?_
  refine RW.val (by kernel_rfl) (by kernel_rfl) rfl (by kernel_rfl) ?_
  refine RW.val (by kernel_rfl) (by kernel_rfl) rfl (by kernel_rfl) ?_
  refine RW.val (by kernel_rfl) (by kernel_rfl) rfl (by kernel_rfl) ?_
  obtain ⟨σa, hσa⟩ : ∃ s, s = σ0.made n := ⟨_, rfl⟩
  rw [← hσa]
  have na : σa.next = σ0.next + 1 := by rw [hσa]; rfl
  have ha : σa.abs = heapAbs σ0.next (hmF n 0) := by rw [hσa]; rfl
  replace hR : RowsAt rowsU σa := fun g cs hm => by obtain ⟨t, f, e⟩ := hR g cs hm; exact ⟨t, f, by rw [hσa, made_get]; exact e⟩
  have gn : G ≤ σa.next := by omega
  clear hσa CN hno pk CL
  refine RW.nil ?_
  refine W.reset [(1, .int .i64 wh), (5, .int .i64 (n : Int)), (6, pp σ0.next), (7, .int .i64 0)] ⟨rfl, rfl, rfl, rfl, trivial⟩ fun TA => ?_
  refine W.seq ?_
  refine W.seq ?_
  refine W.region ?_
  refine RW.val (by kernel_rfl) (by kernel_rfl) rfl (by kernel_rfl) ?_
  refine RW.val (by kernel_rfl) (by kernel_rfl) rfl (by kernel_rfl) ?_
  refine RW.nil ?_
  refine W.cond (b := false) rfl (fun h => by cases h) (fun _ => ?_)
  refine W.skip ?_
  refine W.reset [(1, .int .i64 wh), (5, .int .i64 (n : Int)), (6, pp σ0.next)] ⟨rfl, rfl, rfl, trivial⟩ fun TA => ?_
  refine W.seq ?_
  refine W.region ?_
  refine RW.val (by kernel_rfl) (by kernel_rfl) rfl (by kernel_rfl) ?_
  refine RW.nil ?_
  refine W.reset [(1, .int .i64 wh), (5, .int .i64 (n : Int)), (6, pp σ0.next), (8, .slice none 0 0)] ⟨rfl, rfl, rfl, rfl, trivial⟩ fun TA => ?_
  refine W.seq ?_
  refine W.seq ?_
  refine W.region ?_
  refine RW.val (by kernel_rfl) (by kernel_rfl) rfl (by kernel_rfl) ?_
  refine RW.nil ?_
  refine W.block ?_
  refine W.loop (fun mm ta σ => ∃ (i : Nat) (v : Value), mm + i = n ∧ (∀ b y, σa.get b = some y → σ.get b = some y) ∧ σa.next ≤ σ.next ∧ σ.abs = heapAbs σ0.next (hmF n i) ∧ GRow G σ 24 2 v i (wdC (prF i)) ∧ (∀ b, blkOf v = some b → σa.next ≤ b) ∧ ta 1 = .int .i64 wh ∧ ta 5 = .int .i64 (n : Int) ∧ ta 6 = pp σ0.next ∧ ta 8 = v ∧ ta 9 = .int .i64 (i : Int)) n ?_ ?_
  · exact ⟨0, _, rfl, fun _ _ h => h, Nat.le_refl _, ha, .nil, (fun b hb => by cases hb), rfl, rfl, rfl, rfl, rfl⟩
  rintro mm ta σ ⟨i, v, hm, ho, hnx, hab, g, fr, e1, e5, e6, e8, e9⟩
  refine W.know 1 e1 (W.know 5 e5 (W.know 6 e6 (W.know 8 e8 (W.know 9 e9 (?_)))))
  refine W.seq ?_
  refine W.seq ?_
  refine W.region ?_
  refine RW.val (by kernel_rfl) (by kernel_rfl) rfl (by kernel_rfl) ?_
  refine RW.val (by kernel_rfl) (by kernel_rfl) rfl (by kernel_rfl) ?_
  refine RW.val (by kernel_rfl) (by kernel_rfl) rfl (by kernel_rfl) ?_
  refine RW.nil ?_
  refine W.cond rfl (fun hh => ?_) (fun hh => ?_)
  · have hin : i < n := by have := of_decide_eq_true hh; omega
    have gh : G ≤ σ.next := by omega
    have CS := s_cons (G := G) (0, (i : Int)) (1, 0) hab (by rw [hmF_many]; exact hin) rfl
    rw [hmF_len, hmF_succ] at CS
    refine W.skip ?_
    refine W.seq ?_
    refine W.block ?_
    refine W.seq ?_
    refine W.region ?_
    refine RW.val (by kernel_rfl) (by kernel_rfl) rfl (by kernel_rfl) ?_
    refine RW.val (by kernel_rfl) (by kernel_rfl) rfl (by kernel_rfl) ?_
    refine RW.call (by kernel_rfl) (by kernel_rfl) rfl rfl rfl (by kernel_rfl) (by kernel_rfl) ⟨_, _, (s_int _), ?_⟩
    refine RW.call (by kernel_rfl) (by kernel_rfl) rfl rfl rfl (by kernel_rfl) (by kernel_rfl) ⟨_, _, s_nilK, ?_⟩
    refine RW.call (by kernel_rfl) (by kernel_rfl) rfl rfl rfl (by kernel_rfl) (by kernel_rfl) ⟨_, _, CS, ?_⟩
    refine RW.val (by kernel_rfl) (by kernel_rfl) rfl (by kernel_rfl) ?_
    refine RW.val (by kernel_rfl) (by kernel_rfl) rfl (by kernel_rfl) ?_
    refine RW.val (by kernel_rfl) (by kernel_rfl) rfl (by kernel_rfl) ?_
    have nw : (σ.with (heapAbs σ0.next (hmF n (i + 1)))).next = σ.next := rfl
    refine RW.varS (d := 10) (r0 := ⟨[.int .i64 0, .int .i64 0], 24, false⟩) (vs := #[.int .i64 ((2, (i : Int)) : Wd).1, .int .i64 ((2, (i : Int)) : Wd).2]) (by kernel_rfl) (by kernel_rfl) (by kernel_rfl) rfl (by kernel_rfl) rfl (by kernel_rfl) rfl rfl rfl rfl (by kernel_rfl) rfl (by show G ≤ σ.next; exact gh) ?_
    intro σ1 _ r10 o1 n1 a1
    refine RW.val (by kernel_rfl) (by kernel_rfl) rfl (by kernel_rfl) ?_
    refine RW.nil ?_
    rw [nw] at r10 n1
    clear CS
    replace g := grow_old (σ' := σ1) g o1
    replace ho : ∀ b y, σa.get b = some y → σ1.get b = some y := fun b y hy => o1 b y (ho b y hy)
    replace hab : σ1.abs = heapAbs σ0.next (hmF n (i + 1)) := a1
    clear o1 a1
    refine W.reset [(1, .int .i64 wh), (5, .int .i64 (n : Int)), (6, pp σ0.next), (8, v), (9, .int .i64 (i : Int)), (10, pp σ.next), (11, .int .i64 0)] ⟨rfl, rfl, rfl, rfl, rfl, rfl, rfl, trivial⟩ fun TB => ?_
    refine W.seq ?_
    refine W.seq ?_
    refine W.drawnS (by kernel_rfl) (by kernel_rfl) (by omega) ?_
    refine RW.val (by kernel_rfl) (by kernel_rfl) rfl (by kernel_rfl) ?_
    refine RW.val (by kernel_rfl) (by kernel_rfl) rfl (by kernel_rfl) ?_
    refine RW.val (by kernel_rfl) (by kernel_rfl) rfl (by kernel_rfl) ?_
    refine RW.loads 2 (by rfl) (by kernel_rfl) rfl rfl r10 rfl rfl (by kernel_rfl) ?_
    refine RW.val (by rfl) (by kernel_rfl) rfl (by kernel_rfl) ?_
    refine RW.call (by rfl) (by kernel_rfl) rfl rfl rfl (by kernel_rfl) (by kernel_rfl) ⟨_, _, (s_word _ _), ?_⟩
    refine RW.vop (v := .bool (false)) (by rfl) (by kernel_rfl) (vop_eqS (b := true) (r := false) rfl (.inr ⟨rfl, rfl⟩) rfl rfl rfl rfl (by kernel_rfl) (fun w => (eqWd _ _ _ _ w).trans (by simp))) (by kernel_rfl) ?_
    refine RW.val (by kernel_rfl) (by kernel_rfl) rfl (by kernel_rfl) ?_
    refine RW.nil ?_
    refine ⟨⟨by kernel_rfl, ?_, fun b => rfl⟩, ?_⟩
    · repeat' (first | exact True.intro | exact fun _ => rfl | exact ⟨_, r10⟩ | refine And.intro ?_ ?_)
    refine W.cond (b := false) rfl (fun h => by cases h) (fun _ => ?_)
    refine W.skip ?_
    refine W.region ?_
    refine RW.val (by kernel_rfl) (by kernel_rfl) rfl (by kernel_rfl) ?_
    refine RW.loads 2 (by kernel_rfl) (by kernel_rfl) rfl rfl r10 rfl rfl (by kernel_rfl) ?_
    refine RW.make (x := .row ⟨wdC [((2, (i : Int)) : Wd)], 24, false⟩) (fm := fun b => .slice (some ⟨b, 0, none⟩) 1 1) (by kernel_rfl) (by kernel_rfl) (by kernel_rfl) (by kernel_rfl) ?_
    obtain ⟨v', cmd, k1, k2, k3, k4, k5, k6⟩ := grow_push (P := Tryd.prog) (t := 22) (u := 22) (e2 := 24) (r := ⟨wdC [((2, (i : Int)) : Wd)], 24, false⟩) (n := 1) g (by omega) (by kernel_rfl) (by kernel_rfl) (by kernel_rfl) (by decide) (by decide) rfl rfl (by omega)
    refine RW.append (by kernel_rfl) (by kernel_rfl) rfl rfl rfl rfl k1 (by kernel_rfl) ?_
    generalize MCmd.app (σ1.push (.row ⟨wdC [((2, (i : Int)) : Wd)], 24, false⟩)) cmd = σ3 at k2 k3 k4 k5 ⊢
    refine RW.val (by kernel_rfl) (by kernel_rfl) rfl (by kernel_rfl) ?_
    refine RW.nil ?_
    refine W.region ?_
    refine RW.val (by kernel_rfl) (by kernel_rfl) rfl (by kernel_rfl) ?_
    refine RW.valE (by kernel_rfl) (by kernel_rfl) rfl (congrArg (Value.int .i64) (wrap_in (by omega) (by omega))) (by kernel_rfl) ?_
    refine RW.val (by kernel_rfl) (by kernel_rfl) rfl (by kernel_rfl) ?_
    refine RW.nil ?_
    refine ⟨rfl, mm - 1, by omega, i + 1, v', by omega, fun b y hy => k5 b y (ho b y hy) (fun e => by have := fr b e; have := Mem.lt hy; omega), by omega, k4.trans hab, by rw [prF_succ, show wdC (prF i ++ [((2, (i : Int)) : Wd)]) = wdC (prF i) ++ wdC [((2, (i : Int)) : Wd)] by simp [wdC]]; exact k2, fun b hb => ?_, rfl, rfl, rfl, rfl, rfl⟩
    rcases k6 b hb with h2 | h2
    · exact fr b h2
    · omega
  have hin : i = n := by have := of_decide_eq_false hh; omega
  subst hin
  refine W.exit _ ?_
  replace hR : RowsAt rowsU σ := fun g cs hm => by obtain ⟨t, f, e⟩ := hR g cs hm; exact ⟨t, f, ho _ _ e⟩
  have gn : G ≤ σ.next := by omega
  have ha := hab
  have hmn := hmF_many i i
  have g8 : GRow G σ 24 2 v (prF i).length (wdC (prF i)) := by rw [prF_length]; exact g
  have f8 : ∀ b, blkOf v = some b → b < σ.next := fun b hb => (g.lt hb).2
  have nz : σ.next ≤ σ.next := Nat.le_refl _
  clear ho hnx hab fr hm hh g e1 e5 e6 e8 e9
  refine W.reset [(1, .int .i64 wh), (5, .int .i64 (i : Int)), (6, pp σ0.next), (8, v)] ⟨rfl, rfl, rfl, rfl, trivial⟩ fun TA => ?_
  refine W.seq ?_
  refine W.region ?_
  refine RW.val (by kernel_rfl) (by kernel_rfl) rfl (by kernel_rfl) ?_
  refine RW.call (by kernel_rfl) (by kernel_rfl) rfl rfl rfl (by kernel_rfl) (by kernel_rfl) ⟨_, _, s_nilK, ?_⟩
  refine RW.call (by kernel_rfl) (by kernel_rfl) rfl rfl rfl (by kernel_rfl) (by kernel_rfl) ⟨_, _, s_nilK, ?_⟩
  refine RW.call (by kernel_rfl) (by kernel_rfl) rfl rfl rfl (by kernel_rfl) (by kernel_rfl) ⟨_, _, (s_consFull (1, 0) (1, 0) ha hmn), ?_⟩
  refine RW.val (by kernel_rfl) (by kernel_rfl) rfl (by kernel_rfl) ?_
  refine RW.val (by kernel_rfl) (by kernel_rfl) rfl (by kernel_rfl) ?_
  refine RW.val (by kernel_rfl) (by kernel_rfl) rfl (by kernel_rfl) ?_
  refine RW.varS (d := 12) (r0 := ⟨[.int .i64 0, .int .i64 0], 24, false⟩) (vs := #[.int .i64 ((0, 0) : Wd).1, .int .i64 ((0, 0) : Wd).2]) (by kernel_rfl) (by kernel_rfl) (by kernel_rfl) rfl (by kernel_rfl) rfl (by kernel_rfl) rfl rfl rfl rfl (by kernel_rfl) rfl (by omega) ?_
  intro σq1 _ r12 oq nq aq
  have K : ∀ b y, σ.get b = some y → σq1.get b = some y := oq
  replace g8 := grow_old g8 K
  replace hR : RowsAt rowsU σq1 := fun g cs hm => by obtain ⟨t, f, e⟩ := hR g cs hm; exact ⟨t, f, K _ _ e⟩
  replace gn : G ≤ σq1.next := by omega
  replace nz : σ.next ≤ σq1.next := by omega
  replace ha := aq.trans ha
  clear K
  clear oq nq aq
  refine RW.val (by kernel_rfl) (by kernel_rfl) rfl (by kernel_rfl) ?_
  refine RW.nil ?_
  refine W.reset [(1, .int .i64 wh), (5, .int .i64 (i : Int)), (6, pp σ0.next), (8, v), (12, pp σ.next), (13, .int .i64 7)] ⟨rfl, rfl, rfl, rfl, rfl, rfl, trivial⟩ fun TA => ?_
  clear r12
  refine W.seq ?_
  refine W.region ?_
  refine RW.val (by kernel_rfl) (by kernel_rfl) rfl (by kernel_rfl) ?_
  refine RW.call (by kernel_rfl) (by kernel_rfl) rfl rfl rfl (by kernel_rfl) (by kernel_rfl) ⟨_, _, (s_textFull hR h16 ha hmn), ?_⟩
  refine RW.val (by kernel_rfl) (by kernel_rfl) rfl (by kernel_rfl) ?_
  refine RW.val (by kernel_rfl) (by kernel_rfl) rfl (by kernel_rfl) ?_
  refine RW.val (by kernel_rfl) (by kernel_rfl) rfl (by kernel_rfl) ?_
  refine RW.varS (d := 14) (r0 := ⟨[.int .i64 0, .int .i64 0], 24, false⟩) (vs := #[.int .i64 ((0, 0) : Wd).1, .int .i64 ((0, 0) : Wd).2]) (by kernel_rfl) (by kernel_rfl) (by kernel_rfl) rfl (by kernel_rfl) rfl (by kernel_rfl) rfl rfl rfl rfl (by kernel_rfl) rfl (by omega) ?_
  intro σq2 _ r14 oq nq aq
  have K : ∀ b y, σq1.get b = some y → σq2.get b = some y := oq
  replace g8 := grow_old g8 K
  replace hR : RowsAt rowsU σq2 := fun g cs hm => by obtain ⟨t, f, e⟩ := hR g cs hm; exact ⟨t, f, K _ _ e⟩
  replace gn : G ≤ σq2.next := by omega
  replace nz : σ.next ≤ σq2.next := by omega
  replace ha := aq.trans ha
  clear K
  clear oq nq aq
  refine RW.val (by kernel_rfl) (by kernel_rfl) rfl (by kernel_rfl) ?_
  refine RW.nil ?_
  refine W.reset [(1, .int .i64 wh), (5, .int .i64 (i : Int)), (6, pp σ0.next), (8, v), (13, .int .i64 7), (14, pp σq1.next), (15, .int .i64 7)] ⟨rfl, rfl, rfl, rfl, rfl, rfl, rfl, trivial⟩ fun TA => ?_
  clear r14
  refine W.seq ?_
  refine W.region ?_
  refine RW.val (by kernel_rfl) (by kernel_rfl) rfl (by kernel_rfl) ?_
  refine RW.val (v := .agg #[.int .i64 0, .int .i64 0, .int .i64 0, .slice none 0 0, .slice none 0 0]) (by kernel_rfl) (by kernel_rfl) (by kernel_rfl) (by kernel_rfl) ?_
  refine RW.call (by kernel_rfl) (by kernel_rfl) rfl rfl rfl (by kernel_rfl) (by kernel_rfl) ((code_full (G := G) (m := hmF i i) gn ha hn0 hmn).mono ?_)
  rintro _ σp3 ⟨rfl, Gp⟩
  have np := Gp.nx
  refine RW.val (by kernel_rfl) (by kernel_rfl) rfl (by kernel_rfl) ?_
  refine RW.val (by kernel_rfl) (by kernel_rfl) rfl (by kernel_rfl) ?_
  refine RW.val (by kernel_rfl) (by kernel_rfl) rfl (by kernel_rfl) ?_
  refine RW.varS (d := 16) (r0 := ⟨[.int .i64 0, .int .i64 0], 24, false⟩) (vs := #[.int .i64 ((0, 0) : Wd).1, .int .i64 ((0, 0) : Wd).2]) (by kernel_rfl) (by kernel_rfl) (by kernel_rfl) rfl (by kernel_rfl) rfl (by kernel_rfl) rfl rfl rfl rfl (by kernel_rfl) rfl (by omega) ?_
  intro σq3 _ _r16 oq nq aq
  have K : ∀ b y, σq2.get b = some y → σq3.get b = some y := fun b y hy => oq b y (Gp.old b y hy)
  replace g8 := grow_old g8 K
  replace hR : RowsAt rowsU σq3 := fun g cs hm => by obtain ⟨t, f, e⟩ := hR g cs hm; exact ⟨t, f, K _ _ e⟩
  replace gn : G ≤ σq3.next := by omega
  replace nz : σ.next ≤ σq3.next := by omega
  replace ha := aq.trans (Gp.abs.trans ha)
  clear K
  clear oq nq aq Gp np _r16
  refine RW.val (by kernel_rfl) (by kernel_rfl) rfl (by kernel_rfl) ?_
  refine RW.nil ?_
  refine W.reset [(1, .int .i64 wh), (5, .int .i64 (i : Int)), (6, pp σ0.next), (8, v), (13, .int .i64 7), (15, .int .i64 7), (17, .int .i64 7)] ⟨rfl, rfl, rfl, rfl, rfl, rfl, rfl, trivial⟩ fun TA => ?_
  have pw := pick_range wh i (by omega)
  obtain ⟨k, hk⟩ : ∃ k : Nat, pickOf wh i = (k : Int) := ⟨_, (Int.toNat_of_nonneg pw.1).symm⟩
  have hki : k < i := by omega
  have CP := s_pick (G := G) (σ := σq3) wh i hw1 hw2 (by omega) (by omega)
  rw [hk] at CP
  refine W.seq ?_
  refine W.region ?_
  refine RW.val (by kernel_rfl) (by kernel_rfl) rfl (by kernel_rfl) ?_
  refine RW.val (by kernel_rfl) (by kernel_rfl) rfl (by kernel_rfl) ?_
  refine RW.call (by kernel_rfl) (by kernel_rfl) rfl rfl rfl (by kernel_rfl) (by kernel_rfl) ⟨_, _, CP, ?_⟩
  refine RW.val (by kernel_rfl) (by kernel_rfl) rfl (by kernel_rfl) ?_
  clear CP pw
  refine RW.nil ?_
  refine W.reset [(5, .int .i64 (i : Int)), (6, pp σ0.next), (8, v), (13, .int .i64 7), (15, .int .i64 7), (17, .int .i64 7), (18, .int .i64 (k : Int))] ⟨rfl, rfl, rfl, rfl, rfl, rfl, rfl, trivial⟩ fun TA => ?_
  have hpl := prF_length i
  obtain ⟨lo, q1, q2⟩ := cut_low (k := k) g8 (by omega) (by omega)
  obtain ⟨hi, q3, q4⟩ := cut_high (k := k + 1) g8 (by omega) (by omega)
  obtain ⟨vo, σo, hS, Go, oW, bo⟩ := own_wc (G := G) (v := lo) (l := (prF i).take k) gn (q2 _ (fun _ _ h => h)) (fun σ h => q2 σ h) (by rw [List.length_take]; omega)
  have no := Go.nx
  obtain ⟨vr, cmd, k1, k2, k3, k4, k5, _⟩ := own_append oW (q4 σo Go.old) (by omega) (by rw [List.length_take, List.length_drop]; omega)
  refine W.seq ?_
  refine W.drawn (by kernel_rfl) (by kernel_rfl) gn ?_
  refine RW.val (by kernel_rfl) (by kernel_rfl) rfl (by kernel_rfl) ?_
  refine RW.val (by kernel_rfl) (by kernel_rfl) rfl (by kernel_rfl) ?_
  refine RW.vop (by kernel_rfl) (by kernel_rfl) (vop_slice rfl q1) (by kernel_rfl) ?_
  refine RW.call (by kernel_rfl) (by kernel_rfl) rfl rfl rfl (by kernel_rfl) (by kernel_rfl) ⟨_, _, hS, ?_⟩
  refine RW.val (by kernel_rfl) (by kernel_rfl) rfl (by kernel_rfl) ?_
  refine RW.val (by kernel_rfl) (by kernel_rfl) rfl (by kernel_rfl) ?_
  refine RW.valE (by kernel_rfl) (by kernel_rfl) rfl (congrArg (Value.int .i64) (wrap_in (by omega) (by omega))) (by kernel_rfl) ?_
  refine RW.vop (by kernel_rfl) (by kernel_rfl) (vop_slice rfl q3) (by kernel_rfl) ?_
  refine RW.append (by kernel_rfl) (by kernel_rfl) rfl rfl rfl rfl k1 (by kernel_rfl) ?_
  refine RW.val (by kernel_rfl) (by kernel_rfl) rfl (by kernel_rfl) ?_
  refine RW.nil ?_
  refine ⟨⟨by kernel_rfl, ?_⟩, ?_⟩
  · repeat' (first | exact True.intro | exact fun h => Bool.noConfusion h | refine And.intro ?_ ?_ | exact Or.inl (by kernel_rfl))
  show W G Tryd.prog _ _ _ _ _ (MCmd.app σo cmd) _
  generalize MCmd.app σo cmd = σr at k2 k3 k4 k5 ⊢
  have K : ∀ b y, σq3.get b = some y → σr.get b = some y := fun b y hy => k5 b y (Go.old b y hy) (fun e => by have := bo b e; have := Mem.lt hy; omega)
  replace g8 := grow_old g8 K
  replace hR : RowsAt rowsU σr := fun g cs hm => by obtain ⟨t, f, e⟩ := hR g cs hm; exact ⟨t, f, K _ _ e⟩
  replace gn : G ≤ σr.next := by omega
  replace nz : σ.next ≤ σr.next := by omega
  replace ha := k4.trans (Go.abs.trans ha)
  clear K
  clear Go oW bo no k1 k3 k4 k5 q1 q2 q3 q4 hS
  refine W.reset [(5, .int .i64 (i : Int)), (6, pp σ0.next), (8, v), (13, .int .i64 7), (15, .int .i64 7), (17, .int .i64 7), (18, .int .i64 (k : Int)), (19, vr)] ⟨rfl, rfl, rfl, rfl, rfl, rfl, rfl, rfl, trivial⟩ fun TA => ?_
  obtain ⟨m2, C⟩ := cutF hki
  have hsl : Sl σr 2 vr (wdC (rootsF i k)) := k2.sl
  have hrl : (rootsF i k).length ≤ 2000000 := by unfold rootsF; rw [List.length_append, List.length_take, List.length_drop]; omega
  have CC := s_collect (G := G) vr (rootsF i k) (mkF i k) hsl ha (fun M' hM => marksF hM) hrl hR h16 (fun j s e => by have hj := (List.getElem?_eq_some_iff.1 e).1; rw [hmF_len] at hj; rw [hmF_get hj] at e; cases e)
  rw [C.gone, C.is] at CC
  obtain ⟨C1, C2, C3, C4⟩ : m2.limit = i ∧ m2.free = [(k : Int)] ∧ m2.objs[k]? = some none ∧ m2.many = i - 1 := ⟨C.limit, C.free, C.hole, C.many⟩
  refine W.seq ?_
  refine W.region ?_
  refine RW.val (by kernel_rfl) (by kernel_rfl) rfl (by kernel_rfl) ?_
  refine RW.val (by kernel_rfl) (by kernel_rfl) rfl (by kernel_rfl) ?_
  refine RW.call (by kernel_rfl) (by kernel_rfl) rfl rfl rfl (by kernel_rfl) (by kernel_rfl) ⟨_, _, CC, ?_⟩
  refine RW.val (by kernel_rfl) (by kernel_rfl) rfl (by kernel_rfl) ?_
  refine RW.nil ?_
  obtain ⟨σs4, hs⟩ : ∃ s, s = σr.with (heapAbs σ0.next m2) := ⟨_, rfl⟩
  show W G Tryd.prog none _ _ _ _ (σr.with (heapAbs σ0.next m2)) _
  rw [← hs]
  have ns : σs4.next = σr.next := by rw [hs]; rfl
  have K : ∀ b y, σr.get b = some y → σs4.get b = some y := fun b y hy => by rw [hs, with_get]; exact hy
  replace g8 := grow_old g8 K
  replace hR : RowsAt rowsU σs4 := fun g cs hm => by obtain ⟨t, f, e⟩ := hR g cs hm; exact ⟨t, f, K _ _ e⟩
  replace gn : G ≤ σs4.next := by omega
  replace nz : σ.next ≤ σs4.next := by omega
  replace ha := (show σs4.abs = heapAbs σ0.next m2 by rw [hs]; rfl)
  clear K
  clear hs ns CC hsl k2
  refine W.reset [(5, .int .i64 (i : Int)), (6, pp σ0.next), (8, v), (13, .int .i64 7), (15, .int .i64 7), (17, .int .i64 7), (18, .int .i64 (k : Int)), (20, .int .i64 ((1 : Nat) : Int))] ⟨rfl, rfl, rfl, rfl, rfl, rfl, rfl, rfl, trivial⟩ fun TA => ?_
  have CV := s_vecF (G := G) ha (by omega) C2 C3
  obtain ⟨t1, t2⟩ := takeF C hki
  obtain ⟨m3, hm3⟩ : ∃ m, m = m2.take k (.vec []) := ⟨_, rfl⟩
  rw [← hm3] at CV t1 t2
  refine W.seq ?_
  refine W.region ?_
  refine RW.val (by kernel_rfl) (by kernel_rfl) rfl (by kernel_rfl) ?_
  refine RW.call (by kernel_rfl) (by kernel_rfl) rfl rfl rfl (by kernel_rfl) (by kernel_rfl) ⟨_, _, CV, ?_⟩
  refine RW.val (by kernel_rfl) (by kernel_rfl) rfl (by kernel_rfl) ?_
  refine RW.val (by kernel_rfl) (by kernel_rfl) rfl (by kernel_rfl) ?_
  refine RW.val (by kernel_rfl) (by kernel_rfl) rfl (by kernel_rfl) ?_
  have nw : (σs4.with (heapAbs σ0.next m3)).next = σs4.next := rfl
  refine RW.varS (d := 21) (r0 := ⟨[.int .i64 0, .int .i64 0], 24, false⟩) (vs := #[.int .i64 ((4, (k : Int)) : Wd).1, .int .i64 ((4, (k : Int)) : Wd).2]) (by kernel_rfl) (by kernel_rfl) (by kernel_rfl) rfl (by kernel_rfl) rfl (by kernel_rfl) rfl rfl rfl rfl (by kernel_rfl) rfl (by show G ≤ σs4.next; exact gn) ?_
  intro σq5 _ r21 oq nq aq
  rw [nw] at r21 nq
  have K : ∀ b y, σs4.get b = some y → σq5.get b = some y := fun b y hy => oq b y hy
  replace g8 := grow_old g8 K
  replace hR : RowsAt rowsU σq5 := fun g cs hm => by obtain ⟨t, f, e⟩ := hR g cs hm; exact ⟨t, f, K _ _ e⟩
  replace gn : G ≤ σq5.next := by omega
  replace nz : σ.next ≤ σq5.next := by omega
  replace ha := aq
  clear K
  clear oq nq aq nw CV
  refine RW.val (by kernel_rfl) (by kernel_rfl) rfl (by kernel_rfl) ?_
  refine RW.nil ?_
  refine W.reset [(5, .int .i64 (i : Int)), (6, pp σ0.next), (8, v), (13, .int .i64 7), (15, .int .i64 7), (17, .int .i64 7), (18, .int .i64 (k : Int)), (20, .int .i64 ((1 : Nat) : Int)), (21, pp σs4.next), (22, .int .i64 0)] ⟨rfl, rfl, rfl, rfl, rfl, rfl, rfl, rfl, rfl, rfl, trivial⟩ fun TA => ?_
  have pq := pick_range ((k + 1 : Nat) : Int) i (by omega)
  obtain ⟨q, hq⟩ : ∃ q : Nat, pickOf ((k + 1 : Nat) : Int) i = (q : Int) := ⟨_, (Int.toNat_of_nonneg pq.1).symm⟩
  have hqi : q < i := by omega
  have hqk : i = 1 ∨ q ≠ k := by
    by_cases h1 : i = 1
    · exact .inl h1
    · refine .inr fun e => ?_
      have h2 : pickOf ((k + 1 : Nat) : Int) i = (((k + 1) % i : Nat) : Int) := by
        unfold pickOf
        rw [if_neg (by omega), Int.tmod_eq_emod_of_nonneg (by omega), if_neg (by omega)]
        exact (Int.natCast_emod _ _).symm
      rw [h2] at hq
      have h3 : (k + 1) % i = q := by omega
      rcases Nat.lt_or_ge (k + 1) i with h4 | h4
      · rw [Nat.mod_eq_of_lt h4] at h3; omega
      · have h5 : k + 1 = i := by omega
        rw [h5, Nat.mod_self] at h3; omega
  have CQ : ∀ σ, SCall G Tryd.prog 13 #[.int .i64 ((k + 1 : Nat) : Int), .int .i64 (i : Int)] σ (.int .i64 (q : Int)) σ := fun σ => by have := s_pick (G := G) (σ := σ) ((k + 1 : Nat) : Int) i (by omega) (by omega) (by omega) (by omega); rwa [hq] at this
  obtain ⟨qb, pb, sp, cc, rr, hsl, hqr, hqc⟩ := sl_at (l := prF i) (j := q) g8.sl (by omega)
  rw [hpl] at hsl
  rw [show (prF i).getD q (0, 0) = (2, (q : Int)) by rw [List.getD_eq_getElem?_getD, prF_at hqi]; rfl] at hqc
  obtain ⟨wc, ce, hwc⟩ : ∃ wc ce, m3.car (2, (q : Int)) = (wc, ce) := ⟨_, _, rfl⟩
  have hfin : i = 1 ∨ (i ≠ 1 ∧ wc = (0, (q : Int)) ∧ ce = 0) := by
    by_cases h1 : i = 1
    · exact .inl h1
    · refine .inr ⟨h1, ?_⟩
      rw [car_ofF (t2 q hqi (hqk.resolve_left h1))] at hwc
      cases hwc
      exact ⟨rfl, rfl⟩
  have CR := s_car (G := G) (2, (q : Int)) ha
  rw [hwc] at CR
  refine W.seq ?_
  refine W.region ?_
  refine RW.val (by kernel_rfl) (by kernel_rfl) rfl (by kernel_rfl) ?_
  refine RW.val (by kernel_rfl) (by kernel_rfl) rfl (by kernel_rfl) ?_
  refine RW.val (by kernel_rfl) (by kernel_rfl) rfl (by kernel_rfl) ?_
  refine RW.valE (by kernel_rfl) (by kernel_rfl) rfl (congrArg (Value.int .i64) (wrap_in (by omega) (by omega))) (by kernel_rfl) ?_
  refine RW.val (by kernel_rfl) (by kernel_rfl) rfl (by kernel_rfl) ?_
  refine RW.call (by kernel_rfl) (by kernel_rfl) rfl rfl rfl (by kernel_rfl) (by kernel_rfl) ⟨_, _, (CQ _), ?_⟩
  refine RW.know 102 (x := .slice (some ⟨qb, pb, sp⟩) i cc) hsl ?_
  refine RW.idx (s := 2) (by kernel_rfl) (by kernel_rfl) rfl Tryd.underlying22 (by kernel_rfl) rfl rfl ⟨by omega, by omega⟩ (by kernel_rfl) ?_
  refine RW.loads 2 (by kernel_rfl) (by kernel_rfl) rfl rfl hqr hqc rfl (by kernel_rfl) ?_
  refine RW.call (by kernel_rfl) (by kernel_rfl) rfl rfl rfl (by kernel_rfl) (by kernel_rfl) ⟨_, _, CR, ?_⟩
  refine RW.val (by kernel_rfl) (by kernel_rfl) rfl (by kernel_rfl) ?_
  refine RW.val (by kernel_rfl) (by kernel_rfl) rfl (by kernel_rfl) ?_
  refine RW.val (by kernel_rfl) (by kernel_rfl) rfl (by kernel_rfl) ?_
  refine RW.varS (d := 23) (r0 := ⟨[.int .i64 0, .int .i64 0], 24, false⟩) (vs := #[.int .i64 wc.1, .int .i64 wc.2]) (by kernel_rfl) (by kernel_rfl) (by kernel_rfl) rfl (by kernel_rfl) rfl (by kernel_rfl) rfl rfl rfl rfl (by kernel_rfl) rfl (by omega) ?_
  intro σq6 _ r23 oq nq aq
  have K : ∀ b y, σq5.get b = some y → σq6.get b = some y := oq
  replace r21 := K _ _ r21
  replace g8 := grow_old g8 K
  replace hR : RowsAt rowsU σq6 := fun g cs hm => by obtain ⟨t, f, e⟩ := hR g cs hm; exact ⟨t, f, K _ _ e⟩
  replace gn : G ≤ σq6.next := by omega
  replace nz : σ.next ≤ σq6.next := by omega
  replace ha := aq.trans ha
  clear K
  clear oq nq aq CR hqr hqc
  refine RW.val (by kernel_rfl) (by kernel_rfl) rfl (by kernel_rfl) ?_
  refine RW.nil ?_
  refine W.reset [(5, .int .i64 (i : Int)), (6, pp σ0.next), (8, v), (13, .int .i64 7), (15, .int .i64 7), (17, .int .i64 7), (18, .int .i64 (k : Int)), (20, .int .i64 ((1 : Nat) : Int)), (21, pp σs4.next), (22, .int .i64 0), (23, pp σq5.next), (24, .int .i64 ce)] ⟨rfl, rfl, rfl, rfl, rfl, rfl, rfl, rfl, rfl, rfl, rfl, rfl, trivial⟩ fun TA => ?_
  have CM := s_many (G := G) ha
  rw [t1] at CM
  refine W.seq ?_
  rcases hfin with h1 | ⟨h1, hw1', hc1⟩
  · refine W.drawnS (by kernel_rfl) (by kernel_rfl) gn ?_
    refine RW.val (by kernel_rfl) (by kernel_rfl) rfl (by kernel_rfl) ?_
    refine RW.valE (v' := .bool true) (by kernel_rfl) (by kernel_rfl) rfl (congrArg Value.bool (beq_iff_eq.2 rfl)) (by kernel_rfl) ?_
    refine RW.val (by kernel_rfl) (by kernel_rfl) rfl (by kernel_rfl) ?_
    refine RW.val (by rfl) (by kernel_rfl) rfl (by kernel_rfl) ?_
    refine RW.valE (v' := .bool true) (by rfl) (by kernel_rfl) rfl (congrArg Value.bool (beq_iff_eq.2 rfl)) (by kernel_rfl) ?_
    refine RW.val (by kernel_rfl) (by kernel_rfl) rfl (by kernel_rfl) ?_
    refine RW.val (by kernel_rfl) (by kernel_rfl) rfl (by kernel_rfl) ?_
    refine RW.val (by rfl) (by kernel_rfl) rfl (by kernel_rfl) ?_
    refine RW.valE (v' := .bool true) (by rfl) (by kernel_rfl) rfl (congrArg Value.bool (beq_iff_eq.2 rfl)) (by kernel_rfl) ?_
    refine RW.val (by kernel_rfl) (by kernel_rfl) rfl (by kernel_rfl) ?_
    refine RW.val (by kernel_rfl) (by kernel_rfl) rfl (by kernel_rfl) ?_
    refine RW.val (by rfl) (by kernel_rfl) rfl (by kernel_rfl) ?_
    refine RW.valE (v' := .bool true) (by rfl) (by kernel_rfl) rfl (congrArg Value.bool (beq_iff_eq.2 rfl)) (by kernel_rfl) ?_
    refine RW.val (by kernel_rfl) (by kernel_rfl) rfl (by kernel_rfl) ?_
    refine RW.val (by kernel_rfl) (by kernel_rfl) rfl (by kernel_rfl) ?_
    refine RW.val (by rfl) (by kernel_rfl) rfl (by kernel_rfl) ?_
    refine RW.valE (v' := .bool true) (by rfl) (by kernel_rfl) rfl (congrArg Value.bool (beq_iff_eq.2 rfl)) (by kernel_rfl) ?_
    refine RW.val (by kernel_rfl) (by kernel_rfl) rfl (by kernel_rfl) ?_
    refine RW.val (by kernel_rfl) (by kernel_rfl) rfl (by kernel_rfl) ?_
    refine RW.loads 2 (by rfl) (by kernel_rfl) rfl rfl r21 rfl rfl (by kernel_rfl) ?_
    refine RW.val (by rfl) (by kernel_rfl) rfl (by kernel_rfl) ?_
    refine RW.call (by rfl) (by kernel_rfl) rfl rfl rfl (by kernel_rfl) (by kernel_rfl) ⟨_, _, (s_word _ _), ?_⟩
    refine RW.vop (v := .bool (true)) (by rfl) (by kernel_rfl) (vop_eqS (b := true) (r := true) rfl (.inl ⟨rfl, rfl⟩) rfl rfl rfl rfl (by kernel_rfl) (fun w => (eqWd _ _ _ _ w).trans (by simp))) (by kernel_rfl) ?_
    refine RW.val (by kernel_rfl) (by kernel_rfl) rfl (by kernel_rfl) ?_
    refine RW.val (by kernel_rfl) (by kernel_rfl) rfl (by kernel_rfl) ?_
    refine RW.val (by rfl) (by kernel_rfl) rfl (by kernel_rfl) ?_
    refine RW.call (by rfl) (by kernel_rfl) rfl rfl rfl (by kernel_rfl) (by kernel_rfl) ⟨_, _, CM, ?_⟩
    refine RW.val (by rfl) (by kernel_rfl) rfl (by kernel_rfl) ?_
    refine RW.valE (v' := .bool true) (by rfl) (by kernel_rfl) rfl (congrArg Value.bool (beq_iff_eq.2 rfl)) (by kernel_rfl) ?_
    refine RW.val (by kernel_rfl) (by kernel_rfl) rfl (by kernel_rfl) ?_
    refine RW.val (by kernel_rfl) (by kernel_rfl) rfl (by kernel_rfl) ?_
    refine RW.val (by rfl) (by kernel_rfl) rfl (by kernel_rfl) ?_
    refine RW.valE (v' := .bool true) (by rfl) (by kernel_rfl) rfl (congrArg Value.bool (beq_iff_eq.2 (by omega))) (by kernel_rfl) ?_
    refine RW.val (by rfl) (by kernel_rfl) rfl (by kernel_rfl) ?_
    refine RW.skip (by rfl) (by kernel_rfl) ?_
    refine RW.skip (by rfl) (by kernel_rfl) ?_
    refine RW.skip (by rfl) (by kernel_rfl) ?_
    refine RW.skip (by rfl) (by kernel_rfl) ?_
    refine RW.skip (by rfl) (by kernel_rfl) ?_
    refine RW.skip (by rfl) (by kernel_rfl) ?_
    refine RW.skip (by rfl) (by kernel_rfl) ?_
    refine RW.skip (by rfl) (by kernel_rfl) ?_
    refine RW.skip (by rfl) (by kernel_rfl) ?_
    refine RW.skip (by rfl) (by kernel_rfl) ?_
    refine RW.skip (by rfl) (by kernel_rfl) ?_
    refine RW.val (by rfl) (by kernel_rfl) rfl (by kernel_rfl) ?_
    refine RW.val (by kernel_rfl) (by kernel_rfl) rfl (by kernel_rfl) ?_
    refine RW.val (by kernel_rfl) (by kernel_rfl) rfl (by kernel_rfl) ?_
    refine RW.nil ?_
    refine ⟨⟨by kernel_rfl, ?_, fun b => rfl⟩, ?_⟩
    · repeat' (first | exact True.intro | exact fun _ => rfl | exact ⟨_, r21⟩ | exact ⟨_, r23⟩ | refine And.intro ?_ ?_)
    refine W.ret ?_
    exact endG (R := fun v _ => v = Value.bool true) rfl (resL_tmp rfl) rfl
  · subst hw1' hc1
    refine W.drawnS (by kernel_rfl) (by kernel_rfl) gn ?_
    refine RW.val (by kernel_rfl) (by kernel_rfl) rfl (by kernel_rfl) ?_
    refine RW.valE (v' := .bool true) (by kernel_rfl) (by kernel_rfl) rfl (congrArg Value.bool (beq_iff_eq.2 rfl)) (by kernel_rfl) ?_
    refine RW.val (by kernel_rfl) (by kernel_rfl) rfl (by kernel_rfl) ?_
    refine RW.val (by rfl) (by kernel_rfl) rfl (by kernel_rfl) ?_
    refine RW.valE (v' := .bool true) (by rfl) (by kernel_rfl) rfl (congrArg Value.bool (beq_iff_eq.2 rfl)) (by kernel_rfl) ?_
    refine RW.val (by kernel_rfl) (by kernel_rfl) rfl (by kernel_rfl) ?_
    refine RW.val (by kernel_rfl) (by kernel_rfl) rfl (by kernel_rfl) ?_
    refine RW.val (by rfl) (by kernel_rfl) rfl (by kernel_rfl) ?_
    refine RW.valE (v' := .bool true) (by rfl) (by kernel_rfl) rfl (congrArg Value.bool (beq_iff_eq.2 rfl)) (by kernel_rfl) ?_
    refine RW.val (by kernel_rfl) (by kernel_rfl) rfl (by kernel_rfl) ?_
    refine RW.val (by kernel_rfl) (by kernel_rfl) rfl (by kernel_rfl) ?_
    refine RW.val (by rfl) (by kernel_rfl) rfl (by kernel_rfl) ?_
    refine RW.valE (v' := .bool true) (by rfl) (by kernel_rfl) rfl (congrArg Value.bool (beq_iff_eq.2 rfl)) (by kernel_rfl) ?_
    refine RW.val (by kernel_rfl) (by kernel_rfl) rfl (by kernel_rfl) ?_
    refine RW.val (by kernel_rfl) (by kernel_rfl) rfl (by kernel_rfl) ?_
    refine RW.val (by rfl) (by kernel_rfl) rfl (by kernel_rfl) ?_
    refine RW.valE (v' := .bool true) (by rfl) (by kernel_rfl) rfl (congrArg Value.bool (beq_iff_eq.2 rfl)) (by kernel_rfl) ?_
    refine RW.val (by kernel_rfl) (by kernel_rfl) rfl (by kernel_rfl) ?_
    refine RW.val (by kernel_rfl) (by kernel_rfl) rfl (by kernel_rfl) ?_
    refine RW.loads 2 (by rfl) (by kernel_rfl) rfl rfl r21 rfl rfl (by kernel_rfl) ?_
    refine RW.val (by rfl) (by kernel_rfl) rfl (by kernel_rfl) ?_
    refine RW.call (by rfl) (by kernel_rfl) rfl rfl rfl (by kernel_rfl) (by kernel_rfl) ⟨_, _, (s_word _ _), ?_⟩
    refine RW.vop (v := .bool (true)) (by rfl) (by kernel_rfl) (vop_eqS (b := true) (r := true) rfl (.inl ⟨rfl, rfl⟩) rfl rfl rfl rfl (by kernel_rfl) (fun w => (eqWd _ _ _ _ w).trans (by simp))) (by kernel_rfl) ?_
    refine RW.val (by kernel_rfl) (by kernel_rfl) rfl (by kernel_rfl) ?_
    refine RW.val (by kernel_rfl) (by kernel_rfl) rfl (by kernel_rfl) ?_
    refine RW.val (by rfl) (by kernel_rfl) rfl (by kernel_rfl) ?_
    refine RW.call (by rfl) (by kernel_rfl) rfl rfl rfl (by kernel_rfl) (by kernel_rfl) ⟨_, _, CM, ?_⟩
    refine RW.val (by rfl) (by kernel_rfl) rfl (by kernel_rfl) ?_
    refine RW.valE (v' := .bool true) (by rfl) (by kernel_rfl) rfl (congrArg Value.bool (beq_iff_eq.2 rfl)) (by kernel_rfl) ?_
    refine RW.val (by kernel_rfl) (by kernel_rfl) rfl (by kernel_rfl) ?_
    refine RW.val (by kernel_rfl) (by kernel_rfl) rfl (by kernel_rfl) ?_
    refine RW.val (by rfl) (by kernel_rfl) rfl (by kernel_rfl) ?_
    refine RW.valE (v' := .bool false) (by rfl) (by kernel_rfl) rfl (congrArg Value.bool (beq_eq_false_iff_ne.2 (by omega))) (by kernel_rfl) ?_
    refine RW.val (by rfl) (by kernel_rfl) rfl (by kernel_rfl) ?_
    refine RW.val (by rfl) (by kernel_rfl) rfl (by kernel_rfl) ?_
    refine RW.valE (v' := .bool true) (by rfl) (by kernel_rfl) rfl (congrArg Value.bool (beq_iff_eq.2 rfl)) (by kernel_rfl) ?_
    refine RW.val (by rfl) (by kernel_rfl) rfl (by kernel_rfl) ?_
    refine RW.loads 2 (by rfl) (by kernel_rfl) rfl rfl r23 rfl rfl (by kernel_rfl) ?_
    refine RW.val (by rfl) (by kernel_rfl) rfl (by kernel_rfl) ?_
    refine RW.valE (by rfl) (by kernel_rfl) rfl (congrArg (Value.int .i64) (wrap_in (by omega) (by omega))) (by kernel_rfl) ?_
    refine RW.val (by rfl) (by kernel_rfl) rfl (by kernel_rfl) ?_
    refine RW.call (by rfl) (by kernel_rfl) rfl rfl rfl (by kernel_rfl) (by kernel_rfl) ⟨_, _, (CQ _), ?_⟩
    refine RW.call (by rfl) (by kernel_rfl) rfl rfl rfl (by kernel_rfl) (by kernel_rfl) ⟨_, _, (s_int _), ?_⟩
    refine RW.vop (v := .bool (true)) (by rfl) (by kernel_rfl) (vop_eqS (b := true) (r := true) rfl (.inl ⟨rfl, rfl⟩) rfl rfl rfl rfl (by kernel_rfl) (fun w => (eqWd _ _ _ _ w).trans (by simp))) (by kernel_rfl) ?_
    refine RW.val (by rfl) (by kernel_rfl) rfl (by kernel_rfl) ?_
    refine RW.val (by rfl) (by kernel_rfl) rfl (by kernel_rfl) ?_
    refine RW.val (by kernel_rfl) (by kernel_rfl) rfl (by kernel_rfl) ?_
    refine RW.val (by kernel_rfl) (by kernel_rfl) rfl (by kernel_rfl) ?_
    refine RW.nil ?_
    refine ⟨⟨by kernel_rfl, ?_, fun b => rfl⟩, ?_⟩
    · repeat' (first | exact True.intro | exact fun _ => rfl | exact ⟨_, r21⟩ | exact ⟨_, r23⟩ | refine And.intro ?_ ?_)
    refine W.ret ?_
    exact endG (R := fun v _ => v = Value.bool true) rfl (resL_tmp rfl) rfl
end Go.Proofs.YthmfiahmfdadgaaDoor
