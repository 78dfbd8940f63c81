/-
  ListsTaken in the second memory: the whole law. Conditions: the tables of unicode/utf8 lie as laid.
-/
import Derived.Test.YtehcckhdppdkcaaGreatDoorMq
import Derived.Test.YtehcckhdppdkcaaGreatDoorLsRun
namespace Go.Proofs.YtehcckhdppdkcaaGreatDoor
open Go.RowKit
set_option maxRecDepth 100000
/-- What is known of the temporaries, in place of how it came. -/
theorem RW.reset {P : Program} {G nt : Nat} {ops : Array Oper} {l : List Oper} {ta : Nat → Value} {σ : Mem} {rs : List (Rec × Mem)} {K : (Nat → Value) → Mem → Prop} (L : List (Nat × Value)) (h : OkL ta L) (k : ∀ TA rs', RW G P nt ops l (updL TA L) σ rs' fun _ => K) : RW G P nt ops l ta σ rs fun _ => K := by
  have := k ta rs
  rwa [updL_same h] at this
set_option maxHeartbeats 8000000 in
theorem taken_wc {G : Nat} {σ0 : Mem} {v0 : Value} {l : List Int} {x : Int} (hG : G ≤ σ0.next) (a0 : ArgI G σ0 v0 l) (hx1 : -9223372036854775808 ≤ x) (hx2 : x ≤ 9223372036854775807) (h16 : 16 ≤ G) (hR : RowsAt rowsU σ0) (hno : σ0.abs = Abs.no) :
    WC G Tryz.prog 6 #[v0, .int .i64 x] σ0 fun v _ => v = .bool true := by
  refine WC.enter (fn := Tryz.f6) Tryz.func6 rfl ?_
  refine W.know 0 (x := v0) rfl (W.know 1 (x := .int .i64 x) rfl ?_)
  refine W.seq ?_
  refine W.region ?_
  refine RW.val (by kernel_rfl) (by kernel_rfl) rfl (by kernel_rfl) ?_
  refine RW.nil ?_
  refine W.reset [(0, v0), (1, .int .i64 x)] ⟨rfl, rfl, trivial⟩ fun TA => ?_
  refine W.seq ?_
  refine W.seq ?_
  refine W.region ?_
  refine RW.call (by kernel_rfl) (by kernel_rfl) rfl rfl rfl (by kernel_rfl) (by kernel_rfl) ⟨_, _, (s_lives h16 σ0 hR), ?_⟩
  refine RW.val (by kernel_rfl) (by kernel_rfl) rfl (by kernel_rfl) ?_
  refine RW.nil ?_
  refine W.cond (b := false) rfl (fun h => by cases h) (fun _ => ?_)
  refine W.skip ?_
  refine W.reset [(0, v0), (1, .int .i64 x)] ⟨rfl, rfl, trivial⟩ fun TA => ?_
  refine W.seq ?_
  refine W.seq ?_
  refine W.region ?_
  refine RW.val (by kernel_rfl) (by kernel_rfl) rfl (by kernel_rfl) ?_
  refine RW.len (by kernel_rfl) (by kernel_rfl) rfl rfl rfl rfl a0.len (by kernel_rfl) ?_
  by_cases hlen : 60 < l.length
  · refine RW.valE (v' := .bool true) (by kernel_rfl) (by kernel_rfl) rfl (congrArg Value.bool (decide_eq_true (by omega))) (by kernel_rfl) ?_
    refine RW.nil ?_
    refine W.cond (b := true) rfl (fun _ => ?_) (fun h => by cases h)
    refine W.seq ?_
    refine W.region ?_
    refine RW.val (by kernel_rfl) (by kernel_rfl) rfl (by kernel_rfl) ?_
    refine RW.nil ?_
    refine W.ret ?_
    exact endG (R := fun v _ => v = Value.bool true) rfl (resL_tmp rfl) rfl
  refine RW.valE (v' := .bool false) (by kernel_rfl) (by kernel_rfl) rfl (congrArg Value.bool (decide_eq_false (by omega))) (by kernel_rfl) ?_
  refine RW.nil ?_
  refine W.cond (b := false) rfl (fun h => by cases h) (fun _ => ?_)
  refine W.skip ?_
  refine W.reset [(0, v0), (1, .int .i64 x)] ⟨rfl, rfl, trivial⟩ fun TA => ?_
  have CN := s_new (G := G) (σ := σ0) 400 (by decide) (by decide) hno
  refine W.seq ?_
  refine W.region ?_
  refine RW.call (by kernel_rfl) (by kernel_rfl) rfl rfl rfl (by kernel_rfl) (by kernel_rfl) ⟨_, _, CN, ?_⟩
  refine RW.val (by kernel_rfl) (by kernel_rfl) rfl (by kernel_rfl) ?_
  refine RW.val (by kernel_rfl) (by kernel_rfl) rfl (by kernel_rfl) ?_
  refine RW.val (by kernel_rfl) (by kernel_rfl) rfl (by kernel_rfl) ?_
  refine RW.val (by kernel_rfl) (by kernel_rfl) rfl (by kernel_rfl) ?_
  refine RW.val (by kernel_rfl) (by kernel_rfl) rfl (by kernel_rfl) ?_
  obtain ⟨σa, hσa⟩ : ∃ s, s = σ0.made 400 := ⟨_, rfl⟩
  rw [← hσa]
  have na : σa.next = σ0.next + 1 := by rw [hσa]; rfl
  have ha : σa.abs = heapAbs σ0.next (hmC (xsI l) 0) := by rw [hσa]; rfl
  have oa : ∀ b y, σ0.get b = some y → σa.get b = some y := fun b y hy => by rw [hσa, made_get]; exact hy
  have gn : G ≤ σa.next := by omega
  clear hσa CN hR hno
  refine RW.nil ?_
  refine W.reset [(0, v0), (1, .int .i64 x), (5, pp σ0.next)] ⟨rfl, rfl, rfl, trivial⟩ fun TA => ?_
  refine W.seq ?_
  refine W.region ?_
  refine RW.val (by kernel_rfl) (by kernel_rfl) rfl (by kernel_rfl) ?_
  refine RW.val (by kernel_rfl) (by kernel_rfl) rfl (by kernel_rfl) ?_
  refine RW.val (by kernel_rfl) (by kernel_rfl) rfl (by kernel_rfl) ?_
  refine RW.nil ?_
  refine W.reset [(0, v0), (1, .int .i64 x), (5, pp σ0.next), (7, .slice none 0 0), (8, .slice none 0 0), (9, .slice none 0 0)] ⟨rfl, rfl, rfl, rfl, rfl, rfl, trivial⟩ fun TA => ?_
  refine W.seq ?_
  refine W.region ?_
  refine RW.val (by kernel_rfl) (by kernel_rfl) rfl (by kernel_rfl) ?_
  refine RW.nil ?_
  refine W.reset [(0, v0), (1, .int .i64 x), (5, pp σ0.next), (7, .slice none 0 0), (8, .slice none 0 0), (9, .slice none 0 0), (10, .int .i64 (-1))] ⟨rfl, rfl, rfl, rfl, rfl, rfl, rfl, trivial⟩ fun TA => ?_
  obtain ⟨wi, hwi⟩ : ∃ wi, wi = pickOf x 5 := ⟨_, rfl⟩
  have CP := s_pick (G := G) (σ := σa) x 5 hx1 hx2 (by decide) (by decide)
  rw [← hwi] at CP
  refine W.seq ?_
  refine W.region ?_
  refine RW.val (by kernel_rfl) (by kernel_rfl) rfl (by kernel_rfl) ?_
  refine RW.call (by kernel_rfl) (by kernel_rfl) rfl rfl rfl (by kernel_rfl) (by kernel_rfl) ⟨_, _, CP, ?_⟩
  refine RW.call (by kernel_rfl) (by kernel_rfl) rfl rfl rfl (by kernel_rfl) (by kernel_rfl) ⟨_, _, (s_int _), ?_⟩
  refine RW.varS (d := 11) (r0 := ⟨[.int .i64 0, .int .i64 0], 37, false⟩) (vs := #[.int .i64 ((0, wi) : Wd).1, .int .i64 ((0, wi) : Wd).2]) (by kernel_rfl) (by kernel_rfl) (by kernel_rfl) rfl (by kernel_rfl) rfl (by kernel_rfl) rfl rfl rfl rfl (by kernel_rfl) rfl (by omega) ?_
  intro σb _ r11 ob nb ab
  clear CP
  replace oa : ∀ b y, σ0.get b = some y → σb.get b = some y := fun b y hy => ob b y (oa b y hy)
  replace gn : G ≤ σb.next := by omega
  replace ha := ab.trans ha
  clear ob ab
  refine RW.nil ?_
  refine W.reset [(0, v0), (1, .int .i64 x), (5, pp σ0.next), (7, .slice none 0 0), (8, .slice none 0 0), (9, .slice none 0 0), (10, .int .i64 (-1)), (11, pp σa.next)] ⟨rfl, rfl, rfl, rfl, rfl, rfl, rfl, rfl, trivial⟩ fun TA => ?_
  obtain ⟨xs, hxs⟩ : ∃ xs, xs = xsI l := ⟨_, rfl⟩
  rw [← hxs] at ha
  have hN : xs.length = l.length := by rw [hxs, xsI_length]
  have hxa : ∀ k, k < l.length → atW xs k = (0, pickOf (l.getD k 0) 5) := fun k hk => by rw [hxs]; exact xsI_at hk
  clear hxs
  refine W.seq ?_
  refine W.seq ?_
  refine W.region ?_
  refine RW.val (by kernel_rfl) (by kernel_rfl) rfl (by kernel_rfl) ?_
  refine RW.nil ?_
  refine W.block ?_
  refine W.loop (fun mm ta σ => ∃ (i : Nat) (v7 v8 v9 : Value) (p : Int), mm + i = l.length ∧ (∀ b y, σb.get b = some y → σ.get b = some y) ∧ σb.next ≤ σ.next ∧ σ.abs = heapAbs σ0.next (hmC xs i) ∧ Three G σ σb.next v7 v8 v9 (firstN (atW xs) i) (remW (0, wi) (atW xs) i) (prW i) ∧ AtI (0, wi) (atW xs) i p ∧ ta 0 = v0 ∧ ta 5 = pp σ0.next ∧ ta 11 = pp σa.next ∧ ta 7 = v7 ∧ ta 8 = v8 ∧ ta 9 = v9 ∧ ta 10 = .int .i64 p ∧ ta 12 = .int .i64 (i : Int)) l.length ?_ ?_
  · exact ⟨0, _, _, _, _, rfl, fun _ _ h => h, Nat.le_refl _, ha, ⟨.nil, .nil, .nil, (fun b hb => by cases hb), (fun b hb => by cases hb), (fun b hb => by cases hb), (fun b hb => by cases hb), (fun b hb => by cases hb), (fun b hb => by cases hb)⟩, .inl ⟨rfl, fun j hj => absurd hj (by omega)⟩, rfl, rfl, rfl, rfl, rfl, rfl, rfl, rfl⟩
  rintro mm ta σ ⟨i, v7, v8, v9, p, hm, ho, hnx, hab, T, hat, e0, e5, e11, e7, e8, e9, e10, e12⟩
  refine W.know 0 e0 (W.know 5 e5 (W.know 11 e11 (W.know 7 e7 (W.know 8 e8 (W.know 9 e9 (W.know 10 e10 (W.know 12 e12 (?_))))))))
  refine W.seq ?_
  refine W.seq ?_
  refine W.region ?_
  refine RW.val (by kernel_rfl) (by kernel_rfl) rfl (by kernel_rfl) ?_
  refine RW.val (by kernel_rfl) (by kernel_rfl) rfl (by kernel_rfl) ?_
  refine RW.len (by kernel_rfl) (by kernel_rfl) rfl rfl rfl rfl a0.len (by kernel_rfl) ?_
  refine RW.val (by kernel_rfl) (by kernel_rfl) rfl (by kernel_rfl) ?_
  refine RW.nil ?_
  refine W.cond rfl (fun hh => ?_) (fun hh => ?_)
  · have hin : i < l.length := by have := of_decide_eq_true hh; omega
    have gh : G ≤ σ.next := by omega
    obtain ⟨qi, q2, q3, q4⟩ := hmC_is xs i
    obtain ⟨b0, c0, r0, xi, hv0, hb0, hr0, hc0, x1, x2, hxi⟩ := a0.at hin
    have hr : σ.get b0 = some (.row r0) := ho _ _ (oa _ _ hr0)
    have ea := hxa i hin
    rw [hxi] at ea
    obtain ⟨yi, hyi⟩ : ∃ yi, yi = pickOf xi 5 := ⟨_, rfl⟩
    rw [← hyi] at ea
    have CP := s_pick (G := G) (σ := σ) xi 5 x1 x2 (by decide) (by decide)
    rw [← hyi] at CP
    have hrem := remW_succ (0, wi) (atW xs) i
    have hfir := firstN_succ (atW xs) i
    have hpr := prW_succ i
    rw [ea] at hrem hfir
    have hrle := remW_le (0, wi) (atW xs) i
    refine W.skip ?_
    refine W.seq ?_
    refine W.block ?_
    refine W.seq ?_
    refine W.region ?_
    refine RW.val (by kernel_rfl) (by kernel_rfl) rfl (by kernel_rfl) ?_
    refine RW.val (by kernel_rfl) (by kernel_rfl) rfl (by kernel_rfl) ?_
    refine RW.know 54 (x := .slice (some ⟨b0, 0, none⟩) l.length c0) hv0 ?_
    refine RW.idx (s := 1) (by kernel_rfl) (by kernel_rfl) rfl Tryz.underlying61 (by kernel_rfl) rfl rfl ⟨by omega, by omega⟩ (by kernel_rfl) ?_
    refine RW.load (by kernel_rfl) (by kernel_rfl) rfl rfl hr hc0 rfl (by kernel_rfl) ?_
    refine RW.call (by kernel_rfl) (by kernel_rfl) rfl rfl rfl (by kernel_rfl) (by kernel_rfl) ⟨_, _, CP, ?_⟩
    refine RW.call (by kernel_rfl) (by kernel_rfl) rfl rfl rfl (by kernel_rfl) (by kernel_rfl) ⟨_, _, (s_int _), ?_⟩
    refine RW.varS (d := 13) (r0 := ⟨[.int .i64 0, .int .i64 0], 37, false⟩) (vs := #[.int .i64 ((0, yi) : Wd).1, .int .i64 ((0, yi) : Wd).2]) (by kernel_rfl) (by kernel_rfl) (by kernel_rfl) rfl (by kernel_rfl) rfl (by kernel_rfl) rfl rfl rfl rfl (by kernel_rfl) rfl (by omega) ?_
    intro σ1 _ r13 o1 n1 a1
    clear CP
    refine RW.nil ?_
    have n7 : blkOf v7 ≠ some σ.next := fun e => by have := (T.g1.lt e).2; omega
    have n9 : blkOf v9 ≠ some σ.next := fun e => by have := (T.g3.lt e).2; omega
    replace T := T.old o1
    replace ho : ∀ b y, σb.get b = some y → σ1.get b = some y := fun b y hy => o1 b y (ho b y hy)
    replace hab := a1.trans hab
    clear o1 a1
    refine W.seq ?_
    refine W.region ?_
    refine RW.val (by kernel_rfl) (by kernel_rfl) rfl (by kernel_rfl) ?_
    refine RW.loads 2 (by kernel_rfl) (by kernel_rfl) rfl rfl r13 rfl rfl (by kernel_rfl) ?_
    refine RW.make (x := .row ⟨wdC [((0, yi) : Wd)], 37, false⟩) (fm := fun b => .slice (some ⟨b, 0, none⟩) 1 1) (by kernel_rfl) (by kernel_rfl) (by kernel_rfl) (by kernel_rfl) ?_
    obtain ⟨w7, cmd, k1, T2, k3, k4, k5⟩ := T.app (0, yi) (by omega) (by omega) (by rw [firstN_length]; omega)
    refine RW.append (by kernel_rfl) (by kernel_rfl) rfl rfl rfl rfl k1 (by kernel_rfl) ?_
    generalize MCmd.app (σ1.push (.row ⟨wdC [((0, yi) : Wd)], 37, false⟩)) cmd = σ2 at T2 k3 k4 k5 ⊢
    refine RW.val (by kernel_rfl) (by kernel_rfl) rfl (by kernel_rfl) ?_
    refine RW.nil ?_
    replace r13 := k5 _ _ r13 n7
    replace ho : ∀ b y, σb.get b = some y → σ2.get b = some y := fun b y hy => k5 b y (ho b y hy) (fun e => by have := T.f1 b e; have := Mem.lt hy; omega)
    replace hab := k4.trans hab
    rw [← hfir] at T2
    clear k1 k4 k5 T n7
    have CS := s_cons (G := G) (0, yi) (0, (i : Int)) hab (by rw [q2, q3]; omega) q4
    rw [qi] at CS
    have hH : (hmC xs i).push (.pair (0, yi) (0, (i : Int))) = hmC xs (i + 1) := by rw [← ea]; rfl
    have rA : (σ2.with (heapAbs σ0.next ((hmC xs i).push (.pair (0, yi) (0, (i : Int)))))).get σ.next = _ := r13
    have rB := get_push_old (x := Blk2.row ⟨[.int .i64 0, .int .i64 0], 37, false⟩) rA
    have gp : ((σ2.with (heapAbs σ0.next ((hmC xs i).push (.pair (0, yi) (0, (i : Int)))))).push (Blk2.row ⟨[.int .i64 0, .int .i64 0], 37, false⟩)).get σ2.next = some (Blk2.row ⟨[.int .i64 0, .int .i64 0], 37, false⟩) := get_push
    have sp := set1_put (x := wrow (2, (i : Int))) gp
    have rC := sp.old _ _ (by have := Mem.lt rA; have e : (σ2.with (heapAbs σ0.next ((hmC xs i).push (.pair (0, yi) (0, (i : Int)))))).next = σ2.next := rfl; omega) rB
    refine W.seq ?_
    refine W.drawn (by kernel_rfl) (by kernel_rfl) (by omega) ?_
    refine RW.val (by kernel_rfl) (by kernel_rfl) rfl (by kernel_rfl) ?_
    refine RW.loads 2 (by kernel_rfl) (by kernel_rfl) rfl rfl r13 rfl rfl (by kernel_rfl) ?_
    refine RW.val (by kernel_rfl) (by kernel_rfl) rfl (by kernel_rfl) ?_
    refine RW.call (by kernel_rfl) (by kernel_rfl) rfl rfl rfl (by kernel_rfl) (by kernel_rfl) ⟨_, _, (s_int _), ?_⟩
    refine RW.call (by kernel_rfl) (by kernel_rfl) rfl rfl rfl (by kernel_rfl) (by kernel_rfl) ⟨_, _, CS, ?_⟩
    refine RW.val (by kernel_rfl) (by kernel_rfl) rfl (by kernel_rfl) ?_
    refine RW.val (by kernel_rfl) (by kernel_rfl) rfl (by kernel_rfl) ?_
    refine RW.val (by kernel_rfl) (by kernel_rfl) rfl (by kernel_rfl) ?_
    refine RW.make (x := Blk2.row ⟨[.int .i64 0, .int .i64 0], 37, false⟩) (fm := fun b => .pointer (some ⟨b, 0, none⟩)) (by kernel_rfl) (by kernel_rfl) (by kernel_rfl) (by kernel_rfl) ?_
    refine RW.stores (b := σ2.next) (p := 0) (vs := #[.int .i64 2, .int .i64 (i : Int)]) (by kernel_rfl) (by kernel_rfl) rfl rfl (by omega) gp rfl rfl (by kernel_rfl) (by show 0 + 2 ≤ 2; omega) (by kernel_rfl) ?_
    refine RW.val (by kernel_rfl) (by kernel_rfl) rfl (by kernel_rfl) ?_
    refine RW.nil ?_
    refine ⟨⟨by kernel_rfl, ?_⟩, ?_⟩
    · repeat' (first | exact True.intro | refine dyn_row r13 rC ?_ | exact fun _ => r13 | exact fun _ => rA | exact fun _ => rB | exact fun _ => rC | exact fun h => Bool.noConfusion h | refine And.intro ?_ ?_ | exact Or.inl (by kernel_rfl))
    show W G Tryz.prog _ _ _ _ _ (((σ2.with (heapAbs σ0.next ((hmC xs i).push (.pair (0, yi) (0, (i : Int)))))).push (Blk2.row ⟨[.int .i64 0, .int .i64 0], 37, false⟩)).put σ2.next (wrow (2, (i : Int)))) _
    have K : ∀ b y, σ2.get b = some y → (((σ2.with (heapAbs σ0.next ((hmC xs i).push (.pair (0, yi) (0, (i : Int)))))).push (Blk2.row ⟨[.int .i64 0, .int .i64 0], 37, false⟩)).put σ2.next (wrow (2, (i : Int)))).get b = some y := fun b y hy => sp.old b y (by have := Mem.lt hy; omega) (get_push_old (x := Blk2.row ⟨[.int .i64 0, .int .i64 0], 37, false⟩) (show (σ2.with (heapAbs σ0.next ((hmC xs i).push (.pair (0, yi) (0, (i : Int)))))).get b = some y from hy))
    have nq : (((σ2.with (heapAbs σ0.next ((hmC xs i).push (.pair (0, yi) (0, (i : Int)))))).push (Blk2.row ⟨[.int .i64 0, .int .i64 0], 37, false⟩)).put σ2.next (wrow (2, (i : Int)))).next = σ2.next + 1 := rfl
    have aq : (((σ2.with (heapAbs σ0.next ((hmC xs i).push (.pair (0, yi) (0, (i : Int)))))).push (Blk2.row ⟨[.int .i64 0, .int .i64 0], 37, false⟩)).put σ2.next (wrow (2, (i : Int)))).abs = heapAbs σ0.next (hmC xs (i + 1)) := congrArg (heapAbs σ0.next) hH
    have r14 := sp.at_
    generalize ((σ2.with (heapAbs σ0.next ((hmC xs i).push (.pair (0, yi) (0, (i : Int)))))).push (Blk2.row ⟨[.int .i64 0, .int .i64 0], 37, false⟩)).put σ2.next (wrow (2, (i : Int))) = σ3 at K nq aq r14 ⊢
    replace T2 := T2.old K
    replace r13 := K _ _ r13
    replace ho : ∀ b y, σb.get b = some y → σ3.get b = some y := fun b y hy => K b y (ho b y hy)
    clear K rA rB gp sp rC CS hab
    have T3 := T2.rot.rot
    refine W.seq ?_
    refine W.region ?_
    refine RW.val (by kernel_rfl) (by kernel_rfl) rfl (by kernel_rfl) ?_
    refine RW.loads 2 (by kernel_rfl) (by kernel_rfl) rfl rfl r14 rfl rfl (by kernel_rfl) ?_
    refine RW.make (x := .row ⟨wdC [((2, (i : Int)) : Wd)], 37, false⟩) (fm := fun b => .slice (some ⟨b, 0, none⟩) 1 1) (by kernel_rfl) (by kernel_rfl) (by kernel_rfl) (by kernel_rfl) ?_
    obtain ⟨w9, cmd, k1, T4, k3', k4, k5⟩ := T3.app (2, (i : Int)) (by omega) (by omega) (by rw [prW_length]; omega)
    refine RW.append (by kernel_rfl) (by kernel_rfl) rfl rfl rfl rfl k1 (by kernel_rfl) ?_
    generalize MCmd.app (σ3.push (.row ⟨wdC [((2, (i : Int)) : Wd)], 37, false⟩)) cmd = σ4 at T4 k3' k4 k5 ⊢
    refine RW.val (by kernel_rfl) (by kernel_rfl) rfl (by kernel_rfl) ?_
    refine RW.nil ?_
    replace r13 := k5 _ _ r13 n9
    replace ho : ∀ b y, σb.get b = some y → σ4.get b = some y := fun b y hy => k5 b y (ho b y hy) (fun e => by have := T2.f3 b e; have := Mem.lt hy; omega)
    replace aq := k4.trans aq
    rw [← hpr] at T4
    clear k1 k4 k5 T3 T2 n9
    have q11 := ho _ _ r11
    refine W.seq ?_
    refine W.region ?_
    refine RW.loads 2 (by kernel_rfl) (by kernel_rfl) rfl rfl r13 rfl rfl (by kernel_rfl) ?_
    refine RW.loads 2 (by kernel_rfl) (by kernel_rfl) rfl rfl q11 rfl rfl (by kernel_rfl) ?_
    refine RW.vop (v := .bool (!decide (yi = wi))) (by kernel_rfl) (by kernel_rfl) (vop_eqS (b := decide (yi = wi)) (r := !decide (yi = wi)) rfl (.inr ⟨rfl, rfl⟩) rfl rfl rfl rfl (by kernel_rfl) (fun w => (eqWd _ _ _ _ w).trans (by simp [Bool.beq_eq_decide_eq]))) (by kernel_rfl) ?_
    refine RW.nil ?_
    by_cases hyw : yi = wi
    · subst hyw
      refine W.cond (b := false) (by rw [decide_eq_true rfl]; rfl) (fun h => by cases h) (fun _ => ?_)
      rw [if_pos rfl] at hrem
      rw [← hrem] at T4
      refine W.seq ?_
      refine W.region ?_
      refine RW.val (by kernel_rfl) (by kernel_rfl) rfl (by kernel_rfl) ?_
      by_cases hp0 : p < 0
      · refine RW.valE (v' := .bool true) (by kernel_rfl) (by kernel_rfl) rfl (congrArg Value.bool (decide_eq_true (by omega))) (by kernel_rfl) ?_
        refine RW.nil ?_
        refine W.cond (b := true) rfl (fun _ => ?_) (fun h => by cases h)
        refine W.region ?_
        refine RW.val (by kernel_rfl) (by kernel_rfl) rfl (by kernel_rfl) ?_
        refine RW.val (by kernel_rfl) (by kernel_rfl) rfl (by kernel_rfl) ?_
        refine RW.nil ?_
        refine W.region ?_
        refine RW.val (by kernel_rfl) (by kernel_rfl) rfl (by kernel_rfl) ?_
        refine RW.valE (by kernel_rfl) (by kernel_rfl) rfl (congrArg (Value.int .i64) (wrap_in (by omega) (by omega))) (by kernel_rfl) ?_
        refine RW.val (by kernel_rfl) (by kernel_rfl) rfl (by kernel_rfl) ?_
        refine RW.nil ?_
        exact ⟨rfl, mm - 1, by omega, i + 1, w7, v8, w9, (i : Int), by omega, ho, by omega, aq, T4.rot, hat.here hp0 ea.symm, rfl, rfl, rfl, rfl, rfl, rfl, rfl, rfl⟩
      · refine RW.valE (v' := .bool false) (by kernel_rfl) (by kernel_rfl) rfl (congrArg Value.bool (decide_eq_false (by omega))) (by kernel_rfl) ?_
        refine RW.nil ?_
        refine W.cond (b := false) rfl (fun h => by cases h) (fun _ => ?_)
        refine W.skip ?_
        refine W.region ?_
        refine RW.val (by kernel_rfl) (by kernel_rfl) rfl (by kernel_rfl) ?_
        refine RW.valE (by kernel_rfl) (by kernel_rfl) rfl (congrArg (Value.int .i64) (wrap_in (by omega) (by omega))) (by kernel_rfl) ?_
        refine RW.val (by kernel_rfl) (by kernel_rfl) rfl (by kernel_rfl) ?_
        refine RW.nil ?_
        exact ⟨rfl, mm - 1, by omega, i + 1, w7, v8, w9, p, by omega, ho, by omega, aq, T4.rot, hat.yes (by omega), rfl, rfl, rfl, rfl, rfl, rfl, rfl, rfl⟩
    · refine W.cond (b := true) (by rw [decide_eq_false hyw]; rfl) (fun _ => ?_) (fun h => by cases h)
      rw [if_neg (fun e => hyw (Prod.mk.inj e).2.symm)] at hrem
      refine W.region ?_
      refine RW.val (by kernel_rfl) (by kernel_rfl) rfl (by kernel_rfl) ?_
      refine RW.loads 2 (by kernel_rfl) (by kernel_rfl) rfl rfl r13 rfl rfl (by kernel_rfl) ?_
      refine RW.make (x := .row ⟨wdC [((0, yi) : Wd)], 37, false⟩) (fm := fun b => .slice (some ⟨b, 0, none⟩) 1 1) (by kernel_rfl) (by kernel_rfl) (by kernel_rfl) (by kernel_rfl) ?_
      have T5 := T4.rot.rot
      obtain ⟨w8, cmd, k1, T6, k3'', k4, k5⟩ := T5.app (0, yi) (by omega) (by omega) (by omega)
      refine RW.append (by kernel_rfl) (by kernel_rfl) rfl rfl rfl rfl k1 (by kernel_rfl) ?_
      generalize MCmd.app (σ4.push (.row ⟨wdC [((0, yi) : Wd)], 37, false⟩)) cmd = σ5 at T6 k3'' k4 k5 ⊢
      refine RW.val (by kernel_rfl) (by kernel_rfl) rfl (by kernel_rfl) ?_
      refine RW.nil ?_
      rw [← hrem] at T6
      refine W.region ?_
      refine RW.val (by kernel_rfl) (by kernel_rfl) rfl (by kernel_rfl) ?_
      refine RW.valE (by kernel_rfl) (by kernel_rfl) rfl (congrArg (Value.int .i64) (wrap_in (by omega) (by omega))) (by kernel_rfl) ?_
      refine RW.val (by kernel_rfl) (by kernel_rfl) rfl (by kernel_rfl) ?_
      refine RW.nil ?_
      exact ⟨rfl, mm - 1, by omega, i + 1, w7, w8, w9, p, by omega, (fun b y hy => k5 b y (ho b y hy) (fun e => by have := T5.f1 b e; have := Mem.lt hy; omega)), by omega, k4.trans aq, T6.rot.rot, hat.no (fun e => hyw (by rw [ea] at e; exact (Prod.mk.inj e).2.symm)), rfl, rfl, rfl, rfl, rfl, rfl, rfl, rfl⟩
  have hin : i = l.length := by have := of_decide_eq_false hh; omega
  subst hin
  refine W.exit _ ?_
  rw [← hN] at T hab hat
  obtain ⟨L, m1, m2, m3, m4, a, b, r, d, cA, cB, cR, cD', M⟩ := tk xs (0, wi)
  rw [show firstN (atW xs) xs.length = xs from firstN_getD xs, M.eL] at T
  have g7 := T.g1
  have g8 := T.g2
  have g9 := T.g3
  have nz : σ.next ≤ σ.next := Nat.le_refl _
  have f8 : ∀ b, blkOf v8 = some b → b < σ.next := fun b hb => (g8.lt hb).2
  have f9 : ∀ b, blkOf v9 = some b → b < σ.next := fun b hb => (g9.lt hb).2
  clear T
  have hint : ∀ j, j < xs.length → ∃ b, atW xs j = (0, b) := fun j hj => ⟨_, hxa j (by omega)⟩
  obtain ⟨wm, wp, hW⟩ : ∃ wm wp : Wd, (p = -1 ∧ wm = (1, 0) ∧ wp = (1, 0) ∧ ∀ j, j < xs.length → (0, wi) ≠ atW xs j) ∨ ∃ q : Nat, p = (q : Int) ∧ q < xs.length ∧ (0, wi) = atW xs q ∧ (∀ j, j < q → (0, wi) ≠ atW xs j) ∧ wm = cA q ∧ wp = (2, (q : Int)) := by
    rcases hat with ⟨h1, h2⟩ | ⟨q, h1, h2, h3, h4⟩
    · exact ⟨_, _, .inl ⟨h1, rfl, rfl, h2⟩⟩
    · exact ⟨_, _, .inr ⟨q, h1, h2, h3, h4, rfl, rfl⟩⟩
  have A1 : Ans (0, wi) (atW xs) xs.length cA wm := by
    rcases hW with ⟨_, h1, _, h2⟩ | ⟨q, _, h2, h3, h4, h5, _⟩
    · exact .inr ⟨h2, h1⟩
    · exact .inl ⟨q, h2, h3, h4, h5⟩
  have A2 : Ans (0, wi) (atW xs) xs.length (atW (prW xs.length)) wp := by
    rcases hW with ⟨_, _, h1, h2⟩ | ⟨q, _, h2, h3, h4, _, h6⟩
    · exact .inr ⟨h2, h1⟩
    · exact .inl ⟨q, h2, h3, h4, by rw [h6]; exact (prW_at h2).symm⟩
  replace r11 := ho _ _ r11
  have gn : G ≤ σ.next := by omega
  have ha := hab
  obtain ⟨z1, z2, z3, z4⟩ := hmC_is xs xs.length
  have hxl : xs.length ≤ 60 := by omega
  have hLe := M.le
  obtain ⟨u1, u2, u3, u4⟩ : m1.limit = 400 ∧ m2.limit = 400 ∧ m3.limit = 400 ∧ m4.limit = 400 := ⟨M.l1, M.l2, M.l3, M.l4⟩
  have y1 := M.k1
  have y2 := M.k2
  have y3 := M.k3
  clear hat hab ho hnx hm hh
  refine W.reset [(5, pp σ0.next), (7, v7), (8, v8), (9, v9), (10, .int .i64 p), (11, pp σa.next)] ⟨rfl, rfl, rfl, rfl, rfl, rfl, trivial⟩ fun TA => ?_
  refine W.seq ?_
  refine W.region ?_
  refine RW.val (by kernel_rfl) (by kernel_rfl) rfl (by kernel_rfl) ?_
  refine RW.val (by kernel_rfl) (by kernel_rfl) rfl (by kernel_rfl) ?_
  refine RW.call (by kernel_rfl) (by kernel_rfl) rfl rfl rfl (by kernel_rfl) (by kernel_rfl) ((make_wc (G := G) (l := xs) gn ha z4 (by rw [z2, z3]; omega) (by rw [z3]; decide) (by rw [z3]; decide) (fun _ => g7.sl) g7.one (g7.len (by kernel_rfl))).mono ?_)
  intro _ σp1 H
  obtain ⟨rfl, Gp, ap⟩ := H.is M.e1
  clear H
  have np := Gp.nx
  refine RW.val (by kernel_rfl) (by kernel_rfl) rfl (by kernel_rfl) ?_
  refine RW.val (by kernel_rfl) (by kernel_rfl) rfl (by kernel_rfl) ?_
  refine RW.val (by kernel_rfl) (by kernel_rfl) rfl (by kernel_rfl) ?_
  refine RW.varS (d := 16) (r0 := ⟨[.int .i64 0, .int .i64 0], 37, false⟩) (vs := #[.int .i64 a.1, .int .i64 a.2]) (by kernel_rfl) (by kernel_rfl) (by kernel_rfl) rfl (by kernel_rfl) rfl (by kernel_rfl) rfl rfl rfl rfl (by kernel_rfl) rfl (by omega) ?_
  intro σq1 _ r16 oq nq aq
  have K : ∀ b y, σ.get b = some y → σq1.get b = some y := fun b y hy => oq b y (Gp.old b y hy)
  replace r11 := K _ _ r11
  replace g8 := grow_old g8 K
  replace g9 := grow_old g9 K
  replace gn : G ≤ σq1.next := by omega
  replace nz : σ.next ≤ σq1.next := by omega
  replace ha := aq.trans (ap)
  clear K
  clear oq nq aq
  clear Gp ap np
  refine RW.val (by kernel_rfl) (by kernel_rfl) rfl (by kernel_rfl) ?_
  refine RW.nil ?_
  refine W.reset [(5, pp σ0.next), (7, v7), (8, v8), (9, v9), (10, .int .i64 p), (11, pp σa.next), (16, pp σp1.next), (17, .int .i64 0)] ⟨rfl, rfl, rfl, rfl, rfl, rfl, rfl, rfl, trivial⟩ fun TA => ?_
  clear g7
  refine W.seq ?_
  refine W.region ?_
  refine RW.val (by kernel_rfl) (by kernel_rfl) rfl (by kernel_rfl) ?_
  refine RW.val (by kernel_rfl) (by kernel_rfl) rfl (by kernel_rfl) ?_
  refine RW.call (by kernel_rfl) (by kernel_rfl) rfl rfl rfl (by kernel_rfl) (by kernel_rfl) ((make_wc (G := G) (l := prW xs.length) gn ha M.f1 (by rw [prW_length]; omega) (by omega) (by omega) (fun _ => g9.sl) g9.one (g9.len (by kernel_rfl))).mono ?_)
  intro _ σp2 H
  obtain ⟨rfl, Gp, ap⟩ := H.is M.e2
  clear H
  have np := Gp.nx
  refine RW.val (by kernel_rfl) (by kernel_rfl) rfl (by kernel_rfl) ?_
  refine RW.val (by kernel_rfl) (by kernel_rfl) rfl (by kernel_rfl) ?_
  refine RW.val (by kernel_rfl) (by kernel_rfl) rfl (by kernel_rfl) ?_
  refine RW.varS (d := 18) (r0 := ⟨[.int .i64 0, .int .i64 0], 37, false⟩) (vs := #[.int .i64 b.1, .int .i64 b.2]) (by kernel_rfl) (by kernel_rfl) (by kernel_rfl) rfl (by kernel_rfl) rfl (by kernel_rfl) rfl rfl rfl rfl (by kernel_rfl) rfl (by omega) ?_
  intro σq2 _ r18 oq nq aq
  have K : ∀ b y, σq1.get b = some y → σq2.get b = some y := fun b y hy => oq b y (Gp.old b y hy)
  replace r11 := K _ _ r11
  replace r16 := K _ _ r16
  replace g8 := grow_old g8 K
  replace g9 := grow_old g9 K
  replace gn : G ≤ σq2.next := by omega
  replace nz : σ.next ≤ σq2.next := by omega
  replace ha := aq.trans (ap)
  clear K
  clear oq nq aq
  clear Gp ap np
  refine RW.val (by kernel_rfl) (by kernel_rfl) rfl (by kernel_rfl) ?_
  refine RW.nil ?_
  refine W.reset [(5, pp σ0.next), (8, v8), (9, v9), (10, .int .i64 p), (11, pp σa.next), (16, pp σp1.next), (17, .int .i64 0), (18, pp σp2.next), (19, .int .i64 0)] ⟨rfl, rfl, rfl, rfl, rfl, rfl, rfl, rfl, rfl, trivial⟩ fun TA => ?_
  refine W.seq ?_
  refine W.region ?_
  refine RW.val (by kernel_rfl) (by kernel_rfl) rfl (by kernel_rfl) ?_
  refine RW.loads 2 (by kernel_rfl) (by kernel_rfl) rfl rfl r11 rfl rfl (by kernel_rfl) ?_
  refine RW.loads 2 (by kernel_rfl) (by kernel_rfl) rfl rfl r16 rfl rfl (by kernel_rfl) ?_
  refine RW.call (by kernel_rfl) (by kernel_rfl) rfl rfl rfl (by kernel_rfl) (by kernel_rfl) ((memq_t (G := G) M.zA gn ha (by omega) M.c2 (by omega) A1).mono ?_)
  rintro _ σp3 ⟨rfl, Gp⟩
  have np := Gp.nx
  refine RW.val (by kernel_rfl) (by kernel_rfl) rfl (by kernel_rfl) ?_
  refine RW.val (by kernel_rfl) (by kernel_rfl) rfl (by kernel_rfl) ?_
  refine RW.val (by kernel_rfl) (by kernel_rfl) rfl (by kernel_rfl) ?_
  refine RW.varS (d := 20) (r0 := ⟨[.int .i64 0, .int .i64 0], 37, false⟩) (vs := #[.int .i64 wm.1, .int .i64 wm.2]) (by kernel_rfl) (by kernel_rfl) (by kernel_rfl) rfl (by kernel_rfl) rfl (by kernel_rfl) rfl rfl rfl rfl (by kernel_rfl) rfl (by omega) ?_
  intro σq3 _ r20 oq nq aq
  have K : ∀ b y, σq2.get b = some y → σq3.get b = some y := fun b y hy => oq b y (Gp.old b y hy)
  replace r11 := K _ _ r11
  replace r16 := K _ _ r16
  replace r18 := K _ _ r18
  replace g8 := grow_old g8 K
  replace g9 := grow_old g9 K
  replace gn : G ≤ σq3.next := by omega
  replace nz : σ.next ≤ σq3.next := by omega
  replace ha := aq.trans (Gp.abs.trans ha)
  clear K
  clear oq nq aq
  clear Gp np
  refine RW.val (by kernel_rfl) (by kernel_rfl) rfl (by kernel_rfl) ?_
  refine RW.nil ?_
  refine W.reset [(5, pp σ0.next), (8, v8), (9, v9), (10, .int .i64 p), (11, pp σa.next), (16, pp σp1.next), (17, .int .i64 0), (18, pp σp2.next), (19, .int .i64 0), (20, pp σp3.next), (21, .int .i64 0)] ⟨rfl, rfl, rfl, rfl, rfl, rfl, rfl, rfl, rfl, rfl, rfl, trivial⟩ fun TA => ?_
  refine W.seq ?_
  refine W.region ?_
  refine RW.val (by kernel_rfl) (by kernel_rfl) rfl (by kernel_rfl) ?_
  refine RW.loads 2 (by kernel_rfl) (by kernel_rfl) rfl rfl r11 rfl rfl (by kernel_rfl) ?_
  refine RW.loads 2 (by kernel_rfl) (by kernel_rfl) rfl rfl r16 rfl rfl (by kernel_rfl) ?_
  refine RW.call (by kernel_rfl) (by kernel_rfl) rfl rfl rfl (by kernel_rfl) (by kernel_rfl) ((member_t (G := G) M.zA gn ha (by omega) M.c2 (by omega) hint A1).mono ?_)
  rintro _ σp4 ⟨rfl, Gp⟩
  have np := Gp.nx
  refine RW.val (by kernel_rfl) (by kernel_rfl) rfl (by kernel_rfl) ?_
  refine RW.val (by kernel_rfl) (by kernel_rfl) rfl (by kernel_rfl) ?_
  refine RW.val (by kernel_rfl) (by kernel_rfl) rfl (by kernel_rfl) ?_
  refine RW.varS (d := 22) (r0 := ⟨[.int .i64 0, .int .i64 0], 37, false⟩) (vs := #[.int .i64 wm.1, .int .i64 wm.2]) (by kernel_rfl) (by kernel_rfl) (by kernel_rfl) rfl (by kernel_rfl) rfl (by kernel_rfl) rfl rfl rfl rfl (by kernel_rfl) rfl (by omega) ?_
  intro σq4 _ r22 oq nq aq
  have K : ∀ b y, σq3.get b = some y → σq4.get b = some y := fun b y hy => oq b y (Gp.old b y hy)
  replace r11 := K _ _ r11
  replace r16 := K _ _ r16
  replace r18 := K _ _ r18
  replace r20 := K _ _ r20
  replace g8 := grow_old g8 K
  replace g9 := grow_old g9 K
  replace gn : G ≤ σq4.next := by omega
  replace nz : σ.next ≤ σq4.next := by omega
  replace ha := aq.trans (Gp.abs.trans ha)
  clear K
  clear oq nq aq
  clear Gp np
  refine RW.val (by kernel_rfl) (by kernel_rfl) rfl (by kernel_rfl) ?_
  refine RW.nil ?_
  refine W.reset [(5, pp σ0.next), (8, v8), (9, v9), (10, .int .i64 p), (11, pp σa.next), (16, pp σp1.next), (17, .int .i64 0), (18, pp σp2.next), (19, .int .i64 0), (20, pp σp3.next), (21, .int .i64 0), (22, pp σp4.next), (23, .int .i64 0)] ⟨rfl, rfl, rfl, rfl, rfl, rfl, rfl, rfl, rfl, rfl, rfl, rfl, rfl, trivial⟩ fun TA => ?_
  refine W.seq ?_
  refine W.region ?_
  refine RW.val (by kernel_rfl) (by kernel_rfl) rfl (by kernel_rfl) ?_
  refine RW.loads 2 (by kernel_rfl) (by kernel_rfl) rfl rfl r11 rfl rfl (by kernel_rfl) ?_
  refine RW.loads 2 (by kernel_rfl) (by kernel_rfl) rfl rfl r18 rfl rfl (by kernel_rfl) ?_
  refine RW.call (by kernel_rfl) (by kernel_rfl) rfl rfl rfl (by kernel_rfl) (by kernel_rfl) ((assq_t (G := G) (xs := xs) M.zB gn ha (by omega) M.b2 (prW_length _) (by omega) M.pr A2).mono ?_)
  rintro _ σp5 ⟨rfl, Gp⟩
  have np := Gp.nx
  refine RW.val (by kernel_rfl) (by kernel_rfl) rfl (by kernel_rfl) ?_
  refine RW.val (by kernel_rfl) (by kernel_rfl) rfl (by kernel_rfl) ?_
  refine RW.val (by kernel_rfl) (by kernel_rfl) rfl (by kernel_rfl) ?_
  refine RW.varS (d := 24) (r0 := ⟨[.int .i64 0, .int .i64 0], 37, false⟩) (vs := #[.int .i64 wp.1, .int .i64 wp.2]) (by kernel_rfl) (by kernel_rfl) (by kernel_rfl) rfl (by kernel_rfl) rfl (by kernel_rfl) rfl rfl rfl rfl (by kernel_rfl) rfl (by omega) ?_
  intro σq5 _ r24 oq nq aq
  have K : ∀ b y, σq4.get b = some y → σq5.get b = some y := fun b y hy => oq b y (Gp.old b y hy)
  replace r11 := K _ _ r11
  replace r16 := K _ _ r16
  replace r18 := K _ _ r18
  replace r20 := K _ _ r20
  replace r22 := K _ _ r22
  replace g8 := grow_old g8 K
  replace g9 := grow_old g9 K
  replace gn : G ≤ σq5.next := by omega
  replace nz : σ.next ≤ σq5.next := by omega
  replace ha := aq.trans (Gp.abs.trans ha)
  clear K
  clear oq nq aq
  clear Gp np
  refine RW.val (by kernel_rfl) (by kernel_rfl) rfl (by kernel_rfl) ?_
  refine RW.nil ?_
  refine W.reset [(5, pp σ0.next), (8, v8), (9, v9), (10, .int .i64 p), (11, pp σa.next), (16, pp σp1.next), (17, .int .i64 0), (18, pp σp2.next), (19, .int .i64 0), (20, pp σp3.next), (21, .int .i64 0), (22, pp σp4.next), (23, .int .i64 0), (24, pp σp5.next), (25, .int .i64 0)] ⟨rfl, rfl, rfl, rfl, rfl, rfl, rfl, rfl, rfl, rfl, rfl, rfl, rfl, rfl, rfl, trivial⟩ fun TA => ?_
  refine W.seq ?_
  refine W.region ?_
  refine RW.val (by kernel_rfl) (by kernel_rfl) rfl (by kernel_rfl) ?_
  refine RW.loads 2 (by kernel_rfl) (by kernel_rfl) rfl rfl r11 rfl rfl (by kernel_rfl) ?_
  refine RW.loads 2 (by kernel_rfl) (by kernel_rfl) rfl rfl r16 rfl rfl (by kernel_rfl) ?_
  refine RW.call (by kernel_rfl) (by kernel_rfl) rfl rfl rfl (by kernel_rfl) (by kernel_rfl) ((remove_t (G := G) M.zA gn ha M.f2 (by omega) (by omega) M.c2 (by omega) (by omega) hint M.eL).mono ?_)
  intro _ σp6 H
  obtain ⟨rfl, Gp, ap⟩ := H.is M.e3
  clear H
  have np := Gp.nx
  refine RW.val (by kernel_rfl) (by kernel_rfl) rfl (by kernel_rfl) ?_
  refine RW.val (by kernel_rfl) (by kernel_rfl) rfl (by kernel_rfl) ?_
  refine RW.val (by kernel_rfl) (by kernel_rfl) rfl (by kernel_rfl) ?_
  refine RW.varS (d := 26) (r0 := ⟨[.int .i64 0, .int .i64 0], 37, false⟩) (vs := #[.int .i64 r.1, .int .i64 r.2]) (by kernel_rfl) (by kernel_rfl) (by kernel_rfl) rfl (by kernel_rfl) rfl (by kernel_rfl) rfl rfl rfl rfl (by kernel_rfl) rfl (by omega) ?_
  intro σq6 _ r26 oq nq aq
  have K : ∀ b y, σq5.get b = some y → σq6.get b = some y := fun b y hy => oq b y (Gp.old b y hy)
  replace r11 := K _ _ r11
  replace r16 := K _ _ r16
  replace r18 := K _ _ r18
  replace r20 := K _ _ r20
  replace r22 := K _ _ r22
  replace r24 := K _ _ r24
  replace g8 := grow_old g8 K
  replace g9 := grow_old g9 K
  replace gn : G ≤ σq6.next := by omega
  replace nz : σ.next ≤ σq6.next := by omega
  replace ha := aq.trans (ap)
  clear K
  clear oq nq aq
  clear Gp ap np
  refine RW.val (by kernel_rfl) (by kernel_rfl) rfl (by kernel_rfl) ?_
  refine RW.nil ?_
  refine W.reset [(5, pp σ0.next), (8, v8), (9, v9), (10, .int .i64 p), (11, pp σa.next), (16, pp σp1.next), (17, .int .i64 0), (18, pp σp2.next), (19, .int .i64 0), (20, pp σp3.next), (21, .int .i64 0), (22, pp σp4.next), (23, .int .i64 0), (24, pp σp5.next), (25, .int .i64 0), (26, pp σp6.next), (27, .int .i64 0)] ⟨rfl, rfl, rfl, rfl, rfl, rfl, rfl, rfl, rfl, rfl, rfl, rfl, rfl, rfl, rfl, rfl, rfl, trivial⟩ fun TA => ?_
  have g28 : G ≤ σq6.next := gn
  have wr11 := Mem.lt r11
  have wr16 := Mem.lt r16
  have wr18 := Mem.lt r18
  have wr20 := Mem.lt r20
  have wr22 := Mem.lt r22
  have wr24 := Mem.lt r24
  have wr26 := Mem.lt r26
  refine W.seq ?_
  refine W.region ?_
  refine RW.call (by kernel_rfl) (by kernel_rfl) rfl rfl rfl (by kernel_rfl) (by kernel_rfl) ⟨_, _, s_nilK, ?_⟩
  refine RW.varS (d := 28) (r0 := ⟨[.int .i64 0, .int .i64 0], 37, false⟩) (vs := #[.int .i64 ((1, 0) : Wd).1, .int .i64 ((1, 0) : Wd).2]) (by kernel_rfl) (by kernel_rfl) (by kernel_rfl) rfl (by kernel_rfl) rfl (by kernel_rfl) rfl rfl rfl rfl (by kernel_rfl) rfl (by omega) ?_
  intro σq7 _ r28 oq nq aq
  have z28 : σ.next ≤ σq6.next := nz
  have K : ∀ b y, σq6.get b = some y → σq7.get b = some y := oq
  replace r11 := K _ _ r11
  replace r16 := K _ _ r16
  replace r18 := K _ _ r18
  replace r20 := K _ _ r20
  replace r22 := K _ _ r22
  replace r24 := K _ _ r24
  replace r26 := K _ _ r26
  replace g8 := grow_old g8 K
  replace g9 := grow_old g9 K
  replace gn : G ≤ σq7.next := by omega
  replace nz : σ.next ≤ σq7.next := by omega
  replace ha := aq.trans ha
  clear K
  clear oq nq aq
  refine RW.nil ?_
  refine W.reset [(5, pp σ0.next), (8, v8), (9, v9), (10, .int .i64 p), (11, pp σa.next), (16, pp σp1.next), (17, .int .i64 0), (18, pp σp2.next), (19, .int .i64 0), (20, pp σp3.next), (21, .int .i64 0), (22, pp σp4.next), (23, .int .i64 0), (24, pp σp5.next), (25, .int .i64 0), (26, pp σp6.next), (27, .int .i64 0), (28, pp σq6.next)] ⟨rfl, rfl, rfl, rfl, rfl, rfl, rfl, rfl, rfl, rfl, rfl, rfl, rfl, rfl, rfl, rfl, rfl, rfl, trivial⟩ fun TA => ?_
  refine W.seq ?_
  refine W.seq ?_
  refine W.region ?_
  refine RW.val (by kernel_rfl) (by kernel_rfl) rfl (by kernel_rfl) ?_
  rcases hW with ⟨hp, hwm, hwp, _⟩ | ⟨q, hp, hq, _, _, hwm, hwp⟩
  · have hp0 : p = -1 := hp
    subst hwm hwp
    refine RW.valE (v' := .bool false) (by kernel_rfl) (by kernel_rfl) rfl (congrArg Value.bool (decide_eq_false (by omega))) (by kernel_rfl) ?_
    refine RW.nil ?_
    refine W.cond (b := false) rfl (fun h => by cases h) (fun _ => ?_)
    refine W.seq ?_
    refine W.drawn (by kernel_rfl) (by kernel_rfl) gn ?_
    refine RW.loads 2 (by kernel_rfl) (by kernel_rfl) rfl rfl r24 rfl rfl (by kernel_rfl) ?_
    refine RW.call (by kernel_rfl) (by kernel_rfl) rfl rfl rfl (by kernel_rfl) (by kernel_rfl) ⟨_, _, s_nilK, ?_⟩
    refine RW.vop (v := .bool (false)) (by kernel_rfl) (by kernel_rfl) (vop_eqS (b := true) (r := false) rfl (.inr ⟨rfl, rfl⟩) rfl rfl rfl rfl (by kernel_rfl) (fun w => (eqWd _ _ _ _ w).trans (by simp))) (by kernel_rfl) ?_
    refine RW.nil ?_
    refine ⟨⟨by kernel_rfl, ?_⟩, ?_⟩
    · repeat' (first | exact True.intro | refine dyn_row r24 r24 ?_ | exact fun _ => r24 | exact fun h => Bool.noConfusion h | refine And.intro ?_ ?_ | exact Or.inl (by kernel_rfl))
    refine W.cond (b := false) rfl (fun h => by cases h) (fun _ => ?_)
    refine W.skip ?_
    refine W.reset [(5, pp σ0.next), (8, v8), (9, v9), (10, .int .i64 p), (11, pp σa.next), (16, pp σp1.next), (17, .int .i64 0), (18, pp σp2.next), (19, .int .i64 0), (20, pp σp3.next), (21, .int .i64 0), (22, pp σp4.next), (23, .int .i64 0), (24, pp σp5.next), (25, .int .i64 0), (26, pp σp6.next), (27, .int .i64 0), (28, pp σq6.next)] ⟨rfl, rfl, rfl, rfl, rfl, rfl, rfl, rfl, rfl, rfl, rfl, rfl, rfl, rfl, rfl, rfl, rfl, rfl, trivial⟩ fun TA => ?_
    have CM := s_many (G := G) ha
    rw [y3] at CM
    refine W.seq ?_
    refine W.region ?_
    refine RW.val (by kernel_rfl) (by kernel_rfl) rfl (by kernel_rfl) ?_
    refine RW.call (by kernel_rfl) (by kernel_rfl) rfl rfl rfl (by kernel_rfl) (by kernel_rfl) ⟨_, _, CM, ?_⟩
    refine RW.val (by kernel_rfl) (by kernel_rfl) rfl (by kernel_rfl) ?_
    refine RW.nil ?_
    refine W.reset [(5, pp σ0.next), (8, v8), (9, v9), (10, .int .i64 p), (11, pp σa.next), (16, pp σp1.next), (17, .int .i64 0), (18, pp σp2.next), (19, .int .i64 0), (20, pp σp3.next), (21, .int .i64 0), (22, pp σp4.next), (23, .int .i64 0), (24, pp σp5.next), (25, .int .i64 0), (26, pp σp6.next), (27, .int .i64 0), (28, pp σq6.next), (29, .int .i64 ((xs.length + xs.length + xs.length + L.length : Nat) : Int))] ⟨rfl, rfl, rfl, rfl, rfl, rfl, rfl, rfl, rfl, rfl, rfl, rfl, rfl, rfl, rfl, rfl, rfl, rfl, rfl, trivial⟩ fun TA => ?_
    refine W.seq ?_
    refine W.region ?_
    refine RW.val (by kernel_rfl) (by kernel_rfl) rfl (by kernel_rfl) ?_
    refine RW.loads 2 (by kernel_rfl) (by kernel_rfl) rfl rfl r11 rfl rfl (by kernel_rfl) ?_
    refine RW.loads 2 (by kernel_rfl) (by kernel_rfl) rfl rfl r16 rfl rfl (by kernel_rfl) ?_
    refine RW.call (by kernel_rfl) (by kernel_rfl) rfl rfl rfl (by kernel_rfl) (by kernel_rfl) ((delq_t (G := G) M.zA gn ha (by omega) M.c3 (by omega) M.e4).mono ?_)
    rintro _ σp8 ⟨rfl, Gp, ap⟩
    have np := Gp.nx
    refine RW.val (by kernel_rfl) (by kernel_rfl) rfl (by kernel_rfl) ?_
    refine RW.val (by kernel_rfl) (by kernel_rfl) rfl (by kernel_rfl) ?_
    refine RW.val (by kernel_rfl) (by kernel_rfl) rfl (by kernel_rfl) ?_
    refine RW.varS (d := 30) (r0 := ⟨[.int .i64 0, .int .i64 0], 37, false⟩) (vs := #[.int .i64 d.1, .int .i64 d.2]) (by kernel_rfl) (by kernel_rfl) (by kernel_rfl) rfl (by kernel_rfl) rfl (by kernel_rfl) rfl rfl rfl rfl (by kernel_rfl) rfl (by omega) ?_
    intro σq8 _ r30 oq nq aq
    have K : ∀ b y, σq7.get b = some y → σq8.get b = some y := fun b y hy => oq b y (Gp.old b y hy)
    replace r11 := K _ _ r11
    replace r16 := K _ _ r16
    replace r18 := K _ _ r18
    replace r20 := K _ _ r20
    replace r22 := K _ _ r22
    replace r24 := K _ _ r24
    replace r26 := K _ _ r26
    replace r28 := K _ _ r28
    replace g8 := grow_old g8 K
    replace g9 := grow_old g9 K
    replace gn : G ≤ σq8.next := by omega
    replace nz : σ.next ≤ σq8.next := by omega
    replace ha := aq.trans (ap)
    clear K
    clear oq nq aq
    clear Gp ap np
    refine RW.val (by kernel_rfl) (by kernel_rfl) rfl (by kernel_rfl) ?_
    refine RW.nil ?_
    refine W.reset [(5, pp σ0.next), (8, v8), (9, v9), (10, .int .i64 p), (11, pp σa.next), (16, pp σp1.next), (17, .int .i64 0), (18, pp σp2.next), (19, .int .i64 0), (20, pp σp3.next), (21, .int .i64 0), (22, pp σp4.next), (23, .int .i64 0), (24, pp σp5.next), (25, .int .i64 0), (26, pp σp6.next), (27, .int .i64 0), (28, pp σq6.next), (29, .int .i64 ((xs.length + xs.length + xs.length + L.length : Nat) : Int)), (30, pp σp8.next), (31, .int .i64 0)] ⟨rfl, rfl, rfl, rfl, rfl, rfl, rfl, rfl, rfl, rfl, rfl, rfl, rfl, rfl, rfl, rfl, rfl, rfl, rfl, rfl, rfl, trivial⟩ fun TA => ?_
    refine W.seq ?_
    refine W.region ?_
    refine RW.val (by kernel_rfl) (by kernel_rfl) rfl (by kernel_rfl) ?_
    refine RW.loads 2 (by kernel_rfl) (by kernel_rfl) rfl rfl r30 rfl rfl (by kernel_rfl) ?_
    refine RW.call (by kernel_rfl) (by kernel_rfl) rfl rfl rfl (by kernel_rfl) (by kernel_rfl) ((slice_c (G := G) M.zD gn ha (by omega) M.d4 (by omega)).mono ?_)
    rintro _ σp9 ⟨Gp, s1, rfl, Vs1⟩
    have np := Gp.nx
    refine RW.val (by kernel_rfl) (by kernel_rfl) rfl (by kernel_rfl) ?_
    refine RW.val (by kernel_rfl) (by kernel_rfl) rfl (by kernel_rfl) ?_
    refine RW.val (by kernel_rfl) (by kernel_rfl) rfl (by kernel_rfl) ?_
    refine RW.val (by kernel_rfl) (by kernel_rfl) rfl (by kernel_rfl) ?_
    refine RW.val (by kernel_rfl) (by kernel_rfl) rfl (by kernel_rfl) ?_
    have K : ∀ b y, σq8.get b = some y → σp9.get b = some y := Gp.old
    replace r11 := K _ _ r11
    replace r16 := K _ _ r16
    replace r18 := K _ _ r18
    replace r20 := K _ _ r20
    replace r22 := K _ _ r22
    replace r24 := K _ _ r24
    replace r26 := K _ _ r26
    replace r28 := K _ _ r28
    replace r30 := K _ _ r30
    replace g8 := grow_old g8 K
    replace g9 := grow_old g9 K
    replace gn : G ≤ σp9.next := by omega
    replace nz : σ.next ≤ σp9.next := by omega
    replace ha := Gp.abs.trans ha
    clear K
    clear Gp np
    refine RW.nil ?_
    refine W.reset [(5, pp σ0.next), (8, v8), (9, v9), (10, .int .i64 p), (11, pp σa.next), (16, pp σp1.next), (17, .int .i64 0), (18, pp σp2.next), (19, .int .i64 0), (20, pp σp3.next), (21, .int .i64 0), (22, pp σp4.next), (23, .int .i64 0), (24, pp σp5.next), (25, .int .i64 0), (26, pp σp6.next), (27, .int .i64 0), (28, pp σq6.next), (29, .int .i64 ((xs.length + xs.length + xs.length + L.length : Nat) : Int)), (30, pp σp8.next), (31, .int .i64 0), (32, s1)] ⟨rfl, rfl, rfl, rfl, rfl, rfl, rfl, rfl, rfl, rfl, rfl, rfl, rfl, rfl, rfl, rfl, rfl, rfl, rfl, rfl, rfl, rfl, trivial⟩ fun TA => ?_
    refine W.seq ?_
    refine W.region ?_
    refine RW.val (by kernel_rfl) (by kernel_rfl) rfl (by kernel_rfl) ?_
    refine RW.loads 2 (by kernel_rfl) (by kernel_rfl) rfl rfl r26 rfl rfl (by kernel_rfl) ?_
    refine RW.call (by kernel_rfl) (by kernel_rfl) rfl rfl rfl (by kernel_rfl) (by kernel_rfl) ((slice_c (G := G) M.zR gn ha (by omega) M.r4 (by omega)).mono ?_)
    rintro _ σp10 ⟨Gp, s2, rfl, Vs2⟩
    have np := Gp.nx
    refine RW.val (by kernel_rfl) (by kernel_rfl) rfl (by kernel_rfl) ?_
    refine RW.val (by kernel_rfl) (by kernel_rfl) rfl (by kernel_rfl) ?_
    refine RW.val (by kernel_rfl) (by kernel_rfl) rfl (by kernel_rfl) ?_
    refine RW.val (by kernel_rfl) (by kernel_rfl) rfl (by kernel_rfl) ?_
    refine RW.val (by kernel_rfl) (by kernel_rfl) rfl (by kernel_rfl) ?_
    have K : ∀ b y, σp9.get b = some y → σp10.get b = some y := Gp.old
    replace r11 := K _ _ r11
    replace r16 := K _ _ r16
    replace r18 := K _ _ r18
    replace r20 := K _ _ r20
    replace r22 := K _ _ r22
    replace r24 := K _ _ r24
    replace r26 := K _ _ r26
    replace r28 := K _ _ r28
    replace r30 := K _ _ r30
    replace g8 := grow_old g8 K
    replace g9 := grow_old g9 K
    replace Vs1 := Vs1.old K
    replace gn : G ≤ σp10.next := by omega
    replace nz : σ.next ≤ σp10.next := by omega
    replace ha := Gp.abs.trans ha
    clear K
    clear Gp np
    refine RW.nil ?_
    refine W.reset [(5, pp σ0.next), (8, v8), (9, v9), (10, .int .i64 p), (11, pp σa.next), (16, pp σp1.next), (17, .int .i64 0), (18, pp σp2.next), (19, .int .i64 0), (20, pp σp3.next), (21, .int .i64 0), (22, pp σp4.next), (23, .int .i64 0), (24, pp σp5.next), (25, .int .i64 0), (26, pp σp6.next), (27, .int .i64 0), (28, pp σq6.next), (29, .int .i64 ((xs.length + xs.length + xs.length + L.length : Nat) : Int)), (30, pp σp8.next), (31, .int .i64 0), (32, s1), (34, s2)] ⟨rfl, rfl, rfl, rfl, rfl, rfl, rfl, rfl, rfl, rfl, rfl, rfl, rfl, rfl, rfl, rfl, rfl, rfl, rfl, rfl, rfl, rfl, rfl, trivial⟩ fun TA => ?_
    have CM := s_many (G := G) ha
    rw [M.k4] at CM
    have V8 := grow_vw g8
    refine W.seq ?_
    refine W.region ?_
    refine RW.val (by kernel_rfl) (by kernel_rfl) rfl (by kernel_rfl) ?_
    refine RW.valE (v' := .bool true) (by kernel_rfl) (by kernel_rfl) rfl (congrArg Value.bool (beq_iff_eq.2 rfl)) (by kernel_rfl) ?_
    refine RW.val (by kernel_rfl) (by kernel_rfl) rfl (by kernel_rfl) ?_
    refine RW.val (by rfl) (by kernel_rfl) rfl (by kernel_rfl) ?_
    refine RW.valE (v' := .bool true) (by rfl) (by kernel_rfl) rfl (congrArg Value.bool (beq_iff_eq.2 rfl)) (by kernel_rfl) ?_
    refine RW.val (by kernel_rfl) (by kernel_rfl) rfl (by kernel_rfl) ?_
    refine RW.val (by kernel_rfl) (by kernel_rfl) rfl (by kernel_rfl) ?_
    refine RW.val (by rfl) (by kernel_rfl) rfl (by kernel_rfl) ?_
    refine RW.valE (v' := .bool true) (by rfl) (by kernel_rfl) rfl (congrArg Value.bool (beq_iff_eq.2 rfl)) (by kernel_rfl) ?_
    refine RW.val (by kernel_rfl) (by kernel_rfl) rfl (by kernel_rfl) ?_
    refine RW.val (by kernel_rfl) (by kernel_rfl) rfl (by kernel_rfl) ?_
    refine RW.val (by rfl) (by kernel_rfl) rfl (by kernel_rfl) ?_
    refine RW.valE (v' := .bool true) (by rfl) (by kernel_rfl) rfl (congrArg Value.bool (beq_iff_eq.2 rfl)) (by kernel_rfl) ?_
    refine RW.val (by kernel_rfl) (by kernel_rfl) rfl (by kernel_rfl) ?_
    refine RW.val (by kernel_rfl) (by kernel_rfl) rfl (by kernel_rfl) ?_
    refine RW.val (by rfl) (by kernel_rfl) rfl (by kernel_rfl) ?_
    refine RW.valE (v' := .bool true) (by rfl) (by kernel_rfl) rfl (congrArg Value.bool (beq_iff_eq.2 rfl)) (by kernel_rfl) ?_
    refine RW.val (by kernel_rfl) (by kernel_rfl) rfl (by kernel_rfl) ?_
    refine RW.val (by kernel_rfl) (by kernel_rfl) rfl (by kernel_rfl) ?_
    refine RW.loads 2 (by rfl) (by kernel_rfl) rfl rfl r20 rfl rfl (by kernel_rfl) ?_
    refine RW.loads 2 (by rfl) (by kernel_rfl) rfl rfl r28 rfl rfl (by kernel_rfl) ?_
    refine RW.vop (v := .bool (true)) (by rfl) (by kernel_rfl) (vop_eqS (b := true) (r := true) rfl (.inl ⟨rfl, rfl⟩) rfl rfl rfl rfl (by kernel_rfl) (fun w => (eqWd _ _ _ _ w).trans (by simp))) (by kernel_rfl) ?_
    refine RW.val (by kernel_rfl) (by kernel_rfl) rfl (by kernel_rfl) ?_
    refine RW.val (by kernel_rfl) (by kernel_rfl) rfl (by kernel_rfl) ?_
    refine RW.loads 2 (by rfl) (by kernel_rfl) rfl rfl r22 rfl rfl (by kernel_rfl) ?_
    refine RW.loads 2 (by rfl) (by kernel_rfl) rfl rfl r28 rfl rfl (by kernel_rfl) ?_
    refine RW.vop (v := .bool (true)) (by rfl) (by kernel_rfl) (vop_eqS (b := true) (r := true) rfl (.inl ⟨rfl, rfl⟩) rfl rfl rfl rfl (by kernel_rfl) (fun w => (eqWd _ _ _ _ w).trans (by simp))) (by kernel_rfl) ?_
    refine RW.val (by kernel_rfl) (by kernel_rfl) rfl (by kernel_rfl) ?_
    refine RW.val (by kernel_rfl) (by kernel_rfl) rfl (by kernel_rfl) ?_
    refine RW.reset [(194, .bool true), (5, pp σ0.next), (29, .int .i64 ((xs.length + xs.length + xs.length + L.length : Nat) : Int)), (32, s1), (8, v8), (34, s2)] ⟨rfl, rfl, rfl, rfl, rfl, rfl, trivial⟩ fun TA rs' => ?_
    refine RW.val (by rfl) (by kernel_rfl) rfl (by kernel_rfl) ?_
    refine RW.call (by rfl) (by kernel_rfl) rfl rfl rfl (by kernel_rfl) (by kernel_rfl) ⟨_, _, CM, ?_⟩
    refine RW.val (by rfl) (by kernel_rfl) rfl (by kernel_rfl) ?_
    refine RW.valE (v' := .bool true) (by rfl) (by kernel_rfl) rfl (congrArg Value.bool (beq_iff_eq.2 rfl)) (by kernel_rfl) ?_
    refine RW.val (by kernel_rfl) (by kernel_rfl) rfl (by kernel_rfl) ?_
    refine RW.val (by kernel_rfl) (by kernel_rfl) rfl (by kernel_rfl) ?_
    refine RW.reset [(200, .bool true), (32, s1), (8, v8), (34, s2)] ⟨rfl, rfl, rfl, rfl, trivial⟩ fun TA rs' => ?_
    refine RW.val (by rfl) (by kernel_rfl) rfl (by kernel_rfl) ?_
    refine RW.val (by rfl) (by kernel_rfl) rfl (by kernel_rfl) ?_
    refine RW.call (by rfl) (by kernel_rfl) rfl rfl rfl (by kernel_rfl) (by kernel_rfl) ((same_c (G := G) (l1 := L) (l2 := L) rfl gn Vs1 V8 (by omega)).mono ?_)
    rintro _ σx ⟨rfl, hσx⟩
    obtain rfl := hσx.symm
    refine RW.val (by kernel_rfl) (by kernel_rfl) rfl (by kernel_rfl) ?_
    refine RW.val (by kernel_rfl) (by kernel_rfl) rfl (by kernel_rfl) ?_
    refine RW.val (by rfl) (by kernel_rfl) rfl (by kernel_rfl) ?_
    refine RW.val (by rfl) (by kernel_rfl) rfl (by kernel_rfl) ?_
    refine RW.call (by rfl) (by kernel_rfl) rfl rfl rfl (by kernel_rfl) (by kernel_rfl) ((same_c (G := G) (l1 := L) (l2 := L) rfl gn Vs2 V8 (by omega)).mono ?_)
    rintro _ σx ⟨rfl, hσx⟩
    obtain rfl := hσx.symm
    refine RW.val (by kernel_rfl) (by kernel_rfl) rfl (by kernel_rfl) ?_
    refine RW.val (by kernel_rfl) (by kernel_rfl) rfl (by kernel_rfl) ?_
    refine RW.nil ?_
    refine W.ret ?_
    exact endG (R := fun v _ => v = Value.bool true) rfl (resL_tmp rfl) rfl
  · subst hp hwp
    refine RW.valE (v' := .bool true) (by kernel_rfl) (by kernel_rfl) rfl (congrArg Value.bool (decide_eq_true (by omega))) (by kernel_rfl) ?_
    refine RW.nil ?_
    refine W.cond (b := true) rfl (fun _ => ?_) (fun h => by cases h)
    refine W.seq ?_
    refine W.region ?_
    refine RW.val (by kernel_rfl) (by kernel_rfl) rfl (by kernel_rfl) ?_
    refine RW.loads 2 (by kernel_rfl) (by kernel_rfl) rfl rfl r16 rfl rfl (by kernel_rfl) ?_
    refine RW.val (by kernel_rfl) (by kernel_rfl) rfl (by kernel_rfl) ?_
    refine RW.call (by kernel_rfl) (by kernel_rfl) rfl rfl rfl (by kernel_rfl) (by kernel_rfl) ((tail_c (G := G) (k := q) M.zA gn ha (by omega) M.c3 (by omega) (by omega)).mono ?_)
    rintro _ σp8 ⟨rfl, Gp⟩
    have np := Gp.nx
    refine RW.val (by kernel_rfl) (by kernel_rfl) rfl (by kernel_rfl) ?_
    refine RW.val (by kernel_rfl) (by kernel_rfl) rfl (by kernel_rfl) ?_
    refine RW.val (by kernel_rfl) (by kernel_rfl) rfl (by kernel_rfl) ?_
    have K : ∀ b y, σq7.get b = some y → σp8.get b = some y := Gp.old
    replace r11 := K _ _ r11
    replace r16 := K _ _ r16
    replace r18 := K _ _ r18
    replace r20 := K _ _ r20
    replace r22 := K _ _ r22
    replace r24 := K _ _ r24
    replace r26 := K _ _ r26
    replace r28 := K _ _ r28
    replace g8 := grow_old g8 K
    replace g9 := grow_old g9 K
    replace gn : G ≤ σp8.next := by omega
    replace nz : σ.next ≤ σp8.next := by omega
    replace ha := Gp.abs.trans ha
    clear K
    clear Gp np
    rw [← hwm]
    refine RW.setG (b := σq6.next) (vs := #[.int .i64 wm.1, .int .i64 wm.2]) (by kernel_rfl) (by kernel_rfl) rfl rfl (by omega) r28 rfl rfl (by kernel_rfl) rfl (by kernel_rfl) ?_; intro σs8 _ s28
    refine RW.nil ?_
    replace r11 := s28.old _ _ (by omega) r11
    replace r16 := s28.old _ _ (by omega) r16
    replace r18 := s28.old _ _ (by omega) r18
    replace r20 := s28.old _ _ (by omega) r20
    replace r22 := s28.old _ _ (by omega) r22
    replace r24 := s28.old _ _ (by omega) r24
    replace r26 := s28.old _ _ (by omega) r26
    replace r28 := s28.at_
    replace g8 := grow_set g8 s28 (fun e => by have := f8 _ e; omega)
    replace g9 := grow_set g9 s28 (fun e => by have := f9 _ e; omega)
    replace gn : G ≤ σs8.next := by rw [s28.nx]; exact gn
    replace nz : σ.next ≤ σs8.next := by rw [s28.nx]; exact nz
    replace ha := s28.abs.trans ha
    clear s28
    refine W.reset [(5, pp σ0.next), (8, v8), (9, v9), (10, .int .i64 (q : Int)), (11, pp σa.next), (16, pp σp1.next), (17, .int .i64 0), (18, pp σp2.next), (19, .int .i64 0), (20, pp σp3.next), (21, .int .i64 0), (22, pp σp4.next), (23, .int .i64 0), (24, pp σp5.next), (25, .int .i64 0), (26, pp σp6.next), (27, .int .i64 0), (28, pp σq6.next)] ⟨rfl, rfl, rfl, rfl, rfl, rfl, rfl, rfl, rfl, rfl, rfl, rfl, rfl, rfl, rfl, rfl, rfl, rfl, trivial⟩ fun TA => ?_
    have gsl := g9.sl
    obtain ⟨qb, pb, sp, cc, rr, hsl, hqr, hqc⟩ := sl_at (l := prW xs.length) (j := q) gsl (by rw [prW_length]; exact hq)
    rw [prW_length] at hsl
    rw [prW_at hq] at hqc
    refine W.seq ?_
    refine W.drawn (by kernel_rfl) (by kernel_rfl) gn ?_
    refine RW.loads 2 (by kernel_rfl) (by kernel_rfl) rfl rfl r24 rfl rfl (by kernel_rfl) ?_
    refine RW.val (by kernel_rfl) (by kernel_rfl) rfl (by kernel_rfl) ?_
    refine RW.val (by kernel_rfl) (by kernel_rfl) rfl (by kernel_rfl) ?_
    refine RW.know 137 (x := .slice (some ⟨qb, pb, sp⟩) xs.length cc) hsl ?_
    refine RW.idx (s := 2) (by kernel_rfl) (by kernel_rfl) rfl Tryz.underlying29 (by kernel_rfl) rfl rfl ⟨by omega, by omega⟩ (by kernel_rfl) ?_
    refine RW.loads 2 (by kernel_rfl) (by kernel_rfl) rfl rfl hqr hqc rfl (by kernel_rfl) ?_
    refine RW.vop (v := .bool (false)) (by kernel_rfl) (by kernel_rfl) (vop_eqS (b := true) (r := false) rfl (.inr ⟨rfl, rfl⟩) rfl rfl rfl rfl (by kernel_rfl) (fun w => (eqWd _ _ _ _ w).trans (by simp))) (by kernel_rfl) ?_
    refine RW.nil ?_
    refine ⟨⟨by kernel_rfl, ?_⟩, ?_⟩
    · repeat' (first | exact True.intro | exact fun h => Bool.noConfusion h | refine And.intro ?_ ?_ | exact Or.inl (by kernel_rfl))
    refine W.cond (b := false) rfl (fun h => by cases h) (fun _ => ?_)
    refine W.skip ?_
    refine W.reset [(5, pp σ0.next), (8, v8), (9, v9), (10, .int .i64 (q : Int)), (11, pp σa.next), (16, pp σp1.next), (17, .int .i64 0), (18, pp σp2.next), (19, .int .i64 0), (20, pp σp3.next), (21, .int .i64 0), (22, pp σp4.next), (23, .int .i64 0), (24, pp σp5.next), (25, .int .i64 0), (26, pp σp6.next), (27, .int .i64 0), (28, pp σq6.next)] ⟨rfl, rfl, rfl, rfl, rfl, rfl, rfl, rfl, rfl, rfl, rfl, rfl, rfl, rfl, rfl, rfl, rfl, rfl, trivial⟩ fun TA => ?_
    have CM := s_many (G := G) ha
    rw [y3] at CM
    refine W.seq ?_
    refine W.region ?_
    refine RW.val (by kernel_rfl) (by kernel_rfl) rfl (by kernel_rfl) ?_
    refine RW.call (by kernel_rfl) (by kernel_rfl) rfl rfl rfl (by kernel_rfl) (by kernel_rfl) ⟨_, _, CM, ?_⟩
    refine RW.val (by kernel_rfl) (by kernel_rfl) rfl (by kernel_rfl) ?_
    refine RW.nil ?_
    refine W.reset [(5, pp σ0.next), (8, v8), (9, v9), (10, .int .i64 (q : Int)), (11, pp σa.next), (16, pp σp1.next), (17, .int .i64 0), (18, pp σp2.next), (19, .int .i64 0), (20, pp σp3.next), (21, .int .i64 0), (22, pp σp4.next), (23, .int .i64 0), (24, pp σp5.next), (25, .int .i64 0), (26, pp σp6.next), (27, .int .i64 0), (28, pp σq6.next), (29, .int .i64 ((xs.length + xs.length + xs.length + L.length : Nat) : Int))] ⟨rfl, rfl, rfl, rfl, rfl, rfl, rfl, rfl, rfl, rfl, rfl, rfl, rfl, rfl, rfl, rfl, rfl, rfl, rfl, trivial⟩ fun TA => ?_
    refine W.seq ?_
    refine W.region ?_
    refine RW.val (by kernel_rfl) (by kernel_rfl) rfl (by kernel_rfl) ?_
    refine RW.loads 2 (by kernel_rfl) (by kernel_rfl) rfl rfl r11 rfl rfl (by kernel_rfl) ?_
    refine RW.loads 2 (by kernel_rfl) (by kernel_rfl) rfl rfl r16 rfl rfl (by kernel_rfl) ?_
    refine RW.call (by kernel_rfl) (by kernel_rfl) rfl rfl rfl (by kernel_rfl) (by kernel_rfl) ((delq_t (G := G) M.zA gn ha (by omega) M.c3 (by omega) M.e4).mono ?_)
    rintro _ σp9 ⟨rfl, Gp, ap⟩
    have np := Gp.nx
    refine RW.val (by kernel_rfl) (by kernel_rfl) rfl (by kernel_rfl) ?_
    refine RW.val (by kernel_rfl) (by kernel_rfl) rfl (by kernel_rfl) ?_
    refine RW.val (by kernel_rfl) (by kernel_rfl) rfl (by kernel_rfl) ?_
    refine RW.varS (d := 30) (r0 := ⟨[.int .i64 0, .int .i64 0], 37, false⟩) (vs := #[.int .i64 d.1, .int .i64 d.2]) (by kernel_rfl) (by kernel_rfl) (by kernel_rfl) rfl (by kernel_rfl) rfl (by kernel_rfl) rfl rfl rfl rfl (by kernel_rfl) rfl (by omega) ?_
    intro σq9 _ r30 oq nq aq
    have K : ∀ b y, σs8.get b = some y → σq9.get b = some y := fun b y hy => oq b y (Gp.old b y hy)
    replace r11 := K _ _ r11
    replace r16 := K _ _ r16
    replace r18 := K _ _ r18
    replace r20 := K _ _ r20
    replace r22 := K _ _ r22
    replace r24 := K _ _ r24
    replace r26 := K _ _ r26
    replace r28 := K _ _ r28
    replace g8 := grow_old g8 K
    replace g9 := grow_old g9 K
    replace gn : G ≤ σq9.next := by omega
    replace nz : σ.next ≤ σq9.next := by omega
    replace ha := aq.trans (ap)
    clear K
    clear oq nq aq
    clear Gp ap np
    refine RW.val (by kernel_rfl) (by kernel_rfl) rfl (by kernel_rfl) ?_
    refine RW.nil ?_
    refine W.reset [(5, pp σ0.next), (8, v8), (9, v9), (10, .int .i64 (q : Int)), (11, pp σa.next), (16, pp σp1.next), (17, .int .i64 0), (18, pp σp2.next), (19, .int .i64 0), (20, pp σp3.next), (21, .int .i64 0), (22, pp σp4.next), (23, .int .i64 0), (24, pp σp5.next), (25, .int .i64 0), (26, pp σp6.next), (27, .int .i64 0), (28, pp σq6.next), (29, .int .i64 ((xs.length + xs.length + xs.length + L.length : Nat) : Int)), (30, pp σp9.next), (31, .int .i64 0)] ⟨rfl, rfl, rfl, rfl, rfl, rfl, rfl, rfl, rfl, rfl, rfl, rfl, rfl, rfl, rfl, rfl, rfl, rfl, rfl, rfl, rfl, trivial⟩ fun TA => ?_
    refine W.seq ?_
    refine W.region ?_
    refine RW.val (by kernel_rfl) (by kernel_rfl) rfl (by kernel_rfl) ?_
    refine RW.loads 2 (by kernel_rfl) (by kernel_rfl) rfl rfl r30 rfl rfl (by kernel_rfl) ?_
    refine RW.call (by kernel_rfl) (by kernel_rfl) rfl rfl rfl (by kernel_rfl) (by kernel_rfl) ((slice_c (G := G) M.zD gn ha (by omega) M.d4 (by omega)).mono ?_)
    rintro _ σp10 ⟨Gp, s1, rfl, Vs1⟩
    have np := Gp.nx
    refine RW.val (by kernel_rfl) (by kernel_rfl) rfl (by kernel_rfl) ?_
    refine RW.val (by kernel_rfl) (by kernel_rfl) rfl (by kernel_rfl) ?_
    refine RW.val (by kernel_rfl) (by kernel_rfl) rfl (by kernel_rfl) ?_
    refine RW.val (by kernel_rfl) (by kernel_rfl) rfl (by kernel_rfl) ?_
    refine RW.val (by kernel_rfl) (by kernel_rfl) rfl (by kernel_rfl) ?_
    have K : ∀ b y, σq9.get b = some y → σp10.get b = some y := Gp.old
    replace r11 := K _ _ r11
    replace r16 := K _ _ r16
    replace r18 := K _ _ r18
    replace r20 := K _ _ r20
    replace r22 := K _ _ r22
    replace r24 := K _ _ r24
    replace r26 := K _ _ r26
    replace r28 := K _ _ r28
    replace r30 := K _ _ r30
    replace g8 := grow_old g8 K
    replace g9 := grow_old g9 K
    replace gn : G ≤ σp10.next := by omega
    replace nz : σ.next ≤ σp10.next := by omega
    replace ha := Gp.abs.trans ha
    clear K
    clear Gp np
    refine RW.nil ?_
    refine W.reset [(5, pp σ0.next), (8, v8), (9, v9), (10, .int .i64 (q : Int)), (11, pp σa.next), (16, pp σp1.next), (17, .int .i64 0), (18, pp σp2.next), (19, .int .i64 0), (20, pp σp3.next), (21, .int .i64 0), (22, pp σp4.next), (23, .int .i64 0), (24, pp σp5.next), (25, .int .i64 0), (26, pp σp6.next), (27, .int .i64 0), (28, pp σq6.next), (29, .int .i64 ((xs.length + xs.length + xs.length + L.length : Nat) : Int)), (30, pp σp9.next), (31, .int .i64 0), (32, s1)] ⟨rfl, rfl, rfl, rfl, rfl, rfl, rfl, rfl, rfl, rfl, rfl, rfl, rfl, rfl, rfl, rfl, rfl, rfl, rfl, rfl, rfl, rfl, trivial⟩ fun TA => ?_
    refine W.seq ?_
    refine W.region ?_
    refine RW.val (by kernel_rfl) (by kernel_rfl) rfl (by kernel_rfl) ?_
    refine RW.loads 2 (by kernel_rfl) (by kernel_rfl) rfl rfl r26 rfl rfl (by kernel_rfl) ?_
    refine RW.call (by kernel_rfl) (by kernel_rfl) rfl rfl rfl (by kernel_rfl) (by kernel_rfl) ((slice_c (G := G) M.zR gn ha (by omega) M.r4 (by omega)).mono ?_)
    rintro _ σp11 ⟨Gp, s2, rfl, Vs2⟩
    have np := Gp.nx
    refine RW.val (by kernel_rfl) (by kernel_rfl) rfl (by kernel_rfl) ?_
    refine RW.val (by kernel_rfl) (by kernel_rfl) rfl (by kernel_rfl) ?_
    refine RW.val (by kernel_rfl) (by kernel_rfl) rfl (by kernel_rfl) ?_
    refine RW.val (by kernel_rfl) (by kernel_rfl) rfl (by kernel_rfl) ?_
    refine RW.val (by kernel_rfl) (by kernel_rfl) rfl (by kernel_rfl) ?_
    have K : ∀ b y, σp10.get b = some y → σp11.get b = some y := Gp.old
    replace r11 := K _ _ r11
    replace r16 := K _ _ r16
    replace r18 := K _ _ r18
    replace r20 := K _ _ r20
    replace r22 := K _ _ r22
    replace r24 := K _ _ r24
    replace r26 := K _ _ r26
    replace r28 := K _ _ r28
    replace r30 := K _ _ r30
    replace g8 := grow_old g8 K
    replace g9 := grow_old g9 K
    replace Vs1 := Vs1.old K
    replace gn : G ≤ σp11.next := by omega
    replace nz : σ.next ≤ σp11.next := by omega
    replace ha := Gp.abs.trans ha
    clear K
    clear Gp np
    refine RW.nil ?_
    refine W.reset [(5, pp σ0.next), (8, v8), (9, v9), (10, .int .i64 (q : Int)), (11, pp σa.next), (16, pp σp1.next), (17, .int .i64 0), (18, pp σp2.next), (19, .int .i64 0), (20, pp σp3.next), (21, .int .i64 0), (22, pp σp4.next), (23, .int .i64 0), (24, pp σp5.next), (25, .int .i64 0), (26, pp σp6.next), (27, .int .i64 0), (28, pp σq6.next), (29, .int .i64 ((xs.length + xs.length + xs.length + L.length : Nat) : Int)), (30, pp σp9.next), (31, .int .i64 0), (32, s1), (34, s2)] ⟨rfl, rfl, rfl, rfl, rfl, rfl, rfl, rfl, rfl, rfl, rfl, rfl, rfl, rfl, rfl, rfl, rfl, rfl, rfl, rfl, rfl, rfl, rfl, trivial⟩ fun TA => ?_
    have CM := s_many (G := G) ha
    rw [M.k4] at CM
    have V8 := grow_vw g8
    refine W.seq ?_
    refine W.region ?_
    refine RW.val (by kernel_rfl) (by kernel_rfl) rfl (by kernel_rfl) ?_
    refine RW.valE (v' := .bool true) (by kernel_rfl) (by kernel_rfl) rfl (congrArg Value.bool (beq_iff_eq.2 rfl)) (by kernel_rfl) ?_
    refine RW.val (by kernel_rfl) (by kernel_rfl) rfl (by kernel_rfl) ?_
    refine RW.val (by rfl) (by kernel_rfl) rfl (by kernel_rfl) ?_
    refine RW.valE (v' := .bool true) (by rfl) (by kernel_rfl) rfl (congrArg Value.bool (beq_iff_eq.2 rfl)) (by kernel_rfl) ?_
    refine RW.val (by kernel_rfl) (by kernel_rfl) rfl (by kernel_rfl) ?_
    refine RW.val (by kernel_rfl) (by kernel_rfl) rfl (by kernel_rfl) ?_
    refine RW.val (by rfl) (by kernel_rfl) rfl (by kernel_rfl) ?_
    refine RW.valE (v' := .bool true) (by rfl) (by kernel_rfl) rfl (congrArg Value.bool (beq_iff_eq.2 rfl)) (by kernel_rfl) ?_
    refine RW.val (by kernel_rfl) (by kernel_rfl) rfl (by kernel_rfl) ?_
    refine RW.val (by kernel_rfl) (by kernel_rfl) rfl (by kernel_rfl) ?_
    refine RW.val (by rfl) (by kernel_rfl) rfl (by kernel_rfl) ?_
    refine RW.valE (v' := .bool true) (by rfl) (by kernel_rfl) rfl (congrArg Value.bool (beq_iff_eq.2 rfl)) (by kernel_rfl) ?_
    refine RW.val (by kernel_rfl) (by kernel_rfl) rfl (by kernel_rfl) ?_
    refine RW.val (by kernel_rfl) (by kernel_rfl) rfl (by kernel_rfl) ?_
    refine RW.val (by rfl) (by kernel_rfl) rfl (by kernel_rfl) ?_
    refine RW.valE (v' := .bool true) (by rfl) (by kernel_rfl) rfl (congrArg Value.bool (beq_iff_eq.2 rfl)) (by kernel_rfl) ?_
    refine RW.val (by kernel_rfl) (by kernel_rfl) rfl (by kernel_rfl) ?_
    refine RW.val (by kernel_rfl) (by kernel_rfl) rfl (by kernel_rfl) ?_
    refine RW.loads 2 (by rfl) (by kernel_rfl) rfl rfl r20 rfl rfl (by kernel_rfl) ?_
    refine RW.loads 2 (by rfl) (by kernel_rfl) rfl rfl r28 rfl rfl (by kernel_rfl) ?_
    refine RW.vop (v := .bool (true)) (by rfl) (by kernel_rfl) (vop_eqS (b := true) (r := true) rfl (.inl ⟨rfl, rfl⟩) rfl rfl rfl rfl (by kernel_rfl) (fun w => (eqWd _ _ _ _ w).trans (by simp))) (by kernel_rfl) ?_
    refine RW.val (by kernel_rfl) (by kernel_rfl) rfl (by kernel_rfl) ?_
    refine RW.val (by kernel_rfl) (by kernel_rfl) rfl (by kernel_rfl) ?_
    refine RW.loads 2 (by rfl) (by kernel_rfl) rfl rfl r22 rfl rfl (by kernel_rfl) ?_
    refine RW.loads 2 (by rfl) (by kernel_rfl) rfl rfl r28 rfl rfl (by kernel_rfl) ?_
    refine RW.vop (v := .bool (true)) (by rfl) (by kernel_rfl) (vop_eqS (b := true) (r := true) rfl (.inl ⟨rfl, rfl⟩) rfl rfl rfl rfl (by kernel_rfl) (fun w => (eqWd _ _ _ _ w).trans (by simp))) (by kernel_rfl) ?_
    refine RW.val (by kernel_rfl) (by kernel_rfl) rfl (by kernel_rfl) ?_
    refine RW.val (by kernel_rfl) (by kernel_rfl) rfl (by kernel_rfl) ?_
    refine RW.reset [(194, .bool true), (5, pp σ0.next), (29, .int .i64 ((xs.length + xs.length + xs.length + L.length : Nat) : Int)), (32, s1), (8, v8), (34, s2)] ⟨rfl, rfl, rfl, rfl, rfl, rfl, trivial⟩ fun TA rs' => ?_
    refine RW.val (by rfl) (by kernel_rfl) rfl (by kernel_rfl) ?_
    refine RW.call (by rfl) (by kernel_rfl) rfl rfl rfl (by kernel_rfl) (by kernel_rfl) ⟨_, _, CM, ?_⟩
    refine RW.val (by rfl) (by kernel_rfl) rfl (by kernel_rfl) ?_
    refine RW.valE (v' := .bool true) (by rfl) (by kernel_rfl) rfl (congrArg Value.bool (beq_iff_eq.2 rfl)) (by kernel_rfl) ?_
    refine RW.val (by kernel_rfl) (by kernel_rfl) rfl (by kernel_rfl) ?_
    refine RW.val (by kernel_rfl) (by kernel_rfl) rfl (by kernel_rfl) ?_
    refine RW.reset [(200, .bool true), (32, s1), (8, v8), (34, s2)] ⟨rfl, rfl, rfl, rfl, trivial⟩ fun TA rs' => ?_
    refine RW.val (by rfl) (by kernel_rfl) rfl (by kernel_rfl) ?_
    refine RW.val (by rfl) (by kernel_rfl) rfl (by kernel_rfl) ?_
    refine RW.call (by rfl) (by kernel_rfl) rfl rfl rfl (by kernel_rfl) (by kernel_rfl) ((same_c (G := G) (l1 := L) (l2 := L) rfl gn Vs1 V8 (by omega)).mono ?_)
    rintro _ σx ⟨rfl, hσx⟩
    obtain rfl := hσx.symm
    refine RW.val (by kernel_rfl) (by kernel_rfl) rfl (by kernel_rfl) ?_
    refine RW.val (by kernel_rfl) (by kernel_rfl) rfl (by kernel_rfl) ?_
    refine RW.val (by rfl) (by kernel_rfl) rfl (by kernel_rfl) ?_
    refine RW.val (by rfl) (by kernel_rfl) rfl (by kernel_rfl) ?_
    refine RW.call (by rfl) (by kernel_rfl) rfl rfl rfl (by kernel_rfl) (by kernel_rfl) ((same_c (G := G) (l1 := L) (l2 := L) rfl gn Vs2 V8 (by omega)).mono ?_)
    rintro _ σx ⟨rfl, hσx⟩
    obtain rfl := hσx.symm
    refine RW.val (by kernel_rfl) (by kernel_rfl) rfl (by kernel_rfl) ?_
    refine RW.val (by kernel_rfl) (by kernel_rfl) rfl (by kernel_rfl) ?_
    refine RW.nil ?_
    refine W.ret ?_
    exact endG (R := fun v _ => v = Value.bool true) rfl (resL_tmp rfl) rfl
end Go.Proofs.YtehcckhdppdkcaaGreatDoor
