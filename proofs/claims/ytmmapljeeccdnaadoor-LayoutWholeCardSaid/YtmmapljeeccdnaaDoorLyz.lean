/-
 LayoutWhole in the second memory. Conditions: none.
-/
import Derived.Test.YtmmapljeeccdnaaDoorL6
import Derived.Test.YtmmapljeeccdnaaDoorL5
namespace Go.Proofs.YtmmapljeeccdnaaDoor
set_option maxRecDepth 100000
open Go.Lib Go.RowKit
set_option maxHeartbeats 32000000 in
theorem whole_law {G : Nat} {σ0 : Mem} {v1 : Value} {xs : List Int} {width : Int} (hb : ∀ x ∈ xs, -9223372036854775808 ≤ x ∧ x ≤ 9223372036854775807) (hw1 : -9223372036854775808 ≤ width) (hw2 : width ≤ 9223372036854775807) (hG : G ≤ σ0.next) (hno : σ0.abs = Abs.no) (h16 : 16 ≤ G) (hU : U8F σ0.get) (CK : ∀ σ', (∀ b y, σ0.get b = some y → σ'.get b = some y) → SCall G Tryd.prog 5 #[] σ' (.bool true) σ') (h1 : SlF σ0.get 1 v1 xs.length (xs.map (Value.int .i64))) :
  WC G Tryd.prog 6 #[v1, .int .i64 width] σ0 fun v _ => v = .bool true := by
 have H := Lies.start hG hno
 generalize σ0.get = F0 at H h1 hU CK
 obtain ⟨F, hF⟩ : ∃ F, F = F0 := ⟨_, rfl⟩
 have le0 : Le F0 F := fun b y h => hF ▸ h
 rw [← hF] at H
 clear hF
 refine WC.enter (fn := Tryd.f6) Tryd.func6 rfl ?_
 refine W.rg [(0, v1), (1, .int .i64 width)] fun TA => ?_
 refine W.seq (W.region ?_)
 refine RW.v ?_
 refine RW.nil ?_
 refine W.rg [(0, v1), (1, .int .i64 width)] fun TA => ?_
 refine W.seq (W.region ?_)
 refine RW.cl ?_
 refine ⟨_, _, (CK _ fun b y h => H.old _ _ (le0 b y h)), ?_⟩
 refine RW.v ?_
 refine RW.nil ?_
 refine W.rg [(0, v1), (1, .int .i64 width), (5, .bool true)] fun TA => ?_
 refine W.seq ?_
 refine W.seq (W.region ?_)
 refine RW.v ?_
 refine RW.len (by kernel_rfl) (by kernel_rfl) rfl rfl rfl rfl ((h1.le le0).len (e := 3) (by kernel_rfl)) (by kernel_rfl) ?_
 refine RW.v ?_
 refine RW.nil ?_
 refine W.rg [(0, v1), (1, .int .i64 width), (5, .bool true), (22, .bool (decide ((xs.length : Int) > 200)))] fun TA => ?_
 refine W.cond rfl (fun hc1 => ?_) (fun hc1 => ?_)
 ·have hc1b := hc1
  have hc1 := of_decide_eq_true hc1
  refine W.seq (W.region ?_)
  iterate 2 refine RW.v ?_
  refine RW.nil ?_
  refine W.ret ?_
  refine seqQ_ret ?_
  refine endG (by rfl) (by exact resL_tmp rfl) ?_
  exact rfl
 ·have hc1b := hc1
  have hc1 := of_decide_eq_false hc1
  refine W.skip ?_
  refine W.seq (W.region ?_)
  refine RW.v ?_
  refine RW.cl ?_
  refine ((letters_wc (h1.le le0) hb (by omega) H).mono ?_)
  clear H
  rintro _ _ ⟨F, ls, cur, vl, le, rfl, hlc, hla, hlen, hvl0, H⟩
  replace le0 := fun b y h => le b y (le0 b y h)
  obtain ⟨LS, hLS⟩ : ∃ LS, LS = ls ++ [cur] := ⟨_, rfl⟩
  have hvl : SlF F 1 vl LS.length (strV LS) := by rw [hLS, List.length_append]; unfold strV; rw [List.map_append]; exact hvl0
  have hLL : LS.length ≤ 201 := by have := ls_len (ls := ls) (cur := cur); rw [hLS, List.length_append, List.length_singleton]; omega
  have hLb : ∀ y ∈ LS, y.length ≤ 200 := hLS ▸ line_len hlen
  iterate 5 refine RW.v ?_
  refine RW.nil ?_
  refine W.rg [(1, .int .i64 width), (5, .bool true), (6, .string ⟨(bsOf ls cur).toArray⟩), (7, vl)] fun TA => ?_
  refine W.seq (W.region ?_)
  refine RW.v ?_
  have hpr := pick_range width 20 (by decide)
  refine RW.cl ?_
  refine ⟨_, _, (s_pickL width 20 hw1 hw2 (by decide) (by decide)), ?_⟩
  obtain ⟨wd, hwd⟩ : ∃ wd : Nat, 4 + pickOf width 20 = ((wd : Nat) : Int) := ⟨(4 + pickOf width 20).toNat, by omega⟩
  refine RW.valE (v' := .int .i64 ((wd : Nat) : Int)) (by kernel_rfl) (by kernel_rfl) rfl (congrArg (Value.int .i64) ((wrap_in (by omega) (by omega)).trans hwd)) (by kernel_rfl) ?_
  refine RW.v ?_
  refine RW.nil ?_
  refine W.rg [(1, .int .i64 ((wd : Nat) : Int)), (5, .bool true), (6, .string ⟨(bsOf ls cur).toArray⟩), (7, vl)] fun TA => ?_
  refine W.seq (W.region ?_)
  refine RW.v ?_
  refine RW.cl ?_
  refine WC.enter (fn := Tryd.f29) Tryd.func29 rfl ?_
  refine W.rg [(0, .int .i64 1), (1, .string ⟨(bsOf ls cur).toArray⟩)] fun TA => ?_
  refine W.seq (W.region ?_)
  refine RW.mk H (.row ⟨[.int .i64 0, .int .i64 0, .int .i64 0, .string ByteArray.empty, .int .i64 0, .int .i64 0, .bool false, .bool false, .bool false], 52, false⟩) ?_
  clear H; intro _ b2 _ H
  refine RW.nil ?_
  refine W.rg [(0, .int .i64 1), (1, .string ⟨(bsOf ls cur).toArray⟩), (4, .pointer (some ⟨b2, 0, none⟩))] fun TA => ?_
  refine W.seq (W.region ?_)
  iterate 3 refine RW.v ?_
  refine RW.vop (v := .int .i64 ((bsOf ls cur).length : Int)) (by kernel_rfl) (by kernel_rfl) (vop_sLenL rfl rfl rfl rfl Tryd.underlying9 rfl) (by kernel_rfl) ?_
  refine RW.valE (v' := .int .i64 (1 + ((bsOf ls cur).length : Int))) (by kernel_rfl) (by kernel_rfl) rfl (congrArg (Value.int .i64) (wrap_in (by omega) (by omega))) (by kernel_rfl) ?_
  refine RW.v ?_
  refine RW.val (v := .agg #[.int .i64 0, .int .i64 1, .int .i64 (1 + ((bsOf ls cur).length : Int)), .string ⟨(bsOf ls cur).toArray⟩, .int .i64 0, .int .i64 0, .bool false, .bool false, .bool false]) (by kernel_rfl) (by kernel_rfl) (by kernel_rfl) (by kernel_rfl) ?_
  refine RW.st H 0 [.int .i64 0, .int .i64 1, .int .i64 (1 + ((bsOf ls cur).length : Int)), .string ⟨(bsOf ls cur).toArray⟩, .int .i64 0, .int .i64 0, .bool false, .bool false, .bool false] [.int .i64 0, .int .i64 1, .int .i64 (1 + ((bsOf ls cur).length : Int)), .string ⟨(bsOf ls cur).toArray⟩, .int .i64 0, .int .i64 0, .bool false, .bool false, .bool false] ?_
  clear H; intro _ _ H; dsimp only [setL, delL] at H
  refine RW.nil ?_
  refine W.ret ?_
  refine endG (by rfl) (by exact resL_cell rfl (H.get 0 rfl) (by rw [uT_eq]; exact Tryd.underlying52) (by kernel_rfl) rfl rfl rfl) ?_
  refine RW.mkL H (x := .row ⟨[.int .i64 0, .int .i64 1, .int .i64 (1 + ((bsOf ls cur).length : Int)), .string ⟨(bsOf ls cur).toArray⟩, .int .i64 0, .int .i64 0, .bool false, .bool false, .bool false], 52, false⟩) (fm := fun b => .slice (some ⟨b, 0, none⟩) 1 1) (by kernel_rfl) (by kernel_rfl) (by kernel_rfl) (by kernel_rfl) ?_
  clear H; intro _ b3 _ H
  obtain ⟨F, le, hq1, H⟩ := H.freeze 0 rfl
  dsimp only [setL, delL] at H
  replace le0 := fun b y h => le b y (le0 b y h)
  replace hvl := hvl.le le
  obtain ⟨q, hq0⟩ : ∃ q, q = ownP (bsOf ls cur) := ⟨_, rfl⟩
  have hp1 : SlF F 9 (.slice (some ⟨b3, 0, none⟩) 1 1) [q].length (pC [q]) := by rw [hq0]; exact .some hq1 rfl rfl
  have hl : [q].length ≤ 1000 := by simp
  have hsm : ∀ x ∈ [q], x.s.length ≤ 1000 := fun x hx => by rw [List.mem_singleton.1 hx, hq0]; show (bsOf ls cur).length ≤ 1000; omega
  refine RW.v ?_
  refine RW.nil ?_
  replace H := (H.del 0)
  dsimp only [setL, delL] at H
  refine W.rg [(1, .int .i64 ((wd : Nat) : Int)), (5, .bool true), (6, .string ⟨(bsOf ls cur).toArray⟩), (7, vl), (8, (.slice (some ⟨b3, 0, none⟩) 1 1))] fun TA => ?_
  refine W.seq (W.region ?_)
  iterate 2 refine RW.v ?_
  refine RW.vop (v := .int .i64 ((bsOf ls cur).length : Int)) (by kernel_rfl) (by kernel_rfl) (vop_sLenL rfl rfl rfl rfl Tryd.underlying9 rfl) (by kernel_rfl) ?_
  refine RW.valE (v' := .int .i64 (((bsOf ls cur).length : Int) + 1)) (by kernel_rfl) (by kernel_rfl) rfl (congrArg (Value.int .i64) (wrap_in (by omega) (by omega))) (by kernel_rfl) ?_
  refine RW.v ?_
  obtain ⟨w1, w2, w3⟩ := whole (show 4 ≤ wd by omega) (show wd ≤ 1000 by omega) hla hlc hlen
  rw [← hq0, ← hLS] at w2 w3
  rw [← hq0] at w1
  refine RW.cl ?_
  refine ((Rows_fz (hU.le le0) h16 hp1 hl hsm H).mono ?_)
  clear H
  rw [w1]
  rintro _ _ ⟨F, u1, ds1, qs1, le, rfl, hv1, al1, H⟩
  replace le0 := fun b y h => le b y (le0 b y h)
  replace hvl := hvl.le le
  replace hp1 := hp1.le le
  obtain ⟨A1, hA1⟩ : ∃ A1, A1 = rowsA [q] 1 (((bsOf ls cur).length : Int) + 1) ((wd : Nat) : Int) 8 true 10000 := ⟨_, rfl⟩
  rw [← hA1] at hv1 al1 w2
  have hn1 : A1.length ≤ 10000 := hA1 ▸ rowsA_len
  iterate 5 refine RW.v ?_
  refine RW.nil ?_
  refine W.rg [(1, .int .i64 ((wd : Nat) : Int)), (5, .bool true), (6, .string ⟨(bsOf ls cur).toArray⟩), (7, vl), (8, (.slice (some ⟨b3, 0, none⟩) 1 1)), (9, u1), (10, .int .i64 0)] fun TA => ?_
  refine W.seq (W.region ?_)
  iterate 2 refine RW.v ?_
  refine RW.vop (v := .int .i64 ((bsOf ls cur).length : Int)) (by kernel_rfl) (by kernel_rfl) (vop_sLenL rfl rfl rfl rfl Tryd.underlying9 rfl) (by kernel_rfl) ?_
  refine RW.valE (v' := .int .i64 (((bsOf ls cur).length : Int) + 1)) (by kernel_rfl) (by kernel_rfl) rfl (congrArg (Value.int .i64) (wrap_in (by omega) (by omega))) (by kernel_rfl) ?_
  refine RW.v ?_
  refine RW.cl ?_
  refine ((Rows_fz (hU.le le0) h16 hp1 hl hsm H).mono ?_)
  clear H
  rw [w1]
  rintro _ _ ⟨F, u2, ds2, qs2, le, rfl, hv2, al2, H⟩
  replace le0 := fun b y h => le b y (le0 b y h)
  replace hvl := hvl.le le
  replace hp1 := hp1.le le
  replace hv1 := hv1.le le
  replace al1 := al1.le le
  obtain ⟨A2, hA2⟩ : ∃ A2, A2 = rowsA [q] 1 (((bsOf ls cur).length : Int) + 1) ((wd : Nat) : Int) 8 false 10000 := ⟨_, rfl⟩
  rw [← hA2] at hv2 al2 w3
  have hn2 : A2.length ≤ 10000 := hA2 ▸ rowsA_len
  have hn3 : A2.length = LS.length := by have h := congrArg List.length w3; unfold rc at h; rw [List.length_map, List.length_map] at h; exact h
  iterate 5 refine RW.v ?_
  refine RW.nil ?_
  refine W.rg [(1, .int .i64 ((wd : Nat) : Int)), (5, .bool true), (7, vl), (9, u1), (10, .int .i64 0), (11, u2), (12, .int .i64 0)] fun TA => ?_
  refine W.seq ?_
  refine W.seq (W.region ?_)
  iterate 3 refine RW.v ?_
  refine RW.val (by rfl) (by kernel_rfl) rfl (by kernel_rfl) ?_
  refine RW.val (by rfl) (by kernel_rfl) rfl (by kernel_rfl) ?_
  iterate 2 refine RW.v ?_
  refine RW.val (by rfl) (by kernel_rfl) rfl (by kernel_rfl) ?_
  refine RW.len (by rfl) (by kernel_rfl) rfl rfl rfl rfl (hv2.slf.len (e := 39) (by kernel_rfl)) (by kernel_rfl) ?_
  refine RW.val (by rfl) (by kernel_rfl) rfl (by kernel_rfl) ?_
  refine RW.len (by rfl) (by kernel_rfl) rfl rfl rfl rfl (hvl.len (e := 9) (by kernel_rfl)) (by kernel_rfl) ?_
  refine RW.valE (v' := .bool false) (by rfl) (by kernel_rfl) rfl (congrArg Value.bool (bne_eq_false_iff_eq.2 (by omega))) (by kernel_rfl) ?_
  refine RW.v ?_
  refine RW.nil ?_
  refine W.c0 ?_
  refine W.skip ?_
  refine W.seq (W.region ?_)
  refine RW.v ?_
  refine RW.nil ?_
  refine W.rg [(1, .int .i64 ((wd : Nat) : Int)), (5, .bool true), (7, vl), (9, u1), (11, u2), (13, .int .i64 0)] fun TA => ?_
  refine W.seq ?_
  refine W.seq (W.region ?_)
  refine RW.v ?_
  refine RW.nil ?_
  refine W.rg [(1, .int .i64 ((wd : Nat) : Int)), (5, .bool true), (7, vl), (9, u1), (11, u2), (13, .int .i64 0), (14, .int .i64 0)] fun TA => ?_
  refine W.block ?_
  refine W.loop (fun mm ta σ => ∃ (i : Nat) (r : Nat), (mm + i = LS.length) ∧ (r ≤ A1.length) ∧ (rc (A1.drop r) = (LS.drop i).flatMap (lineW wd)) ∧ Lies G Abs.no F σ (([])) ∧ ta 1 = .int .i64 ((wd : Nat) : Int) ∧ ta 5 = .bool true ∧ ta 7 = vl ∧ ta 9 = u1 ∧ ta 11 = u2 ∧ ta 13 = .int .i64 ((r : Nat) : Int) ∧ ta 14 = .int .i64 ((i : Nat) : Int)) LS.length ?_ ?_
  ·exact ⟨0, 0, (by omega), (Nat.zero_le _), w2, H, rfl, rfl, rfl, rfl, rfl, rfl, rfl⟩
  clear H
  rintro mm ta _ ⟨i, r, hm, hrr, hr, H, e1, e5, e7, e9, e11, e13, e14⟩
  refine W.rst [(1, .int .i64 ((wd : Nat) : Int)), (5, .bool true), (7, vl), (9, u1), (11, u2), (13, .int .i64 ((r : Nat) : Int)), (14, .int .i64 ((i : Nat) : Int))] ⟨e1, e5, e7, e9, e11, e13, e14, trivial⟩ fun TA => ?_
  clear e1 e5 e7 e9 e11 e13 e14
  refine W.seq ?_
  refine W.seq (W.region ?_)
  iterate 2 refine RW.v ?_
  refine RW.len (by kernel_rfl) (by kernel_rfl) rfl rfl rfl rfl (hvl.len (e := 9) (by kernel_rfl)) (by kernel_rfl) ?_
  refine RW.v ?_
  refine RW.nil ?_
  refine W.rg [(1, .int .i64 ((wd : Nat) : Int)), (5, .bool true), (7, vl), (9, u1), (11, u2), (13, .int .i64 ((r : Nat) : Int)), (14, .int .i64 ((i : Nat) : Int)), (69, .bool (decide (((i : Nat) : Int) < (LS.length : Int))))] fun TA => ?_
  refine W.cond rfl (fun hc4 => ?_) (fun hc4 => ?_)
  ·have hc4b := hc4
   have hc4 := of_decide_eq_true hc4
   have hil : i < LS.length := by omega
   refine W.skip ?_
   refine W.seq ?_
   refine W.block ?_
   refine W.seq (W.region ?_)
   iterate 2 refine RW.v ?_
   refine RW.idxF hvl (by kernel_rfl) (by kernel_rfl) rfl Tryd.underlying57 (by kernel_rfl) rfl rfl ⟨by omega, by omega⟩ (by kernel_rfl) ?_
   intro b5 q6 r7 hF8 hE9
   rw [strV_at (L := LS) (j := i) (by omega)] at hE9
   refine RW.loads 1 (by kernel_rfl) (by kernel_rfl) rfl rfl (H.old _ _ hF8) hE9 rfl (by kernel_rfl) ?_
   refine RW.v ?_
   refine RW.nil ?_
   refine W.rg [(1, .int .i64 ((wd : Nat) : Int)), (5, .bool true), (7, vl), (9, u1), (11, u2), (13, .int .i64 ((r : Nat) : Int)), (14, .int .i64 ((i : Nat) : Int)), (15, .string ⟨(LS.getD i []).toArray⟩)] fun TA => ?_
   refine W.seq ?_
   refine W.seq (W.region ?_)
   refine RW.v ?_
   refine RW.nil ?_
   refine W.rg [(1, .int .i64 ((wd : Nat) : Int)), (5, .bool true), (7, vl), (9, u1), (11, u2), (13, .int .i64 ((r : Nat) : Int)), (14, .int .i64 ((i : Nat) : Int)), (15, .string ⟨(LS.getD i []).toArray⟩), (16, .bool true)] fun TA => ?_
   refine W.block ?_
   rw [drop_getL (show i < LS.length by omega), List.flatMap_cons] at hr
   have hlb := hLb _ (get_memL (show i < LS.length by omega))
   refine W.loop (fun mm2 ta σ => ∃ (r : Nat) (lf : List UInt8) (mo : Bool), ((mo = true → lf.length + 2 ≤ mm2) ∧ 1 ≤ mm2) ∧ (r ≤ A1.length) ∧ (lf.length ≤ 200) ∧ (rc (A1.drop r) = (if mo = true then lineW wd lf else []) ++ (LS.drop (i + 1)).flatMap (lineW wd)) ∧ Lies G Abs.no F σ (([])) ∧ ta 1 = .int .i64 ((wd : Nat) : Int) ∧ ta 5 = .bool true ∧ ta 7 = vl ∧ ta 9 = u1 ∧ ta 11 = u2 ∧ ta 13 = .int .i64 ((r : Nat) : Int) ∧ ta 14 = .int .i64 ((i : Nat) : Int) ∧ ta 15 = .string ⟨lf.toArray⟩ ∧ ta 16 = .bool mo) ((LS.getD i []).length + 2) ?_ ?_
   ·exact ⟨r, (LS.getD i []), true, (⟨fun _ => Nat.le_refl _, by omega⟩), hrr, hlb, (by rw [if_pos rfl]; exact hr), H, rfl, rfl, rfl, rfl, rfl, rfl, rfl, rfl, rfl⟩
   clear H
   rintro mm2 ta _ ⟨r, lf, mo, hmm, hrr, hlf, hmo, H, e1, e5, e7, e9, e11, e13, e14, e15, e16⟩
   refine W.rst [(1, .int .i64 ((wd : Nat) : Int)), (5, .bool true), (7, vl), (9, u1), (11, u2), (13, .int .i64 ((r : Nat) : Int)), (14, .int .i64 ((i : Nat) : Int)), (15, .string ⟨lf.toArray⟩), (16, .bool mo)] ⟨e1, e5, e7, e9, e11, e13, e14, e15, e16, trivial⟩ fun TA => ?_
   clear e1 e5 e7 e9 e11 e13 e14 e15 e16
   refine W.seq ?_
   refine W.seq (W.region ?_)
   refine RW.v ?_
   refine RW.nil ?_
   refine W.rg [(1, .int .i64 ((wd : Nat) : Int)), (5, .bool true), (7, vl), (9, u1), (11, u2), (13, .int .i64 ((r : Nat) : Int)), (14, .int .i64 ((i : Nat) : Int)), (15, .string ⟨lf.toArray⟩), (76, .bool mo)] fun TA => ?_
   refine W.cond rfl (fun hc10 => ?_) (fun hc10 => ?_)
   ·have hc10b := hc10
    have hmt := hc10b
    refine W.skip ?_
    refine W.seq ?_
    refine W.block ?_
    refine W.seq (W.region ?_)
    refine RW.v ?_
    refine RW.vop (v := .int .i64 (lf.length : Int)) (by kernel_rfl) (by kernel_rfl) (vop_sLenL rfl rfl rfl rfl Tryd.underlying9 rfl) (by kernel_rfl) ?_
    refine RW.v ?_
    refine RW.valE (v' := .int .i64 (((wd : Nat) : Int) - 1)) (by kernel_rfl) (by kernel_rfl) rfl (congrArg (Value.int .i64) (wrap_in (by omega) (by omega))) (by kernel_rfl) ?_
    rcases Nat.lt_or_ge (wd - 1) lf.length with hcase | hcase
    ·have hmin : min (lf.length : Int) (((wd : Nat) : Int) - 1) = (((wd - 1) : Nat) : Int) := by omega
     refine RW.vop (v := .int .i64 (((wd - 1) : Nat) : Int)) (by kernel_rfl) (by kernel_rfl) (vop_minE hmin rfl rfl rfl rfl rfl) (by kernel_rfl) ?_
     have hmo2 := hmo
     rw [if_pos hmt, lineW_long (by omega) (by omega), List.cons_append] at hmo2
     obtain ⟨hrl, hrC, hco, hrest⟩ := rc_head hmo2
     refine RW.v ?_
     refine RW.nil ?_
     refine W.rg [(1, .int .i64 ((wd : Nat) : Int)), (5, .bool true), (7, vl), (9, u1), (11, u2), (13, .int .i64 ((r : Nat) : Int)), (14, .int .i64 ((i : Nat) : Int)), (15, .string ⟨lf.toArray⟩), (17, .int .i64 (((wd - 1) : Nat) : Int))] fun TA => ?_
     refine W.seq ?_
     refine W.seq ?_
     refine W.drawn (by kernel_rfl) (by kernel_rfl) H.gn ?_
     have H11 := H
     iterate 2 refine RW.v ?_
     refine RW.len (by kernel_rfl) (by kernel_rfl) rfl rfl rfl rfl (hv1.slf.len (e := 39) (by kernel_rfl)) (by kernel_rfl) ?_
     refine RW.valE (v' := .bool false) (by kernel_rfl) (by kernel_rfl) rfl (congrArg Value.bool (decide_eq_false (by omega))) (by kernel_rfl) ?_
     refine RW.v ?_
     refine RW.val (by rfl) (by kernel_rfl) rfl (by kernel_rfl) ?_
     refine RW.val (by rfl) (by kernel_rfl) rfl (by kernel_rfl) ?_
     refine RW.idxF hv1.slf (by rfl) (by kernel_rfl) rfl Tryd.underlying27 (by kernel_rfl) rfl rfl ⟨by omega, by omega⟩ (by kernel_rfl) ?_
     intro b12 q13 r14 hF15 hE16
     rw [rowsV_ati (l := A1) (j := r) al1.1 al1.2.1 (by omega), hco] at hE16
     refine RW.val (by rfl) (by kernel_rfl) rfl (by kernel_rfl) ?_
     refine RW.loads 1 (by rfl) (by kernel_rfl) rfl rfl (H11.old _ _ hF15) (sub_take hE16 4 1 (by decide)) rfl (by kernel_rfl) ?_
     refine RW.val (by rfl) (by kernel_rfl) rfl (by kernel_rfl) ?_
     refine RW.val (by rfl) (by kernel_rfl) rfl (by kernel_rfl) ?_
     refine RW.vop (v := .int .i64 (lf.length : Int)) (by rfl) (by kernel_rfl) (vop_sLenL rfl rfl rfl rfl Tryd.underlying9 rfl) (by kernel_rfl) ?_
     refine RW.valE (v' := .bool true) (by rfl) (by kernel_rfl) rfl (congrArg Value.bool (decide_eq_true (by omega))) (by kernel_rfl) ?_
     refine RW.val (by rfl) (by kernel_rfl) rfl (by kernel_rfl) ?_
     iterate 2 refine RW.v ?_
     refine RW.val (by rfl) (by kernel_rfl) rfl (by kernel_rfl) ?_
     refine RW.val (by rfl) (by kernel_rfl) rfl (by kernel_rfl) ?_
     refine RW.idxF hv1.slf (by rfl) (by kernel_rfl) rfl Tryd.underlying27 (by kernel_rfl) rfl rfl ⟨by omega, by omega⟩ (by kernel_rfl) ?_
     intro b17 q18 r19 hF20 hE21
     rw [rowsV_ati (l := A1) (j := r) al1.1 al1.2.1 (by omega), hco] at hE21
     refine RW.val (by rfl) (by kernel_rfl) rfl (by kernel_rfl) ?_
     refine RW.loads 1 (by rfl) (by kernel_rfl) rfl rfl (H11.old _ _ hF20) (sub_take hE21 0 1 (by decide)) rfl (by kernel_rfl) ?_
     refine RW.val (by rfl) (by kernel_rfl) rfl (by kernel_rfl) ?_
     refine RW.val (by rfl) (by kernel_rfl) rfl (by kernel_rfl) ?_
     refine RW.vop (v := .string ⟨(lf.take (wd - 1)).toArray⟩) (by rfl) (by kernel_rfl) (vop_sHeadL (a := lf) (j := (wd - 1)) rfl rfl rfl Tryd.underlying9 (by omega)) (by kernel_rfl) ?_
     refine RW.val (by rfl) (by kernel_rfl) rfl (by kernel_rfl) ?_
     refine RW.val (by rfl) (by kernel_rfl) rfl (by kernel_rfl) ?_
     refine RW.idxF hv1.slf (by rfl) (by kernel_rfl) rfl Tryd.underlying27 (by kernel_rfl) rfl rfl ⟨by omega, by omega⟩ (by kernel_rfl) ?_
     intro b22 q23 r24 hF25 hE26
     rw [rowsV_ati (l := A1) (j := r) al1.1 al1.2.1 (by omega), hco] at hE26
     refine RW.val (by rfl) (by kernel_rfl) rfl (by kernel_rfl) ?_
     refine RW.loads 1 (by rfl) (by kernel_rfl) rfl rfl (H11.old _ _ hF25) (sub_take hE26 4 1 (by decide)) rfl (by kernel_rfl) ?_
     refine RW.cl (hw := by rfl) ?_
     refine ((fills_wc (al1.2.2 r (by omega)).1 (want_wrapL (by omega) (by omega) (by omega) hrC).1 (want_wrapL (by omega) (by omega) (by omega) hrC).2.1 (want_wrapL (by omega) (by omega) (by omega) hrC).2.2 H11).mono ?_)
     rintro _ _ ⟨rfl, H27⟩
     refine RW.val (by rfl) (by kernel_rfl) rfl (by kernel_rfl) ?_
     refine RW.v ?_
     refine RW.nil ?_
     refine ⟨⟨by kernel_rfl, ⟨trivial, trivial, trivial, trivial, trivial, trivial, trivial, trivial, trivial, dyn_row (H11.old _ _ hF15) (H27.old _ _ hF15) ⟨fun h => Bool.noConfusion h, fun h => Bool.noConfusion h, fun h => Bool.noConfusion h, fun h => Bool.noConfusion h, fun h => Bool.noConfusion h, fun h => Bool.noConfusion h, fun h => Bool.noConfusion h, fun h => Bool.noConfusion h, fun h => Bool.noConfusion h, fun h => Bool.noConfusion h, fun h => Bool.noConfusion h, fun h => Bool.noConfusion h, fun h => Bool.noConfusion h, fun h => Bool.noConfusion h, fun h => Bool.noConfusion h, fun h => Bool.noConfusion h, fun h => Bool.noConfusion h, fun h => Bool.noConfusion h, fun h => Bool.noConfusion h, fun h => Bool.noConfusion h, fun h => Bool.noConfusion h, fun h => Bool.noConfusion h, fun h => Bool.noConfusion h, fun h => Bool.noConfusion h, fun h => Bool.noConfusion h, fun h => Bool.noConfusion h, fun h => Bool.noConfusion h, fun h => Bool.noConfusion h, fun h => Bool.noConfusion h, fun h => Bool.noConfusion h, fun _ => H11.old _ _ hF15, fun h => Bool.noConfusion h, fun h => Bool.noConfusion h, trivial⟩, trivial, trivial, trivial, trivial, trivial, trivial, trivial, trivial, trivial, trivial, trivial, dyn_row (H11.old _ _ hF20) (H27.old _ _ hF20) ⟨fun h => Bool.noConfusion h, fun h => Bool.noConfusion h, fun h => Bool.noConfusion h, fun h => Bool.noConfusion h, fun h => Bool.noConfusion h, fun h => Bool.noConfusion h, fun h => Bool.noConfusion h, fun h => Bool.noConfusion h, fun h => Bool.noConfusion h, fun h => Bool.noConfusion h, fun h => Bool.noConfusion h, fun h => Bool.noConfusion h, fun h => Bool.noConfusion h, fun h => Bool.noConfusion h, fun h => Bool.noConfusion h, fun h => Bool.noConfusion h, fun h => Bool.noConfusion h, fun h => Bool.noConfusion h, fun h => Bool.noConfusion h, fun h => Bool.noConfusion h, fun h => Bool.noConfusion h, fun h => Bool.noConfusion h, fun h => Bool.noConfusion h, fun h => Bool.noConfusion h, fun h => Bool.noConfusion h, fun h => Bool.noConfusion h, fun h => Bool.noConfusion h, fun h => Bool.noConfusion h, fun h => Bool.noConfusion h, fun h => Bool.noConfusion h, fun _ => H11.old _ _ hF20, fun h => Bool.noConfusion h, fun h => Bool.noConfusion h, trivial⟩, trivial, trivial, trivial, trivial, trivial, trivial, trivial, dyn_row (H11.old _ _ hF25) (H27.old _ _ hF25) ⟨fun h => Bool.noConfusion h, fun h => Bool.noConfusion h, fun h => Bool.noConfusion h, fun h => Bool.noConfusion h, fun h => Bool.noConfusion h, fun h => Bool.noConfusion h, fun h => Bool.noConfusion h, fun h => Bool.noConfusion h, fun h => Bool.noConfusion h, fun h => Bool.noConfusion h, fun h => Bool.noConfusion h, fun h => Bool.noConfusion h, fun h => Bool.noConfusion h, fun h => Bool.noConfusion h, fun h => Bool.noConfusion h, fun h => Bool.noConfusion h, fun h => Bool.noConfusion h, fun h => Bool.noConfusion h, fun h => Bool.noConfusion h, fun h => Bool.noConfusion h, fun h => Bool.noConfusion h, fun h => Bool.noConfusion h, fun h => Bool.noConfusion h, fun h => Bool.noConfusion h, fun h => Bool.noConfusion h, fun h => Bool.noConfusion h, fun h => Bool.noConfusion h, fun h => Bool.noConfusion h, fun h => Bool.noConfusion h, fun h => Bool.noConfusion h, fun _ => H11.old _ _ hF25, fun h => Bool.noConfusion h, fun h => Bool.noConfusion h, trivial⟩, trivial, trivial, trivial, trivial⟩⟩, ?_⟩
     replace H := H27
     clear H11 H27
     refine W.c0 ?_
     refine W.skip ?_
     refine W.seq (W.region ?_)
     iterate 2 refine RW.v ?_
     refine RW.vop (v := .string ⟨(lf.drop (wd - 1)).toArray⟩) (by kernel_rfl) (by kernel_rfl) (vop_sTailL (a := lf) (j := (wd - 1)) rfl rfl rfl Tryd.underlying9 (by omega)) (by kernel_rfl) ?_
     refine RW.v ?_
     refine RW.nil ?_
     refine W.rg [(1, .int .i64 ((wd : Nat) : Int)), (5, .bool true), (7, vl), (9, u1), (11, u2), (13, .int .i64 ((r : Nat) : Int)), (14, .int .i64 ((i : Nat) : Int)), (15, .string ⟨(lf.drop (wd - 1)).toArray⟩)] fun TA => ?_
     refine W.region ?_
     iterate 2 refine RW.v ?_
     refine RW.idxF hv1.slf (by kernel_rfl) (by kernel_rfl) rfl Tryd.underlying27 (by kernel_rfl) rfl rfl ⟨by omega, by omega⟩ (by kernel_rfl) ?_
     intro b28 q29 r30 hF31 hE32
     rw [rowsV_ati (l := A1) (j := r) al1.1 al1.2.1 (by omega), hco] at hE32
     refine RW.v ?_
     refine RW.loads 1 (by kernel_rfl) (by kernel_rfl) rfl rfl (H.old _ _ hF31) (sub_take hE32 4 1 (by decide)) rfl (by kernel_rfl) ?_
     refine RW.v ?_
     refine RW.nil ?_
     refine blkQ_normal ?_
     refine W.rg [(1, .int .i64 ((wd : Nat) : Int)), (5, .bool true), (7, vl), (9, u1), (11, u2), (13, .int .i64 ((r : Nat) : Int)), (14, .int .i64 ((i : Nat) : Int)), (15, .string ⟨(lf.drop (wd - 1)).toArray⟩), (16, .bool true)] fun TA => ?_
     refine W.region ?_
     refine RW.v ?_
     refine RW.valE (v' := .int .i64 (((r : Nat) : Int) + 1)) (by kernel_rfl) (by kernel_rfl) rfl (congrArg (Value.int .i64) (wrap_in (by omega) (by omega))) (by kernel_rfl) ?_
     refine RW.v ?_
     refine RW.nil ?_
     exact ⟨rfl, mm2 - 1, by omega, r + 1, (lf.drop (wd - 1)), true, (⟨fun _ => by rw [List.length_drop]; have := hmm.1 hmt; omega, by have := hmm.1 hmt; omega⟩), (by omega), (by rw [List.length_drop]; omega), (by rw [if_pos rfl]; exact hrest), H, rfl, rfl, rfl, rfl, rfl, rfl, rfl, rfl, rfl⟩
    ·have hmin : min (lf.length : Int) (((wd : Nat) : Int) - 1) = ((lf.length : Nat) : Int) := by omega
     refine RW.vop (v := .int .i64 ((lf.length : Nat) : Int)) (by kernel_rfl) (by kernel_rfl) (vop_minE hmin rfl rfl rfl rfl rfl) (by kernel_rfl) ?_
     have hmo2 := hmo
     rw [if_pos hmt, lineW_short (by omega), List.cons_append] at hmo2
     obtain ⟨hrl, hrC, hco, hrest⟩ := rc_head hmo2
     refine RW.v ?_
     refine RW.nil ?_
     refine W.rg [(1, .int .i64 ((wd : Nat) : Int)), (5, .bool true), (7, vl), (9, u1), (11, u2), (13, .int .i64 ((r : Nat) : Int)), (14, .int .i64 ((i : Nat) : Int)), (15, .string ⟨lf.toArray⟩), (17, .int .i64 ((lf.length : Nat) : Int))] fun TA => ?_
     refine W.seq ?_
     refine W.seq ?_
     refine W.drawn (by kernel_rfl) (by kernel_rfl) H.gn ?_
     have H33 := H
     iterate 2 refine RW.v ?_
     refine RW.len (by kernel_rfl) (by kernel_rfl) rfl rfl rfl rfl (hv1.slf.len (e := 39) (by kernel_rfl)) (by kernel_rfl) ?_
     refine RW.valE (v' := .bool false) (by kernel_rfl) (by kernel_rfl) rfl (congrArg Value.bool (decide_eq_false (by omega))) (by kernel_rfl) ?_
     refine RW.v ?_
     refine RW.val (by rfl) (by kernel_rfl) rfl (by kernel_rfl) ?_
     refine RW.val (by rfl) (by kernel_rfl) rfl (by kernel_rfl) ?_
     refine RW.idxF hv1.slf (by rfl) (by kernel_rfl) rfl Tryd.underlying27 (by kernel_rfl) rfl rfl ⟨by omega, by omega⟩ (by kernel_rfl) ?_
     intro b34 q35 r36 hF37 hE38
     rw [rowsV_ati (l := A1) (j := r) al1.1 al1.2.1 (by omega), hco] at hE38
     refine RW.val (by rfl) (by kernel_rfl) rfl (by kernel_rfl) ?_
     refine RW.loads 1 (by rfl) (by kernel_rfl) rfl rfl (H33.old _ _ hF37) (sub_take hE38 4 1 (by decide)) rfl (by kernel_rfl) ?_
     refine RW.val (by rfl) (by kernel_rfl) rfl (by kernel_rfl) ?_
     refine RW.val (by rfl) (by kernel_rfl) rfl (by kernel_rfl) ?_
     refine RW.vop (v := .int .i64 (lf.length : Int)) (by rfl) (by kernel_rfl) (vop_sLenL rfl rfl rfl rfl Tryd.underlying9 rfl) (by kernel_rfl) ?_
     refine RW.valE (v' := .bool false) (by rfl) (by kernel_rfl) rfl (congrArg Value.bool (decide_eq_false (by omega))) (by kernel_rfl) ?_
     refine RW.val (by rfl) (by kernel_rfl) rfl (by kernel_rfl) ?_
     iterate 2 refine RW.v ?_
     refine RW.val (by rfl) (by kernel_rfl) rfl (by kernel_rfl) ?_
     refine RW.val (by rfl) (by kernel_rfl) rfl (by kernel_rfl) ?_
     refine RW.idxF hv1.slf (by rfl) (by kernel_rfl) rfl Tryd.underlying27 (by kernel_rfl) rfl rfl ⟨by omega, by omega⟩ (by kernel_rfl) ?_
     intro b39 q40 r41 hF42 hE43
     rw [rowsV_ati (l := A1) (j := r) al1.1 al1.2.1 (by omega), hco] at hE43
     refine RW.val (by rfl) (by kernel_rfl) rfl (by kernel_rfl) ?_
     refine RW.loads 1 (by rfl) (by kernel_rfl) rfl rfl (H33.old _ _ hF42) (sub_take hE43 0 1 (by decide)) rfl (by kernel_rfl) ?_
     refine RW.val (by rfl) (by kernel_rfl) rfl (by kernel_rfl) ?_
     refine RW.val (by rfl) (by kernel_rfl) rfl (by kernel_rfl) ?_
     refine RW.vop (v := .string ⟨(lf.take lf.length).toArray⟩) (by rfl) (by kernel_rfl) (vop_sHeadL (a := lf) (j := lf.length) rfl rfl rfl Tryd.underlying9 (by omega)) (by kernel_rfl) ?_
     refine RW.val (by rfl) (by kernel_rfl) rfl (by kernel_rfl) ?_
     refine RW.val (by rfl) (by kernel_rfl) rfl (by kernel_rfl) ?_
     refine RW.idxF hv1.slf (by rfl) (by kernel_rfl) rfl Tryd.underlying27 (by kernel_rfl) rfl rfl ⟨by omega, by omega⟩ (by kernel_rfl) ?_
     intro b44 q45 r46 hF47 hE48
     rw [rowsV_ati (l := A1) (j := r) al1.1 al1.2.1 (by omega), hco] at hE48
     refine RW.val (by rfl) (by kernel_rfl) rfl (by kernel_rfl) ?_
     refine RW.loads 1 (by rfl) (by kernel_rfl) rfl rfl (H33.old _ _ hF47) (sub_take hE48 4 1 (by decide)) rfl (by kernel_rfl) ?_
     refine RW.cl (hw := by rfl) ?_
     refine ((fills_wc (al1.2.2 r (by omega)).1 (want_wrapS (by omega) (by omega) (by omega) hrC).1 (want_wrapS (by omega) (by omega) (by omega) hrC).2.1 (want_wrapS (by omega) (by omega) (by omega) hrC).2.2 H33).mono ?_)
     rintro _ _ ⟨rfl, H49⟩
     refine RW.val (by rfl) (by kernel_rfl) rfl (by kernel_rfl) ?_
     refine RW.v ?_
     refine RW.nil ?_
     refine ⟨⟨by kernel_rfl, ⟨trivial, trivial, trivial, trivial, trivial, trivial, trivial, trivial, trivial, dyn_row (H33.old _ _ hF37) (H49.old _ _ hF37) ⟨fun h => Bool.noConfusion h, fun h => Bool.noConfusion h, fun h => Bool.noConfusion h, fun h => Bool.noConfusion h, fun h => Bool.noConfusion h, fun h => Bool.noConfusion h, fun h => Bool.noConfusion h, fun h => Bool.noConfusion h, fun h => Bool.noConfusion h, fun h => Bool.noConfusion h, fun h => Bool.noConfusion h, fun h => Bool.noConfusion h, fun h => Bool.noConfusion h, fun h => Bool.noConfusion h, fun h => Bool.noConfusion h, fun h => Bool.noConfusion h, fun h => Bool.noConfusion h, fun h => Bool.noConfusion h, fun h => Bool.noConfusion h, fun h => Bool.noConfusion h, fun h => Bool.noConfusion h, fun h => Bool.noConfusion h, fun h => Bool.noConfusion h, fun h => Bool.noConfusion h, fun h => Bool.noConfusion h, fun h => Bool.noConfusion h, fun h => Bool.noConfusion h, fun h => Bool.noConfusion h, fun h => Bool.noConfusion h, fun h => Bool.noConfusion h, fun _ => H33.old _ _ hF37, fun h => Bool.noConfusion h, fun h => Bool.noConfusion h, trivial⟩, trivial, trivial, trivial, trivial, trivial, trivial, trivial, trivial, trivial, trivial, trivial, dyn_row (H33.old _ _ hF42) (H49.old _ _ hF42) ⟨fun h => Bool.noConfusion h, fun h => Bool.noConfusion h, fun h => Bool.noConfusion h, fun h => Bool.noConfusion h, fun h => Bool.noConfusion h, fun h => Bool.noConfusion h, fun h => Bool.noConfusion h, fun h => Bool.noConfusion h, fun h => Bool.noConfusion h, fun h => Bool.noConfusion h, fun h => Bool.noConfusion h, fun h => Bool.noConfusion h, fun h => Bool.noConfusion h, fun h => Bool.noConfusion h, fun h => Bool.noConfusion h, fun h => Bool.noConfusion h, fun h => Bool.noConfusion h, fun h => Bool.noConfusion h, fun h => Bool.noConfusion h, fun h => Bool.noConfusion h, fun h => Bool.noConfusion h, fun h => Bool.noConfusion h, fun h => Bool.noConfusion h, fun h => Bool.noConfusion h, fun h => Bool.noConfusion h, fun h => Bool.noConfusion h, fun h => Bool.noConfusion h, fun h => Bool.noConfusion h, fun h => Bool.noConfusion h, fun h => Bool.noConfusion h, fun _ => H33.old _ _ hF42, fun h => Bool.noConfusion h, fun h => Bool.noConfusion h, trivial⟩, trivial, trivial, trivial, trivial, trivial, trivial, trivial, dyn_row (H33.old _ _ hF47) (H49.old _ _ hF47) ⟨fun h => Bool.noConfusion h, fun h => Bool.noConfusion h, fun h => Bool.noConfusion h, fun h => Bool.noConfusion h, fun h => Bool.noConfusion h, fun h => Bool.noConfusion h, fun h => Bool.noConfusion h, fun h => Bool.noConfusion h, fun h => Bool.noConfusion h, fun h => Bool.noConfusion h, fun h => Bool.noConfusion h, fun h => Bool.noConfusion h, fun h => Bool.noConfusion h, fun h => Bool.noConfusion h, fun h => Bool.noConfusion h, fun h => Bool.noConfusion h, fun h => Bool.noConfusion h, fun h => Bool.noConfusion h, fun h => Bool.noConfusion h, fun h => Bool.noConfusion h, fun h => Bool.noConfusion h, fun h => Bool.noConfusion h, fun h => Bool.noConfusion h, fun h => Bool.noConfusion h, fun h => Bool.noConfusion h, fun h => Bool.noConfusion h, fun h => Bool.noConfusion h, fun h => Bool.noConfusion h, fun h => Bool.noConfusion h, fun h => Bool.noConfusion h, fun _ => H33.old _ _ hF47, fun h => Bool.noConfusion h, fun h => Bool.noConfusion h, trivial⟩, trivial, trivial, trivial, trivial⟩⟩, ?_⟩
     replace H := H49
     clear H33 H49
     refine W.c0 ?_
     refine W.skip ?_
     refine W.seq (W.region ?_)
     iterate 2 refine RW.v ?_
     refine RW.vop (v := .string ⟨(lf.drop lf.length).toArray⟩) (by kernel_rfl) (by kernel_rfl) (vop_sTailL (a := lf) (j := lf.length) rfl rfl rfl Tryd.underlying9 (by omega)) (by kernel_rfl) ?_
     refine RW.v ?_
     refine RW.nil ?_
     refine W.rg [(1, .int .i64 ((wd : Nat) : Int)), (5, .bool true), (7, vl), (9, u1), (11, u2), (13, .int .i64 ((r : Nat) : Int)), (14, .int .i64 ((i : Nat) : Int)), (15, .string ⟨(lf.drop lf.length).toArray⟩)] fun TA => ?_
     refine W.region ?_
     iterate 2 refine RW.v ?_
     refine RW.idxF hv1.slf (by kernel_rfl) (by kernel_rfl) rfl Tryd.underlying27 (by kernel_rfl) rfl rfl ⟨by omega, by omega⟩ (by kernel_rfl) ?_
     intro b50 q51 r52 hF53 hE54
     rw [rowsV_ati (l := A1) (j := r) al1.1 al1.2.1 (by omega), hco] at hE54
     refine RW.v ?_
     refine RW.loads 1 (by kernel_rfl) (by kernel_rfl) rfl rfl (H.old _ _ hF53) (sub_take hE54 4 1 (by decide)) rfl (by kernel_rfl) ?_
     refine RW.v ?_
     refine RW.nil ?_
     refine blkQ_normal ?_
     refine W.rg [(1, .int .i64 ((wd : Nat) : Int)), (5, .bool true), (7, vl), (9, u1), (11, u2), (13, .int .i64 ((r : Nat) : Int)), (14, .int .i64 ((i : Nat) : Int)), (15, .string ⟨(lf.drop lf.length).toArray⟩), (16, .bool false)] fun TA => ?_
     refine W.region ?_
     refine RW.v ?_
     refine RW.valE (v' := .int .i64 (((r : Nat) : Int) + 1)) (by kernel_rfl) (by kernel_rfl) rfl (congrArg (Value.int .i64) (wrap_in (by omega) (by omega))) (by kernel_rfl) ?_
     refine RW.v ?_
     refine RW.nil ?_
     exact ⟨rfl, mm2 - 1, by omega, r + 1, (lf.drop lf.length), false, (⟨fun h => Bool.noConfusion h, by have := hmm.1 hmt; omega⟩), (by omega), (by rw [List.length_drop]; omega), (by rw [if_neg Bool.false_ne_true]; exact hrest), H, rfl, rfl, rfl, rfl, rfl, rfl, rfl, rfl, rfl⟩
   ·have hc10b := hc10
    have hmf := hc10b
    refine W.exit _ ?_
    refine seqQ_exit ?_
    refine rndQ_exit ?_
    rw [hmf, if_neg Bool.false_ne_true, List.nil_append] at hmo
    refine blkQ_here ?_
    refine W.seq (W.region ?_)
    iterate 2 refine RW.v ?_
    refine RW.idxF hvl (by kernel_rfl) (by kernel_rfl) rfl Tryd.underlying57 (by kernel_rfl) rfl rfl ⟨by omega, by omega⟩ (by kernel_rfl) ?_
    intro b55 q56 r57 hF58 hE59
    rw [strV_at (L := LS) (j := i) (by omega)] at hE59
    refine RW.loads 1 (by kernel_rfl) (by kernel_rfl) rfl rfl (H.old _ _ hF58) hE59 rfl (by kernel_rfl) ?_
    refine RW.vop (v := .int .i64 ((LS.getD i []).length : Int)) (by kernel_rfl) (by kernel_rfl) (vop_sLenL rfl rfl rfl rfl Tryd.underlying9 rfl) (by kernel_rfl) ?_
    refine RW.v ?_
    refine RW.valE (v' := .int .i64 (((wd : Nat) : Int) - 1)) (by kernel_rfl) (by kernel_rfl) rfl (congrArg (Value.int .i64) (wrap_in (by omega) (by omega))) (by kernel_rfl) ?_
    rcases Nat.lt_or_ge (wd - 1) (LS.getD i []).length with hcase | hcase
    ·have hmin : min ((LS.getD i []).length : Int) (((wd : Nat) : Int) - 1) = (((wd - 1) : Nat) : Int) := by omega
     refine RW.vop (v := .int .i64 (((wd - 1) : Nat) : Int)) (by kernel_rfl) (by kernel_rfl) (vop_minE hmin rfl rfl rfl rfl rfl) (by kernel_rfl) ?_
     obtain ⟨hcC, hcc⟩ := rc_map w3 (show i < LS.length by omega) (by omega)
     refine RW.v ?_
     refine RW.nil ?_
     refine W.rg [(1, .int .i64 ((wd : Nat) : Int)), (5, .bool true), (7, vl), (9, u1), (11, u2), (13, .int .i64 ((r : Nat) : Int)), (14, .int .i64 ((i : Nat) : Int)), (18, .int .i64 (((wd - 1) : Nat) : Int))] fun TA => ?_
     refine W.seq ?_
     refine W.drawn (by kernel_rfl) (by kernel_rfl) H.gn ?_
     have H60 := H
     iterate 2 refine RW.v ?_
     refine RW.idxF hv2.slf (by kernel_rfl) (by kernel_rfl) rfl Tryd.underlying27 (by kernel_rfl) rfl rfl ⟨by omega, by omega⟩ (by kernel_rfl) ?_
     intro b61 q62 r63 hF64 hE65
     rw [rowsV_ati (l := A2) (j := i) al2.1 al2.2.1 (by omega), hcc] at hE65
     refine RW.v ?_
     refine RW.loads 1 (by kernel_rfl) (by kernel_rfl) rfl rfl (H60.old _ _ hF64) (sub_take hE65 0 1 (by decide)) rfl (by kernel_rfl) ?_
     iterate 2 refine RW.v ?_
     refine RW.idxF hvl (by kernel_rfl) (by kernel_rfl) rfl Tryd.underlying57 (by kernel_rfl) rfl rfl ⟨by omega, by omega⟩ (by kernel_rfl) ?_
     intro b66 q67 r68 hF69 hE70
     rw [strV_at (L := LS) (j := i) (by omega)] at hE70
     refine RW.loads 1 (by kernel_rfl) (by kernel_rfl) rfl rfl (H60.old _ _ hF69) hE70 rfl (by kernel_rfl) ?_
     refine RW.v ?_
     refine RW.vop (v := .string ⟨((LS.getD i []).take (wd - 1)).toArray⟩) (by kernel_rfl) (by kernel_rfl) (vop_sHeadL (a := (LS.getD i [])) (j := (wd - 1)) rfl rfl rfl Tryd.underlying9 (by omega)) (by kernel_rfl) ?_
     iterate 3 refine RW.v ?_
     refine RW.idxF hvl (by kernel_rfl) (by kernel_rfl) rfl Tryd.underlying57 (by kernel_rfl) rfl rfl ⟨by omega, by omega⟩ (by kernel_rfl) ?_
     intro b71 q72 r73 hF74 hE75
     rw [strV_at (L := LS) (j := i) (by omega)] at hE75
     refine RW.loads 1 (by kernel_rfl) (by kernel_rfl) rfl rfl (H60.old _ _ hF74) hE75 rfl (by kernel_rfl) ?_
     refine RW.vop (v := .int .i64 ((LS.getD i []).length : Int)) (by kernel_rfl) (by kernel_rfl) (vop_sLenL rfl rfl rfl rfl Tryd.underlying9 rfl) (by kernel_rfl) ?_
     refine RW.valE (v' := .bool true) (by kernel_rfl) (by kernel_rfl) rfl (congrArg Value.bool (decide_eq_true (by omega))) (by kernel_rfl) ?_
     refine RW.cl ?_
     refine ((fills_wc (al2.2.2 i (by omega)).1 (want_cutL (by omega) (by omega) (by omega) hcC).1 (want_cutL (by omega) (by omega) (by omega) hcC).2.1 (want_cutL (by omega) (by omega) (by omega) hcC).2.2 H60).mono ?_)
     rintro _ _ ⟨rfl, H76⟩
     iterate 2 refine RW.v ?_
     refine RW.val (by rfl) (by kernel_rfl) rfl (by kernel_rfl) ?_
     refine RW.val (by rfl) (by kernel_rfl) rfl (by kernel_rfl) ?_
     refine RW.idxF hv2.slf (by rfl) (by kernel_rfl) rfl Tryd.underlying27 (by kernel_rfl) rfl rfl ⟨by omega, by omega⟩ (by kernel_rfl) ?_
     intro b77 q78 r79 hF80 hE81
     rw [rowsV_ati (l := A2) (j := i) al2.1 al2.2.1 (by omega), hcc] at hE81
     refine RW.val (by rfl) (by kernel_rfl) rfl (by kernel_rfl) ?_
     refine RW.loads 1 (by rfl) (by kernel_rfl) rfl rfl (H76.old _ _ hF80) (sub_take hE81 4 1 (by decide)) rfl (by kernel_rfl) ?_
     refine RW.v ?_
     refine RW.nil ?_
     refine ⟨⟨by kernel_rfl, ⟨trivial, trivial, trivial, trivial, dyn_row (H60.old _ _ hF64) (H76.old _ _ hF64) ⟨fun h => Bool.noConfusion h, fun h => Bool.noConfusion h, fun h => Bool.noConfusion h, fun h => Bool.noConfusion h, fun h => Bool.noConfusion h, fun h => Bool.noConfusion h, fun h => Bool.noConfusion h, fun h => Bool.noConfusion h, fun h => Bool.noConfusion h, fun h => Bool.noConfusion h, fun h => Bool.noConfusion h, fun h => Bool.noConfusion h, fun h => Bool.noConfusion h, fun h => Bool.noConfusion h, fun h => Bool.noConfusion h, fun h => Bool.noConfusion h, fun h => Bool.noConfusion h, fun h => Bool.noConfusion h, fun _ => H60.old _ _ hF64, fun h => Bool.noConfusion h, fun h => Bool.noConfusion h, fun h => Bool.noConfusion h, fun h => Bool.noConfusion h, fun h => Bool.noConfusion h, fun h => Bool.noConfusion h, fun h => Bool.noConfusion h, fun h => Bool.noConfusion h, trivial⟩, trivial, trivial, trivial, dyn_row (H60.old _ _ hF69) (H76.old _ _ hF69) ⟨fun h => Bool.noConfusion h, fun h => Bool.noConfusion h, fun h => Bool.noConfusion h, fun h => Bool.noConfusion h, fun h => Bool.noConfusion h, fun h => Bool.noConfusion h, fun h => Bool.noConfusion h, fun h => Bool.noConfusion h, fun h => Bool.noConfusion h, fun h => Bool.noConfusion h, fun h => Bool.noConfusion h, fun h => Bool.noConfusion h, fun h => Bool.noConfusion h, fun h => Bool.noConfusion h, fun h => Bool.noConfusion h, fun h => Bool.noConfusion h, fun h => Bool.noConfusion h, fun h => Bool.noConfusion h, fun _ => H60.old _ _ hF69, fun h => Bool.noConfusion h, fun h => Bool.noConfusion h, fun h => Bool.noConfusion h, fun h => Bool.noConfusion h, fun h => Bool.noConfusion h, fun h => Bool.noConfusion h, fun h => Bool.noConfusion h, fun h => Bool.noConfusion h, trivial⟩, trivial, trivial, trivial, trivial, trivial, trivial, dyn_row (H60.old _ _ hF74) (H76.old _ _ hF74) ⟨fun h => Bool.noConfusion h, fun h => Bool.noConfusion h, fun h => Bool.noConfusion h, fun h => Bool.noConfusion h, fun h => Bool.noConfusion h, fun h => Bool.noConfusion h, fun h => Bool.noConfusion h, fun h => Bool.noConfusion h, fun h => Bool.noConfusion h, fun h => Bool.noConfusion h, fun h => Bool.noConfusion h, fun h => Bool.noConfusion h, fun h => Bool.noConfusion h, fun h => Bool.noConfusion h, fun h => Bool.noConfusion h, fun h => Bool.noConfusion h, fun h => Bool.noConfusion h, fun h => Bool.noConfusion h, fun _ => H60.old _ _ hF74, fun h => Bool.noConfusion h, fun h => Bool.noConfusion h, fun h => Bool.noConfusion h, fun h => Bool.noConfusion h, fun h => Bool.noConfusion h, fun h => Bool.noConfusion h, fun h => Bool.noConfusion h, fun h => Bool.noConfusion h, trivial⟩, trivial, trivial, trivial, trivial, trivial, trivial, trivial, trivial, trivial, dyn_row (H76.old _ _ hF80) (H76.old _ _ hF80) ⟨fun h => Bool.noConfusion h, fun h => Bool.noConfusion h, fun h => Bool.noConfusion h, fun h => Bool.noConfusion h, fun h => Bool.noConfusion h, fun h => Bool.noConfusion h, fun h => Bool.noConfusion h, fun h => Bool.noConfusion h, fun h => Bool.noConfusion h, fun h => Bool.noConfusion h, fun h => Bool.noConfusion h, fun h => Bool.noConfusion h, fun h => Bool.noConfusion h, fun h => Bool.noConfusion h, fun h => Bool.noConfusion h, fun h => Bool.noConfusion h, fun h => Bool.noConfusion h, fun h => Bool.noConfusion h, fun _ => H60.old _ _ hF80, fun h => Bool.noConfusion h, fun h => Bool.noConfusion h, fun h => Bool.noConfusion h, fun h => Bool.noConfusion h, fun h => Bool.noConfusion h, fun h => Bool.noConfusion h, fun h => Bool.noConfusion h, fun h => Bool.noConfusion h, trivial⟩, trivial, trivial⟩⟩, ?_⟩
     replace H := H76
     clear H60 H76
     refine W.c0 ?_
     refine W.skip ?_
     refine blkQ_normal ?_
     refine W.region ?_
     refine RW.v ?_
     refine RW.valE (v' := .int .i64 (((i : Nat) : Int) + 1)) (by kernel_rfl) (by kernel_rfl) rfl (congrArg (Value.int .i64) (wrap_in (by omega) (by omega))) (by kernel_rfl) ?_
     refine RW.v ?_
     refine RW.nil ?_
     exact ⟨rfl, mm - 1, by omega, i + 1, r, (by omega), hrr, hmo, H, rfl, rfl, rfl, rfl, rfl, rfl, rfl⟩
    ·have hmin : min ((LS.getD i []).length : Int) (((wd : Nat) : Int) - 1) = (((LS.getD i []).length : Nat) : Int) := by omega
     refine RW.vop (v := .int .i64 (((LS.getD i []).length : Nat) : Int)) (by kernel_rfl) (by kernel_rfl) (vop_minE hmin rfl rfl rfl rfl rfl) (by kernel_rfl) ?_
     obtain ⟨hcC, hcc⟩ := rc_map w3 (show i < LS.length by omega) (by omega)
     refine RW.v ?_
     refine RW.nil ?_
     refine W.rg [(1, .int .i64 ((wd : Nat) : Int)), (5, .bool true), (7, vl), (9, u1), (11, u2), (13, .int .i64 ((r : Nat) : Int)), (14, .int .i64 ((i : Nat) : Int)), (18, .int .i64 (((LS.getD i []).length : Nat) : Int))] fun TA => ?_
     refine W.seq ?_
     refine W.drawn (by kernel_rfl) (by kernel_rfl) H.gn ?_
     have H82 := H
     iterate 2 refine RW.v ?_
     refine RW.idxF hv2.slf (by kernel_rfl) (by kernel_rfl) rfl Tryd.underlying27 (by kernel_rfl) rfl rfl ⟨by omega, by omega⟩ (by kernel_rfl) ?_
     intro b83 q84 r85 hF86 hE87
     rw [rowsV_ati (l := A2) (j := i) al2.1 al2.2.1 (by omega), hcc] at hE87
     refine RW.v ?_
     refine RW.loads 1 (by kernel_rfl) (by kernel_rfl) rfl rfl (H82.old _ _ hF86) (sub_take hE87 0 1 (by decide)) rfl (by kernel_rfl) ?_
     iterate 2 refine RW.v ?_
     refine RW.idxF hvl (by kernel_rfl) (by kernel_rfl) rfl Tryd.underlying57 (by kernel_rfl) rfl rfl ⟨by omega, by omega⟩ (by kernel_rfl) ?_
     intro b88 q89 r90 hF91 hE92
     rw [strV_at (L := LS) (j := i) (by omega)] at hE92
     refine RW.loads 1 (by kernel_rfl) (by kernel_rfl) rfl rfl (H82.old _ _ hF91) hE92 rfl (by kernel_rfl) ?_
     refine RW.v ?_
     refine RW.vop (v := .string ⟨((LS.getD i []).take ((LS.getD i []).length)).toArray⟩) (by kernel_rfl) (by kernel_rfl) (vop_sHeadL (a := (LS.getD i [])) (j := (LS.getD i []).length) rfl rfl rfl Tryd.underlying9 (by omega)) (by kernel_rfl) ?_
     iterate 3 refine RW.v ?_
     refine RW.idxF hvl (by kernel_rfl) (by kernel_rfl) rfl Tryd.underlying57 (by kernel_rfl) rfl rfl ⟨by omega, by omega⟩ (by kernel_rfl) ?_
     intro b93 q94 r95 hF96 hE97
     rw [strV_at (L := LS) (j := i) (by omega)] at hE97
     refine RW.loads 1 (by kernel_rfl) (by kernel_rfl) rfl rfl (H82.old _ _ hF96) hE97 rfl (by kernel_rfl) ?_
     refine RW.vop (v := .int .i64 ((LS.getD i []).length : Int)) (by kernel_rfl) (by kernel_rfl) (vop_sLenL rfl rfl rfl rfl Tryd.underlying9 rfl) (by kernel_rfl) ?_
     refine RW.valE (v' := .bool false) (by kernel_rfl) (by kernel_rfl) rfl (congrArg Value.bool (decide_eq_false (by omega))) (by kernel_rfl) ?_
     refine RW.cl ?_
     refine ((fills_wc (al2.2.2 i (by omega)).1 (want_cutS (by omega) (by omega) (by omega) hcC).1 (want_cutS (by omega) (by omega) (by omega) hcC).2.1 (want_cutS (by omega) (by omega) (by omega) hcC).2.2 H82).mono ?_)
     rintro _ _ ⟨rfl, H98⟩
     iterate 2 refine RW.v ?_
     refine RW.val (by rfl) (by kernel_rfl) rfl (by kernel_rfl) ?_
     refine RW.val (by rfl) (by kernel_rfl) rfl (by kernel_rfl) ?_
     refine RW.idxF hv2.slf (by rfl) (by kernel_rfl) rfl Tryd.underlying27 (by kernel_rfl) rfl rfl ⟨by omega, by omega⟩ (by kernel_rfl) ?_
     intro b99 q100 r101 hF102 hE103
     rw [rowsV_ati (l := A2) (j := i) al2.1 al2.2.1 (by omega), hcc] at hE103
     refine RW.val (by rfl) (by kernel_rfl) rfl (by kernel_rfl) ?_
     refine RW.loads 1 (by rfl) (by kernel_rfl) rfl rfl (H98.old _ _ hF102) (sub_take hE103 4 1 (by decide)) rfl (by kernel_rfl) ?_
     refine RW.v ?_
     refine RW.nil ?_
     refine ⟨⟨by kernel_rfl, ⟨trivial, trivial, trivial, trivial, dyn_row (H82.old _ _ hF86) (H98.old _ _ hF86) ⟨fun h => Bool.noConfusion h, fun h => Bool.noConfusion h, fun h => Bool.noConfusion h, fun h => Bool.noConfusion h, fun h => Bool.noConfusion h, fun h => Bool.noConfusion h, fun h => Bool.noConfusion h, fun h => Bool.noConfusion h, fun h => Bool.noConfusion h, fun h => Bool.noConfusion h, fun h => Bool.noConfusion h, fun h => Bool.noConfusion h, fun h => Bool.noConfusion h, fun h => Bool.noConfusion h, fun h => Bool.noConfusion h, fun h => Bool.noConfusion h, fun h => Bool.noConfusion h, fun h => Bool.noConfusion h, fun _ => H82.old _ _ hF86, fun h => Bool.noConfusion h, fun h => Bool.noConfusion h, fun h => Bool.noConfusion h, fun h => Bool.noConfusion h, fun h => Bool.noConfusion h, fun h => Bool.noConfusion h, fun h => Bool.noConfusion h, fun h => Bool.noConfusion h, trivial⟩, trivial, trivial, trivial, dyn_row (H82.old _ _ hF91) (H98.old _ _ hF91) ⟨fun h => Bool.noConfusion h, fun h => Bool.noConfusion h, fun h => Bool.noConfusion h, fun h => Bool.noConfusion h, fun h => Bool.noConfusion h, fun h => Bool.noConfusion h, fun h => Bool.noConfusion h, fun h => Bool.noConfusion h, fun h => Bool.noConfusion h, fun h => Bool.noConfusion h, fun h => Bool.noConfusion h, fun h => Bool.noConfusion h, fun h => Bool.noConfusion h, fun h => Bool.noConfusion h, fun h => Bool.noConfusion h, fun h => Bool.noConfusion h, fun h => Bool.noConfusion h, fun h => Bool.noConfusion h, fun _ => H82.old _ _ hF91, fun h => Bool.noConfusion h, fun h => Bool.noConfusion h, fun h => Bool.noConfusion h, fun h => Bool.noConfusion h, fun h => Bool.noConfusion h, fun h => Bool.noConfusion h, fun h => Bool.noConfusion h, fun h => Bool.noConfusion h, trivial⟩, trivial, trivial, trivial, trivial, trivial, trivial, dyn_row (H82.old _ _ hF96) (H98.old _ _ hF96) ⟨fun h => Bool.noConfusion h, fun h => Bool.noConfusion h, fun h => Bool.noConfusion h, fun h => Bool.noConfusion h, fun h => Bool.noConfusion h, fun h => Bool.noConfusion h, fun h => Bool.noConfusion h, fun h => Bool.noConfusion h, fun h => Bool.noConfusion h, fun h => Bool.noConfusion h, fun h => Bool.noConfusion h, fun h => Bool.noConfusion h, fun h => Bool.noConfusion h, fun h => Bool.noConfusion h, fun h => Bool.noConfusion h, fun h => Bool.noConfusion h, fun h => Bool.noConfusion h, fun h => Bool.noConfusion h, fun _ => H82.old _ _ hF96, fun h => Bool.noConfusion h, fun h => Bool.noConfusion h, fun h => Bool.noConfusion h, fun h => Bool.noConfusion h, fun h => Bool.noConfusion h, fun h => Bool.noConfusion h, fun h => Bool.noConfusion h, fun h => Bool.noConfusion h, trivial⟩, trivial, trivial, trivial, trivial, trivial, trivial, trivial, trivial, trivial, dyn_row (H98.old _ _ hF102) (H98.old _ _ hF102) ⟨fun h => Bool.noConfusion h, fun h => Bool.noConfusion h, fun h => Bool.noConfusion h, fun h => Bool.noConfusion h, fun h => Bool.noConfusion h, fun h => Bool.noConfusion h, fun h => Bool.noConfusion h, fun h => Bool.noConfusion h, fun h => Bool.noConfusion h, fun h => Bool.noConfusion h, fun h => Bool.noConfusion h, fun h => Bool.noConfusion h, fun h => Bool.noConfusion h, fun h => Bool.noConfusion h, fun h => Bool.noConfusion h, fun h => Bool.noConfusion h, fun h => Bool.noConfusion h, fun h => Bool.noConfusion h, fun _ => H82.old _ _ hF102, fun h => Bool.noConfusion h, fun h => Bool.noConfusion h, fun h => Bool.noConfusion h, fun h => Bool.noConfusion h, fun h => Bool.noConfusion h, fun h => Bool.noConfusion h, fun h => Bool.noConfusion h, fun h => Bool.noConfusion h, trivial⟩, trivial, trivial⟩⟩, ?_⟩
     replace H := H98
     clear H82 H98
     refine W.c0 ?_
     refine W.skip ?_
     refine blkQ_normal ?_
     refine W.region ?_
     refine RW.v ?_
     refine RW.valE (v' := .int .i64 (((i : Nat) : Int) + 1)) (by kernel_rfl) (by kernel_rfl) rfl (congrArg (Value.int .i64) (wrap_in (by omega) (by omega))) (by kernel_rfl) ?_
     refine RW.v ?_
     refine RW.nil ?_
     exact ⟨rfl, mm - 1, by omega, i + 1, r, (by omega), hrr, hmo, H, rfl, rfl, rfl, rfl, rfl, rfl, rfl⟩
  ·have hc4b := hc4
   have hc4 := of_decide_eq_false hc4
   refine W.exit _ ?_
   refine seqQ_exit ?_
   refine rndQ_exit ?_
   have hrz : r = A1.length := by rw [List.drop_eq_nil_of_le (show LS.length ≤ i by omega)] at hr; have h := congrArg List.length hr; unfold rc at h; rw [List.length_map, List.length_drop] at h; simp at h; omega
   refine blkQ_here ?_
   refine W.seq (W.region ?_)
   iterate 2 refine RW.v ?_
   refine RW.val (by rfl) (by kernel_rfl) rfl (by kernel_rfl) ?_
   refine RW.val (by rfl) (by kernel_rfl) rfl (by kernel_rfl) ?_
   refine RW.len (by rfl) (by kernel_rfl) rfl rfl rfl rfl (hv1.slf.len (e := 39) (by kernel_rfl)) (by kernel_rfl) ?_
   refine RW.valE (v' := .bool true) (by rfl) (by kernel_rfl) rfl (congrArg Value.bool (beq_iff_eq.2 (by omega))) (by kernel_rfl) ?_
   iterate 2 refine RW.v ?_
   refine RW.nil ?_
   refine W.ret ?_
   refine endG (by rfl) (by exact resL_tmp rfl) ?_
   exact rfl
end Go.Proofs.YtmmapljeeccdnaaDoor
