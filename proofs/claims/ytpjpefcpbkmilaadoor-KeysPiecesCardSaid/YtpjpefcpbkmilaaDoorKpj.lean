/-
 KeysPieces in the second memory. Conditions: none.
-/
import Derived.Test.YtpjpefcpbkmilaaDoorK5
import Derived.Test.YtpjpefcpbkmilaaDoorKmLives
namespace Go.Proofs.YtpjpefcpbkmilaaDoor
open Go.Lib
set_option maxRecDepth 100000
theorem getI_mem {l : List Int} {i : Nat} (h : i < l.length) : l.getD i 0 ∈ l := by
 rw [List.getD_eq_getElem?_getD, List.getElem?_eq_getElem h]
 exact List.getElem_mem h
theorem rem_fastN {a b : Int} (h : b ≠ 0) : fastBin .rem .i64 a b = some (.int .i64 (Int.tmod a b)) := if_neg h
theorem ints_ones (l : List Int) : (l.map (Value.int .i64)).all (·.oneCell') = true := by
 rw [List.all_map, List.all_eq_true]
 intro x _
 rfl
theorem valid_good {G : Nat} {e : Int} (h : GoodE e) (σ : Mem) : WC G Tryd.prog 13 #[.int .i64 e] σ fun v σ' => v = .bool true ∧ σ' = σ := by
 obtain ⟨c, j, hc, j0, j8, rfl, hm⟩ := h
 exact kvalid_yes c j hc j0 j8 hm σ
open Go.RowKit in
theorem s_pickK {G : Nat} {σ : Mem} (x n : Int) (h1 : -9223372036854775808 ≤ x) (h2 : x ≤ 9223372036854775807) (h3 : 0 < n) (h4 : n ≤ 9223372036854775807) : SCall G Tryd.prog 20 #[.int .i64 x, .int .i64 n] σ (.int .i64 (pickOf x n)) σ :=
 below_call rfl rfl fun w => (pick_any x n w h1 h2 (by omega) h4).mono fun e w' ⟨k1, k2⟩ => ⟨k1, k2 ▸ Below.refl _ _⟩
set_option maxHeartbeats 16000000 in
theorem pieces_law {G : Nat} {σ0 : Mem} {v2 : Value} {xs : List UInt8} {l : List Int} (hG : G ≤ σ0.next) (h16 : 16 ≤ G) (hno : σ0.abs = Abs.no) (hU : U8F σ0.get) (hR : ∀ g cs, (g, cs) ∈ rowsU → ∃ t b, σ0.get g = some (.row ⟨cs, t, b⟩)) (hl : SlF σ0.get 1 v2 l.length (l.map (Value.int .i64))) (hlm : l.length ≤ 9223372036854775807) (hb : ∀ x ∈ l, -9223372036854775808 ≤ x ∧ x ≤ 9223372036854775807) :
  WC G Tryd.prog 6 #[.string ⟨xs.toArray⟩, v2] σ0 fun v _ => v = .bool true := by
 have H := Lies.start hG hno
 generalize σ0.get = F0 at H hl hU hR
 obtain ⟨F, hF⟩ : ∃ F, F = F0 := ⟨_, rfl⟩
 have le0 : Le F0 F := fun b y h => hF ▸ h
 rw [← hF] at H
 clear hF
 refine WC.enter (fn := Tryd.f6) Tryd.func6 rfl ?_
 refine W.rg [(0, .string ⟨xs.toArray⟩), (1, v2)] fun TA => ?_
 refine W.seq (W.region ?_)
 refine RW.v ?_
 refine RW.nil ?_
 refine W.rg [(0, .string ⟨xs.toArray⟩), (1, v2)] fun TA => ?_
 refine W.seq ?_
 refine W.seq (W.region ?_)
 refine RW.cl ?_
 refine ((lives_wc h16 _ (fun g cs hm => by obtain ⟨t, b, hr⟩ := hR g cs hm; exact ⟨t, b, H.old _ _ (le0 _ _ hr)⟩)).mono ?_)
 rintro _ _ ⟨rfl, rfl⟩
 refine RW.v ?_
 refine RW.nil ?_
 refine W.c0 ?_
 refine W.skip ?_
 refine W.seq ?_
 refine W.seq (W.region ?_)
 refine RW.v ?_
 refine RW.vop (v := .int .i64 (xs.length : Int)) (by kernel_rfl) (by kernel_rfl) (vop_sLenL rfl rfl rfl rfl Tryd.underlying9 rfl) (by kernel_rfl) ?_
 refine RW.v ?_
 refine RW.nil ?_
 refine W.rg [(0, .string ⟨xs.toArray⟩), (1, v2), (21, .bool (decide ((xs.length : Int) > 1000)))] fun TA => ?_
 refine W.cond rfl (fun hc1 => ?_) (fun hc1 => ?_)
 ·have hc1b := hc1
  have hc1 := of_decide_eq_true hc1
  refine W.seq (W.region ?_)
  refine RW.v ?_
  refine RW.nil ?_
  refine W.ret ?_
  refine seqQ_ret ?_
  refine endG (by rfl) (by exact resL_tmp rfl) ?_
  exact rfl
 ·have hc1b := hc1
  have hc1 := of_decide_eq_false hc1
  refine W.skip ?_
  refine W.seq (W.region ?_)
  refine RW.v ?_
  refine RW.conv H (e := 5) (cs := xs.map byteV) (by kernel_rfl) (by kernel_rfl) rfl rfl (by kernel_rfl) (by kernel_rfl) ?_
  clear H; intro _ w1 H
  obtain ⟨F, le, hw1, H⟩ := H.freezeK 0 rfl
  dsimp only [setL, delL] at H
  replace le0 := fun b y h => le b y (le0 b y h)
  rw [List.length_map] at hw1
  refine RW.cl ?_
  refine ((decg_wc (hU.le le0) h16 hw1 (by omega) H).mono ?_)
  clear H
  rintro _ _ ⟨all, rest, rfl, hnrest, H⟩
  obtain ⟨F, lea, hall, H⟩ := H.freezeK 0 rfl
  dsimp only [setL, delL] at H
  obtain ⟨F, leb, hrest, H⟩ := H.freezeK 0 rfl
  dsimp only [setL, delL] at H
  replace hall := hall.le leb
  replace le0 := fun b y h => leb b y (lea b y (le0 b y h))
  obtain ⟨F1, hF1⟩ : ∃ F1, F1 = F := ⟨_, rfl⟩
  have le1 : Le F1 F := fun b y h => hF1 ▸ h
  rw [← hF1] at hall hrest
  clear hF1
  have hdf := decD_few _ xs (Nat.le_refl _)
  obtain ⟨m, hm1, hm2⟩ := decD_rest _ xs (Nat.le_refl _)
  have hrl : (decD xs).2.length = xs.length - m := by rw [hm2, List.length_drop]
  have hsuf : ∀ j : Nat, j = xs.length - (decD xs).2.length → xs.drop j = (decD xs).2 := fun j hj => by rw [hm2, show j = m by omega]
  iterate 5 refine RW.v ?_
  refine RW.nil ?_
  refine W.rg [(0, .string ⟨xs.toArray⟩), (1, v2), (5, all), (6, rest)] fun TA => ?_
  refine W.seq (W.region ?_)
  refine RW.v ?_
  refine RW.nil ?_
  refine W.rg [(0, .string ⟨xs.toArray⟩), (1, v2), (5, all), (6, rest), (7, .slice none 0 0)] fun TA => ?_
  refine W.seq (W.region ?_)
  refine RW.v ?_
  refine RW.nil ?_
  refine W.rg [(0, .string ⟨xs.toArray⟩), (1, v2), (5, all), (6, rest), (7, .slice none 0 0), (8, .string ByteArray.empty)] fun TA => ?_
  refine W.seq ?_
  refine W.seq (W.region ?_)
  iterate 3 refine RW.v ?_
  refine RW.nil ?_
  refine W.rg [(0, .string ⟨xs.toArray⟩), (1, v2), (5, all), (6, rest), (7, .slice none 0 0), (8, .string ByteArray.empty), (9, .int .i64 0), (10, .string ⟨xs.toArray⟩)] fun TA => ?_
  refine W.block ?_
  replace H := H.nilSl 3 1
  refine W.loop (fun mm ta σ => ∃ (k : Nat) (i : Nat) (F : Nat → Option Blk2) (u : Value), (mm + k = xs.length) ∧ (k ≤ xs.length) ∧ (i ≤ k) ∧ (Le F0 F) ∧ (Le F1 F) ∧ Lies G Abs.no F σ (.sl 3 1 u ((decD (xs.take k)).1.length) ((decD (xs.take k)).1.map (Value.int .i64)) :: ([])) ∧ ta 0 = .string ⟨xs.toArray⟩ ∧ ta 1 = v2 ∧ ta 5 = all ∧ ta 6 = rest ∧ ta 7 = u ∧ ta 8 = .string ⟨((decD (xs.take k)).2).toArray⟩ ∧ ta 9 = .int .i64 ((i : Nat) : Int) ∧ ta 10 = .string ⟨(xs.drop k).toArray⟩) xs.length ?_ ?_
  ·exact ⟨0, 0, F, .slice none 0 0, (by omega), (Nat.zero_le _), (Nat.le_refl _), le0, le1, H, rfl, rfl, rfl, rfl, rfl, rfl, rfl, rfl⟩
  clear H
  rintro mm ta _ ⟨k, i, F, u, hm, hkl, hik, le0, le1, H, e0, e1, e5, e6, e7, e8, e9, e10⟩
  refine W.rst [(0, .string ⟨xs.toArray⟩), (1, v2), (5, all), (6, rest), (7, u), (8, .string ⟨((decD (xs.take k)).2).toArray⟩), (9, .int .i64 ((i : Nat) : Int)), (10, .string ⟨(xs.drop k).toArray⟩)] ⟨e0, e1, e5, e6, e7, e8, e9, e10, trivial⟩ fun TA => ?_
  clear e0 e1 e5 e6 e7 e8 e9 e10
  have hdl : (xs.drop k).length = xs.length - k := List.length_drop ..
  have htl : (xs.take k).length = k := by rw [List.length_take]; omega
  have hkf := decD_few _ (xs.take k) (Nat.le_refl _)
  obtain ⟨mk, hmk1, hmk2⟩ := decD_rest _ (xs.take k) (Nat.le_refl _)
  have hkr : (decD (xs.take k)).2.length = k - mk := by rw [hmk2, List.length_drop, htl]
  refine W.seq ?_
  refine W.seq (W.region ?_)
  refine RW.v ?_
  refine RW.vop (v := .int .i64 ((xs.drop k).length : Int)) (by kernel_rfl) (by kernel_rfl) (vop_sLenL rfl rfl rfl rfl Tryd.underlying9 rfl) (by kernel_rfl) ?_
  refine RW.v ?_
  refine RW.nil ?_
  refine W.rg [(0, .string ⟨xs.toArray⟩), (1, v2), (5, all), (6, rest), (7, u), (8, .string ⟨((decD (xs.take k)).2).toArray⟩), (9, .int .i64 ((i : Nat) : Int)), (10, .string ⟨(xs.drop k).toArray⟩), (31, .bool (decide (((xs.drop k).length : Int) > 0)))] fun TA => ?_
  refine W.cond rfl (fun hc2 => ?_) (fun hc2 => ?_)
  ·have hc2b := hc2
   have hc2 := of_decide_eq_true hc2
   refine W.skip ?_
   refine W.seq ?_
   refine W.block ?_
   refine W.seq (W.region ?_)
   refine RW.v ?_
   refine RW.vop (v := .int .i64 ((xs.drop k).length : Int)) (by kernel_rfl) (by kernel_rfl) (vop_sLenL rfl rfl rfl rfl Tryd.underlying9 rfl) (by kernel_rfl) ?_
   refine RW.v ?_
   refine RW.nil ?_
   refine W.rg [(0, .string ⟨xs.toArray⟩), (1, v2), (5, all), (6, rest), (7, u), (8, .string ⟨((decD (xs.take k)).2).toArray⟩), (9, .int .i64 ((i : Nat) : Int)), (10, .string ⟨(xs.drop k).toArray⟩), (11, .int .i64 ((xs.drop k).length : Int))] fun TA => ?_
   refine W.seq ?_
   refine W.seq (W.region ?_)
   refine RW.v ?_
   refine RW.len (by kernel_rfl) (by kernel_rfl) rfl rfl rfl rfl ((hl.le le0).len (e := 3) (by kernel_rfl)) (by kernel_rfl) ?_
   refine RW.v ?_
   refine RW.nil ?_
   refine W.rg [(0, .string ⟨xs.toArray⟩), (1, v2), (5, all), (6, rest), (7, u), (8, .string ⟨((decD (xs.take k)).2).toArray⟩), (9, .int .i64 ((i : Nat) : Int)), (10, .string ⟨(xs.drop k).toArray⟩), (11, .int .i64 ((xs.drop k).length : Int)), (38, .bool (decide ((l.length : Int) > 0)))] fun TA => ?_
   refine W.cond rfl (fun hc3 => ?_) (fun hc3 => ?_)
   ·have hc3b := hc3
    have hc3 := of_decide_eq_true hc3
    refine W.region ?_
    iterate 3 refine RW.v ?_
    refine RW.len (by kernel_rfl) (by kernel_rfl) rfl rfl rfl rfl ((hl.le le0).len (e := 3) (by kernel_rfl)) (by kernel_rfl) ?_
    have hl0 : 0 < l.length := by omega
    have em : Int.tmod ((i : Nat) : Int) (l.length : Int) = ((i % l.length : Nat) : Int) := by rw [Int.tmod_eq_emod_of_nonneg (by omega)]; exact (Int.natCast_emod i l.length).symm
    have hkm : i % l.length < l.length := Nat.mod_lt _ hl0
    refine RW.vop (v := .int .i64 ((i % l.length : Nat) : Int)) (by kernel_rfl) (by kernel_rfl) (vop_fastBin rfl rfl rfl ((rem_fastN (by omega)).trans (congrArg (fun z => some (Value.int .i64 z)) em))) (by kernel_rfl) ?_
    refine RW.idxF (hl.le le0) (by kernel_rfl) (by kernel_rfl) rfl Tryd.underlying31 (by kernel_rfl) rfl rfl ⟨by omega, by omega⟩ (by kernel_rfl) ?_
    intro b4 q5 r6 hF7 hE8
    rw [ints_at (l := l) (j := i % l.length) (by omega)] at hE8
    refine RW.loads 1 (by kernel_rfl) (by kernel_rfl) rfl rfl (H.old _ _ hF7) hE8 rfl (by kernel_rfl) ?_
    refine RW.v ?_
    have hxb := hb _ (getI_mem (l := l) hkm)
    have hpr := pick_range (l.getD (i % l.length) 0) ((xs.drop k).length : Int) (by omega)
    refine RW.cl ?_
    refine ⟨_, _, (s_pickK (l.getD (i % l.length) 0) ((xs.drop k).length : Int) hxb.1 hxb.2 (by omega) (by omega)), ?_⟩
    refine RW.valE (v' := .int .i64 (1 + (pickOf (l.getD (i % l.length) 0) ((xs.drop k).length : Int)))) (by kernel_rfl) (by kernel_rfl) rfl (congrArg (Value.int .i64) (wrap_in (by omega) (by omega))) (by kernel_rfl) ?_
    refine RW.v ?_
    refine RW.nil ?_
    refine W.rg [(0, .string ⟨xs.toArray⟩), (1, v2), (5, all), (6, rest), (7, u), (8, .string ⟨((decD (xs.take k)).2).toArray⟩), (9, .int .i64 ((i : Nat) : Int)), (10, .string ⟨(xs.drop k).toArray⟩), (11, .int .i64 (1 + (pickOf (l.getD (i % l.length) 0) ((xs.drop k).length : Int))))] fun TA => ?_
    refine W.seq (W.region ?_)
    iterate 3 refine RW.v ?_
    obtain ⟨q, hq⟩ : ∃ q : Nat, ((q : Nat) : Int) = 1 + (pickOf (l.getD (i % l.length) 0) ((xs.drop k).length : Int)) := ⟨(1 + (pickOf (l.getD (i % l.length) 0) ((xs.drop k).length : Int))).toNat, by omega⟩
    have hq1 : 1 ≤ q := by omega
    have hq2 : q ≤ xs.length - k := by omega
    have hpl : ((xs.drop k).take q).length = q := by rw [List.length_take]; omega
    refine RW.vop (v := .string ⟨((xs.drop k).take q).toArray⟩) (by kernel_rfl) (by kernel_rfl) (vop_sHeadL (a := (xs.drop k)) (j := q) rfl rfl (congrArg (Value.int .i64) hq.symm) Tryd.underlying9 (by omega)) (by kernel_rfl) ?_
    refine RW.vop (v := .string ⟨((decD (xs.take k)).2 ++ ((xs.drop k).take q)).toArray⟩) (by kernel_rfl) (by kernel_rfl) (vop_sAddL (a := (decD (xs.take k)).2) (b := ((xs.drop k).take q)) rfl rfl rfl (by omega)) (by kernel_rfl) ?_
    refine RW.conv H (e := 5) (cs := ((decD (xs.take k)).2 ++ ((xs.drop k).take q)).map byteV) (by kernel_rfl) (by kernel_rfl) rfl rfl (by kernel_rfl) (by kernel_rfl) ?_
    clear H; intro _ w2 H
    obtain ⟨F, le, hw2, H⟩ := H.freezeK 0 rfl
    dsimp only [setL, delL] at H
    replace le0 := fun b y h => le b y (le0 b y h)
    replace le1 := fun b y h => le b y (le1 b y h)
    rw [List.length_map] at hw2
    have hbl : ((decD (xs.take k)).2 ++ (xs.drop k).take q).length ≤ 2000 := by rw [List.length_append]; omega
    refine RW.cl ?_
    refine ((decg_wc (hU.le le0) h16 hw2 (by omega) H).mono ?_)
    clear H
    rintro _ _ ⟨e1, r1, rfl, hnr1, H⟩
    obtain ⟨F, lea, he1, H⟩ := H.freezeK 0 rfl
    dsimp only [setL, delL] at H
    obtain ⟨F, leb, hr1, H⟩ := H.freezeK 0 rfl
    dsimp only [setL, delL] at H
    replace he1 := he1.le leb
    replace le0 := fun b y h => leb b y (lea b y (le0 b y h))
    replace le1 := fun b y h => leb b y (lea b y (le1 b y h))
    iterate 5 refine RW.v ?_
    refine RW.nil ?_
    refine W.rg [(0, .string ⟨xs.toArray⟩), (1, v2), (5, all), (6, rest), (7, u), (9, .int .i64 ((i : Nat) : Int)), (10, .string ⟨(xs.drop k).toArray⟩), (11, .int .i64 (1 + (pickOf (l.getD (i % l.length) 0) ((xs.drop k).length : Int)))), (12, e1), (13, r1)] fun TA => ?_
    refine W.drawn (by kernel_rfl) (by kernel_rfl) H.gn ?_
    have H9 := H
    by_cases her1 : (decD ((decD (xs.take k)).2 ++ (xs.drop k).take q)).2 = []
    ·have hrr1 := hnr1 her1
     subst hrr1
     iterate 2 refine RW.v ?_
     have hef := decD_few _ ((decD (xs.take k)).2 ++ (xs.drop k).take q) (Nat.le_refl _)
     refine RW.appFD H9 0 (e2 := 3) he1.slf (by kernel_rfl) (by kernel_rfl) rfl rfl rfl rfl rfl rfl rfl (.inl rfl) (by kernel_rfl) (by kernel_rfl) (by kernel_rfl) (by decide) (ints_ones _) (by omega) (by kernel_rfl) ?_
     intro _ v10 H11
     dsimp only [setL, delL] at H11
     refine RW.v ?_
     refine RW.valE (v' := .string ⟨(decD ((decD (xs.take k)).2 ++ (xs.drop k).take q)).2.toArray⟩) (by kernel_rfl) (by kernel_rfl) (by kernel_rfl) (show Value.string ByteArray.empty = .string ⟨(decD ((decD (xs.take k)).2 ++ (xs.drop k).take q)).2.toArray⟩ from by rw [her1]; exact rfl) (by kernel_rfl) ?_
     iterate 2 refine RW.v ?_
     refine RW.vop (v := .string ⟨((xs.drop k).drop q).toArray⟩) (by kernel_rfl) (by kernel_rfl) (vop_sTailL (a := (xs.drop k)) (j := q) rfl rfl (congrArg (Value.int .i64) hq.symm) Tryd.underlying9 (by omega)) (by kernel_rfl) ?_
     iterate 3 refine RW.v ?_
     refine RW.nil ?_
     refine ⟨⟨by kernel_rfl, ⟨trivial, trivial, trivial, trivial, trivial, trivial, trivial, trivial, trivial, trivial, trivial, trivial⟩⟩, ?_⟩
     replace H := H11
     clear H9 H11
     refine blkQ_normal ?_
     refine W.rg [(0, .string ⟨xs.toArray⟩), (1, v2), (5, all), (6, rest), (7, v10), (8, .string ⟨((decD ((decD (xs.take k)).2 ++ (xs.drop k).take q)).2).toArray⟩), (9, .int .i64 ((i : Nat) : Int)), (10, .string ⟨((xs.drop k).drop q).toArray⟩)] fun TA => ?_
     refine W.region ?_
     refine RW.v ?_
     refine RW.valE (v' := .int .i64 (((i : Nat) : Int) + 1)) (by kernel_rfl) (by kernel_rfl) rfl (congrArg (Value.int .i64) (wrap_in (by omega) (by omega))) (by kernel_rfl) ?_
     refine RW.v ?_
     refine RW.nil ?_
     have hD2 : decD (xs.take (k + q)) = ((decD (xs.take k)).1 ++ (decD ((decD (xs.take k)).2 ++ (xs.drop k).take q)).1, (decD ((decD (xs.take k)).2 ++ (xs.drop k).take q)).2) := by rw [List.take_add]; exact decD_app _ _ (xs.take k) (Nat.le_refl _)
     exact ⟨rfl, mm - q, by omega, k + q, i + 1, F, v10, (by omega), (by omega), (by omega), le0, le1, (by rw [hD2, List.length_append, List.map_append]; exact H), rfl, rfl, rfl, rfl, rfl, (by rw [hD2]; first | done | exact rfl), rfl, (by rw [← List.drop_drop]; first | done | exact rfl)⟩
    ·refine RW.v ?_
     refine RW.v ?_
     have hef := decD_few _ ((decD (xs.take k)).2 ++ (xs.drop k).take q) (Nat.le_refl _)
     refine RW.appFD H9 0 (e2 := 3) he1.slf (by kernel_rfl) (by kernel_rfl) rfl rfl rfl rfl rfl rfl rfl (.inl rfl) (by kernel_rfl) (by kernel_rfl) (by kernel_rfl) (by decide) (ints_ones _) (by omega) (by kernel_rfl) ?_
     intro _ v12 H13
     dsimp only [setL, delL] at H13
     refine RW.v ?_
     refine RW.back H13 (e := 5) hr1.slf her1 (by kernel_rfl) (by kernel_rfl) rfl rfl (by kernel_rfl) (by kernel_rfl) (by kernel_rfl) (by kernel_rfl) ?_
     intro _ _ _ hFB14 hEB15
     iterate 2 refine RW.v ?_
     refine RW.vop (v := .string ⟨((xs.drop k).drop q).toArray⟩) (by kernel_rfl) (by kernel_rfl) (vop_sTailL (a := (xs.drop k)) (j := q) rfl rfl (congrArg (Value.int .i64) hq.symm) Tryd.underlying9 (by omega)) (by kernel_rfl) ?_
     iterate 3 refine RW.v ?_
     refine RW.nil ?_
     refine ⟨⟨by kernel_rfl, ⟨trivial, trivial, trivial, trivial, dyn_row (H13.old _ _ hFB14) (H13.old _ _ hFB14) ⟨fun h => Bool.noConfusion h, fun h => Bool.noConfusion h, fun _ => H9.old _ _ hFB14, fun h => Bool.noConfusion h, fun h => Bool.noConfusion h, fun h => Bool.noConfusion h, fun h => Bool.noConfusion h, fun h => Bool.noConfusion h, fun h => Bool.noConfusion h, fun h => Bool.noConfusion h, fun h => Bool.noConfusion h, trivial⟩, trivial, trivial, trivial, trivial, trivial, trivial, trivial⟩⟩, ?_⟩
     replace H := H13
     clear H9 H13
     refine blkQ_normal ?_
     refine W.rg [(0, .string ⟨xs.toArray⟩), (1, v2), (5, all), (6, rest), (7, v12), (8, .string ⟨((decD ((decD (xs.take k)).2 ++ (xs.drop k).take q)).2).toArray⟩), (9, .int .i64 ((i : Nat) : Int)), (10, .string ⟨((xs.drop k).drop q).toArray⟩)] fun TA => ?_
     refine W.region ?_
     refine RW.v ?_
     refine RW.valE (v' := .int .i64 (((i : Nat) : Int) + 1)) (by kernel_rfl) (by kernel_rfl) rfl (congrArg (Value.int .i64) (wrap_in (by omega) (by omega))) (by kernel_rfl) ?_
     refine RW.v ?_
     refine RW.nil ?_
     have hD2 : decD (xs.take (k + q)) = ((decD (xs.take k)).1 ++ (decD ((decD (xs.take k)).2 ++ (xs.drop k).take q)).1, (decD ((decD (xs.take k)).2 ++ (xs.drop k).take q)).2) := by rw [List.take_add]; exact decD_app _ _ (xs.take k) (Nat.le_refl _)
     exact ⟨rfl, mm - q, by omega, k + q, i + 1, F, v12, (by omega), (by omega), (by omega), le0, le1, (by rw [hD2, List.length_append, List.map_append]; exact H), rfl, rfl, rfl, rfl, rfl, (by rw [hD2]; first | done | exact rfl), rfl, (by rw [← List.drop_drop]; first | done | exact rfl)⟩
   ·have hc3b := hc3
    have hc3 := of_decide_eq_false hc3
    refine W.skip ?_
    refine W.seq (W.region ?_)
    iterate 3 refine RW.v ?_
    obtain ⟨q, hq⟩ : ∃ q : Nat, ((q : Nat) : Int) = ((xs.drop k).length : Int) := ⟨(((xs.drop k).length : Int)).toNat, by omega⟩
    have hq1 : 1 ≤ q := by omega
    have hq2 : q ≤ xs.length - k := by omega
    have hpl : ((xs.drop k).take q).length = q := by rw [List.length_take]; omega
    refine RW.vop (v := .string ⟨((xs.drop k).take q).toArray⟩) (by kernel_rfl) (by kernel_rfl) (vop_sHeadL (a := (xs.drop k)) (j := q) rfl rfl (congrArg (Value.int .i64) hq.symm) Tryd.underlying9 (by omega)) (by kernel_rfl) ?_
    refine RW.vop (v := .string ⟨((decD (xs.take k)).2 ++ ((xs.drop k).take q)).toArray⟩) (by kernel_rfl) (by kernel_rfl) (vop_sAddL (a := (decD (xs.take k)).2) (b := ((xs.drop k).take q)) rfl rfl rfl (by omega)) (by kernel_rfl) ?_
    refine RW.conv H (e := 5) (cs := ((decD (xs.take k)).2 ++ ((xs.drop k).take q)).map byteV) (by kernel_rfl) (by kernel_rfl) rfl rfl (by kernel_rfl) (by kernel_rfl) ?_
    clear H; intro _ w2 H
    obtain ⟨F, le, hw2, H⟩ := H.freezeK 0 rfl
    dsimp only [setL, delL] at H
    replace le0 := fun b y h => le b y (le0 b y h)
    replace le1 := fun b y h => le b y (le1 b y h)
    rw [List.length_map] at hw2
    have hbl : ((decD (xs.take k)).2 ++ (xs.drop k).take q).length ≤ 2000 := by rw [List.length_append]; omega
    refine RW.cl ?_
    refine ((decg_wc (hU.le le0) h16 hw2 (by omega) H).mono ?_)
    clear H
    rintro _ _ ⟨e1, r1, rfl, hnr1, H⟩
    obtain ⟨F, lea, he1, H⟩ := H.freezeK 0 rfl
    dsimp only [setL, delL] at H
    obtain ⟨F, leb, hr1, H⟩ := H.freezeK 0 rfl
    dsimp only [setL, delL] at H
    replace he1 := he1.le leb
    replace le0 := fun b y h => leb b y (lea b y (le0 b y h))
    replace le1 := fun b y h => leb b y (lea b y (le1 b y h))
    iterate 5 refine RW.v ?_
    refine RW.nil ?_
    refine W.rg [(0, .string ⟨xs.toArray⟩), (1, v2), (5, all), (6, rest), (7, u), (9, .int .i64 ((i : Nat) : Int)), (10, .string ⟨(xs.drop k).toArray⟩), (11, .int .i64 ((xs.drop k).length : Int)), (12, e1), (13, r1)] fun TA => ?_
    refine W.drawn (by kernel_rfl) (by kernel_rfl) H.gn ?_
    have H16 := H
    by_cases her1 : (decD ((decD (xs.take k)).2 ++ (xs.drop k).take q)).2 = []
    ·have hrr1 := hnr1 her1
     subst hrr1
     iterate 2 refine RW.v ?_
     have hef := decD_few _ ((decD (xs.take k)).2 ++ (xs.drop k).take q) (Nat.le_refl _)
     refine RW.appFD H16 0 (e2 := 3) he1.slf (by kernel_rfl) (by kernel_rfl) rfl rfl rfl rfl rfl rfl rfl (.inl rfl) (by kernel_rfl) (by kernel_rfl) (by kernel_rfl) (by decide) (ints_ones _) (by omega) (by kernel_rfl) ?_
     intro _ v17 H18
     dsimp only [setL, delL] at H18
     refine RW.v ?_
     refine RW.valE (v' := .string ⟨(decD ((decD (xs.take k)).2 ++ (xs.drop k).take q)).2.toArray⟩) (by kernel_rfl) (by kernel_rfl) (by kernel_rfl) (show Value.string ByteArray.empty = .string ⟨(decD ((decD (xs.take k)).2 ++ (xs.drop k).take q)).2.toArray⟩ from by rw [her1]; exact rfl) (by kernel_rfl) ?_
     iterate 2 refine RW.v ?_
     refine RW.vop (v := .string ⟨((xs.drop k).drop q).toArray⟩) (by kernel_rfl) (by kernel_rfl) (vop_sTailL (a := (xs.drop k)) (j := q) rfl rfl (congrArg (Value.int .i64) hq.symm) Tryd.underlying9 (by omega)) (by kernel_rfl) ?_
     iterate 3 refine RW.v ?_
     refine RW.nil ?_
     refine ⟨⟨by kernel_rfl, ⟨trivial, trivial, trivial, trivial, trivial, trivial, trivial, trivial, trivial, trivial, trivial, trivial⟩⟩, ?_⟩
     replace H := H18
     clear H16 H18
     refine blkQ_normal ?_
     refine W.rg [(0, .string ⟨xs.toArray⟩), (1, v2), (5, all), (6, rest), (7, v17), (8, .string ⟨((decD ((decD (xs.take k)).2 ++ (xs.drop k).take q)).2).toArray⟩), (9, .int .i64 ((i : Nat) : Int)), (10, .string ⟨((xs.drop k).drop q).toArray⟩)] fun TA => ?_
     refine W.region ?_
     refine RW.v ?_
     refine RW.valE (v' := .int .i64 (((i : Nat) : Int) + 1)) (by kernel_rfl) (by kernel_rfl) rfl (congrArg (Value.int .i64) (wrap_in (by omega) (by omega))) (by kernel_rfl) ?_
     refine RW.v ?_
     refine RW.nil ?_
     have hD2 : decD (xs.take (k + q)) = ((decD (xs.take k)).1 ++ (decD ((decD (xs.take k)).2 ++ (xs.drop k).take q)).1, (decD ((decD (xs.take k)).2 ++ (xs.drop k).take q)).2) := by rw [List.take_add]; exact decD_app _ _ (xs.take k) (Nat.le_refl _)
     exact ⟨rfl, mm - q, by omega, k + q, i + 1, F, v17, (by omega), (by omega), (by omega), le0, le1, (by rw [hD2, List.length_append, List.map_append]; exact H), rfl, rfl, rfl, rfl, rfl, (by rw [hD2]; first | done | exact rfl), rfl, (by rw [← List.drop_drop]; first | done | exact rfl)⟩
    ·refine RW.v ?_
     refine RW.v ?_
     have hef := decD_few _ ((decD (xs.take k)).2 ++ (xs.drop k).take q) (Nat.le_refl _)
     refine RW.appFD H16 0 (e2 := 3) he1.slf (by kernel_rfl) (by kernel_rfl) rfl rfl rfl rfl rfl rfl rfl (.inl rfl) (by kernel_rfl) (by kernel_rfl) (by kernel_rfl) (by decide) (ints_ones _) (by omega) (by kernel_rfl) ?_
     intro _ v19 H20
     dsimp only [setL, delL] at H20
     refine RW.v ?_
     refine RW.back H20 (e := 5) hr1.slf her1 (by kernel_rfl) (by kernel_rfl) rfl rfl (by kernel_rfl) (by kernel_rfl) (by kernel_rfl) (by kernel_rfl) ?_
     intro _ _ _ hFB21 hEB22
     iterate 2 refine RW.v ?_
     refine RW.vop (v := .string ⟨((xs.drop k).drop q).toArray⟩) (by kernel_rfl) (by kernel_rfl) (vop_sTailL (a := (xs.drop k)) (j := q) rfl rfl (congrArg (Value.int .i64) hq.symm) Tryd.underlying9 (by omega)) (by kernel_rfl) ?_
     iterate 3 refine RW.v ?_
     refine RW.nil ?_
     refine ⟨⟨by kernel_rfl, ⟨trivial, trivial, trivial, trivial, dyn_row (H20.old _ _ hFB21) (H20.old _ _ hFB21) ⟨fun h => Bool.noConfusion h, fun h => Bool.noConfusion h, fun _ => H16.old _ _ hFB21, fun h => Bool.noConfusion h, fun h => Bool.noConfusion h, fun h => Bool.noConfusion h, fun h => Bool.noConfusion h, fun h => Bool.noConfusion h, fun h => Bool.noConfusion h, fun h => Bool.noConfusion h, fun h => Bool.noConfusion h, trivial⟩, trivial, trivial, trivial, trivial, trivial, trivial, trivial⟩⟩, ?_⟩
     replace H := H20
     clear H16 H20
     refine blkQ_normal ?_
     refine W.rg [(0, .string ⟨xs.toArray⟩), (1, v2), (5, all), (6, rest), (7, v19), (8, .string ⟨((decD ((decD (xs.take k)).2 ++ (xs.drop k).take q)).2).toArray⟩), (9, .int .i64 ((i : Nat) : Int)), (10, .string ⟨((xs.drop k).drop q).toArray⟩)] fun TA => ?_
     refine W.region ?_
     refine RW.v ?_
     refine RW.valE (v' := .int .i64 (((i : Nat) : Int) + 1)) (by kernel_rfl) (by kernel_rfl) rfl (congrArg (Value.int .i64) (wrap_in (by omega) (by omega))) (by kernel_rfl) ?_
     refine RW.v ?_
     refine RW.nil ?_
     have hD2 : decD (xs.take (k + q)) = ((decD (xs.take k)).1 ++ (decD ((decD (xs.take k)).2 ++ (xs.drop k).take q)).1, (decD ((decD (xs.take k)).2 ++ (xs.drop k).take q)).2) := by rw [List.take_add]; exact decD_app _ _ (xs.take k) (Nat.le_refl _)
     exact ⟨rfl, mm - q, by omega, k + q, i + 1, F, v19, (by omega), (by omega), (by omega), le0, le1, (by rw [hD2, List.length_append, List.map_append]; exact H), rfl, rfl, rfl, rfl, rfl, (by rw [hD2]; first | done | exact rfl), rfl, (by rw [← List.drop_drop]; first | done | exact rfl)⟩
  ·have hc2b := hc2
   have hc2 := of_decide_eq_false hc2
   refine W.exit _ ?_
   refine seqQ_exit ?_
   refine rndQ_exit ?_
   have hkx : xs.take k = xs := List.take_of_length_le (by omega)
   rw [hkx] at H
   refine blkQ_here ?_
   refine W.seq ?_
   refine W.seq (W.region ?_)
   refine RW.v ?_
   refine RW.nil ?_
   refine W.rg [(0, .string ⟨xs.toArray⟩), (5, all), (6, rest), (7, u), (8, .string ⟨((decD (xs.take k)).2).toArray⟩), (14, .int .i64 0)] fun TA => ?_
   refine W.block ?_
   refine W.loop (fun mm2 ta σ => ∃ (i2 : Nat), (mm2 + i2 = (decD xs).1.length) ∧ Lies G Abs.no F σ (.sl 3 1 u ((decD xs).1.length) ((decD xs).1.map (Value.int .i64)) :: ([])) ∧ ta 0 = .string ⟨xs.toArray⟩ ∧ ta 5 = all ∧ ta 6 = rest ∧ ta 7 = u ∧ ta 8 = .string ⟨((decD (xs.take k)).2).toArray⟩ ∧ ta 14 = .int .i64 ((i2 : Nat) : Int)) ((decD xs).1.length) ?_ ?_
   ·exact ⟨0, (by omega), H, rfl, rfl, rfl, rfl, rfl, rfl⟩
   clear H
   rintro mm2 ta _ ⟨i2, hm2, H, e0, e5, e6, e7, e8, e14⟩
   refine W.rst [(0, .string ⟨xs.toArray⟩), (5, all), (6, rest), (7, u), (8, .string ⟨((decD (xs.take k)).2).toArray⟩), (14, .int .i64 ((i2 : Nat) : Int))] ⟨e0, e5, e6, e7, e8, e14, trivial⟩ fun TA => ?_
   clear e0 e5 e6 e7 e8 e14
   refine W.seq ?_
   refine W.seq (W.region ?_)
   iterate 2 refine RW.v ?_
   refine RW.len (by kernel_rfl) (by kernel_rfl) rfl rfl rfl rfl ((hall.le le1).slf.len (e := 3) (by kernel_rfl)) (by kernel_rfl) ?_
   refine RW.v ?_
   refine RW.nil ?_
   refine W.rg [(0, .string ⟨xs.toArray⟩), (5, all), (6, rest), (7, u), (8, .string ⟨((decD (xs.take k)).2).toArray⟩), (14, .int .i64 ((i2 : Nat) : Int)), (70, .bool (decide (((i2 : Nat) : Int) < ((decD xs).1.length : Int))))] fun TA => ?_
   refine W.cond rfl (fun hc23 => ?_) (fun hc23 => ?_)
   ·have hc23b := hc23
    have hc23 := of_decide_eq_true hc23
    refine W.skip ?_
    refine W.seq ?_
    refine W.block ?_
    refine W.seq (W.region ?_)
    iterate 2 refine RW.v ?_
    refine RW.idxF (hall.le le1).slf (by kernel_rfl) (by kernel_rfl) rfl Tryd.underlying31 (by kernel_rfl) rfl rfl ⟨by omega, by omega⟩ (by kernel_rfl) ?_
    intro b24 q25 r26 hF27 hE28
    rw [ints_at (l := (decD xs).1) (j := i2) (by omega)] at hE28
    refine RW.loads 1 (by kernel_rfl) (by kernel_rfl) rfl rfl (H.old _ _ hF27) hE28 rfl (by kernel_rfl) ?_
    have hil2 : i2 < (decD xs).1.length := by omega
    have hge : GoodE (((decD xs).1).getD i2 0) := decD_good _ xs (Nat.le_refl _) _ (getI_mem hil2)
    refine RW.cl ?_
    refine ((valid_good hge _).mono ?_)
    rintro _ _ ⟨rfl, rfl⟩
    refine RW.v ?_
    refine RW.nil ?_
    refine W.c0 ?_
    refine W.skip ?_
    refine blkQ_normal ?_
    refine W.region ?_
    refine RW.v ?_
    refine RW.valE (v' := .int .i64 (((i2 : Nat) : Int) + 1)) (by kernel_rfl) (by kernel_rfl) rfl (congrArg (Value.int .i64) (wrap_in (by omega) (by omega))) (by kernel_rfl) ?_
    refine RW.v ?_
    refine RW.nil ?_
    exact ⟨rfl, mm2 - 1, by omega, i2 + 1, (by omega), H, rfl, rfl, rfl, rfl, rfl, rfl⟩
   ·have hc23b := hc23
    have hc23 := of_decide_eq_false hc23
    refine W.exit _ ?_
    refine seqQ_exit ?_
    refine rndQ_exit ?_
    refine blkQ_here ?_
    refine W.seq (W.region ?_)
    refine RW.v ?_
    refine RW.conv H (e := 5) (cs := xs.map byteV) (by kernel_rfl) (by kernel_rfl) rfl rfl (by kernel_rfl) (by kernel_rfl) ?_
    clear H; intro _ w3 H
    obtain ⟨F, le, hw3, H⟩ := H.freezeK 0 rfl
    dsimp only [setL, delL] at H
    replace le0 := fun b y h => le b y (le0 b y h)
    replace le1 := fun b y h => le b y (le1 b y h)
    rw [List.length_map] at hw3
    refine RW.cl ?_
    refine ((dect_wc (hU.le le0) h16 hw3 (by omega) H).mono ?_)
    clear H
    rintro _ _ ⟨u3, rfl, H⟩
    iterate 5 refine RW.v ?_
    refine RW.nil ?_
    refine W.rg [(0, .string ⟨xs.toArray⟩), (5, all), (6, rest), (7, u), (8, .string ⟨((decD (xs.take k)).2).toArray⟩), (16, .slice none 0 0)] fun TA => ?_
    refine W.seq ?_
    refine W.drawn (by kernel_rfl) (by kernel_rfl) H.gn ?_
    have H29 := H
    by_cases herest : (decD xs).2 = []
    ·have hrrest := hnrest herest
     subst hrrest
     iterate 2 refine RW.v ?_
     refine RW.cl ?_
     refine ((same_intK (l := (decD xs).1) ((hall.le le1).slf.le H29.old) (gr_slk (H29.sl 0 rfl)).slf (by omega) (Lies.start H29.gn H29.abs)).mono ?_)
     rintro _ _ ⟨rfl, K30⟩
     have H31 : Lies G (Abs.no) F _ (.sl 3 1 u ((decD xs).1.length) ((decD xs).1.map (Value.int .i64)) :: ([])) := Lies.then H29 K30
     refine RW.v ?_
     refine RW.val (by rfl) (by kernel_rfl) rfl (by kernel_rfl) ?_
     refine RW.val (by rfl) (by kernel_rfl) rfl (by kernel_rfl) ?_
     refine RW.valE (v' := .string ⟨(decD xs).2.toArray⟩) (by rfl) (by kernel_rfl) (by kernel_rfl) (show Value.string ByteArray.empty = .string ⟨(decD xs).2.toArray⟩ from by rw [herest]; exact rfl) (by kernel_rfl) ?_
     refine RW.vop (v := .bool true) (by rfl) (by kernel_rfl) (vop_sEq rfl rfl rfl (by show (_ == _) = true; rw [hkx]; exact beq_self_eq_true _)) (by kernel_rfl) ?_
     iterate 2 refine RW.v ?_
     refine RW.val (by rfl) (by kernel_rfl) rfl (by kernel_rfl) ?_
     refine RW.val (by rfl) (by kernel_rfl) rfl (by kernel_rfl) ?_
     refine RW.val (by rfl) (by kernel_rfl) rfl (by kernel_rfl) ?_
     refine RW.vop (v := .int .i64 (xs.length : Int)) (by rfl) (by kernel_rfl) (vop_sLenL rfl rfl rfl rfl Tryd.underlying9 rfl) (by kernel_rfl) ?_
     refine RW.valE (v' := .bool true) (by rfl) (by kernel_rfl) rfl (congrArg Value.bool (decide_eq_true (by omega))) (by kernel_rfl) ?_
     iterate 2 refine RW.v ?_
     refine RW.val (by rfl) (by kernel_rfl) rfl (by kernel_rfl) ?_
     refine RW.val (by rfl) (by kernel_rfl) rfl (by kernel_rfl) ?_
     refine RW.vop (v := .int .i64 (xs.length : Int)) (by rfl) (by kernel_rfl) (vop_sLenL rfl rfl rfl rfl Tryd.underlying9 rfl) (by kernel_rfl) ?_
     refine RW.val (by rfl) (by kernel_rfl) rfl (by kernel_rfl) ?_
     refine RW.val (by rfl) (by kernel_rfl) rfl (by kernel_rfl) ?_
     refine RW.valE (v' := .int .i64 ((xs.length : Int) - 0)) (by rfl) (by kernel_rfl) rfl (congrArg (Value.int .i64) (wrap_in (by omega) (by omega))) (by kernel_rfl) ?_
     refine RW.vop (v := .string ⟨(xs.drop (((xs.length : Int) - 0).toNat)).toArray⟩) (by rfl) (by kernel_rfl) (vop_sTailL (a := xs) (j := ((xs.length : Int) - 0).toNat) rfl rfl (congrArg (Value.int .i64) (show (xs.length : Int) - 0 = ((((xs.length : Int) - 0).toNat : Nat) : Int) by omega)) Tryd.underlying9 (by omega)) (by kernel_rfl) ?_
     refine RW.val (by rfl) (by kernel_rfl) rfl (by kernel_rfl) ?_
     refine RW.valE (v' := .string ⟨(decD xs).2.toArray⟩) (by rfl) (by kernel_rfl) (by kernel_rfl) (show Value.string ByteArray.empty = .string ⟨(decD xs).2.toArray⟩ from by rw [herest]; exact rfl) (by kernel_rfl) ?_
     refine RW.vop (v := .bool true) (by rfl) (by kernel_rfl) (vop_sEq rfl rfl rfl (by show (_ == _) = true; exact beq_iff_eq.2 (hsuf _ (by rw [herest]; show _ = xs.length - 0; omega)))) (by kernel_rfl) ?_
     iterate 2 refine RW.v ?_
     refine RW.val (by rfl) (by kernel_rfl) rfl (by kernel_rfl) ?_
     refine RW.val (by rfl) (by kernel_rfl) rfl (by kernel_rfl) ?_
     refine RW.val (by rfl) (by kernel_rfl) rfl (by kernel_rfl) ?_
     iterate 2 refine RW.v ?_
     refine RW.nil ?_
     refine ⟨⟨by kernel_rfl, ⟨trivial, trivial, trivial, trivial, trivial, trivial, trivial, trivial, trivial, trivial, trivial, trivial, trivial, trivial, trivial, trivial, trivial, trivial, trivial, trivial, trivial, trivial, trivial, trivial, trivial, trivial, trivial, trivial, trivial, trivial, trivial, trivial, trivial, trivial, trivial⟩⟩, ?_⟩
     replace H := H31
     clear H29 H31
     replace H := (H.del 0)
     dsimp only [setL, delL] at H
     refine W.ret ?_
     refine endG (by rfl) (by exact resL_tmp rfl) ?_
     exact rfl
    ·refine RW.v ?_
     refine RW.v ?_
     refine RW.cl ?_
     refine ((same_intK (l := (decD xs).1) ((hall.le le1).slf.le H29.old) (gr_slk (H29.sl 0 rfl)).slf (by omega) (Lies.start H29.gn H29.abs)).mono ?_)
     rintro _ _ ⟨rfl, K32⟩
     have H33 : Lies G (Abs.no) F _ (.sl 3 1 u ((decD xs).1.length) ((decD xs).1.map (Value.int .i64)) :: ([])) := Lies.then H29 K32
     refine RW.v ?_
     refine RW.val (by rfl) (by kernel_rfl) rfl (by kernel_rfl) ?_
     refine RW.val (by rfl) (by kernel_rfl) rfl (by kernel_rfl) ?_
     refine RW.back H33 (e := 5) (hrest.le le1).slf herest (by rfl) (by kernel_rfl) rfl rfl (by kernel_rfl) (by kernel_rfl) (by kernel_rfl) (by kernel_rfl) ?_
     intro _ _ _ hFB34 hEB35
     refine RW.vop (v := .bool true) (by rfl) (by kernel_rfl) (vop_sEq rfl rfl rfl (by show (_ == _) = true; rw [hkx]; exact beq_self_eq_true _)) (by kernel_rfl) ?_
     iterate 2 refine RW.v ?_
     refine RW.val (by rfl) (by kernel_rfl) rfl (by kernel_rfl) ?_
     refine RW.len (by rfl) (by kernel_rfl) rfl rfl rfl rfl ((hrest.le le1).slf.len (e := 5) (by kernel_rfl)) (by kernel_rfl) ?_
     refine RW.val (by rfl) (by kernel_rfl) rfl (by kernel_rfl) ?_
     refine RW.vop (v := .int .i64 (xs.length : Int)) (by rfl) (by kernel_rfl) (vop_sLenL rfl rfl rfl rfl Tryd.underlying9 rfl) (by kernel_rfl) ?_
     refine RW.valE (v' := .bool true) (by rfl) (by kernel_rfl) rfl (congrArg Value.bool (decide_eq_true (by omega))) (by kernel_rfl) ?_
     iterate 2 refine RW.v ?_
     refine RW.val (by rfl) (by kernel_rfl) rfl (by kernel_rfl) ?_
     refine RW.val (by rfl) (by kernel_rfl) rfl (by kernel_rfl) ?_
     refine RW.vop (v := .int .i64 (xs.length : Int)) (by rfl) (by kernel_rfl) (vop_sLenL rfl rfl rfl rfl Tryd.underlying9 rfl) (by kernel_rfl) ?_
     refine RW.val (by rfl) (by kernel_rfl) rfl (by kernel_rfl) ?_
     refine RW.len (by rfl) (by kernel_rfl) rfl rfl rfl rfl ((hrest.le le1).slf.len (e := 5) (by kernel_rfl)) (by kernel_rfl) ?_
     refine RW.valE (v' := .int .i64 ((xs.length : Int) - ((decD xs).2.length : Int))) (by rfl) (by kernel_rfl) rfl (congrArg (Value.int .i64) (wrap_in (by omega) (by omega))) (by kernel_rfl) ?_
     refine RW.vop (v := .string ⟨(xs.drop (((xs.length : Int) - ((decD xs).2.length : Int)).toNat)).toArray⟩) (by rfl) (by kernel_rfl) (vop_sTailL (a := xs) (j := ((xs.length : Int) - ((decD xs).2.length : Int)).toNat) rfl rfl (congrArg (Value.int .i64) (show (xs.length : Int) - ((decD xs).2.length : Int) = ((((xs.length : Int) - ((decD xs).2.length : Int)).toNat : Nat) : Int) by omega)) Tryd.underlying9 (by omega)) (by kernel_rfl) ?_
     refine RW.val (by rfl) (by kernel_rfl) rfl (by kernel_rfl) ?_
     refine RW.back H33 (e := 5) (hrest.le le1).slf herest (by rfl) (by kernel_rfl) rfl rfl (by kernel_rfl) (by kernel_rfl) (by kernel_rfl) (by kernel_rfl) ?_
     intro _ _ _ hFB36 hEB37
     refine RW.vop (v := .bool true) (by rfl) (by kernel_rfl) (vop_sEq rfl rfl rfl (by show (_ == _) = true; exact beq_iff_eq.2 (hsuf _ (by omega)))) (by kernel_rfl) ?_
     iterate 2 refine RW.v ?_
     refine RW.val (by rfl) (by kernel_rfl) rfl (by kernel_rfl) ?_
     refine RW.val (by rfl) (by kernel_rfl) rfl (by kernel_rfl) ?_
     refine RW.val (by rfl) (by kernel_rfl) rfl (by kernel_rfl) ?_
     iterate 2 refine RW.v ?_
     refine RW.nil ?_
     refine ⟨⟨by kernel_rfl, ⟨trivial, trivial, trivial, trivial, trivial, trivial, dyn_row (H33.old _ _ hFB34) (H33.old _ _ hFB34) ⟨fun h => Bool.noConfusion h, fun h => Bool.noConfusion h, fun _ => H29.old _ _ hFB34, fun h => Bool.noConfusion h, fun h => Bool.noConfusion h, fun h => Bool.noConfusion h, fun h => Bool.noConfusion h, fun h => Bool.noConfusion h, fun h => Bool.noConfusion h, fun h => Bool.noConfusion h, fun h => Bool.noConfusion h, fun h => Bool.noConfusion h, fun h => Bool.noConfusion h, fun h => Bool.noConfusion h, fun h => Bool.noConfusion h, fun h => Bool.noConfusion h, fun h => Bool.noConfusion h, fun h => Bool.noConfusion h, fun h => Bool.noConfusion h, fun h => Bool.noConfusion h, fun h => Bool.noConfusion h, fun h => Bool.noConfusion h, fun h => Bool.noConfusion h, fun h => Bool.noConfusion h, fun h => Bool.noConfusion h, fun h => Bool.noConfusion h, fun h => Bool.noConfusion h, fun h => Bool.noConfusion h, fun h => Bool.noConfusion h, fun h => Bool.noConfusion h, fun h => Bool.noConfusion h, fun h => Bool.noConfusion h, fun h => Bool.noConfusion h, fun h => Bool.noConfusion h, trivial⟩, trivial, trivial, trivial, trivial, trivial, trivial, trivial, trivial, trivial, trivial, trivial, trivial, trivial, trivial, trivial, trivial, trivial, trivial, dyn_row (H33.old _ _ hFB36) (H33.old _ _ hFB36) ⟨fun h => Bool.noConfusion h, fun h => Bool.noConfusion h, fun _ => H29.old _ _ hFB36, fun h => Bool.noConfusion h, fun h => Bool.noConfusion h, fun h => Bool.noConfusion h, fun h => Bool.noConfusion h, fun h => Bool.noConfusion h, fun h => Bool.noConfusion h, fun h => Bool.noConfusion h, fun h => Bool.noConfusion h, fun h => Bool.noConfusion h, fun h => Bool.noConfusion h, fun h => Bool.noConfusion h, fun h => Bool.noConfusion h, fun h => Bool.noConfusion h, fun h => Bool.noConfusion h, fun h => Bool.noConfusion h, fun h => Bool.noConfusion h, fun h => Bool.noConfusion h, fun h => Bool.noConfusion h, fun h => Bool.noConfusion h, fun h => Bool.noConfusion h, fun h => Bool.noConfusion h, fun h => Bool.noConfusion h, fun h => Bool.noConfusion h, fun h => Bool.noConfusion h, fun h => Bool.noConfusion h, fun h => Bool.noConfusion h, fun h => Bool.noConfusion h, fun h => Bool.noConfusion h, fun h => Bool.noConfusion h, fun h => Bool.noConfusion h, fun h => Bool.noConfusion h, trivial⟩, trivial, trivial, trivial, trivial, trivial, trivial, trivial, trivial, trivial⟩⟩, ?_⟩
     replace H := H33
     clear H29 H33
     replace H := (H.del 0)
     dsimp only [setL, delL] at H
     refine W.ret ?_
     refine endG (by rfl) (by exact resL_tmp rfl) ?_
     exact rfl
end Go.Proofs.YtpjpefcpbkmilaaDoor
